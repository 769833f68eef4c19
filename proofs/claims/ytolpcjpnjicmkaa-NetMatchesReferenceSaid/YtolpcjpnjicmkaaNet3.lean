/-
  Net: Send.
-/
import Derived.Test.YtolpcjpnjicmkaaNet2
set_option linter.unusedSimpArgs false
set_option linter.unusedVariables false
namespace Go.Proofs.Ytolpcjpnjicmkaa
open Go.RowKit Go.CH
open Go.ChangeMaps (setBlock)

def NetPost (w : World) (F : Nat → Prop) (p : Nat) (v : Value) (m : NetM) (e : Ending) (w' : World) : Prop :=
  e = .returned v ∧ ∃ F', Net w' F' m p ∧ Mod F w w' ∧ ∀ i, F' i → F i ∨ (w.heap.size ≤ i ∧ i < w'.heap.size)

def BelowRet (w : World) (v : Value) (e : Ending) (w' : World) : Prop := e = .returned v ∧ Below w.heap.size w w'

theorem NetPost.of_below {w : World} {F : Nat → Prop} {p : Nat} {v : Value} {m : NetM} (h : Net w F m p) {e : Ending} {w' : World} (hb : BelowRet w v e w') : NetPost w F p v m e w' :=
  ⟨hb.1, F, h.mod (G := fun _ => False) (Mod.of_below hb.2) (fun _ _ h => h), Mod.of_below hb.2, fun i hi => .inl hi⟩

theorem below_way {w : World} {a b : Int} {w1 : World} (hb : Below (w.alloc (.cells #[.int .i64 a, .int .i64 b] 58)).heap.size (w.alloc (.cells #[.int .i64 a, .int .i64 b] 58)) w1) : Below w.heap.size w w1 :=
  ((Below.refl _ _).alloc (Nat.le_refl _) _).trans (hb.mono (by simp))

theorem Kn.below {w w1 : World} {pv : Value} {a b : Int} {kb : Bool} (h : Kn w pv a b kb) (hb : Below w.heap.size w w1) : Kn w1 pv a b kb := by
  rcases h with h | ⟨p, nodes, h1, h2, h3⟩
  · exact .inl h
  · exact .inr ⟨p, nodes, h1, (hb.cell (World.block_lt_of_cell? w _ h2)).trans h2, h3⟩

/-- knows, called in a world behind w. -/
theorem knows_at {w w1 : World} {pv : Value} {a b : Int} {kb : Bool} (h : Kn w pv a b kb) (hb : Below w.heap.size w w1) :
    Calls Try.prog 22 #[pv, .agg #[.int .i64 a, .int .i64 b]] w1 fun e w' => e = .returned (.bool kb) ∧ Below w1.heap.size w1 w' := knows_any (h.below hb)

theorem below_alloc (w : World) (o : Obj) : Below w.heap.size w (w.alloc o) := (Below.refl _ _).alloc (Nat.le_refl _) _

set_option maxHeartbeats 400000 in
theorem send_no (pv : Value) (a b : Int) (t : ByteArray) (w : World) (hk : Kn w pv a b false) :
    Calls Try.prog 11 #[pv, .int .i64 a, .int .i64 b, .string t] w (BelowRet w (.int .i64 1)) := by
  have H := hide hk; clear hk
  go_enter Try.func11, Try.ntmps11
  go_wp2_with (go_at_call 22; go_must (refine (knows_at H.out (below_alloc _ _)).mono ?_); rintro e w1 ⟨rfl, hb⟩)
  go_ret
  exact ⟨rfl, below_way hb⟩

set_option maxHeartbeats 400000 in
theorem send_long (pv : Value) (a b : Int) (t : ByteArray) (w : World) (hk : Kn w pv a b true) (ht : 20000 < t.size) :
    Calls Try.prog 11 #[pv, .int .i64 a, .int .i64 b, .string t] w (BelowRet w (.int .i64 1)) := by
  have H := hide hk; clear hk
  go_enter Try.func11, Try.ntmps11
  go_wp2_with (go_at_call 22; go_must (refine (knows_at H.out (below_alloc _ _)).mono ?_); rintro e w1 ⟨rfl, hb⟩)
  go_ret
  exact ⟨rfl, below_way hb⟩

/-- What the walk reads of a network. -/
theorem NetAt.cells {w : World} {F : Nat → Prop} {m : NetM} {p bq bc : Nat} {lq lc : List ((Int × Int) × Value)} {eq ec : Array MapEntry} {kq kc : Nat} (h : NetAt w F m p bq bc lq lc eq ec kq kc) :
    w.cell? ⟨p, 0, none⟩ = some (.int .i64 m.nodes) ∧ w.cell? ⟨p, 1, none⟩ = some (.map (some bq)) ∧ w.cell? ⟨p, 2, none⟩ = some (.map (some bc)) := by
  simp [World.cell?, h.blk]

theorem NetAt.mod {w w' : World} {F G : Nat → Prop} {m : NetM} {p bq bc : Nat} {lq lc : List ((Int × Int) × Value)} {eq ec : Array MapEntry} {kq kc : Nat} (h : NetAt w F m p bq bc lq lc eq ec kq kc) (g : Mod G w w') (hFG : ∀ i, F i → ¬ G i) : NetAt w' F m p bq bc lq lc eq ec kq kc := by
  have hb : ∀ i, F i → w'.heap[i]? = w.heap[i]? := fun i hi => g.block i (h.lt i hi) (hFG i hi)
  refine ⟨(hb p h.Fp).trans h.blk, (hb bq h.Fq).trans h.mq, (hb bc h.Fc).trans h.mc, h.hq, h.hc, h.ne, h.Fp, h.Fq, h.Fc, ⟨h.inn.cut, fun k => ?_, h.inn.len, h.inn.apart, h.inn.rowF⟩, fun i hi => Nat.lt_of_lt_of_le (h.lt i hi) g.size⟩
  obtain ⟨h1, h2⟩ := h.inn.row k
  refine ⟨h1, ?_⟩
  rcases h2 with h2 | ⟨gg, cap, cur, hv, h3, h4, h5⟩
  · exact .inl h2
  · exact .inr ⟨gg, cap, cur, hv, h3, (hb gg (h.inn.rowF k gg (by rw [hv]; rfl))).trans h4, h5⟩
theorem NetAt.below {w w' : World} {F : Nat → Prop} {m : NetM} {p bq bc : Nat} {lq lc : List ((Int × Int) × Value)} {eq ec : Array MapEntry} {kq kc : Nat} (h : NetAt w F m p bq bc lq lc eq ec kq kc) (g : Below w.heap.size w w') : NetAt w' F m p bq bc lq lc eq ec kq kc :=
  h.mod (G := fun _ => False) (Mod.of_below g) (fun _ _ h => h)
theorem NetAt.kn {w : World} {F : Nat → Prop} {m : NetM} {p bq bc : Nat} {lq lc : List ((Int × Int) × Value)} {eq ec : Array MapEntry} {kq kc : Nat} (h : NetAt w F m p bq bc lq lc eq ec kq kc) (a b : Int) : Kn w (.pointer (some ⟨p, 0, none⟩)) a b (knowsB m.nodes a b) :=
  .inr ⟨p, m.nodes, rfl, h.cells.1, rfl⟩
theorem NetAt.look_c {w : World} {F : Nat → Prop} {m : NetM} {p bq bc : Nat} {lq lc : List ((Int × Int) × Value)} {eq ec : Array MapEntry} {kq kc : Nat} (h : NetAt w F m p bq bc lq lc eq ec kq kc) (a b : Int) (n : Nat) :
    (Instr.lookup 54 (.map (some bc)) (.agg #[.int .i64 a, .int .i64 b]) false).run Try.prog (w.drewN n) = .ok (.bool (m.c (a, b))) (w.drewN n) :=
  (run_lookup (b := bc) keyOk Try.underlying54 zeroB h.hc (a, b) (w.drewN n) h.mc).trans (by have := h.inn.cut (a, b); unfold cv at this; rw [this])
theorem NetAt.look_q {w : World} {F : Nat → Prop} {m : NetM} {p bq bc : Nat} {lq lc : List ((Int × Int) × Value)} {eq ec : Array MapEntry} {kq kc : Nat} (h : NetAt w F m p bq bc lq lc eq ec kq kc) (a b : Int) (n : Nat) :
    (Instr.lookup 53 (.map (some bq)) (.agg #[.int .i64 a, .int .i64 b]) false).run Try.prog (w.drewN n) = .ok (qv lq (a, b)) (w.drewN n) :=
  run_lookup (b := bq) keyOk Try.underlying53 zeroS h.hq (a, b) (w.drewN n) h.mq

/-- A queue, as a slice. -/
theorem NetAt.slice {w : World} {F : Nat → Prop} {m : NetM} {p bq bc : Nat} {lq lc : List ((Int × Int) × Value)} {eq ec : Array MapEntry} {kq kc : Nat} (h : NetAt w F m p bq bc lq lc eq ec kq kc) (k : Int × Int) :
    ∃ A c, qv lq k = .slice A (m.q k).length c ∧ Src w A (m.q k).length 1 (strs (m.q k)) ∧ ∀ ad, A = some ad → F ad.block ∧ ad.off = 0 ∧ ad.spot = none ∧ (m.q k).length ≤ c := by
  have hr := h.inn.row k
  rcases hr.2 with ⟨h1, h2⟩ | ⟨g, cap, cur, h1, h2, h3, h4, _⟩
  · exact ⟨none, 0, by rw [h1, h2], by rw [h1] at hr; exact Src.of_own (c := 0) (by rw [h2] at hr ⊢; exact hr) (strs_one _), fun ad e => by cases e⟩
  · refine ⟨some ⟨g, 0, none⟩, cap, h1, ?_, fun ad e => ?_⟩
    · rw [h1] at hr; exact Src.of_own hr (strs_one _)
    · cases e; exact ⟨h.inn.rowF k g (by rw [h1]; rfl), rfl, rfl, h4⟩

/-- The cells of a pair in a new block, behind a call. -/
theorem way_cells {w w1 : World} {a b : Int} (hb : Below (w.alloc (.cells #[.int .i64 a, .int .i64 b] 58)).heap.size (w.alloc (.cells #[.int .i64 a, .int .i64 b] 58)) w1) :
    w1.cell? ⟨w.heap.size, 0, none⟩ = some (.int .i64 a) ∧ w1.cell? ⟨w.heap.size, 1, none⟩ = some (.int .i64 b) := by
  constructor
  · exact (hb.cell (p := ⟨w.heap.size, 0, none⟩) (by simp)).trans (by simp)
  · exact (hb.cell (p := ⟨w.heap.size, 1, none⟩) (by simp)).trans (by simp)

set_option maxHeartbeats 400000 in
theorem send_cut {w : World} {F : Nat → Prop} {m : NetM} {p bq bc : Nat} {lq lc : List ((Int × Int) × Value)} {eq ec : Array MapEntry} {kq kc : Nat} (h : NetAt w F m p bq bc lq lc eq ec kq kc) (a b : Int) (t : ByteArray)
    (hk : knowsB m.nodes a b = true) (ht : t.size ≤ 20000) (hc : m.c (a, b) = true) :
    Calls Try.prog 11 #[.pointer (some ⟨p, 0, none⟩), .int .i64 a, .int .i64 b, .string t] w (BelowRet w (.int .i64 29)) := by
  have H := hide h; have HK := hide hk; have HC := hide hc; clear hk hc h
  have hp : p < w.heap.size := H.out.lt p H.out.Fp
  go_enter Try.func11, Try.ntmps11
  go_wp2_with (go_at_call 22; go_must (refine (knows_at (HK.out ▸ H.out.kn a b) (below_alloc _ _)).mono ?_); rintro e w1 ⟨rfl, hb⟩)
  have HB := hide (below_way hb)
  have HN := hide (H.out.below HB.out)
  obtain ⟨-, hc1, hc2⟩ := HN.out.cells
  obtain ⟨hw0, hw1⟩ := way_cells hb
  have hlc := HN.out.look_c a b
  rw [HC.out] at hlc
  clear hb
  go_quiet (fail)
  go_wp2
  go_ret
  exact ⟨rfl, below_drewN HB.out _⟩

set_option maxHeartbeats 400000 in
theorem send_full {w : World} {F : Nat → Prop} {m : NetM} {p bq bc : Nat} {lq lc : List ((Int × Int) × Value)} {eq ec : Array MapEntry} {kq kc : Nat} (h : NetAt w F m p bq bc lq lc eq ec kq kc) (a b : Int) (t : ByteArray)
    (hk : knowsB m.nodes a b = true) (ht : t.size ≤ 20000) (hc : m.c (a, b) = false) (hfull : 100 ≤ (m.q (a, b)).length) :
    Calls Try.prog 11 #[.pointer (some ⟨p, 0, none⟩), .int .i64 a, .int .i64 b, .string t] w (BelowRet w (.int .i64 28)) := by
  have H := hide h; have HK := hide hk; have HC := hide hc; clear hk hc h
  have hp : p < w.heap.size := H.out.lt p H.out.Fp
  go_enter Try.func11, Try.ntmps11
  go_wp2_with (go_at_call 22; go_must (refine (knows_at (HK.out ▸ H.out.kn a b) (below_alloc _ _)).mono ?_); rintro e w1 ⟨rfl, hb⟩)
  have HB := hide (below_way hb)
  have HN := hide (H.out.below HB.out)
  obtain ⟨-, hc1, hc2⟩ := HN.out.cells
  obtain ⟨hw0, hw1⟩ := way_cells hb
  have hlc := HN.out.look_c a b
  rw [HC.out] at hlc
  have hlq := HN.out.look_q a b
  obtain ⟨A, c, hA, _, _⟩ := HN.out.slice (a, b)
  rw [hA] at hlq
  have HA := hide hA
  clear hb hA
  go_quiet (fail)
  go_wp2
  go_quiet (fail)
  go_wp2
  go_ret
  exact ⟨rfl, below_drewN (below_drewN HB.out _) _⟩

def sendM (m : NetM) (a b : Int) (t : ByteArray) : NetM := { m with q := upd m.q (a, b) (m.q (a, b) ++ [t]) }

theorem NetAt.row_ne {w : World} {F : Nat → Prop} {m : NetM} {p bq bc : Nat} {lq lc : List ((Int × Int) × Value)} {eq ec : Array MapEntry} {kq kc : Nat} (h : NetAt w F m p bq bc lq lc eq ec kq kc) (k : Int × Int) :
    (qv lq k).ownBlock ≠ some p ∧ (qv lq k).ownBlock ≠ some bq ∧ (qv lq k).ownBlock ≠ some bc := by
  rcases (h.inn.row k).2 with ⟨h1, _⟩ | ⟨g, cap, cur, h1, h2, h3, _⟩
  · rw [h1]; simp [Value.ownBlock]
  · rw [h1]
    simp only [Value.ownBlock, ne_eq, Option.some.injEq]
    refine ⟨?_, ?_, ?_⟩
    · rintro rfl; have := h.blk; rw [h3] at this; simp at this
    · rintro rfl; have := h.mq; rw [h3] at this; simp at this
    · rintro rfl; have := h.mc; rw [h3] at this; simp at this
theorem NetAt.ne_q {w : World} {F : Nat → Prop} {m : NetM} {p bq bc : Nat} {lq lc : List ((Int × Int) × Value)} {eq ec : Array MapEntry} {kq kc : Nat} (h : NetAt w F m p bq bc lq lc eq ec kq kc) : p ≠ bq ∧ p ≠ bc := by
  constructor
  · rintro rfl; have := h.blk; rw [h.mq] at this; simp at this
  · rintro rfl; have := h.blk; rw [h.mc] at this; simp at this

theorem qv_mput (lq : List ((Int × Int) × Value)) (k k' : Int × Int) (v : Value) : qv (mput lq k v) k' = if k' = k then v else qv lq k' := by
  unfold qv; rw [mget_mput]; split <;> rfl

/-- A queue is set: v1 owns the new list in w3; of w1's blocks only the map of queues and the old row may differ there. -/
theorem NetAt.set_q {w1 w3 : World} {F F2 : Nat → Prop} {m : NetM} {p bq bc : Nat} {lq lc : List ((Int × Int) × Value)} {eq ec : Array MapEntry} {kq kc : Nat} (h : NetAt w1 F m p bq bc lq lc eq ec kq kc) (k : Int × Int) {l : List ByteArray} (hl : l.length ≤ 100)
    {v1 : Value} (hown : w3.ownsRow 0 9 1 v1 l.length (strs l)) (hg : Mod (fun i => i = bq ∨ some i = (qv lq k).ownBlock) w1 w3)
    (hat : ∀ g, v1.ownBlock = some g → (qv lq k).ownBlock = some g ∨ w1.heap.size ≤ g)
    (hF : ∀ i, F i → F2 i) (hF2 : ∀ g, v1.ownBlock = some g → F2 g) (hlt : ∀ i, F2 i → i < w3.heap.size)
    {es2 : Array MapEntry} {clk2 : Nat} (he : Ents (pairV .i64) es2 clk2 (mput lq k v1)) :
    NetAt (setBlock w3 bq (.map es2 clk2)) F2 { m with q := upd m.q k l } p bq bc (mput lq k v1) lc es2 ec clk2 kc := by
  obtain ⟨r1, r2, r3⟩ := h.row_ne k
  have old : ∀ i, i < w1.heap.size → some i ≠ (qv lq k).ownBlock → i ≠ bq → (setBlock w3 bq (.map es2 clk2)).heap[i]? = w1.heap[i]? := fun i hi hr hq => by
    rw [heap_setBlock_ne (Ne.symm hq)]
    exact hg.block i hi (fun e => e.elim hq hr)
  have hbq2 : ∃ o, w3.heap[bq]? = some o := ⟨_, Array.getElem?_eq_getElem (Nat.lt_of_lt_of_le (h.lt bq h.Fq) hg.size)⟩
  obtain ⟨o, ho⟩ := hbq2
  have hvq : ∀ g, v1.ownBlock = some g → g ≠ bq := fun g hg1 => by
    rintro rfl
    rcases hat _ hg1 with e | e
    · exact r2 e
    · have := h.lt _ h.Fq; omega
  refine ⟨?_, heap_setBlock_self ho, ?_, he, h.hc, h.ne, hF _ h.Fp, hF _ h.Fq, hF _ h.Fc, ⟨h.inn.cut, fun k' => ?_, fun k' => ?_, fun k1 k2 hkk => ?_, fun k' i hi => ?_⟩, fun i hi => ?_⟩
  · exact (old p (h.lt p h.Fp) (fun e => r1 e.symm) h.ne_q.1).trans h.blk
  · exact (old bc (h.lt bc h.Fc) (fun e => r3 e.symm) (Ne.symm h.ne)).trans h.mc
  · rw [qv_mput]
    by_cases hk : k' = k
    · subst hk
      simp only [if_true, upd]
      exact ownsRow_of_block hown (fun g hg1 => heap_setBlock_ne (Ne.symm (hvq g hg1)))
    · simp only [if_neg hk, upd]
      refine ownsRow_of_block (h.inn.row k') (fun g hg1 => old g (ownsRow_lt (h.inn.row k') hg1) ?_ ?_)
      · rcases h.inn.apart k' k hk with e | e
        · rw [hg1] at e; cases e
        · rw [← hg1]; exact e
      · rintro rfl; exact (h.row_ne k').2.1 hg1
  · by_cases hk : k' = k
    · simp only [upd, if_pos hk]; exact hl
    · simp only [upd, if_neg hk]; exact h.inn.len k'
  · rw [qv_mput, qv_mput]
    by_cases hk : k1 = k
    · subst hk
      rw [if_pos rfl, if_neg (Ne.symm hkk)]
      cases hv : v1.ownBlock with
      | none => exact .inl rfl
      | some g =>
        right
        intro e
        rcases hat g hv with e' | e'
        · rcases h.inn.apart k1 k2 hkk with e2 | e2
          · rw [e'] at e2; cases e2
          · exact e2 (e'.trans e)
        · have := ownsRow_lt (h.inn.row k2) e.symm; omega
    · rw [if_neg hk]
      by_cases hk' : k2 = k
      · subst hk'
        rw [if_pos rfl]
        cases hv : (qv lq k1).ownBlock with
        | none => exact .inl rfl
        | some g =>
          right
          intro e
          rcases hat g e.symm with e' | e'
          · rcases h.inn.apart k1 k2 hkk with e2 | e2
            · rw [hv] at e2; cases e2
            · exact e2 (hv.trans e'.symm)
          · have := ownsRow_lt (h.inn.row k1) hv; omega
      · rw [if_neg hk']; exact h.inn.apart k1 k2 hkk
  · rw [qv_mput] at hi
    by_cases hk : k' = k
    · rw [if_pos hk] at hi; exact hF2 i hi
    · rw [if_neg hk] at hi; exact hF _ (h.inn.rowF k' i hi)
  · rw [size_setBlock]; exact hlt i hi

/-- A way is cut or repaired. -/
theorem NetAt.set_c {w1 : World} {F : Nat → Prop} {m : NetM} {p bq bc : Nat} {lq lc : List ((Int × Int) × Value)} {eq ec : Array MapEntry} {kq kc : Nat} (h : NetAt w1 F m p bq bc lq lc eq ec kq kc) (k : Int × Int) (x : Bool)
    {es2 : Array MapEntry} {clk2 : Nat} (he : Ents (pairV .i64) es2 clk2 (mput lc k (.bool x))) :
    NetAt (setBlock w1 bc (.map es2 clk2)) F { m with c := upd m.c k x } p bq bc lq (mput lc k (.bool x)) eq es2 kq clk2 := by
  refine ⟨(heap_setBlock_ne (Ne.symm h.ne_q.2)).trans h.blk, (heap_setBlock_ne (Ne.symm h.ne)).trans h.mq, heap_setBlock_self h.mc, h.hq, he, h.ne, h.Fp, h.Fq, h.Fc, ⟨fun k' => ?_, fun k' => ?_, h.inn.len, h.inn.apart, h.inn.rowF⟩, fun i hi => ?_⟩
  · unfold cv
    rw [mget_mput]
    by_cases hk : k' = k
    · simp [hk, upd]
    · have := h.inn.cut k'; unfold cv at this; simp [hk, upd, this]
  · exact ownsRow_of_block (h.inn.row k') (fun g hg1 => heap_setBlock_ne (by rintro rfl; exact (h.row_ne k').2.2 hg1))
  · rw [size_setBlock]; exact h.lt i hi

/-- What a Send leaves, behind the store of the new queue. -/
theorem send_fin {w w1 w2 : World} {F : Nat → Prop} {m : NetM} {p bq bc : Nat} {lq lc : List ((Int × Int) × Value)} {eq ec : Array MapEntry} {kq kc : Nat} {a b : Int} {t : ByteArray}
    (hb : Below w.heap.size w w1) (h : NetAt w1 F m p bq bc lq lc eq ec kq kc) (hF : ∀ i, F i → i < w.heap.size) (hfull : (m.q (a, b)).length < 100)
    {n : Nat} {es1 : Array MapEntry} {clk1 : Nat} {v1 : Value}
    (hown : w2.ownsRow 0 9 1 v1 ((m.q (a, b)).length + 1) (strs (m.q (a, b)) ++ [Value.string t]))
    (hg : (setBlock ((w1.drewN n).alloc (.cells #[.string t] 9)) bq (.map es1 clk1)).grownBy w2 (qv lq (a, b)).ownBlock)
    (hat : v1.ownBlock = (qv lq (a, b)).ownBlock ∨ v1.ownBlock = some (setBlock ((w1.drewN n).alloc (.cells #[.string t] 9)) bq (.map es1 clk1)).heap.size)
    {es2 : Array MapEntry} {clk2 : Nat} (he : Ents (pairV .i64) es2 clk2 (mput lq (a, b) v1)) :
    ∃ F', Net (setBlock w2 bq (.map es2 clk2)) F' (sendM m a b t) p ∧ Mod F w (setBlock w2 bq (.map es2 clk2)) ∧ ∀ i, F' i → F i ∨ (w.heap.size ≤ i ∧ i < (setBlock w2 bq (.map es2 clk2)).heap.size) := by
  have hsz : (setBlock ((w1.drewN n).alloc (.cells #[.string t] 9)) bq (.map es1 clk1)).heap.size = w1.heap.size + 1 := by rw [size_setBlock]; simp
  have hM : Mod (fun i => i = bq ∨ some i = (qv lq (a, b)).ownBlock) w1 w2 :=
    ((((Mod.refl _ w1).drewN n).alloc _).setBlock _ (fun _ => .inl rfl)).trans (Mod.of_grown (F := fun i => some i = (qv lq (a, b)).ownBlock) hg (fun k e _ => e.symm)) (fun _ _ h => h) (fun _ _ h => .inr h)
  have hsz2 := hg.size
  rw [hsz] at hsz2 hat
  have hle := hb.size
  have hl : (m.q (a, b) ++ [t]).length ≤ 100 := by simp; omega
  have hown' : w2.ownsRow 0 9 1 v1 (m.q (a, b) ++ [t]).length (strs (m.q (a, b) ++ [t])) := by
    have hs : strs (m.q (a, b) ++ [t]) = strs (m.q (a, b)) ++ [Value.string t] := by simp [strs]
    rw [hs, List.length_append]; exact hown
  have hat' : ∀ g, v1.ownBlock = some g → (qv lq (a, b)).ownBlock = some g ∨ w1.heap.size ≤ g := fun g hg1 => by
    rcases hat with e | e
    · exact .inl (e ▸ hg1)
    · rw [hg1] at e; simp at e; exact .inr (by omega)
  have hN := h.set_q (F2 := fun i => F i ∨ (w.heap.size ≤ i ∧ i < w2.heap.size)) (a, b) hl hown' hM hat' (fun _ h => .inl h) (fun g hg1 => by
      rcases hat' g hg1 with e | e
      · exact .inl (h.inn.rowF _ g e)
      · exact .inr ⟨by omega, ownsRow_lt hown hg1⟩) (fun i hi => by
      rcases hi with hi | hi
      · have := hF i hi; omega
      · exact hi.2) he
  refine ⟨_, ⟨_, _, _, _, _, _, _, _, hN⟩, ?_, fun i hi => by rw [size_setBlock]; exact hi⟩
  refine (Mod.of_below (F := fun _ => False) hb).trans (hM.setBlock _ (fun _ => .inl rfl)) (fun _ _ h => h.elim) (fun i _ h => ?_)
  rename_i hN2 _
  rcases h with rfl | h
  · exact hN2.Fq
  · exact hN2.inn.rowF _ i h.symm

set_option maxHeartbeats 1000000 in
theorem send_ok {w : World} {F : Nat → Prop} {m : NetM} {p bq bc : Nat} {lq lc : List ((Int × Int) × Value)} {eq ec : Array MapEntry} {kq kc : Nat} (h : NetAt w F m p bq bc lq lc eq ec kq kc) (a b : Int) (t : ByteArray)
    (hk : knowsB m.nodes a b = true) (ht : t.size ≤ 20000) (hc : m.c (a, b) = false) (hfull : (m.q (a, b)).length < 100) :
    Calls Try.prog 11 #[.pointer (some ⟨p, 0, none⟩), .int .i64 a, .int .i64 b, .string t] w (NetPost w F p (.int .i64 0) (sendM m a b t)) := by
  have H := hide h; have HK := hide hk; have HC := hide hc; clear hk hc h
  have hp : p < w.heap.size := H.out.lt p H.out.Fp
  go_enter Try.func11, Try.ntmps11
  go_wp2_with (go_at_call 22; go_must (refine (knows_at (HK.out ▸ H.out.kn a b) (below_alloc _ _)).mono ?_); rintro e w1 ⟨rfl, hb⟩)
  have HB := hide (below_way hb)
  have hsz : w.heap.size < w1.heap.size := by have := hb.size; simp at this; omega
  have HN := hide (H.out.below HB.out)
  obtain ⟨-, hc1, hc2⟩ := HN.out.cells
  obtain ⟨hw0, hw1⟩ := way_cells hb
  have hlc := HN.out.look_c a b
  rw [HC.out] at hlc
  have hlq := HN.out.look_q a b
  obtain ⟨A, c, hA, _, _⟩ := HN.out.slice (a, b)
  rw [hA] at hlq
  have HA := hide hA
  clear hb hA
  go_quiet (fail)
  go_wp2
  go_quiet (fail)
  go_wp2
  clear hlc hlq
  have hmq := HN.out.mq
  have hbq : bq < w1.heap.size := HN.out.lt bq HN.out.Fq
  have hpq : p ≠ bq := HN.out.ne_q.1
  have hwq : w.heap.size ≠ bq := Nat.ne_of_gt (H.out.lt bq H.out.Fq)
  have hrow := HN.out.row_ne (a, b)
  have hown := HN.out.inn.row (a, b)
  have HRF := hide (H.out.inn.rowF (a, b))
  rw [HA.out] at hrow hown HRF
  have HR := hide hrow
  have HO := hide hown
  obtain ⟨es1, clk1, st, ix, hme, hes⟩ := run_mapEntry (P := Try.prog) keyOk Try.underlying53 zeroS HN.out.hq bq (a, b)
  have HES := hide hes
  have hg : (mget lq (a, b)).getD nilS = .slice A (m.q (a, b)).length c := HA.out
  rw [hg] at hme
  simp only [pairV, goInt] at hme
  have hme1 := fun n o => hme ((w1.drewN n).alloc o) ((heap_old hbq).trans hmq)
  clear hes hrow hown hg hme hmq
  have hk1 : ∀ n o es k, (setBlock ((w1.drewN n).alloc o) bq (.map es k)).cell? ⟨p, 1, none⟩ = some (.map (some bq)) ∧ (setBlock ((w1.drewN n).alloc o) bq (.map es k)).cell? ⟨w.heap.size, 0, none⟩ = some (.int .i64 a) ∧ (setBlock ((w1.drewN n).alloc o) bq (.map es k)).cell? ⟨w.heap.size, 1, none⟩ = some (.int .i64 b) := fun n o es k =>
    ⟨(cell_setBlock hpq.symm).trans ((World.cell?_alloc_lt _ _ _ (Nat.lt_trans hp hsz)).trans hc1), (cell_setBlock hwq.symm).trans ((World.cell?_alloc_lt _ _ _ hsz).trans hw0), (cell_setBlock hwq.symm).trans ((World.cell?_alloc_lt _ _ _ hsz).trans hw1)⟩
  have HK1 := hide hk1
  have hrw : (Value.slice A (m.q (a, b)).length c).ownBlock ≠ some w.heap.size := fun e => Nat.lt_irrefl _ (H.out.lt _ (HRF.out _ e))
  have hO3 : ∀ n, (setBlock ((w1.drewN n).alloc (.cells #[.string t] 9)) bq (.map es1 clk1)).ownsRow 0 9 1 (.slice A (m.q (a, b)).length c) (m.q (a, b)).length (strs (m.q (a, b))) := fun n =>
    ownsRow_of_block HO.out (fun g hg => (heap_setBlock_ne (by rintro rfl; exact HR.out.2.1 hg)).trans (heap_old (ownsRow_lt HO.out hg)))
  have hS3 : ∀ n, Src (setBlock ((w1.drewN n).alloc (.cells #[.string t] 9)) bq (.map es1 clk1)) (some ⟨w1.heap.size, 0, none⟩) 1 1 [.string t] := fun n =>
    Src.one ((heap_setBlock_ne (Nat.ne_of_lt hbq)).trans (heap_new rfl)) rfl
  have hQ3 : ∀ n w2, (setBlock ((w1.drewN n).alloc (.cells #[.string t] 9)) bq (.map es1 clk1)).grownBy w2 (Value.slice A (m.q (a, b)).length c).ownBlock → w2.heap[bq]? = some (.map es1 clk1) := fun n w2 hg =>
    (hg.block bq (by rw [size_setBlock]; simp; exact Nat.lt_succ_of_lt hbq) (fun e => HR.out.2.1 e.symm)).trans (heap_setBlock_self ((heap_old hbq).trans HN.out.mq))
  have hC3 : ∀ n w2, (setBlock ((w1.drewN n).alloc (.cells #[.string t] 9)) bq (.map es1 clk1)).grownBy w2 (Value.slice A (m.q (a, b)).length c).ownBlock → w2.cell? ⟨p, 1, none⟩ = some (.map (some bq)) ∧ w2.cell? ⟨w.heap.size, 0, none⟩ = some (.int .i64 a) ∧ w2.cell? ⟨w.heap.size, 1, none⟩ = some (.int .i64 b) := fun n w2 hg => by
    obtain ⟨k1, k2, k3⟩ := HK1.out n (.cells #[.string t] 9) es1 clk1
    exact ⟨hg.cell k1 (fun e => HR.out.1 e.symm), hg.cell k2 (fun e => hrw e.symm), hg.cell k3 (fun e => hrw e.symm)⟩
  have HO3 := hide hO3; have HS3 := hide hS3; have HQ3 := hide hQ3; have HC3 := hide hC3
  clear hk1 hO3 hS3 hQ3 hC3 hrw
  go_region_held3 (fun w' => w'.cell? ⟨p, 1, none⟩ = some (.map (some bq)) ∧ w'.cell? ⟨w.heap.size, 0, none⟩ = some (.int .i64 a) ∧ w'.cell? ⟨w.heap.size, 1, none⟩ = some (.int .i64 b)) (first | go_keep | exact HK1.out _ _ _ _ | exact ⟨by assumption, by assumption, by assumption⟩ | exact ⟨(cell_setBlock hpq.symm).trans (by assumption), (cell_setBlock hwq.symm).trans (by assumption), (cell_setBlock hwq.symm).trans (by assumption)⟩)
    (first | (refine step_app rfl (.tmp 44) (.tmp 46) rfl strOk _ 0 (v := .slice A (m.q (a, b)).length c) (n := (m.q (a, b)).length) (xs := strs (m.q (a, b))) rfl (HO3.out _) (A := some ⟨w1.heap.size, 0, none⟩) (m := 1) (c := 1) (news := [.string t]) rfl (HS3.out _) (by omega) (by omega) (Nat.zero_le _) ?_; intro v1 w2 hown2 hg2 hat2; have hq2 := HQ3.out _ _ hg2; have hes2 := (HES.out v1).2 w2 hq2; simp only [goInt] at hes2; obtain ⟨k1, k2, k3⟩ := HC3.out _ _ hg2; have HG2 := hide hg2; have HOW := hide hown2; have HAT := hide hat2; clear hg2 hown2 hat2 hq2))
  go_wp2
  go_ret
  have g1 := HG2.out
  have g2 := HAT.out
  rw [← HA.out] at g1 g2
  exact ⟨rfl, send_fin HB.out HN.out H.out.lt hfull HOW.out g1 g2 (HES.out v1).1⟩

/-- What Send answers. -/
def sendE (m : NetM) (a b : Int) (t : ByteArray) : Int :=
  if knowsB m.nodes a b = false ∨ 20000 < t.size then 1 else if m.c (a, b) = true then 29 else if 100 ≤ (m.q (a, b)).length then 28 else 0
def sendR (m : NetM) (a b : Int) (t : ByteArray) : NetM := if sendE m a b t = 0 then sendM m a b t else m

theorem send_any {w : World} {F : Nat → Prop} {m : NetM} {p : Nat} (h : Net w F m p) (a b : Int) (t : ByteArray) :
    Calls Try.prog 11 #[.pointer (some ⟨p, 0, none⟩), .int .i64 a, .int .i64 b, .string t] w (NetPost w F p (.int .i64 (sendE m a b t)) (sendR m a b t)) := by
  have h0 := h
  obtain ⟨bq, bc, lq, lc, eq, ec, kq, kc, h⟩ := h
  have hk := h.kn a b
  cases hkb : knowsB m.nodes a b with
  | false =>
    have e : sendE m a b t = 1 := by simp [sendE, hkb]
    rw [sendR, e, if_neg (by decide)]
    exact (send_no _ a b t w (hkb ▸ hk)).mono fun e w' hb => .of_below h0 hb
  | true =>
    by_cases ht : 20000 < t.size
    · have e : sendE m a b t = 1 := by simp [sendE, ht]
      rw [sendR, e, if_neg (by decide)]
      exact (send_long _ a b t w (hkb ▸ hk) ht).mono fun e w' hb => .of_below h0 hb
    · cases hc : m.c (a, b) with
      | true =>
        have e : sendE m a b t = 29 := by simp [sendE, hkb, ht, hc]
        rw [sendR, e, if_neg (by decide)]
        exact (send_cut h a b t hkb (by omega) hc).mono fun e w' hb => .of_below h0 hb
      | false =>
        by_cases hl : 100 ≤ (m.q (a, b)).length
        · have e : sendE m a b t = 28 := by simp [sendE, hkb, ht, hc, hl]
          rw [sendR, e, if_neg (by decide)]
          exact (send_full h a b t hkb (by omega) hc hl).mono fun e w' hb => .of_below h0 hb
        · have e : sendE m a b t = 0 := by simp [sendE, hkb, ht, hc, hl]
          rw [sendR, e, if_pos rfl]
          exact send_ok h a b t hkb (by omega) hc (by omega)
end Go.Proofs.Ytolpcjpnjicmkaa
