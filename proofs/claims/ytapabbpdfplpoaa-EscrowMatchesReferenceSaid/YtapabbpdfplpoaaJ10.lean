/-
  The reference of Escrow: a pair's cells written; what a pair owns, out and back.
  The reference of Escrow: Give.
  The reference of Escrow: Give, whole; where Send and Deliver do nothing.
  The reference of Escrow: Send of a message.
-/
import Derived.Test.YtapabbpdfplpoaaJ9
set_option linter.unusedSimpArgs false
set_option linter.unusedVariables false
namespace Go.Proofs.Ytapabbpdfplpoaa
open Go.RowKit Go.CH Go.CH.Esc
open Go.ChangeMaps (setBlock)

/-- All but what one pair owns and the row in which it lies. -/
def restR (g : GM) (p : Nat) (s : RefP) (k j : Nat) : Own :=
  star (CellO p (rcell s g.acc.length) 114) (star (RowO 3 1 (.slice (some ⟨s.bU, 0, none⟩) g.acc.length g.acc.length) g.acc.length (ints (g.acc.map Acc.u)))
    (star (RowO 3 1 (.slice (some ⟨s.bS, 0, none⟩) g.acc.length g.acc.length) g.acc.length (ints (g.acc.map Acc.s)))
      (star (RowO 4 1 (.slice (some ⟨s.bR, 0, none⟩) g.acc.length g.acc.length) g.acc.length (bools (g.acc.map Acc.rev)))
        (star (RowO 115 1 (.slice (some ⟨s.bP, 0, none⟩) g.acc.length s.cP) g.acc.length ((List.range g.acc.length).map fun k => .slice (some ⟨s.row k, 0, none⟩) g.acc.length g.acc.length))
          (star (bigK (@List.erase Nat instBEqOfDecidableEq (List.range g.acc.length) k) fun k => rowR g s g.acc.length k) (bigK (@List.erase (Nat × Nat) instBEqOfDecidableEq (keys2 g.acc.length) (k, j)) fun k => PairX (g.p2 k) (s.ps k)))))))
theorem restR_ok {g : GM} {p : Nat} {s : RefP} {k j : Nat} : (restR g p s k j).Ok := star_ok cell_ok (star_ok row_ok (star_ok row_ok (star_ok row_ok (star_ok row_ok (star_ok (bigK_ok (fun _ => rowR_ok)) (bigK_ok (fun _ => pairX_ok)))))))
theorem bigK_pull {κ : Type} [DecidableEq κ] {l : List κ} {f : κ → Own} {k : κ} (hk : k ∈ l) : bigK l f = star (f k) (bigK (l.erase k) f) := by
  funext w F
  exact propext ⟨fun h => bigK_out hk h, fun h => bigK_in0 hk h⟩
theorem refS_pull {g : GM} {p : Nat} {s : RefP} {k j : Nat} (hk : k < g.acc.length) (hj : j < g.acc.length) : RefS g p s = star (rowR g s g.acc.length k) (star (PairX (g.p2 (k, j)) (s.ps (k, j))) (restR g p s k j)) := by
  unfold RefS restR
  rw [bigK_pull (List.mem_range.2 hk) (f := fun k => rowR g s g.acc.length k), bigK_pull ((mem_keys2 (k := (k, j))).2 ⟨hk, hj⟩) (f := fun k => PairX (g.p2 k) (s.ps k))]
  ac_rfl
/-- The state and the parts where the pair (k, j) is q at l. -/
def updP (s : RefP) (k j : Nat) (l : LinS) : RefP := { s with ps := fun x => if x = (k, j) then l else s.ps x }
theorem p2_setP (g : GM) (k j : Nat) (q : PrG) (x : Nat × Nat) : (g.setP ((k : Int), (j : Int)) q).p2 x = if x = (k, j) then q else g.p2 x := by
  unfold GM.p2
  rw [pr_setP]
  obtain ⟨a, b⟩ := x
  by_cases h : (a, b) = (k, j)
  · rw [Prod.mk.injEq] at h; obtain ⟨rfl, rfl⟩ := h; simp
  · rw [if_neg h, if_neg]
    intro e
    rw [Prod.mk.injEq] at e h
    exact h ⟨Int.ofNat.inj e.1, Int.ofNat.inj e.2⟩
theorem restR_upd {g : GM} {p : Nat} {s : RefP} {k j : Nat} (q : PrG) (l : LinS) : restR (g.setP ((k : Int), (j : Int)) q) p (updP s k j l) k j = restR g p s k j := by
  unfold restR
  have e1 : (bigK (@List.erase Nat instBEqOfDecidableEq (List.range g.acc.length) k) fun x => rowR (g.setP ((k : Int), (j : Int)) q) (updP s k j l) g.acc.length x) = (bigK (@List.erase Nat instBEqOfDecidableEq (List.range g.acc.length) k) fun x => rowR g s g.acc.length x) := by
    refine bigK_congr fun x hx => ?_
    have hne : x ≠ k := ((mem_er List.nodup_range).1 hx).1
    unfold rowR rowL
    congr 1
    congr 1
    funext y
    rw [p2_setP, if_neg (fun e => hne (by injection e))]
    simp only [updP]
    rw [if_neg (fun e => hne (by injection e))]
  have e2 : (bigK (@List.erase (Nat × Nat) instBEqOfDecidableEq (keys2 g.acc.length) (k, j)) fun x => PairX ((g.setP ((k : Int), (j : Int)) q).p2 x) ((updP s k j l).ps x)) = (bigK (@List.erase (Nat × Nat) instBEqOfDecidableEq (keys2 g.acc.length) (k, j)) fun x => PairX (g.p2 x) (s.ps x)) := by
    refine bigK_congr fun x hx => ?_
    have hne : x ≠ (k, j) := ((mem_er (nodup_keys2 _)).1 hx).1
    rw [p2_setP, if_neg hne]
    simp only [updP]
    rw [if_neg hne]
  show star _ (star _ (star _ (star _ (star _ (star _ _))))) = _
  rw [show (g.setP ((k : Int), (j : Int)) q).acc = g.acc from rfl, e1, e2]
  rfl
theorem flat_congr {α β : Type} {f g : α → List β} : ∀ {l : List α}, (∀ x ∈ l, f x = g x) → l.flatMap f = l.flatMap g
  | [], _ => rfl
  | a :: l, h => by rw [List.flatMap_cons, List.flatMap_cons, h a (by simp), flat_congr (fun x hx => h x (by simp [hx]))]
/-- The row k where its j-th pair is q at l. -/
theorem rowL_upd {g : GM} {s : RefP} {k j : Nat} (q : PrG) (l : LinS) {n : Nat} (hj : j < n) (i : Nat) (v : Value) (hi : i < 4) (h : (pcl (g.p2 (k, j)) (s.ps (k, j))).set i v = pcl q l) : (rowL g s.ps n k).set (j * 4 + i) v = rowL (g.setP ((k : Int), (j : Int)) q) (updP s k j l).ps n k := by
  unfold rowL
  have key : ∀ (xs : List Nat) (m : Nat) (hm : m < xs.length), xs[m] = j → xs.Nodup → (xs.flatMap fun y => pcl (g.p2 (k, y)) (s.ps (k, y))).set (m * 4 + i) v = xs.flatMap fun y => pcl ((g.setP ((k : Int), (j : Int)) q).p2 (k, y)) ((updP s k j l).ps (k, y)) := by
    intro xs
    induction xs with
    | nil => intro m hm; simp at hm
    | cons y xs ih =>
      intro m hm hx hn
      rw [List.nodup_cons] at hn
      rw [List.flatMap_cons, List.flatMap_cons]
      cases m with
      | zero =>
        simp at hx
        subst hx
        rw [Nat.zero_mul, Nat.zero_add, List.set_append_left _ _ (by rw [pcl_len]; exact hi), h]
        congr 1
        · rw [p2_setP, if_pos rfl]; simp [updP]
        · refine flat_congr fun z hz => ?_
          have hne : z ≠ y := fun e => hn.1 (e ▸ hz)
          rw [p2_setP, if_neg (fun e => hne (by injection e))]
          simp only [updP]
          rw [if_neg (fun e => hne (by injection e))]
      | succ m =>
        rw [List.set_append_right _ _ (by rw [pcl_len, Nat.succ_mul]; omega), pcl_len, show (m + 1) * 4 + i - 4 = m * 4 + i by omega, ih m (by simpa using hm) (by simpa using hx) hn.2]
        have hne : y ≠ j := fun e => hn.1 (by rw [e, ← hx]; simp)
        congr 1
        rw [p2_setP, if_neg (fun e => hne (by injection e))]
        simp only [updP]
        rw [if_neg (fun e => hne (by injection e))]
  exact key (List.range n) j (by simpa using hj) (by simp) List.nodup_range
/-- One cell of a pair is written, where what it owns stays or has come. -/
theorem ref_setQ {F0 : Nat → Prop} {w0 W : World} {g : GM} {p : Nat} {s : RefP} {k j : Nat} (hk : k < g.acc.length) (hj : j < g.acc.length) {q : PrG} {l : LinS} (h : Run F0 w0 (star (rowR g s g.acc.length k) (star (PairX q l) (restR g p s k j))) W) (i : Nat) (hi : i < 4) (v : Value)
    (hv : (pcl (g.p2 (k, j)) (s.ps (k, j))).set i v = pcl q l) : Run F0 w0 (RefS (g.setP ((k : Int), (j : Int)) q) p (updP s k j l)) (W.setCell ⟨s.row k, j * 4 + i, none⟩ v) := by
  obtain ⟨F, hR, -, bk⟩ := h.take rowR_ok (star_ok pairX_ok restR_ok)
  have h2 := row_set hR (i := j * 4 + i) (by omega) v
  rw [rowL_upd q l hj i v hi hv] at h2
  have h3 := bk (rowR (g.setP ((k : Int), (j : Int)) q) (updP s k j l) g.acc.length k) _ h2
  rw [refS_pull (g := g.setP ((k : Int), (j : Int)) q) (s := updP s k j l) (k := k) (j := j) hk hj, restR_upd, p2_setP, if_pos rfl]
  have e : (updP s k j l).ps (k, j) = l := by simp [updP]
  rw [e]
  exact h3
theorem refZ_setP {g : GM} {s : RefP} (h : RefZ g s) {k j : Nat} {q : PrG} {l : LinS} (hz : LineZ q l) : RefZ (g.setP ((k : Int), (j : Int)) q) (updP s k j l) := by
  intro x hx
  rw [p2_setP]
  by_cases e : x = (k, j)
  · subst e; simp [updP]; exact hz
  · rw [if_neg e]; simp only [updP]; rw [if_neg e]; exact h x hx
end Go.Proofs.Ytapabbpdfplpoaa
namespace Go.Proofs.Ytapabbpdfplpoaa
open Go.RowKit Go.CH Go.CH.Esc
open Go.ChangeMaps (setBlock)

theorem restR_cells {g : GM} {p : Nat} {s : RefP} {k j : Nat} {w : World} {F : Nat → Prop} (h : restR g p s k j w F) : w.cell? ⟨p, 3, none⟩ = some (.slice (some ⟨s.bP, 0, none⟩) g.acc.length s.cP) ∧ ∀ i, i < g.acc.length → w.cell? ⟨s.bP, i, none⟩ = some (.slice (some ⟨s.row i, 0, none⟩) g.acc.length g.acc.length) := by
  obtain ⟨_, _, hC, ⟨_, _, hU, ⟨_, _, hS, ⟨_, _, hR, ⟨_, _, hP, _⟩, _, _⟩, _, _⟩, _, _⟩, _, _⟩ := h
  exact ⟨cell_at hC rfl, fun i hi => row_cell hP (by simp [hi])⟩
theorem give_z {q : PrG} {l : LinS} {b : PrG} (hk : PrOk q b) (hz : LineZ q l) (x : Int) (A : Option Addr) (c : Nat) : LineZ { q with H := q.H ++ [x] } { l with A := A, c := c } := by
  refine ⟨hz.1, fun z hzz => ?_⟩
  rw [hz.2 z hzz]
  have hm : z.m ∈ q.ms := by rw [← hz.1]; exact List.mem_map_of_mem hzz
  have := (hk.msg _ hm).2.2.1
  unfold msgT
  rw [List.take_append_of_le_length this]
set_option maxRecDepth 100000 in
set_option maxHeartbeats 3200000 in
theorem rgive_ok {w : World} {F : Nat → Prop} {g : GM} {p : Nat} (h : RefO g p w F) {U : Int} (hI : Inv g U) {f t : Nat} (hp : g.pair f t = true) (k : Int) (hk : 1 ≤ k) (hu : k ≤ (g.at_ f).u) (hl : (g.pr (f, t)).H.length ≤ 999999) (hq : (g.pr (f, t)).H.length - (g.pr (f, t)).conf < 100) :
    Calls Try.prog 62 #[.pointer (some ⟨p, 0, none⟩), .int .i64 f, .int .i64 t, .int .i64 k] w (RPost w F (.int .i64 0) ((g.setA f { g.at_ f with u := (g.at_ f).u - k }).setP (f, t) { g.pr (f, t) with H := (g.pr (f, t)).H ++ [k] }) p) := by
  obtain ⟨hif, hit, hne⟩ := pair_is hp
  have hB := Inv.bnd hI hif
  have hPr := hI.pr f t hp
  obtain ⟨s, hz, hS⟩ := h
  have hf : f < g.acc.length := by simpa using (is_lt hif).2
  have ht : t < g.acc.length := by simpa using (is_lt hit).2
  have hR := hS.read
  have KF := hide (ris_any hR f)
  have KT := hide (ris_any hR t)
  rw [hif] at KF
  rw [hit] at KT
  have c0 := hR.c0
  have c3 := hR.c3
  obtain ⟨u0, -, -⟩ := hR.u f hf
  obtain ⟨f0, -, -⟩ := hR.f (by omega) f
  rw [← at_nat hf] at u0
  have p0 := hR.p f hf
  obtain ⟨q0, q1, q2, q3⟩ := hR.q f t hf ht
  have hzk := hz (f, t) (mem_keys2.2 ⟨hf, ht⟩)
  have hn8 := hI.nb.2
  rw [show g.p2 (f, t) = g.pr ((f : Int), (t : Int)) from rfl] at q0 q1 q2 hzk
  have hcr := hPr.cr
  have hrl := hPr.rl
  have e3 : ¬ ((100 : Int) ≤ ((g.pr ((f : Int), (t : Int))).H.length : Int) - (g.pr ((f : Int), (t : Int))).conf) := by omega
  have e4 : decide ((100 : Int) ≤ ((g.pr ((f : Int), (t : Int))).H.length : Int) - (g.pr ((f : Int), (t : Int))).conf) = false := decide_eq_false e3
  have hft : ((f : Int) == (t : Int)) = false := by simpa using hne
  have hft2 : ¬ ((f : Int) = (t : Int)) := hne
  have b1 := hB.1.1
  have b2 := hB.1.2
  have t1 : IntKind.i64.wrap ((g.at_ (f : Int)).u - k) = (g.at_ (f : Int)).u - k := IntWalk.i64_in _ (by omega)
  -- the box
  have R1r := RefR.below (w' := w.alloc (.cells (pcl (g.pr ((f : Int), (t : Int))) (s.ps (f, t))).toArray 118)) hS ((Below.refl _ _).alloc (Nat.le_refl _) _)
  have d0 := R1r.c0
  obtain ⟨du, -, -⟩ := R1r.u f hf
  obtain ⟨df, -, -⟩ := R1r.f (by omega) f
  rw [← at_nat hf] at du
  have R1 := (Run.start hS).fresh refS_ok (cell_new w (pcl (g.pr ((f : Int), (t : Int))) (s.ps (f, t))).toArray 118)
  obtain ⟨G1, hG1, hback⟩ := (R1.perm (star_comm_eq _ _)).sub refS_ok cell_ok
  have R2 := hback _ _ refS_ok (ref_setU (hG1.drew refS_ok) hf ((g.at_ f).u - k))
  have hlen : (g.setA f { g.at_ f with u := (g.at_ f).u - k }).acc.length = g.acc.length := setA_len _ _ _
  have R3 := R2.drew (star_ok refS_ok cell_ok)
  rw [refS_pull (k := f) (j := t) (by rw [hlen]; exact hf) (by rw [hlen]; exact ht), hlen] at R3
  rw [show (g.setA f { g.at_ f with u := (g.at_ f).u - k }).p2 (f, t) = g.pr ((f : Int), (t : Int)) from rfl] at R3
  have HZ := hide (refZ_setA hz (f : Int) { g.at_ f with u := (g.at_ f).u - k })
  have hp2 : ∀ x, (g.setA f { g.at_ f with u := (g.at_ f).u - k }).p2 x = g.p2 x := fun _ => rfl
  have HP2 := hide (show (g.setA f { g.at_ f with u := (g.at_ f).u - k }).p2 (f, t) = g.pr ((f : Int), (t : Int)) from rfl)
  have HPr := hide hPr
  have HZK := hide hzk
  have HF := hide (show f < (g.setA f { g.at_ f with u := (g.at_ f).u - k }).acc.length by rw [hlen]; exact hf)
  have HT := hide (show t < (g.setA f { g.at_ f with u := (g.at_ f).u - k }).acc.length by rw [hlen]; exact ht)
  have HLEN := hide hlen
  have R4 : Run F w _ ((((w.alloc (.cells (pcl (g.pr ((f : Int), (t : Int))) (s.ps (f, t))).toArray 118)).setCell ⟨s.bU, f, none⟩ (.int .i64 ((g.at_ f).u - k))).drew).drew) := R3
  have HR4 := hide R4
  clear hS hR hI hPr hz hzk hG1 hback R1 R2 R3 R4 hB hif hit hp R1r hp2 hlen
  unfold pcl at HR4 d0 du df
  generalize hg1 : g.setA f { g.at_ f with u := (g.at_ f).u - k } = g1 at *
  have HG1 := hide hg1
  clear hg1
  go_enter Try.func62, Try.ntmps62
  go_wp2_with fail
  refine KF.out.mono ?_
  rintro e w' ⟨rfl, rfl⟩
  go_wp2_with fail
  refine KT.out.mono ?_
  rintro e w' ⟨rfl, rfl⟩
  go_wp2_with fail
  generalize w.heap.size = bx at *
  generalize w.alloc (.cells _ 118) = W1 at *
  clear c0 c3 u0 f0 p0 q0 q1 q2 q3 e3 e4
  generalize (g.at_ (f : Int)).u = xu at *
  generalize g.pr ((f : Int), (t : Int)) = q at *
  generalize hlk : s.ps (f, t) = l at *
  have HLK := hide hlk
  clear hlk
  refine wp_region_lew [15] [0, 0, 0, 0, 0, 0, 0, 0, 0, 0, 0, 0, 0, 0, 0, 1] (fun w' => w'.cell? ⟨p, 0, none⟩ = some (.slice (some ⟨s.bU, 0, none⟩) g.acc.length g.acc.length) ∧ w'.cell? ⟨s.bU, f, none⟩ = some (.int .i64 xu)) (fun _ => True) (fun _ => True) (fun _ => True) (fun _ _ => trivial) (fun _ h => h) (fun _ h => h) (by kernel_rfl) (by kernel_rfl) (by kernel_rfl) (by kernel_rfl) (by exact ⟨d0, du⟩) ?_
  (repeat (first | (refine lew_skip (by rfl) (by rfl) ?_; try simp only [Act.put, List.setIfInBounds_toArray, List.set_cons_zero, List.set_cons_succ]) | (refine lew_read0 (v := ?_) (by rfl) (by rfl) ?_ ?_; rotate_left; (focus (intro w' hS'; go_simp; (try with_reducible rfl); done)); try simp only [Act.put, List.setIfInBounds_toArray, List.set_cons_zero, List.set_cons_succ]) | (refine lew_read1 (v := ?_) (by rfl) (by rfl) ?_ ?_; rotate_left; (focus (intro w' hS'; go_simp; (try with_reducible rfl); done)); try simp only [Act.put, List.setIfInBounds_toArray, List.set_cons_zero, List.set_cons_succ]) | (refine lew_read2 (v := ?_) (by rfl) (by rfl) ?_ ?_; rotate_left; (focus (intro w' hS'; go_simp; (try with_reducible rfl); done)); try simp only [Act.put, List.setIfInBounds_toArray, List.set_cons_zero, List.set_cons_succ]) | (refine lew_read3 (v := ?_) (by rfl) (by rfl) ?_ ?_; rotate_left; (focus (intro w' hS'; go_simp; (try with_reducible rfl); done)); try simp only [Act.put, List.setIfInBounds_toArray, List.set_cons_zero, List.set_cons_succ]) | (refine lew_read4 (v := ?_) (by rfl) (by rfl) ?_ ?_; rotate_left; (focus (intro w' hS'; go_simp; (try with_reducible rfl); done)); try simp only [Act.put, List.setIfInBounds_toArray, List.set_cons_zero, List.set_cons_succ])))
  refine lew_chain1 rfl (by rfl) (fun K hK => ?_)
  go_wp2_with fail
  refine hK.out _ _ trivial (lew_nil ?_)
  clear hK d0 du df
  go_wp2_with fail
  generalize (W1.setCell ⟨s.bU, f, none⟩ (.int .i64 (xu - k))).drew = W2 at *
  have R3 := HR4.out
  obtain ⟨FB, hB⟩ := R3.swap.fst
  have b0 := cell_at hB (i := 0) rfl
  obtain ⟨FR, hRR⟩ := (R3.perm (by ac_rfl : _ = star (restR g1 p s f t) (star (rowR g1 s g.acc.length f) (star (PairX q l) (CellO bx #[.slice l.A q.H.length l.c, .int .i64 q.rc, .int .i64 q.conf, .slice l.B l.zs.length l.d] 118))))).fst
  obtain ⟨c3, pk⟩ := restR_cells hRR
  have pf := pk f HF.out
  rw [HLEN.out] at c3 pf
  clear hB hRR pk R3
  refine wp_region_lew [11, 12, 15] [2, 2, 2, 2, 2, 2, 2, 2, 1, 1, 0, 1, 2, 2, 2, 3]
    (fun w' => w'.cell? ⟨p, 3, none⟩ = some (.slice (some ⟨s.bP, 0, none⟩) g.acc.length s.cP) ∧ w'.cell? ⟨s.bP, f, none⟩ = some (.slice (some ⟨s.row f, 0, none⟩) g.acc.length g.acc.length) ∧ w'.cell? ⟨bx, 0, none⟩ = some (.slice l.A q.H.length l.c))
    (fun w' => w'.cell? ⟨p, 3, none⟩ = some (.slice (some ⟨s.bP, 0, none⟩) g.acc.length s.cP) ∧ w'.cell? ⟨s.bP, f, none⟩ = some (.slice (some ⟨s.row f, 0, none⟩) g.acc.length g.acc.length) ∧ w'.cell? ⟨bx, 0, none⟩ = some (.slice l.A q.H.length l.c))
    (fun w' => w'.cell? ⟨p, 3, none⟩ = some (.slice (some ⟨s.bP, 0, none⟩) g.acc.length s.cP) ∧ w'.cell? ⟨s.bP, f, none⟩ = some (.slice (some ⟨s.row f, 0, none⟩) g.acc.length g.acc.length)) (fun _ => True) (fun _ h => h) (fun _ h => ⟨h.1, h.2.1⟩) (fun _ _ => trivial) (by kernel_rfl) (by kernel_rfl) (by kernel_rfl) (by kernel_rfl) (by exact ⟨c3, pf, b0⟩) ?_
  (repeat (first | (refine lew_skip (by rfl) (by rfl) ?_; try simp only [Act.put, List.setIfInBounds_toArray, List.set_cons_zero, List.set_cons_succ]) | (refine lew_read0 (v := ?_) (by rfl) (by rfl) ?_ ?_; rotate_left; (focus (intro w' hS'; go_simp; (try with_reducible rfl); done)); try simp only [Act.put, List.setIfInBounds_toArray, List.set_cons_zero, List.set_cons_succ]) | (refine lew_read1 (v := ?_) (by rfl) (by rfl) ?_ ?_; rotate_left; (focus (intro w' hS'; go_simp; (try with_reducible rfl); done)); try simp only [Act.put, List.setIfInBounds_toArray, List.set_cons_zero, List.set_cons_succ]) | (refine lew_read2 (v := ?_) (by rfl) (by rfl) ?_ ?_; rotate_left; (focus (intro w' hS'; go_simp; (try with_reducible rfl); done)); try simp only [Act.put, List.setIfInBounds_toArray, List.set_cons_zero, List.set_cons_succ]) | (refine lew_read3 (v := ?_) (by rfl) (by rfl) ?_ ?_; rotate_left; (focus (intro w' hS'; go_simp; (try with_reducible rfl); done)); try simp only [Act.put, List.setIfInBounds_toArray, List.set_cons_zero, List.set_cons_succ]) | (refine lew_read4 (v := ?_) (by rfl) (by rfl) ?_ ?_; rotate_left; (focus (intro w' hS'; go_simp; (try with_reducible rfl); done)); try simp only [Act.put, List.setIfInBounds_toArray, List.set_cons_zero, List.set_cons_succ])))
  refine lew_chain1 rfl (by rfl) (fun K hK => ?_)
  go_wp2_with fail
  have okB : (CellO bx #[.slice l.A q.H.length l.c, .int .i64 q.rc, .int .i64 q.conf, .slice l.B l.zs.length l.d] 118).Ok := cell_ok
  have R5 : Run F w _ (W2.alloc (.cells #[.int .i64 k] 3)).drew := (HR4.out.below (star_ok (star_ok rowR_ok (star_ok pairX_ok restR_ok)) okB) ((Below.refl _ _).alloc (Nat.le_refl _) (.cells #[.int .i64 k] 3)))
  have HSR := hide (show Src (W2.alloc (.cells #[.int .i64 k] 3)).drew (some ⟨W2.heap.size, 0, none⟩) 1 1 [.int .i64 k] from src_one W2.drew k 3)
  have HR5 := hide R5
  obtain ⟨FB, hB⟩ := R5.swap.fst
  have b0' := cell_at hB (i := 0) rfl
  obtain ⟨FR, hRR⟩ := (R5.perm (by ac_rfl : _ = star (restR g1 p s f t) (star (rowR g1 s g.acc.length f) (star (PairX q l) (CellO bx #[.slice l.A q.H.length l.c, .int .i64 q.rc, .int .i64 q.conf, .slice l.B l.zs.length l.d] 118))))).fst
  obtain ⟨c3', pk⟩ := restR_cells hRR
  have pf' := pk f HF.out
  rw [HLEN.out] at c3' pf'
  refine hK.out _ _ ⟨c3', pf', b0'⟩ ?_
  clear hK hB hRR pk R5 HR4 c3 pf b0
  generalize hW3 : (W2.alloc (.cells #[.int .i64 k] 3)).drew = W3 at *
  clear hW3
  (repeat (first | (refine lew_skip (by rfl) (by rfl) ?_; try simp only [Act.put, List.setIfInBounds_toArray, List.set_cons_zero, List.set_cons_succ]) | (refine lew_read0 (v := ?_) (by rfl) (by rfl) ?_ ?_; rotate_left; (focus (intro w' hS'; go_simp; (try with_reducible rfl); done)); try simp only [Act.put, List.setIfInBounds_toArray, List.set_cons_zero, List.set_cons_succ]) | (refine lew_read1 (v := ?_) (by rfl) (by rfl) ?_ ?_; rotate_left; (focus (intro w' hS'; go_simp; (try with_reducible rfl); done)); try simp only [Act.put, List.setIfInBounds_toArray, List.set_cons_zero, List.set_cons_succ]) | (refine lew_read2 (v := ?_) (by rfl) (by rfl) ?_ ?_; rotate_left; (focus (intro w' hS'; go_simp; (try with_reducible rfl); done)); try simp only [Act.put, List.setIfInBounds_toArray, List.set_cons_zero, List.set_cons_succ]) | (refine lew_read3 (v := ?_) (by rfl) (by rfl) ?_ ?_; rotate_left; (focus (intro w' hS'; go_simp; (try with_reducible rfl); done)); try simp only [Act.put, List.setIfInBounds_toArray, List.set_cons_zero, List.set_cons_succ]) | (refine lew_read4 (v := ?_) (by rfl) (by rfl) ?_ ?_; rotate_left; (focus (intro w' hS'; go_simp; (try with_reducible rfl); done)); try simp only [Act.put, List.setIfInBounds_toArray, List.set_cons_zero, List.set_cons_succ])))
  refine lew_chain2 rfl (by rfl) (fun K hK => ?_)
  have X6 := HR5.out.perm (by unfold PairX; ac_rfl : _ = star (RowO 3 1 (.slice l.A q.H.length l.c) q.H.length (ints q.H)) (star (ARow rcl zow 158 4 (.slice l.B l.zs.length l.d) l.zs) (star (rowR g1 s g.acc.length f) (star (restR g1 p s f t) (CellO bx #[.slice l.A q.H.length l.c, .int .i64 q.rc, .int .i64 q.conf, .slice l.B l.zs.length l.d] 118)))))
  obtain ⟨F6, hR6, -, bk6⟩ := X6.take row_ok (star_ok (arow_ok zow_ok) (star_ok rowR_ok (star_ok restR_ok okB)))
  refine wp_app (.tmp 79) (.tmp 81) rfl intsOk _ 0 (v := .slice l.A q.H.length l.c) (n := q.H.length) rfl hR6.1 (A := some ⟨W2.heap.size, 0, none⟩) (m := 1) (c := 1) (news := [.int .i64 k]) rfl HSR.out (by omega) (by omega) (Nat.zero_le _) ?_
  intro v7 w7 ho7 hg7 hv7
  have S7 := bk6 _ _ (row_app hR6 ho7 hg7 hv7)
  obtain ⟨A7, c7, rfl⟩ := own_form ho7
  have e1 : ints q.H ++ [.int .i64 k] = ints (q.H ++ [k]) := by unfold ints; rw [List.map_append]; rfl
  rw [e1] at S7
  have S8 : Run F w (star (star (rowR g1 s g.acc.length f) (star (PairX { q with H := q.H ++ [k] } { l with A := A7, c := c7 }) (restR g1 p s f t))) (CellO bx #[.slice l.A q.H.length l.c, .int .i64 q.rc, .int .i64 q.conf, .slice l.B l.zs.length l.d] 118)) w7 := S7.perm (by
    unfold PairX
    simp only [List.length_append, List.length_singleton]
    ac_rfl)
  obtain ⟨FR, hRR⟩ := (S8.perm (by ac_rfl : _ = star (restR g1 p s f t) (star (rowR g1 s g.acc.length f) (star (PairX { q with H := q.H ++ [k] } { l with A := A7, c := c7 }) (CellO bx #[.slice l.A q.H.length l.c, .int .i64 q.rc, .int .i64 q.conf, .slice l.B l.zs.length l.d] 118))))).fst
  obtain ⟨c3'', pk⟩ := restR_cells hRR
  have pf'' := pk f HF.out
  rw [HLEN.out] at c3'' pf''
  obtain ⟨FQ, hQ⟩ := (S8.perm (by ac_rfl : _ = star (rowR g1 s g.acc.length f) (star (star (PairX { q with H := q.H ++ [k] } { l with A := A7, c := c7 }) (restR g1 p s f t)) (CellO bx #[.slice l.A q.H.length l.c, .int .i64 q.rc, .int .i64 q.conf, .slice l.B l.zs.length l.d] 118)))).fst
  have zf := row_free hQ (t * 4) (by omega)
  have q0 : w7.cell? ⟨s.row f, t * 4, none⟩ = some (.slice l.A q.H.length l.c) := by
    have hg := flat_get (fun j => pcl (g1.p2 (f, j)) (s.ps (f, j))) 4 (fun j => pcl_len _ _) (l := List.range g.acc.length) (k := t) (by simpa using ht) 0 (by omega)
    simp only [List.getElem_range, HP2.out, HLK.out] at hg
    exact row_cell hQ (by simpa [pcl, rowL] using hg)
  have okR := (S8.swap.drop)
  have S9 := ref_setQ (g := g1) HF.out HT.out (by rw [HLEN.out]; exact okR) 0 (by omega) (.slice A7 (q.H.length + 1) c7) (by rw [HP2.out, HLK.out]; simp [pcl])
  have HFIN := hide ((S9.post refS_ok))
  refine hK.out _ _ ⟨c3'', pf''⟩ ?_
  clear e1 hK X6 hR6 bk6 ho7 hg7 hv7 S7 S8 hRR pk hQ okR S9 HR5
  (repeat (first | (refine lew_skip (by rfl) (by rfl) ?_; try simp only [Act.put, List.setIfInBounds_toArray, List.set_cons_zero, List.set_cons_succ]) | (refine lew_read0 (v := ?_) (by rfl) (by rfl) ?_ ?_; rotate_left; (focus (intro w' hS'; go_simp; (try with_reducible rfl); done)); try simp only [Act.put, List.setIfInBounds_toArray, List.set_cons_zero, List.set_cons_succ]) | (refine lew_read1 (v := ?_) (by rfl) (by rfl) ?_ ?_; rotate_left; (focus (intro w' hS'; go_simp; (try with_reducible rfl); done)); try simp only [Act.put, List.setIfInBounds_toArray, List.set_cons_zero, List.set_cons_succ]) | (refine lew_read2 (v := ?_) (by rfl) (by rfl) ?_ ?_; rotate_left; (focus (intro w' hS'; go_simp; (try with_reducible rfl); done)); try simp only [Act.put, List.setIfInBounds_toArray, List.set_cons_zero, List.set_cons_succ]) | (refine lew_read3 (v := ?_) (by rfl) (by rfl) ?_ ?_; rotate_left; (focus (intro w' hS'; go_simp; (try with_reducible rfl); done)); try simp only [Act.put, List.setIfInBounds_toArray, List.set_cons_zero, List.set_cons_succ]) | (refine lew_read4 (v := ?_) (by rfl) (by rfl) ?_ ?_; rotate_left; (focus (intro w' hS'; go_simp; (try with_reducible rfl); done)); try simp only [Act.put, List.setIfInBounds_toArray, List.set_cons_zero, List.set_cons_succ])))
  refine lew_chain3 rfl (by rfl) (fun K hK => ?_)
  go_wp2_with fail
  refine hK.out _ _ trivial (lew_nil ?_)
  clear hK
  go_wp2_with fail
  go_ret
  obtain ⟨F', z1, z2, z3⟩ := HFIN.out
  exact ⟨rfl, F', ⟨_, refZ_setP HZ.out (give_z HPr.out HZK.out k A7 c7), z1⟩, z2, z3⟩
end Go.Proofs.Ytapabbpdfplpoaa
namespace Go.Proofs.Ytapabbpdfplpoaa
open Go.RowKit Go.CH Go.CH.Esc
open Go.ChangeMaps (setBlock)

theorem is_nat {g : GM} {r : Int} (h : g.is r = true) : ∃ k : Nat, r = k ∧ k < g.acc.length := ⟨r.toNat, by have := (is_lt h).1; omega, (is_lt h).2⟩
set_option maxRecDepth 100000 in
set_option maxHeartbeats 3200000 in
theorem rgive_any {w : World} {F : Nat → Prop} {g : GM} {p : Nat} (h : RefO g p w F) {U : Int} (hI : Inv g U) (f t k : Int) (hl : (g.pr (f, t)).H.length ≤ 999999) :
    Calls Try.prog 62 #[.pointer (some ⟨p, 0, none⟩), .int .i64 f, .int .i64 t, .int .i64 k] w (RPost w F (.int .i64 (giveE g f t k)) (giveM g f t k) p) := by
  have H := hide h
  obtain ⟨s, hz, hS⟩ := h
  have KF := hide (ris_any hS.read f)
  have KT := hide (ris_any hS.read t)
  cases hp : g.pair f t with
  | false =>
    have e1 : giveE g f t k = 1 := by simp [giveE, hp]
    rw [e1, show giveM g f t k = g by simp [giveM, e1]]
    clear e1 hI hl
    cases hif : g.is f with
    | false =>
      rw [hif] at KF
      clear hif hS hz KT
      go_enter Try.func62, Try.ntmps62
      go_wp2_with fail
      refine KF.out.mono ?_
      rintro e w' ⟨rfl, rfl⟩
      go_wp2_with fail
      go_ret
      exact RPost.quiet H.out ⟨rfl, rfl⟩
    | true =>
      rw [hif] at KF
      cases hit : g.is t with
      | false =>
        rw [hit] at KT
        clear hif hit hS hz
        go_enter Try.func62, Try.ntmps62
        go_wp2_with fail
        refine KF.out.mono ?_
        rintro e w' ⟨rfl, rfl⟩
        go_wp2_with fail
        refine KT.out.mono ?_
        rintro e w' ⟨rfl, rfl⟩
        go_wp2_with fail
        go_ret
        exact RPost.quiet H.out ⟨rfl, rfl⟩
      | true =>
        have hft : f = t := by
          simp [GM.pair, hif, hit] at hp; exact hp
        subst hft
        rw [hit] at KT
        clear hif hit hS hz KT
        go_enter Try.func62, Try.ntmps62
        go_wp2_with fail
        refine KF.out.mono ?_
        rintro e w' ⟨rfl, rfl⟩
        go_wp2_with fail
        refine KF.out.mono ?_
        rintro e w' ⟨rfl, rfl⟩
        go_wp2_with fail
        go_ret
        exact RPost.quiet H.out ⟨rfl, rfl⟩
  | true =>
    obtain ⟨hif, hit, hne⟩ := pair_is hp
    rw [hif] at KF
    rw [hit] at KT
    obtain ⟨a, rfl, ha⟩ := is_nat hif
    obtain ⟨b, rfl, hb⟩ := is_nat hit
    have hn8 := hI.nb.2
    have hPr := hI.pr _ _ hp
    have hR := hS.read
    have c0 := hR.c0
    have c3 := hR.c3
    obtain ⟨u0, -, -⟩ := hR.u a ha
    rw [← at_nat ha] at u0
    have p0 := hR.p a ha
    obtain ⟨q0, q1, q2, q3⟩ := hR.q a b ha hb
    rw [show g.p2 (a, b) = g.pr ((a : Int), (b : Int)) from rfl] at q0 q1 q2
    have hft : ((a : Int) == (b : Int)) = false := by simpa using hne
    have hft2 : ¬ ((a : Int) = (b : Int)) := hne
    by_cases h1 : k < 1
    · have e1 : giveE g a b k = 1 := by simp [giveE, h1]
      rw [e1, show giveM g a b k = g by simp [giveM, e1]]
      clear e1 hI hl hS hz hR hif hit hp hPr u0 q0 q1 q2 q3 p0 c0 c3
      go_enter Try.func62, Try.ntmps62
      go_wp2_with fail
      refine KF.out.mono ?_
      rintro e w' ⟨rfl, rfl⟩
      go_wp2_with fail
      refine KT.out.mono ?_
      rintro e w' ⟨rfl, rfl⟩
      go_wp2_with fail
      go_ret
      exact RPost.quiet H.out ⟨rfl, rfl⟩
    · by_cases h2 : (g.at_ a).u < k
      · have e1 : giveE g a b k = 19 := by simp [giveE, h1, h2, hp]
        rw [e1, show giveM g a b k = g by simp [giveM, e1]]
        generalize (g.at_ (a : Int)).u = xu at *
        clear e1 hI hl hS hz hR hif hit hp hPr q0 q1 q2 q3 p0 c3
        go_enter Try.func62, Try.ntmps62
        go_wp2_with fail
        refine KF.out.mono ?_
        rintro e w' ⟨rfl, rfl⟩
        go_wp2_with fail
        refine KT.out.mono ?_
        rintro e w' ⟨rfl, rfl⟩
        go_wp2_with fail
        go_ret
        exact RPost.quiet H.out ⟨rfl, rfl⟩
      · by_cases h3 : 100 ≤ (g.pr (a, b)).H.length - (g.pr (a, b)).conf
        · have e1 : giveE g a b k = 28 := by simp [giveE, h1, h2, h3, hp]
          rw [e1, show giveM g a b k = g by simp [giveM, e1]]
          have hcr := hPr.cr
          have hrl := hPr.rl
          have h4 : (100 : Int) ≤ ((g.pr ((a : Int), (b : Int))).H.length : Int) - (g.pr ((a : Int), (b : Int))).conf := by omega
          generalize (g.at_ (a : Int)).u = xu at *
          have HH := hide (show True from trivial)
          have hbel : Below w.heap.size w (w.alloc (.cells #[.slice (s.ps (a, b)).A (g.pr ((a : Int), (b : Int))).H.length (s.ps (a, b)).c, .int .i64 (g.pr ((a : Int), (b : Int))).rc, .int .i64 (g.pr ((a : Int), (b : Int))).conf, .slice (s.ps (a, b)).B (s.ps (a, b)).zs.length (s.ps (a, b)).d] 118)) := (Below.refl _ _).alloc (Nat.le_refl _) _
          have HP := hide (((Run.start hS).below refS_ok hbel).post refS_ok)
          have HZ := hide hz
          clear e1 hI hS hz hR hif hit hp hPr h3 hbel
          generalize g.pr ((a : Int), (b : Int)) = q at *
          generalize s.ps (a, b) = l at *
          go_enter Try.func62, Try.ntmps62
          go_wp2_with fail
          refine KF.out.mono ?_
          rintro e w' ⟨rfl, rfl⟩
          go_wp2_with fail
          refine KT.out.mono ?_
          rintro e w' ⟨rfl, rfl⟩
          go_wp2_with fail
          go_ret
          obtain ⟨F', z1, z2, z3⟩ := HP.out
          exact ⟨rfl, F', ⟨_, HZ.out, z1⟩, z2, z3⟩
        · have e1 : giveE g a b k = 0 := by simp [giveE, h1, h2, h3, hp]
          rw [e1, give_eq e1]
          exact rgive_ok ⟨s, hz, hS⟩ hI hp k (by omega) (by omega) hl (by omega)
set_option maxRecDepth 100000 in
set_option maxHeartbeats 3200000 in
theorem rsend_no {w : World} {F : Nat → Prop} {g : GM} {p : Nat} (h : RefO g p w F) {U : Int} (hI : Inv g U) (f t : Int) (hE : sendE g f t ≠ 0) :
    Calls Try.prog 63 #[.pointer (some ⟨p, 0, none⟩), .int .i64 f, .int .i64 t] w (RPost w F (.int .i64 (sendE g f t)) (sendM g f t) p) := by
  have H := hide h
  obtain ⟨s, hz, hS⟩ := h
  have KF := hide (ris_any hS.read f)
  have KT := hide (ris_any hS.read t)
  rw [show sendM g f t = g by unfold sendM; rw [if_neg hE]]
  cases hp : g.pair f t with
  | false =>
    rw [show sendE g f t = 1 by simp [sendE, hp]]
    clear hE hI
    cases hif : g.is f with
    | false =>
      rw [hif] at KF
      clear hif hS hz KT
      go_enter Try.func63, Try.ntmps63
      go_wp2_with fail
      refine KF.out.mono ?_
      rintro e w' ⟨rfl, rfl⟩
      go_wp2_with fail
      go_ret
      exact RPost.quiet H.out ⟨rfl, rfl⟩
    | true =>
      rw [hif] at KF
      cases hit : g.is t with
      | false =>
        rw [hit] at KT
        clear hif hit hS hz
        go_enter Try.func63, Try.ntmps63
        go_wp2_with fail
        refine KF.out.mono ?_
        rintro e w' ⟨rfl, rfl⟩
        go_wp2_with fail
        refine KT.out.mono ?_
        rintro e w' ⟨rfl, rfl⟩
        go_wp2_with fail
        go_ret
        exact RPost.quiet H.out ⟨rfl, rfl⟩
      | true =>
        have hft : f = t := by
          simp [GM.pair, hif, hit] at hp; exact hp
        subst hft
        rw [hit] at KT
        clear hif hit hS hz KT
        go_enter Try.func63, Try.ntmps63
        go_wp2_with fail
        refine KF.out.mono ?_
        rintro e w' ⟨rfl, rfl⟩
        go_wp2_with fail
        refine KF.out.mono ?_
        rintro e w' ⟨rfl, rfl⟩
        go_wp2_with fail
        go_ret
        exact RPost.quiet H.out ⟨rfl, rfl⟩
  | true =>
    obtain ⟨hif, hit, hne⟩ := pair_is hp
    rw [hif] at KF
    rw [hit] at KT
    obtain ⟨a, rfl, ha⟩ := is_nat hif
    obtain ⟨b, rfl, hb⟩ := is_nat hit
    have hn8 := hI.nb.2
    have hR := hS.read
    have c3 := hR.c3
    have p0 := hR.p a ha
    obtain ⟨q0, q1, q2, q3⟩ := hR.q a b ha hb
    rw [show g.p2 (a, b) = g.pr ((a : Int), (b : Int)) from rfl] at q0 q1 q2
    have hft : ((a : Int) == (b : Int)) = false := by simpa using hne
    have hft2 : ¬ ((a : Int) = (b : Int)) := hne
    by_cases h3 : 100 ≤ (g.pr (a, b)).ms.length
    · rw [show sendE g a b = 28 by simp [sendE, h3, hp]]
      have hzk := hz (a, b) (mem_keys2.2 ⟨ha, hb⟩)
      have hnz : (s.ps (a, b)).zs.length = (g.pr (a, b)).ms.length := by rw [← show (g.p2 (a, b)).ms = (g.pr (a, b)).ms from rfl, ← hzk.1]; simp
      have h4 : (100 : Int) ≤ ((s.ps (a, b)).zs.length : Int) := by omega
      have hbel : Below w.heap.size w (w.alloc (.cells #[.slice (s.ps (a, b)).A (g.pr ((a : Int), (b : Int))).H.length (s.ps (a, b)).c, .int .i64 (g.pr ((a : Int), (b : Int))).rc, .int .i64 (g.pr ((a : Int), (b : Int))).conf, .slice (s.ps (a, b)).B (s.ps (a, b)).zs.length (s.ps (a, b)).d] 118)) := (Below.refl _ _).alloc (Nat.le_refl _) _
      have HP := hide (((Run.start hS).below refS_ok hbel).post refS_ok)
      have HZ := hide hz
      clear hE hI hS hz hR hif hit hp h3 hbel hzk hnz
      generalize g.pr ((a : Int), (b : Int)) = q at *
      generalize s.ps (a, b) = l at *
      go_enter Try.func63, Try.ntmps63
      go_wp2_with fail
      refine KF.out.mono ?_
      rintro e w' ⟨rfl, rfl⟩
      go_wp2_with fail
      refine KT.out.mono ?_
      rintro e w' ⟨rfl, rfl⟩
      go_wp2_with fail
      go_ret
      obtain ⟨F', z1, z2, z3⟩ := HP.out
      exact ⟨rfl, F', ⟨_, HZ.out, z1⟩, z2, z3⟩
    · exact (hE (by simp [sendE, h3, hp])).elim
set_option maxRecDepth 100000 in
set_option maxHeartbeats 3200000 in
theorem rdel_no {w : World} {F : Nat → Prop} {g : GM} {p : Nat} (h : RefO g p w F) {U : Int} (hI : Inv g U) (f t : Int) (lost again : Bool) (hE : delE g f t = false) :
    Calls Try.prog 64 #[.pointer (some ⟨p, 0, none⟩), .int .i64 f, .int .i64 t, .bool lost, .bool again] w (RPost w F (.bool false) g p) := by
  have H := hide h
  obtain ⟨s, hz, hS⟩ := h
  have KF := hide (ris_any hS.read f)
  have KT := hide (ris_any hS.read t)
  cases hp : g.pair f t with
  | false =>
    clear hE hI
    cases hif : g.is f with
    | false =>
      rw [hif] at KF
      clear hif hS hz KT
      go_enter Try.func64, Try.ntmps64
      go_wp2_with fail
      refine KF.out.mono ?_
      rintro e w' ⟨rfl, rfl⟩
      go_wp2_with fail
      go_ret
      exact RPost.quiet H.out ⟨rfl, rfl⟩
    | true =>
      rw [hif] at KF
      cases hit : g.is t with
      | false =>
        rw [hit] at KT
        clear hif hit hS hz
        go_enter Try.func64, Try.ntmps64
        go_wp2_with fail
        refine KF.out.mono ?_
        rintro e w' ⟨rfl, rfl⟩
        go_wp2_with fail
        refine KT.out.mono ?_
        rintro e w' ⟨rfl, rfl⟩
        go_wp2_with fail
        go_ret
        exact RPost.quiet H.out ⟨rfl, rfl⟩
      | true =>
        have hft : f = t := by
          simp [GM.pair, hif, hit] at hp; exact hp
        subst hft
        rw [hit] at KT
        clear hif hit hS hz KT
        go_enter Try.func64, Try.ntmps64
        go_wp2_with fail
        refine KF.out.mono ?_
        rintro e w' ⟨rfl, rfl⟩
        go_wp2_with fail
        refine KF.out.mono ?_
        rintro e w' ⟨rfl, rfl⟩
        go_wp2_with fail
        go_ret
        exact RPost.quiet H.out ⟨rfl, rfl⟩
  | true =>
    obtain ⟨hif, hit, hne⟩ := pair_is hp
    rw [hif] at KF
    rw [hit] at KT
    obtain ⟨a, rfl, ha⟩ := is_nat hif
    obtain ⟨b, rfl, hb⟩ := is_nat hit
    have hn8 := hI.nb.2
    have hR := hS.read
    have c3 := hR.c3
    have p0 := hR.p a ha
    obtain ⟨q0, q1, q2, q3⟩ := hR.q a b ha hb
    rw [show g.p2 (a, b) = g.pr ((a : Int), (b : Int)) from rfl] at q0 q1 q2
    have hft : ((a : Int) == (b : Int)) = false := by simpa using hne
    have hft2 : ¬ ((a : Int) = (b : Int)) := hne
    have hzk := hz (a, b) (mem_keys2.2 ⟨ha, hb⟩)
    have hms : (g.pr ((a : Int), (b : Int))).ms = [] := by unfold delE at hE; rw [hp] at hE; simpa using hE
    have hnz : (s.ps (a, b)).zs.length = 0 := by
      have : (s.ps (a, b)).zs.length = (g.p2 (a, b)).ms.length := by rw [← hzk.1]; simp
      rw [this, show (g.p2 (a, b)).ms = (g.pr ((a : Int), (b : Int))).ms from rfl, hms]; rfl
    rw [hnz] at q3
    clear hE hI hS hz hR hif hit hp hzk hnz hms
    go_enter Try.func64, Try.ntmps64
    go_wp2_with fail
    refine KF.out.mono ?_
    rintro e w' ⟨rfl, rfl⟩
    go_wp2_with fail
    refine KT.out.mono ?_
    rintro e w' ⟨rfl, rfl⟩
    go_wp2_with fail
    go_ret
    exact RPost.quiet H.out ⟨rfl, rfl⟩
end Go.Proofs.Ytapabbpdfplpoaa
namespace Go.Proofs.Ytapabbpdfplpoaa
open Go.RowKit Go.CH Go.CH.Esc
open Go.ChangeMaps (setBlock)

theorem rmsgOk : SliceOk Try.prog 116 158 (.agg #[.int .i64 0, .slice none 0 0, .int .i64 0, .bool false]) 4 48 := ⟨Try.underlying116, by kernel_rfl, rfl, by decide⟩
theorem rcl_one (z : ZMsg) : ∀ u ∈ rcl z, u.oneCell' = true := by
  intro u hu
  simp [rcl] at hu
  rcases hu with rfl | rfl | rfl | rfl <;> rfl
/-- The parts of a Send: the transfers gathered so far, the message's box, the reference, the pair's box. -/
def SndO (g : GM) (p : Nat) (s : RefP) (bx : Nat) (q : PrG) (l : LinS) (bm : Nat) (rcb : Int) (rv : Bool) (A : Option Addr) (n c : Nat) (xs : List Int) : Own :=
  star (RowO 3 1 (.slice A n c) n (ints xs)) (star (CellO bm #[.int .i64 (q.conf + 1), .slice A n c, .int .i64 rcb, .bool rv] 158) (star (CellO bx #[.slice l.A q.H.length l.c, .int .i64 q.rc, .int .i64 q.conf, .slice l.B l.zs.length l.d] 118) (RefS g p s)))
theorem sndO_ok {g : GM} {p : Nat} {s : RefP} {bx : Nat} {q : PrG} {l : LinS} {bm : Nat} {rcb : Int} {rv : Bool} {A : Option Addr} {n c : Nat} {xs : List Int} : (SndO g p s bx q l bm rcb rv A n c xs).Ok := star_ok row_ok (star_ok cell_ok (star_ok cell_ok refS_ok))
structure SndR (w : World) (g : GM) (p : Nat) (s : RefP) (bx : Nat) (q : PrG) (l : LinS) (bm : Nat) (rcb : Int) (rv : Bool) (A : Option Addr) (n c : Nat) : Prop where
  m0 : w.cell? ⟨bm, 0, none⟩ = some (.int .i64 (q.conf + 1))
  m1 : w.cell? ⟨bm, 1, none⟩ = some (.slice A n c)
  m2 : w.cell? ⟨bm, 2, none⟩ = some (.int .i64 rcb)
  m3 : w.cell? ⟨bm, 3, none⟩ = some (.bool rv)
  mf : w.frozen? ⟨bm, 1, none⟩ = false
  b0 : w.cell? ⟨bx, 0, none⟩ = some (.slice l.A q.H.length l.c)
  b2 : w.cell? ⟨bx, 2, none⟩ = some (.int .i64 q.conf)
  b3 : w.cell? ⟨bx, 3, none⟩ = some (.slice l.B l.zs.length l.d)
  r : RefR w g p s
theorem sndO_read {F0 : Nat → Prop} {w0 W : World} {g : GM} {p : Nat} {s : RefP} {bx : Nat} {q : PrG} {l : LinS} {bm : Nat} {rcb : Int} {rv : Bool} {A : Option Addr} {n c : Nat} {xs : List Int} (h : Run F0 w0 (SndO g p s bx q l bm rcb rv A n c xs) W) : SndR W g p s bx q l bm rcb rv A n c := by
  obtain ⟨F1, ⟨F2, F3, h1, ⟨F4, F5, h2, ⟨F6, F7, h3, h4, _, _⟩, _, _⟩, _, _⟩, _⟩ := h.own
  exact ⟨cell_at h2 rfl, cell_at h2 rfl, cell_at h2 rfl, cell_at h2 rfl, cell_free h2 1, cell_at h3 rfl, cell_at h3 rfl, cell_at h3 rfl, h4.read⟩
theorem row_of_emp {w : World} {F : Nat → Prop} {e : TypeId} {size : Nat} (h : emp w F) : RowO e size (.slice none 0 0) 0 [] w F := ⟨World.ownsRow_nil _ _ _ _, fun i => by simp [Value.ownBlock]; exact h i⟩
theorem snd_start {F0 : Nat → Prop} {w0 W : World} {g : GM} {p : Nat} {s : RefP} {bx : Nat} {q : PrG} {l : LinS} {rcb : Int} {rv : Bool} (h : Run F0 w0 (star (CellO bx #[.slice l.A q.H.length l.c, .int .i64 q.rc, .int .i64 q.conf, .slice l.B l.zs.length l.d] 118) (RefS g p s)) W) :
    Run F0 w0 (SndO g p s bx q l W.heap.size rcb rv none 0 0 []) (W.alloc (.cells #[.int .i64 (q.conf + 1), .slice none 0 0, .int .i64 rcb, .bool rv] 158)) := by
  have h1 := h.fresh (star_ok cell_ok refS_ok) (cell_new W #[.int .i64 (q.conf + 1), .slice none 0 0, .int .i64 rcb, .bool rv] 158)
  have h2 := h1.perm (emp_star _).symm
  exact h2.imp fun w F h => star_mono h (fun F h => row_of_emp h) (fun _ h => h)
/-- One more transfer in the message. -/
theorem snd_next {F0 : Nat → Prop} {w0 W : World} {g : GM} {p : Nat} {s : RefP} {bx : Nat} {q : PrG} {l : LinS} {bm : Nat} {rcb : Int} {rv : Bool} {A A' : Option Addr} {n c c' : Nat} {xs : List Int} {x : Int}
    (h : Run F0 w0 (star (RowO 3 1 (.slice A' (n + 1) c') (n + 1) (ints xs ++ [.int .i64 x])) (star (CellO bm #[.int .i64 (q.conf + 1), .slice A n c, .int .i64 rcb, .bool rv] 158) (star (CellO bx #[.slice l.A q.H.length l.c, .int .i64 q.rc, .int .i64 q.conf, .slice l.B l.zs.length l.d] 118) (RefS g p s)))) W) :
    Run F0 w0 (SndO g p s bx q l bm rcb rv A' (n + 1) c' (xs ++ [x])) (W.setCell ⟨bm, 1, none⟩ (.slice A' (n + 1) c')) ∧ W.frozen? ⟨bm, 1, none⟩ = false ∧ W.cell? ⟨bm, 1, none⟩ = some (.slice A n c) := by
  obtain ⟨F1, hC, -, bk⟩ := h.rot.take cell_ok (star_ok row_ok (star_ok cell_ok refS_ok))
  refine ⟨?_, cell_free hC 1, cell_at hC rfl⟩
  have h2 := (bk _ _ (cell_set hC 1 (.slice A' (n + 1) c'))).rot
  unfold SndO
  rw [show ints (xs ++ [x]) = ints xs ++ [.int .i64 x] by unfold ints; rw [List.map_append]; rfl]
  exact h2
set_option maxRecDepth 100000 in
set_option maxHeartbeats 4000000 in
theorem rsend_ok {w : World} {F : Nat → Prop} {g : GM} {p : Nat} (h : RefO g p w F) {U : Int} (hI : Inv g U) {f t : Nat} (hp : g.pair f t = true) (hl : (g.pr (f, t)).H.length ≤ 999999) (hq : (g.pr (f, t)).ms.length < 100) :
    Calls Try.prog 63 #[.pointer (some ⟨p, 0, none⟩), .int .i64 f, .int .i64 t] w (RPost w F (.int .i64 0) (g.setP (f, t) { g.pr (f, t) with ms := (g.pr (f, t)).ms ++ [⟨(g.pr (f, t)).conf, (g.pr (f, t)).H.length, (g.pr (t, f)).rc, (g.at_ f).rev⟩] }) p) := by
  obtain ⟨hif, hit, hne⟩ := pair_is hp
  have hPr := hI.pr f t hp
  obtain ⟨s, hz, hS⟩ := h
  have hf : f < g.acc.length := by simpa using (is_lt hif).2
  have ht : t < g.acc.length := by simpa using (is_lt hit).2
  have hR := hS.read
  have KF := hide (ris_any hR f)
  have KT := hide (ris_any hR t)
  rw [hif] at KF
  rw [hit] at KT
  have c3 := hR.c3
  have p0 := hR.p f hf
  obtain ⟨q0, q1, q2, q3⟩ := hR.q f t hf ht
  have hzk := hz (f, t) (mem_keys2.2 ⟨hf, ht⟩)
  have hn8 := hI.nb.2
  rw [show g.p2 (f, t) = g.pr ((f : Int), (t : Int)) from rfl] at q0 q1 q2 hzk
  have hft : ((f : Int) == (t : Int)) = false := by simpa using hne
  have hft2 : ¬ ((f : Int) = (t : Int)) := hne
  have hcr := hPr.cr
  have hrl := hPr.rl
  have hnz : (s.ps (f, t)).zs.length = (g.pr ((f : Int), (t : Int))).ms.length := by rw [← hzk.1]; simp
  have hz100 : (s.ps (f, t)).zs.length < 100 := by omega
  have e3 : ¬ ((100 : Int) ≤ ((s.ps (f, t)).zs.length : Int)) := by omega
  have e4 : decide ((100 : Int) ≤ ((s.ps (f, t)).zs.length : Int)) = false := decide_eq_false e3
  have t1 : IntKind.i64.wrap (((g.pr ((f : Int), (t : Int))).conf : Int) + 1) = ((g.pr ((f : Int), (t : Int))).conf : Int) + 1 := IntWalk.i64_in _ (by omega)
  have R1 := (Run.start hS).fresh refS_ok (cell_new w (pcl (g.pr ((f : Int), (t : Int))) (s.ps (f, t))).toArray 118)
  have R1d := R1.drew (star_ok cell_ok refS_ok)
  have HR1 := hide R1d
  obtain ⟨FS, hS1⟩ := R1d.swap.fst
  have hR1 := hS1.read
  have d2 := hR1.c2
  have d3 := hR1.c3
  obtain ⟨-, -, drv⟩ := hR1.u f hf
  have dp := hR1.p t ht
  obtain ⟨-, drc, -, -⟩ := hR1.q t f ht hf
  rw [show g.p2 (t, f) = g.pr ((t : Int), (f : Int)) from rfl] at drc
  rw [← at_nat hf] at drv
  obtain ⟨FB, hB⟩ := R1d.fst
  have db := cell_at hB (i := 2) (v := .int .i64 (g.pr ((f : Int), (t : Int))).conf) rfl
  have HZ := hide hz
  have HZK := hide hzk
  have HP2 := hide (show g.p2 (f, t) = g.pr ((f : Int), (t : Int)) from rfl)
  generalize (g.at_ (f : Int)).rev = rv at *
  generalize (g.pr ((t : Int), (f : Int))).rc = rcb at *
  clear hS hR hI hPr hz hzk R1 R1d hS1 hR1 hB hif hit hp hnz
  unfold pcl at HR1 d2 d3 drv dp drc db
  go_enter Try.func63, Try.ntmps63
  go_wp2_with fail
  refine KF.out.mono ?_
  rintro e w' ⟨rfl, rfl⟩
  go_wp2_with fail
  refine KT.out.mono ?_
  rintro e w' ⟨rfl, rfl⟩
  go_wp2_with fail
  generalize w.heap.size = bx at *
  generalize w.alloc (.cells _ 118) = W1 at *
  clear c3 p0 q0 q1 q2 q3 e3 e4
  generalize g.pr ((f : Int), (t : Int)) = q at *
  generalize hlk : s.ps (f, t) = l at *
  have HLK := hide hlk
  clear hlk
  refine wp_region_lew [22, 23] [1, 1, 1, 1, 1, 1, 1, 1, 1, 1, 1, 1, 1, 1, 1, 1, 1, 1, 1, 1, 1, 1, 1, 2]
    (fun w' => w'.cell? ⟨p, 2, none⟩ = some (.slice (some ⟨s.bR, 0, none⟩) g.acc.length g.acc.length) ∧ w'.cell? ⟨p, 3, none⟩ = some (.slice (some ⟨s.bP, 0, none⟩) g.acc.length s.cP) ∧ w'.cell? ⟨s.bR, f, none⟩ = some (.bool rv) ∧ w'.cell? ⟨s.bP, t, none⟩ = some (.slice (some ⟨s.row t, 0, none⟩) g.acc.length g.acc.length) ∧ w'.cell? ⟨s.row t, f * 4 + 1, none⟩ = some (.int .i64 rcb) ∧ w'.cell? ⟨bx, 2, none⟩ = some (.int .i64 q.conf))
    (fun w' => w'.cell? ⟨p, 2, none⟩ = some (.slice (some ⟨s.bR, 0, none⟩) g.acc.length g.acc.length) ∧ w'.cell? ⟨p, 3, none⟩ = some (.slice (some ⟨s.bP, 0, none⟩) g.acc.length s.cP) ∧ w'.cell? ⟨s.bR, f, none⟩ = some (.bool rv) ∧ w'.cell? ⟨s.bP, t, none⟩ = some (.slice (some ⟨s.row t, 0, none⟩) g.acc.length g.acc.length) ∧ w'.cell? ⟨s.row t, f * 4 + 1, none⟩ = some (.int .i64 rcb) ∧ w'.cell? ⟨bx, 2, none⟩ = some (.int .i64 q.conf))
    (fun _ => True) (fun _ => True) (fun _ h => h) (fun _ _ => trivial) (fun _ h => h) (by kernel_rfl) (by kernel_rfl) (by kernel_rfl) (by kernel_rfl) (by exact ⟨d2, d3, drv, dp, drc, db⟩) ?_
  (repeat (first | (refine lew_skip (by rfl) (by rfl) ?_; try simp only [Act.put, List.setIfInBounds_toArray, List.set_cons_zero, List.set_cons_succ]) | (refine lew_read0 (v := ?_) (by rfl) (by rfl) ?_ ?_; rotate_left; (focus (intro w' hS'; go_simp; (try with_reducible rfl); done)); try simp only [Act.put, List.setIfInBounds_toArray, List.set_cons_zero, List.set_cons_succ]) | (refine lew_read1 (v := ?_) (by rfl) (by rfl) ?_ ?_; rotate_left; (focus (intro w' hS'; go_simp; (try with_reducible rfl); done)); try simp only [Act.put, List.setIfInBounds_toArray, List.set_cons_zero, List.set_cons_succ]) | (refine lew_read2 (v := ?_) (by rfl) (by rfl) ?_ ?_; rotate_left; (focus (intro w' hS'; go_simp; (try with_reducible rfl); done)); try simp only [Act.put, List.setIfInBounds_toArray, List.set_cons_zero, List.set_cons_succ]) | (refine lew_read3 (v := ?_) (by rfl) (by rfl) ?_ ?_; rotate_left; (focus (intro w' hS'; go_simp; (try with_reducible rfl); done)); try simp only [Act.put, List.setIfInBounds_toArray, List.set_cons_zero, List.set_cons_succ]) | (refine lew_read4 (v := ?_) (by rfl) (by rfl) ?_ ?_; rotate_left; (focus (intro w' hS'; go_simp; (try with_reducible rfl); done)); try simp only [Act.put, List.setIfInBounds_toArray, List.set_cons_zero, List.set_cons_succ])))
  refine lew_chain1 rfl (by rfl) (fun K hK => ?_)
  go_wp2_with fail
  have e2 : (W1.drew.alloc (.cells #[.int .i64 0, .slice none 0 0, .int .i64 0, .bool false] 158)).cell? ⟨p, 2, none⟩ = some (.slice (some ⟨s.bR, 0, none⟩) g.acc.length g.acc.length) := by rw [World.cell?_of_block (heap_old (World.block_lt_of_cell? _ _ d2))]; exact d2
  refine hK.out _ _ ?_ ?_
  · have old : ∀ (a : Addr) v, W1.cell? a = some v → (W1.drew.alloc (.cells #[.int .i64 0, .slice none 0 0, .int .i64 0, .bool false] 158)).cell? a = some v := fun a v h => by
      rw [World.cell?_of_block (heap_old (w := W1.drew) (World.block_lt_of_cell? _ _ h))]; exact h
    exact ⟨old _ _ d2, old _ _ d3, old _ _ drv, old _ _ dp, old _ _ drc, old _ _ db⟩
  have S0 := hide (show Run F w (SndO g p s bx q l W1.heap.size rcb rv none 0 0 []) (W1.alloc (.cells #[.int .i64 (q.conf + 1), .slice none 0 0, .int .i64 rcb, .bool rv] 158)).drew from snd_start HR1.out)
  have db2 := (sndO_read S0.out).b2
  have db0 := (sndO_read S0.out).b0
  clear hK d2 d3 drv dp drc db e2 HR1
  (repeat (first | (refine lew_skip (by rfl) (by rfl) ?_; try simp only [Act.put, List.setIfInBounds_toArray, List.set_cons_zero, List.set_cons_succ]) | (refine lew_read0 (v := ?_) (by rfl) (by rfl) ?_ ?_; rotate_left; (focus (intro w' hS'; go_simp; (try with_reducible rfl); done)); try simp only [Act.put, List.setIfInBounds_toArray, List.set_cons_zero, List.set_cons_succ]) | (refine lew_read1 (v := ?_) (by rfl) (by rfl) ?_ ?_; rotate_left; (focus (intro w' hS'; go_simp; (try with_reducible rfl); done)); try simp only [Act.put, List.setIfInBounds_toArray, List.set_cons_zero, List.set_cons_succ]) | (refine lew_read2 (v := ?_) (by rfl) (by rfl) ?_ ?_; rotate_left; (focus (intro w' hS'; go_simp; (try with_reducible rfl); done)); try simp only [Act.put, List.setIfInBounds_toArray, List.set_cons_zero, List.set_cons_succ]) | (refine lew_read3 (v := ?_) (by rfl) (by rfl) ?_ ?_; rotate_left; (focus (intro w' hS'; go_simp; (try with_reducible rfl); done)); try simp only [Act.put, List.setIfInBounds_toArray, List.set_cons_zero, List.set_cons_succ]) | (refine lew_read4 (v := ?_) (by rfl) (by rfl) ?_ ?_; rotate_left; (focus (intro w' hS'; go_simp; (try with_reducible rfl); done)); try simp only [Act.put, List.setIfInBounds_toArray, List.set_cons_zero, List.set_cons_succ])))
  refine lew_chain2 rfl (by rfl) (fun K hK => ?_)
  go_wp2_with fail
  refine hK.out _ _ trivial (lew_nil ?_)
  clear hK
  generalize W1.heap.size = bm at *
  generalize (W1.alloc (.cells #[.int .i64 (q.conf + 1), .slice none 0 0, .int .i64 rcb, .bool rv] 158)).drew = W2 at *
  clear t1
  obtain ⟨LA, Lc, LB, Ld, lzs⟩ := l
  simp only [] at db0
  go_wp2_with fail
  go_loopw [9] (fun i wr => ∃ (j : Nat) (A : Option Addr) (c : Nat), q.conf ≤ j ∧ j ≤ q.H.length ∧ i = .int .i64 j ∧ Run F w (SndO g p s bx q ⟨LA, Lc, LB, Ld, lzs⟩ bm rcb rv A (j - q.conf) c ((q.H.take j).drop q.conf)) wr) (fun i _ => q.H.length - (intOf i).toNat)
  case atStart =>
    refine ⟨q.conf, none, 0, Nat.le_refl _, by omega, rfl, ?_⟩
    rw [Nat.sub_self, List.drop_eq_nil_of_le (by rw [List.length_take]; omega)]
    exact S0.out
  case round =>
    obtain ⟨j, A, c, hj1, hj2, rfl, hr⟩ := hrel
    have hrd := sndO_read hr
    have b0 := hrd.b0
    have m1 := hrd.m1
    have m0 := hrd.m0
    have m2 := hrd.m2
    have m3 := hrd.m3
    simp only [] at b0
    have hsrc := hrd.r.h f t hf ht
    rw [HP2.out, HLK.out] at hsrc
    simp only [] at hsrc
    have HR := hide hr
    clear S0 db0 db2
    by_cases hlt : j < q.H.length
    · obtain ⟨b, o, hLA, hc⟩ := hsrc.open_ (by omega) (by omega)
      subst hLA
      have ce := hc j (.int .i64 q.H[j]) (by simp [ints, hlt])
      have hnx : (q.H.take (j + 1)).drop q.conf = (q.H.take j).drop q.conf ++ [q.H[j]] := by
        rw [List.take_succ_eq_append_getElem hlt, List.drop_append_of_le_length (by rw [List.length_take]; omega)]
      have HNX := hide hnx
      generalize q.H[j] = x at *
      obtain ⟨n, hn⟩ : ∃ n, j - q.conf = n := ⟨_, rfl⟩
      rw [hn] at m1
      have hn2 : n ≤ 999999 := by omega
      have HN := hide hn
      clear hr hrd hc hsrc hnx hn m0 m2 m3
      go_wp2_with fail
      refine wp_region_lew [7, 8, 10] [1, 1, 0, 0, 0, 0, 0, 1, 2, 2, 3] (fun w' => w'.cell? ⟨bm, 1, none⟩ = some (.slice A n c) ∧ w'.cell? ⟨bx, 0, none⟩ = some (.slice (some ⟨b, o, none⟩) q.H.length Lc) ∧ w'.cell? ⟨b, o + j, none⟩ = some (.int .i64 x)) (fun w' => w'.cell? ⟨bm, 1, none⟩ = some (.slice A n c)) (fun _ => True) (fun _ => True) (fun _ h => h.1) (fun _ _ => trivial) (fun _ h => h) (by kernel_rfl) (by kernel_rfl) (by kernel_rfl) (by kernel_rfl) (by exact ⟨m1, b0, ce⟩) ?_
      (repeat (first | (refine lew_skip (by rfl) (by rfl) ?_; try simp only [Act.put, List.setIfInBounds_toArray, List.set_cons_zero, List.set_cons_succ]) | (refine lew_read0 (v := ?_) (by rfl) (by rfl) ?_ ?_; rotate_left; (focus (intro w' hS'; go_simp; (try with_reducible rfl); done)); try simp only [Act.put, List.setIfInBounds_toArray, List.set_cons_zero, List.set_cons_succ]) | (refine lew_read1 (v := ?_) (by rfl) (by rfl) ?_ ?_; rotate_left; (focus (intro w' hS'; go_simp; (try with_reducible rfl); done)); try simp only [Act.put, List.setIfInBounds_toArray, List.set_cons_zero, List.set_cons_succ]) | (refine lew_read2 (v := ?_) (by rfl) (by rfl) ?_ ?_; rotate_left; (focus (intro w' hS'; go_simp; (try with_reducible rfl); done)); try simp only [Act.put, List.setIfInBounds_toArray, List.set_cons_zero, List.set_cons_succ]) | (refine lew_read3 (v := ?_) (by rfl) (by rfl) ?_ ?_; rotate_left; (focus (intro w' hS'; go_simp; (try with_reducible rfl); done)); try simp only [Act.put, List.setIfInBounds_toArray, List.set_cons_zero, List.set_cons_succ]) | (refine lew_read4 (v := ?_) (by rfl) (by rfl) ?_ ?_; rotate_left; (focus (intro w' hS'; go_simp; (try with_reducible rfl); done)); try simp only [Act.put, List.setIfInBounds_toArray, List.set_cons_zero, List.set_cons_succ])))
      refine lew_chain1 rfl (by rfl) (fun K hK => ?_)
      go_wp2_with fail
      have R5 := HR.out.drew sndO_ok
      have HSR := hide (show Src (wr.alloc (.cells #[.int .i64 x] 3)).drew (some ⟨wr.heap.size, 0, none⟩) 1 1 [.int .i64 x] from src_one wr.drew x 3)
      have R6 := hide (show Run F w _ (wr.alloc (.cells #[.int .i64 x] 3)).drew from R5.below sndO_ok ((Below.refl _ _).alloc (Nat.le_refl _) (.cells #[.int .i64 x] 3)))
      have m1b := (sndO_read R6.out).m1
      rw [HN.out] at m1b
      refine hK.out _ _ m1b ?_
      clear hK R5 m1 b0 ce m1b
      generalize (wr.alloc (.cells #[.int .i64 x] 3)).drew = W5 at *
      (repeat (first | (refine lew_skip (by rfl) (by rfl) ?_; try simp only [Act.put, List.setIfInBounds_toArray, List.set_cons_zero, List.set_cons_succ]) | (refine lew_read0 (v := ?_) (by rfl) (by rfl) ?_ ?_; rotate_left; (focus (intro w' hS'; go_simp; (try with_reducible rfl); done)); try simp only [Act.put, List.setIfInBounds_toArray, List.set_cons_zero, List.set_cons_succ]) | (refine lew_read1 (v := ?_) (by rfl) (by rfl) ?_ ?_; rotate_left; (focus (intro w' hS'; go_simp; (try with_reducible rfl); done)); try simp only [Act.put, List.setIfInBounds_toArray, List.set_cons_zero, List.set_cons_succ]) | (refine lew_read2 (v := ?_) (by rfl) (by rfl) ?_ ?_; rotate_left; (focus (intro w' hS'; go_simp; (try with_reducible rfl); done)); try simp only [Act.put, List.setIfInBounds_toArray, List.set_cons_zero, List.set_cons_succ]) | (refine lew_read3 (v := ?_) (by rfl) (by rfl) ?_ ?_; rotate_left; (focus (intro w' hS'; go_simp; (try with_reducible rfl); done)); try simp only [Act.put, List.setIfInBounds_toArray, List.set_cons_zero, List.set_cons_succ]) | (refine lew_read4 (v := ?_) (by rfl) (by rfl) ?_ ?_; rotate_left; (focus (intro w' hS'; go_simp; (try with_reducible rfl); done)); try simp only [Act.put, List.setIfInBounds_toArray, List.set_cons_zero, List.set_cons_succ])))
      refine lew_chain2 rfl (by rfl) (fun K hK => ?_)
      have R7 := R6.out
      unfold SndO at R7
      rw [HN.out] at R7
      obtain ⟨F7, hR7, -, bk7⟩ := R7.take row_ok (star_ok cell_ok (star_ok cell_ok refS_ok))
      refine wp_app (.tmp 71) (.tmp 77) rfl intsOk _ 0 (v := .slice A n c) (n := n) rfl hR7.1 (A := some ⟨wr.heap.size, 0, none⟩) (m := 1) (c := 1) (news := [.int .i64 x]) rfl HSR.out (by omega) (by omega) (Nat.zero_le _) ?_
      intro v8 w8 ho8 hg8 hv8
      have S8 := bk7 _ _ (row_app hR7 ho8 hg8 hv8)
      obtain ⟨A8, c8, rfl⟩ := own_form ho8
      obtain ⟨S9, z1, z2⟩ := snd_next S8
      have HS9 := hide S9
      refine hK.out _ _ trivial ?_
      clear hK R7 hR7 bk7 ho8 hg8 hv8 S8 S9 R6
      (repeat (first | (refine lew_skip (by rfl) (by rfl) ?_; try simp only [Act.put, List.setIfInBounds_toArray, List.set_cons_zero, List.set_cons_succ]) | (refine lew_read0 (v := ?_) (by rfl) (by rfl) ?_ ?_; rotate_left; (focus (intro w' hS'; go_simp; (try with_reducible rfl); done)); try simp only [Act.put, List.setIfInBounds_toArray, List.set_cons_zero, List.set_cons_succ]) | (refine lew_read1 (v := ?_) (by rfl) (by rfl) ?_ ?_; rotate_left; (focus (intro w' hS'; go_simp; (try with_reducible rfl); done)); try simp only [Act.put, List.setIfInBounds_toArray, List.set_cons_zero, List.set_cons_succ]) | (refine lew_read2 (v := ?_) (by rfl) (by rfl) ?_ ?_; rotate_left; (focus (intro w' hS'; go_simp; (try with_reducible rfl); done)); try simp only [Act.put, List.setIfInBounds_toArray, List.set_cons_zero, List.set_cons_succ]) | (refine lew_read3 (v := ?_) (by rfl) (by rfl) ?_ ?_; rotate_left; (focus (intro w' hS'; go_simp; (try with_reducible rfl); done)); try simp only [Act.put, List.setIfInBounds_toArray, List.set_cons_zero, List.set_cons_succ]) | (refine lew_read4 (v := ?_) (by rfl) (by rfl) ?_ ?_; rotate_left; (focus (intro w' hS'; go_simp; (try with_reducible rfl); done)); try simp only [Act.put, List.setIfInBounds_toArray, List.set_cons_zero, List.set_cons_succ])))
      refine lew_chain3 rfl (by rfl) (fun K hK => ?_)
      go_wp2_with fail
      refine hK.out _ _ trivial (lew_nil ?_)
      clear hK z1 z2
      go_wp2_with fail
      go_roundw
      case rel =>
        refine ⟨j + 1, A8, c8, by omega, by omega, by go_num, ?_⟩
        rw [HNX.out, show j + 1 - q.conf = n + 1 by have := HN.out; omega]
        exact HS9.out
      case measure => simp [intOf]; omega
    · obtain rfl : j = q.H.length := by omega
      have hts : (q.H.take q.H.length).drop q.conf = q.H.drop q.conf := by rw [List.take_length]
      have HRR := hide (show Run F w (SndO g p s bx q ⟨LA, Lc, LB, Ld, lzs⟩ bm rcb rv A (q.H.length - q.conf) c (q.H.drop q.conf)) wr by have := HR.out; rwa [hts] at this)
      obtain ⟨n, hn⟩ : ∃ n, q.H.length - q.conf = n := ⟨_, rfl⟩
      have htl : (q.H.drop q.conf).length = n := by simp; exact hn
      rw [hn] at m1 HRR
      have b3 := hrd.b3
      simp only [] at b3
      have c3 := hrd.r.c3
      have pf := hrd.r.p f hf
      have HTL := hide htl
      clear hr hrd hsrc HR hts hn htl
      go_wp2_with fail
      refine wp_region_lew [11, 12, 15] [2, 2, 2, 2, 2, 2, 2, 2, 1, 1, 0, 1, 2, 2, 2, 3]
        (fun w' => w'.cell? ⟨p, 3, none⟩ = some (.slice (some ⟨s.bP, 0, none⟩) g.acc.length s.cP) ∧ w'.cell? ⟨s.bP, f, none⟩ = some (.slice (some ⟨s.row f, 0, none⟩) g.acc.length g.acc.length) ∧ w'.cell? ⟨bx, 3, none⟩ = some (.slice LB lzs.length Ld) ∧ w'.cell? ⟨bm, 0, none⟩ = some (.int .i64 (q.conf + 1)) ∧ w'.cell? ⟨bm, 1, none⟩ = some (.slice A n c) ∧ w'.cell? ⟨bm, 2, none⟩ = some (.int .i64 rcb) ∧ w'.cell? ⟨bm, 3, none⟩ = some (.bool rv))
        (fun w' => w'.cell? ⟨p, 3, none⟩ = some (.slice (some ⟨s.bP, 0, none⟩) g.acc.length s.cP) ∧ w'.cell? ⟨s.bP, f, none⟩ = some (.slice (some ⟨s.row f, 0, none⟩) g.acc.length g.acc.length) ∧ w'.cell? ⟨bx, 3, none⟩ = some (.slice LB lzs.length Ld))
        (fun w' => w'.cell? ⟨p, 3, none⟩ = some (.slice (some ⟨s.bP, 0, none⟩) g.acc.length s.cP) ∧ w'.cell? ⟨s.bP, f, none⟩ = some (.slice (some ⟨s.row f, 0, none⟩) g.acc.length g.acc.length))
        (fun _ => True) (fun _ h => ⟨h.1, h.2.1, h.2.2.1⟩) (fun _ h => ⟨h.1, h.2.1⟩) (fun _ _ => trivial) (by kernel_rfl) (by kernel_rfl) (by kernel_rfl) (by kernel_rfl) (by exact ⟨c3, pf, b3, m0, m1, m2, m3⟩) ?_
      (repeat (first | (refine lew_skip (by rfl) (by rfl) ?_; try simp only [Act.put, List.setIfInBounds_toArray, List.set_cons_zero, List.set_cons_succ]) | (refine lew_read0 (v := ?_) (by rfl) (by rfl) ?_ ?_; rotate_left; (focus (intro w' hS'; go_simp; (try with_reducible rfl); done)); try simp only [Act.put, List.setIfInBounds_toArray, List.set_cons_zero, List.set_cons_succ]) | (refine lew_read1 (v := ?_) (by rfl) (by rfl) ?_ ?_; rotate_left; (focus (intro w' hS'; go_simp; (try with_reducible rfl); done)); try simp only [Act.put, List.setIfInBounds_toArray, List.set_cons_zero, List.set_cons_succ]) | (refine lew_read2 (v := ?_) (by rfl) (by rfl) ?_ ?_; rotate_left; (focus (intro w' hS'; go_simp; (try with_reducible rfl); done)); try simp only [Act.put, List.setIfInBounds_toArray, List.set_cons_zero, List.set_cons_succ]) | (refine lew_read3 (v := ?_) (by rfl) (by rfl) ?_ ?_; rotate_left; (focus (intro w' hS'; go_simp; (try with_reducible rfl); done)); try simp only [Act.put, List.setIfInBounds_toArray, List.set_cons_zero, List.set_cons_succ]) | (refine lew_read4 (v := ?_) (by rfl) (by rfl) ?_ ?_; rotate_left; (focus (intro w' hS'; go_simp; (try with_reducible rfl); done)); try simp only [Act.put, List.setIfInBounds_toArray, List.set_cons_zero, List.set_cons_succ])))
      refine lew_chain1 rfl (by rfl) (fun K hK => ?_)
      go_wp2_with fail
      have R5 := HRR.out.drew sndO_ok
      have R6 := hide (show Run F w _ (wr.alloc (.cells #[.int .i64 (q.conf + 1), .slice A n c, .int .i64 rcb, .bool rv] 158)).drew from R5.below sndO_ok ((Below.refl _ _).alloc (Nat.le_refl _) (.cells #[.int .i64 (q.conf + 1), .slice A n c, .int .i64 rcb, .bool rv] 158)))
      obtain ⟨z, hz1, hz2, hz3⟩ : ∃ z : ZMsg, z.m = ⟨q.conf, q.H.length, rcb, rv⟩ ∧ z.ts = q.H.drop q.conf ∧ (z.A = A ∧ z.c = c) := ⟨⟨⟨q.conf, q.H.length, rcb, rv⟩, q.H.drop q.conf, A, c⟩, rfl, rfl, rfl, rfl⟩
      have hrc : rcl z = [.int .i64 (q.conf + 1), .slice A n c, .int .i64 rcb, .bool rv] := by unfold rcl; rw [hz1, hz2, hz3.1, hz3.2, HTL.out]
      have hzo : zow z = RowO 3 1 (.slice A n c) n (ints (q.H.drop q.conf)) := by unfold zow; rw [hz2, hz3.1, hz3.2, HTL.out]
      have HSR := hide (show Src (wr.alloc (.cells #[.int .i64 (q.conf + 1), .slice A n c, .int .i64 rcb, .bool rv] 158)).drew (some ⟨wr.heap.size, 0, none⟩) 1 4 (rcl z) by
        have := src_new wr.drew (rcl z) 158 (rcl_one z)
        rw [rcl_len] at this
        rw [hrc] at this ⊢
        exact this)
      have hrd2 := sndO_read R6.out
      have c3b := hrd2.r.c3
      have pfb := hrd2.r.p f hf
      have b3b := hrd2.b3
      simp only [] at b3b
      have HRC := hide hrc
      have HZO := hide hzo
      have HZ1 := hide hz1
      have HZ2 := hide hz2
      refine hK.out _ _ ⟨c3b, pfb, b3b⟩ ?_
      clear hK R5 m0 m1 m2 m3 b0 b3 c3 pf c3b pfb b3b hrd2 hrc hzo hz1 hz2 hz3 HRR
      generalize (wr.alloc (.cells #[.int .i64 (q.conf + 1), .slice A n c, .int .i64 rcb, .bool rv] 158)).drew = W5 at *
      (repeat (first | (refine lew_skip (by rfl) (by rfl) ?_; try simp only [Act.put, List.setIfInBounds_toArray, List.set_cons_zero, List.set_cons_succ]) | (refine lew_read0 (v := ?_) (by rfl) (by rfl) ?_ ?_; rotate_left; (focus (intro w' hS'; go_simp; (try with_reducible rfl); done)); try simp only [Act.put, List.setIfInBounds_toArray, List.set_cons_zero, List.set_cons_succ]) | (refine lew_read1 (v := ?_) (by rfl) (by rfl) ?_ ?_; rotate_left; (focus (intro w' hS'; go_simp; (try with_reducible rfl); done)); try simp only [Act.put, List.setIfInBounds_toArray, List.set_cons_zero, List.set_cons_succ]) | (refine lew_read2 (v := ?_) (by rfl) (by rfl) ?_ ?_; rotate_left; (focus (intro w' hS'; go_simp; (try with_reducible rfl); done)); try simp only [Act.put, List.setIfInBounds_toArray, List.set_cons_zero, List.set_cons_succ]) | (refine lew_read3 (v := ?_) (by rfl) (by rfl) ?_ ?_; rotate_left; (focus (intro w' hS'; go_simp; (try with_reducible rfl); done)); try simp only [Act.put, List.setIfInBounds_toArray, List.set_cons_zero, List.set_cons_succ]) | (refine lew_read4 (v := ?_) (by rfl) (by rfl) ?_ ?_; rotate_left; (focus (intro w' hS'; go_simp; (try with_reducible rfl); done)); try simp only [Act.put, List.setIfInBounds_toArray, List.set_cons_zero, List.set_cons_succ])))
      refine lew_chain2 rfl (by rfl) (fun K hK => ?_)
      have okT : (star (bigStar (lzs.map zow)) (star (rowR g s g.acc.length f) (star (RowO 3 1 (.slice LA q.H.length Lc) q.H.length (ints q.H)) (star (restR g p s f t) (star (zow z) (star (CellO bm #[.int .i64 (q.conf + 1), .slice A n c, .int .i64 rcb, .bool rv] 158) (CellO bx #[.slice LA q.H.length Lc, .int .i64 q.rc, .int .i64 q.conf, .slice LB lzs.length Ld] 118))))))).Ok :=
        star_ok (big_ok (fun A hA => by obtain ⟨z, _, rfl⟩ := List.mem_map.1 hA; exact zow_ok z)) (star_ok rowR_ok (star_ok row_ok (star_ok restR_ok (star_ok (zow_ok z) (star_ok cell_ok cell_ok)))))
      have R7 : Run F w (star (RowO 158 4 (.slice LB lzs.length Ld) lzs.length (lzs.flatMap rcl)) (star (bigStar (lzs.map zow)) (star (rowR g s g.acc.length f) (star (RowO 3 1 (.slice LA q.H.length Lc) q.H.length (ints q.H)) (star (restR g p s f t) (star (zow z) (star (CellO bm #[.int .i64 (q.conf + 1), .slice A n c, .int .i64 rcb, .bool rv] 158) (CellO bx #[.slice LA q.H.length Lc, .int .i64 q.rc, .int .i64 q.conf, .slice LB lzs.length Ld] 118)))))))) W5 := R6.out.perm (by
        unfold SndO
        rw [refS_pull (k := f) (j := t) hf ht, HP2.out, HLK.out, HZO.out]
        unfold PairX ARow
        simp only []
        ac_rfl)
      obtain ⟨F7, hR7, -, bk7⟩ := R7.take row_ok okT
      refine wp_app (.tmp 89) (.tmp 91) rfl rmsgOk _ 0 (v := .slice LB lzs.length Ld) (n := lzs.length) rfl hR7.1 (A := some ⟨wr.heap.size, 0, none⟩) (m := 1) (c := 1) (news := rcl z) rfl HSR.out (by omega) (by omega) (Nat.zero_le _) ?_
      intro v8 w8 ho8 hg8 hv8
      have S8 := bk7 _ _ (row_app hR7 ho8 hg8 hv8)
      obtain ⟨B8, d8, rfl⟩ := own_form ho8
      have S9 : Run F w (star (star (rowR g s g.acc.length f) (star (PairX { q with ms := q.ms ++ [z.m] } ⟨LA, Lc, B8, d8, lzs ++ [z]⟩) (restR g p s f t))) (star (CellO bm #[.int .i64 (q.conf + 1), .slice A n c, .int .i64 rcb, .bool rv] 158) (CellO bx #[.slice LA q.H.length Lc, .int .i64 q.rc, .int .i64 q.conf, .slice LB lzs.length Ld] 118))) w8 := S8.perm (by
        unfold PairX
        simp only []
        unfold ARow
        rw [List.map_append, List.map_singleton, big_last, List.length_append, List.length_singleton, List.flatMap_append]
        rw [show [z].flatMap rcl = rcl z by simp]
        ac_rfl)
      obtain ⟨FR, hRR⟩ := (S9.perm (by ac_rfl : _ = star (restR g p s f t) (star (rowR g s g.acc.length f) (star (PairX { q with ms := q.ms ++ [z.m] } ⟨LA, Lc, B8, d8, lzs ++ [z]⟩) (star (CellO bm #[.int .i64 (q.conf + 1), .slice A n c, .int .i64 rcb, .bool rv] 158) (CellO bx #[.slice LA q.H.length Lc, .int .i64 q.rc, .int .i64 q.conf, .slice LB lzs.length Ld] 118)))))).fst
      obtain ⟨c3c, pk⟩ := restR_cells hRR
      have pfc := pk f hf
      obtain ⟨FQ, hQ⟩ := (S9.perm (by ac_rfl : _ = star (rowR g s g.acc.length f) (star (star (PairX { q with ms := q.ms ++ [z.m] } ⟨LA, Lc, B8, d8, lzs ++ [z]⟩) (restR g p s f t)) (star (CellO bm #[.int .i64 (q.conf + 1), .slice A n c, .int .i64 rcb, .bool rv] 158) (CellO bx #[.slice LA q.H.length Lc, .int .i64 q.rc, .int .i64 q.conf, .slice LB lzs.length Ld] 118))))).fst
      have zf := row_free hQ (t * 4 + 3) (by omega)
      have q3 : w8.cell? ⟨s.row f, t * 4 + 3, none⟩ = some (.slice LB lzs.length Ld) := by
        have hg := flat_get (fun j => pcl (g.p2 (f, j)) (s.ps (f, j))) 4 (fun j => pcl_len _ _) (l := List.range g.acc.length) (k := t) (by simpa using ht) 3 (by omega)
        simp only [List.getElem_range, HP2.out, HLK.out] at hg
        exact row_cell hQ (by simpa [pcl, rowL] using hg)
      have S10 := ref_setQ hf ht S9.swap.drop 3 (by omega) (.slice B8 (lzs.length + 1) d8) (by rw [HP2.out, HLK.out]; simp [pcl])
      have HFIN := hide (S10.post refS_ok)
      refine hK.out _ _ ⟨c3c, pfc⟩ ?_
      clear hK R7 hR7 bk7 ho8 hg8 hv8 S8 S9 S10 hRR pk hQ R6 okT
      (repeat (first | (refine lew_skip (by rfl) (by rfl) ?_; try simp only [Act.put, List.setIfInBounds_toArray, List.set_cons_zero, List.set_cons_succ]) | (refine lew_read0 (v := ?_) (by rfl) (by rfl) ?_ ?_; rotate_left; (focus (intro w' hS'; go_simp; (try with_reducible rfl); done)); try simp only [Act.put, List.setIfInBounds_toArray, List.set_cons_zero, List.set_cons_succ]) | (refine lew_read1 (v := ?_) (by rfl) (by rfl) ?_ ?_; rotate_left; (focus (intro w' hS'; go_simp; (try with_reducible rfl); done)); try simp only [Act.put, List.setIfInBounds_toArray, List.set_cons_zero, List.set_cons_succ]) | (refine lew_read2 (v := ?_) (by rfl) (by rfl) ?_ ?_; rotate_left; (focus (intro w' hS'; go_simp; (try with_reducible rfl); done)); try simp only [Act.put, List.setIfInBounds_toArray, List.set_cons_zero, List.set_cons_succ]) | (refine lew_read3 (v := ?_) (by rfl) (by rfl) ?_ ?_; rotate_left; (focus (intro w' hS'; go_simp; (try with_reducible rfl); done)); try simp only [Act.put, List.setIfInBounds_toArray, List.set_cons_zero, List.set_cons_succ]) | (refine lew_read4 (v := ?_) (by rfl) (by rfl) ?_ ?_; rotate_left; (focus (intro w' hS'; go_simp; (try with_reducible rfl); done)); try simp only [Act.put, List.setIfInBounds_toArray, List.set_cons_zero, List.set_cons_succ])))
      refine lew_chain3 rfl (by rfl) (fun K hK => ?_)
      go_wp2_with fail
      refine hK.out _ _ trivial (lew_nil ?_)
      clear hK
      go_wp2_with fail
      go_ret
      obtain ⟨F', y1, y2, y3⟩ := HFIN.out
      rw [HZ1.out] at y1
      refine ⟨rfl, F', ⟨_, refZ_setP HZ.out (l := ⟨LA, Lc, B8, d8, lzs ++ [z]⟩) ⟨?_, fun y hy => ?_⟩, y1⟩, y2, y3⟩
      · simp only []; rw [List.map_append, HZK.out.1]; simp [HZ1.out]
      · simp at hy
        rcases hy with hy | rfl
        · exact HZK.out.2 y hy
        · rw [HZ2.out, HZ1.out]; simp [msgT]
end Go.Proofs.Ytapabbpdfplpoaa
