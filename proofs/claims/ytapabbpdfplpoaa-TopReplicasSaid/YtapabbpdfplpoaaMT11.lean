/-
  As Lex: a region that draws its order, whose last operation waits for all the others and may change what they read.
  Licence: set, and what it defers.
  Licence: a book's memory and the plain model; Revoke, Return, Release, Left.
  Licence: Return, Release, Use.
-/
import Derived.Test.YtapabbpdfplpoaaMT4
import Derived.Test.YtapabbpdfplpoaaMT10
import Derived.Defers
set_option linter.unusedSimpArgs false
set_option linter.unusedVariables false
namespace Go.CH
open Go.RowKit
section
variable {P : Program} {ops : Array Oper} {S : World → Prop} {Q : Exit → Act → World → Prop}

/-- The walk in the order of a list of indexes; behind the last operation of all S is not asked. -/
def wpLy (P : Program) (ops : Array Oper) (S : World → Prop) (Q : Exit → Act → World → Prop) : List Nat → Act → World → Prop
  | [], a, w => Q .normal a w
  | i :: r, a, w => match ops[i]? with
    | none => wpLy P ops S Q r a w
    | some o => (∃ v, YieldsIf P ops S o v a ∧ wpLy P ops S Q r (a.put o.dst v) w) ∨
      (chainK o.op = true ∧ Region.wanted o (yielded ops a.tmps) = true ∧ o.wp P a w (fun a' w' => (i + 1 < ops.size → S w') ∧ wpLy P ops S Q r a' w') NoExit)

theorem wpLy_swap (hns : Region.noSelect ops = true) {i j : Nat} {r : List Nat} {a : Act} {w : World} (hil : i + 1 < ops.size) (hok : swapOk ops i j = true) (hS : S w) (h : wpLy P ops S Q (i :: j :: r) a w) : wpLy P ops S Q (j :: i :: r) a w := by
  unfold swapOk at hok
  cases hi : ops[i]? with
  | none => simp [hi] at hok
  | some oi =>
  cases hj : ops[j]? with
  | none => simp [hj] at hok
  | some oj =>
  simp only [hi, hj, Bool.and_eq_true, Bool.not_eq_true', Bool.and_eq_false_iff] at hok
  obtain ⟨hch, hap⟩ := hok
  have hsi := fun cs b => Region.noSelect_spec hns i oi cs b hi
  have hsj := fun cs b => Region.noSelect_spec hns j oj cs b hj
  obtain ⟨h1, h2, h3⟩ := Oper.apart_spec hap
  simp only [wpLy, hi, hj] at h ⊢
  rcases h with ⟨v, hy, ⟨u, hy2, hr⟩ | ⟨hc, hw, hr⟩⟩ | ⟨hc, hw, hr⟩
  · refine .inl ⟨u, yi_back hsj h1 hy2, .inl ⟨v, yi_forth hsi h3 hy, ?_⟩⟩
    rw [← Act.put_comm a v u h2]; exact hr
  · refine .inr ⟨hc, by rw [← hw]; exact (wanted_put oj a oi.dst v h1).symm, ?_⟩
    refine Oper.wp_mono (fun a' w' hk => ?_) (wp_swap_rc hsi hsj hap hy hr)
    exact ⟨hk.2.1, .inl ⟨v, hk.1, hk.2.2⟩⟩
  · have hcj : chainK oj.op = false := by
      rcases hch with e | e
      · rw [hc] at e; cases e
      · exact e
    have hr' : oi.wp P a w (fun a' w' => S w' ∧ ∃ u, YieldsIf P ops S oj u a' ∧ wpLy P ops S Q r (a'.put oj.dst u) w') NoExit := by
      refine Oper.wp_mono (fun a' w' hk => ⟨hk.1 hil, ?_⟩) hr
      rcases hk.2 with hk | ⟨e, _⟩
      · exact hk
      · rw [hcj] at e; cases e
    obtain ⟨u, hy, hk⟩ := wp_swap_cr (K := wpLy P ops S Q r) hsi hsj hap hS hr'
    refine .inl ⟨u, hy, .inr ⟨hc, ?_, Oper.wp_mono (fun a' w' hk => ⟨fun _ => hk.1, hk.2⟩) hk⟩⟩
    rw [wanted_put oi a oj.dst u h3]; exact hw

theorem wpLy_front (hns : Region.noSelect ops = true) {j : Nat} {r : List Nat} : ∀ (l : List Nat) {a : Act} {w : World}, (∀ i ∈ l, i + 1 < ops.size ∧ swapOk ops i j = true) → S w → wpLy P ops S Q (l ++ j :: r) a w → wpLy P ops S Q (j :: (l ++ r)) a w
  | [], _, _, _, _, h => h
  | i :: l, a, w, hok, hS, h => by
    refine wpLy_swap hns (hok i (by simp)).1 (hok i (by simp)).2 hS ?_
    have ih := fun {a : Act} {w : World} (hS : S w) => wpLy_front hns (r := r) l (a := a) (w := w) (fun i hi => hok i (by simp [hi])) hS
    rw [List.cons_append] at h
    unfold wpLy at h ⊢
    cases ho : ops[i]? with
    | none => simp only [ho] at h ⊢; exact ih hS h
    | some o =>
      simp only [ho] at h ⊢
      rcases h with ⟨v, h1, h2⟩ | ⟨h1, h2, h3⟩
      · exact .inl ⟨v, h1, ih hS h2⟩
      · exact .inr ⟨h1, h2, Oper.wp_mono (fun a w h => ⟨h.1, ih (h.1 (hok i (by simp)).1) h.2⟩) h3⟩

/-- The last operation waits for all the others. -/
def lastOk (ops : Array Oper) : Bool := (List.range (ops.size - 1)).all fun i => ((Region.before ops).getD (ops.size - 1) 0).testBit i
theorem wpAny_of_ly (hB : lexOk ops = true) (hlast : lastOk ops = true) : ∀ (n : Nat) (listed : Array Bool) (a : Act) (w : World), (unl ops listed).length = n → listed.size = ops.size → Closed ops listed → (unl ops listed ≠ [] → S w) → wpLy P ops S Q (unl ops listed) a w → wpAny P .any ops Q n listed a w := by
  have hB' := hB
  simp only [lexOk, Bool.and_eq_true, List.all_eq_true, List.mem_range] at hB'
  obtain ⟨⟨hns, hmask⟩, hall⟩ := hB'
  intro n
  induction n with
  | zero =>
    intro listed a w hn hs hc hS h
    have hnil : unl ops listed = [] := List.eq_nil_of_length_eq_zero hn
    rw [hnil] at h
    refine ⟨?_, h⟩
    cases hr : Region.ready .any ops listed with
    | nil => rfl
    | cons j r =>
      have hj : j ∈ Region.ready .any ops listed := by rw [hr]; simp
      obtain ⟨h0, o, ho, _⟩ := mem_ready.1 hj
      have : j ∈ unl ops listed := by
        unfold unl; rw [List.mem_filter, List.mem_range]
        exact ⟨(Array.getElem?_eq_some_iff.1 ho).1, by simp [h0]⟩
      rw [hnil] at this; cases this
  | succ n ih =>
    intro listed a w hn hs hc hS h
    refine ⟨fun hr => ?_, fun j hj => ?_⟩
    · -- the first that is not listed is ready
      cases hu : unl ops listed with
      | nil => rw [hu] at hn; simp at hn
      | cons k r =>
        exfalso
        have hk : k ∈ unl ops listed := by rw [hu]; simp
        unfold unl at hk
        rw [List.mem_filter, List.mem_range] at hk
        obtain ⟨hk1, hk2⟩ := hk
        have hk2 : listed.getD k true = false := by simpa using hk2
        have ho : ops[k]? = some ops[k] := Array.getElem?_eq_getElem hk1
        have hd := (hall k hk1).1
        simp only [ho] at hd
        have : k ∈ Region.ready .any ops listed := by
          rw [mem_ready]
          refine ⟨hk2, _, ho, fun e he hb => ?_⟩
          have h1 := Array.all_eq_true_iff_forall_mem.1 hd e he
          simp only [hb, Bool.not_true, Bool.false_or, decide_eq_true_eq] at h1
          cases hl : listed.getD e.on false with
          | true => rfl
          | false =>
            exfalso
            obtain ⟨l1, l2, hs1, _, hs3⟩ := unl_split (ops := ops) (j := e.on) hs (by omega) (by rw [getD_lt (by omega) true false]; exact hl)
            rw [hu] at hs1
            cases l1 with
            | nil => simp at hs1; omega
            | cons x l1 =>
              simp at hs1
              have := (hs3 x (by simp)).1
              omega
        rw [hr] at this; cases this
    · obtain ⟨h0, o, ho, hall'⟩ := mem_ready.1 hj
      have hjs : j < ops.size := (Array.getElem?_eq_some_iff.1 ho).1
      obtain ⟨l1, l2, hs1, hs2, hs3⟩ := unl_split (ops := ops) hs hjs h0
      have hS := hS (by rw [hs1]; simp)
      have hfront : wpLy P ops S Q (j :: (l1 ++ l2)) a w := by
        refine wpLy_front hns l1 (fun i hi => ?_) hS (hs1 ▸ h)
        obtain ⟨hij, hiu⟩ := hs3 i hi
        refine ⟨by omega, ?_⟩
        have := (hall j hjs).2 i hij
        rw [Bool.or_eq_true] at this
        rcases this with hb | hb
        · have hl := mask_listed hmask hc (j + 1) j o (by omega) ho hall' i hij hb
          rw [getD_lt (by omega) false true, hiu] at hl; cases hl
        · exact hb
      have hlen : (unl ops (listed.setIfInBounds j true)).length = n := by
        rw [hs2]; rw [hs1] at hn; simp at hn ⊢; omega
      have hs' : (listed.setIfInBounds j true).size = ops.size := by simpa using hs
      have hc' : Closed ops (listed.setIfInBounds j true) := by
        intro m om hm hl e he hb
        by_cases hmj : m = j
        · subst hmj
          rw [ho] at hm; cases hm
          exact getD_set_true (hall' e he hb)
        · rw [getD_set_ne false (Ne.symm hmj)] at hl
          exact getD_set_true (hc m om hm hl e he hb)
      have hlt : unl ops (listed.setIfInBounds j true) ≠ [] → j + 1 < ops.size := fun hne => by
        rcases Nat.lt_or_ge (j + 1) ops.size with h1 | h1
        · exact h1
        · exfalso
          apply hne
          rw [hs2]
          have e1 : ∀ i, i ∈ l1 ++ l2 → False := fun i hi => by
            have hiu : i ∈ unl ops (listed.setIfInBounds j true) := by rw [hs2]; exact hi
            unfold unl at hiu
            rw [List.mem_filter, List.mem_range] at hiu
            obtain ⟨hi1, hi2⟩ := hiu
            have hij : i < j := by
              rcases Nat.lt_or_ge i j with h2 | h2
              · exact h2
              · obtain rfl : i = j := by omega
                simp at hi2
            have hb : ((Region.before ops).getD j 0).testBit i = true := by
              simp only [lastOk, List.all_eq_true, List.mem_range] at hlast
              have := hlast i (by omega)
              rwa [show ops.size - 1 = j by omega] at this
            have hl := mask_listed hmask hc (j + 1) j o (by omega) ho hall' i hij hb
            have hl2 : listed.getD i true = true := by rw [getD_lt (by omega) true false]; exact hl
            rw [getD_set_ne true (by omega : j ≠ i), hl2] at hi2
            simp at hi2
          cases hll : l1 ++ l2 with
          | nil => rfl
          | cons x y => exact (e1 x (by rw [hll]; simp)).elim
      rw [← hs2] at hfront
      unfold wpLy at hfront
      simp only [ho] at hfront
      rcases hfront with ⟨v, hy, hk⟩ | ⟨_, hw, hk⟩
      · exact hy.wpOp ho hS (ih _ _ _ hlen hs' hc' (fun _ => hS) hk)
      · unfold wpOp
        simp only [ho, hw, if_true]
        refine .inl ?_
        have h2 := Oper.wp_mono (K' := wpAny P .any ops Q n (listed.setIfInBounds j true)) (fun a' w' hk => ih _ a' w' hlen hs' hc' (fun hne => hk.1 (hlt hne)) hk.2) hk
        -- the empty exit serves every exit
        unfold Oper.wp at h2 ⊢
        generalize (execOp a.eval o).run P w = r at *
        cases r with
        | ok nx w' =>
          cases nx <;> simp only [Oper.upon] at h2 ⊢ <;> first
            | exact h2
            | exact Calls.mono h2 (fun e w'' he => by
                cases e with
                | returned v => exact he
                | panicked c => exact he.elim
                | outgrown => obtain ⟨_, _, he⟩ := he; exact he.elim)
        | halt x w' => cases x <;> simp only [Oper.upon] at h2 ⊢ <;> first | exact h2 | exact h2.elim


/-! ### The walk -/
/-- The walk in the order of the text. -/
def wpLey (P : Program) (ops : Array Oper) (S : World → Prop) (Q : Exit → Act → World → Prop) : List Oper → Act → World → Prop
  | [], a, w => Q .normal a w
  | o :: r, a, w => (∃ v, YieldsIf P ops S o v a ∧ wpLey P ops S Q r (a.put o.dst v) w) ∨
      (chainK o.op = true ∧ Region.wanted o (yielded ops a.tmps) = true ∧ o.wp P a w (fun a' w' => (r ≠ [] → S w') ∧ wpLey P ops S Q r a' w') NoExit)
theorem ly_of_ley : ∀ (l : List Oper) (k : Nat) (a : Act) (w : World), (∀ j, l[j]? = ops[k + j]?) → k + l.length = ops.size → wpLey P ops S Q l a w → wpLy P ops S Q (List.range' k l.length) a w
  | [], _, _, _, _, _, h => h
  | o :: l, k, a, w, hl, hs, h => by
    have h0 : ops[k]? = some o := by simpa using (hl 0).symm
    have ih := fun a w => ly_of_ley l (k + 1) a w (fun j => by have := hl (j + 1); simpa [Nat.add_assoc, Nat.add_comm 1 j] using this) (by simp at hs; omega)
    simp only [List.length_cons, List.range'_succ]
    unfold wpLy
    simp only [h0]
    rcases h with ⟨v, h1, h2⟩ | ⟨h1, h2, h3⟩
    · exact .inl ⟨v, h1, ih _ _ h2⟩
    · exact .inr ⟨h1, h2, Oper.wp_mono (fun a' w' hk => ⟨fun hlt => hk.1 (fun e => by subst e; simp at hs; omega), ih _ _ hk.2⟩) h3⟩
theorem wp_region_ley {id : Nat} {l : List Oper} {a : Act} {w : World} (S : World → Prop) (hm : P.follows .mixedOrders = true) (hB : lexOk l.toArray = true) (hlast : lastOk l.toArray = true) (hS : S w.drew)
    (h : wpLey P l.toArray S Q l a w.drew) : (Code.region id l.toArray true).wp P Q a w := by
  refine wp_region_any hm ?_
  have hu : unl l.toArray (Array.replicate l.toArray.size false) = List.range l.toArray.size := by
    unfold unl
    refine List.filter_eq_self.2 fun i hi => ?_
    have := List.mem_range.1 hi
    simp at this
    simp [this]
  refine wpAny_of_ly (S := S) hB hlast _ _ _ _ (by rw [hu]; simp) (by simp) ?_ (fun _ => hS) ?_
  · intro j o ho hl
    have : j < l.length := by have := (Array.getElem?_eq_some_iff.1 ho).1; simpa using this
    simp [this] at hl
  · rw [hu]
    have := ly_of_ley (P := P) (ops := l.toArray) (S := S) (Q := Q) l 0 a w.drew (by simp) (by simp) h
    simpa [List.range_eq_range'] using this
section
variable {o : Oper} {r : List Oper} {a : Act} {w : World}
theorem ley_nil (h : Q .normal a w) : wpLey P ops S Q [] a w := h
theorem ley_skip (hw : Region.wanted o (yielded ops a.tmps) = false) (h : wpLey P ops S Q r (a.put o.dst undef) w) : wpLey P ops S Q (o :: r) a w := .inl ⟨undef, .inr ⟨hw, rfl⟩, h⟩
theorem ley_read {v : Value} (hw : Region.wanted o (yielded ops a.tmps) = true) (hv : ∀ w', S w' → (execOp a.eval o).run P w' = .ok (.value v) w') (h : wpLey P ops S Q r (a.put o.dst v) w) : wpLey P ops S Q (o :: r) a w := .inl ⟨v, .inl ⟨hw, hv⟩, h⟩
/-- It may change the world. -/
theorem ley_chain (hc : chainK o.op = true) (hw : Region.wanted o (yielded ops a.tmps) = true) (h : ∀ K : Act → World → Prop, Hid (∀ a' w', S w' → wpLey P ops S Q r a' w' → K a' w') → o.wp P a w K NoExit) : wpLey P ops S Q (o :: r) a w :=
  .inr ⟨hc, hw, h _ fun _ _ h1 h2 => ⟨fun _ => h1, h2⟩⟩
/-- The last one. -/
theorem ley_last (hc : chainK o.op = true) (hw : Region.wanted o (yielded ops a.tmps) = true) (h : ∀ K : Act → World → Prop, Hid (∀ a' w', Q .normal a' w' → K a' w') → o.wp P a w K NoExit) : wpLey P ops S Q [o] a w :=
  .inr ⟨hc, hw, h _ fun _ _ h2 => ⟨fun h => (h rfl).elim, h2⟩⟩
end
end
end Go.CH
namespace Go.Proofs.Ytapabbpdfplpoaa
open Go.RowKit Go.CH Go.CH.Lic
open Go.ChangeMaps (setBlock)

set_option maxRecDepth 100000 in
set_option maxHeartbeats 1600000 in
theorem setD_any {u : FrameMode} {w : World} {x3 x4 tp gp : Nat} {st un su was : Int} (hn : st ≠ 2)
    (k3 : w.cell? ⟨x3, 0, none⟩ = some (gptr tp)) (k4 : w.cell? ⟨x4, 0, none⟩ = some (.int .i64 st)) (t0 : w.cell? ⟨tp, 0, none⟩ = some (gptr gp)) (t2 : w.cell? ⟨tp, 2, none⟩ = some (.int .i64 un))
    (g7 : w.cell? ⟨gp, 7, none⟩ = some (.int .i64 su)) (f7 : w.frozen? ⟨gp, 7, none⟩ = false) (hx4 : x4 ≠ gp)
    (h1 : IntKind.i64.wrap (un - was) = un - was) (h2 : IntKind.i64.wrap (su + (un - was)) = su + (un - was)) :
    CallsD Try.prog 103 #[.int .i64 was, .pointer (some ⟨x3, 0, none⟩), .pointer (some ⟨x4, 0, none⟩)] u w (fun e u' w' => u' = u ∧ e = .returned (.tuple #[]) ∧ w' = (w.setCell ⟨gp, 7, none⟩ (.int .i64 (su + (un - was)))).drew) := by
  have H1 := hide h1
  have H2 := hide h2
  have hst : (st == 2) = false := by simpa using hn
  clear h1 h2
  unfold gptr at *
  go_enter_d Try.func103, Try.ntmps103
  go_wp2_with fail
  refine wp_region_ley (fun w' => w'.cell? ⟨x3, 0, none⟩ = some (.pointer (some ⟨tp, 0, none⟩)) ∧ w'.cell? ⟨tp, 0, none⟩ = some (.pointer (some ⟨gp, 0, none⟩)) ∧ w'.cell? ⟨tp, 2, none⟩ = some (.int .i64 un) ∧ w'.cell? ⟨gp, 7, none⟩ = some (.int .i64 su)) (by kernel_rfl) (by kernel_rfl) (by kernel_rfl) ⟨k3, t0, t2, g7⟩ ?_
  (repeat (first | (refine ley_skip (by rfl) ?_; try simp only [Act.put, List.setIfInBounds_toArray, List.set_cons_zero, List.set_cons_succ]) | (refine ley_read (v := ?_) (by rfl) ?_ ?_; rotate_left; (focus (intro w' hS'; go_simp; (try with_reducible rfl); done)); try simp only [Act.put, List.setIfInBounds_toArray, List.set_cons_zero, List.set_cons_succ])))
  rw [H1.out]
  (repeat (first | (refine ley_skip (by rfl) ?_; try simp only [Act.put, List.setIfInBounds_toArray, List.set_cons_zero, List.set_cons_succ]) | (refine ley_read (v := ?_) (by rfl) ?_ ?_; rotate_left; (focus (intro w' hS'; go_simp; (try with_reducible rfl); done)); try simp only [Act.put, List.setIfInBounds_toArray, List.set_cons_zero, List.set_cons_succ])))
  rw [H2.out]
  (repeat (first | (refine ley_skip (by rfl) ?_; try simp only [Act.put, List.setIfInBounds_toArray, List.set_cons_zero, List.set_cons_succ]) | (refine ley_read (v := ?_) (by rfl) ?_ ?_; rotate_left; (focus (intro w' hS'; go_simp; (try with_reducible rfl); done)); try simp only [Act.put, List.setIfInBounds_toArray, List.set_cons_zero, List.set_cons_succ])))
  refine ley_last rfl (by rfl) (fun K hK => ?_)
  go_wp2_with fail
  refine hK.out _ _ ?_
  clear hK
  have k4' : (w.setCell ⟨gp, 7, none⟩ (.int .i64 (su + (un - was)))).cell? ⟨x4, 0, none⟩ = some (.int .i64 st) := (World.cell?_of_block (Below.heap_setCell _ _ _ _ hx4)).trans k4
  go_wp2
  go_end0
  exact ⟨rfl, rfl⟩
set_option maxRecDepth 100000 in
set_option maxHeartbeats 1600000 in
theorem setD_rel {u : FrameMode} {w : World} {x3 x4 tp gp : Nat} {un su sn was : Int}
    (k3 : w.cell? ⟨x3, 0, none⟩ = some (gptr tp)) (k4 : w.cell? ⟨x4, 0, none⟩ = some (.int .i64 2)) (t0 : w.cell? ⟨tp, 0, none⟩ = some (gptr gp)) (t2 : w.cell? ⟨tp, 2, none⟩ = some (.int .i64 un))
    (g7 : w.cell? ⟨gp, 7, none⟩ = some (.int .i64 su)) (f7 : w.frozen? ⟨gp, 7, none⟩ = false) (g8 : w.cell? ⟨gp, 8, none⟩ = some (.int .i64 sn)) (f8 : w.frozen? ⟨gp, 8, none⟩ = false) (hx4 : x4 ≠ gp) (hx3 : x3 ≠ gp) (htp : tp ≠ gp) (h3 : -9223372036854775808 ≤ sn - 1) (h4 : sn - 1 ≤ 9223372036854775807)
    (h1 : IntKind.i64.wrap (un - was) = un - was) (h2 : IntKind.i64.wrap (su + (un - was)) = su + (un - was)) :
    CallsD Try.prog 103 #[.int .i64 was, .pointer (some ⟨x3, 0, none⟩), .pointer (some ⟨x4, 0, none⟩)] u w (fun e u' w' => u' = u ∧ e = .returned (.tuple #[]) ∧ w' = ((w.setCell ⟨gp, 7, none⟩ (.int .i64 (su + (un - was)))).setCell ⟨gp, 8, none⟩ (.int .i64 (sn - 1))).drew) := by
  have H1 := hide h1
  have H2 := hide h2
  clear h1 h2
  unfold gptr at *
  go_enter_d Try.func103, Try.ntmps103
  go_wp2_with fail
  refine wp_region_ley (fun w' => w'.cell? ⟨x3, 0, none⟩ = some (.pointer (some ⟨tp, 0, none⟩)) ∧ w'.cell? ⟨tp, 0, none⟩ = some (.pointer (some ⟨gp, 0, none⟩)) ∧ w'.cell? ⟨tp, 2, none⟩ = some (.int .i64 un) ∧ w'.cell? ⟨gp, 7, none⟩ = some (.int .i64 su)) (by kernel_rfl) (by kernel_rfl) (by kernel_rfl) ⟨k3, t0, t2, g7⟩ ?_
  (repeat (first | (refine ley_skip (by rfl) ?_; try simp only [Act.put, List.setIfInBounds_toArray, List.set_cons_zero, List.set_cons_succ]) | (refine ley_read (v := ?_) (by rfl) ?_ ?_; rotate_left; (focus (intro w' hS'; go_simp; (try with_reducible rfl); done)); try simp only [Act.put, List.setIfInBounds_toArray, List.set_cons_zero, List.set_cons_succ])))
  rw [H1.out]
  (repeat (first | (refine ley_skip (by rfl) ?_; try simp only [Act.put, List.setIfInBounds_toArray, List.set_cons_zero, List.set_cons_succ]) | (refine ley_read (v := ?_) (by rfl) ?_ ?_; rotate_left; (focus (intro w' hS'; go_simp; (try with_reducible rfl); done)); try simp only [Act.put, List.setIfInBounds_toArray, List.set_cons_zero, List.set_cons_succ])))
  rw [H2.out]
  (repeat (first | (refine ley_skip (by rfl) ?_; try simp only [Act.put, List.setIfInBounds_toArray, List.set_cons_zero, List.set_cons_succ]) | (refine ley_read (v := ?_) (by rfl) ?_ ?_; rotate_left; (focus (intro w' hS'; go_simp; (try with_reducible rfl); done)); try simp only [Act.put, List.setIfInBounds_toArray, List.set_cons_zero, List.set_cons_succ])))
  refine ley_last rfl (by rfl) (fun K hK => ?_)
  go_wp2_with fail
  refine hK.out _ _ ?_
  clear hK
  have k4' : (w.setCell ⟨gp, 7, none⟩ (.int .i64 (su + (un - was)))).cell? ⟨x4, 0, none⟩ = some (.int .i64 2) := (World.cell?_of_block (Below.heap_setCell _ _ _ _ hx4)).trans k4
  have k3' : (w.setCell ⟨gp, 7, none⟩ (.int .i64 (su + (un - was)))).cell? ⟨x3, 0, none⟩ = some (.pointer (some ⟨tp, 0, none⟩)) := (World.cell?_of_block (Below.heap_setCell _ _ _ _ hx3)).trans k3
  have t0' : (w.setCell ⟨gp, 7, none⟩ (.int .i64 (su + (un - was)))).cell? ⟨tp, 0, none⟩ = some (.pointer (some ⟨gp, 0, none⟩)) := (World.cell?_of_block (Below.heap_setCell _ _ _ _ htp)).trans t0
  go_wp2
  go_end0
  exact ⟨rfl, rfl⟩
def SetRet (w : World) (F : Nat → Prop) (p : Nat) (s : BkP) (e : Ending) (w' : World) : Prop := e = .returned (.tuple #[]) ∧ Post w F (BkS p s) w'
theorem ptr_ne {w : World} {p : Nat} {s : BkP} (h : BkR w p s) {z : ZG} (hz : z ∈ s.zs) {t : ZT} (ht : t ∈ s.ts) : t.p ≠ z.p := by
  intro e
  have h1 := h.tr t ht 1 _ rfl
  have h2 := h.gr z hz 1 _ rfl
  rw [e, h2] at h1
  cases h1
theorem cell_set2 {w : World} {F : Nat → Prop} {g : Nat} {cs : Array Value} {t : TypeId} (h : CellO g cs t w F) (i j : Nat) (v u : Value) : Post w F (CellO g ((cs.setIfInBounds i v).setIfInBounds j u) t) ((w.setCell ⟨g, i, none⟩ v).setCell ⟨g, j, none⟩ u) := by
  obtain ⟨F0, h0, bk⟩ := (Run.start h).all cell_ok
  obtain ⟨F1, h1, bk1⟩ := (bk _ _ (cell_set h0 i v)).all cell_ok
  exact (bk1 _ _ (cell_set h1 j u)).post cell_ok
theorem box2 (w : World) {N : Nat} (h : w.heap.size = N) (a b : Value) (t u : TypeId) : (((w.alloc (.cells #[a] t)).alloc (.cells #[b] u)).drew.cell? ⟨N, 0, none⟩ = some a) ∧ (((w.alloc (.cells #[a] t)).alloc (.cells #[b] u)).drew.cell? ⟨N + 1, 0, none⟩ = some b) := by
  subst h
  have R1 := (Run.begin w).fresh emp_ok (cell_new w #[a] t)
  have R2 := R1.fresh (star_ok cell_ok emp_ok) (cell_new _ #[b] u)
  rw [show (w.alloc (.cells #[a] t)).heap.size = w.heap.size + 1 by simp] at R2
  have R3 := R2.drew (star_ok cell_ok (star_ok cell_ok emp_ok))
  obtain ⟨F1, h1⟩ := R3.fst
  obtain ⟨F2, h2⟩ := R3.rot.fst
  exact ⟨cell_at h2 rfl, cell_at h1 rfl⟩
def setT (s : BkP) (j : Nat) (hj : j < s.ts.length) (k : KeyM) : BkP := { s with ts := s.ts.set j { s.ts[j] with k := k } }
def setG (s : BkP) (i : Nat) (hi : i < s.zs.length) (g : GrM) : BkP := { s with zs := s.zs.set i { s.zs[i] with g := g } }
section
variable {w : World} {F : Nat → Prop} {p : Nat} {s : BkP}
/-- The state of set behind its two stores. -/
theorem set_mid (h : BkS p s w F) {j : Nat} (hj : j < s.ts.length) (st un : Int) (k' : KeyM) (hnm : k'.nm = s.ts[j].k.nm) (hst : k'.st = st) (hun : unC k' = un) :
    Run F w (star (BkS p (setT s j hj k')) (star (CellO (w.heap.size + 1) #[.int .i64 st] 143) (CellO w.heap.size #[gptr s.ts[j].p] 141)))
      (((((w.setCell ⟨s.ts[j].p, 1, none⟩ (.int .i64 st)).setCell ⟨s.ts[j].p, 2, none⟩ (.int .i64 un)).alloc (.cells #[gptr s.ts[j].p] 141)).alloc (.cells #[.int .i64 st] 143)).drew) := by
  obtain ⟨G, hC, bk⟩ := bk_updT (Run.start h) hj k' hnm
  have h5 := cell_set2 hC 1 2 (.int .i64 st) (.int .i64 un)
  have h6 : ((tcell s.ts[j]).setIfInBounds 1 (.int .i64 st)).setIfInBounds 2 (.int .i64 un) = tcell { s.ts[j] with k := k' } := by
    unfold tcell; rw [← hst, ← hun]; rfl
  rw [h6] at h5
  have R0 := bk _ h5
  have R1 := R0.fresh bkS_ok (cell_new _ #[gptr s.ts[j].p] 141)
  have R2 := R1.fresh (star_ok cell_ok bkS_ok) (cell_new _ #[.int .i64 st] 143)
  rw [show (((w.setCell ⟨s.ts[j].p, 1, none⟩ (.int .i64 st)).setCell ⟨s.ts[j].p, 2, none⟩ (.int .i64 un)).alloc (.cells #[gptr s.ts[j].p] 141)).heap.size = w.heap.size + 1 by simp, show ((w.setCell ⟨s.ts[j].p, 1, none⟩ (.int .i64 st)).setCell ⟨s.ts[j].p, 2, none⟩ (.int .i64 un)).heap.size = w.heap.size by simp] at R2
  exact (R2.drew (star_ok cell_ok (star_ok cell_ok bkS_ok))).perm (by unfold setT; ac_rfl)
end
set_option maxRecDepth 100000 in
set_option maxHeartbeats 1600000 in
theorem set_keep {w : World} {F : Nat → Prop} {p : Nat} {s : BkP} (h : BkS p s w F) {j i : Nat} (hj : j < s.ts.length) (hi : i < s.zs.length) (hg : s.ts[j].g = s.zs[i].p) (st un : Int) (hst : st ≠ 2)
    (h1 : IntKind.i64.wrap (un - unC s.ts[j].k) = un - unC s.ts[j].k) (h2 : IntKind.i64.wrap (s.zs[i].g.su + (un - unC s.ts[j].k)) = s.zs[i].g.su + (un - unC s.ts[j].k)) :
    Calls Try.prog 81 #[gptr s.ts[j].p, .int .i64 st, .int .i64 un] w (SetRet w F p (setG (setT s j hj { s.ts[j].k with st := st, un := un }) i hi { s.zs[i].g with su := s.zs[i].g.su + (un - unC s.ts[j].k) })) := by
  have H1 := hide h1
  have H2 := hide h2
  have hmf : ∀ (fn : Fn) (first cap : Array Value) (w : World), (Instr.makeFunc fn first cap).run Try.prog w = .ok (.func fn first cap) w := fun _ _ _ _ => rfl
  have B0 := bk_read (Run.start h)
  have zmem : s.zs[i] ∈ s.zs := List.getElem_mem hi
  have tmem : s.ts[j] ∈ s.ts := List.getElem_mem hj
  have t0 : w.cell? ⟨s.ts[j].p, 0, none⟩ = some (gptr s.zs[i].p) := by rw [← hg]; exact B0.tr _ tmem 0 _ rfl
  have t1 : w.cell? ⟨s.ts[j].p, 1, none⟩ = some (.int .i64 s.ts[j].k.st) := B0.tr _ tmem 1 _ rfl
  have t2 : w.cell? ⟨s.ts[j].p, 2, none⟩ = some (.int .i64 (unC s.ts[j].k)) := B0.tr _ tmem 2 _ rfl
  have tf1 := B0.tf _ tmem 1
  have tf2 := B0.tf _ tmem 2
  have hne := ptr_ne (z := s.zs[i]) B0 zmem tmem
  have hlt : s.ts[j].p < w.heap.size := World.block_lt_of_cell? _ _ t0
  have hlg : s.zs[i].p < w.heap.size := World.block_lt_of_cell? _ _ (B0.gr _ zmem 0 _ rfl)
  have RM := hide (set_mid h hj st un { s.ts[j].k with st := st, un := un } rfl rfl (if_neg hst))
  obtain ⟨FM, hM⟩ := RM.out.fst
  have BM := hM.read
  have m0 := BM.tr _ (show ({ s.ts[j] with k := { s.ts[j].k with st := st, un := un } } : ZT) ∈ (setT s j hj { s.ts[j].k with st := st, un := un }).ts from List.mem_iff_getElem.2 ⟨j, by simpa [setT] using hj, by simp [setT]⟩) 0 (gptr s.zs[i].p) (by rw [← hg]; rfl)
  have m2 := BM.tr _ (show ({ s.ts[j] with k := { s.ts[j].k with st := st, un := un } } : ZT) ∈ (setT s j hj { s.ts[j].k with st := st, un := un }).ts from List.mem_iff_getElem.2 ⟨j, by simpa [setT] using hj, by simp [setT]⟩) 2 (.int .i64 un) (by simp [tcell, unC, hst])
  have m7 := BM.gr s.zs[i] (show s.zs[i] ∈ s.zs from zmem) 7 (.int .i64 s.zs[i].g.su) rfl
  have mf7 := BM.gf s.zs[i] (show s.zs[i] ∈ s.zs from zmem) 7
  obtain ⟨FX, hX⟩ := (RM.out.perm (by ac_rfl : _ = star (CellO (w.heap.size + 1) #[.int .i64 st] 143) (star (BkS p (setT s j hj { s.ts[j].k with st := st, un := un })) (CellO w.heap.size #[gptr s.ts[j].p] 141)))).fst
  have x4 := cell_at hX (i := 0) rfl
  obtain ⟨FY, hY⟩ := (RM.out.perm (by ac_rfl : _ = star (CellO w.heap.size #[gptr s.ts[j].p] 141) (star (BkS p (setT s j hj { s.ts[j].k with st := st, un := un })) (CellO (w.heap.size + 1) #[.int .i64 st] 143)))).fst
  have x3 := cell_at hY (i := 0) rfl
  have HFIN : Hid (Post w F (BkS p (setG (setT s j hj { s.ts[j].k with st := st, un := un }) i hi { s.zs[i].g with su := s.zs[i].g.su + (un - unC s.ts[j].k) }))
      (((((((w.setCell ⟨s.ts[j].p, 1, none⟩ (.int .i64 st)).setCell ⟨s.ts[j].p, 2, none⟩ (.int .i64 un)).alloc (.cells #[gptr s.ts[j].p] 141)).alloc (.cells #[.int .i64 st] 143)).drew).setCell ⟨s.zs[i].p, 7, none⟩ (.int .i64 (s.zs[i].g.su + (un - unC s.ts[j].k)))).drew)) := by
    obtain ⟨F', RS, back⟩ := RM.out.sub bkS_ok (star_ok cell_ok cell_ok)
    have h7 := bk_setG RS (i := i) hi 7 (.int .i64 (s.zs[i].g.su + (un - unC s.ts[j].k))) { s.zs[i].g with su := s.zs[i].g.su + (un - unC s.ts[j].k) } rfl rfl rfl rfl
    have h8 := ((back _ _ bkS_ok h7).swap.drop.drew bkS_ok).post bkS_ok
    exact h8
  have KD := hide (fun u => setD_any (u := u) (x4 := w.heap.size + 1) (was := unC s.ts[j].k) hst x3 x4 m0 m2 m7 mf7 (by omega) h1 h2)
  clear h h1 h2 B0 BM hM RM m0 m2 m7 mf7 hX hY x3 x4 zmem tmem
  rw [hg] at *
  generalize s.ts[j].p = tp at *
  generalize s.zs[i].p = gp at *
  generalize unC s.ts[j].k = was at *
  generalize s.zs[i].g.su = su at *
  unfold gptr at *
  go_enter_defers Try.func81, Try.ntmps81
  go_wp2_with fail
  refine wp_region_lex (fun w' => w'.cell? ⟨w.heap.size, 0, none⟩ = some (.pointer (some ⟨tp, 0, none⟩)) ∧ w'.cell? ⟨w.heap.size + 1, 0, none⟩ = some (.int .i64 st)) (by kernel_rfl) (by kernel_rfl) ?_ ?_
  · exact box2 w rfl _ _ _ _
  (repeat (first | (refine lex_skip (by rfl) ?_; try simp only [Act.put, List.setIfInBounds_toArray, List.set_cons_zero, List.set_cons_succ]) | (refine lex_read (v := ?_) (by rfl) ?_ ?_; rotate_left; (focus (intro w' hS'; go_simp; (try with_reducible rfl); done)); try simp only [Act.put, List.setIfInBounds_toArray, List.set_cons_zero, List.set_cons_succ])))
  refine lex_chain rfl (by rfl) (fun K hK => ?_)
  go_wp2_with fail
  refine hK.out _ _ ?_ ?_
  · exact box2 _ (by simp) _ _ _ _
  clear hK
  (repeat (first | (refine lex_skip (by rfl) ?_; try simp only [Act.put, List.setIfInBounds_toArray, List.set_cons_zero, List.set_cons_succ]) | (refine lex_read (v := ?_) (by rfl) ?_ ?_; rotate_left; (focus (intro w' hS'; go_simp; (try with_reducible rfl); done)); try simp only [Act.put, List.setIfInBounds_toArray, List.set_cons_zero, List.set_cons_succ])))
  refine lex_chain rfl (by rfl) (fun K hK => ?_)
  go_wp2_with fail
  refine hK.out _ _ ?_ ?_
  · exact box2 _ (by simp) _ _ _ _
  clear hK
  refine lex_nil ?_
  go_wp2_with fail
  refine leaves_cons (f := 103) (args := #[.int .i64 was, .pointer (some ⟨w.heap.size, 0, none⟩), .pointer (some ⟨w.heap.size + 1, 0, none⟩)]) (by simp) (by simp [go_sem]) ?_
  refine (KD.out _).mono ?_
  rintro e u' w'' ⟨rfl, rfl, rfl⟩
  exact ⟨_, results_none rfl _ _ _, rfl, HFIN.out⟩
set_option maxRecDepth 100000 in
set_option maxHeartbeats 1600000 in
theorem set_rel {w : World} {F : Nat → Prop} {p : Nat} {s : BkP} (h : BkS p s w F) {j i : Nat} (hj : j < s.ts.length) (hi : i < s.zs.length) (hg : s.ts[j].g = s.zs[i].p) (h3 : -9223372036854775808 ≤ s.zs[i].g.sn - 1) (h4 : s.zs[i].g.sn - 1 ≤ 9223372036854775807)
    (h1 : IntKind.i64.wrap (0 - unC s.ts[j].k) = 0 - unC s.ts[j].k) (h2 : IntKind.i64.wrap (s.zs[i].g.su + (0 - unC s.ts[j].k)) = s.zs[i].g.su + (0 - unC s.ts[j].k)) :
    Calls Try.prog 81 #[gptr s.ts[j].p, .int .i64 2, .int .i64 0] w (SetRet w F p (setG (setT s j hj { s.ts[j].k with st := 2 }) i hi { s.zs[i].g with su := s.zs[i].g.su + (0 - unC s.ts[j].k), sn := s.zs[i].g.sn - 1 })) := by
  have H1 := hide h1
  have H2 := hide h2
  have hmf : ∀ (fn : Fn) (first cap : Array Value) (w : World), (Instr.makeFunc fn first cap).run Try.prog w = .ok (.func fn first cap) w := fun _ _ _ _ => rfl
  have B0 := bk_read (Run.start h)
  have zmem : s.zs[i] ∈ s.zs := List.getElem_mem hi
  have tmem : s.ts[j] ∈ s.ts := List.getElem_mem hj
  have t0 : w.cell? ⟨s.ts[j].p, 0, none⟩ = some (gptr s.zs[i].p) := by rw [← hg]; exact B0.tr _ tmem 0 _ rfl
  have t1 : w.cell? ⟨s.ts[j].p, 1, none⟩ = some (.int .i64 s.ts[j].k.st) := B0.tr _ tmem 1 _ rfl
  have t2 : w.cell? ⟨s.ts[j].p, 2, none⟩ = some (.int .i64 (unC s.ts[j].k)) := B0.tr _ tmem 2 _ rfl
  have tf1 := B0.tf _ tmem 1
  have tf2 := B0.tf _ tmem 2
  have hne := ptr_ne (z := s.zs[i]) B0 zmem tmem
  have hlt : s.ts[j].p < w.heap.size := World.block_lt_of_cell? _ _ t0
  have hlg : s.zs[i].p < w.heap.size := World.block_lt_of_cell? _ _ (B0.gr _ zmem 0 _ rfl)
  have RM := hide (set_mid h hj 2 0 { s.ts[j].k with st := 2 } rfl rfl (if_pos rfl))
  obtain ⟨FM, hM⟩ := RM.out.fst
  have BM := hM.read
  have m0 := BM.tr _ (show ({ s.ts[j] with k := { s.ts[j].k with st := 2 } } : ZT) ∈ (setT s j hj { s.ts[j].k with st := 2 }).ts from List.mem_iff_getElem.2 ⟨j, by simpa [setT] using hj, by simp [setT]⟩) 0 (gptr s.zs[i].p) (by rw [← hg]; rfl)
  have m2 := BM.tr _ (show ({ s.ts[j] with k := { s.ts[j].k with st := 2 } } : ZT) ∈ (setT s j hj { s.ts[j].k with st := 2 }).ts from List.mem_iff_getElem.2 ⟨j, by simpa [setT] using hj, by simp [setT]⟩) 2 (.int .i64 0) (by simp [tcell, unC])
  have m7 := BM.gr s.zs[i] (show s.zs[i] ∈ s.zs from zmem) 7 (.int .i64 s.zs[i].g.su) rfl
  have mf7 := BM.gf s.zs[i] (show s.zs[i] ∈ s.zs from zmem) 7
  have m8 := BM.gr s.zs[i] (show s.zs[i] ∈ s.zs from zmem) 8 (.int .i64 s.zs[i].g.sn) rfl
  have mf8 := BM.gf s.zs[i] (show s.zs[i] ∈ s.zs from zmem) 8
  obtain ⟨FX, hX⟩ := (RM.out.perm (by ac_rfl : _ = star (CellO (w.heap.size + 1) #[.int .i64 2] 143) (star (BkS p (setT s j hj { s.ts[j].k with st := 2 })) (CellO w.heap.size #[gptr s.ts[j].p] 141)))).fst
  have x4 := cell_at hX (i := 0) rfl
  obtain ⟨FY, hY⟩ := (RM.out.perm (by ac_rfl : _ = star (CellO w.heap.size #[gptr s.ts[j].p] 141) (star (BkS p (setT s j hj { s.ts[j].k with st := 2 })) (CellO (w.heap.size + 1) #[.int .i64 2] 143)))).fst
  have x3 := cell_at hY (i := 0) rfl
  have HFIN : Hid (Post w F (BkS p (setG (setT s j hj { s.ts[j].k with st := 2 }) i hi { s.zs[i].g with su := s.zs[i].g.su + (0 - unC s.ts[j].k), sn := s.zs[i].g.sn - 1 }))
      ((((((((w.setCell ⟨s.ts[j].p, 1, none⟩ (.int .i64 2)).setCell ⟨s.ts[j].p, 2, none⟩ (.int .i64 0)).alloc (.cells #[gptr s.ts[j].p] 141)).alloc (.cells #[.int .i64 2] 143)).drew).setCell ⟨s.zs[i].p, 7, none⟩ (.int .i64 (s.zs[i].g.su + (0 - unC s.ts[j].k)))).setCell ⟨s.zs[i].p, 8, none⟩ (.int .i64 (s.zs[i].g.sn - 1))).drew)) := by
    obtain ⟨F', RS, back⟩ := RM.out.sub bkS_ok (star_ok cell_ok cell_ok)
    obtain ⟨G, hC, bk⟩ := bk_updG RS (i := i) hi { s.zs[i].g with su := s.zs[i].g.su + (0 - unC s.ts[j].k), sn := s.zs[i].g.sn - 1 } rfl rfl rfl
    have h7 := bk _ (cell_set2 hC 7 8 (.int .i64 (s.zs[i].g.su + (0 - unC s.ts[j].k))) (.int .i64 (s.zs[i].g.sn - 1)))
    have h8 := ((back _ _ bkS_ok h7).swap.drop.drew bkS_ok).post bkS_ok
    exact h8
  have KD := hide (fun u => setD_rel (u := u) (x4 := w.heap.size + 1) (was := unC s.ts[j].k) x3 x4 m0 m2 m7 mf7 m8 mf8 (by omega) (by omega) hne h3 h4 h1 h2)
  clear h h1 h2 h3 h4 B0 BM hM RM m0 m2 m7 mf7 m8 mf8 hX hY x3 x4 zmem tmem
  rw [hg] at *
  generalize s.ts[j].p = tp at *
  generalize s.zs[i].p = gp at *
  generalize unC s.ts[j].k = was at *
  generalize s.zs[i].g.su = su at *
  generalize s.zs[i].g.sn = sn at *
  unfold gptr at *
  go_enter_defers Try.func81, Try.ntmps81
  go_wp2_with fail
  refine wp_region_lex (fun w' => w'.cell? ⟨w.heap.size, 0, none⟩ = some (.pointer (some ⟨tp, 0, none⟩)) ∧ w'.cell? ⟨w.heap.size + 1, 0, none⟩ = some (.int .i64 2)) (by kernel_rfl) (by kernel_rfl) ?_ ?_
  · exact box2 w rfl _ _ _ _
  (repeat (first | (refine lex_skip (by rfl) ?_; try simp only [Act.put, List.setIfInBounds_toArray, List.set_cons_zero, List.set_cons_succ]) | (refine lex_read (v := ?_) (by rfl) ?_ ?_; rotate_left; (focus (intro w' hS'; go_simp; (try with_reducible rfl); done)); try simp only [Act.put, List.setIfInBounds_toArray, List.set_cons_zero, List.set_cons_succ])))
  refine lex_chain rfl (by rfl) (fun K hK => ?_)
  go_wp2_with fail
  refine hK.out _ _ ?_ ?_
  · exact box2 _ (by simp) _ _ _ _
  clear hK
  (repeat (first | (refine lex_skip (by rfl) ?_; try simp only [Act.put, List.setIfInBounds_toArray, List.set_cons_zero, List.set_cons_succ]) | (refine lex_read (v := ?_) (by rfl) ?_ ?_; rotate_left; (focus (intro w' hS'; go_simp; (try with_reducible rfl); done)); try simp only [Act.put, List.setIfInBounds_toArray, List.set_cons_zero, List.set_cons_succ])))
  refine lex_chain rfl (by rfl) (fun K hK => ?_)
  go_wp2_with fail
  refine hK.out _ _ ?_ ?_
  · exact box2 _ (by simp) _ _ _ _
  clear hK
  refine lex_nil ?_
  go_wp2_with fail
  refine leaves_cons (f := 103) (args := #[.int .i64 was, .pointer (some ⟨w.heap.size, 0, none⟩), .pointer (some ⟨w.heap.size + 1, 0, none⟩)]) (by simp) (by simp [go_sem]) ?_
  refine (KD.out _).mono ?_
  rintro e u' w'' ⟨rfl, rfl, rfl⟩
  exact ⟨_, results_none rfl _ _ _, rfl, HFIN.out⟩
end Go.Proofs.Ytapabbpdfplpoaa
namespace Go.Proofs.Ytapabbpdfplpoaa
open Go.RowKit Go.CH Go.CH.Lic
open Go.ChangeMaps (setBlock)

theorem find_of_idx {α : Type} {p : α → Bool} {l : List α} {i : Nat} (h : l.findIdx? p = some i) : ∃ hi : i < l.length, l.find? p = some l[i] := by
  obtain ⟨hi, h1, h2⟩ := idx_some h
  exact ⟨hi, List.find?_eq_some_iff_getElem.2 ⟨h1, i, hi, rfl, fun j hj => by simp [h2 j hj]⟩⟩
theorem find_of_none {α : Type} {p : α → Bool} {l : List α} (h : l.findIdx? p = none) : l.find? p = none := by
  rw [List.find?_eq_none]
  intro x hx
  have := List.findIdx?_eq_none_iff.1 h x hx
  simpa using this
section
variable {b : BkM} {s : BkP}
theorem zs_len (hz : BkZ b s) : s.zs.length = b.gs.length := by rw [← hz.1]; simp
theorem ts_len (hz : BkZ b s) : s.ts.length = b.ks.length := by rw [← hz.2.1]; simp
theorem zs_gat (hz : BkZ b s) {i : Nat} (hi : i < s.zs.length) : s.zs[i].g = gat b i := by
  have : b.gs[i]? = some s.zs[i].g := by rw [← hz.1]; simp [hi]
  simp [gat, List.getD_eq_getElem?_getD, this]
theorem ts_kat (hz : BkZ b s) {j : Nat} (hj : j < s.ts.length) : s.ts[j].k = kat b j := by
  have : b.ks[j]? = some s.ts[j].k := by rw [← hz.2.1]; simp [hj]
  simp [kat, List.getD_eq_getElem?_getD, this]
theorem ts_grant (hz : BkZ b s) {j : Nat} (hj : j < s.ts.length) : ∃ hi : (kat b j).gi < s.zs.length, s.ts[j].g = s.zs[(kat b j).gi].p := by
  obtain ⟨y, h1, h2⟩ := hz.2.2 _ (List.getElem_mem hj)
  rw [ts_kat hz hj] at h1
  obtain ⟨hi, he⟩ := List.getElem?_eq_some_iff.1 h1
  exact ⟨hi, by rw [← h2, ← he]⟩
theorem bk_find (hz : BkZ b s) {id : ByteArray} {i : Nat} (h : findG b id = some i) : ∃ hi : i < s.zs.length, findZ s.zs id = gptr s.zs[i].p ∧ s.zs[i].g = gat b i := by
  have h1 : s.zs.findIdx? (fun z => decide (z.g.l.id = id)) = some i := by
    unfold findG at h
    rw [← hz.1, List.findIdx?_map] at h
    exact h
  obtain ⟨hi, h2⟩ := find_of_idx h1
  exact ⟨hi, by unfold findZ; rw [h2]; rfl, zs_gat hz hi⟩
theorem bk_find0 (hz : BkZ b s) {id : ByteArray} (h : findG b id = none) : findZ s.zs id = .pointer none := by
  have h1 : s.zs.findIdx? (fun z => decide (z.g.l.id = id)) = none := by
    unfold findG at h
    rw [← hz.1, List.findIdx?_map] at h
    exact h
  unfold findZ; rw [find_of_none h1]; rfl
theorem bk_key (hz : BkZ b s) {nm : ByteArray} {j : Nat} (h : findK b nm = some j) : ∃ hj : j < s.ts.length, findT s.ts nm = gptr s.ts[j].p ∧ s.ts[j].k = kat b j := by
  have h1 : s.ts.findIdx? (fun z => decide (z.k.nm = nm)) = some j := by
    unfold findK at h
    rw [← hz.2.1, List.findIdx?_map] at h
    exact h
  obtain ⟨hj, h2⟩ := find_of_idx h1
  exact ⟨hj, by unfold findT; rw [h2]; rfl, ts_kat hz hj⟩
theorem bk_key0 (hz : BkZ b s) {nm : ByteArray} (h : findK b nm = none) : findT s.ts nm = .pointer none := by
  have h1 : s.ts.findIdx? (fun z => decide (z.k.nm = nm)) = none := by
    unfold findK at h
    rw [← hz.2.1, List.findIdx?_map] at h
    exact h
  unfold findT; rw [find_of_none h1]; rfl
theorem bkZ_setG (hz : BkZ b s) {i : Nat} (hi : i < s.zs.length) (g : GrM) : BkZ (putG b i g) (setG s i hi g) := by
  refine ⟨?_, hz.2.1, fun z h => ?_⟩
  · unfold setG putG; simp only [List.map_set, hz.1]
  · obtain ⟨y, h1, h2⟩ := hz.2.2 z h
    unfold setG
    simp only [List.getElem?_set]
    split
    · rename_i e
      subst e
      rw [List.getElem?_eq_getElem hi] at h1
      cases h1
      exact ⟨{ s.zs[z.k.gi] with g := g }, by simp [hi], h2⟩
    · exact ⟨y, h1, h2⟩
theorem bkZ_setT (hz : BkZ b s) {j : Nat} (hj : j < s.ts.length) (k : KeyM) (hk : k.gi = s.ts[j].k.gi) : BkZ (putK b j k) (setT s j hj k) := by
  refine ⟨hz.1, ?_, fun z h => ?_⟩
  · unfold setT putK; simp only [List.map_set, hz.2.1]
  · unfold setT at h
    rcases List.mem_or_eq_of_mem_set h with h | rfl
    · exact hz.2.2 z h
    · obtain ⟨y, h1, h2⟩ := hz.2.2 _ (List.getElem_mem hj)
      exact ⟨y, by rw [← h1]; simp [hk, setT], h2⟩
end
/-- The answer v, and the book b' in place of what was there. -/
def BPost (w : World) (F : Nat → Prop) (v : Value) (b' : BkM) (p : Nat) (e : Ending) (w' : World) : Prop := e = .returned v ∧ Post w F (BkO b' p) w'
theorem BPost.quiet {w : World} {F : Nat → Prop} {b : BkM} {p : Nat} (h : BkO b p w F) (v : Value) : BPost w F v b p (.returned v) w := ⟨rfl, F, h, Mod.refl _ _, fun i hi => .inl hi⟩
theorem BPost.mk' {w w' : World} {F : Nat → Prop} {b : BkM} {p : Nat} {s : BkP} {v : Value} (hz : BkZ b s) (hp : Post w F (BkS p s) w') : BPost w F v b p (.returned v) w' := by
  obtain ⟨F', h1, h2, h3⟩ := hp
  exact ⟨rfl, F', ⟨s, hz, h1⟩, h2, h3⟩
def wErr (v : Int) : Value := .int .i64 v
theorem BPost.below {w w' : World} {F : Nat → Prop} {b : BkM} {p : Nat} (h : BkO b p w F) (v : Value) (hb : Below w.heap.size w w') : BPost w F v b p (.returned v) w' :=
  ⟨rfl, ((Run.start h).below bkO_ok hb).post bkO_ok⟩
set_option maxHeartbeats 1600000 in
theorem revoke_any {w : World} {F : Nat → Prop} {b : BkM} {p : Nat} (h : BkO b p w F) (id : ByteArray) (a : Int) :
    Calls Try.prog 54 #[gptr p, .string id, .int .i64 a] w (BPost w F (.int .i64 (revokeR b id a).1) (revokeR b id a).2 p) := by
  have H := hide h
  obtain ⟨s, hz, hS⟩ := h
  have hR := hS.read
  have KF := hide (find_any hR id)
  have KI := hide (within_any a 144001439 w)
  cases hf : findG b id with
  | none =>
    rw [bk_find0 hz hf] at KF
    have e : revokeR b id a = (11, b) := by unfold revokeR; rw [hf]
    rw [e]
    clear hz hS hR hf e
    go_enter Try.func54, Try.ntmps54
    go_wp2_with fail
    refine KF.out.mono ?_
    rintro e w' ⟨rfl, rfl⟩
    go_wp2
    go_ret
    exact BPost.quiet H.out _
  | some i =>
    obtain ⟨hi, h1, h2⟩ := bk_find hz hf
    rw [h1] at KF
    have zmem : s.zs[i] ∈ s.zs := List.getElem_mem hi
    have c9 : w.cell? ⟨s.zs[i].p, 9, none⟩ = some (.int .i64 (gat b i).e) := by rw [← h2]; exact hR.gr _ zmem 9 _ rfl
    have f9 := hR.gf _ zmem 9
    cases hw : inst a with
    | false =>
      have e : revokeR b id a = (1, b) := by unfold revokeR; rw [hf]; simp [hw]
      rw [e]
      rw [show within a 144001439 = false from hw] at KI
      clear hz hS hR hf e h1 h2 zmem hw
      unfold gptr at KF
      go_enter Try.func54, Try.ntmps54
      go_wp2_with fail
      refine KF.out.mono ?_
      rintro e w' ⟨rfl, rfl⟩
      go_wp2_with fail
      refine KI.out.mono ?_
      rintro e w' ⟨rfl, rfl⟩
      go_wp2
      go_ret
      exact BPost.quiet H.out _
    | true =>
      rw [show within a 144001439 = true from hw] at KI
      by_cases he : 0 ≤ (gat b i).e
      · have e : revokeR b id a = (12, b) := by unfold revokeR; rw [hf]; simp [hw, he]
        rw [e]
        clear hz hS hR hf e h1 h2 zmem hw
        generalize (gat b i).e = ge at *
        unfold gptr at KF
        go_enter Try.func54, Try.ntmps54
        go_wp2_with fail
        refine KF.out.mono ?_
        rintro e w' ⟨rfl, rfl⟩
        go_wp2_with fail
        refine KI.out.mono ?_
        rintro e w' ⟨rfl, rfl⟩
        go_wp2
        go_ret
        exact BPost.quiet H.out _
      · have e : revokeR b id a = (0, putG b i { gat b i with e := a }) := by unfold revokeR; rw [hf]; simp [hw, he]
        rw [e]
        have HZ := hide (bkZ_setG hz hi { gat b i with e := a })
        have HP := hide ((bk_setG (Run.start hS) hi 9 (.int .i64 a) { gat b i with e := a } (by rw [h2]) (by rw [h2]) (by rw [h2]) (by rw [← h2]; rfl)).post bkS_ok)
        clear hz hS hR hf e h1 h2 zmem hw
        generalize hge : (gat b i).e = ge at c9 he
        clear hge
        unfold gptr at KF
        go_enter Try.func54, Try.ntmps54
        go_wp2_with fail
        refine KF.out.mono ?_
        rintro e w' ⟨rfl, rfl⟩
        go_wp2_with fail
        refine KI.out.mono ?_
        rintro e w' ⟨rfl, rfl⟩
        go_wp2
        go_ret
        exact BPost.mk' HZ.out HP.out
end Go.Proofs.Ytapabbpdfplpoaa
namespace Go.Proofs.Ytapabbpdfplpoaa
open Go.RowKit Go.CH Go.CH.Lic
open Go.ChangeMaps (setBlock)

theorem unC_num {b : BkM} (hI : Inv b) {j : Nat} (hj : j < b.ks.length) : 0 ≤ unC (kat b j) ∧ unC (kat b j) ≤ 1000000000 := by
  have := hI.k _ (kat_mem hj)
  unfold unC; split <;> omega
theorem su_num {b : BkM} (hI : Inv b) {i : Nat} (hi : i < b.gs.length) : 0 ≤ (gat b i).su ∧ (gat b i).su ≤ 1000000000 ∧ 0 ≤ (gat b i).sn ∧ (gat b i).sn ≤ 1000 := by
  have := hI.g _ (gat_mem hi)
  have h2 := valid_num this.1
  omega
section
variable {w : World} {F : Nat → Prop} {p : Nat} {b : BkM} {s : BkP}
theorem setM_any (h : BkS p s w F) (hz : BkZ b s) (hI : Inv b) {j : Nat} (hj : j < s.ts.length) (st un : Int) (hst : st ≠ 2) (h0 : 0 ≤ un) (h1 : un ≤ 1000000000) :
    Calls Try.prog 81 #[gptr s.ts[j].p, .int .i64 st, .int .i64 un] w (BPost w F (.tuple #[]) (setM b j st un) p) := by
  obtain ⟨hi, hg⟩ := ts_grant hz hj
  have hj' : j < b.ks.length := by rw [← ts_len hz]; exact hj
  have hi' : (kat b j).gi < b.gs.length := by rw [← zs_len hz]; exact hi
  have n1 := unC_num hI hj'
  have n2 := su_num hI hi'
  have ek := ts_kat hz hj
  have eg := zs_gat hz hi
  have K := set_keep h hj hi hg st un hst (by rw [ek]; exact IntWalk.i64_in _ (by omega)) (by rw [ek, eg]; exact IntWalk.i64_in _ (by omega))
  rw [ek, eg] at K
  refine K.mono ?_
  rintro e w' ⟨rfl, hp⟩
  have hz2 := bkZ_setG (bkZ_setT hz hj { kat b j with st := st, un := un } (by rw [ek])) (i := (kat b j).gi) hi { gat b (kat b j).gi with su := (gat b (kat b j).gi).su + (un - unC (kat b j)) }
  exact BPost.mk' hz2 hp
theorem relM_any (h : BkS p s w F) (hz : BkZ b s) (hI : Inv b) {j : Nat} (hj : j < s.ts.length) :
    Calls Try.prog 81 #[gptr s.ts[j].p, .int .i64 2, .int .i64 0] w (BPost w F (.tuple #[]) (relM b j) p) := by
  obtain ⟨hi, hg⟩ := ts_grant hz hj
  have hj' : j < b.ks.length := by rw [← ts_len hz]; exact hj
  have hi' : (kat b j).gi < b.gs.length := by rw [← zs_len hz]; exact hi
  have n1 := unC_num hI hj'
  have n2 := su_num hI hi'
  have ek := ts_kat hz hj
  have eg := zs_gat hz hi
  have K := set_rel h hj hi hg (by rw [eg]; omega) (by rw [eg]; omega) (by rw [ek]; exact IntWalk.i64_in _ (by omega)) (by rw [ek, eg]; exact IntWalk.i64_in _ (by omega))
  rw [ek, eg] at K
  refine K.mono ?_
  rintro e w' ⟨rfl, hp⟩
  have hz2 := bkZ_setG (bkZ_setT hz hj { kat b j with st := 2 } (by rw [ek])) (i := (kat b j).gi) hi { gat b (kat b j).gi with su := (gat b (kat b j).gi).su + (0 - unC (kat b j)), sn := (gat b (kat b j).gi).sn - 1 }
  exact BPost.mk' hz2 hp
end

set_option maxHeartbeats 1600000 in
theorem return_any {w : World} {F : Nat → Prop} {b : BkM} {p : Nat} (h : BkO b p w F) (hI : Inv b) (nm : ByteArray) (un : Int) :
    Calls Try.prog 42 #[gptr p, .string nm, .int .i64 un] w (BPost w F (.int .i64 (returnR b nm un).1) (returnR b nm un).2 p) := by
  have H := hide h
  obtain ⟨s, hz, hS⟩ := h
  have hR := hS.read
  have KF := hide (key_any hR nm)
  cases hf : findK b nm with
  | none =>
    rw [bk_key0 hz hf] at KF
    have e : returnR b nm un = (11, b) := by unfold returnR; rw [hf]
    rw [e]
    clear hz hS hR hI hf e 
    unfold gptr at *
    go_enter Try.func42, Try.ntmps42
    go_wp2_with fail
    refine KF.out.mono ?_
    rintro e w' ⟨rfl, rfl⟩
    go_wp2
    go_ret
    exact BPost.quiet H.out _
  | some j =>
    obtain ⟨hj, h1, h2⟩ := bk_key hz hf
    obtain ⟨hi, hg⟩ := ts_grant hz hj
    rw [h1] at KF
    have tmem : s.ts[j] ∈ s.ts := List.getElem_mem hj
    have zmem := List.getElem_mem hi
    have hj2 : j < b.ks.length := (findK_some hf).1
    have hk := hI.k _ (kat_mem hj2)
    have c0 : w.cell? ⟨s.ts[j].p, 0, none⟩ = some (gptr s.zs[(kat b j).gi].p) := by rw [← hg]; exact hR.tr _ tmem 0 _ rfl
    have c1 : w.cell? ⟨s.ts[j].p, 1, none⟩ = some (.int .i64 (kat b j).st) := by rw [← h2]; exact hR.tr _ tmem 1 _ rfl
    have c2 : w.cell? ⟨s.ts[j].p, 2, none⟩ = some (.int .i64 (unC (kat b j))) := by rw [← h2]; exact hR.tr _ tmem 2 _ rfl
    by_cases hu : un < 1
    · have e : returnR b nm un = (1, b) := by unfold returnR; rw [hf]; simp [hu]
      rw [e]
      clear hz hS hR hI hf e h1 h2 tmem zmem hk hj2 hg
      clear c0 c1 c2
      generalize s.ts[j].p = tp at *
      generalize s.zs[(kat b j).gi].p = gp at *
      unfold gptr at *
      go_enter Try.func42, Try.ntmps42
      go_wp2_with fail
      refine KF.out.mono ?_
      rintro e w' ⟨rfl, rfl⟩
      go_wp2
      go_ret
      exact BPost.quiet H.out _
    · by_cases hs : (kat b j).st = 1
      · rw [hs] at c1
        have hun : unC (kat b j) = (kat b j).un := if_neg (by omega)
        rw [hun] at c2
        by_cases hm : (kat b j).un < un
        · have e : returnR b nm un = (19, b) := by unfold returnR; rw [hf]; simp [hu, hs, hm]
          rw [e]
          clear hz hS hR hI hf e h1 h2 tmem zmem hk hj2 hg hs hun
          generalize (kat b j).un = ku at *
          generalize s.ts[j].p = tp at *
          generalize s.zs[(kat b j).gi].p = gp at *
          unfold gptr at *
          go_enter Try.func42, Try.ntmps42
          go_wp2_with fail
          refine KF.out.mono ?_
          rintro e w' ⟨rfl, rfl⟩
          go_wp2
          go_ret
          exact BPost.quiet H.out _
        · have e : returnR b nm un = (0, setM b j 1 ((kat b j).un - un)) := by unfold returnR; rw [hf]; simp [hu, hs, hm]
          rw [e]
          have KS := hide (setM_any hS hz hI hj 1 ((kat b j).un - un) (by decide) (by omega) (by omega))
          have n1 := hk.2.1
          have n2 := hk.2.2.1
          clear hz hS hR hI hf e h1 h2 tmem zmem hk hj2 hg hs hun
          generalize (kat b j).un = ku at *
          generalize s.ts[j].p = tp at *
          generalize s.zs[(kat b j).gi].p = gp at *
          unfold gptr at *
          go_enter Try.func42, Try.ntmps42
          go_wp2_with fail
          refine KF.out.mono ?_
          rintro e w' ⟨rfl, rfl⟩
          go_wp2_with fail
          refine KS.out.mono ?_
          rintro e w' ⟨rfl, hp⟩
          go_wp2
          go_ret
          exact ⟨rfl, hp⟩
      · have e : returnR b nm un = (12, b) := by unfold returnR; rw [hf]; simp [hu, hs]
        rw [e]
        have b1 : ((kat b j).st == 1) = false := by simpa using hs
        have b2 : ((kat b j).st != 1) = true := by simpa using hs
        clear hz hS hR hI hf e h1 h2 tmem zmem hk hj2 hg hs
        generalize (kat b j).st = ks at *
        clear c2
        generalize s.ts[j].p = tp at *
        generalize s.zs[(kat b j).gi].p = gp at *
        unfold gptr at *
        go_enter Try.func42, Try.ntmps42
        go_wp2_with fail
        refine KF.out.mono ?_
        rintro e w' ⟨rfl, rfl⟩
        go_wp2
        go_ret
        exact BPost.quiet H.out _
set_option maxHeartbeats 1600000 in
theorem release_any {w : World} {F : Nat → Prop} {b : BkM} {p : Nat} (h : BkO b p w F) (hI : Inv b) (nm : ByteArray) :
    Calls Try.prog 57 #[gptr p, .string nm] w (BPost w F (.int .i64 (releaseR b nm).1) (releaseR b nm).2 p) := by
  have H := hide h
  obtain ⟨s, hz, hS⟩ := h
  have hR := hS.read
  have KF := hide (key_any hR nm)
  cases hf : findK b nm with
  | none =>
    rw [bk_key0 hz hf] at KF
    have e : releaseR b nm = (11, b) := by unfold releaseR; rw [hf]
    rw [e]
    clear hz hS hR hI hf e 
    unfold gptr at *
    go_enter Try.func57, Try.ntmps57
    go_wp2_with fail
    refine KF.out.mono ?_
    rintro e w' ⟨rfl, rfl⟩
    go_wp2
    go_ret
    exact BPost.quiet H.out _
  | some j =>
    obtain ⟨hj, h1, h2⟩ := bk_key hz hf
    obtain ⟨hi, hg⟩ := ts_grant hz hj
    rw [h1] at KF
    have tmem : s.ts[j] ∈ s.ts := List.getElem_mem hj
    have zmem := List.getElem_mem hi
    have hj2 : j < b.ks.length := (findK_some hf).1
    have hk := hI.k _ (kat_mem hj2)
    have c0 : w.cell? ⟨s.ts[j].p, 0, none⟩ = some (gptr s.zs[(kat b j).gi].p) := by rw [← hg]; exact hR.tr _ tmem 0 _ rfl
    have c1 : w.cell? ⟨s.ts[j].p, 1, none⟩ = some (.int .i64 (kat b j).st) := by rw [← h2]; exact hR.tr _ tmem 1 _ rfl
    have c2 : w.cell? ⟨s.ts[j].p, 2, none⟩ = some (.int .i64 (unC (kat b j))) := by rw [← h2]; exact hR.tr _ tmem 2 _ rfl
    by_cases hs : (kat b j).st = 0
    · rw [hs] at c1
      have e : releaseR b nm = (0, relM b j) := by unfold releaseR; rw [hf]; simp [hs]
      rw [e]
      have KS := hide (relM_any hS hz hI hj)
      clear hz hS hR hI hf e h1 h2 tmem zmem hk hj2 hg hs c2
      generalize s.ts[j].p = tp at *
      generalize s.zs[(kat b j).gi].p = gp at *
      unfold gptr at *
      go_enter Try.func57, Try.ntmps57
      go_wp2_with fail
      refine KF.out.mono ?_
      rintro e w' ⟨rfl, rfl⟩
      go_wp2_with fail
      refine KS.out.mono ?_
      rintro e w' ⟨rfl, hp⟩
      go_wp2
      go_ret
      exact ⟨rfl, hp⟩
    · have e : releaseR b nm = (12, b) := by unfold releaseR; rw [hf]; simp [hs]
      rw [e]
      have b1 : ((kat b j).st == 0) = false := by simpa using hs
      have b2 : ((kat b j).st != 0) = true := by simpa using hs
      clear hz hS hR hI hf e h1 h2 tmem zmem hk hj2 hg hs c2
      generalize (kat b j).st = ks at *
      generalize s.ts[j].p = tp at *
      generalize s.zs[(kat b j).gi].p = gp at *
      unfold gptr at *
      go_enter Try.func57, Try.ntmps57
      go_wp2_with fail
      refine KF.out.mono ?_
      rintro e w' ⟨rfl, rfl⟩
      go_wp2
      go_ret
      exact BPost.quiet H.out _
set_option maxHeartbeats 1600000 in
theorem use_any {w : World} {F : Nat → Prop} {b : BkM} {p : Nat} (h : BkO b p w F) (hI : Inv b) (nm : ByteArray) (un a : Int) :
    Calls Try.prog 41 #[gptr p, .string nm, .int .i64 un, .int .i64 a] w (BPost w F (.int .i64 (useR b nm un a).1) (useR b nm un a).2 p) := by
  have H := hide h
  obtain ⟨s, hz, hS⟩ := h
  have hR := hS.read
  have KF := hide (key_any hR nm)
  have KI := hide (within_any a 144001439 w)
  cases hf : findK b nm with
  | none =>
    rw [bk_key0 hz hf] at KF
    have e : useR b nm un a = (11, b) := by unfold useR; rw [hf]
    rw [e]
    clear hz hS hR hI hf e 
    unfold gptr at *
    go_enter Try.func41, Try.ntmps41
    go_wp2_with fail
    refine KF.out.mono ?_
    rintro e w' ⟨rfl, rfl⟩
    go_wp2
    go_ret
    exact BPost.quiet H.out _
  | some j =>
    obtain ⟨hj, h1, h2⟩ := bk_key hz hf
    obtain ⟨hi, hg⟩ := ts_grant hz hj
    rw [h1] at KF
    have tmem : s.ts[j] ∈ s.ts := List.getElem_mem hj
    have zmem := List.getElem_mem hi
    have hj2 : j < b.ks.length := (findK_some hf).1
    have hk := hI.k _ (kat_mem hj2)
    have c0 : w.cell? ⟨s.ts[j].p, 0, none⟩ = some (gptr s.zs[(kat b j).gi].p) := by rw [← hg]; exact hR.tr _ tmem 0 _ rfl
    have c1 : w.cell? ⟨s.ts[j].p, 1, none⟩ = some (.int .i64 (kat b j).st) := by rw [← h2]; exact hR.tr _ tmem 1 _ rfl
    have c2 : w.cell? ⟨s.ts[j].p, 2, none⟩ = some (.int .i64 (unC (kat b j))) := by rw [← h2]; exact hR.tr _ tmem 2 _ rfl
    by_cases hu : un < 0
    · have e : useR b nm un a = (1, b) := by unfold useR; rw [hf]; simp [hu]
      rw [e]
      clear hz hS hR hI hf e h1 h2 tmem zmem hk hj2 hg
      clear c0 c1 c2
      generalize s.ts[j].p = tp at *
      generalize s.zs[(kat b j).gi].p = gp at *
      unfold gptr at *
      go_enter Try.func41, Try.ntmps41
      go_wp2_with fail
      refine KF.out.mono ?_
      rintro e w' ⟨rfl, rfl⟩
      go_wp2
      go_ret
      exact BPost.quiet H.out _
    · cases hw : inst a with
      | false =>
        rw [show within a 144001439 = false from hw] at KI
        have e : useR b nm un a = (1, b) := by unfold useR; rw [hf]; simp [hu, hw]
        rw [e]
        clear hz hS hR hI hf e h1 h2 tmem zmem hk hj2 hg hw
        clear c0 c1 c2
        generalize s.ts[j].p = tp at *
        generalize s.zs[(kat b j).gi].p = gp at *
        unfold gptr at *
        go_enter Try.func41, Try.ntmps41
        go_wp2_with fail
        refine KF.out.mono ?_
        rintro e w' ⟨rfl, rfl⟩
        go_wp2_with fail
        refine KI.out.mono ?_
        rintro e w' ⟨rfl, rfl⟩
        go_wp2
        go_ret
        exact BPost.quiet H.out _
      | true =>
        rw [show within a 144001439 = true from hw] at KI
        by_cases hs : (kat b j).st = 0
        · rw [hs] at c1
          have hun : unC (kat b j) = (kat b j).un := if_neg (by omega)
          rw [hun] at c2
          have eg := zs_gat hz hi
          have g5 : w.cell? ⟨s.zs[(kat b j).gi].p, 5, none⟩ = some (.int .i64 (gat b (kat b j).gi).l.f) := by rw [← eg]; exact hR.gr _ zmem 5 _ rfl
          have g6 : w.cell? ⟨s.zs[(kat b j).gi].p, 6, none⟩ = some (.int .i64 (gat b (kat b j).gi).l.t) := by rw [← eg]; exact hR.gr _ zmem 6 _ rfl
          have g9 : w.cell? ⟨s.zs[(kat b j).gi].p, 9, none⟩ = some (.int .i64 (gat b (kat b j).gi).e) := by rw [← eg]; exact hR.gr _ zmem 9 _ rfl
          have KR := hide (runs_any a g5 g6 g9)
          have hv : runsB (gat b (kat b j).gi).l.f (gat b (kat b j).gi).l.t (gat b (kat b j).gi).e a = runsG (gat b (kat b j).gi) a := rfl
          rw [hv] at KR
          cases hr : runsG (gat b (kat b j).gi) a with
          | false =>
            rw [hr] at KR
            have e : useR b nm un a = (22, relM b j) := by unfold useR; rw [hf]; simp [hu, hw, hs, hr]
            rw [e]
            have KS := hide (relM_any hS hz hI hj)
            clear hz hS hR hI hf e h1 h2 tmem zmem hk hj2 hg hs hw hun eg g5 g6 g9 hr hv c2
            generalize s.ts[j].p = tp at *
            generalize s.zs[(kat b j).gi].p = gp at *
            unfold gptr at *
            go_enter Try.func41, Try.ntmps41
            go_wp2_with fail
            refine KF.out.mono ?_
            rintro e w' ⟨rfl, rfl⟩
            go_wp2_with fail
            refine KI.out.mono ?_
            rintro e w' ⟨rfl, rfl⟩
            go_wp2_with fail
            refine KR.out.mono ?_
            rintro e w' ⟨rfl, rfl⟩
            go_wp2_with fail
            refine KS.out.mono ?_
            rintro e w' ⟨rfl, hp⟩
            go_wp2
            go_ret
            exact ⟨rfl, hp⟩
          | true =>
            rw [hr] at KR
            by_cases hm : (kat b j).un < un
            · have e : useR b nm un a = (19, b) := by unfold useR; rw [hf]; simp [hu, hw, hs, hr, hm]
              rw [e]
              clear hz hS hR hI hf e h1 h2 tmem zmem hk hj2 hg hs hw hun eg g5 g6 g9 hr hv
              generalize (kat b j).un = ku at *
              generalize s.ts[j].p = tp at *
              generalize s.zs[(kat b j).gi].p = gp at *
              unfold gptr at *
              go_enter Try.func41, Try.ntmps41
              go_wp2_with fail
              refine KF.out.mono ?_
              rintro e w' ⟨rfl, rfl⟩
              go_wp2_with fail
              refine KI.out.mono ?_
              rintro e w' ⟨rfl, rfl⟩
              go_wp2_with fail
              refine KR.out.mono ?_
              rintro e w' ⟨rfl, rfl⟩
              go_wp2
              go_ret
              exact BPost.quiet H.out _
            · have e : useR b nm un a = (0, setM b j 1 un) := by unfold useR; rw [hf]; simp [hu, hw, hs, hr, hm]
              rw [e]
              have KS := hide (setM_any hS hz hI hj 1 un (by decide) (by omega) (by omega))
              clear hz hS hR hI hf e h1 h2 tmem zmem hk hj2 hg hs hw hun eg g5 g6 g9 hr hv
              generalize (kat b j).un = ku at *
              generalize s.ts[j].p = tp at *
              generalize s.zs[(kat b j).gi].p = gp at *
              unfold gptr at *
              go_enter Try.func41, Try.ntmps41
              go_wp2_with fail
              refine KF.out.mono ?_
              rintro e w' ⟨rfl, rfl⟩
              go_wp2_with fail
              refine KI.out.mono ?_
              rintro e w' ⟨rfl, rfl⟩
              go_wp2_with fail
              refine KR.out.mono ?_
              rintro e w' ⟨rfl, rfl⟩
              go_wp2_with fail
              refine KS.out.mono ?_
              rintro e w' ⟨rfl, hp⟩
              go_wp2
              go_ret
              exact ⟨rfl, hp⟩
        · have e : useR b nm un a = (12, b) := by unfold useR; rw [hf]; simp [hu, hw, hs]
          rw [e]
          have b1 : ((kat b j).st == 0) = false := by simpa using hs
          have b2 : ((kat b j).st != 0) = true := by simpa using hs
          clear hz hS hR hI hf e h1 h2 tmem zmem hk hj2 hg hs hw
          generalize (kat b j).st = ks at *
          clear c2
          generalize s.ts[j].p = tp at *
          generalize s.zs[(kat b j).gi].p = gp at *
          unfold gptr at *
          go_enter Try.func41, Try.ntmps41
          go_wp2_with fail
          refine KF.out.mono ?_
          rintro e w' ⟨rfl, rfl⟩
          go_wp2_with fail
          refine KI.out.mono ?_
          rintro e w' ⟨rfl, rfl⟩
          go_wp2
          go_ret
          exact BPost.quiet H.out _
end Go.Proofs.Ytapabbpdfplpoaa
