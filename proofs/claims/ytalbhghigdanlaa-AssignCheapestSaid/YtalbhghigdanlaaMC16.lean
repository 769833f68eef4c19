/-
  Assign: AssignCheapest, walked.
  Assign: lists of numbers, and of such lists, that came in, opened.
-/
import Derived.Test.YtalbhghigdanlaaMC15
import Derived.Test.YtalbhghigdanlaaMC3
import Derived.WalkKit
import Derived.ProofKit
import Derived.OpenShut
import Derived.ShutString
import Derived.SizedLaws
set_option linter.unusedSimpArgs false
set_option linter.unusedVariables false
namespace Go.Proofs.Ytalbhghigdanlaa
open Go.RowKit Go.CH Go.CH.Asg
open Go.ChangeMaps (setBlock)
set_option maxRecDepth 100000 in
set_option maxHeartbeats 6400000 in
theorem cheapest_any {w : World} {A B G PA : Option Addr} {C : List (List Int)} {D E ps : List Int} {nc n m c d e p np : Nat} (hP : PX w A B G C D E nc n m d) (hps : VecN w PA ps np) :
    Calls Try.prog 3 #[.slice A nc c, .slice B n d, .slice G m e, .slice PA np p] w (BelowRet w (.bool true)) := by
  have HP0 := hide hP
  have HV0 := hide hps
  have HB0 := hide (Below.refl w.heap.size w)
  clear hP hps
  have KH := hide (head_any w)
  have HCH := hide (fun v (h : costR C D E ps = (v, true)) => cheap h)
  have HFL := hide (HP0.out.few_len)
  go_enter Try.func3, Try.ntmps3
  go_wp2_with fail
  refine KH.out.mono ?_
  rintro e9 w1 ⟨rfl, hb⟩
  dsimp only
  have HP1 := hide (HP0.out.below hb)
  have HV1 := hide (HV0.out.below hb)
  have HB1 := hide (bel_trans HB0.out hb)
  clear HP0 HV0 HB0
  clear hb KH 
  have KF := hide (HP1.out.few (c := c) (e := e))
  cases hf : few C D E with
  | false =>
    rw [hf] at KF
    clear hf HFL
    go_wp2_with fail
    refine KF.out.mono ?_
    rintro e9 w9 ⟨rfl, rfl⟩
    clear KF
    go_wp2
    go_ret
    exact ⟨rfl, HB1.out⟩
  | true =>
    obtain ⟨l1, l2, l3⟩ := HFL.out hf
    rw [hf] at KF
    clear hf HFL
    by_cases hl : 20 < np
    · go_wp2_with fail
      refine KF.out.mono ?_
      rintro e9 w9 ⟨rfl, rfl⟩
      clear KF
      go_wp2
      go_ret
      exact ⟨rfl, HB1.out⟩
    · go_wp2_with fail
      refine KF.out.mono ?_
      rintro e9 w9 ⟨rfl, rfl⟩
      clear KF
      cases hv : vld C D E with
      | false =>
        have KB := hide (HP1.out.best_no (c := c) (e := e) hv)
        have HVV := hide (show vld C D E = false from hv)
        clear hv
        go_wp2_with fail
        refine KB.out.mono ?_
        rintro e9 wba ⟨AA1, AA2, AA3, ac1, ac2, ac3, rfl, hb0, h1, h2, h3⟩
        have hba := alloc_bel wba (.cells #[.int .i64 (0), .slice AA1 (0) ac1, .slice AA2 (0) ac2, .slice AA3 (0) ac3] 27)
        have hb := bel_trans hb0 hba
        have HP2 := hide (HP1.out.below hb)
        have HV2 := hide (HV1.out.below hb)
        have HB2 := hide (bel_trans HB1.out hb)
        clear HP1 HV1 HB1
        have HaP2 := hide (h1.below hba)
        have HaU2 := hide (h2.below hba)
        have HaV2 := hide (h3.below hba)
        have HaM2 := hide (asg_mem wba (0) AA1 AA2 AA3 (0) (0) (0) ac1 ac2 ac3)
        clear hb hb0 hba h1 h2 h3 KB
        have KV := hide (HP2.out.rvalid (c := c) (e := e))
        rw [HVV.out] at KV
        clear HVV
        go_wp2_with fail
        generalize wba.alloc (.cells #[.int .i64 (0), .slice AA1 (0) ac1, .slice AA2 (0) ac2, .slice AA3 (0) ac3] 27) = w2 at *
        generalize wba.heap.size = ga at *
        clear wba
        refine KV.out.mono ?_
        rintro e9 w9 ⟨rfl, rfl⟩
        clear KV
        go_wp2
        go_ret
        exact ⟨rfl, HB2.out⟩
      | true =>
        have KB := hide (HP1.out.best (c := c) (e := e) hv)
        have HVV := hide (show vld C D E = true from hv)
        clear hv
        go_wp2_with fail
        refine KB.out.mono ?_
        rintro e9 wba ⟨AA1, AA2, AA3, ac1, ac2, ac3, rfl, hb0, h1, h2, h3⟩
        have hba := alloc_bel wba (.cells #[.int .i64 (bK C D E), .slice AA1 (n) ac1, .slice AA2 (n) ac2, .slice AA3 (m) ac3] 27)
        have hb := bel_trans hb0 hba
        have HP2 := hide (HP1.out.below hb)
        have HV2 := hide (HV1.out.below hb)
        have HB2 := hide (bel_trans HB1.out hb)
        clear HP1 HV1 HB1
        have HaP2 := hide (h1.below hba)
        have HaU2 := hide (h2.below hba)
        have HaV2 := hide (h3.below hba)
        have HaM2 := hide (asg_mem wba (bK C D E) AA1 AA2 AA3 (n) (n) (m) ac1 ac2 ac3)
        clear hb hb0 hba h1 h2 h3 KB
        have KC := hide (HP2.out.cost (c := c) (e := e) (u := ac1) HVV.out HaP2.out (by omega))
        rw [costR_bP] at KC
        go_wp2_with fail
        generalize wba.alloc (.cells #[.int .i64 (bK C D E), .slice AA1 (n) ac1, .slice AA2 (n) ac2, .slice AA3 (m) ac3] 27) = w2 at *
        generalize wba.heap.size = ga at *
        clear wba
        refine KC.out.mono ?_
        rintro e9 w3 ⟨rfl, hb⟩
        dsimp only
        have HP3 := hide (HP2.out.below hb)
        have HV3 := hide (HV2.out.below hb)
        have HB3 := hide (bel_trans HB2.out hb)
        have HaP3 := hide (HaP2.out.below hb)
        have HaU3 := hide (HaU2.out.below hb)
        have HaV3 := hide (HaV2.out.below hb)
        have HaM3 := hide (show ∀ W, Below w3.heap.size w3 W → _ from fun W h => HaM2.out W (bel_trans hb h))
        clear HP2 HV2 HB2 HaP2 HaU2 HaV2 HaM2
        clear hb KC 
        obtain ⟨aq0, aq1, aq2, aq3⟩ := HaM3.out _ (Below.refl _ _)
        have KC := hide (HP3.out.cost (c := c) (e := e) (u := p) HVV.out HV3.out (by omega))
        generalize hx : costR C D E ps = x at KC
        obtain ⟨v, ok⟩ := x
        cases ok with
        | false =>
          go_wp2_with fail
          refine KC.out.mono ?_
          rintro e9 w4 ⟨rfl, hb⟩
          dsimp only
          clear aq0 aq1 aq2 aq3
          have HP4 := hide (HP3.out.below hb)
          have HV4 := hide (HV3.out.below hb)
          have HB4 := hide (bel_trans HB3.out hb)
          have HaP4 := hide (HaP3.out.below hb)
          have HaU4 := hide (HaU3.out.below hb)
          have HaV4 := hide (HaV3.out.below hb)
          have HaM4 := hide (show ∀ W, Below w4.heap.size w4 W → _ from fun W h => HaM3.out W (bel_trans hb h))
          clear HP3 HV3 HB3 HaP3 HaU3 HaV3 HaM3
          clear hb KC 
          obtain ⟨aq0, aq1, aq2, aq3⟩ := HaM4.out _ (Below.refl _ _)
          clear hx HCH
          go_wp2
          go_ret
          exact ⟨rfl, HB4.out⟩
        | true =>
          obtain ⟨h1, h2⟩ := HCH.out v hx
          clear HCH hx
          by_cases hg : bK C D E < v
          · clear h2
            go_wp2_with fail
            refine KC.out.mono ?_
            rintro e9 w4 ⟨rfl, hb⟩
            dsimp only
            clear aq0 aq1 aq2 aq3
            have HP4 := hide (HP3.out.below hb)
            have HV4 := hide (HV3.out.below hb)
            have HB4 := hide (bel_trans HB3.out hb)
            have HaP4 := hide (HaP3.out.below hb)
            have HaU4 := hide (HaU3.out.below hb)
            have HaV4 := hide (HaV3.out.below hb)
            have HaM4 := hide (show ∀ W, Below w4.heap.size w4 W → _ from fun W h => HaM3.out W (bel_trans hb h))
            clear HP3 HV3 HB3 HaP3 HaU3 HaV3 HaM3
            clear hb KC 
            obtain ⟨aq0, aq1, aq2, aq3⟩ := HaM4.out _ (Below.refl _ _)
            go_wp2
            go_ret
            exact ⟨rfl, HB4.out⟩
          · obtain rfl : v = bK C D E := by omega
            have h3 := h2 rfl
            go_wp2_with fail
            refine KC.out.mono ?_
            rintro e9 w4 ⟨rfl, hb⟩
            dsimp only
            clear aq0 aq1 aq2 aq3
            have HP4 := hide (HP3.out.below hb)
            have HV4 := hide (HV3.out.below hb)
            have HB4 := hide (bel_trans HB3.out hb)
            have HaP4 := hide (HaP3.out.below hb)
            have HaU4 := hide (HaU3.out.below hb)
            have HaV4 := hide (HaV3.out.below hb)
            have HaM4 := hide (show ∀ W, Below w4.heap.size w4 W → _ from fun W h => HaM3.out W (bel_trans hb h))
            clear HP3 HV3 HB3 HaP3 HaU3 HaV3 HaM3
            clear hb KC 
            obtain ⟨aq0, aq1, aq2, aq3⟩ := HaM4.out _ (Below.refl _ _)
            have KB := hide (beforeN (u := p) (v := ac1) HV4.out HaP4.out (by omega))
            rw [h3] at KB
            clear h1 h2 h3
            go_wp2_with fail
            refine KB.out.mono ?_
            rintro e9 w5 ⟨rfl, hb⟩
            dsimp only
            clear aq0 aq1 aq2 aq3
            have HP5 := hide (HP4.out.below hb)
            have HV5 := hide (HV4.out.below hb)
            have HB5 := hide (bel_trans HB4.out hb)
            have HaP5 := hide (HaP4.out.below hb)
            have HaU5 := hide (HaU4.out.below hb)
            have HaV5 := hide (HaV4.out.below hb)
            have HaM5 := hide (show ∀ W, Below w5.heap.size w5 W → _ from fun W h => HaM4.out W (bel_trans hb h))
            clear HP4 HV4 HB4 HaP4 HaU4 HaV4 HaM4
            clear hb KB 
            go_wp2
            go_ret
            exact ⟨rfl, HB5.out⟩
end Go.Proofs.Ytalbhghigdanlaa
namespace Go.Proofs.Ytalbhghigdanlaa
open Go.ChangeShapes Go.WideShapes Go.ChangeAt Go.RowKit Go.CH Go.CH.Asg Go.Deep
section
variable {H : Type} {enc : TypeId × Value → H} {w : World}
theorem each_num : ∀ m cs y, DataW.trod enc Try.prog w 0 (fun _ => true) true m 3 cs = some y → ∃ x : Int, cs = [.int .i64 x] ∧ True := by
  intro m cs y h
  obtain ⟨s, h1, _⟩ := DataW.trod_int Try.underlying3 h
  exact ⟨s, h1, trivial⟩
theorem flat_ints (l : List Int) : l.flatMap (fun x : Int => [Value.int .i64 x]) = ints l := by
  induction l with
  | nil => rfl
  | cons a l ih => simp [ints] at ih ⊢; exact ih
theorem open23 {A : Option Addr} {n c : Nat} {d : DataW H} {ps : List MemPlace} (h : DataW.Trod enc Try.prog w 0 (fun _ => true) true 23 (.slice A n c) d ps) : ∃ l : List Int, VecN w A l n ∧ n ≤ c ∧ c ≤ maxLen := by
  obtain ⟨xs, h1, h2, h3, h4, h5⟩ := open_src (size := 1) (fun x : Int => [Value.int .i64 x]) (fun x => True) Try.underlying23 (by kernel_rfl) (by decide) each_num (fun x _ u hu => by simp at hu; subst hu; rfl) h
  subst h1
  rw [flat_ints] at h2
  exact ⟨xs, ⟨h2, rfl⟩, h4, h5⟩
def rowL (x : List Int × Option Addr × Nat) : List Value := [.slice x.2.1 x.1.length x.2.2]
theorem each_row : ∀ m cs y, DataW.trod enc Try.prog w 0 (fun _ => true) true m 23 cs = some y → ∃ x : List Int × Option Addr × Nat, cs = rowL x ∧ (Vec w x.2.1 x.1 ∧ x.1.length ≤ x.2.2) := by
  intro m cs y h
  have hv : ∃ A n c, cs = [.slice A n c] := by
    rcases open_slice Try.underlying23 h with ⟨h0, _⟩ | ⟨a, len, cap, _, _, _, _, hv, _⟩
    · exact ⟨none, 0, 0, h0⟩
    · exact ⟨some a, len, cap, hv⟩
  obtain ⟨A, n, c, rfl⟩ := hv
  obtain ⟨l, h1, h2, h3⟩ := open23 (d := y.1) (ps := y.2) ⟨m, by simpa [Value.cells] using h⟩
  obtain ⟨hv, rfl⟩ := h1
  exact ⟨(l, A, c), rfl, hv, h2⟩
theorem open22 {A : Option Addr} {n c : Nat} {d : DataW H} {ps : List MemPlace} (h : DataW.Trod enc Try.prog w 0 (fun _ => true) true 22 (.slice A n c) d ps) : ∃ C : List (List Int), (∃ V, Mat w A C V) ∧ C.length = n ∧ n ≤ maxLen := by
  obtain ⟨xs, h1, h2, h3, h4, h5⟩ := open_src (size := 1) rowL (fun x => Vec w x.2.1 x.1 ∧ x.1.length ≤ x.2.2) Try.underlying22 (by kernel_rfl) (by decide) each_row (fun x _ u hu => by simp [rowL] at hu; subst hu; rfl) h
  subst h1
  refine ⟨xs.map (·.1), ⟨xs.map (·.2), ⟨by simp, ?_, ?_⟩⟩, by simp, by omega⟩
  · have e : (xs.map (·.2)).mapIdx (fun i x => Value.slice x.1 ((xs.map (·.1)).getD i []).length x.2) = xs.flatMap rowL := by
      have e1 : xs.flatMap rowL = xs.map (fun x => Value.slice x.2.1 x.1.length x.2.2) := by
        have : ∀ l : List (List Int × Option Addr × Nat), l.flatMap rowL = l.map (fun x => Value.slice x.2.1 x.1.length x.2.2) := fun l => by induction l with
          | nil => rfl
          | cons a l ih => simp [rowL] at ih ⊢; exact ih
        exact this xs
      rw [e1]
      apply List.ext_getElem?
      intro i
      rw [List.getElem?_mapIdx, List.getElem?_map, List.getElem?_map]
      cases hx : xs[i]? with
      | none => rfl
      | some x => simp [List.getD_eq_getElem?_getD, hx]
    rw [e, List.length_map]; exact h2
  · intro i hi x hx
    rw [List.getElem?_map] at hx
    have hi' : i < xs.length := by simpa using hi
    rw [List.getElem?_eq_getElem hi'] at hx
    simp at hx
    subst hx
    rw [List.getElem_map]
    exact (h3 _ (List.getElem_mem hi')).1
theorem px_of {A B G : Option Addr} {C : List (List Int)} {D E : List Int} {nc n m d : Nat} (h : (∃ V, Mat w A C V) ∧ C.length = nc ∧ nc ≤ maxLen) (hD : VecN w B D n ∧ n ≤ d ∧ d ≤ maxLen) (hE : VecN w G E m) : PX w A B G C D E nc n m d :=
  ⟨h.1, by rw [h.2.1]; exact h.2.2, hD.1.v, hE.v, by rw [hD.1.n]; exact hD.2.1, h.2.1, hD.1.n, hE.n⟩
end
end Go.Proofs.Ytalbhghigdanlaa
