/-
  Escrow: slices.Clone of a row of transfers.
-/
import Derived.Test.YtapabbpdfplpoaaE10
set_option linter.unusedSimpArgs false
set_option linter.unusedVariables false
namespace Go.Proofs.Ytapabbpdfplpoaa
open Go.RowKit Go.CH Go.CH.Esc
open Go.ChangeMaps (setBlock)

def CloneRet (w : World) (n : Nat) (l : List Int) (e : Ending) (w' : World) : Prop := ∃ A' c', e = .returned (.slice A' n c') ∧ Post w (fun _ => False) (RowO 3 1 (.slice A' n c') n (ints l)) w'
set_option maxHeartbeats 1600000 in
set_option maxRecDepth 100000 in
theorem clone_any {w : World} {A : Option Addr} {n c : Nat} {l : List Int} (h : w.ownsRow 0 3 1 (.slice A n c) n (ints l)) (hn : n ≤ 1000) :
    Calls Try.prog 71 #[.slice A n c] w (CloneRet w n l) := by
  have hs := hide (Src.of_own h (ints_one l))
  have hcap := row_cap h
  have hl : (ints l).length = n := by have := h.1; simpa using this
  cases A with
  | none =>
    have hc := hcap.2 rfl
    subst hc
    obtain rfl : n = 0 := by omega
    have h0 : ints l = [] := List.eq_nil_of_length_eq_zero hl
    have H0 := hide h0
    have he := fun w => Go.Lib.run_eql_slice_nil (P := Try.prog) w 74 3 none 0 0 0 0 Try.underlying74
    clear h hcap hl hs h0
    go_enter Try.func71, Try.ntmps71
    go_wp2_with fail
    go_ret
    refine ⟨none, 0, rfl, fun _ => False, ?_, Mod.refl _ _, fun i hi => hi.elim⟩
    rw [H0.out]
    exact row_nil _ _ _
  | some a =>
    have he := fun w => Go.Lib.run_eql_slice_nil (P := Try.prog) w 74 3 (some a) n c 0 0 Try.underlying74
    have R0 := hide ((Run.begin w).fresh emp_ok (row_made w 3 1))
    have hs' := hide (Src.of_own (ownsRow_of_block (w' := w.alloc (.cells #[] 3)) h (fun g hg => heap_old (ownsRow_lt h hg))) (ints_one l))
    clear h hcap hl hs
    go_enter Try.func71, Try.ntmps71
    go_wp2_with (at_builtin; refine held ?_)
    obtain ⟨F1, hR1, -, bk1⟩ := R0.out.take row_ok emp_ok
    refine Held.mk (wpList_app rfl (.tmp 5) (.tmp 6) rfl intsOk _ 0 (v := .slice (some ⟨w.heap.size, 0, none⟩) 0 0) (n := 0) (xs := []) rfl hR1.1 (A := some a) (m := n) (c := c) (news := ints l) rfl hs'.out (by omega) (by omega) (Nat.zero_le _) ?_)
    intro v4 w4 ho4 hg4 hv4
    have S4 := bk1 _ _ (row_app hR1 ho4 hg4 hv4)
    rw [Nat.zero_add, List.nil_append] at S4
    obtain ⟨A', c', rfl⟩ := own_form ho4
    rw [Nat.zero_add] at *
    have HFIN := hide (S4.swap.drop.post row_ok)
    clear hR1 bk1 ho4 hg4 hv4 S4
    go_wp2
    go_ret
    exact ⟨A', c', rfl, HFIN.out⟩
end Go.Proofs.Ytapabbpdfplpoaa
