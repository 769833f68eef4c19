/-
  Things owned, in any order and with any brackets.
-/
import Derived.Test.YtapabbpdfplpoaaTree
set_option linter.unusedSimpArgs false
set_option linter.unusedVariables false
namespace Go.CH
open Go.RowKit

theorem star_comm_eq (A B : Own) : star A B = star B A := by
  funext w F; exact propext ⟨star_comm, star_comm⟩
theorem star_assoc_eq (A B C : Own) : star (star A B) C = star A (star B C) := by
  funext w F; exact propext ⟨star_assoc, star_assoc'⟩
instance star_com : Std.Commutative star := ⟨star_comm_eq⟩
instance star_ass : Std.Associative star := ⟨star_assoc_eq⟩
theorem emp_star (A : Own) : star emp A = A := by
  funext w F; exact propext ⟨fun h => star_emp (star_comm h), fun h => star_comm (star_emp' h)⟩
theorem star_emp_eq (A : Own) : star A emp = A := by rw [star_comm_eq, emp_star]
theorem Run.perm {F0 : Nat → Prop} {w0 W : World} {A B : Own} (h : Run F0 w0 A W) (e : A = B) : Run F0 w0 B W := e ▸ h
/-- A call at a part of what is owned, by a law that speaks of the call's own beginning. -/
theorem Run.sub {F0 : Nat → Prop} {w0 W : World} {A B : Own} (h : Run F0 w0 (star A B) W) (ha : A.Ok) (hb : B.Ok) : ∃ F, Run F W A W ∧ ∀ (R : Own) (W' : World), R.Ok → Run F W R W' → Run F0 w0 (star R B) W' := by
  obtain ⟨F, h1, -, h2⟩ := h.take ha hb
  exact ⟨F, Run.start h1, fun R W' hr hp => h2 R W' (hp.post hr)⟩
end Go.CH
