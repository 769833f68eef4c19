/-
  Escrow: what the loop of Deliver adds up, in plain Lean.
-/
import Derived.Test.YtapabbpdfplpoaaGI
set_option linter.unusedSimpArgs false
set_option linter.unusedVariables false
namespace Go.CH.Esc

/-- One more transfer is looked at: the j-th (from 0). -/
theorem loop_step (H : List Int) (rc j : Nat) (hj : j < H.length) : isum ((H.take (j + 1)).drop rc) = if rc ≤ j then isum ((H.take j).drop rc) + H[j] else isum ((H.take j).drop rc) := by
  rw [List.take_succ_eq_append_getElem hj]
  split
  · rename_i h
    rw [List.drop_append_of_le_length (by rw [List.length_take]; omega), isum_append]
    simp [isum]
  · rename_i h
    have h1 : (H.take j ++ [H[j]]).drop rc = [] := List.drop_eq_nil_of_le (by rw [List.length_append, List.length_take, List.length_singleton]; omega)
    have h2 : (H.take j).drop rc = [] := List.drop_eq_nil_of_le (by rw [List.length_take]; omega)
    rw [h1, h2]
theorem loop_zero (H : List Int) (rc c : Nat) (h : c ≤ rc) : isum ((H.take c).drop rc) = 0 := by
  rw [List.drop_eq_nil_of_le (by rw [List.length_take]; omega)]; rfl
/-- The number of the i-th transfer of a message. -/
theorem msg_get (H : List Int) (c up i : Nat) (hu : up ≤ H.length) (hi : c + i < up) : ((H.take up).drop c)[i]? = H[c + i]? := by
  rw [List.getElem?_drop, List.getElem?_take, if_pos hi]
theorem msg_len (H : List Int) (c up : Nat) (hu : up ≤ H.length) : ((H.take up).drop c).length = up - c := by
  rw [List.length_drop, List.length_take, Nat.min_eq_left hu]
/-- The transfers back that are kept. -/
theorem keep_last (H : List Int) (c r : Nat) (hr : r ≤ H.length) (hc : c ≤ r) : (H.drop c).drop ((H.drop c).length - (H.length - r)) = H.drop r := by
  rw [List.drop_drop, List.length_drop]
  congr 1
  omega
/-- u and received behind k transfers stay small. -/
theorem loop_le {H : List Int} (hpos : ∀ h ∈ H, 1 ≤ h) (rc j : Nat) : 0 ≤ isum ((H.take j).drop rc) ∧ isum ((H.take j).drop rc) ≤ isum (H.drop rc) := by
  have hp : ∀ l : List Int, (∀ x ∈ l, x ∈ H) → 0 ≤ isum l := fun l hl => isum_nonneg (fun x hx => by have := hpos x (hl x hx); omega)
  refine ⟨hp _ (fun x hx => List.mem_of_mem_take (List.mem_of_mem_drop hx)), ?_⟩
  have := fly_split H rc j
  have := hp (H.drop (max rc j)) (fun x hx => List.mem_of_mem_drop hx)
  omega
end Go.CH.Esc
