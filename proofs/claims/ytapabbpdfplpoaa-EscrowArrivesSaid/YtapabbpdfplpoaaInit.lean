/-
  Escrow: the program's own words, sign by sign; and the closed facts of the rows.
-/
import Derived.Test.YtapabbpdfplpoaaRows
import Derived.ProofKit
set_option linter.unusedSimpArgs false
set_option linter.unusedVariables false
namespace Go.Proofs.Ytapabbpdfplpoaa
open Go.RowKit
def signs : List Nat := [104, 97, 114, 110, 101, 115, 115, 32, 53, 101, 49, 49, 101, 100, 97, 97, 51, 50, 99, 56, 51, 49, 53, 52, 56, 56, 52, 100, 102, 100, 56, 52, 57, 53, 51, 51, 50, 48, 49, 102, 50, 102, 101, 98, 52, 51, 99, 51, 56, 99, 100, 51, 52, 55, 49, 100, 54, 100, 99, 98, 57, 57, 97, 98, 54, 102, 52, 50, 49, 48, 54, 97, 32, 99, 117, 116, 32, 97, 116, 32, 99, 117, 115, 116, 111, 109, 104, 111, 117, 115, 101, 47, 99, 117, 115, 116, 111, 109, 104, 111, 117, 115, 101, 108, 97, 119, 51, 54, 46, 69, 115, 99, 114, 111, 119, 77, 97, 116, 99, 104, 101, 115, 82, 101, 102, 101, 114, 101, 110, 99, 101, 32, 99, 117, 115, 116, 111, 109, 104, 111, 117, 115, 101, 47, 99, 117, 115, 116, 111, 109, 104, 111, 117, 115, 101, 108, 97, 119, 51, 54, 46, 69, 115, 99, 114, 111, 119, 67, 111, 110, 115, 101, 114, 118, 101, 115, 32, 99, 117, 115, 116, 111, 109, 104, 111, 117, 115, 101, 47, 99, 117, 115, 116, 111, 109, 104, 111, 117, 115, 101, 108, 97, 119, 51, 54, 46, 69, 115, 99, 114, 111, 119, 79, 110, 99, 101, 32, 99, 117, 115, 116, 111, 109, 104, 111, 117, 115, 101, 47, 99, 117, 115, 116, 111, 109, 104, 111, 117, 115, 101, 108, 97, 119, 51, 54, 46, 69, 115, 99, 114, 111, 119, 65, 114, 114, 105, 118, 101, 115, 32, 99, 117, 115, 116, 111, 109, 104, 111, 117, 115, 101, 47, 99, 117, 115, 116, 111, 109, 104, 111, 117, 115, 101, 108, 97, 119, 51, 54, 46, 69, 115, 99, 114, 111, 119, 82, 101, 118, 111, 107, 101, 115, 32, 99, 117, 115, 116, 111, 109, 104, 111, 117, 115, 101, 47, 99, 117, 115, 116, 111, 109, 104, 111, 117, 115, 101, 108, 97, 119, 51, 54, 46, 69, 115, 99, 114, 111, 119, 67, 111, 110, 102, 105, 114, 109, 115, 32, 99, 117, 115, 116, 111, 109, 104, 111, 117, 115, 101, 47, 99, 117, 115, 116, 111, 109, 104, 111, 117, 115, 101, 108, 97, 119, 51, 54, 46, 69, 115, 99, 114, 111, 119, 79, 116, 104, 101, 114, 115, 32, 99, 117, 115, 116, 111, 109, 104, 111, 117, 115, 101, 47, 99, 117, 115, 116, 111, 109, 104, 111, 117, 115, 101, 116, 111, 112, 46, 84, 111, 112, 82, 101, 112, 108, 105, 99, 97, 115, 32, 99, 117, 115, 116, 111, 109, 104, 111, 117, 115, 101, 47, 99, 117, 115, 116, 111, 109, 104, 111, 117, 115, 101, 108, 97, 119, 51, 53, 46, 76, 105, 99, 101, 110, 99, 101, 77, 97, 116, 99, 104, 101, 115, 82, 101, 102, 101, 114, 101, 110, 99, 101, 32, 99, 117, 115, 116, 111, 109, 104, 111, 117, 115, 101, 47, 99, 117, 115, 116, 111, 109, 104, 111, 117, 115, 101, 108, 97, 119, 51, 53, 46, 76, 105, 99, 101, 110, 99, 101, 78, 105, 108, 32, 99, 117, 115, 116, 111, 109, 104, 111, 117, 115, 101, 47, 99, 117, 115, 116, 111, 109, 104, 111, 117, 115, 101, 108, 97, 119, 51, 53, 46, 76, 105, 99, 101, 110, 99, 101, 78, 101, 118, 101, 114, 79, 118, 101, 114, 115, 112, 101, 110, 116, 32, 99, 117, 115, 116, 111, 109, 104, 111, 117, 115, 101, 47, 99, 117, 115, 116, 111, 109, 104, 111, 117, 115, 101, 108, 97, 119, 51, 53, 46, 76, 105, 99, 101, 110, 99, 101, 82, 101, 118, 111, 107, 101, 100, 32, 99, 117, 115, 116, 111, 109, 104, 111, 117, 115, 101, 47, 99, 117, 115, 116, 111, 109, 104, 111, 117, 115, 101, 108, 97, 119, 51, 53, 46, 76, 105, 99, 101, 110, 99, 101, 83, 112, 108, 105, 116, 115, 32, 99, 117, 115, 116, 111, 109, 104, 111, 117, 115, 101, 47, 99, 117, 115, 116, 111, 109, 104, 111, 117, 115, 101, 108, 97, 119, 51, 53, 46, 76, 105, 99, 101, 110, 99, 101, 79, 116, 104, 101, 114, 115]
theorem init_is : Try.prog.initOrder = String.ofList (signs.map Char.ofNat) := by kernel_rfl
theorem init_list : Try.prog.initOrder.toList = signs.map Char.ofNat := by rw [init_is, String.toList_ofList]
set_option maxRecDepth 100000 in
theorem words_head : (behindMainWord (wordsSigns (signs.map Char.ofNat))).head? = some [Char.ofNat 99, Char.ofNat 117, Char.ofNat 116] := by kernel_rfl
theorem head_cons {α : Type} {l : List α} {a : α} (h : l.head? = some a) : ∃ r, l = a :: r := by
  cases l with
  | nil => cases h
  | cons c r => exact ⟨r, by injection h with h; rw [h]⟩
theorem words_of (L : List Char) (h : (behindMainWord (wordsSigns L)).head? = some [Char.ofNat 99, Char.ofNat 117, Char.ofNat 116]) : ∃ rest, behindMainWord (wordsSigns L) = [Char.ofNat 99, Char.ofNat 117, Char.ofNat 116] :: rest := head_cons h
theorem words_is : ∃ rest, behindMainWord (wordsSigns Try.prog.initOrder.toList) = [Char.ofNat 99, Char.ofNat 117, Char.ofNat 116] :: rest := words_of _ (by rw [init_list]; exact words_head)
theorem strip_none (s : String) (r : List (List Char)) : ∀ (l : List String), (∀ o ∈ l, o ≠ s) → stripLifts l (s.toList :: r) = ([], s.toList :: r)
  | [], _ => rfl
  | o :: l, h => by
    have h1 : (s.toList == o.toList) = false := by
      have : s.toList ≠ o.toList := fun e => h o (by simp) (String.toList_inj.1 e).symm
      simpa using this
    unfold stripLifts
    rw [h1]
    simp only [Bool.false_eq_true, if_false]
    exact strip_none s r l (fun x hx => h x (by simp [hx]))
theorem lift_cut : ∀ o ∈ liftWords, o ≠ "cut" := of_decide_eq_true (by kernel_rfl)
theorem cut_signs : [Char.ofNat 99, Char.ofNat 117, Char.ofNat 116] = "cut".toList := by kernel_rfl
theorem words_cut : ∃ rest, behindMainWord (wordsSigns Try.prog.initOrder.toList) = "cut".toList :: rest := by rw [← cut_signs]; exact words_is
section
variable {P : Program} {r : List (List Char)}
theorem head_lifts_of (h : behindMainWord (wordsSigns P.initOrder.toList) = "cut".toList :: r) : P.headLifts = [] := by
  unfold Program.headLifts
  rw [h]
  simp only [strip_none "cut" r liftWords lift_cut]
  split <;> rfl
theorem may_enter_of (h : behindMainWord (wordsSigns P.initOrder.toList) = "cut".toList :: r) (h1 : P.laysLater = false) (h2 : P.bearsReflect = false) (h3 : P.doorFits [] = true) : P.mayEnter = true := by
  unfold Program.mayEnter
  rw [h]
  simp only [strip_none "cut" r liftWords lift_cut, h1, h2, h3]
  simp
theorem lifts_final_of (h : behindMainWord (wordsSigns P.initOrder.toList) = "cut".toList :: r) : P.liftsFinal = false := by
  unfold Program.liftsFinal
  rw [head_lifts_of h, h]
  kernel_rfl
theorem make_of (h : behindMainWord (wordsSigns P.initOrder.toList) = "cut".toList :: r) : P.make = some .cut := by
  unfold Program.make
  rw [h]
  kernel_rfl
end
theorem may_enter : Try.prog.mayEnter = true := by
  obtain ⟨r, h⟩ := words_cut
  exact may_enter_of h (by kernel_rfl) (by kernel_rfl) (by kernel_rfl)
theorem lifts_final : Try.prog.liftsFinal = false := by
  obtain ⟨r, h⟩ := words_cut
  exact lifts_final_of h
theorem make_is : Try.prog.make = some .cut := by
  obtain ⟨r, h⟩ := words_cut
  exact make_of h
theorem band {a b : Bool} (ha : a = true) (hb : b = true) : (a && b) = true := by rw [ha, hb]; rfl
end Go.Proofs.Ytapabbpdfplpoaa
