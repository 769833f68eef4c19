/-
  Escrow: a slice of operations that came in, opened.
-/
import Derived.Test.YtapabbpdfplpoaaE27
import Derived.Test.YtapabbpdfplpoaaOpen
import Derived.WalkKit
import Derived.ProofKit
import Derived.OpenShut
import Derived.ShutString
set_option linter.unusedSimpArgs false
set_option linter.unusedVariables false
namespace Go.Proofs.Ytapabbpdfplpoaa
open Go.ChangeShapes Go.WideShapes Go.ChangeAt Go.RowKit Go.CH Go.CH.Esc
instance : Inhabited ActG := ⟨⟨0, 0, 0, 0, false, false⟩⟩
theorem each_act {H : Type} {enc : TypeId × Value → H} {w : World} {base : Nat} {held : Bool} : ∀ m cs y, DataW.trod enc Try.prog w base (fun _ => true) held m 34 cs = some y → ∃ x : ActG, cs = actL x ∧ actOk x := by
  intro m cs y h
  obtain ⟨hl, n, hf⟩ := open_fields Try.underlying34 (by kernel_rfl) (by kernel_rfl) h
  obtain ⟨v0, z0, h0, t0⟩ := hf 0 _ rfl
  obtain ⟨v1, z1, h1, t1⟩ := hf 1 _ rfl
  obtain ⟨v2, z2, h2, t2⟩ := hf 2 _ rfl
  obtain ⟨v3, z3, h3, t3⟩ := hf 3 _ rfl
  obtain ⟨v4, z4, h4, t4⟩ := hf 4 _ rfl
  obtain ⟨v5, z5, h5, t5⟩ := hf 5 _ rfl
  obtain ⟨x0, e0, -, g0⟩ := DataW.trod_int Try.underlying3 t0
  obtain ⟨x1, e1, -, g1⟩ := DataW.trod_int Try.underlying3 t1
  obtain ⟨x2, e2, -, g2⟩ := DataW.trod_int Try.underlying3 t2
  obtain ⟨x3, e3, -, g3⟩ := DataW.trod_int Try.underlying3 t3
  obtain ⟨x4, e4, -⟩ := DataW.trod_bool Try.underlying4 t4
  obtain ⟨x5, e5, -⟩ := DataW.trod_bool Try.underlying4 t5
  injection e0 with e0; injection e1 with e1; injection e2 with e2; injection e3 with e3; injection e4 with e4; injection e5 with e5
  subst e0 e1 e2 e3 e4 e5
  refine ⟨⟨x0, x1, x2, x3, x4, x5⟩, ?_, of_wf_i64 g3, of_wf_i64 g1, of_wf_i64 g2⟩
  have hl6 : cs.length = 6 := hl
  match cs, hl6, h0, h1, h2, h3, h4, h5 with
  | [a, b, c, d, e, f], _, h0, h1, h2, h3, h4, h5 =>
    simp at h0 h1 h2 h3 h4 h5
    simp [actL, h0, h1, h2, h3, h4, h5]
theorem open22 {H : Type} {enc : TypeId × Value → H} {w : World} {A : Option Addr} {n c : Nat} {d : DataW H} {ps : List MemPlace}
    (h : DataW.Trod enc Try.prog w 0 (fun _ => true) true 22 (.slice A n c) d ps) : ∃ xs : List ActG, Acts w A n xs := by
  obtain ⟨xs, h1, h2, h3, _⟩ := open_src (size := 6) actL actOk Try.underlying22 (by kernel_rfl) (by decide) each_act (fun x _ u hu => by
    simp [actL] at hu
    rcases hu with rfl | rfl | rfl | rfl | rfl | rfl <;> rfl) h
  exact ⟨xs, h1, h2, fun x hx => (h3 x hx).1⟩
theorem of_wf_u16 {n : Int} (h : (Lit.int .u16 n).wf = true) : 0 ≤ n ∧ n ≤ 65535 := of_wf h
end Go.Proofs.Ytapabbpdfplpoaa
