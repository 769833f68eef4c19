/-
  NetOrder returns true at every input: Rows.NetOrderSaid, with no condition.
-/
import Derived.Test.YtolpcjpnjicmkaaRows
import Derived.Test.YtolpcjpnjicmkaaOrder
import Derived.WalkKit
import Derived.ProofKit
import Derived.OpenShut
import Derived.ShutString
import Derived.Test.YtolpcjpnjicmkaaOpen
set_option linter.unusedSimpArgs false
set_option linter.unusedVariables false
namespace Go.Proofs.Ytolpcjpnjicmkaa
namespace POrder
open Go.ChangeShapes Go.WideShapes Go.ChangeAt Go.RowKit Go.CH
open Go.ChangeMaps (open_string shut_string)
theorem open22 {H : Type} {enc : TypeId × Value → H} {w : World} {A : Option Addr} {n c : Nat} {d : DataW H} {ps : List MemPlace}
    (h : DataW.Trod enc Try.prog w 0 (fun _ => true) true 22 (.slice A n c) d ps) : ∃ xs : List ByteArray, xs.length = n ∧ Src w A n 1 (strs xs) := by
  obtain ⟨xs, h1, h2, _⟩ := open_src (size := 1) (fun s : ByteArray => [Value.string s]) (fun s => s.size ≤ maxLen) Try.underlying22 (by kernel_rfl) (by decide) (each_string Try.underlying9) (fun x _ u hu => by simp at hu; subst hu; rfl) h
  exact ⟨xs, h1, by rw [strs, List.map_eq_flatMap]; exact h2⟩
theorem open23 {H : Type} {enc : TypeId × Value → H} {w : World} {A : Option Addr} {n c : Nat} {d : DataW H} {ps : List MemPlace}
    (h : DataW.Trod enc Try.prog w 0 (fun _ => true) true 23 (.slice A n c) d ps) : ∃ xs : List Bool, xs.length = n ∧ Src w A n 1 (xs.map Value.bool) := by
  obtain ⟨xs, h1, h2, _⟩ := open_src (size := 1) (fun s : Bool => [Value.bool s]) (fun s => True) Try.underlying23 (by kernel_rfl) (by decide) (each_bool Try.underlying4) (fun x _ u hu => by simp at hu; subst hu; rfl) h
  exact ⟨xs, h1, by rw [List.map_eq_flatMap]; exact h2⟩
theorem walk (A : Option Addr) (n c : Nat) (l : List ByteArray) (a b : Int) (B : Option Addr) (nb cb : Nat) (when_ : List Bool) (w : World) (hl : l.length = n ∧ Src w A n 1 (strs l)) (w0 : (Lit.int .u8 a).wf = true) (w1 : (Lit.int .u8 b).wf = true) (hw : when_.length = nb ∧ Src w B nb 1 (when_.map Value.bool)) :
    Calls Try.prog 3 #[.slice A n c, .int .u8 a, .int .u8 b, .slice B nb cb] w (BelowRet w (.bool true)) := by
  obtain ⟨rfl, hl⟩ := hl
  obtain ⟨rfl, hw⟩ := hw
  by_cases hn : 90 < l.length
  · exact order_much A _ c B _ cb a b w hn
  · cases he : (a % 4 == b % 4) with
    | true => exact order_same A _ c B _ cb a b w (by omega) (of_wf_u8 w0) (of_wf_u8 w1) he
    | false => exact order_any A c l B cb when_ a b w (by omega) (of_wf_u8 w0) (of_wf_u8 w1) he hl hw
theorem own : ownKnob Try.prog.godebug = none := by kernel_rfl
theorem laidOut : laidOutB Try.prog = true := by kernel_rfl
set_option maxRecDepth 100000 in
theorem lifted (os : Os) (started : os.Started) (H : Type) (enc : TypeId × Value → H) :
    ReturnsInHanded {} Try.checked os 3 .any (Rows.netOrderSpec.pre6 enc Try.prog Try.f3 Rows.netOrderRow.domain false) (Rows.netOrderSpec.post enc Try.prog Try.f3 false true false false) := by
  refine returnsInHanded_of_change (C := Try.checked) own started (by kernel_rfl) Try.func3
    (ChangeSpec.witness6 (enc := enc) (C := Try.checked) false ⟨#[], #[.slice none 0 0, .int .u8 0, .int .u8 0, .slice none 0 0], []⟩ 8 (by kernel_rfl) (by kernel_rfl) (by kernel_rfl) (by kernel_rfl)) ?_
  intro W base args ds gs before hval0 hW hcnd _
  have hval : ∀ (j : Nat) t v, Try.f3.params[j]? = some t → args[j]? = some v → Value.okWide Try.prog W .any base t v := hval0
  have hW' := hW
  obtain ⟨p, q, hA0, hV, rfl, hfz, hnd⟩ := hW
  have hA : DataW.TrodAll enc Try.prog W 0 (fun _ => true) true Try.f3.params.toList args.toList ds p := hA0
  rw [Try.params3] at hA hval
  obtain ⟨v0, vs0, d0, ds0, p0, q0, hargs, rfl, rfl, h0, r0⟩ := trodAll_cons hA
  obtain ⟨v1, vs1, d1, ds1, p1, q1, rfl, rfl, rfl, h1, r1⟩ := trodAll_cons r0
  obtain ⟨v2, vs2, d2, ds2, p2, q2, rfl, rfl, rfl, h2, r2⟩ := trodAll_cons r1
  obtain ⟨v3, vs3, d3, ds3, p3, q3, rfl, rfl, rfl, h3, r3⟩ := trodAll_cons r2
  obtain ⟨rfl, rfl, rfl⟩ := trodAll_nil r3
  obtain rfl : args = #[v0, v1, v2, v3] := by cases args; simp_all
  obtain ⟨rfl, rfl⟩ := trodVars_none hV
  have k0 := h0
  have lt0 : ∀ x ∈ p0, x.block < W.heap.size := by obtain ⟨m, hm⟩ := k0; exact DataW.trod_lt m _ _ _ hm
  obtain ⟨a0, n0, c0, rfl⟩ := okWide_slice Try.underlying22 (hval 0 22 v0 rfl rfl)
  obtain ⟨x0, w0⟩ := open22 h0
  have k1 := h1
  have lt1 : ∀ x ∈ p1, x.block < W.heap.size := by obtain ⟨m, hm⟩ := k1; exact DataW.trod_lt m _ _ _ hm
  obtain ⟨a1, rfl, -, -, w1⟩ := open_int Try.underlying5 (hval 1 5 v1 rfl rfl) h1
  have k2 := h2
  have lt2 : ∀ x ∈ p2, x.block < W.heap.size := by obtain ⟨m, hm⟩ := k2; exact DataW.trod_lt m _ _ _ hm
  obtain ⟨a2, rfl, -, -, w2⟩ := open_int Try.underlying5 (hval 2 5 v2 rfl rfl) h2
  have k3 := h3
  have lt3 : ∀ x ∈ p3, x.block < W.heap.size := by obtain ⟨m, hm⟩ := k3; exact DataW.trod_lt m _ _ _ hm
  obtain ⟨a3, n3, c3, rfl⟩ := okWide_slice Try.underlying23 (hval 3 23 v3 rfl rfl)
  obtain ⟨x3, w3⟩ := open23 h3
  clear hA0 hval0
  refine (walk a0 n0 c0 x0 a1 a2 a3 n3 c3 x3 W w0 w1 w2 w3).mono fun e W' ⟨he, bel⟩ => ?_
  subst he
  exact ⟨_, rfl, _, _, _, [], _, [], hW', trodAll_mk1 (shut_bool Try.underlying4 _), (trodAll_cons_mk (Below.trod laidOut (by kernel_rfl) (of_decide_eq_true (by kernel_rfl)) k0 bel lt0) (trodAll_cons_mk (Below.trod laidOut (by kernel_rfl) (of_decide_eq_true (by kernel_rfl)) k1 bel lt1) (trodAll_cons_mk (Below.trod laidOut (by kernel_rfl) (of_decide_eq_true (by kernel_rfl)) k2 bel lt2) (trodAll_cons_mk (Below.trod laidOut (by kernel_rfl) (of_decide_eq_true (by kernel_rfl)) k3 bel lt3) trodAll_mk0)))), rfl, bel.frame _, fun h => by cases h⟩

theorem over : Rows.netOrderRow.holds Try.pinned (OpenSpec.ofChange Rows.netOrderSpec) :=
  OpenClaim.holds_of_wide 3 Try.f3 rfl rfl rfl rfl rfl rfl rfl ⟨rfl, rfl, rfl, rfl, rfl⟩ rfl rfl rfl rfl rfl (by kernel_rfl) Try.func3 (by kernel_rfl)
    (of_decide_eq_true (by kernel_rfl)) (by unfold Func.isWrapper; first | (rw [if_pos (by decide +kernel)]; kernel_rfl) | (rw [if_neg (by decide +kernel)]; exact ⟨rfl, rfl⟩))
    (fun os started H enc _ => lifted os started H enc)

theorem netOrder_holds : Rows.NetOrderSaid := over
end POrder
theorem netOrder_holds : Rows.NetOrderSaid := POrder.netOrder_holds
end Go.Proofs.Ytolpcjpnjicmkaa
