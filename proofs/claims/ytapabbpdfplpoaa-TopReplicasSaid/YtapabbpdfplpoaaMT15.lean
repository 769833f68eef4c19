/-
  Arguments that are slices, opened to the cells that the walk reads: one law for every kind of element, and the laws for an element that is a string, a bool, an integer or a struct of one-cell fields.
  TopReplicas: the moves that came in, opened.
  Escrow: the program's own words, sign by sign; and the closed facts of the rows.
-/
import Derived.Test.YtapabbpdfplpoaaMT1
import Derived.ProofKit
import Derived.DataShut
import Derived.Carry
import Derived.Deep.Slices
import Derived.Deep.Fields
import Derived.ChangeSame
import Derived.Test.YtapabbpdfplpoaaMT9
import Derived.WalkKit
import Derived.OpenShut
import Derived.ShutString
import Derived.Test.YtapabbpdfplpoaaRows
set_option linter.unusedSimpArgs false
set_option linter.unusedVariables false
namespace Go.CH
open Go.ChangeShapes Go.WideShapes Go.Deep
section
variable {H : Type} {enc : TypeId × Value → H} {P : Program} {w : World} {base : Nat} {held : Bool}

theorem flatMap_get {α : Type} (R : α → List Value) (size : Nat) (hs : 0 < size) : ∀ (xs : List α), (∀ x ∈ xs, (R x).length = size) → ∀ j u, (xs.flatMap R)[j]? = some u → ∃ x, xs[j / size]? = some x ∧ (R x)[j % size]? = some u
  | [], _, j, u, h => by simp at h
  | x :: xs, hR, j, u, h => by
    have hx := hR x (by simp)
    rw [List.flatMap_cons] at h
    by_cases hj : j < size
    · rw [List.getElem?_append_left (by omega)] at h
      exact ⟨x, by rw [Nat.div_eq_of_lt hj]; rfl, by rw [Nat.mod_eq_of_lt hj]; exact h⟩
    · rw [List.getElem?_append_right (by omega), hx] at h
      obtain ⟨y, h1, h2⟩ := flatMap_get R size hs xs (fun z hz => hR z (by simp [hz])) (j - size) u h
      refine ⟨y, ?_, ?_⟩
      · rw [show j = (j - size) + size by omega, Nat.add_div_right _ hs]; simpa using h1
      · rw [show j = (j - size) + size by omega, Nat.add_mod_right]; exact h2

theorem flatMap_len {α : Type} (R : α → List Value) (size : Nat) : ∀ (xs : List α), (∀ x ∈ xs, (R x).length = size) → (xs.flatMap R).length = xs.length * size
  | [], _ => by simp
  | x :: xs, hR => by
    rw [List.flatMap_cons, List.length_append, hR x (by simp), flatMap_len R size xs (fun z hz => hR z (by simp [hz])), List.length_cons, Nat.succ_mul]; omega

/-- A slice that is an argument holds what its elements' readings say: 'R x' are the cells of the element x. -/
theorem open_src {t e : TypeId} {A : Option Addr} {n c : Nat} {d : DataW H} {ps : List MemPlace} {α : Type} [Inhabited α] (R : α → List Value) (Good : α → Prop) {size : Nat} (ht : P.underlying t = some (.slice e)) (hc : P.cellsOf e = size) (hs : 0 < size)
    (each : ∀ m cs y, DataW.trod enc P w base (fun _ => true) held m e cs = some y → ∃ x, cs = R x ∧ Good x) (one : ∀ x, Good x → ∀ u ∈ R x, u.oneCell' = true)
    (h : DataW.Trod enc P w base (fun _ => true) held t (.slice A n c) d ps) :
    ∃ xs : List α, xs.length = n ∧ Src w A n size (xs.flatMap R) ∧ (∀ x ∈ xs, Good x ∧ (R x).length = size) ∧ n ≤ c ∧ c ≤ maxLen := by
  obtain ⟨fuel, hf⟩ := h
  rcases open_slice ht hf with ⟨h0, _⟩ | ⟨a, len, cap, m, k, D, Pl, hv, _, hl, hm, hmm, _, hx⟩
  · simp [Value.cells] at h0
    obtain ⟨rfl, rfl, rfl⟩ := h0
    exact ⟨[], rfl, Src.none_, by simp, by omega, by omega⟩
  · simp [Value.cells] at hv
    obtain ⟨rfl, rfl, rfl⟩ := hv
    simp only [if_true] at hmm
    subst hmm
    obtain ⟨F, hF⟩ := choose_lt (n := m) (p := fun i (x : α) => Good x ∧ w.cells? base (a.add (i * P.cellsOf e)) (P.cellsOf e) = some (R x)) (fun i hi => by
      obtain ⟨cs', h1, h2⟩ := hx i hi
      obtain ⟨x, rfl, hg⟩ := each _ _ _ h2
      exact ⟨x, hg, h1⟩)
    have hlen : ∀ i, i < m → (R (F i)).length = size := fun i hi => by
      obtain ⟨_, h2, _⟩ := World.cells?_some (hF i hi).2
      rw [h2, hc]
    have hmem : ∀ x ∈ (List.range n).map F, Good x ∧ (R x).length = size := by
      intro x hx'
      simp only [List.mem_map, List.mem_range] at hx'
      obtain ⟨i, hi, rfl⟩ := hx'
      exact ⟨(hF i (by omega)).1, hlen i (by omega)⟩
    refine ⟨(List.range n).map F, by simp, ⟨?_, ?_, fun _ => ⟨a, rfl, ?_⟩⟩, hmem, hl, hm⟩
    · rw [flatMap_len R size _ (fun x hx' => (hmem x hx').2)]; simp
    · intro u hu
      rw [List.mem_flatMap] at hu
      obtain ⟨x, h1, h2⟩ := hu
      exact one x (hmem x h1).1 u h2
    · intro j u hu
      obtain ⟨x, h1, h2⟩ := flatMap_get R size hs _ (fun x hx' => (hmem x hx').2) j u hu
      rw [List.getElem?_map, Option.map_eq_some_iff] at h1
      obtain ⟨i, hi, rfl⟩ := h1
      have hi2 : j / size < n ∧ i = j / size := by
        obtain ⟨h1, h2⟩ := List.getElem?_eq_some_iff.1 hi
        simp at h1 h2
        exact ⟨h1, h2.symm⟩
      obtain ⟨hjn, rfl⟩ := hi2
      obtain ⟨_, _, h4⟩ := World.cells?_some (hF (j / size) (by omega)).2
      have h5 := h4 (j % size) (by rw [hc]; exact Nat.mod_lt _ hs)
      rw [add_add, hc, Nat.div_add_mod' j size] at h5
      rw [h5]; exact h2

theorem each_string {e : TypeId} (he : P.underlying e = some .string) : ∀ m cs y, DataW.trod enc P w base (fun _ => true) held m e cs = some y → ∃ x : ByteArray, cs = [.string x] ∧ x.size ≤ maxLen := by
  intro m cs y h
  obtain ⟨s, rfl, _, hw⟩ := DataW.trod_string he h
  exact ⟨s, rfl, hw⟩
theorem each_bool {e : TypeId} (he : P.underlying e = some .bool) : ∀ m cs y, DataW.trod enc P w base (fun _ => true) held m e cs = some y → ∃ x : Bool, cs = [.bool x] ∧ True := by
  intro m cs y h
  obtain ⟨s, h1, _⟩ := DataW.trod_bool he h
  exact ⟨s, h1, trivial⟩

/-- The cells of a struct whose fields take one cell each, field by field. -/
theorem open_fields {e : TypeId} {fs : Array Field} {m : Nat} {cs : List Value} {y : DataW H × List MemPlace} (he : P.underlying e = some (.struct fs)) (hone : oneCellFields P fs = true) (hC : P.cellsOf e = fs.size)
    (h : DataW.trod enc P w base (fun _ => true) held m e cs = some y) :
    cs.length = fs.size ∧ ∃ n, ∀ (j : Nat) (f : Field), fs[j]? = some f → ∃ (v : Value) (z : DataW H × List MemPlace), cs[j]? = some v ∧ DataW.trod enc P w base (fun _ => true) held n f.type [v] = some z := by
  obtain ⟨ys, n', _, _, hl, hyl, hf⟩ := DataW.trod_struct he h
  have hcl : cs.length = fs.size := by rw [← hC]; exact hl
  refine ⟨hcl, n', fun j f hj => ?_⟩
  obtain ⟨ho, hk⟩ := hone_of hone j f hj
  have hjl : j < fs.size := (Array.getElem?_eq_some_iff.1 hj).1
  have h1 := hf j f hj
  rw [ho, hk] at h1
  have hone' : (cs.drop j).take 1 = [cs[j]'(by omega)] := by
    rw [List.drop_eq_getElem_cons (by omega)]
    rfl
  rw [hone'] at h1
  have hys : ys[j]? = some (ys[j]'(by omega)) := List.getElem?_eq_getElem (by omega)
  exact ⟨_, _, List.getElem?_eq_getElem (by omega), h1.trans hys⟩
end
theorem of_wf {k : IntKind} {n : Int} (h : (Lit.int k n).wf = true) : k.min ≤ n ∧ n ≤ k.max := (Lit.wf_int_iff k n).1 h
theorem of_wf_u8 {n : Int} (h : (Lit.int .u8 n).wf = true) : 0 ≤ n ∧ n ≤ 255 := of_wf h
theorem of_wf_i64 {n : Int} (h : (Lit.int .i64 n).wf = true) : -9223372036854775808 ≤ n ∧ n ≤ 9223372036854775807 := of_wf h
end Go.CH
namespace Go.Proofs.Ytapabbpdfplpoaa
open Go.ChangeShapes Go.WideShapes Go.ChangeAt Go.RowKit Go.CH Go.CH.Esc
instance inhAct : Inhabited ActG := ⟨⟨0, 0, 0, 0, false, false⟩⟩
theorem each_mov {H : Type} {enc : TypeId × Value → H} {w : World} {base : Nat} {held : Bool} : ∀ m cs y, DataW.trod enc Try.prog w base (fun _ => true) held m 58 cs = some y → ∃ x : ActG, cs = actL x ∧ actOk x := by
  intro m cs y h
  obtain ⟨hl, n, hf⟩ := open_fields Try.underlying58 (by kernel_rfl) (by kernel_rfl) h
  obtain ⟨v0, z0, h0, t0⟩ := hf 0 _ rfl
  obtain ⟨v1, z1, h1, t1⟩ := hf 1 _ rfl
  obtain ⟨v2, z2, h2, t2⟩ := hf 2 _ rfl
  obtain ⟨v3, z3, h3, t3⟩ := hf 3 _ rfl
  obtain ⟨v4, z4, h4, t4⟩ := hf 4 _ rfl
  obtain ⟨v5, z5, h5, t5⟩ := hf 5 _ rfl
  obtain ⟨x0, e0, -, g0⟩ := DataW.trod_int Try.underlying3 t0
  obtain ⟨x1, e1, -, g1⟩ := DataW.trod_int Try.underlying3 t1
  obtain ⟨x2, e2, -, g2⟩ := DataW.trod_int Try.underlying3 t2
  obtain ⟨x3, e3, -, g3⟩ := DataW.trod_int Try.underlying3 t3
  obtain ⟨x4, e4, -⟩ := DataW.trod_bool Try.underlying4 t4
  obtain ⟨x5, e5, -⟩ := DataW.trod_bool Try.underlying4 t5
  injection e0 with e0; injection e1 with e1; injection e2 with e2; injection e3 with e3; injection e4 with e4; injection e5 with e5
  subst e0 e1 e2 e3 e4 e5
  refine ⟨⟨x0, x1, x2, x3, x4, x5⟩, ?_, of_wf_i64 g3, of_wf_i64 g1, of_wf_i64 g2⟩
  have hl6 : cs.length = 6 := hl
  match cs, hl6, h0, h1, h2, h3, h4, h5 with
  | [a, b, c, d, e, f], _, h0, h1, h2, h3, h4, h5 =>
    simp at h0 h1 h2 h3 h4 h5
    simp [actL, h0, h1, h2, h3, h4, h5]
theorem open50 {H : Type} {enc : TypeId × Value → H} {w : World} {A : Option Addr} {n c : Nat} {d : DataW H} {ps : List MemPlace}
    (h : DataW.Trod enc Try.prog w 0 (fun _ => true) true 50 (.slice A n c) d ps) : ∃ xs : List ActG, Acts w A n xs := by
  obtain ⟨xs, h1, h2, h3, _⟩ := open_src (size := 6) actL actOk Try.underlying50 (by kernel_rfl) (by decide) each_mov (fun x _ u hu => by
    simp [actL] at hu
    rcases hu with rfl | rfl | rfl | rfl | rfl | rfl <;> rfl) h
  exact ⟨xs, h1, h2, fun x hx => (h3 x hx).1⟩
theorem of_wf_u16 {n : Int} (h : (Lit.int .u16 n).wf = true) : 0 ≤ n ∧ n ≤ 65535 := of_wf h
end Go.Proofs.Ytapabbpdfplpoaa
namespace Go.Proofs.Ytapabbpdfplpoaa
open Go.RowKit
def signs : List Nat := [104, 97, 114, 110, 101, 115, 115, 32, 53, 101, 49, 49, 101, 100, 97, 97, 51, 50, 99, 56, 51, 49, 53, 52, 56, 56, 52, 100, 102, 100, 56, 52, 57, 53, 51, 51, 50, 48, 49, 102, 50, 102, 101, 98, 52, 51, 99, 51, 56, 99, 100, 51, 52, 55, 49, 100, 54, 100, 99, 98, 57, 57, 97, 98, 54, 102, 52, 50, 49, 48, 54, 97, 32, 99, 117, 116, 32, 97, 116, 32, 99, 117, 115, 116, 111, 109, 104, 111, 117, 115, 101, 47, 99, 117, 115, 116, 111, 109, 104, 111, 117, 115, 101, 108, 97, 119, 51, 54, 46, 69, 115, 99, 114, 111, 119, 77, 97, 116, 99, 104, 101, 115, 82, 101, 102, 101, 114, 101, 110, 99, 101, 32, 99, 117, 115, 116, 111, 109, 104, 111, 117, 115, 101, 47, 99, 117, 115, 116, 111, 109, 104, 111, 117, 115, 101, 108, 97, 119, 51, 54, 46, 69, 115, 99, 114, 111, 119, 67, 111, 110, 115, 101, 114, 118, 101, 115, 32, 99, 117, 115, 116, 111, 109, 104, 111, 117, 115, 101, 47, 99, 117, 115, 116, 111, 109, 104, 111, 117, 115, 101, 108, 97, 119, 51, 54, 46, 69, 115, 99, 114, 111, 119, 79, 110, 99, 101, 32, 99, 117, 115, 116, 111, 109, 104, 111, 117, 115, 101, 47, 99, 117, 115, 116, 111, 109, 104, 111, 117, 115, 101, 108, 97, 119, 51, 54, 46, 69, 115, 99, 114, 111, 119, 65, 114, 114, 105, 118, 101, 115, 32, 99, 117, 115, 116, 111, 109, 104, 111, 117, 115, 101, 47, 99, 117, 115, 116, 111, 109, 104, 111, 117, 115, 101, 108, 97, 119, 51, 54, 46, 69, 115, 99, 114, 111, 119, 82, 101, 118, 111, 107, 101, 115, 32, 99, 117, 115, 116, 111, 109, 104, 111, 117, 115, 101, 47, 99, 117, 115, 116, 111, 109, 104, 111, 117, 115, 101, 108, 97, 119, 51, 54, 46, 69, 115, 99, 114, 111, 119, 67, 111, 110, 102, 105, 114, 109, 115, 32, 99, 117, 115, 116, 111, 109, 104, 111, 117, 115, 101, 47, 99, 117, 115, 116, 111, 109, 104, 111, 117, 115, 101, 108, 97, 119, 51, 54, 46, 69, 115, 99, 114, 111, 119, 79, 116, 104, 101, 114, 115, 32, 99, 117, 115, 116, 111, 109, 104, 111, 117, 115, 101, 47, 99, 117, 115, 116, 111, 109, 104, 111, 117, 115, 101, 116, 111, 112, 46, 84, 111, 112, 82, 101, 112, 108, 105, 99, 97, 115, 32, 99, 117, 115, 116, 111, 109, 104, 111, 117, 115, 101, 47, 99, 117, 115, 116, 111, 109, 104, 111, 117, 115, 101, 108, 97, 119, 51, 53, 46, 76, 105, 99, 101, 110, 99, 101, 77, 97, 116, 99, 104, 101, 115, 82, 101, 102, 101, 114, 101, 110, 99, 101, 32, 99, 117, 115, 116, 111, 109, 104, 111, 117, 115, 101, 47, 99, 117, 115, 116, 111, 109, 104, 111, 117, 115, 101, 108, 97, 119, 51, 53, 46, 76, 105, 99, 101, 110, 99, 101, 78, 105, 108, 32, 99, 117, 115, 116, 111, 109, 104, 111, 117, 115, 101, 47, 99, 117, 115, 116, 111, 109, 104, 111, 117, 115, 101, 108, 97, 119, 51, 53, 46, 76, 105, 99, 101, 110, 99, 101, 78, 101, 118, 101, 114, 79, 118, 101, 114, 115, 112, 101, 110, 116, 32, 99, 117, 115, 116, 111, 109, 104, 111, 117, 115, 101, 47, 99, 117, 115, 116, 111, 109, 104, 111, 117, 115, 101, 108, 97, 119, 51, 53, 46, 76, 105, 99, 101, 110, 99, 101, 82, 101, 118, 111, 107, 101, 100, 32, 99, 117, 115, 116, 111, 109, 104, 111, 117, 115, 101, 47, 99, 117, 115, 116, 111, 109, 104, 111, 117, 115, 101, 108, 97, 119, 51, 53, 46, 76, 105, 99, 101, 110, 99, 101, 83, 112, 108, 105, 116, 115, 32, 99, 117, 115, 116, 111, 109, 104, 111, 117, 115, 101, 47, 99, 117, 115, 116, 111, 109, 104, 111, 117, 115, 101, 108, 97, 119, 51, 53, 46, 76, 105, 99, 101, 110, 99, 101, 79, 116, 104, 101, 114, 115]
theorem init_is : Try.prog.initOrder = String.ofList (signs.map Char.ofNat) := by kernel_rfl
theorem init_list : Try.prog.initOrder.toList = signs.map Char.ofNat := by rw [init_is, String.toList_ofList]
set_option maxRecDepth 100000 in
theorem words_head : (behindMainWord (wordsSigns (signs.map Char.ofNat))).head? = some [Char.ofNat 99, Char.ofNat 117, Char.ofNat 116] := by kernel_rfl
theorem head_cons {α : Type} {l : List α} {a : α} (h : l.head? = some a) : ∃ r, l = a :: r := by
  cases l with
  | nil => cases h
  | cons c r => exact ⟨r, by injection h with h; rw [h]⟩
theorem words_of (L : List Char) (h : (behindMainWord (wordsSigns L)).head? = some [Char.ofNat 99, Char.ofNat 117, Char.ofNat 116]) : ∃ rest, behindMainWord (wordsSigns L) = [Char.ofNat 99, Char.ofNat 117, Char.ofNat 116] :: rest := head_cons h
theorem words_is : ∃ rest, behindMainWord (wordsSigns Try.prog.initOrder.toList) = [Char.ofNat 99, Char.ofNat 117, Char.ofNat 116] :: rest := words_of _ (by rw [init_list]; exact words_head)
theorem strip_none (s : String) (r : List (List Char)) : ∀ (l : List String), (∀ o ∈ l, o ≠ s) → stripLifts l (s.toList :: r) = ([], s.toList :: r)
  | [], _ => rfl
  | o :: l, h => by
    have h1 : (s.toList == o.toList) = false := by
      have : s.toList ≠ o.toList := fun e => h o (by simp) (String.toList_inj.1 e).symm
      simpa using this
    unfold stripLifts
    rw [h1]
    simp only [Bool.false_eq_true, if_false]
    exact strip_none s r l (fun x hx => h x (by simp [hx]))
theorem lift_cut : ∀ o ∈ liftWords, o ≠ "cut" := of_decide_eq_true (by kernel_rfl)
theorem cut_signs : [Char.ofNat 99, Char.ofNat 117, Char.ofNat 116] = "cut".toList := by kernel_rfl
theorem words_cut : ∃ rest, behindMainWord (wordsSigns Try.prog.initOrder.toList) = "cut".toList :: rest := by rw [← cut_signs]; exact words_is
section
variable {P : Program} {r : List (List Char)}
theorem head_lifts_of (h : behindMainWord (wordsSigns P.initOrder.toList) = "cut".toList :: r) : P.headLifts = [] := by
  unfold Program.headLifts
  rw [h]
  simp only [strip_none "cut" r liftWords lift_cut]
  split <;> rfl
theorem may_enter_of (h : behindMainWord (wordsSigns P.initOrder.toList) = "cut".toList :: r) (h1 : P.laysLater = false) (h2 : P.bearsReflect = false) (h3 : P.doorFits [] = true) : P.mayEnter = true := by
  unfold Program.mayEnter
  rw [h]
  simp only [strip_none "cut" r liftWords lift_cut, h1, h2, h3]
  simp
theorem lifts_final_of (h : behindMainWord (wordsSigns P.initOrder.toList) = "cut".toList :: r) : P.liftsFinal = false := by
  unfold Program.liftsFinal
  rw [head_lifts_of h, h]
  kernel_rfl
theorem make_of (h : behindMainWord (wordsSigns P.initOrder.toList) = "cut".toList :: r) : P.make = some .cut := by
  unfold Program.make
  rw [h]
  kernel_rfl
end
theorem may_enter : Try.prog.mayEnter = true := by
  obtain ⟨r, h⟩ := words_cut
  exact may_enter_of h (by kernel_rfl) (by kernel_rfl) (by kernel_rfl)
theorem lifts_final : Try.prog.liftsFinal = false := by
  obtain ⟨r, h⟩ := words_cut
  exact lifts_final_of h
theorem make_is : Try.prog.make = some .cut := by
  obtain ⟨r, h⟩ := words_cut
  exact make_of h
theorem band {a b : Bool} (ha : a = true) (hb : b = true) : (a && b) = true := by rw [ha, hb]; rfl
end Go.Proofs.Ytapabbpdfplpoaa
