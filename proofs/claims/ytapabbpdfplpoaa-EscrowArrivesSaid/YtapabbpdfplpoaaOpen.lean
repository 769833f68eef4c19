/-
  Arguments that are slices, opened to the cells that the walk reads: one law for every kind of element, and the laws for an element that is a string, a bool, an integer or a struct of one-cell fields.
-/
import Derived.Test.YtapabbpdfplpoaaLib
import Derived.ProofKit
import Derived.DataShut
import Derived.Carry
import Derived.Deep.Slices
import Derived.Deep.Fields
import Derived.ChangeSame
set_option linter.unusedSimpArgs false
set_option linter.unusedVariables false
namespace Go.CH
open Go.ChangeShapes Go.WideShapes Go.Deep
section
variable {H : Type} {enc : TypeId × Value → H} {P : Program} {w : World} {base : Nat} {held : Bool}

theorem flatMap_get {α : Type} (R : α → List Value) (size : Nat) (hs : 0 < size) : ∀ (xs : List α), (∀ x ∈ xs, (R x).length = size) → ∀ j u, (xs.flatMap R)[j]? = some u → ∃ x, xs[j / size]? = some x ∧ (R x)[j % size]? = some u
  | [], _, j, u, h => by simp at h
  | x :: xs, hR, j, u, h => by
    have hx := hR x (by simp)
    rw [List.flatMap_cons] at h
    by_cases hj : j < size
    · rw [List.getElem?_append_left (by omega)] at h
      exact ⟨x, by rw [Nat.div_eq_of_lt hj]; rfl, by rw [Nat.mod_eq_of_lt hj]; exact h⟩
    · rw [List.getElem?_append_right (by omega), hx] at h
      obtain ⟨y, h1, h2⟩ := flatMap_get R size hs xs (fun z hz => hR z (by simp [hz])) (j - size) u h
      refine ⟨y, ?_, ?_⟩
      · rw [show j = (j - size) + size by omega, Nat.add_div_right _ hs]; simpa using h1
      · rw [show j = (j - size) + size by omega, Nat.add_mod_right]; exact h2

theorem flatMap_len {α : Type} (R : α → List Value) (size : Nat) : ∀ (xs : List α), (∀ x ∈ xs, (R x).length = size) → (xs.flatMap R).length = xs.length * size
  | [], _ => by simp
  | x :: xs, hR => by
    rw [List.flatMap_cons, List.length_append, hR x (by simp), flatMap_len R size xs (fun z hz => hR z (by simp [hz])), List.length_cons, Nat.succ_mul]; omega

/-- A slice that is an argument holds what its elements' readings say: 'R x' are the cells of the element x. -/
theorem open_src {t e : TypeId} {A : Option Addr} {n c : Nat} {d : DataW H} {ps : List MemPlace} {α : Type} [Inhabited α] (R : α → List Value) (Good : α → Prop) {size : Nat} (ht : P.underlying t = some (.slice e)) (hc : P.cellsOf e = size) (hs : 0 < size)
    (each : ∀ m cs y, DataW.trod enc P w base (fun _ => true) held m e cs = some y → ∃ x, cs = R x ∧ Good x) (one : ∀ x, Good x → ∀ u ∈ R x, u.oneCell' = true)
    (h : DataW.Trod enc P w base (fun _ => true) held t (.slice A n c) d ps) :
    ∃ xs : List α, xs.length = n ∧ Src w A n size (xs.flatMap R) ∧ (∀ x ∈ xs, Good x ∧ (R x).length = size) ∧ n ≤ c ∧ c ≤ maxLen := by
  obtain ⟨fuel, hf⟩ := h
  rcases open_slice ht hf with ⟨h0, _⟩ | ⟨a, len, cap, m, k, D, Pl, hv, _, hl, hm, hmm, _, hx⟩
  · simp [Value.cells] at h0
    obtain ⟨rfl, rfl, rfl⟩ := h0
    exact ⟨[], rfl, Src.none_, by simp, by omega, by omega⟩
  · simp [Value.cells] at hv
    obtain ⟨rfl, rfl, rfl⟩ := hv
    simp only [if_true] at hmm
    subst hmm
    obtain ⟨F, hF⟩ := choose_lt (n := m) (p := fun i (x : α) => Good x ∧ w.cells? base (a.add (i * P.cellsOf e)) (P.cellsOf e) = some (R x)) (fun i hi => by
      obtain ⟨cs', h1, h2⟩ := hx i hi
      obtain ⟨x, rfl, hg⟩ := each _ _ _ h2
      exact ⟨x, hg, h1⟩)
    have hlen : ∀ i, i < m → (R (F i)).length = size := fun i hi => by
      obtain ⟨_, h2, _⟩ := World.cells?_some (hF i hi).2
      rw [h2, hc]
    have hmem : ∀ x ∈ (List.range n).map F, Good x ∧ (R x).length = size := by
      intro x hx'
      simp only [List.mem_map, List.mem_range] at hx'
      obtain ⟨i, hi, rfl⟩ := hx'
      exact ⟨(hF i (by omega)).1, hlen i (by omega)⟩
    refine ⟨(List.range n).map F, by simp, ⟨?_, ?_, fun _ => ⟨a, rfl, ?_⟩⟩, hmem, hl, hm⟩
    · rw [flatMap_len R size _ (fun x hx' => (hmem x hx').2)]; simp
    · intro u hu
      rw [List.mem_flatMap] at hu
      obtain ⟨x, h1, h2⟩ := hu
      exact one x (hmem x h1).1 u h2
    · intro j u hu
      obtain ⟨x, h1, h2⟩ := flatMap_get R size hs _ (fun x hx' => (hmem x hx').2) j u hu
      rw [List.getElem?_map, Option.map_eq_some_iff] at h1
      obtain ⟨i, hi, rfl⟩ := h1
      have hi2 : j / size < n ∧ i = j / size := by
        obtain ⟨h1, h2⟩ := List.getElem?_eq_some_iff.1 hi
        simp at h1 h2
        exact ⟨h1, h2.symm⟩
      obtain ⟨hjn, rfl⟩ := hi2
      obtain ⟨_, _, h4⟩ := World.cells?_some (hF (j / size) (by omega)).2
      have h5 := h4 (j % size) (by rw [hc]; exact Nat.mod_lt _ hs)
      rw [add_add, hc, Nat.div_add_mod' j size] at h5
      rw [h5]; exact h2

theorem each_string {e : TypeId} (he : P.underlying e = some .string) : ∀ m cs y, DataW.trod enc P w base (fun _ => true) held m e cs = some y → ∃ x : ByteArray, cs = [.string x] ∧ x.size ≤ maxLen := by
  intro m cs y h
  obtain ⟨s, rfl, _, hw⟩ := DataW.trod_string he h
  exact ⟨s, rfl, hw⟩
theorem each_bool {e : TypeId} (he : P.underlying e = some .bool) : ∀ m cs y, DataW.trod enc P w base (fun _ => true) held m e cs = some y → ∃ x : Bool, cs = [.bool x] ∧ True := by
  intro m cs y h
  obtain ⟨s, h1, _⟩ := DataW.trod_bool he h
  exact ⟨s, h1, trivial⟩

/-- The cells of a struct whose fields take one cell each, field by field. -/
theorem open_fields {e : TypeId} {fs : Array Field} {m : Nat} {cs : List Value} {y : DataW H × List MemPlace} (he : P.underlying e = some (.struct fs)) (hone : oneCellFields P fs = true) (hC : P.cellsOf e = fs.size)
    (h : DataW.trod enc P w base (fun _ => true) held m e cs = some y) :
    cs.length = fs.size ∧ ∃ n, ∀ (j : Nat) (f : Field), fs[j]? = some f → ∃ (v : Value) (z : DataW H × List MemPlace), cs[j]? = some v ∧ DataW.trod enc P w base (fun _ => true) held n f.type [v] = some z := by
  obtain ⟨ys, n', _, _, hl, hyl, hf⟩ := DataW.trod_struct he h
  have hcl : cs.length = fs.size := by rw [← hC]; exact hl
  refine ⟨hcl, n', fun j f hj => ?_⟩
  obtain ⟨ho, hk⟩ := hone_of hone j f hj
  have hjl : j < fs.size := (Array.getElem?_eq_some_iff.1 hj).1
  have h1 := hf j f hj
  rw [ho, hk] at h1
  have hone' : (cs.drop j).take 1 = [cs[j]'(by omega)] := by
    rw [List.drop_eq_getElem_cons (by omega)]
    rfl
  rw [hone'] at h1
  have hys : ys[j]? = some (ys[j]'(by omega)) := List.getElem?_eq_getElem (by omega)
  exact ⟨_, _, List.getElem?_eq_getElem (by omega), h1.trans hys⟩
end
theorem of_wf {k : IntKind} {n : Int} (h : (Lit.int k n).wf = true) : k.min ≤ n ∧ n ≤ k.max := (Lit.wf_int_iff k n).1 h
theorem of_wf_u8 {n : Int} (h : (Lit.int .u8 n).wf = true) : 0 ≤ n ∧ n ≤ 255 := of_wf h
theorem of_wf_i64 {n : Int} (h : (Lit.int .i64 n).wf = true) : -9223372036854775808 ≤ n ∧ n ≤ 9223372036854775807 := of_wf h
end Go.CH
