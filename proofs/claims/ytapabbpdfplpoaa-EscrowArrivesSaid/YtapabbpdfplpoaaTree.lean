/-
  Many things owned at once; rows whose elements own memory of their own.
-/
import Derived.Test.YtapabbpdfplpoaaRun
set_option linter.unusedSimpArgs false
set_option linter.unusedVariables false
namespace Go.CH
open Go.RowKit
open Go.ChangeMaps (setBlock)

/-- All of these, in blocks apart from one another. -/
def bigStar : List Own → Own
  | [] => emp
  | A :: l => star A (bigStar l)
theorem big_ok : ∀ {l : List Own}, (∀ A ∈ l, A.Ok) → (bigStar l).Ok
  | [], _ => emp_ok
  | A :: l, h => star_ok (h A (by simp)) (big_ok (fun B hB => h B (by simp [hB])))
theorem star_emp' {A : Own} {w : World} {F : Nat → Prop} (h : A w F) : star A emp w F := ⟨F, fun _ => False, h, fun _ h => h, fun _ _ h => h, fun i => by simp⟩
theorem star_assoc' {A B C : Own} {w : World} {F : Nat → Prop} (h : star A (star B C) w F) : star (star A B) C w F := by
  obtain ⟨F1, F2, h1, ⟨F3, F4, h2, h3, h4, h5⟩, h6, h7⟩ := h
  refine ⟨fun i => F1 i ∨ F3 i, F4, ⟨F1, F3, h1, h2, fun i hi hj => h6 i hi ((h5 i).2 (.inl hj)), fun i => Iff.rfl⟩, h3, fun i hi hj => ?_, fun i => ?_⟩
  · rcases hi with hi | hi
    · exact h6 i hi ((h5 i).2 (.inr hj))
    · exact h4 i hi hj
  · rw [h7, h5, or_assoc]
/-- One of them out. -/
theorem big_out : ∀ {l : List Own} {k : Nat} (hk : k < l.length) {w : World} {F : Nat → Prop}, bigStar l w F → star l[k] (bigStar (l.eraseIdx k)) w F
  | A :: l, 0, _, _, _, h => h
  | A :: l, k + 1, hk, w, F, h => by
    have h1 : star A (bigStar l) w F := h
    have h2 : star A (star (l[k]'(by simpa using hk)) (bigStar (l.eraseIdx k))) w F := star_mono h1 (fun _ h => h) (fun F h => big_out (by simpa using hk) h)
    exact star_rot h2
/-- .. and another one in its place. -/
theorem big_in : ∀ {l : List Own} {k : Nat} (hk : k < l.length) {B : Own} {w : World} {F : Nat → Prop}, star B (bigStar (l.eraseIdx k)) w F → bigStar (l.set k B) w F
  | A :: l, 0, _, _, _, _, h => h
  | A :: l, k + 1, hk, B, w, F, h => by
    have h1 : star B (star A (bigStar (l.eraseIdx k))) w F := h
    exact star_mono (star_rot h1) (fun _ h => h) (fun F h => big_in (by simpa using hk) h)
theorem big_snoc : ∀ {l : List Own} {B : Own} {w : World} {F : Nat → Prop}, star B (bigStar l) w F → bigStar (l ++ [B]) w F
  | [], B, w, F, h => h
  | A :: l, B, w, F, h => by
    have h1 : star B (star A (bigStar l)) w F := h
    exact star_mono (star_rot h1) (fun _ h => h) (fun F h => big_snoc h)

/-! ### Things by keys -/
section keys
variable {κ : Type}
def bigK (l : List κ) (f : κ → Own) : Own := bigStar (l.map f)
theorem bigK_ok {l : List κ} {f : κ → Own} (h : ∀ k, (f k).Ok) : (bigK l f).Ok := big_ok (fun A hA => by obtain ⟨k, _, rfl⟩ := List.mem_map.1 hA; exact h k)
theorem bigK_out [DecidableEq κ] : ∀ {l : List κ} {f : κ → Own} {k : κ} (hk : k ∈ l) {w : World} {F : Nat → Prop}, bigK l f w F → star (f k) (bigK (l.erase k) f) w F
  | a :: l, f, k, hk, w, F, h => by
    have h1 : star (f a) (bigK l f) w F := h
    by_cases hak : a = k
    · subst hak; simpa using h1
    · have hk' : k ∈ l := by simpa [Ne.symm hak] using hk
      rw [List.erase_cons_tail (by simpa using hak)]
      exact star_rot (star_mono h1 (fun _ h => h) (fun F h => bigK_out hk' h))
theorem bigK_congr {l : List κ} {f g : κ → Own} (h : ∀ k ∈ l, f k = g k) : bigK l f = bigK l g := by
  unfold bigK; rw [List.map_congr_left h]
theorem bigK_in0 [DecidableEq κ] : ∀ {l : List κ} {f : κ → Own} {k : κ} (hk : k ∈ l) {w : World} {F : Nat → Prop}, star (f k) (bigK (l.erase k) f) w F → bigK l f w F
  | a :: l, f, k, hk, w, F, h => by
    by_cases hak : a = k
    · subst hak; rw [List.erase_cons_head] at h; exact h
    · have hk' : k ∈ l := by simpa [Ne.symm hak] using hk
      rw [List.erase_cons_tail (by simpa using hak)] at h
      have h1 : star (f k) (star (f a) (bigK (l.erase k) f)) w F := h
      exact star_mono (star_rot h1) (fun _ h => h) (fun F h => bigK_in0 hk' h)
theorem bigK_in [DecidableEq κ] {l : List κ} (hn : l.Nodup) {f g : κ → Own} {k : κ} (hk : k ∈ l) (hfg : ∀ x, x ≠ k → f x = g x) {w : World} {F : Nat → Prop} (h : star (g k) (bigK (l.erase k) f) w F) : bigK l g w F := by
  refine bigK_in0 hk ?_
  rwa [bigK_congr (f := g) (g := f) (fun x hx => (hfg x (by rintro rfl; exact (hn.mem_erase_iff.1 hx).1 rfl)).symm)]
end keys

theorem map_erase {α β : Type} (f : α → β) : ∀ (l : List α) (k : Nat), (l.map f).eraseIdx k = (l.eraseIdx k).map f
  | [], _ => rfl
  | _ :: _, 0 => rfl
  | a :: l, k + 1 => by simp [map_erase f l k]
/-! ### Rows whose elements own memory -/
section arow
variable {ζ : Type} (cl : ζ → List Value) (ow : ζ → Own)
/-- The slice v owns the row of the elements zs: their cells lie in it, and what they own besides. -/
def ARow (e : TypeId) (size : Nat) (v : Value) (zs : List ζ) : Own := star (RowO e size v zs.length (zs.flatMap cl)) (bigStar (zs.map ow))
variable {cl ow}
theorem arow_ok {e : TypeId} {size : Nat} {v : Value} {zs : List ζ} (h : ∀ z, (ow z).Ok) : (ARow cl ow e size v zs).Ok :=
  star_ok row_ok (big_ok (fun A hA => by obtain ⟨z, _, rfl⟩ := List.mem_map.1 hA; exact h z))
theorem arow_nil (w : World) (e : TypeId) (size : Nat) : ARow cl ow e size (.slice none 0 0) [] w (fun _ => False) :=
  ⟨fun _ => False, fun _ => False, row_nil w e size, fun _ h => h, fun _ h => h.elim, fun i => by simp⟩
/-- An element has been appended to the row: it and what it owns come together. -/
theorem arow_snoc {e : TypeId} {size : Nat} {v : Value} {zs : List ζ} {z : ζ} {w : World} {F : Nat → Prop}
    (h : star (RowO e size v (zs.length + 1) (zs.flatMap cl ++ cl z)) (star (ow z) (bigStar (zs.map ow))) w F) : ARow cl ow e size v (zs ++ [z]) w F := by
  unfold ARow
  rw [List.length_append, List.flatMap_append, List.map_append]
  refine star_mono h (fun F h => ?_) (fun F h => big_snoc h)
  simpa using h
/-- What one element owns, out of the row. -/
theorem arow_out {e : TypeId} {size : Nat} {v : Value} {zs : List ζ} {k : Nat} (hk : k < zs.length) {w : World} {F : Nat → Prop} (h : ARow cl ow e size v zs w F) :
    star (ow zs[k]) (star (RowO e size v zs.length (zs.flatMap cl)) (bigStar ((zs.eraseIdx k).map ow))) w F := by
  have h1 := star_mono h (fun _ h => h) (fun F h => big_out (k := k) (by simpa using hk) h)
  have h2 := star_rot h1
  rw [List.getElem_map, map_erase] at h2
  exact h2
theorem arow_in {e : TypeId} {size : Nat} {v : Value} {zs : List ζ} {k : Nat} (hk : k < zs.length) {z : ζ} {w : World} {F : Nat → Prop}
    (h : star (ow z) (star (RowO e size v zs.length ((zs.set k z).flatMap cl)) (bigStar ((zs.eraseIdx k).map ow))) w F) : ARow cl ow e size v (zs.set k z) w F := by
  unfold ARow
  rw [List.length_set, List.map_set]
  refine star_mono (star_rot h) (fun _ h => h) (fun F h => big_in (by simpa using hk) ?_)
  rw [map_erase]; exact h
theorem arow_row {e : TypeId} {size : Nat} {v : Value} {zs : List ζ} {w : World} {F : Nat → Prop} (h : ARow cl ow e size v zs w F) : w.ownsRow 0 e size v zs.length (zs.flatMap cl) := by
  obtain ⟨F1, F2, h1, _⟩ := h; exact h1.1
end arow

/-! ### Cells of a row, written -/
theorem flat_len {α : Type} {R : α → List Value} {size : Nat} (hR : ∀ x, (R x).length = size) (l : List α) : (l.flatMap R).length = l.length * size := by
  induction l with
  | nil => simp
  | cons x l ih => rw [List.flatMap_cons, List.length_append, hR, ih, List.length_cons, Nat.succ_mul]; omega
/-- One cell of a row is written. -/
theorem row_set {w : World} {F : Nat → Prop} {e : TypeId} {size g n c : Nat} {xs : List Value} (h : RowO e size (.slice (some ⟨g, 0, none⟩) n c) n xs w F) {i : Nat} (hi : i < n * size) (v : Value) :
    Post w F (RowO e size (.slice (some ⟨g, 0, none⟩) n c) n (xs.set i v)) (w.setCell ⟨g, i, none⟩ v) := by
  obtain ⟨h1, h2⟩ := h
  have hg : F g := (h2 g).2 rfl
  refine ⟨F, ⟨⟨by rw [List.length_set]; exact h1.1, ?_⟩, h2⟩, (Mod.refl _ _).setCell v (fun _ => hg), fun i hi => .inl hi⟩
  rcases h1.2 with ⟨e1, e2⟩ | ⟨g', cap, cur, hv, h3, h4, h5, h6, h7, h8⟩
  · subst e2; omega
  · injection hv with e1 e2 e3
    injection e1 with e1; injection e1 with e1
    subst e1 e3
    refine .inr ⟨g, c, cur.setIfInBounds i v, rfl, h3, set_row_ v h4, h5, h6, by simpa using h7, ?_⟩
    rw [Array.toList_setIfInBounds, List.take_set, h8]
theorem row_cell {w : World} {F : Nat → Prop} {e : TypeId} {size g n c : Nat} {xs : List Value} (h : RowO e size (.slice (some ⟨g, 0, none⟩) n c) n xs w F) {i : Nat} {v : Value} (hv : xs[i]? = some v) : w.cell? ⟨g, i, none⟩ = some v := by
  have := h.1.cells rfl i v hv; rwa [Addr.add_zero_] at this
theorem row_free {w : World} {F : Nat → Prop} {e : TypeId} {size g n c : Nat} {xs : List Value} (h : RowO e size (.slice (some ⟨g, 0, none⟩) n c) n xs w F) (i : Nat) (hn : 0 < n) : w.frozen? ⟨g, i, none⟩ = false := by
  rcases h.1.2 with ⟨e1, e2⟩ | ⟨g', cap, cur, hv, h3, h4, _⟩
  · omega
  · injection hv with e1 e2 e3
    injection e1 with e1; injection e1 with e1
    subst e1
    simp [World.frozen?, h4]
theorem row_addr {w : World} {F : Nat → Prop} {e : TypeId} {size n c : Nat} {A : Option Addr} {xs : List Value} (h : RowO e size (.slice A n c) n xs w F) (hn : 0 < n) : ∃ g, A = some ⟨g, 0, none⟩ := by
  rcases h.1.2 with ⟨e1, e2⟩ | ⟨g', cap, cur, hv, _⟩
  · omega
  · injection hv with e1; exact ⟨g', e1⟩
theorem flat_set {α : Type} (R : α → List Value) (size : Nat) (hR : ∀ x, (R x).length = size) {l : List α} {k : Nat} (h : k < l.length) {j : Nat} (hj : j < size) {v : Value} {x : α} (hx : (R l[k]).set j v = R x) : (l.flatMap R).set (k * size + j) v = (l.set k x).flatMap R := by
  induction l generalizing k with
  | nil => simp at h
  | cons y l ih =>
    rw [List.flatMap_cons]
    cases k with
    | zero =>
      simp only [Nat.zero_mul, Nat.zero_add, List.set_cons_zero, List.flatMap_cons]
      rw [List.set_append_left _ _ (by rw [hR]; exact hj)]
      simp only [List.getElem_cons_zero] at hx
      rw [hx]
    | succ k =>
      simp only [List.set_cons_succ, List.flatMap_cons]
      rw [List.set_append_right _ _ (by rw [hR, Nat.succ_mul]; omega), hR, show (k + 1) * size + j - size = k * size + j by rw [Nat.succ_mul]; omega, ih (by simpa using h) (by simpa using hx)]

/-! ### Maps as things owned -/
section
variable {α : Type} {kv : α → Value}
def MapO (kv : α → Value) (b : Nat) (l : List (α × Value)) : Own := fun w F => MapIs kv w b l ∧ ∀ i, F i ↔ i = b
theorem map_ok {b : Nat} {l : List (α × Value)} : (MapO kv b l).Ok :=
  ⟨fun h i hi => by rw [(h.2 i).1 hi]; exact h.1.lt, fun h hk => ⟨h.1.of_block (hk b ((h.2 b).2 rfl)), h.2⟩⟩
theorem map_new (w : World) : Post w (fun _ => False) (MapO kv w.heap.size []) (w.alloc (.map #[] 0)) :=
  ⟨fun i => i = w.heap.size, ⟨MapIs.new w, fun i => Iff.rfl⟩, Mod.of_below ((Below.refl _ _).alloc (Nat.le_refl _) _), fun i hi => .inr (by subst hi; simp)⟩
end
end Go.CH
