/-
  A call that owns the blocks F0 from the start: what it owns now, and that nothing else has turned.
-/
import Derived.Test.YtapabbpdfplpoaaSep
set_option linter.unusedSimpArgs false
set_option linter.unusedVariables false
namespace Go.CH
open Go.RowKit

/-- The state of a call that began in w0 with the blocks F0: O in blocks of F0 or new ones; nothing else has turned. -/
structure Run (F0 : Nat → Prop) (w0 : World) (O : Own) (W : World) : Prop where
  own : ∃ F, O W F ∧ ∀ i, F i → F0 i ∨ w0.heap.size ≤ i
  mod : Mod F0 w0 W
section
variable {F0 : Nat → Prop} {w0 W W' : World} {A B C D O R : Own}
theorem Run.start {F0 : Nat → Prop} {w : World} (h : O w F0) : Run F0 w O w := ⟨⟨F0, h, fun i hi => .inl hi⟩, Mod.refl _ _⟩
theorem Run.begin (w : World) : Run (fun _ => False) w emp w := ⟨⟨fun _ => False, fun _ h => h, fun _ h => h.elim⟩, Mod.refl _ _⟩
theorem Run.size (h : Run F0 w0 O W) : w0.heap.size ≤ W.heap.size := h.mod.size
theorem Run.bel (h : Run (fun _ => False) w0 O W) : Below w0.heap.size w0 W := h.mod.below (fun _ _ h => h)
theorem Run.post (h : Run F0 w0 O W) (ho : O.Ok) : Post w0 F0 O W := by
  obtain ⟨F, h1, h2⟩ := h.own
  exact ⟨F, h1, h.mod, fun i hi => (h2 i hi).imp id (fun g => ⟨g, ho.lt h1 i hi⟩)⟩
theorem Run.imp (h : Run F0 w0 A W) (hi : ∀ w F, A w F → B w F) : Run F0 w0 B W := by
  obtain ⟨F, h1, h2⟩ := h.own
  exact ⟨⟨F, hi _ _ h1, h2⟩, h.mod⟩
/-- A call that only makes blocks. -/
theorem Run.below (h : Run F0 w0 O W) (ho : O.Ok) (hb : Below W.heap.size W W') : Run F0 w0 O W' := by
  obtain ⟨F, h1, h2⟩ := h.own
  exact ⟨⟨F, ho.keep h1 (fun i hi => hb.block i (ho.lt h1 i hi)), h2⟩, h.mod.trans (Mod.of_below (F := fun _ => False) hb) (fun _ _ h => h) (fun _ _ h => h.elim)⟩
theorem Run.drew (h : Run F0 w0 O W) (ho : O.Ok) : Run F0 w0 O W.drew := h.below ho (below_drew (Below.refl _ _))
theorem Run.drewN (h : Run F0 w0 O W) (ho : O.Ok) (n : Nat) : Run F0 w0 O (W.drewN n) := h.below ho (below_drewN (Below.refl _ _) n)
/-- Take A out for a call: what it leaves comes back. -/
theorem Run.take (h : Run F0 w0 (star A B) W) (ha : A.Ok) (hb : B.Ok) : ∃ F, A W F ∧ (∀ i, F i → F0 i ∨ w0.heap.size ≤ i) ∧ ∀ (R : Own) (W' : World), Post W F R W' → Run F0 w0 (star R B) W' := by
  have hs := h.size
  obtain ⟨F, ⟨F1, F2, h1, h2, h3, h4⟩, h5⟩ := h.own
  refine ⟨F1, h1, fun i hi => h5 i ((h4 i).2 (.inl hi)), fun R W' hp => ?_⟩
  obtain ⟨F', g1, g2, g3⟩ := hp
  refine ⟨⟨fun i => F' i ∨ F2 i, ⟨F', F2, g1, hb.keep h2 (fun i hi => g2.block i (hb.lt h2 i hi) (fun hf => h3 i hf hi)), fun i hi hi2 => ?_, fun i => Iff.rfl⟩, fun i hi => ?_⟩, ?_⟩
  · rcases g3 i hi with g | g
    · exact h3 i g hi2
    · have := hb.lt h2 i hi2; omega
  · rcases hi with hi | hi
    · rcases g3 i hi with g | g
      · exact h5 i ((h4 i).2 (.inl g))
      · exact .inr (by omega)
    · exact h5 i ((h4 i).2 (.inr hi))
  · exact h.mod.trans g2 (fun _ _ h => h) (fun i hi hf => (h5 i ((h4 i).2 (.inl hf))).elim id (fun g => by omega))
theorem Run.one (h : Run F0 w0 A W) : Run F0 w0 (star A emp) W := by
  obtain ⟨F, h1, h2⟩ := h.own
  exact ⟨⟨F, ⟨F, fun _ => False, h1, fun _ h => h, fun _ _ h => h, fun i => by simp⟩, h2⟩, h.mod⟩
/-- The whole of what is owned goes into a call. -/
theorem Run.all (h : Run F0 w0 A W) (ha : A.Ok) : ∃ F, A W F ∧ ∀ (R : Own) (W' : World), Post W F R W' → Run F0 w0 R W' := by
  obtain ⟨F, h1, -, h2⟩ := h.one.take ha emp_ok
  exact ⟨F, h1, fun R W' hp => (h2 R W' hp).imp fun _ _ h => star_emp h⟩
/-- Something new. -/
theorem Run.fresh (h : Run F0 w0 O W) (ho : O.Ok) (hp : Post W (fun _ => False) R W') : Run F0 w0 (star R O) W' := by
  have h1 : Run F0 w0 (star emp O) W := h.one.imp fun _ _ h => star_comm h
  obtain ⟨F, e1, -, e2⟩ := h1.take emp_ok ho
  refine e2 R W' ?_
  obtain ⟨F', g1, g2, g3⟩ := hp
  exact ⟨F', g1, g2.mono (fun _ _ h => h.elim), fun i hi => (g3 i hi).elim (fun h => h.elim) .inr⟩
theorem Run.swap (h : Run F0 w0 (star A B) W) : Run F0 w0 (star B A) W := h.imp fun _ _ => star_comm
theorem Run.rot (h : Run F0 w0 (star A (star B C)) W) : Run F0 w0 (star B (star A C)) W := h.imp fun _ _ => star_rot
theorem Run.last (h : Run F0 w0 (star A (star B C)) W) : Run F0 w0 (star C (star A B)) W :=
  (h.imp fun _ _ h => star_mono h (fun _ h => h) (fun _ h => star_comm h)).rot
theorem Run.rot3 (h : Run F0 w0 (star A (star B (star C D))) W) : Run F0 w0 (star C (star A (star B D))) W :=
  (h.imp fun _ _ h => star_mono h (fun _ h => h) (fun _ h => star_rot h)).rot
theorem Run.last3 (h : Run F0 w0 (star A (star B (star C D))) W) : Run F0 w0 (star D (star A (star B C))) W :=
  (h.imp fun _ _ h => star_mono h (fun _ h => h) (fun _ h => star_rot (star_mono h (fun _ h => h) (fun _ h => star_comm h)))).rot
theorem Run.in2 (h : Run F0 w0 (star A (star B C)) W) : Run F0 w0 (star A (star C B)) W := h.imp fun _ _ h => star_mono h (fun _ h => h) (fun _ h => star_comm h)
theorem Run.drop (h : Run F0 w0 (star A B) W) : Run F0 w0 B W := by
  obtain ⟨F, ⟨F1, F2, h1, h2, h3, h4⟩, h5⟩ := h.own
  exact ⟨⟨F2, h2, fun i hi => h5 i ((h4 i).2 (.inr hi))⟩, h.mod⟩
theorem Run.fst (h : Run F0 w0 (star A B) W) : ∃ F, A W F := by
  obtain ⟨F, ⟨F1, F2, h1, h2, h3, h4⟩, h5⟩ := h.own
  exact ⟨F1, h1⟩
theorem Run.get (h : Run F0 w0 A W) : ∃ F, A W F := by
  obtain ⟨F, h1, _⟩ := h.own
  exact ⟨F, h1⟩
theorem Run.cell (h : Run F0 w0 O W) {p : Addr} {u : Value} (hc : w0.cell? p = some u) (hp : ¬ F0 p.block) : W.cell? p = some u := by rw [h.mod.cell (World.block_lt_of_cell? _ _ hc) hp]; exact hc
theorem Run.src (h : Run F0 w0 O W) {A : Option Addr} {n size : Nat} {xs : List Value} (hs : Src w0 A n size xs) (hn : ∀ ad : Addr, A = some ad → ¬ F0 ad.block) : Src W A n size xs := by
  refine ⟨hs.1, hs.2.1, fun h0 => ?_⟩
  obtain ⟨ad, e, hc⟩ := hs.2.2 h0
  exact ⟨ad, e, fun j u hu => h.cell (hc j u hu) (by rw [Addr.add_block]; exact hn ad e)⟩
theorem Run.src0 (h : Run (fun _ => False) w0 O W) {A : Option Addr} {n size : Nat} {xs : List Value} (hs : Src w0 A n size xs) : Src W A n size xs := h.src hs (fun _ _ h => h)
theorem star_assoc {w : World} {F : Nat → Prop} (h : star (star A B) C w F) : star A (star B C) w F := by
  obtain ⟨F1, F2, ⟨F3, F4, h1, h2, h3, h4⟩, h5, h6, h7⟩ := h
  refine ⟨F3, fun i => F4 i ∨ F2 i, h1, ⟨F4, F2, h2, h5, fun i h g => h6 i ((h4 i).2 (.inr h)) g, fun i => Iff.rfl⟩, fun i hi hg => ?_, fun i => ?_⟩
  · rcases hg with hg | hg
    · exact h3 i hi hg
    · exact h6 i ((h4 i).2 (.inl hi)) hg
  · rw [h7, h4, or_assoc]
theorem Run.assoc (h : Run F0 w0 (star (star A B) C) W) : Run F0 w0 (star A (star B C)) W := h.imp fun _ _ => star_assoc
end
/-- A new row of no elements. -/
theorem row_made (w : World) (e : TypeId) (size : Nat) : Post w (fun _ => False) (RowO e size (.slice (some ⟨w.heap.size, 0, none⟩) 0 0) 0 []) (w.alloc (.cells #[] e)) :=
  row_new (World.ownsRow_made w #[] 0 (Nat.le_refl _) (by simp [maxLen]) (by simp)) ((Below.refl _ _).alloc (Nat.le_refl _) _)
theorem Src.take {w : World} {A : Option Addr} {n size k : Nat} {xs : List Value} (h : Src w A n size xs) (hk : k ≤ n) : Src w A k size (xs.take (k * size)) := by
  refine ⟨?_, fun u hu => h.2.1 u (List.mem_of_mem_take hu), fun hn => ?_⟩
  · rw [List.length_take, h.1]; exact Nat.min_eq_left (Nat.mul_le_mul_right _ hk)
  · obtain ⟨ad, e, hc⟩ := h.2.2 (by omega)
    exact ⟨ad, e, fun j u hu => hc j u (by rw [List.getElem?_take] at hu; split at hu; exact hu; cases hu)⟩
theorem run_slice_to {P : Program} {t e : TypeId} {z : Value} {size bytes : Nat} (S : SliceOk P t e z size bytes) (A : Option Addr) (n c k : Nat) (kd : IntKind) (l : Int) (hl : l = k) (h : k ≤ c) (w : World) :
    (Instr.slice t (.slice A n c) none (some (.int kd l)) none).run P w = .ok (.slice A k c) w := by
  obtain ⟨ht, hi, hz, hsz⟩ := S
  obtain ⟨i, hi, hi1, hi2, hi3⟩ := info_parts hi
  subst hl
  have h0 : (0 : Int) ≤ k ∧ (k : Int) ≤ c := by omega
  cases A <;> simp [Instr.slice, run_underlying ht, Instr.sliceBounds, Instr.sliceBound, asIntOf, h, sizeOf, typeInfo, hi, hi2, Addr.add]
theorem row_cap {w : World} {base : Nat} {e : TypeId} {size n c : Nat} {A : Option Addr} {xs : List Value} (h : w.ownsRow base e size (.slice A n c) n xs) : n ≤ c ∧ (A = none → c = 0) := by
  rcases h.2 with ⟨h1, h2⟩ | ⟨g, cap, cur, h1, _, _, h3, _⟩
  · injection h1 with e1 e2 e3; omega
  · injection h1 with e1 e2 e3; subst e3; exact ⟨h3, fun e => by rw [e] at e1; cases e1⟩
theorem set_row_ {w : World} {b i : Nat} {cur : Array Value} {t : TypeId} (v : Value) (h : w.heap[b]? = some (.cells cur t)) : (w.setCell ⟨b, i, none⟩ v).heap[b]? = some (.cells (cur.setIfInBounds i v) t) := by
  rw [setCell_eq_setRow w b i cur t (0, 0) v h]
  exact setRow_heap w b cur _ t (0, 0) h
theorem cell_set {w : World} {F : Nat → Prop} {g : Nat} {cs : Array Value} {t : TypeId} (h : CellO g cs t w F) (i : Nat) (v : Value) : Post w F (CellO g (cs.setIfInBounds i v) t) (w.setCell ⟨g, i, none⟩ v) :=
  ⟨F, ⟨set_row_ v h.1, h.2⟩, (Mod.refl _ _).setCell v (fun _ => (h.2 g).2 rfl), fun i hi => .inl hi⟩
theorem cell_at {w : World} {F : Nat → Prop} {g : Nat} {cs : Array Value} {t : TypeId} (h : CellO g cs t w F) {i : Nat} {v : Value} (hv : cs[i]? = some v) : w.cell? ⟨g, i, none⟩ = some v := by
  simp [World.cell?, h.1, hv]
theorem cell_free {w : World} {F : Nat → Prop} {g : Nat} {cs : Array Value} {t : TypeId} (h : CellO g cs t w F) (i : Nat) : w.frozen? ⟨g, i, none⟩ = false := by
  simp [World.frozen?, h.1]
end Go.CH
