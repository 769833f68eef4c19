/-
  Ownership: what a call's own memory holds and which blocks it takes; what a call may change, and that all else stays.
-/
import Derived.Test.YtapabbpdfplpoaaLib
set_option linter.unusedSimpArgs false
set_option linter.unusedVariables false
namespace Go.CH
open Go.RowKit
open Go.ChangeMaps (setBlock)

/-- A goal that a walk leaves alone. -/
def Held (p : Prop) : Prop := p
theorem held {p : Prop} (h : Held p) : p := h
theorem Held.mk {p : Prop} (h : p) : Held p := h

theorem Src.open_ {w : World} {A : Option Addr} {n size : Nat} {xs : List Value} (h : Src w A n size xs) (hn : 0 < n) (hs : 0 < size) :
    ∃ b o, A = some ⟨b, o, none⟩ ∧ ∀ j u, xs[j]? = some u → w.cell? ⟨b, o + j, none⟩ = some u := by
  obtain ⟨ad, rfl, hc⟩ := h.2.2 hn
  have hl : 0 < xs.length := by rw [h.1]; exact Nat.mul_pos hn hs
  have h0 := hc 0 xs[0] (List.getElem?_eq_getElem hl)
  obtain ⟨b, o, sp⟩ := ad
  have hsp : sp = none := by
    cases sp with
    | none => rfl
    | some x =>
      exfalso
      simp only [Addr.add, if_true, World.cell?] at h0
      split at h0 <;> simp at h0
  subst hsp
  refine ⟨b, o, rfl, fun j u hu => ?_⟩
  have := hc j u hu
  by_cases hj : j = 0
  · subst hj; simpa [Addr.add] using this
  · simpa [Addr.add, hj] using this

/-- What a world holds in the blocks F. -/
def Own := World → (Nat → Prop) → Prop
structure Own.Ok (O : Own) : Prop where
  lt : ∀ {w F}, O w F → ∀ i, F i → i < w.heap.size
  keep : ∀ {w w' F}, O w F → (∀ i, F i → w'.heap[i]? = w.heap[i]?) → O w' F
/-- What a call leaves of the blocks F: R, in them or in new ones; no other block has turned. -/
def Post (w : World) (F : Nat → Prop) (R : Own) (w' : World) : Prop := ∃ F', R w' F' ∧ Mod F w w' ∧ ∀ i, F' i → F i ∨ (w.heap.size ≤ i ∧ i < w'.heap.size)
def star (A B : Own) : Own := fun w F => ∃ F1 F2, A w F1 ∧ B w F2 ∧ (∀ i, F1 i → ¬ F2 i) ∧ ∀ i, F i ↔ F1 i ∨ F2 i
def emp : Own := fun _ F => ∀ i, ¬ F i
/-- The state of a call that began in w0 with N blocks: O in blocks of its own; nothing below N has turned. -/
structure Sta (N : Nat) (w0 : World) (O : Own) (W : World) : Prop where
  own : ∃ F, O W F ∧ ∀ i, F i → N ≤ i
  bel : Below N w0 W
  big : N ≤ w0.heap.size

theorem emp_ok : emp.Ok := ⟨fun h i hi => (h i hi).elim, fun h _ => h⟩
theorem star_ok {A B : Own} (ha : A.Ok) (hb : B.Ok) : (star A B).Ok :=
  ⟨fun ⟨F1, F2, h1, h2, _, h4⟩ i hi => ((h4 i).1 hi).elim (ha.lt h1 i) (hb.lt h2 i),
   fun ⟨F1, F2, h1, h2, h3, h4⟩ hk => ⟨F1, F2, ha.keep h1 (fun i hi => hk i ((h4 i).2 (.inl hi))), hb.keep h2 (fun i hi => hk i ((h4 i).2 (.inr hi))), h3, h4⟩⟩

section
variable {N : Nat} {w0 W W' : World} {A B C D O R : Own}
theorem Sta.start (w : World) : Sta w.heap.size w emp w := ⟨⟨fun _ => False, fun _ h => h, fun _ h => h.elim⟩, Below.refl _ _, Nat.le_refl _⟩
theorem Sta.size (h : Sta N w0 O W) : N ≤ W.heap.size := Nat.le_trans h.big h.bel.size
theorem below_down {N : Nat} {W W' : World} (hb : Below W.heap.size W W') (hN : N ≤ W.heap.size) : Below N W W' := hb.mono hN
theorem Sta.below (h : Sta N w0 O W) (ho : O.Ok) (hb : Below W.heap.size W W') : Sta N w0 O W' := by
  obtain ⟨F, h1, h2⟩ := h.own
  exact ⟨⟨F, ho.keep h1 (fun i hi => hb.block i (ho.lt h1 i hi)), h2⟩, h.bel.trans (hb.mono h.size), h.big⟩
/-- Take A out for a call: what it leaves comes back. -/
theorem Sta.take (h : Sta N w0 (star A B) W) (hb : B.Ok) : ∃ F, A W F ∧ (∀ i, F i → N ≤ i) ∧ ∀ (R : Own) (W' : World), Post W F R W' → Sta N w0 (star R B) W' := by
  have hs := h.size
  obtain ⟨F, ⟨F1, F2, h1, h2, h3, h4⟩, h5⟩ := h.own
  refine ⟨F1, h1, fun i hi => h5 i ((h4 i).2 (.inl hi)), fun R W' hp => ?_⟩
  obtain ⟨F', g1, g2, g3⟩ := hp
  refine ⟨⟨fun i => F' i ∨ F2 i, ⟨F', F2, g1, hb.keep h2 (fun i hi => g2.block i (hb.lt h2 i hi) (fun hf => h3 i hf hi)), fun i hi hi2 => ?_, fun i => Iff.rfl⟩, fun i hi => ?_⟩, ?_, h.big⟩
  · rcases g3 i hi with g | g
    · exact h3 i g hi2
    · have := hb.lt h2 i hi2; omega
  · rcases hi with hi | hi
    · rcases g3 i hi with g | g
      · exact h5 i ((h4 i).2 (.inl g))
      · omega
    · exact h5 i ((h4 i).2 (.inr hi))
  · exact h.bel.trans ⟨g2.os, g2.tape, g2.output, g2.size, fun k hk => g2.block k (by omega) (fun e => by have := h5 k ((h4 k).2 (.inl e)); omega)⟩
/-- Something new. -/
theorem Sta.fresh (h : Sta N w0 O W) (ho : O.Ok) (hp : Post W (fun _ => False) R W') : Sta N w0 (star R O) W' := by
  have hs := h.size
  obtain ⟨F, h1, h2⟩ := h.own
  have h3 : Sta N w0 (star emp O) W := ⟨⟨F, ⟨fun _ => False, F, fun _ h => h, h1, fun _ h => h.elim, fun i => by simp⟩, h2⟩, h.bel, h.big⟩
  obtain ⟨F0, e1, e2, e3⟩ := h3.take ho
  refine e3 R W' ?_
  obtain ⟨F', g1, g2, g3⟩ := hp
  exact ⟨F', g1, g2.mono (fun _ _ h => h.elim), fun i hi => (g3 i hi).elim (fun h => h.elim) .inr⟩
theorem Sta.imp (h : Sta N w0 A W) (hi : ∀ w F, A w F → B w F) : Sta N w0 B W := by
  obtain ⟨F, h1, h2⟩ := h.own
  exact ⟨⟨F, hi _ _ h1, h2⟩, h.bel, h.big⟩
theorem star_comm {w : World} {F : Nat → Prop} (h : star A B w F) : star B A w F := by
  obtain ⟨F1, F2, h1, h2, h3, h4⟩ := h
  exact ⟨F2, F1, h2, h1, fun i h g => h3 i g h, fun i => (h4 i).trans Or.comm⟩
theorem star_rot {w : World} {F : Nat → Prop} (h : star A (star B C) w F) : star B (star A C) w F := by
  obtain ⟨F1, F2, h1, ⟨F3, F4, h2, h3, h5, h6⟩, h7, h8⟩ := h
  refine ⟨F3, fun i => F1 i ∨ F4 i, h2, ⟨F1, F4, h1, h3, fun i hi h4 => h7 i hi ((h6 i).2 (.inr h4)), fun i => Iff.rfl⟩, fun i hi h => ?_, fun i => ?_⟩
  · rcases h with h | h
    · exact h7 i h ((h6 i).2 (.inl hi))
    · exact h5 i hi h
  · rw [h8, h6]; constructor <;> rintro (h | h | h) <;> simp [h]
theorem star_mono {A' B' : Own} {w : World} {F : Nat → Prop} (h : star A B w F) (ha : ∀ F, A w F → A' w F) (hb : ∀ F, B w F → B' w F) : star A' B' w F := by
  obtain ⟨F1, F2, h1, h2, h3, h4⟩ := h
  exact ⟨F1, F2, ha _ h1, hb _ h2, h3, h4⟩
theorem star_emp {w : World} {F : Nat → Prop} (h : star A emp w F) : A w F := by
  obtain ⟨F1, F2, h1, h2, h3, h4⟩ := h
  have : F1 = F := by funext i; exact propext ⟨fun h => (h4 i).2 (.inl h), fun h => ((h4 i).1 h).elim id (fun h => (h2 i h).elim)⟩
  exact this ▸ h1
theorem Sta.swap (h : Sta N w0 (star A B) W) : Sta N w0 (star B A) W := h.imp fun _ _ => star_comm
theorem Sta.rot (h : Sta N w0 (star A (star B C)) W) : Sta N w0 (star B (star A C)) W := h.imp fun _ _ => star_rot
theorem Sta.rot3 (h : Sta N w0 (star A (star B (star C D))) W) : Sta N w0 (star C (star A (star B D))) W :=
  (h.imp fun _ _ h => star_mono h (fun _ h => h) (fun _ h => star_rot h)).rot
theorem Sta.drop (h : Sta N w0 (star A B) W) : Sta N w0 B W := by
  obtain ⟨F, ⟨F1, F2, h1, h2, h3, h4⟩, h5⟩ := h.own
  exact ⟨⟨F2, h2, fun i hi => h5 i ((h4 i).2 (.inr hi))⟩, h.bel, h.big⟩
theorem Sta.fst (h : Sta N w0 (star A B) W) : ∃ F, A W F ∧ ∀ i, F i → N ≤ i := by
  obtain ⟨F, ⟨F1, F2, h1, h2, h3, h4⟩, h5⟩ := h.own
  exact ⟨F1, h1, fun i hi => h5 i ((h4 i).2 (.inl hi))⟩
theorem Sta.one (h : Sta N w0 A W) : Sta N w0 (star A emp) W := by
  obtain ⟨F, h1, h2⟩ := h.own
  exact ⟨⟨F, ⟨F, fun _ => False, h1, fun _ h => h, fun _ _ h => h, fun i => by simp⟩, h2⟩, h.bel, h.big⟩
theorem Sta.cell (h : Sta N w0 O W) {p : Addr} {u : Value} (hc : w0.cell? p = some u) (hp : p.block < N) : W.cell? p = some u := by rw [h.bel.cell hp]; exact hc
theorem Sta.src (h : Sta N w0 O W) {A : Option Addr} {n size : Nat} {xs : List Value} (hs : Src w0 A n size xs) (hN : N = w0.heap.size) : Src W A n size xs := by
  subst hN
  refine ⟨hs.1, hs.2.1, fun hn => ?_⟩
  obtain ⟨ad, e, hc⟩ := hs.2.2 hn
  exact ⟨ad, e, fun j u hu => h.cell (hc j u hu) (World.block_lt_of_cell? _ _ (hc j u hu))⟩
end

theorem Sta.last {N : Nat} {w0 W : World} {A B C : Own} (h : Sta N w0 (star A (star B C)) W) : Sta N w0 (star C (star A B)) W :=
  (h.imp fun _ _ h => star_mono h (fun _ h => h) (fun _ h => star_comm h)).rot
/-- The block g holds the cells cs. -/
def CellO (g : Nat) (cs : Array Value) (t : TypeId) : Own := fun w F => w.heap[g]? = some (.cells cs t (0, 0)) ∧ ∀ i, F i ↔ i = g
theorem cell_ok {g : Nat} {cs : Array Value} {t : TypeId} : (CellO g cs t).Ok :=
  ⟨fun h i hi => by rw [(h.2 i).1 hi]; exact lt_of_block h.1, fun h hk => ⟨(hk g ((h.2 g).2 rfl)).trans h.1, h.2⟩⟩
theorem cell_new (w : World) (cs : Array Value) (t : TypeId) : Post w (fun _ => False) (CellO w.heap.size cs t) (w.alloc (.cells cs t)) :=
  ⟨fun i => i = w.heap.size, ⟨heap_new rfl, fun i => Iff.rfl⟩, Mod.of_below ((Below.refl _ _).alloc (Nat.le_refl _) _), fun i hi => .inr (by subst hi; simp)⟩

/-! ### Rows -/
/-- The slice v of n elements owns its row of cells xs. -/
def RowO (e : TypeId) (size : Nat) (v : Value) (n : Nat) (xs : List Value) : Own := fun w F => w.ownsRow 0 e size v n xs ∧ ∀ i, F i ↔ v.ownBlock = some i
theorem row_ok {e : TypeId} {size : Nat} {v : Value} {n : Nat} {xs : List Value} : (RowO e size v n xs).Ok :=
  ⟨fun h i hi => ownsRow_lt h.1 ((h.2 i).1 hi), fun h hk => ⟨ownsRow_of_block h.1 (fun g hg => hk g ((h.2 g).2 hg)), h.2⟩⟩
theorem row_nil (w : World) (e : TypeId) (size : Nat) : RowO e size (.slice none 0 0) 0 [] w (fun _ => False) := ⟨World.ownsRow_nil _ _ _ _, fun i => by simp [Value.ownBlock]⟩
theorem row_base {w : World} {b b' : Nat} {e : TypeId} {size : Nat} {v : Value} {n : Nat} {xs : List Value} (h : w.ownsRow b e size v n xs) (hb : b' ≤ b) : w.ownsRow b' e size v n xs :=
  ⟨h.1, h.2.imp id (fun ⟨g, cap, cur, h1, h2, h3⟩ => ⟨g, cap, cur, h1, Nat.le_trans hb h2, h3⟩)⟩
/-- What an append leaves. -/
theorem row_app {W W' : World} {F : Nat → Prop} {e : TypeId} {size : Nat} {v v' : Value} {n n' : Nat} {xs xs' : List Value} (h : RowO e size v n xs W F) (h1 : W'.ownsRow 0 e size v' n' xs') (hg : W.grownBy W' v.ownBlock) (hv : v'.ownBlock = v.ownBlock ∨ v'.ownBlock = some W.heap.size) :
    Post W F (RowO e size v' n' xs') W' := by
  refine ⟨fun i => v'.ownBlock = some i, ⟨h1, fun i => Iff.rfl⟩, Mod.of_grown hg (fun k hk _ => (h.2 k).2 hk), fun i hi => ?_⟩
  rcases hv with hv | hv
  · exact .inl ((h.2 i).2 (hv ▸ hi))
  · rw [hv] at hi; injection hi with hi; subst hi
    exact .inr ⟨Nat.le_refl _, ownsRow_lt h1 hv⟩
/-- .. with something laid into a new block first. -/
theorem row_app1 {W W' : World} {F : Nat → Prop} {o : Obj} {e : TypeId} {size : Nat} {v v' : Value} {n n' : Nat} {xs xs' : List Value} (h : RowO e size v n xs W F) (h1 : W'.ownsRow 0 e size v' n' xs') (hg : (W.alloc o).grownBy W' v.ownBlock) (hv : v'.ownBlock = v.ownBlock ∨ v'.ownBlock = some (W.alloc o).heap.size) :
    Post W F (RowO e size v' n' xs') W' := by
  have hr : RowO e size v n xs (W.alloc o) F := row_ok.keep h (fun i hi => heap_old (row_ok.lt h i hi))
  obtain ⟨F', g1, g2, g3⟩ := row_app hr h1 hg hv
  refine ⟨F', g1, (Mod.of_below (F := F) ((Below.refl _ _).alloc (Nat.le_refl _) o)).trans g2 (fun _ _ h => h) (fun _ _ h => h), fun i hi => (g3 i hi).imp id (fun h => ⟨by have := h.1; simp at this; omega, h.2⟩)⟩
/-- A row that a call has made. -/
theorem row_new {W W' : World} {e : TypeId} {size : Nat} {v : Value} {n : Nat} {xs : List Value} (h : W'.ownsRow W.heap.size e size v n xs) (hb : Below W.heap.size W W') : Post W (fun _ => False) (RowO e size v n xs) W' :=
  ⟨fun i => v.ownBlock = some i, ⟨row_base h (Nat.zero_le _), fun i => Iff.rfl⟩, Mod.of_below hb, fun i hi => .inr (h.lt i hi)⟩
theorem row_src {W : World} {F : Nat → Prop} {e : TypeId} {size n c : Nat} {A : Option Addr} {xs : List Value} (h : RowO e size (.slice A n c) n xs W F) (h1 : ∀ u ∈ xs, u.oneCell' = true) : Src W A n size xs := Src.of_own h.1 h1
theorem own_form {W : World} {b : Nat} {e : TypeId} {size n : Nat} {v : Value} {xs : List Value} (h : W.ownsRow b e size v n xs) : ∃ A c, v = .slice A n c := by
  rcases h.2 with ⟨rfl, rfl⟩ | ⟨g, cap, cur, rfl, _⟩
  · exact ⟨none, 0, rfl⟩
  · exact ⟨_, _, rfl⟩
end Go.CH
