/-
  Generic lemmas over any program: frames, maps whose keys are comparable Go values.
  Ownership: what a call's own memory holds and which blocks it takes; what a call may change, and that all else stays.
-/
import Derived.WalkKit
import Derived.WalkSpells
import Derived.WalkLawsBesides
import Derived.Deep.Draws
import Derived.Deep.AppendLies
set_option linter.unusedSimpArgs false
set_option linter.unusedVariables false
namespace Go.CH
open Go.RowKit
open Go.ChangeMaps (setBlock)

theorem hide {p : Prop} (h : p) : Hid p := h

/-- Only the blocks of F, and new ones, may have changed. -/
structure Mod (F : Nat → Prop) (w w' : World) : Prop where
  os : w'.os = w.os
  tape : w'.tape = w.tape
  output : w'.output = w.output
  size : w.heap.size ≤ w'.heap.size
  block : ∀ k, k < w.heap.size → ¬ F k → w'.heap[k]? = w.heap[k]?

theorem Mod.refl (F : Nat → Prop) (w : World) : Mod F w w := ⟨rfl, rfl, rfl, Nat.le_refl _, fun _ _ _ => rfl⟩
theorem Mod.trans {F F' G : Nat → Prop} {a b c : World} (h : Mod F a b) (k : Mod F' b c) (hF : ∀ i, i < a.heap.size → F i → G i) (hF' : ∀ i, i < a.heap.size → F' i → G i) : Mod G a c :=
  ⟨k.os.trans h.os, k.tape.trans h.tape, k.output.trans h.output, Nat.le_trans h.size k.size,
   fun i hi hn => (k.block i (Nat.lt_of_lt_of_le hi h.size) (fun e => hn (hF' i hi e))).trans (h.block i hi (fun e => hn (hF i hi e)))⟩
theorem Mod.mono {F G : Nat → Prop} {a b : World} (h : Mod F a b) (hF : ∀ i, i < a.heap.size → F i → G i) : Mod G a b :=
  ⟨h.os, h.tape, h.output, h.size, fun i hi hn => h.block i hi (fun e => hn (hF i hi e))⟩
theorem Mod.below {F : Nat → Prop} {a b : World} (h : Mod F a b) (hF : ∀ i, i < a.heap.size → ¬ F i) : Below a.heap.size a b :=
  ⟨h.os, h.tape, h.output, h.size, fun i hi => h.block i hi (hF i hi)⟩
theorem Mod.of_below {F : Nat → Prop} {a b : World} (h : Below a.heap.size a b) : Mod F a b :=
  ⟨h.os, h.tape, h.output, h.size, fun i hi _ => h.block i hi⟩
theorem Mod.of_grown {F : Nat → Prop} {a b : World} {row : Option Nat} (h : a.grownBy b row) (hr : ∀ k, row = some k → k < a.heap.size → F k) : Mod F a b :=
  ⟨h.os, h.tape, h.output, h.size, fun i hi hn => h.block i hi (fun e => hn (hr i e.symm hi))⟩
theorem Mod.drew {F : Nat → Prop} {a b : World} (h : Mod F a b) : Mod F a b.drew := ⟨h.os, h.tape, h.output, h.size, h.block⟩
theorem Mod.drewN {F : Nat → Prop} {a b : World} (h : Mod F a b) (n : Nat) : Mod F a (b.drewN n) := ⟨h.os, h.tape, h.output, h.size, h.block⟩
theorem Mod.alloc {F : Nat → Prop} {a b : World} (h : Mod F a b) (o : Obj) : Mod F a (b.alloc o) :=
  ⟨h.os, h.tape, h.output, Nat.le_trans h.size (by simp), fun i hi hn => (Below.heap_alloc b o i (Nat.lt_of_lt_of_le hi h.size)).trans (h.block i hi hn)⟩
theorem Mod.setCell {F : Nat → Prop} {a b : World} (h : Mod F a b) {p : Addr} (u : Value) (hp : p.block < a.heap.size → F p.block) : Mod F a (b.setCell p u) :=
  ⟨h.os, h.tape, h.output, by simpa using h.size, fun i hi hn => (Below.heap_setCell b p u i (by rintro rfl; exact hn (hp hi))).trans (h.block i hi hn)⟩
theorem Mod.setBlock {F : Nat → Prop} {a b : World} (h : Mod F a b) {k : Nat} (o : Obj) (hp : k < a.heap.size → F k) : Mod F a (setBlock b k o) :=
  ⟨h.os, h.tape, h.output, by simpa [Go.ChangeMaps.setBlock] using h.size, fun i hi hn => by
    have : k ≠ i := by rintro rfl; exact hn (hp hi)
    simp only [Go.ChangeMaps.setBlock]
    rw [Array.getElem?_setIfInBounds_ne this]
    exact h.block i hi hn⟩
theorem Mod.cell {F : Nat → Prop} {w w' : World} (h : Mod F w w') {p : Addr} (hp : p.block < w.heap.size) (hn : ¬ F p.block) : w'.cell? p = w.cell? p :=
  World.cell?_of_block (w := w) (h.block p.block hp hn)
theorem Mod.frozen {F : Nat → Prop} {w w' : World} (h : Mod F w w') {p : Addr} (hp : p.block < w.heap.size) (hn : ¬ F p.block) : w'.frozen? p = w.frozen? p :=
  World.frozen?_of_block (w := w) (h.block p.block hp hn)

theorem heap_setBlock_self {w : World} {b : Nat} {o o' : Obj} (h : w.heap[b]? = some o) : (setBlock w b o').heap[b]? = some o' := (Go.MapKept.heap_set h).1
theorem heap_setBlock_ne {w : World} {b k : Nat} {o' : Obj} (h : b ≠ k) : (setBlock w b o').heap[k]? = w.heap[k]? := by
  simp only [Go.ChangeMaps.setBlock]; exact Array.getElem?_setIfInBounds_ne h

theorem heap_new {w : World} {o : Obj} {n : Nat} (h : n = w.heap.size) : (w.alloc o).heap[n]? = some o := by subst h; exact heap_alloc_new w o
theorem heap_old {w : World} {o : Obj} {n : Nat} (h : n < w.heap.size) : (w.alloc o).heap[n]? = w.heap[n]? := Below.heap_alloc w o n h

theorem below_drew {B : Nat} {a w : World} (h : Below B a w) : Below B a w.drew := h.drew
theorem below_drewN {B : Nat} {a w : World} (h : Below B a w) (n : Nat) : Below B a (w.drewN n) := ⟨h.os, h.tape, h.output, h.size, h.block⟩
@[go_sem] theorem heap_drew (w : World) : w.drew.heap = w.heap := rfl
@[go_sem] theorem heap_drewN (w : World) (n : Nat) : (w.drewN n).heap = w.heap := rfl
@[go_sem] theorem heap_alloc_lt {w : World} {o : Obj} {n : Nat} (h : n < w.heap.size) : (w.alloc o).heap[n]? = w.heap[n]? := Below.heap_alloc w o n h
@[go_sem] theorem heap_setCell_ne {w : World} {a : Addr} {v : Value} {n : Nat} (h : n ≠ a.block) : (w.setCell a v).heap[n]? = w.heap[n]? := Below.heap_setCell w a v n h
@[go_sem] theorem cell_setBlock {w : World} {b : Nat} {o : Obj} {a : Addr} (h : b ≠ a.block) : (setBlock w b o).cell? a = w.cell? a := World.cell?_of_block (heap_setBlock_ne h)
@[go_sem] theorem frozen_setBlock {w : World} {b : Nat} {o : Obj} {a : Addr} (h : b ≠ a.block) : (setBlock w b o).frozen? a = w.frozen? a := World.frozen?_of_block (heap_setBlock_ne h)
@[go_sem] theorem size_setBlock {w : World} {b : Nat} {o : Obj} : (setBlock w b o).heap.size = w.heap.size := by simp [Go.ChangeMaps.setBlock]

/-! ### Maps -/
section maps0
variable {α : Type}
/-- The entries es of a map are the list l, in the order in which they were laid. -/
def Ents (kv : α → Value) (es : Array MapEntry) (clock : Nat) (l : List (α × Value)) : Prop :=
  es.toList.map (fun e => (e.key, e.val)) = l.map (fun p => (kv p.1, p.2)) ∧ (l.map (·.1)).Nodup ∧ (es.toList.map (·.born)).Nodup ∧ ∀ e ∈ es.toList, e.born < clock
/-- Block b is a map that holds the entries l, in the order in which they were laid. -/
def MapIs (kv : α → Value) (w : World) (b : Nat) (l : List (α × Value)) : Prop :=
  ∃ es clock, w.heap[b]? = some (.map es clock) ∧ Ents kv es clock l

variable {kv : α → Value} {w w' : World} {b : Nat} {l : List (α × Value)}
theorem MapIs.of_block (h : MapIs kv w b l) (hb : w'.heap[b]? = w.heap[b]?) : MapIs kv w' b l := by
  obtain ⟨es, clock, h1, h2⟩ := h; exact ⟨es, clock, hb.trans h1, h2⟩
theorem MapIs.lt (h : MapIs kv w b l) : b < w.heap.size := by obtain ⟨es, clock, h1, _⟩ := h; exact lt_of_block h1
theorem Ents.nil : Ents kv #[] 0 [] := ⟨rfl, List.nodup_nil, List.nodup_nil, by simp⟩
theorem MapIs.new (w : World) : MapIs kv (w.alloc (.map #[] 0)) w.heap.size [] := ⟨#[], 0, heap_alloc_new w _, Ents.nil⟩
theorem MapIs.mod {F : Nat → Prop} (h : MapIs kv w b l) (m : Mod F w w') (hb : ¬ F b) : MapIs kv w' b l := h.of_block (m.block b h.lt hb)


theorem key_at {es : List MapEntry} {l : List (α × Value)} (h : es.map (fun e => (e.key, e.val)) = l.map (fun p => (kv p.1, p.2))) {n : Nat} {k : α} {u : Value} (hn : l[n]? = some (k, u)) : ∃ e, es[n]? = some e ∧ e.key = kv k ∧ e.val = u := by
  have h1 : (es.map (fun e => (e.key, e.val)))[n]? = some (kv k, u) := by rw [h]; simp [hn]
  rw [List.getElem?_map] at h1
  cases he : es[n]? with
  | none => simp [he] at h1
  | some e => simp [he] at h1; exact ⟨e, rfl, h1.1, h1.2⟩
theorem run_len_map {P : Program} {t K E ty : TypeId} (ht : P.underlying t = some (.map K E)) (h : MapIs kv w b l) : (Builtin.len_ #[t] ty #[.map (some b)]).run P w = .ok (.int .i64 l.length) w := by
  obtain ⟨es, clock, h1, h2, _⟩ := h
  have hlen : es.size = l.length := by simpa using congrArg List.length h2
  simp [Builtin.len_, run_underlying ht, MapKept.run_getObj_map h1, goInt, hlen]

end maps0
section maps
variable {α : Type} [DecidableEq α] {P : Program}

/-- The keys kv a of the key type K behave as the values a do. -/
structure KeyOk (P : Program) (K : TypeId) (kv : α → Value) : Prop where
  eq : ∀ a b w, (Op.equal K (kv a) (kv b)).run P w = .ok (decide (a = b)) w
  check : ∀ e a w, (Instr.checkKey e 10000 K (kv a)).run P w = .ok () w
  same : ∀ a, Instr.sameBits 10000 (kv a) (kv a) = true
  now : ∃ kd, P.underlying K = some kd ∧ ∀ a b, Instr.sameNow kd (kv a) (kv b) = none ∨ Instr.sameNow kd (kv a) (kv b) = some (decide (a = b))

/-- The place and the value of the entry with key k. -/
def fnd (k : α) : List (α × Value) → Nat → Option (Nat × Value)
  | [], _ => none
  | (a, v) :: l, i => if k = a then some (i, v) else fnd k l (i + 1)

theorem run_findAsking {K : TypeId} {kv : α → Value} (H : KeyOk P K kv) (k : α) (w : World) : ∀ (es : List MapEntry) (l : List (α × Value)) (i : Nat),
    es.map (fun e => (e.key, e.val)) = l.map (fun p => (kv p.1, p.2)) → (Instr.findAsking K (kv k) es i).run P w = .ok (fnd k l i) w
  | [], [], i, _ => by simp [Instr.findAsking, fnd]
  | [], _ :: _, _, h => by simp at h
  | _ :: _, [], _, h => by simp at h
  | e :: es, (a, v) :: l, i, h => by
    simp only [List.map_cons, List.cons.injEq, Prod.mk.injEq] at h
    obtain ⟨⟨hk, hv⟩, hr⟩ := h
    have ih := run_findAsking H k w es l (i + 1) hr
    simp only [Instr.findAsking, Sem.run_bind, hk, H.eq, Result.andThen_ok, fnd]
    by_cases hka : k = a
    · subst hka; simp [hv]
    · simp [hka, ih]

theorem findNow_eq {kv : α → Value} {kd : TypeDesc} (hn : ∀ a b, Instr.sameNow kd (kv a) (kv b) = none ∨ Instr.sameNow kd (kv a) (kv b) = some (decide (a = b))) (k : α) : ∀ (es : List MapEntry) (l : List (α × Value)) (i : Nat) (r : Option (Nat × Value)),
    es.map (fun e => (e.key, e.val)) = l.map (fun p => (kv p.1, p.2)) → Instr.findNow kd (kv k) es i = some r → r = fnd k l i
  | [], [], i, r, _, h => by simp [Instr.findNow] at h; simp [fnd, h]
  | [], _ :: _, _, _, h, _ => by simp at h
  | _ :: _, [], _, _, h, _ => by simp at h
  | e :: es, (a, v) :: l, i, r, h, hr => by
    simp only [List.map_cons, List.cons.injEq, Prod.mk.injEq] at h
    obtain ⟨⟨hk, hv⟩, hrest⟩ := h
    simp only [Instr.findNow, hk] at hr
    rcases hn k a with h1 | h1
    · simp [h1] at hr
    · rw [h1] at hr
      by_cases hka : k = a
      · subst hka
        simp at hr
        simp [fnd, ← hr, hv]
      · simp [hka] at hr
        simp only [fnd, if_neg hka]
        exact findNow_eq hn k es l (i + 1) r hrest hr

theorem run_findKey {K : TypeId} {kv : α → Value} (H : KeyOk P K kv) (k : α) (w : World) (es : List MapEntry) (l : List (α × Value)) (h : es.map (fun e => (e.key, e.val)) = l.map (fun p => (kv p.1, p.2))) :
    (Instr.findKey K (kv k) es).run P w = .ok (fnd k l 0) w := by
  obtain ⟨kd, hkd, hn⟩ := H.now
  simp only [Instr.findKey, Sem.run_bind, run_underlying hkd, Result.andThen_ok]
  cases hf : Instr.findNow kd (kv k) es 0 with
  | none => simp only [run_findAsking H k w es l 0 h]
  | some r => simp only [Sem.run_pure]; rw [findNow_eq hn k es l 0 r h hf]

/-- The value with key k. -/
def mget (l : List (α × Value)) (k : α) : Option Value := (fnd k l 0).map (·.2)
/-- The list with the value v at key k. -/
def mput : List (α × Value) → α → Value → List (α × Value)
  | [], k, v => [(k, v)]
  | (a, u) :: l, k, v => if k = a then (a, v) :: l else (a, u) :: mput l k v

theorem fnd_shift (k : α) : ∀ (l : List (α × Value)) (i : Nat), fnd k l i = (fnd k l 0).map (fun p => (p.1 + i, p.2))
  | [], _ => rfl
  | (a, v) :: l, i => by
    by_cases h : k = a
    · simp [fnd, h]
    · simp only [fnd, if_neg h]
      rw [fnd_shift k l (i + 1), fnd_shift k l (0 + 1)]
      cases fnd k l 0 <;> simp; omega

theorem mget_nil (k : α) : mget ([] : List (α × Value)) k = none := rfl
theorem mget_cons (a : α) (v : Value) (l : List (α × Value)) (k : α) : mget ((a, v) :: l) k = if k = a then some v else mget l k := by
  unfold mget
  by_cases h : k = a
  · simp [fnd, h]
  · simp only [fnd, if_neg h]; rw [fnd_shift]; cases fnd k l 0 <;> rfl

theorem mget_mput (k k' : α) (v : Value) : ∀ l : List (α × Value), mget (mput l k v) k' = if k' = k then some v else mget l k'
  | [] => by simp [mput, mget_cons, mget_nil]
  | (a, u) :: l => by
    by_cases h : k = a
    · subst h; simp only [mput, if_true, mget_cons]; split <;> rfl
    · simp only [mput, if_neg h, mget_cons, mget_mput k k' v l]
      by_cases h1 : k' = a
      · subst h1; rw [if_pos rfl, if_neg (fun e => h e.symm), if_pos rfl]
      · rw [if_neg h1, if_neg h1]

theorem fnd_none {k : α} : ∀ {l : List (α × Value)} {i : Nat}, fnd k l i = none → k ∉ l.map (·.1) ∧ ∀ v, mput l k v = l ++ [(k, v)]
  | [], _, _ => by simp [mput]
  | (a, u) :: l, i, h => by
    by_cases hk : k = a
    · simp [fnd, hk] at h
    · simp only [fnd, if_neg hk] at h
      obtain ⟨h1, h2⟩ := fnd_none h
      refine ⟨by simp only [List.map_cons, List.mem_cons, not_or]; exact ⟨hk, h1⟩, fun v => by simp [mput, hk, h2]⟩

theorem fnd_some {k : α} : ∀ {l : List (α × Value)} {i j : Nat} {u : Value}, fnd k l i = some (j, u) → ∃ n, j = i + n ∧ l[n]? = some (k, u) ∧ ∀ v, mput l k v = l.set n (k, v)
  | [], _, _, _, h => by simp [fnd] at h
  | (a, x) :: l, i, j, u, h => by
    by_cases hk : k = a
    · subst hk
      simp only [fnd, if_true, Option.some.injEq, Prod.mk.injEq] at h
      exact ⟨0, by omega, by simp [h.2], fun v => by simp [mput]⟩
    · simp only [fnd, if_neg hk] at h
      obtain ⟨n, h1, h2, h3⟩ := fnd_some h
      exact ⟨n + 1, by omega, by simpa using h2, fun v => by simp [mput, hk, h3]⟩

/-- The keys of a list are not changed by a mput at one of them; else it is added. -/
theorem mput_keys (k : α) (v : Value) (l : List (α × Value)) : (mput l k v).map (·.1) = if k ∈ l.map (·.1) then l.map (·.1) else l.map (·.1) ++ [k] := by
  cases h : fnd k l 0 with
  | none => obtain ⟨h1, h2⟩ := fnd_none h; rw [h2, if_neg h1]; simp
  | some p =>
    obtain ⟨j, u⟩ := p
    obtain ⟨n, h1, h2, h3⟩ := fnd_some h
    have hm : k ∈ l.map (·.1) := List.mem_map.2 ⟨(k, u), List.mem_of_getElem? h2, rfl⟩
    rw [h3, if_pos hm, List.map_set]
    have : (l.map (·.1))[n]? = some k := by simp [h2]
    obtain ⟨hl, he⟩ := List.getElem?_eq_some_iff.1 this
    conv => rhs; rw [← List.set_getElem_self hl]
    rw [he]

variable {kv : α → Value} {w w' : World} {b : Nat} {l : List (α × Value)}
theorem run_lookup {t K E : TypeId} {z : Value} (H : KeyOk P K kv) (ht : P.underlying t = some (.map K E)) (hz : ∀ w, (zeroValue E).run P w = .ok z w) {es : Array MapEntry} {clock : Nat} (h : Ents kv es clock l) (k : α) (w : World) (h1 : w.heap[b]? = some (.map es clock)) :
    (Instr.lookup t (.map (some b)) (kv k) false).run P w = .ok ((mget l k).getD z) w := by
  obtain ⟨h2, _⟩ := h
  simp only [Instr.lookup, Sem.run_bind, run_underlying ht, Result.andThen_ok, MapKept.run_getObj_map h1, Sem.run_pure, H.check, run_findKey H k w _ l h2, mget]
  cases fnd k l 0 with
  | none => simp [hz]
  | some p => simp

theorem run_lookup_ok {t K E : TypeId} {z : Value} (H : KeyOk P K kv) (ht : P.underlying t = some (.map K E)) (hz : ∀ w, (zeroValue E).run P w = .ok z w) {es : Array MapEntry} {clock : Nat} (h : Ents kv es clock l) (k : α) (w : World) (h1 : w.heap[b]? = some (.map es clock)) :
    (Instr.lookup t (.map (some b)) (kv k) true).run P w = .ok (.tuple #[(mget l k).getD z, .bool (mget l k).isSome]) w := by
  obtain ⟨h2, _⟩ := h
  simp only [Instr.lookup, Sem.run_bind, run_underlying ht, Result.andThen_ok, MapKept.run_getObj_map h1, Sem.run_pure, H.check, run_findKey H k w _ l h2, mget]
  cases fnd k l 0 with
  | none => simp [hz]
  | some p => simp

theorem run_lookup_nil {t K E : TypeId} {z : Value} (H : KeyOk P K kv) (ht : P.underlying t = some (.map K E)) (hz : ∀ w, (zeroValue E).run P w = .ok z w) (k : α) (w : World) :
    (Instr.lookup t (.map none) (kv k) false).run P w = .ok z w := by
  have hf := run_findKey H k w [] [] rfl
  simp only [Instr.lookup, Sem.run_bind, run_underlying ht, Result.andThen_ok, Sem.run_pure, H.check, hf, fnd, hz]
  simp

theorem map_modify {β γ : Type} (f : β → γ) (g : β → β) (x : γ) : ∀ (l : List β) (n : Nat), (∀ e, l[n]? = some e → f (g e) = x) → (l.modify n g).map f = (l.map f).set n x
  | [], _, _ => by simp
  | e :: l, 0, h => by simp [h e rfl]
  | e :: l, n + 1, h => by simp [map_modify f g x l n (fun e' he => h e' (by simpa using he))]
theorem map_modify_same {β γ : Type} (f : β → γ) (g : β → β) : ∀ (l : List β) (n : Nat), (∀ e, f (g e) = f e) → (l.modify n g).map f = l.map f
  | [], _, _ => by simp
  | e :: l, 0, h => by simp [h e]
  | e :: l, n + 1, h => by simp [map_modify_same f g l n h]
theorem mem_modify {β : Type} (p : β → Prop) (g : β → β) : ∀ (l : List β) (n : Nat), (∀ e ∈ l, p e) → (∀ e, p e → p (g e)) → ∀ e ∈ l.modify n g, p e
  | [], _, _, _, e, h => by simp at h
  | x :: l, 0, h, hg, e, he => by
    simp at he
    rcases he with rfl | he
    · exact hg _ (h _ (by simp))
    · exact h _ (by simp [he])
  | x :: l, n + 1, h, hg, e, he => by
    simp at he
    rcases he with rfl | he
    · exact h _ (by simp)
    · exact mem_modify p g l n (fun e he => h e (by simp [he])) hg e he

/-- m[k] = v. -/
theorem run_mapUpdate {t K E : TypeId} (H : KeyOk P K kv) (ht : P.underlying t = some (.map K E)) {es : Array MapEntry} {clock : Nat} (h : Ents kv es clock l) (b : Nat) (k : α) (v : Value) :
    ∃ es' clock', Ents kv es' clock' (mput l k v) ∧ ∀ w : World, w.heap[b]? = some (.map es clock) → (Instr.mapUpdate t (.map (some b)) (kv k) v).run P w = .ok () (setBlock w b (.map es' clock')) := by
  obtain ⟨h2, h3, h4, h5⟩ := h
  cases hf : fnd k l 0 with
  | none =>
    obtain ⟨g1, g2⟩ := fnd_none hf
    refine ⟨es.push ⟨kv k, v, clock⟩, clock + 1, ⟨?_, ?_, ?_, ?_⟩, fun w h1 => ?_⟩
    · rw [g2]; simp [h2]
    · rw [g2]; simp only [List.map_append, List.map_cons, List.map_nil]
      exact List.nodup_append.2 ⟨h3, by simp, fun a ha b hb => by simp at hb; subst hb; rintro rfl; exact g1 ha⟩
    · simp only [Array.toList_push, List.map_append, List.map_cons, List.map_nil]
      refine List.nodup_append.2 ⟨h4, by simp, fun a ha b hb => ?_⟩
      simp at hb; subst hb
      obtain ⟨e, he, rfl⟩ := List.mem_map.1 ha
      have := h5 e he; omega
    · intro e he
      simp at he
      rcases he with he | rfl
      · have := h5 e (by simpa using he); omega
      · simp
    · simp only [Instr.mapUpdate, Sem.run_bind, run_underlying ht, Result.andThen_ok, MapKept.run_getObj_map h1, H.check, run_findKey H k w _ l h2, hf, MapKept.run_setObj_map _ h1]
      rfl
  | some p =>
    obtain ⟨j, u⟩ := p
    obtain ⟨n, g1, g2, g3⟩ := fnd_some hf
    obtain rfl : j = n := by omega
    obtain ⟨e, he, hek, hev⟩ := key_at h2 g2
    have he' : es[j]? = some e := by simpa using he
    refine ⟨es.modify j (fun e => { e with key := kv k, val := v }), clock, ⟨?_, ?_, ?_, ?_⟩, fun w h1 => ?_⟩
    · rw [g3, Array.toList_modify, map_modify (fun e : MapEntry => (e.key, e.val)) (fun e => { e with key := kv k, val := v }) (kv k, v) _ _ (fun _ _ => rfl), h2, List.map_set]
    · have := mput_keys k v l
      rw [this]; split
      · exact h3
      · rename_i hm; exact absurd (List.mem_map.2 ⟨(k, u), List.mem_of_getElem? g2, rfl⟩) hm
    · rw [Array.toList_modify, map_modify_same (fun e : MapEntry => e.born) (fun e => { e with key := kv k, val := v }) _ _ (fun _ => rfl)]; exact h4
    · rw [Array.toList_modify]; exact mem_modify (fun e : MapEntry => e.born < clock) (fun e => { e with key := kv k, val := v }) _ _ h5 (fun _ h => h)
    · simp only [Instr.mapUpdate, Sem.run_bind, run_underlying ht, Result.andThen_ok, MapKept.run_getObj_map h1, H.check, run_findKey H k w _ l h2, hf, he', Option.map_some, Option.getD_some, hek, Instr.keyThatStays, H.same, if_true, Sem.run_pure, MapKept.run_setObj_map _ h1]
      rfl

theorem mput_nodup {k : α} {v : Value} {l : List (α × Value)} (h : (l.map (·.1)).Nodup) : ((mput l k v).map (·.1)).Nodup := by
  rw [mput_keys]; split
  · exact h
  · rename_i hm
    exact List.nodup_append.2 ⟨h, by simp, fun a ha b hb => by simp at hb; subst hb; rintro rfl; exact hm ha⟩

theorem find_born {e : MapEntry} : ∀ {l : List MapEntry} {j : Nat}, (l.map (·.born)).Nodup → l[j]? = some e → l.findIdx? (fun x => (x.born : Int) == (e.born : Int)) = some j
  | [], _, _, h => by simp at h
  | x :: l, 0, hn, h => by simp at h; subst h; simp [List.findIdx?_cons]
  | x :: l, j + 1, hn, h => by
    simp only [List.map_cons, List.nodup_cons] at hn
    have h' : l[j]? = some e := by simpa using h
    have hne : ¬ x.born = e.born := fun he => hn.1 (he ▸ List.mem_map.2 ⟨e, List.mem_of_getElem? h', rfl⟩)
    have ih := find_born hn.2 h'
    simp only [List.findIdx?_cons, ih]
    have hne' : ¬ (x.born : Int) = e.born := by omega
    simp [hne']

/-- The store behind a mapEntry. -/
theorem run_entryStore {t : TypeId} {es : Array MapEntry} {clock : Nat} (h2 : es.toList.map (fun e => (e.key, e.val)) = l.map (fun p => (kv p.1, p.2)))
    (h3 : (l.map (·.1)).Nodup) (h4 : (es.toList.map (·.born)).Nodup) (h5 : ∀ e ∈ es.toList, e.born < clock) (b : Nat) {n : Nat} {k : α} {u : Value} (hn : l[n]? = some (k, u)) (hp : ∀ v, mput l k v = l.set n (k, v)) (s : Nat)
    (hs : ∀ e, es.toList[n]? = some e → e.born = s) (v : Value) :
    Ents kv (es.modify n (fun e => { e with val := v })) clock (mput l k v) ∧ ∀ w : World, w.heap[b]? = some (.map es clock) → (Instr.entryStore t (.map (some b)) (goInt s) v).run P w = .ok () (setBlock w b (.map (es.modify n (fun e => { e with val := v })) clock)) := by
  obtain ⟨e, he, hek, hev⟩ := key_at h2 hn
  obtain rfl := hs e he
  have hfi : es.findIdx? (fun x => (x.born : Int) == (e.born : Int)) = some n := by
    have h := find_born h4 he
    obtain ⟨es⟩ := es
    simpa using h
  refine ⟨⟨?_, mput_nodup h3, ?_, ?_⟩, fun w h1 => ?_⟩
  · rw [hp, Array.toList_modify, map_modify (fun e : MapEntry => (e.key, e.val)) (fun e => { e with val := v }) (kv k, v) _ _ (fun e' he' => by rw [he] at he'; cases he'; rw [hek]), h2, List.map_set]
  · rw [Array.toList_modify, map_modify_same (fun e : MapEntry => e.born) (fun e => { e with val := v }) _ _ (fun _ => rfl)]; exact h4
  · rw [Array.toList_modify]; exact mem_modify (fun e : MapEntry => e.born < clock) (fun e => { e with val := v }) _ _ h5 (fun _ h => h)
  · simp only [Instr.entryStore, Sem.run_bind, MapKept.run_getObj_map h1, Result.andThen_ok, asInt, asIntOf, goInt, Sem.run_pure, hfi, MapKept.run_setObj_map _ h1]
    rfl

theorem mput_mput (k : α) (z v : Value) : ∀ l : List (α × Value), mput (mput l k z) k v = mput l k v
  | [] => by simp [mput]
  | (a, u) :: l => by
    by_cases hka : k = a
    · subst hka; simp [mput]
    · simp [mput, hka, mput_mput k z v l]
theorem fnd_snoc {k : α} {z : Value} : ∀ (l : List (α × Value)) (i : Nat), k ∉ l.map (·.1) → fnd k (l ++ [(k, z)]) i = some (i + l.length, z)
  | [], i, _ => by simp [fnd]
  | (a, u) :: l, i, hm => by
    simp only [List.map_cons, List.mem_cons, not_or] at hm
    simp only [List.cons_append, fnd, if_neg hm.1]
    rw [fnd_snoc l _ hm.2]; simp; omega

/-- The entry of m[k] for m[k] = append(m[k], ..): its value, a stamp, and what the store behind it does. -/
theorem run_mapEntry {t K E : TypeId} {z : Value} (H : KeyOk P K kv) (ht : P.underlying t = some (.map K E)) (hz : ∀ w, (zeroValue E).run P w = .ok z w) {es : Array MapEntry} {clock : Nat} (h : Ents kv es clock l) (b : Nat) (k : α) :
    ∃ es1 clock1 s n, (∀ w : World, w.heap[b]? = some (.map es clock) → (Instr.mapEntry t (.map (some b)) (kv k)).run P w = .ok (.tuple #[(mget l k).getD z, goInt s]) (setBlock w b (.map es1 clock1))) ∧
      ∀ v, Ents kv (es1.modify n (fun e => { e with val := v })) clock1 (mput l k v) ∧ ∀ w1 : World, w1.heap[b]? = some (.map es1 clock1) → (Instr.entryStore t (.map (some b)) (goInt s) v).run P w1 = .ok () (setBlock w1 b (.map (es1.modify n (fun e => { e with val := v })) clock1)) := by
  obtain ⟨h2, h3, h4, h5⟩ := h
  cases hf : fnd k l 0 with
  | none =>
    obtain ⟨g1, g2⟩ := fnd_none hf
    have hl : mget l k = none := by simp [mget, hf]
    have k2 : (es.push ⟨kv k, z, clock⟩).toList.map (fun e => (e.key, e.val)) = (mput l k z).map (fun p => (kv p.1, p.2)) := by rw [g2]; simp [h2]
    have k3 : ((mput l k z).map (·.1)).Nodup := mput_nodup h3
    have k4 : ((es.push ⟨kv k, z, clock⟩).toList.map (·.born)).Nodup := by
      simp only [Array.toList_push, List.map_append, List.map_cons, List.map_nil]
      refine List.nodup_append.2 ⟨h4, by simp, fun a ha b hb => ?_⟩
      simp at hb; subst hb
      obtain ⟨e, he, rfl⟩ := List.mem_map.1 ha
      have := h5 e he; omega
    have k5 : ∀ e ∈ (es.push ⟨kv k, z, clock⟩).toList, e.born < clock + 1 := by
      intro e he
      simp at he
      rcases he with he | rfl
      · have := h5 e (by simpa using he); omega
      · simp
    have hlen : es.toList.length = l.length := by simpa using congrArg List.length h2
    refine ⟨es.push ⟨kv k, z, clock⟩, clock + 1, clock, l.length, fun w h1 => ?_, fun v => ?_⟩
    · simp only [Instr.mapEntry, Sem.run_bind, run_underlying ht, Result.andThen_ok, MapKept.run_getObj_map h1, H.check, run_findKey H k w _ l h2, hf, hz, MapKept.run_setObj_map _ h1, Sem.run_pure, hl]
      rfl
    · have := run_entryStore (P := P) (t := t) k2 k3 k4 k5 b (n := l.length) (k := k) (u := z) (by rw [g2]; simp) (fun v => by
        rw [g2]
        have : fnd k (l ++ [(k, z)]) 0 = some (l.length, z) := by simpa using fnd_snoc (z := z) l 0 g1
        obtain ⟨n, e1, e2, e3⟩ := fnd_some this
        obtain rfl : l.length = n := by omega
        exact e3 v) clock (fun e he => by
          simp only [Array.toList_push] at he
          rw [List.getElem?_append_right (by omega)] at he
          simp [hlen] at he; rw [← he]) v
      rw [mput_mput] at this; exact this
  | some p =>
    obtain ⟨j, u⟩ := p
    obtain ⟨n, g1, g2, g3⟩ := fnd_some hf
    obtain rfl : j = n := by omega
    obtain ⟨e, he, hek, hev⟩ := key_at h2 g2
    have he' : es[j]? = some e := by simpa using he
    have hl : mget l k = some u := by simp [mget, hf]
    have k2 : (es.modify j (fun e => { e with key := kv k })).toList.map (fun e => (e.key, e.val)) = l.map (fun p => (kv p.1, p.2)) := by
      rw [Array.toList_modify, map_modify (fun e : MapEntry => (e.key, e.val)) (fun e => { e with key := kv k }) (kv k, u) _ _ (fun e1 he1 => by rw [he] at he1; cases he1; rw [hev]), h2]
      have : (l.map (fun p => (kv p.1, p.2)))[j]? = some (kv k, u) := by simp [g2]
      obtain ⟨hj, hje⟩ := List.getElem?_eq_some_iff.1 this
      rw [← hje]; exact List.set_getElem_self hj
    have k4 : ((es.modify j (fun e => { e with key := kv k })).toList.map (·.born)).Nodup := by
      rw [Array.toList_modify, map_modify_same (fun e : MapEntry => e.born) (fun e => { e with key := kv k }) _ _ (fun _ => rfl)]; exact h4
    have k5 : ∀ e ∈ (es.modify j (fun e => { e with key := kv k })).toList, e.born < clock := by
      rw [Array.toList_modify]; exact mem_modify (fun e : MapEntry => e.born < clock) (fun e => { e with key := kv k }) _ _ h5 (fun _ h => h)
    refine ⟨es.modify j (fun e => { e with key := kv k }), clock, e.born, j, fun w h1 => ?_, fun v => ?_⟩
    · simp only [Instr.mapEntry, Sem.run_bind, run_underlying ht, Result.andThen_ok, MapKept.run_getObj_map h1, H.check, run_findKey H k w _ l h2, hf, he', Option.map_some, Option.getD_some, hek, Instr.keyThatStays, H.same, if_true, Sem.run_pure, MapKept.run_setObj_map _ h1, hl]
      rfl
    · exact run_entryStore k2 h3 k4 k5 b g2 g3 e.born (fun e1 he1 => by
        rw [Array.toList_modify, List.getElem?_modify_eq, he] at he1
        simp at he1; rw [← he1]) v

end maps

/-! ### Keys that are pairs of integers -/
section
variable {P : Program}
theorem eqInt {E : TypeId} {k : IntKind} (hE : P.underlying E = some (.int k)) (a b : Int) (n : Nat) (w : World) :
    (Op.equalIn (n + 1) E (.int k a) (.int k b)).run P w = .ok (a == b) w := by
  simp [Op.equalIn, run_underlying hE]
theorem partPlain {E : TypeId} {d : TypeDesc} (hE : P.underlying E = some d) (hd : (match d with | .struct _ | .array _ _ => true | _ => false) = false) (cs : Array Value) (j : Nat) (v : Value) (hv : cs[j]? = some v) (w : World) :
    (part E cs j).run P w = .ok v w := by
  cases d <;> simp_all [part, isAgg, run_underlying hE]
theorem eqArr2 {K E : TypeId} {i : TypeInfo} {k : IntKind} (hK : P.underlying K = some (.array 2 E)) (hE : P.underlying E = some (.int k)) (hi : P.info? E = some i) (hs : i.size = 1) (a b c d : Int) (n : Nat) (w : World) :
    (Op.equalIn (n + 2) K (.agg #[.int k a, .int k b]) (.agg #[.int k c, .int k d])).run P w = .ok (a == c && b == d) w := by
  have hp := fun cs j v hv w => partPlain (P := P) hE rfl cs j v hv w
  unfold Op.equalIn
  simp only [Sem.run_bind, run_underlying hK, Result.andThen_ok, sizeOf, typeInfo, run_program, hi, Sem.run_pure, hs, Std.Legacy.Range.forIn_eq_forIn_range', Std.Legacy.Range.size, Nat.sub_zero, Nat.add_one_sub_one, Nat.div_one, List.range']
  simp only [List.forIn_cons, List.forIn_nil, Sem.run_bind, hp #[.int k a, .int k b] 0 _ rfl, hp #[.int k c, .int k d] 0 _ rfl, hp #[.int k a, .int k b] 1 _ rfl, hp #[.int k c, .int k d] 1 _ rfl, Result.andThen_ok, eqInt hE, Nat.zero_mul, Nat.one_mul, Nat.zero_add]
  by_cases h1 : a = c <;> by_cases h2 : b = d <;> simp [h1, h2, hp #[.int k a, .int k b] 1 _ rfl, hp #[.int k c, .int k d] 1 _ rfl, hp #[.int k c, .int k b] 1 _ rfl, eqInt hE]
theorem checkInt {E : TypeId} {k : IntKind} (hE : P.underlying E = some (.int k)) (e : Bool) (a : Int) (n : Nat) (w : World) : (Instr.checkKey e (n + 1) E (.int k a)).run P w = .ok () w := by
  simp [Instr.checkKey, run_underlying hE]
theorem checkArr2 {K E : TypeId} {i : TypeInfo} {k : IntKind} (hK : P.underlying K = some (.array 2 E)) (hE : P.underlying E = some (.int k)) (hi : P.info? E = some i) (hs : i.size = 1) (e : Bool) (a b : Int) (n : Nat) (w : World) :
    (Instr.checkKey e (n + 2) K (.agg #[.int k a, .int k b])).run P w = .ok () w := by
  have hp := fun cs j v hv w => partPlain (P := P) hE rfl cs j v hv w
  unfold Instr.checkKey
  simp only [Sem.run_bind, run_underlying hK, Result.andThen_ok, sizeOf, typeInfo, run_program, hi, Sem.run_pure, hs, Std.Legacy.Range.forIn_eq_forIn_range', Std.Legacy.Range.size, Nat.sub_zero, Nat.add_one_sub_one, Nat.div_one, List.range']
  simp only [List.forIn_cons, List.forIn_nil, Sem.run_bind, hp #[.int k a, .int k b] 0 _ rfl, hp #[.int k a, .int k b] 1 _ rfl, Result.andThen_ok, checkInt hE, Nat.zero_mul, Nat.one_mul, Nat.zero_add, Sem.run_pure]
  simp [hi, hs, hp #[.int k a, .int k b] 1 _ rfl, checkInt hE]
/-- A pair of integers, as an array. -/
def pairV (k : IntKind) (p : Int × Int) : Value := .agg #[.int k p.1, .int k p.2]
theorem keyOk_pair {K E : TypeId} {k : IntKind} (hK : P.underlying K = some (.array 2 E)) (hE : P.underlying E = some (.int k)) (hi : (P.info? E).map (·.size) = some 1) : KeyOk P K (pairV k) := by
  obtain ⟨i, hi, hs⟩ := Option.map_eq_some_iff.1 hi
  refine ⟨fun a b w => ?_, fun e a w => checkArr2 hK hE hi hs e a.1 a.2 9998 w, fun a => ?_, _, hK, fun a b => .inl rfl⟩
  · rw [Op.equal, Op.maxDepth, pairV, pairV, eqArr2 hK hE hi hs a.1 a.2 b.1 b.2 9998 w]
    obtain ⟨a1, a2⟩ := a; obtain ⟨b1, b2⟩ := b
    by_cases h1 : a1 = b1 <;> by_cases h2 : a2 = b2 <;> simp [h1, h2]
  · simp [pairV, Instr.sameBits]
theorem run_eql_pair {K E : TypeId} {k : IntKind} (hK : P.underlying K = some (.array 2 E)) (hE : P.underlying E = some (.int k)) (hi : (P.info? E).map (·.size) = some 1) (a b c d : Int) (w : World) :
    (binOp .eql K (.agg #[.int k a, .int k b]) (.agg #[.int k c, .int k d])).run P w = .ok (.bool (a == c && b == d)) w := by
  obtain ⟨i, hi, hs⟩ := Option.map_eq_some_iff.1 hi
  simp only [binOp, Op.equal, Op.maxDepth, Sem.run_bind, Sem.run_map, eqArr2 hK hE hi hs a b c d 9998 w, Result.andThen_ok, Sem.run_pure]
end

/-! ### Slices: what is read, what is appended -/
section slices
variable {P : Program}

/-- t is a slice type; its elements of type e have these many cells and bytes. -/
def SliceOk (P : Program) (t e : TypeId) (z : Value) (size bytes : Nat) : Prop :=
  P.underlying t = some (.slice e) ∧ (P.info? e).map (fun i => (i.zero, i.size, i.bytes)) = some (some z, size, bytes) ∧ z.cells.size = size ∧ 0 < size

/-- A slice at A of n elements holds the cells xs. -/
def Src (w : World) (A : Option Addr) (n size : Nat) (xs : List Value) : Prop :=
  xs.length = n * size ∧ (∀ u ∈ xs, u.oneCell' = true) ∧ (0 < n → ∃ ad, A = some ad ∧ ∀ j u, xs[j]? = some u → w.cell? (ad.add j) = some u)

theorem Src.cells {w : World} {A : Option Addr} {n size : Nat} {xs : List Value} (h : Src w A n size xs) {ad : Addr} (hA : A = some ad) : ∀ j u, xs[j]? = some u → w.cell? (ad.add j) = some u := by
  subst hA
  intro j u hu
  rcases Nat.eq_zero_or_pos n with h0 | h0
  · subst h0
    have : xs = [] := List.eq_nil_of_length_eq_zero (by simpa using h.1)
    subst this; simp at hu
  · obtain ⟨ad', e, hc⟩ := h.2.2 h0
    cases e
    exact hc j u hu

theorem Src.none_ {w : World} {A : Option Addr} {size : Nat} : Src w A 0 size [] := ⟨by simp, by simp, fun h => absurd h (by omega)⟩

theorem Addr.add_block (a : Addr) (n : Nat) : (a.add n).block = a.block := by unfold Addr.add; split <;> rfl
theorem Addr.add_zero_ (g n : Nat) : (⟨g, 0, none⟩ : Addr).add n = ⟨g, n, none⟩ := by
  unfold Addr.add; split <;> simp_all

theorem Src.keep {w w' : World} {A : Option Addr} {n size : Nat} {xs : List Value} (h : Src w A n size xs) (hk : ∀ ad : Addr, A = some ad → w'.heap[ad.block]? = w.heap[ad.block]?) : Src w' A n size xs :=
  ⟨h.1, h.2.1, fun hn => by
    obtain ⟨ad, e, hc⟩ := h.2.2 hn
    exact ⟨ad, e, fun j u hu => by rw [← hc j u hu]; exact World.cell?_of_block (by rw [Addr.add_block]; exact hk ad e)⟩⟩

/-- What owns its row can be read. -/
theorem Src.of_own {w : World} {base : Nat} {e : TypeId} {size n c : Nat} {A : Option Addr} {xs : List Value} (h : w.ownsRow base e size (.slice A n c) n xs) (h1 : ∀ u ∈ xs, u.oneCell' = true) : Src w A n size xs := by
  refine ⟨h.1, h1, fun hn => ?_⟩
  obtain ⟨g, cap, hv, _, hlt⟩ := h.form hn
  have hA : A = some ⟨g, 0, none⟩ := by injection hv
  subst hA
  exact ⟨_, rfl, h.cells (g := g) rfl⟩

theorem run_app {t e : TypeId} {z : Value} {size bytes : Nat} (S : SliceOk P t e z size bytes) (ty : TypeId) (w : World) (base : Nat) {v : Value} {n : Nat} {xs : List Value} (hown : w.ownsRow base e size v n xs)
    {A : Option Addr} {m c : Nat} {news : List Value} (hs : Src w A m size news) (h63 : n + m ≤ 1000000) (hby : bytes ≤ 1000) (hbase : base ≤ w.heap.size) :
    ∃ v' w', (Builtin.append_ #[t, t] ty #[v, .slice A m c]).run P w = .ok v' w' ∧ w'.ownsRow base e size v' (n + m) (xs ++ news) ∧ w.grownBy w' v.ownBlock ∧
      (v'.ownBlock = v.ownBlock ∨ v'.ownBlock = some w.heap.size) := by
  obtain ⟨ht, hi, hz, hsz⟩ := S
  obtain ⟨i, hi, hi1, hi2, hi3⟩ := info_parts hi
  have hb : (n + m) * bytes ≤ 140737488355328 := Nat.le_trans (Nat.mul_le_mul h63 hby) (by omega)
  cases A with
  | some ad =>
    obtain ⟨v', w', h1, h2, h3, _, h5⟩ := run_append_own_at (P := P) w base t ty e i z size bytes ht hi hi1 hi2 hi3 hz hsz v n xs hown ad m c news hs.1 (hs.cells rfl) hs.2.1 (by simp only [maxLen]; omega) hb hbase
    exact ⟨v', w', h1, h2, h3, h5⟩
  | none =>
    have hm : m = 0 := by
      rcases Nat.eq_zero_or_pos m with h0 | h0
      · exact h0
      · obtain ⟨ad, h, _⟩ := hs.2.2 h0
        cases h
    subst hm
    have hn : news = [] := List.eq_nil_of_length_eq_zero (by simpa using hs.1)
    subst hn
    refine ⟨v, w, ?_, by simpa using hown, ⟨rfl, rfl, rfl, Nat.le_refl _, fun _ _ _ => rfl⟩, .inl rfl⟩
    rcases hown.2 with ⟨rfl, rfl⟩ | ⟨g, cap, cur, rfl, _, _, hnc, _⟩
    · simp [Builtin.append_, run_underlying ht, sizeOf, typeInfo, hi, Builtin.lenOf, Builtin.firstCells]
    · simp [Builtin.append_, run_underlying ht, sizeOf, typeInfo, hi, Builtin.lenOf, Builtin.firstCells, hnc, storeCells]

theorem wp_app {o : Oper} {a : Act} {K : Act → World → Prop} {Q : Exit → Act → World → Prop} (s x : Operand) {t : TypeId}
    (ho : o.op = .call { callee := .builtin .append, args := #[s, x], argTypes := #[t, t] })
    {e : TypeId} {z : Value} {size bytes : Nat} (S : SliceOk P t e z size bytes) (w : World) (base : Nat) {v : Value} {n : Nat} {xs : List Value} (hsv : a.eval s = v) (hown : w.ownsRow base e size v n xs)
    {A : Option Addr} {m c : Nat} {news : List Value} (hx : a.eval x = .slice A m c) (hs : Src w A m size news) (h63 : n + m ≤ 1000000) (hby : bytes ≤ 1000) (hbase : base ≤ w.heap.size)
    (h : ∀ v' w', w'.ownsRow base e size v' (n + m) (xs ++ news) → w.grownBy w' v.ownBlock → (v'.ownBlock = v.ownBlock ∨ v'.ownBlock = some w.heap.size) → K (a.put o.dst v') w') : o.wp P a w K Q := by
  obtain ⟨v', w', hrun, h2, h3, h4⟩ := run_app S o.type w base hown (c := c) hs h63 hby hbase
  unfold Oper.wp execOp
  simp only [ho, resolve, invoke, builtin, Sem.run_bind, Sem.run_pure, Result.andThen_ok, List.map_toArray, List.map_cons, List.map_nil, hsv, hx, hrun]
  exact h v' w' h2 h3 h4

theorem wpList_app {ops : Array Oper} {rest : List Oper} {o : Oper} {a : Act} {Q : Exit → Act → World → Prop} (hgd : o.guard = none) (s x : Operand) {t : TypeId}
    (ho : o.op = .call { callee := .builtin .append, args := #[s, x], argTypes := #[t, t] })
    {e : TypeId} {z : Value} {size bytes : Nat} (S : SliceOk P t e z size bytes) (w : World) (base : Nat) {v : Value} {n : Nat} {xs : List Value} (hsv : a.eval s = v) (hown : w.ownsRow base e size v n xs)
    {A : Option Addr} {m c : Nat} {news : List Value} (hx : a.eval x = .slice A m c) (hs : Src w A m size news) (h63 : n + m ≤ 1000000) (hby : bytes ≤ 1000) (hbase : base ≤ w.heap.size)
    (h : ∀ v' w', w'.ownsRow base e size v' (n + m) (xs ++ news) → w.grownBy w' v.ownBlock → (v'.ownBlock = v.ownBlock ∨ v'.ownBlock = some w.heap.size) → wpList P ops Q rest (a.put o.dst v') w') : wpList P ops Q (o :: rest) a w :=
  wpList_plain hgd fun _ hK => wp_app s x ho S w base hsv hown hx hs h63 hby hbase fun v' w' h2 h3 h4 => hK _ _ (h v' w' h2 h3 h4)

theorem step_app {ops : Array Oper} {o : Oper} {a : Act} {K : Act → World → Prop} {Q : Exit → Act → World → Prop} {E : Prop} (hgd : o.guard = none) (s x : Operand) {t : TypeId}
    (ho : o.op = .call { callee := .builtin .append, args := #[s, x], argTypes := #[t, t] })
    {e : TypeId} {z : Value} {size bytes : Nat} (S : SliceOk P t e z size bytes) (w : World) (base : Nat) {v : Value} {n : Nat} {xs : List Value} (hsv : a.eval s = v) (hown : w.ownsRow base e size v n xs)
    {A : Option Addr} {m c : Nat} {news : List Value} (hx : a.eval x = .slice A m c) (hs : Src w A m size news) (h63 : n + m ≤ 1000000) (hby : bytes ≤ 1000) (hbase : base ≤ w.heap.size)
    (h : ∀ v' w', w'.ownsRow base e size v' (n + m) (xs ++ news) → w.grownBy w' v.ownBlock → (v'.ownBlock = v.ownBlock ∨ v'.ownBlock = some w.heap.size) → K (a.put o.dst v') w') :
    if Region.wanted o (yielded ops a.tmps) = true then Oper.wp P o a w K Q else E := by
  have hw : Region.wanted o (yielded ops a.tmps) = true := by simp [Region.wanted, hgd]
  rw [if_pos hw]
  exact wp_app s x ho S w base hsv hown hx hs h63 hby hbase h

theorem ownsRow_of_block {w w' : World} {base : Nat} {e : TypeId} {size : Nat} {v : Value} {n : Nat} {xs : List Value} (h : w.ownsRow base e size v n xs) (hb : ∀ g, v.ownBlock = some g → w'.heap[g]? = w.heap[g]?) : w'.ownsRow base e size v n xs := by
  refine ⟨h.1, ?_⟩
  rcases h.2 with h2 | ⟨g, cap, cur, rfl, h3, h4, h5⟩
  · exact .inl h2
  · exact .inr ⟨g, cap, cur, rfl, h3, (hb g rfl).trans h4, h5⟩
theorem ownsRow_lt {w : World} {base : Nat} {e : TypeId} {size : Nat} {v : Value} {n : Nat} {xs : List Value} (h : w.ownsRow base e size v n xs) {g : Nat} (hg : v.ownBlock = some g) : g < w.heap.size := (h.lt g hg).2
/-- The one value in a new block of one cell, behind a draw or a store elsewhere. -/
theorem Src.one {w : World} {g : Nat} {v : Value} {t : TypeId} (h : w.heap[g]? = some (.cells #[v] t (0, 0))) (h1 : v.oneCell' = true) : Src w (some ⟨g, 0, none⟩) 1 1 [v] :=
  ⟨rfl, by simpa using h1, fun _ => ⟨_, rfl, fun j u hu => by
    match j, hu with
    | 0, hu => simp at hu; subst hu; rw [Addr.add_zero_]; simp [World.cell?, h]
    | j + 1, hu => simp at hu⟩⟩

/-- Where s[k:] lies: at the capacity's end the address stays. -/
def cutA (A : Option Addr) (c k size : Nat) : Option Addr := if c = k then A else A.map (·.add (k * size))
theorem run_slice_from {t e : TypeId} {z : Value} {size bytes : Nat} (S : SliceOk P t e z size bytes) (A : Option Addr) (n c k : Nat) (kd : IntKind) (l : Int) (hl : l = k) (h : k ≤ n) (w : World) :
    (Instr.slice t (.slice A n c) (some (.int kd l)) none none).run P w = .ok (.slice (cutA A c k size) (n - k) (c - k)) w := by
  obtain ⟨ht, hi, hz, hsz⟩ := S
  obtain ⟨i, hi, hi1, hi2, hi3⟩ := info_parts hi
  subst hl
  have h0 : (0 : Int) ≤ k ∧ (k : Int) ≤ n := by omega
  simp [Instr.slice, run_underlying ht, Instr.sliceBounds, Instr.sliceBound, asIntOf, h, sizeOf, typeInfo, hi, hi2, cutA]
theorem Src.cut {w : World} {A : Option Addr} {n size c k : Nat} {xs : List Value} (h : Src w A n size xs) (hk : k ≤ n) (hc : n ≤ c) : Src w (cutA A c k size) (n - k) size (xs.drop (k * size)) := by
  refine ⟨by rw [List.length_drop, h.1, Nat.sub_mul], fun u hu => h.2.1 u (List.mem_of_mem_drop hu), fun hn => ?_⟩
  obtain ⟨ad, rfl, hcell⟩ := h.2.2 (by omega)
  rw [cutA, if_neg (by omega)]
  refine ⟨ad.add (k * size), rfl, fun j u hu => ?_⟩
  have e : (ad.add (k * size)).add j = ad.add (k * size + j) := by
    unfold Addr.add
    by_cases h1 : k * size = 0 <;> by_cases h2 : j = 0 <;> simp [h1, h2, Nat.add_assoc]
  rw [e]
  exact hcell _ u (by rw [← hu, List.getElem?_drop])
theorem cutA_block {A : Option Addr} {c k size : Nat} {ad : Addr} (h : cutA A c k size = some ad) : ∃ ad', A = some ad' ∧ ad'.block = ad.block := by
  unfold cutA at h
  split at h
  · exact ⟨ad, h, rfl⟩
  · cases A with
    | none => cases h
    | some a => simp at h; subst h; exact ⟨a, rfl, (Addr.add_block _ _).symm⟩
end slices
end Go.CH
namespace Go.CH
open Go.RowKit
open Go.ChangeMaps (setBlock)

/-- A goal that a walk leaves alone. -/
def Held (p : Prop) : Prop := p
theorem held {p : Prop} (h : Held p) : p := h
theorem Held.mk {p : Prop} (h : p) : Held p := h

theorem Src.open_ {w : World} {A : Option Addr} {n size : Nat} {xs : List Value} (h : Src w A n size xs) (hn : 0 < n) (hs : 0 < size) :
    ∃ b o, A = some ⟨b, o, none⟩ ∧ ∀ j u, xs[j]? = some u → w.cell? ⟨b, o + j, none⟩ = some u := by
  obtain ⟨ad, rfl, hc⟩ := h.2.2 hn
  have hl : 0 < xs.length := by rw [h.1]; exact Nat.mul_pos hn hs
  have h0 := hc 0 xs[0] (List.getElem?_eq_getElem hl)
  obtain ⟨b, o, sp⟩ := ad
  have hsp : sp = none := by
    cases sp with
    | none => rfl
    | some x =>
      exfalso
      simp only [Addr.add, if_true, World.cell?] at h0
      split at h0 <;> simp at h0
  subst hsp
  refine ⟨b, o, rfl, fun j u hu => ?_⟩
  have := hc j u hu
  by_cases hj : j = 0
  · subst hj; simpa [Addr.add] using this
  · simpa [Addr.add, hj] using this

/-- What a world holds in the blocks F. -/
def Own := World → (Nat → Prop) → Prop
structure Own.Ok (O : Own) : Prop where
  lt : ∀ {w F}, O w F → ∀ i, F i → i < w.heap.size
  keep : ∀ {w w' F}, O w F → (∀ i, F i → w'.heap[i]? = w.heap[i]?) → O w' F
/-- What a call leaves of the blocks F: R, in them or in new ones; no other block has turned. -/
def Post (w : World) (F : Nat → Prop) (R : Own) (w' : World) : Prop := ∃ F', R w' F' ∧ Mod F w w' ∧ ∀ i, F' i → F i ∨ (w.heap.size ≤ i ∧ i < w'.heap.size)
def star (A B : Own) : Own := fun w F => ∃ F1 F2, A w F1 ∧ B w F2 ∧ (∀ i, F1 i → ¬ F2 i) ∧ ∀ i, F i ↔ F1 i ∨ F2 i
def emp : Own := fun _ F => ∀ i, ¬ F i
/-- The state of a call that began in w0 with N blocks: O in blocks of its own; nothing below N has turned. -/
structure Sta (N : Nat) (w0 : World) (O : Own) (W : World) : Prop where
  own : ∃ F, O W F ∧ ∀ i, F i → N ≤ i
  bel : Below N w0 W
  big : N ≤ w0.heap.size

theorem emp_ok : emp.Ok := ⟨fun h i hi => (h i hi).elim, fun h _ => h⟩
theorem star_ok {A B : Own} (ha : A.Ok) (hb : B.Ok) : (star A B).Ok :=
  ⟨fun ⟨F1, F2, h1, h2, _, h4⟩ i hi => ((h4 i).1 hi).elim (ha.lt h1 i) (hb.lt h2 i),
   fun ⟨F1, F2, h1, h2, h3, h4⟩ hk => ⟨F1, F2, ha.keep h1 (fun i hi => hk i ((h4 i).2 (.inl hi))), hb.keep h2 (fun i hi => hk i ((h4 i).2 (.inr hi))), h3, h4⟩⟩

section
variable {N : Nat} {w0 W W' : World} {A B C D O R : Own}
theorem Sta.start (w : World) : Sta w.heap.size w emp w := ⟨⟨fun _ => False, fun _ h => h, fun _ h => h.elim⟩, Below.refl _ _, Nat.le_refl _⟩
theorem Sta.size (h : Sta N w0 O W) : N ≤ W.heap.size := Nat.le_trans h.big h.bel.size
theorem below_down {N : Nat} {W W' : World} (hb : Below W.heap.size W W') (hN : N ≤ W.heap.size) : Below N W W' := hb.mono hN
theorem Sta.below (h : Sta N w0 O W) (ho : O.Ok) (hb : Below W.heap.size W W') : Sta N w0 O W' := by
  obtain ⟨F, h1, h2⟩ := h.own
  exact ⟨⟨F, ho.keep h1 (fun i hi => hb.block i (ho.lt h1 i hi)), h2⟩, h.bel.trans (hb.mono h.size), h.big⟩
/-- Take A out for a call: what it leaves comes back. -/
theorem Sta.take (h : Sta N w0 (star A B) W) (hb : B.Ok) : ∃ F, A W F ∧ (∀ i, F i → N ≤ i) ∧ ∀ (R : Own) (W' : World), Post W F R W' → Sta N w0 (star R B) W' := by
  have hs := h.size
  obtain ⟨F, ⟨F1, F2, h1, h2, h3, h4⟩, h5⟩ := h.own
  refine ⟨F1, h1, fun i hi => h5 i ((h4 i).2 (.inl hi)), fun R W' hp => ?_⟩
  obtain ⟨F', g1, g2, g3⟩ := hp
  refine ⟨⟨fun i => F' i ∨ F2 i, ⟨F', F2, g1, hb.keep h2 (fun i hi => g2.block i (hb.lt h2 i hi) (fun hf => h3 i hf hi)), fun i hi hi2 => ?_, fun i => Iff.rfl⟩, fun i hi => ?_⟩, ?_, h.big⟩
  · rcases g3 i hi with g | g
    · exact h3 i g hi2
    · have := hb.lt h2 i hi2; omega
  · rcases hi with hi | hi
    · rcases g3 i hi with g | g
      · exact h5 i ((h4 i).2 (.inl g))
      · omega
    · exact h5 i ((h4 i).2 (.inr hi))
  · exact h.bel.trans ⟨g2.os, g2.tape, g2.output, g2.size, fun k hk => g2.block k (by omega) (fun e => by have := h5 k ((h4 k).2 (.inl e)); omega)⟩
/-- Something new. -/
theorem Sta.fresh (h : Sta N w0 O W) (ho : O.Ok) (hp : Post W (fun _ => False) R W') : Sta N w0 (star R O) W' := by
  have hs := h.size
  obtain ⟨F, h1, h2⟩ := h.own
  have h3 : Sta N w0 (star emp O) W := ⟨⟨F, ⟨fun _ => False, F, fun _ h => h, h1, fun _ h => h.elim, fun i => by simp⟩, h2⟩, h.bel, h.big⟩
  obtain ⟨F0, e1, e2, e3⟩ := h3.take ho
  refine e3 R W' ?_
  obtain ⟨F', g1, g2, g3⟩ := hp
  exact ⟨F', g1, g2.mono (fun _ _ h => h.elim), fun i hi => (g3 i hi).elim (fun h => h.elim) .inr⟩
theorem Sta.imp (h : Sta N w0 A W) (hi : ∀ w F, A w F → B w F) : Sta N w0 B W := by
  obtain ⟨F, h1, h2⟩ := h.own
  exact ⟨⟨F, hi _ _ h1, h2⟩, h.bel, h.big⟩
theorem star_comm {w : World} {F : Nat → Prop} (h : star A B w F) : star B A w F := by
  obtain ⟨F1, F2, h1, h2, h3, h4⟩ := h
  exact ⟨F2, F1, h2, h1, fun i h g => h3 i g h, fun i => (h4 i).trans Or.comm⟩
theorem star_rot {w : World} {F : Nat → Prop} (h : star A (star B C) w F) : star B (star A C) w F := by
  obtain ⟨F1, F2, h1, ⟨F3, F4, h2, h3, h5, h6⟩, h7, h8⟩ := h
  refine ⟨F3, fun i => F1 i ∨ F4 i, h2, ⟨F1, F4, h1, h3, fun i hi h4 => h7 i hi ((h6 i).2 (.inr h4)), fun i => Iff.rfl⟩, fun i hi h => ?_, fun i => ?_⟩
  · rcases h with h | h
    · exact h7 i h ((h6 i).2 (.inl hi))
    · exact h5 i hi h
  · rw [h8, h6]; constructor <;> rintro (h | h | h) <;> simp [h]
theorem star_mono {A' B' : Own} {w : World} {F : Nat → Prop} (h : star A B w F) (ha : ∀ F, A w F → A' w F) (hb : ∀ F, B w F → B' w F) : star A' B' w F := by
  obtain ⟨F1, F2, h1, h2, h3, h4⟩ := h
  exact ⟨F1, F2, ha _ h1, hb _ h2, h3, h4⟩
theorem star_emp {w : World} {F : Nat → Prop} (h : star A emp w F) : A w F := by
  obtain ⟨F1, F2, h1, h2, h3, h4⟩ := h
  have : F1 = F := by funext i; exact propext ⟨fun h => (h4 i).2 (.inl h), fun h => ((h4 i).1 h).elim id (fun h => (h2 i h).elim)⟩
  exact this ▸ h1
theorem Sta.swap (h : Sta N w0 (star A B) W) : Sta N w0 (star B A) W := h.imp fun _ _ => star_comm
theorem Sta.rot (h : Sta N w0 (star A (star B C)) W) : Sta N w0 (star B (star A C)) W := h.imp fun _ _ => star_rot
theorem Sta.rot3 (h : Sta N w0 (star A (star B (star C D))) W) : Sta N w0 (star C (star A (star B D))) W :=
  (h.imp fun _ _ h => star_mono h (fun _ h => h) (fun _ h => star_rot h)).rot
theorem Sta.drop (h : Sta N w0 (star A B) W) : Sta N w0 B W := by
  obtain ⟨F, ⟨F1, F2, h1, h2, h3, h4⟩, h5⟩ := h.own
  exact ⟨⟨F2, h2, fun i hi => h5 i ((h4 i).2 (.inr hi))⟩, h.bel, h.big⟩
theorem Sta.fst (h : Sta N w0 (star A B) W) : ∃ F, A W F ∧ ∀ i, F i → N ≤ i := by
  obtain ⟨F, ⟨F1, F2, h1, h2, h3, h4⟩, h5⟩ := h.own
  exact ⟨F1, h1, fun i hi => h5 i ((h4 i).2 (.inl hi))⟩
theorem Sta.one (h : Sta N w0 A W) : Sta N w0 (star A emp) W := by
  obtain ⟨F, h1, h2⟩ := h.own
  exact ⟨⟨F, ⟨F, fun _ => False, h1, fun _ h => h, fun _ _ h => h, fun i => by simp⟩, h2⟩, h.bel, h.big⟩
theorem Sta.cell (h : Sta N w0 O W) {p : Addr} {u : Value} (hc : w0.cell? p = some u) (hp : p.block < N) : W.cell? p = some u := by rw [h.bel.cell hp]; exact hc
theorem Sta.src (h : Sta N w0 O W) {A : Option Addr} {n size : Nat} {xs : List Value} (hs : Src w0 A n size xs) (hN : N = w0.heap.size) : Src W A n size xs := by
  subst hN
  refine ⟨hs.1, hs.2.1, fun hn => ?_⟩
  obtain ⟨ad, e, hc⟩ := hs.2.2 hn
  exact ⟨ad, e, fun j u hu => h.cell (hc j u hu) (World.block_lt_of_cell? _ _ (hc j u hu))⟩
end

theorem Sta.last {N : Nat} {w0 W : World} {A B C : Own} (h : Sta N w0 (star A (star B C)) W) : Sta N w0 (star C (star A B)) W :=
  (h.imp fun _ _ h => star_mono h (fun _ h => h) (fun _ h => star_comm h)).rot
/-- The block g holds the cells cs. -/
def CellO (g : Nat) (cs : Array Value) (t : TypeId) : Own := fun w F => w.heap[g]? = some (.cells cs t (0, 0)) ∧ ∀ i, F i ↔ i = g
theorem cell_ok {g : Nat} {cs : Array Value} {t : TypeId} : (CellO g cs t).Ok :=
  ⟨fun h i hi => by rw [(h.2 i).1 hi]; exact lt_of_block h.1, fun h hk => ⟨(hk g ((h.2 g).2 rfl)).trans h.1, h.2⟩⟩
theorem cell_new (w : World) (cs : Array Value) (t : TypeId) : Post w (fun _ => False) (CellO w.heap.size cs t) (w.alloc (.cells cs t)) :=
  ⟨fun i => i = w.heap.size, ⟨heap_new rfl, fun i => Iff.rfl⟩, Mod.of_below ((Below.refl _ _).alloc (Nat.le_refl _) _), fun i hi => .inr (by subst hi; simp)⟩

/-! ### Rows -/
/-- The slice v of n elements owns its row of cells xs. -/
def RowO (e : TypeId) (size : Nat) (v : Value) (n : Nat) (xs : List Value) : Own := fun w F => w.ownsRow 0 e size v n xs ∧ ∀ i, F i ↔ v.ownBlock = some i
theorem row_ok {e : TypeId} {size : Nat} {v : Value} {n : Nat} {xs : List Value} : (RowO e size v n xs).Ok :=
  ⟨fun h i hi => ownsRow_lt h.1 ((h.2 i).1 hi), fun h hk => ⟨ownsRow_of_block h.1 (fun g hg => hk g ((h.2 g).2 hg)), h.2⟩⟩
theorem row_nil (w : World) (e : TypeId) (size : Nat) : RowO e size (.slice none 0 0) 0 [] w (fun _ => False) := ⟨World.ownsRow_nil _ _ _ _, fun i => by simp [Value.ownBlock]⟩
theorem row_base {w : World} {b b' : Nat} {e : TypeId} {size : Nat} {v : Value} {n : Nat} {xs : List Value} (h : w.ownsRow b e size v n xs) (hb : b' ≤ b) : w.ownsRow b' e size v n xs :=
  ⟨h.1, h.2.imp id (fun ⟨g, cap, cur, h1, h2, h3⟩ => ⟨g, cap, cur, h1, Nat.le_trans hb h2, h3⟩)⟩
/-- What an append leaves. -/
theorem row_app {W W' : World} {F : Nat → Prop} {e : TypeId} {size : Nat} {v v' : Value} {n n' : Nat} {xs xs' : List Value} (h : RowO e size v n xs W F) (h1 : W'.ownsRow 0 e size v' n' xs') (hg : W.grownBy W' v.ownBlock) (hv : v'.ownBlock = v.ownBlock ∨ v'.ownBlock = some W.heap.size) :
    Post W F (RowO e size v' n' xs') W' := by
  refine ⟨fun i => v'.ownBlock = some i, ⟨h1, fun i => Iff.rfl⟩, Mod.of_grown hg (fun k hk _ => (h.2 k).2 hk), fun i hi => ?_⟩
  rcases hv with hv | hv
  · exact .inl ((h.2 i).2 (hv ▸ hi))
  · rw [hv] at hi; injection hi with hi; subst hi
    exact .inr ⟨Nat.le_refl _, ownsRow_lt h1 hv⟩
/-- .. with something laid into a new block first. -/
theorem row_app1 {W W' : World} {F : Nat → Prop} {o : Obj} {e : TypeId} {size : Nat} {v v' : Value} {n n' : Nat} {xs xs' : List Value} (h : RowO e size v n xs W F) (h1 : W'.ownsRow 0 e size v' n' xs') (hg : (W.alloc o).grownBy W' v.ownBlock) (hv : v'.ownBlock = v.ownBlock ∨ v'.ownBlock = some (W.alloc o).heap.size) :
    Post W F (RowO e size v' n' xs') W' := by
  have hr : RowO e size v n xs (W.alloc o) F := row_ok.keep h (fun i hi => heap_old (row_ok.lt h i hi))
  obtain ⟨F', g1, g2, g3⟩ := row_app hr h1 hg hv
  refine ⟨F', g1, (Mod.of_below (F := F) ((Below.refl _ _).alloc (Nat.le_refl _) o)).trans g2 (fun _ _ h => h) (fun _ _ h => h), fun i hi => (g3 i hi).imp id (fun h => ⟨by have := h.1; simp at this; omega, h.2⟩)⟩
/-- A row that a call has made. -/
theorem row_new {W W' : World} {e : TypeId} {size : Nat} {v : Value} {n : Nat} {xs : List Value} (h : W'.ownsRow W.heap.size e size v n xs) (hb : Below W.heap.size W W') : Post W (fun _ => False) (RowO e size v n xs) W' :=
  ⟨fun i => v.ownBlock = some i, ⟨row_base h (Nat.zero_le _), fun i => Iff.rfl⟩, Mod.of_below hb, fun i hi => .inr (h.lt i hi)⟩
theorem row_src {W : World} {F : Nat → Prop} {e : TypeId} {size n c : Nat} {A : Option Addr} {xs : List Value} (h : RowO e size (.slice A n c) n xs W F) (h1 : ∀ u ∈ xs, u.oneCell' = true) : Src W A n size xs := Src.of_own h.1 h1
theorem own_form {W : World} {b : Nat} {e : TypeId} {size n : Nat} {v : Value} {xs : List Value} (h : W.ownsRow b e size v n xs) : ∃ A c, v = .slice A n c := by
  rcases h.2 with ⟨rfl, rfl⟩ | ⟨g, cap, cur, rfl, _⟩
  · exact ⟨none, 0, rfl⟩
  · exact ⟨_, _, rfl⟩
end Go.CH
