/-
  Many things owned at once; rows whose elements own memory of their own.
  Escrow: what both implementations do, as plain operations on a state with the whole history of transfers; and what stays true of it.
  Escrow: what stays true of the state.
  Escrow: what an escrow is in memory; at, line, Have.
  Escrow: what the loop of Deliver adds up, in plain Lean.
  TopReplicas: the keys of the book.
  Escrow: operations as data; what stays true of a state under any of them.
-/
import Derived.Test.YtapabbpdfplpoaaMT2
import Derived.Test.YtapabbpdfplpoaaRows
import Derived.Deep.QuietTactic
import Derived.BigQuiet
import Derived.Deep.DeepCutAuto
import Derived.IntWalk
set_option linter.unusedSimpArgs false
set_option linter.unusedVariables false
namespace Go.CH
open Go.RowKit
open Go.ChangeMaps (setBlock)

/-- All of these, in blocks apart from one another. -/
def bigStar : List Own → Own
  | [] => emp
  | A :: l => star A (bigStar l)
theorem big_ok : ∀ {l : List Own}, (∀ A ∈ l, A.Ok) → (bigStar l).Ok
  | [], _ => emp_ok
  | A :: l, h => star_ok (h A (by simp)) (big_ok (fun B hB => h B (by simp [hB])))
theorem star_emp' {A : Own} {w : World} {F : Nat → Prop} (h : A w F) : star A emp w F := ⟨F, fun _ => False, h, fun _ h => h, fun _ _ h => h, fun i => by simp⟩
theorem star_assoc' {A B C : Own} {w : World} {F : Nat → Prop} (h : star A (star B C) w F) : star (star A B) C w F := by
  obtain ⟨F1, F2, h1, ⟨F3, F4, h2, h3, h4, h5⟩, h6, h7⟩ := h
  refine ⟨fun i => F1 i ∨ F3 i, F4, ⟨F1, F3, h1, h2, fun i hi hj => h6 i hi ((h5 i).2 (.inl hj)), fun i => Iff.rfl⟩, h3, fun i hi hj => ?_, fun i => ?_⟩
  · rcases hi with hi | hi
    · exact h6 i hi ((h5 i).2 (.inr hj))
    · exact h4 i hi hj
  · rw [h7, h5, or_assoc]
/-- One of them out. -/
theorem big_out : ∀ {l : List Own} {k : Nat} (hk : k < l.length) {w : World} {F : Nat → Prop}, bigStar l w F → star l[k] (bigStar (l.eraseIdx k)) w F
  | A :: l, 0, _, _, _, h => h
  | A :: l, k + 1, hk, w, F, h => by
    have h1 : star A (bigStar l) w F := h
    have h2 : star A (star (l[k]'(by simpa using hk)) (bigStar (l.eraseIdx k))) w F := star_mono h1 (fun _ h => h) (fun F h => big_out (by simpa using hk) h)
    exact star_rot h2
/-- .. and another one in its place. -/
theorem big_in : ∀ {l : List Own} {k : Nat} (hk : k < l.length) {B : Own} {w : World} {F : Nat → Prop}, star B (bigStar (l.eraseIdx k)) w F → bigStar (l.set k B) w F
  | A :: l, 0, _, _, _, _, h => h
  | A :: l, k + 1, hk, B, w, F, h => by
    have h1 : star B (star A (bigStar (l.eraseIdx k))) w F := h
    exact star_mono (star_rot h1) (fun _ h => h) (fun F h => big_in (by simpa using hk) h)
theorem big_snoc : ∀ {l : List Own} {B : Own} {w : World} {F : Nat → Prop}, star B (bigStar l) w F → bigStar (l ++ [B]) w F
  | [], B, w, F, h => h
  | A :: l, B, w, F, h => by
    have h1 : star B (star A (bigStar l)) w F := h
    exact star_mono (star_rot h1) (fun _ h => h) (fun F h => big_snoc h)

/-! ### Things by keys -/
section keys
variable {κ : Type}
def bigK (l : List κ) (f : κ → Own) : Own := bigStar (l.map f)
theorem bigK_ok {l : List κ} {f : κ → Own} (h : ∀ k, (f k).Ok) : (bigK l f).Ok := big_ok (fun A hA => by obtain ⟨k, _, rfl⟩ := List.mem_map.1 hA; exact h k)
theorem bigK_out [DecidableEq κ] : ∀ {l : List κ} {f : κ → Own} {k : κ} (hk : k ∈ l) {w : World} {F : Nat → Prop}, bigK l f w F → star (f k) (bigK (l.erase k) f) w F
  | a :: l, f, k, hk, w, F, h => by
    have h1 : star (f a) (bigK l f) w F := h
    by_cases hak : a = k
    · subst hak; simpa using h1
    · have hk' : k ∈ l := by simpa [Ne.symm hak] using hk
      rw [List.erase_cons_tail (by simpa using hak)]
      exact star_rot (star_mono h1 (fun _ h => h) (fun F h => bigK_out hk' h))
theorem bigK_congr {l : List κ} {f g : κ → Own} (h : ∀ k ∈ l, f k = g k) : bigK l f = bigK l g := by
  unfold bigK; rw [List.map_congr_left h]
theorem bigK_in0 [DecidableEq κ] : ∀ {l : List κ} {f : κ → Own} {k : κ} (hk : k ∈ l) {w : World} {F : Nat → Prop}, star (f k) (bigK (l.erase k) f) w F → bigK l f w F
  | a :: l, f, k, hk, w, F, h => by
    by_cases hak : a = k
    · subst hak; rw [List.erase_cons_head] at h; exact h
    · have hk' : k ∈ l := by simpa [Ne.symm hak] using hk
      rw [List.erase_cons_tail (by simpa using hak)] at h
      have h1 : star (f k) (star (f a) (bigK (l.erase k) f)) w F := h
      exact star_mono (star_rot h1) (fun _ h => h) (fun F h => bigK_in0 hk' h)
theorem bigK_in [DecidableEq κ] {l : List κ} (hn : l.Nodup) {f g : κ → Own} {k : κ} (hk : k ∈ l) (hfg : ∀ x, x ≠ k → f x = g x) {w : World} {F : Nat → Prop} (h : star (g k) (bigK (l.erase k) f) w F) : bigK l g w F := by
  refine bigK_in0 hk ?_
  rwa [bigK_congr (f := g) (g := f) (fun x hx => (hfg x (by rintro rfl; exact (hn.mem_erase_iff.1 hx).1 rfl)).symm)]
end keys

theorem map_erase {α β : Type} (f : α → β) : ∀ (l : List α) (k : Nat), (l.map f).eraseIdx k = (l.eraseIdx k).map f
  | [], _ => rfl
  | _ :: _, 0 => rfl
  | a :: l, k + 1 => by simp [map_erase f l k]
/-! ### Rows whose elements own memory -/
section arow
variable {ζ : Type} (cl : ζ → List Value) (ow : ζ → Own)
/-- The slice v owns the row of the elements zs: their cells lie in it, and what they own besides. -/
def ARow (e : TypeId) (size : Nat) (v : Value) (zs : List ζ) : Own := star (RowO e size v zs.length (zs.flatMap cl)) (bigStar (zs.map ow))
variable {cl ow}
theorem arow_ok {e : TypeId} {size : Nat} {v : Value} {zs : List ζ} (h : ∀ z, (ow z).Ok) : (ARow cl ow e size v zs).Ok :=
  star_ok row_ok (big_ok (fun A hA => by obtain ⟨z, _, rfl⟩ := List.mem_map.1 hA; exact h z))
theorem arow_nil (w : World) (e : TypeId) (size : Nat) : ARow cl ow e size (.slice none 0 0) [] w (fun _ => False) :=
  ⟨fun _ => False, fun _ => False, row_nil w e size, fun _ h => h, fun _ h => h.elim, fun i => by simp⟩
/-- An element has been appended to the row: it and what it owns come together. -/
theorem arow_snoc {e : TypeId} {size : Nat} {v : Value} {zs : List ζ} {z : ζ} {w : World} {F : Nat → Prop}
    (h : star (RowO e size v (zs.length + 1) (zs.flatMap cl ++ cl z)) (star (ow z) (bigStar (zs.map ow))) w F) : ARow cl ow e size v (zs ++ [z]) w F := by
  unfold ARow
  rw [List.length_append, List.flatMap_append, List.map_append]
  refine star_mono h (fun F h => ?_) (fun F h => big_snoc h)
  simpa using h
/-- What one element owns, out of the row. -/
theorem arow_out {e : TypeId} {size : Nat} {v : Value} {zs : List ζ} {k : Nat} (hk : k < zs.length) {w : World} {F : Nat → Prop} (h : ARow cl ow e size v zs w F) :
    star (ow zs[k]) (star (RowO e size v zs.length (zs.flatMap cl)) (bigStar ((zs.eraseIdx k).map ow))) w F := by
  have h1 := star_mono h (fun _ h => h) (fun F h => big_out (k := k) (by simpa using hk) h)
  have h2 := star_rot h1
  rw [List.getElem_map, map_erase] at h2
  exact h2
theorem arow_in {e : TypeId} {size : Nat} {v : Value} {zs : List ζ} {k : Nat} (hk : k < zs.length) {z : ζ} {w : World} {F : Nat → Prop}
    (h : star (ow z) (star (RowO e size v zs.length ((zs.set k z).flatMap cl)) (bigStar ((zs.eraseIdx k).map ow))) w F) : ARow cl ow e size v (zs.set k z) w F := by
  unfold ARow
  rw [List.length_set, List.map_set]
  refine star_mono (star_rot h) (fun _ h => h) (fun F h => big_in (by simpa using hk) ?_)
  rw [map_erase]; exact h
theorem arow_row {e : TypeId} {size : Nat} {v : Value} {zs : List ζ} {w : World} {F : Nat → Prop} (h : ARow cl ow e size v zs w F) : w.ownsRow 0 e size v zs.length (zs.flatMap cl) := by
  obtain ⟨F1, F2, h1, _⟩ := h; exact h1.1
end arow

/-! ### Cells of a row, written -/
theorem flat_len {α : Type} {R : α → List Value} {size : Nat} (hR : ∀ x, (R x).length = size) (l : List α) : (l.flatMap R).length = l.length * size := by
  induction l with
  | nil => simp
  | cons x l ih => rw [List.flatMap_cons, List.length_append, hR, ih, List.length_cons, Nat.succ_mul]; omega
/-- One cell of a row is written. -/
theorem row_set {w : World} {F : Nat → Prop} {e : TypeId} {size g n c : Nat} {xs : List Value} (h : RowO e size (.slice (some ⟨g, 0, none⟩) n c) n xs w F) {i : Nat} (hi : i < n * size) (v : Value) :
    Post w F (RowO e size (.slice (some ⟨g, 0, none⟩) n c) n (xs.set i v)) (w.setCell ⟨g, i, none⟩ v) := by
  obtain ⟨h1, h2⟩ := h
  have hg : F g := (h2 g).2 rfl
  refine ⟨F, ⟨⟨by rw [List.length_set]; exact h1.1, ?_⟩, h2⟩, (Mod.refl _ _).setCell v (fun _ => hg), fun i hi => .inl hi⟩
  rcases h1.2 with ⟨e1, e2⟩ | ⟨g', cap, cur, hv, h3, h4, h5, h6, h7, h8⟩
  · subst e2; omega
  · injection hv with e1 e2 e3
    injection e1 with e1; injection e1 with e1
    subst e1 e3
    refine .inr ⟨g, c, cur.setIfInBounds i v, rfl, h3, set_row_ v h4, h5, h6, by simpa using h7, ?_⟩
    rw [Array.toList_setIfInBounds, List.take_set, h8]
theorem row_cell {w : World} {F : Nat → Prop} {e : TypeId} {size g n c : Nat} {xs : List Value} (h : RowO e size (.slice (some ⟨g, 0, none⟩) n c) n xs w F) {i : Nat} {v : Value} (hv : xs[i]? = some v) : w.cell? ⟨g, i, none⟩ = some v := by
  have := h.1.cells rfl i v hv; rwa [Addr.add_zero_] at this
theorem row_free {w : World} {F : Nat → Prop} {e : TypeId} {size g n c : Nat} {xs : List Value} (h : RowO e size (.slice (some ⟨g, 0, none⟩) n c) n xs w F) (i : Nat) (hn : 0 < n) : w.frozen? ⟨g, i, none⟩ = false := by
  rcases h.1.2 with ⟨e1, e2⟩ | ⟨g', cap, cur, hv, h3, h4, _⟩
  · omega
  · injection hv with e1 e2 e3
    injection e1 with e1; injection e1 with e1
    subst e1
    simp [World.frozen?, h4]
theorem row_addr {w : World} {F : Nat → Prop} {e : TypeId} {size n c : Nat} {A : Option Addr} {xs : List Value} (h : RowO e size (.slice A n c) n xs w F) (hn : 0 < n) : ∃ g, A = some ⟨g, 0, none⟩ := by
  rcases h.1.2 with ⟨e1, e2⟩ | ⟨g', cap, cur, hv, _⟩
  · omega
  · injection hv with e1; exact ⟨g', e1⟩
theorem flat_set {α : Type} (R : α → List Value) (size : Nat) (hR : ∀ x, (R x).length = size) {l : List α} {k : Nat} (h : k < l.length) {j : Nat} (hj : j < size) {v : Value} {x : α} (hx : (R l[k]).set j v = R x) : (l.flatMap R).set (k * size + j) v = (l.set k x).flatMap R := by
  induction l generalizing k with
  | nil => simp at h
  | cons y l ih =>
    rw [List.flatMap_cons]
    cases k with
    | zero =>
      simp only [Nat.zero_mul, Nat.zero_add, List.set_cons_zero, List.flatMap_cons]
      rw [List.set_append_left _ _ (by rw [hR]; exact hj)]
      simp only [List.getElem_cons_zero] at hx
      rw [hx]
    | succ k =>
      simp only [List.set_cons_succ, List.flatMap_cons]
      rw [List.set_append_right _ _ (by rw [hR, Nat.succ_mul]; omega), hR, show (k + 1) * size + j - size = k * size + j by rw [Nat.succ_mul]; omega, ih (by simpa using h) (by simpa using hx)]

/-! ### Maps as things owned -/
section
variable {α : Type} {kv : α → Value}
def MapO (kv : α → Value) (b : Nat) (l : List (α × Value)) : Own := fun w F => MapIs kv w b l ∧ ∀ i, F i ↔ i = b
theorem map_ok {b : Nat} {l : List (α × Value)} : (MapO kv b l).Ok :=
  ⟨fun h i hi => by rw [(h.2 i).1 hi]; exact h.1.lt, fun h hk => ⟨h.1.of_block (hk b ((h.2 b).2 rfl)), h.2⟩⟩
theorem map_new (w : World) : Post w (fun _ => False) (MapO kv w.heap.size []) (w.alloc (.map #[] 0)) :=
  ⟨fun i => i = w.heap.size, ⟨MapIs.new w, fun i => Iff.rfl⟩, Mod.of_below ((Below.refl _ _).alloc (Nat.le_refl _) _), fun i hi => .inr (by subst hi; simp)⟩
end
end Go.CH
namespace Go.CH.Esc

def isum : List Int → Int
  | [] => 0
  | x :: l => x + isum l
theorem isum_append : ∀ (a b : List Int), isum (a ++ b) = isum a + isum b
  | [], b => by simp [isum]
  | x :: a, b => by simp [isum, isum_append a b]; omega
theorem isum_nonneg : ∀ {l : List Int}, (∀ x ∈ l, 0 ≤ x) → 0 ≤ isum l
  | [], _ => by simp [isum]
  | x :: l, h => by have := h x (by simp); have := isum_nonneg (l := l) (fun y hy => h y (by simp [hy])); simp [isum]; omega
theorem isum_set : ∀ (l : List Int) (k : Nat) (v : Int) (hk : k < l.length), isum (l.set k v) = isum l - l[k] + v
  | x :: l, 0, v, _ => by simp [isum]; omega
  | x :: l, k + 1, v, h => by simp [isum, isum_set l k v (by simpa using h)]; omega
theorem isum_mem_le : ∀ {l : List Int} {x : Int}, (∀ y ∈ l, 0 ≤ y) → x ∈ l → x ≤ isum l
  | y :: l, x, h, hx => by
    have h1 := isum_nonneg (l := l) (fun z hz => h z (by simp [hz]))
    rcases List.mem_cons.1 hx with rfl | hx
    · simp [isum]; omega
    · have := isum_mem_le (l := l) (fun z hz => h z (by simp [hz])) hx
      have := h y (by simp)
      simp [isum]; omega
theorem isum_upd {α : Type} [DecidableEq α] : ∀ {l : List α} (hn : l.Nodup) (f : α → Int) (k : α) (v : Int), isum (l.map fun x => if x = k then v else f x) = if k ∈ l then isum (l.map f) - f k + v else isum (l.map f)
  | [], _, f, k, v => by simp [isum]
  | a :: l, hn, f, k, v => by
    rw [List.nodup_cons] at hn
    simp only [List.map_cons, isum, isum_upd hn.2 f k v]
    by_cases h : a = k
    · subst h
      simp [hn.1]; omega
    · have h' : ¬ k = a := fun e => h e.symm
      by_cases hk : k ∈ l
      · simp [h, h', hk]; omega
      · simp [h, h', hk]

structure Acc where
  u : Int
  s : Int
  rev : Bool
instance : Inhabited Acc := ⟨⟨0, 0, false⟩⟩
structure MsgG where
  c : Nat
  up : Nat
  rc : Nat
  rev : Bool
instance : Inhabited MsgG := ⟨⟨0, 0, 0, false⟩⟩
structure PrG where
  H : List Int
  rc : Nat
  conf : Nat
  ms : List MsgG
structure GM where
  acc : List Acc
  pr : Int × Int → PrG
def p0 : PrG := ⟨[], 0, 0, []⟩

def GM.is (g : GM) (r : Int) : Bool := decide (0 ≤ r) && decide (r < g.acc.length)
def GM.pair (g : GM) (f t : Int) : Bool := g.is f && g.is t && !(f == t)
def GM.at_ (g : GM) (r : Int) : Acc := g.acc.getD r.toNat default
def GM.setA (g : GM) (r : Int) (a : Acc) : GM := { g with acc := g.acc.set r.toNat a }
def GM.setP (g : GM) (k : Int × Int) (p : PrG) : GM := { g with pr := fun x => if x = k then p else g.pr x }

def newG (n : Nat) (u : Int) : GM := ⟨⟨u, 0, false⟩ :: List.replicate (n - 1) ⟨0, 0, false⟩, fun _ => p0⟩
def have_ (g : GM) (r : Int) : Int := if g.is r then (g.at_ r).u else 0
def spendE (g : GM) (r k : Int) : Int := if k < 1 ∨ g.is r = false then 1 else if (g.at_ r).rev then 22 else if (g.at_ r).u < k then 19 else 0
def spendM (g : GM) (r k : Int) : GM := if spendE g r k = 0 then g.setA r { g.at_ r with u := (g.at_ r).u - k, s := (g.at_ r).s + k } else g
def retE (g : GM) (r k : Int) : Int := if k < 1 ∨ g.is r = false then 1 else if (g.at_ r).s < k then 19 else 0
def retM (g : GM) (r k : Int) : GM := if retE g r k = 0 then g.setA r { g.at_ r with u := (g.at_ r).u + k, s := (g.at_ r).s - k } else g
def giveE (g : GM) (f t k : Int) : Int := if g.pair f t = false ∨ k < 1 then 1 else if (g.at_ f).u < k then 19 else if 100 ≤ (g.pr (f, t)).H.length - (g.pr (f, t)).conf then 28 else 0
def giveM (g : GM) (f t k : Int) : GM :=
  if giveE g f t k = 0 then (g.setA f { g.at_ f with u := (g.at_ f).u - k }).setP (f, t) { g.pr (f, t) with H := (g.pr (f, t)).H ++ [k] } else g
def sendE (g : GM) (f t : Int) : Int := if g.pair f t = false then 1 else if 100 ≤ (g.pr (f, t)).ms.length then 28 else 0
def sendM (g : GM) (f t : Int) : GM :=
  if sendE g f t = 0 then g.setP (f, t) { g.pr (f, t) with ms := (g.pr (f, t)).ms ++ [⟨(g.pr (f, t)).conf, (g.pr (f, t)).H.length, (g.pr (t, f)).rc, (g.at_ f).rev⟩] } else g
def delE (g : GM) (f t : Int) : Bool := g.pair f t && !(g.pr (f, t)).ms.isEmpty
/-- The message is taken out; if again, it is put at the end. -/
def popM (g : GM) (f t : Int) (again : Bool) : GM :=
  g.setP (f, t) { g.pr (f, t) with ms := (g.pr (f, t)).ms.tail ++ if again then [(g.pr (f, t)).ms.headD default] else [] }
/-- The message m from f is received by t. -/
def recvM (g : GM) (f t : Int) (m : MsgG) : GM :=
  let p := g.pr (f, t)
  let g1 := g.setP (f, t) { p with rc := max p.rc m.up }
  let g2 := g1.setP (t, f) { g1.pr (t, f) with conf := max (g1.pr (t, f)).conf m.rc }
  g2.setA t { g.at_ t with u := (g.at_ t).u + isum ((p.H.take m.up).drop p.rc), rev := (g.at_ t).rev || m.rev }
def delM (g : GM) (f t : Int) (lost again : Bool) : GM :=
  if delE g f t then
    let g1 := popM g f t again
    if lost then g1 else recvM g1 f t ((g.pr (f, t)).ms.headD default)
  else g
def revE (g : GM) (r : Int) : Int := if g.is r then 0 else 1
def revM (g : GM) (r : Int) : GM := if g.is r then g.setA r { g.at_ r with rev := true } else g
def keys (n : Nat) : List (Int × Int) := (List.range n).flatMap fun f : Nat => ((List.range n).filter fun t : Nat => decide (f ≠ t)).map (fun t : Nat => ((f : Int), (t : Int)))
def fly (p : PrG) : Int := isum (p.H.drop p.rc)
def spentG (g : GM) : Int := isum (g.acc.map Acc.s)
def flyG (g : GM) : Int := isum ((keys g.acc.length).map fun k => fly (g.pr k))
def haveG (g : GM) : Int := isum (g.acc.map Acc.u)

theorem mem_keys {n : Nat} {k : Int × Int} : k ∈ keys n ↔ 0 ≤ k.1 ∧ k.1 < n ∧ 0 ≤ k.2 ∧ k.2 < n ∧ k.1 ≠ k.2 := by
  obtain ⟨f, t⟩ := k
  simp only [keys, List.mem_flatMap, List.mem_range, List.mem_map, List.mem_filter, Prod.mk.injEq, decide_eq_true_eq]
  constructor
  · rintro ⟨a, ha, b, ⟨hb, hne⟩, rfl, rfl⟩
    refine ⟨by omega, by omega, by omega, by omega, by omega⟩
  · rintro ⟨h1, h2, h3, h4, h5⟩
    exact ⟨f.toNat, by omega, t.toNat, ⟨by omega, by omega⟩, by omega, by omega⟩
theorem nodup_keys (n : Nat) : (keys n).Nodup := by
  unfold keys List.Nodup
  rw [List.pairwise_flatMap]
  refine ⟨fun a _ => ?_, ?_⟩
  · rw [List.pairwise_map]
    refine List.Pairwise.imp (fun {x y} h e => ?_) (List.Pairwise.filter _ (List.nodup_range (n := n)))
    injection e with _ e; exact h (by omega)
  · refine List.Pairwise.imp (fun {a b} hab x hx y hy e => ?_) (List.nodup_range (n := n))
    obtain ⟨t, _, rfl⟩ := List.mem_map.1 hx
    obtain ⟨t', _, rfl⟩ := List.mem_map.1 hy
    injection e with e _
    exact hab (by omega)
theorem pair_mem {g : GM} {f t : Int} : g.pair f t = true ↔ (f, t) ∈ keys g.acc.length := by
  rw [mem_keys]
  simp [GM.pair, GM.is]
  constructor
  · rintro ⟨⟨⟨h1, h2⟩, h3, h4⟩, h5⟩; exact ⟨h1, h2, h3, h4, h5⟩
  · rintro ⟨h1, h2, h3, h4, h5⟩; exact ⟨⟨⟨h1, h2⟩, h3, h4⟩, h5⟩
end Go.CH.Esc
namespace Go.CH.Esc

/-- What is true of what goes from one replica to another one; b is what goes back. -/
structure PrOk (p b : PrG) : Prop where
  pos : ∀ h ∈ p.H, 1 ≤ h
  cr : p.conf ≤ p.rc
  rl : p.rc ≤ p.H.length
  few : p.H.length ≤ p.conf + 100
  msl : p.ms.length ≤ 100
  msg : ∀ m ∈ p.ms, m.c ≤ p.rc ∧ m.c ≤ m.up ∧ m.up ≤ p.H.length ∧ m.up ≤ m.c + 100 ∧ m.rc ≤ b.rc
structure Inv (g : GM) (U : Int) : Prop where
  nb : 1 ≤ g.acc.length ∧ g.acc.length ≤ 8
  acc : ∀ a ∈ g.acc, 0 ≤ a.u ∧ 0 ≤ a.s
  pr : ∀ f t, g.pair f t = true → PrOk (g.pr (f, t)) (g.pr (t, f))
  tot : haveG g + spentG g + flyG g = U
  U : 0 ≤ U ∧ U ≤ 1000000000

theorem pair_swap {g : GM} {f t : Int} (h : g.pair f t = true) : g.pair t f = true := by
  rw [pair_mem, mem_keys] at *
  exact ⟨h.2.2.1, h.2.2.2.1, h.1, h.2.1, h.2.2.2.2.symm⟩
theorem pair_is {g : GM} {f t : Int} (h : g.pair f t = true) : g.is f = true ∧ g.is t = true ∧ f ≠ t := by
  simp [GM.pair] at h; exact ⟨h.1.1, h.1.2, h.2⟩
theorem is_lt {g : GM} {r : Int} (h : g.is r = true) : 0 ≤ r ∧ r.toNat < g.acc.length := by
  simp [GM.is] at h; omega
theorem at_get {g : GM} {r : Int} (h : g.is r = true) : g.at_ r = g.acc[r.toNat]'(is_lt h).2 := by
  unfold GM.at_; rw [List.getD_eq_getElem?_getD, List.getElem?_eq_getElem (is_lt h).2]; rfl
theorem at_mem {g : GM} {r : Int} (h : g.is r = true) : g.at_ r ∈ g.acc := by rw [at_get h]; exact List.getElem_mem _
theorem setA_len (g : GM) (r : Int) (a : Acc) : (g.setA r a).acc.length = g.acc.length := by simp [GM.setA]
theorem setA_is (g : GM) (r : Int) (a : Acc) (x : Int) : (g.setA r a).is x = g.is x := by simp [GM.is, setA_len]
theorem setA_pair (g : GM) (r : Int) (a : Acc) (x y : Int) : (g.setA r a).pair x y = g.pair x y := by simp [GM.pair, setA_is]
theorem setP_is (g : GM) (k : Int × Int) (p : PrG) (x : Int) : (g.setP k p).is x = g.is x := rfl
theorem setP_pair (g : GM) (k : Int × Int) (p : PrG) (x y : Int) : (g.setP k p).pair x y = g.pair x y := rfl
theorem setP_at (g : GM) (k : Int × Int) (p : PrG) (x : Int) : (g.setP k p).at_ x = g.at_ x := rfl
theorem setA_pr (g : GM) (r : Int) (a : Acc) : (g.setA r a).pr = g.pr := rfl
theorem setA_at {g : GM} {r : Int} (h : g.is r = true) (a : Acc) (x : Int) (hx : g.is x = true) : (g.setA r a).at_ x = if x = r then a else g.at_ x := by
  have h1 := is_lt h
  have h2 := is_lt hx
  unfold GM.at_ GM.setA
  simp only [List.getD_eq_getElem?_getD, List.getElem?_set]
  by_cases hxr : x = r
  · subst hxr; simp [h1.2]
  · have : ¬ r.toNat = x.toNat := by omega
    simp [hxr, this]
theorem have_setA {g : GM} {r : Int} (h : g.is r = true) (a : Acc) : haveG (g.setA r a) = haveG g - (g.at_ r).u + a.u := by
  unfold haveG GM.setA
  rw [List.map_set, isum_set _ _ _ (by simpa using (is_lt h).2), at_get h]; simp
theorem spent_setA {g : GM} {r : Int} (h : g.is r = true) (a : Acc) : spentG (g.setA r a) = spentG g - (g.at_ r).s + a.s := by
  unfold spentG GM.setA
  rw [List.map_set, isum_set _ _ _ (by simpa using (is_lt h).2), at_get h]; simp
theorem fly_setA (g : GM) (r : Int) (a : Acc) : flyG (g.setA r a) = flyG g := by unfold flyG; rw [setA_len]; rfl
theorem fly_setP {g : GM} {f t : Int} (h : g.pair f t = true) (p : PrG) : flyG (g.setP (f, t) p) = flyG g - fly (g.pr (f, t)) + fly p := by
  have h1 : (keys g.acc.length).map (fun k => fly ((g.setP (f, t) p).pr k)) = (keys g.acc.length).map (fun k => if k = (f, t) then fly p else fly (g.pr k)) := by
    refine List.map_congr_left fun k _ => ?_
    simp only [GM.setP]; split <;> rfl
  unfold flyG
  rw [show (g.setP (f, t) p).acc = g.acc from rfl, h1, isum_upd (nodup_keys _) (fun k => fly (g.pr k)), if_pos (pair_mem.1 h)]
theorem fly_nonneg {p b : PrG} (h : PrOk p b) : 0 ≤ fly p := isum_nonneg (fun x hx => by have := h.pos x (List.mem_of_mem_drop hx); omega)

/-- An account is written. -/
theorem Inv.setA {g : GM} {U : Int} (h : Inv g U) {r : Int} (hr : g.is r = true) (a : Acc) (h0 : 0 ≤ a.u ∧ 0 ≤ a.s) (he : a.u + a.s = (g.at_ r).u + (g.at_ r).s) : Inv (g.setA r a) U := by
  refine ⟨by rw [setA_len]; exact h.nb, fun x hx => ?_, fun f t hp => by rw [setA_pair] at hp; exact h.pr f t hp, ?_, h.U⟩
  · rcases List.mem_or_eq_of_mem_set hx with hx | rfl
    · exact h.acc x hx
    · exact h0
  · rw [have_setA hr, spent_setA hr, fly_setA]
    have := h.tot; omega
theorem Inv.at_ {g : GM} {U : Int} (h : Inv g U) {r : Int} (hr : g.is r = true) : 0 ≤ (g.at_ r).u ∧ 0 ≤ (g.at_ r).s := h.acc _ (at_mem hr)
theorem Inv.spend {g : GM} {U : Int} (h : Inv g U) (r k : Int) : Inv (spendM g r k) U := by
  unfold spendM
  split
  · rename_i h0
    unfold spendE at h0
    split at h0
    · cases h0
    · rename_i h1
      split at h0
      · cases h0
      · split at h0
        · cases h0
        · rename_i h2
          have hr : g.is r = true := by cases hq : g.is r with | true => rfl | false => exact (h1 (.inr hq)).elim
          have := h.at_ hr
          have hk : ¬ k < 1 := fun e => h1 (.inl e)
          exact h.setA hr _ ⟨by simp; omega, by simp; omega⟩ (by simp; omega)
  · exact h
theorem Inv.ret {g : GM} {U : Int} (h : Inv g U) (r k : Int) : Inv (retM g r k) U := by
  unfold retM
  split
  · rename_i h0
    unfold retE at h0
    split at h0
    · cases h0
    · rename_i h1
      split at h0
      · cases h0
      · rename_i h2
        have hr : g.is r = true := by cases hq : g.is r with | true => rfl | false => exact (h1 (.inr hq)).elim
        have := h.at_ hr
        have hk : ¬ k < 1 := fun e => h1 (.inl e)
        exact h.setA hr _ ⟨by simp; omega, by simp; omega⟩ (by simp; omega)
  · exact h
theorem Inv.revoke {g : GM} {U : Int} (h : Inv g U) (r : Int) : Inv (revM g r) U := by
  unfold revM
  split
  · rename_i hr
    exact h.setA hr _ (h.at_ hr) rfl
  · exact h
/-- What goes from f to t is written: nothing that is received is lost. -/
theorem Inv.setP {g : GM} {U : Int} (h : Inv g U) {f t : Int} (hp : g.pair f t = true) (p : PrG) (hok : PrOk p (g.pr (t, f))) (hr : (g.pr (f, t)).rc ≤ p.rc) (hf : fly p = fly (g.pr (f, t))) : Inv (g.setP (f, t) p) U := by
  have hne := (pair_is hp).2.2
  refine ⟨h.nb, h.acc, fun a b hab => ?_, ?_, h.U⟩
  · rw [setP_pair] at hab
    simp only [GM.setP, Prod.mk.injEq]
    have hb := h.pr a b hab
    by_cases h1 : a = f ∧ b = t
    · obtain ⟨rfl, rfl⟩ := h1
      have : ¬ (b = a ∧ a = b) := fun e => hne e.2
      simp only [and_self, if_true, this, if_false]; exact hok
    · simp only [h1, if_false]
      by_cases h2 : b = f ∧ a = t
      · obtain ⟨rfl, rfl⟩ := h2
        simp only [and_self, if_true]
        exact ⟨hb.pos, hb.cr, hb.rl, hb.few, hb.msl, fun m hm => by have := hb.msg m hm; omega⟩
      · simp only [h2, if_false]; exact hb
  · have := h.tot
    rw [fly_setP hp, hf]
    show haveG g + spentG g + _ = U
    omega
theorem Inv.send {g : GM} {U : Int} (h : Inv g U) (f t : Int) : Inv (sendM g f t) U := by
  unfold sendM
  split
  · rename_i h0
    unfold sendE at h0
    split at h0
    · cases h0
    · rename_i h1
      split at h0
      · cases h0
      · rename_i h2
        have hp : g.pair f t = true := by simpa using h1
        have hk := h.pr f t hp
        refine h.setP hp _ ⟨hk.pos, hk.cr, hk.rl, hk.few, by simp; omega, fun m hm => ?_⟩ (Nat.le_refl _) rfl
        simp only [List.mem_append, List.mem_singleton] at hm
        rcases hm with hm | rfl
        · exact hk.msg m hm
        · have := hk.cr; have := hk.rl; have := hk.few
          simp; omega
  · exact h
theorem fly_snoc (p : PrG) (k : Int) (h : p.rc ≤ p.H.length) : fly { p with H := p.H ++ [k] } = fly p + k := by
  unfold fly
  simp only []
  rw [List.drop_append_of_le_length h, isum_append]; simp [isum]
theorem Inv.give {g : GM} {U : Int} (h : Inv g U) (f t k : Int) : Inv (giveM g f t k) U := by
  unfold giveM
  split
  · rename_i h0
    unfold giveE at h0
    split at h0
    · cases h0
    · rename_i h1
      split at h0
      · cases h0
      · rename_i h2
        split at h0
        · cases h0
        · rename_i h3
          have hp : g.pair f t = true := by cases hq : g.pair f t with | true => rfl | false => exact (h1 (.inl hq)).elim
          have hk1 : ¬ k < 1 := fun e => h1 (.inr e)
          have hk := h.pr f t hp
          obtain ⟨hf, ht, hne⟩ := pair_is hp
          have ha := h.at_ hf
          refine ⟨by have := h.nb; simp only [GM.setP, GM.setA, List.length_set]; exact this, fun x hx => ?_, fun a b hab => ?_, ?_, h.U⟩
          · rcases List.mem_or_eq_of_mem_set hx with hx | rfl
            · exact h.acc x hx
            · exact ⟨by simp; omega, ha.2⟩
          · rw [setP_pair, setA_pair] at hab
            simp only [GM.setP, Prod.mk.injEq, setA_pr]
            have hb := h.pr a b hab
            by_cases h4 : a = f ∧ b = t
            · obtain ⟨rfl, rfl⟩ := h4
              have h5 : ¬ (b = a ∧ a = b) := fun e => hne e.2
              simp only [and_self, if_true, h5, if_false]
              refine ⟨fun x hx => ?_, hk.cr, by simp; have := hk.rl; omega, by simp; have := hk.cr; omega, hk.msl, fun m hm => by have := hk.msg m hm; simp; omega⟩
              simp only [List.mem_append, List.mem_singleton] at hx
              rcases hx with hx | rfl
              · exact hk.pos x hx
              · omega
            · simp only [h4, if_false]
              by_cases h5 : b = f ∧ a = t
              · obtain ⟨rfl, rfl⟩ := h5
                simp only [and_self, if_true]
                exact ⟨hb.pos, hb.cr, hb.rl, hb.few, hb.msl, hb.msg⟩
              · simp only [h5, if_false]; exact hb
          · have hp' : (g.setA f { g.at_ f with u := (g.at_ f).u - k }).pair f t = true := by rw [setA_pair]; exact hp
            rw [fly_setP hp', fly_setA]
            show haveG (g.setA f _) + spentG (g.setA f _) + _ = U
            rw [have_setA hf, spent_setA hf]
            show haveG g - _ + _ + (spentG g - _ + _) + (flyG g - fly (g.pr (f, t)) + fly { g.pr (f, t) with H := (g.pr (f, t)).H ++ [k] }) = U
            rw [fly_snoc _ _ hk.rl]
            have := h.tot
            simp only []; omega
  · exact h
theorem fly_split (H : List Int) (r u : Nat) : isum (H.drop r) = isum ((H.take u).drop r) + isum (H.drop (max r u)) := by
  by_cases h : r ≤ u
  · rw [Nat.max_eq_right h]
    have h1 : H.drop r = (H.take u).drop r ++ H.drop u := by
      conv => lhs; rw [← List.take_append_drop u H]
      rw [List.drop_append]
      by_cases h2 : u ≤ H.length
      · rw [List.length_take, Nat.min_eq_left h2, Nat.sub_eq_zero_of_le h]; simp
      · rw [List.drop_of_length_le (by omega : H.length ≤ u)]; simp
    rw [h1, isum_append]
  · have h1 : (H.take u).drop r = [] := List.drop_of_length_le (by rw [List.length_take]; omega)
    rw [Nat.max_eq_left (by omega), h1]; simp [isum]
theorem delE_pair {g : GM} {f t : Int} (h : delE g f t = true) : g.pair f t = true ∧ ∃ m l, (g.pr (f, t)).ms = m :: l := by
  simp only [delE, Bool.and_eq_true, Bool.not_eq_true'] at h
  refine ⟨h.1, ?_⟩
  cases hm : (g.pr (f, t)).ms with
  | nil => rw [hm] at h; simp at h
  | cons m l => exact ⟨m, l, rfl⟩
theorem Inv.pop {g : GM} {U : Int} (h : Inv g U) {f t : Int} (hd : delE g f t = true) (again : Bool) : Inv (popM g f t again) U := by
  obtain ⟨hp, m, l, hm⟩ := delE_pair hd
  have hk := h.pr f t hp
  unfold popM
  refine h.setP hp _ ⟨hk.pos, hk.cr, hk.rl, hk.few, ?_, fun x hx => hk.msg x ?_⟩ (Nat.le_refl _) rfl
  · have := hk.msl
    rw [hm] at this ⊢
    cases again <;> simp at this ⊢ <;> omega
  · rw [hm] at hx ⊢
    cases again <;> simp at hx ⊢
    · exact .inr hx
    · rcases hx with hx | hx
      · exact .inr hx
      · exact .inl hx
/-- What is true of a message on its way. -/
def MsgOk (g : GM) (f t : Int) (m : MsgG) : Prop := m.c ≤ (g.pr (f, t)).rc ∧ m.c ≤ m.up ∧ m.up ≤ (g.pr (f, t)).H.length ∧ m.up ≤ m.c + 100 ∧ m.rc ≤ (g.pr (t, f)).rc
theorem Inv.recv {g : GM} {U : Int} (h : Inv g U) {f t : Int} (hp : g.pair f t = true) {m : MsgG} (hm : MsgOk g f t m) : Inv (recvM g f t m) U := by
  obtain ⟨hf, ht, hne⟩ := pair_is hp
  have hk := h.pr f t hp
  have hb := h.pr t f (pair_swap hp)
  have hat := h.at_ ht
  obtain ⟨m1, m2, m3, m4, m5⟩ := hm
  have hadd : 0 ≤ isum (((g.pr (f, t)).H.take m.up).drop (g.pr (f, t)).rc) := isum_nonneg (fun x hx => by have := hk.pos x (List.mem_of_mem_take (List.mem_of_mem_drop hx)); omega)
  have hfly : fly (g.pr (f, t)) = isum (((g.pr (f, t)).H.take m.up).drop (g.pr (f, t)).rc) + isum ((g.pr (f, t)).H.drop (max (g.pr (f, t)).rc m.up)) := fly_split _ _ _
  have hk' : (t, f) ≠ (f, t) := fun e => by rw [Prod.mk.injEq] at e; exact hne e.2
  have hg1 : (g.setP (f, t) { g.pr (f, t) with rc := max (g.pr (f, t)).rc m.up }).pr (t, f) = g.pr (t, f) := by simp only [GM.setP, hk', if_false]
  have hpr : ∀ a b, (recvM g f t m).pr (a, b) = if (a, b) = (t, f) then { g.pr (t, f) with conf := max (g.pr (t, f)).conf m.rc } else if (a, b) = (f, t) then { g.pr (f, t) with rc := max (g.pr (f, t)).rc m.up } else g.pr (a, b) := fun a b => by
    unfold recvM
    simp only [setA_pr, hg1]
    simp only [GM.setP]
  refine ⟨by have := h.nb; unfold recvM; simp only [GM.setP, GM.setA, List.length_set]; exact this, fun x hx => ?_, fun a b hab => ?_, ?_, h.U⟩
  · unfold recvM at hx
    rcases List.mem_or_eq_of_mem_set hx with hx | rfl
    · exact h.acc x hx
    · exact ⟨by simp only []; omega, hat.2⟩
  · have hab' : g.pair a b = true := by
      have : (recvM g f t m).pair a b = g.pair a b := by unfold recvM; simp only [setA_pair, setP_pair]
      rw [← this]; exact hab
    have hb' := h.pr a b hab'
    rw [hpr a b, hpr b a]
    by_cases e1 : (a, b) = (t, f)
    · rw [Prod.mk.injEq] at e1
      obtain ⟨rfl, rfl⟩ := e1
      rw [if_pos rfl, if_neg (fun e => hk' e.symm), if_pos rfl]
      exact ⟨hb.pos, by simp only []; have := hb.cr; omega, hb.rl, by simp only []; have := hb.few; omega, hb.msl, fun x hx => by have := hb.msg x hx; simp only []; omega⟩
    · rw [if_neg e1]
      by_cases e2 : (a, b) = (f, t)
      · rw [Prod.mk.injEq] at e2
        obtain ⟨rfl, rfl⟩ := e2
        rw [if_pos rfl, if_pos rfl]
        exact ⟨hk.pos, by simp only []; have := hk.cr; omega, by simp only []; have := hk.rl; omega, hk.few, hk.msl, fun x hx => by have := hk.msg x hx; simp only []; omega⟩
      · rw [if_neg e2]
        have e3 : ¬ (b, a) = (t, f) := fun e => e2 (by rw [Prod.mk.injEq] at e ⊢; exact ⟨e.2, e.1⟩)
        have e4 : ¬ (b, a) = (f, t) := fun e => e1 (by rw [Prod.mk.injEq] at e ⊢; exact ⟨e.2, e.1⟩)
        rw [if_neg e3, if_neg e4]; exact hb'
  · unfold recvM
    simp only []
    have ht2 : ((g.setP (f, t) { g.pr (f, t) with rc := max (g.pr (f, t)).rc m.up }).setP (t, f) { (g.setP (f, t) { g.pr (f, t) with rc := max (g.pr (f, t)).rc m.up }).pr (t, f) with conf := max ((g.setP (f, t) { g.pr (f, t) with rc := max (g.pr (f, t)).rc m.up }).pr (t, f)).conf m.rc }).is t = true := ht
    rw [have_setA ht2, spent_setA ht2, fly_setA, fly_setP (by rw [setP_pair]; exact pair_swap hp), fly_setP hp, hg1]
    have e1 : fly { g.pr (t, f) with conf := max (g.pr (t, f)).conf m.rc } = fly (g.pr (t, f)) := rfl
    have e2 : fly { g.pr (f, t) with rc := max (g.pr (f, t)).rc m.up } = isum ((g.pr (f, t)).H.drop (max (g.pr (f, t)).rc m.up)) := rfl
    rw [e1, e2]
    simp only [setP_at]
    have h3 : ∀ (k1 k2 : Int × Int) (q1 q2 : PrG), haveG ((g.setP k1 q1).setP k2 q2) = haveG g ∧ spentG ((g.setP k1 q1).setP k2 q2) = spentG g := fun _ _ _ _ => ⟨rfl, rfl⟩
    rw [(h3 _ _ _ _).1, (h3 _ _ _ _).2]
    have := h.tot
    omega
theorem pop_pr (g : GM) (f t : Int) (again : Bool) (a b : Int) : ((popM g f t again).pr (a, b)).rc = (g.pr (a, b)).rc ∧ ((popM g f t again).pr (a, b)).H = (g.pr (a, b)).H ∧ ((popM g f t again).pr (a, b)).conf = (g.pr (a, b)).conf := by
  unfold popM GM.setP
  simp only []
  split
  · rename_i e; rw [e]; exact ⟨rfl, rfl, rfl⟩
  · exact ⟨rfl, rfl, rfl⟩
theorem Inv.del {g : GM} {U : Int} (h : Inv g U) (f t : Int) (lost again : Bool) : Inv (delM g f t lost again) U := by
  unfold delM
  split
  · rename_i hd
    obtain ⟨hp, m, l, hm⟩ := delE_pair hd
    have h1 := h.pop hd again
    simp only []
    split
    · exact h1
    · refine h1.recv (by unfold popM; rw [setP_pair]; exact hp) ?_
      have := (h.pr f t hp).msg m (by rw [hm]; simp)
      rw [hm]
      unfold MsgOk
      rw [(pop_pr g f t again f t).1, (pop_pr g f t again f t).2.1, (pop_pr g f t again t f).1]
      exact this
  · exact h
theorem Inv.new {n : Nat} {u : Int} (h1 : 1 ≤ n) (h2 : n ≤ 8) (h3 : 0 ≤ u) (h4 : u ≤ 1000000000) : Inv (newG n u) u := by
  refine ⟨by simp [newG]; omega, fun a ha => ?_, fun f t _ => ?_, ?_, h3, h4⟩
  · simp only [newG, List.mem_cons, List.mem_replicate] at ha
    rcases ha with rfl | ⟨_, rfl⟩
    · exact ⟨h3, by simp⟩
    · exact ⟨by simp, by simp⟩
  · simp only [newG, p0]
    exact ⟨by simp, by simp, by simp, by simp, by simp, by simp⟩
  · have e1 : ∀ k, isum ((List.replicate k (⟨0, 0, false⟩ : Acc)).map Acc.u) = 0 ∧ isum ((List.replicate k (⟨0, 0, false⟩ : Acc)).map Acc.s) = 0 := fun k => by
      induction k with
      | zero => simp [isum]
      | succ k ih => simp only [List.replicate_succ, List.map_cons, isum, ih.1, ih.2]; simp
    have e2 : ∀ l : List (Int × Int), isum (l.map fun k => fly ((newG n u).pr k)) = 0 := fun l => by
      induction l with
      | nil => simp [isum]
      | cons a l ih => simp only [List.map_cons, isum, ih]; simp [newG, p0, fly, isum]
    unfold haveG spentG flyG
    rw [e2]
    simp only [newG, List.map_cons, isum, (e1 _).1, (e1 _).2]; omega
end Go.CH.Esc
namespace Go.Proofs.Ytapabbpdfplpoaa
open Go.RowKit Go.CH Go.CH.Esc
open Go.ChangeMaps (setBlock)

/-- The answer v; nothing that was there has turned. -/
def BelowRet (w : World) (v : Value) (e : Ending) (w' : World) : Prop := e = .returned v ∧ Below w.heap.size w w'
def Quiet (w : World) (v : Value) (e : Ending) (w' : World) : Prop := e = .returned v ∧ w = w'
def ints (l : List Int) : List Value := l.map (Value.int .i64)
theorem ints_one (l : List Int) : ∀ u ∈ ints l, u.oneCell' = true := by
  intro u hu
  obtain ⟨s, _, rfl⟩ := List.mem_map.1 hu
  rfl
def accL (a : Acc) : List Value := [.int .i64 a.u, .int .i64 a.s, .bool a.rev]
theorem accL_len (a : Acc) : (accL a).length = 3 := rfl
/-- A message as it lies in the row of a queue. -/
structure ZMsg where
  m : MsgG
  ts : List Int
  A : Option Addr
  c : Nat
def zcl (z : ZMsg) : List Value := [.slice z.A z.ts.length z.c, .int .i64 z.m.up, .int .i64 z.m.rc, .bool z.m.rev]
def zow (z : ZMsg) : Own := RowO 3 1 (.slice z.A z.ts.length z.c) z.ts.length (ints z.ts)
theorem zow_ok (z : ZMsg) : (zow z).Ok := row_ok
theorem zcl_len (z : ZMsg) : (zcl z).length = 4 := rfl
def msgT (H : List Int) (m : MsgG) : List Int := (H.take m.up).drop m.c
/-- The parts of a line. -/
structure LinS where
  A : Option Addr
  c : Nat
  B : Option Addr
  d : Nat
  zs : List ZMsg
def LineS (p : PrG) (g : Nat) (s : LinS) : Own :=
  star (CellO g #[.slice s.A (p.H.drop p.conf).length s.c, .int .i64 p.H.length, .int .i64 p.rc, .slice s.B s.zs.length s.d] 109)
    (star (RowO 3 1 (.slice s.A (p.H.drop p.conf).length s.c) (p.H.drop p.conf).length (ints (p.H.drop p.conf))) (ARow zcl zow 124 4 (.slice s.B s.zs.length s.d) s.zs))
def LineZ (p : PrG) (s : LinS) : Prop := s.zs.map ZMsg.m = p.ms ∧ ∀ z ∈ s.zs, z.ts = msgT p.H z.m
def LineO (p : PrG) (g : Nat) : Own := fun w F => ∃ s, LineZ p s ∧ LineS p g s w F
theorem lineS_ok {p : PrG} {g : Nat} {s : LinS} : (LineS p g s).Ok := star_ok cell_ok (star_ok row_ok (arow_ok zow_ok))
theorem lineO_ok {p : PrG} {g : Nat} : (LineO p g).Ok := ⟨fun ⟨s, _, h⟩ => lineS_ok.lt h, fun ⟨s, hz, h⟩ hk => ⟨s, hz, lineS_ok.keep h hk⟩⟩
/-- The parts of an escrow. -/
structure EscP where
  A : Option Addr
  c : Nat
  bm : Nat
  gp : Int × Int → Nat
def ents (n : Nat) (gp : Int × Int → Nat) : List ((Int × Int) × Value) := (keys n).map fun k => (k, .pointer (some ⟨gp k, 0, none⟩))
def EscS (g : GM) (p : Nat) (s : EscP) : Own :=
  star (CellO p #[.slice s.A g.acc.length s.c, .map (some s.bm)] 101) (star (RowO 103 3 (.slice s.A g.acc.length s.c) g.acc.length (g.acc.flatMap accL))
    (star (MapO (pairV .i64) s.bm (ents g.acc.length s.gp)) (bigK (keys g.acc.length) fun k => LineO (g.pr k) (s.gp k))))
def EscO (g : GM) (p : Nat) : Own := fun w F => ∃ s, EscS g p s w F
theorem escS_ok {g : GM} {p : Nat} {s : EscP} : (EscS g p s).Ok := star_ok cell_ok (star_ok row_ok (star_ok map_ok (bigK_ok (fun _ => lineO_ok))))
theorem escO_ok {g : GM} {p : Nat} : (EscO g p).Ok := ⟨fun ⟨s, h⟩ => escS_ok.lt h, fun ⟨s, h⟩ hk => ⟨s, escS_ok.keep h hk⟩⟩

theorem mget_map {α : Type} [DecidableEq α] (v : α → Value) (k : α) : ∀ (l : List α), mget (l.map fun x => (x, v x)) k = if k ∈ l then some (v k) else none
  | [] => rfl
  | a :: l => by
    rw [List.map_cons, mget_cons, mget_map v k l]
    by_cases h : k = a
    · subst h; simp
    · simp [h]
theorem keyOk : KeyOk Try.prog 110 (pairV .i64) := keyOk_pair Try.underlying110 Try.underlying3 (by kernel_rfl)
theorem zeroP : ∀ w, (zeroValue 104).run Try.prog w = .ok (.pointer none) w := fun w => by kernel_rfl
/-- What is read of an escrow. -/
structure EscR (w : World) (g : GM) (p : Nat) (s : EscP) : Prop where
  c0 : w.cell? ⟨p, 0, none⟩ = some (.slice s.A g.acc.length s.c)
  c1 : w.cell? ⟨p, 1, none⟩ = some (.map (some s.bm))
  look : ∀ f t, (Instr.lookup 99 (.map (some s.bm)) (.agg #[.int .i64 f, .int .i64 t]) false).run Try.prog w = .ok (if g.pair f t = true then .pointer (some ⟨s.gp (f, t), 0, none⟩) else .pointer none) w
  addr : 0 < g.acc.length → ∃ b, s.A = some ⟨b, 0, none⟩
  accs : ∀ b, s.A = some ⟨b, 0, none⟩ → ∀ r, g.is r = true → w.cell? ⟨b, r.toNat * 3, none⟩ = some (.int .i64 (g.at_ r).u) ∧ w.cell? ⟨b, r.toNat * 3 + 1, none⟩ = some (.int .i64 (g.at_ r).s) ∧ w.cell? ⟨b, r.toNat * 3 + 2, none⟩ = some (.bool (g.at_ r).rev)
theorem flat_get {α : Type} (R : α → List Value) (size : Nat) (hR : ∀ x, (R x).length = size) {l : List α} {k : Nat} (h : k < l.length) (j : Nat) (hj : j < size) : (l.flatMap R)[k * size + j]? = (R l[k])[j]? := by
  induction l generalizing k with
  | nil => simp at h
  | cons x l ih =>
    rw [List.flatMap_cons]
    cases k with
    | zero => rw [List.getElem?_append_left (by rw [hR]; omega)]; simp
    | succ k =>
      rw [List.getElem?_append_right (by rw [hR, Nat.succ_mul]; omega), hR, show (k + 1) * size + j - size = k * size + j by rw [Nat.succ_mul]; omega, ih (by simpa using h)]
      simp
theorem accs_get {g : GM} {r : Int} (h : g.is r = true) (j : Nat) (hj : j < 3) : (g.acc.flatMap accL)[r.toNat * 3 + j]? = (accL (g.at_ r))[j]? := by
  rw [at_get h]; exact flat_get accL 3 accL_len (is_lt h).2 j hj
theorem EscS.read {g : GM} {p : Nat} {s : EscP} {w : World} {F : Nat → Prop} (h : EscS g p s w F) : EscR w g p s := by
  obtain ⟨F1, F2, h1, ⟨F3, F4, h2, ⟨F5, F6, h3, h4, _, _⟩, _, _⟩, _, _⟩ := h
  refine ⟨cell_at h1 rfl, cell_at h1 rfl, fun f t => ?_, fun hn => row_addr h2 hn, fun b hb r hr => ?_⟩
  · obtain ⟨⟨es, clock, hblk, hents⟩, _⟩ := h3
    have := run_lookup (P := Try.prog) keyOk Try.underlying99 zeroP hents (f, t) w hblk
    simp only [pairV] at this
    rw [this, ents, mget_map]
    by_cases hp : g.pair f t = true
    · rw [if_pos hp, if_pos (pair_mem.1 hp)]; rfl
    · rw [if_neg hp, if_neg (fun hm => hp (pair_mem.2 hm))]; rfl
  · rw [hb] at h2
    refine ⟨row_cell h2 ?_, row_cell h2 ?_, row_cell h2 ?_⟩
    · have := accs_get hr 0 (by omega); simpa [accL] using this
    · have := accs_get hr 1 (by omega); simpa [accL] using this
    · have := accs_get hr 2 (by omega); simpa [accL] using this
theorem EscR.below {g : GM} {p : Nat} {s : EscP} {w w' : World} {F : Nat → Prop} (h : EscS g p s w F) (hb : Below w.heap.size w w') : EscR w' g p s :=
  (escS_ok.keep h (fun i hi => hb.block i (escS_ok.lt h i hi))).read

set_option maxHeartbeats 400000 in
theorem at_nil (r : Int) (w : World) : Calls Try.prog 66 #[.pointer none, .int .i64 r] w (Quiet w (.pointer none)) := by
  go_enter Try.func66, Try.ntmps66
  go_wp2
  go_ret
  exact ⟨rfl, rfl⟩
def atV (g : GM) (s : EscP) (r : Int) : Value := if g.is r = true then .pointer (s.A.map fun a => ⟨a.block, r.toNat * 3, none⟩) else .pointer none
set_option maxHeartbeats 800000 in
theorem at_any {w : World} {g : GM} {p : Nat} {s : EscP} (h : EscR w g p s) (hn : 1 ≤ g.acc.length ∧ g.acc.length ≤ 8) (r : Int) : Calls Try.prog 66 #[.pointer (some ⟨p, 0, none⟩), .int .i64 r] w (Quiet w (atV g s r)) := by
  obtain ⟨b, hb⟩ := h.addr (by omega)
  have c0 := h.c0
  rw [hb] at c0
  cases hi : g.is r with
  | false =>
    have hv := hide (show atV g s r = .pointer none by simp [atV, hi])
    have hr : r < 0 ∨ (g.acc.length : Int) ≤ r := by simp [GM.is] at hi; omega
    clear hi h hb
    rcases hr with hr | hr
    · go_enter Try.func66, Try.ntmps66
      go_wp2
      go_ret
      exact ⟨by rw [hv.out]; rfl, rfl⟩
    · have hr0 : ¬ r < 0 := by omega
      go_enter Try.func66, Try.ntmps66
      go_wp2
      go_ret
      exact ⟨by rw [hv.out]; rfl, rfl⟩
  | true =>
    have hl := is_lt hi
    obtain ⟨k, rfl⟩ : ∃ k : Nat, r = k := ⟨r.toNat, by omega⟩
    have hv := hide (show atV g s k = .pointer (some ⟨b, k * 3, none⟩) by simp [atV, hi, hb])
    have hk : k < g.acc.length := by simpa using hl.2
    clear hi h hb hl
    go_enter Try.func66, Try.ntmps66
    go_wp2
    go_ret
    exact ⟨by rw [hv.out]; simp, rfl⟩
end Go.Proofs.Ytapabbpdfplpoaa
namespace Go.CH.Esc

/-- One more transfer is looked at: the j-th (from 0). -/
theorem loop_step (H : List Int) (rc j : Nat) (hj : j < H.length) : isum ((H.take (j + 1)).drop rc) = if rc ≤ j then isum ((H.take j).drop rc) + H[j] else isum ((H.take j).drop rc) := by
  rw [List.take_succ_eq_append_getElem hj]
  split
  · rename_i h
    rw [List.drop_append_of_le_length (by rw [List.length_take]; omega), isum_append]
    simp [isum]
  · rename_i h
    have h1 : (H.take j ++ [H[j]]).drop rc = [] := List.drop_eq_nil_of_le (by rw [List.length_append, List.length_take, List.length_singleton]; omega)
    have h2 : (H.take j).drop rc = [] := List.drop_eq_nil_of_le (by rw [List.length_take]; omega)
    rw [h1, h2]
theorem loop_zero (H : List Int) (rc c : Nat) (h : c ≤ rc) : isum ((H.take c).drop rc) = 0 := by
  rw [List.drop_eq_nil_of_le (by rw [List.length_take]; omega)]; rfl
/-- The number of the i-th transfer of a message. -/
theorem msg_get (H : List Int) (c up i : Nat) (hu : up ≤ H.length) (hi : c + i < up) : ((H.take up).drop c)[i]? = H[c + i]? := by
  rw [List.getElem?_drop, List.getElem?_take, if_pos hi]
theorem msg_len (H : List Int) (c up : Nat) (hu : up ≤ H.length) : ((H.take up).drop c).length = up - c := by
  rw [List.length_drop, List.length_take, Nat.min_eq_left hu]
/-- The transfers back that are kept. -/
theorem keep_last (H : List Int) (c r : Nat) (hr : r ≤ H.length) (hc : c ≤ r) : (H.drop c).drop ((H.drop c).length - (H.length - r)) = H.drop r := by
  rw [List.drop_drop, List.length_drop]
  congr 1
  omega
/-- u and received behind k transfers stay small. -/
theorem loop_le {H : List Int} (hpos : ∀ h ∈ H, 1 ≤ h) (rc j : Nat) : 0 ≤ isum ((H.take j).drop rc) ∧ isum ((H.take j).drop rc) ≤ isum (H.drop rc) := by
  have hp : ∀ l : List Int, (∀ x ∈ l, x ∈ H) → 0 ≤ isum l := fun l hl => isum_nonneg (fun x hx => by have := hpos x (hl x hx); omega)
  refine ⟨hp _ (fun x hx => List.mem_of_mem_take (List.mem_of_mem_drop hx)), ?_⟩
  have := fly_split H rc j
  have := hp (H.drop (max rc j)) (fun x hx => List.mem_of_mem_drop hx)
  omega
end Go.CH.Esc
namespace Go.CH.Top
open Go.CH.Lic

def ch (n : Nat) : ByteArray := ⟨#[UInt8.ofNat (48 + n)]⟩
def digS (n : Nat) : ByteArray := if n < 10 then ch n else ch (n / 10) ++ ch (n % 10)
def keyS (n : Nat) : ByteArray := ⟨#[107]⟩ ++ digS n
def numOf : List UInt8 → Nat
  | [_, a] => a.toNat - 48
  | [_, a, b] => (a.toNat - 48) * 10 + (b.toNat - 48)
  | _ => 0
theorem key_num : ∀ n, n < 80 → numOf (keyS n).data.toList = n := by decide +kernel
theorem key_inj {i j : Nat} (hi : i < 80) (hj : j < 80) (h : keyS i = keyS j) : i = j := by
  rw [← key_num i hi, ← key_num j hj, h]
theorem key_name : ∀ n, n < 80 → isName (keyS n) = true := by decide +kernel
theorem key_size {n : Nat} (h : n < 80) : (keyS n).size ≤ 24 := name_size (key_name n h)
end Go.CH.Top
namespace Go.CH.Esc

structure ActG where
  k : Int
  a : Int
  b : Int
  u : Int
  lost : Bool
  again : Bool
def doM (g : GM) (x : ActG) : GM := if x.k = 0 then spendM g x.a x.u else if x.k = 1 then retM g x.a x.u else if x.k = 2 then giveM g x.a x.b x.u else if x.k = 3 then sendM g x.a x.b else if x.k = 4 then delM g x.a x.b x.lost x.again else revM g x.a
def doE (g : GM) (x : ActG) : Int := if x.k = 0 then spendE g x.a x.u else if x.k = 1 then retE g x.a x.u else if x.k = 2 then giveE g x.a x.b x.u else if x.k = 3 then sendE g x.a x.b else if x.k = 4 then 0 else revE g x.a
def doB (g : GM) (x : ActG) : Bool := if x.k = 0 then false else if x.k = 1 then false else if x.k = 2 then false else if x.k = 3 then false else if x.k = 4 then delE g x.a x.b else false
theorem Inv.do {g : GM} {U : Int} (h : Inv g U) (x : ActG) : Inv (doM g x) U := by
  unfold doM
  split
  · exact h.spend _ _
  · split
    · exact h.ret _ _
    · split
      · exact h.give _ _ _
      · split
        · exact h.send _ _
        · split
          · exact h.del _ _ _ _
          · exact h.revoke _
/-- No pair has seen more than n transfers. -/
def HB (g : GM) (n : Nat) : Prop := ∀ k, (g.pr k).H.length ≤ n
theorem HB.mono {g : GM} {n m : Nat} (h : HB g n) (hm : n ≤ m) : HB g m := fun k => Nat.le_trans (h k) hm
theorem HB.setA {g : GM} {n : Nat} (h : HB g n) (r : Int) (a : Acc) : HB (g.setA r a) n := h
theorem HB.setP {g : GM} {n : Nat} (h : HB g n) (k : Int × Int) (p : PrG) (hp : p.H.length ≤ n) : HB (g.setP k p) n := fun x => by
  unfold GM.setP; simp only []; split
  · exact hp
  · exact h x
theorem HB.spend {g : GM} {n : Nat} (h : HB g n) (r k : Int) : HB (spendM g r k) n := by unfold spendM; split; exact h.setA _ _; exact h
theorem HB.ret {g : GM} {n : Nat} (h : HB g n) (r k : Int) : HB (retM g r k) n := by unfold retM; split; exact h.setA _ _; exact h
theorem HB.revoke {g : GM} {n : Nat} (h : HB g n) (r : Int) : HB (revM g r) n := by unfold revM; split; exact h.setA _ _; exact h
theorem HB.give {g : GM} {n : Nat} (h : HB g n) (f t k : Int) : HB (giveM g f t k) (n + 1) := by
  unfold giveM
  split
  · exact (HB.setA (h.mono (Nat.le_succ _)) _ _).setP _ _ (by have := h (f, t); simp; omega)
  · exact h.mono (Nat.le_succ _)
theorem HB.send {g : GM} {n : Nat} (h : HB g n) (f t : Int) : HB (sendM g f t) n := by
  unfold sendM
  split
  · exact h.setP _ _ (h (f, t))
  · exact h
theorem HB.pop {g : GM} {n : Nat} (h : HB g n) (f t : Int) (again : Bool) : HB (popM g f t again) n := by unfold popM; exact h.setP _ _ (h (f, t))
theorem HB.recv {g : GM} {n : Nat} (h : HB g n) (f t : Int) (m : MsgG) : HB (recvM g f t m) n := by
  intro k
  unfold recvM
  simp only [setA_pr, GM.setP]
  repeat' split
  all_goals exact h _
theorem HB.del {g : GM} {n : Nat} (h : HB g n) (f t : Int) (lost again : Bool) : HB (delM g f t lost again) n := by
  unfold delM
  split
  · simp only []
    split
    · exact h.pop _ _ _
    · exact (h.pop _ _ _).recv _ _ _
  · exact h
theorem HB.do {g : GM} {n : Nat} (h : HB g n) (x : ActG) : HB (doM g x) (n + 1) := by
  unfold doM
  have h' := fun {g : GM} (h : HB g n) => h.mono (Nat.le_succ n)
  split
  · exact h' (h.spend _ _)
  · split
    · exact h' (h.ret _ _)
    · split
      · exact h.give _ _ _
      · split
        · exact h' (h.send _ _)
        · split
          · exact h' (h.del _ _ _ _)
          · exact h' (h.revoke _)
theorem HB.new (n : Nat) (u : Int) : HB (newG n u) 0 := fun k => by simp [newG, p0]
/-- The number of replicas stays. -/
theorem len_setA (g : GM) (r : Int) (a : Acc) : (g.setA r a).acc.length = g.acc.length := setA_len g r a
theorem len_do (g : GM) (x : ActG) : (doM g x).acc.length = g.acc.length := by
  unfold doM spendM retM giveM sendM delM revM popM recvM
  simp only []
  repeat' split
  all_goals simp only [GM.setP, GM.setA, List.length_set]
theorem len_new {n : Nat} (h : 1 ≤ n) (u : Int) : (newG n u).acc.length = n := by simp [newG]; omega
/-- Many operations. -/
def doL (g : GM) (l : List ActG) : GM := l.foldl doM g
theorem doL_snoc (g : GM) (l : List ActG) (x : ActG) : doL g (l ++ [x]) = doM (doL g l) x := by simp [doL]
theorem Inv.doL {g : GM} {U : Int} (h : Inv g U) (l : List ActG) : Inv (Esc.doL g l) U := by
  unfold Esc.doL
  induction l generalizing g with
  | nil => exact h
  | cons x l ih => exact ih (h.do x)
theorem HB.doL {g : GM} {n : Nat} (h : HB g n) (l : List ActG) : HB (Esc.doL g l) (n + l.length) := by
  unfold Esc.doL
  induction l generalizing g n with
  | nil => exact h
  | cons x l ih => have := ih (h.do x); rw [List.length_cons]; exact this.mono (by omega)
theorem len_doL (g : GM) (l : List ActG) : (doL g l).acc.length = g.acc.length := by
  unfold doL
  induction l generalizing g with
  | nil => rfl
  | cons x l ih => rw [List.foldl_cons, ih, len_do]
end Go.CH.Esc
