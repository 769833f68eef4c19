/-
  Net: a network among other things of the same call: what each method leaves, and that it touches nothing else.
-/
import Derived.Test.YtolpcjpnjicmkaaNet7
set_option linter.unusedSimpArgs false
set_option linter.unusedVariables false
namespace Go.Proofs.Ytolpcjpnjicmkaa
open Go.RowKit Go.CH
open Go.ChangeMaps (setBlock)

/-- A network of its own, apart from the blocks G; nothing below N has turned. -/
def StG (N : Nat) (w : World) (G : Nat → Prop) (m : NetM) (p : Nat) (W : World) : Prop := ∃ F, Net W F m p ∧ (∀ i, F i → N ≤ i ∧ ¬ G i) ∧ Below N w W
/-- .. what a call leaves: the answer, the network, and all that is in G. -/
def PostG (N : Nat) (w : World) (G : Nat → Prop) (v : Value) (m : NetM) (p : Nat) (W : World) (e : Ending) (W' : World) : Prop :=
  e = .returned v ∧ StG N w G m p W' ∧ Mod (fun i => ¬ G i) W W'

theorem StG.size {N : Nat} {w W : World} {G : Nat → Prop} {m : NetM} {p : Nat} (h : StG N w G m p W) (hN : N ≤ w.heap.size) : N ≤ W.heap.size := by
  obtain ⟨F, _, _, hb⟩ := h; exact Nat.le_trans hN hb.size
theorem StG.step {N : Nat} {w W W' : World} {G : Nat → Prop} {m' : NetM} {p : Nat} {F : Nat → Prop} {v : Value} {e : Ending} (hN : N ≤ W.heap.size) (hF : ∀ i, F i → N ≤ i ∧ ¬ G i) (hG : ∀ i, G i → i < W.heap.size) (hb : Below N w W) (h : NetPost W F p v m' e W') : PostG N w G v m' p W e W' := by
  obtain ⟨he, F', h1, h2, h3⟩ := h
  refine ⟨he, ⟨F', h1, fun i hi => ?_, ?_⟩, h2.mono fun i _ hi => (hF i hi).2⟩
  · rcases h3 i hi with h | h
    · exact hF i h
    · exact ⟨by omega, fun hg => by have := hG i hg; omega⟩
  · exact hb.trans ⟨h2.os, h2.tape, h2.output, h2.size, fun k hk => h2.block k (by omega) (fun e => by have := (hF k e).1; omega)⟩
/-- What is not its own may change. -/
theorem StG.mod {N : Nat} {w W W' : World} {G G' H : Nat → Prop} {m : NetM} {p : Nat} (h : StG N w G m p W) (hM : Mod H W W') (hH : ∀ i, H i → G i) (hn : ∀ i, H i → N ≤ i) (hN : N ≤ w.heap.size) (hG : ∀ i, i < W.heap.size → G' i → G i) : StG N w G' m p W' := by
  have hs := h.size hN
  obtain ⟨F, h1, h2, h3⟩ := h
  have hl : ∀ i, F i → i < W.heap.size := by obtain ⟨_, _, _, _, _, _, _, _, hh⟩ := h1; exact hh.lt
  refine ⟨F, h1.mod hM (fun i hi hh => (h2 i hi).2 (hH i hh)), fun i hi => ⟨(h2 i hi).1, fun hg => (h2 i hi).2 (hG i (hl i hi) hg)⟩, ?_⟩
  exact h3.trans ⟨hM.os, hM.tape, hM.output, hM.size, fun k hk => hM.block k (by omega) (fun e => by have := hn k e; omega)⟩
theorem StG.below {N : Nat} {w W W' : World} {G : Nat → Prop} {m : NetM} {p : Nat} (h : StG N w G m p W) (hN : N ≤ w.heap.size) (hb : Below W.heap.size W W') : StG N w G m p W' :=
  h.mod (H := fun _ => False) (Mod.of_below hb) (fun _ h => h.elim) (fun _ h => h.elim) hN (fun _ _ h => h)
theorem StG.lift {N : Nat} {w W W' : World} {m : NetM} {p : Nat} (h : StG N w (fun _ => False) m p W) : St N w m p W := by
  obtain ⟨F, h1, h2, h3⟩ := h
  exact ⟨F, h1, fun i hi => (h2 i hi).1, h3⟩
theorem StG.of_st {N : Nat} {w W : World} {m : NetM} {p : Nat} (h : St N w m p W) : StG N w (fun _ => False) m p W := by
  obtain ⟨F, h1, h2, h3⟩ := h
  exact ⟨F, h1, fun i hi => ⟨h2 i hi, fun h => h⟩, h3⟩
theorem StG.send {N : Nat} {w W : World} {G : Nat → Prop} {m : NetM} {p : Nat} (h : StG N w G m p W) (hN : N ≤ w.heap.size) (hG : ∀ i, G i → i < W.heap.size) (a b : Int) (t : ByteArray) {e : Int} (he : sendE m a b t = e) {m' : NetM} (hm : sendR m a b t = m') :
    Calls Try.prog 11 #[.pointer (some ⟨p, 0, none⟩), .int .i64 a, .int .i64 b, .string t] W (PostG N w G (.int .i64 e) m' p W) := by
  have hs := h.size hN
  obtain ⟨F, h1, h2, h3⟩ := h
  subst he hm
  exact (send_any h1 a b t).mono fun x W' hp => StG.step hs h2 hG h3 hp
theorem StG.deliver {N : Nat} {w W : World} {G : Nat → Prop} {m : NetM} {p : Nat} (h : StG N w G m p W) (hN : N ≤ w.heap.size) (hG : ∀ i, G i → i < W.heap.size) (a b : Int) (lost again : Bool) {s : ByteArray} {ok : Bool} (he : delE m a b lost = (s, ok)) {m' : NetM} (hm : delM m a b lost again = m') :
    Calls Try.prog 12 #[.pointer (some ⟨p, 0, none⟩), .int .i64 a, .int .i64 b, .bool lost, .bool again] W (PostG N w G (.tuple #[.string s, .bool ok]) m' p W) := by
  have hs := h.size hN
  obtain ⟨F, h1, h2, h3⟩ := h
  subst hm
  have := deliver_any h1 a b lost again
  rw [he] at this
  exact this.mono fun x W' hp => StG.step hs h2 hG h3 hp
theorem StG.cut {N : Nat} {w W : World} {G : Nat → Prop} {m : NetM} {p : Nat} (h : StG N w G m p W) (hN : N ≤ w.heap.size) (hG : ∀ i, G i → i < W.heap.size) (a b : Int) {e : Int} (he : turnE m a b true = e) {m' : NetM} (hm : turnR m a b true = m') :
    Calls Try.prog 20 #[.pointer (some ⟨p, 0, none⟩), .int .i64 a, .int .i64 b] W (PostG N w G (.int .i64 e) m' p W) := by
  have hs := h.size hN
  obtain ⟨F, h1, h2, h3⟩ := h
  subst he hm
  exact (cut_any h1 a b).mono fun x W' hp => StG.step hs h2 hG h3 hp
theorem StG.heal {N : Nat} {w W : World} {G : Nat → Prop} {m : NetM} {p : Nat} (h : StG N w G m p W) (hN : N ≤ w.heap.size) (hG : ∀ i, G i → i < W.heap.size) (a b : Int) {e : Int} (he : turnE m a b false = e) {m' : NetM} (hm : turnR m a b false = m') :
    Calls Try.prog 21 #[.pointer (some ⟨p, 0, none⟩), .int .i64 a, .int .i64 b] W (PostG N w G (.int .i64 e) m' p W) := by
  have hs := h.size hN
  obtain ⟨F, h1, h2, h3⟩ := h
  subst he hm
  exact (heal_any h1 a b).mono fun x W' hp => StG.step hs h2 hG h3 hp
theorem StG.waiting {N : Nat} {w W : World} {G : Nat → Prop} {m : NetM} {p : Nat} (h : StG N w G m p W) (hN : N ≤ w.heap.size) (a b : Int) {l : List ByteArray} (hl : waitM m a b = l) :
    Calls Try.prog 14 #[.pointer (some ⟨p, 0, none⟩), .int .i64 a, .int .i64 b] W fun x W' => ∃ A c, x = .returned (.slice A l.length c) ∧ W'.ownsRow W.heap.size 9 1 (.slice A l.length c) l.length (strs l) ∧ Below W.heap.size W W' ∧ StG N w G m p W' := by
  have hs := h
  obtain ⟨F, h1, h2, h3⟩ := h
  subst hl
  refine (waiting_any h1 a b).mono fun x W' hp => ?_
  obtain ⟨v, he, ho, hb⟩ := hp
  obtain ⟨A, c, hv, ho2⟩ := listAt_of_own ho
  subst hv
  exact ⟨A, c, he, ho2, hb, hs.below hN hb⟩

/-! ### A step -/
structure Step where
  kind : Int
  a : Int
  b : Int
  text : ByteArray
  lost : Bool
  again : Bool
instance : Inhabited Step := ⟨⟨0, 0, 0, ⟨#[]⟩, false, false⟩⟩
def stepL (x : Step) : List Value := [.int .i64 x.kind, .int .i64 x.a, .int .i64 x.b, .string x.text, .bool x.lost, .bool x.again]
def stepV (x : Step) : Value := .agg #[.int .i64 x.kind, .int .i64 x.a, .int .i64 x.b, .string x.text, .bool x.lost, .bool x.again]
structure Res where
  err : Int
  text : ByteArray
  ok : Bool
def resL (r : Res) : List Value := [.int .i64 r.err, .string r.text, .bool r.ok]
def resV (r : Res) : Value := .agg #[.int .i64 r.err, .string r.text, .bool r.ok]
def tE : ByteArray := ⟨#[]⟩
/-- What a step answers and leaves. -/
def doR (m : NetM) (x : Step) : Res :=
  if x.kind = 0 then ⟨sendE m x.a x.b x.text, tE, false⟩
  else if x.kind = 1 then ⟨0, (delE m x.a x.b x.lost).1, (delE m x.a x.b x.lost).2⟩
  else if x.kind = 2 then ⟨turnE m x.a x.b true, tE, false⟩
  else ⟨turnE m x.a x.b false, tE, false⟩
def doM (m : NetM) (x : Step) : NetM :=
  if x.kind = 0 then sendR m x.a x.b x.text
  else if x.kind = 1 then delM m x.a x.b x.lost x.again
  else if x.kind = 2 then turnR m x.a x.b true
  else turnR m x.a x.b false

theorem StG.extend {N : Nat} {w W W1 : World} {G : Nat → Prop} {m : NetM} {p : Nat} (h : StG N w G m p W) (hN : N ≤ w.heap.size) (hb : Below W.heap.size W W1) :
    StG N w (fun i => G i ∨ (W.heap.size ≤ i ∧ i < W1.heap.size)) m p W1 := by
  have h' := h.below hN hb
  obtain ⟨F, h1, h2, h3⟩ := h
  have hl : ∀ i, F i → i < W.heap.size := by obtain ⟨_, _, _, _, _, _, _, _, hh⟩ := h1; exact hh.lt
  refine ⟨F, h1.mod (G := fun _ => False) (Mod.of_below hb) (fun _ _ h => h), fun i hi => ⟨(h2 i hi).1, ?_⟩, ?_⟩
  · rintro (hg | hg)
    · exact (h2 i hi).2 hg
    · have := hl i hi; omega
  · obtain ⟨_, _, _, h3'⟩ := h'; exact h3'

/-- The two blocks that 'do' makes first: the step, the answer. -/
def oW (W : World) (k a b : Int) (t : ByteArray) (lost again : Bool) : World :=
  (W.alloc (.cells #[.int .i64 k, .int .i64 a, .int .i64 b, .string t, .bool lost, .bool again] 45)).alloc (.cells #[.int .i64 0, .string ⟨#[]⟩, .bool false] 42)
theorem oW_below (W : World) (k a b : Int) (t : ByteArray) (lost again : Bool) : Below W.heap.size W (oW W k a b t lost again) := ((Below.refl _ _).alloc (Nat.le_refl _) _).alloc (by simp) _
theorem oW_size (W : World) (k a b : Int) (t : ByteArray) (lost again : Bool) : (oW W k a b t lost again).heap.size = W.heap.size + 2 := by simp [oW]
theorem oW_res (W : World) (k a b : Int) (t : ByteArray) (lost again : Bool) : (oW W k a b t lost again).heap[W.heap.size + 1]? = some (.cells #[.int .i64 0, .string ⟨#[]⟩, .bool false] 42) := by
  unfold oW
  exact heap_new (by simp)
def oG (G : Nat → Prop) (n : Nat) : Nat → Prop := fun i => G i ∨ (n ≤ i ∧ i < n + 2)
theorem oW_st {N : Nat} {w W : World} {G : Nat → Prop} {m : NetM} {p : Nat} (h : StG N w G m p W) (hN : N ≤ w.heap.size) (k a b : Int) (t : ByteArray) (lost again : Bool) : StG N w (oG G W.heap.size) m p (oW W k a b t lost again) := by
  have := h.extend hN (oW_below W k a b t lost again)
  rw [oW_size] at this
  exact this
theorem oG_lt {G : Nat → Prop} {W : World} (hG : ∀ i, G i → i < W.heap.size) (k a b : Int) (t : ByteArray) (lost again : Bool) : ∀ i, oG G W.heap.size i → i < (oW W k a b t lost again).heap.size := by
  intro i hi
  rw [oW_size]
  rcases hi with hi | hi
  · have := hG i hi; omega
  · omega
/-- The answer is still there behind the call. -/
theorem oW_keep {G : Nat → Prop} {W W2 : World} {k a b : Int} {t : ByteArray} {lost again : Bool} (h : Mod (fun i => ¬ oG G W.heap.size i) (oW W k a b t lost again) W2) :
    W2.heap[W.heap.size + 1]? = some (.cells #[.int .i64 0, .string ⟨#[]⟩, .bool false] 42) := by
  rw [h.block (W.heap.size + 1) (by rw [oW_size]; omega) (fun hn => hn (.inr ⟨by omega, by omega⟩)), oW_res]
/-- What it all leaves. -/
theorem oW_post {N : Nat} {w W W2 W3 : World} {G : Nat → Prop} {m : NetM} {p : Nat} {k a b : Int} {t : ByteArray} {lost again : Bool} (hN : N ≤ w.heap.size) (hW : N ≤ W.heap.size) (hG : ∀ i, G i → i < W.heap.size)
    (h : StG N w (oG G W.heap.size) m p W2) (hM : Mod (fun i => ¬ oG G W.heap.size i) (oW W k a b t lost again) W2) (h3 : Mod (fun i => i = W.heap.size + 1) W2 W3) : StG N w G m p W3 ∧ Mod (fun i => ¬ G i) W W3 := by
  refine ⟨h.mod h3 (fun i hi => .inr (by omega)) (fun i hi => by omega) hN (fun i _ hi => .inl hi), ?_⟩
  have h1 : Mod (fun _ => False) W (oW W k a b t lost again) := Mod.of_below (oW_below W k a b t lost again)
  refine (h1.trans hM (G := fun i => ¬ G i) (fun _ _ h => h.elim) (fun i _ hi hg => hi (.inl hg))).trans h3 (fun _ _ h => h) (fun i hi e => by omega)

/-- .. and can be written, cell by cell. -/
theorem row3 {w : World} {b : Nat} {x y z : Value} {t : TypeId} (h : w.heap[b]? = some (.cells #[x, y, z] t)) :
    (w.cell? ⟨b, 0, none⟩ = some x ∧ w.cell? ⟨b, 1, none⟩ = some y ∧ w.cell? ⟨b, 2, none⟩ = some z) ∧ (w.frozen? ⟨b, 0, none⟩ = false ∧ w.frozen? ⟨b, 1, none⟩ = false ∧ w.frozen? ⟨b, 2, none⟩ = false) := by
  simp [World.cell?, World.frozen?, h]

theorem set_row {w : World} {b i : Nat} {cur : Array Value} {t : TypeId} (v : Value) (h : w.heap[b]? = some (.cells cur t)) : (w.setCell ⟨b, i, none⟩ v).heap[b]? = some (.cells (cur.setIfInBounds i v) t) := by
  rw [setCell_eq_setRow w b i cur t (0, 0) v h]
  exact setRow_heap w b cur _ t (0, 0) h
theorem row3_set {w : World} {b : Nat} {x y z : Value} (x' y' z' : Value) {t : TypeId} (h : w.heap[b]? = some (.cells #[x, y, z] t)) :
    (((w.setCell ⟨b, 0, none⟩ x').setCell ⟨b, 1, none⟩ y').setCell ⟨b, 2, none⟩ z').heap[b]? = some (.cells #[x', y', z'] t) := by
  have h3 := set_row (i := 2) z' (set_row (i := 1) y' (set_row (i := 0) x' h))
  simpa using h3
theorem row3_mod (w : World) (b : Nat) (x' y' z' : Value) : Mod (fun i => i = b) w (((w.setCell ⟨b, 0, none⟩ x').setCell ⟨b, 1, none⟩ y').setCell ⟨b, 2, none⟩ z') :=
  Mod.setCell (F := fun i => i = b) (p := ⟨b, 2, none⟩) (Mod.setCell (F := fun i => i = b) (p := ⟨b, 1, none⟩) (Mod.setCell (F := fun i => i = b) (p := ⟨b, 0, none⟩) (Mod.refl _ w) x' (fun _ => rfl)) y' (fun _ => rfl)) z' (fun _ => rfl)
theorem res42 (tmps : Array Value) (w : World) (g : Nat) (x y z : Value) (hp : tmps.getD 4 undef = .pointer (some ⟨g, 0, none⟩)) (hg : w.heap[g]? = some (.cells #[x, y, z] 42)) :
    (results Try.f17 tmps).run Try.prog w = .ok (.agg #[x, y, z]) w :=
  results_cell_row rfl tmps w g 42 #[x, y, z] (0, 0) _ hp hg Try.underlying42 rfl (by kernel_rfl)

set_option maxHeartbeats 1000000 in
theorem do_send {N : Nat} {w W : World} {G : Nat → Prop} {m : NetM} {p : Nat} (h : StG N w G m p W) (hN : N ≤ w.heap.size) (hG : ∀ i, G i → i < W.heap.size) (a b : Int) (t : ByteArray) (lost again : Bool) :
    Calls Try.prog 17 #[.pointer (some ⟨p, 0, none⟩), .agg #[.int .i64 0, .int .i64 a, .int .i64 b, .string t, .bool lost, .bool again]] W (PostG N w G (.agg #[.int .i64 (sendE m a b t), .string tE, .bool false]) (sendR m a b t) p W) := by
  have KS := hide ((oW_st h hN 0 a b t lost again).send hN (oG_lt hG 0 a b t lost again) a b t rfl rfl)
  have hW := h.size hN
  clear h
  go_enter Try.func17, Try.ntmps17
  go_wp2_with (go_at_call 11; go_must (refine KS.out.mono ?_); rintro e w2 ⟨rfl, s2, hm2⟩; obtain ⟨⟨c0, c1, c2⟩, f0, f1, f2⟩ := row3 (oW_keep hm2))
  refine ⟨rfl, _, res42 _ _ (W.heap.size + 1) _ _ _ rfl (row3_set _ _ _ (oW_keep hm2)), rfl, ?_⟩; exact oW_post hN hW hG s2 hm2 (row3_mod _ _ _ _ _)

set_option maxHeartbeats 1000000 in
theorem do_deliver {N : Nat} {w W : World} {G : Nat → Prop} {m : NetM} {p : Nat} (h : StG N w G m p W) (hN : N ≤ w.heap.size) (hG : ∀ i, G i → i < W.heap.size) (a b : Int) (t : ByteArray) (lost again : Bool) :
    Calls Try.prog 17 #[.pointer (some ⟨p, 0, none⟩), .agg #[.int .i64 1, .int .i64 a, .int .i64 b, .string t, .bool lost, .bool again]] W (PostG N w G (.agg #[.int .i64 0, .string (delE m a b lost).1, .bool (delE m a b lost).2]) (delM m a b lost again) p W) := by
  have KS := hide ((oW_st h hN 1 a b t lost again).deliver hN (oG_lt hG 1 a b t lost again) a b lost again (s := (delE m a b lost).1) (ok := (delE m a b lost).2) rfl rfl)
  have hW := h.size hN
  clear h
  go_enter Try.func17, Try.ntmps17
  go_wp2_with (go_at_call 12; go_must (refine KS.out.mono ?_); rintro e w2 ⟨rfl, s2, hm2⟩; obtain ⟨⟨c0, c1, c2⟩, f0, f1, f2⟩ := row3 (oW_keep hm2))
  refine ⟨rfl, _, res42 _ _ (W.heap.size + 1) _ _ _ rfl (row3_set _ _ _ (oW_keep hm2)), rfl, ?_⟩; exact oW_post hN hW hG s2 hm2 (row3_mod _ _ _ _ _)

set_option maxHeartbeats 1000000 in
theorem do_cut {N : Nat} {w W : World} {G : Nat → Prop} {m : NetM} {p : Nat} (h : StG N w G m p W) (hN : N ≤ w.heap.size) (hG : ∀ i, G i → i < W.heap.size) (a b : Int) (t : ByteArray) (lost again : Bool) :
    Calls Try.prog 17 #[.pointer (some ⟨p, 0, none⟩), .agg #[.int .i64 2, .int .i64 a, .int .i64 b, .string t, .bool lost, .bool again]] W (PostG N w G (.agg #[.int .i64 (turnE m a b true), .string tE, .bool false]) (turnR m a b true) p W) := by
  have KS := hide ((oW_st h hN 2 a b t lost again).cut hN (oG_lt hG 2 a b t lost again) a b rfl rfl)
  have hW := h.size hN
  clear h
  go_enter Try.func17, Try.ntmps17
  go_wp2_with (go_at_call 20; go_must (refine KS.out.mono ?_); rintro e w2 ⟨rfl, s2, hm2⟩; obtain ⟨⟨c0, c1, c2⟩, f0, f1, f2⟩ := row3 (oW_keep hm2))
  refine ⟨rfl, _, res42 _ _ (W.heap.size + 1) _ _ _ rfl (row3_set _ _ _ (oW_keep hm2)), rfl, ?_⟩; exact oW_post hN hW hG s2 hm2 (row3_mod _ _ _ _ _)

set_option maxHeartbeats 1000000 in
theorem do_heal {N : Nat} {w W : World} {G : Nat → Prop} {m : NetM} {p : Nat} (h : StG N w G m p W) (hN : N ≤ w.heap.size) (hG : ∀ i, G i → i < W.heap.size) (k : Int) (a b : Int) (t : ByteArray) (lost again : Bool) (hk0 : (k == 0) = false) (hk1 : (k == 1) = false) (hk2 : (k == 2) = false) :
    Calls Try.prog 17 #[.pointer (some ⟨p, 0, none⟩), .agg #[.int .i64 k, .int .i64 a, .int .i64 b, .string t, .bool lost, .bool again]] W (PostG N w G (.agg #[.int .i64 (turnE m a b false), .string tE, .bool false]) (turnR m a b false) p W) := by
  have KS := hide ((oW_st h hN k a b t lost again).heal hN (oG_lt hG k a b t lost again) a b rfl rfl)
  have hW := h.size hN
  clear h
  go_enter Try.func17, Try.ntmps17
  go_wp2_with (go_at_call 21; go_must (refine KS.out.mono ?_); rintro e w2 ⟨rfl, s2, hm2⟩; obtain ⟨⟨c0, c1, c2⟩, f0, f1, f2⟩ := row3 (oW_keep hm2))
  refine ⟨rfl, _, res42 _ _ (W.heap.size + 1) _ _ _ rfl (row3_set _ _ _ (oW_keep hm2)), rfl, ?_⟩; exact oW_post hN hW hG s2 hm2 (row3_mod _ _ _ _ _)

theorem do_any {N : Nat} {w W : World} {G : Nat → Prop} {m : NetM} {p : Nat} (h : StG N w G m p W) (hN : N ≤ w.heap.size) (hG : ∀ i, G i → i < W.heap.size) (x : Step) :
    Calls Try.prog 17 #[.pointer (some ⟨p, 0, none⟩), stepV x] W (PostG N w G (resV (doR m x)) (doM m x) p W) := by
  obtain ⟨k, a, b, t, lost, again⟩ := x
  simp only [stepV, resV, doR, doM]
  by_cases h0 : k = 0
  · subst h0; exact do_send h hN hG a b t lost again
  by_cases h1 : k = 1
  · subst h1; exact do_deliver h hN hG a b t lost again
  by_cases h2 : k = 2
  · subst h2; exact do_cut h hN hG a b t lost again
  · simp only [h0, h1, h2, if_false]
    exact do_heal h hN hG k a b t lost again (by simpa using h0) (by simpa using h1) (by simpa using h2)
end Go.Proofs.Ytolpcjpnjicmkaa
