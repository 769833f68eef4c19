/-
  Net: the model of a network, Clone, New.
-/
import Derived.Test.YtolpcjpnjicmkaaNet1
import Derived.Deep.AppendLies
import Derived.Deep.DeepMust
import Derived.Deep.RegionHeld3
set_option linter.unusedSimpArgs false
set_option linter.unusedVariables false
namespace Go.Proofs.Ytolpcjpnjicmkaa
open Go.RowKit Go.CH
open Go.ChangeMaps (setBlock)

theorem strOk : SliceOk Try.prog 22 9 (.string ⟨#[]⟩) 1 16 := ⟨Try.underlying22, by kernel_rfl, rfl, by decide⟩

set_option maxHeartbeats 400000 in
theorem clone_nil (c : Nat) (w : World) :
    Calls Try.prog 24 #[.slice none 0 c] w fun e w' => e = .returned (.slice none 0 0) ∧ w = w' := by
  have he := fun w => Lib.run_eql_slice_nil (P := Try.prog) w 22 9 none 0 c 0 0 Try.underlying22
  go_enter Try.func24, Try.ntmps24
  go_wp2
  go_ret
  exact ⟨rfl, rfl⟩
set_option maxHeartbeats 400000 in
theorem clone_some (ad : Addr) (n c : Nat) (xs : List Value) (w : World) (hs : Src w (some ad) n 1 xs) (hlt : ad.block < w.heap.size) (hn : n ≤ 1000) :
    Calls Try.prog 24 #[.slice (some ad) n c] w fun e w' => ∃ v, e = .returned v ∧ w'.ownsRow w.heap.size 9 1 v n xs ∧ Below w.heap.size w w' := by
  have he := fun w => Lib.run_eql_slice_nil (P := Try.prog) w 22 9 (some ad) n c 0 0 Try.underlying22
  go_enter Try.func24, Try.ntmps24
  go_wp2_with (at_builtin; go_must (refine wpList_app rfl (.tmp 5) (.tmp 6) rfl strOk _ w.heap.size (v := .slice (some ⟨w.heap.size, 0, none⟩) 0 0) (n := 0) (xs := []) rfl (by exact World.ownsRow_made w #[] 0 (Nat.le_refl _) (by omega) rfl) (A := some ad) (m := n) (c := c) (news := xs) rfl (by exact hs.keep (fun ad' e => Below.heap_alloc w _ _ (by cases e; exact hlt))) (by omega) (by omega) (by simp) ?_); intro v1 w1 hown hg hat)
  go_ret
  refine ⟨v1, rfl, by simpa using hown, ((Below.refl _ _).alloc (Nat.le_refl _) _).grown hg (by simp) (by simp [Value.ownBlock])⟩

theorem clone_any (A : Option Addr) (n c : Nat) (xs : List Value) (w : World) (hs : Src w A n 1 xs) (hlt : ∀ ad, A = some ad → ad.block < w.heap.size) (hn : n ≤ 1000) :
    Calls Try.prog 24 #[.slice A n c] w fun e w' => ∃ v, e = .returned v ∧ w'.ownsRow w.heap.size 9 1 v n xs ∧ Below w.heap.size w w' := by
  cases A with
  | some ad => exact clone_some ad n c xs w hs (hlt ad rfl) hn
  | none =>
    have h0 : n = 0 := by
      rcases Nat.eq_zero_or_pos n with h0 | h0
      · exact h0
      · obtain ⟨ad, h, _⟩ := hs.2.2 h0; cases h
    subst h0
    have hx : xs = [] := List.eq_nil_of_length_eq_zero (by simpa using hs.1)
    subst hx
    refine (clone_nil c w).mono fun e w' ⟨he, hw⟩ => ?_
    subst hw
    exact ⟨_, he, World.ownsRow_nil w _ _ _, Below.refl _ _⟩

/-- A network: its number of nodes, its queues, the ways that are cut. -/
structure NetM where
  nodes : Int
  q : Int × Int → List ByteArray
  c : Int × Int → Bool

def upd {β : Type} (f : Int × Int → β) (k : Int × Int) (v : β) : Int × Int → β := fun x => if x = k then v else f x

def nilS : Value := .slice none 0 0
def strs (l : List ByteArray) : List Value := l.map Value.string
theorem strs_one (l : List ByteArray) : ∀ u ∈ strs l, u.oneCell' = true := by
  intro u hu
  obtain ⟨s, _, rfl⟩ := List.mem_map.1 hu
  rfl

def qv (lq : List ((Int × Int) × Value)) (k : Int × Int) : Value := (mget lq k).getD nilS
def cv (lc : List ((Int × Int) × Value)) (k : Int × Int) : Value := (mget lc k).getD (.bool false)

/-- What the two maps hold, in the world w. -/
structure NetIn (w : World) (F : Nat → Prop) (m : NetM) (p bq bc : Nat) (lq lc : List ((Int × Int) × Value)) : Prop where
  cut : ∀ k, cv lc k = .bool (m.c k)
  row : ∀ k, w.ownsRow 0 9 1 (qv lq k) (m.q k).length (strs (m.q k))
  len : ∀ k, (m.q k).length ≤ 100
  apart : ∀ k k', k ≠ k' → (qv lq k).ownBlock = none ∨ (qv lq k).ownBlock ≠ (qv lq k').ownBlock
  rowF : ∀ k i, (qv lq k).ownBlock = some i → F i

/-- The pointer to block p is the network m; it lies in the blocks F. -/
structure NetAt (w : World) (F : Nat → Prop) (m : NetM) (p bq bc : Nat) (lq lc : List ((Int × Int) × Value)) (eq ec : Array MapEntry) (kq kc : Nat) : Prop where
  blk : w.heap[p]? = some (.cells #[.int .i64 m.nodes, .map (some bq), .map (some bc)] 56 (0, 0))
  mq : w.heap[bq]? = some (.map eq kq)
  mc : w.heap[bc]? = some (.map ec kc)
  hq : Ents (pairV .i64) eq kq lq
  hc : Ents (pairV .i64) ec kc lc
  ne : bq ≠ bc
  Fp : F p
  Fq : F bq
  Fc : F bc
  inn : NetIn w F m p bq bc lq lc
  lt : ∀ i, F i → i < w.heap.size

def Net (w : World) (F : Nat → Prop) (m : NetM) (p : Nat) : Prop := ∃ bq bc lq lc eq ec kq kc, NetAt w F m p bq bc lq lc eq ec kq kc

theorem Net.mod {w w' : World} {F G : Nat → Prop} {m : NetM} {p : Nat} (h : Net w F m p) (g : Mod G w w') (hFG : ∀ i, F i → ¬ G i) : Net w' F m p := by
  obtain ⟨bq, bc, lq, lc, eq, ec, kq, kc, h⟩ := h
  have hb : ∀ i, F i → w'.heap[i]? = w.heap[i]? := fun i hi => g.block i (h.lt i hi) (hFG i hi)
  refine ⟨bq, bc, lq, lc, eq, ec, kq, kc, (hb p h.Fp).trans h.blk, (hb bq h.Fq).trans h.mq, (hb bc h.Fc).trans h.mc, h.hq, h.hc, h.ne, h.Fp, h.Fq, h.Fc, ⟨h.inn.cut, fun k => ?_, h.inn.len, h.inn.apart, h.inn.rowF⟩, fun i hi => Nat.lt_of_lt_of_le (h.lt i hi) g.size⟩
  obtain ⟨h1, h2⟩ := h.inn.row k
  refine ⟨h1, ?_⟩
  rcases h2 with h2 | ⟨gg, cap, cur, hv, h3, h4, h5⟩
  · exact .inl h2
  · exact .inr ⟨gg, cap, cur, hv, h3, (hb gg (h.inn.rowF k gg (by rw [hv]; rfl))).trans h4, h5⟩

theorem keyOk : KeyOk Try.prog 58 (pairV .i64) := keyOk_pair Try.underlying58 Try.underlying3 (by kernel_rfl)
theorem zeroS : ∀ w, (zeroValue 22).run Try.prog w = .ok nilS w := fun w => by kernel_rfl
theorem zeroB : ∀ w, (zeroValue 4).run Try.prog w = .ok (.bool false) w := fun w => by kernel_rfl

set_option maxHeartbeats 400000 in
theorem new_no (n : Int) (w : World) (h : n < 1 ∨ 8 < n) :
    Calls Try.prog 10 #[.int .i64 n] w fun e w' => e = .returned (.tuple #[.pointer none, .int .i64 1]) ∧ w = w' := by
  rcases h with h | h
  · go_enter Try.func10, Try.ntmps10
    go_wp2
    go_ret2
    exact ⟨rfl, rfl⟩
  · by_cases h' : n < 1
    · omega
    · go_enter Try.func10, Try.ntmps10
      go_wp2
      go_ret2
      exact ⟨rfl, rfl⟩

set_option maxHeartbeats 400000 in
theorem new_yes (n : Int) (w : World) (h1 : 1 ≤ n) (h2 : n ≤ 8) :
    Calls Try.prog 10 #[.int .i64 n] w fun e w' => ∃ p, e = .returned (.tuple #[.pointer (some ⟨p, 0, none⟩), .int .i64 0]) ∧ Net w' (fun i => w.heap.size ≤ i ∧ i < w'.heap.size) ⟨n, fun _ => [], fun _ => false⟩ p ∧ Below w.heap.size w w' := by
  have hmm := @run_makeMap Try.prog
  go_enter Try.func10, Try.ntmps10
  go_wp2
  go_ret2
  refine ⟨w.heap.size + 2, rfl, ⟨w.heap.size, w.heap.size + 1, [], [], #[], #[], 0, 0, ?_, ?_, ?_, Ents.nil, Ents.nil, by omega, ⟨by omega, by simp⟩, ⟨by omega, by simp; omega⟩, ⟨by omega, by simp⟩, ⟨fun k => rfl, fun k => ?_, fun k => by simp, fun k k' _ => .inl rfl, fun k i h => by simp [qv, mget_nil, nilS, Value.ownBlock] at h⟩, fun i h => h.2⟩, ?_⟩
  · exact heap_new (by simp)
  · rw [heap_old (by simp; omega), heap_old (by simp)]; exact heap_new rfl
  · rw [heap_old (by simp)]; exact heap_new (by simp)
  · exact World.ownsRow_nil _ _ _ _
  · exact (((Below.refl _ _).alloc (Nat.le_refl _) _).alloc (by simp) _).alloc (by simp; omega) _
end Go.Proofs.Ytolpcjpnjicmkaa
