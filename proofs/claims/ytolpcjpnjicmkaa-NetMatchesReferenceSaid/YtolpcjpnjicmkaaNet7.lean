/-
  Net: Texts, and the chapter's examples.
-/
import Derived.Test.YtolpcjpnjicmkaaNet6
set_option linter.unusedSimpArgs false
set_option linter.unusedVariables false
namespace Go.Proofs.Ytolpcjpnjicmkaa
open Go.RowKit Go.CH
open Go.ChangeMaps (setBlock)

theorem strEq (a b : ByteArray) : (a.toList == b.toList) = decide (a = b) := by
  rw [ByteArray.toList_eq, ByteArray.toList_eq]
  have : (a.data.toList = b.data.toList) ↔ a = b := by
    constructor
    · intro h; cases a; cases b; simp at h; rw [h]
    · rintro rfl; rfl
  by_cases h : a = b
  · simp [h]
  · simp only [h, decide_false]; exact beq_eq_false_iff_ne.2 (fun e => h (this.1 e))
theorem strEq_true {a b : ByteArray} (h : a = b) : (a.toList == b.toList) = true := by rw [strEq]; simp [h]
theorem strEq_false {a b : ByteArray} (h : a ≠ b) : (a.toList == b.toList) = false := by rw [strEq]; simp [h]

theorem drewN_below (w : World) (n : Nat) : Below w.heap.size w (w.drewN n) := below_drewN (Below.refl _ _) n

set_option maxHeartbeats 400000 in
theorem texts_len {w : World} {A B : Option Addr} {n k c d : Nat} (h : n ≠ k) :
    Calls Try.prog 13 #[.slice A n c, .slice B k d] w fun e w' => e = .returned (.bool false) ∧ w = w' := by
  have hn : ((n : Int) == k) = false := by simp; omega
  have hn' : ((n : Int) != k) = true := by simp; omega
  go_enter Try.func13, Try.ntmps13
  go_wp2
  go_ret
  exact ⟨rfl, rfl⟩

theorem ret_bool {a b : Bool} (h : a = b) : Ending.returned (.bool a) = .returned (.bool b) := by rw [h]
theorem take_eq_succ {α : Type} {xs ys : List α} {k : Nat} (hx : k < xs.length) (hy : k < ys.length) (h : xs.take k = ys.take k) (he : xs[k] = ys[k]) : xs.take (k + 1) = ys.take (k + 1) := by
  rw [List.take_succ_eq_append_getElem hx, List.take_succ_eq_append_getElem hy, h, he]

set_option maxHeartbeats 400000 in
theorem texts_same {w : World} {A B : Option Addr} {c d : Nat} {xs ys : List ByteArray} (hx : Src w A xs.length 1 (strs xs)) (hy : Src w B ys.length 1 (strs ys)) (hl : xs.length = ys.length) (hm : xs.length ≤ 1000000) :
    Calls Try.prog 13 #[.slice A xs.length c, .slice B ys.length d] w (BelowRet w (.bool (decide (xs = ys)))) := by
  have HL := hide hl
  rw [← hl]
  clear hl
  go_enter Try.func13, Try.ntmps13
  go_wp2
  go_loopw [5] (fun i wr => ∃ k : Nat, k ≤ xs.length ∧ i = .int .i64 k ∧ xs.take k = ys.take k ∧ ∃ m, wr = w.drewN m) (fun i _ => xs.length - (intOf i).toNat)
  case atStart => exact ⟨0, by omega, rfl, rfl, 0, rfl⟩
  case round =>
    obtain ⟨k, hk, rfl, ht, m, rfl⟩ := hrel
    have HT := hide ht; clear ht
    by_cases hlt : k < xs.length
    · have hlt' : k < ys.length := HL.out ▸ hlt
      obtain ⟨ad, rfl, hcx⟩ := hx.2.2 (by omega)
      obtain ⟨bd, rfl, hcy⟩ := hy.2.2 (by omega)
      have h1 : w.cell? (ad.add k) = some (.string xs[k]) := hcx k _ (by simp [strs, hlt])
      have h2 : w.cell? (bd.add k) = some (.string ys[k]) := hcy k _ (by simp [strs, hlt'])
      clear hcx hcy hx hy
      by_cases he : xs[k] = ys[k]
      · have hb := strEq_true he
        have HE := hide he
        clear he
        go_wp2
        go_quiet (fail)
        go_wp2
        go_roundw
        case rel => exact ⟨k + 1, hlt, by go_num, take_eq_succ hlt hlt' HT.out HE.out, _, rfl⟩
        case measure => simp [intOf]; omega
      · have hb := strEq_false he
        have HE := hide he
        clear he
        go_wp2
        go_quiet (fail)
        go_wp2
        go_ret
        refine ⟨ret_bool ?_, below_drewN (below_drewN (Below.refl _ _) _) _⟩
        rw [eq_comm, decide_eq_false_iff_not]
        rintro rfl
        exact HE.out rfl
    · have hke : k = xs.length := by omega
      subst hke
      go_wp2
      go_ret
      refine ⟨ret_bool ?_, below_drewN (Below.refl _ _) _⟩
      rw [eq_comm, decide_eq_true_eq]
      have := HT.out
      rw [List.take_length, HL.out, List.take_length] at this
      exact this

theorem texts_any {w : World} {A B : Option Addr} {n k c d : Nat} {xs ys : List ByteArray} (hx : Src w A n 1 (strs xs)) (hy : Src w B k 1 (strs ys)) (hm : n ≤ 1000000) :
    Calls Try.prog 13 #[.slice A n c, .slice B k d] w (BelowRet w (.bool (decide (xs = ys)))) := by
  have h1 : n = xs.length := by have := hx.1; simp [strs] at this; omega
  have h2 : k = ys.length := by have := hy.1; simp [strs] at this; omega
  by_cases h : n = k
  · subst h1 h2; exact texts_same hx hy h hm
  · have : decide (xs = ys) = false := by
      rw [decide_eq_false_iff_not]; rintro rfl; exact h (h1.trans h2.symm)
    rw [this]
    exact (texts_len h).mono fun e w' ⟨he, hw⟩ => ⟨he, hw ▸ Below.refl _ _⟩

/-- A network of the call's own: it lies from block N on, and below N nothing has changed since w. -/
def St (N : Nat) (w : World) (m : NetM) (p : Nat) (W : World) : Prop := ∃ F, Net W F m p ∧ (∀ i, F i → N ≤ i) ∧ Below N w W

theorem St.step {N : Nat} {w W W' : World} {m' : NetM} {p : Nat} {F : Nat → Prop} {v : Value} {e : Ending} (hN : N ≤ W.heap.size) (hF : ∀ i, F i → N ≤ i) (hb : Below N w W) (h : NetPost W F p v m' e W') : e = .returned v ∧ St N w m' p W' := by
  obtain ⟨he, F', h1, h2, h3⟩ := h
  refine ⟨he, F', h1, fun i hi => ?_, ?_⟩
  · rcases h3 i hi with h | h
    · exact hF i h
    · omega
  · exact hb.trans ⟨h2.os, h2.tape, h2.output, h2.size, fun k hk => h2.block k (by omega) (fun e => by have := hF k e; omega)⟩
theorem St.size {N : Nat} {w W : World} {m : NetM} {p : Nat} (h : St N w m p W) (hN : N ≤ w.heap.size) : N ≤ W.heap.size := by
  obtain ⟨F, _, _, hb⟩ := h; exact Nat.le_trans hN hb.size
theorem St.below {N : Nat} {w W W' : World} {m : NetM} {p : Nat} (h : St N w m p W) (hN : N ≤ w.heap.size) (hb : Below W.heap.size W W') : St N w m p W' := by
  have hs := h.size hN
  obtain ⟨F, h1, h2, h3⟩ := h
  exact ⟨F, h1.mod (G := fun _ => False) (Mod.of_below hb) (fun _ _ h => h), h2, h3.trans (hb.mono hs)⟩
theorem St.send {N : Nat} {w W : World} {m : NetM} {p : Nat} (h : St N w m p W) (hN : N ≤ w.heap.size) (a b : Int) (t : ByteArray) {e : Int} (he : sendE m a b t = e) {m' : NetM} (hm : sendR m a b t = m') :
    Calls Try.prog 11 #[.pointer (some ⟨p, 0, none⟩), .int .i64 a, .int .i64 b, .string t] W fun x W' => x = .returned (.int .i64 e) ∧ St N w m' p W' := by
  have hs := h.size hN
  obtain ⟨F, h1, h2, h3⟩ := h
  subst he hm
  exact (send_any h1 a b t).mono fun x W' hp => St.step hs h2 h3 hp
theorem St.deliver {N : Nat} {w W : World} {m : NetM} {p : Nat} (h : St N w m p W) (hN : N ≤ w.heap.size) (a b : Int) (lost again : Bool) {s : ByteArray} {ok : Bool} (he : delE m a b lost = (s, ok)) {m' : NetM} (hm : delM m a b lost again = m') :
    Calls Try.prog 12 #[.pointer (some ⟨p, 0, none⟩), .int .i64 a, .int .i64 b, .bool lost, .bool again] W fun x W' => x = .returned (.tuple #[.string s, .bool ok]) ∧ St N w m' p W' := by
  have hs := h.size hN
  obtain ⟨F, h1, h2, h3⟩ := h
  subst hm
  have := deliver_any h1 a b lost again
  rw [he] at this
  exact this.mono fun x W' hp => St.step hs h2 h3 hp
theorem St.cut {N : Nat} {w W : World} {m : NetM} {p : Nat} (h : St N w m p W) (hN : N ≤ w.heap.size) (a b : Int) {e : Int} (he : turnE m a b true = e) {m' : NetM} (hm : turnR m a b true = m') :
    Calls Try.prog 20 #[.pointer (some ⟨p, 0, none⟩), .int .i64 a, .int .i64 b] W fun x W' => x = .returned (.int .i64 e) ∧ St N w m' p W' := by
  have hs := h.size hN
  obtain ⟨F, h1, h2, h3⟩ := h
  subst he hm
  exact (cut_any h1 a b).mono fun x W' hp => St.step hs h2 h3 hp
theorem St.heal {N : Nat} {w W : World} {m : NetM} {p : Nat} (h : St N w m p W) (hN : N ≤ w.heap.size) (a b : Int) {e : Int} (he : turnE m a b false = e) {m' : NetM} (hm : turnR m a b false = m') :
    Calls Try.prog 21 #[.pointer (some ⟨p, 0, none⟩), .int .i64 a, .int .i64 b] W fun x W' => x = .returned (.int .i64 e) ∧ St N w m' p W' := by
  have hs := h.size hN
  obtain ⟨F, h1, h2, h3⟩ := h
  subst he hm
  exact (heal_any h1 a b).mono fun x W' hp => St.step hs h2 h3 hp

/-- A list of texts in new memory, as a slice. -/
def ListAt (N : Nat) (v : Value) (l : List ByteArray) (W : World) : Prop := ∃ A c, v = .slice A l.length c ∧ W.ownsRow N 9 1 v l.length (strs l)
theorem listAt_of_own {N : Nat} {v : Value} {l : List ByteArray} {W : World} (h : W.ownsRow N 9 1 v l.length (strs l)) : ListAt N v l W := by
  rcases h.2 with ⟨h1, h2⟩ | ⟨g, cap, cur, h1, _⟩
  · exact ⟨none, 0, by rw [h1, h2], h⟩
  · exact ⟨_, cap, h1, h⟩
theorem ListAt.src {N : Nat} {A : Option Addr} {n c : Nat} {l : List ByteArray} {W : World} (h : ListAt N (.slice A n c) l W) : Src W A n 1 (strs l) ∧ n = l.length := by
  obtain ⟨A', c', e, h⟩ := h
  injection e with e1 e2 e3
  subst e1 e2 e3
  exact ⟨Src.of_own h (strs_one l), rfl⟩
theorem St.waiting {N : Nat} {w W : World} {m : NetM} {p : Nat} (h : St N w m p W) (hN : N ≤ w.heap.size) (a b : Int) {l : List ByteArray} (hl : waitM m a b = l) :
    Calls Try.prog 14 #[.pointer (some ⟨p, 0, none⟩), .int .i64 a, .int .i64 b] W fun x W' => ∃ A c, x = .returned (.slice A l.length c) ∧ W'.ownsRow W.heap.size 9 1 (.slice A l.length c) l.length (strs l) ∧ Below W.heap.size W W' ∧ St N w m p W' := by
  have hs := h
  obtain ⟨F, h1, h2, h3⟩ := h
  subst hl
  refine (waiting_any h1 a b).mono fun x W' hp => ?_
  obtain ⟨v, he, ho, hb⟩ := hp
  obtain ⟨A, c, rfl, _⟩ := listAt_of_own ho
  exact ⟨A, c, he, ho, hb, hs.below hN hb⟩

def h0 : NetM := ⟨3, fun _ => [], fun _ => false⟩
def tA : ByteArray := ⟨#[97]⟩
def tB : ByteArray := ⟨#[98]⟩
def tC : ByteArray := ⟨#[99]⟩
def tD : ByteArray := ⟨#[100]⟩
def h1 : NetM := sendM h0 0 1 tA
def h2 : NetM := sendM h1 0 1 tB
def h3 : NetM := popM h2 0 1
def h4 : NetM := popM h3 0 1
def h5 : NetM := turnK h4 1 0 true 2
def h6 : NetM := sendM h5 0 2 tD

set_option maxHeartbeats 2000000 in
theorem head_any (w : World) : Calls Try.prog 9 #[] w (BelowRet w (.bool true)) := by
  have hN := Nat.le_refl w.heap.size
  have ta : tA.toList = [97] := ByteArray.toList_mk [97]
  have tb : tB.toList = [98] := ByteArray.toList_mk [98]
  go_enter Try.func9, Try.ntmps9
  go_wp2_with fail
  refine (new_yes 3 _ (by omega) (by omega)).mono ?_
  rintro e w1 ⟨p, rfl, hN1, hb1⟩
  have s0 : St w.heap.size w h0 p w1 := ⟨_, hN1, fun i hi => hi.1, hb1⟩
  clear hN1 hb1
  go_wp2_with fail
  refine (s0.send hN 0 1 tA (e := 0) (by decide) (m' := h1) rfl).mono ?_
  rintro e w2 ⟨rfl, s1⟩
  go_wp2_with fail
  refine (s1.send hN 0 1 tB (e := 0) (by decide) (m' := h2) rfl).mono ?_
  rintro e w3 ⟨rfl, s2⟩
  go_wp2_with fail
  refine (s2.deliver hN 0 1 false true (s := tA) (ok := true) (by decide) (m' := h2) rfl).mono ?_
  rintro e w4 ⟨rfl, s3⟩
  go_wp2_with fail
  refine (s3.deliver hN 0 1 true false (s := ⟨#[]⟩) (ok := false) (by decide) (m' := h3) rfl).mono ?_
  rintro e w5 ⟨rfl, s4⟩
  go_wp2_with fail
  refine (s4.deliver hN 0 1 false false (s := tB) (ok := true) (by decide) (m' := h4) rfl).mono ?_
  rintro e w6 ⟨rfl, s5⟩
  go_wp2_with fail
  refine (s5.cut hN 1 0 (e := 0) (by decide) (m' := h5) rfl).mono ?_
  rintro e w7 ⟨rfl, s6⟩
  go_wp2_with fail
  refine (s6.send hN 0 1 tC (e := 29) (by decide) (m' := h5) rfl).mono ?_
  rintro e w8 ⟨rfl, s7⟩
  go_wp2_with fail
  refine (s7.send hN 0 2 tD (e := 0) (by decide) (m' := h6) rfl).mono ?_
  rintro e w9 ⟨rfl, s8⟩
  go_wp2_with fail
  refine (s8.waiting hN 0 2 (l := [tD]) (by decide)).mono ?_
  rintro e w10 ⟨A, c, rfl, ho, hb, s9⟩
  have HO := hide ho
  have HB := hide hb
  clear s0 s1 s2 s3 s4 s5 s6 s7 s8 ho hb
  have k1 : Src (w10.alloc (.cells #[.string ⟨#[100]⟩] 9)) A 1 1 (strs [tD]) := (Src.of_own HO.out (strs_one _)).keep (fun ad e => heap_old (ownsRow_lt HO.out (by rw [e]; rfl)))
  have k2 : Src (w10.alloc (.cells #[.string ⟨#[100]⟩] 9)) (some ⟨w10.heap.size, 0, none⟩) 1 1 (strs [tD]) := Src.one (heap_new rfl) rfl
  have KT := hide (texts_any (c := c) (d := 1) k1 k2 (by omega))
  have ht : decide ([tD] = [tD]) = true := by simp
  rw [ht] at KT
  clear k1 k2 ht
  go_wp2_with (go_at_call 13; go_must (refine KT.out.mono ?_); rintro e w11 ⟨rfl, hb11⟩)
  go_ret
  obtain ⟨F, _, _, hbb⟩ := s9
  exact ⟨rfl, hbb.trans ((below_alloc _ _).trans (hb11.mono (by simp)) |>.mono (by have := hbb.size; omega))⟩
end Go.Proofs.Ytolpcjpnjicmkaa
