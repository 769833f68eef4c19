/-
  NetFull.
-/
import Derived.Test.YtolpcjpnjicmkaaNet7
namespace Go.Proofs.Ytolpcjpnjicmkaa
open Go.RowKit Go.CH
open Go.ChangeMaps (setBlock)

def fullM (t : ByteArray) (k : Nat) : NetM := ⟨2, fun x => if x = (1, 0) then List.replicate (min k 100) t else [], fun _ => false⟩

theorem fullM_q (t : ByteArray) (k : Nat) : (fullM t k).q (1, 0) = List.replicate (min k 100) t := by simp [fullM]
theorem fullM_zero (t : ByteArray) : fullM t 0 = ⟨2, fun _ => [], fun _ => false⟩ := by simp [fullM]
theorem full_E (t : ByteArray) (k : Nat) (ht : t.size ≤ 100) : sendE (fullM t k) 1 0 t = if k < 100 then 0 else 28 := by
  have hk : knowsB (fullM t k).nodes 1 0 = true := rfl
  have hc : (fullM t k).c (1, 0) = false := rfl
  have h1 : ¬ (knowsB (fullM t k).nodes 1 0 = false ∨ 20000 < t.size) := by rw [hk]; simp; omega
  unfold sendE
  rw [if_neg h1, if_neg (by rw [hc]; simp), fullM_q, List.length_replicate]
  by_cases h : k < 100
  · rw [if_neg (by omega), if_pos h]
  · rw [if_pos (by omega), if_neg h]
theorem full_R (t : ByteArray) (k : Nat) (ht : t.size ≤ 100) : sendR (fullM t k) 1 0 t = fullM t (k + 1) := by
  unfold sendR
  rw [full_E t k ht]
  by_cases h : k < 100
  · rw [if_pos h, if_pos rfl]
    unfold sendM
    rw [fullM_q]
    simp only [fullM, NetM.mk.injEq, true_and, and_true]
    funext x
    simp only [upd]
    by_cases hx : x = (1, 0)
    · rw [if_pos hx, if_pos hx, Nat.min_eq_left (by omega), Nat.min_eq_left (by omega), List.replicate_succ']
    · rw [if_neg hx, if_neg hx, if_neg hx]
  · rw [if_neg h, if_neg (by decide)]
    simp only [fullM, NetM.mk.injEq, true_and, and_true]
    funext x
    rw [show min k 100 = min (k + 1) 100 by omega]
theorem full_W (t : ByteArray) (k : Nat) : waitM (fullM t k) 1 0 = List.replicate (min k 100) t := by
  have hk : knowsB (fullM t k).nodes 1 0 = true := rfl
  rw [waitM, if_pos hk, fullM_q]
theorem full_F (t : ByteArray) (k : Nat) (ht : t.size ≤ 100) : sendE (fullM t k) 0 1 t = 0 := by
  have hk : knowsB (fullM t k).nodes 0 1 = true := rfl
  have hc : (fullM t k).c (0, 1) = false := rfl
  have h1 : ¬ (knowsB (fullM t k).nodes 0 1 = false ∨ 20000 < t.size) := by rw [hk]; simp; omega
  have hq : (fullM t k).q (0, 1) = [] := by simp [fullM]
  unfold sendE
  rw [if_neg h1, if_neg (by rw [hc]; simp), hq]
  simp

set_option maxHeartbeats 2000000 in
theorem full_long (r : Int) (t : ByteArray) (w : World) (ht : 100 < t.size) : Calls Try.prog 4 #[.int .u8 r, .string t] w (BelowRet w (.bool true)) := by
  go_enter Try.func4, Try.ntmps4
  go_wp2_with fail
  refine (head_any _).mono ?_
  rintro e w0 ⟨rfl, hb0⟩
  go_wp2_with fail
  refine (new_yes 2 _ (by omega) (by omega)).mono ?_
  rintro e w1 ⟨p, rfl, hN1, hb1⟩
  have HN1 := hide hN1
  clear hN1
  go_wp2_with fail
  go_ret
  exact ⟨rfl, hb0.trans (hb1.mono hb0.size)⟩

set_option maxHeartbeats 2000000 in
theorem full_any (r : Int) (t : ByteArray) (w : World) (ht : t.size ≤ 100) (h0 : 0 ≤ r) (h1 : r ≤ 255) : Calls Try.prog 4 #[.int .u8 r, .string t] w (BelowRet w (.bool true)) := by
  go_enter Try.func4, Try.ntmps4
  go_wp2_with fail
  refine (head_any _).mono ?_
  rintro e w0 ⟨rfl, hb0⟩
  go_wp2_with fail
  refine (new_yes 2 _ (by omega) (by omega)).mono ?_
  rintro e w1 ⟨p, rfl, hN1, hb1⟩
  have s0 : St w0.heap.size w0 (fullM t 0) p w1 := fullM_zero t ▸ ⟨_, hN1, fun i hi => hi.1, hb1⟩
  have S0 := hide s0
  clear hN1 hb1 s0
  go_wp2_with fail
  have hN := Nat.le_refl w0.heap.size
  go_loopw [9] (fun i wr => ∃ k : Nat, (k : Int) ≤ r % 130 ∧ i = .int .i64 k ∧ St w0.heap.size w0 (fullM t k) p wr) (fun i _ => (r % 130).toNat - (intOf i).toNat)
  case atStart => exact ⟨0, by omega, rfl, S0.out⟩
  case round =>
    obtain ⟨k, hk, rfl, hS⟩ := hrel
    have HS := hide hS
    clear hS
    by_cases hlt : (k : Int) < r % 130
    · by_cases h100 : k < 100
      · have hd : decide ((k : Int) < 100) = true := by simp; omega
        have KS := hide (HS.out.send hN 1 0 t (e := 0) (by rw [full_E t k ht, if_pos h100]) (full_R t k ht))
        go_wp2_with (go_at_call 11; go_must (refine KS.out.mono ?_); rintro e w2 ⟨rfl, s2⟩)
        go_roundw
        case rel => exact ⟨k + 1, by omega, by go_num, s2⟩
        case measure => simp [intOf]; omega
      · have hd : decide ((k : Int) < 100) = false := by simp; omega
        have KS := hide (HS.out.send hN 1 0 t (e := 28) (by rw [full_E t k ht, if_neg h100]) (full_R t k ht))
        go_wp2_with (go_at_call 11; go_must (refine KS.out.mono ?_); rintro e w2 ⟨rfl, s2⟩)
        go_roundw
        case rel => exact ⟨k + 1, by omega, by go_num, s2⟩
        case measure => simp [intOf]; omega
    · have KW := hide (HS.out.waiting hN 1 0 (full_W t k))
      go_wp2_with (first | (go_at_call 14; go_must (refine KW.out.mono ?_); rintro e w2 ⟨A, c, rfl, ho, hb, s2⟩) | (go_at_call 11; go_must (refine (s2.send hN 0 1 t (e := 0) (full_F t k ht) rfl).mono ?_); rintro e w3 ⟨rfl, s3⟩))
      all_goals
        go_ret
        obtain ⟨F, _, _, hbb⟩ := s3
        exact ⟨rfl, hb0.trans (hbb.mono hb0.size)⟩
end Go.Proofs.Ytolpcjpnjicmkaa
