/-
  Net: the reference: Deliver.
-/
import Derived.Test.YtolpcjpnjicmkaaRef4
set_option linter.unusedSimpArgs false
set_option linter.unusedVariables false
namespace Go.Proofs.Ytolpcjpnjicmkaa
open Go.RowKit Go.CH
open Go.ChangeMaps (setBlock)

def rdelE (m : RefM) (a b : Int) (lost : Bool) : ByteArray × Bool :=
  if pairB m.n a b = true ∧ 0 ≤ idxG (fr a b) m.L 0 ∧ lost = false then (((m.L[(idxG (fr a b) m.L 0).toNat]?).map RMsg.s).getD ⟨#[]⟩, true) else (⟨#[]⟩, false)
def rdelR (m : RefM) (a b : Int) (lost again : Bool) : RefM :=
  if pairB m.n a b = true ∧ 0 ≤ idxG (fr a b) m.L 0 ∧ (lost = true ∨ again = false) then { m with L := m.L.eraseIdx (idxG (fr a b) m.L 0).toNat } else m
theorem rdel_none {m : RefM} {a b : Int} (h : idxG (fr a b) m.L 0 = -1) (lost again : Bool) : rdelE m a b lost = (⟨#[]⟩, false) ∧ rdelR m a b lost again = m := by
  simp [rdelE, rdelR, h]
theorem rdel_pair {m : RefM} {a b : Int} (h : pairB m.n a b = false) (lost again : Bool) : rdelE m a b lost = (⟨#[]⟩, false) ∧ rdelR m a b lost again = m := by
  simp [rdelE, rdelR, h]
theorem rdel_some {m : RefM} {a b : Int} (hp : pairB m.n a b = true) {k : Nat} (hk : k < m.L.length) (h : idxG (fr a b) m.L 0 = k) (lost again : Bool) :
    rdelE m a b lost = (if lost then (⟨#[]⟩, false) else (m.L[k].s, true)) ∧ rdelR m a b lost again = if lost || !again then { m with L := m.L.eraseIdx k } else m := by
  unfold rdelE rdelR
  rw [h, hp]
  have h0 : (0 : Int) ≤ k := by omega
  cases lost <;> cases again <;> simp [h0, hk]

theorem runS2 {F0 : Nat → Prop} {w0 W : World} {X : Own} {m : RefM} {p : Nat} {A : Option Addr} {c : Nat} {B : Option Addr} {d : Nat} (h : Run F0 w0 (star X (RefS m p A c B d)) W) : Run F0 w0 (star X (star (CellO p #[.int .i64 m.n, .slice A m.L.length c, .slice B m.G.length d] 64) (star (RowO 67 3 (.slice A m.L.length c) m.L.length (msgs m.L)) (RowO 57 2 (.slice B m.G.length d) m.G.length (prs m.G))))) W := h
set_option maxRecDepth 100000 in
set_option maxHeartbeats 400000 in
theorem rdel_no {w : World} {F : Nat → Prop} {m : RefM} {p : Nat} (h : RefO m p w F) (a b : Int) (lost again : Bool) (hp : pairB m.n a b = false) :
    Calls Try.prog 27 #[.pointer (some ⟨p, 0, none⟩), .int .i64 a, .int .i64 b, .bool lost, .bool again] w (RPost w F (.tuple #[.string ⟨#[]⟩, .bool false]) m p) := by
  have r0 := Run.start h
  obtain ⟨A, c, B, d, r1⟩ := runRef r0
  have R1 := hide r1
  have KP := hide (pair_ref (runRead r1).c0 a b)
  rw [hp] at KP
  clear h r0 r1 hp
  go_enter Try.func27, Try.ntmps27
  go_wp2_with fail
  refine KP.out.mono ?_
  rintro e w1 ⟨rfl, rfl⟩
  go_wp2
  go_ret2
  exact ⟨rfl, (R1.out.post refS_ok).imp fun F' h => ⟨h.1.shut, h.2⟩⟩

set_option maxRecDepth 100000 in
set_option maxHeartbeats 3200000 in
theorem rdel_yes {w : World} {F : Nat → Prop} {m : RefM} {p : Nat} (h : RefO m p w F) (hL : m.L.length ≤ 500) (hG : m.G.length ≤ 500) (a b : Int) (lost again : Bool) (hp : pairB m.n a b = true) :
    Calls Try.prog 27 #[.pointer (some ⟨p, 0, none⟩), .int .i64 a, .int .i64 b, .bool lost, .bool again] w (RPost w F (.tuple #[.string (rdelE m a b lost).1, .bool (rdelE m a b lost).2]) (rdelR m a b lost again) p) := by
  have r0 := Run.start h
  obtain ⟨A, c, B, d, r1⟩ := runRef r0
  have R1 := hide r1
  have KP := hide (pair_ref (runRead r1).c0 a b)
  rw [hp] at KP
  have HP := hide hp
  clear h r0 r1 hp
  go_enter Try.func27, Try.ntmps27
  go_wp2_with fail
  refine KP.out.mono ?_
  rintro e w1 ⟨rfl, rfl⟩
  go_wp2
  go_loopw [12] (fun i wr => ∃ k : Nat, k ≤ m.L.length ∧ i = .int .i64 k ∧ Run F w (RefS m p A c B d) wr ∧ ∀ j (hj : j < m.L.length), j < k → fr a b m.L[j] = false) (fun i _ => m.L.length - (intOf i).toNat)
  case atStart => exact ⟨0, by omega, rfl, R1.out, fun _ _ h => by omega⟩
  case round =>
    obtain ⟨k, hk, rfl, hr, hn⟩ := hrel
    have HR := hide hr; have HN := hide hn
    have hrd := runRead hr
    have c1 := hrd.c1
    have HRD := hide hrd
    clear hr hn hrd
    by_cases hlt : k < m.L.length
    · obtain ⟨bb, o, rfl, g0, g1, g2⟩ := HRD.out.at_ hlt
      obtain ⟨⟨x, y, z⟩, hxy⟩ : ∃ z, m.L[k] = z := ⟨_, rfl⟩
      rw [hxy] at g0 g1 g2
      simp only [] at g0 g1 g2
      have HXY := hide hxy; clear hxy
      have s5 := hide (HR.out.fresh refS_ok (cell_new wr #[.int .i64 x, .int .i64 y, .string z] 67))
      go_upto_region 7 with (fail)
      have hsz : wr.heap.size < (wr.alloc (.cells #[.int .i64 x, .int .i64 y, .string z] 67)).heap.size := by simp
      generalize wr.alloc (.cells #[.int .i64 x, .int .i64 y, .string z] 67) = w5 at *
      generalize wr.heap.size = g at *
      obtain ⟨F5, hC5⟩ := s5.out.fst
      have e0 := cell_at hC5 (i := 0) rfl
      have e1 := cell_at hC5 (i := 1) rfl
      have e2 := cell_at hC5 (i := 2) rfl
      clear hC5 g0 g1 g2 c1
      cases q : fr a b m.L[k] with
      | false =>
        have HQ := hide q
        rw [HXY.out] at q
        have hnx : Hid (∀ j (hj : j < m.L.length), j < k + 1 → fr a b m.L[j] = false) := fun j hj hjk => (Nat.lt_succ_iff_lt_or_eq.1 hjk).elim (HN.out j hj) (fun e => by subst e; exact HQ.out)
        cases q1 : (x == a) with
        | false =>
          have q2 : (x != a) = true := by simp [bne, q1]
          clear q
          go_wp2
          go_roundw
          case rel => exact ⟨k + 1, hlt, by go_num, s5.out.drop, hnx.out⟩
          case measure => simp [intOf]; omega
        | true =>
          have q2 : (x != a) = false := by simp [bne, q1]
          have q3 : (y == b) = false := by simpa [fr, q1] using q
          have q4 : (y != b) = true := by simp [bne, q3]
          clear q
          go_wp2
          go_roundw
          case rel => exact ⟨k + 1, hlt, by go_num, s5.out.drop, hnx.out⟩
          case measure => simp [intOf]; omega
      | true =>
        have hix : idxG (fr a b) m.L 0 = k := (idxG_hit _ _ k 0 hlt (fun j hj hjk => HN.out j hj hjk) q).trans (by omega)
        have hds := hide (rdel_some HP.out hlt hix lost again)
        rw [HXY.out] at q hds
        have q1 : (x == a) = true := by cases h : (x == a) <;> simp [fr, h] at q ⊢
        have q3 : (y == b) = true := by cases h : (y == b) <;> simp [fr, h] at q ⊢
        have q2 : (x != a) = false := by simp [bne, q1]
        have q4 : (y != b) = false := by simp [bne, q3]
        clear q hix
        simp only [] at hds
        obtain ⟨L', hL'⟩ : ∃ L', m.L.eraseIdx k = L' := ⟨_, rfl⟩
        have hl' : k + (m.L.length - (k + 1)) = L'.length := by rw [← hL', List.length_eraseIdx]; simp [hlt]; omega
        rw [hL'] at hds
        have HE' := hide hL'; have HL' := hide hl'
        clear hL' hl'
        cases lost with
        | true =>
          rw [show (if (true || !again) = true then ({ m with L := L' } : RefM) else m) = { m with L := L' } from rfl] at hds
          have R2 := hide (runS2 (s5.out.drew (star_ok cell_ok refS_ok)))
          obtain ⟨FC2, hC2⟩ := R2.out.rot.fst
          have c1 := cell_at hC2 (i := 1) rfl
          obtain ⟨FL2, hL2⟩ := (Run.rot3 R2.out).fst
          have HSB := hide (runRead (s5.out.drop.drew refS_ok)).l
          have hcap : m.L.length ≤ c := by obtain ⟨G1, ⟨_, _, _, ⟨_, _, hrow, _⟩, _⟩⟩ := (runS2 s5.out).drop.get; exact (row_cap hrow.1).1
          have hs1 := fun w => run_slice_to msgOk (some ⟨bb, o, none⟩) m.L.length c k .i64 k rfl (by omega) w
          have hs2 := fun w => run_slice_from msgOk (some ⟨bb, o, none⟩) m.L.length c (k + 1) .i64 (IntKind.i64.wrap ((k : Int) + 1)) (by rw [IntWalk.i64_in _ (by omega)]; push_cast; rfl) (by omega) w
          have HCAP := hide hcap
          clear hcap hC2 hL2
          go_wp2
          refine wp_region_ley (fun w' => w'.cell? ⟨p, 1, none⟩ = some (.slice (some ⟨bb, o, none⟩) m.L.length c)) (by kernel_rfl) (by kernel_rfl) (by kernel_rfl) c1 ?_
          (repeat (first | (refine ley_skip (by rfl) ?_; try simp only [Act.put, List.setIfInBounds_toArray, List.set_cons_zero, List.set_cons_succ]) | (refine ley_read (v := ?_) (by rfl) ?_ ?_; rotate_left; (focus (intro w' hS'; go_simp; (try with_reducible rfl); done)); try simp only [Act.put, List.setIfInBounds_toArray, List.set_cons_zero, List.set_cons_succ])))
          refine ley_chain rfl (by rfl) (fun K hK => ?_)
          go_wp2_with fail
          have S3 := hide (R2.out.fresh (star_ok cell_ok (star_ok cell_ok (star_ok row_ok row_ok))) (row_made w5.drew 67 3))
          obtain ⟨FC3, hC3⟩ := S3.out.rot3.fst
          refine hK.out _ _ (cell_at hC3 rfl) ?_
          clear hC3 hK
          (repeat (first | (refine ley_skip (by rfl) ?_; try simp only [Act.put, List.setIfInBounds_toArray, List.set_cons_zero, List.set_cons_succ]) | (refine ley_read (v := ?_) (by rfl) ?_ ?_; rotate_left; (focus (intro w' hS'; go_simp; (try with_reducible rfl); done)); try simp only [Act.put, List.setIfInBounds_toArray, List.set_cons_zero, List.set_cons_succ])))
          refine ley_chain rfl (by rfl) (fun K hK => ?_)
          obtain ⟨F3, hR3, -, hbk3⟩ := S3.out.take row_ok (star_ok cell_ok (star_ok cell_ok (star_ok row_ok row_ok)))
          have hsrc1 : Src w5.drew (some ⟨bb, o, none⟩) k 3 (msgs (m.L.take k)) := by
            have := HSB.out.take (k := k) (by omega)
            rwa [show (msgs m.L).take (k * 3) = msgs (m.L.take k) from flat_take msgL 3 (fun _ => rfl) _ _] at this
          refine wp_app (.tmp 51) (.tmp 57) rfl msgOk _ 0 (v := .slice (some ⟨w5.heap.size, 0, none⟩) 0 0) (n := 0) (xs := []) rfl hR3.1 (A := (some ⟨bb, o, none⟩)) (m := k) (c := c) (news := msgs (m.L.take k)) rfl (Src.below hsrc1 ((Below.refl _ _).alloc (Nat.le_refl _) _)) (by omega) (by omega) (Nat.zero_le _) ?_
          intro v4 w4 ho4 hg4 hv4
          have S4 := hide (hbk3 _ _ (row_app hR3 ho4 hg4 hv4))
          have hm4 : Below w5.drew.heap.size w5.drew w4 := by
            refine ((Below.refl _ _).alloc (Nat.le_refl _) _).grown hg4 (by simp) (fun i hi => ?_)
            simp [Value.ownBlock] at hi; subst hi; exact Nat.le_refl _
          obtain ⟨FC4, hC4⟩ := S4.out.rot3.fst
          refine hK.out _ _ (cell_at hC4 rfl) ?_
          obtain ⟨A4, c4, rfl⟩ := own_form ho4
          have HM4 := hide hm4
          clear hC4 hK hR3 hbk3 ho4 hg4 hv4 hsrc1 hm4
          (repeat (first | (refine ley_skip (by rfl) ?_; try simp only [Act.put, List.setIfInBounds_toArray, List.set_cons_zero, List.set_cons_succ]) | (refine ley_read (v := ?_) (by rfl) ?_ ?_; rotate_left; (focus (intro w' hS'; go_simp; (try with_reducible rfl); done)); try simp only [Act.put, List.setIfInBounds_toArray, List.set_cons_zero, List.set_cons_succ])))
          refine ley_chain rfl (by rfl) (fun K hK => ?_)
          obtain ⟨F5', hR5, -, hbk5⟩ := S4.out.take row_ok (star_ok cell_ok (star_ok cell_ok (star_ok row_ok row_ok)))
          have hsrc2 : Src w5.drew (cutA (some ⟨bb, o, none⟩) c (k + 1) 3) (m.L.length - (k + 1)) 3 (msgs (m.L.drop (k + 1))) := by
            have := HSB.out.cut (k := k + 1) (c := c) (by omega) HCAP.out
            rwa [show (msgs m.L).drop ((k + 1) * 3) = msgs (m.L.drop (k + 1)) from flat_drop msgL 3 (fun _ => rfl) _ _] at this
          refine wp_app (.tmp 58) (.tmp 65) rfl msgOk _ 0 (v := .slice A4 (0 + k) c4) (n := 0 + k) (xs := [] ++ msgs (m.L.take k)) rfl hR5.1 (A := cutA (some ⟨bb, o, none⟩) c (k + 1) 3) (m := m.L.length - (k + 1)) (c := c - (k + 1)) (news := msgs (m.L.drop (k + 1))) rfl (Src.below hsrc2 HM4.out) (by omega) (by omega) (Nat.zero_le _) ?_
          intro v6 w6 ho6 hg6 hv6
          have hl6 : 0 + k + (m.L.length - (k + 1)) = L'.length := by rw [Nat.zero_add]; exact HL'.out
          have hx6 : [] ++ msgs (m.L.take k) ++ msgs (m.L.drop (k + 1)) = msgs L' := by
            rw [List.nil_append, ← HE'.out, ← erase_eq]; simp [msgs]
          rw [hl6, hx6] at ho6
          have S6 := hide (hbk5 _ _ (row_app hR5 ho6 hg6 hv6))
          obtain ⟨FC6, hC6⟩ := S6.out.rot3.fst
          refine hK.out _ _ (cell_at hC6 rfl) ?_
          obtain ⟨A6, c6, rfl⟩ := own_form ho6
          obtain ⟨F7, hC7, -, hbk7⟩ := S6.out.rot3.take cell_ok (star_ok row_ok (star_ok cell_ok (star_ok row_ok row_ok)))
          have k1 := cell_at hC7 (i := 1) rfl
          have k2 := cell_free hC7 1
          have HF0 := hide (hbk7 _ _ (cell_set hC7 1 (.slice A6 L'.length c6))).rot3
          have HFIN := hide HF0.out.drop.rot3.drop
          obtain ⟨F8, hC8⟩ := HF0.out.fst
          have n2 := cell_at hC8 (i := 2) rfl
          clear hC6 hK hR5 hbk5 ho6 hg6 hv6 hsrc2 hl6 hx6 hC7 hbk7 hC8
          (repeat (first | (refine ley_skip (by rfl) ?_; try simp only [Act.put, List.setIfInBounds_toArray, List.set_cons_zero, List.set_cons_succ]) | (refine ley_read (v := ?_) (by rfl) ?_ ?_; rotate_left; (focus (intro w' hS'; go_simp; (try with_reducible rfl); done)); try simp only [Act.put, List.setIfInBounds_toArray, List.set_cons_zero, List.set_cons_succ])))
          refine ley_last rfl (by rfl) (fun K hK => ?_)
          go_wp2_with fail
          refine hK.out _ _ ?_
          go_wp2
          go_ret2
          refine ⟨by rw [hds.out.1]; rfl, ?_⟩
          rw [hds.out.2]
          exact (HFIN.out.post (star_ok cell_ok (star_ok row_ok row_ok))).imp fun F' h => ⟨⟨A6, c6, B, d, h.1⟩, h.2⟩
        | false =>
          cases again with
          | false =>
            rw [show (if (false || !false) = true then ({ m with L := L' } : RefM) else m) = { m with L := L' } from rfl] at hds
            have R2 := hide (runS2 (s5.out.drew (star_ok cell_ok refS_ok)))
            obtain ⟨FC2, hC2⟩ := R2.out.rot.fst
            have c1 := cell_at hC2 (i := 1) rfl
            obtain ⟨FL2, hL2⟩ := (Run.rot3 R2.out).fst
            have HSB := hide (runRead (s5.out.drop.drew refS_ok)).l
            have hcap : m.L.length ≤ c := by obtain ⟨G1, ⟨_, _, _, ⟨_, _, hrow, _⟩, _⟩⟩ := (runS2 s5.out).drop.get; exact (row_cap hrow.1).1
            have hs1 := fun w => run_slice_to msgOk (some ⟨bb, o, none⟩) m.L.length c k .i64 k rfl (by omega) w
            have hs2 := fun w => run_slice_from msgOk (some ⟨bb, o, none⟩) m.L.length c (k + 1) .i64 (IntKind.i64.wrap ((k : Int) + 1)) (by rw [IntWalk.i64_in _ (by omega)]; push_cast; rfl) (by omega) w
            have HCAP := hide hcap
            clear hcap hC2 hL2
            go_wp2
            refine wp_region_ley (fun w' => w'.cell? ⟨p, 1, none⟩ = some (.slice (some ⟨bb, o, none⟩) m.L.length c)) (by kernel_rfl) (by kernel_rfl) (by kernel_rfl) c1 ?_
            (repeat (first | (refine ley_skip (by rfl) ?_; try simp only [Act.put, List.setIfInBounds_toArray, List.set_cons_zero, List.set_cons_succ]) | (refine ley_read (v := ?_) (by rfl) ?_ ?_; rotate_left; (focus (intro w' hS'; go_simp; (try with_reducible rfl); done)); try simp only [Act.put, List.setIfInBounds_toArray, List.set_cons_zero, List.set_cons_succ])))
            refine ley_chain rfl (by rfl) (fun K hK => ?_)
            go_wp2_with fail
            have S3 := hide (R2.out.fresh (star_ok cell_ok (star_ok cell_ok (star_ok row_ok row_ok))) (row_made w5.drew 67 3))
            obtain ⟨FC3, hC3⟩ := S3.out.rot3.fst
            refine hK.out _ _ (cell_at hC3 rfl) ?_
            clear hC3 hK
            (repeat (first | (refine ley_skip (by rfl) ?_; try simp only [Act.put, List.setIfInBounds_toArray, List.set_cons_zero, List.set_cons_succ]) | (refine ley_read (v := ?_) (by rfl) ?_ ?_; rotate_left; (focus (intro w' hS'; go_simp; (try with_reducible rfl); done)); try simp only [Act.put, List.setIfInBounds_toArray, List.set_cons_zero, List.set_cons_succ])))
            refine ley_chain rfl (by rfl) (fun K hK => ?_)
            obtain ⟨F3, hR3, -, hbk3⟩ := S3.out.take row_ok (star_ok cell_ok (star_ok cell_ok (star_ok row_ok row_ok)))
            have hsrc1 : Src w5.drew (some ⟨bb, o, none⟩) k 3 (msgs (m.L.take k)) := by
              have := HSB.out.take (k := k) (by omega)
              rwa [show (msgs m.L).take (k * 3) = msgs (m.L.take k) from flat_take msgL 3 (fun _ => rfl) _ _] at this
            refine wp_app (.tmp 51) (.tmp 57) rfl msgOk _ 0 (v := .slice (some ⟨w5.heap.size, 0, none⟩) 0 0) (n := 0) (xs := []) rfl hR3.1 (A := (some ⟨bb, o, none⟩)) (m := k) (c := c) (news := msgs (m.L.take k)) rfl (Src.below hsrc1 ((Below.refl _ _).alloc (Nat.le_refl _) _)) (by omega) (by omega) (Nat.zero_le _) ?_
            intro v4 w4 ho4 hg4 hv4
            have S4 := hide (hbk3 _ _ (row_app hR3 ho4 hg4 hv4))
            have hm4 : Below w5.drew.heap.size w5.drew w4 := by
              refine ((Below.refl _ _).alloc (Nat.le_refl _) _).grown hg4 (by simp) (fun i hi => ?_)
              simp [Value.ownBlock] at hi; subst hi; exact Nat.le_refl _
            obtain ⟨FC4, hC4⟩ := S4.out.rot3.fst
            refine hK.out _ _ (cell_at hC4 rfl) ?_
            obtain ⟨A4, c4, rfl⟩ := own_form ho4
            have HM4 := hide hm4
            clear hC4 hK hR3 hbk3 ho4 hg4 hv4 hsrc1 hm4
            (repeat (first | (refine ley_skip (by rfl) ?_; try simp only [Act.put, List.setIfInBounds_toArray, List.set_cons_zero, List.set_cons_succ]) | (refine ley_read (v := ?_) (by rfl) ?_ ?_; rotate_left; (focus (intro w' hS'; go_simp; (try with_reducible rfl); done)); try simp only [Act.put, List.setIfInBounds_toArray, List.set_cons_zero, List.set_cons_succ])))
            refine ley_chain rfl (by rfl) (fun K hK => ?_)
            obtain ⟨F5', hR5, -, hbk5⟩ := S4.out.take row_ok (star_ok cell_ok (star_ok cell_ok (star_ok row_ok row_ok)))
            have hsrc2 : Src w5.drew (cutA (some ⟨bb, o, none⟩) c (k + 1) 3) (m.L.length - (k + 1)) 3 (msgs (m.L.drop (k + 1))) := by
              have := HSB.out.cut (k := k + 1) (c := c) (by omega) HCAP.out
              rwa [show (msgs m.L).drop ((k + 1) * 3) = msgs (m.L.drop (k + 1)) from flat_drop msgL 3 (fun _ => rfl) _ _] at this
            refine wp_app (.tmp 58) (.tmp 65) rfl msgOk _ 0 (v := .slice A4 (0 + k) c4) (n := 0 + k) (xs := [] ++ msgs (m.L.take k)) rfl hR5.1 (A := cutA (some ⟨bb, o, none⟩) c (k + 1) 3) (m := m.L.length - (k + 1)) (c := c - (k + 1)) (news := msgs (m.L.drop (k + 1))) rfl (Src.below hsrc2 HM4.out) (by omega) (by omega) (Nat.zero_le _) ?_
            intro v6 w6 ho6 hg6 hv6
            have hl6 : 0 + k + (m.L.length - (k + 1)) = L'.length := by rw [Nat.zero_add]; exact HL'.out
            have hx6 : [] ++ msgs (m.L.take k) ++ msgs (m.L.drop (k + 1)) = msgs L' := by
              rw [List.nil_append, ← HE'.out, ← erase_eq]; simp [msgs]
            rw [hl6, hx6] at ho6
            have S6 := hide (hbk5 _ _ (row_app hR5 ho6 hg6 hv6))
            obtain ⟨FC6, hC6⟩ := S6.out.rot3.fst
            refine hK.out _ _ (cell_at hC6 rfl) ?_
            obtain ⟨A6, c6, rfl⟩ := own_form ho6
            obtain ⟨F7, hC7, -, hbk7⟩ := S6.out.rot3.take cell_ok (star_ok row_ok (star_ok cell_ok (star_ok row_ok row_ok)))
            have k1 := cell_at hC7 (i := 1) rfl
            have k2 := cell_free hC7 1
            have HF0 := hide (hbk7 _ _ (cell_set hC7 1 (.slice A6 L'.length c6))).rot3
            have HFIN := hide HF0.out.drop.rot3.drop
            obtain ⟨F8, hC8⟩ := HF0.out.fst
            have n2 := cell_at hC8 (i := 2) rfl
            clear hC6 hK hR5 hbk5 ho6 hg6 hv6 hsrc2 hl6 hx6 hC7 hbk7 hC8
            (repeat (first | (refine ley_skip (by rfl) ?_; try simp only [Act.put, List.setIfInBounds_toArray, List.set_cons_zero, List.set_cons_succ]) | (refine ley_read (v := ?_) (by rfl) ?_ ?_; rotate_left; (focus (intro w' hS'; go_simp; (try with_reducible rfl); done)); try simp only [Act.put, List.setIfInBounds_toArray, List.set_cons_zero, List.set_cons_succ])))
            refine ley_last rfl (by rfl) (fun K hK => ?_)
            go_wp2_with fail
            refine hK.out _ _ ?_
            go_wp2
            go_ret2
            refine ⟨by rw [hds.out.1]; rfl, ?_⟩
            rw [hds.out.2]
            exact (HFIN.out.post (star_ok cell_ok (star_ok row_ok row_ok))).imp fun F' h => ⟨⟨A6, c6, B, d, h.1⟩, h.2⟩
          | true =>
            go_wp2
            go_ret2
            exact ⟨by rw [hds.out.1]; rfl, by rw [hds.out.2]; exact (s5.out.drop.post refS_ok).imp fun F' h => ⟨h.1.shut, h.2⟩⟩
    · have hds := hide (rdel_none (idxG_miss (fr a b) m.L 0 (fun j hj => HN.out j hj (by omega))) lost again)
      go_wp2
      go_ret2
      exact ⟨by rw [hds.out.1]; rfl, by rw [hds.out.2]; exact (HR.out.post refS_ok).imp fun F' h => ⟨h.1.shut, h.2⟩⟩
theorem rdel_any {w : World} {F : Nat → Prop} {m : RefM} {p : Nat} (h : RefO m p w F) (hL : m.L.length ≤ 500) (hG : m.G.length ≤ 500) (a b : Int) (lost again : Bool) :
    Calls Try.prog 27 #[.pointer (some ⟨p, 0, none⟩), .int .i64 a, .int .i64 b, .bool lost, .bool again] w (RPost w F (.tuple #[.string (rdelE m a b lost).1, .bool (rdelE m a b lost).2]) (rdelR m a b lost again) p) := by
  cases hp : pairB m.n a b with
  | true => exact rdel_yes h hL hG a b lost again hp
  | false =>
    have := rdel_no h a b lost again hp
    rw [(rdel_pair hp lost again).1, (rdel_pair hp lost again).2]
    exact this
end Go.Proofs.Ytolpcjpnjicmkaa
