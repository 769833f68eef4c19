/-
  LicenceNeverOverspent, walked.
-/
import Derived.Test.YtapabbpdfplpoaaV13
set_option linter.unusedSimpArgs false
set_option linter.unusedVariables false
namespace Go.Proofs.Ytapabbpdfplpoaa
open Go.RowKit Go.CH Go.CH.Lic
open Go.ChangeMaps (setBlock)

section
variable {W : World} {A : Option Addr} {n c : Nat} {l : List ZS}
set_option maxRecDepth 100000 in
set_option maxHeartbeats 3200000 in
theorem never_away (hs : Steps W A n l) (a : Int) (h1 : fewB (stepsM l) = false) : Calls Try.prog 13 #[.slice A n c, .int .i64 a] W (BelowRet W (.bool true)) := by
  have KH := hide (head35_any W)
  have KF := hide (fun w1 (hb : Below W.heap.size W w1) => fewL_any (c := c) (hs.keep hb))
  rw [h1] at KF
  clear hs h1
  go_enter Try.func13, Try.ntmps13
  go_wp2_with fail
  refine KH.out.mono ?_
  rintro e w1 ⟨rfl, hb1⟩
  have KA := hide (KF.out w1 hb1)
  have HB1 := hide hb1
  clear hb1
  go_wp2_with fail
  refine KA.out.mono ?_
  rintro e w2 ⟨rfl, hb2⟩
  have HB2 := hide (HB1.out.trans (hb2.mono HB1.out.size))
  clear hb2
  go_wp2
  go_ret
  exact bel_true HB2.out

set_option maxRecDepth 100000 in
set_option maxHeartbeats 25600000 in
theorem never_out (hs : Steps W A n l) (a : Int) (h1 : fewB (stepsM l) = true) (hin : ¬ inst a = true) : Calls Try.prog 13 #[.slice A n c, .int .i64 a] W (BelowRet W (.bool true)) := by
  have KH := hide (head35_any W)
  have KF := hide (fun w1 (hb : Below W.heap.size W w1) => fewL_any (c := c) (hs.keep hb))
  have hn25 : n ≤ 25 := by rw [← hs.len]; exact few_len h1
  have HS := hide hs
  have HIN := hide hin
  clear hin
  have HF := hide h1
  obtain ⟨xs, hxs⟩ : ∃ xs, xs = stepsM l := ⟨_, rfl⟩
  have HXS := hide hxs
  have HXL := hide (show n = xs.length by rw [hxs, ← hs.len]; unfold stepsM; simp)
  have HLL := hide (show l.length = n from hs.len)
  rw [h1] at KF
  clear hs h1 hxs
  go_enter Try.func13, Try.ntmps13
  go_wp2_with fail
  refine KH.out.mono ?_
  rintro e w1 ⟨rfl, hb1⟩
  have KA := hide (KF.out w1 hb1)
  have HB1 := hide hb1
  clear hb1
  go_wp2_with fail
  refine KA.out.mono ?_
  rintro e w2 ⟨rfl, hb2⟩
  have KB := hide (st_new ((Run.begin W).below emp_ok (HB1.out.trans (hb2.mono HB1.out.size))) emp_ok)
  clear hb2 KA KF KH HB1
  go_wp2_with fail
  refine KB.out.mono ?_
  rintro e w3 ⟨p, rfl, hS⟩
  have S3 := hide hS
  clear hS KB
  unfold gptr
  go_wp2
  go_loopw [7, 8] (fun e i wr => ∃ (k : Nat) (E : Option Addr) (cE : Nat), k ≤ n ∧ i = .int .i64 k ∧ e = .slice E k cE ∧ BSt W (star (RowO 25 1 (.slice E k cE) k (errV xs k)) emp) p (bk xs k) wr) (fun _ i _ => n - (intOf i).toNat)
  case atStart => exact ⟨0, none, 0, Nat.zero_le _, rfl, rfl, S3.out.nilrow 25 1⟩
  case round =>
    obtain ⟨k, E, cE, hk, rfl, rfl, hS⟩ := hrel
    clear S3
    by_cases hlt : k < n
    · have hkl : k < l.length := by rw [HLL.out]; exact hlt
      have HSX := hide (show sx xs k = l[k].x by rw [HXS.out]; exact sx_at hkl)
      have KD := hide (st_step hS HS.out HF.out hkl)
      have HBK := hide (show bk xs (k + 1) = (doR (bk xs k) l[k].x).2 by rw [bk_succ (by rw [← HXL.out]; exact hlt), HSX.out])
      have HEV := hide (show errV xs (k + 1) = errV xs k ++ [.int .i64 (doR (bk xs k) l[k].x).1] by rw [errV_succ]; unfold er; rw [HSX.out])
      obtain ⟨bA, oA, hA, hd⟩ := (HS.out.keep hS.bel).at_ hkl
      have HBS := hide (hS : BSt W _ p _ wr)
      rw [← HBK.out] at KD
      have HA := hide hA
      clear hS HSX hA
      generalize (doR (bk xs k) l[k].x).1 = ev at *
      generalize l[k] = z at *
      obtain ⟨d0, d1, d2, d3, d4, d5, d6, d7, d8, d9, d10, d11, d12⟩ := hd
      unfold stepV gptr at KD
      clear hkl HBK HBS
      rw [HA.out]
      clear HA
      go_wp2_with fail
      refine KD.out.mono ?_
      rintro e w4 ⟨rfl, hS⟩
      clear KD d0 d1 d2 d3 d4 d5 d6 d7 d8 d9 d10 d11 d12
      have S5 := hide (hS.below ((Below.refl _ _).alloc (Nat.le_refl _) (.cells #[.int .i64 ev] 25)))
      have HSR := hide (src_new7 w4 [.int .i64 ev] 25 (by intro u hu; simp at hu; subst hu; rfl))
      clear hS
      go_wp2_with (at_builtin; refine held ?_)
      obtain ⟨F7, hR7, -, bk7⟩ := (S5.out.run.perm (by ac_rfl : _ = star (RowO 25 1 (.slice E k cE) k (errV xs k)) (star (BkO (bk xs (k + 1)) p) emp))).take row_ok (star_ok bkO_ok emp_ok)
      refine Held.mk (wpList_app rfl (.tmp 30) (.tmp 37) rfl errsOk _ 0 (v := .slice E k cE) (n := k) (xs := errV xs k) rfl hR7.1 (A := some ⟨w4.heap.size, 0, none⟩) (m := 1) (c := 1) (news := [.int .i64 ev]) rfl HSR.out (by omega) (by omega) (Nat.zero_le _) ?_)
      intro v8 w8 ho8 hg8 hv8
      have S8 := bk7 _ _ (row_app hR7 ho8 hg8 hv8)
      obtain ⟨E8, c8, rfl⟩ := own_form ho8
      rw [← HEV.out] at S8
      have S9 : Hid (BSt W (star (RowO 25 1 (.slice E8 (k + 1) c8) (k + 1) (errV xs (k + 1))) emp) p (bk xs (k + 1)) w8) :=
        hide ⟨S8.perm (by ac_rfl), star_ok row_ok emp_ok, S5.out.inv⟩
      clear ho8 hg8 hv8 bk7 hR7 HSR S8 S5
      go_wp2
      go_roundw
      case rel => exact ⟨k + 1, E8, c8, by omega, by go_num, rfl, S9.out⟩
      case measure => simp [intOf]; omega
    · have hkn : k = n := by omega
      rw [hkn] at hS
      rw [hkn]
      clear hkn hk hlt
      have hbk : bk xs n = playM xs := by unfold bk; rw [HXL.out, List.take_length]
      rw [hbk] at hS
      have S4 := hide hS
      have KL := hide (st_list S4.out)
      clear hS hbk S4
      unfold gptr at KL
      go_wp2_with fail
      refine KL.out.mono ?_
      rintro e w9 ⟨A9, c9, zs, rfl, hm, hS⟩
      have S9 : Hid (BSt W (star emp (NevO A9 zs.length c9 zs E n cE xs)) p (playM xs) w9) := hide ⟨hS.run.perm (by unfold NevO; ac_rfl), star_ok emp_ok nevO_ok, hS.inv⟩
      have HM := hide (fun k (hk : k < zs.length) => lic_all hm hk)
      have hlen : zs.length = (playM xs).gs.length := by have := congrArg List.length hm; simpa using this
      have HLEN := hide hlen
      obtain ⟨m, hmm⟩ : ∃ m, m = zs.length := ⟨_, rfl⟩
      have HMM := hide hmm
      have hm100 : m ≤ 100 := by rw [hmm, hlen]; exact hS.inv.inv.gn
      rw [← hmm] at S9
      rw [← hmm]
      clear hS KL hm hlen hmm
      go_wp2
      go_loopw [10, 11, 12, 13, 14, 15, 16, 17] (fun i _ _ _ _ _ _ _ wr => ∃ k : Nat, k ≤ m ∧ i = .int .i64 k ∧ BSt W (star emp (NevO A9 m c9 zs E n cE xs)) p (playM xs) wr) (fun i _ _ _ _ _ _ _ _ => m - (intOf i).toNat)
      case atStart => exact ⟨0, Nat.zero_le _, rfl, S9.out⟩
      case round =>
        obtain ⟨k, hk, rfl, hS⟩ := hrel
        clear S9
        by_cases hlt : k < m
        · have hkz : k < zs.length := by rw [← HMM.out]; exact hlt
          have hkg : k < (playM xs).gs.length := by rw [← HLEN.out]; exact hkz
          have hlic := HM.out k hkz
          have hLA := hS.licC HMM.out hkz
          rw [hlic] at hLA
          obtain ⟨g9, hA9, hL⟩ := hLA
          obtain ⟨F, hE⟩ := hS.errC
          rw [HXS.out] at hE
          have K1 := hide (sums_any (c := c) (HS.out.keep hS.bel) HF.out hE (gat (playM xs) k).l.id)
          rw [← HXS.out] at K1
          obtain ⟨su, sn, hsum⟩ : ∃ su sn, sumA xs (gat (playM xs) k).l.id n n = (su, sn) := ⟨_, _, rfl⟩
          rw [hsum] at K1
          obtain ⟨u1, u2, u3, u4, u5, u6, hleft⟩ := never_num HXL.out hkg hsum
          have HLEFT := hide hleft
          have HSK := hide hS
          have HL := hide hL
          have HA9 := hide hA9
          clear hsum hleft hE hkg hlic hA9 hL hS
          have HMK := hide (HM.out k hkz)
          generalize (gat (playM xs) k).l = L at *
          rw [HA9.out]
          obtain ⟨c0, -, -, -, -⟩ := HL.out
          obtain ⟨Li, hLi⟩ : ∃ Li, Li = L.id := ⟨_, rfl⟩
          rw [← hLi] at K1 c0
          have HLI := hide hLi
          clear hLi
          go_wp2_with fail
          refine K1.out.mono ?_
          rintro e w10 ⟨rfl, hb⟩
          have S10 := hide (HSK.out.below hb)
          obtain ⟨c0, c3, c4, c5, c6⟩ := HL.out.keep hb
          rw [← HLI.out] at c0
          have K2 := hide (st_left S10.out Li a)
          clear hb K1 HSK HL
          have hin := HIN.out
          have hin2 : a < 0 ∨ 144001439 < a := by
            unfold inst within at hin
            simp only [Bool.and_eq_true, decide_eq_true_eq] at hin
            omega
          rcases Int.lt_or_le a 0 with ha | ha
          · skip
            have HLV : Hid (∃ x y z, leftR (playM xs) Li a = (x, y, z)) := hide ⟨_, _, _, rfl⟩
            obtain ⟨x, y, z, hr⟩ := HLV.out
            rw [hr] at K2
            clear hr HLEFT HLV hin
            unfold leftV gptr at K2
            go_wp2_with fail
            refine K2.out.mono ?_
            rintro e w11 ⟨rfl, hS⟩
            have S11 := hide (hS.below ((Below.refl _ _).alloc (Nat.le_refl _) (.cells #[.int .i64 x, .int .i64 y] 66)))
            clear hS K2 S10 c0 c3 c4 c5 c6
            rw [HA9.out] at S11
            go_wp2
            go_roundw
            case rel => exact ⟨k + 1, by omega, by go_num, S11.out⟩
            case measure => simp [intOf]; omega
          · have ha2 : 144001439 < a := by omega
            clear hin2
            have HLV : Hid (∃ x y z, leftR (playM xs) Li a = (x, y, z)) := hide ⟨_, _, _, rfl⟩
            obtain ⟨x, y, z, hr⟩ := HLV.out
            rw [hr] at K2
            clear hr HLEFT HLV hin
            unfold leftV gptr at K2
            go_wp2_with fail
            refine K2.out.mono ?_
            rintro e w11 ⟨rfl, hS⟩
            have S11 := hide (hS.below ((Below.refl _ _).alloc (Nat.le_refl _) (.cells #[.int .i64 x, .int .i64 y] 66)))
            clear hS K2 S10 c0 c3 c4 c5 c6
            rw [HA9.out] at S11
            go_wp2
            go_roundw
            case rel => exact ⟨k + 1, by omega, by go_num, S11.out⟩
            case measure => simp [intOf]; omega
        · have HB := hide hS.bel
          clear hS
          go_wp2
          go_ret
          exact bel_true HB.out
end
end Go.Proofs.Ytapabbpdfplpoaa
