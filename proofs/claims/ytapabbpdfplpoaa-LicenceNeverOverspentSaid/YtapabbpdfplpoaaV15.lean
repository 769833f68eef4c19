/-
  LicenceNeverOverspent, walked: at an instant that is one.
-/
import Derived.Test.YtapabbpdfplpoaaV14
set_option linter.unusedSimpArgs false
set_option linter.unusedVariables false
namespace Go.Proofs.Ytapabbpdfplpoaa
open Go.RowKit Go.CH Go.CH.Lic
open Go.ChangeMaps (setBlock)

section
variable {W : World} {A : Option Addr} {n c : Nat} {l : List ZS}
set_option maxRecDepth 100000 in
set_option maxHeartbeats 25600000 in
theorem never_in (hs : Steps W A n l) (a : Int) (h1 : fewB (stepsM l) = true) (hin : inst a = true) : Calls Try.prog 13 #[.slice A n c, .int .i64 a] W (BelowRet W (.bool true)) := by
  have KH := hide (head35_any W)
  have KF := hide (fun w1 (hb : Below W.heap.size W w1) => fewL_any (c := c) (hs.keep hb))
  have hn25 : n ≤ 25 := by rw [← hs.len]; exact few_len h1
  have HS := hide hs
  have HIN := hide hin
  clear hin
  have HF := hide h1
  obtain ⟨xs, hxs⟩ : ∃ xs, xs = stepsM l := ⟨_, rfl⟩
  have HXS := hide hxs
  have HXL := hide (show n = xs.length by rw [hxs, ← hs.len]; unfold stepsM; simp)
  have HLL := hide (show l.length = n from hs.len)
  rw [h1] at KF
  clear hs h1 hxs
  go_enter Try.func13, Try.ntmps13
  go_wp2_with fail
  refine KH.out.mono ?_
  rintro e w1 ⟨rfl, hb1⟩
  have KA := hide (KF.out w1 hb1)
  have HB1 := hide hb1
  clear hb1
  go_wp2_with fail
  refine KA.out.mono ?_
  rintro e w2 ⟨rfl, hb2⟩
  have KB := hide (st_new ((Run.begin W).below emp_ok (HB1.out.trans (hb2.mono HB1.out.size))) emp_ok)
  clear hb2 KA KF KH HB1
  go_wp2_with fail
  refine KB.out.mono ?_
  rintro e w3 ⟨p, rfl, hS⟩
  have S3 := hide hS
  clear hS KB
  unfold gptr
  go_wp2
  go_loopw [7, 8] (fun e i wr => ∃ (k : Nat) (E : Option Addr) (cE : Nat), k ≤ n ∧ i = .int .i64 k ∧ e = .slice E k cE ∧ BSt W (star (RowO 25 1 (.slice E k cE) k (errV xs k)) emp) p (bk xs k) wr) (fun _ i _ => n - (intOf i).toNat)
  case atStart => exact ⟨0, none, 0, Nat.zero_le _, rfl, rfl, S3.out.nilrow 25 1⟩
  case round =>
    obtain ⟨k, E, cE, hk, rfl, rfl, hS⟩ := hrel
    clear S3
    by_cases hlt : k < n
    · have hkl : k < l.length := by rw [HLL.out]; exact hlt
      have HSX := hide (show sx xs k = l[k].x by rw [HXS.out]; exact sx_at hkl)
      have KD := hide (st_step hS HS.out HF.out hkl)
      have HBK := hide (show bk xs (k + 1) = (doR (bk xs k) l[k].x).2 by rw [bk_succ (by rw [← HXL.out]; exact hlt), HSX.out])
      have HEV := hide (show errV xs (k + 1) = errV xs k ++ [.int .i64 (doR (bk xs k) l[k].x).1] by rw [errV_succ]; unfold er; rw [HSX.out])
      obtain ⟨bA, oA, hA, hd⟩ := (HS.out.keep hS.bel).at_ hkl
      have HBS := hide (hS : BSt W _ p _ wr)
      rw [← HBK.out] at KD
      have HA := hide hA
      clear hS HSX hA
      generalize (doR (bk xs k) l[k].x).1 = ev at *
      generalize l[k] = z at *
      obtain ⟨d0, d1, d2, d3, d4, d5, d6, d7, d8, d9, d10, d11, d12⟩ := hd
      unfold stepV gptr at KD
      clear hkl HBK HBS
      rw [HA.out]
      clear HA
      go_wp2_with fail
      refine KD.out.mono ?_
      rintro e w4 ⟨rfl, hS⟩
      clear KD d0 d1 d2 d3 d4 d5 d6 d7 d8 d9 d10 d11 d12
      have S5 := hide (hS.below ((Below.refl _ _).alloc (Nat.le_refl _) (.cells #[.int .i64 ev] 25)))
      have HSR := hide (src_new7 w4 [.int .i64 ev] 25 (by intro u hu; simp at hu; subst hu; rfl))
      clear hS
      go_wp2_with (at_builtin; refine held ?_)
      obtain ⟨F7, hR7, -, bk7⟩ := (S5.out.run.perm (by ac_rfl : _ = star (RowO 25 1 (.slice E k cE) k (errV xs k)) (star (BkO (bk xs (k + 1)) p) emp))).take row_ok (star_ok bkO_ok emp_ok)
      refine Held.mk (wpList_app rfl (.tmp 30) (.tmp 37) rfl errsOk _ 0 (v := .slice E k cE) (n := k) (xs := errV xs k) rfl hR7.1 (A := some ⟨w4.heap.size, 0, none⟩) (m := 1) (c := 1) (news := [.int .i64 ev]) rfl HSR.out (by omega) (by omega) (Nat.zero_le _) ?_)
      intro v8 w8 ho8 hg8 hv8
      have S8 := bk7 _ _ (row_app hR7 ho8 hg8 hv8)
      obtain ⟨E8, c8, rfl⟩ := own_form ho8
      rw [← HEV.out] at S8
      have S9 : Hid (BSt W (star (RowO 25 1 (.slice E8 (k + 1) c8) (k + 1) (errV xs (k + 1))) emp) p (bk xs (k + 1)) w8) :=
        hide ⟨S8.perm (by ac_rfl), star_ok row_ok emp_ok, S5.out.inv⟩
      clear ho8 hg8 hv8 bk7 hR7 HSR S8 S5
      go_wp2
      go_roundw
      case rel => exact ⟨k + 1, E8, c8, by omega, by go_num, rfl, S9.out⟩
      case measure => simp [intOf]; omega
    · have hkn : k = n := by omega
      rw [hkn] at hS
      rw [hkn]
      clear hkn hk hlt
      have hbk : bk xs n = playM xs := by unfold bk; rw [HXL.out, List.take_length]
      rw [hbk] at hS
      have S4 := hide hS
      have KL := hide (st_list S4.out)
      clear hS hbk S4
      unfold gptr at KL
      go_wp2_with fail
      refine KL.out.mono ?_
      rintro e w9 ⟨A9, c9, zs, rfl, hm, hS⟩
      have S9 : Hid (BSt W (star emp (NevO A9 zs.length c9 zs E n cE xs)) p (playM xs) w9) := hide ⟨hS.run.perm (by unfold NevO; ac_rfl), star_ok emp_ok nevO_ok, hS.inv⟩
      have HM := hide (fun k (hk : k < zs.length) => lic_all hm hk)
      have hlen : zs.length = (playM xs).gs.length := by have := congrArg List.length hm; simpa using this
      have HLEN := hide hlen
      obtain ⟨m, hmm⟩ : ∃ m, m = zs.length := ⟨_, rfl⟩
      have HMM := hide hmm
      have hm100 : m ≤ 100 := by rw [hmm, hlen]; exact hS.inv.inv.gn
      rw [← hmm] at S9
      rw [← hmm]
      clear hS KL hm hlen hmm
      go_wp2
      go_loopw [10, 11, 12, 13, 14, 15, 16, 17] (fun i _ _ _ _ _ _ _ wr => ∃ k : Nat, k ≤ m ∧ i = .int .i64 k ∧ BSt W (star emp (NevO A9 m c9 zs E n cE xs)) p (playM xs) wr) (fun i _ _ _ _ _ _ _ _ => m - (intOf i).toNat)
      case atStart => exact ⟨0, Nat.zero_le _, rfl, S9.out⟩
      case round =>
        obtain ⟨k, hk, rfl, hS⟩ := hrel
        clear S9
        by_cases hlt : k < m
        · have hkz : k < zs.length := by rw [← HMM.out]; exact hlt
          have hkg : k < (playM xs).gs.length := by rw [← HLEN.out]; exact hkz
          have hlic := HM.out k hkz
          have hLA := hS.licC HMM.out hkz
          rw [hlic] at hLA
          obtain ⟨g9, hA9, hL⟩ := hLA
          obtain ⟨F, hE⟩ := hS.errC
          rw [HXS.out] at hE
          have K1 := hide (sums_any (c := c) (HS.out.keep hS.bel) HF.out hE (gat (playM xs) k).l.id)
          rw [← HXS.out] at K1
          obtain ⟨su, sn, hsum⟩ : ∃ su sn, sumA xs (gat (playM xs) k).l.id n n = (su, sn) := ⟨_, _, rfl⟩
          rw [hsum] at K1
          obtain ⟨u1, u2, u3, u4, u5, u6, hleft⟩ := never_num HXL.out hkg hsum
          have HLEFT := hide hleft
          have HSK := hide hS
          have HL := hide hL
          have HA9 := hide hA9
          clear hsum hleft hE hkg hlic hA9 hL hS
          have HMK := hide (HM.out k hkz)
          generalize (gat (playM xs) k).l = L at *
          rw [HA9.out]
          obtain ⟨c0, -, -, -, -⟩ := HL.out
          obtain ⟨Li, hLi⟩ : ∃ Li, Li = L.id := ⟨_, rfl⟩
          rw [← hLi] at K1 c0
          have HLI := hide hLi
          clear hLi
          go_wp2_with fail
          refine K1.out.mono ?_
          rintro e w10 ⟨rfl, hb⟩
          have S10 := hide (HSK.out.below hb)
          obtain ⟨c0, c3, c4, c5, c6⟩ := HL.out.keep hb
          rw [← HLI.out] at c0
          have K2 := hide (st_left S10.out Li a)
          clear hb K1 HSK HL
          have hin := HIN.out
          have ha : 0 ≤ a ∧ a ≤ 144001439 := by
            unfold inst within at hin
            simp only [Bool.and_eq_true, decide_eq_true_eq] at hin
            omega
          obtain ⟨ha1, ha2⟩ := ha
          have hlf := HLEFT.out a hin
          obtain ⟨Lf, hLf⟩ : ∃ Lf, Lf = L.f := ⟨_, rfl⟩
          obtain ⟨Lt, hLt⟩ : ∃ Lt, Lt = L.t := ⟨_, rfl⟩
          obtain ⟨Lq, hLq⟩ : ∃ Lq, Lq = L.q := ⟨_, rfl⟩
          obtain ⟨Lu, hLu⟩ : ∃ Lu, Lu = L.u := ⟨_, rfl⟩
          rw [← HLI.out, ← hLf, ← hLt, ← hLq, ← hLu] at hlf
          rw [← hLq] at c3 u3 u5
          rw [← hLu] at c4 u4 u6
          obtain ⟨fb, hfb⟩ : ∃ fb, fb = forceL xs Li Lf Lt a n := ⟨_, rfl⟩
          rw [← hfb] at hlf
          obtain ⟨lx, hlx⟩ : ∃ lx, lx = if fb = true then Lq - su else 0 := ⟨_, rfl⟩
          obtain ⟨ly, hly⟩ : ∃ ly, ly = if fb = true then Lu - sn else 0 := ⟨_, rfl⟩
          have hlf2 : leftR (playM xs) Li a = (lx, ly, 0) := by
            rw [hlf, hlx, hly]; split <;> rfl
          rw [hlf2] at K2
          have HFB := hide hfb
          have HLX := hide hlx
          have HLY := hide hly
          clear hlf hlf2 hfb hlx hly HLEFT hin
          unfold leftV gptr at K2
          go_wp2_with fail
          refine K2.out.mono ?_
          rintro e w11 ⟨rfl, hS⟩
          have S11 : Hid (BSt W (star (star (CellO w11.heap.size #[.int .i64 lx, .int .i64 ly] 66) emp) (NevO A9 m c9 zs E n cE xs)) p (playM xs) (w11.alloc (.cells #[.int .i64 lx, .int .i64 ly] 66))) :=
            hide ⟨(hS.box #[.int .i64 lx, .int .i64 ly] 66).run.perm (by ac_rfl), star_ok (star_ok cell_ok emp_ok) nevO_ok, hS.inv⟩
          have hLA := S11.out.licC HMM.out (show k < zs.length by rw [← HMM.out]; exact hlt)
          rw [HMK.out] at hLA
          obtain ⟨g9', hA9', hLC⟩ := hLA
          obtain rfl : g9 = g9' := by have h := HA9.out.symm.trans hA9'; injection h with e; injection e
          clear hA9'
          obtain ⟨b0, b3, b4, b5, b6⟩ := hLC
          rw [← HLI.out] at b0
          rw [← hLq] at b3
          rw [← hLu] at b4
          rw [← hLf] at b5
          rw [← hLt] at b6
          have HLQ2 := hide (And.intro hLq hLu)
          rw [HA9.out] at S11
          clear hLf hLt hLq hLu hS K2 S10 b0 b3 b4
          by_cases hfa : Lf ≤ a
          case pos =>
            have HF0 := hide (show forceL xs Li Lf Lt a 0 = decide (a < Lt) by simp [forceL, hfa])
            go_wp2
            go_loopw [15, 16] (fun f i wr => ∃ j : Nat, j ≤ n ∧ i = .int .i64 j ∧ f = .bool (forceL xs Li Lf Lt a j) ∧ BSt W (star (star (CellO w11.heap.size #[.int .i64 lx, .int .i64 ly] 66) emp) (NevO (some ⟨g9, 0, none⟩) m c9 zs E n cE xs)) p (playM xs) wr) (fun _ i _ => n - (intOf i).toNat)
            case atStart => exact ⟨0, Nat.zero_le _, rfl, by rw [HF0.out], S11.out⟩
            case round =>
              obtain ⟨j, hj, rfl, rfl, hS⟩ := hrel
              clear S11
              by_cases hjn : j < n
              · have hjl : j < l.length := by rw [HLL.out]; exact hjn
                have HFN := hide (show forceL xs Li Lf Lt a (j + 1) = (forceL xs Li Lf Lt a j && (decide (l[j].x.k ≠ 1) || decide (er xs j ≠ 0) || decide (l[j].x.id ≠ Li) || decide (a < l[j].x.a))) by
                  have hsx : sx xs j = l[j].x := by rw [HXS.out]; exact sx_at hjl
                  rw [← hsx]; rfl)
                have hSd := hS.drew
                obtain ⟨bA, oA, hA, hd⟩ := (HS.out.keep hSd.bel).at_ hjl
                obtain ⟨gE, hE, e1⟩ := hSd.errAt hjn
                have hLA := hSd.licC HMM.out (show k < zs.length by rw [← HMM.out]; exact hlt)
                rw [HMK.out] at hLA
                obtain ⟨g9', hA9', hLC⟩ := hLA
                obtain rfl : g9 = g9' := by injection hA9' with e; injection e
                have b0 := hLC.1
                rw [← HLI.out] at b0
                have SD := hide hSd
                rw [hE] at SD
                rw [hA, hE]
                clear hS hSd hA hE hLC hA9'
                generalize er xs j = ev at *
                generalize l[j] = z at *
                obtain ⟨d0, -, -, -, -, -, -, -, d8, -, -, -, d12⟩ := hd
                generalize z.x.k = zk at *
                generalize z.x.id = zi at *
                generalize z.x.a = za at *
                clear hjl
                generalize forceL xs Li Lf Lt a j = fj at *
                cases fj with
                | false =>
                  have HV := hide (show forceL xs Li Lf Lt a (j + 1) = false by rw [HFN.out]; rfl)
                  clear HFN
                  go_wp2_with fail
                  refine wp_region_lex (fun w' => w' = wr.drew) (by kernel_rfl) (by kernel_rfl) rfl ?_
                  generalize wr.drew = wd at *
                  (repeat (first | (refine lex_skip (by rfl) ?_; try simp only [Act.put, List.setIfInBounds_toArray, List.set_cons_zero, List.set_cons_succ]) | (refine lex_read (v := ?_) (by rfl) ?_ ?_; rotate_left; (focus (intro w' hS'; go_simp; (try with_reducible rfl); done)); try simp only [Act.put, List.setIfInBounds_toArray, List.set_cons_zero, List.set_cons_succ])))
                  refine lex_nil ?_
                  go_wp2
                  go_roundw
                  case rel => exact ⟨j + 1, by omega, by go_num, by rw [HV.out], SD.out⟩
                  case measure => simp [intOf]; omega
                | true =>
                  by_cases t1 : zk = 1
                  case neg =>
                    have HV := hide (show forceL xs Li Lf Lt a (j + 1) = true by rw [HFN.out]; simp [t1])
                    have t2 : (zk == 1) = false := by simpa using t1
                    have t5 : (zk != 1) = true := by simpa using t1
                    clear HFN
                    go_wp2_with fail
                    refine wp_region_lex (fun w' => w' = wr.drew) (by kernel_rfl) (by kernel_rfl) rfl ?_
                    generalize wr.drew = wd at *
                    (repeat (first | (refine lex_skip (by rfl) ?_; try simp only [Act.put, List.setIfInBounds_toArray, List.set_cons_zero, List.set_cons_succ]) | (refine lex_read (v := ?_) (by rfl) ?_ ?_; rotate_left; (focus (intro w' hS'; go_simp; (try with_reducible rfl); done)); try simp only [Act.put, List.setIfInBounds_toArray, List.set_cons_zero, List.set_cons_succ])))
                    refine lex_nil ?_
                    go_wp2
                    go_roundw
                    case rel => exact ⟨j + 1, by omega, by go_num, by rw [HV.out], SD.out⟩
                    case measure => simp [intOf]; omega
                  case pos =>
                  rw [t1] at d0
                  by_cases t2 : ev = 0
                  case neg =>
                    have HV := hide (show forceL xs Li Lf Lt a (j + 1) = true by rw [HFN.out]; simp [t2])
                    have t3 : (ev == 0) = false := by simpa using t2
                    have t5 : (ev != 0) = true := by simpa using t2
                    clear HFN
                    go_wp2_with fail
                    refine wp_region_lex (fun w' => w' = wr.drew) (by kernel_rfl) (by kernel_rfl) rfl ?_
                    generalize wr.drew = wd at *
                    (repeat (first | (refine lex_skip (by rfl) ?_; try simp only [Act.put, List.setIfInBounds_toArray, List.set_cons_zero, List.set_cons_succ]) | (refine lex_read (v := ?_) (by rfl) ?_ ?_; rotate_left; (focus (intro w' hS'; go_simp; (try with_reducible rfl); done)); try simp only [Act.put, List.setIfInBounds_toArray, List.set_cons_zero, List.set_cons_succ])))
                    refine lex_nil ?_
                    go_wp2
                    go_roundw
                    case rel => exact ⟨j + 1, by omega, by go_num, by rw [HV.out], SD.out⟩
                    case measure => simp [intOf]; omega
                  case pos =>
                  rw [t2] at e1
                  by_cases t3 : zi = Li
                  case neg =>
                    have HV := hide (show forceL xs Li Lf Lt a (j + 1) = true by rw [HFN.out]; simp [t3])
                    have t4 : (zi.toList == Li.toList) = false := by rw [toList_beq]; exact decide_eq_false t3
                    clear HFN
                    go_wp2_with fail
                    refine wp_region_lex (fun w' => w' = wr.drew) (by kernel_rfl) (by kernel_rfl) rfl ?_
                    generalize wr.drew = wd at *
                    (repeat (first | (refine lex_skip (by rfl) ?_; try simp only [Act.put, List.setIfInBounds_toArray, List.set_cons_zero, List.set_cons_succ]) | (refine lex_read (v := ?_) (by rfl) ?_ ?_; rotate_left; (focus (intro w' hS'; go_simp; (try with_reducible rfl); done)); try simp only [Act.put, List.setIfInBounds_toArray, List.set_cons_zero, List.set_cons_succ])))
                    refine lex_nil ?_
                    go_wp2
                    go_roundw
                    case rel => exact ⟨j + 1, by omega, by go_num, by rw [HV.out], SD.out⟩
                    case measure => simp [intOf]; omega
                  case pos =>
                  rw [t3] at d8
                  have t4 : (Li.toList == Li.toList) = true := by rw [toList_beq]; exact decide_eq_true rfl
                  have HV := hide (show forceL xs Li Lf Lt a (j + 1) = decide (a < za) by rw [HFN.out]; simp [t1, t2, t3])
                  clear HFN
                  go_wp2_with fail
                  refine wp_region_lex (fun w' => w' = wr.drew) (by kernel_rfl) (by kernel_rfl) rfl ?_
                  generalize wr.drew = wd at *
                  (repeat (first | (refine lex_skip (by rfl) ?_; try simp only [Act.put, List.setIfInBounds_toArray, List.set_cons_zero, List.set_cons_succ]) | (refine lex_read (v := ?_) (by rfl) ?_ ?_; rotate_left; (focus (intro w' hS'; go_simp; (try with_reducible rfl); done)); try simp only [Act.put, List.setIfInBounds_toArray, List.set_cons_zero, List.set_cons_succ])))
                  refine lex_nil ?_
                  go_wp2
                  go_roundw
                  case rel => exact ⟨j + 1, by omega, by go_num, by rw [HV.out], SD.out⟩
                  case measure => simp [intOf]; omega
              · have hjn2 : j = n := by omega
                rw [hjn2, ← HFB.out]
                have S12 := hide hS
                clear hS hjn hj hjn2
                have S13 : Hid (BSt W (star (CellO w11.heap.size #[.int .i64 lx, .int .i64 ly] 66) (star emp (NevO (some ⟨g9, 0, none⟩) m c9 zs E n cE xs))) p (playM xs) wr) :=
                  hide ⟨S12.out.run.perm (by ac_rfl), star_ok cell_ok (star_ok emp_ok nevO_ok), S12.out.inv⟩
                have x0 := S13.out.cells 0 _ rfl
                have x1 := S13.out.cells 1 _ rfl
                have hg1 : w11.heap.size < wr.heap.size := World.block_lt_of_cell? _ _ x0
                have S14 := hide (S13.out.dropX (star_ok emp_ok nevO_ok))
                clear S12
                cases fb with
                | false =>
                  have hx : lx = 0 := by rw [HLX.out]; rfl
                  have hy : ly = 0 := by rw [HLY.out]; rfl
                  rw [hx] at x0
                  rw [hy] at x1
                  have S15 := hide (S14.out.below ((Below.refl _ _).alloc (Nat.le_refl _) (.cells #[.int .i64 0, .int .i64 0] 66)))
                  clear hx hy S13 S14
                  go_wp2
                  go_roundw
                  case rel => exact ⟨k + 1, by omega, by go_num, S15.out⟩
                  case measure => simp [intOf]; omega
                | true =>
                  have hx : lx = Lq - su := by rw [HLX.out]; rfl
                  have hy : ly = Lu - sn := by rw [HLY.out]; rfl
                  have E1 := hide (show IntKind.i64.wrap (Lq - su) = Lq - su from IntWalk.i64_in _ (by omega))
                  have E2 := hide (show IntKind.i64.wrap (Lu - sn) = Lu - sn from IntWalk.i64_in _ (by omega))
                  rw [hx] at x0
                  rw [hy] at x1
                  have S15 := hide (S14.out.box #[.int .i64 0, .int .i64 0] 66)
                  have S16 := hide S15.out.drew
                  have hLA := (show BSt W (star (star (CellO wr.heap.size #[.int .i64 0, .int .i64 0] 66) emp) (NevO (some ⟨g9, 0, none⟩) m c9 zs E n cE xs)) p (playM xs) _ from ⟨S16.out.run.perm (by ac_rfl), star_ok (star_ok cell_ok emp_ok) nevO_ok, S16.out.inv⟩).licC HMM.out (show k < zs.length by rw [← HMM.out]; exact hlt)
                  rw [HMK.out] at hLA
                  obtain ⟨g9', hA9', hLC⟩ := hLA
                  obtain rfl : g9 = g9' := by injection hA9' with e; injection e
                  obtain ⟨-, b3, b4, -, -⟩ := hLC
                  rw [← HLQ2.out.1] at b3
                  rw [← HLQ2.out.2] at b4
                  clear hA9' S15 S14
                  go_wp2_with fail
                  refine wp_region_ley (fun w' => w' = (wr.alloc (.cells #[.int .i64 0, .int .i64 0] 66)).drew) (by kernel_rfl) (by kernel_rfl) (by kernel_rfl) rfl ?_
                  (repeat (first | (refine ley_skip (by rfl) ?_; try simp only [Act.put, List.setIfInBounds_toArray, List.set_cons_zero, List.set_cons_succ]) | (refine ley_read (v := ?_) (by rfl) ?_ ?_; rotate_left; (focus (intro w' hS'; go_simp; (try with_reducible rfl); done)); try simp only [Act.put, List.setIfInBounds_toArray, List.set_cons_zero, List.set_cons_succ])))
                  refine ley_last rfl (by rfl) (fun K hK => ?_)
                  rw [E1.out, E2.out]
                  go_wp2_with fail
                  have Q1 := hide (S13.out.below ((Below.refl _ _).alloc (Nat.le_refl _) (.cells #[.int .i64 (Lq - su), .int .i64 (Lu - sn)] 66))).drew
                  have Q2 := hide (S13.out.box #[.int .i64 (Lq - su), .int .i64 (Lu - sn)] 66).drew
                  have y0 := Q1.out.cells 0 _ rfl
                  have y1 := Q1.out.cells 1 _ rfl
                  rw [hx] at y0
                  rw [hy] at y1
                  obtain ⟨q0, q1⟩ := Q2.out.box2
                  have S17 := hide (Q1.out.dropX (star_ok emp_ok nevO_ok))
                  refine hK.out _ _ ?_
                  clear hK x0 x1 b3 b4 S13 S16 Q1 Q2 hx hy hg1
                  generalize wr.heap.size = g2 at *
                  generalize (wr.alloc (.cells #[.int .i64 (Lq - su), .int .i64 (Lu - sn)] 66)).drew = wd at *
                  go_wp2
                  go_roundw
                  case rel => exact ⟨k + 1, by omega, by go_num, S17.out⟩
                  case measure => simp [intOf]; omega
          case neg =>
            have HF0 := hide (show forceL xs Li Lf Lt a 0 = false by simp [forceL, hfa])
            go_wp2
            go_loopw [15, 16] (fun f i wr => ∃ j : Nat, j ≤ n ∧ i = .int .i64 j ∧ f = .bool (forceL xs Li Lf Lt a j) ∧ BSt W (star (star (CellO w11.heap.size #[.int .i64 lx, .int .i64 ly] 66) emp) (NevO (some ⟨g9, 0, none⟩) m c9 zs E n cE xs)) p (playM xs) wr) (fun _ i _ => n - (intOf i).toNat)
            case atStart => exact ⟨0, Nat.zero_le _, rfl, by rw [HF0.out], S11.out⟩
            case round =>
              obtain ⟨j, hj, rfl, rfl, hS⟩ := hrel
              clear S11
              by_cases hjn : j < n
              · have hjl : j < l.length := by rw [HLL.out]; exact hjn
                have HFN := hide (show forceL xs Li Lf Lt a (j + 1) = (forceL xs Li Lf Lt a j && (decide (l[j].x.k ≠ 1) || decide (er xs j ≠ 0) || decide (l[j].x.id ≠ Li) || decide (a < l[j].x.a))) by
                  have hsx : sx xs j = l[j].x := by rw [HXS.out]; exact sx_at hjl
                  rw [← hsx]; rfl)
                have hSd := hS.drew
                obtain ⟨bA, oA, hA, hd⟩ := (HS.out.keep hSd.bel).at_ hjl
                obtain ⟨gE, hE, e1⟩ := hSd.errAt hjn
                have hLA := hSd.licC HMM.out (show k < zs.length by rw [← HMM.out]; exact hlt)
                rw [HMK.out] at hLA
                obtain ⟨g9', hA9', hLC⟩ := hLA
                obtain rfl : g9 = g9' := by injection hA9' with e; injection e
                have b0 := hLC.1
                rw [← HLI.out] at b0
                have SD := hide hSd
                rw [hE] at SD
                rw [hA, hE]
                clear hS hSd hA hE hLC hA9'
                generalize er xs j = ev at *
                generalize l[j] = z at *
                obtain ⟨d0, -, -, -, -, -, -, -, d8, -, -, -, d12⟩ := hd
                generalize z.x.k = zk at *
                generalize z.x.id = zi at *
                generalize z.x.a = za at *
                clear hjl
                generalize forceL xs Li Lf Lt a j = fj at *
                cases fj with
                | false =>
                  have HV := hide (show forceL xs Li Lf Lt a (j + 1) = false by rw [HFN.out]; rfl)
                  clear HFN
                  go_wp2_with fail
                  refine wp_region_lex (fun w' => w' = wr.drew) (by kernel_rfl) (by kernel_rfl) rfl ?_
                  generalize wr.drew = wd at *
                  (repeat (first | (refine lex_skip (by rfl) ?_; try simp only [Act.put, List.setIfInBounds_toArray, List.set_cons_zero, List.set_cons_succ]) | (refine lex_read (v := ?_) (by rfl) ?_ ?_; rotate_left; (focus (intro w' hS'; go_simp; (try with_reducible rfl); done)); try simp only [Act.put, List.setIfInBounds_toArray, List.set_cons_zero, List.set_cons_succ])))
                  refine lex_nil ?_
                  go_wp2
                  go_roundw
                  case rel => exact ⟨j + 1, by omega, by go_num, by rw [HV.out], SD.out⟩
                  case measure => simp [intOf]; omega
                | true =>
                  by_cases t1 : zk = 1
                  case neg =>
                    have HV := hide (show forceL xs Li Lf Lt a (j + 1) = true by rw [HFN.out]; simp [t1])
                    have t2 : (zk == 1) = false := by simpa using t1
                    have t5 : (zk != 1) = true := by simpa using t1
                    clear HFN
                    go_wp2_with fail
                    refine wp_region_lex (fun w' => w' = wr.drew) (by kernel_rfl) (by kernel_rfl) rfl ?_
                    generalize wr.drew = wd at *
                    (repeat (first | (refine lex_skip (by rfl) ?_; try simp only [Act.put, List.setIfInBounds_toArray, List.set_cons_zero, List.set_cons_succ]) | (refine lex_read (v := ?_) (by rfl) ?_ ?_; rotate_left; (focus (intro w' hS'; go_simp; (try with_reducible rfl); done)); try simp only [Act.put, List.setIfInBounds_toArray, List.set_cons_zero, List.set_cons_succ])))
                    refine lex_nil ?_
                    go_wp2
                    go_roundw
                    case rel => exact ⟨j + 1, by omega, by go_num, by rw [HV.out], SD.out⟩
                    case measure => simp [intOf]; omega
                  case pos =>
                  rw [t1] at d0
                  by_cases t2 : ev = 0
                  case neg =>
                    have HV := hide (show forceL xs Li Lf Lt a (j + 1) = true by rw [HFN.out]; simp [t2])
                    have t3 : (ev == 0) = false := by simpa using t2
                    have t5 : (ev != 0) = true := by simpa using t2
                    clear HFN
                    go_wp2_with fail
                    refine wp_region_lex (fun w' => w' = wr.drew) (by kernel_rfl) (by kernel_rfl) rfl ?_
                    generalize wr.drew = wd at *
                    (repeat (first | (refine lex_skip (by rfl) ?_; try simp only [Act.put, List.setIfInBounds_toArray, List.set_cons_zero, List.set_cons_succ]) | (refine lex_read (v := ?_) (by rfl) ?_ ?_; rotate_left; (focus (intro w' hS'; go_simp; (try with_reducible rfl); done)); try simp only [Act.put, List.setIfInBounds_toArray, List.set_cons_zero, List.set_cons_succ])))
                    refine lex_nil ?_
                    go_wp2
                    go_roundw
                    case rel => exact ⟨j + 1, by omega, by go_num, by rw [HV.out], SD.out⟩
                    case measure => simp [intOf]; omega
                  case pos =>
                  rw [t2] at e1
                  by_cases t3 : zi = Li
                  case neg =>
                    have HV := hide (show forceL xs Li Lf Lt a (j + 1) = true by rw [HFN.out]; simp [t3])
                    have t4 : (zi.toList == Li.toList) = false := by rw [toList_beq]; exact decide_eq_false t3
                    clear HFN
                    go_wp2_with fail
                    refine wp_region_lex (fun w' => w' = wr.drew) (by kernel_rfl) (by kernel_rfl) rfl ?_
                    generalize wr.drew = wd at *
                    (repeat (first | (refine lex_skip (by rfl) ?_; try simp only [Act.put, List.setIfInBounds_toArray, List.set_cons_zero, List.set_cons_succ]) | (refine lex_read (v := ?_) (by rfl) ?_ ?_; rotate_left; (focus (intro w' hS'; go_simp; (try with_reducible rfl); done)); try simp only [Act.put, List.setIfInBounds_toArray, List.set_cons_zero, List.set_cons_succ])))
                    refine lex_nil ?_
                    go_wp2
                    go_roundw
                    case rel => exact ⟨j + 1, by omega, by go_num, by rw [HV.out], SD.out⟩
                    case measure => simp [intOf]; omega
                  case pos =>
                  rw [t3] at d8
                  have t4 : (Li.toList == Li.toList) = true := by rw [toList_beq]; exact decide_eq_true rfl
                  have HV := hide (show forceL xs Li Lf Lt a (j + 1) = decide (a < za) by rw [HFN.out]; simp [t1, t2, t3])
                  clear HFN
                  go_wp2_with fail
                  refine wp_region_lex (fun w' => w' = wr.drew) (by kernel_rfl) (by kernel_rfl) rfl ?_
                  generalize wr.drew = wd at *
                  (repeat (first | (refine lex_skip (by rfl) ?_; try simp only [Act.put, List.setIfInBounds_toArray, List.set_cons_zero, List.set_cons_succ]) | (refine lex_read (v := ?_) (by rfl) ?_ ?_; rotate_left; (focus (intro w' hS'; go_simp; (try with_reducible rfl); done)); try simp only [Act.put, List.setIfInBounds_toArray, List.set_cons_zero, List.set_cons_succ])))
                  refine lex_nil ?_
                  go_wp2
                  go_roundw
                  case rel => exact ⟨j + 1, by omega, by go_num, by rw [HV.out], SD.out⟩
                  case measure => simp [intOf]; omega
              · have hjn2 : j = n := by omega
                rw [hjn2, ← HFB.out]
                have S12 := hide hS
                clear hS hjn hj hjn2
                have S13 : Hid (BSt W (star (CellO w11.heap.size #[.int .i64 lx, .int .i64 ly] 66) (star emp (NevO (some ⟨g9, 0, none⟩) m c9 zs E n cE xs))) p (playM xs) wr) :=
                  hide ⟨S12.out.run.perm (by ac_rfl), star_ok cell_ok (star_ok emp_ok nevO_ok), S12.out.inv⟩
                have x0 := S13.out.cells 0 _ rfl
                have x1 := S13.out.cells 1 _ rfl
                have hg1 : w11.heap.size < wr.heap.size := World.block_lt_of_cell? _ _ x0
                have S14 := hide (S13.out.dropX (star_ok emp_ok nevO_ok))
                clear S12
                cases fb with
                | false =>
                  have hx : lx = 0 := by rw [HLX.out]; rfl
                  have hy : ly = 0 := by rw [HLY.out]; rfl
                  rw [hx] at x0
                  rw [hy] at x1
                  have S15 := hide (S14.out.below ((Below.refl _ _).alloc (Nat.le_refl _) (.cells #[.int .i64 0, .int .i64 0] 66)))
                  clear hx hy S13 S14
                  go_wp2
                  go_roundw
                  case rel => exact ⟨k + 1, by omega, by go_num, S15.out⟩
                  case measure => simp [intOf]; omega
                | true =>
                  have hx : lx = Lq - su := by rw [HLX.out]; rfl
                  have hy : ly = Lu - sn := by rw [HLY.out]; rfl
                  have E1 := hide (show IntKind.i64.wrap (Lq - su) = Lq - su from IntWalk.i64_in _ (by omega))
                  have E2 := hide (show IntKind.i64.wrap (Lu - sn) = Lu - sn from IntWalk.i64_in _ (by omega))
                  rw [hx] at x0
                  rw [hy] at x1
                  have S15 := hide (S14.out.box #[.int .i64 0, .int .i64 0] 66)
                  have S16 := hide S15.out.drew
                  have hLA := (show BSt W (star (star (CellO wr.heap.size #[.int .i64 0, .int .i64 0] 66) emp) (NevO (some ⟨g9, 0, none⟩) m c9 zs E n cE xs)) p (playM xs) _ from ⟨S16.out.run.perm (by ac_rfl), star_ok (star_ok cell_ok emp_ok) nevO_ok, S16.out.inv⟩).licC HMM.out (show k < zs.length by rw [← HMM.out]; exact hlt)
                  rw [HMK.out] at hLA
                  obtain ⟨g9', hA9', hLC⟩ := hLA
                  obtain rfl : g9 = g9' := by injection hA9' with e; injection e
                  obtain ⟨-, b3, b4, -, -⟩ := hLC
                  rw [← HLQ2.out.1] at b3
                  rw [← HLQ2.out.2] at b4
                  clear hA9' S15 S14
                  go_wp2_with fail
                  refine wp_region_ley (fun w' => w' = (wr.alloc (.cells #[.int .i64 0, .int .i64 0] 66)).drew) (by kernel_rfl) (by kernel_rfl) (by kernel_rfl) rfl ?_
                  (repeat (first | (refine ley_skip (by rfl) ?_; try simp only [Act.put, List.setIfInBounds_toArray, List.set_cons_zero, List.set_cons_succ]) | (refine ley_read (v := ?_) (by rfl) ?_ ?_; rotate_left; (focus (intro w' hS'; go_simp; (try with_reducible rfl); done)); try simp only [Act.put, List.setIfInBounds_toArray, List.set_cons_zero, List.set_cons_succ])))
                  refine ley_last rfl (by rfl) (fun K hK => ?_)
                  rw [E1.out, E2.out]
                  go_wp2_with fail
                  have Q1 := hide (S13.out.below ((Below.refl _ _).alloc (Nat.le_refl _) (.cells #[.int .i64 (Lq - su), .int .i64 (Lu - sn)] 66))).drew
                  have Q2 := hide (S13.out.box #[.int .i64 (Lq - su), .int .i64 (Lu - sn)] 66).drew
                  have y0 := Q1.out.cells 0 _ rfl
                  have y1 := Q1.out.cells 1 _ rfl
                  rw [hx] at y0
                  rw [hy] at y1
                  obtain ⟨q0, q1⟩ := Q2.out.box2
                  have S17 := hide (Q1.out.dropX (star_ok emp_ok nevO_ok))
                  refine hK.out _ _ ?_
                  clear hK x0 x1 b3 b4 S13 S16 Q1 Q2 hx hy hg1
                  generalize wr.heap.size = g2 at *
                  generalize (wr.alloc (.cells #[.int .i64 (Lq - su), .int .i64 (Lu - sn)] 66)).drew = wd at *
                  go_wp2
                  go_roundw
                  case rel => exact ⟨k + 1, by omega, by go_num, S17.out⟩
                  case measure => simp [intOf]; omega
        · have HB := hide hS.bel
          clear hS
          go_wp2
          go_ret
          exact bel_true HB.out
theorem never_any (hs : Steps W A n l) (a : Int) : Calls Try.prog 13 #[.slice A n c, .int .i64 a] W (BelowRet W (.bool true)) := by
  by_cases h1 : fewB (stepsM l) = true
  · by_cases hin : inst a = true
    · exact never_in hs a h1 hin
    · exact never_out hs a h1 hin
  · exact never_away hs a (by simpa using h1)
end
end Go.Proofs.Ytapabbpdfplpoaa
