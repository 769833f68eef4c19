/-
  Assign: GridBound of the reference, walked.
  Assign: the plain part of the reference's Grid.
  Assign: Grid of the reference, walked.
-/
import Derived.Test.YtalbhghigdanlaaMG12
set_option linter.unusedSimpArgs false
set_option linter.unusedVariables false
namespace Go.Proofs.Ytalbhghigdanlaa
open Go.RowKit Go.CH Go.CH.Asg
open Go.ChangeMaps (setBlock)
set_option maxRecDepth 100000 in
set_option maxHeartbeats 12800000 in
theorem rgridbound_any {w : World} {A B G LA : Option Addr} {V : List (Option Addr × Nat)} {c d e cl : Nat} {C : List (List Int)} {D E L : List Int} (h : Mat w A C V) (hD : Vec w B D) (hE : Vec w G E) (hL : Vec w LA L) (hLl : L.length ≤ 1000000) :
    Calls Try.prog 26 #[.slice A C.length c, .slice B D.length d, .slice G E.length e, .slice LA L.length cl] w (BelowIB w (gbnd C D E L)) := by
  have KV := hide (rvalid_any (c := c) (d := d) (e := e) h hD hE)
  have KW := hide (rwithin_any (c := cl) hL hLl (-1000000) 1000000)
  have HP := hide (fun hv => prb_of (w := w) (C := C) (D := D) (E := E) hv h hD hE)
  have HB0 := hide (show gbnd0 C D E L = (vld C D E && decide (L.length = (D.length + 1) * (E.length + 1)) && wi L (-1000000) 1000000 && decide (lF L (L.length - 1) ≤ 0)) from rfl)
  have HNO := hide (fun hf => gbnd_no (C := C) (D := D) (E := E) (L := L) hf)
  have HNOF := hide (fun hf => gbnd_noF (C := C) (D := D) (E := E) (L := L) hf)
  have HYES := hide (fun h0 hf => gbnd_yes (C := C) (D := D) (E := E) (L := L) h0 hf)
  have HWI := hide (fun h0 => wi_F (l := L) (lo := -1000000) (hi := 1000000) h0)
  obtain ⟨n, hn⟩ : ∃ n, n = D.length := ⟨_, rfl⟩
  obtain ⟨m, hm⟩ : ∃ n, n = E.length := ⟨_, rfl⟩
  obtain ⟨nc, hnc⟩ : ∃ n, n = C.length := ⟨_, rfl⟩
  obtain ⟨nl, hnl⟩ : ∃ n, n = L.length := ⟨_, rfl⟩
  have HVF := hide (fun (i : Nat) hi => vec_F (n := nl) (i := i) hL hnl.symm hi)
  have HNC := hide hnc
  rw [← hn, ← hm] at HP HNOF HB0
  rw [← hnl] at HNOF HB0 HWI KW
  rw [← hn, ← hm, ← hnl] at HYES
  rw [← hn, ← hm, ← hnc] at KV
  rw [← hnl] at hLl
  rw [← hn, ← hm, ← hnc, ← hnl]
  clear h hD hE hL hn hm hnc hnl
  cases hv : vld C D E with
  | false =>
    rw [hv] at HB0 KV
    have HF := hide (HNO.out (by rw [HB0.out]; rfl))
    clear HB0 HNO HNOF HYES KW HP hv HWI HVF HNC
    go_enter Try.func26, Try.ntmps26
    go_wp2_with fail
    refine KV.out.mono ?_
    rintro e9 w1 ⟨rfl, rfl⟩
    clear KV
    go_wp2
    go_ret2
    exact bel_ib HF.out (Below.refl _ _)
  | true =>
    rw [hv, Bool.true_and] at HB0
    rw [hv] at KV
    have hP := HP.out hv
    have hn6 := hP.n6
    have hm6 := hP.m6
    have HQ := hide hP.q
    have hnn : n = nc := by rw [HNC.out]; exact hP.hn.symm
    subst hnn
    clear HP hP hv HNC
    generalize cF C = cc at *
    generalize lF D = dd at *
    generalize lF E = ee at *
    have tw : IntKind.i64.wrap ((m : Int) + 1) = (m : Int) + 1 := IntWalk.i64_in _ (by omega)
    have tn : IntKind.i64.wrap ((n : Int) + 1) = (n : Int) + 1 := IntWalk.i64_in _ (by omega)
    obtain ⟨K, hK⟩ : ∃ K, K = (n + 1) * (m + 1) := ⟨_, rfl⟩
    have hK1 : 1 ≤ K := by rw [hK]; exact Nat.mul_pos (Nat.succ_pos _) (Nat.succ_pos _)
    have hK2 : K ≤ 49 := by rw [hK]; exact Nat.mul_le_mul (show n + 1 ≤ 7 by omega) (show m + 1 ≤ 7 by omega)
    have hKi : ((n : Int) + 1) * ((m : Int) + 1) = (K : Int) := by rw [hK]; push_cast; rfl
    have tk : IntKind.i64.wrap (((n : Int) + 1) * ((m : Int) + 1)) = (K : Int) := by rw [hKi]; exact IntWalk.i64_in _ (by omega)
    rw [← hK] at HB0
    have HK := hide hK
    clear hK hKi
    by_cases h1 : nl = K
    case neg =>
      have HF := hide (HNO.out (by rw [HB0.out, decide_eq_false h1]; rfl))
      clear HNO HNOF HYES KW HWI HVF HB0 HQ HK
      go_enter Try.func26, Try.ntmps26
      go_wp2_with fail
      refine KV.out.mono ?_
      rintro e9 w1 ⟨rfl, rfl⟩
      clear KV
      go_wp2
      go_ret2
      exact bel_ib HF.out (Below.refl _ _)
    rw [decide_eq_true h1, Bool.true_and] at HB0
    obtain ⟨s, hs⟩ : ∃ s, nl = s + 1 := ⟨nl - 1, by omega⟩
    have ts : IntKind.i64.wrap ((nl : Int) - 1) = (s : Int) := by rw [IntWalk.i64_in _ (by omega)]; omega
    have hs1 : nl - 1 = s := by omega
    have hsl : (s : Int) < (nl : Int) := by omega
    have hs0 : s < nl := by omega
    rw [hs1] at HB0
    subst h1
    clear hs hs1
    cases h3 : wi L (-1000000) 1000000 with
    | false =>
      rw [h3] at HB0 KW
      have HF := hide (HNO.out (by rw [HB0.out]; rfl))
      clear HNO HNOF HYES HWI HVF HB0 HQ HK h3
      go_enter Try.func26, Try.ntmps26
      go_wp2_with fail
      refine KV.out.mono ?_
      rintro e9 w1 ⟨rfl, rfl⟩
      clear KV
      go_wp2_with fail
      refine KW.out.mono ?_
      rintro e9 w2 ⟨rfl, rfl⟩
      clear KW
      go_wp2
      go_ret2
      exact bel_ib HF.out (Below.refl _ _)
    | true =>
      rw [h3, Bool.true_and] at HB0
      rw [h3] at KW
      have HWB := hide (HWI.out h3)
      clear h3
      obtain ⟨bl, ol, rfl, hcs⟩ := HVF.out s hs0
      have c5 := hcs _ (Below.refl _ _)
      clear hcs
      by_cases h4 : lF L s ≤ 0
      case neg =>
        have HF := hide (HNO.out (by rw [HB0.out, decide_eq_false h4]))
        clear HNO HNOF HYES HWI HVF HB0 HQ HK HWB
        go_enter Try.func26, Try.ntmps26
        go_wp2_with fail
        refine KV.out.mono ?_
        rintro e9 w1 ⟨rfl, rfl⟩
        clear KV
        go_wp2_with fail
        refine KW.out.mono ?_
        rintro e9 w2 ⟨rfl, rfl⟩
        clear KW
        go_wp2
        go_ret2
        exact bel_ib HF.out (Below.refl _ _)
      have HY := hide (HYES.out (by rw [HB0.out, decide_eq_true h4]))
      clear HNO HYES HB0 HWI
      go_enter Try.func26, Try.ntmps26
      go_wp2_with fail
      refine KV.out.mono ?_
      rintro e9 w1 ⟨rfl, rfl⟩
      clear KV
      go_wp2_with fail
      refine KW.out.mono ?_
      rintro e9 w2 ⟨rfl, rfl⟩
      clear KW
      have HC := hide (fun (i : Nat) (hi : i < nl) => by
        obtain ⟨bl2, ol2, e0, hck⟩ := HVF.out i hi
        obtain ⟨rfl, rfl⟩ : bl2 = bl ∧ ol2 = ol := by simpa [eq_comm] using e0
        exact hck)
      clear HVF
      go_wp2
      go_loopw [11] (fun i wr => ∃ k : Nat, k ≤ n + 1 ∧ i = .int .i64 k ∧ hbF cc dd ee L n m (k * (m + 1)) = true ∧ Below w.heap.size w wr) (fun i _ => n + 1 - (intOf i).toNat)
      case atStart => exact ⟨0, Nat.zero_le _, rfl, by rw [Nat.zero_mul]; rfl, Below.refl _ _⟩
      case round =>
        obtain ⟨k, hk, rfl, ht, hb⟩ := hrel
        have HT0 := hide ht
        have HB0 := hide hb
        clear ht hb
        by_cases hkn : k ≤ n
        · go_wp2
          go_loopw [12] (fun i wr => ∃ j : Nat, j ≤ m + 1 ∧ i = .int .i64 j ∧ hbF cc dd ee L n m (k * (m + 1) + j) = true ∧ Below w.heap.size w wr) (fun i _ => m + 1 - (intOf i).toNat)
          case atStart => exact ⟨0, Nat.zero_le _, rfl, by rw [Nat.add_zero]; exact HT0.out, HB0.out⟩
          case round =>
            obtain ⟨j, hj, rfl, ht, hb⟩ := hrel
            have HBL := hide hb
            have HBD := hide (below_drew hb)
            by_cases hjl : j ≤ m
            · obtain ⟨p, hp⟩ : ∃ p, p = k * (m + 1) + j := ⟨_, rfl⟩
              have HP := hide hp
              have ht2 : hbF cc dd ee L n m p = true := by rw [hp]; exact ht
              have HNX := hide (hbF_next (c := cc) (d := dd) (e := ee) (L := L) (n := n) hjl hp ht2)
              obtain ⟨a, ha⟩ : ∃ a, a = k * (m + 1) := ⟨_, rfl⟩
              rw [← ha] at hp
              have hak : a + (m + 1) ≤ nl := by
                have h8 : (k + 1) * (m + 1) ≤ (n + 1) * (m + 1) := Nat.mul_le_mul_right _ (by omega)
                rw [← HK.out, Nat.succ_mul, ← ha] at h8
                exact h8
              have HROW := hide (show k < n → a + (m + 1) + (m + 1) ≤ nl from fun h7 => by
                have h8 : (k + 1 + 1) * (m + 1) ≤ (n + 1) * (m + 1) := Nat.mul_le_mul_right _ (by omega)
                rw [← HK.out, Nat.succ_mul, Nat.succ_mul, ← ha] at h8
                exact h8)
              have hpl : p < nl := by omega
              have t1 : IntKind.i64.wrap ((k : Int) * ((m : Int) + 1)) = (a : Int) := by
                have e8 : (k : Int) * ((m : Int) + 1) = (a : Int) := by rw [ha]; push_cast; rfl
                rw [e8]; exact IntWalk.i64_in _ (by omega)
              have t2 : IntKind.i64.wrap ((a : Int) + (j : Int)) = (p : Int) := by rw [IntWalk.i64_in _ (by omega)]; omega
              have HSTOP := hide (fun (h7 : hbF cc dd ee L n m (p + 1) = false) => HNOF.out (hbF_stop h7 (by omega)))
              obtain ⟨pm, hpm⟩ : ∃ x, x = p + m := ⟨_, rfl⟩
              obtain ⟨u, hu0⟩ : ∃ x, x = p + m + 1 := ⟨_, rfl⟩
              obtain ⟨v, hv0⟩ : ∃ x, x = p + 1 := ⟨_, rfl⟩
              obtain ⟨x, hx0⟩ : ∃ x, x = p + m + 2 := ⟨_, rfl⟩
              have HU := hide hu0.symm
              have HV := hide hv0.symm
              have HX := hide hx0.symm
              have t3 : IntKind.i64.wrap ((p : Int) + (m : Int)) = (pm : Int) := by rw [IntWalk.i64_in _ (by omega)]; omega
              have t4 : IntKind.i64.wrap ((pm : Int) + 1) = (u : Int) := by rw [IntWalk.i64_in _ (by omega)]; omega
              have t5 : IntKind.i64.wrap ((pm : Int) + 2) = (x : Int) := by rw [IntWalk.i64_in _ (by omega)]; omega
              have t6 : IntKind.i64.wrap ((p : Int) + 1) = (v : Int) := by rw [IntWalk.i64_in _ (by omega)]; omega
              have c0 := HC.out p hpl _ HBD.out
              have b0 := HWB.out p hpl
              generalize hz : lF L p = z at *
              have HZ := hide hz
              have HUL := hide (show k < n → u < nl from fun h7 => by have := HROW.out h7; omega)
              have HVL := hide (show j < m → v < nl from fun h7 => by omega)
              have HXL := hide (show k < n → j < m → x < nl from fun h7 h8 => by have := HROW.out h7; omega)
              clear hb ht ht2 ha hz hp hpm hu0 hv0 hx0
              by_cases hin : k < n
              · by_cases hjm : j < m
                · have hu := HUL.out hin
                  have c1 := HC.out u hu _ HBD.out
                  have b1 := HWB.out u hu
                  obtain ⟨bd, od, rfl, hcd⟩ := HQ.out.D k hin
                  have c2 := hcd _ HBD.out
                  have b2 := HQ.out.db k hin
                  have HQ1 := hide (show q1 dd L n m k p = !decide (dd k + lF L u < z) by unfold q1; rw [decide_eq_true hin, Bool.true_and, HU.out, HZ.out])
                  clear hcd
                  generalize lF L u = y1 at *
                  generalize dd k = dk at *
                  have s1 : IntKind.i64.wrap (dk + y1) = dk + y1 := IntWalk.i64_in _ (by omega)
                  have hv := HVL.out hjm
                  have c3 := HC.out v hv _ HBD.out
                  have b3 := HWB.out v hv
                  obtain ⟨be, oe, rfl, hce⟩ := HQ.out.E j hjm
                  have c4 := hce _ HBD.out
                  have b4 := HQ.out.eb j hjm
                  have HQ2 := hide (show q2 ee L m j p = !decide (ee j + lF L v < z) by unfold q2; rw [decide_eq_true hjm, Bool.true_and, HV.out, HZ.out])
                  clear hce
                  generalize lF L v = y2 at *
                  generalize ee j = ej at *
                  have s2 : IntKind.i64.wrap (ej + y2) = ej + y2 := IntWalk.i64_in _ (by omega)
                  have hx := HXL.out hin hjm
                  have c6 := HC.out x hx _ HBD.out
                  have b6 := HWB.out x hx
                  obtain ⟨ba, oa, RR, cR, rfl, hca, hrow⟩ := HQ.out.R k hin
                  obtain ⟨b', o', rfl, hcc⟩ := hrow j hjm
                  have c7 := hca _ HBD.out
                  have c8 := hcc _ HBD.out
                  have b8 := HQ.out.cb k hin j hjm
                  have HQ3 := hide (show q3 cc L n m k j p = !decide (cc k j + lF L x < z) by unfold q3; rw [decide_eq_true hin, decide_eq_true hjm, Bool.true_and, Bool.true_and, HX.out, HZ.out])
                  clear hca hrow hcc
                  generalize lF L x = y3 at *
                  generalize cc k j = ckj at *
                  have s3 : IntKind.i64.wrap (ckj + y3) = ckj + y3 := IntWalk.i64_in _ (by omega)
                  by_cases g1 : dk + y1 < z
                  · have HF := hide (HSTOP.out (by rw [HNX.out]; rw [HQ1.out, decide_eq_true g1]; simp))
                    clear HSTOP HNX HY

                    go_wp2_with fail
                    refine wp_region_lex (fun w' => w' = wr.drew) (by kernel_rfl) (by kernel_rfl) rfl ?_
                    generalize wr.drew = wd at *
                    (repeat (first | (refine lex_skip (by rfl) ?_; try simp only [Act.put, List.setIfInBounds_toArray, List.set_cons_zero, List.set_cons_succ]) | (refine lex_read (v := ?_) (by rfl) ?_ ?_; rotate_left; (focus (intro w' hS'; go_simp; (try with_reducible rfl); done)); try simp only [Act.put, List.setIfInBounds_toArray, List.set_cons_zero, List.set_cons_succ])))
                    refine lex_nil ?_

                    go_wp2
                    go_ret2
                    exact bel_ib HF.out HBD.out
                  · have f1 : decide (dk + y1 < z) = false := decide_eq_false g1
                    by_cases g2 : ej + y2 < z
                    · have HF := hide (HSTOP.out (by rw [HNX.out]; rw [HQ2.out, decide_eq_true g2]; simp))
                      clear HSTOP HNX HY

                      go_wp2_with fail
                      refine wp_region_lex (fun w' => w' = wr.drew) (by kernel_rfl) (by kernel_rfl) rfl ?_
                      generalize wr.drew = wd at *
                      (repeat (first | (refine lex_skip (by rfl) ?_; try simp only [Act.put, List.setIfInBounds_toArray, List.set_cons_zero, List.set_cons_succ]) | (refine lex_read (v := ?_) (by rfl) ?_ ?_; rotate_left; (focus (intro w' hS'; go_simp; (try with_reducible rfl); done)); try simp only [Act.put, List.setIfInBounds_toArray, List.set_cons_zero, List.set_cons_succ])))
                      refine lex_nil ?_

                      go_wp2
                      go_ret2
                      exact bel_ib HF.out HBD.out
                    · have f2 : decide (ej + y2 < z) = false := decide_eq_false g2
                      by_cases g3 : ckj + y3 < z
                      · have HF := hide (HSTOP.out (by rw [HNX.out]; rw [HQ3.out, decide_eq_true g3]; simp))
                        clear HSTOP HNX HY

                        go_wp2_with fail
                        refine wp_region_lex (fun w' => w' = wr.drew) (by kernel_rfl) (by kernel_rfl) rfl ?_
                        generalize wr.drew = wd at *
                        (repeat (first | (refine lex_skip (by rfl) ?_; try simp only [Act.put, List.setIfInBounds_toArray, List.set_cons_zero, List.set_cons_succ]) | (refine lex_read (v := ?_) (by rfl) ?_ ?_; rotate_left; (focus (intro w' hS'; go_simp; (try with_reducible rfl); done)); try simp only [Act.put, List.setIfInBounds_toArray, List.set_cons_zero, List.set_cons_succ])))
                        refine lex_nil ?_

                        go_wp2
                        go_ret2
                        exact bel_ib HF.out HBD.out
                      · have f3 : decide (ckj + y3 < z) = false := decide_eq_false g3
                        have HT := hide (show hbF cc dd ee L n m (k * (m + 1) + (j + 1)) = true by rw [← Nat.add_assoc, ← HP.out, HNX.out]; rw [HQ1.out, HQ2.out, HQ3.out, decide_eq_false g1, decide_eq_false g2, decide_eq_false g3]; rfl)
                        clear HSTOP HNX HNOF

                        go_wp2_with fail
                        refine wp_region_lex (fun w' => w' = wr.drew) (by kernel_rfl) (by kernel_rfl) rfl ?_
                        generalize wr.drew = wd at *
                        (repeat (first | (refine lex_skip (by rfl) ?_; try simp only [Act.put, List.setIfInBounds_toArray, List.set_cons_zero, List.set_cons_succ]) | (refine lex_read (v := ?_) (by rfl) ?_ ?_; rotate_left; (focus (intro w' hS'; go_simp; (try with_reducible rfl); done)); try simp only [Act.put, List.setIfInBounds_toArray, List.set_cons_zero, List.set_cons_succ])))
                        refine lex_nil ?_

                        clear c0
                        go_wp2
                        go_roundw
                        case rel => exact ⟨j + 1, by omega, by go_num, HT.out, HBD.out⟩
                        case measure => simp [intOf]; omega
                · have hu := HUL.out hin
                  have c1 := HC.out u hu _ HBD.out
                  have b1 := HWB.out u hu
                  obtain ⟨bd, od, rfl, hcd⟩ := HQ.out.D k hin
                  have c2 := hcd _ HBD.out
                  have b2 := HQ.out.db k hin
                  have HQ1 := hide (show q1 dd L n m k p = !decide (dd k + lF L u < z) by unfold q1; rw [decide_eq_true hin, Bool.true_and, HU.out, HZ.out])
                  clear hcd
                  generalize lF L u = y1 at *
                  generalize dd k = dk at *
                  have s1 : IntKind.i64.wrap (dk + y1) = dk + y1 := IntWalk.i64_in _ (by omega)
                  have HQ2 := hide (show q2 ee L m j p = true by unfold q2; rw [decide_eq_false hjm]; rfl)
                  have HQ3 := hide (show q3 cc L n m k j p = true by unfold q3; simp [hjm])
                  by_cases g1 : dk + y1 < z
                  · have HF := hide (HSTOP.out (by rw [HNX.out]; rw [HQ1.out, decide_eq_true g1]; simp))
                    clear HSTOP HNX HY

                    go_wp2_with fail
                    refine wp_region_lex (fun w' => w' = wr.drew) (by kernel_rfl) (by kernel_rfl) rfl ?_
                    generalize wr.drew = wd at *
                    (repeat (first | (refine lex_skip (by rfl) ?_; try simp only [Act.put, List.setIfInBounds_toArray, List.set_cons_zero, List.set_cons_succ]) | (refine lex_read (v := ?_) (by rfl) ?_ ?_; rotate_left; (focus (intro w' hS'; go_simp; (try with_reducible rfl); done)); try simp only [Act.put, List.setIfInBounds_toArray, List.set_cons_zero, List.set_cons_succ])))
                    refine lex_nil ?_

                    go_wp2
                    go_ret2
                    exact bel_ib HF.out HBD.out
                  · have f1 : decide (dk + y1 < z) = false := decide_eq_false g1
                    have HT := hide (show hbF cc dd ee L n m (k * (m + 1) + (j + 1)) = true by rw [← Nat.add_assoc, ← HP.out, HNX.out]; rw [HQ1.out, HQ2.out, HQ3.out, decide_eq_false g1]; rfl)
                    clear HSTOP HNX HNOF

                    go_wp2_with fail
                    refine wp_region_lex (fun w' => w' = wr.drew) (by kernel_rfl) (by kernel_rfl) rfl ?_
                    generalize wr.drew = wd at *
                    (repeat (first | (refine lex_skip (by rfl) ?_; try simp only [Act.put, List.setIfInBounds_toArray, List.set_cons_zero, List.set_cons_succ]) | (refine lex_read (v := ?_) (by rfl) ?_ ?_; rotate_left; (focus (intro w' hS'; go_simp; (try with_reducible rfl); done)); try simp only [Act.put, List.setIfInBounds_toArray, List.set_cons_zero, List.set_cons_succ])))
                    refine lex_nil ?_

                    clear c0
                    go_wp2
                    go_roundw
                    case rel => exact ⟨j + 1, by omega, by go_num, HT.out, HBD.out⟩
                    case measure => simp [intOf]; omega
              · by_cases hjm : j < m
                · have HQ1 := hide (show q1 dd L n m k p = true by unfold q1; rw [decide_eq_false hin]; rfl)
                  have hv := HVL.out hjm
                  have c3 := HC.out v hv _ HBD.out
                  have b3 := HWB.out v hv
                  obtain ⟨be, oe, rfl, hce⟩ := HQ.out.E j hjm
                  have c4 := hce _ HBD.out
                  have b4 := HQ.out.eb j hjm
                  have HQ2 := hide (show q2 ee L m j p = !decide (ee j + lF L v < z) by unfold q2; rw [decide_eq_true hjm, Bool.true_and, HV.out, HZ.out])
                  clear hce
                  generalize lF L v = y2 at *
                  generalize ee j = ej at *
                  have s2 : IntKind.i64.wrap (ej + y2) = ej + y2 := IntWalk.i64_in _ (by omega)
                  have HQ3 := hide (show q3 cc L n m k j p = true by unfold q3; simp [hin])
                  by_cases g2 : ej + y2 < z
                  · have HF := hide (HSTOP.out (by rw [HNX.out]; rw [HQ2.out, decide_eq_true g2]; simp))
                    clear HSTOP HNX HY

                    go_wp2_with fail
                    refine wp_region_lex (fun w' => w' = wr.drew) (by kernel_rfl) (by kernel_rfl) rfl ?_
                    generalize wr.drew = wd at *
                    (repeat (first | (refine lex_skip (by rfl) ?_; try simp only [Act.put, List.setIfInBounds_toArray, List.set_cons_zero, List.set_cons_succ]) | (refine lex_read (v := ?_) (by rfl) ?_ ?_; rotate_left; (focus (intro w' hS'; go_simp; (try with_reducible rfl); done)); try simp only [Act.put, List.setIfInBounds_toArray, List.set_cons_zero, List.set_cons_succ])))
                    refine lex_nil ?_

                    go_wp2
                    go_ret2
                    exact bel_ib HF.out HBD.out
                  · have f2 : decide (ej + y2 < z) = false := decide_eq_false g2
                    have HT := hide (show hbF cc dd ee L n m (k * (m + 1) + (j + 1)) = true by rw [← Nat.add_assoc, ← HP.out, HNX.out]; rw [HQ1.out, HQ2.out, HQ3.out, decide_eq_false g2]; rfl)
                    clear HSTOP HNX HNOF

                    go_wp2_with fail
                    refine wp_region_lex (fun w' => w' = wr.drew) (by kernel_rfl) (by kernel_rfl) rfl ?_
                    generalize wr.drew = wd at *
                    (repeat (first | (refine lex_skip (by rfl) ?_; try simp only [Act.put, List.setIfInBounds_toArray, List.set_cons_zero, List.set_cons_succ]) | (refine lex_read (v := ?_) (by rfl) ?_ ?_; rotate_left; (focus (intro w' hS'; go_simp; (try with_reducible rfl); done)); try simp only [Act.put, List.setIfInBounds_toArray, List.set_cons_zero, List.set_cons_succ])))
                    refine lex_nil ?_

                    clear c0
                    go_wp2
                    go_roundw
                    case rel => exact ⟨j + 1, by omega, by go_num, HT.out, HBD.out⟩
                    case measure => simp [intOf]; omega
                · have HQ1 := hide (show q1 dd L n m k p = true by unfold q1; rw [decide_eq_false hin]; rfl)
                  have HQ2 := hide (show q2 ee L m j p = true by unfold q2; rw [decide_eq_false hjm]; rfl)
                  have HQ3 := hide (show q3 cc L n m k j p = true by unfold q3; simp [hin])
                  have HT := hide (show hbF cc dd ee L n m (k * (m + 1) + (j + 1)) = true by rw [← Nat.add_assoc, ← HP.out, HNX.out]; rw [HQ1.out, HQ2.out, HQ3.out]; rfl)
                  clear HSTOP HNX HNOF

                  go_wp2_with fail
                  refine wp_region_lex (fun w' => w' = wr.drew) (by kernel_rfl) (by kernel_rfl) rfl ?_
                  generalize wr.drew = wd at *
                  (repeat (first | (refine lex_skip (by rfl) ?_; try simp only [Act.put, List.setIfInBounds_toArray, List.set_cons_zero, List.set_cons_succ]) | (refine lex_read (v := ?_) (by rfl) ?_ ?_; rotate_left; (focus (intro w' hS'; go_simp; (try with_reducible rfl); done)); try simp only [Act.put, List.setIfInBounds_toArray, List.set_cons_zero, List.set_cons_succ])))
                  refine lex_nil ?_

                  clear c0
                  go_wp2
                  go_roundw
                  case rel => exact ⟨j + 1, by omega, by go_num, HT.out, HBD.out⟩
                  case measure => simp [intOf]; omega
            · obtain rfl : j = m + 1 := by omega
              have HT := hide (show hbF cc dd ee L n m ((k + 1) * (m + 1)) = true by rw [Nat.succ_mul]; exact ht)
              clear ht hb HBD
              go_wp2
              go_roundw
              case rel => exact ⟨k + 1, by omega, by go_num, HT.out, HBL.out⟩
              case measure => simp [intOf]; omega

        · obtain rfl : k = n + 1 := by omega
          have HF := hide (HY.out (by rw [HK.out]; exact HT0.out))
          have c1 := HC.out 0 (by omega) _ HB0.out
          rw [Nat.add_zero] at c1
          have t0 : (0 : Int) < (nl : Int) := by omega
          generalize lF L 0 = z0 at *
          clear HT0 HY HNOF
          go_wp2
          go_ret2
          exact bel_ib HF.out HB0.out
end Go.Proofs.Ytalbhghigdanlaa
namespace Go.Proofs.Ytalbhghigdanlaa
open Go.RowKit Go.CH Go.CH.Asg
open Go.ChangeMaps (setBlock)
section
variable {c : Nat → Nat → Int} {d e : Nat → Int} {n m : Nat}
/-- The numbers from place q on are there, those ahead of it are 0. -/
def RG (c : Nat → Nat → Int) (d e : Nat → Int) (n m q : Nat) (f : Nat → Int) : Prop := ∀ r y, r ≤ n → y ≤ m → (q ≤ r * (m + 1) + y → f (r * (m + 1) + y) = GR c d e n m (n - r) (m - y)) ∧ (r * (m + 1) + y < q → f (r * (m + 1) + y) = 0)
theorem place_lt {r y : Nat} (hr : r ≤ n) (hy : y ≤ m) : r * (m + 1) + y < (n + 1) * (m + 1) := by
  have h8 : (r + 1) * (m + 1) ≤ (n + 1) * (m + 1) := Nat.mul_le_mul_right _ (by omega)
  rw [Nat.succ_mul] at h8; omega
theorem rg_start : RG c d e n m ((n + 1) * (m + 1)) (fun _ => 0) := fun r y hr hy => ⟨fun h => absurd (place_lt hr hy) (by omega), fun _ => rfl⟩
theorem rg_step {f f' : Nat → Int} {i j p : Nat} (h : RG c d e n m (p + 1) f) (hp : p = i * (m + 1) + j) (hi : i ≤ n) (hj : j ≤ m) (h1 : ∀ x, x ≠ p → f' x = f x) (h2 : f' p = GR c d e n m (n - i) (m - j)) : RG c d e n m p f' := by
  intro r y hr hy
  by_cases h3 : r * (m + 1) + y = p
  · have e1 : r = i := by
      have a1 := at_div (i := r) hy
      have a2 := at_div (i := i) hj
      rw [h3, hp, a2] at a1; exact a1.symm
    have e2 : y = j := by subst e1; omega
    subst e1; subst e2
    rw [h3]
    exact ⟨fun _ => h2, fun h4 => by omega⟩
  · rw [h1 _ h3]
    obtain ⟨g1, g2⟩ := h r y hr hy
    exact ⟨fun h4 => g1 (by omega), fun h4 => g2 (by omega)⟩
theorem rg_p {f : Nat → Int} {i j p : Nat} (h : RG c d e n m (p + 1) f) (hp : p = i * (m + 1) + j) (hi : i ≤ n) (hj : j ≤ m) : f p = 0 := by
  rw [hp]; exact (h i j hi hj).2 (by omega)
theorem rg_u {f : Nat → Int} {i j p u : Nat} (h : RG c d e n m (p + 1) f) (hp : p = i * (m + 1) + j) (hi : i < n) (hj : j ≤ m) (hu : u = p + m + 1) : f u = GR c d e n m (n - (i + 1)) (m - j) ∧ u < (n + 1) * (m + 1) := by
  have e1 : u = (i + 1) * (m + 1) + j := by rw [hu, hp, Nat.succ_mul]; omega
  rw [e1]; exact ⟨(h (i + 1) j (by omega) hj).1 (by rw [hp, Nat.succ_mul]; omega), place_lt (by omega) hj⟩
theorem rg_v {f : Nat → Int} {i j p v : Nat} (h : RG c d e n m (p + 1) f) (hp : p = i * (m + 1) + j) (hi : i ≤ n) (hj : j < m) (hv : v = p + 1) : f v = GR c d e n m (n - i) (m - (j + 1)) ∧ v < (n + 1) * (m + 1) := by
  have e1 : v = i * (m + 1) + (j + 1) := by omega
  rw [e1]; exact ⟨(h i (j + 1) hi (by omega)).1 (by omega), place_lt hi (by omega)⟩
theorem rg_x {f : Nat → Int} {i j p x : Nat} (h : RG c d e n m (p + 1) f) (hp : p = i * (m + 1) + j) (hi : i < n) (hj : j < m) (hx : x = p + m + 2) : f x = GR c d e n m (n - (i + 1)) (m - (j + 1)) ∧ x < (n + 1) * (m + 1) := by
  have e1 : x = (i + 1) * (m + 1) + (j + 1) := by rw [hx, hp, Nat.succ_mul]; omega
  rw [e1]; exact ⟨(h (i + 1) (j + 1) (by omega) (by omega)).1 (by rw [hp, Nat.succ_mul]; omega), place_lt (by omega) (by omega)⟩
theorem GR_all {i j : Nat} (hi : i < n) (hj : j < m) : GR c d e n m (n - i) (m - j) = min (min (d i + GR c d e n m (n - (i + 1)) (m - j)) (e j + GR c d e n m (n - i) (m - (j + 1)))) (c i j + GR c d e n m (n - (i + 1)) (m - (j + 1))) := by
  obtain ⟨a, ha⟩ : ∃ a, n - i = a + 1 := ⟨n - i - 1, by omega⟩
  obtain ⟨b, hb⟩ : ∃ b, m - j = b + 1 := ⟨m - j - 1, by omega⟩
  have h1 : n - (i + 1) = a := by omega
  have h2 : m - (j + 1) = b := by omega
  have h3 : n - (a + 1) = i := by omega
  have h4 : m - (b + 1) = j := by omega
  rw [h1, h2, ha, hb]
  show min (min (d (n - (a + 1)) + GR c d e n m a (b + 1)) (e (m - (b + 1)) + GR c d e n m (a + 1) b)) (c (n - (a + 1)) (m - (b + 1)) + GR c d e n m a b) = _
  rw [h3, h4]
theorem GR_row {i : Nat} (hi : i < n) : GR c d e n m (n - i) (m - m) = d i + GR c d e n m (n - (i + 1)) (m - m) := by
  obtain ⟨a, ha⟩ : ∃ a, n - i = a + 1 := ⟨n - i - 1, by omega⟩
  have h1 : n - (i + 1) = a := by omega
  have h3 : n - (a + 1) = i := by omega
  rw [h1, ha, Nat.sub_self]
  show d (n - (a + 1)) + GR c d e n m a 0 = _
  rw [h3]
theorem GR_col {j : Nat} (hj : j < m) : GR c d e n m (n - n) (m - j) = e j + GR c d e n m (n - n) (m - (j + 1)) := by
  obtain ⟨b, hb⟩ : ∃ b, m - j = b + 1 := ⟨m - j - 1, by omega⟩
  have h2 : m - (j + 1) = b := by omega
  have h4 : m - (b + 1) = j := by omega
  rw [h2, hb, Nat.sub_self]
  show e (m - (b + 1)) + GR c d e n m 0 b = _
  rw [h4]
theorem GR_nil : GR c d e n m (n - n) (m - m) = 0 := by rw [Nat.sub_self, Nat.sub_self]; rfl
theorem rg_list {f : Nat → Int} (h : RG c d e n m 0 f) : (fv ((n + 1) * (m + 1)) fun i => .int .i64 (f i)) = ints (gri c d e n m) := by
  apply List.ext_getElem?
  intro k
  by_cases hk : k < (n + 1) * (m + 1)
  · rw [fv_get _ hk]
    obtain ⟨r, y, e1, h1, h2⟩ : ∃ r y, k = r * (m + 1) + y ∧ r ≤ n ∧ y ≤ m := by
      refine ⟨k / (m + 1), k % (m + 1), ?_, ?_, ?_⟩
      · have := Nat.div_add_mod k (m + 1); rw [Nat.mul_comm] at this; exact this.symm
      · have : k / (m + 1) < n + 1 := Nat.div_lt_of_lt_mul (by rw [Nat.mul_comm]; exact hk)
        omega
      · have := Nat.mod_lt k (show 0 < m + 1 by omega); omega
    have e2 := gri_get (c := c) (d := d) (e := e) h1 h2
    unfold ints
    rw [List.getElem?_map, e1, e2, (h r y h1 h2).1 (Nat.zero_le _)]
    rfl
  · rw [List.getElem?_eq_none (by rw [fv_len]; omega), List.getElem?_eq_none (by rw [ints_len, gri_len]; omega)]
end
theorem num_run {F0 : Nat → Prop} {w0 W : World} {g n : Nat} {f : Nat → Int} (h : Run F0 w0 (NumO g n f) W) {k : Nat} (hk : k < n) (b : Int) : Run F0 w0 (NumO g n (fun x => if x = k then b else f x)) (W.setCell ⟨g, k, none⟩ (.int .i64 b)) := by
  obtain ⟨F1, h1, bk⟩ := h.all num_ok
  exact bk _ _ (num_set h1 hk b (fun i _ => rfl))
theorem num_cell {F0 : Nat → Prop} {w0 W : World} {g n : Nat} {f : Nat → Int} (h : Run F0 w0 (NumO g n f) W) {k : Nat} (hk : k < n) : W.cell? ⟨g, k, none⟩ = some (.int .i64 (f k)) ∧ W.frozen? ⟨g, k, none⟩ = false := by
  obtain ⟨F, hF⟩ := h.get
  exact ⟨num_at hF hk, num_free hF k (by omega)⟩
theorem num_vec {F0 : Nat → Prop} {w0 W : World} {g n : Nat} {f : Nat → Int} {l : List Int} (h : Run F0 w0 (NumO g n f) W) (hl : (fv n fun i => .int .i64 (f i)) = ints l) : VecV W (.slice (some ⟨g, 0, none⟩) n n) l := by
  obtain ⟨F, hF⟩ := h.get
  unfold NumO at hF
  rw [hl] at hF
  have hn : n = l.length := by have := congrArg List.length hl; rw [fv_len, ints_len] at this; exact this
  subst hn
  exact ⟨_, _, rfl, row_src hF (ints_one _)⟩
end Go.Proofs.Ytalbhghigdanlaa
namespace Go.Proofs.Ytalbhghigdanlaa
open Go.RowKit Go.CH Go.CH.Asg
open Go.ChangeMaps (setBlock)
set_option maxRecDepth 100000 in
set_option maxHeartbeats 12800000 in
theorem rgrid_any {w : World} {A B G : Option Addr} {V : List (Option Addr × Nat)} {c d e : Nat} {C : List (List Int)} {D E : List Int} (h : Mat w A C V) (hD : Vec w B D) (hE : Vec w G E) :
    Calls Try.prog 21 #[.slice A C.length c, .slice B D.length d, .slice G E.length e] w (GriRet w C D E) := by
  have KV := hide (rvalid_any (c := c) (d := d) (e := e) h hD hE)
  have HP := hide (fun hv => prb_of (w := w) (C := C) (D := D) (E := E) hv h hD hE)
  clear h hD hE
  cases hv : vld C D E with
  | false =>
    have HR := hide (show ∀ w' : World, Below w.heap.size w w' → GriRet w C D E (.returned (.tuple #[.slice none 0 0, .int .i64 1])) w' from fun w' hb => ⟨_, by simp only [errV, hv]; rfl, hb, by simp only [griL, hv]; exact ⟨none, 0, rfl, Src.none_⟩⟩)
    rw [hv] at KV
    clear HP hv
    go_enter Try.func21, Try.ntmps21
    go_wp2_with fail
    refine KV.out.mono ?_
    rintro e9 w1 ⟨rfl, rfl⟩
    clear KV
    go_wp2
    go_ret2
    exact HR.out _ (Below.refl _ _)
  | true =>
    rw [hv] at KV
    have hP := HP.out hv
    have hn6 := hP.n6
    have hm6 := hP.m6
    obtain ⟨nc, hnc⟩ : ∃ n, n = C.length := ⟨_, rfl⟩
    obtain ⟨n, hn⟩ : ∃ n, n = D.length := ⟨_, rfl⟩
    obtain ⟨m, hm⟩ : ∃ n, n = E.length := ⟨_, rfl⟩
    have hnn : nc = n := by rw [hnc, hn]; exact hP.hn
    have HRET := hide (show ∀ (v : Value) (w' : World), Below w.heap.size w w' → VecV w' v (gri (cF C) (lF D) (lF E) n m) → GriRet w C D E (.returned (.tuple #[v, .int .i64 0])) w' from fun v w' hb ha => ⟨v, by simp only [errV, hv]; rfl, hb, by simp only [griL, hv, ← hn, ← hm]; exact ha⟩)
    rw [← hn, ← hm] at hP
    rw [← hn] at hn6
    rw [← hm] at hm6
    have HQ := hide hP.q
    rw [← hnc, ← hn, ← hm] at KV
    rw [← hnc, ← hn, ← hm]
    subst hnn
    clear HP hv hP hnc hn hm
    generalize cF C = cc at *
    generalize lF D = dd at *
    generalize lF E = ee at *
    have tw : IntKind.i64.wrap ((m : Int) + 1) = (m : Int) + 1 := IntWalk.i64_in _ (by omega)
    have tn : IntKind.i64.wrap ((nc : Int) + 1) = (nc : Int) + 1 := IntWalk.i64_in _ (by omega)
    obtain ⟨K, hK⟩ : ∃ K, K = (nc + 1) * (m + 1) := ⟨_, rfl⟩
    have hK2 : K ≤ 49 := by rw [hK]; exact Nat.mul_le_mul (show nc + 1 ≤ 7 by omega) (show m + 1 ≤ 7 by omega)
    have tk : IntKind.i64.wrap (((nc : Int) + 1) * ((m : Int) + 1)) = (K : Int) := by
      have hKi : ((nc : Int) + 1) * ((m : Int) + 1) = (K : Int) := by rw [hK]; push_cast; rfl
      rw [hKi]; exact IntWalk.i64_in _ (by omega)
    have HK := hide hK
    have HS := hide (show RG cc dd ee nc m ((nc + 1) * (m + 1)) (fun _ => 0) from rg_start)
    clear hK
    go_enter Try.func21, Try.ntmps21
    go_wp2_with fail
    refine KV.out.mono ?_
    rintro e9 w1 ⟨rfl, rfl⟩
    clear KV
    go_wp2_with (refine wpList_make rfl intsOk (by decide) (.tmp 26) rfl K (by omega) (by simp [Act.eval, tw, tn, tk]) rfl ?_; refine held ?_)
    refine Held.mk fun w2 hP2 => ?_
    have R1 : Hid (Run (fun _ => False) w (NumO w.heap.size K (fun _ => 0)) w2) := hide (by
      rw [fv_const] at hP2
      exact ((Run.begin w).fresh emp_ok hP2).imp fun _ _ h => star_emp h)
    clear hP2
    generalize w.heap.size = gg at R1 ⊢
    go_wp2
    go_loopg [10] (nc + 1) (fun g s8 wr => ∃ (x0 : Int) (f : Nat → Int), s8 = .int .i64 x0 ∧ x0 = (g : Int) - 1 ∧ g ≤ nc + 1 ∧ Run (fun _ => False) w (NumO gg K f) wr ∧ RG cc dd ee nc m (g * (m + 1)) f)
    case atStart => exact ⟨(nc : Int), _, rfl, by omega, Nat.le_refl _, R1.out, HS.out⟩
    case round =>
      obtain ⟨x0, f, rfl, hx0, hg, hR, hf⟩ := hrel
      have HR := hide hR
      have HF := hide hf
      clear hf R1 HS hR
      cases gk with
      | zero =>
        have tx : ¬ 0 ≤ x0 := by omega
        have HV := hide (num_vec HR.out (show (fv K fun i => .int .i64 (f i)) = ints (gri cc dd ee nc m) by rw [HK.out]; exact rg_list (by have := HF.out; rwa [Nat.zero_mul] at this)))
        clear hx0 HF
        go_wp2
        go_ret2
        exact HRET.out _ _ HR.out.bel HV.out
      | succ i =>
        obtain rfl : x0 = (i : Int) := by omega
        have hi : i ≤ nc := by omega
        have HF0 := hide (show RG cc dd ee nc m (i * (m + 1) + (m + 1)) f by rw [← Nat.succ_mul]; exact HF.out)
        clear hx0 HF
        go_wp2
        go_loopg [11] (m + 1) (fun g2 s9 wr => ∃ (x0 : Int) (f : Nat → Int), s9 = .int .i64 x0 ∧ x0 = (g2 : Int) - 1 ∧ g2 ≤ m + 1 ∧ Run (fun _ => False) w (NumO gg K f) wr ∧ RG cc dd ee nc m (i * (m + 1) + g2) f)
        case atStart => exact ⟨(m : Int), f, rfl, by omega, Nat.le_refl _, HR.out, HF0.out⟩
        case round =>
          obtain ⟨x0, f2, rfl, hx0, hg2, hR, hf⟩ := hrel
          clear HR HF0
          have HR := hide hR
          have HF := hide hf
          clear hR hf
          cases gk with
          | zero =>
            have tx : ¬ 0 ≤ x0 := by omega
            have HF2 := hide (show RG cc dd ee nc m (i * (m + 1)) f2 from HF.out)
            clear hx0 HF
            go_wp2
            go_roundg i
            case measure => omega
            case rel => exact ⟨(i : Int) - 1, f2, by go_num, rfl, by omega, HR.out, HF2.out⟩
          | succ j =>
            obtain rfl : x0 = (j : Int) := by omega
            have hj : j ≤ m := by omega
            clear hx0
            obtain ⟨a, ha⟩ : ∃ a, a = i * (m + 1) := ⟨_, rfl⟩
            obtain ⟨p, hp⟩ : ∃ p, p = a + j := ⟨_, rfl⟩
            have hpx : p = i * (m + 1) + j := by rw [hp, ha]
            have hpK : p < K := by rw [HK.out, hpx]; exact place_lt hi hj
            have HFP := hide (show RG cc dd ee nc m (p + 1) f2 by rw [hpx, Nat.add_assoc]; exact HF.out)
            have HST := hide (fun (f' : Nat → Int) => rg_step (f' := f') HFP.out hpx hi hj)
            have HFU := hide (fun (u : Nat) hin => rg_u (u := u) HFP.out hpx (show i < nc from hin) hj)
            have HFV := hide (fun (v : Nat) hjm => rg_v (v := v) HFP.out hpx hi (show j < m from hjm))
            have HFX := hide (fun (x : Nat) hin hjm => rg_x (x := x) HFP.out hpx (show i < nc from hin) (show j < m from hjm))
            have HF0 := hide (rg_p HFP.out hpx hi hj)
            rw [← HK.out] at HFU HFV HFX
            have HEND := hide (show ∀ f', RG cc dd ee nc m p f' → RG cc dd ee nc m (i * (m + 1) + j) f' from fun f' h7 => by rw [← hpx]; exact h7)
            have t1 : IntKind.i64.wrap ((i : Int) * ((m : Int) + 1)) = (a : Int) := by
              have e8 : (i : Int) * ((m : Int) + 1) = (a : Int) := by rw [ha]; push_cast; rfl
              have : a ≤ p := by omega
              rw [e8]; exact IntWalk.i64_in _ (by omega)
            have t2 : IntKind.i64.wrap ((a : Int) + (j : Int)) = (p : Int) := by rw [IntWalk.i64_in _ (by omega)]; omega
            have HTA := hide (show IntKind.i64.wrap ((i : Int) * ((m : Int) + 1)) = (a : Int) from t1)
            obtain ⟨pm, hpm⟩ : ∃ x, x = p + m := ⟨_, rfl⟩
            obtain ⟨u, hu0⟩ : ∃ x, x = p + m + 1 := ⟨_, rfl⟩
            obtain ⟨v, hv0⟩ : ∃ x, x = p + 1 := ⟨_, rfl⟩
            obtain ⟨x, hx0⟩ : ∃ x, x = p + m + 2 := ⟨_, rfl⟩
            have t3 : IntKind.i64.wrap ((p : Int) + (m : Int)) = (pm : Int) := by rw [IntWalk.i64_in _ (by omega)]; omega
            have t4 : IntKind.i64.wrap ((pm : Int) + 1) = (u : Int) := by rw [IntWalk.i64_in _ (by omega)]; omega
            have t5 : IntKind.i64.wrap ((pm : Int) + 2) = (x : Int) := by rw [IntWalk.i64_in _ (by omega)]; omega
            have t6 : IntKind.i64.wrap ((p : Int) + 1) = (v : Int) := by rw [IntWalk.i64_in _ (by omega)]; omega
            have hpKi : (p : Int) < (K : Int) := by omega
            have HUP := hide (show u ≠ p by omega)
            have HVP := hide (show v ≠ p by omega)
            have HXP := hide (show x ≠ p by omega)
            have HU := hide (fun hin => HFU.out u hin hu0)
            have HV := hide (fun hjm => HFV.out v hjm hv0)
            have HX := hide (fun hin hjm => HFX.out x hin hjm hx0)
            clear HFU HFV HFX HF HFP ha hp hpx hpm hu0 hv0 hx0
            by_cases hin : i < nc
            · by_cases hjm : j < m
              · obtain ⟨bd, od, rfl, hcd⟩ := HQ.out.D i hin
                have RA := HR.out.drew num_ok
                have ca := hcd _ RA.bel
                obtain ⟨hu1, hu2⟩ := HU.out hin
                obtain ⟨cb, -⟩ := num_cell RA hu2
                obtain ⟨cc0, fp⟩ := num_cell RA hpK
                have bu := GR_bnd HQ.out (a := nc - (i + 1)) (b := m - j) (by omega) (by omega)
                rw [← hu1] at bu
                have bd0 := HQ.out.db i hin
                have hui : (u : Int) < (K : Int) := by omega
                have hini : (i : Int) < (nc : Int) := by omega
                have ts : IntKind.i64.wrap (dd i + f2 u) = dd i + f2 u := IntWalk.i64_in _ (by omega)
                have RB := hide (num_run RA hpK (dd i + f2 u))
                have HDI := hide (show dd i = dd i from rfl)
                obtain ⟨be, oe, rfl, hce⟩ := HQ.out.E j hjm
                obtain ⟨ba, oa, R, cR, rfl, hca, hrow⟩ := HQ.out.R i hin
                obtain ⟨b', o', rfl, hcc⟩ := hrow j hjm
                have HCE := hide hce
                have HCA := hide hca
                have HCC := hide hcc
                obtain ⟨hv1, hv2⟩ := HV.out hjm
                obtain ⟨hx1, hx2⟩ := HX.out hin hjm
                have bv := GR_bnd HQ.out (a := nc - i) (b := m - (j + 1)) (by omega) (by omega)
                rw [← hv1] at bv
                have bx := GR_bnd HQ.out (a := nc - (i + 1)) (b := m - (j + 1)) (by omega) (by omega)
                rw [← hx1] at bx
                have be0 := HQ.out.eb j hjm
                have bc0 := HQ.out.cb i hin j hjm
                have hvi : (v : Int) < (K : Int) := by omega
                have hxi : (x : Int) < (K : Int) := by omega
                have hjmi : (j : Int) < (m : Int) := by omega
                have HEQ := hide (GR_all (c := cc) (d := dd) (e := ee) hin hjm)
                rw [← hu1, ← hv1, ← hx1] at HEQ
                obtain ⟨y1, hy1⟩ : ∃ y1, y1 = dd i + f2 u := ⟨_, rfl⟩
                obtain ⟨yu, hyu⟩ : ∃ yu, yu = f2 u := ⟨_, rfl⟩
                obtain ⟨yv, hyv⟩ : ∃ yv, yv = f2 v := ⟨_, rfl⟩
                obtain ⟨yx, hyx⟩ : ∃ yx, yx = f2 x := ⟨_, rfl⟩
                rw [← hyu] at cb ts bu hy1
                rw [← hy1] at ts
                rw [← hyv] at bv
                rw [← hyx] at bx
                have HYV := hide hyv
                have HYX := hide hyx
                rw [← hyu] at RB
                rw [← hy1] at RB
                rw [← hyu, ← hyv, ← hyx, ← hy1] at HEQ
                have by1 : 0 ≤ y1 ∧ y1 ≤ 10000000 := by omega
                have ts2 : IntKind.i64.wrap (ee j + yv) = ee j + yv := IntWalk.i64_in _ (by omega)
                have ts3 : IntKind.i64.wrap (cc i j + yx) = cc i j + yx := IntWalk.i64_in _ (by omega)
                clear HDI hce hca hrow hcc RA hcd hu1 hv1 hx1 HF0 HU HV HX HR bu bd0 hyu hyv hyx
                rw [hy1] at ts
                rw [hy1] at RB
                rw [hy1] at HEQ
                go_wp2_with fail
                refine wp_region_ley (fun w' => w' = wr.drew) (by kernel_rfl) (by kernel_rfl) (by kernel_rfl) rfl ?_
                generalize wr.drew = wd at *
                (repeat (first | (refine ley_skip (by rfl) ?_; try simp only [Act.put, List.setIfInBounds_toArray, List.set_cons_zero, List.set_cons_succ]) | (refine ley_read (v := ?_) (by rfl) ?_ ?_; rotate_left; (focus (intro w' hS'; go_simp; (try with_reducible rfl); done)); try simp only [Act.put, List.setIfInBounds_toArray, List.set_cons_zero, List.set_cons_succ])))
                refine ley_last rfl (by rfl) (fun KK hK => ?_)
                go_wp2_with fail
                refine hK.out _ _ ?_
                clear hK ca cb cc0 fp
                rw [← hy1] at RB HEQ
                rw [← hy1]
                clear ts hy1
                generalize wd.setCell ⟨gg, p, none⟩ (.int .i64 y1) = w3 at *
                clear wd
                have RC := RB.out.drew num_ok
                have HRC := hide RC
                have c1 := HCE.out _ RC.bel
                obtain ⟨c2, -⟩ := num_cell RC hpK
                obtain ⟨c3, -⟩ := num_cell RC hv2
                simp only [if_true] at c2
                rw [if_neg HVP.out, ← HYV.out] at c3
                clear RC RB
                by_cases hlt : ee j + yv < y1
                · have hltb : decide (ee j + yv < y1) = true := decide_eq_true hlt
                  go_wp2_with fail
                  refine wp_region_lex (fun w' => w' = w3.drew) (by kernel_rfl) (by kernel_rfl) rfl ?_
                  generalize w3.drew = wd at *
                  (repeat (first | (refine lex_skip (by rfl) ?_; try simp only [Act.put, List.setIfInBounds_toArray, List.set_cons_zero, List.set_cons_succ]) | (refine lex_read (v := ?_) (by rfl) ?_ ?_; rotate_left; (focus (intro w' hS'; go_simp; (try with_reducible rfl); done)); try simp only [Act.put, List.setIfInBounds_toArray, List.set_cons_zero, List.set_cons_succ])))
                  refine lex_nil ?_
                  have RD := HRC.out.drew num_ok
                  have c1 := HCE.out _ RD.bel
                  obtain ⟨cc0, fp⟩ := num_cell RD hpK
                  obtain ⟨c3, -⟩ := num_cell RD hv2
                  rw [if_neg HVP.out, ← HYV.out] at c3
                  have RE := hide (num_run RD hpK (ee j + yv))
                  clear HRC RD c2 hltb
                  go_wp2_with fail
                  refine wp_region_ley (fun w' => w' = wd.drew) (by kernel_rfl) (by kernel_rfl) (by kernel_rfl) rfl ?_
                  generalize wd.drew = we at *
                  (repeat (first | (refine ley_skip (by rfl) ?_; try simp only [Act.put, List.setIfInBounds_toArray, List.set_cons_zero, List.set_cons_succ]) | (refine ley_read (v := ?_) (by rfl) ?_ ?_; rotate_left; (focus (intro w' hS'; go_simp; (try with_reducible rfl); done)); try simp only [Act.put, List.setIfInBounds_toArray, List.set_cons_zero, List.set_cons_succ])))
                  refine ley_last rfl (by rfl) (fun KK hK => ?_)
                  go_wp2_with fail
                  refine hK.out _ _ ?_
                  clear hK c1 c3 cc0 fp
                  generalize we.setCell ⟨gg, p, none⟩ (.int .i64 (ee j + yv)) = w4 at *
                  clear we
                  have RF := RE.out.drew num_ok
                  have fx : (if x = p then ee j + yv else if x = p then y1 else f2 x) = yx := by rw [if_neg HXP.out, if_neg HXP.out, ← HYX.out]
                  have HOTH := hide (show ∀ (z : Int) q, q ≠ p → (if q = p then z else if q = p then ee j + yv else if q = p then y1 else f2 q) = f2 q from fun z q h7 => by rw [if_neg h7, if_neg h7, if_neg h7])
                  obtain ⟨c4, fp⟩ := num_cell RF hpK
                  obtain ⟨c5, -⟩ := num_cell RF hx2
                  simp only [if_true] at c4
                  rw [fx] at c5
                  have c6 := HCA.out _ RF.bel
                  have c7 := HCC.out _ RF.bel
                  by_cases hmin : cc i j + yx < ee j + yv
                  · have RG1 := hide (num_run RF hpK (cc i j + yx))
                    have HG := hide (HEND.out _ (HST.out _ (HOTH.out (cc i j + yx)) (by simp only [if_true]; rw [HEQ.out]; omega)))
                    clear RE RF HOTH HEND HST HEQ fx hlt
                    go_wp2_with fail
                    refine wp_region_ley (fun w' => w' = w4.drew) (by kernel_rfl) (by kernel_rfl) (by kernel_rfl) rfl ?_
                    generalize w4.drew = wh at *
                    (repeat (first | (refine ley_skip (by rfl) ?_; try simp only [Act.put, List.setIfInBounds_toArray, List.set_cons_zero, List.set_cons_succ]) | (refine ley_read (v := ?_) (by rfl) ?_ ?_; rotate_left; (focus (intro w' hS'; go_simp; (try with_reducible rfl); done)); try simp only [Act.put, List.setIfInBounds_toArray, List.set_cons_zero, List.set_cons_succ])))
                    refine ley_last rfl (by rfl) (fun KK hK => ?_)
                    go_wp2_with fail
                    refine hK.out _ _ ?_
                    clear hK c4 c5 c6 c7 fp
                    go_wp2
                    go_roundg j
                    case measure => omega
                    case rel => exact ⟨(j : Int) - 1, _, by go_num, rfl, by omega, RG1.out, HG.out⟩
                  · have RG1 := hide (num_run RF hpK (ee j + yv))
                    have HG := hide (HEND.out _ (HST.out _ (HOTH.out (ee j + yv)) (by simp only [if_true]; rw [HEQ.out]; omega)))
                    clear RE RF HOTH HEND HST HEQ fx hlt
                    go_wp2_with fail
                    refine wp_region_ley (fun w' => w' = w4.drew) (by kernel_rfl) (by kernel_rfl) (by kernel_rfl) rfl ?_
                    generalize w4.drew = wh at *
                    (repeat (first | (refine ley_skip (by rfl) ?_; try simp only [Act.put, List.setIfInBounds_toArray, List.set_cons_zero, List.set_cons_succ]) | (refine ley_read (v := ?_) (by rfl) ?_ ?_; rotate_left; (focus (intro w' hS'; go_simp; (try with_reducible rfl); done)); try simp only [Act.put, List.setIfInBounds_toArray, List.set_cons_zero, List.set_cons_succ])))
                    refine ley_last rfl (by rfl) (fun KK hK => ?_)
                    go_wp2_with fail
                    refine hK.out _ _ ?_
                    clear hK c4 c5 c6 c7 fp
                    go_wp2
                    go_roundg j
                    case measure => omega
                    case rel => exact ⟨(j : Int) - 1, _, by go_num, rfl, by omega, RG1.out, HG.out⟩
                · have hltb : decide (ee j + yv < y1) = false := decide_eq_false hlt
                  go_wp2_with fail
                  refine wp_region_lex (fun w' => w' = w3.drew) (by kernel_rfl) (by kernel_rfl) rfl ?_
                  generalize w3.drew = wd at *
                  (repeat (first | (refine lex_skip (by rfl) ?_; try simp only [Act.put, List.setIfInBounds_toArray, List.set_cons_zero, List.set_cons_succ]) | (refine lex_read (v := ?_) (by rfl) ?_ ?_; rotate_left; (focus (intro w' hS'; go_simp; (try with_reducible rfl); done)); try simp only [Act.put, List.setIfInBounds_toArray, List.set_cons_zero, List.set_cons_succ])))
                  refine lex_nil ?_
                  have RE := HRC
                  clear HRC c1 c2 c3
                  have RF := RE.out.drew num_ok
                  have fx : (if x = p then y1 else f2 x) = yx := by rw [if_neg HXP.out, ← HYX.out]
                  have HOTH := hide (show ∀ (z : Int) q, q ≠ p → (if q = p then z else if q = p then y1 else f2 q) = f2 q from fun z q h7 => by rw [if_neg h7, if_neg h7])
                  obtain ⟨c4, fp⟩ := num_cell RF hpK
                  obtain ⟨c5, -⟩ := num_cell RF hx2
                  simp only [if_true] at c4
                  rw [fx] at c5
                  have c6 := HCA.out _ RF.bel
                  have c7 := HCC.out _ RF.bel
                  by_cases hmin : cc i j + yx < y1
                  · have RG1 := hide (num_run RF hpK (cc i j + yx))
                    have HG := hide (HEND.out _ (HST.out _ (HOTH.out (cc i j + yx)) (by simp only [if_true]; rw [HEQ.out]; omega)))
                    clear RE RF HOTH HEND HST HEQ fx hlt
                    go_wp2_with fail
                    refine wp_region_ley (fun w' => w' = wd.drew) (by kernel_rfl) (by kernel_rfl) (by kernel_rfl) rfl ?_
                    generalize wd.drew = wh at *
                    (repeat (first | (refine ley_skip (by rfl) ?_; try simp only [Act.put, List.setIfInBounds_toArray, List.set_cons_zero, List.set_cons_succ]) | (refine ley_read (v := ?_) (by rfl) ?_ ?_; rotate_left; (focus (intro w' hS'; go_simp; (try with_reducible rfl); done)); try simp only [Act.put, List.setIfInBounds_toArray, List.set_cons_zero, List.set_cons_succ])))
                    refine ley_last rfl (by rfl) (fun KK hK => ?_)
                    go_wp2_with fail
                    refine hK.out _ _ ?_
                    clear hK c4 c5 c6 c7 fp
                    go_wp2
                    go_roundg j
                    case measure => omega
                    case rel => exact ⟨(j : Int) - 1, _, by go_num, rfl, by omega, RG1.out, HG.out⟩
                  · have RG1 := hide (num_run RF hpK (y1))
                    have HG := hide (HEND.out _ (HST.out _ (HOTH.out (y1)) (by simp only [if_true]; rw [HEQ.out]; omega)))
                    clear RE RF HOTH HEND HST HEQ fx hlt
                    go_wp2_with fail
                    refine wp_region_ley (fun w' => w' = wd.drew) (by kernel_rfl) (by kernel_rfl) (by kernel_rfl) rfl ?_
                    generalize wd.drew = wh at *
                    (repeat (first | (refine ley_skip (by rfl) ?_; try simp only [Act.put, List.setIfInBounds_toArray, List.set_cons_zero, List.set_cons_succ]) | (refine ley_read (v := ?_) (by rfl) ?_ ?_; rotate_left; (focus (intro w' hS'; go_simp; (try with_reducible rfl); done)); try simp only [Act.put, List.setIfInBounds_toArray, List.set_cons_zero, List.set_cons_succ])))
                    refine ley_last rfl (by rfl) (fun KK hK => ?_)
                    go_wp2_with fail
                    refine hK.out _ _ ?_
                    clear hK c4 c5 c6 c7 fp
                    go_wp2
                    go_roundg j
                    case measure => omega
                    case rel => exact ⟨(j : Int) - 1, _, by go_num, rfl, by omega, RG1.out, HG.out⟩
              · obtain rfl : j = m := by omega
                obtain ⟨bd, od, rfl, hcd⟩ := HQ.out.D i hin
                have RA := HR.out.drew num_ok
                have ca := hcd _ RA.bel
                obtain ⟨hu1, hu2⟩ := HU.out hin
                obtain ⟨cb, -⟩ := num_cell RA hu2
                obtain ⟨cc0, fp⟩ := num_cell RA hpK
                have bu := GR_bnd HQ.out (a := nc - (i + 1)) (b := j - j) (by omega) (by omega)
                rw [← hu1] at bu
                have bd0 := HQ.out.db i hin
                have hui : (u : Int) < (K : Int) := by omega
                have hini : (i : Int) < (nc : Int) := by omega
                have ts : IntKind.i64.wrap (dd i + f2 u) = dd i + f2 u := IntWalk.i64_in _ (by omega)
                have RB := hide (num_run RA hpK (dd i + f2 u))
                have HDI := hide (show dd i = dd i from rfl)
                have HG := hide (HEND.out _ (HST.out (fun x => if x = p then dd i + f2 u else f2 x) (fun x hx => if_neg hx) (by simp only [if_true]; rw [hu1, GR_row hin])))
                clear RA hcd hu1 HST HEND HF0 HU HV HX HR bu bd0
                go_wp2_with fail
                refine wp_region_ley (fun w' => w' = wr.drew) (by kernel_rfl) (by kernel_rfl) (by kernel_rfl) rfl ?_
                generalize wr.drew = wd at *
                (repeat (first | (refine ley_skip (by rfl) ?_; try simp only [Act.put, List.setIfInBounds_toArray, List.set_cons_zero, List.set_cons_succ]) | (refine ley_read (v := ?_) (by rfl) ?_ ?_; rotate_left; (focus (intro w' hS'; go_simp; (try with_reducible rfl); done)); try simp only [Act.put, List.setIfInBounds_toArray, List.set_cons_zero, List.set_cons_succ])))
                refine ley_last rfl (by rfl) (fun KK hK => ?_)
                go_wp2_with fail
                refine hK.out _ _ ?_
                clear hK ca cb cc0 fp
                generalize wd.setCell ⟨gg, p, none⟩ (.int .i64 (dd i + f2 u)) = w3 at *
                clear wd
                have RD := hide (RB.out.drew num_ok)
                go_wp2_with fail
                refine wp_region_lex (fun w' => w' = w3.drew) (by kernel_rfl) (by kernel_rfl) rfl ?_
                generalize w3.drew = wd at *
                (repeat (first | (refine lex_skip (by rfl) ?_; try simp only [Act.put, List.setIfInBounds_toArray, List.set_cons_zero, List.set_cons_succ]) | (refine lex_read (v := ?_) (by rfl) ?_ ?_; rotate_left; (focus (intro w' hS'; go_simp; (try with_reducible rfl); done)); try simp only [Act.put, List.setIfInBounds_toArray, List.set_cons_zero, List.set_cons_succ])))
                refine lex_nil ?_
                clear RB
                go_wp2
                go_roundg j
                case measure => omega
                case rel => exact ⟨(j : Int) - 1, _, by go_num, rfl, by omega, RD.out, HG.out⟩
            · by_cases hjm : j < m
              · obtain rfl : i = nc := by omega
                obtain ⟨be, oe, rfl, hce⟩ := HQ.out.E j hjm
                have RX := HR.out.drew num_ok
                have RA := RX.drew num_ok
                have ca := hce _ RA.bel
                obtain ⟨hv1, hv2⟩ := HV.out hjm
                obtain ⟨cb, -⟩ := num_cell RA hv2
                obtain ⟨cc0, fp⟩ := num_cell RA hpK
                have bv := GR_bnd HQ.out (a := i - i) (b := m - (j + 1)) (by omega) (by omega)
                rw [← hv1] at bv
                have be0 := HQ.out.eb j hjm
                have hvi : (v : Int) < (K : Int) := by omega
                have hjmi : (j : Int) < (m : Int) := by omega
                have ts : IntKind.i64.wrap (ee j + f2 v) = ee j + f2 v := IntWalk.i64_in _ (by omega)
                have RB := hide (num_run RA hpK (ee j + f2 v))
                have HG := hide (HEND.out _ (HST.out (fun x => if x = p then ee j + f2 v else f2 x) (fun x hx => if_neg hx) (by simp only [if_true]; rw [hv1, GR_col hjm])))
                clear RX RA hce hv1 HST HEND HF0 HU HV HX HR bv be0
                go_wp2_with fail
                refine wp_region_lex (fun w' => w' = wr.drew) (by kernel_rfl) (by kernel_rfl) rfl ?_
                generalize wr.drew = wq at *
                (repeat (first | (refine lex_skip (by rfl) ?_; try simp only [Act.put, List.setIfInBounds_toArray, List.set_cons_zero, List.set_cons_succ]) | (refine lex_read (v := ?_) (by rfl) ?_ ?_; rotate_left; (focus (intro w' hS'; go_simp; (try with_reducible rfl); done)); try simp only [Act.put, List.setIfInBounds_toArray, List.set_cons_zero, List.set_cons_succ])))
                refine lex_nil ?_
                go_wp2_with fail
                refine wp_region_ley (fun w' => w' = wq.drew) (by kernel_rfl) (by kernel_rfl) (by kernel_rfl) rfl ?_
                generalize wq.drew = wd at *
                (repeat (first | (refine ley_skip (by rfl) ?_; try simp only [Act.put, List.setIfInBounds_toArray, List.set_cons_zero, List.set_cons_succ]) | (refine ley_read (v := ?_) (by rfl) ?_ ?_; rotate_left; (focus (intro w' hS'; go_simp; (try with_reducible rfl); done)); try simp only [Act.put, List.setIfInBounds_toArray, List.set_cons_zero, List.set_cons_succ])))
                refine ley_last rfl (by rfl) (fun KK hK => ?_)
                go_wp2_with fail
                refine hK.out _ _ ?_
                clear hK ca cb cc0 fp
                go_wp2
                go_roundg j
                case measure => omega
                case rel => exact ⟨(j : Int) - 1, _, by go_num, rfl, by omega, RB.out, HG.out⟩
              · obtain rfl : i = nc := by omega
                obtain rfl : j = m := by omega
                have HG := hide (HEND.out f2 (HST.out f2 (fun _ _ => rfl) (by rw [HF0.out, GR_nil])))
                clear HST HEND HF0 HU HV HX
                have RD := hide (HR.out.drew num_ok)
                go_wp2_with fail
                refine wp_region_lex (fun w' => w' = wr.drew) (by kernel_rfl) (by kernel_rfl) rfl ?_
                generalize wr.drew = wd at *
                (repeat (first | (refine lex_skip (by rfl) ?_; try simp only [Act.put, List.setIfInBounds_toArray, List.set_cons_zero, List.set_cons_succ]) | (refine lex_read (v := ?_) (by rfl) ?_ ?_; rotate_left; (focus (intro w' hS'; go_simp; (try with_reducible rfl); done)); try simp only [Act.put, List.setIfInBounds_toArray, List.set_cons_zero, List.set_cons_succ])))
                refine lex_nil ?_
                go_wp2
                go_roundg j
                case measure => omega
                case rel => exact ⟨(j : Int) - 1, _, by go_num, rfl, by omega, RD.out, HG.out⟩
end Go.Proofs.Ytalbhghigdanlaa
