/-
  Assign: AssignTurned, walked.
  Assign: lists of numbers, and of such lists, that came in, opened.
-/
import Derived.Test.YtalbhghigdanlaaMT16
import Derived.Test.YtalbhghigdanlaaMT15
import Derived.Test.YtalbhghigdanlaaMT3
import Derived.WalkKit
import Derived.ProofKit
import Derived.OpenShut
import Derived.ShutString
import Derived.SizedLaws
set_option linter.unusedSimpArgs false
set_option linter.unusedVariables false
namespace Go.Proofs.Ytalbhghigdanlaa
open Go.RowKit Go.CH Go.CH.Asg
open Go.ChangeMaps (setBlock)
set_option maxRecDepth 100000 in
set_option maxHeartbeats 12800000 in
theorem turned_any {w : World} {A B G : Option Addr} {C : List (List Int)} {D E : List Int} {nc n m c d e : Nat} {r k : Int} (hP : PX w A B G C D E nc n m d) (hE : m ≤ e) (hr : 0 ≤ r ∧ r ≤ 255) (hk : 0 ≤ k ∧ k ≤ 255) :
    Calls Try.prog 5 #[.slice A nc c, .slice B n d, .slice G m e, .int .u8 r, .int .u8 k] w (BelowRet w (.bool true)) := by
  obtain ⟨ρ, rfl⟩ : ∃ ρ : Nat, r = (ρ : Int) := ⟨r.toNat, by omega⟩
  obtain ⟨κ, rfl⟩ : ∃ κ : Nat, k = (κ : Int) := ⟨k.toNat, by omega⟩
  have hρ : ρ ≤ 255 := by omega
  have hκ : κ ≤ 255 := by omega
  clear hr hk
  have HP0 := hide hP
  have HB0 := hide (Below.refl w.heap.size w)
  have HNE := hide hP.he
  have HND := hide hP.hd
  have HNC := hide hP.hc
  have HME := hide hE
  clear hP hE
  have KH := hide (head_any w)
  have HFL := hide (HP0.out.few_len)
  go_enter Try.func5, Try.ntmps5
  go_wp2_with fail
  refine KH.out.mono ?_
  rintro e9 w1 ⟨rfl, hb⟩
  dsimp only
  have HP1 := hide (HP0.out.below hb)
  have HB1 := hide (bel_trans HB0.out hb)
  clear HP0 HB0
  clear hb KH 
  have KF := hide (HP1.out.few (c := c) (e := e))
  cases hf : few C D E with
  | false =>
    rw [hf] at KF
    clear hf HFL
    go_wp2_with fail
    refine KF.out.mono ?_
    rintro e9 w9 ⟨rfl, rfl⟩
    clear KF
    go_wp2
    go_ret
    exact ⟨rfl, HB1.out⟩
  | true =>
    obtain ⟨l1, l2, l3⟩ := HFL.out hf
    rw [hf] at KF
    clear hf HFL
    go_wp2_with fail
    refine KF.out.mono ?_
    rintro e9 w9 ⟨rfl, rfl⟩
    clear KF
    have KV := hide (HP1.out.rvalid (c := c) (e := e))
    cases hv : vld C D E with
    | false =>
      rw [hv] at KV
      clear hv
      go_wp2_with fail
      refine KV.out.mono ?_
      rintro e9 w9 ⟨rfl, rfl⟩
      clear KV
      go_wp2
      go_ret
      exact ⟨rfl, HB1.out⟩
    | true =>
      rw [hv] at KV
      have HVV := hide (show vld C D E = true from hv)
      have hV6 := vld_iff hv
      have hn6 : n ≤ 6 := by rw [← HND.out]; exact hV6.n6
      have hm6 : m ≤ 6 := by rw [← HNE.out]; exact hV6.m6
      have hncn : nc = n := by rw [← HNC.out, ← HND.out]; exact hV6.n
      clear hv hV6 l1 l2 l3
      subst hncn
      go_wp2_with fail
      refine KV.out.mono ?_
      rintro e9 w9 ⟨rfl, rfl⟩
      clear KV
      have KB := hide (HP1.out.best (c := c) (e := e) HVV.out)
      go_wp2_with fail
      refine KB.out.mono ?_
      rintro e9 wba ⟨AA1, AA2, AA3, ac1, ac2, ac3, rfl, hb0, h1, h2, h3⟩
      have hba := alloc_bel wba (.cells #[.int .i64 (bK C D E), .slice AA1 (nc) ac1, .slice AA2 (nc) ac2, .slice AA3 (m) ac3] 27)
      have hb := bel_trans hb0 hba
      have HP2 := hide (HP1.out.below hb)
      have HB2 := hide (bel_trans HB1.out hb)
      clear HP1 HB1
      have HaP2 := hide (h1.below hba)
      have HaU2 := hide (h2.below hba)
      have HaV2 := hide (h3.below hba)
      have HaM2 := hide (asg_mem wba (bK C D E) AA1 AA2 AA3 (nc) (nc) (m) ac1 ac2 ac3)
      clear hb hb0 hba h1 h2 h3 KB
      have KB := hide (HP2.out.ord (c := c) (e := e) HVV.out)
      go_wp2_with fail
      generalize wba.alloc (.cells #[.int .i64 (bK C D E), .slice AA1 (nc) ac1, .slice AA2 (nc) ac2, .slice AA3 (m) ac3] 27) = w2 at *
      generalize wba.heap.size = ga at *
      clear wba
      refine KB.out.mono ?_
      rintro e9 w3 ⟨OA, oc, rfl, hb, hHO⟩
      dsimp only
      have HP3 := hide (HP2.out.below hb)
      have HB3 := hide (bel_trans HB2.out hb)
      have HaP3 := hide (HaP2.out.below hb)
      have HaU3 := hide (HaU2.out.below hb)
      have HaV3 := hide (HaV2.out.below hb)
      have HaM3 := hide (show ∀ W, Below w3.heap.size w3 W → _ from fun W h => HaM2.out W (bel_trans hb h))
      clear HP2 HB2 HaP2 HaU2 HaV2 HaM2
      have HO3 := hide hHO
      clear hb KB hHO
      clear HO3 HaP3 HaU3 HaV3
      have R0 : Hid (Run (fun _ => False) w3 (star (MatO none 0 []) (star (MatO none 0 []) (star (VecO none 0 (lis 0 (shD D nc ρ))) (star (VecO none 0 (lis 0 (baD D nc))) emp)))) w3) := hide (run_four w3)
      have HQ := hide (prb_of' HVV.out HP3.out)
      have HPW := hide HP3.out
      clear HP3
      go_wp2
      go_loopg [19, 20, 22, 24, 26] nc (fun g s19 s20 s22 s24 s26 wr => ∃ (i : Nat) (As Ab A1 A2 : Option Addr) (cs cb c1 c2 : Nat) (zs zb : List RowZ), i + g = nc ∧ s19 = .slice As i cs ∧ s20 = .slice Ab i cb ∧ s22 = .slice A1 i c1 ∧ s24 = .slice A2 i c2 ∧ s26 = .int .i64 i ∧ zs.map (·.l) = rws i m (shC C nc m ρ κ) ∧ zb.map (·.l) = rws i m (baC C nc m) ∧ Run (fun _ => False) w3 (star (MatO As cs zs) (star (MatO Ab cb zb) (star (VecO A1 c1 (lis i (shD D nc ρ))) (star (VecO A2 c2 (lis i (baD D nc))) emp)))) wr)
      case atStart => exact ⟨0, none, none, none, none, 0, 0, 0, 0, [], [], by omega, rfl, rfl, rfl, rfl, rfl, rfl, rfl, R0.out⟩
      case round =>
        obtain ⟨i, As, Ab, A1, A2, cs, cb, c1, c2, zs, zb, hg, rfl, rfl, rfl, rfl, rfl, hzs, hzb, hR⟩ := hrel
        clear R0
        have HR := hide hR
        have HZS := hide hzs
        have HZB := hide hzb
        have HG := hide hg
        clear hR hzs hzb
        cases gk with
        | zero =>
          obtain rfl : i = nc := by omega
          obtain ⟨X, hX⟩ : ∃ X, X = star (MatO As cs zs) (star (MatO Ab cb zb) (star (VecO A1 c1 (lis i (shD D i ρ))) (star (VecO A2 c2 (lis i (baD D i))) emp))) := ⟨_, rfl⟩
          have HXO := hide (show X.Ok by rw [hX]; exact star_ok mato_ok (star_ok mato_ok (star_ok vec_ok (star_ok vec_ok emp_ok))))
          have HXE := hide hX
          have R1 : Hid (Run (fun _ => False) w3 (star (MatO none 0 []) (star (VecO none 0 (lis 0 (shD E m κ))) (star (VecO none 0 (lis 0 (baD E m))) X))) wr) := hide (by
            have h1 := run_two' (g := shD E m κ) (h := baD E m) (HR.out.perm hX.symm)
            exact h1.imp fun w F hh => ⟨fun _ => False, F, mato_nil w, hh, fun _ h => h.elim, fun i => by simp⟩)
          clear hX HR hg HG
          go_wp2
          go_loopg [21, 23, 25, 31] m (fun g s21 s23 s25 s31 wr => ∃ (j : Nat) (At A3 A4 : Option Addr) (ct c3 c4 : Nat) (zt : List RowZ), j + g = m ∧ s21 = .slice At j ct ∧ s23 = .slice A3 j c3 ∧ s25 = .slice A4 j c4 ∧ s31 = .int .i64 j ∧ zt.map (·.l) = rws j i (tuC C) ∧ Run (fun _ => False) w3 (star (MatO At ct zt) (star (VecO A3 c3 (lis j (shD E m κ))) (star (VecO A4 c4 (lis j (baD E m))) X))) wr)
          case atStart => exact ⟨0, none, none, none, 0, 0, 0, [], by omega, rfl, rfl, rfl, rfl, rfl, R1.out⟩
          case round =>
            obtain ⟨j, At, A3, A4, ct, c3, c4, zt, hg, rfl, rfl, rfl, rfl, hzt, hR⟩ := hrel
            clear R1
            have HR := hide hR
            have HZT := hide hzt
            have HG := hide hg
            clear hR hzt
            cases gk with
            | zero =>
              obtain rfl : j = m := by omega
              clear hg HG
              obtain ⟨k1, k2⟩ := sh_law HVV.out HND.out HNE.out ρ κ
              obtain ⟨k3, k4, k5⟩ := ba_law HVV.out HND.out HNE.out
              obtain ⟨k6, k7, k8⟩ := tu_law HVV.out HND.out HNE.out
              have HR2 := HR.out
              rw [HXE.out] at HR2
              have b0 := HR2.bel
              have HS100 : Hid (PX wr As A1 A3 (rws i j (shC C i j ρ κ)) (lis i (shD D i ρ)) (lis j (shD E j κ)) i i j c1) := hide (by
                obtain ⟨V1, hV1⟩ := mat_of (HR2.perm (by ac_rfl : _ = star (MatO As cs zs) (star (MatO At ct zt) (star (VecO A3 c3 (lis j (shD E j κ))) (star (VecO A4 c4 (lis j (baD E j))) (star (MatO Ab cb zb) (star (VecO A1 c1 (lis i (shD D i ρ))) (star (VecO A2 c2 (lis i (baD D i))) emp))))))))
                obtain ⟨v1, v2⟩ := vec_of (HR2.perm (by ac_rfl : _ = star (VecO A1 c1 (lis i (shD D i ρ))) (star (MatO At ct zt) (star (VecO A3 c3 (lis j (shD E j κ))) (star (VecO A4 c4 (lis j (baD E j))) (star (MatO As cs zs) (star (MatO Ab cb zb) (star (VecO A2 c2 (lis i (baD D i))) emp))))))))
                obtain ⟨v3, -⟩ := vec_of (HR2.perm (by ac_rfl : _ = star (VecO A3 c3 (lis j (shD E j κ))) (star (MatO At ct zt) (star (VecO A4 c4 (lis j (baD E j))) (star (MatO As cs zs) (star (MatO Ab cb zb) (star (VecO A1 c1 (lis i (shD D i ρ))) (star (VecO A2 c2 (lis i (baD D i))) emp))))))))
                rw [HZS.out] at hV1
                exact ⟨⟨V1, hV1⟩, by rw [rws_len]; unfold maxLen; omega, v1.v, v3.v, v2, rws_len, lis_len, lis_len⟩)
              have HK100 : Hid (PX wr Ab A2 A4 (rws i j (baC C i j)) (lis i (baD D i)) (lis j (baD E j)) i i j c2) := hide (by
                obtain ⟨V1, hV1⟩ := mat_of (HR2.perm (by ac_rfl : _ = star (MatO Ab cb zb) (star (MatO As cs zs) (star (MatO At ct zt) (star (VecO A3 c3 (lis j (shD E j κ))) (star (VecO A4 c4 (lis j (baD E j))) (star (VecO A1 c1 (lis i (shD D i ρ))) (star (VecO A2 c2 (lis i (baD D i))) emp))))))))
                obtain ⟨v1, v2⟩ := vec_of (HR2.perm (by ac_rfl : _ = star (VecO A2 c2 (lis i (baD D i))) (star (VecO A1 c1 (lis i (shD D i ρ))) (star (MatO At ct zt) (star (VecO A3 c3 (lis j (shD E j κ))) (star (VecO A4 c4 (lis j (baD E j))) (star (MatO As cs zs) (star (MatO Ab cb zb) emp))))))))
                obtain ⟨v3, -⟩ := vec_of (HR2.perm (by ac_rfl : _ = star (VecO A4 c4 (lis j (baD E j))) (star (VecO A3 c3 (lis j (shD E j κ))) (star (MatO At ct zt) (star (MatO As cs zs) (star (MatO Ab cb zb) (star (VecO A1 c1 (lis i (shD D i ρ))) (star (VecO A2 c2 (lis i (baD D i))) emp))))))))
                rw [HZB.out] at hV1
                exact ⟨⟨V1, hV1⟩, by rw [rws_len]; unfold maxLen; omega, v1.v, v3.v, v2, rws_len, lis_len, lis_len⟩)
              have HP100 := hide (HPW.out.below b0)
              have HT100 : Hid (PX wr At G B (rws j i (tuC C)) E D j j i e) := hide (by
                obtain ⟨V1, hV1⟩ := mat_of HR2
                rw [HZT.out] at hV1
                exact ⟨⟨V1, hV1⟩, by rw [rws_len]; unfold maxLen; omega, HP100.out.pe, HP100.out.pd, by rw [HNE.out]; exact HME.out, rws_len, HNE.out, HND.out⟩)
              have HB100 := hide (bel_trans HB3.out b0)
              have HaM100 := hide (show ∀ W, Below wr.heap.size wr W → _ from fun W h => HaM3.out W (bel_trans b0 h))
              have K1 := hide k1
              have K2 := hide k2
              have K3 := hide k3
              have K4 := hide k4
              have K5 := hide k5
              have K6 := hide k6
              have K7 := hide k7
              have K8 := hide k8
              have hnj : j ≤ 6 := hm6
              clear k1 k2 k3 k4 k5 k6 k7 k8 HR2 b0 HR HXE HXO HZT HZS HZB HQ HPW HB3 HaM3
              have KB := hide (HS100.out.best (c := cs) (e := c3) K1.out)
              rw [K2.out] at KB
              go_wp2_with fail
              refine KB.out.mono ?_
              rintro e9 wbx ⟨XA1, XA2, XA3, xc1, xc2, xc3, rfl, hb0, h1, h2, h3⟩
              have hba := alloc_bel wbx (.cells #[.int .i64 (bK C D E), .slice XA1 (i) xc1, .slice XA2 (i) xc2, .slice XA3 (j) xc3] 27)
              have hb := bel_trans hb0 hba
              have HP101 := hide (HP100.out.below hb)
              have HS101 := hide (HS100.out.below hb)
              have HK101 := hide (HK100.out.below hb)
              have HT101 := hide (HT100.out.below hb)
              have HB101 := hide (bel_trans HB100.out hb)
              have HaM101 := hide (show ∀ W, Below (wbx.alloc (.cells #[.int .i64 (bK C D E), .slice XA1 (i) xc1, .slice XA2 (i) xc2, .slice XA3 (j) xc3] 27)).heap.size (wbx.alloc (.cells #[.int .i64 (bK C D E), .slice XA1 (i) xc1, .slice XA2 (i) xc2, .slice XA3 (j) xc3] 27)) W → _ from fun W h => HaM100.out W (bel_trans hb h))
              clear HP100 HS100 HK100 HT100 HB100 HaM100
              have HxP101 := hide (h1.below hba)
              have HxU101 := hide (h2.below hba)
              have HxV101 := hide (h3.below hba)
              have HxM101 := hide (asg_mem wbx (bK C D E) XA1 XA2 XA3 (i) (i) (j) xc1 xc2 xc3)
              clear hb hb0 hba h1 h2 h3 KB
              have KB := hide (HK101.out.best (c := cb) (e := c4) K3.out)
              rw [K4.out] at KB
              go_wp2_with fail
              generalize wbx.alloc (.cells #[.int .i64 (bK C D E), .slice XA1 (i) xc1, .slice XA2 (i) xc2, .slice XA3 (j) xc3] 27) = w101 at *
              generalize wbx.heap.size = gx at *
              clear wbx
              refine KB.out.mono ?_
              rintro e9 wby ⟨YA1, YA2, YA3, yc1, yc2, yc3, rfl, hb0, h1, h2, h3⟩
              have hba := alloc_bel wby (.cells #[.int .i64 (bK C D E), .slice YA1 (i) yc1, .slice YA2 (i) yc2, .slice YA3 (j) yc3] 27)
              have hb := bel_trans hb0 hba
              have HP102 := hide (HP101.out.below hb)
              have HS102 := hide (HS101.out.below hb)
              have HK102 := hide (HK101.out.below hb)
              have HT102 := hide (HT101.out.below hb)
              have HB102 := hide (bel_trans HB101.out hb)
              have HaM102 := hide (show ∀ W, Below (wby.alloc (.cells #[.int .i64 (bK C D E), .slice YA1 (i) yc1, .slice YA2 (i) yc2, .slice YA3 (j) yc3] 27)).heap.size (wby.alloc (.cells #[.int .i64 (bK C D E), .slice YA1 (i) yc1, .slice YA2 (i) yc2, .slice YA3 (j) yc3] 27)) W → _ from fun W h => HaM101.out W (bel_trans hb h))
              have HxP102 := hide (HxP101.out.below hb)
              have HxU102 := hide (HxU101.out.below hb)
              have HxV102 := hide (HxV101.out.below hb)
              have HxM102 := hide (show ∀ W, Below (wby.alloc (.cells #[.int .i64 (bK C D E), .slice YA1 (i) yc1, .slice YA2 (i) yc2, .slice YA3 (j) yc3] 27)).heap.size (wby.alloc (.cells #[.int .i64 (bK C D E), .slice YA1 (i) yc1, .slice YA2 (i) yc2, .slice YA3 (j) yc3] 27)) W → _ from fun W h => HxM101.out W (bel_trans hb h))
              clear HP101 HS101 HK101 HT101 HB101 HaM101 HxP101 HxU101 HxV101 HxM101
              have HyP102 := hide (h1.below hba)
              have HyU102 := hide (h2.below hba)
              have HyV102 := hide (h3.below hba)
              have HyM102 := hide (asg_mem wby (bK C D E) YA1 YA2 YA3 (i) (i) (j) yc1 yc2 yc3)
              clear hb hb0 hba h1 h2 h3 KB
              have KB := hide (HT102.out.best (c := ct) (e := d) K6.out)
              rw [K7.out] at KB
              go_wp2_with fail
              generalize wby.alloc (.cells #[.int .i64 (bK C D E), .slice YA1 (i) yc1, .slice YA2 (i) yc2, .slice YA3 (j) yc3] 27) = w102 at *
              generalize wby.heap.size = gy at *
              clear wby
              refine KB.out.mono ?_
              rintro e9 wbz ⟨ZA1, ZA2, ZA3, zc1, zc2, zc3, rfl, hb0, h1, h2, h3⟩
              have hba := alloc_bel wbz (.cells #[.int .i64 (bK C D E), .slice ZA1 (j) zc1, .slice ZA2 (j) zc2, .slice ZA3 (i) zc3] 27)
              have hb := bel_trans hb0 hba
              have HP103 := hide (HP102.out.below hb)
              have HS103 := hide (HS102.out.below hb)
              have HK103 := hide (HK102.out.below hb)
              have HT103 := hide (HT102.out.below hb)
              have HB103 := hide (bel_trans HB102.out hb)
              have HaM103 := hide (show ∀ W, Below (wbz.alloc (.cells #[.int .i64 (bK C D E), .slice ZA1 (j) zc1, .slice ZA2 (j) zc2, .slice ZA3 (i) zc3] 27)).heap.size (wbz.alloc (.cells #[.int .i64 (bK C D E), .slice ZA1 (j) zc1, .slice ZA2 (j) zc2, .slice ZA3 (i) zc3] 27)) W → _ from fun W h => HaM102.out W (bel_trans hb h))
              have HxP103 := hide (HxP102.out.below hb)
              have HxU103 := hide (HxU102.out.below hb)
              have HxV103 := hide (HxV102.out.below hb)
              have HxM103 := hide (show ∀ W, Below (wbz.alloc (.cells #[.int .i64 (bK C D E), .slice ZA1 (j) zc1, .slice ZA2 (j) zc2, .slice ZA3 (i) zc3] 27)).heap.size (wbz.alloc (.cells #[.int .i64 (bK C D E), .slice ZA1 (j) zc1, .slice ZA2 (j) zc2, .slice ZA3 (i) zc3] 27)) W → _ from fun W h => HxM102.out W (bel_trans hb h))
              have HyP103 := hide (HyP102.out.below hb)
              have HyU103 := hide (HyU102.out.below hb)
              have HyV103 := hide (HyV102.out.below hb)
              have HyM103 := hide (show ∀ W, Below (wbz.alloc (.cells #[.int .i64 (bK C D E), .slice ZA1 (j) zc1, .slice ZA2 (j) zc2, .slice ZA3 (i) zc3] 27)).heap.size (wbz.alloc (.cells #[.int .i64 (bK C D E), .slice ZA1 (j) zc1, .slice ZA2 (j) zc2, .slice ZA3 (i) zc3] 27)) W → _ from fun W h => HyM102.out W (bel_trans hb h))
              clear HP102 HS102 HK102 HT102 HB102 HaM102 HxP102 HxU102 HxV102 HxM102 HyP102 HyU102 HyV102 HyM102
              have HzP103 := hide (h1.below hba)
              have HzU103 := hide (h2.below hba)
              have HzV103 := hide (h3.below hba)
              have HzM103 := hide (asg_mem wbz (bK C D E) ZA1 ZA2 ZA3 (j) (j) (i) zc1 zc2 zc3)
              clear hb hb0 hba h1 h2 h3 KB
              have KB := hide (HK103.out.ord (c := cb) (e := c4) K3.out)
              rw [K5.out] at KB
              go_wp2_with fail
              generalize wbz.alloc (.cells #[.int .i64 (bK C D E), .slice ZA1 (j) zc1, .slice ZA2 (j) zc2, .slice ZA3 (i) zc3] 27) = w103 at *
              generalize wbz.heap.size = gz at *
              clear wbz
              refine KB.out.mono ?_
              rintro e9 w104 ⟨OA2, oc2, rfl, hb, hHO⟩
              dsimp only
              have HP104 := hide (HP103.out.below hb)
              have HS104 := hide (HS103.out.below hb)
              have HK104 := hide (HK103.out.below hb)
              have HT104 := hide (HT103.out.below hb)
              have HB104 := hide (bel_trans HB103.out hb)
              have HaM104 := hide (show ∀ W, Below w104.heap.size w104 W → _ from fun W h => HaM103.out W (bel_trans hb h))
              have HxP104 := hide (HxP103.out.below hb)
              have HxU104 := hide (HxU103.out.below hb)
              have HxV104 := hide (HxV103.out.below hb)
              have HxM104 := hide (show ∀ W, Below w104.heap.size w104 W → _ from fun W h => HxM103.out W (bel_trans hb h))
              have HyP104 := hide (HyP103.out.below hb)
              have HyU104 := hide (HyU103.out.below hb)
              have HyV104 := hide (HyV103.out.below hb)
              have HyM104 := hide (show ∀ W, Below w104.heap.size w104 W → _ from fun W h => HyM103.out W (bel_trans hb h))
              have HzP104 := hide (HzP103.out.below hb)
              have HzU104 := hide (HzU103.out.below hb)
              have HzV104 := hide (HzV103.out.below hb)
              have HzM104 := hide (show ∀ W, Below w104.heap.size w104 W → _ from fun W h => HzM103.out W (bel_trans hb h))
              clear HP103 HS103 HK103 HT103 HB103 HaM103 HxP103 HxU103 HxV103 HxM103 HyP103 HyU103 HyV103 HyM103 HzP103 HzU103 HzV103 HzM103
              have HO104 := hide hHO
              clear hb KB hHO
              have KB := hide (HT104.out.ord (c := ct) (e := d) K6.out)
              rw [K8.out] at KB
              go_wp2_with fail
              refine KB.out.mono ?_
              rintro e9 w105 ⟨OA3, oc3, rfl, hb, hHQ⟩
              dsimp only
              have HP105 := hide (HP104.out.below hb)
              have HS105 := hide (HS104.out.below hb)
              have HK105 := hide (HK104.out.below hb)
              have HT105 := hide (HT104.out.below hb)
              have HB105 := hide (bel_trans HB104.out hb)
              have HaM105 := hide (show ∀ W, Below w105.heap.size w105 W → _ from fun W h => HaM104.out W (bel_trans hb h))
              have HxP105 := hide (HxP104.out.below hb)
              have HxU105 := hide (HxU104.out.below hb)
              have HxV105 := hide (HxV104.out.below hb)
              have HxM105 := hide (show ∀ W, Below w105.heap.size w105 W → _ from fun W h => HxM104.out W (bel_trans hb h))
              have HyP105 := hide (HyP104.out.below hb)
              have HyU105 := hide (HyU104.out.below hb)
              have HyV105 := hide (HyV104.out.below hb)
              have HyM105 := hide (show ∀ W, Below w105.heap.size w105 W → _ from fun W h => HyM104.out W (bel_trans hb h))
              have HzP105 := hide (HzP104.out.below hb)
              have HzU105 := hide (HzU104.out.below hb)
              have HzV105 := hide (HzV104.out.below hb)
              have HzM105 := hide (show ∀ W, Below w105.heap.size w105 W → _ from fun W h => HzM104.out W (bel_trans hb h))
              have HO105 := hide (HO104.out.below hb)
              clear HP104 HS104 HK104 HT104 HB104 HaM104 HxP104 HxU104 HxV104 HxM104 HyP104 HyU104 HyV104 HyM104 HzP104 HzU104 HzV104 HzM104 HO104
              have HQ105 := hide hHQ
              clear hb KB hHQ
              obtain ⟨aq0, aq1, aq2, aq3⟩ := HaM105.out _ (Below.refl _ _)
              obtain ⟨xq0, xq1, xq2, xq3⟩ := HxM105.out _ (Below.refl _ _)
              obtain ⟨yq0, yq1, yq2, yq3⟩ := HyM105.out _ (Below.refl _ _)
              obtain ⟨zq0, zq1, zq2, zq3⟩ := HzM105.out _ (Below.refl _ _)
              go_wp2
              go_ret
              exact ⟨rfl, HB105.out⟩
            | succ g2 =>
              have hjm : j < m := by omega
              clear hg
              obtain ⟨t, ht⟩ : ∃ t, t = (j + κ) % m := ⟨_, rfl⟩
              have htm : t < m := by rw [ht]; exact Nat.mod_lt _ (by omega)
              have tt : ((j : Int) + (κ : Int)) % (m : Int) = (t : Int) := by rw [ht]; push_cast; rfl
              have tt2 : ((j : Int) + (κ : Int)).tmod (m : Int) = (t : Int) := by rw [Int.tmod_eq_emod_of_nonneg (by omega)]; exact tt
              have hm0 : ¬ m = 0 := by omega
              have HT := hide ht
              obtain ⟨m1, hm1⟩ : ∃ x, x = m - 1 := ⟨_, rfl⟩
              obtain ⟨v, hv⟩ : ∃ v, v = m1 - j := ⟨_, rfl⟩
              have hvm : v < m := by omega
              have t3 : IntKind.i64.wrap ((m : Int) - 1) = (m1 : Int) := by rw [IntWalk.i64_in _ (by omega)]; omega
              have t4 : IntKind.i64.wrap ((m1 : Int) - (j : Int)) = (v : Int) := by rw [IntWalk.i64_in _ (by omega)]; omega
              have HV := hide (show m - 1 - j = v by rw [hv, hm1])
              have HPR := hide HQ.out
              obtain ⟨be, oe, rfl, hce, -, -⟩ := HQ.out.atE htm
              obtain ⟨be2, oe2, e0, hce2, -, -⟩ := HPR.out.atE hvm
              obtain ⟨rfl, rfl⟩ : be = be2 ∧ oe = oe2 := by simpa [eq_comm] using e0
              have e1 := hce _ HR.out.bel
              have HCE2 := hide hce2
              clear hm1 hv ht HPR e0 hce hce2
              go_wp2_with (at_builtin; refine held ?_)
              refine Held.mk (app_vec rfl (.tmp 162) (.tmp 172) rfl lis_len rfl rfl (by omega) (star_ok mato_ok (star_ok vec_ok HXO.out)) HR.out.rot ?_)
              intro A5 c5 w5 hR5
              rw [show lF E t = shD E m κ j by unfold shD; rw [HT.out], lis_snoc] at hR5
              have HR5 := hide hR5
              have e1 := HCE2.out _ hR5.bel
              clear hR5 HR tt tt2
              go_wp2_with (at_builtin; refine held ?_)
              refine Held.mk (app_vec rfl (.tmp 174) (.tmp 182) rfl lis_len rfl rfl (by omega) (star_ok vec_ok (star_ok mato_ok HXO.out)) (HR5.out.perm (by ac_rfl : _ = star (VecO A4 c4 (lis j (baD E m))) (star (VecO A5 c5 (lis (j + 1) (shD E m κ))) (star (MatO At ct zt) X)))) ?_)
              intro A6 c6 w6 hR6
              rw [show lF E v = baD E m j by unfold baD; rw [HV.out], lis_snoc] at hR6
              have HR6 := hide (show Run (fun _ => False) w3 (star (VecO none 0 (lis 0 (tuC C j))) (star (VecO A6 c6 (lis (j + 1) (baD E m))) (star (VecO A5 c5 (lis (j + 1) (shD E m κ))) (star (MatO At ct zt) X)))) w6 from run_one' hR6)
              clear hR6 HR5 e1 HCE2 t3 t4
              go_wp2
              go_loopg [32, 33] i (fun g s32 s33 wr => ∃ (r : Nat) (A7 : Option Addr) (c7 : Nat), r + g = i ∧ s32 = .slice A7 r c7 ∧ s33 = .int .i64 r ∧ Run (fun _ => False) w3 (star (VecO A7 c7 (lis r (tuC C j))) (star (VecO A6 c6 (lis (j + 1) (baD E m))) (star (VecO A5 c5 (lis (j + 1) (shD E m κ))) (star (MatO At ct zt) X)))) wr)
              case atStart => exact ⟨0, none, 0, by omega, rfl, rfl, HR6.out⟩
              case round =>
                obtain ⟨r, A7, c7, hgr, rfl, rfl, hR⟩ := hrel
                clear HR6
                have HR := hide hR
                have HGR := hide hgr
                clear hR
                cases gk with
                | zero =>
                  obtain rfl : r = i := by omega
                  have LZT := hide (show zt.length = j by have := congrArg List.length HZT.out; rw [List.length_map, rws_len] at this; exact this)
                  clear hgr HGR
                  go_wp2_with (at_builtin; refine held ?_)
                  refine Held.mk (app_mat rfl (.tmp 199) (.tmp 201) rfl LZT.out lis_len rfl rfl (by omega) (star_ok vec_ok (star_ok vec_ok HXO.out)) (HR.out.perm (by ac_rfl : _ = star (MatO At ct zt) (star (VecO A7 c7 (lis r (tuC C j))) (star (VecO A6 c6 (lis (j + 1) (baD E m))) (star (VecO A5 c5 (lis (j + 1) (shD E m κ))) X))))) ?_)
                  intro A8 c8 w8 hR8
                  have HR8 := hide (hR8.perm (by ac_rfl : _ = star (MatO A8 c8 (zt ++ [⟨lis r (tuC C j), A7, c7⟩])) (star (VecO A5 c5 (lis (j + 1) (shD E m κ))) (star (VecO A6 c6 (lis (j + 1) (baD E m))) X))))
                  clear hR8 HR
                  go_wp2
                  go_roundg g2
                  case measure => omega
                  case rel => exact ⟨j + 1, A8, A5, A6, c8, c5, c6, _, by have := HG.out; omega, by go_num, by go_num, by go_num, by go_num, by rw [List.map_append, HZT.out]; exact rws_snoc, HR8.out⟩
                | succ g3 =>
                  have hri : r < i := by omega
                  clear hgr
                  obtain ⟨ba, oa, R1, d1, rfl, hca, hrow⟩ := HQ.out.atR hri
                  obtain ⟨b1, o1, rfl, hcc, -, -⟩ := hrow j hjm
                  have c0 := hca _ HR.out.bel
                  have c1 := hcc _ HR.out.bel
                  clear hca hrow hcc
                  go_wp2_with (at_builtin; refine held ?_)
                  refine Held.mk (app_vec rfl (.tmp 189) (.tmp 197) rfl lis_len rfl rfl (by omega) (star_ok vec_ok (star_ok vec_ok (star_ok mato_ok HXO.out))) HR.out ?_)
                  intro A8 c8 w8 hR8
                  rw [show cF C r j = tuC C j r from rfl, lis_snoc] at hR8
                  have HR8 := hide hR8
                  clear hR8 HR c0 c1
                  go_wp2
                  go_roundg g3
                  case measure => omega
                  case rel => exact ⟨r + 1, A8, c8, by have := HGR.out; omega, by go_num, by go_num, HR8.out⟩
        | succ g1 =>
          have hin : i < nc := by omega
          clear hg
          obtain ⟨s, hs⟩ : ∃ s, s = (i + ρ) % nc := ⟨_, rfl⟩
          have hsn : s < nc := by rw [hs]; exact Nat.mod_lt _ (by omega)
          have ts : ((i : Int) + (ρ : Int)) % (nc : Int) = (s : Int) := by rw [hs]; push_cast; rfl
          obtain ⟨n1, hn1⟩ : ∃ x, x = nc - 1 := ⟨_, rfl⟩
          obtain ⟨u, hu⟩ : ∃ u, u = n1 - i := ⟨_, rfl⟩
          have hun : u < nc := by omega
          have HS := hide hs
          have t1 : IntKind.i64.wrap ((nc : Int) - 1) = (n1 : Int) := by rw [IntWalk.i64_in _ (by omega)]; omega
          have t2 : IntKind.i64.wrap ((n1 : Int) - (i : Int)) = (u : Int) := by rw [IntWalk.i64_in _ (by omega)]; omega
          have HU := hide (show nc - 1 - i = u by rw [hu, hn1])
          have HPR := hide HQ.out
          obtain ⟨bd, od, rfl, hcd, -, -⟩ := HQ.out.atD hsn
          obtain ⟨bd2, od2, e0, hce, -, -⟩ := HPR.out.atD hun
          obtain ⟨rfl, rfl⟩ : bd = bd2 ∧ od = od2 := by simpa [eq_comm] using e0
          have HCE := hide hce
          have e1 := hcd _ HR.out.bel
          clear hu hn1 hs HPR e0 hcd hce
          go_upto_region 16 with (fail)
          rw [ts]
          go_wp2_with (at_builtin; refine held ?_)
          refine Held.mk (app_vec rfl (.tmp 96) (.tmp 101) rfl lis_len rfl rfl (by omega) (star_ok mato_ok (star_ok mato_ok (star_ok vec_ok emp_ok))) (HR.out.perm (by ac_rfl : _ = star (VecO A1 c1 (lis i (shD D nc ρ))) (star (MatO As cs zs) (star (MatO Ab cb zb) (star (VecO A2 c2 (lis i (baD D nc))) emp))))) ?_)
          intro A5 c5 w5 hR5
          rw [show lF D s = shD D nc ρ i by unfold shD; rw [HS.out], lis_snoc] at hR5
          have HR5 := hide hR5
          have e1 := HCE.out _ hR5.bel
          clear hR5 HR
          go_wp2_with (at_builtin; refine held ?_)
          refine Held.mk (app_vec rfl (.tmp 103) (.tmp 111) rfl lis_len rfl rfl (by omega) (star_ok mato_ok (star_ok mato_ok (star_ok vec_ok emp_ok))) (HR5.out.perm (by ac_rfl : _ = star (VecO A2 c2 (lis i (baD D nc))) (star (MatO As cs zs) (star (MatO Ab cb zb) (star (VecO A5 c5 (lis (i + 1) (shD D nc ρ))) emp))))) ?_)
          intro A6 c6 w6 hR6
          rw [show lF D u = baD D nc i by unfold baD; rw [HU.out], lis_snoc] at hR6
          have HR6 := hide (show Run (fun _ => False) w3 (star (VecO none 0 (lis 0 (shC C nc m ρ κ i))) (star (VecO none 0 (lis 0 (baC C nc m i))) (star (VecO A6 c6 (lis (i + 1) (baD D nc))) (star (MatO As cs zs) (star (MatO Ab cb zb) (star (VecO A5 c5 (lis (i + 1) (shD D nc ρ))) emp)))))) w6 from run_two' hR6)
          clear hR6 HR5 e1 HCE
          go_wp2
          go_loopg [28, 29, 30] m (fun g s28 s29 s30 wr => ∃ (j : Nat) (A3 A4 : Option Addr) (c3 c4 : Nat), j + g = m ∧ s28 = .slice A3 j c3 ∧ s29 = .slice A4 j c4 ∧ s30 = .int .i64 j ∧ Run (fun _ => False) w3 (star (VecO A3 c3 (lis j (shC C nc m ρ κ i))) (star (VecO A4 c4 (lis j (baC C nc m i))) (star (VecO A6 c6 (lis (i + 1) (baD D nc))) (star (MatO As cs zs) (star (MatO Ab cb zb) (star (VecO A5 c5 (lis (i + 1) (shD D nc ρ))) emp)))))) wr)
          case atStart => exact ⟨0, none, none, 0, 0, by omega, rfl, rfl, rfl, HR6.out⟩
          case round =>
            obtain ⟨j, A3, A4, c3, c4, hgj, rfl, rfl, rfl, hR⟩ := hrel
            clear HR6
            have HR := hide hR
            clear hR
            cases gk with
            | zero =>
              obtain rfl : j = m := by omega
              have lzs : zs.length = i := by have := congrArg List.length HZS.out; rw [List.length_map, rws_len] at this; exact this
              have lzb : zb.length = i := by have := congrArg List.length HZB.out; rw [List.length_map, rws_len] at this; exact this
              have LZS := hide lzs
              have LZB := hide lzb
              clear lzs lzb
              go_wp2_with (at_builtin; refine held ?_)
              refine Held.mk (app_mat rfl (.tmp 149) (.tmp 151) rfl LZS.out lis_len rfl rfl (by omega) (star_ok vec_ok (star_ok vec_ok (star_ok mato_ok (star_ok vec_ok emp_ok)))) (HR.out.perm (by ac_rfl : _ = star (MatO As cs zs) (star (VecO A3 c3 (lis j (shC C nc j ρ κ i))) (star (VecO A4 c4 (lis j (baC C nc j i))) (star (VecO A6 c6 (lis (i + 1) (baD D nc))) (star (MatO Ab cb zb) (star (VecO A5 c5 (lis (i + 1) (shD D nc ρ))) emp))))))) ?_)
              intro A7 c7 w7 hR7
              have HR7 := hide hR7
              clear hR7 HR
              go_wp2_with (at_builtin; refine held ?_)
              refine Held.mk (app_mat rfl (.tmp 153) (.tmp 155) rfl LZB.out lis_len rfl rfl (by omega) (star_ok vec_ok (star_ok mato_ok (star_ok vec_ok emp_ok))) (HR7.out.perm (by ac_rfl : _ = star (MatO Ab cb zb) (star (VecO A4 c4 (lis j (baC C nc j i))) (star (VecO A6 c6 (lis (i + 1) (baD D nc))) (star (MatO A7 c7 (zs ++ [⟨lis j (shC C nc j ρ κ i), A3, c3⟩])) (star (VecO A5 c5 (lis (i + 1) (shD D nc ρ))) emp)))))) ?_)
              intro A8 c8 w8 hR8
              have HR8 := hide (hR8.perm (by ac_rfl : _ = star (MatO A7 c7 (zs ++ [⟨lis j (shC C nc j ρ κ i), A3, c3⟩])) (star (MatO A8 c8 (zb ++ [⟨lis j (baC C nc j i), A4, c4⟩])) (star (VecO A5 c5 (lis (i + 1) (shD D nc ρ))) (star (VecO A6 c6 (lis (i + 1) (baD D nc))) emp)))))
              clear hR8 HR7
              go_wp2
              go_roundg g1
              case measure => omega
              case rel => exact ⟨i + 1, A7, A8, A5, A6, c7, c8, c5, c6, _, _, by have := HG.out; omega, by go_num, by go_num, by go_num, by go_num, by go_num, by rw [List.map_append, HZS.out]; exact rws_snoc, by rw [List.map_append, HZB.out]; exact rws_snoc, HR8.out⟩
            | succ g2 =>
              have hjm : j < m := by omega
              have HGJ := hide hgj
              clear hgj
              obtain ⟨t, ht⟩ : ∃ t, t = (j + κ) % m := ⟨_, rfl⟩
              have htm : t < m := by rw [ht]; exact Nat.mod_lt _ (by omega)
              have tt : ((j : Int) + (κ : Int)) % (m : Int) = (t : Int) := by rw [ht]; push_cast; rfl
              have tt2 : ((j : Int) + (κ : Int)).tmod (m : Int) = (t : Int) := by rw [Int.tmod_eq_emod_of_nonneg (by omega)]; exact tt
              have tκ : IntKind.i64.wrap (κ : Int) = (κ : Int) := IntWalk.i64_in _ (by omega)
              have hm0 : ¬ m = 0 := by omega
              have HT := hide ht
              obtain ⟨m1, hm1⟩ : ∃ x, x = m - 1 := ⟨_, rfl⟩
              obtain ⟨v, hv⟩ : ∃ v, v = m1 - j := ⟨_, rfl⟩
              have hvm : v < m := by omega
              have t3 : IntKind.i64.wrap ((m : Int) - 1) = (m1 : Int) := by rw [IntWalk.i64_in _ (by omega)]; omega
              have t4 : IntKind.i64.wrap ((m1 : Int) - (j : Int)) = (v : Int) := by rw [IntWalk.i64_in _ (by omega)]; omega
              have HT3 := hide t3
              have HT4 := hide t4
              have t5 : IntKind.i64.wrap ((j : Int) + (κ : Int)) = (j : Int) + (κ : Int) := IntWalk.i64_in _ (by omega)
              have HV := hide (show m - 1 - j = v by rw [hv, hm1])
              have HPR := hide HQ.out
              obtain ⟨ba, oa, R1, d1, rfl, hca, hrow⟩ := HQ.out.atR hsn
              obtain ⟨b1, o1, rfl, hcc, -, -⟩ := hrow t htm
              obtain ⟨ba2, oa2, R2, d2, e0, hca2, hrow2⟩ := HPR.out.atR hun
              obtain ⟨rfl, rfl⟩ : ba = ba2 ∧ oa = oa2 := by simpa [eq_comm] using e0
              obtain ⟨b2, o2, rfl, hcc2, -, -⟩ := hrow2 v hvm
              have RD := HR.out.drew (star_ok vec_ok (star_ok vec_ok (star_ok vec_ok (star_ok mato_ok (star_ok mato_ok (star_ok vec_ok emp_ok))))))
              have HRD := hide RD
              have c0 := hca _ RD.bel
              have c1 := hcc _ RD.bel
              have HCA := hide hca
              have HCC := hide hcc
              have HCA2 := hide hca2
              have HCC2 := hide hcc2
              clear ht hm1 hv HPR e0 hca hcc hrow hca2 hcc2 hrow2 RD HR
              go_wp2_with fail
              refine wp_region_lex (fun w' => w'.cell? ⟨ba, oa + s, none⟩ = some (.slice (some ⟨b1, o1, none⟩) m d1) ∧ w'.cell? ⟨b1, o1 + t, none⟩ = some (.int .i64 (cF C s t))) (by kernel_rfl) (by kernel_rfl) ⟨c0, c1⟩ ?_
              generalize wr.drew = wd at *
              (repeat (first | (refine lex_skip (by rfl) ?_; try simp only [Act.put, List.setIfInBounds_toArray, List.set_cons_zero, List.set_cons_succ]) | (refine lex_read (v := ?_) (by rfl) ?_ ?_; rotate_left; (focus (intro w' hS'; go_simp; (try with_reducible rfl); done)); try simp only [Act.put, List.setIfInBounds_toArray, List.set_cons_zero, List.set_cons_succ])))
              refine lex_chain rfl (by rfl) (fun KK hK => ?_)
              go_wp2_with fail
              refine hK.out _ _ ⟨HCA.out _ (bel_trans HRD.out.bel (alloc_bel _ _)), HCC.out _ (bel_trans HRD.out.bel (alloc_bel _ _))⟩ ?_
              clear hK c0 c1 t3 t4 t5 tκ tt tt2
              (repeat (first | (refine lex_skip (by rfl) ?_; try simp only [Act.put, List.setIfInBounds_toArray, List.set_cons_zero, List.set_cons_succ]) | (refine lex_read (v := ?_) (by rfl) ?_ ?_; rotate_left; (focus (intro w' hS'; go_simp; (try with_reducible rfl); done)); try simp only [Act.put, List.setIfInBounds_toArray, List.set_cons_zero, List.set_cons_succ])))
              refine lex_chain rfl (by rfl) (fun KK hK => ?_)
              refine app_vec1 (.tmp 118) (.tmp 131) rfl lis_len rfl rfl (by omega) (star_ok vec_ok (star_ok vec_ok (star_ok mato_ok (star_ok mato_ok (star_ok vec_ok emp_ok))))) HRD.out ?_
              intro A7 c7 w7 hR7
              rw [show cF C s t = shC C nc m ρ κ i j by unfold shC; rw [HS.out, HT.out], lis_snoc] at hR7
              have HR7 := hide hR7
              refine hK.out _ _ ⟨HCA.out _ hR7.bel, HCC.out _ hR7.bel⟩ ?_
              clear hK HRD
              (repeat (first | (refine lex_skip (by rfl) ?_; try simp only [Act.put, List.setIfInBounds_toArray, List.set_cons_zero, List.set_cons_succ]) | (refine lex_read (v := ?_) (by rfl) ?_ ?_; rotate_left; (focus (intro w' hS'; go_simp; (try with_reducible rfl); done)); try simp only [Act.put, List.setIfInBounds_toArray, List.set_cons_zero, List.set_cons_succ])))
              refine lex_nil ?_
              have c0 := HCA2.out _ hR7.bel
              have c1 := HCC2.out _ hR7.bel
              clear hR7
              have t3 : IntKind.i64.wrap ((m : Int) - 1) = (m1 : Int) := HT3.out
              have t4 : IntKind.i64.wrap ((m1 : Int) - (j : Int)) = (v : Int) := HT4.out
              go_wp2_with (at_builtin; refine held ?_)
              refine Held.mk (app_vec rfl (.tmp 133) (.tmp 147) rfl lis_len rfl rfl (by omega) (star_ok vec_ok (star_ok vec_ok (star_ok mato_ok (star_ok mato_ok (star_ok vec_ok emp_ok))))) (HR7.out.rot) ?_)
              intro A8 c8 w8 hR8
              rw [show cF C u v = baC C nc m i j by unfold baC; rw [HU.out, HV.out], lis_snoc] at hR8
              have HR8 := hide hR8.rot
              clear hR8 HR7 c0 c1 t3 t4
              go_wp2
              go_roundg g2
              case measure => omega
              case rel => exact ⟨j + 1, A7, A8, c7, c8, by have := HGJ.out; omega, by go_num, by go_num, by go_num, HR8.out⟩
end Go.Proofs.Ytalbhghigdanlaa
namespace Go.Proofs.Ytalbhghigdanlaa
open Go.ChangeShapes Go.WideShapes Go.ChangeAt Go.RowKit Go.CH Go.CH.Asg Go.Deep
section
variable {H : Type} {enc : TypeId × Value → H} {w : World}
theorem each_num : ∀ m cs y, DataW.trod enc Try.prog w 0 (fun _ => true) true m 3 cs = some y → ∃ x : Int, cs = [.int .i64 x] ∧ True := by
  intro m cs y h
  obtain ⟨s, h1, _⟩ := DataW.trod_int Try.underlying3 h
  exact ⟨s, h1, trivial⟩
theorem flat_ints (l : List Int) : l.flatMap (fun x : Int => [Value.int .i64 x]) = ints l := by
  induction l with
  | nil => rfl
  | cons a l ih => simp [ints] at ih ⊢; exact ih
theorem open23 {A : Option Addr} {n c : Nat} {d : DataW H} {ps : List MemPlace} (h : DataW.Trod enc Try.prog w 0 (fun _ => true) true 23 (.slice A n c) d ps) : ∃ l : List Int, VecN w A l n ∧ n ≤ c ∧ c ≤ maxLen := by
  obtain ⟨xs, h1, h2, h3, h4, h5⟩ := open_src (size := 1) (fun x : Int => [Value.int .i64 x]) (fun x => True) Try.underlying23 (by kernel_rfl) (by decide) each_num (fun x _ u hu => by simp at hu; subst hu; rfl) h
  subst h1
  rw [flat_ints] at h2
  exact ⟨xs, ⟨h2, rfl⟩, h4, h5⟩
def rowL (x : List Int × Option Addr × Nat) : List Value := [.slice x.2.1 x.1.length x.2.2]
theorem each_row : ∀ m cs y, DataW.trod enc Try.prog w 0 (fun _ => true) true m 23 cs = some y → ∃ x : List Int × Option Addr × Nat, cs = rowL x ∧ (Vec w x.2.1 x.1 ∧ x.1.length ≤ x.2.2) := by
  intro m cs y h
  have hv : ∃ A n c, cs = [.slice A n c] := by
    rcases open_slice Try.underlying23 h with ⟨h0, _⟩ | ⟨a, len, cap, _, _, _, _, hv, _⟩
    · exact ⟨none, 0, 0, h0⟩
    · exact ⟨some a, len, cap, hv⟩
  obtain ⟨A, n, c, rfl⟩ := hv
  obtain ⟨l, h1, h2, h3⟩ := open23 (d := y.1) (ps := y.2) ⟨m, by simpa [Value.cells] using h⟩
  obtain ⟨hv, rfl⟩ := h1
  exact ⟨(l, A, c), rfl, hv, h2⟩
theorem open22 {A : Option Addr} {n c : Nat} {d : DataW H} {ps : List MemPlace} (h : DataW.Trod enc Try.prog w 0 (fun _ => true) true 22 (.slice A n c) d ps) : ∃ C : List (List Int), (∃ V, Mat w A C V) ∧ C.length = n ∧ n ≤ maxLen := by
  obtain ⟨xs, h1, h2, h3, h4, h5⟩ := open_src (size := 1) rowL (fun x => Vec w x.2.1 x.1 ∧ x.1.length ≤ x.2.2) Try.underlying22 (by kernel_rfl) (by decide) each_row (fun x _ u hu => by simp [rowL] at hu; subst hu; rfl) h
  subst h1
  refine ⟨xs.map (·.1), ⟨xs.map (·.2), ⟨by simp, ?_, ?_⟩⟩, by simp, by omega⟩
  · have e : (xs.map (·.2)).mapIdx (fun i x => Value.slice x.1 ((xs.map (·.1)).getD i []).length x.2) = xs.flatMap rowL := by
      have e1 : xs.flatMap rowL = xs.map (fun x => Value.slice x.2.1 x.1.length x.2.2) := by
        have : ∀ l : List (List Int × Option Addr × Nat), l.flatMap rowL = l.map (fun x => Value.slice x.2.1 x.1.length x.2.2) := fun l => by induction l with
          | nil => rfl
          | cons a l ih => simp [rowL] at ih ⊢; exact ih
        exact this xs
      rw [e1]
      apply List.ext_getElem?
      intro i
      rw [List.getElem?_mapIdx, List.getElem?_map, List.getElem?_map]
      cases hx : xs[i]? with
      | none => rfl
      | some x => simp [List.getD_eq_getElem?_getD, hx]
    rw [e, List.length_map]; exact h2
  · intro i hi x hx
    rw [List.getElem?_map] at hx
    have hi' : i < xs.length := by simpa using hi
    rw [List.getElem?_eq_getElem hi'] at hx
    simp at hx
    subst hx
    rw [List.getElem_map]
    exact (h3 _ (List.getElem_mem hi')).1
theorem px_of {A B G : Option Addr} {C : List (List Int)} {D E : List Int} {nc n m d : Nat} (h : (∃ V, Mat w A C V) ∧ C.length = nc ∧ nc ≤ maxLen) (hD : VecN w B D n ∧ n ≤ d ∧ d ≤ maxLen) (hE : VecN w G E m) : PX w A B G C D E nc n m d :=
  ⟨h.1, by rw [h.2.1]; exact h.2.2, hD.1.v, hE.v, by rw [hD.1.n]; exact hD.2.1, h.2.1, hD.1.n, hE.n⟩
theorem of_wf_u16 {n : Int} (h : (Lit.int .u16 n).wf = true) : 0 ≤ n ∧ n ≤ 65535 := of_wf h
end
end Go.Proofs.Ytalbhghigdanlaa
