/-
  Assign: AssignChanges, walked.
  Assign: lists of numbers, and of such lists, that came in, opened.
-/
import Derived.Test.YtalbhghigdanlaaMG16
import Derived.Test.YtalbhghigdanlaaMG15
import Derived.Test.YtalbhghigdanlaaMG3
import Derived.WalkKit
import Derived.ProofKit
import Derived.OpenShut
import Derived.ShutString
import Derived.SizedLaws
set_option linter.unusedSimpArgs false
set_option linter.unusedVariables false
namespace Go.Proofs.Ytalbhghigdanlaa
open Go.RowKit Go.CH Go.CH.Asg
open Go.ChangeMaps (setBlock)
set_option maxRecDepth 100000 in
set_option maxHeartbeats 25600000 in
theorem changes_any {w : World} {A B G : Option Addr} {C : List (List Int)} {D E : List Int} {nc n m c d e : Nat} {kd r k b : Int} (hP : PX w A B G C D E nc n m d) (hkd : 0 ≤ kd ∧ kd ≤ 255) (hr : 0 ≤ r ∧ r ≤ 255) (hk : 0 ≤ k ∧ k ≤ 255) (hb : 0 ≤ b ∧ b ≤ 65535) :
    Calls Try.prog 6 #[.slice A nc c, .slice B n d, .slice G m e, .int .u8 kd, .int .u8 r, .int .u8 k, .int .u16 b] w (BelowRet w (.bool true)) := by
  obtain ⟨χ, rfl⟩ : ∃ χ : Nat, kd = (χ : Int) := ⟨kd.toNat, by omega⟩
  obtain ⟨ρ, rfl⟩ : ∃ ρ : Nat, r = (ρ : Int) := ⟨r.toNat, by omega⟩
  obtain ⟨κ, rfl⟩ : ∃ κ : Nat, k = (κ : Int) := ⟨k.toNat, by omega⟩
  obtain ⟨β, rfl⟩ : ∃ β : Nat, b = (β : Int) := ⟨b.toNat, by omega⟩
  have hχ : χ ≤ 255 := by omega
  have hρ : ρ ≤ 255 := by omega
  have hκ : κ ≤ 255 := by omega
  have hβ : β ≤ 65535 := by omega
  clear hkd hr hk hb
  have HP0 := hide hP
  have HB0 := hide (Below.refl w.heap.size w)
  have HNE := hide hP.he
  have HND := hide hP.hd
  have HNC := hide hP.hc
  clear hP
  have KH := hide (head_any w)
  have HFL := hide (HP0.out.few_len)
  go_enter Try.func6, Try.ntmps6
  go_wp2_with fail
  refine KH.out.mono ?_
  rintro e9 w1 ⟨rfl, hb⟩
  dsimp only
  have HP1 := hide (HP0.out.below hb)
  have HB1 := hide (bel_trans HB0.out hb)
  clear HP0 HB0
  clear hb KH 
  have KF := hide (HP1.out.few (c := c) (e := e))
  cases hf : few C D E with
  | false =>
    rw [hf] at KF
    clear hf HFL
    go_wp2_with fail
    refine KF.out.mono ?_
    rintro e9 w9 ⟨rfl, rfl⟩
    clear KF
    go_wp2
    go_ret
    exact ⟨rfl, HB1.out⟩
  | true =>
    obtain ⟨l1, l2, l3⟩ := HFL.out hf
    rw [hf] at KF
    clear hf HFL
    go_wp2_with fail
    refine KF.out.mono ?_
    rintro e9 w9 ⟨rfl, rfl⟩
    clear KF
    have KV := hide (HP1.out.rvalid (c := c) (e := e))
    cases hv : vld C D E with
    | false =>
      rw [hv] at KV
      clear hv
      go_wp2_with fail
      refine KV.out.mono ?_
      rintro e9 w9 ⟨rfl, rfl⟩
      clear KV
      go_wp2
      go_ret
      exact ⟨rfl, HB1.out⟩
    | true =>
      rw [hv] at KV
      have HVV := hide (show vld C D E = true from hv)
      have hV6 := vld_iff hv
      have hn6 : n ≤ 6 := by rw [← HND.out]; exact hV6.n6
      have hm6 : m ≤ 6 := by rw [← HNE.out]; exact hV6.m6
      have hncn : nc = n := by rw [← HNC.out, ← HND.out]; exact hV6.n
      clear hv hV6 l1 l2 l3
      subst hncn
      by_cases hn0 : nc = 0
      · subst hn0
        go_wp2_with fail
        refine KV.out.mono ?_
        rintro e9 w9 ⟨rfl, rfl⟩
        clear KV
        go_wp2
        go_ret
        exact ⟨rfl, HB1.out⟩
      · by_cases hm0 : m = 0
        · subst hm0
          go_wp2_with fail
          refine KV.out.mono ?_
          rintro e9 w9 ⟨rfl, rfl⟩
          clear KV
          go_wp2
          go_ret
          exact ⟨rfl, HB1.out⟩
        · have tn0 : ((nc : Int) == 0) = false := by
            have : ¬ (nc : Int) = 0 := by omega
            simpa using hn0
          have tm0 : ((m : Int) == 0) = false := by
            have : ¬ (m : Int) = 0 := by omega
            simpa using hm0
          go_wp2_with fail
          refine KV.out.mono ?_
          rintro e9 w9 ⟨rfl, rfl⟩
          clear KV
          have KB := hide (HP1.out.best (c := c) (e := e) HVV.out)
          go_wp2_with fail
          refine KB.out.mono ?_
          rintro e9 wba ⟨AA1, AA2, AA3, ac1, ac2, ac3, rfl, hb0, h1, h2, h3⟩
          have hba := alloc_bel wba (.cells #[.int .i64 (bK C D E), .slice AA1 (nc) ac1, .slice AA2 (nc) ac2, .slice AA3 (m) ac3] 27)
          have hb := bel_trans hb0 hba
          have HP2 := hide (HP1.out.below hb)
          have HB2 := hide (bel_trans HB1.out hb)
          clear HP1 HB1
          have HaP2 := hide (h1.below hba)
          have HaU2 := hide (h2.below hba)
          have HaV2 := hide (h3.below hba)
          have HaM2 := hide (asg_mem wba (bK C D E) AA1 AA2 AA3 (nc) (nc) (m) ac1 ac2 ac3)
          clear hb hb0 hba h1 h2 h3 KB
          clear tn0 tm0
          have KB := hide (HP2.out.ord (c := c) (e := e) HVV.out)
          go_wp2_with fail
          generalize wba.alloc (.cells #[.int .i64 (bK C D E), .slice AA1 (nc) ac1, .slice AA2 (nc) ac2, .slice AA3 (m) ac3] 27) = w2 at *
          generalize wba.heap.size = ga at *
          clear wba
          refine KB.out.mono ?_
          rintro e9 w3 ⟨OA, oc, rfl, hb, hHO⟩
          dsimp only
          have HP3 := hide (HP2.out.below hb)
          have HB3 := hide (bel_trans HB2.out hb)
          have HaP3 := hide (HaP2.out.below hb)
          have HaU3 := hide (HaU2.out.below hb)
          have HaV3 := hide (HaV2.out.below hb)
          have HaM3 := hide (show ∀ W, Below w3.heap.size w3 W → _ from fun W h => HaM2.out W (bel_trans hb h))
          clear HP2 HB2 HaP2 HaU2 HaV2 HaM2
          have HO3 := hide hHO
          clear hb KB hHO
          clear HO3 HaP3 HaU3 HaV3
          have HQ := hide (prb_of' HVV.out HP3.out)
          have HPW := hide HP3.out
          have R0 : Hid (Run (fun _ => False) w3 (MatO none 0 []) w3) := hide (Run.start (mato_nil w3))
          obtain ⟨i, hi⟩ : ∃ i, i = ρ % nc := ⟨_, rfl⟩
          have hin : i < nc := by rw [hi]; exact Nat.mod_lt _ (by omega)
          have ti : (ρ : Int) % (nc : Int) = (i : Int) := by rw [hi]; push_cast; rfl
          obtain ⟨j, hj⟩ : ∃ j, j = κ % m := ⟨_, rfl⟩
          have hjm : j < m := by rw [hj]; exact Nat.mod_lt _ (by omega)
          have tj : (κ : Int) % (m : Int) = (j : Int) := by rw [hj]; push_cast; rfl
          clear HP3 hi hj
          go_upto_region 8 with (fail)
          rw [ti, tj]
          clear ti tj
          go_wp2
          go_loopg [23, 24] nc (fun g s23 s24 wr => ∃ (x : Nat) (Am : Option Addr) (cm : Nat) (zs : List RowZ), x + g = nc ∧ s23 = .slice Am x cm ∧ s24 = .int .i64 x ∧ zs.map (·.l) = C.take x ∧ Run (fun _ => False) w3 (MatO Am cm zs) wr)
          case atStart => exact ⟨0, none, 0, [], by omega, rfl, rfl, by simp, R0.out⟩
          case round =>
            obtain ⟨x, Am, cm, zs, hg, rfl, rfl, hzs, hR⟩ := hrel
            clear R0
            have HR := hide hR
            have HZS := hide hzs
            have HG := hide hg
            clear hR hzs
            cases gk with
            | succ g1 =>
              have hxn : x < nc := by omega
              have LZS := hide (show zs.length = x by
                have := congrArg List.length HZS.out
                rw [List.length_map, List.length_take, HNC.out] at this; omega)
              clear hg
              have hxl : x < C.length := by rw [HNC.out]; exact hxn
              obtain ⟨V, hV⟩ := HPW.out.pm
              obtain ⟨ba, oa, rfl, hrow⟩ := hV.at (by omega)
              obtain ⟨Bx, cx, hcx, hvx, hcell⟩ := hrow x hxl
              have hxm : C[x].length = m := by rw [(vld_iff HVV.out).row x hxl]; exact HNE.out
              rw [hxm] at hcell
              have HXM := hide hxm
              have HVX := hide (hvx.below HR.out.bel)
              have HZN := hide (show C.take x ++ [C[x]] = C.take (x + 1) from (List.take_succ_eq_append_getElem hxl).symm)
              have HCL := hide hcell
              have RE := vec_empty mato_ok HR.out
              have c0 := hcell _ RE.bel
              have HRE := hide RE
              have HVX2 := hide (hvx.below RE.bel)
              clear RE hV hrow hcell hcx hvx hxm HVX
              go_wp2_with (at_builtin; refine held ?_)
              refine Held.mk (app_copy rfl (.tmp 88) (.tmp 92) rfl HXM.out rfl rfl (by omega) mato_ok HRE.out HVX2.out ?_)
              intro A5 c5 w5 hR5
              have HR5 := hide hR5
              clear hR5 HRE HVX2 c0 HR
              go_wp2_with (at_builtin; refine held ?_)
              refine Held.mk (app_mat rfl (.tmp 87) (.tmp 94) rfl LZS.out HXM.out rfl rfl (by omega) emp_ok (HR5.out.perm (by rw [star_emp_eq]; ac_rfl : _ = star (MatO Am cm zs) (star (VecO A5 c5 C[x]) emp))) ?_)
              intro A6 c6 w6 hR6
              have HR6 := hide (hR6.perm (star_emp_eq _))
              clear hR6 HR5
              go_wp2
              go_roundg g1
              case measure => omega
              case rel => exact ⟨x + 1, A6, c6, _, by have := HG.out; omega, by go_num, by go_num, by rw [List.map_append, HZS.out]; exact HZN.out, HR6.out⟩
            | zero =>
              obtain rfl : x = nc := by omega
              have HZC := hide (show zs.map (·.l) = C by rw [HZS.out, List.take_of_length_le (by rw [HNC.out]; exact Nat.le_refl _)])
              clear hg HG HZS
              have RE := vec_empty mato_ok HR.out
              have HRE := hide RE
              have HVD := hide (HPW.out.pd.below RE.bel)
              clear RE
              go_wp2_with (at_builtin; refine held ?_)
              refine Held.mk (app_copy rfl (.tmp 96) (.tmp 97) rfl HND.out rfl rfl (by omega) mato_ok HRE.out HVD.out ?_)
              intro Ad cd w5 hR5
              have HR5 := hide hR5
              have RE := vec_empty (star_ok vec_ok mato_ok) hR5
              have HRE2 := hide RE
              have HVE := hide (HPW.out.pe.below RE.bel)
              clear RE hR5 HRE HVD HR
              go_wp2_with (at_builtin; refine held ?_)
              refine Held.mk (app_copy rfl (.tmp 99) (.tmp 100) rfl HNE.out rfl rfl (by omega) (star_ok vec_ok mato_ok) HRE2.out HVE.out ?_)
              intro Ae ce w6 hR6
              have HR6 := hide (hR6.perm (by ac_rfl : _ = star (MatO Am cm zs) (star (VecO Ad cd D) (VecO Ae ce E))))
              clear hR6 HRE2 HVE HR5
              go_upto_region 16 with (fail)
              have hbb : 0 ≤ bK C D E ∧ bK C D E ≤ 130000 := by
                have h7 := best_ord HVV.out
                have h8 := GR_b HVV.out (a := D.length) (b := E.length) (Nat.le_refl _) (Nat.le_refl _)
                have h9 : ordK C D E = GR (cF C) (lF D) (lF E) D.length E.length D.length E.length := by unfold ordK; rw [HVV.out]; rfl
                have h10 := (L_bnd HQ.out.q (k := x) (Nat.le_refl _) noU).1
                have h11 : bK C D E = L (cF C) (lF D) (lF E) x m x noU := by unfold bK bcost; rw [HND.out, HNE.out]
                omega
              have hoo : 0 ≤ ordK C D E ∧ ordK C D E ≤ 130000 := by
                have h8 := GR_b HVV.out (a := D.length) (b := E.length) (Nat.le_refl _) (Nat.le_refl _)
                have h9 : ordK C D E = GR (cF C) (lF D) (lF E) D.length E.length D.length E.length := by unfold ordK; rw [HVV.out]; rfl
                omega
              have tb : IntKind.i64.wrap (bK C D E + (β : Int)) = bK C D E + (β : Int) := IntWalk.i64_in _ (by omega)
              have to_ : IntKind.i64.wrap (ordK C D E + (β : Int)) = ordK C D E + (β : Int) := IntWalk.i64_in _ (by omega)
              have HLZ := hide (show zs.length = x by
                have := congrArg List.length HZC.out
                rw [List.length_map, HNC.out] at this; exact this)
              have hvd := vld_iff HVV.out
              have HCI := hide (show ∀ (h1 : i < C.length), C[i].length = m from fun h1 => by rw [hvd.row i h1]; exact HNE.out)
              have hcb := hvd.c i (by rw [HND.out]; exact hin) j (by rw [HNE.out]; exact hjm)
              have hdb := hvd.d i (by rw [HND.out]; exact hin)
              have heb := hvd.e j (by rw [HNE.out]; exact hjm)
              clear hvd HQ HPW
              have h3 : (χ : Int) % 3 = 0 ∨ (χ : Int) % 3 = 1 ∨ (χ : Int) % 3 = 2 := by omega
              rcases h3 with h3 | h3 | h3
              · rw [h3]
                clear h3
                have hiC : i < C.length := by rw [HNC.out]; exact hin
                have hzi : i < zs.length := by rw [HLZ.out]; exact hin
                have hzl : zs[i].l = C[i] := by
                  have h7 : (zs.map (·.l))[i]? = C[i]? := by rw [HZC.out]
                  rw [List.getElem?_map, List.getElem?_eq_getElem hzi, List.getElem?_eq_getElem hiC] at h7
                  simpa using h7
                have hcm := HCI.out hiC
                have hji : j < C[i].length := by rw [hcm]; exact hjm
                obtain ⟨gA, g, rfl, q1, q2, q3, hput⟩ := mat_put (star_ok vec_ok vec_ok) HR6.out (k := i) (j := j) hzi (by rw [hzl]; exact hji)
                have hce : lF C[i] j = cF C i j := by unfold cF; rw [List.getD_eq_getElem?_getD, List.getElem?_eq_getElem hiC]; rfl
                rw [hzl, hcm] at q1
                rw [hzl, hce] at q2
                have hnew := hput (cF C i j + (β : Int))
                rw [hzl] at hnew
                have hmp : (zs.set i ⟨C[i].set j (cF C i j + (β : Int)), zs[i].A, zs[i].c⟩).map (·.l) = C.set i (C[i].set j (cF C i j + (β : Int))) := by rw [List.map_set, HZC.out]
                generalize zs.set i ⟨C[i].set j (cF C i j + (β : Int)), zs[i].A, zs[i].c⟩ = zs2 at *
                have HMP := hide hmp
                generalize zs[i].c = zc at *
                have tv : IntKind.i64.wrap (cF C i j + (β : Int)) = cF C i j + (β : Int) := IntWalk.i64_in _ (by omega)
                clear hput hzl hce hcm hmp
                obtain ⟨C2, D2, E2, hN, hL2⟩ : ∃ (C2 : List (List Int)) (D2 E2 : List Int), PX (w6.setCell ⟨g, j, none⟩ (.int .i64 (cF C i j + (β : Int)))) (some ⟨gA, 0, none⟩) Ad Ae C2 D2 E2 x x m cd ∧ (vld C2 D2 E2 = true → bK C D E ≤ bK C2 D2 E2 ∧ bK C2 D2 E2 ≤ bK C D E + (β : Int) ∧ ordK C D E ≤ ordK C2 D2 E2 ∧ ordK C2 D2 E2 ≤ ordK C D E + (β : Int)) := by
                  refine ⟨C.set i (C[i].set j (cF C i j + (β : Int))), D, E, ?_, fun hv2 => change_law HVV.out hv2 rfl rfl (dear_c (by omega) hiC hji)⟩
                  obtain ⟨V1, hV1⟩ := mat_of hnew
                  obtain ⟨v1, v2⟩ := vec_of hnew.rot
                  obtain ⟨v3, -⟩ := vec_of (hnew.perm (by ac_rfl : _ = star (VecO Ae ce (E)) (star (VecO Ad cd (D)) (MatO (some ⟨gA, 0, none⟩) cm zs2))))
                  rw [HMP.out] at hV1
                  exact ⟨⟨V1, hV1⟩, by rw [List.length_set, HNC.out]; unfold maxLen; omega, v1.v, v3.v, v2, by rw [List.length_set]; exact HNC.out, HND.out, HNE.out⟩
                have b0 := hnew.bel
                have HN200 := hide hN
                have HL2 := hide hL2
                have HB200 := hide (bel_trans HB3.out b0)
                have HaM200 := hide (show ∀ W, Below (w6.setCell ⟨g, j, none⟩ (.int .i64 (cF C i j + (β : Int)))).heap.size (w6.setCell ⟨g, j, none⟩ (.int .i64 (cF C i j + (β : Int)))) W → _ from fun W h => HaM3.out W (bel_trans b0 h))
                clear hN hL2 b0 hnew HB3 HaM3 HR6 HZC HLZ HCI
                clear hiC hzi hji HMP
                cases hv : vld C2 D2 E2 with
                | false =>
                  have KB := hide (HN200.out.best_no (c := cm) (e := ce) hv)
                  have HV2 := hide (show vld C2 D2 E2 = false from hv)
                  clear hv HL2
                  go_wp2_with fail
                  generalize w6.setCell ⟨g, j, none⟩ (.int .i64 (cF C i j + (β : Int))) = wz at *
                  clear q2 q3 tv q1
                  refine KB.out.mono ?_
                  rintro e9 wbb ⟨BA1, BA2, BA3, bc1, bc2, bc3, rfl, hb0, h1, h2, h3⟩
                  have hba := alloc_bel wbb (.cells #[.int .i64 (0), .slice BA1 (0) bc1, .slice BA2 (0) bc2, .slice BA3 (0) bc3] 27)
                  have hb := bel_trans hb0 hba
                  have HN201 := hide (HN200.out.below hb)
                  have HB201 := hide (bel_trans HB200.out hb)
                  have HaM201 := hide (show ∀ W, Below (wbb.alloc (.cells #[.int .i64 (0), .slice BA1 (0) bc1, .slice BA2 (0) bc2, .slice BA3 (0) bc3] 27)).heap.size (wbb.alloc (.cells #[.int .i64 (0), .slice BA1 (0) bc1, .slice BA2 (0) bc2, .slice BA3 (0) bc3] 27)) W → _ from fun W h => HaM200.out W (bel_trans hb h))
                  clear HN200 HB200 HaM200
                  have HbP201 := hide (h1.below hba)
                  have HbU201 := hide (h2.below hba)
                  have HbV201 := hide (h3.below hba)
                  have HbM201 := hide (asg_mem wbb (0) BA1 BA2 BA3 (0) (0) (0) bc1 bc2 bc3)
                  clear hb hb0 hba h1 h2 h3 KB
                  have KB := hide (HN201.out.ord_no (c := cm) (e := ce) HV2.out)
                  go_wp2_with fail
                  generalize wbb.alloc (.cells #[.int .i64 (0), .slice BA1 (0) bc1, .slice BA2 (0) bc2, .slice BA3 (0) bc3] 27) = w201 at *
                  generalize wbb.heap.size = gb at *
                  clear wbb
                  refine KB.out.mono ?_
                  rintro e9 w202 ⟨OA2, oc2, rfl, hb, hHO⟩
                  dsimp only
                  have HN202 := hide (HN201.out.below hb)
                  have HB202 := hide (bel_trans HB201.out hb)
                  have HaM202 := hide (show ∀ W, Below w202.heap.size w202 W → _ from fun W h => HaM201.out W (bel_trans hb h))
                  have HbP202 := hide (HbP201.out.below hb)
                  have HbU202 := hide (HbU201.out.below hb)
                  have HbV202 := hide (HbV201.out.below hb)
                  have HbM202 := hide (show ∀ W, Below w202.heap.size w202 W → _ from fun W h => HbM201.out W (bel_trans hb h))
                  clear HN201 HB201 HaM201 HbP201 HbU201 HbV201 HbM201
                  have HO202 := hide hHO
                  clear hb KB hHO
                  have KV := hide (HN202.out.rvalid (c := cm) (e := ce))
                  rw [HV2.out] at KV
                  go_wp2_with fail
                  refine KV.out.mono ?_
                  rintro e9 w9 ⟨rfl, rfl⟩
                  clear KV
                  go_wp2
                  go_ret
                  exact ⟨rfl, HB202.out⟩
                | true =>
                  have KB := hide (HN200.out.best (c := cm) (e := ce) hv)
                  obtain ⟨g1, g2, g3, g4⟩ := HL2.out hv
                  have HV2 := hide (show vld C2 D2 E2 = true from hv)
                  clear hv HL2
                  go_wp2_with fail
                  generalize w6.setCell ⟨g, j, none⟩ (.int .i64 (cF C i j + (β : Int))) = wz at *
                  clear q2 q3 tv q1
                  refine KB.out.mono ?_
                  rintro e9 wbb ⟨BA1, BA2, BA3, bc1, bc2, bc3, rfl, hb0, h1, h2, h3⟩
                  have hba := alloc_bel wbb (.cells #[.int .i64 (bK C2 D2 E2), .slice BA1 (x) bc1, .slice BA2 (x) bc2, .slice BA3 (m) bc3] 27)
                  have hb := bel_trans hb0 hba
                  have HN201 := hide (HN200.out.below hb)
                  have HB201 := hide (bel_trans HB200.out hb)
                  have HaM201 := hide (show ∀ W, Below (wbb.alloc (.cells #[.int .i64 (bK C2 D2 E2), .slice BA1 (x) bc1, .slice BA2 (x) bc2, .slice BA3 (m) bc3] 27)).heap.size (wbb.alloc (.cells #[.int .i64 (bK C2 D2 E2), .slice BA1 (x) bc1, .slice BA2 (x) bc2, .slice BA3 (m) bc3] 27)) W → _ from fun W h => HaM200.out W (bel_trans hb h))
                  clear HN200 HB200 HaM200
                  have HbP201 := hide (h1.below hba)
                  have HbU201 := hide (h2.below hba)
                  have HbV201 := hide (h3.below hba)
                  have HbM201 := hide (asg_mem wbb (bK C2 D2 E2) BA1 BA2 BA3 (x) (x) (m) bc1 bc2 bc3)
                  clear hb hb0 hba h1 h2 h3 KB
                  have KB := hide (HN201.out.ord (c := cm) (e := ce) HV2.out)
                  go_wp2_with fail
                  generalize wbb.alloc (.cells #[.int .i64 (bK C2 D2 E2), .slice BA1 (x) bc1, .slice BA2 (x) bc2, .slice BA3 (m) bc3] 27) = w201 at *
                  generalize wbb.heap.size = gb at *
                  clear wbb
                  refine KB.out.mono ?_
                  rintro e9 w202 ⟨OA2, oc2, rfl, hb, hHO⟩
                  dsimp only
                  have HN202 := hide (HN201.out.below hb)
                  have HB202 := hide (bel_trans HB201.out hb)
                  have HaM202 := hide (show ∀ W, Below w202.heap.size w202 W → _ from fun W h => HaM201.out W (bel_trans hb h))
                  have HbP202 := hide (HbP201.out.below hb)
                  have HbU202 := hide (HbU201.out.below hb)
                  have HbV202 := hide (HbV201.out.below hb)
                  have HbM202 := hide (show ∀ W, Below w202.heap.size w202 W → _ from fun W h => HbM201.out W (bel_trans hb h))
                  clear HN201 HB201 HaM201 HbP201 HbU201 HbV201 HbM201
                  have HO202 := hide hHO
                  clear hb KB hHO
                  have KV := hide (HN202.out.rvalid (c := cm) (e := ce))
                  rw [HV2.out] at KV
                  go_wp2_with fail
                  refine KV.out.mono ?_
                  rintro e9 w9 ⟨rfl, rfl⟩
                  clear KV
                  obtain ⟨aq0, aq1, aq2, aq3⟩ := HaM202.out _ (Below.refl _ _)
                  obtain ⟨bq0, bq1, bq2, bq3⟩ := HbM202.out _ (Below.refl _ _)
                  go_wp2
                  go_ret
                  exact ⟨rfl, HB202.out⟩
              · rw [h3]
                clear h3
                have hiD : i < D.length := by rw [HND.out]; exact hin
                obtain ⟨g, rfl, q2, q3, hput⟩ := vecx_put (star_ok mato_ok vec_ok) HR6.out.rot (j := i) hiD
                have hnew := (hput (lF D i + (β : Int))).rot
                have tv : IntKind.i64.wrap (lF D i + (β : Int)) = lF D i + (β : Int) := IntWalk.i64_in _ (by omega)
                clear hput
                obtain ⟨C2, D2, E2, hN, hL2⟩ : ∃ (C2 : List (List Int)) (D2 E2 : List Int), PX (w6.setCell ⟨g, i, none⟩ (.int .i64 (lF D i + (β : Int)))) Am (some ⟨g, 0, none⟩) Ae C2 D2 E2 x x m cd ∧ (vld C2 D2 E2 = true → bK C D E ≤ bK C2 D2 E2 ∧ bK C2 D2 E2 ≤ bK C D E + (β : Int) ∧ ordK C D E ≤ ordK C2 D2 E2 ∧ ordK C2 D2 E2 ≤ ordK C D E + (β : Int)) := by
                  refine ⟨C, D.set i (lF D i + (β : Int)), E, ?_, fun hv2 => change_law HVV.out hv2 (by rw [List.length_set]) rfl (dear_d (by omega) hiD)⟩
                  obtain ⟨V1, hV1⟩ := mat_of hnew
                  obtain ⟨v1, v2⟩ := vec_of hnew.rot
                  obtain ⟨v3, -⟩ := vec_of (hnew.perm (by ac_rfl : _ = star (VecO Ae ce (E)) (star (VecO (some ⟨g, 0, none⟩) cd (D.set i (lF D i + (β : Int)))) (MatO Am cm zs))))
                  rw [HZC.out] at hV1
                  exact ⟨⟨V1, hV1⟩, by rw [HNC.out]; unfold maxLen; omega, v1.v, v3.v, v2, HNC.out, by rw [List.length_set]; exact HND.out, HNE.out⟩
                have b0 := hnew.bel
                have HN200 := hide hN
                have HL2 := hide hL2
                have HB200 := hide (bel_trans HB3.out b0)
                have HaM200 := hide (show ∀ W, Below (w6.setCell ⟨g, i, none⟩ (.int .i64 (lF D i + (β : Int)))).heap.size (w6.setCell ⟨g, i, none⟩ (.int .i64 (lF D i + (β : Int)))) W → _ from fun W h => HaM3.out W (bel_trans b0 h))
                clear hN hL2 b0 hnew HB3 HaM3 HR6 HZC HLZ HCI
                clear hiD
                cases hv : vld C2 D2 E2 with
                | false =>
                  have KB := hide (HN200.out.best_no (c := cm) (e := ce) hv)
                  have HV2 := hide (show vld C2 D2 E2 = false from hv)
                  clear hv HL2
                  go_wp2_with fail
                  generalize w6.setCell ⟨g, i, none⟩ (.int .i64 (lF D i + (β : Int))) = wz at *
                  clear q2 q3 tv
                  refine KB.out.mono ?_
                  rintro e9 wbb ⟨BA1, BA2, BA3, bc1, bc2, bc3, rfl, hb0, h1, h2, h3⟩
                  have hba := alloc_bel wbb (.cells #[.int .i64 (0), .slice BA1 (0) bc1, .slice BA2 (0) bc2, .slice BA3 (0) bc3] 27)
                  have hb := bel_trans hb0 hba
                  have HN201 := hide (HN200.out.below hb)
                  have HB201 := hide (bel_trans HB200.out hb)
                  have HaM201 := hide (show ∀ W, Below (wbb.alloc (.cells #[.int .i64 (0), .slice BA1 (0) bc1, .slice BA2 (0) bc2, .slice BA3 (0) bc3] 27)).heap.size (wbb.alloc (.cells #[.int .i64 (0), .slice BA1 (0) bc1, .slice BA2 (0) bc2, .slice BA3 (0) bc3] 27)) W → _ from fun W h => HaM200.out W (bel_trans hb h))
                  clear HN200 HB200 HaM200
                  have HbP201 := hide (h1.below hba)
                  have HbU201 := hide (h2.below hba)
                  have HbV201 := hide (h3.below hba)
                  have HbM201 := hide (asg_mem wbb (0) BA1 BA2 BA3 (0) (0) (0) bc1 bc2 bc3)
                  clear hb hb0 hba h1 h2 h3 KB
                  have KB := hide (HN201.out.ord_no (c := cm) (e := ce) HV2.out)
                  go_wp2_with fail
                  generalize wbb.alloc (.cells #[.int .i64 (0), .slice BA1 (0) bc1, .slice BA2 (0) bc2, .slice BA3 (0) bc3] 27) = w201 at *
                  generalize wbb.heap.size = gb at *
                  clear wbb
                  refine KB.out.mono ?_
                  rintro e9 w202 ⟨OA2, oc2, rfl, hb, hHO⟩
                  dsimp only
                  have HN202 := hide (HN201.out.below hb)
                  have HB202 := hide (bel_trans HB201.out hb)
                  have HaM202 := hide (show ∀ W, Below w202.heap.size w202 W → _ from fun W h => HaM201.out W (bel_trans hb h))
                  have HbP202 := hide (HbP201.out.below hb)
                  have HbU202 := hide (HbU201.out.below hb)
                  have HbV202 := hide (HbV201.out.below hb)
                  have HbM202 := hide (show ∀ W, Below w202.heap.size w202 W → _ from fun W h => HbM201.out W (bel_trans hb h))
                  clear HN201 HB201 HaM201 HbP201 HbU201 HbV201 HbM201
                  have HO202 := hide hHO
                  clear hb KB hHO
                  have KV := hide (HN202.out.rvalid (c := cm) (e := ce))
                  rw [HV2.out] at KV
                  go_wp2_with fail
                  refine KV.out.mono ?_
                  rintro e9 w9 ⟨rfl, rfl⟩
                  clear KV
                  go_wp2
                  go_ret
                  exact ⟨rfl, HB202.out⟩
                | true =>
                  have KB := hide (HN200.out.best (c := cm) (e := ce) hv)
                  obtain ⟨g1, g2, g3, g4⟩ := HL2.out hv
                  have HV2 := hide (show vld C2 D2 E2 = true from hv)
                  clear hv HL2
                  go_wp2_with fail
                  generalize w6.setCell ⟨g, i, none⟩ (.int .i64 (lF D i + (β : Int))) = wz at *
                  clear q2 q3 tv
                  refine KB.out.mono ?_
                  rintro e9 wbb ⟨BA1, BA2, BA3, bc1, bc2, bc3, rfl, hb0, h1, h2, h3⟩
                  have hba := alloc_bel wbb (.cells #[.int .i64 (bK C2 D2 E2), .slice BA1 (x) bc1, .slice BA2 (x) bc2, .slice BA3 (m) bc3] 27)
                  have hb := bel_trans hb0 hba
                  have HN201 := hide (HN200.out.below hb)
                  have HB201 := hide (bel_trans HB200.out hb)
                  have HaM201 := hide (show ∀ W, Below (wbb.alloc (.cells #[.int .i64 (bK C2 D2 E2), .slice BA1 (x) bc1, .slice BA2 (x) bc2, .slice BA3 (m) bc3] 27)).heap.size (wbb.alloc (.cells #[.int .i64 (bK C2 D2 E2), .slice BA1 (x) bc1, .slice BA2 (x) bc2, .slice BA3 (m) bc3] 27)) W → _ from fun W h => HaM200.out W (bel_trans hb h))
                  clear HN200 HB200 HaM200
                  have HbP201 := hide (h1.below hba)
                  have HbU201 := hide (h2.below hba)
                  have HbV201 := hide (h3.below hba)
                  have HbM201 := hide (asg_mem wbb (bK C2 D2 E2) BA1 BA2 BA3 (x) (x) (m) bc1 bc2 bc3)
                  clear hb hb0 hba h1 h2 h3 KB
                  have KB := hide (HN201.out.ord (c := cm) (e := ce) HV2.out)
                  go_wp2_with fail
                  generalize wbb.alloc (.cells #[.int .i64 (bK C2 D2 E2), .slice BA1 (x) bc1, .slice BA2 (x) bc2, .slice BA3 (m) bc3] 27) = w201 at *
                  generalize wbb.heap.size = gb at *
                  clear wbb
                  refine KB.out.mono ?_
                  rintro e9 w202 ⟨OA2, oc2, rfl, hb, hHO⟩
                  dsimp only
                  have HN202 := hide (HN201.out.below hb)
                  have HB202 := hide (bel_trans HB201.out hb)
                  have HaM202 := hide (show ∀ W, Below w202.heap.size w202 W → _ from fun W h => HaM201.out W (bel_trans hb h))
                  have HbP202 := hide (HbP201.out.below hb)
                  have HbU202 := hide (HbU201.out.below hb)
                  have HbV202 := hide (HbV201.out.below hb)
                  have HbM202 := hide (show ∀ W, Below w202.heap.size w202 W → _ from fun W h => HbM201.out W (bel_trans hb h))
                  clear HN201 HB201 HaM201 HbP201 HbU201 HbV201 HbM201
                  have HO202 := hide hHO
                  clear hb KB hHO
                  have KV := hide (HN202.out.rvalid (c := cm) (e := ce))
                  rw [HV2.out] at KV
                  go_wp2_with fail
                  refine KV.out.mono ?_
                  rintro e9 w9 ⟨rfl, rfl⟩
                  clear KV
                  obtain ⟨aq0, aq1, aq2, aq3⟩ := HaM202.out _ (Below.refl _ _)
                  obtain ⟨bq0, bq1, bq2, bq3⟩ := HbM202.out _ (Below.refl _ _)
                  go_wp2
                  go_ret
                  exact ⟨rfl, HB202.out⟩
              · rw [h3]
                clear h3
                have hjE : j < E.length := by rw [HNE.out]; exact hjm
                obtain ⟨g, rfl, q2, q3, hput⟩ := vecx_put (star_ok mato_ok vec_ok) (HR6.out.perm (by ac_rfl : _ = star (VecO Ae ce E) (star (MatO Am cm zs) (VecO Ad cd D)))) (j := j) hjE
                have hnew := (hput (lF E j + (β : Int))).perm (by ac_rfl : _ = star (MatO Am cm zs) (star (VecO Ad cd D) (VecO (some ⟨g, 0, none⟩) ce (E.set j (lF E j + (β : Int))))))
                have tv : IntKind.i64.wrap (lF E j + (β : Int)) = lF E j + (β : Int) := IntWalk.i64_in _ (by omega)
                clear hput
                obtain ⟨C2, D2, E2, hN, hL2⟩ : ∃ (C2 : List (List Int)) (D2 E2 : List Int), PX (w6.setCell ⟨g, j, none⟩ (.int .i64 (lF E j + (β : Int)))) Am Ad (some ⟨g, 0, none⟩) C2 D2 E2 x x m cd ∧ (vld C2 D2 E2 = true → bK C D E ≤ bK C2 D2 E2 ∧ bK C2 D2 E2 ≤ bK C D E + (β : Int) ∧ ordK C D E ≤ ordK C2 D2 E2 ∧ ordK C2 D2 E2 ≤ ordK C D E + (β : Int)) := by
                  refine ⟨C, D, E.set j (lF E j + (β : Int)), ?_, fun hv2 => change_law HVV.out hv2 rfl (by rw [List.length_set]) (dear_e (by omega) hjE)⟩
                  obtain ⟨V1, hV1⟩ := mat_of hnew
                  obtain ⟨v1, v2⟩ := vec_of hnew.rot
                  obtain ⟨v3, -⟩ := vec_of (hnew.perm (by ac_rfl : _ = star (VecO (some ⟨g, 0, none⟩) ce (E.set j (lF E j + (β : Int)))) (star (VecO Ad cd (D)) (MatO Am cm zs))))
                  rw [HZC.out] at hV1
                  exact ⟨⟨V1, hV1⟩, by rw [HNC.out]; unfold maxLen; omega, v1.v, v3.v, v2, HNC.out, HND.out, by rw [List.length_set]; exact HNE.out⟩
                have b0 := hnew.bel
                have HN200 := hide hN
                have HL2 := hide hL2
                have HB200 := hide (bel_trans HB3.out b0)
                have HaM200 := hide (show ∀ W, Below (w6.setCell ⟨g, j, none⟩ (.int .i64 (lF E j + (β : Int)))).heap.size (w6.setCell ⟨g, j, none⟩ (.int .i64 (lF E j + (β : Int)))) W → _ from fun W h => HaM3.out W (bel_trans b0 h))
                clear hN hL2 b0 hnew HB3 HaM3 HR6 HZC HLZ HCI
                clear hjE
                cases hv : vld C2 D2 E2 with
                | false =>
                  have KB := hide (HN200.out.best_no (c := cm) (e := ce) hv)
                  have HV2 := hide (show vld C2 D2 E2 = false from hv)
                  clear hv HL2
                  go_wp2_with fail
                  generalize w6.setCell ⟨g, j, none⟩ (.int .i64 (lF E j + (β : Int))) = wz at *
                  clear q2 q3 tv
                  refine KB.out.mono ?_
                  rintro e9 wbb ⟨BA1, BA2, BA3, bc1, bc2, bc3, rfl, hb0, h1, h2, h3⟩
                  have hba := alloc_bel wbb (.cells #[.int .i64 (0), .slice BA1 (0) bc1, .slice BA2 (0) bc2, .slice BA3 (0) bc3] 27)
                  have hb := bel_trans hb0 hba
                  have HN201 := hide (HN200.out.below hb)
                  have HB201 := hide (bel_trans HB200.out hb)
                  have HaM201 := hide (show ∀ W, Below (wbb.alloc (.cells #[.int .i64 (0), .slice BA1 (0) bc1, .slice BA2 (0) bc2, .slice BA3 (0) bc3] 27)).heap.size (wbb.alloc (.cells #[.int .i64 (0), .slice BA1 (0) bc1, .slice BA2 (0) bc2, .slice BA3 (0) bc3] 27)) W → _ from fun W h => HaM200.out W (bel_trans hb h))
                  clear HN200 HB200 HaM200
                  have HbP201 := hide (h1.below hba)
                  have HbU201 := hide (h2.below hba)
                  have HbV201 := hide (h3.below hba)
                  have HbM201 := hide (asg_mem wbb (0) BA1 BA2 BA3 (0) (0) (0) bc1 bc2 bc3)
                  clear hb hb0 hba h1 h2 h3 KB
                  have KB := hide (HN201.out.ord_no (c := cm) (e := ce) HV2.out)
                  go_wp2_with fail
                  generalize wbb.alloc (.cells #[.int .i64 (0), .slice BA1 (0) bc1, .slice BA2 (0) bc2, .slice BA3 (0) bc3] 27) = w201 at *
                  generalize wbb.heap.size = gb at *
                  clear wbb
                  refine KB.out.mono ?_
                  rintro e9 w202 ⟨OA2, oc2, rfl, hb, hHO⟩
                  dsimp only
                  have HN202 := hide (HN201.out.below hb)
                  have HB202 := hide (bel_trans HB201.out hb)
                  have HaM202 := hide (show ∀ W, Below w202.heap.size w202 W → _ from fun W h => HaM201.out W (bel_trans hb h))
                  have HbP202 := hide (HbP201.out.below hb)
                  have HbU202 := hide (HbU201.out.below hb)
                  have HbV202 := hide (HbV201.out.below hb)
                  have HbM202 := hide (show ∀ W, Below w202.heap.size w202 W → _ from fun W h => HbM201.out W (bel_trans hb h))
                  clear HN201 HB201 HaM201 HbP201 HbU201 HbV201 HbM201
                  have HO202 := hide hHO
                  clear hb KB hHO
                  have KV := hide (HN202.out.rvalid (c := cm) (e := ce))
                  rw [HV2.out] at KV
                  go_wp2_with fail
                  refine KV.out.mono ?_
                  rintro e9 w9 ⟨rfl, rfl⟩
                  clear KV
                  go_wp2
                  go_ret
                  exact ⟨rfl, HB202.out⟩
                | true =>
                  have KB := hide (HN200.out.best (c := cm) (e := ce) hv)
                  obtain ⟨g1, g2, g3, g4⟩ := HL2.out hv
                  have HV2 := hide (show vld C2 D2 E2 = true from hv)
                  clear hv HL2
                  go_wp2_with fail
                  generalize w6.setCell ⟨g, j, none⟩ (.int .i64 (lF E j + (β : Int))) = wz at *
                  clear q2 q3 tv
                  refine KB.out.mono ?_
                  rintro e9 wbb ⟨BA1, BA2, BA3, bc1, bc2, bc3, rfl, hb0, h1, h2, h3⟩
                  have hba := alloc_bel wbb (.cells #[.int .i64 (bK C2 D2 E2), .slice BA1 (x) bc1, .slice BA2 (x) bc2, .slice BA3 (m) bc3] 27)
                  have hb := bel_trans hb0 hba
                  have HN201 := hide (HN200.out.below hb)
                  have HB201 := hide (bel_trans HB200.out hb)
                  have HaM201 := hide (show ∀ W, Below (wbb.alloc (.cells #[.int .i64 (bK C2 D2 E2), .slice BA1 (x) bc1, .slice BA2 (x) bc2, .slice BA3 (m) bc3] 27)).heap.size (wbb.alloc (.cells #[.int .i64 (bK C2 D2 E2), .slice BA1 (x) bc1, .slice BA2 (x) bc2, .slice BA3 (m) bc3] 27)) W → _ from fun W h => HaM200.out W (bel_trans hb h))
                  clear HN200 HB200 HaM200
                  have HbP201 := hide (h1.below hba)
                  have HbU201 := hide (h2.below hba)
                  have HbV201 := hide (h3.below hba)
                  have HbM201 := hide (asg_mem wbb (bK C2 D2 E2) BA1 BA2 BA3 (x) (x) (m) bc1 bc2 bc3)
                  clear hb hb0 hba h1 h2 h3 KB
                  have KB := hide (HN201.out.ord (c := cm) (e := ce) HV2.out)
                  go_wp2_with fail
                  generalize wbb.alloc (.cells #[.int .i64 (bK C2 D2 E2), .slice BA1 (x) bc1, .slice BA2 (x) bc2, .slice BA3 (m) bc3] 27) = w201 at *
                  generalize wbb.heap.size = gb at *
                  clear wbb
                  refine KB.out.mono ?_
                  rintro e9 w202 ⟨OA2, oc2, rfl, hb, hHO⟩
                  dsimp only
                  have HN202 := hide (HN201.out.below hb)
                  have HB202 := hide (bel_trans HB201.out hb)
                  have HaM202 := hide (show ∀ W, Below w202.heap.size w202 W → _ from fun W h => HaM201.out W (bel_trans hb h))
                  have HbP202 := hide (HbP201.out.below hb)
                  have HbU202 := hide (HbU201.out.below hb)
                  have HbV202 := hide (HbV201.out.below hb)
                  have HbM202 := hide (show ∀ W, Below w202.heap.size w202 W → _ from fun W h => HbM201.out W (bel_trans hb h))
                  clear HN201 HB201 HaM201 HbP201 HbU201 HbV201 HbM201
                  have HO202 := hide hHO
                  clear hb KB hHO
                  have KV := hide (HN202.out.rvalid (c := cm) (e := ce))
                  rw [HV2.out] at KV
                  go_wp2_with fail
                  refine KV.out.mono ?_
                  rintro e9 w9 ⟨rfl, rfl⟩
                  clear KV
                  obtain ⟨aq0, aq1, aq2, aq3⟩ := HaM202.out _ (Below.refl _ _)
                  obtain ⟨bq0, bq1, bq2, bq3⟩ := HbM202.out _ (Below.refl _ _)
                  go_wp2
                  go_ret
                  exact ⟨rfl, HB202.out⟩
end Go.Proofs.Ytalbhghigdanlaa
namespace Go.Proofs.Ytalbhghigdanlaa
open Go.ChangeShapes Go.WideShapes Go.ChangeAt Go.RowKit Go.CH Go.CH.Asg Go.Deep
section
variable {H : Type} {enc : TypeId × Value → H} {w : World}
theorem each_num : ∀ m cs y, DataW.trod enc Try.prog w 0 (fun _ => true) true m 3 cs = some y → ∃ x : Int, cs = [.int .i64 x] ∧ True := by
  intro m cs y h
  obtain ⟨s, h1, _⟩ := DataW.trod_int Try.underlying3 h
  exact ⟨s, h1, trivial⟩
theorem flat_ints (l : List Int) : l.flatMap (fun x : Int => [Value.int .i64 x]) = ints l := by
  induction l with
  | nil => rfl
  | cons a l ih => simp [ints] at ih ⊢; exact ih
theorem open23 {A : Option Addr} {n c : Nat} {d : DataW H} {ps : List MemPlace} (h : DataW.Trod enc Try.prog w 0 (fun _ => true) true 23 (.slice A n c) d ps) : ∃ l : List Int, VecN w A l n ∧ n ≤ c ∧ c ≤ maxLen := by
  obtain ⟨xs, h1, h2, h3, h4, h5⟩ := open_src (size := 1) (fun x : Int => [Value.int .i64 x]) (fun x => True) Try.underlying23 (by kernel_rfl) (by decide) each_num (fun x _ u hu => by simp at hu; subst hu; rfl) h
  subst h1
  rw [flat_ints] at h2
  exact ⟨xs, ⟨h2, rfl⟩, h4, h5⟩
def rowL (x : List Int × Option Addr × Nat) : List Value := [.slice x.2.1 x.1.length x.2.2]
theorem each_row : ∀ m cs y, DataW.trod enc Try.prog w 0 (fun _ => true) true m 23 cs = some y → ∃ x : List Int × Option Addr × Nat, cs = rowL x ∧ (Vec w x.2.1 x.1 ∧ x.1.length ≤ x.2.2) := by
  intro m cs y h
  have hv : ∃ A n c, cs = [.slice A n c] := by
    rcases open_slice Try.underlying23 h with ⟨h0, _⟩ | ⟨a, len, cap, _, _, _, _, hv, _⟩
    · exact ⟨none, 0, 0, h0⟩
    · exact ⟨some a, len, cap, hv⟩
  obtain ⟨A, n, c, rfl⟩ := hv
  obtain ⟨l, h1, h2, h3⟩ := open23 (d := y.1) (ps := y.2) ⟨m, by simpa [Value.cells] using h⟩
  obtain ⟨hv, rfl⟩ := h1
  exact ⟨(l, A, c), rfl, hv, h2⟩
theorem open22 {A : Option Addr} {n c : Nat} {d : DataW H} {ps : List MemPlace} (h : DataW.Trod enc Try.prog w 0 (fun _ => true) true 22 (.slice A n c) d ps) : ∃ C : List (List Int), (∃ V, Mat w A C V) ∧ C.length = n ∧ n ≤ maxLen := by
  obtain ⟨xs, h1, h2, h3, h4, h5⟩ := open_src (size := 1) rowL (fun x => Vec w x.2.1 x.1 ∧ x.1.length ≤ x.2.2) Try.underlying22 (by kernel_rfl) (by decide) each_row (fun x _ u hu => by simp [rowL] at hu; subst hu; rfl) h
  subst h1
  refine ⟨xs.map (·.1), ⟨xs.map (·.2), ⟨by simp, ?_, ?_⟩⟩, by simp, by omega⟩
  · have e : (xs.map (·.2)).mapIdx (fun i x => Value.slice x.1 ((xs.map (·.1)).getD i []).length x.2) = xs.flatMap rowL := by
      have e1 : xs.flatMap rowL = xs.map (fun x => Value.slice x.2.1 x.1.length x.2.2) := by
        have : ∀ l : List (List Int × Option Addr × Nat), l.flatMap rowL = l.map (fun x => Value.slice x.2.1 x.1.length x.2.2) := fun l => by induction l with
          | nil => rfl
          | cons a l ih => simp [rowL] at ih ⊢; exact ih
        exact this xs
      rw [e1]
      apply List.ext_getElem?
      intro i
      rw [List.getElem?_mapIdx, List.getElem?_map, List.getElem?_map]
      cases hx : xs[i]? with
      | none => rfl
      | some x => simp [List.getD_eq_getElem?_getD, hx]
    rw [e, List.length_map]; exact h2
  · intro i hi x hx
    rw [List.getElem?_map] at hx
    have hi' : i < xs.length := by simpa using hi
    rw [List.getElem?_eq_getElem hi'] at hx
    simp at hx
    subst hx
    rw [List.getElem_map]
    exact (h3 _ (List.getElem_mem hi')).1
theorem px_of {A B G : Option Addr} {C : List (List Int)} {D E : List Int} {nc n m d : Nat} (h : (∃ V, Mat w A C V) ∧ C.length = nc ∧ nc ≤ maxLen) (hD : VecN w B D n ∧ n ≤ d ∧ d ≤ maxLen) (hE : VecN w G E m) : PX w A B G C D E nc n m d :=
  ⟨h.1, by rw [h.2.1]; exact h.2.2, hD.1.v, hE.v, by rw [hD.1.n]; exact hD.2.1, h.2.1, hD.1.n, hE.n⟩
theorem of_wf_u16 {n : Int} (h : (Lit.int .u16 n).wf = true) : 0 ≤ n ∧ n ≤ 65535 := of_wf h
end
end Go.Proofs.Ytalbhghigdanlaa
