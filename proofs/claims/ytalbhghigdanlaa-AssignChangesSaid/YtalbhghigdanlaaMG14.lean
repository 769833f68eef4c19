/-
  Assign: Ordered of the reference, walked.
-/
import Derived.Test.YtalbhghigdanlaaMG13
set_option linter.unusedSimpArgs false
set_option linter.unusedVariables false
namespace Go.Proofs.Ytalbhghigdanlaa
open Go.RowKit Go.CH Go.CH.Asg
open Go.ChangeMaps (setBlock)
set_option maxRecDepth 100000 in
set_option maxHeartbeats 12800000 in
theorem rordered_any {w : World} {A B G : Option Addr} {V : List (Option Addr × Nat)} {c d e : Nat} {C : List (List Int)} {D E : List Int} (h : Mat w A C V) (hD : Vec w B D) (hE : Vec w G E) :
    Calls Try.prog 19 #[.slice A C.length c, .slice B D.length d, .slice G E.length e] w (OrdRet w C D E) := by
  have KV := hide (rgrid_any (c := c) (d := d) (e := e) h hD hE)
  have HP := hide (fun hv => prb_of (w := w) (C := C) (D := D) (E := E) hv h hD hE)
  clear h hD hE
  cases hv : vld C D E with
  | false =>
    have HR := hide (show ∀ w' : World, Below w.heap.size w w' → OrdRet w C D E (.returned (.tuple #[.slice none 0 0, .int .i64 0, .int .i64 1])) w' from fun w' hb => ⟨_, by simp only [ordK, errV, hv]; rfl, hb, by simp only [ordL, hv]; exact ⟨none, 0, rfl, Src.none_⟩⟩)
    have KV2 := hide (show Calls Try.prog 21 #[.slice A C.length c, .slice B D.length d, .slice G E.length e] w (fun e w' => ∃ v, e = .returned (.tuple #[v, .int .i64 1]) ∧ Below w.heap.size w w') from KV.out.mono (by
      rintro e9 w9 ⟨v, rfl, hb, -⟩
      exact ⟨v, by simp only [errV, hv]; rfl, hb⟩))
    clear KV
    clear HP hv
    go_enter Try.func19, Try.ntmps19
    go_wp2_with fail
    refine KV2.out.mono ?_
    rintro e9 w1 ⟨v, rfl, hb⟩
    have HB := hide hb
    clear KV2 hb
    go_wp2
    go_ret3
    exact HR.out _ HB.out
  | true =>
    have hP := HP.out hv
    have hn6 := hP.n6
    have hm6 := hP.m6
    obtain ⟨nc, hnc⟩ : ∃ n, n = C.length := ⟨_, rfl⟩
    obtain ⟨n, hn⟩ : ∃ n, n = D.length := ⟨_, rfl⟩
    obtain ⟨m, hm⟩ : ∃ n, n = E.length := ⟨_, rfl⟩
    have hnn : nc = n := by rw [hnc, hn]; exact hP.hn
    have HRET := hide (show ∀ (v : Value) (w' : World), Below w.heap.size w w' → VecV w' v (gro (cF C) (lF D) (lF E) n m n m) → OrdRet w C D E (.returned (.tuple #[v, .int .i64 (GR (cF C) (lF D) (lF E) n m n m), .int .i64 0])) w' from fun v w' hb ha => ⟨v, by simp only [ordK, errV, hv, hn, hm]; rfl, hb, by simp only [ordL, hv, ← hn, ← hm]; exact ha⟩)
    have KV2 := hide (show Calls Try.prog 21 #[.slice A C.length c, .slice B D.length d, .slice G E.length e] w (fun e w' => ∃ A1 c1, e = .returned (.tuple #[.slice A1 ((n + 1) * (m + 1)) c1, .int .i64 0]) ∧ Below w.heap.size w w' ∧ Vec w' A1 (gri (cF C) (lF D) (lF E) n m)) from KV.out.mono (by
      rintro e9 w9 ⟨v, rfl, hb, A1, c1, rfl, hv2⟩
      simp only [griL, hv, if_true, ← hn, ← hm] at hv2 ⊢
      exact ⟨A1, c1, by rw [gri_len]; simp only [errV, hv]; rfl, hb, hv2⟩))
    rw [← hn, ← hm] at hP
    rw [← hn] at hn6
    rw [← hm] at hm6
    have HQ := hide hP.q
    rw [← hnc, ← hn, ← hm] at KV2
    rw [← hnc, ← hn, ← hm]
    subst hnn
    clear HP hv hP hnc hn hm KV
    generalize cF C = cc at *
    generalize lF D = dd at *
    generalize lF E = ee at *
    have tw : IntKind.i64.wrap ((m : Int) + 1) = (m : Int) + 1 := IntWalk.i64_in _ (by omega)
    obtain ⟨K, hK⟩ : ∃ K, K = (nc + 1) * (m + 1) := ⟨_, rfl⟩
    have hK2 : K ≤ 49 := by rw [hK]; exact Nat.mul_le_mul (show nc + 1 ≤ 7 by omega) (show m + 1 ≤ 7 by omega)
    have hK1 : 0 < K := by rw [hK]; exact Nat.mul_pos (Nat.succ_pos _) (Nat.succ_pos _)
    rw [← hK] at KV2
    have HK := hide hK
    clear hK
    go_enter Try.func19, Try.ntmps19
    go_wp2_with fail
    refine KV2.out.mono ?_
    rintro e9 w2 ⟨Ag, cg, rfl, hb1, hV⟩
    have hlen : (gri cc dd ee nc m).length = K := by rw [gri_len, HK.out]
    obtain ⟨bg, og, rfl, hcg⟩ := hV.atF (by rw [hlen]; exact hK1)
    have HGC := hide (show ∀ w', Below w2.heap.size w2 w' → ∀ r y, r ≤ nc → y ≤ m → w'.cell? ⟨bg, og + (r * (m + 1) + y), none⟩ = some (.int .i64 (GR cc dd ee nc m (nc - r) (m - y))) ∧ r * (m + 1) + y < K from fun w' hb r y hr hy => by
      have hp : r * (m + 1) + y < K := by rw [HK.out]; exact place_lt hr hy
      refine ⟨?_, hp⟩
      rw [hcg w' hb _ (by rw [hlen]; exact hp)]
      unfold lF
      rw [List.getD_eq_getElem?_getD, gri_get hr hy]; rfl)
    have HB1 := hide hb1
    have hQ2 := HQ.out.below hb1
    clear HQ
    have HQ := hide hQ2
    have HR3 := hide (Run.start (vec_nil w2))
    clear KV2 hb1 hV hlen hcg hQ2
    go_wp2
    go_loopg [12, 13, 14] nc (fun g1 p s i wr => ∃ (k fr : Nat) (A1 : Option Addr) (c1 : Nat) (ps : List Int), k + g1 = nc ∧ fr ≤ m ∧ p = .slice A1 ps.length c1 ∧ s = .int .i64 fr ∧ i = .int .i64 k ∧ ps.length = k ∧ gro cc dd ee nc m nc m = ps ++ gro cc dd ee nc m (nc - k) (m - fr) ∧ Run (fun _ => False) w2 (VecO A1 c1 ps) wr)
    case atStart => exact ⟨0, 0, none, 0, [], Nat.zero_add _, Nat.zero_le _, rfl, rfl, rfl, rfl, rfl, HR3.out⟩
    case round =>
      obtain ⟨k, fr, A1, c1, ps, hg1, hfr, rfl, rfl, rfl, hpl, hg, hR⟩ := hrel
      have HR := hide hR
      have HPL := hide hpl
      have HG := hide hg
      clear hR hpl hg HR3
      cases gk with
      | zero =>
        obtain rfl : k = nc := by omega
        have HPS := hide (show gro cc dd ee k m k m = ps by rw [HG.out, Nat.sub_self]; exact List.append_nil ps)
        have HRD := hide (HR.out.drew vec_ok)
        obtain ⟨c4, hp0⟩ := HGC.out _ HRD.out.bel 0 0 (Nat.zero_le _) (Nat.zero_le _)
        rw [Nat.zero_mul, Nat.zero_add, Nat.add_zero, Nat.sub_zero, Nat.sub_zero] at c4
        have ti2 : (0 : Int) < (K : Int) := by omega
        clear HG hg1 HR
        go_wp2_with fail
        refine wp_region_lex (fun w' => w' = wr.drew) (by kernel_rfl) (by kernel_rfl) rfl ?_
        generalize wr.drew = wd at *
        (repeat (first | (refine lex_skip (by rfl) ?_; try simp only [Act.put, List.setIfInBounds_toArray, List.set_cons_zero, List.set_cons_succ]) | (refine lex_read (v := ?_) (by rfl) ?_ ?_; rotate_left; (focus (intro w' hS'; go_simp; (try with_reducible rfl); done)); try simp only [Act.put, List.setIfInBounds_toArray, List.set_cons_zero, List.set_cons_succ])))
        refine lex_nil ?_
        clear c4 ti2
        go_wp2
        go_ret3
        refine HRET.out _ _ (bel_trans HB1.out HRD.out.bel) ?_
        rw [HPS.out]
        obtain ⟨F, hV⟩ := HRD.out.get
        exact ⟨A1, c1, rfl, vec_vec hV⟩
      | succ g1 =>
        have hlt : k < nc := by omega
        obtain ⟨a, ha⟩ : ∃ a, nc = a + 1 + k := ⟨nc - k - 1, by omega⟩
        have hnk : nc - k = a + 1 := by omega
        have hna : nc - (a + 1) = k := by omega
        have hnk1 : nc - (k + 1) = a := by omega
        rw [hnk] at HG
        have hmb : m - (m - fr) = fr := by omega
        have HHIT := hide (fun (t : Nat) ht hp hb => gro_hit (c := cc) (d := dd) (e := ee) (n := nc) (m := m) (a := a) (b := m - fr) (t := t) ht hp hb)
        have HMISS := hide (fun hb => gro_miss (c := cc) (d := dd) (e := ee) (n := nc) (m := m) (a := a) (b := m - fr) hb)
        have HTST := hide (fun (t : Nat) => show otst cc dd ee nc m a (m - fr) t = decide (sg t (fun x => ee (fr + x)) + cc k (fr + t) + GR cc dd ee nc m a (m - fr - (t + 1)) = GR cc dd ee nc m (a + 1) (m - fr)) by unfold otst; rw [hna, hmb])
        rw [hmb] at HHIT
        have HB0 := hide (GR_bnd HQ.out (a := a + 1) (b := m - fr) (by omega) (by omega))
        have HB2 := hide (fun j => GR_bnd HQ.out (a := a) (b := m - (j + 1)) (by omega) (by omega))
        have HNK := hide (show nc - (k + 1) = a from hnk1)
        have HNK0 := hide (show nc - k = a + 1 from hnk)
        have ha6 : a ≤ 6 := by omega
        clear hnk hna hnk1 hmb ha
        obtain ⟨ba, oa, RR, cR, rfl, hca, hrow⟩ := HQ.out.R k hlt
        have HROWS := hide hrow
        have HCA := hide hca
        clear hca hrow
        go_wp2
        go_loopg [15, 16, 17] (m - fr) (fun g2 q pr x wr => ∃ t : Nat, fr + t + g2 = m ∧ q = .int .i64 (sg t (fun x => ee (fr + x))) ∧ x = .int .i64 ((fr + t : Nat) : Int) ∧ Run (fun _ => False) w2 (VecO A1 c1 ps) wr ∧ ((pr = .int .i64 (m : Int) ∧ ∀ u, u < t → otst cc dd ee nc m a (m - fr) u = false) ∨ ∃ t0, t = t0 + 1 ∧ pr = .int .i64 ((fr + t0 : Nat) : Int) ∧ gro cc dd ee nc m (a + 1) (m - fr) = ((fr + t0 : Nat) : Int) :: gro cc dd ee nc m a (m - (fr + t0 + 1))))
        case atStart => exact ⟨0, by omega, rfl, rfl, HR.out, .inl ⟨rfl, fun t ht => absurd ht (Nat.not_lt_zero t)⟩⟩
        case round =>
          obtain ⟨t, hg2, rfl, rfl, hR, hcase⟩ := hrel
          clear HR
          have HRI := hide hR
          clear hR
          rcases hcase with ⟨rfl, hno⟩ | ⟨t0, rfl, rfl, hhit⟩
          · have HNO := hide hno
            clear hno
            have HSB := hide (sg_bnd (n := t) (f := fun x => ee (fr + x)) (a := 0) (b := 10000) (fun x hx => HQ.out.eb (fr + x) (by omega)))
            cases gk with
            | succ g2 =>
              obtain ⟨j, hj⟩ : ∃ j, j = fr + t := ⟨_, rfl⟩
              have hjt : j < m := by omega
              obtain ⟨b', o', rfl, hcc⟩ := HROWS.out j hjt
              have hcb := HQ.out.cb k hlt j hjt
              obtain ⟨be, oe, rfl, hce⟩ := HQ.out.E j hjt
              have heb := HQ.out.eb j hjt
              have HRD := hide (HRI.out.drew vec_ok)
              have c0 := HCA.out _ HRD.out.bel
              have c5 := hcc _ HRD.out.bel
              have c6 := hce _ HRD.out.bel
              obtain ⟨k3, hp3⟩ := HGC.out _ HRD.out.bel (k + 1) (j + 1) (by omega) (by omega)
              obtain ⟨k4, hp4⟩ := HGC.out _ HRD.out.bel k fr (by omega) hfr
              rw [HNK.out] at k3
              rw [HNK0.out] at k4
              obtain ⟨a1, ha1⟩ : ∃ x, x = (k + 1) * (m + 1) := ⟨_, rfl⟩
              obtain ⟨a0, ha0⟩ : ∃ x, x = k * (m + 1) := ⟨_, rfl⟩
              obtain ⟨q1, hq1⟩ : ∃ x, x = a1 + j := ⟨_, rfl⟩
              obtain ⟨q2, hq2⟩ : ∃ x, x = q1 + 1 := ⟨_, rfl⟩
              obtain ⟨q4, hq4⟩ : ∃ x, x = a0 + fr := ⟨_, rfl⟩
              rw [← ha1, ← Nat.add_assoc a1 j 1, ← hq1, ← hq2] at k3 hp3
              rw [← ha0, ← hq4] at k4 hp4
              have u1 : IntKind.i64.wrap (((k : Int) + 1) * ((m : Int) + 1)) = (a1 : Int) := by
                have e8 : ((k : Int) + 1) * ((m : Int) + 1) = (a1 : Int) := by rw [ha1]; push_cast; rfl
                rw [e8]; exact IntWalk.i64_in _ (by omega)
              have u2 : IntKind.i64.wrap ((a1 : Int) + (j : Int)) = (q1 : Int) := by rw [IntWalk.i64_in _ (by omega)]; omega
              have u3 : IntKind.i64.wrap ((q1 : Int) + 1) = (q2 : Int) := by rw [IntWalk.i64_in _ (by omega)]; omega
              have u4 : IntKind.i64.wrap ((k : Int) * ((m : Int) + 1)) = (a0 : Int) := by
                have e8 : (k : Int) * ((m : Int) + 1) = (a0 : Int) := by rw [ha0]; push_cast; rfl
                rw [e8]; exact IntWalk.i64_in _ (by omega)
              have u5 : IntKind.i64.wrap ((a0 : Int) + (fr : Int)) = (q4 : Int) := by rw [IntWalk.i64_in _ (by omega)]; omega
              have u6 : IntKind.i64.wrap ((k : Int) + 1) = (k : Int) + 1 := IntWalk.i64_in _ (by omega)
              have l1 : (q2 : Int) < (K : Int) := by omega
              have l2 : (q4 : Int) < (K : Int) := by omega
              have HT1 := hide (HTST.out t)
              have hs1 := HSB.out
              have HS := hide (sg_succ (n := t) (f := fun x => ee (fr + x)))
              have hb2 := HB2.out j
              have hb0 := HB0.out
              rw [show m - fr - (t + 1) = m - (j + 1) by omega, ← hj] at HT1
              rw [← hj] at HS ⊢
              generalize sg t (fun x => ee (fr + x)) = ss at *
              generalize GR cc dd ee nc m a (m - (j + 1)) = T1 at *
              generalize GR cc dd ee nc m (a + 1) (m - fr) = T0 at *
              have ht6 : (t : Int) ≤ 6 := by omega
              have t2 : IntKind.i64.wrap (ss + cc k j) = ss + cc k j := IntWalk.i64_in _ (by omega)
              have t3 : IntKind.i64.wrap (ss + cc k j + T1) = ss + cc k j + T1 := IntWalk.i64_in _ (by omega)
              have te : ((m : Int) == (m : Int)) = true := by simp
              have HJ := hide hj
              clear hcc hce HRI HSB ha1 ha0 hq1 hq2 hq4
              by_cases heq : ss + cc k j + T1 = T0
              · have HH := HHIT.out t (by omega) (by rw [HT1.out]; simp [heq]) HNO.out
                rw [show m - fr - (t + 1) = m - (j + 1) by omega] at HH
                have HHD := hide (show gro cc dd ee nc m (a + 1) (m - fr) = ((fr + t : Nat) : Int) :: gro cc dd ee nc m a (m - (fr + t + 1)) by rw [← HJ.out] at HH ⊢; exact HH)
                have t4 : (ss + cc k j + T1 == T0) = true := by simpa using heq
                have t5 : IntKind.i64.wrap T0 = T0 := IntWalk.i64_in _ (by omega)
                clear HH
                clear HT1 hb2 hb0 hj HNO
                go_wp2_with fail
                refine wp_region_lex (fun w' => w' = wr.drew) (by kernel_rfl) (by kernel_rfl) rfl ?_
                generalize wr.drew = wx at *
                (repeat (first | (refine lex_skip (by rfl) ?_; try simp only [Act.put, List.setIfInBounds_toArray, List.set_cons_zero, List.set_cons_succ]) | (refine lex_read (v := ?_) (by rfl) ?_ ?_; rotate_left; (focus (intro w' hS'; go_simp; (try with_reducible rfl); done)); try simp only [Act.put, List.setIfInBounds_toArray, List.set_cons_zero, List.set_cons_succ])))
                refine lex_nil ?_
                clear u1 u2 u3 u4 u5 u6 t2 t3 t4 k3 k4 c0 c5 l1 l2
                go_wp2
                go_roundg g2
                case measure => omega
                case rel => exact ⟨t + 1, by omega, by rw [HS.out]; try go_num, by rw [HJ.out]; go_num, HRD.out, .inr ⟨t, rfl, by rw [HJ.out], HHD.out⟩⟩
              · have HNO2 := hide (show ∀ u, u < t + 1 → otst cc dd ee nc m a (m - fr) u = false from fun u hu => by
                  by_cases e : u = t
                  · subst e; rw [HT1.out]; simp [heq]
                  · exact HNO.out u (by omega))
                have t4 : (ss + cc k j + T1 == T0) = false := by simpa using heq
                clear heq
                clear HT1 hb2 hb0 hj HNO
                go_wp2_with fail
                refine wp_region_lex (fun w' => w' = wr.drew) (by kernel_rfl) (by kernel_rfl) rfl ?_
                generalize wr.drew = wx at *
                (repeat (first | (refine lex_skip (by rfl) ?_; try simp only [Act.put, List.setIfInBounds_toArray, List.set_cons_zero, List.set_cons_succ]) | (refine lex_read (v := ?_) (by rfl) ?_ ?_; rotate_left; (focus (intro w' hS'; go_simp; (try with_reducible rfl); done)); try simp only [Act.put, List.setIfInBounds_toArray, List.set_cons_zero, List.set_cons_succ])))
                refine lex_nil ?_
                clear u1 u2 u3 u4 u5 u6 t2 t3 t4 k3 k4 c0 c5 l1 l2
                go_wp2
                go_roundg g2
                case measure => omega
                case rel => exact ⟨t + 1, by omega, by rw [HS.out]; try go_num, by rw [HJ.out]; go_num, HRD.out, .inl ⟨rfl, HNO2.out⟩⟩
            | zero =>
              obtain ⟨j, hj⟩ : ∃ j, j = fr + t := ⟨_, rfl⟩
              obtain rfl : j = m := by omega
              have HH := HMISS.out (fun u hu => HNO.out u (by omega))
              have HG2 := hide (split_gro HG.out HH)
              rw [← HNK.out] at HG2
              rw [← hj]
              generalize wr = wx at *
              clear HH HNO hj HSB
              go_wp2_with (at_builtin; refine held ?_)
              obtain ⟨F7, hR7, bk7⟩ := (HRI.out.below vec_ok ((Below.refl _ _).alloc (Nat.le_refl _) (.cells #[.int .i64 j] 3))).all vec_ok
              refine Held.mk (wpList_app rfl (.tmp 91) (.tmp 93) rfl intsOk _ 0 (v := .slice A1 ps.length c1) (n := ps.length) (xs := ints ps) rfl hR7.1 (A := some ⟨wx.heap.size, 0, none⟩) (m := 1) (c := 1) (news := [.int .i64 j]) rfl (src_lit wx j) (by rw [HPL.out]; omega) (by decide) (Nat.zero_le _) ?_)
              intro v8 w8 ho8 hg8 hv8
              have S8 := bk7 _ _ (row_app hR7 ho8 hg8 hv8)
              obtain ⟨A8, c8, rfl⟩ := own_form ho8
              rw [vec_snoc] at S8
              have S9 := hide S8
              have HLN := hide (show ps.length + 1 = (ps ++ [((j : Nat) : Int)]).length by simp)
              clear ho8 hg8 hv8 bk7 hR7 HRI S8
              go_wp2
              go_roundg g1
              case measure => omega
              case rel => exact ⟨k + 1, fr, A8, c8, ps ++ [((j : Nat) : Int)], by omega, by omega, by rw [HLN.out], by go_num, by go_num, by rw [List.length_append, HPL.out]; rfl, HG2.out, S9.out⟩
          · have HG2 := hide (split_gro HG.out hhit)
            rw [← HNK.out] at HG2
            obtain ⟨j, hj⟩ : ∃ j, j = fr + t0 := ⟨_, rfl⟩
            have hjm : j < m := by omega
            rw [← hj] at HG2
            rw [← hj, show fr + (t0 + 1) = j + 1 by omega]
            have te : ((j : Int) == (m : Int)) = false := by
              have : ¬ (j : Int) = (m : Int) := by omega
              simpa using this
            generalize wr = wx at *
            clear hhit hj
            by_cases hje : j + 1 < m
            · have hje2 : ((j + 1 : Nat) : Int) < (m : Int) := by omega
              go_wp2_with (at_builtin; refine held ?_)
              obtain ⟨F7, hR7, bk7⟩ := (HRI.out.below vec_ok ((Below.refl _ _).alloc (Nat.le_refl _) (.cells #[.int .i64 j] 3))).all vec_ok
              refine Held.mk (wpList_app rfl (.tmp 91) (.tmp 93) rfl intsOk _ 0 (v := .slice A1 ps.length c1) (n := ps.length) (xs := ints ps) rfl hR7.1 (A := some ⟨wx.heap.size, 0, none⟩) (m := 1) (c := 1) (news := [.int .i64 j]) rfl (src_lit wx j) (by rw [HPL.out]; omega) (by decide) (Nat.zero_le _) ?_)
              intro v8 w8 ho8 hg8 hv8
              have S8 := bk7 _ _ (row_app hR7 ho8 hg8 hv8)
              obtain ⟨A8, c8, rfl⟩ := own_form ho8
              rw [vec_snoc] at S8
              have S9 := hide S8
              have HLN := hide (show ps.length + 1 = (ps ++ [((j : Nat) : Int)]).length by simp)
              clear ho8 hg8 hv8 bk7 hR7 HRI S8
              go_wp2
              go_roundg g1
              case measure => omega
              case rel => exact ⟨k + 1, j + 1, A8, c8, ps ++ [((j : Nat) : Int)], by omega, by omega, by rw [HLN.out], by go_num, by go_num, by rw [List.length_append, HPL.out]; rfl, HG2.out, S9.out⟩
            · have hje2 : ¬ ((j + 1 : Nat) : Int) < (m : Int) := by omega
              go_wp2_with (at_builtin; refine held ?_)
              obtain ⟨F7, hR7, bk7⟩ := (HRI.out.below vec_ok ((Below.refl _ _).alloc (Nat.le_refl _) (.cells #[.int .i64 j] 3))).all vec_ok
              refine Held.mk (wpList_app rfl (.tmp 91) (.tmp 93) rfl intsOk _ 0 (v := .slice A1 ps.length c1) (n := ps.length) (xs := ints ps) rfl hR7.1 (A := some ⟨wx.heap.size, 0, none⟩) (m := 1) (c := 1) (news := [.int .i64 j]) rfl (src_lit wx j) (by rw [HPL.out]; omega) (by decide) (Nat.zero_le _) ?_)
              intro v8 w8 ho8 hg8 hv8
              have S8 := bk7 _ _ (row_app hR7 ho8 hg8 hv8)
              obtain ⟨A8, c8, rfl⟩ := own_form ho8
              rw [vec_snoc] at S8
              have S9 := hide S8
              have HLN := hide (show ps.length + 1 = (ps ++ [((j : Nat) : Int)]).length by simp)
              clear ho8 hg8 hv8 bk7 hR7 HRI S8
              go_wp2
              go_roundg g1
              case measure => omega
              case rel => exact ⟨k + 1, j + 1, A8, c8, ps ++ [((j : Nat) : Int)], by omega, by omega, by rw [HLN.out], by go_num, by go_num, by rw [List.length_append, HPL.out]; rfl, HG2.out, S9.out⟩
end Go.Proofs.Ytalbhghigdanlaa
