/-
  Assign: Best of the reference.
  Assign: what the laws know of their arguments; the contracts for them.
-/
import Derived.Test.YtalbhghigdanlaaMG9
import Derived.Test.YtalbhghigdanlaaMG12
import Derived.Test.YtalbhghigdanlaaMG13
import Derived.Test.YtalbhghigdanlaaMG14
set_option linter.unusedSimpArgs false
set_option linter.unusedVariables false
namespace Go.Proofs.Ytalbhghigdanlaa
open Go.RowKit Go.CH Go.CH.Asg
open Go.ChangeMaps (setBlock)
set_option maxRecDepth 100000 in
set_option maxHeartbeats 12800000 in
theorem rbest_any {w : World} {A B G : Option Addr} {V : List (Option Addr × Nat)} {c d e : Nat} {C : List (List Int)} {D E : List Int} (h : Mat w A C V) (hD : Vec w B D) (hE : Vec w G E) :
    Calls Try.prog 18 #[.slice A C.length c, .slice B D.length d, .slice G E.length e] w (BestRet w C D E) := by
  have hb0 : Below w.heap.size w (w.alloc (.cells zeroA 27)) := (Below.refl _ _).alloc (Nat.le_refl _) _
  have KV := hide (rvalid_any (c := c) (d := d) (e := e) (h.below hb0) (hD.below hb0) (hE.below hb0))
  have HP := hide (fun hv => prb_of (w := w) (C := C) (D := D) (E := E) hv h hD hE)
  have HB0 := hide hb0
  have R0 := hide (((Run.begin w).fresh emp_ok (cell_new w zeroA 27)).imp fun _ _ h => star_emp h)
  unfold zeroA at KV HB0 R0
  clear h hD hE hb0
  cases hv : vld C D E with
  | false =>
    have HR := hide (show ∀ w' : World, Below w.heap.size w w' → BestRet w C D E (.returned (.tuple #[.agg #[.int .i64 0, .slice none 0 0, .slice none 0 0, .slice none 0 0], .int .i64 1])) w' from fun w' hb => ⟨_, by rw [hv]; rfl, hb, by rw [hv]; exact ⟨none, none, none, 0, 0, 0, rfl, Src.none_, Src.none_, Src.none_⟩⟩)
    rw [hv] at KV
    clear HP hv
    go_enter Try.func18, Try.ntmps18
    go_wp2_with fail
    refine KV.out.mono ?_
    rintro e w1 ⟨rfl, rfl⟩
    go_wp2
    refine bodyPost_ret_by (res_cell_tmp rfl _ _ w.heap.size 27 zeroA (0, 0) rfl ?_ Try.underlying27 (by kernel_rfl)) rfl ?_
    · exact heap_alloc_new w _
    · exact HR.out _ HB0.out
  | true =>
    rw [hv] at KV
    have hP := HP.out hv
    have hn6 := hP.n6
    have hm6 := hP.m6
    obtain ⟨nc, hnc⟩ : ∃ n, n = C.length := ⟨_, rfl⟩
    obtain ⟨n, hn⟩ : ∃ n, n = D.length := ⟨_, rfl⟩
    obtain ⟨m, hm⟩ : ∃ n, n = E.length := ⟨_, rfl⟩
    have hnn : nc = n := by rw [hnc, hn]; exact hP.hn
    have HRET := hide (show ∀ (v : Value) (w' : World), Below w.heap.size w w' → AsgV w' v (bestM C D E) → BestRet w C D E (.returned (.tuple #[v, .int .i64 0])) w' from fun v w' hb ha => ⟨v, by rw [hv]; rfl, hb, by rw [hv]; exact ha⟩)
    have HBM := hide (show bestM C D E = ⟨bcost (cF C) (lF D) (lF E) n m, bps (cF C) (lF D) (lF E) n m, bus (cF C) (lF D) (lF E) n m, bvs (cF C) (lF D) (lF E) n m⟩ by rw [hn, hm]; rfl)
    rw [← hn, ← hm] at hP
    rw [← hn] at hn6
    rw [← hm] at hm6
    have HQ := hide hP.q
    rw [← hnc, ← hn, ← hm] at KV
    rw [← hnc, ← hn, ← hm]
    subst hnn
    clear HP hv hP hnc hn hm
    generalize cF C = cc at *
    generalize lF D = dd at *
    generalize lF E = ee at *
    have KL := hide (leastAll_any (HQ.out.below HB0.out) c d e)
    have hKb := L_bnd HQ.out (Nat.le_refl nc) noU
    have HK0 := hide (show bcost cc dd ee nc m = L cc dd ee nc m nc noU from rfl)
    rw [← HK0.out] at KL hKb
    obtain ⟨K, hK⟩ : ∃ K, K = bcost cc dd ee nc m := ⟨_, rfl⟩
    rw [← hK] at KL hKb HK0
    have HKK := hide hK
    clear hK
    go_enter Try.func18, Try.ntmps18
    go_wp2_with fail
    refine KV.out.mono ?_
    rintro e9 w1 ⟨rfl, rfl⟩
    go_wp2_with fail
    refine KL.out.mono ?_
    rintro e9 w2 ⟨rfl, hb2⟩
    have R2 := (R0.out.below cell_ok hb2)
    have R3 := (R2.fresh cell_ok (cell_new w2 #[.int .i64 K, .slice none 0 0, .slice none 0 0, .slice none 0 0] 27))
    have R4 := hide (show Run (fun _ => False) w (BestO w.heap.size w2.heap.size K none none none 0 0 0 [] [] []) _ from R3.imp fun W F hh => by
      unfold BestO
      exact ⟨fun _ => False, F, vec_nil W, ⟨fun _ => False, F, vec_nil W, ⟨fun _ => False, F, vec_nil W, hh, fun _ h => h.elim, fun i => by simp⟩, fun _ h => h.elim, fun i => by simp⟩, fun _ h => h.elim, fun i => by simp⟩)
    clear hb2 R2 R3 KV KL R0 HB0
    go_wp2_with (refine wpList_flags rfl (.tmp 32) rfl m (by omega) (by simp [Act.eval]) ?_; refine held ?_)
    refine Held.mk fun w3 hP3 => ?_
    have R5' := R4.out.fresh best_ok hP3
    have R5 := hide R5'
    clear hP3 R4 R5'
    generalize w2.heap.size = ga at *
    obtain ⟨g6, HG6⟩ : ∃ g6, Hid (w.heap.size = g6) := ⟨_, hide rfl⟩
    rw [HG6.out] at HRET R5 ⊢
    have R6 := R5.out.swap
    obtain ⟨b0, -, -, -, -⟩ := best_cells R6
    generalize hg : ga + 1 = g at *
    clear R6 hg
    go_wp2
    go_loopw [10, 11] (fun r i wr => ∃ (k : Nat) (U : Nat → Bool) (A1 : Option Addr) (c1 : Nat) (ps : List Int), k ≤ nc ∧ r = .int .i64 (L cc dd ee nc m (nc - k) U) ∧ i = .int .i64 k ∧ ps.length = k ∧ bps cc dd ee nc m = ps ++ gr cc dd ee nc m (nc - k) U ∧ Run (fun _ => False) w (star (BestO g6 ga K A1 none none c1 0 0 ps [] []) (FlagO g m U)) wr) (fun _ i _ => nc - (intOf i).toNat)
    case atStart => exact ⟨0, noU, none, 0, [], Nat.zero_le _, by rw [Nat.sub_zero, HK0.out], rfl, rfl, rfl, R5.out.swap⟩
    case round =>
      obtain ⟨k, U, A1, c1, ps, hk, rfl, rfl, hpl, hg, hR⟩ := hrel
      have HR := hide hR
      have HPL := hide hpl
      have HG := hide hg
      clear hR hpl hg R5 b0
      by_cases hlt : k < nc
      case pos =>
        obtain ⟨a, ha⟩ : ∃ a, nc = a + 1 + k := ⟨nc - k - 1, by omega⟩
        have hnk : nc - k = a + 1 := by omega
        have hna : nc - (a + 1) = k := by omega
        have ha6 : a ≤ 6 := by omega
        have HNK := hide (show nc - (k + 1) = a by omega)
        rw [hnk] at HG
        rw [hnk]
        have HLS := hide (fun T (W : World) hR => least_any HQ.out (X := BestO g6 ga K A1 none none c1 0 0 ps [] []) best_ok c d e (g := g) a (by omega) T W hR)
        rw [show nc - a = k + 1 by omega] at HLS
        have hLb := L_bnd HQ.out (show a + 1 ≤ nc by omega) U
        have HLB := hide (fun T => L_bnd HQ.out (show a ≤ nc by omega) T)
        have HHIT := hide (fun (j : Nat) hj hp hb => gr_hit (c := cc) (d := dd) (e := ee) (n := nc) (m := m) (a := a) (j := j) (U := U) hj hp hb)
        have HMISS := hide (fun hb => gr_miss (c := cc) (d := dd) (e := ee) (n := nc) (m := m) (a := a) (U := U) hb)
        have HTST := hide (fun j => show tst cc dd ee nc m a U j = (!U j && decide (cc k j + L cc dd ee nc m a (ins U j) = L cc dd ee nc m (a + 1) U)) by unfold tst; rw [hna])
        rw [hna] at HHIT HMISS
        generalize hRest : L cc dd ee nc m (a + 1) U = rest at *
        have HREST := hide hRest
        clear hRest hnk hna ha
        go_wp2
        go_loopw [12, 13] (fun p x wr => ∃ (j p0 : Nat) (T : Nat → Bool), j ≤ m ∧ p = .int .i64 p0 ∧ x = .int .i64 j ∧ Run (fun _ => False) w (star (FlagO g m T) (BestO g6 ga K A1 none none c1 0 0 ps [] [])) wr ∧ ((p0 = m ∧ T = U ∧ ∀ t, t < j → tst cc dd ee nc m a U t = false) ∨ (p0 < m ∧ j = p0 + 1 ∧ T = ins U p0 ∧ tst cc dd ee nc m a U p0 = true ∧ ∀ t, t < p0 → tst cc dd ee nc m a U t = false))) (fun _ x _ => m - (intOf x).toNat)
        case atStart => exact ⟨0, m, U, Nat.zero_le _, rfl, rfl, HR.out.swap, .inl ⟨rfl, rfl, fun t ht => absurd ht (Nat.not_lt_zero t)⟩⟩
        case round =>
          obtain ⟨j, p0, T, hj, rfl, rfl, hR, hor⟩ := hrel
          have HRI := hide hR
          clear HR
          rcases hor with ⟨hp0, hT, hno⟩ | ⟨hp0, hj1, hT, hyes, hno⟩
          · have HNO := hide hno
            clear hno
            rw [hT] at HRI hR
            clear hT
            subst hp0
            by_cases hjt : j < p0
            · obtain ⟨F, hF⟩ := hR.fst
              have c1' := flag_at hF (k := j) hjt
              have hfr := flag_free hF j (by omega)
              have HT1 := hide (HTST.out j)
              cases hu : U j with
              | true =>
                rw [hu] at c1' HT1
                have HNO2 := hide (show ∀ t, t < j + 1 → tst cc dd ee nc p0 a U t = false from fun t ht => by
                  by_cases e : t = j
                  · subst e; rw [HT1.out]; rfl
                  · exact HNO.out t (by omega))
                clear hu hF hfr hR HNO HT1
                go_wp2
                go_roundw
                case rel => exact ⟨j + 1, p0, U, by omega, rfl, by go_num, HRI.out, .inl ⟨rfl, rfl, HNO2.out⟩⟩
                case measure => simp [intOf]; omega
              | false =>
                rw [hu] at c1' HT1
                have R7 := run_flag best_ok hR hjt true (T := ins U j) (fun t _ => by unfold ins; by_cases e : t = j <;> simp [e])
                have HR7 := hide (R7.drew (star_ok flag_ok best_ok))
                have HU := hide hu
                obtain ⟨ba, oa, RR, cR, rfl, hca, hrow⟩ := HQ.out.R k hlt
                obtain ⟨b', o', rfl, hcc⟩ := hrow j hjt
                have hcb := HQ.out.cb k hlt j hjt
                have HCA := hide hca
                have HCC := hide hcc
                have hl2 := HLB.out (ins U j)
                have k1 := hca _ HR7.out.bel
                have k2 := hcc _ HR7.out.bel
                have t1 : IntKind.i64.wrap ((k : Int) + 1) = ((k + 1 : Nat) : Int) := by rw [IntWalk.i64_in _ (by omega)]; omega
                have t2 : IntKind.i64.wrap (cc k j + L cc dd ee nc p0 a (ins U j)) = cc k j + L cc dd ee nc p0 a (ins U j) := IntWalk.i64_in _ (by omega)
                clear hca hrow hcc hu hF hR R7 HRI
                go_wp2_with fail
                refine wp_region_lex (fun w' => w'.cell? ⟨ba, oa + k, none⟩ = some (.slice (some ⟨b', o', none⟩) p0 cR) ∧ w'.cell? ⟨b', o' + j, none⟩ = some (.int .i64 (cc k j))) (by kernel_rfl) (by kernel_rfl) ⟨k1, k2⟩ ?_
                clear k1 k2 c1' hfr
                have KC := hide (HLS.out (ins U j) _ HR7.out)
                (repeat (first | (refine lex_skip (by rfl) ?_; try simp only [Act.put, List.setIfInBounds_toArray, List.set_cons_zero, List.set_cons_succ]) | (refine lex_read (v := ?_) (by rfl) ?_ ?_; rotate_left; (focus (intro w' hS'; go_simp; (try with_reducible rfl); done)); try simp only [Act.put, List.setIfInBounds_toArray, List.set_cons_zero, List.set_cons_succ])))
                refine lex_chain rfl (by rfl) (fun KK hK => ?_)
                go_wp2_with fail
                refine KC.out.mono ?_
                rintro e9 w4 ⟨rfl, hR1⟩
                have HR1 := hide hR1
                have k1 := HCA.out _ hR1.bel
                have k2 := HCC.out _ hR1.bel
                refine hK.out _ _ ⟨k1, k2⟩ ?_
                clear hK KC HR7 k1 k2
                by_cases heq : cc k j + L cc dd ee nc p0 a (ins U j) = rest
                · have HYES := hide (show tst cc dd ee nc p0 a U j = true by rw [HT1.out]; simp [heq])
                  have t4 : IntKind.i64.wrap rest = rest := IntWalk.i64_in _ (by omega)
                  clear hl2 t2
                  (repeat (first | (refine lex_skip (by rfl) ?_; try simp only [Act.put, List.setIfInBounds_toArray, List.set_cons_zero, List.set_cons_succ]) | (refine lex_read (v := ?_) (by rfl) ?_ ?_; rotate_left; (focus (intro w' hS'; go_simp; (try with_reducible rfl); done)); try simp only [Act.put, List.setIfInBounds_toArray, List.set_cons_zero, List.set_cons_succ])))
                  refine lex_nil ?_
                  clear t1 t4 hR1 heq HT1
                  go_wp2
                  go_roundw
                  case rel => exact ⟨j + 1, j, ins U j, by omega, rfl, by go_num, HR1.out, .inr ⟨hjt, rfl, rfl, HYES.out, HNO.out⟩⟩
                  case measure => simp [intOf]; omega
                · have HNO2 := hide (show ∀ t, t < j + 1 → tst cc dd ee nc p0 a U t = false from fun t ht => by
                    by_cases e : t = j
                    · subst e; rw [HT1.out]; simp [heq]
                    · exact HNO.out t (by omega))
                  have t3 : (cc k j + L cc dd ee nc p0 a (ins U j) == rest) = false := by simpa using heq
                  obtain ⟨F, hF⟩ := hR1.fst
                  have hfr := flag_free hF j (by omega)
                  have c1' := flag_at hF (k := j) hjt
                  have R8 := hide (run_flag best_ok hR1 hjt false (T := U) (fun t _ => by
                    unfold ins; by_cases e : t = j
                    · subst e; simp [HU.out]
                    · simp [e]))
                  (repeat (first | (refine lex_skip (by rfl) ?_; try simp only [Act.put, List.setIfInBounds_toArray, List.set_cons_zero, List.set_cons_succ]) | (refine lex_read (v := ?_) (by rfl) ?_ ?_; rotate_left; (focus (intro w' hS'; go_simp; (try with_reducible rfl); done)); try simp only [Act.put, List.setIfInBounds_toArray, List.set_cons_zero, List.set_cons_succ])))
                  refine lex_nil ?_
                  clear t1 t2 t3 hR1 heq HT1 hl2 hF HR1 HNO
                  go_wp2
                  go_roundw
                  case rel => exact ⟨j + 1, p0, U, by omega, rfl, by go_num, R8.out, .inl ⟨rfl, rfl, HNO2.out⟩⟩
                  case measure => simp [intOf]; omega
            · obtain rfl : j = p0 := by omega
              have HM := HMISS.out HNO.out
              have HG2 := hide (split_gr (qs := []) HG.out HM.1)
              have HL2 := hide HM.2
              obtain ⟨bd, od, rfl, hcd⟩ := HQ.out.D k hlt
              have c4 := hcd _ HRI.out.bel
              have hdb := HQ.out.db k hlt
              have HRB := hide HRI.out.swap
              obtain ⟨b0, b1, b2, b3, bf⟩ := best_cells HRB.out
              have bf1 := bf 1
              generalize dd k = z at *
              generalize wr = wx at *
              clear hR HRI HNO HM hcd bf b0 b2 b3 HHIT HMISS HTST HLS
              go_wp2_with (at_builtin; refine held ?_)
              obtain ⟨F7, hR7, -, bk7⟩ := (best_p1 (HRB.out.below (star_ok best_ok flag_ok) ((Below.refl _ _).alloc (Nat.le_refl _) (.cells #[.int .i64 j] 3)))).take vec_ok (oks5 vec_ok vec_ok cell_ok cell_ok flag_ok)
              refine Held.mk (wpList_app rfl (.tmp 105) (.tmp 107) rfl intsOk _ 0 (v := .slice A1 ps.length c1) (n := ps.length) (xs := ints ps) rfl hR7.1 (A := some ⟨wx.heap.size, 0, none⟩) (m := 1) (c := 1) (news := [.int .i64 j]) rfl (src_lit wx j) (by rw [HPL.out]; omega) (by decide) (Nat.zero_le _) ?_)
              intro v8 w8 ho8 hg8 hv8
              have S8 := bk7 _ _ (row_app hR7 ho8 hg8 hv8)
              obtain ⟨A8, c8, rfl⟩ := own_form ho8
              obtain ⟨FC, hC⟩ := (S8.perm (by ac_rfl : _ = star (CellO ga #[.int .i64 K, .slice A1 ps.length c1, .slice none 0 0, .slice none 0 0] 27) (star (RowO 3 1 (.slice A8 (ps.length + 1) c8) (ps.length + 1) (ints ps ++ [.int .i64 j])) (star (VecO none 0 []) (star (VecO none 0 []) (star (CellO g6 zeroA 27) (FlagO g j U))))))).fst
              have x1 := cell_at hC (i := 1) rfl
              have f1 := cell_free hC 1
              have S9 := hide (best_ps flag_ok S8)
              clear ho8 hg8 hv8 bk7 hR7 HRB S8 hC
              go_wp2
              go_roundw
              case rel => exact ⟨k + 1, U, A8, c8, ps ++ [((j : Nat) : Int)], by omega, by rw [HNK.out, HL2.out]; try go_num, by go_num, by rw [List.length_append, HPL.out]; rfl, by rw [HNK.out]; exact HG2.out, S9.out⟩
              case measure => simp [intOf]; omega
          · subst hj1
            have HH := HHIT.out p0 hp0 hyes hno
            have HG2 := hide (split_gr (qs := []) HG.out HH.1)
            have HL2 := hide HH.2
            rw [hT] at HRI
            obtain ⟨ba, oa, RR, cR, rfl, hca, hrow⟩ := HQ.out.R k hlt
            obtain ⟨b', o', rfl, hcc⟩ := hrow p0 hp0
            have hcb := HQ.out.cb k hlt p0 hp0
            have c4 := hca _ HRI.out.bel
            have c5 := hcc _ HRI.out.bel
            have HRB := hide HRI.out.swap
            obtain ⟨b0, b1, b2, b3, bf⟩ := best_cells HRB.out
            have bf1 := bf 1
            have tp : ((p0 : Int) == (m : Int)) = false := by simp; omega
            generalize cc k p0 = z at *
            generalize wr = wx at *
            clear hR HRI hno hyes HH hca hrow hcc bf b0 b2 b3 HHIT HMISS HTST HLS hT
            by_cases hpm : p0 + 1 < m
            case pos =>
              go_wp2_with (at_builtin; refine held ?_)
              obtain ⟨F7, hR7, -, bk7⟩ := (best_p1 (HRB.out.below (star_ok best_ok flag_ok) ((Below.refl _ _).alloc (Nat.le_refl _) (.cells #[.int .i64 p0] 3)))).take vec_ok (oks5 vec_ok vec_ok cell_ok cell_ok flag_ok)
              refine Held.mk (wpList_app rfl (.tmp 105) (.tmp 107) rfl intsOk _ 0 (v := .slice A1 ps.length c1) (n := ps.length) (xs := ints ps) rfl hR7.1 (A := some ⟨wx.heap.size, 0, none⟩) (m := 1) (c := 1) (news := [.int .i64 p0]) rfl (src_lit wx p0) (by rw [HPL.out]; omega) (by decide) (Nat.zero_le _) ?_)
              intro v8 w8 ho8 hg8 hv8
              have S8 := bk7 _ _ (row_app hR7 ho8 hg8 hv8)
              obtain ⟨A8, c8, rfl⟩ := own_form ho8
              obtain ⟨FC, hC⟩ := (S8.perm (by ac_rfl : _ = star (CellO ga #[.int .i64 K, .slice A1 ps.length c1, .slice none 0 0, .slice none 0 0] 27) (star (RowO 3 1 (.slice A8 (ps.length + 1) c8) (ps.length + 1) (ints ps ++ [.int .i64 p0])) (star (VecO none 0 []) (star (VecO none 0 []) (star (CellO g6 zeroA 27) (FlagO g m (ins U p0)))))))).fst
              have x1 := cell_at hC (i := 1) rfl
              have f1 := cell_free hC 1
              have S9 := hide (best_ps flag_ok S8)
              clear ho8 hg8 hv8 bk7 hR7 HRB S8 hC
              go_wp2
              go_roundw
              case rel => exact ⟨k + 1, (ins U p0), A8, c8, ps ++ [((p0 : Nat) : Int)], by omega, by rw [HNK.out, HL2.out]; try go_num, by go_num, by rw [List.length_append, HPL.out]; rfl, by rw [HNK.out]; exact HG2.out, S9.out⟩
              case measure => simp [intOf]; omega
            case neg =>
              go_wp2_with (at_builtin; refine held ?_)
              obtain ⟨F7, hR7, -, bk7⟩ := (best_p1 (HRB.out.below (star_ok best_ok flag_ok) ((Below.refl _ _).alloc (Nat.le_refl _) (.cells #[.int .i64 p0] 3)))).take vec_ok (oks5 vec_ok vec_ok cell_ok cell_ok flag_ok)
              refine Held.mk (wpList_app rfl (.tmp 105) (.tmp 107) rfl intsOk _ 0 (v := .slice A1 ps.length c1) (n := ps.length) (xs := ints ps) rfl hR7.1 (A := some ⟨wx.heap.size, 0, none⟩) (m := 1) (c := 1) (news := [.int .i64 p0]) rfl (src_lit wx p0) (by rw [HPL.out]; omega) (by decide) (Nat.zero_le _) ?_)
              intro v8 w8 ho8 hg8 hv8
              have S8 := bk7 _ _ (row_app hR7 ho8 hg8 hv8)
              obtain ⟨A8, c8, rfl⟩ := own_form ho8
              obtain ⟨FC, hC⟩ := (S8.perm (by ac_rfl : _ = star (CellO ga #[.int .i64 K, .slice A1 ps.length c1, .slice none 0 0, .slice none 0 0] 27) (star (RowO 3 1 (.slice A8 (ps.length + 1) c8) (ps.length + 1) (ints ps ++ [.int .i64 p0])) (star (VecO none 0 []) (star (VecO none 0 []) (star (CellO g6 zeroA 27) (FlagO g m (ins U p0)))))))).fst
              have x1 := cell_at hC (i := 1) rfl
              have f1 := cell_free hC 1
              have S9 := hide (best_ps flag_ok S8)
              clear ho8 hg8 hv8 bk7 hR7 HRB S8 hC
              go_wp2
              go_roundw
              case rel => exact ⟨k + 1, (ins U p0), A8, c8, ps ++ [((p0 : Nat) : Int)], by omega, by rw [HNK.out, HL2.out]; try go_num, by go_num, by rw [List.length_append, HPL.out]; rfl, by rw [HNK.out]; exact HG2.out, S9.out⟩
              case measure => simp [intOf]; omega
      case neg =>
        generalize hL0 : L cc dd ee nc m (nc - k) U = rest0
        clear hL0
        obtain rfl : k = nc := by omega
        have HPS := hide (show bps cc dd ee k m = ps by rw [HG.out, Nat.sub_self]; simp [gr])
        clear HG hlt
        obtain ⟨X, hX⟩ : ∃ X, X = FlagO g m U := ⟨_, rfl⟩
        rw [← hX] at HR
        have HXO := hide (show X.Ok by rw [hX]; exact flag_ok)
        obtain ⟨RV, hRV, hrow⟩ := HQ.out.rows
        have HRV := hide hRV
        have HROW := hide hrow
        have HRL := hide (show RV.length = k by have := hRV.1; omega)
        clear hX hRV hrow
        go_wp2
        go_loopw [14] (fun i wr => ∃ (j : Nat) (A2 : Option Addr) (c2 : Nat) (us : List Int), j ≤ k ∧ i = .int .i64 j ∧ us.length = j ∧ us = (List.range j).map (buF cc dd ee k m) ∧ Run (fun _ => False) w (star (BestO g6 ga K A1 A2 none c1 c2 0 ps us []) X) wr) (fun i _ => k - (intOf i).toNat)
        case atStart => exact ⟨0, none, 0, [], Nat.zero_le _, rfl, rfl, rfl, HR.out⟩
        case round =>
          obtain ⟨j, A2, c2, us, hj, rfl, hul, hue, hR⟩ := hrel
          have HRB := hide hR
          have HUL := hide hul
          have HUE := hide hue
          clear hR hul hue HR
          by_cases hjt : j < k
          case pos =>
            have HRD := hide (HRB.out.drew (star_ok best_ok HXO.out))
            obtain ⟨ba, oa, RR, cR, rfl, hca, -⟩ := HQ.out.R j hjt
            have HXV := hide (show RV[j]? = some (.slice RR m cR) by
              obtain ⟨R9, cp9, e9, -⟩ := HROW.out j hjt
              obtain ⟨b9, o9, e8, e7⟩ := src_open HRV.out hjt e9
              have h1 := e7 w (Below.refl _ _)
              injection e8 with e8; injection e8 with e81 e82
              subst e81 e82
              rw [hca w (Below.refl _ _)] at h1
              rw [e9, ← Option.some.inj h1])
            have HCA := hide hca
            obtain ⟨bd, od, rfl, hcd⟩ := HQ.out.D j hjt
            have HCD := hide hcd
            have HDS := hide HQ.out.ds
            clear hca hcd
            go_wp2_with fail
            refine wp_region_held (S := fun w' => Below w.heap.size w w') (by kernel_rfl) (show wpAnyH _ _ _ _ _ _ _ _ wr.drew from ?_)
            refine wpAnyH_take (i := 1) (v := .slice (some ⟨ba, oa, none⟩) k c) rfl (by kernel_rfl) (by kernel_rfl) (by kernel_rfl) (fun _ _ _ h => h) (.inl ⟨rfl, fun w' hS' => ?_⟩) HRD.out.bel ?_
            · go_simp
            try simp only [Act.put, List.getElem_toArray, List.getElem_cons_succ, List.getElem_cons_zero, List.setIfInBounds_toArray, List.set_cons_zero, List.set_cons_succ]
            refine wpAnyH_take (i := 3) (v := .slice (some ⟨ba, oa, none⟩) k c) rfl (by kernel_rfl) (by kernel_rfl) (by kernel_rfl) (fun _ _ _ h => h) (.inl ⟨rfl, fun w' hS' => ?_⟩) HRD.out.bel ?_
            · go_simp
            try simp only [Act.put, List.getElem_toArray, List.getElem_cons_succ, List.getElem_cons_zero, List.setIfInBounds_toArray, List.set_cons_zero, List.set_cons_succ]
            refine wpAnyH_take (i := 4) (v := .int .i64 (j : Int)) rfl (by kernel_rfl) (by kernel_rfl) (by kernel_rfl) (fun _ _ _ h => h) (.inl ⟨rfl, fun w' hS' => ?_⟩) HRD.out.bel ?_
            · go_simp
            try simp only [Act.put, List.getElem_toArray, List.getElem_cons_succ, List.getElem_cons_zero, List.setIfInBounds_toArray, List.set_cons_zero, List.set_cons_succ]
            refine wpAnyH_take (i := 5) (v := .pointer (some ⟨ba, oa + j, none⟩)) rfl (by kernel_rfl) (by kernel_rfl) (by kernel_rfl) (fun _ _ _ h => h) (.inl ⟨rfl, fun w' hS' => ?_⟩) HRD.out.bel ?_
            · go_simp
            try simp only [Act.put, List.getElem_toArray, List.getElem_cons_succ, List.getElem_cons_zero, List.setIfInBounds_toArray, List.set_cons_zero, List.set_cons_succ]
            refine wpAnyH_take (i := 6) (v := (.slice RR m cR)) rfl (by kernel_rfl) (by kernel_rfl) (by kernel_rfl) (fun _ _ _ h => h) (.inl ⟨rfl, fun w' hS' => ?_⟩) HRD.out.bel ?_
            · have k1 := HCA.out _ hS'
              go_simp
            try simp only [Act.put, List.getElem_toArray, List.getElem_cons_succ, List.getElem_cons_zero, List.setIfInBounds_toArray, List.set_cons_zero, List.set_cons_succ]
            refine two_chains [0, 2] [7] (apX 23 k RV) (apY 23 (.slice RR m cR)) 2 (by kernel_rfl) apX_ok apY_ok (star_ok best_ok HXO.out) (fun O W h => h.bel) ?_ ?_ ?_ (run_two HRD.out)
            · intro i o vs us hi ho hu Z W hZ hR
              rcases vs with _ | ⟨v, _ | ⟨v2, vs⟩⟩
              · obtain rfl : 0 = i := by simpa using hi
                simp only [List.getElem?_toArray, List.getElem?_cons_succ, List.getElem?_cons_zero, Option.some.injEq] at ho
                subst ho
                exact ap_make rowsOk rfl hZ hR (fun w => by go_simp)
              · obtain rfl : 2 = i := by simpa using hi
                simp only [List.getElem?_toArray, List.getElem?_cons_succ, List.getElem?_cons_zero, Option.some.injEq] at ho
                subst ho
                refine ap_all (c := c) (B := some ⟨ba, oa, none⟩) rowsOk (by decide) (.tmp 116) (.tmp 117) rfl hZ hR ?_ ?_ (src_below HRV.out hR.bel) (by omega)
                · show (puts (puts _ [116, 118] [v]) [123] us).eval (.tmp 116) = v
                  rw [puts_eval 116 [123] us _ (by decide)]
                  exact put_eval v (show 116 < 184 by decide)
                · show (puts (puts _ [116, 118] [v]) [123] us).eval (.tmp 117) = _
                  rw [puts_eval 117 [123] us _ (by decide), puts_eval 117 [116, 118] [v] _ (by decide)]; rfl
              · simp at hi
            · intro i o vs us hi ho hv Z W hZ hR
              rcases us with _ | ⟨v, us⟩
              · obtain rfl : 7 = i := by simpa using hi
                simp only [List.getElem?_toArray, List.getElem?_cons_succ, List.getElem?_cons_zero, Option.some.injEq] at ho
                subst ho
                refine ap_one hZ hR (fun w => exec_build rfl ?_ (run_build22 RR m cR w))
                show (puts (puts _ [116, 118] vs) [123] []).eval (.tmp 122) = _
                rw [puts_eval 122 [123] [] _ (by decide), puts_eval 122 [116, 118] vs _ (by decide)]; rfl
              · simp at hi
            intro vs us W hv hu hR
            obtain ⟨v1, v2, rfl⟩ := len2 hv
            obtain ⟨v4, rfl⟩ := len1 hu
            have HRR := hide hR
            clear hR hv hu
            simp only [dsts, List.map_cons, List.map_nil, List.getElem?_toArray, List.getElem?_cons_succ, List.getElem?_cons_zero, Option.bind_some, Option.getD_some, puts, Act.put, List.setIfInBounds_toArray, List.set_cons_zero, List.set_cons_succ]
            refine wpAnyH_all (rs := [8]) (by kernel_rfl) (by decide) (fun i hi => ?_)
            obtain rfl : i = 8 := by simpa using hi
            refine wpOp_plain rfl rfl ?_
            refine ap_end rowsOk (by decide) (.tmp 118) (.tmp 123) rfl (star_ok best_ok HXO.out) HRR.out (by rfl) (by rfl) (by omega) rfl ?_
            intro A5 c5 w5 hRE
            have HR5 := hide hRE
            refine ⟨hRE.bel, ?_⟩
            clear hRE HRR
            refine wpAnyH_all (rs := [9]) (by kernel_rfl) (by decide) (fun i hi => ?_)
            obtain rfl : i = 9 := by simpa using hi
            refine wpOp_plain rfl rfl ?_
            refine ap_assign rfl (by rfl) ⟨HR5.out.bel, ?_⟩
            refine wpAnyH_done (by kernel_rfl) ?_ _
            try simp only [Act.put, List.getElem_toArray, List.getElem_cons_succ, List.getElem_cons_zero, List.setIfInBounds_toArray, List.set_cons_zero, List.set_cons_succ]
            have HR6 := hide (HR5.out.drew (star_ok row_ok (star_ok best_ok HXO.out)))
            clear HRB HRD
            go_wp2_with fail
            refine wp_region_held (S := fun w' => Below w.heap.size w w') (by kernel_rfl) (show wpAnyH _ _ _ _ _ _ _ _ w5.drew from ?_)
            refine wpAnyH_take (i := 1) (v := .slice (some ⟨bd, od, none⟩) k d) rfl (by kernel_rfl) (by kernel_rfl) (by kernel_rfl) (fun _ _ _ h => h) (.inl ⟨rfl, fun w' hS' => ?_⟩) HR6.out.bel ?_
            · go_simp
            try simp only [Act.put, List.getElem_toArray, List.getElem_cons_succ, List.getElem_cons_zero, List.setIfInBounds_toArray, List.set_cons_zero, List.set_cons_succ]
            refine wpAnyH_take (i := 3) (v := .slice (some ⟨bd, od, none⟩) k d) rfl (by kernel_rfl) (by kernel_rfl) (by kernel_rfl) (fun _ _ _ h => h) (.inl ⟨rfl, fun w' hS' => ?_⟩) HR6.out.bel ?_
            · go_simp
            try simp only [Act.put, List.getElem_toArray, List.getElem_cons_succ, List.getElem_cons_zero, List.setIfInBounds_toArray, List.set_cons_zero, List.set_cons_succ]
            refine wpAnyH_take (i := 4) (v := .int .i64 (j : Int)) rfl (by kernel_rfl) (by kernel_rfl) (by kernel_rfl) (fun _ _ _ h => h) (.inl ⟨rfl, fun w' hS' => ?_⟩) HR6.out.bel ?_
            · go_simp
            try simp only [Act.put, List.getElem_toArray, List.getElem_cons_succ, List.getElem_cons_zero, List.setIfInBounds_toArray, List.set_cons_zero, List.set_cons_succ]
            refine wpAnyH_take (i := 5) (v := .pointer (some ⟨bd, od + j, none⟩)) rfl (by kernel_rfl) (by kernel_rfl) (by kernel_rfl) (fun _ _ _ h => h) (.inl ⟨rfl, fun w' hS' => ?_⟩) HR6.out.bel ?_
            · go_simp
            try simp only [Act.put, List.getElem_toArray, List.getElem_cons_succ, List.getElem_cons_zero, List.setIfInBounds_toArray, List.set_cons_zero, List.set_cons_succ]
            refine wpAnyH_take (i := 6) (v := (.int .i64 (dd j))) rfl (by kernel_rfl) (by kernel_rfl) (by kernel_rfl) (fun _ _ _ h => h) (.inl ⟨rfl, fun w' hS' => ?_⟩) HR6.out.bel ?_
            · have k1 := HCD.out _ hS'
              go_simp
            try simp only [Act.put, List.getElem_toArray, List.getElem_cons_succ, List.getElem_cons_zero, List.setIfInBounds_toArray, List.set_cons_zero, List.set_cons_succ]
            refine two_chains [0, 2] [7] (apX 3 k (fv k fun j => .int .i64 (dd j))) (apY 3 (.int .i64 (dd j))) 2 (by kernel_rfl) apX_ok apY_ok (star_ok row_ok (star_ok best_ok HXO.out)) (fun O W h => h.bel) ?_ ?_ ?_ (run_two HR6.out)
            · intro i o vs us hi ho hu Z W hZ hR
              rcases vs with _ | ⟨v, _ | ⟨v2, vs⟩⟩
              · obtain rfl : 0 = i := by simpa using hi
                simp only [List.getElem?_toArray, List.getElem?_cons_succ, List.getElem?_cons_zero, Option.some.injEq] at ho
                subst ho
                exact ap_make intsOk rfl hZ hR (fun w => by go_simp)
              · obtain rfl : 2 = i := by simpa using hi
                simp only [List.getElem?_toArray, List.getElem?_cons_succ, List.getElem?_cons_zero, Option.some.injEq] at ho
                subst ho
                refine ap_all (c := d) (B := some ⟨bd, od, none⟩) intsOk (by decide) (.tmp 125) (.tmp 126) rfl hZ hR ?_ ?_ (src_below HDS.out hR.bel) (by omega)
                · show (puts (puts _ [125, 127] [v]) [132] us).eval (.tmp 125) = v
                  rw [puts_eval 125 [132] us _ (by decide)]
                  exact put_eval v (show 125 < 184 by decide)
                · show (puts (puts _ [125, 127] [v]) [132] us).eval (.tmp 126) = _
                  rw [puts_eval 126 [132] us _ (by decide), puts_eval 126 [125, 127] [v] _ (by decide)]; rfl
              · simp at hi
            · intro i o vs us hi ho hv Z W hZ hR
              rcases us with _ | ⟨v, us⟩
              · obtain rfl : 7 = i := by simpa using hi
                simp only [List.getElem?_toArray, List.getElem?_cons_succ, List.getElem?_cons_zero, Option.some.injEq] at ho
                subst ho
                refine ap_one hZ hR (fun w => exec_build rfl ?_ (run_build23 (dd j) w))
                show (puts (puts _ [125, 127] vs) [132] []).eval (.tmp 131) = _
                rw [puts_eval 131 [132] [] _ (by decide), puts_eval 131 [125, 127] vs _ (by decide)]; rfl
              · simp at hi
            intro vs us W hv hu hR
            obtain ⟨v1, v2, rfl⟩ := len2 hv
            obtain ⟨v4, rfl⟩ := len1 hu
            have HRR := hide hR
            clear hR hv hu
            simp only [dsts, List.map_cons, List.map_nil, List.getElem?_toArray, List.getElem?_cons_succ, List.getElem?_cons_zero, Option.bind_some, Option.getD_some, puts, Act.put, List.setIfInBounds_toArray, List.set_cons_zero, List.set_cons_succ]
            refine wpAnyH_all (rs := [8]) (by kernel_rfl) (by decide) (fun i hi => ?_)
            obtain rfl : i = 8 := by simpa using hi
            refine wpOp_plain rfl rfl ?_
            refine ap_end intsOk (by decide) (.tmp 127) (.tmp 132) rfl (star_ok row_ok (star_ok best_ok HXO.out)) HRR.out (by rfl) (by rfl) (by omega) rfl ?_
            intro A6 c6 w6 hRE
            have HR7 := hide hRE
            refine ⟨hRE.bel, ?_⟩
            clear hRE HRR
            refine wpAnyH_all (rs := [9]) (by kernel_rfl) (by decide) (fun i hi => ?_)
            obtain rfl : i = 9 := by simpa using hi
            refine wpOp_plain rfl rfl ?_
            refine ap_assign rfl (by rfl) ⟨HR7.out.bel, ?_⟩
            refine wpAnyH_done (by kernel_rfl) ?_ _
            try simp only [Act.put, List.getElem_toArray, List.getElem_cons_succ, List.getElem_cons_zero, List.setIfInBounds_toArray, List.set_cons_zero, List.set_cons_succ]
            have hR8 := HR7.out.drew (star_ok row_ok (star_ok row_ok (star_ok best_ok HXO.out)))
            obtain ⟨F1, hO1⟩ := hR8.fst
            obtain ⟨F2, hO2⟩ := hR8.rot.fst
            have hsr1 := row_src hO1 (fun u hu => by
              rcases List.mem_append.1 hu with h | h
              · obtain ⟨r, _, rfl⟩ := List.mem_map.1 h; rfl
              · obtain rfl : u = _ := by simpa using h
                rfl)
            have hsr2 := row_src hO2 (fun u hu => by
              rcases List.mem_append.1 hu with h | h
              · exact HRV.out.2.1 u h
              · obtain rfl : u = _ := by simpa using h
                rfl)
            have hq7 := HQ.out.dup hn6 HROW.out HRL.out hjt HXV.out hR8.bel hsr2 hsr1
            have KL := hide (leastAll_any hq7 c5 c6 e)
            have hLb := L_bnd hq7 (Nat.le_refl _) noU
            have HBU := hide (show buF cc dd ee k m j = L (dupc cc k j) (dupd dd k j) ee (k + 1) m (k + 1) noU - K by unfold buF; rw [← HKK.out])
            generalize L (dupc cc k j) (dupd dd k j) ee (k + 1) m (k + 1) noU = L7 at *
            have HR9 := hide (show Run (fun _ => False) w (star (BestO g6 ga K A1 A2 none c1 c2 0 ps us []) X) _ from hR8.drop.drop)
            obtain ⟨b0, b1, b2, b3, bf⟩ := best_cells HR9.out
            clear hO1 hO2 hsr1 hsr2 hq7 hR8 HR5 HR6 HR7 bf b1 b3
            have t1 : IntKind.i64.wrap (L7 - K) = L7 - K := IntWalk.i64_in _ (by omega)
            go_wp2_with fail
            refine wp_region_ley (fun w' => w'.cell? ⟨ga, 0, none⟩ = some (.int .i64 K) ∧ w'.cell? ⟨ga, 2, none⟩ = some (.slice A2 us.length c2)) (by kernel_rfl) (by kernel_rfl) (by kernel_rfl) ⟨b0, b2⟩ ?_
            clear b0 b2
            (repeat (first | (refine ley_skip (by rfl) ?_; try simp only [Act.put, List.setIfInBounds_toArray, List.set_cons_zero, List.set_cons_succ]) | (refine ley_read (v := ?_) (by rfl) ?_ ?_; rotate_left; (focus (intro w' hS'; go_simp; (try with_reducible rfl); done)); try simp only [Act.put, List.setIfInBounds_toArray, List.set_cons_zero, List.set_cons_succ])))
            refine ley_chain rfl (by rfl) (fun KK hK => ?_)
            go_wp2_with fail
            refine KL.out.mono ?_
            rintro e9 w7 ⟨rfl, hb7⟩
            have HR10 := hide (HR9.out.below (star_ok best_ok HXO.out) hb7)
            obtain ⟨b0, b1, b2, b3, bf⟩ := best_cells HR10.out
            refine hK.out _ _ ⟨b0, b2⟩ ?_
            clear hK KL hb7 HR9 b0 b1 b2 b3 bf
            (repeat (first | (refine ley_skip (by rfl) ?_; try simp only [Act.put, List.setIfInBounds_toArray, List.set_cons_zero, List.set_cons_succ]) | (refine ley_read (v := ?_) (by rfl) ?_ ?_; rotate_left; (focus (intro w' hS'; go_simp; (try with_reducible rfl); done)); try simp only [Act.put, List.setIfInBounds_toArray, List.set_cons_zero, List.set_cons_succ])))
            refine ley_chain rfl (by rfl) (fun KK hK => ?_)
            go_wp2_with fail
            have HR11 := hide (HR10.out.below (star_ok best_ok HXO.out) ((Below.refl _ _).alloc (Nat.le_refl _) (.cells #[.int .i64 (L7 - K)] 3)))
            obtain ⟨b0, b1, b2, b3, bf⟩ := best_cells HR11.out
            refine hK.out _ _ ⟨b0, b2⟩ ?_
            clear hK b0 b1 b2 b3 bf HR10 t1
            (repeat (first | (refine ley_skip (by rfl) ?_; try simp only [Act.put, List.setIfInBounds_toArray, List.set_cons_zero, List.set_cons_succ]) | (refine ley_read (v := ?_) (by rfl) ?_ ?_; rotate_left; (focus (intro w' hS'; go_simp; (try with_reducible rfl); done)); try simp only [Act.put, List.setIfInBounds_toArray, List.set_cons_zero, List.set_cons_succ])))
            refine ley_chain rfl (by rfl) (fun KK hK => ?_)
            obtain ⟨F7, hR7, -, bk7⟩ := (best_p2 HR11.out).take vec_ok (oks5 vec_ok vec_ok cell_ok cell_ok HXO.out)
            refine wp_app (.tmp 135) (.tmp 143) rfl intsOk _ 0 (v := .slice A2 us.length c2) (n := us.length) (xs := ints us) rfl hR7.1 (A := some ⟨w7.heap.size, 0, none⟩) (m := 1) (c := 1) (news := [.int .i64 (L7 - K)]) rfl (src_lit w7 (L7 - K)) (by rw [HUL.out]; omega) (by decide) (Nat.zero_le _) ?_
            intro v8 w8 ho8 hg8 hv8
            have S8 := bk7 _ _ (row_app hR7 ho8 hg8 hv8)
            obtain ⟨A8, c8, rfl⟩ := own_form ho8
            obtain ⟨FC, hC⟩ := (S8.perm (by ac_rfl : _ = star (CellO ga #[.int .i64 K, .slice A1 ps.length c1, .slice A2 us.length c2, .slice none 0 0] 27) (star (RowO 3 1 (.slice A8 (us.length + 1) c8) (us.length + 1) (ints us ++ [.int .i64 (L7 - K)])) (star (VecO A1 c1 ps) (star (VecO none 0 []) (star (CellO g6 zeroA 27) X)))))).fst
            have x0 := cell_at hC (i := 0) rfl
            have x2 := cell_at hC (i := 2) rfl
            have f2 := cell_free hC 2
            have S9 := hide (best_us HXO.out S8)
            refine hK.out _ _ ⟨x0, x2⟩ ?_
            clear hK ho8 hg8 hv8 bk7 hR7 S8 hC HR11
            (repeat (first | (refine ley_skip (by rfl) ?_; try simp only [Act.put, List.setIfInBounds_toArray, List.set_cons_zero, List.set_cons_succ]) | (refine ley_read (v := ?_) (by rfl) ?_ ?_; rotate_left; (focus (intro w' hS'; go_simp; (try with_reducible rfl); done)); try simp only [Act.put, List.setIfInBounds_toArray, List.set_cons_zero, List.set_cons_succ])))
            refine ley_last rfl (by rfl) (fun KK hK => ?_)
            go_wp2_with fail
            refine hK.out _ _ ?_
            clear hK x0 x2 f2
            go_wp2
            go_roundw
            case rel => exact ⟨j + 1, A8, c8, us ++ [L7 - K], by omega, by go_num, by rw [List.length_append, HUL.out]; rfl, by rw [List.range_succ, List.map_append, ← HUE.out, ← HBU.out]; rfl, S9.out⟩
            case measure => simp [intOf]; omega
          case neg =>
            obtain rfl : j = k := by omega
            have HUS := hide (show us = bus cc dd ee j m from HUE.out)
            have HUV := hide (show ∀ r, r < j → lF us r = buF cc dd ee j m r by
              intro r hr
              rw [HUE.out, lF_at (by simp; exact hr)]; simp)
            have HUB := hide (show ∀ r, r < j → -10000 ≤ buF cc dd ee j m r ∧ buF cc dd ee j m r ≤ 10000 by
              intro r hr
              have h1 := (best_pot (c := cc) (d := dd) (e := ee) (n := j) (m := m)).low (E := 10000) (fun i hi k hk => (HQ.out.cb i hi k hk).1) (fun i hi => (HQ.out.db i hi).1) HQ.out.eb (by omega) hr
              have h2 := (best_pot (c := cc) (d := dd) (e := ee) (n := j) (m := m)).feas.d r hr
              have := HQ.out.db r hr
              omega)
            have HBV := hide (show bvs cc dd ee j m = (List.range m).map (fun y => mnl noU (fun i => cc i y - buF cc dd ee j m i) (ee y) j) from rfl)
            generalize buF cc dd ee j m = bu at *
            clear HUE HRV HROW HRL
            go_wp2
            go_loopw [17] (fun i wr => ∃ (t : Nat) (A3 : Option Addr) (c3 : Nat) (vs : List Int), t ≤ m ∧ i = .int .i64 t ∧ vs.length = t ∧ vs = (List.range t).map (fun y => mnl noU (fun i => cc i y - bu i) (ee y) j) ∧ Run (fun _ => False) w (star (BestO g6 ga K A1 A2 A3 c1 c2 c3 ps us vs) X) wr) (fun i _ => m - (intOf i).toNat)
            case atStart => exact ⟨0, none, 0, [], Nat.zero_le _, rfl, rfl, rfl, HRB.out⟩
            case round =>
              obtain ⟨t, A3, c3, vs, ht, rfl, hvl, hve, hR⟩ := hrel
              have HRC := hide hR
              have HVL := hide hvl
              have HVE := hide hve
              clear hR hvl hve HRB
              by_cases htm : t < m
              case pos =>
                obtain ⟨be, oe, rfl, hce⟩ := HQ.out.E t htm
                have heb := HQ.out.eb t htm
                have c0 := hce _ HRC.out.bel
                clear hce
                go_wp2
                go_loopw [18, 19] (fun v i wr => ∃ r : Nat, r ≤ j ∧ v = .int .i64 (mnl noU (fun i => cc i t - bu i) (ee t) r) ∧ i = .int .i64 r ∧ Run (fun _ => False) w (star (BestO g6 ga K A1 A2 A3 c1 c2 c3 ps us vs) X) wr) (fun _ i _ => j - (intOf i).toNat)
                case atStart => exact ⟨0, Nat.zero_le _, rfl, rfl, HRC.out⟩
                case round =>
                  obtain ⟨r, hr, rfl, rfl, hR⟩ := hrel
                  have HRE := hide hR
                  clear HRC hR c0
                  have hi0 := mnl_init (U := noU) (f := fun i => cc i t - bu i) (a := ee t) (m := r)
                  by_cases hrj : r < j
                  case pos =>
                    have HRD := hide (HRE.out.drew (star_ok best_ok HXO.out))
                    obtain ⟨ba, oa, RR, cR, rfl, hca, hrow⟩ := HQ.out.R r hrj
                    obtain ⟨b', o', rfl, hcc⟩ := hrow t htm
                    have hcb := HQ.out.cb r hrj t htm
                    have k1 := hca _ HRD.out.bel
                    have k2 := hcc _ HRD.out.bel
                    obtain ⟨b0, b1, b2, b3, bf⟩ := best_cells HRD.out
                    obtain ⟨FU, hU⟩ := (best_p2 HRD.out).fst
                    obtain ⟨bu', ou', rfl, hcu⟩ := vec_F (vec_vec hU) HUL.out hrj
                    have k3 := hcu _ (Below.refl _ _)
                    rw [HUV.out r hrj] at k3
                    have hub := HUB.out r hrj
                    have hru : r < us.length := by rw [HUL.out]; exact hrj
                    have hi2 : -10000 ≤ mnl noU (fun i => cc i t - bu i) (ee t) r := by
                      rcases mnl_is (U := noU) (f := fun i => cc i t - bu i) (a := ee t) (m := r) with h | ⟨q, h1, _, h2⟩
                      · omega
                      · have := HUB.out q (by omega); have := HQ.out.cb q (by omega) t htm; omega
                    have HS := hide (show mnl noU (fun i => cc i t - bu i) (ee t) (r + 1) = min (mnl noU (fun i => cc i t - bu i) (ee t) r) (cc r t - bu r) from rfl)
                    generalize mnl noU (fun i => cc i t - bu i) (ee t) r = q at *
                    generalize bu r = ur at *
                    generalize cc r t = z at *
                    have HMIN := hide (show min q (z - ur) = if z - ur < q then z - ur else q by omega)
                    have t1 : IntKind.i64.wrap (z - ur) = z - ur := IntWalk.i64_in _ (by omega)
                    clear hca hrow hcc b0 b1 b3 bf hU hcu HRE hi0
                    go_wp2_with fail
                    refine wp_region_lex (fun w' => w' = wr.drew) (by kernel_rfl) (by kernel_rfl) rfl ?_
                    generalize wr.drew = wd at *
                    (repeat (first | (refine lex_skip (by rfl) ?_; try simp only [Act.put, List.setIfInBounds_toArray, List.set_cons_zero, List.set_cons_succ]) | (refine lex_read (v := ?_) (by rfl) ?_ ?_; rotate_left; (focus (intro w' hS'; go_simp; (try with_reducible rfl); done)); try simp only [Act.put, List.setIfInBounds_toArray, List.set_cons_zero, List.set_cons_succ])))
                    refine lex_nil ?_
                    clear t1 k1 k2 k3 b2
                    go_wp2
                    go_roundw
                    case rel => exact ⟨r + 1, by omega, by rw [HS.out, ← HMIN.out]; try rfl, by go_num, HRD.out⟩
                    case measure => simp [intOf]; omega
                  case neg =>
                    obtain rfl : r = j := by omega
                    obtain ⟨b0, b1, b2, b3, bf⟩ := best_cells HRE.out
                    have bf3 := bf 3
                    generalize hq9 : mnl noU (fun i => cc i t - bu i) (ee t) r = q at *
                    have HQ9 := hide hq9
                    generalize wr = wx at *
                    clear b0 b1 b2 bf hrj hi0 hq9
                    go_wp2_with (at_builtin; refine held ?_)
                    obtain ⟨F7, hR7, -, bk7⟩ := (best_p3 (HRE.out.below (star_ok best_ok HXO.out) ((Below.refl _ _).alloc (Nat.le_refl _) (.cells #[.int .i64 q] 3)))).take vec_ok (oks5 vec_ok vec_ok cell_ok cell_ok HXO.out)
                    refine Held.mk (wpList_app rfl (.tmp 178) (.tmp 180) rfl intsOk _ 0 (v := .slice A3 vs.length c3) (n := vs.length) (xs := ints vs) rfl hR7.1 (A := some ⟨wx.heap.size, 0, none⟩) (m := 1) (c := 1) (news := [.int .i64 q]) rfl (src_lit wx q) (by rw [HVL.out]; omega) (by decide) (Nat.zero_le _) ?_)
                    intro v8 w8 ho8 hg8 hv8
                    have S8 := bk7 _ _ (row_app hR7 ho8 hg8 hv8)
                    obtain ⟨A8, c8, rfl⟩ := own_form ho8
                    obtain ⟨FC, hC⟩ := (S8.perm (by ac_rfl : _ = star (CellO ga #[.int .i64 K, .slice A1 ps.length c1, .slice A2 us.length c2, .slice A3 vs.length c3] 27) (star (RowO 3 1 (.slice A8 (vs.length + 1) c8) (vs.length + 1) (ints vs ++ [.int .i64 q])) (star (VecO A1 c1 ps) (star (VecO A2 c2 us) (star (CellO g6 zeroA 27) X)))))).fst
                    have x3 := cell_at hC (i := 3) rfl
                    have f3 := cell_free hC 3
                    have S9 := hide (best_vs HXO.out S8)
                    clear ho8 hg8 hv8 bk7 hR7 HRE S8 hC b3 bf3
                    go_wp2
                    go_roundw
                    case rel => exact ⟨t + 1, A8, c8, vs ++ [q], by omega, by go_num, by rw [List.length_append, HVL.out]; rfl, by rw [List.range_succ, List.map_append, ← HVE.out, ← HQ9.out]; rfl, S9.out⟩
                    case measure => simp [intOf]; omega
              case neg =>
                obtain rfl : t = m := by omega
                obtain ⟨b0, b1, b2, b3, -⟩ := best_cells HRC.out
                obtain ⟨z0, z1, z2, z3, zf⟩ := best_res HRC.out
                have f0 := zf 0
                have f1 := zf 1
                have f2 := zf 2
                have f3 := zf 3
                have HRF := hide (best_end HXO.out HRC.out)
                clear zf
                go_wp2
                refine bodyPost_ret_by (res_cell_tmp rfl _ _ g6 27 #[.int .i64 K, .slice A1 ps.length c1, .slice A2 us.length c2, .slice A3 vs.length c3] (0, 0) rfl ?_ Try.underlying27 (by kernel_rfl)) rfl ?_
                · obtain ⟨F, hC⟩ := HRF.out.fst
                  exact hC.1
                · refine HRET.out _ _ (by have := HRF.out.bel; rwa [HG6.out] at this) ?_
                  rw [HBM.out, ← HKK.out, HPS.out, ← HUS.out, HBV.out, ← HVE.out]
                  exact best_asg HRF.out
end Go.Proofs.Ytalbhghigdanlaa
namespace Go.Proofs.Ytalbhghigdanlaa
open Go.RowKit Go.CH Go.CH.Asg
open Go.ChangeMaps (setBlock)
/-- A list of n numbers at A. -/
structure VecN (w : World) (A : Option Addr) (l : List Int) (n : Nat) : Prop where
  v : Vec w A l
  n : l.length = n
theorem VecN.below {w w' : World} {A : Option Addr} {l : List Int} {n : Nat} (h : VecN w A l n) (hb : Below w.heap.size w w') : VecN w' A l n := ⟨h.v.below hb, h.n⟩
/-- A problem, as a law is given it. -/
structure PX (w : World) (A B G : Option Addr) (C : List (List Int)) (D E : List Int) (nc n m cd : Nat) : Prop where
  pm : ∃ V, Mat w A C V
  pl : C.length ≤ maxLen
  pd : Vec w B D
  pe : Vec w G E
  cap : D.length ≤ cd
  hc : C.length = nc
  hd : D.length = n
  he : E.length = m
/-- The answers of Best at a valid problem. -/
def bK (C : List (List Int)) (D E : List Int) : Int := bcost (cF C) (lF D) (lF E) D.length E.length
def bP (C : List (List Int)) (D E : List Int) : List Int := bps (cF C) (lF D) (lF E) D.length E.length
def bU (C : List (List Int)) (D E : List Int) : List Int := bus (cF C) (lF D) (lF E) D.length E.length
def bV (C : List (List Int)) (D E : List Int) : List Int := bvs (cF C) (lF D) (lF E) D.length E.length
section
variable {w w' : World} {A B G UA WA LA : Option Addr} {C : List (List Int)} {D E U W L : List Int} {nc n m c d e u v cl nu nv nl : Nat}
theorem bP_len : (bP C D E).length = D.length := gr_len _ _
theorem bU_len : (bU C D E).length = D.length := by unfold bU bus; simp
theorem bV_len : (bV C D E).length = E.length := by unfold bV bvs; simp
theorem PX.below (h : PX w A B G C D E nc n m d) (hb : Below w.heap.size w w') : PX w' A B G C D E nc n m d := by
  obtain ⟨⟨V, h1⟩, h2, h3, h4, h5, h6, h7, h8⟩ := h
  exact ⟨⟨V, h1.below hb⟩, h2, h3.below hb, h4.below hb, h5, h6, h7, h8⟩
theorem PX.few (h : PX w A B G C D E nc n m d) : Calls Try.prog 11 #[.slice A nc c, .slice B n d, .slice G m e] w (Quiet w (.bool (Go.Proofs.Ytalbhghigdanlaa.few C D E))) := by
  obtain ⟨⟨V, h1⟩, h2, h3, h4, h5, rfl, rfl, rfl⟩ := h
  exact few_any h1 h2
/-- What Best gives back. -/
def BestA (w : World) (k er : Int) (ps us vs : List Int) (n1 n2 n3 : Nat) (e : Ending) (w' : World) : Prop :=
  ∃ A1 A2 A3 c1 c2 c3, e = .returned (.tuple #[.agg #[.int .i64 k, .slice A1 n1 c1, .slice A2 n2 c2, .slice A3 n3 c3], .int .i64 er]) ∧ Below w.heap.size w w' ∧ VecN w' A1 ps n1 ∧ VecN w' A2 us n2 ∧ VecN w' A3 vs n3
theorem bestA_no (hv : vld C D E = false) {en : Ending} (h : BestRet w C D E en w') : BestA w 0 1 [] [] [] 0 0 0 en w' := by
  obtain ⟨v, rfl, hb, ha⟩ := h
  rw [hv] at ha ⊢
  obtain ⟨A1, A2, A3, c1, c2, c3, rfl, h1, h2, h3⟩ := ha
  exact ⟨A1, A2, A3, c1, c2, c3, rfl, hb, ⟨h1, rfl⟩, ⟨h2, rfl⟩, ⟨h3, rfl⟩⟩
theorem bestA_yes (hv : vld C D E = true) (hn : D.length = n) (hm : E.length = m) {en : Ending} (h : BestRet w C D E en w') : BestA w (bK C D E) 0 (bP C D E) (bU C D E) (bV C D E) n n m en w' := by
  obtain ⟨v, rfl, hb, ha⟩ := h
  rw [hv] at ha ⊢
  obtain ⟨A1, A2, A3, c1, c2, c3, rfl, h1, h2, h3⟩ := ha
  have e1 : (bP C D E).length = n := by rw [bP_len, hn]
  have e2 : (bU C D E).length = n := by rw [bU_len, hn]
  have e3 : (bV C D E).length = m := by rw [bV_len, hm]
  have h1' : Vec w' A1 (bP C D E) := h1
  have h2' : Vec w' A2 (bU C D E) := h2
  have h3' : Vec w' A3 (bV C D E) := h3
  refine ⟨A1, A2, A3, c1, c2, c3, ?_, hb, ⟨h1', e1⟩, ⟨h2', e2⟩, ⟨h3', e3⟩⟩
  rw [← e1, ← e3]
  have : (bU C D E).length = (bP C D E).length := by rw [e1, e2]
  show Ending.returned (.tuple #[.agg #[.int .i64 (bK C D E), .slice A1 (bP C D E).length c1, .slice A2 (bU C D E).length c2, .slice A3 (bV C D E).length c3], .int .i64 0]) = _
  rw [this]
theorem PX.best_no (h : PX w A B G C D E nc n m d) (hv : vld C D E = false) : Calls Try.prog 12 #[.slice A nc c, .slice B n d, .slice G m e] w (BestA w 0 1 [] [] [] 0 0 0) := by
  obtain ⟨⟨V, h1⟩, h2, h3, h4, h5, rfl, rfl, rfl⟩ := h
  exact (best_any h1 h2 h3 h4 h5).mono fun _ _ => bestA_no hv
theorem PX.best (h : PX w A B G C D E nc n m d) (hv : vld C D E = true) : Calls Try.prog 12 #[.slice A nc c, .slice B n d, .slice G m e] w (BestA w (bK C D E) 0 (bP C D E) (bU C D E) (bV C D E) n n m) := by
  obtain ⟨⟨V, h1⟩, h2, h3, h4, h5, rfl, rfl, rfl⟩ := h
  exact (best_any h1 h2 h3 h4 h5).mono fun _ _ => bestA_yes hv rfl rfl
theorem PX.rbest_no (h : PX w A B G C D E nc n m d) (hv : vld C D E = false) : Calls Try.prog 18 #[.slice A nc c, .slice B n d, .slice G m e] w (BestA w 0 1 [] [] [] 0 0 0) := by
  obtain ⟨⟨V, h1⟩, h2, h3, h4, h5, rfl, rfl, rfl⟩ := h
  exact (rbest_any h1 h3 h4).mono fun _ _ => bestA_no hv
theorem PX.rbest (h : PX w A B G C D E nc n m d) (hv : vld C D E = true) : Calls Try.prog 18 #[.slice A nc c, .slice B n d, .slice G m e] w (BestA w (bK C D E) 0 (bP C D E) (bU C D E) (bV C D E) n n m) := by
  obtain ⟨⟨V, h1⟩, h2, h3, h4, h5, rfl, rfl, rfl⟩ := h
  exact (rbest_any h1 h3 h4).mono fun _ _ => bestA_yes hv rfl rfl
/-- What Ordered gives back. -/
def OrdA (w : World) (k er : Int) (ps : List Int) (n1 : Nat) (e : Ending) (w' : World) : Prop :=
  ∃ A1 c1, e = .returned (.tuple #[.slice A1 n1 c1, .int .i64 k, .int .i64 er]) ∧ Below w.heap.size w w' ∧ VecN w' A1 ps n1
theorem ordA_no (hv : vld C D E = false) {en : Ending} (h : OrdRet w C D E en w') : OrdA w 0 1 [] 0 en w' := by
  obtain ⟨v, rfl, hb, A1, c1, rfl, h1⟩ := h
  have e1 : ordL C D E = [] := by unfold ordL; rw [hv]; rfl
  have e2 : ordK C D E = 0 := by unfold ordK; rw [hv]; rfl
  have e3 : errV C D E = 1 := by unfold errV; rw [hv]; rfl
  rw [e1] at h1 ⊢
  rw [e2, e3]
  exact ⟨A1, c1, rfl, hb, h1, rfl⟩
theorem ordL_len (hv : vld C D E = true) : (ordL C D E).length = D.length := by unfold ordL; rw [hv]; exact gro_len _ _
theorem ordA_yes (hv : vld C D E = true) (hn : D.length = n) {en : Ending} (h : OrdRet w C D E en w') : OrdA w (ordK C D E) 0 (ordL C D E) n en w' := by
  obtain ⟨v, rfl, hb, A1, c1, rfl, h1⟩ := h
  have e1 : (ordL C D E).length = n := by rw [ordL_len hv, hn]
  have e3 : errV C D E = 0 := by unfold errV; rw [hv]; rfl
  rw [e1, e3]
  exact ⟨A1, c1, rfl, hb, h1, e1⟩
theorem PX.ord_no (h : PX w A B G C D E nc n m d) (hv : vld C D E = false) : Calls Try.prog 17 #[.slice A nc c, .slice B n d, .slice G m e] w (OrdA w 0 1 [] 0) := by
  obtain ⟨⟨V, h1⟩, h2, h3, h4, h5, rfl, rfl, rfl⟩ := h
  exact (ordered_any h1 h2 h3 h4).mono fun _ _ => ordA_no hv
theorem PX.ord (h : PX w A B G C D E nc n m d) (hv : vld C D E = true) : Calls Try.prog 17 #[.slice A nc c, .slice B n d, .slice G m e] w (OrdA w (ordK C D E) 0 (ordL C D E) n) := by
  obtain ⟨⟨V, h1⟩, h2, h3, h4, h5, rfl, rfl, rfl⟩ := h
  exact (ordered_any h1 h2 h3 h4).mono fun _ _ => ordA_yes hv rfl
theorem PX.rord_no (h : PX w A B G C D E nc n m d) (hv : vld C D E = false) : Calls Try.prog 19 #[.slice A nc c, .slice B n d, .slice G m e] w (OrdA w 0 1 [] 0) := by
  obtain ⟨⟨V, h1⟩, h2, h3, h4, h5, rfl, rfl, rfl⟩ := h
  exact (rordered_any h1 h3 h4).mono fun _ _ => ordA_no hv
theorem PX.rord (h : PX w A B G C D E nc n m d) (hv : vld C D E = true) : Calls Try.prog 19 #[.slice A nc c, .slice B n d, .slice G m e] w (OrdA w (ordK C D E) 0 (ordL C D E) n) := by
  obtain ⟨⟨V, h1⟩, h2, h3, h4, h5, rfl, rfl, rfl⟩ := h
  exact (rordered_any h1 h3 h4).mono fun _ _ => ordA_yes hv rfl
/-- What Grid gives back. -/
def GriA (w : World) (er : Int) (ps : List Int) (n1 : Nat) (e : Ending) (w' : World) : Prop :=
  ∃ A1 c1, e = .returned (.tuple #[.slice A1 n1 c1, .int .i64 er]) ∧ Below w.heap.size w w' ∧ VecN w' A1 ps n1
theorem griA {en : Ending} (h : GriRet w C D E en w') (hn : (griL C D E).length = n) : GriA w (errV C D E) (griL C D E) n en w' := by
  obtain ⟨v, rfl, hb, A1, c1, rfl, h1⟩ := h
  subst hn
  exact ⟨A1, c1, rfl, hb, h1, rfl⟩
theorem griL_len (hv : vld C D E = true) : (griL C D E).length = (D.length + 1) * (E.length + 1) := by unfold griL; rw [hv]; exact gri_len
theorem PX.gri (h : PX w A B G C D E nc n m d) (hl : (griL C D E).length = nl) : Calls Try.prog 20 #[.slice A nc c, .slice B n d, .slice G m e] w (GriA w (errV C D E) (griL C D E) nl) := by
  obtain ⟨⟨V, h1⟩, h2, h3, h4, h5, rfl, rfl, rfl⟩ := h
  exact (gridf_any h1 h2 h3 h4).mono fun _ _ h => griA h hl
theorem PX.rgri (h : PX w A B G C D E nc n m d) (hl : (griL C D E).length = nl) : Calls Try.prog 21 #[.slice A nc c, .slice B n d, .slice G m e] w (GriA w (errV C D E) (griL C D E) nl) := by
  obtain ⟨⟨V, h1⟩, h2, h3, h4, h5, rfl, rfl, rfl⟩ := h
  exact (rgrid_any h1 h3 h4).mono fun _ _ h => griA h hl
theorem PX.rvalid (h : PX w A B G C D E nc n m d) : Calls Try.prog 13 #[.slice A nc c, .slice B n d, .slice G m e] w (Quiet w (.bool (vld C D E))) := by
  obtain ⟨⟨V, h1⟩, h2, h3, h4, h5, rfl, rfl, rfl⟩ := h
  exact rvalid_any h1 h3 h4
theorem PX.cost (h : PX w A B G C D E nc n m d) (hv : vld C D E = true) (hU : VecN w UA U nu) (hl : nu ≤ 1000000) : Calls Try.prog 14 #[.slice A nc c, .slice B n d, .slice G m e, .slice UA nu u] w (BelowIB w (costR C D E U)) := by
  obtain ⟨⟨V, h1⟩, h2, h3, h4, h5, rfl, rfl, rfl⟩ := h
  obtain ⟨hU, rfl⟩ := hU
  exact cost_any (prb_of hv h1 h3 h4) hU hl
theorem PX.bound (h : PX w A B G C D E nc n m d) (hU : VecN w UA U nu) (hW : VecN w WA W nv) : Calls Try.prog 16 #[.slice A nc c, .slice B n d, .slice G m e, .slice UA nu u, .slice WA nv v] w (BelowIB w (bnd C D E U W)) := by
  obtain ⟨⟨V, h1⟩, h2, h3, h4, h5, rfl, rfl, rfl⟩ := h
  obtain ⟨hU, rfl⟩ := hU
  obtain ⟨hW, rfl⟩ := hW
  exact bound_any h1 h2 h3 h4 hU hW
theorem PX.rbound (h : PX w A B G C D E nc n m d) (hU : VecN w UA U nu) (hW : VecN w WA W nv) : Calls Try.prog 24 #[.slice A nc c, .slice B n d, .slice G m e, .slice UA nu u, .slice WA nv v] w (BelowIB w (bnd C D E U W)) := by
  obtain ⟨⟨V, h1⟩, h2, h3, h4, h5, rfl, rfl, rfl⟩ := h
  obtain ⟨hU, rfl⟩ := hU
  obtain ⟨hW, rfl⟩ := hW
  exact rbound_any h1 h3 h4 hU hW
theorem PX.gbound (h : PX w A B G C D E nc n m d) (hL : VecN w LA L nl) (hLl : nl ≤ 1000000) (hD : n ≤ 1000000) (hE : m ≤ 1000000) : Calls Try.prog 25 #[.slice A nc c, .slice B n d, .slice G m e, .slice LA nl cl] w (BelowIB w (gbnd C D E L)) := by
  obtain ⟨⟨V, h1⟩, h2, h3, h4, h5, rfl, rfl, rfl⟩ := h
  obtain ⟨hL, rfl⟩ := hL
  exact gridbound_any h1 h2 h3 h4 hL hLl hE hD
theorem PX.rgbound (h : PX w A B G C D E nc n m d) (hL : VecN w LA L nl) (hLl : nl ≤ 1000000) : Calls Try.prog 26 #[.slice A nc c, .slice B n d, .slice G m e, .slice LA nl cl] w (BelowIB w (gbnd C D E L)) := by
  obtain ⟨⟨V, h1⟩, h2, h3, h4, h5, rfl, rfl, rfl⟩ := h
  obtain ⟨hL, rfl⟩ := hL
  exact rgridbound_any h1 h3 h4 hL hLl
theorem beforeN (hU : VecN w UA U nu) (hW : VecN w WA W nv) (hl : nu ≤ 1000000) : Calls Try.prog 15 #[.slice UA nu u, .slice WA nv v] w (BelowRet w (.bool (before U W))) := by
  obtain ⟨hU, rfl⟩ := hU
  obtain ⟨hW, rfl⟩ := hW
  exact before_any hU hW hl
theorem intsN (hU : VecN w UA U nu) (hW : VecN w WA W nv) (hl : nu ≤ 1000000) : Calls Try.prog 23 #[.slice UA nu u, .slice WA nv v] w (BelowRet w (.bool (decide (U = W)))) := by
  obtain ⟨hU, rfl⟩ := hU
  obtain ⟨hW, rfl⟩ := hW
  exact ints_any hU hW hl
theorem keepsN (hU : VecN w UA U nu) (hl : nu ≤ 1000000) (m : Nat) : Calls Try.prog 27 #[.slice UA nu u, .int .i64 m] w (Quiet w (.bool (keeps m (-1) U))) := by
  obtain ⟨hU, rfl⟩ := hU
  exact keeps_any hU hl m
theorem PX.few_len (h : PX w A B G C D E nc n m d) (hf : Go.Proofs.Ytalbhghigdanlaa.few C D E = true) : nc ≤ 20 ∧ n ≤ 20 ∧ m ≤ 20 := by
  obtain ⟨-, -, -, -, -, rfl, rfl, rfl⟩ := h
  unfold Go.Proofs.Ytalbhghigdanlaa.few at hf
  simp at hf
  exact ⟨hf.2.1.1, hf.2.1.2, hf.2.2⟩
/-- An assignment lies in a block of its own. -/
theorem asg_mem (w : World) (k : Int) (A1 A2 A3 : Option Addr) (n1 n2 n3 c1 c2 c3 : Nat) (W : World) (hb : Below (w.alloc (.cells #[.int .i64 k, .slice A1 n1 c1, .slice A2 n2 c2, .slice A3 n3 c3] 27)).heap.size (w.alloc (.cells #[.int .i64 k, .slice A1 n1 c1, .slice A2 n2 c2, .slice A3 n3 c3] 27)) W) :
    W.cell? ⟨w.heap.size, 0, none⟩ = some (.int .i64 k) ∧ W.cell? ⟨w.heap.size, 1, none⟩ = some (.slice A1 n1 c1) ∧ W.cell? ⟨w.heap.size, 2, none⟩ = some (.slice A2 n2 c2) ∧ W.cell? ⟨w.heap.size, 3, none⟩ = some (.slice A3 n3 c3) := by
  have hn := blk_new w _ W hb
  exact ⟨blk_cell (i := 0) hn rfl, blk_cell (i := 1) hn rfl, blk_cell (i := 2) hn rfl, blk_cell (i := 3) hn rfl⟩
/-- The first of the cheapest has the least cost. -/
theorem costR_bP : costR C D E (bP C D E) = (bK C D E, true) := by
  unfold costR
  rw [if_pos bP_len]
  have := gr_cs (c := cF C) (d := lF D) (e := lF E) (n := D.length) (m := E.length) (Nat.le_refl _) noU
  rw [Nat.sub_self] at this
  unfold bP bps
  rw [this]; rfl
theorem costR_is {ps : List Int} {v : Int} (h : costR C D E ps = (v, true)) : ps.length = D.length ∧ cs (cF C) (lF D) (lF E) E.length 0 noU ps = some v := by
  unfold costR at h
  by_cases hl : ps.length = D.length
  · rw [if_pos hl] at h
    refine ⟨hl, ?_⟩
    cases hc : cs (cF C) (lF D) (lF E) E.length 0 noU ps with
    | none => rw [hc] at h; simp at h
    | some x => rw [hc] at h; simp at h; rw [h]
  · rw [if_neg hl] at h; simp at h
theorem cheap {ps : List Int} {v : Int} (h : costR C D E ps = (v, true)) : bK C D E ≤ v ∧ (v = bK C D E → before ps (bP C D E) = false) := by
  obtain ⟨hl, hc⟩ := costR_is h
  have hc2 : cs (cF C) (lF D) (lF E) E.length (D.length - D.length) noU ps = some v := by rw [Nat.sub_self]; exact hc
  refine ⟨cs_low (Nat.le_refl _) hl hc2, fun hv => ?_⟩
  rw [hv] at hc2
  exact gr_first (Nat.le_refl _) hl hc2
end
end Go.Proofs.Ytalbhghigdanlaa
