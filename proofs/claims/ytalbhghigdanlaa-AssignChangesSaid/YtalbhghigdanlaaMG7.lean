/-
  Assign: Bound of the reference.
  Assign: rows of flags and of numbers that a call makes; Cost of the reference.
  Assign: least of the reference, which calls itself.
  Assign: sets of columns as bits; Least of the reference; a made table.
-/
import Derived.Test.YtalbhghigdanlaaMG6
set_option linter.unusedSimpArgs false
set_option linter.unusedVariables false
namespace Go.Proofs.Ytalbhghigdanlaa
open Go.RowKit Go.CH Go.CH.Asg
open Go.ChangeMaps (setBlock)

set_option maxHeartbeats 6400000 in
theorem rbound_any {w : World} {A B G UA WA : Option Addr} {V : List (Option Addr × Nat)} {c d e u v : Nat} {C : List (List Int)} {D E U W : List Int} (h : Mat w A C V) (hD : Vec w B D) (hE : Vec w G E) (hU : Vec w UA U) (hW : Vec w WA W) :
    Calls Try.prog 24 #[.slice A C.length c, .slice B D.length d, .slice G E.length e, .slice UA U.length u, .slice WA W.length v] w (BelowIB w (bnd C D E U W)) := by
  have KV := hide (rvalid_any (c := c) (d := d) (e := e) h hD hE)
  have HP := hide (fun hv => prb_of (w := w) (C := C) (D := D) (E := E) hv h hD hE)
  have HU := hide hU
  have HW := hide hW
  have KU := hide (fun (w' : World) (hb : Below w.heap.size w w') hl => rwithin_any (c := u) (hU.below hb) hl (-1000000) 1000000)
  have KW := hide (fun (w' : World) (hb : Below w.heap.size w w') hl => rwithin_any (c := v) (hW.below hb) hl (-1000000) 1000000)
  have HB0 := hide (show bnd0 C D E U W = (vld C D E && decide (U.length = D.length) && decide (W.length = E.length) && wi U (-1000000) 1000000 && wi W (-1000000) 1000000) from rfl)
  have H6 := hide (fun hv => vld_iff (C := C) (D := D) (E := E) hv)
  clear h hD hE hU hW
  obtain ⟨n, hn⟩ : ∃ n, n = D.length := ⟨_, rfl⟩
  obtain ⟨m, hm⟩ : ∃ n, n = E.length := ⟨_, rfl⟩
  obtain ⟨nc, hnc⟩ : ∃ n, n = C.length := ⟨_, rfl⟩
  obtain ⟨nu, hnu⟩ : ∃ n, n = U.length := ⟨_, rfl⟩
  obtain ⟨nw, hnw⟩ : ∃ n, n = W.length := ⟨_, rfl⟩
  have HN := hide hn
  have HM := hide hm
  have HNC := hide hnc
  have HNU := hide hnu
  have HNW := hide hnw
  rw [← hn, ← hm] at HP
  rw [← hnu, ← hnw, ← hn, ← hm] at HB0
  rw [← hnu] at KU
  rw [← hnw] at KW
  rw [← hn, ← hm, ← hnc] at KV
  rw [← hn, ← hm, ← hnc, ← hnu, ← hnw]
  clear hn hm hnc hnu hnw
  cases hv : vld C D E with
  | false =>
    rw [hv] at KV HB0
    have HF := hide (bnd_no0 (C := C) (D := D) (E := E) (U := U) (W := W) (by rw [HB0.out]; rfl))
    clear hv HB0 HP HU HW KU KW H6
    go_enter Try.func24, Try.ntmps24
    go_wp2_with fail
    refine KV.out.mono ?_
    rintro e w1 ⟨rfl, rfl⟩
    clear KV
    go_wp2
    go_ret2
    exact bel_ib HF.out (Below.refl _ _)
  | true =>
    have HP1 := hide (HP.out hv)
    have hn6 := HP1.out.n6
    have hm6 := HP1.out.m6
    have hnc6 : nc = n := by rw [HNC.out]; exact HP1.out.hn
    subst hnc6
    rw [hv, Bool.true_and] at HB0
    rw [hv] at KV
    clear hv HP H6
    by_cases h1 : nu = nc
    case neg =>
      have HF := hide (bnd_no0 (C := C) (D := D) (E := E) (U := U) (W := W) (by rw [HB0.out, decide_eq_false h1]; rfl))
      clear HB0 KU KW HU HW HP1
      go_enter Try.func24, Try.ntmps24
      go_wp2_with fail
      refine KV.out.mono ?_
      rintro e w1 ⟨rfl, rfl⟩
      clear KV
      go_wp2
      go_ret2
      exact bel_ib HF.out (Below.refl _ _)
    rw [decide_eq_true h1, Bool.true_and] at HB0
    subst h1
    by_cases h2 : nw = m
    case neg =>
      have HF := hide (bnd_no0 (C := C) (D := D) (E := E) (U := U) (W := W) (by rw [HB0.out, decide_eq_false h2]; rfl))
      clear HB0 KU KW HU HW HP1
      go_enter Try.func24, Try.ntmps24
      go_wp2_with fail
      refine KV.out.mono ?_
      rintro e w1 ⟨rfl, rfl⟩
      clear KV
      go_wp2
      go_ret2
      exact bel_ib HF.out (Below.refl _ _)
    rw [decide_eq_true h2, Bool.true_and] at HB0
    subst h2
    have KU2 := hide (fun w' hb => KU.out w' hb (by omega))
    have KW2 := hide (fun w' hb => KW.out w' hb (by omega))
    clear KU KW
    cases h3 : wi U (-1000000) 1000000 with
    | false =>
      rw [h3] at KU2 HB0
      have HF := hide (bnd_no0 (C := C) (D := D) (E := E) (U := U) (W := W) (by rw [HB0.out]; rfl))
      clear HB0 KW2 HU HW HP1 h3
      go_enter Try.func24, Try.ntmps24
      go_wp2_with fail
      refine KV.out.mono ?_
      rintro e w1 ⟨rfl, rfl⟩
      have KU3 := hide (KU2.out _ (Below.refl _ _))
      clear KV KU2
      go_wp2_with fail
      refine KU3.out.mono ?_
      rintro e w2 ⟨rfl, rfl⟩
      clear KU3
      go_wp2
      go_ret2
      exact bel_ib HF.out (Below.refl _ _)
    | true =>
      rw [h3, Bool.true_and] at HB0
      rw [h3] at KU2
      have HUB := hide (wi_F h3)
      rw [← HNU.out] at HUB
      clear h3
      cases h4 : wi W (-1000000) 1000000 with
      | false =>
        rw [h4] at KW2 HB0
        have HF := hide (bnd_no0 (C := C) (D := D) (E := E) (U := U) (W := W) (by rw [HB0.out]))
        clear HB0 HU HW HP1 h4
        go_enter Try.func24, Try.ntmps24
        go_wp2_with fail
        refine KV.out.mono ?_
        rintro e w1 ⟨rfl, rfl⟩
        have KU3 := hide (KU2.out _ (Below.refl _ _))
        clear KV KU2
        go_wp2_with fail
        refine KU3.out.mono ?_
        rintro e w2 ⟨rfl, rfl⟩
        have KW3 := hide (KW2.out _ (Below.refl _ _))
        clear KU3 KW2
        go_wp2_with fail
        refine KW3.out.mono ?_
        rintro e w3 ⟨rfl, rfl⟩
        clear KW3
        go_wp2
        go_ret2
        exact bel_ib HF.out (Below.refl _ _)
      | true =>
        rw [h4] at KW2 HB0
        have HWB := hide (wi_F h4)
        rw [← HNW.out] at HWB
        have HNo := hide (fun hf => bnd_noF (C := C) (D := D) (E := E) (U := U) (W := W) hf)
        have HYes := hide (fun hf => bnd_yes (C := C) (D := D) (E := E) (U := U) (W := W) HB0.out hf)
        have HFe := hide (show FeasL C D E U W = Feas (cF C) (lF D) (lF E) D.length E.length (lF U) (lF W) from rfl)
        rw [← HN.out, ← HM.out] at HYes HFe
        clear HB0 h4
        go_enter Try.func24, Try.ntmps24
        go_wp2_with fail
        refine KV.out.mono ?_
        rintro e w1 ⟨rfl, rfl⟩
        have KU3 := hide (KU2.out _ (Below.refl _ _))
        clear KV KU2
        go_wp2_with fail
        refine KU3.out.mono ?_
        rintro e w2 ⟨rfl, rfl⟩
        have KW3 := hide (KW2.out _ (Below.refl _ _))
        clear KU3 KW2
        go_wp2_with fail
        refine KW3.out.mono ?_
        rintro e w3 ⟨rfl, rfl⟩
        clear KW3
        go_wp2
        go_loopw [12, 13] (fun s i wr => ∃ k : Nat, k ≤ nu ∧ s = .int .i64 (sg k (lF U)) ∧ i = .int .i64 k ∧ GoodU C D U W nw k ∧ Below w.heap.size w wr) (fun _ i _ => nu - (intOf i).toNat)
        case atStart => exact ⟨0, Nat.zero_le _, rfl, rfl, fun i hi => absurd hi (Nat.not_lt_zero i), Below.refl _ _⟩
        case round =>
          obtain ⟨k, hk, rfl, rfl, hg, hb⟩ := hrel
          have HG := hide hg
          have HBL := hide hb
          have HBD := hide (below_drew hb)
          have hsb := sg_bnd (n := k) (fun i hi => HUB.out i (by omega))
          clear hg hb
          by_cases hlt : k < nu
          · obtain ⟨bu, ou, rfl, hcu⟩ := vec_F HU.out HNU.out.symm hlt
            have c0 := hcu _ HBD.out
            have HCU := hide hcu
            have hub := HUB.out k (by omega)
            obtain ⟨bd, od, rfl, hcd, hdb⟩ := HP1.out.atD hlt
            have c4 := hcd _ HBD.out
            have HS := hide (sg_succ (n := k) (f := lF U))
            have HZ := hide (show ¬ lF U k ≤ lF D k → ¬ FeasL C D E U W from fun h hf => by rw [HFe.out] at hf; exact h (hf.d k hlt))
            have HXE := hide (show ∃ x, x = lF U k from ⟨_, rfl⟩)
            obtain ⟨x, hx⟩ := HXE.out
            have HX := hide hx
            rw [← hx] at c0 hub HS HZ HCU
            generalize hze : lF D k = z at *
            have HZE := hide hze
            clear hcd hcu hx hze HXE
            by_cases hle : z < x
            · have HR := hide (HNo.out (HZ.out (by omega)))
              clear HNo HZ HYes
              go_wp2_with fail
              refine wp_region_lex (fun w' => w' = wr.drew) (by kernel_rfl) (by kernel_rfl) rfl ?_
              generalize wr.drew = wd at *
              (repeat (first | (refine lex_skip (by rfl) ?_; try simp only [Act.put, List.setIfInBounds_toArray, List.set_cons_zero, List.set_cons_succ]) | (refine lex_read (v := ?_) (by rfl) ?_ ?_; rotate_left; (focus (intro w' hS'; go_simp; (try with_reducible rfl); done)); try simp only [Act.put, List.setIfInBounds_toArray, List.set_cons_zero, List.set_cons_succ])))
              refine lex_nil ?_
              go_wp2
              go_ret2
              exact bel_ib HR.out HBD.out
            · have HXZ := hide (show x ≤ z by omega)
              go_wp2_with fail
              refine wp_region_lex (fun w' => w' = wr.drew) (by kernel_rfl) (by kernel_rfl) rfl ?_
              generalize wr.drew = wd at *
              (repeat (first | (refine lex_skip (by rfl) ?_; try simp only [Act.put, List.setIfInBounds_toArray, List.set_cons_zero, List.set_cons_succ]) | (refine lex_read (v := ?_) (by rfl) ?_ ?_; rotate_left; (focus (intro w' hS'; go_simp; (try with_reducible rfl); done)); try simp only [Act.put, List.setIfInBounds_toArray, List.set_cons_zero, List.set_cons_succ])))
              refine lex_nil ?_
              clear c0 c4
              go_wp2
              go_loopw [14] (fun i wr => ∃ j : Nat, j ≤ nw ∧ i = .int .i64 j ∧ (∀ t, t < j → x + lF W t ≤ cF C k t) ∧ Below w.heap.size w wr) (fun i _ => nw - (intOf i).toNat)
              case atStart => exact ⟨0, Nat.zero_le _, rfl, fun t ht => absurd ht (Nat.not_lt_zero t), HBD.out⟩
              case round =>
                obtain ⟨j, hj, rfl, hgj, hb⟩ := hrel
                have HGJ := hide hgj
                have HB4 := hide hb
                have HB5 := hide (below_drew hb)
                clear hgj hb
                by_cases hjt : j < nw
                · obtain ⟨bw, ow, rfl, hcw⟩ := vec_F HW.out HNW.out.symm hjt
                  have c1 := hcw _ HB5.out
                  have hwb := HWB.out j (by omega)
                  obtain ⟨ba, oa, R, cR, rfl, hca, hrow⟩ := HP1.out.atR hlt
                  obtain ⟨b', o', rfl, hcc, hcb⟩ := hrow j hjt
                  have c2 := hca _ HB5.out
                  have c3 := hcc _ HB5.out
                  have c0 := HCU.out _ HB5.out
                  have HY := hide (show (∀ t, t < j + 1 → x + lF W t ≤ cF C k t) ↔ x + lF W j ≤ cF C k j from ⟨fun h => h j (by omega), fun h t ht => by
                    by_cases e : t = j
                    · subst e; exact h
                    · exact HGJ.out t (by omega)⟩)
                  have HZ2 := hide (show ¬ x + lF W j ≤ cF C k j → ¬ FeasL C D E U W from fun h hf => by rw [HFe.out] at hf; exact h (HX.out ▸ hf.c k hlt j hjt))
                  generalize lF W j = y at *
                  generalize cF C k j = z2 at *
                  clear hcw hca hrow hcc
                  have t1 : IntKind.i64.wrap (x + y) = x + y := IntWalk.i64_in _ (by omega)
                  by_cases hle2 : z2 < x + y
                  · have HR := hide (HNo.out (HZ2.out (by omega)))
                    clear HNo HZ2 HY HYes
                    go_wp2_with fail
                    refine wp_region_lex (fun w' => w' = wr.drew) (by kernel_rfl) (by kernel_rfl) rfl ?_
                    generalize wr.drew = we at *
                    (repeat (first | (refine lex_skip (by rfl) ?_; try simp only [Act.put, List.setIfInBounds_toArray, List.set_cons_zero, List.set_cons_succ]) | (refine lex_read (v := ?_) (by rfl) ?_ ?_; rotate_left; (focus (intro w' hS'; go_simp; (try with_reducible rfl); done)); try simp only [Act.put, List.setIfInBounds_toArray, List.set_cons_zero, List.set_cons_succ])))
                    refine lex_nil ?_
                    go_wp2
                    go_ret2
                    exact bel_ib HR.out HB5.out
                  · have HR := hide (HY.out.2 (by omega))
                    clear HZ2 HY
                    go_wp2_with fail
                    refine wp_region_lex (fun w' => w' = wr.drew) (by kernel_rfl) (by kernel_rfl) rfl ?_
                    generalize wr.drew = we at *
                    (repeat (first | (refine lex_skip (by rfl) ?_; try simp only [Act.put, List.setIfInBounds_toArray, List.set_cons_zero, List.set_cons_succ]) | (refine lex_read (v := ?_) (by rfl) ?_ ?_; rotate_left; (focus (intro w' hS'; go_simp; (try with_reducible rfl); done)); try simp only [Act.put, List.setIfInBounds_toArray, List.set_cons_zero, List.set_cons_succ])))
                    refine lex_nil ?_
                    go_wp2
                    go_roundw
                    case rel => exact ⟨j + 1, by omega, by go_num, HR.out, HB5.out⟩
                    case measure => simp [intOf]; omega
                · obtain rfl : j = nw := by omega
                  have c0 := HCU.out _ HB4.out
                  have HR2 := hide (goodU_succ HG.out (fun t ht => HX.out ▸ HGJ.out t ht) (by rw [← HX.out, HZE.out]; exact HXZ.out))
                  go_wp2
                  go_roundw
                  case rel => exact ⟨k + 1, by omega, by rw [HS.out]; try go_num, by go_num, HR2.out, HB4.out⟩
                  case measure => simp [intOf]; omega
          · obtain rfl : k = nu := by omega
            have HSU := hide hsb
            go_wp2
            go_loopw [12, 15] (fun s i wr => ∃ j : Nat, j ≤ nw ∧ s = .int .i64 (sg k (lF U) + sg j (lF W)) ∧ i = .int .i64 j ∧ (∀ t, t < j → lF W t ≤ lF E t) ∧ Below w.heap.size w wr) (fun _ i _ => nw - (intOf i).toNat)
            case atStart => exact ⟨0, Nat.zero_le _, by simp [sg], rfl, fun t ht => absurd ht (Nat.not_lt_zero t), HBL.out⟩
            case round =>
              obtain ⟨j, hj, rfl, rfl, hgj, hb⟩ := hrel
              have HGJ := hide hgj
              have HB4 := hide hb
              have HB5 := hide (below_drew hb)
              have hsb2 := sg_bnd (n := j) (fun i hi => HWB.out i (by omega))
              clear hgj hb
              by_cases hjt : j < nw
              · obtain ⟨bw, ow, rfl, hcw⟩ := vec_F HW.out HNW.out.symm hjt
                have c1 := hcw _ HB5.out
                have hwb := HWB.out j (by omega)
                obtain ⟨be, oe, rfl, hce, heb⟩ := HP1.out.atE hjt
                have c2 := hce _ HB5.out
                have HS := hide (sg_succ (n := j) (f := lF W))
                have HY := hide (show (∀ t, t < j + 1 → lF W t ≤ lF E t) ↔ lF W j ≤ lF E j from ⟨fun h => h j (by omega), fun h t ht => by
                  by_cases e : t = j
                  · subst e; exact h
                  · exact HGJ.out t (by omega)⟩)
                have HZ := hide (show ¬ lF W j ≤ lF E j → ¬ FeasL C D E U W from fun h hf => by rw [HFe.out] at hf; exact h (hf.e j hjt))
                generalize lF W j = y at *
                generalize lF E j = z at *
                generalize sg k (lF U) = sU at *
                generalize sg j (lF W) = sW at *
                clear hcw hce
                by_cases hle : z < y
                · have HR := hide (HNo.out (HZ.out (by omega)))
                  clear HNo HZ HY HYes
                  go_wp2_with fail
                  refine wp_region_lex (fun w' => w' = wr.drew) (by kernel_rfl) (by kernel_rfl) rfl ?_
                  generalize wr.drew = we at *
                  (repeat (first | (refine lex_skip (by rfl) ?_; try simp only [Act.put, List.setIfInBounds_toArray, List.set_cons_zero, List.set_cons_succ]) | (refine lex_read (v := ?_) (by rfl) ?_ ?_; rotate_left; (focus (intro w' hS'; go_simp; (try with_reducible rfl); done)); try simp only [Act.put, List.setIfInBounds_toArray, List.set_cons_zero, List.set_cons_succ])))
                  refine lex_nil ?_
                  go_wp2
                  go_ret2
                  exact bel_ib HR.out HB5.out
                · have HR := hide (HY.out.2 (by omega))
                  clear HZ HY
                  go_wp2_with fail
                  refine wp_region_lex (fun w' => w' = wr.drew) (by kernel_rfl) (by kernel_rfl) rfl ?_
                  generalize wr.drew = we at *
                  (repeat (first | (refine lex_skip (by rfl) ?_; try simp only [Act.put, List.setIfInBounds_toArray, List.set_cons_zero, List.set_cons_succ]) | (refine lex_read (v := ?_) (by rfl) ?_ ?_; rotate_left; (focus (intro w' hS'; go_simp; (try with_reducible rfl); done)); try simp only [Act.put, List.setIfInBounds_toArray, List.set_cons_zero, List.set_cons_succ])))
                  refine lex_nil ?_
                  go_wp2
                  go_roundw
                  case rel => exact ⟨j + 1, by omega, by rw [HS.out]; try go_num, by go_num, HR.out, HB5.out⟩
                  case measure => simp [intOf]; omega
              · obtain rfl : j = nw := by omega
                have HR := hide (HYes.out (by rw [HFe.out]; exact ⟨fun i hi => (HG.out i hi).1, fun i hi => (HG.out i hi).2, HGJ.out⟩))
                clear HYes HNo
                go_wp2
                go_ret2
                exact bel_ib HR.out HB4.out
end Go.Proofs.Ytalbhghigdanlaa
namespace Go.Proofs.Ytalbhghigdanlaa
open Go.RowKit Go.CH Go.CH.Asg
open Go.ChangeMaps (setBlock)

theorem toList_madeCells_one (z : Value) (n : Nat) : (madeCells #[z] n).toList = List.replicate n z := by
  refine List.ext_getElem? fun i => ?_
  simp only [madeCells, Array.toList_map, Array.toList_range, List.getElem?_map, List.getElem?_range]
  by_cases h : i < n
  · simp [h, Nat.mod_one]
  · simp [h]
theorem wp_make {P : Program} {o : Oper} {a : Act} {w : World} {K : Act → World → Prop} {Q : Exit → Act → World → Prop} {t e : TypeId} {z : Value} {bytes : Nat} (S : SliceOk P t e z 1 bytes) (hby : bytes ≤ 1000) (l : Operand) (hop : o.op = Op.makeSlice t l l) (n : Nat) (hn : n ≤ 1000) (hl : a.eval l = .int .i64 (n : Int)) (hz : z.cells = #[z])
    (hK : ∀ w', Post w (fun _ => False) (RowO e 1 (.slice (some ⟨w.heap.size, 0, none⟩) n n) n (List.replicate n z)) w' → K (a.put o.dst (.slice (some ⟨w.heap.size, 0, none⟩) n n)) w') : o.wp P a w K Q := by
  obtain ⟨ht, hi, hzz, hsz⟩ := S
  obtain ⟨i, hi, hi1, hi2, hi3⟩ := info_parts hi
  obtain ⟨w', hrun, r1, r2⟩ := run_make_full (P := P) w w.heap.size t e i z 1 ht hi hi1 hi2 .i64 .i64 n (by rw [hi3]; have := Nat.mul_le_mul hby hn; omega) (by simp only [maxLen]; omega) (Nat.le_refl _)
  have h2 := hK w' (row_new (by
    rw [Nat.mul_one, hz, toList_madeCells_one] at r1; exact r1) (Mod.below (F := fun _ => False) (Mod.of_grown r2 (fun k hk => by cases hk)) (fun _ _ h => h)))
  unfold Oper.wp
  simp [execOp, hop, hl, hrun, Result.andThen]
  exact h2
theorem wpList_make {P : Program} {ops : Array Oper} {rest : List Oper} {o : Oper} {a : Act} {w : World} {Q : Exit → Act → World → Prop} (hg : o.guard = none) {t e : TypeId} {z : Value} {bytes : Nat} (S : SliceOk P t e z 1 bytes) (hby : bytes ≤ 1000) (l : Operand) (hop : o.op = Op.makeSlice t l l) (n : Nat) (hn : n ≤ 1000) (hl : a.eval l = .int .i64 (n : Int)) (hz : z.cells = #[z])
    (hK : ∀ w', Post w (fun _ => False) (RowO e 1 (.slice (some ⟨w.heap.size, 0, none⟩) n n) n (List.replicate n z)) w' → wpList P ops Q rest (a.put o.dst (.slice (some ⟨w.heap.size, 0, none⟩) n n)) w') : wpList P ops Q (o :: rest) a w :=
  wpList_plain hg fun _ hK' => wp_make S hby l hop n hn hl hz fun w' h => hK' _ _ (hK w' h)
theorem boolsOk : SliceOk Try.prog 56 4 (.bool false) 1 1 := ⟨Try.underlying56, by kernel_rfl, rfl, by decide⟩
theorem intsOk : SliceOk Try.prog 23 3 (.int .i64 0) 1 8 := ⟨Try.underlying23, by kernel_rfl, rfl, by decide⟩
theorem rowsOk : SliceOk Try.prog 22 23 (.slice none 0 0) 1 24 := ⟨Try.underlying22, by kernel_rfl, rfl, by decide⟩
/-- The cells of n values. -/
def fv (n : Nat) (f : Nat → Value) : List Value := (List.range n).map f
theorem fv_len (n : Nat) (f : Nat → Value) : (fv n f).length = n := by simp [fv]
theorem fv_get {n : Nat} (f : Nat → Value) {i : Nat} (h : i < n) : (fv n f)[i]? = some (f i) := by simp [fv, h]
def upv (f : Nat → Value) (k : Nat) (v : Value) : Nat → Value := fun i => if i = k then v else f i
theorem fv_set (n : Nat) (f : Nat → Value) (k : Nat) (v : Value) : (fv n f).set k v = fv n (upv f k v) := by
  refine List.ext_getElem? fun i => ?_
  by_cases h : i < n
  · rw [fv_get _ h, List.getElem?_set]
    by_cases e : k = i
    · subst e; simp [fv_len, h, upv]
    · have : ¬ i = k := fun h => e h.symm
      simp [e, upv, this, fv_get _ h]
  · rw [List.getElem?_eq_none (by rw [List.length_set, fv_len]; omega), List.getElem?_eq_none (by rw [fv_len]; omega)]
theorem fv_congr {n : Nat} {f g : Nat → Value} (h : ∀ i, i < n → f i = g i) : fv n f = fv n g := List.map_congr_left fun i hi => h i (List.mem_range.1 hi)
theorem fv_const (n : Nat) (v : Value) : List.replicate n v = fv n (fun _ => v) := by simp [fv, List.map_const']
/-- A row of n flags at g. -/
def FlagO (g n : Nat) (U : Nat → Bool) : Own := RowO 4 1 (.slice (some ⟨g, 0, none⟩) n n) n (fv n fun i => .bool (U i))
theorem flag_ok {g n : Nat} {U : Nat → Bool} : (FlagO g n U).Ok := row_ok
theorem flag_set {w : World} {F : Nat → Prop} {g n : Nat} {U : Nat → Bool} (h : FlagO g n U w F) {k : Nat} (hk : k < n) (b : Bool) {T : Nat → Bool} (hT : ∀ i, i < n → T i = if i = k then b else U i) : Post w F (FlagO g n T) (w.setCell ⟨g, k, none⟩ (.bool b)) := by
  have := row_set h (i := k) (by omega) (.bool b)
  rw [fv_set] at this
  unfold FlagO
  rw [fv_congr (f := fun i => .bool (T i)) (g := upv (fun i => .bool (U i)) k (.bool b)) (fun i hi => by unfold upv; simp only [hT i hi]; split <;> rfl)]
  exact this
theorem flag_at {w : World} {F : Nat → Prop} {g n : Nat} {U : Nat → Bool} (h : FlagO g n U w F) {k : Nat} (hk : k < n) : w.cell? ⟨g, k, none⟩ = some (.bool (U k)) := row_cell h (fv_get _ hk)
theorem flag_free {w : World} {F : Nat → Prop} {g n : Nat} {U : Nat → Bool} (h : FlagO g n U w F) (k : Nat) (hn : 0 < n) : w.frozen? ⟨g, k, none⟩ = false := row_free h k hn
/-- A row of n numbers at g. -/
def NumO (g n : Nat) (f : Nat → Int) : Own := RowO 3 1 (.slice (some ⟨g, 0, none⟩) n n) n (fv n fun i => .int .i64 (f i))
theorem num_ok {g n : Nat} {f : Nat → Int} : (NumO g n f).Ok := row_ok
theorem num_set {w : World} {F : Nat → Prop} {g n : Nat} {f : Nat → Int} (h : NumO g n f w F) {k : Nat} (hk : k < n) (b : Int) {T : Nat → Int} (hT : ∀ i, i < n → T i = if i = k then b else f i) : Post w F (NumO g n T) (w.setCell ⟨g, k, none⟩ (.int .i64 b)) := by
  have := row_set h (i := k) (by omega) (.int .i64 b)
  rw [fv_set] at this
  unfold NumO
  rw [fv_congr (f := fun i => .int .i64 (T i)) (g := upv (fun i => .int .i64 (f i)) k (.int .i64 b)) (fun i hi => by unfold upv; simp only [hT i hi]; split <;> rfl)]
  exact this
theorem num_at {w : World} {F : Nat → Prop} {g n : Nat} {f : Nat → Int} (h : NumO g n f w F) {k : Nat} (hk : k < n) : w.cell? ⟨g, k, none⟩ = some (.int .i64 (f k)) := row_cell h (fv_get _ hk)
theorem num_free {w : World} {F : Nat → Prop} {g n : Nat} {f : Nat → Int} (h : NumO g n f w F) (k : Nat) (hn : 0 < n) : w.frozen? ⟨g, k, none⟩ = false := row_free h k hn
/-- Cost. -/
def costR (C : List (List Int)) (D E ps : List Int) : Int × Bool := if ps.length = D.length then (match cs (cF C) (lF D) (lF E) E.length 0 noU ps with | some v => (v, true) | none => (0, false)) else (0, false)
/-- What Cost keeps: the pairs read so far cost s. -/
def CostI (C : List (List Int)) (D E ps : List Int) (m k : Nat) (U : Nat → Bool) (s : Int) : Prop := cs (cF C) (lF D) (lF E) m 0 noU ps = (cs (cF C) (lF D) (lF E) m k U (ps.drop k)).map (s + ·)
theorem costI_step {C : List (List Int)} {D E ps : List Int} {m k : Nat} {U : Nat → Bool} {s : Int} (h : CostI C D E ps m k U s) (hk : k < ps.length) :
    ((lF ps k < 0 ∨ (m : Int) < lF ps k ∨ (lF ps k < m ∧ U (lF ps k).toNat = true)) → cs (cF C) (lF D) (lF E) m 0 noU ps = none) ∧
    (¬ (lF ps k < 0 ∨ (m : Int) < lF ps k ∨ (lF ps k < m ∧ U (lF ps k).toNat = true)) → (lF ps k = m → CostI C D E ps m (k + 1) U (s + lF D k)) ∧ (lF ps k ≠ m → CostI C D E ps m (k + 1) (ins U (lF ps k).toNat) (s + cF C k (lF ps k).toNat))) := by
  unfold CostI at *
  rw [List.drop_eq_getElem_cons hk, cs] at h
  rw [lF_at hk]
  refine ⟨fun hb => by rw [h, if_pos hb]; rfl, fun hb => ?_⟩
  rw [if_neg hb] at h
  refine ⟨fun he => ?_, fun hne => ?_⟩
  · rw [if_pos he] at h
    rw [h, Option.map_map]
    congr 1; funext x; simp only [Function.comp]; omega
  · rw [if_neg hne] at h
    rw [h, Option.map_map]
    congr 1; funext x; simp only [Function.comp]; omega
theorem costI_end {C : List (List Int)} {D E ps : List Int} {m k : Nat} {U : Nat → Bool} {s : Int} (h : CostI C D E ps m k U s) (hk : ps.length ≤ k) : cs (cF C) (lF D) (lF E) m 0 noU ps = some (s + sg m (fun j => if U j then 0 else lF E j)) := by
  unfold CostI at h
  rw [h, List.drop_eq_nil_of_le hk]; rfl
theorem wpList_flags {ops : Array Oper} {rest : List Oper} {o : Oper} {a : Act} {w : World} {Q : Exit → Act → World → Prop} (hg : o.guard = none) (l : Operand) (hop : o.op = Op.makeSlice 56 l l) (n : Nat) (hn : n ≤ 1000) (hl : a.eval l = .int .i64 (n : Int))
    (hK : ∀ w', Post w (fun _ => False) (FlagO w.heap.size n noU) w' → wpList Try.prog ops Q rest (a.put o.dst (.slice (some ⟨w.heap.size, 0, none⟩) n n)) w') : wpList Try.prog ops Q (o :: rest) a w :=
  wpList_make hg boolsOk (by decide) l hop n hn hl rfl fun w' h => hK w' (by unfold FlagO; rw [← show List.replicate n (Value.bool false) = fv n (fun i => .bool (noU i)) from fv_const n _]; exact h)
set_option maxHeartbeats 6400000 in
theorem cost_any {w : World} {A B G PA : Option Addr} {c d e p : Nat} {C : List (List Int)} {D E ps : List Int} (hP : Prb w A B G C D E D.length E.length) (hps : Vec w PA ps) (hl : ps.length ≤ 1000000) :
    Calls Try.prog 14 #[.slice A C.length c, .slice B D.length d, .slice G E.length e, .slice PA ps.length p] w (BelowIB w (costR C D E ps)) := by
  have HP := hide hP
  have HPS := hide hps
  have HI0 := hide (show CostI C D E ps E.length 0 noU 0 by unfold CostI; simp)
  have HNo1 := hide (show ¬ ps.length = D.length → costR C D E ps = (0, false) from fun h => by unfold costR; rw [if_neg h])
  have HNo2 := hide (show ps.length = D.length → cs (cF C) (lF D) (lF E) E.length 0 noU ps = none → costR C D E ps = (0, false) from fun h g => by unfold costR; rw [if_pos h, g])
  have HYes := hide (show ∀ v, ps.length = D.length → cs (cF C) (lF D) (lF E) E.length 0 noU ps = some v → costR C D E ps = (v, true) from fun v h g => by unfold costR; rw [if_pos h, g])
  have hn6 := hP.n6
  have hm6 := hP.m6
  obtain ⟨nc, hnc⟩ : ∃ n, n = C.length := ⟨_, rfl⟩
  have hnc' : nc = D.length := by rw [hnc]; exact hP.hn
  rw [← hnc]
  clear hP hps
  obtain ⟨n, hn⟩ : ∃ n, n = D.length := ⟨_, rfl⟩
  obtain ⟨m, hm⟩ : ∃ n, n = E.length := ⟨_, rfl⟩
  obtain ⟨np, hnp⟩ : ∃ n, n = ps.length := ⟨_, rfl⟩
  have HNP := hide hnp
  rw [← hn] at hnc' hn6
  rw [← hm] at HI0 HNo2 HYes hm6
  rw [← hnp] at HNo1 HNo2 HYes hl
  rw [← hn] at HNo1 HNo2 HYes
  rw [← hn, ← hm] at HP
  rw [← hn, ← hm, ← hnp]
  clear hn hm hnp hnc
  subst hnc'
  go_enter Try.func14, Try.ntmps14
  go_wp2_with (refine wpList_flags rfl (.tmp 17) rfl (m + 1) (by omega) (by simp [Act.eval]) ?_; refine held ?_)
  refine Held.mk fun w1 hP1 => ?_
  have R1 := hide (((Run.begin w).fresh emp_ok hP1).imp fun _ _ h => star_emp h)
  clear hP1
  generalize hg : w.heap.size = g at *
  by_cases h1 : np = nc
  case neg =>
    have HF := hide (HNo1.out h1)
    clear HNo1 HNo2 HYes HI0
    go_wp2
    go_ret2
    exact bel_ib HF.out R1.out.bel
  subst h1
  clear HNo1
  have HN2 := hide (HNo2.out rfl)
  have HY2 := hide (fun v => HYes.out v rfl)
  clear HNo2 HYes
  go_wp2
  go_loopw [11, 12] (fun s i wr => ∃ (k : Nat) (s0 : Int) (U : Nat → Bool), k ≤ np ∧ s = .int .i64 s0 ∧ i = .int .i64 k ∧ CostI C D E ps m k U s0 ∧ 0 ≤ s0 ∧ s0 ≤ (k : Int) * 100000 ∧ Run (fun _ => False) w (FlagO g (m + 1) U) wr) (fun _ i _ => np - (intOf i).toNat)
  case atStart => exact ⟨0, 0, noU, Nat.zero_le _, rfl, rfl, HI0.out, by omega, by omega, R1.out⟩
  case round =>
    obtain ⟨k, s0, U, hk, rfl, rfl, hI, hs0, hs1, hR⟩ := hrel
    have HRR := hide hR
    by_cases hlt : k < np
    · obtain ⟨bp, op, rfl, hcp⟩ := vec_F HPS.out HNP.out.symm hlt
      have c0 := hcp _ hR.bel
      obtain ⟨st1, st2⟩ := costI_step hI (by rw [← HNP.out]; exact hlt)
      have ST1 := hide st1
      have ST2 := hide st2
      obtain ⟨F, hF⟩ := hR.get
      have HAT := hide (fun j hj => flag_at hF (k := j) hj)
      have hfr := fun j => flag_free hF j (by omega)
      have HSET := hide (show ∀ j, j < m + 1 → Run (fun _ => False) w (FlagO g (m + 1) (ins U j)) (wr.setCell ⟨g, j, none⟩ (.bool true)) from fun j hj => by
        obtain ⟨F1, h1, bk⟩ := hR.all flag_ok
        exact bk _ _ (flag_set h1 hj true (fun i _ => by unfold ins; by_cases e : i = j <;> simp [e])))
      generalize lF ps k = x at *
      clear hcp hI st1 st2 hF hR
      by_cases g1 : x < 0
      · have HF := hide (HN2.out (ST1.out (.inl g1)))
        clear ST1 ST2 HSET HAT hfr HN2 HY2 HI0 R1
        go_wp2
        go_ret2
        exact bel_ib HF.out HRR.out.bel
      by_cases g2 : (m : Int) < x
      · have HF := hide (HN2.out (ST1.out (.inr (.inl g2))))
        clear ST1 ST2 HSET HAT hfr HN2 HY2 HI0 R1
        go_wp2
        go_ret2
        exact bel_ib HF.out HRR.out.bel
      obtain ⟨j, rfl⟩ : ∃ j : Nat, x = j := ⟨x.toNat, by omega⟩
      rw [Int.toNat_natCast] at ST1 ST2
      by_cases g3 : j < m
      · have c1 := HAT.out j (by omega)
        cases hu : U j with
        | true =>
          rw [hu] at c1
          have HF := hide (HN2.out (ST1.out (.inr (.inr ⟨by omega, hu⟩))))
          clear ST1 ST2 HSET HAT hfr HN2 HY2 HI0 R1 hu
          go_wp2
          go_ret2
          exact bel_ib HF.out HRR.out.bel
        | false =>
          rw [hu] at c1
          obtain ⟨ba, oa, R, cR, rfl, hca, hrow⟩ := HP.out.atR hlt
          obtain ⟨b', o', rfl, hcc, hcb⟩ := hrow j g3
          have R2 := hide (HSET.out j (by omega))
          have c2 := hca _ R2.out.bel
          have c3 := hcc _ R2.out.bel
          have f1 := hfr j
          have HS := hide ((ST2.out (by rintro (h | h | ⟨_, h⟩); omega; omega; rw [hu] at h; cases h)).2 (by omega))
          generalize cF C k j = z at *
          have t1 : ¬ ((j : Int) = m) := by omega
          clear ST1 ST2 HSET HAT hfr HN2 HY2 HI0 R1 hu hca hrow hcc HRR
          go_wp2
          go_roundw
          case rel => exact ⟨k + 1, s0 + z, ins U j, by omega, by go_num, by go_num, HS.out, by omega, by rw [Int.natCast_add, Int.add_mul]; omega, R2.out⟩
          case measure => simp [intOf]; omega
      · obtain rfl : j = m := by omega
        obtain ⟨bd, od, rfl, hcd, hdb⟩ := HP.out.atD hlt
        have c2 := hcd _ HRR.out.bel
        have HS := hide ((ST2.out (by rintro (h | h | ⟨h, _⟩) <;> omega)).1 rfl)
        generalize lF D k = z at *
        clear ST1 ST2 HSET HAT hfr HN2 HY2 HI0 R1 hcd
        go_wp2
        go_roundw
        case rel => exact ⟨k + 1, s0 + z, U, by omega, by go_num, by go_num, HS.out, by omega, by rw [Int.natCast_add, Int.add_mul]; omega, HRR.out⟩
        case measure => simp [intOf]; omega
    · have HE := hide (costI_end hI (by rw [← HNP.out]; omega))
      clear hI hR HN2 HI0 R1
      go_wp2
      go_loopw [11, 14] (fun s i wr => ∃ j : Nat, j ≤ m ∧ s = .int .i64 (s0 + sg j (fun j => if U j then 0 else lF E j)) ∧ i = .int .i64 j ∧ Run (fun _ => False) w (FlagO g (m + 1) U) wr) (fun _ i _ => m - (intOf i).toNat)
      case atStart => exact ⟨0, Nat.zero_le _, by simp [sg], rfl, HRR.out⟩
      case round =>
        obtain ⟨j, hj, rfl, rfl, hR⟩ := hrel
        have hsb := sg_bnd (n := j) (f := fun j => if U j then 0 else lF E j) (a := 0) (b := 10000) (fun i hi => by
          obtain ⟨_, _, _, _, h⟩ := HP.out.atE (j := i) (by omega)
          split <;> omega)
        have HR2 := hide hR
        clear HRR
        by_cases hjt : j < m
        · obtain ⟨F, hF⟩ := hR.get
          have c1 := flag_at hF (k := j) (by omega)
          obtain ⟨be, oe, rfl, hce, heb⟩ := HP.out.atE hjt
          have c2 := hce _ hR.bel
          have HS := hide (sg_succ (n := j) (f := fun j => if U j then 0 else lF E j))
          generalize lF E j = y at *
          generalize sg j (fun j => if U j = true then 0 else lF E j) = q at *
          clear hF hR hce HE
          cases hu : U j with
          | true =>
            rw [hu] at c1 HS
            clear hu
            go_wp2
            go_roundw
            case rel => exact ⟨j + 1, by omega, by rw [HS.out]; simp, by go_num, HR2.out⟩
            case measure => simp [intOf]; omega
          | false =>
            rw [hu] at c1 HS
            clear hu
            go_wp2
            go_roundw
            case rel => exact ⟨j + 1, by omega, by rw [HS.out]; simp; try go_num, by go_num, HR2.out⟩
            case measure => simp [intOf]; omega
        · obtain rfl : j = m := by omega
          have HF := hide (HY2.out _ HE.out)
          clear HY2 HE hR
          go_wp2
          go_ret2
          exact bel_ib HF.out HR2.out.bel
end Go.Proofs.Ytalbhghigdanlaa
namespace Go.Proofs.Ytalbhghigdanlaa
open Go.RowKit Go.CH Go.CH.Asg
open Go.ChangeMaps (setBlock)

/-- A problem of at most seven rows, as a walk reads it. -/
structure Prq (w : World) (A B G : Option Addr) (c : Nat → Nat → Int) (d e : Nat → Int) (n m : Nat) : Prop where
  n7 : n ≤ 7
  m6 : m ≤ 6
  db : ∀ i, i < n → 0 ≤ d i ∧ d i ≤ 10000
  eb : ∀ j, j < m → 0 ≤ e j ∧ e j ≤ 10000
  cb : ∀ i, i < n → ∀ j, j < m → 0 ≤ c i j ∧ c i j ≤ 100000
  ds : Src w B n 1 (fv n fun i => .int .i64 (d i))
  es : Src w G m 1 (fv m fun j => .int .i64 (e j))
  rows : ∃ RV : List Value, Src w A n 1 RV ∧ ∀ i, i < n → ∃ R cp, RV[i]? = some (.slice R m cp) ∧
      ∀ j, j < m → ∃ b' o', R = some ⟨b', o', none⟩ ∧ ∀ w', Below w.heap.size w w' → w'.cell? ⟨b', o' + j, none⟩ = some (.int .i64 (c i j))
section
variable {w w' : World} {A B G : Option Addr} {c : Nat → Nat → Int} {d e : Nat → Int} {n m : Nat}
theorem src_open {xs : List Value} (h : Src w B n 1 xs) {i : Nat} (hi : i < n) {v : Value} (hv : xs[i]? = some v) : ∃ b o, B = some ⟨b, o, none⟩ ∧ ∀ w', Below w.heap.size w w' → w'.cell? ⟨b, o + i, none⟩ = some v := by
  obtain ⟨b, o, rfl, hc⟩ := Src.open_ h (by omega) (by omega)
  refine ⟨b, o, rfl, fun w' hb => ?_⟩
  have h1 := hc i v hv
  rw [hb.cell (World.block_lt_of_cell? _ _ h1)]; exact h1
theorem Prq.D (h : Prq w A B G c d e n m) (i : Nat) (hi : i < n) : ∃ b o, B = some ⟨b, o, none⟩ ∧ ∀ w', Below w.heap.size w w' → w'.cell? ⟨b, o + i, none⟩ = some (.int .i64 (d i)) := src_open h.ds hi (fv_get _ hi)
theorem Prq.E (h : Prq w A B G c d e n m) (j : Nat) (hj : j < m) : ∃ b o, G = some ⟨b, o, none⟩ ∧ ∀ w', Below w.heap.size w w' → w'.cell? ⟨b, o + j, none⟩ = some (.int .i64 (e j)) := src_open h.es hj (fv_get _ hj)
theorem Prq.R (h : Prq w A B G c d e n m) (i : Nat) (hi : i < n) : ∃ b o R cp, A = some ⟨b, o, none⟩ ∧ (∀ w', Below w.heap.size w w' → w'.cell? ⟨b, o + i, none⟩ = some (.slice R m cp)) ∧
      ∀ j, j < m → ∃ b' o', R = some ⟨b', o', none⟩ ∧ ∀ w', Below w.heap.size w w' → w'.cell? ⟨b', o' + j, none⟩ = some (.int .i64 (c i j)) := by
  obtain ⟨RV, h1, h2⟩ := h.rows
  obtain ⟨R, cp, h3, h4⟩ := h2 i hi
  obtain ⟨b, o, h5, h6⟩ := src_open h1 hi h3
  exact ⟨b, o, R, cp, h5, h6, h4⟩
theorem ints_fv (l : List Int) : ints l = fv l.length (fun i => .int .i64 (lF l i)) := by
  refine List.ext_getElem? fun i => ?_
  by_cases h : i < l.length
  · rw [ints_get h, fv_get _ h, lF_at h]
  · rw [List.getElem?_eq_none (by rw [ints_len]; omega), List.getElem?_eq_none (by rw [fv_len]; omega)]
theorem Prb.q {C : List (List Int)} {D E : List Int} (h : Prb w A B G C D E n m) : Prq w A B G (cF C) (lF D) (lF E) n m where
  n7 := by have := h.n6; omega
  m6 := h.m6
  db := fun i hi => h.v.d i (by have := h.hd; omega)
  eb := fun i hi => h.v.e i (by have := h.hm; omega)
  cb := fun i hi j hj => h.v.c i (by have := h.hd; omega) j (by have := h.hm; omega)
  ds := by have := h.vd; unfold Vec at this; rw [ints_fv, h.hd] at this; exact this
  es := by have := h.ve; unfold Vec at this; rw [ints_fv, h.hm] at this; exact this
  rows := by
    obtain ⟨V, hV⟩ := h.mat
    have hs := hV.src
    rw [h.hn] at hs
    refine ⟨_, hs, fun i hi => ?_⟩
    have hi' : i < C.length := by have := h.hn; omega
    have hv : V[i]? = some (V[i]'(by rw [hV.len]; exact hi')) := List.getElem?_eq_getElem _
    obtain ⟨h1, h2⟩ := hV.row i hi' _ hv
    have hm : C[i].length = m := by rw [h.v.row i hi']; exact h.hm
    refine ⟨(V[i]'(by rw [hV.len]; exact hi')).1, (V[i]'(by rw [hV.len]; exact hi')).2, ?_, fun j hj => ?_⟩
    · rw [List.getElem?_mapIdx, hv]
      simp [List.getD_eq_getElem?_getD, hi', hm]
    · obtain ⟨b', o', g1, g2⟩ := h1.atF (by omega)
      exact ⟨b', o', g1, fun w' hb => by rw [cF_at hi']; exact g2 w' hb j (by omega)⟩
theorem Prq.below (h : Prq w A B G c d e n m) (hb : Below w.heap.size w w') : Prq w' A B G c d e n m where
  n7 := h.n7
  m6 := h.m6
  db := h.db
  eb := h.eb
  cb := h.cb
  ds := src_below h.ds hb
  es := src_below h.es hb
  rows := by
    obtain ⟨RV, h1, h2⟩ := h.rows
    refine ⟨RV, src_below h1 hb, fun i hi => ?_⟩
    obtain ⟨R, cp, h3, h4⟩ := h2 i hi
    exact ⟨R, cp, h3, fun j hj => by obtain ⟨b', o', g1, g2⟩ := h4 j hj; exact ⟨b', o', g1, fun w2 g => g2 w2 (bel_trans hb g)⟩⟩
end
theorem mnl_nn {U : Nat → Bool} {f : Nat → Int} {a : Int} {m : Nat} (ha : 0 ≤ a) (hf : ∀ j, j < m → 0 ≤ f j) : 0 ≤ mnl U f a m := by
  rcases mnl_is (U := U) (f := f) (a := a) (m := m) with h | ⟨j, h1, _, h2⟩
  · omega
  · have := hf j h1; omega
theorem L_bnd {w : World} {A B G : Option Addr} {c : Nat → Nat → Int} {d e : Nat → Int} {n m : Nat} (h : Prq w A B G c d e n m) {k : Nat} (hk : k ≤ n) (U : Nat → Bool) : 0 ≤ L c d e n m k U ∧ L c d e n m k U ≤ (k : Int) * 10000 + 60000 := by
  induction k generalizing U with
  | zero =>
    have := sg_bnd (n := m) (f := fun j => if U j then 0 else e j) (a := 0) (b := 10000) (fun i hi => by have := h.eb i hi; split <;> omega)
    have := h.m6
    unfold L
    omega
  | succ k ih =>
    have h1 := mnl_init (U := U) (f := fun j => c (n - (k + 1)) j + L c d e n m k (ins U j)) (a := d (n - (k + 1)) + L c d e n m k U) (m := m)
    have h2 := ih (by omega) U
    have h3 := h.db (n - (k + 1)) (by omega)
    have h4 := mnl_nn (U := U) (f := fun j => c (n - (k + 1)) j + L c d e n m k (ins U j)) (a := d (n - (k + 1)) + L c d e n m k U) (m := m) (by omega) (fun j hj => by
      have := ih (by omega) (ins U j); have := h.cb (n - (k + 1)) (by omega) j hj; omega)
    show 0 ≤ mnl _ _ _ _ ∧ mnl _ _ _ _ ≤ _
    rw [Int.natCast_add, Int.add_mul]
    omega
/-- least's answer: the flags are as they were. -/
def LeastRet (w0 : World) (g m : Nat) (U : Nat → Bool) (X : Own) (v : Int) (e : Ending) (w' : World) : Prop := e = .returned (.int .i64 v) ∧ Run (fun _ => False) w0 (star (FlagO g m U) X) w'
section
variable {w0 : World} {A B G : Option Addr} {c : Nat → Nat → Int} {d e : Nat → Int} {n m g : Nat} {X : Own}
theorem run_flag (hX : X.Ok) {U T : Nat → Bool} {W : World} (h : Run (fun _ => False) w0 (star (FlagO g m U) X) W) {j : Nat} (hj : j < m) (b : Bool) (hT : ∀ i, i < m → T i = if i = j then b else U i) : Run (fun _ => False) w0 (star (FlagO g m T) X) (W.setCell ⟨g, j, none⟩ (.bool b)) := by
  obtain ⟨F1, h1, -, bk⟩ := h.take flag_ok hX
  exact bk _ _ (flag_set h1 hj b hT)
set_option maxHeartbeats 6400000 in
theorem least_any (hq : Prq w0 A B G c d e n m) (hX : X.Ok) (ca cb cg : Nat) : ∀ (k : Nat), k ≤ n → ∀ (U : Nat → Bool) (w : World), Run (fun _ => False) w0 (star (FlagO g m U) X) w →
    Calls Try.prog 37 #[.slice A n ca, .slice B n cb, .slice G m cg, .int .i64 ((n - k : Nat) : Int), .slice (some ⟨g, 0, none⟩) m m] w (LeastRet w0 g m U X (L c d e n m k U)) := by
  have HQ := hide hq
  have hn7 := hq.n7
  have hm6 := hq.m6
  clear hq
  intro k
  induction k with
  | zero =>
    intro _ U w hR
    have HR := hide hR
    clear hR
    go_enter Try.func37, Try.ntmps37
    go_wp2
    go_loop [11, 12] (fun s i => ∃ j : Nat, j ≤ m ∧ s = .int .i64 (sg j (fun j => if U j then 0 else e j)) ∧ i = .int .i64 j) (fun _ i => m - (intOf i).toNat)
    case atStart => exact ⟨0, Nat.zero_le _, rfl, rfl⟩
    case round =>
      obtain ⟨j, hj, rfl, rfl⟩ := hrel
      have hsb := sg_bnd (n := j) (f := fun j => if U j then 0 else e j) (a := 0) (b := 10000) (fun i hi => by
        have := HQ.out.eb i (by omega)
        split <;> omega)
      by_cases hjt : j < m
      · obtain ⟨F, hF⟩ := HR.out.fst
        have c1 := flag_at hF (k := j) (by omega)
        obtain ⟨be, oe, rfl, hce⟩ := HQ.out.E j hjt
        have heb := HQ.out.eb j hjt
        have c2 := hce _ HR.out.bel
        have HS := hide (sg_succ (n := j) (f := fun j => if U j then 0 else e j))
        generalize e j = y at *
        generalize sg j (fun j => if U j = true then 0 else e j) = q at *
        clear hF hce
        cases hu : U j with
        | true =>
          rw [hu] at c1 HS
          clear hu
          go_wp2
          go_round
          case rel => exact ⟨j + 1, by omega, by rw [HS.out]; simp, by go_num⟩
          case measure => simp [intOf]; omega
        | false =>
          rw [hu] at c1 HS
          clear hu
          go_wp2
          go_round
          case rel => exact ⟨j + 1, by omega, by rw [HS.out]; simp; try go_num, by go_num⟩
          case measure => simp [intOf]; omega
      · obtain rfl : j = m := by omega
        have HF := hide (show L c d e n j 0 U = sg j (fun j => if U j then 0 else e j) from rfl)
        go_wp2
        go_ret
        exact ⟨by rw [HF.out]; rfl, HR.out⟩
  | succ k ih =>
    intro hk U w hR
    have HIH := hide (ih (by omega))
    have HR := hide hR
    have HR0 := hide (hR.drew (star_ok flag_ok hX))
    clear hR ih
    obtain ⟨i, hi⟩ : ∃ i, i = n - (k + 1) := ⟨_, rfl⟩
    have hin : i < n := by omega
    have hi1 : n - k = i + 1 := by omega
    have HL := hide (show L c d e n m (k + 1) U = mnl U (fun j => c i j + L c d e n m k (ins U j)) (d i + L c d e n m k U) m by rw [hi]; rfl)
    rw [← hi]
    rw [hi1] at HIH
    obtain ⟨bd, od, rfl, hcd⟩ := HQ.out.D i hin
    have hdb := HQ.out.db i hin
    have HD := hide hcd
    have HLB := hide (fun U => L_bnd HQ.out (show k ≤ n by omega) U)
    have hl1 := HLB.out U
    have k0 := hcd _ HR0.out.bel
    have t0 : ¬ ((i : Int) = n) := by omega
    have t1 : IntKind.i64.wrap ((i : Int) + 1) = ((i + 1 : Nat) : Int) := by rw [IntWalk.i64_in _ (by omega)]; omega
    have t2 : IntKind.i64.wrap (d i + L c d e n m k U) = d i + L c d e n m k U := IntWalk.i64_in _ (by omega)
    clear hi hcd
    go_enter Try.func37, Try.ntmps37
    go_wp2_with fail
    refine wp_region_lex (fun w' => w'.cell? ⟨bd, od + i, none⟩ = some (.int .i64 (d i))) (by kernel_rfl) (by kernel_rfl) k0 ?_
    clear k0
    have KC := hide (HIH.out U _ HR0.out)
    (repeat (first | (refine lex_skip (by rfl) ?_; try simp only [Act.put, List.setIfInBounds_toArray, List.set_cons_zero, List.set_cons_succ]) | (refine lex_read (v := ?_) (by rfl) ?_ ?_; rotate_left; (focus (intro w' hS'; go_simp; (try with_reducible rfl); done)); try simp only [Act.put, List.setIfInBounds_toArray, List.set_cons_zero, List.set_cons_succ])))
    refine lex_chain rfl (by rfl) (fun K hK => ?_)
    go_wp2_with fail
    refine KC.out.mono ?_
    rintro e w1 ⟨rfl, hR1⟩
    have HR1 := hide hR1
    have k1 := HD.out _ hR1.bel
    refine hK.out _ _ k1 ?_
    clear hK KC HR0 hR1 k1
    (repeat (first | (refine lex_skip (by rfl) ?_; try simp only [Act.put, List.setIfInBounds_toArray, List.set_cons_zero, List.set_cons_succ]) | (refine lex_read (v := ?_) (by rfl) ?_ ?_; rotate_left; (focus (intro w' hS'; go_simp; (try with_reducible rfl); done)); try simp only [Act.put, List.setIfInBounds_toArray, List.set_cons_zero, List.set_cons_succ])))
    refine lex_nil ?_
    clear t1 t2
    go_wp2
    go_loopw [13, 14] (fun s x wr => ∃ j : Nat, j ≤ m ∧ s = .int .i64 (mnl U (fun j => c i j + L c d e n m k (ins U j)) (d i + L c d e n m k U) j) ∧ x = .int .i64 j ∧ Run (fun _ => False) w0 (star (FlagO g m U) X) wr) (fun _ x _ => m - (intOf x).toNat)
    case atStart => exact ⟨0, Nat.zero_le _, by simp [mnl], rfl, HR1.out⟩
    case round =>
      obtain ⟨j, hj, rfl, rfl, hRw⟩ := hrel
      have HRW := hide hRw
      clear HR1 HR
      have hi0 := mnl_init (U := U) (f := fun j => c i j + L c d e n m k (ins U j)) (a := d i + L c d e n m k U) (m := j)
      have hi2 := mnl_nn (U := U) (f := fun j => c i j + L c d e n m k (ins U j)) (a := d i + L c d e n m k U) (m := j) (by omega) (fun t ht => by
        have := (HLB.out (ins U t)).1; have := HQ.out.cb i hin t (by omega); omega)
      by_cases hjt : j < m
      · obtain ⟨F, hF⟩ := hRw.fst
        have c1 := flag_at hF (k := j) hjt
        have hfr := flag_free hF j (by omega)
        have HS := hide (show mnl U (fun j => c i j + L c d e n m k (ins U j)) (d i + L c d e n m k U) (j + 1) = if U j then mnl U (fun j => c i j + L c d e n m k (ins U j)) (d i + L c d e n m k U) j else min (mnl U (fun j => c i j + L c d e n m k (ins U j)) (d i + L c d e n m k U) j) (c i j + L c d e n m k (ins U j)) from rfl)
        generalize mnl U (fun j => c i j + L c d e n m k (ins U j)) (d i + L c d e n m k U) j = q at *
        clear hF
        cases hu : U j with
        | true =>
          rw [hu] at c1 HS
          clear hu hRw hfr
          go_wp2
          go_roundw
          case rel => exact ⟨j + 1, by omega, by rw [HS.out]; simp, by go_num, HRW.out⟩
          case measure => simp [intOf]; omega
        | false =>
          rw [hu] at c1 HS
          have R2 := run_flag hX hRw hjt true (T := ins U j) (fun t _ => by unfold ins; by_cases e : t = j <;> simp [e])
          have HR2 := hide (R2.drew (star_ok flag_ok hX))
          have HU := hide hu
          clear hu hRw R2
          obtain ⟨ba, oa, R, cR, rfl, hca, hrow⟩ := HQ.out.R i hin
          obtain ⟨b', o', rfl, hcc⟩ := hrow j hjt
          have hcb := HQ.out.cb i hin j hjt
          have HCA := hide hca
          have HCC := hide hcc
          have hl2 := HLB.out (ins U j)
          have k1 := hca _ HR2.out.bel
          have k2 := hcc _ HR2.out.bel
          have t1 : IntKind.i64.wrap ((i : Int) + 1) = ((i + 1 : Nat) : Int) := by rw [IntWalk.i64_in _ (by omega)]; omega
          have t2 : IntKind.i64.wrap (c i j + L c d e n m k (ins U j)) = c i j + L c d e n m k (ins U j) := IntWalk.i64_in _ (by omega)
          clear hca hrow hcc
          go_wp2_with fail
          refine wp_region_lex (fun w' => w'.cell? ⟨ba, oa + i, none⟩ = some (.slice (some ⟨b', o', none⟩) m cR) ∧ w'.cell? ⟨b', o' + j, none⟩ = some (.int .i64 (c i j))) (by kernel_rfl) (by kernel_rfl) ⟨k1, k2⟩ ?_
          clear k1 k2 c1 hfr
          have KC := hide (HIH.out (ins U j) _ HR2.out)
          (repeat (first | (refine lex_skip (by rfl) ?_; try simp only [Act.put, List.setIfInBounds_toArray, List.set_cons_zero, List.set_cons_succ]) | (refine lex_read (v := ?_) (by rfl) ?_ ?_; rotate_left; (focus (intro w' hS'; go_simp; (try with_reducible rfl); done)); try simp only [Act.put, List.setIfInBounds_toArray, List.set_cons_zero, List.set_cons_succ])))
          refine lex_chain rfl (by rfl) (fun K hK => ?_)
          go_wp2_with fail
          refine KC.out.mono ?_
          rintro e w1 ⟨rfl, hR1⟩
          have HR1 := hide hR1
          have k1 := HCA.out _ hR1.bel
          have k2 := HCC.out _ hR1.bel
          refine hK.out _ _ ⟨k1, k2⟩ ?_
          clear hK KC HR2 k1 k2
          (repeat (first | (refine lex_skip (by rfl) ?_; try simp only [Act.put, List.setIfInBounds_toArray, List.set_cons_zero, List.set_cons_succ]) | (refine lex_read (v := ?_) (by rfl) ?_ ?_; rotate_left; (focus (intro w' hS'; go_simp; (try with_reducible rfl); done)); try simp only [Act.put, List.setIfInBounds_toArray, List.set_cons_zero, List.set_cons_succ])))
          refine lex_nil ?_
          obtain ⟨F, hF⟩ := hR1.fst
          have hfr := flag_free hF j (by omega)
          have c1 := flag_at hF (k := j) hjt
          have HMIN := hide (show min q (c i j + L c d e n m k (ins U j)) = if c i j + L c d e n m k (ins U j) < q then c i j + L c d e n m k (ins U j) else q by omega)
          have R3 := hide (run_flag hX hR1 hjt false (T := U) (fun t _ => by
            unfold ins; by_cases e : t = j
            · subst e; simp [HU.out]
            · simp [e]))
          clear hF hR1 t1 t2
          go_wp2
          go_roundw
          case rel => exact ⟨j + 1, by omega, by rw [HS.out, ← HMIN.out]; rfl, by go_num, R3.out⟩
          case measure => simp [intOf]; omega
      · obtain rfl : j = m := by omega
        go_wp2
        go_ret
        exact ⟨by rw [HL.out]; rfl, HRW.out⟩
end
end Go.Proofs.Ytalbhghigdanlaa
namespace Go.Proofs.Ytalbhghigdanlaa
open Go.RowKit Go.CH Go.CH.Asg
open Go.ChangeMaps (setBlock)

/-! ### Bits -/
def bt (s : Nat) : Nat → Bool := fun j => s.testBit j
theorem bt_zero : bt 0 = noU := by funext j; simp [bt, noU]
theorem bt_or (s j : Nat) : bt (s ||| 1 <<< j) = ins (bt s) j := by
  funext x
  simp only [bt, ins, Nat.testBit_or, Nat.one_shiftLeft, Nat.testBit_two_pow]
  congr 1
  rw [Bool.eq_iff_iff]; simp; omega
theorem i64_and1 (n : Nat) (hn : n < 1000) : bits .and .i64 (n : Int) 1 = ((n % 2 : Nat) : Int) := by
  have h1 : ∀ n : Fin 1000, bits .and .i64 ((n.val : Nat) : Int) 1 = ((n.val % 2 : Nat) : Int) := by decide +kernel
  exact h1 ⟨n, hn⟩
theorem i64_or (a b : Nat) (ha : a < 64) (hb : b < 64) : bits .or .i64 (a : Int) (b : Int) = ((a ||| b : Nat) : Int) := by
  have h1 : ∀ n m : Fin 64, bits .or .i64 ((n.val : Nat) : Int) ((m.val : Nat) : Int) = ((n.val ||| m.val : Nat) : Int) := by decide +kernel
  exact h1 ⟨a, ha⟩ ⟨b, hb⟩
theorem bt_mod (s j : Nat) : (s / 2 ^ j) % 2 = if bt s j then 1 else 0 := by
  unfold bt
  rw [Nat.testBit_eq_decide_div_mod_eq]
  have := Nat.mod_two_eq_zero_or_one (s / 2 ^ j)
  by_cases h : s / 2 ^ j % 2 = 1
  · simp [h]
  · simp [h]; omega
/-- What a walk shows of 's >> j & 1'. -/
theorem bit_of (s j : Nat) (hs : s < 128) : ∃ q : Nat, (s : Int) / 2 ^ j = q ∧ bits .and .i64 (q : Int) 1 = if bt s j then 1 else 0 := by
  refine ⟨s / 2 ^ j, ?_, ?_⟩
  · rw [Int.natCast_ediv, Int.natCast_pow]; rfl
  · rw [i64_and1 _ (Nat.lt_of_le_of_lt (Nat.div_le_self _ _) (by omega)), bt_mod]
    split <;> rfl
/-- What a walk shows of 's | 1 << j'. -/
theorem or_of (s j : Nat) (hs : s < 64) (hj : j < 6) : ∃ p : Nat, wrap64 (2 ^ j) = p ∧ IntKind.i64.wrap (2 ^ j) = p ∧ bits .or .i64 (s : Int) (p : Int) = ((s ||| 1 <<< j : Nat) : Int) := by
  have h4 : 1 <<< j < 64 := by
    rw [Nat.one_shiftLeft]
    exact Nat.pow_lt_pow_right (by decide) hj (a := 2)
  have h3 : (2 : Int) ^ j = ((1 <<< j : Nat) : Int) := by rw [Nat.one_shiftLeft, Int.natCast_pow]; rfl
  have h6 : ∀ q : Nat, q < 64 → IntKind.i64.wrap (q : Int) = q := fun q hq => IntWalk.i64_in _ (by omega)
  refine ⟨1 <<< j, ?_, ?_, i64_or s _ hs h4⟩
  · rw [← IntWalk.i64_left, h3]; exact h6 _ h4
  · rw [h3]; exact h6 _ h4
theorem pow_of (m : Nat) (hm : m ≤ 6) : wrap64 (2 ^ m) = ((1 <<< m : Nat) : Int) := by
  have h4 : 1 <<< m ≤ 64 := by
    rw [Nat.one_shiftLeft]
    exact Nat.pow_le_pow_right (by decide) hm (n := 2)
  have h3 : (2 : Int) ^ m = ((1 <<< m : Nat) : Int) := by rw [Nat.one_shiftLeft, Int.natCast_pow]; rfl
  have h6 : ∀ q : Nat, q ≤ 64 → IntKind.i64.wrap (q : Int) = q := fun q hq => IntWalk.i64_in _ (by omega)
  rw [← IntWalk.i64_left, h3]; exact h6 _ h4
set_option maxHeartbeats 800000 in
theorem leastAll_any {w : World} {A B G : Option Addr} {c : Nat → Nat → Int} {d e : Nat → Int} {n m : Nat} (hq : Prq w A B G c d e n m) (ca cb cg : Nat) :
    Calls Try.prog 36 #[.slice A n ca, .slice B n cb, .slice G m cg] w (BelowRet w (.int .i64 (L c d e n m n noU))) := by
  have hm := hq.m6
  have KL := hide (fun (g : Nat) (w1 : World) (h : Run (fun _ => False) w (star (FlagO g m noU) emp) w1) => least_any hq emp_ok ca cb cg n (Nat.le_refl n) noU w1 h)
  rw [Nat.sub_self] at KL
  clear hq
  go_enter Try.func36, Try.ntmps36
  go_wp2_with (refine wpList_flags rfl (.tmp 11) rfl m (by omega) (by simp [Act.eval]) ?_; refine held ?_)
  refine Held.mk fun w1 hP1 => ?_
  have KC := hide (KL.out _ _ ((Run.begin w).fresh emp_ok hP1))
  clear KL hP1
  go_wp2_with fail
  refine KC.out.mono ?_
  rintro e w2 ⟨rfl, hR⟩
  have HR := hide hR.bel
  clear KC hR
  go_wp2
  go_ret
  exact ⟨rfl, HR.out⟩
end Go.Proofs.Ytalbhghigdanlaa
