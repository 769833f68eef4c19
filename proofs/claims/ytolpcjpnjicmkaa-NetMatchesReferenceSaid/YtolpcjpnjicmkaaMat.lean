/-
  Net: the walk of NetMatchesReference.
-/
import Derived.Test.YtolpcjpnjicmkaaSim
import Derived.Test.YtolpcjpnjicmkaaEqR
import Derived.Test.YtolpcjpnjicmkaaLinW
set_option linter.unusedSimpArgs false
set_option linter.unusedVariables false
namespace Go.Proofs.Ytolpcjpnjicmkaa
open Go.RowKit Go.CH
open Go.ChangeMaps (setBlock)

theorem StepAt.run {w W : World} {O : Own} {b o : Nat} {x : Step} (h : StepAt w b o x) (s : Run (fun _ => False) w O W) : StepAt W b o x :=
  ⟨s.cell h.c0 (fun h => h), s.cell h.c1 (fun h => h), s.cell h.c2 (fun h => h), s.cell h.c3 (fun h => h), s.cell h.c4 (fun h => h), s.cell h.c5 (fun h => h)⟩
set_option maxRecDepth 100000 in
set_option maxHeartbeats 400000 in
theorem mat_much (n : Int) (A : Option Addr) (c : Nat) (l : List Step) (a b : Int) (w : World) (hf : fewB l = false) (hl : Src w A l.length 6 (steps l)) :
    Calls Try.prog 5 #[.int .i64 n, .slice A l.length c, .int .i64 a, .int .i64 b] w (BelowRet w (.bool true)) := by
  go_enter Try.func5, Try.ntmps5
  go_wp2_with fail
  refine (head_any _).mono ?_
  rintro e w0 ⟨rfl, hb0⟩
  have S0 := hide ((Run.begin w).below emp_ok hb0)
  have KF := hide (few15_any A _ c l _ rfl (S0.out.src0 hl))
  rw [hf] at KF
  clear hf hb0
  go_wp2_with fail
  refine KF.out.mono ?_
  rintro e w2 ⟨rfl, hb2⟩
  go_wp2
  go_ret
  exact ⟨rfl, (S0.out.below emp_ok hb2).bel⟩
set_option maxRecDepth 100000 in
set_option maxHeartbeats 800000 in
theorem mat_no (n : Int) (A : Option Addr) (c : Nat) (l : List Step) (a b : Int) (w : World) (h : n < 1 ∨ 8 < n) (hf : fewB l = true) (hl : Src w A l.length 6 (steps l)) :
    Calls Try.prog 5 #[.int .i64 n, .slice A l.length c, .int .i64 a, .int .i64 b] w (BelowRet w (.bool true)) := by
  have hn : l.length ≤ 150 := by simp [fewB] at hf; omega
  go_enter Try.func5, Try.ntmps5
  go_wp2_with fail
  refine (head_any _).mono ?_
  rintro e w0 ⟨rfl, hb0⟩
  have S0 := hide ((Run.begin w).below emp_ok hb0)
  have KF := hide (few15_any A _ c l _ rfl (S0.out.src0 hl))
  rw [hf] at KF
  clear hf hb0
  go_wp2_with fail
  refine KF.out.mono ?_
  rintro e w2 ⟨rfl, hb2⟩
  have S2 := hide (S0.out.below emp_ok hb2)
  clear hb2
  go_wp2_with fail
  refine (new_no n _ h).mono ?_
  rintro e w3 ⟨rfl, rfl⟩
  go_wp2_with fail
  refine (rnew_no n _ h).mono ?_
  rintro e w3 ⟨rfl, rfl⟩
  go_wp2
  go_loopw [14] (fun i wr => i = .int .i64 0 ∧ wr = w2) (fun i _ => 0)
  case atStart => exact ⟨rfl, rfl⟩
  case round =>
    obtain ⟨rfl, rfl⟩ := hrel
    by_cases hlt : 0 < l.length
    · go_wp2
      go_ret
      exact ⟨rfl, S2.out.bel⟩
    · go_wp2
      go_ret
      exact ⟨rfl, S2.out.bel⟩

set_option maxRecDepth 100000 in
set_option maxHeartbeats 8000000 in
theorem mat_any (n : Int) (A : Option Addr) (c : Nat) (l : List Step) (a b : Int) (w : World) (h1 : 1 ≤ n) (h2 : n ≤ 8) (hf : fewB l = true) (hl : Src w A l.length 6 (steps l)) :
    Calls Try.prog 5 #[.int .i64 n, .slice A l.length c, .int .i64 a, .int .i64 b] w (BelowRet w (.bool true)) := by
  have hn : l.length ≤ 150 := by simp [fewB] at hf; omega
  have HL := hide hl
  go_enter Try.func5, Try.ntmps5
  go_wp2_with fail
  refine (head_any _).mono ?_
  rintro e w0 ⟨rfl, hb0⟩
  have S0 := hide ((Run.begin w).below emp_ok hb0)
  have KF := hide (few15_any A _ c l _ rfl (S0.out.src0 hl))
  rw [hf] at KF
  clear hf hb0 hl
  go_wp2_with fail
  refine KF.out.mono ?_
  rintro e w2 ⟨rfl, hb2⟩
  have S2 := hide (S0.out.below emp_ok hb2)
  clear hb2
  go_wp2_with fail
  refine (new_post n _ h1 h2).mono ?_
  rintro e w3 ⟨p, rfl, hp⟩
  have S3 := hide (S2.out.fresh emp_ok hp)
  clear hp
  go_wp2_with fail
  refine (rnew_yes n _ h1 h2).mono ?_
  rintro e w4 ⟨p2, rfl, hp2⟩
  have S4 := hide ((S3.out.imp fun _ _ h => star_emp h).fresh netO_ok hp2).swap
  clear hp2
  go_wp2
  go_loopw [14] (fun i wr => ∃ (k : Nat) (M : NetM) (R : RefM), k ≤ l.length ∧ i = .int .i64 k ∧ Simu M R ∧ R.L.length ≤ k ∧ R.G.length ≤ k ∧ Run (fun _ => False) w (star (NetO M p) (RefO R p2)) wr) (fun i _ => l.length - (intOf i).toNat)
  case atStart => exact ⟨0, _, _, by omega, rfl, simu_new n, by simp, by simp, S4.out⟩
  case round =>
    obtain ⟨k, M, R, hk, rfl, hsim, hL, hG, hS⟩ := hrel
    have HS := hide hS; have HSIM := hide hsim
    clear hS hsim
    by_cases hlt : k < l.length
    · obtain ⟨bb, o, rfl, hcl⟩ := HL.out.open_ (by omega) (by omega)
      have HA : Hid (StepAt w bb (o + k * 6) l[k]) := stepAt hcl hlt
      clear hcl
      generalize l[k] = x at HA
      obtain ⟨hd1, hd2⟩ := HSIM.out.step x
      obtain ⟨hlen1, hlen2⟩ := rdo_len R x
      obtain ⟨xk, xa, xb, xt, xl, xg⟩ := x
      have S5 := hide (HS.out.drew (star_ok netO_ok refO_ok))
      obtain ⟨r, hr⟩ : ∃ r, rdoR R ⟨xk, xa, xb, xt, xl, xg⟩ = r := ⟨_, rfl⟩
      rw [hr] at hd1
      obtain ⟨M', hM'⟩ : ∃ M', doM M ⟨xk, xa, xb, xt, xl, xg⟩ = M' := ⟨_, rfl⟩
      obtain ⟨R', hR'⟩ : ∃ R', rdoM R ⟨xk, xa, xb, xt, xl, xg⟩ = R' := ⟨_, rfl⟩
      rw [hM', hR'] at hd2
      rw [hR'] at hlen1 hlen2
      obtain ⟨F5, hN5, -, hbk5⟩ := S5.out.take netO_ok refO_ok
      have K1 := hide (do_at hN5 _ hd1 hM')
      have HBK5 := hide hbk5
      have HR := hide hr; have HR' := hide hR'; have HSIM2 := hide hd2
      obtain ⟨re, rt, ro⟩ := r
      simp only [] at K1
      have hq : ∀ w', (binOp .neq 42 (.agg #[.int .i64 re, .string rt, .bool ro]) (.agg #[.int .i64 re, .string rt, .bool ro])).run Try.prog w' = .ok (.bool false) w' := fun w' => run_neq_res_self _ _ _ w'
      clear hN5 hbk5 hd1 hd2 hr hM' hR'
      go_wp2
      refine wp_region_lex (fun w' => w'.cell? ⟨bb, o + k * 6, none⟩ = some (.int .i64 xk) ∧ w'.cell? ⟨bb, o + k * 6 + 1, none⟩ = some (.int .i64 xa) ∧ w'.cell? ⟨bb, o + k * 6 + 2, none⟩ = some (.int .i64 xb) ∧ w'.cell? ⟨bb, o + k * 6 + 3, none⟩ = some (.string xt) ∧ w'.cell? ⟨bb, o + k * 6 + 4, none⟩ = some (.bool xl) ∧ w'.cell? ⟨bb, o + k * 6 + 5, none⟩ = some (.bool xg)) (by kernel_rfl) (by kernel_rfl) (by obtain ⟨c0, c1, c2, c3, c4, c5⟩ := HA.out.run S5.out; exact ⟨c0, c1, c2, c3, c4, c5⟩) ?_
      (repeat (first | (refine lex_skip (by rfl) ?_; try simp only [Act.put, List.setIfInBounds_toArray, List.set_cons_zero, List.set_cons_succ]) | (refine lex_read (v := ?_) (by rfl) ?_ ?_; rotate_left; (focus (intro w' hS'; go_simp; (try with_reducible rfl); done)); try simp only [Act.put, List.setIfInBounds_toArray, List.set_cons_zero, List.set_cons_succ])))
      refine lex_chain rfl (by rfl) (fun K hK => ?_)
      go_wp2_with fail
      refine K1.out.mono ?_
      rintro e w6 ⟨rfl, hp6⟩
      have S6 := hide (HBK5.out _ _ hp6)
      obtain ⟨F6, hN6, -, hbk6⟩ := S6.out.swap.take refO_ok netO_ok
      have K2 := hide (rdo_any hN6 (by omega) (by omega) _ HR.out HR'.out)
      have HBK6 := hide hbk6
      simp only [] at K2
      refine hK.out _ _ (by obtain ⟨c0, c1, c2, c3, c4, c5⟩ := HA.out.run S6.out; exact ⟨c0, c1, c2, c3, c4, c5⟩) ?_
      clear hK hp6 hN6 hbk6
      (repeat (first | (refine lex_skip (by rfl) ?_; try simp only [Act.put, List.setIfInBounds_toArray, List.set_cons_zero, List.set_cons_succ]) | (refine lex_read (v := ?_) (by rfl) ?_ ?_; rotate_left; (focus (intro w' hS'; go_simp; (try with_reducible rfl); done)); try simp only [Act.put, List.setIfInBounds_toArray, List.set_cons_zero, List.set_cons_succ])))
      refine lex_chain rfl (by rfl) (fun K hK => ?_)
      go_wp2_with fail
      refine K2.out.mono ?_
      rintro e w7 ⟨rfl, hp7⟩
      have S7 := hide (HBK6.out _ _ hp7).swap
      refine hK.out _ _ (by obtain ⟨c0, c1, c2, c3, c4, c5⟩ := HA.out.run S7.out; exact ⟨c0, c1, c2, c3, c4, c5⟩) ?_
      clear hK hp7
      obtain ⟨F1, hN1⟩ := S7.out.fst
      obtain ⟨G1, hM1⟩ := S7.out.swap.fst
      have hl1 := wait_len hN1 xa xb
      have hw1 := HSIM2.out.wait xa xb
      obtain ⟨q1, hq1⟩ : ∃ q, rWait R' xa xb = q := ⟨_, rfl⟩
      rw [hq1] at hw1
      rw [hw1] at hl1
      have KA1 := hide (waiting_post hN1 xa xb hw1)
      have HQ1 := hide hq1; clear hq1 hN1 hM1 hw1
      (repeat (first | (refine lex_skip (by rfl) ?_; try simp only [Act.put, List.setIfInBounds_toArray, List.set_cons_zero, List.set_cons_succ]) | (refine lex_read (v := ?_) (by rfl) ?_ ?_; rotate_left; (focus (intro w' hS'; go_simp; (try with_reducible rfl); done)); try simp only [Act.put, List.setIfInBounds_toArray, List.set_cons_zero, List.set_cons_succ])))
      refine lex_chain rfl (by rfl) (fun K hK => ?_)
      go_wp2_with fail
      refine KA1.out.mono ?_
      rintro e x1 ⟨v1, rfl, ho1, hb1⟩
      obtain ⟨A1, c1, rfl⟩ := own_form ho1
      have T1 := hide (S7.out.fresh (star_ok netO_ok refO_ok) (row_new ho1 hb1))
      obtain ⟨H1, hM1'⟩ := T1.out.drop.swap.fst
      obtain ⟨rA1, rc1, rB1, rd1, hrr1⟩ := hM1'.read
      have KB1 := hide (rwait_any hrr1 (by omega) xa xb HQ1.out)
      refine hK.out _ _ (by obtain ⟨c0, c1, c2, c3, c4, c5⟩ := HA.out.run T1.out; exact ⟨c0, c1, c2, c3, c4, c5⟩) ?_
      clear hK ho1 hb1 hM1' hrr1
      (repeat (first | (refine lex_skip (by rfl) ?_; try simp only [Act.put, List.setIfInBounds_toArray, List.set_cons_zero, List.set_cons_succ]) | (refine lex_read (v := ?_) (by rfl) ?_ ?_; rotate_left; (focus (intro w' hS'; go_simp; (try with_reducible rfl); done)); try simp only [Act.put, List.setIfInBounds_toArray, List.set_cons_zero, List.set_cons_succ])))
      refine lex_chain rfl (by rfl) (fun K hK => ?_)
      go_wp2_with fail
      refine KB1.out.mono ?_
      rintro e y1 ⟨z1, rfl, ho1, hb1⟩
      obtain ⟨B1, d1, rfl⟩ := own_form ho1
      have U1 := hide (T1.out.fresh (star_ok row_ok (star_ok netO_ok refO_ok)) (row_new ho1 hb1))
      obtain ⟨I1, hr1⟩ := U1.out.fst
      obtain ⟨J1, hs1⟩ := U1.out.drop.fst
      have KT1 := hide (texts_any (c := c1) (d := d1) (row_src hs1 (strs_one q1)) (row_src hr1 (strs_one q1)) (by omega))
      rw [decide_eq_true (rfl : q1 = q1)] at KT1
      refine hK.out _ _ (by obtain ⟨c0, c1, c2, c3, c4, c5⟩ := HA.out.run U1.out; exact ⟨c0, c1, c2, c3, c4, c5⟩) ?_
      clear hK ho1 hb1 hr1 hs1
      (repeat (first | (refine lex_skip (by rfl) ?_; try simp only [Act.put, List.setIfInBounds_toArray, List.set_cons_zero, List.set_cons_succ]) | (refine lex_read (v := ?_) (by rfl) ?_ ?_; rotate_left; (focus (intro w' hS'; go_simp; (try with_reducible rfl); done)); try simp only [Act.put, List.setIfInBounds_toArray, List.set_cons_zero, List.set_cons_succ])))
      refine lex_chain rfl (by rfl) (fun K hK => ?_)
      go_wp2_with fail
      refine KT1.out.mono ?_
      rintro e z1 ⟨rfl, hb1⟩
      have V1 := hide (U1.out.below (star_ok row_ok (star_ok row_ok (star_ok netO_ok refO_ok))) hb1).drop.drop
      refine hK.out _ _ (by obtain ⟨c0, c1, c2, c3, c4, c5⟩ := HA.out.run V1.out; exact ⟨c0, c1, c2, c3, c4, c5⟩) ?_
      clear hK hb1
      obtain ⟨F2, hN2⟩ := V1.out.fst
      obtain ⟨G2, hM2⟩ := V1.out.swap.fst
      have hl2 := wait_len hN2 a b
      have hw2 := HSIM2.out.wait a b
      obtain ⟨q2, hq2⟩ : ∃ q, rWait R' a b = q := ⟨_, rfl⟩
      rw [hq2] at hw2
      rw [hw2] at hl2
      have KA2 := hide (waiting_post hN2 a b hw2)
      have HQ2 := hide hq2; clear hq2 hN2 hM2 hw2
      (repeat (first | (refine lex_skip (by rfl) ?_; try simp only [Act.put, List.setIfInBounds_toArray, List.set_cons_zero, List.set_cons_succ]) | (refine lex_read (v := ?_) (by rfl) ?_ ?_; rotate_left; (focus (intro w' hS'; go_simp; (try with_reducible rfl); done)); try simp only [Act.put, List.setIfInBounds_toArray, List.set_cons_zero, List.set_cons_succ])))
      refine lex_chain rfl (by rfl) (fun K hK => ?_)
      go_wp2_with fail
      refine KA2.out.mono ?_
      rintro e x2 ⟨v2, rfl, ho2, hb2⟩
      obtain ⟨A2, c2, rfl⟩ := own_form ho2
      have T2 := hide (V1.out.fresh (star_ok netO_ok refO_ok) (row_new ho2 hb2))
      obtain ⟨H2, hM2'⟩ := T2.out.drop.swap.fst
      obtain ⟨rA2, rc2, rB2, rd2, hrr2⟩ := hM2'.read
      have KB2 := hide (rwait_any hrr2 (by omega) a b HQ2.out)
      refine hK.out _ _ (by obtain ⟨c0, c1, c2, c3, c4, c5⟩ := HA.out.run T2.out; exact ⟨c0, c1, c2, c3, c4, c5⟩) ?_
      clear hK ho2 hb2 hM2' hrr2
      (repeat (first | (refine lex_skip (by rfl) ?_; try simp only [Act.put, List.setIfInBounds_toArray, List.set_cons_zero, List.set_cons_succ]) | (refine lex_read (v := ?_) (by rfl) ?_ ?_; rotate_left; (focus (intro w' hS'; go_simp; (try with_reducible rfl); done)); try simp only [Act.put, List.setIfInBounds_toArray, List.set_cons_zero, List.set_cons_succ])))
      refine lex_chain rfl (by rfl) (fun K hK => ?_)
      go_wp2_with fail
      refine KB2.out.mono ?_
      rintro e y2 ⟨z2, rfl, ho2, hb2⟩
      obtain ⟨B2, d2, rfl⟩ := own_form ho2
      have U2 := hide (T2.out.fresh (star_ok row_ok (star_ok netO_ok refO_ok)) (row_new ho2 hb2))
      obtain ⟨I2, hr2⟩ := U2.out.fst
      obtain ⟨J2, hs2⟩ := U2.out.drop.fst
      have KT2 := hide (texts_any (c := c2) (d := d2) (row_src hs2 (strs_one q2)) (row_src hr2 (strs_one q2)) (by omega))
      rw [decide_eq_true (rfl : q2 = q2)] at KT2
      refine hK.out _ _ (by obtain ⟨c0, c1, c2, c3, c4, c5⟩ := HA.out.run U2.out; exact ⟨c0, c1, c2, c3, c4, c5⟩) ?_
      clear hK ho2 hb2 hr2 hs2
      (repeat (first | (refine lex_skip (by rfl) ?_; try simp only [Act.put, List.setIfInBounds_toArray, List.set_cons_zero, List.set_cons_succ]) | (refine lex_read (v := ?_) (by rfl) ?_ ?_; rotate_left; (focus (intro w' hS'; go_simp; (try with_reducible rfl); done)); try simp only [Act.put, List.setIfInBounds_toArray, List.set_cons_zero, List.set_cons_succ])))
      refine lex_chain rfl (by rfl) (fun K hK => ?_)
      go_wp2_with fail
      refine KT2.out.mono ?_
      rintro e z2 ⟨rfl, hb2⟩
      have V2 := hide (U2.out.below (star_ok row_ok (star_ok row_ok (star_ok netO_ok refO_ok))) hb2).drop.drop
      refine hK.out _ _ (by obtain ⟨c0, c1, c2, c3, c4, c5⟩ := HA.out.run V2.out; exact ⟨c0, c1, c2, c3, c4, c5⟩) ?_
      clear hK hb2
      (repeat (first | (refine lex_skip (by rfl) ?_; try simp only [Act.put, List.setIfInBounds_toArray, List.set_cons_zero, List.set_cons_succ]) | (refine lex_read (v := ?_) (by rfl) ?_ ?_; rotate_left; (focus (intro w' hS'; go_simp; (try with_reducible rfl); done)); try simp only [Act.put, List.setIfInBounds_toArray, List.set_cons_zero, List.set_cons_succ])))
      refine lex_nil ?_
      go_wp2
      go_roundw
      case rel => exact ⟨k + 1, M', R', hlt, by go_num, HSIM2.out, by omega, by omega, V2.out⟩
      case measure => simp [intOf]; omega
    · go_wp2
      go_ret
      exact ⟨rfl, HS.out.bel⟩
end Go.Proofs.Ytolpcjpnjicmkaa
