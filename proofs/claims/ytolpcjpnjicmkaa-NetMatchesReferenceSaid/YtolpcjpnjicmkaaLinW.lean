/-
  Net: the walk of NetLines.
-/
import Derived.Test.YtolpcjpnjicmkaaLin
import Derived.Test.YtolpcjpnjicmkaaEqR
import Derived.Test.YtolpcjpnjicmkaaHonW
import Derived.Deep.DeepCutAuto
set_option linter.unusedSimpArgs false
set_option linter.unusedVariables false
namespace Go.Proofs.Ytolpcjpnjicmkaa
open Go.RowKit Go.CH
open Go.ChangeMaps (setBlock)

theorem wait_len {m : NetM} {p : Nat} {w : World} {F : Nat → Prop} (h : NetO m p w F) (a b : Int) : (waitM m a b).length ≤ 100 := by
  obtain ⟨_, _, _, _, _, _, _, _, h⟩ := h
  unfold waitM
  split
  · exact h.inn.len _
  · simp
set_option maxRecDepth 100000 in
set_option maxHeartbeats 400000 in
theorem lines_no (n : Int) (A : Option Addr) (c : Nat) (l : List Step) (a b : Int) (w : World) (h : n < 1 ∨ 8 < n) (hl : Src w A l.length 6 (steps l)) :
    Calls Try.prog 8 #[.int .i64 n, .slice A l.length c, .int .i64 a, .int .i64 b] w (BelowRet w (.bool true)) := by
  go_enter Try.func8, Try.ntmps8
  go_wp2_with fail
  refine (head_any _).mono ?_
  rintro e w0 ⟨rfl, hb0⟩
  have s0 := (Sta.start w).below emp_ok hb0
  have S0 := hide s0; clear s0
  go_wp2_with fail
  refine (new_no n _ h).mono ?_
  rintro e w1 ⟨rfl, rfl⟩
  go_wp2_with fail
  refine (new_no n _ h).mono ?_
  rintro e w1 ⟨rfl, rfl⟩
  have KF := hide (few15_any A _ c l _ rfl (S0.out.src hl rfl))
  generalize fewB l = f at KF
  go_wp2_with fail
  refine KF.out.mono ?_
  rintro e w2 ⟨rfl, hb2⟩
  cases f
  · go_wp2
    go_ret
    exact ⟨rfl, (S0.out.below emp_ok hb2).bel⟩
  · go_wp2
    go_ret
    exact ⟨rfl, (S0.out.below emp_ok hb2).bel⟩
set_option maxRecDepth 100000 in
set_option maxHeartbeats 400000 in
theorem lines_much (n : Int) (A : Option Addr) (c : Nat) (l : List Step) (a b : Int) (w : World) (h1 : 1 ≤ n) (h2 : n ≤ 8) (hf : fewB l = false ∨ a = b) (hl : Src w A l.length 6 (steps l)) :
    Calls Try.prog 8 #[.int .i64 n, .slice A l.length c, .int .i64 a, .int .i64 b] w (BelowRet w (.bool true)) := by
  have hab : (a == b) = decide (a = b) := by by_cases h : a = b <;> simp [h]
  have HF := hide hf; have HAB := hide hab; clear hf hab
  go_enter Try.func8, Try.ntmps8
  go_wp2_with fail
  refine (head_any _).mono ?_
  rintro e w0 ⟨rfl, hb0⟩
  have s0 := (Sta.start w).below emp_ok hb0
  have S0 := hide s0; clear s0
  go_wp2_with fail
  refine (new_post n _ h1 h2).mono ?_
  rintro e w1 ⟨p, rfl, hp⟩
  have S1 := hide (S0.out.fresh emp_ok hp)
  clear hp
  go_wp2_with fail
  refine (new_post n _ h1 h2).mono ?_
  rintro e w2 ⟨p2, rfl, hp2⟩
  have S2 := hide (S1.out.fresh (star_ok netO_ok emp_ok) hp2)
  clear hp2
  have KF := hide (few15_any A _ c l _ rfl (S2.out.src hl rfl))
  cases hfl : fewB l with
  | false =>
    rw [hfl] at KF
    clear hfl
    go_wp2_with fail
    refine KF.out.mono ?_
    rintro e w3 ⟨rfl, hb3⟩
    go_wp2
    go_ret
    exact ⟨rfl, (S2.out.below (star_ok netO_ok (star_ok netO_ok emp_ok)) hb3).bel⟩
  | true =>
    rw [hfl] at KF
    have he : a = b := HF.out.elim (fun e => by rw [hfl] at e; cases e) id
    have hab : (a == b) = true := by simpa using he
    clear he hfl
    go_wp2_with fail
    refine KF.out.mono ?_
    rintro e w3 ⟨rfl, hb3⟩
    go_wp2
    go_ret
    exact ⟨rfl, (S2.out.below (star_ok netO_ok (star_ok netO_ok emp_ok)) hb3).bel⟩

set_option maxHeartbeats 8000000 in
set_option maxRecDepth 100000 in
theorem lines_any (n : Int) (A : Option Addr) (c : Nat) (l : List Step) (a b : Int) (w : World) (h1 : 1 ≤ n) (h2 : n ≤ 8) (hf : fewB l = true) (hne : a ≠ b) (hl : Src w A l.length 6 (steps l)) :
    Calls Try.prog 8 #[.int .i64 n, .slice A l.length c, .int .i64 a, .int .i64 b] w (BelowRet w (.bool true)) := by
  have hn : l.length ≤ 150 := by simp [fewB] at hf; omega
  have hab : (a == b) = false := by simpa using hne
  have hba : (b == a) = false := by simpa using Ne.symm hne
  have HL := hide hl
  have HNE := hide hne
  clear hne
  go_enter Try.func8, Try.ntmps8
  go_wp2_with fail
  refine (head_any _).mono ?_
  rintro e w0 ⟨rfl, hb0⟩
  have s0 := (Sta.start w).below emp_ok hb0
  have S0 := hide s0; clear s0
  go_wp2_with fail
  refine (new_post n _ h1 h2).mono ?_
  rintro e w1 ⟨p, rfl, hp⟩
  have S1 := hide (S0.out.fresh emp_ok hp)
  clear hp
  go_wp2_with fail
  refine (new_post n _ h1 h2).mono ?_
  rintro e w2 ⟨p2, rfl, hp2⟩
  have S2 := hide (S1.out.fresh (star_ok netO_ok emp_ok) hp2)
  clear hp2
  have KF := hide (few15_any A _ c l _ rfl (S2.out.src hl rfl))
  rw [hf] at KF
  clear hf hl
  go_wp2_with fail
  refine KF.out.mono ?_
  rintro e w3 ⟨rfl, hb3⟩
  have S3 : Hid (Sta w.heap.size w (star (NetO (m0 n) p) (NetO (m0 n) p2)) w3) :=
    (S2.out.below (star_ok netO_ok (star_ok netO_ok emp_ok)) hb3).rot.imp fun _ _ h => star_mono h (fun _ h => h) (fun _ h => star_emp h)
  clear hb3 hb0
  go_wp2
  go_loopw [14, 15] (fun v i wr => ∃ (k : Nat) (ct : Bool) (M1 M2 : NetM), k ≤ l.length ∧ i = .int .i64 k ∧ v = .bool ct ∧ (ct = true → CutOff a b M1) ∧ Agree a b M1 M2 ∧ Sta w.heap.size w (star (NetO M1 p) (NetO M2 p2)) wr) (fun _ i _ => l.length - (intOf i).toNat)
  case atStart => exact ⟨0, false, _, _, by omega, rfl, rfl, (fun h => (Bool.false_ne_true h).elim), Agree.refl _ _ _, S3.out⟩
  case round =>
    obtain ⟨k, ct, M1, M2, hk, rfl, rfl, hcut, hag, hS⟩ := hrel
    have HS := hide hS; have HC := hide hcut; have HG := hide hag
    clear hS hcut hag
    by_cases hlt : k < l.length
    · obtain ⟨bb, o, rfl, hcl⟩ := HL.out.open_ (by omega) (by omega)
      have HA : Hid (StepAt w bb (o + k * 6) l[k]) := stepAt hcl hlt
      clear hcl
      generalize l[k] = x at HA
      obtain ⟨xk, xa, xb, xt, xl, xg⟩ := x
      obtain ⟨c0, c1, c2, c3, c4, c5⟩ := HA.out.sta HS.out rfl
      simp only [] at c0 c1 c2 c3 c4 c5
      obtain ⟨F, hN, -, hback⟩ := HS.out.take netO_ok
      obtain ⟨r, hr⟩ : ∃ r, doR M1 ⟨xk, xa, xb, xt, xl, xg⟩ = r := ⟨_, rfl⟩
      have KD := hide (do_at hN _ hr rfl)
      have HB := hide hback
      have HR := hide hr
      clear hN hback hr
      simp only [] at KD
      go_wp2_with fail
      refine KD.out.mono ?_
      rintro e w4 ⟨rfl, hp4⟩
      have S4 := hide (HB.out _ _ hp4)
      clear hp4 c0 c1 c2 c3 c4 c5
      obtain ⟨re, rt, ro⟩ := r
      simp only []
      go_upto_region 11 with (fail)
      have s5 := S4.out.fresh (star_ok netO_ok netO_ok) (cell_new w4 #[.int .i64 re, .string rt, .bool ro] 42)
      generalize w4.alloc (.cells #[.int .i64 re, .string rt, .bool ro] 42) = w5 at *
      generalize w4.heap.size = g at *
      have S5 := hide s5
      obtain ⟨F5, ⟨hwb, -⟩, -⟩ := s5.fst
      obtain ⟨⟨e0, e1, e2⟩, -⟩ := row3 hwb
      clear s5 hwb
      obtain ⟨c0, c1, c2, c3, c4, c5⟩ := HA.out.sta S5.out rfl
      simp only [] at c0 c1 c2 c3 c4 c5
      by_cases hA : xa = a
      · by_cases hB : xb = b
        · skip
          have ha : (xa == a) = true := by simpa using hA
          have hb : (xb == b) = true := by simpa using hB
          have hrel : Rel a b ⟨xk, xa, xb, xt, xl, xg⟩ := .inl ⟨hA, hB⟩
          obtain ⟨hd1, hd2⟩ := agree_do HG.out hrel
          obtain ⟨F5', hN5, -, hback5⟩ := (S5.out.below (star_ok cell_ok (star_ok netO_ok netO_ok)) (below_drew (Below.refl _ _))).last.take (star_ok cell_ok netO_ok)
          have KD2 := hide (do_at hN5 _ (hd1.symm.trans HR.out) rfl)
          have HAG := hide hd2; have HREL := hide hrel; have HB5 := hide hback5
          simp only [] at KD2
          have hq : ∀ w', (binOp .neq 42 (.agg #[.int .i64 re, .string rt, .bool ro]) (.agg #[.int .i64 re, .string rt, .bool ro])).run Try.prog w' = .ok (.bool false) w' := fun w' => run_neq_res_self _ _ _ w'
          clear hA hB hrel hd1 hd2 hN5 hback5
          try clear hA2
          go_wp2
          refine wp_region_lex (fun w' => w'.cell? ⟨bb, o + k * 6, none⟩ = some (.int .i64 xk) ∧ w'.cell? ⟨bb, o + k * 6 + 1, none⟩ = some (.int .i64 xa) ∧ w'.cell? ⟨bb, o + k * 6 + 2, none⟩ = some (.int .i64 xb) ∧ w'.cell? ⟨bb, o + k * 6 + 3, none⟩ = some (.string xt) ∧ w'.cell? ⟨bb, o + k * 6 + 4, none⟩ = some (.bool xl) ∧ w'.cell? ⟨bb, o + k * 6 + 5, none⟩ = some (.bool xg) ∧ w'.cell? ⟨g, 0, none⟩ = some (.int .i64 re) ∧ w'.cell? ⟨g, 1, none⟩ = some (.string rt) ∧ w'.cell? ⟨g, 2, none⟩ = some (.bool ro)) (by kernel_rfl) (by kernel_rfl) (by exact ⟨c0, c1, c2, c3, c4, c5, e0, e1, e2⟩) ?_
          (repeat (first | (refine lex_skip (by rfl) ?_; try simp only [Act.put, List.setIfInBounds_toArray, List.set_cons_zero, List.set_cons_succ]) | (refine lex_read (v := ?_) (by rfl) ?_ ?_; rotate_left; (focus (intro w' hS'; go_simp; (try with_reducible rfl); done)); try simp only [Act.put, List.setIfInBounds_toArray, List.set_cons_zero, List.set_cons_succ])))
          refine lex_chain rfl (by rfl) (fun K hK => ?_)
          go_wp2_with fail
          refine (KD2.out).mono ?_
          rintro e w6 ⟨rfl, hp6⟩
          have s6 := HB5.out _ _ hp6
          obtain ⟨F6, ⟨hw6, -⟩, -⟩ := s6.rot.fst
          obtain ⟨⟨f0, f1, f2⟩, -⟩ := row3 hw6
          have S6 := hide s6.rot.drop.swap
          obtain ⟨d0, d1, d2, d3, d4, d5⟩ := HA.out.sta S6.out rfl
          simp only [] at d0 d1 d2 d3 d4 d5
          clear s6 hw6 hp6 c0 c1 c2 c3 c4 c5 e0 e1 e2
          refine hK.out _ _ ⟨d0, d1, d2, d3, d4, d5, f0, f1, f2⟩ ?_
          (repeat (first | (refine lex_skip (by rfl) ?_; try simp only [Act.put, List.setIfInBounds_toArray, List.set_cons_zero, List.set_cons_succ]) | (refine lex_read (v := ?_) (by rfl) ?_ ?_; rotate_left; (focus (intro w' hS'; go_simp; (try with_reducible rfl); done)); try simp only [Act.put, List.setIfInBounds_toArray, List.set_cons_zero, List.set_cons_succ])))
          by_cases h0 : xk = 0
          · cases ct with
            | true =>
              have g0 : (xk == 0) = true := by simp [*]
              have g2 : (xk == 2) = false := by simp [*]
              have hct := hide (cut_step HC.out HREL.out (by rw [HR.out]; exact .inl ⟨rfl, .inl h0⟩))
              skip
              refine lex_nil ?_
              have s7 := S6.out
              have hcw := hct.out
              obtain ⟨F7, hN7, -, -⟩ := s7.take netO_ok
              have K1 := hide (waiting_post hN7 a b hcw.wait.1)
              have S7 := hide s7; have HCW := hide hcw
              clear s7 hN7 hcw
              go_wp2_with fail
              refine K1.out.mono ?_
              rintro e w8 ⟨v8, rfl, ho8, hb8⟩
              obtain ⟨A8, c8, rfl⟩ := own_form (n := 0) ho8
              have s8 := S7.out.below (star_ok netO_ok netO_ok) hb8
              obtain ⟨F8, hN8, -, -⟩ := s8.take netO_ok
              have K2 := hide (waiting_post hN8 b a HCW.out.wait.2)
              have S8 := hide s8
              clear ho8 hb8 s8 hN8
              go_wp2_with fail
              refine K2.out.mono ?_
              rintro e w9 ⟨v9, rfl, ho9, hb9⟩
              obtain ⟨A9, c9, rfl⟩ := own_form (n := 0) ho9
              have s9 := S8.out.below (star_ok netO_ok netO_ok) hb9
              have S9 := hide s9
              clear ho9 hb9 s9
              go_wp2
              go_roundw
              case rel => exact ⟨k + 1, true, _, _, hlt, by go_num, rfl, (fun _ => HCW.out), HAG.out, S9.out⟩
              case measure => simp [intOf]; omega
            | false =>
              have g0 : (xk == 0) = true := by simp [*]
              have g2 : (xk == 2) = false := by simp [*]
              skip
              refine lex_nil ?_
              go_wp2
              go_roundw
              case rel => exact ⟨k + 1, false, _, _, hlt, by go_num, rfl, (fun h => (Bool.false_ne_true h).elim), HAG.out, S6.out⟩
              case measure => simp [intOf]; omega
          · by_cases h1' : xk = 1
            · cases ct with
              | true =>
                have g0 : (xk == 0) = false := by simp [*]
                have g1 : (xk == 1) = true := by simp [*]
                have g2 : (xk == 2) = false := by simp [*]
                have hct := hide (cut_step HC.out HREL.out (by rw [HR.out]; exact .inl ⟨rfl, .inr (.inl h1')⟩))
                skip
                refine lex_nil ?_
                have s7 := S6.out
                have hcw := hct.out
                obtain ⟨F7, hN7, -, -⟩ := s7.take netO_ok
                have K1 := hide (waiting_post hN7 a b hcw.wait.1)
                have S7 := hide s7; have HCW := hide hcw
                clear s7 hN7 hcw
                go_wp2_with fail
                refine K1.out.mono ?_
                rintro e w8 ⟨v8, rfl, ho8, hb8⟩
                obtain ⟨A8, c8, rfl⟩ := own_form (n := 0) ho8
                have s8 := S7.out.below (star_ok netO_ok netO_ok) hb8
                obtain ⟨F8, hN8, -, -⟩ := s8.take netO_ok
                have K2 := hide (waiting_post hN8 b a HCW.out.wait.2)
                have S8 := hide s8
                clear ho8 hb8 s8 hN8
                go_wp2_with fail
                refine K2.out.mono ?_
                rintro e w9 ⟨v9, rfl, ho9, hb9⟩
                obtain ⟨A9, c9, rfl⟩ := own_form (n := 0) ho9
                have s9 := S8.out.below (star_ok netO_ok netO_ok) hb9
                have S9 := hide s9
                clear ho9 hb9 s9
                go_wp2
                go_roundw
                case rel => exact ⟨k + 1, true, _, _, hlt, by go_num, rfl, (fun _ => HCW.out), HAG.out, S9.out⟩
                case measure => simp [intOf]; omega
              | false =>
                have g0 : (xk == 0) = false := by simp [*]
                have g1 : (xk == 1) = true := by simp [*]
                have g2 : (xk == 2) = false := by simp [*]
                skip
                refine lex_nil ?_
                go_wp2
                go_roundw
                case rel => exact ⟨k + 1, false, _, _, hlt, by go_num, rfl, (fun h => (Bool.false_ne_true h).elim), HAG.out, S6.out⟩
                case measure => simp [intOf]; omega
            · by_cases h2' : xk = 2
              · cases ct with
                | true =>
                  have g0 : (xk == 0) = false := by simp [*]
                  have g1 : (xk == 1) = false := by simp [*]
                  have g2 : (xk == 2) = true := by simp [*]
                  have hct := hide (cut_step HC.out HREL.out (by rw [HR.out]; exact .inl ⟨rfl, .inr (.inr (.inl h2'))⟩))
                  skip
                  refine lex_nil ?_
                  have s7 := S6.out
                  have hcw := hct.out
                  obtain ⟨F7, hN7, -, -⟩ := s7.take netO_ok
                  have K1 := hide (waiting_post hN7 a b hcw.wait.1)
                  have S7 := hide s7; have HCW := hide hcw
                  clear s7 hN7 hcw
                  go_wp2_with fail
                  refine K1.out.mono ?_
                  rintro e w8 ⟨v8, rfl, ho8, hb8⟩
                  obtain ⟨A8, c8, rfl⟩ := own_form (n := 0) ho8
                  have s8 := S7.out.below (star_ok netO_ok netO_ok) hb8
                  obtain ⟨F8, hN8, -, -⟩ := s8.take netO_ok
                  have K2 := hide (waiting_post hN8 b a HCW.out.wait.2)
                  have S8 := hide s8
                  clear ho8 hb8 s8 hN8
                  go_wp2_with fail
                  refine K2.out.mono ?_
                  rintro e w9 ⟨v9, rfl, ho9, hb9⟩
                  obtain ⟨A9, c9, rfl⟩ := own_form (n := 0) ho9
                  have s9 := S8.out.below (star_ok netO_ok netO_ok) hb9
                  have S9 := hide s9
                  clear ho9 hb9 s9
                  go_wp2
                  go_roundw
                  case rel => exact ⟨k + 1, true, _, _, hlt, by go_num, rfl, (fun _ => HCW.out), HAG.out, S9.out⟩
                  case measure => simp [intOf]; omega
                | false =>
                  by_cases hre : re = 0
                  · skip
                    have g0 : (xk == 0) = false := by simp [*]
                    have g1 : (xk == 1) = false := by simp [*]
                    have g2 : (xk == 2) = true := by simp [*]
                    have ge : (re == 0) = true := by simp [*]
                    have ge2 : (re != 0) = false := by simp [*]
                    have hct := hide (cut_step HC.out HREL.out (by rw [HR.out]; exact .inr ⟨h2', hre⟩))
                    skip
                    refine lex_nil ?_
                    have s7 := S6.out
                    have hcw := hct.out
                    obtain ⟨F7, hN7, -, -⟩ := s7.take netO_ok
                    have K1 := hide (waiting_post hN7 a b hcw.wait.1)
                    have S7 := hide s7; have HCW := hide hcw
                    clear s7 hN7 hcw
                    go_wp2_with fail
                    refine K1.out.mono ?_
                    rintro e w8 ⟨v8, rfl, ho8, hb8⟩
                    obtain ⟨A8, c8, rfl⟩ := own_form (n := 0) ho8
                    have s8 := S7.out.below (star_ok netO_ok netO_ok) hb8
                    obtain ⟨F8, hN8, -, -⟩ := s8.take netO_ok
                    have K2 := hide (waiting_post hN8 b a HCW.out.wait.2)
                    have S8 := hide s8
                    clear ho8 hb8 s8 hN8
                    go_wp2_with fail
                    refine K2.out.mono ?_
                    rintro e w9 ⟨v9, rfl, ho9, hb9⟩
                    obtain ⟨A9, c9, rfl⟩ := own_form (n := 0) ho9
                    have s9 := S8.out.below (star_ok netO_ok netO_ok) hb9
                    have S9 := hide s9
                    clear ho9 hb9 s9
                    go_wp2
                    go_roundw
                    case rel => exact ⟨k + 1, true, _, _, hlt, by go_num, rfl, (fun _ => HCW.out), HAG.out, S9.out⟩
                    case measure => simp [intOf]; omega
                  · skip
                    have g0 : (xk == 0) = false := by simp [*]
                    have g1 : (xk == 1) = false := by simp [*]
                    have g2 : (xk == 2) = true := by simp [*]
                    have ge : (re == 0) = false := by simp [*]
                    have ge2 : (re != 0) = true := by simp [*]
                    skip
                    refine lex_nil ?_
                    go_wp2
                    go_roundw
                    case rel => exact ⟨k + 1, false, _, _, hlt, by go_num, rfl, (fun h => (Bool.false_ne_true h).elim), HAG.out, S6.out⟩
                    case measure => simp [intOf]; omega
              · cases ct with
                | false =>
                  have g0 : (xk == 0) = false := by simp [*]
                  have g1 : (xk == 1) = false := by simp [*]
                  have g2 : (xk == 2) = false := by simp [*]
                  skip
                  refine lex_nil ?_
                  go_wp2
                  go_roundw
                  case rel => exact ⟨k + 1, false, _, _, hlt, by go_num, rfl, (fun h => (Bool.false_ne_true h).elim), HAG.out, S6.out⟩
                  case measure => simp [intOf]; omega
                | true =>
                  by_cases hre : re = 0
                  · skip
                    have g0 : (xk == 0) = false := by simp [*]
                    have g1 : (xk == 1) = false := by simp [*]
                    have g2 : (xk == 2) = false := by simp [*]
                    have ge : (re == 0) = true := by simp [*]
                    have ge2 : (re != 0) = false := by simp [*]
                    skip
                    refine lex_nil ?_
                    go_wp2
                    go_roundw
                    case rel => exact ⟨k + 1, false, _, _, hlt, by go_num, rfl, (fun h => (Bool.false_ne_true h).elim), HAG.out, S6.out⟩
                    case measure => simp [intOf]; omega
                  · skip
                    have g0 : (xk == 0) = false := by simp [*]
                    have g1 : (xk == 1) = false := by simp [*]
                    have g2 : (xk == 2) = false := by simp [*]
                    have ge : (re == 0) = false := by simp [*]
                    have ge2 : (re != 0) = true := by simp [*]
                    have hct := hide (cut_step HC.out HREL.out (by rw [HR.out]; exact .inl ⟨rfl, .inr (.inr (.inr hre))⟩))
                    skip
                    refine lex_nil ?_
                    have s7 := S6.out
                    have hcw := hct.out
                    obtain ⟨F7, hN7, -, -⟩ := s7.take netO_ok
                    have K1 := hide (waiting_post hN7 a b hcw.wait.1)
                    have S7 := hide s7; have HCW := hide hcw
                    clear s7 hN7 hcw
                    go_wp2_with fail
                    refine K1.out.mono ?_
                    rintro e w8 ⟨v8, rfl, ho8, hb8⟩
                    obtain ⟨A8, c8, rfl⟩ := own_form (n := 0) ho8
                    have s8 := S7.out.below (star_ok netO_ok netO_ok) hb8
                    obtain ⟨F8, hN8, -, -⟩ := s8.take netO_ok
                    have K2 := hide (waiting_post hN8 b a HCW.out.wait.2)
                    have S8 := hide s8
                    clear ho8 hb8 s8 hN8
                    go_wp2_with fail
                    refine K2.out.mono ?_
                    rintro e w9 ⟨v9, rfl, ho9, hb9⟩
                    obtain ⟨A9, c9, rfl⟩ := own_form (n := 0) ho9
                    have s9 := S8.out.below (star_ok netO_ok netO_ok) hb9
                    have S9 := hide s9
                    clear ho9 hb9 s9
                    go_wp2
                    go_roundw
                    case rel => exact ⟨k + 1, true, _, _, hlt, by go_num, rfl, (fun _ => HCW.out), HAG.out, S9.out⟩
                    case measure => simp [intOf]; omega
        · skip
          have ha : (xa == a) = true := by simpa using hA
          have hb : (xb == b) = false := by simpa using hB
          have ha2 : (xa == b) = false := by rw [hA]; exact hab
          have hnr : ¬ Rel a b ⟨xk, xa, xb, xt, xl, xg⟩ := by rintro (⟨_, h⟩ | ⟨h, _⟩); exact hB h; exact HNE.out (hA.symm.trans h)
          have HAG := hide (agree_self (m := M1) hnr)
          clear hnr hA
          try clear hA2
          cases ct with
          | false =>
            go_wp2
            go_roundw
            case rel => exact ⟨k + 1, false, _, _, hlt, by go_num, rfl, (fun h => (Bool.false_ne_true h).elim), HAG.out.trans HG.out, S5.out.drop⟩
            case measure => simp [intOf]; omega
          | true =>
            skip
            have s7 := S5.out.drop
            have hcw := (HC.out rfl).of_agree HAG.out
            obtain ⟨F7, hN7, -, -⟩ := s7.take netO_ok
            have K1 := hide (waiting_post hN7 a b hcw.wait.1)
            have S7 := hide s7; have HCW := hide hcw
            clear s7 hN7 hcw
            go_wp2_with fail
            refine K1.out.mono ?_
            rintro e w8 ⟨v8, rfl, ho8, hb8⟩
            obtain ⟨A8, c8, rfl⟩ := own_form (n := 0) ho8
            have s8 := S7.out.below (star_ok netO_ok netO_ok) hb8
            obtain ⟨F8, hN8, -, -⟩ := s8.take netO_ok
            have K2 := hide (waiting_post hN8 b a HCW.out.wait.2)
            have S8 := hide s8
            clear ho8 hb8 s8 hN8
            go_wp2_with fail
            refine K2.out.mono ?_
            rintro e w9 ⟨v9, rfl, ho9, hb9⟩
            obtain ⟨A9, c9, rfl⟩ := own_form (n := 0) ho9
            have s9 := S8.out.below (star_ok netO_ok netO_ok) hb9
            have S9 := hide s9
            clear ho9 hb9 s9
            go_wp2
            go_roundw
            case rel => exact ⟨k + 1, true, _, _, hlt, by go_num, rfl, (fun _ => HCW.out), HAG.out.trans HG.out, S9.out⟩
            case measure => simp [intOf]; omega
      · by_cases hA2 : xa = b
        · by_cases hB : xb = a
          · skip
            have ha : (xa == a) = false := by simpa using hA
            have ha2 : (xa == b) = true := by simpa using hA2
            have hb : (xb == a) = true := by simpa using hB
            have hrel : Rel a b ⟨xk, xa, xb, xt, xl, xg⟩ := .inr ⟨hA2, hB⟩
            obtain ⟨hd1, hd2⟩ := agree_do HG.out hrel
            obtain ⟨F5', hN5, -, hback5⟩ := (S5.out.below (star_ok cell_ok (star_ok netO_ok netO_ok)) (below_drew (Below.refl _ _))).last.take (star_ok cell_ok netO_ok)
            have KD2 := hide (do_at hN5 _ (hd1.symm.trans HR.out) rfl)
            have HAG := hide hd2; have HREL := hide hrel; have HB5 := hide hback5
            simp only [] at KD2
            have hq : ∀ w', (binOp .neq 42 (.agg #[.int .i64 re, .string rt, .bool ro]) (.agg #[.int .i64 re, .string rt, .bool ro])).run Try.prog w' = .ok (.bool false) w' := fun w' => run_neq_res_self _ _ _ w'
            clear hA hB hrel hd1 hd2 hN5 hback5
            try clear hA2
            go_wp2
            refine wp_region_lex (fun w' => w'.cell? ⟨bb, o + k * 6, none⟩ = some (.int .i64 xk) ∧ w'.cell? ⟨bb, o + k * 6 + 1, none⟩ = some (.int .i64 xa) ∧ w'.cell? ⟨bb, o + k * 6 + 2, none⟩ = some (.int .i64 xb) ∧ w'.cell? ⟨bb, o + k * 6 + 3, none⟩ = some (.string xt) ∧ w'.cell? ⟨bb, o + k * 6 + 4, none⟩ = some (.bool xl) ∧ w'.cell? ⟨bb, o + k * 6 + 5, none⟩ = some (.bool xg) ∧ w'.cell? ⟨g, 0, none⟩ = some (.int .i64 re) ∧ w'.cell? ⟨g, 1, none⟩ = some (.string rt) ∧ w'.cell? ⟨g, 2, none⟩ = some (.bool ro)) (by kernel_rfl) (by kernel_rfl) (by exact ⟨c0, c1, c2, c3, c4, c5, e0, e1, e2⟩) ?_
            (repeat (first | (refine lex_skip (by rfl) ?_; try simp only [Act.put, List.setIfInBounds_toArray, List.set_cons_zero, List.set_cons_succ]) | (refine lex_read (v := ?_) (by rfl) ?_ ?_; rotate_left; (focus (intro w' hS'; go_simp; (try with_reducible rfl); done)); try simp only [Act.put, List.setIfInBounds_toArray, List.set_cons_zero, List.set_cons_succ])))
            refine lex_chain rfl (by rfl) (fun K hK => ?_)
            go_wp2_with fail
            refine (KD2.out).mono ?_
            rintro e w6 ⟨rfl, hp6⟩
            have s6 := HB5.out _ _ hp6
            obtain ⟨F6, ⟨hw6, -⟩, -⟩ := s6.rot.fst
            obtain ⟨⟨f0, f1, f2⟩, -⟩ := row3 hw6
            have S6 := hide s6.rot.drop.swap
            obtain ⟨d0, d1, d2, d3, d4, d5⟩ := HA.out.sta S6.out rfl
            simp only [] at d0 d1 d2 d3 d4 d5
            clear s6 hw6 hp6 c0 c1 c2 c3 c4 c5 e0 e1 e2
            refine hK.out _ _ ⟨d0, d1, d2, d3, d4, d5, f0, f1, f2⟩ ?_
            (repeat (first | (refine lex_skip (by rfl) ?_; try simp only [Act.put, List.setIfInBounds_toArray, List.set_cons_zero, List.set_cons_succ]) | (refine lex_read (v := ?_) (by rfl) ?_ ?_; rotate_left; (focus (intro w' hS'; go_simp; (try with_reducible rfl); done)); try simp only [Act.put, List.setIfInBounds_toArray, List.set_cons_zero, List.set_cons_succ])))
            by_cases h0 : xk = 0
            · cases ct with
              | true =>
                have g0 : (xk == 0) = true := by simp [*]
                have g2 : (xk == 2) = false := by simp [*]
                have hct := hide (cut_step HC.out HREL.out (by rw [HR.out]; exact .inl ⟨rfl, .inl h0⟩))
                skip
                refine lex_nil ?_
                have s7 := S6.out
                have hcw := hct.out
                obtain ⟨F7, hN7, -, -⟩ := s7.take netO_ok
                have K1 := hide (waiting_post hN7 a b hcw.wait.1)
                have S7 := hide s7; have HCW := hide hcw
                clear s7 hN7 hcw
                go_wp2_with fail
                refine K1.out.mono ?_
                rintro e w8 ⟨v8, rfl, ho8, hb8⟩
                obtain ⟨A8, c8, rfl⟩ := own_form (n := 0) ho8
                have s8 := S7.out.below (star_ok netO_ok netO_ok) hb8
                obtain ⟨F8, hN8, -, -⟩ := s8.take netO_ok
                have K2 := hide (waiting_post hN8 b a HCW.out.wait.2)
                have S8 := hide s8
                clear ho8 hb8 s8 hN8
                go_wp2_with fail
                refine K2.out.mono ?_
                rintro e w9 ⟨v9, rfl, ho9, hb9⟩
                obtain ⟨A9, c9, rfl⟩ := own_form (n := 0) ho9
                have s9 := S8.out.below (star_ok netO_ok netO_ok) hb9
                have S9 := hide s9
                clear ho9 hb9 s9
                go_wp2
                go_roundw
                case rel => exact ⟨k + 1, true, _, _, hlt, by go_num, rfl, (fun _ => HCW.out), HAG.out, S9.out⟩
                case measure => simp [intOf]; omega
              | false =>
                have g0 : (xk == 0) = true := by simp [*]
                have g2 : (xk == 2) = false := by simp [*]
                skip
                refine lex_nil ?_
                go_wp2
                go_roundw
                case rel => exact ⟨k + 1, false, _, _, hlt, by go_num, rfl, (fun h => (Bool.false_ne_true h).elim), HAG.out, S6.out⟩
                case measure => simp [intOf]; omega
            · by_cases h1' : xk = 1
              · cases ct with
                | true =>
                  have g0 : (xk == 0) = false := by simp [*]
                  have g1 : (xk == 1) = true := by simp [*]
                  have g2 : (xk == 2) = false := by simp [*]
                  have hct := hide (cut_step HC.out HREL.out (by rw [HR.out]; exact .inl ⟨rfl, .inr (.inl h1')⟩))
                  skip
                  refine lex_nil ?_
                  have s7 := S6.out
                  have hcw := hct.out
                  obtain ⟨F7, hN7, -, -⟩ := s7.take netO_ok
                  have K1 := hide (waiting_post hN7 a b hcw.wait.1)
                  have S7 := hide s7; have HCW := hide hcw
                  clear s7 hN7 hcw
                  go_wp2_with fail
                  refine K1.out.mono ?_
                  rintro e w8 ⟨v8, rfl, ho8, hb8⟩
                  obtain ⟨A8, c8, rfl⟩ := own_form (n := 0) ho8
                  have s8 := S7.out.below (star_ok netO_ok netO_ok) hb8
                  obtain ⟨F8, hN8, -, -⟩ := s8.take netO_ok
                  have K2 := hide (waiting_post hN8 b a HCW.out.wait.2)
                  have S8 := hide s8
                  clear ho8 hb8 s8 hN8
                  go_wp2_with fail
                  refine K2.out.mono ?_
                  rintro e w9 ⟨v9, rfl, ho9, hb9⟩
                  obtain ⟨A9, c9, rfl⟩ := own_form (n := 0) ho9
                  have s9 := S8.out.below (star_ok netO_ok netO_ok) hb9
                  have S9 := hide s9
                  clear ho9 hb9 s9
                  go_wp2
                  go_roundw
                  case rel => exact ⟨k + 1, true, _, _, hlt, by go_num, rfl, (fun _ => HCW.out), HAG.out, S9.out⟩
                  case measure => simp [intOf]; omega
                | false =>
                  have g0 : (xk == 0) = false := by simp [*]
                  have g1 : (xk == 1) = true := by simp [*]
                  have g2 : (xk == 2) = false := by simp [*]
                  skip
                  refine lex_nil ?_
                  go_wp2
                  go_roundw
                  case rel => exact ⟨k + 1, false, _, _, hlt, by go_num, rfl, (fun h => (Bool.false_ne_true h).elim), HAG.out, S6.out⟩
                  case measure => simp [intOf]; omega
              · by_cases h2' : xk = 2
                · cases ct with
                  | true =>
                    have g0 : (xk == 0) = false := by simp [*]
                    have g1 : (xk == 1) = false := by simp [*]
                    have g2 : (xk == 2) = true := by simp [*]
                    have hct := hide (cut_step HC.out HREL.out (by rw [HR.out]; exact .inl ⟨rfl, .inr (.inr (.inl h2'))⟩))
                    skip
                    refine lex_nil ?_
                    have s7 := S6.out
                    have hcw := hct.out
                    obtain ⟨F7, hN7, -, -⟩ := s7.take netO_ok
                    have K1 := hide (waiting_post hN7 a b hcw.wait.1)
                    have S7 := hide s7; have HCW := hide hcw
                    clear s7 hN7 hcw
                    go_wp2_with fail
                    refine K1.out.mono ?_
                    rintro e w8 ⟨v8, rfl, ho8, hb8⟩
                    obtain ⟨A8, c8, rfl⟩ := own_form (n := 0) ho8
                    have s8 := S7.out.below (star_ok netO_ok netO_ok) hb8
                    obtain ⟨F8, hN8, -, -⟩ := s8.take netO_ok
                    have K2 := hide (waiting_post hN8 b a HCW.out.wait.2)
                    have S8 := hide s8
                    clear ho8 hb8 s8 hN8
                    go_wp2_with fail
                    refine K2.out.mono ?_
                    rintro e w9 ⟨v9, rfl, ho9, hb9⟩
                    obtain ⟨A9, c9, rfl⟩ := own_form (n := 0) ho9
                    have s9 := S8.out.below (star_ok netO_ok netO_ok) hb9
                    have S9 := hide s9
                    clear ho9 hb9 s9
                    go_wp2
                    go_roundw
                    case rel => exact ⟨k + 1, true, _, _, hlt, by go_num, rfl, (fun _ => HCW.out), HAG.out, S9.out⟩
                    case measure => simp [intOf]; omega
                  | false =>
                    by_cases hre : re = 0
                    · skip
                      have g0 : (xk == 0) = false := by simp [*]
                      have g1 : (xk == 1) = false := by simp [*]
                      have g2 : (xk == 2) = true := by simp [*]
                      have ge : (re == 0) = true := by simp [*]
                      have ge2 : (re != 0) = false := by simp [*]
                      have hct := hide (cut_step HC.out HREL.out (by rw [HR.out]; exact .inr ⟨h2', hre⟩))
                      skip
                      refine lex_nil ?_
                      have s7 := S6.out
                      have hcw := hct.out
                      obtain ⟨F7, hN7, -, -⟩ := s7.take netO_ok
                      have K1 := hide (waiting_post hN7 a b hcw.wait.1)
                      have S7 := hide s7; have HCW := hide hcw
                      clear s7 hN7 hcw
                      go_wp2_with fail
                      refine K1.out.mono ?_
                      rintro e w8 ⟨v8, rfl, ho8, hb8⟩
                      obtain ⟨A8, c8, rfl⟩ := own_form (n := 0) ho8
                      have s8 := S7.out.below (star_ok netO_ok netO_ok) hb8
                      obtain ⟨F8, hN8, -, -⟩ := s8.take netO_ok
                      have K2 := hide (waiting_post hN8 b a HCW.out.wait.2)
                      have S8 := hide s8
                      clear ho8 hb8 s8 hN8
                      go_wp2_with fail
                      refine K2.out.mono ?_
                      rintro e w9 ⟨v9, rfl, ho9, hb9⟩
                      obtain ⟨A9, c9, rfl⟩ := own_form (n := 0) ho9
                      have s9 := S8.out.below (star_ok netO_ok netO_ok) hb9
                      have S9 := hide s9
                      clear ho9 hb9 s9
                      go_wp2
                      go_roundw
                      case rel => exact ⟨k + 1, true, _, _, hlt, by go_num, rfl, (fun _ => HCW.out), HAG.out, S9.out⟩
                      case measure => simp [intOf]; omega
                    · skip
                      have g0 : (xk == 0) = false := by simp [*]
                      have g1 : (xk == 1) = false := by simp [*]
                      have g2 : (xk == 2) = true := by simp [*]
                      have ge : (re == 0) = false := by simp [*]
                      have ge2 : (re != 0) = true := by simp [*]
                      skip
                      refine lex_nil ?_
                      go_wp2
                      go_roundw
                      case rel => exact ⟨k + 1, false, _, _, hlt, by go_num, rfl, (fun h => (Bool.false_ne_true h).elim), HAG.out, S6.out⟩
                      case measure => simp [intOf]; omega
                · cases ct with
                  | false =>
                    have g0 : (xk == 0) = false := by simp [*]
                    have g1 : (xk == 1) = false := by simp [*]
                    have g2 : (xk == 2) = false := by simp [*]
                    skip
                    refine lex_nil ?_
                    go_wp2
                    go_roundw
                    case rel => exact ⟨k + 1, false, _, _, hlt, by go_num, rfl, (fun h => (Bool.false_ne_true h).elim), HAG.out, S6.out⟩
                    case measure => simp [intOf]; omega
                  | true =>
                    by_cases hre : re = 0
                    · skip
                      have g0 : (xk == 0) = false := by simp [*]
                      have g1 : (xk == 1) = false := by simp [*]
                      have g2 : (xk == 2) = false := by simp [*]
                      have ge : (re == 0) = true := by simp [*]
                      have ge2 : (re != 0) = false := by simp [*]
                      skip
                      refine lex_nil ?_
                      go_wp2
                      go_roundw
                      case rel => exact ⟨k + 1, false, _, _, hlt, by go_num, rfl, (fun h => (Bool.false_ne_true h).elim), HAG.out, S6.out⟩
                      case measure => simp [intOf]; omega
                    · skip
                      have g0 : (xk == 0) = false := by simp [*]
                      have g1 : (xk == 1) = false := by simp [*]
                      have g2 : (xk == 2) = false := by simp [*]
                      have ge : (re == 0) = false := by simp [*]
                      have ge2 : (re != 0) = true := by simp [*]
                      have hct := hide (cut_step HC.out HREL.out (by rw [HR.out]; exact .inl ⟨rfl, .inr (.inr (.inr hre))⟩))
                      skip
                      refine lex_nil ?_
                      have s7 := S6.out
                      have hcw := hct.out
                      obtain ⟨F7, hN7, -, -⟩ := s7.take netO_ok
                      have K1 := hide (waiting_post hN7 a b hcw.wait.1)
                      have S7 := hide s7; have HCW := hide hcw
                      clear s7 hN7 hcw
                      go_wp2_with fail
                      refine K1.out.mono ?_
                      rintro e w8 ⟨v8, rfl, ho8, hb8⟩
                      obtain ⟨A8, c8, rfl⟩ := own_form (n := 0) ho8
                      have s8 := S7.out.below (star_ok netO_ok netO_ok) hb8
                      obtain ⟨F8, hN8, -, -⟩ := s8.take netO_ok
                      have K2 := hide (waiting_post hN8 b a HCW.out.wait.2)
                      have S8 := hide s8
                      clear ho8 hb8 s8 hN8
                      go_wp2_with fail
                      refine K2.out.mono ?_
                      rintro e w9 ⟨v9, rfl, ho9, hb9⟩
                      obtain ⟨A9, c9, rfl⟩ := own_form (n := 0) ho9
                      have s9 := S8.out.below (star_ok netO_ok netO_ok) hb9
                      have S9 := hide s9
                      clear ho9 hb9 s9
                      go_wp2
                      go_roundw
                      case rel => exact ⟨k + 1, true, _, _, hlt, by go_num, rfl, (fun _ => HCW.out), HAG.out, S9.out⟩
                      case measure => simp [intOf]; omega
          · skip
            have ha : (xa == a) = false := by simpa using hA
            have ha2 : (xa == b) = true := by simpa using hA2
            have hb : (xb == a) = false := by simpa using hB
            have hnr : ¬ Rel a b ⟨xk, xa, xb, xt, xl, xg⟩ := by rintro (⟨h, _⟩ | ⟨_, h⟩); exact hA h; exact hB h
            have HAG := hide (agree_self (m := M1) hnr)
            clear hnr hA
            try clear hA2
            cases ct with
            | false =>
              go_wp2
              go_roundw
              case rel => exact ⟨k + 1, false, _, _, hlt, by go_num, rfl, (fun h => (Bool.false_ne_true h).elim), HAG.out.trans HG.out, S5.out.drop⟩
              case measure => simp [intOf]; omega
            | true =>
              skip
              have s7 := S5.out.drop
              have hcw := (HC.out rfl).of_agree HAG.out
              obtain ⟨F7, hN7, -, -⟩ := s7.take netO_ok
              have K1 := hide (waiting_post hN7 a b hcw.wait.1)
              have S7 := hide s7; have HCW := hide hcw
              clear s7 hN7 hcw
              go_wp2_with fail
              refine K1.out.mono ?_
              rintro e w8 ⟨v8, rfl, ho8, hb8⟩
              obtain ⟨A8, c8, rfl⟩ := own_form (n := 0) ho8
              have s8 := S7.out.below (star_ok netO_ok netO_ok) hb8
              obtain ⟨F8, hN8, -, -⟩ := s8.take netO_ok
              have K2 := hide (waiting_post hN8 b a HCW.out.wait.2)
              have S8 := hide s8
              clear ho8 hb8 s8 hN8
              go_wp2_with fail
              refine K2.out.mono ?_
              rintro e w9 ⟨v9, rfl, ho9, hb9⟩
              obtain ⟨A9, c9, rfl⟩ := own_form (n := 0) ho9
              have s9 := S8.out.below (star_ok netO_ok netO_ok) hb9
              have S9 := hide s9
              clear ho9 hb9 s9
              go_wp2
              go_roundw
              case rel => exact ⟨k + 1, true, _, _, hlt, by go_num, rfl, (fun _ => HCW.out), HAG.out.trans HG.out, S9.out⟩
              case measure => simp [intOf]; omega
        · skip
          have ha : (xa == a) = false := by simpa using hA
          have ha2 : (xa == b) = false := by simpa using hA2
          have hnr : ¬ Rel a b ⟨xk, xa, xb, xt, xl, xg⟩ := by rintro (⟨h, _⟩ | ⟨h, _⟩); exact hA h; exact hA2 h
          have HAG := hide (agree_self (m := M1) hnr)
          clear hnr hA
          try clear hA2
          cases ct with
          | false =>
            go_wp2
            go_roundw
            case rel => exact ⟨k + 1, false, _, _, hlt, by go_num, rfl, (fun h => (Bool.false_ne_true h).elim), HAG.out.trans HG.out, S5.out.drop⟩
            case measure => simp [intOf]; omega
          | true =>
            skip
            have s7 := S5.out.drop
            have hcw := (HC.out rfl).of_agree HAG.out
            obtain ⟨F7, hN7, -, -⟩ := s7.take netO_ok
            have K1 := hide (waiting_post hN7 a b hcw.wait.1)
            have S7 := hide s7; have HCW := hide hcw
            clear s7 hN7 hcw
            go_wp2_with fail
            refine K1.out.mono ?_
            rintro e w8 ⟨v8, rfl, ho8, hb8⟩
            obtain ⟨A8, c8, rfl⟩ := own_form (n := 0) ho8
            have s8 := S7.out.below (star_ok netO_ok netO_ok) hb8
            obtain ⟨F8, hN8, -, -⟩ := s8.take netO_ok
            have K2 := hide (waiting_post hN8 b a HCW.out.wait.2)
            have S8 := hide s8
            clear ho8 hb8 s8 hN8
            go_wp2_with fail
            refine K2.out.mono ?_
            rintro e w9 ⟨v9, rfl, ho9, hb9⟩
            obtain ⟨A9, c9, rfl⟩ := own_form (n := 0) ho9
            have s9 := S8.out.below (star_ok netO_ok netO_ok) hb9
            have S9 := hide s9
            clear ho9 hb9 s9
            go_wp2
            go_roundw
            case rel => exact ⟨k + 1, true, _, _, hlt, by go_num, rfl, (fun _ => HCW.out), HAG.out.trans HG.out, S9.out⟩
            case measure => simp [intOf]; omega
    · have hw := HG.out.wait
      have HW1 := hide hw.1; have HW2 := hide hw.2; clear hw
      obtain ⟨F1, hN1, -⟩ := HS.out.fst
      obtain ⟨G1, hM1, -⟩ := HS.out.swap.fst
      have hl1 := wait_len hM1 a b
      have KA1 := hide (waiting_post hN1 a b HW1.out)
      clear hN1 hM1
      generalize hq1 : waitM M2 a b = q1 at hl1 KA1
      have HQ1 := hide hq1; clear hq1
      go_wp2_with fail
      refine KA1.out.mono ?_
      rintro e x1 ⟨v1, rfl, ho1, hb1⟩
      obtain ⟨A1, c1, rfl⟩ := own_form ho1
      have T1 := hide (HS.out.fresh (star_ok netO_ok netO_ok) (row_new ho1 hb1))
      obtain ⟨H1, hM1', -⟩ := T1.out.drop.swap.fst
      have KB1 := hide (waiting_post hM1' a b HQ1.out)
      clear ho1 hb1 hM1'
      go_wp2_with fail
      refine KB1.out.mono ?_
      rintro e y1 ⟨z1, rfl, ho1, hb1⟩
      obtain ⟨B1, d1, rfl⟩ := own_form ho1
      have U1 := hide (T1.out.fresh (star_ok row_ok (star_ok netO_ok netO_ok)) (row_new ho1 hb1))
      obtain ⟨I1, hr1, -⟩ := U1.out.fst
      obtain ⟨J1, hs1, -⟩ := U1.out.drop.fst
      have KT1 := hide (texts_any (c := c1) (d := d1) (row_src hs1 (strs_one q1)) (row_src hr1 (strs_one q1)) (by omega))
      rw [decide_eq_true (rfl : q1 = q1)] at KT1
      clear ho1 hb1 hr1 hs1
      go_wp2_with fail
      refine KT1.out.mono ?_
      rintro e z1 ⟨rfl, hb1⟩
      have V1 := hide (U1.out.below (star_ok row_ok (star_ok row_ok (star_ok netO_ok netO_ok))) hb1).drop.drop
      clear hb1
      obtain ⟨F2, hN2, -⟩ := V1.out.fst
      obtain ⟨G2, hM2, -⟩ := V1.out.swap.fst
      have hl2 := wait_len hM2 b a
      have KA2 := hide (waiting_post hN2 b a HW2.out)
      clear hN2 hM2
      generalize hq2 : waitM M2 b a = q2 at hl2 KA2
      have HQ2 := hide hq2; clear hq2
      go_wp2_with fail
      refine KA2.out.mono ?_
      rintro e x2 ⟨v2, rfl, ho2, hb2⟩
      obtain ⟨A2, c2, rfl⟩ := own_form ho2
      have T2 := hide (V1.out.fresh (star_ok netO_ok netO_ok) (row_new ho2 hb2))
      obtain ⟨H2, hM2', -⟩ := T2.out.drop.swap.fst
      have KB2 := hide (waiting_post hM2' b a HQ2.out)
      clear ho2 hb2 hM2'
      go_wp2_with fail
      refine KB2.out.mono ?_
      rintro e y2 ⟨z2, rfl, ho2, hb2⟩
      obtain ⟨B2, d2, rfl⟩ := own_form ho2
      have U2 := hide (T2.out.fresh (star_ok row_ok (star_ok netO_ok netO_ok)) (row_new ho2 hb2))
      obtain ⟨I2, hr2, -⟩ := U2.out.fst
      obtain ⟨J2, hs2, -⟩ := U2.out.drop.fst
      have KT2 := hide (texts_any (c := c2) (d := d2) (row_src hs2 (strs_one q2)) (row_src hr2 (strs_one q2)) (by omega))
      rw [decide_eq_true (rfl : q2 = q2)] at KT2
      clear ho2 hb2 hr2 hs2
      go_wp2_with fail
      refine KT2.out.mono ?_
      rintro e z2 ⟨rfl, hb2⟩
      have V2 := hide (U2.out.below (star_ok row_ok (star_ok row_ok (star_ok netO_ok netO_ok))) hb2).drop.drop
      clear hb2
      go_wp2
      go_ret
      exact ⟨rfl, V2.out.bel⟩
end Go.Proofs.Ytolpcjpnjicmkaa
