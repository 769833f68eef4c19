/-
  Potential: the iterator of moves.
  Structs of plain fields: equality, and as keys of maps.
-/
import Derived.Test.YtnppgomhhcbplaaGreatDoorPO10
import Derived.Test.YtnppgomhhcbplaaGreatDoorPO5
set_option linter.unusedSimpArgs false
set_option linter.unusedVariables false
namespace Go.Proofs.YtnppgomhhcbplaaGreatDoor
open Go.RowKit Go.CH Go.CH.Scr Go.CH.Pot
open Go.ChangeMaps (setBlock)
set_option maxHeartbeats 16000000 in
set_option maxRecDepth 100000 in
theorem moves_iter {W : Wd} {s : St} {pa : PA} {b1 b2 : Nat} (hs : W.ok s) (hW : WdSmall W pa) (ha : s.a.length ≤ 1000000) :
    IterK Tryz.prog 60 #[.pointer (some ⟨b1, 0, none⟩), .pointer (some ⟨b2, 0, none⟩)] (PairR W pa) (fun _ => Zm W pa s b1 b2) encM (W.moves s) := by
  intro n lo w F0 w0 X Y okX okY hE h0 hY
  have HY := hide hY
  have HE := hide hE
  have HS := hide hs
  have HW := hide hW
  clear hY hE hs hW
  obtain ⟨N, hN⟩ : ∃ N, N = W.rs.length := ⟨_, rfl⟩
  have HN := hide hN
  refine callsIn_of_wp Tryz.func60 rfl trivial ?_ rfl
  simp only [Tryz.ntmps60, List.size_toArray, List.length_cons, List.length_nil, Nat.reduceAdd, Nat.reduceSub, Array.replicate_succ, Array.replicate_zero, List.push_toArray, List.append_toArray, List.nil_append, List.cons_append]
  have h1 : Run F0 w0 (star (Zm W pa s b1 b2) (X 0)) w.drew := h0.drew (star_ok Zm_ok (okX 0))
  have H0 := hide h1
  obtain ⟨⟨c1, c2, c3, c4⟩, d0, d1, d2, d3, d4⟩ := Zm_cells h1
  clear h0 h1
  rw [← hN] at d0
  clear hN
  refine wpIn_seq_k ?_
  intro K1 hK1
  refine wpIn_wide.2 (wp_region_lex (fun w' => w' = w.drew) (by kernel_rfl) (by kernel_rfl) rfl ?_)
  generalize w.drew = w1 at *
  (repeat (first | (refine lex_skip (by rfl) ?_; try simp only [Act.put, List.setIfInBounds_toArray, List.set_cons_zero, List.set_cons_succ]) | (refine lex_read (v := ?_) (by rfl) ?_ ?_; rotate_left; (focus (intro w' hS'; go_simp; (try with_reducible rfl); done)); try simp only [Act.put, List.setIfInBounds_toArray, List.set_cons_zero, List.set_cons_succ])))
  refine lex_nil ?_
  gi_step
  gi_step
  refine wpIn_seq_k ?_
  intro K2 hK2
  have cut : ∀ (lf : Bool) (w : World) (g14 g15 g16 g17 g18 g19 g20 g21 g22 g23 g24 g25 g26 g27 g28 g29 g30 g31 g32 g33 g34 : Value), W.left s = lf → Run F0 w0 (star (Zm W pa s b1 b2) (X 0)) w → K2 { tmps := #[.func (.yield lo) #[] #[], .pointer (some ⟨b1, 0, none⟩), .pointer (some ⟨b2, 0, none⟩), undef, .int .i64 (if lf then 0 else 1 : Int), .int .i64 (if lf then s.i else s.j : Nat), undef, undef, undef, undef, undef, undef, undef, undef, g14, g15, g16, g17, g18, g19, g20, g21, g22, g23, g24, g25, g26, g27, g28, g29, g30, g31, g32, g33, g34, undef, undef, undef, undef, undef, undef, undef, undef, undef, undef, undef, undef, undef, undef, undef, undef, undef, undef, undef, undef, undef, undef, undef, undef, undef, undef, undef, undef, undef, undef, undef, undef, undef, undef, undef, undef, undef, undef, undef, undef, undef, undef, undef, undef, undef, undef, undef, undef, undef, undef, undef, undef, undef, undef, undef, undef, undef, undef, undef, undef, undef, undef, undef, undef, undef, undef, undef, undef, undef, undef, undef, undef, undef, undef, undef, undef, undef, undef], defers := [] } w := by
    intro lf w g14 g15 g16 g17 g18 g19 g20 g21 g22 g23 g24 g25 g26 g27 g28 g29 g30 g31 g32 g33 g34 HLF hR
    have HR0 := hide hR
    have HLF := hide HLF
    obtain ⟨⟨c1, c2, c3, c4⟩, d0, d1, d2, d3, d4⟩ := Zm_cells hR
    clear hR
    rw [← HN.out] at d0
    refine hK2 _ _ ?_
    clear hK2 K2
    cases lf with
    | true =>
      have HL : W.left s = true := HLF.out
      clear HLF
      have HL := hide HL
      simp only [if_true]
      gi_wp2
      gi_loopw [38] (fun i wr => ∃ k : Nat, k ≤ N ∧ i = .int .i64 k ∧ Run F0 w0 (star (Zm W pa s b1 b2) (X (mvs W s k).length)) wr) (fun i _ => N - (intOf i).toNat)
      case atStart => exact ⟨0, Nat.zero_le _, rfl, HR0.out⟩
      case round =>
        obtain ⟨k, hk, rfl, hR⟩ := hrel
        have HR := hide hR
        clear HR0 hR c1 c2 c3 c4 d0 d1 d2 d3 d4
        obtain ⟨⟨c1, c2, c3, c4⟩, d0, d1, d2, d3, d4⟩ := Zm_cells HR.out
        rw [← HN.out] at d0
        by_cases hlt : k < N
        · have hkn : k < W.rs.length := by rw [← HN.out]; exact hlt
          have HP := hide (HE.out wr HR.out.mod)
          obtain ⟨b, o, hA, hc⟩ := HP.out.rs.at (by omega)
          have HCL := hide hc
          obtain ⟨r0, r1, r2, r3⟩ := hc wr (Below.refl _ _) k hkn
          clear hc
          rw [hA] at d0 ⊢
          have HA := hide hA
          clear hA
          gi_wp2_with fail
          have H1 := hide (run_new (HR.out) (star_ok Zm_ok (okX _)) #[.int .i64 W.rs[k].k, .string (bs W.rs[k].f), .string (bs W.rs[k].t), .int .i64 W.rs[k].c] 41)
          have HPW := hide (HP.out.below ((Below.refl _ _).alloc (Nat.le_refl _) _).drew : PairR W pa ((wr.alloc (.cells #[.int .i64 W.rs[k].k, .string (bs W.rs[k].f), .string (bs W.rs[k].t), .int .i64 W.rs[k].c] 41)).drew))
          have hkb : (k : Int) < 1000000 := by have := HW.out.rs; omega
          have HK1 := hide (show k + 1 ≤ N from hlt)
          have HSM := hide (HW.out.rl _ (List.getElem_mem hkn))
          have HNO := hide (fun h => mvs_none (s := s) hkn h)
          have HYS := hide (fun x h => mvs_some (s := s) (x := x) hkn h)
          have HTQ := hide (fun x h => mvs_at (s := s) (x := x) hkn h)
          have H2 := hide (H1.out.drew (star_ok cell_ok (star_ok Zm_ok (okX _))))
          clear H1 r0 r1 r2 r3 c1 c2 c3 c4 d0 d1 d2 d3 d4
          generalize W.rs[k] = R at *
          generalize wr.heap.size = g at *
          obtain ⟨x0, x1, x2, x3, xf⟩ := run_c4 H2.out
          obtain ⟨⟨c1, c2, c3, c4⟩, d0, d1, d2, d3, d4⟩ := Zm_cells H2.out.drop
          by_cases hkk : R.k = W.ka
          · have t1 : (R.k == W.ka) = true := by simp [hkk]
            refine wpIn_wide.2 (wp_region_lex (fun w' => w' = (wr.alloc (.cells #[.int .i64 R.k, .string (bs R.f), .string (bs R.t), .int .i64 R.c] 41)).drew) (by kernel_rfl) (by kernel_rfl) rfl ?_)
            generalize (wr.alloc (.cells #[.int .i64 R.k, .string (bs R.f), .string (bs R.t), .int .i64 R.c] 41)).drew = w2 at *
            (repeat (first | (refine lex_skip (by rfl) ?_; try simp only [Act.put, List.setIfInBounds_toArray, List.set_cons_zero, List.set_cons_succ]) | (refine lex_read (v := ?_) (by rfl) ?_ ?_; rotate_left; (focus (intro w' hS'; go_simp; (try with_reducible rfl); done)); try simp only [Act.put, List.setIfInBounds_toArray, List.set_cons_zero, List.set_cons_succ])))
            refine lex_nil ?_
            clear t1
            gi_wp2_with fail
            have HU := hide (by rw [use_l HL.out, if_pos hkk] : W.used s R = takes (W.l.drop s.i) R.f)
            clear hkk
            have HSL : ∀ W', (Instr.slice 59 (.slice pa.L W.l.length pa.lc) (some (.int .i64 (s.i : Int))) none none).run Tryz.prog W' = .ok (.slice (cutA pa.L pa.lc s.i 1) (W.l.length - s.i) (pa.lc - s.i)) W' := fun W' => run_slice_from strsOk pa.L W.l.length pa.lc s.i .i64 (s.i : Int) rfl (HS.out.1) W'
            have KT := hide (takes_cut (t := R.f) (HPW.out.l.below (below_drew (Below.refl _ _))) HS.out.1 HW.out.lc HW.out.l HSM.out.1 HW.out.ll)
            have H3 := hide (H2.out.drew (star_ok cell_ok (star_ok Zm_ok (okX _))))
            clear H2 x0 x1 x2 x3 xf c1 c2 c3 c4 d0 d1 d2 d3 d4
            obtain ⟨x0, x1, x2, x3, xf⟩ := run_c4 H3.out
            obtain ⟨⟨c1, c2, c3, c4⟩, d0, d1, d2, d3, d4⟩ := Zm_cells H3.out.drop
            refine wpIn_wide.2 (wp_region_les [8] [0, 0, 0, 0, 0, 0, 0, 0, 1, 1] (fun w' => w' = w2.drew) [] trivial rfl (by kernel_rfl) (by kernel_rfl) (by kernel_rfl) rfl ?_)
            generalize w2.drew = w3 at *
            (repeat (first | (refine les_skip (by rfl) (by rfl) ?_; try simp only [Act.put, List.setIfInBounds_toArray, List.set_cons_zero, List.set_cons_succ]) | (refine les_read (v := ?_) (by rfl) (by rfl) ?_ ?_; rotate_left; (focus (intro w' hS'; (try simp only [stL] at hS'); go_simp; (try with_reducible rfl); done)); try simp only [Act.put, List.setIfInBounds_toArray, List.set_cons_zero, List.set_cons_succ])))
            refine les_chain rfl (by rfl) (fun K hK => ?_)
            go_wp2_with fail
            refine KT.out.mono ?_
            rintro e9 w4 ⟨rfl, hb⟩
            have H4 := hide (H3.out.below (star_ok cell_ok (star_ok Zm_ok (okX _))) hb)
            refine hK.out _ _ trivial ?_
            clear hK KT hb H3 x0 x1 x2 x3 xf c1 c2 c3 c4 d0 d1 d2 d3 d4 HSL
            (repeat (first | (refine les_skip (by rfl) (by rfl) ?_; try simp only [Act.put, List.setIfInBounds_toArray, List.set_cons_zero, List.set_cons_succ]) | (refine les_read (v := ?_) (by rfl) (by rfl) ?_ ?_; rotate_left; (focus (intro w' hS'; (try simp only [stL] at hS'); go_simp; (try with_reducible rfl); done)); try simp only [Act.put, List.setIfInBounds_toArray, List.set_cons_zero, List.set_cons_succ])))
            refine les_nil ?_
            obtain ⟨m, hm⟩ : ∃ m, m = takes (W.l.drop s.i) R.f := ⟨_, rfl⟩
            rw [← hm] at HU ⊢
            have hml : m ≤ 1000000 := by rw [hm]; exact Nat.le_trans takes_le (by have := HW.out.l; rw [List.length_drop]; omega)
            clear hm
            obtain ⟨x0, x1, x2, x3, xf⟩ := run_c4 H4.out
            obtain ⟨⟨c1, c2, c3, c4⟩, d0, d1, d2, d3, d4⟩ := Zm_cells H4.out.drop
            by_cases hm0 : m = 0
            · have t1 : ((m : Int) == 0) = true := by simp [hm0]
              have HN0 := hide (HNO.out (mv_noUse (by rw [HU.out, hm0])))
              clear hm0
              gi_wp2
              go_roundw
              case rel => exact ⟨k + 1, HK1.out, by go_num, by rw [HN0.out]; exact H4.out.drop⟩
              case measure => have := HK1.out; simp [intOf]; omega
            · have t1 : ((m : Int) == 0) = false := by simp [hm0]
              have HM0 := hide hm0
              have hat : (s.i : Int) ≤ 1000000 := by have := HS.out.1; have := HW.out.l; omega
              clear hm0
              iterate 48 (first | go_values | gi_guarded | gi_step | gi_upon)
              have H5 := hide (run_new H4.out (star_ok cell_ok (star_ok Zm_ok (okX _))) #[.int .i64 s.i, .int .i64 s.j, .string (bs s.a), .bool s.r] 62)
              clear H4 x0 x1 x2 x3 xf c1 c2 c3 c4 d0 d1 d2 d3 d4
              generalize w4.alloc (.cells #[.int .i64 s.i, .int .i64 s.j, .string (bs s.a), .bool s.r] 62) = w5 at *
              generalize w4.heap.size = h at *
              obtain ⟨y0, y1, y2, y3, yf⟩ := run_c4 H5.out
              obtain ⟨x0, x1, x2, x3, xf⟩ := run_c4 H5.out.drop
              obtain ⟨⟨c1, c2, c3, c4⟩, d0, d1, d2, d3, d4⟩ := Zm_cells H5.out.drop.drop
              gi_wp2_with fail
              have H6 := hide (run_setc H5.out (star_ok cell_ok (star_ok Zm_ok (okX _))) 0 (.int .i64 ((s.i : Int) + (m : Int))) : Run F0 w0 (star (CellO h #[.int .i64 ((s.i : Int) + (m : Int)), .int .i64 s.j, .string (bs s.a), .bool s.r] 62) _) _)
              clear H5 y0 y1 y2 y3 yf x0 x1 x2 x3 xf c1 c2 c3 c4 d0 d1 d2 d3 d4
              generalize w5.setCell ⟨h, 0, none⟩ (.int .i64 ((s.i : Int) + (m : Int))) = w6 at *
              obtain ⟨y0, y1, y2, y3, yf⟩ := run_c4 H6.out
              obtain ⟨x0, x1, x2, x3, xf⟩ := run_c4 H6.out.drop
              obtain ⟨⟨c1, c2, c3, c4⟩, d0, d1, d2, d3, d4⟩ := Zm_cells H6.out.drop.drop
              have KC := hide (cutp_any s.a R.t w6)
              by_cases h1 : R.t.isPrefixOf s.a = true
              · by_cases h2 : s.a.drop R.t.length = []
                · have HAH := hide (show ¬ (R.t.isPrefixOf s.a = true ∧ s.a.drop R.t.length ≠ []) from fun h => h.2 h2)
                  rw [if_pos h1, h1, h2] at KC
                  have e1 : (bs ([] : Bs)).toList.isEmpty = true := by rw [List.isEmpty_iff]; exact bs_empty.2 rfl
                  generalize bs ([] : Bs) = z at KC e1
                  clear h1 h2
                  refine ⟨trivial, fun h => (by cases h), ?_⟩
                  gi_at_call 62
                  refine (callsIn_wide.2 KC.out).mono ?_
                  rintro e9 w9 ⟨rfl, h9⟩
                  subst w9
                  clear KC
                  dsimp only
                  gi_wp2_with fail
                  have KD := hide (cutp_any R.t s.a w6)
                  by_cases h3 : s.a.isPrefixOf R.t = true
                  · have HM := hide (HYS.out _ (mv_yes HU.out HM0.out (ah_2 HAH.out h3)))
                    have HT := hide (HTQ.out _ (mv_yes HU.out HM0.out (ah_2 HAH.out h3)))
                    rw [HL.out] at HM HT
                    rw [if_pos h3, h3] at KD
                    clear h3
                    generalize R.t.drop s.a.length = q at *
                    refine ⟨trivial, fun h => (by cases h), ?_⟩
                    gi_at_call 62
                    refine (callsIn_wide.2 KD.out).mono ?_
                    rintro e9 w9 ⟨rfl, h9⟩
                    subst w9
                    clear KD
                    dsimp only
                    iterate 28 (first | go_values | gi_guarded | gi_step | gi_upon)
                    refine wpIn_wide.2 ?_
                    go_wp2
                    have H7 := hide (run_setc (run_setc H6.out (star_ok cell_ok (star_ok Zm_ok (okX _))) 2 (.string (bs q))) (star_ok cell_ok (star_ok Zm_ok (okX _))) 3 (.bool false) : Run F0 w0 (star (CellO h #[.int .i64 ((s.i : Int) + (m : Int)), .int .i64 s.j, .string (bs q), .bool false] 62) _) _)
                    clear H6 y0 y1 y2 y3 yf x0 x1 x2 x3 xf c1 c2 c3 c4 d0 d1 d2 d3 d4
                    generalize (w6.setCell ⟨h, 2, none⟩ (.string (bs q))).setCell ⟨h, 3, none⟩ (.bool false) = w7 at *
                    obtain ⟨y0, y1, y2, y3, yf⟩ := run_c4 H7.out
                    obtain ⟨x0, x1, x2, x3, xf⟩ := run_c4 H7.out.drop
                    obtain ⟨hi, hx⟩ := HT.out
                    have hw := HY.out _ hi w7 H7.out.drop.drop
                    rw [hx] at hw
                    simp only [encM, stC, if_true, Bool.false_eq_true, if_false, Int.natCast_add, Bool.not_true, Bool.not_false, Bool.false_and, Bool.true_and] at hw
                    obtain ⟨fn, tmps, assign, body, hy, hround⟩ := hw
                    have HRD := hide hround
                    clear hround hx hi HT
                    gi_wp2
                    try rw [hy]
                    refine ⟨fun h => (by cases h), ?_⟩
                    refine HRD.out.mono ?_
                    rintro e W3 (⟨rfl, h3⟩ | ⟨rfl, h3⟩)
                    · have H8 := hide h3
                      clear HRD h3 hy H7 y0 y1 y2 y3 yf x0 x1 x2 x3 xf
                      gi_wp2
                      go_roundw
                      case rel => exact ⟨k + 1, HK1.out, by go_num, by rw [HM.out, List.length_append]; exact H8.out⟩
                      case measure => have := HK1.out; simp [intOf]; omega
                    · have HE2 := hide (show (∃ v, (Ending.returned (.tuple #[])) = .returned v) ∧ (Run F0 w0 (star (Zm W pa s b1 b2) (X (W.moves s).length)) W3 ∨ ∃ i : Nat, Run F0 w0 (star (Zm W pa s b1 b2) Y) W3) from ⟨⟨_, rfl⟩, .inr ⟨0, h3⟩⟩)
                      clear HRD h3 hy H7 y0 y1 y2 y3 yf x0 x1 x2 x3 xf
                      gi_wp2
                      refine bodyPost_ret (results_none rfl _ _ _) rfl ?_
                      exact HE2.out
                  · have HN0 := hide (HNO.out (mv_noAh (ah_3 HAH.out h3)))
                    rw [if_neg h3, Bool.eq_false_iff.2 h3] at KD
                    clear h3
                    refine ⟨trivial, fun h => (by cases h), ?_⟩
                    gi_at_call 62
                    refine (callsIn_wide.2 KD.out).mono ?_
                    rintro e9 w9 ⟨rfl, h9⟩
                    subst w9
                    clear KD
                    dsimp only
                    gi_wp2
                    go_roundw
                    case rel => exact ⟨k + 1, HK1.out, by go_num, by rw [HN0.out]; exact H6.out.drop.drop⟩
                    case measure => have := HK1.out; simp [intOf]; omega
                · have HM := hide (HYS.out _ (mv_yes HU.out HM0.out (ah_1 h1 h2)))
                  have HT := hide (HTQ.out _ (mv_yes HU.out HM0.out (ah_1 h1 h2)))
                  rw [HL.out] at HM HT
                  rw [if_pos h1, h1] at KC
                  have e1 : (bs (s.a.drop R.t.length)).toList.isEmpty = false := by rw [List.isEmpty_eq_false_iff]; exact fun h => h2 (bs_empty.1 h)
                  clear h1 h2
                  generalize s.a.drop R.t.length = q at *
                  refine ⟨trivial, fun h => (by cases h), ?_⟩
                  gi_at_call 62
                  refine (callsIn_wide.2 KC.out).mono ?_
                  rintro e9 w9 ⟨rfl, h9⟩
                  subst w9
                  clear KC
                  dsimp only
                  gi_wp2_with fail
                  have H7 := hide (run_setc H6.out (star_ok cell_ok (star_ok Zm_ok (okX _))) 2 (.string (bs q)) : Run F0 w0 (star (CellO h #[.int .i64 ((s.i : Int) + (m : Int)), .int .i64 s.j, .string (bs q), .bool s.r] 62) _) _)
                  clear H6 y0 y1 y2 y3 yf x0 x1 x2 x3 xf c1 c2 c3 c4 d0 d1 d2 d3 d4
                  generalize w6.setCell ⟨h, 2, none⟩ (.string (bs q)) = w7 at *
                  obtain ⟨y0, y1, y2, y3, yf⟩ := run_c4 H7.out
                  obtain ⟨x0, x1, x2, x3, xf⟩ := run_c4 H7.out.drop
                  obtain ⟨hi, hx⟩ := HT.out
                  have hw := HY.out _ hi w7 H7.out.drop.drop
                  rw [hx] at hw
                  simp only [encM, stC, if_true, Bool.false_eq_true, if_false, Int.natCast_add, Bool.not_true, Bool.not_false, Bool.false_and, Bool.true_and] at hw
                  obtain ⟨fn, tmps, assign, body, hy, hround⟩ := hw
                  have HRD := hide hround
                  clear hround hx hi HT
                  gi_wp2
                  try rw [hy]
                  refine ⟨fun h => (by cases h), ?_⟩
                  refine HRD.out.mono ?_
                  rintro e W3 (⟨rfl, h3⟩ | ⟨rfl, h3⟩)
                  · have H8 := hide h3
                    clear HRD h3 hy H7 y0 y1 y2 y3 yf x0 x1 x2 x3 xf
                    gi_wp2
                    go_roundw
                    case rel => exact ⟨k + 1, HK1.out, by go_num, by rw [HM.out, List.length_append]; exact H8.out⟩
                    case measure => have := HK1.out; simp [intOf]; omega
                  · have HE2 := hide (show (∃ v, (Ending.returned (.tuple #[])) = .returned v) ∧ (Run F0 w0 (star (Zm W pa s b1 b2) (X (W.moves s).length)) W3 ∨ ∃ i : Nat, Run F0 w0 (star (Zm W pa s b1 b2) Y) W3) from ⟨⟨_, rfl⟩, .inr ⟨0, h3⟩⟩)
                    clear HRD h3 hy H7 y0 y1 y2 y3 yf x0 x1 x2 x3 xf
                    gi_wp2
                    refine bodyPost_ret (results_none rfl _ _ _) rfl ?_
                    exact HE2.out
              · have HAH := hide (show ¬ (R.t.isPrefixOf s.a = true ∧ s.a.drop R.t.length ≠ []) from fun h => h1 h.1)
                rw [if_neg h1, Bool.eq_false_iff.2 h1] at KC
                clear h1
                refine ⟨trivial, fun h => (by cases h), ?_⟩
                gi_at_call 62
                refine (callsIn_wide.2 KC.out).mono ?_
                rintro e9 w9 ⟨rfl, h9⟩
                subst w9
                clear KC
                dsimp only
                gi_wp2_with fail
                have KD := hide (cutp_any R.t s.a w6)
                by_cases h3 : s.a.isPrefixOf R.t = true
                · have HM := hide (HYS.out _ (mv_yes HU.out HM0.out (ah_2 HAH.out h3)))
                  have HT := hide (HTQ.out _ (mv_yes HU.out HM0.out (ah_2 HAH.out h3)))
                  rw [HL.out] at HM HT
                  rw [if_pos h3, h3] at KD
                  clear h3
                  generalize R.t.drop s.a.length = q at *
                  refine ⟨trivial, fun h => (by cases h), ?_⟩
                  gi_at_call 62
                  refine (callsIn_wide.2 KD.out).mono ?_
                  rintro e9 w9 ⟨rfl, h9⟩
                  subst w9
                  clear KD
                  dsimp only
                  iterate 28 (first | go_values | gi_guarded | gi_step | gi_upon)
                  refine wpIn_wide.2 ?_
                  go_wp2
                  have H7 := hide (run_setc (run_setc H6.out (star_ok cell_ok (star_ok Zm_ok (okX _))) 2 (.string (bs q))) (star_ok cell_ok (star_ok Zm_ok (okX _))) 3 (.bool false) : Run F0 w0 (star (CellO h #[.int .i64 ((s.i : Int) + (m : Int)), .int .i64 s.j, .string (bs q), .bool false] 62) _) _)
                  clear H6 y0 y1 y2 y3 yf x0 x1 x2 x3 xf c1 c2 c3 c4 d0 d1 d2 d3 d4
                  generalize (w6.setCell ⟨h, 2, none⟩ (.string (bs q))).setCell ⟨h, 3, none⟩ (.bool false) = w7 at *
                  obtain ⟨y0, y1, y2, y3, yf⟩ := run_c4 H7.out
                  obtain ⟨x0, x1, x2, x3, xf⟩ := run_c4 H7.out.drop
                  obtain ⟨hi, hx⟩ := HT.out
                  have hw := HY.out _ hi w7 H7.out.drop.drop
                  rw [hx] at hw
                  simp only [encM, stC, if_true, Bool.false_eq_true, if_false, Int.natCast_add, Bool.not_true, Bool.not_false, Bool.false_and, Bool.true_and] at hw
                  obtain ⟨fn, tmps, assign, body, hy, hround⟩ := hw
                  have HRD := hide hround
                  clear hround hx hi HT
                  gi_wp2
                  try rw [hy]
                  refine ⟨fun h => (by cases h), ?_⟩
                  refine HRD.out.mono ?_
                  rintro e W3 (⟨rfl, h3⟩ | ⟨rfl, h3⟩)
                  · have H8 := hide h3
                    clear HRD h3 hy H7 y0 y1 y2 y3 yf x0 x1 x2 x3 xf
                    gi_wp2
                    go_roundw
                    case rel => exact ⟨k + 1, HK1.out, by go_num, by rw [HM.out, List.length_append]; exact H8.out⟩
                    case measure => have := HK1.out; simp [intOf]; omega
                  · have HE2 := hide (show (∃ v, (Ending.returned (.tuple #[])) = .returned v) ∧ (Run F0 w0 (star (Zm W pa s b1 b2) (X (W.moves s).length)) W3 ∨ ∃ i : Nat, Run F0 w0 (star (Zm W pa s b1 b2) Y) W3) from ⟨⟨_, rfl⟩, .inr ⟨0, h3⟩⟩)
                    clear HRD h3 hy H7 y0 y1 y2 y3 yf x0 x1 x2 x3 xf
                    gi_wp2
                    refine bodyPost_ret (results_none rfl _ _ _) rfl ?_
                    exact HE2.out
                · have HN0 := hide (HNO.out (mv_noAh (ah_3 HAH.out h3)))
                  rw [if_neg h3, Bool.eq_false_iff.2 h3] at KD
                  clear h3
                  refine ⟨trivial, fun h => (by cases h), ?_⟩
                  gi_at_call 62
                  refine (callsIn_wide.2 KD.out).mono ?_
                  rintro e9 w9 ⟨rfl, h9⟩
                  subst w9
                  clear KD
                  dsimp only
                  gi_wp2
                  go_roundw
                  case rel => exact ⟨k + 1, HK1.out, by go_num, by rw [HN0.out]; exact H6.out.drop.drop⟩
                  case measure => have := HK1.out; simp [intOf]; omega
          · have t1 : (R.k == W.ka) = false := by simp [hkk]
            refine wpIn_wide.2 (wp_region_lex (fun w' => w' = (wr.alloc (.cells #[.int .i64 R.k, .string (bs R.f), .string (bs R.t), .int .i64 R.c] 41)).drew) (by kernel_rfl) (by kernel_rfl) rfl ?_)
            have HN0 := hide (HNO.out (mv_noUse (by rw [use_l HL.out, if_neg hkk])))
            generalize (wr.alloc (.cells #[.int .i64 R.k, .string (bs R.f), .string (bs R.t), .int .i64 R.c] 41)).drew = w2 at *
            (repeat (first | (refine lex_skip (by rfl) ?_; try simp only [Act.put, List.setIfInBounds_toArray, List.set_cons_zero, List.set_cons_succ]) | (refine lex_read (v := ?_) (by rfl) ?_ ?_; rotate_left; (focus (intro w' hS'; go_simp; (try with_reducible rfl); done)); try simp only [Act.put, List.setIfInBounds_toArray, List.set_cons_zero, List.set_cons_succ])))
            refine lex_nil ?_
            gi_wp2
            go_roundw
            case rel => exact ⟨k + 1, HK1.out, by go_num, by rw [HN0.out]; exact H2.out.drop⟩
            case measure => have := HK1.out; simp [intOf]; omega
        · obtain rfl : k = N := by omega
          have HEND := hide (show (∃ v, (Ending.returned (.tuple #[])) = .returned v) ∧ (Run F0 w0 (star (Zm W pa s b1 b2) (X (W.moves s).length)) wr ∨ ∃ i : Nat, Run F0 w0 (star (Zm W pa s b1 b2) Y) wr) from ⟨⟨_, rfl⟩, .inl (by rw [← mvs_all, ← HN.out]; exact HR.out)⟩)
          gi_wp2
          go_end0
          exact HEND.out
    | false =>
      have HL : W.left s = false := HLF.out
      clear HLF
      have HL := hide HL
      simp only [Bool.false_eq_true, if_false]
      gi_wp2
      gi_loopw [38] (fun i wr => ∃ k : Nat, k ≤ N ∧ i = .int .i64 k ∧ Run F0 w0 (star (Zm W pa s b1 b2) (X (mvs W s k).length)) wr) (fun i _ => N - (intOf i).toNat)
      case atStart => exact ⟨0, Nat.zero_le _, rfl, HR0.out⟩
      case round =>
        obtain ⟨k, hk, rfl, hR⟩ := hrel
        have HR := hide hR
        clear HR0 hR c1 c2 c3 c4 d0 d1 d2 d3 d4
        obtain ⟨⟨c1, c2, c3, c4⟩, d0, d1, d2, d3, d4⟩ := Zm_cells HR.out
        rw [← HN.out] at d0
        by_cases hlt : k < N
        · have hkn : k < W.rs.length := by rw [← HN.out]; exact hlt
          have HP := hide (HE.out wr HR.out.mod)
          obtain ⟨b, o, hA, hc⟩ := HP.out.rs.at (by omega)
          have HCL := hide hc
          obtain ⟨r0, r1, r2, r3⟩ := hc wr (Below.refl _ _) k hkn
          clear hc
          rw [hA] at d0 ⊢
          have HA := hide hA
          clear hA
          gi_wp2_with fail
          have H1 := hide (run_new (HR.out) (star_ok Zm_ok (okX _)) #[.int .i64 W.rs[k].k, .string (bs W.rs[k].f), .string (bs W.rs[k].t), .int .i64 W.rs[k].c] 41)
          have HPW := hide (HP.out.below ((Below.refl _ _).alloc (Nat.le_refl _) _).drew : PairR W pa ((wr.alloc (.cells #[.int .i64 W.rs[k].k, .string (bs W.rs[k].f), .string (bs W.rs[k].t), .int .i64 W.rs[k].c] 41)).drew))
          have hkb : (k : Int) < 1000000 := by have := HW.out.rs; omega
          have HK1 := hide (show k + 1 ≤ N from hlt)
          have HSM := hide (HW.out.rl _ (List.getElem_mem hkn))
          have HNO := hide (fun h => mvs_none (s := s) hkn h)
          have HYS := hide (fun x h => mvs_some (s := s) (x := x) hkn h)
          have HTQ := hide (fun x h => mvs_at (s := s) (x := x) hkn h)
          have H2 := hide (H1.out.drew (star_ok cell_ok (star_ok Zm_ok (okX _))))
          clear H1 r0 r1 r2 r3 c1 c2 c3 c4 d0 d1 d2 d3 d4
          generalize W.rs[k] = R at *
          generalize wr.heap.size = g at *
          obtain ⟨x0, x1, x2, x3, xf⟩ := run_c4 H2.out
          obtain ⟨⟨c1, c2, c3, c4⟩, d0, d1, d2, d3, d4⟩ := Zm_cells H2.out.drop
          by_cases hkk : R.k = W.kb
          · have t1 : (R.k == W.kb) = true := by simp [hkk]
            refine wpIn_wide.2 (wp_region_lex (fun w' => w' = (wr.alloc (.cells #[.int .i64 R.k, .string (bs R.f), .string (bs R.t), .int .i64 R.c] 41)).drew) (by kernel_rfl) (by kernel_rfl) rfl ?_)
            generalize (wr.alloc (.cells #[.int .i64 R.k, .string (bs R.f), .string (bs R.t), .int .i64 R.c] 41)).drew = w2 at *
            (repeat (first | (refine lex_skip (by rfl) ?_; try simp only [Act.put, List.setIfInBounds_toArray, List.set_cons_zero, List.set_cons_succ]) | (refine lex_read (v := ?_) (by rfl) ?_ ?_; rotate_left; (focus (intro w' hS'; go_simp; (try with_reducible rfl); done)); try simp only [Act.put, List.setIfInBounds_toArray, List.set_cons_zero, List.set_cons_succ])))
            refine lex_nil ?_
            clear t1
            gi_wp2_with fail
            have HU := hide (by rw [use_r HL.out, if_pos hkk] : W.used s R = takes (W.m.drop s.j) R.f)
            clear hkk
            have HSL : ∀ W', (Instr.slice 59 (.slice pa.M W.m.length pa.mc) (some (.int .i64 (s.j : Int))) none none).run Tryz.prog W' = .ok (.slice (cutA pa.M pa.mc s.j 1) (W.m.length - s.j) (pa.mc - s.j)) W' := fun W' => run_slice_from strsOk pa.M W.m.length pa.mc s.j .i64 (s.j : Int) rfl (HS.out.2.1) W'
            have KT := hide (takes_cut (t := R.f) (HPW.out.m.below (below_drew (Below.refl _ _))) HS.out.2.1 HW.out.mc HW.out.m HSM.out.1 HW.out.ml)
            have H3 := hide (H2.out.drew (star_ok cell_ok (star_ok Zm_ok (okX _))))
            clear H2 x0 x1 x2 x3 xf c1 c2 c3 c4 d0 d1 d2 d3 d4
            obtain ⟨x0, x1, x2, x3, xf⟩ := run_c4 H3.out
            obtain ⟨⟨c1, c2, c3, c4⟩, d0, d1, d2, d3, d4⟩ := Zm_cells H3.out.drop
            refine wpIn_wide.2 (wp_region_les [8] [0, 0, 0, 0, 0, 0, 0, 0, 1, 1] (fun w' => w' = w2.drew) [] trivial rfl (by kernel_rfl) (by kernel_rfl) (by kernel_rfl) rfl ?_)
            generalize w2.drew = w3 at *
            (repeat (first | (refine les_skip (by rfl) (by rfl) ?_; try simp only [Act.put, List.setIfInBounds_toArray, List.set_cons_zero, List.set_cons_succ]) | (refine les_read (v := ?_) (by rfl) (by rfl) ?_ ?_; rotate_left; (focus (intro w' hS'; (try simp only [stL] at hS'); go_simp; (try with_reducible rfl); done)); try simp only [Act.put, List.setIfInBounds_toArray, List.set_cons_zero, List.set_cons_succ])))
            refine les_chain rfl (by rfl) (fun K hK => ?_)
            go_wp2_with fail
            refine KT.out.mono ?_
            rintro e9 w4 ⟨rfl, hb⟩
            have H4 := hide (H3.out.below (star_ok cell_ok (star_ok Zm_ok (okX _))) hb)
            refine hK.out _ _ trivial ?_
            clear hK KT hb H3 x0 x1 x2 x3 xf c1 c2 c3 c4 d0 d1 d2 d3 d4 HSL
            (repeat (first | (refine les_skip (by rfl) (by rfl) ?_; try simp only [Act.put, List.setIfInBounds_toArray, List.set_cons_zero, List.set_cons_succ]) | (refine les_read (v := ?_) (by rfl) (by rfl) ?_ ?_; rotate_left; (focus (intro w' hS'; (try simp only [stL] at hS'); go_simp; (try with_reducible rfl); done)); try simp only [Act.put, List.setIfInBounds_toArray, List.set_cons_zero, List.set_cons_succ])))
            refine les_nil ?_
            obtain ⟨m, hm⟩ : ∃ m, m = takes (W.m.drop s.j) R.f := ⟨_, rfl⟩
            rw [← hm] at HU ⊢
            have hml : m ≤ 1000000 := by rw [hm]; exact Nat.le_trans takes_le (by have := HW.out.m; rw [List.length_drop]; omega)
            clear hm
            obtain ⟨x0, x1, x2, x3, xf⟩ := run_c4 H4.out
            obtain ⟨⟨c1, c2, c3, c4⟩, d0, d1, d2, d3, d4⟩ := Zm_cells H4.out.drop
            by_cases hm0 : m = 0
            · have t1 : ((m : Int) == 0) = true := by simp [hm0]
              have HN0 := hide (HNO.out (mv_noUse (by rw [HU.out, hm0])))
              clear hm0
              gi_wp2
              go_roundw
              case rel => exact ⟨k + 1, HK1.out, by go_num, by rw [HN0.out]; exact H4.out.drop⟩
              case measure => have := HK1.out; simp [intOf]; omega
            · have t1 : ((m : Int) == 0) = false := by simp [hm0]
              have HM0 := hide hm0
              have hat : (s.j : Int) ≤ 1000000 := by have := HS.out.2.1; have := HW.out.m; omega
              clear hm0
              iterate 48 (first | go_values | gi_guarded | gi_step | gi_upon)
              have H5 := hide (run_new H4.out (star_ok cell_ok (star_ok Zm_ok (okX _))) #[.int .i64 s.i, .int .i64 s.j, .string (bs s.a), .bool s.r] 62)
              clear H4 x0 x1 x2 x3 xf c1 c2 c3 c4 d0 d1 d2 d3 d4
              generalize w4.alloc (.cells #[.int .i64 s.i, .int .i64 s.j, .string (bs s.a), .bool s.r] 62) = w5 at *
              generalize w4.heap.size = h at *
              obtain ⟨y0, y1, y2, y3, yf⟩ := run_c4 H5.out
              obtain ⟨x0, x1, x2, x3, xf⟩ := run_c4 H5.out.drop
              obtain ⟨⟨c1, c2, c3, c4⟩, d0, d1, d2, d3, d4⟩ := Zm_cells H5.out.drop.drop
              gi_wp2_with fail
              have H6 := hide (run_setc H5.out (star_ok cell_ok (star_ok Zm_ok (okX _))) 1 (.int .i64 ((s.j : Int) + (m : Int))) : Run F0 w0 (star (CellO h #[.int .i64 s.i, .int .i64 ((s.j : Int) + (m : Int)), .string (bs s.a), .bool s.r] 62) _) _)
              clear H5 y0 y1 y2 y3 yf x0 x1 x2 x3 xf c1 c2 c3 c4 d0 d1 d2 d3 d4
              generalize w5.setCell ⟨h, 1, none⟩ (.int .i64 ((s.j : Int) + (m : Int))) = w6 at *
              obtain ⟨y0, y1, y2, y3, yf⟩ := run_c4 H6.out
              obtain ⟨x0, x1, x2, x3, xf⟩ := run_c4 H6.out.drop
              obtain ⟨⟨c1, c2, c3, c4⟩, d0, d1, d2, d3, d4⟩ := Zm_cells H6.out.drop.drop
              have KC := hide (cutp_any s.a R.t w6)
              by_cases h1 : R.t.isPrefixOf s.a = true
              · by_cases h2 : s.a.drop R.t.length = []
                · have HAH := hide (show ¬ (R.t.isPrefixOf s.a = true ∧ s.a.drop R.t.length ≠ []) from fun h => h.2 h2)
                  rw [if_pos h1, h1, h2] at KC
                  have e1 : (bs ([] : Bs)).toList.isEmpty = true := by rw [List.isEmpty_iff]; exact bs_empty.2 rfl
                  generalize bs ([] : Bs) = z at KC e1
                  clear h1 h2
                  refine ⟨trivial, fun h => (by cases h), ?_⟩
                  gi_at_call 62
                  refine (callsIn_wide.2 KC.out).mono ?_
                  rintro e9 w9 ⟨rfl, h9⟩
                  subst w9
                  clear KC
                  dsimp only
                  gi_wp2_with fail
                  have KD := hide (cutp_any R.t s.a w6)
                  by_cases h3 : s.a.isPrefixOf R.t = true
                  · have HM := hide (HYS.out _ (mv_yes HU.out HM0.out (ah_2 HAH.out h3)))
                    have HT := hide (HTQ.out _ (mv_yes HU.out HM0.out (ah_2 HAH.out h3)))
                    rw [HL.out] at HM HT
                    rw [if_pos h3, h3] at KD
                    clear h3
                    generalize R.t.drop s.a.length = q at *
                    by_cases hq : q = []
                    · have e2 : (bs q).toList.isEmpty = true := by rw [List.isEmpty_iff]; exact bs_empty.2 hq
                      have HQ := hide hq
                      clear hq
                      refine ⟨trivial, fun h => (by cases h), ?_⟩
                      gi_at_call 62
                      refine (callsIn_wide.2 KD.out).mono ?_
                      rintro e9 w9 ⟨rfl, h9⟩
                      subst w9
                      clear KD
                      dsimp only
                      iterate 28 (first | go_values | gi_guarded | gi_step | gi_upon)
                      refine wpIn_wide.2 ?_
                      go_wp2
                      have H7 := hide (run_setc (run_setc H6.out (star_ok cell_ok (star_ok Zm_ok (okX _))) 2 (.string (bs q))) (star_ok cell_ok (star_ok Zm_ok (okX _))) 3 (.bool false) : Run F0 w0 (star (CellO h #[.int .i64 s.i, .int .i64 ((s.j : Int) + (m : Int)), .string (bs q), .bool false] 62) _) _)
                      clear H6 y0 y1 y2 y3 yf x0 x1 x2 x3 xf c1 c2 c3 c4 d0 d1 d2 d3 d4
                      generalize (w6.setCell ⟨h, 2, none⟩ (.string (bs q))).setCell ⟨h, 3, none⟩ (.bool false) = w7 at *
                      obtain ⟨y0, y1, y2, y3, yf⟩ := run_c4 H7.out
                      obtain ⟨x0, x1, x2, x3, xf⟩ := run_c4 H7.out.drop
                      obtain ⟨hi, hx⟩ := HT.out
                      have hw := HY.out _ hi w7 H7.out.drop.drop
                      rw [hx] at hw
                      simp only [encM, stC, if_true, Bool.false_eq_true, if_false, Int.natCast_add, Bool.not_true, Bool.not_false, Bool.false_and, Bool.true_and] at hw
                      rw [show decide (q ≠ []) = false by simp [HQ.out]] at hw
                      obtain ⟨fn, tmps, assign, body, hy, hround⟩ := hw
                      have HRD := hide hround
                      clear hround hx hi HT
                      gi_wp2
                      try rw [hy]
                      refine ⟨fun h => (by cases h), ?_⟩
                      refine HRD.out.mono ?_
                      rintro e W3 (⟨rfl, h3⟩ | ⟨rfl, h3⟩)
                      · have H8 := hide h3
                        clear HRD h3 hy H7 y0 y1 y2 y3 yf x0 x1 x2 x3 xf
                        gi_wp2
                        go_roundw
                        case rel => exact ⟨k + 1, HK1.out, by go_num, by rw [HM.out, List.length_append]; exact H8.out⟩
                        case measure => have := HK1.out; simp [intOf]; omega
                      · have HE2 := hide (show (∃ v, (Ending.returned (.tuple #[])) = .returned v) ∧ (Run F0 w0 (star (Zm W pa s b1 b2) (X (W.moves s).length)) W3 ∨ ∃ i : Nat, Run F0 w0 (star (Zm W pa s b1 b2) Y) W3) from ⟨⟨_, rfl⟩, .inr ⟨0, h3⟩⟩)
                        clear HRD h3 hy H7 y0 y1 y2 y3 yf x0 x1 x2 x3 xf
                        gi_wp2
                        refine bodyPost_ret (results_none rfl _ _ _) rfl ?_
                        exact HE2.out
                    · have e2 : (bs q).toList.isEmpty = false := by rw [List.isEmpty_eq_false_iff]; exact fun h => hq (bs_empty.1 h)
                      have HQ := hide hq
                      clear hq
                      refine ⟨trivial, fun h => (by cases h), ?_⟩
                      gi_at_call 62
                      refine (callsIn_wide.2 KD.out).mono ?_
                      rintro e9 w9 ⟨rfl, h9⟩
                      subst w9
                      clear KD
                      dsimp only
                      iterate 28 (first | go_values | gi_guarded | gi_step | gi_upon)
                      refine wpIn_wide.2 ?_
                      go_wp2
                      have H7 := hide (run_setc (run_setc H6.out (star_ok cell_ok (star_ok Zm_ok (okX _))) 2 (.string (bs q))) (star_ok cell_ok (star_ok Zm_ok (okX _))) 3 (.bool true) : Run F0 w0 (star (CellO h #[.int .i64 s.i, .int .i64 ((s.j : Int) + (m : Int)), .string (bs q), .bool true] 62) _) _)
                      clear H6 y0 y1 y2 y3 yf x0 x1 x2 x3 xf c1 c2 c3 c4 d0 d1 d2 d3 d4
                      generalize (w6.setCell ⟨h, 2, none⟩ (.string (bs q))).setCell ⟨h, 3, none⟩ (.bool true) = w7 at *
                      obtain ⟨y0, y1, y2, y3, yf⟩ := run_c4 H7.out
                      obtain ⟨x0, x1, x2, x3, xf⟩ := run_c4 H7.out.drop
                      obtain ⟨hi, hx⟩ := HT.out
                      have hw := HY.out _ hi w7 H7.out.drop.drop
                      rw [hx] at hw
                      simp only [encM, stC, if_true, Bool.false_eq_true, if_false, Int.natCast_add, Bool.not_true, Bool.not_false, Bool.false_and, Bool.true_and] at hw
                      rw [show decide (q ≠ []) = true by simp [HQ.out]] at hw
                      obtain ⟨fn, tmps, assign, body, hy, hround⟩ := hw
                      have HRD := hide hround
                      clear hround hx hi HT
                      gi_wp2
                      try rw [hy]
                      refine ⟨fun h => (by cases h), ?_⟩
                      refine HRD.out.mono ?_
                      rintro e W3 (⟨rfl, h3⟩ | ⟨rfl, h3⟩)
                      · have H8 := hide h3
                        clear HRD h3 hy H7 y0 y1 y2 y3 yf x0 x1 x2 x3 xf
                        gi_wp2
                        go_roundw
                        case rel => exact ⟨k + 1, HK1.out, by go_num, by rw [HM.out, List.length_append]; exact H8.out⟩
                        case measure => have := HK1.out; simp [intOf]; omega
                      · have HE2 := hide (show (∃ v, (Ending.returned (.tuple #[])) = .returned v) ∧ (Run F0 w0 (star (Zm W pa s b1 b2) (X (W.moves s).length)) W3 ∨ ∃ i : Nat, Run F0 w0 (star (Zm W pa s b1 b2) Y) W3) from ⟨⟨_, rfl⟩, .inr ⟨0, h3⟩⟩)
                        clear HRD h3 hy H7 y0 y1 y2 y3 yf x0 x1 x2 x3 xf
                        gi_wp2
                        refine bodyPost_ret (results_none rfl _ _ _) rfl ?_
                        exact HE2.out
                  · have HN0 := hide (HNO.out (mv_noAh (ah_3 HAH.out h3)))
                    rw [if_neg h3, Bool.eq_false_iff.2 h3] at KD
                    clear h3
                    refine ⟨trivial, fun h => (by cases h), ?_⟩
                    gi_at_call 62
                    refine (callsIn_wide.2 KD.out).mono ?_
                    rintro e9 w9 ⟨rfl, h9⟩
                    subst w9
                    clear KD
                    dsimp only
                    gi_wp2
                    go_roundw
                    case rel => exact ⟨k + 1, HK1.out, by go_num, by rw [HN0.out]; exact H6.out.drop.drop⟩
                    case measure => have := HK1.out; simp [intOf]; omega
                · have HM := hide (HYS.out _ (mv_yes HU.out HM0.out (ah_1 h1 h2)))
                  have HT := hide (HTQ.out _ (mv_yes HU.out HM0.out (ah_1 h1 h2)))
                  rw [HL.out] at HM HT
                  rw [if_pos h1, h1] at KC
                  have e1 : (bs (s.a.drop R.t.length)).toList.isEmpty = false := by rw [List.isEmpty_eq_false_iff]; exact fun h => h2 (bs_empty.1 h)
                  clear h1 h2
                  generalize s.a.drop R.t.length = q at *
                  refine ⟨trivial, fun h => (by cases h), ?_⟩
                  gi_at_call 62
                  refine (callsIn_wide.2 KC.out).mono ?_
                  rintro e9 w9 ⟨rfl, h9⟩
                  subst w9
                  clear KC
                  dsimp only
                  gi_wp2_with fail
                  have H7 := hide (run_setc H6.out (star_ok cell_ok (star_ok Zm_ok (okX _))) 2 (.string (bs q)) : Run F0 w0 (star (CellO h #[.int .i64 s.i, .int .i64 ((s.j : Int) + (m : Int)), .string (bs q), .bool s.r] 62) _) _)
                  clear H6 y0 y1 y2 y3 yf x0 x1 x2 x3 xf c1 c2 c3 c4 d0 d1 d2 d3 d4
                  generalize w6.setCell ⟨h, 2, none⟩ (.string (bs q)) = w7 at *
                  obtain ⟨y0, y1, y2, y3, yf⟩ := run_c4 H7.out
                  obtain ⟨x0, x1, x2, x3, xf⟩ := run_c4 H7.out.drop
                  obtain ⟨hi, hx⟩ := HT.out
                  have hw := HY.out _ hi w7 H7.out.drop.drop
                  rw [hx] at hw
                  simp only [encM, stC, if_true, Bool.false_eq_true, if_false, Int.natCast_add, Bool.not_true, Bool.not_false, Bool.false_and, Bool.true_and] at hw
                  obtain ⟨fn, tmps, assign, body, hy, hround⟩ := hw
                  have HRD := hide hround
                  clear hround hx hi HT
                  gi_wp2
                  try rw [hy]
                  refine ⟨fun h => (by cases h), ?_⟩
                  refine HRD.out.mono ?_
                  rintro e W3 (⟨rfl, h3⟩ | ⟨rfl, h3⟩)
                  · have H8 := hide h3
                    clear HRD h3 hy H7 y0 y1 y2 y3 yf x0 x1 x2 x3 xf
                    gi_wp2
                    go_roundw
                    case rel => exact ⟨k + 1, HK1.out, by go_num, by rw [HM.out, List.length_append]; exact H8.out⟩
                    case measure => have := HK1.out; simp [intOf]; omega
                  · have HE2 := hide (show (∃ v, (Ending.returned (.tuple #[])) = .returned v) ∧ (Run F0 w0 (star (Zm W pa s b1 b2) (X (W.moves s).length)) W3 ∨ ∃ i : Nat, Run F0 w0 (star (Zm W pa s b1 b2) Y) W3) from ⟨⟨_, rfl⟩, .inr ⟨0, h3⟩⟩)
                    clear HRD h3 hy H7 y0 y1 y2 y3 yf x0 x1 x2 x3 xf
                    gi_wp2
                    refine bodyPost_ret (results_none rfl _ _ _) rfl ?_
                    exact HE2.out
              · have HAH := hide (show ¬ (R.t.isPrefixOf s.a = true ∧ s.a.drop R.t.length ≠ []) from fun h => h1 h.1)
                rw [if_neg h1, Bool.eq_false_iff.2 h1] at KC
                clear h1
                refine ⟨trivial, fun h => (by cases h), ?_⟩
                gi_at_call 62
                refine (callsIn_wide.2 KC.out).mono ?_
                rintro e9 w9 ⟨rfl, h9⟩
                subst w9
                clear KC
                dsimp only
                gi_wp2_with fail
                have KD := hide (cutp_any R.t s.a w6)
                by_cases h3 : s.a.isPrefixOf R.t = true
                · have HM := hide (HYS.out _ (mv_yes HU.out HM0.out (ah_2 HAH.out h3)))
                  have HT := hide (HTQ.out _ (mv_yes HU.out HM0.out (ah_2 HAH.out h3)))
                  rw [HL.out] at HM HT
                  rw [if_pos h3, h3] at KD
                  clear h3
                  generalize R.t.drop s.a.length = q at *
                  by_cases hq : q = []
                  · have e2 : (bs q).toList.isEmpty = true := by rw [List.isEmpty_iff]; exact bs_empty.2 hq
                    have HQ := hide hq
                    clear hq
                    refine ⟨trivial, fun h => (by cases h), ?_⟩
                    gi_at_call 62
                    refine (callsIn_wide.2 KD.out).mono ?_
                    rintro e9 w9 ⟨rfl, h9⟩
                    subst w9
                    clear KD
                    dsimp only
                    iterate 28 (first | go_values | gi_guarded | gi_step | gi_upon)
                    refine wpIn_wide.2 ?_
                    go_wp2
                    have H7 := hide (run_setc (run_setc H6.out (star_ok cell_ok (star_ok Zm_ok (okX _))) 2 (.string (bs q))) (star_ok cell_ok (star_ok Zm_ok (okX _))) 3 (.bool false) : Run F0 w0 (star (CellO h #[.int .i64 s.i, .int .i64 ((s.j : Int) + (m : Int)), .string (bs q), .bool false] 62) _) _)
                    clear H6 y0 y1 y2 y3 yf x0 x1 x2 x3 xf c1 c2 c3 c4 d0 d1 d2 d3 d4
                    generalize (w6.setCell ⟨h, 2, none⟩ (.string (bs q))).setCell ⟨h, 3, none⟩ (.bool false) = w7 at *
                    obtain ⟨y0, y1, y2, y3, yf⟩ := run_c4 H7.out
                    obtain ⟨x0, x1, x2, x3, xf⟩ := run_c4 H7.out.drop
                    obtain ⟨hi, hx⟩ := HT.out
                    have hw := HY.out _ hi w7 H7.out.drop.drop
                    rw [hx] at hw
                    simp only [encM, stC, if_true, Bool.false_eq_true, if_false, Int.natCast_add, Bool.not_true, Bool.not_false, Bool.false_and, Bool.true_and] at hw
                    rw [show decide (q ≠ []) = false by simp [HQ.out]] at hw
                    obtain ⟨fn, tmps, assign, body, hy, hround⟩ := hw
                    have HRD := hide hround
                    clear hround hx hi HT
                    gi_wp2
                    try rw [hy]
                    refine ⟨fun h => (by cases h), ?_⟩
                    refine HRD.out.mono ?_
                    rintro e W3 (⟨rfl, h3⟩ | ⟨rfl, h3⟩)
                    · have H8 := hide h3
                      clear HRD h3 hy H7 y0 y1 y2 y3 yf x0 x1 x2 x3 xf
                      gi_wp2
                      go_roundw
                      case rel => exact ⟨k + 1, HK1.out, by go_num, by rw [HM.out, List.length_append]; exact H8.out⟩
                      case measure => have := HK1.out; simp [intOf]; omega
                    · have HE2 := hide (show (∃ v, (Ending.returned (.tuple #[])) = .returned v) ∧ (Run F0 w0 (star (Zm W pa s b1 b2) (X (W.moves s).length)) W3 ∨ ∃ i : Nat, Run F0 w0 (star (Zm W pa s b1 b2) Y) W3) from ⟨⟨_, rfl⟩, .inr ⟨0, h3⟩⟩)
                      clear HRD h3 hy H7 y0 y1 y2 y3 yf x0 x1 x2 x3 xf
                      gi_wp2
                      refine bodyPost_ret (results_none rfl _ _ _) rfl ?_
                      exact HE2.out
                  · have e2 : (bs q).toList.isEmpty = false := by rw [List.isEmpty_eq_false_iff]; exact fun h => hq (bs_empty.1 h)
                    have HQ := hide hq
                    clear hq
                    refine ⟨trivial, fun h => (by cases h), ?_⟩
                    gi_at_call 62
                    refine (callsIn_wide.2 KD.out).mono ?_
                    rintro e9 w9 ⟨rfl, h9⟩
                    subst w9
                    clear KD
                    dsimp only
                    iterate 28 (first | go_values | gi_guarded | gi_step | gi_upon)
                    refine wpIn_wide.2 ?_
                    go_wp2
                    have H7 := hide (run_setc (run_setc H6.out (star_ok cell_ok (star_ok Zm_ok (okX _))) 2 (.string (bs q))) (star_ok cell_ok (star_ok Zm_ok (okX _))) 3 (.bool true) : Run F0 w0 (star (CellO h #[.int .i64 s.i, .int .i64 ((s.j : Int) + (m : Int)), .string (bs q), .bool true] 62) _) _)
                    clear H6 y0 y1 y2 y3 yf x0 x1 x2 x3 xf c1 c2 c3 c4 d0 d1 d2 d3 d4
                    generalize (w6.setCell ⟨h, 2, none⟩ (.string (bs q))).setCell ⟨h, 3, none⟩ (.bool true) = w7 at *
                    obtain ⟨y0, y1, y2, y3, yf⟩ := run_c4 H7.out
                    obtain ⟨x0, x1, x2, x3, xf⟩ := run_c4 H7.out.drop
                    obtain ⟨hi, hx⟩ := HT.out
                    have hw := HY.out _ hi w7 H7.out.drop.drop
                    rw [hx] at hw
                    simp only [encM, stC, if_true, Bool.false_eq_true, if_false, Int.natCast_add, Bool.not_true, Bool.not_false, Bool.false_and, Bool.true_and] at hw
                    rw [show decide (q ≠ []) = true by simp [HQ.out]] at hw
                    obtain ⟨fn, tmps, assign, body, hy, hround⟩ := hw
                    have HRD := hide hround
                    clear hround hx hi HT
                    gi_wp2
                    try rw [hy]
                    refine ⟨fun h => (by cases h), ?_⟩
                    refine HRD.out.mono ?_
                    rintro e W3 (⟨rfl, h3⟩ | ⟨rfl, h3⟩)
                    · have H8 := hide h3
                      clear HRD h3 hy H7 y0 y1 y2 y3 yf x0 x1 x2 x3 xf
                      gi_wp2
                      go_roundw
                      case rel => exact ⟨k + 1, HK1.out, by go_num, by rw [HM.out, List.length_append]; exact H8.out⟩
                      case measure => have := HK1.out; simp [intOf]; omega
                    · have HE2 := hide (show (∃ v, (Ending.returned (.tuple #[])) = .returned v) ∧ (Run F0 w0 (star (Zm W pa s b1 b2) (X (W.moves s).length)) W3 ∨ ∃ i : Nat, Run F0 w0 (star (Zm W pa s b1 b2) Y) W3) from ⟨⟨_, rfl⟩, .inr ⟨0, h3⟩⟩)
                      clear HRD h3 hy H7 y0 y1 y2 y3 yf x0 x1 x2 x3 xf
                      gi_wp2
                      refine bodyPost_ret (results_none rfl _ _ _) rfl ?_
                      exact HE2.out
                · have HN0 := hide (HNO.out (mv_noAh (ah_3 HAH.out h3)))
                  rw [if_neg h3, Bool.eq_false_iff.2 h3] at KD
                  clear h3
                  refine ⟨trivial, fun h => (by cases h), ?_⟩
                  gi_at_call 62
                  refine (callsIn_wide.2 KD.out).mono ?_
                  rintro e9 w9 ⟨rfl, h9⟩
                  subst w9
                  clear KD
                  dsimp only
                  gi_wp2
                  go_roundw
                  case rel => exact ⟨k + 1, HK1.out, by go_num, by rw [HN0.out]; exact H6.out.drop.drop⟩
                  case measure => have := HK1.out; simp [intOf]; omega
          · have t1 : (R.k == W.kb) = false := by simp [hkk]
            refine wpIn_wide.2 (wp_region_lex (fun w' => w' = (wr.alloc (.cells #[.int .i64 R.k, .string (bs R.f), .string (bs R.t), .int .i64 R.c] 41)).drew) (by kernel_rfl) (by kernel_rfl) rfl ?_)
            have HN0 := hide (HNO.out (mv_noUse (by rw [use_r HL.out, if_neg hkk])))
            generalize (wr.alloc (.cells #[.int .i64 R.k, .string (bs R.f), .string (bs R.t), .int .i64 R.c] 41)).drew = w2 at *
            (repeat (first | (refine lex_skip (by rfl) ?_; try simp only [Act.put, List.setIfInBounds_toArray, List.set_cons_zero, List.set_cons_succ]) | (refine lex_read (v := ?_) (by rfl) ?_ ?_; rotate_left; (focus (intro w' hS'; go_simp; (try with_reducible rfl); done)); try simp only [Act.put, List.setIfInBounds_toArray, List.set_cons_zero, List.set_cons_succ])))
            refine lex_nil ?_
            gi_wp2
            go_roundw
            case rel => exact ⟨k + 1, HK1.out, by go_num, by rw [HN0.out]; exact H2.out.drop⟩
            case measure => have := HK1.out; simp [intOf]; omega
        · obtain rfl : k = N := by omega
          have HEND := hide (show (∃ v, (Ending.returned (.tuple #[])) = .returned v) ∧ (Run F0 w0 (star (Zm W pa s b1 b2) (X (W.moves s).length)) wr ∨ ∃ i : Nat, Run F0 w0 (star (Zm W pa s b1 b2) Y) wr) from ⟨⟨_, rfl⟩, .inl (by rw [← mvs_all, ← HN.out]; exact HR.out)⟩)
          gi_wp2
          go_end0
          exact HEND.out
  have HC := hide cut
  clear cut hK2

  cases hr : s.r with
  | true =>
    have hl : W.left s = true := by unfold Wd.left; rw [hr]; rfl
    have HL := hide hl
    rw [hr] at c4
    clear hl hr
    refine wpIn_seq_k ?_
    intro K3 hK3
    refine wpIn_wide.2 ?_
    go_wp2
    gi_wp2
    exact HC.out true w1 _ _ _ _ _ _ _ _ _ _ _ _ _ _ _ _ _ _ _ _ _ HL.out H0.out
  | false =>
    rw [hr] at c4
    by_cases he : s.a = []
    · have he2 : (bs s.a).toList.isEmpty = true := by rw [List.isEmpty_iff]; exact bs_empty.2 he
      by_cases hi : s.i = W.l.length
      · have hl : W.left s = false := by unfold Wd.left; rw [hr]; simp [hi]
        have HL := hide hl
        have hi2 : ((s.i : Int) == (W.l.length : Int)) = true := by simp [hi]
        clear hl hi he hr
        gi_wp2
        refine wpIn_wide.2 (wp_region_lex (fun w' => w' = w1.drew) (by kernel_rfl) (by kernel_rfl) rfl ?_)
        have H1 := hide (H0.out.drew (star_ok Zm_ok (okX 0)))
        obtain ⟨⟨e1, e2, e3, e4⟩, f0, f1, f2, f3, f4⟩ := Zm_cells H1.out
        clear c1 c2 c3 c4 d0 d1 d2 d3 d4
        generalize w1.drew = w2 at *
        (repeat (first | (refine lex_skip (by rfl) ?_; try simp only [Act.put, List.setIfInBounds_toArray, List.set_cons_zero, List.set_cons_succ]) | (refine lex_read (v := ?_) (by rfl) ?_ ?_; rotate_left; (focus (intro w' hS'; go_simp; (try with_reducible rfl); done)); try simp only [Act.put, List.setIfInBounds_toArray, List.set_cons_zero, List.set_cons_succ])))
        refine lex_nil ?_
        gi_wp2
        exact HC.out false w2 _ _ _ _ _ _ _ _ _ _ _ _ _ _ _ _ _ _ _ _ _ HL.out H1.out
      · have hl : W.left s = true := by unfold Wd.left; rw [hr]; simp [hi, he]
        have HL := hide hl
        have hi2 : ((s.i : Int) == (W.l.length : Int)) = false := by simp; omega
        clear hl hi he hr
        gi_wp2
        exact HC.out true w1 _ _ _ _ _ _ _ _ _ _ _ _ _ _ _ _ _ _ _ _ _ HL.out H0.out
    · have he2 : (bs s.a).toList.isEmpty = false := by rw [List.isEmpty_eq_false_iff]; exact fun h => he (bs_empty.1 h)
      have hl : W.left s = false := by unfold Wd.left; rw [hr]; simp [he]
      have HL := hide hl
      clear hl he hr
      gi_wp2
      refine wpIn_wide.2 (wp_region_lex (fun w' => w' = w1.drew) (by kernel_rfl) (by kernel_rfl) rfl ?_)
      have H1 := hide (H0.out.drew (star_ok Zm_ok (okX 0)))
      obtain ⟨⟨e1, e2, e3, e4⟩, f0, f1, f2, f3, f4⟩ := Zm_cells H1.out
      clear c1 c2 c3 c4 d0 d1 d2 d3 d4
      generalize w1.drew = w2 at *
      (repeat (first | (refine lex_skip (by rfl) ?_; try simp only [Act.put, List.setIfInBounds_toArray, List.set_cons_zero, List.set_cons_succ]) | (refine lex_read (v := ?_) (by rfl) ?_ ?_; rotate_left; (focus (intro w' hS'; go_simp; (try with_reducible rfl); done)); try simp only [Act.put, List.setIfInBounds_toArray, List.set_cons_zero, List.set_cons_succ])))
      refine lex_nil ?_
      gi_wp2
      exact HC.out false w2 _ _ _ _ _ _ _ _ _ _ _ _ _ _ _ _ _ _ _ _ _ HL.out H1.out
end Go.Proofs.YtnppgomhhcbplaaGreatDoor
namespace Go.CH
open Go.RowKit
section
variable {P : Program}
/-- A plain value of a type. -/
inductive Flat (P : Program) : TypeId → Value → Prop
  | int {t : TypeId} {k : IntKind} (h : P.underlying t = some (.int k)) (a : Int) : Flat P t (.int k a)
  | str {t : TypeId} (h : P.underlying t = some .string) (a : ByteArray) : Flat P t (.string a)
  | bool {t : TypeId} (h : P.underlying t = some .bool) (a : Bool) : Flat P t (.bool a)
/-- Whether two plain values are one. -/
def sameV : Value → Value → Bool
  | .int _ a, .int _ b => a == b
  | .string a, .string b => a == b
  | .bool a, .bool b => a == b
  | _, _ => false
theorem flat_eq {t : TypeId} {x y : Value} (hx : Flat P t x) (hy : Flat P t y) (n : Nat) (w : World) : (Op.equalIn (n + 1) t x y).run P w = .ok (sameV x y) w := by
  cases hx with
  | int h a => cases hy with
    | int h2 b => rw [h] at h2; injection h2 with h2; injection h2 with h2; subst h2; simp [Op.equalIn, run_underlying h, sameV]
    | str h2 => rw [h] at h2; cases h2
    | bool h2 => rw [h] at h2; cases h2
  | str h a => cases hy with
    | int h2 => rw [h] at h2; cases h2
    | str h2 => simp [Op.equalIn, run_underlying h, sameV]
    | bool h2 => rw [h] at h2; cases h2
  | bool h a => cases hy with
    | int h2 => rw [h] at h2; cases h2
    | str h2 => rw [h] at h2; cases h2
    | bool h2 => simp [Op.equalIn, run_underlying h, sameV]
theorem flat_part {t : TypeId} {x : Value} (hx : Flat P t x) {cs : Array Value} {j : Nat} (hv : cs[j]? = some x) (w : World) : (part t cs j).run P w = .ok x w := by
  cases hx with
  | int h a => simp [part, isAgg, run_underlying h, hv]
  | str h a => simp [part, isAgg, run_underlying h, hv]
  | bool h a => simp [part, isAgg, run_underlying h, hv]
theorem flat_check {t : TypeId} {x : Value} (hx : Flat P t x) (e : Bool) (n : Nat) (w : World) : (Instr.checkKey e (n + 1) t x).run P w = .ok () w := by
  cases hx with
  | int h a => simp [Instr.checkKey, run_underlying h]
  | str h a => simp [Instr.checkKey, run_underlying h]
  | bool h a => simp [Instr.checkKey, run_underlying h]
/-- The fields of a struct hold plain values. -/
def Flats (P : Program) (fs : List Field) (cs : Array Value) : Prop := ∀ f ∈ fs, f.name ≠ "_" ∧ ∃ v, cs[f.offset]? = some v ∧ Flat P f.type v
def sameF (fs : List Field) (xs ys : Array Value) : Bool := fs.all fun f => match xs[f.offset]?, ys[f.offset]? with | some x, some y => sameV x y | _, _ => false
theorem eq_loop {xs ys : Array Value} (n : Nat) (w : World) : ∀ fs : List Field, Flats P fs xs → Flats P fs ys →
    (forIn fs ((none, ()) : Option Bool × Unit) (fun f __s =>
      if f.name ≠ "_" then do
        let a ← part f.type xs f.offset
        let b ← part f.type ys f.offset
        let c ← Op.equalIn (n + 1) f.type a b
        if (!c) = true then pure (ForInStep.done (some false, ())) else pure (ForInStep.yield (none, ()))
      else pure (ForInStep.yield (none, ()))) : Sem (Option Bool × Unit)).run P w = .ok (if sameF fs xs ys = true then (none, ()) else (some false, ())) w := by
  intro fs
  induction fs with
  | nil => intro _ _; rfl
  | cons f fs ih =>
    intro hx hy
    obtain ⟨hn, x, hx1, hx2⟩ := hx f (List.mem_cons_self ..)
    obtain ⟨-, y, hy1, hy2⟩ := hy f (List.mem_cons_self ..)
    have ih' := ih (fun g hg => hx g (List.mem_cons_of_mem _ hg)) (fun g hg => hy g (List.mem_cons_of_mem _ hg))
    rw [List.forIn_cons]
    simp only [if_pos hn, Sem.run_bind, flat_part hx2 hx1, flat_part hy2 hy1, flat_eq hx2 hy2, Result.andThen_ok]
    have e : sameF (f :: fs) xs ys = (sameV x y && sameF fs xs ys) := by
      unfold sameF; rw [List.all_cons, hx1, hy1]
    rw [e]
    cases h : sameV x y with
    | false => simp [Sem.run_pure]
    | true => simp [Sem.run_pure]; simpa using ih'
theorem struct_eq {K : TypeId} {fs : Array Field} (hK : P.underlying K = some (.struct fs)) (hh : P.stoodInHeld K = false) {xs ys : Array Value} (hx : Flats P fs.toList xs) (hy : Flats P fs.toList ys) (n : Nat) (w : World) :
    (Op.equalIn (n + 2) K (.agg xs) (.agg ys)).run P w = .ok (sameF fs.toList xs ys) w := by
  unfold Op.equalIn
  simp only [Sem.run_bind, run_underlying hK, Result.andThen_ok, run_program, hh, Bool.false_eq_true, if_false, Sem.run_pure]
  rw [← Array.forIn_toList, eq_loop n w fs.toList hx hy]
  cases h : sameF fs.toList xs ys <;> simp [Sem.run_pure]
theorem check_loop {xs : Array Value} (e : Bool) (n : Nat) (w : World) : ∀ fs : List Field, Flats P fs xs →
    (forIn fs () (fun f __s =>
      if f.name ≠ "_" then do
        let a ← part f.type xs f.offset
        Instr.checkKey e (n + 1) f.type a
        pure (ForInStep.yield ())
      else pure (ForInStep.yield ())) : Sem Unit).run P w = .ok () w := by
  intro fs
  induction fs with
  | nil => intro _; rfl
  | cons f fs ih =>
    intro hx
    obtain ⟨hn, x, hx1, hx2⟩ := hx f (List.mem_cons_self ..)
    have ih' := ih (fun g hg => hx g (List.mem_cons_of_mem _ hg))
    rw [List.forIn_cons]
    simp only [if_pos hn, Sem.run_bind, flat_part hx2 hx1, flat_check hx2, Result.andThen_ok, Sem.run_pure]
    exact ih'
theorem struct_check {K : TypeId} {fs : Array Field} (hK : P.underlying K = some (.struct fs)) {xs : Array Value} (hx : Flats P fs.toList xs) (e : Bool) (n : Nat) (w : World) :
    (Instr.checkKey e (n + 2) K (.agg xs)).run P w = .ok () w := by
  unfold Instr.checkKey
  simp only [Sem.run_bind, run_underlying hK, Result.andThen_ok]
  rw [← Array.forIn_toList]
  have h := check_loop e n w fs.toList hx
  refine Eq.trans (congrArg (fun z => Result.andThen z _) h) ?_
  simp [Sem.run_pure]
/-- A struct of plain fields is a key. -/
theorem keyOk_struct {α : Type} [DecidableEq α] {K : TypeId} {fs : Array Field} (hK : P.underlying K = some (.struct fs)) (hh : P.stoodInHeld K = false) {cs : α → Array Value} (hx : ∀ a, Flats P fs.toList (cs a))
    (heq : ∀ a b, sameF fs.toList (cs a) (cs b) = decide (a = b)) (hsame : ∀ a, Instr.sameBits 10000 (.agg (cs a)) (.agg (cs a)) = true) : KeyOk P K (fun a => .agg (cs a)) := by
  refine ⟨fun a b w => ?_, fun e a w => struct_check hK (hx a) e 9998 w, hsame, _, hK, fun a b => .inl rfl⟩
  rw [Op.equal, Op.maxDepth, struct_eq hK hh (hx a) (hx b) 9998 w, heq]
theorem key_eql {K : TypeId} {fs : Array Field} (hK : P.underlying K = some (.struct fs)) (hh : P.stoodInHeld K = false) {xs ys : Array Value} (hx : Flats P fs.toList xs) (hy : Flats P fs.toList ys) (w : World) :
    (binOp .eql K (.agg xs) (.agg ys)).run P w = .ok (.bool (sameF fs.toList xs ys)) w := by
  simp only [binOp, Op.equal, Op.maxDepth, Sem.run_bind, Sem.run_map, struct_eq hK hh hx hy 9998 w, Result.andThen_ok, Sem.run_pure]
theorem key_neq {K : TypeId} {fs : Array Field} (hK : P.underlying K = some (.struct fs)) (hh : P.stoodInHeld K = false) {xs ys : Array Value} (hx : Flats P fs.toList xs) (hy : Flats P fs.toList ys) (w : World) :
    (binOp .neq K (.agg xs) (.agg ys)).run P w = .ok (.bool (!sameF fs.toList xs ys)) w := by
  simp only [binOp, Op.equal, Op.maxDepth, Sem.run_bind, Sem.run_map, struct_eq hK hh hx hy 9998 w, Result.andThen_ok, Sem.run_pure]
theorem wp_eql_agg {o : Oper} {a : Act} {w : World} {K : Act → World → Prop} {Q : Exit → Act → World → Prop} {t t2 : TypeId} {x y : Operand} {xs ys : Array Value} {v : Value} (ho : o.op = .binOp .eql t x y t2) (hx : a.eval x = .agg xs) (hy : a.eval y = .agg ys)
    (hm : P.eqGuardType P.depth t = false) (h : (binOp .eql t (.agg xs) (.agg ys)).run P w = .ok v w) (hK : K (a.put o.dst v) w) : o.wp P a w K Q := by
  unfold Oper.wp execOp
  simp only [ho, hx, hy, Sem.run_bind, run_eqGuard_agg w .eql t x y xs ys hm, Result.andThen_ok, h, Sem.run_pure]
  exact hK
end
end Go.CH
