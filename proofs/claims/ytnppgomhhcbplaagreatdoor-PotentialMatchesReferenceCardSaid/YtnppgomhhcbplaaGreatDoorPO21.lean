/-
  The reference of layer 12: Moves.
-/
import Derived.Test.YtnppgomhhcbplaaGreatDoorPO20
import Derived.Test.YtnppgomhhcbplaaGreatDoorPO16
import Derived.Deep.DeepCutAuto
set_option linter.unusedSimpArgs false
set_option linter.unusedVariables false
namespace Go.CH.Pot
open Go.CH.Scr
section
variable {W : Wd} {s : St} {q : Bs}
theorem ahR_1 (h : s.a.isPrefixOf q = true) : W.ah s q = some (q.drop s.a.length, !W.left s && decide (q.drop s.a.length ≠ [])) := by
  unfold Wd.ah
  rw [if_neg (fun g => g.2 (by
    obtain ⟨t, rfl⟩ := List.isPrefixOf_iff_prefix.1 h
    have h2 := (List.isPrefixOf_iff_prefix.1 g.1).length_le
    rw [List.drop_eq_nil_of_le (by simp)])), if_pos h]
theorem ahR_2 (h1 : ¬ s.a.isPrefixOf q = true) (h2 : q.isPrefixOf s.a = true) : W.ah s q = some (s.a.drop q.length, s.r) := by
  unfold Wd.ah
  rw [if_pos ⟨h2, fun e => h1 (by
    obtain ⟨t, ht⟩ := List.isPrefixOf_iff_prefix.1 h2
    rw [← ht, List.drop_left] at e
    rw [e, List.append_nil] at ht
    rw [← ht, List.isPrefixOf_iff_prefix]; exact List.prefix_refl _)⟩]
theorem ahR_3 (h1 : ¬ s.a.isPrefixOf q = true) (h2 : ¬ q.isPrefixOf s.a = true) : W.ah s q = none := by
  unfold Wd.ah
  rw [if_neg (fun g => h2 g.1), if_neg h1]
end
/-- A move as an element. -/
def toPt (x : Int × St) : Pt := ⟨x.2.i, x.2.j, x.2.a, x.2.r, x.1⟩
def movP (W : Wd) (s : St) : List Pt := (W.moves s).map toPt
end Go.CH.Pot
namespace Go.Proofs.YtnppgomhhcbplaaGreatDoor
open Go.RowKit Go.CH Go.CH.Scr Go.CH.Pot
open Go.ChangeMaps (setBlock)
set_option maxRecDepth 100000
theorem run_c5 {F0 : Nat → Prop} {w0 w : World} {g : Nat} {t : TypeId} {X : CH.Own} {a b c d e : Value} (h : Run F0 w0 (star (CellO g #[a, b, c, d, e] t) X) w) : w.cell? ⟨g, 0, none⟩ = some a ∧ w.cell? ⟨g, 1, none⟩ = some b ∧ w.cell? ⟨g, 2, none⟩ = some c ∧ w.cell? ⟨g, 3, none⟩ = some d ∧ w.cell? ⟨g, 4, none⟩ = some e ∧ ∀ i, w.frozen? ⟨g, i, none⟩ = false := by
  obtain ⟨F, hF⟩ := h.fst
  exact ⟨cell_at hF rfl, cell_at hF rfl, cell_at hF rfl, cell_at hF rfl, cell_at hF rfl, fun i => cell_free hF i⟩
def outP (W : Wd) (s : St) (k : Nat) : List Pt := (mvs W s k).map toPt
theorem outP_none {W : Wd} {s : St} {k : Nat} (hk : k < W.rs.length) (h : W.mv s W.rs[k] = none) : outP W s (k + 1) = outP W s k := by unfold outP; rw [mvs_none hk h]
theorem outP_some {W : Wd} {s : St} {k : Nat} (hk : k < W.rs.length) {x : Int × St} (h : W.mv s W.rs[k] = some x) : outP W s (k + 1) = outP W s k ++ [toPt x] := by unfold outP; rw [mvs_some hk h, List.map_append]; rfl
theorem outP_len {W : Wd} {s : St} {k : Nat} : (outP W s k).length ≤ W.rs.length := by
  unfold outP mvs
  rw [List.length_map]
  exact Nat.le_trans (List.length_filterMap_le ..) (by rw [List.length_take]; omega)
/-- What Moves gives. -/
def MovRet (W : Wd) (s : St) (w : World) (e : Ending) (w' : World) : Prop := ∃ A c, e = .returned (.slice A (movP W s).length c) ∧ Post w (fun _ => False) (PtsO A c (movP W s)) w'
theorem usedR_le {l : List Bs} {f : Bs} : usedR l f ≤ 3 := by
  unfold usedR
  split
  · omega
  · split
    · omega
    · split <;> omega
/-- Both ways of reckoning how many letters a rule takes agree. -/
def UseOk (W : Wd) : Prop := (∀ R ∈ W.rs, R.k = W.ka → ∀ i, i ≤ W.l.length → usedR (W.l.drop i) R.f = takes (W.l.drop i) R.f) ∧ (∀ R ∈ W.rs, R.k = W.kb → ∀ i, i ≤ W.m.length → usedR (W.m.drop i) R.f = takes (W.m.drop i) R.f)
set_option maxHeartbeats 16000000 in
theorem rmoves_any {W : Wd} {s : St} {h0 : Int} {w : World} {T : Tab} {a : TA} (hT : TabR w T a) (hrs : W.rs = T.rs) {X Y : Option Addr} {xc yc : Nat} (hX : Vst w X W.l) (hY : Vst w Y W.m) (hs : W.ok s) (ha : s.a.length ≤ 1000000)
    (hl : W.l.length ≤ 1000000 ∧ ∀ x ∈ W.l, x.length ≤ 1000000) (hm : W.m.length ≤ 1000000 ∧ ∀ x ∈ W.m, x.length ≤ 1000000) (hu : UseOk W) :
    Calls Tryz.prog 36 #[tabV T a, .int .i64 W.ka, .slice X W.l.length xc, .int .i64 W.kb, .slice Y W.m.length yc, .agg #[.int .i64 s.i, .int .i64 s.j, .string (bs s.a), .bool s.r, .int .i64 h0]] w (MovRet W s w) := by
  have h1 := run_new (Run.begin w) emp_ok (tabC T a) 25
  have h2 := run_new h1 (star_ok cell_ok emp_ok) #[.int .i64 s.i, .int .i64 s.j, .string (bs s.a), .bool s.r, .int .i64 h0] 37
  rw [World.size_alloc] at h2
  have h3 := h2.fresh (star_ok cell_ok (star_ok cell_ok emp_ok)) (⟨fun _ => False, row_nil _ _ _, Mod.refl _ _, fun i hi => .inl hi⟩ : Post _ (fun _ => False) (PtsO none 0 []) _)
  have H3 := hide h3
  have HT := hide hT
  have HRS := hide hrs
  have HX := hide hX
  have HY := hide hY
  have HS := hide hs
  have HA := hide ha
  have HL := hide hl
  have HM := hide hm
  have HU := hide hu
  clear hT hX hY hs ha hl hm hu h1 h2 h3
  obtain ⟨aA, ac, aD, ad, aE, ae⟩ := a
  unfold tabV
  unfold tabC at H3 ⊢
  dsimp only at H3 ⊢
  obtain ⟨N, hN⟩ : ∃ N, N = T.rs.length := ⟨_, rfl⟩
  have HN := hide (hN.trans (by rw [← hrs]) : N = W.rs.length)
  rw [← hN] at H3 ⊢
  clear hN hrs
  obtain ⟨nl, hnl⟩ : ∃ n, n = W.l.length := ⟨_, rfl⟩
  obtain ⟨nm, hnm⟩ : ∃ n, n = W.m.length := ⟨_, rfl⟩
  rw [← hnl, ← hnm]
  have HNL := hide hnl
  have HNM := hide hnm
  clear hnl hnm
  generalize T.ds.length = n2 at *
  generalize T.es.length = n3 at *
  go_enter Tryz.func36, Tryz.ntmps36
  go_upto_region 2 with (fail)
  generalize (w.alloc (.cells #[.slice aA N ac, .slice aD n2 ad, .slice aE n3 ae, .int .i64 T.drop, .int .i64 T.ord, .int .i64 T.ini] 25)).alloc (.cells #[.int .i64 s.i, .int .i64 s.j, .string (bs s.a), .bool s.r, .int .i64 h0] 37) = w1 at *
  generalize w.heap.size + 1 = g11 at *
  generalize w.heap.size = g6 at H3 ⊢
  have okB := hide (star_ok cell_ok (star_ok cell_ok emp_ok) : (star (CellO g11 #[.int .i64 s.i, .int .i64 s.j, .string (bs s.a), .bool s.r, .int .i64 h0] 37) (star (CellO g6 #[.slice aA N ac, .slice aD n2 ad, .slice aE n3 ae, .int .i64 T.drop, .int .i64 T.ord, .int .i64 T.ini] 25) emp)).Ok)
  obtain ⟨c0, c1, c2, c3, c4, cf⟩ := run_c5 H3.out.drop
  rename_i Kc hKc
  have cut : ∀ (lf : Bool) (g19 g20 g21 g22 g23 g24 g25 g26 g27 g28 g29 g30 g31 g32 : Value), W.left s = lf → Kc { tmps := #[.agg #[.slice aA N ac, .slice aD n2 ad, .slice aE n3 ae, .int .i64 T.drop, .int .i64 T.ord, .int .i64 T.ini], .int .i64 W.ka, .slice X nl xc, .int .i64 W.kb, .slice Y nm yc, .agg #[.int .i64 s.i, .int .i64 s.j, .string (bs s.a), .bool s.r, .int .i64 h0], .pointer (some ⟨g6, 0, none⟩), undef, undef, undef, undef, .pointer (some ⟨g11, 0, none⟩), .slice none 0 0, .slice none 0 0, .bool lf, undef, undef, undef, undef, g19, g20, g21, g22, g23, g24, g25, g26, g27, g28, g29, g30, g31, g32, undef, undef, undef, undef, undef, undef, undef, undef, undef, undef, undef, undef, undef, undef, undef, undef, undef, undef, undef, undef, undef, undef, undef, undef, undef, undef, undef, undef, undef, undef, undef, undef, undef, undef, undef, undef, undef, undef, undef, undef, undef, undef, undef, undef, undef, undef, undef, undef, undef, undef, undef, undef, undef, undef, undef, undef, undef, undef, undef, undef, undef, undef, undef, undef, undef, undef, undef, undef, undef, undef, undef, undef, undef, undef, undef, undef, undef, undef, undef, undef, undef, undef, undef, undef, undef, undef, undef, undef, undef, undef, undef, undef, undef, undef, undef, undef, undef, undef, undef], defers := [] } w1 := by
    intro lf g19 g20 g21 g22 g23 g24 g25 g26 g27 g28 g29 g30 g31 g32 hlf
    have HLF := hide hlf
    refine hKc _ _ ?_
    clear hKc Kc hlf c0 c1 c2 c3 c4 cf
    go_wp2_with fail
    go_loopw [13, 15] (fun v i wr => ∃ (k : Nat) (A : Option Addr) (c : Nat), k ≤ N ∧ i = .int .i64 k ∧ v = .slice A (outP W s k).length c ∧ Run (fun _ => False) w (star (PtsO A c (outP W s k)) (star (CellO g11 #[.int .i64 s.i, .int .i64 s.j, .string (bs s.a), .bool s.r, .int .i64 h0] 37) (star (CellO g6 #[.slice aA N ac, .slice aD n2 ad, .slice aE n3 ae, .int .i64 T.drop, .int .i64 T.ord, .int .i64 T.ini] 25) emp))) wr) (fun _ i _ => N - (intOf i).toNat)
    case atStart => exact ⟨0, none, 0, Nat.zero_le _, rfl, rfl, H3.out⟩
    case round =>
      obtain ⟨k, A, c, hk, rfl, rfl, hR⟩ := hrel
      have HR := hide hR
      clear hR H3
      have okO := hide (star_ok pts_ok okB.out : (star (PtsO A c (outP W s k)) (star (CellO g11 #[.int .i64 s.i, .int .i64 s.j, .string (bs s.a), .bool s.r, .int .i64 h0] 37) (star (CellO g6 #[.slice aA N ac, .slice aD n2 ad, .slice aE n3 ae, .int .i64 T.drop, .int .i64 T.ord, .int .i64 T.ini] 25) emp))).Ok)
      by_cases hlt : k < N
      · have hkn : k < W.rs.length := by rw [← HN.out]; exact hlt
        have HK1 := hide (show k + 1 ≤ N from hlt)
        have hkT : k < T.rs.length := by rw [← HRS.out]; exact hkn
        obtain ⟨b, o, rfl, hc⟩ := RulesR.at HT.out.rs (by omega)
        have hbw : Below w.heap.size w wr := HR.out.mod.below (fun _ _ h => h)
        obtain ⟨r0, r1, r2, r3⟩ := hc wr hbw k hkT
        have hRk : T.rs[k] = W.rs[k] := by simp only [HRS.out]
        rw [hRk] at r0 r1 r2 r3
        have hmem : W.rs[k] ∈ W.rs := List.getElem_mem hkn
        have hsr := HT.out.sr W.rs[k] (by rw [← HRS.out]; exact hmem)
        have hRt : W.rs[k].t.length ≤ 1000000 := hsr.2
        have hkb : (k : Int) < 1000000 := by have := HT.out.lr; omega
        have HQ := hide (show W.rs.length ≤ 1000000 by rw [HRS.out]; exact HT.out.lr)
        obtain ⟨f6, hf6⟩ := HR.out.drop.drop.fst
        have b0 := cell_at (i := 0) hf6 rfl
        clear hf6 f6
        obtain ⟨R, hRR⟩ : ∃ R, R = W.rs[k] := ⟨_, rfl⟩
        rw [← hRR] at r0 r1 r2 r3 hmem hRt
        have HRE := hide hRR.symm
        clear hRR hRk hsr hc
        go_upto_region 7 with (fail)
        have H1 := hide (run_new HR.out okO.out #[.int .i64 R.k, .string (bs R.f), .string (bs R.t), .int .i64 R.c] 41)
        have HB2 := hide (show Below w.heap.size w (wr.alloc (.cells #[.int .i64 R.k, .string (bs R.f), .string (bs R.t), .int .i64 R.c] 41)) from H1.out.mod.below (fun _ _ h => h))
        clear HR r0 r1 r2 r3 b0 hbw
        generalize wr.alloc (.cells #[.int .i64 R.k, .string (bs R.f), .string (bs R.t), .int .i64 R.c] 41) = w2 at *
        generalize wr.heap.size = g16 at *
        obtain ⟨x0, x1, x2, x3, xf⟩ := run_c4 H1.out
        obtain ⟨c0, c1, c2, c3, c4, cf⟩ := run_c5 H1.out.drop.drop
        have HLW := HL
        clear HL
        cases lf with
        | true =>
          have HL2 := HLW
          have HL := HLF
          by_cases hk : R.k = W.ka
          · have t1 : (R.k == W.ka) = true := by simp [hk]
            have hun : W.used s R = usedR (W.l.drop s.i) R.f := by rw [use_l HL.out, if_pos hk, HU.out.1 R hmem hk _ HS.out.1]
            have KU := hide (used_any (w := w2) (c := xc) (HX.out.below HB2.out) s.i R.f HL2.out.1 HL2.out.2 HS.out.1)
            rw [← HNL.out] at KU
            have hnb : usedR (W.l.drop s.i) R.f ≤ 3 := usedR_le
            generalize usedR (W.l.drop s.i) R.f = n at *
            have HUN := hide hun
            clear hk hun
            go_wp2_with fail
            refine KU.out.mono ?_
            rintro e9 w3 ⟨rfl, hb⟩
            have H2 := hide (H1.out.below (star_ok cell_ok okO.out) hb)
            clear KU hb H1 HB2 x0 x1 x2 x3 xf c0 c1 c2 c3 c4 cf
            obtain ⟨x0, x1, x2, x3, xf⟩ := run_c4 H2.out
            obtain ⟨c0, c1, c2, c3, c4, cf⟩ := run_c5 H2.out.drop.drop
            dsimp only
            by_cases hn0 : n = 0
            · have HN0 := hide (outP_none hkn (mv_noUse (by rw [HRE.out, HUN.out]; exact hn0)))
              have t2 : ((n : Int) == 0) = true := by simp [hn0]
              clear hn0
              go_wp2
              go_roundw
              case rel => exact ⟨k + 1, A, c, HK1.out, by go_num, by rw [HN0.out], by rw [HN0.out]; exact H2.out.drop⟩
              case measure => have := HK1.out; simp [intOf]; omega
            · have t2 : ((n : Int) == 0) = false := by simp [hn0]
              have HYS := hide (fun (x : Bs × Bool) (hx : W.ah s R.t = some x) => (show W.mv s W.rs[k] = some (R.c, ⟨s.i + n, s.j, x.1, x.2⟩) from by rw [HRE.out]; exact (mv_yes HUN.out hn0 hx).trans (by rw [HL.out]; rfl)))
              clear hn0
              have okX2 := hide (star_ok cell_ok okO.out : (star (CellO g16 #[.int .i64 R.k, .string (bs R.f), .string (bs R.t), .int .i64 R.c] 41) (star (PtsO A c (outP W s k)) (star (CellO g11 #[.int .i64 s.i, .int .i64 s.j, .string (bs s.a), .bool s.r, .int .i64 h0] 37) (star (CellO g6 #[.slice (some ⟨b, o, none⟩) N ac, .slice aD n2 ad, .slice aE n3 ae, .int .i64 T.drop, .int .i64 T.ord, .int .i64 T.ini] 25) emp)))).Ok)
              go_upto_region 14 with (fail)
              have H3' := hide (run_new H2.out okX2.out #[.int .i64 s.i, .int .i64 s.j, .string ⟨#[]⟩, .bool false, .int .i64 R.c] 37)
              clear H2 x0 x1 x2 x3 xf c0 c1 c2 c3 c4 cf
              generalize w3.alloc (.cells #[.int .i64 s.i, .int .i64 s.j, .string ⟨#[]⟩, .bool false, .int .i64 R.c] 37) = W3 at *
              generalize w3.heap.size = g18 at *
              obtain ⟨y0, y1, y2, y3, y4, yf⟩ := run_c5 H3'.out
              have hsi : (s.i : Int) ≤ 1000000 := by have := HS.out.1; have := HLW.out.1; omega
              have hsj : (s.j : Int) ≤ 1000000 := by have := HS.out.2.1; have := HM.out.1; omega
              go_upto_region 17 with (fail)
              clear hsi hsj
              have okX := okX2
              have H4 := hide (show Run (fun _ => False) w (star (CellO g18 #[.int .i64 ((s.i : Int) + (n : Int)), .int .i64 (s.j : Int), .string ⟨#[]⟩, .bool false, .int .i64 R.c] 37) (star (CellO g16 #[.int .i64 R.k, .string (bs R.f), .string (bs R.t), .int .i64 R.c] 41) (star (PtsO A c (outP W s k)) (star (CellO g11 #[.int .i64 s.i, .int .i64 s.j, .string (bs s.a), .bool s.r, .int .i64 h0] 37) (star (CellO g6 #[.slice (some ⟨b, o, none⟩) N ac, .slice aD n2 ad, .slice aE n3 ae, .int .i64 T.drop, .int .i64 T.ord, .int .i64 T.ini] 25) emp))))) (W3.setCell ⟨g18, 0, none⟩ (.int .i64 ((s.i : Int) + (n : Int)))) from run_setc H3'.out okX2.out 0 (.int .i64 ((s.i : Int) + (n : Int))))
              clear H3' y0 y1 y2 y3 y4 yf
              generalize W3.setCell ⟨g18, 0, none⟩ (.int .i64 ((s.i : Int) + (n : Int))) = W4 at *
              obtain ⟨y0, y1, y2, y3, y4, yf⟩ := run_c5 H4.out
              obtain ⟨x0, x1, x2, x3, xf⟩ := run_c4 H4.out.drop
              obtain ⟨c0, c1, c2, c3, c4, cf⟩ := run_c5 H4.out.drop.drop.drop
              have K1 := hide (rbegins_any R.t s.a W4 hRt HA.out)
              clear t1 t2
              go_wp2_with fail
              refine K1.out.mono ?_
              rintro e9 W5 ⟨rfl, hb⟩
              have H5 := hide (H4.out.below (star_ok cell_ok okX.out) hb)
              clear K1 hb H4 y0 y1 y2 y3 y4 yf x0 x1 x2 x3 xf c0 c1 c2 c3 c4 cf
              obtain ⟨y0, y1, y2, y3, y4, yf⟩ := run_c5 H5.out
              obtain ⟨x0, x1, x2, x3, xf⟩ := run_c4 H5.out.drop
              obtain ⟨c0, c1, c2, c3, c4, cf⟩ := run_c5 H5.out.drop.drop.drop
              dsimp only
              by_cases h1 : s.a.isPrefixOf R.t = true
              · have HMX := hide (HYS.out _ (ahR_1 h1))
                rw [h1]
                have hqd : bs (R.t.drop s.a.length) = (bs R.t).extract (bs s.a).size (bs R.t).size := by rw [bs_size]; exact bs_drop R.t s.a.length
                have hql : (bs s.a).size ≤ (bs R.t).size := by rw [bs_size, bs_size]; exact (List.isPrefixOf_iff_prefix.1 h1).length_le
                have hql2 : ¬ (bs R.t).size < (bs s.a).size := by omega
                generalize R.t.drop s.a.length = q at *
                clear h1
                go_upto_region 19 with (fail)
                rw [← hqd]
                clear hqd hql hql2
                have H6 := hide (show Run (fun _ => False) w (star (CellO g18 #[.int .i64 ((s.i : Int) + (n : Int)), .int .i64 (s.j : Int), .string (bs q), .bool false, .int .i64 R.c] 37) (star (CellO g16 #[.int .i64 R.k, .string (bs R.f), .string (bs R.t), .int .i64 R.c] 41) (star (PtsO A c (outP W s k)) (star (CellO g11 #[.int .i64 s.i, .int .i64 s.j, .string (bs s.a), .bool s.r, .int .i64 h0] 37) (star (CellO g6 #[.slice (some ⟨b, o, none⟩) N ac, .slice aD n2 ad, .slice aE n3 ae, .int .i64 T.drop, .int .i64 T.ord, .int .i64 T.ini] 25) emp))))) (W5.setCell ⟨g18, 2, none⟩ (.string (bs q))) from run_setc H5.out okX.out 2 (.string (bs q)))
                clear H5 y0 y1 y2 y3 y4 yf x0 x1 x2 x3 xf c0 c1 c2 c3 c4 cf
                generalize W5.setCell ⟨g18, 2, none⟩ (.string (bs q)) = W6 at *
                obtain ⟨y0, y1, y2, y3, y4, yf⟩ := run_c5 H6.out
                obtain ⟨x0, x1, x2, x3, xf⟩ := run_c4 H6.out.drop
                obtain ⟨c0, c1, c2, c3, c4, cf⟩ := run_c5 H6.out.drop.drop.drop
                have HX := hide (show outP W s (k + 1) = outP W s k ++ [toPt (R.c, ⟨s.i + n, s.j, q, false⟩)] from by have := HMX.out; rw [HL.out, Bool.not_true, Bool.false_and] at this; exact outP_some hkn this)
                clear HMX
                go_upto_region 23 with (fail)
                have H7 := hide (show Run (fun _ => False) w (star (CellO g18 #[.int .i64 ((s.i : Int) + (n : Int)), .int .i64 (s.j : Int), .string (bs q), .bool false, .int .i64 R.c] 37) (star (CellO g16 #[.int .i64 R.k, .string (bs R.f), .string (bs R.t), .int .i64 R.c] 41) (star (PtsO A c (outP W s k)) (star (CellO g11 #[.int .i64 s.i, .int .i64 s.j, .string (bs s.a), .bool s.r, .int .i64 h0] 37) (star (CellO g6 #[.slice (some ⟨b, o, none⟩) N ac, .slice aD n2 ad, .slice aE n3 ae, .int .i64 T.drop, .int .i64 T.ord, .int .i64 T.ini] 25) emp))))) (W6.setCell ⟨g18, 3, none⟩ (.bool false)) from run_setc H6.out okX.out 3 (.bool false))
                clear H6 y0 y1 y2 y3 y4 yf x0 x1 x2 x3 xf c0 c1 c2 c3 c4 cf
                generalize W6.setCell ⟨g18, 3, none⟩ (.bool false) = W7 at *
                obtain ⟨y0, y1, y2, y3, y4, yf⟩ := run_c5 H7.out
                have HPO := hide (show outP W s (k + 1) = outP W s k ++ [⟨((s.i : Int) + (n : Int)), (s.j : Int), q, false, R.c⟩] from by
                  rw [HX.out]; simp [toPt])
                have hlo : (outP W s k).length ≤ 5737412434 := by have := outP_len (W := W) (s := s) (k := k); have := HQ.out; omega
                go_wp2_with (at_builtin; refine held ?_)
                refine Held.mk (app_pts rfl (.tmp 127) (.tmp 129) rfl ⟨((s.i : Int) + (n : Int)), (s.j : Int), q, false, R.c⟩ rfl rfl rfl hlo (star_ok cell_ok (star_ok cell_ok okB.out)) (H7.out.perm (by ac_rfl : _ = star (PtsO A c (outP W s k)) (star (CellO g18 #[.int .i64 ((s.i : Int) + (n : Int)), .int .i64 (s.j : Int), .string (bs q), .bool false, .int .i64 R.c] 37) (star (CellO g16 #[.int .i64 R.k, .string (bs R.f), .string (bs R.t), .int .i64 R.c] 41) (star (CellO g11 #[.int .i64 s.i, .int .i64 s.j, .string (bs s.a), .bool s.r, .int .i64 h0] 37) (star (CellO g6 #[.slice (some ⟨b, o, none⟩) N ac, .slice aD n2 ad, .slice aE n3 ae, .int .i64 T.drop, .int .i64 T.ord, .int .i64 T.ini] 25) emp)))))) ?_)
                intro A' c' w8 hr8
                have H8 := hide (show Run (fun _ => False) w (star (PtsO A' c' (outP W s (k + 1))) (star (CellO g11 #[.int .i64 s.i, .int .i64 s.j, .string (bs s.a), .bool s.r, .int .i64 h0] 37) (star (CellO g6 #[.slice (some ⟨b, o, none⟩) N ac, .slice aD n2 ad, .slice aE n3 ae, .int .i64 T.drop, .int .i64 T.ord, .int .i64 T.ini] 25) emp))) w8 from by
                  rw [HPO.out]
                  exact (hr8.perm (by ac_rfl : _ = star (CellO g18 #[.int .i64 ((s.i : Int) + (n : Int)), .int .i64 (s.j : Int), .string (bs q), .bool false, .int .i64 R.c] 37) (star (CellO g16 #[.int .i64 R.k, .string (bs R.f), .string (bs R.t), .int .i64 R.c] 41) (star (PtsO A' c' (outP W s k ++ [⟨((s.i : Int) + (n : Int)), (s.j : Int), q, false, R.c⟩])) (star (CellO g11 #[.int .i64 s.i, .int .i64 s.j, .string (bs s.a), .bool s.r, .int .i64 h0] 37) (star (CellO g6 #[.slice (some ⟨b, o, none⟩) N ac, .slice aD n2 ad, .slice aE n3 ae, .int .i64 T.drop, .int .i64 T.ord, .int .i64 T.ini] 25) emp)))))).drop.drop)
                have HLN : (outP W s k).length + 1 = (outP W s (k + 1)).length := by rw [HPO.out, List.length_append]; rfl
                rw [HLN]
                clear hr8 H7 y0 y1 y2 y3 y4 yf HLN hlo
                go_wp2_with fail
                go_roundw
                case rel => exact ⟨k + 1, A', c', HK1.out, by go_num, rfl, H8.out⟩
                case measure => have := HK1.out; simp [intOf]; omega
              · rw [Bool.eq_false_iff.2 h1]
                have K2 := hide (rbegins_any s.a R.t W5 HA.out hRt)
                go_wp2_with fail
                refine K2.out.mono ?_
                rintro e9 W5 ⟨rfl, hb⟩
                have H6' := hide (H5.out.below (star_ok cell_ok okX.out) hb)
                clear K2 hb H5 y0 y1 y2 y3 y4 yf x0 x1 x2 x3 xf c0 c1 c2 c3 c4 cf
                have H5 := H6'
                clear H6'
                obtain ⟨y0, y1, y2, y3, y4, yf⟩ := run_c5 H5.out
                obtain ⟨x0, x1, x2, x3, xf⟩ := run_c4 H5.out.drop
                obtain ⟨c0, c1, c2, c3, c4, cf⟩ := run_c5 H5.out.drop.drop.drop
                dsimp only
                by_cases h2 : R.t.isPrefixOf s.a = true
                · have HMX := hide (HYS.out _ (ahR_2 h1 h2))
                  rw [h2]
                  have hqd : bs (s.a.drop R.t.length) = (bs s.a).extract (bs R.t).size (bs s.a).size := by rw [bs_size]; exact bs_drop s.a R.t.length
                  have hql : (bs R.t).size ≤ (bs s.a).size := by rw [bs_size, bs_size]; exact (List.isPrefixOf_iff_prefix.1 h2).length_le
                  have hql2 : ¬ (bs s.a).size < (bs R.t).size := by omega
                  generalize s.a.drop R.t.length = q at *
                  clear h1 h2
                  go_upto_region 22 with (fail)
                  rw [← hqd]
                  clear hqd hql hql2
                  have H6 := hide (show Run (fun _ => False) w (star (CellO g18 #[.int .i64 ((s.i : Int) + (n : Int)), .int .i64 (s.j : Int), .string (bs q), .bool false, .int .i64 R.c] 37) (star (CellO g16 #[.int .i64 R.k, .string (bs R.f), .string (bs R.t), .int .i64 R.c] 41) (star (PtsO A c (outP W s k)) (star (CellO g11 #[.int .i64 s.i, .int .i64 s.j, .string (bs s.a), .bool s.r, .int .i64 h0] 37) (star (CellO g6 #[.slice (some ⟨b, o, none⟩) N ac, .slice aD n2 ad, .slice aE n3 ae, .int .i64 T.drop, .int .i64 T.ord, .int .i64 T.ini] 25) emp))))) (W5.setCell ⟨g18, 2, none⟩ (.string (bs q))) from run_setc H5.out okX.out 2 (.string (bs q)))
                  clear H5 y0 y1 y2 y3 y4 yf x0 x1 x2 x3 xf c0 c1 c2 c3 c4 cf
                  generalize W5.setCell ⟨g18, 2, none⟩ (.string (bs q)) = W6 at *
                  obtain ⟨y0, y1, y2, y3, y4, yf⟩ := run_c5 H6.out
                  obtain ⟨x0, x1, x2, x3, xf⟩ := run_c4 H6.out.drop
                  obtain ⟨c0, c1, c2, c3, c4, cf⟩ := run_c5 H6.out.drop.drop.drop
                  have HX := hide (outP_some hkn HMX.out)
                  clear HMX
                  go_upto_region 23 with (fail)
                  have H7 := hide (show Run (fun _ => False) w (star (CellO g18 #[.int .i64 ((s.i : Int) + (n : Int)), .int .i64 (s.j : Int), .string (bs q), .bool s.r, .int .i64 R.c] 37) (star (CellO g16 #[.int .i64 R.k, .string (bs R.f), .string (bs R.t), .int .i64 R.c] 41) (star (PtsO A c (outP W s k)) (star (CellO g11 #[.int .i64 s.i, .int .i64 s.j, .string (bs s.a), .bool s.r, .int .i64 h0] 37) (star (CellO g6 #[.slice (some ⟨b, o, none⟩) N ac, .slice aD n2 ad, .slice aE n3 ae, .int .i64 T.drop, .int .i64 T.ord, .int .i64 T.ini] 25) emp))))) (W6.setCell ⟨g18, 3, none⟩ (.bool s.r)) from run_setc H6.out okX.out 3 (.bool s.r))
                  clear H6 y0 y1 y2 y3 y4 yf x0 x1 x2 x3 xf c0 c1 c2 c3 c4 cf
                  generalize W6.setCell ⟨g18, 3, none⟩ (.bool s.r) = W7 at *
                  obtain ⟨y0, y1, y2, y3, y4, yf⟩ := run_c5 H7.out
                  have HPO := hide (show outP W s (k + 1) = outP W s k ++ [⟨((s.i : Int) + (n : Int)), (s.j : Int), q, s.r, R.c⟩] from by
                    rw [HX.out]; simp [toPt])
                  have hlo : (outP W s k).length ≤ 5737412434 := by have := outP_len (W := W) (s := s) (k := k); have := HQ.out; omega
                  go_wp2_with (at_builtin; refine held ?_)
                  refine Held.mk (app_pts rfl (.tmp 127) (.tmp 129) rfl ⟨((s.i : Int) + (n : Int)), (s.j : Int), q, s.r, R.c⟩ rfl rfl rfl hlo (star_ok cell_ok (star_ok cell_ok okB.out)) (H7.out.perm (by ac_rfl : _ = star (PtsO A c (outP W s k)) (star (CellO g18 #[.int .i64 ((s.i : Int) + (n : Int)), .int .i64 (s.j : Int), .string (bs q), .bool s.r, .int .i64 R.c] 37) (star (CellO g16 #[.int .i64 R.k, .string (bs R.f), .string (bs R.t), .int .i64 R.c] 41) (star (CellO g11 #[.int .i64 s.i, .int .i64 s.j, .string (bs s.a), .bool s.r, .int .i64 h0] 37) (star (CellO g6 #[.slice (some ⟨b, o, none⟩) N ac, .slice aD n2 ad, .slice aE n3 ae, .int .i64 T.drop, .int .i64 T.ord, .int .i64 T.ini] 25) emp)))))) ?_)
                  intro A' c' w8 hr8
                  have H8 := hide (show Run (fun _ => False) w (star (PtsO A' c' (outP W s (k + 1))) (star (CellO g11 #[.int .i64 s.i, .int .i64 s.j, .string (bs s.a), .bool s.r, .int .i64 h0] 37) (star (CellO g6 #[.slice (some ⟨b, o, none⟩) N ac, .slice aD n2 ad, .slice aE n3 ae, .int .i64 T.drop, .int .i64 T.ord, .int .i64 T.ini] 25) emp))) w8 from by
                    rw [HPO.out]
                    exact (hr8.perm (by ac_rfl : _ = star (CellO g18 #[.int .i64 ((s.i : Int) + (n : Int)), .int .i64 (s.j : Int), .string (bs q), .bool s.r, .int .i64 R.c] 37) (star (CellO g16 #[.int .i64 R.k, .string (bs R.f), .string (bs R.t), .int .i64 R.c] 41) (star (PtsO A' c' (outP W s k ++ [⟨((s.i : Int) + (n : Int)), (s.j : Int), q, s.r, R.c⟩])) (star (CellO g11 #[.int .i64 s.i, .int .i64 s.j, .string (bs s.a), .bool s.r, .int .i64 h0] 37) (star (CellO g6 #[.slice (some ⟨b, o, none⟩) N ac, .slice aD n2 ad, .slice aE n3 ae, .int .i64 T.drop, .int .i64 T.ord, .int .i64 T.ini] 25) emp)))))).drop.drop)
                  have HLN : (outP W s k).length + 1 = (outP W s (k + 1)).length := by rw [HPO.out, List.length_append]; rfl
                  rw [HLN]
                  clear hr8 H7 y0 y1 y2 y3 y4 yf HLN hlo
                  go_wp2_with fail
                  go_roundw
                  case rel => exact ⟨k + 1, A', c', HK1.out, by go_num, rfl, H8.out⟩
                  case measure => have := HK1.out; simp [intOf]; omega
                · have HN0 := hide (outP_none hkn (by rw [HRE.out]; exact mv_noAh (ahR_3 h1 h2)))
                  rw [Bool.eq_false_iff.2 h2]
                  clear h1 h2
                  go_wp2
                  go_roundw
                  case rel => exact ⟨k + 1, A, c, HK1.out, by go_num, by rw [HN0.out], by rw [HN0.out]; exact H5.out.drop.drop⟩
                  case measure => have := HK1.out; simp [intOf]; omega
          · have t1 : (R.k == W.ka) = false := by simp [hk]
            have HN0 := hide (outP_none hkn (mv_noUse (by rw [HRE.out, use_l HL.out, if_neg hk])))
            clear hk
            go_wp2
            go_roundw
            case rel => exact ⟨k + 1, A, c, HK1.out, by go_num, by rw [HN0.out], by rw [HN0.out]; exact H1.out.drop⟩
            case measure => have := HK1.out; simp [intOf]; omega
        | false =>
          have HL := HLF
          by_cases hk : R.k = W.kb
          · have t1 : (R.k == W.kb) = true := by simp [hk]
            have hun : W.used s R = usedR (W.m.drop s.j) R.f := by rw [use_r HL.out, if_pos hk, HU.out.2 R hmem hk _ HS.out.2.1]
            have KU := hide (used_any (w := w2) (c := yc) (HY.out.below HB2.out) s.j R.f HM.out.1 HM.out.2 HS.out.2.1)
            rw [← HNM.out] at KU
            have hnb : usedR (W.m.drop s.j) R.f ≤ 3 := usedR_le
            generalize usedR (W.m.drop s.j) R.f = n at *
            have HUN := hide hun
            clear hk hun
            go_wp2_with fail
            refine KU.out.mono ?_
            rintro e9 w3 ⟨rfl, hb⟩
            have H2 := hide (H1.out.below (star_ok cell_ok okO.out) hb)
            clear KU hb H1 HB2 x0 x1 x2 x3 xf c0 c1 c2 c3 c4 cf
            obtain ⟨x0, x1, x2, x3, xf⟩ := run_c4 H2.out
            obtain ⟨c0, c1, c2, c3, c4, cf⟩ := run_c5 H2.out.drop.drop
            dsimp only
            by_cases hn0 : n = 0
            · have HN0 := hide (outP_none hkn (mv_noUse (by rw [HRE.out, HUN.out]; exact hn0)))
              have t2 : ((n : Int) == 0) = true := by simp [hn0]
              clear hn0
              go_wp2
              go_roundw
              case rel => exact ⟨k + 1, A, c, HK1.out, by go_num, by rw [HN0.out], by rw [HN0.out]; exact H2.out.drop⟩
              case measure => have := HK1.out; simp [intOf]; omega
            · have t2 : ((n : Int) == 0) = false := by simp [hn0]
              have HYS := hide (fun (x : Bs × Bool) (hx : W.ah s R.t = some x) => (show W.mv s W.rs[k] = some (R.c, ⟨s.i, s.j + n, x.1, x.2⟩) from by rw [HRE.out]; exact (mv_yes HUN.out hn0 hx).trans (by rw [HL.out]; rfl)))
              clear hn0
              have okX2 := hide (star_ok cell_ok okO.out : (star (CellO g16 #[.int .i64 R.k, .string (bs R.f), .string (bs R.t), .int .i64 R.c] 41) (star (PtsO A c (outP W s k)) (star (CellO g11 #[.int .i64 s.i, .int .i64 s.j, .string (bs s.a), .bool s.r, .int .i64 h0] 37) (star (CellO g6 #[.slice (some ⟨b, o, none⟩) N ac, .slice aD n2 ad, .slice aE n3 ae, .int .i64 T.drop, .int .i64 T.ord, .int .i64 T.ini] 25) emp)))).Ok)
              go_upto_region 14 with (fail)
              have H3' := hide (run_new H2.out okX2.out #[.int .i64 s.i, .int .i64 s.j, .string ⟨#[]⟩, .bool false, .int .i64 R.c] 37)
              clear H2 x0 x1 x2 x3 xf c0 c1 c2 c3 c4 cf
              generalize w3.alloc (.cells #[.int .i64 s.i, .int .i64 s.j, .string ⟨#[]⟩, .bool false, .int .i64 R.c] 37) = W3 at *
              generalize w3.heap.size = g18 at *
              obtain ⟨y0, y1, y2, y3, y4, yf⟩ := run_c5 H3'.out
              have hsi : (s.i : Int) ≤ 1000000 := by have := HS.out.1; have := HLW.out.1; omega
              have hsj : (s.j : Int) ≤ 1000000 := by have := HS.out.2.1; have := HM.out.1; omega
              go_upto_region 17 with (fail)
              clear hsi hsj
              have okX := okX2
              have H4 := hide (show Run (fun _ => False) w (star (CellO g18 #[.int .i64 (s.i : Int), .int .i64 ((s.j : Int) + (n : Int)), .string ⟨#[]⟩, .bool false, .int .i64 R.c] 37) (star (CellO g16 #[.int .i64 R.k, .string (bs R.f), .string (bs R.t), .int .i64 R.c] 41) (star (PtsO A c (outP W s k)) (star (CellO g11 #[.int .i64 s.i, .int .i64 s.j, .string (bs s.a), .bool s.r, .int .i64 h0] 37) (star (CellO g6 #[.slice (some ⟨b, o, none⟩) N ac, .slice aD n2 ad, .slice aE n3 ae, .int .i64 T.drop, .int .i64 T.ord, .int .i64 T.ini] 25) emp))))) (W3.setCell ⟨g18, 1, none⟩ (.int .i64 ((s.j : Int) + (n : Int)))) from run_setc H3'.out okX2.out 1 (.int .i64 ((s.j : Int) + (n : Int))))
              clear H3' y0 y1 y2 y3 y4 yf
              generalize W3.setCell ⟨g18, 1, none⟩ (.int .i64 ((s.j : Int) + (n : Int))) = W4 at *
              obtain ⟨y0, y1, y2, y3, y4, yf⟩ := run_c5 H4.out
              obtain ⟨x0, x1, x2, x3, xf⟩ := run_c4 H4.out.drop
              obtain ⟨c0, c1, c2, c3, c4, cf⟩ := run_c5 H4.out.drop.drop.drop
              have K1 := hide (rbegins_any R.t s.a W4 hRt HA.out)
              clear t1 t2
              go_wp2_with fail
              refine K1.out.mono ?_
              rintro e9 W5 ⟨rfl, hb⟩
              have H5 := hide (H4.out.below (star_ok cell_ok okX.out) hb)
              clear K1 hb H4 y0 y1 y2 y3 y4 yf x0 x1 x2 x3 xf c0 c1 c2 c3 c4 cf
              obtain ⟨y0, y1, y2, y3, y4, yf⟩ := run_c5 H5.out
              obtain ⟨x0, x1, x2, x3, xf⟩ := run_c4 H5.out.drop
              obtain ⟨c0, c1, c2, c3, c4, cf⟩ := run_c5 H5.out.drop.drop.drop
              dsimp only
              by_cases h1 : s.a.isPrefixOf R.t = true
              · have HMX := hide (HYS.out _ (ahR_1 h1))
                rw [h1]
                have hqd : bs (R.t.drop s.a.length) = (bs R.t).extract (bs s.a).size (bs R.t).size := by rw [bs_size]; exact bs_drop R.t s.a.length
                have hql : (bs s.a).size ≤ (bs R.t).size := by rw [bs_size, bs_size]; exact (List.isPrefixOf_iff_prefix.1 h1).length_le
                have hql2 : ¬ (bs R.t).size < (bs s.a).size := by omega
                generalize R.t.drop s.a.length = q at *
                clear h1
                go_upto_region 19 with (fail)
                rw [← hqd]
                clear hqd hql hql2
                have H6 := hide (show Run (fun _ => False) w (star (CellO g18 #[.int .i64 (s.i : Int), .int .i64 ((s.j : Int) + (n : Int)), .string (bs q), .bool false, .int .i64 R.c] 37) (star (CellO g16 #[.int .i64 R.k, .string (bs R.f), .string (bs R.t), .int .i64 R.c] 41) (star (PtsO A c (outP W s k)) (star (CellO g11 #[.int .i64 s.i, .int .i64 s.j, .string (bs s.a), .bool s.r, .int .i64 h0] 37) (star (CellO g6 #[.slice (some ⟨b, o, none⟩) N ac, .slice aD n2 ad, .slice aE n3 ae, .int .i64 T.drop, .int .i64 T.ord, .int .i64 T.ini] 25) emp))))) (W5.setCell ⟨g18, 2, none⟩ (.string (bs q))) from run_setc H5.out okX.out 2 (.string (bs q)))
                clear H5 y0 y1 y2 y3 y4 yf x0 x1 x2 x3 xf c0 c1 c2 c3 c4 cf
                generalize W5.setCell ⟨g18, 2, none⟩ (.string (bs q)) = W6 at *
                obtain ⟨y0, y1, y2, y3, y4, yf⟩ := run_c5 H6.out
                obtain ⟨x0, x1, x2, x3, xf⟩ := run_c4 H6.out.drop
                obtain ⟨c0, c1, c2, c3, c4, cf⟩ := run_c5 H6.out.drop.drop.drop
                by_cases hq : q = []
                · have e2 : (bs q).toList.isEmpty = true := by rw [List.isEmpty_iff]; exact bs_empty.2 hq
                  have HX := hide (show outP W s (k + 1) = outP W s k ++ [toPt (R.c, ⟨s.i, s.j + n, q, false⟩)] from by have := HMX.out; rw [HL.out, Bool.not_false, Bool.true_and, decide_eq_false (fun h => h hq)] at this; exact outP_some hkn this)
                  clear hq HMX
                  go_upto_region 23 with (fail)
                  have H7 := hide (show Run (fun _ => False) w (star (CellO g18 #[.int .i64 (s.i : Int), .int .i64 ((s.j : Int) + (n : Int)), .string (bs q), .bool false, .int .i64 R.c] 37) (star (CellO g16 #[.int .i64 R.k, .string (bs R.f), .string (bs R.t), .int .i64 R.c] 41) (star (PtsO A c (outP W s k)) (star (CellO g11 #[.int .i64 s.i, .int .i64 s.j, .string (bs s.a), .bool s.r, .int .i64 h0] 37) (star (CellO g6 #[.slice (some ⟨b, o, none⟩) N ac, .slice aD n2 ad, .slice aE n3 ae, .int .i64 T.drop, .int .i64 T.ord, .int .i64 T.ini] 25) emp))))) (W6.setCell ⟨g18, 3, none⟩ (.bool false)) from run_setc H6.out okX.out 3 (.bool false))
                  clear H6 y0 y1 y2 y3 y4 yf x0 x1 x2 x3 xf c0 c1 c2 c3 c4 cf
                  generalize W6.setCell ⟨g18, 3, none⟩ (.bool false) = W7 at *
                  obtain ⟨y0, y1, y2, y3, y4, yf⟩ := run_c5 H7.out
                  have HPO := hide (show outP W s (k + 1) = outP W s k ++ [⟨(s.i : Int), ((s.j : Int) + (n : Int)), q, false, R.c⟩] from by
                    rw [HX.out]; simp [toPt])
                  have hlo : (outP W s k).length ≤ 5737412434 := by have := outP_len (W := W) (s := s) (k := k); have := HQ.out; omega
                  go_wp2_with (at_builtin; refine held ?_)
                  refine Held.mk (app_pts rfl (.tmp 127) (.tmp 129) rfl ⟨(s.i : Int), ((s.j : Int) + (n : Int)), q, false, R.c⟩ rfl rfl rfl hlo (star_ok cell_ok (star_ok cell_ok okB.out)) (H7.out.perm (by ac_rfl : _ = star (PtsO A c (outP W s k)) (star (CellO g18 #[.int .i64 (s.i : Int), .int .i64 ((s.j : Int) + (n : Int)), .string (bs q), .bool false, .int .i64 R.c] 37) (star (CellO g16 #[.int .i64 R.k, .string (bs R.f), .string (bs R.t), .int .i64 R.c] 41) (star (CellO g11 #[.int .i64 s.i, .int .i64 s.j, .string (bs s.a), .bool s.r, .int .i64 h0] 37) (star (CellO g6 #[.slice (some ⟨b, o, none⟩) N ac, .slice aD n2 ad, .slice aE n3 ae, .int .i64 T.drop, .int .i64 T.ord, .int .i64 T.ini] 25) emp)))))) ?_)
                  intro A' c' w8 hr8
                  have H8 := hide (show Run (fun _ => False) w (star (PtsO A' c' (outP W s (k + 1))) (star (CellO g11 #[.int .i64 s.i, .int .i64 s.j, .string (bs s.a), .bool s.r, .int .i64 h0] 37) (star (CellO g6 #[.slice (some ⟨b, o, none⟩) N ac, .slice aD n2 ad, .slice aE n3 ae, .int .i64 T.drop, .int .i64 T.ord, .int .i64 T.ini] 25) emp))) w8 from by
                    rw [HPO.out]
                    exact (hr8.perm (by ac_rfl : _ = star (CellO g18 #[.int .i64 (s.i : Int), .int .i64 ((s.j : Int) + (n : Int)), .string (bs q), .bool false, .int .i64 R.c] 37) (star (CellO g16 #[.int .i64 R.k, .string (bs R.f), .string (bs R.t), .int .i64 R.c] 41) (star (PtsO A' c' (outP W s k ++ [⟨(s.i : Int), ((s.j : Int) + (n : Int)), q, false, R.c⟩])) (star (CellO g11 #[.int .i64 s.i, .int .i64 s.j, .string (bs s.a), .bool s.r, .int .i64 h0] 37) (star (CellO g6 #[.slice (some ⟨b, o, none⟩) N ac, .slice aD n2 ad, .slice aE n3 ae, .int .i64 T.drop, .int .i64 T.ord, .int .i64 T.ini] 25) emp)))))).drop.drop)
                  have HLN : (outP W s k).length + 1 = (outP W s (k + 1)).length := by rw [HPO.out, List.length_append]; rfl
                  rw [HLN]
                  clear hr8 H7 y0 y1 y2 y3 y4 yf HLN hlo
                  go_wp2_with fail
                  go_roundw
                  case rel => exact ⟨k + 1, A', c', HK1.out, by go_num, rfl, H8.out⟩
                  case measure => have := HK1.out; simp [intOf]; omega
                · have e2 : (bs q).toList.isEmpty = false := by rw [List.isEmpty_eq_false_iff]; exact fun h => hq (bs_empty.1 h)
                  have HX := hide (show outP W s (k + 1) = outP W s k ++ [toPt (R.c, ⟨s.i, s.j + n, q, true⟩)] from by have := HMX.out; rw [HL.out, Bool.not_false, Bool.true_and, decide_eq_true hq] at this; exact outP_some hkn this)
                  clear hq HMX
                  go_upto_region 23 with (fail)
                  have H7 := hide (show Run (fun _ => False) w (star (CellO g18 #[.int .i64 (s.i : Int), .int .i64 ((s.j : Int) + (n : Int)), .string (bs q), .bool true, .int .i64 R.c] 37) (star (CellO g16 #[.int .i64 R.k, .string (bs R.f), .string (bs R.t), .int .i64 R.c] 41) (star (PtsO A c (outP W s k)) (star (CellO g11 #[.int .i64 s.i, .int .i64 s.j, .string (bs s.a), .bool s.r, .int .i64 h0] 37) (star (CellO g6 #[.slice (some ⟨b, o, none⟩) N ac, .slice aD n2 ad, .slice aE n3 ae, .int .i64 T.drop, .int .i64 T.ord, .int .i64 T.ini] 25) emp))))) (W6.setCell ⟨g18, 3, none⟩ (.bool true)) from run_setc H6.out okX.out 3 (.bool true))
                  clear H6 y0 y1 y2 y3 y4 yf x0 x1 x2 x3 xf c0 c1 c2 c3 c4 cf
                  generalize W6.setCell ⟨g18, 3, none⟩ (.bool true) = W7 at *
                  obtain ⟨y0, y1, y2, y3, y4, yf⟩ := run_c5 H7.out
                  have HPO := hide (show outP W s (k + 1) = outP W s k ++ [⟨(s.i : Int), ((s.j : Int) + (n : Int)), q, true, R.c⟩] from by
                    rw [HX.out]; simp [toPt])
                  have hlo : (outP W s k).length ≤ 5737412434 := by have := outP_len (W := W) (s := s) (k := k); have := HQ.out; omega
                  go_wp2_with (at_builtin; refine held ?_)
                  refine Held.mk (app_pts rfl (.tmp 127) (.tmp 129) rfl ⟨(s.i : Int), ((s.j : Int) + (n : Int)), q, true, R.c⟩ rfl rfl rfl hlo (star_ok cell_ok (star_ok cell_ok okB.out)) (H7.out.perm (by ac_rfl : _ = star (PtsO A c (outP W s k)) (star (CellO g18 #[.int .i64 (s.i : Int), .int .i64 ((s.j : Int) + (n : Int)), .string (bs q), .bool true, .int .i64 R.c] 37) (star (CellO g16 #[.int .i64 R.k, .string (bs R.f), .string (bs R.t), .int .i64 R.c] 41) (star (CellO g11 #[.int .i64 s.i, .int .i64 s.j, .string (bs s.a), .bool s.r, .int .i64 h0] 37) (star (CellO g6 #[.slice (some ⟨b, o, none⟩) N ac, .slice aD n2 ad, .slice aE n3 ae, .int .i64 T.drop, .int .i64 T.ord, .int .i64 T.ini] 25) emp)))))) ?_)
                  intro A' c' w8 hr8
                  have H8 := hide (show Run (fun _ => False) w (star (PtsO A' c' (outP W s (k + 1))) (star (CellO g11 #[.int .i64 s.i, .int .i64 s.j, .string (bs s.a), .bool s.r, .int .i64 h0] 37) (star (CellO g6 #[.slice (some ⟨b, o, none⟩) N ac, .slice aD n2 ad, .slice aE n3 ae, .int .i64 T.drop, .int .i64 T.ord, .int .i64 T.ini] 25) emp))) w8 from by
                    rw [HPO.out]
                    exact (hr8.perm (by ac_rfl : _ = star (CellO g18 #[.int .i64 (s.i : Int), .int .i64 ((s.j : Int) + (n : Int)), .string (bs q), .bool true, .int .i64 R.c] 37) (star (CellO g16 #[.int .i64 R.k, .string (bs R.f), .string (bs R.t), .int .i64 R.c] 41) (star (PtsO A' c' (outP W s k ++ [⟨(s.i : Int), ((s.j : Int) + (n : Int)), q, true, R.c⟩])) (star (CellO g11 #[.int .i64 s.i, .int .i64 s.j, .string (bs s.a), .bool s.r, .int .i64 h0] 37) (star (CellO g6 #[.slice (some ⟨b, o, none⟩) N ac, .slice aD n2 ad, .slice aE n3 ae, .int .i64 T.drop, .int .i64 T.ord, .int .i64 T.ini] 25) emp)))))).drop.drop)
                  have HLN : (outP W s k).length + 1 = (outP W s (k + 1)).length := by rw [HPO.out, List.length_append]; rfl
                  rw [HLN]
                  clear hr8 H7 y0 y1 y2 y3 y4 yf HLN hlo
                  go_wp2_with fail
                  go_roundw
                  case rel => exact ⟨k + 1, A', c', HK1.out, by go_num, rfl, H8.out⟩
                  case measure => have := HK1.out; simp [intOf]; omega
              · rw [Bool.eq_false_iff.2 h1]
                have K2 := hide (rbegins_any s.a R.t W5 HA.out hRt)
                go_wp2_with fail
                refine K2.out.mono ?_
                rintro e9 W5 ⟨rfl, hb⟩
                have H6' := hide (H5.out.below (star_ok cell_ok okX.out) hb)
                clear K2 hb H5 y0 y1 y2 y3 y4 yf x0 x1 x2 x3 xf c0 c1 c2 c3 c4 cf
                have H5 := H6'
                clear H6'
                obtain ⟨y0, y1, y2, y3, y4, yf⟩ := run_c5 H5.out
                obtain ⟨x0, x1, x2, x3, xf⟩ := run_c4 H5.out.drop
                obtain ⟨c0, c1, c2, c3, c4, cf⟩ := run_c5 H5.out.drop.drop.drop
                dsimp only
                by_cases h2 : R.t.isPrefixOf s.a = true
                · have HMX := hide (HYS.out _ (ahR_2 h1 h2))
                  rw [h2]
                  have hqd : bs (s.a.drop R.t.length) = (bs s.a).extract (bs R.t).size (bs s.a).size := by rw [bs_size]; exact bs_drop s.a R.t.length
                  have hql : (bs R.t).size ≤ (bs s.a).size := by rw [bs_size, bs_size]; exact (List.isPrefixOf_iff_prefix.1 h2).length_le
                  have hql2 : ¬ (bs s.a).size < (bs R.t).size := by omega
                  generalize s.a.drop R.t.length = q at *
                  clear h1 h2
                  go_upto_region 22 with (fail)
                  rw [← hqd]
                  clear hqd hql hql2
                  have H6 := hide (show Run (fun _ => False) w (star (CellO g18 #[.int .i64 (s.i : Int), .int .i64 ((s.j : Int) + (n : Int)), .string (bs q), .bool false, .int .i64 R.c] 37) (star (CellO g16 #[.int .i64 R.k, .string (bs R.f), .string (bs R.t), .int .i64 R.c] 41) (star (PtsO A c (outP W s k)) (star (CellO g11 #[.int .i64 s.i, .int .i64 s.j, .string (bs s.a), .bool s.r, .int .i64 h0] 37) (star (CellO g6 #[.slice (some ⟨b, o, none⟩) N ac, .slice aD n2 ad, .slice aE n3 ae, .int .i64 T.drop, .int .i64 T.ord, .int .i64 T.ini] 25) emp))))) (W5.setCell ⟨g18, 2, none⟩ (.string (bs q))) from run_setc H5.out okX.out 2 (.string (bs q)))
                  clear H5 y0 y1 y2 y3 y4 yf x0 x1 x2 x3 xf c0 c1 c2 c3 c4 cf
                  generalize W5.setCell ⟨g18, 2, none⟩ (.string (bs q)) = W6 at *
                  obtain ⟨y0, y1, y2, y3, y4, yf⟩ := run_c5 H6.out
                  obtain ⟨x0, x1, x2, x3, xf⟩ := run_c4 H6.out.drop
                  obtain ⟨c0, c1, c2, c3, c4, cf⟩ := run_c5 H6.out.drop.drop.drop
                  have HX := hide (outP_some hkn HMX.out)
                  clear HMX
                  go_upto_region 23 with (fail)
                  have H7 := hide (show Run (fun _ => False) w (star (CellO g18 #[.int .i64 (s.i : Int), .int .i64 ((s.j : Int) + (n : Int)), .string (bs q), .bool s.r, .int .i64 R.c] 37) (star (CellO g16 #[.int .i64 R.k, .string (bs R.f), .string (bs R.t), .int .i64 R.c] 41) (star (PtsO A c (outP W s k)) (star (CellO g11 #[.int .i64 s.i, .int .i64 s.j, .string (bs s.a), .bool s.r, .int .i64 h0] 37) (star (CellO g6 #[.slice (some ⟨b, o, none⟩) N ac, .slice aD n2 ad, .slice aE n3 ae, .int .i64 T.drop, .int .i64 T.ord, .int .i64 T.ini] 25) emp))))) (W6.setCell ⟨g18, 3, none⟩ (.bool s.r)) from run_setc H6.out okX.out 3 (.bool s.r))
                  clear H6 y0 y1 y2 y3 y4 yf x0 x1 x2 x3 xf c0 c1 c2 c3 c4 cf
                  generalize W6.setCell ⟨g18, 3, none⟩ (.bool s.r) = W7 at *
                  obtain ⟨y0, y1, y2, y3, y4, yf⟩ := run_c5 H7.out
                  have HPO := hide (show outP W s (k + 1) = outP W s k ++ [⟨(s.i : Int), ((s.j : Int) + (n : Int)), q, s.r, R.c⟩] from by
                    rw [HX.out]; simp [toPt])
                  have hlo : (outP W s k).length ≤ 5737412434 := by have := outP_len (W := W) (s := s) (k := k); have := HQ.out; omega
                  go_wp2_with (at_builtin; refine held ?_)
                  refine Held.mk (app_pts rfl (.tmp 127) (.tmp 129) rfl ⟨(s.i : Int), ((s.j : Int) + (n : Int)), q, s.r, R.c⟩ rfl rfl rfl hlo (star_ok cell_ok (star_ok cell_ok okB.out)) (H7.out.perm (by ac_rfl : _ = star (PtsO A c (outP W s k)) (star (CellO g18 #[.int .i64 (s.i : Int), .int .i64 ((s.j : Int) + (n : Int)), .string (bs q), .bool s.r, .int .i64 R.c] 37) (star (CellO g16 #[.int .i64 R.k, .string (bs R.f), .string (bs R.t), .int .i64 R.c] 41) (star (CellO g11 #[.int .i64 s.i, .int .i64 s.j, .string (bs s.a), .bool s.r, .int .i64 h0] 37) (star (CellO g6 #[.slice (some ⟨b, o, none⟩) N ac, .slice aD n2 ad, .slice aE n3 ae, .int .i64 T.drop, .int .i64 T.ord, .int .i64 T.ini] 25) emp)))))) ?_)
                  intro A' c' w8 hr8
                  have H8 := hide (show Run (fun _ => False) w (star (PtsO A' c' (outP W s (k + 1))) (star (CellO g11 #[.int .i64 s.i, .int .i64 s.j, .string (bs s.a), .bool s.r, .int .i64 h0] 37) (star (CellO g6 #[.slice (some ⟨b, o, none⟩) N ac, .slice aD n2 ad, .slice aE n3 ae, .int .i64 T.drop, .int .i64 T.ord, .int .i64 T.ini] 25) emp))) w8 from by
                    rw [HPO.out]
                    exact (hr8.perm (by ac_rfl : _ = star (CellO g18 #[.int .i64 (s.i : Int), .int .i64 ((s.j : Int) + (n : Int)), .string (bs q), .bool s.r, .int .i64 R.c] 37) (star (CellO g16 #[.int .i64 R.k, .string (bs R.f), .string (bs R.t), .int .i64 R.c] 41) (star (PtsO A' c' (outP W s k ++ [⟨(s.i : Int), ((s.j : Int) + (n : Int)), q, s.r, R.c⟩])) (star (CellO g11 #[.int .i64 s.i, .int .i64 s.j, .string (bs s.a), .bool s.r, .int .i64 h0] 37) (star (CellO g6 #[.slice (some ⟨b, o, none⟩) N ac, .slice aD n2 ad, .slice aE n3 ae, .int .i64 T.drop, .int .i64 T.ord, .int .i64 T.ini] 25) emp)))))).drop.drop)
                  have HLN : (outP W s k).length + 1 = (outP W s (k + 1)).length := by rw [HPO.out, List.length_append]; rfl
                  rw [HLN]
                  clear hr8 H7 y0 y1 y2 y3 y4 yf HLN hlo
                  go_wp2_with fail
                  go_roundw
                  case rel => exact ⟨k + 1, A', c', HK1.out, by go_num, rfl, H8.out⟩
                  case measure => have := HK1.out; simp [intOf]; omega
                · have HN0 := hide (outP_none hkn (by rw [HRE.out]; exact mv_noAh (ahR_3 h1 h2)))
                  rw [Bool.eq_false_iff.2 h2]
                  clear h1 h2
                  go_wp2
                  go_roundw
                  case rel => exact ⟨k + 1, A, c, HK1.out, by go_num, by rw [HN0.out], by rw [HN0.out]; exact H5.out.drop.drop⟩
                  case measure => have := HK1.out; simp [intOf]; omega
          · have t1 : (R.k == W.kb) = false := by simp [hk]
            have HN0 := hide (outP_none hkn (mv_noUse (by rw [HRE.out, use_r HL.out, if_neg hk])))
            clear hk
            go_wp2
            go_roundw
            case rel => exact ⟨k + 1, A, c, HK1.out, by go_num, by rw [HN0.out], by rw [HN0.out]; exact H1.out.drop⟩
            case measure => have := HK1.out; simp [intOf]; omega
      · obtain rfl : k = N := by omega
        obtain ⟨f6, hf6⟩ := HR.out.drop.drop.fst
        have b0 := cell_at (i := 0) hf6 rfl
        clear hf6 f6
        have HF := hide (show MovRet W s w (.returned (.slice A (outP W s k).length c)) wr from by
          have e : outP W s k = movP W s := by unfold outP movP; rw [HN.out, mvs_all]
          refine ⟨A, c, by rw [e], ?_⟩
          rw [← e]
          exact (HR.out.perm (by ac_rfl : _ = star (star (CellO g11 #[.int .i64 s.i, .int .i64 s.j, .string (bs s.a), .bool s.r, .int .i64 h0] 37) (star (CellO g6 #[.slice aA k ac, .slice aD n2 ad, .slice aE n3 ae, .int .i64 T.drop, .int .i64 T.ord, .int .i64 T.ini] 25) emp)) (PtsO A c (outP W s k)))).drop.post pts_ok)
        generalize (outP W s k).length = no at *
        go_wp2
        go_ret
        exact HF.out
  have HC := hide cut
  clear cut hKc
  by_cases hrr : s.r = true
  · have hr := hrr
    clear hrr
    rw [hr] at c3
    have HL1 := hide (show W.left s = true by unfold Wd.left; rw [hr]; rfl)
    clear hr
    go_wp2
    exact HC.out true _ _ _ _ _ _ _ _ _ _ _ _ _ _ HL1.out
  · have hr : s.r = false := Bool.eq_false_iff.2 hrr
    clear hrr
    rw [hr] at c3
    by_cases hae : s.a = []
    · have e1 : (bs s.a).toList.isEmpty = true := by rw [List.isEmpty_iff]; exact bs_empty.2 hae
      by_cases hi : s.i < nl
      · have e2 : decide (s.i < nl) = true := decide_eq_true hi
        have HL1 := hide (show W.left s = true by unfold Wd.left; rw [hr, decide_eq_true hae]; have := HNL.out; simp; omega)
        clear hr hae hi
        go_wp2
        exact HC.out true _ _ _ _ _ _ _ _ _ _ _ _ _ _ HL1.out
      · have e2 : decide (s.i < nl) = false := decide_eq_false hi
        have HL1 := hide (show W.left s = false by unfold Wd.left; rw [hr, decide_eq_true hae]; have := HNL.out; have := HS.out.1; simp; omega)
        clear hr hae hi
        go_wp2
        exact HC.out false _ _ _ _ _ _ _ _ _ _ _ _ _ _ HL1.out
    · have e1 : (bs s.a).toList.isEmpty = false := by rw [List.isEmpty_eq_false_iff]; exact fun h => hae (bs_empty.1 h)
      have HL1 := hide (show W.left s = false by unfold Wd.left; rw [hr, decide_eq_false hae]; rfl)
      clear hr hae
      go_wp2
      exact HC.out false _ _ _ _ _ _ _ _ _ _ _ _ _ _ HL1.out
end Go.Proofs.YtnppgomhhcbplaaGreatDoor
