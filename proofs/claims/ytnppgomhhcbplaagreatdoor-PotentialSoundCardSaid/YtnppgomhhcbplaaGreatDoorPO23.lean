/-
  Align: Best.
  How many elements a certificate can have, plainly.
-/
import Derived.Test.YtnppgomhhcbplaaGreatDoorPO22
import Derived.Test.YtnppgomhhcbplaaGreatDoorPO20
import Derived.Test.YtnppgomhhcbplaaGreatDoorPO8
import Derived.Test.YtnppgomhhcbplaaGreatDoorPO7
import Derived.Deep.DeepCutAuto
import Derived.Test.YtnppgomhhcbplaaGreatDoorPO12
set_option linter.unusedSimpArgs false
set_option linter.unusedVariables false
namespace Go.Proofs.YtnppgomhhcbplaaGreatDoor
open Go.RowKit Go.CH Go.CH.Scr Go.CH.Pot
open Go.ChangeMaps (setBlock)
attribute [local go_sem] Oper.semAt_some
theorem run_set4 {F0 : Nat → Prop} {w0 w : World} {g : Nat} {t : TypeId} {X : CH.Own} {a0 a1 a2 a3 : Value} (h : Run F0 w0 (star (CellO g #[a0, a1, a2, a3] t) X) w) (hX : X.Ok) (b0 b1 b2 b3 : Value) :
    Run F0 w0 (star (CellO g #[b0, b1, b2, b3] t) X) ((((w.setCell ⟨g, 0, none⟩ b0).setCell ⟨g, 1, none⟩ b1).setCell ⟨g, 2, none⟩ b2).setCell ⟨g, 3, none⟩ b3) := by
  have h0 : Run F0 w0 (star (CellO g #[b0, a1, a2, a3] t) X) _ := run_setc h hX 0 b0
  have h1 : Run F0 w0 (star (CellO g #[b0, b1, a2, a3] t) X) _ := run_setc h0 hX 1 b1
  have h2 : Run F0 w0 (star (CellO g #[b0, b1, b2, a3] t) X) _ := run_setc h1 hX 2 b2
  exact run_setc h2 hX 3 b3
theorem res19 {tmps : Array Value} {w : World} {g : Nat} {cs : Array Value} {F : Nat → Prop} (h : tmps.getD 10 undef = .pointer (some ⟨g, 0, none⟩)) (hs : cs.size = 4) (hc : CellO g cs 47 w F) {v : Value} (hv : tmps.getD 11 undef = v) : (results Tryz.f19 tmps).run Tryz.prog w = .ok (.tuple #[.agg cs, v]) w := by
  subst hv
  exact res_cell_tmp rfl tmps w g 47 cs (0, 0) h hc.1 Tryz.underlying47 (by rw [hs]; kernel_rfl)
set_option maxHeartbeats 6400000 in
set_option maxRecDepth 100000 in
theorem best_any {w : World} {T : Tab} {a : TA} (hT : TabR w T a) (hz : LZ w) (k : Int) (x : Bs) (k2 : Int) (y : Bs) (hx : x.length ≤ 1000000) (hy : y.length ≤ 1000000) :
    Calls Tryz.prog 19 #[tabV T a, .int .i64 k, .string (bs x), .int .i64 k2, .string (bs y)] w (BestRet w T k x k2 y) := by
  have h1 := run_new (Run.begin w) emp_ok (tabC T a) 25
  have h2 := run_new h1 (star_ok cell_ok emp_ok) #[.int .i64 0, .slice none 0 0, .slice none 0 0, .string ⟨#[]⟩] 47
  rw [World.size_alloc] at h2
  have H2 := hide h2
  have HB2 := hide (show Below w.heap.size w _ from h2.mod.below (fun _ _ h => h))
  have KO := hide (open_any (hT.below HB2.out) (hz.below HB2.out) k x k2 y hx hy)
  clear hT hz h1 h2
  unfold tabV at KO ⊢
  unfold tabC at KO H2 HB2 ⊢
  refine (callsIn_wide (n := 8)).1 ?_
  refine callsIn_of_wp_marks Tryz.func19 rfl trivial ?_ rfl
  simp only [Tryz.ntmps19, List.size_toArray, List.length_cons, List.length_nil, Nat.reduceAdd, Nat.reduceSub, Array.replicate_succ, Array.replicate_zero, List.push_toArray, List.append_toArray, List.nil_append, List.cons_append]
  refine (wpIn_wide (n := 8)).2 ?_
  go_wp2_with fail
  refine KO.out.mono ?_
  rintro e9 w1 ⟨wa, rfl, hb, hok⟩
  have H3 := hide (H2.out.below (star_ok cell_ok (star_ok cell_ok emp_ok)) hb)
  have HB1 := hide (HB2.out.trans (hb.mono HB2.out.size))
  have HOK := hide hok
  clear KO hb hok H2 HB2
  obtain ⟨W, hW⟩ : ∃ W, W = ofW T k x k2 y := ⟨_, rfl⟩
  rw [← hW] at HOK ⊢
  have HW := hide hW
  clear hW
  unfold wordsC
  generalize hob : okW T k x k2 y = ob at HOK ⊢
  have HOB := hide hob
  clear hob
  go_upto_region 2 with (fail)
  have H4 := hide (run_new H3.out (star_ok cell_ok (star_ok cell_ok emp_ok)) (wordsC W wa) 89)
  unfold wordsC at H4
  have HR3 := hide (run_new (Run.begin w1) emp_ok #[.slice wa.a.L W.l.length wa.a.lc, .slice wa.a.R wa.a.q.length wa.a.rc, .slice wa.b.L W.m.length wa.b.lc, .slice wa.b.R wa.b.q.length wa.b.rc] 89)
  have HW3 := hide (show Below w1.heap.size w1 (w1.alloc (.cells #[.slice wa.a.L W.l.length wa.a.lc, .slice wa.a.R wa.a.q.length wa.a.rc, .slice wa.b.L W.m.length wa.b.lc, .slice wa.b.R wa.b.q.length wa.b.rc] 89)) from (Below.refl _ _).alloc (Nat.le_refl _) _)
  generalize hw3 : w1.alloc (.cells #[.slice wa.a.L W.l.length wa.a.lc, .slice wa.a.R wa.a.q.length wa.a.rc, .slice wa.b.L W.m.length wa.b.lc, .slice wa.b.R wa.b.q.length wa.b.rc] 89) = w3 at *
  clear hw3
  generalize w1.heap.size = g12 at H4 HR3 ⊢
  generalize w.heap.size + 1 = g10 at *
  generalize w.heap.size = g5 at H4 H3 ⊢
  cases ob with
  | false =>
    have H5 := hide (H4.out.drop.perm (by ac_rfl) : Run _ _ (star (CellO g10 #[.int .i64 0, .slice none 0 0, .slice none 0 0, .string ⟨#[]⟩] 47) (star (CellO g5 #[.slice a.A T.rs.length a.c, .slice a.D T.ds.length a.d, .slice a.E T.es.length a.e, .int .i64 T.drop, .int .i64 T.ord, .int .i64 T.ini] 25) emp)) w3)
    have HB3 := hide (HB1.out.trans (HW3.out.mono HB1.out.size))
    obtain ⟨F, hF⟩ := H5.out.fst
    have e0 := cell_at (i := 0) hF rfl
    have e1 := cell_at (i := 1) hF rfl
    have e2 := cell_at (i := 2) hF rfl
    have e3 := cell_at (i := 3) hF rfl
    have ef := cell_free hF
    clear hF F
    have H6 := hide (run_set4 H5.out (star_ok cell_ok emp_ok) (.int .i64 0) (.slice none 0 0) (.slice none 0 0) (.string ⟨#[]⟩))
    have HF := hide (fun W' (hb : Below w.heap.size w W') => (show BestRet w T k x k2 y (.returned (.tuple #[.agg #[.int .i64 0, .slice none 0 0, .slice none 0 0, .string ⟨#[]⟩], .int .i64 1])) W' from ⟨⟨0, [], [], []⟩, 1, none, 0, 0, none, 0, 0, [], rfl, .arg HOB.out, hb⟩))
    clear H5 H4 HOK HB1 HW3 HB3
    go_wp2
    obtain ⟨F, hF⟩ := H6.out.fst
    refine ⟨_, res19 rfl rfl hF rfl, ?_⟩
    exact HF.out _ (H6.out.mod.below (fun _ _ h => h))
  | true =>
    obtain ⟨hP, hS⟩ := HOK.out rfl
    have HS := hide hS
    have HWe := hide (show W = wdOf T k x k2 y from HW.out.trans (ofW_ok HOB.out))
    have HMA := hide (show MovA W wa from fun s hs => by
      have e1 := amovR_eq hS (s := s)
      have e2 : (W.amoves s).map (fun p => (p.1.c, p.2)) = W.moves s := by
        have hs2 := hs
        rw [HWe.out] at hs2 ⊢
        exact amoves_eq (okW_iff.1 HOB.out).2.2 hs2
      rw [← e2, ← e1, List.map_map]; rfl)
    have HG := hide (show W.good ∧ W.tosOk by rw [HWe.out]; exact good_of (okW_iff.1 HOB.out).2.2)
    have HE := hide (show ∀ W', Mod (fun _ => False) w1 W' → AwR W wa W' from fun W' hm => hP.below (hm.below (fun _ _ h => h)))
    have R1 := hide (show Run (fun _ => False) w1 (star (CellO g12 #[.slice wa.a.L W.l.length wa.a.lc, .slice wa.a.R wa.a.q.length wa.a.rc, .slice wa.b.L W.m.length wa.b.lc, .slice wa.b.R wa.b.q.length wa.b.rc] 89) emp) w3 from HR3.out)
    have KC := hide (costs_any (W := W) (x := wa) (w := w3) (HE.out _ R1.out.mod) hS HG.out.1 HG.out.2 HMA.out)
    unfold wordsC at KC
    obtain ⟨F, hF⟩ := R1.out.fst
    have d0 := cell_at (i := 0) hF rfl
    have d1 := cell_at (i := 1) hF rfl
    have d2 := cell_at (i := 2) hF rfl
    have d3 := cell_at (i := 3) hF rfl
    clear hF F hP hS HOK H4 HW3 HR3
    go_wp2_with fail
    refine KC.out.mono ?_
    rintro e9 w4 ⟨b, L, rfl, hkn, hst0, hp⟩
    have HKN := hide hkn
    have HST := hide hst0
    have r2 := R1.out.fresh (star_ok cell_ok emp_ok) hp
    have R3 := hide (run_new r2 (star_ok stm_ok (star_ok cell_ok emp_ok)) #[.map (some b)] 92)
    have R4 := hide (run_new R3.out (star_ok cell_ok (star_ok stm_ok (star_ok cell_ok emp_ok))) #[.int .i64 0, .int .i64 0, .string ⟨#[]⟩, .bool false] 95)
    clear hkn hst0 hp r2 KC R1 d0 d1 d2 d3
    go_upto_region 6 with (fail)
    have hsz : (w4.alloc (.cells #[.map (some b)] 92)).heap.size = w4.heap.size + 1 := World.size_alloc ..
    rw [hsz] at R4
    clear hsz R3
    generalize (w4.alloc (.cells #[.map (some b)] 92)).alloc (.cells #[.int .i64 0, .int .i64 0, .string ⟨#[]⟩, .bool false] 95) = w5 at *
    generalize w4.heap.size + 1 = g15 at *
    generalize w4.heap.size = g14 at *
    obtain ⟨s0, s1, s2, s3, -⟩ := run_c4 R4.out
    obtain ⟨F, hF⟩ := R4.out.drop.fst
    have m0 := cell_at (i := 0) hF rfl
    clear hF F
    obtain ⟨F, hF⟩ := R4.out.drop.drop.fst
    have hlk : (Instr.lookup 92 (.map (some b)) (.agg #[.int .i64 0, .int .i64 0, .string ⟨#[]⟩, .bool false]) false).run Tryz.prog w5 = .ok (.int .i64 (W.dist st0)) w5 := kn_get HKN.out hF HST.out
    clear hF F
    have hd0 := dist_nonneg HG.out.1 (ok0 (W := W))
    have hd1 := dist_never (ok0 (W := W))
    obtain ⟨dd, hdd⟩ : ∃ d, d = W.dist st0 := ⟨_, rfl⟩
    rw [← hdd] at hlk hd0 hd1
    have HDD := hide hdd
    have HD0 := hide hd0
    have HD1 := hide hd1
    clear hdd
    unfold never at hd1
    by_cases hn : dd = 1099511627776
    · have t1 : decide (1099511627776 ≤ dd) = true := decide_eq_true (by omega)
      have H5 := hide (H3.out.below (star_ok cell_ok (star_ok cell_ok emp_ok)) (R4.out.mod.below (fun _ _ h => h)))
      obtain ⟨F, hF⟩ := H5.out.fst
      have e0 := cell_at (i := 0) hF rfl
      have e1 := cell_at (i := 1) hF rfl
      have e2 := cell_at (i := 2) hF rfl
      have e3 := cell_at (i := 3) hF rfl
      have ef := cell_free hF
      clear hF F
      have H6 := hide (run_set4 H5.out (star_ok cell_ok emp_ok) (.int .i64 0) (.slice none 0 0) (.slice none 0 0) (.string ⟨#[]⟩))
      have HF := hide (fun W' (hb : Below w.heap.size w W') => (show BestRet w T k x k2 y (.returned (.tuple #[.agg #[.int .i64 0, .slice none 0 0, .slice none 0 0, .string ⟨#[]⟩], .int .i64 11])) W' from ⟨⟨0, [], [], []⟩, 11, none, 0, 0, none, 0, 0, [], rfl, .none HOB.out (by rw [← HWe.out, ← HDD.out]; exact hn), hb⟩))
      clear H5 H3 R4 HE HB1 hn HD0 HD1 HDD
      go_wp2
      obtain ⟨F, hF⟩ := H6.out.fst
      refine ⟨_, res19 rfl rfl hF rfl, ?_⟩
      exact HF.out _ (H6.out.mod.below (fun _ _ h => h))
    · have t1 : decide (1099511627776 ≤ dd) = false := decide_eq_false (by omega)
      have HLT := hide (show dd < never by unfold never; omega)
      have R6 := hide (run_new R4.out (star_ok cell_ok (star_ok cell_ok (star_ok stm_ok (star_ok cell_ok emp_ok)))) #[.int .i64 dd, .slice none 0 0, .slice none 0 0, .string ⟨#[]⟩] 47)
      clear hn
      go_wp2_with fail
      generalize w5.alloc (.cells #[.int .i64 dd, .slice none 0 0, .slice none 0 0, .string ⟨#[]⟩] 47) = w6 at *
      generalize w5.heap.size = g16 at *
      have okR6 : (star (CellO g16 #[.int .i64 dd, .slice none 0 0, .slice none 0 0, .string ⟨#[]⟩] 47) (star (CellO g15 #[.int .i64 0, .int .i64 0, .string ⟨#[]⟩, .bool false] 95) (star (CellO g14 #[.map (some b)] 92) (star (StM b L) (star (CellO g12 #[.slice wa.a.L W.l.length wa.a.lc, .slice wa.a.R wa.a.q.length wa.a.rc, .slice wa.b.L W.m.length wa.b.lc, .slice wa.b.R wa.b.q.length wa.b.rc] 89) emp))))).Ok := star_ok cell_ok (star_ok cell_ok (star_ok cell_ok (star_ok stm_ok (star_ok cell_ok emp_ok))))
      have r7 := R6.out.fresh okR6 (⟨fun _ => False, into_nil _, Mod.refl _ _, fun i hi => .inl hi⟩ : Post _ (fun _ => False) (IntO none 0 []) _)
      have r8 := r7.fresh (star_ok into_ok okR6) (⟨fun _ => False, into_nil _, Mod.refl _ _, fun i hi => .inl hi⟩ : Post _ (fun _ => False) (IntO none 0 []) _)
      have R7 := hide (show Run (fun _ => False) w1 (star (BsO W wa b L dd g12 g14 g15 g16 st0 ⟨none, 0, [], none, 0, [], []⟩ []) emp) w6 from r8.one.perm (by unfold BsO; show _ = star (star (CellO g15 #[.int .i64 0, .int .i64 0, .string ⟨#[]⟩, .bool false] 95) (star (CellO g16 #[.int .i64 dd, .slice none 0 0, .slice none 0 0, .string ⟨#[]⟩] 47) (star (IntO none 0 []) (star (IntO none 0 []) (star (CellO g14 #[.map (some b)] 92) (star (CellO g12 #[.slice wa.a.L W.l.length wa.a.lc, .slice wa.a.R wa.a.q.length wa.a.rc, .slice wa.b.L W.m.length wa.b.lc, .slice wa.b.R wa.b.q.length wa.b.rc] 89) (star (StM b L) emp))))))) emp; ac_rfl))
      have HP0 := hide (show BsP W L st0 ⟨none, 0, [], none, 0, [], []⟩ from ⟨ok0, Nat.zero_le _, HST.out, by rw [← HDD.out]; exact HLT.out, by simp, by simp, by simp⟩)
      have HRK0 := hide (show W.rank st0 ≤ 1000 by rw [HWe.out]; exact wd_small HOB.out)
      clear R4 R6 r7 r8 okR6 s0 s1 s2 s3 m0 hlk t1 hd0 hd1 HST HD1
      refine wp_loop (BsI (fun _ => False) w1 W wa b L dd g10 g12 g14 g15 g16) (fun _ w9 => rankAt W g15 w9) ?_ ?_
      · exact bs_mk [] (R := emp) rfl rfl rfl rfl rfl rfl rfl emp_ok R7.out HP0.out
      clear R7 HP0
      rintro a9 w7 ⟨v, Ds, s, q, R, hRok, ⟨hR, hp⟩, rfl⟩
      have HR := hide hR
      have HP := hide hp
      have HRK := hide hRok
      clear hR hp hRok
      have HRA := hide (rank_at (W := W) (g15 := g15) (s := s) HR.out.assoc)
      obtain ⟨⟨s0, s1, s2, s3⟩, -, -, ⟨d0, d1, d2, d3⟩, -⟩ := bso_cells HR.out
      have KD := hide (done_any (w := w7) (W := W) (x := wa) (s := s))
      unfold wordsC stC at KD
      go_wp2_with fail
      refine KD.out.mono ?_
      rintro e9 w8 ⟨rfl, hb⟩
      have H8 := hide (HR.out.below (star_ok bso_ok HRK.out) hb)
      clear KD hb HR s0 s1 s2 s3 d0 d1 d2 d3
      rw [done_fin HP.out.ok]
      by_cases hfin : s = W.fin
      · rw [decide_eq_true hfin]
        clear hfin
        obtain ⟨-, ⟨q0, q1, q2, q3⟩, -⟩ := bso_cells H8.out
        have h9 := H3.out.fresh (star_ok cell_ok (star_ok cell_ok emp_ok)) (H8.out.post (star_ok bso_ok HRK.out))
        have h10 := h9.perm (by unfold BsO; ac_rfl : _ = star (CellO g10 #[.int .i64 0, .slice none 0 0, .slice none 0 0, .string ⟨#[]⟩] 47) (star (marksO Ds) (star (CellO g5 #[.slice a.A T.rs.length a.c, .slice a.D T.ds.length a.d, .slice a.E T.es.length a.e, .int .i64 T.drop, .int .i64 T.ord, .int .i64 T.ini] 25) (star emp (star (CellO g15 (stC s) 95) (star (CellO g16 (ddC dd q) 47) (star (IntO q.A q.ac q.l) (star (IntO q.B q.bc q.m) (star (CellO g14 #[.map (some b)] 92) (star (CellO g12 (wordsC W wa) 89) (star (StM b L) R)))))))))))
        have okT : (star (CellO g5 #[.slice a.A T.rs.length a.c, .slice a.D T.ds.length a.d, .slice a.E T.es.length a.e, .int .i64 T.drop, .int .i64 T.ord, .int .i64 T.ini] 25) (star emp (star (CellO g15 (stC s) 95) (star (CellO g16 (ddC dd q) 47) (star (IntO q.A q.ac q.l) (star (IntO q.B q.bc q.m) (star (CellO g14 #[.map (some b)] 92) (star (CellO g12 (wordsC W wa) 89) (star (StM b L) R))))))))).Ok := star_ok cell_ok (star_ok emp_ok (star_ok cell_ok (star_ok cell_ok (star_ok into_ok (star_ok into_ok (star_ok cell_ok (star_ok cell_ok (star_ok stm_ok HRK.out))))))))
        obtain ⟨F, hF⟩ := h10.fst
        have e0 := cell_at (i := 0) hF rfl
        have e1 := cell_at (i := 1) hF rfl
        have e2 := cell_at (i := 2) hF rfl
        have e3 := cell_at (i := 3) hF rfl
        have ef := cell_free hF
        have HP1 := hide ((run_set4 h10 (star_ok marks_ok okT) (.int .i64 dd) (.slice q.A q.l.length q.ac) (.slice q.B q.m.length q.bc) (.string (bs q.f))).perm (by ac_rfl : _ = star (marksO Ds) (star (CellO g10 #[.int .i64 dd, .slice q.A q.l.length q.ac, .slice q.B q.m.length q.bc, .string (bs q.f)] 47) (star (CellO g5 #[.slice a.A T.rs.length a.c, .slice a.D T.ds.length a.d, .slice a.E T.es.length a.e, .int .i64 T.drop, .int .i64 T.ord, .int .i64 T.ini] 25) (star emp (star (CellO g15 (stC s) 95) (star (CellO g16 (ddC dd q) 47) (star (IntO q.A q.ac q.l) (star (IntO q.B q.bc q.m) (star (CellO g14 #[.map (some b)] 92) (star (CellO g12 (wordsC W wa) 89) (star (StM b L) R))))))))))))
        have HF := hide (fun W' (hb : Below w.heap.size w W') => (show BestRet w T k x k2 y (.returned (.tuple #[.agg #[.int .i64 dd, .slice q.A q.l.length q.ac, .slice q.B q.m.length q.bc, .string (bs q.f)], .int .i64 0])) W' from ⟨(wdOf T k x k2 y).best, 0, q.A, q.l.length, q.ac, q.B, q.m.length, q.bc, q.f, by rw [HDD.out, HWe.out]; rfl, .some HOB.out (by rw [← HWe.out, ← HDD.out]; exact HLT.out), hb⟩))
        have OKT := hide okT
        clear hF F h9 h10 okT H8 H3 HRA HP
        dsimp only
        go_wp2_with fail
        refine leaves_marks (star_ok cell_ok OKT.out) (fun W' hr => ?_) Ds _ HP1.out
        obtain ⟨f, hf⟩ := hr.fst
        exact ⟨_, res19 rfl rfl hf rfl, HF.out _ (hr.mod.below (fun _ _ h => h))⟩
      · rw [decide_eq_false hfin]
        have HFN := hide hfin
        clear hfin
        obtain ⟨⟨s0, s1, s2, s3⟩, -, -, ⟨d0, d1, d2, d3⟩, -⟩ := bso_cells H8.out
        have KM := hide (fun w => amoves_any (W := W) (x := wa) (s := s) w)
        unfold wordsC stC at KM
        dsimp only
        go_wp2_with fail
        refine (KM.out _).mono ?_
        rintro e9 w9 ⟨b1, b2, rfl, hp⟩
        have S1 := hide (H8.out.fresh (star_ok bso_ok HRK.out) hp)
        clear KM hp H8 s0 s1 s2 s3 d0 d1 d2 d3
        dsimp only
        go_wp2_with fail
        have HIT := hide (amoves_iter (W := W) (s := s) (x := wa) (b1 := b1) (b2 := b2) HP.out.ok HS.out (Nat.le_trans HP.out.a3 (by omega)))
        have okO : (star (BsO W wa b L dd g12 g14 g15 g16 s q Ds) R).Ok := star_ok bso_ok HRK.out
        have OKO := hide okO
        have okI : ∀ i, (pur (badI W wa s i) (star (BsO W wa b L dd g12 g14 g15 g16 s q Ds) R)).Ok := fun i => pur_ok okO
        have okI2 : ∀ (i : Nat) (a' : Act), (exA fun g17 : Nat => exA fun g18 : Nat => exA fun z : RA × St => pur ((amovR W wa s)[i]? = some z ∧ badI W wa s i ∧ a' = { tmps := #[v 0, v 1, v 2, v 3, v 4, v 5, v 6, v 7, v 8, v 9, .pointer (some ⟨g10, 0, none⟩), v 11, .pointer (some ⟨g12, 0, none⟩), v 13, .pointer (some ⟨g14, 0, none⟩), .pointer (some ⟨g15, 0, none⟩), .pointer (some ⟨g16, 0, none⟩), .pointer (some ⟨g17, 0, none⟩), .pointer (some ⟨g18, 0, none⟩), v 19, v 20, v 21, v 22, v 23, v 24, v 25, v 26, v 27, v 28, v 29, v 30, v 31, v 32, v 33, v 34, v 35, v 36, v 37, v 38, v 39, v 40, v 41, v 42, .agg #[.slice wa.a.L W.l.length wa.a.lc, .slice wa.a.R wa.a.q.length wa.a.rc, .slice wa.b.L W.m.length wa.b.lc, .slice wa.b.R wa.b.q.length wa.b.rc], .agg #[.int .i64 s.i, .int .i64 s.j, .string (bs s.a), .bool s.r], .bool false, .bool true, .agg #[.slice wa.a.L W.l.length wa.a.lc, .slice wa.a.R wa.a.q.length wa.a.rc, .slice wa.b.L W.m.length wa.b.lc, .slice wa.b.R wa.b.q.length wa.b.rc], .agg #[.int .i64 s.i, .int .i64 s.j, .string (bs s.a), .bool s.r], fnA b1 b2, .agg (acells z.1).toArray, .agg (stC z.2), v 52, v 53, v 54, v 55, v 56, v 57, v 58, v 59, v 60, v 61, v 62, v 63, v 64, v 65, v 66, v 67, v 68, v 69, v 70, v 71, v 72, v 73, v 74, v 75, v 76, v 77, v 78, v 79, v 80, v 81, v 82, v 83, v 84, v 85, v 86, v 87, v 88], defers := [] }) (star (CellO g18 (stC z.2) 95) (star (CellO g17 (acells z.1).toArray 101) (star (BsO W wa b L dd g12 g14 g15 g16 s q Ds) R)))).Ok := fun i a' => exA_ok fun g17 => exA_ok fun g18 => exA_ok fun z => pur_ok (star_ok cell_ok (star_ok cell_ok okO))
        have okX : ∀ c : Code, (exA fun s' : St => exA fun q' : DD => pur (c = .exit 2 ∧ BsP W L s' q' ∧ W.rank s' < W.rank s) (star (BsO W wa b L dd g12 g14 g15 g16 s' q' Ds) R)).Ok := fun c => exA_ok fun s' => exA_ok fun q' => pur_ok (star_ok bso_ok HRK.out)
        have hst : Run (fun _ => False) w1 (star (Zw W wa s b1 b2) (pur (badI W wa s 0) (star (BsO W wa b L dd g12 g14 g15 g16 s q Ds) R))) w9 := (Run.pureI bad_zero S1.out.swap).swap
        clear okO S1
        refine range_law3 (gf := 67) (lb := #[.pointer (some ⟨b1, 0, none⟩), .pointer (some ⟨b2, 0, none⟩)]) rfl (enters_of Tryz.func67 (by kernel_rfl) rfl) HIT.out Zw_ok (fun _ => rfl) HE.out _ (fun c => exA fun s' : St => exA fun q' : DD => pur (c = .exit 2 ∧ BsP W L s' q' ∧ W.rank s' < W.rank s) (star (BsO W wa b L dd g12 g14 g15 g16 s' q' Ds) R)) okI _ okI2 okX hst ?_ ?_ ?_ ?_
        · intro lo m i hi R' W1 K hR hI hK
          obtain ⟨hbd, h1⟩ := hI.pure
          have h3 := run_new h1 (star_ok OKO.out hR) (acells (amovR W wa s)[i].1).toArray 101
          have h4 := run_new h3 (star_ok cell_ok (star_ok OKO.out hR)) (stC (amovR W wa s)[i].2) 95
          rw [World.size_alloc] at h4
          have HF := hide (hK { tmps := #[v 0, v 1, v 2, v 3, v 4, v 5, v 6, v 7, v 8, v 9, .pointer (some ⟨g10, 0, none⟩), v 11, .pointer (some ⟨g12, 0, none⟩), v 13, .pointer (some ⟨g14, 0, none⟩), .pointer (some ⟨g15, 0, none⟩), .pointer (some ⟨g16, 0, none⟩), .pointer (some ⟨W1.heap.size, 0, none⟩), .pointer (some ⟨W1.heap.size + 1, 0, none⟩), v 19, v 20, v 21, v 22, v 23, v 24, v 25, v 26, v 27, v 28, v 29, v 30, v 31, v 32, v 33, v 34, v 35, v 36, v 37, v 38, v 39, v 40, v 41, v 42, .agg #[.slice wa.a.L W.l.length wa.a.lc, .slice wa.a.R wa.a.q.length wa.a.rc, .slice wa.b.L W.m.length wa.b.lc, .slice wa.b.R wa.b.q.length wa.b.rc], .agg #[.int .i64 s.i, .int .i64 s.j, .string (bs s.a), .bool s.r], .bool false, .bool true, .agg #[.slice wa.a.L W.l.length wa.a.lc, .slice wa.a.R wa.a.q.length wa.a.rc, .slice wa.b.L W.m.length wa.b.lc, .slice wa.b.R wa.b.q.length wa.b.rc], .agg #[.int .i64 s.i, .int .i64 s.j, .string (bs s.a), .bool s.r], fnA b1 b2, .agg (acells (amovR W wa s)[i].1).toArray, .agg (stC (amovR W wa s)[i].2), v 52, v 53, v 54, v 55, v 56, v 57, v 58, v 59, v 60, v 61, v 62, v 63, v 64, v 65, v 66, v 67, v 68, v 69, v 70, v 71, v 72, v 73, v 74, v 75, v 76, v 77, v 78, v 79, v 80, v 81, v 82, v 83, v 84, v 85, v 86, v 87, v 88], defers := [] } _ (Run.exI W1.heap.size (Run.exI (W1.heap.size + 1) (Run.exI (amovR W wa s)[i] (Run.pureI ⟨List.getElem?_eq_getElem hi, hbd, rfl⟩ (h4.perm (by ac_rfl)))))))
          clear hI h1 h3 h4 hK hbd
          unfold encA
          generalize (amovR W wa s)[i] = z at *
          obtain ⟨⟨⟨yx, yc, yf, yt⟩, yA, yn⟩, ⟨xi, xj, xa, xr⟩⟩ := z
          unfold stC acells
          unfold stC acells at HF
          dsimp only at HF
          dsimp only
          gi_wp2
          exact HF.out
        · intro lo m i hi a' R' W1 hR hI
          obtain ⟨g17, h1⟩ := hI.ex
          obtain ⟨g18, h1⟩ := h1.ex
          obtain ⟨z, h1⟩ := h1.ex
          obtain ⟨⟨hx, hbd, rfl⟩, h2⟩ := h1.pure
          have hmemA : z ∈ amovR W wa s := List.mem_of_getElem? hx
          have hmem := mova_mem HMA.out HP.out.ok hmemA
          have hmo := moves_ok HP.out.ok hmem
          have HSU := hide (fun h => bad_succ hx hbd h)
          have hgc := good_cost HG.out.1 hmem
          have hkeyn : z.2 ∈ keysL L := by
            obtain ⟨v, hv⟩ := mem_keys.1 HP.out.inL
            exact HKN.out.cl _ hv _ hmem
          have hd0 := dist_nonneg HG.out.1 hmo.1
          have hd1 := dist_never hmo.1
          have hs0 := dist_nonneg HG.out.1 HP.out.ok
          have hs1 := HP.out.lt
          have hyf : z.1.r.t.length ≤ 1000000 := (HS.out.f_of hmemA)
          have okA := hide (show (star (BsO W wa b L dd g12 g14 g15 g16 s q Ds) (star (CellO g18 (stC z.2) 95) (star (CellO g17 (acells z.1).toArray 101) (star R R')))).Ok from star_ok bso_ok (star_ok cell_ok (star_ok cell_ok (star_ok HRK.out hR))))
          have H2 := hide ((h2.perm (by ac_rfl : _ = star (BsO W wa b L dd g12 g14 g15 g16 s q Ds) (star (CellO g18 (stC z.2) 95) (star (CellO g17 (acells z.1).toArray 101) (star R R'))))).drew okA.out)
          have hS : ∀ W', Run (fun _ => False) w1 (star (BsO W wa b L dd g12 g14 g15 g16 s q Ds) (star (CellO g18 (stC z.2) 95) (star (CellO g17 (acells z.1).toArray 101) (star R R')))) W' → (W'.cell? ⟨g17, 1, none⟩ = some (.int .i64 z.1.r.c) ∧ W'.cell? ⟨g14, 0, none⟩ = some (.map (some b)) ∧ (W'.cell? ⟨g18, 0, none⟩ = some (.int .i64 z.2.i) ∧ W'.cell? ⟨g18, 1, none⟩ = some (.int .i64 z.2.j) ∧ W'.cell? ⟨g18, 2, none⟩ = some (.string (bs z.2.a)) ∧ W'.cell? ⟨g18, 3, none⟩ = some (.bool z.2.r)) ∧ (W'.cell? ⟨g15, 0, none⟩ = some (.int .i64 s.i) ∧ W'.cell? ⟨g15, 1, none⟩ = some (.int .i64 s.j) ∧ W'.cell? ⟨g15, 2, none⟩ = some (.string (bs s.a)) ∧ W'.cell? ⟨g15, 3, none⟩ = some (.bool s.r)) ∧ (Instr.lookup 92 (.map (some b)) (.agg #[.int .i64 z.2.i, .int .i64 z.2.j, .string (bs z.2.a), .bool z.2.r]) false).run Tryz.prog W' = .ok (.int .i64 (W.dist z.2)) W' ∧ (Instr.lookup 92 (.map (some b)) (.agg #[.int .i64 s.i, .int .i64 s.j, .string (bs s.a), .bool s.r]) false).run Tryz.prog W' = .ok (.int .i64 (W.dist s)) W') := fun W' h => by
            obtain ⟨⟨s0, s1, s2, s3⟩, -, m0, -, ⟨f', hf'⟩, -⟩ := bso_cells h
            obtain ⟨f1, hf1⟩ := h.drop.fst
            obtain ⟨f2, hf2⟩ := h.drop.drop.fst
            exact ⟨cell_at (i := 1) hf2 rfl, m0, ⟨cell_at hf1 rfl, cell_at hf1 rfl, cell_at hf1 rfl, cell_at hf1 rfl⟩, ⟨s0, s1, s2, s3⟩, kn_get HKN.out hf' hkeyn, kn_get HKN.out hf' HP.out.inL⟩
          have hS0 := hS _ H2.out
          have HMO := hide hmo
          have HKN2 := hide hkeyn
          have HA3 := hide (move_ahead HG.out.2 HP.out.a3 hmem)
          have HGM := hide (show goodM W s z ↔ z.1.r.c + W.dist z.2 = W.dist s from Iff.rfl)
          have HRR := hide hR
          clear hI h1 h2 hx hbd hmemA hmem hmo hkeyn hS hR hi
          obtain ⟨⟨⟨yx, yc, yf, yt⟩, yA, yn⟩, ⟨xi, xj, xa, xr⟩⟩ := z
          unfold stC acells
          dsimp only at hS0 hgc hd0 hd1 hyf HGM HKN2 HA3 HMO ⊢
          obtain ⟨dn, hdn⟩ : ∃ d, d = W.dist { i := xi, j := xj, a := xa, r := xr } := ⟨_, rfl⟩
          obtain ⟨ds, hds⟩ : ∃ d, d = W.dist s := ⟨_, rfl⟩
          rw [← hdn, ← hds] at hS0 HGM
          rw [← hdn] at hd0 hd1
          rw [← hds] at hs0 hs1
          have HDN := hide hdn
          have HDS := hide hds
          clear hdn hds
          have t1 : IntKind.i64.wrap (yc + dn) = yc + dn := by
            unfold never at hd1
            exact IntWalk.i64_in _ (by omega)
          refine wpIn_block (wpIn_seq (wpIn_seq ?_))
          by_cases heq : yc + dn = ds
          · have t2 : (yc + dn != ds) = false := by simp [heq]
            have HEQ := hide heq
            clear heq
            refine region_in_lex (fun W' : World => W'.cell? ⟨g17, 1, none⟩ = some (.int .i64 yc) ∧ W'.cell? ⟨g14, 0, none⟩ = some (.map (some b)) ∧ (W'.cell? ⟨g18, 0, none⟩ = some (.int .i64 xi) ∧ W'.cell? ⟨g18, 1, none⟩ = some (.int .i64 xj) ∧ W'.cell? ⟨g18, 2, none⟩ = some (.string (bs xa)) ∧ W'.cell? ⟨g18, 3, none⟩ = some (.bool xr)) ∧ (W'.cell? ⟨g15, 0, none⟩ = some (.int .i64 s.i) ∧ W'.cell? ⟨g15, 1, none⟩ = some (.int .i64 s.j) ∧ W'.cell? ⟨g15, 2, none⟩ = some (.string (bs s.a)) ∧ W'.cell? ⟨g15, 3, none⟩ = some (.bool s.r)) ∧ (Instr.lookup 92 (.map (some b)) (.agg #[.int .i64 xi, .int .i64 xj, .string (bs xa), .bool xr]) false).run Tryz.prog W' = .ok (.int .i64 dn) W' ∧ (Instr.lookup 92 (.map (some b)) (.agg #[.int .i64 s.i, .int .i64 s.j, .string (bs s.a), .bool s.r]) false).run Tryz.prog W' = .ok (.int .i64 ds) W') rfl (fun ⟨a, w, h⟩ => h) rfl (by kernel_rfl) hS0 ?_
            clear hS0
            generalize W1.drew = W2 at *
            (repeat (first | (refine lex_skip (by rfl) ?_; try simp only [Act.put, List.setIfInBounds_toArray, List.set_cons_zero, List.set_cons_succ]) | (refine lex_read (v := ?_) (by rfl) ?_ ?_; rotate_left; (focus (intro w' hS'; go_simp; (try with_reducible rfl); done)); try simp only [Act.put, List.setIfInBounds_toArray, List.set_cons_zero, List.set_cons_succ])))
            refine lex_nil ?_
            iterate 6 gi_step
            refine wpIn_seq_k ?_
            intro Kj hKj
            have H3 := hide (H2.out)
            have cutA : ∀ (w : World) (y62 y63 y64 y65 y66 y67 y68 y69 y70 y71 y72 y73 y74 y75 y76 y77 y78 y79 y80 y81 y82 y83 y84 y85 y86 : Value) (q' : DD) (Y : CH.Own), Y.Ok → Run (fun _ => False) w1 (star (BsO W wa b L dd g12 g14 g15 g16 s q' Ds) (star (CellO g18 #[.int .i64 xi, .int .i64 xj, .string (bs xa), .bool xr] 95) (star Y (star R R')))) w → q'.l.length ≤ q.l.length + 1 → q'.m.length ≤ q.m.length + 1 → q'.f.length ≤ q.f.length + 1000000 → Kj { tmps := #[v 0, v 1, v 2, v 3, v 4, v 5, v 6, v 7, v 8, v 9, .pointer (some ⟨g10, 0, none⟩), v 11, .pointer (some ⟨g12, 0, none⟩), v 13, .pointer (some ⟨g14, 0, none⟩), .pointer (some ⟨g15, 0, none⟩), .pointer (some ⟨g16, 0, none⟩), .pointer (some ⟨g17, 0, none⟩), .pointer (some ⟨g18, 0, none⟩), v 19, v 20, v 21, v 22, v 23, v 24, v 25, v 26, v 27, v 28, v 29, v 30, v 31, v 32, v 33, v 34, v 35, v 36, v 37, v 38, v 39, v 40, v 41, v 42, .agg #[.slice wa.a.L W.l.length wa.a.lc, .slice wa.a.R wa.a.q.length wa.a.rc, .slice wa.b.L W.m.length wa.b.lc, .slice wa.b.R wa.b.q.length wa.b.rc], .agg #[.int .i64 s.i, .int .i64 s.j, .string (bs s.a), .bool s.r], .bool false, .bool true, .agg #[.slice wa.a.L W.l.length wa.a.lc, .slice wa.a.R wa.a.q.length wa.a.rc, .slice wa.b.L W.m.length wa.b.lc, .slice wa.b.R wa.b.q.length wa.b.rc], .agg #[.int .i64 s.i, .int .i64 s.j, .string (bs s.a), .bool s.r], fnA b1 b2, .agg #[.int .i64 (yx : Nat), .int .i64 yc, .slice yA yf.length yn, .string (bs yt)], .agg #[.int .i64 xi, .int .i64 xj, .string (bs xa), .bool xr], .pointer (some ⟨g17, 1, none⟩), .int .i64 yc, .map (some b), .agg #[.int .i64 xi, .int .i64 xj, .string (bs xa), .bool xr], .int .i64 dn, .int .i64 (yc + dn), .map (some b), .agg #[.int .i64 s.i, .int .i64 s.j, .string (bs s.a), .bool s.r], .int .i64 ds, .bool false, y62, y63, y64, y65, y66, y67, y68, y69, y70, y71, y72, y73, y74, y75, y76, y77, y78, y79, y80, y81, y82, y83, y84, y85, y86, v 87, v 88], defers := [] } w := by
              intro w y62 y63 y64 y65 y66 y67 y68 y69 y70 y71 y72 y73 y74 y75 y76 y77 y78 y79 y80 y81 y82 y83 y84 y85 y86 q' Y hY hR h1 h2 h3
              have HPN := hide (show BsP W L ⟨xi, xj, xa, xr⟩ q' from ⟨HMO.out.1, HA3.out, HKN2.out, by have := HP.out.lt; have := HEQ.out; rw [← HDN.out]; rw [← HDS.out] at *; omega, by have := HP.out.nl; have := HMO.out.2; omega, by have := HP.out.nm; have := HMO.out.2; omega, by have := HP.out.nf; have := HMO.out.2; omega⟩)
              have HRN := hide HMO.out.2
              refine hKj _ _ ?_
              clear hKj Kj h1 h2 h3 H2 H3
              have okY := hide hY
              have h4 := hR.perm (by unfold BsO; ac_rfl : _ = star (CellO g15 (stC s) 95) (star (star (CellO g16 (ddC dd q') 47) (star (IntO q'.A q'.ac q'.l) (star (IntO q'.B q'.bc q'.m) (star (CellO g14 #[.map (some b)] 92) (star (CellO g12 (wordsC W wa) 89) (star (StM b L) (marksO Ds))))))) (star (CellO g18 #[.int .i64 xi, .int .i64 xj, .string (bs xa), .bool xr] 95) (star Y (star R R')))))
              have okZ : (star (star (CellO g16 (ddC dd q') 47) (star (IntO q'.A q'.ac q'.l) (star (IntO q'.B q'.bc q'.m) (star (CellO g14 #[.map (some b)] 92) (star (CellO g12 (wordsC W wa) 89) (star (StM b L) (marksO Ds))))))) (star (CellO g18 #[.int .i64 xi, .int .i64 xj, .string (bs xa), .bool xr] 95) (star Y (star R R')))).Ok := star_ok (star_ok cell_ok (star_ok into_ok (star_ok into_ok (star_ok cell_ok (star_ok cell_ok (star_ok stm_ok marks_ok)))))) (star_ok cell_ok (star_ok hY (star_ok HRK.out HRR.out)))
              obtain ⟨⟨s0, s1, s2, s3⟩, -, -, -, -, sf, -⟩ := bso_cells hR
              obtain ⟨x0, x1, x2, x3, -⟩ := run_c4 (hR.drop : Run _ _ (star (CellO g18 #[.int .i64 xi, .int .i64 xj, .string (bs xa), .bool xr] 95) _) w)
              have H5 := hide (run_set4 (h4 : Run _ _ (star (CellO g15 #[.int .i64 s.i, .int .i64 s.j, .string (bs s.a), .bool s.r] 95) _) w) okZ (.int .i64 xi) (.int .i64 xj) (.string (bs xa)) (.bool xr))
              clear h4 hR okZ
              gi_wp2
              refine Run.exI ⟨xi, xj, xa, xr⟩ (Run.exI q' (Run.pureI ⟨rfl, HPN.out, HRN.out⟩ ?_))
              exact (H5.out.perm (by ac_rfl : _ = star (CellO g18 #[.int .i64 xi, .int .i64 xj, .string (bs xa), .bool xr] 95) (star Y (star (star (star (CellO g15 #[.int .i64 xi, .int .i64 xj, .string (bs xa), .bool xr] 95) (star (CellO g16 (ddC dd q') 47) (star (IntO q'.A q'.ac q'.l) (star (IntO q'.B q'.bc q'.m) (star (CellO g14 #[.map (some b)] 92) (star (CellO g12 (wordsC W wa) 89) (star (StM b L) (marksO Ds)))))))) R) R')))).drop.drop
            have HC := hide cutA
            clear cutA
            have HKj := hide hKj
            clear hKj
            have hql : q.l.length ≤ 1000000 := by have := HP.out.nl; have := HRK0.out; omega
            have hqm : q.m.length ≤ 1000000 := by have := HP.out.nm; have := HRK0.out; omega
            have hqf : q.f.length ≤ 1000000000 := by have := HP.out.nf; have := HRK0.out; omega
            have hsum : ¬ 9223372036854775807 < (bs q.f).size + (bs yt).size := by rw [bs_size, bs_size]; omega
            obtain ⟨⟨s0, s1, s2, s3⟩, -⟩ := bso_cells H3.out
            obtain ⟨x0, x1, x2, x3, -⟩ := run_c4 (H3.out.drop : Run _ _ (star (CellO g18 #[.int .i64 xi, .int .i64 xj, .string (bs xa), .bool xr] 95) _) W2)
            clear H2
            by_cases hgt : s.i < xi
            · have t3 : decide (s.i < xi) = true := decide_eq_true hgt
              clear hgt
              iterate 22 (first | go_values | gi_guarded | gi_step | gi_upon)
              have okH := hide (show (star (BsO W wa b L dd g12 g14 g15 g16 s q Ds) (star (CellO g18 #[.int .i64 xi, .int .i64 xj, .string (bs xa), .bool xr] 95) (star (CellO g17 #[.int .i64 (yx : Nat), .int .i64 yc, .slice yA yf.length yn, .string (bs yt)] 101) (star R R')))).Ok from star_ok bso_ok (star_ok cell_ok (star_ok cell_ok (star_ok HRK.out HRR.out))))
              have H4 := hide ((show Run (fun _ => False) w1 (star (BsO W wa b L dd g12 g14 g15 g16 s q Ds) (star (CellO g18 #[.int .i64 xi, .int .i64 xj, .string (bs xa), .bool xr] 95) (star (CellO g17 #[.int .i64 (yx : Nat), .int .i64 yc, .slice yA yf.length yn, .string (bs yt)] 101) (star R R')))) W2 from H3.out).drew okH.out)
              clear H3 s0 s1 s2 s3 x0 x1 x2 x3
              obtain ⟨-, ⟨q0, q1, q2, q3⟩, -⟩ := bso_cells H4.out
              obtain ⟨f2, hf2⟩ := H4.out.drop.drop.fst
              have z0 := cell_at (i := 0) hf2 rfl
              have z3 := cell_at (i := 3) hf2 rfl
              clear hf2 f2
              refine region_in_les [4, 5, 12, 14] [1, 1, 0, 0, 1, 2, 2, 2, 3, 3, 3, 2, 3, 3, 4] (fun w' => w' = W2.drew) [fun w' => w'.cell? ⟨g16, 1, none⟩ = some (.slice q.A q.l.length q.ac) ∧ w'.cell? ⟨g16, 3, none⟩ = some (.string (bs q.f)) ∧ w'.cell? ⟨g17, 3, none⟩ = some (.string (bs yt)), fun w' => w'.cell? ⟨g16, 3, none⟩ = some (.string (bs q.f)) ∧ w'.cell? ⟨g17, 3, none⟩ = some (.string (bs yt)), fun w' => w'.cell? ⟨g17, 3, none⟩ = some (.string (bs yt))] ⟨fun w h => by rw [h]; exact ⟨q1, q3, z3⟩, fun w h => ⟨h.2.1, h.2.2⟩, fun w h => h.2, trivial⟩ rfl (fun ⟨a, w, h⟩ => h) rfl (by kernel_rfl) (by kernel_rfl) (by kernel_rfl) rfl ?_
              generalize W2.drew = W3 at *
              (repeat (first | (refine les_skip (by rfl) (by rfl) ?_; try simp only [Act.put, List.setIfInBounds_toArray, List.set_cons_zero, List.set_cons_succ]) | (refine les_read (v := ?_) (by rfl) (by rfl) ?_ ?_; rotate_left; (focus (intro w' hS'; (try simp only [stL] at hS'); go_simp; (try with_reducible rfl); done)); try simp only [Act.put, List.setIfInBounds_toArray, List.set_cons_zero, List.set_cons_succ])))
              refine les_chain rfl (by rfl) (fun K hK => ?_)
              go_wp2_with fail
              have H5 := hide (run_new H4.out okH.out #[.int .i64 (yx : Nat)] 3)
              clear H4 q0 q1 q2 q3 z0 z3
              generalize W3.alloc (.cells #[.int .i64 (yx : Nat)] 3) = W4 at *
              generalize W3.heap.size = gN at *
              obtain ⟨-, ⟨q0, q1, q2, q3⟩, -⟩ := bso_cells H5.out.drop
              obtain ⟨f2, hf2⟩ := H5.out.drop.drop.drop.fst
              have z3 := cell_at (i := 3) hf2 rfl
              clear hf2 f2
              refine hK.out _ _ ⟨q1, q3, z3⟩ ?_
              clear hK
              (repeat (first | (refine les_skip (by rfl) (by rfl) ?_; try simp only [Act.put, List.setIfInBounds_toArray, List.set_cons_zero, List.set_cons_succ]) | (refine les_read (v := ?_) (by rfl) (by rfl) ?_ ?_; rotate_left; (focus (intro w' hS'; (try simp only [stL] at hS'); go_simp; (try with_reducible rfl); done)); try simp only [Act.put, List.setIfInBounds_toArray, List.set_cons_zero, List.set_cons_succ])))
              refine les_chain rfl (by rfl) (fun K hK => ?_)
              obtain ⟨f2, hf2⟩ := H5.out.fst
              have n0 := cell_at (i := 0) hf2 rfl
              clear hf2 f2
              refine wp_int (.tmp 68) (.tmp 71) rfl (A := q.A) (c := q.ac) (g := gN) (l := q.l) (p := (yx : Int)) rfl rfl rfl hql (star_ok cell_ok (star_ok cell_ok (star_ok cell_ok (star_ok into_ok (star_ok cell_ok (star_ok cell_ok (star_ok stm_ok (star_ok marks_ok (star_ok cell_ok (star_ok cell_ok (star_ok HRK.out HRR.out))))))))))) (H5.out.perm (by unfold BsO; ac_rfl : _ = star (IntO q.A q.ac q.l) (star (CellO gN #[.int .i64 (yx : Nat)] 3) (star (CellO g15 (stC s) 95) (star (CellO g16 (ddC dd q) 47) (star (IntO q.B q.bc q.m) (star (CellO g14 #[.map (some b)] 92) (star (CellO g12 (wordsC W wa) 89) (star (StM b L) (star (marksO Ds) (star (CellO g18 #[.int .i64 xi, .int .i64 xj, .string (bs xa), .bool xr] 95) (star (CellO g17 #[.int .i64 (yx : Nat), .int .i64 yc, .slice yA yf.length yn, .string (bs yt)] 101) (star R R'))))))))))))) n0 ?_
              intro A' c' W5 hR5
              have h6 := hR5.perm (by ac_rfl : _ = star (CellO g16 (ddC dd q) 47) (star (IntO A' c' (q.l ++ [(yx : Int)])) (star (CellO gN #[.int .i64 (yx : Nat)] 3) (star (CellO g15 (stC s) 95) (star (IntO q.B q.bc q.m) (star (CellO g14 #[.map (some b)] 92) (star (CellO g12 (wordsC W wa) 89) (star (StM b L) (star (marksO Ds) (star (CellO g18 #[.int .i64 xi, .int .i64 xj, .string (bs xa), .bool xr] 95) (star (CellO g17 #[.int .i64 (yx : Nat), .int .i64 yc, .slice yA yf.length yn, .string (bs yt)] 101) (star R R'))))))))))))
              have H6 := hide (show Run (fun _ => False) w1 (star (CellO g16 #[.int .i64 dd, .slice q.A q.l.length q.ac, .slice q.B q.m.length q.bc, .string (bs q.f)] 47) (star (IntO A' c' (q.l ++ [(yx : Int)])) (star (CellO gN #[.int .i64 (yx : Nat)] 3) (star (CellO g15 (stC s) 95) (star (IntO q.B q.bc q.m) (star (CellO g14 #[.map (some b)] 92) (star (CellO g12 (wordsC W wa) 89) (star (StM b L) (star (marksO Ds) (star (CellO g18 #[.int .i64 xi, .int .i64 xj, .string (bs xa), .bool xr] 95) (star (CellO g17 #[.int .i64 (yx : Nat), .int .i64 yc, .slice yA yf.length yn, .string (bs yt)] 101) (star R R')))))))))))) W5 from h6)
              have okS := hide (show (star (IntO A' c' (q.l ++ [(yx : Int)])) (star (CellO gN #[.int .i64 (yx : Nat)] 3) (star (CellO g15 (stC s) 95) (star (IntO q.B q.bc q.m) (star (CellO g14 #[.map (some b)] 92) (star (CellO g12 (wordsC W wa) 89) (star (StM b L) (star (marksO Ds) (star (CellO g18 #[.int .i64 xi, .int .i64 xj, .string (bs xa), .bool xr] 95) (star (CellO g17 #[.int .i64 (yx : Nat), .int .i64 yc, .slice yA yf.length yn, .string (bs yt)] 101) (star R R'))))))))))).Ok from (star_ok into_ok (star_ok cell_ok (star_ok cell_ok (star_ok into_ok (star_ok cell_ok (star_ok cell_ok (star_ok stm_ok (star_ok marks_ok (star_ok cell_ok (star_ok cell_ok (star_ok HRK.out HRR.out))))))))))))
              obtain ⟨f2, hf2⟩ := H6.out.fst
              have p1 := cell_at (i := 1) hf2 rfl
              have p3 := cell_at (i := 3) hf2 rfl
              have pf := cell_free hf2
              clear hf2 f2
              obtain ⟨f2, hf2⟩ := H6.out.drop.drop.drop.drop.drop.drop.drop.drop.drop.drop.fst
              have z3' := cell_at (i := 3) hf2 rfl
              clear hf2 f2 h6 hR5
              refine hK.out _ _ ⟨p3, z3'⟩ ?_
              clear hK n0 H5 q0 q1 q2 q3 z3
              (repeat (first | (refine les_skip (by rfl) (by rfl) ?_; try simp only [Act.put, List.setIfInBounds_toArray, List.set_cons_zero, List.set_cons_succ]) | (refine les_read (v := ?_) (by rfl) (by rfl) ?_ ?_; rotate_left; (focus (intro w' hS'; (try simp only [stL] at hS'); go_simp; (try with_reducible rfl); done)); try simp only [Act.put, List.setIfInBounds_toArray, List.set_cons_zero, List.set_cons_succ])))
              refine les_chain rfl (by rfl) (fun K hK => ?_)
              go_wp2_with fail
              have H7 := hide (show Run (fun _ => False) w1 (star (CellO g16 #[.int .i64 dd, .slice A' (q.l.length + 1) c', .slice q.B q.m.length q.bc, .string (bs q.f)] 47) (star (IntO A' c' (q.l ++ [(yx : Int)])) (star (CellO gN #[.int .i64 (yx : Nat)] 3) (star (CellO g15 (stC s) 95) (star (IntO q.B q.bc q.m) (star (CellO g14 #[.map (some b)] 92) (star (CellO g12 (wordsC W wa) 89) (star (StM b L) (star (marksO Ds) (star (CellO g18 #[.int .i64 xi, .int .i64 xj, .string (bs xa), .bool xr] 95) (star (CellO g17 #[.int .i64 (yx : Nat), .int .i64 yc, .slice yA yf.length yn, .string (bs yt)] 101) (star R R')))))))))))) (W5.setCell ⟨g16, 1, none⟩ (.slice A' (q.l.length + 1) c')) from run_setc H6.out okS.out 1 (.slice A' (q.l.length + 1) c'))
              clear H6 p1 p3 pf z3'
              generalize W5.setCell ⟨g16, 1, none⟩ (.slice A' (q.l.length + 1) c') = W6 at *
              obtain ⟨f2, hf2⟩ := H7.out.fst
              have p3 := cell_at (i := 3) hf2 rfl
              have pf := cell_free hf2
              clear hf2 f2
              obtain ⟨f2, hf2⟩ := H7.out.drop.drop.drop.drop.drop.drop.drop.drop.drop.drop.fst
              have z3' := cell_at (i := 3) hf2 rfl
              clear hf2 f2
              refine hK.out _ _ z3' ?_
              clear hK z3'
              (repeat (first | (refine les_skip (by rfl) (by rfl) ?_; try simp only [Act.put, List.setIfInBounds_toArray, List.set_cons_zero, List.set_cons_succ]) | (refine les_read (v := ?_) (by rfl) (by rfl) ?_ ?_; rotate_left; (focus (intro w' hS'; (try simp only [stL] at hS'); go_simp; (try with_reducible rfl); done)); try simp only [Act.put, List.setIfInBounds_toArray, List.set_cons_zero, List.set_cons_succ])))
              refine les_chain rfl (by rfl) (fun K hK => ?_)
              go_wp2_with fail
              have h8 := run_setc H7.out okS.out 3 (.string (bs q.f ++ bs yt))
              have e8 : ddC dd ⟨A', c', q.l ++ [(yx : Int)], q.B, q.bc, q.m, q.f ++ yt⟩ = #[.int .i64 dd, .slice A' (q.l.length + 1) c', .slice q.B q.m.length q.bc, .string (bs q.f ++ bs yt)] := by unfold ddC; rw [List.length_append, bs_cat]; rfl
              have H8 := hide ((show Run (fun _ => False) w1 (star (CellO g16 (ddC dd ⟨A', c', q.l ++ [(yx : Int)], q.B, q.bc, q.m, q.f ++ yt⟩) 47) (star (IntO A' c' (q.l ++ [(yx : Int)])) (star (CellO gN #[.int .i64 (yx : Nat)] 3) (star (CellO g15 (stC s) 95) (star (IntO q.B q.bc q.m) (star (CellO g14 #[.map (some b)] 92) (star (CellO g12 (wordsC W wa) 89) (star (StM b L) (star (marksO Ds) (star (CellO g18 #[.int .i64 xi, .int .i64 xj, .string (bs xa), .bool xr] 95) (star (CellO g17 #[.int .i64 (yx : Nat), .int .i64 yc, .slice yA yf.length yn, .string (bs yt)] 101) (star R R')))))))))))) _ from by rw [e8]; exact h8).perm (by unfold BsO; ac_rfl : _ = star (BsO W wa b L dd g12 g14 g15 g16 s ⟨A', c', q.l ++ [(yx : Int)], q.B, q.bc, q.m, q.f ++ yt⟩ Ds) (star (CellO g18 #[.int .i64 xi, .int .i64 xj, .string (bs xa), .bool xr] 95) (star (star (CellO gN #[.int .i64 (yx : Nat)] 3) (CellO g17 #[.int .i64 (yx : Nat), .int .i64 yc, .slice yA yf.length yn, .string (bs yt)] 101)) (star R R')))))
              clear H7 p3 pf h8 e8
              refine hK.out _ _ trivial ?_
              clear hK
              (repeat (first | (refine les_skip (by rfl) (by rfl) ?_; try simp only [Act.put, List.setIfInBounds_toArray, List.set_cons_zero, List.set_cons_succ]) | (refine les_read (v := ?_) (by rfl) (by rfl) ?_ ?_; rotate_left; (focus (intro w' hS'; (try simp only [stL] at hS'); go_simp; (try with_reducible rfl); done)); try simp only [Act.put, List.setIfInBounds_toArray, List.set_cons_zero, List.set_cons_succ])))
              refine les_nil ?_
              exact HC.out _ _ _ _ _ _ _ _ _ _ _ _ _ _ _ _ _ _ _ _ _ _ _ _ _ _ _ _ (star_ok cell_ok cell_ok) H8.out (by simp) (by simp) (by rw [List.length_append]; omega)
            · have t3 : decide (s.i < xi) = false := decide_eq_false hgt
              clear hgt
              iterate 22 (first | go_values | gi_guarded | gi_step | gi_upon)
              clear s0 s1 s2 s3 x0 x1 x2 x3
              have okH := hide (show (star (BsO W wa b L dd g12 g14 g15 g16 s q Ds) (star (CellO g18 #[.int .i64 xi, .int .i64 xj, .string (bs xa), .bool xr] 95) (star (CellO g17 #[.int .i64 (yx : Nat), .int .i64 yc, .slice yA yf.length yn, .string (bs yt)] 101) (star R R')))).Ok from star_ok bso_ok (star_ok cell_ok (star_ok cell_ok (star_ok HRK.out HRR.out))))
              have H4 := hide (show Run (fun _ => False) w1 (star (BsO W wa b L dd g12 g14 g15 g16 s q Ds) (star (CellO g18 #[.int .i64 xi, .int .i64 xj, .string (bs xa), .bool xr] 95) (star (CellO g17 #[.int .i64 (yx : Nat), .int .i64 yc, .slice yA yf.length yn, .string (bs yt)] 101) (star R R')))) W2 from H3.out)
              clear H3
              obtain ⟨-, ⟨q0, q1, q2, q3⟩, -⟩ := bso_cells H4.out
              obtain ⟨f2, hf2⟩ := H4.out.drop.drop.fst
              have z0 := cell_at (i := 0) hf2 rfl
              clear hf2 f2
              refine region_in rfl (fun ⟨a, w, h⟩ => h) ?_
              go_wp2_with (at_builtin; refine held ?_)
              have H5 := hide (run_new H4.out okH.out #[.int .i64 (yx : Nat)] 3)
              clear H4 q0 q1 q2 q3 z0
              generalize W2.alloc (.cells #[.int .i64 (yx : Nat)] 3) = W4 at *
              generalize W2.heap.size = gN at *
              obtain ⟨f2, hf2⟩ := H5.out.fst
              have n0 := cell_at (i := 0) hf2 rfl
              clear hf2 f2
              refine Held.mk (wpList_plain rfl fun _ hK => wp_int (.tmp 81) (.tmp 84) rfl (A := q.B) (c := q.bc) (g := gN) (l := q.m) (p := (yx : Int)) rfl rfl rfl hqm (star_ok cell_ok (star_ok cell_ok (star_ok cell_ok (star_ok into_ok (star_ok cell_ok (star_ok cell_ok (star_ok stm_ok (star_ok marks_ok (star_ok cell_ok (star_ok cell_ok (star_ok HRK.out HRR.out))))))))))) (H5.out.perm (by unfold BsO; ac_rfl : _ = star (IntO q.B q.bc q.m) (star (CellO gN #[.int .i64 (yx : Nat)] 3) (star (CellO g15 (stC s) 95) (star (CellO g16 (ddC dd q) 47) (star (IntO q.A q.ac q.l) (star (CellO g14 #[.map (some b)] 92) (star (CellO g12 (wordsC W wa) 89) (star (StM b L) (star (marksO Ds) (star (CellO g18 #[.int .i64 xi, .int .i64 xj, .string (bs xa), .bool xr] 95) (star (CellO g17 #[.int .i64 (yx : Nat), .int .i64 yc, .slice yA yf.length yn, .string (bs yt)] 101) (star R R'))))))))))))) n0 (fun A' c' W5 hR5 => hK _ _ ?_))
              have h6 := hR5.perm (by ac_rfl : _ = star (CellO g16 (ddC dd q) 47) (star (IntO A' c' (q.m ++ [(yx : Int)])) (star (CellO gN #[.int .i64 (yx : Nat)] 3) (star (CellO g15 (stC s) 95) (star (IntO q.A q.ac q.l) (star (CellO g14 #[.map (some b)] 92) (star (CellO g12 (wordsC W wa) 89) (star (StM b L) (star (marksO Ds) (star (CellO g18 #[.int .i64 xi, .int .i64 xj, .string (bs xa), .bool xr] 95) (star (CellO g17 #[.int .i64 (yx : Nat), .int .i64 yc, .slice yA yf.length yn, .string (bs yt)] 101) (star R R'))))))))))))
              have H6 := hide (show Run (fun _ => False) w1 (star (CellO g16 #[.int .i64 dd, .slice q.A q.l.length q.ac, .slice q.B q.m.length q.bc, .string (bs q.f)] 47) (star (IntO A' c' (q.m ++ [(yx : Int)])) (star (CellO gN #[.int .i64 (yx : Nat)] 3) (star (CellO g15 (stC s) 95) (star (IntO q.A q.ac q.l) (star (CellO g14 #[.map (some b)] 92) (star (CellO g12 (wordsC W wa) 89) (star (StM b L) (star (marksO Ds) (star (CellO g18 #[.int .i64 xi, .int .i64 xj, .string (bs xa), .bool xr] 95) (star (CellO g17 #[.int .i64 (yx : Nat), .int .i64 yc, .slice yA yf.length yn, .string (bs yt)] 101) (star R R')))))))))))) W5 from h6)
              have okS := hide (show (star (IntO A' c' (q.m ++ [(yx : Int)])) (star (CellO gN #[.int .i64 (yx : Nat)] 3) (star (CellO g15 (stC s) 95) (star (IntO q.A q.ac q.l) (star (CellO g14 #[.map (some b)] 92) (star (CellO g12 (wordsC W wa) 89) (star (StM b L) (star (marksO Ds) (star (CellO g18 #[.int .i64 xi, .int .i64 xj, .string (bs xa), .bool xr] 95) (star (CellO g17 #[.int .i64 (yx : Nat), .int .i64 yc, .slice yA yf.length yn, .string (bs yt)] 101) (star R R'))))))))))).Ok from (star_ok into_ok (star_ok cell_ok (star_ok cell_ok (star_ok into_ok (star_ok cell_ok (star_ok cell_ok (star_ok stm_ok (star_ok marks_ok (star_ok cell_ok (star_ok cell_ok (star_ok HRK.out HRR.out))))))))))))
              obtain ⟨f2, hf2⟩ := H6.out.fst
              have p2 := cell_at (i := 2) hf2 rfl
              have pf := cell_free hf2
              clear hf2 f2 h6 hR5 n0 H5
              go_wp2_with fail
              have h8 := run_setc H6.out okS.out 2 (.slice A' (q.m.length + 1) c')
              have e8 : ddC dd ⟨q.A, q.ac, q.l, A', c', q.m ++ [(yx : Int)], q.f⟩ = #[.int .i64 dd, .slice q.A q.l.length q.ac, .slice A' (q.m.length + 1) c', .string (bs q.f)] := by unfold ddC; rw [List.length_append]; rfl
              have H8 := hide ((show Run (fun _ => False) w1 (star (CellO g16 (ddC dd ⟨q.A, q.ac, q.l, A', c', q.m ++ [(yx : Int)], q.f⟩) 47) (star (IntO A' c' (q.m ++ [(yx : Int)])) (star (CellO gN #[.int .i64 (yx : Nat)] 3) (star (CellO g15 (stC s) 95) (star (IntO q.A q.ac q.l) (star (CellO g14 #[.map (some b)] 92) (star (CellO g12 (wordsC W wa) 89) (star (StM b L) (star (marksO Ds) (star (CellO g18 #[.int .i64 xi, .int .i64 xj, .string (bs xa), .bool xr] 95) (star (CellO g17 #[.int .i64 (yx : Nat), .int .i64 yc, .slice yA yf.length yn, .string (bs yt)] 101) (star R R')))))))))))) _ from by rw [e8]; exact h8).perm (by unfold BsO; dsimp only; ac_rfl : _ = star (BsO W wa b L dd g12 g14 g15 g16 s ⟨q.A, q.ac, q.l, A', c', q.m ++ [(yx : Int)], q.f⟩ Ds) (star (CellO g18 #[.int .i64 xi, .int .i64 xj, .string (bs xa), .bool xr] 95) (star (star (CellO gN #[.int .i64 (yx : Nat)] 3) (CellO g17 #[.int .i64 (yx : Nat), .int .i64 yc, .slice yA yf.length yn, .string (bs yt)] 101)) (star R R')))))
              exact HC.out _ _ _ _ _ _ _ _ _ _ _ _ _ _ _ _ _ _ _ _ _ _ _ _ _ _ _ _ (star_ok cell_ok cell_ok) H8.out (by simp) (by simp) (by simp)
          · have t2 : (yc + dn != ds) = true := by simp [heq]
            have HSI := hide (HSU.out (fun h => heq (HGM.out.1 h)))
            clear heq
            refine region_in_lex (fun W' : World => W'.cell? ⟨g17, 1, none⟩ = some (.int .i64 yc) ∧ W'.cell? ⟨g14, 0, none⟩ = some (.map (some b)) ∧ (W'.cell? ⟨g18, 0, none⟩ = some (.int .i64 xi) ∧ W'.cell? ⟨g18, 1, none⟩ = some (.int .i64 xj) ∧ W'.cell? ⟨g18, 2, none⟩ = some (.string (bs xa)) ∧ W'.cell? ⟨g18, 3, none⟩ = some (.bool xr)) ∧ (W'.cell? ⟨g15, 0, none⟩ = some (.int .i64 s.i) ∧ W'.cell? ⟨g15, 1, none⟩ = some (.int .i64 s.j) ∧ W'.cell? ⟨g15, 2, none⟩ = some (.string (bs s.a)) ∧ W'.cell? ⟨g15, 3, none⟩ = some (.bool s.r)) ∧ (Instr.lookup 92 (.map (some b)) (.agg #[.int .i64 xi, .int .i64 xj, .string (bs xa), .bool xr]) false).run Tryz.prog W' = .ok (.int .i64 dn) W' ∧ (Instr.lookup 92 (.map (some b)) (.agg #[.int .i64 s.i, .int .i64 s.j, .string (bs s.a), .bool s.r]) false).run Tryz.prog W' = .ok (.int .i64 ds) W') rfl (fun ⟨a, w, h⟩ => h) rfl (by kernel_rfl) hS0 ?_
            clear hS0
            (repeat (first | (refine lex_skip (by rfl) ?_; try simp only [Act.put, List.setIfInBounds_toArray, List.set_cons_zero, List.set_cons_succ]) | (refine lex_read (v := ?_) (by rfl) ?_ ?_; rotate_left; (focus (intro w' hS'; go_simp; (try with_reducible rfl); done)); try simp only [Act.put, List.setIfInBounds_toArray, List.set_cons_zero, List.set_cons_succ])))
            refine lex_nil ?_
            gi_wp2
            exact Run.pureI HSI.out (H2.out.perm (by ac_rfl : _ = star (CellO g18 (stC { i := xi, j := xj, a := xa, r := xr }) 95) (star (CellO g17 (acells ⟨⟨yx, yc, yf, yt⟩, yA, yn⟩).toArray 101) (star (star (BsO W wa b L dd g12 g14 g15 g16 s q Ds) R) R')))).drop.drop
        · intro D R' W1 hR hI
          obtain ⟨hbd, -⟩ := hI.pure
          exact (bad_all HMA.out HP.out.ok HP.out.lt HFN.out hbd).elim
        · intro D c9 R' W1 hR hI
          obtain ⟨s', h1⟩ := hI.ex
          obtain ⟨q', h1⟩ := h1.ex
          obtain ⟨⟨rfl, hp', hrk⟩, h2⟩ := h1.pure
          have H3' := hide (show Run (fun _ => False) w1 (star (BsO W wa b L dd g12 g14 g15 g16 s' q' (D :: Ds)) (star R R')) W1 from h2.perm (by unfold BsO; rw [marks_cons]; ac_rfl))
          have HPN := hide hp'
          have HRN := hide hrk
          have okRR := hide (star_ok HRK.out hR)
          have HRA2 := hide (rank_at (W := W) (g15 := g15) (s := s') H3'.out.assoc)
          clear hI h1 h2 hp' hrk hR
          go_wp2_with fail
          refine ⟨bs_mk (D :: Ds) rfl rfl rfl rfl rfl rfl rfl okRR.out H3'.out HPN.out, ?_⟩
          rw [HRA2.out, HRA.out]
          exact HRN.out
end Go.Proofs.YtnppgomhhcbplaaGreatDoor
namespace Go.CH.Pot
open Go.CH.Scr
/-- All that can be ahead: the ends of what rules write. -/
def sufs (W : Wd) : List Bs := [] :: W.rs.flatMap fun R => [R.t, R.t.drop 1, R.t.drop 2, R.t.drop 3]
theorem fm_four {α β : Type} (f : α → List β) (h : ∀ x, (f x).length = 4) : ∀ l : List α, (l.flatMap f).length = 4 * l.length
  | [] => rfl
  | x :: l => by rw [List.flatMap_cons, List.length_append, h, fm_four f h l, List.length_cons]; omega
theorem sufs_len {W : Wd} : (sufs W).length = 1 + 4 * W.rs.length := by
  unfold sufs
  rw [List.length_cons, fm_four _ (fun _ => rfl)]
  omega
theorem suf_mem {W : Wd} (ht : W.tosOk) {R : Rule} (hR : R ∈ W.rs) (n : Nat) : R.t.drop n ∈ sufs W := by
  unfold sufs
  by_cases h : n < 4
  · refine List.mem_cons_of_mem _ (List.mem_flatMap.2 ⟨R, hR, ?_⟩)
    have : n = 0 ∨ n = 1 ∨ n = 2 ∨ n = 3 := by omega
    rcases this with rfl | rfl | rfl | rfl <;> simp
  · have := (ht R hR).1
    rw [List.drop_of_length_le (by omega)]
    exact List.mem_cons_self ..
theorem suf_drop {W : Wd} (ht : W.tosOk) {a : Bs} (h : a ∈ sufs W) (n : Nat) : a.drop n ∈ sufs W := by
  unfold sufs at h
  rcases List.mem_cons.1 h with rfl | h
  · rw [List.drop_nil]; exact List.mem_cons_self ..
  · obtain ⟨R, hR, ha⟩ := List.mem_flatMap.1 h
    simp only [List.mem_cons, List.not_mem_nil, or_false] at ha
    rcases ha with rfl | rfl | rfl | rfl
    · exact suf_mem ht hR n
    · rw [List.drop_drop]; exact suf_mem ht hR _
    · rw [List.drop_drop]; exact suf_mem ht hR _
    · rw [List.drop_drop]; exact suf_mem ht hR _
theorem rch_suf {W : Wd} {s : St} (ht : W.tosOk) (h : Rch W st0 s) : s.a ∈ sufs W := by
  induction h with
  | refl => exact List.mem_cons_self ..
  | step _ hm ih =>
    obtain ⟨R, hR, hm⟩ := moves_mem hm
    obtain ⟨-, -, x, hx, rfl⟩ := mv_some hm
    have key : x.1 ∈ sufs W := by
      unfold Wd.ah at hx
      split at hx
      · injection hx with hx; subst hx
        exact suf_drop ht ih _
      · split at hx
        · injection hx with hx; subst hx
          exact suf_mem ht hR _
        · cases hx
    split <;> exact key
def codeP (W : Wd) (p : Pt) : Nat := ((p.i.toNat * 13 + p.j.toNat) * 2 + (if p.r then 1 else 0)) * 1000 + (sufs W).idxOf p.a
theorem cert_few {W : Wd} {bound : Int} {C : List Pt} (h : IsCert W bound C) (ht : W.tosOk) (hl : W.l.length ≤ 12) (hm : W.m.length ≤ 12) (hr : W.rs.length ≤ 60) : C.length ≤ 1000000 ∧ ∀ p ∈ C, p.a.length ≤ 3 := by
  have hp : ∀ p ∈ C, 0 ≤ p.i ∧ 0 ≤ p.j ∧ p.i.toNat ≤ 12 ∧ p.j.toNat ≤ 12 ∧ p.a ∈ sufs W ∧ p.a.length ≤ 3 ∧ p.h = min (W.dist p.st) bound := fun p hC => by
    obtain ⟨⟨h1, h2⟩, h3, h4, -⟩ := (h.mem p).1 hC
    have hok := h3.ok ok0
    exact ⟨h1, h2, Nat.le_trans hok.1 hl, Nat.le_trans hok.2.1 hm, rch_suf ht h3, (rch_ahead ht h3).1, h4⟩
  have hs := sufs_len (W := W)
  have hnd : C.Nodup := by
    refine List.Pairwise.imp (fun {a b} hab e => ?_) h.ord
    subst e
    rcases hab with h1 | ⟨-, h1 | ⟨-, h1 | ⟨-, h1, h2⟩⟩⟩
    · omega
    · omega
    · exact lta_irr _ h1
    · rw [h1] at h2; cases h2
  refine ⟨?_, fun p hC => (hp p hC).2.2.2.2.2.1⟩
  have h1 : (C.map (codeP W)).Nodup := by
    rw [List.Nodup, List.pairwise_map]
    refine List.Pairwise.imp_of_mem (fun {a b} ha hb hne he => hne ?_) hnd
    obtain ⟨a1, a2, a3, a4, a5, -, a7⟩ := hp a ha
    obtain ⟨b1, b2, b3, b4, b5, -, b7⟩ := hp b hb
    have ia := List.idxOf_lt_length_iff.2 a5
    have ib := List.idxOf_lt_length_iff.2 b5
    unfold codeP at he
    have e1 : (sufs W).idxOf a.a = (sufs W).idxOf b.a := by
      generalize (if a.r = true then 1 else 0) = ra at he
      generalize (if b.r = true then 1 else 0) = rb at he
      omega
    have e2 : (a.i.toNat * 13 + a.j.toNat) * 2 + (if a.r = true then 1 else 0) = (b.i.toNat * 13 + b.j.toNat) * 2 + (if b.r = true then 1 else 0) := by omega
    have e3 : a.r = b.r := by cases ha : a.r <;> cases hb : b.r <;> rw [ha, hb] at e2 <;> simp at e2 ⊢ <;> omega
    rw [e3] at e2
    have e4 : a.a = b.a := by
      have := List.getElem_idxOf ia
      have h2 := List.getElem_idxOf ib
      rw [← this, ← h2]
      congr 1
    have e5 : a.i = b.i ∧ a.j = b.j := by omega
    have est : a.st = b.st := by unfold Pt.st; rw [e5.1, e5.2, e4, e3]
    have eh : a.h = b.h := by rw [a7, b7, est]
    obtain ⟨i, j, x, r, hh⟩ := a
    obtain ⟨i', j', x', r', hh'⟩ := b
    simp only at e3 e4 e5 eh
    obtain ⟨rfl, rfl⟩ := e5
    subst e3 e4 eh
    rfl
  have h2 : ∀ x ∈ C.map (codeP W), x ∈ List.range 338000 := by
    intro x hx
    obtain ⟨p, hC, rfl⟩ := List.mem_map.1 hx
    obtain ⟨a1, a2, a3, a4, a5, -, -⟩ := hp p hC
    have ia := List.idxOf_lt_length_iff.2 a5
    rw [List.mem_range]
    unfold codeP
    split <;> omega
  have h3 := List.Nodup.length_le_of_subset h1 h2
  rw [List.length_map, List.length_range] at h3
  omega
theorem make_few {T : Tab} {a b : Int} {x y : Bs} {bound er : Int} {C : List Pt} (h : MakeP T a x b y bound C er) (hr : T.rs.length ≤ 60) : C.length ≤ 1000000 ∧ ∀ p ∈ C, p.a.length ≤ 1000000 := by
  cases h with
  | arg => exact ⟨by simp, fun p hp => by cases hp⟩
  | none => exact ⟨by simp, fun p hp => by cases hp⟩
  | some C h h0 h1 h2 hc =>
    have hl := lens_of h
    have := cert_few hc (good_of (okW_iff.1 h).2.2).2 hl.2.1 hl.2.2.2 hr
    exact ⟨this.1, fun p hp => by have := this.2 p hp; omega⟩
end Go.CH.Pot
