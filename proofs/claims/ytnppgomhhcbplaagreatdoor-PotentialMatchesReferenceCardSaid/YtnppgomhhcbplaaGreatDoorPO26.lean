/-
  Potential: the law MatchesReference.
  Potential: what a row's condition says of the library's tables; tables and certificates that came in, opened.
-/
import Derived.Test.YtnppgomhhcbplaaGreatDoorPO18
import Derived.Test.YtnppgomhhcbplaaGreatDoorPO15
import Derived.Test.YtnppgomhhcbplaaGreatDoorPO25
import Derived.Test.YtnppgomhhcbplaaGreatDoorRows
import Derived.Test.YtnppgomhhcbplaaGreatDoorPO6
import Derived.PinnedBridge
import Derived.Lib.LaidCase
import Derived.Lib.LaidU8
import Derived.HandedShaped
import Derived.LaidMore
import Derived.Lay
import Derived.SevenTiedAt
import Derived.Stop.Joined
import Derived.WalkKit
import Derived.ProofKit
import Derived.OpenShut
import Derived.ShutString
set_option linter.unusedSimpArgs false
set_option linter.unusedVariables false
namespace Go.Proofs.YtnppgomhhcbplaaGreatDoor
open Go.RowKit Go.CH Go.CH.Scr Go.CH.Pot
open Go.ChangeMaps (setBlock)
set_option maxHeartbeats 6400000 in
set_option maxRecDepth 100000 in
theorem law_ref_any {w : World} {T : Tab} {a : TA} (hT : TabZ w T a) (hz : LZ w) (k : Int) (x : Bs) (k2 : Int) (y : Bs) (bound : Int) {B : Option Addr} {c : Nat} {C : List Pt} (hC : PtsR w B C) :
    Calls Tryz.prog 3 #[tabV T a, .int .i64 k, .string (bs x), .int .i64 k2, .string (bs y), .int .i64 bound, .slice B C.length c] w (BelowRet w (.bool true)) := by
  have HT := hide hT
  have HZ := hide hz
  have HC := hide hC
  have h1 : Run (fun _ => False) w (star (CellO w.heap.size (tabC T a) 25) emp) _ := run_new (Run.begin w) emp_ok _ 25
  have HB := hide (h1.mod.below (fun _ _ h => h))
  have HTC := hide (fun W (h : Below (w.alloc (.cells (tabC T a) 25)).heap.size (w.alloc (.cells (tabC T a) 25)) W) => (show W.cell? ⟨w.heap.size, 0, none⟩ = some (.slice a.A T.rs.length a.c) ∧ W.cell? ⟨w.heap.size, 1, none⟩ = some (.slice a.D T.ds.length a.d) ∧ W.cell? ⟨w.heap.size, 2, none⟩ = some (.slice a.E T.es.length a.e) ∧ W.cell? ⟨w.heap.size, 3, none⟩ = some (.int .i64 T.drop) ∧ W.cell? ⟨w.heap.size, 4, none⟩ = some (.int .i64 T.ord) ∧ W.cell? ⟨w.heap.size, 5, none⟩ = some (.int .i64 T.ini) from by
    obtain ⟨f, hf⟩ := (h1.below (star_ok cell_ok emp_ok) h).fst
    exact ⟨cell_at hf rfl, cell_at hf rfl, cell_at hf rfl, cell_at hf rfl, cell_at hf rfl, cell_at hf rfl⟩))
  have KH := hide (head_any (w.alloc (.cells (tabC T a) 25)) (hz.below HB.out))
  clear hT hz h1 hC
  unfold tabV
  unfold tabC at HB HTC KH ⊢
  generalize hn1 : T.rs.length = n1 at *
  generalize hn2 : T.ds.length = n2 at *
  generalize hn3 : T.es.length = n3 at *
  have HN := hide (show tabV T a = .agg #[.slice a.A n1 a.c, .slice a.D n2 a.d, .slice a.E n3 a.e, .int .i64 T.drop, .int .i64 T.ord, .int .i64 T.ini] from by unfold tabV tabC; rw [hn1, hn2, hn3])
  clear hn1 hn2 hn3
  generalize hnc : C.length = nc at *
  have HNC := hide hnc
  clear hnc
  go_enter Tryz.func3, Tryz.ntmps3
  go_wp2_with fail
  refine KH.out.mono ?_
  rintro e9 w1 ⟨rfl, hb1⟩
  generalize w.alloc (.cells #[.slice a.A n1 a.c, .slice a.D n2 a.d, .slice a.E n3 a.e, .int .i64 T.drop, .int .i64 T.ord, .int .i64 T.ini] 25) = wb at *
  obtain ⟨gt, hgt⟩ : ∃ gt, gt = w.heap.size := ⟨_, rfl⟩
  have HBW := hide (fun W (h : Below wb.heap.size wb W) => HB.out.trans (h.mono HB.out.size))
  have HZW := hide (fun W (h : Below wb.heap.size wb W) => HZ.out.below (HBW.out W h))
  have HTW := hide (fun W (h : Below wb.heap.size wb W) => HT.out.below (HBW.out W h))
  have HB1 := hide hb1
  have HCW := hide (fun W (h : Below wb.heap.size wb W) => Rst.below HC.out (HBW.out W h))
  have KF := hide (few_any (c := c) (HTW.out w1 hb1) (HCW.out w1 hb1) x y)
  rw [HN.out, HNC.out] at KF
  obtain ⟨t0, t1, t2, t3, t4, t5⟩ := HTC.out _ hb1
  clear KH hb1 HT HZ HB HC
  dsimp only
  cases hf : fewN T x y C with
  | false =>
    simp only [hf] at KF
    clear hf
    go_wp2_with fail
    refine KF.out.mono ?_
    rintro e9 w2 ⟨rfl, hb⟩
    have HB2 := hide (bel_trans HB1.out hb)
    clear KF hb t0 t1 t2 t3 t4 t5
    dsimp only
    go_wp2
    go_ret
    exact bel_bool rfl (HBW.out _ HB2.out)
  | true =>
    simp only [hf] at KF
    have HF := hide (fewN_iff.1 hf)
    clear hf
    go_wp2_with fail
    refine KF.out.mono ?_
    rintro e9 w2 ⟨rfl, hb⟩
    have HB2 := hide (bel_trans HB1.out hb)
    clear KF hb t0 t1 t2 t3 t4 t5
    dsimp only
    have HSM := hide (show C.length ≤ 1000000 ∧ ∀ p ∈ C, p.a.length ≤ 1000000 from by
      obtain ⟨⟨-, -, -, g4⟩, -, -, -, g5⟩ := fewT_iff.1 HF.out.1
      exact ⟨by omega, fun p hp => by have := short_iff.1 (g5 p hp); omega⟩)
    have HRS := hide (show T.rs.length ≤ 60 from (fewT_iff.1 HF.out.1).1.1)
    have HXY := hide (show x.length ≤ 1000000 ∧ y.length ≤ 1000000 from ⟨by have := HF.out.2.1; omega, by have := HF.out.2.2; omega⟩)
    have KMK := hide (fun W (h : Below wb.heap.size wb W) => (make_any ((HTW.out W h).few HF.out.1) (HZW.out W h) k x k2 y bound HXY.out.1 HXY.out.2).mono fun e w' h => make_bel2 h)
    have KRM := hide (fun W (h : Below wb.heap.size wb W) => (rmake_any ((HTW.out W h).few HF.out.1) k x k2 y bound HXY.out.1 HXY.out.2 HRS.out).mono fun e w' h => make_bel2 h)
    have KC := hide (fun W (h : Below wb.heap.size wb W) (B : Option Addr) (c : Nat) (C' : List Pt) (hC : PtsR W B C') (hl : C'.length ≤ 1000000 ∧ ∀ p ∈ C', p.a.length ≤ 1000000) => check_any (c := c) ((HTW.out W h).few HF.out.1) (HZW.out W h) k x k2 y bound HXY.out.1 HXY.out.2 hC hl.1 hl.2)
    have KR := hide (fun W (h : Below wb.heap.size wb W) (B : Option Addr) (c : Nat) (C' : List Pt) (hC : PtsR W B C') (hl : C'.length ≤ 1000000 ∧ ∀ p ∈ C', p.a.length ≤ 1000000) => rcheck_any (c := c) ((HTW.out W h).few HF.out.1) k x k2 y bound HXY.out.1 HXY.out.2 hC hl.1 hl.2)
    simp only [HN.out] at KMK KRM KC KR
    have K1 := hide (KMK.out w2 HB2.out)
    obtain ⟨t0, t1, t2, t3, t4, t5⟩ := HTC.out _ HB2.out
    go_wp2_with fail
    refine K1.out.mono ?_
    rintro e9 w3 ⟨A1, c1, C1, er1, rfl, hm1, ⟨hp1, hlen1⟩, hb⟩
    have HB3 := hide (bel_trans HB2.out hb)
    have HM1 := hide hm1
    have HP1 := hide hp1
    clear K1 KMK hm1 hp1 hlen1 hb t0 t1 t2 t3 t4 t5
    dsimp only
    have K2 := hide (KRM.out w3 HB3.out)
    obtain ⟨t0, t1, t2, t3, t4, t5⟩ := HTC.out _ HB3.out
    obtain ⟨m1, hm1⟩ : ∃ n, n = C1.length := ⟨_, rfl⟩
    rw [← hm1]
    have HL1 := hide hm1
    clear hm1
    go_wp2_with fail
    refine K2.out.mono ?_
    rintro e9 w4 ⟨A2, c2, C2, er2, rfl, hm2, ⟨hp2, hlen2⟩, hb⟩
    obtain ⟨rfl, rfl⟩ := make_fun HM1.out hm2
    have HB4 := hide (bel_trans HB3.out hb)
    have HP3 := hide (Rst.below HP1.out hb)
    have HP2 := hide hp2
    have HSM1 := hide (make_few HM1.out HRS.out)
    clear K2 KRM hm2 hp2 hlen2 hb t0 t1 t2 t3 t4 t5
    rw [← HL1.out]
    dsimp only
    have hee : (er1 == er1) = true := by simp
    go_upto_region 6 with (fail)
    have HB5 := hide (bel_trans HB4.out ((Below.refl w4.heap.size w4).drew))
    have HP5 := hide (Rst.below HP2.out ((Below.refl w4.heap.size w4).drew))
    have HQ5 := hide (Rst.below HP3.out ((Below.refl w4.heap.size w4).drew))
    refine wp_region_lex (fun W' : World => W'.cell? ⟨w.heap.size, 0, none⟩ = some (.slice a.A n1 a.c) ∧ W'.cell? ⟨w.heap.size, 1, none⟩ = some (.slice a.D n2 a.d) ∧ W'.cell? ⟨w.heap.size, 2, none⟩ = some (.slice a.E n3 a.e) ∧ W'.cell? ⟨w.heap.size, 3, none⟩ = some (.int .i64 T.drop) ∧ W'.cell? ⟨w.heap.size, 4, none⟩ = some (.int .i64 T.ord) ∧ W'.cell? ⟨w.heap.size, 5, none⟩ = some (.int .i64 T.ini)) rfl (by kernel_rfl) (HTC.out _ HB5.out) ?_
    generalize World.drew _ = w5 at *
    have KS := hide (same_any (c := c1) (d := c2) HQ5.out HP5.out (by have := HSM1.out.1; omega) (by have := HSM1.out.1; omega))
    rw [decide_eq_true rfl, ← HL1.out] at KS
    clear HB4 HP3 HP2
    (repeat (first | (refine lex_skip (by rfl) ?_; try simp only [Act.put, List.setIfInBounds_toArray, List.set_cons_zero, List.set_cons_succ]) | (refine lex_read (v := ?_) (by rfl) ?_ ?_; rotate_left; (focus (intro w' hS'; go_simp; (try with_reducible rfl); done)); try simp only [Act.put, List.setIfInBounds_toArray, List.set_cons_zero, List.set_cons_succ])))
    refine lex_chain rfl (by rfl) (fun K hK => ?_)
    go_wp2_with fail
    refine KS.out.mono ?_
    rintro e9 w6 ⟨rfl, hb⟩
    have HB6 := hide (bel_trans HB5.out hb)
    have HP6 := hide (Rst.below HP5.out hb)
    clear KS HB5 HP5 HQ5 hb
    dsimp only
    refine hK.out _ _ (HTC.out _ HB6.out) ?_
    clear hK
    have K3 := hide (KC.out w6 HB6.out A2 c2 C1 HP6.out HSM1.out)
    rw [← HL1.out] at K3
    (repeat (first | (refine lex_skip (by rfl) ?_; try simp only [Act.put, List.setIfInBounds_toArray, List.set_cons_zero, List.set_cons_succ]) | (refine lex_read (v := ?_) (by rfl) ?_ ?_; rotate_left; (focus (intro w' hS'; go_simp; (try with_reducible rfl); done)); try simp only [Act.put, List.setIfInBounds_toArray, List.set_cons_zero, List.set_cons_succ])))
    refine lex_chain rfl (by rfl) (fun K hK => ?_)
    go_wp2_with fail
    refine K3.out.mono ?_
    rintro e9 w7 ⟨b1, rfl, hiff, hb⟩
    have HI1 := hide hiff
    have HB7 := hide (bel_trans HB6.out hb)
    have HP7 := hide (Rst.below HP6.out hb)
    clear K3 HB6 HP6 hb hiff
    dsimp only
    refine hK.out _ _ (HTC.out _ HB7.out) ?_
    clear hK
    have K4 := hide (KR.out w7 HB7.out A2 c2 C1 HP7.out HSM1.out)
    rw [← HL1.out] at K4
    (repeat (first | (refine lex_skip (by rfl) ?_; try simp only [Act.put, List.setIfInBounds_toArray, List.set_cons_zero, List.set_cons_succ]) | (refine lex_read (v := ?_) (by rfl) ?_ ?_; rotate_left; (focus (intro w' hS'; go_simp; (try with_reducible rfl); done)); try simp only [Act.put, List.setIfInBounds_toArray, List.set_cons_zero, List.set_cons_succ])))
    refine lex_chain rfl (by rfl) (fun K hK => ?_)
    go_wp2_with fail
    refine K4.out.mono ?_
    rintro e9 w8 ⟨b2, rfl, hiff, hb⟩
    obtain rfl : b1 = b2 := Bool.eq_iff_iff.2 (HI1.out.trans hiff.symm)
    have HB8 := hide (bel_trans HB7.out hb)
    clear K4 HB7 HP7 hb hiff
    dsimp only
    refine hK.out _ _ (HTC.out _ HB8.out) ?_
    clear hK HI1
    have hbb : (b1 == b1) = true := by simp
    (repeat (first | (refine lex_skip (by rfl) ?_; try simp only [Act.put, List.setIfInBounds_toArray, List.set_cons_zero, List.set_cons_succ]) | (refine lex_read (v := ?_) (by rfl) ?_ ?_; rotate_left; (focus (intro w' hS'; go_simp; (try with_reducible rfl); done)); try simp only [Act.put, List.setIfInBounds_toArray, List.set_cons_zero, List.set_cons_succ])))
    refine lex_nil ?_
    clear hbb
    go_upto_region 7 with (fail)
    have HB9 := hide (bel_trans HB8.out ((Below.refl w8.heap.size w8).drew))
    refine wp_region_lex (fun W' : World => W'.cell? ⟨w.heap.size, 0, none⟩ = some (.slice a.A n1 a.c) ∧ W'.cell? ⟨w.heap.size, 1, none⟩ = some (.slice a.D n2 a.d) ∧ W'.cell? ⟨w.heap.size, 2, none⟩ = some (.slice a.E n3 a.e) ∧ W'.cell? ⟨w.heap.size, 3, none⟩ = some (.int .i64 T.drop) ∧ W'.cell? ⟨w.heap.size, 4, none⟩ = some (.int .i64 T.ord) ∧ W'.cell? ⟨w.heap.size, 5, none⟩ = some (.int .i64 T.ini)) rfl (by kernel_rfl) (HTC.out _ HB9.out) ?_
    generalize World.drew _ = w9 at *
    clear HB8
    have K5 := hide (KC.out w9 HB9.out B c C (HCW.out _ HB9.out) HSM.out)
    rw [HNC.out] at K5
    (repeat (first | (refine lex_skip (by rfl) ?_; try simp only [Act.put, List.setIfInBounds_toArray, List.set_cons_zero, List.set_cons_succ]) | (refine lex_read (v := ?_) (by rfl) ?_ ?_; rotate_left; (focus (intro w' hS'; go_simp; (try with_reducible rfl); done)); try simp only [Act.put, List.setIfInBounds_toArray, List.set_cons_zero, List.set_cons_succ])))
    refine lex_chain rfl (by rfl) (fun K hK => ?_)
    go_wp2_with fail
    refine K5.out.mono ?_
    rintro e9 w10 ⟨b3, rfl, hiff, hb⟩
    have HI3 := hide hiff
    have HB10 := hide (bel_trans HB9.out hb)
    clear K5 HB9 hb hiff
    dsimp only
    refine hK.out _ _ (HTC.out _ HB10.out) ?_
    clear hK
    have K6 := hide (KR.out w10 HB10.out B c C (HCW.out _ HB10.out) HSM.out)
    rw [HNC.out] at K6
    (repeat (first | (refine lex_skip (by rfl) ?_; try simp only [Act.put, List.setIfInBounds_toArray, List.set_cons_zero, List.set_cons_succ]) | (refine lex_read (v := ?_) (by rfl) ?_ ?_; rotate_left; (focus (intro w' hS'; go_simp; (try with_reducible rfl); done)); try simp only [Act.put, List.setIfInBounds_toArray, List.set_cons_zero, List.set_cons_succ])))
    refine lex_chain rfl (by rfl) (fun K hK => ?_)
    go_wp2_with fail
    refine K6.out.mono ?_
    rintro e9 w11 ⟨b4, rfl, hiff, hb⟩
    obtain rfl : b3 = b4 := Bool.eq_iff_iff.2 (HI3.out.trans hiff.symm)
    have HB11 := hide (bel_trans HB10.out hb)
    clear K6 HB10 hb hiff
    dsimp only
    refine hK.out _ _ (HTC.out _ HB11.out) ?_
    clear hK HI3
    have hbb : (b3 == b3) = true := by simp
    (repeat (first | (refine lex_skip (by rfl) ?_; try simp only [Act.put, List.setIfInBounds_toArray, List.set_cons_zero, List.set_cons_succ]) | (refine lex_read (v := ?_) (by rfl) ?_ ?_; rotate_left; (focus (intro w' hS'; go_simp; (try with_reducible rfl); done)); try simp only [Act.put, List.setIfInBounds_toArray, List.set_cons_zero, List.set_cons_succ])))
    refine lex_nil ?_
    go_wp2
    go_ret
    exact bel_bool rfl (HBW.out _ HB11.out)
end Go.Proofs.YtnppgomhhcbplaaGreatDoor
namespace Go.Proofs.YtnppgomhhcbplaaGreatDoor
open Go.ChangeShapes Go.WideShapes Go.ChangeAt Go.RowKit Go.CH Go.CH.Scr Go.CH.Pot Go.Deep Go.Shelf Go.Lib
theorem caseX : CaseExtra Tryz.prog Tryz.lays262_ren := { n13 := by kernel_rfl, y13 := by kernel_rfl, c21 := by kernel_rfl, c51 := by kernel_rfl, c206 := by kernel_rfl, c208 := by kernel_rfl }
theorem u8X : U8Extra Tryz.prog Tryz.lays197_ren := { n3 := by kernel_rfl, n4 := by kernel_rfl, y3 := by kernel_rfl, y4 := by kernel_rfl, c5 := by kernel_rfl, c119 := by kernel_rfl, c138 := by kernel_rfl }
theorem lay274 : Lays.n274 Tryz.prog Tryz.lays262_ren := { Tryz.lays262 with }
theorem lay260 : Lays.n260 Tryz.prog Tryz.lays197_ren := { Tryz.lays197 with }
/-- The list of the rows. -/
def laidS : List (String × DataW Unit) := [("unicode/utf8.acceptRanges", Rows.laid_unicode_utf8_acceptRanges), ("unicode.CaseRanges", Rows.laid_unicode_CaseRanges), ("unicode/utf8.first", Rows.laid_unicode_utf8_first)]
theorem lz_of {w : World} (h : laidMetH Tryz.prog laidS w) (hs : w.ShapedOpen Tryz.prog) : LZ w := by
  rw [MakeChecks.laidMetH_plain _ _ _ (by kernel_rfl)] at h
  have h1 := laidMet.reads h (n := "unicode/utf8.acceptRanges") (d := Rows.laid_unicode_utf8_acceptRanges) (by simp [laidS])
  have h2 := laidMet.reads h (n := "unicode.CaseRanges") (d := Rows.laid_unicode_CaseRanges) (by simp [laidS])
  have h3 := laidMet.reads h (n := "unicode/utf8.first") (d := Rows.laid_unicode_utf8_first) (by simp [laidS])
  rw [show (Rows.laid_unicode_CaseRanges : DataW Unit) = caseData from Pinned.caseRanges_eq] at h2
  rw [show (Rows.laid_unicode_utf8_first : DataW Unit) = firstData from Pinned.utf8First_eq] at h3
  rw [show (Rows.laid_unicode_utf8_acceptRanges : DataW Unit) = acceptData by kernel_rfl] at h1
  exact ⟨caseVar_of_reads lay274 (by kernel_rfl) caseX h2, utf8Tabs_of_reads lay260 u8X h3 h1, Go.Proofs.cell_of_shapedOpen_int (P := Tryz.prog) (zero := #[.int .i64 0]) (t := 3) hs (of_decide_eq_true (by kernel_rfl)) (by kernel_rfl) rfl (by kernel_rfl) (by kernel_rfl) Tryz.underlying3⟩
/-- The wrap for a row that lists variables, the world's shape kept. -/
theorem returns_and_shaped {H : Type} {enc : TypeId × Value → H} {a : Assume} {C : Checked} {os : Os} {f : FuncId} {fn : Func} {s : ChangeSpec} {conds : List PathCond} {apart fresh handsOn again : Bool} {X : World → Array Value → Prop}
    (hX : ∀ (w w' : World) (args : Array Value), w.heap = w'.heap → X w args → X w' args)
    (own : ownKnob C.prog.godebug = none) (started : os.Started) (noInit : C.prog.inits.idxOf? f = none) (hfn : C.prog.funcs[f]? = some fn)
    (witness : ∃ (w : World) (tape : Tape) (i : Input), w.os = os ∧ (w.forCall tape i).Shaped C.prog ∧ i.vars = [] ∧ Input.okWide C.prog (w.forCall tape i) .any w.heap.size f i ∧
      ((s.pre enc C.prog fn conds apart (w.forCall tape i).memory i.args ∧ X (w.forCall tape i).memory i.args) ∧ sizedMet enc C.prog fn (OpenSpec.ofChange s) apart (w.forCall tape i).memory i.args) ∧ a.holds C.prog (lone (Frame.enter C.prog f i.args .normal) [] (w.forCall tape i)))
    (contract : ∀ (W : World) (base : Nat) (args : Array Value) (ds gs : List (DataW H)) (before : List MemPlace),
      (∀ (j : Nat) t v, fn.params[j]? = some t → args[j]? = some v → Value.okWide C.prog W .any base t v) →
      DataW.Whole enc C.prog fn.params.toList s.vars apart W args.toList ds gs before →
      X W args → W.ShapedOpen C.prog →
      Calls C.prog f args W fun e W' => ∃ v, e = .returned v ∧ s.post enc C.prog fn apart fresh handsOn again W args v W') :
    ReturnsInHanded a C os f .any (fun w args => (s.pre enc C.prog fn conds apart w args ∧ X w args) ∧ sizedMet enc C.prog fn (OpenSpec.ofChange s) apart w args) (s.post enc C.prog fn apart fresh handsOn again) := by
  refine returnsInHanded_of_calls own started noInit witness ?_
  intro w tape i _ hsh _ hok hpre hholds
  obtain ⟨_, _, _, fn', hfn', _, _, _, _, hval⟩ := hok
  have e : fn' = fn := Option.some.inj (hfn'.symm.trans hfn)
  subst e
  obtain ⟨⟨⟨ds, gs, before, hw, hc⟩, hx⟩, hz⟩ := hpre
  have hw' := DataW.Whole.of_heap (w' := w.forCall tape i) (by rfl) hw
  refine (contract (w.forCall tape i) w.heap.size i.args ds gs before hval hw' (hX _ _ _ (by rfl) hx) hsh).mono fun e W' ⟨v, he, hp⟩ => ?_
  subst he
  exact ChangeSpec.post_blind hp
section
variable {H : Type} {enc : TypeId × Value → H} {w : World} {base : Nat}
instance : Inhabited Rule := ⟨⟨0, [], [], 0⟩⟩
instance : Inhabited Drop := ⟨⟨0, [], 0⟩⟩
theorem each_rule : ∀ m cs y, DataW.trod enc Tryz.prog w base (fun _ => true) true m 41 cs = some y → ∃ R : Rule, cs = rcells R ∧ True := by
  intro m cs y h
  obtain ⟨hl, n, hf⟩ := open_fields Tryz.underlying41 (by kernel_rfl) (by kernel_rfl) h
  obtain ⟨v0, z0, c0, t0⟩ := hf 0 _ rfl
  obtain ⟨v1, z1, c1, t1⟩ := hf 1 _ rfl
  obtain ⟨v2, z2, c2, t2⟩ := hf 2 _ rfl
  obtain ⟨v3, z3, c3, t3⟩ := hf 3 _ rfl
  obtain ⟨x0, f0, -, -⟩ := DataW.trod_int Tryz.underlying3 t0
  obtain ⟨x1, f1, -⟩ := DataW.trod_string Tryz.underlying9 t1
  obtain ⟨x2, f2, -⟩ := DataW.trod_string Tryz.underlying9 t2
  obtain ⟨x3, f3, -, -⟩ := DataW.trod_int Tryz.underlying3 t3
  injection f0 with f0
  injection f1 with f1
  injection f2 with f2
  injection f3 with f3
  subst f0 f1 f2 f3
  refine ⟨⟨x0, bl x1, bl x2, x3⟩, ?_, trivial⟩
  have hl : cs.length = 4 := hl
  match cs, hl with
  | [a, b, c, d], _ =>
    simp at c0 c1 c2 c3
    subst c0 c1 c2 c3
    unfold rcells
    rw [bs_bl, bs_bl]
theorem each_drop : ∀ m cs y, DataW.trod enc Tryz.prog w base (fun _ => true) true m 109 cs = some y → ∃ d : Drop, cs = dcells d ∧ True := by
  intro m cs y h
  obtain ⟨hl, n, hf⟩ := open_fields Tryz.underlying109 (by kernel_rfl) (by kernel_rfl) h
  obtain ⟨v0, z0, c0, t0⟩ := hf 0 _ rfl
  obtain ⟨v1, z1, c1, t1⟩ := hf 1 _ rfl
  obtain ⟨v2, z2, c2, t2⟩ := hf 2 _ rfl
  obtain ⟨x0, f0, -, -⟩ := DataW.trod_int Tryz.underlying3 t0
  obtain ⟨x1, f1, -⟩ := DataW.trod_string Tryz.underlying9 t1
  obtain ⟨x2, f2, -, -⟩ := DataW.trod_int Tryz.underlying3 t2
  injection f0 with f0
  injection f1 with f1
  injection f2 with f2
  subst f0 f1 f2
  refine ⟨⟨x0, bl x1, x2⟩, ?_, trivial⟩
  have hl : cs.length = 3 := hl
  match cs, hl with
  | [a, b, c], _ =>
    simp at c0 c1 c2
    subst c0 c1 c2
    unfold dcells
    rw [bs_bl]
theorem each_pt : ∀ m cs y, DataW.trod enc Tryz.prog w base (fun _ => true) true m 37 cs = some y → ∃ p : Pt, cs = pcells p ∧ True := by
  intro m cs y h
  obtain ⟨hl, n, hf⟩ := open_fields Tryz.underlying37 (by kernel_rfl) (by kernel_rfl) h
  obtain ⟨v0, z0, c0, t0⟩ := hf 0 _ rfl
  obtain ⟨v1, z1, c1, t1⟩ := hf 1 _ rfl
  obtain ⟨v2, z2, c2, t2⟩ := hf 2 _ rfl
  obtain ⟨v3, z3, c3, t3⟩ := hf 3 _ rfl
  obtain ⟨v4, z4, c4, t4⟩ := hf 4 _ rfl
  obtain ⟨x0, f0, -, -⟩ := DataW.trod_int Tryz.underlying3 t0
  obtain ⟨x1, f1, -, -⟩ := DataW.trod_int Tryz.underlying3 t1
  obtain ⟨x2, f2, -⟩ := DataW.trod_string Tryz.underlying9 t2
  obtain ⟨x3, f3, -⟩ := DataW.trod_bool Tryz.underlying4 t3
  obtain ⟨x4, f4, -, -⟩ := DataW.trod_int Tryz.underlying3 t4
  injection f0 with f0
  injection f1 with f1
  injection f2 with f2
  injection f3 with f3
  injection f4 with f4
  subst f0 f1 f2 f3 f4
  refine ⟨⟨x0, x1, bl x2, x3, x4⟩, ?_, trivial⟩
  have hl : cs.length = 5 := hl
  match cs, hl with
  | [a, b, c, d, e], _ =>
    simp at c0 c1 c2 c3 c4
    subst c0 c1 c2 c3 c4
    unfold pcells
    rw [bs_bl]
theorem slice_form {t e : TypeId} {m : Nat} {v : Value} {y : DataW H × List MemPlace} (ht : Tryz.prog.underlying t = some (.slice e)) (h : DataW.trod enc Tryz.prog w 0 (fun _ => true) true m t [v] = some y) : ∃ A n c, v = .slice A n c := by
  rcases open_slice ht h with ⟨h0, _⟩ | ⟨a, len, cap, _, _, _, _, hv, _⟩
  · injection h0 with h0
    exact ⟨none, 0, 0, h0⟩
  · injection hv with hv
    exact ⟨some a, len, cap, hv⟩
theorem open_rules {m : Nat} {v : Value} {y : DataW H × List MemPlace} (h : DataW.trod enc Tryz.prog w 0 (fun _ => true) true m 22 [v] = some y) :
    ∃ (A : Option Addr) (c : Nat) (l : List Rule), v = .slice A l.length c ∧ RulesR w A l ∧ l.length ≤ c := by
  obtain ⟨A, n, c, rfl⟩ := slice_form Tryz.underlying22 h
  obtain ⟨xs, h1, h2, h3, h4, h5⟩ := open_src (P := Tryz.prog) (t := 22) (e := 41) (A := A) (n := n) (c := c) (d := y.1) (ps := y.2) (size := 4) rcells (fun _ => True) Tryz.underlying22 (by kernel_rfl) (by decide) each_rule (fun R _ u hu => by simp [rcells] at hu; rcases hu with rfl | rfl | rfl | rfl <;> rfl) ⟨m, by simpa [Value.cells] using h⟩
  subst h1
  exact ⟨A, c, xs, rfl, h2, h4⟩
theorem open_drops {m : Nat} {v : Value} {y : DataW H × List MemPlace} (h : DataW.trod enc Tryz.prog w 0 (fun _ => true) true m 23 [v] = some y) :
    ∃ (A : Option Addr) (c : Nat) (l : List Drop), v = .slice A l.length c ∧ DropsR w A l ∧ l.length ≤ c := by
  obtain ⟨A, n, c, rfl⟩ := slice_form Tryz.underlying23 h
  obtain ⟨xs, h1, h2, h3, h4, h5⟩ := open_src (P := Tryz.prog) (t := 23) (e := 109) (A := A) (n := n) (c := c) (d := y.1) (ps := y.2) (size := 3) dcells (fun _ => True) Tryz.underlying23 (by kernel_rfl) (by decide) each_drop (fun R _ u hu => by simp [dcells] at hu; rcases hu with rfl | rfl | rfl <;> rfl) ⟨m, by simpa [Value.cells] using h⟩
  subst h1
  exact ⟨A, c, xs, rfl, h2, h4⟩
/-- A certificate that came in. -/
theorem open26 {A : Option Addr} {n c : Nat} {d : DataW H} {ps : List MemPlace} (h : DataW.Trod enc Tryz.prog w 0 (fun _ => true) true 26 (.slice A n c) d ps) : ∃ C : List Pt, C.length = n ∧ PtsR w A C ∧ n ≤ c := by
  obtain ⟨xs, h1, h2, h3, h4, h5⟩ := open_src (P := Tryz.prog) (t := 26) (e := 37) (size := 5) pcells (fun _ => True) Tryz.underlying26 (by kernel_rfl) (by decide) each_pt (fun R _ u hu => pcells_one [R] u (by simpa using hu)) h
  refine ⟨xs, h1, ?_, h4⟩
  unfold PtsR Rst
  rw [h1]; exact h2
theorem len6 {cs : List Value} (h : cs.length = 6) : ∃ a b c d e f, cs = [a, b, c, d, e, f] := by
  match cs, h with
  | [a, b, c, d, e, f], _ => exact ⟨a, b, c, d, e, f, rfl⟩
/-- A table that came in. -/
structure TZ where
  T : Tab
  a : TA
def TzOk (w : World) (z : TZ) : Prop := TabZ w z.T z.a ∧ z.T.rs.length ≤ z.a.c
set_option maxRecDepth 100000 in
theorem open25 {r : Reach} {b0 : Nat} {v : Value} {d : DataW H} {ps : List MemPlace} (hok : Value.okWide Tryz.prog w r b0 25 v) (h : DataW.Trod enc Tryz.prog w 0 (fun _ => true) true 25 v d ps) : ∃ z : TZ, v = tabV z.T z.a ∧ TzOk w z := by
  obtain ⟨cs, rfl, hsz⟩ := okWide_struct Tryz.underlying25 hok
  obtain ⟨m, hm⟩ := h
  obtain ⟨xs, n, _, _, hl, hxl, hf⟩ := DataW.trod_struct Tryz.underlying25 hm
  have hl6 := hl.trans (by kernel_rfl : _ = 6)
  obtain ⟨a0, a1, a2, a3, a4, a5, ha⟩ := len6 hl6
  have hxl6 : xs.length = 6 := hxl
  have ex : ∀ i (hi : i < 6), xs[i]? = some (xs[i]'(by omega)) := fun i hi => List.getElem?_eq_getElem (by omega)
  have s3 : Tryz.prog.cellsOf 3 = 1 := by kernel_rfl
  have s22 : Tryz.prog.cellsOf 22 = 1 := by kernel_rfl
  have s23 : Tryz.prog.cellsOf 23 = 1 := by kernel_rfl
  have t0 := (hf 0 _ rfl).trans (ex 0 (by omega))
  have t1 := (hf 1 _ rfl).trans (ex 1 (by omega))
  have t2 := (hf 2 _ rfl).trans (ex 2 (by omega))
  have t3 := (hf 3 _ rfl).trans (ex 3 (by omega))
  have t4 := (hf 4 _ rfl).trans (ex 4 (by omega))
  have t5 := (hf 5 _ rfl).trans (ex 5 (by omega))
  rw [ha] at t0 t1 t2 t3 t4 t5
  have t0' : DataW.trod enc Tryz.prog w 0 (fun _ => true) true n 22 (([a0, a1, a2, a3, a4, a5].drop 0).take (Tryz.prog.cellsOf 22)) = some (xs[0]'(by omega)) := t0
  have t1' : DataW.trod enc Tryz.prog w 0 (fun _ => true) true n 23 (([a0, a1, a2, a3, a4, a5].drop 1).take (Tryz.prog.cellsOf 23)) = some (xs[1]'(by omega)) := t1
  have t2' : DataW.trod enc Tryz.prog w 0 (fun _ => true) true n 23 (([a0, a1, a2, a3, a4, a5].drop 2).take (Tryz.prog.cellsOf 23)) = some (xs[2]'(by omega)) := t2
  have t3' : DataW.trod enc Tryz.prog w 0 (fun _ => true) true n 3 (([a0, a1, a2, a3, a4, a5].drop 3).take (Tryz.prog.cellsOf 3)) = some (xs[3]'(by omega)) := t3
  have t4' : DataW.trod enc Tryz.prog w 0 (fun _ => true) true n 3 (([a0, a1, a2, a3, a4, a5].drop 4).take (Tryz.prog.cellsOf 3)) = some (xs[4]'(by omega)) := t4
  have t5' : DataW.trod enc Tryz.prog w 0 (fun _ => true) true n 3 (([a0, a1, a2, a3, a4, a5].drop 5).take (Tryz.prog.cellsOf 3)) = some (xs[5]'(by omega)) := t5
  simp only [s3, s22, s23, List.drop, List.take] at t0' t1' t2' t3' t4' t5'
  obtain ⟨A, ac, rs, f0, k0, k0'⟩ := open_rules t0'
  obtain ⟨D, dc, ds, f1, k1, -⟩ := open_drops t1'
  obtain ⟨E, ec, es, f2, k2, -⟩ := open_drops t2'
  obtain ⟨x3, f3, -, -⟩ := DataW.trod_int Tryz.underlying3 t3'
  obtain ⟨x4, f4, -, -⟩ := DataW.trod_int Tryz.underlying3 t4'
  obtain ⟨x5, f5, -, -⟩ := DataW.trod_int Tryz.underlying3 t5'
  injection f3 with f3
  injection f4 with f4
  injection f5 with f5
  subst f0 f1 f2 f3 f4 f5
  refine ⟨⟨⟨rs, ds, es, x3, x4, x5⟩, ⟨A, ac, D, dc, E, ec⟩⟩, ?_, ⟨k0, k1, k2⟩, k0'⟩
  have : cs = #[.slice A rs.length ac, .slice D ds.length dc, .slice E es.length ec, .int .i64 x3, .int .i64 x4, .int .i64 x5] := by
    apply Array.toList_inj.1
    simpa [Value.cells] using ha
  rw [this]; rfl
end
end Go.Proofs.YtnppgomhhcbplaaGreatDoor
