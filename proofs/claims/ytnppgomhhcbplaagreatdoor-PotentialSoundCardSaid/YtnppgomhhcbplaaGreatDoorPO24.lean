/-
  Potential: the law Complete.
  Potential: the law's rest.
  Potential: the law States.
  Potential: what a row's condition says of the library's tables; tables and certificates that came in, opened.
  Align: the place of a rule (slices.IndexFunc with the closure of written).
-/
import Derived.Test.YtnppgomhhcbplaaGreatDoorPO23
import Derived.Test.YtnppgomhhcbplaaGreatDoorPO18
import Derived.Test.YtnppgomhhcbplaaGreatDoorPO19
import Derived.Test.YtnppgomhhcbplaaGreatDoorPO22
import Derived.Deep.DeepCutAuto
import Derived.Test.YtnppgomhhcbplaaGreatDoorRows
import Derived.Test.YtnppgomhhcbplaaGreatDoorPO6
import Derived.PinnedBridge
import Derived.Lib.LaidCase
import Derived.Lib.LaidU8
import Derived.HandedShaped
import Derived.LaidMore
import Derived.Lay
import Derived.SevenTiedAt
import Derived.Stop.Joined
import Derived.WalkKit
import Derived.ProofKit
import Derived.OpenShut
import Derived.ShutString
import Derived.Test.YtnppgomhhcbplaaGreatDoorPO20
set_option linter.unusedSimpArgs false
set_option linter.unusedVariables false
namespace Go.Proofs.YtnppgomhhcbplaaGreatDoor
open Go.RowKit Go.CH Go.CH.Scr Go.CH.Pot
open Go.ChangeMaps (setBlock)
theorem best_er {T : Tab} {a b : Int} {x y : Bs} {d : Dv} {e : Int} (h : BestP T a x b y d e) : e = 1 ∨ e = 11 ∨ e = 0 := by cases h <;> simp
set_option maxHeartbeats 6400000 in
set_option maxRecDepth 100000 in
theorem law_complete_any {w : World} {T : Tab} {a : TA} (hT : TabZ w T a) (hz : LZ w) (k : Int) (x : Bs) (k2 : Int) (y : Bs) (raw : Nat) (hraw : raw < 4294967296) :
    Calls Tryz.prog 9 #[tabV T a, .int .i64 k, .string (bs x), .int .i64 k2, .string (bs y), .int .u32 raw] w (BelowRet w (.bool true)) := by
  have HT := hide hT
  have HZ := hide hz
  have h1 : Run (fun _ => False) w (star (CellO w.heap.size (tabC T a) 25) emp) _ := run_new (Run.begin w) emp_ok _ 25
  have HB := hide (h1.mod.below (fun _ _ h => h))
  have HTC := hide (fun W (h : Below (w.alloc (.cells (tabC T a) 25)).heap.size (w.alloc (.cells (tabC T a) 25)) W) => (show W.cell? ⟨w.heap.size, 0, none⟩ = some (.slice a.A T.rs.length a.c) ∧ W.cell? ⟨w.heap.size, 1, none⟩ = some (.slice a.D T.ds.length a.d) ∧ W.cell? ⟨w.heap.size, 2, none⟩ = some (.slice a.E T.es.length a.e) ∧ W.cell? ⟨w.heap.size, 3, none⟩ = some (.int .i64 T.drop) ∧ W.cell? ⟨w.heap.size, 4, none⟩ = some (.int .i64 T.ord) ∧ W.cell? ⟨w.heap.size, 5, none⟩ = some (.int .i64 T.ini) from by
    obtain ⟨f, hf⟩ := (h1.below (star_ok cell_ok emp_ok) h).fst
    exact ⟨cell_at hf rfl, cell_at hf rfl, cell_at hf rfl, cell_at hf rfl, cell_at hf rfl, cell_at hf rfl⟩))
  have KH := hide (head_any (w.alloc (.cells (tabC T a) 25)) (hz.below HB.out))
  clear hT hz h1
  unfold tabV
  unfold tabC at HB HTC KH ⊢
  generalize hn1 : T.rs.length = n1 at *
  generalize hn2 : T.ds.length = n2 at *
  generalize hn3 : T.es.length = n3 at *
  have HN := hide (show tabV T a = .agg #[.slice a.A n1 a.c, .slice a.D n2 a.d, .slice a.E n3 a.e, .int .i64 T.drop, .int .i64 T.ord, .int .i64 T.ini] from by unfold tabV tabC; rw [hn1, hn2, hn3])
  clear hn1 hn2 hn3
  go_enter Tryz.func9, Tryz.ntmps9
  go_wp2_with fail
  refine KH.out.mono ?_
  rintro e9 w1 ⟨rfl, hb1⟩
  generalize w.alloc (.cells #[.slice a.A n1 a.c, .slice a.D n2 a.d, .slice a.E n3 a.e, .int .i64 T.drop, .int .i64 T.ord, .int .i64 T.ini] 25) = wb at *
  obtain ⟨gt, hgt⟩ : ∃ gt, gt = w.heap.size := ⟨_, rfl⟩
  have HBW := hide (fun W (h : Below wb.heap.size wb W) => HB.out.trans (h.mono HB.out.size))
  have HZW := hide (fun W (h : Below wb.heap.size wb W) => HZ.out.below (HBW.out W h))
  have HTW := hide (fun W (h : Below wb.heap.size wb W) => HT.out.below (HBW.out W h))
  have HB1 := hide hb1
  have KF := hide (few_any (B := none) (c := 0) (C := []) (HTW.out w1 hb1) src_none x y)
  rw [HN.out] at KF
  obtain ⟨t0, t1, t2, t3, t4, t5⟩ := HTC.out _ hb1
  clear KH hb1 HT HZ HB
  dsimp only
  cases hf : fewN T x y [] with
  | false =>
    simp only [hf] at KF
    clear hf
    go_wp2_with fail
    refine KF.out.mono ?_
    rintro e9 w2 ⟨rfl, hb⟩
    have HB2 := hide (bel_trans HB1.out hb)
    clear KF hb t0 t1 t2 t3 t4 t5
    dsimp only
    go_wp2
    go_ret
    exact bel_bool rfl (HBW.out _ HB2.out)
  | true =>
    simp only [hf] at KF
    have HF := hide (fewN_iff.1 hf)
    clear hf
    go_wp2_with fail
    refine KF.out.mono ?_
    rintro e9 w2 ⟨rfl, hb⟩
    have HB2 := hide (bel_trans HB1.out hb)
    clear KF hb t0 t1 t2 t3 t4 t5
    dsimp only
    have KM := hide (fun W (h : Below wb.heap.size wb W) (bd : Int) => (make_any ((HTW.out W h).few HF.out.1) (HZW.out W h) k x k2 y bd (by have := HF.out.2.1; omega) (by have := HF.out.2.2; omega)).mono fun e w' h => make_bel2 h)
    simp only [HN.out] at KM
    have KB := hide (fun W (h : Below wb.heap.size wb W) => best_any ((HTW.out W h).few HF.out.1) (HZW.out W h) k x k2 y (by have := HF.out.2.1; omega) (by have := HF.out.2.2; omega))
    have KC := hide (fun W (h : Below wb.heap.size wb W) (bd : Int) (B : Option Addr) (c : Nat) (C : List Pt) (hC : PtsR W B C) (hl : C.length ≤ 1000000 ∧ ∀ p ∈ C, p.a.length ≤ 1000000) => check_any (c := c) ((HTW.out W h).few HF.out.1) (HZW.out W h) k x k2 y bd (by have := HF.out.2.1; omega) (by have := HF.out.2.2; omega) hC hl.1 hl.2)
    simp only [HN.out] at KB KC
    have HRS := hide (show T.rs.length ≤ 60 from (fewT_iff.1 HF.out.1).1.1)
    have hb0 : 0 ≤ (raw : Int) % 100001 ∧ (raw : Int) % 100001 ≤ 100000 := ⟨Int.emod_nonneg _ (by decide), by have := Int.emod_lt_of_pos (raw : Int) (b := 100001) (by decide); omega⟩
    have HB0 := hide hb0
    have K1 := hide (KB.out w2 HB2.out)
    obtain ⟨t0, t1, t2, t3, t4, t5⟩ := HTC.out _ HB2.out
    go_wp2_with fail
    refine K1.out.mono ?_
    rintro e9 w3 ⟨d, er, A, n, c, B, m, c2, f, rfl, hbp, hb⟩
    have HB3 := hide (bel_trans HB2.out hb)
    have HBP := hide hbp
    clear K1 hbp hb t0 t1 t2 t3 t4 t5 hb0
    dsimp only
    obtain ⟨dc, hdc⟩ : ∃ dc, dc = d.c := ⟨_, rfl⟩
    rw [← hdc]
    have HDC := hide hdc
    clear hdc
    have r4 := run_new (Run.begin w3) emp_ok #[.int .i64 dc, .slice A n c, .slice B m c2, .string (bs f)] 47
    have HB4 := hide (bel_trans HB3.out (r4.mod.below (fun _ _ h => h)))
    have HCC := hide (fun W (h : Below (w3.alloc (.cells #[.int .i64 dc, .slice A n c, .slice B m c2, .string (bs f)] 47)).heap.size (w3.alloc (.cells #[.int .i64 dc, .slice A n c, .slice B m c2, .string (bs f)] 47)) W) => (show W.cell? ⟨w3.heap.size, 0, none⟩ = some (.int .i64 dc) from by
      obtain ⟨f, hf⟩ := (r4.below (star_ok cell_ok emp_ok) h).fst
      exact cell_at hf rfl))
    clear r4
    have K2 := hide (KM.out _ HB4.out ((raw : Int) % 100001))
    obtain ⟨t0, t1, t2, t3, t4, t5⟩ := HTC.out _ HB4.out
    go_wp2_with fail
    generalize w3.alloc (.cells #[.int .i64 dc, .slice A n c, .slice B m c2, .string (bs f)] 47) = w4 at *
    generalize w3.heap.size = g14 at *
    refine K2.out.mono ?_
    rintro e9 w5 ⟨A1, c1, C1, er1, rfl, hm1, ⟨hp1, hlen1⟩, hb⟩
    generalize (raw : Int) % 100001 = bd at *
    have hlc := law_complete HB0.out.1 HB0.out.2 HBP.out hm1
    have HB5 := hide (bel_trans HB4.out hb)
    have HD5 := hide hb
    have HP1 := hide hp1
    have HF1 := hide (make_few hm1 HRS.out)
    clear K2 hm1 hp1 hb t0 t1 t2 t3 t4 t5
    dsimp only
    rcases best_er HBP.out with rfl | rfl | rfl
    · obtain ⟨rfl, rfl⟩ := hlc.1 ⟨by decide, by decide⟩
      clear hlc HP1 HF1
      simp only [List.length_nil]
      go_wp2
      go_ret
      exact bel_bool rfl (HBW.out _ HB5.out)
    · obtain ⟨rfl, hck⟩ := hlc.2.2 (.inr rfl)
      have HCK := hide hck
      clear hlc hck
      have K3 := hide (KC.out _ HB5.out bd A1 c1 C1 HP1.out HF1.out)
      obtain ⟨t0, t1, t2, t3, t4, t5⟩ := HTC.out _ HB5.out
      have v0 := HCC.out _ HD5.out
      generalize C1.length = nC1 at *
      go_wp2_with fail
      refine K3.out.mono ?_
      rintro e9 w6 ⟨b6, rfl, hiff, hb⟩
      have hb6 : b6 = true := hiff.2 HCK.out
      subst hb6
      have HBX := hide (bel_trans HB5.out hb)
      have HDX := hide (bel_trans HD5.out hb)
      clear K3 hiff hb t0 t1 t2 t3 t4 t5 v0 HB5 HD5 HP1 HCK HF1
      dsimp only
      go_wp2
      go_ret
      exact bel_bool rfl (HBW.out _ HBX.out)
    · by_cases hlt : dc < bd
      · obtain ⟨rfl, rfl⟩ := hlc.2.1 ⟨rfl, by rw [← HDC.out]; exact hlt⟩
        clear hlc HP1 HF1
        simp only [List.length_nil]
        have v0 := HCC.out _ HD5.out
        have HBX := hide HB5.out
        have HDX := hide HD5.out
        clear v0
        have v0 := HCC.out _ HDX.out
        have K4 := hide (KM.out _ HBX.out dc)
        obtain ⟨t0, t1, t2, t3, t4, t5⟩ := HTC.out _ HBX.out
        go_wp2_with fail
        refine K4.out.mono ?_
        rintro e9 w7 ⟨A2, cc2, C2, er2, rfl, hm2, ⟨hp2, hlen2⟩, hb⟩
        have HB7 := hide (bel_trans HBX.out hb)
        have HD7 := hide (bel_trans HDX.out hb)
        have HP2 := hide hp2
        have HM2 := hide hm2
        clear K4 hm2 hp2 hb t0 t1 t2 t3 t4 t5 v0 HBX HDX
        dsimp only
        have hbc := best_cost HBP.out
        have tw : wrap64 (dc + 1) = dc + 1 := IntWalk.wrap64_in _ (by rw [HDC.out]; omega)
        have K5 := hide (KM.out _ HB7.out (dc + 1))
        obtain ⟨t0, t1, t2, t3, t4, t5⟩ := HTC.out _ HB7.out
        have v0 := HCC.out _ HD7.out
        clear hbc
        go_wp2_with fail
        refine K5.out.mono ?_
        rintro e9 w8 ⟨A3, cc3, C3, er3, rfl, hm3, -, hb⟩
        have HB8 := hide (bel_trans HB7.out hb)
        have HD8 := hide (bel_trans HD7.out hb)
        have HP3 := hide (Rst.below HP2.out hb)
        have hfew2 := make_few HM2.out HRS.out
        obtain ⟨rfl, hck2, rfl⟩ := law_complete2 HBP.out (by rw [← HDC.out]; exact HM2.out) (by rw [← HDC.out]; exact hm3)
        rw [← HDC.out] at hck2
        have HCK2 := hide hck2
        have K6 := hide (KC.out _ HB8.out dc A2 cc2 C2 HP3.out hfew2)
        obtain ⟨t0, t1, t2, t3, t4, t5⟩ := HTC.out _ HB8.out
        have v0 := HCC.out _ HD8.out
        clear K5 hm3 hb hck2 hfew2 HM2 HP2 HB7 HD7
        dsimp only
        generalize C2.length = nC2 at *
        generalize C3.length = nC3 at *
        go_wp2_with fail
        refine K6.out.mono ?_
        rintro e9 w9 ⟨b9, rfl, hiff, hb⟩
        have hb9 : b9 = true := hiff.2 HCK2.out
        subst hb9
        have HB9 := hide (bel_trans HB8.out hb)
        clear K6 hiff hb t0 t1 t2 t3 t4 t5 v0
        dsimp only
        go_wp2
        go_ret
        exact bel_bool rfl (HBW.out _ HB9.out)
      · obtain ⟨rfl, hck⟩ := hlc.2.2 (.inl ⟨rfl, by rw [← HDC.out]; omega⟩)
        have HCK := hide hck
        clear hlc hck
        have K3 := hide (KC.out _ HB5.out bd A1 c1 C1 HP1.out HF1.out)
        obtain ⟨t0, t1, t2, t3, t4, t5⟩ := HTC.out _ HB5.out
        have v0 := HCC.out _ HD5.out
        generalize C1.length = nC1 at *
        go_wp2_with fail
        refine K3.out.mono ?_
        rintro e9 w6 ⟨b6, rfl, hiff, hb⟩
        have hb6 : b6 = true := hiff.2 HCK.out
        subst hb6
        have HBX := hide (bel_trans HB5.out hb)
        have HDX := hide (bel_trans HD5.out hb)
        clear K3 hiff hb t0 t1 t2 t3 t4 t5 v0 HB5 HD5 HP1 HCK HF1
        dsimp only
        have K4 := hide (KM.out _ HBX.out dc)
        obtain ⟨t0, t1, t2, t3, t4, t5⟩ := HTC.out _ HBX.out
        have v0 := HCC.out _ HDX.out
        go_wp2_with fail
        refine K4.out.mono ?_
        rintro e9 w7 ⟨A2, cc2, C2, er2, rfl, hm2, ⟨hp2, hlen2⟩, hb⟩
        have HB7 := hide (bel_trans HBX.out hb)
        have HD7 := hide (bel_trans HDX.out hb)
        have HP2 := hide hp2
        have HM2 := hide hm2
        clear K4 hm2 hp2 hb t0 t1 t2 t3 t4 t5 v0 HBX HDX
        dsimp only
        have hbc := best_cost HBP.out
        have tw : wrap64 (dc + 1) = dc + 1 := IntWalk.wrap64_in _ (by rw [HDC.out]; omega)
        have K5 := hide (KM.out _ HB7.out (dc + 1))
        obtain ⟨t0, t1, t2, t3, t4, t5⟩ := HTC.out _ HB7.out
        have v0 := HCC.out _ HD7.out
        clear hbc
        go_wp2_with fail
        refine K5.out.mono ?_
        rintro e9 w8 ⟨A3, cc3, C3, er3, rfl, hm3, -, hb⟩
        have HB8 := hide (bel_trans HB7.out hb)
        have HD8 := hide (bel_trans HD7.out hb)
        have HP3 := hide (Rst.below HP2.out hb)
        have hfew2 := make_few HM2.out HRS.out
        obtain ⟨rfl, hck2, rfl⟩ := law_complete2 HBP.out (by rw [← HDC.out]; exact HM2.out) (by rw [← HDC.out]; exact hm3)
        rw [← HDC.out] at hck2
        have HCK2 := hide hck2
        have K6 := hide (KC.out _ HB8.out dc A2 cc2 C2 HP3.out hfew2)
        obtain ⟨t0, t1, t2, t3, t4, t5⟩ := HTC.out _ HB8.out
        have v0 := HCC.out _ HD8.out
        clear K5 hm3 hb hck2 hfew2 HM2 HP2 HB7 HD7
        dsimp only
        generalize C2.length = nC2 at *
        generalize C3.length = nC3 at *
        go_wp2_with fail
        refine K6.out.mono ?_
        rintro e9 w9 ⟨b9, rfl, hiff, hb⟩
        have hb9 : b9 = true := hiff.2 HCK2.out
        subst hb9
        have HB9 := hide (bel_trans HB8.out hb)
        clear K6 hiff hb t0 t1 t2 t3 t4 t5 v0
        dsimp only
        go_wp2
        go_ret
        exact bel_bool rfl (HBW.out _ HB9.out)
end Go.Proofs.YtnppgomhhcbplaaGreatDoor
namespace Go.Proofs.YtnppgomhhcbplaaGreatDoor
open Go.RowKit Go.CH Go.CH.Scr Go.CH.Pot
open Go.ChangeMaps (setBlock)
def restB (k : Int) (x : Bs) (n : Int) : Bool := word k x && (decide (0 ≤ n) && decide (n < ((ltrs k (lower x)).1.length : Int)))
def restN (k : Int) (x : Bs) (n : Int) : Bs := if restB k x n then ((ltrs k (lower x)).1.drop n.toNat).flatten else []
theorem vst_at {w : World} {A : Option Addr} {l : List Bs} (h : Vst w A l) (hn : 0 < l.length) : ∃ b o, A = some ⟨b, o, none⟩ ∧ ∀ w', Below w.heap.size w w' → ∀ j (hj : j < l.length), w'.cell? ⟨b, o + j, none⟩ = some (.string (bs l[j])) := by
  obtain ⟨b, o, rfl, hc⟩ := Src.open_ h hn (by omega)
  refine ⟨b, o, rfl, fun w' hb j hj => ?_⟩
  have h1 := hc j _ (strB_get hj)
  rw [hb.cell (World.block_lt_of_cell? _ _ h1)]
  exact h1
def partF (l : List Bs) (n j : Nat) : Bs := ((l.take j).drop n).flatten
theorem part_zero {l : List Bs} {n : Nat} : partF l n n = [] := by unfold partF; rw [List.drop_eq_nil_of_le (by rw [List.length_take]; omega)]; rfl
theorem part_succ {l : List Bs} {n j : Nat} (hn : n ≤ j) (hj : j < l.length) : partF l n (j + 1) = partF l n j ++ l[j] := by
  unfold partF
  rw [List.take_succ_eq_append_getElem hj, List.drop_append_of_le_length (by rw [List.length_take]; omega), List.flatten_append]
  simp
theorem part_all {l : List Bs} {n : Nat} : partF l n l.length = (l.drop n).flatten := by unfold partF; rw [List.take_length]
theorem part_le {l : List Bs} {n j : Nat} : (partF l n j).length ≤ l.flatten.length := by
  unfold partF
  have h1 : l.flatten = (l.take j).flatten ++ (l.drop j).flatten := by rw [← List.flatten_append, List.take_append_drop]
  have h2 : (l.take j).flatten = ((l.take j).take n).flatten ++ ((l.take j).drop n).flatten := by rw [← List.flatten_append, List.take_append_drop]
  rw [h1, List.length_append, h2, List.length_append]
  omega
theorem elem_le {l : List Bs} {j : Nat} (hj : j < l.length) : l[j].length ≤ l.flatten.length := by
  have h1 : l.flatten = (l.take j).flatten ++ (l.drop j).flatten := by rw [← List.flatten_append, List.take_append_drop]
  rw [h1, List.length_append, List.drop_eq_getElem_cons hj, List.flatten_cons, List.length_append]
  omega
theorem ltrs_flat {k : Int} {l : Bs} : (ltrs k l).1.flatten.length ≤ l.length := by
  have := congrArg List.length (ltrs_join (k := k) l)
  rw [List.length_append] at this
  omega
set_option maxHeartbeats 6400000 in
set_option maxRecDepth 100000 in
theorem rest_any {w : World} (hz : LZ w) (k : Int) (x : Bs) (n : Int) (hx : x.length ≤ 1000000) :
    Calls Tryz.prog 20 #[.int .i64 k, .string (bs x), .int .i64 n] w (BelowRet w (.tuple #[.string (bs (restN k x n)), .bool (restB k x n)])) := by
  have HZ := hide hz
  have HX := hide hx
  have KF := hide (fold_any k (bs x) w (by rw [bs_size]; exact hx) hz)
  simp only [bl_bs] at KF
  unfold BelowRet at KF
  clear hz hx
  by_cases hw : word k x = true
  · have e1 : foldN k x = (lower x, 0) := by unfold foldN; rw [if_pos hw]
    have e2 : lettersN k (lower x) = ((ltrs k (lower x)).1, 0) := by unfold lettersN; rw [if_pos (fold_word hw)]
    have hlx : (lower x).length ≤ 1000000 := by unfold lower; rw [List.length_map]; exact HX.out
    have KL := hide (fun W (hz : LZ W) => Letters_any k (bs (lower x)) W (by rw [bs_size]; exact hlx) hz)
    simp only [bl_bs] at KL
    unfold LtrsRet at KL
    simp only [e2] at KL
    simp only [e1] at KF
    have HFL := hide (show (ltrs k (lower x)).1.flatten.length ≤ 1000000 from Nat.le_trans ltrs_flat hlx)
    have HLN := hide (show (ltrs k (lower x)).1.length ≤ 12 from (word_iff.1 (fold_word hw)).2.2)
    have HRB := hide (show restB k x n = (decide (0 ≤ n) && decide (n < ((ltrs k (lower x)).1.length : Int))) from by unfold restB; rw [hw, Bool.true_and])
    have HRN := hide (show restN k x n = if restB k x n = true then ((ltrs k (lower x)).1.drop n.toNat).flatten else [] from rfl)
    generalize restN k x n = rN at *
    generalize restB k x n = rB at *
    generalize (ltrs k (lower x)).1 = l at *
    clear e1 e2 hlx hw
    go_enter Tryz.func20, Tryz.ntmps20
    go_wp2_with fail
    refine KF.out.mono ?_
    rintro e9 w2 ⟨rfl, hb⟩
    have HB2 := hide hb
    have KL2 := hide (KL.out w2 (HZ.out.below hb))
    clear KF KL hb
    dsimp only
    go_wp2_with fail
    refine KL2.out.mono ?_
    rintro e9 w3 ⟨L, lc, rfl, hp⟩
    obtain ⟨F, hF, hm, -⟩ := hp
    have hb3 : Below w2.heap.size w2 w3 := hm.below (fun _ _ h => h)
    have HB3 := hide (bel_trans HB2.out hb3)
    have HV := hide (show Vst w3 L l from row_src hF (strB_one l))
    clear KL2 hF hm hb3
    dsimp only
    by_cases h0 : 0 ≤ n
    · obtain ⟨n0, rfl⟩ : ∃ n0 : Nat, n = n0 := ⟨n.toNat, by omega⟩
      by_cases h1 : n0 < l.length
      · have HRB1 := hide (show rB = true by rw [HRB.out, decide_eq_true h0, decide_eq_true (by omega)]; rfl)
        have HRN1 := hide (show rN = partF l n0 l.length by rw [HRN.out, HRB1.out, part_all]; rfl)
        have t1 : decide (l.length ≤ n0) = false := decide_eq_false (by omega)
        obtain ⟨b, o, hA, hc⟩ := vst_at HV.out (by omega)
        have HC := hide hc
        have HN0 := hide h1
        subst hA
        obtain ⟨N, hN⟩ : ∃ N, N = l.length := ⟨_, rfl⟩
        have HNN := hide hN
        rw [← hN] at t1 ⊢
        clear h0 h1 hc hN
        go_wp2_with fail
        have HB3' := hide (Below.refl w3.heap.size w3)
        go_loopw [12, 13] (fun u i wr => ∃ j : Nat, n0 ≤ j ∧ j ≤ N ∧ i = .int .i64 j ∧ u = .string (bs (partF l n0 j)) ∧ Below w3.heap.size w3 wr) (fun _ i _ => N - (intOf i).toNat)
        case atStart => exact ⟨n0, Nat.le_refl _, by rw [HNN.out]; exact Nat.le_of_lt HN0.out, rfl, by rw [part_zero]; rfl, HB3'.out⟩
        case round =>
          obtain ⟨j, hj0, hj, rfl, rfl, hbel⟩ := hrel
          have HBE := hide hbel
          clear hbel
          by_cases hlt : j < N
          · have hjl : j < l.length := by rw [← HNN.out]; exact hlt
            have q0 := HC.out wr HBE.out j hjl
            have HLT := hide hlt
            have HPS := hide (part_succ hj0 hjl)
            have h1 := part_le (l := l) (n := n0) (j := j)
            have h2 := elem_le hjl
            have hsum : ¬ 9223372036854775807 < (bs (partF l n0 j)).size + (bs l[j]).size := by rw [bs_size, bs_size]; have := HFL.out; omega
            have hjb : (j : Int) < 1000000 := by have := HLN.out; omega
            have HJ0 := hide hj0
            clear h1 h2 hj0 hj
            generalize partF l n0 j = pj at *
            generalize l[j] = lj at *
            go_wp2_with fail
            go_roundw
            case rel => exact ⟨j + 1, by have := HJ0.out; omega, HLT.out, by go_num, by rw [HPS.out, bs_cat], HBE.out⟩
            case measure => have := HLT.out; simp [intOf]; omega
          · obtain rfl : j = N := by omega
            have HRV := hide (show Value.tuple #[.string (bs (partF l n0 j)), .bool true] = Value.tuple #[.string (bs rN), .bool rB] by rw [HRN1.out, HRB1.out, ← HNN.out])
            clear hlt hj0 hj
            generalize partF l n0 j = pj at *
            go_wp2
            refine bodyPost_ret (results_tmp2 rfl _ _ _) rfl ?_
            rw [← HRV.out]
            exact ⟨rfl, bel_trans HB3.out HBE.out⟩
      · have HRB1 := hide (show rB = false by rw [HRB.out, decide_eq_true h0, decide_eq_false (by omega)]; rfl)
        have HRV := hide (show Value.tuple #[.string ⟨#[]⟩, .bool false] = Value.tuple #[.string (bs rN), .bool rB] by rw [HRN.out, HRB1.out]; rfl)
        have t1 : decide (l.length ≤ n0) = true := decide_eq_true (by omega)
        clear h0 h1 HRN
        generalize l.length = N at *
        go_wp2
        refine bodyPost_ret (results_tmp2 rfl _ _ _) rfl ?_
        rw [← HRV.out]
        exact ⟨rfl, HB3.out⟩
    · have HRB1 := hide (show rB = false by rw [HRB.out, decide_eq_false h0]; rfl)
      have HRV := hide (show Value.tuple #[.string ⟨#[]⟩, .bool false] = Value.tuple #[.string (bs rN), .bool rB] by rw [HRN.out, HRB1.out]; rfl)
      have t1 : decide (n < 0) = true := decide_eq_true (by omega)
      clear h0 HRN
      generalize l.length = N at *
      go_wp2
      refine bodyPost_ret (results_tmp2 rfl _ _ _) rfl ?_
      rw [← HRV.out]
      exact ⟨rfl, HB3.out⟩
  · have e1 : foldN k x = ([], 1) := by unfold foldN; rw [if_neg hw]
    have KL := hide (fun W (hz : LZ W) => Letters_any k (bs []) W (by rw [bs_size]; simp) hz)
    unfold LtrsRet at KL
    simp only [e1] at KF
    have HRB1 := hide (show restB k x n = false by unfold restB; rw [Bool.eq_false_iff.2 hw]; rfl)
    have HRV := hide (show Value.tuple #[.string ⟨#[]⟩, .bool false] = Value.tuple #[.string (bs (restN k x n)), .bool (restB k x n)] by unfold restN; rw [HRB1.out]; rfl)
    rw [← HRV.out]
    clear e1 hw
    go_enter Tryz.func20, Tryz.ntmps20
    go_wp2_with fail
    refine KF.out.mono ?_
    rintro e9 w2 ⟨rfl, hb⟩
    have HB2 := hide hb
    have KL2 := hide (KL.out w2 (HZ.out.below hb))
    clear KF KL hb
    dsimp only
    go_wp2_with fail
    refine KL2.out.mono ?_
    rintro e9 w3 ⟨L, lc, rfl, hp⟩
    obtain ⟨F, hF, hm, -⟩ := hp
    have HB3 := hide (bel_trans HB2.out (hm.below (fun _ _ h => h)))
    clear KL2 hF hm
    dsimp only
    generalize (lettersN k (bl (bs []))).1.length = N at *
    generalize (lettersN k (bl (bs []))).2 = er at *
    go_wp2
    refine bodyPost_ret (results_tmp2 rfl _ _ _) rfl ?_
    exact ⟨rfl, HB3.out⟩
end Go.Proofs.YtnppgomhhcbplaaGreatDoor
namespace Go.Proofs.YtnppgomhhcbplaaGreatDoor
open Go.RowKit Go.CH Go.CH.Scr Go.CH.Pot
open Go.ChangeMaps (setBlock)
theorem best_er2 {T : Tab} {a b : Int} {x y : Bs} {d : Dv} {e : Int} (h : BestP T a x b y d e) : e = 1 ∨ e = 11 ∨ e = 0 := by cases h <;> simp
theorem rest_len {k : Int} {x : Bs} {n : Int} (hx : x.length ≤ 1000000) : (restN k x n).length ≤ 1000000 := by
  unfold restN
  split
  · have h1 : (ltrs k (lower x)).1.flatten = ((ltrs k (lower x)).1.take n.toNat).flatten ++ ((ltrs k (lower x)).1.drop n.toNat).flatten := by rw [← List.flatten_append, List.take_append_drop]
    have h2 := ltrs_flat (k := k) (l := lower x)
    have h3 : (lower x).length = x.length := by unfold lower; rw [List.length_map]
    rw [h1, List.length_append] at h2
    omega
  · exact Nat.zero_le _
theorem rest_yes {k : Int} {x : Bs} {n : Int} (h : restB k x n = true) : n < ((ltrs k (lower x)).1.length : Int) ∧ restN k x n = ((ltrs k (lower x)).1.drop n.toNat).flatten := by
  refine ⟨?_, by unfold restN; rw [if_pos h]⟩
  unfold restB at h
  simp only [Bool.and_eq_true, decide_eq_true_eq] at h
  exact h.2.2
set_option maxHeartbeats 6400000 in
set_option maxRecDepth 100000 in
theorem law_states_any {w : World} {T : Tab} {a : TA} (hT : TabZ w T a) (hz : LZ w) (k : Int) (x : Bs) (k2 : Int) (y : Bs) (bound : Int) {B : Option Addr} {c : Nat} {C : List Pt} (hC : PtsR w B C) :
    Calls Tryz.prog 10 #[tabV T a, .int .i64 k, .string (bs x), .int .i64 k2, .string (bs y), .int .i64 bound, .slice B C.length c] w (BelowRet w (.bool true)) := by
  have HT := hide hT
  have HZ := hide hz
  have HC := hide hC
  have h1 : Run (fun _ => False) w (star (CellO w.heap.size (tabC T a) 25) emp) _ := run_new (Run.begin w) emp_ok _ 25
  have HB := hide (h1.mod.below (fun _ _ h => h))
  have HTC := hide (fun W (h : Below (w.alloc (.cells (tabC T a) 25)).heap.size (w.alloc (.cells (tabC T a) 25)) W) => (show W.cell? ⟨w.heap.size, 0, none⟩ = some (.slice a.A T.rs.length a.c) ∧ W.cell? ⟨w.heap.size, 1, none⟩ = some (.slice a.D T.ds.length a.d) ∧ W.cell? ⟨w.heap.size, 2, none⟩ = some (.slice a.E T.es.length a.e) ∧ W.cell? ⟨w.heap.size, 3, none⟩ = some (.int .i64 T.drop) ∧ W.cell? ⟨w.heap.size, 4, none⟩ = some (.int .i64 T.ord) ∧ W.cell? ⟨w.heap.size, 5, none⟩ = some (.int .i64 T.ini) from by
    obtain ⟨f, hf⟩ := (h1.below (star_ok cell_ok emp_ok) h).fst
    exact ⟨cell_at hf rfl, cell_at hf rfl, cell_at hf rfl, cell_at hf rfl, cell_at hf rfl, cell_at hf rfl⟩))
  have KH := hide (head_any (w.alloc (.cells (tabC T a) 25)) (hz.below HB.out))
  clear hT hz h1 hC
  unfold tabV
  unfold tabC at HB HTC KH ⊢
  generalize hn1 : T.rs.length = n1 at *
  generalize hn2 : T.ds.length = n2 at *
  generalize hn3 : T.es.length = n3 at *
  have HN := hide (show tabV T a = .agg #[.slice a.A n1 a.c, .slice a.D n2 a.d, .slice a.E n3 a.e, .int .i64 T.drop, .int .i64 T.ord, .int .i64 T.ini] from by unfold tabV tabC; rw [hn1, hn2, hn3])
  clear hn1 hn2 hn3
  generalize hnc : C.length = nc at *
  have HNC := hide hnc
  clear hnc
  go_enter Tryz.func10, Tryz.ntmps10
  go_wp2_with fail
  refine KH.out.mono ?_
  rintro e9 w1 ⟨rfl, hb1⟩
  generalize w.alloc (.cells #[.slice a.A n1 a.c, .slice a.D n2 a.d, .slice a.E n3 a.e, .int .i64 T.drop, .int .i64 T.ord, .int .i64 T.ini] 25) = wb at *
  obtain ⟨gt, hgt⟩ : ∃ gt, gt = w.heap.size := ⟨_, rfl⟩
  have HBW := hide (fun W (h : Below wb.heap.size wb W) => HB.out.trans (h.mono HB.out.size))
  have HZW := hide (fun W (h : Below wb.heap.size wb W) => HZ.out.below (HBW.out W h))
  have HTW := hide (fun W (h : Below wb.heap.size wb W) => HT.out.below (HBW.out W h))
  have HB1 := hide hb1
  have HCW := hide (fun W (h : Below wb.heap.size wb W) => Rst.below HC.out (HBW.out W h))
  have KF := hide (few_any (c := c) (HTW.out w1 hb1) (HCW.out w1 hb1) x y)
  rw [HN.out, HNC.out] at KF
  obtain ⟨t0, t1, t2, t3, t4, t5⟩ := HTC.out _ hb1
  clear KH hb1 HT HZ HB HC
  dsimp only
  cases hf : fewN T x y C with
  | false =>
    simp only [hf] at KF
    clear hf
    go_wp2_with fail
    refine KF.out.mono ?_
    rintro e9 w2 ⟨rfl, hb⟩
    have HB2 := hide (bel_trans HB1.out hb)
    clear KF hb t0 t1 t2 t3 t4 t5
    dsimp only
    go_wp2
    go_ret
    exact bel_bool rfl (HBW.out _ HB2.out)
  | true =>
    simp only [hf] at KF
    have HF := hide (fewN_iff.1 hf)
    clear hf
    go_wp2_with fail
    refine KF.out.mono ?_
    rintro e9 w2 ⟨rfl, hb⟩
    have HB2 := hide (bel_trans HB1.out hb)
    clear KF hb t0 t1 t2 t3 t4 t5
    dsimp only
    have HSM := hide (show C.length ≤ 1000000 ∧ ∀ p ∈ C, p.a.length ≤ 1000000 from by
      obtain ⟨⟨-, -, -, g4⟩, -, -, -, g5⟩ := fewT_iff.1 HF.out.1
      exact ⟨by omega, fun p hp => by have := short_iff.1 (g5 p hp); omega⟩)
    have hx6 : x.length ≤ 1000000 := by have := HF.out.2.1; omega
    have hy6 : y.length ≤ 1000000 := by have := HF.out.2.2; omega
    have KR := hide (fun W (h : Below wb.heap.size wb W) (n : Int) => rest_any (HZW.out W h) k x n hx6)
    have KS := hide (fun W (h : Below wb.heap.size wb W) (n : Int) => rest_any (HZW.out W h) k2 y n hy6)
    have KB := hide (fun W (h : Below wb.heap.size wb W) (n m : Int) => best_any ((HTW.out W h).few HF.out.1) (HZW.out W h) k (restN k x n) k2 (restN k2 y m) (rest_len hx6) (rest_len hy6))
    have K1 := hide (check_any (c := c) ((HTW.out w2 HB2.out).few HF.out.1) (HZW.out w2 HB2.out) k x k2 y bound hx6 hy6 (HCW.out w2 HB2.out) HSM.out.1 HSM.out.2)
    simp only [HN.out, HNC.out] at K1 KB
    clear hx6 hy6
    obtain ⟨t0, t1, t2, t3, t4, t5⟩ := HTC.out _ HB2.out
    go_wp2_with fail
    refine K1.out.mono ?_
    rintro e9 w3 ⟨b1, rfl, hiff, hb⟩
    have HB3 := hide (bel_trans HB2.out hb)
    have HI1 := hide hiff
    clear K1 hiff hb t0 t1 t2 t3 t4 t5
    dsimp only
    cases b1 with
    | false =>
      go_wp2
      go_ret
      exact bel_bool rfl (HBW.out _ HB3.out)
    | true =>
      have HCK := hide (HI1.out.1 rfl)
      clear HI1
      go_wp2_with fail
      have HB3' := hide (Below.refl w3.heap.size w3)
      go_loopw [16, 17] (fun u i wr => ∃ (j m : Nat), j ≤ nc ∧ m ≤ 30 ∧ i = .int .i64 j ∧ u = .int .i64 m ∧ Below w3.heap.size w3 wr) (fun _ i _ => nc - (intOf i).toNat)
      case atStart => exact ⟨0, 0, Nat.zero_le _, Nat.zero_le _, rfl, rfl, HB3'.out⟩
      case round =>
        obtain ⟨j, m, hj, hm, rfl, rfl, hbel⟩ := hrel
        have HBE := hide (bel_trans HB3.out hbel)
        have HBR := hide hbel
        clear hbel
        by_cases hlt : j < nc
        · by_cases hm30 : m < 30
          · have hjc : j < C.length := by rw [HNC.out]; exact hlt
            have HLT := hide hlt
            have HMM := hide hm30
            obtain ⟨b1, o1, rfl, hc1⟩ := PtsR.at (HCW.out wr HBE.out) (by omega)
            have HP := hide (fun W (h : Below wr.heap.size wr W) => hc1 W h j hjc)
            have HMEM := hide (List.getElem_mem hjc)
            obtain ⟨r0, r1, r2, r3, r4⟩ := hc1 wr (Below.refl _ _) j hjc
            have hjb : (j : Int) < 1000000 := by have := HSM.out.1; omega
            clear hc1
            generalize C[j] = p at *
            have hmb : (m : Int) < 30 := by omega
            by_cases hah : p.a = []
            · have e1 : (bs p.a).toList.isEmpty = true := by rw [List.isEmpty_iff]; exact bs_empty.2 hah
              have HAH := hide hah
              have K2 := hide (KR.out wr HBE.out p.i)
              clear hah
              go_wp2_with fail
              refine K2.out.mono ?_
              rintro e9 w4 ⟨rfl, hb⟩
              have HB4 := hide (bel_trans HBE.out hb)
              have HR4 := hide hb
              have K3 := hide (KS.out w4 HB4.out p.j)
              obtain ⟨r0, r1, r2, r3, r4⟩ := HP.out w4 hb
              clear K2 hb
              dsimp only
              go_wp2_with fail
              refine K3.out.mono ?_
              rintro e9 w5 ⟨rfl, hb⟩
              have HB5 := hide (bel_trans HB4.out hb)
              have HR5 := hide (bel_trans HR4.out hb)
              clear K3 hb r0 r1 r2 r3 r4
              dsimp only
              have K4 := hide (KB.out w5 HB5.out p.i p.j)
              have HY1 := hide (fun h => rest_yes (k := k) (x := x) (n := p.i) h)
              have HY2 := hide (fun h => rest_yes (k := k2) (x := y) (n := p.j) h)
              generalize restB k x p.i = q1 at *
              generalize restB k2 y p.j = q2 at *
              generalize restN k x p.i = s1 at *
              generalize restN k2 y p.j = s2 at *
              have HBZ := hide (bel_trans HBR.out HR5.out)
              cases q1 with
              | false =>
                clear K4
                go_wp2_with fail
                go_roundw
                case rel => exact ⟨j + 1, m, HLT.out, Nat.le_of_lt HMM.out, by go_num, rfl, HBZ.out⟩
                case measure => have := HLT.out; simp [intOf]; omega
              | true =>
                cases q2 with
                | false =>
                  clear K4
                  go_wp2_with fail
                  go_roundw
                  case rel => exact ⟨j + 1, m, HLT.out, Nat.le_of_lt HMM.out, by go_num, rfl, HBZ.out⟩
                  case measure => have := HLT.out; simp [intOf]; omega
                | true =>
                  obtain ⟨hi1, rfl⟩ := HY1.out rfl
                  obtain ⟨hi2, rfl⟩ := HY2.out rfl
                  have HST := hide (fun d e hb => law_states (d := d) (e := e) HCK.out HMEM.out HAH.out hi1 hi2 hb)
                  clear hi1 hi2 HY1 HY2 HBZ
                  generalize ((ltrs k (lower x)).1.drop p.i.toNat).flatten = s1 at *
                  generalize ((ltrs k2 (lower y)).1.drop p.j.toNat).flatten = s2 at *
                  obtain ⟨t0, t1, t2, t3, t4, t5⟩ := HTC.out _ HB5.out
                  go_wp2_with fail
                  refine K4.out.mono ?_
                  rintro e9 w6 ⟨d, er, A, nn, cc, B2, mm, c2, f, rfl, hbp, hb⟩
                  have HR6 := hide (bel_trans HR5.out hb)
                  have hl := HST.out d er hbp
                  clear K4 hbp hb t0 t1 t2 t3 t4 t5 HST
                  dsimp only
                  obtain ⟨dc, hdc⟩ : ∃ dc, dc = d.c := ⟨_, rfl⟩
                  rw [← hdc] at hl ⊢
                  clear hdc
                  have r7 := run_new (Run.begin w6) emp_ok #[.int .i64 dc, .slice A nn cc, .slice B2 mm c2, .string (bs f)] 47
                  have HR7 := hide (bel_trans HR6.out (r7.mod.below (fun _ _ h => h)))
                  have HS7 := hide (show (w6.alloc (.cells #[.int .i64 dc, .slice A nn cc, .slice B2 mm c2, .string (bs f)] 47)).drew.cell? ⟨w6.heap.size, 0, none⟩ = some (.int .i64 dc) ∧ (w6.alloc (.cells #[.int .i64 dc, .slice A nn cc, .slice B2 mm c2, .string (bs f)] 47)).drew.cell? ⟨b1, o1 + j * 5 + 4, none⟩ = some (.int .i64 p.h) from by
                    have h8 := r7.drew (star_ok cell_ok emp_ok)
                    obtain ⟨F, hF⟩ := h8.fst
                    exact ⟨cell_at (i := 0) hF rfl, (HP.out _ (bel_trans HR6.out (h8.mod.below (fun _ _ h => h)))).2.2.2.2⟩)
                  have HBZ := hide (bel_trans HBR.out (bel_trans HR6.out ((r7.drew (star_ok cell_ok emp_ok)).mod.below (fun _ _ h => h))))
                  have HL := hide hl
                  clear r7 hl
                  go_upto_region 14 with (fail)
                  generalize w6.alloc (.cells #[.int .i64 dc, .slice A nn cc, .slice B2 mm c2, .string (bs f)] 47) = w7 at *
                  generalize w6.heap.size = gd at *
                  rcases HL.out with rfl | ⟨rfl, hle⟩
                  · clear HL
                    refine wp_region_lex (fun W : World => W.cell? ⟨gd, 0, none⟩ = some (.int .i64 dc) ∧ W.cell? ⟨b1, o1 + j * 5 + 4, none⟩ = some (.int .i64 p.h)) (by kernel_rfl) (by kernel_rfl) HS7.out ?_
                    clear HS7
                    generalize w7.drew = w8 at *
                    (repeat (first | (refine lex_skip (by rfl) ?_; try simp only [Act.put, List.setIfInBounds_toArray, List.set_cons_zero, List.set_cons_succ]) | (refine lex_read (v := ?_) (by rfl) ?_ ?_; rotate_left; (focus (intro w' hS'; go_simp; (try with_reducible rfl); done)); try simp only [Act.put, List.setIfInBounds_toArray, List.set_cons_zero, List.set_cons_succ])))
                    refine lex_nil ?_
                    go_wp2_with fail
                    go_roundw
                    case rel => exact ⟨j + 1, m + 1, HLT.out, HMM.out, by go_num, by go_num, HBZ.out⟩
                    case measure => have := HLT.out; simp [intOf]; omega
                  · have t3 : decide (dc < p.h) = false := decide_eq_false (by omega)
                    clear HL hle
                    refine wp_region_lex (fun W : World => W.cell? ⟨gd, 0, none⟩ = some (.int .i64 dc) ∧ W.cell? ⟨b1, o1 + j * 5 + 4, none⟩ = some (.int .i64 p.h)) (by kernel_rfl) (by kernel_rfl) HS7.out ?_
                    clear HS7
                    generalize w7.drew = w8 at *
                    (repeat (first | (refine lex_skip (by rfl) ?_; try simp only [Act.put, List.setIfInBounds_toArray, List.set_cons_zero, List.set_cons_succ]) | (refine lex_read (v := ?_) (by rfl) ?_ ?_; rotate_left; (focus (intro w' hS'; go_simp; (try with_reducible rfl); done)); try simp only [Act.put, List.setIfInBounds_toArray, List.set_cons_zero, List.set_cons_succ])))
                    refine lex_nil ?_
                    go_wp2_with fail
                    go_roundw
                    case rel => exact ⟨j + 1, m + 1, HLT.out, HMM.out, by go_num, by go_num, HBZ.out⟩
                    case measure => have := HLT.out; simp [intOf]; omega
            · have e1 : (bs p.a).toList.isEmpty = false := by rw [List.isEmpty_eq_false_iff]; exact fun h => hah (bs_empty.1 h)
              have HBZ := hide HBR.out
              clear hah
              go_wp2_with fail
              go_roundw
              case rel => exact ⟨j + 1, m, HLT.out, Nat.le_of_lt HMM.out, by go_num, rfl, HBZ.out⟩
              case measure => have := HLT.out; simp [intOf]; omega
          · obtain rfl : m = 30 := by omega
            go_wp2
            go_ret
            exact bel_bool rfl (HBW.out _ HBE.out)
        · go_wp2
          go_ret
          exact bel_bool rfl (HBW.out _ HBE.out)
end Go.Proofs.YtnppgomhhcbplaaGreatDoor
namespace Go.Proofs.YtnppgomhhcbplaaGreatDoor
open Go.ChangeShapes Go.WideShapes Go.ChangeAt Go.RowKit Go.CH Go.CH.Scr Go.CH.Pot Go.Deep Go.Shelf Go.Lib
theorem caseX : CaseExtra Tryz.prog Tryz.lays262_ren := { n13 := by kernel_rfl, y13 := by kernel_rfl, c21 := by kernel_rfl, c51 := by kernel_rfl, c206 := by kernel_rfl, c208 := by kernel_rfl }
theorem u8X : U8Extra Tryz.prog Tryz.lays197_ren := { n3 := by kernel_rfl, n4 := by kernel_rfl, y3 := by kernel_rfl, y4 := by kernel_rfl, c5 := by kernel_rfl, c119 := by kernel_rfl, c138 := by kernel_rfl }
theorem lay274 : Lays.n274 Tryz.prog Tryz.lays262_ren := { Tryz.lays262 with }
theorem lay260 : Lays.n260 Tryz.prog Tryz.lays197_ren := { Tryz.lays197 with }
/-- The list of the rows. -/
def laidS : List (String × DataW Unit) := [("unicode/utf8.acceptRanges", Rows.laid_unicode_utf8_acceptRanges), ("unicode.CaseRanges", Rows.laid_unicode_CaseRanges), ("unicode/utf8.first", Rows.laid_unicode_utf8_first)]
theorem lz_of {w : World} (h : laidMetH Tryz.prog laidS w) (hs : w.ShapedOpen Tryz.prog) : LZ w := by
  rw [MakeChecks.laidMetH_plain _ _ _ (by kernel_rfl)] at h
  have h1 := laidMet.reads h (n := "unicode/utf8.acceptRanges") (d := Rows.laid_unicode_utf8_acceptRanges) (by simp [laidS])
  have h2 := laidMet.reads h (n := "unicode.CaseRanges") (d := Rows.laid_unicode_CaseRanges) (by simp [laidS])
  have h3 := laidMet.reads h (n := "unicode/utf8.first") (d := Rows.laid_unicode_utf8_first) (by simp [laidS])
  rw [show (Rows.laid_unicode_CaseRanges : DataW Unit) = caseData from Pinned.caseRanges_eq] at h2
  rw [show (Rows.laid_unicode_utf8_first : DataW Unit) = firstData from Pinned.utf8First_eq] at h3
  rw [show (Rows.laid_unicode_utf8_acceptRanges : DataW Unit) = acceptData by kernel_rfl] at h1
  exact ⟨caseVar_of_reads lay274 (by kernel_rfl) caseX h2, utf8Tabs_of_reads lay260 u8X h3 h1, Go.Proofs.cell_of_shapedOpen_int (P := Tryz.prog) (zero := #[.int .i64 0]) (t := 3) hs (of_decide_eq_true (by kernel_rfl)) (by kernel_rfl) rfl (by kernel_rfl) (by kernel_rfl) Tryz.underlying3⟩
/-- The wrap for a row that lists variables, the world's shape kept. -/
theorem returns_and_shaped {H : Type} {enc : TypeId × Value → H} {a : Assume} {C : Checked} {os : Os} {f : FuncId} {fn : Func} {s : ChangeSpec} {conds : List PathCond} {apart fresh handsOn again : Bool} {X : World → Array Value → Prop}
    (hX : ∀ (w w' : World) (args : Array Value), w.heap = w'.heap → X w args → X w' args)
    (own : ownKnob C.prog.godebug = none) (started : os.Started) (noInit : C.prog.inits.idxOf? f = none) (hfn : C.prog.funcs[f]? = some fn)
    (witness : ∃ (w : World) (tape : Tape) (i : Input), w.os = os ∧ (w.forCall tape i).Shaped C.prog ∧ i.vars = [] ∧ Input.okWide C.prog (w.forCall tape i) .any w.heap.size f i ∧
      ((s.pre enc C.prog fn conds apart (w.forCall tape i).memory i.args ∧ X (w.forCall tape i).memory i.args) ∧ sizedMet enc C.prog fn (OpenSpec.ofChange s) apart (w.forCall tape i).memory i.args) ∧ a.holds C.prog (lone (Frame.enter C.prog f i.args .normal) [] (w.forCall tape i)))
    (contract : ∀ (W : World) (base : Nat) (args : Array Value) (ds gs : List (DataW H)) (before : List MemPlace),
      (∀ (j : Nat) t v, fn.params[j]? = some t → args[j]? = some v → Value.okWide C.prog W .any base t v) →
      DataW.Whole enc C.prog fn.params.toList s.vars apart W args.toList ds gs before →
      X W args → W.ShapedOpen C.prog →
      Calls C.prog f args W fun e W' => ∃ v, e = .returned v ∧ s.post enc C.prog fn apart fresh handsOn again W args v W') :
    ReturnsInHanded a C os f .any (fun w args => (s.pre enc C.prog fn conds apart w args ∧ X w args) ∧ sizedMet enc C.prog fn (OpenSpec.ofChange s) apart w args) (s.post enc C.prog fn apart fresh handsOn again) := by
  refine returnsInHanded_of_calls own started noInit witness ?_
  intro w tape i _ hsh _ hok hpre hholds
  obtain ⟨_, _, _, fn', hfn', _, _, _, _, hval⟩ := hok
  have e : fn' = fn := Option.some.inj (hfn'.symm.trans hfn)
  subst e
  obtain ⟨⟨⟨ds, gs, before, hw, hc⟩, hx⟩, hz⟩ := hpre
  have hw' := DataW.Whole.of_heap (w' := w.forCall tape i) (by rfl) hw
  refine (contract (w.forCall tape i) w.heap.size i.args ds gs before hval hw' (hX _ _ _ (by rfl) hx) hsh).mono fun e W' ⟨v, he, hp⟩ => ?_
  subst he
  exact ChangeSpec.post_blind hp
section
variable {H : Type} {enc : TypeId × Value → H} {w : World} {base : Nat}
instance : Inhabited Rule := ⟨⟨0, [], [], 0⟩⟩
instance : Inhabited Drop := ⟨⟨0, [], 0⟩⟩
theorem each_rule : ∀ m cs y, DataW.trod enc Tryz.prog w base (fun _ => true) true m 41 cs = some y → ∃ R : Rule, cs = rcells R ∧ True := by
  intro m cs y h
  obtain ⟨hl, n, hf⟩ := open_fields Tryz.underlying41 (by kernel_rfl) (by kernel_rfl) h
  obtain ⟨v0, z0, c0, t0⟩ := hf 0 _ rfl
  obtain ⟨v1, z1, c1, t1⟩ := hf 1 _ rfl
  obtain ⟨v2, z2, c2, t2⟩ := hf 2 _ rfl
  obtain ⟨v3, z3, c3, t3⟩ := hf 3 _ rfl
  obtain ⟨x0, f0, -, -⟩ := DataW.trod_int Tryz.underlying3 t0
  obtain ⟨x1, f1, -⟩ := DataW.trod_string Tryz.underlying9 t1
  obtain ⟨x2, f2, -⟩ := DataW.trod_string Tryz.underlying9 t2
  obtain ⟨x3, f3, -, -⟩ := DataW.trod_int Tryz.underlying3 t3
  injection f0 with f0
  injection f1 with f1
  injection f2 with f2
  injection f3 with f3
  subst f0 f1 f2 f3
  refine ⟨⟨x0, bl x1, bl x2, x3⟩, ?_, trivial⟩
  have hl : cs.length = 4 := hl
  match cs, hl with
  | [a, b, c, d], _ =>
    simp at c0 c1 c2 c3
    subst c0 c1 c2 c3
    unfold rcells
    rw [bs_bl, bs_bl]
theorem each_drop : ∀ m cs y, DataW.trod enc Tryz.prog w base (fun _ => true) true m 109 cs = some y → ∃ d : Drop, cs = dcells d ∧ True := by
  intro m cs y h
  obtain ⟨hl, n, hf⟩ := open_fields Tryz.underlying109 (by kernel_rfl) (by kernel_rfl) h
  obtain ⟨v0, z0, c0, t0⟩ := hf 0 _ rfl
  obtain ⟨v1, z1, c1, t1⟩ := hf 1 _ rfl
  obtain ⟨v2, z2, c2, t2⟩ := hf 2 _ rfl
  obtain ⟨x0, f0, -, -⟩ := DataW.trod_int Tryz.underlying3 t0
  obtain ⟨x1, f1, -⟩ := DataW.trod_string Tryz.underlying9 t1
  obtain ⟨x2, f2, -, -⟩ := DataW.trod_int Tryz.underlying3 t2
  injection f0 with f0
  injection f1 with f1
  injection f2 with f2
  subst f0 f1 f2
  refine ⟨⟨x0, bl x1, x2⟩, ?_, trivial⟩
  have hl : cs.length = 3 := hl
  match cs, hl with
  | [a, b, c], _ =>
    simp at c0 c1 c2
    subst c0 c1 c2
    unfold dcells
    rw [bs_bl]
theorem each_pt : ∀ m cs y, DataW.trod enc Tryz.prog w base (fun _ => true) true m 37 cs = some y → ∃ p : Pt, cs = pcells p ∧ True := by
  intro m cs y h
  obtain ⟨hl, n, hf⟩ := open_fields Tryz.underlying37 (by kernel_rfl) (by kernel_rfl) h
  obtain ⟨v0, z0, c0, t0⟩ := hf 0 _ rfl
  obtain ⟨v1, z1, c1, t1⟩ := hf 1 _ rfl
  obtain ⟨v2, z2, c2, t2⟩ := hf 2 _ rfl
  obtain ⟨v3, z3, c3, t3⟩ := hf 3 _ rfl
  obtain ⟨v4, z4, c4, t4⟩ := hf 4 _ rfl
  obtain ⟨x0, f0, -, -⟩ := DataW.trod_int Tryz.underlying3 t0
  obtain ⟨x1, f1, -, -⟩ := DataW.trod_int Tryz.underlying3 t1
  obtain ⟨x2, f2, -⟩ := DataW.trod_string Tryz.underlying9 t2
  obtain ⟨x3, f3, -⟩ := DataW.trod_bool Tryz.underlying4 t3
  obtain ⟨x4, f4, -, -⟩ := DataW.trod_int Tryz.underlying3 t4
  injection f0 with f0
  injection f1 with f1
  injection f2 with f2
  injection f3 with f3
  injection f4 with f4
  subst f0 f1 f2 f3 f4
  refine ⟨⟨x0, x1, bl x2, x3, x4⟩, ?_, trivial⟩
  have hl : cs.length = 5 := hl
  match cs, hl with
  | [a, b, c, d, e], _ =>
    simp at c0 c1 c2 c3 c4
    subst c0 c1 c2 c3 c4
    unfold pcells
    rw [bs_bl]
theorem slice_form {t e : TypeId} {m : Nat} {v : Value} {y : DataW H × List MemPlace} (ht : Tryz.prog.underlying t = some (.slice e)) (h : DataW.trod enc Tryz.prog w 0 (fun _ => true) true m t [v] = some y) : ∃ A n c, v = .slice A n c := by
  rcases open_slice ht h with ⟨h0, _⟩ | ⟨a, len, cap, _, _, _, _, hv, _⟩
  · injection h0 with h0
    exact ⟨none, 0, 0, h0⟩
  · injection hv with hv
    exact ⟨some a, len, cap, hv⟩
theorem open_rules {m : Nat} {v : Value} {y : DataW H × List MemPlace} (h : DataW.trod enc Tryz.prog w 0 (fun _ => true) true m 22 [v] = some y) :
    ∃ (A : Option Addr) (c : Nat) (l : List Rule), v = .slice A l.length c ∧ RulesR w A l ∧ l.length ≤ c := by
  obtain ⟨A, n, c, rfl⟩ := slice_form Tryz.underlying22 h
  obtain ⟨xs, h1, h2, h3, h4, h5⟩ := open_src (P := Tryz.prog) (t := 22) (e := 41) (A := A) (n := n) (c := c) (d := y.1) (ps := y.2) (size := 4) rcells (fun _ => True) Tryz.underlying22 (by kernel_rfl) (by decide) each_rule (fun R _ u hu => by simp [rcells] at hu; rcases hu with rfl | rfl | rfl | rfl <;> rfl) ⟨m, by simpa [Value.cells] using h⟩
  subst h1
  exact ⟨A, c, xs, rfl, h2, h4⟩
theorem open_drops {m : Nat} {v : Value} {y : DataW H × List MemPlace} (h : DataW.trod enc Tryz.prog w 0 (fun _ => true) true m 23 [v] = some y) :
    ∃ (A : Option Addr) (c : Nat) (l : List Drop), v = .slice A l.length c ∧ DropsR w A l ∧ l.length ≤ c := by
  obtain ⟨A, n, c, rfl⟩ := slice_form Tryz.underlying23 h
  obtain ⟨xs, h1, h2, h3, h4, h5⟩ := open_src (P := Tryz.prog) (t := 23) (e := 109) (A := A) (n := n) (c := c) (d := y.1) (ps := y.2) (size := 3) dcells (fun _ => True) Tryz.underlying23 (by kernel_rfl) (by decide) each_drop (fun R _ u hu => by simp [dcells] at hu; rcases hu with rfl | rfl | rfl <;> rfl) ⟨m, by simpa [Value.cells] using h⟩
  subst h1
  exact ⟨A, c, xs, rfl, h2, h4⟩
/-- A certificate that came in. -/
theorem open26 {A : Option Addr} {n c : Nat} {d : DataW H} {ps : List MemPlace} (h : DataW.Trod enc Tryz.prog w 0 (fun _ => true) true 26 (.slice A n c) d ps) : ∃ C : List Pt, C.length = n ∧ PtsR w A C ∧ n ≤ c := by
  obtain ⟨xs, h1, h2, h3, h4, h5⟩ := open_src (P := Tryz.prog) (t := 26) (e := 37) (size := 5) pcells (fun _ => True) Tryz.underlying26 (by kernel_rfl) (by decide) each_pt (fun R _ u hu => pcells_one [R] u (by simpa using hu)) h
  refine ⟨xs, h1, ?_, h4⟩
  unfold PtsR Rst
  rw [h1]; exact h2
theorem len6 {cs : List Value} (h : cs.length = 6) : ∃ a b c d e f, cs = [a, b, c, d, e, f] := by
  match cs, h with
  | [a, b, c, d, e, f], _ => exact ⟨a, b, c, d, e, f, rfl⟩
/-- A table that came in. -/
structure TZ where
  T : Tab
  a : TA
def TzOk (w : World) (z : TZ) : Prop := TabZ w z.T z.a ∧ z.T.rs.length ≤ z.a.c
set_option maxRecDepth 100000 in
theorem open25 {r : Reach} {b0 : Nat} {v : Value} {d : DataW H} {ps : List MemPlace} (hok : Value.okWide Tryz.prog w r b0 25 v) (h : DataW.Trod enc Tryz.prog w 0 (fun _ => true) true 25 v d ps) : ∃ z : TZ, v = tabV z.T z.a ∧ TzOk w z := by
  obtain ⟨cs, rfl, hsz⟩ := okWide_struct Tryz.underlying25 hok
  obtain ⟨m, hm⟩ := h
  obtain ⟨xs, n, _, _, hl, hxl, hf⟩ := DataW.trod_struct Tryz.underlying25 hm
  have hl6 := hl.trans (by kernel_rfl : _ = 6)
  obtain ⟨a0, a1, a2, a3, a4, a5, ha⟩ := len6 hl6
  have hxl6 : xs.length = 6 := hxl
  have ex : ∀ i (hi : i < 6), xs[i]? = some (xs[i]'(by omega)) := fun i hi => List.getElem?_eq_getElem (by omega)
  have s3 : Tryz.prog.cellsOf 3 = 1 := by kernel_rfl
  have s22 : Tryz.prog.cellsOf 22 = 1 := by kernel_rfl
  have s23 : Tryz.prog.cellsOf 23 = 1 := by kernel_rfl
  have t0 := (hf 0 _ rfl).trans (ex 0 (by omega))
  have t1 := (hf 1 _ rfl).trans (ex 1 (by omega))
  have t2 := (hf 2 _ rfl).trans (ex 2 (by omega))
  have t3 := (hf 3 _ rfl).trans (ex 3 (by omega))
  have t4 := (hf 4 _ rfl).trans (ex 4 (by omega))
  have t5 := (hf 5 _ rfl).trans (ex 5 (by omega))
  rw [ha] at t0 t1 t2 t3 t4 t5
  have t0' : DataW.trod enc Tryz.prog w 0 (fun _ => true) true n 22 (([a0, a1, a2, a3, a4, a5].drop 0).take (Tryz.prog.cellsOf 22)) = some (xs[0]'(by omega)) := t0
  have t1' : DataW.trod enc Tryz.prog w 0 (fun _ => true) true n 23 (([a0, a1, a2, a3, a4, a5].drop 1).take (Tryz.prog.cellsOf 23)) = some (xs[1]'(by omega)) := t1
  have t2' : DataW.trod enc Tryz.prog w 0 (fun _ => true) true n 23 (([a0, a1, a2, a3, a4, a5].drop 2).take (Tryz.prog.cellsOf 23)) = some (xs[2]'(by omega)) := t2
  have t3' : DataW.trod enc Tryz.prog w 0 (fun _ => true) true n 3 (([a0, a1, a2, a3, a4, a5].drop 3).take (Tryz.prog.cellsOf 3)) = some (xs[3]'(by omega)) := t3
  have t4' : DataW.trod enc Tryz.prog w 0 (fun _ => true) true n 3 (([a0, a1, a2, a3, a4, a5].drop 4).take (Tryz.prog.cellsOf 3)) = some (xs[4]'(by omega)) := t4
  have t5' : DataW.trod enc Tryz.prog w 0 (fun _ => true) true n 3 (([a0, a1, a2, a3, a4, a5].drop 5).take (Tryz.prog.cellsOf 3)) = some (xs[5]'(by omega)) := t5
  simp only [s3, s22, s23, List.drop, List.take] at t0' t1' t2' t3' t4' t5'
  obtain ⟨A, ac, rs, f0, k0, k0'⟩ := open_rules t0'
  obtain ⟨D, dc, ds, f1, k1, -⟩ := open_drops t1'
  obtain ⟨E, ec, es, f2, k2, -⟩ := open_drops t2'
  obtain ⟨x3, f3, -, -⟩ := DataW.trod_int Tryz.underlying3 t3'
  obtain ⟨x4, f4, -, -⟩ := DataW.trod_int Tryz.underlying3 t4'
  obtain ⟨x5, f5, -, -⟩ := DataW.trod_int Tryz.underlying3 t5'
  injection f3 with f3
  injection f4 with f4
  injection f5 with f5
  subst f0 f1 f2 f3 f4 f5
  refine ⟨⟨⟨rs, ds, es, x3, x4, x5⟩, ⟨A, ac, D, dc, E, ec⟩⟩, ?_, ⟨k0, k1, k2⟩, k0'⟩
  have : cs = #[.slice A rs.length ac, .slice D ds.length dc, .slice E es.length ec, .int .i64 x3, .int .i64 x4, .int .i64 x5] := by
    apply Array.toList_inj.1
    simpa [Value.cells] using ha
  rw [this]; rfl
end
end Go.Proofs.YtnppgomhhcbplaaGreatDoor
namespace Go.Proofs.YtnppgomhhcbplaaGreatDoor
open Go.RowKit Go.CH Go.CH.Scr Go.CH.Pot
open Go.ChangeMaps (setBlock)
theorem ixeq_any {w : World} {y : RA} {gi : Nat} {k : Int} (h : w.cell? ⟨gi, 0, none⟩ = some (.int .i64 k)) :
    Calls Tryz.prog 72 #[.agg (acells y).toArray, .pointer (some ⟨gi, 0, none⟩)] w (BelowRet w (.bool (decide ((y.r.ix : Int) = k)))) := by
  obtain ⟨⟨ix, c, f, t⟩, A, n⟩ := y
  have h1 := run_new (Run.begin w) emp_ok #[.int .i64 (ix : Nat), .int .i64 c, .slice A f.length n, .string (bs t)] 101
  have HB := hide (show Below w.heap.size w (w.alloc (.cells #[.int .i64 (ix : Nat), .int .i64 c, .slice A f.length n, .string (bs t)] 101)) from h1.mod.below (fun _ _ h => h))
  have q0 : (w.alloc (.cells #[.int .i64 (ix : Nat), .int .i64 c, .slice A f.length n, .string (bs t)] 101)).cell? ⟨gi, 0, none⟩ = some (.int .i64 k) := by rw [HB.out.cell (World.block_lt_of_cell? _ _ h)]; exact h
  clear h
  unfold acells
  dsimp only
  by_cases hk : (ix : Int) = k
  · have t1 : ((ix : Int) == k) = true := by simp [hk]
    rw [decide_eq_true hk]
    clear hk h1
    go_enter Tryz.func72, Tryz.ntmps72
    go_wp2
    go_ret
    exact ⟨rfl, HB.out⟩
  · have t1 : ((ix : Int) == k) = false := by simp [hk]
    rw [decide_eq_false hk]
    clear hk h1
    go_enter Tryz.func72, Tryz.ntmps72
    go_wp2
    go_ret
    exact ⟨rfl, HB.out⟩
/-- The place of a rule. -/
def ixN (q : List RA) (k : Int) : Int := match q.findIdx? (fun y => decide ((y.r.ix : Int) = k)) with
  | none => -1
  | some j => j
theorem ixN_none {q : List RA} {k : Int} (h : ∀ j (hj : j < q.length), (q[j].r.ix : Int) ≠ k) : ixN q k = -1 := by
  unfold ixN
  rw [List.findIdx?_eq_none_iff.2 (fun y hy => by
    obtain ⟨j, hj, rfl⟩ := List.mem_iff_getElem.1 hy
    exact decide_eq_false (h j hj))]
theorem ixN_some {q : List RA} {k : Int} {j : Nat} (hj : j < q.length) (h1 : (q[j].r.ix : Int) = k) (h : ∀ i (hi : i < j), (q[i].r.ix : Int) ≠ k) : ixN q k = j := by
  unfold ixN
  rw [List.findIdx?_eq_some_iff_getElem.2 ⟨hj, decide_eq_true h1, fun i hi => by simpa using h i hi⟩]
theorem ixN_cases (q : List RA) (k : Int) : (ixN q k = -1 ∧ (q.map (·.r)).find? (fun r => decide ((r.ix : Int) = k)) = none) ∨ ∃ j, ∃ hj : j < q.length, ixN q k = j ∧ (q.map (·.r)).find? (fun r => decide ((r.ix : Int) = k)) = some q[j].r := by
  cases hf : q.findIdx? (fun y => decide ((y.r.ix : Int) = k)) with
  | none =>
    refine .inl ⟨by unfold ixN; rw [hf], ?_⟩
    rw [List.find?_eq_none]
    intro r hr
    obtain ⟨y, hy, rfl⟩ := List.mem_map.1 hr
    have := List.findIdx?_eq_none_iff.1 hf y hy
    simpa using this
  | some j =>
    obtain ⟨hj, h1, h2⟩ := List.findIdx?_eq_some_iff_getElem.1 hf
    refine .inr ⟨j, hj, by unfold ixN; rw [hf], ?_⟩
    rw [List.find?_eq_some_iff_getElem]
    refine ⟨h1, j, by simpa using hj, by simp, fun i hi => ?_⟩
    have := h2 i hi
    simpa using this
set_option maxHeartbeats 6400000 in
set_option maxRecDepth 100000 in
theorem index_any {w : World} {R : Option Addr} {rc : Nat} {q : List RA} {gi : Nat} {k : Int} (hR : ArsR w R q) (hq : q.length ≤ 1000000) (h : w.cell? ⟨gi, 0, none⟩ = some (.int .i64 k)) :
    Calls Tryz.prog 71 #[.slice R q.length rc, .func (.func 72) #[] #[.pointer (some ⟨gi, 0, none⟩)]] w (BelowRet w (.int .i64 (ixN q k))) := by
  have KI := hide (fun W (hb : Below w.heap.size w W) y => ixeq_any (w := W) (y := y) (gi := gi) (k := k) (by rw [hb.cell (World.block_lt_of_cell? _ _ h)]; exact h))
  have HR := hide hR
  have HQ := hide hq
  have HB0 := hide (Below.refl w.heap.size w)
  clear hR hq h
  obtain ⟨N, hN⟩ : ∃ N, N = q.length := ⟨_, rfl⟩
  have HN := hide hN
  rw [← hN]
  clear hN
  go_enter Tryz.func71, Tryz.ntmps71
  go_wp2_with fail
  go_loopw [8] (fun i wr => ∃ j : Nat, j ≤ N ∧ i = .int .i64 j ∧ (∀ i (hi : i < q.length), i < j → (q[i].r.ix : Int) ≠ k) ∧ Below w.heap.size w wr) (fun i _ => N - (intOf i).toNat)
  case atStart => exact ⟨0, Nat.zero_le _, rfl, fun i _ h => absurd h (Nat.not_lt_zero _), HB0.out⟩
  case round =>
    obtain ⟨j, hj, rfl, hno, hbel⟩ := hrel
    have HBE := hide hbel
    have HNO := hide hno
    clear hbel hno
    by_cases hlt : j < N
    · have hjq : j < q.length := by rw [← HN.out]; exact hlt
      have HLT := hide hlt
      obtain ⟨b, o, rfl, hc⟩ := Rst.at (R := acells) (fun _ => rfl) (by omega) HR.out (by omega)
      have r0 := hc wr HBE.out j hjq 0 _ rfl
      have r1 := hc wr HBE.out j hjq 1 _ rfl
      have r2 := hc wr HBE.out j hjq 2 _ rfl
      have r3 := hc wr HBE.out j hjq 3 _ rfl
      simp only [Nat.add_zero] at r0
      have hjb : (j : Int) < 1000000 := by have := HQ.out; omega
      have K1 := hide (KI.out wr HBE.out q[j])
      have HYS := hide (fun h => ixN_some hjq h (fun i hi => HNO.out i (by omega) hi) : (q[j].r.ix : Int) = k → _)
      have HNS := hide (show (q[j].r.ix : Int) ≠ k → ∀ i (hi : i < q.length), i < j + 1 → (q[i].r.ix : Int) ≠ k from fun h i hi hij => by
        by_cases e : i = j
        · subst e; exact h
        · exact HNO.out i hi (by omega))
      clear hc
      generalize q[j] = y at *
      obtain ⟨⟨ix, c, f, t⟩, A, n⟩ := y
      unfold acells at K1
      dsimp only at K1 r0 r1 r2 r3 HYS HNS
      go_wp2_with fail
      refine K1.out.mono ?_
      rintro e9 w4 ⟨rfl, hb⟩
      have HB4 := hide (bel_trans HBE.out hb)
      clear K1 hb r0 r1 r2 r3
      dsimp only
      by_cases hk : (ix : Int) = k
      · have HV := hide (HYS.out hk)
        rw [decide_eq_true hk]
        clear hk
        go_wp2
        go_ret
        rw [HV.out]
        exact ⟨rfl, HB4.out⟩
      · have HV := hide (HNS.out hk)
        rw [decide_eq_false hk]
        clear hk
        go_wp2
        go_roundw
        case rel => exact ⟨j + 1, HLT.out, by go_num, HV.out, HB4.out⟩
        case measure => have := HLT.out; simp [intOf]; omega
    · have HV := hide (show ixN q k = -1 from ixN_none (fun i hi => HNO.out i hi (by have := HN.out; omega)))
      go_wp2
      go_ret
      rw [HV.out]
      exact ⟨rfl, HBE.out⟩
end Go.Proofs.YtnppgomhhcbplaaGreatDoor
