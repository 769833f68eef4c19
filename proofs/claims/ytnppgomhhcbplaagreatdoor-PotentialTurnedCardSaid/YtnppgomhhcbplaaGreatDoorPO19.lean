/-
  Potential: the law Dearer.
  Potential: what a row's condition says of the library's tables; tables and certificates that came in, opened.
-/
import Derived.Test.YtnppgomhhcbplaaGreatDoorPO18
import Derived.Test.YtnppgomhhcbplaaGreatDoorPO6
import Derived.Test.YtnppgomhhcbplaaGreatDoorRows
import Derived.PinnedBridge
import Derived.Lib.LaidCase
import Derived.Lib.LaidU8
import Derived.HandedShaped
import Derived.LaidMore
import Derived.Lay
import Derived.SevenTiedAt
import Derived.Stop.Joined
import Derived.WalkKit
import Derived.ProofKit
import Derived.OpenShut
import Derived.ShutString
set_option linter.unusedSimpArgs false
set_option linter.unusedVariables false
namespace Go.Proofs.YtnppgomhhcbplaaGreatDoor
open Go.RowKit Go.CH Go.CH.Scr Go.CH.Pot
open Go.ChangeMaps (setBlock)
theorem ru_some {w : World} {F : Nat → Prop} {A : Option Addr} {c n : Nat} {l : List Rule} (h : RuO A c l w F) (hn : l.length = n) (h0 : 0 < n) : ∃ g, A = some ⟨g, 0, none⟩ := by
  rcases h.1.2 with ⟨-, e1⟩ | ⟨g', cap, cur, e1, -⟩
  · omega
  · injection e1 with e2
    exact ⟨g', e2⟩
theorem ru_cell {w : World} {F : Nat → Prop} {g c i : Nat} {l : List Rule} {v : Value} (h : RuO (some ⟨g, 0, none⟩) c l w F) (hv : (l.flatMap rcells)[i]? = some v) : w.cell? ⟨g, i, none⟩ = some v ∧ w.frozen? ⟨g, i, none⟩ = false := by
  rcases h.1.2 with ⟨e1, -⟩ | ⟨g', cap, cur, e1, -, hg, -, -, -, ht⟩
  · cases e1
  · injection e1 with e2 e3 e4
    injection e2 with e2; injection e2 with e2
    subst e2
    rw [← ht, List.getElem?_take] at hv
    split at hv
    · rw [Array.getElem?_toList] at hv
      simp only [World.cell?, World.frozen?, hg]
      exact ⟨by rw [hv]; rfl, by simp⟩
    · cases hv
theorem flat_set (l : List Rule) (k : Nat) (hk : k < l.length) (v : Int) : (l.flatMap rcells).set (k * 4 + 3) (.int .i64 v) = (l.set k { l[k] with c := v }).flatMap rcells := by
  apply List.ext_getElem?
  intro t
  have hlen : ∀ l : List Rule, (l.flatMap rcells).length = l.length * 4 := fun l => CH.flat_len (R := rcells) (size := 4) (fun _ => rfl) l
  by_cases ht : t < l.length * 4
  · have h1 : t / 4 < l.length := by omega
    have h2 : t % 4 < 4 := by omega
    have h3 : t / 4 * 4 + t % 4 = t := by omega
    have e1 := flat_get_ (R := rcells) (size := 4) (fun _ => rfl) (l := l) h1 h2
    have e2 := flat_get_ (R := rcells) (size := 4) (fun _ => rfl) (l := l.set k { l[k] with c := v }) (j := t / 4) (by rw [List.length_set]; exact h1) h2
    rw [h3] at e1 e2
    rw [e2, List.getElem?_set, hlen]
    by_cases hkt : k = t / 4
    · subst hkt
      rw [List.getElem_set_self]
      by_cases h4 : t % 4 = 3
      · rw [if_pos (by omega), if_pos (by omega), h4]; rfl
      · rw [if_neg (by omega), e1]
        have : t % 4 = 0 ∨ t % 4 = 1 ∨ t % 4 = 2 := by omega
        rcases this with h | h | h <;> rw [h] <;> rfl
    · rw [if_neg (by omega), e1, List.getElem_set_ne hkt]
  · rw [List.getElem?_eq_none (by rw [List.length_set, hlen]; omega), List.getElem?_eq_none (by rw [hlen, List.length_set]; omega)]
set_option maxHeartbeats 6400000 in
set_option maxRecDepth 100000 in
theorem law_dearer_any {w : World} {T : Tab} {a : TA} (hT : TabZ w T a) (hz : LZ w) (k : Int) (x : Bs) (k2 : Int) (y : Bs) (bound : Int) {B : Option Addr} {c : Nat} {C : List Pt} (hC : PtsR w B C) (raw more : Nat) (hraw : raw < 256) (hmore : more < 65536) (hcap : T.rs.length ≤ a.c) :
    Calls Tryz.prog 6 #[tabV T a, .int .i64 k, .string (bs x), .int .i64 k2, .string (bs y), .int .i64 bound, .slice B C.length c, .int .u8 raw, .int .u16 more] w (BelowRet w (.bool true)) := by
  have HT := hide hT
  have HZ := hide hz
  have HC := hide hC
  have h1 : Run (fun _ => False) w (star (CellO w.heap.size (tabC T a) 25) emp) _ := run_new (Run.begin w) emp_ok _ 25
  have HB := hide (h1.mod.below (fun _ _ h => h))
  have HTC := hide (fun W (h : Below (w.alloc (.cells (tabC T a) 25)).heap.size (w.alloc (.cells (tabC T a) 25)) W) => (show W.cell? ⟨w.heap.size, 0, none⟩ = some (.slice a.A T.rs.length a.c) ∧ W.cell? ⟨w.heap.size, 1, none⟩ = some (.slice a.D T.ds.length a.d) ∧ W.cell? ⟨w.heap.size, 2, none⟩ = some (.slice a.E T.es.length a.e) ∧ W.cell? ⟨w.heap.size, 3, none⟩ = some (.int .i64 T.drop) ∧ W.cell? ⟨w.heap.size, 4, none⟩ = some (.int .i64 T.ord) ∧ W.cell? ⟨w.heap.size, 5, none⟩ = some (.int .i64 T.ini) from by
    obtain ⟨f, hf⟩ := (h1.below (star_ok cell_ok emp_ok) h).fst
    exact ⟨cell_at hf rfl, cell_at hf rfl, cell_at hf rfl, cell_at hf rfl, cell_at hf rfl, cell_at hf rfl⟩))
  have KH := hide (head_any (w.alloc (.cells (tabC T a) 25)) (hz.below HB.out))
  clear hT hz h1 hC
  unfold tabV
  unfold tabC at HB HTC KH ⊢
  generalize hn1 : T.rs.length = n1 at *
  generalize hn2 : T.ds.length = n2 at *
  generalize hn3 : T.es.length = n3 at *
  have HN := hide (show tabV T a = .agg #[.slice a.A n1 a.c, .slice a.D n2 a.d, .slice a.E n3 a.e, .int .i64 T.drop, .int .i64 T.ord, .int .i64 T.ini] from by unfold tabV tabC; rw [hn1, hn2, hn3])
  clear hn1 hn2 hn3
  generalize hnc : C.length = nc at *
  have HNC := hide hnc
  clear hnc
  go_enter Tryz.func6, Tryz.ntmps6
  go_wp2_with fail
  refine KH.out.mono ?_
  rintro e9 w1 ⟨rfl, hb1⟩
  generalize w.alloc (.cells #[.slice a.A n1 a.c, .slice a.D n2 a.d, .slice a.E n3 a.e, .int .i64 T.drop, .int .i64 T.ord, .int .i64 T.ini] 25) = wb at *
  obtain ⟨gt, hgt⟩ : ∃ gt, gt = w.heap.size := ⟨_, rfl⟩
  have HBW := hide (fun W (h : Below wb.heap.size wb W) => HB.out.trans (h.mono HB.out.size))
  have HZW := hide (fun W (h : Below wb.heap.size wb W) => HZ.out.below (HBW.out W h))
  have HTW := hide (fun W (h : Below wb.heap.size wb W) => HT.out.below (HBW.out W h))
  have HB1 := hide hb1
  have HCW := hide (fun W (h : Below wb.heap.size wb W) => Rst.below HC.out (HBW.out W h))
  have KF := hide (few_any (c := c) (HTW.out w1 hb1) (HCW.out w1 hb1) x y)
  rw [HN.out, HNC.out] at KF
  obtain ⟨t0, t1, t2, t3, t4, t5⟩ := HTC.out _ hb1
  clear KH hb1 HT HZ HB HC
  dsimp only
  cases hf : fewN T x y C with
  | false =>
    simp only [hf] at KF
    clear hf
    go_wp2_with fail
    refine KF.out.mono ?_
    rintro e9 w2 ⟨rfl, hb⟩
    have HB2 := hide (bel_trans HB1.out hb)
    clear KF hb t0 t1 t2 t3 t4 t5
    dsimp only
    go_wp2
    go_ret
    exact bel_bool rfl (HBW.out _ HB2.out)
  | true =>
    simp only [hf] at KF
    have HF := hide (fewN_iff.1 hf)
    clear hf
    go_wp2_with fail
    refine KF.out.mono ?_
    rintro e9 w2 ⟨rfl, hb⟩
    have HB2 := hide (bel_trans HB1.out hb)
    clear KF hb t0 t1 t2 t3 t4 t5
    dsimp only
    obtain ⟨t0, t1, t2, t3, t4, t5⟩ := HTC.out _ HB2.out
    by_cases hn0 : n1 = 0
    · have hn2i : ((n1 : Int) == 0) = true := by simp [hn0]
      clear hn0
      go_wp2
      go_ret
      exact bel_bool rfl (HBW.out _ HB2.out)
    · have hn2i : ((n1 : Int) == 0) = false := by simp [hn0]
      have HSM := hide (show C.length ≤ 1000000 ∧ ∀ p ∈ C, p.a.length ≤ 1000000 from by
        obtain ⟨⟨-, -, -, g4⟩, -, -, -, g5⟩ := fewT_iff.1 HF.out.1
        exact ⟨by omega, fun p hp => by have := short_iff.1 (g5 p hp); omega⟩)
      have K1 := hide (check_any (c := c) ((HTW.out w2 HB2.out).few HF.out.1) (HZW.out w2 HB2.out) k x k2 y bound (by have := HF.out.2.1; omega) (by have := HF.out.2.2; omega) (HCW.out w2 HB2.out) HSM.out.1 HSM.out.2)
      rw [HN.out, HNC.out] at K1
      go_wp2_with fail
      refine K1.out.mono ?_
      rintro e9 w3 ⟨b1, rfl, hiff, hb⟩
      have HB3 := hide (bel_trans HB2.out hb)
      have HI1 := hide hiff
      clear K1 hiff hb t0 t1 t2 t3 t4 t5
      dsimp only
      cases b1 with
      | false =>
        go_wp2
        go_ret
        exact bel_bool rfl (HBW.out _ HB3.out)
      | true =>
        have HCK := hide (HI1.out.1 rfl)
        clear HI1
        obtain ⟨t0, t1, t2, t3, t4, t5⟩ := HTC.out _ HB3.out
        have hne2 : ¬ (n1 : Int) = 0 := by omega
        have HN1 := hide (show T.rs.length = n1 from by have h := HN.out; unfold tabV tabC at h; simp at h; exact h.1)
        obtain ⟨kk, hkk⟩ : ∃ kk : Nat, kk = raw % n1 := ⟨_, rfl⟩
        have hkl : kk < n1 := by rw [hkk]; exact Nat.mod_lt _ (by omega)
        have hke : (raw : Int) % (n1 : Int) = (kk : Int) := by rw [hkk]; rfl
        have HSML := hide (show n1 ≤ 60 from by rw [← HN1.out]; exact (fewT_iff.1 HF.out.1).1.1)
        go_upto_region 6 with (fail)
        rw [hke]
        clear hke hkk t0 t1 t2 t3 t4 t5 hn2i
        have h4 := run_new (Run.begin w3) emp_ok #[.slice a.A n1 a.c, .slice a.D n2 a.d, .slice a.E n3 a.e, .int .i64 T.drop, .int .i64 T.ord, .int .i64 T.ini] 25
        have H4 := hide h4
        have HX3 := hide HB3.out
        clear h4
        generalize hw4 : w3.alloc (.cells #[.slice a.A n1 a.c, .slice a.D n2 a.d, .slice a.E n3 a.e, .int .i64 T.drop, .int .i64 T.ord, .int .i64 T.ini] 25) = w4 at *
        generalize w3.heap.size = g21 at H4 ⊢
        clear hw4
        have HB4 := hide (bel_trans HX3.out (H4.out.mod.below (fun _ _ h => h)))
        have H6 := hide (show Run (fun _ => False) w3 (star (RuO (some ⟨w4.heap.size, 0, none⟩) 0 []) (star (CellO g21 #[.slice a.A n1 a.c, .slice a.D n2 a.d, .slice a.E n3 a.e, .int .i64 T.drop, .int .i64 T.ord, .int .i64 T.ini] 25) emp)) _ from H4.out.fresh (star_ok cell_ok emp_ok) (row_made w4 41 4))
        have HB6 := hide (bel_trans HX3.out (H6.out.mod.below (fun _ _ h => h)))
        obtain ⟨t0, -, -, -, -, -⟩ := HTC.out _ HB6.out
        go_wp2_with (at_builtin; refine held ?_)
        have hrs := (HTW.out _ HB6.out).rs
        refine Held.mk (wpList_plain rfl fun K hK => app_rules (.tmp 54) (.tmp 56) rfl (n := 0) (m := n1) (l := []) (r := T.rs) rfl HN1.out rfl rfl (by have := HSML.out; omega) (star_ok cell_ok emp_ok) hrs H6.out fun A9 c9 w7 hr7 => hK _ _ ?_)
        rw [List.nil_append] at hr7
        have H7 := hide hr7
        obtain ⟨f7, hf7⟩ := hr7.drop.fst
        have q0 := cell_at (v := .slice a.A n1 a.c) (i := 0) hf7 rfl
        have qf := cell_free hf7 0
        have h8 : Run (fun _ => False) w3 (star (CellO g21 #[.slice A9 n1 c9, .slice a.D n2 a.d, .slice a.E n3 a.e, .int .i64 T.drop, .int .i64 T.ord, .int .i64 T.ini] 25) (star (RuO A9 c9 T.rs) emp)) _ := run_setc hr7.rot (star_ok ru_ok emp_ok) 0 (.slice A9 n1 c9)
        have H8 := hide h8
        clear hr7 hf7 h8 H6 HB6 hrs H7 t0
        go_upto_region 7 with (fail)
        obtain ⟨F9, hF9⟩ := H8.out.drop.fst
        obtain ⟨g9, rfl⟩ := ru_some hF9 HN1.out (by omega)
        have hkT : kk < T.rs.length := by rw [HN1.out]; exact hkl
        obtain ⟨cc, hcc⟩ : ∃ cc, cc = T.rs[kk].c := ⟨_, rfl⟩
        have hcost : 0 ≤ cc ∧ cc ≤ 1000 := by
          have hv := (okW_iff.1 HCK.out.1).2.2
          have h := (rulesN_iff.1 (validT_iff.1 hv).2.1).2 T.rs[kk] (List.getElem_mem hkT)
          rw [hcc]
          exact costN_iff.1 (ruleN_iff.1 h).2.2
        have HCC := hide hcc
        clear hcc hF9
        have okN : (star (CellO g21 #[.slice (some ⟨g9, 0, none⟩) n1 c9, .slice a.D n2 a.d, .slice a.E n3 a.e, .int .i64 T.drop, .int .i64 T.ord, .int .i64 T.ini] 25) (star (RuO (some ⟨g9, 0, none⟩) c9 T.rs) emp)).Ok := star_ok cell_ok (star_ok ru_ok emp_ok)
        have H9 := hide (H8.out.drew okN)
        have hat : (T.rs.flatMap rcells)[kk * 4 + 3]? = some (.int .i64 cc) := by rw [flat_get_ (R := rcells) (size := 4) (fun _ => rfl) hkT (by omega), HCC.out]; rfl
        obtain ⟨fa, hfa⟩ := H9.out.fst
        obtain ⟨fb, hfb⟩ := H9.out.drop.fst
        obtain ⟨u0, u1⟩ := ru_cell hfb hat
        have hS0 : (fun W : World => W.cell? ⟨g21, 0, none⟩ = some (.slice (some ⟨g9, 0, none⟩) n1 c9) ∧ W.cell? ⟨g9, kk * 4 + 3, none⟩ = some (.int .i64 cc)) _ := ⟨cell_at hfa rfl, u0⟩
        have HS0 := hide hS0
        have tw : IntKind.i64.wrap (cc + (more : Int)) = cc + (more : Int) := IntWalk.i64_in _ (by omega)
        obtain ⟨fc, hfc, -, bk⟩ := H9.out.rot.take ru_ok (star_ok cell_ok emp_ok)
        have h10 := bk _ _ (row_set hfc (i := kk * 4 + 3) (by omega) (.int .i64 (min 1000 (cc + (more : Int)))))
        have hset : RowO 41 4 (.slice (some ⟨g9, 0, none⟩) T.rs.length c9) T.rs.length ((T.rs.flatMap rcells).set (kk * 4 + 3) (.int .i64 (min 1000 (cc + (more : Int))))) = RuO (some ⟨g9, 0, none⟩) c9 (T.rs.set kk (dearR T.rs[kk] more)) := by
          unfold RuO
          rw [flat_set _ _ hkT, List.length_set, HCC.out]; rfl
        rw [hset] at h10
        have H10 := hide h10
        have HB10 := hide (bel_trans HX3.out (h10.mod.below (fun _ _ h => h)))
        clear okN hfa hfb hfc bk h10 hset hat hS0 H8 H9 u0
        generalize w7.setCell ⟨g21, 0, none⟩ (.slice (some ⟨g9, 0, none⟩) n1 c9) = w8 at *
        refine wp_region_ley (fun W : World => W.cell? ⟨g21, 0, none⟩ = some (.slice (some ⟨g9, 0, none⟩) n1 c9) ∧ W.cell? ⟨g9, kk * 4 + 3, none⟩ = some (.int .i64 cc)) rfl (by kernel_rfl) (by kernel_rfl) HS0.out ?_
        have hS0 := HS0.out
        clear HS0
        generalize w8.drew = w9 at *
        obtain ⟨u0, u2⟩ := hS0
        (repeat (first | (refine ley_skip (by rfl) ?_; try simp only [Act.put, List.setIfInBounds_toArray, List.set_cons_zero, List.set_cons_succ]) | (refine ley_read (v := ?_) (by rfl) ?_ ?_; rotate_left; (focus (intro w' hS'; go_simp; (try with_reducible rfl); done)); try simp only [Act.put, List.setIfInBounds_toArray, List.set_cons_zero, List.set_cons_succ])))
        refine ley_last rfl (by rfl) (fun K hK => ?_)
        go_wp2_with fail
        refine hK.out _ _ ?_
        clear hK u0 u1 u2 tw
        generalize w9.setCell ⟨g9, kk * 4 + 3, none⟩ (.int .i64 (min 1000 (cc + (more : Int)))) = w10 at *
        obtain ⟨f1, hf1⟩ := H10.out.rot.fst
        obtain ⟨f2, hf2⟩ := H10.out.fst
        have q0 := cell_at (v := .slice (some ⟨g9, 0, none⟩) n1 c9) (i := 0) hf1 rfl
        have q1 := cell_at (v := .slice a.D n2 a.d) (i := 1) hf1 rfl
        have q2 := cell_at (v := .slice a.E n3 a.e) (i := 2) hf1 rfl
        have q3 := cell_at (v := .int .i64 T.drop) (i := 3) hf1 rfl
        have q4 := cell_at (v := .int .i64 T.ord) (i := 4) hf1 rfl
        have q5 := cell_at (v := .int .i64 T.ini) (i := 5) hf1 rfl
        have hlen : (T.rs.set kk (dearR T.rs[kk] more)).length = n1 := by rw [List.length_set, HN1.out]
        have htr := (HTW.out w10 HB10.out).few HF.out.1
        have hsr : ∀ R ∈ T.rs.set kk (dearR T.rs[kk] more), R.f.length ≤ 1000000 ∧ R.t.length ≤ 1000000 := fun R hR => by
          rcases List.mem_or_eq_of_mem_set hR with hR | rfl
          · exact htr.sr R hR
          · exact htr.sr T.rs[kk] (List.getElem_mem hkT)
        have htab : TabR w10 { T with rs := T.rs.set kk (dearR T.rs[kk] more) } ⟨some ⟨g9, 0, none⟩, c9, a.D, a.d, a.E, a.e⟩ := { rs := ru_of hf2, ds := htr.ds, es := htr.es, lr := by show (T.rs.set kk (dearR T.rs[kk] more)).length ≤ _; have := HSML.out; omega, ld := htr.ld, le := htr.le, sr := hsr, sd := htr.sd, se := htr.se }
        have KC := check_any (c := c) htab (HZW.out w10 HB10.out) k x k2 y bound (by have := HF.out.2.1; omega) (by have := HF.out.2.2; omega) (HCW.out w10 HB10.out) HSM.out.1 HSM.out.2
        have hv : tabV { T with rs := T.rs.set kk (dearR T.rs[kk] more) } ⟨some ⟨g9, 0, none⟩, c9, a.D, a.d, a.E, a.e⟩ = .agg #[.slice (some ⟨g9, 0, none⟩) n1 c9, .slice a.D n2 a.d, .slice a.E n3 a.e, .int .i64 T.drop, .int .i64 T.ord, .int .i64 T.ini] := by
          have h := HN.out
          unfold tabV tabC at h ⊢
          simp only [Value.agg.injEq] at h ⊢
          simp at h
          simp [HN1.out, h]
        rw [hv, HNC.out] at KC
        have HKC := hide (KC.mono fun e w' h => check_bool h true ⟨fun _ => check_dearer HCK.out kk hkT more (by omega), fun _ => rfl⟩)
        clear KC hv htab hsr htr hlen hf1 hf2 H10
        go_wp2_with fail
        refine HKC.out.mono ?_
        rintro e9 w11 ⟨rfl, hb⟩
        have HB11 := hide (bel_trans HB10.out hb)
        clear HKC hb
        dsimp only
        go_wp2
        go_ret
        exact bel_bool rfl (HBW.out _ HB11.out)
end Go.Proofs.YtnppgomhhcbplaaGreatDoor
namespace Go.Proofs.YtnppgomhhcbplaaGreatDoor
open Go.ChangeShapes Go.WideShapes Go.ChangeAt Go.RowKit Go.CH Go.CH.Scr Go.CH.Pot Go.Deep Go.Shelf Go.Lib
theorem caseX : CaseExtra Tryz.prog Tryz.lays262_ren := { n13 := by kernel_rfl, y13 := by kernel_rfl, c21 := by kernel_rfl, c51 := by kernel_rfl, c206 := by kernel_rfl, c208 := by kernel_rfl }
theorem u8X : U8Extra Tryz.prog Tryz.lays197_ren := { n3 := by kernel_rfl, n4 := by kernel_rfl, y3 := by kernel_rfl, y4 := by kernel_rfl, c5 := by kernel_rfl, c119 := by kernel_rfl, c138 := by kernel_rfl }
theorem lay274 : Lays.n274 Tryz.prog Tryz.lays262_ren := { Tryz.lays262 with }
theorem lay260 : Lays.n260 Tryz.prog Tryz.lays197_ren := { Tryz.lays197 with }
/-- The list of the rows. -/
def laidS : List (String × DataW Unit) := [("unicode/utf8.acceptRanges", Rows.laid_unicode_utf8_acceptRanges), ("unicode.CaseRanges", Rows.laid_unicode_CaseRanges), ("unicode/utf8.first", Rows.laid_unicode_utf8_first)]
theorem lz_of {w : World} (h : laidMetH Tryz.prog laidS w) (hs : w.ShapedOpen Tryz.prog) : LZ w := by
  rw [MakeChecks.laidMetH_plain _ _ _ (by kernel_rfl)] at h
  have h1 := laidMet.reads h (n := "unicode/utf8.acceptRanges") (d := Rows.laid_unicode_utf8_acceptRanges) (by simp [laidS])
  have h2 := laidMet.reads h (n := "unicode.CaseRanges") (d := Rows.laid_unicode_CaseRanges) (by simp [laidS])
  have h3 := laidMet.reads h (n := "unicode/utf8.first") (d := Rows.laid_unicode_utf8_first) (by simp [laidS])
  rw [show (Rows.laid_unicode_CaseRanges : DataW Unit) = caseData from Pinned.caseRanges_eq] at h2
  rw [show (Rows.laid_unicode_utf8_first : DataW Unit) = firstData from Pinned.utf8First_eq] at h3
  rw [show (Rows.laid_unicode_utf8_acceptRanges : DataW Unit) = acceptData by kernel_rfl] at h1
  exact ⟨caseVar_of_reads lay274 (by kernel_rfl) caseX h2, utf8Tabs_of_reads lay260 u8X h3 h1, Go.Proofs.cell_of_shapedOpen_int (P := Tryz.prog) (zero := #[.int .i64 0]) (t := 3) hs (of_decide_eq_true (by kernel_rfl)) (by kernel_rfl) rfl (by kernel_rfl) (by kernel_rfl) Tryz.underlying3⟩
/-- The wrap for a row that lists variables, the world's shape kept. -/
theorem returns_and_shaped {H : Type} {enc : TypeId × Value → H} {a : Assume} {C : Checked} {os : Os} {f : FuncId} {fn : Func} {s : ChangeSpec} {conds : List PathCond} {apart fresh handsOn again : Bool} {X : World → Array Value → Prop}
    (hX : ∀ (w w' : World) (args : Array Value), w.heap = w'.heap → X w args → X w' args)
    (own : ownKnob C.prog.godebug = none) (started : os.Started) (noInit : C.prog.inits.idxOf? f = none) (hfn : C.prog.funcs[f]? = some fn)
    (witness : ∃ (w : World) (tape : Tape) (i : Input), w.os = os ∧ (w.forCall tape i).Shaped C.prog ∧ i.vars = [] ∧ Input.okWide C.prog (w.forCall tape i) .any w.heap.size f i ∧
      ((s.pre enc C.prog fn conds apart (w.forCall tape i).memory i.args ∧ X (w.forCall tape i).memory i.args) ∧ sizedMet enc C.prog fn (OpenSpec.ofChange s) apart (w.forCall tape i).memory i.args) ∧ a.holds C.prog (lone (Frame.enter C.prog f i.args .normal) [] (w.forCall tape i)))
    (contract : ∀ (W : World) (base : Nat) (args : Array Value) (ds gs : List (DataW H)) (before : List MemPlace),
      (∀ (j : Nat) t v, fn.params[j]? = some t → args[j]? = some v → Value.okWide C.prog W .any base t v) →
      DataW.Whole enc C.prog fn.params.toList s.vars apart W args.toList ds gs before →
      X W args → W.ShapedOpen C.prog →
      Calls C.prog f args W fun e W' => ∃ v, e = .returned v ∧ s.post enc C.prog fn apart fresh handsOn again W args v W') :
    ReturnsInHanded a C os f .any (fun w args => (s.pre enc C.prog fn conds apart w args ∧ X w args) ∧ sizedMet enc C.prog fn (OpenSpec.ofChange s) apart w args) (s.post enc C.prog fn apart fresh handsOn again) := by
  refine returnsInHanded_of_calls own started noInit witness ?_
  intro w tape i _ hsh _ hok hpre hholds
  obtain ⟨_, _, _, fn', hfn', _, _, _, _, hval⟩ := hok
  have e : fn' = fn := Option.some.inj (hfn'.symm.trans hfn)
  subst e
  obtain ⟨⟨⟨ds, gs, before, hw, hc⟩, hx⟩, hz⟩ := hpre
  have hw' := DataW.Whole.of_heap (w' := w.forCall tape i) (by rfl) hw
  refine (contract (w.forCall tape i) w.heap.size i.args ds gs before hval hw' (hX _ _ _ (by rfl) hx) hsh).mono fun e W' ⟨v, he, hp⟩ => ?_
  subst he
  exact ChangeSpec.post_blind hp
section
variable {H : Type} {enc : TypeId × Value → H} {w : World} {base : Nat}
instance : Inhabited Rule := ⟨⟨0, [], [], 0⟩⟩
instance : Inhabited Drop := ⟨⟨0, [], 0⟩⟩
theorem each_rule : ∀ m cs y, DataW.trod enc Tryz.prog w base (fun _ => true) true m 41 cs = some y → ∃ R : Rule, cs = rcells R ∧ True := by
  intro m cs y h
  obtain ⟨hl, n, hf⟩ := open_fields Tryz.underlying41 (by kernel_rfl) (by kernel_rfl) h
  obtain ⟨v0, z0, c0, t0⟩ := hf 0 _ rfl
  obtain ⟨v1, z1, c1, t1⟩ := hf 1 _ rfl
  obtain ⟨v2, z2, c2, t2⟩ := hf 2 _ rfl
  obtain ⟨v3, z3, c3, t3⟩ := hf 3 _ rfl
  obtain ⟨x0, f0, -, -⟩ := DataW.trod_int Tryz.underlying3 t0
  obtain ⟨x1, f1, -⟩ := DataW.trod_string Tryz.underlying9 t1
  obtain ⟨x2, f2, -⟩ := DataW.trod_string Tryz.underlying9 t2
  obtain ⟨x3, f3, -, -⟩ := DataW.trod_int Tryz.underlying3 t3
  injection f0 with f0
  injection f1 with f1
  injection f2 with f2
  injection f3 with f3
  subst f0 f1 f2 f3
  refine ⟨⟨x0, bl x1, bl x2, x3⟩, ?_, trivial⟩
  have hl : cs.length = 4 := hl
  match cs, hl with
  | [a, b, c, d], _ =>
    simp at c0 c1 c2 c3
    subst c0 c1 c2 c3
    unfold rcells
    rw [bs_bl, bs_bl]
theorem each_drop : ∀ m cs y, DataW.trod enc Tryz.prog w base (fun _ => true) true m 109 cs = some y → ∃ d : Drop, cs = dcells d ∧ True := by
  intro m cs y h
  obtain ⟨hl, n, hf⟩ := open_fields Tryz.underlying109 (by kernel_rfl) (by kernel_rfl) h
  obtain ⟨v0, z0, c0, t0⟩ := hf 0 _ rfl
  obtain ⟨v1, z1, c1, t1⟩ := hf 1 _ rfl
  obtain ⟨v2, z2, c2, t2⟩ := hf 2 _ rfl
  obtain ⟨x0, f0, -, -⟩ := DataW.trod_int Tryz.underlying3 t0
  obtain ⟨x1, f1, -⟩ := DataW.trod_string Tryz.underlying9 t1
  obtain ⟨x2, f2, -, -⟩ := DataW.trod_int Tryz.underlying3 t2
  injection f0 with f0
  injection f1 with f1
  injection f2 with f2
  subst f0 f1 f2
  refine ⟨⟨x0, bl x1, x2⟩, ?_, trivial⟩
  have hl : cs.length = 3 := hl
  match cs, hl with
  | [a, b, c], _ =>
    simp at c0 c1 c2
    subst c0 c1 c2
    unfold dcells
    rw [bs_bl]
theorem each_pt : ∀ m cs y, DataW.trod enc Tryz.prog w base (fun _ => true) true m 37 cs = some y → ∃ p : Pt, cs = pcells p ∧ True := by
  intro m cs y h
  obtain ⟨hl, n, hf⟩ := open_fields Tryz.underlying37 (by kernel_rfl) (by kernel_rfl) h
  obtain ⟨v0, z0, c0, t0⟩ := hf 0 _ rfl
  obtain ⟨v1, z1, c1, t1⟩ := hf 1 _ rfl
  obtain ⟨v2, z2, c2, t2⟩ := hf 2 _ rfl
  obtain ⟨v3, z3, c3, t3⟩ := hf 3 _ rfl
  obtain ⟨v4, z4, c4, t4⟩ := hf 4 _ rfl
  obtain ⟨x0, f0, -, -⟩ := DataW.trod_int Tryz.underlying3 t0
  obtain ⟨x1, f1, -, -⟩ := DataW.trod_int Tryz.underlying3 t1
  obtain ⟨x2, f2, -⟩ := DataW.trod_string Tryz.underlying9 t2
  obtain ⟨x3, f3, -⟩ := DataW.trod_bool Tryz.underlying4 t3
  obtain ⟨x4, f4, -, -⟩ := DataW.trod_int Tryz.underlying3 t4
  injection f0 with f0
  injection f1 with f1
  injection f2 with f2
  injection f3 with f3
  injection f4 with f4
  subst f0 f1 f2 f3 f4
  refine ⟨⟨x0, x1, bl x2, x3, x4⟩, ?_, trivial⟩
  have hl : cs.length = 5 := hl
  match cs, hl with
  | [a, b, c, d, e], _ =>
    simp at c0 c1 c2 c3 c4
    subst c0 c1 c2 c3 c4
    unfold pcells
    rw [bs_bl]
theorem slice_form {t e : TypeId} {m : Nat} {v : Value} {y : DataW H × List MemPlace} (ht : Tryz.prog.underlying t = some (.slice e)) (h : DataW.trod enc Tryz.prog w 0 (fun _ => true) true m t [v] = some y) : ∃ A n c, v = .slice A n c := by
  rcases open_slice ht h with ⟨h0, _⟩ | ⟨a, len, cap, _, _, _, _, hv, _⟩
  · injection h0 with h0
    exact ⟨none, 0, 0, h0⟩
  · injection hv with hv
    exact ⟨some a, len, cap, hv⟩
theorem open_rules {m : Nat} {v : Value} {y : DataW H × List MemPlace} (h : DataW.trod enc Tryz.prog w 0 (fun _ => true) true m 22 [v] = some y) :
    ∃ (A : Option Addr) (c : Nat) (l : List Rule), v = .slice A l.length c ∧ RulesR w A l ∧ l.length ≤ c := by
  obtain ⟨A, n, c, rfl⟩ := slice_form Tryz.underlying22 h
  obtain ⟨xs, h1, h2, h3, h4, h5⟩ := open_src (P := Tryz.prog) (t := 22) (e := 41) (A := A) (n := n) (c := c) (d := y.1) (ps := y.2) (size := 4) rcells (fun _ => True) Tryz.underlying22 (by kernel_rfl) (by decide) each_rule (fun R _ u hu => by simp [rcells] at hu; rcases hu with rfl | rfl | rfl | rfl <;> rfl) ⟨m, by simpa [Value.cells] using h⟩
  subst h1
  exact ⟨A, c, xs, rfl, h2, h4⟩
theorem open_drops {m : Nat} {v : Value} {y : DataW H × List MemPlace} (h : DataW.trod enc Tryz.prog w 0 (fun _ => true) true m 23 [v] = some y) :
    ∃ (A : Option Addr) (c : Nat) (l : List Drop), v = .slice A l.length c ∧ DropsR w A l ∧ l.length ≤ c := by
  obtain ⟨A, n, c, rfl⟩ := slice_form Tryz.underlying23 h
  obtain ⟨xs, h1, h2, h3, h4, h5⟩ := open_src (P := Tryz.prog) (t := 23) (e := 109) (A := A) (n := n) (c := c) (d := y.1) (ps := y.2) (size := 3) dcells (fun _ => True) Tryz.underlying23 (by kernel_rfl) (by decide) each_drop (fun R _ u hu => by simp [dcells] at hu; rcases hu with rfl | rfl | rfl <;> rfl) ⟨m, by simpa [Value.cells] using h⟩
  subst h1
  exact ⟨A, c, xs, rfl, h2, h4⟩
/-- A certificate that came in. -/
theorem open26 {A : Option Addr} {n c : Nat} {d : DataW H} {ps : List MemPlace} (h : DataW.Trod enc Tryz.prog w 0 (fun _ => true) true 26 (.slice A n c) d ps) : ∃ C : List Pt, C.length = n ∧ PtsR w A C ∧ n ≤ c := by
  obtain ⟨xs, h1, h2, h3, h4, h5⟩ := open_src (P := Tryz.prog) (t := 26) (e := 37) (size := 5) pcells (fun _ => True) Tryz.underlying26 (by kernel_rfl) (by decide) each_pt (fun R _ u hu => pcells_one [R] u (by simpa using hu)) h
  refine ⟨xs, h1, ?_, h4⟩
  unfold PtsR Rst
  rw [h1]; exact h2
theorem len6 {cs : List Value} (h : cs.length = 6) : ∃ a b c d e f, cs = [a, b, c, d, e, f] := by
  match cs, h with
  | [a, b, c, d, e, f], _ => exact ⟨a, b, c, d, e, f, rfl⟩
/-- A table that came in. -/
structure TZ where
  T : Tab
  a : TA
def TzOk (w : World) (z : TZ) : Prop := TabZ w z.T z.a ∧ z.T.rs.length ≤ z.a.c
set_option maxRecDepth 100000 in
theorem open25 {r : Reach} {b0 : Nat} {v : Value} {d : DataW H} {ps : List MemPlace} (hok : Value.okWide Tryz.prog w r b0 25 v) (h : DataW.Trod enc Tryz.prog w 0 (fun _ => true) true 25 v d ps) : ∃ z : TZ, v = tabV z.T z.a ∧ TzOk w z := by
  obtain ⟨cs, rfl, hsz⟩ := okWide_struct Tryz.underlying25 hok
  obtain ⟨m, hm⟩ := h
  obtain ⟨xs, n, _, _, hl, hxl, hf⟩ := DataW.trod_struct Tryz.underlying25 hm
  have hl6 := hl.trans (by kernel_rfl : _ = 6)
  obtain ⟨a0, a1, a2, a3, a4, a5, ha⟩ := len6 hl6
  have hxl6 : xs.length = 6 := hxl
  have ex : ∀ i (hi : i < 6), xs[i]? = some (xs[i]'(by omega)) := fun i hi => List.getElem?_eq_getElem (by omega)
  have s3 : Tryz.prog.cellsOf 3 = 1 := by kernel_rfl
  have s22 : Tryz.prog.cellsOf 22 = 1 := by kernel_rfl
  have s23 : Tryz.prog.cellsOf 23 = 1 := by kernel_rfl
  have t0 := (hf 0 _ rfl).trans (ex 0 (by omega))
  have t1 := (hf 1 _ rfl).trans (ex 1 (by omega))
  have t2 := (hf 2 _ rfl).trans (ex 2 (by omega))
  have t3 := (hf 3 _ rfl).trans (ex 3 (by omega))
  have t4 := (hf 4 _ rfl).trans (ex 4 (by omega))
  have t5 := (hf 5 _ rfl).trans (ex 5 (by omega))
  rw [ha] at t0 t1 t2 t3 t4 t5
  have t0' : DataW.trod enc Tryz.prog w 0 (fun _ => true) true n 22 (([a0, a1, a2, a3, a4, a5].drop 0).take (Tryz.prog.cellsOf 22)) = some (xs[0]'(by omega)) := t0
  have t1' : DataW.trod enc Tryz.prog w 0 (fun _ => true) true n 23 (([a0, a1, a2, a3, a4, a5].drop 1).take (Tryz.prog.cellsOf 23)) = some (xs[1]'(by omega)) := t1
  have t2' : DataW.trod enc Tryz.prog w 0 (fun _ => true) true n 23 (([a0, a1, a2, a3, a4, a5].drop 2).take (Tryz.prog.cellsOf 23)) = some (xs[2]'(by omega)) := t2
  have t3' : DataW.trod enc Tryz.prog w 0 (fun _ => true) true n 3 (([a0, a1, a2, a3, a4, a5].drop 3).take (Tryz.prog.cellsOf 3)) = some (xs[3]'(by omega)) := t3
  have t4' : DataW.trod enc Tryz.prog w 0 (fun _ => true) true n 3 (([a0, a1, a2, a3, a4, a5].drop 4).take (Tryz.prog.cellsOf 3)) = some (xs[4]'(by omega)) := t4
  have t5' : DataW.trod enc Tryz.prog w 0 (fun _ => true) true n 3 (([a0, a1, a2, a3, a4, a5].drop 5).take (Tryz.prog.cellsOf 3)) = some (xs[5]'(by omega)) := t5
  simp only [s3, s22, s23, List.drop, List.take] at t0' t1' t2' t3' t4' t5'
  obtain ⟨A, ac, rs, f0, k0, k0'⟩ := open_rules t0'
  obtain ⟨D, dc, ds, f1, k1, -⟩ := open_drops t1'
  obtain ⟨E, ec, es, f2, k2, -⟩ := open_drops t2'
  obtain ⟨x3, f3, -, -⟩ := DataW.trod_int Tryz.underlying3 t3'
  obtain ⟨x4, f4, -, -⟩ := DataW.trod_int Tryz.underlying3 t4'
  obtain ⟨x5, f5, -, -⟩ := DataW.trod_int Tryz.underlying3 t5'
  injection f3 with f3
  injection f4 with f4
  injection f5 with f5
  subst f0 f1 f2 f3 f4 f5
  refine ⟨⟨⟨rs, ds, es, x3, x4, x5⟩, ⟨A, ac, D, dc, E, ec⟩⟩, ?_, ⟨k0, k1, k2⟩, k0'⟩
  have : cs = #[.slice A rs.length ac, .slice D ds.length dc, .slice E es.length ec, .int .i64 x3, .int .i64 x4, .int .i64 x5] := by
    apply Array.toList_inj.1
    simpa [Value.cells] using ha
  rw [this]; rfl
end
end Go.Proofs.YtnppgomhhcbplaaGreatDoor
