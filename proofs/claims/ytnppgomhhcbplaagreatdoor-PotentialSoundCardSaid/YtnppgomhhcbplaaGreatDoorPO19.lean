/-
  Potential: the law Dearer.
  Align: the sides of words in memory.
  Align: sideOf.
  Align: slices.Equal of texts; fits.
  Align: fits.
  Align: the words in memory; done.
  Align: open.
-/
import Derived.Test.YtnppgomhhcbplaaGreatDoorPO18
import Derived.Test.YtnppgomhhcbplaaGreatDoorPO6
import Derived.Test.YtnppgomhhcbplaaGreatDoorPO16
import Derived.Test.YtnppgomhhcbplaaGreatDoorPO14
import Derived.Test.YtnppgomhhcbplaaGreatDoorPO15
import Derived.Test.YtnppgomhhcbplaaGreatDoorPO12
set_option linter.unusedSimpArgs false
set_option linter.unusedVariables false
namespace Go.Proofs.YtnppgomhhcbplaaGreatDoor
open Go.RowKit Go.CH Go.CH.Scr Go.CH.Pot
open Go.ChangeMaps (setBlock)
theorem ru_some {w : World} {F : Nat → Prop} {A : Option Addr} {c n : Nat} {l : List Rule} (h : RuO A c l w F) (hn : l.length = n) (h0 : 0 < n) : ∃ g, A = some ⟨g, 0, none⟩ := by
  rcases h.1.2 with ⟨-, e1⟩ | ⟨g', cap, cur, e1, -⟩
  · omega
  · injection e1 with e2
    exact ⟨g', e2⟩
theorem ru_cell {w : World} {F : Nat → Prop} {g c i : Nat} {l : List Rule} {v : Value} (h : RuO (some ⟨g, 0, none⟩) c l w F) (hv : (l.flatMap rcells)[i]? = some v) : w.cell? ⟨g, i, none⟩ = some v ∧ w.frozen? ⟨g, i, none⟩ = false := by
  rcases h.1.2 with ⟨e1, -⟩ | ⟨g', cap, cur, e1, -, hg, -, -, -, ht⟩
  · cases e1
  · injection e1 with e2 e3 e4
    injection e2 with e2; injection e2 with e2
    subst e2
    rw [← ht, List.getElem?_take] at hv
    split at hv
    · rw [Array.getElem?_toList] at hv
      simp only [World.cell?, World.frozen?, hg]
      exact ⟨by rw [hv]; rfl, by simp⟩
    · cases hv
theorem flat_set (l : List Rule) (k : Nat) (hk : k < l.length) (v : Int) : (l.flatMap rcells).set (k * 4 + 3) (.int .i64 v) = (l.set k { l[k] with c := v }).flatMap rcells := by
  apply List.ext_getElem?
  intro t
  have hlen : ∀ l : List Rule, (l.flatMap rcells).length = l.length * 4 := fun l => CH.flat_len (R := rcells) (size := 4) (fun _ => rfl) l
  by_cases ht : t < l.length * 4
  · have h1 : t / 4 < l.length := by omega
    have h2 : t % 4 < 4 := by omega
    have h3 : t / 4 * 4 + t % 4 = t := by omega
    have e1 := flat_get_ (R := rcells) (size := 4) (fun _ => rfl) (l := l) h1 h2
    have e2 := flat_get_ (R := rcells) (size := 4) (fun _ => rfl) (l := l.set k { l[k] with c := v }) (j := t / 4) (by rw [List.length_set]; exact h1) h2
    rw [h3] at e1 e2
    rw [e2, List.getElem?_set, hlen]
    by_cases hkt : k = t / 4
    · subst hkt
      rw [List.getElem_set_self]
      by_cases h4 : t % 4 = 3
      · rw [if_pos (by omega), if_pos (by omega), h4]; rfl
      · rw [if_neg (by omega), e1]
        have : t % 4 = 0 ∨ t % 4 = 1 ∨ t % 4 = 2 := by omega
        rcases this with h | h | h <;> rw [h] <;> rfl
    · rw [if_neg (by omega), e1, List.getElem_set_ne hkt]
  · rw [List.getElem?_eq_none (by rw [List.length_set, hlen]; omega), List.getElem?_eq_none (by rw [hlen, List.length_set]; omega)]
set_option maxHeartbeats 6400000 in
set_option maxRecDepth 100000 in
theorem law_dearer_any {w : World} {T : Tab} {a : TA} (hT : TabZ w T a) (hz : LZ w) (k : Int) (x : Bs) (k2 : Int) (y : Bs) (bound : Int) {B : Option Addr} {c : Nat} {C : List Pt} (hC : PtsR w B C) (raw more : Nat) (hraw : raw < 256) (hmore : more < 65536) (hcap : T.rs.length ≤ a.c) :
    Calls Tryz.prog 6 #[tabV T a, .int .i64 k, .string (bs x), .int .i64 k2, .string (bs y), .int .i64 bound, .slice B C.length c, .int .u8 raw, .int .u16 more] w (BelowRet w (.bool true)) := by
  have HT := hide hT
  have HZ := hide hz
  have HC := hide hC
  have h1 : Run (fun _ => False) w (star (CellO w.heap.size (tabC T a) 25) emp) _ := run_new (Run.begin w) emp_ok _ 25
  have HB := hide (h1.mod.below (fun _ _ h => h))
  have HTC := hide (fun W (h : Below (w.alloc (.cells (tabC T a) 25)).heap.size (w.alloc (.cells (tabC T a) 25)) W) => (show W.cell? ⟨w.heap.size, 0, none⟩ = some (.slice a.A T.rs.length a.c) ∧ W.cell? ⟨w.heap.size, 1, none⟩ = some (.slice a.D T.ds.length a.d) ∧ W.cell? ⟨w.heap.size, 2, none⟩ = some (.slice a.E T.es.length a.e) ∧ W.cell? ⟨w.heap.size, 3, none⟩ = some (.int .i64 T.drop) ∧ W.cell? ⟨w.heap.size, 4, none⟩ = some (.int .i64 T.ord) ∧ W.cell? ⟨w.heap.size, 5, none⟩ = some (.int .i64 T.ini) from by
    obtain ⟨f, hf⟩ := (h1.below (star_ok cell_ok emp_ok) h).fst
    exact ⟨cell_at hf rfl, cell_at hf rfl, cell_at hf rfl, cell_at hf rfl, cell_at hf rfl, cell_at hf rfl⟩))
  have KH := hide (head_any (w.alloc (.cells (tabC T a) 25)) (hz.below HB.out))
  clear hT hz h1 hC
  unfold tabV
  unfold tabC at HB HTC KH ⊢
  generalize hn1 : T.rs.length = n1 at *
  generalize hn2 : T.ds.length = n2 at *
  generalize hn3 : T.es.length = n3 at *
  have HN := hide (show tabV T a = .agg #[.slice a.A n1 a.c, .slice a.D n2 a.d, .slice a.E n3 a.e, .int .i64 T.drop, .int .i64 T.ord, .int .i64 T.ini] from by unfold tabV tabC; rw [hn1, hn2, hn3])
  clear hn1 hn2 hn3
  generalize hnc : C.length = nc at *
  have HNC := hide hnc
  clear hnc
  go_enter Tryz.func6, Tryz.ntmps6
  go_wp2_with fail
  refine KH.out.mono ?_
  rintro e9 w1 ⟨rfl, hb1⟩
  generalize w.alloc (.cells #[.slice a.A n1 a.c, .slice a.D n2 a.d, .slice a.E n3 a.e, .int .i64 T.drop, .int .i64 T.ord, .int .i64 T.ini] 25) = wb at *
  obtain ⟨gt, hgt⟩ : ∃ gt, gt = w.heap.size := ⟨_, rfl⟩
  have HBW := hide (fun W (h : Below wb.heap.size wb W) => HB.out.trans (h.mono HB.out.size))
  have HZW := hide (fun W (h : Below wb.heap.size wb W) => HZ.out.below (HBW.out W h))
  have HTW := hide (fun W (h : Below wb.heap.size wb W) => HT.out.below (HBW.out W h))
  have HB1 := hide hb1
  have HCW := hide (fun W (h : Below wb.heap.size wb W) => Rst.below HC.out (HBW.out W h))
  have KF := hide (few_any (c := c) (HTW.out w1 hb1) (HCW.out w1 hb1) x y)
  rw [HN.out, HNC.out] at KF
  obtain ⟨t0, t1, t2, t3, t4, t5⟩ := HTC.out _ hb1
  clear KH hb1 HT HZ HB HC
  dsimp only
  cases hf : fewN T x y C with
  | false =>
    simp only [hf] at KF
    clear hf
    go_wp2_with fail
    refine KF.out.mono ?_
    rintro e9 w2 ⟨rfl, hb⟩
    have HB2 := hide (bel_trans HB1.out hb)
    clear KF hb t0 t1 t2 t3 t4 t5
    dsimp only
    go_wp2
    go_ret
    exact bel_bool rfl (HBW.out _ HB2.out)
  | true =>
    simp only [hf] at KF
    have HF := hide (fewN_iff.1 hf)
    clear hf
    go_wp2_with fail
    refine KF.out.mono ?_
    rintro e9 w2 ⟨rfl, hb⟩
    have HB2 := hide (bel_trans HB1.out hb)
    clear KF hb t0 t1 t2 t3 t4 t5
    dsimp only
    obtain ⟨t0, t1, t2, t3, t4, t5⟩ := HTC.out _ HB2.out
    by_cases hn0 : n1 = 0
    · have hn2i : ((n1 : Int) == 0) = true := by simp [hn0]
      clear hn0
      go_wp2
      go_ret
      exact bel_bool rfl (HBW.out _ HB2.out)
    · have hn2i : ((n1 : Int) == 0) = false := by simp [hn0]
      have HSM := hide (show C.length ≤ 1000000 ∧ ∀ p ∈ C, p.a.length ≤ 1000000 from by
        obtain ⟨⟨-, -, -, g4⟩, -, -, -, g5⟩ := fewT_iff.1 HF.out.1
        exact ⟨by omega, fun p hp => by have := short_iff.1 (g5 p hp); omega⟩)
      have K1 := hide (check_any (c := c) ((HTW.out w2 HB2.out).few HF.out.1) (HZW.out w2 HB2.out) k x k2 y bound (by have := HF.out.2.1; omega) (by have := HF.out.2.2; omega) (HCW.out w2 HB2.out) HSM.out.1 HSM.out.2)
      rw [HN.out, HNC.out] at K1
      go_wp2_with fail
      refine K1.out.mono ?_
      rintro e9 w3 ⟨b1, rfl, hiff, hb⟩
      have HB3 := hide (bel_trans HB2.out hb)
      have HI1 := hide hiff
      clear K1 hiff hb t0 t1 t2 t3 t4 t5
      dsimp only
      cases b1 with
      | false =>
        go_wp2
        go_ret
        exact bel_bool rfl (HBW.out _ HB3.out)
      | true =>
        have HCK := hide (HI1.out.1 rfl)
        clear HI1
        obtain ⟨t0, t1, t2, t3, t4, t5⟩ := HTC.out _ HB3.out
        have hne2 : ¬ (n1 : Int) = 0 := by omega
        have HN1 := hide (show T.rs.length = n1 from by have h := HN.out; unfold tabV tabC at h; simp at h; exact h.1)
        obtain ⟨kk, hkk⟩ : ∃ kk : Nat, kk = raw % n1 := ⟨_, rfl⟩
        have hkl : kk < n1 := by rw [hkk]; exact Nat.mod_lt _ (by omega)
        have hke : (raw : Int) % (n1 : Int) = (kk : Int) := by rw [hkk]; rfl
        have HSML := hide (show n1 ≤ 60 from by rw [← HN1.out]; exact (fewT_iff.1 HF.out.1).1.1)
        go_upto_region 6 with (fail)
        rw [hke]
        clear hke hkk t0 t1 t2 t3 t4 t5 hn2i
        have h4 := run_new (Run.begin w3) emp_ok #[.slice a.A n1 a.c, .slice a.D n2 a.d, .slice a.E n3 a.e, .int .i64 T.drop, .int .i64 T.ord, .int .i64 T.ini] 25
        have H4 := hide h4
        have HX3 := hide HB3.out
        clear h4
        generalize hw4 : w3.alloc (.cells #[.slice a.A n1 a.c, .slice a.D n2 a.d, .slice a.E n3 a.e, .int .i64 T.drop, .int .i64 T.ord, .int .i64 T.ini] 25) = w4 at *
        generalize w3.heap.size = g21 at H4 ⊢
        clear hw4
        have HB4 := hide (bel_trans HX3.out (H4.out.mod.below (fun _ _ h => h)))
        have H6 := hide (show Run (fun _ => False) w3 (star (RuO (some ⟨w4.heap.size, 0, none⟩) 0 []) (star (CellO g21 #[.slice a.A n1 a.c, .slice a.D n2 a.d, .slice a.E n3 a.e, .int .i64 T.drop, .int .i64 T.ord, .int .i64 T.ini] 25) emp)) _ from H4.out.fresh (star_ok cell_ok emp_ok) (row_made w4 41 4))
        have HB6 := hide (bel_trans HX3.out (H6.out.mod.below (fun _ _ h => h)))
        obtain ⟨t0, -, -, -, -, -⟩ := HTC.out _ HB6.out
        go_wp2_with (at_builtin; refine held ?_)
        have hrs := (HTW.out _ HB6.out).rs
        refine Held.mk (wpList_plain rfl fun K hK => app_rules (.tmp 54) (.tmp 56) rfl (n := 0) (m := n1) (l := []) (r := T.rs) rfl HN1.out rfl rfl (by have := HSML.out; omega) (star_ok cell_ok emp_ok) hrs H6.out fun A9 c9 w7 hr7 => hK _ _ ?_)
        rw [List.nil_append] at hr7
        have H7 := hide hr7
        obtain ⟨f7, hf7⟩ := hr7.drop.fst
        have q0 := cell_at (v := .slice a.A n1 a.c) (i := 0) hf7 rfl
        have qf := cell_free hf7 0
        have h8 : Run (fun _ => False) w3 (star (CellO g21 #[.slice A9 n1 c9, .slice a.D n2 a.d, .slice a.E n3 a.e, .int .i64 T.drop, .int .i64 T.ord, .int .i64 T.ini] 25) (star (RuO A9 c9 T.rs) emp)) _ := run_setc hr7.rot (star_ok ru_ok emp_ok) 0 (.slice A9 n1 c9)
        have H8 := hide h8
        clear hr7 hf7 h8 H6 HB6 hrs H7 t0
        go_upto_region 7 with (fail)
        obtain ⟨F9, hF9⟩ := H8.out.drop.fst
        obtain ⟨g9, rfl⟩ := ru_some hF9 HN1.out (by omega)
        have hkT : kk < T.rs.length := by rw [HN1.out]; exact hkl
        obtain ⟨cc, hcc⟩ : ∃ cc, cc = T.rs[kk].c := ⟨_, rfl⟩
        have hcost : 0 ≤ cc ∧ cc ≤ 1000 := by
          have hv := (okW_iff.1 HCK.out.1).2.2
          have h := (rulesN_iff.1 (validT_iff.1 hv).2.1).2 T.rs[kk] (List.getElem_mem hkT)
          rw [hcc]
          exact costN_iff.1 (ruleN_iff.1 h).2.2
        have HCC := hide hcc
        clear hcc hF9
        have okN : (star (CellO g21 #[.slice (some ⟨g9, 0, none⟩) n1 c9, .slice a.D n2 a.d, .slice a.E n3 a.e, .int .i64 T.drop, .int .i64 T.ord, .int .i64 T.ini] 25) (star (RuO (some ⟨g9, 0, none⟩) c9 T.rs) emp)).Ok := star_ok cell_ok (star_ok ru_ok emp_ok)
        have H9 := hide (H8.out.drew okN)
        have hat : (T.rs.flatMap rcells)[kk * 4 + 3]? = some (.int .i64 cc) := by rw [flat_get_ (R := rcells) (size := 4) (fun _ => rfl) hkT (by omega), HCC.out]; rfl
        obtain ⟨fa, hfa⟩ := H9.out.fst
        obtain ⟨fb, hfb⟩ := H9.out.drop.fst
        obtain ⟨u0, u1⟩ := ru_cell hfb hat
        have hS0 : (fun W : World => W.cell? ⟨g21, 0, none⟩ = some (.slice (some ⟨g9, 0, none⟩) n1 c9) ∧ W.cell? ⟨g9, kk * 4 + 3, none⟩ = some (.int .i64 cc)) _ := ⟨cell_at hfa rfl, u0⟩
        have HS0 := hide hS0
        have tw : IntKind.i64.wrap (cc + (more : Int)) = cc + (more : Int) := IntWalk.i64_in _ (by omega)
        obtain ⟨fc, hfc, -, bk⟩ := H9.out.rot.take ru_ok (star_ok cell_ok emp_ok)
        have h10 := bk _ _ (row_set hfc (i := kk * 4 + 3) (by omega) (.int .i64 (min 1000 (cc + (more : Int)))))
        have hset : RowO 41 4 (.slice (some ⟨g9, 0, none⟩) T.rs.length c9) T.rs.length ((T.rs.flatMap rcells).set (kk * 4 + 3) (.int .i64 (min 1000 (cc + (more : Int))))) = RuO (some ⟨g9, 0, none⟩) c9 (T.rs.set kk (dearR T.rs[kk] more)) := by
          unfold RuO
          rw [flat_set _ _ hkT, List.length_set, HCC.out]; rfl
        rw [hset] at h10
        have H10 := hide h10
        have HB10 := hide (bel_trans HX3.out (h10.mod.below (fun _ _ h => h)))
        clear okN hfa hfb hfc bk h10 hset hat hS0 H8 H9 u0
        generalize w7.setCell ⟨g21, 0, none⟩ (.slice (some ⟨g9, 0, none⟩) n1 c9) = w8 at *
        refine wp_region_ley (fun W : World => W.cell? ⟨g21, 0, none⟩ = some (.slice (some ⟨g9, 0, none⟩) n1 c9) ∧ W.cell? ⟨g9, kk * 4 + 3, none⟩ = some (.int .i64 cc)) rfl (by kernel_rfl) (by kernel_rfl) HS0.out ?_
        have hS0 := HS0.out
        clear HS0
        generalize w8.drew = w9 at *
        obtain ⟨u0, u2⟩ := hS0
        (repeat (first | (refine ley_skip (by rfl) ?_; try simp only [Act.put, List.setIfInBounds_toArray, List.set_cons_zero, List.set_cons_succ]) | (refine ley_read (v := ?_) (by rfl) ?_ ?_; rotate_left; (focus (intro w' hS'; go_simp; (try with_reducible rfl); done)); try simp only [Act.put, List.setIfInBounds_toArray, List.set_cons_zero, List.set_cons_succ])))
        refine ley_last rfl (by rfl) (fun K hK => ?_)
        go_wp2_with fail
        refine hK.out _ _ ?_
        clear hK u0 u1 u2 tw
        generalize w9.setCell ⟨g9, kk * 4 + 3, none⟩ (.int .i64 (min 1000 (cc + (more : Int)))) = w10 at *
        obtain ⟨f1, hf1⟩ := H10.out.rot.fst
        obtain ⟨f2, hf2⟩ := H10.out.fst
        have q0 := cell_at (v := .slice (some ⟨g9, 0, none⟩) n1 c9) (i := 0) hf1 rfl
        have q1 := cell_at (v := .slice a.D n2 a.d) (i := 1) hf1 rfl
        have q2 := cell_at (v := .slice a.E n3 a.e) (i := 2) hf1 rfl
        have q3 := cell_at (v := .int .i64 T.drop) (i := 3) hf1 rfl
        have q4 := cell_at (v := .int .i64 T.ord) (i := 4) hf1 rfl
        have q5 := cell_at (v := .int .i64 T.ini) (i := 5) hf1 rfl
        have hlen : (T.rs.set kk (dearR T.rs[kk] more)).length = n1 := by rw [List.length_set, HN1.out]
        have htr := (HTW.out w10 HB10.out).few HF.out.1
        have hsr : ∀ R ∈ T.rs.set kk (dearR T.rs[kk] more), R.f.length ≤ 1000000 ∧ R.t.length ≤ 1000000 := fun R hR => by
          rcases List.mem_or_eq_of_mem_set hR with hR | rfl
          · exact htr.sr R hR
          · exact htr.sr T.rs[kk] (List.getElem_mem hkT)
        have htab : TabR w10 { T with rs := T.rs.set kk (dearR T.rs[kk] more) } ⟨some ⟨g9, 0, none⟩, c9, a.D, a.d, a.E, a.e⟩ := { rs := ru_of hf2, ds := htr.ds, es := htr.es, lr := by show (T.rs.set kk (dearR T.rs[kk] more)).length ≤ _; have := HSML.out; omega, ld := htr.ld, le := htr.le, sr := hsr, sd := htr.sd, se := htr.se }
        have KC := check_any (c := c) htab (HZW.out w10 HB10.out) k x k2 y bound (by have := HF.out.2.1; omega) (by have := HF.out.2.2; omega) (HCW.out w10 HB10.out) HSM.out.1 HSM.out.2
        have hv : tabV { T with rs := T.rs.set kk (dearR T.rs[kk] more) } ⟨some ⟨g9, 0, none⟩, c9, a.D, a.d, a.E, a.e⟩ = .agg #[.slice (some ⟨g9, 0, none⟩) n1 c9, .slice a.D n2 a.d, .slice a.E n3 a.e, .int .i64 T.drop, .int .i64 T.ord, .int .i64 T.ini] := by
          have h := HN.out
          unfold tabV tabC at h ⊢
          simp only [Value.agg.injEq] at h ⊢
          simp at h
          simp [HN1.out, h]
        rw [hv, HNC.out] at KC
        have HKC := hide (KC.mono fun e w' h => check_bool h true ⟨fun _ => check_dearer HCK.out kk hkT more (by omega), fun _ => rfl⟩)
        clear KC hv htab hsr htr hlen hf1 hf2 H10
        go_wp2_with fail
        refine HKC.out.mono ?_
        rintro e9 w11 ⟨rfl, hb⟩
        have HB11 := hide (bel_trans HB10.out hb)
        clear HKC hb
        dsimp only
        go_wp2
        go_ret
        exact bel_bool rfl (HBW.out _ HB11.out)
end Go.Proofs.YtnppgomhhcbplaaGreatDoor
namespace Go.Proofs.YtnppgomhhcbplaaGreatDoor
open Go.RowKit Go.CH Go.CH.Scr Go.CH.Pot
open Go.ChangeMaps (setBlock)
/-- A rule of a side, and where its letters lie. -/
structure RA where
  r : AR
  A : Option Addr
  c : Nat
def acells (x : RA) : List Value := [.int .i64 (x.r.ix : Nat), .int .i64 x.r.c, .slice x.A x.r.f.length x.c, .string (bs x.r.t)]
theorem acells_one (l : List RA) : ∀ u ∈ l.flatMap acells, u.oneCell' = true := by
  intro u hu
  obtain ⟨x, -, hx⟩ := List.mem_flatMap.1 hu
  unfold acells at hx
  simp only [List.mem_cons, List.not_mem_nil, or_false] at hx
  rcases hx with rfl | rfl | rfl | rfl <;> rfl
def FromO : List RA → CH.Own
  | [] => emp
  | x :: l => star (StrO x.A x.c x.r.f) (FromO l)
theorem from_ok : ∀ {l : List RA}, (FromO l).Ok
  | [] => emp_ok
  | _ :: _ => star_ok str_ok from_ok
theorem from_snoc (x : RA) : ∀ l : List RA, FromO (l ++ [x]) = star (StrO x.A x.c x.r.f) (FromO l)
  | [] => rfl
  | y :: l => by
    show star _ (FromO (l ++ [x])) = star _ (star _ (FromO l))
    rw [from_snoc x l]; ac_rfl
def ArsO (A : Option Addr) (c : Nat) (l : List RA) : CH.Own := RowO 101 4 (.slice A l.length c) l.length (l.flatMap acells)
theorem ars_ok {A : Option Addr} {c : Nat} {l : List RA} : (ArsO A c l).Ok := row_ok
theorem ars_nil (w : World) : ArsO none 0 [] w (fun _ => False) := row_nil w 101 4
abbrev ArsR (w : World) (A : Option Addr) (l : List RA) : Prop := Rst acells 4 w A l
theorem ars_of {w : World} {F : Nat → Prop} {A : Option Addr} {c : Nat} {l : List RA} (h : ArsO A c l w F) : ArsR w A l := row_src h (acells_one l)
theorem arsOk : SliceOk Tryz.prog 85 101 (.agg #[.int .i64 0, .int .i64 0, .slice none 0 0, .string ⟨#[]⟩]) 4 56 := ⟨Tryz.underlying85, by kernel_rfl, by decide, by decide⟩
theorem ars_snoc {A : Option Addr} {c : Nat} {l : List RA} {x : RA} : RowO 101 4 (.slice A (l.length + 1) c) (l.length + 1) (l.flatMap acells ++ acells x) = ArsO A c (l ++ [x]) := by
  unfold ArsO
  rw [List.flatMap_append, List.length_append, List.length_singleton, List.flatMap_singleton]
theorem app_ars {F0 : Nat → Prop} {w0 W : World} {Y : CH.Own} {ops : Array Oper} {rest : List Oper} {o : Oper} {a : Act} {Q : Exit → Act → World → Prop} (hgd : o.guard = none) (s x : Operand)
    (ho : o.op = .call { callee := .builtin .append, args := #[s, x], argTypes := #[85, 85] }) {A : Option Addr} {c n : Nat} {l : List RA} (p : RA) (hl : l.length = n) (hsv : a.eval s = .slice A n c) (hx : a.eval x = .slice (some ⟨W.heap.size, 0, none⟩) 1 1) (hn : n ≤ 1000000) (hY : Y.Ok)
    (h : Run F0 w0 (star (ArsO A c l) Y) W)
    (hK : ∀ A' c' w', Run F0 w0 (star (ArsO A' c' (l ++ [p])) Y) w' → wpList Tryz.prog ops Q rest (a.put o.dst (.slice A' (n + 1) c')) w') : wpList Tryz.prog ops Q (o :: rest) a (W.alloc (.cells #[.int .i64 (p.r.ix : Nat), .int .i64 p.r.c, .slice p.A p.r.f.length p.c, .string (bs p.r.t)] 101)) := by
  subst hl
  obtain ⟨F7, hR7, -, bk7⟩ := (h.below (star_ok ars_ok hY) ((Below.refl _ _).alloc (Nat.le_refl _) (.cells #[.int .i64 (p.r.ix : Nat), .int .i64 p.r.c, .slice p.A p.r.f.length p.c, .string (bs p.r.t)] 101))).take ars_ok hY
  refine wpList_appX hgd s x ho arsOk _ 0 (v := .slice A l.length c) (n := l.length) (xs := l.flatMap acells) hsv hR7.1 (A := some ⟨W.heap.size, 0, none⟩) (m := 1) (c := 1) (news := acells p) hx (src_lit (cs := #[.int .i64 (p.r.ix : Nat), .int .i64 p.r.c, .slice p.A p.r.f.length p.c, .string (bs p.r.t)]) (fun u hu => acells_one [p] u (by simpa [acells] using hu))) (by unfold maxLen; omega) (by omega) (Nat.zero_le _) ?_
  intro v8 w8 ho8 hg8 hv8
  have S8 := bk7 _ _ (row_app hR7 ho8 hg8 hv8)
  obtain ⟨A8, c8, rfl⟩ := own_form ho8
  rw [ars_snoc] at S8
  exact hK A8 c8 w8 S8
/-- Where a side lies. -/
structure SA where
  L : Option Addr
  lc : Nat
  R : Option Addr
  rc : Nat
  q : List RA
/-- A side: the letters of the word, and the rules of its script. -/
def sideN (T : Tab) (k : Int) (x : Bs) : List Bs × List AR := if word k x then ((ltrs k (lower x)).1, sideR T.rs k) else ([], [])
def sideC (l : List Bs) (s : SA) : Array Value := #[.slice s.L l.length s.lc, .slice s.R s.q.length s.rc]
def SideO (l : List Bs) (s : SA) : CH.Own := star (StrO s.L s.lc l) (star (ArsO s.R s.rc s.q) (FromO s.q))
theorem side_ok {l : List Bs} {s : SA} : (SideO l s).Ok := star_ok str_ok (star_ok ars_ok from_ok)
/-- What sideOf answers. -/
def SideRet (w : World) (T : Tab) (k : Int) (x : Bs) (e : Ending) (w' : World) : Prop :=
  ∃ s : SA, e = .returned (.tuple #[.agg (sideC (sideN T k x).1 s), .bool (word k x)]) ∧ s.q.map (·.r) = (sideN T k x).2 ∧ Post w (fun _ => False) (SideO (sideN T k x).1 s) w'
theorem run_set2 {F0 : Nat → Prop} {w0 w : World} {g : Nat} {t : TypeId} {X : CH.Own} {a0 a1 : Value} (h : Run F0 w0 (star (CellO g #[a0, a1] t) X) w) (hX : X.Ok) (b0 b1 : Value) :
    Run F0 w0 (star (CellO g #[b0, b1] t) X) ((w.setCell ⟨g, 0, none⟩ b0).setCell ⟨g, 1, none⟩ b1) := by
  have h0 : Run F0 w0 (star (CellO g #[b0, a1] t) X) _ := run_setc h hX 0 b0
  exact run_setc h0 hX 1 b1
theorem sr_step {rs : List Rule} {k : Int} {n : Nat} (hn : n < rs.length) : (rs.zipIdx.take (n + 1)).filterMap (arOf k) = (rs.zipIdx.take n).filterMap (arOf k) ++ (arOf k (rs[n], n)).toList := by
  have e : rs.zipIdx.take (n + 1) = rs.zipIdx.take n ++ [(rs[n], n)] := by
    rw [List.take_succ_eq_append_getElem (by rw [List.length_zipIdx]; exact hn)]
    simp
  rw [e, List.filterMap_append]
  cases h : arOf k (rs[n], n) <;> simp [h]
theorem sr_end {rs : List Rule} {k : Int} {n : Nat} (hn : rs.length ≤ n) : (rs.zipIdx.take n).filterMap (arOf k) = sideR rs k := by
  rw [List.take_of_length_le (by rw [List.length_zipIdx]; exact hn)]; rfl
end Go.Proofs.YtnppgomhhcbplaaGreatDoor
namespace Go.Proofs.YtnppgomhhcbplaaGreatDoor
open Go.RowKit Go.CH Go.CH.Scr Go.CH.Pot
open Go.ChangeMaps (setBlock)
set_option maxHeartbeats 6400000 in
set_option maxRecDepth 100000 in
theorem sideOf_any {w : World} {T : Tab} {a : TA} (hT : TabR w T a) (hz : LZ w) (k : Int) (x : Bs) (hx : x.length ≤ 1000000) :
    Calls Tryz.prog 65 #[tabV T a, .int .i64 k, .string (bs x)] w (SideRet w T k x) := by
  have HT := hide hT
  have HZ := hide hz
  have HX := hide hx
  have h1 : Run (fun _ => False) w (star (CellO w.heap.size (tabC T a) 25) emp) _ := run_new (Run.begin w) emp_ok (tabC T a) 25
  have KF := hide (fun W (hz : LZ W) => fold_any k (bs x) W (by rw [bs_size]; exact hx) hz)
  simp only [bl_bs] at KF
  unfold BelowRet at KF
  have H1 := hide h1
  clear hT hz hx h1
  unfold tabV tabC
  unfold tabC at H1
  go_enter Tryz.func65, Tryz.ntmps65
  have H2 := hide (show Run (fun _ => False) w (star (CellO (w.heap.size + 1) #[.slice none 0 0, .slice none 0 0] 87) (star (CellO w.heap.size #[.slice a.A T.rs.length a.c, .slice a.D T.ds.length a.d, .slice a.E T.es.length a.e, .int .i64 T.drop, .int .i64 T.ord, .int .i64 T.ini] 25) emp)) _ from (by have h2 := run_new H1.out (star_ok cell_ok emp_ok) #[.slice none 0 0, .slice none 0 0] 87; rw [World.size_alloc] at h2; exact h2))
  go_wp2_with fail
  clear H1
  generalize hw1 : (w.alloc (.cells #[.slice a.A T.rs.length a.c, .slice a.D T.ds.length a.d, .slice a.E T.es.length a.e, .int .i64 T.drop, .int .i64 T.ord, .int .i64 T.ini] 25)).alloc (.cells #[.slice none 0 0, .slice none 0 0] 87) = w1 at *
  clear hw1
  generalize w.heap.size + 1 = gr at *
  generalize w.heap.size = gt at *
  have OK2 := hide (show (star (CellO gr #[.slice none 0 0, .slice none 0 0] 87) (star (CellO gt #[.slice a.A T.rs.length a.c, .slice a.D T.ds.length a.d, .slice a.E T.es.length a.e, .int .i64 T.drop, .int .i64 T.ord, .int .i64 T.ini] 25) emp)).Ok from star_ok cell_ok (star_ok cell_ok emp_ok))
  have HZW := hide (fun W O (h : Run (fun _ => False) w O W) => HZ.out.below (h.mod.below (fun _ _ h => h)))
  by_cases hw : word k x = true
  · have e1 : foldN k x = (lower x, 0) := by unfold foldN; rw [if_pos hw]
    have e2 : lettersN k (lower x) = ((ltrs k (lower x)).1, 0) := by unfold lettersN; rw [if_pos (fold_word hw)]
    have e3 : sideN T k x = ((ltrs k (lower x)).1, sideR T.rs k) := by unfold sideN; rw [if_pos hw]
    have hlo : (openN k x).1 = (ltrs k (lower x)).1 := by unfold openN; rw [if_pos hw]
    have HLL := hide (show (ltrs k (lower x)).1.length ≤ 1000000 from by rw [← hlo]; exact Nat.le_trans (openN_len k x) (by omega))
    have KL := hide (fun W (hz : LZ W) => Letters_any k (bs (lower x)) W (by rw [bs_size]; unfold lower; rw [List.length_map]; exact HX.out) hz)
    simp only [bl_bs] at KL
    unfold LtrsRet at KL
    simp only [e2] at KL
    simp only [e1] at KF
    have HSR := hide (show ∀ (l : List Bs) (s : SA) W, l = (ltrs k (lower x)).1 → s.q.map (·.r) = sideR T.rs k → Post w (fun _ => False) (SideO l s) W → SideRet w T k x (.returned (.tuple #[.agg (sideC l s), .bool true])) W from fun l s W hl hq hp => by
      unfold SideRet
      rw [e3, hw]
      subst hl
      exact ⟨s, rfl, hq, hp⟩)
    obtain ⟨l, hl⟩ : ∃ l, l = (ltrs k (lower x)).1 := ⟨_, rfl⟩
    have HL := hide hl
    rw [← hl] at KL HLL
    clear e1 e2 e3 hw hlo hl
    refine (KF.out _ (HZW.out _ _ H2.out)).mono ?_
    rintro e9 w2 ⟨rfl, hb⟩
    have H3 := hide (H2.out.below OK2.out hb)
    have KL2 := hide (KL.out _ (HZW.out _ _ H3.out))
    clear KF KL H2 hb
    dsimp only
    go_wp2_with fail
    refine KL2.out.mono ?_
    rintro e9 w3 ⟨L, lc, rfl, hp⟩
    have H4 := hide (H3.out.fresh OK2.out hp)
    clear KL2 H3 hp
    dsimp only
    obtain ⟨n1, hn1⟩ : ∃ n, n = l.length := ⟨_, rfl⟩
    have HN1 := hide hn1
    rw [← hn1]
    clear hn1
    have HTW := hide (HT.out.below (H4.out.mod.below (fun _ _ h => h)))
    have H5 := hide (run_new H4.out (star_ok str_ok OK2.out) #[.slice L n1 lc, .slice none 0 0] 87)
    clear H4
    obtain ⟨fr, hfr⟩ := H5.out.drop.drop.drop.fst
    have c0 := cell_at (i := 0) hfr rfl
    clear hfr
    go_wp2_with fail
    clear c0
    generalize w3.alloc (.cells #[.slice L n1 lc, .slice none 0 0] 87) = w4 at *
    generalize w3.heap.size = gp at *
    obtain ⟨Z, hZ⟩ : ∃ Z, Z = star (StrO L lc l) (star (CellO gr #[.slice none 0 0, .slice none 0 0] 87) (star (CellO gt #[.slice a.A T.rs.length a.c, .slice a.D T.ds.length a.d, .slice a.E T.es.length a.e, .int .i64 T.drop, .int .i64 T.ord, .int .i64 T.ini] 25) emp)) := ⟨_, rfl⟩
    have okZ : Z.Ok := by rw [hZ]; exact star_ok str_ok OK2.out
    have H6 := hide (((H5.out.fresh (star_ok cell_ok (star_ok str_ok OK2.out)) (⟨fun _ => False, row_nil _ _ _, Mod.refl _ _, fun i hi => .inl hi⟩ : Post _ (fun _ => False) (ArsO none 0 []) _)).perm (by rw [hZ]; unfold FromO; rw [emp_star]; ac_rfl : _ = star (CellO gp #[.slice L n1 lc, .slice none 0 0] 87) (star (ArsO none 0 []) (star (FromO []) Z)))))
    have HZZ := hide hZ
    have OKZ := hide okZ
    obtain ⟨N, hN⟩ : ∃ N, N = T.rs.length := ⟨_, rfl⟩
    have HNB := hide (show N ≤ 1000000 from by rw [hN]; exact HT.out.lr)
    clear H5 hZ okZ OK2 HTW
    rw [← hN]
    have HN := hide hN
    clear hN
    go_loopw [39] (fun i wr => ∃ (n : Nat) (q : List RA) (A : Option Addr) (c : Nat), n ≤ N ∧ q.length ≤ n ∧ i = .int .i64 n ∧ q.map (·.r) = (T.rs.zipIdx.take n).filterMap (arOf k) ∧ Run (fun _ => False) w (star (CellO gp #[.slice L n1 lc, .slice A q.length c] 87) (star (ArsO A c q) (star (FromO q) Z))) wr) (fun i _ => N - (intOf i).toNat)
    case atStart => exact ⟨0, [], none, 0, Nat.zero_le _, Nat.zero_le _, rfl, rfl, H6.out⟩
    case round =>
      clear H6
      obtain ⟨n, q, A, c, hn, hql, rfl, hq, hR⟩ := hrel
      have HR := hide hR
      have HQ := hide hq
      have HQL := hide hql
      clear hR hq hql
      by_cases hlt : n < N
      · have hkn : n < T.rs.length := by rw [← HN.out]; exact hlt
        have HK1 := hide (show n + 1 ≤ N from hlt)
        have hkb : (n : Int) < 1000000 := by have := HNB.out; omega
        obtain ⟨b, o, hA, hc⟩ := HT.out.rs.at (by omega)
        rw [hA]
        obtain ⟨r0, r1, r2, r3⟩ := hc wr (HR.out.mod.below (fun _ _ h => h)) n hkn
        have HA := hide hA
        have HSM := hide (HT.out.sr _ (List.getElem_mem hkn))
        have HST := hide (sr_step (k := k) hkn)
        clear hc hA
        have HAR : ∀ R, R = T.rs[n] → arOf k (R, n) = if R.k = k then (if word k R.f = true then some ⟨n, R.c, (ltrs k R.f).1, R.t⟩ else none) else none := fun R _ => rfl
        have HAR := hide (HAR _ rfl)
        rw [HAR.out] at HST
        clear HAR
        generalize T.rs[n] = R at *
        obtain ⟨Rk, Rf, Rt, Rc⟩ := R
        dsimp only at r0 r1 r2 r3 HSM HST
        have OKR := hide (show (star (CellO gp #[.slice L n1 lc, .slice A q.length c] 87) (star (ArsO A c q) (star (FromO q) Z))).Ok from star_ok cell_ok (star_ok ars_ok (star_ok from_ok OKZ.out)))
        have H7 := hide (run_new HR.out OKR.out #[.int .i64 0, .string { data := #[] }, .string { data := #[] }, .int .i64 0] 41)
        go_upto_region 10 with (fail)
        iterate 13 (first | go_values | go_guarded | go_step)
        clear HR r0 r1 r2 r3
        generalize wr.alloc (.cells #[.int .i64 0, .string { data := #[] }, .string { data := #[] }, .int .i64 0] 41) = w5 at *
        generalize wr.heap.size = gq at *
        obtain ⟨r0, r1, r2, r3, rf⟩ := run_c4 H7.out
        go_upto_region 11 with (fail)
        have H8 := hide (run_setc (run_setc (run_setc (run_setc H7.out OKR.out 0 (.int .i64 Rk)) OKR.out 1 (.string (bs Rf))) OKR.out 2 (.string (bs Rt))) OKR.out 3 (.int .i64 Rc) : Run (fun _ => False) w (star (CellO gq #[.int .i64 Rk, .string (bs Rf), .string (bs Rt), .int .i64 Rc] 41) (star (CellO gp #[.slice L n1 lc, .slice A q.length c] 87) (star (ArsO A c q) (star (FromO q) Z)))) _)
        clear H7 r0 r1 r2 r3 rf
        generalize (((w5.setCell ⟨gq, 0, none⟩ (.int .i64 Rk)).setCell ⟨gq, 1, none⟩ (.string (bs Rf))).setCell ⟨gq, 2, none⟩ (.string (bs Rt))).setCell ⟨gq, 3, none⟩ (.int .i64 Rc) = w6 at *
        obtain ⟨r0, r1, r2, r3, rf⟩ := run_c4 H8.out
        by_cases hkk : Rk = k
        · have t1 : (Rk != k) = false := by simp [hkk]
          rw [if_pos hkk] at HST
          have KL := hide (fun W (hz : LZ W) => Letters_any k (bs Rf) W (by rw [bs_size]; exact HSM.out.1) hz)
          simp only [bl_bs] at KL
          unfold LtrsRet at KL
          have KL2 := hide (KL.out _ (HZW.out _ _ H8.out))
          clear KL hkk
          cases hwf : word k Rf with
          | true =>
            have e2 : lettersN k Rf = ((ltrs k Rf).1, 0) := by unfold lettersN; rw [if_pos hwf]
            rw [if_pos hwf] at HST
            simp only [e2] at KL2
            have HS2 := hide (show _ = _ ++ [_] from HST.out)
            clear HST e2 hwf
            generalize (ltrs k Rf).1 = f at *
            go_wp2_with fail
            refine KL2.out.mono ?_
            rintro e9 w7 ⟨F, fc, rfl, hp⟩
            have H9 := hide (H8.out.fresh (star_ok cell_ok OKR.out) hp)
            clear KL2 H8 hp r0 r1 r2 r3 rf t1
            dsimp only
            obtain ⟨r0, r1, r2, r3, rf⟩ := run_c4 H9.out.drop
            obtain ⟨fp, hfp⟩ := H9.out.drop.drop.fst
            have c1 := cell_at (i := 1) hfp rfl
            clear hfp
            have OKY := hide (show (star (StrO F fc f) (star (CellO gq #[.int .i64 Rk, .string (bs Rf), .string (bs Rt), .int .i64 Rc] 41) (star (CellO gp #[.slice L n1 lc, .slice A q.length c] 87) (star (FromO q) Z)))).Ok from star_ok str_ok (star_ok cell_ok (star_ok cell_ok (star_ok from_ok OKZ.out))))
            have H10 := hide (H9.out.perm (by ac_rfl : _ = star (ArsO A c q) (star (StrO F fc f) (star (CellO gq #[.int .i64 Rk, .string (bs Rf), .string (bs Rt), .int .i64 Rc] 41) (star (CellO gp #[.slice L n1 lc, .slice A q.length c] 87) (star (FromO q) Z))))))
            clear H9
            go_wp2_with (at_builtin; refine held ?_)
            refine Held.mk (app_ars rfl (.tmp 58) (.tmp 66) rfl ⟨⟨n, Rc, f, Rt⟩, F, fc⟩ rfl rfl (by rfl) (by have := HQL.out; omega) OKY.out H10.out ?_)
            intro A' c' w8 hr8
            have H11 := hide (hr8.perm (by rw [from_snoc]; ac_rfl : _ = star (CellO gp #[.slice L n1 lc, .slice A q.length c] 87) (star (ArsO A' c' (q ++ [⟨⟨n, Rc, f, Rt⟩, F, fc⟩])) (star (FromO (q ++ [⟨⟨n, Rc, f, Rt⟩, F, fc⟩])) (star (CellO gq #[.int .i64 Rk, .string (bs Rf), .string (bs Rt), .int .i64 Rc] 41) Z)))))
            clear hr8 H10 c1 r0 r1 r2 r3 rf
            obtain ⟨fp, hfp⟩ := H11.out.fst
            have c1 := cell_at (i := 1) hfp rfl
            have cf := cell_free hfp
            clear hfp
            go_upto_region 15 with (fail)
            have H12 := hide ((run_setc H11.out (star_ok ars_ok (star_ok from_ok (star_ok cell_ok OKZ.out))) 1 (.slice A' (q.length + 1) c') : Run (fun _ => False) w (star (CellO gp #[.slice L n1 lc, .slice A' (q.length + 1) c'] 87) _) _))
            clear H11 c1 cf
            generalize w8.setCell ⟨gp, 1, none⟩ (.slice A' (q.length + 1) c') = w9 at *
            go_wp2
            go_roundw
            case rel => exact ⟨n + 1, q ++ [⟨⟨n, Rc, f, Rt⟩, F, fc⟩], A', c', HK1.out, by have := HQL.out; rw [List.length_append, List.length_singleton]; omega, by go_num, by rw [HS2.out, List.map_append, HQ.out]; rfl, by
              rw [List.length_append, List.length_singleton]
              exact (H12.out.perm (by ac_rfl : _ = star (CellO gq #[.int .i64 Rk, .string (bs Rf), .string (bs Rt), .int .i64 Rc] 41) (star (CellO gp #[.slice L n1 lc, .slice A' (q.length + 1) c'] 87) (star (ArsO A' c' (q ++ [⟨⟨n, Rc, f, Rt⟩, F, fc⟩])) (star (FromO (q ++ [⟨⟨n, Rc, f, Rt⟩, F, fc⟩])) Z))))).drop⟩
            case measure => have := HK1.out; simp [intOf]; omega
          | false =>
            have e2 : lettersN k Rf = ([], 1) := by unfold lettersN; rw [if_neg (by rw [hwf]; decide)]
            rw [if_neg (by rw [hwf]; decide)] at HST
            simp only [e2] at KL2
            have HS2 := hide (HST.out.trans (List.append_nil _))
            clear HST e2 hwf
            go_wp2_with fail
            refine KL2.out.mono ?_
            rintro e9 w7 ⟨F, fc, rfl, hp⟩
            have H9 := hide (H8.out.fresh (star_ok cell_ok OKR.out) hp)
            clear KL2 H8 hp r0 r1 r2 r3 rf t1
            dsimp only
            go_wp2
            go_roundw
            case rel => exact ⟨n + 1, q, A, c, HK1.out, by have := HQL.out; omega, by go_num, by rw [HS2.out]; exact HQ.out, H9.out.drop.drop⟩
            case measure => have := HK1.out; simp [intOf]; omega
        · have t1 : (Rk != k) = true := by simp [hkk]
          rw [if_neg hkk] at HST
          have HS2 := hide (HST.out.trans (List.append_nil _))
          clear HST hkk
          go_wp2
          go_roundw
          case rel => exact ⟨n + 1, q, A, c, HK1.out, by have := HQL.out; omega, by go_num, by rw [HS2.out]; exact HQ.out, H8.out.drop⟩
          case measure => have := HK1.out; simp [intOf]; omega
      · have HQE := hide (HQ.out.trans (sr_end (by rw [← HN.out]; omega)))
        have H7 := hide (HR.out.perm (by rw [HZZ.out]; ac_rfl : _ = star (CellO gr #[.slice none 0 0, .slice none 0 0] 87) (star (CellO gp #[.slice L n1 lc, .slice A q.length c] 87) (star (StrO L lc l) (star (ArsO A c q) (star (FromO q) (star (CellO gt #[.slice a.A T.rs.length a.c, .slice a.D T.ds.length a.d, .slice a.E T.es.length a.e, .int .i64 T.drop, .int .i64 T.ord, .int .i64 T.ini] 25) emp)))))))
        clear HR
        obtain ⟨fr, hfr⟩ := H7.out.fst
        have r0 := cell_at (i := 0) hfr rfl
        have r1 := cell_at (i := 1) hfr rfl
        have rf := cell_free hfr
        obtain ⟨fp, hfp⟩ := H7.out.drop.fst
        have c0 := cell_at (i := 0) hfp rfl
        have c1 := cell_at (i := 1) hfp rfl
        clear hfr hfp
        go_wp2_with fail
        have H8 := hide (run_set2 H7.out (star_ok cell_ok (star_ok str_ok (star_ok ars_ok (star_ok from_ok (star_ok cell_ok emp_ok))))) (.slice L n1 lc) (.slice A q.length c))
        clear H7 r0 r1 rf c0 c1
        generalize (wr.setCell ⟨gr, 0, none⟩ (.slice L n1 lc)).setCell ⟨gr, 1, none⟩ (.slice A q.length c) = w9 at *
        obtain ⟨fr, hfr⟩ := H8.out.fst
        have hblk := hfr.1
        clear hfr
        refine bodyPost_ret (res_cell_tmp rfl _ _ gr 87 #[.slice L n1 lc, .slice A q.length c] (0, 0) rfl hblk Tryz.underlying87 (by kernel_rfl)) rfl ?_
        clear hblk
        have h9 : Run (fun _ => False) w (star (SideO l ⟨L, lc, A, c, q⟩) (star (CellO gr #[.slice L n1 lc, .slice A q.length c] 87) (star (CellO gp #[.slice L n1 lc, .slice A q.length c] 87) (star (CellO gt #[.slice a.A T.rs.length a.c, .slice a.D T.ds.length a.d, .slice a.E T.es.length a.e, .int .i64 T.drop, .int .i64 T.ord, .int .i64 T.ini] 25) emp)))) w9 := H8.out.perm (by unfold SideO; ac_rfl)
        have h10 := HSR.out l ⟨L, lc, A, c, q⟩ w9 HL.out HQE.out ((h9.swap.drop).post side_ok)
        unfold sideC at h10
        rw [← HN1.out] at h10
        exact h10
  · have e1 : foldN k x = ([], 1) := by unfold foldN; rw [if_neg hw]
    have e2 : sideN T k x = ([], []) := by unfold sideN; rw [if_neg hw]
    have e3 : word k x = false := Bool.eq_false_iff.2 hw
    simp only [e1] at KF
    have HFIN := hide (show ∀ W, Run (fun _ => False) w (star (CellO gr #[.slice none 0 0, .slice none 0 0] 87) (star (CellO gt #[.slice a.A T.rs.length a.c, .slice a.D T.ds.length a.d, .slice a.E T.es.length a.e, .int .i64 T.drop, .int .i64 T.ord, .int .i64 T.ini] 25) emp)) W → SideRet w T k x (.returned (.tuple #[.agg #[.slice none 0 0, .slice none 0 0], .bool false])) W from fun W h => by
      unfold SideRet
      rw [e2, e3]
      refine ⟨⟨none, 0, none, 0, []⟩, rfl, rfl, ?_⟩
      have h1 := (h.fresh (star_ok cell_ok (star_ok cell_ok emp_ok)) (⟨fun _ => False, row_nil _ _ _, Mod.refl _ _, fun i hi => .inl hi⟩ : Post _ (fun _ => False) (ArsO none 0 []) _)).fresh (star_ok ars_ok (star_ok cell_ok (star_ok cell_ok emp_ok))) (⟨fun _ => False, row_nil _ _ _, Mod.refl _ _, fun i hi => .inl hi⟩ : Post _ (fun _ => False) (StrO none 0 []) _)
      have h2 : Run (fun _ => False) w (star (SideO [] ⟨none, 0, none, 0, []⟩) (star (CellO gr #[.slice none 0 0, .slice none 0 0] 87) (star (CellO gt #[.slice a.A T.rs.length a.c, .slice a.D T.ds.length a.d, .slice a.E T.es.length a.e, .int .i64 T.drop, .int .i64 T.ord, .int .i64 T.ini] 25) emp))) W := h1.perm (by unfold SideO FromO; simp only [star_emp_eq]; ac_rfl)
      exact (h2.swap.drop).post side_ok)
    clear e1 e2 e3 hw
    refine (KF.out _ (HZW.out _ _ H2.out)).mono ?_
    rintro e9 w2 ⟨rfl, hb⟩
    have H3 := hide (H2.out.below OK2.out hb)
    clear KF H2 hb
    dsimp only
    obtain ⟨fr, hfr⟩ := H3.out.fst
    have r0 := cell_at (i := 0) hfr rfl
    have r1 := cell_at (i := 1) hfr rfl
    have rf := cell_free hfr
    clear hfr
    go_wp2_with fail
    have H4 := hide (run_set2 H3.out (star_ok cell_ok emp_ok) (.slice none 0 0) (.slice none 0 0))
    clear H3 r0 r1 rf
    generalize (w2.setCell ⟨gr, 0, none⟩ (.slice none 0 0)).setCell ⟨gr, 1, none⟩ (.slice none 0 0) = w3 at *
    obtain ⟨fr, hfr⟩ := H4.out.fst
    have hblk := hfr.1
    clear hfr
    refine bodyPost_ret (res_cell_tmp rfl _ _ gr 87 #[.slice none 0 0, .slice none 0 0] (0, 0) rfl hblk Tryz.underlying87 (by kernel_rfl)) rfl ?_
    clear hblk
    exact HFIN.out _ H4.out
end Go.Proofs.YtnppgomhhcbplaaGreatDoor
namespace Go.Proofs.YtnppgomhhcbplaaGreatDoor
open Go.RowKit Go.CH Go.CH.Scr Go.CH.Pot
open Go.ChangeMaps (setBlock)
theorem ne_t (p q : Bs) : (!(@BEq.beq (List UInt8) (@List.instBEq UInt8 instBEqOfDecidableEq) (bs p).toList (bs q).toList)) = !decide (p = q) := by
  rw [ByteArray.toList_eq, ByteArray.toList_eq]
  show (!(@BEq.beq (List UInt8) (@List.instBEq UInt8 instBEqOfDecidableEq) p q)) = _
  by_cases h : p = q <;> simp [h]
set_option maxHeartbeats 3200000 in
set_option maxRecDepth 100000 in
theorem equal_any {w : World} {A B : Option Addr} {c d : Nat} {C D : List Bs} (hA : Vst w A C) (hB : Vst w B D) (hl : C.length ≤ 4611686018427387904) (hl2 : D.length ≤ 4611686018427387904) :
    Calls Tryz.prog 97 #[.slice A C.length c, .slice B D.length d] w (BelowRet w (.bool (decide (C = D)))) := by
  have HA := hide hA
  have HB := hide hB
  obtain ⟨n, hn⟩ : ∃ n, n = C.length := ⟨_, rfl⟩
  obtain ⟨m, hm⟩ : ∃ m, m = D.length := ⟨_, rfl⟩
  rw [← hn] at hl ⊢
  rw [← hm] at hl2 ⊢
  have HN := hide hn
  have HM := hide hm
  clear hA hB hn hm
  by_cases hnm : n = m
  · subst hnm
    obtain ⟨b, hb⟩ : ∃ b, b = decide (C = D) := ⟨_, rfl⟩
    rw [← hb]
    have HV := hide hb
    clear hb
    go_enter Tryz.func97, Tryz.ntmps97
    go_wp2_with fail
    go_loopw [13] (fun i wr => ∃ k : Nat, k ≤ n ∧ i = .int .i64 k ∧ C.take k = D.take k ∧ Below w.heap.size w wr) (fun i _ => n - (intOf i).toNat)
    case atStart => exact ⟨0, Nat.zero_le _, rfl, by simp, Below.refl _ _⟩
    case round =>
      obtain ⟨k, hk, rfl, heq, hbel⟩ := hrel
      have HEQ := hide heq
      have HBE := hide hbel
      clear heq hbel
      by_cases hlt : k < n
      · have hkc : k < C.length := by rw [← HN.out]; exact hlt
        have hkd : k < D.length := by rw [← HM.out]; exact hlt
        have HLT := hide hlt
        obtain ⟨b1, o1, rfl, hc1⟩ := HA.out.at (by omega)
        obtain ⟨b2, o2, rfl, hc2⟩ := HB.out.at (by omega)
        have HST := hide (show C[k] = D[k] → C.take (k + 1) = D.take (k + 1) from fun h => by rw [List.take_succ_eq_append_getElem hkc, List.take_succ_eq_append_getElem hkd, HEQ.out, h])
        have HNO := hide (show C[k] ≠ D[k] → b = false from fun h => by rw [HV.out]; exact decide_eq_false (fun e => h (by simp only [e])))
        have HB3 := hide (below_drew HBE.out)
        have hS1 := And.intro (hc1 _ HB3.out k hkc) (hc2 _ HB3.out k hkd)
        clear hc1 hc2
        generalize C[k] = p at *
        generalize D[k] = q at *
        go_wp2_with fail
        refine wp_region_lex (fun W => W.cell? ⟨b1, o1 + k, none⟩ = some (.string (bs p)) ∧ W.cell? ⟨b2, o2 + k, none⟩ = some (.string (bs q))) (by rfl) (by kernel_rfl) hS1 ?_
        clear hS1
        (repeat (first | (refine lex_skip (by rfl) ?_; try simp only [Act.put, List.setIfInBounds_toArray, List.set_cons_zero, List.set_cons_succ]) | (refine lex_read (v := ?_) (by rfl) ?_ ?_; rotate_left; (focus (intro w' hS'; go_simp; (try with_reducible rfl); done)); try simp only [Act.put, List.setIfInBounds_toArray, List.set_cons_zero, List.set_cons_succ])))
        refine lex_nil ?_
        by_cases hpq : p = q
        · have t := (ne_t p q).trans (show _ = false from by simp [hpq])
          have HTK := hide (HST.out hpq)
          clear hpq
          rw [t]
          clear t
          go_wp2
          go_roundw
          case rel => exact ⟨k + 1, HLT.out, by go_num, HTK.out, HB3.out⟩
          case measure => have := HLT.out; simp [intOf]; omega
        · have t := (ne_t p q).trans (show _ = true from by simp [hpq])
          have HF := hide (HNO.out hpq)
          clear hpq
          rw [t]
          clear t
          go_wp2
          go_ret
          exact bel_bool HF.out HB3.out
      · have HF := hide (show b = true from by
          rw [HV.out]
          have h := HEQ.out
          have e : k = n := by omega
          rw [List.take_of_length_le (by rw [← HN.out]; omega), List.take_of_length_le (by rw [← HM.out]; omega)] at h
          exact decide_eq_true h)
        clear HEQ
        go_wp2
        go_ret
        exact bel_bool HF.out HBE.out
  · have t : ((n : Int) != (m : Int)) = true := by simp; omega
    have hf : decide (C = D) = false := decide_eq_false (fun e => hnm (by rw [HN.out, HM.out, e]))
    rw [hf]
    clear hf hnm
    go_enter Tryz.func97, Tryz.ntmps97
    go_wp2
    go_ret
    exact ⟨rfl, Below.refl _ _⟩
end Go.Proofs.YtnppgomhhcbplaaGreatDoor
namespace Go.Proofs.YtnppgomhhcbplaaGreatDoor
open Go.RowKit Go.CH Go.CH.Scr Go.CH.Pot
open Go.ChangeMaps (setBlock)
theorem run_slice_lohi {P : Program} {t e : TypeId} {z : Value} {size bytes : Nat} (S : SliceOk P t e z size bytes) (A : Option Addr) (n c k h : Nat) (kd kd2 : IntKind) (l l2 : Int) (hl : l = k) (hl2 : l2 = h) (h1 : k ≤ h) (h2 : h ≤ c) (w : World) :
    (Instr.slice t (.slice A n c) (some (.int kd l)) (some (.int kd2 l2)) none).run P w = .ok (.slice (cutA A c k size) (h - k) (c - k)) w := by
  obtain ⟨ht, hi, hz, hsz⟩ := S
  obtain ⟨i, hi, hi1, hi2, hi3⟩ := info_parts hi
  subst hl hl2
  have h0 : (0 : Int) ≤ k ∧ (k : Int) ≤ h := by omega
  simp [Instr.slice, run_underlying ht, Instr.sliceBounds, Instr.sliceBound, asIntOf, h1, h2, sizeOf, typeInfo, hi, hi2, cutA]
theorem vst_take {w : World} {A : Option Addr} {l : List Bs} (n : Nat) (h : Vst w A l) : Vst w A (l.take n) := by
  have e : strB (l.take n) = (strB l).take n := by unfold strB; rw [List.map_take]
  refine ⟨by rw [e, List.length_take, h.1, List.length_take]; omega, fun u hu => h.2.1 u (by rw [e] at hu; exact List.mem_of_mem_take hu), fun hn => ?_⟩
  obtain ⟨ad, rfl, hc⟩ := h.2.2 (by rw [List.length_take] at hn; omega)
  refine ⟨ad, rfl, fun j u hu => hc j u ?_⟩
  rw [e, List.getElem?_take] at hu
  split at hu
  · exact hu
  · cases hu
set_option maxHeartbeats 3200000 in
set_option maxRecDepth 100000 in
theorem fits_any {w : World} {L F R : Option Addr} {lc fc rn rc : Nat} {l : List Bs} {r : AR} {i : Nat} (hL : Vst w L l) (hF : Vst w F r.f) (hi : i ≤ l.length) (hc : l.length ≤ lc) (hll : l.length ≤ 1000000) (hfl : r.f.length ≤ 1000000) :
    Calls Tryz.prog 68 #[.agg #[.slice L l.length lc, .slice R rn rc], .agg #[.int .i64 (r.ix : Nat), .int .i64 r.c, .slice F r.f.length fc, .string (bs r.t)], .int .i64 i] w (BelowRet w (.bool (fitsA l r i))) := by
  obtain ⟨ix, c, f, t⟩ := r
  dsimp only at hF hfl ⊢
  have HFA : fitsA l ⟨ix, c, f, t⟩ i = (decide (i + f.length ≤ l.length) && decide ((l.drop i).take f.length = f)) := rfl
  have HV := hide HFA
  have KE := hide (fun (W : World) (h : Below w.heap.size w W) => equal_any (c := lc - i) (d := fc) (vst_take f.length (vst_cut (hL.below h) hi hc)) (hF.below h) (by rw [List.length_take]; omega) (by omega))
  have h1 := run_new (Run.begin w) emp_ok #[.slice L l.length lc, .slice R rn rc] 87
  have h2 := run_new h1 (star_ok cell_ok emp_ok) #[.int .i64 (ix : Nat), .int .i64 c, .slice F f.length fc, .string (bs t)] 101
  rw [World.size_alloc] at h2
  have OK := hide (show (star (CellO (w.heap.size + 1) #[.int .i64 (ix : Nat), .int .i64 c, .slice F f.length fc, .string (bs t)] 101) (star (CellO w.heap.size #[.slice L l.length lc, .slice R rn rc] 87) emp)).Ok from star_ok cell_ok (star_ok cell_ok emp_ok))
  have HBW := hide (fun W O (h : Run (fun _ => False) w O W) => (show Below w.heap.size w W from h.mod.below (fun _ _ h => h)))
  have HBR := hide (fun W O v (h : Run (fun _ => False) w O W) => (show BelowRet w v (.returned v) W from ⟨rfl, h.mod.below (fun _ _ h => h)⟩))
  have HSL : i + f.length ≤ l.length → ∀ W', (Instr.slice 59 (.slice L l.length lc) (some (.int .i64 (i : Int))) (some (.int .i64 ((i : Int) + (f.length : Int)))) none).run Tryz.prog W' = .ok (.slice (cutA L lc i 1) f.length (lc - i)) W' := fun h W' => by
    have := run_slice_lohi strsOk L l.length lc i (i + f.length) .i64 .i64 (i : Int) ((i : Int) + (f.length : Int)) rfl (by omega) (by omega) (by omega) W'
    rw [this]
    congr 2
    omega
  have HSL := hide HSL
  have HLT := hide (show i + f.length ≤ l.length → ((l.drop i).take f.length).length = f.length from fun h => by rw [List.length_take, List.length_drop]; omega)
  have H2 := hide h2
  obtain ⟨b, hb⟩ : ∃ b, b = fitsA l ⟨ix, c, f, t⟩ i := ⟨_, rfl⟩
  rw [← hb] at HV ⊢
  clear h1 h2 HFA hb hL hF
  have hi2 : (i : Int) ≤ 1000000 := by omega
  generalize f.length = fl at *
  generalize l.length = ll at *
  go_enter Tryz.func68, Tryz.ntmps68
  go_wp2_with fail
  generalize (w.alloc (.cells #[.slice L ll lc, .slice R rn rc] 87)).alloc (.cells #[.int .i64 (ix : Nat), .int .i64 c, .slice F fl fc, .string (bs t)] 101) = w1 at *
  generalize w.heap.size + 1 = g2 at *
  generalize w.heap.size = g1 at *
  have hSS : ∀ W, Run (fun _ => False) w (star (CellO g2 #[.int .i64 (ix : Nat), .int .i64 c, .slice F fl fc, .string (bs t)] 101) (star (CellO g1 #[.slice L ll lc, .slice R rn rc] 87) emp)) W → (fun W : World => W.cell? ⟨g2, 2, none⟩ = some (.slice F fl fc) ∧ W.cell? ⟨g1, 0, none⟩ = some (.slice L ll lc)) W := fun W h => by
    obtain ⟨f1, hf1⟩ := h.fst
    obtain ⟨f2, hf2⟩ := h.drop.fst
    exact ⟨cell_at hf1 rfl, cell_at hf2 rfl⟩
  have HSS := hide hSS
  clear hSS
  have H3 := hide (H2.out.drew OK.out)
  have hS0 := HSS.out _ H3.out
  clear H2
  have hwr : IntKind.i64.wrap ((i : Int) + (fl : Int)) = (i : Int) + (fl : Int) := IntWalk.i64_in _ (by omega)
  by_cases hle : i + fl ≤ ll
  · have hd1 : decide ((i : Int) + (fl : Int) ≤ (ll : Int)) = true := decide_eq_true (by omega)
    have hsl := HSL.out hle
    have hlt := HLT.out hle
    have HB := hide (show b = decide ((l.drop i).take fl = f) from by rw [HV.out, decide_eq_true hle, Bool.true_and])
    rw [hlt] at KE
    clear HSL HLT HV hlt
    refine wp_region_lex (fun W : World => W.cell? ⟨g2, 2, none⟩ = some (.slice F fl fc) ∧ W.cell? ⟨g1, 0, none⟩ = some (.slice L ll lc)) (by rfl) (by kernel_rfl) hS0 ?_
    clear hS0
    generalize w1.drew = w2 at *
    (repeat (first | (refine lex_skip (by rfl) ?_; try simp only [Act.put, List.setIfInBounds_toArray, List.set_cons_zero, List.set_cons_succ]) | (refine lex_read (v := ?_) (by rfl) ?_ ?_; rotate_left; (focus (intro w' hS'; go_simp; (try with_reducible rfl); done)); try simp only [Act.put, List.setIfInBounds_toArray, List.set_cons_zero, List.set_cons_succ])))
    refine lex_chain rfl (by rfl) (fun K hK => ?_)
    go_wp2_with fail
    refine (KE.out _ (HBW.out _ _ H3.out)).mono ?_
    rintro e9 w3 ⟨rfl, hb⟩
    have H4 := hide (H3.out.below OK.out hb)
    clear KE H3 hb
    dsimp only
    refine hK.out _ _ (HSS.out _ H4.out) ?_
    clear hK
    (repeat (first | (refine lex_skip (by rfl) ?_; try simp only [Act.put, List.setIfInBounds_toArray, List.set_cons_zero, List.set_cons_succ]) | (refine lex_read (v := ?_) (by rfl) ?_ ?_; rotate_left; (focus (intro w' hS'; go_simp; (try with_reducible rfl); done)); try simp only [Act.put, List.setIfInBounds_toArray, List.set_cons_zero, List.set_cons_succ])))
    refine lex_nil ?_
    rw [← HB.out]
    go_wp2
    go_ret
    exact HBR.out _ _ _ H4.out
  · have hd1 : decide ((i : Int) + (fl : Int) ≤ (ll : Int)) = false := decide_eq_false (by omega)
    have HB := hide (show b = false from by rw [HV.out, decide_eq_false hle, Bool.false_and])
    clear HSL HLT HV KE
    refine wp_region_lex (fun W : World => W.cell? ⟨g2, 2, none⟩ = some (.slice F fl fc) ∧ W.cell? ⟨g1, 0, none⟩ = some (.slice L ll lc)) (by rfl) (by kernel_rfl) hS0 ?_
    clear hS0
    generalize w1.drew = w2 at *
    (repeat (first | (refine lex_skip (by rfl) ?_; try simp only [Act.put, List.setIfInBounds_toArray, List.set_cons_zero, List.set_cons_succ]) | (refine lex_read (v := ?_) (by rfl) ?_ ?_; rotate_left; (focus (intro w' hS'; go_simp; (try with_reducible rfl); done)); try simp only [Act.put, List.setIfInBounds_toArray, List.set_cons_zero, List.set_cons_succ])))
    refine lex_nil ?_
    go_wp2
    go_ret
    rw [HB.out]
    exact HBR.out _ _ _ H3.out
end Go.Proofs.YtnppgomhhcbplaaGreatDoor
namespace Go.Proofs.YtnppgomhhcbplaaGreatDoor
open Go.RowKit Go.CH Go.CH.Scr Go.CH.Pot
open Go.ChangeMaps (setBlock)
/-- Where both sides lie. -/
structure WA where
  a : SA
  b : SA
def wordsC (W : Wd) (x : WA) : Array Value := #[.slice x.a.L W.l.length x.a.lc, .slice x.a.R x.a.q.length x.a.rc, .slice x.b.L W.m.length x.b.lc, .slice x.b.R x.b.q.length x.b.rc]
/-- Both sides in memory. -/
structure AwR (W : Wd) (x : WA) (w : World) : Prop where
  l : Vst w x.a.L W.l
  m : Vst w x.b.L W.m
  ra : ArsR w x.a.R x.a.q
  rb : ArsR w x.b.R x.b.q
  fa : ∀ y ∈ x.a.q, Vst w y.A y.r.f
  fb : ∀ y ∈ x.b.q, Vst w y.A y.r.f
theorem AwR.below {W : Wd} {x : WA} {w w' : World} (h : AwR W x w) (hb : Below w.heap.size w w') : AwR W x w' :=
  ⟨h.l.below hb, h.m.below hb, h.ra.below hb, h.rb.below hb, fun y hy => (h.fa y hy).below hb, fun y hy => (h.fb y hy).below hb⟩
/-- What is known of both sides without looking at memory. -/
structure AwS (W : Wd) (x : WA) : Prop where
  qa : x.a.q.map (·.r) = sideR W.rs W.ka
  qb : x.b.q.map (·.r) = sideR W.rs W.kb
  na : x.a.q.length ≤ 1000000
  nb : x.b.q.length ≤ 1000000
  la : W.l.length ≤ x.a.lc
  lb : W.m.length ≤ x.b.lc
  l6 : W.l.length ≤ 1000000
  m6 : W.m.length ≤ 1000000
  f6 : ∀ y ∈ x.a.q, y.r.f.length ≤ 1000000 ∧ y.r.t.length ≤ 1000000
  g6 : ∀ y ∈ x.b.q, y.r.f.length ≤ 1000000 ∧ y.r.t.length ≤ 1000000
def doneN (W : Wd) (s : St) : Bool := decide (s.i = W.l.length) && (decide (s.j = W.m.length) && decide (s.a = []))
set_option maxHeartbeats 3200000 in
set_option maxRecDepth 100000 in
theorem done_any {w : World} {W : Wd} {x : WA} {s : St} : Calls Tryz.prog 40 #[.agg (wordsC W x), .agg (stC s)] w (BelowRet w (.bool (doneN W s))) := by
  have h1 := run_new (Run.begin w) emp_ok (wordsC W x) 89
  have h2 := run_new h1 (star_ok cell_ok emp_ok) (stC s) 95
  rw [World.size_alloc] at h2
  have HBR := hide (fun W O v (h : Run (fun _ => False) w O W) => (show BelowRet w v (.returned v) W from ⟨rfl, h.mod.below (fun _ _ h => h)⟩))
  have H2 := hide h2
  obtain ⟨b, hb⟩ : ∃ b, b = doneN W s := ⟨_, rfl⟩
  have HV := hide (show b = (decide (s.i = W.l.length) && (decide (s.j = W.m.length) && decide (s.a = []))) from hb)
  rw [← hb]
  clear h1 h2 hb
  unfold wordsC stC
  unfold wordsC stC at H2
  obtain ⟨si, sj, sa, sr⟩ := s
  dsimp only at HV H2 ⊢
  generalize W.l.length = n1 at *
  generalize W.m.length = n2 at *
  obtain ⟨⟨L, lc, R, rc, q⟩, ⟨M, mc, S, sc, p⟩⟩ := x
  dsimp only at H2 ⊢
  generalize q.length = qn at *
  generalize p.length = pn at *
  have HNE := hide (show sa ≠ [] → (bs sa).toList.isEmpty = false from fun h => by rw [List.isEmpty_eq_false_iff]; exact fun e => h (bs_empty.1 e))
  have HEQ := hide (show sa = [] → (bs sa).toList.isEmpty = true from fun h => by rw [List.isEmpty_iff]; exact bs_empty.2 h)
  by_cases h1 : si = n1
  · have t1 : ((si : Int) == (n1 : Int)) = true := by simp [h1]
    by_cases h2 : sj = n2
    · have t2 : ((sj : Int) == (n2 : Int)) = true := by simp [h2]
      by_cases h3 : sa = []
      · have t3 := HEQ.out h3
        have HB := hide (show b = true from by rw [HV.out]; simp [h1, h2, h3])
        clear h1 h2 h3 HV HEQ HNE
        go_enter Tryz.func40, Tryz.ntmps40
        go_wp2
        go_ret
        rw [HB.out]
        exact HBR.out _ _ _ H2.out
      · have t3 := HNE.out h3
        have HB := hide (show b = false from by rw [HV.out]; simp [h3])
        clear h1 h2 h3 HV HEQ HNE
        go_enter Tryz.func40, Tryz.ntmps40
        go_wp2
        go_ret
        rw [HB.out]
        exact HBR.out _ _ _ H2.out
    · have t2 : ((sj : Int) == (n2 : Int)) = false := by simp; omega
      have HB := hide (show b = false from by rw [HV.out]; simp [h2])
      clear h1 h2 HV HEQ HNE
      go_enter Tryz.func40, Tryz.ntmps40
      go_wp2
      go_ret
      rw [HB.out]
      exact HBR.out _ _ _ H2.out
  · have t1 : ((si : Int) == (n1 : Int)) = false := by simp; omega
    have HB := hide (show b = false from by rw [HV.out]; simp [h1])
    clear h1 HV HEQ HNE
    go_enter Tryz.func40, Tryz.ntmps40
    go_wp2
    go_ret
    rw [HB.out]
    exact HBR.out _ _ _ H2.out
end Go.Proofs.YtnppgomhhcbplaaGreatDoor
namespace Go.Proofs.YtnppgomhhcbplaaGreatDoor
open Go.RowKit Go.CH Go.CH.Scr Go.CH.Pot
open Go.ChangeMaps (setBlock)
theorem from_vst {w : World} : ∀ {q : List RA} {F : Nat → Prop}, FromO q w F → ∀ y ∈ q, Vst w y.A y.r.f
  | [], _, _, y, hy => by cases hy
  | x :: q, F, ⟨f1, f2, h1, h2, _, _⟩, y, hy => by
    rcases List.mem_cons.1 hy with rfl | hy
    · exact vst_of h1
    · exact from_vst h2 y hy
theorem side_get {w : World} {F : Nat → Prop} {l : List Bs} {s : SA} (h : SideO l s w F) : Vst w s.L l ∧ l.length ≤ s.lc ∧ ArsR w s.R s.q ∧ ∀ y ∈ s.q, Vst w y.A y.r.f := by
  obtain ⟨f1, f2, h1, ⟨f3, f4, h3, h4, -, -⟩, -, -⟩ := h
  exact ⟨vst_of h1, (row_cap h1.1).1, ars_of h3, from_vst h4⟩
theorem sideN_fst (T : Tab) (k : Int) (x : Bs) : (sideN T k x).1 = (openN k x).1 := by
  unfold sideN openN
  by_cases h : word k x = true
  · rw [if_pos h, if_pos h]
  · rw [if_neg h, if_neg h]
theorem sideR_small {T : Tab} {k : Int} (hr : T.rs.length ≤ 1000000) (hs : ∀ R ∈ T.rs, R.f.length ≤ 1000000 ∧ R.t.length ≤ 1000000) : (sideR T.rs k).length ≤ 1000000 ∧ ∀ r ∈ sideR T.rs k, r.f.length ≤ 1000000 ∧ r.t.length ≤ 1000000 := by
  unfold sideR
  refine ⟨Nat.le_trans (List.length_filterMap_le ..) (by rw [List.length_zipIdx]; exact hr), fun r h => ?_⟩
  obtain ⟨⟨R, n⟩, h1, h2⟩ := List.mem_filterMap.1 h
  have hR := zip_mem _ _ h1
  unfold arOf at h2
  dsimp only at h2 hR
  split at h2
  · split at h2
    · rename_i hw
      injection h2 with h2
      subst h2
      exact ⟨Nat.le_trans (word_iff.1 hw).2.2 (by omega), (hs R hR).2⟩
    · cases h2
  · cases h2
/-- What open answers. -/
def WordsRet (w : World) (T : Tab) (k : Int) (x : Bs) (k2 : Int) (y : Bs) (e : Ending) (w' : World) : Prop :=
  ∃ wa : WA, e = .returned (.tuple #[.agg (wordsC (ofW T k x k2 y) wa), .bool (okW T k x k2 y)]) ∧ Below w.heap.size w w' ∧ (okW T k x k2 y = true → AwR (ofW T k x k2 y) wa w' ∧ AwS (ofW T k x k2 y) wa)
theorem words_of {w W : World} {T : Tab} {a : TA} {k k2 : Int} {x y : Bs} {s1 s2 : SA} {Y : CH.Own} (hT : TabR w T a) (hq1 : s1.q.map (·.r) = (sideN T k x).2) (hq2 : s2.q.map (·.r) = (sideN T k2 y).2)
    (h : Run (fun _ => False) w (star (SideO (sideN T k x).1 s1) (star (SideO (sideN T k2 y).1 s2) Y)) W) (b : Bool) (hb : okW T k x k2 y = b) :
    WordsRet w T k x k2 y (.returned (.tuple #[.agg (wordsC (ofW T k x k2 y) ⟨s1, s2⟩), .bool b])) W := by
  have hbel : Below w.heap.size w W := h.mod.below (fun _ _ h => h)
  refine ⟨⟨s1, s2⟩, by rw [hb], hbel, fun ho => ?_⟩
  obtain ⟨hw1, hw2, -⟩ := okW_iff.1 ho
  obtain ⟨f1, hf1⟩ := h.fst
  obtain ⟨f2, hf2⟩ := h.drop.fst
  obtain ⟨a1, a2, a3, a4⟩ := side_get hf1
  obtain ⟨b1, b2, b3, b4⟩ := side_get hf2
  rw [sideN_fst] at a1 a2 b1 b2
  have e1 : (sideN T k x).2 = sideR T.rs k := by unfold sideN; rw [if_pos hw1]
  have e2 : (sideN T k2 y).2 = sideR T.rs k2 := by unfold sideN; rw [if_pos hw2]
  rw [e1] at hq1
  rw [e2] at hq2
  have n1 := sideR_small (k := k) hT.lr hT.sr
  have n2 := sideR_small (k := k2) hT.lr hT.sr
  rw [← hq1] at n1
  rw [← hq2] at n2
  refine ⟨⟨a1, b1, a3, b3, a4, b4⟩, ⟨hq1, hq2, by simpa using n1.1, by simpa using n2.1, a2, b2, Nat.le_trans (openN_len k x) (by omega), Nat.le_trans (openN_len k2 y) (by omega), fun z hz => ?_, fun z hz => ?_⟩⟩
  · exact n1.2 z.r (List.mem_map_of_mem hz)
  · exact n2.2 z.r (List.mem_map_of_mem hz)
end Go.Proofs.YtnppgomhhcbplaaGreatDoor
