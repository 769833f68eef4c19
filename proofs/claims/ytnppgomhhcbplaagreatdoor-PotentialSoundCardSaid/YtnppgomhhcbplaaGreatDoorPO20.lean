/-
  Align: open, walked.
  Align: moves: what its iterator leans on.
  Align: moves.
  Align: states as keys of maps; what costs owns.
  A range over a function whose iterator makes memory of its own ahead of the first round.
-/
import Derived.Test.YtnppgomhhcbplaaGreatDoorPO19
import Derived.Test.YtnppgomhhcbplaaGreatDoorPO12
import Derived.Test.YtnppgomhhcbplaaGreatDoorPO5
set_option linter.unusedSimpArgs false
set_option linter.unusedVariables false
namespace Go.Proofs.YtnppgomhhcbplaaGreatDoor
open Go.RowKit Go.CH Go.CH.Scr Go.CH.Pot
open Go.ChangeMaps (setBlock)
set_option maxHeartbeats 6400000 in
set_option maxRecDepth 100000 in
theorem open_any {w : World} {T : Tab} {a : TA} (hT : TabR w T a) (hz : LZ w) (k : Int) (x : Bs) (k2 : Int) (y : Bs) (hx : x.length ≤ 1000000) (hy : y.length ≤ 1000000) :
    Calls Tryz.prog 38 #[tabV T a, .int .i64 k, .string (bs x), .int .i64 k2, .string (bs y)] w (WordsRet w T k x k2 y) := by
  have HT := hide hT
  have HZ := hide hz
  have h1 : Run (fun _ => False) w (star (CellO w.heap.size (tabC T a) 25) emp) _ := run_new (Run.begin w) emp_ok (tabC T a) 25
  have K1 := hide (fun W (h : Below w.heap.size w W) => sideOf_any (hT.below h) (hz.below h) k x hx)
  have K2 := hide (fun W (h : Below w.heap.size w W) => sideOf_any (hT.below h) (hz.below h) k2 y hy)
  have KV := hide (fun W (h : Below w.heap.size w W) => tvalid_any (hT.below h) (hz.below h))
  have HBE := hide (fun W O (h : Run (fun _ => False) w O W) => (show Below w.heap.size w W from h.mod.below (fun _ _ h => h)))
  have H1 := hide h1
  clear hT hz h1
  unfold SideRet at K1 K2
  unfold tabV tabC at K1 K2 KV ⊢
  unfold tabC at H1
  go_enter Tryz.func38, Tryz.ntmps38
  have H2 := hide (show Run (fun _ => False) w (star (CellO (w.heap.size + 1) #[.slice none 0 0, .slice none 0 0, .slice none 0 0, .slice none 0 0] 89) (star (CellO w.heap.size #[.slice a.A T.rs.length a.c, .slice a.D T.ds.length a.d, .slice a.E T.es.length a.e, .int .i64 T.drop, .int .i64 T.ord, .int .i64 T.ini] 25) emp)) _ from (by have h2 := run_new H1.out (star_ok cell_ok emp_ok) #[.slice none 0 0, .slice none 0 0, .slice none 0 0, .slice none 0 0] 89; rw [World.size_alloc] at h2; exact h2))
  go_upto_region 1 with (fail)
  clear H1
  generalize hw1 : (w.alloc (.cells #[.slice a.A T.rs.length a.c, .slice a.D T.ds.length a.d, .slice a.E T.es.length a.e, .int .i64 T.drop, .int .i64 T.ord, .int .i64 T.ini] 25)).alloc (.cells #[.slice none 0 0, .slice none 0 0, .slice none 0 0, .slice none 0 0] 89) = w1 at *
  clear hw1
  generalize w.heap.size + 1 = gr at *
  generalize w.heap.size = gt at H2 ⊢
  have OK2 := hide (show (star (CellO gr #[.slice none 0 0, .slice none 0 0, .slice none 0 0, .slice none 0 0] 89) (star (CellO gt #[.slice a.A T.rs.length a.c, .slice a.D T.ds.length a.d, .slice a.E T.es.length a.e, .int .i64 T.drop, .int .i64 T.ord, .int .i64 T.ini] 25) emp)).Ok from star_ok cell_ok (star_ok cell_ok emp_ok))
  have hct : ∀ (W : World) (X : CH.Own), Run (fun _ => False) w (star (CellO gt #[.slice a.A T.rs.length a.c, .slice a.D T.ds.length a.d, .slice a.E T.es.length a.e, .int .i64 T.drop, .int .i64 T.ord, .int .i64 T.ini] 25) X) W → W.cell? ⟨gt, 0, none⟩ = some (.slice a.A T.rs.length a.c) ∧ W.cell? ⟨gt, 1, none⟩ = some (.slice a.D T.ds.length a.d) ∧ W.cell? ⟨gt, 2, none⟩ = some (.slice a.E T.es.length a.e) ∧ W.cell? ⟨gt, 3, none⟩ = some (.int .i64 T.drop) ∧ W.cell? ⟨gt, 4, none⟩ = some (.int .i64 T.ord) ∧ W.cell? ⟨gt, 5, none⟩ = some (.int .i64 T.ini) := fun W X h => by
    obtain ⟨f, hf⟩ := h.fst
    exact ⟨cell_at hf rfl, cell_at hf rfl, cell_at hf rfl, cell_at hf rfl, cell_at hf rfl, cell_at hf rfl⟩
  have HCT := hide hct
  clear hct
  obtain ⟨c0, c1, c2, c3, c4, c5⟩ := HCT.out _ _ H2.out.drop
  go_wp2_with fail
  refine (K1.out _ (HBE.out _ _ H2.out)).mono ?_
  rintro e9 w2 ⟨s1, rfl, hq1, hp⟩
  have HQ1 := hide hq1
  have H3 := hide (H2.out.fresh OK2.out hp)
  clear K1 H2 hp hq1 c0 c1 c2 c3 c4 c5
  obtain ⟨l1, hl1⟩ : ∃ l, l = (sideN T k x).1 := ⟨_, rfl⟩
  have HL1 := hide hl1
  rw [← hl1] at H3 ⊢
  clear hl1
  unfold sideC
  dsimp only
  have H4 := hide (run_new H3.out (star_ok side_ok OK2.out) #[.slice s1.L l1.length s1.lc, .slice s1.R s1.q.length s1.rc] 87)
  clear H3
  go_upto_region 2 with (fail)
  generalize w2.alloc (.cells #[.slice s1.L l1.length s1.lc, .slice s1.R s1.q.length s1.rc] 87) = w3 at *
  generalize w2.heap.size = ga at *
  obtain ⟨c0, c1, c2, c3, c4, c5⟩ := HCT.out _ _ H4.out.drop.drop.drop
  go_wp2_with fail
  refine (K2.out _ (HBE.out _ _ H4.out)).mono ?_
  rintro e9 w4 ⟨s2, rfl, hq2, hp⟩
  have HQ2 := hide hq2
  have H5 := hide (H4.out.fresh (star_ok cell_ok (star_ok side_ok OK2.out)) hp)
  clear K2 H4 hp hq2 c0 c1 c2 c3 c4 c5
  obtain ⟨l2, hl2⟩ : ∃ l, l = (sideN T k2 y).1 := ⟨_, rfl⟩
  have HL2 := hide hl2
  rw [← hl2] at H5 ⊢
  clear hl2
  unfold sideC
  dsimp only
  have H6 := hide (run_new H5.out (star_ok side_ok (star_ok cell_ok (star_ok side_ok OK2.out))) #[.slice s2.L l2.length s2.lc, .slice s2.R s2.q.length s2.rc] 87)
  clear H5
  go_upto_region 3 with (fail)
  generalize w4.alloc (.cells #[.slice s2.L l2.length s2.lc, .slice s2.R s2.q.length s2.rc] 87) = w5 at *
  generalize w4.heap.size = gb at *
  have HFIN0 := hide (fun (W : World) (b : Bool) (hb : okW T k x k2 y = b) (Y : CH.Own) (h : Run (fun _ => False) w (star (SideO l1 s1) (star (SideO l2 s2) Y)) W) => words_of (a := a) HT.out HQ1.out HQ2.out (by rw [← HL1.out, ← HL2.out]; exact h) b hb)
  have hwc : wordsC (ofW T k x k2 y) ⟨s1, s2⟩ = #[.slice s1.L l1.length s1.lc, .slice s1.R s1.q.length s1.rc, .slice s2.L l2.length s2.lc, .slice s2.R s2.q.length s2.rc] := by
    have e1 := HL1.out.trans (sideN_fst T k x)
    have e2 := HL2.out.trans (sideN_fst T k2 y)
    unfold wordsC ofW
    rw [e1, e2]
  have HFIN := hide (show ∀ (W : World) (r : Array Value) (b : Bool), okW T k x k2 y = b → Run (fun _ => False) w (star (CellO gr r 89) (star (CellO gb #[.slice s2.L l2.length s2.lc, .slice s2.R s2.q.length s2.rc] 87) (star (CellO ga #[.slice s1.L l1.length s1.lc, .slice s1.R s1.q.length s1.rc] 87) (star (CellO gt #[.slice a.A T.rs.length a.c, .slice a.D T.ds.length a.d, .slice a.E T.es.length a.e, .int .i64 T.drop, .int .i64 T.ord, .int .i64 T.ini] 25) (star (SideO l1 s1) (SideO l2 s2)))))) W → WordsRet w T k x k2 y (.returned (.tuple #[.agg #[.slice s1.L l1.length s1.lc, .slice s1.R s1.q.length s1.rc, .slice s2.L l2.length s2.lc, .slice s2.R s2.q.length s2.rc], .bool b])) W from fun W r b hb h => by
    rw [← hwc]
    exact HFIN0.out W b hb _ (h.perm (by ac_rfl : _ = star (SideO l1 s1) (star (SideO l2 s2) (star (CellO gr r 89) (star (CellO gb #[.slice s2.L l2.length s2.lc, .slice s2.R s2.q.length s2.rc] 87) (star (CellO ga #[.slice s1.L l1.length s1.lc, .slice s1.R s1.q.length s1.rc] 87) (CellO gt #[.slice a.A T.rs.length a.c, .slice a.D T.ds.length a.d, .slice a.E T.es.length a.e, .int .i64 T.drop, .int .i64 T.ord, .int .i64 T.ini] 25)))))))
  )
  clear hwc HFIN0
  have OKX := hide (show (star (CellO gb #[.slice s2.L l2.length s2.lc, .slice s2.R s2.q.length s2.rc] 87) (star (CellO ga #[.slice s1.L l1.length s1.lc, .slice s1.R s1.q.length s1.rc] 87) (star (CellO gt #[.slice a.A T.rs.length a.c, .slice a.D T.ds.length a.d, .slice a.E T.es.length a.e, .int .i64 T.drop, .int .i64 T.ord, .int .i64 T.ini] 25) (star (SideO l1 s1) (SideO l2 s2))))).Ok from star_ok cell_ok (star_ok cell_ok (star_ok cell_ok (star_ok side_ok side_ok))))
  have hSS : ∀ (W : World) (r : Array Value), Run (fun _ => False) w (star (CellO gr r 89) (star (CellO gb #[.slice s2.L l2.length s2.lc, .slice s2.R s2.q.length s2.rc] 87) (star (CellO ga #[.slice s1.L l1.length s1.lc, .slice s1.R s1.q.length s1.rc] 87) (star (CellO gt #[.slice a.A T.rs.length a.c, .slice a.D T.ds.length a.d, .slice a.E T.es.length a.e, .int .i64 T.drop, .int .i64 T.ord, .int .i64 T.ini] 25) (star (SideO l1 s1) (SideO l2 s2)))))) W → (fun w' : World => w'.cell? ⟨ga, 0, none⟩ = some (.slice s1.L l1.length s1.lc) ∧ w'.cell? ⟨ga, 1, none⟩ = some (.slice s1.R s1.q.length s1.rc) ∧ w'.cell? ⟨gb, 0, none⟩ = some (.slice s2.L l2.length s2.lc) ∧ w'.cell? ⟨gb, 1, none⟩ = some (.slice s2.R s2.q.length s2.rc) ∧ w'.cell? ⟨gt, 0, none⟩ = some (.slice a.A T.rs.length a.c) ∧ w'.cell? ⟨gt, 1, none⟩ = some (.slice a.D T.ds.length a.d) ∧ w'.cell? ⟨gt, 2, none⟩ = some (.slice a.E T.es.length a.e) ∧ w'.cell? ⟨gt, 3, none⟩ = some (.int .i64 T.drop) ∧ w'.cell? ⟨gt, 4, none⟩ = some (.int .i64 T.ord) ∧ w'.cell? ⟨gt, 5, none⟩ = some (.int .i64 T.ini)) W := fun W r h => by
    obtain ⟨f1, h1⟩ := h.drop.fst
    obtain ⟨f2, h2⟩ := h.drop.drop.fst
    obtain ⟨f3, h3⟩ := h.drop.drop.drop.fst
    exact ⟨cell_at h2 rfl, cell_at h2 rfl, cell_at h1 rfl, cell_at h1 rfl, cell_at h3 rfl, cell_at h3 rfl, cell_at h3 rfl, cell_at h3 rfl, cell_at h3 rfl, cell_at h3 rfl⟩
  have HSS := hide hSS
  clear hSS
  have H7 := hide ((H6.out.perm (by rw [star_emp_eq]; ac_rfl : _ = (star (CellO gr #[.slice none 0 0, .slice none 0 0, .slice none 0 0, .slice none 0 0] 89) (star (CellO gb #[.slice s2.L l2.length s2.lc, .slice s2.R s2.q.length s2.rc] 87) (star (CellO ga #[.slice s1.L l1.length s1.lc, .slice s1.R s1.q.length s1.rc] 87) (star (CellO gt #[.slice a.A T.rs.length a.c, .slice a.D T.ds.length a.d, .slice a.E T.es.length a.e, .int .i64 T.drop, .int .i64 T.ord, .int .i64 T.ini] 25) (star (SideO l1 s1) (SideO l2 s2)))))))).drew (star_ok cell_ok OKX.out))
  have hS0 := HSS.out _ _ H7.out
  clear H6
  cases hb1 : word k x with
  | false =>
    refine wp_region_lex (fun w' : World => w'.cell? ⟨ga, 0, none⟩ = some (.slice s1.L l1.length s1.lc) ∧ w'.cell? ⟨ga, 1, none⟩ = some (.slice s1.R s1.q.length s1.rc) ∧ w'.cell? ⟨gb, 0, none⟩ = some (.slice s2.L l2.length s2.lc) ∧ w'.cell? ⟨gb, 1, none⟩ = some (.slice s2.R s2.q.length s2.rc) ∧ w'.cell? ⟨gt, 0, none⟩ = some (.slice a.A T.rs.length a.c) ∧ w'.cell? ⟨gt, 1, none⟩ = some (.slice a.D T.ds.length a.d) ∧ w'.cell? ⟨gt, 2, none⟩ = some (.slice a.E T.es.length a.e) ∧ w'.cell? ⟨gt, 3, none⟩ = some (.int .i64 T.drop) ∧ w'.cell? ⟨gt, 4, none⟩ = some (.int .i64 T.ord) ∧ w'.cell? ⟨gt, 5, none⟩ = some (.int .i64 T.ini)) (by rfl) (by kernel_rfl) hS0 ?_
    clear hS0
    generalize w5.drew = w6 at *
    obtain ⟨r0, r1, r2, r3, rf⟩ := run_c4 H7.out
    (repeat (first | (refine lex_skip (by rfl) ?_; try simp only [Act.put, List.setIfInBounds_toArray, List.set_cons_zero, List.set_cons_succ]) | (refine lex_read (v := ?_) (by rfl) ?_ ?_; rotate_left; (focus (intro w' hS'; go_simp; (try with_reducible rfl); done)); try simp only [Act.put, List.setIfInBounds_toArray, List.set_cons_zero, List.set_cons_succ])))
    refine lex_chain rfl (by rfl) (fun K hK => ?_)
    go_wp2_with fail
    
    have H8 := hide (run_setc (run_setc (run_setc (run_setc (H7.out) OKX.out 0 (.slice s1.L l1.length s1.lc)) OKX.out 1 (.slice s1.R s1.q.length s1.rc)) OKX.out 2 (.slice s2.L l2.length s2.lc)) OKX.out 3 (.slice s2.R s2.q.length s2.rc) : Run (fun _ => False) w (star (CellO gr #[.slice s1.L l1.length s1.lc, .slice s1.R s1.q.length s1.rc, .slice s2.L l2.length s2.lc, .slice s2.R s2.q.length s2.rc] 89) (star (CellO gb #[.slice s2.L l2.length s2.lc, .slice s2.R s2.q.length s2.rc] 87) (star (CellO ga #[.slice s1.L l1.length s1.lc, .slice s1.R s1.q.length s1.rc] 87) (star (CellO gt #[.slice a.A T.rs.length a.c, .slice a.D T.ds.length a.d, .slice a.E T.es.length a.e, .int .i64 T.drop, .int .i64 T.ord, .int .i64 T.ini] 25) (star (SideO l1 s1) (SideO l2 s2)))))) _)
    clear H7 r0 r1 r2 r3 rf
    generalize ((((w6.setCell ⟨gr, 0, none⟩ (.slice s1.L l1.length s1.lc)).setCell ⟨gr, 1, none⟩ (.slice s1.R s1.q.length s1.rc)).setCell ⟨gr, 2, none⟩ (.slice s2.L l2.length s2.lc)).setCell ⟨gr, 3, none⟩ (.slice s2.R s2.q.length s2.rc)) = w9 at *
    refine hK.out _ _ (HSS.out _ _ H8.out) ?_
    clear hK
    (repeat (first | (refine lex_skip (by rfl) ?_; try simp only [Act.put, List.setIfInBounds_toArray, List.set_cons_zero, List.set_cons_succ]) | (refine lex_read (v := ?_) (by rfl) ?_ ?_; rotate_left; (focus (intro w' hS'; go_simp; (try with_reducible rfl); done)); try simp only [Act.put, List.setIfInBounds_toArray, List.set_cons_zero, List.set_cons_succ])))
    refine lex_nil ?_
    obtain ⟨fr, hfr⟩ := H8.out.fst
    have hblk := hfr.1
    clear hfr
    go_wp2_with fail
    refine bodyPost_ret (res_cell_tmp rfl _ _ gr 89 #[.slice s1.L l1.length s1.lc, .slice s1.R s1.q.length s1.rc, .slice s2.L l2.length s2.lc, .slice s2.R s2.q.length s2.rc] (0, 0) rfl hblk Tryz.underlying89 (by kernel_rfl)) rfl ?_
    clear hblk
    exact HFIN.out _ _ _ (by unfold okW; rw [hb1]; rfl) H8.out
  | true =>
    cases hb2 : word k2 y with
    | false =>
      refine wp_region_lex (fun w' : World => w'.cell? ⟨ga, 0, none⟩ = some (.slice s1.L l1.length s1.lc) ∧ w'.cell? ⟨ga, 1, none⟩ = some (.slice s1.R s1.q.length s1.rc) ∧ w'.cell? ⟨gb, 0, none⟩ = some (.slice s2.L l2.length s2.lc) ∧ w'.cell? ⟨gb, 1, none⟩ = some (.slice s2.R s2.q.length s2.rc) ∧ w'.cell? ⟨gt, 0, none⟩ = some (.slice a.A T.rs.length a.c) ∧ w'.cell? ⟨gt, 1, none⟩ = some (.slice a.D T.ds.length a.d) ∧ w'.cell? ⟨gt, 2, none⟩ = some (.slice a.E T.es.length a.e) ∧ w'.cell? ⟨gt, 3, none⟩ = some (.int .i64 T.drop) ∧ w'.cell? ⟨gt, 4, none⟩ = some (.int .i64 T.ord) ∧ w'.cell? ⟨gt, 5, none⟩ = some (.int .i64 T.ini)) (by rfl) (by kernel_rfl) hS0 ?_
      clear hS0
      generalize w5.drew = w6 at *
      obtain ⟨r0, r1, r2, r3, rf⟩ := run_c4 H7.out
      (repeat (first | (refine lex_skip (by rfl) ?_; try simp only [Act.put, List.setIfInBounds_toArray, List.set_cons_zero, List.set_cons_succ]) | (refine lex_read (v := ?_) (by rfl) ?_ ?_; rotate_left; (focus (intro w' hS'; go_simp; (try with_reducible rfl); done)); try simp only [Act.put, List.setIfInBounds_toArray, List.set_cons_zero, List.set_cons_succ])))
      refine lex_chain rfl (by rfl) (fun K hK => ?_)
      go_wp2_with fail
      
      have H8 := hide (run_setc (run_setc (run_setc (run_setc (H7.out) OKX.out 0 (.slice s1.L l1.length s1.lc)) OKX.out 1 (.slice s1.R s1.q.length s1.rc)) OKX.out 2 (.slice s2.L l2.length s2.lc)) OKX.out 3 (.slice s2.R s2.q.length s2.rc) : Run (fun _ => False) w (star (CellO gr #[.slice s1.L l1.length s1.lc, .slice s1.R s1.q.length s1.rc, .slice s2.L l2.length s2.lc, .slice s2.R s2.q.length s2.rc] 89) (star (CellO gb #[.slice s2.L l2.length s2.lc, .slice s2.R s2.q.length s2.rc] 87) (star (CellO ga #[.slice s1.L l1.length s1.lc, .slice s1.R s1.q.length s1.rc] 87) (star (CellO gt #[.slice a.A T.rs.length a.c, .slice a.D T.ds.length a.d, .slice a.E T.es.length a.e, .int .i64 T.drop, .int .i64 T.ord, .int .i64 T.ini] 25) (star (SideO l1 s1) (SideO l2 s2)))))) _)
      clear H7 r0 r1 r2 r3 rf
      generalize ((((w6.setCell ⟨gr, 0, none⟩ (.slice s1.L l1.length s1.lc)).setCell ⟨gr, 1, none⟩ (.slice s1.R s1.q.length s1.rc)).setCell ⟨gr, 2, none⟩ (.slice s2.L l2.length s2.lc)).setCell ⟨gr, 3, none⟩ (.slice s2.R s2.q.length s2.rc)) = w9 at *
      refine hK.out _ _ (HSS.out _ _ H8.out) ?_
      clear hK
      (repeat (first | (refine lex_skip (by rfl) ?_; try simp only [Act.put, List.setIfInBounds_toArray, List.set_cons_zero, List.set_cons_succ]) | (refine lex_read (v := ?_) (by rfl) ?_ ?_; rotate_left; (focus (intro w' hS'; go_simp; (try with_reducible rfl); done)); try simp only [Act.put, List.setIfInBounds_toArray, List.set_cons_zero, List.set_cons_succ])))
      refine lex_nil ?_
      obtain ⟨fr, hfr⟩ := H8.out.fst
      have hblk := hfr.1
      clear hfr
      go_wp2_with fail
      refine bodyPost_ret (res_cell_tmp rfl _ _ gr 89 #[.slice s1.L l1.length s1.lc, .slice s1.R s1.q.length s1.rc, .slice s2.L l2.length s2.lc, .slice s2.R s2.q.length s2.rc] (0, 0) rfl hblk Tryz.underlying89 (by kernel_rfl)) rfl ?_
      clear hblk
      exact HFIN.out _ _ _ (by unfold okW; rw [hb1, hb2]; rfl) H8.out
    | true =>
      refine wp_region_lex (fun w' : World => w'.cell? ⟨ga, 0, none⟩ = some (.slice s1.L l1.length s1.lc) ∧ w'.cell? ⟨ga, 1, none⟩ = some (.slice s1.R s1.q.length s1.rc) ∧ w'.cell? ⟨gb, 0, none⟩ = some (.slice s2.L l2.length s2.lc) ∧ w'.cell? ⟨gb, 1, none⟩ = some (.slice s2.R s2.q.length s2.rc) ∧ w'.cell? ⟨gt, 0, none⟩ = some (.slice a.A T.rs.length a.c) ∧ w'.cell? ⟨gt, 1, none⟩ = some (.slice a.D T.ds.length a.d) ∧ w'.cell? ⟨gt, 2, none⟩ = some (.slice a.E T.es.length a.e) ∧ w'.cell? ⟨gt, 3, none⟩ = some (.int .i64 T.drop) ∧ w'.cell? ⟨gt, 4, none⟩ = some (.int .i64 T.ord) ∧ w'.cell? ⟨gt, 5, none⟩ = some (.int .i64 T.ini)) (by rfl) (by kernel_rfl) hS0 ?_
      clear hS0
      generalize w5.drew = w6 at *
      obtain ⟨r0, r1, r2, r3, rf⟩ := run_c4 H7.out
      (repeat (first | (refine lex_skip (by rfl) ?_; try simp only [Act.put, List.setIfInBounds_toArray, List.set_cons_zero, List.set_cons_succ]) | (refine lex_read (v := ?_) (by rfl) ?_ ?_; rotate_left; (focus (intro w' hS'; go_simp; (try with_reducible rfl); done)); try simp only [Act.put, List.setIfInBounds_toArray, List.set_cons_zero, List.set_cons_succ])))
      refine lex_chain rfl (by rfl) (fun K hK => ?_)
      go_wp2_with fail
      
      refine (KV.out _ (HBE.out _ _ H7.out)).mono ?_
      rintro e9 w7 ⟨rfl, hb⟩
      have H7b := hide (H7.out.below (star_ok cell_ok OKX.out) hb)
      clear KV H7 hb r0 r1 r2 r3 rf
      dsimp only
      refine hK.out _ _ (HSS.out _ _ H7b.out) ?_
      clear hK
      obtain ⟨r0, r1, r2, r3, rf⟩ := run_c4 H7b.out
      (repeat (first | (refine lex_skip (by rfl) ?_; try simp only [Act.put, List.setIfInBounds_toArray, List.set_cons_zero, List.set_cons_succ]) | (refine lex_read (v := ?_) (by rfl) ?_ ?_; rotate_left; (focus (intro w' hS'; go_simp; (try with_reducible rfl); done)); try simp only [Act.put, List.setIfInBounds_toArray, List.set_cons_zero, List.set_cons_succ])))
      refine lex_chain rfl (by rfl) (fun K hK => ?_)
      go_wp2_with fail
      
      have H8 := hide (run_setc (run_setc (run_setc (run_setc (H7b.out) OKX.out 0 (.slice s1.L l1.length s1.lc)) OKX.out 1 (.slice s1.R s1.q.length s1.rc)) OKX.out 2 (.slice s2.L l2.length s2.lc)) OKX.out 3 (.slice s2.R s2.q.length s2.rc) : Run (fun _ => False) w (star (CellO gr #[.slice s1.L l1.length s1.lc, .slice s1.R s1.q.length s1.rc, .slice s2.L l2.length s2.lc, .slice s2.R s2.q.length s2.rc] 89) (star (CellO gb #[.slice s2.L l2.length s2.lc, .slice s2.R s2.q.length s2.rc] 87) (star (CellO ga #[.slice s1.L l1.length s1.lc, .slice s1.R s1.q.length s1.rc] 87) (star (CellO gt #[.slice a.A T.rs.length a.c, .slice a.D T.ds.length a.d, .slice a.E T.es.length a.e, .int .i64 T.drop, .int .i64 T.ord, .int .i64 T.ini] 25) (star (SideO l1 s1) (SideO l2 s2)))))) _)
      clear H7b r0 r1 r2 r3 rf
      generalize ((((w7.setCell ⟨gr, 0, none⟩ (.slice s1.L l1.length s1.lc)).setCell ⟨gr, 1, none⟩ (.slice s1.R s1.q.length s1.rc)).setCell ⟨gr, 2, none⟩ (.slice s2.L l2.length s2.lc)).setCell ⟨gr, 3, none⟩ (.slice s2.R s2.q.length s2.rc)) = w9 at *
      refine hK.out _ _ (HSS.out _ _ H8.out) ?_
      clear hK
      (repeat (first | (refine lex_skip (by rfl) ?_; try simp only [Act.put, List.setIfInBounds_toArray, List.set_cons_zero, List.set_cons_succ]) | (refine lex_read (v := ?_) (by rfl) ?_ ?_; rotate_left; (focus (intro w' hS'; go_simp; (try with_reducible rfl); done)); try simp only [Act.put, List.setIfInBounds_toArray, List.set_cons_zero, List.set_cons_succ])))
      refine lex_nil ?_
      obtain ⟨fr, hfr⟩ := H8.out.fst
      have hblk := hfr.1
      clear hfr
      go_wp2_with fail
      refine bodyPost_ret (res_cell_tmp rfl _ _ gr 89 #[.slice s1.L l1.length s1.lc, .slice s1.R s1.q.length s1.rc, .slice s2.L l2.length s2.lc, .slice s2.R s2.q.length s2.rc] (0, 0) rfl hblk Tryz.underlying89 (by kernel_rfl)) rfl ?_
      clear hblk
      exact HFIN.out _ _ _ (by unfold okW; rw [hb1, hb2]; rfl) H8.out
end Go.Proofs.YtnppgomhhcbplaaGreatDoor
namespace Go.Proofs.YtnppgomhhcbplaaGreatDoor
open Go.RowKit Go.CH Go.CH.Scr Go.CH.Pot
open Go.ChangeMaps (setBlock)
/-- The iterator's boxes. -/
def Zw (W : Wd) (x : WA) (s : St) (b1 b2 : Nat) : CH.Own := star (CellO b1 (stC s) 95) (CellO b2 (wordsC W x) 89)
theorem Zw_ok {W : Wd} {x : WA} {s : St} {b1 b2 : Nat} : (Zw W x s b1 b2).Ok := star_ok cell_ok cell_ok
/-- What the iterator hands out: a rule of the side that moves, and the state behind it. -/
def encA (p : RA × St) : Array Value := #[.agg (acells p.1).toArray, .agg (stC p.2)]
/-- The side that moves. -/
def WA.at (x : WA) (lf : Bool) : SA := if lf then x.a else x.b
def lsA (W : Wd) (lf : Bool) : List Bs := if lf then W.l else W.m
def kA (s : St) (lf : Bool) : Nat := if lf then s.i else s.j
def amvR (W : Wd) (s : St) (y : RA) : Option (RA × St) := (W.amv s y.r).map fun p => (y, p.2)
def amovR (W : Wd) (x : WA) (s : St) : List (RA × St) := (x.at (W.left s)).q.filterMap (amvR W s)
/-- The moves by the first rules. -/
def amvs (W : Wd) (x : WA) (s : St) (k : Nat) : List (RA × St) := ((x.at (W.left s)).q.take k).filterMap (amvR W s)
theorem amovR_eq {W : Wd} {x : WA} {s : St} (h : AwS W x) : (amovR W x s).map (fun p => (p.1.r, p.2)) = W.amoves s := by
  have e : (x.at (W.left s)).q.map (·.r) = sideR W.rs (if W.left s then W.ka else W.kb) := by
    unfold WA.at
    cases W.left s
    · exact h.qb
    · exact h.qa
  unfold amovR Wd.amoves
  rw [← e, List.map_filterMap, List.filterMap_map]
  refine fm_congr _ fun y _ => ?_
  unfold amvR
  show Option.map _ (Option.map _ (W.amv s y.r)) = W.amv s y.r
  rw [Option.map_map]
  unfold Wd.amv
  by_cases h : fitsA (if W.left s then W.l else W.m) y.r (if W.left s then s.i else s.j) = true
  · rw [if_pos h, Option.map_map]; rfl
  · rw [if_neg h]; rfl
section
variable {W : Wd} {x : WA} {s : St} {k : Nat}
theorem amvs_all : amvs W x s (x.at (W.left s)).q.length = amovR W x s := by unfold amvs amovR; rw [List.take_length]
theorem amvs_none (hk : k < (x.at (W.left s)).q.length) (h : amvR W s (x.at (W.left s)).q[k] = none) : amvs W x s (k + 1) = amvs W x s k := by
  unfold amvs
  rw [List.take_succ_eq_append_getElem hk, List.filterMap_append]
  simp [h]
theorem amvs_some (hk : k < (x.at (W.left s)).q.length) {p : RA × St} (h : amvR W s (x.at (W.left s)).q[k] = some p) : amvs W x s (k + 1) = amvs W x s k ++ [p] := by
  unfold amvs
  rw [List.take_succ_eq_append_getElem hk, List.filterMap_append]
  simp [h]
theorem amvs_at (hk : k < (x.at (W.left s)).q.length) {p : RA × St} (h : amvR W s (x.at (W.left s)).q[k] = some p) : ∃ hi : (amvs W x s k).length < (amovR W x s).length, (amovR W x s)[(amvs W x s k).length] = p := by
  have e : amovR W x s = amvs W x s k ++ p :: ((x.at (W.left s)).q.drop (k + 1)).filterMap (amvR W s) := by
    unfold amovR amvs
    conv => lhs; rw [← List.take_append_drop k (x.at (W.left s)).q, List.drop_eq_getElem_cons hk, List.filterMap_append, List.filterMap_cons_some h]
  refine ⟨by rw [e]; simp, ?_⟩
  simp only [e]
  rw [List.getElem_append_right (Nat.le_refl _)]
  simp
end
/-- The state behind a rule. -/
def nextA (s : St) (lf : Bool) (n : Nat) (z : Bs × Bool) : St := if lf then ⟨s.i + n, s.j, z.1, z.2⟩ else ⟨s.i, s.j + n, z.1, z.2⟩
section
variable {W : Wd} {s : St} {y : RA}
theorem amvR_noFit (h : fitsA (lsA W (W.left s)) y.r (kA s (W.left s)) = false) : amvR W s y = none := by
  unfold amvR Wd.amv
  unfold lsA kA at h
  rw [if_neg (by rw [h]; decide)]; rfl
theorem amvR_noAh (h : W.ahA s y.r.t = none) : amvR W s y = none := by
  unfold amvR Wd.amv
  rw [h]
  by_cases h : fitsA (if W.left s then W.l else W.m) y.r (if W.left s then s.i else s.j) = true
  · rw [if_pos h]; rfl
  · rw [if_neg h]; rfl
theorem amvR_yes (h : fitsA (lsA W (W.left s)) y.r (kA s (W.left s)) = true) {z : Bs × Bool} (hz : W.ahA s y.r.t = some z) : amvR W s y = some (y, nextA s (W.left s) y.r.f.length z) := by
  unfold amvR Wd.amv nextA
  unfold lsA kA at h
  rw [if_pos h, hz]; rfl
theorem ahA_1 {q : Bs} (h1 : q.isPrefixOf s.a = true) : W.ahA s q = some (s.a.drop q.length, s.r && decide (s.a.drop q.length ≠ [])) := by unfold Wd.ahA; rw [if_pos h1]
theorem ahA_2 {q : Bs} (h1 : ¬ q.isPrefixOf s.a = true) (h2 : s.a.isPrefixOf q = true) : W.ahA s q = some (q.drop s.a.length, !W.left s) := by unfold Wd.ahA; rw [if_neg h1, if_pos h2]
theorem ahA_3 {q : Bs} (h1 : ¬ q.isPrefixOf s.a = true) (h2 : ¬ s.a.isPrefixOf q = true) : W.ahA s q = none := by unfold Wd.ahA; rw [if_neg h1, if_neg h2]
end
end Go.Proofs.YtnppgomhhcbplaaGreatDoor
namespace Go.Proofs.YtnppgomhhcbplaaGreatDoor
open Go.RowKit Go.CH Go.CH.Scr Go.CH.Pot
open Go.ChangeMaps (setBlock)
attribute [local go_sem] Oper.semAt_some
/-- The iterator as a value. -/
def fnA (b1 b2 : Nat) : Value := .func (.func 67) #[] #[.pointer (some ⟨b1, 0, none⟩), .pointer (some ⟨b2, 0, none⟩)]
theorem amoves_any {W : Wd} {x : WA} {s : St} (w : World) :
    Calls Tryz.prog 41 #[.agg (wordsC W x), .agg (stC s)] w fun e w' => ∃ b1 b2, e = .returned (fnA b1 b2) ∧ Post w (fun _ => False) (Zw W x s b1 b2) w' := by
  have hp : Post w (fun _ => False) (Zw W x s (w.heap.size + 1) w.heap.size) ((w.alloc (.cells (wordsC W x) 89)).alloc (.cells (stC s) 95)) := by
    have h1 := (Run.begin w).fresh emp_ok (cell_new w (wordsC W x) 89)
    have h2 := h1.fresh (star_ok cell_ok emp_ok) (cell_new _ (stC s) 95)
    rw [World.size_alloc] at h2
    have h3 : Run (fun _ => False) w (star (Zw W x s (w.heap.size + 1) w.heap.size) emp) _ := h2.perm (by unfold Zw; ac_rfl)
    exact (h3.swap.drop).post Zw_ok
  have HP := hide hp
  clear hp
  unfold wordsC stC
  unfold wordsC stC at HP
  go_enter Tryz.func41, Tryz.ntmps41
  go_wp2
  go_ret
  exact ⟨_, _, rfl, HP.out⟩
end Go.Proofs.YtnppgomhhcbplaaGreatDoor
namespace Go.Proofs.YtnppgomhhcbplaaGreatDoor
open Go.RowKit Go.CH Go.CH.Scr Go.CH.Pot
open Go.ChangeMaps (setBlock)
attribute [local go_sem] Oper.semAt_some
theorem ast_flats (s : St) : Flats Tryz.prog [⟨ "i", 3, 0, false, "", "customhouse/align", 0⟩, ⟨ "j", 3, 1, false, "", "customhouse/align", 8⟩, ⟨ "ahead", 9, 2, false, "", "customhouse/align", 16⟩, ⟨ "right", 4, 3, false, "", "customhouse/align", 32⟩] (stC s) := by
  intro f hf
  simp only [List.mem_cons, List.mem_nil_iff, or_false] at hf
  rcases hf with rfl | rfl | rfl | rfl
  · exact ⟨by decide, _, rfl, .int Tryz.underlying3 _⟩
  · exact ⟨by decide, _, rfl, .int Tryz.underlying3 _⟩
  · exact ⟨by decide, _, rfl, .str Tryz.underlying9 _⟩
  · exact ⟨by decide, _, rfl, .bool Tryz.underlying4 _⟩
theorem ast_same (a b : St) : sameF [⟨ "i", 3, 0, false, "", "customhouse/align", 0⟩, ⟨ "j", 3, 1, false, "", "customhouse/align", 8⟩, ⟨ "ahead", 9, 2, false, "", "customhouse/align", 16⟩, ⟨ "right", 4, 3, false, "", "customhouse/align", 32⟩] (stC a) (stC b) = decide (a = b) := (rfl : _ = sameF [⟨ "i", 3, 0, false, "", "customhouse/potential", 0⟩, ⟨ "j", 3, 1, false, "", "customhouse/potential", 8⟩, ⟨ "ahead", 9, 2, false, "", "customhouse/potential", 16⟩, ⟨ "right", 4, 3, false, "", "customhouse/potential", 32⟩] (stC a) (stC b)).trans (st_same a b)
theorem keyOk_ast : KeyOk Tryz.prog 95 stV := by
  refine keyOk_struct (cs := stC) Tryz.underlying95 (by kernel_rfl) ast_flats ast_same (fun a => ?_)
  simp [stC, Instr.sameBits, bs_beq]
theorem astm_get {b : Nat} {L : List (St × Int)} {w : World} {F : Nat → Prop} (h : StM b L w F) (s : St) (ok : Bool) :
    (Instr.lookup 92 (.map (some b)) (.agg #[.int .i64 s.i, .int .i64 s.j, .string (bs s.a), .bool s.r]) ok).run Tryz.prog w = .ok (if ok then .tuple #[(mget (L.map fun p => (p.1, Value.int .i64 p.2)) s).getD (.int .i64 0), .bool (mget (L.map fun p => (p.1, Value.int .i64 p.2)) s).isSome] else (mget (L.map fun p => (p.1, Value.int .i64 p.2)) s).getD (.int .i64 0)) w := by
  obtain ⟨⟨es, clock, h1, h2⟩, hF⟩ := h
  cases ok
  · exact run_lookup keyOk_ast Tryz.underlying92 Tryz.zeroValue3 h2 s w h1
  · exact run_lookup_ok keyOk_ast Tryz.underlying92 Tryz.zeroValue3 h2 s w h1
theorem done_fin {W : Wd} {s : St} (hs : W.ok s) : doneN W s = decide (s = W.fin) := by
  obtain ⟨i, j, a, r⟩ := s
  have h3 := hs.2.2
  unfold doneN Wd.fin
  simp only at h3 ⊢
  by_cases h1 : i = W.l.length
  · by_cases h2 : j = W.m.length
    · by_cases ha : a = []
      · cases r with
        | false => simp [h1, h2, ha]
        | true => exact absurd ha (h3 rfl)
      · simp [ha]
    · simp [h2]
  · simp [h1]
/-- The closure of costs as a value. -/
def fnW (bm bw bf : Nat) : Value := .func (.func 66) #[] #[.pointer (some ⟨bm, 0, none⟩), .pointer (some ⟨bw, 0, none⟩), .pointer (some ⟨bf, 0, none⟩)]
/-- What costs owns while it walks. -/
def WkB (W : Wd) (x : WA) (b bm bw bf : Nat) : CH.Own := star (CellO bm #[.map (some b)] 92) (star (CellO bw (wordsC W x) 89) (CellO bf #[fnW bm bw bf] 131))
theorem wkb_ok {W : Wd} {x : WA} {b bm bw bf : Nat} : (WkB W x b bm bw bf).Ok := star_ok cell_ok (star_ok cell_ok cell_ok)
/-- What the closure gives back. -/
def WkRet (W : Wd) (x : WA) (s : St) (L : List (St × Int)) (F0 : Nat → Prop) (w0 : World) (b bm bw bf : Nat) (X : CH.Own) (e : Ending) (w' : World) : Prop :=
  ∃ L', e = .returned (.int .i64 (W.dist s)) ∧ Kn W L' ∧ Ext W s L L' ∧ s ∈ keysL L' ∧ Run F0 w0 (star (StM b L') (star (WkB W x b bm bw bf) X)) w'
/-- The moves as costs sees them. -/
def MovA (W : Wd) (x : WA) : Prop := ∀ s, W.ok s → (amovR W x s).map (fun p => (p.1.r.c, p.2)) = W.moves s
theorem mova_len {W : Wd} {x : WA} {s : St} (h : MovA W x) (hs : W.ok s) : (W.moves s).length = (amovR W x s).length := by rw [← h s hs, List.length_map]
theorem mova_at {W : Wd} {x : WA} {s : St} (h : MovA W x) (hs : W.ok s) {i : Nat} (hi : i < (amovR W x s).length) (hi2 : i < (W.moves s).length) : (W.moves s)[i] = ((amovR W x s)[i].1.r.c, (amovR W x s)[i].2) := by
  have e : (W.moves s)[i]? = some ((amovR W x s)[i].1.r.c, (amovR W x s)[i].2) := by rw [← h s hs, List.getElem?_map, List.getElem?_eq_getElem hi]; rfl
  rw [List.getElem?_eq_getElem hi2] at e
  injection e
theorem wkb_cells {W : Wd} {x : WA} {b bm bw bf : Nat} {F0 : Nat → Prop} {w0 w : World} {X : CH.Own} (h : Run F0 w0 (star (WkB W x b bm bw bf) X) w) :
    w.cell? ⟨bm, 0, none⟩ = some (.map (some b)) ∧ w.cell? ⟨bf, 0, none⟩ = some (fnW bm bw bf) ∧ (w.cell? ⟨bw, 0, none⟩ = some (.slice x.a.L W.l.length x.a.lc) ∧ w.cell? ⟨bw, 1, none⟩ = some (.slice x.a.R x.a.q.length x.a.rc) ∧ w.cell? ⟨bw, 2, none⟩ = some (.slice x.b.L W.m.length x.b.lc) ∧ w.cell? ⟨bw, 3, none⟩ = some (.slice x.b.R x.b.q.length x.b.rc)) := by
  obtain ⟨F, hF⟩ := (h.perm (by unfold WkB; ac_rfl : _ = star (CellO bm #[.map (some b)] 92) (star (CellO bw (wordsC W x) 89) (star (CellO bf #[fnW bm bw bf] 131) X)))).fst
  obtain ⟨F2, hF2⟩ := (h.perm (by unfold WkB; ac_rfl : _ = star (CellO bw (wordsC W x) 89) (star (CellO bm #[.map (some b)] 92) (star (CellO bf #[fnW bm bw bf] 131) X)))).fst
  obtain ⟨F3, hF3⟩ := (h.perm (by unfold WkB; ac_rfl : _ = star (CellO bf #[fnW bm bw bf] 131) (star (CellO bm #[.map (some b)] 92) (star (CellO bw (wordsC W x) 89) X)))).fst
  exact ⟨cell_at hF rfl, cell_at hF3 rfl, cell_at hF2 rfl, cell_at hF2 rfl, cell_at hF2 rfl, cell_at hF2 rfl⟩
end Go.Proofs.YtnppgomhhcbplaaGreatDoor
namespace Go.CH
open Go.RowKit
/-- What an iterator promises whoever ranges over it: Z0 is its own state at its start; what it owns in its rounds it may choose. -/
def IterJ {α : Type} (P : Program) (gf : Nat) (lb : Array Value) (E : World → Prop) (Z0 : Own) (enc : α → Array Value) (xs : List α) : Prop :=
  ∀ (n l : Nat) (W : World) (F0 : Nat → Prop) (w0 : World) (X : Nat → Own) (Y : Own), (∀ i, (X i).Ok) → Y.Ok → (∀ W, Mod F0 w0 W → E W) → Run F0 w0 (star Z0 (X 0)) W →
    (∀ Z : Own, Z.Ok → ∀ i (hi : i < xs.length) W1, Run F0 w0 (star Z (X i)) W1 → YieldAt Fence.wide (n - 1) P l (enc xs[i]) W1 fun e W' =>
      (e = .returned (.bool true) ∧ Run F0 w0 (star Z (X (i + 1))) W') ∨ (e = .returned (.bool false) ∧ Run F0 w0 (star Z Y) W')) →
    CallsIn Fence.wide n P gf (#[.func (.yield l) #[] #[]] ++ lb) W fun e W' => (∃ v, e = .returned v) ∧ ∃ Z : Own, Z.Ok ∧ (Run F0 w0 (star Z (X xs.length)) W' ∨ Run F0 w0 (star Z Y) W')
theorem range_law3 {α : Type} {P : Program} {g : Operand} {ps : Array Tmp} {assign body : Code} {Q : Exit → Act → World → Prop} {a : Act} {w : World} {gf : Nat} {lb : Array Value}
    (hg : a.eval g = .func (.func gf) #[] lb) (eg : ∀ args w, (callFunc gf args).run P w = .ok (.enter gf args) w) {E : World → Prop} {Z0 : Own} {enc : α → Array Value} {xs : List α}
    (hit : IterJ P gf lb E Z0 enc xs) (hZ0 : Z0.Ok) (hps : ∀ x, (enc x).size = ps.size)
    {F0 : Nat → Prop} {w0 : World} (hE : ∀ W, Mod F0 w0 W → E W) (I : Nat → Own) (Ix : Code → Own) (hI : ∀ i, (I i).Ok) (I2 : Nat → Act → Own) (hI2 : ∀ i a, (I2 i a).Ok) (hIx : ∀ c, (Ix c).Ok) (h0 : Run F0 w0 (star Z0 (I 0)) w)
    (hassign : ∀ (l m i : Nat) (hi : i < xs.length) (R : Own) (W : World) (K : Act → World → Prop), R.Ok → Run F0 w0 (star (I i) R) W → (∀ a' W', Run F0 w0 (star (I2 i a') R) W' → K a' W') →
      assign.wpIn (Fence.wide.inRound l) m P (Exit.then K (fun _ _ _ => False)) { tmps := (ps.zip (enc xs[i])).foldl (fun t (p, v) => t.setIfInBounds p v) a.tmps, defers := [] } W)
    (hbody : ∀ (l m i : Nat) (hi : i < xs.length) (a' : Act) (R : Own) (W : World), R.Ok → Run F0 w0 (star (I2 i a') R) W → body.wpIn (Fence.wide.inRound l) m P (rngPost F0 w0 R (I (i + 1)) Ix) a' W)
    (hdone : ∀ (D : Nat) (R : Own) (W : World), R.Ok → Run F0 w0 (star (I xs.length) (star (ObjO D (.deferred (some []))) R)) W → Q .normal { a with defers := { target := .collected D, args := #[] } :: a.defers } W)
    (hstop : ∀ (D : Nat) (c : Code) (R : Own) (W : World), R.Ok → Run F0 w0 (star (Ix c) (star (ObjO D (.deferred (some []))) R)) W → c.wp P Q { a with defers := { target := .collected D, args := #[] } :: a.defers } W) :
    (Code.rangeFunc g ps assign body).wp P Q a w := by
  refine (wpIn_wide (n := 8)).1 ?_
  refine wpIn_rangeFunc ?_
  intro fn hfn
  obtain ⟨rec, hrec⟩ : ∃ rec : LoopState → Option Code → Loop, rec = fun st pe => { state := st, pending := pe, fn, tmps := a.tmps, params := ps, assign, body, defers := w.heap.size } := ⟨_, rfl⟩
  obtain ⟨W1, hW1⟩ : ∃ W1, (w.alloc (.deferred (some []))).alloc (.loop (rec .ready none)) = W1 := ⟨_, rfl⟩
  obtain ⟨l, hl⟩ : ∃ l, l = w.heap.size + 1 := ⟨_, rfl⟩
  obtain ⟨D, hD⟩ : ∃ D, D = w.heap.size := ⟨_, rfl⟩
  have R1 : Run F0 w0 (star Z0 (star (ObjO l (.loop (rec .ready none))) (star (ObjO D (.deferred (some []))) (I 0)))) W1 := by
    have o1 := star_ok hZ0 (hI 0)
    have h1 := h0.fresh o1 (obj_new w (.deferred (some [])))
    have h2 := h1.fresh (star_ok obj_ok o1) (obj_new (w.alloc (.deferred (some []))) (.loop (rec .ready none)))
    have e1 : (w.alloc (.deferred (some []))).heap.size = l := by rw [hl]; simp
    rw [e1, ← hD] at h2
    rw [hW1] at h2
    exact h2.perm (by ac_rfl)
  have okD : (ObjO D (.deferred (some []))).Ok := obj_ok
  refine ⟨l, [{ target := .collected w.heap.size, args := #[] }], W1, { target := .fn (.func gf) lb, args := #[.func (.yield l) #[] #[]] }, W1, gf,
    #[.func (.yield l) #[] #[]] ++ lb, W1, ?_, ?_, ?_, ?_, fun _ => by omega, ?_⟩
  · rw [← hW1, hrec, hl]; exact run_enterLoop_outer _ _ _ _ _
  · simp only [resolve, hg]
    simp [go_sem]
  · intro f' hf'; trivial
  · simp [invoke, go_sem, eg]
  · refine (hit (8 - 1) l W1 F0 w0 (fun i => star (ObjO l (.loop (rec .ready none))) (star (ObjO D (.deferred (some []))) (I i)))
      (exC fun c => star (ObjO l (.loop (rec .done (some c)))) (star (ObjO D (.deferred (some []))) (Ix c)))
      (fun i => star_ok obj_ok (star_ok obj_ok (hI i))) (exC_ok fun c => star_ok obj_ok (star_ok obj_ok (hIx c))) hE R1 ?_).mono ?_
    · -- one round
      intro Z hZ i hi W hR
      have okR : (star (ObjO D (.deferred (some []))) (star Z (I i))).Ok := star_ok obj_ok (star_ok hZ (hI i))
      have hR2 := hR.perm (by ac_rfl : _ = star (ObjO l (.loop (rec .ready none))) (star (ObjO D (.deferred (some []))) (star Z (I i))))
      obtain ⟨FL, hL, -, bk⟩ := hR2.take obj_ok okR
      have hy := run_yield (P := P) (args := enc xs[i]) hL.1 (by rw [hrec]; exact hps _)
      rw [hrec] at hy
      refine ⟨fn, _, assign, body, hy, roundIn_of_wpIn hfn (hassign l _ i hi (star (ObjO l (.loop (rec .ready none))) (star (ObjO D (.deferred (some []))) Z)) W _ (star_ok obj_ok (star_ok obj_ok hZ)) (hR2.perm (by ac_rfl)) ?_)⟩
      intro a' W' hR3
      obtain ⟨FL', hL', -, bk'⟩ := (hR3.perm (by ac_rfl : _ = star (ObjO l (.loop (rec .ready none))) (star (ObjO D (.deferred (some []))) (star Z (I2 i a'))))).take obj_ok (star_ok obj_ok (star_ok hZ (hI2 i a')))
      refine ⟨_, run_beginRound hL'.1 (by rw [hrec]), ?_⟩
      have hB := bk' _ _ (obj_put hL' (.loop { rec .ready none with state := .busy }))
      have okB : (star (ObjO l (.loop { rec .ready none with state := .busy })) (star (ObjO D (.deferred (some []))) Z)).Ok := star_ok obj_ok (star_ok obj_ok hZ)
      refine wpIn_mono (hbody l _ i hi a' (star (ObjO l (.loop { rec .ready none with state := .busy })) (star (ObjO D (.deferred (some []))) Z)) _ okB (hB.perm (by ac_rfl))) ?_
      have fin : ∀ (jump : Option Code) (W3 : World) (O : Own), O.Ok → Run F0 w0 (star O (star (ObjO l (.loop { rec .ready none with state := .busy })) (star (ObjO D (.deferred (some []))) Z))) W3 →
          ∃ W4, (Instr.endRound l jump).run P W3 = .ok (.bool jump.isNone) W4 ∧ Run F0 w0 (star Z (star (ObjO l (.loop (rec (if jump.isNone then .ready else .done) jump))) (star (ObjO D (.deferred (some []))) O))) W4 := fun jump W3 O hO h3 => by
        have h4 := h3.perm (by ac_rfl : _ = star (ObjO l (.loop { rec .ready none with state := .busy })) (star (ObjO D (.deferred (some []))) (star Z O)))
        obtain ⟨FL, hL, -, bk⟩ := h4.take obj_ok (star_ok obj_ok (star_ok hZ hO))
        refine ⟨_, run_endRound (P := P) jump hL.1, ?_⟩
        have h5 := bk _ _ (obj_put hL (.loop { { rec .ready none with state := .busy } with state := if jump.isNone then .ready else .done, pending := jump }))
        have e5 : ({ { rec .ready none with state := .busy } with state := if jump.isNone then .ready else .done, pending := jump } : Loop) = rec (if jump.isNone then .ready else .done) jump := by rw [hrec]
        rw [e5] at h5 ⊢
        exact h5.perm (by ac_rfl)
      rintro e a3 W3 hp
      cases e with
      | normal =>
        obtain ⟨W4, h4, h5⟩ := fin none W3 _ (hI (i + 1)) hp
        exact ⟨_, _, h4, .inl ⟨rfl, h5⟩⟩
      | ret =>
        obtain ⟨W4, h4, h5⟩ := fin (some .ret) W3 _ (hIx .ret) hp
        exact ⟨_, _, h4, .inr ⟨rfl, h5.imp fun w F hh => star_mono hh (fun _ h => h) (fun _ h => ⟨.ret, h⟩)⟩⟩
      | exit id =>
        obtain ⟨W4, h4, h5⟩ := fin (some (.exit id)) W3 _ (hIx (.exit id)) hp
        exact ⟨_, _, h4, .inr ⟨rfl, h5.imp fun w F hh => star_mono hh (fun _ h => h) (fun _ h => ⟨.exit id, h⟩)⟩⟩
      | goto t =>
        obtain ⟨W4, h4, h5⟩ := fin (some (.goto t)) W3 _ (hIx (.goto t)) hp
        exact ⟨_, _, h4, .inr ⟨rfl, h5.imp fun w F hh => star_mono hh (fun _ h => h) (fun _ h => ⟨.goto t, h⟩)⟩⟩
      | panic ch => exact hp.elim
      | outgrown => exact hp.elim
    · -- behind the iterator
      have fin : ∀ (st : LoopState) (pe : Option Code) (W2 : World) (Z : Own) (O : Own), Z.Ok → O.Ok → st ≠ .busy → Run F0 w0 (star Z (star (ObjO l (.loop (rec st pe))) (star (ObjO D (.deferred (some []))) O))) W2 →
          ∃ W4 R, R.Ok ∧ (Instr.endLoop l).run P W2 = .ok pe W4 ∧ Run F0 w0 (star O (star (ObjO D (.deferred (some []))) R)) W4 := fun st pe W2 Z O hZ hO hst h3 => by
        have h4 := h3.perm (by ac_rfl : _ = star (ObjO l (.loop (rec st pe))) (star (ObjO D (.deferred (some []))) (star Z O)))
        obtain ⟨FL, hL, -, bk⟩ := h4.take obj_ok (star_ok obj_ok (star_ok hZ hO))
        have he := run_endLoop (P := P) hL.1 (by rw [hrec]; exact hst)
        have e6 : (rec st pe).pending = pe := by rw [hrec]
        have he := he.trans (congrArg (fun p => Result.ok p (W2.putObj l (.loop { rec st pe with state := .exhausted }))) e6)
        have hp := obj_put hL (.loop { rec st pe with state := .exhausted })
        generalize Obj.loop { rec st pe with state := .exhausted } = o4 at he hp
        have h5 := bk _ _ hp
        exact ⟨_, star (ObjO l o4) Z, star_ok obj_ok hZ, he, h5.perm (by ac_rfl : _ = star O (star (ObjO D (.deferred (some []))) (star (ObjO l o4) Z)))⟩
      rintro e W2 ⟨⟨v, rfl⟩, Z, hZ, h2 | h2⟩
      · obtain ⟨W4, R, hR, he, h4⟩ := fin .ready none W2 Z _ hZ (hI _) (by simp) h2
        rw [← hD]
        exact ⟨none, _, he, hdone D R W4 hR h4⟩
      · have h3 : ∃ c, Run F0 w0 (star Z (star (ObjO l (.loop (rec .done (some c)))) (star (ObjO D (.deferred (some []))) (Ix c)))) W2 := by
          obtain ⟨⟨F, ⟨F1, F2, g1, ⟨c, g2⟩, g3, g4⟩, hF⟩, hm⟩ := h2
          exact ⟨c, ⟨⟨F, ⟨F1, F2, g1, g2, g3, g4⟩, hF⟩, hm⟩⟩
        obtain ⟨c, h3⟩ := h3
        obtain ⟨W4, R, hR, he, h4⟩ := fin .done (some c) W2 Z _ hZ (hIx c) (by simp) h3
        rw [← hD]
        exact ⟨some c, _, he, (wpIn_wide (n := 8)).2 (hstop D c R W4 hR h4)⟩
end Go.CH
