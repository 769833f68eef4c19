/-
  Potential: of.
  Potential: proper.
  Potential: proper: the walk.
-/
import Derived.Test.YtnppgomhhcbplaaGreatDoorPO13
import Derived.Test.YtnppgomhhcbplaaGreatDoorPO5
import Derived.Test.YtnppgomhhcbplaaGreatDoorPO7
import Derived.Test.YtnppgomhhcbplaaGreatDoorPO12
import Derived.Laws.RangeString
import Derived.Laws.RangeAny
set_option linter.unusedSimpArgs false
set_option linter.unusedVariables false
namespace Go.Proofs.YtnppgomhhcbplaaGreatDoor
open Go.RowKit Go.CH Go.CH.Scr Go.CH.Pot
open Go.ChangeMaps (setBlock)
/-- The pair that of lays, whatever the words are. -/
def ofW (T : Tab) (k : Int) (x : Bs) (k2 : Int) (y : Bs) : Wd := ⟨k, k2, (openN k x).1, (openN k2 y).1, T.rs⟩
theorem ofW_ok {T : Tab} {k k2 : Int} {x y : Bs} (h : okW T k x k2 y = true) : ofW T k x k2 y = wdOf T k x k2 y := by
  obtain ⟨h1, h2, -⟩ := okW_iff.1 h
  unfold ofW wdOf openN
  rw [if_pos h1, if_pos h2]
theorem openN_snd (k : Int) (x : Bs) : (openN k x).2 = word k x := by
  unfold openN
  cases h : word k x <;> simp
theorem openN_len (k : Int) (x : Bs) : (openN k x).1.length ≤ 12 := by
  unfold openN
  split
  · rename_i h; exact (word_iff.1 (fold_word h)).2.2
  · exact Nat.zero_le _
theorem openN_each (k : Int) (x : Bs) (hx : x.length ≤ 1000000) : ∀ z ∈ (openN k x).1, z.length ≤ 1000000 := by
  intro z hz
  unfold openN at hz
  split at hz
  · have h1 := ltrs_join (k := k) (lower x)
    have h2 := congrArg List.length h1
    rw [List.length_append] at h2
    have h3 : z.length ≤ ((ltrs k (lower x)).1.flatten).length := by
      obtain ⟨i, hi, rfl⟩ := List.mem_iff_getElem.1 hz
      exact (List.sublist_flatten_of_mem (List.getElem_mem hi)).length_le
    have h4 : (lower x).length = x.length := by unfold lower; rw [List.length_map]
    omega
  · cases hz
/-- What of answers: a pair, and whether it is one. -/
def OfRet (A0 : Option Addr) (w : World) (T : Tab) (k : Int) (x : Bs) (k2 : Int) (y : Bs) (e : Ending) (w' : World) : Prop :=
  ∃ pa : PA, e = .returned (.tuple #[pairV (ofW T k x k2 y) pa, .bool (okW T k x k2 y)]) ∧ Below w.heap.size w w' ∧ PairR (ofW T k x k2 y) pa w' ∧ WdSmall (ofW T k x k2 y) pa ∧ pa.A = A0 ∧ (∀ ad, pa.L = some ad → w.heap.size ≤ ad.block) ∧ ∀ ad, pa.M = some ad → w.heap.size ≤ ad.block
/-- Nine cells of a block are written. -/
theorem run_set9 {F0 : Nat → Prop} {w0 w : World} {g : Nat} {t : TypeId} {X : CH.Own} {a0 a1 a2 a3 a4 a5 a6 a7 a8 : Value} (h : Run F0 w0 (star (CellO g #[a0, a1, a2, a3, a4, a5, a6, a7, a8] t) X) w) (hX : X.Ok) (b0 b1 b2 b3 b4 b5 b6 b7 b8 : Value) :
    Run F0 w0 (star (CellO g #[b0, b1, b2, b3, b4, b5, b6, b7, b8] t) X) (((((((((w.setCell ⟨g, 0, none⟩ b0).setCell ⟨g, 1, none⟩ b1).setCell ⟨g, 2, none⟩ b2).setCell ⟨g, 3, none⟩ b3).setCell ⟨g, 4, none⟩ b4).setCell ⟨g, 5, none⟩ b5).setCell ⟨g, 6, none⟩ b6).setCell ⟨g, 7, none⟩ b7).setCell ⟨g, 8, none⟩ b8) := by
  have h0 : Run F0 w0 (star (CellO g #[b0, a1, a2, a3, a4, a5, a6, a7, a8] t) X) _ := run_setc h hX 0 b0
  have h1 : Run F0 w0 (star (CellO g #[b0, b1, a2, a3, a4, a5, a6, a7, a8] t) X) _ := run_setc h0 hX 1 b1
  have h2 : Run F0 w0 (star (CellO g #[b0, b1, b2, a3, a4, a5, a6, a7, a8] t) X) _ := run_setc h1 hX 2 b2
  have h3 : Run F0 w0 (star (CellO g #[b0, b1, b2, b3, a4, a5, a6, a7, a8] t) X) _ := run_setc h2 hX 3 b3
  have h4 : Run F0 w0 (star (CellO g #[b0, b1, b2, b3, b4, a5, a6, a7, a8] t) X) _ := run_setc h3 hX 4 b4
  have h5 : Run F0 w0 (star (CellO g #[b0, b1, b2, b3, b4, b5, a6, a7, a8] t) X) _ := run_setc h4 hX 5 b5
  have h6 : Run F0 w0 (star (CellO g #[b0, b1, b2, b3, b4, b5, b6, a7, a8] t) X) _ := run_setc h5 hX 6 b6
  have h7 : Run F0 w0 (star (CellO g #[b0, b1, b2, b3, b4, b5, b6, b7, a8] t) X) _ := run_setc h6 hX 7 b7
  exact run_setc h7 hX 8 b8
theorem res_cell_tmp {fn : Func} {p u : Tmp} {ty : TypeId} (h : fn.results = #[.cell p ty, .tmp u]) {P : Program} (tmps : Array Value) (w : World) (g : Nat) (t : TypeId) (cs : Array Value) (fr : Nat × Nat) {d : Array Field}
    (hp : tmps.getD p undef = .pointer (some ⟨g, 0, none⟩)) (hg : w.heap[g]? = some (.cells cs t fr))
    (hu : P.underlying ty = some (.struct d)) (hi : (P.info? ty).map (·.size) = some cs.size) :
    (results fn tmps).run P w = .ok (.tuple #[.agg cs, tmps.getD u undef]) w := by
  rw [results_cell_tmp h, hp]
  simp [asAddr, run_loadVar_row w g t ty cs fr (.struct d) hg hu rfl hi]
set_option maxHeartbeats 6400000 in
set_option maxRecDepth 100000 in
theorem of_any {w : World} {T : Tab} {a : TA} (hT : TabR w T a) (hz : LZ w) (k : Int) (x : Bs) (k2 : Int) (y : Bs) (hx : x.length ≤ 1000000) (hy : y.length ≤ 1000000) :
    Calls Tryz.prog 25 #[tabV T a, .int .i64 k, .string (bs x), .int .i64 k2, .string (bs y)] w (OfRet a.A w T k x k2 y) := by
  have HT := hide hT
  have HZ := hide hz
  have HX := hide hx
  have HY := hide hy
  have h1 : Run (fun _ => False) w (star (CellO w.heap.size (tabC T a) 25) emp) _ := run_new (Run.begin w) emp_ok (tabC T a) 25
  have K1 := hide (fun W (hz : LZ W) => pletters_own k (bs x) W (by rw [bs_size]; exact hx) hz)
  have K2 := hide (fun W (hz : LZ W) => pletters_own k2 (bs y) W (by rw [bs_size]; exact hy) hz)
  simp only [bl_bs] at K1 K2
  unfold OpenP at K1 K2
  have H1 := hide h1
  clear hT hz h1
  unfold tabV tabC
  unfold tabC at H1
  go_enter Tryz.func25, Tryz.ntmps25
  have H2 := hide (show Run (fun _ => False) w (star (CellO (w.heap.size + 1) #[.slice none 0 0, .int .i64 0, .int .i64 0, .slice none 0 0, .slice none 0 0, .int .i64 0, .int .i64 0, .string { data := #[] }, .bool false] 64) (star (CellO w.heap.size #[.slice a.A T.rs.length a.c, .slice a.D T.ds.length a.d, .slice a.E T.es.length a.e, .int .i64 T.drop, .int .i64 T.ord, .int .i64 T.ini] 25) emp)) _ from (by have h2 := run_new H1.out (star_ok cell_ok emp_ok) #[.slice none 0 0, .int .i64 0, .int .i64 0, .slice none 0 0, .slice none 0 0, .int .i64 0, .int .i64 0, .string { data := #[] }, .bool false] 64; rw [World.size_alloc] at h2; exact h2))
  go_wp2_with fail
  clear H1
  generalize hw1 : (w.alloc (.cells #[.slice a.A T.rs.length a.c, .slice a.D T.ds.length a.d, .slice a.E T.es.length a.e, .int .i64 T.drop, .int .i64 T.ord, .int .i64 T.ini] 25)).alloc (.cells #[.slice none 0 0, .int .i64 0, .int .i64 0, .slice none 0 0, .slice none 0 0, .int .i64 0, .int .i64 0, .string { data := #[] }, .bool false] 64) = w1 at *
  clear hw1
  generalize w.heap.size + 1 = gr at *
  generalize hgt : w.heap.size = gt at *
  have OK2 := hide (show (star (CellO gr #[.slice none 0 0, .int .i64 0, .int .i64 0, .slice none 0 0, .slice none 0 0, .int .i64 0, .int .i64 0, .string { data := #[] }, .bool false] 64) (star (CellO gt #[.slice a.A T.rs.length a.c, .slice a.D T.ds.length a.d, .slice a.E T.es.length a.e, .int .i64 T.drop, .int .i64 T.ord, .int .i64 T.ini] 25) emp)).Ok from star_ok cell_ok (star_ok cell_ok emp_ok))
  have HBE := hide (fun W O (h : Run (fun _ => False) w O W) => (show Below w.heap.size w W from h.mod.below (fun _ _ h => h)))
  have HZW := hide (fun W O (h : Run (fun _ => False) w O W) => HZ.out.below (h.mod.below (fun _ _ h => h)))
  clear hgt
  refine (K1.out _ (HZW.out _ _ H2.out)).mono ?_
  rintro e9 w2 ⟨L, lc, rfl, hp⟩
  have H3 := hide (H2.out.fresh OK2.out hp)
  clear K1 H2 hp
  dsimp only
  go_wp2_with fail
  refine (K2.out _ (HZW.out _ _ H3.out)).mono ?_
  rintro e9 w3 ⟨M, mc, rfl, hp⟩
  have H4 := hide (H3.out.fresh (star_ok str_ok OK2.out) hp)
  clear K2 H3 hp
  dsimp only
  obtain ⟨n1, hn1⟩ : ∃ n, n = (openN k x).1.length := ⟨_, rfl⟩
  obtain ⟨n2, hn2⟩ : ∃ n, n = (openN k2 y).1.length := ⟨_, rfl⟩
  have HN1 := hide hn1
  have HN2 := hide hn2
  have HS1 := hide (openN_snd k x)
  have HS2 := hide (openN_snd k2 y)
  rw [← hn1, ← hn2]
  rw [HS1.out, HS2.out]
  clear hn1 hn2
  obtain ⟨ft, hft⟩ := H4.out.drop.drop.drop.fst
  have c0 := cell_at (i := 0) hft rfl
  clear hft
  go_wp2_with fail
  have OK4 := hide (star_ok (str_ok (A := M) (c := mc) (l := (openN k2 y).1)) (star_ok (str_ok (A := L) (c := lc) (l := (openN k x).1)) OK2.out))
  have H5 := hide ((run_new H4.out OK4.out #[.slice a.A T.rs.length a.c, .int .i64 k, .int .i64 k2, .slice L n1 lc, .slice M n2 mc, .int .i64 n1, .int .i64 n2, .string { data := #[] }, .bool false] 64).perm (by rw [star_emp_eq]; ac_rfl : _ = star (CellO w3.heap.size #[.slice a.A T.rs.length a.c, .int .i64 k, .int .i64 k2, .slice L n1 lc, .slice M n2 mc, .int .i64 n1, .int .i64 n2, .string { data := #[] }, .bool false] 64) (star (CellO gr #[.slice none 0 0, .int .i64 0, .int .i64 0, .slice none 0 0, .slice none 0 0, .int .i64 0, .int .i64 0, .string { data := #[] }, .bool false] 64) (star (CellO gt #[.slice a.A T.rs.length a.c, .slice a.D T.ds.length a.d, .slice a.E T.es.length a.e, .int .i64 T.drop, .int .i64 T.ord, .int .i64 T.ini] 25) (star (StrO M mc (openN k2 y).1) (StrO L lc (openN k x).1))))))
  have OK5 := hide (show (star (CellO w3.heap.size #[.slice a.A T.rs.length a.c, .int .i64 k, .int .i64 k2, .slice L n1 lc, .slice M n2 mc, .int .i64 n1, .int .i64 n2, .string { data := #[] }, .bool false] 64) (star (CellO gr #[.slice none 0 0, .int .i64 0, .int .i64 0, .slice none 0 0, .slice none 0 0, .int .i64 0, .int .i64 0, .string { data := #[] }, .bool false] 64) (star (CellO gt #[.slice a.A T.rs.length a.c, .slice a.D T.ds.length a.d, .slice a.E T.es.length a.e, .int .i64 T.drop, .int .i64 T.ord, .int .i64 T.ini] 25) (star (StrO M mc (openN k2 y).1) (StrO L lc (openN k x).1))))).Ok from star_ok cell_ok (star_ok cell_ok (star_ok cell_ok (star_ok str_ok str_ok))))
  clear c0 H4
  generalize w3.alloc (.cells #[.slice a.A T.rs.length a.c, .int .i64 k, .int .i64 k2, .slice L n1 lc, .slice M n2 mc, .int .i64 n1, .int .i64 n2, .string { data := #[] }, .bool false] 64) = w4 at *
  generalize w3.heap.size = gp at *
  have hSS : ∀ W, Run (fun _ => False) w (star (CellO gp #[.slice a.A T.rs.length a.c, .int .i64 k, .int .i64 k2, .slice L n1 lc, .slice M n2 mc, .int .i64 n1, .int .i64 n2, .string { data := #[] }, .bool false] 64) (star (CellO gr #[.slice none 0 0, .int .i64 0, .int .i64 0, .slice none 0 0, .slice none 0 0, .int .i64 0, .int .i64 0, .string { data := #[] }, .bool false] 64) (star (CellO gt #[.slice a.A T.rs.length a.c, .slice a.D T.ds.length a.d, .slice a.E T.es.length a.e, .int .i64 T.drop, .int .i64 T.ord, .int .i64 T.ini] 25) (star (StrO M mc (openN k2 y).1) (StrO L lc (openN k x).1))))) W → (fun w' : World => w'.cell? ⟨gp, 0, none⟩ = some (.slice a.A T.rs.length a.c) ∧ w'.cell? ⟨gp, 1, none⟩ = some (.int .i64 k) ∧ w'.cell? ⟨gp, 2, none⟩ = some (.int .i64 k2) ∧ w'.cell? ⟨gp, 3, none⟩ = some (.slice L n1 lc) ∧ w'.cell? ⟨gp, 4, none⟩ = some (.slice M n2 mc) ∧ w'.cell? ⟨gp, 5, none⟩ = some (.int .i64 n1) ∧ w'.cell? ⟨gp, 6, none⟩ = some (.int .i64 n2) ∧ w'.cell? ⟨gp, 7, none⟩ = some (.string { data := #[] }) ∧ w'.cell? ⟨gp, 8, none⟩ = some (.bool false) ∧ w'.cell? ⟨gt, 0, none⟩ = some (.slice a.A T.rs.length a.c) ∧ w'.cell? ⟨gt, 1, none⟩ = some (.slice a.D T.ds.length a.d) ∧ w'.cell? ⟨gt, 2, none⟩ = some (.slice a.E T.es.length a.e) ∧ w'.cell? ⟨gt, 3, none⟩ = some (.int .i64 T.drop) ∧ w'.cell? ⟨gt, 4, none⟩ = some (.int .i64 T.ord) ∧ w'.cell? ⟨gt, 5, none⟩ = some (.int .i64 T.ini)) W := fun W h => by
    obtain ⟨f1, hf1⟩ := h.fst
    obtain ⟨f2, hf2⟩ := h.drop.drop.fst
    exact ⟨cell_at hf1 rfl, cell_at hf1 rfl, cell_at hf1 rfl, cell_at hf1 rfl, cell_at hf1 rfl, cell_at hf1 rfl, cell_at hf1 rfl, cell_at hf1 rfl, cell_at hf1 rfl, cell_at hf2 rfl, cell_at hf2 rfl, cell_at hf2 rfl, cell_at hf2 rfl, cell_at hf2 rfl, cell_at hf2 rfl⟩
  have hS2 : ∀ W, Run (fun _ => False) w (star (CellO gr #[.slice a.A T.rs.length a.c, .int .i64 k, .int .i64 k2, .slice L n1 lc, .slice M n2 mc, .int .i64 n1, .int .i64 n2, .string { data := #[] }, .bool false] 64) (star (CellO gp #[.slice a.A T.rs.length a.c, .int .i64 k, .int .i64 k2, .slice L n1 lc, .slice M n2 mc, .int .i64 n1, .int .i64 n2, .string { data := #[] }, .bool false] 64) (star (CellO gt #[.slice a.A T.rs.length a.c, .slice a.D T.ds.length a.d, .slice a.E T.es.length a.e, .int .i64 T.drop, .int .i64 T.ord, .int .i64 T.ini] 25) (star (StrO M mc (openN k2 y).1) (StrO L lc (openN k x).1))))) W → (fun w' : World => w'.cell? ⟨gp, 0, none⟩ = some (.slice a.A T.rs.length a.c) ∧ w'.cell? ⟨gp, 1, none⟩ = some (.int .i64 k) ∧ w'.cell? ⟨gp, 2, none⟩ = some (.int .i64 k2) ∧ w'.cell? ⟨gp, 3, none⟩ = some (.slice L n1 lc) ∧ w'.cell? ⟨gp, 4, none⟩ = some (.slice M n2 mc) ∧ w'.cell? ⟨gp, 5, none⟩ = some (.int .i64 n1) ∧ w'.cell? ⟨gp, 6, none⟩ = some (.int .i64 n2) ∧ w'.cell? ⟨gp, 7, none⟩ = some (.string { data := #[] }) ∧ w'.cell? ⟨gp, 8, none⟩ = some (.bool false) ∧ w'.cell? ⟨gt, 0, none⟩ = some (.slice a.A T.rs.length a.c) ∧ w'.cell? ⟨gt, 1, none⟩ = some (.slice a.D T.ds.length a.d) ∧ w'.cell? ⟨gt, 2, none⟩ = some (.slice a.E T.es.length a.e) ∧ w'.cell? ⟨gt, 3, none⟩ = some (.int .i64 T.drop) ∧ w'.cell? ⟨gt, 4, none⟩ = some (.int .i64 T.ord) ∧ w'.cell? ⟨gt, 5, none⟩ = some (.int .i64 T.ini)) W := fun W h => by
    obtain ⟨f1, hf1⟩ := h.drop.fst
    obtain ⟨f2, hf2⟩ := h.drop.drop.fst
    exact ⟨cell_at hf1 rfl, cell_at hf1 rfl, cell_at hf1 rfl, cell_at hf1 rfl, cell_at hf1 rfl, cell_at hf1 rfl, cell_at hf1 rfl, cell_at hf1 rfl, cell_at hf1 rfl, cell_at hf2 rfl, cell_at hf2 rfl, cell_at hf2 rfl, cell_at hf2 rfl, cell_at hf2 rfl, cell_at hf2 rfl⟩
  have HS2 := hide hS2
  clear hS2
  have HSS := hide hSS
  clear hSS
  have H6 := hide (H5.out.drew OK5.out)
  have hS0 := HSS.out _ H6.out
  clear H5
  have hfin : ∀ (W : World) (b : Bool), okW T k x k2 y = b → Run (fun _ => False) w (star (CellO gr #[.slice a.A T.rs.length a.c, .int .i64 k, .int .i64 k2, .slice L n1 lc, .slice M n2 mc, .int .i64 n1, .int .i64 n2, .string { data := #[] }, .bool false] 64) (star (CellO gp #[.slice a.A T.rs.length a.c, .int .i64 k, .int .i64 k2, .slice L n1 lc, .slice M n2 mc, .int .i64 n1, .int .i64 n2, .string { data := #[] }, .bool false] 64) (star (CellO gt #[.slice a.A T.rs.length a.c, .slice a.D T.ds.length a.d, .slice a.E T.es.length a.e, .int .i64 T.drop, .int .i64 T.ord, .int .i64 T.ini] 25) (star (StrO M mc (openN k2 y).1) (StrO L lc (openN k x).1))))) W → OfRet a.A w T k x k2 y (.returned (.tuple #[.agg #[.slice a.A T.rs.length a.c, .int .i64 k, .int .i64 k2, .slice L n1 lc, .slice M n2 mc, .int .i64 n1, .int .i64 n2, .string { data := #[] }, .bool false], .bool b])) W := fun W b hb hr => by
    have hbel : Below w.heap.size w W := hr.mod.below (fun _ _ h => h)
    obtain ⟨F, ⟨fm, fl, hfm, hfl, -, hiff⟩, hF⟩ := hr.drop.drop.drop.own
    refine ⟨⟨a.A, a.c, L, lc, M, mc⟩, ?_, hbel, ⟨HT.out.rs.below hbel, vst_of hfl, vst_of hfm⟩, ?_, rfl, fun ad e => ?_, fun ad e => ?_⟩
    · rw [hb, HN1.out, HN2.out]; rfl
    · exact ⟨HT.out.lr, Nat.le_trans (openN_len k x) (by omega), Nat.le_trans (openN_len k2 y) (by omega), (row_cap hfl.1).1, (row_cap hfm.1).1, openN_each k x HX.out, openN_each k2 y HY.out, HT.out.sr⟩
    · have e : L = some ad := e
      exact (hF ad.block ((hiff _).2 (.inr ((hfl.2 _).2 (by rw [e]; rfl))))).elim (fun h => h.elim) id
    · have e : M = some ad := e
      exact (hF ad.block ((hiff _).2 (.inl ((hfm.2 _).2 (by rw [e]; rfl))))).elim (fun h => h.elim) id
  have HFIN := hide hfin
  clear hfin
  cases hb1 : word k x with
  | false =>
    refine wp_region_lex (fun w' : World => w'.cell? ⟨gp, 0, none⟩ = some (.slice a.A T.rs.length a.c) ∧ w'.cell? ⟨gp, 1, none⟩ = some (.int .i64 k) ∧ w'.cell? ⟨gp, 2, none⟩ = some (.int .i64 k2) ∧ w'.cell? ⟨gp, 3, none⟩ = some (.slice L n1 lc) ∧ w'.cell? ⟨gp, 4, none⟩ = some (.slice M n2 mc) ∧ w'.cell? ⟨gp, 5, none⟩ = some (.int .i64 n1) ∧ w'.cell? ⟨gp, 6, none⟩ = some (.int .i64 n2) ∧ w'.cell? ⟨gp, 7, none⟩ = some (.string { data := #[] }) ∧ w'.cell? ⟨gp, 8, none⟩ = some (.bool false) ∧ w'.cell? ⟨gt, 0, none⟩ = some (.slice a.A T.rs.length a.c) ∧ w'.cell? ⟨gt, 1, none⟩ = some (.slice a.D T.ds.length a.d) ∧ w'.cell? ⟨gt, 2, none⟩ = some (.slice a.E T.es.length a.e) ∧ w'.cell? ⟨gt, 3, none⟩ = some (.int .i64 T.drop) ∧ w'.cell? ⟨gt, 4, none⟩ = some (.int .i64 T.ord) ∧ w'.cell? ⟨gt, 5, none⟩ = some (.int .i64 T.ini)) rfl (by kernel_rfl) hS0 ?_
    clear hS0
    generalize w4.drew = W at *
    obtain ⟨fr, hfr⟩ := H6.out.drop.fst
    have r0 := cell_at (i := 0) hfr rfl
    have r1 := cell_at (i := 1) hfr rfl
    have r2 := cell_at (i := 2) hfr rfl
    have r3 := cell_at (i := 3) hfr rfl
    have r4 := cell_at (i := 4) hfr rfl
    have r5 := cell_at (i := 5) hfr rfl
    have r6 := cell_at (i := 6) hfr rfl
    have r7 := cell_at (i := 7) hfr rfl
    have r8 := cell_at (i := 8) hfr rfl
    have rf := cell_free hfr
    clear hfr
    (repeat (first | (refine lex_skip (by rfl) ?_; try simp only [Act.put, List.setIfInBounds_toArray, List.set_cons_zero, List.set_cons_succ]) | (refine lex_read (v := ?_) (by rfl) ?_ ?_; rotate_left; (focus (intro w' hS'; go_simp; (try with_reducible rfl); done)); try simp only [Act.put, List.setIfInBounds_toArray, List.set_cons_zero, List.set_cons_succ])))
    refine lex_chain rfl (by rfl) (fun K hK => ?_)
    go_wp2_with fail
    have H7 := hide (run_set9 (H6.out.rot) (star_ok cell_ok (star_ok cell_ok (star_ok str_ok str_ok))) (.slice a.A T.rs.length a.c) (.int .i64 k) (.int .i64 k2) (.slice L n1 lc) (.slice M n2 mc) (.int .i64 n1) (.int .i64 n2) (.string { data := #[] }) (.bool false))
    clear H6 r0 r1 r2 r3 r4 r5 r6 r7 r8 rf
    generalize (((((((((W.setCell ⟨gr, 0, none⟩ (.slice a.A T.rs.length a.c)).setCell ⟨gr, 1, none⟩ (.int .i64 k)).setCell ⟨gr, 2, none⟩ (.int .i64 k2)).setCell ⟨gr, 3, none⟩ (.slice L n1 lc)).setCell ⟨gr, 4, none⟩ (.slice M n2 mc)).setCell ⟨gr, 5, none⟩ (.int .i64 n1)).setCell ⟨gr, 6, none⟩ (.int .i64 n2)).setCell ⟨gr, 7, none⟩ (.string { data := #[] })).setCell ⟨gr, 8, none⟩ (.bool false)) = W9 at *
    refine hK.out _ _ (HS2.out _ H7.out) ?_
    clear hK
    (repeat (first | (refine lex_skip (by rfl) ?_; try simp only [Act.put, List.setIfInBounds_toArray, List.set_cons_zero, List.set_cons_succ]) | (refine lex_read (v := ?_) (by rfl) ?_ ?_; rotate_left; (focus (intro w' hS'; go_simp; (try with_reducible rfl); done)); try simp only [Act.put, List.setIfInBounds_toArray, List.set_cons_zero, List.set_cons_succ])))
    refine lex_nil ?_
    obtain ⟨fr, hfr⟩ := H7.out.fst
    have hblk := hfr.1
    clear hfr
    go_wp2_with fail
    refine bodyPost_ret (res_cell_tmp rfl _ _ gr 64 #[.slice a.A T.rs.length a.c, .int .i64 k, .int .i64 k2, .slice L n1 lc, .slice M n2 mc, .int .i64 n1, .int .i64 n2, .string { data := #[] }, .bool false] (0, 0) rfl hblk Tryz.underlying64 (by kernel_rfl)) rfl ?_
    clear hblk
    exact HFIN.out _ _ (by unfold okW; rw [hb1]; rfl) H7.out
  | true =>
    cases hb2 : word k2 y with
    | false =>
      refine wp_region_lex (fun w' : World => w'.cell? ⟨gp, 0, none⟩ = some (.slice a.A T.rs.length a.c) ∧ w'.cell? ⟨gp, 1, none⟩ = some (.int .i64 k) ∧ w'.cell? ⟨gp, 2, none⟩ = some (.int .i64 k2) ∧ w'.cell? ⟨gp, 3, none⟩ = some (.slice L n1 lc) ∧ w'.cell? ⟨gp, 4, none⟩ = some (.slice M n2 mc) ∧ w'.cell? ⟨gp, 5, none⟩ = some (.int .i64 n1) ∧ w'.cell? ⟨gp, 6, none⟩ = some (.int .i64 n2) ∧ w'.cell? ⟨gp, 7, none⟩ = some (.string { data := #[] }) ∧ w'.cell? ⟨gp, 8, none⟩ = some (.bool false) ∧ w'.cell? ⟨gt, 0, none⟩ = some (.slice a.A T.rs.length a.c) ∧ w'.cell? ⟨gt, 1, none⟩ = some (.slice a.D T.ds.length a.d) ∧ w'.cell? ⟨gt, 2, none⟩ = some (.slice a.E T.es.length a.e) ∧ w'.cell? ⟨gt, 3, none⟩ = some (.int .i64 T.drop) ∧ w'.cell? ⟨gt, 4, none⟩ = some (.int .i64 T.ord) ∧ w'.cell? ⟨gt, 5, none⟩ = some (.int .i64 T.ini)) rfl (by kernel_rfl) hS0 ?_
      clear hS0
      generalize w4.drew = W at *
      obtain ⟨fr, hfr⟩ := H6.out.drop.fst
      have r0 := cell_at (i := 0) hfr rfl
      have r1 := cell_at (i := 1) hfr rfl
      have r2 := cell_at (i := 2) hfr rfl
      have r3 := cell_at (i := 3) hfr rfl
      have r4 := cell_at (i := 4) hfr rfl
      have r5 := cell_at (i := 5) hfr rfl
      have r6 := cell_at (i := 6) hfr rfl
      have r7 := cell_at (i := 7) hfr rfl
      have r8 := cell_at (i := 8) hfr rfl
      have rf := cell_free hfr
      clear hfr
      (repeat (first | (refine lex_skip (by rfl) ?_; try simp only [Act.put, List.setIfInBounds_toArray, List.set_cons_zero, List.set_cons_succ]) | (refine lex_read (v := ?_) (by rfl) ?_ ?_; rotate_left; (focus (intro w' hS'; go_simp; (try with_reducible rfl); done)); try simp only [Act.put, List.setIfInBounds_toArray, List.set_cons_zero, List.set_cons_succ])))
      refine lex_chain rfl (by rfl) (fun K hK => ?_)
      go_wp2_with fail
      have H7 := hide (run_set9 (H6.out.rot) (star_ok cell_ok (star_ok cell_ok (star_ok str_ok str_ok))) (.slice a.A T.rs.length a.c) (.int .i64 k) (.int .i64 k2) (.slice L n1 lc) (.slice M n2 mc) (.int .i64 n1) (.int .i64 n2) (.string { data := #[] }) (.bool false))
      clear H6 r0 r1 r2 r3 r4 r5 r6 r7 r8 rf
      generalize (((((((((W.setCell ⟨gr, 0, none⟩ (.slice a.A T.rs.length a.c)).setCell ⟨gr, 1, none⟩ (.int .i64 k)).setCell ⟨gr, 2, none⟩ (.int .i64 k2)).setCell ⟨gr, 3, none⟩ (.slice L n1 lc)).setCell ⟨gr, 4, none⟩ (.slice M n2 mc)).setCell ⟨gr, 5, none⟩ (.int .i64 n1)).setCell ⟨gr, 6, none⟩ (.int .i64 n2)).setCell ⟨gr, 7, none⟩ (.string { data := #[] })).setCell ⟨gr, 8, none⟩ (.bool false)) = W9 at *
      refine hK.out _ _ (HS2.out _ H7.out) ?_
      clear hK
      (repeat (first | (refine lex_skip (by rfl) ?_; try simp only [Act.put, List.setIfInBounds_toArray, List.set_cons_zero, List.set_cons_succ]) | (refine lex_read (v := ?_) (by rfl) ?_ ?_; rotate_left; (focus (intro w' hS'; go_simp; (try with_reducible rfl); done)); try simp only [Act.put, List.setIfInBounds_toArray, List.set_cons_zero, List.set_cons_succ])))
      refine lex_nil ?_
      obtain ⟨fr, hfr⟩ := H7.out.fst
      have hblk := hfr.1
      clear hfr
      go_wp2_with fail
      refine bodyPost_ret (res_cell_tmp rfl _ _ gr 64 #[.slice a.A T.rs.length a.c, .int .i64 k, .int .i64 k2, .slice L n1 lc, .slice M n2 mc, .int .i64 n1, .int .i64 n2, .string { data := #[] }, .bool false] (0, 0) rfl hblk Tryz.underlying64 (by kernel_rfl)) rfl ?_
      clear hblk
      exact HFIN.out _ _ (by unfold okW; rw [hb1, hb2]; rfl) H7.out
    | true =>
      refine wp_region_lex (fun w' : World => w'.cell? ⟨gp, 0, none⟩ = some (.slice a.A T.rs.length a.c) ∧ w'.cell? ⟨gp, 1, none⟩ = some (.int .i64 k) ∧ w'.cell? ⟨gp, 2, none⟩ = some (.int .i64 k2) ∧ w'.cell? ⟨gp, 3, none⟩ = some (.slice L n1 lc) ∧ w'.cell? ⟨gp, 4, none⟩ = some (.slice M n2 mc) ∧ w'.cell? ⟨gp, 5, none⟩ = some (.int .i64 n1) ∧ w'.cell? ⟨gp, 6, none⟩ = some (.int .i64 n2) ∧ w'.cell? ⟨gp, 7, none⟩ = some (.string { data := #[] }) ∧ w'.cell? ⟨gp, 8, none⟩ = some (.bool false) ∧ w'.cell? ⟨gt, 0, none⟩ = some (.slice a.A T.rs.length a.c) ∧ w'.cell? ⟨gt, 1, none⟩ = some (.slice a.D T.ds.length a.d) ∧ w'.cell? ⟨gt, 2, none⟩ = some (.slice a.E T.es.length a.e) ∧ w'.cell? ⟨gt, 3, none⟩ = some (.int .i64 T.drop) ∧ w'.cell? ⟨gt, 4, none⟩ = some (.int .i64 T.ord) ∧ w'.cell? ⟨gt, 5, none⟩ = some (.int .i64 T.ini)) rfl (by kernel_rfl) hS0 ?_
      clear hS0
      generalize w4.drew = W at *
      have KV := hide (tvalid_any (HT.out.below (HBE.out _ _ H6.out)) (HZW.out _ _ H6.out))
      unfold tabV tabC at KV
      obtain ⟨fr, hfr⟩ := H6.out.drop.fst
      have r0 := cell_at (i := 0) hfr rfl
      have r1 := cell_at (i := 1) hfr rfl
      have r2 := cell_at (i := 2) hfr rfl
      have r3 := cell_at (i := 3) hfr rfl
      have r4 := cell_at (i := 4) hfr rfl
      have r5 := cell_at (i := 5) hfr rfl
      have r6 := cell_at (i := 6) hfr rfl
      have r7 := cell_at (i := 7) hfr rfl
      have r8 := cell_at (i := 8) hfr rfl
      have rf := cell_free hfr
      clear hfr
      (repeat (first | (refine lex_skip (by rfl) ?_; try simp only [Act.put, List.setIfInBounds_toArray, List.set_cons_zero, List.set_cons_succ]) | (refine lex_read (v := ?_) (by rfl) ?_ ?_; rotate_left; (focus (intro w' hS'; go_simp; (try with_reducible rfl); done)); try simp only [Act.put, List.setIfInBounds_toArray, List.set_cons_zero, List.set_cons_succ])))
      refine lex_chain rfl (by rfl) (fun K hK => ?_)
      go_wp2_with fail
      refine KV.out.mono ?_
      rintro e9 w6 ⟨rfl, hb⟩
      have H6b := hide (H6.out.below OK5.out hb)
      clear KV H6 hb r0 r1 r2 r3 r4 r5 r6 r7 r8 rf
      dsimp only
      refine hK.out _ _ (HSS.out _ H6b.out) ?_
      clear hK
      obtain ⟨fr, hfr⟩ := H6b.out.drop.fst
      have r0 := cell_at (i := 0) hfr rfl
      have r1 := cell_at (i := 1) hfr rfl
      have r2 := cell_at (i := 2) hfr rfl
      have r3 := cell_at (i := 3) hfr rfl
      have r4 := cell_at (i := 4) hfr rfl
      have r5 := cell_at (i := 5) hfr rfl
      have r6 := cell_at (i := 6) hfr rfl
      have r7 := cell_at (i := 7) hfr rfl
      have r8 := cell_at (i := 8) hfr rfl
      have rf := cell_free hfr
      clear hfr
      (repeat (first | (refine lex_skip (by rfl) ?_; try simp only [Act.put, List.setIfInBounds_toArray, List.set_cons_zero, List.set_cons_succ]) | (refine lex_read (v := ?_) (by rfl) ?_ ?_; rotate_left; (focus (intro w' hS'; go_simp; (try with_reducible rfl); done)); try simp only [Act.put, List.setIfInBounds_toArray, List.set_cons_zero, List.set_cons_succ])))
      refine lex_chain rfl (by rfl) (fun K hK => ?_)
      go_wp2_with fail
      have H7 := hide (run_set9 (H6b.out.rot) (star_ok cell_ok (star_ok cell_ok (star_ok str_ok str_ok))) (.slice a.A T.rs.length a.c) (.int .i64 k) (.int .i64 k2) (.slice L n1 lc) (.slice M n2 mc) (.int .i64 n1) (.int .i64 n2) (.string { data := #[] }) (.bool false))
      clear H6b r0 r1 r2 r3 r4 r5 r6 r7 r8 rf
      generalize (((((((((w6.setCell ⟨gr, 0, none⟩ (.slice a.A T.rs.length a.c)).setCell ⟨gr, 1, none⟩ (.int .i64 k)).setCell ⟨gr, 2, none⟩ (.int .i64 k2)).setCell ⟨gr, 3, none⟩ (.slice L n1 lc)).setCell ⟨gr, 4, none⟩ (.slice M n2 mc)).setCell ⟨gr, 5, none⟩ (.int .i64 n1)).setCell ⟨gr, 6, none⟩ (.int .i64 n2)).setCell ⟨gr, 7, none⟩ (.string { data := #[] })).setCell ⟨gr, 8, none⟩ (.bool false)) = W9 at *
      refine hK.out _ _ (HS2.out _ H7.out) ?_
      clear hK
      (repeat (first | (refine lex_skip (by rfl) ?_; try simp only [Act.put, List.setIfInBounds_toArray, List.set_cons_zero, List.set_cons_succ]) | (refine lex_read (v := ?_) (by rfl) ?_ ?_; rotate_left; (focus (intro w' hS'; go_simp; (try with_reducible rfl); done)); try simp only [Act.put, List.setIfInBounds_toArray, List.set_cons_zero, List.set_cons_succ])))
      refine lex_nil ?_
      obtain ⟨fr, hfr⟩ := H7.out.fst
      have hblk := hfr.1
      clear hfr
      go_wp2_with fail
      refine bodyPost_ret (res_cell_tmp rfl _ _ gr 64 #[.slice a.A T.rs.length a.c, .int .i64 k, .int .i64 k2, .slice L n1 lc, .slice M n2 mc, .int .i64 n1, .int .i64 n2, .string { data := #[] }, .bool false] (0, 0) rfl hblk Tryz.underlying64 (by kernel_rfl)) rfl ?_
      clear hblk
      exact HFIN.out _ _ (by unfold okW; rw [hb1, hb2]; rfl) H7.out
end Go.Proofs.YtnppgomhhcbplaaGreatDoor
namespace Go.Proofs.YtnppgomhhcbplaaGreatDoor
open Go.RowKit Go.CH Go.CH.Scr Go.CH.Pot
open Go.ChangeMaps (setBlock)
def oddN (r : Nat) : Bool := decide (r < 97) || decide (122 < r)
theorem odd_low (c : UInt8) : oddN c.toNat = !isLow c := by
  unfold oddN isLow
  have h1 : (97 ≤ c) ↔ 97 ≤ c.toNat := by rw [UInt8.le_iff_toNat_le]; rfl
  have h2 : (c ≤ 122) ↔ c.toNat ≤ 122 := by rw [UInt8.le_iff_toNat_le]; rfl
  by_cases g1 : 97 ≤ c.toNat <;> by_cases g2 : c.toNat ≤ 122
  · simp [h1, h2, g1, g2]
  · simp [h1, h2, g1, g2]; omega
  · simp [h1, h2, g1, g2]; omega
  · simp [h1, h2, g1, g2]; omega
theorem idx_odd (s : ByteArray) : ∀ (f pos : Nat), s.size ≤ f + pos → decide (0 ≤ Lib.idxFuncFrom oddN true s f pos) = !((bl s).drop pos).all isLow
  | 0, pos, h => by
    have e : (bl s).drop pos = [] := List.drop_eq_nil_of_le (by rw [bl_len]; omega)
    rw [e]; rfl
  | f + 1, pos, h => by
    unfold Lib.idxFuncFrom
    by_cases hp : pos < s.size
    · have hl : pos < (bl s).length := by rw [bl_len]; exact hp
      have hc : (bl s)[pos] = s[pos] := by
        have := bl_at s pos hp
        rw [List.getElem?_eq_getElem hl] at this
        injection this
      rw [if_pos hp, List.drop_eq_getElem_cons hl, List.all_cons, hc]
      by_cases ha : (s[pos]'hp).toNat < 128
      · rw [decode_ascii s pos hp ha]
        simp only
        rw [odd_low]
        cases hlow : isLow s[pos] with
        | false => simp
        | true =>
          simp only [Bool.not_true, Bool.false_eq_true, if_false, Bool.true_and]
          exact idx_odd s f (pos + 1) (by omega)
      · have h1 := (Go.decode_high s pos hp (by omega)).1
        have h2 : oddN (Utf8.decode s pos).1 = true := by unfold oddN; simp; omega
        have h3 : isLow s[pos] = false := by
          unfold isLow
          have : ¬ (s[pos] ≤ 122) := by rw [UInt8.le_iff_toNat_le]; show ¬ (s[pos].toNat ≤ 122); omega
          simp [this]
        rw [h2, h3]
        simp
    · have e : (bl s).drop pos = [] := List.drop_eq_nil_of_le (by rw [bl_len]; omega)
      rw [if_neg hp, e]; rfl
theorem idx_low (a : Bs) : decide (0 ≤ Lib.idxFunc oddN true (bs a)) = !a.all isLow := by
  have := idx_odd (bs a) (bs a).size 0 (by omega)
  rw [List.drop_zero, bl_bs] at this
  exact this
theorem odd_any (x : Nat) (w : World) : Calls Tryz.prog 58 #[.int .i32 (x : Int)] w fun e w' => e = .returned (.bool (oddN x)) ∧ w' = w := by
  unfold oddN
  by_cases h1 : x < 97
  · have h1' : (x : Int) < 97 := by omega
    rw [decide_eq_true h1]
    go_enter Tryz.func58, Tryz.ntmps58
    go_wp2
    go_ret
    exact ⟨rfl, rfl⟩
  · have h1' : ¬ (x : Int) < 97 := by omega
    rw [decide_eq_false h1]
    by_cases h2 : 122 < x
    · have h2' : (122 : Int) < (x : Int) := by omega
      rw [decide_eq_true h2]
      go_enter Tryz.func58, Tryz.ntmps58
      go_wp2
      go_ret
      exact ⟨rfl, rfl⟩
    · have h2' : ¬ (122 : Int) < (x : Int) := by omega
      rw [decide_eq_false h2]
      go_enter Tryz.func58, Tryz.ntmps58
      go_wp2
      go_ret
      exact ⟨rfl, rfl⟩
theorem ahead_any (a : Bs) (w : World) : Calls Tryz.prog 59 #[.string (bs a), .func (.func 58) #[] #[]] w (BelowRet w (.bool (!a.all isLow))) := by
  have h := Tryz.strings_ContainsFunc 58 #[] (enters_of Tryz.func58 (by kernel_rfl) rfl) oddN (bs a) w (fun W x _ => (odd_any x W).mono fun e w' ⟨h1, h2⟩ => ⟨h1, 0, h2⟩)
  rw [idx_low] at h
  exact h
end Go.Proofs.YtnppgomhhcbplaaGreatDoor
namespace Go.Proofs.YtnppgomhhcbplaaGreatDoor
open Go.RowKit Go.CH Go.CH.Scr Go.CH.Pot
open Go.ChangeMaps (setBlock)
theorem wp_neq_agg {P : Program} {o : Oper} {a : Act} {w : World} {K : Act → World → Prop} {Q : Exit → Act → World → Prop} {t t2 : TypeId} {x y : Operand} {xs ys : Array Value} {v : Value} (ho : o.op = .binOp .neq t x y t2) (hx : a.eval x = .agg xs) (hy : a.eval y = .agg ys)
    (hm : P.eqGuardType P.depth t = false) (h : (binOp .neq t (.agg xs) (.agg ys)).run P w = .ok v w) (hK : K (a.put o.dst v) w) : o.wp P a w K Q := by
  unfold Oper.wp execOp
  simp only [ho, hx, hy, Sem.run_bind, run_eqGuard_agg w .neq t x y xs ys hm, Result.andThen_ok, h, Sem.run_pure]
  exact hK
theorem neq_st (a b : St) (w : World) : (binOp .neq 62 (stV a) (stV b)).run Tryz.prog w = .ok (.bool (decide (a ≠ b))) w := by
  have h := key_neq (P := Tryz.prog) (fs := #[⟨ "i", 3, 0, false, "", "customhouse/potential", 0⟩, ⟨ "j", 3, 1, false, "", "customhouse/potential", 8⟩, ⟨ "ahead", 9, 2, false, "", "customhouse/potential", 16⟩, ⟨ "right", 4, 3, false, "", "customhouse/potential", 32⟩]) Tryz.underlying62 (by kernel_rfl) (st_flats a) (st_flats b) w
  refine h.trans ?_
  rw [show (#[(⟨ "i", 3, 0, false, "", "customhouse/potential", 0⟩ : Field), ⟨ "j", 3, 1, false, "", "customhouse/potential", 8⟩, ⟨ "ahead", 9, 2, false, "", "customhouse/potential", 16⟩, ⟨ "right", 4, 3, false, "", "customhouse/potential", 32⟩] : Array Field).toList = [⟨ "i", 3, 0, false, "", "customhouse/potential", 0⟩, ⟨ "j", 3, 1, false, "", "customhouse/potential", 8⟩, ⟨ "ahead", 9, 2, false, "", "customhouse/potential", 16⟩, ⟨ "right", 4, 3, false, "", "customhouse/potential", 32⟩] from rfl, st_same]
  by_cases h : a = b <;> simp [h]
theorem proper_eq (W : Wd) (bound : Int) (p : Pt) : proper W bound p = (decide (0 ≤ p.i) && decide (p.i ≤ W.l.length) && decide (0 ≤ p.j) && decide (p.j ≤ W.m.length) && decide (p.a.length ≤ 3) && p.a.all isLow && (!p.r || decide (p.a ≠ [])) && decide (p.st ≠ W.fin) && decide (0 < p.h) && decide (p.h ≤ min bound 100000)) := rfl
set_option maxHeartbeats 6400000 in
set_option maxRecDepth 100000 in
theorem proper_any {W : Wd} {pa : PA} {bound : Int} {p : Pt} (w : World) (ha : p.a.length ≤ 1000000) (hl : W.l.length ≤ 1000000) (hm : W.m.length ≤ 1000000) : Calls Tryz.prog 32 #[pairV W pa, ptV p, .int .i64 bound] w (BelowRet w (.bool (proper W bound p))) := by
  obtain ⟨b, hb⟩ : ∃ b, b = proper W bound p := ⟨_, rfl⟩
  rw [← hb]
  rw [proper_eq] at hb
  obtain ⟨pi, pj, pa', pr, ph⟩ := p
  have HB := hide hb
  clear hb
  have h1 := run_new (Run.begin w) emp_ok (pairC W pa) 64
  have h2 := run_new h1 (star_ok cell_ok emp_ok) #[.int .i64 pi, .int .i64 pj, .string (bs pa'), .bool pr, .int .i64 ph] 37
  have HBE := hide (h2.mod.below (fun _ _ h => h))
  have h3 := run_new h2 (star_ok cell_ok (star_ok cell_ok emp_ok)) #[.int .i64 pi, .int .i64 pj, .string (bs pa'), .bool pr] 62
  simp only [World.size_alloc] at h3
  have H3 := hide h3
  clear h1 h2 h3
  unfold pairV ptV pairC
  unfold pairC at HBE H3
  dsimp only at HB ha ⊢
  by_cases hA : 0 ≤ pi
  case neg =>
    have HV := hide (show b = false from by rw [HB.out]; simp [hA])
    clear HB
    go_enter Tryz.func32, Tryz.ntmps32
    go_wp2
    go_ret
    exact bel_bool HV.out (HBE.out.alloc HBE.out.size _)
  case pos =>
    by_cases hB : pi ≤ W.l.length
    case neg =>
      have HV := hide (show b = false from by rw [HB.out]; simp [hA, hB])
      clear HB
      go_enter Tryz.func32, Tryz.ntmps32
      go_wp2
      go_ret
      exact bel_bool HV.out (HBE.out.alloc HBE.out.size _)
    case pos =>
      by_cases hC : 0 ≤ pj
      case neg =>
        have HV := hide (show b = false from by rw [HB.out]; simp [hA, hB, hC])
        clear HB
        go_enter Tryz.func32, Tryz.ntmps32
        go_wp2
        go_ret
        exact bel_bool HV.out (HBE.out.alloc HBE.out.size _)
      case pos =>
        by_cases hD : pj ≤ W.m.length
        case neg =>
          have HV := hide (show b = false from by rw [HB.out]; simp [hA, hB, hC, hD])
          clear HB
          go_enter Tryz.func32, Tryz.ntmps32
          go_wp2
          go_ret
          exact bel_bool HV.out (HBE.out.alloc HBE.out.size _)
        case pos =>
          by_cases hE : pa'.length ≤ 3
          case neg =>
            have hE' : ¬ ((bs pa').size : Int) ≤ 3 := by rw [bs_size]; omega
            have HV := hide (show b = false from by rw [HB.out]; simp [hE])
            clear HB
            go_enter Tryz.func32, Tryz.ntmps32
            go_wp2
            go_ret
            exact bel_bool HV.out (HBE.out.alloc HBE.out.size _)
          case pos =>
            have hE' : ((bs pa').size : Int) ≤ 3 := by rw [bs_size]; omega
            cases hlow : pa'.all isLow with
            | false =>
              have HV := hide (show b = false from by rw [HB.out]; simp [hlow])
              have KA := hide (fun W' => ahead_any pa' W')
              simp only [hlow, Bool.not_true, Bool.not_false] at KA
              clear HB
              go_enter Tryz.func32, Tryz.ntmps32
              go_wp2_with fail
              refine (KA.out _).mono ?_
              rintro e9 w9 ⟨rfl, hb9⟩
              have H4 := hide (H3.out.below (star_ok cell_ok (star_ok cell_ok (star_ok cell_ok emp_ok))) hb9)
              have HB9 := hide (H4.out.mod.below (fun _ _ h => h))
              clear H3
              obtain ⟨F1, hF1⟩ := H4.out.fst
              obtain ⟨F2, hF2⟩ := H4.out.drop.fst
              obtain ⟨F3, hF3⟩ := H4.out.drop.drop.fst
              have s0 := cell_at (i := 0) hF1 rfl
              have s1 := cell_at (i := 1) hF1 rfl
              have s2 := cell_at (i := 2) hF1 rfl
              have s3 := cell_at (i := 3) hF1 rfl
              have p2 := cell_at (i := 2) hF2 rfl
              have p3 := cell_at (i := 3) hF2 rfl
              have p4 := cell_at (i := 4) hF2 rfl
              have e5 := cell_at (i := 5) hF3 rfl
              have e6 := cell_at (i := 6) hF3 rfl
              have e7 := cell_at (i := 7) hF3 rfl
              have e8 := cell_at (i := 8) hF3 rfl
              clear hF1 hF2 hF3 H4
              clear KA hb9
              dsimp only
              go_wp2
              go_ret
              exact bel_bool HV.out HB9.out
            | true =>
              by_cases hG : pr = true ∧ pa' = []
              case pos =>
                obtain ⟨rfl, rfl⟩ := hG
                have hne : (bs ([] : Bs)).toList.isEmpty = true := by rw [List.isEmpty_iff]; exact bs_empty.2 rfl
                have HV := hide (show b = false from by rw [HB.out]; simp [])
                have KA := hide (fun W' => ahead_any [] W')
                simp only [List.all_nil, Bool.not_true] at KA
                clear HB
                go_enter Tryz.func32, Tryz.ntmps32
                go_wp2_with fail
                refine (KA.out _).mono ?_
                rintro e9 w9 ⟨rfl, hb9⟩
                have H4 := hide (H3.out.below (star_ok cell_ok (star_ok cell_ok (star_ok cell_ok emp_ok))) hb9)
                have HB9 := hide (H4.out.mod.below (fun _ _ h => h))
                clear H3
                obtain ⟨F1, hF1⟩ := H4.out.fst
                obtain ⟨F2, hF2⟩ := H4.out.drop.fst
                obtain ⟨F3, hF3⟩ := H4.out.drop.drop.fst
                have s0 := cell_at (i := 0) hF1 rfl
                have s1 := cell_at (i := 1) hF1 rfl
                have s2 := cell_at (i := 2) hF1 rfl
                have s3 := cell_at (i := 3) hF1 rfl
                have p2 := cell_at (i := 2) hF2 rfl
                have p3 := cell_at (i := 3) hF2 rfl
                have p4 := cell_at (i := 4) hF2 rfl
                have e5 := cell_at (i := 5) hF3 rfl
                have e6 := cell_at (i := 6) hF3 rfl
                have e7 := cell_at (i := 7) hF3 rfl
                have e8 := cell_at (i := 8) hF3 rfl
                clear hF1 hF2 hF3 H4
                clear KA hb9
                dsimp only
                go_wp2
                go_ret
                exact bel_bool HV.out HB9.out
              case neg =>
                have hG2 : (!pr || decide (pa' ≠ [])) = true := by cases hp : pr <;> simp [hp] at hG ⊢; exact hG
                obtain ⟨ni, rfl⟩ : ∃ n : Nat, pi = n := ⟨pi.toNat, by omega⟩
                obtain ⟨nj, rfl⟩ : ∃ n : Nat, pj = n := ⟨pj.toNat, by omega⟩
                have heq := fun w => neq_st ⟨ni, nj, pa', pr⟩ W.fin w
                by_cases hI : (⟨ni, nj, pa', pr⟩ : St) = W.fin
                case pos =>
                  have hst : Pt.st ⟨ni, nj, pa', pr, ph⟩ = W.fin := hI
                  rw [decide_eq_false (fun h => h hI)] at heq
                  unfold stV stC Wd.fin at heq
                  dsimp only at heq
                  cases pr with
                  | false =>
                    have HV := hide (show b = false from by rw [HB.out]; simp [hst])
                    have KA := hide (fun W' => ahead_any pa' W')
                    simp only [hlow, Bool.not_true, Bool.not_false] at KA
                    clear HB
                    go_enter Tryz.func32, Tryz.ntmps32
                    go_wp2_with fail
                    refine (KA.out _).mono ?_
                    rintro e9 w9 ⟨rfl, hb9⟩
                    have H4 := hide (H3.out.below (star_ok cell_ok (star_ok cell_ok (star_ok cell_ok emp_ok))) hb9)
                    have HB9 := hide (H4.out.mod.below (fun _ _ h => h))
                    clear H3
                    obtain ⟨F1, hF1⟩ := H4.out.fst
                    obtain ⟨F2, hF2⟩ := H4.out.drop.fst
                    obtain ⟨F3, hF3⟩ := H4.out.drop.drop.fst
                    have s0 := cell_at (i := 0) hF1 rfl
                    have s1 := cell_at (i := 1) hF1 rfl
                    have s2 := cell_at (i := 2) hF1 rfl
                    have s3 := cell_at (i := 3) hF1 rfl
                    have p2 := cell_at (i := 2) hF2 rfl
                    have p3 := cell_at (i := 3) hF2 rfl
                    have p4 := cell_at (i := 4) hF2 rfl
                    have e5 := cell_at (i := 5) hF3 rfl
                    have e6 := cell_at (i := 6) hF3 rfl
                    have e7 := cell_at (i := 7) hF3 rfl
                    have e8 := cell_at (i := 8) hF3 rfl
                    clear hF1 hF2 hF3 H4
                    clear KA hb9
                    dsimp only
                    have heq2 := heq w9
                    clear heq
                    iterate 42 (first | go_values | go_guarded | go_step)
                    refine wp_neq_agg rfl rfl rfl (by kernel_rfl) heq2 ?_
                    go_wp2
                    go_ret
                    exact bel_bool HV.out HB9.out
                  | true =>
                    have hne : (bs pa').toList.isEmpty = false := by rw [List.isEmpty_eq_false_iff]; exact fun e => hG ⟨rfl, bs_empty.1 e⟩
                    have hG3 : pa' ≠ [] := fun e => hG ⟨rfl, e⟩
                    have HV := hide (show b = false from by rw [HB.out]; simp [hst, hG3])
                    have KA := hide (fun W' => ahead_any pa' W')
                    simp only [hlow, Bool.not_true, Bool.not_false] at KA
                    clear HB
                    go_enter Tryz.func32, Tryz.ntmps32
                    go_wp2_with fail
                    refine (KA.out _).mono ?_
                    rintro e9 w9 ⟨rfl, hb9⟩
                    have H4 := hide (H3.out.below (star_ok cell_ok (star_ok cell_ok (star_ok cell_ok emp_ok))) hb9)
                    have HB9 := hide (H4.out.mod.below (fun _ _ h => h))
                    clear H3
                    obtain ⟨F1, hF1⟩ := H4.out.fst
                    obtain ⟨F2, hF2⟩ := H4.out.drop.fst
                    obtain ⟨F3, hF3⟩ := H4.out.drop.drop.fst
                    have s0 := cell_at (i := 0) hF1 rfl
                    have s1 := cell_at (i := 1) hF1 rfl
                    have s2 := cell_at (i := 2) hF1 rfl
                    have s3 := cell_at (i := 3) hF1 rfl
                    have p2 := cell_at (i := 2) hF2 rfl
                    have p3 := cell_at (i := 3) hF2 rfl
                    have p4 := cell_at (i := 4) hF2 rfl
                    have e5 := cell_at (i := 5) hF3 rfl
                    have e6 := cell_at (i := 6) hF3 rfl
                    have e7 := cell_at (i := 7) hF3 rfl
                    have e8 := cell_at (i := 8) hF3 rfl
                    clear hF1 hF2 hF3 H4
                    clear KA hb9
                    dsimp only
                    have heq2 := heq w9
                    clear heq
                    iterate 50 (first | go_values | go_guarded | go_step)
                    refine wp_neq_agg rfl rfl rfl (by kernel_rfl) heq2 ?_
                    go_wp2
                    go_ret
                    exact bel_bool HV.out HB9.out
                case neg =>
                  rw [decide_eq_true hI] at heq
                  unfold stV stC Wd.fin at heq
                  dsimp only at heq
                  have hI2 : (Pt.st ⟨ni, nj, pa', pr, ph⟩ : St) ≠ W.fin := hI
                  by_cases hJ : 0 < ph
                  case neg =>
                    cases pr with
                    | false =>
                      have HV := hide (show b = false from by rw [HB.out]; simp [hJ])
                      have KA := hide (fun W' => ahead_any pa' W')
                      simp only [hlow, Bool.not_true, Bool.not_false] at KA
                      clear HB
                      go_enter Tryz.func32, Tryz.ntmps32
                      go_wp2_with fail
                      refine (KA.out _).mono ?_
                      rintro e9 w9 ⟨rfl, hb9⟩
                      have H4 := hide (H3.out.below (star_ok cell_ok (star_ok cell_ok (star_ok cell_ok emp_ok))) hb9)
                      have HB9 := hide (H4.out.mod.below (fun _ _ h => h))
                      clear H3
                      obtain ⟨F1, hF1⟩ := H4.out.fst
                      obtain ⟨F2, hF2⟩ := H4.out.drop.fst
                      obtain ⟨F3, hF3⟩ := H4.out.drop.drop.fst
                      have s0 := cell_at (i := 0) hF1 rfl
                      have s1 := cell_at (i := 1) hF1 rfl
                      have s2 := cell_at (i := 2) hF1 rfl
                      have s3 := cell_at (i := 3) hF1 rfl
                      have p2 := cell_at (i := 2) hF2 rfl
                      have p3 := cell_at (i := 3) hF2 rfl
                      have p4 := cell_at (i := 4) hF2 rfl
                      have e5 := cell_at (i := 5) hF3 rfl
                      have e6 := cell_at (i := 6) hF3 rfl
                      have e7 := cell_at (i := 7) hF3 rfl
                      have e8 := cell_at (i := 8) hF3 rfl
                      clear hF1 hF2 hF3 H4
                      clear KA hb9
                      dsimp only
                      have heq2 := heq w9
                      clear heq
                      iterate 42 (first | go_values | go_guarded | go_step)
                      refine wp_neq_agg rfl rfl rfl (by kernel_rfl) heq2 ?_
                      go_wp2
                      go_ret
                      exact bel_bool HV.out HB9.out
                    | true =>
                      have hne : (bs pa').toList.isEmpty = false := by rw [List.isEmpty_eq_false_iff]; exact fun e => hG ⟨rfl, bs_empty.1 e⟩
                      have hG3 : pa' ≠ [] := fun e => hG ⟨rfl, e⟩
                      have HV := hide (show b = false from by rw [HB.out]; simp [hJ, hG3])
                      have KA := hide (fun W' => ahead_any pa' W')
                      simp only [hlow, Bool.not_true, Bool.not_false] at KA
                      clear HB
                      go_enter Tryz.func32, Tryz.ntmps32
                      go_wp2_with fail
                      refine (KA.out _).mono ?_
                      rintro e9 w9 ⟨rfl, hb9⟩
                      have H4 := hide (H3.out.below (star_ok cell_ok (star_ok cell_ok (star_ok cell_ok emp_ok))) hb9)
                      have HB9 := hide (H4.out.mod.below (fun _ _ h => h))
                      clear H3
                      obtain ⟨F1, hF1⟩ := H4.out.fst
                      obtain ⟨F2, hF2⟩ := H4.out.drop.fst
                      obtain ⟨F3, hF3⟩ := H4.out.drop.drop.fst
                      have s0 := cell_at (i := 0) hF1 rfl
                      have s1 := cell_at (i := 1) hF1 rfl
                      have s2 := cell_at (i := 2) hF1 rfl
                      have s3 := cell_at (i := 3) hF1 rfl
                      have p2 := cell_at (i := 2) hF2 rfl
                      have p3 := cell_at (i := 3) hF2 rfl
                      have p4 := cell_at (i := 4) hF2 rfl
                      have e5 := cell_at (i := 5) hF3 rfl
                      have e6 := cell_at (i := 6) hF3 rfl
                      have e7 := cell_at (i := 7) hF3 rfl
                      have e8 := cell_at (i := 8) hF3 rfl
                      clear hF1 hF2 hF3 H4
                      clear KA hb9
                      dsimp only
                      have heq2 := heq w9
                      clear heq
                      iterate 50 (first | go_values | go_guarded | go_step)
                      refine wp_neq_agg rfl rfl rfl (by kernel_rfl) heq2 ?_
                      go_wp2
                      go_ret
                      exact bel_bool HV.out HB9.out
                  case pos =>
                    by_cases hK : ph ≤ min bound 100000
                    case neg =>
                      cases pr with
                      | false =>
                        have HV := hide (show b = false from by rw [HB.out]; simp [hK])
                        have KA := hide (fun W' => ahead_any pa' W')
                        simp only [hlow, Bool.not_true, Bool.not_false] at KA
                        clear HB
                        go_enter Tryz.func32, Tryz.ntmps32
                        go_wp2_with fail
                        refine (KA.out _).mono ?_
                        rintro e9 w9 ⟨rfl, hb9⟩
                        have H4 := hide (H3.out.below (star_ok cell_ok (star_ok cell_ok (star_ok cell_ok emp_ok))) hb9)
                        have HB9 := hide (H4.out.mod.below (fun _ _ h => h))
                        clear H3
                        obtain ⟨F1, hF1⟩ := H4.out.fst
                        obtain ⟨F2, hF2⟩ := H4.out.drop.fst
                        obtain ⟨F3, hF3⟩ := H4.out.drop.drop.fst
                        have s0 := cell_at (i := 0) hF1 rfl
                        have s1 := cell_at (i := 1) hF1 rfl
                        have s2 := cell_at (i := 2) hF1 rfl
                        have s3 := cell_at (i := 3) hF1 rfl
                        have p2 := cell_at (i := 2) hF2 rfl
                        have p3 := cell_at (i := 3) hF2 rfl
                        have p4 := cell_at (i := 4) hF2 rfl
                        have e5 := cell_at (i := 5) hF3 rfl
                        have e6 := cell_at (i := 6) hF3 rfl
                        have e7 := cell_at (i := 7) hF3 rfl
                        have e8 := cell_at (i := 8) hF3 rfl
                        clear hF1 hF2 hF3 H4
                        clear KA hb9
                        dsimp only
                        have heq2 := heq w9
                        clear heq
                        iterate 42 (first | go_values | go_guarded | go_step)
                        refine wp_neq_agg rfl rfl rfl (by kernel_rfl) heq2 ?_
                        go_wp2
                        go_ret
                        exact bel_bool (HV.out.trans (decide_eq_false (by omega)).symm) HB9.out
                      | true =>
                        have hne : (bs pa').toList.isEmpty = false := by rw [List.isEmpty_eq_false_iff]; exact fun e => hG ⟨rfl, bs_empty.1 e⟩
                        have hG3 : pa' ≠ [] := fun e => hG ⟨rfl, e⟩
                        have HV := hide (show b = false from by rw [HB.out]; simp [hK, hG3])
                        have KA := hide (fun W' => ahead_any pa' W')
                        simp only [hlow, Bool.not_true, Bool.not_false] at KA
                        clear HB
                        go_enter Tryz.func32, Tryz.ntmps32
                        go_wp2_with fail
                        refine (KA.out _).mono ?_
                        rintro e9 w9 ⟨rfl, hb9⟩
                        have H4 := hide (H3.out.below (star_ok cell_ok (star_ok cell_ok (star_ok cell_ok emp_ok))) hb9)
                        have HB9 := hide (H4.out.mod.below (fun _ _ h => h))
                        clear H3
                        obtain ⟨F1, hF1⟩ := H4.out.fst
                        obtain ⟨F2, hF2⟩ := H4.out.drop.fst
                        obtain ⟨F3, hF3⟩ := H4.out.drop.drop.fst
                        have s0 := cell_at (i := 0) hF1 rfl
                        have s1 := cell_at (i := 1) hF1 rfl
                        have s2 := cell_at (i := 2) hF1 rfl
                        have s3 := cell_at (i := 3) hF1 rfl
                        have p2 := cell_at (i := 2) hF2 rfl
                        have p3 := cell_at (i := 3) hF2 rfl
                        have p4 := cell_at (i := 4) hF2 rfl
                        have e5 := cell_at (i := 5) hF3 rfl
                        have e6 := cell_at (i := 6) hF3 rfl
                        have e7 := cell_at (i := 7) hF3 rfl
                        have e8 := cell_at (i := 8) hF3 rfl
                        clear hF1 hF2 hF3 H4
                        clear KA hb9
                        dsimp only
                        have heq2 := heq w9
                        clear heq
                        iterate 50 (first | go_values | go_guarded | go_step)
                        refine wp_neq_agg rfl rfl rfl (by kernel_rfl) heq2 ?_
                        go_wp2
                        go_ret
                        exact bel_bool (HV.out.trans (decide_eq_false (by omega)).symm) HB9.out
                    case pos =>
                      have hst : (decide (Pt.st ⟨ni, nj, pa', pr, ph⟩ ≠ W.fin)) = true := decide_eq_true hI2
                      cases pr with
                      | false =>
                        have HV := hide (show b = true from by rw [HB.out]; simp [hA, hB, hC, hD, hE, hlow, hJ, hK, hst])
                        have KA := hide (fun W' => ahead_any pa' W')
                        simp only [hlow, Bool.not_true, Bool.not_false] at KA
                        clear HB
                        go_enter Tryz.func32, Tryz.ntmps32
                        go_wp2_with fail
                        refine (KA.out _).mono ?_
                        rintro e9 w9 ⟨rfl, hb9⟩
                        have H4 := hide (H3.out.below (star_ok cell_ok (star_ok cell_ok (star_ok cell_ok emp_ok))) hb9)
                        have HB9 := hide (H4.out.mod.below (fun _ _ h => h))
                        clear H3
                        obtain ⟨F1, hF1⟩ := H4.out.fst
                        obtain ⟨F2, hF2⟩ := H4.out.drop.fst
                        obtain ⟨F3, hF3⟩ := H4.out.drop.drop.fst
                        have s0 := cell_at (i := 0) hF1 rfl
                        have s1 := cell_at (i := 1) hF1 rfl
                        have s2 := cell_at (i := 2) hF1 rfl
                        have s3 := cell_at (i := 3) hF1 rfl
                        have p2 := cell_at (i := 2) hF2 rfl
                        have p3 := cell_at (i := 3) hF2 rfl
                        have p4 := cell_at (i := 4) hF2 rfl
                        have e5 := cell_at (i := 5) hF3 rfl
                        have e6 := cell_at (i := 6) hF3 rfl
                        have e7 := cell_at (i := 7) hF3 rfl
                        have e8 := cell_at (i := 8) hF3 rfl
                        clear hF1 hF2 hF3 H4
                        clear KA hb9
                        dsimp only
                        have heq2 := heq w9
                        clear heq
                        iterate 42 (first | go_values | go_guarded | go_step)
                        refine wp_neq_agg rfl rfl rfl (by kernel_rfl) heq2 ?_
                        go_wp2
                        go_ret
                        exact bel_bool HV.out HB9.out
                      | true =>
                        have hne : (bs pa').toList.isEmpty = false := by rw [List.isEmpty_eq_false_iff]; exact fun e => hG ⟨rfl, bs_empty.1 e⟩
                        have hG3 : pa' ≠ [] := fun e => hG ⟨rfl, e⟩
                        have HV := hide (show b = true from by rw [HB.out]; simp [hA, hB, hC, hD, hE, hlow, hJ, hK, hst, hG3])
                        have KA := hide (fun W' => ahead_any pa' W')
                        simp only [hlow, Bool.not_true, Bool.not_false] at KA
                        clear HB
                        go_enter Tryz.func32, Tryz.ntmps32
                        go_wp2_with fail
                        refine (KA.out _).mono ?_
                        rintro e9 w9 ⟨rfl, hb9⟩
                        have H4 := hide (H3.out.below (star_ok cell_ok (star_ok cell_ok (star_ok cell_ok emp_ok))) hb9)
                        have HB9 := hide (H4.out.mod.below (fun _ _ h => h))
                        clear H3
                        obtain ⟨F1, hF1⟩ := H4.out.fst
                        obtain ⟨F2, hF2⟩ := H4.out.drop.fst
                        obtain ⟨F3, hF3⟩ := H4.out.drop.drop.fst
                        have s0 := cell_at (i := 0) hF1 rfl
                        have s1 := cell_at (i := 1) hF1 rfl
                        have s2 := cell_at (i := 2) hF1 rfl
                        have s3 := cell_at (i := 3) hF1 rfl
                        have p2 := cell_at (i := 2) hF2 rfl
                        have p3 := cell_at (i := 3) hF2 rfl
                        have p4 := cell_at (i := 4) hF2 rfl
                        have e5 := cell_at (i := 5) hF3 rfl
                        have e6 := cell_at (i := 6) hF3 rfl
                        have e7 := cell_at (i := 7) hF3 rfl
                        have e8 := cell_at (i := 8) hF3 rfl
                        clear hF1 hF2 hF3 H4
                        clear KA hb9
                        dsimp only
                        have heq2 := heq w9
                        clear heq
                        iterate 50 (first | go_values | go_guarded | go_step)
                        refine wp_neq_agg rfl rfl rfl (by kernel_rfl) heq2 ?_
                        go_wp2
                        go_ret
                        exact bel_bool HV.out HB9.out
end Go.Proofs.YtnppgomhhcbplaaGreatDoor
