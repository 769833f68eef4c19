/-
  Licence: set, and what it defers.
  Licence: a book's memory and the plain model; Revoke, Return, Release, Left.
  Licence: Return, Release, Use.
  Licence: Left.
-/
import Derived.Test.YtapabbpdfplpoaaV5
import Derived.Defers
set_option linter.unusedSimpArgs false
set_option linter.unusedVariables false
namespace Go.Proofs.Ytapabbpdfplpoaa
open Go.RowKit Go.CH Go.CH.Lic
open Go.ChangeMaps (setBlock)

set_option maxRecDepth 100000 in
set_option maxHeartbeats 1600000 in
theorem setD_any {u : FrameMode} {w : World} {x3 x4 tp gp : Nat} {st un su was : Int} (hn : st ≠ 2)
    (k3 : w.cell? ⟨x3, 0, none⟩ = some (gptr tp)) (k4 : w.cell? ⟨x4, 0, none⟩ = some (.int .i64 st)) (t0 : w.cell? ⟨tp, 0, none⟩ = some (gptr gp)) (t2 : w.cell? ⟨tp, 2, none⟩ = some (.int .i64 un))
    (g7 : w.cell? ⟨gp, 7, none⟩ = some (.int .i64 su)) (f7 : w.frozen? ⟨gp, 7, none⟩ = false) (hx4 : x4 ≠ gp)
    (h1 : IntKind.i64.wrap (un - was) = un - was) (h2 : IntKind.i64.wrap (su + (un - was)) = su + (un - was)) :
    CallsD Try.prog 103 #[.int .i64 was, .pointer (some ⟨x3, 0, none⟩), .pointer (some ⟨x4, 0, none⟩)] u w (fun e u' w' => u' = u ∧ e = .returned (.tuple #[]) ∧ w' = (w.setCell ⟨gp, 7, none⟩ (.int .i64 (su + (un - was)))).drew) := by
  have H1 := hide h1
  have H2 := hide h2
  have hst : (st == 2) = false := by simpa using hn
  clear h1 h2
  unfold gptr at *
  go_enter_d Try.func103, Try.ntmps103
  go_wp2_with fail
  refine wp_region_ley (fun w' => w'.cell? ⟨x3, 0, none⟩ = some (.pointer (some ⟨tp, 0, none⟩)) ∧ w'.cell? ⟨tp, 0, none⟩ = some (.pointer (some ⟨gp, 0, none⟩)) ∧ w'.cell? ⟨tp, 2, none⟩ = some (.int .i64 un) ∧ w'.cell? ⟨gp, 7, none⟩ = some (.int .i64 su)) (by kernel_rfl) (by kernel_rfl) (by kernel_rfl) ⟨k3, t0, t2, g7⟩ ?_
  (repeat (first | (refine ley_skip (by rfl) ?_; try simp only [Act.put, List.setIfInBounds_toArray, List.set_cons_zero, List.set_cons_succ]) | (refine ley_read (v := ?_) (by rfl) ?_ ?_; rotate_left; (focus (intro w' hS'; go_simp; (try with_reducible rfl); done)); try simp only [Act.put, List.setIfInBounds_toArray, List.set_cons_zero, List.set_cons_succ])))
  rw [H1.out]
  (repeat (first | (refine ley_skip (by rfl) ?_; try simp only [Act.put, List.setIfInBounds_toArray, List.set_cons_zero, List.set_cons_succ]) | (refine ley_read (v := ?_) (by rfl) ?_ ?_; rotate_left; (focus (intro w' hS'; go_simp; (try with_reducible rfl); done)); try simp only [Act.put, List.setIfInBounds_toArray, List.set_cons_zero, List.set_cons_succ])))
  rw [H2.out]
  (repeat (first | (refine ley_skip (by rfl) ?_; try simp only [Act.put, List.setIfInBounds_toArray, List.set_cons_zero, List.set_cons_succ]) | (refine ley_read (v := ?_) (by rfl) ?_ ?_; rotate_left; (focus (intro w' hS'; go_simp; (try with_reducible rfl); done)); try simp only [Act.put, List.setIfInBounds_toArray, List.set_cons_zero, List.set_cons_succ])))
  refine ley_last rfl (by rfl) (fun K hK => ?_)
  go_wp2_with fail
  refine hK.out _ _ ?_
  clear hK
  have k4' : (w.setCell ⟨gp, 7, none⟩ (.int .i64 (su + (un - was)))).cell? ⟨x4, 0, none⟩ = some (.int .i64 st) := (World.cell?_of_block (Below.heap_setCell _ _ _ _ hx4)).trans k4
  go_wp2
  go_end0
  exact ⟨rfl, rfl⟩
set_option maxRecDepth 100000 in
set_option maxHeartbeats 1600000 in
theorem setD_rel {u : FrameMode} {w : World} {x3 x4 tp gp : Nat} {un su sn was : Int}
    (k3 : w.cell? ⟨x3, 0, none⟩ = some (gptr tp)) (k4 : w.cell? ⟨x4, 0, none⟩ = some (.int .i64 2)) (t0 : w.cell? ⟨tp, 0, none⟩ = some (gptr gp)) (t2 : w.cell? ⟨tp, 2, none⟩ = some (.int .i64 un))
    (g7 : w.cell? ⟨gp, 7, none⟩ = some (.int .i64 su)) (f7 : w.frozen? ⟨gp, 7, none⟩ = false) (g8 : w.cell? ⟨gp, 8, none⟩ = some (.int .i64 sn)) (f8 : w.frozen? ⟨gp, 8, none⟩ = false) (hx4 : x4 ≠ gp) (hx3 : x3 ≠ gp) (htp : tp ≠ gp) (h3 : -9223372036854775808 ≤ sn - 1) (h4 : sn - 1 ≤ 9223372036854775807)
    (h1 : IntKind.i64.wrap (un - was) = un - was) (h2 : IntKind.i64.wrap (su + (un - was)) = su + (un - was)) :
    CallsD Try.prog 103 #[.int .i64 was, .pointer (some ⟨x3, 0, none⟩), .pointer (some ⟨x4, 0, none⟩)] u w (fun e u' w' => u' = u ∧ e = .returned (.tuple #[]) ∧ w' = ((w.setCell ⟨gp, 7, none⟩ (.int .i64 (su + (un - was)))).setCell ⟨gp, 8, none⟩ (.int .i64 (sn - 1))).drew) := by
  have H1 := hide h1
  have H2 := hide h2
  clear h1 h2
  unfold gptr at *
  go_enter_d Try.func103, Try.ntmps103
  go_wp2_with fail
  refine wp_region_ley (fun w' => w'.cell? ⟨x3, 0, none⟩ = some (.pointer (some ⟨tp, 0, none⟩)) ∧ w'.cell? ⟨tp, 0, none⟩ = some (.pointer (some ⟨gp, 0, none⟩)) ∧ w'.cell? ⟨tp, 2, none⟩ = some (.int .i64 un) ∧ w'.cell? ⟨gp, 7, none⟩ = some (.int .i64 su)) (by kernel_rfl) (by kernel_rfl) (by kernel_rfl) ⟨k3, t0, t2, g7⟩ ?_
  (repeat (first | (refine ley_skip (by rfl) ?_; try simp only [Act.put, List.setIfInBounds_toArray, List.set_cons_zero, List.set_cons_succ]) | (refine ley_read (v := ?_) (by rfl) ?_ ?_; rotate_left; (focus (intro w' hS'; go_simp; (try with_reducible rfl); done)); try simp only [Act.put, List.setIfInBounds_toArray, List.set_cons_zero, List.set_cons_succ])))
  rw [H1.out]
  (repeat (first | (refine ley_skip (by rfl) ?_; try simp only [Act.put, List.setIfInBounds_toArray, List.set_cons_zero, List.set_cons_succ]) | (refine ley_read (v := ?_) (by rfl) ?_ ?_; rotate_left; (focus (intro w' hS'; go_simp; (try with_reducible rfl); done)); try simp only [Act.put, List.setIfInBounds_toArray, List.set_cons_zero, List.set_cons_succ])))
  rw [H2.out]
  (repeat (first | (refine ley_skip (by rfl) ?_; try simp only [Act.put, List.setIfInBounds_toArray, List.set_cons_zero, List.set_cons_succ]) | (refine ley_read (v := ?_) (by rfl) ?_ ?_; rotate_left; (focus (intro w' hS'; go_simp; (try with_reducible rfl); done)); try simp only [Act.put, List.setIfInBounds_toArray, List.set_cons_zero, List.set_cons_succ])))
  refine ley_last rfl (by rfl) (fun K hK => ?_)
  go_wp2_with fail
  refine hK.out _ _ ?_
  clear hK
  have k4' : (w.setCell ⟨gp, 7, none⟩ (.int .i64 (su + (un - was)))).cell? ⟨x4, 0, none⟩ = some (.int .i64 2) := (World.cell?_of_block (Below.heap_setCell _ _ _ _ hx4)).trans k4
  have k3' : (w.setCell ⟨gp, 7, none⟩ (.int .i64 (su + (un - was)))).cell? ⟨x3, 0, none⟩ = some (.pointer (some ⟨tp, 0, none⟩)) := (World.cell?_of_block (Below.heap_setCell _ _ _ _ hx3)).trans k3
  have t0' : (w.setCell ⟨gp, 7, none⟩ (.int .i64 (su + (un - was)))).cell? ⟨tp, 0, none⟩ = some (.pointer (some ⟨gp, 0, none⟩)) := (World.cell?_of_block (Below.heap_setCell _ _ _ _ htp)).trans t0
  go_wp2
  go_end0
  exact ⟨rfl, rfl⟩
def SetRet (w : World) (F : Nat → Prop) (p : Nat) (s : BkP) (e : Ending) (w' : World) : Prop := e = .returned (.tuple #[]) ∧ Post w F (BkS p s) w'
theorem ptr_ne {w : World} {p : Nat} {s : BkP} (h : BkR w p s) {z : ZG} (hz : z ∈ s.zs) {t : ZT} (ht : t ∈ s.ts) : t.p ≠ z.p := by
  intro e
  have h1 := h.tr t ht 1 _ rfl
  have h2 := h.gr z hz 1 _ rfl
  rw [e, h2] at h1
  cases h1
theorem cell_set2 {w : World} {F : Nat → Prop} {g : Nat} {cs : Array Value} {t : TypeId} (h : CellO g cs t w F) (i j : Nat) (v u : Value) : Post w F (CellO g ((cs.setIfInBounds i v).setIfInBounds j u) t) ((w.setCell ⟨g, i, none⟩ v).setCell ⟨g, j, none⟩ u) := by
  obtain ⟨F0, h0, bk⟩ := (Run.start h).all cell_ok
  obtain ⟨F1, h1, bk1⟩ := (bk _ _ (cell_set h0 i v)).all cell_ok
  exact (bk1 _ _ (cell_set h1 j u)).post cell_ok
theorem box2 (w : World) {N : Nat} (h : w.heap.size = N) (a b : Value) (t u : TypeId) : (((w.alloc (.cells #[a] t)).alloc (.cells #[b] u)).drew.cell? ⟨N, 0, none⟩ = some a) ∧ (((w.alloc (.cells #[a] t)).alloc (.cells #[b] u)).drew.cell? ⟨N + 1, 0, none⟩ = some b) := by
  subst h
  have R1 := (Run.begin w).fresh emp_ok (cell_new w #[a] t)
  have R2 := R1.fresh (star_ok cell_ok emp_ok) (cell_new _ #[b] u)
  rw [show (w.alloc (.cells #[a] t)).heap.size = w.heap.size + 1 by simp] at R2
  have R3 := R2.drew (star_ok cell_ok (star_ok cell_ok emp_ok))
  obtain ⟨F1, h1⟩ := R3.fst
  obtain ⟨F2, h2⟩ := R3.rot.fst
  exact ⟨cell_at h2 rfl, cell_at h1 rfl⟩
def setT (s : BkP) (j : Nat) (hj : j < s.ts.length) (k : KeyM) : BkP := { s with ts := s.ts.set j { s.ts[j] with k := k } }
def setG (s : BkP) (i : Nat) (hi : i < s.zs.length) (g : GrM) : BkP := { s with zs := s.zs.set i { s.zs[i] with g := g } }
section
variable {w : World} {F : Nat → Prop} {p : Nat} {s : BkP}
/-- The state of set behind its two stores. -/
theorem set_mid (h : BkS p s w F) {j : Nat} (hj : j < s.ts.length) (st un : Int) (k' : KeyM) (hnm : k'.nm = s.ts[j].k.nm) (hst : k'.st = st) (hun : unC k' = un) :
    Run F w (star (BkS p (setT s j hj k')) (star (CellO (w.heap.size + 1) #[.int .i64 st] 143) (CellO w.heap.size #[gptr s.ts[j].p] 141)))
      (((((w.setCell ⟨s.ts[j].p, 1, none⟩ (.int .i64 st)).setCell ⟨s.ts[j].p, 2, none⟩ (.int .i64 un)).alloc (.cells #[gptr s.ts[j].p] 141)).alloc (.cells #[.int .i64 st] 143)).drew) := by
  obtain ⟨G, hC, bk⟩ := bk_updT (Run.start h) hj k' hnm
  have h5 := cell_set2 hC 1 2 (.int .i64 st) (.int .i64 un)
  have h6 : ((tcell s.ts[j]).setIfInBounds 1 (.int .i64 st)).setIfInBounds 2 (.int .i64 un) = tcell { s.ts[j] with k := k' } := by
    unfold tcell; rw [← hst, ← hun]; rfl
  rw [h6] at h5
  have R0 := bk _ h5
  have R1 := R0.fresh bkS_ok (cell_new _ #[gptr s.ts[j].p] 141)
  have R2 := R1.fresh (star_ok cell_ok bkS_ok) (cell_new _ #[.int .i64 st] 143)
  rw [show (((w.setCell ⟨s.ts[j].p, 1, none⟩ (.int .i64 st)).setCell ⟨s.ts[j].p, 2, none⟩ (.int .i64 un)).alloc (.cells #[gptr s.ts[j].p] 141)).heap.size = w.heap.size + 1 by simp, show ((w.setCell ⟨s.ts[j].p, 1, none⟩ (.int .i64 st)).setCell ⟨s.ts[j].p, 2, none⟩ (.int .i64 un)).heap.size = w.heap.size by simp] at R2
  exact (R2.drew (star_ok cell_ok (star_ok cell_ok bkS_ok))).perm (by unfold setT; ac_rfl)
end
set_option maxRecDepth 100000 in
set_option maxHeartbeats 1600000 in
theorem set_keep {w : World} {F : Nat → Prop} {p : Nat} {s : BkP} (h : BkS p s w F) {j i : Nat} (hj : j < s.ts.length) (hi : i < s.zs.length) (hg : s.ts[j].g = s.zs[i].p) (st un : Int) (hst : st ≠ 2)
    (h1 : IntKind.i64.wrap (un - unC s.ts[j].k) = un - unC s.ts[j].k) (h2 : IntKind.i64.wrap (s.zs[i].g.su + (un - unC s.ts[j].k)) = s.zs[i].g.su + (un - unC s.ts[j].k)) :
    Calls Try.prog 81 #[gptr s.ts[j].p, .int .i64 st, .int .i64 un] w (SetRet w F p (setG (setT s j hj { s.ts[j].k with st := st, un := un }) i hi { s.zs[i].g with su := s.zs[i].g.su + (un - unC s.ts[j].k) })) := by
  have H1 := hide h1
  have H2 := hide h2
  have hmf : ∀ (fn : Fn) (first cap : Array Value) (w : World), (Instr.makeFunc fn first cap).run Try.prog w = .ok (.func fn first cap) w := fun _ _ _ _ => rfl
  have B0 := bk_read (Run.start h)
  have zmem : s.zs[i] ∈ s.zs := List.getElem_mem hi
  have tmem : s.ts[j] ∈ s.ts := List.getElem_mem hj
  have t0 : w.cell? ⟨s.ts[j].p, 0, none⟩ = some (gptr s.zs[i].p) := by rw [← hg]; exact B0.tr _ tmem 0 _ rfl
  have t1 : w.cell? ⟨s.ts[j].p, 1, none⟩ = some (.int .i64 s.ts[j].k.st) := B0.tr _ tmem 1 _ rfl
  have t2 : w.cell? ⟨s.ts[j].p, 2, none⟩ = some (.int .i64 (unC s.ts[j].k)) := B0.tr _ tmem 2 _ rfl
  have tf1 := B0.tf _ tmem 1
  have tf2 := B0.tf _ tmem 2
  have hne := ptr_ne (z := s.zs[i]) B0 zmem tmem
  have hlt : s.ts[j].p < w.heap.size := World.block_lt_of_cell? _ _ t0
  have hlg : s.zs[i].p < w.heap.size := World.block_lt_of_cell? _ _ (B0.gr _ zmem 0 _ rfl)
  have RM := hide (set_mid h hj st un { s.ts[j].k with st := st, un := un } rfl rfl (if_neg hst))
  obtain ⟨FM, hM⟩ := RM.out.fst
  have BM := hM.read
  have m0 := BM.tr _ (show ({ s.ts[j] with k := { s.ts[j].k with st := st, un := un } } : ZT) ∈ (setT s j hj { s.ts[j].k with st := st, un := un }).ts from List.mem_iff_getElem.2 ⟨j, by simpa [setT] using hj, by simp [setT]⟩) 0 (gptr s.zs[i].p) (by rw [← hg]; rfl)
  have m2 := BM.tr _ (show ({ s.ts[j] with k := { s.ts[j].k with st := st, un := un } } : ZT) ∈ (setT s j hj { s.ts[j].k with st := st, un := un }).ts from List.mem_iff_getElem.2 ⟨j, by simpa [setT] using hj, by simp [setT]⟩) 2 (.int .i64 un) (by simp [tcell, unC, hst])
  have m7 := BM.gr s.zs[i] (show s.zs[i] ∈ s.zs from zmem) 7 (.int .i64 s.zs[i].g.su) rfl
  have mf7 := BM.gf s.zs[i] (show s.zs[i] ∈ s.zs from zmem) 7
  obtain ⟨FX, hX⟩ := (RM.out.perm (by ac_rfl : _ = star (CellO (w.heap.size + 1) #[.int .i64 st] 143) (star (BkS p (setT s j hj { s.ts[j].k with st := st, un := un })) (CellO w.heap.size #[gptr s.ts[j].p] 141)))).fst
  have x4 := cell_at hX (i := 0) rfl
  obtain ⟨FY, hY⟩ := (RM.out.perm (by ac_rfl : _ = star (CellO w.heap.size #[gptr s.ts[j].p] 141) (star (BkS p (setT s j hj { s.ts[j].k with st := st, un := un })) (CellO (w.heap.size + 1) #[.int .i64 st] 143)))).fst
  have x3 := cell_at hY (i := 0) rfl
  have HFIN : Hid (Post w F (BkS p (setG (setT s j hj { s.ts[j].k with st := st, un := un }) i hi { s.zs[i].g with su := s.zs[i].g.su + (un - unC s.ts[j].k) }))
      (((((((w.setCell ⟨s.ts[j].p, 1, none⟩ (.int .i64 st)).setCell ⟨s.ts[j].p, 2, none⟩ (.int .i64 un)).alloc (.cells #[gptr s.ts[j].p] 141)).alloc (.cells #[.int .i64 st] 143)).drew).setCell ⟨s.zs[i].p, 7, none⟩ (.int .i64 (s.zs[i].g.su + (un - unC s.ts[j].k)))).drew)) := by
    obtain ⟨F', RS, back⟩ := RM.out.sub bkS_ok (star_ok cell_ok cell_ok)
    have h7 := bk_setG RS (i := i) hi 7 (.int .i64 (s.zs[i].g.su + (un - unC s.ts[j].k))) { s.zs[i].g with su := s.zs[i].g.su + (un - unC s.ts[j].k) } rfl rfl rfl rfl
    have h8 := ((back _ _ bkS_ok h7).swap.drop.drew bkS_ok).post bkS_ok
    exact h8
  have KD := hide (fun u => setD_any (u := u) (x4 := w.heap.size + 1) (was := unC s.ts[j].k) hst x3 x4 m0 m2 m7 mf7 (by omega) h1 h2)
  clear h h1 h2 B0 BM hM RM m0 m2 m7 mf7 hX hY x3 x4 zmem tmem
  rw [hg] at *
  generalize s.ts[j].p = tp at *
  generalize s.zs[i].p = gp at *
  generalize unC s.ts[j].k = was at *
  generalize s.zs[i].g.su = su at *
  unfold gptr at *
  go_enter_defers Try.func81, Try.ntmps81
  go_wp2_with fail
  refine wp_region_lex (fun w' => w'.cell? ⟨w.heap.size, 0, none⟩ = some (.pointer (some ⟨tp, 0, none⟩)) ∧ w'.cell? ⟨w.heap.size + 1, 0, none⟩ = some (.int .i64 st)) (by kernel_rfl) (by kernel_rfl) ?_ ?_
  · exact box2 w rfl _ _ _ _
  (repeat (first | (refine lex_skip (by rfl) ?_; try simp only [Act.put, List.setIfInBounds_toArray, List.set_cons_zero, List.set_cons_succ]) | (refine lex_read (v := ?_) (by rfl) ?_ ?_; rotate_left; (focus (intro w' hS'; go_simp; (try with_reducible rfl); done)); try simp only [Act.put, List.setIfInBounds_toArray, List.set_cons_zero, List.set_cons_succ])))
  refine lex_chain rfl (by rfl) (fun K hK => ?_)
  go_wp2_with fail
  refine hK.out _ _ ?_ ?_
  · exact box2 _ (by simp) _ _ _ _
  clear hK
  (repeat (first | (refine lex_skip (by rfl) ?_; try simp only [Act.put, List.setIfInBounds_toArray, List.set_cons_zero, List.set_cons_succ]) | (refine lex_read (v := ?_) (by rfl) ?_ ?_; rotate_left; (focus (intro w' hS'; go_simp; (try with_reducible rfl); done)); try simp only [Act.put, List.setIfInBounds_toArray, List.set_cons_zero, List.set_cons_succ])))
  refine lex_chain rfl (by rfl) (fun K hK => ?_)
  go_wp2_with fail
  refine hK.out _ _ ?_ ?_
  · exact box2 _ (by simp) _ _ _ _
  clear hK
  refine lex_nil ?_
  go_wp2_with fail
  refine leaves_cons (f := 103) (args := #[.int .i64 was, .pointer (some ⟨w.heap.size, 0, none⟩), .pointer (some ⟨w.heap.size + 1, 0, none⟩)]) (by simp) (by simp [go_sem]) ?_
  refine (KD.out _).mono ?_
  rintro e u' w'' ⟨rfl, rfl, rfl⟩
  exact ⟨_, results_none rfl _ _ _, rfl, HFIN.out⟩
set_option maxRecDepth 100000 in
set_option maxHeartbeats 1600000 in
theorem set_rel {w : World} {F : Nat → Prop} {p : Nat} {s : BkP} (h : BkS p s w F) {j i : Nat} (hj : j < s.ts.length) (hi : i < s.zs.length) (hg : s.ts[j].g = s.zs[i].p) (h3 : -9223372036854775808 ≤ s.zs[i].g.sn - 1) (h4 : s.zs[i].g.sn - 1 ≤ 9223372036854775807)
    (h1 : IntKind.i64.wrap (0 - unC s.ts[j].k) = 0 - unC s.ts[j].k) (h2 : IntKind.i64.wrap (s.zs[i].g.su + (0 - unC s.ts[j].k)) = s.zs[i].g.su + (0 - unC s.ts[j].k)) :
    Calls Try.prog 81 #[gptr s.ts[j].p, .int .i64 2, .int .i64 0] w (SetRet w F p (setG (setT s j hj { s.ts[j].k with st := 2 }) i hi { s.zs[i].g with su := s.zs[i].g.su + (0 - unC s.ts[j].k), sn := s.zs[i].g.sn - 1 })) := by
  have H1 := hide h1
  have H2 := hide h2
  have hmf : ∀ (fn : Fn) (first cap : Array Value) (w : World), (Instr.makeFunc fn first cap).run Try.prog w = .ok (.func fn first cap) w := fun _ _ _ _ => rfl
  have B0 := bk_read (Run.start h)
  have zmem : s.zs[i] ∈ s.zs := List.getElem_mem hi
  have tmem : s.ts[j] ∈ s.ts := List.getElem_mem hj
  have t0 : w.cell? ⟨s.ts[j].p, 0, none⟩ = some (gptr s.zs[i].p) := by rw [← hg]; exact B0.tr _ tmem 0 _ rfl
  have t1 : w.cell? ⟨s.ts[j].p, 1, none⟩ = some (.int .i64 s.ts[j].k.st) := B0.tr _ tmem 1 _ rfl
  have t2 : w.cell? ⟨s.ts[j].p, 2, none⟩ = some (.int .i64 (unC s.ts[j].k)) := B0.tr _ tmem 2 _ rfl
  have tf1 := B0.tf _ tmem 1
  have tf2 := B0.tf _ tmem 2
  have hne := ptr_ne (z := s.zs[i]) B0 zmem tmem
  have hlt : s.ts[j].p < w.heap.size := World.block_lt_of_cell? _ _ t0
  have hlg : s.zs[i].p < w.heap.size := World.block_lt_of_cell? _ _ (B0.gr _ zmem 0 _ rfl)
  have RM := hide (set_mid h hj 2 0 { s.ts[j].k with st := 2 } rfl rfl (if_pos rfl))
  obtain ⟨FM, hM⟩ := RM.out.fst
  have BM := hM.read
  have m0 := BM.tr _ (show ({ s.ts[j] with k := { s.ts[j].k with st := 2 } } : ZT) ∈ (setT s j hj { s.ts[j].k with st := 2 }).ts from List.mem_iff_getElem.2 ⟨j, by simpa [setT] using hj, by simp [setT]⟩) 0 (gptr s.zs[i].p) (by rw [← hg]; rfl)
  have m2 := BM.tr _ (show ({ s.ts[j] with k := { s.ts[j].k with st := 2 } } : ZT) ∈ (setT s j hj { s.ts[j].k with st := 2 }).ts from List.mem_iff_getElem.2 ⟨j, by simpa [setT] using hj, by simp [setT]⟩) 2 (.int .i64 0) (by simp [tcell, unC])
  have m7 := BM.gr s.zs[i] (show s.zs[i] ∈ s.zs from zmem) 7 (.int .i64 s.zs[i].g.su) rfl
  have mf7 := BM.gf s.zs[i] (show s.zs[i] ∈ s.zs from zmem) 7
  have m8 := BM.gr s.zs[i] (show s.zs[i] ∈ s.zs from zmem) 8 (.int .i64 s.zs[i].g.sn) rfl
  have mf8 := BM.gf s.zs[i] (show s.zs[i] ∈ s.zs from zmem) 8
  obtain ⟨FX, hX⟩ := (RM.out.perm (by ac_rfl : _ = star (CellO (w.heap.size + 1) #[.int .i64 2] 143) (star (BkS p (setT s j hj { s.ts[j].k with st := 2 })) (CellO w.heap.size #[gptr s.ts[j].p] 141)))).fst
  have x4 := cell_at hX (i := 0) rfl
  obtain ⟨FY, hY⟩ := (RM.out.perm (by ac_rfl : _ = star (CellO w.heap.size #[gptr s.ts[j].p] 141) (star (BkS p (setT s j hj { s.ts[j].k with st := 2 })) (CellO (w.heap.size + 1) #[.int .i64 2] 143)))).fst
  have x3 := cell_at hY (i := 0) rfl
  have HFIN : Hid (Post w F (BkS p (setG (setT s j hj { s.ts[j].k with st := 2 }) i hi { s.zs[i].g with su := s.zs[i].g.su + (0 - unC s.ts[j].k), sn := s.zs[i].g.sn - 1 }))
      ((((((((w.setCell ⟨s.ts[j].p, 1, none⟩ (.int .i64 2)).setCell ⟨s.ts[j].p, 2, none⟩ (.int .i64 0)).alloc (.cells #[gptr s.ts[j].p] 141)).alloc (.cells #[.int .i64 2] 143)).drew).setCell ⟨s.zs[i].p, 7, none⟩ (.int .i64 (s.zs[i].g.su + (0 - unC s.ts[j].k)))).setCell ⟨s.zs[i].p, 8, none⟩ (.int .i64 (s.zs[i].g.sn - 1))).drew)) := by
    obtain ⟨F', RS, back⟩ := RM.out.sub bkS_ok (star_ok cell_ok cell_ok)
    obtain ⟨G, hC, bk⟩ := bk_updG RS (i := i) hi { s.zs[i].g with su := s.zs[i].g.su + (0 - unC s.ts[j].k), sn := s.zs[i].g.sn - 1 } rfl rfl rfl
    have h7 := bk _ (cell_set2 hC 7 8 (.int .i64 (s.zs[i].g.su + (0 - unC s.ts[j].k))) (.int .i64 (s.zs[i].g.sn - 1)))
    have h8 := ((back _ _ bkS_ok h7).swap.drop.drew bkS_ok).post bkS_ok
    exact h8
  have KD := hide (fun u => setD_rel (u := u) (x4 := w.heap.size + 1) (was := unC s.ts[j].k) x3 x4 m0 m2 m7 mf7 m8 mf8 (by omega) (by omega) hne h3 h4 h1 h2)
  clear h h1 h2 h3 h4 B0 BM hM RM m0 m2 m7 mf7 m8 mf8 hX hY x3 x4 zmem tmem
  rw [hg] at *
  generalize s.ts[j].p = tp at *
  generalize s.zs[i].p = gp at *
  generalize unC s.ts[j].k = was at *
  generalize s.zs[i].g.su = su at *
  generalize s.zs[i].g.sn = sn at *
  unfold gptr at *
  go_enter_defers Try.func81, Try.ntmps81
  go_wp2_with fail
  refine wp_region_lex (fun w' => w'.cell? ⟨w.heap.size, 0, none⟩ = some (.pointer (some ⟨tp, 0, none⟩)) ∧ w'.cell? ⟨w.heap.size + 1, 0, none⟩ = some (.int .i64 2)) (by kernel_rfl) (by kernel_rfl) ?_ ?_
  · exact box2 w rfl _ _ _ _
  (repeat (first | (refine lex_skip (by rfl) ?_; try simp only [Act.put, List.setIfInBounds_toArray, List.set_cons_zero, List.set_cons_succ]) | (refine lex_read (v := ?_) (by rfl) ?_ ?_; rotate_left; (focus (intro w' hS'; go_simp; (try with_reducible rfl); done)); try simp only [Act.put, List.setIfInBounds_toArray, List.set_cons_zero, List.set_cons_succ])))
  refine lex_chain rfl (by rfl) (fun K hK => ?_)
  go_wp2_with fail
  refine hK.out _ _ ?_ ?_
  · exact box2 _ (by simp) _ _ _ _
  clear hK
  (repeat (first | (refine lex_skip (by rfl) ?_; try simp only [Act.put, List.setIfInBounds_toArray, List.set_cons_zero, List.set_cons_succ]) | (refine lex_read (v := ?_) (by rfl) ?_ ?_; rotate_left; (focus (intro w' hS'; go_simp; (try with_reducible rfl); done)); try simp only [Act.put, List.setIfInBounds_toArray, List.set_cons_zero, List.set_cons_succ])))
  refine lex_chain rfl (by rfl) (fun K hK => ?_)
  go_wp2_with fail
  refine hK.out _ _ ?_ ?_
  · exact box2 _ (by simp) _ _ _ _
  clear hK
  refine lex_nil ?_
  go_wp2_with fail
  refine leaves_cons (f := 103) (args := #[.int .i64 was, .pointer (some ⟨w.heap.size, 0, none⟩), .pointer (some ⟨w.heap.size + 1, 0, none⟩)]) (by simp) (by simp [go_sem]) ?_
  refine (KD.out _).mono ?_
  rintro e u' w'' ⟨rfl, rfl, rfl⟩
  exact ⟨_, results_none rfl _ _ _, rfl, HFIN.out⟩
end Go.Proofs.Ytapabbpdfplpoaa
namespace Go.Proofs.Ytapabbpdfplpoaa
open Go.RowKit Go.CH Go.CH.Lic
open Go.ChangeMaps (setBlock)

theorem find_of_idx {α : Type} {p : α → Bool} {l : List α} {i : Nat} (h : l.findIdx? p = some i) : ∃ hi : i < l.length, l.find? p = some l[i] := by
  obtain ⟨hi, h1, h2⟩ := idx_some h
  exact ⟨hi, List.find?_eq_some_iff_getElem.2 ⟨h1, i, hi, rfl, fun j hj => by simp [h2 j hj]⟩⟩
theorem find_of_none {α : Type} {p : α → Bool} {l : List α} (h : l.findIdx? p = none) : l.find? p = none := by
  rw [List.find?_eq_none]
  intro x hx
  have := List.findIdx?_eq_none_iff.1 h x hx
  simpa using this
section
variable {b : BkM} {s : BkP}
theorem zs_len (hz : BkZ b s) : s.zs.length = b.gs.length := by rw [← hz.1]; simp
theorem ts_len (hz : BkZ b s) : s.ts.length = b.ks.length := by rw [← hz.2.1]; simp
theorem zs_gat (hz : BkZ b s) {i : Nat} (hi : i < s.zs.length) : s.zs[i].g = gat b i := by
  have : b.gs[i]? = some s.zs[i].g := by rw [← hz.1]; simp [hi]
  simp [gat, List.getD_eq_getElem?_getD, this]
theorem ts_kat (hz : BkZ b s) {j : Nat} (hj : j < s.ts.length) : s.ts[j].k = kat b j := by
  have : b.ks[j]? = some s.ts[j].k := by rw [← hz.2.1]; simp [hj]
  simp [kat, List.getD_eq_getElem?_getD, this]
theorem ts_grant (hz : BkZ b s) {j : Nat} (hj : j < s.ts.length) : ∃ hi : (kat b j).gi < s.zs.length, s.ts[j].g = s.zs[(kat b j).gi].p := by
  obtain ⟨y, h1, h2⟩ := hz.2.2 _ (List.getElem_mem hj)
  rw [ts_kat hz hj] at h1
  obtain ⟨hi, he⟩ := List.getElem?_eq_some_iff.1 h1
  exact ⟨hi, by rw [← h2, ← he]⟩
theorem bk_find (hz : BkZ b s) {id : ByteArray} {i : Nat} (h : findG b id = some i) : ∃ hi : i < s.zs.length, findZ s.zs id = gptr s.zs[i].p ∧ s.zs[i].g = gat b i := by
  have h1 : s.zs.findIdx? (fun z => decide (z.g.l.id = id)) = some i := by
    unfold findG at h
    rw [← hz.1, List.findIdx?_map] at h
    exact h
  obtain ⟨hi, h2⟩ := find_of_idx h1
  exact ⟨hi, by unfold findZ; rw [h2]; rfl, zs_gat hz hi⟩
theorem bk_find0 (hz : BkZ b s) {id : ByteArray} (h : findG b id = none) : findZ s.zs id = .pointer none := by
  have h1 : s.zs.findIdx? (fun z => decide (z.g.l.id = id)) = none := by
    unfold findG at h
    rw [← hz.1, List.findIdx?_map] at h
    exact h
  unfold findZ; rw [find_of_none h1]; rfl
theorem bk_key (hz : BkZ b s) {nm : ByteArray} {j : Nat} (h : findK b nm = some j) : ∃ hj : j < s.ts.length, findT s.ts nm = gptr s.ts[j].p ∧ s.ts[j].k = kat b j := by
  have h1 : s.ts.findIdx? (fun z => decide (z.k.nm = nm)) = some j := by
    unfold findK at h
    rw [← hz.2.1, List.findIdx?_map] at h
    exact h
  obtain ⟨hj, h2⟩ := find_of_idx h1
  exact ⟨hj, by unfold findT; rw [h2]; rfl, ts_kat hz hj⟩
theorem bk_key0 (hz : BkZ b s) {nm : ByteArray} (h : findK b nm = none) : findT s.ts nm = .pointer none := by
  have h1 : s.ts.findIdx? (fun z => decide (z.k.nm = nm)) = none := by
    unfold findK at h
    rw [← hz.2.1, List.findIdx?_map] at h
    exact h
  unfold findT; rw [find_of_none h1]; rfl
theorem bkZ_setG (hz : BkZ b s) {i : Nat} (hi : i < s.zs.length) (g : GrM) : BkZ (putG b i g) (setG s i hi g) := by
  refine ⟨?_, hz.2.1, fun z h => ?_⟩
  · unfold setG putG; simp only [List.map_set, hz.1]
  · obtain ⟨y, h1, h2⟩ := hz.2.2 z h
    unfold setG
    simp only [List.getElem?_set]
    split
    · rename_i e
      subst e
      rw [List.getElem?_eq_getElem hi] at h1
      cases h1
      exact ⟨{ s.zs[z.k.gi] with g := g }, by simp [hi], h2⟩
    · exact ⟨y, h1, h2⟩
theorem bkZ_setT (hz : BkZ b s) {j : Nat} (hj : j < s.ts.length) (k : KeyM) (hk : k.gi = s.ts[j].k.gi) : BkZ (putK b j k) (setT s j hj k) := by
  refine ⟨hz.1, ?_, fun z h => ?_⟩
  · unfold setT putK; simp only [List.map_set, hz.2.1]
  · unfold setT at h
    rcases List.mem_or_eq_of_mem_set h with h | rfl
    · exact hz.2.2 z h
    · obtain ⟨y, h1, h2⟩ := hz.2.2 _ (List.getElem_mem hj)
      exact ⟨y, by rw [← h1]; simp [hk, setT], h2⟩
end
/-- The answer v, and the book b' in place of what was there. -/
def BPost (w : World) (F : Nat → Prop) (v : Value) (b' : BkM) (p : Nat) (e : Ending) (w' : World) : Prop := e = .returned v ∧ Post w F (BkO b' p) w'
theorem BPost.quiet {w : World} {F : Nat → Prop} {b : BkM} {p : Nat} (h : BkO b p w F) (v : Value) : BPost w F v b p (.returned v) w := ⟨rfl, F, h, Mod.refl _ _, fun i hi => .inl hi⟩
theorem BPost.mk' {w w' : World} {F : Nat → Prop} {b : BkM} {p : Nat} {s : BkP} {v : Value} (hz : BkZ b s) (hp : Post w F (BkS p s) w') : BPost w F v b p (.returned v) w' := by
  obtain ⟨F', h1, h2, h3⟩ := hp
  exact ⟨rfl, F', ⟨s, hz, h1⟩, h2, h3⟩
def wErr (v : Int) : Value := .int .i64 v
theorem BPost.below {w w' : World} {F : Nat → Prop} {b : BkM} {p : Nat} (h : BkO b p w F) (v : Value) (hb : Below w.heap.size w w') : BPost w F v b p (.returned v) w' :=
  ⟨rfl, ((Run.start h).below bkO_ok hb).post bkO_ok⟩
set_option maxHeartbeats 1600000 in
theorem revoke_any {w : World} {F : Nat → Prop} {b : BkM} {p : Nat} (h : BkO b p w F) (id : ByteArray) (a : Int) :
    Calls Try.prog 54 #[gptr p, .string id, .int .i64 a] w (BPost w F (.int .i64 (revokeR b id a).1) (revokeR b id a).2 p) := by
  have H := hide h
  obtain ⟨s, hz, hS⟩ := h
  have hR := hS.read
  have KF := hide (find_any hR id)
  have KI := hide (within_any a 144001439 w)
  cases hf : findG b id with
  | none =>
    rw [bk_find0 hz hf] at KF
    have e : revokeR b id a = (11, b) := by unfold revokeR; rw [hf]
    rw [e]
    clear hz hS hR hf e
    go_enter Try.func54, Try.ntmps54
    go_wp2_with fail
    refine KF.out.mono ?_
    rintro e w' ⟨rfl, rfl⟩
    go_wp2
    go_ret
    exact BPost.quiet H.out _
  | some i =>
    obtain ⟨hi, h1, h2⟩ := bk_find hz hf
    rw [h1] at KF
    have zmem : s.zs[i] ∈ s.zs := List.getElem_mem hi
    have c9 : w.cell? ⟨s.zs[i].p, 9, none⟩ = some (.int .i64 (gat b i).e) := by rw [← h2]; exact hR.gr _ zmem 9 _ rfl
    have f9 := hR.gf _ zmem 9
    cases hw : inst a with
    | false =>
      have e : revokeR b id a = (1, b) := by unfold revokeR; rw [hf]; simp [hw]
      rw [e]
      rw [show within a 144001439 = false from hw] at KI
      clear hz hS hR hf e h1 h2 zmem hw
      unfold gptr at KF
      go_enter Try.func54, Try.ntmps54
      go_wp2_with fail
      refine KF.out.mono ?_
      rintro e w' ⟨rfl, rfl⟩
      go_wp2_with fail
      refine KI.out.mono ?_
      rintro e w' ⟨rfl, rfl⟩
      go_wp2
      go_ret
      exact BPost.quiet H.out _
    | true =>
      rw [show within a 144001439 = true from hw] at KI
      by_cases he : 0 ≤ (gat b i).e
      · have e : revokeR b id a = (12, b) := by unfold revokeR; rw [hf]; simp [hw, he]
        rw [e]
        clear hz hS hR hf e h1 h2 zmem hw
        generalize (gat b i).e = ge at *
        unfold gptr at KF
        go_enter Try.func54, Try.ntmps54
        go_wp2_with fail
        refine KF.out.mono ?_
        rintro e w' ⟨rfl, rfl⟩
        go_wp2_with fail
        refine KI.out.mono ?_
        rintro e w' ⟨rfl, rfl⟩
        go_wp2
        go_ret
        exact BPost.quiet H.out _
      · have e : revokeR b id a = (0, putG b i { gat b i with e := a }) := by unfold revokeR; rw [hf]; simp [hw, he]
        rw [e]
        have HZ := hide (bkZ_setG hz hi { gat b i with e := a })
        have HP := hide ((bk_setG (Run.start hS) hi 9 (.int .i64 a) { gat b i with e := a } (by rw [h2]) (by rw [h2]) (by rw [h2]) (by rw [← h2]; rfl)).post bkS_ok)
        clear hz hS hR hf e h1 h2 zmem hw
        generalize hge : (gat b i).e = ge at c9 he
        clear hge
        unfold gptr at KF
        go_enter Try.func54, Try.ntmps54
        go_wp2_with fail
        refine KF.out.mono ?_
        rintro e w' ⟨rfl, rfl⟩
        go_wp2_with fail
        refine KI.out.mono ?_
        rintro e w' ⟨rfl, rfl⟩
        go_wp2
        go_ret
        exact BPost.mk' HZ.out HP.out
end Go.Proofs.Ytapabbpdfplpoaa
namespace Go.Proofs.Ytapabbpdfplpoaa
open Go.RowKit Go.CH Go.CH.Lic
open Go.ChangeMaps (setBlock)

theorem unC_num {b : BkM} (hI : Inv b) {j : Nat} (hj : j < b.ks.length) : 0 ≤ unC (kat b j) ∧ unC (kat b j) ≤ 1000000000 := by
  have := hI.k _ (kat_mem hj)
  unfold unC; split <;> omega
theorem su_num {b : BkM} (hI : Inv b) {i : Nat} (hi : i < b.gs.length) : 0 ≤ (gat b i).su ∧ (gat b i).su ≤ 1000000000 ∧ 0 ≤ (gat b i).sn ∧ (gat b i).sn ≤ 1000 := by
  have := hI.g _ (gat_mem hi)
  have h2 := valid_num this.1
  omega
section
variable {w : World} {F : Nat → Prop} {p : Nat} {b : BkM} {s : BkP}
theorem setM_any (h : BkS p s w F) (hz : BkZ b s) (hI : Inv b) {j : Nat} (hj : j < s.ts.length) (st un : Int) (hst : st ≠ 2) (h0 : 0 ≤ un) (h1 : un ≤ 1000000000) :
    Calls Try.prog 81 #[gptr s.ts[j].p, .int .i64 st, .int .i64 un] w (BPost w F (.tuple #[]) (setM b j st un) p) := by
  obtain ⟨hi, hg⟩ := ts_grant hz hj
  have hj' : j < b.ks.length := by rw [← ts_len hz]; exact hj
  have hi' : (kat b j).gi < b.gs.length := by rw [← zs_len hz]; exact hi
  have n1 := unC_num hI hj'
  have n2 := su_num hI hi'
  have ek := ts_kat hz hj
  have eg := zs_gat hz hi
  have K := set_keep h hj hi hg st un hst (by rw [ek]; exact IntWalk.i64_in _ (by omega)) (by rw [ek, eg]; exact IntWalk.i64_in _ (by omega))
  rw [ek, eg] at K
  refine K.mono ?_
  rintro e w' ⟨rfl, hp⟩
  have hz2 := bkZ_setG (bkZ_setT hz hj { kat b j with st := st, un := un } (by rw [ek])) (i := (kat b j).gi) hi { gat b (kat b j).gi with su := (gat b (kat b j).gi).su + (un - unC (kat b j)) }
  exact BPost.mk' hz2 hp
theorem relM_any (h : BkS p s w F) (hz : BkZ b s) (hI : Inv b) {j : Nat} (hj : j < s.ts.length) :
    Calls Try.prog 81 #[gptr s.ts[j].p, .int .i64 2, .int .i64 0] w (BPost w F (.tuple #[]) (relM b j) p) := by
  obtain ⟨hi, hg⟩ := ts_grant hz hj
  have hj' : j < b.ks.length := by rw [← ts_len hz]; exact hj
  have hi' : (kat b j).gi < b.gs.length := by rw [← zs_len hz]; exact hi
  have n1 := unC_num hI hj'
  have n2 := su_num hI hi'
  have ek := ts_kat hz hj
  have eg := zs_gat hz hi
  have K := set_rel h hj hi hg (by rw [eg]; omega) (by rw [eg]; omega) (by rw [ek]; exact IntWalk.i64_in _ (by omega)) (by rw [ek, eg]; exact IntWalk.i64_in _ (by omega))
  rw [ek, eg] at K
  refine K.mono ?_
  rintro e w' ⟨rfl, hp⟩
  have hz2 := bkZ_setG (bkZ_setT hz hj { kat b j with st := 2 } (by rw [ek])) (i := (kat b j).gi) hi { gat b (kat b j).gi with su := (gat b (kat b j).gi).su + (0 - unC (kat b j)), sn := (gat b (kat b j).gi).sn - 1 }
  exact BPost.mk' hz2 hp
end

set_option maxHeartbeats 1600000 in
theorem return_any {w : World} {F : Nat → Prop} {b : BkM} {p : Nat} (h : BkO b p w F) (hI : Inv b) (nm : ByteArray) (un : Int) :
    Calls Try.prog 42 #[gptr p, .string nm, .int .i64 un] w (BPost w F (.int .i64 (returnR b nm un).1) (returnR b nm un).2 p) := by
  have H := hide h
  obtain ⟨s, hz, hS⟩ := h
  have hR := hS.read
  have KF := hide (key_any hR nm)
  cases hf : findK b nm with
  | none =>
    rw [bk_key0 hz hf] at KF
    have e : returnR b nm un = (11, b) := by unfold returnR; rw [hf]
    rw [e]
    clear hz hS hR hI hf e 
    unfold gptr at *
    go_enter Try.func42, Try.ntmps42
    go_wp2_with fail
    refine KF.out.mono ?_
    rintro e w' ⟨rfl, rfl⟩
    go_wp2
    go_ret
    exact BPost.quiet H.out _
  | some j =>
    obtain ⟨hj, h1, h2⟩ := bk_key hz hf
    obtain ⟨hi, hg⟩ := ts_grant hz hj
    rw [h1] at KF
    have tmem : s.ts[j] ∈ s.ts := List.getElem_mem hj
    have zmem := List.getElem_mem hi
    have hj2 : j < b.ks.length := (findK_some hf).1
    have hk := hI.k _ (kat_mem hj2)
    have c0 : w.cell? ⟨s.ts[j].p, 0, none⟩ = some (gptr s.zs[(kat b j).gi].p) := by rw [← hg]; exact hR.tr _ tmem 0 _ rfl
    have c1 : w.cell? ⟨s.ts[j].p, 1, none⟩ = some (.int .i64 (kat b j).st) := by rw [← h2]; exact hR.tr _ tmem 1 _ rfl
    have c2 : w.cell? ⟨s.ts[j].p, 2, none⟩ = some (.int .i64 (unC (kat b j))) := by rw [← h2]; exact hR.tr _ tmem 2 _ rfl
    by_cases hu : un < 1
    · have e : returnR b nm un = (1, b) := by unfold returnR; rw [hf]; simp [hu]
      rw [e]
      clear hz hS hR hI hf e h1 h2 tmem zmem hk hj2 hg
      clear c0 c1 c2
      generalize s.ts[j].p = tp at *
      generalize s.zs[(kat b j).gi].p = gp at *
      unfold gptr at *
      go_enter Try.func42, Try.ntmps42
      go_wp2_with fail
      refine KF.out.mono ?_
      rintro e w' ⟨rfl, rfl⟩
      go_wp2
      go_ret
      exact BPost.quiet H.out _
    · by_cases hs : (kat b j).st = 1
      · rw [hs] at c1
        have hun : unC (kat b j) = (kat b j).un := if_neg (by omega)
        rw [hun] at c2
        by_cases hm : (kat b j).un < un
        · have e : returnR b nm un = (19, b) := by unfold returnR; rw [hf]; simp [hu, hs, hm]
          rw [e]
          clear hz hS hR hI hf e h1 h2 tmem zmem hk hj2 hg hs hun
          generalize (kat b j).un = ku at *
          generalize s.ts[j].p = tp at *
          generalize s.zs[(kat b j).gi].p = gp at *
          unfold gptr at *
          go_enter Try.func42, Try.ntmps42
          go_wp2_with fail
          refine KF.out.mono ?_
          rintro e w' ⟨rfl, rfl⟩
          go_wp2
          go_ret
          exact BPost.quiet H.out _
        · have e : returnR b nm un = (0, setM b j 1 ((kat b j).un - un)) := by unfold returnR; rw [hf]; simp [hu, hs, hm]
          rw [e]
          have KS := hide (setM_any hS hz hI hj 1 ((kat b j).un - un) (by decide) (by omega) (by omega))
          have n1 := hk.2.1
          have n2 := hk.2.2.1
          clear hz hS hR hI hf e h1 h2 tmem zmem hk hj2 hg hs hun
          generalize (kat b j).un = ku at *
          generalize s.ts[j].p = tp at *
          generalize s.zs[(kat b j).gi].p = gp at *
          unfold gptr at *
          go_enter Try.func42, Try.ntmps42
          go_wp2_with fail
          refine KF.out.mono ?_
          rintro e w' ⟨rfl, rfl⟩
          go_wp2_with fail
          refine KS.out.mono ?_
          rintro e w' ⟨rfl, hp⟩
          go_wp2
          go_ret
          exact ⟨rfl, hp⟩
      · have e : returnR b nm un = (12, b) := by unfold returnR; rw [hf]; simp [hu, hs]
        rw [e]
        have b1 : ((kat b j).st == 1) = false := by simpa using hs
        have b2 : ((kat b j).st != 1) = true := by simpa using hs
        clear hz hS hR hI hf e h1 h2 tmem zmem hk hj2 hg hs
        generalize (kat b j).st = ks at *
        clear c2
        generalize s.ts[j].p = tp at *
        generalize s.zs[(kat b j).gi].p = gp at *
        unfold gptr at *
        go_enter Try.func42, Try.ntmps42
        go_wp2_with fail
        refine KF.out.mono ?_
        rintro e w' ⟨rfl, rfl⟩
        go_wp2
        go_ret
        exact BPost.quiet H.out _
set_option maxHeartbeats 1600000 in
theorem release_any {w : World} {F : Nat → Prop} {b : BkM} {p : Nat} (h : BkO b p w F) (hI : Inv b) (nm : ByteArray) :
    Calls Try.prog 57 #[gptr p, .string nm] w (BPost w F (.int .i64 (releaseR b nm).1) (releaseR b nm).2 p) := by
  have H := hide h
  obtain ⟨s, hz, hS⟩ := h
  have hR := hS.read
  have KF := hide (key_any hR nm)
  cases hf : findK b nm with
  | none =>
    rw [bk_key0 hz hf] at KF
    have e : releaseR b nm = (11, b) := by unfold releaseR; rw [hf]
    rw [e]
    clear hz hS hR hI hf e 
    unfold gptr at *
    go_enter Try.func57, Try.ntmps57
    go_wp2_with fail
    refine KF.out.mono ?_
    rintro e w' ⟨rfl, rfl⟩
    go_wp2
    go_ret
    exact BPost.quiet H.out _
  | some j =>
    obtain ⟨hj, h1, h2⟩ := bk_key hz hf
    obtain ⟨hi, hg⟩ := ts_grant hz hj
    rw [h1] at KF
    have tmem : s.ts[j] ∈ s.ts := List.getElem_mem hj
    have zmem := List.getElem_mem hi
    have hj2 : j < b.ks.length := (findK_some hf).1
    have hk := hI.k _ (kat_mem hj2)
    have c0 : w.cell? ⟨s.ts[j].p, 0, none⟩ = some (gptr s.zs[(kat b j).gi].p) := by rw [← hg]; exact hR.tr _ tmem 0 _ rfl
    have c1 : w.cell? ⟨s.ts[j].p, 1, none⟩ = some (.int .i64 (kat b j).st) := by rw [← h2]; exact hR.tr _ tmem 1 _ rfl
    have c2 : w.cell? ⟨s.ts[j].p, 2, none⟩ = some (.int .i64 (unC (kat b j))) := by rw [← h2]; exact hR.tr _ tmem 2 _ rfl
    by_cases hs : (kat b j).st = 0
    · rw [hs] at c1
      have e : releaseR b nm = (0, relM b j) := by unfold releaseR; rw [hf]; simp [hs]
      rw [e]
      have KS := hide (relM_any hS hz hI hj)
      clear hz hS hR hI hf e h1 h2 tmem zmem hk hj2 hg hs c2
      generalize s.ts[j].p = tp at *
      generalize s.zs[(kat b j).gi].p = gp at *
      unfold gptr at *
      go_enter Try.func57, Try.ntmps57
      go_wp2_with fail
      refine KF.out.mono ?_
      rintro e w' ⟨rfl, rfl⟩
      go_wp2_with fail
      refine KS.out.mono ?_
      rintro e w' ⟨rfl, hp⟩
      go_wp2
      go_ret
      exact ⟨rfl, hp⟩
    · have e : releaseR b nm = (12, b) := by unfold releaseR; rw [hf]; simp [hs]
      rw [e]
      have b1 : ((kat b j).st == 0) = false := by simpa using hs
      have b2 : ((kat b j).st != 0) = true := by simpa using hs
      clear hz hS hR hI hf e h1 h2 tmem zmem hk hj2 hg hs c2
      generalize (kat b j).st = ks at *
      generalize s.ts[j].p = tp at *
      generalize s.zs[(kat b j).gi].p = gp at *
      unfold gptr at *
      go_enter Try.func57, Try.ntmps57
      go_wp2_with fail
      refine KF.out.mono ?_
      rintro e w' ⟨rfl, rfl⟩
      go_wp2
      go_ret
      exact BPost.quiet H.out _
set_option maxHeartbeats 1600000 in
theorem use_any {w : World} {F : Nat → Prop} {b : BkM} {p : Nat} (h : BkO b p w F) (hI : Inv b) (nm : ByteArray) (un a : Int) :
    Calls Try.prog 41 #[gptr p, .string nm, .int .i64 un, .int .i64 a] w (BPost w F (.int .i64 (useR b nm un a).1) (useR b nm un a).2 p) := by
  have H := hide h
  obtain ⟨s, hz, hS⟩ := h
  have hR := hS.read
  have KF := hide (key_any hR nm)
  have KI := hide (within_any a 144001439 w)
  cases hf : findK b nm with
  | none =>
    rw [bk_key0 hz hf] at KF
    have e : useR b nm un a = (11, b) := by unfold useR; rw [hf]
    rw [e]
    clear hz hS hR hI hf e 
    unfold gptr at *
    go_enter Try.func41, Try.ntmps41
    go_wp2_with fail
    refine KF.out.mono ?_
    rintro e w' ⟨rfl, rfl⟩
    go_wp2
    go_ret
    exact BPost.quiet H.out _
  | some j =>
    obtain ⟨hj, h1, h2⟩ := bk_key hz hf
    obtain ⟨hi, hg⟩ := ts_grant hz hj
    rw [h1] at KF
    have tmem : s.ts[j] ∈ s.ts := List.getElem_mem hj
    have zmem := List.getElem_mem hi
    have hj2 : j < b.ks.length := (findK_some hf).1
    have hk := hI.k _ (kat_mem hj2)
    have c0 : w.cell? ⟨s.ts[j].p, 0, none⟩ = some (gptr s.zs[(kat b j).gi].p) := by rw [← hg]; exact hR.tr _ tmem 0 _ rfl
    have c1 : w.cell? ⟨s.ts[j].p, 1, none⟩ = some (.int .i64 (kat b j).st) := by rw [← h2]; exact hR.tr _ tmem 1 _ rfl
    have c2 : w.cell? ⟨s.ts[j].p, 2, none⟩ = some (.int .i64 (unC (kat b j))) := by rw [← h2]; exact hR.tr _ tmem 2 _ rfl
    by_cases hu : un < 0
    · have e : useR b nm un a = (1, b) := by unfold useR; rw [hf]; simp [hu]
      rw [e]
      clear hz hS hR hI hf e h1 h2 tmem zmem hk hj2 hg
      clear c0 c1 c2
      generalize s.ts[j].p = tp at *
      generalize s.zs[(kat b j).gi].p = gp at *
      unfold gptr at *
      go_enter Try.func41, Try.ntmps41
      go_wp2_with fail
      refine KF.out.mono ?_
      rintro e w' ⟨rfl, rfl⟩
      go_wp2
      go_ret
      exact BPost.quiet H.out _
    · cases hw : inst a with
      | false =>
        rw [show within a 144001439 = false from hw] at KI
        have e : useR b nm un a = (1, b) := by unfold useR; rw [hf]; simp [hu, hw]
        rw [e]
        clear hz hS hR hI hf e h1 h2 tmem zmem hk hj2 hg hw
        clear c0 c1 c2
        generalize s.ts[j].p = tp at *
        generalize s.zs[(kat b j).gi].p = gp at *
        unfold gptr at *
        go_enter Try.func41, Try.ntmps41
        go_wp2_with fail
        refine KF.out.mono ?_
        rintro e w' ⟨rfl, rfl⟩
        go_wp2_with fail
        refine KI.out.mono ?_
        rintro e w' ⟨rfl, rfl⟩
        go_wp2
        go_ret
        exact BPost.quiet H.out _
      | true =>
        rw [show within a 144001439 = true from hw] at KI
        by_cases hs : (kat b j).st = 0
        · rw [hs] at c1
          have hun : unC (kat b j) = (kat b j).un := if_neg (by omega)
          rw [hun] at c2
          have eg := zs_gat hz hi
          have g5 : w.cell? ⟨s.zs[(kat b j).gi].p, 5, none⟩ = some (.int .i64 (gat b (kat b j).gi).l.f) := by rw [← eg]; exact hR.gr _ zmem 5 _ rfl
          have g6 : w.cell? ⟨s.zs[(kat b j).gi].p, 6, none⟩ = some (.int .i64 (gat b (kat b j).gi).l.t) := by rw [← eg]; exact hR.gr _ zmem 6 _ rfl
          have g9 : w.cell? ⟨s.zs[(kat b j).gi].p, 9, none⟩ = some (.int .i64 (gat b (kat b j).gi).e) := by rw [← eg]; exact hR.gr _ zmem 9 _ rfl
          have KR := hide (runs_any a g5 g6 g9)
          have hv : runsB (gat b (kat b j).gi).l.f (gat b (kat b j).gi).l.t (gat b (kat b j).gi).e a = runsG (gat b (kat b j).gi) a := rfl
          rw [hv] at KR
          cases hr : runsG (gat b (kat b j).gi) a with
          | false =>
            rw [hr] at KR
            have e : useR b nm un a = (22, relM b j) := by unfold useR; rw [hf]; simp [hu, hw, hs, hr]
            rw [e]
            have KS := hide (relM_any hS hz hI hj)
            clear hz hS hR hI hf e h1 h2 tmem zmem hk hj2 hg hs hw hun eg g5 g6 g9 hr hv c2
            generalize s.ts[j].p = tp at *
            generalize s.zs[(kat b j).gi].p = gp at *
            unfold gptr at *
            go_enter Try.func41, Try.ntmps41
            go_wp2_with fail
            refine KF.out.mono ?_
            rintro e w' ⟨rfl, rfl⟩
            go_wp2_with fail
            refine KI.out.mono ?_
            rintro e w' ⟨rfl, rfl⟩
            go_wp2_with fail
            refine KR.out.mono ?_
            rintro e w' ⟨rfl, rfl⟩
            go_wp2_with fail
            refine KS.out.mono ?_
            rintro e w' ⟨rfl, hp⟩
            go_wp2
            go_ret
            exact ⟨rfl, hp⟩
          | true =>
            rw [hr] at KR
            by_cases hm : (kat b j).un < un
            · have e : useR b nm un a = (19, b) := by unfold useR; rw [hf]; simp [hu, hw, hs, hr, hm]
              rw [e]
              clear hz hS hR hI hf e h1 h2 tmem zmem hk hj2 hg hs hw hun eg g5 g6 g9 hr hv
              generalize (kat b j).un = ku at *
              generalize s.ts[j].p = tp at *
              generalize s.zs[(kat b j).gi].p = gp at *
              unfold gptr at *
              go_enter Try.func41, Try.ntmps41
              go_wp2_with fail
              refine KF.out.mono ?_
              rintro e w' ⟨rfl, rfl⟩
              go_wp2_with fail
              refine KI.out.mono ?_
              rintro e w' ⟨rfl, rfl⟩
              go_wp2_with fail
              refine KR.out.mono ?_
              rintro e w' ⟨rfl, rfl⟩
              go_wp2
              go_ret
              exact BPost.quiet H.out _
            · have e : useR b nm un a = (0, setM b j 1 un) := by unfold useR; rw [hf]; simp [hu, hw, hs, hr, hm]
              rw [e]
              have KS := hide (setM_any hS hz hI hj 1 un (by decide) (by omega) (by omega))
              clear hz hS hR hI hf e h1 h2 tmem zmem hk hj2 hg hs hw hun eg g5 g6 g9 hr hv
              generalize (kat b j).un = ku at *
              generalize s.ts[j].p = tp at *
              generalize s.zs[(kat b j).gi].p = gp at *
              unfold gptr at *
              go_enter Try.func41, Try.ntmps41
              go_wp2_with fail
              refine KF.out.mono ?_
              rintro e w' ⟨rfl, rfl⟩
              go_wp2_with fail
              refine KI.out.mono ?_
              rintro e w' ⟨rfl, rfl⟩
              go_wp2_with fail
              refine KR.out.mono ?_
              rintro e w' ⟨rfl, rfl⟩
              go_wp2_with fail
              refine KS.out.mono ?_
              rintro e w' ⟨rfl, hp⟩
              go_wp2
              go_ret
              exact ⟨rfl, hp⟩
        · have e : useR b nm un a = (12, b) := by unfold useR; rw [hf]; simp [hu, hw, hs]
          rw [e]
          have b1 : ((kat b j).st == 0) = false := by simpa using hs
          have b2 : ((kat b j).st != 0) = true := by simpa using hs
          clear hz hS hR hI hf e h1 h2 tmem zmem hk hj2 hg hs hw
          generalize (kat b j).st = ks at *
          clear c2
          generalize s.ts[j].p = tp at *
          generalize s.zs[(kat b j).gi].p = gp at *
          unfold gptr at *
          go_enter Try.func41, Try.ntmps41
          go_wp2_with fail
          refine KF.out.mono ?_
          rintro e w' ⟨rfl, rfl⟩
          go_wp2_with fail
          refine KI.out.mono ?_
          rintro e w' ⟨rfl, rfl⟩
          go_wp2
          go_ret
          exact BPost.quiet H.out _
end Go.Proofs.Ytapabbpdfplpoaa
namespace Go.Proofs.Ytapabbpdfplpoaa
open Go.RowKit Go.CH Go.CH.Lic
open Go.ChangeMaps (setBlock)

theorem res_cell_tmp {fn : Func} {p u : Tmp} {ty : TypeId} (h : fn.results = #[.cell p ty, .tmp u]) {P : Program} (tmps : Array Value) (w : World) (g : Nat) (t : TypeId) (cs : Array Value) (fr : Nat × Nat) {d : Array Field}
    (hp : tmps.getD p undef = .pointer (some ⟨g, 0, none⟩)) (hg : w.heap[g]? = some (.cells cs t fr))
    (hu : P.underlying ty = some (.struct d)) (hi : (P.info? ty).map (·.size) = some cs.size) :
    (results fn tmps).run P w = .ok (.tuple #[.agg cs, tmps.getD u undef]) w := by
  rw [results_cell_tmp h, hp]
  simp [asAddr, run_loadVar_row w g t ty cs fr (.struct d) hg hu rfl hi]
def leftV (r : Int × Int × Int) : Value := .tuple #[.agg #[.int .i64 r.1, .int .i64 r.2.1], .int .i64 r.2.2]
def lbox (a b : Int) : Obj := .cells #[.int .i64 a, .int .i64 b] 66
theorem lbox_below (w : World) (a b : Int) : Below w.heap.size w (w.alloc (lbox a b)) := (Below.refl _ _).alloc (Nat.le_refl _) _
set_option maxHeartbeats 1600000 in
theorem bookleft_any {w : World} {F : Nat → Prop} {b : BkM} {p : Nat} (h : BkO b p w F) (hI : Inv b) (id : ByteArray) (a : Int) :
    Calls Try.prog 43 #[gptr p, .string id, .int .i64 a] w (BelowRet w (leftV (leftR b id a))) := by
  obtain ⟨s, hz, hS⟩ := h
  have hR := bk_read ((Run.start hS).below bkS_ok (lbox_below w 0 0))
  have hlt : p < w.heap.size := World.block_lt_of_cell? _ _ hS.read.c0
  have KF := hide (find_any hR id)
  have KI := hide (within_any a 144001439 (w.alloc (lbox 0 0)))
  unfold lbox at *

  cases hf : findG b id with
  | none =>
    rw [bk_find0 hz hf] at KF
    have e : leftR b id a = (0, 0, 11) := by unfold leftR; rw [hf]
    rw [e]
    clear hz hS hR hI hf e 
    unfold gptr at *
    go_enter Try.func43, Try.ntmps43
    go_wp2_with fail
    refine KF.out.mono ?_
    rintro e w' ⟨rfl, rfl⟩
    go_wp2_with fail
    refine bodyPost_ret_by (res_cell_tmp rfl _ _ w.heap.size 66 #[.int .i64 0, .int .i64 0] (0, 0) rfl ?_ Try.underlying66 (by kernel_rfl)) rfl ?_
    · exact heap_alloc_new w _
    · exact ⟨rfl, (Below.refl _ _).alloc (Nat.le_refl _) _⟩
  | some i =>
    obtain ⟨hi, h1, h2⟩ := bk_find hz hf
    rw [h1] at KF
    have zmem : s.zs[i] ∈ s.zs := List.getElem_mem hi
    have hi2 : i < b.gs.length := (findG_some hf).1
    have hg := hI.g _ (gat_mem hi2)
    have hn := valid_num hg.1
    have g3 : (w.alloc (.cells #[.int .i64 0, .int .i64 0] 66)).cell? ⟨s.zs[i].p, 3, none⟩ = some (.int .i64 (gat b i).l.q) := by rw [← h2]; exact hR.gr _ zmem 3 _ rfl
    have g4 : (w.alloc (.cells #[.int .i64 0, .int .i64 0] 66)).cell? ⟨s.zs[i].p, 4, none⟩ = some (.int .i64 (gat b i).l.u) := by rw [← h2]; exact hR.gr _ zmem 4 _ rfl
    have g5 : (w.alloc (.cells #[.int .i64 0, .int .i64 0] 66)).cell? ⟨s.zs[i].p, 5, none⟩ = some (.int .i64 (gat b i).l.f) := by rw [← h2]; exact hR.gr _ zmem 5 _ rfl
    have g6 : (w.alloc (.cells #[.int .i64 0, .int .i64 0] 66)).cell? ⟨s.zs[i].p, 6, none⟩ = some (.int .i64 (gat b i).l.t) := by rw [← h2]; exact hR.gr _ zmem 6 _ rfl
    have g7 : (w.alloc (.cells #[.int .i64 0, .int .i64 0] 66)).cell? ⟨s.zs[i].p, 7, none⟩ = some (.int .i64 (gat b i).su) := by rw [← h2]; exact hR.gr _ zmem 7 _ rfl
    have g8 : (w.alloc (.cells #[.int .i64 0, .int .i64 0] 66)).cell? ⟨s.zs[i].p, 8, none⟩ = some (.int .i64 (gat b i).sn) := by rw [← h2]; exact hR.gr _ zmem 8 _ rfl
    have g9 : (w.alloc (.cells #[.int .i64 0, .int .i64 0] 66)).cell? ⟨s.zs[i].p, 9, none⟩ = some (.int .i64 (gat b i).e) := by rw [← h2]; exact hR.gr _ zmem 9 _ rfl
    have KR := hide (runs_any a g5 g6 g9)
    have KL := hide (left_any g3 g4 g7 g8 (by omega) (by omega))
    have hv : runsB (gat b i).l.f (gat b i).l.t (gat b i).e a = runsG (gat b i) a := rfl
    rw [hv] at KR
    clear g3 g4 g5 g6 g7 g8 g9 hg hn
    cases hw : inst a with
    | false =>
      rw [show within a 144001439 = false from hw] at KI
      have e : leftR b id a = (0, 0, 1) := by unfold leftR; rw [hf]; simp [hw]
      rw [e]
      clear hz hS hR hI hf e h1 h2 zmem hi2 hv hw
      unfold gptr at *
      go_enter Try.func43, Try.ntmps43
      go_wp2_with fail
      refine KF.out.mono ?_
      rintro e w' ⟨rfl, rfl⟩
      go_wp2_with fail
      refine KI.out.mono ?_
      rintro e w' ⟨rfl, rfl⟩
      go_wp2_with fail
      refine bodyPost_ret_by (res_cell_tmp rfl _ _ w.heap.size 66 #[.int .i64 0, .int .i64 0] (0, 0) rfl ?_ Try.underlying66 (by kernel_rfl)) rfl ?_
      · exact heap_alloc_new w _
      · exact ⟨rfl, (Below.refl _ _).alloc (Nat.le_refl _) _⟩
    | true =>
      rw [show within a 144001439 = true from hw] at KI
      cases hr : runsG (gat b i) a with
      | false =>
        rw [hr] at KR
        have e : leftR b id a = (0, 0, 0) := by unfold leftR; rw [hf]; simp [hw, hr]
        rw [e]
        clear hz hS hR hI hf e h1 h2 zmem hi2 hv hw hr
        unfold gptr at *
        go_enter Try.func43, Try.ntmps43
        go_wp2_with fail
        refine KF.out.mono ?_
        rintro e w' ⟨rfl, rfl⟩
        go_wp2_with fail
        refine KI.out.mono ?_
        rintro e w' ⟨rfl, rfl⟩
        go_wp2_with fail
        refine KR.out.mono ?_
        rintro e w' ⟨rfl, rfl⟩
        go_wp2_with fail
        refine bodyPost_ret_by (res_cell_tmp rfl _ _ w.heap.size 66 #[.int .i64 0, .int .i64 0] (0, 0) rfl ?_ Try.underlying66 (by kernel_rfl)) rfl ?_
        · exact heap_alloc_new w _
        · exact ⟨rfl, (Below.refl _ _).alloc (Nat.le_refl _) _⟩
      | true =>
        rw [hr] at KR
        have e : leftR b id a = ((gat b i).l.q - (gat b i).su, (gat b i).l.u - (gat b i).sn, 0) := by unfold leftR; rw [hf]; simp [hw, hr]
        rw [e]
        clear hz hS hR hI hf e h1 h2 zmem hi2 hv hw hr
        generalize (gat b i).l.q = q at *
        generalize (gat b i).l.u = u at *
        generalize (gat b i).su = su at *
        generalize (gat b i).sn = sn at *
        unfold gptr at *
        go_enter Try.func43, Try.ntmps43
        go_wp2_with fail
        refine KF.out.mono ?_
        rintro e w' ⟨rfl, rfl⟩
        go_wp2_with fail
        refine KI.out.mono ?_
        rintro e w' ⟨rfl, rfl⟩
        go_wp2_with fail
        refine KR.out.mono ?_
        rintro e w' ⟨rfl, rfl⟩
        go_wp2_with fail
        refine KL.out.mono ?_
        rintro e w2 ⟨rfl, hb⟩
        have hR1 := ((Run.begin w).fresh emp_ok (cell_new w #[.int .i64 0, .int .i64 0] 66)).below (star_ok cell_ok emp_ok) hb
        obtain ⟨F1, hC, -, bk⟩ := hR1.take cell_ok emp_ok
        have q0 := cell_at hC (i := 0) rfl
        have q1 := cell_at hC (i := 1) rfl
        have f0 := cell_free hC 0
        have f1 := cell_free hC 1
        have R3 := hide (bk _ _ (cell_set2 hC 0 1 (.int .i64 (q - su)) (.int .i64 (u - sn))))
        obtain ⟨F2, h2⟩ := R3.out.fst
        have HH := hide h2.1
        clear hC bk hR1 hb h2
        go_wp2_with fail
        exact bodyPost_ret_by (res_cell_tmp rfl _ _ w.heap.size 66 #[.int .i64 (q - su), .int .i64 (u - sn)] (0, 0) rfl HH.out Try.underlying66 (by kernel_rfl)) rfl ⟨rfl, R3.out.bel⟩
end Go.Proofs.Ytapabbpdfplpoaa
