/-
  Licence: Left.
  Licence: add.
  Licence: New, Grant.
  Licence: Reserve.
  Licence: Amend.
-/
import Derived.Test.YtapabbpdfplpoaaMT11
import Derived.Test.YtapabbpdfplpoaaMT5
set_option linter.unusedSimpArgs false
set_option linter.unusedVariables false
namespace Go.Proofs.Ytapabbpdfplpoaa
open Go.RowKit Go.CH Go.CH.Lic
open Go.ChangeMaps (setBlock)

theorem res_cell_tmp {fn : Func} {p u : Tmp} {ty : TypeId} (h : fn.results = #[.cell p ty, .tmp u]) {P : Program} (tmps : Array Value) (w : World) (g : Nat) (t : TypeId) (cs : Array Value) (fr : Nat × Nat) {d : Array Field}
    (hp : tmps.getD p undef = .pointer (some ⟨g, 0, none⟩)) (hg : w.heap[g]? = some (.cells cs t fr))
    (hu : P.underlying ty = some (.struct d)) (hi : (P.info? ty).map (·.size) = some cs.size) :
    (results fn tmps).run P w = .ok (.tuple #[.agg cs, tmps.getD u undef]) w := by
  rw [results_cell_tmp h, hp]
  simp [asAddr, run_loadVar_row w g t ty cs fr (.struct d) hg hu rfl hi]
def leftV (r : Int × Int × Int) : Value := .tuple #[.agg #[.int .i64 r.1, .int .i64 r.2.1], .int .i64 r.2.2]
def lbox (a b : Int) : Obj := .cells #[.int .i64 a, .int .i64 b] 66
theorem lbox_below (w : World) (a b : Int) : Below w.heap.size w (w.alloc (lbox a b)) := (Below.refl _ _).alloc (Nat.le_refl _) _
set_option maxHeartbeats 1600000 in
theorem bookleft_any {w : World} {F : Nat → Prop} {b : BkM} {p : Nat} (h : BkO b p w F) (hI : Inv b) (id : ByteArray) (a : Int) :
    Calls Try.prog 43 #[gptr p, .string id, .int .i64 a] w (BelowRet w (leftV (leftR b id a))) := by
  obtain ⟨s, hz, hS⟩ := h
  have hR := bk_read ((Run.start hS).below bkS_ok (lbox_below w 0 0))
  have hlt : p < w.heap.size := World.block_lt_of_cell? _ _ hS.read.c0
  have KF := hide (find_any hR id)
  have KI := hide (within_any a 144001439 (w.alloc (lbox 0 0)))
  unfold lbox at *

  cases hf : findG b id with
  | none =>
    rw [bk_find0 hz hf] at KF
    have e : leftR b id a = (0, 0, 11) := by unfold leftR; rw [hf]
    rw [e]
    clear hz hS hR hI hf e 
    unfold gptr at *
    go_enter Try.func43, Try.ntmps43
    go_wp2_with fail
    refine KF.out.mono ?_
    rintro e w' ⟨rfl, rfl⟩
    go_wp2_with fail
    refine bodyPost_ret_by (res_cell_tmp rfl _ _ w.heap.size 66 #[.int .i64 0, .int .i64 0] (0, 0) rfl ?_ Try.underlying66 (by kernel_rfl)) rfl ?_
    · exact heap_alloc_new w _
    · exact ⟨rfl, (Below.refl _ _).alloc (Nat.le_refl _) _⟩
  | some i =>
    obtain ⟨hi, h1, h2⟩ := bk_find hz hf
    rw [h1] at KF
    have zmem : s.zs[i] ∈ s.zs := List.getElem_mem hi
    have hi2 : i < b.gs.length := (findG_some hf).1
    have hg := hI.g _ (gat_mem hi2)
    have hn := valid_num hg.1
    have g3 : (w.alloc (.cells #[.int .i64 0, .int .i64 0] 66)).cell? ⟨s.zs[i].p, 3, none⟩ = some (.int .i64 (gat b i).l.q) := by rw [← h2]; exact hR.gr _ zmem 3 _ rfl
    have g4 : (w.alloc (.cells #[.int .i64 0, .int .i64 0] 66)).cell? ⟨s.zs[i].p, 4, none⟩ = some (.int .i64 (gat b i).l.u) := by rw [← h2]; exact hR.gr _ zmem 4 _ rfl
    have g5 : (w.alloc (.cells #[.int .i64 0, .int .i64 0] 66)).cell? ⟨s.zs[i].p, 5, none⟩ = some (.int .i64 (gat b i).l.f) := by rw [← h2]; exact hR.gr _ zmem 5 _ rfl
    have g6 : (w.alloc (.cells #[.int .i64 0, .int .i64 0] 66)).cell? ⟨s.zs[i].p, 6, none⟩ = some (.int .i64 (gat b i).l.t) := by rw [← h2]; exact hR.gr _ zmem 6 _ rfl
    have g7 : (w.alloc (.cells #[.int .i64 0, .int .i64 0] 66)).cell? ⟨s.zs[i].p, 7, none⟩ = some (.int .i64 (gat b i).su) := by rw [← h2]; exact hR.gr _ zmem 7 _ rfl
    have g8 : (w.alloc (.cells #[.int .i64 0, .int .i64 0] 66)).cell? ⟨s.zs[i].p, 8, none⟩ = some (.int .i64 (gat b i).sn) := by rw [← h2]; exact hR.gr _ zmem 8 _ rfl
    have g9 : (w.alloc (.cells #[.int .i64 0, .int .i64 0] 66)).cell? ⟨s.zs[i].p, 9, none⟩ = some (.int .i64 (gat b i).e) := by rw [← h2]; exact hR.gr _ zmem 9 _ rfl
    have KR := hide (runs_any a g5 g6 g9)
    have KL := hide (left_any g3 g4 g7 g8 (by omega) (by omega))
    have hv : runsB (gat b i).l.f (gat b i).l.t (gat b i).e a = runsG (gat b i) a := rfl
    rw [hv] at KR
    clear g3 g4 g5 g6 g7 g8 g9 hg hn
    cases hw : inst a with
    | false =>
      rw [show within a 144001439 = false from hw] at KI
      have e : leftR b id a = (0, 0, 1) := by unfold leftR; rw [hf]; simp [hw]
      rw [e]
      clear hz hS hR hI hf e h1 h2 zmem hi2 hv hw
      unfold gptr at *
      go_enter Try.func43, Try.ntmps43
      go_wp2_with fail
      refine KF.out.mono ?_
      rintro e w' ⟨rfl, rfl⟩
      go_wp2_with fail
      refine KI.out.mono ?_
      rintro e w' ⟨rfl, rfl⟩
      go_wp2_with fail
      refine bodyPost_ret_by (res_cell_tmp rfl _ _ w.heap.size 66 #[.int .i64 0, .int .i64 0] (0, 0) rfl ?_ Try.underlying66 (by kernel_rfl)) rfl ?_
      · exact heap_alloc_new w _
      · exact ⟨rfl, (Below.refl _ _).alloc (Nat.le_refl _) _⟩
    | true =>
      rw [show within a 144001439 = true from hw] at KI
      cases hr : runsG (gat b i) a with
      | false =>
        rw [hr] at KR
        have e : leftR b id a = (0, 0, 0) := by unfold leftR; rw [hf]; simp [hw, hr]
        rw [e]
        clear hz hS hR hI hf e h1 h2 zmem hi2 hv hw hr
        unfold gptr at *
        go_enter Try.func43, Try.ntmps43
        go_wp2_with fail
        refine KF.out.mono ?_
        rintro e w' ⟨rfl, rfl⟩
        go_wp2_with fail
        refine KI.out.mono ?_
        rintro e w' ⟨rfl, rfl⟩
        go_wp2_with fail
        refine KR.out.mono ?_
        rintro e w' ⟨rfl, rfl⟩
        go_wp2_with fail
        refine bodyPost_ret_by (res_cell_tmp rfl _ _ w.heap.size 66 #[.int .i64 0, .int .i64 0] (0, 0) rfl ?_ Try.underlying66 (by kernel_rfl)) rfl ?_
        · exact heap_alloc_new w _
        · exact ⟨rfl, (Below.refl _ _).alloc (Nat.le_refl _) _⟩
      | true =>
        rw [hr] at KR
        have e : leftR b id a = ((gat b i).l.q - (gat b i).su, (gat b i).l.u - (gat b i).sn, 0) := by unfold leftR; rw [hf]; simp [hw, hr]
        rw [e]
        clear hz hS hR hI hf e h1 h2 zmem hi2 hv hw hr
        generalize (gat b i).l.q = q at *
        generalize (gat b i).l.u = u at *
        generalize (gat b i).su = su at *
        generalize (gat b i).sn = sn at *
        unfold gptr at *
        go_enter Try.func43, Try.ntmps43
        go_wp2_with fail
        refine KF.out.mono ?_
        rintro e w' ⟨rfl, rfl⟩
        go_wp2_with fail
        refine KI.out.mono ?_
        rintro e w' ⟨rfl, rfl⟩
        go_wp2_with fail
        refine KR.out.mono ?_
        rintro e w' ⟨rfl, rfl⟩
        go_wp2_with fail
        refine KL.out.mono ?_
        rintro e w2 ⟨rfl, hb⟩
        have hR1 := ((Run.begin w).fresh emp_ok (cell_new w #[.int .i64 0, .int .i64 0] 66)).below (star_ok cell_ok emp_ok) hb
        obtain ⟨F1, hC, -, bk⟩ := hR1.take cell_ok emp_ok
        have q0 := cell_at hC (i := 0) rfl
        have q1 := cell_at hC (i := 1) rfl
        have f0 := cell_free hC 0
        have f1 := cell_free hC 1
        have R3 := hide (bk _ _ (cell_set2 hC 0 1 (.int .i64 (q - su)) (.int .i64 (u - sn))))
        obtain ⟨F2, h2⟩ := R3.out.fst
        have HH := hide h2.1
        clear hC bk hR1 hb h2
        go_wp2_with fail
        exact bodyPost_ret_by (res_cell_tmp rfl _ _ w.heap.size 66 #[.int .i64 (q - su), .int .i64 (u - sn)] (0, 0) rfl HH.out Try.underlying66 (by kernel_rfl)) rfl ⟨rfl, R3.out.bel⟩
end Go.Proofs.Ytapabbpdfplpoaa
namespace Go.Proofs.Ytapabbpdfplpoaa
open Go.RowKit Go.CH Go.CH.Lic
open Go.ChangeMaps (setBlock)

theorem ptrsOk : SliceOk Try.prog 133 136 (.pointer none) 1 8 := ⟨Try.underlying133, by kernel_rfl, by decide, by decide⟩
/-- A licence that comes in by value: its lists are nil or somewhere. -/
structure LicAt (w : World) (l : LicM) (A : Option Addr) (c : Nat) (B : Option Addr) (d : Nat) : Prop where
  h : LicIn w l A B
  mc : A = none → c = 0 ∧ l.ms.length = 0
  pc : B = none → d = 0 ∧ l.ps.length = 0
theorem LicAt.keep {w W : World} {l : LicM} {A B : Option Addr} {c d : Nat} (h : LicAt w l A c B d) (hb : Below w.heap.size w W) : LicAt W l A c B d := ⟨h.h.keep hb, h.mc, h.pc⟩
theorem bkZ_add {b : BkM} {s : BkP} (hz : BkZ b s) (z : ZG) (l : LicM) (hg : z.g = ⟨l, 0, 0, -1⟩) (A : Option Addr) (c : Nat) : BkZ (addM b l) { s with A := A, c := c, zs := s.zs ++ [z] } := by
  refine ⟨?_, hz.2.1, fun t ht => ?_⟩
  · simp [addM, hz.1, hg]
  · obtain ⟨y, h1, h2⟩ := hz.2.2 t ht
    have hi := (List.getElem?_eq_some_iff.1 h1).1
    exact ⟨y, by rw [List.getElem?_append_left hi]; exact h1, h2⟩
theorem entI_snoc {zs : List ZG} {z : ZG} (h : ∀ y ∈ zs, y.g.l.id ≠ z.g.l.id) : mput (entI zs) z.g.l.id (gptr z.p) = entI (zs ++ [z]) := by
  rw [mput_new_ (by
    intro hm
    unfold entI at hm
    rw [List.map_map, List.mem_map] at hm
    obtain ⟨y, hy, he⟩ := hm
    exact h y hy he)]
  unfold entI; simp
set_option maxRecDepth 100000 in
set_option maxHeartbeats 3200000 in
theorem add_any {w : World} {F : Nat → Prop} {b : BkM} {p : Nat} {l : LicM} {A B : Option Addr} {c d : Nat} (h : BkO b p w F) (hl : LicAt w l A c B d) (hnew : ∀ g ∈ b.gs, g.l.id ≠ l.id) (hlen : b.gs.length < 100) :
    Calls Try.prog 75 #[gptr p, licV l A c B d] w (BPost w F (.tuple #[]) (addM b l) p) := by
  obtain ⟨s, hz, hS⟩ := h
  have hzl : s.zs.length < 100 := by rw [zs_len hz]; exact hlen
  have hnew' : ∀ y ∈ s.zs, y.g.l.id ≠ l.id := fun y hy => hnew _ (by rw [← hz.1]; exact List.mem_map_of_mem hy)
  have HZ := hide hz
  have HN := hide hnew'
  have R1 := hide ((Run.start hS).fresh bkS_ok (cell_new w (licC l A c B d) 56))
  have hlt : p < w.heap.size := World.block_lt_of_cell? _ _ hS.read.c0
  have hbox := hide (((Run.begin w).fresh emp_ok (cell_new w (licC l A c B d) 56)).imp fun _ _ h => star_emp h)
  have KM := hide (fun W (hb : Below w.heap.size w W) => cloneS_any (c := c) (hl.keep hb).h.ms hl.h.mn hl.mc)
  have KP := hide (fun W (hb : Below w.heap.size w W) => cloneS_any (c := d) (hl.keep hb).h.ps hl.h.pn hl.pc)
  have B1 := hide ((Below.refl w.heap.size w).alloc (Nat.le_refl _) (.cells (licC l A c B d) 56))
  clear hz hnew hnew' hlen hl hS
  unfold licC at R1 hbox B1
  unfold licV
  obtain ⟨c0, c1, c2, c3, c4, c5, c6⟩ := box_reads hbox.out
  unfold gptr
  go_enter Try.func75, Try.ntmps75
  go_wp2_with fail
  have R2 := hide (R1.out.drew (star_ok cell_ok bkS_ok))
  have B2 := hide (below_drew B1.out)
  clear R1 B1 hbox
  refine wp_region_lew [2, 5, 7, 9] [0, 0, 1, 1, 1, 2, 2, 3, 3, 4] (fun w' => w'.cell? ⟨w.heap.size, 1, none⟩ = some (.slice A l.ms.length c) ∧ w'.cell? ⟨w.heap.size, 2, none⟩ = some (.slice B l.ps.length d)) (fun w' => w'.cell? ⟨w.heap.size, 2, none⟩ = some (.slice B l.ps.length d)) (fun _ => True) (fun _ => True) (fun _ h => h.2) (fun _ _ => trivial) (fun _ h => h) (by kernel_rfl) (by kernel_rfl) (by kernel_rfl) (by kernel_rfl) (by exact ⟨c1, c2⟩) ?_
  clear c0 c1 c2 c3 c4 c5 c6
  generalize (w.alloc (.cells #[.string l.id, .slice A l.ms.length c, .slice B l.ps.length d, .int .i64 l.q, .int .i64 l.u, .int .i64 l.f, .int .i64 l.t] 56)).drew = w1 at *
  (repeat (first | (refine lew_skip (by rfl) (by rfl) ?_; try simp only [Act.put, List.setIfInBounds_toArray, List.set_cons_zero, List.set_cons_succ]) | (refine lew_read0 (v := ?_) (by rfl) (by rfl) ?_ ?_; rotate_left; (focus (intro w' hS'; go_simp; (try with_reducible rfl); done)); try simp only [Act.put, List.setIfInBounds_toArray, List.set_cons_zero, List.set_cons_succ]) | (refine lew_read1 (v := ?_) (by rfl) (by rfl) ?_ ?_; rotate_left; (focus (intro w' hS'; go_simp; (try with_reducible rfl); done)); try simp only [Act.put, List.setIfInBounds_toArray, List.set_cons_zero, List.set_cons_succ]) | (refine lew_read2 (v := ?_) (by rfl) (by rfl) ?_ ?_; rotate_left; (focus (intro w' hS'; go_simp; (try with_reducible rfl); done)); try simp only [Act.put, List.setIfInBounds_toArray, List.set_cons_zero, List.set_cons_succ]) | (refine lew_read3 (v := ?_) (by rfl) (by rfl) ?_ ?_; rotate_left; (focus (intro w' hS'; go_simp; (try with_reducible rfl); done)); try simp only [Act.put, List.setIfInBounds_toArray, List.set_cons_zero, List.set_cons_succ]) | (refine lew_read4 (v := ?_) (by rfl) (by rfl) ?_ ?_; rotate_left; (focus (intro w' hS'; go_simp; (try with_reducible rfl); done)); try simp only [Act.put, List.setIfInBounds_toArray, List.set_cons_zero, List.set_cons_succ])))
  refine lew_chain1 rfl (by rfl) (fun K hK => ?_)
  go_wp2_with fail
  refine (KM.out _ B2.out).mono ?_
  rintro e w2 ⟨A', c', rfl, hp2⟩
  have R3 := hide (R2.out.fresh (star_ok cell_ok bkS_ok) hp2)
  have B3 := hide (B2.out.trans (((Run.begin w1).fresh emp_ok hp2).bel.mono (by have := B2.out.size; omega)))
  clear hp2 R2
  obtain ⟨F3, hC3⟩ := R3.out.rot.fst
  refine hK.out _ _ (cell_at hC3 rfl) ?_
  clear hK hC3
  (repeat (first | (refine lew_skip (by rfl) (by rfl) ?_; try simp only [Act.put, List.setIfInBounds_toArray, List.set_cons_zero, List.set_cons_succ]) | (refine lew_read0 (v := ?_) (by rfl) (by rfl) ?_ ?_; rotate_left; (focus (intro w' hS'; go_simp; (try with_reducible rfl); done)); try simp only [Act.put, List.setIfInBounds_toArray, List.set_cons_zero, List.set_cons_succ]) | (refine lew_read1 (v := ?_) (by rfl) (by rfl) ?_ ?_; rotate_left; (focus (intro w' hS'; go_simp; (try with_reducible rfl); done)); try simp only [Act.put, List.setIfInBounds_toArray, List.set_cons_zero, List.set_cons_succ]) | (refine lew_read2 (v := ?_) (by rfl) (by rfl) ?_ ?_; rotate_left; (focus (intro w' hS'; go_simp; (try with_reducible rfl); done)); try simp only [Act.put, List.setIfInBounds_toArray, List.set_cons_zero, List.set_cons_succ]) | (refine lew_read3 (v := ?_) (by rfl) (by rfl) ?_ ?_; rotate_left; (focus (intro w' hS'; go_simp; (try with_reducible rfl); done)); try simp only [Act.put, List.setIfInBounds_toArray, List.set_cons_zero, List.set_cons_succ]) | (refine lew_read4 (v := ?_) (by rfl) (by rfl) ?_ ?_; rotate_left; (focus (intro w' hS'; go_simp; (try with_reducible rfl); done)); try simp only [Act.put, List.setIfInBounds_toArray, List.set_cons_zero, List.set_cons_succ])))
  refine lew_chain2 rfl (by rfl) (fun K hK => ?_)
  go_wp2_with fail
  refine (KP.out _ B3.out).mono ?_
  rintro e w3 ⟨B', d', rfl, hp3⟩
  have R4 := hide (R3.out.fresh (star_ok row_ok (star_ok cell_ok bkS_ok)) hp3)
  clear hp3 R3 KM KP B2 B3
  refine hK.out _ _ trivial ?_
  clear hK
  obtain ⟨F4, hC4, -, bk4⟩ := R4.out.rot3.take cell_ok (star_ok row_ok (star_ok row_ok bkS_ok))
  have q1 := cell_at hC4 (i := 1) rfl
  have q2 := cell_at hC4 (i := 2) rfl
  have f1 := cell_free hC4 1
  have f2 := cell_free hC4 2
  have R5 := hide (bk4 _ _ (cell_set2 hC4 1 2 (.slice A' l.ms.length c') (.slice B' l.ps.length d')))
  clear hC4 bk4 R4
  (repeat (first | (refine lew_skip (by rfl) (by rfl) ?_; try simp only [Act.put, List.setIfInBounds_toArray, List.set_cons_zero, List.set_cons_succ]) | (refine lew_read0 (v := ?_) (by rfl) (by rfl) ?_ ?_; rotate_left; (focus (intro w' hS'; go_simp; (try with_reducible rfl); done)); try simp only [Act.put, List.setIfInBounds_toArray, List.set_cons_zero, List.set_cons_succ]) | (refine lew_read1 (v := ?_) (by rfl) (by rfl) ?_ ?_; rotate_left; (focus (intro w' hS'; go_simp; (try with_reducible rfl); done)); try simp only [Act.put, List.setIfInBounds_toArray, List.set_cons_zero, List.set_cons_succ]) | (refine lew_read2 (v := ?_) (by rfl) (by rfl) ?_ ?_; rotate_left; (focus (intro w' hS'; go_simp; (try with_reducible rfl); done)); try simp only [Act.put, List.setIfInBounds_toArray, List.set_cons_zero, List.set_cons_succ]) | (refine lew_read3 (v := ?_) (by rfl) (by rfl) ?_ ?_; rotate_left; (focus (intro w' hS'; go_simp; (try with_reducible rfl); done)); try simp only [Act.put, List.setIfInBounds_toArray, List.set_cons_zero, List.set_cons_succ]) | (refine lew_read4 (v := ?_) (by rfl) (by rfl) ?_ ?_; rotate_left; (focus (intro w' hS'; go_simp; (try with_reducible rfl); done)); try simp only [Act.put, List.setIfInBounds_toArray, List.set_cons_zero, List.set_cons_succ])))
  refine lew_chain3 rfl (by rfl) (fun K hK => ?_)
  go_wp2_with fail
  refine hK.out _ _ trivial ?_
  clear hK
  (repeat (first | (refine lew_skip (by rfl) (by rfl) ?_; try simp only [Act.put, List.setIfInBounds_toArray, List.set_cons_zero, List.set_cons_succ]) | (refine lew_read0 (v := ?_) (by rfl) (by rfl) ?_ ?_; rotate_left; (focus (intro w' hS'; go_simp; (try with_reducible rfl); done)); try simp only [Act.put, List.setIfInBounds_toArray, List.set_cons_zero, List.set_cons_succ]) | (refine lew_read1 (v := ?_) (by rfl) (by rfl) ?_ ?_; rotate_left; (focus (intro w' hS'; go_simp; (try with_reducible rfl); done)); try simp only [Act.put, List.setIfInBounds_toArray, List.set_cons_zero, List.set_cons_succ]) | (refine lew_read2 (v := ?_) (by rfl) (by rfl) ?_ ?_; rotate_left; (focus (intro w' hS'; go_simp; (try with_reducible rfl); done)); try simp only [Act.put, List.setIfInBounds_toArray, List.set_cons_zero, List.set_cons_succ]) | (refine lew_read3 (v := ?_) (by rfl) (by rfl) ?_ ?_; rotate_left; (focus (intro w' hS'; go_simp; (try with_reducible rfl); done)); try simp only [Act.put, List.setIfInBounds_toArray, List.set_cons_zero, List.set_cons_succ]) | (refine lew_read4 (v := ?_) (by rfl) (by rfl) ?_ ?_; rotate_left; (focus (intro w' hS'; go_simp; (try with_reducible rfl); done)); try simp only [Act.put, List.setIfInBounds_toArray, List.set_cons_zero, List.set_cons_succ])))
  refine lew_chain4 rfl (by rfl) (fun K hK => ?_)
  go_wp2_with fail
  refine hK.out _ _ trivial (lew_nil ?_)
  clear hK q1 q2 f1 f2
  generalize (w3.setCell ⟨w.heap.size, 1, none⟩ (.slice A' l.ms.length c')).setCell ⟨w.heap.size, 2, none⟩ (.slice B' l.ps.length d') = w5 at *
  have R5' := hide (show Run F w (star (CellO w.heap.size #[.string l.id, .slice A' l.ms.length c', .slice B' l.ps.length d', .int .i64 l.q, .int .i64 l.u, .int .i64 l.f, .int .i64 l.t] 56) _) w5 from R5.out)
  clear R5
  obtain ⟨F5, hC5⟩ := R5'.out.fst
  have x0 := cell_at hC5 (i := 0) rfl
  have x1 := cell_at hC5 (i := 1) rfl
  have x2 := cell_at hC5 (i := 2) rfl
  have x3 := cell_at hC5 (i := 3) rfl
  have x4 := cell_at hC5 (i := 4) rfl
  have x5 := cell_at hC5 (i := 5) rfl
  have x6 := cell_at hC5 (i := 6) rfl
  clear hC5
  obtain ⟨FS, hSS⟩ := (R5'.out.perm (by ac_rfl : _ = star (BkS p s) (star (CellO w.heap.size #[.string l.id, .slice A' l.ms.length c', .slice B' l.ps.length d', .int .i64 l.q, .int .i64 l.u, .int .i64 l.f, .int .i64 l.t] 56) (star (RowO 9 1 (.slice B' l.ps.length d') l.ps.length (strs l.ps)) (RowO 9 1 (.slice A' l.ms.length c') l.ms.length (strs l.ms)))))).fst
  have d0 := hSS.read.c0
  clear hSS
  have hlt5 : p < w5.heap.size := World.block_lt_of_cell? _ _ d0
  have R6 := hide (R5'.out.fresh (star_ok cell_ok (star_ok row_ok (star_ok row_ok bkS_ok))) (cell_new w5 (gcell ⟨⟨l, 0, 0, -1⟩, w5.heap.size, A', c', B', d'⟩) 147))
  have RQ := hide (R6.out.fresh (star_ok cell_ok (star_ok cell_ok (star_ok row_ok (star_ok row_ok bkS_ok)))) (cell_new _ #[gptr w5.heap.size] 136))
  have HSRC := hide (Src.one (RQ.out.fst.choose_spec.1) rfl)
  rw [show (w5.alloc (.cells (gcell ⟨⟨l, 0, 0, -1⟩, w5.heap.size, A', c', B', d'⟩) 147)).heap.size = w5.heap.size + 1 by simp] at RQ HSRC
  obtain ⟨REST, hREST⟩ : ∃ R, R = star (CellO p (bcell s) 135) (star (bigStar (s.zs.map gow)) (star (MapO Value.string s.bI (entI s.zs)) (star (MapO Value.string s.bK (entK s.ts)) (star (bigStar (s.ts.map tow)) (star (gow ⟨⟨l, 0, 0, -1⟩, w5.heap.size, A', c', B', d'⟩) (CellO w.heap.size #[.string l.id, .slice A' l.ms.length c', .slice B' l.ps.length d', .int .i64 l.q, .int .i64 l.u, .int .i64 l.f, .int .i64 l.t] 56)))))) := ⟨_, rfl⟩
  have OKR : REST.Ok := by
    rw [hREST]
    exact star_ok cell_ok (star_ok (big_ok (fun A hA => by obtain ⟨z, _, rfl⟩ := List.mem_map.1 hA; exact gow_ok z)) (star_ok map_ok (star_ok map_ok (star_ok tows_ok (star_ok (gow_ok _) cell_ok)))))
  have RQ2 := hide (RQ.out.drop.perm (show _ = star (RowO 136 1 (.slice s.A s.zs.length s.c) s.zs.length (s.zs.flatMap gcl)) REST by
    rw [hREST, show gow ⟨⟨l, 0, 0, -1⟩, w5.heap.size, A', c', B', d'⟩ = star (CellO w5.heap.size (gcell ⟨⟨l, 0, 0, -1⟩, w5.heap.size, A', c', B', d'⟩) 147) (star (RowO 9 1 (.slice A' l.ms.length c') l.ms.length (strs l.ms)) (RowO 9 1 (.slice B' l.ps.length d') l.ps.length (strs l.ps))) from rfl]; unfold BkS ARow; ac_rfl))
  have HREST := hide hREST
  have HOKR := hide OKR
  clear hREST OKR RQ R6 R5'
  go_wp2_with (at_builtin; refine held ?_)
  obtain ⟨F7, hR7, -, bk7⟩ := RQ2.out.take row_ok HOKR.out
  refine Held.mk (wpList_app rfl (.tmp 20) (.tmp 22) rfl ptrsOk _ 0 (v := .slice s.A s.zs.length s.c) (n := s.zs.length) (xs := s.zs.flatMap gcl) rfl hR7.1 (A := some ⟨w5.heap.size + 1, 0, none⟩) (m := 1) (c := 1) (news := [gptr w5.heap.size]) rfl HSRC.out (by omega) (by omega) (Nat.zero_le _) ?_)
  intro v8 w8 ho8 hg8 hv8
  have S8 := bk7 _ _ (row_app hR7 ho8 hg8 hv8)
  obtain ⟨A8, c8, rfl⟩ := own_form ho8
  clear ho8 hg8 hv8 bk7 hR7 HSRC RQ2 x0 x1 x2 x3 x4 x5 x6 d0
  rw [HREST.out] at S8
  have OKG : (bigStar (s.zs.map gow)).Ok := big_ok (fun A hA => by obtain ⟨z, _, rfl⟩ := List.mem_map.1 hA; exact gow_ok z)
  obtain ⟨F9, hC9, -, bk9⟩ := S8.rot.take cell_ok (star_ok row_ok (star_ok OKG (star_ok map_ok (star_ok map_ok (star_ok tows_ok (star_ok (gow_ok _) cell_ok))))))
  have d9 := cell_at hC9 (i := 0) rfl
  have f9 := cell_free hC9 0
  have S9 := hide (bk9 _ _ (cell_set hC9 0 (.slice A8 (s.zs.length + 1) c8)))
  clear hC9 bk9 S8 HREST HOKR
  go_wp2_with fail
  generalize w8.setCell ⟨p, 0, none⟩ (.slice A8 (s.zs.length + 1) c8) = w9 at *
  have S10 := S9.out.drew (star_ok cell_ok (star_ok row_ok (star_ok OKG (star_ok map_ok (star_ok map_ok (star_ok tows_ok (star_ok (gow_ok _) cell_ok)))))))
  obtain ⟨G1, g1⟩ := S10.fst
  have e1 : w9.drew.cell? ⟨p, 1, none⟩ = some (.map (some s.bI)) := cell_at g1 (i := 1) rfl
  have S11 := S10.perm (by ac_rfl : _ = star (MapO Value.string s.bI (entI s.zs)) (star (CellO w.heap.size #[.string l.id, .slice A' l.ms.length c', .slice B' l.ps.length d', .int .i64 l.q, .int .i64 l.u, .int .i64 l.f, .int .i64 l.t] 56) (star (CellO p ((bcell s).setIfInBounds 0 (.slice A8 (s.zs.length + 1) c8)) 135) (star (RowO 136 1 (.slice A8 (s.zs.length + 1) c8) (s.zs.length + 1) (s.zs.flatMap gcl ++ [gptr w5.heap.size])) (star (bigStar (s.zs.map gow)) (star (MapO Value.string s.bK (entK s.ts)) (star (bigStar (s.ts.map tow)) (gow ⟨⟨l, 0, 0, -1⟩, w5.heap.size, A', c', B', d'⟩))))))))
  obtain ⟨G2, g2⟩ := S11.rot.fst
  have e2 : w9.drew.cell? ⟨w.heap.size, 0, none⟩ = some (.string l.id) := cell_at g2 (i := 0) rfl
  obtain ⟨G3, g3, -, bk3⟩ := S11.take map_ok (star_ok cell_ok (star_ok cell_ok (star_ok row_ok (star_ok OKG (star_ok map_ok (star_ok tows_ok (gow_ok _)))))))
  obtain ⟨w10, hup, hpost⟩ := mapO_put keyStr Try.underlying131 g3 l.id (gptr w5.heap.size)
  have S12 := bk3 _ _ hpost
  have hent := entI_snoc (zs := s.zs) (z := ⟨⟨l, 0, 0, -1⟩, w5.heap.size, A', c', B', d'⟩) HN.out
  rw [show ((⟨⟨l, 0, 0, -1⟩, w5.heap.size, A', c', B', d'⟩ : ZG).g.l.id) = l.id from rfl, show ((⟨⟨l, 0, 0, -1⟩, w5.heap.size, A', c', B', d'⟩ : ZG).p) = w5.heap.size from rfl] at hent
  rw [hent] at S12
  have S13 : Run F w (BkS p { s with A := A8, c := c8, zs := s.zs ++ [⟨⟨l, 0, 0, -1⟩, w5.heap.size, A', c', B', d'⟩] }) w10 := by
    have h1 := (S12.rot.drop).perm (by ac_rfl : _ = star (star (RowO 136 1 (.slice A8 (s.zs.length + 1) c8) (s.zs.length + 1) (s.zs.flatMap gcl ++ [gptr w5.heap.size])) (star (gow ⟨⟨l, 0, 0, -1⟩, w5.heap.size, A', c', B', d'⟩) (bigStar (s.zs.map gow)))) (star (CellO p ((bcell s).setIfInBounds 0 (.slice A8 (s.zs.length + 1) c8)) 135) (star (MapO Value.string s.bI (entI (s.zs ++ [⟨⟨l, 0, 0, -1⟩, w5.heap.size, A', c', B', d'⟩]))) (star (MapO Value.string s.bK (entK s.ts)) (bigStar (s.ts.map tow))))))
    have h2 : Run F w (star (ARow gcl gow 136 1 (.slice A8 (s.zs.length + 1) c8) (s.zs ++ [⟨⟨l, 0, 0, -1⟩, w5.heap.size, A', c', B', d'⟩])) (star (CellO p #[.slice A8 (s.zs.length + 1) c8, .map (some s.bI), .map (some s.bK)] 135) (star (MapO Value.string s.bI (entI (s.zs ++ [⟨⟨l, 0, 0, -1⟩, w5.heap.size, A', c', B', d'⟩]))) (star (MapO Value.string s.bK (entK s.ts)) (bigStar (s.ts.map tow)))))) w10 :=
      h1.imp fun w F h => star_mono h (fun F h => arow_snoc (cl := gcl) (ow := gow) (z := ⟨⟨l, 0, 0, -1⟩, w5.heap.size, A', c', B', d'⟩) h) (fun _ h => h)
    refine h2.perm ?_
    unfold BkS bcell
    rw [List.length_append, show [(⟨⟨l, 0, 0, -1⟩, w5.heap.size, A', c', B', d'⟩ : ZG)].length = 1 from rfl]
    ac_rfl
  have HP := hide (S13.post bkS_ok)
  have HZ2 := hide (bkZ_add HZ.out ⟨⟨l, 0, 0, -1⟩, w5.heap.size, A', c', B', d'⟩ l rfl A8 c8)
  unfold gptr at hup
  refine wp_region_ley (fun w' => w' = w9.drew) (by kernel_rfl) (by kernel_rfl) (by kernel_rfl) rfl ?_
  clear S9 S10 S11 S12 S13 g1 g2 g3 bk3 hpost hent OKG
  (repeat (first | (refine ley_skip (by rfl) ?_; try simp only [Act.put, List.setIfInBounds_toArray, List.set_cons_zero, List.set_cons_succ]) | (refine ley_read (v := ?_) (by rfl) ?_ ?_; rotate_left; (focus (intro w' hS'; go_simp; (try with_reducible rfl); done)); try simp only [Act.put, List.setIfInBounds_toArray, List.set_cons_zero, List.set_cons_succ])))
  refine ley_last rfl (by rfl) (fun K hK => ?_)
  go_wp2_with fail
  refine hK.out _ _ ?_
  clear hK
  go_wp2_with fail
  refine bodyPost_end (results_none rfl _ _ _) rfl ?_
  exact BPost.mk' HZ2.out HP.out
end Go.Proofs.Ytapabbpdfplpoaa
namespace Go.Proofs.Ytapabbpdfplpoaa
open Go.RowKit Go.CH Go.CH.Lic
open Go.ChangeMaps (setBlock)

def NewB (w : World) (e : Ending) (w' : World) : Prop := ∃ p, e = .returned (gptr p) ∧ Post w (fun _ => False) (BkO newM p) w'
set_option maxHeartbeats 800000 in
theorem newb_any (w : World) : Calls Try.prog 37 #[] w (NewB w) := by
  have hmk1 : ∀ w : World, (Instr.makeMap 131 none).run Try.prog w = .ok (.map (some w.heap.size)) (w.alloc (.map #[] 0)) := fun w => by kernel_rfl
  have hmk2 : ∀ w : World, (Instr.makeMap 132 none).run Try.prog w = .ok (.map (some w.heap.size)) (w.alloc (.map #[] 0)) := fun w => by kernel_rfl
  have R1 := (Run.begin w).fresh emp_ok (map_new (kv := Value.string) w)
  have R2 := R1.fresh (star_ok map_ok emp_ok) (map_new (kv := Value.string) (w.alloc (.map #[] 0)))
  have R3 := R2.fresh (star_ok map_ok (star_ok map_ok emp_ok)) (cell_new ((w.alloc (.map #[] 0)).alloc (.map #[] 0)) #[.slice none 0 0, .map (some w.heap.size), .map (some (w.heap.size + 1))] 135)
  rw [show (w.alloc (.map #[] 0)).heap.size = w.heap.size + 1 by simp] at R3
  have e1 : ((w.alloc (.map #[] 0)).alloc (.map #[] 0)).heap.size = w.heap.size + 1 + 1 := by simp
  rw [e1] at R3
  have R4 : Run (fun _ => False) w (BkS (w.heap.size + 1 + 1) ⟨none, 0, w.heap.size, w.heap.size + 1, [], []⟩) (((w.alloc (.map #[] 0)).alloc (.map #[] 0)).alloc (.cells #[.slice none 0 0, .map (some w.heap.size), .map (some (w.heap.size + 1))] 135)) := by
    have h1 := (R3.perm (by ac_rfl : _ = star (star (CellO (w.heap.size + 1 + 1) #[.slice none 0 0, .map (some w.heap.size), .map (some (w.heap.size + 1))] 135) (star (MapO Value.string w.heap.size []) (MapO Value.string (w.heap.size + 1) []))) emp)).imp fun w F h => star_emp h
    have h2 := h1.imp (B := star (star (CellO (w.heap.size + 1 + 1) #[.slice none 0 0, .map (some w.heap.size), .map (some (w.heap.size + 1))] 135) (star (MapO Value.string w.heap.size []) (MapO Value.string (w.heap.size + 1) []))) (ARow gcl gow 136 1 (.slice none 0 0) [])) fun w F h => by
      exact ⟨F, fun _ => False, h, arow_nil w _ _, fun _ _ h => h, fun i => by simp⟩
    have h3 := h2.imp (B := star (star (star (CellO (w.heap.size + 1 + 1) #[.slice none 0 0, .map (some w.heap.size), .map (some (w.heap.size + 1))] 135) (star (MapO Value.string w.heap.size []) (MapO Value.string (w.heap.size + 1) []))) (ARow gcl gow 136 1 (.slice none 0 0) [])) emp) fun w F h => star_emp' h
    refine h3.perm ?_
    unfold BkS bcell
    show _ = star (CellO (w.heap.size + 1 + 1) #[.slice none 0 0, .map (some w.heap.size), .map (some (w.heap.size + 1))] 135) (star (ARow gcl gow 136 1 (.slice none 0 0) []) (star (MapO Value.string w.heap.size []) (star (MapO Value.string (w.heap.size + 1) []) emp)))
    ac_rfl
  have HP := hide (R4.post bkS_ok)
  clear R1 R2 R3 R4 e1
  go_enter Try.func37, Try.ntmps37
  go_wp2
  go_ret
  obtain ⟨F', q1, q2, q3⟩ := HP.out
  exact ⟨_, rfl, F', ⟨_, ⟨rfl, rfl, by simp⟩, q1⟩, q2, q3⟩
set_option maxRecDepth 100000 in
set_option maxHeartbeats 1600000 in
theorem grant_any {w : World} {F : Nat → Prop} {b : BkM} {p : Nat} {l : LicM} {A B : Option Addr} {c d : Nat} (h : BkO b p w F) (hl : LicAt w l A c B d) :
    Calls Try.prog 38 #[gptr p, licV l A c B d] w (BPost w F (.int .i64 (grantR b l).1) (grantR b l).2 p) := by
  have HO := hide h
  obtain ⟨s, hz, hS⟩ := h
  have R1 := hide ((Run.start hS).below bkS_ok ((Below.refl w.heap.size w).alloc (Nat.le_refl _) (.cells (licC l A c B d) 56)))
  have BX := hide (((Run.begin w).fresh emp_ok (cell_new w (licC l A c B d) 56)).imp fun _ _ h => star_emp h)
  have KV := hide (fun W (hb : Below w.heap.size w W) => valid_any (c := c) (d := d) (hl.keep hb).h)
  have HL := hide hl
  have hlt : p < w.heap.size := World.block_lt_of_cell? _ _ hS.read.c0
  clear hS hl
  obtain ⟨c0, c1, c2, c3, c4, c5, c6⟩ := box_reads (show Run _ _ (CellO w.heap.size #[.string l.id, .slice A l.ms.length c, .slice B l.ps.length d, .int .i64 l.q, .int .i64 l.u, .int .i64 l.f, .int .i64 l.t] 56) _ from BX.out)
  cases hv : valid l with
  | false =>
    have e : grantR b l = (1, b) := by unfold grantR; simp [hv]
    rw [e]
    rw [hv] at KV
    clear hv e hz
    unfold gptr licV licC at *
    go_enter Try.func38, Try.ntmps38
    go_wp2_with fail
    refine (KV.out _ BX.out.bel).mono ?_
    rintro e w2 ⟨rfl, hb⟩
    have HB := hide (BX.out.bel.trans (hb.mono (by simp)))
    clear hb
    go_wp2
    go_ret
    exact BPost.below HO.out _ HB.out
  | true =>
    rw [hv] at KV
    have hn := hide (show s.zs.length = b.gs.length from zs_len hz)
    cases hf : findG b l.id with
    | some i =>
      have e : grantR b l = (9, b) := by unfold grantR; simp [hv, hf]
      rw [e]
      obtain ⟨hi, h1, h2⟩ := bk_find hz hf
      have HFZ := hide h1
      generalize s.zs[i].p = gp at *
      clear hv e hz hf h1 h2
      unfold gptr licV licC at *
      go_enter Try.func38, Try.ntmps38
      go_wp2_with fail
      refine (KV.out _ BX.out.bel).mono ?_
      rintro e w2 ⟨rfl, hb⟩
      have RB := (R1.out.below bkS_ok hb).drew bkS_ok
      have BB := bk_read RB
      have m0 := BB.c0
      have m1 := BB.c1
      have ml := BB.lookI l.id
      rw [HFZ.out] at ml
      have BX2 := hide ((BX.out.below cell_ok hb).drew cell_ok)
      obtain ⟨q0, q1, q2, q3, q4, q5, q6⟩ := box_reads BX2.out
      have HBL := hide (below_drew (BX.out.bel.trans (hb.mono (by simp))))
      have RO2 := hide ((((Run.start HO.out).below bkO_ok ((Below.refl w.heap.size w).alloc (Nat.le_refl _) _)).below bkO_ok hb).drew bkO_ok)
      clear hb RB BB c0 c1 c2 c3 c4 c5 c6
      go_wp2_with fail
      refine wp_region_lex (fun w' => w' = w2.drew) (by kernel_rfl) (by kernel_rfl) rfl ?_
      (repeat (first | (refine lex_skip (by rfl) ?_; try simp only [Act.put, List.setIfInBounds_toArray, List.set_cons_zero, List.set_cons_succ]) | (refine lex_read (v := ?_) (by rfl) ?_ ?_; rotate_left; (focus (intro w' hS'; go_simp; (try with_reducible rfl); done)); try simp only [Act.put, List.setIfInBounds_toArray, List.set_cons_zero, List.set_cons_succ])))
      refine lex_nil ?_
      go_wp2
      go_ret
      exact BPost.below HO.out _ HBL.out
    | none =>
      have HFZ := hide (bk_find0 hz hf)
      have HNEW := hide (findG_none hf)
      by_cases hlen : 100 ≤ b.gs.length
      · have e : grantR b l = (28, b) := by unfold grantR; simp [hv, hf, hlen]
        rw [e]
        rw [← hn.out] at hlen
        clear hv e hz hf
        unfold gptr licV licC at *
        go_enter Try.func38, Try.ntmps38
        go_wp2_with fail
        refine (KV.out _ BX.out.bel).mono ?_
        rintro e w2 ⟨rfl, hb⟩
        have RB := (R1.out.below bkS_ok hb).drew bkS_ok
        have BB := bk_read RB
        have m0 := BB.c0
        have m1 := BB.c1
        have ml := BB.lookI l.id
        rw [HFZ.out] at ml
        have BX2 := hide ((BX.out.below cell_ok hb).drew cell_ok)
        obtain ⟨q0, q1, q2, q3, q4, q5, q6⟩ := box_reads BX2.out
        have HBL := hide (below_drew (BX.out.bel.trans (hb.mono (by simp))))
        have RO2 := hide ((((Run.start HO.out).below bkO_ok ((Below.refl w.heap.size w).alloc (Nat.le_refl _) _)).below bkO_ok hb).drew bkO_ok)
        clear hb RB BB c0 c1 c2 c3 c4 c5 c6
        go_wp2_with fail
        refine wp_region_lex (fun w' => w' = w2.drew) (by kernel_rfl) (by kernel_rfl) rfl ?_
        (repeat (first | (refine lex_skip (by rfl) ?_; try simp only [Act.put, List.setIfInBounds_toArray, List.set_cons_zero, List.set_cons_succ]) | (refine lex_read (v := ?_) (by rfl) ?_ ?_; rotate_left; (focus (intro w' hS'; go_simp; (try with_reducible rfl); done)); try simp only [Act.put, List.setIfInBounds_toArray, List.set_cons_zero, List.set_cons_succ])))
        refine lex_nil ?_
        go_wp2
        go_ret
        exact BPost.below HO.out _ HBL.out
      · have e : grantR b l = (0, addM b l) := by unfold grantR; simp [hv, hf, hlen]
        rw [e]
        have HLEN := hide hlen
        rw [← hn.out] at hlen
        clear hv e hz hf
        unfold gptr licV licC at *
        go_enter Try.func38, Try.ntmps38
        go_wp2_with fail
        refine (KV.out _ BX.out.bel).mono ?_
        rintro e w2 ⟨rfl, hb⟩
        have RB := (R1.out.below bkS_ok hb).drew bkS_ok
        have BB := bk_read RB
        have m0 := BB.c0
        have m1 := BB.c1
        have ml := BB.lookI l.id
        rw [HFZ.out] at ml
        have BX2 := hide ((BX.out.below cell_ok hb).drew cell_ok)
        obtain ⟨q0, q1, q2, q3, q4, q5, q6⟩ := box_reads BX2.out
        have HBL := hide (below_drew (BX.out.bel.trans (hb.mono (by simp))))
        have RO2 := hide ((((Run.start HO.out).below bkO_ok ((Below.refl w.heap.size w).alloc (Nat.le_refl _) _)).below bkO_ok hb).drew bkO_ok)
        clear hb RB BB c0 c1 c2 c3 c4 c5 c6
        go_wp2_with fail
        refine wp_region_lex (fun w' => w' = w2.drew) (by kernel_rfl) (by kernel_rfl) rfl ?_
        (repeat (first | (refine lex_skip (by rfl) ?_; try simp only [Act.put, List.setIfInBounds_toArray, List.set_cons_zero, List.set_cons_succ]) | (refine lex_read (v := ?_) (by rfl) ?_ ?_; rotate_left; (focus (intro w' hS'; go_simp; (try with_reducible rfl); done)); try simp only [Act.put, List.setIfInBounds_toArray, List.set_cons_zero, List.set_cons_succ])))
        refine lex_nil ?_
        obtain ⟨F', hB, back⟩ := RO2.out.all bkO_ok
        have KA := hide (add_any hB (HL.out.keep HBL.out) HNEW.out (by have := HLEN.out; omega))
        have BK := hide back
        clear hB back
        unfold gptr licV at KA
        go_wp2_with fail
        refine KA.out.mono ?_
        rintro e w3 ⟨rfl, hp⟩
        have HP := hide ((BK.out _ _ hp).post bkO_ok)
        clear hp BK
        go_wp2
        go_ret
        exact ⟨rfl, HP.out⟩
end Go.Proofs.Ytapabbpdfplpoaa
namespace Go.Proofs.Ytapabbpdfplpoaa
open Go.RowKit Go.CH Go.CH.Lic
open Go.ChangeMaps (setBlock)

theorem entK_snoc {ts : List ZT} {z : ZT} (h : ∀ y ∈ ts, y.k.nm ≠ z.k.nm) : mput (entK ts) z.k.nm (gptr z.p) = entK (ts ++ [z]) := by
  rw [mput_new_ (by
    intro hm
    unfold entK at hm
    rw [List.map_map, List.mem_map] at hm
    obtain ⟨y, hy, he⟩ := hm
    exact h y hy he)]
  unfold entK; simp
theorem bk_addT {F0 : Nat → Prop} {w0 W : World} {p : Nat} {s : BkP} {z : ZT} (h : Run F0 w0 (star (CellO z.p (tcell z) 145) (BkS p s)) W) (hn : ∀ y ∈ s.ts, y.k.nm ≠ z.k.nm) :
    ∃ W', (Instr.mapUpdate 132 (.map (some s.bK)) (.string z.k.nm) (gptr z.p)).run Try.prog W = .ok () W' ∧ Run F0 w0 (BkS p { s with ts := s.ts ++ [z] }) W' := by
  have h1 := h.perm (by unfold BkS; ac_rfl : _ = star (MapO Value.string s.bK (entK s.ts)) (star (star (CellO z.p (tcell z) 145) (bigStar (s.ts.map tow))) (star (CellO p (bcell s) 135) (star (ARow gcl gow 136 1 (.slice s.A s.zs.length s.c) s.zs) (MapO Value.string s.bI (entI s.zs))))))
  obtain ⟨G, g, -, bk⟩ := h1.take map_ok (star_ok (star_ok cell_ok tows_ok) (star_ok cell_ok (star_ok (arow_ok gow_ok) map_ok)))
  obtain ⟨W', hup, hp⟩ := mapO_put keyStr Try.underlying132 g z.k.nm (gptr z.p)
  refine ⟨W', hup, ?_⟩
  have h2 := bk _ _ hp
  rw [entK_snoc hn] at h2
  have h3 : Run F0 w0 (star (bigStar (s.ts.map tow ++ [tow z])) (star (MapO Value.string s.bK (entK (s.ts ++ [z]))) (star (CellO p (bcell s) 135) (star (ARow gcl gow 136 1 (.slice s.A s.zs.length s.c) s.zs) (MapO Value.string s.bI (entI s.zs)))))) W' :=
    h2.rot.imp fun w F h => star_mono h (fun F h => big_snoc (B := tow z) h) (fun _ h => h)
  refine h3.perm ?_
  unfold BkS bcell
  rw [List.map_append, List.map_singleton]
  ac_rfl
theorem bkZ_addT {b : BkM} {s : BkP} (hz : BkZ b s) (z : ZT) (hg : ∃ y, s.zs[z.k.gi]? = some y ∧ y.p = z.g) : BkZ { b with ks := b.ks ++ [z.k] } { s with ts := s.ts ++ [z] } := by
  refine ⟨hz.1, by simp [hz.2.1], fun t ht => ?_⟩
  rcases List.mem_append.1 ht with ht | ht
  · exact hz.2.2 t ht
  · simp at ht; subst ht; exact hg
/-- A book with a new key that holds nothing. -/
def resM (b : BkM) (nm : ByteArray) (i : Nat) : BkM := putG { b with ks := b.ks ++ [⟨nm, i, 0, 0⟩] } i { gat b i with sn := (gat b i).sn + 1 }
theorem gat_put {b : BkM} {i : Nat} (h : i < b.gs.length) (g : GrM) (ks : List KeyM) : gat (putG { b with ks := ks } i g) i = g := by
  simp [gat, putG, List.getD_eq_getElem?_getD, h]
theorem res_eq {b : BkM} {nm : ByteArray} {i : Nat} (h : i < b.gs.length) (un : Int) : setM (resM b nm i) b.ks.length 0 un = putG { b with ks := b.ks ++ [⟨nm, i, 0, un⟩] } i { gat b i with su := (gat b i).su + un, sn := (gat b i).sn + 1 } := by
  have e1 : kat (resM b nm i) b.ks.length = ⟨nm, i, 0, 0⟩ := by simp [kat, resM, putG, List.getD_eq_getElem?_getD]
  unfold setM
  rw [e1]
  have e2 : gat (resM b nm i) i = { gat b i with sn := (gat b i).sn + 1 } := gat_put h _ _
  simp only [e2, unC]
  unfold resM putG putK
  simp
theorem inv_res {b : BkM} (hI : Inv b) {nm : ByteArray} {i : Nat} (hi : i < b.gs.length) (hk : b.ks.length < 1000) (h1 : 1 ≤ (gat b i).l.u - (gat b i).sn) : Inv (resM b nm i) := by
  have hg := hI.g _ (gat_mem hi)
  refine ⟨fun g hgm => ?_, fun k hkm => ?_, by simpa [resM, putG] using hI.gn, by simp [resM, putG]; omega⟩
  · unfold resM putG at hgm
    rcases List.mem_or_eq_of_mem_set hgm with hgm | rfl
    · exact hI.g g hgm
    · exact ⟨hg.1, hg.2.1, hg.2.2.1, by simp; omega, by simp; omega, hg.2.2.2.2.2.1, hg.2.2.2.2.2.2⟩
  · have e : (resM b nm i).gs.length = b.gs.length := by simp [resM, putG]
    rw [e]
    unfold resM putG at hkm
    rcases List.mem_append.1 hkm with hkm | hkm
    · exact hI.k k hkm
    · simp at hkm; subst hkm; exact ⟨hi, by simp, by simp, .inl rfl⟩

theorem fld0 (a b : Int) (w : World) : (Instr.field 66 (.agg #[.int .i64 a, .int .i64 b]) 0).run Try.prog w = .ok (.int .i64 a) w := by kernel_rfl
theorem fld1 (a b : Int) (w : World) : (Instr.field 66 (.agg #[.int .i64 a, .int .i64 b]) 1).run Try.prog w = .ok (.int .i64 b) w := by kernel_rfl
set_option maxRecDepth 100000 in
set_option maxHeartbeats 3200000 in
theorem reserve_any {w : World} {F : Nat → Prop} {b : BkM} {p : Nat} (h : BkO b p w F) (hI : Inv b) (id nm : ByteArray) (un a : Int) (hs : nm.size ≤ maxLen) :
    Calls Try.prog 40 #[gptr p, .string id, .string nm, .int .i64 un, .int .i64 a] w (BPost w F (.int .i64 (reserveR b id nm un a).1) (reserveR b id nm un a).2 p) := by
  have H := hide h
  have fd0 := fld0
  have fd1 := fld1
  obtain ⟨s, hz, hS⟩ := h
  have hR := hS.read
  have KN := hide (isName_any nm w hs)
  have KU := hide (within_any un 1000000000 w)
  have KI := hide (within_any a 144001439 w)
  have KF := hide (find_any hR id)
  cases t1 : isName nm with
  | false =>
    rw [t1] at KN
    have e : reserveR b id nm un a = (1, b) := by unfold reserveR; simp [t1]
    rw [e]
    clear hz hS hR hI e t1
    unfold gptr at *
    go_enter Try.func40, Try.ntmps40
    go_wp2_with fail
    refine KN.out.mono ?_
    rintro e w' ⟨rfl, rfl⟩
    go_wp2
    go_ret
    exact BPost.quiet H.out _
  | true =>
  rw [t1] at KN
  cases t2 : within un 1000000000 with
  | false =>
    rw [t2] at KU
    have e : reserveR b id nm un a = (1, b) := by unfold reserveR; simp [t2]
    rw [e]
    clear hz hS hR hI e t1 t2
    unfold gptr at *
    go_enter Try.func40, Try.ntmps40
    go_wp2_with fail
    refine KN.out.mono ?_
    rintro e w' ⟨rfl, rfl⟩
    go_wp2_with fail
    refine KU.out.mono ?_
    rintro e w' ⟨rfl, rfl⟩
    go_wp2
    go_ret
    exact BPost.quiet H.out _
  | true =>
  rw [t2] at KU
  cases t3 : inst a with
  | false =>
    rw [show within a 144001439 = false from t3] at KI
    have e : reserveR b id nm un a = (1, b) := by unfold reserveR; simp [t3]
    rw [e]
    clear hz hS hR hI e t1 t2 t3
    unfold gptr at *
    go_enter Try.func40, Try.ntmps40
    go_wp2_with fail
    refine KN.out.mono ?_
    rintro e w' ⟨rfl, rfl⟩
    go_wp2_with fail
    refine KU.out.mono ?_
    rintro e w' ⟨rfl, rfl⟩
    go_wp2_with fail
    refine KI.out.mono ?_
    rintro e w' ⟨rfl, rfl⟩
    go_wp2
    go_ret
    exact BPost.quiet H.out _
  | true =>
  rw [show within a 144001439 = true from t3] at KI
  cases hf : findG b id with
  | none =>
    rw [bk_find0 hz hf] at KF
    have e : reserveR b id nm un a = (11, b) := by unfold reserveR; simp [t1, t2, t3, hf]
    rw [e]
    clear hz hS hR hI e t1 t2 t3 hf
    unfold gptr at *
    go_enter Try.func40, Try.ntmps40
    go_wp2_with fail
    refine KN.out.mono ?_
    rintro e w' ⟨rfl, rfl⟩
    go_wp2_with fail
    refine KU.out.mono ?_
    rintro e w' ⟨rfl, rfl⟩
    go_wp2_with fail
    refine KI.out.mono ?_
    rintro e w' ⟨rfl, rfl⟩
    go_wp2_with fail
    refine KF.out.mono ?_
    rintro e w' ⟨rfl, rfl⟩
    go_wp2
    go_ret
    exact BPost.quiet H.out _
  | some i =>
  obtain ⟨hi, h1, h2⟩ := bk_find hz hf
  rw [h1] at KF
  have hi2 : i < b.gs.length := (findG_some hf).1
  have c2 := hR.c2
  have lk := hR.lookK nm
  cases hk : findK b nm with
  | some j =>
    obtain ⟨hj, k1, k2⟩ := bk_key hz hk
    rw [k1] at lk
    have e : reserveR b id nm un a = (9, b) := by unfold reserveR; simp [t1, t2, t3, hf, hk]
    rw [e]
    clear hz hS hR hI e t1 t2 t3 hf h1 h2 hi2 hk k1 k2
    generalize s.zs[i].p = gp at *
    generalize s.ts[j].p = tp at *
    unfold gptr at *
    go_enter Try.func40, Try.ntmps40
    go_wp2_with fail
    refine KN.out.mono ?_
    rintro e w' ⟨rfl, rfl⟩
    go_wp2_with fail
    refine KU.out.mono ?_
    rintro e w' ⟨rfl, rfl⟩
    go_wp2_with fail
    refine KI.out.mono ?_
    rintro e w' ⟨rfl, rfl⟩
    go_wp2_with fail
    refine KF.out.mono ?_
    rintro e w' ⟨rfl, rfl⟩
    go_wp2
    go_ret
    exact BPost.quiet H.out _
  | none =>
  have hnew := findK_none hk
  rw [bk_key0 hz hk] at lk
  have ll := hR.lenK
  have htl := ts_len hz
  by_cases hfull : 1000 ≤ s.ts.length
  · have e : reserveR b id nm un a = (28, b) := by unfold reserveR; simp [t1, t2, t3, hf, hk, show 1000 ≤ b.ks.length by omega]
    rw [e]
    clear hz hS hR hI e t1 t2 t3 hf h1 h2 hi2 hk hnew htl
    generalize s.zs[i].p = gp at *
    unfold gptr at *
    go_enter Try.func40, Try.ntmps40
    go_wp2_with fail
    refine KN.out.mono ?_
    rintro e w' ⟨rfl, rfl⟩
    go_wp2_with fail
    refine KU.out.mono ?_
    rintro e w' ⟨rfl, rfl⟩
    go_wp2_with fail
    refine KI.out.mono ?_
    rintro e w' ⟨rfl, rfl⟩
    go_wp2_with fail
    refine KF.out.mono ?_
    rintro e w' ⟨rfl, rfl⟩
    go_wp2
    go_ret
    exact BPost.quiet H.out _
  have zmem : s.zs[i] ∈ s.zs := List.getElem_mem hi
  have hg := hI.g _ (gat_mem hi2)
  have hn := valid_num hg.1
  have g3 : w.cell? ⟨s.zs[i].p, 3, none⟩ = some (.int .i64 (gat b i).l.q) := by rw [← h2]; exact hR.gr _ zmem 3 _ rfl
  have g4 : w.cell? ⟨s.zs[i].p, 4, none⟩ = some (.int .i64 (gat b i).l.u) := by rw [← h2]; exact hR.gr _ zmem 4 _ rfl
  have g5 : w.cell? ⟨s.zs[i].p, 5, none⟩ = some (.int .i64 (gat b i).l.f) := by rw [← h2]; exact hR.gr _ zmem 5 _ rfl
  have g6 : w.cell? ⟨s.zs[i].p, 6, none⟩ = some (.int .i64 (gat b i).l.t) := by rw [← h2]; exact hR.gr _ zmem 6 _ rfl
  have g7 : w.cell? ⟨s.zs[i].p, 7, none⟩ = some (.int .i64 (gat b i).su) := by rw [← h2]; exact hR.gr _ zmem 7 _ rfl
  have g8 : w.cell? ⟨s.zs[i].p, 8, none⟩ = some (.int .i64 (gat b i).sn) := by rw [← h2]; exact hR.gr _ zmem 8 _ rfl
  have g9 : w.cell? ⟨s.zs[i].p, 9, none⟩ = some (.int .i64 (gat b i).e) := by rw [← h2]; exact hR.gr _ zmem 9 _ rfl
  have KR := hide (runs_any a g5 g6 g9)
  have KL := hide (fun W (hb : Below w.heap.size w W) => left_any (((Run.begin w).below emp_ok hb).cell g3 (fun h => h)) (((Run.begin w).below emp_ok hb).cell g4 (fun h => h)) (((Run.begin w).below emp_ok hb).cell g7 (fun h => h)) (((Run.begin w).below emp_ok hb).cell g8 (fun h => h)) (by omega) (by omega))
  have hv : runsB (gat b i).l.f (gat b i).l.t (gat b i).e a = runsG (gat b i) a := rfl
  rw [hv] at KR
  clear g3 g4 g5 g6 g7 g8 g9 hv
  cases hr : runsG (gat b i) a with
  | false =>
    rw [hr] at KR
    have e : reserveR b id nm un a = (12, b) := by unfold reserveR; simp [t1, t2, t3, hf, hk, show ¬ 1000 ≤ b.ks.length by omega, hr]
    rw [e]
    clear hz hS hR hI e t1 t2 t3 hf h1 h2 hi2 hk hnew htl zmem hg hn hr
    generalize s.zs[i].p = gp at *
    unfold gptr at *
    go_enter Try.func40, Try.ntmps40
    go_wp2_with fail
    refine KN.out.mono ?_
    rintro e w' ⟨rfl, rfl⟩
    go_wp2_with fail
    refine KU.out.mono ?_
    rintro e w' ⟨rfl, rfl⟩
    go_wp2_with fail
    refine KI.out.mono ?_
    rintro e w' ⟨rfl, rfl⟩
    go_wp2_with fail
    refine KF.out.mono ?_
    rintro e w' ⟨rfl, rfl⟩
    go_wp2_with fail
    refine KR.out.mono ?_
    rintro e w' ⟨rfl, rfl⟩
    go_wp2
    go_ret
    exact BPost.quiet H.out _
  | true =>
  rw [hr] at KR
  by_cases hm : (gat b i).l.q - (gat b i).su < un
  · have e : reserveR b id nm un a = (19, b) := by unfold reserveR; simp [t1, t2, t3, hf, hk, show ¬ 1000 ≤ b.ks.length by omega, hr, hm]
    rw [e]
    clear hz hS hR hI e t1 t2 t3 hf h1 h2 hi2 hk hnew htl zmem hg hn hr
    generalize (gat b i).l.q - (gat b i).su = lq at *
    generalize (gat b i).l.u - (gat b i).sn = lu at *
    generalize s.zs[i].p = gp at *
    unfold gptr at *
    go_enter Try.func40, Try.ntmps40
    go_wp2_with fail
    refine KN.out.mono ?_
    rintro e w' ⟨rfl, rfl⟩
    go_wp2_with fail
    refine KU.out.mono ?_
    rintro e w' ⟨rfl, rfl⟩
    go_wp2_with fail
    refine KI.out.mono ?_
    rintro e w' ⟨rfl, rfl⟩
    go_wp2_with fail
    refine KF.out.mono ?_
    rintro e w' ⟨rfl, rfl⟩
    go_wp2_with fail
    refine KR.out.mono ?_
    rintro e w' ⟨rfl, rfl⟩
    go_wp2_with fail
    refine (KL.out _ (Below.refl _ _)).mono ?_
    rintro e w1 ⟨rfl, hb1⟩
    have HB1 := hide hb1
    clear hb1
    go_wp2
    go_ret
    exact BPost.below H.out _ HB1.out
  by_cases hm2 : (gat b i).l.u - (gat b i).sn < 1
  · have e : reserveR b id nm un a = (19, b) := by unfold reserveR; simp [t1, t2, t3, hf, hk, show ¬ 1000 ≤ b.ks.length by omega, hr, hm2]
    rw [e]
    clear hz hS hR hI e t1 t2 t3 hf h1 h2 hi2 hk hnew htl zmem hg hn hr
    generalize (gat b i).l.q - (gat b i).su = lq at *
    generalize (gat b i).l.u - (gat b i).sn = lu at *
    generalize s.zs[i].p = gp at *
    unfold gptr at *
    go_enter Try.func40, Try.ntmps40
    go_wp2_with fail
    refine KN.out.mono ?_
    rintro e w' ⟨rfl, rfl⟩
    go_wp2_with fail
    refine KU.out.mono ?_
    rintro e w' ⟨rfl, rfl⟩
    go_wp2_with fail
    refine KI.out.mono ?_
    rintro e w' ⟨rfl, rfl⟩
    go_wp2_with fail
    refine KF.out.mono ?_
    rintro e w' ⟨rfl, rfl⟩
    go_wp2_with fail
    refine KR.out.mono ?_
    rintro e w' ⟨rfl, rfl⟩
    go_wp2_with fail
    refine (KL.out _ (Below.refl _ _)).mono ?_
    rintro e w1 ⟨rfl, hb1⟩
    have HB1 := hide hb1
    clear hb1
    go_wp2_with fail
    refine (KL.out _ HB1.out).mono ?_
    rintro e w2 ⟨rfl, hb2⟩
    have HB2 := hide (HB1.out.trans (hb2.mono HB1.out.size))
    clear hb2
    go_wp2
    go_ret
    exact BPost.below H.out _ HB2.out
  have e : reserveR b id nm un a = (0, setM (resM b nm i) b.ks.length 0 un) := by rw [res_eq hi2]; unfold reserveR; simp [t1, t2, t3, hf, hk, show ¬ 1000 ≤ b.ks.length by omega, hr, hm, hm2]
  rw [e]
  have HS := hide hS
  have HZ := hide hz
  have HI := hide hI
  have HNEW : Hid (∀ y ∈ s.ts, y.k.nm ≠ nm) := hide (fun y hy => hnew _ (by rw [← hz.2.1]; exact List.mem_map_of_mem hy))
  have H2 := hide h2
  have HI2 := hide hi2
  have HTL := hide htl
  have HM2 := hide hm2
  have HUN : Hid (0 ≤ un ∧ un ≤ 1000000000) := hide (by unfold within at t2; simpa using t2)
  have hsn : -9223372036854775808 ≤ (gat b i).sn + 1 ∧ (gat b i).sn + 1 ≤ 9223372036854775807 := by omega
  have KLL := hide (And.intro (Int.le_refl ((gat b i).l.q - (gat b i).su)) (Int.le_refl ((gat b i).l.u - (gat b i).sn)))
  clear KLL
  obtain ⟨lq, hlq⟩ : ∃ x, x = (gat b i).l.q - (gat b i).su := ⟨_, rfl⟩
  obtain ⟨lu, hlu⟩ : ∃ x, x = (gat b i).l.u - (gat b i).sn := ⟨_, rfl⟩
  rw [← hlq] at hm KL; rw [← hlu] at hm2 KL
  obtain ⟨gp, hgp⟩ : ∃ x, x = s.zs[i].p := ⟨_, rfl⟩
  rw [← hgp] at KF KR KL
  have HGP := hide hgp
  obtain ⟨sn, hsn0⟩ : ∃ x, x = (gat b i).sn := ⟨_, rfl⟩
  rw [← hsn0] at hsn
  have HSN := hide hsn0
  clear hlq hlu hgp hsn0
  clear hz hS hR hI e t1 t2 t3 hf h1 h2 hi2 hk hnew htl zmem hg hn hr
  unfold gptr at KF KR KL
  unfold gptr
  go_enter Try.func40, Try.ntmps40
  go_wp2_with fail
  refine KN.out.mono ?_
  rintro e w' ⟨rfl, rfl⟩
  go_wp2_with fail
  refine KU.out.mono ?_
  rintro e w' ⟨rfl, rfl⟩
  go_wp2_with fail
  refine KI.out.mono ?_
  rintro e w' ⟨rfl, rfl⟩
  go_wp2_with fail
  refine KF.out.mono ?_
  rintro e w' ⟨rfl, rfl⟩
  go_wp2_with fail
  refine KR.out.mono ?_
  rintro e w' ⟨rfl, rfl⟩
  go_wp2_with fail
  refine (KL.out _ (Below.refl _ _)).mono ?_
  rintro e w1 ⟨rfl, hb1⟩
  have HB1 := hide hb1
  clear hb1
  go_wp2_with fail
  refine (KL.out _ HB1.out).mono ?_
  rintro e w2 ⟨rfl, hb2⟩
  have R2 := hide (((Run.start HS.out).below bkS_ok HB1.out).below bkS_ok hb2)
  clear hb2 c2
  have c2 := (bk_read R2.out).c2
  have R3 := hide (R2.out.fresh bkS_ok (cell_new w2 (tcell ⟨⟨nm, i, 0, 0⟩, w2.heap.size, gp⟩) 145))
  obtain ⟨W4, hup, R4⟩ := bk_addT (z := ⟨⟨nm, i, 0, 0⟩, w2.heap.size, gp⟩) R3.out HNEW.out
  have R4 := hide R4
  have hlt2 : p < w2.heap.size := World.block_lt_of_cell? _ _ c2
  have t0 : W4.cell? ⟨w2.heap.size, 0, none⟩ = some (.pointer (some ⟨gp, 0, none⟩)) := (bk_read R4.out).tr ⟨⟨nm, i, 0, 0⟩, w2.heap.size, gp⟩ (by simp) 0 _ rfl
  have g8 : W4.cell? ⟨gp, 8, none⟩ = some (.int .i64 sn) := by
    rw [HGP.out, HSN.out, ← H2.out]
    exact (bk_read R4.out).gr _ (List.getElem_mem hi) 8 _ rfl
  have f8 : W4.frozen? ⟨gp, 8, none⟩ = false := by
    rw [HGP.out]
    exact (bk_read R4.out).gf _ (List.getElem_mem hi) 8
  have R5 := hide (bk_setG R4.out (i := i) hi 8 (.int .i64 (sn + 1)) { gat b i with sn := (gat b i).sn + 1 } (by rw [← H2.out]) (by rw [← H2.out]) (by rw [← H2.out]) (by rw [HSN.out, ← H2.out]; rfl))
  rw [show (({ s with ts := s.ts ++ [⟨⟨nm, i, 0, 0⟩, w2.heap.size, gp⟩] } : BkP).zs[i]).p = gp from HGP.out.symm] at R5
  have HZ5 : Hid (BkZ (resM b nm i) (setG { s with ts := s.ts ++ [⟨⟨nm, i, 0, 0⟩, w2.heap.size, gp⟩] } i hi { gat b i with sn := (gat b i).sn + 1 })) :=
    hide (bkZ_setG (bkZ_addT HZ.out ⟨⟨nm, i, 0, 0⟩, w2.heap.size, gp⟩ ⟨_, List.getElem?_eq_getElem hi, HGP.out.symm⟩) hi _)
  have HI5 := hide (inv_res (nm := nm) HI.out HI2.out (by have := HTL.out; omega) (by have := HM2.out; omega))
  obtain ⟨F5, hS5, back⟩ := R5.out.all bkS_ok
  have HBK := hide back
  have KS : Hid (Calls Try.prog 81 #[.pointer (some ⟨w2.heap.size, 0, none⟩), .int .i64 0, .int .i64 un] _ (BPost _ F5 (.tuple #[]) (setM (resM b nm i) b.ks.length 0 un) p)) := hide (by
    have hS6 : BkS p (setG { s with ts := s.ts ++ [⟨⟨nm, i, 0, 0⟩, w2.heap.size, gp⟩] } i hi { gat b i with sn := (gat b i).sn + 1 }) _ F5 := hS5
    have K := setM_any (j := s.ts.length) hS6 HZ5.out HI5.out (by simp [setG]) 0 un (by decide) HUN.out.1 HUN.out.2
    have e : ((setG { s with ts := s.ts ++ [⟨⟨nm, i, 0, 0⟩, w2.heap.size, gp⟩] } i hi { gat b i with sn := (gat b i).sn + 1 }).ts[s.ts.length]'(by simp [setG])).p = w2.heap.size := by simp [setG]
    rw [e] at K
    rw [← HTL.out]
    exact K)
  clear hS5 back R5
  have hup2 : (Instr.mapUpdate 132 (.map (some s.bK)) (.string nm) (.pointer (some ⟨w2.heap.size, 0, none⟩))).run Try.prog (w2.alloc (.cells #[.pointer (some ⟨gp, 0, none⟩), .int .i64 0, .int .i64 0] 145)) = .ok () W4 := hup
  clear hup
  go_wp2_with fail
  refine KS.out.mono ?_
  rintro e w9 ⟨rfl, hp⟩
  have HP := hide ((HBK.out _ _ hp).post bkO_ok)
  clear hp
  go_wp2
  go_ret
  exact ⟨rfl, HP.out⟩
end Go.Proofs.Ytapabbpdfplpoaa
namespace Go.Proofs.Ytapabbpdfplpoaa
open Go.RowKit Go.CH Go.CH.Lic
open Go.ChangeMaps (setBlock)

theorem cell_sets {g : Nat} {t : TypeId} : ∀ (l : List (Nat × Value)) {w : World} {F : Nat → Prop} {cs : Array Value}, CellO g cs t w F → Post w F (CellO g (l.foldl (fun cs x => cs.setIfInBounds x.1 x.2) cs) t) (l.foldl (fun w x => w.setCell ⟨g, x.1, none⟩ x.2) w)
  | [], w, F, cs, h => ⟨F, h, Mod.refl _ _, fun i hi => .inl hi⟩
  | x :: l, w, F, cs, h => by
    obtain ⟨F0, h0, bk⟩ := (Run.start h).all cell_ok
    obtain ⟨F1, h1, bk1⟩ := (bk _ _ (cell_set h0 x.1 x.2)).all cell_ok
    exact (bk1 _ _ (cell_sets l h1)).post cell_ok
theorem licAt_of {b : BkM} {s : BkP} {w : World} {F : Nat → Prop} {p : Nat} (hz : BkZ b s) (hI : Inv b) (h : BkS p s w F) {i : Nat} (hi : i < s.zs.length) (l' : LicM) (h0 : l'.id.size ≤ maxLen) (h1 : l'.ms = s.zs[i].g.l.ms) (h2 : l'.ps = s.zs[i].g.l.ps) : LicAt w l' s.zs[i].A s.zs[i].c s.zs[i].B s.zs[i].d := by
  have hR := h.read
  have hm := List.getElem_mem hi
  have hg := hI.g s.zs[i].g (by rw [← hz.1]; exact List.mem_map_of_mem hm)
  obtain ⟨n1, n2, n3, n4, n5⟩ := valid_lists hg.1
  obtain ⟨a, c⟩ := hR.gs _ hm
  obtain ⟨F1, F2, -, ⟨F3, F4, h6, -⟩, -⟩ := h
  obtain ⟨F5, F6, -, h7, -⟩ := h6
  obtain ⟨F', g1, g2, -, ⟨g3, g4, ra, rb, -⟩, -⟩ := big_mem gow h7 _ hm
  refine ⟨⟨h0, by rw [h1]; exact a, by rw [h2]; exact c, fun x hx => ?_, fun x hx => ?_, by rw [h1]; omega, by rw [h2]; omega⟩, fun e => ?_, fun e => ?_⟩
  · have := names_size n3 x (by rw [← h1]; exact hx); unfold maxLen; omega
  · have := names_size n4 x (by rw [← h2]; exact hx); unfold maxLen; omega
  · have := row_cap ra.1
    have h0 := this.2 e
    exact ⟨h0, by rw [h1]; omega⟩
  · have := row_cap rb.1
    have h0 := this.2 e
    exact ⟨h0, by rw [h2]; omega⟩
set_option maxRecDepth 100000 in
set_option maxHeartbeats 3200000 in
theorem amend_any {w : World} {F : Nat → Prop} {b : BkM} {p : Nat} (h : BkO b p w F) (hI : Inv b) (id : ByteArray) (q u t : Int) :
    Calls Try.prog 55 #[gptr p, .string id, .int .i64 q, .int .i64 u, .int .i64 t] w (BPost w F (.int .i64 (amendR b id q u t).1) (amendR b id q u t).2 p) := by
  have H := hide h
  obtain ⟨s, hz, hS⟩ := h
  have hR := hS.read
  have KF := hide (find_any hR id)
  cases hf : findG b id with
  | none =>
    rw [bk_find0 hz hf] at KF
    have e : amendR b id q u t = (11, b) := by unfold amendR; rw [hf]
    rw [e]
    clear hz hS hR hf e hI
    unfold gptr at *
    go_enter Try.func55, Try.ntmps55
    go_wp2_with fail
    refine KF.out.mono ?_
    rintro e w' ⟨rfl, rfl⟩
    go_wp2
    go_ret
    exact BPost.quiet H.out _
  | some i =>
  obtain ⟨hi, h1, h2⟩ := bk_find hz hf
  rw [h1] at KF
  have hi2 : i < b.gs.length := (findG_some hf).1
  have zmem : s.zs[i] ∈ s.zs := List.getElem_mem hi
  have g9 : w.cell? ⟨s.zs[i].p, 9, none⟩ = some (.int .i64 (gat b i).e) := by rw [← h2]; exact hR.gr _ zmem 9 _ rfl
  by_cases he : 0 ≤ (gat b i).e
  · have e : amendR b id q u t = (12, b) := by unfold amendR; rw [hf]; simp [he]
    rw [e]
    clear hz hS hR hf e hI h1 h2 zmem hi2
    generalize s.zs[i].p = gp at *
    generalize (gat b i).e = ge at *
    unfold gptr at *
    go_enter Try.func55, Try.ntmps55
    go_wp2_with fail
    refine KF.out.mono ?_
    rintro e w' ⟨rfl, rfl⟩
    go_wp2
    go_ret
    exact BPost.quiet H.out _
  have g0 : w.cell? ⟨s.zs[i].p, 0, none⟩ = some (.string (gat b i).l.id) := by rw [← h2]; exact hR.gr _ zmem 0 _ rfl
  have g1 : w.cell? ⟨s.zs[i].p, 1, none⟩ = some (.slice s.zs[i].A (gat b i).l.ms.length s.zs[i].c) := by rw [← h2]; exact hR.gr _ zmem 1 _ rfl
  have g2 : w.cell? ⟨s.zs[i].p, 2, none⟩ = some (.slice s.zs[i].B (gat b i).l.ps.length s.zs[i].d) := by rw [← h2]; exact hR.gr _ zmem 2 _ rfl
  have g3 : w.cell? ⟨s.zs[i].p, 3, none⟩ = some (.int .i64 (gat b i).l.q) := by rw [← h2]; exact hR.gr _ zmem 3 _ rfl
  have g4 : w.cell? ⟨s.zs[i].p, 4, none⟩ = some (.int .i64 (gat b i).l.u) := by rw [← h2]; exact hR.gr _ zmem 4 _ rfl
  have g5 : w.cell? ⟨s.zs[i].p, 5, none⟩ = some (.int .i64 (gat b i).l.f) := by rw [← h2]; exact hR.gr _ zmem 5 _ rfl
  have g6 : w.cell? ⟨s.zs[i].p, 6, none⟩ = some (.int .i64 (gat b i).l.t) := by rw [← h2]; exact hR.gr _ zmem 6 _ rfl
  have hl0 := licAt_of hz hI hS hi (amendL (gat b i).l q u t) (by
    have := name_size (valid_lists (hI.g _ (gat_mem hi2)).1).2.2.2.2
    show (gat b i).l.id.size ≤ maxLen
    unfold maxLen; omega) (by rw [h2]; rfl) (by rw [h2]; rfl)
  have R1 := hide ((Run.start hS).below bkS_ok ((Below.refl w.heap.size w).alloc (Nat.le_refl _) (.cells (licC (amendL (gat b i).l q u t) s.zs[i].A s.zs[i].c s.zs[i].B s.zs[i].d) 56)))
  have BX := hide (((Run.begin w).fresh emp_ok (cell_new w (licC (amendL (gat b i).l q u t) s.zs[i].A s.zs[i].c s.zs[i].B s.zs[i].d) 56)).imp fun _ _ h => star_emp h)
  have KV := hide (fun W (hb : Below w.heap.size w W) => valid_any (c := s.zs[i].c) (d := s.zs[i].d) (hl0.keep hb).h)
  have hlg : s.zs[i].p < w.heap.size := World.block_lt_of_cell? _ _ g0
  cases hv : valid (amendL (gat b i).l q u t) with
  | false =>
    have e : amendR b id q u t = (1, b) := by unfold amendR; rw [hf]; simp [he, hv]
    rw [e]
    rw [hv] at KV
    clear hz hS hR hf e hI h1 h2 zmem hi2 hv hl0 R1
    unfold licC amendL at BX
    unfold licV amendL at KV
    generalize s.zs[i].p = gp at *
    generalize (gat b i).e = ge at *
    unfold gptr at *
    go_enter Try.func55, Try.ntmps55
    go_wp2_with fail
    refine KF.out.mono ?_
    rintro e w' ⟨rfl, rfl⟩
    go_wp2_with fail
    refine (KV.out _ BX.out.bel).mono ?_
    rintro e w2 ⟨rfl, hb⟩
    have HB := hide (BX.out.bel.trans (hb.mono (by simp)))
    clear hb
    go_wp2
    go_ret
    exact BPost.below H.out _ HB.out
  | true =>
  rw [hv] at KV
  by_cases hq : q < (gat b i).su
  · have e : amendR b id q u t = (19, b) := by unfold amendR; rw [hf]; simp [he, hv, hq]
    rw [e]
    have HZ := hide hz
    have HS := hide hS
    have H2 := hide h2
    clear hz hS hR hf e hI h1 h2 zmem hi2 hv hl0
    have hgp := hide (rfl : s.zs[i].p = s.zs[i].p)
    unfold licC amendL at BX R1
    unfold licV amendL at KV
    unfold gptr at *
    go_enter Try.func55, Try.ntmps55
    go_wp2_with fail
    refine KF.out.mono ?_
    rintro e w' ⟨rfl, rfl⟩
    go_wp2_with fail
    refine (KV.out _ BX.out.bel).mono ?_
    rintro e w2 ⟨rfl, hb⟩
    have HB := hide (BX.out.bel.trans (hb.mono (by simp)))
    have R2 := hide (R1.out.below bkS_ok hb)
    have BX2 := hide (BX.out.below cell_ok hb)
    clear hb g0 g1 g2 g3 g4 g5 g6 g9
    obtain ⟨x0, x1, x2, x3, x4, x5, x6⟩ := box_reads BX2.out
    have BB := bk_read R2.out
    have zm : s.zs[i] ∈ s.zs := List.getElem_mem hi
    have g7 : w2.cell? ⟨s.zs[i].p, 7, none⟩ = some (.int .i64 (gat b i).su) := by rw [← H2.out]; exact BB.gr _ zm 7 _ rfl
    have g8 : w2.cell? ⟨s.zs[i].p, 8, none⟩ = some (.int .i64 (gat b i).sn) := by rw [← H2.out]; exact BB.gr _ zm 8 _ rfl
    clear BB zm
    generalize (gat b i).su = su at *
    generalize (gat b i).sn = sn at *
    go_wp2
    go_ret
    exact BPost.below H.out _ HB.out
  by_cases hu : u < (gat b i).sn
  · have e : amendR b id q u t = (19, b) := by unfold amendR; rw [hf]; simp [he, hv, hu]
    rw [e]
    have HZ := hide hz
    have HS := hide hS
    have H2 := hide h2
    clear hz hS hR hf e hI h1 h2 zmem hi2 hv hl0
    have hgp := hide (rfl : s.zs[i].p = s.zs[i].p)
    unfold licC amendL at BX R1
    unfold licV amendL at KV
    unfold gptr at *
    go_enter Try.func55, Try.ntmps55
    go_wp2_with fail
    refine KF.out.mono ?_
    rintro e w' ⟨rfl, rfl⟩
    go_wp2_with fail
    refine (KV.out _ BX.out.bel).mono ?_
    rintro e w2 ⟨rfl, hb⟩
    have HB := hide (BX.out.bel.trans (hb.mono (by simp)))
    have R2 := hide (R1.out.below bkS_ok hb)
    have BX2 := hide (BX.out.below cell_ok hb)
    clear hb g0 g1 g2 g3 g4 g5 g6 g9
    obtain ⟨x0, x1, x2, x3, x4, x5, x6⟩ := box_reads BX2.out
    have BB := bk_read R2.out
    have zm : s.zs[i] ∈ s.zs := List.getElem_mem hi
    have g7 : w2.cell? ⟨s.zs[i].p, 7, none⟩ = some (.int .i64 (gat b i).su) := by rw [← H2.out]; exact BB.gr _ zm 7 _ rfl
    have g8 : w2.cell? ⟨s.zs[i].p, 8, none⟩ = some (.int .i64 (gat b i).sn) := by rw [← H2.out]; exact BB.gr _ zm 8 _ rfl
    clear BB zm
    generalize (gat b i).su = su at *
    generalize (gat b i).sn = sn at *
    go_wp2
    go_ret
    exact BPost.below H.out _ HB.out
  have e : amendR b id q u t = (0, putG b i { gat b i with l := amendL (gat b i).l q u t }) := by unfold amendR; rw [hf]; simp [he, hv, hq, hu]
  rw [e]
  have HZ := hide hz
  have HS := hide hS
  have H2 := hide h2
  clear hz hS hR hf e hI h1 h2 zmem hi2 hv hl0
  have hgp := hide (rfl : s.zs[i].p = s.zs[i].p)
  unfold licC amendL at BX R1
  unfold licV amendL at KV
  unfold gptr at *
  go_enter Try.func55, Try.ntmps55
  go_wp2_with fail
  refine KF.out.mono ?_
  rintro e w' ⟨rfl, rfl⟩
  go_wp2_with fail
  refine (KV.out _ BX.out.bel).mono ?_
  rintro e w2 ⟨rfl, hb⟩
  have HB := hide (BX.out.bel.trans (hb.mono (by simp)))
  have R2 := hide (R1.out.below bkS_ok hb)
  have BX2 := hide (BX.out.below cell_ok hb)
  clear hb g0 g1 g2 g3 g4 g5 g6 g9
  obtain ⟨x0, x1, x2, x3, x4, x5, x6⟩ := box_reads BX2.out
  have BB := bk_read R2.out
  have zm : s.zs[i] ∈ s.zs := List.getElem_mem hi
  have g7 : w2.cell? ⟨s.zs[i].p, 7, none⟩ = some (.int .i64 (gat b i).su) := by rw [← H2.out]; exact BB.gr _ zm 7 _ rfl
  have g8 : w2.cell? ⟨s.zs[i].p, 8, none⟩ = some (.int .i64 (gat b i).sn) := by rw [← H2.out]; exact BB.gr _ zm 8 _ rfl
  have y0 := BB.gr _ zm 0 _ rfl
  have f0 := BB.gf _ zm 0
  have y1 := BB.gr _ zm 1 _ rfl
  have f1 := BB.gf _ zm 1
  have y2 := BB.gr _ zm 2 _ rfl
  have f2 := BB.gf _ zm 2
  have y3 := BB.gr _ zm 3 _ rfl
  have f3 := BB.gf _ zm 3
  have y4 := BB.gr _ zm 4 _ rfl
  have f4 := BB.gf _ zm 4
  have y5 := BB.gr _ zm 5 _ rfl
  have f5 := BB.gf _ zm 5
  have y6 := BB.gr _ zm 6 _ rfl
  have f6 := BB.gf _ zm 6
  obtain ⟨G, hC, bk⟩ := bk_updG R2.out hi { gat b i with l := amendL (gat b i).l q u t } (by rw [H2.out]; rfl) (by rw [H2.out]; rfl) (by rw [H2.out]; rfl)
  have hP := cell_sets [(0, .string (gat b i).l.id), (1, .slice s.zs[i].A (gat b i).l.ms.length s.zs[i].c), (2, .slice s.zs[i].B (gat b i).l.ps.length s.zs[i].d), (3, .int .i64 q), (4, .int .i64 u), (5, .int .i64 (gat b i).l.f), (6, .int .i64 t)] hC
  have hCC : (([(0, .string (gat b i).l.id), (1, .slice s.zs[i].A (gat b i).l.ms.length s.zs[i].c), (2, .slice s.zs[i].B (gat b i).l.ps.length s.zs[i].d), (3, .int .i64 q), (4, .int .i64 u), (5, .int .i64 (gat b i).l.f), (6, .int .i64 t)] : List (Nat × Value)).foldl (fun (cs : Array Value) x => cs.setIfInBounds x.1 x.2) (gcell s.zs[i])) = gcell { s.zs[i] with g := { gat b i with l := amendL (gat b i).l q u t } } := by
    unfold gcell; rw [H2.out]; rfl
  rw [hCC] at hP
  have HP := hide ((bk _ hP).post bkS_ok)
  have HZ2 := hide (bkZ_setG HZ.out hi { gat b i with l := amendL (gat b i).l q u t })
  clear hC bk hP hCC
  clear BB zm
  go_wp2
  go_ret
  exact BPost.mk' HZ2.out HP.out
end Go.Proofs.Ytapabbpdfplpoaa
