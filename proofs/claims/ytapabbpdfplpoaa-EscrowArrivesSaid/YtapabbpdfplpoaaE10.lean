/-
  Escrow: take.
-/
import Derived.Test.YtapabbpdfplpoaaE9
set_option linter.unusedSimpArgs false
set_option linter.unusedVariables false
namespace Go.Proofs.Ytapabbpdfplpoaa
open Go.RowKit Go.CH Go.CH.Esc
open Go.ChangeMaps (setBlock)

theorem results_row_tmp {fn : Func} {p u : Tmp} {ty : TypeId} (h : fn.results = #[.cell p ty, .tmp u]) {P : Program} (tmps : Array Value) (w : World) (g : Nat) (t : TypeId) (cs : Array Value) (fr : Nat × Nat) {d : Array Field}
    (hp : tmps.getD p undef = .pointer (some ⟨g, 0, none⟩)) (hg : w.heap[g]? = some (.cells cs t fr))
    (hu : P.underlying ty = some (.struct d)) (hi : (P.info? ty).map (·.size) = some cs.size) :
    (results fn tmps).run P w = .ok (.tuple #[.agg cs, tmps.getD u undef]) w := by
  rw [results_cell_tmp h, hp]
  simp [asAddr, run_loadVar_row w g t ty cs fr (.struct d) hg hu rfl hi]
def zeroMsg : Value := .agg #[.slice none 0 0, .int .i64 0, .int .i64 0, .bool false]
set_option maxHeartbeats 1600000 in
theorem take_none {w : World} {gp d : Nat} {B : Option Addr} (h : w.cell? ⟨gp, 3, none⟩ = some (.slice B 0 d)) :
    Calls Try.prog 69 #[.pointer (some ⟨gp, 3, none⟩)] w (BelowRet w (.tuple #[zeroMsg, .bool false])) := by
  have hlt : gp < w.heap.size := World.block_lt_of_cell? _ _ h
  go_enter Try.func69, Try.ntmps69
  go_wp2_with fail
  refine bodyPost_ret_by (results_row_tmp rfl _ _ w.heap.size 124 #[.slice none 0 0, .int .i64 0, .int .i64 0, .bool false] (0, 0) rfl ?_ Try.underlying124 (by kernel_rfl)) rfl ?_
  · rw [heap_old (by simp)]; exact heap_alloc_new w _
  · exact ⟨rfl, ((Below.refl _ _).alloc (Nat.le_refl _) _).alloc (by simp) _⟩
set_option maxRecDepth 100000 in
set_option maxHeartbeats 1600000 in
theorem take_some {w : World} {F : Nat → Prop} {gp n d : Nat} {s : Value} {last rc : Int} {B : Option Addr} {zs : List ZMsg} {z : ZMsg} (hzn : zs.length = n) (hn : n ≤ 100)
    (h : star (CellO gp (lcl s last rc B (n + 1) d) 109) (ARow zcl zow 124 4 (.slice B (n + 1) d) (z :: zs)) w F) :
    Calls Try.prog 69 #[.pointer (some ⟨gp, 3, none⟩)] w
      (fun e w' => e = .returned (.tuple #[.agg (zcl z).toArray, .bool true]) ∧ Post w F (star (CellO gp (lcl s last rc B n d) 109) (star (ARow zcl zow 124 4 (.slice B n d) zs) (zow z))) w') := by
  have R0 := hide (Run.start h)
  obtain ⟨F1, hC1⟩ := R0.out.fst
  obtain ⟨F2, hA2⟩ := R0.out.swap.fst
  have c3 : w.cell? ⟨gp, 3, none⟩ = some (.slice B (n + 1) d) := cell_at hC1 rfl
  have hlt : gp < w.heap.size := World.block_lt_of_cell? _ _ c3
  obtain ⟨Fr, Fb, hr, -⟩ := hA2
  rw [List.length_cons, hzn] at hr
  obtain ⟨g, rfl⟩ := row_addr hr (Nat.succ_pos n)
  have a0 : w.cell? ⟨g, 0, none⟩ = some (.slice z.A z.ts.length z.c) := row_cell hr rfl
  have a1 : w.cell? ⟨g, 1, none⟩ = some (.int .i64 z.m.up) := row_cell hr rfl
  have a2 : w.cell? ⟨g, 2, none⟩ = some (.int .i64 z.m.rc) := row_cell hr rfl
  have a3 : w.cell? ⟨g, 3, none⟩ = some (.bool z.m.rev) := row_cell hr rfl
  have hlg : g < w.heap.size := World.block_lt_of_cell? _ _ a0
  have X0 : Run F w (star (CellO gp (lcl s last rc (some ⟨g, 0, none⟩) (n + 1) d) 109) (star (RowO 124 4 (.slice (some ⟨g, 0, none⟩) (n + 1) d) (n + 1) (zcl z ++ zs.flatMap zcl)) (star (zow z) (bigStar (zs.map zow))))) w := by
    refine (Run.start h).imp fun w F h => star_mono h (fun _ h => h) (fun F h => ?_)
    unfold ARow at h
    rw [List.length_cons, hzn] at h
    exact h
  have okT : (star (zow z) (bigStar (zs.map zow))).Ok := star_ok (zow_ok z) (big_ok (fun A hA => by obtain ⟨z, _, rfl⟩ := List.mem_map.1 hA; exact zow_ok z))
  have X1 := X0.fresh (star_ok cell_ok (star_ok row_ok okT)) (cell_new w #[.slice none 0 0, .int .i64 0, .int .i64 0, .bool false] 124)
  have X2 := X1.fresh (star_ok cell_ok (star_ok cell_ok (star_ok row_ok okT))) (cell_new _ #[.slice z.A z.ts.length z.c, .int .i64 z.m.up, .int .i64 z.m.rc, .bool z.m.rev] 124)
  rw [show (w.alloc (.cells #[.slice none 0 0, .int .i64 0, .int .i64 0, .bool false] 124)).heap.size = w.heap.size + 1 by simp] at X2
  have X3 := X2.imp fun w F h => star_rot (star_mono h (fun _ h => h) (fun F h => star_rot (star_mono h (fun _ h => h) (fun F h => star_rot h))))
  obtain ⟨F3, hR3, -, hbk3⟩ := X3.take row_ok (star_ok cell_ok (star_ok cell_ok (star_ok cell_ok okT)))
  have KD := hide (del_any hR3 (by
    intro u hu
    rcases List.mem_append.1 hu with hu | hu
    · exact zcl_one z u hu
    · obtain ⟨z', _, hu⟩ := List.mem_flatMap.1 hu
      exact zcl_one z' u hu) hn)
  have HBK := hide hbk3
  have OKT := hide okT
  clear h hC1 hr X0 X1 X2 X3 hR3 hbk3 okT R0
  go_enter Try.func69, Try.ntmps69
  go_wp2_with fail
  refine KD.out.mono ?_
  rintro e w3 ⟨rfl, hP3⟩
  have S3 := HBK.out _ _ hP3
  rw [show (zcl z ++ zs.flatMap zcl).drop 4 = zs.flatMap zcl from rfl] at S3
  have OKR : (star (RowO 124 4 (.slice (some ⟨g, 0, none⟩) n d) n (zs.flatMap zcl)) (star (CellO (w.heap.size + 1) #[.slice z.A z.ts.length z.c, .int .i64 z.m.up, .int .i64 z.m.rc, .bool z.m.rev] 124) (star (CellO w.heap.size #[.slice none 0 0, .int .i64 0, .int .i64 0, .bool false] 124) (star (zow z) (bigStar (zs.map zow)))))).Ok :=
    star_ok row_ok (star_ok cell_ok (star_ok cell_ok OKT.out))
  obtain ⟨F4, hC4, -, bk4⟩ := (S3.imp fun w F h => star_rot (star_mono h (fun _ h => h) (fun F h => star_rot (star_mono h (fun _ h => h) (fun F h => star_rot h))))).take cell_ok OKR
  have q3 := cell_at hC4 (i := 3) rfl
  have y3 := cell_free hC4 3
  have S5 := bk4 _ _ (cell_set hC4 3 (.slice (some ⟨g, 0, none⟩) n d))
  obtain ⟨F5, hM5⟩ := S5.rot3.fst
  have m0 := cell_at hM5 (i := 0) rfl
  have m1 := cell_at hM5 (i := 1) rfl
  have m2 := cell_at hM5 (i := 2) rfl
  have m3 := cell_at hM5 (i := 3) rfl
  have S6 := S5.imp fun w F h => star_rot (star_mono h (fun _ h => h) (fun F h => star_rot (star_mono h (fun _ h => h) (fun F h => star_rot h))))
  have OKC : (star (CellO gp (lcl s last rc (some ⟨g, 0, none⟩) n d) 109) (star (RowO 124 4 (.slice (some ⟨g, 0, none⟩) n d) n (zs.flatMap zcl)) (star (CellO (w.heap.size + 1) #[.slice z.A z.ts.length z.c, .int .i64 z.m.up, .int .i64 z.m.rc, .bool z.m.rev] 124) (star (zow z) (bigStar (zs.map zow)))))).Ok :=
    star_ok cell_ok (star_ok row_ok (star_ok cell_ok OKT.out))
  obtain ⟨G0, h0, -, k0⟩ := S6.take cell_ok OKC
  have r0 := cell_at h0 (i := 0) rfl
  have r1 := cell_at h0 (i := 1) rfl
  have r2 := cell_at h0 (i := 2) rfl
  have r3 := cell_at h0 (i := 3) rfl
  have f0 : w3.frozen? ⟨w.heap.size, 0, none⟩ = false := by simpa using cell_free h0 0
  have f1 : w3.frozen? ⟨w.heap.size, 1, none⟩ = false := by simpa using cell_free h0 1
  have f2 : w3.frozen? ⟨w.heap.size, 2, none⟩ = false := by simpa using cell_free h0 2
  have f3 : w3.frozen? ⟨w.heap.size, 3, none⟩ = false := by simpa using cell_free h0 3
  have s0 := k0 _ _ (cell_set h0 0 (.slice z.A z.ts.length z.c))
  obtain ⟨G1, h1, -, k1⟩ := s0.take cell_ok OKC
  have s1 := k1 _ _ (cell_set h1 1 (.int .i64 z.m.up))
  obtain ⟨G2, h2, -, k2⟩ := s1.take cell_ok OKC
  have s2 := k2 _ _ (cell_set h2 2 (.int .i64 z.m.rc))
  obtain ⟨G3, h3, -, k3⟩ := s2.take cell_ok OKC
  have s3 := k3 _ _ (cell_set h3 3 (.bool z.m.rev))
  obtain ⟨G4, h4⟩ := s3.fst
  have HH := hide h4.1
  have S9 : Run F w (star (CellO gp (lcl s last rc (some ⟨g, 0, none⟩) n d) 109) (star (ARow zcl zow 124 4 (.slice (some ⟨g, 0, none⟩) n d) zs) (zow z))) _ := s3.drop.rot3.drop.imp fun w F h => star_mono h (fun _ h => h) (fun F h => star_assoc' (by
    rw [hzn]
    exact star_mono h (fun _ h => h) (fun _ h => star_comm h)))
  have HFIN := hide (S9.post (star_ok cell_ok (star_ok (arow_ok zow_ok) (zow_ok z))))
  clear hP3 S3 OKR hC4 bk4 S5 hM5 S6 KD HBK h0 h1 h2 h3 h4 k0 k1 k2 k3 s0 s1 s2 s3 S9 OKC
  go_wp2_with fail
  exact bodyPost_ret_by (results_row_tmp rfl _ _ w.heap.size 124 #[.slice z.A z.ts.length z.c, .int .i64 z.m.up, .int .i64 z.m.rc, .bool z.m.rev] (0, 0) rfl HH.out Try.underlying124 (by kernel_rfl)) rfl ⟨rfl, HFIN.out⟩
end Go.Proofs.Ytapabbpdfplpoaa
