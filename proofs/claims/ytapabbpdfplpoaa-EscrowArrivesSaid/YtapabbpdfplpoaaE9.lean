/-
  Escrow: the queue of messages: put, take.
-/
import Derived.Test.YtapabbpdfplpoaaE8
set_option linter.unusedSimpArgs false
set_option linter.unusedVariables false
namespace Go.Proofs.Ytapabbpdfplpoaa
open Go.RowKit Go.CH Go.CH.Esc
open Go.ChangeMaps (setBlock)

/-- A line's cells. -/
def lcl (s : Value) (last rc : Int) (B : Option Addr) (n d : Nat) : Array Value := #[s, .int .i64 last, .int .i64 rc, .slice B n d]
theorem zcl_one (z : ZMsg) : ∀ u ∈ zcl z, u.oneCell' = true := by
  intro u hu
  simp [zcl] at hu
  rcases hu with rfl | rfl | rfl | rfl <;> rfl
theorem src_new (w : World) (xs : List Value) (e : TypeId) (h1 : ∀ u ∈ xs, u.oneCell' = true) : Src (w.alloc (.cells xs.toArray e)) (some ⟨w.heap.size, 0, none⟩) 1 xs.length xs := by
  refine ⟨by omega, h1, fun _ => ⟨_, rfl, fun j u hu => ?_⟩⟩
  obtain ⟨F', hC, -⟩ := cell_new w xs.toArray e
  rw [Addr.add_zero_]
  exact cell_at hC (by simpa using hu)
set_option maxRecDepth 100000 in
set_option maxHeartbeats 1600000 in
theorem put_any {w : World} {F : Nat → Prop} {gp n d : Nat} {s : Value} {last rc : Int} {B : Option Addr} {zs : List ZMsg} {z : ZMsg} (hzn : zs.length = n) (hn : n ≤ 100)
    (h : star (CellO gp (lcl s last rc B n d) 109) (star (ARow zcl zow 124 4 (.slice B n d) zs) (zow z)) w F) :
    Calls Try.prog 70 #[.pointer (some ⟨gp, 3, none⟩), .agg (zcl z).toArray] w
      (fun e w' => e = .returned (.tuple #[]) ∧ ∃ B' d', Post w F (star (CellO gp (lcl s last rc B' (n + 1) d') 109) (ARow zcl zow 124 4 (.slice B' (n + 1) d') (zs ++ [z]))) w') := by
  have r0 : Run F w (star (CellO gp (lcl s last rc B n d) 109) (star (RowO 124 4 (.slice B n d) n (zs.flatMap zcl)) (star (zow z) (bigStar (zs.map zow))))) w := by
    refine (Run.start h).imp fun w F h => star_mono h (fun _ h => h) (fun F h => ?_)
    have h2 := star_assoc h
    rw [hzn] at h2
    exact star_mono h2 (fun _ h => h) (fun _ h => star_comm h)
  have ok0 : (star (RowO 124 4 (.slice B n d) n (zs.flatMap zcl)) (star (zow z) (bigStar (zs.map zow)))).Ok := star_ok row_ok (star_ok (zow_ok z) (big_ok (fun A hA => by obtain ⟨z, _, rfl⟩ := List.mem_map.1 hA; exact zow_ok z)))
  have OK0 := hide ok0
  have hone := hide (zcl_one z)
  have R1 := hide (show Run F w _ (w.alloc (.cells (zcl z).toArray 124)).drew from (r0.below (star_ok cell_ok ok0) ((Below.refl _ _).alloc (Nat.le_refl _) _)).drew (star_ok cell_ok ok0))
  obtain ⟨F1, hC1⟩ := R1.out.fst
  have c3 : (w.alloc (.cells (zcl z).toArray 124)).drew.cell? ⟨gp, 3, none⟩ = some (.slice B n d) := cell_at hC1 rfl
  obtain ⟨F2, hC2, -⟩ := cell_new w (zcl z).toArray 124
  have hC3 := cell_ok.keep (w' := (w.alloc (.cells (zcl z).toArray 124)).drew) hC2 (fun _ _ => rfl)
  have b0 : (w.alloc (.cells (zcl z).toArray 124)).drew.cell? ⟨w.heap.size, 0, none⟩ = some (.slice z.A z.ts.length z.c) := cell_at hC3 rfl
  have b1 : (w.alloc (.cells (zcl z).toArray 124)).drew.cell? ⟨w.heap.size, 1, none⟩ = some (.int .i64 z.m.up) := cell_at hC3 rfl
  have b2 : (w.alloc (.cells (zcl z).toArray 124)).drew.cell? ⟨w.heap.size, 2, none⟩ = some (.int .i64 z.m.rc) := cell_at hC3 rfl
  have b3 : (w.alloc (.cells (zcl z).toArray 124)).drew.cell? ⟨w.heap.size, 3, none⟩ = some (.bool z.m.rev) := cell_at hC3 rfl
  clear h r0 ok0 hC1 hC2 hC3
  go_enter Try.func70, Try.ntmps70
  go_wp2_with fail
  generalize w.alloc (.cells (zcl z).toArray 124) = W at *
  refine wp_region_lew [6, 7, 10] [2, 1, 1, 1, 1, 0, 1, 2, 2, 2, 3]
    (fun w' => w'.cell? ⟨gp, 3, none⟩ = some (.slice B n d) ∧ w'.cell? ⟨w.heap.size, 0, none⟩ = some (.slice z.A z.ts.length z.c) ∧ w'.cell? ⟨w.heap.size, 1, none⟩ = some (.int .i64 z.m.up) ∧ w'.cell? ⟨w.heap.size, 2, none⟩ = some (.int .i64 z.m.rc) ∧ w'.cell? ⟨w.heap.size, 3, none⟩ = some (.bool z.m.rev))
    (fun w' => w'.cell? ⟨gp, 3, none⟩ = some (.slice B n d)) (fun _ => True) (fun _ => True) (fun _ h => h.1) (fun _ _ => trivial) (fun _ h => h) (by kernel_rfl) (by kernel_rfl) (by kernel_rfl) (by kernel_rfl) (by exact ⟨c3, b0, b1, b2, b3⟩) ?_
  (repeat (first | (refine lew_skip (by rfl) (by rfl) ?_; try simp only [Act.put, List.setIfInBounds_toArray, List.set_cons_zero, List.set_cons_succ]) | (refine lew_read0 (v := ?_) (by rfl) (by rfl) ?_ ?_; rotate_left; (focus (intro w' hS'; go_simp; (try with_reducible rfl); done)); try simp only [Act.put, List.setIfInBounds_toArray, List.set_cons_zero, List.set_cons_succ]) | (refine lew_read1 (v := ?_) (by rfl) (by rfl) ?_ ?_; rotate_left; (focus (intro w' hS'; go_simp; (try with_reducible rfl); done)); try simp only [Act.put, List.setIfInBounds_toArray, List.set_cons_zero, List.set_cons_succ]) | (refine lew_read2 (v := ?_) (by rfl) (by rfl) ?_ ?_; rotate_left; (focus (intro w' hS'; go_simp; (try with_reducible rfl); done)); try simp only [Act.put, List.setIfInBounds_toArray, List.set_cons_zero, List.set_cons_succ]) | (refine lew_read3 (v := ?_) (by rfl) (by rfl) ?_ ?_; rotate_left; (focus (intro w' hS'; go_simp; (try with_reducible rfl); done)); try simp only [Act.put, List.setIfInBounds_toArray, List.set_cons_zero, List.set_cons_succ]) | (refine lew_read4 (v := ?_) (by rfl) (by rfl) ?_ ?_; rotate_left; (focus (intro w' hS'; go_simp; (try with_reducible rfl); done)); try simp only [Act.put, List.setIfInBounds_toArray, List.set_cons_zero, List.set_cons_succ])))
  refine lew_chain1 rfl (by rfl) (fun K hK => ?_)
  go_wp2_with fail
  have R2 := hide (show Run F w _ (W.alloc (.cells #[.slice z.A z.ts.length z.c, .int .i64 z.m.up, .int .i64 z.m.rc, .bool z.m.rev] 124)).drew from R1.out.below (star_ok cell_ok OK0.out) ((Below.refl _ _).alloc (Nat.le_refl _) _))
  have HSR := hide (show Src (W.alloc (.cells #[.slice z.A z.ts.length z.c, .int .i64 z.m.up, .int .i64 z.m.rc, .bool z.m.rev] 124)).drew (some ⟨W.heap.size, 0, none⟩) 1 4 (zcl z) from src_new W.drew (zcl z) 124 hone.out)
  generalize (W.alloc (.cells #[.slice z.A z.ts.length z.c, .int .i64 z.m.up, .int .i64 z.m.rc, .bool z.m.rev] 124)).drew = W2 at *
  obtain ⟨F3, hC3⟩ := R2.out.fst
  refine hK.out _ _ (cell_at hC3 rfl) ?_
  clear hK hC3 R1 c3 b0 b1 b2 b3
  (repeat (first | (refine lew_skip (by rfl) (by rfl) ?_; try simp only [Act.put, List.setIfInBounds_toArray, List.set_cons_zero, List.set_cons_succ]) | (refine lew_read0 (v := ?_) (by rfl) (by rfl) ?_ ?_; rotate_left; (focus (intro w' hS'; go_simp; (try with_reducible rfl); done)); try simp only [Act.put, List.setIfInBounds_toArray, List.set_cons_zero, List.set_cons_succ]) | (refine lew_read1 (v := ?_) (by rfl) (by rfl) ?_ ?_; rotate_left; (focus (intro w' hS'; go_simp; (try with_reducible rfl); done)); try simp only [Act.put, List.setIfInBounds_toArray, List.set_cons_zero, List.set_cons_succ]) | (refine lew_read2 (v := ?_) (by rfl) (by rfl) ?_ ?_; rotate_left; (focus (intro w' hS'; go_simp; (try with_reducible rfl); done)); try simp only [Act.put, List.setIfInBounds_toArray, List.set_cons_zero, List.set_cons_succ]) | (refine lew_read3 (v := ?_) (by rfl) (by rfl) ?_ ?_; rotate_left; (focus (intro w' hS'; go_simp; (try with_reducible rfl); done)); try simp only [Act.put, List.setIfInBounds_toArray, List.set_cons_zero, List.set_cons_succ]) | (refine lew_read4 (v := ?_) (by rfl) (by rfl) ?_ ?_; rotate_left; (focus (intro w' hS'; go_simp; (try with_reducible rfl); done)); try simp only [Act.put, List.setIfInBounds_toArray, List.set_cons_zero, List.set_cons_succ])))
  refine lew_chain2 rfl (by rfl) (fun K hK => ?_)
  obtain ⟨F4, hR4, -, hbk4⟩ := R2.out.rot.take row_ok (star_ok cell_ok (star_ok (zow_ok z) (big_ok (fun A hA => by obtain ⟨z, _, rfl⟩ := List.mem_map.1 hA; exact zow_ok z))))
  refine wp_app (.tmp 8) (.tmp 10) rfl msgOk _ 0 (v := .slice B n d) (n := n) rfl hR4.1 (A := some ⟨W.heap.size, 0, none⟩) (m := 1) (c := 1) (news := zcl z) rfl HSR.out (by omega) (by omega) (Nat.zero_le _) ?_
  intro v4 w4 ho4 hg4 hv4
  have S4 := hbk4 _ _ (row_app hR4 ho4 hg4 hv4)
  obtain ⟨B', d', rfl⟩ := own_form ho4
  obtain ⟨F5, hC5, -, hbk5⟩ := S4.rot.take cell_ok (star_ok row_ok (star_ok (zow_ok z) (big_ok (fun A hA => by obtain ⟨z, _, rfl⟩ := List.mem_map.1 hA; exact zow_ok z))))
  have d5 : w4.cell? ⟨gp, 3, none⟩ = some (.slice B n d) := cell_at hC5 rfl
  have z5 := cell_free hC5 3
  have S6 : Run F w (star (CellO gp (lcl s last rc B' (n + 1) d') 109) (ARow zcl zow 124 4 (.slice B' (n + 1) d') (zs ++ [z]))) (w4.setCell ⟨gp, 3, none⟩ (.slice B' (n + 1) d')) := by
    refine (hbk5 _ _ (cell_set hC5 3 (.slice B' (n + 1) d'))).imp fun w F h => star_mono h (fun _ h => h) (fun F h => arow_snoc ?_)
    rw [hzn]; exact h
  have HFIN := hide (S6.post (star_ok cell_ok (arow_ok zow_ok)))
  refine hK.out _ _ trivial ?_
  clear hK hR4 hbk4 ho4 hg4 hv4 S4 hC5 hbk5 S6
  (repeat (first | (refine lew_skip (by rfl) (by rfl) ?_; try simp only [Act.put, List.setIfInBounds_toArray, List.set_cons_zero, List.set_cons_succ]) | (refine lew_read0 (v := ?_) (by rfl) (by rfl) ?_ ?_; rotate_left; (focus (intro w' hS'; go_simp; (try with_reducible rfl); done)); try simp only [Act.put, List.setIfInBounds_toArray, List.set_cons_zero, List.set_cons_succ]) | (refine lew_read1 (v := ?_) (by rfl) (by rfl) ?_ ?_; rotate_left; (focus (intro w' hS'; go_simp; (try with_reducible rfl); done)); try simp only [Act.put, List.setIfInBounds_toArray, List.set_cons_zero, List.set_cons_succ]) | (refine lew_read2 (v := ?_) (by rfl) (by rfl) ?_ ?_; rotate_left; (focus (intro w' hS'; go_simp; (try with_reducible rfl); done)); try simp only [Act.put, List.setIfInBounds_toArray, List.set_cons_zero, List.set_cons_succ]) | (refine lew_read3 (v := ?_) (by rfl) (by rfl) ?_ ?_; rotate_left; (focus (intro w' hS'; go_simp; (try with_reducible rfl); done)); try simp only [Act.put, List.setIfInBounds_toArray, List.set_cons_zero, List.set_cons_succ]) | (refine lew_read4 (v := ?_) (by rfl) (by rfl) ?_ ?_; rotate_left; (focus (intro w' hS'; go_simp; (try with_reducible rfl); done)); try simp only [Act.put, List.setIfInBounds_toArray, List.set_cons_zero, List.set_cons_succ])))
  refine lew_chain3 rfl (by rfl) (fun K hK => ?_)
  go_wp2_with fail
  refine hK.out _ _ trivial (lew_nil ?_)
  go_wp2
  refine bodyPost_end (results_none rfl _ _ _) rfl ?_
  exact ⟨rfl, B', d', HFIN.out⟩
end Go.Proofs.Ytapabbpdfplpoaa
