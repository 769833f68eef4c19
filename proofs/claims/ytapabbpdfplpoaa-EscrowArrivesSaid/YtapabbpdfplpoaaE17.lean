/-
  Escrow: Deliver of a message that is lost and comes again.
-/
import Derived.Test.YtapabbpdfplpoaaE16
set_option linter.unusedSimpArgs false
set_option linter.unusedVariables false
namespace Go.Proofs.Ytapabbpdfplpoaa
open Go.RowKit Go.CH Go.CH.Esc
open Go.ChangeMaps (setBlock)

set_option maxRecDepth 100000 in
set_option maxHeartbeats 1600000 in
theorem del_lost_yes {w : World} {F : Nat → Prop} {g : GM} {p : Nat} (h : EscO g p w F) {U : Int} (hI : Inv g U) (f t : Int) (hd : delE g f t = true) :
    Calls Try.prog 29 #[.pointer (some ⟨p, 0, none⟩), .int .i64 f, .int .i64 t, .bool true, .bool true] w (EPost w F (.bool true) (popM g f t true) p) := by
  obtain ⟨hp, m, ml, hm⟩ := delE_pair hd
  have hPr := hI.pr f t hp
  have hml : ml.length ≤ 100 := by have := hPr.msl; rw [hm] at this; simp at this; omega
  obtain ⟨s, hS⟩ := h
  have KL := hide (line_any hS.read f t)
  have KB := hide (line_any hS.read t f)
  rw [lineV, if_pos hp] at KL
  rw [lineV, if_pos (pair_swap hp)] at KB
  obtain ⟨z, hz1, hz2, hT⟩ := esc_take (Run.start hS) hp hm hml
  rw [pop_yes hm]
  have hp1 : (g.setP (f, t) { g.pr (f, t) with ms := ml }).pair f t = true := by rw [setP_pair]; exact hp
  have hzt : z.ts = msgT ((g.setP (f, t) { g.pr (f, t) with ms := ml }).pr (f, t)).H z.m := by rw [setP_pr, hz1]; exact hz2
  have hml1 : ((g.setP (f, t) { g.pr (f, t) with ms := ml }).pr (f, t)).ms.length ≤ 100 := by rw [setP_pr]; exact hml
  subst hz1
  generalize g.setP (f, t) { g.pr (f, t) with ms := ml } = g1 at *
  have KT := hide hT
  have HZT := hide hzt
  clear hd hS hPr hT hI hm hz2 hzt
  unfold zcl at KT
  go_enter Try.func29, Try.ntmps29
  go_wp2_with fail
  refine KL.out.mono ?_
  rintro e w' ⟨rfl, rfl⟩
  go_wp2_with fail
  refine KB.out.mono ?_
  rintro e w' ⟨rfl, rfl⟩
  go_wp2_with fail
  refine KT.out.mono ?_
  rintro e w2 ⟨rfl, hR2⟩
  have R3 := hR2.below (star_ok (zow_ok z) escS_ok) (((Below.refl _ _).alloc (Nat.le_refl _) (.cells #[.slice z.A z.ts.length z.c, .int .i64 z.m.up, .int .i64 z.m.rc, .bool z.m.rev] 124)))
  have KP := hide (esc_put (R3.drew (star_ok (zow_ok z) escS_ok)) hp1 HZT.out hml1)
  unfold zcl at KP
  obtain ⟨F2, hC2, -⟩ := cell_new w2 #[.slice z.A z.ts.length z.c, .int .i64 z.m.up, .int .i64 z.m.rc, .bool z.m.rev] 124
  have hC3 := cell_ok.keep (w' := (w2.alloc (.cells #[.slice z.A z.ts.length z.c, .int .i64 z.m.up, .int .i64 z.m.rc, .bool z.m.rev] 124)).drew) hC2 (fun _ _ => rfl)
  have b0 : (w2.alloc (.cells #[.slice z.A z.ts.length z.c, .int .i64 z.m.up, .int .i64 z.m.rc, .bool z.m.rev] 124)).drew.cell? ⟨w2.heap.size, 0, none⟩ = some (.slice z.A z.ts.length z.c) := cell_at hC3 rfl
  have b1 : (w2.alloc (.cells #[.slice z.A z.ts.length z.c, .int .i64 z.m.up, .int .i64 z.m.rc, .bool z.m.rev] 124)).drew.cell? ⟨w2.heap.size, 1, none⟩ = some (.int .i64 z.m.up) := cell_at hC3 rfl
  have b2 : (w2.alloc (.cells #[.slice z.A z.ts.length z.c, .int .i64 z.m.up, .int .i64 z.m.rc, .bool z.m.rev] 124)).drew.cell? ⟨w2.heap.size, 2, none⟩ = some (.int .i64 z.m.rc) := cell_at hC3 rfl
  have b3 : (w2.alloc (.cells #[.slice z.A z.ts.length z.c, .int .i64 z.m.up, .int .i64 z.m.rc, .bool z.m.rev] 124)).drew.cell? ⟨w2.heap.size, 3, none⟩ = some (.bool z.m.rev) := cell_at hC3 rfl
  clear hR2 R3 hC2 hC3
  go_wp2_with fail
  generalize w2.alloc (.cells #[.slice z.A z.ts.length z.c, .int .i64 z.m.up, .int .i64 z.m.rc, .bool z.m.rev] 124) = W at *
  refine wp_region_lew [4] [0, 0, 0, 0, 1]
    (fun w' => w'.cell? ⟨w2.heap.size, 0, none⟩ = some (.slice z.A z.ts.length z.c) ∧ w'.cell? ⟨w2.heap.size, 1, none⟩ = some (.int .i64 z.m.up) ∧ w'.cell? ⟨w2.heap.size, 2, none⟩ = some (.int .i64 z.m.rc) ∧ w'.cell? ⟨w2.heap.size, 3, none⟩ = some (.bool z.m.rev))
    (fun _ => True) (fun _ => True) (fun _ => True) (fun _ _ => trivial) (fun _ h => h) (fun _ h => h) (by kernel_rfl) (by kernel_rfl) (by kernel_rfl) (by kernel_rfl) (by exact ⟨b0, b1, b2, b3⟩) ?_
  (repeat (first | (refine lew_skip (by rfl) (by rfl) ?_; try simp only [Act.put, List.setIfInBounds_toArray, List.set_cons_zero, List.set_cons_succ]) | (refine lew_read0 (v := ?_) (by rfl) (by rfl) ?_ ?_; rotate_left; (focus (intro w' hS'; go_simp; (try with_reducible rfl); done)); try simp only [Act.put, List.setIfInBounds_toArray, List.set_cons_zero, List.set_cons_succ]) | (refine lew_read1 (v := ?_) (by rfl) (by rfl) ?_ ?_; rotate_left; (focus (intro w' hS'; go_simp; (try with_reducible rfl); done)); try simp only [Act.put, List.setIfInBounds_toArray, List.set_cons_zero, List.set_cons_succ]) | (refine lew_read2 (v := ?_) (by rfl) (by rfl) ?_ ?_; rotate_left; (focus (intro w' hS'; go_simp; (try with_reducible rfl); done)); try simp only [Act.put, List.setIfInBounds_toArray, List.set_cons_zero, List.set_cons_succ]) | (refine lew_read3 (v := ?_) (by rfl) (by rfl) ?_ ?_; rotate_left; (focus (intro w' hS'; go_simp; (try with_reducible rfl); done)); try simp only [Act.put, List.setIfInBounds_toArray, List.set_cons_zero, List.set_cons_succ]) | (refine lew_read4 (v := ?_) (by rfl) (by rfl) ?_ ?_; rotate_left; (focus (intro w' hS'; go_simp; (try with_reducible rfl); done)); try simp only [Act.put, List.setIfInBounds_toArray, List.set_cons_zero, List.set_cons_succ])))
  refine lew_chain1 rfl (by rfl) (fun K hK => ?_)
  go_wp2_with fail
  refine KP.out.mono ?_
  rintro e w5 ⟨rfl, hR5⟩
  have R5 := hide hR5
  clear hR5
  refine hK.out _ _ trivial (lew_nil ?_)
  clear hK
  go_wp2_with fail
  go_ret
  obtain ⟨F', q1, q2, q3⟩ := R5.out.post escS_ok
  exact ⟨rfl, F', ⟨_, q1⟩, q2, q3⟩
end Go.Proofs.Ytapabbpdfplpoaa
