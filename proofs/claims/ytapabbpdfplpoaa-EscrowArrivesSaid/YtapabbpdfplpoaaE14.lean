/-
  Escrow: Deliver, where nothing is delivered; what a message leaves.
-/
import Derived.Test.YtapabbpdfplpoaaE13
import Derived.Test.YtapabbpdfplpoaaGL
set_option linter.unusedSimpArgs false
set_option linter.unusedVariables false
namespace Go.Proofs.Ytapabbpdfplpoaa
open Go.RowKit Go.CH Go.CH.Esc
open Go.ChangeMaps (setBlock)

/-- A call that only made blocks. -/
theorem EPost.bel {w : World} {F : Nat → Prop} {g : GM} {p : Nat} (h : EscO g p w F) {v : Value} {w' : World} (hb : Below w.heap.size w w') : EPost w F v g p (.returned v) w' := by
  obtain ⟨s, hS⟩ := h
  obtain ⟨F', q1, q2, q3⟩ := ((Run.start hS).below escS_ok hb).post escS_ok
  exact ⟨rfl, F', ⟨_, q1⟩, q2, q3⟩
set_option maxRecDepth 100000 in
set_option maxHeartbeats 1600000 in
theorem del_no {w : World} {F : Nat → Prop} {g : GM} {p : Nat} (h : EscO g p w F) (f t : Int) (lost again : Bool) (hd : delE g f t = false) :
    Calls Try.prog 29 #[.pointer (some ⟨p, 0, none⟩), .int .i64 f, .int .i64 t, .bool lost, .bool again] w (EPost w F (.bool false) g p) := by
  have H := hide h
  obtain ⟨s, hS⟩ := h
  have KL := hide (line_any hS.read f t)
  have KB := hide (line_any hS.read t f)
  cases hp : g.pair f t with
  | false =>
    have hpb : g.pair t f = false := by
      cases hb : g.pair t f with
      | false => rfl
      | true => rw [pair_swap hb] at hp; cases hp
    rw [lineV, if_neg (by simp [hp])] at KL
    rw [lineV, if_neg (by simp [hpb])] at KB
    clear hd hS hp hpb
    go_enter Try.func29, Try.ntmps29
    go_wp2_with fail
    refine KL.out.mono ?_
    rintro e w' ⟨rfl, rfl⟩
    go_wp2_with fail
    refine KB.out.mono ?_
    rintro e w' ⟨rfl, rfl⟩
    go_wp2_with fail
    go_ret
    exact EPost.quiet H.out ⟨rfl, rfl⟩
  | true =>
    have hm : (g.pr (f, t)).ms = [] := by
      unfold delE at hd; rw [hp] at hd; simpa using hd
    rw [lineV, if_pos hp] at KL
    rw [lineV, if_pos (pair_swap hp)] at KB
    obtain ⟨l0, hz0, hrun0⟩ := esc_line (Run.start hS) hp
    obtain ⟨-, -, -, q3⟩ := line_cells hrun0
    have hn0 : l0.zs.length = 0 := by
      have h1 : (l0.zs.map ZMsg.m).length = 0 := by rw [hz0.1, hm]; rfl
      simpa using h1
    rw [hn0] at q3
    have KT := hide (take_none q3)
    clear hd hS hp hz0 hrun0 q3 hn0 hm
    unfold zeroMsg at KT
    go_enter Try.func29, Try.ntmps29
    go_wp2_with fail
    refine KL.out.mono ?_
    rintro e w' ⟨rfl, rfl⟩
    go_wp2_with fail
    refine KB.out.mono ?_
    rintro e w' ⟨rfl, rfl⟩
    go_wp2_with fail
    refine KT.out.mono ?_
    rintro e w2 ⟨rfl, hb2⟩
    have HB := hide hb2
    clear hb2
    go_wp2_with fail
    go_ret
    exact EPost.bel H.out (HB.out.alloc HB.out.size _)
end Go.Proofs.Ytapabbpdfplpoaa
