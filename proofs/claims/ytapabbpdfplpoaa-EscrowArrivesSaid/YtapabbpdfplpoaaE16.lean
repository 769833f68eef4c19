/-
  Escrow: Deliver of a message that is lost.
-/
import Derived.Test.YtapabbpdfplpoaaE15
set_option linter.unusedSimpArgs false
set_option linter.unusedVariables false
namespace Go.Proofs.Ytapabbpdfplpoaa
open Go.RowKit Go.CH Go.CH.Esc
open Go.ChangeMaps (setBlock)

theorem setP_twice (g : GM) (k : Int × Int) (a b : PrG) : (g.setP k a).setP k b = g.setP k b := by
  unfold GM.setP
  congr 1
  funext x
  by_cases h : x = k <;> simp [h]
theorem setP_pr (g : GM) (k : Int × Int) (a : PrG) : (g.setP k a).pr k = a := by simp [GM.setP]
theorem pop_no {g : GM} {f t : Int} {m : MsgG} {ml : List MsgG} (h : (g.pr (f, t)).ms = m :: ml) : popM g f t false = g.setP (f, t) { g.pr (f, t) with ms := ml } := by
  simp [popM, h]
theorem pop_yes {g : GM} {f t : Int} {m : MsgG} {ml : List MsgG} (h : (g.pr (f, t)).ms = m :: ml) : popM g f t true = (g.setP (f, t) { g.pr (f, t) with ms := ml }).setP (f, t) { (g.setP (f, t) { g.pr (f, t) with ms := ml }).pr (f, t) with ms := ((g.setP (f, t) { g.pr (f, t) with ms := ml }).pr (f, t)).ms ++ [m] } := by
  rw [setP_twice, setP_pr]
  simp [popM, h]
set_option maxRecDepth 100000 in
set_option maxHeartbeats 1600000 in
theorem del_lost_no {w : World} {F : Nat → Prop} {g : GM} {p : Nat} (h : EscO g p w F) {U : Int} (hI : Inv g U) (f t : Int) (hd : delE g f t = true) :
    Calls Try.prog 29 #[.pointer (some ⟨p, 0, none⟩), .int .i64 f, .int .i64 t, .bool true, .bool false] w (EPost w F (.bool true) (popM g f t false) p) := by
  obtain ⟨hp, m, ml, hm⟩ := delE_pair hd
  have hPr := hI.pr f t hp
  obtain ⟨s, hS⟩ := h
  have KL := hide (line_any hS.read f t)
  have KB := hide (line_any hS.read t f)
  rw [lineV, if_pos hp] at KL
  rw [lineV, if_pos (pair_swap hp)] at KB
  obtain ⟨z, hz1, hz2, hT⟩ := esc_take (Run.start hS) hp hm (by have := hPr.msl; rw [hm] at this; simp at this; omega)
  rw [pop_no hm]
  have KT := hide hT
  clear hd hS hPr hT hI
  unfold zcl at KT
  go_enter Try.func29, Try.ntmps29
  go_wp2_with fail
  refine KL.out.mono ?_
  rintro e w' ⟨rfl, rfl⟩
  go_wp2_with fail
  refine KB.out.mono ?_
  rintro e w' ⟨rfl, rfl⟩
  go_wp2_with fail
  refine KT.out.mono ?_
  rintro e w2 ⟨rfl, hR2⟩
  have R2 := hide hR2
  clear hR2
  go_wp2_with fail
  go_ret
  obtain ⟨F', q1, q2, q3⟩ := (R2.out.drop.below escS_ok ((Below.refl _ _).alloc (Nat.le_refl _) _)).post escS_ok
  exact ⟨rfl, F', ⟨_, q1⟩, q2, q3⟩
end Go.Proofs.Ytapabbpdfplpoaa
