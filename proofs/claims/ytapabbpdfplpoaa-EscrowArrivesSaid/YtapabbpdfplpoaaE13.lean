/-
  Escrow: Send, whole.
-/
import Derived.Test.YtapabbpdfplpoaaE12
set_option linter.unusedSimpArgs false
set_option linter.unusedVariables false
namespace Go.Proofs.Ytapabbpdfplpoaa
open Go.RowKit Go.CH Go.CH.Esc
open Go.ChangeMaps (setBlock)

set_option maxHeartbeats 800000 in
theorem send_any {w : World} {F : Nat → Prop} {g : GM} {p : Nat} (h : EscO g p w F) {U : Int} (hI : Inv g U) (f t : Int) (hl : (g.pr (f, t)).H.length ≤ 1000000) :
    Calls Try.prog 31 #[.pointer (some ⟨p, 0, none⟩), .int .i64 f, .int .i64 t] w (EPost w F (.int .i64 (sendE g f t)) (sendM g f t) p) := by
  cases hp : g.pair f t with
  | false =>
    have e1 : sendE g f t = 1 := by simp [sendE, hp]
    have e2 : sendM g f t = g := by simp [sendM, e1]
    rw [e1, e2]
    have H := hide h
    obtain ⟨s, hS⟩ := h
    have KL := hide (line_any hS.read f t)
    rw [lineV, if_neg (by simp [hp])] at KL
    clear hI hl e1 e2 hS
    go_enter Try.func31, Try.ntmps31
    go_wp2_with fail
    refine KL.out.mono ?_
    rintro e w' ⟨rfl, rfl⟩
    go_wp2_with fail
    go_ret
    exact EPost.quiet H.out ⟨rfl, rfl⟩
  | true =>
    obtain ⟨hr, ht, -⟩ := pair_is hp
    obtain ⟨f', rfl⟩ : ∃ k : Nat, f = k := ⟨f.toNat, by have := (is_lt hr).1; omega⟩
    obtain ⟨t', rfl⟩ : ∃ k : Nat, t = k := ⟨t.toNat, by have := (is_lt ht).1; omega⟩
    by_cases h3 : 100 ≤ (g.pr (f', t')).ms.length
    · have e1 : sendE g f' t' = 28 := by simp [sendE, hp, h3]
      have e2 : sendM g f' t' = g := by simp [sendM, e1]
      rw [e1, e2]
      have H := hide h
      obtain ⟨s, hS⟩ := h
      have KL := hide (line_any hS.read f' t')
      rw [lineV, if_pos hp] at KL
      obtain ⟨l0, hz0, hrun0⟩ := esc_line (Run.start hS) hp
      obtain ⟨-, -, -, q3⟩ := line_cells hrun0
      have hn0 : l0.zs.length = (g.pr (f', t')).ms.length := by rw [← hz0.1]; simp
      rw [hn0] at q3
      have h4 : (100 : Int) ≤ (g.pr (f', t')).ms.length := by omega
      clear hI hl e1 e2 hS hrun0 hz0 h3
      go_enter Try.func31, Try.ntmps31
      go_wp2_with fail
      refine KL.out.mono ?_
      rintro e w' ⟨rfl, rfl⟩
      go_wp2_with fail
      go_ret
      exact EPost.quiet H.out ⟨rfl, rfl⟩
    · have e1 : sendE g f' t' = 0 := by simp [sendE, hp, h3]
      have e2 : sendM g f' t' = g.setP (f', t') { g.pr (f', t') with ms := (g.pr (f', t')).ms ++ [⟨(g.pr (f', t')).conf, (g.pr (f', t')).H.length, (g.pr (t', f')).rc, (g.at_ f').rev⟩] } := by simp only [sendM, e1, if_true]
      rw [e1, e2]
      exact send_ok h hI hp hl (by omega)
end Go.Proofs.Ytapabbpdfplpoaa
