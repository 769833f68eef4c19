/-
  Escrow: Give, whole.
-/
import Derived.Test.YtapabbpdfplpoaaE6
set_option linter.unusedSimpArgs false
set_option linter.unusedVariables false
namespace Go.Proofs.Ytapabbpdfplpoaa
open Go.RowKit Go.CH Go.CH.Esc
open Go.ChangeMaps (setBlock)

set_option maxHeartbeats 800000 in
theorem give_any {w : World} {F : Nat → Prop} {g : GM} {p : Nat} (h : EscO g p w F) {U : Int} (hI : Inv g U) (f t k : Int) (hl : (g.pr (f, t)).H.length ≤ 1000000) :
    Calls Try.prog 32 #[.pointer (some ⟨p, 0, none⟩), .int .i64 f, .int .i64 t, .int .i64 k] w (EPost w F (.int .i64 (giveE g f t k)) (giveM g f t k) p) := by
  cases hp : g.pair f t with
  | false =>
    have e1 : giveE g f t k = 1 := by simp [giveE, hp]
    have e2 : giveM g f t k = g := by simp [giveM, e1]
    rw [e1, e2]
    have H := hide h
    obtain ⟨s, hS⟩ := h
    have KL := hide (line_any hS.read f t)
    rw [lineV, if_neg (by simp [hp])] at KL
    clear hI hl e1 e2 hS
    go_enter Try.func32, Try.ntmps32
    go_wp2_with fail
    refine KL.out.mono ?_
    rintro e w' ⟨rfl, rfl⟩
    go_wp2_with fail
    go_ret
    exact EPost.quiet H.out ⟨rfl, rfl⟩
  | true =>
    obtain ⟨hr, ht, -⟩ := pair_is hp
    obtain ⟨f', rfl⟩ : ∃ k : Nat, f = k := ⟨f.toNat, by have := (is_lt hr).1; omega⟩
    obtain ⟨t', rfl⟩ : ∃ k : Nat, t = k := ⟨t.toNat, by have := (is_lt ht).1; omega⟩
    have hfl := (is_lt hr).2
    simp only [Int.toNat_natCast] at hfl
    have H := hide h
    obtain ⟨s, hS⟩ := h
    have hR := hS.read
    obtain ⟨b, hb⟩ := hR.addr (by have := hI.nb; omega)
    have KL := hide (line_any hR f' t')
    rw [lineV, if_pos hp] at KL
    have hc0 := hR.c0
    rw [hb] at hc0
    obtain ⟨cu, -, -⟩ := hR.accs b hb f' hr
    obtain ⟨l0, -, hrun0⟩ := esc_line (Run.start hS) hp
    obtain ⟨q0, -, -, -⟩ := line_cells hrun0
    simp only [Int.toNat_natCast] at cu
    by_cases h1 : k < 1
    · have e1 : giveE g f' t' k = 1 := by simp [giveE, h1]
      have e2 : giveM g f' t' k = g := by simp [giveM, e1]
      rw [e1, e2]
      clear hI hl e1 e2 hS hR hrun0 cu q0
      go_enter Try.func32, Try.ntmps32
      go_wp2_with fail
      refine KL.out.mono ?_
      rintro e w' ⟨rfl, rfl⟩
      go_wp2_with fail
      go_ret
      exact EPost.quiet H.out ⟨rfl, rfl⟩
    · by_cases h2 : (g.at_ f').u < k
      · have e1 : giveE g f' t' k = 19 := by simp [giveE, h1, h2, hp]
        have e2 : giveM g f' t' k = g := by simp [giveM, e1]
        rw [e1, e2]
        generalize (g.at_ f').u = u at *
        clear hI hl e1 e2 hS hR hrun0 q0
        go_enter Try.func32, Try.ntmps32
        go_wp2_with fail
        refine KL.out.mono ?_
        rintro e w' ⟨rfl, rfl⟩
        go_wp2_with fail
        go_ret
        exact EPost.quiet H.out ⟨rfl, rfl⟩
      · by_cases h3 : 100 ≤ (g.pr (f', t')).H.length - (g.pr (f', t')).conf
        · have e1 : giveE g f' t' k = 28 := by simp [giveE, h1, h2, h3, hp]
          have e2 : giveM g f' t' k = g := by simp [giveM, e1]
          rw [e1, e2]
          have h4 : (100 : Int) ≤ ((g.pr (f', t')).H.drop (g.pr (f', t')).conf).length := by rw [List.length_drop]; omega
          clear h3
          generalize (g.at_ f').u = u at *
          generalize ((g.pr (f', t')).H.drop (g.pr (f', t')).conf).length = n at *
          clear hI hl e1 e2 hS hR hrun0
          go_enter Try.func32, Try.ntmps32
          go_wp2_with fail
          refine KL.out.mono ?_
          rintro e w' ⟨rfl, rfl⟩
          go_wp2_with fail
          go_ret
          exact EPost.quiet H.out ⟨rfl, rfl⟩
        · have e1 : giveE g f' t' k = 0 := by simp [giveE, h1, h2, h3, hp]
          have e2 : giveM g f' t' k = (g.setA f' { g.at_ f' with u := (g.at_ f').u - k }).setP (f', t') { g.pr (f', t') with H := (g.pr (f', t')).H ++ [k] } := by simp only [giveM, e1, if_true]
          rw [e1, e2]
          exact give_ok ⟨s, hS⟩ hI hp k (by omega) (by omega) hl (by omega)
end Go.Proofs.Ytapabbpdfplpoaa
