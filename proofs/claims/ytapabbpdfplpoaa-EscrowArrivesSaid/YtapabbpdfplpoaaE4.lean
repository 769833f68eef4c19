/-
  Escrow: Spend, Return, Revoke.
-/
import Derived.Test.YtapabbpdfplpoaaE3
import Derived.Test.YtapabbpdfplpoaaGI
set_option linter.unusedSimpArgs false
set_option linter.unusedVariables false
namespace Go.Proofs.Ytapabbpdfplpoaa
open Go.RowKit Go.CH Go.CH.Esc
open Go.ChangeMaps (setBlock)

theorem Inv.bnd {g : GM} {U : Int} (h : Inv g U) {r : Int} (hr : g.is r = true) : (0 ≤ (g.at_ r).u ∧ (g.at_ r).u ≤ 1000000000) ∧ (0 ≤ (g.at_ r).s ∧ (g.at_ r).s ≤ 1000000000) := by
  have h1 := h.at_ hr
  have hm := at_mem hr
  have h2 : (g.at_ r).u ≤ haveG g := isum_mem_le (fun y hy => by obtain ⟨a, ha, rfl⟩ := List.mem_map.1 hy; exact (h.acc a ha).1) (List.mem_map_of_mem hm)
  have h3 : (g.at_ r).s ≤ spentG g := isum_mem_le (fun y hy => by obtain ⟨a, ha, rfl⟩ := List.mem_map.1 hy; exact (h.acc a ha).2) (List.mem_map_of_mem hm)
  have h4 : 0 ≤ haveG g := isum_nonneg (fun y hy => by obtain ⟨a, ha, rfl⟩ := List.mem_map.1 hy; exact (h.acc a ha).1)
  have h5 : 0 ≤ spentG g := isum_nonneg (fun y hy => by obtain ⟨a, ha, rfl⟩ := List.mem_map.1 hy; exact (h.acc a ha).2)
  have h6 : 0 ≤ flyG g := isum_nonneg (fun y hy => by
    obtain ⟨k, hk, rfl⟩ := List.mem_map.1 hy
    have hp : g.pair k.1 k.2 = true := pair_mem.2 hk
    exact fly_nonneg (h.pr k.1 k.2 hp))
  have := h.tot
  have := h.U
  omega
set_option maxHeartbeats 400000 in
theorem spend1 {w : World} {b k : Nat} {v : Bool} (hc : w.cell? ⟨b, k + 2, none⟩ = some (.bool v)) : Calls Try.prog 73 #[.pointer (some ⟨b, k, none⟩)] w (Quiet w (.int .i64 (if v then 22 else 0))) := by
  cases v with
  | true =>
    go_enter Try.func73, Try.ntmps73
    go_wp2_with fail
    go_ret
    exact ⟨rfl, rfl⟩
  | false =>
    go_enter Try.func73, Try.ntmps73
    go_wp2_with fail
    go_ret
    exact ⟨rfl, rfl⟩
set_option maxHeartbeats 400000 in
theorem ret1 {w : World} {b k : Nat} : Calls Try.prog 74 #[.pointer (some ⟨b, k, none⟩)] w (Quiet w (.int .i64 0)) := by
  go_enter Try.func74, Try.ntmps74
  go_wp2_with fail
  go_ret
  exact ⟨rfl, rfl⟩
theorem call73 : ∀ args W, (callFunc 73 args).run Try.prog W = .ok (.enter 73 args) W := fun args W => by kernel_rfl
theorem call74 : ∀ args W, (callFunc 74 args).run Try.prog W = .ok (.enter 74 args) W := fun args W => by kernel_rfl

/-- What change answers for Spend. -/
theorem change_spend {w : World} {F : Nat → Prop} {g : GM} {p : Nat} (h : EscO g p w F) {U : Int} (hI : Inv g U) (r k : Int) (hk : 1 ≤ k ∧ k ≤ 9223372036854775807) :
    Calls Try.prog 72 #[.pointer (some ⟨p, 0, none⟩), .int .i64 r, .int .i64 (-k), .func (.func 73) #[] #[]] w (EPost w F (.int .i64 (spendE g r k)) (spendM g r k) p) := by
  have hk1 : ¬ k < 1 := by omega
  cases hr : g.is r with
  | false =>
    have e1 : spendE g r k = 1 := by simp [spendE, hr]
    have e2 : spendM g r k = g := by simp [spendM, e1]
    rw [e1, e2]
    obtain ⟨s, hS⟩ := h
    have hat := at_any hS.read hI.nb r
    rw [atV_false hr] at hat
    exact (change_no hat _ _).mono (fun e w' hq => EPost.quiet ⟨s, hS⟩ hq)
  | true =>
    have hB := Inv.bnd hI hr
    obtain ⟨s, hS⟩ := h
    have hR := hS.read
    obtain ⟨b, hb⟩ := hR.addr (by have := hI.nb; omega)
    have hat := at_any hR hI.nb r
    rw [atV_true hb hr] at hat
    obtain ⟨cu, cs, cr⟩ := hR.accs b hb r hr
    cases hv : (g.at_ r).rev with
    | true =>
      have e1 : spendE g r k = 22 := by simp [spendE, hr, hv, hk1]
      have e2 : spendM g r k = g := by simp [spendM, e1]
      rw [e1, e2]
      rw [hv] at cr
      exact (change_may hat (-k) 22 (by omega) call73 (by simpa using spend1 cr)).mono (fun e w' hq => EPost.quiet ⟨s, hS⟩ hq)
    | false =>
      rw [hv] at cr
      have hm : Calls Try.prog 73 #[.pointer (some ⟨b, r.toNat * 3, none⟩)] w (Quiet w (.int .i64 0)) := by simpa using spend1 cr
      by_cases hq : (g.at_ r).u < k
      · have e1 : spendE g r k = 19 := by simp [spendE, hr, hv, hk1, hq]
        have e2 : spendM g r k = g := by simp [spendM, e1]
        rw [e1, e2]
        exact (change_quota hat (-k) _ _ call73 hm cu cs hB.1 hB.2 (by omega) (.inl (by omega))).mono (fun e w' hq => EPost.quiet ⟨s, hS⟩ hq)
      · have e1 : spendE g r k = 0 := by simp [spendE, hr, hv, hk1, hq]
        have e2 : spendM g r k = g.setA r { g.at_ r with u := (g.at_ r).u + -k, s := (g.at_ r).s - -k } := by
          simp only [spendM, e1, if_true]; congr 2 <;> omega
        rw [e1, e2]
        refine change_ok ⟨s, hS⟩ hI.nb hr (-k) call73 (fun b hb => ?_) hB.1 hB.2 (by omega) (by omega) (by omega)
        rw [hv] at hb
        simpa using spend1 hb
/-- What change answers for Return. -/
theorem change_ret {w : World} {F : Nat → Prop} {g : GM} {p : Nat} (h : EscO g p w F) {U : Int} (hI : Inv g U) (r k : Int) (hk : 1 ≤ k ∧ k ≤ 9223372036854775807) :
    Calls Try.prog 72 #[.pointer (some ⟨p, 0, none⟩), .int .i64 r, .int .i64 k, .func (.func 74) #[] #[]] w (EPost w F (.int .i64 (retE g r k)) (retM g r k) p) := by
  have hk1 : ¬ k < 1 := by omega
  cases hr : g.is r with
  | false =>
    have e1 : retE g r k = 1 := by simp [retE, hr]
    have e2 : retM g r k = g := by simp [retM, e1]
    rw [e1, e2]
    obtain ⟨s, hS⟩ := h
    have hat := at_any hS.read hI.nb r
    rw [atV_false hr] at hat
    exact (change_no hat _ _).mono (fun e w' hq => EPost.quiet ⟨s, hS⟩ hq)
  | true =>
    have hB := Inv.bnd hI hr
    obtain ⟨s, hS⟩ := h
    have hR := hS.read
    obtain ⟨b, hb⟩ := hR.addr (by have := hI.nb; omega)
    have hat := at_any hR hI.nb r
    rw [atV_true hb hr] at hat
    obtain ⟨cu, cs, cr⟩ := hR.accs b hb r hr
    by_cases hq : (g.at_ r).s < k
    · have e1 : retE g r k = 19 := by simp [retE, hr, hk1, hq]
      have e2 : retM g r k = g := by simp [retM, e1]
      rw [e1, e2]
      exact (change_quota hat k _ _ call74 ret1 cu cs hB.1 hB.2 (by omega) (.inr (by omega))).mono (fun e w' hq => EPost.quiet ⟨s, hS⟩ hq)
    · have e1 : retE g r k = 0 := by simp [retE, hr, hk1, hq]
      have e2 : retM g r k = g.setA r { g.at_ r with u := (g.at_ r).u + k, s := (g.at_ r).s - k } := by
        simp only [retM, e1, if_true]
      rw [e1, e2]
      exact change_ok ⟨s, hS⟩ hI.nb hr k call74 (fun b hb => ret1) hB.1 hB.2 (by omega) (by omega) (by omega)
set_option maxHeartbeats 400000 in
theorem spend_any {w : World} {F : Nat → Prop} {g : GM} {p : Nat} (h : EscO g p w F) {U : Int} (hI : Inv g U) (r k : Int) (hk : -9223372036854775808 ≤ k ∧ k ≤ 9223372036854775807) :
    Calls Try.prog 33 #[.pointer (some ⟨p, 0, none⟩), .int .i64 r, .int .i64 k] w (EPost w F (.int .i64 (spendE g r k)) (spendM g r k) p) := by
  by_cases hk1 : k < 1
  · have e1 : spendE g r k = 1 := by simp [spendE, hk1]
    have e2 : spendM g r k = g := by simp [spendM, e1]
    rw [e1, e2]
    have H := hide h
    clear h hI e1 e2
    go_enter Try.func33, Try.ntmps33
    go_wp2_with fail
    go_ret
    exact EPost.quiet H.out ⟨rfl, rfl⟩
  · have H := hide (change_spend h hI r k (by omega))
    have t1 : IntKind.i64.wrap (-k) = -k := IntWalk.i64_in _ (by omega)
    generalize spendE g r k = e at *
    generalize spendM g r k = g' at *
    clear h hI
    go_enter Try.func33, Try.ntmps33
    go_wp2_with fail
    refine H.out.mono ?_
    rintro e w' ⟨rfl, hP⟩
    go_wp2
    go_ret
    exact ⟨rfl, hP⟩
set_option maxHeartbeats 400000 in
theorem ret_any {w : World} {F : Nat → Prop} {g : GM} {p : Nat} (h : EscO g p w F) {U : Int} (hI : Inv g U) (r k : Int) (hk : -9223372036854775808 ≤ k ∧ k ≤ 9223372036854775807) :
    Calls Try.prog 35 #[.pointer (some ⟨p, 0, none⟩), .int .i64 r, .int .i64 k] w (EPost w F (.int .i64 (retE g r k)) (retM g r k) p) := by
  by_cases hk1 : k < 1
  · have e1 : retE g r k = 1 := by simp [retE, hk1]
    have e2 : retM g r k = g := by simp [retM, e1]
    rw [e1, e2]
    have H := hide h
    clear h hI e1 e2
    go_enter Try.func35, Try.ntmps35
    go_wp2_with fail
    go_ret
    exact EPost.quiet H.out ⟨rfl, rfl⟩
  · have H := hide (change_ret h hI r k (by omega))
    generalize retE g r k = e at *
    generalize retM g r k = g' at *
    clear h hI
    go_enter Try.func35, Try.ntmps35
    go_wp2_with fail
    refine H.out.mono ?_
    rintro e w' ⟨rfl, hP⟩
    go_wp2
    go_ret
    exact ⟨rfl, hP⟩
set_option maxHeartbeats 800000 in
theorem rev_any {w : World} {F : Nat → Prop} {g : GM} {p : Nat} (h : EscO g p w F) {U : Int} (hI : Inv g U) (r : Int) :
    Calls Try.prog 34 #[.pointer (some ⟨p, 0, none⟩), .int .i64 r] w (EPost w F (.int .i64 (revE g r)) (revM g r) p) := by
  cases hr : g.is r with
  | false =>
    have e1 : revE g r = 1 := by simp [revE, hr]
    have e2 : revM g r = g := by simp [revM, hr]
    rw [e1, e2]
    have H := hide h
    obtain ⟨s, hS⟩ := h
    have hat := at_any hS.read hI.nb r
    rw [atV_false hr] at hat
    have KA := hide hat
    clear hat hI e1 e2 hS
    go_enter Try.func34, Try.ntmps34
    go_wp2_with fail
    refine KA.out.mono ?_
    rintro e w' ⟨rfl, rfl⟩
    go_wp2
    go_ret
    exact EPost.quiet H.out ⟨rfl, rfl⟩
  | true =>
    have e1 : revE g r = 0 := by simp [revE, hr]
    have e2 : revM g r = g.setA r { g.at_ r with rev := true } := by simp [revM, hr]
    rw [e1, e2]
    obtain ⟨s, hS⟩ := h
    have hR := hS.read
    obtain ⟨b, hb⟩ := hR.addr (by have := hI.nb; omega)
    have hat := at_any hR hI.nb r
    rw [atV_true hb hr] at hat
    have KA := hide hat
    obtain ⟨_, _, cr⟩ := hR.accs b hb r hr
    obtain ⟨hrun, hz⟩ := esc_acc (Run.start hS) hr hb 2 (by omega) (.bool true) { g.at_ r with rev := true } rfl
    obtain ⟨F', q1, q2, q3⟩ := hrun.post escS_ok
    have HP := hide (show Post w F (EscO (g.setA r { g.at_ r with rev := true }) p) _ from ⟨F', ⟨_, q1⟩, q2, q3⟩)
    generalize (g.at_ r).rev = v at *
    generalize r.toNat * 3 = k at *
    clear hat hI e1 e2 hS hR hrun q1 q2 q3
    go_enter Try.func34, Try.ntmps34
    go_wp2_with fail
    refine KA.out.mono ?_
    rintro e w' ⟨rfl, rfl⟩
    go_wp2
    go_ret
    exact ⟨rfl, HP.out⟩
end Go.Proofs.Ytapabbpdfplpoaa
