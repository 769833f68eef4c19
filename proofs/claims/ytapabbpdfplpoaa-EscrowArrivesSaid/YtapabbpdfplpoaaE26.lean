/-
  Escrow: the state of a law's walk; empty; open.
-/
import Derived.Test.YtapabbpdfplpoaaE25
set_option linter.unusedSimpArgs false
set_option linter.unusedVariables false
namespace Go.Proofs.Ytapabbpdfplpoaa
open Go.RowKit Go.CH Go.CH.Esc
open Go.ChangeMaps (setBlock)

/-- The state of a walk that began in w0 and owns X besides the escrow g at p. -/
structure St (U : Int) (n : Nat) (w0 : World) (X : Own) (p : Nat) (g : GM) (W : World) : Prop where
  run : Run (fun _ => False) w0 (star (EscO g p) X) W
  inv : Inv g U
  hb : HB g n
  xo : X.Ok
def StRet (U : Int) (n : Nat) (w0 : World) (X : Own) (p : Nat) (g : GM) (v : Value) (e : Ending) (W : World) : Prop := e = .returned v ∧ St U n w0 X p g W
section
variable {U : Int} {n : Nat} {w0 : World} {X : Own} {p : Nat} {g : GM} {W : World}
theorem St.below (h : St U n w0 X p g W) {W' : World} (hb : Below W.heap.size W W') : St U n w0 X p g W' := ⟨h.run.below (star_ok escO_ok h.xo) hb, h.inv, h.hb, h.xo⟩
theorem St.drew (h : St U n w0 X p g W) : St U n w0 X p g W.drew := h.below (below_drew (Below.refl _ _))
theorem St.bel (h : St U n w0 X p g W) : Below w0.heap.size w0 W := h.run.bel
theorem St.up (h : St U n w0 X p g W) {m : Nat} (hm : n ≤ m) : St U m w0 X p g W := ⟨h.run, h.inv, h.hb.mono hm, h.xo⟩
theorem St.call (h : St U n w0 X p g W) {f : FuncId} {args : Array Value} {v : Value} {g' : GM} {n' : Nat} (hc : ∀ F, EscO g p W F → Calls Try.prog f args W (EPost W F v g' p)) (hi : Inv g' U) (hb : HB g' n') :
    Calls Try.prog f args W (StRet U n' w0 X p g' v) := by
  obtain ⟨F, hA, -, bk⟩ := h.run.take escO_ok h.xo
  refine (hc F hA).mono fun e W' hp => ?_
  obtain ⟨he, hp⟩ := hp
  exact ⟨he, bk _ _ hp, hi, hb, h.xo⟩
theorem St.quiet (h : St U n w0 X p g W) {f : FuncId} {args : Array Value} {v : Value} (hc : ∀ F, EscO g p W F → Calls Try.prog f args W (Quiet W v)) : Calls Try.prog f args W (StRet U n w0 X p g v) := by
  obtain ⟨F, hA, -, bk⟩ := h.run.take escO_ok h.xo
  refine (hc F hA).mono fun e W' hp => ?_
  obtain ⟨he, rfl⟩ := hp
  exact ⟨he, h⟩
theorem St.bret (h : St U n w0 X p g W) {f : FuncId} {args : Array Value} {v : Value} (hc : ∀ F, EscO g p W F → Calls Try.prog f args W (BelowRet W v)) : Calls Try.prog f args W (StRet U n w0 X p g v) := by
  obtain ⟨F, hA, -, bk⟩ := h.run.take escO_ok h.xo
  refine (hc F hA).mono fun e W' hp => ?_
  obtain ⟨he, hb⟩ := hp
  exact ⟨he, h.below hb⟩
theorem st_spend (h : St U n w0 X p g W) (r k : Int) (hk : -9223372036854775808 ≤ k ∧ k ≤ 9223372036854775807) : Calls Try.prog 33 #[.pointer (some ⟨p, 0, none⟩), .int .i64 r, .int .i64 k] W (StRet U n w0 X p (spendM g r k) (.int .i64 (spendE g r k))) :=
  h.call (fun F hA => spend_any hA h.inv r k hk) (h.inv.spend r k) (h.hb.spend r k)
theorem st_ret (h : St U n w0 X p g W) (r k : Int) (hk : -9223372036854775808 ≤ k ∧ k ≤ 9223372036854775807) : Calls Try.prog 35 #[.pointer (some ⟨p, 0, none⟩), .int .i64 r, .int .i64 k] W (StRet U n w0 X p (retM g r k) (.int .i64 (retE g r k))) :=
  h.call (fun F hA => ret_any hA h.inv r k hk) (h.inv.ret r k) (h.hb.ret r k)
theorem st_give (h : St U n w0 X p g W) (hn : n ≤ 1000000) (f t k : Int) : Calls Try.prog 32 #[.pointer (some ⟨p, 0, none⟩), .int .i64 f, .int .i64 t, .int .i64 k] W (StRet U (n + 1) w0 X p (giveM g f t k) (.int .i64 (giveE g f t k))) :=
  h.call (fun F hA => give_any hA h.inv f t k (Nat.le_trans (h.hb _) hn)) (h.inv.give f t k) (h.hb.give f t k)
theorem st_send (h : St U n w0 X p g W) (hn : n ≤ 1000000) (f t : Int) : Calls Try.prog 31 #[.pointer (some ⟨p, 0, none⟩), .int .i64 f, .int .i64 t] W (StRet U n w0 X p (sendM g f t) (.int .i64 (sendE g f t))) :=
  h.call (fun F hA => send_any hA h.inv f t (Nat.le_trans (h.hb _) hn)) (h.inv.send f t) (h.hb.send f t)
theorem st_del (h : St U n w0 X p g W) (hn : n ≤ 1000000) (f t : Int) (lost again : Bool) : Calls Try.prog 29 #[.pointer (some ⟨p, 0, none⟩), .int .i64 f, .int .i64 t, .bool lost, .bool again] W (StRet U n w0 X p (delM g f t lost again) (.bool (delE g f t))) :=
  h.call (fun F hA => del_any_ hA h.inv (h.hb.mono hn) f t lost again) (h.inv.del f t lost again) (h.hb.del f t lost again)
theorem st_rev (h : St U n w0 X p g W) (r : Int) : Calls Try.prog 34 #[.pointer (some ⟨p, 0, none⟩), .int .i64 r] W (StRet U n w0 X p (revM g r) (.int .i64 (revE g r))) :=
  h.call (fun F hA => rev_any hA h.inv r) (h.inv.revoke r) (h.hb.revoke r)
theorem st_have (h : St U n w0 X p g W) (r : Int) : Calls Try.prog 26 #[.pointer (some ⟨p, 0, none⟩), .int .i64 r] W (StRet U n w0 X p g (.int .i64 (have_ g r))) :=
  h.quiet (fun F hA => have_esc hA h.inv r)
theorem st_spent (h : St U n w0 X p g W) : Calls Try.prog 22 #[.pointer (some ⟨p, 0, none⟩)] W (StRet U n w0 X p g (.int .i64 (spentG g))) :=
  h.bret (fun F hA => spent_any hA h.inv)
theorem st_fly (h : St U n w0 X p g W) (hn : n ≤ 1000000) : Calls Try.prog 24 #[.pointer (some ⟨p, 0, none⟩)] W (StRet U n w0 X p g (.int .i64 (flyG g))) :=
  h.bret (fun F hA => fly_any hA h.inv (h.hb.mono hn))
theorem st_do (h : St U n w0 X p g W) (hn : n ≤ 1000000) (x : ActG) (hu : -9223372036854775808 ≤ x.u ∧ x.u ≤ 9223372036854775807) : Calls Try.prog 20 #[.pointer (some ⟨p, 0, none⟩), .agg (actV x)] W (StRet U (n + 1) w0 X p (doM g x) (.tuple #[.int .i64 (doE g x), .bool (doB g x)])) :=
  h.call (fun F hA => do_any hA h.inv (h.hb.mono hn) x hu) (h.inv.do x) (h.hb.do x)
end
/-- A new escrow, in a walk that owns X. -/
theorem st_new {w0 W : World} {X : Own} (hX : X.Ok) (h : Run (fun _ => False) w0 X W) (r : Nat) (u : Int) (h1 : 1 ≤ r) (h2 : r ≤ 8) (h3 : 0 ≤ u) (h4 : u ≤ 1000000000) :
    Calls Try.prog 18 #[.int .i64 r, .int .i64 u] W (fun e W' => ∃ p, e = .returned (.tuple #[.pointer (some ⟨p, 0, none⟩), .int .i64 0]) ∧ St u 0 w0 X p (newG r u) W') := by
  refine (new_ok r u W h1 h2 h3 h4).mono fun e W' hp => ?_
  obtain ⟨p, he, hp⟩ := hp
  exact ⟨p, he, h.fresh hX hp, Inv.new h1 h2 h3 h4, HB.new r u, hX⟩
/-- How many deliveries empty a queue. -/
def emptyN (g : GM) (f t : Int) : Nat := if g.pair f t = true then (g.pr (f, t)).ms.length else 0
theorem emptyM_eq (g : GM) (f t : Int) : emptyM g f t = delN f t (emptyN g f t) g := by
  unfold emptyM emptyN
  split <;> rfl
theorem emptyN_le {g : GM} {U : Int} (h : Inv g U) (f t : Int) : emptyN g f t ≤ 100 := by
  unfold emptyN
  split
  · rename_i hp; exact (h.pr f t hp).msl
  · omega
theorem emptyN_del (g : GM) (f t : Int) (j : Nat) (hj : j ≤ emptyN g f t) : delE (delN f t j g) f t = decide (j < emptyN g f t) := by
  unfold emptyN at *
  by_cases hp : g.pair f t = true
  · rw [if_pos hp] at hj ⊢
    obtain ⟨D, h2, -⟩ := delN_all f t _ g hp rfl j hj
    unfold delE
    rw [D.pair, hp, h2, Bool.true_and]
    by_cases hlt : j < (g.pr (f, t)).ms.length
    · rw [decide_eq_true hlt]
      cases hd : (g.pr (f, t)).ms.drop j with
      | nil => have := congrArg List.length hd; simp at this; omega
      | cons a l => rfl
    · rw [decide_eq_false hlt, List.drop_eq_nil_of_le (by omega)]; rfl
  · rw [if_neg hp] at hj ⊢
    obtain rfl : j = 0 := by omega
    unfold delN delE
    simp [hp]
set_option maxHeartbeats 1600000 in
theorem st_empty {U : Int} {n : Nat} {w0 : World} {X : Own} {p : Nat} {g : GM} {W : World} (h : St U n w0 X p g W) (hn : n ≤ 1000000) (f t : Int) : Calls Try.prog 30 #[.pointer (some ⟨p, 0, none⟩), .int .i64 f, .int .i64 t] W (StRet U n w0 X p (emptyM g f t) (.bool true)) := by
  have hle := emptyN_le h.inv f t
  have H := hide h
  rw [emptyM_eq]
  have HD := hide (fun j hj => emptyN_del g f t j hj)
  generalize emptyN g f t = N at *
  clear h
  go_enter Try.func30, Try.ntmps30
  go_wp2_with fail
  go_loopw [7] (fun i wr => ∃ j : Nat, j ≤ N ∧ i = .int .i64 j ∧ St U n w0 X p (delN f t j g) wr) (fun i _ => 101 - (intOf i).toNat)
  case atStart => exact ⟨0, Nat.zero_le _, rfl, H.out⟩
  case round =>
    obtain ⟨j, hj, rfl, hS⟩ := hrel
    have hd := HD.out j hj
    have KD := hide (st_del hS hn f t false false)
    rw [hd, ← delN_succ] at KD
    clear hS hd H
    have hj1 : (j : Int) ≤ 100 := by omega
    by_cases hlt : j < N
    · rw [decide_eq_true hlt] at KD
      go_wp2_with fail
      refine KD.out.mono ?_
      rintro e w' ⟨rfl, hS⟩
      have HS := hide hS
      clear hS
      go_wp2_with fail
      go_roundw
      case rel => exact ⟨j + 1, by omega, by go_num, HS.out⟩
      case measure => simp [intOf]; omega
    · rw [decide_eq_false hlt] at KD
      obtain rfl : j = N := by omega
      have hE : delE (delN f t j g) f t = false := by rw [HD.out j (Nat.le_refl _)]; simp
      have HE := hide (show delN f t (j + 1) g = delN f t j g by rw [delN_succ]; unfold delM; rw [if_neg (by simp [hE])])
      clear hE
      go_wp2_with fail
      refine KD.out.mono ?_
      rintro e w' ⟨rfl, hS⟩
      rw [HE.out] at hS
      have HS := hide hS
      clear hS
      go_wp2_with fail
      go_ret
      exact ⟨rfl, HS.out⟩
end Go.Proofs.Ytapabbpdfplpoaa
