/-
  Escrow: the plain laws: deliveries to an empty queue, once and again, what arrives, what is confirmed, what is revoked.
  Escrow: both lines of a pair out of the escrow, and back with what a delivery has written; slices.Clone of a part.
  Escrow: what a delivery owns while it goes on.
  Escrow: Deliver of a message that is not lost.
-/
import Derived.Test.YtapabbpdfplpoaaMT3
import Derived.Test.YtapabbpdfplpoaaMT6
import Derived.Test.YtapabbpdfplpoaaMT4
set_option linter.unusedSimpArgs false
set_option linter.unusedVariables false
namespace Go.CH.Esc

theorem pr_setP (g : GM) (k : Int × Int) (p : PrG) (x : Int × Int) : (g.setP k p).pr x = if x = k then p else g.pr x := rfl
theorem recv_pr {g : GM} {f t : Int} (hne : f ≠ t) (m : MsgG) (x : Int × Int) : (recvM g f t m).pr x = if x = (t, f) then { g.pr (t, f) with conf := max (g.pr (t, f)).conf m.rc } else if x = (f, t) then { g.pr (f, t) with rc := max (g.pr (f, t)).rc m.up } else g.pr x := by
  have hk' : (t, f) ≠ (f, t) := fun e => by rw [Prod.mk.injEq] at e; exact hne e.2
  unfold recvM
  simp only [setA_pr, pr_setP, hk', if_false]
theorem recv_len (g : GM) (f t : Int) (m : MsgG) : (recvM g f t m).acc.length = g.acc.length := by unfold recvM; simp only [GM.setP, GM.setA, List.length_set]
theorem recv_is (g : GM) (f t : Int) (m : MsgG) (x : Int) : (recvM g f t m).is x = g.is x := by unfold GM.is; rw [recv_len]
theorem recv_pair (g : GM) (f t : Int) (m : MsgG) (x y : Int) : (recvM g f t m).pair x y = g.pair x y := by unfold GM.pair; rw [recv_is, recv_is]
theorem recv_at {g : GM} {f t : Int} (ht : g.is t = true) (m : MsgG) (x : Int) (hx : g.is x = true) :
    (recvM g f t m).at_ x = if x = t then { g.at_ t with u := (g.at_ t).u + isum (((g.pr (f, t)).H.take m.up).drop (g.pr (f, t)).rc), rev := (g.at_ t).rev || m.rev } else g.at_ x := by
  unfold recvM
  simp only []
  exact setA_at (g := (g.setP (f, t) _).setP (t, f) _) ht _ x hx
theorem pop_pr' (g : GM) (f t : Int) (again : Bool) (x : Int × Int) : (popM g f t again).pr x = if x = (f, t) then { g.pr (f, t) with ms := (g.pr (f, t)).ms.tail ++ if again then [(g.pr (f, t)).ms.headD default] else [] } else g.pr x := rfl
theorem pop_pair (g : GM) (f t : Int) (again : Bool) (x y : Int) : (popM g f t again).pair x y = g.pair x y := rfl
theorem pop_is (g : GM) (f t : Int) (again : Bool) (x : Int) : (popM g f t again).is x = g.is x := rfl
theorem pop_at (g : GM) (f t : Int) (again : Bool) (x : Int) : (popM g f t again).at_ x = g.at_ x := rfl
theorem pop_len (g : GM) (f t : Int) (again : Bool) : (popM g f t again).acc.length = g.acc.length := rfl

/-- A delivery that is not lost. -/
theorem del_eq {g : GM} {f t : Int} (hd : delE g f t = true) (again : Bool) : delM g f t false again = recvM (popM g f t again) f t ((g.pr (f, t)).ms.headD default) := by
  unfold delM; rw [if_pos hd]; rfl
theorem del_ne {g : GM} {f t : Int} (hd : delE g f t = true) : f ≠ t := (pair_is (delE_pair hd).1).2.2
theorem swap_ne {f t : Int} (h : f ≠ t) : (t, f) ≠ (f, t) := fun e => by rw [Prod.mk.injEq] at e; exact h e.2
theorem del_pr {g : GM} {f t : Int} (hd : delE g f t = true) (again : Bool) (x : Int × Int) :
    (delM g f t false again).pr x = if x = (t, f) then { g.pr (t, f) with conf := max (g.pr (t, f)).conf ((g.pr (f, t)).ms.headD default).rc }
      else if x = (f, t) then { g.pr (f, t) with rc := max (g.pr (f, t)).rc ((g.pr (f, t)).ms.headD default).up, ms := (g.pr (f, t)).ms.tail ++ if again then [(g.pr (f, t)).ms.headD default] else [] } else g.pr x := by
  have hne := del_ne hd
  rw [del_eq hd, recv_pr hne]
  simp only [pop_pr', swap_ne hne, if_false, if_true]
  split
  · rfl
  · split
    · rfl
    · rfl
theorem del_at {g : GM} {f t : Int} (hd : delE g f t = true) (again : Bool) (x : Int) (hx : g.is x = true) :
    (delM g f t false again).at_ x = if x = t then { g.at_ t with u := (g.at_ t).u + isum (((g.pr (f, t)).H.take ((g.pr (f, t)).ms.headD default).up).drop (g.pr (f, t)).rc), rev := (g.at_ t).rev || ((g.pr (f, t)).ms.headD default).rev } else g.at_ x := by
  rw [del_eq hd, recv_at (by rw [pop_is]; exact (pair_is (delE_pair hd).1).2.1) _ x (by rw [pop_is]; exact hx)]
  simp only [pop_at, pop_pr', if_true]
theorem del_len (g : GM) (f t : Int) (lost again : Bool) : (delM g f t lost again).acc.length = g.acc.length := by
  unfold delM
  split
  · simp only []
    split
    · rfl
    · rw [recv_len]; rfl
  · rfl
theorem del_is (g : GM) (f t : Int) (lost again : Bool) (x : Int) : (delM g f t lost again).is x = g.is x := by unfold GM.is; rw [del_len]
theorem del_pair (g : GM) (f t : Int) (lost again : Bool) (x y : Int) : (delM g f t lost again).pair x y = g.pair x y := by unfold GM.pair; rw [del_is, del_is]
theorem delE_iff {g : GM} {f t : Int} : delE g f t = true ↔ g.pair f t = true ∧ (g.pr (f, t)).ms ≠ [] := by
  unfold delE
  cases h : (g.pr (f, t)).ms <;> simp

/-! ### Once and again -/
/-- The last j messages that wait have nothing new. -/
def Cov (g : GM) (f t : Int) (j : Nat) : Prop := delE g f t = true ∧ ∀ m ∈ (g.pr (f, t)).ms.drop ((g.pr (f, t)).ms.length - j), m.up ≤ (g.pr (f, t)).rc
theorem cov_step {g : GM} {f t : Int} {j : Nat} (h : Cov g f t j) : Cov (delM g f t false true) f t (j + 1) ∧ ((delM g f t false true).pr (f, t)).ms.length = (g.pr (f, t)).ms.length := by
  obtain ⟨hd, hm⟩ := h
  have hne := del_ne hd
  obtain ⟨hp, m, l, hml⟩ := delE_pair hd
  have e1 : ((delM g f t false true).pr (f, t)) = { g.pr (f, t) with rc := max (g.pr (f, t)).rc m.up, ms := l ++ [m] } := by
    rw [del_pr hd, if_neg (fun e => swap_ne hne e.symm), if_pos rfl, hml]; rfl
  refine ⟨⟨?_, fun x hx => ?_⟩, by rw [e1, hml]; simp⟩
  · rw [delE_iff, del_pair, e1]; exact ⟨hp, by simp⟩
  · rw [e1] at hx ⊢
    simp only [List.length_append, List.length_singleton] at hx ⊢
    rw [hml] at hm
    simp only [List.length_cons] at hm
    by_cases hj : j ≤ l.length
    · rw [show l.length + 1 - (j + 1) = l.length - j by omega, List.drop_append_of_le_length (by omega)] at hx
      rw [show l.length + 1 - j = (l.length - j) + 1 by omega, List.drop_succ_cons] at hm
      rcases List.mem_append.1 hx with hx | hx
      · have := hm x hx; omega
      · simp only [List.mem_singleton] at hx; subst hx; omega
    · rw [show l.length + 1 - j = 0 by omega, List.drop_zero] at hm
      have hx' : x ∈ l ++ [m] := List.mem_of_mem_drop hx
      have : x ∈ m :: l := by simp at hx' ⊢; exact hx'.symm
      have := hm x this; omega
theorem cov_start {g : GM} {f t : Int} (hd : delE g f t = true) : Cov g f t 0 := ⟨hd, by simp⟩
theorem fly_eq {p q : PrG} (h : p.H = q.H) (h2 : p.rc = q.rc) : fly p = fly q := by unfold fly; rw [h, h2]
/-- When nothing new waits, a delivery changes nothing that is seen. -/
theorem cov_still {g : GM} {f t : Int} {j : Nat} (h : Cov g f t j) (hj : (g.pr (f, t)).ms.length ≤ j) : have_ (delM g f t false true) t = have_ g t ∧ flyG (delM g f t false true) = flyG g := by
  obtain ⟨hd, hm⟩ := h
  have hne := del_ne hd
  obtain ⟨hp, m, l, hml⟩ := delE_pair hd
  have ht := (pair_is hp).2.1
  rw [show (g.pr (f, t)).ms.length - j = 0 by omega, List.drop_zero] at hm
  have hup : m.up ≤ (g.pr (f, t)).rc := hm m (by rw [hml]; simp)
  have hhd : (g.pr (f, t)).ms.headD default = m := by rw [hml]; rfl
  constructor
  · unfold have_
    rw [del_is, ht, if_pos rfl, if_pos rfl, del_at hd true t ht, if_pos rfl, hhd]
    simp only []
    rw [List.drop_eq_nil_of_le (by rw [List.length_take]; omega)]
    simp [isum]
  · unfold flyG
    rw [del_len]
    congr 1
    refine List.map_congr_left fun x _ => ?_
    rw [del_pr hd true x, hhd]
    split
    · rename_i e; subst e; exact fly_eq rfl rfl
    · split
      · rename_i e; subst e; exact fly_eq rfl (by simp only []; omega)
      · rfl

/-! ### A queue is emptied -/
def delN (f t : Int) : Nat → GM → GM
  | 0, g => g
  | n + 1, g => delN f t n (delM g f t false false)
def emptyM (g : GM) (f t : Int) : GM := if g.pair f t = true then delN f t (g.pr (f, t)).ms.length g else g
theorem delN_succ (f t : Int) : ∀ (n : Nat) (g : GM), delN f t (n + 1) g = delM (delN f t n g) f t false false
  | 0, g => rfl
  | n + 1, g => by rw [delN, delN_succ f t n]; rfl
/-- What the deliveries of some messages leave. -/
structure Dlv (g : GM) (f t : Int) (g' : GM) : Prop where
  len : g'.acc.length = g.acc.length
  at_ : ∀ x, g.is x = true → x ≠ t → g'.at_ x = g.at_ x
  s : g.is t = true → (g'.at_ t).s = (g.at_ t).s
  rev : g.is t = true → (g.at_ t).rev = true → (g'.at_ t).rev = true
  oth : ∀ k, k ≠ (f, t) → k ≠ (t, f) → g'.pr k = g.pr k
  H : ∀ k, (g'.pr k).H = (g.pr k).H
  ms : ∀ k, k ≠ (f, t) → (g'.pr k).ms = (g.pr k).ms
  rcb : ∀ k, k ≠ (f, t) → (g'.pr k).rc = (g.pr k).rc
  rc : (g.pr (f, t)).rc ≤ (g'.pr (f, t)).rc
  cf : ∀ k, k ≠ (t, f) → (g'.pr k).conf = (g.pr k).conf
  cfb : (g.pr (t, f)).conf ≤ (g'.pr (t, f)).conf
theorem Dlv.refl (g : GM) (f t : Int) : Dlv g f t g := ⟨rfl, fun _ _ _ => rfl, fun _ => rfl, fun _ h => h, fun _ _ _ => rfl, fun _ => rfl, fun _ _ => rfl, fun _ _ => rfl, Nat.le_refl _, fun _ _ => rfl, Nat.le_refl _⟩
theorem Dlv.is {g g' : GM} {f t : Int} (h : Dlv g f t g') (x : Int) : g'.is x = g.is x := by unfold GM.is; rw [h.len]
theorem Dlv.pair {g g' : GM} {f t : Int} (h : Dlv g f t g') (x y : Int) : g'.pair x y = g.pair x y := by unfold GM.pair; rw [h.is, h.is]
theorem Dlv.trans {g g' g'' : GM} {f t : Int} (h : Dlv g f t g') (k : Dlv g' f t g'') : Dlv g f t g'' :=
  ⟨k.len.trans h.len, fun x hx hne => (k.at_ x (by rw [h.is]; exact hx) hne).trans (h.at_ x hx hne), fun ht => (k.s (by rw [h.is]; exact ht)).trans (h.s ht), fun ht hr => k.rev (by rw [h.is]; exact ht) (h.rev ht hr),
   fun x h1 h2 => (k.oth x h1 h2).trans (h.oth x h1 h2), fun x => (k.H x).trans (h.H x), fun x h1 => (k.ms x h1).trans (h.ms x h1), fun x h1 => (k.rcb x h1).trans (h.rcb x h1), Nat.le_trans h.rc k.rc, fun x h1 => (k.cf x h1).trans (h.cf x h1), Nat.le_trans h.cfb k.cfb⟩
theorem dlv_one {g : GM} {f t : Int} (hd : delE g f t = true) : Dlv g f t (delM g f t false false) := by
  have hne := del_ne hd
  have hs := swap_ne hne
  have ht := (pair_is (delE_pair hd).1).2.1
  refine ⟨del_len _ _ _ _ _, fun x hx hxt => ?_, fun _ => ?_, fun _ hr => ?_, fun k h1 h2 => ?_, fun k => ?_, fun k h1 => ?_, fun k h1 => ?_, ?_, fun k h1 => ?_, ?_⟩
  · rw [del_at hd _ x hx, if_neg hxt]
  · rw [del_at hd _ t ht, if_pos rfl]
  · rw [del_at hd _ t ht, if_pos rfl]; simp [hr]
  · rw [del_pr hd, if_neg h2, if_neg h1]
  · rw [del_pr hd]; split
    · rename_i e; subst e; rfl
    · split
      · rename_i e; subst e; rfl
      · rfl
  · rw [del_pr hd]; split
    · rename_i e; subst e; rfl
    · rfl
  · rw [del_pr hd]; split
    · rename_i e; subst e; rfl
    · first | rfl | (rw [if_neg h1])
  · rw [del_pr hd, if_neg hs.symm, if_pos rfl]; simp only []; omega
  · rw [del_pr hd, if_neg h1]; split
    · rename_i e; subst e; rfl
    · rfl
  · rw [del_pr hd, if_pos rfl]; simp only []; omega
theorem delN_all (f t : Int) : ∀ (n : Nat) (g : GM), g.pair f t = true → (g.pr (f, t)).ms.length = n → ∀ j, j ≤ n → Dlv g f t (delN f t j g) ∧ ((delN f t j g).pr (f, t)).ms = (g.pr (f, t)).ms.drop j ∧
    (∀ m ∈ (g.pr (f, t)).ms.take j, m.up ≤ ((delN f t j g).pr (f, t)).rc ∧ m.rc ≤ ((delN f t j g).pr (t, f)).conf ∧ (m.rev = true → ((delN f t j g).at_ t).rev = true)) := by
  intro n
  induction n with
  | zero =>
    intro g hp hn j hj
    obtain rfl : j = 0 := by omega
    exact ⟨Dlv.refl _ _ _, by simp [delN], by simp⟩
  | succ n ih =>
    intro g hp hn j hj
    have hd : delE g f t = true := delE_iff.2 ⟨hp, fun e => by rw [e] at hn; simp at hn⟩
    obtain ⟨-, m, l, hml⟩ := delE_pair hd
    have hne := del_ne hd
    have ht := (pair_is hp).2.1
    cases j with
    | zero => exact ⟨Dlv.refl _ _ _, by simp [delN], by simp⟩
    | succ j =>
      have D1 := dlv_one hd
      have e1 : ((delM g f t false false).pr (f, t)) = { g.pr (f, t) with rc := max (g.pr (f, t)).rc m.up, ms := l } := by
        rw [del_pr hd, if_neg (fun e => swap_ne hne e.symm), if_pos rfl, hml]; simp
      have e2 : ((delM g f t false false).pr (t, f)) = { g.pr (t, f) with conf := max (g.pr (t, f)).conf m.rc } := by
        rw [del_pr hd, if_pos rfl, hml]; rfl
      have e3 : m.rev = true → ((delM g f t false false).at_ t).rev = true := fun hr => by
        rw [del_at hd _ t ht, if_pos rfl, hml]; simp [hr]
      obtain ⟨D2, h2, h3⟩ := ih (delM g f t false false) (by rw [D1.pair]; exact hp) (by rw [e1]; rw [hml] at hn; simpa using hn) j (by omega)
      rw [delN]
      refine ⟨D1.trans D2, by rw [h2, e1, hml]; rfl, fun x hx => ?_⟩
      rw [hml, List.take_succ_cons, List.mem_cons] at hx
      rcases hx with rfl | hx
      · have q1 := D2.rc
        have q2 := D2.cfb
        rw [e1] at q1
        rw [e2] at q2
        simp only [] at q1 q2
        exact ⟨by omega, by omega, fun hr => D2.rev (by rw [D1.is]; exact ht) (e3 hr)⟩
      · exact h3 x (by rw [e1]; exact hx)
theorem empty_all {g : GM} {f t : Int} (hp : g.pair f t = true) : Dlv g f t (emptyM g f t) ∧ ((emptyM g f t).pr (f, t)).ms = [] ∧
    (∀ m ∈ (g.pr (f, t)).ms, m.up ≤ ((emptyM g f t).pr (f, t)).rc ∧ m.rc ≤ ((emptyM g f t).pr (t, f)).conf ∧ (m.rev = true → ((emptyM g f t).at_ t).rev = true)) := by
  obtain ⟨h1, h2, h3⟩ := delN_all f t _ g hp rfl _ (Nat.le_refl _)
  unfold emptyM
  rw [if_pos hp]
  refine ⟨h1, by rw [h2]; simp, fun m hm => h3 m (by simpa using hm)⟩
theorem Inv.delN {g : GM} {U : Int} (h : Inv g U) (f t : Int) (n : Nat) : Inv (Esc.delN f t n g) U := by
  induction n generalizing g with
  | zero => exact h
  | succ n ih => exact ih (h.del f t false false)
theorem HB.delN {g : GM} {b : Nat} (h : HB g b) (f t : Int) (n : Nat) : HB (Esc.delN f t n g) b := by
  induction n generalizing g with
  | zero => exact h
  | succ n ih => exact ih (h.del f t false false)
theorem Inv.empty {g : GM} {U : Int} (h : Inv g U) (f t : Int) : Inv (emptyM g f t) U := by unfold emptyM; split; exact h.delN _ _ _; exact h
theorem HB.empty {g : GM} {b : Nat} (h : HB g b) (f t : Int) : HB (emptyM g f t) b := by unfold emptyM; split; exact h.delN _ _ _; exact h
theorem empty_dlv (g : GM) (f t : Int) : Dlv g f t (emptyM g f t) := by
  by_cases hp : g.pair f t = true
  · exact (empty_all hp).1
  · unfold emptyM; rw [if_neg hp]; exact Dlv.refl _ _ _

/-! ### A message is sent and delivered -/
theorem send_eq {g : GM} {f t : Int} (h : sendE g f t = 0) : sendM g f t = g.setP (f, t) { g.pr (f, t) with ms := (g.pr (f, t)).ms ++ [⟨(g.pr (f, t)).conf, (g.pr (f, t)).H.length, (g.pr (t, f)).rc, (g.at_ f).rev⟩] } := by unfold sendM; rw [if_pos h]
theorem sendE_ok {g : GM} {f t : Int} (hp : g.pair f t = true) (h : (g.pr (f, t)).ms.length < 100) : sendE g f t = 0 := by unfold sendE; rw [if_neg (by simp [hp]), if_neg (by omega)]
/-- A queue that is emptied, a message sent, and the queue emptied again. -/
def tellM (g : GM) (f t : Int) : GM := emptyM (sendM g f t) f t
structure Told (g : GM) (f t : Int) (g' : GM) : Prop where
  dl : Dlv g f t g'
  ms : (g'.pr (f, t)).ms = []
  all : (g'.pr (f, t)).rc = (g'.pr (f, t)).H.length
  cf : (g.pr (t, f)).conf ≤ (g'.pr (t, f)).conf ∧ (g.pr (t, f)).rc ≤ (g.pr (t, f)).rc
  con : (g.pr (f, t)).rc ≤ (g'.pr (f, t)).rc
  back : (g'.pr (t, f)).rc ≤ (g'.pr (t, f)).conf
  rv : (g.at_ f).rev = true → (g'.at_ t).rev = true
theorem send_dlv {g : GM} {f t : Int} (h : sendE g f t = 0) : (sendM g f t).acc.length = g.acc.length ∧ (∀ x, (sendM g f t).at_ x = g.at_ x) ∧ (∀ k, k ≠ (f, t) → (sendM g f t).pr k = g.pr k) ∧ ((sendM g f t).pr (f, t)).H = (g.pr (f, t)).H ∧ ((sendM g f t).pr (f, t)).rc = (g.pr (f, t)).rc ∧ ((sendM g f t).pr (f, t)).conf = (g.pr (f, t)).conf ∧
    ((sendM g f t).pr (f, t)).ms = (g.pr (f, t)).ms ++ [⟨(g.pr (f, t)).conf, (g.pr (f, t)).H.length, (g.pr (t, f)).rc, (g.at_ f).rev⟩] := by
  rw [send_eq h]
  refine ⟨rfl, fun _ => rfl, fun k hk => by rw [pr_setP, if_neg hk], ?_, ?_, ?_, ?_⟩ <;> rw [pr_setP, if_pos rfl]
theorem send_pair (g : GM) (f t x y : Int) : (sendM g f t).pair x y = g.pair x y := by unfold sendM; split <;> rfl
theorem told {g : GM} {U : Int} (hI : Inv g U) {f t : Int} (hp : g.pair f t = true) (hE : sendE g f t = 0) : Told g f t (tellM g f t) := by
  obtain ⟨s1, s2, s3, s4, s5, s6, s7⟩ := send_dlv hE
  have hp' : (sendM g f t).pair f t = true := by rw [send_pair]; exact hp
  obtain ⟨D, e1, e2⟩ := empty_all hp'
  have hI' : Inv (tellM g f t) U := (hI.send f t).empty f t
  have hpt : (tellM g f t).pair f t = true := by unfold tellM; rw [D.pair]; exact hp'
  have hne := (pair_is hp).2.2
  have hk := hI'.pr f t hpt
  have q := e2 ⟨(g.pr (f, t)).conf, (g.pr (f, t)).H.length, (g.pr (t, f)).rc, (g.at_ f).rev⟩ (by rw [s7]; simp)
  have his : ∀ x, (sendM g f t).is x = g.is x := fun x => by unfold GM.is; rw [s1]
  have hb : ((tellM g f t).pr (t, f)).rc = (g.pr (t, f)).rc := by unfold tellM; rw [D.rcb _ (swap_ne hne), s3 _ (swap_ne hne)]
  refine ⟨⟨D.len.trans s1, fun x hx hxt => (D.at_ x (by rw [his]; exact hx) hxt).trans (s2 x), fun ht => by rw [show (tellM g f t) = emptyM (sendM g f t) f t from rfl, D.s (by rw [his]; exact ht), s2], fun ht hr => D.rev (by rw [his]; exact ht) (by rw [s2]; exact hr),
    fun k h1 h2 => (D.oth k h1 h2).trans (s3 k h1), fun k => (D.H k).trans ?_, fun k h1 => by rw [show (tellM g f t) = emptyM (sendM g f t) f t from rfl, D.ms k h1, s3 k h1], fun k h1 => by rw [show (tellM g f t) = emptyM (sendM g f t) f t from rfl, D.rcb k h1, s3 k h1], by rw [← s5]; exact D.rc,
    fun k h1 => (D.cf k h1).trans ?_, by rw [← s3 _ (swap_ne hne)]; exact D.cfb⟩, e1, ?_, ⟨by rw [← s3 _ (swap_ne hne)]; exact D.cfb, Nat.le_refl _⟩, by rw [← s5]; exact D.rc, ?_, fun hr => q.2.2 hr⟩
  · by_cases e : k = (f, t)
    · subst e; exact s4
    · rw [s3 k e]
  · by_cases e : k = (f, t)
    · subst e; exact s6
    · rw [s3 k e]
  · have h1 := hk.rl
    have h2 : ((tellM g f t).pr (f, t)).H = (g.pr (f, t)).H := by unfold tellM; rw [D.H, s4]
    have h3 : (g.pr (f, t)).H.length ≤ ((tellM g f t).pr (f, t)).rc := q.1
    rw [h2] at h1 ⊢
    omega
  · rw [hb]; exact q.2.1
end Go.CH.Esc
namespace Go.Proofs.Ytapabbpdfplpoaa
open Go.RowKit Go.CH Go.CH.Esc
open Go.ChangeMaps (setBlock)

theorem mem_er {α : Type} [DecidableEq α] {l : List α} (hn : l.Nodup) {a b : α} : a ∈ l.erase b ↔ a ≠ b ∧ a ∈ l := hn.mem_erase_iff
theorem nodup_er {α : Type} [DecidableEq α] {l : List α} (hn : l.Nodup) (b : α) : (l.erase b).Nodup := hn.erase b
theorem src_new_old {w : World} {o : Obj} {A : Option Addr} {n size : Nat} {xs : List Value} (h : Src w A n size xs) (hs : 0 < size) : Src (w.alloc o) A n size xs := by
  refine ⟨h.1, h.2.1, fun hn => ?_⟩
  obtain ⟨ad, e, hc⟩ := h.2.2 hn
  refine ⟨ad, e, fun j u hu => ?_⟩
  have h1 := hc j u hu
  rw [World.cell?_of_block (heap_old (World.block_lt_of_cell? _ _ h1))]; exact h1
/-- A line's transfers. -/
def lts (p : PrG) (A : Option Addr) (c : Nat) : Own := RowO 3 1 (.slice A (p.H.drop p.conf).length c) (p.H.drop p.conf).length (ints (p.H.drop p.conf))
/-- A line's cells. -/
def lce (p : PrG) (g : Nat) (A : Option Addr) (c : Nat) (l : LinS) : Own := CellO g (lcl (.slice A (p.H.drop p.conf).length c) p.H.length p.rc l.B l.zs.length l.d) 109
def lms (l : LinS) : Own := ARow zcl zow 124 4 (.slice l.B l.zs.length l.d) l.zs
def accO (s : EscP) (L : List Acc) : Own := RowO 103 3 (.slice s.A L.length s.c) L.length (L.flatMap accL)
def two (g : GM) (s : EscP) (f t : Int) : Own := bigK (@List.erase (Int × Int) instBEqOfDecidableEq (@List.erase (Int × Int) instBEqOfDecidableEq (keys g.acc.length) (f, t)) (t, f)) fun k => LineO (g.pr k) (s.gp k)
/-- What a delivery leaves alone. -/
def restO (g : GM) (p : Nat) (s : EscP) (f t : Int) (l lb : LinS) : Own :=
  star (lts (g.pr (f, t)) l.A l.c) (star (lms lb) (star (CellO p #[.slice s.A g.acc.length s.c, .map (some s.bm)] 101) (star (MapO (pairV .i64) s.bm (ents g.acc.length s.gp)) (two g s f t))))
theorem restO_ok {g : GM} {p : Nat} {s : EscP} {f t : Int} {l lb : LinS} : (restO g p s f t l lb).Ok := star_ok row_ok (star_ok (arow_ok zow_ok) (star_ok cell_ok (star_ok map_ok (bigK_ok (fun _ => lineO_ok)))))
theorem lineO_eq (p : PrG) (g : Nat) : LineO p g = fun w F => ∃ l : LinS, LineZ p l ∧ star (lce p g l.A l.c l) (star (lts p l.A l.c) (lms l)) w F := rfl
theorem star_ex {ι : Type} {P : ι → Prop} {A : ι → Own} {B : Own} {w : World} {F : Nat → Prop} (h : star (fun w F => ∃ i, P i ∧ A i w F) B w F) : ∃ i, P i ∧ star (A i) B w F := by
  obtain ⟨F1, F2, ⟨i, hi, h1⟩, h2, h3, h4⟩ := h
  exact ⟨i, hi, F1, F2, h1, h2, h3, h4⟩
theorem Run.ex {ι : Type} {P : ι → Prop} {A : ι → Own} {F0 : Nat → Prop} {w0 W : World} (h : Run F0 w0 (fun w F => ∃ i, P i ∧ A i w F) W) : ∃ i, P i ∧ Run F0 w0 (A i) W := by
  obtain ⟨⟨F, ⟨i, hi, h1⟩, h2⟩, h3⟩ := h
  exact ⟨i, hi, ⟨F, h1, h2⟩, h3⟩
theorem two_out {g : GM} {s : EscP} {f t : Int} (hp : g.pair f t = true) : bigK (keys g.acc.length) (fun k => LineO (g.pr k) (s.gp k)) = star (LineO (g.pr (f, t)) (s.gp (f, t))) (star (LineO (g.pr (t, f)) (s.gp (t, f))) (two g s f t)) := by
  have hk := pair_mem.1 hp
  have hk2 : (t, f) ∈ @List.erase (Int × Int) instBEqOfDecidableEq (keys g.acc.length) (f, t) := by
    rw [mem_er (nodup_keys _)]
    exact ⟨swap_ne (pair_is hp).2.2, pair_mem.1 (pair_swap hp)⟩
  funext w F
  refine propext ⟨fun h => star_mono (bigK_out hk h) (fun _ h => h) (fun F h => bigK_out hk2 h), fun h => ?_⟩
  exact bigK_in0 hk (star_mono h (fun _ h => h) (fun F h => bigK_in0 hk2 h))
/-- What has been received. -/
def recM (g : GM) (f t : Int) (rc conf : Nat) (a : Acc) : GM := ((g.setP (f, t) { g.pr (f, t) with rc := rc }).setP (t, f) { g.pr (t, f) with conf := conf }).setA t a
theorem recM_pr {g : GM} {f t : Int} (hne : f ≠ t) (rc conf : Nat) (a : Acc) (x : Int × Int) : (recM g f t rc conf a).pr x = if x = (t, f) then { g.pr (t, f) with conf := conf } else if x = (f, t) then { g.pr (f, t) with rc := rc } else g.pr x := rfl
theorem open2 {F0 : Nat → Prop} {w0 W : World} {g : GM} {p : Nat} {s : EscP} {f t : Int} {Z : Own} (hp : g.pair f t = true) (h : Run F0 w0 (star Z (EscS g p s)) W) :
    ∃ l lb, LineZ (g.pr (f, t)) l ∧ LineZ (g.pr (t, f)) lb ∧ Run F0 w0 (star Z (star (lce (g.pr (f, t)) (s.gp (f, t)) l.A l.c l) (star (lce (g.pr (t, f)) (s.gp (t, f)) lb.A lb.c lb) (star (lts (g.pr (t, f)) lb.A lb.c) (star (accO s g.acc) (star (lms l) (restO g p s f t l lb))))))) W := by
  have e : star Z (EscS g p s) = star (LineO (g.pr (f, t)) (s.gp (f, t))) (star (LineO (g.pr (t, f)) (s.gp (t, f))) (star Z (star (CellO p #[.slice s.A g.acc.length s.c, .map (some s.bm)] 101) (star (accO s g.acc) (star (MapO (pairV .i64) s.bm (ents g.acc.length s.gp)) (two g s f t)))))) := by
    unfold EscS accO
    rw [two_out hp]
    ac_rfl
  have h1 := h.perm e
  obtain ⟨l, hl, h2⟩ := Run.ex (h1.imp fun w F h => star_ex h)
  obtain ⟨lb, hlb, h3⟩ := Run.ex (h2.imp fun w F h => star_ex (star_rot h))
  have h4 : Run F0 w0 (star (star (lce (g.pr (t, f)) (s.gp (t, f)) lb.A lb.c lb) (star (lts (g.pr (t, f)) lb.A lb.c) (lms lb))) (star (star (lce (g.pr (f, t)) (s.gp (f, t)) l.A l.c l) (star (lts (g.pr (f, t)) l.A l.c) (lms l)))
    (star Z (star (CellO p #[.slice s.A g.acc.length s.c, .map (some s.bm)] 101) (star (accO s g.acc) (star (MapO (pairV .i64) s.bm (ents g.acc.length s.gp)) (two g s f t))))))) W := h3
  refine ⟨l, lb, hl, hlb, h4.perm ?_⟩
  unfold restO
  ac_rfl
theorem close2 {F0 : Nat → Prop} {w0 W : World} {g : GM} {p : Nat} {s : EscP} {f t : Int} {l lb : LinS} {rc conf : Nat} {a : Acc} {A : Option Addr} {c : Nat} (hp : g.pair f t = true) (hl : LineZ (g.pr (f, t)) l) (hlb : LineZ (g.pr (t, f)) lb)
    (h : Run F0 w0 (star (lce { g.pr (f, t) with rc := rc } (s.gp (f, t)) l.A l.c l) (star (lce { g.pr (t, f) with conf := conf } (s.gp (t, f)) A c lb) (star (lts { g.pr (t, f) with conf := conf } A c) (star (accO s (g.acc.set t.toNat a)) (star (lms l) (restO g p s f t l lb)))))) W) :
    Run F0 w0 (EscS (recM g f t rc conf a) p s) W := by
  have hne := (pair_is hp).2.2
  have hlen : (recM g f t rc conf a).acc.length = g.acc.length := by unfold recM; rw [setA_len]; rfl
  have hp' : (recM g f t rc conf a).pair f t = true := by unfold GM.pair GM.is; rw [hlen]; exact hp
  have e1 : (recM g f t rc conf a).pr (t, f) = { g.pr (t, f) with conf := conf } := by rw [recM_pr hne, if_pos rfl]
  have e2 : (recM g f t rc conf a).pr (f, t) = { g.pr (f, t) with rc := rc } := by rw [recM_pr hne, if_neg (swap_ne hne).symm, if_pos rfl]
  have e3 : two (recM g f t rc conf a) s f t = two g s f t := by
    unfold two
    rw [hlen]
    refine bigK_congr fun k hk => ?_
    have hn : k ≠ (t, f) ∧ k ≠ (f, t) := by
      have h1 := (mem_er (nodup_er (nodup_keys g.acc.length) (f, t))).1 hk
      have h2 := (mem_er (nodup_keys g.acc.length)).1 h1.2
      exact ⟨h1.1, h2.1⟩
    rw [recM_pr hne, if_neg hn.1, if_neg hn.2]
  have eL : ∀ {q : PrG} {gp : Nat} {y : LinS}, LineZ q y → ∀ w F, star (lce q gp y.A y.c y) (star (lts q y.A y.c) (lms y)) w F → LineO q gp w F := fun hz w F h => ⟨_, hz, h⟩
  have h1 : Run F0 w0 (star (star (lce { g.pr (f, t) with rc := rc } (s.gp (f, t)) l.A l.c l) (star (lts { g.pr (f, t) with rc := rc } l.A l.c) (lms l))) (star (star (lce { g.pr (t, f) with conf := conf } (s.gp (t, f)) A c lb) (star (lts { g.pr (t, f) with conf := conf } A c) (lms lb)))
      (star (CellO p #[.slice s.A g.acc.length s.c, .map (some s.bm)] 101) (star (accO s (g.acc.set t.toNat a)) (star (MapO (pairV .i64) s.bm (ents g.acc.length s.gp)) (two g s f t)))))) W := by
    refine h.perm ?_
    unfold restO
    rw [show lts { g.pr (f, t) with rc := rc } l.A l.c = lts (g.pr (f, t)) l.A l.c from rfl]
    ac_rfl
  have h2 := h1.imp fun w F h => star_mono h (fun F h => eL (q := { g.pr (f, t) with rc := rc }) hl w F h) (fun F h => star_mono h (fun F h => eL (q := { g.pr (t, f) with conf := conf }) (y := { lb with A := A, c := c }) hlb w F h) (fun _ h => h))
  refine h2.perm ?_
  unfold EscS
  rw [two_out hp', e1, e2, e3, hlen]
  unfold accO
  have e4 : (recM g f t rc conf a).acc = g.acc.set t.toNat a := rfl
  rw [e4, List.length_set]
  ac_rfl
/-- u and what flies to it stay within the units. -/
theorem Inv.bndU {g : GM} {U : Int} (h : Inv g U) {f t : Int} (hp : g.pair f t = true) : (g.at_ t).u + fly (g.pr (f, t)) ≤ 1000000000 := by
  obtain ⟨hf, ht, hne⟩ := pair_is hp
  have h2 : (g.at_ t).u ≤ haveG g := isum_mem_le (fun y hy => by obtain ⟨a, ha, rfl⟩ := List.mem_map.1 hy; exact (h.acc a ha).1) (List.mem_map_of_mem (at_mem ht))
  have h5 : 0 ≤ spentG g := isum_nonneg (fun y hy => by obtain ⟨a, ha, rfl⟩ := List.mem_map.1 hy; exact (h.acc a ha).2)
  have h6 : fly (g.pr (f, t)) ≤ flyG g := isum_mem_le (fun y hy => by
    obtain ⟨k, hk, rfl⟩ := List.mem_map.1 hy
    exact fly_nonneg (h.pr k.1 k.2 (pair_mem.2 hk))) (List.mem_map.2 ⟨(f, t), pair_mem.1 hp, rfl⟩)
  have := h.tot
  have := h.U
  omega
set_option maxHeartbeats 1600000 in
set_option maxRecDepth 100000 in
theorem clone_src {w : World} {a : Addr} {n c : Nat} {l : List Int} (h : Src w (some a) n 1 (ints l)) (hn : n ≤ 1000) (hc : n ≤ c) :
    Calls Try.prog 71 #[.slice (some a) n c] w (CloneRet w n l) := by
  have hl : (ints l).length = n := by have := h.1; simpa using this
  have he := fun w => Go.Lib.run_eql_slice_nil (P := Try.prog) w 74 3 (some a) n c 0 0 Try.underlying74
  have R0 := hide ((Run.begin w).fresh emp_ok (row_made w 3 1))
  have hs' := hide (show Src (w.alloc (.cells #[] 3)) (some a) n 1 (ints l) from src_new_old h (by omega))
  clear h hl
  go_enter Try.func71, Try.ntmps71
  go_wp2_with (at_builtin; refine held ?_)
  obtain ⟨F1, hR1, -, bk1⟩ := R0.out.take row_ok emp_ok
  refine Held.mk (wpList_app rfl (.tmp 5) (.tmp 6) rfl intsOk _ 0 (v := .slice (some ⟨w.heap.size, 0, none⟩) 0 0) (n := 0) (xs := []) rfl hR1.1 (A := some a) (m := n) (c := c) (news := ints l) rfl hs'.out (by omega) (by omega) (Nat.zero_le _) ?_)
  intro v4 w4 ho4 hg4 hv4
  have S4 := bk1 _ _ (row_app hR1 ho4 hg4 hv4)
  rw [Nat.zero_add, List.nil_append] at S4
  obtain ⟨A', c', rfl⟩ := own_form ho4
  rw [Nat.zero_add] at *
  have HFIN := hide (S4.swap.drop.post row_ok)
  clear hR1 bk1 ho4 hg4 hv4 S4
  go_wp2
  go_ret
  exact ⟨A', c', rfl, HFIN.out⟩
end Go.Proofs.Ytapabbpdfplpoaa
namespace Go.Proofs.Ytapabbpdfplpoaa
open Go.RowKit Go.CH Go.CH.Esc
open Go.ChangeMaps (setBlock)

def boxO (bx : Nat) (z : ZMsg) : Own := CellO bx #[.slice z.A z.ts.length z.c, .int .i64 z.m.up, .int .i64 z.m.rc, .bool z.m.rev] 124
/-- The message in its box and its row; the line's cells; the line back: its cells, its transfers; the accounts; the rest. -/
def DlO (bx : Nat) (z : ZMsg) (q : PrG) (gp : Nat) (l : LinS) (qb : PrG) (gb : Nat) (A : Option Addr) (c : Nat) (lb : LinS) (s : EscP) (L : List Acc) (RR : Own) : Own :=
  star (star (boxO bx z) (zow z)) (star (lce q gp l.A l.c l) (star (lce qb gb A c lb) (star (lts qb A c) (star (accO s L) RR))))
theorem dlO_ok {bx : Nat} {z : ZMsg} {q : PrG} {gp : Nat} {l : LinS} {qb : PrG} {gb : Nat} {A : Option Addr} {c : Nat} {lb : LinS} {s : EscP} {L : List Acc} {RR : Own} (h : RR.Ok) : (DlO bx z q gp l qb gb A c lb s L RR).Ok :=
  star_ok (star_ok cell_ok (zow_ok z)) (star_ok cell_ok (star_ok cell_ok (star_ok row_ok (star_ok row_ok h))))
section
variable {F0 : Nat → Prop} {w0 W : World} {bx : Nat} {z : ZMsg} {q : PrG} {gp : Nat} {l : LinS} {qb : PrG} {gb : Nat} {A : Option Addr} {c : Nat} {lb : LinS} {s : EscP} {L : List Acc} {RR : Own}
structure DlR (W : World) (bx : Nat) (z : ZMsg) (q : PrG) (gp : Nat) (qb : PrG) (gb : Nat) (A : Option Addr) (c : Nat) (b : Nat) (L : List Acc) : Prop where
  b0 : W.cell? ⟨bx, 0, none⟩ = some (.slice z.A z.ts.length z.c)
  b1 : W.cell? ⟨bx, 1, none⟩ = some (.int .i64 z.m.up)
  b2 : W.cell? ⟨bx, 2, none⟩ = some (.int .i64 z.m.rc)
  b3 : W.cell? ⟨bx, 3, none⟩ = some (.bool z.m.rev)
  zr : ∀ (j : Nat) (h : j < z.ts.length), ∃ gz, z.A = some ⟨gz, 0, none⟩ ∧ W.cell? ⟨gz, j, none⟩ = some (.int .i64 z.ts[j])
  r : W.cell? ⟨gp, 2, none⟩ = some (.int .i64 q.rc)
  rf : W.frozen? ⟨gp, 2, none⟩ = false
  k0 : W.cell? ⟨gb, 0, none⟩ = some (.slice A (qb.H.drop qb.conf).length c)
  k1 : W.cell? ⟨gb, 1, none⟩ = some (.int .i64 qb.H.length)
  kf : W.frozen? ⟨gb, 0, none⟩ = false
  ks : Src W A (qb.H.drop qb.conf).length 1 (ints (qb.H.drop qb.conf))
  kc : (qb.H.drop qb.conf).length ≤ c
  kA : 0 < (qb.H.drop qb.conf).length → ∃ g, A = some ⟨g, 0, none⟩
  ac : ∀ k (h : k < L.length), W.cell? ⟨b, k * 3, none⟩ = some (.int .i64 L[k].u) ∧ W.cell? ⟨b, k * 3 + 2, none⟩ = some (.bool L[k].rev)
  af : 0 < L.length → ∀ i, W.frozen? ⟨b, i, none⟩ = false
theorem DlO.read {b : Nat} (hb : s.A = some ⟨b, 0, none⟩) (h : Run F0 w0 (DlO bx z q gp l qb gb A c lb s L RR) W) : DlR W bx z q gp qb gb A c b L := by
  obtain ⟨F1, ⟨F2, F3, hB, hZ, _, _⟩⟩ := h.fst
  obtain ⟨F4, hC⟩ := h.rot.fst
  obtain ⟨F5, hK⟩ := h.rot3.fst
  obtain ⟨F6, hT⟩ := (h.perm (by unfold DlO; ac_rfl : _ = star (lts qb A c) (star (star (boxO bx z) (zow z)) (star (lce q gp l.A l.c l) (star (lce qb gb A c lb) (star (accO s L) RR)))))).fst
  obtain ⟨F7, hA⟩ := (h.perm (by unfold DlO; ac_rfl : _ = star (accO s L) (star (star (boxO bx z) (zow z)) (star (lce q gp l.A l.c l) (star (lce qb gb A c lb) (star (lts qb A c) RR)))))).fst
  unfold accO at hA
  rw [hb] at hA
  refine ⟨cell_at hB rfl, cell_at hB rfl, cell_at hB rfl, cell_at hB rfl, fun j hj => ?_, cell_at hC rfl, cell_free hC 2, cell_at hK rfl, cell_at hK rfl, cell_free hK 0, row_src hT (ints_one _), (row_cap hT.1).1, fun hn => row_addr hT hn, fun k hk => ⟨row_cell hA ?_, row_cell hA ?_⟩, fun hl i => row_free hA i hl⟩
  · have hZ' : RowO 3 1 (.slice z.A z.ts.length z.c) z.ts.length (ints z.ts) W F3 := hZ
    obtain ⟨gz, hgz⟩ := row_addr hZ' (by omega)
    rw [hgz] at hZ'
    exact ⟨gz, hgz, row_cell hZ' (by simp [ints, hj])⟩
  · have := flat_get accL 3 accL_len hk 0 (by omega); simpa [accL] using this
  · have := flat_get accL 3 accL_len hk 2 (by omega); simpa [accL] using this
theorem DlO.setRc (hR : RR.Ok) (h : Run F0 w0 (DlO bx z q gp l qb gb A c lb s L RR) W) (n : Nat) : Run F0 w0 (DlO bx z { q with rc := n } gp l qb gb A c lb s L RR) (W.setCell ⟨gp, 2, none⟩ (.int .i64 n)) := by
  obtain ⟨F1, hC, -, bk⟩ := h.rot.take cell_ok (star_ok (star_ok cell_ok (zow_ok z)) (star_ok cell_ok (star_ok row_ok (star_ok row_ok hR))))
  exact (bk _ _ (cell_set hC 2 (.int .i64 n))).rot
theorem DlO.setAcc (hR : RR.Ok) {b : Nat} (hb : s.A = some ⟨b, 0, none⟩) (h : Run F0 w0 (DlO bx z q gp l qb gb A c lb s L RR) W) {k : Nat} (hk : k < L.length) (j : Nat) (hj : j < 3) (v : Value) (a : Acc) (ha : (accL L[k]).set j v = accL a) :
    Run F0 w0 (DlO bx z q gp l qb gb A c lb s (L.set k a) RR) (W.setCell ⟨b, k * 3 + j, none⟩ v) := by
  have e : ∀ L, DlO bx z q gp l qb gb A c lb s L RR = star (accO s L) (star (star (boxO bx z) (zow z)) (star (lce q gp l.A l.c l) (star (lce qb gb A c lb) (star (lts qb A c) RR)))) := fun L => by unfold DlO; ac_rfl
  obtain ⟨F1, hC, -, bk⟩ := (h.perm (e L)).take row_ok (star_ok (star_ok cell_ok (zow_ok z)) (star_ok cell_ok (star_ok cell_ok (star_ok row_ok hR))))
  unfold accO at hC
  rw [hb] at hC
  have h2 := row_set hC (i := k * 3 + j) (by omega) v
  rw [flat_set accL 3 accL_len hk hj ha] at h2
  refine (bk (accO s (L.set k a)) _ ?_).perm (e (L.set k a)).symm
  unfold accO
  rw [hb, List.length_set]
  exact h2
/-- The line back gets another row of transfers. -/
theorem DlO.setBack (hR : RR.Ok) {A' : Option Addr} {c' conf : Nat} (h : Run F0 w0 (star (lts { qb with conf := conf } A' c') (DlO bx z q gp l qb gb A c lb s L RR)) W) :
    Run F0 w0 (DlO bx z q gp l { qb with conf := conf } gb A' c' lb s L RR) (W.setCell ⟨gb, 0, none⟩ (.slice A' (qb.H.drop conf).length c')) := by
  have e : star (lts { qb with conf := conf } A' c') (DlO bx z q gp l qb gb A c lb s L RR) = star (lts qb A c) (star (lce qb gb A c lb) (star (star (boxO bx z) (zow z)) (star (lce q gp l.A l.c l) (star (lts { qb with conf := conf } A' c') (star (accO s L) RR))))) := by unfold DlO; ac_rfl
  obtain ⟨F1, hC, -, bk⟩ := (h.perm e).drop.take cell_ok (star_ok (star_ok cell_ok (zow_ok z)) (star_ok cell_ok (star_ok row_ok (star_ok row_ok hR))))
  have h2 := bk (lce { qb with conf := conf } gb A' c' lb) _ (cell_set hC 0 (.slice A' (qb.H.drop conf).length c'))
  refine h2.perm ?_
  unfold DlO; ac_rfl
end
/-- The state after the first j transfers of a message. -/
def dlL (L : List Acc) (k : Nat) (H : List Int) (rc n : Nat) : List Acc := L.set k { L.getD k default with u := (L.getD k default).u + isum ((H.take n).drop rc) }
theorem dlL_len (L : List Acc) (k : Nat) (H : List Int) (rc n : Nat) : (dlL L k H rc n).length = L.length := by simp [dlL]
theorem dlL_get {L : List Acc} {k : Nat} (hk : k < L.length) (H : List Int) (rc n : Nat) : (dlL L k H rc n)[k]'(by rw [dlL_len]; exact hk) = { L.getD k default with u := (L.getD k default).u + isum ((H.take n).drop rc) } := by simp [dlL]
theorem dlL_set (L : List Acc) (k : Nat) (H : List Int) (rc n : Nat) (a : Acc) : (dlL L k H rc n).set k a = L.set k a := by simp [dlL]
end Go.Proofs.Ytapabbpdfplpoaa
namespace Go.Proofs.Ytapabbpdfplpoaa
open Go.RowKit Go.CH Go.CH.Esc
open Go.ChangeMaps (setBlock)

theorem recv_rec {g : GM} {f t : Int} (hne : f ≠ t) (m : MsgG) : recvM g f t m = recM g f t (max (g.pr (f, t)).rc m.up) (max (g.pr (t, f)).conf m.rc) { g.at_ t with u := (g.at_ t).u + isum (((g.pr (f, t)).H.take m.up).drop (g.pr (f, t)).rc), rev := (g.at_ t).rev || m.rev } := by
  unfold recvM recM
  simp only [pr_setP, swap_ne hne, if_false]
/-- What is known of the numbers. -/
structure DlN (q qb : PrG) (m : MsgG) (u : Int) : Prop where
  cr : m.c ≤ q.rc
  cu : m.c ≤ m.up
  up : m.up ≤ q.H.length
  few : m.up ≤ m.c + 100
  big : q.H.length ≤ 1000000
  pos : ∀ h ∈ q.H, 1 ≤ h
  u0 : 0 ≤ u
  u1 : u + isum (q.H.drop q.rc) ≤ 1000000000
  bc : qb.conf ≤ qb.rc
  bm : m.rc ≤ qb.rc
  bl : qb.rc ≤ qb.H.length
  bf : qb.H.length ≤ qb.conf + 100
  bb : qb.H.length ≤ 1000000
theorem dlN_mk {g : GM} {U : Int} (hI : Inv g U) {f t : Int} (hp : g.pair f t = true) {m : MsgG} (hm : m ∈ (g.pr (f, t)).ms) (hl : HB g 1000000) : DlN (g.pr (f, t)) (g.pr (t, f)) m (g.at_ t).u := by
  have h1 := hI.pr f t hp
  have h2 := hI.pr t f (pair_swap hp)
  obtain ⟨m1, m2, m3, m4, m5⟩ := h1.msg m hm
  exact ⟨m1, m2, m3, m4, hl _, h1.pos, (hI.at_ (pair_is hp).2.1).1, Inv.bndU hI hp, h2.cr, m5, h2.rl, h2.few, hl _⟩
/-- A round in which the transfer counts, and one in which it does not. -/
theorem dl_yes {q qb : PrG} {m : MsgG} {u : Int} (N : DlN q qb m u) {j : Nat} (hj : m.c + j < m.up) (hr : q.rc ≤ m.c + j) :
    max q.rc (m.c + j) = m.c + j ∧ max q.rc (m.c + (j + 1)) = m.c + j + 1 ∧ ∃ x, ((q.H.take m.up).drop m.c)[j]? = some x ∧ 1 ≤ x ∧ u + isum ((q.H.take (m.c + (j + 1))).drop q.rc) = u + isum ((q.H.take (m.c + j)).drop q.rc) + x ∧ 0 ≤ u + isum ((q.H.take (m.c + j)).drop q.rc) ∧ u + isum ((q.H.take (m.c + j)).drop q.rc) + x ≤ 1000000000 := by
  have hlt : m.c + j < q.H.length := by have := N.up; omega
  have h1 := loop_step q.H q.rc (m.c + j) hlt
  rw [if_pos hr] at h1
  have h2 := loop_le N.pos q.rc (m.c + j)
  have h3 := loop_le N.pos q.rc (m.c + j + 1)
  have h4 := N.u0
  have h5 := N.u1
  refine ⟨by omega, by omega, q.H[m.c + j], by rw [msg_get _ _ _ _ N.up hj]; simp [hlt], N.pos _ (List.getElem_mem hlt), ?_, by omega, by omega⟩
  rw [← Nat.add_assoc, h1]; omega
theorem dl_no {q qb : PrG} {m : MsgG} {u : Int} (N : DlN q qb m u) {j : Nat} (hj : m.c + j < m.up) (hr : ¬ q.rc ≤ m.c + j) :
    max q.rc (m.c + j) = q.rc ∧ max q.rc (m.c + (j + 1)) = q.rc ∧ isum ((q.H.take (m.c + (j + 1))).drop q.rc) = isum ((q.H.take (m.c + j)).drop q.rc) := by
  have hlt : m.c + j < q.H.length := by have := N.up; omega
  have h1 := loop_step q.H q.rc (m.c + j) hlt
  rw [if_neg hr] at h1
  exact ⟨by omega, by omega, by rw [← Nat.add_assoc, h1]⟩
/-- The account behind the loop's first step. -/
theorem dlL_zero {L : List Acc} {k : Nat} (hk : k < L.length) {H : List Int} {rc c : Nat} (hc : c ≤ rc) : dlL L k H rc (c + 0) = L := by
  unfold dlL
  rw [Nat.add_zero, loop_zero H rc c hc, Int.add_zero]
  have h1 : L.getD k default = L[k] := by simp [hk]
  rw [h1]
  exact List.set_getElem_self hk
theorem big_last : ∀ (l : List Own) (B : Own), bigStar (l ++ [B]) = star B (bigStar l)
  | [], B => rfl
  | A :: l, B => by
    show star A (bigStar (l ++ [B])) = star B (star A (bigStar l))
    rw [big_last l B]; ac_rfl
theorem arow_last (v : Value) (zs : List ZMsg) (z : ZMsg) : ARow zcl zow 124 4 v (zs ++ [z]) = star (zow z) (star (RowO 124 4 v (zs.length + 1) ((zs ++ [z]).flatMap zcl)) (bigStar (zs.map zow))) := by
  unfold ARow
  rw [List.map_append, List.map_singleton, big_last, List.length_append, List.length_singleton]
  ac_rfl
set_option maxHeartbeats 800000 in
theorem at_cell {w : World} {p b n c : Nat} (c0 : w.cell? ⟨p, 0, none⟩ = some (.slice (some ⟨b, 0, none⟩) n c)) (hn : n ≤ 8) {k : Nat} (hk : k < n) : Calls Try.prog 66 #[.pointer (some ⟨p, 0, none⟩), .int .i64 k] w (Quiet w (.pointer (some ⟨b, k * 3, none⟩))) := by
  go_enter Try.func66, Try.ntmps66
  go_wp2
  go_ret
  exact ⟨by simp, rfl⟩
theorem two_setP (g : GM) (s : EscP) (f t : Int) (q : PrG) : two (g.setP (f, t) q) s f t = two g s f t := by
  unfold two
  refine bigK_congr fun k hk => ?_
  have hn : k ≠ (f, t) := by
    have h1 := (mem_er (nodup_er (nodup_keys g.acc.length) (f, t))).1 hk
    exact ((mem_er (nodup_keys g.acc.length)).1 h1.2).1
  rw [pr_setP, if_neg hn]
theorem restO_setP {g : GM} {p : Nat} {s : EscP} {f t : Int} {l l' lb : LinS} {ms : List MsgG} (hA : l'.A = l.A) (hc : l'.c = l.c) : restO (g.setP (f, t) { g.pr (f, t) with ms := ms }) p s f t l' lb = restO g p s f t l lb := by
  unfold restO
  rw [two_setP, setP_pr, hA, hc]
  rfl
set_option maxRecDepth 100000 in
set_option maxHeartbeats 4000000 in
theorem del_once {w : World} {F : Nat → Prop} {g : GM} {p : Nat} (h : EscO g p w F) {U : Int} (hI : Inv g U) (hl : HB g 1000000) (f t : Int) (hd : delE g f t = true) :
    Calls Try.prog 29 #[.pointer (some ⟨p, 0, none⟩), .int .i64 f, .int .i64 t, .bool false, .bool false] w (EPost w F (.bool true) (delM g f t false false) p) := by
  obtain ⟨hp, m, ml, hm⟩ := delE_pair hd
  have hPr := hI.pr f t hp
  have hne := (pair_is hp).2.2
  have ht := (pair_is hp).2.1
  have hml : ml.length ≤ 100 := by have := hPr.msl; rw [hm] at this; simp at this; omega
  have hN := dlN_mk hI hp (m := m) (by rw [hm]; simp) hl
  have hmod : delM g f t false false = recvM (popM g f t false) f t m := by rw [del_eq hd, hm]; rfl
  have hlen8 := hI.nb
  rw [hmod, recv_rec hne]
  obtain ⟨s, hS⟩ := h
  obtain ⟨b, hb⟩ := hS.read.addr (by have := hI.nb; omega)
  have KL := hide (line_any hS.read f t)
  have KB := hide (line_any hS.read t f)
  rw [lineV, if_pos hp] at KL
  rw [lineV, if_pos (pair_swap hp)] at KB
  obtain ⟨z, hz1, hz2, hT⟩ := esc_take (Run.start hS) hp hm hml
  have hp1 : (g.setP (f, t) { g.pr (f, t) with ms := ml }).pair f t = true := by rw [setP_pair]; exact hp
  have hzt : z.ts = msgT ((g.setP (f, t) { g.pr (f, t) with ms := ml }).pr (f, t)).H z.m := by rw [setP_pr, hz1]; exact hz2
  have hml1 : ((g.setP (f, t) { g.pr (f, t) with ms := ml }).pr (f, t)).ms.length ≤ 100 := by rw [setP_pr]; exact hml
  have hN1 : DlN ((g.setP (f, t) { g.pr (f, t) with ms := ml }).pr (f, t)) ((g.setP (f, t) { g.pr (f, t) with ms := ml }).pr (t, f)) m ((g.setP (f, t) { g.pr (f, t) with ms := ml }).at_ t).u := by
    rw [setP_pr, pr_setP, if_neg (swap_ne hne), setP_at]
    exact ⟨hN.cr, hN.cu, hN.up, hN.few, hN.big, hN.pos, hN.u0, hN.u1, hN.bc, hN.bm, hN.bl, hN.bf, hN.bb⟩
  have hlen1 : 1 ≤ (g.setP (f, t) { g.pr (f, t) with ms := ml }).acc.length ∧ (g.setP (f, t) { g.pr (f, t) with ms := ml }).acc.length ≤ 8 := hlen8
  have ht1 : (g.setP (f, t) { g.pr (f, t) with ms := ml }).is t = true := ht
  rw [pop_no hm]
  generalize hG : recM _ _ _ _ _ _ = G
  have HG := hide hG
  clear hG
  subst hz1
  have hgp : s.gp = s.gp := rfl
  generalize g.setP (f, t) { g.pr (f, t) with ms := ml } = g1 at *
  have KT := hide hT
  have HZT := hide hzt
  clear hd hS hPr hT hI hm hz2 hzt hl hmod hN hp ht hlen8 hgp
  unfold zcl at KT
  go_enter Try.func29, Try.ntmps29
  go_wp2_with fail
  refine KL.out.mono ?_
  rintro e w' ⟨rfl, rfl⟩
  go_wp2_with fail
  refine KB.out.mono ?_
  rintro e w' ⟨rfl, rfl⟩
  go_wp2_with fail
  refine KT.out.mono ?_
  rintro e w2 ⟨rfl, hR2⟩
  have R3 := hR2.fresh (star_ok (zow_ok z) escS_ok) (cell_new w2 #[.slice z.A z.ts.length z.c, .int .i64 z.m.up, .int .i64 z.m.rc, .bool z.m.rev] 124)
  clear hR2 KT
  go_wp2_with fail
  generalize hbx : w2.heap.size = bx at *
  obtain ⟨l, lb, hlz, hlbz, hO⟩ := open2 (Z := star (boxO bx z) (zow z)) hp1 (R3.perm (by unfold boxO; ac_rfl))
  obtain ⟨RR, hRR, HDL, hCL⟩ : ∃ RR : Own, RR.Ok ∧ Hid (Run F w (DlO bx z (g1.pr (f, t)) (s.gp (f, t)) l (g1.pr (t, f)) (s.gp (t, f)) lb.A lb.c lb s g1.acc (star (CellO p #[.slice s.A g1.acc.length s.c, .map (some s.bm)] 101) RR)) (w2.alloc (.cells #[.slice z.A z.ts.length z.c, .int .i64 z.m.up, .int .i64 z.m.rc, .bool z.m.rev] 124))) ∧
      Hid (∀ (rc conf : Nat) (a : Acc) (A : Option Addr) (c : Nat) (W' : World), Run F w (DlO bx z { g1.pr (f, t) with rc := rc } (s.gp (f, t)) l { g1.pr (t, f) with conf := conf } (s.gp (t, f)) A c lb s (g1.acc.set t.toNat a) (star (CellO p #[.slice s.A g1.acc.length s.c, .map (some s.bm)] 101) RR)) W' → EPost w F (.bool true) (recM g1 f t rc conf a) p (.returned (.bool true)) W') := by
    refine ⟨star (lms l) (star (lts (g1.pr (f, t)) l.A l.c) (star (lms lb) (star (MapO (pairV .i64) s.bm (ents g1.acc.length s.gp)) (two g1 s f t)))), star_ok (arow_ok zow_ok) (star_ok row_ok (star_ok (arow_ok zow_ok) (star_ok map_ok (bigK_ok (fun _ => lineO_ok))))), hide (hO.perm (by unfold DlO restO; ac_rfl)), hide fun rc conf a A c W' hr => ?_⟩
    obtain ⟨F', q1, q2, q3⟩ := (close2 (s := s) (p := p) hp1 hlz hlbz (hr.drop.perm (by unfold restO; ac_rfl))).post escS_ok
    exact ⟨rfl, F', ⟨_, q1⟩, q2, q3⟩
  clear R3 hO hlz hlbz hbx
  generalize w2.alloc (.cells #[.slice z.A z.ts.length z.c, .int .i64 z.m.up, .int .i64 z.m.rc, .bool z.m.rev] 124) = W at *
  generalize s.gp (f, t) = gp at *
  generalize s.gp (t, f) = gb at *
  have hk := (is_lt ht1).2
  have hk0 := (is_lt ht1).1
  have hN := hN1
  unfold GM.at_ at hN
  obtain ⟨k, rfl⟩ : ∃ k : Nat, t = k := ⟨t.toNat, by omega⟩
  simp only [Int.toNat_natCast] at hk hN hCL
  rw [show g1.at_ (k : Int) = g1.acc.getD k default from rfl] at HG
  generalize hn : z.ts.length = n at *
  have hzl : n = z.m.up - z.m.c := by rw [← hn]; rw [HZT.out]; unfold msgT; exact msg_len _ _ _ hN.up
  have HZ := hide (fun j (h : j < z.ts.length) => show z.ts[j]? = ((((g1.pr (f, (k : Int))).H.take z.m.up).drop z.m.c)[j]?) by rw [HZT.out]; rfl)
  clear HZT hN1 ht1 hk0
  have hc0 : W.cell? ⟨p, 0, none⟩ = some (.slice (some ⟨b, 0, none⟩) g1.acc.length s.c) := by
    obtain ⟨FC, hC⟩ := (HDL.out.perm (by unfold DlO; ac_rfl : _ = star (CellO p #[.slice s.A g1.acc.length s.c, .map (some s.bm)] 101) (star (star (boxO bx z) (zow z)) (star (lce (g1.pr (f, (k : Int))) gp l.A l.c l) (star (lce (g1.pr ((k : Int), f)) gb lb.A lb.c lb) (star (lts (g1.pr ((k : Int), f)) lb.A lb.c) (star (accO s g1.acc) RR))))))).fst
    rw [← hb]
    exact cell_at hC rfl
  have KA := hide (at_cell hc0 hlen1.2 hk)
  have hRR2 : (star (CellO p #[.slice s.A g1.acc.length s.c, .map (some s.bm)] 101) RR).Ok := star_ok cell_ok hRR
  generalize (star (CellO p #[.slice s.A g1.acc.length s.c, .map (some s.bm)] 101) RR) = R2 at *
  generalize g1.pr (f, (k : Int)) = q at *
  generalize g1.pr ((k : Int), f) = qb at *
  generalize g1.acc = L at *
  clear hRR RR hc0 hlen1
  refine KA.out.mono ?_
  rintro e w' ⟨rfl, rfl⟩
  have R0 := DlO.read hb HDL.out
  have b0 := R0.b0
  rw [hn] at b0
  have hstart := hide (show Run F w (DlO bx z { q with rc := max q.rc (z.m.c + 0) } gp l qb gb lb.A lb.c lb s (dlL L k q.H q.rc (z.m.c + 0)) R2) W by
    rw [dlL_zero hk hN.cr, show max q.rc (z.m.c + 0) = q.rc by have := hN.cr; omega]; exact HDL.out)
  clear R0 HDL KA
  have hun : (z.m.up : Int) - (n : Int) = (z.m.c : Int) := by have := hN.cu; omega
  have HUN := hide hun
  have hcu : z.m.c + n = z.m.up := by omega
  have hup : (z.m.up : Int) ≤ 1000000 := by have := hN.up; have := hN.big; omega
  have hn8 : (n : Int) ≤ 1000000 := by omega
  have HN := hide hN
  have HB := hide hb
  have HNZ := hide hn
  clear hun hb hN hzl hn
  go_wp2_with fail
  go_loopw [52] (fun i wr => ∃ j : Nat, j ≤ n ∧ i = .int .i64 j ∧ Run F w (DlO bx z { q with rc := max q.rc (z.m.c + j) } gp l qb gb lb.A lb.c lb s (dlL L k q.H q.rc (z.m.c + j)) R2) wr) (fun i _ => n - (intOf i).toNat)
  case atStart => exact ⟨0, Nat.zero_le _, rfl, hstart.out⟩
  case round =>
    obtain ⟨j, hj, rfl, hr⟩ := hrel
    have R1 := DlO.read HB.out hr
    have hlk : k < (dlL L k q.H q.rc (z.m.c + j)).length := by rw [dlL_len]; exact hk
    have a0 := (R1.ac k hlk).1
    rw [dlL_get hk] at a0
    have af := R1.af (by omega)
    have c0 := R1.b0
    have c1 := R1.b1
    have r0 := R1.r
    have rf := R1.rf
    have HR := hide hr
    clear hstart b0
    rw [HNZ.out] at c0
    by_cases hlt : j < n
    · obtain ⟨gz, hgz, zc⟩ := R1.zr j (by rw [HNZ.out]; exact hlt)
      have hzx := HZ.out j (by rw [HNZ.out]; exact hlt)
      rw [List.getElem?_eq_getElem (by rw [HNZ.out]; exact hlt)] at hzx
      have hj2 : z.m.c + j < z.m.up := by omega
      by_cases hrc : q.rc ≤ z.m.c + j
      · obtain ⟨e1, e2, x, hx, hx1, hs, hlo, hhi⟩ := dl_yes HN.out hj2 hrc
        have hxz : z.ts[j]'(by rw [HNZ.out]; exact hlt) = x := by rw [hx] at hzx; injection hzx
        rw [hxz] at zc
        have a1 : wr.cell? ⟨b, k * 3, none⟩ = some (.int .i64 ((L.getD k default).u + isum ((q.H.take (z.m.c + j)).drop q.rc))) := a0
        have r1 : wr.cell? ⟨gp, 2, none⟩ = some (.int .i64 ((max q.rc (z.m.c + j) : Nat) : Int)) := r0
        rw [e1] at r1
        obtain ⟨r, hre⟩ : ∃ r : Nat, z.m.c + j = r := ⟨_, rfl⟩
        rw [hre] at r1
        have h9 : (r : Int) < (z.m.c : Int) + 1 + j := by omega
        have h10 : decide ((r : Int) < (z.m.c : Int) + 1 + j) = true := decide_eq_true h9
        have W1 := DlO.setRc hRR2 (DlO.setAcc hRR2 HB.out hr hlk 0 (by omega) (.int .i64 ((L.getD k default).u + isum ((q.H.take (z.m.c + (j + 1))).drop q.rc))) { L.getD k default with u := (L.getD k default).u + isum ((q.H.take (z.m.c + (j + 1))).drop q.rc) } (by rw [dlL_get hk]; rfl)) (max q.rc (z.m.c + (j + 1)))
        rw [dlL_set, hs, e2] at W1
        have W2 := hide (show Run F w (DlO bx z { q with rc := max q.rc (z.m.c + (j + 1)) } gp l qb gb lb.A lb.c lb s (dlL L k q.H q.rc (z.m.c + (j + 1))) R2) ((wr.setCell ⟨b, k * 3, none⟩ (.int .i64 ((L.getD k default).u + isum ((q.H.take (z.m.c + j)).drop q.rc) + x))).setCell ⟨gp, 2, none⟩ (.int .i64 ((z.m.c + j + 1 : Nat) : Int))) by
          unfold dlL
          rw [hs, e2]
          exact W1)
        have f0 := af (k * 3)
        have hun := HUN.out
        have hxx : (x : Int) ≤ 1000000000 := by omega
        have hne9 : ((z.m.c + j + 1 : Nat) : Int) = (z.m.c : Int) + 1 + j := by omega
        rw [hne9] at W2
        generalize (L.getD k default).u + isum ((q.H.take (z.m.c + j)).drop q.rc) = v at *
        clear R1 a0 r0 af e1 e2 hs hx hzx hre W1 hr HZ HN hne9 HR
        clear hRR2 hxz
        go_wp2
        go_roundw
        case rel => exact ⟨j + 1, by omega, by go_num, W2.out⟩
        case measure => simp [intOf]; omega
      · obtain ⟨e1, e2, e3⟩ := dl_no HN.out hj2 hrc
        have r1 : wr.cell? ⟨gp, 2, none⟩ = some (.int .i64 ((max q.rc (z.m.c + j) : Nat) : Int)) := r0
        rw [e1] at r1
        obtain ⟨r, hre⟩ : ∃ r : Nat, q.rc = r := ⟨_, rfl⟩
        have hrc' := hrc
        rw [hre] at r1 hrc'
        have h9 : ¬ ((r : Int) < (z.m.c : Int) + 1 + j) := by omega
        have h10 : decide ((r : Int) < (z.m.c : Int) + 1 + j) = false := decide_eq_false h9
        have W2 := hide (show Run F w (DlO bx z { q with rc := max q.rc (z.m.c + (j + 1)) } gp l qb gb lb.A lb.c lb s (dlL L k q.H q.rc (z.m.c + (j + 1))) R2) wr by
          have W1 := hr
          unfold dlL at W1 ⊢
          rw [e1] at W1
          rw [e2, e3]
          exact W1)
        have hun := HUN.out
        generalize z.ts[j]'(by rw [HNZ.out]; exact hlt) = x at *
        clear R1 a0 r0 af e1 e2 e3 hzx hre hr HZ HN HR hrc hrc' rf
        clear hRR2
        go_wp2
        go_roundw
        case rel => exact ⟨j + 1, by omega, by go_num, W2.out⟩
        case measure => simp [intOf]; omega
    · have hjn : z.m.c + j = z.m.up := by omega
      rw [hjn] at hr
      clear R1 a0 af r0 rf HR hlk
      have hr1 := hr.drew (dlO_ok hRR2)
      have R1 := DlO.read HB.out hr1
      have k0 := R1.k0
      have k1 := R1.k1
      have c2 := R1.b2
      have hN := HN.out
      obtain ⟨lf, hlf⟩ : ∃ lf : Nat, lf = qb.H.length - z.m.rc := ⟨_, rfl⟩
      have hnb : (qb.H.drop qb.conf).length = qb.H.length - qb.conf := by simp
      obtain ⟨nb, hnb2⟩ : ∃ nb, (qb.H.drop qb.conf).length = nb := ⟨_, rfl⟩
      have h1 := hN.bm
      have h2 := hN.bl
      have h3 := hN.bb
      have h4 := hN.bc
      have t1 : IntKind.i64.wrap ((qb.H.length : Int) - z.m.rc) = (lf : Int) := by rw [IntWalk.i64_in _ (by omega)]; omega
      rw [hnb2] at k0
      by_cases hcf : qb.conf < z.m.rc
      · have hmx : max qb.conf z.m.rc = z.m.rc := by omega
        have HMX := hide hmx
        have t2 : decide ((lf : Int) < nb) = true := decide_eq_true (by omega)
        have t3 : (lf : Int) < nb := by omega
        have t4 : IntKind.i64.wrap ((nb : Int) - lf) = ((z.m.rc - qb.conf : Nat) : Int) := by rw [IntWalk.i64_in _ (by omega)]; omega
        obtain ⟨gg, hgg⟩ := R1.kA (by omega)
        have hr2 := hr1.drew (dlO_ok hRR2)
        have R2' := DlO.read HB.out hr2
        have ks := R2'.ks
        have kc := R2'.kc
        rw [hnb2] at ks kc
        rw [hgg] at ks k0
        have hcut := Src.cut (k := z.m.rc - qb.conf) (c := lb.c) ks (by omega) kc
        obtain ⟨ad, had⟩ : ∃ ad, cutA (some (⟨gg, 0, none⟩ : Addr)) lb.c (z.m.rc - qb.conf) 1 = some ad := by unfold cutA; split <;> exact ⟨_, rfl⟩
        have hsl := fun w => run_slice_from intsOk (some ⟨gg, 0, none⟩) nb lb.c (z.m.rc - qb.conf) .i64 ((z.m.rc - qb.conf : Nat) : Int) rfl (by omega) w
        rw [had] at hcut hsl
        have hdr : (ints (qb.H.drop qb.conf)).drop ((z.m.rc - qb.conf) * 1) = ints (qb.H.drop z.m.rc) := by
          unfold ints
          rw [Nat.mul_one, ← List.map_drop, List.drop_drop]
          congr 2; omega
        rw [hdr, show nb - (z.m.rc - qb.conf) = lf by omega] at hcut
        rw [show nb - (z.m.rc - qb.conf) = lf by omega] at hsl
        have hdl : (qb.H.drop z.m.rc).length = lf := by simp; omega
        have KC := hide (clone_src (c := lb.c - (z.m.rc - qb.conf)) hcut (by have := hN.bf; omega) (by omega))
        have HR2 := hide hr2
        have HDL := hide hdl
        have HLF := hide hlf
        generalize z.m.rc - qb.conf = kk at *
        generalize lb.c - kk = cc at *
        clear hr hr1 R1 R2' hr2 ks kc hcut had hdr hnb hnb2 hdl hlf h1 h2 h3 h4 hN hjn hmx hcf
        go_wp2_with fail
        refine wp_region_lex (fun w' => w'.cell? ⟨gb, 1, none⟩ = some (.int .i64 qb.H.length) ∧ w'.cell? ⟨bx, 2, none⟩ = some (.int .i64 z.m.rc)) (by kernel_rfl) (by kernel_rfl) ⟨k1, c2⟩ ?_
        (repeat (first | (refine lex_skip (by rfl) ?_; try simp only [Act.put, List.setIfInBounds_toArray, List.set_cons_zero, List.set_cons_succ]) | (refine lex_read (v := ?_) (by rfl) ?_ ?_; rotate_left; (focus (intro w' hS'; go_simp; (try with_reducible rfl); done)); try simp only [Act.put, List.setIfInBounds_toArray, List.set_cons_zero, List.set_cons_succ])))
        refine lex_nil ?_
        go_wp2_with fail
        refine wp_region_lew [13, 16] [1, 0, 0, 0, 0, 0, 0, 0, 0, 0, 0, 0, 0, 1, 1, 1, 2] (fun w' => w'.cell? ⟨gb, 0, none⟩ = some (.slice (some ⟨gg, 0, none⟩) nb lb.c)) (fun _ => True) (fun _ => True) (fun _ => True) (fun _ _ => trivial) (fun _ h => h) (fun _ h => h) (by kernel_rfl) (by kernel_rfl) (by kernel_rfl) (by kernel_rfl) k0 ?_
        (repeat (first | (refine lew_skip (by rfl) (by rfl) ?_; try simp only [Act.put, List.setIfInBounds_toArray, List.set_cons_zero, List.set_cons_succ]) | (refine lew_read0 (v := ?_) (by rfl) (by rfl) ?_ ?_; rotate_left; (focus (intro w' hS'; go_simp; (try with_reducible rfl); done)); try simp only [Act.put, List.setIfInBounds_toArray, List.set_cons_zero, List.set_cons_succ]) | (refine lew_read1 (v := ?_) (by rfl) (by rfl) ?_ ?_; rotate_left; (focus (intro w' hS'; go_simp; (try with_reducible rfl); done)); try simp only [Act.put, List.setIfInBounds_toArray, List.set_cons_zero, List.set_cons_succ]) | (refine lew_read2 (v := ?_) (by rfl) (by rfl) ?_ ?_; rotate_left; (focus (intro w' hS'; go_simp; (try with_reducible rfl); done)); try simp only [Act.put, List.setIfInBounds_toArray, List.set_cons_zero, List.set_cons_succ]) | (refine lew_read3 (v := ?_) (by rfl) (by rfl) ?_ ?_; rotate_left; (focus (intro w' hS'; go_simp; (try with_reducible rfl); done)); try simp only [Act.put, List.setIfInBounds_toArray, List.set_cons_zero, List.set_cons_succ]) | (refine lew_read4 (v := ?_) (by rfl) (by rfl) ?_ ?_; rotate_left; (focus (intro w' hS'; go_simp; (try with_reducible rfl); done)); try simp only [Act.put, List.setIfInBounds_toArray, List.set_cons_zero, List.set_cons_succ])))
        refine lew_chain1 rfl (by rfl) (fun K hK => ?_)
        go_wp2_with fail
        refine KC.out.mono ?_
        rintro e w3 ⟨A3, c3, rfl, hP3⟩
        rw [← HDL.out] at hP3
        have S3 := HR2.out.fresh (dlO_ok hRR2) (R := lts { qb with conf := z.m.rc } A3 c3) hP3
        have kf := (DlO.read HB.out S3.drop).kf
        have k3 := (DlO.read HB.out S3.drop).k0
        have hrun := DlO.setBack (conf := z.m.rc) hRR2 S3
        rw [HDL.out] at hrun
        have HRUN := hide hrun
        clear hP3 S3 hrun KC HR2
        refine hK.out _ _ trivial ?_
        clear hK k0 k1 c2
        (repeat (first | (refine lew_skip (by rfl) (by rfl) ?_; try simp only [Act.put, List.setIfInBounds_toArray, List.set_cons_zero, List.set_cons_succ]) | (refine lew_read0 (v := ?_) (by rfl) (by rfl) ?_ ?_; rotate_left; (focus (intro w' hS'; go_simp; (try with_reducible rfl); done)); try simp only [Act.put, List.setIfInBounds_toArray, List.set_cons_zero, List.set_cons_succ]) | (refine lew_read1 (v := ?_) (by rfl) (by rfl) ?_ ?_; rotate_left; (focus (intro w' hS'; go_simp; (try with_reducible rfl); done)); try simp only [Act.put, List.setIfInBounds_toArray, List.set_cons_zero, List.set_cons_succ]) | (refine lew_read2 (v := ?_) (by rfl) (by rfl) ?_ ?_; rotate_left; (focus (intro w' hS'; go_simp; (try with_reducible rfl); done)); try simp only [Act.put, List.setIfInBounds_toArray, List.set_cons_zero, List.set_cons_succ]) | (refine lew_read3 (v := ?_) (by rfl) (by rfl) ?_ ?_; rotate_left; (focus (intro w' hS'; go_simp; (try with_reducible rfl); done)); try simp only [Act.put, List.setIfInBounds_toArray, List.set_cons_zero, List.set_cons_succ]) | (refine lew_read4 (v := ?_) (by rfl) (by rfl) ?_ ?_; rotate_left; (focus (intro w' hS'; go_simp; (try with_reducible rfl); done)); try simp only [Act.put, List.setIfInBounds_toArray, List.set_cons_zero, List.set_cons_succ])))
        refine lew_chain2 rfl (by rfl) (fun K hK => ?_)
        go_wp2_with fail
        generalize w3.setCell ⟨gb, 0, none⟩ (.slice A3 lf c3) = w4 at *
        refine hK.out _ _ trivial (lew_nil ?_)
        have hrun := HRUN.out
        rw [HMX.out] at HG
        clear hK kf k3 t1 t2 t3 t4 hsl HRUN HDL
        have R4 := DlO.read HB.out hrun
        have hlk4 : k < (dlL L k q.H q.rc z.m.up).length := by rw [dlL_len]; exact hk
        have a4 := (R4.ac k hlk4).2
        rw [dlL_get hk] at a4
        have a5 : w4.cell? ⟨b, k * 3 + 2, none⟩ = some (.bool (L.getD k default).rev) := a4
        have b5 := R4.b3
        have f5 := R4.af (by omega) (k * 3 + 2)
        have W5 := DlO.setAcc hRR2 HB.out hrun hlk4 2 (by omega) (.bool ((L.getD k default).rev || z.m.rev)) { L.getD k default with u := (L.getD k default).u + isum ((q.H.take z.m.up).drop q.rc), rev := (L.getD k default).rev || z.m.rev } (by rw [dlL_get hk]; rfl)
        rw [dlL_set] at W5
        have HFIN := hide (hCL.out _ _ _ _ _ _ W5)
        rw [HG.out] at HFIN
        generalize (L.getD k default).rev = rv at *
        generalize z.m.rev = mr at *
        clear R4 a4 W5 hrun HG hCL
        cases rv <;> cases mr
        all_goals
          go_wp2
          go_ret
          exact HFIN.out
      · have hmx : max qb.conf z.m.rc = qb.conf := by omega
        have t2 : decide ((lf : Int) < nb) = false := decide_eq_false (by omega)
        have t3 : ¬ ((lf : Int) < nb) := by omega
        have HR1 := hide hr1
        have HMX := hide hmx
        clear hr hr1 R1 hnb hnb2 hlf h1 h2 h3 h4 hN hjn hcf hmx
        go_wp2_with fail
        refine wp_region_lex (fun w' => w'.cell? ⟨gb, 1, none⟩ = some (.int .i64 qb.H.length) ∧ w'.cell? ⟨bx, 2, none⟩ = some (.int .i64 z.m.rc)) (by kernel_rfl) (by kernel_rfl) ⟨k1, c2⟩ ?_
        (repeat (first | (refine lex_skip (by rfl) ?_; try simp only [Act.put, List.setIfInBounds_toArray, List.set_cons_zero, List.set_cons_succ]) | (refine lex_read (v := ?_) (by rfl) ?_ ?_; rotate_left; (focus (intro w' hS'; go_simp; (try with_reducible rfl); done)); try simp only [Act.put, List.setIfInBounds_toArray, List.set_cons_zero, List.set_cons_succ])))
        refine lex_nil ?_
        have hrun := HR1.out
        generalize wr.drew = w4 at *
        rw [HMX.out] at HG
        have R4 := DlO.read HB.out hrun
        have hlk4 : k < (dlL L k q.H q.rc z.m.up).length := by rw [dlL_len]; exact hk
        have a4 := (R4.ac k hlk4).2
        rw [dlL_get hk] at a4
        have a5 : w4.cell? ⟨b, k * 3 + 2, none⟩ = some (.bool (L.getD k default).rev) := a4
        have b5 := R4.b3
        have f5 := R4.af (by omega) (k * 3 + 2)
        have W5 := DlO.setAcc hRR2 HB.out hrun hlk4 2 (by omega) (.bool ((L.getD k default).rev || z.m.rev)) { L.getD k default with u := (L.getD k default).u + isum ((q.H.take z.m.up).drop q.rc), rev := (L.getD k default).rev || z.m.rev } (by rw [dlL_get hk]; rfl)
        rw [dlL_set] at W5
        have HFIN := hide (hCL.out _ _ _ _ _ _ W5)
        rw [HG.out] at HFIN
        generalize (L.getD k default).rev = rv at *
        generalize z.m.rev = mr at *
        clear R4 a4 W5 hrun HG hCL
        cases rv <;> cases mr
        all_goals
          go_wp2
          go_ret
          exact HFIN.out
end Go.Proofs.Ytapabbpdfplpoaa
