/-
  Escrow: the plain laws: deliveries to an empty queue, once and again, what arrives, what is confirmed, what is revoked.
-/
import Derived.Test.YtapabbpdfplpoaaGA
set_option linter.unusedSimpArgs false
set_option linter.unusedVariables false
namespace Go.CH.Esc

theorem pr_setP (g : GM) (k : Int × Int) (p : PrG) (x : Int × Int) : (g.setP k p).pr x = if x = k then p else g.pr x := rfl
theorem recv_pr {g : GM} {f t : Int} (hne : f ≠ t) (m : MsgG) (x : Int × Int) : (recvM g f t m).pr x = if x = (t, f) then { g.pr (t, f) with conf := max (g.pr (t, f)).conf m.rc } else if x = (f, t) then { g.pr (f, t) with rc := max (g.pr (f, t)).rc m.up } else g.pr x := by
  have hk' : (t, f) ≠ (f, t) := fun e => by rw [Prod.mk.injEq] at e; exact hne e.2
  unfold recvM
  simp only [setA_pr, pr_setP, hk', if_false]
theorem recv_len (g : GM) (f t : Int) (m : MsgG) : (recvM g f t m).acc.length = g.acc.length := by unfold recvM; simp only [GM.setP, GM.setA, List.length_set]
theorem recv_is (g : GM) (f t : Int) (m : MsgG) (x : Int) : (recvM g f t m).is x = g.is x := by unfold GM.is; rw [recv_len]
theorem recv_pair (g : GM) (f t : Int) (m : MsgG) (x y : Int) : (recvM g f t m).pair x y = g.pair x y := by unfold GM.pair; rw [recv_is, recv_is]
theorem recv_at {g : GM} {f t : Int} (ht : g.is t = true) (m : MsgG) (x : Int) (hx : g.is x = true) :
    (recvM g f t m).at_ x = if x = t then { g.at_ t with u := (g.at_ t).u + isum (((g.pr (f, t)).H.take m.up).drop (g.pr (f, t)).rc), rev := (g.at_ t).rev || m.rev } else g.at_ x := by
  unfold recvM
  simp only []
  exact setA_at (g := (g.setP (f, t) _).setP (t, f) _) ht _ x hx
theorem pop_pr' (g : GM) (f t : Int) (again : Bool) (x : Int × Int) : (popM g f t again).pr x = if x = (f, t) then { g.pr (f, t) with ms := (g.pr (f, t)).ms.tail ++ if again then [(g.pr (f, t)).ms.headD default] else [] } else g.pr x := rfl
theorem pop_pair (g : GM) (f t : Int) (again : Bool) (x y : Int) : (popM g f t again).pair x y = g.pair x y := rfl
theorem pop_is (g : GM) (f t : Int) (again : Bool) (x : Int) : (popM g f t again).is x = g.is x := rfl
theorem pop_at (g : GM) (f t : Int) (again : Bool) (x : Int) : (popM g f t again).at_ x = g.at_ x := rfl
theorem pop_len (g : GM) (f t : Int) (again : Bool) : (popM g f t again).acc.length = g.acc.length := rfl

/-- A delivery that is not lost. -/
theorem del_eq {g : GM} {f t : Int} (hd : delE g f t = true) (again : Bool) : delM g f t false again = recvM (popM g f t again) f t ((g.pr (f, t)).ms.headD default) := by
  unfold delM; rw [if_pos hd]; rfl
theorem del_ne {g : GM} {f t : Int} (hd : delE g f t = true) : f ≠ t := (pair_is (delE_pair hd).1).2.2
theorem swap_ne {f t : Int} (h : f ≠ t) : (t, f) ≠ (f, t) := fun e => by rw [Prod.mk.injEq] at e; exact h e.2
theorem del_pr {g : GM} {f t : Int} (hd : delE g f t = true) (again : Bool) (x : Int × Int) :
    (delM g f t false again).pr x = if x = (t, f) then { g.pr (t, f) with conf := max (g.pr (t, f)).conf ((g.pr (f, t)).ms.headD default).rc }
      else if x = (f, t) then { g.pr (f, t) with rc := max (g.pr (f, t)).rc ((g.pr (f, t)).ms.headD default).up, ms := (g.pr (f, t)).ms.tail ++ if again then [(g.pr (f, t)).ms.headD default] else [] } else g.pr x := by
  have hne := del_ne hd
  rw [del_eq hd, recv_pr hne]
  simp only [pop_pr', swap_ne hne, if_false, if_true]
  split
  · rfl
  · split
    · rfl
    · rfl
theorem del_at {g : GM} {f t : Int} (hd : delE g f t = true) (again : Bool) (x : Int) (hx : g.is x = true) :
    (delM g f t false again).at_ x = if x = t then { g.at_ t with u := (g.at_ t).u + isum (((g.pr (f, t)).H.take ((g.pr (f, t)).ms.headD default).up).drop (g.pr (f, t)).rc), rev := (g.at_ t).rev || ((g.pr (f, t)).ms.headD default).rev } else g.at_ x := by
  rw [del_eq hd, recv_at (by rw [pop_is]; exact (pair_is (delE_pair hd).1).2.1) _ x (by rw [pop_is]; exact hx)]
  simp only [pop_at, pop_pr', if_true]
theorem del_len (g : GM) (f t : Int) (lost again : Bool) : (delM g f t lost again).acc.length = g.acc.length := by
  unfold delM
  split
  · simp only []
    split
    · rfl
    · rw [recv_len]; rfl
  · rfl
theorem del_is (g : GM) (f t : Int) (lost again : Bool) (x : Int) : (delM g f t lost again).is x = g.is x := by unfold GM.is; rw [del_len]
theorem del_pair (g : GM) (f t : Int) (lost again : Bool) (x y : Int) : (delM g f t lost again).pair x y = g.pair x y := by unfold GM.pair; rw [del_is, del_is]
theorem delE_iff {g : GM} {f t : Int} : delE g f t = true ↔ g.pair f t = true ∧ (g.pr (f, t)).ms ≠ [] := by
  unfold delE
  cases h : (g.pr (f, t)).ms <;> simp

/-! ### Once and again -/
/-- The last j messages that wait have nothing new. -/
def Cov (g : GM) (f t : Int) (j : Nat) : Prop := delE g f t = true ∧ ∀ m ∈ (g.pr (f, t)).ms.drop ((g.pr (f, t)).ms.length - j), m.up ≤ (g.pr (f, t)).rc
theorem cov_step {g : GM} {f t : Int} {j : Nat} (h : Cov g f t j) : Cov (delM g f t false true) f t (j + 1) ∧ ((delM g f t false true).pr (f, t)).ms.length = (g.pr (f, t)).ms.length := by
  obtain ⟨hd, hm⟩ := h
  have hne := del_ne hd
  obtain ⟨hp, m, l, hml⟩ := delE_pair hd
  have e1 : ((delM g f t false true).pr (f, t)) = { g.pr (f, t) with rc := max (g.pr (f, t)).rc m.up, ms := l ++ [m] } := by
    rw [del_pr hd, if_neg (fun e => swap_ne hne e.symm), if_pos rfl, hml]; rfl
  refine ⟨⟨?_, fun x hx => ?_⟩, by rw [e1, hml]; simp⟩
  · rw [delE_iff, del_pair, e1]; exact ⟨hp, by simp⟩
  · rw [e1] at hx ⊢
    simp only [List.length_append, List.length_singleton] at hx ⊢
    rw [hml] at hm
    simp only [List.length_cons] at hm
    by_cases hj : j ≤ l.length
    · rw [show l.length + 1 - (j + 1) = l.length - j by omega, List.drop_append_of_le_length (by omega)] at hx
      rw [show l.length + 1 - j = (l.length - j) + 1 by omega, List.drop_succ_cons] at hm
      rcases List.mem_append.1 hx with hx | hx
      · have := hm x hx; omega
      · simp only [List.mem_singleton] at hx; subst hx; omega
    · rw [show l.length + 1 - j = 0 by omega, List.drop_zero] at hm
      have hx' : x ∈ l ++ [m] := List.mem_of_mem_drop hx
      have : x ∈ m :: l := by simp at hx' ⊢; exact hx'.symm
      have := hm x this; omega
theorem cov_start {g : GM} {f t : Int} (hd : delE g f t = true) : Cov g f t 0 := ⟨hd, by simp⟩
theorem fly_eq {p q : PrG} (h : p.H = q.H) (h2 : p.rc = q.rc) : fly p = fly q := by unfold fly; rw [h, h2]
/-- When nothing new waits, a delivery changes nothing that is seen. -/
theorem cov_still {g : GM} {f t : Int} {j : Nat} (h : Cov g f t j) (hj : (g.pr (f, t)).ms.length ≤ j) : have_ (delM g f t false true) t = have_ g t ∧ flyG (delM g f t false true) = flyG g := by
  obtain ⟨hd, hm⟩ := h
  have hne := del_ne hd
  obtain ⟨hp, m, l, hml⟩ := delE_pair hd
  have ht := (pair_is hp).2.1
  rw [show (g.pr (f, t)).ms.length - j = 0 by omega, List.drop_zero] at hm
  have hup : m.up ≤ (g.pr (f, t)).rc := hm m (by rw [hml]; simp)
  have hhd : (g.pr (f, t)).ms.headD default = m := by rw [hml]; rfl
  constructor
  · unfold have_
    rw [del_is, ht, if_pos rfl, if_pos rfl, del_at hd true t ht, if_pos rfl, hhd]
    simp only []
    rw [List.drop_eq_nil_of_le (by rw [List.length_take]; omega)]
    simp [isum]
  · unfold flyG
    rw [del_len]
    congr 1
    refine List.map_congr_left fun x _ => ?_
    rw [del_pr hd true x, hhd]
    split
    · rename_i e; subst e; exact fly_eq rfl rfl
    · split
      · rename_i e; subst e; exact fly_eq rfl (by simp only []; omega)
      · rfl

/-! ### A queue is emptied -/
def delN (f t : Int) : Nat → GM → GM
  | 0, g => g
  | n + 1, g => delN f t n (delM g f t false false)
def emptyM (g : GM) (f t : Int) : GM := if g.pair f t = true then delN f t (g.pr (f, t)).ms.length g else g
theorem delN_succ (f t : Int) : ∀ (n : Nat) (g : GM), delN f t (n + 1) g = delM (delN f t n g) f t false false
  | 0, g => rfl
  | n + 1, g => by rw [delN, delN_succ f t n]; rfl
/-- What the deliveries of some messages leave. -/
structure Dlv (g : GM) (f t : Int) (g' : GM) : Prop where
  len : g'.acc.length = g.acc.length
  at_ : ∀ x, g.is x = true → x ≠ t → g'.at_ x = g.at_ x
  s : g.is t = true → (g'.at_ t).s = (g.at_ t).s
  rev : g.is t = true → (g.at_ t).rev = true → (g'.at_ t).rev = true
  oth : ∀ k, k ≠ (f, t) → k ≠ (t, f) → g'.pr k = g.pr k
  H : ∀ k, (g'.pr k).H = (g.pr k).H
  ms : ∀ k, k ≠ (f, t) → (g'.pr k).ms = (g.pr k).ms
  rcb : ∀ k, k ≠ (f, t) → (g'.pr k).rc = (g.pr k).rc
  rc : (g.pr (f, t)).rc ≤ (g'.pr (f, t)).rc
  cf : ∀ k, k ≠ (t, f) → (g'.pr k).conf = (g.pr k).conf
  cfb : (g.pr (t, f)).conf ≤ (g'.pr (t, f)).conf
theorem Dlv.refl (g : GM) (f t : Int) : Dlv g f t g := ⟨rfl, fun _ _ _ => rfl, fun _ => rfl, fun _ h => h, fun _ _ _ => rfl, fun _ => rfl, fun _ _ => rfl, fun _ _ => rfl, Nat.le_refl _, fun _ _ => rfl, Nat.le_refl _⟩
theorem Dlv.is {g g' : GM} {f t : Int} (h : Dlv g f t g') (x : Int) : g'.is x = g.is x := by unfold GM.is; rw [h.len]
theorem Dlv.pair {g g' : GM} {f t : Int} (h : Dlv g f t g') (x y : Int) : g'.pair x y = g.pair x y := by unfold GM.pair; rw [h.is, h.is]
theorem Dlv.trans {g g' g'' : GM} {f t : Int} (h : Dlv g f t g') (k : Dlv g' f t g'') : Dlv g f t g'' :=
  ⟨k.len.trans h.len, fun x hx hne => (k.at_ x (by rw [h.is]; exact hx) hne).trans (h.at_ x hx hne), fun ht => (k.s (by rw [h.is]; exact ht)).trans (h.s ht), fun ht hr => k.rev (by rw [h.is]; exact ht) (h.rev ht hr),
   fun x h1 h2 => (k.oth x h1 h2).trans (h.oth x h1 h2), fun x => (k.H x).trans (h.H x), fun x h1 => (k.ms x h1).trans (h.ms x h1), fun x h1 => (k.rcb x h1).trans (h.rcb x h1), Nat.le_trans h.rc k.rc, fun x h1 => (k.cf x h1).trans (h.cf x h1), Nat.le_trans h.cfb k.cfb⟩
theorem dlv_one {g : GM} {f t : Int} (hd : delE g f t = true) : Dlv g f t (delM g f t false false) := by
  have hne := del_ne hd
  have hs := swap_ne hne
  have ht := (pair_is (delE_pair hd).1).2.1
  refine ⟨del_len _ _ _ _ _, fun x hx hxt => ?_, fun _ => ?_, fun _ hr => ?_, fun k h1 h2 => ?_, fun k => ?_, fun k h1 => ?_, fun k h1 => ?_, ?_, fun k h1 => ?_, ?_⟩
  · rw [del_at hd _ x hx, if_neg hxt]
  · rw [del_at hd _ t ht, if_pos rfl]
  · rw [del_at hd _ t ht, if_pos rfl]; simp [hr]
  · rw [del_pr hd, if_neg h2, if_neg h1]
  · rw [del_pr hd]; split
    · rename_i e; subst e; rfl
    · split
      · rename_i e; subst e; rfl
      · rfl
  · rw [del_pr hd]; split
    · rename_i e; subst e; rfl
    · rfl
  · rw [del_pr hd]; split
    · rename_i e; subst e; rfl
    · first | rfl | (rw [if_neg h1])
  · rw [del_pr hd, if_neg hs.symm, if_pos rfl]; simp only []; omega
  · rw [del_pr hd, if_neg h1]; split
    · rename_i e; subst e; rfl
    · rfl
  · rw [del_pr hd, if_pos rfl]; simp only []; omega
theorem delN_all (f t : Int) : ∀ (n : Nat) (g : GM), g.pair f t = true → (g.pr (f, t)).ms.length = n → ∀ j, j ≤ n → Dlv g f t (delN f t j g) ∧ ((delN f t j g).pr (f, t)).ms = (g.pr (f, t)).ms.drop j ∧
    (∀ m ∈ (g.pr (f, t)).ms.take j, m.up ≤ ((delN f t j g).pr (f, t)).rc ∧ m.rc ≤ ((delN f t j g).pr (t, f)).conf ∧ (m.rev = true → ((delN f t j g).at_ t).rev = true)) := by
  intro n
  induction n with
  | zero =>
    intro g hp hn j hj
    obtain rfl : j = 0 := by omega
    exact ⟨Dlv.refl _ _ _, by simp [delN], by simp⟩
  | succ n ih =>
    intro g hp hn j hj
    have hd : delE g f t = true := delE_iff.2 ⟨hp, fun e => by rw [e] at hn; simp at hn⟩
    obtain ⟨-, m, l, hml⟩ := delE_pair hd
    have hne := del_ne hd
    have ht := (pair_is hp).2.1
    cases j with
    | zero => exact ⟨Dlv.refl _ _ _, by simp [delN], by simp⟩
    | succ j =>
      have D1 := dlv_one hd
      have e1 : ((delM g f t false false).pr (f, t)) = { g.pr (f, t) with rc := max (g.pr (f, t)).rc m.up, ms := l } := by
        rw [del_pr hd, if_neg (fun e => swap_ne hne e.symm), if_pos rfl, hml]; simp
      have e2 : ((delM g f t false false).pr (t, f)) = { g.pr (t, f) with conf := max (g.pr (t, f)).conf m.rc } := by
        rw [del_pr hd, if_pos rfl, hml]; rfl
      have e3 : m.rev = true → ((delM g f t false false).at_ t).rev = true := fun hr => by
        rw [del_at hd _ t ht, if_pos rfl, hml]; simp [hr]
      obtain ⟨D2, h2, h3⟩ := ih (delM g f t false false) (by rw [D1.pair]; exact hp) (by rw [e1]; rw [hml] at hn; simpa using hn) j (by omega)
      rw [delN]
      refine ⟨D1.trans D2, by rw [h2, e1, hml]; rfl, fun x hx => ?_⟩
      rw [hml, List.take_succ_cons, List.mem_cons] at hx
      rcases hx with rfl | hx
      · have q1 := D2.rc
        have q2 := D2.cfb
        rw [e1] at q1
        rw [e2] at q2
        simp only [] at q1 q2
        exact ⟨by omega, by omega, fun hr => D2.rev (by rw [D1.is]; exact ht) (e3 hr)⟩
      · exact h3 x (by rw [e1]; exact hx)
theorem empty_all {g : GM} {f t : Int} (hp : g.pair f t = true) : Dlv g f t (emptyM g f t) ∧ ((emptyM g f t).pr (f, t)).ms = [] ∧
    (∀ m ∈ (g.pr (f, t)).ms, m.up ≤ ((emptyM g f t).pr (f, t)).rc ∧ m.rc ≤ ((emptyM g f t).pr (t, f)).conf ∧ (m.rev = true → ((emptyM g f t).at_ t).rev = true)) := by
  obtain ⟨h1, h2, h3⟩ := delN_all f t _ g hp rfl _ (Nat.le_refl _)
  unfold emptyM
  rw [if_pos hp]
  refine ⟨h1, by rw [h2]; simp, fun m hm => h3 m (by simpa using hm)⟩
theorem Inv.delN {g : GM} {U : Int} (h : Inv g U) (f t : Int) (n : Nat) : Inv (Esc.delN f t n g) U := by
  induction n generalizing g with
  | zero => exact h
  | succ n ih => exact ih (h.del f t false false)
theorem HB.delN {g : GM} {b : Nat} (h : HB g b) (f t : Int) (n : Nat) : HB (Esc.delN f t n g) b := by
  induction n generalizing g with
  | zero => exact h
  | succ n ih => exact ih (h.del f t false false)
theorem Inv.empty {g : GM} {U : Int} (h : Inv g U) (f t : Int) : Inv (emptyM g f t) U := by unfold emptyM; split; exact h.delN _ _ _; exact h
theorem HB.empty {g : GM} {b : Nat} (h : HB g b) (f t : Int) : HB (emptyM g f t) b := by unfold emptyM; split; exact h.delN _ _ _; exact h
theorem empty_dlv (g : GM) (f t : Int) : Dlv g f t (emptyM g f t) := by
  by_cases hp : g.pair f t = true
  · exact (empty_all hp).1
  · unfold emptyM; rw [if_neg hp]; exact Dlv.refl _ _ _

/-! ### A message is sent and delivered -/
theorem send_eq {g : GM} {f t : Int} (h : sendE g f t = 0) : sendM g f t = g.setP (f, t) { g.pr (f, t) with ms := (g.pr (f, t)).ms ++ [⟨(g.pr (f, t)).conf, (g.pr (f, t)).H.length, (g.pr (t, f)).rc, (g.at_ f).rev⟩] } := by unfold sendM; rw [if_pos h]
theorem sendE_ok {g : GM} {f t : Int} (hp : g.pair f t = true) (h : (g.pr (f, t)).ms.length < 100) : sendE g f t = 0 := by unfold sendE; rw [if_neg (by simp [hp]), if_neg (by omega)]
/-- A queue that is emptied, a message sent, and the queue emptied again. -/
def tellM (g : GM) (f t : Int) : GM := emptyM (sendM g f t) f t
structure Told (g : GM) (f t : Int) (g' : GM) : Prop where
  dl : Dlv g f t g'
  ms : (g'.pr (f, t)).ms = []
  all : (g'.pr (f, t)).rc = (g'.pr (f, t)).H.length
  cf : (g.pr (t, f)).conf ≤ (g'.pr (t, f)).conf ∧ (g.pr (t, f)).rc ≤ (g.pr (t, f)).rc
  con : (g.pr (f, t)).rc ≤ (g'.pr (f, t)).rc
  back : (g'.pr (t, f)).rc ≤ (g'.pr (t, f)).conf
  rv : (g.at_ f).rev = true → (g'.at_ t).rev = true
theorem send_dlv {g : GM} {f t : Int} (h : sendE g f t = 0) : (sendM g f t).acc.length = g.acc.length ∧ (∀ x, (sendM g f t).at_ x = g.at_ x) ∧ (∀ k, k ≠ (f, t) → (sendM g f t).pr k = g.pr k) ∧ ((sendM g f t).pr (f, t)).H = (g.pr (f, t)).H ∧ ((sendM g f t).pr (f, t)).rc = (g.pr (f, t)).rc ∧ ((sendM g f t).pr (f, t)).conf = (g.pr (f, t)).conf ∧
    ((sendM g f t).pr (f, t)).ms = (g.pr (f, t)).ms ++ [⟨(g.pr (f, t)).conf, (g.pr (f, t)).H.length, (g.pr (t, f)).rc, (g.at_ f).rev⟩] := by
  rw [send_eq h]
  refine ⟨rfl, fun _ => rfl, fun k hk => by rw [pr_setP, if_neg hk], ?_, ?_, ?_, ?_⟩ <;> rw [pr_setP, if_pos rfl]
theorem send_pair (g : GM) (f t x y : Int) : (sendM g f t).pair x y = g.pair x y := by unfold sendM; split <;> rfl
theorem told {g : GM} {U : Int} (hI : Inv g U) {f t : Int} (hp : g.pair f t = true) (hE : sendE g f t = 0) : Told g f t (tellM g f t) := by
  obtain ⟨s1, s2, s3, s4, s5, s6, s7⟩ := send_dlv hE
  have hp' : (sendM g f t).pair f t = true := by rw [send_pair]; exact hp
  obtain ⟨D, e1, e2⟩ := empty_all hp'
  have hI' : Inv (tellM g f t) U := (hI.send f t).empty f t
  have hpt : (tellM g f t).pair f t = true := by unfold tellM; rw [D.pair]; exact hp'
  have hne := (pair_is hp).2.2
  have hk := hI'.pr f t hpt
  have q := e2 ⟨(g.pr (f, t)).conf, (g.pr (f, t)).H.length, (g.pr (t, f)).rc, (g.at_ f).rev⟩ (by rw [s7]; simp)
  have his : ∀ x, (sendM g f t).is x = g.is x := fun x => by unfold GM.is; rw [s1]
  have hb : ((tellM g f t).pr (t, f)).rc = (g.pr (t, f)).rc := by unfold tellM; rw [D.rcb _ (swap_ne hne), s3 _ (swap_ne hne)]
  refine ⟨⟨D.len.trans s1, fun x hx hxt => (D.at_ x (by rw [his]; exact hx) hxt).trans (s2 x), fun ht => by rw [show (tellM g f t) = emptyM (sendM g f t) f t from rfl, D.s (by rw [his]; exact ht), s2], fun ht hr => D.rev (by rw [his]; exact ht) (by rw [s2]; exact hr),
    fun k h1 h2 => (D.oth k h1 h2).trans (s3 k h1), fun k => (D.H k).trans ?_, fun k h1 => by rw [show (tellM g f t) = emptyM (sendM g f t) f t from rfl, D.ms k h1, s3 k h1], fun k h1 => by rw [show (tellM g f t) = emptyM (sendM g f t) f t from rfl, D.rcb k h1, s3 k h1], by rw [← s5]; exact D.rc,
    fun k h1 => (D.cf k h1).trans ?_, by rw [← s3 _ (swap_ne hne)]; exact D.cfb⟩, e1, ?_, ⟨by rw [← s3 _ (swap_ne hne)]; exact D.cfb, Nat.le_refl _⟩, by rw [← s5]; exact D.rc, ?_, fun hr => q.2.2 hr⟩
  · by_cases e : k = (f, t)
    · subst e; exact s4
    · rw [s3 k e]
  · by_cases e : k = (f, t)
    · subst e; exact s6
    · rw [s3 k e]
  · have h1 := hk.rl
    have h2 : ((tellM g f t).pr (f, t)).H = (g.pr (f, t)).H := by unfold tellM; rw [D.H, s4]
    have h3 : (g.pr (f, t)).H.length ≤ ((tellM g f t).pr (f, t)).rc := q.1
    rw [h2] at h1 ⊢
    omega
  · rw [hb]; exact q.2.1
end Go.CH.Esc
