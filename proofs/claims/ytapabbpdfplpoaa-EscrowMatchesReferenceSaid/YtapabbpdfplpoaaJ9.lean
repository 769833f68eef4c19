/-
  Escrow: the plain laws of what arrives, what is confirmed, what is revoked.
  The reference of Escrow: what it is in memory; is, Have, Spent, Revoke.
  The reference of Escrow: Spent, Spend, Return, Revoke.
  The reference of Escrow: Spend, Return.
-/
import Derived.Test.YtapabbpdfplpoaaJ5
import Derived.Test.YtapabbpdfplpoaaJ8
set_option linter.unusedSimpArgs false
set_option linter.unusedVariables false
namespace Go.CH.Esc

/-- Nothing waits from f to t, and nothing flies. -/
def Done (g : GM) (f t : Int) : Prop := (g.pr (f, t)).ms = [] ∧ (g.pr (f, t)).rc = (g.pr (f, t)).H.length
theorem Dlv.done {g g' : GM} {f t : Int} (h : Dlv g f t g') {a b : Int} (hne : (a, b) ≠ (f, t)) (hd : Done g a b) : Done g' a b := by
  unfold Done
  rw [h.ms _ hne, h.rcb _ hne, h.H]; exact hd
theorem empty_sendE {g : GM} {f t : Int} (hp : g.pair f t = true) : sendE (emptyM g f t) f t = 0 := by
  have h := empty_all hp
  exact sendE_ok (by rw [h.1.pair]; exact hp) (by rw [h.2.1]; simp)
/-- One pair is told. -/
theorem arr_step {g : GM} {U : Int} (hI : Inv g U) {f t : Int} (hp : g.pair f t = true) :
    Done (tellM (emptyM g f t) f t) f t ∧ (∀ a b, Done g a b → Done (tellM (emptyM g f t) f t) a b) ∧ (tellM (emptyM g f t) f t).acc.length = g.acc.length := by
  have h := empty_all hp
  have hT := told (hI.empty f t) (f := f) (t := t) (by rw [h.1.pair]; exact hp) (empty_sendE hp)
  refine ⟨⟨hT.ms, hT.all⟩, fun a b hd => ?_, hT.dl.len.trans h.1.len⟩
  by_cases e : (a, b) = (f, t)
  · rw [Prod.mk.injEq] at e
    obtain ⟨rfl, rfl⟩ := e
    exact ⟨hT.ms, hT.all⟩
  · exact hT.dl.done e (h.1.done e hd)
def AllDone (g : GM) : Prop := ∀ f t, g.pair f t = true → Done g f t
theorem isum_zero {α : Type} {l : List α} {f : α → Int} (h : ∀ x ∈ l, f x = 0) : isum (l.map f) = 0 := by
  induction l with
  | nil => rfl
  | cons a l ih => simp only [List.map_cons, isum, h a (by simp), ih (fun x hx => h x (by simp [hx]))]; rfl
theorem done_fly {g : GM} {f t : Int} (h : Done g f t) : fly (g.pr (f, t)) = 0 := by
  unfold fly; rw [h.2, List.drop_length]; rfl
theorem done_flyG {g : GM} (h : AllDone g) : flyG g = 0 := isum_zero fun k hk => done_fly (h k.1 k.2 (pair_mem.2 hk))
theorem del_u {g : GM} {U : Int} (hI : Inv g U) (f t : Int) (again : Bool) (hd : delE g f t = true) : (g.at_ t).u ≤ ((delM g f t false again).at_ t).u := by
  obtain ⟨hp, m, l, hml⟩ := delE_pair hd
  have ht := (pair_is hp).2.1
  rw [del_at hd again t ht, if_pos rfl]
  have := isum_nonneg (l := ((g.pr (f, t)).H.take ((g.pr (f, t)).ms.headD default).up).drop (g.pr (f, t)).rc) (fun x hx => by have := (hI.pr f t hp).pos x (List.mem_of_mem_take (List.mem_of_mem_drop hx)); omega)
  simp only []; omega
theorem delN_u {U : Int} (f t : Int) : ∀ (n : Nat) {g : GM}, Inv g U → (g.at_ t).u ≤ ((delN f t n g).at_ t).u
  | 0, g, _ => Int.le_refl _
  | n + 1, g, hI => by
    rw [delN]
    refine Int.le_trans ?_ (delN_u f t n (hI.del f t false false))
    cases hd : delE g f t with
    | true => exact del_u hI f t false hd
    | false => unfold delM; rw [if_neg (by simp [hd])]; exact Int.le_refl _
theorem tell_u {g : GM} {U : Int} (hI : Inv g U) (f t : Int) : (g.at_ t).u ≤ ((tellM g f t).at_ t).u := by
  have h1 : ((sendM g f t).at_ t) = g.at_ t := by unfold sendM; split <;> rfl
  unfold tellM emptyM
  split
  · rw [← h1]; exact delN_u f t _ (hI.send f t)
  · rw [h1]; exact Int.le_refl _
theorem have_is {g : GM} {r : Int} (h : g.is r = true) : have_ g r = (g.at_ r).u := by unfold have_; rw [if_pos h]
theorem give_eq {g : GM} {f t k : Int} (h : giveE g f t k = 0) : giveM g f t k = (g.setA f { g.at_ f with u := (g.at_ f).u - k }).setP (f, t) { g.pr (f, t) with H := (g.pr (f, t)).H ++ [k] } := by unfold giveM; rw [if_pos h]
theorem giveE_ok {g : GM} {f t k : Int} (hp : g.pair f t = true) (hk : 1 ≤ k) (hu : k ≤ (g.at_ f).u) (hq : (g.pr (f, t)).H.length - (g.pr (f, t)).conf < 100) : giveE g f t k = 0 := by
  unfold giveE
  rw [if_neg (by simp [hp]; omega), if_neg (by omega), if_neg (by omega)]
/-- What is given arrives with the next message. -/
theorem arrive_plain {g : GM} {U : Int} (hI : Inv g U) (hD : AllDone g) {f t : Int} (hp : g.pair f t = true) (hu : have_ g f ≠ 0) :
    sendE g t f = 0 ∧ giveE (tellM g t f) f t 1 = 0 ∧ flyG (giveM (tellM g t f) f t 1) = 1 ∧ have_ (giveM (tellM g t f) f t 1) t = have_ g t ∧ sendE (giveM (tellM g t f) f t 1) f t = 0 ∧
      delE (sendM (giveM (tellM g t f) f t 1) f t) f t = true ∧ flyG (delM (sendM (giveM (tellM g t f) f t 1) f t) f t false false) = 0 ∧ have_ (delM (sendM (giveM (tellM g t f) f t 1) f t) f t false false) t = have_ g t + 1 := by
  obtain ⟨hf, ht, hne⟩ := pair_is hp
  have hpb := pair_swap hp
  have hs := swap_ne hne
  have e1 : sendE g t f = 0 := sendE_ok hpb (by rw [(hD t f hpb).1]; simp)
  have hT := told hI hpb e1
  have hI2 : Inv (tellM g t f) U := (hI.send t f).empty t f
  have hD2 : AllDone (tellM g t f) := fun a b hab => by
    rw [hT.dl.pair] at hab
    by_cases e : (a, b) = (t, f)
    · rw [Prod.mk.injEq] at e
      obtain ⟨rfl, rfl⟩ := e
      exact ⟨hT.ms, hT.all⟩
    · exact hT.dl.done e (hD a b hab)
  have hp2 : (tellM g t f).pair f t = true := by rw [hT.dl.pair]; exact hp
  have hd2 := hD2 f t hp2
  have hf2 : (tellM g t f).is f = true := by rw [hT.dl.is]; exact hf
  have ht2 : (tellM g t f).is t = true := by rw [hT.dl.is]; exact ht
  have hu0 := (hI.at_ hf).1
  rw [have_is hf] at hu
  have hu2 := tell_u hI t f
  have hbk := hT.back
  have e2 : giveE (tellM g t f) f t 1 = 0 := giveE_ok hp2 (by omega) (by omega) (by have := hd2.2; omega)
  have hat : (tellM g t f).at_ t = g.at_ t := hT.dl.at_ t ht (fun e => hne e.symm)
  generalize hg2 : tellM g t f = g2 at *
  have e3 := give_eq e2
  have hfl : flyG (giveM g2 f t 1) = 1 := by
    rw [e3, fly_setP (by rw [setA_pair]; exact hp2), fly_setA, done_flyG hD2, setA_pr, done_fly hd2, fly_snoc _ _ (by rw [hd2.2]; exact Nat.le_refl _), done_fly hd2]; rfl
  have hpr3 : ∀ x, (giveM g2 f t 1).pr x = if x = (f, t) then { g2.pr (f, t) with H := (g2.pr (f, t)).H ++ [1] } else g2.pr x := fun x => by rw [e3, pr_setP]; rfl
  have hp3 : (giveM g2 f t 1).pair f t = true := by rw [e3, setP_pair, setA_pair]; exact hp2
  have hat3 : (giveM g2 f t 1).at_ t = g2.at_ t := by rw [e3, setP_at, setA_at hf2 _ t ht2, if_neg (fun e => hne e.symm)]
  have his3 : (giveM g2 f t 1).is t = true := by rw [e3, setP_is, setA_is]; exact ht2
  have hlen3 : (giveM g2 f t 1).acc.length = g2.acc.length := by rw [e3]; exact setA_len _ _ _
  have e5 : sendE (giveM g2 f t 1) f t = 0 := sendE_ok hp3 (by rw [hpr3, if_pos rfl]; simp only []; rw [hd2.1]; simp)
  generalize giveM g2 f t 1 = g3 at *
  obtain ⟨s1, s2, s3, s4, s5, s6, s7⟩ := send_dlv e5
  have hp4 : (sendM g3 f t).pair f t = true := by rw [send_pair]; exact hp3
  have hms4 : ((sendM g3 f t).pr (f, t)).ms = [⟨(g3.pr (f, t)).conf, (g3.pr (f, t)).H.length, (g3.pr (t, f)).rc, (g3.at_ f).rev⟩] := by
    rw [s7, hpr3, if_pos rfl]; simp only []; rw [hd2.1]; simp
  have e6 : delE (sendM g3 f t) f t = true := delE_iff.2 ⟨hp4, by rw [hms4]; simp⟩
  have his4 : (sendM g3 f t).is t = true := by unfold GM.is at his3 ⊢; rw [s1]; exact his3
  refine ⟨e1, e2, hfl, by rw [have_is his3, hat3, hat, have_is ht], e5, e6, ?_, ?_⟩
  · refine isum_zero fun k hk => ?_
    rw [del_len, s1, hlen3] at hk
    rw [del_pr e6]
    have hk2 : g2.pair k.1 k.2 = true := pair_mem.2 hk
    split
    · rename_i e
      have h1 := done_fly (hD2 t f (pair_swap hp2))
      rw [s3 _ hs]
      show isum ((g3.pr (t, f)).H.drop (g3.pr (t, f)).rc) = 0
      rw [hpr3, if_neg hs]; exact h1
    · split
      · show isum (((sendM g3 f t).pr (f, t)).H.drop (max ((sendM g3 f t).pr (f, t)).rc (((sendM g3 f t).pr (f, t)).ms.headD default).up)) = 0
        rw [hms4, s4]
        simp only [List.headD_cons]
        rw [List.drop_eq_nil_of_le (by omega)]; rfl
      · rename_i h1 h2
        rw [s3 _ h2, hpr3, if_neg h2]
        exact done_fly (hD2 k.1 k.2 hk2)
  · rw [have_is (by rw [del_is]; exact his4), del_at e6 false t his4, if_pos rfl, hms4, s2, s4, s5, hat3, hat, have_is ht]
    simp only [List.headD_cons]
    rw [hpr3, if_pos rfl]
    simp only []
    rw [hd2.2, List.take_length, List.drop_append_of_le_length (by omega), List.drop_length]
    simp [isum]
/-! ### What is revoked -/
theorem revoke_plain {g : GM} {U : Int} (hI : Inv g U) {f t : Int} (hf : g.is f = true) (ht : g.is t = true) :
    revE g f = 0 ∧ spendE (revM g f) f 1 = 22 ∧ spendM (revM g f) f 1 = revM g f ∧ (revM g f).is t = true ∧ ((revM g f).at_ f).rev = true ∧ ((revM g f).at_ t).s = (g.at_ t).s ∧ (f ≠ t → (revM g f).pair f t = true) ∧ (revM g f).is f = true := by
  have e1 : revE g f = 0 := by simp [revE, hf]
  have e2 : revM g f = g.setA f { g.at_ f with rev := true } := by simp [revM, hf]
  have h1 : (revM g f).is f = true := by rw [e2, setA_is]; exact hf
  have h3 : ((revM g f).at_ f).rev = true := by rw [e2, setA_at hf _ f hf, if_pos rfl]
  have h4 : spendE (revM g f) f 1 = 22 := by simp [spendE, h1, h3]
  refine ⟨e1, h4, by simp [spendM, h4], by rw [e2, setA_is]; exact ht, h3, ?_, fun hne => ?_, h1⟩
  · rw [e2, setA_at hf _ t ht]
    split
    · rename_i e; rw [e]
    · rfl
  · rw [e2, setA_pair]; simp [GM.pair, hf, ht, hne]
theorem revoke_told {g : GM} {U : Int} (hI : Inv g U) {f t : Int} (hp : g.pair f t = true) (hr : (g.at_ f).rev = true) :
    sendE (emptyM g f t) f t = 0 ∧ delE (sendM (emptyM g f t) f t) f t = true ∧ ((delM (sendM (emptyM g f t) f t) f t false false).at_ t).rev = true ∧ ((delM (sendM (emptyM g f t) f t) f t false false).at_ t).s = (g.at_ t).s ∧ (delM (sendM (emptyM g f t) f t) f t false false).is t = true := by
  obtain ⟨hf, ht, hne⟩ := pair_is hp
  obtain ⟨D, hm, -⟩ := empty_all hp
  have e1 := empty_sendE hp
  have hat : (emptyM g f t).at_ f = g.at_ f := D.at_ f hf hne
  have hs := D.s ht
  have hp1 : (emptyM g f t).pair f t = true := by rw [D.pair]; exact hp
  have ht1 : (emptyM g f t).is t = true := by rw [D.is]; exact ht
  generalize emptyM g f t = g1 at *
  obtain ⟨s1, s2, s3, s4, s5, s6, s7⟩ := send_dlv e1
  have hp2 : (sendM g1 f t).pair f t = true := by rw [send_pair]; exact hp1
  have e2 : delE (sendM g1 f t) f t = true := delE_iff.2 ⟨hp2, by rw [s7, hm]; simp⟩
  have ht2 : (sendM g1 f t).is t = true := by unfold GM.is at ht1 ⊢; rw [s1]; exact ht1
  refine ⟨e1, e2, ?_, ?_, by rw [del_is]; exact ht2⟩
  · rw [del_at e2 false t ht2, if_pos rfl, s7, hm]
    simp [hat, hr]
  · rw [del_at e2 false t ht2, if_pos rfl, s2]; exact hs
theorem revoke_end {g : GM} {U : Int} (hI : Inv g U) {t : Int} (ht : g.is t = true) (hr : (g.at_ t).rev = true) : spendE g t 1 = 22 ∧ spendM g t 1 = g ∧
    (1 ≤ (g.at_ t).s → retE g t 1 = 0 ∧ have_ (retM g t 1) t = have_ g t + 1 ∧ spentG (retM g t 1) = spentG g - 1) := by
  have h4 : spendE g t 1 = 22 := by simp [spendE, ht, hr]
  refine ⟨h4, by simp [spendM, h4], fun hs => ?_⟩
  have e1 : retE g t 1 = 0 := by
    unfold retE
    rw [if_neg (by simp [ht]), if_neg (by omega)]
  have e2 : retM g t 1 = g.setA t { g.at_ t with u := (g.at_ t).u + 1, s := (g.at_ t).s - 1 } := by unfold retM; rw [if_pos e1]
  refine ⟨e1, ?_, ?_⟩
  · rw [e2, have_is (by rw [setA_is]; exact ht), setA_at ht _ t ht, if_pos rfl, have_is ht]
  · rw [e2, spent_setA ht]; simp only []; omega
/-- A unit that was spent. -/
theorem spend_s {g : GM} {U : Int} (hI : Inv g U) {t : Int} (h : spendE g t 1 = 0) : 1 ≤ ((spendM g t 1).at_ t).s ∧ g.is t = true := by
  have ht : g.is t = true := by
    cases hh : g.is t with
    | true => rfl
    | false => simp [spendE, hh] at h
  have := (hI.at_ ht).2
  unfold spendM
  rw [if_pos h, setA_at ht _ t ht, if_pos rfl]
  simp only []
  exact ⟨by omega, ht⟩
theorem spend_is (g : GM) (t k x : Int) : (spendM g t k).is x = g.is x := by unfold spendM; split; exact setA_is _ _ _ _; rfl
/-! ### What is confirmed -/
theorem confirm_plain {g : GM} {U : Int} (hI : Inv g U) {f t : Int} (hp : g.pair f t = true) :
    sendE (emptyM g f t) f t = 0 ∧ sendE (emptyM (tellM (emptyM g f t) f t) t f) t f = 0 ∧
      let g4 := tellM (emptyM (tellM (emptyM g f t) f t) t f) t f
      g4.pair f t = true ∧ (g4.pr (f, t)).H.length = (g4.pr (f, t)).conf := by
  have h := empty_all hp
  have hp1 : (emptyM g f t).pair f t = true := by rw [h.1.pair]; exact hp
  have e1 := empty_sendE hp
  have hI1 := hI.empty f t
  have hT := told hI1 hp1 e1
  have hI2 : Inv (tellM (emptyM g f t) f t) U := (hI1.send f t).empty f t
  have hp2 : (tellM (emptyM g f t) f t).pair f t = true := by rw [hT.dl.pair]; exact hp1
  have hall := hT.all
  have hne := (pair_is hp).2.2
  have hs : (f, t) ≠ (t, f) := fun e => swap_ne hne e.symm
  generalize tellM (emptyM g f t) f t = g2 at *
  have hb := empty_all (pair_swap hp2)
  have hp3 : (emptyM g2 t f).pair t f = true := by rw [hb.1.pair]; exact pair_swap hp2
  have e3 := empty_sendE (pair_swap hp2)
  have hI3 := hI2.empty t f
  have hT3 := told hI3 hp3 e3
  have hI4 : Inv (tellM (emptyM g2 t f) t f) U := (hI3.send t f).empty t f
  have hp4 : (tellM (emptyM g2 t f) t f).pair f t = true := by rw [hT3.dl.pair, hb.1.pair]; exact hp2
  have hk := hI4.pr f t hp4
  refine ⟨e1, e3, hp4, ?_⟩
  have q1 := hT3.back
  have q2 : ((tellM (emptyM g2 t f) t f).pr (f, t)).rc = (g2.pr (f, t)).rc := by rw [hT3.dl.rcb _ hs, hb.1.rcb _ hs]
  have q3 : ((tellM (emptyM g2 t f) t f).pr (f, t)).H = (g2.pr (f, t)).H := by rw [hT3.dl.H, hb.1.H]
  have := hk.cr
  have := hk.rl
  rw [q3] at *
  omega
/-- What gives leave, one after the other. -/
structure Gives (h : Int) (f t : Int) (g : GM) (j : Nat) : Prop where
  pair : g.pair f t = true
  hv : have_ g f = h - j
  fl : (g.pr (f, t)).H.length = (g.pr (f, t)).conf + j
theorem gives_next {h f t : Int} {g : GM} {j : Nat} (H : Gives h f t g j) (hj : j < 100) (hh : (j : Int) < h) : giveE g f t 1 = 0 ∧ Gives h f t (giveM g f t 1) (j + 1) := by
  obtain ⟨hf, ht, hne⟩ := pair_is H.pair
  have h1 := H.hv
  rw [have_is hf] at h1
  have h2 := H.fl
  have e := giveE_ok H.pair (k := 1) (by omega) (by omega) (by omega)
  refine ⟨e, ?_⟩
  rw [give_eq e]
  refine ⟨by rw [setP_pair, setA_pair]; exact H.pair, ?_, ?_⟩
  · rw [have_is (by rw [setP_is, setA_is]; exact hf), setP_at, setA_at hf _ f hf, if_pos rfl]
    simp only []; omega
  · rw [pr_setP, if_pos rfl]; simp; omega
theorem gives_end {h f t : Int} {g : GM} {j : Nat} (H : Gives h f t g j) (hj : j ≤ 100) (hh : (j : Int) ≤ h) (he : j = 100 ∨ (j : Int) = h) : giveE g f t 1 = if h ≤ 100 then 19 else 28 := by
  obtain ⟨hf, ht, hne⟩ := pair_is H.pair
  have h1 := H.hv
  rw [have_is hf] at h1
  have h2 := H.fl
  unfold giveE
  rw [if_neg (by simp [H.pair])]
  by_cases hq : (j : Int) = h
  · rw [if_pos (by omega), if_pos (by omega)]
  · have hj2 : j = 100 := by omega
    rw [if_neg (by omega), if_pos (by omega), if_neg (by omega)]
/-! ### Others -/
/-- Replicas 0 and 1 have the same in both. -/
structure Sim (x y : GM) : Prop where
  lx : x.acc.length = 4
  ly : y.acc.length = 4
  a0 : x.at_ 0 = y.at_ 0
  a1 : x.at_ 1 = y.at_ 1
  p0 : x.pr (0, 1) = y.pr (0, 1)
  p1 : x.pr (1, 0) = y.pr (1, 0)
theorem Sim.is {x y : GM} (h : Sim x y) (r : Int) : x.is r = y.is r := by unfold GM.is; rw [h.lx, h.ly]
theorem Sim.pair {x y : GM} (h : Sim x y) (f t : Int) : x.pair f t = y.pair f t := by unfold GM.pair; rw [h.is, h.is]
theorem Sim.at_ {x y : GM} (h : Sim x y) {r : Int} (hr : r = 0 ∨ r = 1) : x.at_ r = y.at_ r := by
  rcases hr with rfl | rfl
  · exact h.a0
  · exact h.a1
theorem Sim.pr {x y : GM} (h : Sim x y) {f t : Int} (hp : x.pair f t = true) (hf : f = 0 ∨ f = 1) (ht : t = 0 ∨ t = 1) : x.pr (f, t) = y.pr (f, t) := by
  have hne := (pair_is hp).2.2
  rcases hf with rfl | rfl <;> rcases ht with rfl | rfl
  · exact (hne rfl).elim
  · exact h.p0
  · exact h.p1
  · exact (hne rfl).elim
theorem is_01 {g : GM} (h : g.acc.length = 4) {r : Int} (hr : r = 0 ∨ r = 1) : g.is r = true := by
  unfold GM.is; rw [h]; rcases hr with rfl | rfl <;> rfl
/-- An account of 0 or 1 is written in both. -/
theorem Sim.setA {x y : GM} (h : Sim x y) {r : Int} (hr : r = 0 ∨ r = 1) (a : Acc) : Sim (x.setA r a) (y.setA r a) := by
  have i0 := fun g hg => is_01 (g := g) hg (r := 0) (.inl rfl)
  have i1 := fun g hg => is_01 (g := g) hg (r := 1) (.inr rfl)
  have ir := fun g hg => is_01 (g := g) hg hr
  refine ⟨by rw [setA_len]; exact h.lx, by rw [setA_len]; exact h.ly, ?_, ?_, h.p0, h.p1⟩
  · rw [setA_at (ir x h.lx) _ 0 (i0 x h.lx), setA_at (ir y h.ly) _ 0 (i0 y h.ly), h.a0]
  · rw [setA_at (ir x h.lx) _ 1 (i1 x h.lx), setA_at (ir y h.ly) _ 1 (i1 y h.ly), h.a1]
theorem Sim.setP {x y : GM} (h : Sim x y) (k : Int × Int) (p : PrG) : Sim (x.setP k p) (y.setP k p) := by
  refine ⟨h.lx, h.ly, h.a0, h.a1, ?_, ?_⟩
  · rw [pr_setP, pr_setP, h.p0]
  · rw [pr_setP, pr_setP, h.p1]
theorem Sim.do {x y : GM} (h : Sim x y) {q : ActG} (ha : q.a = 0 ∨ q.a = 1) (hb : q.b = 0 ∨ q.b = 1) : doE x q = doE y q ∧ doB x q = doB y q ∧ Sim (doM x q) (doM y q) := by
  have hat := h.at_ ha
  have hbt := h.at_ hb
  have his := h.is q.a
  have hp := h.pair q.a q.b
  have e0 : spendE x q.a q.u = spendE y q.a q.u := by unfold spendE; rw [his, hat]
  have e1 : retE x q.a q.u = retE y q.a q.u := by unfold retE; rw [his, hat]
  have s0 : Sim (spendM x q.a q.u) (spendM y q.a q.u) := by
    unfold spendM
    rw [e0, hat]
    split
    · exact h.setA ha _
    · exact h
  have s1 : Sim (retM x q.a q.u) (retM y q.a q.u) := by
    unfold retM
    rw [e1, hat]
    split
    · exact h.setA ha _
    · exact h
  have s5 : Sim (revM x q.a) (revM y q.a) := by
    unfold revM
    rw [his, hat]
    split
    · exact h.setA ha _
    · exact h
  have e5 : revE x q.a = revE y q.a := by unfold revE; rw [his]
  have rest : giveE x q.a q.b q.u = giveE y q.a q.b q.u ∧ Sim (giveM x q.a q.b q.u) (giveM y q.a q.b q.u) ∧ sendE x q.a q.b = sendE y q.a q.b ∧ Sim (sendM x q.a q.b) (sendM y q.a q.b) ∧ delE x q.a q.b = delE y q.a q.b ∧ Sim (delM x q.a q.b q.lost q.again) (delM y q.a q.b q.lost q.again) := by
    cases hpp : x.pair q.a q.b with
    | false =>
      have hpy : y.pair q.a q.b = false := by rw [← hp]; exact hpp
      have g1 : giveE x q.a q.b q.u = 1 := by simp [giveE, hpp]
      have g2 : giveE y q.a q.b q.u = 1 := by simp [giveE, hpy]
      have n1 : sendE x q.a q.b = 1 := by simp [sendE, hpp]
      have n2 : sendE y q.a q.b = 1 := by simp [sendE, hpy]
      have d1 : delE x q.a q.b = false := by simp [delE, hpp]
      have d2 : delE y q.a q.b = false := by simp [delE, hpy]
      refine ⟨by rw [g1, g2], ?_, by rw [n1, n2], ?_, by rw [d1, d2], ?_⟩
      · unfold giveM; rw [g1, g2]; exact h
      · unfold sendM; rw [n1, n2]; exact h
      · unfold delM; rw [d1, d2]; exact h
    | true =>
      have hpr := h.pr hpp ha hb
      have hprb := h.pr (pair_swap hpp) hb ha
      have g1 : giveE x q.a q.b q.u = giveE y q.a q.b q.u := by unfold giveE; rw [hp, hat, hpr]
      have n1 : sendE x q.a q.b = sendE y q.a q.b := by unfold sendE; rw [hp, hpr]
      have d1 : delE x q.a q.b = delE y q.a q.b := by unfold delE; rw [hp, hpr]
      refine ⟨g1, ?_, n1, ?_, d1, ?_⟩
      · unfold giveM
        rw [g1, hat, hpr]
        split
        · exact (h.setA ha _).setP _ _
        · exact h
      · unfold sendM
        rw [n1, hat, hpr, hprb]
        split
        · exact h.setP _ _
        · exact h
      · unfold delM
        rw [d1]
        split
        · have hpop : Sim (popM x q.a q.b q.again) (popM y q.a q.b q.again) := by unfold popM; rw [hpr]; exact h.setP _ _
          simp only []
          split
          · exact hpop
          · rw [hpr]
            have k1 := hpop.pr (f := q.a) (t := q.b) (by rw [pop_pair]; exact hpp) ha hb
            unfold recvM
            simp only []
            rw [k1]
            have hs2 := hpop.setP (q.a, q.b) { (popM y q.a q.b q.again).pr (q.a, q.b) with rc := max ((popM y q.a q.b q.again).pr (q.a, q.b)).rc ((y.pr (q.a, q.b)).ms.headD default).up }
            have k2 := hs2.pr (f := q.b) (t := q.a) (by rw [setP_pair, pop_pair]; exact pair_swap hpp) hb ha
            rw [k2, hpop.at_ hb]
            exact (hs2.setP _ _).setA hb _
        · exact h
  obtain ⟨e2, s2, e3, s3, e4, s4⟩ := rest
  unfold doE doB doM
  refine ⟨?_, ?_, ?_⟩
  · rw [e0, e1, e2, e3, e5]
  · rw [e4]
  · repeat' split
    · exact s0
    · exact s1
    · exact s2
    · exact s3
    · exact s4
    · exact s5
/-- What 2 and 3 do is not seen by 0 and 1. -/
theorem Sim.setA' {x y : GM} (h : Sim x y) {r : Int} (hr : r = 2 ∨ r = 3) (a : Acc) : Sim x (y.setA r a) := by
  have i0 := is_01 h.ly (r := 0) (.inl rfl)
  have i1 := is_01 h.ly (r := 1) (.inr rfl)
  have ir : y.is r = true := by unfold GM.is; rw [h.ly]; rcases hr with rfl | rfl <;> rfl
  refine ⟨h.lx, by rw [setA_len]; exact h.ly, ?_, ?_, h.p0, h.p1⟩
  · rw [setA_at ir _ 0 i0, if_neg (by omega)]; exact h.a0
  · rw [setA_at ir _ 1 i1, if_neg (by omega)]; exact h.a1
theorem Sim.setP' {x y : GM} (h : Sim x y) {f t : Int} (hf : f = 2 ∨ f = 3) (p : PrG) : Sim x (y.setP (f, t) p) := by
  refine ⟨h.lx, h.ly, h.a0, h.a1, ?_, ?_⟩
  · rw [pr_setP, if_neg (by rw [Prod.mk.injEq]; omega)]; exact h.p0
  · rw [pr_setP, if_neg (by rw [Prod.mk.injEq]; omega)]; exact h.p1
theorem Sim.other {x y : GM} (h : Sim x y) {q : ActG} (ha : q.a = 2 ∨ q.a = 3) (hb : q.b = 2 ∨ q.b = 3) : Sim x (doM y q) := by
  unfold doM
  repeat' split
  · unfold spendM; split; exact h.setA' ha _; exact h
  · unfold retM; split; exact h.setA' ha _; exact h
  · unfold giveM; split; exact (h.setA' ha _).setP' ha _; exact h
  · unfold sendM; split; exact h.setP' ha _; exact h
  · unfold delM
    split
    · simp only []
      split
      · unfold popM; exact h.setP' ha _
      · unfold recvM popM
        exact (((h.setP' ha _).setP' ha _).setP' hb _).setA' hb _
    · exact h
  · unfold revM; split; exact h.setA' ha _; exact h
theorem Sim.refl {x : GM} (h : x.acc.length = 4) : Sim x x := ⟨h, h, rfl, rfl, rfl, rfl⟩
theorem Sim.have_ {x y : GM} (h : Sim x y) {r : Int} (hr : r = 0 ∨ r = 1) : have_ x r = have_ y r := by unfold Esc.have_; rw [h.is, h.at_ hr]
theorem Sim.spend {x y : GM} (h : Sim x y) {r : Int} (hr : r = 0 ∨ r = 1) (k : Int) : spendE x r k = spendE y r k ∧ Sim (spendM x r k) (spendM y r k) := by
  have := h.do (q := ⟨0, r, r, k, false, false⟩) hr hr
  simpa [doE, doM] using ⟨this.1, this.2.2⟩
end Go.CH.Esc
namespace Go.Proofs.Ytapabbpdfplpoaa
open Go.RowKit Go.CH Go.CH.Esc
open Go.ChangeMaps (setBlock)

/-- A message's cells in the reference's queue. -/
def rcl (z : ZMsg) : List Value := [.int .i64 (z.m.c + 1), .slice z.A z.ts.length z.c, .int .i64 z.m.rc, .bool z.m.rev]
theorem rcl_len (z : ZMsg) : (rcl z).length = 4 := rfl
/-- A pair's cells. -/
def pcl (q : PrG) (s : LinS) : List Value := [.slice s.A q.H.length s.c, .int .i64 q.rc, .int .i64 q.conf, .slice s.B s.zs.length s.d]
theorem pcl_len (q : PrG) (s : LinS) : (pcl q s).length = 4 := rfl
/-- What a pair owns. -/
def PairX (q : PrG) (s : LinS) : Own := star (RowO 3 1 (.slice s.A q.H.length s.c) q.H.length (ints q.H)) (ARow rcl zow 158 4 (.slice s.B s.zs.length s.d) s.zs)
theorem pairX_ok {q : PrG} {s : LinS} : (PairX q s).Ok := star_ok row_ok (arow_ok zow_ok)
structure RefP where
  bU : Nat
  bS : Nat
  bR : Nat
  bP : Nat
  cP : Nat
  row : Nat → Nat
  ps : Nat × Nat → LinS
def keys2 (n : Nat) : List (Nat × Nat) := (List.range n).flatMap fun k => (List.range n).map fun j => (k, j)
theorem mem_keys2 {n : Nat} {k : Nat × Nat} : k ∈ keys2 n ↔ k.1 < n ∧ k.2 < n := by
  obtain ⟨a, b⟩ := k
  simp only [keys2, List.mem_flatMap, List.mem_range, List.mem_map, Prod.mk.injEq]
  constructor
  · rintro ⟨x, hx, y, hy, rfl, rfl⟩; exact ⟨hx, hy⟩
  · rintro ⟨hx, hy⟩; exact ⟨a, hx, b, hy, rfl, rfl⟩
theorem nodup_keys2 (n : Nat) : (keys2 n).Nodup := by
  unfold keys2 List.Nodup
  rw [List.pairwise_flatMap]
  refine ⟨fun a _ => ?_, ?_⟩
  · rw [List.pairwise_map]
    exact List.Pairwise.imp (fun {x y} h e => by injection e with _ e; exact h e) (List.nodup_range (n := n))
  · refine List.Pairwise.imp (fun {a b} hab x hx y hy e => ?_) (List.nodup_range (n := n))
    obtain ⟨t, _, rfl⟩ := List.mem_map.1 hx
    obtain ⟨t', _, rfl⟩ := List.mem_map.1 hy
    injection e with e _
    exact hab e
/-- The pair of two replicas. -/
def _root_.Go.CH.Esc.GM.p2 (g : GM) (k : Nat × Nat) : PrG := g.pr ((k.1 : Int), (k.2 : Int))
/-- The cells of a row of pairs. -/
def rowL (g : GM) (ps : Nat × Nat → LinS) (n k : Nat) : List Value := (List.range n).flatMap fun j => pcl (g.p2 (k, j)) (ps (k, j))
def rowR (g : GM) (s : RefP) (n k : Nat) : Own := RowO 118 4 (.slice (some ⟨s.row k, 0, none⟩) n n) n (rowL g s.ps n k)
def bools (l : List Bool) : List Value := l.map Value.bool
def rcell (s : RefP) (n : Nat) : Array Value := #[.slice (some ⟨s.bU, 0, none⟩) n n, .slice (some ⟨s.bS, 0, none⟩) n n, .slice (some ⟨s.bR, 0, none⟩) n n, .slice (some ⟨s.bP, 0, none⟩) n s.cP]
def RefS (g : GM) (p : Nat) (s : RefP) : Own :=
  star (CellO p (rcell s g.acc.length) 114) (star (RowO 3 1 (.slice (some ⟨s.bU, 0, none⟩) g.acc.length g.acc.length) g.acc.length (ints (g.acc.map Acc.u)))
    (star (RowO 3 1 (.slice (some ⟨s.bS, 0, none⟩) g.acc.length g.acc.length) g.acc.length (ints (g.acc.map Acc.s)))
      (star (RowO 4 1 (.slice (some ⟨s.bR, 0, none⟩) g.acc.length g.acc.length) g.acc.length (bools (g.acc.map Acc.rev)))
        (star (RowO 115 1 (.slice (some ⟨s.bP, 0, none⟩) g.acc.length s.cP) g.acc.length ((List.range g.acc.length).map fun k => .slice (some ⟨s.row k, 0, none⟩) g.acc.length g.acc.length))
          (star (bigK (List.range g.acc.length) fun k => rowR g s g.acc.length k) (bigK (keys2 g.acc.length) fun k => PairX (g.p2 k) (s.ps k)))))))
def RefZ (g : GM) (s : RefP) : Prop := ∀ k ∈ keys2 g.acc.length, LineZ (g.p2 k) (s.ps k)
def RefO (g : GM) (p : Nat) : Own := fun w F => ∃ s, RefZ g s ∧ RefS g p s w F
theorem rowR_ok {g : GM} {s : RefP} {n k : Nat} : (rowR g s n k).Ok := row_ok
theorem refS_ok {g : GM} {p : Nat} {s : RefP} : (RefS g p s).Ok := star_ok cell_ok (star_ok row_ok (star_ok row_ok (star_ok row_ok (star_ok row_ok (star_ok (bigK_ok (fun _ => rowR_ok)) (bigK_ok (fun _ => pairX_ok)))))))
theorem refO_ok {g : GM} {p : Nat} : (RefO g p).Ok := ⟨fun ⟨s, _, h⟩ => refS_ok.lt h, fun ⟨s, hz, h⟩ hk => ⟨s, hz, refS_ok.keep h hk⟩⟩
/-- What is read. -/
structure RefR (w : World) (g : GM) (p : Nat) (s : RefP) : Prop where
  c0 : w.cell? ⟨p, 0, none⟩ = some (.slice (some ⟨s.bU, 0, none⟩) g.acc.length g.acc.length)
  c1 : w.cell? ⟨p, 1, none⟩ = some (.slice (some ⟨s.bS, 0, none⟩) g.acc.length g.acc.length)
  c2 : w.cell? ⟨p, 2, none⟩ = some (.slice (some ⟨s.bR, 0, none⟩) g.acc.length g.acc.length)
  c3 : w.cell? ⟨p, 3, none⟩ = some (.slice (some ⟨s.bP, 0, none⟩) g.acc.length s.cP)
  u : ∀ k (h : k < g.acc.length), w.cell? ⟨s.bU, k, none⟩ = some (.int .i64 g.acc[k].u) ∧ w.cell? ⟨s.bS, k, none⟩ = some (.int .i64 g.acc[k].s) ∧ w.cell? ⟨s.bR, k, none⟩ = some (.bool g.acc[k].rev)
  f : 0 < g.acc.length → ∀ i, w.frozen? ⟨s.bU, i, none⟩ = false ∧ w.frozen? ⟨s.bS, i, none⟩ = false ∧ w.frozen? ⟨s.bR, i, none⟩ = false
  p : ∀ k, k < g.acc.length → w.cell? ⟨s.bP, k, none⟩ = some (.slice (some ⟨s.row k, 0, none⟩) g.acc.length g.acc.length)
  q : ∀ k j, k < g.acc.length → j < g.acc.length → w.cell? ⟨s.row k, j * 4, none⟩ = some (.slice (s.ps (k, j)).A (g.p2 (k, j)).H.length (s.ps (k, j)).c) ∧ w.cell? ⟨s.row k, j * 4 + 1, none⟩ = some (.int .i64 (g.p2 (k, j)).rc) ∧
    w.cell? ⟨s.row k, j * 4 + 2, none⟩ = some (.int .i64 (g.p2 (k, j)).conf) ∧ w.cell? ⟨s.row k, j * 4 + 3, none⟩ = some (.slice (s.ps (k, j)).B (s.ps (k, j)).zs.length (s.ps (k, j)).d)
  qf : ∀ k j, k < g.acc.length → j < g.acc.length → ∀ i, w.frozen? ⟨s.row k, i, none⟩ = false
  h : ∀ k j, k < g.acc.length → j < g.acc.length → Src w (s.ps (k, j)).A (g.p2 (k, j)).H.length 1 (ints (g.p2 (k, j)).H)
theorem bools_one (l : List Bool) : ∀ u ∈ bools l, u.oneCell' = true := by
  intro u hu
  obtain ⟨s, _, rfl⟩ := List.mem_map.1 hu
  rfl
theorem row_cell1 {w : World} {F : Nat → Prop} {e : TypeId} {g n c : Nat} {xs : List Value} (h : RowO e 1 (.slice (some ⟨g, 0, none⟩) n c) n xs w F) {i : Nat} {v : Value} (hv : xs[i]? = some v) : w.cell? ⟨g, i, none⟩ = some v := row_cell h hv
theorem RefS.read {g : GM} {p : Nat} {s : RefP} {w : World} {F : Nat → Prop} (h : RefS g p s w F) : RefR w g p s := by
  obtain ⟨_, _, hC, ⟨_, _, hU, ⟨_, _, hS, ⟨_, _, hR, ⟨_, _, hP, ⟨_, _, hq, hx, _, _⟩, _, _⟩, _, _⟩, _, _⟩, _, _⟩, _, _⟩ := h
  have hrow : ∀ k, k < g.acc.length → ∃ F', RowO 118 4 (.slice (some ⟨s.row k, 0, none⟩) g.acc.length g.acc.length) g.acc.length (rowL g s.ps g.acc.length k) w F' := fun k hk => by
    obtain ⟨F1, _, h1, _⟩ := bigK_out (k := k) (List.mem_range.2 hk) hq
    exact ⟨F1, h1⟩
  refine ⟨cell_at hC rfl, cell_at hC rfl, cell_at hC rfl, cell_at hC rfl, fun k hk => ⟨row_cell hU (by simp [ints, hk]), row_cell hS (by simp [ints, hk]), row_cell hR (by simp [bools, hk])⟩,
    fun hn i => ⟨row_free hU i hn, row_free hS i hn, row_free hR i hn⟩, fun k hk => row_cell hP (by simp [hk]), fun k j hk hj => ?_, fun k j hk hj i => ?_, fun k j hk hj => ?_⟩
  · obtain ⟨F1, h1⟩ := hrow k hk
    have hg := fun i (hi : i < 4) => flat_get (fun j => pcl (g.p2 (k, j)) (s.ps (k, j))) 4 (fun j => pcl_len _ _) (l := List.range g.acc.length) (k := j) (by simpa using hj) i hi
    simp only [List.getElem_range] at hg
    exact ⟨row_cell h1 (by have := hg 0 (by omega); simpa [pcl, rowL] using this), row_cell h1 (by have := hg 1 (by omega); simpa [pcl, rowL] using this), row_cell h1 (by have := hg 2 (by omega); simpa [pcl, rowL] using this), row_cell h1 (by have := hg 3 (by omega); simpa [pcl, rowL] using this)⟩
  · obtain ⟨F1, h1⟩ := hrow k hk
    exact row_free h1 i (by omega)
  · obtain ⟨F1, _, ⟨F2, _, h1, _⟩, _⟩ := bigK_out (k := (k, j)) (mem_keys2.2 ⟨hk, hj⟩) hx
    exact row_src h1 (ints_one _)
theorem RefR.below {g : GM} {p : Nat} {s : RefP} {w w' : World} {F : Nat → Prop} (h : RefS g p s w F) (hb : Below w.heap.size w w') : RefR w' g p s :=
  (refS_ok.keep h (fun i hi => hb.block i (refS_ok.lt h i hi))).read
/-- What a method of the reference leaves. -/
def RPost (w : World) (F : Nat → Prop) (v : Value) (g : GM) (p : Nat) (e : Ending) (w' : World) : Prop := e = .returned v ∧ Post w F (RefO g p) w'
theorem RPost.quiet {w : World} {F : Nat → Prop} {g : GM} {p : Nat} (h : RefO g p w F) {v : Value} {e : Ending} {w' : World} (hq : Quiet w v e w') : RPost w F v g p e w' := by
  obtain ⟨h1, rfl⟩ := hq
  exact ⟨h1, F, h, Mod.refl _ _, fun i hi => .inl hi⟩
set_option maxHeartbeats 800000 in
theorem ris_any {w : World} {g : GM} {p : Nat} {s : RefP} (h : RefR w g p s) (r : Int) : Calls Try.prog 67 #[.pointer (some ⟨p, 0, none⟩), .int .i64 r] w (Quiet w (.bool (g.is r))) := by
  have c0 := h.c0
  by_cases h1 : 0 ≤ r
  · by_cases h2 : r < (g.acc.length : Int)
    · have hv := hide (show g.is r = true by simp [GM.is, h1, h2])
      clear h
      go_enter Try.func67, Try.ntmps67
      go_wp2
      go_ret
      exact ⟨by rw [hv.out]; rfl, rfl⟩
    · have hv := hide (show g.is r = false by simp [GM.is]; omega)
      clear h
      go_enter Try.func67, Try.ntmps67
      go_wp2
      go_ret
      exact ⟨by rw [hv.out]; rfl, rfl⟩
  · have hv := hide (show g.is r = false by simp [GM.is]; omega)
    clear h
    go_enter Try.func67, Try.ntmps67
    go_wp2
    go_ret
    exact ⟨by rw [hv.out]; rfl, rfl⟩
theorem at_nat {g : GM} {k : Nat} (hk : k < g.acc.length) : g.at_ (k : Int) = g.acc[k] := by
  have := at_get (g := g) (r := (k : Int)) (by simp [GM.is, hk]); simpa using this
set_option maxHeartbeats 800000 in
theorem rhave_any {w : World} {g : GM} {p : Nat} {s : RefP} (h : RefR w g p s) (r : Int) : Calls Try.prog 27 #[.pointer (some ⟨p, 0, none⟩), .int .i64 r] w (Quiet w (.int .i64 (have_ g r))) := by
  have KI := hide (ris_any h r)
  cases hi : g.is r with
  | false =>
    have hv := hide (show have_ g r = 0 by simp [have_, hi])
    rw [hi] at KI
    clear h hi
    go_enter Try.func27, Try.ntmps27
    go_wp2_with fail
    refine KI.out.mono ?_
    rintro e w' ⟨rfl, rfl⟩
    go_wp2
    go_ret
    exact ⟨by rw [hv.out]; rfl, rfl⟩
  | true =>
    have hl := is_lt hi
    obtain ⟨k, rfl⟩ : ∃ k : Nat, r = k := ⟨r.toNat, by omega⟩
    have hk : k < g.acc.length := by simpa using hl.2
    have hv := hide (show have_ g (k : Int) = g.acc[k].u by rw [have_is hi, at_nat hk])
    rw [hi] at KI
    have c0 := h.c0
    have u0 := (h.u k hk).1
    generalize g.acc[k].u = x at *
    clear h hi hl
    go_enter Try.func27, Try.ntmps27
    go_wp2_with fail
    refine KI.out.mono ?_
    rintro e w' ⟨rfl, rfl⟩
    go_wp2
    go_ret
    exact ⟨by rw [hv.out]; rfl, rfl⟩
end Go.Proofs.Ytapabbpdfplpoaa
namespace Go.Proofs.Ytapabbpdfplpoaa
open Go.RowKit Go.CH Go.CH.Esc
open Go.ChangeMaps (setBlock)

theorem ints_set (l : List Int) (k : Nat) (v : Int) : (ints l).set k (.int .i64 v) = ints (l.set k v) := by unfold ints; rw [List.map_set]
theorem bools_set (l : List Bool) (k : Nat) (v : Bool) : (bools l).set k (.bool v) = bools (l.set k v) := by unfold bools; rw [List.map_set]
theorem set_same {α β : Type} (f : α → β) : ∀ (l : List α) (k : Nat) (a : α), (∀ h : k < l.length, f a = f l[k]) → (l.set k a).map f = l.map f
  | [], _, _, _ => rfl
  | x :: l, 0, a, h => by have := h (by simp); simp at this; simp [this]
  | x :: l, k + 1, a, h => by simp [set_same f l k a (fun hk => by have := h (by simpa using hk); simpa using this)]
/-- An account is written: the three rows. -/
theorem refS_setA (g : GM) (p : Nat) (s : RefP) (r : Int) (a : Acc) : RefS (g.setA r a) p s =
    star (CellO p (rcell s g.acc.length) 114) (star (RowO 3 1 (.slice (some ⟨s.bU, 0, none⟩) g.acc.length g.acc.length) g.acc.length (ints ((g.acc.set r.toNat a).map Acc.u)))
    (star (RowO 3 1 (.slice (some ⟨s.bS, 0, none⟩) g.acc.length g.acc.length) g.acc.length (ints ((g.acc.set r.toNat a).map Acc.s)))
      (star (RowO 4 1 (.slice (some ⟨s.bR, 0, none⟩) g.acc.length g.acc.length) g.acc.length (bools ((g.acc.set r.toNat a).map Acc.rev)))
        (star (RowO 115 1 (.slice (some ⟨s.bP, 0, none⟩) g.acc.length s.cP) g.acc.length ((List.range g.acc.length).map fun k => .slice (some ⟨s.row k, 0, none⟩) g.acc.length g.acc.length))
          (star (bigK (List.range g.acc.length) fun k => rowR g s g.acc.length k) (bigK (keys2 g.acc.length) fun k => PairX (g.p2 k) (s.ps k))))))) := by
  unfold RefS
  rw [setA_len]
  rfl
theorem refZ_setA {g : GM} {s : RefP} (h : RefZ g s) (r : Int) (a : Acc) : RefZ (g.setA r a) s := by
  unfold RefZ; rw [setA_len]; exact h
section
variable {F0 : Nat → Prop} {w0 W : World} {g : GM} {p : Nat} {s : RefP}
theorem ref_setU (h : Run F0 w0 (RefS g p s) W) {k : Nat} (hk : k < g.acc.length) (v : Int) : Run F0 w0 (RefS (g.setA k { g.at_ k with u := v }) p s) (W.setCell ⟨s.bU, k, none⟩ (.int .i64 v)) := by
  rw [refS_setA, at_nat hk]
  have okT : (star (RowO 3 1 (.slice (some ⟨s.bS, 0, none⟩) g.acc.length g.acc.length) g.acc.length (ints (g.acc.map Acc.s)))
      (star (RowO 4 1 (.slice (some ⟨s.bR, 0, none⟩) g.acc.length g.acc.length) g.acc.length (bools (g.acc.map Acc.rev)))
        (star (RowO 115 1 (.slice (some ⟨s.bP, 0, none⟩) g.acc.length s.cP) g.acc.length ((List.range g.acc.length).map fun k => .slice (some ⟨s.row k, 0, none⟩) g.acc.length g.acc.length))
          (star (bigK (List.range g.acc.length) fun k => rowR g s g.acc.length k) (bigK (keys2 g.acc.length) fun k => PairX (g.p2 k) (s.ps k)))))).Ok := star_ok row_ok (star_ok row_ok (star_ok row_ok (star_ok (bigK_ok (fun _ => rowR_ok)) (bigK_ok (fun _ => pairX_ok)))))
  obtain ⟨F, hR, -, bk⟩ := (show Run F0 w0 (star (CellO p (rcell s g.acc.length) 114) (star (RowO 3 1 (.slice (some ⟨s.bU, 0, none⟩) g.acc.length g.acc.length) g.acc.length (ints (g.acc.map Acc.u))) _)) W from h).rot.take row_ok (star_ok cell_ok okT)
  have h2 := row_set hR (i := k) (by omega) (.int .i64 v)
  rw [ints_set, ← List.map_set (f := Acc.u) (a := { g.acc[k] with u := v })] at h2
  rw [set_same Acc.s _ _ _ (fun _ => by simp), set_same Acc.rev _ _ _ (fun _ => by simp)]
  simp only [Int.toNat_natCast]
  exact (bk _ _ h2).rot
theorem ref_setS (h : Run F0 w0 (RefS g p s) W) {k : Nat} (hk : k < g.acc.length) (v : Int) : Run F0 w0 (RefS (g.setA k { g.at_ k with s := v }) p s) (W.setCell ⟨s.bS, k, none⟩ (.int .i64 v)) := by
  rw [refS_setA, at_nat hk]
  have okT : (star (RowO 4 1 (.slice (some ⟨s.bR, 0, none⟩) g.acc.length g.acc.length) g.acc.length (bools (g.acc.map Acc.rev)))
        (star (RowO 115 1 (.slice (some ⟨s.bP, 0, none⟩) g.acc.length s.cP) g.acc.length ((List.range g.acc.length).map fun k => .slice (some ⟨s.row k, 0, none⟩) g.acc.length g.acc.length))
          (star (bigK (List.range g.acc.length) fun k => rowR g s g.acc.length k) (bigK (keys2 g.acc.length) fun k => PairX (g.p2 k) (s.ps k))))).Ok := star_ok row_ok (star_ok row_ok (star_ok (bigK_ok (fun _ => rowR_ok)) (bigK_ok (fun _ => pairX_ok))))
  obtain ⟨F, hR, -, bk⟩ := (show Run F0 w0 (star (CellO p (rcell s g.acc.length) 114) (star (RowO 3 1 (.slice (some ⟨s.bU, 0, none⟩) g.acc.length g.acc.length) g.acc.length (ints (g.acc.map Acc.u))) (star (RowO 3 1 (.slice (some ⟨s.bS, 0, none⟩) g.acc.length g.acc.length) g.acc.length (ints (g.acc.map Acc.s))) _))) W from h).rot3.take row_ok (star_ok cell_ok (star_ok row_ok okT))
  have h2 := row_set hR (i := k) (by omega) (.int .i64 v)
  rw [ints_set, ← List.map_set (f := Acc.s) (a := { g.acc[k] with s := v })] at h2
  rw [set_same Acc.u _ _ _ (fun _ => by simp), set_same Acc.rev _ _ _ (fun _ => by simp)]
  simp only [Int.toNat_natCast]
  exact (bk _ _ h2).perm (by ac_rfl)
theorem ref_setR (h : Run F0 w0 (RefS g p s) W) {k : Nat} (hk : k < g.acc.length) (v : Bool) : Run F0 w0 (RefS (g.setA k { g.at_ k with rev := v }) p s) (W.setCell ⟨s.bR, k, none⟩ (.bool v)) := by
  rw [refS_setA, at_nat hk]
  have okT : (star (RowO 115 1 (.slice (some ⟨s.bP, 0, none⟩) g.acc.length s.cP) g.acc.length ((List.range g.acc.length).map fun k => .slice (some ⟨s.row k, 0, none⟩) g.acc.length g.acc.length))
          (star (bigK (List.range g.acc.length) fun k => rowR g s g.acc.length k) (bigK (keys2 g.acc.length) fun k => PairX (g.p2 k) (s.ps k)))).Ok := star_ok row_ok (star_ok (bigK_ok (fun _ => rowR_ok)) (bigK_ok (fun _ => pairX_ok)))
  obtain ⟨F, hR, -, bk⟩ := ((show Run F0 w0 (star (CellO p (rcell s g.acc.length) 114) (star (RowO 3 1 (.slice (some ⟨s.bU, 0, none⟩) g.acc.length g.acc.length) g.acc.length (ints (g.acc.map Acc.u))) (star (RowO 3 1 (.slice (some ⟨s.bS, 0, none⟩) g.acc.length g.acc.length) g.acc.length (ints (g.acc.map Acc.s)))
    (star (RowO 4 1 (.slice (some ⟨s.bR, 0, none⟩) g.acc.length g.acc.length) g.acc.length (bools (g.acc.map Acc.rev))) (star (RowO 115 1 (.slice (some ⟨s.bP, 0, none⟩) g.acc.length s.cP) g.acc.length ((List.range g.acc.length).map fun k => .slice (some ⟨s.row k, 0, none⟩) g.acc.length g.acc.length))
          (star (bigK (List.range g.acc.length) fun k => rowR g s g.acc.length k) (bigK (keys2 g.acc.length) fun k => PairX (g.p2 k) (s.ps k)))))))) W from h).perm (by ac_rfl : _ = star (RowO 4 1 (.slice (some ⟨s.bR, 0, none⟩) g.acc.length g.acc.length) g.acc.length (bools (g.acc.map Acc.rev)))
      (star (CellO p (rcell s g.acc.length) 114) (star (RowO 3 1 (.slice (some ⟨s.bU, 0, none⟩) g.acc.length g.acc.length) g.acc.length (ints (g.acc.map Acc.u))) (star (RowO 3 1 (.slice (some ⟨s.bS, 0, none⟩) g.acc.length g.acc.length) g.acc.length (ints (g.acc.map Acc.s)))
        (star (RowO 115 1 (.slice (some ⟨s.bP, 0, none⟩) g.acc.length s.cP) g.acc.length ((List.range g.acc.length).map fun k => .slice (some ⟨s.row k, 0, none⟩) g.acc.length g.acc.length))
          (star (bigK (List.range g.acc.length) fun k => rowR g s g.acc.length k) (bigK (keys2 g.acc.length) fun k => PairX (g.p2 k) (s.ps k))))))))).take row_ok (star_ok cell_ok (star_ok row_ok (star_ok row_ok okT)))
  have h2 := row_set hR (i := k) (by omega) (.bool v)
  rw [bools_set, ← List.map_set (f := Acc.rev) (a := { g.acc[k] with rev := v })] at h2
  rw [set_same Acc.u _ _ _ (fun _ => by simp), set_same Acc.s _ _ _ (fun _ => by simp)]
  simp only [Int.toNat_natCast]
  exact (bk _ _ h2).perm (by ac_rfl)
end
set_option maxHeartbeats 1600000 in
theorem rrev_any {w : World} {F : Nat → Prop} {g : GM} {p : Nat} (h : RefO g p w F) (r : Int) :
    Calls Try.prog 65 #[.pointer (some ⟨p, 0, none⟩), .int .i64 r] w (RPost w F (.int .i64 (revE g r)) (revM g r) p) := by
  have H := hide h
  obtain ⟨s, hz, hS⟩ := h
  have KI := hide (ris_any hS.read r)
  cases hi : g.is r with
  | false =>
    rw [show revE g r = 1 by simp [revE, hi], show revM g r = g by simp [revM, hi]]
    rw [hi] at KI
    clear hi hS hz
    go_enter Try.func65, Try.ntmps65
    go_wp2_with fail
    refine KI.out.mono ?_
    rintro e w' ⟨rfl, rfl⟩
    go_wp2
    go_ret
    exact RPost.quiet H.out ⟨rfl, rfl⟩
  | true =>
    obtain ⟨k, rfl⟩ : ∃ k : Nat, r = k := ⟨r.toNat, by have := (is_lt hi).1; omega⟩
    have hk : k < g.acc.length := by simpa using (is_lt hi).2
    rw [show revE g k = 0 by simp [revE, hi], show revM g k = g.setA k { g.at_ k with rev := true } by simp [revM, hi]]
    rw [hi] at KI
    have c2 := hS.read.c2
    have u2 := (hS.read.u k hk).2.2
    have f2 := (hS.read.f (by omega) k).2.2
    have HFIN := hide ((ref_setR (Run.start hS) hk true).post refS_ok)
    have HZ := hide (refZ_setA hz (k : Int) { g.at_ k with rev := true })
    generalize g.acc[k].rev = x at *
    clear hi hS hz H
    go_enter Try.func65, Try.ntmps65
    go_wp2_with fail
    refine KI.out.mono ?_
    rintro e w' ⟨rfl, rfl⟩
    go_wp2
    go_ret
    obtain ⟨F', q1, q2, q3⟩ := HFIN.out
    exact ⟨rfl, F', ⟨_, HZ.out, q1⟩, q2, q3⟩
set_option maxHeartbeats 1600000 in
theorem rspent_any {w : World} {F : Nat → Prop} {g : GM} {p : Nat} (h : RefO g p w F) {U : Int} (hI : Inv g U) : Calls Try.prog 23 #[.pointer (some ⟨p, 0, none⟩)] w (Quiet w (.int .i64 (spentG g))) := by
  obtain ⟨s, hz, hS⟩ := h
  have hR := hS.read
  have c1 := hR.c1
  have hu := hide (fun k hk => (hR.u k hk).2.1)
  have hn8 := hI.nb.2
  have hsp : ∀ x ∈ g.acc.map Acc.s, 0 ≤ x := fun x hx => by obtain ⟨a, ha, rfl⟩ := List.mem_map.1 hx; exact (hI.acc a ha).2
  have hle : isum (g.acc.map Acc.s) ≤ 1000000000 := by
    have h4 : 0 ≤ haveG g := isum_nonneg (fun y hy => by obtain ⟨a, ha, rfl⟩ := List.mem_map.1 hy; exact (hI.acc a ha).1)
    have h6 : 0 ≤ flyG g := isum_nonneg (fun y hy => by
      obtain ⟨k, hk, rfl⟩ := List.mem_map.1 hy
      exact fly_nonneg (hI.pr k.1 k.2 (pair_mem.2 hk)))
    have h7 := hI.tot
    have h8 := hI.U
    unfold spentG at h7
    omega
  have HSP := hide hsp
  clear hS hR hI hsp hz
  go_enter Try.func23, Try.ntmps23
  go_wp2
  go_loop [3, 4] (fun n i => ∃ j : Nat, j ≤ g.acc.length ∧ i = .int .i64 j ∧ n = .int .i64 (isum ((g.acc.map Acc.s).take j))) (fun _ i => g.acc.length - (intOf i).toNat)
  case atStart => exact ⟨0, Nat.zero_le _, rfl, rfl⟩
  case round =>
    obtain ⟨j, hj, rfl, rfl⟩ := hrel
    by_cases hlt : j < g.acc.length
    · have a1 := hu.out j hlt
      have hs := isum_take (g.acc.map Acc.s) j (by simpa using hlt)
      have hb1 := isum_take_le HSP.out j
      have hb2 := isum_take_le HSP.out (j + 1)
      have hgs : (g.acc.map Acc.s)[j]'(by simpa using hlt) = g.acc[j].s := by simp
      rw [hgs] at hs
      generalize g.acc[j].s = x at *
      have hx : 0 ≤ isum ((g.acc.map Acc.s).take j) + x ∧ isum ((g.acc.map Acc.s).take j) + x ≤ 1000000000 := by omega
      have HS := hide hs
      clear hs hgs
      have hb3 := hb1.1
      have hb4 := hb1.2
      clear hb1 hb2
      generalize isum ((g.acc.map Acc.s).take j) = v at *
      go_wp2
      go_round
      case rel => exact ⟨j + 1, by omega, by go_num, by rw [HS.out]⟩
      case measure => simp [intOf]; omega
    · have hjn : j = g.acc.length := by omega
      subst hjn
      have hv : isum ((g.acc.map Acc.s).take g.acc.length) = spentG g := by rw [List.take_of_length_le (by simp)]; rfl
      rw [hv]
      clear hv hle hn8
      go_wp2
      go_ret
      exact ⟨rfl, rfl⟩
end Go.Proofs.Ytapabbpdfplpoaa
namespace Go.Proofs.Ytapabbpdfplpoaa
open Go.RowKit Go.CH Go.CH.Esc
open Go.ChangeMaps (setBlock)

theorem ref_two {F0 : Nat → Prop} {w0 W : World} {g : GM} {p : Nat} {s : RefP} (h : Run F0 w0 (RefS g p s) W) {k : Nat} (hk : k < g.acc.length) (u v : Int) :
    Run F0 w0 (RefS (g.setA k { g.at_ k with u := u, s := v }) p s) (((W.setCell ⟨s.bU, k, none⟩ (.int .i64 u)).drew).setCell ⟨s.bS, k, none⟩ (.int .i64 v)) := by
  have h1 := (ref_setU h hk u).drew refS_ok
  have hk1 : k < (g.setA k { g.at_ k with u := u }).acc.length := by rw [setA_len]; exact hk
  have h2 := ref_setS h1 hk1 v
  have hi : g.is (k : Int) = true := by simp [GM.is, hk]
  rw [setA_at hi _ k hi, if_pos rfl, setA_twice] at h2
  exact h2
set_option maxRecDepth 100000 in
set_option maxHeartbeats 3200000 in
theorem rspend_any {w : World} {F : Nat → Prop} {g : GM} {p : Nat} (h : RefO g p w F) {U : Int} (hI : Inv g U) (r k : Int) (hk : -9223372036854775808 ≤ k ∧ k ≤ 9223372036854775807) :
    Calls Try.prog 60 #[.pointer (some ⟨p, 0, none⟩), .int .i64 r, .int .i64 k] w (RPost w F (.int .i64 (spendE g r k)) (spendM g r k) p) := by
  have H := hide h
  obtain ⟨s, hz, hS⟩ := h
  have KI := hide (ris_any hS.read r)
  cases hi : g.is r with
  | false =>
    have e1 : spendE g r k = 1 := by simp [spendE, hi]
    rw [e1, show spendM g r k = g by simp [spendM, e1]]
    rw [hi] at KI
    clear hi hS hz hI hk e1
    go_enter Try.func60, Try.ntmps60
    go_wp2_with fail
    refine KI.out.mono ?_
    rintro e w' ⟨rfl, rfl⟩
    go_wp2
    go_ret
    exact RPost.quiet H.out ⟨rfl, rfl⟩
  | true =>
    have hB := Inv.bnd hI hi
    have hi0 := hi
    obtain ⟨j, rfl⟩ : ∃ j : Nat, r = j := ⟨r.toNat, by have := (is_lt hi).1; omega⟩
    have hj : j < g.acc.length := by simpa using (is_lt hi).2
    rw [hi] at KI
    have hR := hS.read
    have c0 := hR.c0
    have c1 := hR.c1
    have c2 := hR.c2
    obtain ⟨u0, u1, u2⟩ := hR.u j hj
    obtain ⟨f0, f1, f2⟩ := hR.f (by omega) j
    rw [← at_nat hj] at u0 u1 u2
    have hn8 := hI.nb.2
    by_cases h1 : k < 1
    · have e1 : spendE g j k = 1 := by simp [spendE, h1]
      rw [e1, show spendM g j k = g by simp [spendM, e1]]
      clear hi hS hz hI hk e1 hB hR u0 u1 u2 f0 f1 f2 c0 c1 c2 hi0
      go_enter Try.func60, Try.ntmps60
      go_wp2_with fail
      refine KI.out.mono ?_
      rintro e w' ⟨rfl, rfl⟩
      go_wp2
      go_ret
      exact RPost.quiet H.out ⟨rfl, rfl⟩
    · cases hv : (g.at_ j).rev with
      | true =>
        have e1 : spendE g j k = 22 := by simp [spendE, h1, hi0, hv]
        rw [e1, show spendM g j k = g by simp [spendM, e1]]
        rw [hv] at u2
        clear hi hS hz hI hk e1 hB hR u0 u1 f0 f1 f2 hi0 hv
        go_enter Try.func60, Try.ntmps60
        go_wp2_with fail
        refine KI.out.mono ?_
        rintro e w' ⟨rfl, rfl⟩
        go_wp2
        go_ret
        exact RPost.quiet H.out ⟨rfl, rfl⟩
      | false =>
        rw [hv] at u2
        by_cases h2 : (g.at_ j).u < k
        · have e1 : spendE g j k = 19 := by simp [spendE, h1, h2, hi0, hv]
          rw [e1, show spendM g j k = g by simp [spendM, e1]]
          generalize (g.at_ (j : Int)).u = xu at *
          generalize (g.at_ (j : Int)).s = xs at *
          clear hi hS hz hI hk e1 hB hR hi0
          go_enter Try.func60, Try.ntmps60
          go_wp2_with fail
          refine KI.out.mono ?_
          rintro e w' ⟨rfl, rfl⟩
          go_wp2
          go_ret
          exact RPost.quiet H.out ⟨rfl, rfl⟩
        · have e1 : spendE g j k = 0 := by simp [spendE, h1, h2, hi0, hv]
          rw [e1, show spendM g j k = g.setA j { g.at_ j with u := (g.at_ j).u - k, s := (g.at_ j).s + k } by unfold spendM; rw [if_pos e1]]
          have HFIN := hide ((ref_two ((Run.start hS).drew refS_ok) hj ((g.at_ j).u - k) ((g.at_ j).s + k)).post refS_ok)
          have HZ := hide (refZ_setA hz (j : Int) { g.at_ j with u := (g.at_ j).u - k, s := (g.at_ j).s + k })
          obtain ⟨Fx, hx1⟩ := (ref_setU ((Run.start hS).drew refS_ok) hj ((g.at_ j).u - k)).get
          have hR2 := RefS.read hx1
          have hi : g.is (j : Int) = true := hi0
          have c1b := hR2.c1
          obtain ⟨-, u1b, -⟩ := hR2.u j (by rw [setA_len]; exact hj)
          obtain ⟨-, f1b, -⟩ := hR2.f (by rw [setA_len]; omega) j
          rw [← at_nat (g := g.setA j { g.at_ j with u := (g.at_ j).u - k }) (by rw [setA_len]; exact hj), setA_at hi _ j hi, if_pos rfl] at u1b
          rw [setA_len] at c1b
          simp only [] at u1b
          have c1c : (w.setCell ⟨s.bU, j, none⟩ (.int .i64 ((g.at_ j).u - k))).cell? ⟨p, 1, none⟩ = some (.slice (some ⟨s.bS, 0, none⟩) g.acc.length g.acc.length) := c1b
          have u1c : (w.setCell ⟨s.bU, j, none⟩ (.int .i64 ((g.at_ j).u - k))).cell? ⟨s.bS, j, none⟩ = some (.int .i64 (g.at_ (j : Int)).s) := u1b
          have f1c : (w.setCell ⟨s.bU, j, none⟩ (.int .i64 ((g.at_ j).u - k))).frozen? ⟨s.bS, j, none⟩ = false := f1b
          clear c1b u1b f1b
          have b1 := hB.1.1
          have b2 := hB.1.2
          have b3 := hB.2.1
          have b4 := hB.2.2
          have t1 : IntKind.i64.wrap ((g.at_ j).u - k) = (g.at_ j).u - k := IntWalk.i64_in _ (by omega)
          have t2 : IntKind.i64.wrap ((g.at_ j).s + k) = (g.at_ j).s + k := IntWalk.i64_in _ (by omega)
          generalize (g.at_ (j : Int)).u = xu at *
          generalize (g.at_ (j : Int)).s = xs at *
          clear hi hS hz hI hk e1 hB hR hi0 hx1 hR2
          go_enter Try.func60, Try.ntmps60
          go_wp2_with fail
          refine KI.out.mono ?_
          rintro e w' ⟨rfl, rfl⟩
          go_wp2_with fail
          refine wp_region_lew [15] [0, 0, 0, 0, 0, 0, 0, 0, 0, 0, 0, 0, 0, 0, 0, 1] (fun w' => w'.cell? ⟨p, 0, none⟩ = some (.slice (some ⟨s.bU, 0, none⟩) g.acc.length g.acc.length) ∧ w'.cell? ⟨s.bU, j, none⟩ = some (.int .i64 xu)) (fun _ => True) (fun _ => True) (fun _ => True) (fun _ _ => trivial) (fun _ h => h) (fun _ h => h) (by kernel_rfl) (by kernel_rfl) (by kernel_rfl) (by kernel_rfl) (by exact ⟨c0, u0⟩) ?_
          (repeat (first | (refine lew_skip (by rfl) (by rfl) ?_; try simp only [Act.put, List.setIfInBounds_toArray, List.set_cons_zero, List.set_cons_succ]) | (refine lew_read0 (v := ?_) (by rfl) (by rfl) ?_ ?_; rotate_left; (focus (intro w' hS'; go_simp; (try with_reducible rfl); done)); try simp only [Act.put, List.setIfInBounds_toArray, List.set_cons_zero, List.set_cons_succ]) | (refine lew_read1 (v := ?_) (by rfl) (by rfl) ?_ ?_; rotate_left; (focus (intro w' hS'; go_simp; (try with_reducible rfl); done)); try simp only [Act.put, List.setIfInBounds_toArray, List.set_cons_zero, List.set_cons_succ]) | (refine lew_read2 (v := ?_) (by rfl) (by rfl) ?_ ?_; rotate_left; (focus (intro w' hS'; go_simp; (try with_reducible rfl); done)); try simp only [Act.put, List.setIfInBounds_toArray, List.set_cons_zero, List.set_cons_succ]) | (refine lew_read3 (v := ?_) (by rfl) (by rfl) ?_ ?_; rotate_left; (focus (intro w' hS'; go_simp; (try with_reducible rfl); done)); try simp only [Act.put, List.setIfInBounds_toArray, List.set_cons_zero, List.set_cons_succ]) | (refine lew_read4 (v := ?_) (by rfl) (by rfl) ?_ ?_; rotate_left; (focus (intro w' hS'; go_simp; (try with_reducible rfl); done)); try simp only [Act.put, List.setIfInBounds_toArray, List.set_cons_zero, List.set_cons_succ])))
          refine lew_chain1 rfl (by rfl) (fun K hK => ?_)
          go_wp2_with fail
          refine hK.out _ _ trivial (lew_nil ?_)
          clear hK
          go_wp2_with fail
          refine wp_region_lew [15] [0, 0, 0, 0, 0, 0, 0, 0, 0, 0, 0, 0, 0, 0, 0, 1] (fun w' => w'.cell? ⟨p, 1, none⟩ = some (.slice (some ⟨s.bS, 0, none⟩) g.acc.length g.acc.length) ∧ w'.cell? ⟨s.bS, j, none⟩ = some (.int .i64 xs)) (fun _ => True) (fun _ => True) (fun _ => True) (fun _ _ => trivial) (fun _ h => h) (fun _ h => h) (by kernel_rfl) (by kernel_rfl) (by kernel_rfl) (by kernel_rfl) (by exact ⟨c1c, u1c⟩) ?_
          (repeat (first | (refine lew_skip (by rfl) (by rfl) ?_; try simp only [Act.put, List.setIfInBounds_toArray, List.set_cons_zero, List.set_cons_succ]) | (refine lew_read0 (v := ?_) (by rfl) (by rfl) ?_ ?_; rotate_left; (focus (intro w' hS'; go_simp; (try with_reducible rfl); done)); try simp only [Act.put, List.setIfInBounds_toArray, List.set_cons_zero, List.set_cons_succ]) | (refine lew_read1 (v := ?_) (by rfl) (by rfl) ?_ ?_; rotate_left; (focus (intro w' hS'; go_simp; (try with_reducible rfl); done)); try simp only [Act.put, List.setIfInBounds_toArray, List.set_cons_zero, List.set_cons_succ]) | (refine lew_read2 (v := ?_) (by rfl) (by rfl) ?_ ?_; rotate_left; (focus (intro w' hS'; go_simp; (try with_reducible rfl); done)); try simp only [Act.put, List.setIfInBounds_toArray, List.set_cons_zero, List.set_cons_succ]) | (refine lew_read3 (v := ?_) (by rfl) (by rfl) ?_ ?_; rotate_left; (focus (intro w' hS'; go_simp; (try with_reducible rfl); done)); try simp only [Act.put, List.setIfInBounds_toArray, List.set_cons_zero, List.set_cons_succ]) | (refine lew_read4 (v := ?_) (by rfl) (by rfl) ?_ ?_; rotate_left; (focus (intro w' hS'; go_simp; (try with_reducible rfl); done)); try simp only [Act.put, List.setIfInBounds_toArray, List.set_cons_zero, List.set_cons_succ])))
          refine lew_chain1 rfl (by rfl) (fun K hK => ?_)
          go_wp2_with fail
          refine hK.out _ _ trivial (lew_nil ?_)
          clear hK
          go_wp2_with fail
          go_ret
          obtain ⟨F', q1, q2, q3⟩ := HFIN.out
          exact ⟨rfl, F', ⟨_, HZ.out, q1⟩, q2, q3⟩
set_option maxRecDepth 100000 in
set_option maxHeartbeats 3200000 in
theorem rret_any {w : World} {F : Nat → Prop} {g : GM} {p : Nat} (h : RefO g p w F) {U : Int} (hI : Inv g U) (r k : Int) (hk : -9223372036854775808 ≤ k ∧ k ≤ 9223372036854775807) :
    Calls Try.prog 61 #[.pointer (some ⟨p, 0, none⟩), .int .i64 r, .int .i64 k] w (RPost w F (.int .i64 (retE g r k)) (retM g r k) p) := by
  have H := hide h
  obtain ⟨s, hz, hS⟩ := h
  have KI := hide (ris_any hS.read r)
  cases hi : g.is r with
  | false =>
    have e1 : retE g r k = 1 := by simp [retE, hi]
    rw [e1, show retM g r k = g by simp [retM, e1]]
    rw [hi] at KI
    clear hi hS hz hI hk e1
    go_enter Try.func61, Try.ntmps61
    go_wp2_with fail
    refine KI.out.mono ?_
    rintro e w' ⟨rfl, rfl⟩
    go_wp2
    go_ret
    exact RPost.quiet H.out ⟨rfl, rfl⟩
  | true =>
    have hB := Inv.bnd hI hi
    have hi0 := hi
    obtain ⟨j, rfl⟩ : ∃ j : Nat, r = j := ⟨r.toNat, by have := (is_lt hi).1; omega⟩
    have hj : j < g.acc.length := by simpa using (is_lt hi).2
    rw [hi] at KI
    have hR := hS.read
    have c0 := hR.c0
    have c1 := hR.c1
    have c2 := hR.c2
    obtain ⟨u0, u1, u2⟩ := hR.u j hj
    obtain ⟨f0, f1, f2⟩ := hR.f (by omega) j
    rw [← at_nat hj] at u0 u1 u2
    have hn8 := hI.nb.2
    by_cases h1 : k < 1
    · have e1 : retE g j k = 1 := by simp [retE, h1]
      rw [e1, show retM g j k = g by simp [retM, e1]]
      clear hi hS hz hI hk e1 hB hR u0 u1 u2 f0 f1 f2 c0 c1 c2 hi0
      go_enter Try.func61, Try.ntmps61
      go_wp2_with fail
      refine KI.out.mono ?_
      rintro e w' ⟨rfl, rfl⟩
      go_wp2
      go_ret
      exact RPost.quiet H.out ⟨rfl, rfl⟩
    · by_cases h2 : (g.at_ j).s < k
      · have e1 : retE g j k = 19 := by simp [retE, h1, h2, hi0]
        rw [e1, show retM g j k = g by simp [retM, e1]]
        generalize (g.at_ (j : Int)).u = xu at *
        generalize (g.at_ (j : Int)).s = xs at *
        clear hi hS hz hI hk e1 hB hR hi0
        go_enter Try.func61, Try.ntmps61
        go_wp2_with fail
        refine KI.out.mono ?_
        rintro e w' ⟨rfl, rfl⟩
        go_wp2
        go_ret
        exact RPost.quiet H.out ⟨rfl, rfl⟩
      · have e1 : retE g j k = 0 := by simp [retE, h1, h2, hi0]
        rw [e1, show retM g j k = g.setA j { g.at_ j with u := (g.at_ j).u + k, s := (g.at_ j).s - k } by unfold retM; rw [if_pos e1]]
        have HFIN := hide ((ref_two ((Run.start hS).drew refS_ok) hj ((g.at_ j).u + k) ((g.at_ j).s - k)).post refS_ok)
        have HZ := hide (refZ_setA hz (j : Int) { g.at_ j with u := (g.at_ j).u + k, s := (g.at_ j).s - k })
        obtain ⟨Fx, hx1⟩ := (ref_setU ((Run.start hS).drew refS_ok) hj ((g.at_ j).u + k)).get
        have hR2 := RefS.read hx1
        have hi : g.is (j : Int) = true := hi0
        have c1b := hR2.c1
        obtain ⟨-, u1b, -⟩ := hR2.u j (by rw [setA_len]; exact hj)
        obtain ⟨-, f1b, -⟩ := hR2.f (by rw [setA_len]; omega) j
        rw [← at_nat (g := g.setA j { g.at_ j with u := (g.at_ j).u + k }) (by rw [setA_len]; exact hj), setA_at hi _ j hi, if_pos rfl] at u1b
        rw [setA_len] at c1b
        simp only [] at u1b
        have c1c : (w.setCell ⟨s.bU, j, none⟩ (.int .i64 ((g.at_ j).u + k))).cell? ⟨p, 1, none⟩ = some (.slice (some ⟨s.bS, 0, none⟩) g.acc.length g.acc.length) := c1b
        have u1c : (w.setCell ⟨s.bU, j, none⟩ (.int .i64 ((g.at_ j).u + k))).cell? ⟨s.bS, j, none⟩ = some (.int .i64 (g.at_ (j : Int)).s) := u1b
        have f1c : (w.setCell ⟨s.bU, j, none⟩ (.int .i64 ((g.at_ j).u + k))).frozen? ⟨s.bS, j, none⟩ = false := f1b
        clear c1b u1b f1b
        have b1 := hB.1.1
        have b2 := hB.1.2
        have b3 := hB.2.1
        have b4 := hB.2.2
        have t1 : IntKind.i64.wrap ((g.at_ j).u + k) = (g.at_ j).u + k := IntWalk.i64_in _ (by omega)
        have t2 : IntKind.i64.wrap ((g.at_ j).s - k) = (g.at_ j).s - k := IntWalk.i64_in _ (by omega)
        generalize (g.at_ (j : Int)).u = xu at *
        generalize (g.at_ (j : Int)).s = xs at *
        clear hi hS hz hI hk e1 hB hR hi0 hx1 hR2
        go_enter Try.func61, Try.ntmps61
        go_wp2_with fail
        refine KI.out.mono ?_
        rintro e w' ⟨rfl, rfl⟩
        go_wp2_with fail
        refine wp_region_lew [15] [0, 0, 0, 0, 0, 0, 0, 0, 0, 0, 0, 0, 0, 0, 0, 1] (fun w' => w'.cell? ⟨p, 0, none⟩ = some (.slice (some ⟨s.bU, 0, none⟩) g.acc.length g.acc.length) ∧ w'.cell? ⟨s.bU, j, none⟩ = some (.int .i64 xu)) (fun _ => True) (fun _ => True) (fun _ => True) (fun _ _ => trivial) (fun _ h => h) (fun _ h => h) (by kernel_rfl) (by kernel_rfl) (by kernel_rfl) (by kernel_rfl) (by exact ⟨c0, u0⟩) ?_
        (repeat (first | (refine lew_skip (by rfl) (by rfl) ?_; try simp only [Act.put, List.setIfInBounds_toArray, List.set_cons_zero, List.set_cons_succ]) | (refine lew_read0 (v := ?_) (by rfl) (by rfl) ?_ ?_; rotate_left; (focus (intro w' hS'; go_simp; (try with_reducible rfl); done)); try simp only [Act.put, List.setIfInBounds_toArray, List.set_cons_zero, List.set_cons_succ]) | (refine lew_read1 (v := ?_) (by rfl) (by rfl) ?_ ?_; rotate_left; (focus (intro w' hS'; go_simp; (try with_reducible rfl); done)); try simp only [Act.put, List.setIfInBounds_toArray, List.set_cons_zero, List.set_cons_succ]) | (refine lew_read2 (v := ?_) (by rfl) (by rfl) ?_ ?_; rotate_left; (focus (intro w' hS'; go_simp; (try with_reducible rfl); done)); try simp only [Act.put, List.setIfInBounds_toArray, List.set_cons_zero, List.set_cons_succ]) | (refine lew_read3 (v := ?_) (by rfl) (by rfl) ?_ ?_; rotate_left; (focus (intro w' hS'; go_simp; (try with_reducible rfl); done)); try simp only [Act.put, List.setIfInBounds_toArray, List.set_cons_zero, List.set_cons_succ]) | (refine lew_read4 (v := ?_) (by rfl) (by rfl) ?_ ?_; rotate_left; (focus (intro w' hS'; go_simp; (try with_reducible rfl); done)); try simp only [Act.put, List.setIfInBounds_toArray, List.set_cons_zero, List.set_cons_succ])))
        refine lew_chain1 rfl (by rfl) (fun K hK => ?_)
        go_wp2_with fail
        refine hK.out _ _ trivial (lew_nil ?_)
        clear hK
        go_wp2_with fail
        refine wp_region_lew [15] [0, 0, 0, 0, 0, 0, 0, 0, 0, 0, 0, 0, 0, 0, 0, 1] (fun w' => w'.cell? ⟨p, 1, none⟩ = some (.slice (some ⟨s.bS, 0, none⟩) g.acc.length g.acc.length) ∧ w'.cell? ⟨s.bS, j, none⟩ = some (.int .i64 xs)) (fun _ => True) (fun _ => True) (fun _ => True) (fun _ _ => trivial) (fun _ h => h) (fun _ h => h) (by kernel_rfl) (by kernel_rfl) (by kernel_rfl) (by kernel_rfl) (by exact ⟨c1c, u1c⟩) ?_
        (repeat (first | (refine lew_skip (by rfl) (by rfl) ?_; try simp only [Act.put, List.setIfInBounds_toArray, List.set_cons_zero, List.set_cons_succ]) | (refine lew_read0 (v := ?_) (by rfl) (by rfl) ?_ ?_; rotate_left; (focus (intro w' hS'; go_simp; (try with_reducible rfl); done)); try simp only [Act.put, List.setIfInBounds_toArray, List.set_cons_zero, List.set_cons_succ]) | (refine lew_read1 (v := ?_) (by rfl) (by rfl) ?_ ?_; rotate_left; (focus (intro w' hS'; go_simp; (try with_reducible rfl); done)); try simp only [Act.put, List.setIfInBounds_toArray, List.set_cons_zero, List.set_cons_succ]) | (refine lew_read2 (v := ?_) (by rfl) (by rfl) ?_ ?_; rotate_left; (focus (intro w' hS'; go_simp; (try with_reducible rfl); done)); try simp only [Act.put, List.setIfInBounds_toArray, List.set_cons_zero, List.set_cons_succ]) | (refine lew_read3 (v := ?_) (by rfl) (by rfl) ?_ ?_; rotate_left; (focus (intro w' hS'; go_simp; (try with_reducible rfl); done)); try simp only [Act.put, List.setIfInBounds_toArray, List.set_cons_zero, List.set_cons_succ]) | (refine lew_read4 (v := ?_) (by rfl) (by rfl) ?_ ?_; rotate_left; (focus (intro w' hS'; go_simp; (try with_reducible rfl); done)); try simp only [Act.put, List.setIfInBounds_toArray, List.set_cons_zero, List.set_cons_succ])))
        refine lew_chain1 rfl (by rfl) (fun K hK => ?_)
        go_wp2_with fail
        refine hK.out _ _ trivial (lew_nil ?_)
        clear hK
        go_wp2_with fail
        go_ret
        obtain ⟨F', q1, q2, q3⟩ := HFIN.out
        exact ⟨rfl, F', ⟨_, HZ.out, q1⟩, q2, q3⟩
end Go.Proofs.Ytapabbpdfplpoaa
