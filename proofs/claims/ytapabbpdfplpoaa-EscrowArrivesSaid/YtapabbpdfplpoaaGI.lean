/-
  Escrow: what stays true of the state.
-/
import Derived.Test.YtapabbpdfplpoaaG
set_option linter.unusedSimpArgs false
set_option linter.unusedVariables false
namespace Go.CH.Esc

/-- What is true of what goes from one replica to another one; b is what goes back. -/
structure PrOk (p b : PrG) : Prop where
  pos : ∀ h ∈ p.H, 1 ≤ h
  cr : p.conf ≤ p.rc
  rl : p.rc ≤ p.H.length
  few : p.H.length ≤ p.conf + 100
  msl : p.ms.length ≤ 100
  msg : ∀ m ∈ p.ms, m.c ≤ p.rc ∧ m.c ≤ m.up ∧ m.up ≤ p.H.length ∧ m.up ≤ m.c + 100 ∧ m.rc ≤ b.rc
structure Inv (g : GM) (U : Int) : Prop where
  nb : 1 ≤ g.acc.length ∧ g.acc.length ≤ 8
  acc : ∀ a ∈ g.acc, 0 ≤ a.u ∧ 0 ≤ a.s
  pr : ∀ f t, g.pair f t = true → PrOk (g.pr (f, t)) (g.pr (t, f))
  tot : haveG g + spentG g + flyG g = U
  U : 0 ≤ U ∧ U ≤ 1000000000

theorem pair_swap {g : GM} {f t : Int} (h : g.pair f t = true) : g.pair t f = true := by
  rw [pair_mem, mem_keys] at *
  exact ⟨h.2.2.1, h.2.2.2.1, h.1, h.2.1, h.2.2.2.2.symm⟩
theorem pair_is {g : GM} {f t : Int} (h : g.pair f t = true) : g.is f = true ∧ g.is t = true ∧ f ≠ t := by
  simp [GM.pair] at h; exact ⟨h.1.1, h.1.2, h.2⟩
theorem is_lt {g : GM} {r : Int} (h : g.is r = true) : 0 ≤ r ∧ r.toNat < g.acc.length := by
  simp [GM.is] at h; omega
theorem at_get {g : GM} {r : Int} (h : g.is r = true) : g.at_ r = g.acc[r.toNat]'(is_lt h).2 := by
  unfold GM.at_; rw [List.getD_eq_getElem?_getD, List.getElem?_eq_getElem (is_lt h).2]; rfl
theorem at_mem {g : GM} {r : Int} (h : g.is r = true) : g.at_ r ∈ g.acc := by rw [at_get h]; exact List.getElem_mem _
theorem setA_len (g : GM) (r : Int) (a : Acc) : (g.setA r a).acc.length = g.acc.length := by simp [GM.setA]
theorem setA_is (g : GM) (r : Int) (a : Acc) (x : Int) : (g.setA r a).is x = g.is x := by simp [GM.is, setA_len]
theorem setA_pair (g : GM) (r : Int) (a : Acc) (x y : Int) : (g.setA r a).pair x y = g.pair x y := by simp [GM.pair, setA_is]
theorem setP_is (g : GM) (k : Int × Int) (p : PrG) (x : Int) : (g.setP k p).is x = g.is x := rfl
theorem setP_pair (g : GM) (k : Int × Int) (p : PrG) (x y : Int) : (g.setP k p).pair x y = g.pair x y := rfl
theorem setP_at (g : GM) (k : Int × Int) (p : PrG) (x : Int) : (g.setP k p).at_ x = g.at_ x := rfl
theorem setA_pr (g : GM) (r : Int) (a : Acc) : (g.setA r a).pr = g.pr := rfl
theorem setA_at {g : GM} {r : Int} (h : g.is r = true) (a : Acc) (x : Int) (hx : g.is x = true) : (g.setA r a).at_ x = if x = r then a else g.at_ x := by
  have h1 := is_lt h
  have h2 := is_lt hx
  unfold GM.at_ GM.setA
  simp only [List.getD_eq_getElem?_getD, List.getElem?_set]
  by_cases hxr : x = r
  · subst hxr; simp [h1.2]
  · have : ¬ r.toNat = x.toNat := by omega
    simp [hxr, this]
theorem have_setA {g : GM} {r : Int} (h : g.is r = true) (a : Acc) : haveG (g.setA r a) = haveG g - (g.at_ r).u + a.u := by
  unfold haveG GM.setA
  rw [List.map_set, isum_set _ _ _ (by simpa using (is_lt h).2), at_get h]; simp
theorem spent_setA {g : GM} {r : Int} (h : g.is r = true) (a : Acc) : spentG (g.setA r a) = spentG g - (g.at_ r).s + a.s := by
  unfold spentG GM.setA
  rw [List.map_set, isum_set _ _ _ (by simpa using (is_lt h).2), at_get h]; simp
theorem fly_setA (g : GM) (r : Int) (a : Acc) : flyG (g.setA r a) = flyG g := by unfold flyG; rw [setA_len]; rfl
theorem fly_setP {g : GM} {f t : Int} (h : g.pair f t = true) (p : PrG) : flyG (g.setP (f, t) p) = flyG g - fly (g.pr (f, t)) + fly p := by
  have h1 : (keys g.acc.length).map (fun k => fly ((g.setP (f, t) p).pr k)) = (keys g.acc.length).map (fun k => if k = (f, t) then fly p else fly (g.pr k)) := by
    refine List.map_congr_left fun k _ => ?_
    simp only [GM.setP]; split <;> rfl
  unfold flyG
  rw [show (g.setP (f, t) p).acc = g.acc from rfl, h1, isum_upd (nodup_keys _) (fun k => fly (g.pr k)), if_pos (pair_mem.1 h)]
theorem fly_nonneg {p b : PrG} (h : PrOk p b) : 0 ≤ fly p := isum_nonneg (fun x hx => by have := h.pos x (List.mem_of_mem_drop hx); omega)

/-- An account is written. -/
theorem Inv.setA {g : GM} {U : Int} (h : Inv g U) {r : Int} (hr : g.is r = true) (a : Acc) (h0 : 0 ≤ a.u ∧ 0 ≤ a.s) (he : a.u + a.s = (g.at_ r).u + (g.at_ r).s) : Inv (g.setA r a) U := by
  refine ⟨by rw [setA_len]; exact h.nb, fun x hx => ?_, fun f t hp => by rw [setA_pair] at hp; exact h.pr f t hp, ?_, h.U⟩
  · rcases List.mem_or_eq_of_mem_set hx with hx | rfl
    · exact h.acc x hx
    · exact h0
  · rw [have_setA hr, spent_setA hr, fly_setA]
    have := h.tot; omega
theorem Inv.at_ {g : GM} {U : Int} (h : Inv g U) {r : Int} (hr : g.is r = true) : 0 ≤ (g.at_ r).u ∧ 0 ≤ (g.at_ r).s := h.acc _ (at_mem hr)
theorem Inv.spend {g : GM} {U : Int} (h : Inv g U) (r k : Int) : Inv (spendM g r k) U := by
  unfold spendM
  split
  · rename_i h0
    unfold spendE at h0
    split at h0
    · cases h0
    · rename_i h1
      split at h0
      · cases h0
      · split at h0
        · cases h0
        · rename_i h2
          have hr : g.is r = true := by cases hq : g.is r with | true => rfl | false => exact (h1 (.inr hq)).elim
          have := h.at_ hr
          have hk : ¬ k < 1 := fun e => h1 (.inl e)
          exact h.setA hr _ ⟨by simp; omega, by simp; omega⟩ (by simp; omega)
  · exact h
theorem Inv.ret {g : GM} {U : Int} (h : Inv g U) (r k : Int) : Inv (retM g r k) U := by
  unfold retM
  split
  · rename_i h0
    unfold retE at h0
    split at h0
    · cases h0
    · rename_i h1
      split at h0
      · cases h0
      · rename_i h2
        have hr : g.is r = true := by cases hq : g.is r with | true => rfl | false => exact (h1 (.inr hq)).elim
        have := h.at_ hr
        have hk : ¬ k < 1 := fun e => h1 (.inl e)
        exact h.setA hr _ ⟨by simp; omega, by simp; omega⟩ (by simp; omega)
  · exact h
theorem Inv.revoke {g : GM} {U : Int} (h : Inv g U) (r : Int) : Inv (revM g r) U := by
  unfold revM
  split
  · rename_i hr
    exact h.setA hr _ (h.at_ hr) rfl
  · exact h
/-- What goes from f to t is written: nothing that is received is lost. -/
theorem Inv.setP {g : GM} {U : Int} (h : Inv g U) {f t : Int} (hp : g.pair f t = true) (p : PrG) (hok : PrOk p (g.pr (t, f))) (hr : (g.pr (f, t)).rc ≤ p.rc) (hf : fly p = fly (g.pr (f, t))) : Inv (g.setP (f, t) p) U := by
  have hne := (pair_is hp).2.2
  refine ⟨h.nb, h.acc, fun a b hab => ?_, ?_, h.U⟩
  · rw [setP_pair] at hab
    simp only [GM.setP, Prod.mk.injEq]
    have hb := h.pr a b hab
    by_cases h1 : a = f ∧ b = t
    · obtain ⟨rfl, rfl⟩ := h1
      have : ¬ (b = a ∧ a = b) := fun e => hne e.2
      simp only [and_self, if_true, this, if_false]; exact hok
    · simp only [h1, if_false]
      by_cases h2 : b = f ∧ a = t
      · obtain ⟨rfl, rfl⟩ := h2
        simp only [and_self, if_true]
        exact ⟨hb.pos, hb.cr, hb.rl, hb.few, hb.msl, fun m hm => by have := hb.msg m hm; omega⟩
      · simp only [h2, if_false]; exact hb
  · have := h.tot
    rw [fly_setP hp, hf]
    show haveG g + spentG g + _ = U
    omega
theorem Inv.send {g : GM} {U : Int} (h : Inv g U) (f t : Int) : Inv (sendM g f t) U := by
  unfold sendM
  split
  · rename_i h0
    unfold sendE at h0
    split at h0
    · cases h0
    · rename_i h1
      split at h0
      · cases h0
      · rename_i h2
        have hp : g.pair f t = true := by simpa using h1
        have hk := h.pr f t hp
        refine h.setP hp _ ⟨hk.pos, hk.cr, hk.rl, hk.few, by simp; omega, fun m hm => ?_⟩ (Nat.le_refl _) rfl
        simp only [List.mem_append, List.mem_singleton] at hm
        rcases hm with hm | rfl
        · exact hk.msg m hm
        · have := hk.cr; have := hk.rl; have := hk.few
          simp; omega
  · exact h
theorem fly_snoc (p : PrG) (k : Int) (h : p.rc ≤ p.H.length) : fly { p with H := p.H ++ [k] } = fly p + k := by
  unfold fly
  simp only []
  rw [List.drop_append_of_le_length h, isum_append]; simp [isum]
theorem Inv.give {g : GM} {U : Int} (h : Inv g U) (f t k : Int) : Inv (giveM g f t k) U := by
  unfold giveM
  split
  · rename_i h0
    unfold giveE at h0
    split at h0
    · cases h0
    · rename_i h1
      split at h0
      · cases h0
      · rename_i h2
        split at h0
        · cases h0
        · rename_i h3
          have hp : g.pair f t = true := by cases hq : g.pair f t with | true => rfl | false => exact (h1 (.inl hq)).elim
          have hk1 : ¬ k < 1 := fun e => h1 (.inr e)
          have hk := h.pr f t hp
          obtain ⟨hf, ht, hne⟩ := pair_is hp
          have ha := h.at_ hf
          refine ⟨by have := h.nb; simp only [GM.setP, GM.setA, List.length_set]; exact this, fun x hx => ?_, fun a b hab => ?_, ?_, h.U⟩
          · rcases List.mem_or_eq_of_mem_set hx with hx | rfl
            · exact h.acc x hx
            · exact ⟨by simp; omega, ha.2⟩
          · rw [setP_pair, setA_pair] at hab
            simp only [GM.setP, Prod.mk.injEq, setA_pr]
            have hb := h.pr a b hab
            by_cases h4 : a = f ∧ b = t
            · obtain ⟨rfl, rfl⟩ := h4
              have h5 : ¬ (b = a ∧ a = b) := fun e => hne e.2
              simp only [and_self, if_true, h5, if_false]
              refine ⟨fun x hx => ?_, hk.cr, by simp; have := hk.rl; omega, by simp; have := hk.cr; omega, hk.msl, fun m hm => by have := hk.msg m hm; simp; omega⟩
              simp only [List.mem_append, List.mem_singleton] at hx
              rcases hx with hx | rfl
              · exact hk.pos x hx
              · omega
            · simp only [h4, if_false]
              by_cases h5 : b = f ∧ a = t
              · obtain ⟨rfl, rfl⟩ := h5
                simp only [and_self, if_true]
                exact ⟨hb.pos, hb.cr, hb.rl, hb.few, hb.msl, hb.msg⟩
              · simp only [h5, if_false]; exact hb
          · have hp' : (g.setA f { g.at_ f with u := (g.at_ f).u - k }).pair f t = true := by rw [setA_pair]; exact hp
            rw [fly_setP hp', fly_setA]
            show haveG (g.setA f _) + spentG (g.setA f _) + _ = U
            rw [have_setA hf, spent_setA hf]
            show haveG g - _ + _ + (spentG g - _ + _) + (flyG g - fly (g.pr (f, t)) + fly { g.pr (f, t) with H := (g.pr (f, t)).H ++ [k] }) = U
            rw [fly_snoc _ _ hk.rl]
            have := h.tot
            simp only []; omega
  · exact h
theorem fly_split (H : List Int) (r u : Nat) : isum (H.drop r) = isum ((H.take u).drop r) + isum (H.drop (max r u)) := by
  by_cases h : r ≤ u
  · rw [Nat.max_eq_right h]
    have h1 : H.drop r = (H.take u).drop r ++ H.drop u := by
      conv => lhs; rw [← List.take_append_drop u H]
      rw [List.drop_append]
      by_cases h2 : u ≤ H.length
      · rw [List.length_take, Nat.min_eq_left h2, Nat.sub_eq_zero_of_le h]; simp
      · rw [List.drop_of_length_le (by omega : H.length ≤ u)]; simp
    rw [h1, isum_append]
  · have h1 : (H.take u).drop r = [] := List.drop_of_length_le (by rw [List.length_take]; omega)
    rw [Nat.max_eq_left (by omega), h1]; simp [isum]
theorem delE_pair {g : GM} {f t : Int} (h : delE g f t = true) : g.pair f t = true ∧ ∃ m l, (g.pr (f, t)).ms = m :: l := by
  simp only [delE, Bool.and_eq_true, Bool.not_eq_true'] at h
  refine ⟨h.1, ?_⟩
  cases hm : (g.pr (f, t)).ms with
  | nil => rw [hm] at h; simp at h
  | cons m l => exact ⟨m, l, rfl⟩
theorem Inv.pop {g : GM} {U : Int} (h : Inv g U) {f t : Int} (hd : delE g f t = true) (again : Bool) : Inv (popM g f t again) U := by
  obtain ⟨hp, m, l, hm⟩ := delE_pair hd
  have hk := h.pr f t hp
  unfold popM
  refine h.setP hp _ ⟨hk.pos, hk.cr, hk.rl, hk.few, ?_, fun x hx => hk.msg x ?_⟩ (Nat.le_refl _) rfl
  · have := hk.msl
    rw [hm] at this ⊢
    cases again <;> simp at this ⊢ <;> omega
  · rw [hm] at hx ⊢
    cases again <;> simp at hx ⊢
    · exact .inr hx
    · rcases hx with hx | hx
      · exact .inr hx
      · exact .inl hx
/-- What is true of a message on its way. -/
def MsgOk (g : GM) (f t : Int) (m : MsgG) : Prop := m.c ≤ (g.pr (f, t)).rc ∧ m.c ≤ m.up ∧ m.up ≤ (g.pr (f, t)).H.length ∧ m.up ≤ m.c + 100 ∧ m.rc ≤ (g.pr (t, f)).rc
theorem Inv.recv {g : GM} {U : Int} (h : Inv g U) {f t : Int} (hp : g.pair f t = true) {m : MsgG} (hm : MsgOk g f t m) : Inv (recvM g f t m) U := by
  obtain ⟨hf, ht, hne⟩ := pair_is hp
  have hk := h.pr f t hp
  have hb := h.pr t f (pair_swap hp)
  have hat := h.at_ ht
  obtain ⟨m1, m2, m3, m4, m5⟩ := hm
  have hadd : 0 ≤ isum (((g.pr (f, t)).H.take m.up).drop (g.pr (f, t)).rc) := isum_nonneg (fun x hx => by have := hk.pos x (List.mem_of_mem_take (List.mem_of_mem_drop hx)); omega)
  have hfly : fly (g.pr (f, t)) = isum (((g.pr (f, t)).H.take m.up).drop (g.pr (f, t)).rc) + isum ((g.pr (f, t)).H.drop (max (g.pr (f, t)).rc m.up)) := fly_split _ _ _
  have hk' : (t, f) ≠ (f, t) := fun e => by rw [Prod.mk.injEq] at e; exact hne e.2
  have hg1 : (g.setP (f, t) { g.pr (f, t) with rc := max (g.pr (f, t)).rc m.up }).pr (t, f) = g.pr (t, f) := by simp only [GM.setP, hk', if_false]
  have hpr : ∀ a b, (recvM g f t m).pr (a, b) = if (a, b) = (t, f) then { g.pr (t, f) with conf := max (g.pr (t, f)).conf m.rc } else if (a, b) = (f, t) then { g.pr (f, t) with rc := max (g.pr (f, t)).rc m.up } else g.pr (a, b) := fun a b => by
    unfold recvM
    simp only [setA_pr, hg1]
    simp only [GM.setP]
  refine ⟨by have := h.nb; unfold recvM; simp only [GM.setP, GM.setA, List.length_set]; exact this, fun x hx => ?_, fun a b hab => ?_, ?_, h.U⟩
  · unfold recvM at hx
    rcases List.mem_or_eq_of_mem_set hx with hx | rfl
    · exact h.acc x hx
    · exact ⟨by simp only []; omega, hat.2⟩
  · have hab' : g.pair a b = true := by
      have : (recvM g f t m).pair a b = g.pair a b := by unfold recvM; simp only [setA_pair, setP_pair]
      rw [← this]; exact hab
    have hb' := h.pr a b hab'
    rw [hpr a b, hpr b a]
    by_cases e1 : (a, b) = (t, f)
    · rw [Prod.mk.injEq] at e1
      obtain ⟨rfl, rfl⟩ := e1
      rw [if_pos rfl, if_neg (fun e => hk' e.symm), if_pos rfl]
      exact ⟨hb.pos, by simp only []; have := hb.cr; omega, hb.rl, by simp only []; have := hb.few; omega, hb.msl, fun x hx => by have := hb.msg x hx; simp only []; omega⟩
    · rw [if_neg e1]
      by_cases e2 : (a, b) = (f, t)
      · rw [Prod.mk.injEq] at e2
        obtain ⟨rfl, rfl⟩ := e2
        rw [if_pos rfl, if_pos rfl]
        exact ⟨hk.pos, by simp only []; have := hk.cr; omega, by simp only []; have := hk.rl; omega, hk.few, hk.msl, fun x hx => by have := hk.msg x hx; simp only []; omega⟩
      · rw [if_neg e2]
        have e3 : ¬ (b, a) = (t, f) := fun e => e2 (by rw [Prod.mk.injEq] at e ⊢; exact ⟨e.2, e.1⟩)
        have e4 : ¬ (b, a) = (f, t) := fun e => e1 (by rw [Prod.mk.injEq] at e ⊢; exact ⟨e.2, e.1⟩)
        rw [if_neg e3, if_neg e4]; exact hb'
  · unfold recvM
    simp only []
    have ht2 : ((g.setP (f, t) { g.pr (f, t) with rc := max (g.pr (f, t)).rc m.up }).setP (t, f) { (g.setP (f, t) { g.pr (f, t) with rc := max (g.pr (f, t)).rc m.up }).pr (t, f) with conf := max ((g.setP (f, t) { g.pr (f, t) with rc := max (g.pr (f, t)).rc m.up }).pr (t, f)).conf m.rc }).is t = true := ht
    rw [have_setA ht2, spent_setA ht2, fly_setA, fly_setP (by rw [setP_pair]; exact pair_swap hp), fly_setP hp, hg1]
    have e1 : fly { g.pr (t, f) with conf := max (g.pr (t, f)).conf m.rc } = fly (g.pr (t, f)) := rfl
    have e2 : fly { g.pr (f, t) with rc := max (g.pr (f, t)).rc m.up } = isum ((g.pr (f, t)).H.drop (max (g.pr (f, t)).rc m.up)) := rfl
    rw [e1, e2]
    simp only [setP_at]
    have h3 : ∀ (k1 k2 : Int × Int) (q1 q2 : PrG), haveG ((g.setP k1 q1).setP k2 q2) = haveG g ∧ spentG ((g.setP k1 q1).setP k2 q2) = spentG g := fun _ _ _ _ => ⟨rfl, rfl⟩
    rw [(h3 _ _ _ _).1, (h3 _ _ _ _).2]
    have := h.tot
    omega
theorem pop_pr (g : GM) (f t : Int) (again : Bool) (a b : Int) : ((popM g f t again).pr (a, b)).rc = (g.pr (a, b)).rc ∧ ((popM g f t again).pr (a, b)).H = (g.pr (a, b)).H ∧ ((popM g f t again).pr (a, b)).conf = (g.pr (a, b)).conf := by
  unfold popM GM.setP
  simp only []
  split
  · rename_i e; rw [e]; exact ⟨rfl, rfl, rfl⟩
  · exact ⟨rfl, rfl, rfl⟩
theorem Inv.del {g : GM} {U : Int} (h : Inv g U) (f t : Int) (lost again : Bool) : Inv (delM g f t lost again) U := by
  unfold delM
  split
  · rename_i hd
    obtain ⟨hp, m, l, hm⟩ := delE_pair hd
    have h1 := h.pop hd again
    simp only []
    split
    · exact h1
    · refine h1.recv (by unfold popM; rw [setP_pair]; exact hp) ?_
      have := (h.pr f t hp).msg m (by rw [hm]; simp)
      rw [hm]
      unfold MsgOk
      rw [(pop_pr g f t again f t).1, (pop_pr g f t again f t).2.1, (pop_pr g f t again t f).1]
      exact this
  · exact h
theorem Inv.new {n : Nat} {u : Int} (h1 : 1 ≤ n) (h2 : n ≤ 8) (h3 : 0 ≤ u) (h4 : u ≤ 1000000000) : Inv (newG n u) u := by
  refine ⟨by simp [newG]; omega, fun a ha => ?_, fun f t _ => ?_, ?_, h3, h4⟩
  · simp only [newG, List.mem_cons, List.mem_replicate] at ha
    rcases ha with rfl | ⟨_, rfl⟩
    · exact ⟨h3, by simp⟩
    · exact ⟨by simp, by simp⟩
  · simp only [newG, p0]
    exact ⟨by simp, by simp, by simp, by simp, by simp, by simp⟩
  · have e1 : ∀ k, isum ((List.replicate k (⟨0, 0, false⟩ : Acc)).map Acc.u) = 0 ∧ isum ((List.replicate k (⟨0, 0, false⟩ : Acc)).map Acc.s) = 0 := fun k => by
      induction k with
      | zero => simp [isum]
      | succ k ih => simp only [List.replicate_succ, List.map_cons, isum, ih.1, ih.2]; simp
    have e2 : ∀ l : List (Int × Int), isum (l.map fun k => fly ((newG n u).pr k)) = 0 := fun l => by
      induction l with
      | nil => simp [isum]
      | cons a l ih => simp only [List.map_cons, isum, ih]; simp [newG, p0, fly, isum]
    unfold haveG spentG flyG
    rw [e2]
    simp only [newG, List.map_cons, isum, (e1 _).1, (e1 _).2]; omega
end Go.CH.Esc
