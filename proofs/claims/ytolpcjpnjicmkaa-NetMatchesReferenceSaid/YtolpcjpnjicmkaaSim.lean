/-
  Net: the network and the reference agree: the plain law.
-/
import Derived.Test.YtolpcjpnjicmkaaRef7
import Derived.Test.YtolpcjpnjicmkaaLin
set_option linter.unusedSimpArgs false
set_option linter.unusedVariables false
namespace Go.Proofs.Ytolpcjpnjicmkaa
open Go.RowKit Go.CH

theorem knows_pair (n a b : Int) : knowsB n a b = pairB n a b := by
  unfold knowsB pairB out1
  by_cases h1 : a < 0 <;> by_cases h2 : n ≤ a <;> by_cases h3 : b < 0 <;> by_cases h4 : n ≤ b <;> by_cases h5 : a = b <;> simp [h1, h2, h3, h4, h5] <;> omega
theorem idxG_cases {α : Type} (p : α → Bool) : ∀ (l : List α) (i : Int), (idxG p l i = -1 ∧ ∀ x ∈ l, p x = false) ∨ ∃ k, ∃ hk : k < l.length, idxG p l i = i + k ∧ p l[k] = true ∧ ∀ j (hj : j < l.length), j < k → p l[j] = false
  | [], i => .inl ⟨rfl, by simp⟩
  | x :: l, i => by
    unfold idxG
    cases h : p x with
    | true => exact .inr ⟨0, by simp, by simp, by simpa using h, by omega⟩
    | false =>
      rw [if_neg (by simp)]
      rcases idxG_cases p l (i + 1) with ⟨h1, h2⟩ | ⟨k, hk, h1, h2, h3⟩
      · refine .inl ⟨h1, fun y hy => ?_⟩
        rcases List.mem_cons.1 hy with rfl | hy
        · exact h
        · exact h2 y hy
      · refine .inr ⟨k + 1, by simpa using hk, by rw [h1]; push_cast; omega, by simpa using h2, fun j hj hjk => ?_⟩
        cases j with
        | zero => simpa using h
        | succ j => simpa using h3 j (by simpa using hj) (by omega)
theorem split_at {α : Type} {l : List α} {k : Nat} (hk : k < l.length) : l = l.take k ++ l[k] :: l.drop (k + 1) := by
  rw [← List.drop_eq_getElem_cons hk]; exact (List.take_append_drop k l).symm
theorem filter_first {α : Type} {p : α → Bool} {l : List α} {k : Nat} (hk : k < l.length) (h1 : p l[k] = true) (h2 : ∀ j (hj : j < l.length), j < k → p l[j] = false) : l.filter p = l[k] :: (l.eraseIdx k).filter p := by
  have h3 : (l.take k).filter p = [] := by
    rw [List.filter_eq_nil_iff]
    intro x hx
    obtain ⟨j, hj, rfl⟩ := List.getElem_of_mem hx
    rw [List.length_take] at hj
    rw [List.getElem_take, h2 j (by omega) (by omega)]; simp
  conv => lhs; rw [split_at hk]
  rw [← erase_eq, List.filter_append, List.filter_append, h3, List.filter_cons_of_pos h1]
  rfl
theorem filter_erase {α : Type} {p : α → Bool} {l : List α} {k : Nat} (hk : k < l.length) (h1 : p l[k] = false) : (l.eraseIdx k).filter p = l.filter p := by
  conv => rhs; rw [split_at hk]
  rw [← erase_eq, List.filter_append, List.filter_append, List.filter_cons_of_neg (by simp [h1])]
theorem any_erase {α : Type} {p : α → Bool} {l : List α} {k : Nat} (hk : k < l.length) (h1 : p l[k] = false) : (l.eraseIdx k).any p = l.any p := by
  conv => rhs; rw [split_at hk]
  rw [← erase_eq, List.any_append, List.any_append, List.any_cons, h1, Bool.false_or]
theorem cutI_any (G : List (Int × Int)) (a b : Int) : decide (0 ≤ cutI G a b) = G.any (same a b) ∧ decide (cutI G a b < 0) = !G.any (same a b) := by
  unfold cutI
  rcases idxG_cases (same a b) G 0 with ⟨h1, h2⟩ | ⟨k, hk, h1, h2, _⟩
  · have : G.any (same a b) = false := List.any_eq_false.2 (fun x hx => by simp [h2 x hx])
    rw [h1, this]; simp
  · have : G.any (same a b) = true := List.any_eq_true.2 ⟨_, List.getElem_mem hk, h2⟩
    rw [h1, this]
    have h3 : (0 : Int) ≤ 0 + k := by omega
    have h4 : ¬ (0 : Int) + k < 0 := by omega
    simp [h3, h4]
theorem same_comm (a b : Int) (x : Int × Int) : same a b x = same b a x := by unfold same; rw [Bool.or_comm]
theorem same_iff (a b : Int) (x : Int × Int) : same a b x = true ↔ (x.1 = a ∧ x.2 = b) ∨ (x.1 = b ∧ x.2 = a) := by simp [same]
theorem same_false (a b : Int) (x : Int × Int) : same a b x = false ↔ ¬ ((x.1 = a ∧ x.2 = b) ∨ (x.1 = b ∧ x.2 = a)) := by rw [← same_iff]; simp

structure Simu (m : NetM) (r : RefM) : Prop where
  n : m.nodes = r.n
  q : ∀ a b, pairB r.n a b = true → m.q (a, b) = (r.L.filter (fr a b)).map RMsg.s
  c : ∀ a b, pairB r.n a b = true → m.c (a, b) = r.G.any (same a b)
  ok : ∀ x ∈ r.L, r.G.any (same x.f x.t) = false
  uniq : r.G.Pairwise (fun x y => same x.1 x.2 y = false)
theorem Simu.wait {m : NetM} {r : RefM} (h : Simu m r) (a b : Int) : waitM m a b = rWait r a b := by
  unfold waitM rWait
  rw [knows_pair, h.n]
  by_cases hp : pairB r.n a b = true
  · rw [if_pos hp, if_pos hp, h.q a b hp]
  · rw [if_neg hp, if_neg hp]
theorem fr_iff (a b : Int) (x : RMsg) : fr a b x = true ↔ x.f = a ∧ x.t = b := by simp [fr]
theorem Simu.send {m : NetM} {r : RefM} (h : Simu m r) (a b : Int) (t : ByteArray) : sendE m a b t = rsendE r a b t ∧ Simu (sendR m a b t) (rsendR r a b t) := by
  have he : sendE m a b t = rsendE r a b t := by
    unfold sendE rsendE
    rw [knows_pair, h.n]
    by_cases h1 : pairB r.n a b = false ∨ 20000 < t.size
    · rw [if_pos h1, if_pos h1]
    · rw [if_neg h1, if_neg h1]
      have hp : pairB r.n a b = true := by
        cases hq : pairB r.n a b with
        | true => rfl
        | false => exact (h1 (.inl hq)).elim
      have h2 := (cutI_any r.G a b).1
      rw [← h.c a b hp] at h2
      have h3 : m.q (a, b) = rWait r a b := by rw [h.q a b hp]; simp [rWait, hp]
      rw [h3]
      by_cases h4 : 0 ≤ cutI r.G a b
      · rw [if_pos h4, if_pos (by rw [← h2]; simpa using h4)]
      · rw [if_neg h4, if_neg (by rw [← h2]; simpa using h4)]
  refine ⟨he, ?_⟩
  by_cases h0 : rsendE r a b t = 0
  · have hp : pairB r.n a b = true := by
      cases hq : pairB r.n a b with
      | true => rfl
      | false => simp [rsendE, hq] at h0
    have hc : r.G.any (same a b) = false := by
      have h1 : ¬ 0 ≤ cutI r.G a b := by
        intro h2
        unfold rsendE at h0
        rw [if_pos h2] at h0
        split at h0 <;> cases h0
      rw [← (cutI_any r.G a b).1]; simpa using h1
    have e2 : rsendR r a b t = { r with L := r.L ++ [⟨a, b, t⟩] } := by unfold rsendR; rw [if_pos h0]
    rw [e2]
    refine ⟨by rw [sendR_n]; exact h.n, fun a' b' hp' => ?_, fun a' b' hp' => by rw [sendR_c]; exact h.c a' b' hp', fun x hx => ?_, h.uniq⟩
    · rw [sendR_q, he, h.q a' b' hp']
      by_cases hk : (a', b') = (a, b)
      · rw [if_pos ⟨h0, hk⟩]
        rw [Prod.mk.injEq] at hk
        simp [fr, hk.1, hk.2]
      · rw [if_neg (fun g => hk g.2)]
        have : fr a' b' ⟨a, b, t⟩ = false := by
          cases hf : fr a' b' ⟨a, b, t⟩ with
          | false => rfl
          | true => rw [fr_iff] at hf; exact (hk (by rw [← hf.1, ← hf.2])).elim
        simp [this]
    · rcases List.mem_append.1 hx with hx | hx
      · exact h.ok x hx
      · simp at hx; subst hx; exact hc
  · have e1 : sendR m a b t = m := by unfold sendR; rw [he, if_neg h0]
    have e2 : rsendR r a b t = r := by unfold rsendR; rw [if_neg h0]
    rw [e1, e2]; exact h
theorem Simu.del {m : NetM} {r : RefM} (h : Simu m r) (a b : Int) (lost again : Bool) : delE m a b lost = rdelE r a b lost ∧ Simu (delM m a b lost again) (rdelR r a b lost again) := by
  cases hp : pairB r.n a b with
  | false =>
    obtain ⟨h1, h2⟩ := rdel_pair hp lost again
    rw [h1, h2]
    have hk : knowsB m.nodes a b = false := by rw [knows_pair, h.n, hp]
    refine ⟨by simp [delE, hk], ?_⟩
    have : delM m a b lost again = m := by simp [delM, hk]
    rw [this]; exact h
  | true =>
    have hk : knowsB m.nodes a b = true := by rw [knows_pair, h.n, hp]
    have hq := h.q a b hp
    rcases idxG_cases (fr a b) r.L 0 with ⟨h1, h2⟩ | ⟨k, hkl, h1, h2, h3⟩
    · obtain ⟨e1, e2⟩ := rdel_none h1 lost again
      rw [e1, e2]
      have hq0 : m.q (a, b) = [] := by rw [hq, List.filter_eq_nil_iff.2 (fun x hx => by simp [h2 x hx])]; rfl
      refine ⟨by simp [delE, hk, hq0], ?_⟩
      have : delM m a b lost again = m := by simp [delM, hq0]
      rw [this]; exact h
    · rw [Int.zero_add] at h1
      obtain ⟨e1, e2⟩ := rdel_some hp hkl h1 lost again
      rw [e1, e2]
      have hf := filter_first hkl h2 h3
      rw [hf, List.map_cons] at hq
      refine ⟨by simp [delE, hk, hq], ?_⟩
      cases hl : (lost || !again) with
      | false =>
        have : delM m a b lost again = m := by
          cases lost <;> cases again <;> simp_all [delM]
        rw [this]; exact h
      | true =>
        have hla : lost = true ∨ again = false := by cases lost <;> cases again <;> simp_all
        simp only [if_true]
        have hfr := (fr_iff a b _).1 h2
        refine ⟨by rw [delM_n]; exact h.n, fun a' b' hp' => ?_, fun a' b' hp' => by rw [delM_c]; exact h.c a' b' hp', fun x hx => h.ok x (List.mem_of_mem_eraseIdx hx), h.uniq⟩
        rw [delM_q]
        by_cases hkk : (a', b') = (a, b)
        · rw [if_pos ⟨hk, hla, hkk⟩, hkk, hq]
          rw [Prod.mk.injEq] at hkk
          rw [hkk.1, hkk.2]; rfl
        · rw [if_neg (fun g => hkk g.2.2), h.q a' b' hp', filter_erase hkl]
          cases hf' : fr a' b' r.L[k] with
          | false => rfl
          | true =>
            rw [fr_iff] at hf'
            exact (hkk (by rw [← hf'.1, ← hf'.2, hfr.1, hfr.2])).elim
theorem pair_lt {n a b : Int} (h : pairB n a b = true) : pairB n b a = true := by
  unfold pairB at *
  simp only [Bool.and_eq_true, decide_eq_true_eq, Bool.not_eq_true', beq_eq_false_iff_ne] at *
  obtain ⟨⟨⟨⟨h1, h2⟩, h3⟩, h4⟩, h5⟩ := h
  exact ⟨⟨⟨⟨h3, h4⟩, h1⟩, h2⟩, Ne.symm h5⟩
theorem turnE_eq {m : NetM} {r : RefM} (h : Simu m r) (a b : Int) : turnE m a b true = rcutE r a b ∧ turnE m a b false = rhealE r a b := by
  unfold turnE rcutE rhealE
  rw [knows_pair, h.n]
  cases hp : pairB r.n a b with
  | false => simp
  | true =>
    rw [h.c a b hp, ← (cutI_any r.G a b).1]
    by_cases h1 : 0 ≤ cutI r.G a b
    · have h2 : ¬ cutI r.G a b < 0 := by omega
      simp [h1, h2]
    · have h2 : cutI r.G a b < 0 := by omega
      simp [h1, h2]
theorem Simu.cut {m : NetM} {r : RefM} (h : Simu m r) (a b : Int) : turnE m a b true = rcutE r a b ∧ Simu (turnR m a b true) (rcutR r a b) := by
  have he := (turnE_eq h a b).1
  refine ⟨he, ?_⟩
  by_cases h0 : rcutE r a b = 0
  · have hp : pairB r.n a b = true := by
      cases hq : pairB r.n a b with
      | true => rfl
      | false => simp [rcutE, hq] at h0
    have hc : r.G.any (same a b) = false := by
      rw [← (cutI_any r.G a b).1]
      cases hq : decide (0 ≤ cutI r.G a b) with
      | false => rfl
      | true => simp only [decide_eq_true_eq] at hq; simp [rcutE, hp, hq] at h0
    have e2 : rcutR r a b = { r with G := r.G ++ [(a, b)], L := r.L.filter (open_ (r.G ++ [(a, b)])) } := by unfold rcutR; rw [if_pos h0]
    rw [e2]
    have hop : ∀ x ∈ r.L, open_ (r.G ++ [(a, b)]) x = !same x.f x.t (a, b) := fun x hx => by
      unfold open_
      rw [(cutI_any _ _ _).2, List.any_append, h.ok x hx]; simp
    have hsm : ∀ a' b', same a' b' (a, b) = decide ((a', b') = (a, b) ∨ (a', b') = (b, a)) := fun a' b' => by
      cases hs : same a' b' (a, b) with
      | true =>
        rw [same_iff] at hs
        symm; rw [decide_eq_true_eq]
        rcases hs with ⟨h1, h2⟩ | ⟨h1, h2⟩
        · exact .inl (by rw [← h1, ← h2])
        · exact .inr (by rw [← h1, ← h2])
      | false =>
        rw [same_false] at hs
        symm; rw [decide_eq_false_iff_not]
        rintro (e | e)
        · rw [Prod.mk.injEq] at e; exact hs (.inl ⟨e.1.symm, e.2.symm⟩)
        · rw [Prod.mk.injEq] at e; exact hs (.inr ⟨e.2.symm, e.1.symm⟩)
    refine ⟨by rw [turnR_n]; exact h.n, fun a' b' hp' => ?_, fun a' b' hp' => ?_, fun x hx => ?_, ?_⟩
    · rw [turnR_q, he, h.q a' b' hp', List.filter_filter]
      by_cases hk : (a', b') = (a, b) ∨ (a', b') = (b, a)
      · rw [if_pos ⟨h0, rfl, hk⟩]
        symm
        rw [List.map_eq_nil_iff, List.filter_eq_nil_iff]
        intro x hx
        rw [hop x hx]
        cases hf : fr a' b' x with
        | false => simp
        | true =>
          rw [fr_iff] at hf
          rw [hf.1, hf.2, hsm a' b', decide_eq_true hk]; simp
      · rw [if_neg (fun g => hk g.2.2)]
        congr 1
        refine List.filter_congr fun x hx => ?_
        rw [hop x hx]
        cases hf : fr a' b' x with
        | false => simp
        | true =>
          rw [fr_iff] at hf
          rw [hf.1, hf.2, hsm a' b', decide_eq_false hk]; simp
    · rw [turnR_c, he, h.c a' b' hp', List.any_append]
      by_cases hk : (a', b') = (a, b) ∨ (a', b') = (b, a)
      · rw [if_pos ⟨h0, hk⟩, List.any_cons, hsm a' b', decide_eq_true hk]; simp
      · rw [if_neg (fun g => hk g.2), List.any_cons, hsm a' b', decide_eq_false hk]; simp
    · obtain ⟨hx1, hx2⟩ := List.mem_filter.1 hx
      rw [hop x hx1] at hx2
      rw [List.any_append, h.ok x hx1]
      simpa using hx2
    · rw [List.pairwise_append]
      refine ⟨h.uniq, List.pairwise_singleton _ _, fun y hy z hz => ?_⟩
      simp at hz; subst hz
      have := List.any_eq_false.1 hc y hy
      rw [Bool.not_eq_true, same_false] at this
      rw [same_false]
      rintro (⟨h1, h2⟩ | ⟨h1, h2⟩)
      · exact this (.inl ⟨h1.symm, h2.symm⟩)
      · exact this (.inr ⟨h2.symm, h1.symm⟩)
  · have e1 : turnR m a b true = m := by unfold turnR; rw [he, if_neg h0]
    have e2 : rcutR r a b = r := by unfold rcutR; rw [if_neg h0]
    rw [e1, e2]; exact h
theorem Simu.heal {m : NetM} {r : RefM} (h : Simu m r) (a b : Int) : turnE m a b false = rhealE r a b ∧ Simu (turnR m a b false) (rhealR r a b) := by
  have he := (turnE_eq h a b).2
  refine ⟨he, ?_⟩
  by_cases h0 : rhealE r a b = 0
  · have hp : pairB r.n a b = true := by
      cases hq : pairB r.n a b with
      | true => rfl
      | false => simp [rhealE, hq] at h0
    rcases idxG_cases (same a b) r.G 0 with ⟨h1, _⟩ | ⟨k, hk, h1, h2, _⟩
    · simp [rhealE, hp, cutI, h1] at h0
    · rw [Int.zero_add] at h1
      have e2 : rhealR r a b = { r with G := r.G.eraseIdx k } := by unfold rhealR; rw [if_pos h0, show cutI r.G a b = k from h1]; rfl
      rw [e2]
      have hsame := (same_iff a b _).1 h2
      have hline : ∀ a' b', same a' b' r.G[k] = true ↔ ((a', b') = (a, b) ∨ (a', b') = (b, a)) := fun a' b' => by
        rw [same_iff]
        simp only [Prod.mk.injEq]
        rcases hsame with ⟨e1, e2⟩ | ⟨e1, e2⟩ <;> rw [e1, e2] <;> constructor <;> rintro (⟨g1, g2⟩ | ⟨g1, g2⟩) <;> simp [g1, g2]
      have hgone : ∀ y ∈ r.G.eraseIdx k, same r.G[k].1 r.G[k].2 y = false := fun y hy => by
        have hu := h.uniq
        rw [split_at hk] at hu
        rw [List.pairwise_append, List.pairwise_cons] at hu
        rw [← erase_eq, List.mem_append] at hy
        rcases hy with hy | hy
        · have := hu.2.2 y hy r.G[k] List.mem_cons_self
          rw [same_false] at this ⊢
          rintro (⟨g1, g2⟩ | ⟨g1, g2⟩)
          · exact this (.inl ⟨g1.symm, g2.symm⟩)
          · exact this (.inr ⟨g2.symm, g1.symm⟩)
        · exact hu.2.1.1 y hy
      refine ⟨by rw [turnR_n]; exact h.n, fun a' b' hp' => ?_, fun a' b' hp' => ?_, fun x hx => ?_, ?_⟩
      · rw [turnR_q, if_neg (fun g => by cases g.2.1), h.q a' b' hp']
      · rw [turnR_c, he, h.c a' b' hp']
        by_cases hkk : (a', b') = (a, b) ∨ (a', b') = (b, a)
        · rw [if_pos ⟨h0, hkk⟩]
          symm
          rw [List.any_eq_false]
          intro y hy hs
          have h5 := hgone y hy
          have h6 := (same_iff _ _ _).1 ((hline a' b').2 hkk)
          rw [same_false] at h5
          rw [same_iff] at hs
          apply h5
          rcases h6 with ⟨e1, e2⟩ | ⟨e1, e2⟩ <;> rcases hs with ⟨g1, g2⟩ | ⟨g1, g2⟩ <;> rw [e1, e2, g1, g2] <;> simp
        · rw [if_neg (fun g => hkk g.2)]
          symm
          refine any_erase hk ?_
          cases hs : same a' b' r.G[k] with
          | false => rfl
          | true => exact (hkk ((hline a' b').1 hs)).elim
      · have := h.ok x hx
        rw [List.any_eq_false] at this ⊢
        exact fun y hy => this y (List.mem_of_mem_eraseIdx hy)
      · exact h.uniq.sublist (List.eraseIdx_sublist _ _)
  · have e1 : turnR m a b false = m := by unfold turnR; rw [he, if_neg h0]
    have e2 : rhealR r a b = r := by unfold rhealR; rw [if_neg h0]
    rw [e1, e2]; exact h
theorem Simu.step {m : NetM} {r : RefM} (h : Simu m r) (x : Step) : doR m x = rdoR r x ∧ Simu (doM m x) (rdoM r x) := by
  unfold doR rdoR doM rdoM
  by_cases h0 : x.kind = 0
  · simp only [h0, if_true]
    obtain ⟨h1, h2⟩ := h.send x.a x.b x.text
    exact ⟨by rw [h1], h2⟩
  by_cases h1 : x.kind = 1
  · rw [if_neg h0, if_neg h0, if_neg h0, if_neg h0, if_pos h1, if_pos h1, if_pos h1, if_pos h1]
    obtain ⟨h1, h2⟩ := h.del x.a x.b x.lost x.again
    exact ⟨by rw [h1], h2⟩
  by_cases h2 : x.kind = 2
  · rw [if_neg h0, if_neg h0, if_neg h0, if_neg h0, if_neg h1, if_neg h1, if_neg h1, if_neg h1, if_pos h2, if_pos h2, if_pos h2, if_pos h2]
    obtain ⟨h1, h2⟩ := h.cut x.a x.b
    exact ⟨by rw [h1], h2⟩
  · rw [if_neg h0, if_neg h0, if_neg h0, if_neg h0, if_neg h1, if_neg h1, if_neg h1, if_neg h1, if_neg h2, if_neg h2, if_neg h2, if_neg h2]
    obtain ⟨h1, h2⟩ := h.heal x.a x.b
    exact ⟨by rw [h1], h2⟩
theorem simu_new (n : Int) : Simu ⟨n, fun _ => [], fun _ => false⟩ ⟨n, [], []⟩ := ⟨rfl, fun _ _ _ => rfl, fun _ _ _ => rfl, (fun _ h => by simp at h), List.Pairwise.nil⟩
theorem rdo_len (r : RefM) (x : Step) : (rdoM r x).L.length ≤ r.L.length + 1 ∧ (rdoM r x).G.length ≤ r.G.length + 1 := by
  unfold rdoM
  by_cases h0 : x.kind = 0
  · rw [if_pos h0]; unfold rsendR; split <;> simp
  by_cases h1 : x.kind = 1
  · rw [if_neg h0, if_pos h1]; unfold rdelR; split
    · simp only []; exact ⟨Nat.le_trans (List.length_eraseIdx_le _ _) (by omega), by omega⟩
    · exact ⟨by omega, by omega⟩
  by_cases h2 : x.kind = 2
  · rw [if_neg h0, if_neg h1, if_pos h2]; unfold rcutR; split
    · simp only []; exact ⟨Nat.le_trans (List.length_filter_le _ _) (by omega), by simp⟩
    · exact ⟨by omega, by omega⟩
  · rw [if_neg h0, if_neg h1, if_neg h2]; unfold rhealR; split
    · simp only []; exact ⟨by omega, Nat.le_trans (List.length_eraseIdx_le _ _) (by omega)⟩
    · exact ⟨by omega, by omega⟩
end Go.Proofs.Ytolpcjpnjicmkaa
