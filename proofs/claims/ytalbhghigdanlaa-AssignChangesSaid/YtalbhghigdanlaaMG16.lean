/-
  Assign: the plain laws of the potentials.
  Assign: the plain laws of assignments in order and of grids.
  Assign: lists, and lists of lists, that a law makes by appends.
  Assign: the plain laws of problems whose rows and columns have another order.
  Assign: one cost of a problem is changed: memory and plain laws.
-/
import Derived.Test.YtalbhghigdanlaaMG15
set_option linter.unusedSimpArgs false
set_option linter.unusedVariables false
namespace Go.Proofs.Ytalbhghigdanlaa
open Go.RowKit Go.CH Go.CH.Asg
open Go.ChangeMaps (setBlock)
section
variable {C : List (List Int)} {D E U W : List Int}
theorem lF_map {n : Nat} {f : Nat → Int} {i : Nat} (hi : i < n) : lF ((List.range n).map f) i = f i := by
  unfold lF
  rw [List.getD_eq_getElem?_getD, List.getElem?_map, List.getElem?_range hi]; rfl
theorem bU_at {i : Nat} (hi : i < D.length) : lF (bU C D E) i = buF (cF C) (lF D) (lF E) D.length E.length i := lF_map hi
theorem bV_at {j : Nat} (hj : j < E.length) : lF (bV C D E) j = bvF (cF C) (lF D) (lF E) D.length E.length j := lF_map hj
theorem wi_all {l : List Int} {lo hi : Int} (h : ∀ i, i < l.length → lo ≤ lF l i ∧ lF l i ≤ hi) : wi l lo hi = true := by
  unfold wi
  rw [List.all_eq_true]
  intro x hx
  obtain ⟨i, hi, rfl⟩ := List.mem_iff_getElem.1 hx
  have := h i hi
  rw [lF_at hi] at this
  simpa using this
theorem bnd_best (hv : vld C D E = true) : bnd C D E (bU C D E) (bV C D E) = (bK C D E, true) := by
  have hV := vld_iff hv
  have hp : Pot (cF C) (lF D) (lF E) D.length E.length (bK C D E) (buF (cF C) (lF D) (lF E) D.length E.length) (bvF (cF C) (lF D) (lF E) D.length E.length) := best_pot
  have hf := hp.feas
  have hlow : ∀ i, i < D.length → -10000 ≤ buF (cF C) (lF D) (lF E) D.length E.length i := fun i hi =>
    hp.low (E := 10000) (fun i hi j hj => (hV.c i hi j hj).1) (fun i hi => (hV.d i hi).1) (fun j hj => hV.e j hj) (by omega) hi
  have hU : ∀ i, i < D.length → -10000 ≤ buF (cF C) (lF D) (lF E) D.length E.length i ∧ buF (cF C) (lF D) (lF E) D.length E.length i ≤ 10000 := fun i hi => ⟨hlow i hi, by have := hf.d i hi; have := hV.d i hi; omega⟩
  have hVV : ∀ j, j < E.length → -10000 ≤ bvF (cF C) (lF D) (lF E) D.length E.length j ∧ bvF (cF C) (lF D) (lF E) D.length E.length j ≤ 10000 := fun j hj => by
    refine ⟨?_, by have := hf.e j hj; have := hV.e j hj; omega⟩
    unfold bvF
    rcases mnl_is (U := noU) (f := fun i => cF C i j - buF (cF C) (lF D) (lF E) D.length E.length i) (a := lF E j) (m := D.length) with h | ⟨i, hi, -, h⟩
    · rw [h]; have := hV.e j hj; omega
    · rw [h]; have := hV.c i hi j hj; have := hU i hi; omega
  have hfl : FeasL C D E (bU C D E) (bV C D E) := ⟨fun i hi j hj => by rw [bU_at hi, bV_at hj]; exact hf.c i hi j hj, fun i hi => by rw [bU_at hi]; exact hf.d i hi, fun j hj => by rw [bV_at hj]; exact hf.e j hj⟩
  have h0 : bnd0 C D E (bU C D E) (bV C D E) = true := by
    unfold bnd0
    rw [hv, decide_eq_true bU_len, decide_eq_true bV_len, wi_all, wi_all]
    · rfl
    · intro j hj; rw [bV_len] at hj; rw [bV_at hj]; have := hVV j hj; omega
    · intro i hi; rw [bU_len] at hi; rw [bU_at hi]; have := hU i hi; omega
  unfold bnd
  rw [if_pos ⟨h0, hfl⟩]
  refine Prod.ext ?_ rfl
  show sg D.length (lF (bU C D E)) + sg E.length (lF (bV C D E)) = bK C D E
  rw [sg_congr (g := buF (cF C) (lF D) (lF E) D.length E.length) (fun i hi => bU_at hi), sg_congr (g := bvF (cF C) (lF D) (lF E) D.length E.length) (fun j hj => bV_at hj)]
  exact hp.sum
theorem bnd_is {x : Int} (h : bnd C D E U W = (x, true)) : vld C D E = true ∧ U.length = D.length ∧ W.length = E.length ∧ FeasL C D E U W ∧ x = sg D.length (lF U) + sg E.length (lF W) := by
  unfold bnd at h
  split at h
  · rename_i hh
    obtain ⟨h0, hf⟩ := hh
    unfold bnd0 at h0
    simp at h0
    refine ⟨h0.1.1.1.1, h0.1.1.1.2, h0.1.1.2, hf, ?_⟩
    exact (congrArg Prod.fst h).symm
  · simp at h
theorem bnd_zero {x : Int} (h : bnd C D E U W = (x, false)) : x = 0 := by
  unfold bnd at h
  split at h
  · simp at h
  · exact (congrArg Prod.fst h).symm
theorem bnd_low {x : Int} (h : bnd C D E U W = (x, true)) : x ≤ bK C D E ∧ (x = bK C D E → ∀ i, i < U.length → lF U i ≤ lF (bU C D E) i) := by
  obtain ⟨hv, h1, h2, hf, rfl⟩ := bnd_is h
  have hp : Pot (cF C) (lF D) (lF E) D.length E.length (bK C D E) (buF (cF C) (lF D) (lF E) D.length E.length) (bvF (cF C) (lF D) (lF E) D.length E.length) := best_pot
  refine ⟨L_opt.weak hf, fun he i hi => ?_⟩
  rw [h1] at hi
  rw [bU_at hi]
  exact hp.most hf he hi
end
end Go.Proofs.Ytalbhghigdanlaa
namespace Go.Proofs.Ytalbhghigdanlaa
open Go.RowKit Go.CH Go.CH.Asg
open Go.ChangeMaps (setBlock)
section
variable {c : Nat → Nat → Int} {d e : Nat → Int} {n m : Nat} {L : List Int}
theorem hbF_all (h : hbF c d e L n m ((n + 1) * (m + 1)) = true) {i j : Nat} (hi : i ≤ n) (hj : j ≤ m) :
    (i < n → lF L (i * (m + 1) + j) ≤ d i + lF L ((i + 1) * (m + 1) + j)) ∧ (j < m → lF L (i * (m + 1) + j) ≤ e j + lF L (i * (m + 1) + (j + 1))) ∧ (i < n → j < m → lF L (i * (m + 1) + j) ≤ c i j + lF L ((i + 1) * (m + 1) + (j + 1))) := by
  have hp := place_lt hi hj
  have h0 : ∀ k, k ≤ (n + 1) * (m + 1) → hbF c d e L n m k = true := fun k hk => by
    cases hh : hbF c d e L n m k with
    | true => rfl
    | false => rw [hbF_stop hh hk] at h; cases h
  have h1 := hbF_next (i := i) (j := j) hj rfl (h0 (i * (m + 1) + j) (by omega))
  rw [h0 _ (by omega)] at h1
  have h2 := h1.symm
  simp only [Bool.and_eq_true] at h2
  obtain ⟨⟨a1, a2⟩, a3⟩ := h2
  unfold q1 at a1
  unfold q2 at a2
  unfold q3 at a3
  have e1 : i * (m + 1) + j + m + 1 = (i + 1) * (m + 1) + j := by rw [Nat.succ_mul]; omega
  have e2 : i * (m + 1) + j + m + 2 = (i + 1) * (m + 1) + (j + 1) := by rw [Nat.succ_mul]; omega
  rw [e1] at a1
  rw [e2] at a3
  refine ⟨fun hin => ?_, fun hjm => ?_, fun hin hjm => ?_⟩
  · simp [hin] at a1; exact a1
  · simp [hjm] at a2; exact a2
  · simp [hin, hjm] at a3; exact a3
theorem hbF_mk (h : ∀ i j, i ≤ n → j ≤ m → (i < n → lF L (i * (m + 1) + j) ≤ d i + lF L ((i + 1) * (m + 1) + j)) ∧ (j < m → lF L (i * (m + 1) + j) ≤ e j + lF L (i * (m + 1) + (j + 1))) ∧ (i < n → j < m → lF L (i * (m + 1) + j) ≤ c i j + lF L ((i + 1) * (m + 1) + (j + 1)))) :
    ∀ k, k ≤ (n + 1) * (m + 1) → hbF c d e L n m k = true := by
  intro k
  induction k with
  | zero => intro _; rfl
  | succ k ih =>
    intro hk
    obtain ⟨i, j, e0, hi, hj⟩ : ∃ i j, k = i * (m + 1) + j ∧ i ≤ n ∧ j ≤ m := by
      refine ⟨k / (m + 1), k % (m + 1), ?_, ?_, ?_⟩
      · have := Nat.div_add_mod k (m + 1); rw [Nat.mul_comm] at this; exact this.symm
      · have : k / (m + 1) < n + 1 := Nat.div_lt_of_lt_mul (by rw [Nat.mul_comm]; omega)
        omega
      · have := Nat.mod_lt k (show 0 < m + 1 by omega); omega
    rw [hbF_next hj e0 (ih (by omega))]
    obtain ⟨a1, a2, a3⟩ := h i j hi hj
    have e1 : k + m + 1 = (i + 1) * (m + 1) + j := by rw [Nat.succ_mul]; omega
    have e2 : k + m + 2 = (i + 1) * (m + 1) + (j + 1) := by rw [Nat.succ_mul]; omega
    have e3 : k + 1 = i * (m + 1) + (j + 1) := by omega
    unfold q1 q2 q3
    rw [e1, e2, e3, e0]
    simp only [Bool.and_eq_true, Bool.not_eq_true', Bool.and_eq_false_iff, decide_eq_false_iff_not]
    refine ⟨⟨?_, ?_⟩, ?_⟩
    · by_cases hin : i < n
      · right; have := a1 hin; omega
      · left; exact hin
    · by_cases hjm : j < m
      · right; have := a2 hjm; omega
      · left; exact hjm
    · by_cases hin : i < n
      · by_cases hjm : j < m
        · right; have := a3 hin hjm; omega
        · left; right; exact hjm
      · left; left; exact hin
theorem hb_low (h : hbF c d e L n m ((n + 1) * (m + 1)) = true) (h0 : lF L (n * (m + 1) + m) ≤ 0) :
    ∀ t i j, i ≤ n → j ≤ m → (n - i) + (m - j) ≤ t → lF L (i * (m + 1) + j) ≤ GR c d e n m (n - i) (m - j) := by
  have hz : lF L (n * (m + 1) + m) ≤ GR c d e n m (n - n) (m - m) := by rw [GR_nil]; exact h0
  intro t
  induction t with
  | zero =>
    intro i j hi hj ht
    obtain rfl : i = n := by omega
    obtain rfl : j = m := by omega
    exact hz
  | succ t ih =>
    intro i j hi hj ht
    obtain ⟨a1, a2, a3⟩ := hbF_all h hi hj
    by_cases hin : i < n
    · have b1 := ih (i + 1) j (by omega) hj (by omega)
      have c1 := a1 hin
      by_cases hjm : j < m
      · have b2 := ih i (j + 1) hi (by omega) (by omega)
        have c2 := a2 hjm
        have c3 := a3 hin hjm
        have b3 := ih (i + 1) (j + 1) (by omega) (by omega) (by omega)
        rw [GR_all hin hjm]
        omega
      · obtain rfl : j = m := by omega
        rw [GR_row hin]; omega
    · obtain rfl : i = n := by omega
      by_cases hjm : j < m
      · have b2 := ih i (j + 1) hi (by omega) (by omega)
        have c2 := a2 hjm
        rw [GR_col hjm]; omega
      · obtain rfl : j = m := by omega
        exact hz
end
section
variable {C : List (List Int)} {D E L ps : List Int}
theorem gb_is {x : Int} (h : gbnd C D E L = (x, true)) : vld C D E = true ∧ x ≤ ordK C D E := by
  unfold gbnd at h
  split at h
  · rename_i hh
    simp only [Bool.and_eq_true] at hh
    obtain ⟨h0, hF⟩ := hh
    unfold gbnd0 at h0
    simp only [Bool.and_eq_true, decide_eq_true_eq] at h0
    obtain ⟨⟨⟨hv, hl⟩, hw⟩, hlast⟩ := h0
    refine ⟨hv, ?_⟩
    have hx : x = lF L 0 := (congrArg Prod.fst h).symm
    rw [hx]
    rw [hl] at hF hlast
    have e1 : (D.length + 1) * (E.length + 1) - 1 = D.length * (E.length + 1) + E.length := by rw [Nat.succ_mul]; omega
    rw [e1] at hlast
    have h8 := hb_low hF hlast (D.length + E.length) 0 0 (Nat.zero_le _) (Nat.zero_le _) (by omega)
    rw [Nat.zero_mul, Nat.zero_add, Nat.sub_zero, Nat.sub_zero] at h8
    unfold ordK
    rw [hv]; exact h8
  · simp at h
theorem gb_zero {x : Int} (h : gbnd C D E L = (x, false)) : x = 0 := by
  unfold gbnd at h
  split at h
  · simp at h
  · exact (congrArg Prod.fst h).symm
theorem gri_lF {c : Nat → Nat → Int} {d e : Nat → Int} {n m i j : Nat} (hi : i ≤ n) (hj : j ≤ m) : lF (gri c d e n m) (i * (m + 1) + j) = GR c d e n m (n - i) (m - j) := by
  unfold lF
  rw [List.getD_eq_getElem?_getD, gri_get hi hj]; rfl
theorem GR_b (hv : vld C D E = true) {a b : Nat} (ha : a ≤ D.length) (hb : b ≤ E.length) : 0 ≤ GR (cF C) (lF D) (lF E) D.length E.length a b ∧ GR (cF C) (lF D) (lF E) D.length E.length a b ≤ 130000 := by
  have hV := vld_iff hv
  have h6 := hV.n6
  have h7 := hV.m6
  have key : ∀ a, a ≤ D.length → ∀ b, b ≤ E.length → 0 ≤ GR (cF C) (lF D) (lF E) D.length E.length a b ∧ GR (cF C) (lF D) (lF E) D.length E.length a b ≤ (a : Int) * 10000 + (b : Int) * 10000 := by
    intro a
    induction a with
    | zero =>
      intro _ b
      induction b with
      | zero => intro _; exact ⟨Int.le_refl _, Int.le_refl _⟩
      | succ b ih =>
        intro hb
        have := ih (by omega)
        have he := hV.e (E.length - (b + 1)) (by omega)
        have e3 : GR (cF C) (lF D) (lF E) D.length E.length 0 (b + 1) = lF E (E.length - (b + 1)) + GR (cF C) (lF D) (lF E) D.length E.length 0 b := rfl
        rw [e3]; omega
    | succ a iha =>
      intro ha b
      have hd := hV.d (D.length - (a + 1)) (by omega)
      induction b with
      | zero =>
        intro _
        have h1 := iha (by omega) 0 (Nat.zero_le _)
        have e3 : GR (cF C) (lF D) (lF E) D.length E.length (a + 1) 0 = lF D (D.length - (a + 1)) + GR (cF C) (lF D) (lF E) D.length E.length a 0 := rfl
        rw [e3]; omega
      | succ b ihb =>
        intro hb
        have h1 := iha (by omega) (b + 1) hb
        have h2 := ihb (by omega)
        have h4 := iha (by omega) b (by omega)
        have he := hV.e (E.length - (b + 1)) (by omega)
        have hc := hV.c (D.length - (a + 1)) (by omega) (E.length - (b + 1)) (by omega)
        have h3 : GR (cF C) (lF D) (lF E) D.length E.length (a + 1) (b + 1) = min (min (lF D (D.length - (a + 1)) + GR (cF C) (lF D) (lF E) D.length E.length a (b + 1)) (lF E (E.length - (b + 1)) + GR (cF C) (lF D) (lF E) D.length E.length (a + 1) b)) (cF C (D.length - (a + 1)) (E.length - (b + 1)) + GR (cF C) (lF D) (lF E) D.length E.length a b) := rfl
        rw [h3]; omega
  have := key a ha b hb
  omega
theorem gb_grid (hv : vld C D E = true) : gbnd C D E (griL C D E) = (ordK C D E, true) := by
  have hg : griL C D E = gri (cF C) (lF D) (lF E) D.length E.length := by unfold griL; rw [hv]; rfl
  have hk : ordK C D E = GR (cF C) (lF D) (lF E) D.length E.length D.length E.length := by unfold ordK; rw [hv]; rfl
  rw [hg, hk]
  have hl : (gri (cF C) (lF D) (lF E) D.length E.length).length = (D.length + 1) * (E.length + 1) := gri_len
  have h00 := gri_lF (c := cF C) (d := lF D) (e := lF E) (Nat.zero_le D.length) (Nat.zero_le E.length)
  rw [Nat.zero_mul, Nat.zero_add, Nat.sub_zero, Nat.sub_zero] at h00
  have hnn := gri_lF (c := cF C) (d := lF D) (e := lF E) (Nat.le_refl D.length) (Nat.le_refl E.length)
  rw [GR_nil] at hnn
  have e1 : (D.length + 1) * (E.length + 1) - 1 = D.length * (E.length + 1) + E.length := by rw [Nat.succ_mul]; omega
  rw [gbnd_yes, h00]
  · unfold gbnd0
    rw [hv, hl, decide_eq_true rfl, e1, hnn, wi_all]
    · rfl
    · intro k hk2
      rw [hl] at hk2
      obtain ⟨i, j, e0, hi, hj⟩ : ∃ i j, k = i * (E.length + 1) + j ∧ i ≤ D.length ∧ j ≤ E.length := by
        refine ⟨k / (E.length + 1), k % (E.length + 1), ?_, ?_, ?_⟩
        · have := Nat.div_add_mod k (E.length + 1); rw [Nat.mul_comm] at this; exact this.symm
        · have : k / (E.length + 1) < D.length + 1 := Nat.div_lt_of_lt_mul (by rw [Nat.mul_comm]; omega)
          omega
        · have := Nat.mod_lt k (show 0 < E.length + 1 by omega); omega
      rw [e0, gri_lF hi hj]
      have := GR_b hv (a := D.length - i) (b := E.length - j) (by omega) (by omega)
      omega
  · rw [hl]
    refine hbF_mk (fun i j hi hj => ?_) _ (Nat.le_refl _)
    rw [gri_lF hi hj]
    refine ⟨fun hin => ?_, fun hjm => ?_, fun hin hjm => ?_⟩
    · rw [gri_lF (i := i + 1) hin hj]
      by_cases hjm : j < E.length
      · rw [GR_all hin hjm]; omega
      · obtain rfl : j = E.length := by omega
        rw [GR_row hin]; omega
    · rw [gri_lF (j := j + 1) hi hjm]
      by_cases hin : i < D.length
      · rw [GR_all hin hjm]; omega
      · obtain rfl : i = D.length := by omega
        rw [GR_col hjm]; omega
    · rw [gri_lF (i := i + 1) (j := j + 1) hin hjm, GR_all hin hjm]; omega
theorem ord_cost (hv : vld C D E = true) : costR C D E (ordL C D E) = (ordK C D E, true) ∧ keeps E.length (-1) (ordL C D E) = true := by
  have hg : ordL C D E = gro (cF C) (lF D) (lF E) D.length E.length D.length E.length := by unfold ordL; rw [hv]; rfl
  have hk : ordK C D E = GR (cF C) (lF D) (lF E) D.length E.length D.length E.length := by unfold ordK; rw [hv]; rfl
  rw [hg, hk]
  have h1 := gro_cso (c := cF C) (d := lF D) (e := lF E) (n := D.length) (m := E.length) (a := D.length) (f := 0) (Nat.le_refl _) (Nat.zero_le _)
  rw [Nat.sub_self, Nat.sub_zero] at h1
  have h2 : keeps E.length (-1) (gro (cF C) (lF D) (lF E) D.length E.length D.length E.length) = true := cso_keeps h1
  refine ⟨?_, h2⟩
  unfold costR
  rw [if_pos (gro_len _ _), cs_cso0 h2, h1]
theorem ord_low {v : Int} (h : costR C D E ps = (v, true)) (hk : keeps E.length (-1) ps = true) (hv : vld C D E = true) : ordK C D E ≤ v ∧ (v = ordK C D E → before ps (ordL C D E) = false) := by
  have hg : ordL C D E = gro (cF C) (lF D) (lF E) D.length E.length D.length E.length := by unfold ordL; rw [hv]; rfl
  have hkk : ordK C D E = GR (cF C) (lF D) (lF E) D.length E.length D.length E.length := by unfold ordK; rw [hv]; rfl
  obtain ⟨hl, hc⟩ := costR_is h
  rw [cs_cso0 hk] at hc
  rw [hg, hkk]
  have h1 := cso_low (c := cF C) (d := lF D) (e := lF E) (n := D.length) (m := E.length) (a := D.length) (f := 0) (ps := ps) (v := v) (Nat.le_refl _) (Nat.zero_le _) hl (by rw [Nat.sub_self]; exact hc)
  rw [Nat.sub_zero] at h1
  refine ⟨h1, fun he => ?_⟩
  have h2 := gro_first (c := cF C) (d := lF D) (e := lF E) (n := D.length) (m := E.length) (a := D.length) (f := 0) (ps := ps) (Nat.le_refl _) (Nat.zero_le _) hl (by rw [Nat.sub_self, Nat.sub_zero, ← he]; exact hc)
  rw [Nat.sub_zero] at h2
  exact h2
theorem best_ord (hv : vld C D E = true) : bK C D E ≤ ordK C D E := (cheap (ord_cost hv).1).1
end
end Go.Proofs.Ytalbhghigdanlaa
namespace Go.Proofs.Ytalbhghigdanlaa
open Go.RowKit Go.CH Go.CH.Asg
open Go.ChangeMaps (setBlock)
/-- A row of a list of lists: the numbers, where they lie, the room. -/
structure RowZ where
  l : List Int
  A : Option Addr
  c : Nat
def RowZ.cl (z : RowZ) : List Value := [.slice z.A z.l.length z.c]
def RowZ.ow (z : RowZ) : Own := VecO z.A z.c z.l
/-- A list of lists of its own. -/
def MatO (A : Option Addr) (c : Nat) (zs : List RowZ) : Own := ARow RowZ.cl RowZ.ow 23 1 (.slice A zs.length c) zs
theorem mato_ok {A : Option Addr} {c : Nat} {zs : List RowZ} : (MatO A c zs).Ok := arow_ok fun _ => vec_ok
theorem mato_nil (w : World) : MatO none 0 [] w (fun _ => False) := arow_nil w 23 1
section
variable {F0 : Nat → Prop} {w0 W : World} {Y : Own}
theorem cap_row {w : World} {F : Nat → Prop} {e : TypeId} {size n c : Nat} {A : Option Addr} {xs : List Value} (h : RowO e size (.slice A n c) n xs w F) : n ≤ c := by
  rcases h.1.2 with ⟨h1, h2⟩ | ⟨g, cap, cur, h1, _, _, h2, _⟩
  · omega
  · injection h1 with _ _ h3; omega
theorem cap_vec {w : World} {F : Nat → Prop} {A : Option Addr} {c : Nat} {l : List Int} (h : VecO A c l w F) : l.length ≤ c := cap_row h
theorem vec_of {A : Option Addr} {c : Nat} {l : List Int} (h : Run F0 w0 (star (VecO A c l) Y) W) : VecN W A l l.length ∧ l.length ≤ c := by
  obtain ⟨F, hF⟩ := h.fst
  exact ⟨⟨vec_vec hF, rfl⟩, cap_vec hF⟩
theorem mato_mat {w : World} {F : Nat → Prop} {A : Option Addr} {c : Nat} {zs : List RowZ} (h : MatO A c zs w F) : Mat w A (zs.map (·.l)) (zs.map fun z => (z.A, z.c)) := by
  refine ⟨by simp, ?_, ?_⟩
  · obtain ⟨F1, F2, h1, _⟩ := h
    have h2 := row_src h1 (by
      intro u hu
      rw [List.mem_flatMap] at hu
      obtain ⟨z, _, hz⟩ := hu
      simp [RowZ.cl] at hz; subst hz; rfl)
    have e : (zs.map fun z => (z.A, z.c)).mapIdx (fun i x => Value.slice x.1 ((zs.map (·.l)).getD i []).length x.2) = zs.flatMap RowZ.cl := by
      have e1 : zs.flatMap RowZ.cl = zs.map (fun z => Value.slice z.A z.l.length z.c) := by
        have : ∀ l : List RowZ, l.flatMap RowZ.cl = l.map (fun z => Value.slice z.A z.l.length z.c) := fun l => by induction l with
          | nil => rfl
          | cons a l ih => simp [RowZ.cl] at ih ⊢; exact ih
        exact this zs
      rw [e1]
      apply List.ext_getElem?
      intro i
      rw [List.getElem?_mapIdx, List.getElem?_map, List.getElem?_map]
      cases hx : zs[i]? with
      | none => rfl
      | some x => simp [List.getD_eq_getElem?_getD, hx]
    rw [e, List.length_map]; exact h2
  · intro i hi x hx
    have hi' : i < zs.length := by simpa using hi
    rw [List.getElem?_map, List.getElem?_eq_getElem hi'] at hx
    simp at hx
    subst hx
    rw [List.getElem_map]
    have h3 := arow_out hi' h
    obtain ⟨F1, F2, h1, _⟩ := h3
    exact ⟨vec_vec h1, cap_vec h1⟩
theorem mat_of {A : Option Addr} {c : Nat} {zs : List RowZ} (h : Run F0 w0 (star (MatO A c zs) Y) W) : ∃ V, Mat W A (zs.map (·.l)) V := by
  obtain ⟨F, hF⟩ := h.fst
  exact ⟨_, mato_mat hF⟩
theorem src_lit1 (W : World) (v : Value) (t : TypeId) (h : v.oneCell' = true) : Src (W.alloc (.cells #[v] t)) (some ⟨W.heap.size, 0, none⟩) 1 1 [v] := Src.one (heap_alloc_new W _) h
/-- A number more at the end of a list. -/
theorem app_vec {ops : Array Oper} {rest : List Oper} {o : Oper} {a : Act} {Q : Exit → Act → World → Prop} (hgd : o.guard = none) (s x : Operand)
    (ho : o.op = .call { callee := .builtin .append, args := #[s, x], argTypes := #[23, 23] }) {A : Option Addr} {c n : Nat} {l : List Int} {i : Int} (hl : l.length = n) (hsv : a.eval s = .slice A n c) (hx : a.eval x = .slice (some ⟨W.heap.size, 0, none⟩) 1 1) (hn : n ≤ 1000) (hY : Y.Ok)
    (h : Run F0 w0 (star (VecO A c l) Y) W)
    (hK : ∀ A' c' w', Run F0 w0 (star (VecO A' c' (l ++ [i])) Y) w' → wpList Try.prog ops Q rest (a.put o.dst (.slice A' (n + 1) c')) w') : wpList Try.prog ops Q (o :: rest) a (W.alloc (.cells #[.int .i64 i] 3)) := by
  subst hl
  obtain ⟨F7, hR7, -, bk7⟩ := (h.below (star_ok vec_ok hY) ((Below.refl _ _).alloc (Nat.le_refl _) (.cells #[.int .i64 i] 3))).take vec_ok hY
  refine wpList_app hgd s x ho intsOk _ 0 (v := .slice A l.length c) (n := l.length) (xs := ints l) hsv hR7.1 (A := some ⟨W.heap.size, 0, none⟩) (m := 1) (c := 1) (news := [.int .i64 i]) hx (src_lit W i) (by omega) (by decide) (Nat.zero_le _) ?_
  intro v8 w8 ho8 hg8 hv8
  have S8 := bk7 _ _ (row_app hR7 ho8 hg8 hv8)
  obtain ⟨A8, c8, rfl⟩ := own_form ho8
  rw [vec_snoc] at S8
  exact hK A8 c8 w8 S8
/-- The same for one operation. -/
theorem app_vec1 {o : Oper} {a : Act} {K : Act → World → Prop} {Q : Exit → Act → World → Prop} (s x : Operand)
    (ho : o.op = .call { callee := .builtin .append, args := #[s, x], argTypes := #[23, 23] }) {A : Option Addr} {c n : Nat} {l : List Int} {i : Int} (hl : l.length = n) (hsv : a.eval s = .slice A n c) (hx : a.eval x = .slice (some ⟨W.heap.size, 0, none⟩) 1 1) (hn : n ≤ 1000) (hY : Y.Ok)
    (h : Run F0 w0 (star (VecO A c l) Y) W)
    (hK : ∀ A' c' w', Run F0 w0 (star (VecO A' c' (l ++ [i])) Y) w' → K (a.put o.dst (.slice A' (n + 1) c')) w') : o.wp Try.prog a (W.alloc (.cells #[.int .i64 i] 3)) K Q := by
  subst hl
  obtain ⟨F7, hR7, -, bk7⟩ := (h.below (star_ok vec_ok hY) ((Below.refl _ _).alloc (Nat.le_refl _) (.cells #[.int .i64 i] 3))).take vec_ok hY
  refine wp_app s x ho intsOk _ 0 (v := .slice A l.length c) (n := l.length) (xs := ints l) hsv hR7.1 (A := some ⟨W.heap.size, 0, none⟩) (m := 1) (c := 1) (news := [.int .i64 i]) hx (src_lit W i) (by omega) (by decide) (Nat.zero_le _) ?_
  intro v8 w8 ho8 hg8 hv8
  have S8 := bk7 _ _ (row_app hR7 ho8 hg8 hv8)
  obtain ⟨A8, c8, rfl⟩ := own_form ho8
  rw [vec_snoc] at S8
  exact hK A8 c8 w8 S8
/-- A list more at the end of a list of lists, which owns it from then on. -/
theorem app_mat {ops : Array Oper} {rest : List Oper} {o : Oper} {a : Act} {Q : Exit → Act → World → Prop} (hgd : o.guard = none) (s x : Operand)
    (ho : o.op = .call { callee := .builtin .append, args := #[s, x], argTypes := #[22, 22] }) {A B : Option Addr} {c n d m : Nat} {zs : List RowZ} {l : List Int} (hl : zs.length = n) (hm : l.length = m) (hsv : a.eval s = .slice A n c) (hx : a.eval x = .slice (some ⟨W.heap.size, 0, none⟩) 1 1) (hn : n ≤ 1000) (hY : Y.Ok)
    (h : Run F0 w0 (star (MatO A c zs) (star (VecO B d l) Y)) W)
    (hK : ∀ A' c' w', Run F0 w0 (star (MatO A' c' (zs ++ [⟨l, B, d⟩])) Y) w' → wpList Try.prog ops Q rest (a.put o.dst (.slice A' (n + 1) c')) w') : wpList Try.prog ops Q (o :: rest) a (W.alloc (.cells #[.slice B m d] 23)) := by
  subst hl
  subst hm
  have hz : (bigStar (zs.map RowZ.ow)).Ok := big_ok (fun A hA => by obtain ⟨z, _, rfl⟩ := List.mem_map.1 hA; exact vec_ok)
  have h1 : Run F0 w0 (star (RowO 23 1 (.slice A zs.length c) zs.length (zs.flatMap RowZ.cl)) (star (VecO B d l) (star (bigStar (zs.map RowZ.ow)) Y))) W := h.perm (by unfold MatO ARow; ac_rfl)
  have o1 : (star (VecO B d l) (star (bigStar (zs.map RowZ.ow)) Y)).Ok := star_ok vec_ok (star_ok hz hY)
  obtain ⟨F7, hR7, -, bk7⟩ := (h1.below (star_ok row_ok o1) ((Below.refl _ _).alloc (Nat.le_refl _) (.cells #[.slice B l.length d] 23))).take row_ok o1
  refine wpList_app hgd s x ho rowsOk _ 0 (v := .slice A zs.length c) (n := zs.length) (xs := zs.flatMap RowZ.cl) hsv hR7.1 (A := some ⟨W.heap.size, 0, none⟩) (m := 1) (c := 1) (news := [.slice B l.length d]) hx (src_lit1 W _ 23 rfl) (by omega) (by decide) (Nat.zero_le _) ?_
  intro v8 w8 ho8 hg8 hv8
  have S8 := bk7 _ _ (row_app hR7 ho8 hg8 hv8)
  obtain ⟨A8, c8, rfl⟩ := own_form ho8
  have S9 : Run F0 w0 (star (star (RowO 23 1 (.slice A8 (zs.length + 1) c8) (zs.length + 1) (zs.flatMap RowZ.cl ++ RowZ.cl ⟨l, B, d⟩)) (star (RowZ.ow ⟨l, B, d⟩) (bigStar (zs.map RowZ.ow)))) Y) w8 := S8.perm (by show star (RowO 23 1 (.slice A8 (zs.length + 1) c8) (zs.length + 1) (zs.flatMap RowZ.cl ++ [.slice B l.length d])) (star (VecO B d l) (star (bigStar (zs.map RowZ.ow)) Y)) = _; unfold RowZ.ow RowZ.cl; ac_rfl)
  refine hK A8 c8 w8 (S9.imp fun w F hh => star_mono hh (fun F h => ?_) (fun _ h => h))
  have := arow_snoc h
  unfold MatO
  rw [List.length_append, List.length_singleton]
  exact this
end
end Go.Proofs.Ytalbhghigdanlaa
namespace Go.Proofs.Ytalbhghigdanlaa
open Go.RowKit Go.CH Go.CH.Asg
open Go.ChangeMaps (setBlock)
/-- The list of f's numbers; the rows of f's numbers. -/
def lis (n : Nat) (f : Nat → Int) : List Int := (List.range n).map f
def rws (n m : Nat) (f : Nat → Nat → Int) : List (List Int) := (List.range n).map fun r => lis m (f r)
section
variable {n m : Nat} {f : Nat → Nat → Int} {g h : Nat → Int}
theorem lis_len : (lis n g).length = n := by simp [lis]
theorem rws_len : (rws n m f).length = n := by simp [rws]
theorem lis_at {i : Nat} (hi : i < n) : lF (lis n g) i = g i := lF_map hi
theorem lis_snoc : lis n g ++ [g n] = lis (n + 1) g := by simp [lis, List.range_succ]
theorem rws_snoc : rws n m f ++ [lis m (f n)] = rws (n + 1) m f := by simp [rws, List.range_succ]
theorem rws_at {i j : Nat} (hi : i < n) (hj : j < m) : cF (rws n m f) i j = f i j := by
  unfold cF rws
  rw [List.getD_eq_getElem?_getD, List.getElem?_map, List.getElem?_range hi]
  exact lis_at hj
theorem vld_mk {C : List (List Int)} {D E : List Int} (V : Vld C D E) : vld C D E = true := by
  obtain ⟨h1, h2, h3, h4, h5, h6, h7⟩ := V
  unfold vld
  rw [decide_eq_true h1, decide_eq_true h2, decide_eq_true h3, wi_all h4, wi_all h5]
  simp only [Bool.true_and]
  rw [List.all_eq_true]
  intro r hr
  obtain ⟨i, hi, rfl⟩ := List.mem_iff_getElem.1 hr
  rw [decide_eq_true (h6 i hi), Bool.true_and]
  refine wi_all fun j hj => ?_
  have := h7 i (by omega) j (by rw [← h6 i hi]; exact hj)
  unfold cF at this
  rw [List.getD_eq_getElem?_getD, List.getElem?_eq_getElem hi] at this
  exact this
theorem vld_rws (hn : n ≤ 6) (hm : m ≤ 6) (hf : ∀ i, i < n → ∀ j, j < m → 0 ≤ f i j ∧ f i j ≤ 100000) (hg : ∀ i, i < n → 0 ≤ g i ∧ g i ≤ 10000) (hh : ∀ j, j < m → 0 ≤ h j ∧ h j ≤ 10000) : vld (rws n m f) (lis n g) (lis m h) = true := by
  refine vld_mk ⟨?_, ?_, ?_, ?_, ?_, ?_, ?_⟩
  · rw [rws_len, lis_len]
  · rw [lis_len]; exact hn
  · rw [lis_len]; exact hm
  · intro i hi; rw [lis_len] at hi; rw [lis_at hi]; exact hg i hi
  · intro i hi; rw [lis_len] at hi; rw [lis_at hi]; exact hh i hi
  · intro i hi; simp [rws, lis]
  · intro i hi j hj; rw [lis_len] at hi hj; rw [rws_at hi hj]; exact hf i hi j hj
theorem bK_opt (C : List (List Int)) (D E : List Int) : Opt (cF C) (lF D) (lF E) D.length E.length (bK C D E) := L_opt
theorem oK_opt {C : List (List Int)} {D E : List Int} (hv : vld C D E = true) : OptO (cF C) (lF D) (lF E) D.length E.length (ordK C D E) := by
  have : ordK C D E = GR (cF C) (lF D) (lF E) D.length E.length D.length E.length := by unfold ordK; rw [hv]; rfl
  rw [this]; exact GR_opt
theorem rws_opt : Opt f g h n m (bK (rws n m f) (lis n g) (lis m h)) := by
  have h1 := bK_opt (rws n m f) (lis n g) (lis m h)
  rw [lis_len, lis_len] at h1
  exact h1.congr (fun i hi j hj => rws_at hi hj) (fun i hi => lis_at hi) (fun j hj => lis_at hj)
theorem rws_optO (hv : vld (rws n m f) (lis n g) (lis m h) = true) : OptO f g h n m (ordK (rws n m f) (lis n g) (lis m h)) := by
  have h1 := oK_opt hv
  rw [lis_len, lis_len] at h1
  exact h1.congr (fun i hi j hj => rws_at hi hj) (fun i hi => lis_at hi) (fun j hj => lis_at hj)
/-- Cyclic places. -/
theorem cyc_inv (n ρ : Nat) : Inv n (fun i => (i + ρ) % n) (fun i => (i + (n - ρ % n)) % n) := by
  have key : ∀ i, i < n → ∀ a b, (a + b) % n = 0 → ((i + a) % n + b) % n = i := fun i hi a b hab => by
    rw [Nat.mod_add_mod, Nat.add_assoc, Nat.add_mod, hab, Nat.add_zero, Nat.mod_mod, Nat.mod_eq_of_lt hi]
  by_cases hn : n = 0
  · subst hn; exact ⟨fun i hi => by omega, fun i hi => by omega, fun i hi => by omega, fun i hi => by omega⟩
  · have hlt : ρ % n < n := Nat.mod_lt _ (by omega)
    have h1 : (ρ + (n - ρ % n)) % n = 0 := by
      rw [Nat.add_mod]
      have h2 : ρ % n + (n - ρ % n) = n := by omega
      rw [← Nat.add_mod, ← Nat.mod_add_mod, h2, Nat.mod_self]
    have h2 : ((n - ρ % n) + ρ) % n = 0 := by rw [Nat.add_comm]; exact h1
    exact ⟨fun i hi => Nat.mod_lt _ (by omega), fun i hi => Nat.mod_lt _ (by omega), fun i hi => key i hi ρ _ h1, fun i hi => key i hi _ ρ h2⟩
end
section
variable {C : List (List Int)} {D E : List Int} {n m : Nat}
/-- The three problems. -/
def shC (C : List (List Int)) (n m ρ κ : Nat) (i j : Nat) : Int := cF C ((i + ρ) % n) ((j + κ) % m)
def shD (D : List Int) (n ρ : Nat) (i : Nat) : Int := lF D ((i + ρ) % n)
def baC (C : List (List Int)) (n m : Nat) (i j : Nat) : Int := cF C (n - 1 - i) (m - 1 - j)
def baD (D : List Int) (n : Nat) (i : Nat) : Int := lF D (n - 1 - i)
def tuC (C : List (List Int)) (j i : Nat) : Int := cF C i j
theorem sh_law (hv : vld C D E = true) (hn : D.length = n) (hm : E.length = m) (ρ κ : Nat) :
    vld (rws n m (shC C n m ρ κ)) (lis n (shD D n ρ)) (lis m (shD E m κ)) = true ∧ bK (rws n m (shC C n m ρ κ)) (lis n (shD D n ρ)) (lis m (shD E m κ)) = bK C D E := by
  have hV := vld_iff hv
  have h6 := hV.n6
  have m6 := hV.m6
  rw [hn] at h6
  rw [hm] at m6
  refine ⟨vld_rws h6 m6 (fun i hi j hj => hV.c _ (by rw [hn]; exact Nat.mod_lt _ (by omega)) _ (by rw [hm]; exact Nat.mod_lt _ (by omega))) (fun i hi => hV.d _ (by rw [hn]; exact Nat.mod_lt _ (by omega))) (fun j hj => hV.e _ (by rw [hm]; exact Nat.mod_lt _ (by omega))), ?_⟩
  have h1 := bK_opt C D E
  rw [hn, hm] at h1
  exact h1.perm (cyc_inv n ρ) (cyc_inv m κ) rws_opt
theorem ba_law (hv : vld C D E = true) (hn : D.length = n) (hm : E.length = m) :
    vld (rws n m (baC C n m)) (lis n (baD D n)) (lis m (baD E m)) = true ∧ bK (rws n m (baC C n m)) (lis n (baD D n)) (lis m (baD E m)) = bK C D E ∧ ordK (rws n m (baC C n m)) (lis n (baD D n)) (lis m (baD E m)) = ordK C D E := by
  have hV := vld_iff hv
  have h6 := hV.n6
  have m6 := hV.m6
  rw [hn] at h6
  rw [hm] at m6
  have hv2 := vld_rws (f := baC C n m) (g := baD D n) (h := baD E m) h6 m6 (fun i hi j hj => hV.c _ (by omega) _ (by omega)) (fun i hi => hV.d _ (by omega)) (fun j hj => hV.e _ (by omega))
  refine ⟨hv2, ?_, ?_⟩
  · have h1 := bK_opt C D E
    rw [hn, hm] at h1
    exact h1.perm (rev_inv n) (rev_inv m) rws_opt
  · have h1 := oK_opt hv
    rw [hn, hm] at h1
    exact h1.rev (rws_optO hv2)
theorem tu_law (hv : vld C D E = true) (hn : D.length = n) (hm : E.length = m) :
    vld (rws m n (tuC C)) E D = true ∧ bK (rws m n (tuC C)) E D = bK C D E ∧ ordK (rws m n (tuC C)) E D = ordK C D E := by
  have hV := vld_iff hv
  have h6 := hV.n6
  have m6 := hV.m6
  have e1 : ∀ l : List Int, lis l.length (lF l) = l := fun l => by
    apply List.ext_getElem?
    intro i
    by_cases hi : i < l.length
    · unfold lis
      rw [List.getElem?_map, List.getElem?_range hi, List.getElem?_eq_getElem hi]
      show some (lF l i) = _
      rw [lF_at hi]
    · rw [List.getElem?_eq_none (by rw [lis_len]; omega), List.getElem?_eq_none (by omega)]
  have hv2 := vld_rws (n := m) (m := n) (f := tuC C) (g := lF E) (h := lF D) (by omega) (by omega) (fun i hi j hj => hV.c _ (by omega) _ (by omega)) (fun i hi => hV.e _ (by omega)) (fun j hj => hV.d _ (by omega))
  have k1 : Opt (tuC C) (lF E) (lF D) m n (bK (rws m n (tuC C)) (lis m (lF E)) (lis n (lF D))) := rws_opt
  have k2 := rws_optO hv2
  rw [← hm, ← hn] at hv2 k1 k2 ⊢
  rw [e1, e1] at hv2 k1 k2
  exact ⟨hv2, (bK_opt C D E).tr k1, (oK_opt hv).tr k2⟩
theorem prb_of' {w : World} {A B G : Option Addr} {nc cd : Nat} (hv : vld C D E = true) (h : PX w A B G C D E nc n m cd) : Prb w A B G C D E n m := by
  obtain ⟨⟨V, h1⟩, -, h3, h4, -, -, rfl, rfl⟩ := h
  exact prb_of hv h1 h3 h4
theorem run_nil {A B : Own} {w : World} (ha : A w (fun _ => False)) (hb : B w (fun _ => False)) : star A B w (fun _ => False) := ⟨fun _ => False, fun _ => False, ha, hb, fun _ h => h.elim, fun i => by simp⟩
theorem run_two' {F0 : Nat → Prop} {w0 W : World} {Y : Own} {g h : Nat → Int} (hR : Run F0 w0 Y W) : Run F0 w0 (star (VecO none 0 (lis 0 g)) (star (VecO none 0 (lis 0 h)) Y)) W := by
  have h1 : ∀ (X : Own) (w : World) (F : Nat → Prop) (g : Nat → Int), X w F → star (VecO none 0 (lis 0 g)) X w F := fun X w F g hX => ⟨fun _ => False, F, vec_nil w, hX, fun _ h => h.elim, fun i => by simp⟩
  exact hR.imp fun w F hY => h1 _ w F g (h1 _ w F h hY)
theorem run_one' {F0 : Nat → Prop} {w0 W : World} {Y : Own} {g : Nat → Int} (hR : Run F0 w0 Y W) : Run F0 w0 (star (VecO none 0 (lis 0 g)) Y) W :=
  hR.imp fun w F hX => ⟨fun _ => False, F, vec_nil w, hX, fun _ h => h.elim, fun i => by simp⟩
theorem run_four {g h : Nat → Int} (w : World) : Run (fun _ => False) w (star (MatO none 0 []) (star (MatO none 0 []) (star (VecO none 0 (lis 0 g)) (star (VecO none 0 (lis 0 h)) emp)))) w :=
  Run.start (run_nil (mato_nil w) (run_nil (mato_nil w) (run_nil (vec_nil w) (run_nil (vec_nil w) (fun _ h => h)))))
end
end Go.Proofs.Ytalbhghigdanlaa
namespace Go.Proofs.Ytalbhghigdanlaa
open Go.RowKit Go.CH Go.CH.Asg
open Go.ChangeMaps (setBlock)
section
variable {F0 : Nat → Prop} {w0 W : World} {Y : Own}
theorem ints_set (l : List Int) (j : Nat) (v : Int) : (ints l).set j (.int .i64 v) = ints (l.set j v) := by
  unfold ints; rw [List.map_set]
theorem veco_set {w : World} {F : Nat → Prop} {g c : Nat} {l : List Int} (h : VecO (some ⟨g, 0, none⟩) c l w F) {j : Nat} (hj : j < l.length) (v : Int) : Post w F (VecO (some ⟨g, 0, none⟩) c (l.set j v)) (w.setCell ⟨g, j, none⟩ (.int .i64 v)) := by
  have := row_set h (i := j) (by omega) (.int .i64 v)
  rw [ints_set] at this
  unfold VecO
  rw [List.length_set]
  exact this
theorem vecx_put {A : Option Addr} {c j : Nat} {l : List Int} (hY : Y.Ok) (h : Run F0 w0 (star (VecO A c l) Y) W) (hj : j < l.length) :
    ∃ g, A = some ⟨g, 0, none⟩ ∧ W.cell? ⟨g, j, none⟩ = some (.int .i64 (lF l j)) ∧ W.frozen? ⟨g, j, none⟩ = false ∧ ∀ v, Run F0 w0 (star (VecO A c (l.set j v)) Y) (W.setCell ⟨g, j, none⟩ (.int .i64 v)) := by
  obtain ⟨F, hF, -, bk⟩ := h.take vec_ok hY
  obtain ⟨g, rfl⟩ := row_addr hF (by omega)
  refine ⟨g, rfl, ?_, row_free hF j (by omega), fun v => bk _ _ (veco_set hF hj v)⟩
  have := row_cell hF (ints_get hj)
  rw [lF_at hj]; exact this
theorem mat_put {A : Option Addr} {c k j : Nat} {zs : List RowZ} (hY : Y.Ok) (h : Run F0 w0 (star (MatO A c zs) Y) W) (hk : k < zs.length) (hj : j < zs[k].l.length) :
    ∃ gA g, A = some ⟨gA, 0, none⟩ ∧ W.cell? ⟨gA, k, none⟩ = some (.slice (some ⟨g, 0, none⟩) zs[k].l.length zs[k].c) ∧ W.cell? ⟨g, j, none⟩ = some (.int .i64 (lF zs[k].l j)) ∧ W.frozen? ⟨g, j, none⟩ = false ∧
      ∀ v, Run F0 w0 (star (MatO A c (zs.set k ⟨zs[k].l.set j v, zs[k].A, zs[k].c⟩)) Y) (W.setCell ⟨g, j, none⟩ (.int .i64 v)) := by
  have hz : ∀ l : List RowZ, (bigStar (l.map RowZ.ow)).Ok := fun l => big_ok (fun A hA => by obtain ⟨z, _, rfl⟩ := List.mem_map.1 hA; exact vec_ok)
  have h1 : Run F0 w0 (star (VecO zs[k].A zs[k].c zs[k].l) (star (star (RowO 23 1 (.slice A zs.length c) zs.length (zs.flatMap RowZ.cl)) (bigStar ((zs.eraseIdx k).map RowZ.ow))) Y)) W := (h.imp fun w F hh => star_mono hh (fun F h => arow_out hk h) (fun _ h => h)).assoc
  obtain ⟨g, e1, c1, f1, bk⟩ := vecx_put (star_ok (star_ok row_ok (hz _)) hY) h1 hj
  obtain ⟨F, hR⟩ := (h1.drop.assoc).fst
  obtain ⟨gA, rfl⟩ := row_addr hR (by omega)
  refine ⟨gA, g, rfl, ?_, c1, f1, fun v => ?_⟩
  · have hget : (zs.flatMap RowZ.cl)[k]? = some (.slice zs[k].A zs[k].l.length zs[k].c) := by
      have e2 : zs.flatMap RowZ.cl = zs.map (fun z => Value.slice z.A z.l.length z.c) := by
        have : ∀ l : List RowZ, l.flatMap RowZ.cl = l.map (fun z => Value.slice z.A z.l.length z.c) := fun l => by induction l with
          | nil => rfl
          | cons a l ih => simp [RowZ.cl] at ih ⊢; exact ih
        exact this zs
      rw [e2, List.getElem?_map, List.getElem?_eq_getElem hk]; rfl
    have := row_cell hR hget
    rw [e1] at this
    exact this
  · have h2 := bk v
    refine ((h2.perm (by ac_rfl : _ = star (star (VecO zs[k].A zs[k].c (zs[k].l.set j v)) (star (RowO 23 1 (.slice (some ⟨gA, 0, none⟩) zs.length c) zs.length (zs.flatMap RowZ.cl)) (bigStar ((zs.eraseIdx k).map RowZ.ow)))) Y))).imp fun w F hh => star_mono hh (fun F h => ?_) (fun _ h => h)
    have h3 := arow_in (cl := RowZ.cl) (ow := RowZ.ow) (e := 23) (size := 1) (v := .slice (some ⟨gA, 0, none⟩) zs.length c) (zs := zs) (k := k) hk (z := ⟨zs[k].l.set j v, zs[k].A, zs[k].c⟩) (w := w) (F := F) (by
      have e3 : (zs.set k ⟨zs[k].l.set j v, zs[k].A, zs[k].c⟩).flatMap RowZ.cl = zs.flatMap RowZ.cl := by
        have e2 : ∀ l : List RowZ, l.flatMap RowZ.cl = l.map (fun z => Value.slice z.A z.l.length z.c) := fun l => by induction l with
          | nil => rfl
          | cons a l ih => simp [RowZ.cl] at ih ⊢; exact ih
        rw [e2, e2, List.map_set]
        apply List.ext_getElem?
        intro i
        rw [List.getElem?_set]
        by_cases hi : k = i
        · subst hi
          rw [if_pos rfl, if_pos (by simpa using hk), List.getElem?_map, List.getElem?_eq_getElem hk]
          simp
        · rw [if_neg hi]
      rw [e3]; exact h)
    unfold MatO
    rw [List.length_set]
    exact h3
/-- An empty list, made. -/
theorem vec_empty (hY : Y.Ok) (h : Run F0 w0 Y W) : Run F0 w0 (star (VecO (some ⟨W.heap.size, 0, none⟩) 0 []) Y) (W.alloc (.cells #[] 3)) := by
  refine h.fresh hY ?_
  exact row_new ⟨rfl, .inr ⟨W.heap.size, 0, #[], rfl, Nat.le_refl _, heap_alloc_new W _, Nat.le_refl _, by unfold maxLen; omega, rfl, rfl⟩⟩ ((Below.refl _ _).alloc (Nat.le_refl _) _)
/-- A copy of a list: appended to an empty one. -/
theorem app_copy {ops : Array Oper} {rest : List Oper} {o : Oper} {a : Act} {Q : Exit → Act → World → Prop} (hgd : o.guard = none) (s x : Operand)
    (ho : o.op = .call { callee := .builtin .append, args := #[s, x], argTypes := #[23, 23] }) {A B : Option Addr} {c n d : Nat} {l : List Int} (hl : l.length = n) (hsv : a.eval s = .slice A 0 c) (hx : a.eval x = .slice B n d) (hn : n ≤ 1000) (hY : Y.Ok)
    (h : Run F0 w0 (star (VecO A c []) Y) W) (hB : Vec W B l)
    (hK : ∀ A' c' w', Run F0 w0 (star (VecO A' c' l) Y) w' → wpList Try.prog ops Q rest (a.put o.dst (.slice A' n c')) w') : wpList Try.prog ops Q (o :: rest) a W := by
  subst hl
  obtain ⟨F7, hR7, -, bk7⟩ := h.take vec_ok hY
  refine wpList_app hgd s x ho intsOk _ 0 (v := .slice A 0 c) (n := 0) (xs := ints []) hsv hR7.1 (A := B) (m := l.length) (c := d) (news := ints l) hx hB (by omega) (by decide) (Nat.zero_le _) ?_
  intro v8 w8 ho8 hg8 hv8
  have S8 := bk7 _ _ (row_app hR7 ho8 hg8 hv8)
  obtain ⟨A8, c8, rfl⟩ := own_form ho8
  rw [Nat.zero_add] at S8 ⊢
  exact hK A8 c8 w8 S8
end
section
variable {C : List (List Int)} {D E : List Int} {n m i j : Nat} {b : Int}
theorem lF_set {l : List Int} {k r : Nat} {v : Int} (hk : k < l.length) : lF (l.set k v) r = if r = k then v else lF l r := by
  unfold lF
  rw [List.getD_eq_getElem?_getD, List.getElem?_set]
  by_cases e : k = r
  · subst e; simp [hk]
  · rw [if_neg e, if_neg (by omega), List.getD_eq_getElem?_getD]
theorem cF_set {k r x : Nat} {v : Int} (hi : i < C.length) (hj : j < C[i].length) : cF (C.set i (C[i].set j v)) r x = if r = i ∧ x = j then v else cF C r x := by
  unfold cF
  rw [List.getD_eq_getElem?_getD, List.getElem?_set]
  by_cases e : i = r
  · subst e
    rw [if_pos rfl, if_pos hi]
    show lF (C[i].set j v) x = _
    rw [lF_set hj]
    by_cases e2 : x = j
    · rw [if_pos e2, if_pos ⟨rfl, e2⟩]
    · rw [if_neg e2, if_neg (by omega), List.getD_eq_getElem?_getD, List.getElem?_eq_getElem hi]; rfl
  · rw [if_neg e, if_neg (by omega), List.getD_eq_getElem?_getD]
/-- What a change of one cost does to both least costs. -/
theorem change_law {C' : List (List Int)} {D' E' : List Int} (hv : vld C D E = true) (hv' : vld C' D' E' = true) (hd : D'.length = D.length) (he : E'.length = E.length) (h : Dearer (cF C) (cF C') (lF D) (lF E) (lF D') (lF E') D.length E.length b) :
    bK C D E ≤ bK C' D' E' ∧ bK C' D' E' ≤ bK C D E + b ∧ ordK C D E ≤ ordK C' D' E' ∧ ordK C' D' E' ≤ ordK C D E + b := by
  have h1 := bK_opt C D E
  have h2 := bK_opt C' D' E'
  have h3 := oK_opt hv
  have h4 := oK_opt hv'
  rw [hd, he] at h2 h4
  have g1 := h1.dearer h h2
  have g2 := h3.dearer h h4
  exact ⟨g1.1, g1.2, g2.1, g2.2⟩
theorem dear_c (hb : 0 ≤ b) (hi : i < C.length) (hj : j < C[i].length) : Dearer (cF C) (cF (C.set i (C[i].set j (cF C i j + b)))) (lF D) (lF E) (lF D) (lF E) n m b :=
  ⟨hb, .inl ⟨i, j, fun r _ k _ => by
    rw [cF_set (k := 0) hi hj]
    by_cases e : r = i ∧ k = j
    · rw [if_pos e, if_pos e, e.1, e.2]
    · rw [if_neg e, if_neg e], fun _ _ => rfl, fun _ _ => rfl⟩⟩
theorem dear_d (hb : 0 ≤ b) (hi : i < D.length) : Dearer (cF C) (cF C) (lF D) (lF E) (lF (D.set i (lF D i + b))) (lF E) n m b :=
  ⟨hb, .inr (.inl ⟨i, fun _ _ _ _ => rfl, fun r _ => by
    rw [lF_set hi]
    by_cases e : r = i
    · rw [if_pos e, if_pos e, e]
    · rw [if_neg e, if_neg e], fun _ _ => rfl⟩)⟩
theorem dear_e (hb : 0 ≤ b) (hj : j < E.length) : Dearer (cF C) (cF C) (lF D) (lF E) (lF D) (lF (E.set j (lF E j + b))) n m b :=
  ⟨hb, .inr (.inr ⟨j, fun _ _ _ _ => rfl, fun _ _ => rfl, fun r _ => by
    rw [lF_set hj]
    by_cases e : r = j
    · rw [if_pos e, if_pos e, e]
    · rw [if_neg e, if_neg e]⟩)⟩
end
end Go.Proofs.Ytalbhghigdanlaa
