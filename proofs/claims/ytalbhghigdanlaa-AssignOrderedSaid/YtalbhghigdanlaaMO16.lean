/-
  Assign: the plain laws of the potentials.
  Assign: the plain laws of assignments in order and of grids.
  Assign: AssignOrdered, walked.
  Assign: lists of numbers, and of such lists, that came in, opened.
-/
import Derived.Test.YtalbhghigdanlaaMO15
import Derived.Test.YtalbhghigdanlaaMO3
import Derived.WalkKit
import Derived.ProofKit
import Derived.OpenShut
import Derived.ShutString
import Derived.SizedLaws
set_option linter.unusedSimpArgs false
set_option linter.unusedVariables false
namespace Go.Proofs.Ytalbhghigdanlaa
open Go.RowKit Go.CH Go.CH.Asg
open Go.ChangeMaps (setBlock)
section
variable {C : List (List Int)} {D E U W : List Int}
theorem lF_map {n : Nat} {f : Nat → Int} {i : Nat} (hi : i < n) : lF ((List.range n).map f) i = f i := by
  unfold lF
  rw [List.getD_eq_getElem?_getD, List.getElem?_map, List.getElem?_range hi]; rfl
theorem bU_at {i : Nat} (hi : i < D.length) : lF (bU C D E) i = buF (cF C) (lF D) (lF E) D.length E.length i := lF_map hi
theorem bV_at {j : Nat} (hj : j < E.length) : lF (bV C D E) j = bvF (cF C) (lF D) (lF E) D.length E.length j := lF_map hj
theorem wi_all {l : List Int} {lo hi : Int} (h : ∀ i, i < l.length → lo ≤ lF l i ∧ lF l i ≤ hi) : wi l lo hi = true := by
  unfold wi
  rw [List.all_eq_true]
  intro x hx
  obtain ⟨i, hi, rfl⟩ := List.mem_iff_getElem.1 hx
  have := h i hi
  rw [lF_at hi] at this
  simpa using this
theorem bnd_best (hv : vld C D E = true) : bnd C D E (bU C D E) (bV C D E) = (bK C D E, true) := by
  have hV := vld_iff hv
  have hp : Pot (cF C) (lF D) (lF E) D.length E.length (bK C D E) (buF (cF C) (lF D) (lF E) D.length E.length) (bvF (cF C) (lF D) (lF E) D.length E.length) := best_pot
  have hf := hp.feas
  have hlow : ∀ i, i < D.length → -10000 ≤ buF (cF C) (lF D) (lF E) D.length E.length i := fun i hi =>
    hp.low (E := 10000) (fun i hi j hj => (hV.c i hi j hj).1) (fun i hi => (hV.d i hi).1) (fun j hj => hV.e j hj) (by omega) hi
  have hU : ∀ i, i < D.length → -10000 ≤ buF (cF C) (lF D) (lF E) D.length E.length i ∧ buF (cF C) (lF D) (lF E) D.length E.length i ≤ 10000 := fun i hi => ⟨hlow i hi, by have := hf.d i hi; have := hV.d i hi; omega⟩
  have hVV : ∀ j, j < E.length → -10000 ≤ bvF (cF C) (lF D) (lF E) D.length E.length j ∧ bvF (cF C) (lF D) (lF E) D.length E.length j ≤ 10000 := fun j hj => by
    refine ⟨?_, by have := hf.e j hj; have := hV.e j hj; omega⟩
    unfold bvF
    rcases mnl_is (U := noU) (f := fun i => cF C i j - buF (cF C) (lF D) (lF E) D.length E.length i) (a := lF E j) (m := D.length) with h | ⟨i, hi, -, h⟩
    · rw [h]; have := hV.e j hj; omega
    · rw [h]; have := hV.c i hi j hj; have := hU i hi; omega
  have hfl : FeasL C D E (bU C D E) (bV C D E) := ⟨fun i hi j hj => by rw [bU_at hi, bV_at hj]; exact hf.c i hi j hj, fun i hi => by rw [bU_at hi]; exact hf.d i hi, fun j hj => by rw [bV_at hj]; exact hf.e j hj⟩
  have h0 : bnd0 C D E (bU C D E) (bV C D E) = true := by
    unfold bnd0
    rw [hv, decide_eq_true bU_len, decide_eq_true bV_len, wi_all, wi_all]
    · rfl
    · intro j hj; rw [bV_len] at hj; rw [bV_at hj]; have := hVV j hj; omega
    · intro i hi; rw [bU_len] at hi; rw [bU_at hi]; have := hU i hi; omega
  unfold bnd
  rw [if_pos ⟨h0, hfl⟩]
  refine Prod.ext ?_ rfl
  show sg D.length (lF (bU C D E)) + sg E.length (lF (bV C D E)) = bK C D E
  rw [sg_congr (g := buF (cF C) (lF D) (lF E) D.length E.length) (fun i hi => bU_at hi), sg_congr (g := bvF (cF C) (lF D) (lF E) D.length E.length) (fun j hj => bV_at hj)]
  exact hp.sum
theorem bnd_is {x : Int} (h : bnd C D E U W = (x, true)) : vld C D E = true ∧ U.length = D.length ∧ W.length = E.length ∧ FeasL C D E U W ∧ x = sg D.length (lF U) + sg E.length (lF W) := by
  unfold bnd at h
  split at h
  · rename_i hh
    obtain ⟨h0, hf⟩ := hh
    unfold bnd0 at h0
    simp at h0
    refine ⟨h0.1.1.1.1, h0.1.1.1.2, h0.1.1.2, hf, ?_⟩
    exact (congrArg Prod.fst h).symm
  · simp at h
theorem bnd_zero {x : Int} (h : bnd C D E U W = (x, false)) : x = 0 := by
  unfold bnd at h
  split at h
  · simp at h
  · exact (congrArg Prod.fst h).symm
theorem bnd_low {x : Int} (h : bnd C D E U W = (x, true)) : x ≤ bK C D E ∧ (x = bK C D E → ∀ i, i < U.length → lF U i ≤ lF (bU C D E) i) := by
  obtain ⟨hv, h1, h2, hf, rfl⟩ := bnd_is h
  have hp : Pot (cF C) (lF D) (lF E) D.length E.length (bK C D E) (buF (cF C) (lF D) (lF E) D.length E.length) (bvF (cF C) (lF D) (lF E) D.length E.length) := best_pot
  refine ⟨L_opt.weak hf, fun he i hi => ?_⟩
  rw [h1] at hi
  rw [bU_at hi]
  exact hp.most hf he hi
end
end Go.Proofs.Ytalbhghigdanlaa
namespace Go.Proofs.Ytalbhghigdanlaa
open Go.RowKit Go.CH Go.CH.Asg
open Go.ChangeMaps (setBlock)
section
variable {c : Nat → Nat → Int} {d e : Nat → Int} {n m : Nat} {L : List Int}
theorem hbF_all (h : hbF c d e L n m ((n + 1) * (m + 1)) = true) {i j : Nat} (hi : i ≤ n) (hj : j ≤ m) :
    (i < n → lF L (i * (m + 1) + j) ≤ d i + lF L ((i + 1) * (m + 1) + j)) ∧ (j < m → lF L (i * (m + 1) + j) ≤ e j + lF L (i * (m + 1) + (j + 1))) ∧ (i < n → j < m → lF L (i * (m + 1) + j) ≤ c i j + lF L ((i + 1) * (m + 1) + (j + 1))) := by
  have hp := place_lt hi hj
  have h0 : ∀ k, k ≤ (n + 1) * (m + 1) → hbF c d e L n m k = true := fun k hk => by
    cases hh : hbF c d e L n m k with
    | true => rfl
    | false => rw [hbF_stop hh hk] at h; cases h
  have h1 := hbF_next (i := i) (j := j) hj rfl (h0 (i * (m + 1) + j) (by omega))
  rw [h0 _ (by omega)] at h1
  have h2 := h1.symm
  simp only [Bool.and_eq_true] at h2
  obtain ⟨⟨a1, a2⟩, a3⟩ := h2
  unfold q1 at a1
  unfold q2 at a2
  unfold q3 at a3
  have e1 : i * (m + 1) + j + m + 1 = (i + 1) * (m + 1) + j := by rw [Nat.succ_mul]; omega
  have e2 : i * (m + 1) + j + m + 2 = (i + 1) * (m + 1) + (j + 1) := by rw [Nat.succ_mul]; omega
  rw [e1] at a1
  rw [e2] at a3
  refine ⟨fun hin => ?_, fun hjm => ?_, fun hin hjm => ?_⟩
  · simp [hin] at a1; exact a1
  · simp [hjm] at a2; exact a2
  · simp [hin, hjm] at a3; exact a3
theorem hbF_mk (h : ∀ i j, i ≤ n → j ≤ m → (i < n → lF L (i * (m + 1) + j) ≤ d i + lF L ((i + 1) * (m + 1) + j)) ∧ (j < m → lF L (i * (m + 1) + j) ≤ e j + lF L (i * (m + 1) + (j + 1))) ∧ (i < n → j < m → lF L (i * (m + 1) + j) ≤ c i j + lF L ((i + 1) * (m + 1) + (j + 1)))) :
    ∀ k, k ≤ (n + 1) * (m + 1) → hbF c d e L n m k = true := by
  intro k
  induction k with
  | zero => intro _; rfl
  | succ k ih =>
    intro hk
    obtain ⟨i, j, e0, hi, hj⟩ : ∃ i j, k = i * (m + 1) + j ∧ i ≤ n ∧ j ≤ m := by
      refine ⟨k / (m + 1), k % (m + 1), ?_, ?_, ?_⟩
      · have := Nat.div_add_mod k (m + 1); rw [Nat.mul_comm] at this; exact this.symm
      · have : k / (m + 1) < n + 1 := Nat.div_lt_of_lt_mul (by rw [Nat.mul_comm]; omega)
        omega
      · have := Nat.mod_lt k (show 0 < m + 1 by omega); omega
    rw [hbF_next hj e0 (ih (by omega))]
    obtain ⟨a1, a2, a3⟩ := h i j hi hj
    have e1 : k + m + 1 = (i + 1) * (m + 1) + j := by rw [Nat.succ_mul]; omega
    have e2 : k + m + 2 = (i + 1) * (m + 1) + (j + 1) := by rw [Nat.succ_mul]; omega
    have e3 : k + 1 = i * (m + 1) + (j + 1) := by omega
    unfold q1 q2 q3
    rw [e1, e2, e3, e0]
    simp only [Bool.and_eq_true, Bool.not_eq_true', Bool.and_eq_false_iff, decide_eq_false_iff_not]
    refine ⟨⟨?_, ?_⟩, ?_⟩
    · by_cases hin : i < n
      · right; have := a1 hin; omega
      · left; exact hin
    · by_cases hjm : j < m
      · right; have := a2 hjm; omega
      · left; exact hjm
    · by_cases hin : i < n
      · by_cases hjm : j < m
        · right; have := a3 hin hjm; omega
        · left; right; exact hjm
      · left; left; exact hin
theorem hb_low (h : hbF c d e L n m ((n + 1) * (m + 1)) = true) (h0 : lF L (n * (m + 1) + m) ≤ 0) :
    ∀ t i j, i ≤ n → j ≤ m → (n - i) + (m - j) ≤ t → lF L (i * (m + 1) + j) ≤ GR c d e n m (n - i) (m - j) := by
  have hz : lF L (n * (m + 1) + m) ≤ GR c d e n m (n - n) (m - m) := by rw [GR_nil]; exact h0
  intro t
  induction t with
  | zero =>
    intro i j hi hj ht
    obtain rfl : i = n := by omega
    obtain rfl : j = m := by omega
    exact hz
  | succ t ih =>
    intro i j hi hj ht
    obtain ⟨a1, a2, a3⟩ := hbF_all h hi hj
    by_cases hin : i < n
    · have b1 := ih (i + 1) j (by omega) hj (by omega)
      have c1 := a1 hin
      by_cases hjm : j < m
      · have b2 := ih i (j + 1) hi (by omega) (by omega)
        have c2 := a2 hjm
        have c3 := a3 hin hjm
        have b3 := ih (i + 1) (j + 1) (by omega) (by omega) (by omega)
        rw [GR_all hin hjm]
        omega
      · obtain rfl : j = m := by omega
        rw [GR_row hin]; omega
    · obtain rfl : i = n := by omega
      by_cases hjm : j < m
      · have b2 := ih i (j + 1) hi (by omega) (by omega)
        have c2 := a2 hjm
        rw [GR_col hjm]; omega
      · obtain rfl : j = m := by omega
        exact hz
end
section
variable {C : List (List Int)} {D E L ps : List Int}
theorem gb_is {x : Int} (h : gbnd C D E L = (x, true)) : vld C D E = true ∧ x ≤ ordK C D E := by
  unfold gbnd at h
  split at h
  · rename_i hh
    simp only [Bool.and_eq_true] at hh
    obtain ⟨h0, hF⟩ := hh
    unfold gbnd0 at h0
    simp only [Bool.and_eq_true, decide_eq_true_eq] at h0
    obtain ⟨⟨⟨hv, hl⟩, hw⟩, hlast⟩ := h0
    refine ⟨hv, ?_⟩
    have hx : x = lF L 0 := (congrArg Prod.fst h).symm
    rw [hx]
    rw [hl] at hF hlast
    have e1 : (D.length + 1) * (E.length + 1) - 1 = D.length * (E.length + 1) + E.length := by rw [Nat.succ_mul]; omega
    rw [e1] at hlast
    have h8 := hb_low hF hlast (D.length + E.length) 0 0 (Nat.zero_le _) (Nat.zero_le _) (by omega)
    rw [Nat.zero_mul, Nat.zero_add, Nat.sub_zero, Nat.sub_zero] at h8
    unfold ordK
    rw [hv]; exact h8
  · simp at h
theorem gb_zero {x : Int} (h : gbnd C D E L = (x, false)) : x = 0 := by
  unfold gbnd at h
  split at h
  · simp at h
  · exact (congrArg Prod.fst h).symm
theorem gri_lF {c : Nat → Nat → Int} {d e : Nat → Int} {n m i j : Nat} (hi : i ≤ n) (hj : j ≤ m) : lF (gri c d e n m) (i * (m + 1) + j) = GR c d e n m (n - i) (m - j) := by
  unfold lF
  rw [List.getD_eq_getElem?_getD, gri_get hi hj]; rfl
theorem GR_b (hv : vld C D E = true) {a b : Nat} (ha : a ≤ D.length) (hb : b ≤ E.length) : 0 ≤ GR (cF C) (lF D) (lF E) D.length E.length a b ∧ GR (cF C) (lF D) (lF E) D.length E.length a b ≤ 130000 := by
  have hV := vld_iff hv
  have h6 := hV.n6
  have h7 := hV.m6
  have key : ∀ a, a ≤ D.length → ∀ b, b ≤ E.length → 0 ≤ GR (cF C) (lF D) (lF E) D.length E.length a b ∧ GR (cF C) (lF D) (lF E) D.length E.length a b ≤ (a : Int) * 10000 + (b : Int) * 10000 := by
    intro a
    induction a with
    | zero =>
      intro _ b
      induction b with
      | zero => intro _; exact ⟨Int.le_refl _, Int.le_refl _⟩
      | succ b ih =>
        intro hb
        have := ih (by omega)
        have he := hV.e (E.length - (b + 1)) (by omega)
        have e3 : GR (cF C) (lF D) (lF E) D.length E.length 0 (b + 1) = lF E (E.length - (b + 1)) + GR (cF C) (lF D) (lF E) D.length E.length 0 b := rfl
        rw [e3]; omega
    | succ a iha =>
      intro ha b
      have hd := hV.d (D.length - (a + 1)) (by omega)
      induction b with
      | zero =>
        intro _
        have h1 := iha (by omega) 0 (Nat.zero_le _)
        have e3 : GR (cF C) (lF D) (lF E) D.length E.length (a + 1) 0 = lF D (D.length - (a + 1)) + GR (cF C) (lF D) (lF E) D.length E.length a 0 := rfl
        rw [e3]; omega
      | succ b ihb =>
        intro hb
        have h1 := iha (by omega) (b + 1) hb
        have h2 := ihb (by omega)
        have h4 := iha (by omega) b (by omega)
        have he := hV.e (E.length - (b + 1)) (by omega)
        have hc := hV.c (D.length - (a + 1)) (by omega) (E.length - (b + 1)) (by omega)
        have h3 : GR (cF C) (lF D) (lF E) D.length E.length (a + 1) (b + 1) = min (min (lF D (D.length - (a + 1)) + GR (cF C) (lF D) (lF E) D.length E.length a (b + 1)) (lF E (E.length - (b + 1)) + GR (cF C) (lF D) (lF E) D.length E.length (a + 1) b)) (cF C (D.length - (a + 1)) (E.length - (b + 1)) + GR (cF C) (lF D) (lF E) D.length E.length a b) := rfl
        rw [h3]; omega
  have := key a ha b hb
  omega
theorem gb_grid (hv : vld C D E = true) : gbnd C D E (griL C D E) = (ordK C D E, true) := by
  have hg : griL C D E = gri (cF C) (lF D) (lF E) D.length E.length := by unfold griL; rw [hv]; rfl
  have hk : ordK C D E = GR (cF C) (lF D) (lF E) D.length E.length D.length E.length := by unfold ordK; rw [hv]; rfl
  rw [hg, hk]
  have hl : (gri (cF C) (lF D) (lF E) D.length E.length).length = (D.length + 1) * (E.length + 1) := gri_len
  have h00 := gri_lF (c := cF C) (d := lF D) (e := lF E) (Nat.zero_le D.length) (Nat.zero_le E.length)
  rw [Nat.zero_mul, Nat.zero_add, Nat.sub_zero, Nat.sub_zero] at h00
  have hnn := gri_lF (c := cF C) (d := lF D) (e := lF E) (Nat.le_refl D.length) (Nat.le_refl E.length)
  rw [GR_nil] at hnn
  have e1 : (D.length + 1) * (E.length + 1) - 1 = D.length * (E.length + 1) + E.length := by rw [Nat.succ_mul]; omega
  rw [gbnd_yes, h00]
  · unfold gbnd0
    rw [hv, hl, decide_eq_true rfl, e1, hnn, wi_all]
    · rfl
    · intro k hk2
      rw [hl] at hk2
      obtain ⟨i, j, e0, hi, hj⟩ : ∃ i j, k = i * (E.length + 1) + j ∧ i ≤ D.length ∧ j ≤ E.length := by
        refine ⟨k / (E.length + 1), k % (E.length + 1), ?_, ?_, ?_⟩
        · have := Nat.div_add_mod k (E.length + 1); rw [Nat.mul_comm] at this; exact this.symm
        · have : k / (E.length + 1) < D.length + 1 := Nat.div_lt_of_lt_mul (by rw [Nat.mul_comm]; omega)
          omega
        · have := Nat.mod_lt k (show 0 < E.length + 1 by omega); omega
      rw [e0, gri_lF hi hj]
      have := GR_b hv (a := D.length - i) (b := E.length - j) (by omega) (by omega)
      omega
  · rw [hl]
    refine hbF_mk (fun i j hi hj => ?_) _ (Nat.le_refl _)
    rw [gri_lF hi hj]
    refine ⟨fun hin => ?_, fun hjm => ?_, fun hin hjm => ?_⟩
    · rw [gri_lF (i := i + 1) hin hj]
      by_cases hjm : j < E.length
      · rw [GR_all hin hjm]; omega
      · obtain rfl : j = E.length := by omega
        rw [GR_row hin]; omega
    · rw [gri_lF (j := j + 1) hi hjm]
      by_cases hin : i < D.length
      · rw [GR_all hin hjm]; omega
      · obtain rfl : i = D.length := by omega
        rw [GR_col hjm]; omega
    · rw [gri_lF (i := i + 1) (j := j + 1) hin hjm, GR_all hin hjm]; omega
theorem ord_cost (hv : vld C D E = true) : costR C D E (ordL C D E) = (ordK C D E, true) ∧ keeps E.length (-1) (ordL C D E) = true := by
  have hg : ordL C D E = gro (cF C) (lF D) (lF E) D.length E.length D.length E.length := by unfold ordL; rw [hv]; rfl
  have hk : ordK C D E = GR (cF C) (lF D) (lF E) D.length E.length D.length E.length := by unfold ordK; rw [hv]; rfl
  rw [hg, hk]
  have h1 := gro_cso (c := cF C) (d := lF D) (e := lF E) (n := D.length) (m := E.length) (a := D.length) (f := 0) (Nat.le_refl _) (Nat.zero_le _)
  rw [Nat.sub_self, Nat.sub_zero] at h1
  have h2 : keeps E.length (-1) (gro (cF C) (lF D) (lF E) D.length E.length D.length E.length) = true := cso_keeps h1
  refine ⟨?_, h2⟩
  unfold costR
  rw [if_pos (gro_len _ _), cs_cso0 h2, h1]
theorem ord_low {v : Int} (h : costR C D E ps = (v, true)) (hk : keeps E.length (-1) ps = true) (hv : vld C D E = true) : ordK C D E ≤ v ∧ (v = ordK C D E → before ps (ordL C D E) = false) := by
  have hg : ordL C D E = gro (cF C) (lF D) (lF E) D.length E.length D.length E.length := by unfold ordL; rw [hv]; rfl
  have hkk : ordK C D E = GR (cF C) (lF D) (lF E) D.length E.length D.length E.length := by unfold ordK; rw [hv]; rfl
  obtain ⟨hl, hc⟩ := costR_is h
  rw [cs_cso0 hk] at hc
  rw [hg, hkk]
  have h1 := cso_low (c := cF C) (d := lF D) (e := lF E) (n := D.length) (m := E.length) (a := D.length) (f := 0) (ps := ps) (v := v) (Nat.le_refl _) (Nat.zero_le _) hl (by rw [Nat.sub_self]; exact hc)
  rw [Nat.sub_zero] at h1
  refine ⟨h1, fun he => ?_⟩
  have h2 := gro_first (c := cF C) (d := lF D) (e := lF E) (n := D.length) (m := E.length) (a := D.length) (f := 0) (ps := ps) (Nat.le_refl _) (Nat.zero_le _) hl (by rw [Nat.sub_self, Nat.sub_zero, ← he]; exact hc)
  rw [Nat.sub_zero] at h2
  exact h2
theorem best_ord (hv : vld C D E = true) : bK C D E ≤ ordK C D E := (cheap (ord_cost hv).1).1
end
end Go.Proofs.Ytalbhghigdanlaa
namespace Go.Proofs.Ytalbhghigdanlaa
open Go.RowKit Go.CH Go.CH.Asg
open Go.ChangeMaps (setBlock)
set_option maxRecDepth 100000 in
set_option maxHeartbeats 12800000 in
theorem lordered_any {w : World} {A B G LA PA : Option Addr} {C : List (List Int)} {D E L ps : List Int} {nc n m c d e l nl p np : Nat} (hP : PX w A B G C D E nc n m d) (hS : VecN w PA ps np) (hL : VecN w LA L nl) :
    Calls Try.prog 9 #[.slice A nc c, .slice B n d, .slice G m e, .slice PA np p, .slice LA nl l] w (BelowRet w (.bool true)) := by
  have HP0 := hide hP
  have HL0 := hide hL
  have HS0 := hide hS
  have HB0 := hide (Below.refl w.heap.size w)
  have HNE := hide hP.he
  have HND := hide hP.hd
  clear hP hL hS
  have KH := hide (head_any w)
  have HFL := hide (HP0.out.few_len)
  go_enter Try.func9, Try.ntmps9
  go_wp2_with fail
  refine KH.out.mono ?_
  rintro e9 w1 ⟨rfl, hb⟩
  dsimp only
  have HP1 := hide (HP0.out.below hb)
  have HL1 := hide (HL0.out.below hb)
  have HS1 := hide (HS0.out.below hb)
  have HB1 := hide (bel_trans HB0.out hb)
  clear HP0 HL0 HS0 HB0
  clear hb KH 
  have KF := hide (HP1.out.few (c := c) (e := e))
  cases hf : few C D E with
  | false =>
    rw [hf] at KF
    clear hf HFL
    go_wp2_with fail
    refine KF.out.mono ?_
    rintro e9 w9 ⟨rfl, rfl⟩
    clear KF
    go_wp2
    go_ret
    exact ⟨rfl, HB1.out⟩
  | true =>
    obtain ⟨l1, l2, l3⟩ := HFL.out hf
    rw [hf] at KF
    clear hf HFL
    by_cases hnp : 20 < np
    · go_wp2_with fail
      refine KF.out.mono ?_
      rintro e9 w9 ⟨rfl, rfl⟩
      clear KF
      go_wp2
      go_ret
      exact ⟨rfl, HB1.out⟩
    · by_cases hnl : 100 < nl
      · go_wp2_with fail
        refine KF.out.mono ?_
        rintro e9 w9 ⟨rfl, rfl⟩
        clear KF
        go_wp2
        go_ret
        exact ⟨rfl, HB1.out⟩
      · go_wp2_with fail
        refine KF.out.mono ?_
        rintro e9 w9 ⟨rfl, rfl⟩
        clear KF
        cases hv : vld C D E with
        | false =>
          have KB := hide (HP1.out.ord_no (c := c) (e := e) hv)
          have HVV := hide (show vld C D E = false from hv)
          clear hv
          go_wp2_with fail
          refine KB.out.mono ?_
          rintro e9 w2 ⟨OA, oc, rfl, hb, hHO⟩
          dsimp only
          have HP2 := hide (HP1.out.below hb)
          have HL2 := hide (HL1.out.below hb)
          have HS2 := hide (HS1.out.below hb)
          have HB2 := hide (bel_trans HB1.out hb)
          clear HP1 HL1 HS1 HB1
          have HO2 := hide hHO
          clear hb KB hHO
          have KV := hide (HP2.out.rvalid (c := c) (e := e))
          rw [HVV.out] at KV
          clear HVV
          go_wp2_with fail
          refine KV.out.mono ?_
          rintro e9 w9 ⟨rfl, rfl⟩
          clear KV
          go_wp2
          go_ret
          exact ⟨rfl, HB2.out⟩
        | true =>
          have KB := hide (HP1.out.ord (c := c) (e := e) hv)
          have HVV := hide (show vld C D E = true from hv)
          have hbo := best_ord hv
          obtain ⟨K, hK⟩ : ∃ K, K = (n + 1) * (m + 1) := ⟨_, rfl⟩
          have hV6 := vld_iff hv
          have hn6 : n ≤ 6 := by rw [← HND.out]; exact hV6.n6
          have hm6 : m ≤ 6 := by rw [← HNE.out]; exact hV6.m6
          have hK2 : K ≤ 49 := by rw [hK]; exact Nat.mul_le_mul (show n + 1 ≤ 7 by omega) (show m + 1 ≤ 7 by omega)
          have tw : IntKind.i64.wrap ((m : Int) + 1) = (m : Int) + 1 := IntWalk.i64_in _ (by omega)
          have tn : IntKind.i64.wrap ((n : Int) + 1) = (n : Int) + 1 := IntWalk.i64_in _ (by omega)
          have tk : IntKind.i64.wrap (((n : Int) + 1) * ((m : Int) + 1)) = (K : Int) := by
            have hKi : ((n : Int) + 1) * ((m : Int) + 1) = (K : Int) := by rw [hK]; push_cast; rfl
            rw [hKi]; exact IntWalk.i64_in _ (by omega)
          have HKL := hide (show (griL C D E).length = K by rw [griL_len hv, HND.out, HNE.out, hK])
          clear hv hV6 hK
          go_wp2_with fail
          refine KB.out.mono ?_
          rintro e9 w2 ⟨OA, oc, rfl, hb, hHO⟩
          dsimp only
          have HP2 := hide (HP1.out.below hb)
          have HL2 := hide (HL1.out.below hb)
          have HS2 := hide (HS1.out.below hb)
          have HB2 := hide (bel_trans HB1.out hb)
          clear HP1 HL1 HS1 HB1
          have HO2 := hide hHO
          clear hb KB hHO
          have KC := hide (HP2.out.cost (c := c) (e := e) (u := oc) HVV.out HO2.out (by omega))
          rw [(ord_cost HVV.out).1] at KC
          go_wp2_with fail
          refine KC.out.mono ?_
          rintro e9 w3 ⟨rfl, hb⟩
          dsimp only
          have HP3 := hide (HP2.out.below hb)
          have HL3 := hide (HL2.out.below hb)
          have HS3 := hide (HS2.out.below hb)
          have HB3 := hide (bel_trans HB2.out hb)
          have HO3 := hide (HO2.out.below hb)
          clear HP2 HL2 HS2 HB2 HO2
          clear hb KC 
          have KK := hide (keepsN (u := oc) HO3.out (by omega) m)
          have hk1 := (ord_cost HVV.out).2
          rw [HNE.out] at hk1
          rw [hk1] at KK
          clear hk1
          go_wp2_with fail
          refine KK.out.mono ?_
          rintro e9 w9 ⟨rfl, rfl⟩
          clear KK
          have KC := hide (HP3.out.cost (c := c) (e := e) (u := p) HVV.out HS3.out (by omega))
          generalize hz : costR C D E ps = z at KC
          obtain ⟨z, is⟩ := z
          cases is with
          | false =>
            clear hz
            go_wp2_with fail
            refine KC.out.mono ?_
            rintro e9 w4 ⟨rfl, hb⟩
            dsimp only
            have HP4 := hide (HP3.out.below hb)
            have HL4 := hide (HL3.out.below hb)
            have HS4 := hide (HS3.out.below hb)
            have HB4 := hide (bel_trans HB3.out hb)
            have HO4 := hide (HO3.out.below hb)
            clear HP3 HL3 HS3 HB3 HO3
            clear hb KC 
            have KB := hide (HP4.out.best (c := c) (e := e) HVV.out)
            go_wp2_with fail
            refine KB.out.mono ?_
            rintro e9 wba ⟨AA1, AA2, AA3, ac1, ac2, ac3, rfl, hb0, h1, h2, h3⟩
            have hba := alloc_bel wba (.cells #[.int .i64 (bK C D E), .slice AA1 (n) ac1, .slice AA2 (n) ac2, .slice AA3 (m) ac3] 27)
            have hb := bel_trans hb0 hba
            have HP5 := hide (HP4.out.below hb)
            have HL5 := hide (HL4.out.below hb)
            have HS5 := hide (HS4.out.below hb)
            have HB5 := hide (bel_trans HB4.out hb)
            have HO5 := hide (HO4.out.below hb)
            clear HP4 HL4 HS4 HB4 HO4
            have HaP5 := hide (h1.below hba)
            have HaU5 := hide (h2.below hba)
            have HaV5 := hide (h3.below hba)
            have HaM5 := hide (asg_mem wba (bK C D E) AA1 AA2 AA3 (n) (n) (m) ac1 ac2 ac3)
            clear hb hb0 hba h1 h2 h3 KB
            have KG := hide (HP5.out.gri (c := c) (e := e) HKL.out)
            rw [show errV C D E = 0 by unfold errV; rw [HVV.out]; rfl] at KG
            go_wp2_with fail
            generalize wba.alloc (.cells #[.int .i64 (bK C D E), .slice AA1 (n) ac1, .slice AA2 (n) ac2, .slice AA3 (m) ac3] 27) = w5 at *
            generalize wba.heap.size = ga at *
            clear wba
            refine KG.out.mono ?_
            rintro e9 w6 ⟨gA, gc, rfl, hb, hHGL⟩
            dsimp only
            have HP6 := hide (HP5.out.below hb)
            have HL6 := hide (HL5.out.below hb)
            have HS6 := hide (HS5.out.below hb)
            have HB6 := hide (bel_trans HB5.out hb)
            have HO6 := hide (HO5.out.below hb)
            have HaP6 := hide (HaP5.out.below hb)
            have HaU6 := hide (HaU5.out.below hb)
            have HaV6 := hide (HaV5.out.below hb)
            have HaM6 := hide (show ∀ W, Below w6.heap.size w6 W → _ from fun W h => HaM5.out W (bel_trans hb h))
            clear HP5 HL5 HS5 HB5 HO5 HaP5 HaU5 HaV5 HaM5
            have HGL6 := hide hHGL
            clear hb KG hHGL
            have KG := hide (HP6.out.gbound (c := c) (e := e) (cl := gc) HGL6.out (by omega) (by omega) (by omega))
            rw [gb_grid HVV.out] at KG
            go_wp2_with fail
            refine KG.out.mono ?_
            rintro e9 w7 ⟨rfl, hb⟩
            dsimp only
            have HP7 := hide (HP6.out.below hb)
            have HL7 := hide (HL6.out.below hb)
            have HS7 := hide (HS6.out.below hb)
            have HB7 := hide (bel_trans HB6.out hb)
            have HO7 := hide (HO6.out.below hb)
            have HaP7 := hide (HaP6.out.below hb)
            have HaU7 := hide (HaU6.out.below hb)
            have HaV7 := hide (HaV6.out.below hb)
            have HaM7 := hide (show ∀ W, Below w7.heap.size w7 W → _ from fun W h => HaM6.out W (bel_trans hb h))
            have HGL7 := hide (HGL6.out.below hb)
            clear HP6 HL6 HS6 HB6 HO6 HaP6 HaU6 HaV6 HaM6 HGL6
            clear hb KG 
            have KG := hide (HP7.out.gbound (c := c) (e := e) (cl := l) HL7.out (by omega) (by omega) (by omega))
            generalize hy : gbnd C D E L = y at KG
            obtain ⟨y, on⟩ := y
            cases on with
            | false =>
              clear hy
              go_wp2_with fail
              refine KG.out.mono ?_
              rintro e9 w8 ⟨rfl, hb⟩
              dsimp only
              have HP8 := hide (HP7.out.below hb)
              have HL8 := hide (HL7.out.below hb)
              have HS8 := hide (HS7.out.below hb)
              have HB8 := hide (bel_trans HB7.out hb)
              have HO8 := hide (HO7.out.below hb)
              have HaP8 := hide (HaP7.out.below hb)
              have HaU8 := hide (HaU7.out.below hb)
              have HaV8 := hide (HaV7.out.below hb)
              have HaM8 := hide (show ∀ W, Below w8.heap.size w8 W → _ from fun W h => HaM7.out W (bel_trans hb h))
              have HGL8 := hide (HGL7.out.below hb)
              clear HP7 HL7 HS7 HB7 HO7 HaP7 HaU7 HaV7 HaM7 HGL7
              clear hb KG 
              obtain ⟨aq0, aq1, aq2, aq3⟩ := HaM8.out _ (Below.refl _ _)
              go_wp2
              go_ret
              exact ⟨rfl, HB8.out⟩
            | true =>
              have hly := (gb_is hy).2
              clear hy
              go_wp2_with fail
              refine KG.out.mono ?_
              rintro e9 w8 ⟨rfl, hb⟩
              dsimp only
              have HP8 := hide (HP7.out.below hb)
              have HL8 := hide (HL7.out.below hb)
              have HS8 := hide (HS7.out.below hb)
              have HB8 := hide (bel_trans HB7.out hb)
              have HO8 := hide (HO7.out.below hb)
              have HaP8 := hide (HaP7.out.below hb)
              have HaU8 := hide (HaU7.out.below hb)
              have HaV8 := hide (HaV7.out.below hb)
              have HaM8 := hide (show ∀ W, Below w8.heap.size w8 W → _ from fun W h => HaM7.out W (bel_trans hb h))
              have HGL8 := hide (HGL7.out.below hb)
              clear HP7 HL7 HS7 HB7 HO7 HaP7 HaU7 HaV7 HaM7 HGL7
              clear hb KG 
              obtain ⟨aq0, aq1, aq2, aq3⟩ := HaM8.out _ (Below.refl _ _)
              go_wp2
              go_ret
              exact ⟨rfl, HB8.out⟩
          | true =>
            cases hk : keeps E.length (-1) ps with
            | false =>
              clear hz
              go_wp2_with fail
              refine KC.out.mono ?_
              rintro e9 w4 ⟨rfl, hb⟩
              dsimp only
              have HP4 := hide (HP3.out.below hb)
              have HL4 := hide (HL3.out.below hb)
              have HS4 := hide (HS3.out.below hb)
              have HB4 := hide (bel_trans HB3.out hb)
              have HO4 := hide (HO3.out.below hb)
              clear HP3 HL3 HS3 HB3 HO3
              clear hb KC 
              have KK := hide (keepsN (u := p) HS4.out (by omega) m)
              rw [HNE.out] at hk
              rw [hk] at KK
              clear hk
              go_wp2_with fail
              refine KK.out.mono ?_
              rintro e9 w9 ⟨rfl, rfl⟩
              clear KK
              have KB := hide (HP4.out.best (c := c) (e := e) HVV.out)
              go_wp2_with fail
              refine KB.out.mono ?_
              rintro e9 wba ⟨AA1, AA2, AA3, ac1, ac2, ac3, rfl, hb0, h1, h2, h3⟩
              have hba := alloc_bel wba (.cells #[.int .i64 (bK C D E), .slice AA1 (n) ac1, .slice AA2 (n) ac2, .slice AA3 (m) ac3] 27)
              have hb := bel_trans hb0 hba
              have HP5 := hide (HP4.out.below hb)
              have HL5 := hide (HL4.out.below hb)
              have HS5 := hide (HS4.out.below hb)
              have HB5 := hide (bel_trans HB4.out hb)
              have HO5 := hide (HO4.out.below hb)
              clear HP4 HL4 HS4 HB4 HO4
              have HaP5 := hide (h1.below hba)
              have HaU5 := hide (h2.below hba)
              have HaV5 := hide (h3.below hba)
              have HaM5 := hide (asg_mem wba (bK C D E) AA1 AA2 AA3 (n) (n) (m) ac1 ac2 ac3)
              clear hb hb0 hba h1 h2 h3 KB
              have KG := hide (HP5.out.gri (c := c) (e := e) HKL.out)
              rw [show errV C D E = 0 by unfold errV; rw [HVV.out]; rfl] at KG
              go_wp2_with fail
              generalize wba.alloc (.cells #[.int .i64 (bK C D E), .slice AA1 (n) ac1, .slice AA2 (n) ac2, .slice AA3 (m) ac3] 27) = w5 at *
              generalize wba.heap.size = ga at *
              clear wba
              refine KG.out.mono ?_
              rintro e9 w6 ⟨gA, gc, rfl, hb, hHGL⟩
              dsimp only
              have HP6 := hide (HP5.out.below hb)
              have HL6 := hide (HL5.out.below hb)
              have HS6 := hide (HS5.out.below hb)
              have HB6 := hide (bel_trans HB5.out hb)
              have HO6 := hide (HO5.out.below hb)
              have HaP6 := hide (HaP5.out.below hb)
              have HaU6 := hide (HaU5.out.below hb)
              have HaV6 := hide (HaV5.out.below hb)
              have HaM6 := hide (show ∀ W, Below w6.heap.size w6 W → _ from fun W h => HaM5.out W (bel_trans hb h))
              clear HP5 HL5 HS5 HB5 HO5 HaP5 HaU5 HaV5 HaM5
              have HGL6 := hide hHGL
              clear hb KG hHGL
              have KG := hide (HP6.out.gbound (c := c) (e := e) (cl := gc) HGL6.out (by omega) (by omega) (by omega))
              rw [gb_grid HVV.out] at KG
              go_wp2_with fail
              refine KG.out.mono ?_
              rintro e9 w7 ⟨rfl, hb⟩
              dsimp only
              have HP7 := hide (HP6.out.below hb)
              have HL7 := hide (HL6.out.below hb)
              have HS7 := hide (HS6.out.below hb)
              have HB7 := hide (bel_trans HB6.out hb)
              have HO7 := hide (HO6.out.below hb)
              have HaP7 := hide (HaP6.out.below hb)
              have HaU7 := hide (HaU6.out.below hb)
              have HaV7 := hide (HaV6.out.below hb)
              have HaM7 := hide (show ∀ W, Below w7.heap.size w7 W → _ from fun W h => HaM6.out W (bel_trans hb h))
              have HGL7 := hide (HGL6.out.below hb)
              clear HP6 HL6 HS6 HB6 HO6 HaP6 HaU6 HaV6 HaM6 HGL6
              clear hb KG 
              have KG := hide (HP7.out.gbound (c := c) (e := e) (cl := l) HL7.out (by omega) (by omega) (by omega))
              generalize hy : gbnd C D E L = y at KG
              obtain ⟨y, on⟩ := y
              cases on with
              | false =>
                clear hy
                go_wp2_with fail
                refine KG.out.mono ?_
                rintro e9 w8 ⟨rfl, hb⟩
                dsimp only
                have HP8 := hide (HP7.out.below hb)
                have HL8 := hide (HL7.out.below hb)
                have HS8 := hide (HS7.out.below hb)
                have HB8 := hide (bel_trans HB7.out hb)
                have HO8 := hide (HO7.out.below hb)
                have HaP8 := hide (HaP7.out.below hb)
                have HaU8 := hide (HaU7.out.below hb)
                have HaV8 := hide (HaV7.out.below hb)
                have HaM8 := hide (show ∀ W, Below w8.heap.size w8 W → _ from fun W h => HaM7.out W (bel_trans hb h))
                have HGL8 := hide (HGL7.out.below hb)
                clear HP7 HL7 HS7 HB7 HO7 HaP7 HaU7 HaV7 HaM7 HGL7
                clear hb KG 
                obtain ⟨aq0, aq1, aq2, aq3⟩ := HaM8.out _ (Below.refl _ _)
                go_wp2
                go_ret
                exact ⟨rfl, HB8.out⟩
              | true =>
                have hly := (gb_is hy).2
                clear hy
                go_wp2_with fail
                refine KG.out.mono ?_
                rintro e9 w8 ⟨rfl, hb⟩
                dsimp only
                have HP8 := hide (HP7.out.below hb)
                have HL8 := hide (HL7.out.below hb)
                have HS8 := hide (HS7.out.below hb)
                have HB8 := hide (bel_trans HB7.out hb)
                have HO8 := hide (HO7.out.below hb)
                have HaP8 := hide (HaP7.out.below hb)
                have HaU8 := hide (HaU7.out.below hb)
                have HaV8 := hide (HaV7.out.below hb)
                have HaM8 := hide (show ∀ W, Below w8.heap.size w8 W → _ from fun W h => HaM7.out W (bel_trans hb h))
                have HGL8 := hide (HGL7.out.below hb)
                clear HP7 HL7 HS7 HB7 HO7 HaP7 HaU7 HaV7 HaM7 HGL7
                clear hb KG 
                obtain ⟨aq0, aq1, aq2, aq3⟩ := HaM8.out _ (Below.refl _ _)
                go_wp2
                go_ret
                exact ⟨rfl, HB8.out⟩
            | true =>
              obtain ⟨ho1, ho2⟩ := ord_low hz hk HVV.out
              clear hz
              by_cases hg : ordK C D E < z
              · clear ho2
                have tq : (z == ordK C D E) = false := by
                  have : ¬ z = ordK C D E := by omega
                  simpa using this
                go_wp2_with fail
                refine KC.out.mono ?_
                rintro e9 w4 ⟨rfl, hb⟩
                dsimp only
                have HP4 := hide (HP3.out.below hb)
                have HL4 := hide (HL3.out.below hb)
                have HS4 := hide (HS3.out.below hb)
                have HB4 := hide (bel_trans HB3.out hb)
                have HO4 := hide (HO3.out.below hb)
                clear HP3 HL3 HS3 HB3 HO3
                clear hb KC 
                have KK := hide (keepsN (u := p) HS4.out (by omega) m)
                rw [HNE.out] at hk
                rw [hk] at KK
                clear hk
                go_wp2_with fail
                refine KK.out.mono ?_
                rintro e9 w9 ⟨rfl, rfl⟩
                clear KK
                have KB := hide (HP4.out.best (c := c) (e := e) HVV.out)
                go_wp2_with fail
                refine KB.out.mono ?_
                rintro e9 wba ⟨AA1, AA2, AA3, ac1, ac2, ac3, rfl, hb0, h1, h2, h3⟩
                have hba := alloc_bel wba (.cells #[.int .i64 (bK C D E), .slice AA1 (n) ac1, .slice AA2 (n) ac2, .slice AA3 (m) ac3] 27)
                have hb := bel_trans hb0 hba
                have HP5 := hide (HP4.out.below hb)
                have HL5 := hide (HL4.out.below hb)
                have HS5 := hide (HS4.out.below hb)
                have HB5 := hide (bel_trans HB4.out hb)
                have HO5 := hide (HO4.out.below hb)
                clear HP4 HL4 HS4 HB4 HO4
                have HaP5 := hide (h1.below hba)
                have HaU5 := hide (h2.below hba)
                have HaV5 := hide (h3.below hba)
                have HaM5 := hide (asg_mem wba (bK C D E) AA1 AA2 AA3 (n) (n) (m) ac1 ac2 ac3)
                clear hb hb0 hba h1 h2 h3 KB
                have KG := hide (HP5.out.gri (c := c) (e := e) HKL.out)
                rw [show errV C D E = 0 by unfold errV; rw [HVV.out]; rfl] at KG
                go_wp2_with fail
                generalize wba.alloc (.cells #[.int .i64 (bK C D E), .slice AA1 (n) ac1, .slice AA2 (n) ac2, .slice AA3 (m) ac3] 27) = w5 at *
                generalize wba.heap.size = ga at *
                clear wba
                refine KG.out.mono ?_
                rintro e9 w6 ⟨gA, gc, rfl, hb, hHGL⟩
                dsimp only
                have HP6 := hide (HP5.out.below hb)
                have HL6 := hide (HL5.out.below hb)
                have HS6 := hide (HS5.out.below hb)
                have HB6 := hide (bel_trans HB5.out hb)
                have HO6 := hide (HO5.out.below hb)
                have HaP6 := hide (HaP5.out.below hb)
                have HaU6 := hide (HaU5.out.below hb)
                have HaV6 := hide (HaV5.out.below hb)
                have HaM6 := hide (show ∀ W, Below w6.heap.size w6 W → _ from fun W h => HaM5.out W (bel_trans hb h))
                clear HP5 HL5 HS5 HB5 HO5 HaP5 HaU5 HaV5 HaM5
                have HGL6 := hide hHGL
                clear hb KG hHGL
                have KG := hide (HP6.out.gbound (c := c) (e := e) (cl := gc) HGL6.out (by omega) (by omega) (by omega))
                rw [gb_grid HVV.out] at KG
                go_wp2_with fail
                refine KG.out.mono ?_
                rintro e9 w7 ⟨rfl, hb⟩
                dsimp only
                have HP7 := hide (HP6.out.below hb)
                have HL7 := hide (HL6.out.below hb)
                have HS7 := hide (HS6.out.below hb)
                have HB7 := hide (bel_trans HB6.out hb)
                have HO7 := hide (HO6.out.below hb)
                have HaP7 := hide (HaP6.out.below hb)
                have HaU7 := hide (HaU6.out.below hb)
                have HaV7 := hide (HaV6.out.below hb)
                have HaM7 := hide (show ∀ W, Below w7.heap.size w7 W → _ from fun W h => HaM6.out W (bel_trans hb h))
                have HGL7 := hide (HGL6.out.below hb)
                clear HP6 HL6 HS6 HB6 HO6 HaP6 HaU6 HaV6 HaM6 HGL6
                clear hb KG 
                have KG := hide (HP7.out.gbound (c := c) (e := e) (cl := l) HL7.out (by omega) (by omega) (by omega))
                generalize hy : gbnd C D E L = y at KG
                obtain ⟨y, on⟩ := y
                cases on with
                | false =>
                  clear hy
                  go_wp2_with fail
                  refine KG.out.mono ?_
                  rintro e9 w8 ⟨rfl, hb⟩
                  dsimp only
                  have HP8 := hide (HP7.out.below hb)
                  have HL8 := hide (HL7.out.below hb)
                  have HS8 := hide (HS7.out.below hb)
                  have HB8 := hide (bel_trans HB7.out hb)
                  have HO8 := hide (HO7.out.below hb)
                  have HaP8 := hide (HaP7.out.below hb)
                  have HaU8 := hide (HaU7.out.below hb)
                  have HaV8 := hide (HaV7.out.below hb)
                  have HaM8 := hide (show ∀ W, Below w8.heap.size w8 W → _ from fun W h => HaM7.out W (bel_trans hb h))
                  have HGL8 := hide (HGL7.out.below hb)
                  clear HP7 HL7 HS7 HB7 HO7 HaP7 HaU7 HaV7 HaM7 HGL7
                  clear hb KG 
                  obtain ⟨aq0, aq1, aq2, aq3⟩ := HaM8.out _ (Below.refl _ _)
                  go_wp2
                  go_ret
                  exact ⟨rfl, HB8.out⟩
                | true =>
                  have hly := (gb_is hy).2
                  clear hy
                  go_wp2_with fail
                  refine KG.out.mono ?_
                  rintro e9 w8 ⟨rfl, hb⟩
                  dsimp only
                  have HP8 := hide (HP7.out.below hb)
                  have HL8 := hide (HL7.out.below hb)
                  have HS8 := hide (HS7.out.below hb)
                  have HB8 := hide (bel_trans HB7.out hb)
                  have HO8 := hide (HO7.out.below hb)
                  have HaP8 := hide (HaP7.out.below hb)
                  have HaU8 := hide (HaU7.out.below hb)
                  have HaV8 := hide (HaV7.out.below hb)
                  have HaM8 := hide (show ∀ W, Below w8.heap.size w8 W → _ from fun W h => HaM7.out W (bel_trans hb h))
                  have HGL8 := hide (HGL7.out.below hb)
                  clear HP7 HL7 HS7 HB7 HO7 HaP7 HaU7 HaV7 HaM7 HGL7
                  clear hb KG 
                  obtain ⟨aq0, aq1, aq2, aq3⟩ := HaM8.out _ (Below.refl _ _)
                  go_wp2
                  go_ret
                  exact ⟨rfl, HB8.out⟩
              · obtain rfl : z = ordK C D E := by omega
                have HO2 := hide (ho2 rfl)
                clear ho1 ho2 hg
                go_wp2_with fail
                refine KC.out.mono ?_
                rintro e9 w4 ⟨rfl, hb⟩
                dsimp only
                have HP4 := hide (HP3.out.below hb)
                have HL4 := hide (HL3.out.below hb)
                have HS4 := hide (HS3.out.below hb)
                have HB4 := hide (bel_trans HB3.out hb)
                have HO4 := hide (HO3.out.below hb)
                clear HP3 HL3 HS3 HB3 HO3
                clear hb KC 
                have KK := hide (keepsN (u := p) HS4.out (by omega) m)
                rw [HNE.out] at hk
                rw [hk] at KK
                clear hk
                go_wp2_with fail
                refine KK.out.mono ?_
                rintro e9 w9 ⟨rfl, rfl⟩
                clear KK
                have KB := hide (beforeN (u := p) (v := oc) HS4.out HO4.out (by omega))
                rw [HO2.out] at KB
                clear HO2
                go_wp2_with fail
                refine KB.out.mono ?_
                rintro e9 w5 ⟨rfl, hb⟩
                dsimp only
                have HP5 := hide (HP4.out.below hb)
                have HL5 := hide (HL4.out.below hb)
                have HS5 := hide (HS4.out.below hb)
                have HB5 := hide (bel_trans HB4.out hb)
                have HO5 := hide (HO4.out.below hb)
                clear HP4 HL4 HS4 HB4 HO4
                clear hb KB 
                have KB := hide (HP5.out.best (c := c) (e := e) HVV.out)
                go_wp2_with fail
                refine KB.out.mono ?_
                rintro e9 wba ⟨AA1, AA2, AA3, ac1, ac2, ac3, rfl, hb0, h1, h2, h3⟩
                have hba := alloc_bel wba (.cells #[.int .i64 (bK C D E), .slice AA1 (n) ac1, .slice AA2 (n) ac2, .slice AA3 (m) ac3] 27)
                have hb := bel_trans hb0 hba
                have HP6 := hide (HP5.out.below hb)
                have HL6 := hide (HL5.out.below hb)
                have HS6 := hide (HS5.out.below hb)
                have HB6 := hide (bel_trans HB5.out hb)
                have HO6 := hide (HO5.out.below hb)
                clear HP5 HL5 HS5 HB5 HO5
                have HaP6 := hide (h1.below hba)
                have HaU6 := hide (h2.below hba)
                have HaV6 := hide (h3.below hba)
                have HaM6 := hide (asg_mem wba (bK C D E) AA1 AA2 AA3 (n) (n) (m) ac1 ac2 ac3)
                clear hb hb0 hba h1 h2 h3 KB
                have KG := hide (HP6.out.gri (c := c) (e := e) HKL.out)
                rw [show errV C D E = 0 by unfold errV; rw [HVV.out]; rfl] at KG
                go_wp2_with fail
                generalize wba.alloc (.cells #[.int .i64 (bK C D E), .slice AA1 (n) ac1, .slice AA2 (n) ac2, .slice AA3 (m) ac3] 27) = w6 at *
                generalize wba.heap.size = ga at *
                clear wba
                refine KG.out.mono ?_
                rintro e9 w7 ⟨gA, gc, rfl, hb, hHGL⟩
                dsimp only
                have HP7 := hide (HP6.out.below hb)
                have HL7 := hide (HL6.out.below hb)
                have HS7 := hide (HS6.out.below hb)
                have HB7 := hide (bel_trans HB6.out hb)
                have HO7 := hide (HO6.out.below hb)
                have HaP7 := hide (HaP6.out.below hb)
                have HaU7 := hide (HaU6.out.below hb)
                have HaV7 := hide (HaV6.out.below hb)
                have HaM7 := hide (show ∀ W, Below w7.heap.size w7 W → _ from fun W h => HaM6.out W (bel_trans hb h))
                clear HP6 HL6 HS6 HB6 HO6 HaP6 HaU6 HaV6 HaM6
                have HGL7 := hide hHGL
                clear hb KG hHGL
                have KG := hide (HP7.out.gbound (c := c) (e := e) (cl := gc) HGL7.out (by omega) (by omega) (by omega))
                rw [gb_grid HVV.out] at KG
                go_wp2_with fail
                refine KG.out.mono ?_
                rintro e9 w8 ⟨rfl, hb⟩
                dsimp only
                have HP8 := hide (HP7.out.below hb)
                have HL8 := hide (HL7.out.below hb)
                have HS8 := hide (HS7.out.below hb)
                have HB8 := hide (bel_trans HB7.out hb)
                have HO8 := hide (HO7.out.below hb)
                have HaP8 := hide (HaP7.out.below hb)
                have HaU8 := hide (HaU7.out.below hb)
                have HaV8 := hide (HaV7.out.below hb)
                have HaM8 := hide (show ∀ W, Below w8.heap.size w8 W → _ from fun W h => HaM7.out W (bel_trans hb h))
                have HGL8 := hide (HGL7.out.below hb)
                clear HP7 HL7 HS7 HB7 HO7 HaP7 HaU7 HaV7 HaM7 HGL7
                clear hb KG 
                have KG := hide (HP8.out.gbound (c := c) (e := e) (cl := l) HL8.out (by omega) (by omega) (by omega))
                generalize hy : gbnd C D E L = y at KG
                obtain ⟨y, on⟩ := y
                cases on with
                | false =>
                  clear hy
                  go_wp2_with fail
                  refine KG.out.mono ?_
                  rintro e9 w9 ⟨rfl, hb⟩
                  dsimp only
                  have HP9 := hide (HP8.out.below hb)
                  have HL9 := hide (HL8.out.below hb)
                  have HS9 := hide (HS8.out.below hb)
                  have HB9 := hide (bel_trans HB8.out hb)
                  have HO9 := hide (HO8.out.below hb)
                  have HaP9 := hide (HaP8.out.below hb)
                  have HaU9 := hide (HaU8.out.below hb)
                  have HaV9 := hide (HaV8.out.below hb)
                  have HaM9 := hide (show ∀ W, Below w9.heap.size w9 W → _ from fun W h => HaM8.out W (bel_trans hb h))
                  have HGL9 := hide (HGL8.out.below hb)
                  clear HP8 HL8 HS8 HB8 HO8 HaP8 HaU8 HaV8 HaM8 HGL8
                  clear hb KG 
                  obtain ⟨aq0, aq1, aq2, aq3⟩ := HaM9.out _ (Below.refl _ _)
                  go_wp2
                  go_ret
                  exact ⟨rfl, HB9.out⟩
                | true =>
                  have hly := (gb_is hy).2
                  clear hy
                  go_wp2_with fail
                  refine KG.out.mono ?_
                  rintro e9 w9 ⟨rfl, hb⟩
                  dsimp only
                  have HP9 := hide (HP8.out.below hb)
                  have HL9 := hide (HL8.out.below hb)
                  have HS9 := hide (HS8.out.below hb)
                  have HB9 := hide (bel_trans HB8.out hb)
                  have HO9 := hide (HO8.out.below hb)
                  have HaP9 := hide (HaP8.out.below hb)
                  have HaU9 := hide (HaU8.out.below hb)
                  have HaV9 := hide (HaV8.out.below hb)
                  have HaM9 := hide (show ∀ W, Below w9.heap.size w9 W → _ from fun W h => HaM8.out W (bel_trans hb h))
                  have HGL9 := hide (HGL8.out.below hb)
                  clear HP8 HL8 HS8 HB8 HO8 HaP8 HaU8 HaV8 HaM8 HGL8
                  clear hb KG 
                  obtain ⟨aq0, aq1, aq2, aq3⟩ := HaM9.out _ (Below.refl _ _)
                  go_wp2
                  go_ret
                  exact ⟨rfl, HB9.out⟩
end Go.Proofs.Ytalbhghigdanlaa
namespace Go.Proofs.Ytalbhghigdanlaa
open Go.ChangeShapes Go.WideShapes Go.ChangeAt Go.RowKit Go.CH Go.CH.Asg Go.Deep
section
variable {H : Type} {enc : TypeId × Value → H} {w : World}
theorem each_num : ∀ m cs y, DataW.trod enc Try.prog w 0 (fun _ => true) true m 3 cs = some y → ∃ x : Int, cs = [.int .i64 x] ∧ True := by
  intro m cs y h
  obtain ⟨s, h1, _⟩ := DataW.trod_int Try.underlying3 h
  exact ⟨s, h1, trivial⟩
theorem flat_ints (l : List Int) : l.flatMap (fun x : Int => [Value.int .i64 x]) = ints l := by
  induction l with
  | nil => rfl
  | cons a l ih => simp [ints] at ih ⊢; exact ih
theorem open23 {A : Option Addr} {n c : Nat} {d : DataW H} {ps : List MemPlace} (h : DataW.Trod enc Try.prog w 0 (fun _ => true) true 23 (.slice A n c) d ps) : ∃ l : List Int, VecN w A l n ∧ n ≤ c ∧ c ≤ maxLen := by
  obtain ⟨xs, h1, h2, h3, h4, h5⟩ := open_src (size := 1) (fun x : Int => [Value.int .i64 x]) (fun x => True) Try.underlying23 (by kernel_rfl) (by decide) each_num (fun x _ u hu => by simp at hu; subst hu; rfl) h
  subst h1
  rw [flat_ints] at h2
  exact ⟨xs, ⟨h2, rfl⟩, h4, h5⟩
def rowL (x : List Int × Option Addr × Nat) : List Value := [.slice x.2.1 x.1.length x.2.2]
theorem each_row : ∀ m cs y, DataW.trod enc Try.prog w 0 (fun _ => true) true m 23 cs = some y → ∃ x : List Int × Option Addr × Nat, cs = rowL x ∧ (Vec w x.2.1 x.1 ∧ x.1.length ≤ x.2.2) := by
  intro m cs y h
  have hv : ∃ A n c, cs = [.slice A n c] := by
    rcases open_slice Try.underlying23 h with ⟨h0, _⟩ | ⟨a, len, cap, _, _, _, _, hv, _⟩
    · exact ⟨none, 0, 0, h0⟩
    · exact ⟨some a, len, cap, hv⟩
  obtain ⟨A, n, c, rfl⟩ := hv
  obtain ⟨l, h1, h2, h3⟩ := open23 (d := y.1) (ps := y.2) ⟨m, by simpa [Value.cells] using h⟩
  obtain ⟨hv, rfl⟩ := h1
  exact ⟨(l, A, c), rfl, hv, h2⟩
theorem open22 {A : Option Addr} {n c : Nat} {d : DataW H} {ps : List MemPlace} (h : DataW.Trod enc Try.prog w 0 (fun _ => true) true 22 (.slice A n c) d ps) : ∃ C : List (List Int), (∃ V, Mat w A C V) ∧ C.length = n ∧ n ≤ maxLen := by
  obtain ⟨xs, h1, h2, h3, h4, h5⟩ := open_src (size := 1) rowL (fun x => Vec w x.2.1 x.1 ∧ x.1.length ≤ x.2.2) Try.underlying22 (by kernel_rfl) (by decide) each_row (fun x _ u hu => by simp [rowL] at hu; subst hu; rfl) h
  subst h1
  refine ⟨xs.map (·.1), ⟨xs.map (·.2), ⟨by simp, ?_, ?_⟩⟩, by simp, by omega⟩
  · have e : (xs.map (·.2)).mapIdx (fun i x => Value.slice x.1 ((xs.map (·.1)).getD i []).length x.2) = xs.flatMap rowL := by
      have e1 : xs.flatMap rowL = xs.map (fun x => Value.slice x.2.1 x.1.length x.2.2) := by
        have : ∀ l : List (List Int × Option Addr × Nat), l.flatMap rowL = l.map (fun x => Value.slice x.2.1 x.1.length x.2.2) := fun l => by induction l with
          | nil => rfl
          | cons a l ih => simp [rowL] at ih ⊢; exact ih
        exact this xs
      rw [e1]
      apply List.ext_getElem?
      intro i
      rw [List.getElem?_mapIdx, List.getElem?_map, List.getElem?_map]
      cases hx : xs[i]? with
      | none => rfl
      | some x => simp [List.getD_eq_getElem?_getD, hx]
    rw [e, List.length_map]; exact h2
  · intro i hi x hx
    rw [List.getElem?_map] at hx
    have hi' : i < xs.length := by simpa using hi
    rw [List.getElem?_eq_getElem hi'] at hx
    simp at hx
    subst hx
    rw [List.getElem_map]
    exact (h3 _ (List.getElem_mem hi')).1
theorem px_of {A B G : Option Addr} {C : List (List Int)} {D E : List Int} {nc n m d : Nat} (h : (∃ V, Mat w A C V) ∧ C.length = nc ∧ nc ≤ maxLen) (hD : VecN w B D n ∧ n ≤ d ∧ d ≤ maxLen) (hE : VecN w G E m) : PX w A B G C D E nc n m d :=
  ⟨h.1, by rw [h.2.1]; exact h.2.2, hD.1.v, hE.v, by rw [hD.1.n]; exact hD.2.1, h.2.1, hD.1.n, hE.n⟩
theorem of_wf_u16 {n : Int} (h : (Lit.int .u16 n).wf = true) : 0 ≤ n ∧ n ≤ 65535 := of_wf h
end
end Go.Proofs.Ytalbhghigdanlaa
