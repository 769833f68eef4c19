/-
  Assign: the plain laws of the potentials.
  Assign: the plain laws of assignments in order and of grids.
  Assign: the program and the reference give one answer.
  Assign: AssignMatchesReference, walked.
  Assign: lists of numbers, and of such lists, that came in, opened.
-/
import Derived.Test.YtalbhghigdanlaaMM15
import Derived.Test.YtalbhghigdanlaaMM3
import Derived.WalkKit
import Derived.ProofKit
import Derived.OpenShut
import Derived.ShutString
import Derived.SizedLaws
set_option linter.unusedSimpArgs false
set_option linter.unusedVariables false
namespace Go.Proofs.Ytalbhghigdanlaa
open Go.RowKit Go.CH Go.CH.Asg
open Go.ChangeMaps (setBlock)
section
variable {C : List (List Int)} {D E U W : List Int}
theorem lF_map {n : Nat} {f : Nat → Int} {i : Nat} (hi : i < n) : lF ((List.range n).map f) i = f i := by
  unfold lF
  rw [List.getD_eq_getElem?_getD, List.getElem?_map, List.getElem?_range hi]; rfl
theorem bU_at {i : Nat} (hi : i < D.length) : lF (bU C D E) i = buF (cF C) (lF D) (lF E) D.length E.length i := lF_map hi
theorem bV_at {j : Nat} (hj : j < E.length) : lF (bV C D E) j = bvF (cF C) (lF D) (lF E) D.length E.length j := lF_map hj
theorem wi_all {l : List Int} {lo hi : Int} (h : ∀ i, i < l.length → lo ≤ lF l i ∧ lF l i ≤ hi) : wi l lo hi = true := by
  unfold wi
  rw [List.all_eq_true]
  intro x hx
  obtain ⟨i, hi, rfl⟩ := List.mem_iff_getElem.1 hx
  have := h i hi
  rw [lF_at hi] at this
  simpa using this
theorem bnd_best (hv : vld C D E = true) : bnd C D E (bU C D E) (bV C D E) = (bK C D E, true) := by
  have hV := vld_iff hv
  have hp : Pot (cF C) (lF D) (lF E) D.length E.length (bK C D E) (buF (cF C) (lF D) (lF E) D.length E.length) (bvF (cF C) (lF D) (lF E) D.length E.length) := best_pot
  have hf := hp.feas
  have hlow : ∀ i, i < D.length → -10000 ≤ buF (cF C) (lF D) (lF E) D.length E.length i := fun i hi =>
    hp.low (E := 10000) (fun i hi j hj => (hV.c i hi j hj).1) (fun i hi => (hV.d i hi).1) (fun j hj => hV.e j hj) (by omega) hi
  have hU : ∀ i, i < D.length → -10000 ≤ buF (cF C) (lF D) (lF E) D.length E.length i ∧ buF (cF C) (lF D) (lF E) D.length E.length i ≤ 10000 := fun i hi => ⟨hlow i hi, by have := hf.d i hi; have := hV.d i hi; omega⟩
  have hVV : ∀ j, j < E.length → -10000 ≤ bvF (cF C) (lF D) (lF E) D.length E.length j ∧ bvF (cF C) (lF D) (lF E) D.length E.length j ≤ 10000 := fun j hj => by
    refine ⟨?_, by have := hf.e j hj; have := hV.e j hj; omega⟩
    unfold bvF
    rcases mnl_is (U := noU) (f := fun i => cF C i j - buF (cF C) (lF D) (lF E) D.length E.length i) (a := lF E j) (m := D.length) with h | ⟨i, hi, -, h⟩
    · rw [h]; have := hV.e j hj; omega
    · rw [h]; have := hV.c i hi j hj; have := hU i hi; omega
  have hfl : FeasL C D E (bU C D E) (bV C D E) := ⟨fun i hi j hj => by rw [bU_at hi, bV_at hj]; exact hf.c i hi j hj, fun i hi => by rw [bU_at hi]; exact hf.d i hi, fun j hj => by rw [bV_at hj]; exact hf.e j hj⟩
  have h0 : bnd0 C D E (bU C D E) (bV C D E) = true := by
    unfold bnd0
    rw [hv, decide_eq_true bU_len, decide_eq_true bV_len, wi_all, wi_all]
    · rfl
    · intro j hj; rw [bV_len] at hj; rw [bV_at hj]; have := hVV j hj; omega
    · intro i hi; rw [bU_len] at hi; rw [bU_at hi]; have := hU i hi; omega
  unfold bnd
  rw [if_pos ⟨h0, hfl⟩]
  refine Prod.ext ?_ rfl
  show sg D.length (lF (bU C D E)) + sg E.length (lF (bV C D E)) = bK C D E
  rw [sg_congr (g := buF (cF C) (lF D) (lF E) D.length E.length) (fun i hi => bU_at hi), sg_congr (g := bvF (cF C) (lF D) (lF E) D.length E.length) (fun j hj => bV_at hj)]
  exact hp.sum
theorem bnd_is {x : Int} (h : bnd C D E U W = (x, true)) : vld C D E = true ∧ U.length = D.length ∧ W.length = E.length ∧ FeasL C D E U W ∧ x = sg D.length (lF U) + sg E.length (lF W) := by
  unfold bnd at h
  split at h
  · rename_i hh
    obtain ⟨h0, hf⟩ := hh
    unfold bnd0 at h0
    simp at h0
    refine ⟨h0.1.1.1.1, h0.1.1.1.2, h0.1.1.2, hf, ?_⟩
    exact (congrArg Prod.fst h).symm
  · simp at h
theorem bnd_zero {x : Int} (h : bnd C D E U W = (x, false)) : x = 0 := by
  unfold bnd at h
  split at h
  · simp at h
  · exact (congrArg Prod.fst h).symm
theorem bnd_low {x : Int} (h : bnd C D E U W = (x, true)) : x ≤ bK C D E ∧ (x = bK C D E → ∀ i, i < U.length → lF U i ≤ lF (bU C D E) i) := by
  obtain ⟨hv, h1, h2, hf, rfl⟩ := bnd_is h
  have hp : Pot (cF C) (lF D) (lF E) D.length E.length (bK C D E) (buF (cF C) (lF D) (lF E) D.length E.length) (bvF (cF C) (lF D) (lF E) D.length E.length) := best_pot
  refine ⟨L_opt.weak hf, fun he i hi => ?_⟩
  rw [h1] at hi
  rw [bU_at hi]
  exact hp.most hf he hi
end
end Go.Proofs.Ytalbhghigdanlaa
namespace Go.Proofs.Ytalbhghigdanlaa
open Go.RowKit Go.CH Go.CH.Asg
open Go.ChangeMaps (setBlock)
section
variable {c : Nat → Nat → Int} {d e : Nat → Int} {n m : Nat} {L : List Int}
theorem hbF_all (h : hbF c d e L n m ((n + 1) * (m + 1)) = true) {i j : Nat} (hi : i ≤ n) (hj : j ≤ m) :
    (i < n → lF L (i * (m + 1) + j) ≤ d i + lF L ((i + 1) * (m + 1) + j)) ∧ (j < m → lF L (i * (m + 1) + j) ≤ e j + lF L (i * (m + 1) + (j + 1))) ∧ (i < n → j < m → lF L (i * (m + 1) + j) ≤ c i j + lF L ((i + 1) * (m + 1) + (j + 1))) := by
  have hp := place_lt hi hj
  have h0 : ∀ k, k ≤ (n + 1) * (m + 1) → hbF c d e L n m k = true := fun k hk => by
    cases hh : hbF c d e L n m k with
    | true => rfl
    | false => rw [hbF_stop hh hk] at h; cases h
  have h1 := hbF_next (i := i) (j := j) hj rfl (h0 (i * (m + 1) + j) (by omega))
  rw [h0 _ (by omega)] at h1
  have h2 := h1.symm
  simp only [Bool.and_eq_true] at h2
  obtain ⟨⟨a1, a2⟩, a3⟩ := h2
  unfold q1 at a1
  unfold q2 at a2
  unfold q3 at a3
  have e1 : i * (m + 1) + j + m + 1 = (i + 1) * (m + 1) + j := by rw [Nat.succ_mul]; omega
  have e2 : i * (m + 1) + j + m + 2 = (i + 1) * (m + 1) + (j + 1) := by rw [Nat.succ_mul]; omega
  rw [e1] at a1
  rw [e2] at a3
  refine ⟨fun hin => ?_, fun hjm => ?_, fun hin hjm => ?_⟩
  · simp [hin] at a1; exact a1
  · simp [hjm] at a2; exact a2
  · simp [hin, hjm] at a3; exact a3
theorem hbF_mk (h : ∀ i j, i ≤ n → j ≤ m → (i < n → lF L (i * (m + 1) + j) ≤ d i + lF L ((i + 1) * (m + 1) + j)) ∧ (j < m → lF L (i * (m + 1) + j) ≤ e j + lF L (i * (m + 1) + (j + 1))) ∧ (i < n → j < m → lF L (i * (m + 1) + j) ≤ c i j + lF L ((i + 1) * (m + 1) + (j + 1)))) :
    ∀ k, k ≤ (n + 1) * (m + 1) → hbF c d e L n m k = true := by
  intro k
  induction k with
  | zero => intro _; rfl
  | succ k ih =>
    intro hk
    obtain ⟨i, j, e0, hi, hj⟩ : ∃ i j, k = i * (m + 1) + j ∧ i ≤ n ∧ j ≤ m := by
      refine ⟨k / (m + 1), k % (m + 1), ?_, ?_, ?_⟩
      · have := Nat.div_add_mod k (m + 1); rw [Nat.mul_comm] at this; exact this.symm
      · have : k / (m + 1) < n + 1 := Nat.div_lt_of_lt_mul (by rw [Nat.mul_comm]; omega)
        omega
      · have := Nat.mod_lt k (show 0 < m + 1 by omega); omega
    rw [hbF_next hj e0 (ih (by omega))]
    obtain ⟨a1, a2, a3⟩ := h i j hi hj
    have e1 : k + m + 1 = (i + 1) * (m + 1) + j := by rw [Nat.succ_mul]; omega
    have e2 : k + m + 2 = (i + 1) * (m + 1) + (j + 1) := by rw [Nat.succ_mul]; omega
    have e3 : k + 1 = i * (m + 1) + (j + 1) := by omega
    unfold q1 q2 q3
    rw [e1, e2, e3, e0]
    simp only [Bool.and_eq_true, Bool.not_eq_true', Bool.and_eq_false_iff, decide_eq_false_iff_not]
    refine ⟨⟨?_, ?_⟩, ?_⟩
    · by_cases hin : i < n
      · right; have := a1 hin; omega
      · left; exact hin
    · by_cases hjm : j < m
      · right; have := a2 hjm; omega
      · left; exact hjm
    · by_cases hin : i < n
      · by_cases hjm : j < m
        · right; have := a3 hin hjm; omega
        · left; right; exact hjm
      · left; left; exact hin
theorem hb_low (h : hbF c d e L n m ((n + 1) * (m + 1)) = true) (h0 : lF L (n * (m + 1) + m) ≤ 0) :
    ∀ t i j, i ≤ n → j ≤ m → (n - i) + (m - j) ≤ t → lF L (i * (m + 1) + j) ≤ GR c d e n m (n - i) (m - j) := by
  have hz : lF L (n * (m + 1) + m) ≤ GR c d e n m (n - n) (m - m) := by rw [GR_nil]; exact h0
  intro t
  induction t with
  | zero =>
    intro i j hi hj ht
    obtain rfl : i = n := by omega
    obtain rfl : j = m := by omega
    exact hz
  | succ t ih =>
    intro i j hi hj ht
    obtain ⟨a1, a2, a3⟩ := hbF_all h hi hj
    by_cases hin : i < n
    · have b1 := ih (i + 1) j (by omega) hj (by omega)
      have c1 := a1 hin
      by_cases hjm : j < m
      · have b2 := ih i (j + 1) hi (by omega) (by omega)
        have c2 := a2 hjm
        have c3 := a3 hin hjm
        have b3 := ih (i + 1) (j + 1) (by omega) (by omega) (by omega)
        rw [GR_all hin hjm]
        omega
      · obtain rfl : j = m := by omega
        rw [GR_row hin]; omega
    · obtain rfl : i = n := by omega
      by_cases hjm : j < m
      · have b2 := ih i (j + 1) hi (by omega) (by omega)
        have c2 := a2 hjm
        rw [GR_col hjm]; omega
      · obtain rfl : j = m := by omega
        exact hz
end
section
variable {C : List (List Int)} {D E L ps : List Int}
theorem gb_is {x : Int} (h : gbnd C D E L = (x, true)) : vld C D E = true ∧ x ≤ ordK C D E := by
  unfold gbnd at h
  split at h
  · rename_i hh
    simp only [Bool.and_eq_true] at hh
    obtain ⟨h0, hF⟩ := hh
    unfold gbnd0 at h0
    simp only [Bool.and_eq_true, decide_eq_true_eq] at h0
    obtain ⟨⟨⟨hv, hl⟩, hw⟩, hlast⟩ := h0
    refine ⟨hv, ?_⟩
    have hx : x = lF L 0 := (congrArg Prod.fst h).symm
    rw [hx]
    rw [hl] at hF hlast
    have e1 : (D.length + 1) * (E.length + 1) - 1 = D.length * (E.length + 1) + E.length := by rw [Nat.succ_mul]; omega
    rw [e1] at hlast
    have h8 := hb_low hF hlast (D.length + E.length) 0 0 (Nat.zero_le _) (Nat.zero_le _) (by omega)
    rw [Nat.zero_mul, Nat.zero_add, Nat.sub_zero, Nat.sub_zero] at h8
    unfold ordK
    rw [hv]; exact h8
  · simp at h
theorem gb_zero {x : Int} (h : gbnd C D E L = (x, false)) : x = 0 := by
  unfold gbnd at h
  split at h
  · simp at h
  · exact (congrArg Prod.fst h).symm
theorem gri_lF {c : Nat → Nat → Int} {d e : Nat → Int} {n m i j : Nat} (hi : i ≤ n) (hj : j ≤ m) : lF (gri c d e n m) (i * (m + 1) + j) = GR c d e n m (n - i) (m - j) := by
  unfold lF
  rw [List.getD_eq_getElem?_getD, gri_get hi hj]; rfl
theorem GR_b (hv : vld C D E = true) {a b : Nat} (ha : a ≤ D.length) (hb : b ≤ E.length) : 0 ≤ GR (cF C) (lF D) (lF E) D.length E.length a b ∧ GR (cF C) (lF D) (lF E) D.length E.length a b ≤ 130000 := by
  have hV := vld_iff hv
  have h6 := hV.n6
  have h7 := hV.m6
  have key : ∀ a, a ≤ D.length → ∀ b, b ≤ E.length → 0 ≤ GR (cF C) (lF D) (lF E) D.length E.length a b ∧ GR (cF C) (lF D) (lF E) D.length E.length a b ≤ (a : Int) * 10000 + (b : Int) * 10000 := by
    intro a
    induction a with
    | zero =>
      intro _ b
      induction b with
      | zero => intro _; exact ⟨Int.le_refl _, Int.le_refl _⟩
      | succ b ih =>
        intro hb
        have := ih (by omega)
        have he := hV.e (E.length - (b + 1)) (by omega)
        have e3 : GR (cF C) (lF D) (lF E) D.length E.length 0 (b + 1) = lF E (E.length - (b + 1)) + GR (cF C) (lF D) (lF E) D.length E.length 0 b := rfl
        rw [e3]; omega
    | succ a iha =>
      intro ha b
      have hd := hV.d (D.length - (a + 1)) (by omega)
      induction b with
      | zero =>
        intro _
        have h1 := iha (by omega) 0 (Nat.zero_le _)
        have e3 : GR (cF C) (lF D) (lF E) D.length E.length (a + 1) 0 = lF D (D.length - (a + 1)) + GR (cF C) (lF D) (lF E) D.length E.length a 0 := rfl
        rw [e3]; omega
      | succ b ihb =>
        intro hb
        have h1 := iha (by omega) (b + 1) hb
        have h2 := ihb (by omega)
        have h4 := iha (by omega) b (by omega)
        have he := hV.e (E.length - (b + 1)) (by omega)
        have hc := hV.c (D.length - (a + 1)) (by omega) (E.length - (b + 1)) (by omega)
        have h3 : GR (cF C) (lF D) (lF E) D.length E.length (a + 1) (b + 1) = min (min (lF D (D.length - (a + 1)) + GR (cF C) (lF D) (lF E) D.length E.length a (b + 1)) (lF E (E.length - (b + 1)) + GR (cF C) (lF D) (lF E) D.length E.length (a + 1) b)) (cF C (D.length - (a + 1)) (E.length - (b + 1)) + GR (cF C) (lF D) (lF E) D.length E.length a b) := rfl
        rw [h3]; omega
  have := key a ha b hb
  omega
theorem gb_grid (hv : vld C D E = true) : gbnd C D E (griL C D E) = (ordK C D E, true) := by
  have hg : griL C D E = gri (cF C) (lF D) (lF E) D.length E.length := by unfold griL; rw [hv]; rfl
  have hk : ordK C D E = GR (cF C) (lF D) (lF E) D.length E.length D.length E.length := by unfold ordK; rw [hv]; rfl
  rw [hg, hk]
  have hl : (gri (cF C) (lF D) (lF E) D.length E.length).length = (D.length + 1) * (E.length + 1) := gri_len
  have h00 := gri_lF (c := cF C) (d := lF D) (e := lF E) (Nat.zero_le D.length) (Nat.zero_le E.length)
  rw [Nat.zero_mul, Nat.zero_add, Nat.sub_zero, Nat.sub_zero] at h00
  have hnn := gri_lF (c := cF C) (d := lF D) (e := lF E) (Nat.le_refl D.length) (Nat.le_refl E.length)
  rw [GR_nil] at hnn
  have e1 : (D.length + 1) * (E.length + 1) - 1 = D.length * (E.length + 1) + E.length := by rw [Nat.succ_mul]; omega
  rw [gbnd_yes, h00]
  · unfold gbnd0
    rw [hv, hl, decide_eq_true rfl, e1, hnn, wi_all]
    · rfl
    · intro k hk2
      rw [hl] at hk2
      obtain ⟨i, j, e0, hi, hj⟩ : ∃ i j, k = i * (E.length + 1) + j ∧ i ≤ D.length ∧ j ≤ E.length := by
        refine ⟨k / (E.length + 1), k % (E.length + 1), ?_, ?_, ?_⟩
        · have := Nat.div_add_mod k (E.length + 1); rw [Nat.mul_comm] at this; exact this.symm
        · have : k / (E.length + 1) < D.length + 1 := Nat.div_lt_of_lt_mul (by rw [Nat.mul_comm]; omega)
          omega
        · have := Nat.mod_lt k (show 0 < E.length + 1 by omega); omega
      rw [e0, gri_lF hi hj]
      have := GR_b hv (a := D.length - i) (b := E.length - j) (by omega) (by omega)
      omega
  · rw [hl]
    refine hbF_mk (fun i j hi hj => ?_) _ (Nat.le_refl _)
    rw [gri_lF hi hj]
    refine ⟨fun hin => ?_, fun hjm => ?_, fun hin hjm => ?_⟩
    · rw [gri_lF (i := i + 1) hin hj]
      by_cases hjm : j < E.length
      · rw [GR_all hin hjm]; omega
      · obtain rfl : j = E.length := by omega
        rw [GR_row hin]; omega
    · rw [gri_lF (j := j + 1) hi hjm]
      by_cases hin : i < D.length
      · rw [GR_all hin hjm]; omega
      · obtain rfl : i = D.length := by omega
        rw [GR_col hjm]; omega
    · rw [gri_lF (i := i + 1) (j := j + 1) hin hjm, GR_all hin hjm]; omega
theorem ord_cost (hv : vld C D E = true) : costR C D E (ordL C D E) = (ordK C D E, true) ∧ keeps E.length (-1) (ordL C D E) = true := by
  have hg : ordL C D E = gro (cF C) (lF D) (lF E) D.length E.length D.length E.length := by unfold ordL; rw [hv]; rfl
  have hk : ordK C D E = GR (cF C) (lF D) (lF E) D.length E.length D.length E.length := by unfold ordK; rw [hv]; rfl
  rw [hg, hk]
  have h1 := gro_cso (c := cF C) (d := lF D) (e := lF E) (n := D.length) (m := E.length) (a := D.length) (f := 0) (Nat.le_refl _) (Nat.zero_le _)
  rw [Nat.sub_self, Nat.sub_zero] at h1
  have h2 : keeps E.length (-1) (gro (cF C) (lF D) (lF E) D.length E.length D.length E.length) = true := cso_keeps h1
  refine ⟨?_, h2⟩
  unfold costR
  rw [if_pos (gro_len _ _), cs_cso0 h2, h1]
theorem ord_low {v : Int} (h : costR C D E ps = (v, true)) (hk : keeps E.length (-1) ps = true) (hv : vld C D E = true) : ordK C D E ≤ v ∧ (v = ordK C D E → before ps (ordL C D E) = false) := by
  have hg : ordL C D E = gro (cF C) (lF D) (lF E) D.length E.length D.length E.length := by unfold ordL; rw [hv]; rfl
  have hkk : ordK C D E = GR (cF C) (lF D) (lF E) D.length E.length D.length E.length := by unfold ordK; rw [hv]; rfl
  obtain ⟨hl, hc⟩ := costR_is h
  rw [cs_cso0 hk] at hc
  rw [hg, hkk]
  have h1 := cso_low (c := cF C) (d := lF D) (e := lF E) (n := D.length) (m := E.length) (a := D.length) (f := 0) (ps := ps) (v := v) (Nat.le_refl _) (Nat.zero_le _) hl (by rw [Nat.sub_self]; exact hc)
  rw [Nat.sub_zero] at h1
  refine ⟨h1, fun he => ?_⟩
  have h2 := gro_first (c := cF C) (d := lF D) (e := lF E) (n := D.length) (m := E.length) (a := D.length) (f := 0) (ps := ps) (Nat.le_refl _) (Nat.zero_le _) hl (by rw [Nat.sub_self, Nat.sub_zero, ← he]; exact hc)
  rw [Nat.sub_zero] at h2
  exact h2
theorem best_ord (hv : vld C D E = true) : bK C D E ≤ ordK C D E := (cheap (ord_cost hv).1).1
end
end Go.Proofs.Ytalbhghigdanlaa
namespace Go.Proofs.Ytalbhghigdanlaa
open Go.RowKit Go.CH Go.CH.Asg
open Go.ChangeMaps (setBlock)
theorem sameN {w : World} {k : Int} {ps us vs : List Int} {n1 n2 n3 c1 c2 c3 d1 d2 d3 : Nat} {A1 A2 A3 B1 B2 B3 : Option Addr} (h1 : VecN w A1 ps n1) (h2 : VecN w A2 us n2) (h3 : VecN w A3 vs n3) (g1 : VecN w B1 ps n1) (g2 : VecN w B2 us n2) (g3 : VecN w B3 vs n3) (l1 : n1 ≤ 1000000) (l2 : n2 ≤ 1000000) (l3 : n3 ≤ 1000000) :
    Calls Try.prog 22 #[.agg #[.int .i64 k, .slice A1 n1 c1, .slice A2 n2 c2, .slice A3 n3 c3], .agg #[.int .i64 k, .slice B1 n1 d1, .slice B2 n2 d2, .slice B3 n3 d3]] w (BelowRet w (.bool true)) := by
  obtain ⟨h1, rfl⟩ := h1
  obtain ⟨h2, rfl⟩ := h2
  obtain ⟨h3, rfl⟩ := h3
  have K := same_any (w := w) (x := ⟨k, ps, us, vs⟩) (y := ⟨k, ps, us, vs⟩) ⟨A1, A2, A3, c1, c2, c3, rfl, h1, h2, h3⟩ ⟨B1, B2, B3, d1, d2, d3, rfl, g1.v, g2.v, g3.v⟩ l1 l2 l3
  rw [show sameM ⟨k, ps, us, vs⟩ ⟨k, ps, us, vs⟩ = true by unfold sameM; simp] at K
  exact K
def Beq (C : List (List Int)) (D E : List Int) (nc n m cd c e : Nat) (k er : Int) (ps us vs : List Int) (n1 n2 n3 : Nat) : Prop :=
  ∀ (w : World) (A B G : Option Addr), PX w A B G C D E nc n m cd → Calls Try.prog 12 #[.slice A nc c, .slice B n cd, .slice G m e] w (BestA w k er ps us vs n1 n2 n3) ∧ Calls Try.prog 18 #[.slice A nc c, .slice B n cd, .slice G m e] w (BestA w k er ps us vs n1 n2 n3)
theorem beq_ex (C : List (List Int)) (D E : List Int) (nc n m cd c e : Nat) (hd : D.length = n) (he : E.length = m) (hn : n ≤ 1000000) (hm : m ≤ 1000000) : ∃ k er ps us vs n1 n2 n3, n1 ≤ 1000000 ∧ n2 ≤ 1000000 ∧ n3 ≤ 1000000 ∧ Beq C D E nc n m cd c e k er ps us vs n1 n2 n3 := by
  cases hv : vld C D E with
  | false => exact ⟨0, 1, [], [], [], 0, 0, 0, by omega, by omega, by omega, fun w A B G h => ⟨h.best_no hv, h.rbest_no hv⟩⟩
  | true => exact ⟨_, _, _, _, _, n, n, m, hn, hn, hm, fun w A B G h => ⟨h.best hv, h.rbest hv⟩⟩
def Oeq (C : List (List Int)) (D E : List Int) (nc n m cd c e : Nat) (k er : Int) (ps : List Int) (n1 : Nat) : Prop :=
  ∀ (w : World) (A B G : Option Addr), PX w A B G C D E nc n m cd → Calls Try.prog 17 #[.slice A nc c, .slice B n cd, .slice G m e] w (OrdA w k er ps n1) ∧ Calls Try.prog 19 #[.slice A nc c, .slice B n cd, .slice G m e] w (OrdA w k er ps n1)
theorem oeq_ex (C : List (List Int)) (D E : List Int) (nc n m cd c e : Nat) (hd : D.length = n) (hn : n ≤ 1000000) : ∃ k er ps n1, n1 ≤ 1000000 ∧ Oeq C D E nc n m cd c e k er ps n1 := by
  cases hv : vld C D E with
  | false => exact ⟨0, 1, [], 0, by omega, fun w A B G h => ⟨h.ord_no hv, h.rord_no hv⟩⟩
  | true => exact ⟨_, _, _, n, hn, fun w A B G h => ⟨h.ord hv, h.rord hv⟩⟩
def Geq (C : List (List Int)) (D E : List Int) (nc n m cd c e : Nat) (er : Int) (ps : List Int) (n1 : Nat) : Prop :=
  ∀ (w : World) (A B G : Option Addr), PX w A B G C D E nc n m cd → Calls Try.prog 20 #[.slice A nc c, .slice B n cd, .slice G m e] w (GriA w er ps n1) ∧ Calls Try.prog 21 #[.slice A nc c, .slice B n cd, .slice G m e] w (GriA w er ps n1)
theorem geq_ex (C : List (List Int)) (D E : List Int) (nc n m cd c e : Nat) (hd : D.length = n) (he : E.length = m) (hn : n ≤ 20) (hm : m ≤ 20) : ∃ er ps n1, n1 ≤ 1000000 ∧ Geq C D E nc n m cd c e er ps n1 := by
  refine ⟨errV C D E, griL C D E, (griL C D E).length, ?_, fun w A B G h => ⟨h.gri rfl, h.rgri rfl⟩⟩
  cases hv : vld C D E with
  | false => unfold griL; rw [hv]; simp
  | true =>
    rw [griL_len hv]
    have : (D.length + 1) * (E.length + 1) ≤ 21 * 21 := Nat.mul_le_mul (by omega) (by omega)
    omega
end Go.Proofs.Ytalbhghigdanlaa
namespace Go.Proofs.Ytalbhghigdanlaa
open Go.RowKit Go.CH Go.CH.Asg
open Go.ChangeMaps (setBlock)
set_option maxRecDepth 100000 in
set_option maxHeartbeats 12800000 in
theorem matches_any {w : World} {A B G UA VA LA : Option Addr} {C : List (List Int)} {D E U V L : List Int} {nc n m c d e u nu v nv l nl : Nat} (hP : PX w A B G C D E nc n m d) (hU : VecN w UA U nu) (hV : VecN w VA V nv) (hL : VecN w LA L nl) :
    Calls Try.prog 7 #[.slice A nc c, .slice B n d, .slice G m e, .slice UA nu u, .slice VA nv v, .slice LA nl l] w (BelowRet w (.bool true)) := by
  have HP0 := hide hP
  have HU0 := hide hU
  have HV0 := hide hV
  have HL0 := hide hL
  have HB0 := hide (Below.refl w.heap.size w)
  have HNE := hide hP.he
  have HND := hide hP.hd
  clear hP hU hV hL
  have KH := hide (head_any w)
  have HFL := hide (HP0.out.few_len)
  go_enter Try.func7, Try.ntmps7
  go_wp2_with fail
  refine KH.out.mono ?_
  rintro e9 w1 ⟨rfl, hb⟩
  dsimp only
  have HP1 := hide (HP0.out.below hb)
  have HU1 := hide (HU0.out.below hb)
  have HV1 := hide (HV0.out.below hb)
  have HL1 := hide (HL0.out.below hb)
  have HB1 := hide (bel_trans HB0.out hb)
  clear HP0 HU0 HV0 HL0 HB0
  clear hb KH 
  have KF := hide (HP1.out.few (c := c) (e := e))
  cases hf : few C D E with
  | false =>
    rw [hf] at KF
    clear hf HFL
    go_wp2_with fail
    refine KF.out.mono ?_
    rintro e9 w9 ⟨rfl, rfl⟩
    clear KF
    go_wp2
    go_ret
    exact ⟨rfl, HB1.out⟩
  | true =>
    obtain ⟨l1, l2, l3⟩ := HFL.out hf
    rw [hf] at KF
    clear hf HFL
    by_cases hnu : 20 < nu
    · go_wp2_with fail
      refine KF.out.mono ?_
      rintro e9 w9 ⟨rfl, rfl⟩
      clear KF
      go_wp2
      go_ret
      exact ⟨rfl, HB1.out⟩
    · by_cases hnv : 20 < nv
      · go_wp2_with fail
        refine KF.out.mono ?_
        rintro e9 w9 ⟨rfl, rfl⟩
        clear KF
        go_wp2
        go_ret
        exact ⟨rfl, HB1.out⟩
      · by_cases hnl : 100 < nl
        · go_wp2_with fail
          refine KF.out.mono ?_
          rintro e9 w9 ⟨rfl, rfl⟩
          clear KF
          go_wp2
          go_ret
          exact ⟨rfl, HB1.out⟩
        · go_wp2_with fail
          refine KF.out.mono ?_
          rintro e9 w9 ⟨rfl, rfl⟩
          clear KF
          obtain ⟨bk, be, bps, bus, bvs, n1, n2, n3, m1, m2, m3, hbq⟩ := beq_ex C D E nc n m d c e HND.out HNE.out (by omega) (by omega)
          have HBQ := hide hbq
          obtain ⟨ok, oe, ops, o1, m4, hoq⟩ := oeq_ex C D E nc n m d c e HND.out (by omega)
          have HOQ := hide hoq
          obtain ⟨ge, gps, g1, m5, hgq⟩ := geq_ex C D E nc n m d c e HND.out HNE.out (by omega) (by omega)
          have HGQ := hide hgq
          clear hbq hoq hgq
          have KB := hide ((HBQ.out _ _ _ _ HP1.out).1)
          go_wp2_with fail
          refine KB.out.mono ?_
          rintro e9 wba ⟨AA1, AA2, AA3, ac1, ac2, ac3, rfl, hb0, h1, h2, h3⟩
          have hba := alloc_bel wba (.cells #[.int .i64 (bk), .slice AA1 (n1) ac1, .slice AA2 (n2) ac2, .slice AA3 (n3) ac3] 27)
          have hb := bel_trans hb0 hba
          have HP2 := hide (HP1.out.below hb)
          have HU2 := hide (HU1.out.below hb)
          have HV2 := hide (HV1.out.below hb)
          have HL2 := hide (HL1.out.below hb)
          have HB2 := hide (bel_trans HB1.out hb)
          clear HP1 HU1 HV1 HL1 HB1
          have HaP2 := hide (h1.below hba)
          have HaU2 := hide (h2.below hba)
          have HaV2 := hide (h3.below hba)
          have HaM2 := hide (asg_mem wba (bk) AA1 AA2 AA3 (n1) (n2) (n3) ac1 ac2 ac3)
          clear hb hb0 hba h1 h2 h3 KB
          have KB := hide ((HBQ.out _ _ _ _ HP2.out).2)
          go_wp2_with fail
          generalize wba.alloc (.cells #[.int .i64 (bk), .slice AA1 (n1) ac1, .slice AA2 (n2) ac2, .slice AA3 (n3) ac3] 27) = w2 at *
          generalize wba.heap.size = ga at *
          clear wba
          refine KB.out.mono ?_
          rintro e9 wbb ⟨BA1, BA2, BA3, bc1, bc2, bc3, rfl, hb0, h1, h2, h3⟩
          have hba := alloc_bel wbb (.cells #[.int .i64 (bk), .slice BA1 (n1) bc1, .slice BA2 (n2) bc2, .slice BA3 (n3) bc3] 27)
          have hb := bel_trans hb0 hba
          have HP3 := hide (HP2.out.below hb)
          have HU3 := hide (HU2.out.below hb)
          have HV3 := hide (HV2.out.below hb)
          have HL3 := hide (HL2.out.below hb)
          have HB3 := hide (bel_trans HB2.out hb)
          have HaP3 := hide (HaP2.out.below hb)
          have HaU3 := hide (HaU2.out.below hb)
          have HaV3 := hide (HaV2.out.below hb)
          have HaM3 := hide (show ∀ W, Below (wbb.alloc (.cells #[.int .i64 (bk), .slice BA1 (n1) bc1, .slice BA2 (n2) bc2, .slice BA3 (n3) bc3] 27)).heap.size (wbb.alloc (.cells #[.int .i64 (bk), .slice BA1 (n1) bc1, .slice BA2 (n2) bc2, .slice BA3 (n3) bc3] 27)) W → _ from fun W h => HaM2.out W (bel_trans hb h))
          clear HP2 HU2 HV2 HL2 HB2 HaP2 HaU2 HaV2 HaM2
          have HbP3 := hide (h1.below hba)
          have HbU3 := hide (h2.below hba)
          have HbV3 := hide (h3.below hba)
          have HbM3 := hide (asg_mem wbb (bk) BA1 BA2 BA3 (n1) (n2) (n3) bc1 bc2 bc3)
          clear hb hb0 hba h1 h2 h3 KB
          have KO := hide ((HOQ.out _ _ _ _ HP3.out).1)
          go_wp2_with fail
          generalize wbb.alloc (.cells #[.int .i64 (bk), .slice BA1 (n1) bc1, .slice BA2 (n2) bc2, .slice BA3 (n3) bc3] 27) = w3 at *
          generalize wbb.heap.size = gb at *
          clear wbb
          refine KO.out.mono ?_
          rintro e9 w4 ⟨O1, oc1, rfl, hb, hHO⟩
          dsimp only
          have HP4 := hide (HP3.out.below hb)
          have HU4 := hide (HU3.out.below hb)
          have HV4 := hide (HV3.out.below hb)
          have HL4 := hide (HL3.out.below hb)
          have HB4 := hide (bel_trans HB3.out hb)
          have HaP4 := hide (HaP3.out.below hb)
          have HaU4 := hide (HaU3.out.below hb)
          have HaV4 := hide (HaV3.out.below hb)
          have HaM4 := hide (show ∀ W, Below w4.heap.size w4 W → _ from fun W h => HaM3.out W (bel_trans hb h))
          have HbP4 := hide (HbP3.out.below hb)
          have HbU4 := hide (HbU3.out.below hb)
          have HbV4 := hide (HbV3.out.below hb)
          have HbM4 := hide (show ∀ W, Below w4.heap.size w4 W → _ from fun W h => HbM3.out W (bel_trans hb h))
          clear HP3 HU3 HV3 HL3 HB3 HaP3 HaU3 HaV3 HaM3 HbP3 HbU3 HbV3 HbM3
          have HO4 := hide hHO
          clear hb KO hHO
          have KO := hide ((HOQ.out _ _ _ _ HP4.out).2)
          go_wp2_with fail
          refine KO.out.mono ?_
          rintro e9 w5 ⟨O2, oc2, rfl, hb, hHR⟩
          dsimp only
          have HP5 := hide (HP4.out.below hb)
          have HU5 := hide (HU4.out.below hb)
          have HV5 := hide (HV4.out.below hb)
          have HL5 := hide (HL4.out.below hb)
          have HB5 := hide (bel_trans HB4.out hb)
          have HaP5 := hide (HaP4.out.below hb)
          have HaU5 := hide (HaU4.out.below hb)
          have HaV5 := hide (HaV4.out.below hb)
          have HaM5 := hide (show ∀ W, Below w5.heap.size w5 W → _ from fun W h => HaM4.out W (bel_trans hb h))
          have HbP5 := hide (HbP4.out.below hb)
          have HbU5 := hide (HbU4.out.below hb)
          have HbV5 := hide (HbV4.out.below hb)
          have HbM5 := hide (show ∀ W, Below w5.heap.size w5 W → _ from fun W h => HbM4.out W (bel_trans hb h))
          have HO5 := hide (HO4.out.below hb)
          clear HP4 HU4 HV4 HL4 HB4 HaP4 HaU4 HaV4 HaM4 HbP4 HbU4 HbV4 HbM4 HO4
          have HR5 := hide hHR
          clear hb KO hHR
          have KG := hide ((HGQ.out _ _ _ _ HP5.out).1)
          go_wp2_with fail
          refine KG.out.mono ?_
          rintro e9 w6 ⟨G1, gc1, rfl, hb, hHG⟩
          dsimp only
          have HP6 := hide (HP5.out.below hb)
          have HU6 := hide (HU5.out.below hb)
          have HV6 := hide (HV5.out.below hb)
          have HL6 := hide (HL5.out.below hb)
          have HB6 := hide (bel_trans HB5.out hb)
          have HaP6 := hide (HaP5.out.below hb)
          have HaU6 := hide (HaU5.out.below hb)
          have HaV6 := hide (HaV5.out.below hb)
          have HaM6 := hide (show ∀ W, Below w6.heap.size w6 W → _ from fun W h => HaM5.out W (bel_trans hb h))
          have HbP6 := hide (HbP5.out.below hb)
          have HbU6 := hide (HbU5.out.below hb)
          have HbV6 := hide (HbV5.out.below hb)
          have HbM6 := hide (show ∀ W, Below w6.heap.size w6 W → _ from fun W h => HbM5.out W (bel_trans hb h))
          have HO6 := hide (HO5.out.below hb)
          have HR6 := hide (HR5.out.below hb)
          clear HP5 HU5 HV5 HL5 HB5 HaP5 HaU5 HaV5 HaM5 HbP5 HbU5 HbV5 HbM5 HO5 HR5
          have HG6 := hide hHG
          clear hb KG hHG
          have KG := hide ((HGQ.out _ _ _ _ HP6.out).2)
          go_wp2_with fail
          refine KG.out.mono ?_
          rintro e9 w7 ⟨G2, gc2, rfl, hb, hHH⟩
          dsimp only
          have HP7 := hide (HP6.out.below hb)
          have HU7 := hide (HU6.out.below hb)
          have HV7 := hide (HV6.out.below hb)
          have HL7 := hide (HL6.out.below hb)
          have HB7 := hide (bel_trans HB6.out hb)
          have HaP7 := hide (HaP6.out.below hb)
          have HaU7 := hide (HaU6.out.below hb)
          have HaV7 := hide (HaV6.out.below hb)
          have HaM7 := hide (show ∀ W, Below w7.heap.size w7 W → _ from fun W h => HaM6.out W (bel_trans hb h))
          have HbP7 := hide (HbP6.out.below hb)
          have HbU7 := hide (HbU6.out.below hb)
          have HbV7 := hide (HbV6.out.below hb)
          have HbM7 := hide (show ∀ W, Below w7.heap.size w7 W → _ from fun W h => HbM6.out W (bel_trans hb h))
          have HO7 := hide (HO6.out.below hb)
          have HR7 := hide (HR6.out.below hb)
          have HG7 := hide (HG6.out.below hb)
          clear HP6 HU6 HV6 HL6 HB6 HaP6 HaU6 HaV6 HaM6 HbP6 HbU6 HbV6 HbM6 HO6 HR6 HG6
          have HH7 := hide hHH
          clear hb KG hHH
          obtain ⟨aq0, aq1, aq2, aq3⟩ := HaM7.out _ (Below.refl _ _)
          obtain ⟨bq0, bq1, bq2, bq3⟩ := HbM7.out _ (Below.refl _ _)
          have KS := hide (sameN (k := bk) (c1 := ac1) (c2 := ac2) (c3 := ac3) (d1 := bc1) (d2 := bc2) (d3 := bc3) HaP7.out HaU7.out HaV7.out HbP7.out HbU7.out HbV7.out m1 m2 m3)
          go_wp2_with fail
          refine KS.out.mono ?_
          rintro e9 w8 ⟨rfl, hb⟩
          dsimp only
          clear aq0 aq1 aq2 aq3 bq0 bq1 bq2 bq3
          have HP8 := hide (HP7.out.below hb)
          have HU8 := hide (HU7.out.below hb)
          have HV8 := hide (HV7.out.below hb)
          have HL8 := hide (HL7.out.below hb)
          have HB8 := hide (bel_trans HB7.out hb)
          have HaP8 := hide (HaP7.out.below hb)
          have HaU8 := hide (HaU7.out.below hb)
          have HaV8 := hide (HaV7.out.below hb)
          have HaM8 := hide (show ∀ W, Below w8.heap.size w8 W → _ from fun W h => HaM7.out W (bel_trans hb h))
          have HbP8 := hide (HbP7.out.below hb)
          have HbU8 := hide (HbU7.out.below hb)
          have HbV8 := hide (HbV7.out.below hb)
          have HbM8 := hide (show ∀ W, Below w8.heap.size w8 W → _ from fun W h => HbM7.out W (bel_trans hb h))
          have HO8 := hide (HO7.out.below hb)
          have HR8 := hide (HR7.out.below hb)
          have HG8 := hide (HG7.out.below hb)
          have HH8 := hide (HH7.out.below hb)
          clear HP7 HU7 HV7 HL7 HB7 HaP7 HaU7 HaV7 HaM7 HbP7 HbU7 HbV7 HbM7 HO7 HR7 HG7 HH7
          clear hb KS 
          have KI := hide (intsN (u := oc1) (v := oc2) HO8.out HR8.out m4)
          rw [decide_eq_true rfl] at KI
          go_wp2_with fail
          refine KI.out.mono ?_
          rintro e9 w9 ⟨rfl, hb⟩
          dsimp only
          have HP9 := hide (HP8.out.below hb)
          have HU9 := hide (HU8.out.below hb)
          have HV9 := hide (HV8.out.below hb)
          have HL9 := hide (HL8.out.below hb)
          have HB9 := hide (bel_trans HB8.out hb)
          have HaP9 := hide (HaP8.out.below hb)
          have HaU9 := hide (HaU8.out.below hb)
          have HaV9 := hide (HaV8.out.below hb)
          have HaM9 := hide (show ∀ W, Below w9.heap.size w9 W → _ from fun W h => HaM8.out W (bel_trans hb h))
          have HbP9 := hide (HbP8.out.below hb)
          have HbU9 := hide (HbU8.out.below hb)
          have HbV9 := hide (HbV8.out.below hb)
          have HbM9 := hide (show ∀ W, Below w9.heap.size w9 W → _ from fun W h => HbM8.out W (bel_trans hb h))
          have HO9 := hide (HO8.out.below hb)
          have HR9 := hide (HR8.out.below hb)
          have HG9 := hide (HG8.out.below hb)
          have HH9 := hide (HH8.out.below hb)
          clear HP8 HU8 HV8 HL8 HB8 HaP8 HaU8 HaV8 HaM8 HbP8 HbU8 HbV8 HbM8 HO8 HR8 HG8 HH8
          clear hb KI 
          have KI := hide (intsN (u := gc1) (v := gc2) HG9.out HH9.out m5)
          rw [decide_eq_true rfl] at KI
          go_wp2_with fail
          refine KI.out.mono ?_
          rintro e9 w10 ⟨rfl, hb⟩
          dsimp only
          have HP10 := hide (HP9.out.below hb)
          have HU10 := hide (HU9.out.below hb)
          have HV10 := hide (HV9.out.below hb)
          have HL10 := hide (HL9.out.below hb)
          have HB10 := hide (bel_trans HB9.out hb)
          have HaP10 := hide (HaP9.out.below hb)
          have HaU10 := hide (HaU9.out.below hb)
          have HaV10 := hide (HaV9.out.below hb)
          have HaM10 := hide (show ∀ W, Below w10.heap.size w10 W → _ from fun W h => HaM9.out W (bel_trans hb h))
          have HbP10 := hide (HbP9.out.below hb)
          have HbU10 := hide (HbU9.out.below hb)
          have HbV10 := hide (HbV9.out.below hb)
          have HbM10 := hide (show ∀ W, Below w10.heap.size w10 W → _ from fun W h => HbM9.out W (bel_trans hb h))
          have HO10 := hide (HO9.out.below hb)
          have HR10 := hide (HR9.out.below hb)
          have HG10 := hide (HG9.out.below hb)
          have HH10 := hide (HH9.out.below hb)
          clear HP9 HU9 HV9 HL9 HB9 HaP9 HaU9 HaV9 HaM9 HbP9 HbU9 HbV9 HbM9 HO9 HR9 HG9 HH9
          clear hb KI 
          have KCbound := hide (HP10.out.bound (c := c) (e := e) (u := u) (v := v) HU10.out HV10.out)

          generalize hx : bnd C D E U V = x at KCbound
          have HX := hide hx
          clear hx
          obtain ⟨x, okx⟩ := x
          go_wp2_with fail
          refine KCbound.out.mono ?_
          rintro e9 w11 ⟨rfl, hb⟩
          dsimp only
          have HP11 := hide (HP10.out.below hb)
          have HU11 := hide (HU10.out.below hb)
          have HV11 := hide (HV10.out.below hb)
          have HL11 := hide (HL10.out.below hb)
          have HB11 := hide (bel_trans HB10.out hb)
          have HaP11 := hide (HaP10.out.below hb)
          have HaU11 := hide (HaU10.out.below hb)
          have HaV11 := hide (HaV10.out.below hb)
          have HaM11 := hide (show ∀ W, Below w11.heap.size w11 W → _ from fun W h => HaM10.out W (bel_trans hb h))
          have HbP11 := hide (HbP10.out.below hb)
          have HbU11 := hide (HbU10.out.below hb)
          have HbV11 := hide (HbV10.out.below hb)
          have HbM11 := hide (show ∀ W, Below w11.heap.size w11 W → _ from fun W h => HbM10.out W (bel_trans hb h))
          have HO11 := hide (HO10.out.below hb)
          have HR11 := hide (HR10.out.below hb)
          have HG11 := hide (HG10.out.below hb)
          have HH11 := hide (HH10.out.below hb)
          clear HP10 HU10 HV10 HL10 HB10 HaP10 HaU10 HaV10 HaM10 HbP10 HbU10 HbV10 HbM10 HO10 HR10 HG10 HH10
          clear hb KCbound 
          have KCrbound := hide (HP11.out.rbound (c := c) (e := e) (u := u) (v := v) HU11.out HV11.out)

          rw [HX.out] at KCrbound
          go_wp2_with fail
          refine KCrbound.out.mono ?_
          rintro e9 w12 ⟨rfl, hb⟩
          dsimp only
          have HP12 := hide (HP11.out.below hb)
          have HU12 := hide (HU11.out.below hb)
          have HV12 := hide (HV11.out.below hb)
          have HL12 := hide (HL11.out.below hb)
          have HB12 := hide (bel_trans HB11.out hb)
          have HaP12 := hide (HaP11.out.below hb)
          have HaU12 := hide (HaU11.out.below hb)
          have HaV12 := hide (HaV11.out.below hb)
          have HaM12 := hide (show ∀ W, Below w12.heap.size w12 W → _ from fun W h => HaM11.out W (bel_trans hb h))
          have HbP12 := hide (HbP11.out.below hb)
          have HbU12 := hide (HbU11.out.below hb)
          have HbV12 := hide (HbV11.out.below hb)
          have HbM12 := hide (show ∀ W, Below w12.heap.size w12 W → _ from fun W h => HbM11.out W (bel_trans hb h))
          have HO12 := hide (HO11.out.below hb)
          have HR12 := hide (HR11.out.below hb)
          have HG12 := hide (HG11.out.below hb)
          have HH12 := hide (HH11.out.below hb)
          clear HP11 HU11 HV11 HL11 HB11 HaP11 HaU11 HaV11 HaM11 HbP11 HbU11 HbV11 HbM11 HO11 HR11 HG11 HH11
          clear hb KCrbound 
          have KCgbound := hide (HP12.out.gbound (c := c) (e := e) (cl := l) HL12.out (by omega) (by omega) (by omega))
          generalize hy : gbnd C D E L = y at KCgbound
          have HY := hide hy
          clear hy
          obtain ⟨y, oky⟩ := y
          go_wp2_with fail
          refine KCgbound.out.mono ?_
          rintro e9 w13 ⟨rfl, hb⟩
          dsimp only
          have HP13 := hide (HP12.out.below hb)
          have HU13 := hide (HU12.out.below hb)
          have HV13 := hide (HV12.out.below hb)
          have HL13 := hide (HL12.out.below hb)
          have HB13 := hide (bel_trans HB12.out hb)
          have HaP13 := hide (HaP12.out.below hb)
          have HaU13 := hide (HaU12.out.below hb)
          have HaV13 := hide (HaV12.out.below hb)
          have HaM13 := hide (show ∀ W, Below w13.heap.size w13 W → _ from fun W h => HaM12.out W (bel_trans hb h))
          have HbP13 := hide (HbP12.out.below hb)
          have HbU13 := hide (HbU12.out.below hb)
          have HbV13 := hide (HbV12.out.below hb)
          have HbM13 := hide (show ∀ W, Below w13.heap.size w13 W → _ from fun W h => HbM12.out W (bel_trans hb h))
          have HO13 := hide (HO12.out.below hb)
          have HR13 := hide (HR12.out.below hb)
          have HG13 := hide (HG12.out.below hb)
          have HH13 := hide (HH12.out.below hb)
          clear HP12 HU12 HV12 HL12 HB12 HaP12 HaU12 HaV12 HaM12 HbP12 HbU12 HbV12 HbM12 HO12 HR12 HG12 HH12
          clear hb KCgbound 
          have KCrgbound := hide (HP13.out.rgbound (c := c) (e := e) (cl := l) HL13.out (by omega))
          rw [HY.out] at KCrgbound
          go_wp2_with fail
          refine KCrgbound.out.mono ?_
          rintro e9 w14 ⟨rfl, hb⟩
          dsimp only
          have HP14 := hide (HP13.out.below hb)
          have HU14 := hide (HU13.out.below hb)
          have HV14 := hide (HV13.out.below hb)
          have HL14 := hide (HL13.out.below hb)
          have HB14 := hide (bel_trans HB13.out hb)
          have HaP14 := hide (HaP13.out.below hb)
          have HaU14 := hide (HaU13.out.below hb)
          have HaV14 := hide (HaV13.out.below hb)
          have HaM14 := hide (show ∀ W, Below w14.heap.size w14 W → _ from fun W h => HaM13.out W (bel_trans hb h))
          have HbP14 := hide (HbP13.out.below hb)
          have HbU14 := hide (HbU13.out.below hb)
          have HbV14 := hide (HbV13.out.below hb)
          have HbM14 := hide (show ∀ W, Below w14.heap.size w14 W → _ from fun W h => HbM13.out W (bel_trans hb h))
          have HO14 := hide (HO13.out.below hb)
          have HR14 := hide (HR13.out.below hb)
          have HG14 := hide (HG13.out.below hb)
          have HH14 := hide (HH13.out.below hb)
          clear HP13 HU13 HV13 HL13 HB13 HaP13 HaU13 HaV13 HaM13 HbP13 HbU13 HbV13 HbM13 HO13 HR13 HG13 HH13
          clear hb KCrgbound 
          go_wp2
          go_ret
          exact ⟨rfl, HB14.out⟩
end Go.Proofs.Ytalbhghigdanlaa
namespace Go.Proofs.Ytalbhghigdanlaa
open Go.ChangeShapes Go.WideShapes Go.ChangeAt Go.RowKit Go.CH Go.CH.Asg Go.Deep
section
variable {H : Type} {enc : TypeId × Value → H} {w : World}
theorem each_num : ∀ m cs y, DataW.trod enc Try.prog w 0 (fun _ => true) true m 3 cs = some y → ∃ x : Int, cs = [.int .i64 x] ∧ True := by
  intro m cs y h
  obtain ⟨s, h1, _⟩ := DataW.trod_int Try.underlying3 h
  exact ⟨s, h1, trivial⟩
theorem flat_ints (l : List Int) : l.flatMap (fun x : Int => [Value.int .i64 x]) = ints l := by
  induction l with
  | nil => rfl
  | cons a l ih => simp [ints] at ih ⊢; exact ih
theorem open23 {A : Option Addr} {n c : Nat} {d : DataW H} {ps : List MemPlace} (h : DataW.Trod enc Try.prog w 0 (fun _ => true) true 23 (.slice A n c) d ps) : ∃ l : List Int, VecN w A l n ∧ n ≤ c ∧ c ≤ maxLen := by
  obtain ⟨xs, h1, h2, h3, h4, h5⟩ := open_src (size := 1) (fun x : Int => [Value.int .i64 x]) (fun x => True) Try.underlying23 (by kernel_rfl) (by decide) each_num (fun x _ u hu => by simp at hu; subst hu; rfl) h
  subst h1
  rw [flat_ints] at h2
  exact ⟨xs, ⟨h2, rfl⟩, h4, h5⟩
def rowL (x : List Int × Option Addr × Nat) : List Value := [.slice x.2.1 x.1.length x.2.2]
theorem each_row : ∀ m cs y, DataW.trod enc Try.prog w 0 (fun _ => true) true m 23 cs = some y → ∃ x : List Int × Option Addr × Nat, cs = rowL x ∧ (Vec w x.2.1 x.1 ∧ x.1.length ≤ x.2.2) := by
  intro m cs y h
  have hv : ∃ A n c, cs = [.slice A n c] := by
    rcases open_slice Try.underlying23 h with ⟨h0, _⟩ | ⟨a, len, cap, _, _, _, _, hv, _⟩
    · exact ⟨none, 0, 0, h0⟩
    · exact ⟨some a, len, cap, hv⟩
  obtain ⟨A, n, c, rfl⟩ := hv
  obtain ⟨l, h1, h2, h3⟩ := open23 (d := y.1) (ps := y.2) ⟨m, by simpa [Value.cells] using h⟩
  obtain ⟨hv, rfl⟩ := h1
  exact ⟨(l, A, c), rfl, hv, h2⟩
theorem open22 {A : Option Addr} {n c : Nat} {d : DataW H} {ps : List MemPlace} (h : DataW.Trod enc Try.prog w 0 (fun _ => true) true 22 (.slice A n c) d ps) : ∃ C : List (List Int), (∃ V, Mat w A C V) ∧ C.length = n ∧ n ≤ maxLen := by
  obtain ⟨xs, h1, h2, h3, h4, h5⟩ := open_src (size := 1) rowL (fun x => Vec w x.2.1 x.1 ∧ x.1.length ≤ x.2.2) Try.underlying22 (by kernel_rfl) (by decide) each_row (fun x _ u hu => by simp [rowL] at hu; subst hu; rfl) h
  subst h1
  refine ⟨xs.map (·.1), ⟨xs.map (·.2), ⟨by simp, ?_, ?_⟩⟩, by simp, by omega⟩
  · have e : (xs.map (·.2)).mapIdx (fun i x => Value.slice x.1 ((xs.map (·.1)).getD i []).length x.2) = xs.flatMap rowL := by
      have e1 : xs.flatMap rowL = xs.map (fun x => Value.slice x.2.1 x.1.length x.2.2) := by
        have : ∀ l : List (List Int × Option Addr × Nat), l.flatMap rowL = l.map (fun x => Value.slice x.2.1 x.1.length x.2.2) := fun l => by induction l with
          | nil => rfl
          | cons a l ih => simp [rowL] at ih ⊢; exact ih
        exact this xs
      rw [e1]
      apply List.ext_getElem?
      intro i
      rw [List.getElem?_mapIdx, List.getElem?_map, List.getElem?_map]
      cases hx : xs[i]? with
      | none => rfl
      | some x => simp [List.getD_eq_getElem?_getD, hx]
    rw [e, List.length_map]; exact h2
  · intro i hi x hx
    rw [List.getElem?_map] at hx
    have hi' : i < xs.length := by simpa using hi
    rw [List.getElem?_eq_getElem hi'] at hx
    simp at hx
    subst hx
    rw [List.getElem_map]
    exact (h3 _ (List.getElem_mem hi')).1
theorem px_of {A B G : Option Addr} {C : List (List Int)} {D E : List Int} {nc n m d : Nat} (h : (∃ V, Mat w A C V) ∧ C.length = nc ∧ nc ≤ maxLen) (hD : VecN w B D n ∧ n ≤ d ∧ d ≤ maxLen) (hE : VecN w G E m) : PX w A B G C D E nc n m d :=
  ⟨h.1, by rw [h.2.1]; exact h.2.2, hD.1.v, hE.v, by rw [hD.1.n]; exact hD.2.1, h.2.1, hD.1.n, hE.n⟩
theorem of_wf_u16 {n : Int} (h : (Lit.int .u16 n).wf = true) : 0 ≤ n ∧ n ≤ 65535 := of_wf h
end
end Go.Proofs.Ytalbhghigdanlaa
