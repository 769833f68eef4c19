/-
  Assign: sums, assignments of rows to columns, their costs; exchange between an assignment and one with a row twice; potentials.
  Assign: the least cost from a row on, the first of the cheapest lists of pairs; lists of pairs and assignments.
-/

set_option linter.unusedSimpArgs false
set_option linter.unusedVariables false
namespace Go.CH.Asg

/-- The sum of the first n values. -/
def sg : Nat → (Nat → Int) → Int
  | 0, _ => 0
  | n + 1, f => sg n f + f n
section
variable {n m : Nat} {f g : Nat → Int}
theorem sg_zero0 : sg 0 f = 0 := rfl
theorem sg_succ : sg (n + 1) f = sg n f + f n := rfl
theorem sg_congr (h : ∀ i, i < n → f i = g i) : sg n f = sg n g := by
  induction n with
  | zero => rfl
  | succ n ih => rw [sg_succ, sg_succ, ih (fun i hi => h i (by omega)), h n (by omega)]
theorem sg_le (h : ∀ i, i < n → f i ≤ g i) : sg n f ≤ sg n g := by
  induction n with
  | zero => exact Int.le_refl _
  | succ n ih => rw [sg_succ, sg_succ]; have := ih (fun i hi => h i (by omega)); have := h n (by omega); omega
theorem sg_add (f g : Nat → Int) : sg n (fun i => f i + g i) = sg n f + sg n g := by
  induction n with
  | zero => rfl
  | succ n ih => rw [sg_succ, sg_succ, sg_succ, ih]; omega
theorem sg_sub (f g : Nat → Int) : sg n (fun i => f i - g i) = sg n f - sg n g := by
  induction n with
  | zero => rfl
  | succ n ih => rw [sg_succ, sg_succ, sg_succ, ih]; omega
theorem sg_nil (n : Nat) : sg n (fun _ => 0) = 0 := by
  induction n with
  | zero => rfl
  | succ n ih => rw [sg_succ, ih]; rfl
theorem sg_eq0 (h : ∀ i, i < n → f i = 0) : sg n f = 0 := by rw [sg_congr h, sg_nil]
theorem sg_nonneg (h : ∀ i, i < n → 0 ≤ f i) : 0 ≤ sg n f := by have := sg_le (f := fun _ => 0) h; rw [sg_nil] at this; exact this
theorem sg_swap (f : Nat → Nat → Int) : sg n (fun i => sg m (fun j => f i j)) = sg m (fun j => sg n (fun i => f i j)) := by
  induction n with
  | zero => exact (sg_nil m).symm
  | succ n ih => rw [sg_succ, ih, ← sg_add]; rfl
theorem sg_upd {k : Nat} (hk : k < n) (h : ∀ i, i < n → i ≠ k → f i = g i) : sg n f = sg n g + (f k - g k) := by
  induction n with
  | zero => omega
  | succ n ih =>
    rw [sg_succ, sg_succ]
    by_cases e : k = n
    · subst e; rw [sg_congr (g := g) (fun i hi => h i (by omega) (by omega))]; omega
    · rw [ih (by omega) (fun i hi hne => h i (by omega) hne), h n (by omega) (by omega)]; omega
theorem sg_one {k : Nat} (hk : k < n) : sg n (fun i => if i = k then f i else 0) = f k := by
  rw [sg_upd (g := fun _ => 0) hk (fun i _ hne => by simp [hne]), sg_nil]; simp
theorem sg_ext {k : Nat} : sg (n + k) f = sg n f + sg k (fun i => f (n + i)) := by
  induction k with
  | zero => simp [sg]
  | succ k ih => rw [← Nat.add_assoc, sg_succ, sg_succ, ih]; omega
theorem sg_front : sg (n + 1) f = f 0 + sg n (fun i => f (i + 1)) := by
  rw [Nat.add_comm, sg_ext]
  simp only [sg_succ, sg_zero0, Int.zero_add]
  congr 1
  exact sg_congr (fun i _ => by rw [Nat.add_comm])
end

/-- P pairs n rows with columns below m (m: with none), no column twice. -/
structure Asg (n m : Nat) (P : Nat → Nat) : Prop where
  le : ∀ i, i < n → P i ≤ m
  inj : ∀ i j, i < n → j < n → P i = P j → P i < m → i = j
def used (P : Nat → Nat) : Nat → Nat → Bool
  | 0, _ => false
  | n + 1, j => used P n j || P n == j
theorem used_iff {P : Nat → Nat} {n j : Nat} : used P n j = true ↔ ∃ i, i < n ∧ P i = j := by
  induction n with
  | zero => simp [used]
  | succ n ih =>
    simp only [used, Bool.or_eq_true, beq_iff_eq, ih]
    constructor
    · rintro (⟨i, h1, h2⟩ | h)
      · exact ⟨i, by omega, h2⟩
      · exact ⟨n, by omega, h⟩
    · rintro ⟨i, h1, h2⟩
      by_cases e : i = n
      · subst e; exact .inr h2
      · exact .inl ⟨i, by omega, h2⟩
theorem used_not {P : Nat → Nat} {n j : Nat} : used P n j = false ↔ ∀ i, i < n → P i ≠ j := by
  rw [← Bool.not_eq_true, used_iff]
  exact ⟨fun h i hi e => h ⟨i, hi, e⟩, fun h ⟨i, hi, e⟩ => h i hi e⟩
section
variable {n m : Nat} {P Q : Nat → Nat}
theorem Asg.low (h : Asg n m P) {k : Nat} (hk : k ≤ n) : Asg k m P := ⟨fun i hi => h.le i (by omega), fun i j hi hj => h.inj i j (by omega) (by omega)⟩
/-- A sum over the paired columns is one over the paired rows. -/
theorem col (h : Asg n m P) (f : Nat → Int) : sg n (fun i => if P i < m then f (P i) else 0) = sg m (fun j => if used P n j then f j else 0) := by
  induction n with
  | zero => exact (sg_nil m).symm
  | succ n ih =>
    rw [sg_succ, ih (h.low (by omega))]
    by_cases hp : P n < m
    · rw [if_pos hp]
      have hu : used P n (P n) = false := used_not.2 fun i hi e => by have := h.inj i n (by omega) (by omega) e (by omega); omega
      rw [sg_upd (f := fun j => if used P (n + 1) j then f j else 0) (g := fun j => if used P n j then f j else 0) hp ?_]
      · simp only [used, hu, beq_self_eq_true, Bool.or_true]; simp
      · intro j _ hne
        have : (P n == j) = false := by simp; omega
        simp only [used, this, Bool.or_false]
    · rw [if_neg hp, Int.add_zero]
      refine sg_congr fun j hj => ?_
      have : (P n == j) = false := by simp; omega
      simp only [used, this, Bool.or_false]
end

/-- The cost of an assignment. -/
def cost (c : Nat → Nat → Int) (d e : Nat → Int) (n m : Nat) (P : Nat → Nat) : Int :=
  sg n (fun i => if P i < m then c i (P i) else d i) + sg m (fun j => if used P n j then 0 else e j)
/-- What pairing a row so costs beyond the sum of all e. -/
def wt (c : Nat → Nat → Int) (d e : Nat → Int) (m : Nat) (i k : Nat) : Int := if k < m then c i k - e k else d i
def tot (w : Nat → Nat → Int) (n : Nat) (P : Nat → Nat) : Int := sg n (fun i => w i (P i))
section
variable {n m : Nat} {P Q : Nat → Nat} {c : Nat → Nat → Int} {d e : Nat → Int}
theorem cost_tot (h : Asg n m P) : cost c d e n m P = sg m e + tot (wt c d e m) n P := by
  have h1 := col h e
  have h2 : sg m (fun j => if used P n j then 0 else e j) = sg m e - sg m (fun j => if used P n j then e j else 0) := by
    rw [← sg_sub]; refine sg_congr fun j _ => ?_; cases used P n j <;> simp
  have h3 : tot (wt c d e m) n P = sg n (fun i => if P i < m then c i (P i) else d i) - sg n (fun i => if P i < m then e (P i) else 0) := by
    unfold tot; rw [← sg_sub]; refine sg_congr fun i _ => ?_; unfold wt; split <;> simp
  unfold cost
  rw [h2, h3, h1]; omega
/-- v is the least cost. -/
structure Opt (c : Nat → Nat → Int) (d e : Nat → Int) (n m : Nat) (v : Int) : Prop where
  has : ∃ P, Asg n m P ∧ cost c d e n m P = v
  low : ∀ P, Asg n m P → v ≤ cost c d e n m P
theorem Opt.uniq {v u : Int} (h : Opt c d e n m v) (g : Opt c d e n m u) : v = u := by
  obtain ⟨P, h1, h2⟩ := h.has
  obtain ⟨Q, g1, g2⟩ := g.has
  have := h.low Q g1; have := g.low P h1; omega
end

/-! ### Exchange -/
/-- The row that P pairs with Q's column of s. -/
def pv (n m : Nat) (P Q : Nat → Nat) (s : Nat) : Option Nat := if Q s < m then (List.range n).find? (fun r => P r == Q s) else none
/-- The rows that are met from row n on. -/
def orb (n m : Nat) (P Q : Nat → Nat) : Nat → Option Nat
  | 0 => some n
  | k + 1 => (orb n m P Q k).bind (pv n m P Q)
section
variable {n m : Nat} {P Q : Nat → Nat}
theorem pv_some {s r : Nat} (h : pv n m P Q s = some r) : Q s < m ∧ r < n ∧ P r = Q s := by
  unfold pv at h
  split at h
  · rename_i h1
    have h2 := List.mem_of_find?_eq_some h
    have h3 := List.find?_some h
    exact ⟨h1, List.mem_range.1 h2, by simpa using h3⟩
  · cases h
theorem pv_of (hP : Asg n m P) {s r : Nat} (h1 : Q s < m) (h2 : r < n) (h3 : P r = Q s) : pv n m P Q s = some r := by
  cases e : pv n m P Q s with
  | none =>
    unfold pv at e; rw [if_pos h1, List.find?_eq_none] at e
    exact absurd h3 (by simpa using e r (List.mem_range.2 h2))
  | some r' =>
    obtain ⟨_, h5, h6⟩ := pv_some e
    rw [hP.inj r' r h5 h2 (h6.trans h3.symm) (by omega)]
theorem orb_prev {k s : Nat} (h : orb n m P Q k = some s) (hs : s ≠ n) : ∃ j r, k = j + 1 ∧ orb n m P Q j = some r ∧ Q r < m ∧ s < n ∧ P s = Q r := by
  cases k with
  | zero => injection h with h; exact absurd h.symm hs
  | succ j =>
    simp only [orb, Option.bind_eq_some_iff] at h
    obtain ⟨r, h1, h2⟩ := h
    exact ⟨j, r, rfl, h1, pv_some h2⟩
theorem orb_next (hP : Asg n m P) {k s r : Nat} (h : orb n m P Q k = some s) (h1 : Q s < m) (h2 : r < n) (h3 : P r = Q s) : orb n m P Q (k + 1) = some r := by
  simp only [orb, h]; exact pv_of hP h1 h2 h3
/-- Where row i is twice (i and n), there is an assignment as cheap as Q that pairs i as P does, if P is the cheapest without row n. -/
theorem exch {w : Nat → Nat → Int} {i : Nat} (hi : i < n) (hw : ∀ k, k ≤ m → w n k = w i k) (hP : Asg n m P) (hQ : Asg (n + 1) m Q) (hO : ∀ R, Asg n m R → tot w n P ≤ tot w n R) :
    ∃ R, Asg (n + 1) m R ∧ R i = P i ∧ tot w (n + 1) R ≤ tot w (n + 1) Q := by
  by_cases hA : ∃ k, orb n m P Q k = some i
  · -- the rows met come to i: the least such k
    have hL : ∃ k, orb n m P Q k = some i ∧ ∀ j, j < k → orb n m P Q j ≠ some i := by
      obtain ⟨k, hk⟩ := hA
      induction k using Nat.strongRecOn with
      | _ k ih =>
        by_cases hj : ∃ j, j < k ∧ orb n m P Q j = some i
        · obtain ⟨j, h1, h2⟩ := hj; exact ih j h1 h2
        · exact ⟨k, hk, fun j h1 h2 => hj ⟨j, h1, h2⟩⟩
    obtain ⟨k, hk, hmin⟩ := hL
    classical
    let S : Nat → Prop := fun s => ∃ j, j ≤ k ∧ orb n m P Q j = some s
    have hSn : S n := ⟨0, by omega, rfl⟩
    have hSi : S i := ⟨k, by omega, hk⟩
    have hk0 : 0 < k := by
      cases k with
      | zero => injection hk with hk; omega
      | succ k => omega
    have prev : ∀ s, S s → s ≠ n → ∃ r, S r ∧ r ≠ i ∧ Q r < m ∧ s < n ∧ P s = Q r := by
      rintro s ⟨j, hj, hs⟩ hne
      obtain ⟨j', r, rfl, h1, h2, h3, h4⟩ := orb_prev hs hne
      exact ⟨r, ⟨j', by omega, h1⟩, fun e => hmin j' (by omega) (e ▸ h1), h2, h3, h4⟩
    have next : ∀ s r, S s → s ≠ i → Q s < m → r < n → P r = Q s → S r := by
      rintro s r ⟨j, hj, hs⟩ hne h1 h2 h3
      have : j ≠ k := fun e => by subst e; rw [hk] at hs; injection hs with hs; exact hne hs.symm
      exact ⟨j + 1, by omega, orb_next hP hs h1 h2 h3⟩
    let P' : Nat → Nat := fun r => if r = i then Q n else if S r then Q r else P r
    let Q' : Nat → Nat := fun r => if r = n then Q i else if S r then P r else Q r
    have hP' : Asg n m P' := by
      constructor
      · intro r hr
        simp only [P']
        split
        · exact hQ.le n (by omega)
        · split
          · exact hQ.le r (by omega)
          · exact hP.le r hr
      · -- two rows with one column
        have key : ∀ a b, a < n → b < n → P' a = P' b → P' a < m → (a = i ∨ S a) → b = a := by
          intro a b ha hb he hm hSa
          -- the row whose Q is meant
          have h1 : ∃ s, S s ∧ s ≠ i ∧ P' a = Q s ∧ (s = n ↔ a = i) ∧ (a ≠ i → s = a) := by
            by_cases e : a = i
            · exact ⟨n, hSn, by omega, by simp [P', e], by simp [e], fun h => absurd e h⟩
            · have : S a := hSa.resolve_left e
              exact ⟨a, this, e, by simp [P', e, this], by constructor <;> intro h <;> omega, fun _ => rfl⟩
          obtain ⟨s, h2, h3, h4, h5, h6⟩ := h1
          have hsn : s ≤ n := by obtain ⟨j, _, hs⟩ := h2; by_cases e : s = n; omega; obtain ⟨_, _, _, _, _, h, _⟩ := orb_prev hs e; omega
          by_cases eb : b = i
          · have h7 : P' b = Q n := by simp [P', eb]
            have := hQ.inj s n (by omega) (by omega) (by omega) (by omega)
            rw [eb]; exact (h5.1 this).symm
          · by_cases hSb : S b
            · have h7 : P' b = Q b := by simp [P', eb, hSb]
              have h8 := hQ.inj s b (by omega) (by omega) (by omega) (by omega)
              by_cases ea : a = i
              · have := h5.2 ea; omega
              · rw [← h8, h6 ea]
            · have h7 : P' b = P b := by simp [P', eb, hSb]
              exact absurd (next s b h2 h3 (by omega) hb (by omega)) hSb
        intro a b ha hb he hm
        by_cases hSa : a = i ∨ S a
        · exact (key a b ha hb he hm hSa).symm
        · by_cases hSb : b = i ∨ S b
          · exact key b a hb ha he.symm (he ▸ hm) hSb
          · have ea : P' a = P a := by simp only [P', if_neg (fun h => hSa (.inl h)), if_neg (fun h => hSa (.inr h))]
            have eb : P' b = P b := by simp only [P', if_neg (fun h => hSb (.inl h)), if_neg (fun h => hSb (.inr h))]
            exact hP.inj a b ha hb (by omega) (by omega)
    have hQ' : Asg (n + 1) m Q' := by
      constructor
      · intro r hr
        simp only [Q']
        split
        · exact hQ.le i (by omega)
        · split
          · rename_i h1 h2; exact hP.le r (by omega)
          · exact hQ.le r hr
      · -- each row of the set has the column of another one of the set
        have src : ∀ a, a < n + 1 → (a = n ∨ S a) → ∃ s, S s ∧ s < n + 1 ∧ Q' a = Q s ∧ (a = n ↔ s = i) ∧ (a ≠ n → P a = Q s) := by
          intro a ha h
          by_cases e : a = n
          · exact ⟨i, hSi, by omega, by simp [Q', e], by simp [e], fun h => absurd e h⟩
          · have hS : S a := h.resolve_left e
            obtain ⟨r, h1, h2, h3, h4, h5⟩ := prev a hS e
            have hrn : r ≤ n := by obtain ⟨j, _, hs⟩ := h1; by_cases e : r = n; omega; obtain ⟨_, _, _, _, _, h, _⟩ := orb_prev hs e; omega
            exact ⟨r, h1, by omega, by simp [Q', e, hS, h5], by simp [e, h2], fun _ => h5⟩
        have key : ∀ a b, a < n + 1 → b < n + 1 → Q' a = Q' b → Q' a < m → (a = n ∨ S a) → b = a := by
          intro a b ha hb he hm hSa
          obtain ⟨s, h1, h2, h3, h4, h5⟩ := src a ha hSa
          by_cases hSb : b = n ∨ S b
          · obtain ⟨t, g1, g2, g3, g4, g5⟩ := src b hb hSb
            have hst := hQ.inj s t h2 g2 (by omega) (by omega)
            by_cases ea : a = n
            · have := g4.2 (by rw [← hst]; exact h4.1 ea); omega
            · by_cases eb : b = n
              · have := h4.2 (by rw [hst]; exact g4.1 eb); omega
              · exact (hP.inj a b (by omega) (by omega) (by rw [h5 ea, g5 eb, hst]) (by rw [h5 ea]; omega)).symm
          · have eb : Q' b = Q b := by simp only [Q', if_neg (fun h => hSb (.inl h)), if_neg (fun h => hSb (.inr h))]
            have := hQ.inj s b h2 hb (by omega) (by omega)
            exact absurd (this ▸ h1) (fun h => hSb (.inr h))
        intro a b ha hb he hm
        by_cases hSa : a = n ∨ S a
        · exact (key a b ha hb he hm hSa).symm
        · by_cases hSb : b = n ∨ S b
          · exact key b a hb ha he.symm (he ▸ hm) hSb
          · have ea : Q' a = Q a := by simp only [Q', if_neg (fun h => hSa (.inl h)), if_neg (fun h => hSa (.inr h))]
            have eb : Q' b = Q b := by simp only [Q', if_neg (fun h => hSb (.inl h)), if_neg (fun h => hSb (.inr h))]
            exact hQ.inj a b ha hb (by omega) (by omega)
    refine ⟨Q', hQ', ?_, ?_⟩
    · have : i ≠ n := by omega
      simp [Q', this, hSi]
    · have hsum : tot w n P' + tot w (n + 1) Q' = tot w n P + tot w (n + 1) Q := by
        have e1 : sg n (fun r => w r (P' r) + w r (Q' r)) = sg n (fun r => w r (P r) + w r (Q r)) + ((w i (P' i) + w i (Q' i)) - (w i (P i) + w i (Q i))) := by
          refine sg_upd hi fun r hr hne => ?_
          have hn : r ≠ n := by omega
          by_cases hS : S r
          · simp only [P', Q', if_neg hne, if_neg hn, if_pos hS]; omega
          · simp only [P', Q', if_neg hne, if_neg hn, if_neg hS]
        rw [sg_add, sg_add] at e1
        have e2 : P' i = Q n := by simp [P']
        have e3 : Q' i = P i := by have : i ≠ n := by omega
                                   simp [Q', this, hSi]
        have e4 : Q' n = Q i := by simp [Q']
        have e5 := hw (Q n) (hQ.le n (by omega))
        have e6 := hw (Q i) (hQ.le i (by omega))
        unfold tot
        rw [sg_succ, sg_succ, e4]
        rw [e2, e3] at e1
        omega
      have := hO P' hP'
      omega
  · -- the rows met never come to i
    classical
    let S : Nat → Prop := fun s => ∃ k, orb n m P Q k = some s
    have hSn : S n := ⟨0, rfl⟩
    have hSi : ¬ S i := hA
    have prev : ∀ s, S s → s ≠ n → ∃ r, S r ∧ Q r < m ∧ s < n ∧ P s = Q r := by
      rintro s ⟨j, hs⟩ hne
      obtain ⟨j', r, rfl, h1, h2, h3, h4⟩ := orb_prev hs hne
      exact ⟨r, ⟨j', h1⟩, h2, h3, h4⟩
    have next : ∀ s r, S s → Q s < m → r < n → P r = Q s → S r := by
      rintro s r ⟨j, hs⟩ h1 h2 h3
      exact ⟨j + 1, orb_next hP hs h1 h2 h3⟩
    let R : Nat → Nat := fun r => if S r then Q r else P r
    let R' : Nat → Nat := fun r => if S r then P r else Q r
    have hR : Asg (n + 1) m R := by
      constructor
      · intro r hr
        simp only [R]
        split
        · exact hQ.le r (by omega)
        · rename_i h
          have : r ≠ n := fun e => h (e ▸ hSn)
          exact hP.le r (by omega)
      · intro a b ha hb he hm
        by_cases ha' : S a <;> by_cases hb' : S b <;> simp only [R, ha', hb', if_true, if_false] at he hm
        · exact hQ.inj a b ha hb he hm
        · have : b ≠ n := fun e => hb' (e ▸ hSn)
          exact absurd (next a b ha' hm (by omega) he.symm) hb'
        · have : a ≠ n := fun e => ha' (e ▸ hSn)
          exact absurd (next b a hb' (by omega) (by omega) he) ha'
        · have : b ≠ n := fun e => hb' (e ▸ hSn)
          have : a ≠ n := fun e => ha' (e ▸ hSn)
          exact hP.inj a b (by omega) (by omega) he hm
    have hR' : Asg n m R' := by
      constructor
      · intro r hr
        simp only [R']
        split
        · exact hP.le r hr
        · exact hQ.le r (by omega)
      · intro a b ha hb he hm
        by_cases ha' : S a <;> by_cases hb' : S b <;> simp only [R', ha', hb', if_true, if_false] at he hm
        · exact hP.inj a b ha hb he hm
        · obtain ⟨r, h1, h2, h3, h4⟩ := prev a ha' (by omega)
          have hrn : r ≤ n := by obtain ⟨j, hs⟩ := h1; by_cases e : r = n; omega; obtain ⟨_, _, _, _, _, h, _⟩ := orb_prev hs e; omega
          have := hQ.inj r b (by omega) (by omega) (by omega) h2
          exact absurd (this ▸ h1) hb'
        · obtain ⟨r, h1, h2, h3, h4⟩ := prev b hb' (by omega)
          have hrn : r ≤ n := by obtain ⟨j, hs⟩ := h1; by_cases e : r = n; omega; obtain ⟨_, _, _, _, _, h, _⟩ := orb_prev hs e; omega
          have := hQ.inj r a (by omega) (by omega) (by omega) h2
          exact absurd (this ▸ h1) ha'
        · exact hQ.inj a b (by omega) (by omega) he hm
    refine ⟨R, hR, by simp only [R, if_neg hSi], ?_⟩
    have hsum : tot w n R' + tot w (n + 1) R = tot w n P + tot w (n + 1) Q := by
      have e1 : sg n (fun r => w r (R' r) + w r (R r)) = sg n (fun r => w r (P r) + w r (Q r)) := by
        refine sg_congr fun r hr => ?_
        by_cases hS : S r
        · simp only [R, R', if_pos hS]
        · simp only [R, R', if_neg hS]; omega
      rw [sg_add, sg_add] at e1
      have e2 : R n = Q n := by simp only [R, if_pos hSn]
      unfold tot
      rw [sg_succ, sg_succ, e2]
      omega
    have := hO R' hR'
    omega
end

/-! ### Potentials -/
section
variable {n m : Nat} {P Q : Nat → Nat} {c : Nat → Nat → Int} {d e : Nat → Int} {u v : Nat → Int}
/-- Feasible potentials. -/
structure Feas (c : Nat → Nat → Int) (d e : Nat → Int) (n m : Nat) (u v : Nat → Int) : Prop where
  c : ∀ i, i < n → ∀ j, j < m → u i + v j ≤ c i j
  d : ∀ i, i < n → u i ≤ d i
  e : ∀ j, j < m → v j ≤ e j
theorem weak (h : Feas c d e n m u v) (hP : Asg n m P) : sg n u + sg m v ≤ cost c d e n m P := by
  rw [cost_tot hP]
  have h1 := col hP (fun j => v j - e j)
  have h2 : sg m (fun j => v j - e j) ≤ sg m (fun j => if used P n j then v j - e j else 0) := sg_le fun j hj => by
    have := h.e j hj
    split <;> omega
  rw [sg_sub] at h2
  have h3 : sg n (fun i => u i + if P i < m then v (P i) - e (P i) else 0) ≤ tot (wt c d e m) n P := sg_le fun i hi => by
    show _ ≤ wt c d e m i (P i)
    unfold wt
    split
    · rename_i hp; have := h.c i hi _ hp; omega
    · have := h.d i hi; omega
  rw [sg_add] at h3
  omega
/-- The rows with row i once more. -/
def dupc (c : Nat → Nat → Int) (n i : Nat) : Nat → Nat → Int := fun r => if r = n then c i else c r
def dupd (d : Nat → Int) (n i : Nat) : Nat → Int := fun r => if r = n then d i else d r
theorem dup_wt {i : Nat} (hi : i < n) (k : Nat) : wt (dupc c n i) (dupd d n i) e m n k = wt (dupc c n i) (dupd d n i) e m i k := by
  have : i ≠ n := by omega
  simp [wt, dupc, dupd, this]
theorem dup_wt' {i r : Nat} (hr : r < n) (k : Nat) : wt (dupc c n i) (dupd d n i) e m r k = wt c d e m r k := by
  have : r ≠ n := by omega
  simp [wt, dupc, dupd, this]
theorem dup_tot (i : Nat) (P : Nat → Nat) : tot (wt (dupc c n i) (dupd d n i) e m) n P = tot (wt c d e m) n P := sg_congr fun r hr => dup_wt' hr _
theorem Feas.dup (h : Feas c d e n m u v) {i : Nat} (hi : i < n) : Feas (dupc c n i) (dupd d n i) e (n + 1) m (fun r => if r = n then u i else u r) v := by
  refine ⟨fun r hr j hj => ?_, fun r hr => ?_, h.e⟩
  · by_cases e : r = n
    · simp only [dupc, if_pos e]; exact h.c i hi j hj
    · simp only [dupc, if_neg e]; exact h.c r (by omega) j hj
  · by_cases e : r = n
    · simp only [dupd, if_pos e]; exact h.d i hi
    · simp only [dupd, if_neg e]; exact h.d r (by omega)
/-- An assignment of n rows, and what row n gets. -/
def put (P : Nat → Nat) (n k : Nat) : Nat → Nat := fun r => if r = n then k else P r
theorem put_asg (h : Asg n m P) {k : Nat} (hk : k ≤ m) (hu : k < m → used P n k = false) : Asg (n + 1) m (put P n k) := by
  refine ⟨fun i hi => ?_, fun i j hi hj he hm => ?_⟩
  · unfold put; split; exact hk; exact h.le i (by omega)
  · by_cases e1 : i = n <;> by_cases e2 : j = n <;> simp only [put, e1, e2, if_true, if_false] at he hm
    · omega
    · exact absurd he.symm (used_not.1 (hu hm) j (by omega))
    · exact absurd he (used_not.1 (hu (by omega)) i (by omega))
    · exact h.inj i j (by omega) (by omega) he hm
theorem put_tot (w : Nat → Nat → Int) (k : Nat) : tot w (n + 1) (put P n k) = tot w n P + w n k := by
  unfold tot
  rw [sg_succ, sg_congr (g := fun i => w i (P i)) (fun i hi => by have : i ≠ n := by omega
                                                                  simp [put, this])]
  simp [put]
/-- An assignment without row i; row n stands in its place. -/
def cut (P : Nat → Nat) (n i : Nat) : Nat → Nat := fun r => if r = i then P n else P r
theorem cut_asg {i : Nat} (hi : i < n) (h : Asg (n + 1) m P) : Asg n m (cut P n i) := by
  refine ⟨fun r hr => ?_, fun a b ha hb he hm => ?_⟩
  · unfold cut; split; exact h.le n (by omega); exact h.le r (by omega)
  · by_cases e1 : a = i <;> by_cases e2 : b = i <;> simp only [cut, e1, e2, if_true, if_false] at he hm
    · omega
    · have := h.inj n b (by omega) (by omega) he hm; omega
    · have := h.inj a n (by omega) (by omega) he hm; omega
    · exact h.inj a b (by omega) (by omega) he hm
theorem cut_tot {w : Nat → Nat → Int} {i : Nat} (hi : i < n) (hw : ∀ k, w n k = w i k) : tot w n (cut P n i) + w i (P i) = tot w (n + 1) P := by
  unfold tot
  rw [sg_succ, sg_upd (g := fun r => w r (P r)) hi (fun r hr hne => by simp [cut, hne])]
  simp [cut, hw]; omega
theorem cut_unused {i : Nat} (hi : i < n) (h : Asg (n + 1) m P) (hp : P i < m) : used (cut P n i) n (P i) = false := used_not.2 fun r hr he => by
  by_cases e : r = i
  · simp only [cut, if_pos e] at he; have := h.inj n i (by omega) (by omega) he (by omega); omega
  · simp only [cut, if_neg e] at he; have := h.inj r i (by omega) (by omega) he (by omega); omega

/-- The potentials: U i: what row i once more costs; V: as great as they may be. -/
structure Pot (c : Nat → Nat → Int) (d e : Nat → Int) (n m : Nat) (v : Int) (U V : Nat → Int) : Prop where
  opt : Opt c d e n m v
  more : ∀ i, i < n → Opt (dupc c n i) (dupd d n i) e (n + 1) m (U i + v)
  ve : ∀ j, j < m → V j ≤ e j
  vc : ∀ j, j < m → ∀ i, i < n → V j ≤ c i j - U i
  vis : ∀ j, j < m → V j = e j ∨ ∃ i, i < n ∧ V j = c i j - U i
theorem Pot.feas {v0 : Int} {U V : Nat → Int} (h : Pot c d e n m v0 U V) : Feas c d e n m U V := by
  refine ⟨fun i hi j hj => by have := h.vc j hj i hi; omega, fun i hi => ?_, h.ve⟩
  obtain ⟨P, hP, hv⟩ := h.opt.has
  have h1 := (h.more i hi).low (put P n m) (put_asg hP (Nat.le_refl _) (fun h => by omega))
  rw [cost_tot (put_asg hP (Nat.le_refl _) (fun h => by omega)), put_tot, dup_tot] at h1
  rw [cost_tot hP] at hv
  have : wt (dupc c n i) (dupd d n i) e m n m = d i := by simp [wt, dupd]
  omega
/-- An assignment of the rows with i twice that pairs i as P does, as cheap as can be. -/
theorem Pot.at {v0 : Int} {U V : Nat → Int} (h : Pot c d e n m v0 U V) {P : Nat → Nat} (hP : Asg n m P) (hv : cost c d e n m P = v0) {i : Nat} (hi : i < n) :
    ∃ R, Asg (n + 1) m R ∧ R i = P i ∧ sg m e + tot (wt (dupc c n i) (dupd d n i) e m) (n + 1) R = U i + v0 := by
  obtain ⟨Q, hQ, hq⟩ := (h.more i hi).has
  rw [cost_tot hQ] at hq
  obtain ⟨R, h1, h2, h3⟩ := exch (w := wt (dupc c n i) (dupd d n i) e m) hi (fun k _ => dup_wt hi k) hP hQ (fun R hR => by
    rw [dup_tot, dup_tot]
    have := h.opt.low R hR
    rw [cost_tot hR] at this
    rw [cost_tot hP] at hv
    omega)
  have h4 := (h.more i hi).low R h1
  rw [cost_tot h1] at h4
  exact ⟨R, h1, h2, by omega⟩
theorem Pot.slack {v0 : Int} {U V : Nat → Int} (h : Pot c d e n m v0 U V) {P : Nat → Nat} (hP : Asg n m P) (hv : cost c d e n m P = v0) :
    (∀ i, i < n → P i < m → U i + V (P i) = c i (P i)) ∧ (∀ i, i < n → P i = m → U i = d i) ∧ ∀ j, j < m → used P n j = false → V j = e j := by
  have hF := h.feas
  have hv' := hv
  rw [cost_tot hP] at hv'
  refine ⟨fun i hi hp => ?_, fun i hi hp => ?_, fun j hj hu => ?_⟩
  · obtain ⟨R, h1, h2, h3⟩ := h.at hP hv hi
    have hR := cut_asg hi h1
    have e1 := cut_tot (P := R) (w := wt (dupc c n i) (dupd d n i) e m) hi (fun k => dup_wt hi k)
    have e2 : wt (dupc c n i) (dupd d n i) e m i (R i) = c i (P i) - e (P i) := by rw [dup_wt' hi, h2, wt, if_pos hp]
    rw [dup_tot] at e1
    have hun : used (cut R n i) n (P i) = false := h2 ▸ cut_unused hi h1 (by omega)
    -- the column is free without row i
    have hlow := hF.c i hi _ hp
    rcases h.vis _ hp with hV | ⟨i', hi', hV⟩
    · have := h.opt.low _ hR
      rw [cost_tot hR] at this
      omega
    · have hp' := put_asg hR (Nat.le_of_lt hp) (fun _ => hun)
      have := (h.more i' hi').low _ hp'
      rw [cost_tot hp', put_tot, dup_tot] at this
      have e3 : wt (dupc c n i') (dupd d n i') e m n (P i) = c i' (P i) - e (P i) := by simp [wt, dupc, hp]
      omega
  · obtain ⟨R, h1, h2, h3⟩ := h.at hP hv hi
    have hR := cut_asg hi h1
    have e1 := cut_tot (P := R) (w := wt (dupc c n i) (dupd d n i) e m) hi (fun k => dup_wt hi k)
    have e2 : wt (dupc c n i) (dupd d n i) e m i (R i) = d i := by rw [dup_wt' hi, h2, wt, if_neg (by omega)]
    rw [dup_tot] at e1
    have := h.opt.low _ hR
    rw [cost_tot hR] at this
    have := hF.d i hi
    omega
  · rcases h.vis j hj with hV | ⟨i, hi, hV⟩
    · exact hV
    · have hp' := put_asg hP (Nat.le_of_lt hj) (fun _ => hu)
      have := (h.more i hi).low _ hp'
      rw [cost_tot hp', put_tot, dup_tot] at this
      have e3 : wt (dupc c n i) (dupd d n i) e m n j = c i j - e j := by simp [wt, dupc, hj]
      have := h.ve j hj
      omega
theorem Pot.sum {v0 : Int} {U V : Nat → Int} (h : Pot c d e n m v0 U V) : sg n U + sg m V = v0 := by
  obtain ⟨P, hP, hv⟩ := h.opt.has
  obtain ⟨h1, h2, h3⟩ := h.slack hP hv
  have e1 := col hP (fun j => V j - e j)
  have e2 : sg m (fun j => if used P n j then V j - e j else 0) = sg m (fun j => V j - e j) := sg_congr fun j hj => by
    cases hu : used P n j
    · have := h3 j hj hu; simp; omega
    · simp
  have e3 : sg n (fun i => U i + if P i < m then V (P i) - e (P i) else 0) = tot (wt c d e m) n P := sg_congr fun i hi => by
    show _ = wt c d e m i (P i)
    unfold wt
    split
    · rename_i hp; have := h1 i hi hp; omega
    · have := h2 i hi (by have := hP.le i hi; omega); omega
  rw [sg_add] at e3
  rw [sg_sub] at e2
  rw [cost_tot hP] at hv
  omega
/-- None of other potentials with that sum is greater. -/
theorem Pot.most {v0 : Int} {U V : Nat → Int} (h : Pot c d e n m v0 U V) {u v : Nat → Int} (hF : Feas c d e n m u v) (hs : sg n u + sg m v = v0) {i : Nat} (hi : i < n) : u i ≤ U i := by
  obtain ⟨P, hP, hv⟩ := (h.more i hi).has
  have := weak (hF.dup hi) hP
  rw [sg_succ, sg_congr (g := u) (fun r hr => by have : r ≠ n := by omega
                                                 simp [this])] at this
  simp at this
  omega
theorem Opt.weak {v0 : Int} (h : Opt c d e n m v0) {u v : Nat → Int} (hF : Feas c d e n m u v) : sg n u + sg m v ≤ v0 := by
  obtain ⟨P, hP, hv⟩ := h.has
  rw [← hv]; exact Asg.weak hF hP
/-- How small they may be. -/
theorem Pot.low {v0 : Int} {U V : Nat → Int} {E : Int} (h : Pot c d e n m v0 U V) (hc : ∀ i, i < n → ∀ j, j < m → 0 ≤ c i j) (hd : ∀ i, i < n → 0 ≤ d i) (he : ∀ j, j < m → 0 ≤ e j ∧ e j ≤ E) (hE : 0 ≤ E) {i : Nat} (hi : i < n) : -E ≤ U i := by
  obtain ⟨Q, hQ, hq⟩ := (h.more i hi).has
  rw [cost_tot hQ] at hq
  have hR := cut_asg hi hQ
  have e1 := cut_tot (P := Q) (w := wt (dupc c n i) (dupd d n i) e m) hi (fun k => dup_wt hi k)
  rw [dup_tot, dup_wt' hi] at e1
  have := h.opt.low _ hR
  rw [cost_tot hR] at this
  have h5 : -E ≤ wt c d e m i (Q i) := by
    unfold wt
    split
    · rename_i hp; have := hc i hi _ hp; have := he _ hp; omega
    · have := hd i hi; omega
  omega
end
end Go.CH.Asg
namespace Go.CH.Asg

/-- The least of a start and the values at the places below m that are not struck. -/
def mnl (U : Nat → Bool) (f : Nat → Int) (a : Int) : Nat → Int
  | 0 => a
  | j + 1 => if U j then mnl U f a j else min (mnl U f a j) (f j)
section
variable {U : Nat → Bool} {f : Nat → Int} {a : Int} {m : Nat}
theorem mnl_init : mnl U f a m ≤ a := by
  induction m with
  | zero => exact Int.le_refl _
  | succ m ih => unfold mnl; split; exact ih; omega
theorem mnl_at {j : Nat} (hj : j < m) (hu : U j = false) : mnl U f a m ≤ f j := by
  induction m with
  | zero => omega
  | succ m ih =>
    unfold mnl
    by_cases e : j = m
    · subst e; rw [hu]; simp; omega
    · split
      · exact ih (by omega)
      · have := ih (by omega); omega
theorem mnl_is : mnl U f a m = a ∨ ∃ j, j < m ∧ U j = false ∧ mnl U f a m = f j := by
  induction m with
  | zero => exact .inl rfl
  | succ m ih =>
    unfold mnl
    by_cases hu : U m = true
    · rw [if_pos hu]
      rcases ih with h | ⟨j, h1, h2, h3⟩
      · exact .inl h
      · exact .inr ⟨j, by omega, h2, h3⟩
    · rw [if_neg hu]
      by_cases hm : mnl U f a m ≤ f m
      · rw [Int.min_eq_left hm]
        rcases ih with h | ⟨j, h1, h2, h3⟩
        · exact .inl h
        · exact .inr ⟨j, by omega, h2, h3⟩
      · rw [Int.min_eq_right (by omega)]
        exact .inr ⟨m, by omega, by simpa using hu, rfl⟩
theorem mnl_congr {g : Nat → Int} {V : Nat → Bool} (h : ∀ j, j < m → f j = g j) (hu : ∀ j, j < m → U j = V j) : mnl U f a m = mnl V g a m := by
  induction m with
  | zero => rfl
  | succ m ih =>
    unfold mnl
    rw [ih (fun j hj => h j (by omega)) (fun j hj => hu j (by omega)), h m (by omega), hu m (by omega)]
end
def ins (U : Nat → Bool) (j : Nat) : Nat → Bool := fun x => U x || x == j
def noU : Nat → Bool := fun _ => false
/-- The least cost of the last k of n rows, if the columns in U are used. -/
def L (c : Nat → Nat → Int) (d e : Nat → Int) (n m : Nat) : Nat → (Nat → Bool) → Int
  | 0, U => sg m (fun j => if U j then 0 else e j)
  | k + 1, U => mnl U (fun j => c (n - (k + 1)) j + L c d e n m k (ins U j)) (d (n - (k + 1)) + L c d e n m k U) m
/-- The cost of a list of pairs for the rows from i on, if the columns in U are used. -/
def cs (c : Nat → Nat → Int) (d e : Nat → Int) (m : Nat) : Nat → (Nat → Bool) → List Int → Option Int
  | _, U, [] => some (sg m (fun j => if U j then 0 else e j))
  | i, U, p :: ps => if p < 0 ∨ (m : Int) < p ∨ (p < m ∧ U p.toNat = true) then none
    else if p = m then (cs c d e m (i + 1) U ps).map (d i + ·) else (cs c d e m (i + 1) (ins U p.toNat) ps).map (c i p.toNat + ·)
/-- The first of the cheapest lists for the last k of n rows. -/
def gr (c : Nat → Nat → Int) (d e : Nat → Int) (n m : Nat) : Nat → (Nat → Bool) → List Int
  | 0, _ => []
  | k + 1, U => match (List.range m).find? (fun j => !U j && decide (c (n - (k + 1)) j + L c d e n m k (ins U j) = L c d e n m (k + 1) U)) with
    | some j => (j : Int) :: gr c d e n m k (ins U j)
    | none => (m : Int) :: gr c d e n m k U
/-- Lexicographically less. -/
def before : List Int → List Int → Bool
  | a :: as, b :: bs => if a = b then before as bs else decide (a < b)
  | _, _ => false
section
variable {c : Nat → Nat → Int} {d e : Nat → Int} {n m : Nat}
theorem gr_len (k : Nat) (U : Nat → Bool) : (gr c d e n m k U).length = k := by
  induction k generalizing U with
  | zero => rfl
  | succ k ih => unfold gr; split <;> simp [ih]
theorem first_some {p : Nat → Bool} {j : Nat} (h : (List.range m).find? p = some j) : j < m ∧ p j = true ∧ ∀ i, i < j → p i = false := by
  rw [List.find?_range_eq_some] at h
  obtain ⟨h1, h2, h3⟩ := h
  exact ⟨List.mem_range.1 h2, h1, fun i hi => by simpa using h3 i hi⟩
theorem first_none {p : Nat → Bool} (h : (List.range m).find? p = none) : ∀ i, i < m → p i = false := by
  rw [List.find?_eq_none] at h
  exact fun i hi => by simpa using h i (List.mem_range.2 hi)
theorem cs_low {k : Nat} {U : Nat → Bool} {ps : List Int} {v : Int} (hk : k ≤ n) (hl : ps.length = k) (h : cs c d e m (n - k) U ps = some v) : L c d e n m k U ≤ v := by
  induction k generalizing U ps v with
  | zero =>
    obtain rfl := List.length_eq_zero_iff.1 hl
    simp only [cs, Option.some.injEq] at h
    rw [← h]; exact Int.le_refl _
  | succ k ih =>
    cases ps with
    | nil => simp at hl
    | cons p ps =>
      simp only [cs] at h
      split at h
      · cases h
      · rename_i hp
        have hp : 0 ≤ p ∧ p ≤ m ∧ (p < m → U p.toNat = false) := by
          refine ⟨by omega, by omega, fun h => ?_⟩
          cases hU : U p.toNat
          · rfl
          · exact absurd (.inr (.inr ⟨h, hU⟩)) hp
        have e1 : n - (k + 1) + 1 = n - k := by omega
        rw [e1] at h
        split at h
        · obtain ⟨u, h1, rfl⟩ := Option.map_eq_some_iff.1 h
          have := ih (by omega) (by simpa using hl) h1
          have h2 := mnl_init (U := U) (f := fun j => c (n - (k + 1)) j + L c d e n m k (ins U j)) (a := d (n - (k + 1)) + L c d e n m k U) (m := m)
          show mnl _ _ _ _ ≤ _
          omega
        · obtain ⟨u, h1, rfl⟩ := Option.map_eq_some_iff.1 h
          have := ih (by omega) (by simpa using hl) h1
          have h2 := mnl_at (U := U) (f := fun j => c (n - (k + 1)) j + L c d e n m k (ins U j)) (a := d (n - (k + 1)) + L c d e n m k U) (m := m) (j := p.toNat) (by omega) (hp.2.2 (by omega))
          show mnl _ _ _ _ ≤ _
          omega
theorem gr_cs {k : Nat} (hk : k ≤ n) (U : Nat → Bool) : cs c d e m (n - k) U (gr c d e n m k U) = some (L c d e n m k U) := by
  induction k generalizing U with
  | zero => rfl
  | succ k ih =>
    have e1 : n - (k + 1) + 1 = n - k := by omega
    unfold gr
    split
    · rename_i j hj
      obtain ⟨h1, h2, -⟩ := first_some hj
      simp only [Bool.and_eq_true, Bool.not_eq_true', decide_eq_true_eq] at h2
      simp only [cs]
      rw [if_neg (by rintro (h | h | ⟨-, h⟩); omega; omega; rw [Int.toNat_natCast, h2.1] at h; cases h), if_neg (by omega), e1, Int.toNat_natCast, ih (by omega), Option.map_some]
      exact congrArg some h2.2
    · rename_i hn
      have h1 := first_none hn
      simp only [cs]
      rw [if_neg (by rintro (h | h | ⟨h, -⟩) <;> omega)]
      simp only [if_true]
      rw [e1, ih (by omega), Option.map_some]
      refine congrArg some ?_
      rcases mnl_is (U := U) (f := fun j => c (n - (k + 1)) j + L c d e n m k (ins U j)) (a := d (n - (k + 1)) + L c d e n m k U) (m := m) with h | ⟨j, g1, g2, g3⟩
      · exact h.symm
      · have := h1 j g1
        rw [g2] at this
        simp only [Bool.not_false, Bool.true_and, decide_eq_false_iff_not] at this
        exact absurd g3.symm this
/-- None of the cheapest lists stands ahead of it. -/
theorem gr_first {k : Nat} {U : Nat → Bool} {ps : List Int} (hk : k ≤ n) (hl : ps.length = k) (h : cs c d e m (n - k) U ps = some (L c d e n m k U)) : before ps (gr c d e n m k U) = false := by
  induction k generalizing U ps with
  | zero =>
    obtain rfl := List.length_eq_zero_iff.1 hl
    rfl
  | succ k ih =>
    cases ps with
    | nil => simp at hl
    | cons p ps =>
      have e1 : n - (k + 1) + 1 = n - k := by omega
      have hlen : ps.length = k := by simpa using hl
      simp only [cs] at h
      split at h
      · cases h
      rename_i hp
      have hp : 0 ≤ p ∧ p ≤ m ∧ (p < m → U p.toNat = false) := by
        refine ⟨by omega, by omega, fun h => ?_⟩
        cases hU : U p.toNat
        · rfl
        · exact absurd (.inr (.inr ⟨h, hU⟩)) hp
      rw [e1] at h
      -- the pair's own test
      have key : p < m → cs c d e m (n - k) (ins U p.toNat) ps = some (L c d e n m k (ins U p.toNat)) ∧ c (n - (k + 1)) p.toNat + L c d e n m k (ins U p.toNat) = L c d e n m (k + 1) U := by
        intro hlt
        rw [if_neg (by omega)] at h
        obtain ⟨u, h1, h2⟩ := Option.map_eq_some_iff.1 h
        have h3 := cs_low (by omega) hlen h1
        have h4 := mnl_at (U := U) (f := fun j => c (n - (k + 1)) j + L c d e n m k (ins U j)) (a := d (n - (k + 1)) + L c d e n m k U) (m := m) (j := p.toNat) (by omega) (hp.2.2 hlt)
        have h5 : L c d e n m (k + 1) U = mnl U (fun j => c (n - (k + 1)) j + L c d e n m k (ins U j)) (d (n - (k + 1)) + L c d e n m k U) m := rfl
        refine ⟨?_, by omega⟩
        rw [h1]; congr 1; omega
      unfold gr
      split
      · rename_i j hj
        obtain ⟨g1, g2, g3⟩ := first_some hj
        simp only [before]
        split
        · rename_i he
          subst he
          obtain ⟨k1, k2⟩ := key (by omega)
          rw [Int.toNat_natCast] at k1
          exact ih (by omega) hlen k1
        · rename_i hne
          rw [decide_eq_false_iff_not]
          intro hlt
          obtain ⟨k1, k2⟩ := key (by omega)
          have := g3 p.toNat (by omega)
          rw [hp.2.2 (by omega)] at this
          simp only [Bool.not_false, Bool.true_and, decide_eq_false_iff_not] at this
          exact this k2
      · rename_i hn
        have g1 := first_none hn
        simp only [before]
        split
        · rename_i he
          rw [if_pos he] at h
          obtain ⟨u, h1, h2⟩ := Option.map_eq_some_iff.1 h
          have h3 := cs_low (by omega) hlen h1
          have h4 := mnl_init (U := U) (f := fun j => c (n - (k + 1)) j + L c d e n m k (ins U j)) (a := d (n - (k + 1)) + L c d e n m k U) (m := m)
          have h5 : L c d e n m (k + 1) U = mnl U (fun j => c (n - (k + 1)) j + L c d e n m k (ins U j)) (d (n - (k + 1)) + L c d e n m k U) m := rfl
          refine ih (by omega) hlen ?_
          rw [h1]; congr 1; omega
        · rw [decide_eq_false_iff_not]
          intro hlt
          obtain ⟨k1, k2⟩ := key hlt
          have := g1 p.toNat (by omega)
          rw [hp.2.2 hlt] at this
          simp only [Bool.not_false, Bool.true_and, decide_eq_false_iff_not] at this
          exact this k2
/-! ### Lists and assignments -/
theorem used_front (P : Nat → Nat) (n j : Nat) : used P (n + 1) j = (P 0 == j || used (fun i => P (i + 1)) n j) := by
  rw [Bool.eq_iff_iff]
  simp only [Bool.or_eq_true, beq_iff_eq, used_iff]
  constructor
  · rintro ⟨i, h1, h2⟩
    cases i with
    | zero => exact .inl h2
    | succ i => exact .inr ⟨i, by omega, h2⟩
  · rintro (h | ⟨i, h1, h2⟩)
    · exact ⟨0, by omega, h⟩
    · exact ⟨i + 1, by omega, h2⟩
/-- P is an assignment of k rows to columns that are not in U. -/
structure AsgU (k m : Nat) (U : Nat → Bool) (P : Nat → Nat) : Prop where
  asg : Asg k m P
  free : ∀ i, i < k → P i < m → U (P i) = false
def costU (c : Nat → Nat → Int) (d e : Nat → Int) (m i k : Nat) (U : Nat → Bool) (P : Nat → Nat) : Int :=
  sg k (fun r => if P r < m then c (i + r) (P r) else d (i + r)) + sg m (fun j => if U j || used P k j then 0 else e j)
def lp (ps : List Int) : Nat → Nat := fun r => (ps.getD r 0).toNat
theorem costU_front {i k : Nat} {U : Nat → Bool} {P : Nat → Nat} : costU c d e m i (k + 1) U P = (if P 0 < m then c i (P 0) else d i) + costU c d e m (i + 1) k (if P 0 < m then ins U (P 0) else U) (fun r => P (r + 1)) := by
  unfold costU
  rw [sg_front, Int.add_assoc]
  have e1 : sg k (fun r => if P (r + 1) < m then c (i + (r + 1)) (P (r + 1)) else d (i + (r + 1))) = sg k (fun r => if P (r + 1) < m then c (i + 1 + r) (P (r + 1)) else d (i + 1 + r)) := sg_congr fun r _ => by
    have : i + (r + 1) = i + 1 + r := by omega
    rw [this]
  have e2 : sg m (fun j => if U j || used P (k + 1) j then 0 else e j) = sg m (fun j => if (if P 0 < m then ins U (P 0) else U) j || used (fun r => P (r + 1)) k j then 0 else e j) := sg_congr fun j hj => by
    rw [used_front]
    by_cases h : P 0 < m
    · rw [if_pos h]; unfold ins
      have : (P 0 == j) = (j == P 0) := by rw [Bool.eq_iff_iff]; simp; omega
      rw [this, Bool.or_assoc]
    · rw [if_neg h]
      have : (P 0 == j) = false := by simp; omega
      rw [this, Bool.false_or]
  rw [e1, e2]; simp
theorem asgU_front {k : Nat} {U : Nat → Bool} {P : Nat → Nat} (h0 : P 0 ≤ m) (hU : P 0 < m → U (P 0) = false) (h : AsgU k m (if P 0 < m then ins U (P 0) else U) (fun r => P (r + 1))) : AsgU (k + 1) m U P := by
  have hf : ∀ i, i < k → P (i + 1) < m → U (P (i + 1)) = false ∧ (P 0 < m → P (i + 1) ≠ P 0) := by
    intro i hi hp
    have := h.free i hi hp
    by_cases h1 : P 0 < m
    · rw [if_pos h1] at this
      simp only [ins, Bool.or_eq_false_iff, beq_eq_false_iff_ne] at this
      exact ⟨this.1, fun _ => this.2⟩
    · rw [if_neg h1] at this; exact ⟨this, fun h => absurd h h1⟩
  refine ⟨⟨fun i hi => ?_, fun i j hi hj he hm => ?_⟩, fun i hi hp => ?_⟩
  · cases i with
    | zero => exact h0
    | succ i => exact h.asg.le i (by omega)
  · cases i with
    | zero =>
      cases j with
      | zero => rfl
      | succ j => exact absurd he.symm ((hf j (by omega) (by omega)).2 hm)
    | succ i =>
      cases j with
      | zero => exact absurd he ((hf i (by omega) hm).2 (by omega))
      | succ j => have := h.asg.inj i j (by omega) (by omega) he hm; omega
  · cases i with
    | zero => exact hU hp
    | succ i => exact (hf i (by omega) hp).1
theorem asgU_back {k : Nat} {U : Nat → Bool} {P : Nat → Nat} (h : AsgU (k + 1) m U P) : AsgU k m (if P 0 < m then ins U (P 0) else U) (fun r => P (r + 1)) := by
  refine ⟨⟨fun i hi => h.asg.le _ (by omega), fun i j hi hj he hm => by have := h.asg.inj (i + 1) (j + 1) (by omega) (by omega) he hm; omega⟩, fun i hi hp => ?_⟩
  have h1 := h.free (i + 1) (by omega) hp
  by_cases h0 : P 0 < m
  · rw [if_pos h0]
    simp only [ins, h1, Bool.false_or, beq_eq_false_iff_ne]
    intro he
    have := h.asg.inj (i + 1) 0 (by omega) (by omega) he hp
    omega
  · rw [if_neg h0]; exact h1
theorem cs_some {i : Nat} {U : Nat → Bool} {ps : List Int} {v : Int} (h : cs c d e m i U ps = some v) : AsgU ps.length m U (lp ps) ∧ v = costU c d e m i ps.length U (lp ps) ∧ ∀ p ∈ ps, 0 ≤ p ∧ p ≤ m := by
  induction ps generalizing i U v with
  | nil =>
    simp only [cs, Option.some.injEq] at h
    refine ⟨⟨⟨fun i hi => by simp at hi, fun i j hi => by simp at hi⟩, fun i hi => by simp at hi⟩, ?_, fun p hp => by simp at hp⟩
    rw [← h]; unfold costU
    simp [sg, used]
  | cons p ps ih =>
    simp only [cs] at h
    split at h
    · cases h
    rename_i hp
    have hp : 0 ≤ p ∧ p ≤ m ∧ (p < m → U p.toNat = false) := by
      refine ⟨by omega, by omega, fun h => ?_⟩
      cases hU : U p.toNat
      · rfl
      · exact absurd (.inr (.inr ⟨h, hU⟩)) hp
    have e0 : lp (p :: ps) 0 = p.toNat := rfl
    have e1 : (fun r => lp (p :: ps) (r + 1)) = lp ps := rfl
    have hm : ∀ q ∈ ps, 0 ≤ q ∧ q ≤ m → True := fun _ _ _ => trivial
    split at h
    · rename_i hpm
      obtain ⟨u, h1, rfl⟩ := Option.map_eq_some_iff.1 h
      obtain ⟨g1, g2, g3⟩ := ih h1
      have hn : ¬ lp (p :: ps) 0 < m := by rw [e0]; omega
      refine ⟨asgU_front (by rw [e0]; omega) (fun h => absurd h hn) (by rw [if_neg hn, e1]; exact g1), ?_, ?_⟩
      · rw [List.length_cons, costU_front, if_neg hn, if_neg hn, e1, ← g2]
      · intro q hq; rcases List.mem_cons.1 hq with rfl | hq; exact ⟨hp.1, hp.2.1⟩; exact g3 q hq
    · rename_i hpm
      obtain ⟨u, h1, rfl⟩ := Option.map_eq_some_iff.1 h
      obtain ⟨g1, g2, g3⟩ := ih h1
      have hn : lp (p :: ps) 0 < m := by rw [e0]; omega
      refine ⟨asgU_front (by rw [e0]; omega) (fun h => by rw [e0]; exact hp.2.2 (by omega)) (by rw [if_pos hn, e1, e0]; exact g1), ?_, ?_⟩
      · rw [List.length_cons, costU_front, if_pos hn, if_pos hn, e1, e0, ← g2]
      · intro q hq; rcases List.mem_cons.1 hq with rfl | hq; exact ⟨hp.1, hp.2.1⟩; exact g3 q hq
def pl (P : Nat → Nat) (k : Nat) : List Int := (List.range k).map (fun i => (P i : Int))
theorem pl_len (P : Nat → Nat) (k : Nat) : (pl P k).length = k := by simp [pl]
theorem pl_front (P : Nat → Nat) (k : Nat) : pl P (k + 1) = (P 0 : Int) :: pl (fun r => P (r + 1)) k := by
  unfold pl; rw [List.range_succ_eq_map]; simp
theorem cs_of {i k : Nat} {U : Nat → Bool} {P : Nat → Nat} (h : AsgU k m U P) : cs c d e m i U (pl P k) = some (costU c d e m i k U P) := by
  induction k generalizing i U P with
  | zero => simp [pl, cs, costU, sg, used]
  | succ k ih =>
    have h1 := ih (i := i + 1) (asgU_back h)
    have h0 := h.asg.le 0 (by omega)
    rw [pl_front, costU_front]
    simp only [cs]
    by_cases hp : P 0 < m
    · have hU := h.free 0 (by omega) hp
      rw [if_pos hp] at h1
      rw [if_neg (by rintro (h | h | ⟨-, h⟩); omega; omega; rw [Int.toNat_natCast, hU] at h; cases h), if_neg (by omega), Int.toNat_natCast, if_pos hp, if_pos hp, h1, Option.map_some]
    · rw [if_neg hp] at h1
      rw [if_neg (by rintro (h | h | ⟨h, -⟩) <;> omega), if_pos (by omega), if_neg hp, if_neg hp, h1, Option.map_some]
theorem costU_cost (P : Nat → Nat) : costU c d e m 0 n noU P = cost c d e n m P := by
  unfold costU cost noU
  simp
theorem asgU_no {P : Nat → Nat} (h : Asg n m P) : AsgU n m noU P := ⟨h, fun _ _ _ => rfl⟩
/-- The least cost that is found is the least cost. -/
theorem L_opt : Opt c d e n m (L c d e n m n noU) := by
  constructor
  · have h := gr_cs (c := c) (d := d) (e := e) (n := n) (m := m) (Nat.le_refl n) noU
    rw [Nat.sub_self] at h
    obtain ⟨h1, h2, -⟩ := cs_some h
    rw [gr_len] at h1 h2
    exact ⟨_, h1.asg, by rw [h2, costU_cost]⟩
  · intro P hP
    have h := cs_of (c := c) (d := d) (e := e) (i := 0) (asgU_no hP)
    rw [costU_cost] at h
    exact cs_low (Nat.le_refl n) (pl_len P n) (by rw [Nat.sub_self]; exact h)
end
end Go.CH.Asg
