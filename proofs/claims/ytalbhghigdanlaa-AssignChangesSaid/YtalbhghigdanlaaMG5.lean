/-
  Assign: assignments that keep the order, the least costs of positions; other orders of rows and columns, exchanged, and other costs.
  Assign: lists of numbers and of such lists, as they lie in memory.
  Assign: Ints, Before, Keeps, Few of the reference.
-/
import Derived.Test.YtalbhghigdanlaaMG4
import Derived.Test.YtalbhghigdanlaaRows
import Derived.Test.YtalbhghigdanlaaMG2
import Derived.Test.YtalbhghigdanlaaMG3
import Derived.Deep.QuietTactic
import Derived.BigQuiet
import Derived.Deep.DeepCutAuto
import Derived.IntWalk
set_option linter.unusedSimpArgs false
set_option linter.unusedVariables false
namespace Go.CH.Asg

/-- The least cost with no rows left, b columns left. -/
def GR0 (e : Nat → Int) (m : Nat) : Nat → Int
  | 0 => 0
  | b + 1 => e (m - (b + 1)) + GR0 e m b
/-- One row more. -/
def GRs (c : Nat → Nat → Int) (d e : Nat → Int) (m i : Nat) (f : Nat → Int) : Nat → Int
  | 0 => d i + f 0
  | b + 1 => min (min (d i + f (b + 1)) (e (m - (b + 1)) + GRs c d e m i f b)) (c i (m - (b + 1)) + f b)
/-- The least cost with a rows and b columns left. -/
def GR (c : Nat → Nat → Int) (d e : Nat → Int) (n m : Nat) : Nat → Nat → Int
  | 0 => GR0 e m
  | a + 1 => GRs c d e m (n - (a + 1)) (GR c d e n m a)
/-- The first of the cheapest lists that keep the order, for the last a rows and b columns. -/
def gro (c : Nat → Nat → Int) (d e : Nat → Int) (n m : Nat) : Nat → Nat → List Int
  | 0, _ => []
  | a + 1, b => match (List.range b).find? (fun t => decide (sg t (fun x => e (m - b + x)) + c (n - (a + 1)) (m - b + t) + GR c d e n m a (b - (t + 1)) = GR c d e n m (a + 1) b)) with
    | some t => ((m - b + t : Nat) : Int) :: gro c d e n m a (b - (t + 1))
    | none => (m : Int) :: gro c d e n m a b
/-- Pairs in order, all behind l; m pairs with none. -/
def keeps (m : Nat) : Int → List Int → Bool
  | _, [] => true
  | l, p :: ps => if p = m then keeps m l ps else if p ≤ l then false else keeps m p ps
/-- The cost of a list that keeps the order, for the rows from i on and the columns from f on. -/
def cso (c : Nat → Nat → Int) (d e : Nat → Int) (m : Nat) : Nat → Nat → List Int → Option Int
  | _, f, [] => some (sg (m - f) (fun x => e (f + x)))
  | i, f, p :: ps => if p = m then (cso c d e m (i + 1) f ps).map (d i + ·)
    else if p < f ∨ (m : Int) < p then none else (cso c d e m (i + 1) (p.toNat + 1) ps).map (sg (p.toNat - f) (fun x => e (f + x)) + c i p.toNat + ·)
section
variable {c : Nat → Nat → Int} {d e : Nat → Int} {n m : Nat}
theorem gr_row (a b : Nat) : GR c d e n m (a + 1) b ≤ d (n - (a + 1)) + GR c d e n m a b := by
  cases b with
  | zero => exact Int.le_refl _
  | succ b => show min (min _ _) _ ≤ _; omega
theorem gr_col (a b : Nat) : GR c d e n m a (b + 1) ≤ e (m - (b + 1)) + GR c d e n m a b := by
  cases a with
  | zero => exact Int.le_refl _
  | succ a => show min (min _ _) _ ≤ _; exact Int.le_trans (Int.min_le_left _ _) (Int.min_le_right _ _)
theorem gr_diag (a b : Nat) : GR c d e n m (a + 1) (b + 1) ≤ c (n - (a + 1)) (m - (b + 1)) + GR c d e n m a b := Int.min_le_right _ _
theorem sg_passed {b t : Nat} (hb : b + 1 ≤ m) : sg (t + 1) (fun x => e (m - (b + 1) + x)) = e (m - (b + 1)) + sg t (fun x => e (m - b + x)) := by
  rw [sg_front]
  congr 1
  exact sg_congr fun i _ => by congr 1; omega
theorem gr_pass (a : Nat) {b t : Nat} (hb : b ≤ m) (ht : t < b) : GR c d e n m (a + 1) b ≤ sg t (fun x => e (m - b + x)) + c (n - (a + 1)) (m - b + t) + GR c d e n m a (b - (t + 1)) := by
  induction b generalizing t with
  | zero => omega
  | succ b ih =>
    cases t with
    | zero => have := gr_diag (c := c) (d := d) (e := e) (n := n) (m := m) a b; simp only [sg, Nat.add_zero, Int.zero_add]; exact this
    | succ t =>
      rw [sg_passed hb]
      have h1 := ih (t := t) (by omega) (by omega)
      have h2 := gr_col (c := c) (d := d) (e := e) (n := n) (m := m) (a + 1) b
      have e1 : m - (b + 1) + (t + 1) = m - b + t := by omega
      have e2 : b + 1 - (t + 1 + 1) = b - (t + 1) := by omega
      rw [e1, e2]; omega
theorem gr_is (a : Nat) {b : Nat} (hb : b ≤ m) : GR c d e n m (a + 1) b = d (n - (a + 1)) + GR c d e n m a b ∨ ∃ t, t < b ∧ sg t (fun x => e (m - b + x)) + c (n - (a + 1)) (m - b + t) + GR c d e n m a (b - (t + 1)) = GR c d e n m (a + 1) b := by
  induction b with
  | zero => exact .inl rfl
  | succ b ih =>
    have h0 : GR c d e n m (a + 1) (b + 1) = min (min (d (n - (a + 1)) + GR c d e n m a (b + 1)) (e (m - (b + 1)) + GR c d e n m (a + 1) b)) (c (n - (a + 1)) (m - (b + 1)) + GR c d e n m a b) := rfl
    have h1 := gr_row (c := c) (d := d) (e := e) (n := n) (m := m) a (b + 1)
    by_cases h2 : GR c d e n m (a + 1) (b + 1) = c (n - (a + 1)) (m - (b + 1)) + GR c d e n m a b
    · refine .inr ⟨0, by omega, ?_⟩
      simp only [sg, Nat.add_zero, Int.zero_add]; exact h2.symm
    · by_cases h3 : GR c d e n m (a + 1) (b + 1) = d (n - (a + 1)) + GR c d e n m a (b + 1)
      · exact .inl h3
      · have h4 : GR c d e n m (a + 1) (b + 1) = e (m - (b + 1)) + GR c d e n m (a + 1) b := by omega
        rcases ih (by omega) with g | ⟨t, g1, g2⟩
        · have := gr_col (c := c) (d := d) (e := e) (n := n) (m := m) a b
          omega
        · refine .inr ⟨t + 1, by omega, ?_⟩
          have e1 : m - (b + 1) + (t + 1) = m - b + t := by omega
          have e2 : b + 1 - (t + 1 + 1) = b - (t + 1) := by omega
          rw [sg_passed hb, e1, e2]; omega
theorem gr0_sum {b : Nat} (hb : b ≤ m) : GR0 e m b = sg b (fun x => e (m - b + x)) := by
  induction b with
  | zero => rfl
  | succ b ih => rw [sg_passed hb, GR0, ih (by omega)]
theorem gro_len (a b : Nat) : (gro c d e n m a b).length = a := by
  induction a generalizing b with
  | zero => rfl
  | succ a ih => unfold gro; split <;> simp [ih]
theorem cso_low {a f : Nat} {ps : List Int} {v : Int} (ha : a ≤ n) (hf : f ≤ m) (hl : ps.length = a) (h : cso c d e m (n - a) f ps = some v) : GR c d e n m a (m - f) ≤ v := by
  induction a generalizing f ps v with
  | zero =>
    obtain rfl := List.length_eq_zero_iff.1 hl
    simp only [cso, Option.some.injEq] at h
    show GR0 e m (m - f) ≤ v
    rw [← h, gr0_sum (by omega), show m - (m - f) = f from by omega]
    exact Int.le_refl _
  | succ a ih =>
    cases ps with
    | nil => simp at hl
    | cons p ps =>
      have hl' : ps.length = a := by simpa using hl
      have e1 : n - (a + 1) + 1 = n - a := by omega
      simp only [cso, e1] at h
      split at h
      · obtain ⟨u, h1, rfl⟩ := Option.map_eq_some_iff.1 h
        have := ih (by omega) hf hl' h1
        have := gr_row (c := c) (d := d) (e := e) (n := n) (m := m) a (m - f)
        omega
      · split at h
        · cases h
        · obtain ⟨u, h1, rfl⟩ := Option.map_eq_some_iff.1 h
          have h2 := ih (by omega) (by omega) hl' h1
          have h3 := gr_pass (c := c) (d := d) (e := e) (n := n) (m := m) a (b := m - f) (t := p.toNat - f) (by omega) (by omega)
          rw [show m - (m - f) = f from by omega, show f + (p.toNat - f) = p.toNat from by omega, show m - f - (p.toNat - f + 1) = m - (p.toNat + 1) from by omega] at h3
          omega
theorem gro_cso {a f : Nat} (ha : a ≤ n) (hf : f ≤ m) : cso c d e m (n - a) f (gro c d e n m a (m - f)) = some (GR c d e n m a (m - f)) := by
  induction a generalizing f with
  | zero =>
    show some _ = some (GR0 e m (m - f))
    rw [gr0_sum (by omega), show m - (m - f) = f from by omega]
  | succ a ih =>
    have e1 : n - (a + 1) + 1 = n - a := by omega
    unfold gro
    split
    · rename_i t ht
      obtain ⟨h1, h2, -⟩ := first_some ht
      rw [decide_eq_true_eq] at h2
      have e2 : m - (m - f) = f := by omega
      rw [e2] at h2 ⊢
      have h3 := ih (f := f + t + 1) (by omega) (by omega)
      rw [show m - (f + t + 1) = m - f - (t + 1) from by omega] at h3
      simp only [cso]
      rw [if_neg (by omega), if_neg (by omega), e1, Int.toNat_natCast, h3, Option.map_some, show f + t - f = t from by omega]
      exact congrArg some h2
    · rename_i hn
      have h1 := first_none hn
      simp only [cso]
      simp only [if_true]
      rw [e1, ih (by omega) hf, Option.map_some]
      refine congrArg some ?_
      rcases gr_is (c := c) (d := d) (e := e) (n := n) (m := m) a (b := m - f) (by omega) with h | ⟨t, g1, g2⟩
      · exact h.symm
      · have := h1 t g1
        rw [decide_eq_false_iff_not] at this
        exact absurd g2 this
theorem gro_first {a f : Nat} {ps : List Int} (ha : a ≤ n) (hf : f ≤ m) (hl : ps.length = a) (h : cso c d e m (n - a) f ps = some (GR c d e n m a (m - f))) : before ps (gro c d e n m a (m - f)) = false := by
  induction a generalizing f ps with
  | zero =>
    obtain rfl := List.length_eq_zero_iff.1 hl
    rfl
  | succ a ih =>
    cases ps with
    | nil => simp at hl
    | cons p ps =>
      have hl' : ps.length = a := by simpa using hl
      have e1 : n - (a + 1) + 1 = n - a := by omega
      have e2 : m - (m - f) = f := by omega
      have hp : p ≠ m → ¬ (p < f ∨ (m : Int) < p) := by
        intro hne hb
        simp only [cso] at h
        rw [if_neg hne, if_pos hb] at h
        cases h
      -- the pair's own test
      have key : p ≠ m → cso c d e m (n - a) (p.toNat + 1) ps = some (GR c d e n m a (m - (p.toNat + 1))) ∧ sg (p.toNat - f) (fun x => e (f + x)) + c (n - (a + 1)) p.toNat + GR c d e n m a (m - (p.toNat + 1)) = GR c d e n m (a + 1) (m - f) := by
        intro hne
        have hb := hp hne
        simp only [cso] at h
        rw [if_neg hne, if_neg hb, e1] at h
        obtain ⟨u, h1, h2⟩ := Option.map_eq_some_iff.1 h
        have h3 := cso_low (by omega) (by omega) hl' h1
        have h4 := gr_pass (c := c) (d := d) (e := e) (n := n) (m := m) a (b := m - f) (t := p.toNat - f) (by omega) (by omega)
        rw [e2, show f + (p.toNat - f) = p.toNat from by omega, show m - f - (p.toNat - f + 1) = m - (p.toNat + 1) from by omega] at h4
        refine ⟨?_, by omega⟩
        rw [h1]; congr 1; omega
      unfold gro
      split
      · rename_i t ht
        obtain ⟨g1, g2, g3⟩ := first_some ht
        rw [e2]
        simp only [before]
        split
        · rename_i he
          subst he
          obtain ⟨k1, k2⟩ := key (by omega)
          rw [Int.toNat_natCast] at k1
          have := ih (f := f + t + 1) (by omega) (by omega) hl' k1
          rw [show m - (f + t + 1) = m - f - (t + 1) from by omega] at this
          exact this
        · rename_i hne
          rw [decide_eq_false_iff_not]
          intro hlt
          have hb := hp (by omega)
          obtain ⟨k1, k2⟩ := key (by omega)
          have := g3 (p.toNat - f) (by omega)
          rw [decide_eq_false_iff_not, e2, show f + (p.toNat - f) = p.toNat from by omega, show m - f - (p.toNat - f + 1) = m - (p.toNat + 1) from by omega] at this
          exact this k2
      · rename_i hn
        have g1 := first_none hn
        simp only [before]
        split
        · rename_i he
          subst he
          simp only [cso] at h
          simp only [if_true] at h
          rw [e1] at h
          obtain ⟨u, h1, h2⟩ := Option.map_eq_some_iff.1 h
          have h3 := cso_low (by omega) hf hl' h1
          have h4 := gr_row (c := c) (d := d) (e := e) (n := n) (m := m) a (m - f)
          refine ih (by omega) hf hl' ?_
          rw [h1]; congr 1; omega
        · rename_i hne
          rw [decide_eq_false_iff_not]
          intro hlt
          have hb := hp hne
          obtain ⟨k1, k2⟩ := key hne
          have := g1 (p.toNat - f) (by omega)
          rw [decide_eq_false_iff_not, e2, show f + (p.toNat - f) = p.toNat from by omega, show m - f - (p.toNat - f + 1) = m - (p.toNat + 1) from by omega] at this
          exact this k2
theorem cso_keeps {i f : Nat} {ps : List Int} {v : Int} (h : cso c d e m i f ps = some v) : keeps m ((f : Int) - 1) ps = true := by
  induction ps generalizing i f v with
  | nil => rfl
  | cons p ps ih =>
    simp only [cso] at h
    unfold keeps
    split at h
    · rename_i hp
      obtain ⟨u, h1, -⟩ := Option.map_eq_some_iff.1 h
      rw [if_pos hp]; exact ih h1
    · rename_i hp
      split at h
      · cases h
      · obtain ⟨u, h1, -⟩ := Option.map_eq_some_iff.1 h
        rw [if_neg hp, if_neg (by omega)]
        have := ih h1
        rw [show ((p.toNat + 1 : Nat) : Int) - 1 = p from by omega] at this
        exact this
/-- A list that keeps the order costs the same either way. -/
theorem cs_cso {i f : Nat} {U : Nat → Bool} {ps : List Int} (hU : ∀ j, f ≤ j → j < m → U j = false) (hf : f ≤ m) (h : keeps m ((f : Int) - 1) ps = true) : cs c d e m i U ps = (cso c d e m i f ps).map (sg f (fun j => if U j then 0 else e j) + ·) := by
  induction ps generalizing i f U with
  | nil =>
    simp only [cs, cso, Option.map_some, Option.some.injEq]
    have e1 : m = f + (m - f) := by omega
    have e2 := sg_ext (n := f) (k := m - f) (f := fun j => if U j = true then 0 else e j)
    rw [← e1] at e2
    rw [e2]
    congr 1
    exact sg_congr fun t ht => by rw [hU (f + t) (by omega) (by omega)]; simp
  | cons p ps ih =>
    simp only [cs, cso]
    unfold keeps at h
    by_cases hp : p = m
    · rw [if_pos hp] at h
      rw [if_neg (by omega), if_pos hp, if_pos hp, ih hU hf h, Option.map_map, Option.map_map]
      congr 1; funext x; simp only [Function.comp]; omega
    · rw [if_neg hp] at h
      split at h
      · cases h
      rename_i hlt
      rw [if_neg hp, if_neg hp]
      by_cases hm : (m : Int) < p
      · rw [if_pos (by omega), if_pos (by omega)]; rfl
      · have hk : keeps m (((p.toNat + 1 : Nat) : Int) - 1) ps = true := by
          rw [show ((p.toNat + 1 : Nat) : Int) - 1 = p from by omega]; exact h
        rw [if_neg (by rintro (h | h | ⟨_, h⟩); omega; omega; rw [hU p.toNat (by omega) (by omega)] at h; cases h), if_neg (by omega)]
        rw [ih (f := p.toNat + 1) (U := ins U p.toNat) (fun j h1 h2 => by simp only [ins, hU j (by omega) h2, Bool.false_or, beq_eq_false_iff_ne]; omega) (by omega) hk, Option.map_map, Option.map_map]
        congr 1; funext x; simp only [Function.comp]
        have e1 : sg (p.toNat + 1) (fun j => if ins U p.toNat j then 0 else e j) = sg f (fun j => if U j then 0 else e j) + sg (p.toNat - f) (fun x => e (f + x)) := by
          rw [sg_succ]
          have e3 : ins U p.toNat p.toNat = true := by simp [ins]
          rw [e3]
          have e2 : p.toNat = f + (p.toNat - f) := by omega
          have e4 := sg_ext (n := f) (k := p.toNat - f) (f := fun j => if ins U p.toNat j = true then 0 else e j)
          rw [← e2] at e4
          rw [e4]
          simp only [if_true, Int.add_zero]
          congr 1
          · exact sg_congr fun j hj => by
              have : (j == p.toNat) = false := by simp; omega
              simp only [ins, this, Bool.or_false]
          · exact sg_congr fun t ht => by
              have : (f + t == p.toNat) = false := by simp; omega
              simp only [ins, this, Bool.or_false, hU (f + t) (by omega) (by omega)]; simp
        omega
theorem cs_cso0 {ps : List Int} (h : keeps m (-1) ps = true) : cs c d e m 0 noU ps = cso c d e m 0 0 ps := by
  have := cs_cso (c := c) (d := d) (e := e) (i := 0) (f := 0) (U := noU) (fun _ _ _ => rfl) (Nat.zero_le m) (ps := ps) (by simpa using h)
  rw [this]
  cases cso c d e m 0 0 ps <;> simp [sg]
/-! ### Order, of functions -/
def Mono (n m : Nat) (P : Nat → Nat) : Prop := ∀ i j, i < j → j < n → P i < m → P j < m → P i < P j
theorem keeps_lt {l : Int} {ps : List Int} (h : keeps m l ps = true) : (∀ i (hi : i < ps.length), ps[i] ≠ m → l < ps[i]) ∧ ∀ i j (hij : i < j) (hj : j < ps.length), ps[i] ≠ m → ps[j] ≠ m → ps[i] < ps[j] := by
  induction ps generalizing l with
  | nil => exact ⟨fun i hi => by simp at hi, fun i j _ hj => by simp at hj⟩
  | cons p ps ih =>
    unfold keeps at h
    split at h
    · rename_i hp
      obtain ⟨h1, h2⟩ := ih h
      refine ⟨fun i hi hne => ?_, fun i j hij hj hi' hj' => ?_⟩
      · cases i with
        | zero => exact absurd hp hne
        | succ i => exact h1 i (by simpa using hi) hne
      · cases i with
        | zero => exact absurd hp hi'
        | succ i =>
          cases j with
          | zero => omega
          | succ j => exact h2 i j (by omega) (by simpa using hj) hi' hj'
    · split at h
      · cases h
      · rename_i hp hl
        obtain ⟨h1, h2⟩ := ih h
        refine ⟨fun i hi hne => ?_, fun i j hij hj hi' hj' => ?_⟩
        · cases i with
          | zero => show l < p; omega
          | succ i => have := h1 i (by simpa using hi) hne; show l < ps[i]'(by simpa using hi); omega
        · cases j with
          | zero => omega
          | succ j =>
            cases i with
            | zero => exact h1 j (by simpa using hj) hj'
            | succ i => exact h2 i j (by omega) (by simpa using hj) hi' hj'
theorem keeps_mono {ps : List Int} (h : keeps m (-1) ps = true) : Mono ps.length m (lp ps) := by
  intro i j hij hj hi' hj'
  obtain ⟨h1, h2⟩ := keeps_lt h
  have e1 : lp ps i = (ps[i]'(by omega)).toNat := by simp [lp, List.getD_eq_getElem?_getD, List.getElem?_eq_getElem (show i < ps.length by omega)]
  have e2 : lp ps j = (ps[j]).toNat := by simp [lp, List.getD_eq_getElem?_getD, List.getElem?_eq_getElem hj]
  have g1 := h1 i (by omega)
  have g2 := h1 j hj
  have := h2 i j hij hj
  rw [e1] at hi' ⊢
  rw [e2] at hj' ⊢
  omega
theorem mono_keeps {k : Nat} {P : Nat → Nat} {l : Int} (h : Mono k m P) (hl : ∀ i, i < k → P i ≤ m ∧ (P i < m → l < P i)) : keeps m l (pl P k) = true := by
  induction k generalizing P l with
  | zero => rfl
  | succ k ih =>
    rw [pl_front]
    unfold keeps
    have h' : Mono k m (fun r => P (r + 1)) := fun i j hij hj => h (i + 1) (j + 1) (by omega) (by omega)
    split
    · exact ih h' fun i hi => hl (i + 1) (by omega)
    · rename_i hp
      have h0 := hl 0 (by omega)
      rw [if_neg (by omega)]
      refine ih h' fun i hi => ⟨(hl (i + 1) (by omega)).1, fun hm => ?_⟩
      have := h 0 (i + 1) (by omega) (by omega) (by omega) hm
      omega
/-- v is the least cost of those that keep the order. -/
structure OptO (c : Nat → Nat → Int) (d e : Nat → Int) (n m : Nat) (v : Int) : Prop where
  has : ∃ P, Asg n m P ∧ Mono n m P ∧ cost c d e n m P = v
  low : ∀ P, Asg n m P → Mono n m P → v ≤ cost c d e n m P
theorem GR_opt : OptO c d e n m (GR c d e n m n m) := by
  constructor
  · have h := gro_cso (c := c) (d := d) (e := e) (n := n) (m := m) (a := n) (f := 0) (Nat.le_refl n) (Nat.zero_le m)
    rw [Nat.sub_self, Nat.sub_zero] at h
    have hk : keeps m (-1) (gro c d e n m n m) = true := by have := cso_keeps h; simpa using this
    rw [← cs_cso0 hk] at h
    obtain ⟨h1, h2, -⟩ := cs_some h
    have h3 := keeps_mono hk
    rw [gro_len] at h1 h2 h3
    exact ⟨_, h1.asg, h3, by rw [h2, costU_cost]⟩
  · intro P hP hM
    have h := cs_of (c := c) (d := d) (e := e) (i := 0) (asgU_no hP)
    have hk : keeps m (-1) (pl P n) = true := mono_keeps hM fun i hi => ⟨hP.le i hi, fun _ => by omega⟩
    rw [costU_cost, cs_cso0 hk] at h
    have := cso_low (n := n) (a := n) (f := 0) (Nat.le_refl n) (Nat.zero_le m) (pl_len P n) (by rw [Nat.sub_self]; exact h)
    simpa using this
theorem OptO.uniq {v u : Int} (h : OptO c d e n m v) (g : OptO c d e n m u) : v = u := by
  obtain ⟨P, h1, h1', h2⟩ := h.has
  obtain ⟨Q, g1, g1', g2⟩ := g.has
  have := h.low Q g1 g1'; have := g.low P h1 h1'; omega
theorem Opt.le_ord {v u : Int} (h : Opt c d e n m v) (g : OptO c d e n m u) : v ≤ u := by
  obtain ⟨Q, g1, g1', g2⟩ := g.has
  have := h.low Q g1; omega
end
/-! ### Other orders -/
section
variable {c c' : Nat → Nat → Int} {d e d' e' : Nat → Int} {n m n' m' : Nat} {B : Int}
theorem opt_le {v v' : Int} (h : Opt c d e n m v) (h' : Opt c' d' e' n' m' v') (f : ∀ P, Asg n m P → ∃ P', Asg n' m' P' ∧ cost c' d' e' n' m' P' ≤ cost c d e n m P + B) : v' ≤ v + B := by
  obtain ⟨P, h1, h2⟩ := h.has
  obtain ⟨P', h3, h4⟩ := f P h1
  have := h'.low P' h3; omega
theorem optO_le {v v' : Int} (h : OptO c d e n m v) (h' : OptO c' d' e' n' m' v') (f : ∀ P, Asg n m P → Mono n m P → ∃ P', Asg n' m' P' ∧ Mono n' m' P' ∧ cost c' d' e' n' m' P' ≤ cost c d e n m P + B) : v' ≤ v + B := by
  obtain ⟨P, h1, h1', h2⟩ := h.has
  obtain ⟨P', h3, h3', h4⟩ := f P h1 h1'
  have := h'.low P' h3 h3'; omega
theorem cost_congr (hc : ∀ i, i < n → ∀ j, j < m → c i j = c' i j) (hd : ∀ i, i < n → d i = d' i) (he : ∀ j, j < m → e j = e' j) (P : Nat → Nat) : cost c d e n m P = cost c' d' e' n m P := by
  unfold cost
  congr 1
  · exact sg_congr fun i hi => by split; exact hc i hi _ (by assumption); exact hd i hi
  · exact sg_congr fun j hj => by split; rfl; exact he j hj
theorem Opt.congr {v : Int} (hc : ∀ i, i < n → ∀ j, j < m → c i j = c' i j) (hd : ∀ i, i < n → d i = d' i) (he : ∀ j, j < m → e j = e' j) (h : Opt c d e n m v) : Opt c' d' e' n m v := by
  obtain ⟨⟨P, h1, h2⟩, h3⟩ := h
  exact ⟨⟨P, h1, by rw [← cost_congr hc hd he]; exact h2⟩, fun Q hQ => by rw [← cost_congr hc hd he]; exact h3 Q hQ⟩
theorem OptO.congr {v : Int} (hc : ∀ i, i < n → ∀ j, j < m → c i j = c' i j) (hd : ∀ i, i < n → d i = d' i) (he : ∀ j, j < m → e j = e' j) (h : OptO c d e n m v) : OptO c' d' e' n m v := by
  obtain ⟨⟨P, h1, h1', h2⟩, h3⟩ := h
  exact ⟨⟨P, h1, h1', by rw [← cost_congr hc hd he]; exact h2⟩, fun Q hQ hM => by rw [← cost_congr hc hd he]; exact h3 Q hQ hM⟩
/-- Two orders of n places, each the other's inverse. -/
structure Inv (n : Nat) (s s' : Nat → Nat) : Prop where
  lt : ∀ i, i < n → s i < n
  lt' : ∀ i, i < n → s' i < n
  l : ∀ i, i < n → s' (s i) = i
  r : ∀ i, i < n → s (s' i) = i
theorem Inv.flip {s s' : Nat → Nat} (h : Inv n s s') : Inv n s' s := ⟨h.lt', h.lt, h.r, h.l⟩
theorem Inv.inj {s s' : Nat → Nat} (h : Inv n s s') {i j : Nat} (hi : i < n) (hj : j < n) (he : s i = s j) : i = j := by
  rw [← h.l i hi, he, h.l j hj]
theorem sg_perm {s s' : Nat → Nat} (h : Inv n s s') (f : Nat → Int) : sg n (fun i => f (s i)) = sg n f := by
  have hA : Asg n n s := ⟨fun i hi => Nat.le_of_lt (h.lt i hi), fun i j hi hj he _ => h.inj hi hj he⟩
  have h1 := col hA f
  rw [sg_congr (g := fun i => f (s i)) (fun i hi => by simp [h.lt i hi]), sg_congr (f := fun j => if used s n j then f j else 0) (g := f) (fun j hj => by rw [used_iff.2 ⟨s' j, h.lt' j hj, h.r j hj⟩]; simp)] at h1
  exact h1
def permP (m : Nat) (s t' : Nat → Nat) (P : Nat → Nat) : Nat → Nat := fun i => if P (s i) < m then t' (P (s i)) else m
theorem perm_asg {s s' t t' : Nat → Nat} (hs : Inv n s s') (ht : Inv m t t') {P : Nat → Nat} (hP : Asg n m P) : Asg n m (permP m s t' P) := by
  refine ⟨fun i hi => ?_, fun i j hi hj he hm => ?_⟩
  · unfold permP; split
    · rename_i h; exact Nat.le_of_lt (ht.lt' _ h)
    · exact Nat.le_refl _
  · unfold permP at he hm
    by_cases h1 : P (s i) < m <;> by_cases h2 : P (s j) < m <;> simp only [h1, h2, if_true, if_false] at he hm
    · have := ht.flip.inj h1 h2 he
      exact hs.inj hi hj (hP.inj _ _ (hs.lt i hi) (hs.lt j hj) this h1)
    · omega
    · omega
    · omega
theorem perm_cost {s s' t t' : Nat → Nat} (hs : Inv n s s') (ht : Inv m t t') {P : Nat → Nat} (hP : Asg n m P) : cost (fun i j => c (s i) (t j)) (fun i => d (s i)) (fun j => e (t j)) n m (permP m s t' P) = cost c d e n m P := by
  unfold cost
  congr 1
  · rw [← sg_perm hs (fun i => if P i < m then c i (P i) else d i)]
    refine sg_congr fun i hi => ?_
    unfold permP
    by_cases h : P (s i) < m
    · have := ht.lt' _ h
      rw [if_pos h, if_pos this, if_pos h]
      show c (s i) (t (t' (P (s i)))) = _
      rw [ht.r _ h]
    · rw [if_neg h, if_neg (Nat.lt_irrefl m), if_neg h]
  · rw [← sg_perm ht (fun j => if used P n j then 0 else e j)]
    refine sg_congr fun j hj => ?_
    have : used (permP m s t' P) n j = used P n (t j) := by
      rw [Bool.eq_iff_iff, used_iff, used_iff]
      constructor
      · rintro ⟨i, hi, he⟩
        unfold permP at he
        by_cases h : P (s i) < m
        · rw [if_pos h] at he
          exact ⟨s i, hs.lt i hi, by rw [← he, ht.r _ h]⟩
        · rw [if_neg h] at he; omega
      · rintro ⟨i, hi, he⟩
        refine ⟨s' i, hs.lt' i hi, ?_⟩
        have := ht.lt j hj
        unfold permP
        rw [hs.r i hi, he, if_pos this, ht.l j hj]
    rw [this]
theorem Opt.perm {s s' t t' : Nat → Nat} (hs : Inv n s s') (ht : Inv m t t') {v v' : Int} (h : Opt c d e n m v) (h' : Opt (fun i j => c (s i) (t j)) (fun i => d (s i)) (fun j => e (t j)) n m v') : v' = v := by
  have h1 := opt_le (B := 0) h h' fun P hP => ⟨_, perm_asg hs ht hP, by rw [perm_cost hs ht hP]; omega⟩
  have h2 := opt_le (B := 0) h' h fun P hP => ⟨_, perm_asg hs.flip ht.flip hP, by
    rw [← perm_cost hs.flip ht.flip hP, Int.add_zero]
    exact Int.le_of_eq (cost_congr (fun i hi j hj => by simp only [hs.r i hi, ht.r j hj]) (fun i hi => by simp only [hs.r i hi]) (fun j hj => by simp only [ht.r j hj]) _)⟩
  omega
/-- The opposite order. -/
def rev (n : Nat) : Nat → Nat := fun i => n - 1 - i
theorem rev_inv (n : Nat) : Inv n (rev n) (rev n) := ⟨fun i hi => by unfold rev; omega, fun i hi => by unfold rev; omega, fun i hi => by unfold rev; omega, fun i hi => by unfold rev; omega⟩
theorem rev_mono {P : Nat → Nat} (hP : Asg n m P) (h : Mono n m P) : Mono n m (permP m (rev n) (rev m) P) := by
  intro i j hij hj hi' hj'
  unfold permP at *
  by_cases h1 : P (rev n i) < m <;> by_cases h2 : P (rev n j) < m <;> simp only [h1, h2, if_true, if_false] at hi' hj' ⊢
  · have := h (rev n j) (rev n i) (by unfold rev; omega) (by unfold rev; omega) h2 h1
    simp only [rev] at *
    omega
  · omega
  · omega
  · omega
theorem OptO.rev {v v' : Int} (h : OptO c d e n m v) (h' : OptO (fun i j => c (rev n i) (rev m j)) (fun i => d (rev n i)) (fun j => e (rev m j)) n m v') : v' = v := by
  have hs := rev_inv n
  have ht := rev_inv m
  have h1 := optO_le (B := 0) h h' fun P hP hM => ⟨_, perm_asg hs ht hP, rev_mono hP hM, by rw [perm_cost hs ht hP]; omega⟩
  have h2 := optO_le (B := 0) h' h fun P hP hM => ⟨_, perm_asg hs ht hP, rev_mono hP hM, by
    rw [← perm_cost hs ht hP, Int.add_zero]
    exact Int.le_of_eq (cost_congr (fun i hi j hj => by simp only [hs.r i hi, ht.r j hj]) (fun i hi => by simp only [hs.r i hi]) (fun j hj => by simp only [ht.r j hj]) _)⟩
  omega
/-- Rows and columns exchanged. -/
def trP (n : Nat) (P : Nat → Nat) : Nat → Nat := fun j => ((List.range n).find? (fun i => P i == j)).getD n
theorem tr_some {P : Nat → Nat} {j : Nat} (h : trP n P j < n) : P (trP n P j) = j := by
  unfold trP at *
  cases e : (List.range n).find? (fun i => P i == j) with
  | none => rw [e] at h; simp at h
  | some i => have := (first_some e).2.1; simpa using this
theorem tr_le {P : Nat → Nat} {j : Nat} : trP n P j ≤ n := by
  unfold trP
  cases e : (List.range n).find? (fun i => P i == j) with
  | none => simp
  | some i => have := (first_some e).1; simp; omega
theorem tr_none {P : Nat → Nat} {j : Nat} (h : ¬ trP n P j < n) : used P n j = false := by
  unfold trP at h
  cases e : (List.range n).find? (fun i => P i == j) with
  | none =>
    have := first_none e
    exact used_not.2 fun i hi he => by have := this i hi; simp at this; exact this he
  | some i => rw [e] at h; have := (first_some e).1; simp at h; omega
theorem tr_at {P : Nat → Nat} (hP : Asg n m P) {i : Nat} (hi : i < n) (hm : P i < m) : trP n P (P i) = i := by
  have h1 : trP n P (P i) < n := by
    refine Nat.lt_of_not_le fun h => ?_
    have := tr_none (n := n) (P := P) (j := P i) (by omega)
    exact used_not.1 this i hi rfl
  exact hP.inj _ _ h1 hi (tr_some h1) (by rw [tr_some h1]; exact hm)
theorem tr_asg {P : Nat → Nat} (hP : Asg n m P) : Asg m n (trP n P) :=
  ⟨fun j _ => tr_le, fun i j hi hj he hm => by have h1 := tr_some (n := n) (P := P) (j := i) hm; have h2 := tr_some (n := n) (P := P) (j := j) (by omega); rw [he] at h1; exact h1.symm.trans h2⟩
theorem tr_used {P : Nat → Nat} (hP : Asg n m P) {i : Nat} (hi : i < n) : used (trP n P) m i = decide (P i < m) := by
  rw [Bool.eq_iff_iff, used_iff, decide_eq_true_eq]
  constructor
  · rintro ⟨j, hj, he⟩
    have := tr_some (n := n) (P := P) (j := j) (by omega)
    rw [he] at this; omega
  · intro h; exact ⟨P i, h, tr_at hP hi h⟩
theorem tr_cost {P : Nat → Nat} (hP : Asg n m P) : cost (fun j i => c i j) e d m n (trP n P) = cost c d e n m P := by
  unfold cost
  have h1 := col hP (fun j => c (trP n P j) j)
  have h2 : sg n (fun i => if P i < m then c i (P i) else d i) = sg n (fun i => if P i < m then c (trP n P (P i)) (P i) else 0) + sg n (fun i => if used (trP n P) m i then 0 else d i) := by
    rw [← sg_add]
    refine sg_congr fun i hi => ?_
    rw [tr_used hP hi]
    by_cases h : P i < m
    · simp [h, tr_at hP hi h]
    · simp [h]
  have h3 : sg m (fun j => if trP n P j < n then c (trP n P j) j else e j) = sg m (fun j => if used P n j then c (trP n P j) j else 0) + sg m (fun j => if used P n j then 0 else e j) := by
    rw [← sg_add]
    refine sg_congr fun j hj => ?_
    by_cases h : trP n P j < n
    · rw [used_iff.2 ⟨_, h, tr_some h⟩]; simp [h]
    · rw [tr_none h]; simp [h]
  rw [h2, h3, h1]; omega
theorem tr_mono {P : Nat → Nat} (hP : Asg n m P) (h : Mono n m P) : Mono m n (trP n P) := by
  intro i j hij hj hi' hj'
  have h1 := tr_some hi'
  have h2 := tr_some hj'
  refine Nat.lt_of_not_le fun hle => ?_
  rcases Nat.lt_or_eq_of_le hle with hlt | he
  · have := h _ _ hlt hi' (by omega) (by omega); omega
  · rw [he] at h2; omega
theorem Opt.tr {v v' : Int} (h : Opt c d e n m v) (h' : Opt (fun j i => c i j) e d m n v') : v' = v := by
  have h1 := opt_le (B := 0) h h' fun P hP => ⟨_, tr_asg hP, by rw [tr_cost hP]; omega⟩
  have h2 := opt_le (B := 0) h' h fun P hP => ⟨_, tr_asg hP, by rw [← tr_cost hP]; exact Int.le_of_eq (Int.add_zero _).symm⟩
  omega
theorem OptO.tr {v v' : Int} (h : OptO c d e n m v) (h' : OptO (fun j i => c i j) e d m n v') : v' = v := by
  have h1 := optO_le (B := 0) h h' fun P hP hM => ⟨_, tr_asg hP, tr_mono hP hM, by rw [tr_cost hP]; omega⟩
  have h2 := optO_le (B := 0) h' h fun P hP hM => ⟨_, tr_asg hP, tr_mono hP hM, by rw [← tr_cost hP]; exact Int.le_of_eq (Int.add_zero _).symm⟩
  omega
/-! ### One cost greater -/
/-- The second problem's costs are those of the first, but for one at most, which is greater by B. -/
structure Dearer (c c' : Nat → Nat → Int) (d e d' e' : Nat → Int) (n m : Nat) (B : Int) : Prop where
  pos : 0 ≤ B
  which : (∃ i j, (∀ r, r < n → ∀ k, k < m → c' r k = if r = i ∧ k = j then c r k + B else c r k) ∧ (∀ r, r < n → d' r = d r) ∧ ∀ k, k < m → e' k = e k) ∨
    (∃ i, (∀ r, r < n → ∀ k, k < m → c' r k = c r k) ∧ (∀ r, r < n → d' r = if r = i then d r + B else d r) ∧ ∀ k, k < m → e' k = e k) ∨
    (∃ j, (∀ r, r < n → ∀ k, k < m → c' r k = c r k) ∧ (∀ r, r < n → d' r = d r) ∧ ∀ k, k < m → e' k = if k = j then e k + B else e k)
theorem sg_B {k : Nat} (hB : 0 ≤ B) : sg n (fun i => if i = k then B else 0) ≤ B := by
  by_cases h : k < n
  · rw [sg_one (f := fun _ => B) h]; exact Int.le_refl _
  · rw [sg_eq0 (fun i hi => by rw [if_neg (by omega)])]; exact hB
theorem dearer_cost (h : Dearer c c' d e d' e' n m B) (P : Nat → Nat) : cost c d e n m P ≤ cost c' d' e' n m P ∧ cost c' d' e' n m P ≤ cost c d e n m P + B := by
  obtain ⟨hB, h⟩ := h
  unfold cost
  rcases h with ⟨i, j, h1, h2, h3⟩ | ⟨i, h1, h2, h3⟩ | ⟨j, h1, h2, h3⟩
  · have e1 : sg m (fun j => if used P n j then 0 else e' j) = sg m (fun j => if used P n j then 0 else e j) := sg_congr fun j hj => by rw [h3 j hj]
    have e2 : sg n (fun i => if P i < m then c i (P i) else d i) ≤ sg n (fun i => if P i < m then c' i (P i) else d' i) := sg_le fun r hr => by
      split
      · rename_i hp; rw [h1 r hr _ hp]; split <;> omega
      · rw [h2 r hr]; exact Int.le_refl _
    have e3 : sg n (fun i => if P i < m then c' i (P i) else d' i) ≤ sg n (fun r => (if P r < m then c r (P r) else d r) + if r = i then B else 0) := sg_le fun r hr => by
      by_cases hp : P r < m
      · rw [if_pos hp, if_pos hp, h1 r hr _ hp]
        by_cases hr' : r = i
        · rw [if_pos hr']; split <;> omega
        · rw [if_neg hr', if_neg (by omega)]; omega
      · rw [if_neg hp, if_neg hp, h2 r hr]; split <;> omega
    rw [sg_add] at e3
    have := sg_B (n := n) (k := i) hB
    omega
  · have e1 : sg m (fun j => if used P n j then 0 else e' j) = sg m (fun j => if used P n j then 0 else e j) := sg_congr fun j hj => by rw [h3 j hj]
    have e2 : sg n (fun i => if P i < m then c i (P i) else d i) ≤ sg n (fun i => if P i < m then c' i (P i) else d' i) := sg_le fun r hr => by
      split
      · rename_i hp; rw [h1 r hr _ hp]; exact Int.le_refl _
      · rw [h2 r hr]; split <;> omega
    have e3 : sg n (fun i => if P i < m then c' i (P i) else d' i) ≤ sg n (fun r => (if P r < m then c r (P r) else d r) + if r = i then B else 0) := sg_le fun r hr => by
      by_cases hp : P r < m
      · rw [if_pos hp, if_pos hp, h1 r hr _ hp]; split <;> omega
      · rw [if_neg hp, if_neg hp, h2 r hr]; split <;> omega
    rw [sg_add] at e3
    have := sg_B (n := n) (k := i) hB
    omega
  · have e1 : sg n (fun i => if P i < m then c' i (P i) else d' i) = sg n (fun i => if P i < m then c i (P i) else d i) := sg_congr fun r hr => by
      split
      · rename_i hp; rw [h1 r hr _ hp]
      · rw [h2 r hr]
    have e2 : sg m (fun j => if used P n j then 0 else e j) ≤ sg m (fun j => if used P n j then 0 else e' j) := sg_le fun k hk => by
      split
      · exact Int.le_refl _
      · rw [h3 k hk]; split <;> omega
    have e3 : sg m (fun j => if used P n j then 0 else e' j) ≤ sg m (fun k => (if used P n k then 0 else e k) + if k = j then B else 0) := sg_le fun k hk => by
      cases used P n k
      · simp only [Bool.false_eq_true, if_false]; rw [h3 k hk]; split <;> omega
      · simp only [if_true]; split <;> omega
    rw [sg_add] at e3
    have := sg_B (n := m) (k := j) hB
    omega
theorem Opt.dearer (h : Dearer c c' d e d' e' n m B) {v v' : Int} (h1 : Opt c d e n m v) (h2 : Opt c' d' e' n m v') : v ≤ v' ∧ v' ≤ v + B := by
  have g1 := opt_le (B := B) h1 h2 fun P hP => ⟨P, hP, (dearer_cost h P).2⟩
  have g2 := opt_le (B := 0) h2 h1 fun P hP => ⟨P, hP, by have := (dearer_cost h P).1; omega⟩
  omega
theorem OptO.dearer (h : Dearer c c' d e d' e' n m B) {v v' : Int} (h1 : OptO c d e n m v) (h2 : OptO c' d' e' n m v') : v ≤ v' ∧ v' ≤ v + B := by
  have g1 := optO_le (B := B) h1 h2 fun P hP hM => ⟨P, hP, hM, (dearer_cost h P).2⟩
  have g2 := optO_le (B := 0) h2 h1 fun P hP hM => ⟨P, hP, hM, by have := (dearer_cost h P).1; omega⟩
  omega
end
end Go.CH.Asg
namespace Go.Proofs.Ytalbhghigdanlaa
open Go.RowKit Go.CH Go.CH.Asg
open Go.ChangeMaps (setBlock)

/-- The answer v; nothing that was there has turned. -/
def BelowRet (w : World) (v : Value) (e : Ending) (w' : World) : Prop := e = .returned v ∧ Below w.heap.size w w'
def Quiet (w : World) (v : Value) (e : Ending) (w' : World) : Prop := e = .returned v ∧ w = w'
theorem quiet_bool {w : World} {a b : Bool} (h : a = b) : Quiet w (.bool b) (.returned (.bool a)) w := ⟨by rw [h], rfl⟩
theorem bel_bool {w w' : World} {a b : Bool} (h : b = a) (hb : Below w.heap.size w w') : BelowRet w (.bool b) (.returned (.bool a)) w' := ⟨by rw [h], hb⟩
def ints (l : List Int) : List Value := l.map (Value.int .i64)
theorem ints_one (l : List Int) : ∀ u ∈ ints l, u.oneCell' = true := by
  intro u hu
  obtain ⟨s, _, rfl⟩ := List.mem_map.1 hu
  rfl
theorem ints_len (l : List Int) : (ints l).length = l.length := by simp [ints]
theorem ints_get {l : List Int} {k : Nat} (h : k < l.length) : (ints l)[k]? = some (.int .i64 l[k]) := by simp [ints, h]
/-- A list of numbers at A. -/
def Vec (w : World) (A : Option Addr) (l : List Int) : Prop := Src w A l.length 1 (ints l)
theorem src_below {w w' : World} {A : Option Addr} {n size : Nat} {xs : List Value} (h : Src w A n size xs) (hb : Below w.heap.size w w') : Src w' A n size xs :=
  ((Run.begin w).below emp_ok hb).src0 h
theorem Vec.below {w w' : World} {A : Option Addr} {l : List Int} (h : Vec w A l) (hb : Below w.heap.size w w') : Vec w' A l := src_below h hb
theorem Vec.drew {w : World} {A : Option Addr} {l : List Int} (h : Vec w A l) : Vec w.drew A l := h.below (below_drew (Below.refl _ _))
/-- The cells of a list, in all worlds behind. -/
theorem Vec.at {w : World} {A : Option Addr} {l : List Int} (h : Vec w A l) (hn : 0 < l.length) :
    ∃ b o, A = some ⟨b, o, none⟩ ∧ ∀ w', Below w.heap.size w w' → ∀ j (hj : j < l.length), w'.cell? ⟨b, o + j, none⟩ = some (.int .i64 l[j]) := by
  obtain ⟨b, o, rfl, hc⟩ := Src.open_ h hn (by omega)
  refine ⟨b, o, rfl, fun w' hb j hj => ?_⟩
  have h1 := hc j _ (ints_get hj)
  rw [hb.cell (World.block_lt_of_cell? _ _ h1)]; exact h1
/-- A list of lists of numbers at A. -/
structure Mat (w : World) (A : Option Addr) (C : List (List Int)) (V : List (Option Addr × Nat)) : Prop where
  len : V.length = C.length
  src : Src w A C.length 1 (V.mapIdx fun i x => .slice x.1 (C.getD i []).length x.2)
  row : ∀ i (hi : i < C.length) x, V[i]? = some x → Vec w x.1 C[i] ∧ C[i].length ≤ x.2
theorem Mat.below {w w' : World} {A : Option Addr} {C : List (List Int)} {V : List (Option Addr × Nat)} (h : Mat w A C V) (hb : Below w.heap.size w w') : Mat w' A C V :=
  ⟨h.len, src_below h.src hb, fun i hi x hx => ⟨(h.row i hi x hx).1.below hb, (h.row i hi x hx).2⟩⟩
/-- A row of a list of lists. -/
theorem Mat.at {w : World} {A : Option Addr} {C : List (List Int)} {V : List (Option Addr × Nat)} (h : Mat w A C V) (hn : 0 < C.length) :
    ∃ b o, A = some ⟨b, o, none⟩ ∧ ∀ j (hj : j < C.length), ∃ B c, C[j].length ≤ c ∧ Vec w B C[j] ∧ ∀ w', Below w.heap.size w w' → w'.cell? ⟨b, o + j, none⟩ = some (.slice B C[j].length c) := by
  obtain ⟨b, o, rfl, hc⟩ := Src.open_ h.src hn (by omega)
  refine ⟨b, o, rfl, fun j hj => ?_⟩
  have hv : V[j]? = some (V[j]'(by rw [h.len]; exact hj)) := List.getElem?_eq_getElem _
  obtain ⟨h1, h2⟩ := h.row j hj _ hv
  refine ⟨_, _, h2, h1, fun w' hb => ?_⟩
  have h3 := hc j (.slice (V[j]'(by rw [h.len]; exact hj)).1 C[j].length (V[j]'(by rw [h.len]; exact hj)).2) (by
    rw [List.getElem?_mapIdx, hv]
    simp [List.getD_eq_getElem?_getD, hj])
  rw [hb.cell (World.block_lt_of_cell? _ _ h3)]; exact h3
/-! ### Plain words -/
def wi (l : List Int) (lo hi : Int) : Bool := l.all fun n => decide (lo ≤ n) && decide (n ≤ hi)
theorem wi_take {l : List Int} {lo hi : Int} {k : Nat} (h : k < l.length) : wi (l.take (k + 1)) lo hi = (wi (l.take k) lo hi && (decide (lo ≤ l[k]) && decide (l[k] ≤ hi))) := by
  unfold wi
  rw [List.take_succ_eq_append_getElem h, List.all_append]; simp
theorem wi_no {l : List Int} {lo hi : Int} {k : Nat} (h : wi (l.take (k + 1)) lo hi = false) : wi l lo hi = false := by
  unfold wi at *
  rw [List.all_eq_false] at *
  obtain ⟨x, hx, h1⟩ := h
  exact ⟨x, List.mem_of_mem_take hx, h1⟩
theorem wi_at {l : List Int} {lo hi : Int} (h : wi l lo hi = true) {k : Nat} (hk : k < l.length) : lo ≤ l[k] ∧ l[k] ≤ hi := by
  unfold wi at h
  rw [List.all_eq_true] at h
  simpa using h l[k] (List.getElem_mem _)
def few (C : List (List Int)) (D E : List Int) : Bool := C.all (fun r => decide (r.length ≤ 20)) && (decide (C.length ≤ 20) && decide (D.length ≤ 20) && decide (E.length ≤ 20))
/-- A valid problem. -/
def vld (C : List (List Int)) (D E : List Int) : Bool :=
  decide (C.length = D.length) && decide (D.length ≤ 6) && decide (E.length ≤ 6) && wi D 0 10000 && wi E 0 10000 && C.all (fun r => decide (r.length = E.length) && wi r 0 100000)
theorem go_int {a b : Int} (h : ¬ a < b) : b ≤ a := by omega

set_option maxHeartbeats 800000 in
theorem rwithin_any {w : World} {A : Option Addr} {c : Nat} {l : List Int} (h : Vec w A l) (hl : l.length ≤ 1000000) (lo hi : Int) :
    Calls Try.prog 33 #[.slice A l.length c, .int .i64 lo, .int .i64 hi] w (Quiet w (.bool (wi l lo hi))) := by
  have HA := hide h
  obtain ⟨n, hn⟩ : ∃ n, n = l.length := ⟨_, rfl⟩
  rw [← hn] at hl
  have HN := hide hn
  rw [← hn]
  clear h hn
  go_enter Try.func33, Try.ntmps33
  go_wp2
  go_loop [7] (fun i => ∃ k : Nat, k ≤ n ∧ i = .int .i64 k ∧ wi (l.take k) lo hi = true) (fun i => n - (intOf i).toNat)
  case atStart => exact ⟨0, Nat.zero_le _, rfl, rfl⟩
  case round =>
    obtain ⟨k, hk, rfl, hw⟩ := hrel
    have HW := hide hw
    clear hw
    by_cases hlt : k < n
    · have hkl : k < l.length := by rw [← HN.out]; exact hlt
      obtain ⟨b, o, rfl, hc⟩ := HA.out.at (by omega)
      have c0 := hc w (Below.refl _ _) k hkl
      have HT := hide (wi_take (lo := lo) (hi := hi) hkl)
      have HNO := hide (wi_no (l := l) (lo := lo) (hi := hi) (k := k))
      generalize l[k] = x at *
      clear hc
      by_cases h1 : x < lo
      · go_wp2
        go_ret
        refine quiet_bool (HNO.out ?_).symm
        rw [HT.out]; simp; omega
      · by_cases h2 : hi < x
        · go_wp2
          go_ret
          refine quiet_bool (HNO.out ?_).symm
          rw [HT.out]; simp; omega
        · go_wp2
          go_round
          case rel => exact ⟨k + 1, by omega, by go_num, by rw [HT.out, HW.out]; simp; omega⟩
          case measure => simp [intOf]; omega
    · obtain rfl : k = n := by omega
      have HF := hide (show true = wi l lo hi by rw [← HW.out, HN.out, List.take_length])
      clear HW
      go_wp2
      go_ret
      exact quiet_bool HF.out
end Go.Proofs.Ytalbhghigdanlaa
namespace Go.Proofs.Ytalbhghigdanlaa
open Go.RowKit Go.CH Go.CH.Asg
open Go.ChangeMaps (setBlock)

theorem take_eq {a b : List Int} {k : Nat} (h : a.take k = b.take k) (ha : k < a.length) (hb : k < b.length) (he : a[k] = b[k]) : a.take (k + 1) = b.take (k + 1) := by
  rw [List.take_succ_eq_append_getElem ha, List.take_succ_eq_append_getElem hb, h, he]
set_option maxHeartbeats 1600000 in
theorem ints_any {w : World} {A B : Option Addr} {c d : Nat} {a b : List Int} (hA : Vec w A a) (hB : Vec w B b) (hl : a.length ≤ 1000000) :
    Calls Try.prog 23 #[.slice A a.length c, .slice B b.length d] w (BelowRet w (.bool (decide (a = b)))) := by
  have HA := hide hA
  have HB := hide hB
  obtain ⟨n, hn⟩ : ∃ n, n = a.length := ⟨_, rfl⟩
  obtain ⟨m, hm⟩ : ∃ m, m = b.length := ⟨_, rfl⟩
  rw [← hn] at hl
  have HN := hide hn
  have HM := hide hm
  rw [← hn, ← hm]
  clear hA hB hn hm
  by_cases hnm : n = m
  · subst hnm
    go_enter Try.func23, Try.ntmps23
    go_wp2
    go_loopw [5] (fun i wr => ∃ k : Nat, k ≤ n ∧ i = .int .i64 k ∧ a.take k = b.take k ∧ Below w.heap.size w wr) (fun i _ => n - (intOf i).toNat)
    case atStart => exact ⟨0, Nat.zero_le _, rfl, rfl, Below.refl _ _⟩
    case round =>
      obtain ⟨k, hk, rfl, ht, hb⟩ := hrel
      have HT := hide ht
      have HBD := hide (below_drew hb)
      have HBL := hide hb
      clear ht hb
      by_cases hlt : k < n
      · have hka : k < a.length := by rw [← HN.out]; exact hlt
        have hkb : k < b.length := by rw [← HM.out]; exact hlt
        obtain ⟨b1, o1, rfl, hc1⟩ := HA.out.at (by omega)
        obtain ⟨b2, o2, rfl, hc2⟩ := HB.out.at (by omega)
        have c1 := hc1 _ HBD.out k hka
        have c2 := hc2 _ HBD.out k hkb
        have HX := hide (take_eq HT.out hka hkb)
        have HY := hide (show a[k] ≠ b[k] → a ≠ b from fun h e => h (by subst e; rfl))
        generalize a[k] = x at *
        generalize b[k] = y at *
        clear hc1 hc2
        by_cases hxy : x = y
        · have HS := hide (HX.out hxy)
          clear HX
          subst hxy
          go_wp2_with fail
          refine wp_region_lex (fun w' => w' = wr.drew) (by kernel_rfl) (by kernel_rfl) rfl ?_
          generalize wr.drew = wd at *
          (repeat (first | (refine lex_skip (by rfl) ?_; try simp only [Act.put, List.setIfInBounds_toArray, List.set_cons_zero, List.set_cons_succ]) | (refine lex_read (v := ?_) (by rfl) ?_ ?_; rotate_left; (focus (intro w' hS'; go_simp; (try with_reducible rfl); done)); try simp only [Act.put, List.setIfInBounds_toArray, List.set_cons_zero, List.set_cons_succ])))
          refine lex_nil ?_
          go_wp2
          go_roundw
          case rel => exact ⟨k + 1, by omega, by go_num, HS.out, HBD.out⟩
          case measure => simp [intOf]; omega
        · have t1 : (x == y) = false := by simpa using hxy
          have t2 : (x != y) = true := by simpa using hxy
          have HF := hide (decide_eq_false (HY.out hxy))
          clear hxy
          go_wp2_with fail
          refine wp_region_lex (fun w' => w' = wr.drew) (by kernel_rfl) (by kernel_rfl) rfl ?_
          generalize wr.drew = wd at *
          (repeat (first | (refine lex_skip (by rfl) ?_; try simp only [Act.put, List.setIfInBounds_toArray, List.set_cons_zero, List.set_cons_succ]) | (refine lex_read (v := ?_) (by rfl) ?_ ?_; rotate_left; (focus (intro w' hS'; go_simp; (try with_reducible rfl); done)); try simp only [Act.put, List.setIfInBounds_toArray, List.set_cons_zero, List.set_cons_succ])))
          refine lex_nil ?_
          go_wp2
          go_ret
          exact bel_bool HF.out HBD.out
      · obtain rfl : k = n := by omega
        have HF := hide (show decide (a = b) = true by
          rw [decide_eq_true_eq]
          have := HT.out
          rw [HN.out, List.take_length, ← HN.out, HM.out, List.take_length] at this
          exact this)
        clear HT
        go_wp2
        go_ret
        exact bel_bool HF.out HBL.out
  · have HF := hide (show decide (a = b) = false by
      rw [decide_eq_false_iff_not]
      intro e
      exact hnm (by rw [HN.out, HM.out, e]))
    go_enter Try.func23, Try.ntmps23
    go_wp2
    go_ret
    exact bel_bool HF.out (Below.refl _ _)
theorem before_eq {a b : List Int} {k : Nat} (ha : k < a.length) (hb : k < b.length) : before (a.drop k) (b.drop k) = if a[k] = b[k] then before (a.drop (k + 1)) (b.drop (k + 1)) else decide (a[k] < b[k]) := by
  rw [List.drop_eq_getElem_cons ha, List.drop_eq_getElem_cons hb, before]
theorem before_end {a b : List Int} {k : Nat} (h : a.length ≤ k ∨ b.length ≤ k) : before (a.drop k) (b.drop k) = false := by
  rcases h with h | h
  · rw [List.drop_eq_nil_of_le h]; rfl
  · rw [List.drop_eq_nil_of_le h]; cases a.drop k <;> rfl
set_option maxHeartbeats 1600000 in
theorem before_any {w : World} {A B : Option Addr} {c d : Nat} {a b : List Int} (hA : Vec w A a) (hB : Vec w B b) (hl : a.length ≤ 1000000) :
    Calls Try.prog 15 #[.slice A a.length c, .slice B b.length d] w (BelowRet w (.bool (before a b))) := by
  have HA := hide hA
  have HB := hide hB
  obtain ⟨n, hn⟩ : ∃ n, n = a.length := ⟨_, rfl⟩
  obtain ⟨m, hm⟩ : ∃ m, m = b.length := ⟨_, rfl⟩
  rw [← hn] at hl
  have HN := hide hn
  have HM := hide hm
  rw [← hn, ← hm]
  clear hA hB hn hm
  go_enter Try.func15, Try.ntmps15
  go_wp2
  go_loopw [5] (fun i wr => ∃ k : Nat, k ≤ n ∧ i = .int .i64 k ∧ before a b = before (a.drop k) (b.drop k) ∧ Below w.heap.size w wr) (fun i _ => n - (intOf i).toNat)
  case atStart => exact ⟨0, Nat.zero_le _, rfl, rfl, Below.refl _ _⟩
  case round =>
    obtain ⟨k, hk, rfl, ht, hb⟩ := hrel
    have HT := hide ht
    have HBD := hide (below_drew hb)
    have HB2 := hide (below_drew (below_drew hb))
    have HBL := hide hb
    clear ht hb
    by_cases hlt : k < n
    · by_cases hlt2 : k < m
      · have hka : k < a.length := by rw [← HN.out]; exact hlt
        have hkb : k < b.length := by rw [← HM.out]; exact hlt2
        obtain ⟨b1, o1, rfl, hc1⟩ := HA.out.at (by omega)
        obtain ⟨b2, o2, rfl, hc2⟩ := HB.out.at (by omega)
        have c1 := hc1 _ HBD.out k hka
        have c2 := hc2 _ HBD.out k hkb
        have c3 := hc1 _ HB2.out k hka
        have c4 := hc2 _ HB2.out k hkb
        have HX := hide (before_eq hka hkb)
        generalize a[k] = x at *
        generalize b[k] = y at *
        clear hc1 hc2
        by_cases hxy : x = y
        · have HS := hide (show before a b = before (a.drop (k + 1)) (b.drop (k + 1)) by rw [HT.out, HX.out, if_pos hxy])
          clear HX HT
          subst hxy
          clear c3 c4
          go_wp2_with fail
          refine wp_region_lex (fun w' => w' = wr.drew) (by kernel_rfl) (by kernel_rfl) rfl ?_
          generalize wr.drew = wd at *
          (repeat (first | (refine lex_skip (by rfl) ?_; try simp only [Act.put, List.setIfInBounds_toArray, List.set_cons_zero, List.set_cons_succ]) | (refine lex_read (v := ?_) (by rfl) ?_ ?_; rotate_left; (focus (intro w' hS'; go_simp; (try with_reducible rfl); done)); try simp only [Act.put, List.setIfInBounds_toArray, List.set_cons_zero, List.set_cons_succ])))
          refine lex_nil ?_
          go_wp2
          go_roundw
          case rel => exact ⟨k + 1, by omega, by go_num, HS.out, HBD.out⟩
          case measure => simp [intOf]; omega
        · have t1 : (x == y) = false := by simpa using hxy
          have t2 : (x != y) = true := by simpa using hxy
          have HF := hide (show before a b = decide (x < y) by rw [HT.out, HX.out, if_neg hxy])
          clear hxy HT HX
          go_wp2_with fail
          refine wp_region_lex (fun w' => w' = wr.drew) (by kernel_rfl) (by kernel_rfl) rfl ?_
          generalize wr.drew = wd at *
          (repeat (first | (refine lex_skip (by rfl) ?_; try simp only [Act.put, List.setIfInBounds_toArray, List.set_cons_zero, List.set_cons_succ]) | (refine lex_read (v := ?_) (by rfl) ?_ ?_; rotate_left; (focus (intro w' hS'; go_simp; (try with_reducible rfl); done)); try simp only [Act.put, List.setIfInBounds_toArray, List.set_cons_zero, List.set_cons_succ])))
          refine lex_nil ?_
          clear c1 c2 t1 t2
          go_wp2_with fail
          refine wp_region_lex (fun w' => w' = wd.drew) (by kernel_rfl) (by kernel_rfl) rfl ?_
          generalize wd.drew = we at *
          (repeat (first | (refine lex_skip (by rfl) ?_; try simp only [Act.put, List.setIfInBounds_toArray, List.set_cons_zero, List.set_cons_succ]) | (refine lex_read (v := ?_) (by rfl) ?_ ?_; rotate_left; (focus (intro w' hS'; go_simp; (try with_reducible rfl); done)); try simp only [Act.put, List.setIfInBounds_toArray, List.set_cons_zero, List.set_cons_succ])))
          refine lex_nil ?_
          go_wp2
          go_ret
          exact bel_bool HF.out HB2.out
      · have HF := hide (show before a b = false by rw [HT.out]; exact before_end (.inr (by rw [← HM.out]; omega)))
        clear HT
        go_wp2
        go_ret
        exact bel_bool HF.out HBL.out
    · have HF := hide (show before a b = false by rw [HT.out]; exact before_end (.inl (by rw [← HN.out]; omega)))
      clear HT
      go_wp2
      go_ret
      exact bel_bool HF.out HBL.out
theorem keeps_at {m : Nat} {l : Int} {ps : List Int} {k : Nat} (h : k < ps.length) : keeps m l (ps.drop k) = if ps[k] = m then keeps m l (ps.drop (k + 1)) else if ps[k] ≤ l then false else keeps m ps[k] (ps.drop (k + 1)) := by
  rw [List.drop_eq_getElem_cons h, keeps]
set_option maxHeartbeats 1600000 in
theorem keeps_any {w : World} {A : Option Addr} {c : Nat} {ps : List Int} (hA : Vec w A ps) (hl : ps.length ≤ 1000000) (m : Nat) :
    Calls Try.prog 27 #[.slice A ps.length c, .int .i64 m] w (Quiet w (.bool (keeps m (-1) ps))) := by
  have HA := hide hA
  obtain ⟨n, hn⟩ : ∃ n, n = ps.length := ⟨_, rfl⟩
  rw [← hn] at hl
  have HN := hide hn
  rw [← hn]
  clear hA hn
  go_enter Try.func27, Try.ntmps27
  go_wp2
  go_loop [5, 6] (fun la i => ∃ (k : Nat) (l : Int), k ≤ n ∧ la = .int .i64 l ∧ i = .int .i64 k ∧ keeps m (-1) ps = keeps m l (ps.drop k)) (fun _ i => n - (intOf i).toNat)
  case atStart => exact ⟨0, -1, Nat.zero_le _, rfl, rfl, rfl⟩
  case round =>
    obtain ⟨k, l, hk, rfl, rfl, ht⟩ := hrel
    have HT := hide ht
    clear ht
    by_cases hlt : k < n
    · have hka : k < ps.length := by rw [← HN.out]; exact hlt
      obtain ⟨b1, o1, rfl, hc1⟩ := HA.out.at (by omega)
      have c1 := hc1 _ (Below.refl _ _) k hka
      have HX := hide (keeps_at (m := m) (l := l) hka)
      generalize ps[k] = x at *
      clear hc1
      by_cases hxm : x = m
      · have HF := hide (show keeps m (-1) ps = keeps m l (ps.drop (k + 1)) by rw [HT.out, HX.out, if_pos hxm])
        have t1 : (x == (m : Int)) = true := by simpa using hxm
        have t2 : (x != (m : Int)) = false := by simpa using hxm
        clear HT HX hxm
        go_wp2
        go_round
        case rel => exact ⟨k + 1, l, by omega, rfl, by go_num, HF.out⟩
        case measure => simp [intOf]; omega
      · have t1 : (x == (m : Int)) = false := by simpa using hxm
        have t2 : (x != (m : Int)) = true := by simpa using hxm
        by_cases hxl : x ≤ l
        · have HF := hide (show keeps m (-1) ps = false by rw [HT.out, HX.out, if_neg hxm, if_pos hxl])
          clear HT HX hxm
          go_wp2
          go_ret
          exact quiet_bool HF.out.symm
        · have HF := hide (show keeps m (-1) ps = keeps m x (ps.drop (k + 1)) by rw [HT.out, HX.out, if_neg hxm, if_neg hxl])
          clear HT HX hxm
          go_wp2
          go_round
          case rel => exact ⟨k + 1, x, by omega, rfl, by go_num, HF.out⟩
          case measure => simp [intOf]; omega
    · obtain rfl : k = n := by omega
      have HF := hide (show true = keeps m (-1) ps by rw [HT.out, List.drop_eq_nil_of_le (by rw [← HN.out]; exact Nat.le_refl _)]; rfl)
      clear HT
      go_wp2
      go_ret
      exact quiet_bool HF.out
theorem few_take {C : List (List Int)} {k : Nat} (h : k < C.length) : (C.take (k + 1)).all (fun r => decide (r.length ≤ 20)) = ((C.take k).all (fun r => decide (r.length ≤ 20)) && decide (C[k].length ≤ 20)) := by
  rw [List.take_succ_eq_append_getElem h, List.all_append]; simp
set_option maxHeartbeats 1600000 in
theorem few_any {w : World} {A B G : Option Addr} {V : List (Option Addr × Nat)} {c d e : Nat} {C : List (List Int)} {D E : List Int} (h : Mat w A C V) (hl : C.length ≤ maxLen) :
    Calls Try.prog 11 #[.slice A C.length c, .slice B D.length d, .slice G E.length e] w (Quiet w (.bool (few C D E))) := by
  unfold maxLen at hl
  have HA := hide h
  obtain ⟨n, hn⟩ : ∃ n, n = C.length := ⟨_, rfl⟩
  obtain ⟨nd, hnd⟩ : ∃ n, n = D.length := ⟨_, rfl⟩
  obtain ⟨ne, hne⟩ : ∃ n, n = E.length := ⟨_, rfl⟩
  have HN := hide hn
  have HF0 := hide (show few C D E = (C.all (fun r => decide (r.length ≤ 20)) && (decide (n ≤ 20) && decide (nd ≤ 20) && decide (ne ≤ 20))) by rw [hn, hnd, hne]; rfl)
  rw [← hn] at hl
  rw [← hn, ← hnd, ← hne]
  clear h hn hnd hne
  go_enter Try.func11, Try.ntmps11
  go_wp2
  go_loop [7] (fun i => ∃ k : Nat, k ≤ n ∧ i = .int .i64 k ∧ (C.take k).all (fun r => decide (r.length ≤ 20)) = true) (fun i => n - (intOf i).toNat)
  case atStart => exact ⟨0, Nat.zero_le _, rfl, rfl⟩
  case round =>
    obtain ⟨k, hk, rfl, ht⟩ := hrel
    have HT := hide ht
    clear ht
    by_cases hlt : k < n
    · have hka : k < C.length := by rw [← HN.out]; exact hlt
      obtain ⟨b1, o1, rfl, hc1⟩ := HA.out.at (by omega)
      obtain ⟨Bk, ck, -, -, hck⟩ := hc1 k hka
      have c1 := hck _ (Below.refl _ _)
      have HX := hide (few_take hka)
      have HY := hide (show ¬ C[k].length ≤ 20 → C.all (fun r => decide (r.length ≤ 20)) = false from fun h => List.all_eq_false.2 ⟨C[k], List.getElem_mem _, by simpa using h⟩)
      generalize C[k].length = x at *
      clear hc1 hck
      by_cases hx : x ≤ 20
      · have HS := hide (show (C.take (k + 1)).all (fun r => decide (r.length ≤ 20)) = true by rw [HX.out, HT.out]; simpa using hx)
        clear HT HX
        go_wp2
        go_round
        case rel => exact ⟨k + 1, by omega, by go_num, HS.out⟩
        case measure => simp [intOf]; omega
      · have HS := hide (show false = few C D E by rw [HF0.out, HY.out hx]; rfl)
        clear HT HX
        go_wp2
        go_ret
        exact quiet_bool HS.out
    · obtain rfl : k = n := by omega
      have HF := hide (show few C D E = (decide (k ≤ 20) && decide (nd ≤ 20) && decide (ne ≤ 20)) by
        have := HT.out
        rw [HN.out, List.take_length] at this
        rw [HF0.out, this, Bool.true_and])
      clear HT HF0
      by_cases g1 : k ≤ 20
      · by_cases g2 : nd ≤ 20
        · go_wp2
          go_ret
          refine quiet_bool ?_
          rw [HF.out, decide_eq_true g1, decide_eq_true g2]
          simp; omega
        · go_wp2
          go_ret
          refine quiet_bool ?_
          rw [HF.out, decide_eq_false g2]; simp
      · go_wp2
        go_ret
        refine quiet_bool ?_
        rw [HF.out, decide_eq_false g1]; simp
end Go.Proofs.Ytalbhghigdanlaa
