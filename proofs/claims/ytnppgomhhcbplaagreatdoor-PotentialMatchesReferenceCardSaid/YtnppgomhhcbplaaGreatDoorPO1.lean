/-
  Script: letters of words, plainly.
  Script: words joined, words without capital letters, words of several scripts, plainly.
  Script: names and their texts, plainly.
  Script: laws of reading a text, plainly.
-/

set_option linter.unusedSimpArgs false
set_option linter.unusedVariables false
namespace Go.CH.Scr

abbrev Bs := List UInt8
def smallS : Bs := [97, 98, 99, 100, 101, 102, 103, 104, 105, 106, 107, 108, 109, 110, 111, 112, 113, 114, 115, 116, 117, 118, 119, 120, 121, 122]
def capS : Bs := [65, 66, 67, 68, 69, 70, 71, 72, 73, 74, 75, 76, 77, 78, 79, 80, 81, 82, 83, 84, 85, 86, 87, 88, 89, 90]
def accS : Bs := [39, 96, 94]
def abjS : Bs := [98, 100, 102, 103, 104, 106, 107, 108, 109, 110, 112, 113, 114, 115, 116, 119, 120, 121, 122, 39]
def vowS : Bs := [97, 105, 117, 101, 111]
def onsS : Bs := [107, 115, 116, 110, 104, 109, 121, 114, 119, 103, 122, 100, 98, 112]
/-- A byte is one of some. -/
def has (S : Bs) : Option UInt8 → Bool
  | none => false
  | some c => S.contains c
def low (c : UInt8) : UInt8 := if 65 ≤ c ∧ c ≤ 90 then c + 32 else c
/-- The length of the letter that begins with a and goes on with b. -/
def lt2 (k : Int) (a : UInt8) (b : Option UInt8) : Nat :=
  if k = 1 then (if has smallS (some a) then 1 else 0)
  else if k = 2 then (if has smallS (some (low a)) then (if has accS b then 2 else 1) else 0)
  else if k = 3 then (if has abjS (some a) then 1 else 0)
  else if k = 4 then (if has onsS (some a) && has vowS b then 2 else if has vowS (some a) || has [110] (some a) then 1 else 0)
  else 0
/-- The length of the letter with which a text begins, 0 if it begins with none. -/
def len1 (k : Int) : Bs → Nat
  | [] => 0
  | a :: l => lt2 k a l.head?
/-- What may be the second byte of a letter. -/
def sec (k : Int) : Bs := if k = 2 then accS else if k = 4 then vowS else []
section
variable {k : Int} {a : UInt8} {b : Option UInt8} {l : Bs}
theorem lt2_le : lt2 k a b ≤ 2 := by
  unfold lt2
  repeat' split
  all_goals omega
theorem has_none {S : Bs} : has S none = false := rfl
/-- A letter of two bytes: the second one may be one. -/
theorem lt2_two (h : lt2 k a b = 2) : has (sec k) b = true := by
  unfold lt2 at h
  unfold sec
  by_cases h1 : k = 1
  · rw [if_pos h1] at h; split at h <;> omega
  rw [if_neg h1] at h
  by_cases h2 : k = 2
  · rw [if_pos h2] at h ⊢
    split at h
    · split at h
      · assumption
      · omega
    · omega
  rw [if_neg h2] at h ⊢
  by_cases h3 : k = 3
  · rw [if_pos h3] at h; split at h <;> omega
  rw [if_neg h3] at h
  by_cases h4 : k = 4
  · rw [if_pos h4] at h ⊢
    split at h
    · rename_i hh; simp at hh; exact hh.2
    · split at h <;> omega
  · rw [if_neg h4] at h; omega
/-- What is no second byte does not matter. -/
theorem lt2_none (h : has (sec k) b = false) : lt2 k a b = lt2 k a none := by
  unfold lt2 sec at *
  by_cases h1 : k = 1
  · simp [h1]
  by_cases h2 : k = 2
  · simp [h2] at h ⊢; simp [h, has_none]
  by_cases h3 : k = 3
  · simp [h3]
  by_cases h4 : k = 4
  · simp [h4] at h ⊢; simp [h, has_none]
  · simp [h1, h2, h3, h4]
/-- A letter of one byte is one without what follows. -/
theorem lt2_one (h : lt2 k a b = 1) : lt2 k a none = 1 := by
  unfold lt2 at *
  by_cases h1 : k = 1
  · simp [h1] at h ⊢; exact h
  by_cases h2 : k = 2
  · simp [h2] at h ⊢
    split at h
    · rename_i hh; simp [hh, has_none]
    · omega
  by_cases h3 : k = 3
  · simp [h3] at h ⊢; exact h
  by_cases h4 : k = 4
  · simp [h4] at h ⊢
    simp [has_none]
    split at h
    · omega
    · split at h
      · rename_i hh; intro h9; rcases hh with hh | hh
        · rw [hh] at h9; cases h9
        · exact hh
      · omega
  · simp [h1, h2, h3, h4] at h
theorem has_mem {S : Bs} {c : UInt8} : has S (some c) = true ↔ c ∈ S := by simp [has]
theorem has_blank : has (sec k) (some 32) = false := by
  unfold sec
  split
  · decide
  · split <;> decide
theorem lt2_blank : lt2 k 32 b = 0 := by
  unfold lt2
  by_cases h1 : k = 1
  · simp [h1]; decide
  by_cases h2 : k = 2
  · simp [h2]
    rw [show has smallS (some (low 32)) = false by decide]; simp
  by_cases h3 : k = 3
  · simp [h3]; decide
  by_cases h4 : k = 4
  · simp [h4]
    rw [show has onsS (some 32) = false by decide, show has vowS (some 32) = false by decide, show has [110] (some 32) = false by decide]; simp
  · simp [h1, h2, h3, h4]
theorem len1_le : len1 k l ≤ l.length := by
  cases l with
  | nil => exact Nat.le_refl _
  | cons a l =>
    show lt2 k a l.head? ≤ l.length + 1
    have h := lt2_le (k := k) (a := a) (b := l.head?)
    rcases Nat.lt_or_ge (lt2 k a l.head?) 2 with h2 | h2
    · omega
    · have h3 := lt2_two (show lt2 k a l.head? = 2 by omega)
      cases l with
      | nil => rw [show ([] : Bs).head? = none from rfl, has_none] at h3; cases h3
      | cons b l => simp at *; omega
theorem len1_two : len1 k l ≤ 2 := by
  cases l with
  | nil => exact Nat.zero_le _
  | cons a l => exact lt2_le
/-- The letters with which a text begins, and what is left. -/
def spl (k : Int) : Nat → Bs → List Bs × Bs
  | 0, l => ([], l)
  | f + 1, l => if len1 k l = 0 then ([], l) else (l.take (len1 k l) :: (spl k f (l.drop (len1 k l))).1, (spl k f (l.drop (len1 k l))).2)
def ltrs (k : Int) (l : Bs) : List Bs × Bs := spl k l.length l
theorem spl_fuel : ∀ (f g : Nat) (l : Bs), l.length ≤ f → l.length ≤ g → spl k f l = spl k g l := by
  intro f
  induction f with
  | zero =>
    intro g l hf hg
    obtain rfl : l = [] := List.eq_nil_of_length_eq_zero (by omega)
    cases g with
    | zero => rfl
    | succ g => rfl
  | succ f ih =>
    intro g l hf hg
    cases g with
    | zero =>
      obtain rfl : l = [] := List.eq_nil_of_length_eq_zero (by omega)
      rfl
    | succ g =>
      unfold spl
      by_cases h : len1 k l = 0
      · rw [if_pos h, if_pos h]
      · rw [if_neg h, if_neg h]
        have hl := List.length_drop (i := len1 k l) (l := l)
        have e := ih g (l.drop (len1 k l)) (by omega) (by omega)
        rw [e]
theorem ltrs_stop (h : len1 k l = 0) : ltrs k l = ([], l) := by
  unfold ltrs
  cases hl : l.length with
  | zero => rfl
  | succ n => unfold spl; rw [if_pos h]
theorem ltrs_step (h : len1 k l ≠ 0) : ltrs k l = (l.take (len1 k l) :: (ltrs k (l.drop (len1 k l))).1, (ltrs k (l.drop (len1 k l))).2) := by
  have hl := len1_le (k := k) (l := l)
  have hd := List.length_drop (i := len1 k l) (l := l)
  unfold ltrs
  obtain ⟨n, hn⟩ : ∃ n, l.length = n + 1 := ⟨l.length - 1, by omega⟩
  rw [hn]
  conv => lhs; unfold spl
  rw [if_neg h]
  have e := spl_fuel (k := k) n (l.drop (len1 k l)).length (l.drop (len1 k l)) (by omega) (Nat.le_refl _)
  rw [e]
/-- Induction along the letters. -/
theorem ltrs_ind {P : Bs → Prop} (h0 : ∀ l, len1 k l = 0 → P l) (h1 : ∀ l, len1 k l ≠ 0 → P (l.drop (len1 k l)) → P l) (l : Bs) : P l := by
  have key : ∀ n (l : Bs), l.length ≤ n → P l := by
    intro n
    induction n with
    | zero =>
      intro l hl
      obtain rfl : l = [] := List.eq_nil_of_length_eq_zero (by omega)
      exact h0 [] rfl
    | succ n ih =>
      intro l hl
      by_cases h : len1 k l = 0
      · exact h0 l h
      · have hd := List.length_drop (i := len1 k l) (l := l)
        exact h1 l h (ih _ (by omega))
  exact key l.length l (Nat.le_refl _)
theorem ltrs_join (l : Bs) : (ltrs k l).1.flatten ++ (ltrs k l).2 = l := by
  refine ltrs_ind (k := k) (P := fun l => (ltrs k l).1.flatten ++ (ltrs k l).2 = l) (fun l h => ?_) (fun l h ih => ?_) l
  · show (ltrs k l).1.flatten ++ (ltrs k l).2 = l
    rw [ltrs_stop h]; rfl
  · show (ltrs k l).1.flatten ++ (ltrs k l).2 = l
    rw [ltrs_step h]
    show (l.take (len1 k l) ++ (ltrs k (l.drop (len1 k l))).1.flatten) ++ (ltrs k (l.drop (len1 k l))).2 = l
    rw [List.append_assoc, ih, List.take_append_drop]
/-- A word: letters, at least one and at most twelve, and nothing else. -/
def word (k : Int) (l : Bs) : Bool := decide ((ltrs k l).2 = []) && (decide (1 ≤ (ltrs k l).1.length) && decide ((ltrs k l).1.length ≤ 12))
theorem word_iff : word k l = true ↔ (ltrs k l).2 = [] ∧ 1 ≤ (ltrs k l).1.length ∧ (ltrs k l).1.length ≤ 12 := by
  unfold word; simp
theorem word_join (h : word k l = true) : (ltrs k l).1.flatten = l := by
  have := ltrs_join (k := k) l
  rw [(word_iff.1 h).1, List.append_nil] at this; exact this
/-- The letter with which a text begins is a letter by itself. -/
theorem len1_take (h : len1 k l ≠ 0) : len1 k (l.take (len1 k l)) = len1 k l := by
  cases l with
  | nil => exact absurd rfl h
  | cons a l =>
    have hle := lt2_le (k := k) (a := a) (b := l.head?)
    have h' : lt2 k a l.head? ≠ 0 := h
    show len1 k ((a :: l).take (lt2 k a l.head?)) = lt2 k a l.head?
    rcases Nat.lt_or_ge (lt2 k a l.head?) 2 with h2 | h2
    · have h1 : lt2 k a l.head? = 1 := by omega
      rw [h1]
      exact lt2_one h1
    · have h1 : lt2 k a l.head? = 2 := by omega
      rw [h1]
      cases l with
      | nil => rw [show ([] : Bs).head? = none from rfl] at h1; have := lt2_two h1; rw [has_none] at this; cases this
      | cons b l => exact h1
theorem ltrs_letter (h : len1 k l ≠ 0) : ltrs k (l.take (len1 k l)) = ([l.take (len1 k l)], []) := by
  have h1 := len1_take h
  have hlen : (l.take (len1 k l)).length = len1 k l := by rw [List.length_take]; have := len1_le (k := k) (l := l); omega
  rw [ltrs_step (by rw [h1]; exact h), h1, List.take_of_length_le (by omega), List.drop_of_length_le (by omega), ltrs_stop (by rfl)]
theorem ltrs_each (l : Bs) : ∀ x ∈ (ltrs k l).1, ltrs k x = ([x], []) := by
  refine ltrs_ind (k := k) (P := fun l => ∀ x ∈ (ltrs k l).1, ltrs k x = ([x], [])) (fun l h => ?_) (fun l h ih => ?_) l
  · show ∀ x ∈ (ltrs k l).1, _
    rw [ltrs_stop h]; intro x hx; cases hx
  · show ∀ x ∈ (ltrs k l).1, _
    rw [ltrs_step h]
    intro x hx
    rcases List.mem_cons.1 hx with rfl | hx
    · exact ltrs_letter h
    · exact ih x hx
theorem letter_word {x : Bs} (h : ltrs k x = ([x], [])) : word k x = true := word_iff.2 (by rw [h]; exact ⟨rfl, Nat.le_refl _, by show 1 ≤ 12; omega⟩)
end
end Go.CH.Scr
namespace Go.CH.Scr
section
variable {k : Int} {a b l : Bs}
theorem vow_ons {c : UInt8} (h : has vowS (some c) = true) : has onsS (some c) = false := by
  have key : ∀ c ∈ vowS, has onsS (some c) = false := by decide
  exact key c (has_mem.1 h)
theorem acc_small {c : UInt8} (h : has accS (some c) = true) : has smallS (some (low c)) = false := by
  have key : ∀ c ∈ accS, has smallS (some (low c)) = false := by decide
  exact key c (has_mem.1 h)
/-- The first word ends with the letter n, and a vowel follows. -/
def endsN (k : Int) (a b : Bs) : Prop := k = 4 ∧ (ltrs k a).1.getLast? = some [110] ∧ has vowS b.head? = true
theorem lt2_next {x y : UInt8} {z : Option UInt8} (h1 : lt2 k x none = 1) (h2 : lt2 k y z ≠ 0) (hn : ¬ (k = 4 ∧ x = 110 ∧ has vowS (some y) = true)) : lt2 k x (some y) = 1 := by
  cases hs : has (sec k) (some y) with
  | false => rw [lt2_none hs]; exact h1
  | true =>
    unfold sec at hs
    by_cases h3 : k = 2
    · rw [if_pos h3] at hs
      exact absurd (by unfold lt2; simp [h3, acc_small hs]) h2
    rw [if_neg h3] at hs
    by_cases h4 : k = 4
    · rw [if_pos h4] at hs
      subst h4
      have hx : x ≠ 110 := fun e => hn ⟨rfl, e, hs⟩
      unfold lt2 at h1 ⊢
      simp [has_none] at h1 ⊢
      have hv : has vowS (some x) = true := by
        cases hv : has vowS (some x) with
        | true => rfl
        | false => have := h1 hv; simp [has] at this; exact absurd this hx
      simp [vow_ons hv, hv]
    · rw [if_neg h4] at hs; simp [has] at hs
theorem getLast_cons {x : Bs} {xs : List Bs} {y : Bs} (h : xs.getLast? = some y) : (x :: xs).getLast? = some y := by
  cases xs with
  | nil => simp at h
  | cons z zs => rw [List.getLast?_cons_cons]; exact h
theorem ltrs_app (hb : len1 k b ≠ 0) : ∀ a : Bs, (ltrs k a).2 = [] → ¬ endsN k a b → ltrs k (a ++ b) = ((ltrs k a).1 ++ (ltrs k b).1, (ltrs k b).2) := by
  intro a
  refine ltrs_ind (k := k) (P := fun a => (ltrs k a).2 = [] → ¬ endsN k a b → ltrs k (a ++ b) = ((ltrs k a).1 ++ (ltrs k b).1, (ltrs k b).2)) (fun l h => ?_) (fun l h ih => ?_) a
  · intro hr hn
    rw [ltrs_stop h] at hr
    obtain rfl : l = [] := hr
    rw [ltrs_stop h]; rfl
  · intro hr hn
    have hst := ltrs_step h
    rw [hst] at hr
    have hn' : ¬ endsN k (l.drop (len1 k l)) b := fun ⟨h1, h2, h3⟩ => hn ⟨h1, by rw [hst]; exact getLast_cons h2, h3⟩
    have e := ih hr hn'
    have hlen : len1 k (l ++ b) = len1 k l := by
      cases l with
      | nil => exact absurd rfl h
      | cons x t =>
        cases t with
        | cons y t => rfl
        | nil =>
          have h1 : lt2 k x none = 1 := by
            have h2 := len1_le (k := k) (l := [x])
            have h3 : len1 k [x] ≠ 0 := h
            have h4 : len1 k [x] = lt2 k x none := rfl
            simp at h2; omega
          cases b with
          | nil => exact absurd rfl hb
          | cons y b =>
            show lt2 k x (some y) = lt2 k x none
            rw [h1]
            refine lt2_next h1 (show lt2 k y b.head? ≠ 0 from hb) ?_
            rintro ⟨h5, h6, h7⟩
            refine hn ⟨h5, ?_, h7⟩
            rw [hst]
            have h8 : len1 k [x] = 1 := h1
            rw [h8, h6]
            show ([110] :: (ltrs k []).1).getLast? = _
            rw [ltrs_stop (by rfl)]; rfl
    rw [ltrs_step (l := l ++ b) (by rw [hlen]; exact h), hlen, hst]
    have hle := len1_le (k := k) (l := l)
    rw [List.take_append_of_le_length hle, List.drop_append_of_le_length hle, e]
    rfl
theorem word_first (h : word k b = true) : len1 k b ≠ 0 := by
  intro h0
  have := word_iff.1 h
  rw [ltrs_stop h0] at this
  simp at this
/-- Two words joined. -/
theorem join_law (ha : word k a = true) (hb : word k b = true) (hn : ¬ endsN k a b) :
    word k (a ++ b) = decide ((ltrs k a).1.length + (ltrs k b).1.length ≤ 12) ∧ (ltrs k (a ++ b)).1 = (ltrs k a).1 ++ (ltrs k b).1 := by
  have h1 := word_iff.1 ha
  have h2 := word_iff.1 hb
  have e := ltrs_app (word_first hb) a h1.1 hn
  refine ⟨?_, by rw [e]⟩
  unfold word
  rw [e]
  simp only [List.length_append, h2.1, decide_true, Bool.true_and]
  rw [decide_eq_true (show 1 ≤ (ltrs k a).1.length + (ltrs k b).1.length by omega), Bool.true_and]

/-! ### Without capital letters -/
def lower (l : Bs) : Bs := l.map low
theorem low_low (c : UInt8) : low (low c) = low c := by
  unfold low
  by_cases h : 65 ≤ c ∧ c ≤ 90
  · rw [if_pos h, if_neg]
    rintro ⟨h1, h2⟩
    obtain ⟨g1, g2⟩ := h
    have a1 := UInt8.le_iff_toNat_le.1 g1
    have a2 := UInt8.le_iff_toNat_le.1 g2
    have a3 := UInt8.le_iff_toNat_le.1 h2
    rw [UInt8.toNat_add] at a3
    simp at a1 a2 a3
    omega
  · rw [if_neg h, if_neg h]
theorem lower_lower (l : Bs) : lower (lower l) = lower l := by
  unfold lower; rw [List.map_map]; exact List.map_congr_left fun c _ => low_low c
theorem low_id {S : Bs} (hS : ∀ c ∈ S, low c = c) {c : UInt8} (h : has S (some c) = true) : low c = c := hS c (has_mem.1 h)
theorem low_small : ∀ c ∈ smallS, low c = c := by decide
theorem low_abj : ∀ c ∈ abjS, low c = c := by decide
theorem low_vow : ∀ c ∈ vowS, low c = c := by decide
theorem low_ons : ∀ c ∈ onsS, low c = c := by decide
theorem sub_abj : ∀ c ∈ abjS, c = 39 ∨ c ∈ smallS := by decide
theorem sub_vow : ∀ c ∈ vowS, c ∈ smallS := by decide
theorem sub_ons : ∀ c ∈ onsS, c ∈ smallS := by decide
/-- The bytes of a letter, for a script without capital letters. -/
theorem lt2_bytes {x : UInt8} {y : Option UInt8} (hk : k ≠ 2) (h : lt2 k x y ≠ 0) : (x ∈ smallS ∨ (k = 3 ∧ x = 39)) ∧ (lt2 k x y = 2 → ∃ z, y = some z ∧ z ∈ smallS) := by
  unfold lt2 at h ⊢
  by_cases h1 : k = 1
  · simp only [h1, if_true] at h ⊢
    refine ⟨.inl ?_, fun h2 => ?_⟩
    · by_cases h3 : has smallS (some x) = true
      · exact has_mem.1 h3
      · rw [if_neg h3] at h; exact absurd rfl h
    · split at h2 <;> omega
  rw [if_neg h1, if_neg hk] at h ⊢
  by_cases h3 : k = 3
  · simp only [h3, if_true] at h ⊢
    refine ⟨?_, fun h2 => ?_⟩
    · by_cases h4 : has abjS (some x) = true
      · rcases sub_abj x (has_mem.1 h4) with h5 | h5
        · exact .inr ⟨trivial, h5⟩
        · exact .inl h5
      · rw [if_neg h4] at h; exact absurd rfl h
    · split at h2 <;> omega
  rw [if_neg h3] at h ⊢
  by_cases h4 : k = 4
  · simp only [h4, if_true] at h ⊢
    by_cases h5 : (has onsS (some x) && has vowS y) = true
    · rw [if_pos h5] at h ⊢
      simp only [Bool.and_eq_true] at h5
      refine ⟨.inl (sub_ons x (has_mem.1 h5.1)), fun _ => ?_⟩
      cases y with
      | none => simp [has] at h5
      | some z => exact ⟨z, rfl, sub_vow z (has_mem.1 h5.2)⟩
    · rw [if_neg h5] at h ⊢
      refine ⟨.inl ?_, fun h2 => by split at h2 <;> omega⟩
      by_cases h6 : (has vowS (some x) || has [110] (some x)) = true
      · rw [Bool.or_eq_true] at h6
        rcases h6 with h6 | h6
        · exact sub_vow x (has_mem.1 h6)
        · have : x = 110 := by simpa [has] using h6
          subst this; decide
      · rw [if_neg h6] at h; exact absurd rfl h
  · rw [if_neg h4] at h; exact absurd rfl h
theorem ltrs_bytes (hk : k ≠ 2) : ∀ l : Bs, (ltrs k l).2 = [] → ∀ c ∈ l, c ∈ smallS ∨ (k = 3 ∧ c = 39) := by
  intro l
  refine ltrs_ind (k := k) (P := fun l => (ltrs k l).2 = [] → ∀ c ∈ l, c ∈ smallS ∨ (k = 3 ∧ c = 39)) (fun l h => ?_) (fun l h ih => ?_) l
  · intro hr
    rw [ltrs_stop h] at hr
    obtain rfl : l = [] := hr
    intro c hc; cases hc
  · intro hr c hc
    rw [ltrs_step h] at hr
    have ih := ih hr
    cases l with
    | nil => exact absurd rfl h
    | cons x t =>
      have h0 : lt2 k x t.head? ≠ 0 := h
      obtain ⟨b1, b2⟩ := lt2_bytes hk h0
      rcases List.mem_cons.1 hc with rfl | hc
      · exact b1
      · have hle := lt2_le (k := k) (a := x) (b := t.head?)
        by_cases h2 : lt2 k x t.head? = 2
        · obtain ⟨z, hz, hz2⟩ := b2 h2
          cases t with
          | nil => cases hc
          | cons y t =>
            have : y = z := by simpa using hz
            subst this
            rcases List.mem_cons.1 hc with rfl | hc
            · exact .inl hz2
            · refine ih c ?_
              show c ∈ (x :: y :: t).drop (lt2 k x (y :: t).head?)
              rw [h2]; exact hc
        · refine ih c ?_
          show c ∈ (x :: t).drop (lt2 k x t.head?)
          rw [show lt2 k x t.head? = 1 by omega]; exact hc
theorem lower_id (hk : k ≠ 2) (h : (ltrs k l).2 = []) : lower l = l := by
  have := ltrs_bytes hk l h
  unfold lower
  conv => rhs; rw [← List.map_id l]
  refine List.map_congr_left fun c hc => ?_
  rcases this c hc with h1 | ⟨_, h1⟩
  · exact low_small c h1
  · subst h1; decide
theorem acc_low (c : UInt8) : has accS (some (low c)) = has accS (some c) := by
  unfold low
  by_cases h : 65 ≤ c ∧ c ≤ 90
  · rw [if_pos h]
    obtain ⟨g1, g2⟩ := h
    have a1 := UInt8.le_iff_toNat_le.1 g1
    have a2 := UInt8.le_iff_toNat_le.1 g2
    simp at a1 a2
    have e1 : has accS (some c) = false := by
      cases hh : has accS (some c) with
      | false => rfl
      | true =>
        have hm := has_mem.1 hh
        have key : ∀ c ∈ accS, ¬ (65 ≤ c.toNat ∧ c.toNat ≤ 90) := by decide
        exact absurd ⟨a1, a2⟩ (key c hm)
    have e2 : has accS (some (c + 32)) = false := by
      cases hh : has accS (some (c + 32)) with
      | false => rfl
      | true =>
        have hm := has_mem.1 hh
        have key : ∀ c ∈ accS, ¬ (97 ≤ c.toNat ∧ c.toNat ≤ 122) := by decide
        refine absurd ?_ (key _ hm)
        rw [UInt8.toNat_add]
        simp
        omega
    rw [e1, e2]
  · rw [if_neg h]
theorem len1_lower (l : Bs) : len1 2 (lower l) = len1 2 l := by
  cases l with
  | nil => rfl
  | cons x t =>
    show lt2 2 (low x) (lower t).head? = lt2 2 x t.head?
    unfold lt2
    simp only [show ¬ (2 : Int) = 1 by decide, if_false, if_true, low_low]
    cases t with
    | nil => rfl
    | cons y t =>
      show (if has smallS (some (low x)) = true then if has accS (some (low y)) = true then 2 else 1 else 0) = if has smallS (some (low x)) = true then if has accS (some y) = true then 2 else 1 else 0
      rw [acc_low]
theorem ltrs_lower2 (l : Bs) : ltrs 2 (lower l) = ((ltrs 2 l).1.map lower, lower (ltrs 2 l).2) := by
  refine ltrs_ind (k := 2) (P := fun l => ltrs 2 (lower l) = ((ltrs 2 l).1.map lower, lower (ltrs 2 l).2)) (fun l h => ?_) (fun l h ih => ?_) l
  · show ltrs 2 (lower l) = _
    rw [ltrs_stop h, ltrs_stop (by rw [len1_lower]; exact h)]; rfl
  · show ltrs 2 (lower l) = _
    rw [ltrs_step h, ltrs_step (l := lower l) (by rw [len1_lower]; exact h), len1_lower]
    have e1 : (lower l).take (len1 2 l) = lower (l.take (len1 2 l)) := by unfold lower; rw [List.map_take]
    have e2 : (lower l).drop (len1 2 l) = lower (l.drop (len1 2 l)) := by unfold lower; rw [List.map_drop]
    rw [e1, e2, ih]; rfl
theorem map_lower_id (hk : k ≠ 2) (h : (ltrs k l).2 = []) : (ltrs k l).1.map lower = (ltrs k l).1 := by
  conv => rhs; rw [← List.map_id (ltrs k l).1]
  refine List.map_congr_left fun x hx => ?_
  have := ltrs_each (k := k) l x hx
  exact lower_id hk (by rw [this])
/-- The letters of a word without capital letters. -/
theorem fold_letters (h : word k l = true) : ltrs k (lower l) = ((ltrs k l).1.map lower, []) := by
  have h1 := (word_iff.1 h).1
  by_cases hk : k = 2
  · subst hk; rw [ltrs_lower2, h1]; rfl
  · rw [lower_id hk h1, map_lower_id hk h1, ← h1]
theorem fold_word (h : word k l = true) : word k (lower l) = true := by
  have h1 := word_iff.1 h
  refine word_iff.2 ?_
  rw [fold_letters h]
  exact ⟨rfl, by show 1 ≤ ((ltrs k l).1.map lower).length; rw [List.length_map]; exact h1.2.1, by show ((ltrs k l).1.map lower).length ≤ 12; rw [List.length_map]; exact h1.2.2⟩
def capital (l : Bs) : Bool := l.any fun c => decide (65 ≤ c) && decide (c ≤ 90)
theorem low_ne {c : UInt8} (h : 65 ≤ c ∧ c ≤ 90) : low c ≠ c := by
  intro e
  have : low c = c + 32 := if_pos h
  rw [this] at e
  have e2 := congrArg UInt8.toNat e
  rw [UInt8.toNat_add] at e2
  have a2 := UInt8.le_iff_toNat_le.1 h.2
  simp at e2 a2
  omega
theorem lower_ne : (lower l ≠ l) ↔ capital l = true := by
  induction l with
  | nil => simp [lower, capital]
  | cons c l ih =>
    by_cases h : 65 ≤ c ∧ c ≤ 90
    · have := low_ne h
      simp [lower, capital, h, this]
    · have e : low c = c := if_neg h
      have e1 : capital (c :: l) = capital l := by
        unfold capital
        rw [List.any_cons]
        have : (decide (65 ≤ c) && decide (c ≤ 90)) = false := by
          cases h2 : (decide (65 ≤ c) && decide (c ≤ 90)) with
          | false => rfl
          | true => simp at h2; exact absurd h2 h
        rw [this, Bool.false_or]
      rw [e1, ← ih]
      simp [lower, e]
theorem cap_cased (h : word k l = true) (hc : capital l = true) : k = 2 := by
  by_cases hk : k = 2
  · exact hk
  · exact absurd (lower_id hk (word_iff.1 h).1) (lower_ne.2 hc)

/-! ### Words of several scripts -/
def singles (l : Bs) : List Bs := l.map fun c => [c]
theorem ltrs_singles (h : ∀ l', l' <:+ l → l' ≠ [] → len1 k l' = 1) : ltrs k l = (singles l, []) := by
  induction l with
  | nil => exact ltrs_stop (by rfl)
  | cons c l ih =>
    have h1 := h (c :: l) (List.suffix_refl _) (by simp)
    rw [ltrs_step (by rw [h1]; decide), h1]
    have e := ih (fun l' hl hn => h l' (hl.trans (List.suffix_cons c l)) hn)
    show ([c] :: (ltrs k l).1, (ltrs k l).2) = _
    rw [e]; rfl
theorem mem_suffix {l' : Bs} (h : l' <:+ l) {c : UInt8} (hc : c ∈ l') : c ∈ l := by
  obtain ⟨t, rfl⟩ := h
  exact List.mem_append_right _ hc
theorem small_plain (h : ∀ c ∈ l, c ∈ smallS) : ltrs 1 l = (singles l, []) := by
  refine ltrs_singles fun l' hl hn => ?_
  cases l' with
  | nil => exact absurd rfl hn
  | cons c t =>
    have := h c (mem_suffix hl (List.mem_cons_self ..))
    show lt2 1 c t.head? = 1
    unfold lt2
    simp only [if_true]
    rw [if_pos (has_mem.2 this)]
theorem small_acc : ∀ c ∈ smallS, has accS (some c) = false := by decide
theorem small_cased (h : ∀ c ∈ l, c ∈ smallS) : ltrs 2 l = (singles l, []) := by
  refine ltrs_singles fun l' hl hn => ?_
  cases l' with
  | nil => exact absurd rfl hn
  | cons c t =>
    have h1 := h c (mem_suffix hl (List.mem_cons_self ..))
    show lt2 2 c t.head? = 1
    unfold lt2
    simp only [show ¬ (2 : Int) = 1 by decide, if_false, if_true]
    rw [low_small c h1, if_pos (has_mem.2 h1)]
    cases t with
    | nil => rfl
    | cons y t =>
      have h2 := h y (mem_suffix hl (by simp))
      show (if has accS (some y) = true then 2 else 1) = 1
      rw [small_acc y h2]; rfl
theorem abj_singles (h : (ltrs 3 l).2 = []) : ltrs 3 l = (singles l, []) := by
  have key : ∀ l : Bs, (ltrs 3 l).2 = [] → ltrs 3 l = (singles l, []) := by
    intro l
    induction l with
    | nil => intro _; exact ltrs_stop (by rfl)
    | cons c l ih =>
      intro h
      by_cases h0 : len1 3 (c :: l) = 0
      · rw [ltrs_stop h0] at h; simp at h
      · have h1 : len1 3 (c :: l) = 1 := by
          have h2 : lt2 3 c l.head? ≠ 0 := h0
          show lt2 3 c l.head? = 1
          unfold lt2 at h2 ⊢
          simp only [show ¬ (3 : Int) = 1 by decide, show ¬ (3 : Int) = 2 by decide, if_false, if_true] at h2 ⊢
          split
          · rfl
          · rename_i h3; rw [if_neg h3] at h2; exact absurd rfl h2
        rw [ltrs_step h0, h1] at h ⊢
        have e := ih h
        show ([c] :: (ltrs 3 l).1, (ltrs 3 l).2) = _
        rw [e]; rfl
  exact key l h
/-- What the scripts have in common. -/
theorem common_cased (h : word 1 l = true) : word 2 l = true ∧ (ltrs 2 l).1 = (ltrs 1 l).1 := by
  have h1 := word_iff.1 h
  have hs : ∀ c ∈ l, c ∈ smallS := fun c hc => by
    rcases ltrs_bytes (k := 1) (by decide) l h1.1 c hc with h2 | ⟨h2, _⟩
    · exact h2
    · exact absurd h2 (by decide)
  have e1 := small_plain hs
  have e2 := small_cased hs
  refine ⟨?_, by rw [e1, e2]⟩
  unfold word at h ⊢
  rw [e2, ← e1]; exact h
theorem common_abjad (h : word 3 l = true) (hq : ∀ c ∈ l, c ≠ 39) : word 1 l = true ∧ (ltrs 1 l).1 = (ltrs 3 l).1 := by
  have h1 := word_iff.1 h
  have hs : ∀ c ∈ l, c ∈ smallS := fun c hc => by
    rcases ltrs_bytes (k := 3) (by decide) l h1.1 c hc with h2 | ⟨_, h2⟩
    · exact h2
    · exact absurd h2 (hq c hc)
  have e1 := small_plain hs
  have e2 := abj_singles h1.1
  refine ⟨?_, by rw [e1, e2]⟩
  unfold word at h ⊢
  rw [e1, ← e2]; exact h
theorem common_syllab (h : word 4 l = true) (hl : l.length ≤ 12) : word 1 l = true := by
  have h1 := word_iff.1 h
  have hs : ∀ c ∈ l, c ∈ smallS := fun c hc => by
    rcases ltrs_bytes (k := 4) (by decide) l h1.1 c hc with h2 | ⟨h2, _⟩
    · exact h2
    · exact absurd h2 (by decide)
  refine word_iff.2 ?_
  rw [small_plain hs]
  have hn : l ≠ [] := by
    intro e; subst e
    have h3 := h1.2.1
    rw [ltrs_stop (by rfl)] at h3; simp at h3
  have : 0 < l.length := List.length_pos_iff.2 hn
  refine ⟨rfl, ?_, ?_⟩
  · show 1 ≤ (singles l).length; unfold singles; rw [List.length_map]; omega
  · show (singles l).length ≤ 12; unfold singles; rw [List.length_map]; exact hl
end
end Go.CH.Scr
namespace Go.CH.Scr
/-- What a text is read as: the words, or an error and its offset. -/
inductive Res where
  | ok (ws : List Bs)
  | err (e at_ : Int)
deriving DecidableEq
/-- The words read, and what has been read of a further one. -/
def close (ws : List Bs) (cur : Bs) (cnt : Nat) : List Bs := if cnt = 0 then ws else ws ++ [cur]
/-- Reading on: at the offset o, the words ws, cnt letters cur of a further one. Errors: 3 a byte that is none, 2 too many. -/
def rd (k : Int) : Nat → List Bs → Bs → Nat → Nat → Bs → Res
  | _, ws, cur, cnt, _, [] => .ok (close ws cur cnt)
  | 0, _, _, _, _, _ :: _ => .err 0 0
  | f + 1, ws, cur, cnt, o, a :: l =>
    if a = 32 then rd k f (close ws cur cnt) [] 0 (o + 1) l
    else if len1 k (a :: l) = 0 then .err 3 o
    else if cnt = 12 ∨ ws.length = 6 then .err 2 o
    else rd k f ws (cur ++ (a :: l).take (len1 k (a :: l))) (cnt + 1) (o + len1 k (a :: l)) ((a :: l).drop (len1 k (a :: l)))
def read (k : Int) (ws : List Bs) (cur : Bs) (cnt o : Nat) (l : Bs) : Res := rd k l.length ws cur cnt o l
section
variable {k : Int} {l : Bs} {ws : List Bs} {cur : Bs} {cnt o : Nat}
theorem rd_fuel : ∀ (f g : Nat) (l : Bs) (ws : List Bs) (cur : Bs) (cnt o : Nat), l.length ≤ f → l.length ≤ g → rd k f ws cur cnt o l = rd k g ws cur cnt o l := by
  intro f
  induction f with
  | zero =>
    intro g l ws cur cnt o hf hg
    obtain rfl : l = [] := List.eq_nil_of_length_eq_zero (by omega)
    cases g <;> rfl
  | succ f ih =>
    intro g l ws cur cnt o hf hg
    cases l with
    | nil => cases g <;> rfl
    | cons a l =>
      cases g with
      | zero => simp at hg
      | succ g =>
        unfold rd
        simp only [List.length_cons] at hf hg
        by_cases h1 : a = 32
        · rw [if_pos h1, if_pos h1]; exact ih g _ _ _ _ _ (by omega) (by omega)
        rw [if_neg h1, if_neg h1]
        by_cases h2 : len1 k (a :: l) = 0
        · rw [if_pos h2, if_pos h2]
        rw [if_neg h2, if_neg h2]
        by_cases h3 : cnt = 12 ∨ ws.length = 6
        · rw [if_pos h3, if_pos h3]
        rw [if_neg h3, if_neg h3]
        have hd := List.length_drop (i := len1 k (a :: l)) (l := a :: l)
        simp only [List.length_cons] at hd
        exact ih g _ _ _ _ _ (by omega) (by omega)
theorem read_nil : read k ws cur cnt o [] = .ok (close ws cur cnt) := rfl
theorem read_blank : read k ws cur cnt o (32 :: l) = read k (close ws cur cnt) [] 0 (o + 1) l := by
  unfold read
  rw [List.length_cons]
  conv => lhs; unfold rd
  rw [if_pos rfl]
theorem read_char {a : UInt8} (h1 : a ≠ 32) (h2 : len1 k (a :: l) = 0) : read k ws cur cnt o (a :: l) = .err 3 o := by
  unfold read
  rw [List.length_cons]
  unfold rd
  rw [if_neg h1, if_pos h2]
theorem read_limit (h2 : len1 k l ≠ 0) (h3 : cnt = 12 ∨ ws.length = 6) : read k ws cur cnt o l = .err 2 o := by
  cases l with
  | nil => exact absurd rfl h2
  | cons a l =>
    have h1 : a ≠ 32 := fun e => h2 (by subst e; exact lt2_blank)
    unfold read
    rw [List.length_cons]
    unfold rd
    rw [if_neg h1, if_neg h2, if_pos h3]
theorem read_letter (h2 : len1 k l ≠ 0) (h3 : ¬ (cnt = 12 ∨ ws.length = 6)) : read k ws cur cnt o l = read k ws (cur ++ l.take (len1 k l)) (cnt + 1) (o + len1 k l) (l.drop (len1 k l)) := by
  cases l with
  | nil => exact absurd rfl h2
  | cons a l =>
    have h1 : a ≠ 32 := fun e => h2 (by subst e; exact lt2_blank)
    unfold read
    rw [List.length_cons]
    conv => lhs; unfold rd
    rw [if_neg h1, if_neg h2, if_neg h3]
    have hd := List.length_drop (i := len1 k (a :: l)) (l := a :: l)
    simp only [List.length_cons] at hd
    exact rd_fuel _ _ _ _ _ _ _ (by omega) (Nat.le_refl _)
/-- Induction along what is read. -/
theorem read_ind {P : Bs → Prop} (h0 : P []) (hb : ∀ l, P l → P (32 :: l)) (hc : ∀ l, l ≠ [] → l.head? ≠ some 32 → len1 k l = 0 → P l) (hl : ∀ l, len1 k l ≠ 0 → P (l.drop (len1 k l)) → P l) (l : Bs) : P l := by
  have key : ∀ n (l : Bs), l.length ≤ n → P l := by
    intro n
    induction n with
    | zero =>
      intro l hl
      obtain rfl : l = [] := List.eq_nil_of_length_eq_zero (by omega)
      exact h0
    | succ n ih =>
      intro l hle
      cases l with
      | nil => exact h0
      | cons a l =>
        simp only [List.length_cons] at hle
        by_cases h1 : a = 32
        · subst h1; exact hb l (ih l (by omega))
        by_cases h2 : len1 k (a :: l) = 0
        · exact hc _ (by simp) (by simpa using h1) h2
        · refine hl _ h2 (ih _ ?_)
          have hd := List.length_drop (i := len1 k (a :: l)) (l := a :: l)
          simp only [List.length_cons] at hd
          omega
  exact key l.length l (Nat.le_refl _)
end
end Go.CH.Scr
namespace Go.CH.Scr
section
variable {k : Int}
/-- A letter that a cut leaves whole. -/
theorem len1_cut {l : Bs} {j : Nat} (h : len1 k l ≠ 0) (hj : len1 k l ≤ j) : len1 k (l.take j) = len1 k l := by
  cases l with
  | nil => exact absurd rfl h
  | cons a t =>
    have h' : lt2 k a t.head? ≠ 0 := h
    have hj' : lt2 k a t.head? ≤ j := hj
    have hle := lt2_le (k := k) (a := a) (b := t.head?)
    obtain ⟨j', rfl⟩ : ∃ j', j = j' + 1 := ⟨j - 1, by omega⟩
    show lt2 k a (t.take j').head? = lt2 k a t.head?
    cases t with
    | nil => simp
    | cons b t =>
      cases j' with
      | zero =>
        have h1 : lt2 k a (some b) = 1 := by
          have : lt2 k a (some b) = lt2 k a (b :: t).head? := rfl
          omega
        show lt2 k a none = lt2 k a (some b)
        rw [h1]; exact lt2_one h1
      | succ j' => rfl
/-- Where reading stops with an error, what stands ahead is read without one. -/
theorem read_err : ∀ (l : Bs) (ws : List Bs) (cur : Bs) (cnt o : Nat) (e at_ : Int), read k ws cur cnt o l = .err e at_ → ∃ i : Nat, at_ = ((o + i : Nat) : Int) ∧ i < l.length ∧ (e = 3 ∨ e = 2) ∧ ∃ ws', read k ws cur cnt o (l.take i) = .ok ws' := by
  intro l
  refine read_ind (k := k) (P := fun l => ∀ (ws : List Bs) (cur : Bs) (cnt o : Nat) (e at_ : Int), read k ws cur cnt o l = .err e at_ → ∃ i : Nat, at_ = ((o + i : Nat) : Int) ∧ i < l.length ∧ (e = 3 ∨ e = 2) ∧ ∃ ws', read k ws cur cnt o (l.take i) = .ok ws') ?_ ?_ ?_ ?_ l
  · intro ws cur cnt o e at_ h; rw [read_nil] at h; cases h
  · intro l ih ws cur cnt o e at_ h
    rw [read_blank] at h
    obtain ⟨i, h1, h2, h3, ws', h4⟩ := ih _ _ _ _ _ _ h
    refine ⟨i + 1, by rw [h1]; congr 1; omega, by simp; omega, h3, ws', ?_⟩
    rw [List.take_succ_cons, read_blank]; exact h4
  · intro l hn hb hc ws cur cnt o e at_ h
    cases l with
    | nil => exact absurd rfl hn
    | cons a l =>
      rw [read_char (by simpa using hb) hc] at h
      cases h
      exact ⟨0, rfl, by simp, .inl rfl, _, read_nil⟩
  · intro l hl ih ws cur cnt o e at_ h
    by_cases h3 : cnt = 12 ∨ ws.length = 6
    · rw [read_limit hl h3] at h
      cases h
      have := len1_le (k := k) (l := l)
      exact ⟨0, rfl, by omega, .inr rfl, _, read_nil⟩
    · rw [read_letter hl h3] at h
      obtain ⟨i, h1, h2, h4, ws', h5⟩ := ih _ _ _ _ _ _ h
      rw [List.length_drop] at h2
      refine ⟨len1 k l + i, by rw [h1]; congr 1; omega, by omega, h4, ws', ?_⟩
      have e1 : len1 k (l.take (len1 k l + i)) = len1 k l := len1_cut hl (by omega)
      rw [read_letter (by rw [e1]; exact hl) h3, e1, List.take_take, Nat.min_eq_left (by omega), List.drop_take]
      rw [show len1 k l + i - len1 k l = i by omega]
      exact h5
/-! ### One blank more -/
/-- The same words, or the same error. -/
def same : Res → Res → Prop
  | .ok a, .ok b => a = b
  | .err e _, .err e' _ => e = e'
  | _, _ => False
theorem same_refl (r : Res) : same r r := by cases r <;> rfl
theorem read_off : ∀ (l : Bs) (ws : List Bs) (cur : Bs) (cnt o o' : Nat), same (read k ws cur cnt o l) (read k ws cur cnt o' l) := by
  intro l
  refine read_ind (k := k) (P := fun l => ∀ (ws : List Bs) (cur : Bs) (cnt o o' : Nat), same (read k ws cur cnt o l) (read k ws cur cnt o' l)) ?_ ?_ ?_ ?_ l
  · intro ws cur cnt o o'; rw [read_nil, read_nil]; exact rfl
  · intro l ih ws cur cnt o o'; rw [read_blank, read_blank]; exact ih _ _ _ _ _
  · intro l hn hb hc ws cur cnt o o'
    cases l with
    | nil => exact absurd rfl hn
    | cons a l => rw [read_char (by simpa using hb) hc, read_char (by simpa using hb) hc]; exact rfl
  · intro l hl ih ws cur cnt o o'
    by_cases h3 : cnt = 12 ∨ ws.length = 6
    · rw [read_limit hl h3, read_limit hl h3]; exact rfl
    · rw [read_letter hl h3, read_letter hl h3]; exact ih _ _ _ _ _
/-- A place at which a blank stands, or the end. -/
def gap (l : Bs) (p : Nat) : Prop := l[p]? = some 32 ∨ p = l.length
theorem len1_gap {l : Bs} {p : Nat} (h : gap l p) (hp : 0 < p) : len1 k (l.take p ++ 32 :: l.drop p) = len1 k l := by
  cases l with
  | nil =>
    rcases h with h | h
    · simp at h
    · simp at h; omega
  | cons a t =>
    obtain ⟨p', rfl⟩ : ∃ p', p = p' + 1 := ⟨p - 1, by omega⟩
    show lt2 k a (t.take p' ++ 32 :: t.drop p').head? = lt2 k a t.head?
    cases p' with
    | zero =>
      show lt2 k a (some 32) = lt2 k a t.head?
      rw [lt2_none has_blank]
      cases t with
      | nil => rfl
      | cons b t =>
        rcases h with h | h
        · have : b = 32 := by simpa using h
          subst this
          exact (lt2_none has_blank).symm
        · simp at h
    | succ p' =>
      cases t with
      | nil =>
        rcases h with h | h
        · simp at h
        · simp at h
      | cons b t => rfl
theorem len1_in {l : Bs} {p : Nat} (h : gap l p) (hp : 0 < p) : len1 k l ≤ p := by
  have h2 := len1_two (k := k) (l := l)
  have hle := len1_le (k := k) (l := l)
  rcases h with h | h
  · rcases Nat.lt_or_ge p (len1 k l) with h3 | h3
    · have e1 : len1 k l = 2 := by omega
      have e2 : p = 1 := by omega
      subst e2
      cases l with
      | nil => simp at h
      | cons a t =>
        cases t with
        | nil => simp at h
        | cons b t =>
          have : b = 32 := by simpa using h
          subst this
          have h4 := lt2_two (show lt2 k a (some 32) = 2 from e1)
          rw [has_blank] at h4; cases h4
    · exact h3
  · omega
theorem read_gap : ∀ (l : Bs) (ws : List Bs) (cur : Bs) (cnt o : Nat) (p : Nat), gap l p → same (read k ws cur cnt o (l.take p ++ 32 :: l.drop p)) (read k ws cur cnt o l) := by
  have zero : ∀ (l : Bs) (ws : List Bs) (cur : Bs) (cnt o : Nat), gap l 0 → same (read k ws cur cnt o (32 :: l)) (read k ws cur cnt o l) := by
    intro l ws cur cnt o h
    cases l with
    | nil => rw [read_blank, read_nil, read_nil]; show close (close ws cur cnt) [] 0 = close ws cur cnt; rfl
    | cons a l =>
      rcases h with h | h
      · have : a = 32 := by simpa using h
        subst this
        rw [read_blank, read_blank, read_blank]
        show same (read k (close (close ws cur cnt) [] 0) [] 0 (o + 1 + 1) l) _
        exact read_off l _ _ _ _ _
      · simp at h
  intro l
  refine read_ind (k := k) (P := fun l => ∀ (ws : List Bs) (cur : Bs) (cnt o : Nat) (p : Nat), gap l p → same (read k ws cur cnt o (l.take p ++ 32 :: l.drop p)) (read k ws cur cnt o l)) ?_ ?_ ?_ ?_ l
  · intro ws cur cnt o p h
    have hp : p = 0 := by
      rcases h with h | h
      · simp at h
      · simpa using h
    subst hp
    exact zero _ _ _ _ _ h
  · intro l ih ws cur cnt o p h
    cases p with
    | zero => exact zero _ _ _ _ _ h
    | succ p =>
      rw [List.take_succ_cons, List.drop_succ_cons, List.cons_append, read_blank, read_blank]
      refine ih _ _ _ _ p ?_
      rcases h with h | h
      · exact .inl (by simpa using h)
      · exact .inr (by simpa using h)
  · intro l hn hb hc ws cur cnt o p h
    cases l with
    | nil => exact absurd rfl hn
    | cons a l =>
      cases p with
      | zero => exact zero _ _ _ _ _ h
      | succ p =>
        have e1 := len1_gap (k := k) h (Nat.succ_pos p)
        rw [hc] at e1
        rw [List.take_succ_cons, List.drop_succ_cons, List.cons_append] at e1 ⊢
        rw [read_char (by simpa using hb) hc, read_char (by simpa using hb) e1]; exact rfl
  · intro l hl ih ws cur cnt o p h
    cases p with
    | zero => exact zero _ _ _ _ _ h
    | succ p =>
      have e1 := len1_gap (k := k) h (Nat.succ_pos p)
      have e2 := len1_in (k := k) h (Nat.succ_pos p)
      by_cases h3 : cnt = 12 ∨ ws.length = 6
      · rw [read_limit hl h3, read_limit (by rw [e1]; exact hl) h3]; exact rfl
      · rw [read_letter hl h3, read_letter (by rw [e1]; exact hl) h3, e1]
        have hlen : (l.take (p + 1)).length ≥ len1 k l := by rw [List.length_take]; have := len1_le (k := k) (l := l); omega
        rw [List.take_append_of_le_length hlen, List.drop_append_of_le_length hlen, List.take_take, Nat.min_eq_left e2, List.drop_take]
        have e3 : l.drop (p + 1) = (l.drop (len1 k l)).drop (p + 1 - len1 k l) := by rw [List.drop_drop]; congr 1; omega
        rw [e3]
        refine ih _ _ _ _ _ ?_
        rcases h with h | h
        · exact .inl (by rw [List.getElem?_drop, show len1 k l + (p + 1 - len1 k l) = p + 1 by omega]; exact h)
        · exact .inr (by rw [List.length_drop]; omega)
/-! ### What is read is a name -/
/-- Letters, read one after the other ahead of r. -/
def ctx (k : Int) : List Bs → Bs → Prop
  | [], _ => True
  | x :: xs, r => x ≠ [] ∧ len1 k (x ++ (xs.flatten ++ r)) = x.length ∧ ctx k xs r
theorem ctx_snoc {l : Bs} (h : len1 k l ≠ 0) : ∀ cs : List Bs, ctx k cs l → ctx k (cs ++ [l.take (len1 k l)]) (l.drop (len1 k l)) := by
  have hle := len1_le (k := k) (l := l)
  intro cs
  induction cs with
  | nil =>
    intro _
    refine ⟨?_, ?_, trivial⟩
    · intro e
      have := congrArg List.length e
      rw [List.length_take, List.length_nil] at this
      omega
    · show len1 k (l.take (len1 k l) ++ ([] ++ l.drop (len1 k l))) = _
      rw [List.nil_append, List.take_append_drop, List.length_take]; omega
  | cons x xs ih =>
    rintro ⟨h1, h2, h3⟩
    refine ⟨h1, ?_, ih h3⟩
    show len1 k (x ++ ((xs ++ [l.take (len1 k l)]).flatten ++ l.drop (len1 k l))) = _
    rw [List.flatten_append]
    show len1 k (x ++ ((xs.flatten ++ (l.take (len1 k l) ++ [])) ++ l.drop (len1 k l))) = _
    rw [List.append_nil, List.append_assoc, List.take_append_drop]; exact h2
/-- What stands behind a word: nothing, or a blank. -/
def behind (r : Bs) : Prop := r = [] ∨ r.head? = some 32
theorem len1_behind {x r : Bs} (hr : behind r) : len1 k (x ++ r) = (if x = [] then len1 k r else len1 k x) := by
  cases x with
  | nil => rfl
  | cons a t =>
    rw [if_neg (by simp)]
    cases t with
    | cons b t => rfl
    | nil =>
      show lt2 k a r.head? = lt2 k a none
      rcases hr with rfl | hr
      · rfl
      · rw [hr]; exact lt2_none has_blank
theorem ctx_ltrs {r : Bs} (hr : behind r) : ∀ cs : List Bs, ctx k cs r → ltrs k cs.flatten = (cs, []) := by
  intro cs
  induction cs with
  | nil => intro _; exact ltrs_stop (by rfl)
  | cons x xs ih =>
    rintro ⟨h1, h2, h3⟩
    have e := ih h3
    have hx : x ++ xs.flatten ≠ [] := by simp [h1]
    rw [← List.append_assoc, len1_behind hr, if_neg hx] at h2
    have hpos : 0 < x.length := List.length_pos_iff.2 h1
    rw [List.flatten_cons, ltrs_step (by rw [h2]; omega), h2, List.take_left' rfl, List.drop_left' rfl, e]
def allWords (k : Int) (ws : List Bs) : Prop := ∀ w ∈ ws, word k w = true
theorem read_words : ∀ (l : Bs) (ws : List Bs) (cs : List Bs) (o : Nat) (ws' : List Bs), allWords k ws → ws.length ≤ 6 → (cs ≠ [] → ws.length ≤ 5) → cs.length ≤ 12 → ctx k cs l → read k ws cs.flatten cs.length o l = .ok ws' → allWords k ws' ∧ ws'.length ≤ 6 := by
  have cl : ∀ (r : Bs) (ws cs : List Bs), behind r → allWords k ws → ws.length ≤ 6 → (cs ≠ [] → ws.length ≤ 5) → cs.length ≤ 12 → ctx k cs r → allWords k (close ws cs.flatten cs.length) ∧ (close ws cs.flatten cs.length).length ≤ 6 := by
    intro r ws cs hr h1 h2 h3 h4 h5
    unfold close
    by_cases h0 : cs.length = 0
    · rw [if_pos h0]; exact ⟨h1, h2⟩
    · rw [if_neg h0]
      have hn : cs ≠ [] := fun e => h0 (by rw [e]; rfl)
      refine ⟨fun w hw => ?_, by rw [List.length_append, List.length_singleton]; have := h3 hn; omega⟩
      rcases List.mem_append.1 hw with hw | hw
      · exact h1 w hw
      · obtain rfl := List.mem_singleton.1 hw
        refine word_iff.2 ?_
        rw [ctx_ltrs hr cs h5]
        exact ⟨rfl, by show 1 ≤ cs.length; omega, h4⟩
  intro l
  refine read_ind (k := k) (P := fun l => ∀ (ws : List Bs) (cs : List Bs) (o : Nat) (ws' : List Bs), allWords k ws → ws.length ≤ 6 → (cs ≠ [] → ws.length ≤ 5) → cs.length ≤ 12 → ctx k cs l → read k ws cs.flatten cs.length o l = .ok ws' → allWords k ws' ∧ ws'.length ≤ 6) ?_ ?_ ?_ ?_ l
  · intro ws cs o ws' h1 h2 h3 h4 h5 h
    rw [read_nil] at h
    cases h
    exact cl [] ws cs (.inl rfl) h1 h2 h3 h4 h5
  · intro l ih ws cs o ws' h1 h2 h3 h4 h5 h
    rw [read_blank] at h
    obtain ⟨g1, g2⟩ := cl (32 :: l) ws cs (.inr rfl) h1 h2 h3 h4 h5
    exact ih _ [] _ ws' g1 g2 (fun e => absurd rfl e) (by simp) trivial h
  · intro l hn hb hc ws cs o ws' h1 h2 h3 h4 h5 h
    cases l with
    | nil => exact absurd rfl hn
    | cons a l => rw [read_char (by simpa using hb) hc] at h; cases h
  · intro l hl ih ws cs o ws' h1 h2 h3 h4 h5 h
    by_cases h6 : cs.length = 12 ∨ ws.length = 6
    · rw [read_limit hl h6] at h; cases h
    · rw [read_letter hl h6] at h
      refine ih ws (cs ++ [l.take (len1 k l)]) (o + len1 k l) ws' h1 h2 (fun _ => by omega) (by rw [List.length_append, List.length_singleton]; omega) (ctx_snoc hl cs h5) ?_
      rw [List.flatten_append, List.length_append]
      show read k ws (cs.flatten ++ (l.take (len1 k l) ++ [])) (cs.length + 1) (o + len1 k l) (l.drop (len1 k l)) = _
      rw [List.append_nil]; exact h
/-- The bytes of words, with one more for each. -/
def bytes : List Bs → Nat
  | [] => 0
  | w :: ws => w.length + 1 + bytes ws
theorem bytes_snoc (ws : List Bs) (w : Bs) : bytes (ws ++ [w]) = bytes ws + w.length + 1 := by
  induction ws with
  | nil => simp [bytes]
  | cons x xs ih => simp [bytes, ih]; omega
theorem bytes_close (ws : List Bs) (cur : Bs) (cnt : Nat) : bytes (close ws cur cnt) ≤ bytes ws + (if cnt = 0 then 0 else cur.length + 1) := by
  unfold close
  split
  · omega
  · rw [bytes_snoc]; omega
theorem read_bytes : ∀ (l : Bs) (ws : List Bs) (cur : Bs) (cnt o : Nat) (ws' : List Bs), (cnt = 0 → cur = []) → read k ws cur cnt o l = .ok ws' → bytes ws' ≤ bytes ws + cur.length + l.length + 1 := by
  intro l
  refine read_ind (k := k) (P := fun l => ∀ (ws : List Bs) (cur : Bs) (cnt o : Nat) (ws' : List Bs), (cnt = 0 → cur = []) → read k ws cur cnt o l = .ok ws' → bytes ws' ≤ bytes ws + cur.length + l.length + 1) ?_ ?_ ?_ ?_ l
  · intro ws cur cnt o ws' h0 h
    rw [read_nil] at h
    cases h
    have := bytes_close ws cur cnt
    split at this <;> simp <;> omega
  · intro l ih ws cur cnt o ws' h0 h
    rw [read_blank] at h
    have h1 := ih _ _ _ _ ws' (fun _ => rfl) h
    have := bytes_close ws cur cnt
    simp only [List.length_nil, List.length_cons] at h1 ⊢
    split at this <;> omega
  · intro l hn hb hc ws cur cnt o ws' h0 h
    cases l with
    | nil => exact absurd rfl hn
    | cons a l => rw [read_char (by simpa using hb) hc] at h; cases h
  · intro l hl ih ws cur cnt o ws' h0 h
    by_cases h6 : cnt = 12 ∨ ws.length = 6
    · rw [read_limit hl h6] at h; cases h
    · rw [read_letter hl h6] at h
      have h1 := ih _ _ _ _ ws' (fun e => by omega) h
      have hle := len1_le (k := k) (l := l)
      rw [List.length_append, List.length_take, List.length_drop] at h1
      omega
/-! ### A name's text, read -/
/-- Words with blanks between them. -/
def join : List Bs → Bs
  | [] => []
  | [w] => w
  | w :: v :: ws => w ++ 32 :: join (v :: ws)
theorem join_len (ws : List Bs) (h : ws ≠ []) : (join ws).length + 1 = bytes ws := by
  induction ws with
  | nil => exact absurd rfl h
  | cons w ws ih =>
    cases ws with
    | nil => simp [join, bytes]
    | cons v ws =>
      have := ih (by simp)
      simp only [join, bytes, List.length_append, List.length_cons] at this ⊢
      omega
theorem read_letters {r : Bs} (hr : behind r) : ∀ (cs : List Bs) (ws : List Bs) (cur : Bs) (cnt o : Nat), ltrs k cs.flatten = (cs, []) → ws.length ≤ 5 → cnt + cs.length ≤ 12 → read k ws cur cnt o (cs.flatten ++ r) = read k ws (cur ++ cs.flatten) (cnt + cs.length) (o + cs.flatten.length) r := by
  intro cs
  induction cs with
  | nil => intro ws cur cnt o h1 h2 h3; simp
  | cons x xs ih =>
    intro ws cur cnt o h1 h2 h3
    have h0 : len1 k ((x :: xs).flatten) ≠ 0 := by
      intro e
      rw [ltrs_stop e] at h1
      cases h1
    rw [ltrs_step h0] at h1
    injection h1 with h4 h5
    injection h4 with h6 h7
    have hx : len1 k ((x :: xs).flatten) = x.length := by
      have := congrArg List.length h6
      rw [List.length_take] at this
      have hle := len1_le (k := k) (l := (x :: xs).flatten)
      omega
    have hdrop : (x :: xs).flatten.drop x.length = xs.flatten := by rw [List.flatten_cons, List.drop_left' rfl]
    rw [hx, hdrop] at h7 h5
    have hrest : ltrs k xs.flatten = (xs, []) := Prod.ext h7 h5
    have hne : (x :: xs).flatten ≠ [] := fun e => h0 (by rw [e]; rfl)
    have hl : len1 k ((x :: xs).flatten ++ r) = x.length := by rw [len1_behind hr, if_neg hne, hx]
    have hx0 : x.length ≠ 0 := by rw [← hx]; exact h0
    simp only [List.length_cons] at h3
    rw [read_letter (by rw [hl]; exact hx0) (by omega), hl]
    have e1 : ((x :: xs).flatten ++ r).take x.length = x := by rw [List.flatten_cons, List.append_assoc, List.take_left' rfl]
    have e2 : ((x :: xs).flatten ++ r).drop x.length = xs.flatten ++ r := by rw [List.flatten_cons, List.append_assoc, List.drop_left' rfl]
    rw [e1, e2, ih ws (cur ++ x) (cnt + 1) (o + x.length) hrest h2 (by omega)]
    congr 1
    · rw [List.flatten_cons, List.append_assoc]
    · simp only [List.length_cons]; omega
    · rw [List.flatten_cons, List.length_append]; omega
theorem read_word {r w : Bs} (hr : behind r) (hw : word k w = true) (ws : List Bs) (o : Nat) (h : ws.length ≤ 5) : ∃ cnt, cnt ≠ 0 ∧ read k ws [] 0 o (w ++ r) = read k ws w cnt (o + w.length) r := by
  have h1 := word_iff.1 hw
  have h2 := word_join hw
  refine ⟨(ltrs k w).1.length, by omega, ?_⟩
  have h3 : ltrs k (ltrs k w).1.flatten = ((ltrs k w).1, []) := by rw [h2]; exact Prod.ext rfl h1.1
  have := read_letters hr (ltrs k w).1 ws [] 0 o h3 h (by omega)
  rw [h2, List.nil_append, Nat.zero_add] at this
  exact this
/-- A name's text is read as the name. -/
theorem read_join : ∀ (ws : List Bs) (vs : List Bs) (o : Nat), ws ≠ [] → allWords k ws → vs.length + ws.length ≤ 6 → read k vs [] 0 o (join ws) = .ok (vs ++ ws) := by
  intro ws
  induction ws with
  | nil => intro vs o h; exact absurd rfl h
  | cons w ws ih =>
    intro vs o _ hw hl
    have hw0 := hw w (List.mem_cons_self ..)
    simp only [List.length_cons] at hl
    cases ws with
    | nil =>
      obtain ⟨cnt, hc, e⟩ := read_word (r := []) (.inl rfl) hw0 vs o (by omega)
      rw [List.append_nil] at e
      show read k vs [] 0 o w = _
      rw [e, read_nil]
      unfold close
      rw [if_neg hc]
    | cons v ws =>
      obtain ⟨cnt, hc, e⟩ := read_word (r := 32 :: join (v :: ws)) (.inr rfl) hw0 vs o (by omega)
      show read k vs [] 0 o (w ++ 32 :: join (v :: ws)) = _
      rw [e, read_blank]
      unfold close
      rw [if_neg hc]
      simp only [List.length_cons] at hl
      rw [ih (vs ++ [w]) _ (by simp) (fun x hx => hw x (List.mem_cons_of_mem _ hx)) (by rw [List.length_append, List.length_singleton, List.length_cons]; omega)]
      rw [List.append_assoc]; rfl
end
end Go.CH.Scr
