/-
  Script: names, their texts, and reading them, plainly.
-/
import Derived.Test.YtnppgomhhcbplaaGreatDoorPO1
set_option linter.unusedSimpArgs false
set_option linter.unusedVariables false
namespace Go.CH.Scr
structure NameM where
  k : Int
  ws : List Bs
def noName : NameM := ⟨0, []⟩
def plainT : Bs := [112, 108, 97, 105, 110]
def casedT : Bs := [99, 97, 115, 101, 100]
def abjadT : Bs := [97, 98, 106, 97, 100]
def syllabT : Bs := [115, 121, 108, 108, 97, 98]
def title (k : Int) : Bs := if k = 1 then plainT else if k = 2 then casedT else if k = 3 then abjadT else syllabT
def validN (n : NameM) : Bool := n.ws.all (word n.k) && (decide (0 < n.ws.length) && decide (n.ws.length ≤ 6))
def textN (n : NameM) : Bs := title n.k ++ 58 :: join n.ws
/-- The script whose word and colon a text begins with, and their length. -/
def pre (t : Bs) : Int × Nat :=
  if (plainT ++ [58]).isPrefixOf t then (1, 6) else if (casedT ++ [58]).isPrefixOf t then (2, 6)
  else if (abjadT ++ [58]).isPrefixOf t then (3, 6) else if (syllabT ++ [58]).isPrefixOf t then (4, 7) else (0, 0)
def done (k : Int) (len : Nat) : Res → NameM × Int × Int
  | .ok ws => if ws = [] then (noName, 6, len) else (⟨k, ws⟩, 0, 0)
  | .err e at_ => (noName, e, at_)
theorem done_nil {k : Int} {len : Nat} : done k len (.ok []) = (noName, 6, (len : Int)) := rfl
theorem done_ok {k : Int} {len : Nat} {ws : List Bs} (h : ws ≠ []) : done k len (.ok ws) = (⟨k, ws⟩, 0, 0) := by
  show (if ws = [] then _ else _) = _
  rw [if_neg h]
theorem done_err {k : Int} {len : Nat} {e a : Int} : done k len (.err e a) = (noName, e, a) := rfl
/-- Parse. -/
def parseN (t : Bs) : NameM × Int × Int :=
  if 20000 < t.length then (noName, 2, -1)
  else if (pre t).1 = 0 then (noName, 5, 0)
  else done (pre t).1 t.length (read (pre t).1 [] [] 0 (pre t).2 (t.drop (pre t).2))
theorem validN_iff {n : NameM} : validN n = true ↔ allWords n.k n.ws ∧ 0 < n.ws.length ∧ n.ws.length ≤ 6 := by
  unfold validN allWords
  rw [Bool.and_eq_true, Bool.and_eq_true, decide_eq_true_eq, decide_eq_true_eq, List.all_eq_true]
theorem word_kind {k : Int} {l : Bs} (h : word k l = true) : k = 1 ∨ k = 2 ∨ k = 3 ∨ k = 4 := by
  have h1 := word_first h
  cases l with
  | nil => exact absurd rfl h1
  | cons a l =>
    have h2 : lt2 k a l.head? ≠ 0 := h1
    unfold lt2 at h2
    by_cases e1 : k = 1
    · exact .inl e1
    by_cases e2 : k = 2
    · exact .inr (.inl e2)
    by_cases e3 : k = 3
    · exact .inr (.inr (.inl e3))
    by_cases e4 : k = 4
    · exact .inr (.inr (.inr e4))
    · simp [e1, e2, e3, e4] at h2
theorem valid_kind {n : NameM} (h : validN n = true) : n.k = 1 ∨ n.k = 2 ∨ n.k = 3 ∨ n.k = 4 := by
  obtain ⟨h1, h2, h3⟩ := validN_iff.1 h
  cases hw : n.ws with
  | nil => rw [hw] at h2; simp at h2
  | cons w ws => exact word_kind (h1 w (by rw [hw]; exact List.mem_cons_self ..))
theorem prefix_app {a t : Bs} : a.isPrefixOf t = true ↔ ∃ r, t = a ++ r := by
  rw [List.isPrefixOf_iff_prefix]
  exact ⟨fun ⟨r, h⟩ => ⟨r, h.symm⟩, fun ⟨r, h⟩ => ⟨r, h.symm⟩⟩
/-- What a text with a script begins with. -/
theorem pre_is {t : Bs} (h : (pre t).1 ≠ 0) : ∃ r, t = title (pre t).1 ++ 58 :: r ∧ (pre t).2 = (title (pre t).1).length + 1 ∧ ((pre t).1 = 1 ∨ (pre t).1 = 2 ∨ (pre t).1 = 3 ∨ (pre t).1 = 4) := by
  unfold pre at h ⊢
  by_cases h1 : (plainT ++ [58]).isPrefixOf t = true
  · rw [if_pos h1]; obtain ⟨r, e⟩ := prefix_app.1 h1; exact ⟨r, by rw [e]; rfl, rfl, .inl rfl⟩
  rw [if_neg h1] at h ⊢
  by_cases h2 : (casedT ++ [58]).isPrefixOf t = true
  · rw [if_pos h2]; obtain ⟨r, e⟩ := prefix_app.1 h2; exact ⟨r, by rw [e]; rfl, rfl, .inr (.inl rfl)⟩
  rw [if_neg h2] at h ⊢
  by_cases h3 : (abjadT ++ [58]).isPrefixOf t = true
  · rw [if_pos h3]; obtain ⟨r, e⟩ := prefix_app.1 h3; exact ⟨r, by rw [e]; rfl, rfl, .inr (.inr (.inl rfl))⟩
  rw [if_neg h3] at h ⊢
  by_cases h4 : (syllabT ++ [58]).isPrefixOf t = true
  · rw [if_pos h4]; obtain ⟨r, e⟩ := prefix_app.1 h4; exact ⟨r, by rw [e]; rfl, rfl, .inr (.inr (.inr rfl))⟩
  rw [if_neg h4] at h
  exact absurd rfl h
theorem pre_title {k : Int} (hk : k = 1 ∨ k = 2 ∨ k = 3 ∨ k = 4) (r : Bs) : pre (title k ++ 58 :: r) = (k, (title k).length + 1) := by
  rcases hk with rfl | rfl | rfl | rfl <;> simp [pre, title, plainT, casedT, abjadT, syllabT, List.isPrefixOf]
theorem drop_title (k : Int) (r : Bs) : (title k ++ 58 :: r).drop ((title k).length + 1) = r := by
  rw [List.drop_append, List.drop_eq_nil_of_le (by omega), Nat.add_sub_cancel_left]; rfl
theorem title_len (k : Int) : 5 ≤ (title k).length ∧ (title k).length ≤ 6 := by
  unfold title
  split
  · decide
  split
  · decide
  split <;> decide
/-- A text with a script, read. -/
theorem parse_title {k : Int} (hk : k = 1 ∨ k = 2 ∨ k = 3 ∨ k = 4) {r : Bs} (hl : (title k ++ 58 :: r).length ≤ 20000) : parseN (title k ++ 58 :: r) = done k (title k ++ 58 :: r).length (read k [] [] 0 ((title k).length + 1) r) := by
  unfold parseN
  rw [if_neg (by omega), pre_title hk, drop_title]
  simp only
  rw [if_neg (by omega)]
theorem text_read {n : NameM} (hv : validN n = true) (hl : (textN n).length ≤ 20000) : parseN (textN n) = (n, 0, 0) := by
  obtain ⟨h1, h2, h3⟩ := validN_iff.1 hv
  have hne : n.ws ≠ [] := fun e => by rw [e] at h2; simp at h2
  unfold textN at hl ⊢
  rw [parse_title (valid_kind hv) hl, read_join n.ws [] _ hne h1 (by simp; exact h3)]
  rw [List.nil_append, done_ok hne]
theorem text_inj {a b : NameM} (ha : validN a = true) (hb : validN b = true) (la : (textN a).length ≤ 20000) (lb : (textN b).length ≤ 20000) (h : textN a = textN b) : a = b := by
  have h1 := text_read ha la
  rw [h, text_read hb lb] at h1
  exact (congrArg Prod.fst h1).symm
theorem bytes_few {ws : List Bs} {m : Nat} (h : ∀ w ∈ ws, w.length ≤ m) : bytes ws ≤ ws.length * (m + 1) := by
  induction ws with
  | nil => simp [bytes]
  | cons w ws ih =>
    have h1 := h w (List.mem_cons_self ..)
    have h2 := ih (fun x hx => h x (List.mem_cons_of_mem _ hx))
    simp only [bytes, List.length_cons, Nat.succ_mul]
    omega
theorem text_len (n : NameM) (h : n.ws ≠ []) : (textN n).length = (title n.k).length + bytes n.ws := by
  unfold textN
  have := join_len n.ws h
  rw [List.length_append, List.length_cons]; omega
theorem text_few {n : NameM} (hl : n.ws.length ≤ 20) (h : ∀ w ∈ n.ws, w.length ≤ 100) : (textN n).length ≤ 20000 := by
  have h1 := title_len n.k
  by_cases hn : n.ws = []
  · unfold textN; rw [hn]; simp [join]; omega
  · rw [text_len n hn]
    have h2 := bytes_few h
    have h3 : n.ws.length * (100 + 1) ≤ 20 * 101 := Nat.mul_le_mul hl (Nat.le_refl _)
    omega
/-- What is read is a name; its text is not longer. -/
theorem parse_ok {t : Bs} {n : NameM} {at_ : Int} (h : parseN t = (n, 0, at_)) : at_ = 0 ∧ validN n = true ∧ (textN n).length ≤ t.length := by
  unfold parseN at h
  split at h
  · cases h
  split at h
  · cases h
  rename_i h1 h2
  obtain ⟨r, e, e2, hk⟩ := pre_is h2
  rw [e2] at h
  generalize (pre t).1 = k at *
  have hd : t.drop ((title k).length + 1) = r := by rw [e]; exact drop_title _ _
  rw [hd] at h
  cases hr : read k [] [] 0 ((title k).length + 1) r with
  | err a b =>
    rw [hr, done_err] at h
    obtain ⟨i, _, _, h3, _⟩ := read_err r _ _ _ _ _ _ hr
    simp only [Prod.mk.injEq] at h
    omega
  | ok ws =>
    rw [hr] at h
    by_cases hw : ws = []
    · rw [hw, done_nil] at h; cases h
    · rw [done_ok hw] at h
      simp only [Prod.mk.injEq] at h
      obtain ⟨rfl, -, rfl⟩ := h
      have h4 := read_words r [] [] _ ws (fun w hw => by cases hw) (by simp) (fun e => absurd rfl e) (by simp) trivial hr
      have h5 := read_bytes r [] [] 0 _ ws (fun _ => rfl) hr
      have hpos : 0 < ws.length := List.length_pos_iff.2 hw
      refine ⟨rfl, validN_iff.2 ⟨h4.1, hpos, h4.2⟩, ?_⟩
      rw [text_len _ hw]
      have h6 := congrArg List.length e
      rw [List.length_append, List.length_cons] at h6
      simp [bytes] at h5
      show (title k).length + bytes ws ≤ t.length
      omega
theorem parse_err {t : Bs} {n : NameM} {e at_ : Int} (h : parseN t = (n, e, at_)) (he : e ≠ 0) : n = noName := by
  unfold parseN at h
  split at h
  · exact (congrArg Prod.fst h).symm
  split at h
  · exact (congrArg Prod.fst h).symm
  cases hr : read (pre t).1 [] [] 0 (pre t).2 (t.drop (pre t).2) with
  | err a b => rw [hr] at h; exact (congrArg Prod.fst h).symm
  | ok ws =>
    rw [hr] at h
    by_cases hw : ws = []
    · rw [hw, done_nil] at h; exact (congrArg Prod.fst h).symm
    · rw [done_ok hw] at h
      simp only [Prod.mk.injEq] at h
      exact absurd h.2.1.symm he
/-- The errors and their offsets. -/
theorem parse_at {t : Bs} {n : NameM} {e at_ : Int} (hl : t.length ≤ 20000) (h : parseN t = (n, e, at_)) :
    (e = 0 ∧ at_ = 0) ∨ (e = 5 ∧ at_ = 0) ∨ (e = 6 ∧ at_ = t.length) ∨
      ((e = 3 ∨ e = 2) ∧ ∃ i : Nat, at_ = (i : Int) ∧ 6 ≤ i ∧ i < t.length ∧ ((∃ n', parseN (t.take i) = (n', 0, 0)) ∨ parseN (t.take i) = (noName, 6, (i : Int)))) := by
  unfold parseN at h
  rw [if_neg (by omega)] at h
  by_cases h2 : (pre t).1 = 0
  · rw [if_pos h2] at h
    simp only [Prod.mk.injEq] at h
    exact .inr (.inl ⟨h.2.1.symm, h.2.2.symm⟩)
  rw [if_neg h2] at h
  obtain ⟨r, e0, e2, hk⟩ := pre_is h2
  rw [e2] at h
  generalize (pre t).1 = k at *
  have hd : t.drop ((title k).length + 1) = r := by rw [e0]; exact drop_title _ _
  rw [hd] at h
  have htl := title_len k
  have hlen := congrArg List.length e0
  rw [List.length_append, List.length_cons] at hlen
  cases hr : read k [] [] 0 ((title k).length + 1) r with
  | ok ws =>
    rw [hr] at h
    by_cases hw : ws = []
    · rw [hw, done_nil] at h
      simp only [Prod.mk.injEq] at h
      exact .inr (.inr (.inl ⟨h.2.1.symm, h.2.2.symm⟩))
    · rw [done_ok hw] at h
      simp only [Prod.mk.injEq] at h
      exact .inl ⟨h.2.1.symm, h.2.2.symm⟩
  | err a b =>
    rw [hr, done_err] at h
    simp only [Prod.mk.injEq] at h
    obtain ⟨-, rfl, rfl⟩ := h
    obtain ⟨i, rfl, h3, h4, ws', h5⟩ := read_err r _ _ _ _ _ _ hr
    refine .inr (.inr (.inr ⟨h4, (title k).length + 1 + i, rfl, by omega, by omega, ?_⟩))
    have e3 : t.take ((title k).length + 1 + i) = title k ++ 58 :: r.take i := by
      conv => lhs; rw [e0]
      rw [List.take_append, List.take_of_length_le (by omega), show (title k).length + 1 + i - (title k).length = i + 1 by omega, List.take_succ_cons]
    have hl2 : (title k ++ 58 :: r.take i).length = (title k).length + 1 + i := by
      rw [List.length_append, List.length_cons, List.length_take, Nat.min_eq_left (by omega)]; omega
    rw [e3, parse_title hk (by rw [hl2]; omega), h5, hl2]
    by_cases hw : ws' = []
    · right; rw [hw, done_nil]
    · left; rw [done_ok hw]; exact ⟨_, rfl⟩
/-- One blank more, where a blank stands or the text ends. -/
theorem parse_gap {t : Bs} {p : Nat} (hl : t.length < 20000) (hp : gap t p) (hs : (parseN t).2.1 ≠ 5) :
    (parseN (t.take p ++ 32 :: t.drop p)).1 = (parseN t).1 ∧ (parseN (t.take p ++ 32 :: t.drop p)).2.1 = (parseN t).2.1 := by
  by_cases h2 : (pre t).1 = 0
  · exfalso; apply hs; unfold parseN; rw [if_neg (by omega), if_pos h2]
  obtain ⟨r, e0, e2, hk⟩ := pre_is h2
  generalize (pre t).1 = k at *
  have htl := title_len k
  have hlen := congrArg List.length e0
  rw [List.length_append, List.length_cons] at hlen
  have hge : (title k).length + 1 ≤ p := by
    rcases hp with hp | hp
    · rcases Nat.lt_or_ge p ((title k).length + 1) with h3 | h3
      · exfalso
        rw [e0] at hp
        have key : ∀ q, q < (title k).length + 1 → (title k ++ [58])[q]? ≠ some 32 := by
          rcases hk with rfl | rfl | rfl | rfl <;> decide
        refine key p h3 ?_
        rw [show title k ++ 58 :: r = (title k ++ [58]) ++ r by simp, List.getElem?_append_left (by simp; omega)] at hp
        exact hp
      · exact h3
    · omega
  obtain ⟨q, rfl⟩ : ∃ q, p = (title k).length + 1 + q := ⟨p - ((title k).length + 1), by omega⟩
  have et : t.take ((title k).length + 1 + q) = title k ++ 58 :: r.take q := by
    conv => lhs; rw [e0]
    rw [List.take_append, List.take_of_length_le (by omega), show (title k).length + 1 + q - (title k).length = q + 1 by omega, List.take_succ_cons]
  have ed : t.drop ((title k).length + 1 + q) = r.drop q := by
    conv => lhs; rw [e0]
    rw [← List.drop_drop, drop_title]
  have hg : gap r q := by
    rcases hp with hp | hp
    · left
      rw [e0] at hp
      rw [List.getElem?_append_right (by omega), show (title k).length + 1 + q - (title k).length = q + 1 by omega] at hp
      simpa using hp
    · right; omega
  have h5 := read_gap (k := k) r [] [] 0 ((title k).length + 1) q hg
  have e5 : t.take ((title k).length + 1 + q) ++ 32 :: t.drop ((title k).length + 1 + q) = title k ++ 58 :: (r.take q ++ 32 :: r.drop q) := by
    rw [et, ed]; simp
  have hl6 : (title k ++ 58 :: (r.take q ++ 32 :: r.drop q)).length ≤ 20000 := by
    rw [← e5, List.length_append, List.length_cons, List.length_take, List.length_drop]; omega
  rw [e5, parse_title hk hl6]
  rw [show parseN t = done k t.length (read k [] [] 0 ((title k).length + 1) r) by
    conv => lhs; rw [e0]
    rw [parse_title hk (by rw [← e0]; omega), ← e0]]
  cases h6 : read k [] [] 0 ((title k).length + 1) (r.take q ++ 32 :: r.drop q) with
  | ok ws =>
    cases h7 : read k [] [] 0 ((title k).length + 1) r with
    | ok ws' =>
      rw [h6, h7] at h5
      obtain rfl : ws = ws' := h5
      by_cases hw : ws = []
      · rw [hw, done_nil, done_nil]; exact ⟨rfl, rfl⟩
      · rw [done_ok hw, done_ok hw]; exact ⟨rfl, rfl⟩
    | err a b => rw [h6, h7] at h5; exact h5.elim
  | err a b =>
    cases h7 : read k [] [] 0 ((title k).length + 1) r with
    | ok ws' => rw [h6, h7] at h5; exact h5.elim
    | err a' b' =>
      rw [h6, h7] at h5
      obtain rfl : a = a' := h5
      exact ⟨rfl, rfl⟩
end Go.CH.Scr
