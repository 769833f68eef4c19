/-
  Potentials, plainly: certificates; that a certificate that holds bounds every way from below; fewer rules, dearer rules, other bounds; the certificate that is made.
  Potentials, plainly: ways and derivations; words exchanged; what is left of two words.
  Tables, plainly: which are valid; two words of a table; what becomes of them with fewer or dearer rules.
  Letters in the middle of a word; a rule's letters at a place of a word, plainly.
  The rules of a side with their letters; moves and derivations as layer 11 reckons them, plainly.
-/
import Derived.Test.YtnppgomhhcbplaaGreatDoorPO8
set_option linter.unusedSimpArgs false
set_option linter.unusedVariables false
namespace Go.CH.Pot
open Go.CH.Scr
/-- An element of a certificate. -/
structure Pt where
  i : Int
  j : Int
  a : Bs
  r : Bool
  h : Int
deriving DecidableEq
def Pt.st (p : Pt) : St := ⟨p.i.toNat, p.j.toNat, p.a, p.r⟩
/-- The order of states. -/
def ltP (p q : Pt) : Prop := p.i < q.i ∨ p.i = q.i ∧ (p.j < q.j ∨ p.j = q.j ∧ (p.a < q.a ∨ p.a = q.a ∧ p.r = false ∧ q.r = true))
instance (p q : Pt) : Decidable (ltP p q) := by unfold ltP; infer_instance
theorem lta_irr (a : Bs) : ¬ a < a := List.lt_irrefl a
theorem lta_trans {a b c : Bs} (h : a < b) (h2 : b < c) : a < c := List.lt_trans h h2
theorem lta_tri (a b : Bs) : a < b ∨ a = b ∨ b < a := by
  rcases Classical.em (a < b) with h | h
  · exact .inl h
  · rcases Classical.em (b < a) with h2 | h2
    · exact .inr (.inr h2)
    · exact .inr (.inl (List.le_antisymm (List.not_lt.1 h2) (List.not_lt.1 h)))
theorem ltP_irr (p : Pt) : ¬ ltP p p := by
  rintro (h | ⟨-, h | ⟨-, h | ⟨-, h1, h2⟩⟩⟩)
  · omega
  · omega
  · exact lta_irr _ h
  · rw [h1] at h2; cases h2
theorem ltP_trans {p q r : Pt} (h : ltP p q) (h2 : ltP q r) : ltP p r := by
  unfold ltP at *
  rcases h with h | ⟨e1, h⟩
  · rcases h2 with h2 | ⟨e2, h2⟩ <;> exact .inl (by omega)
  · rcases h2 with h2 | ⟨e2, h2⟩
    · exact .inl (by omega)
    · refine .inr ⟨by omega, ?_⟩
      rcases h with h | ⟨e3, h⟩
      · rcases h2 with h2 | ⟨e4, h2⟩ <;> exact .inl (by omega)
      · rcases h2 with h2 | ⟨e4, h2⟩
        · exact .inl (by omega)
        · refine .inr ⟨by omega, ?_⟩
          rcases h with h | ⟨e5, h, h'⟩
          · rcases h2 with h2 | ⟨e6, h2, h2'⟩
            · exact .inl (lta_trans h h2)
            · exact .inl (e6 ▸ h)
          · rcases h2 with h2 | ⟨e6, h2, h2'⟩
            · exact .inl (e5 ▸ h2)
            · rw [h'] at h2; cases h2
theorem ltP_tri (p q : Pt) : ltP p q ∨ (p.i = q.i ∧ p.j = q.j ∧ p.a = q.a ∧ p.r = q.r) ∨ ltP q p := by
  unfold ltP
  rcases Int.lt_trichotomy p.i q.i with h | h | h
  · exact .inl (.inl h)
  · rcases Int.lt_trichotomy p.j q.j with h2 | h2 | h2
    · exact .inl (.inr ⟨h, .inl h2⟩)
    · rcases lta_tri p.a q.a with h3 | h3 | h3
      · exact .inl (.inr ⟨h, .inr ⟨h2, .inl h3⟩⟩)
      · cases h4 : p.r <;> cases h5 : q.r
        · exact .inr (.inl ⟨h, h2, h3, rfl⟩)
        · exact .inl (.inr ⟨h, .inr ⟨h2, .inr ⟨h3, rfl, rfl⟩⟩⟩)
        · exact .inr (.inr (.inr ⟨h.symm, .inr ⟨h2.symm, .inr ⟨h3.symm, rfl, rfl⟩⟩⟩))
        · exact .inr (.inl ⟨h, h2, h3, rfl⟩)
      · exact .inr (.inr (.inr ⟨h.symm, .inr ⟨h2.symm, .inl h3⟩⟩))
    · exact .inr (.inr (.inr ⟨h.symm, .inl h2⟩))
  · exact .inr (.inr (.inl h))
def isLow (c : UInt8) : Bool := decide (97 ≤ c) && decide (c ≤ 122)
/-- An element is a state that is not the end, with an H that is allowed. -/
def proper (W : Wd) (bound : Int) (p : Pt) : Bool :=
  decide (0 ≤ p.i) && decide (p.i ≤ W.l.length) && decide (0 ≤ p.j) && decide (p.j ≤ W.m.length) && decide (p.a.length ≤ 3) && p.a.all isLow && (!p.r || decide (p.a ≠ [])) && decide (p.st ≠ W.fin) && decide (0 < p.h) && decide (p.h ≤ min bound 100000)
theorem proper_iff {W : Wd} {bound : Int} {p : Pt} : proper W bound p = true ↔ (0 ≤ p.i ∧ p.i ≤ W.l.length) ∧ (0 ≤ p.j ∧ p.j ≤ W.m.length) ∧ (p.a.length ≤ 3 ∧ p.a.all isLow = true) ∧ (p.r = true → p.a ≠ []) ∧ p.st ≠ W.fin ∧ 0 < p.h ∧ p.h ≤ bound ∧ p.h ≤ 100000 := by
  unfold proper
  simp only [Bool.and_eq_true, Bool.or_eq_true, decide_eq_true_eq, Bool.not_eq_true']
  constructor
  · rintro ⟨⟨⟨⟨⟨⟨⟨⟨⟨h1, h2⟩, h3⟩, h4⟩, h5⟩, h6⟩, h7⟩, h8⟩, h9⟩, h10⟩
    refine ⟨⟨h1, h2⟩, ⟨h3, h4⟩, ⟨h5, h6⟩, fun hr => ?_, h8, h9, by omega, by omega⟩
    rcases h7 with h7 | h7
    · rw [hr] at h7; cases h7
    · exact h7
  · rintro ⟨⟨h1, h2⟩, ⟨h3, h4⟩, ⟨h5, h6⟩, h7, h8, h9, h10, h11⟩
    refine ⟨⟨⟨⟨⟨⟨⟨⟨⟨h1, h2⟩, h3⟩, h4⟩, h5⟩, h6⟩, ?_⟩, h8⟩, h9⟩, by omega⟩
    cases hr : p.r with
    | false => exact .inl rfl
    | true => exact .inr (h7 hr)
/-- The H of a state, 0 if it is not in the certificate. -/
def hgt (C : List Pt) (s : St) : Int := match C.find? (fun p => decide (p.st = s)) with | some p => p.h | none => 0
def steps (W : Wd) (C : List Pt) (p : Pt) : Bool := (W.moves p.st).all fun x => decide (p.h ≤ x.1 + hgt C x.2)
/-- A certificate holds. -/
def Holds (W : Wd) (bound : Int) (C : List Pt) : Prop :=
  (∀ p ∈ C, proper W bound p = true) ∧ C.Pairwise ltP ∧ (∀ p ∈ C, steps W C p = true) ∧ bound ≤ hgt C st0
section
variable {W : Wd} {C : List Pt} {s : St} {bound c : Int}
theorem st_inj {p q : Pt} (hp : 0 ≤ p.i ∧ 0 ≤ p.j) (hq : 0 ≤ q.i ∧ 0 ≤ q.j) (h : p.st = q.st) : p.i = q.i ∧ p.j = q.j ∧ p.a = q.a ∧ p.r = q.r := by
  unfold Pt.st at h
  injection h with h1 h2 h3 h4
  exact ⟨by omega, by omega, h3, h4⟩
/-- In a list in order no state stands twice. -/
theorem pair_one (hs : C.Pairwise ltP) (h0 : ∀ p ∈ C, 0 ≤ p.i ∧ 0 ≤ p.j) {p q : Pt} (hp : p ∈ C) (hq : q ∈ C) (h : p.st = q.st) : p = q := by
  revert hs h0 hp hq
  induction C with
  | nil => intro _ _ hp _; cases hp
  | cons x l ih =>
    intro hs h0 hp hq
    have hs1 := List.pairwise_cons.1 hs
    have key : ∀ y, y ∈ l → x.st = y.st → False := fun y hy e => by
      have h1 := st_inj (h0 x (List.mem_cons_self ..)) (h0 y (List.mem_cons_of_mem _ hy)) e
      have h2 := hs1.1 y hy
      unfold ltP at h2
      obtain ⟨e1, e2, e3, e4⟩ := h1
      rcases h2 with h2 | ⟨_, h2 | ⟨_, h2 | ⟨_, h2, h3⟩⟩⟩
      · omega
      · omega
      · rw [e3] at h2; exact lta_irr _ h2
      · rw [e4, h3] at h2; cases h2
    rcases List.mem_cons.1 hp with e1 | hp1
    · rcases List.mem_cons.1 hq with e2 | hq1
      · rw [e1, e2]
      · rw [e1] at h; exact (key q hq1 h).elim
    · rcases List.mem_cons.1 hq with e2 | hq1
      · rw [e2] at h; exact (key p hp1 h.symm).elim
      · exact ih hs1.2 (fun p hp => h0 p (List.mem_cons_of_mem _ hp)) hp1 hq1
theorem hgt_mem (hs : C.Pairwise ltP) (h0 : ∀ p ∈ C, 0 ≤ p.i ∧ 0 ≤ p.j) {p : Pt} (hp : p ∈ C) : hgt C p.st = p.h := by
  unfold hgt
  cases hf : C.find? (fun q => decide (q.st = p.st)) with
  | none =>
    rw [List.find?_eq_none] at hf
    have := hf p hp
    simp at this
  | some q =>
    have h1 := List.find?_some hf
    have h2 := List.mem_of_find?_eq_some hf
    rw [pair_one hs h0 h2 hp (by simpa using h1)]
theorem hgt_cases (C : List Pt) (s : St) : (∃ p ∈ C, p.st = s ∧ hgt C s = p.h) ∨ ((∀ p ∈ C, p.st ≠ s) ∧ hgt C s = 0) := by
  unfold hgt
  cases hf : C.find? (fun q => decide (q.st = s)) with
  | none =>
    rw [List.find?_eq_none] at hf
    exact .inr ⟨fun p hp => by simpa using hf p hp, rfl⟩
  | some q => exact .inl ⟨q, List.mem_of_find?_eq_some hf, by simpa using List.find?_some hf, rfl⟩
theorem Holds.pos (h : Holds W bound C) : ∀ p ∈ C, 0 ≤ p.i ∧ 0 ≤ p.j := fun p hp => by
  have := proper_iff.1 (h.1 p hp)
  exact ⟨this.1.1, this.2.1.1⟩
theorem path_nonneg (hg : W.good) {t : St} (hp : Pa W s c t) : 0 ≤ c := by
  induction hp with
  | nil => exact Int.le_refl _
  | cons hm3 _ ih3 => have := (good_cost hg hm3).1; omega
/-- A certificate that holds bounds every way from a state on from below. -/
theorem cert_path (h : Holds W bound C) (hg : W.good) {t : St} (hp : Pa W s c t) (ht : t = W.fin) : hgt C s ≤ c := by
  induction hp with
  | nil s =>
    subst ht
    rcases hgt_cases C W.fin with ⟨p, hp, e, _⟩ | ⟨_, e⟩
    · exact absurd e (proper_iff.1 (h.1 p hp)).2.2.2.2.1
    · rw [e]; exact Int.le_refl _
  | cons hm hp2 ih =>
    rename_i s s' t c d
    have ih := ih ht
    have hd : 0 ≤ d := path_nonneg hg hp2
    rcases hgt_cases C s with ⟨p, hp, rfl, e⟩ | ⟨_, e⟩
    · have h1 := h.2.2.1 p hp
      unfold steps at h1
      rw [List.all_eq_true] at h1
      have h2 := h1 _ hm
      simp only [decide_eq_true_eq] at h2
      rw [e]
      omega
    · rw [e]
      have := (good_cost hg hm).1
      omega
theorem cert_sound (h : Holds W bound C) (hg : W.good) (hp : Pa W st0 c W.fin) : bound ≤ c := Int.le_trans h.2.2.2 (cert_path h hg hp rfl)
/-- Moves of another table: each one is one of the table's, or dearer. -/
theorem holds_more {W' : Wd} (h : Holds W bound C) (hl : W'.l.length = W.l.length) (hm : W'.m.length = W.m.length) (hmv : ∀ s c' s', (c', s') ∈ W'.moves s → ∃ c, (c, s') ∈ W.moves s ∧ c ≤ c') : Holds W' bound C := by
  have hf : W'.fin = W.fin := by unfold Wd.fin; rw [hl, hm]
  refine ⟨fun p hp => ?_, h.2.1, fun p hp => ?_, h.2.2.2⟩
  · have := h.1 p hp
    unfold proper at *
    rw [hl, hm, hf]
    exact this
  · have h1 := h.2.2.1 p hp
    unfold steps at *
    rw [List.all_eq_true] at *
    rintro ⟨c', s'⟩ hx
    obtain ⟨c, hc, hle⟩ := hmv _ _ _ hx
    have h2 := h1 _ hc
    simp only [decide_eq_true_eq] at h2 ⊢
    omega
theorem mv_same {W' : Wd} {R : Rule} (h1 : W'.ka = W.ka) (h2 : W'.kb = W.kb) (h3 : W'.l = W.l) (h4 : W'.m = W.m) : W'.mv s R = W.mv s R := by
  have e1 : W'.left s = W.left s := by unfold Wd.left; rw [h3]
  have e2 : W'.used s R = W.used s R := by unfold Wd.used; rw [e1, h1, h2, h3, h4]
  have e3 : W'.ah s R.t = W.ah s R.t := by unfold Wd.ah; rw [e1]
  unfold Wd.mv
  rw [e1, e2, e3]
theorem mv_cost {R R' : Rule} (h1 : R'.k = R.k) (h2 : R'.f = R.f) (h3 : R'.t = R.t) : W.mv s R' = (W.mv s R).map fun x => (R'.c, x.2) := by
  have e2 : W.used s R' = W.used s R := by unfold Wd.used; rw [h1, h2]
  unfold Wd.mv
  rw [e2, h3]
  split
  · rfl
  · rw [Option.map_map]; rfl
/-- Without some rules. -/
theorem holds_fewer {rs' : List Rule} (h : Holds W bound C) (hr : ∀ R ∈ rs', R ∈ W.rs) : Holds { W with rs := rs' } bound C := by
  refine holds_more h rfl rfl (fun s c' s' hx => ?_)
  obtain ⟨R, hR, hm⟩ := moves_mem hx
  refine ⟨c', ?_, Int.le_refl _⟩
  unfold Wd.moves
  exact List.mem_filterMap.2 ⟨R, hr R hR, by rw [← mv_same (W := W) (W' := { W with rs := rs' }) rfl rfl rfl rfl]; exact hm⟩
/-- With dearer rules. -/
theorem holds_dearer {rs' : List Rule} (h : Holds W bound C) (hr : ∀ R' ∈ rs', ∃ R ∈ W.rs, R'.k = R.k ∧ R'.f = R.f ∧ R'.t = R.t ∧ R.c ≤ R'.c) : Holds { W with rs := rs' } bound C := by
  refine holds_more h rfl rfl (fun s c' s' hx => ?_)
  obtain ⟨R', hR', hm⟩ := moves_mem hx
  obtain ⟨R, hR, h1, h2, h3, h4⟩ := hr R' hR'
  rw [mv_same (W := W) (W' := { W with rs := rs' }) rfl rfl rfl rfl, mv_cost h1 h2 h3, Option.map_eq_some_iff] at hm
  obtain ⟨⟨c, s2⟩, hx2, he⟩ := hm
  injection he with e1 e2
  have e2 : s2 = s' := e2
  subst e2
  refine ⟨c, List.mem_filterMap.2 ⟨R, hR, hx2⟩, ?_⟩
  obtain ⟨rfl, _⟩ := mv_some hx2
  omega
/-- Another bound. -/
theorem holds_bounds {other : Int} (h : Holds W bound C) (hb : 1 ≤ bound) : Holds W other C ↔ other = bound := by
  constructor
  · intro h2
    rcases hgt_cases C st0 with ⟨p, hp, e, he⟩ | ⟨_, he⟩
    · have h3 := proper_iff.1 (h.1 p hp)
      have h4 := proper_iff.1 (h2.1 p hp)
      have h5 := h.2.2.2
      have h6 := h2.2.2.2
      rw [he] at h5 h6
      omega
    · have h5 := h.2.2.2
      rw [he] at h5
      omega
  · rintro rfl; exact h
end
/-! ### The certificate that is made -/
/-- C holds each state that is reached and whose least cost is not 0, in order, with the lesser one of this cost and the bound. -/
structure IsCert (W : Wd) (bound : Int) (C : List Pt) : Prop where
  ord : C.Pairwise ltP
  mem : ∀ p, p ∈ C ↔ (0 ≤ p.i ∧ 0 ≤ p.j) ∧ Rch W st0 p.st ∧ p.h = min (W.dist p.st) bound ∧ 0 < p.h
theorem sorted_ext : ∀ {A B : List Pt}, A.Pairwise ltP → B.Pairwise ltP → (∀ p, p ∈ A ↔ p ∈ B) → A = B := by
  intro A
  induction A with
  | nil =>
    intro B _ _ h
    cases B with
    | nil => rfl
    | cons b B => exact absurd ((h b).2 (List.mem_cons_self ..)) (by simp)
  | cons a A ih =>
    intro B hA hB h
    cases B with
    | nil => exact absurd ((h a).1 (List.mem_cons_self ..)) (by simp)
    | cons b B =>
      have hA1 := List.pairwise_cons.1 hA
      have hB1 := List.pairwise_cons.1 hB
      have hab : a = b := by
        rcases List.mem_cons.1 ((h a).1 (List.mem_cons_self ..)) with e | ha
        · exact e
        · rcases List.mem_cons.1 ((h b).2 (List.mem_cons_self ..)) with e | hb
          · exact e.symm
          · exact absurd (ltP_trans (hA1.1 b hb) (hB1.1 a ha)) (ltP_irr _)
      subst hab
      refine congrArg _ (ih hA1.2 hB1.2 (fun p => ⟨fun hp => ?_, fun hp => ?_⟩))
      · rcases List.mem_cons.1 ((h p).1 (List.mem_cons_of_mem _ hp)) with rfl | hp2
        · exact absurd (hA1.1 p hp) (ltP_irr _)
        · exact hp2
      · rcases List.mem_cons.1 ((h p).2 (List.mem_cons_of_mem _ hp)) with rfl | hp2
        · exact absurd (hB1.1 p hp) (ltP_irr _)
        · exact hp2
section
variable {W : Wd} {C C' : List Pt} {s s' : St} {bound c : Int}
theorem cert_unique (h : IsCert W bound C) (h' : IsCert W bound C') : C = C' := sorted_ext h.ord h'.ord (fun p => by rw [h.mem, h'.mem])
/-- What is ahead is the end of what a rule writes. -/
def Wd.tosOk (W : Wd) : Prop := ∀ R ∈ W.rs, R.t.length ≤ 3 ∧ R.t.all isLow = true
theorem rch_ahead (ht : W.tosOk) (h : Rch W st0 s) : s.a.length ≤ 3 ∧ s.a.all isLow = true := by
  induction h with
  | refl => exact ⟨Nat.zero_le _, rfl⟩
  | step _ hm ih =>
    obtain ⟨R, hR, hm⟩ := moves_mem hm
    obtain ⟨-, -, x, hx, rfl⟩ := mv_some hm
    have h1 := ht R hR
    have key : x.1.length ≤ 3 ∧ x.1.all isLow = true := by
      unfold Wd.ah at hx
      split at hx
      · injection hx with hx; subst hx
        exact ⟨by rw [List.length_drop]; omega, by rw [List.all_eq_true] at ih ⊢; exact fun y hy => ih.2 y (List.mem_of_mem_drop hy)⟩
      · split at hx
        · injection hx with hx; subst hx
          exact ⟨by rw [List.length_drop]; omega, by rw [List.all_eq_true] at h1 ⊢; exact fun y hy => h1.2 y (List.mem_of_mem_drop hy)⟩
        · cases hx
    split <;> exact key
theorem cert_hgt (hc : IsCert W bound C) (hg : W.good) (hb : 0 ≤ bound) (h : Rch W st0 s) : hgt C s = min (W.dist s) bound := by
  have hd := dist_nonneg hg (h.ok ok0)
  rcases hgt_cases C s with ⟨p, hp, rfl, e⟩ | ⟨hn, e⟩
  · rw [e]; exact ((hc.mem p).1 hp).2.2.1
  · rw [e]
    by_cases h1 : 0 < min (W.dist s) bound
    · exfalso
      refine hn ⟨s.i, s.j, s.a, s.r, min (W.dist s) bound⟩ ((hc.mem _).2 ⟨⟨by show (0 : Int) ≤ s.i; omega, by show (0 : Int) ≤ s.j; omega⟩, ?_, ?_, h1⟩) ?_
      · exact h
      · rfl
      · rfl
    · omega
theorem cert_holds (hc : IsCert W bound C) (hg : W.good) (ht : W.tosOk) (hb : 0 ≤ bound) (hb2 : bound ≤ 100000) (hd : bound ≤ W.dist st0) : Holds W bound C := by
  refine ⟨fun p hp => ?_, hc.ord, fun p hp => ?_, ?_⟩
  · obtain ⟨h0, h1, h2, h3⟩ := (hc.mem p).1 hp
    have hok := h1.ok ok0
    obtain ⟨o1, o2, o3⟩ := hok
    have ha := rch_ahead ht h1
    refine proper_iff.2 ⟨⟨h0.1, ?_⟩, ⟨h0.2, ?_⟩, ha, o3, fun e => ?_, h3, by omega, by omega⟩
    · have : p.i.toNat ≤ W.l.length := o1; omega
    · have : p.j.toNat ≤ W.m.length := o2; omega
    · rw [e, dist_fin hg] at h2; omega
  · obtain ⟨h0, h1, h2, h3⟩ := (hc.mem p).1 hp
    unfold steps
    rw [List.all_eq_true]
    rintro ⟨c, s'⟩ hx
    simp only [decide_eq_true_eq]
    rw [cert_hgt hc hg hb (.step h1 hx), h2]
    have h4 := dist_move (h1.ok ok0) hx
    have h5 := (good_cost hg hx).1
    omega
  · rw [cert_hgt hc hg hb .refl]; omega
/-- A lesser bound. -/
theorem cert_less {less : Int} (hc : IsCert W bound C) (hg : W.good) (h0 : 0 < less) (hl : less ≤ bound) : IsCert W less (C.map fun p => { p with h := min p.h less }) := by
  constructor
  · rw [List.pairwise_map]
    exact hc.ord
  · intro p
    rw [List.mem_map]
    constructor
    · rintro ⟨q, hq, rfl⟩
      obtain ⟨h1, h2, h3, h4⟩ := (hc.mem q).1 hq
      refine ⟨h1, h2, ?_, ?_⟩
      · show min q.h less = min (W.dist q.st) less
        omega
      · show 0 < min q.h less
        omega
    · rintro ⟨h1, h2, h3, h4⟩
      refine ⟨{ p with h := min (W.dist p.st) bound }, (hc.mem _).2 ⟨h1, h2, rfl, ?_⟩, ?_⟩
      · show 0 < min (W.dist p.st) bound
        omega
      · have e : min (min (W.dist p.st) bound) less = p.h := by omega
        show ({ p with h := min (min (W.dist p.st) bound) less } : Pt) = p
        rw [e]
theorem cert_zero (hc : IsCert W 0 C) : C = [] := by
  cases C with
  | nil => rfl
  | cons p C =>
    obtain ⟨h1, h2, h3, h4⟩ := (hc.mem p).1 (List.mem_cons_self ..)
    omega
end
end Go.CH.Pot
namespace Go.CH.Pot
open Go.CH.Scr
/-- Rules that rewrite letters, one after another: what they write and cost. -/
inductive Wr (k : Int) (rs : List Rule) : List Bs → List Rule → Bs → Int → Prop
  | nil : Wr k rs [] [] [] 0
  | cons {l : List Bs} {R : Rule} {L : List Rule} {F : Bs} {c : Int} (hR : R ∈ rs) (hk : R.k = k) (hn : takes l R.f ≠ 0) (h : Wr k rs (l.drop (takes l R.f)) L F c) : Wr k rs l (R :: L) (R.t ++ F) (R.c + c)
/-- A derivation of what is left. -/
def Der (W : Wd) (s : St) (c : Int) : Prop :=
  ∃ L M F G c1 c2, Wr W.ka W.rs (W.l.drop s.i) L F c1 ∧ Wr W.kb W.rs (W.m.drop s.j) M G c2 ∧ c = c1 + c2 ∧ (if s.r then F = s.a ++ G else s.a ++ F = G)
section
variable {W : Wd} {s s' : St} {c d : Int}
theorem ah_cases {tw : Bs} {x : Bs × Bool} (h : W.ah s tw = some x) : (s.a = tw ++ x.1 ∧ x.1 ≠ [] ∧ x.2 = s.r) ∨ (tw = s.a ++ x.1 ∧ x.2 = (!W.left s && decide (x.1 ≠ []))) := by
  unfold Wd.ah at h
  split at h
  · rename_i h1
    injection h with h; subst h
    obtain ⟨r, hr⟩ := pre_iff.1 h1.1
    refine .inl ⟨?_, h1.2, rfl⟩
    show s.a = tw ++ s.a.drop tw.length
    rw [hr, List.drop_left]
  · split at h
    · rename_i h1 h2
      injection h with h; subst h
      obtain ⟨r, hr⟩ := pre_iff.1 h2
      refine .inr ⟨?_, rfl⟩
      show tw = s.a ++ tw.drop s.a.length
      rw [hr, List.drop_left]
    · cases h
theorem left_iff : W.left s = true ↔ s.r = true ∨ (s.a = [] ∧ s.i ≠ W.l.length) := by
  unfold Wd.left; simp
theorem path_der (h : Pa W s c W.fin) : Der W s c := by
  generalize ht : W.fin = t at h
  induction h with
  | nil s =>
    subst ht
    refine ⟨[], [], [], [], 0, 0, ?_, ?_, rfl, rfl⟩
    · rw [show W.fin.i = W.l.length from rfl, List.drop_length]; exact .nil
    · rw [show W.fin.j = W.m.length from rfl, List.drop_length]; exact .nil
  | cons hm _ ih =>
    rename_i s s' t c d _
    obtain ⟨L, M, F, G, c1, c2, h1, h2, rfl, h3⟩ := ih ht
    obtain ⟨R, hR, hm⟩ := moves_mem hm
    obtain ⟨rfl, hu, x, hx, rfl⟩ := mv_some hm
    have hac := ah_cases hx
    cases hl : W.left s with
    | true =>
      rw [hl] at h1 h2 h3 hac
      simp only [if_true] at h1 h2 h3
      have hk : R.k = W.ka ∧ W.used s R = takes (W.l.drop s.i) R.f := by
        unfold Wd.used at hu ⊢
        rw [if_pos hl] at hu ⊢
        split at hu
        · rename_i hk; exact ⟨hk, by rw [if_pos hk]⟩
        · exact absurd rfl hu
      rw [hk.2] at h1 hu
      refine ⟨R :: L, M, R.t ++ F, G, R.c + c1, c2, .cons hR hk.1 hu (by rw [List.drop_drop]; exact h1), h2, by omega, ?_⟩
      have hl2 := left_iff.1 hl
      rcases hac with ⟨e1, e2, e3⟩ | ⟨e1, e3⟩
      · cases hr : s.r with
        | true =>
          rw [e3, hr] at h3
          simp only [if_true] at h3 ⊢
          rw [h3, e1, List.append_assoc]
        | false =>
          rcases hl2 with h | ⟨h, _⟩
          · rw [hr] at h; cases h
          · rw [h] at e1
            exact absurd (List.append_eq_nil_iff.1 e1.symm).2 e2
      · simp only [Bool.not_true, Bool.false_and] at e3
        rw [e3] at h3
        simp only [Bool.false_eq_true, if_false] at h3
        cases hr : s.r with
        | true =>
          simp only [if_true]
          rw [e1, ← h3, List.append_assoc]
        | false =>
          rcases hl2 with h | ⟨h, _⟩
          · rw [hr] at h; cases h
          · simp only [Bool.false_eq_true, if_false]
            rw [h] at e1 ⊢
            rw [e1, ← h3]; simp
    | false =>
      rw [hl] at h1 h2 h3 hac
      simp only [Bool.false_eq_true, if_false] at h1 h2 h3
      have hk : R.k = W.kb ∧ W.used s R = takes (W.m.drop s.j) R.f := by
        unfold Wd.used at hu ⊢
        rw [if_neg (by rw [hl]; decide)] at hu ⊢
        split at hu
        · rename_i hk; exact ⟨hk, by rw [if_pos hk]⟩
        · exact absurd rfl hu
      rw [hk.2] at h2 hu
      have hr : s.r = false := by
        cases hr : s.r with
        | false => rfl
        | true => rw [left_iff.2 (.inl hr)] at hl; cases hl
      refine ⟨L, R :: M, F, R.t ++ G, c1, R.c + c2, h1, .cons hR hk.1 hu (by rw [List.drop_drop]; exact h2), by omega, ?_⟩
      rw [hr]
      simp only [Bool.false_eq_true, if_false]
      rcases hac with ⟨e1, e2, e3⟩ | ⟨e1, e3⟩
      · rw [e3, hr] at h3
        simp only [Bool.false_eq_true, if_false] at h3
        rw [e1, ← h3, List.append_assoc]
      · simp only [Bool.not_false, Bool.true_and] at e3
        by_cases hx0 : x.1 = []
        · rw [e3, hx0] at h3
          simp only [ne_eq, not_true_eq_false, decide_false, Bool.false_eq_true, if_false, List.nil_append] at h3
          rw [e1, hx0, h3]; simp
        · rw [e3] at h3
          simp only [ne_eq, hx0, not_false_eq_true, decide_true, if_true] at h3
          rw [e1, h3, List.append_assoc]
theorem wr_nil {k : Int} {rs : List Rule} {L : List Rule} {F : Bs} (h : Wr k rs [] L F c) : L = [] ∧ F = [] ∧ c = 0 := by
  cases h with
  | nil => exact ⟨rfl, rfl, rfl⟩
  | cons _ _ hn _ => exact absurd (Nat.le_zero.1 (takes_le (l := ([] : List Bs)))) hn
theorem wr_none {k : Int} {rs : List Rule} {l : List Bs} {F : Bs} (h : Wr k rs l [] F c) : l = [] ∧ F = [] ∧ c = 0 := by
  cases h; exact ⟨rfl, rfl, rfl⟩
theorem drop_end {l : List Bs} {i : Nat} (h : l.drop i = []) (hi : i ≤ l.length) : i = l.length := by
  have := congrArg List.length h
  rw [List.length_drop, List.length_nil] at this
  omega
theorem ah_first {tw a' : Bs} (h : s.a = tw ++ a') (h0 : a' ≠ []) : W.ah s tw = some (a', s.r) := by
  unfold Wd.ah
  have e : s.a.drop tw.length = a' := by rw [h, List.drop_left]
  rw [if_pos ⟨pre_iff.2 ⟨a', h⟩, by rw [e]; exact h0⟩, e]
theorem ah_second {tw c' : Bs} (h : tw = s.a ++ c') : W.ah s tw = some (c', !W.left s && decide (c' ≠ [])) := by
  unfold Wd.ah
  have e : tw.drop s.a.length = c' := by rw [h, List.drop_left]
  rw [if_neg, if_pos (pre_iff.2 ⟨c', h⟩), e]
  rintro ⟨h1, h2⟩
  obtain ⟨r, hr⟩ := pre_iff.1 h1
  rw [hr, List.drop_left] at h2
  rw [hr] at h
  have := congrArg List.length h
  simp only [List.length_append] at this
  exact h2 (List.eq_nil_of_length_eq_zero (by omega))
theorem mv_left {R : Rule} (hl : W.left s = true) (hk : R.k = W.ka) (hn : takes (W.l.drop s.i) R.f ≠ 0) {x : Bs × Bool} (hx : W.ah s R.t = some x) :
    W.mv s R = some (R.c, ⟨s.i + takes (W.l.drop s.i) R.f, s.j, x.1, x.2⟩) := by
  have hu : W.used s R = takes (W.l.drop s.i) R.f := by unfold Wd.used; rw [if_pos hl, if_pos hk]
  unfold Wd.mv
  rw [hu, if_neg hn, hx, hl]; rfl
theorem mv_right {R : Rule} (hl : W.left s = false) (hk : R.k = W.kb) (hn : takes (W.m.drop s.j) R.f ≠ 0) {x : Bs × Bool} (hx : W.ah s R.t = some x) :
    W.mv s R = some (R.c, ⟨s.i, s.j + takes (W.m.drop s.j) R.f, x.1, x.2⟩) := by
  have hu : W.used s R = takes (W.m.drop s.j) R.f := by unfold Wd.used; rw [if_neg (by rw [hl]; decide), if_pos hk]
  unfold Wd.mv
  rw [hu, if_neg hn, hx, hl]; rfl
theorem der_path_n : ∀ (n : Nat) (s : St) (c : Int), W.ok s → W.rank s ≤ n → Der W s c → Pa W s c W.fin := by
  intro n
  induction n with
  | zero =>
    rintro s c ⟨o1, o2, o3⟩ hn ⟨L, M, F, G, c1, c2, h1, h2, rfl, h3⟩
    unfold Wd.rank at hn
    have e1 : s.i = W.l.length := by omega
    have e2 : s.j = W.m.length := by omega
    rw [e1, List.drop_length] at h1
    rw [e2, List.drop_length] at h2
    obtain ⟨-, rfl, rfl⟩ := wr_nil h1
    obtain ⟨-, rfl, rfl⟩ := wr_nil h2
    have hr : s.r = false := by
      cases hr : s.r with
      | false => rfl
      | true => rw [hr] at h3; simp at h3; exact absurd h3 (o3 hr)
    rw [hr] at h3
    simp at h3
    have : s = W.fin := by
      obtain ⟨i, j, a, r⟩ := s
      simp only at e1 e2 h3 hr
      rw [e1, e2, h3, hr]; rfl
    rw [this]
    exact .nil _
  | succ n ih =>
    rintro s c ⟨o1, o2, o3⟩ hn ⟨L, M, F, G, c1, c2, h1, h2, rfl, h3⟩
    have go : ∀ {R : Rule} {s' : St} {d : Int}, R ∈ W.rs → W.mv s R = some (R.c, s') → Der W s' d → Pa W s (R.c + d) W.fin := fun hR hm hd =>
      have hok := mv_ok ⟨o1, o2, o3⟩ hm
      .cons (List.mem_filterMap.2 ⟨_, hR, hm⟩) (ih _ _ hok.1 (by omega) hd)
    cases hl : W.left s with
    | true =>
      have hl2 := left_iff.1 hl
      generalize hdl : W.l.drop s.i = dl at h1
      cases h1 with
      | nil =>
        exfalso
        have e1 := drop_end hdl o1
        rcases hl2 with hr | ⟨_, h⟩
        · rw [hr] at h3; simp at h3; exact o3 hr h3.1
        · exact h e1
      | cons hR hk hn2 hrest =>
        rename_i R L' F' c'
        subst hdl
        rw [List.drop_drop] at hrest
        have : R.c + c' + c2 = R.c + (c' + c2) := by omega
        rw [this]
        cases hr : s.r with
        | true =>
          rw [hr] at h3
          simp only [if_true] at h3
          rcases List.append_eq_append_iff.1 h3 with ⟨c1', e1, e2⟩ | ⟨c1', e1, e2⟩
          · by_cases h0 : c1' = []
            · subst h0
              rw [List.append_nil] at e1
              rw [List.nil_append] at e2
              refine go hR (mv_left hl hk hn2 (ah_second (c' := []) (by rw [e1, List.append_nil]))) ⟨L', M, F', G, c', c2, hrest, h2, rfl, ?_⟩
              simp [hl, e2]
            · refine go hR (mv_left hl hk hn2 (ah_first e1 h0)) ⟨L', M, F', G, c', c2, hrest, h2, rfl, ?_⟩
              rw [hr]; exact e2
          · refine go hR (mv_left hl hk hn2 (ah_second e1)) ⟨L', M, F', G, c', c2, hrest, h2, rfl, ?_⟩
            simp [hl, e2]
        | false =>
          rcases hl2 with h | ⟨h, _⟩
          · rw [hr] at h; cases h
          · rw [hr, h] at h3
            simp only [Bool.false_eq_true, if_false, List.nil_append] at h3
            refine go hR (mv_left hl hk hn2 (ah_second (c' := R.t) (by rw [h]; rfl))) ⟨L', M, F', G, c', c2, hrest, h2, rfl, ?_⟩
            simp [hl, h3]
    | false =>
      have hr : s.r = false := by
        cases hr : s.r with
        | false => rfl
        | true => rw [left_iff.2 (.inl hr)] at hl; cases hl
      rw [hr] at h3
      simp only [Bool.false_eq_true, if_false] at h3
      generalize hdm : W.m.drop s.j = dm at h2
      cases h2 with
      | nil =>
        have e2 := drop_end hdm o2
        obtain ⟨ha, hF⟩ := List.append_eq_nil_iff.1 h3
        have e1 : s.i = W.l.length := Classical.byContradiction fun h => by rw [left_iff.2 (.inr ⟨ha, h⟩)] at hl; cases hl
        rw [e1, List.drop_length] at h1
        obtain ⟨-, -, rfl⟩ := wr_nil h1
        have : s = W.fin := by
          obtain ⟨i, j, a, r⟩ := s
          simp only at e1 e2 ha hr
          rw [e1, e2, ha, hr]; rfl
        rw [this]
        exact .nil _
      | cons hR hk hn2 hrest =>
        rename_i R M' G' c'
        subst hdm
        rw [List.drop_drop] at hrest
        have : c1 + (R.c + c') = R.c + (c1 + c') := by omega
        rw [this]
        rcases List.append_eq_append_iff.1 h3 with ⟨c1', e1, e2⟩ | ⟨c1', e1, e2⟩
        · refine go hR (mv_right hl hk hn2 (ah_second e1)) ⟨L, M', F, G', c1, c', h1, hrest, rfl, ?_⟩
          by_cases h0 : c1' = []
          · subst h0; simp [hl]; simpa using e2
          · simp [hl, h0, e2]
        · by_cases h0 : c1' = []
          · subst h0
            rw [List.append_nil] at e1
            rw [List.nil_append] at e2
            refine go hR (mv_right hl hk hn2 (ah_second (c' := []) (by rw [e1, List.append_nil]))) ⟨L, M', F, G', c1, c', h1, hrest, rfl, ?_⟩
            simp [hl, e2]
          · refine go hR (mv_right hl hk hn2 (ah_first e1 h0)) ⟨L, M', F, G', c1, c', h1, hrest, rfl, ?_⟩
            rw [hr]
            simp [e2]
theorem path_iff (hs : W.ok s) : Pa W s c W.fin ↔ Der W s c := ⟨path_der, der_path_n _ s c hs (Nat.le_refl _)⟩
/-- The words exchanged. -/
def Wd.swap (W : Wd) : Wd := ⟨W.kb, W.ka, W.m, W.l, W.rs⟩
theorem der_swap : Der W st0 c ↔ Der W.swap st0 c := by
  constructor
  · rintro ⟨L, M, F, G, c1, c2, h1, h2, rfl, h3⟩
    exact ⟨M, L, G, F, c2, c1, h2, h1, by omega, h3.symm⟩
  · rintro ⟨L, M, F, G, c1, c2, h1, h2, rfl, h3⟩
    exact ⟨M, L, G, F, c2, c1, h2, h1, by omega, h3.symm⟩
theorem dist_of {W' : Wd} {s' : St} (hg : W.good) (hg' : W'.good) (hl : W.l.length + W.m.length ≤ 1000) (hl' : W'.l.length + W'.m.length ≤ 1000) (hs : W.ok s) (hs' : W'.ok s') (h : ∀ c, Der W s c ↔ Der W' s' c) : W.dist s = W'.dist s' := by
  rcases path_dist hg hl _ s hs (Nat.le_refl _) with ⟨h1, _⟩ | ⟨h1, h2⟩
  · have h3 := (path_iff hs').2 ((h _).1 ((path_iff hs).1 h1))
    have h4 := dist_path hs' h3 rfl hg'
    rcases path_dist hg' hl' _ s' hs' (Nat.le_refl _) with ⟨h5, _⟩ | ⟨_, h6⟩
    · have h6 := (path_iff hs).2 ((h _).2 ((path_iff hs').1 h5))
      have h7 := dist_path hs h6 rfl hg
      omega
    · exact absurd h3 (h6 _)
  · rcases path_dist hg' hl' _ s' hs' (Nat.le_refl _) with ⟨h5, _⟩ | ⟨h5, _⟩
    · exact absurd ((path_iff hs).2 ((h _).2 ((path_iff hs').1 h5))) (h2 _)
    · rw [h1, h5]
theorem dist_swap (hg : W.good) (hl : W.l.length + W.m.length ≤ 1000) : W.dist st0 = W.swap.dist st0 :=
  dist_of hg hg hl (by show W.m.length + W.l.length ≤ 1000; omega) ok0 ok0 (fun _ => der_swap)
/-- What is left of both words. -/
def Wd.rest (W : Wd) (i j : Nat) : Wd := ⟨W.ka, W.kb, W.l.drop i, W.m.drop j, W.rs⟩
theorem der_rest {i j : Nat} : Der (W.rest i j) st0 c ↔ Der W ⟨i, j, [], false⟩ c := by
  unfold Der Wd.rest st0
  simp only [List.drop_zero]
/-- A derivation costs at least the least cost. -/
theorem dist_der (hs : W.ok s) (hg : W.good) (h : Der W s c) : W.dist s ≤ c := dist_path hs ((path_iff hs).2 h) rfl hg
end
end Go.CH.Pot
namespace Go.CH.Pot
open Go.CH.Scr
/-- A word, or an ending, that can be dropped. -/
structure Drop where
  k : Int
  w : Bs
  c : Int
deriving DecidableEq
structure Tab where
  rs : List Rule
  ds : List Drop
  es : List Drop
  drop : Int
  ord : Int
  ini : Int
deriving DecidableEq
/-- A folded word with at most some letters. -/
def foldedN (k : Int) (s : Bs) (most : Nat) : Bool := word k s && (decide (lower s = s) && decide ((ltrs k s).1.length ≤ most))
def formN (s : Bs) : Bool := decide (s.length ≤ 3) && s.all isLow
def costN (n : Int) : Bool := decide (0 ≤ n) && decide (n ≤ 1000)
def keyR (R : Rule) : Int × Bs × Bs := (R.k, R.f, R.t)
def keyD (d : Drop) : Int × Bs × Bs := (d.k, d.w, [])
def ruleN (R : Rule) : Bool := foldedN R.k R.f 3 && (formN R.t && costN R.c)
def dropN (most : Nat) (d : Drop) : Bool := foldedN d.k d.w most && costN d.c
def rulesN (l : List Rule) : Bool := decide ((l.map keyR).Nodup) && l.all ruleN
def dropsN (most : Nat) (l : List Drop) : Bool := decide ((l.map keyD).Nodup) && (l.all (dropN most) && decide (l.length ≤ 40))
def validT (T : Tab) : Bool :=
  (decide (T.rs ≠ []) && (decide (T.rs.length ≤ 80) && (costN T.drop && (costN T.ord && costN T.ini)))) && (rulesN T.rs && (dropsN 12 T.ds && dropsN 4 T.es))
theorem costN_iff {n : Int} : costN n = true ↔ 0 ≤ n ∧ n ≤ 1000 := by unfold costN; simp
theorem foldedN_iff {k : Int} {s : Bs} {m : Nat} : foldedN k s m = true ↔ word k s = true ∧ lower s = s ∧ (ltrs k s).1.length ≤ m := by unfold foldedN; simp
theorem formN_iff {s : Bs} : formN s = true ↔ s.length ≤ 3 ∧ s.all isLow = true := by unfold formN; rw [Bool.and_eq_true, decide_eq_true_eq]
theorem ruleN_iff {R : Rule} : ruleN R = true ↔ foldedN R.k R.f 3 = true ∧ formN R.t = true ∧ costN R.c = true := by unfold ruleN; simp
theorem rulesN_iff {l : List Rule} : rulesN l = true ↔ (l.map keyR).Nodup ∧ ∀ R ∈ l, ruleN R = true := by unfold rulesN; simp
theorem validT_iff {T : Tab} : validT T = true ↔ (T.rs ≠ [] ∧ T.rs.length ≤ 80 ∧ costN T.drop = true ∧ costN T.ord = true ∧ costN T.ini = true) ∧ rulesN T.rs = true ∧ dropsN 12 T.ds = true ∧ dropsN 4 T.es = true := by
  unfold validT
  simp only [Bool.and_eq_true, decide_eq_true_eq]
/-- Two words of a table. -/
def wdOf (T : Tab) (a : Int) (x : Bs) (b : Int) (y : Bs) : Wd := ⟨a, b, (ltrs a (lower x)).1, (ltrs b (lower y)).1, T.rs⟩
/-- The arguments are allowed. -/
def okW (T : Tab) (a : Int) (x : Bs) (b : Int) (y : Bs) : Bool := word a x && (word b y && validT T)
theorem okW_iff {T : Tab} {a b : Int} {x y : Bs} : okW T a x b y = true ↔ word a x = true ∧ word b y = true ∧ validT T = true := by unfold okW; simp
section
variable {T : Tab} {a b : Int} {x y : Bs}
theorem good_of (h : validT T = true) : (wdOf T a x b y).good ∧ (wdOf T a x b y).tosOk := by
  obtain ⟨-, h1, -, -⟩ := validT_iff.1 h
  obtain ⟨-, h2⟩ := rulesN_iff.1 h1
  constructor
  · intro R hR
    obtain ⟨f1, f2, f3⟩ := ruleN_iff.1 (h2 R hR)
    have hc := costN_iff.1 f3
    refine ⟨hc.1, hc.2, fun e => ?_⟩
    have := (foldedN_iff.1 f1).1
    rw [e] at this
    exact word_first this rfl
  · intro R hR
    obtain ⟨f1, f2, f3⟩ := ruleN_iff.1 (h2 R hR)
    exact formN_iff.1 f2
theorem lens_of (h : okW T a x b y = true) : 1 ≤ (wdOf T a x b y).l.length ∧ (wdOf T a x b y).l.length ≤ 12 ∧ 1 ≤ (wdOf T a x b y).m.length ∧ (wdOf T a x b y).m.length ≤ 12 := by
  obtain ⟨h1, h2, -⟩ := okW_iff.1 h
  have e1 := (word_iff.1 (fold_word h1)).2
  have e2 := (word_iff.1 (fold_word h2)).2
  exact ⟨e1.1, e1.2, e2.1, e2.2⟩
/-- Without a rule. -/
theorem valid_fewer (h : validT T = true) (k : Nat) (h2 : 2 ≤ T.rs.length) : validT { T with rs := T.rs.eraseIdx k } = true := by
  obtain ⟨⟨g1, g2, g3⟩, h1, h3⟩ := validT_iff.1 h
  obtain ⟨k1, k2⟩ := rulesN_iff.1 h1
  have hsub : List.Sublist (T.rs.eraseIdx k) T.rs := List.eraseIdx_sublist ..
  refine validT_iff.2 ⟨⟨fun e => ?_, Nat.le_trans hsub.length_le g2, g3⟩, rulesN_iff.2 ⟨(hsub.map keyR).nodup k1, fun R hR => k2 R (hsub.subset hR)⟩, h3⟩
  have e : T.rs.eraseIdx k = [] := e
  have := congrArg List.length e
  rw [List.length_eraseIdx, List.length_nil] at this
  split at this <;> omega
/-- With a dearer rule. -/
def dearR (R : Rule) (more : Int) : Rule := { R with c := min 1000 (R.c + more) }
theorem valid_dearer (h : validT T = true) (k : Nat) (hk : k < T.rs.length) (more : Int) (hm : 0 ≤ more) : validT { T with rs := T.rs.set k (dearR T.rs[k] more) } = true := by
  obtain ⟨⟨g1, g2, g3⟩, h1, h3⟩ := validT_iff.1 h
  obtain ⟨k1, k2⟩ := rulesN_iff.1 h1
  have hkeys : (T.rs.set k (dearR T.rs[k] more)).map keyR = T.rs.map keyR := by
    rw [List.map_set]
    have : keyR (dearR T.rs[k] more) = (T.rs.map keyR)[k]'(by rw [List.length_map]; exact hk) := by rw [List.getElem_map]; rfl
    rw [this, List.set_getElem_self]
  refine validT_iff.2 ⟨⟨fun e => ?_, by show (T.rs.set k _).length ≤ 80; rw [List.length_set]; exact g2, g3⟩, rulesN_iff.2 ⟨by rw [hkeys]; exact k1, fun R hR => ?_⟩, h3⟩
  · have e : T.rs.set k (dearR T.rs[k] more) = [] := e
    have := congrArg List.length e
    rw [List.length_set, List.length_nil] at this
    omega
  · rcases List.mem_or_eq_of_mem_set hR with hR | rfl
    · exact k2 R hR
    · obtain ⟨f1, f2, f3⟩ := ruleN_iff.1 (k2 T.rs[k] (List.getElem_mem hk))
      refine ruleN_iff.2 ⟨f1, f2, ?_⟩
      have := costN_iff.1 f3
      refine costN_iff.2 ⟨?_, ?_⟩
      · show 0 ≤ min 1000 (T.rs[k].c + more); omega
      · show min 1000 (T.rs[k].c + more) ≤ 1000; omega
/-- What Check says. -/
def CheckP (T : Tab) (a : Int) (x : Bs) (b : Int) (y : Bs) (bound : Int) (C : List Pt) : Prop := okW T a x b y = true ∧ Holds (wdOf T a x b y) bound C
theorem check_fewer {bound : Int} {C : List Pt} (h : CheckP T a x b y bound C) (k : Nat) (h2 : 2 ≤ T.rs.length) : CheckP { T with rs := T.rs.eraseIdx k } a x b y bound C := by
  obtain ⟨h1, h3⟩ := h
  obtain ⟨e1, e2, e3⟩ := okW_iff.1 h1
  exact ⟨okW_iff.2 ⟨e1, e2, valid_fewer e3 k h2⟩, holds_fewer (W := wdOf T a x b y) h3 (fun R hR => (List.eraseIdx_sublist ..).subset hR)⟩
theorem check_dearer {bound : Int} {C : List Pt} (h : CheckP T a x b y bound C) (k : Nat) (hk : k < T.rs.length) (more : Int) (hm : 0 ≤ more) : CheckP { T with rs := T.rs.set k (dearR T.rs[k] more) } a x b y bound C := by
  obtain ⟨h1, h3⟩ := h
  obtain ⟨e1, e2, e3⟩ := okW_iff.1 h1
  refine ⟨okW_iff.2 ⟨e1, e2, valid_dearer e3 k hk more hm⟩, holds_dearer (W := wdOf T a x b y) h3 (fun R hR => ?_)⟩
  rcases List.mem_or_eq_of_mem_set hR with hR | rfl
  · exact ⟨R, hR, rfl, rfl, rfl, Int.le_refl _⟩
  · refine ⟨T.rs[k], List.getElem_mem hk, rfl, rfl, rfl, ?_⟩
    have := (costN_iff.1 (ruleN_iff.1 ((rulesN_iff.1 (validT_iff.1 e3).2.1).2 T.rs[k] (List.getElem_mem hk))).2.2)
    show T.rs[k].c ≤ min 1000 (T.rs[k].c + more)
    omega
/-- What Make says: the certificate and the error. -/
inductive MakeP (T : Tab) (a : Int) (x : Bs) (b : Int) (y : Bs) (bound : Int) : List Pt → Int → Prop
  | arg (h : okW T a x b y = false ∨ bound < 0 ∨ 100000 < bound) : MakeP T a x b y bound [] 1
  | none (h : okW T a x b y = true) (h0 : 0 ≤ bound) (h1 : bound ≤ 100000) (h2 : (wdOf T a x b y).dist st0 < bound) : MakeP T a x b y bound [] 11
  | some (C : List Pt) (h : okW T a x b y = true) (h0 : 0 ≤ bound) (h1 : bound ≤ 100000) (h2 : bound ≤ (wdOf T a x b y).dist st0) (hc : IsCert (wdOf T a x b y) bound C) : MakeP T a x b y bound C 0
end
end Go.CH.Pot
namespace Go.CH.Pot
open Go.CH.Scr
section
variable {k : Int}
theorem ctx_all {r : Bs} : ∀ cs : List Bs, ctx k cs r → ltrs k cs.flatten = (cs, []) := by
  intro cs
  induction cs with
  | nil => intro _; exact ltrs_stop (by rfl)
  | cons x xs ih =>
    rintro ⟨h1, h2, h3⟩
    have e := ih h3
    have hpos : 0 < x.length := List.length_pos_iff.2 h1
    have h4 : len1 k (x ++ xs.flatten) = x.length := by
      have h5 := len1_cut (k := k) (l := x ++ (xs.flatten ++ r)) (j := (x ++ xs.flatten).length) (by rw [h2]; omega) (by rw [h2, List.length_append]; omega)
      rw [← List.append_assoc, List.take_left' rfl, List.append_assoc, h2] at h5
      exact h5
    rw [List.flatten_cons, ltrs_step (by rw [h4]; omega), h4, List.take_left' rfl, List.drop_left' rfl, e]
theorem ctx_of (l : Bs) : ctx k (ltrs k l).1 (ltrs k l).2 := by
  refine ltrs_ind (k := k) (P := fun l => ctx k (ltrs k l).1 (ltrs k l).2) (fun l h => ?_) (fun l h ih => ?_) l
  · show ctx k (ltrs k l).1 (ltrs k l).2
    rw [ltrs_stop h]; trivial
  · show ctx k (ltrs k l).1 (ltrs k l).2
    have hle := len1_le (k := k) (l := l)
    rw [ltrs_step h]
    refine ⟨?_, ?_, ih⟩
    · intro e
      have := congrArg List.length e
      rw [List.length_take, List.length_nil] at this
      omega
    · rw [ltrs_join, List.take_append_drop, List.length_take]; omega
theorem ctx_drop {r : Bs} : ∀ (cs : List Bs) (i : Nat), ctx k cs r → ctx k (cs.drop i) r
  | cs, 0, h => by rw [List.drop_zero]; exact h
  | [], i + 1, h => trivial
  | x :: xs, i + 1, h => ctx_drop xs i h.2.2
theorem ctx_take {r : Bs} : ∀ (cs : List Bs) (n : Nat), ctx k cs r → ctx k (cs.take n) ((cs.drop n).flatten ++ r)
  | cs, 0, h => trivial
  | [], n + 1, h => trivial
  | x :: xs, n + 1, h => by
    refine ⟨h.1, ?_, ctx_take xs n h.2.2⟩
    have e : (xs.take n).flatten ++ ((xs.drop n).flatten ++ r) = xs.flatten ++ r := by
      rw [← List.append_assoc, ← List.flatten_append, List.take_append_drop]
    show len1 k (x ++ ((xs.take n).flatten ++ ((xs.drop n).flatten ++ r))) = x.length
    rw [e]; exact h.2.1
/-- Letters in the middle of a text are its letters by themselves. -/
theorem ltrs_mid (w : Bs) (i n : Nat) : ltrs k (((ltrs k w).1.drop i).take n).flatten = (((ltrs k w).1.drop i).take n, []) := ctx_all _ (ctx_take _ n (ctx_drop _ i (ctx_of w)))
theorem ltrs_ne (w : Bs) : ∀ x ∈ (ltrs k w).1, x ≠ [] := fun x hx e => by
  have h := ltrs_each (k := k) w x hx
  rw [e, ltrs_stop (by rfl)] at h
  cases h
/-- A rule's letters stand at a place exactly if they make its text there. -/
theorem takes_fits {w f : Bs} {i : Nat} (hf : word k f = true) : takes ((ltrs k w).1.drop i) f = (if ((ltrs k w).1.drop i).take (ltrs k f).1.length = (ltrs k f).1 then (ltrs k f).1.length else 0) := by
  have hf1 := word_iff.1 hf
  by_cases h : ((ltrs k w).1.drop i).take (ltrs k f).1.length = (ltrs k f).1
  · rw [if_pos h]
    have hlen : (ltrs k f).1.length ≤ ((ltrs k w).1.drop i).length := by
      have := congrArg List.length h
      rw [List.length_take] at this
      omega
    have e := takes_of hlen (fun x hx => ltrs_ne w x (List.mem_of_mem_drop hx))
    rw [h, word_join hf] at e
    exact e
  · rw [if_neg h]
    refine Classical.byContradiction fun hn => ?_
    have e := takes_flat hn
    have h2 := ltrs_mid (k := k) w i (takes ((ltrs k w).1.drop i) f)
    rw [e] at h2
    have h3 : (ltrs k f).1 = ((ltrs k w).1.drop i).take (takes ((ltrs k w).1.drop i) f) := by rw [h2]
    have h4 : (ltrs k f).1.length = takes ((ltrs k w).1.drop i) f := by
      rw [h3, List.length_take]
      have := takes_le (l := (ltrs k w).1.drop i) (t := f)
      omega
    exact h (by rw [h4]; exact h3.symm)
theorem lower_same {q : Bs} (h : ∀ c ∈ q, low c = c) : lower q = q := by
  unfold lower
  conv => rhs; rw [← List.map_id q]
  exact List.map_congr_left fun c hc => h c hc
/-- What is left of a folded word is a folded word with the letters that are left. -/
theorem rest_word {x : Bs} {i : Nat} (h : word k x = true) (hi : i < (ltrs k (lower x)).1.length) :
    ((ltrs k (lower x)).1.drop i).flatten ≠ [] ∧ word k ((ltrs k (lower x)).1.drop i).flatten = true ∧ lower ((ltrs k (lower x)).1.drop i).flatten = ((ltrs k (lower x)).1.drop i).flatten ∧ (ltrs k ((ltrs k (lower x)).1.drop i).flatten).1 = (ltrs k (lower x)).1.drop i := by
  have hw := word_iff.1 (fold_word h)
  have h1 := ltrs_mid (k := k) (lower x) i ((ltrs k (lower x)).1.drop i).length
  rw [List.take_length] at h1
  have hwd : word k ((ltrs k (lower x)).1.drop i).flatten = true := word_iff.2 (by rw [h1]; refine ⟨rfl, ?_, ?_⟩ <;> (show _ ≤ _; rw [List.length_drop]; omega))
  refine ⟨fun e => ?_, hwd, ?_, by rw [h1]⟩
  · have := word_first hwd
    rw [e] at this
    exact this rfl
  · -- folded already
    have h2 : lower (lower x) = lower x := lower_lower x
    have h3 : ∀ c ∈ lower x, low c = c := fun c hc => by
      obtain ⟨d, _, rfl⟩ := List.mem_map.1 hc
      exact low_low d
    have h4 := ltrs_join (k := k) (lower x)
    refine lower_same fun c hc => h3 c ?_
    rw [← h4]
    refine List.mem_append_left _ ?_
    obtain ⟨y, hy, hcy⟩ := List.mem_flatten.1 hc
    exact List.mem_flatten.2 ⟨y, List.mem_of_mem_drop hy, hcy⟩
end
end Go.CH.Pot
namespace Go.CH.Pot
open Go.CH.Scr
/-- A rule with its place in the table and the letters of its From. -/
structure AR where
  ix : Nat
  c : Int
  f : List Bs
  t : Bs
deriving DecidableEq
def arOf (k : Int) (x : Rule × Nat) : Option AR := if x.1.k = k then (if word k x.1.f = true then some ⟨x.2, x.1.c, (ltrs k x.1.f).1, x.1.t⟩ else none) else none
def sideR (rs : List Rule) (k : Int) : List AR := rs.zipIdx.filterMap (arOf k)
def fitsA (l : List Bs) (r : AR) (i : Nat) : Bool := decide (i + r.f.length ≤ l.length) && decide ((l.drop i).take r.f.length = r.f)
def Wd.ahA (W : Wd) (s : St) (tw : Bs) : Option (Bs × Bool) :=
  if tw.isPrefixOf s.a then some (s.a.drop tw.length, s.r && decide (s.a.drop tw.length ≠ []))
  else if s.a.isPrefixOf tw then some (tw.drop s.a.length, !W.left s)
  else none
def Wd.amv (W : Wd) (s : St) (r : AR) : Option (AR × St) :=
  if fitsA (if W.left s then W.l else W.m) r (if W.left s then s.i else s.j) = true then
    (W.ahA s r.t).map fun x => (r, if W.left s then ⟨s.i + r.f.length, s.j, x.1, x.2⟩ else ⟨s.i, s.j + r.f.length, x.1, x.2⟩)
  else none
def Wd.amoves (W : Wd) (s : St) : List (AR × St) := (sideR W.rs (if W.left s then W.ka else W.kb)).filterMap (W.amv s)
section
variable {W : Wd} {s : St}
theorem drop_empty {p q : Bs} (h : p.isPrefixOf q = true) (h2 : q.drop p.length = []) : q = p := by
  obtain ⟨r, rfl⟩ := pre_iff.1 h
  rw [List.drop_left] at h2
  rw [h2, List.append_nil]
theorem ahA_eq (tw : Bs) : W.ahA s tw = W.ah s tw := by
  unfold Wd.ahA Wd.ah
  by_cases h1 : tw.isPrefixOf s.a = true
  · rw [if_pos h1]
    by_cases h2 : s.a.drop tw.length = []
    · have e := drop_empty h1 h2
      rw [if_neg (by simp [h2]), if_pos (by rw [e, List.isPrefixOf_iff_prefix]; exact List.prefix_refl _)]
      rw [e]
      simp
    · rw [if_pos ⟨h1, h2⟩]
      simp [h2]
  · rw [if_neg h1, if_neg (fun h : tw.isPrefixOf s.a = true ∧ s.a.drop tw.length ≠ [] => h1 h.1)]
    by_cases h2 : s.a.isPrefixOf tw = true
    · rw [if_pos h2, if_pos h2]
      have h3 : tw.drop s.a.length ≠ [] := fun e => h1 (by rw [drop_empty h2 e, List.isPrefixOf_iff_prefix]; exact List.prefix_refl _)
      simp [h3]
    · rw [if_neg h2, if_neg h2]
end
section
variable {T : Tab} {a b : Int} {x y : Bs} {s : St}
theorem fits_iff {k : Int} {w f : Bs} {i : Nat} (hf : word k f = true) (hi : i ≤ (ltrs k w).1.length) (ix : Nat) (c : Int) (t : Bs) :
    fitsA (ltrs k w).1 ⟨ix, c, (ltrs k f).1, t⟩ i = true ↔ takes ((ltrs k w).1.drop i) f ≠ 0 := by
  have hf1 := word_iff.1 hf
  rw [takes_fits hf]
  unfold fitsA
  simp only [Bool.and_eq_true, decide_eq_true_eq]
  constructor
  · rintro ⟨h1, h2⟩
    rw [if_pos h2]; omega
  · intro h
    split at h
    · rename_i h2
      have := congrArg List.length h2
      rw [List.length_take, List.length_drop] at this
      exact ⟨by omega, h2⟩
    · exact absurd rfl h
theorem valid_word (hv : validT T = true) {R : Rule} (hR : R ∈ T.rs) : word R.k R.f = true :=
  (foldedN_iff.1 (ruleN_iff.1 ((rulesN_iff.1 (validT_iff.1 hv).2.1).2 R hR)).1).1
theorem filterMap_zip {α β : Type} (f : α → Option β) : ∀ (l : List α) (n : Nat), (l.zipIdx n).filterMap (fun p => f p.1) = l.filterMap f
  | [], _ => rfl
  | x :: l, n => by
    rw [List.zipIdx_cons]
    cases h : f x with
    | none => rw [List.filterMap_cons_none h, List.filterMap_cons_none (by simpa using h), filterMap_zip f l (n + 1)]
    | some y => rw [List.filterMap_cons_some h, List.filterMap_cons_some (by simpa using h), filterMap_zip f l (n + 1)]
theorem fm_congr {α β : Type} {f g : α → Option β} : ∀ (l : List α), (∀ x ∈ l, f x = g x) → l.filterMap f = l.filterMap g
  | [], _ => rfl
  | x :: l, h => by
    have e := h x (List.mem_cons_self ..)
    have ih := fm_congr l (fun y hy => h y (List.mem_cons_of_mem _ hy))
    cases hg : g x with
    | none => rw [List.filterMap_cons_none (e.trans hg), List.filterMap_cons_none hg, ih]
    | some z => rw [List.filterMap_cons_some (e.trans hg), List.filterMap_cons_some hg, ih]
theorem zip_mem {α : Type} : ∀ (l : List α) (n : Nat) {p : α × Nat}, p ∈ l.zipIdx n → p.1 ∈ l := fun l n p hp => by
  obtain ⟨x, i⟩ := p
  exact (List.mem_zipIdx hp).2.2 ▸ List.getElem_mem _
/-- Layer 11 moves as layer 12 does. -/
theorem amoves_eq (hv : validT T = true) (hs : (wdOf T a x b y).ok s) : ((wdOf T a x b y).amoves s).map (fun p => (p.1.c, p.2)) = (wdOf T a x b y).moves s := by
  unfold Wd.amoves Wd.moves sideR
  rw [List.filterMap_filterMap, List.map_filterMap, show (wdOf T a x b y).rs.filterMap ((wdOf T a x b y).mv s) = ((wdOf T a x b y).rs.zipIdx).filterMap (fun p => (wdOf T a x b y).mv s p.1) from (filterMap_zip _ _ 0).symm]
  refine fm_congr _ fun p hp => ?_
  have hR := zip_mem _ _ hp
  have hw := valid_word hv hR
  obtain ⟨R, i⟩ := p
  simp only at hR hw ⊢
  unfold arOf Wd.mv
  simp only
  cases hl : (wdOf T a x b y).left s with
  | true =>
    have hu : (wdOf T a x b y).used s R = if R.k = a then takes ((ltrs a (lower x)).1.drop s.i) R.f else 0 := by unfold Wd.used; rw [if_pos hl]; rfl
    simp only [if_true]
    show Option.map _ ((if R.k = a then _ else none : Option AR).bind _) = _
    by_cases hk : R.k = a
    · rw [if_pos hk] at hu
      subst hk
      rw [if_pos rfl, if_pos (show word (wdOf T R.k x b y).ka R.f = true from hw), hu]
      simp only [Option.bind_some]
      unfold Wd.amv
      rw [hl]
      simp only [if_true]
      have hf := fits_iff (k := R.k) (w := lower x) (i := s.i) hw hs.1 i R.c R.t
      by_cases ht : takes ((ltrs R.k (lower x)).1.drop s.i) R.f = 0
      · rw [if_pos ht]; refine (congrArg _ (if_neg (by intro h; exact (hf.1 h) ht))).trans ?_; rfl
      · have hn : takes ((ltrs R.k (lower x)).1.drop s.i) R.f = (ltrs R.k R.f).1.length := by
          rw [takes_fits hw] at ht ⊢
          split at ht
          · rename_i h; rw [if_pos h]
          · exact absurd rfl ht
        rw [if_neg ht]; refine (congrArg _ (if_pos (hf.2 ht))).trans ?_; rw [ahA_eq, Option.map_map, hn]; rfl
    · rw [if_neg hk] at hu
      rw [if_neg hk, hu, if_pos rfl]; rfl
  | false =>
    have hu : (wdOf T a x b y).used s R = if R.k = b then takes ((ltrs b (lower y)).1.drop s.j) R.f else 0 := by unfold Wd.used; rw [if_neg (by rw [hl]; decide)]; rfl
    simp only [Bool.false_eq_true, if_false]
    show Option.map _ ((if R.k = b then _ else none : Option AR).bind _) = _
    by_cases hk : R.k = b
    · rw [if_pos hk] at hu
      subst hk
      rw [if_pos rfl, if_pos (show word (wdOf T a x R.k y).kb R.f = true from hw), hu]
      simp only [Option.bind_some]
      unfold Wd.amv
      rw [hl]
      simp only [Bool.false_eq_true, if_false]
      have hf := fits_iff (k := R.k) (w := lower y) (i := s.j) hw hs.2.1 i R.c R.t
      by_cases ht : takes ((ltrs R.k (lower y)).1.drop s.j) R.f = 0
      · rw [if_pos ht]; refine (congrArg _ (if_neg (by intro h; exact (hf.1 h) ht))).trans ?_; rfl
      · have hn : takes ((ltrs R.k (lower y)).1.drop s.j) R.f = (ltrs R.k R.f).1.length := by
          rw [takes_fits hw] at ht ⊢
          split at ht
          · rename_i h; rw [if_pos h]
          · exact absurd rfl ht
        rw [if_neg ht]; refine (congrArg _ (if_pos (hf.2 ht))).trans ?_; rw [ahA_eq, Option.map_map, hn]; rfl
    · rw [if_neg hk] at hu
      rw [if_neg hk, hu, if_pos rfl]; rfl
/-- A derivation. -/
structure Dv where
  c : Int
  L : List Int
  M : List Int
  F : Bs
deriving DecidableEq
/-- What rules, given by their places, write for the letters of a side, from a place on; none if they cannot stand there. -/
def wrtN (l : List Bs) (rs : List AR) : List Int → Nat → Option (Bs × Int × Nat)
  | [], i => some ([], 0, i)
  | k :: ks, i => match rs.find? (fun r => decide ((r.ix : Int) = k)) with
    | none => none
    | some r => if fitsA l r i = true then (wrtN l rs ks (i + r.f.length)).map fun z => (r.t ++ z.1, r.c + z.2.1, z.2.2) else none
/-- Whether a derivation is right. -/
def rightD (T : Tab) (a : Int) (x : Bs) (b : Int) (y : Bs) (d : Dv) : Prop :=
  okW T a x b y = true ∧ ∃ F c1 c2, wrtN (wdOf T a x b y).l (sideR T.rs a) d.L 0 = some (F, c1, (wdOf T a x b y).l.length) ∧ wrtN (wdOf T a x b y).m (sideR T.rs b) d.M 0 = some (F, c2, (wdOf T a x b y).m.length) ∧ F = d.F ∧ c1 + c2 = d.c
theorem wrt_wr (hv : validT T = true) {k : Int} {w : Bs} : ∀ (ks : List Int) (i : Nat) {F : Bs} {c : Int} {e : Nat}, i ≤ (ltrs k w).1.length → wrtN (ltrs k w).1 (sideR T.rs k) ks i = some (F, c, e) → e = (ltrs k w).1.length → ∃ L, Wr k T.rs ((ltrs k w).1.drop i) L F c := by
  intro ks
  induction ks with
  | nil =>
    intro i F c e hi h he
    unfold wrtN at h
    injection h with h
    injection h with h1 h2
    injection h2 with h2 h3
    subst h1 h2 h3
    rw [he, List.drop_length]
    exact ⟨[], .nil⟩
  | cons q ks ih =>
    intro i F c e hi h he
    unfold wrtN at h
    cases hf : (sideR T.rs k).find? (fun r => decide ((r.ix : Int) = q)) with
    | none => rw [hf] at h; cases h
    | some r =>
      rw [hf] at h
      simp only at h
      split at h
      · rename_i hfit
        rw [Option.map_eq_some_iff] at h
        obtain ⟨⟨F', c', e'⟩, h1, h2⟩ := h
        injection h2 with h2 h3
        injection h3 with h3 h4
        subst h2 h3 h4
        have hm := List.mem_of_find?_eq_some hf
        unfold sideR at hm
        obtain ⟨⟨R, ix⟩, hp, hr⟩ := List.mem_filterMap.1 hm
        have hR := zip_mem _ _ hp
        unfold arOf at hr
        simp only at hr
        split at hr
        · rename_i hk
          split at hr
          · rename_i hw
            injection hr with hr
            subst hr
            have hfit' := (fits_iff (k := k) (w := w) (i := i) hw hi ix R.c R.t).1 hfit
            have hn : takes ((ltrs k w).1.drop i) R.f = (ltrs k R.f).1.length := by
              rw [takes_fits hw] at hfit' ⊢
              split at hfit'
              · rename_i h; rw [if_pos h]
              · exact absurd rfl hfit'
            have hle : i + (ltrs k R.f).1.length ≤ (ltrs k w).1.length := by
              unfold fitsA at hfit
              simp only [Bool.and_eq_true, decide_eq_true_eq] at hfit
              exact hfit.1
            obtain ⟨L, hL⟩ := ih _ hle h1 he
            refine ⟨R :: L, .cons hR hk hfit' ?_⟩
            rw [hn, List.drop_drop]
            exact hL
          · cases hr
        · cases hr
      · cases h
/-- A derivation that is right is one of both words. -/
theorem right_der {d : Dv} (h : rightD T a x b y d) : Der (wdOf T a x b y) st0 d.c := by
  obtain ⟨h1, F, c1, c2, h2, h3, h4, h5⟩ := h
  have hv := (okW_iff.1 h1).2.2
  obtain ⟨L, hL⟩ := wrt_wr hv d.L 0 (Nat.zero_le _) h2 rfl
  obtain ⟨M, hM⟩ := wrt_wr hv d.M 0 (Nat.zero_le _) h3 rfl
  exact ⟨L, M, F, F, c1, c2, hL, hM, h5.symm, by simp [st0]⟩
end
end Go.CH.Pot
