/-
  The certificate that is made, by reckoning; the chapter's examples.
  The laws of layer 12, plainly.
  Potential: rules, drops, elements of certificates as cells; lists of them in memory; tables as values.
  The shelf at this seat.
  Potential: letters, takes.
  Potential: pairs and states as cells; the iterator of moves: what it leans on.
-/
import Derived.Test.YtnppgomhhcbplaaGreatDoorPO9
import Derived.Test.YtnppgomhhcbplaaGreatDoorPO8
import Derived.Test.YtnppgomhhcbplaaGreatDoorPO6
import Derived.Test.YtnppgomhhcbplaaGreatDoorPO3
set_option linter.unusedSimpArgs false
set_option linter.unusedVariables false
namespace Go.CH.Pot
open Go.CH.Scr
section
variable {W : Wd} {bound : Int}
def reachB (W : Wd) : List St → List St → Bool
  | _, [] => true
  | d, s :: t => d.any (fun q => (W.moves q).any fun x => decide (x.2 = s)) && reachB W (s :: d) t
theorem reachB_ok : ∀ (t d : List St), (∀ s ∈ d, Rch W st0 s) → reachB W d t = true → ∀ s ∈ t, Rch W st0 s
  | [], _, _, _, s, hs => by cases hs
  | q :: t, d, hd, h, s, hs => by
    unfold reachB at h
    rw [Bool.and_eq_true] at h
    obtain ⟨h1, h2⟩ := h
    obtain ⟨p, hp, h3⟩ := List.any_eq_true.1 h1
    obtain ⟨⟨c, q'⟩, hx, h4⟩ := List.any_eq_true.1 h3
    obtain rfl : q' = q := by simpa using h4
    have hq : Rch W st0 q' := .step (hd p hp) hx
    rcases List.mem_cons.1 hs with rfl | hs
    · exact hq
    · exact reachB_ok t (q' :: d) (fun z hz => (List.mem_cons.1 hz).elim (fun e => e ▸ hq) (hd z)) h2 s hs
/-- Whether a list is the certificate; the states that are reached are given. -/
def certB (W : Wd) (bound : Int) (S : List St) (C : List Pt) : Bool :=
  decide (C.Pairwise ltP) && (reachB W [st0] S && ((st0 :: S).all (fun s => (W.moves s).all fun x => decide (x.2 ∈ st0 :: S)) &&
    (C.all (fun p => decide (0 ≤ p.i) && (decide (0 ≤ p.j) && (decide (p.st ∈ st0 :: S) && (decide (p.h = min (W.dist p.st) bound) && decide (0 < p.h))))) &&
      (st0 :: S).all fun s => decide (min (W.dist s) bound ≤ 0) || decide ((⟨s.i, s.j, s.a, s.r, min (W.dist s) bound⟩ : Pt) ∈ C))))
theorem certB_ok {S : List St} {C : List Pt} (h : certB W bound S C = true) : IsCert W bound C := by
  unfold certB at h
  simp only [Bool.and_eq_true] at h
  obtain ⟨h1, h2, h3, h4, h5⟩ := h
  have hS : ∀ s ∈ st0 :: S, Rch W st0 s := fun s hs => by
    rcases List.mem_cons.1 hs with rfl | hs
    · exact .refl
    · exact reachB_ok S [st0] (fun s hs => by rw [List.mem_singleton] at hs; rw [hs]; exact .refl) h2 s hs
  have hcl : ∀ s, Rch W st0 s → s ∈ st0 :: S := fun s hs => by
    induction hs with
    | refl => exact List.mem_cons_self ..
    | step _ hm ih => simpa using List.all_eq_true.1 (List.all_eq_true.1 h3 _ ih) _ hm
  refine ⟨of_decide_eq_true h1, fun p => ⟨fun hp => ?_, fun ⟨g1, g2, g3, g4⟩ => ?_⟩⟩
  · have := List.all_eq_true.1 h4 p hp
    simp only [Bool.and_eq_true, decide_eq_true_eq] at this
    obtain ⟨k1, k2, k3, k4, k5⟩ := this
    exact ⟨⟨k1, k2⟩, hS _ k3, k4, k5⟩
  · have := List.all_eq_true.1 h5 _ (hcl _ g2)
    simp only [Bool.or_eq_true, decide_eq_true_eq] at this
    rcases this with k | k
    · omega
    · have e : (⟨p.st.i, p.st.j, p.st.a, p.st.r, min (W.dist p.st) bound⟩ : Pt) = p := by
        obtain ⟨i, j, a, r, h⟩ := p
        simp only [Pt.st] at g1 g3 ⊢
        rw [← g3]
        congr 1
        · omega
        · omega
      rw [e] at k; exact k
end
/-! ### The chapter's examples -/
def sampT : Tab := ⟨[⟨1, [97], [97], 0⟩, ⟨1, [98], [98], 0⟩, ⟨1, [99], [98], 2⟩], [], [], 0, 0, 0⟩
def wantC : List Pt := [⟨0, 0, [], false, 2⟩, ⟨1, 0, [97], false, 2⟩, ⟨1, 1, [], false, 2⟩, ⟨2, 1, [98], false, 2⟩]
def badC : List Pt := [⟨0, 0, [], false, 2⟩, ⟨1, 0, [97], false, 2⟩, ⟨1, 1, [], false, 2⟩, ⟨2, 1, [98], false, 1⟩]
theorem samp_ok1 : okW sampT 1 [97, 98] 1 [97, 99] = true := by decide
theorem samp_ok2 : okW sampT 1 [97] 1 [98] = true := by decide
theorem samp_ok3 : okW sampT 1 [97] 1 [99] = true := by decide
theorem samp_d1 : (wdOf sampT 1 [97, 98] 1 [97, 99]).dist st0 = 2 := by decide
theorem samp_d2 : (wdOf sampT 1 [97] 1 [98]).dist st0 = never := by decide
theorem samp_c1 : IsCert (wdOf sampT 1 [97, 98] 1 [97, 99]) 2 wantC := certB_ok (S := [⟨1, 0, [97], false⟩, ⟨1, 1, [], false⟩, ⟨2, 1, [98], false⟩, ⟨2, 2, [], false⟩]) (by decide)
theorem samp_c2 : IsCert (wdOf sampT 1 [97] 1 [98]) 5 [⟨0, 0, [], false, 5⟩, ⟨1, 0, [97], false, 5⟩] := certB_ok (S := [⟨1, 0, [97], false⟩]) (by decide)
theorem samp_k1 : CheckP sampT 1 [97, 98] 1 [97, 99] 2 wantC := ⟨samp_ok1, cert_holds samp_c1 (good_of (okW_iff.1 samp_ok1).2.2).1 (good_of (okW_iff.1 samp_ok1).2.2).2 (by decide) (by decide) (by rw [samp_d1]; decide)⟩
theorem samp_k2 : ¬ CheckP sampT 1 [97, 98] 1 [97, 99] 2 badC := fun h => by
  have := h.2.2.2.1 ⟨1, 1, [], false, 2⟩ (by decide)
  revert this; decide
theorem samp_k3 : ¬ CheckP sampT 1 [97, 98] 1 [97, 99] 2 (wantC.drop 1) := fun h => by
  have := h.2.2.2.2
  revert this; decide
theorem samp_k4 : CheckP sampT 1 [97, 98] 1 [97, 99] 0 [] := ⟨samp_ok1, fun p hp => (by cases hp), List.Pairwise.nil, fun p hp => (by cases hp), by decide⟩
theorem make_unique {T : Tab} {a b : Int} {x y : Bs} {bound : Int} {C C' : List Pt} {e e' : Int} (h : MakeP T a x b y bound C e) (h' : MakeP T a x b y bound C' e') : C = C' ∧ e = e' := by
  cases h with
  | arg h => cases h' with
    | arg => exact ⟨rfl, rfl⟩
    | none h1 h2 h3 _ => rw [h1] at h; rcases h with h | h | h; cases h; all_goals omega
    | some _ h1 h2 h3 _ _ => rw [h1] at h; rcases h with h | h | h; cases h; all_goals omega
  | none h1 h2 h3 h4 => cases h' with
    | arg h => rw [h1] at h; rcases h with h | h | h; cases h; all_goals omega
    | none => exact ⟨rfl, rfl⟩
    | some _ _ _ _ h5 _ => omega
  | some C h1 h2 h3 h4 h5 => cases h' with
    | arg h => rw [h1] at h; rcases h with h | h | h; cases h; all_goals omega
    | none _ _ _ h5 => omega
    | some C' _ _ _ _ h6 => exact ⟨cert_unique h5 h6, rfl⟩
theorem samp_m1 {C : List Pt} {e : Int} (h : MakeP sampT 1 [97, 98] 1 [97, 99] 2 C e) : C = wantC ∧ e = 0 := make_unique h (.some _ samp_ok1 (by decide) (by decide) (by rw [samp_d1]; decide) samp_c1)
theorem samp_m2 {C : List Pt} {e : Int} (h : MakeP sampT 1 [97, 98] 1 [97, 99] 3 C e) : C = [] ∧ e = 11 := make_unique h (.none samp_ok1 (by decide) (by decide) (by rw [samp_d1]; decide))
theorem samp_m3 {C : List Pt} {e : Int} (h : MakeP sampT 1 [97] 1 [98] 5 C e) : C = [⟨0, 0, [], false, 5⟩, ⟨1, 0, [97], false, 5⟩] ∧ e = 0 := make_unique h (.some _ samp_ok2 (by decide) (by decide) (by rw [samp_d2]; decide) samp_c2)
theorem samp_m4 {C : List Pt} {e : Int} (h : MakeP sampT 1 [97] 1 [99] 0 C e) : C = [] ∧ e = 0 := make_unique h (.some _ samp_ok3 (by decide) (by decide) (dist_nonneg (good_of (okW_iff.1 samp_ok3).2.2).1 ok0) ⟨List.Pairwise.nil, fun p => Iff.intro (fun hp => nomatch hp) (fun h => by obtain ⟨-, -, h3, h4⟩ := h; omega)⟩)
end Go.CH.Pot
namespace Go.CH.Pot
open Go.CH.Scr
/-- The first move that is cheapest. -/
def Wd.pick (W : Wd) (s : St) : Option (AR × St) := (W.amoves s).find? fun p => decide (p.1.c + W.dist p.2 = W.dist s)
/-- The rest of the first one of the cheapest derivations. -/
def Wd.bestR (W : Wd) : Nat → St → List Int × List Int × Bs
  | 0, _ => ([], [], [])
  | n + 1, s => if s = W.fin then ([], [], []) else match W.pick s with
    | none => ([], [], [])
    | some (r, s') => if s.i < s'.i then ((r.ix : Int) :: (W.bestR n s').1, (W.bestR n s').2.1, r.t ++ (W.bestR n s').2.2) else ((W.bestR n s').1, (r.ix : Int) :: (W.bestR n s').2.1, (W.bestR n s').2.2)
def Wd.best (W : Wd) : Dv := ⟨W.dist st0, (W.bestR (W.rank st0) st0).1, (W.bestR (W.rank st0) st0).2.1, (W.bestR (W.rank st0) st0).2.2⟩
/-- What Best says. -/
inductive BestP (T : Tab) (a : Int) (x : Bs) (b : Int) (y : Bs) : Dv → Int → Prop
  | arg (h : okW T a x b y = false) : BestP T a x b y ⟨0, [], [], []⟩ 1
  | none (h : okW T a x b y = true) (h2 : (wdOf T a x b y).dist st0 = never) : BestP T a x b y ⟨0, [], [], []⟩ 11
  | some (h : okW T a x b y = true) (h2 : (wdOf T a x b y).dist st0 < never) : BestP T a x b y (wdOf T a x b y).best 0
section
variable {T : Tab} {a b : Int} {x y : Bs} {bound : Int} {C : List Pt} {d : Dv} {e : Int}
theorem wd_small (h : okW T a x b y = true) : (wdOf T a x b y).l.length + (wdOf T a x b y).m.length ≤ 1000 := by have := lens_of h; omega
theorem wd_good (h : okW T a x b y = true) : (wdOf T a x b y).good := (good_of (okW_iff.1 h).2.2).1
/-- P12.2. -/
theorem law_sound (hc : CheckP T a x b y bound C) : (BestP T a x b y d e → e = 11 ∨ e = 0 ∧ bound ≤ d.c) ∧ (rightD T a x b y d → bound ≤ d.c) := by
  obtain ⟨h1, h2⟩ := hc
  have hg := wd_good h1
  constructor
  · intro hb
    cases hb with
    | arg h => rw [h1] at h; cases h
    | none => exact .inl rfl
    | some _ h3 =>
      refine .inr ⟨rfl, ?_⟩
      rcases path_dist hg (wd_small h1) _ st0 ok0 (Nat.le_refl _) with ⟨hp, _⟩ | ⟨hn, _⟩
      · exact cert_sound h2 hg hp
      · rw [hn] at h3; exact absurd h3 (by decide)
  · intro hd
    exact cert_sound h2 hg ((path_iff ok0).2 (right_der hd))
/-- P12.3. -/
theorem law_complete {C : List Pt} {f : Int} (h0 : 0 ≤ bound) (h1 : bound ≤ 100000) (hb : BestP T a x b y d e) (hm : MakeP T a x b y bound C f) :
    (e ≠ 0 ∧ e ≠ 11 → f = 1 ∧ C = []) ∧ (e = 0 ∧ d.c < bound → f = 11 ∧ C = []) ∧ (e = 0 ∧ bound ≤ d.c ∨ e = 11 → f = 0 ∧ CheckP T a x b y bound C) := by
  have hsome : ∀ C, okW T a x b y = true → bound ≤ (wdOf T a x b y).dist st0 → IsCert (wdOf T a x b y) bound C → CheckP T a x b y bound C := fun C g1 g2 g3 =>
    ⟨g1, cert_holds g3 (wd_good g1) (good_of (okW_iff.1 g1).2.2).2 h0 h1 g2⟩
  cases hb with
  | arg h =>
    refine ⟨fun _ => ?_, fun h => absurd h.1 (by decide), fun he => he.elim (fun h => absurd h.1 (by decide)) (fun h => absurd h (by decide))⟩
    cases hm with
    | arg => exact ⟨rfl, rfl⟩
    | none g => rw [h] at g; cases g
    | some _ g => rw [h] at g; cases g
  | none h h2 =>
    refine ⟨fun he => absurd rfl he.2, fun h => absurd h.1 (by decide), fun he => ?_⟩
    cases hm with
    | arg g => rw [h] at g; rcases g with g | g | g; cases g; all_goals omega
    | none _ _ _ g => rw [h2] at g; unfold never at g; omega
    | some C g1 _ _ g2 g3 => exact ⟨rfl, hsome _ g1 g2 g3⟩
  | some h h2 =>
    refine ⟨fun he => absurd rfl he.1, fun ⟨_, hl⟩ => ?_, fun he => ?_⟩
    · have hl : (wdOf T a x b y).dist st0 < bound := hl
      cases hm with
      | arg g => rw [h] at g; rcases g with g | g | g; cases g; all_goals omega
      | none => exact ⟨rfl, rfl⟩
      | some C g1 _ _ g2 g3 => omega
    · rcases he with ⟨_, hl⟩ | he
      · have hl : bound ≤ (wdOf T a x b y).dist st0 := hl
        cases hm with
        | arg g => rw [h] at g; rcases g with g | g | g; cases g; all_goals omega
        | none _ _ _ g => omega
        | some C g1 _ _ g2 g3 => exact ⟨rfl, hsome _ g1 g2 g3⟩
      · exact absurd he (by decide)
theorem best_cost (h : BestP T a x b y d 0) : d.c = (wdOf T a x b y).dist st0 ∧ okW T a x b y = true ∧ 0 ≤ d.c ∧ d.c ≤ 24000 := by
  generalize he : (0 : Int) = e at h
  cases h with
  | arg => cases he
  | none => cases he
  | some h h2 =>
    have h3 := dist_nonneg (wd_good h) ok0
    refine ⟨rfl, h, h3, ?_⟩
    rcases path_dist (wd_good h) (wd_small h) _ st0 ok0 (Nat.le_refl _) with ⟨_, hp⟩ | ⟨hn, _⟩
    · have := lens_of h
      have e : (wdOf T a x b y).rank st0 = (wdOf T a x b y).l.length + (wdOf T a x b y).m.length := rfl
      rw [e] at hp
      show (wdOf T a x b y).dist st0 ≤ 24000
      omega
    · rw [hn] at h2; exact absurd h2 (by decide)
/-- P12.3, the cost of the best derivation and one more. -/
theorem law_complete2 {C C' : List Pt} {f f' : Int} (hb : BestP T a x b y d 0) (hm : MakeP T a x b y d.c C f) (hm' : MakeP T a x b y (d.c + 1) C' f') : f = 0 ∧ CheckP T a x b y d.c C ∧ f' = 11 := by
  obtain ⟨h1, h2, h3, h4⟩ := best_cost hb
  have g1 := (law_complete h3 (by omega) hb hm).2.2 (.inl ⟨rfl, Int.le_refl _⟩)
  have g2 := (law_complete (by omega) (by omega) hb hm').2.1 ⟨rfl, by omega⟩
  exact ⟨g1.1, g1.2, g2.1⟩
/-- P12.4. -/
theorem law_states (hc : CheckP T a x b y bound C) {p : Pt} (hp : p ∈ C) (ha : p.a = []) (hi : p.i < (ltrs a (lower x)).1.length) (hj : p.j < (ltrs b (lower y)).1.length)
    (hb : BestP T a ((ltrs a (lower x)).1.drop p.i.toNat).flatten b ((ltrs b (lower y)).1.drop p.j.toNat).flatten d e) : e = 11 ∨ e = 0 ∧ p.h ≤ d.c := by
  obtain ⟨h1, h2⟩ := hc
  have hg := wd_good h1
  have h0 := h2.pos p hp
  obtain ⟨e1, e2, e3⟩ := okW_iff.1 h1
  have r1 := rest_word e1 (i := p.i.toNat) (by omega)
  have r2 := rest_word e2 (i := p.j.toNat) (by omega)
  have hw : wdOf T a ((ltrs a (lower x)).1.drop p.i.toNat).flatten b ((ltrs b (lower y)).1.drop p.j.toNat).flatten = (wdOf T a x b y).rest p.i.toNat p.j.toNat := by
    unfold wdOf Wd.rest
    rw [r1.2.2.1, r2.2.2.1, r1.2.2.2, r2.2.2.2]
  have hok : okW T a ((ltrs a (lower x)).1.drop p.i.toNat).flatten b ((ltrs b (lower y)).1.drop p.j.toNat).flatten = true := okW_iff.2 ⟨r1.2.1, r2.2.1, e3⟩
  have hst : p.st = ⟨p.i.toNat, p.j.toNat, [], false⟩ := by
    have h3 := (proper_iff.1 (h2.1 p hp)).2.2.2.1
    unfold Pt.st
    rw [ha]
    congr 1
    cases hr : p.r with
    | false => rfl
    | true => exact absurd ha (h3 hr)
  have hh : p.h = hgt C ⟨p.i.toNat, p.j.toNat, [], false⟩ := by rw [← hst]; exact (hgt_mem h2.2.1 h2.pos hp).symm
  cases hb with
  | arg g => rw [hok] at g; cases g
  | none => exact .inl rfl
  | some g1 g2 =>
    refine .inr ⟨rfl, ?_⟩
    rcases path_dist (wd_good g1) (wd_small g1) _ st0 ok0 (Nat.le_refl _) with ⟨hpa, _⟩ | ⟨hn, _⟩
    · have hd := path_der hpa
      rw [hw] at hd
      have hd2 := der_rest.1 hd
      rw [← hw] at hd2
      have hs : (wdOf T a x b y).ok ⟨p.i.toNat, p.j.toNat, [], false⟩ := by
        refine ⟨?_, ?_, fun h => by cases h⟩
        · show p.i.toNat ≤ (ltrs a (lower x)).1.length; omega
        · show p.j.toNat ≤ (ltrs b (lower y)).1.length; omega
      rw [hh]
      exact cert_path h2 hg ((path_iff hs).2 hd2) rfl
    · rw [hn] at g2; exact absurd g2 (by decide)
/-- P12.5. -/
theorem law_less {less : Int} {C' : List Pt} {e' : Int} (h : MakeP T a x b y bound C 0) (h0 : 0 < less) (hl : less ≤ bound) (h' : MakeP T a x b y less C' e') : e' = 0 ∧ C' = C.map fun p => { p with h := min p.h less } := by
  generalize he : (0 : Int) = e at h
  cases h with
  | arg => cases he
  | none => cases he
  | some C h1 h2 h3 h4 h5 =>
    have := make_unique h' (.some _ h1 (by omega) (by omega) (by omega) (cert_less h5 (wd_good h1) h0 hl))
    exact ⟨this.2, this.1⟩
/-- P12.8. -/
theorem law_turned {C' : List Pt} {e' : Int} (h : MakeP T a x b y bound C e) (h' : MakeP T b y a x bound C' e') : e = e' := by
  have hsw : okW T b y a x = okW T a x b y := by
    unfold okW; cases word a x <;> cases word b y <;> simp
  have hd : okW T a x b y = true → (wdOf T b y a x).dist st0 = (wdOf T a x b y).dist st0 := fun g => (dist_swap (wd_good g) (wd_small g)).symm
  cases h with
  | arg h => cases h' with
    | arg => rfl
    | none g1 g2 g3 => rw [hsw] at g1; rw [g1] at h; rcases h with h | h | h; cases h; all_goals omega
    | some _ g1 g2 g3 => rw [hsw] at g1; rw [g1] at h; rcases h with h | h | h; cases h; all_goals omega
  | none h1 h2 h3 h4 => cases h' with
    | arg g => rw [hsw, h1] at g; rcases g with g | g | g; cases g; all_goals omega
    | none => rfl
    | some _ _ _ _ g5 => rw [hd h1] at g5; omega
  | some C h1 h2 h3 h4 h5 => cases h' with
    | arg g => rw [hsw, h1] at g; rcases g with g | g | g; cases g; all_goals omega
    | none _ _ _ g5 => rw [hd h1] at g5; omega
    | some => rfl
/-- P12.9. -/
theorem law_bounds {other : Int} (h : CheckP T a x b y bound C) (hb : 1 ≤ bound) : CheckP T a x b y other C ↔ other = bound := by
  constructor
  · intro h2; exact (holds_bounds h.2 hb).1 h2.2
  · rintro rfl; exact h
end
end Go.CH.Pot
namespace Go.Proofs.YtnppgomhhcbplaaGreatDoor
open Go.RowKit Go.CH Go.CH.Scr Go.CH.Pot
open Go.ChangeMaps (setBlock)
def rcells (R : Rule) : List Value := [.int .i64 R.k, .string (bs R.f), .string (bs R.t), .int .i64 R.c]
def dcells (d : Drop) : List Value := [.int .i64 d.k, .string (bs d.w), .int .i64 d.c]
def pcells (p : Pt) : List Value := [.int .i64 p.i, .int .i64 p.j, .string (bs p.a), .bool p.r, .int .i64 p.h]
/-- A list of structs at A. -/
def Rst {α : Type} (R : α → List Value) (size : Nat) (w : World) (A : Option Addr) (l : List α) : Prop := Src w A l.length size (l.flatMap R)
theorem flat_get_ {α : Type} {R : α → List Value} {size : Nat} (hR : ∀ x, (R x).length = size) : ∀ {l : List α} {j : Nat} (hj : j < l.length) {i : Nat}, i < size → (l.flatMap R)[j * size + i]? = (R l[j])[i]?
  | [], j, hj, _, _ => absurd hj (Nat.not_lt_zero _)
  | x :: l, 0, hj, i, hi => by
    rw [List.flatMap_cons, List.getElem?_append_left (by rw [hR]; omega), Nat.zero_mul, Nat.zero_add]; rfl
  | x :: l, j + 1, hj, i, hi => by
    rw [List.flatMap_cons, List.getElem?_append_right (by rw [hR, Nat.succ_mul]; omega), hR]
    rw [show (j + 1) * size + i - size = j * size + i by rw [Nat.succ_mul]; omega]
    exact flat_get_ hR (by simpa using hj) hi
section
variable {α : Type} {R : α → List Value} {size : Nat} {w w' : World} {A : Option Addr} {l : List α}
theorem Rst.below (h : Rst R size w A l) (hb : Below w.heap.size w w') : Rst R size w' A l := src_below h hb
theorem Rst.at (hR : ∀ x, (R x).length = size) (hs : 0 < size) (h : Rst R size w A l) (hn : 0 < l.length) :
    ∃ b o, A = some ⟨b, o, none⟩ ∧ ∀ w', Below w.heap.size w w' → ∀ j (hj : j < l.length) i u, (R l[j])[i]? = some u → w'.cell? ⟨b, o + j * size + i, none⟩ = some u := by
  obtain ⟨b, o, rfl, hc⟩ := Src.open_ h hn hs
  refine ⟨b, o, rfl, fun w' hb j hj i u hu => ?_⟩
  have hi : i < size := by rw [← hR l[j]]; exact (List.getElem?_eq_some_iff.1 hu).1
  have h1 := hc (j * size + i) u (by rw [flat_get_ hR hj hi]; exact hu)
  rw [← Nat.add_assoc] at h1
  rw [hb.cell (World.block_lt_of_cell? _ _ h1)]; exact h1
end
section
variable {w : World} {A : Option Addr}
abbrev RulesR (w : World) (A : Option Addr) (l : List Rule) : Prop := Rst rcells 4 w A l
abbrev DropsR (w : World) (A : Option Addr) (l : List Drop) : Prop := Rst dcells 3 w A l
abbrev PtsR (w : World) (A : Option Addr) (l : List Pt) : Prop := Rst pcells 5 w A l
theorem RulesR.at {l : List Rule} (h : RulesR w A l) (hn : 0 < l.length) : ∃ b o, A = some ⟨b, o, none⟩ ∧ ∀ w', Below w.heap.size w w' → ∀ j (hj : j < l.length),
    w'.cell? ⟨b, o + j * 4, none⟩ = some (.int .i64 l[j].k) ∧ w'.cell? ⟨b, o + j * 4 + 1, none⟩ = some (.string (bs l[j].f)) ∧ w'.cell? ⟨b, o + j * 4 + 2, none⟩ = some (.string (bs l[j].t)) ∧ w'.cell? ⟨b, o + j * 4 + 3, none⟩ = some (.int .i64 l[j].c) := by
  obtain ⟨b, o, e, hc⟩ := Rst.at (R := rcells) (fun _ => rfl) (by omega) h hn
  exact ⟨b, o, e, fun w' hb j hj => ⟨hc w' hb j hj 0 _ rfl, hc w' hb j hj 1 _ rfl, hc w' hb j hj 2 _ rfl, hc w' hb j hj 3 _ rfl⟩⟩
theorem DropsR.at {l : List Drop} (h : DropsR w A l) (hn : 0 < l.length) : ∃ b o, A = some ⟨b, o, none⟩ ∧ ∀ w', Below w.heap.size w w' → ∀ j (hj : j < l.length),
    w'.cell? ⟨b, o + j * 3, none⟩ = some (.int .i64 l[j].k) ∧ w'.cell? ⟨b, o + j * 3 + 1, none⟩ = some (.string (bs l[j].w)) ∧ w'.cell? ⟨b, o + j * 3 + 2, none⟩ = some (.int .i64 l[j].c) := by
  obtain ⟨b, o, e, hc⟩ := Rst.at (R := dcells) (fun _ => rfl) (by omega) h hn
  exact ⟨b, o, e, fun w' hb j hj => ⟨hc w' hb j hj 0 _ rfl, hc w' hb j hj 1 _ rfl, hc w' hb j hj 2 _ rfl⟩⟩
theorem PtsR.at {l : List Pt} (h : PtsR w A l) (hn : 0 < l.length) : ∃ b o, A = some ⟨b, o, none⟩ ∧ ∀ w', Below w.heap.size w w' → ∀ j (hj : j < l.length),
    w'.cell? ⟨b, o + j * 5, none⟩ = some (.int .i64 l[j].i) ∧ w'.cell? ⟨b, o + j * 5 + 1, none⟩ = some (.int .i64 l[j].j) ∧ w'.cell? ⟨b, o + j * 5 + 2, none⟩ = some (.string (bs l[j].a)) ∧ w'.cell? ⟨b, o + j * 5 + 3, none⟩ = some (.bool l[j].r) ∧ w'.cell? ⟨b, o + j * 5 + 4, none⟩ = some (.int .i64 l[j].h) := by
  obtain ⟨b, o, e, hc⟩ := Rst.at (R := pcells) (fun _ => rfl) (by omega) h hn
  exact ⟨b, o, e, fun w' hb j hj => ⟨hc w' hb j hj 0 _ rfl, hc w' hb j hj 1 _ rfl, hc w' hb j hj 2 _ rfl, hc w' hb j hj 3 _ rfl, hc w' hb j hj 4 _ rfl⟩⟩
end
/-- Where the lists of a table lie, and how much room they have. -/
structure TA where
  A : Option Addr
  c : Nat
  D : Option Addr
  d : Nat
  E : Option Addr
  e : Nat
def tabC (T : Tab) (a : TA) : Array Value := #[.slice a.A T.rs.length a.c, .slice a.D T.ds.length a.d, .slice a.E T.es.length a.e, .int .i64 T.drop, .int .i64 T.ord, .int .i64 T.ini]
def tabV (T : Tab) (a : TA) : Value := .agg (tabC T a)
structure TabR (w : World) (T : Tab) (a : TA) : Prop where
  rs : RulesR w a.A T.rs
  ds : DropsR w a.D T.ds
  es : DropsR w a.E T.es
  lr : T.rs.length ≤ 1000000
  ld : T.ds.length ≤ 1000000
  le : T.es.length ≤ 1000000
  sr : ∀ R ∈ T.rs, R.f.length ≤ 1000000 ∧ R.t.length ≤ 1000000
  sd : ∀ d ∈ T.ds, d.w.length ≤ 1000000
  se : ∀ d ∈ T.es, d.w.length ≤ 1000000
theorem TabR.below {w w' : World} {T : Tab} {a : TA} (h : TabR w T a) (hb : Below w.heap.size w w') : TabR w' T a := { h with rs := h.rs.below hb, ds := h.ds.below hb, es := h.es.below hb }
end Go.Proofs.YtnppgomhhcbplaaGreatDoor

namespace Go.Proofs.YtnppgomhhcbplaaGreatDoor
open Go.RowKit Go.CH Go.CH.Scr Go.CH.Pot
open Go.ChangeMaps (setBlock)
/-- The letters of the folded form of a word. -/
def openN (k : Int) (l : Bs) : List Bs × Bool := if word k l then ((ltrs k (lower l)).1, true) else ([], false)
/-- An answer: letters, and whether it was a word. -/
def OpenB (w : World) (k : Int) (l : Bs) (e : Ending) (w' : World) : Prop :=
  ∃ A c, e = .returned (.tuple #[.slice A (openN k l).1.length c, .bool (openN k l).2]) ∧ Below w.heap.size w w' ∧ Vst w' A (openN k l).1 ∧ (openN k l).1.length ≤ c
/-- Letters' answer, with its room. -/
def LtrsD (w : World) (k : Int) (l : Bs) (e : Ending) (w' : World) : Prop :=
  ∃ A c, e = .returned (.tuple #[.slice A (lettersN k l).1.length c, .int .i64 (lettersN k l).2]) ∧ Below w.heap.size w w' ∧ Vst w' A (lettersN k l).1 ∧ (lettersN k l).1.length ≤ c
theorem Letters_d (k : Int) (s : ByteArray) (w : World) (hs : s.size ≤ 1000000) (hz : LZ w) : Calls Tryz.prog 43 #[.int .i64 k, .string s] w (LtrsD w k (bl s)) := by
  refine (Letters_any k s w hs hz).mono ?_
  rintro e w' ⟨A, c, rfl, F, h1, h2, h3⟩
  exact ⟨A, c, rfl, h2.below (fun _ _ h => h), vst_of h1, (row_cap h1.1).1⟩
theorem word_nil (k : Int) : ¬ word k [] = true := fun h => word_first h rfl
theorem pletters_any (k : Int) (s : ByteArray) (w : World) (hs : s.size ≤ 1000000) (hz : LZ w) : Calls Tryz.prog 45 #[.int .i64 k, .string s] w (OpenB w k (bl s)) := by
  have KF := hide (fold_any k s w hs hz)
  have HZ := hide hz
  clear hz
  by_cases hw : word k (bl s) = true
  · have e1 : foldN k (bl s) = (lower (bl s), 0) := by unfold foldN; rw [if_pos hw]
    have e2 : lettersN k (lower (bl s)) = ((ltrs k (lower (bl s))).1, 0) := by unfold lettersN; rw [if_pos (fold_word hw)]
    have e3 : openN k (bl s) = ((ltrs k (lower (bl s))).1, true) := by unfold openN; rw [if_pos hw]
    have KL := hide (fun W (hz : LZ W) => Letters_d k (bs (lower (bl s))) W (by rw [bs_size]; unfold lower; rw [List.length_map, bl_len]; exact hs) hz)
    simp only [bl_bs] at KL
    unfold LtrsD at KL
    simp only [e2] at KL
    unfold BelowRet at KF
    simp only [e1] at KF
    unfold OpenB
    rw [e3]
    clear e1 e2 e3 hw
    go_enter Tryz.func45, Tryz.ntmps45
    go_wp2_with fail
    refine KF.out.mono ?_
    rintro e9 w1 ⟨rfl, hb⟩
    have HB := hide hb
    have KL2 := hide (KL.out w1 (HZ.out.below hb))
    clear KF KL hb
    dsimp only
    go_wp2_with fail
    refine KL2.out.mono ?_
    rintro e9 w2 ⟨A, c, rfl, hb, hA, hc⟩
    have HB2 := hide (bel_trans HB.out hb)
    have HA := hide hA
    have HC := hide hc
    clear KL2 HB hb hA hc
    dsimp only
    go_wp2
    refine bodyPost_ret (results_tmp2 rfl _ _ _) rfl ?_
    exact ⟨A, c, rfl, HB2.out, HA.out, HC.out⟩
  · have e1 : foldN k (bl s) = ([], 1) := by unfold foldN; rw [if_neg hw]
    have e2 : lettersN k [] = ([], 1) := by unfold lettersN; rw [if_neg (word_nil k)]
    have e3 : openN k (bl s) = ([], false) := by unfold openN; rw [if_neg hw]
    have KL := hide (fun W (hz : LZ W) => Letters_d k (bs []) W (by rw [bs_size]; exact Nat.zero_le _) hz)
    simp only [bl_bs] at KL
    unfold LtrsD at KL
    simp only [e2] at KL
    unfold BelowRet at KF
    simp only [e1] at KF
    unfold OpenB
    rw [e3]
    clear e1 e2 e3 hw
    go_enter Tryz.func45, Tryz.ntmps45
    go_wp2_with fail
    refine KF.out.mono ?_
    rintro e9 w1 ⟨rfl, hb⟩
    have HB := hide hb
    have KL2 := hide (KL.out w1 (HZ.out.below hb))
    clear KF KL hb
    dsimp only
    go_wp2_with fail
    refine KL2.out.mono ?_
    rintro e9 w2 ⟨A, c, rfl, hb, hA, hc⟩
    have HB2 := hide (bel_trans HB.out hb)
    have HA := hide hA
    have HC := hide hc
    clear KL2 HB hb hA hc
    dsimp only
    go_wp2
    refine bodyPost_ret (results_tmp2 rfl _ _ _) rfl ?_
    exact ⟨A, c, rfl, HB2.out, HA.out, HC.out⟩
/-! ### takes -/
theorem tk_step {l : List Bs} {t p : Bs} {n : Nat} (hn : n < l.length) (h0 : p ≠ []) (hp : l[n].isPrefixOf p = true) (h : tk l t = (tk (l.drop n) p).map (n + ·)) :
    tk l t = (tk (l.drop (n + 1)) (p.drop l[n].length)).map (n + 1 + ·) := by
  rw [h, List.drop_eq_getElem_cons hn]
  cases p with
  | nil => exact absurd rfl h0
  | cons c p =>
    conv => lhs; unfold tk
    rw [if_pos hp, Option.map_map]
    congr 1
    funext x
    show n + (x + 1) = n + 1 + x
    omega
theorem tk_stop {l : List Bs} {t p : Bs} {n : Nat} (h0 : p ≠ []) (hp : ∀ hn : n < l.length, l[n].isPrefixOf p = false) (h : tk l t = (tk (l.drop n) p).map (n + ·)) : takes l t = 0 := by
  unfold takes
  rw [h]
  cases p with
  | nil => exact absurd rfl h0
  | cons c p =>
    by_cases hn : n < l.length
    · rw [List.drop_eq_getElem_cons hn]
      unfold tk
      rw [if_neg (by rw [hp hn]; decide)]; rfl
    · rw [List.drop_eq_nil_of_le (by omega)]; rfl
theorem tk_done {l : List Bs} {t : Bs} {n : Nat} (h : tk l t = (tk (l.drop n) []).map (n + ·)) : takes l t = n := by
  unfold takes
  rw [h, tk_nil]; rfl
theorem pre_cut {x p : Bs} (h : x.isPrefixOf p = true) : x.length ≤ p.length := by
  obtain ⟨r, rfl⟩ := pre_iff.1 h
  rw [List.length_append]; omega
set_option maxHeartbeats 1600000 in
theorem takes_any {w : World} {A : Option Addr} {c : Nat} {l : List Bs} {t : Bs} (hA : Vst w A l) (hl : l.length ≤ 1000000) (ht : t.length ≤ 1000000) (hw : ∀ x ∈ l, x.length ≤ 1000000) :
    Calls Tryz.prog 61 #[.slice A l.length c, .string (bs t)] w (BelowRet w (.int .i64 (takes l t : Nat))) := by
  have HA := hide hA
  have HW := hide hw
  have KP := hide (fun (a b : ByteArray) (W : World) => Tryz.strings_HasPrefix a b W)
  obtain ⟨N, hN⟩ : ∃ N, N = l.length := ⟨_, rfl⟩
  have HN := hide hN
  rw [← hN] at hl ⊢
  clear hA hw hN
  go_enter Tryz.func61, Tryz.ntmps61
  go_wp2
  go_loopw [5, 6] (fun i s wr => ∃ (k : Nat) (p : Bs), k ≤ N ∧ i = .int .i64 k ∧ s = .string (bs p) ∧ p.length ≤ t.length ∧ tk l t = (tk (l.drop k) p).map (k + ·) ∧ Below w.heap.size w wr) (fun i _ _ => N - (intOf i).toNat)
  case atStart => exact ⟨0, t, Nat.zero_le _, rfl, rfl, Nat.le_refl _, by simp, Below.refl _ _⟩
  case round =>
    obtain ⟨k, p, hk, rfl, rfl, hpl, htk, hb⟩ := hrel
    have HT := hide htk
    have HB := hide hb
    clear htk hb
    by_cases h0 : p = []
    · subst h0
      have HF := hide (tk_done HT.out)
      have hne : (bs ([] : Bs)).toList.isEmpty = true := by rw [List.isEmpty_iff]; exact bs_empty.2 rfl
      generalize bs ([] : Bs) = z at *
      by_cases hlt : k < N
      · go_wp2
        go_ret
        exact ⟨by rw [HF.out]; rfl, HB.out⟩
      · go_wp2
        go_ret
        exact ⟨by rw [HF.out]; rfl, HB.out⟩
    · have hne : (bs p).toList.isEmpty = false := by rw [List.isEmpty_eq_false_iff]; exact fun h => h0 (bs_empty.1 h)
      by_cases hlt : k < N
      · have hkn : k < l.length := by rw [← HN.out]; exact hlt
        obtain ⟨b, o, rfl, hc⟩ := HA.out.at (by omega)
        have ck := hc _ HB.out k hkn
        have KQ := hide (KP.out (bs p) (bs l[k]) wr)
        have HST := hide (fun hp => tk_step (t := t) hkn h0 hp HT.out)
        have HNO := hide (fun h : l[k].isPrefixOf p = false => tk_stop h0 (fun _ => h) HT.out)
        have hxl := HW.out _ (List.getElem_mem hkn)
        by_cases hp : l[k].isPrefixOf p = true
        · have e1 : Lib.hasPrefix (bs p).data.toList (bs l[k]).data.toList = true := hp
          have HS := hide (HST.out hp)
          have hple := pre_cut hp
          have HD := hide (show bs (p.drop l[k].length) = (bs p).extract l[k].length p.length from by rw [bs_drop, bs_size])
          have hdl : (p.drop l[k].length).length ≤ t.length := by rw [List.length_drop]; omega
          have hsz : (bs l[k]).size = l[k].length := bs_size _
          have hsz2 : (bs p).size = p.length := bs_size _
          rw [e1] at KQ
          clear e1 HST HNO hp
          have hlen : (l[k].length : Int) ≤ (p.length : Int) := by omega
          generalize l[k] = x at *
          go_wp2_with fail
          refine KQ.out.mono ?_
          rintro e9 w9 ⟨rfl, rfl⟩
          clear KQ
          dsimp only
          rw [← hsz, ← hsz2] at hple hlen
          go_wp2
          go_roundw
          case rel => exact ⟨k + 1, p.drop x.length, by omega, by go_num, by rw [HD.out], hdl, HS.out, HB.out⟩
          case measure => simp [intOf]; omega
        · have e1 : Lib.hasPrefix (bs p).data.toList (bs l[k]).data.toList = false := Bool.eq_false_iff.2 hp
          have HF := hide (HNO.out (Bool.eq_false_iff.2 hp))
          rw [e1] at KQ
          clear e1 HST HNO hp
          generalize l[k] = x at *
          go_wp2_with fail
          refine KQ.out.mono ?_
          rintro e9 w9 ⟨rfl, rfl⟩
          clear KQ
          dsimp only
          go_wp2
          go_ret
          exact ⟨by rw [HF.out]; rfl, HB.out⟩
      · have HF := hide (tk_stop h0 (fun hn => absurd hn (by rw [← HN.out]; exact hlt)) HT.out)
        go_wp2
        go_ret
        exact ⟨by rw [HF.out]; rfl, HB.out⟩
end Go.Proofs.YtnppgomhhcbplaaGreatDoor
namespace Go.Proofs.YtnppgomhhcbplaaGreatDoor
open Go.RowKit Go.CH Go.CH.Scr Go.CH.Pot
open Go.ChangeMaps (setBlock)
/-- Where the lists of a pair lie, and how much room they have. -/
structure PA where
  A : Option Addr
  c : Nat
  L : Option Addr
  lc : Nat
  M : Option Addr
  mc : Nat
def stC (s : St) : Array Value := #[.int .i64 s.i, .int .i64 s.j, .string (bs s.a), .bool s.r]
def pairC (W : Wd) (a : PA) : Array Value := #[.slice a.A W.rs.length a.c, .int .i64 W.ka, .int .i64 W.kb, .slice a.L W.l.length a.lc, .slice a.M W.m.length a.mc, .int .i64 W.l.length, .int .i64 W.m.length, .string (bs []), .bool false]
/-- The lists of a pair in memory. -/
structure PairR (W : Wd) (a : PA) (w : World) : Prop where
  rs : RulesR w a.A W.rs
  l : Vst w a.L W.l
  m : Vst w a.M W.m
/-- A pair is of a size that is allowed. -/
structure WdSmall (W : Wd) (a : PA) : Prop where
  rs : W.rs.length ≤ 1000000
  l : W.l.length ≤ 1000000
  m : W.m.length ≤ 1000000
  lc : W.l.length ≤ a.lc
  mc : W.m.length ≤ a.mc
  ll : ∀ x ∈ W.l, x.length ≤ 1000000
  ml : ∀ x ∈ W.m, x.length ≤ 1000000
  rl : ∀ R ∈ W.rs, R.f.length ≤ 1000000 ∧ R.t.length ≤ 1000000
theorem PairR.below {W : Wd} {a : PA} {w w' : World} (h : PairR W a w) (hb : Below w.heap.size w w') : PairR W a w' := ⟨h.rs.below hb, h.l.below hb, h.m.below hb⟩
/-- The iterator's boxes. -/
def Zm (W : Wd) (a : PA) (s : St) (b1 b2 : Nat) : CH.Own := star (CellO b1 (stC s) 62) (CellO b2 (pairC W a) 64)
theorem Zm_ok {W : Wd} {a : PA} {s : St} {b1 b2 : Nat} : (Zm W a s b1 b2).Ok := star_ok cell_ok cell_ok
def encM (x : Int × St) : Array Value := #[.int .i64 x.1, .agg (stC x.2)]
theorem Zm_cells {W : Wd} {a : PA} {s : St} {b1 b2 : Nat} {F0 : Nat → Prop} {w0 w : World} {X : CH.Own} (h : Run F0 w0 (star (Zm W a s b1 b2) X) w) :
    (w.cell? ⟨b1, 0, none⟩ = some (.int .i64 s.i) ∧ w.cell? ⟨b1, 1, none⟩ = some (.int .i64 s.j) ∧ w.cell? ⟨b1, 2, none⟩ = some (.string (bs s.a)) ∧ w.cell? ⟨b1, 3, none⟩ = some (.bool s.r)) ∧
    (w.cell? ⟨b2, 0, none⟩ = some (.slice a.A W.rs.length a.c) ∧ w.cell? ⟨b2, 1, none⟩ = some (.int .i64 W.ka) ∧ w.cell? ⟨b2, 2, none⟩ = some (.int .i64 W.kb) ∧ w.cell? ⟨b2, 3, none⟩ = some (.slice a.L W.l.length a.lc) ∧ w.cell? ⟨b2, 4, none⟩ = some (.slice a.M W.m.length a.mc)) := by
  obtain ⟨F, hF⟩ := (h.assoc).fst
  obtain ⟨F2, hF2⟩ := (h.assoc.rot).fst
  exact ⟨⟨cell_at hF rfl, cell_at hF rfl, cell_at hF rfl, cell_at hF rfl⟩, cell_at hF2 rfl, cell_at hF2 rfl, cell_at hF2 rfl, cell_at hF2 rfl, cell_at hF2 rfl⟩
/-- The moves by the first rules. -/
def mvs (W : Wd) (s : St) (k : Nat) : List (Int × St) := (W.rs.take k).filterMap (W.mv s)
theorem mvs_all {W : Wd} {s : St} : mvs W s W.rs.length = W.moves s := by unfold mvs Wd.moves; rw [List.take_length]
theorem mvs_none {W : Wd} {s : St} {k : Nat} (hk : k < W.rs.length) (h : W.mv s W.rs[k] = none) : mvs W s (k + 1) = mvs W s k := by
  unfold mvs
  rw [List.take_succ_eq_append_getElem hk, List.filterMap_append]
  simp [h]
theorem mvs_some {W : Wd} {s : St} {k : Nat} (hk : k < W.rs.length) {x : Int × St} (h : W.mv s W.rs[k] = some x) : mvs W s (k + 1) = mvs W s k ++ [x] := by
  unfold mvs
  rw [List.take_succ_eq_append_getElem hk, List.filterMap_append]
  simp [h]
theorem mvs_at {W : Wd} {s : St} {k : Nat} (hk : k < W.rs.length) {x : Int × St} (h : W.mv s W.rs[k] = some x) : ∃ hi : (mvs W s k).length < (W.moves s).length, (W.moves s)[(mvs W s k).length] = x := by
  have e : W.moves s = mvs W s k ++ x :: (W.rs.drop (k + 1)).filterMap (W.mv s) := by
    unfold Wd.moves mvs
    conv => lhs; rw [← List.take_append_drop k W.rs, List.drop_eq_getElem_cons hk, List.filterMap_append, List.filterMap_cons_some h]
  refine ⟨by rw [e]; simp, ?_⟩
  simp only [e]
  rw [List.getElem_append_right (Nat.le_refl _)]
  simp
theorem cutp_fst (a b : Bs) : (⟨(Lib.trimPrefix a b).toArray⟩ : ByteArray) = bs (if b.isPrefixOf a then a.drop b.length else a) := by
  unfold Lib.trimPrefix Lib.hasPrefix bs; split <;> rfl
theorem cutp_any (a p : Bs) (w : World) : Calls Tryz.prog 62 #[.string (bs a), .string (bs p)] w (fun e w' => e = .returned (.tuple #[.string (bs (if p.isPrefixOf a then a.drop p.length else a)), .bool (p.isPrefixOf a)]) ∧ w' = w) := by
  refine (Tryz.strings_CutPrefix (bs a) (bs p) w).mono ?_
  rintro e w' ⟨rfl, rfl⟩
  exact ⟨by rw [← cutp_fst]; rfl, rfl⟩
section
variable {W : Wd} {s : St} {R : Rule}
theorem mv_noUse (h : W.used s R = 0) : W.mv s R = none := by unfold Wd.mv; rw [if_pos h]
theorem mv_noAh (h : W.ah s R.t = none) : W.mv s R = none := by
  unfold Wd.mv; rw [h]; split <;> rfl
theorem mv_yes {n : Nat} {x : Bs × Bool} (hn : W.used s R = n) (h0 : n ≠ 0) (h : W.ah s R.t = some x) : W.mv s R = some (R.c, if W.left s then ⟨s.i + n, s.j, x.1, x.2⟩ else ⟨s.i, s.j + n, x.1, x.2⟩) := by
  unfold Wd.mv; rw [hn, if_neg h0, h]; rfl
theorem use_l (hl : W.left s = true) : W.used s R = if R.k = W.ka then takes (W.l.drop s.i) R.f else 0 := by unfold Wd.used; rw [if_pos hl]
theorem use_r (hl : W.left s = false) : W.used s R = if R.k = W.kb then takes (W.m.drop s.j) R.f else 0 := by unfold Wd.used; rw [if_neg (by rw [hl]; decide)]
theorem ah_1 {q : Bs} (h1 : q.isPrefixOf s.a = true) (h2 : s.a.drop q.length ≠ []) : W.ah s q = some (s.a.drop q.length, s.r) := by unfold Wd.ah; rw [if_pos ⟨h1, h2⟩]
theorem ah_2 {q : Bs} (h1 : ¬ (q.isPrefixOf s.a = true ∧ s.a.drop q.length ≠ [])) (h2 : s.a.isPrefixOf q = true) : W.ah s q = some (q.drop s.a.length, !W.left s && decide (q.drop s.a.length ≠ [])) := by unfold Wd.ah; rw [if_neg h1, if_pos h2]
theorem ah_3 {q : Bs} (h1 : ¬ (q.isPrefixOf s.a = true ∧ s.a.drop q.length ≠ [])) (h2 : ¬ s.a.isPrefixOf q = true) : W.ah s q = none := by unfold Wd.ah; rw [if_neg h1, if_neg h2]
end
section
variable {F0 : Nat → Prop} {w0 w : World} {O X : CH.Own} {g : Nat} {cs : Array Value} {t : TypeId}
/-- A cell of the first part is written. -/
theorem run_setc (h : Run F0 w0 (star (CellO g cs t) X) w) (hX : X.Ok) (i : Nat) (v : Value) : Run F0 w0 (star (CellO g (cs.setIfInBounds i v) t) X) (w.setCell ⟨g, i, none⟩ v) := by
  obtain ⟨F, hF, -, bk⟩ := h.take cell_ok hX
  exact bk _ _ (cell_set hF i v)
theorem run_c4 {a b c d : Value} (h : Run F0 w0 (star (CellO g #[a, b, c, d] t) X) w) : w.cell? ⟨g, 0, none⟩ = some a ∧ w.cell? ⟨g, 1, none⟩ = some b ∧ w.cell? ⟨g, 2, none⟩ = some c ∧ w.cell? ⟨g, 3, none⟩ = some d ∧ ∀ i, w.frozen? ⟨g, i, none⟩ = false := by
  obtain ⟨F, hF⟩ := h.fst
  exact ⟨cell_at hF rfl, cell_at hF rfl, cell_at hF rfl, cell_at hF rfl, fun i => cell_free hF i⟩
theorem run_new (h : Run F0 w0 O w) (ho : O.Ok) (cs : Array Value) (t : TypeId) : Run F0 w0 (star (CellO w.heap.size cs t) O) (w.alloc (.cells cs t)) := h.fresh ho (cell_new w cs t)
end
theorem vst_cut {w : World} {A : Option Addr} {c k : Nat} {l : List Bs} (h : Vst w A l) (hk : k ≤ l.length) (hc : l.length ≤ c) : Vst w (cutA A c k 1) (l.drop k) := by
  have h1 := Src.cut h hk hc
  unfold Vst
  have e : strB (l.drop k) = (strB l).drop (k * 1) := by unfold strB; rw [Nat.mul_one, List.map_drop]
  rw [List.length_drop, e]; exact h1
theorem takes_cut {w : World} {A : Option Addr} {c k : Nat} {l : List Bs} {t : Bs} (h : Vst w A l) (hk : k ≤ l.length) (hc : l.length ≤ c) (hl : l.length ≤ 1000000) (ht : t.length ≤ 1000000) (hw : ∀ x ∈ l, x.length ≤ 1000000) :
    Calls Tryz.prog 61 #[.slice (cutA A c k 1) (l.length - k) (c - k), .string (bs t)] w (BelowRet w (.int .i64 (takes (l.drop k) t : Nat))) := by
  have h1 := takes_any (c := c - k) (vst_cut h hk hc) (by rw [List.length_drop]; omega) ht (fun x hx => hw x (List.mem_of_mem_drop hx))
  rw [List.length_drop] at h1; exact h1
def rB (g : Nat) (R : Rule) : CH.Own := CellO g #[.int .i64 R.k, .string (bs R.f), .string (bs R.t), .int .i64 R.c] 41
theorem rB_ok {g : Nat} {R : Rule} : (rB g R).Ok := cell_ok
end Go.Proofs.YtnppgomhhcbplaaGreatDoor
