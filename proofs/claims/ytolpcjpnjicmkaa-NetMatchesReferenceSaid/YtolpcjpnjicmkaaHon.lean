/-
  Net: the walk of NetHonest.
-/
import Derived.Test.YtolpcjpnjicmkaaNet9
set_option linter.unusedSimpArgs false
set_option linter.unusedVariables false
namespace Go.Proofs.Ytolpcjpnjicmkaa
open Go.RowKit Go.CH
open Go.ChangeMaps (setBlock)

def hit (x y : Step × Res) : Bool := decide (y.1.a = x.1.a) && decide (y.1.b = x.1.b)
def isSent (x y : Step × Res) : Bool := hit x y && decide (y.1.kind = 0) && decide (y.2.err = 0)
def isGot (x y : Step × Res) : Bool := hit x y && decide (y.1.kind = 1) && y.2.ok && !y.1.again
def isKnown (x y : Step × Res) : Bool := isSent x y && decide (y.1.text = x.2.text)
def sentC (x : Step × Res) (l : List (Step × Res)) : Nat := l.countP (isSent x)
def gotC (x : Step × Res) (l : List (Step × Res)) : Nat := l.countP (isGot x)
def knownC (x : Step × Res) (l : List (Step × Res)) : Bool := l.any (isKnown x)
theorem sentC_le (x : Step × Res) (l : List (Step × Res)) : sentC x l ≤ l.length := List.countP_le_length
theorem gotC_le (x : Step × Res) (l : List (Step × Res)) : gotC x l ≤ l.length := List.countP_le_length
/-- What one round of the inner loop adds. -/
theorem cnt_step {x y : Step × Res} {l : List (Step × Res)} {k : Nat} (hk : k < l.length) (hy : l[k] = y) {s g : Bool} (hs : isSent x y = s) (hg : isGot x y = g) {q : Bool} (hq : isKnown x y = q) :
    sentC x (l.take (k + 1)) = sentC x (l.take k) + (if s then 1 else 0) ∧ gotC x (l.take (k + 1)) = gotC x (l.take k) + (if g then 1 else 0) ∧ knownC x (l.take (k + 1)) = (knownC x (l.take k) || q) := by
  subst hy hs hg hq
  simp only [sentC, gotC, knownC, List.take_succ_eq_append_getElem hk, List.countP_append, List.any_append, List.countP_cons, List.countP_nil, List.any_cons, List.any_nil, Bool.or_false, Nat.zero_add]
  exact ⟨trivial, trivial, trivial⟩

/-- One round of the law: what was delivered was sent, and not more often. -/
def fair (x : Step × Res) (l : List (Step × Res)) : Prop := knownC x l = true ∧ gotC x l ≤ sentC x l

/-- What waits between two nodes was sent, and no more often than it was sent and not yet delivered. -/
def Inv (m : NetM) (es : List (Step × Res)) : Prop := ∀ x : Step × Res, (m.q (x.1.a, x.1.b)).length + gotC x es ≤ sentC x es ∧ ∀ t ∈ m.q (x.1.a, x.1.b), ∃ y ∈ es, isSent x y = true ∧ y.1.text = t
theorem turnK_q (m : NetM) (a b : Int) (c : Bool) (k : Int × Int) : (turnR m a b c).q k = m.q k ∨ (turnR m a b c).q k = [] := by
  unfold turnR
  split
  · cases c
    · exact .inl rfl
    · simp only [turnK, turn1, upd, if_true]
      by_cases h1 : k = (b, a) <;> by_cases h2 : k = (a, b) <;> simp [h1, h2]
  · exact .inl rfl
theorem sentC_snoc (x y : Step × Res) (es : List (Step × Res)) : sentC x (es ++ [y]) = sentC x es + (if isSent x y then 1 else 0) := by simp [sentC, List.countP_append, List.countP_cons]
theorem gotC_snoc (x y : Step × Res) (es : List (Step × Res)) : gotC x (es ++ [y]) = gotC x es + (if isGot x y then 1 else 0) := by simp [gotC, List.countP_append, List.countP_cons]
theorem Inv.of_less {m m' : NetM} {es : List (Step × Res)} (h : Inv m es) (y : Step × Res) (hg : ∀ x, isGot x y = false) (hq : ∀ k, m'.q k = m.q k ∨ m'.q k = []) : Inv m' (es ++ [y]) := by
  intro x
  obtain ⟨h1, h2⟩ := h x
  rw [sentC_snoc, gotC_snoc, hg x]
  rcases hq (x.1.a, x.1.b) with e | e <;> rw [e]
  · refine ⟨by simp; omega, fun t ht => ?_⟩
    obtain ⟨z, hz, h3, h4⟩ := h2 t ht
    exact ⟨z, by simp [hz], h3, h4⟩
  · exact ⟨by simp; omega, fun t ht => by simp at ht⟩
theorem Inv.step {m : NetM} {es : List (Step × Res)} (h : Inv m es) (s : Step) : Inv (doM m s) (es ++ [(s, doR m s)]) ∧ (s.kind = 1 → (doR m s).ok = true → fair (s, doR m s) (es ++ [(s, doR m s)])) := by
  by_cases h0 : s.kind = 0
  · refine ⟨?_, fun h1 => by omega⟩
    have hng : ∀ x, isGot x (s, doR m s) = false := fun x => by simp [isGot, h0]
    have eM : doM m s = sendR m s.a s.b s.text := by simp [doM, h0]
    have eR : (doR m s).err = sendE m s.a s.b s.text := by simp [doR, h0]
    by_cases he : sendE m s.a s.b s.text = 0
    · intro x
      obtain ⟨h1, h2⟩ := h x
      rw [sentC_snoc, gotC_snoc, hng x, eM]
      have e2 : sendR m s.a s.b s.text = sendM m s.a s.b s.text := by unfold sendR; rw [if_pos he]
      rw [e2]
      simp only [sendM, upd]
      by_cases hx : (x.1.a, x.1.b) = (s.a, s.b)
      · have hx' := hx
        rw [Prod.mk.injEq] at hx'
        have hs : isSent x (s, doR m s) = true := by simp [isSent, hit, h0, eR, he, hx'.1, hx'.2]
        rw [if_pos hx, hs]
        rw [← hx]
        refine ⟨by simp; omega, fun t ht => ?_⟩
        rw [List.mem_append] at ht
        rcases ht with ht | ht
        · obtain ⟨z, hz, h3, h4⟩ := h2 t ht
          exact ⟨z, by simp [hz], h3, h4⟩
        · simp at ht
          exact ⟨_, by simp, hs, ht.symm⟩
      · rw [if_neg hx]
        refine ⟨by simp; omega, fun t ht => ?_⟩
        obtain ⟨z, hz, h3, h4⟩ := h2 t ht
        exact ⟨z, by simp [hz], h3, h4⟩
    · refine h.of_less _ hng fun k => .inl ?_
      rw [eM]; unfold sendR; rw [if_neg he]
  by_cases h1 : s.kind = 1
  · have eM : doM m s = delM m s.a s.b s.lost s.again := by simp [doM, h1]
    have eR : (doR m s) = ⟨0, (delE m s.a s.b s.lost).1, (delE m s.a s.b s.lost).2⟩ := by simp [doR, h1]
    have hns : ∀ x, isSent x (s, doR m s) = false := fun x => by simp [isSent, h1]
    by_cases hk : knowsB m.nodes s.a s.b = true
    · cases hq : m.q (s.a, s.b) with
      | nil =>
        have e1 : delE m s.a s.b s.lost = (⟨#[]⟩, false) := by simp [delE, hk, hq]
        have e2 : delM m s.a s.b s.lost s.again = m := by simp [delM, hq]
        refine ⟨h.of_less _ (fun x => by simp [isGot, eR, e1]) (fun k => .inl (by rw [eM, e2])), fun _ ho => ?_⟩
        rw [eR, e1] at ho; cases ho
      | cons t q =>
        have hx := h (s, doR m s)
        simp only [hq, List.length_cons] at hx
        cases hl : s.lost with
        | true =>
          have e1 : delE m s.a s.b s.lost = (⟨#[]⟩, false) := by simp [delE, hk, hq, hl]
          refine ⟨fun x => ?_, fun _ ho => by rw [eR, e1] at ho; cases ho⟩
          obtain ⟨g1, g2⟩ := h x
          have hng : isGot x (s, doR m s) = false := by simp [isGot, eR, e1]
          rw [sentC_snoc, gotC_snoc, hng, hns x, eM]
          have e2 : delM m s.a s.b s.lost s.again = popM m s.a s.b := by simp [delM, hk, hq, hl]
          rw [e2]
          simp only [popM, upd]
          by_cases hxx : (x.1.a, x.1.b) = (s.a, s.b)
          · rw [if_pos hxx]; rw [hxx] at g1 g2
            refine ⟨by simp; omega, fun t ht => ?_⟩
            obtain ⟨z, hz, h3, h4⟩ := g2 t (List.mem_of_mem_tail ht)
            exact ⟨z, by simp [hz], h3, h4⟩
          · rw [if_neg hxx]
            refine ⟨by simp; omega, fun t ht => ?_⟩
            obtain ⟨z, hz, h3, h4⟩ := g2 t ht
            exact ⟨z, by simp [hz], h3, h4⟩
        | false =>
          have e1 : delE m s.a s.b s.lost = (t, true) := by simp [delE, hk, hq, hl]
          have hgot : ∀ x, isGot x (s, doR m s) = (hit x (s, doR m s) && !s.again) := fun x => by simp [isGot, eR, e1, h1]
          refine ⟨fun x => ?_, fun _ ho => ⟨?_, ?_⟩⟩
          · obtain ⟨g1, g2⟩ := h x
            rw [sentC_snoc, gotC_snoc, hns x, hgot x, eM]
            by_cases hxx : (x.1.a, x.1.b) = (s.a, s.b)
            · have hxx' := hxx
              rw [Prod.mk.injEq] at hxx'
              have hh : hit x (s, doR m s) = true := by simp [hit, hxx'.1, hxx'.2]
              rw [hh]
              cases ha : s.again with
              | true =>
                have e2 : delM m s.a s.b s.lost true = m := by simp [delM, hl]
                rw [e2]
                refine ⟨by simpa using g1, fun t ht => ?_⟩
                obtain ⟨z, hz, h3, h4⟩ := g2 t ht
                exact ⟨z, by simp [hz], h3, h4⟩
              | false =>
                have e2 : delM m s.a s.b s.lost false = popM m s.a s.b := by simp [delM, hk, hq]
                rw [e2]
                simp only [popM, upd]
                rw [if_pos hxx]; rw [hxx] at g1 g2
                rw [hq] at g1 g2 ⊢
                simp only [List.length_cons] at g1
                refine ⟨by simp; omega, fun t ht => ?_⟩
                obtain ⟨z, hz, h3, h4⟩ := g2 t (by simp at ht; simp [ht])
                exact ⟨z, by simp [hz], h3, h4⟩
            · have hh : hit x (s, doR m s) = false := by
                have : ¬ (s.a = x.1.a ∧ s.b = x.1.b) := fun e => hxx (by rw [e.1, e.2])
                simp only [hit, Bool.and_eq_false_iff, decide_eq_false_iff_not]
                by_cases e : s.a = x.1.a
                · exact .inr (fun e' => this ⟨e, e'⟩)
                · exact .inl e
              rw [hh]
              have e2 : (delM m s.a s.b s.lost s.again).q (x.1.a, x.1.b) = m.q (x.1.a, x.1.b) := by
                unfold delM; split
                · simp only [popM, upd]; rw [if_neg hxx]
                · rfl
              rw [e2]
              refine ⟨by simpa using g1, fun t ht => ?_⟩
              obtain ⟨z, hz, h3, h4⟩ := g2 t ht
              exact ⟨z, by simp [hz], h3, h4⟩
          · obtain ⟨z, hz, h3, h4⟩ := hx.2 t (by simp)
            unfold knownC
            rw [List.any_eq_true]
            exact ⟨z, by simp [hz], by unfold isKnown; rw [h3]; simp [h4, eR, e1]⟩
          · rw [sentC_snoc, gotC_snoc, hns]
            have : (if isGot (s, doR m s) (s, doR m s) = true then 1 else 0) ≤ 1 := by split <;> omega
            simp only [Bool.false_eq_true, if_false]
            omega
    · have e1 : delE m s.a s.b s.lost = (⟨#[]⟩, false) := by unfold delE; rw [if_neg hk]
      have e2 : delM m s.a s.b s.lost s.again = m := by unfold delM; rw [if_neg (fun h => hk h.1)]
      refine ⟨h.of_less _ (fun x => by simp [isGot, eR, e1]) (fun k => .inl (by rw [eM, e2])), fun _ ho => ?_⟩
      rw [eR, e1] at ho; cases ho
  · have hng : ∀ x, isGot x (s, doR m s) = false := fun x => by simp [isGot, h1]
    refine ⟨h.of_less _ hng fun k => ?_, fun h => (h1 h).elim⟩
    by_cases h2 : s.kind = 2
    · rw [show doM m s = turnR m s.a s.b true by simp [doM, h2]]; exact turnK_q _ _ _ _ _
    · rw [show doM m s = turnR m s.a s.b false by simp [doM, h0, h1, h2]]; exact turnK_q _ _ _ _ _
theorem inv_play (m : NetM) (h0 : ∀ k, m.q k = []) (l : List Step) : ∀ k, k ≤ l.length → Inv (stM m (l.take k)) (play m (l.take k)) := by
  intro k
  induction k with
  | zero => intro _ x; simp [stM, play, h0, gotC, sentC]
  | succ k ih =>
    intro hk
    rw [List.take_succ_eq_append_getElem (by omega), stM_snoc, play_snoc]
    exact ((ih (by omega)).step _).1
theorem fair_play (m : NetM) (h0 : ∀ k, m.q k = []) (l : List Step) (k : Nat) (hk : k < l.length) (h1 : l[k].kind = 1) (h2 : (doR (stM m (l.take k)) l[k]).ok = true) :
    fair (l[k], doR (stM m (l.take k)) l[k]) (play m (l.take (k + 1))) := by
  rw [List.take_succ_eq_append_getElem hk, play_snoc]
  exact ((inv_play m h0 l k (by omega)).step l[k]).2 h1 h2
end Go.Proofs.Ytolpcjpnjicmkaa
