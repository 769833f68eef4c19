/-
  Net: the plain law of NetLines.
-/
import Derived.Test.YtolpcjpnjicmkaaNet9
set_option linter.unusedSimpArgs false
set_option linter.unusedVariables false
namespace Go.Proofs.Ytolpcjpnjicmkaa
open Go.RowKit Go.CH
open Go.ChangeMaps (setBlock)

/-- Two networks that agree on the line between a and b. -/
structure Agree (a b : Int) (m n : NetM) : Prop where
  nodes : m.nodes = n.nodes
  q1 : m.q (a, b) = n.q (a, b)
  q2 : m.q (b, a) = n.q (b, a)
  c1 : m.c (a, b) = n.c (a, b)
  c2 : m.c (b, a) = n.c (b, a)
theorem Agree.refl (a b : Int) (m : NetM) : Agree a b m m := ⟨rfl, rfl, rfl, rfl, rfl⟩
theorem Agree.swap {a b : Int} {m n : NetM} (h : Agree a b m n) : Agree b a m n := ⟨h.nodes, h.q2, h.q1, h.c2, h.c1⟩
theorem Agree.trans {a b : Int} {m n o : NetM} (h : Agree a b m n) (g : Agree a b n o) : Agree a b m o :=
  ⟨h.nodes.trans g.nodes, h.q1.trans g.q1, h.q2.trans g.q2, h.c1.trans g.c1, h.c2.trans g.c2⟩
def Rel (a b : Int) (x : Step) : Prop := (x.a = a ∧ x.b = b) ∨ (x.a = b ∧ x.b = a)

theorem sendR_q (m : NetM) (a b : Int) (t : ByteArray) (k : Int × Int) : (sendR m a b t).q k = if sendE m a b t = 0 ∧ k = (a, b) then m.q k ++ [t] else m.q k := by
  unfold sendR
  by_cases h : sendE m a b t = 0
  · by_cases hk : k = (a, b)
    · subst hk; simp [h, sendM, upd]
    · simp [h, sendM, upd, hk]
  · simp [h]
theorem sendR_c (m : NetM) (a b : Int) (t : ByteArray) : (sendR m a b t).c = m.c := by unfold sendR; split <;> rfl
theorem sendR_n (m : NetM) (a b : Int) (t : ByteArray) : (sendR m a b t).nodes = m.nodes := by unfold sendR; split <;> rfl
theorem delM_q (m : NetM) (a b : Int) (l g : Bool) (k : Int × Int) : (delM m a b l g).q k = if knowsB m.nodes a b = true ∧ (l = true ∨ g = false) ∧ k = (a, b) then (m.q k).tail else m.q k := by
  unfold delM
  by_cases hk : k = (a, b)
  · subst hk
    by_cases h : knowsB m.nodes a b = true ∧ m.q (a, b) ≠ [] ∧ (l = true ∨ g = false)
    · rw [if_pos h, if_pos ⟨h.1, h.2.2, rfl⟩]; simp [popM, upd]
    · rw [if_neg h]
      split
      · rename_i h2
        have : m.q (a, b) = [] := by
          by_cases e : m.q (a, b) = []
          · exact e
          · exact (h ⟨h2.1, e, h2.2.1⟩).elim
        rw [this]; rfl
      · rfl
  · have hn : ¬ (knowsB m.nodes a b = true ∧ (l = true ∨ g = false) ∧ k = (a, b)) := fun h => hk h.2.2
    rw [if_neg hn]
    split
    · simp [popM, upd, hk]
    · rfl
theorem delM_c (m : NetM) (a b : Int) (l g : Bool) : (delM m a b l g).c = m.c := by unfold delM; split <;> rfl
theorem delM_n (m : NetM) (a b : Int) (l g : Bool) : (delM m a b l g).nodes = m.nodes := by unfold delM; split <;> rfl
theorem turnR_n (m : NetM) (a b : Int) (x : Bool) : (turnR m a b x).nodes = m.nodes := by unfold turnR; split <;> rfl
theorem turnR_c (m : NetM) (a b : Int) (x : Bool) (k : Int × Int) : (turnR m a b x).c k = if turnE m a b x = 0 ∧ (k = (a, b) ∨ k = (b, a)) then x else m.c k := by
  unfold turnR
  by_cases h : turnE m a b x = 0
  · by_cases h1 : k = (b, a) <;> by_cases h2 : k = (a, b) <;> simp [h, turnK, turn1, upd, h1, h2]
  · simp [h]
theorem turnR_q (m : NetM) (a b : Int) (x : Bool) (k : Int × Int) : (turnR m a b x).q k = if turnE m a b x = 0 ∧ x = true ∧ (k = (a, b) ∨ k = (b, a)) then [] else m.q k := by
  unfold turnR
  by_cases h : turnE m a b x = 0
  · cases x
    · simp [h, turnK, turn1]
    · by_cases h1 : k = (b, a) <;> by_cases h2 : k = (a, b) <;> simp [h, turnK, turn1, upd, h1, h2]
  · simp [h]

theorem agree_do1 {a b : Int} {m n : NetM} (h : Agree a b m n) {x : Step} (h1 : x.a = a) (h2 : x.b = b) : doR m x = doR n x ∧ Agree a b (doM m x) (doM n x) := by
  subst h1 h2
  obtain ⟨hn, q1, q2, c1, c2⟩ := h
  have e1 : sendE m x.a x.b x.text = sendE n x.a x.b x.text := by simp only [sendE, hn, q1, c1]
  have e2 : ∀ l, delE m x.a x.b l = delE n x.a x.b l := fun l => by simp only [delE, hn, q1]
  have e3 : ∀ y, turnE m x.a x.b y = turnE n x.a x.b y := fun y => by simp only [turnE, hn, c1]
  refine ⟨by simp only [doR, e1, e2, e3], ?_⟩
  unfold doM
  by_cases h0 : x.kind = 0
  · simp only [h0, if_true]
    refine ⟨by rw [sendR_n, sendR_n, hn], ?_, ?_, by rw [sendR_c, sendR_c, c1], by rw [sendR_c, sendR_c, c2]⟩ <;> rw [sendR_q, sendR_q, e1] <;> simp only [q1, q2]
  by_cases h1 : x.kind = 1
  · rw [if_neg h0, if_pos h1, if_neg h0, if_pos h1]
    refine ⟨by rw [delM_n, delM_n, hn], ?_, ?_, by rw [delM_c, delM_c, c1], by rw [delM_c, delM_c, c2]⟩ <;> rw [delM_q, delM_q, hn] <;> simp only [q1, q2]
  have key : ∀ y, Agree x.a x.b (turnR m x.a x.b y) (turnR n x.a x.b y) := fun y => by
    refine ⟨by rw [turnR_n, turnR_n, hn], ?_, ?_, ?_, ?_⟩
    · rw [turnR_q, turnR_q, e3, q1]
    · rw [turnR_q, turnR_q, e3, q2]
    · rw [turnR_c, turnR_c, e3, c1]
    · rw [turnR_c, turnR_c, e3, c2]
  by_cases h2 : x.kind = 2
  · rw [if_neg h0, if_neg h1, if_pos h2, if_neg h0, if_neg h1, if_pos h2]; exact key _
  · rw [if_neg h0, if_neg h1, if_neg h2, if_neg h0, if_neg h1, if_neg h2]; exact key _
theorem agree_do {a b : Int} {m n : NetM} (h : Agree a b m n) {x : Step} (hx : Rel a b x) : doR m x = doR n x ∧ Agree a b (doM m x) (doM n x) := by
  rcases hx with ⟨h1, h2⟩ | ⟨h1, h2⟩
  · exact agree_do1 h h1 h2
  · have := agree_do1 h.swap h1 h2
    exact ⟨this.1, this.2.swap⟩
theorem agree_self {a b : Int} {m : NetM} {x : Step} (hx : ¬ Rel a b x) : Agree a b (doM m x) m := by
  have k1 : (a, b) ≠ (x.a, x.b) := fun e => by rw [Prod.mk.injEq] at e; exact hx (.inl ⟨e.1.symm, e.2.symm⟩)
  have k2 : (b, a) ≠ (x.a, x.b) := fun e => by rw [Prod.mk.injEq] at e; exact hx (.inr ⟨e.1.symm, e.2.symm⟩)
  have k3 : (a, b) ≠ (x.b, x.a) := fun e => by rw [Prod.mk.injEq] at e; exact hx (.inr ⟨e.2.symm, e.1.symm⟩)
  have k4 : (b, a) ≠ (x.b, x.a) := fun e => by rw [Prod.mk.injEq] at e; exact hx (.inl ⟨e.2.symm, e.1.symm⟩)
  unfold doM
  by_cases h0 : x.kind = 0
  · rw [if_pos h0]
    exact ⟨sendR_n _ _ _ _, by rw [sendR_q, if_neg (fun h => k1 h.2)], by rw [sendR_q, if_neg (fun h => k2 h.2)], by rw [sendR_c], by rw [sendR_c]⟩
  by_cases h1 : x.kind = 1
  · rw [if_neg h0, if_pos h1]
    exact ⟨delM_n _ _ _ _ _, by rw [delM_q, if_neg (fun h => k1 h.2.2)], by rw [delM_q, if_neg (fun h => k2 h.2.2)], by rw [delM_c], by rw [delM_c]⟩
  have key : ∀ y, Agree a b (turnR m x.a x.b y) m := fun y =>
    ⟨turnR_n _ _ _ _, by rw [turnR_q, if_neg (fun h => h.2.2.elim k1 k3)], by rw [turnR_q, if_neg (fun h => h.2.2.elim k2 k4)], by rw [turnR_c, if_neg (fun h => h.2.elim k1 k3)], by rw [turnR_c, if_neg (fun h => h.2.elim k2 k4)]⟩
  by_cases h2 : x.kind = 2
  · rw [if_neg h0, if_neg h1, if_pos h2]; exact key _
  · rw [if_neg h0, if_neg h1, if_neg h2]; exact key _

/-- The line is cut. -/
structure CutOff (a b : Int) (m : NetM) : Prop where
  c1 : m.c (a, b) = true
  c2 : m.c (b, a) = true
  q1 : m.q (a, b) = []
  q2 : m.q (b, a) = []
theorem CutOff.swap {a b : Int} {m : NetM} (h : CutOff a b m) : CutOff b a m := ⟨h.c2, h.c1, h.q2, h.q1⟩
theorem CutOff.of_agree {a b : Int} {m n : NetM} (h : CutOff a b n) (g : Agree a b m n) : CutOff a b m := ⟨g.c1.trans h.c1, g.c2.trans h.c2, g.q1.trans h.q1, g.q2.trans h.q2⟩
def cutN (ct : Bool) (x : Step) (r : Res) : Prop := (ct = true ∧ (x.kind = 0 ∨ x.kind = 1 ∨ x.kind = 2 ∨ r.err ≠ 0)) ∨ (x.kind = 2 ∧ r.err = 0)
theorem cut_step1 {a b : Int} {m : NetM} {ct : Bool} (h : ct = true → CutOff a b m) {x : Step} (h1 : x.a = a) (h2 : x.b = b) (hc : cutN ct x (doR m x)) : CutOff a b (doM m x) := by
  subst h1 h2
  by_cases k2 : x.kind = 2
  · have e : (doR m x).err = turnE m x.a x.b true := by simp [doR, k2]
    have e2 : doM m x = turnR m x.a x.b true := by simp [doM, k2]
    by_cases h0 : turnE m x.a x.b true = 0
    · rw [e2]
      exact ⟨by rw [turnR_c, if_pos ⟨h0, .inl rfl⟩], by rw [turnR_c, if_pos ⟨h0, .inr rfl⟩], by rw [turnR_q, if_pos ⟨h0, rfl, .inl rfl⟩], by rw [turnR_q, if_pos ⟨h0, rfl, .inr rfl⟩]⟩
    · have hm : turnR m x.a x.b true = m := by unfold turnR; rw [if_neg h0]
      rw [e2, hm]
      rcases hc with ⟨hc, _⟩ | ⟨_, hc⟩
      · exact h hc
      · exact (h0 (e ▸ hc)).elim
  · rcases hc with ⟨hc, hk⟩ | ⟨hk, _⟩
    · have H := h hc
      rcases hk with hk | hk | hk | hk
      · have hs : sendE m x.a x.b x.text ≠ 0 := by
          unfold sendE
          rw [H.c1]
          split <;> simp
        have : doM m x = m := by simp [doM, hk, sendR, hs]
        rw [this]; exact H
      · have e2 : doM m x = delM m x.a x.b x.lost x.again := by simp [doM, hk]
        rw [e2]
        refine ⟨by rw [delM_c]; exact H.c1, by rw [delM_c]; exact H.c2, ?_, ?_⟩ <;> rw [delM_q] <;> split <;> simp [H.q1, H.q2]
      · exact (k2 hk).elim
      · by_cases k0 : x.kind = 0
        · have hs : sendE m x.a x.b x.text ≠ 0 := by
            unfold sendE
            rw [H.c1]
            split <;> simp
          have : doM m x = m := by simp [doM, k0, sendR, hs]
          rw [this]; exact H
        · by_cases k1 : x.kind = 1
          · simp [doR, k1] at hk
          · have e2 : doM m x = turnR m x.a x.b false := by simp [doM, k0, k1, k2]
            have e : (doR m x).err = turnE m x.a x.b false := by simp [doR, k0, k1, k2]
            rw [e] at hk
            have hm : turnR m x.a x.b false = m := by unfold turnR; rw [if_neg hk]
            rw [e2, hm]; exact H
    · exact (k2 hk).elim
theorem cut_step {a b : Int} {m : NetM} {ct : Bool} (h : ct = true → CutOff a b m) {x : Step} (hx : Rel a b x) (hc : cutN ct x (doR m x)) : CutOff a b (doM m x) := by
  rcases hx with ⟨h1, h2⟩ | ⟨h1, h2⟩
  · exact cut_step1 h h1 h2 hc
  · exact (cut_step1 (fun e => (h e).swap) h1 h2 hc).swap
theorem CutOff.wait {a b : Int} {m : NetM} (h : CutOff a b m) : waitM m a b = [] ∧ waitM m b a = [] := by
  unfold waitM; rw [h.q1, h.q2]; simp
theorem Agree.wait {a b : Int} {m n : NetM} (h : Agree a b m n) : waitM m a b = waitM n a b ∧ waitM m b a = waitM n b a := by
  unfold waitM; rw [h.q1, h.q2, h.nodes]; exact ⟨rfl, rfl⟩
end Go.Proofs.Ytolpcjpnjicmkaa
