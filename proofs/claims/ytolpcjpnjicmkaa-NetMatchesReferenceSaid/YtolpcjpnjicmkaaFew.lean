/-
  Net: slices of steps: Few, and what a step reads as.
-/
import Derived.Test.YtolpcjpnjicmkaaOrder
import Derived.Test.YtolpcjpnjicmkaaSep
set_option linter.unusedSimpArgs false
set_option linter.unusedVariables false
namespace Go.Proofs.Ytolpcjpnjicmkaa
open Go.RowKit Go.CH
open Go.ChangeMaps (setBlock)

def steps (l : List Step) : List Value := l.flatMap stepL
def fewB (l : List Step) : Bool := decide (l.length ≤ 150) && l.all (fun x => decide (x.text.size ≤ 100))
theorem steps_get {l : List Step} {k : Nat} (h : k < l.length) (j : Nat) (hj : j < 6) : (steps l)[k * 6 + j]? = (stepL l[k])[j]? := by
  induction l generalizing k with
  | nil => simp at h
  | cons x l ih =>
    show (stepL x ++ steps l)[k * 6 + j]? = _
    cases k with
    | zero => rw [List.getElem?_append_left (by simp [stepL]; omega)]; simp
    | succ k =>
      rw [List.getElem?_append_right (by simp [stepL]; omega), show (k + 1) * 6 + j - (stepL x).length = k * 6 + j by simp [stepL]; omega, ih (by simpa using h)]
      simp
/-- The cells of one step. -/
structure StepAt (w : World) (b o : Nat) (x : Step) : Prop where
  c0 : w.cell? ⟨b, o, none⟩ = some (.int .i64 x.kind)
  c1 : w.cell? ⟨b, o + 1, none⟩ = some (.int .i64 x.a)
  c2 : w.cell? ⟨b, o + 2, none⟩ = some (.int .i64 x.b)
  c3 : w.cell? ⟨b, o + 3, none⟩ = some (.string x.text)
  c4 : w.cell? ⟨b, o + 4, none⟩ = some (.bool x.lost)
  c5 : w.cell? ⟨b, o + 5, none⟩ = some (.bool x.again)
theorem stepAt {w : World} {b o : Nat} {l : List Step} (hc : ∀ j u, (steps l)[j]? = some u → w.cell? ⟨b, o + j, none⟩ = some u) {k : Nat} (hk : k < l.length) : StepAt w b (o + k * 6) l[k] := by
  have h1 : ∀ j (hj : j < 6) u, (stepL l[k])[j]? = some u → w.cell? ⟨b, o + k * 6 + j, none⟩ = some u := fun j hj u hu => by
    have := hc _ _ ((steps_get hk j hj).trans hu); rwa [← Nat.add_assoc] at this
  exact ⟨h1 0 (by omega) _ rfl, h1 1 (by omega) _ rfl, h1 2 (by omega) _ rfl, h1 3 (by omega) _ rfl, h1 4 (by omega) _ rfl, h1 5 (by omega) _ rfl⟩

set_option maxHeartbeats 800000 in
theorem few_much (A : Option Addr) (n c : Nat) (w : World) (h : 150 < n) : Calls Try.prog 25 #[.slice A n c] w (BelowRet w (.bool false)) := by
  have hd : decide ((n : Int) ≤ 150) = false := by simp; omega
  go_enter Try.func25, Try.ntmps25
  go_wp2
  go_loopw [3] (fun i wr => i = .int .i64 0 ∧ wr = w) (fun i _ => 0)
  case atStart => exact ⟨rfl, rfl⟩
  case round =>
    obtain ⟨rfl, rfl⟩ := hrel
    go_wp2
    go_ret
    exact ⟨rfl, Below.refl _ _⟩

set_option maxHeartbeats 800000 in
theorem few_loop (A : Option Addr) (c : Nat) (l : List Step) (w : World) (h : l.length ≤ 150) (hl : Src w A l.length 6 (steps l)) : Calls Try.prog 25 #[.slice A l.length c] w (BelowRet w (.bool (fewB l))) := by
  have HL := hide hl
  clear hl
  have hd : decide ((l.length : Int) ≤ 150) = true := by simp; omega
  go_enter Try.func25, Try.ntmps25
  go_wp2
  go_loopw [3] (fun i wr => ∃ k : Nat, k ≤ l.length ∧ i = .int .i64 k ∧ (∃ m, wr = w.drewN m) ∧ ∀ j (hj : j < l.length), j < k → l[j].text.size ≤ 100) (fun i _ => l.length - (intOf i).toNat)
  case atStart => exact ⟨0, by omega, rfl, ⟨0, rfl⟩, fun _ _ h => by omega⟩
  case round =>
    obtain ⟨k, hk, rfl, ⟨m, rfl⟩, ha⟩ := hrel
    have HA := hide ha; clear ha
    by_cases hlt : k < l.length
    · obtain ⟨b, o, rfl, hcl⟩ := HL.out.open_ (by omega) (by omega)
      have hS := stepAt hcl hlt
      clear hcl
      have h3 := hS.c3
      cases hb : decide (l[k].text.size ≤ 100) with
      | true =>
        have h1 : l[k].text.size ≤ 100 := by simpa using hb
        have HB := hide hb; clear hb
        go_wp2
        go_roundw
        case rel =>
          refine ⟨k + 1, hlt, by go_num, ⟨_, rfl⟩, fun j hj hjk => ?_⟩
          rcases Nat.lt_or_ge j k with h2 | h2
          · exact HA.out j hj h2
          · obtain rfl : j = k := by omega
            exact h1
        case measure => simp [intOf]; omega
      | false =>
        have h1 : 100 < l[k].text.size := by simpa using hb
        have HB := hide hb; clear hb
        have hf : Hid (fewB l = false) := by
          have h2 : l.all (fun x => decide (x.text.size ≤ 100)) = false := by
            rw [List.all_eq_false]
            exact ⟨l[k], List.getElem_mem _, by rw [HB.out]; simp⟩
          unfold fewB; rw [h2]; exact Bool.and_false _
        go_wp2
        go_ret
        exact ⟨by rw [hf.out]; rfl, drewN_below _ _⟩
    · have hf : Hid (fewB l = true) := by
        have h2 : l.all (fun x => decide (x.text.size ≤ 100)) = true := by
          rw [List.all_eq_true]
          intro x hx
          obtain ⟨j, hj, rfl⟩ := List.getElem_of_mem hx
          simpa using HA.out j hj (by omega)
        unfold fewB; rw [h2, Bool.and_true]; exact decide_eq_true h
      go_wp2
      go_ret
      exact ⟨by rw [hf.out]; rfl, drewN_below _ _⟩

theorem few_any (A : Option Addr) (n c : Nat) (l : List Step) (w : World) (hn : l.length = n) (hl : Src w A n 6 (steps l)) : Calls Try.prog 25 #[.slice A n c] w (BelowRet w (.bool (fewB l))) := by
  subst hn
  by_cases h : l.length ≤ 150
  · exact few_loop A c l w h hl
  · have := few_much A l.length c w (by omega)
    rwa [show fewB l = false from by simp [fewB]; omega]
set_option maxHeartbeats 400000 in
theorem few15_any (A : Option Addr) (n c : Nat) (l : List Step) (w : World) (hn : l.length = n) (hl : Src w A n 6 (steps l)) : Calls Try.prog 15 #[.slice A n c] w (BelowRet w (.bool (fewB l))) := by
  have H := hide (few_any A n c l w hn hl)
  clear hl hn
  go_enter Try.func15, Try.ntmps15
  go_wp2_with fail
  refine H.out.mono ?_
  rintro e w' ⟨rfl, hb⟩
  go_wp2
  go_ret
  exact ⟨rfl, hb⟩
end Go.Proofs.Ytolpcjpnjicmkaa
