/-
  Net: the functions that only look: IndexFunc, ContainsFunc, knows.
-/
import Derived.Test.YtolpcjpnjicmkaaRows
import Derived.Test.YtolpcjpnjicmkaaLib
import Derived.Deep.QuietTactic
import Derived.BigQuiet
set_option linter.unusedSimpArgs false
set_option linter.unusedVariables false
namespace Go.Proofs.Ytolpcjpnjicmkaa
open Go.RowKit Go.CH

def idxOf (p : Int → Bool) : List Int → Int → Int
  | [], _ => -1
  | x :: xs, i => if p x then i else idxOf p xs (i+1)

theorem idxOf_hit (p : Int → Bool) : ∀ (xs : List Int) (k : Nat) (i : Int) (hk : k < xs.length), (∀ j (h : j < xs.length), j < k → p xs[j] = false) → p xs[k] = true → idxOf p xs i = i + k
  | [], k, i, h, _, _ => by simp at h
  | x :: xs, 0, i, _, _, h => by simp [idxOf] at *; simp [h]
  | x :: xs, k+1, i, h, h0, h1 => by
    have hx := h0 0 (by simp) (by omega)
    simp only [List.getElem_cons_zero] at hx
    rw [idxOf, if_neg (by simp [hx]), idxOf_hit p xs k (i+1) (by simpa using h) (fun j hj hjk => h0 (j+1) (by simpa using hj) (by omega)) (by simpa using h1)]
    push_cast; omega
theorem idxOf_miss (p : Int → Bool) : ∀ (xs : List Int) (i : Int), (∀ j (h : j < xs.length), p xs[j] = false) → idxOf p xs i = -1
  | [], i, _ => rfl
  | x :: xs, i, h0 => by
    have hx := h0 0 (by simp)
    simp only [List.getElem_cons_zero] at hx
    rw [idxOf, if_neg (by simp [hx]), idxOf_miss p xs (i+1) (fun j hj => h0 (j+1) (by simpa using hj))]

set_option maxHeartbeats 400000 in
theorem indexFunc (xs : List Int) (p : Int → Bool) (b off cap g : Nat) (caps : Array Value) (w : World)
    (hcf : ∀ args W, (callFunc g args).run Try.prog W = .ok (.enter g args) W)
    (hlen : xs.length ≤ 9223372036854775807)
    (hx : ∀ i (h : i < xs.length), w.cell? ⟨b, off + i, none⟩ = some (.int .i64 xs[i]))
    (hf : ∀ i (h : i < xs.length), Calls Try.prog g (#[.int .i64 xs[i]] ++ caps) w (fun e w' => e = .returned (.bool (p xs[i])) ∧ w = w')) :
    Calls Try.prog 35 #[.slice (some ⟨b, off, none⟩) xs.length cap, .func (.func g) #[] caps] w fun e w' => e = .returned (.int .i64 (idxOf p xs 0)) ∧ w = w' := by
  have HF := hide hf; clear hf
  go_enter Try.func35, Try.ntmps35
  go_wp2
  go_loop [8] (fun i => ∃ k : Nat, k ≤ xs.length ∧ i = .int .i64 k ∧ ∀ j (h : j < xs.length), j < k → p xs[j] = false) (fun i => xs.length - (intOf i).toNat)
  case atStart => exact ⟨0, Nat.zero_le _, rfl, by omega⟩
  case round =>
    obtain ⟨k, hk, rfl, hno⟩ := hrel
    have HN := hide hno; clear hno
    by_cases hlt : k < xs.length
    · have hc := hx k hlt
      go_wp2_with fail
      refine (HF.out k hlt).mono ?_
      rintro e w' ⟨rfl, rfl⟩
      have HX := hide hx; clear hx
      cases hp : p xs[k]
      · have HP := hide hp; clear hp
        go_wp2
        go_round
        case rel => 
          refine ⟨k + 1, hlt, by go_num, fun j h hj => ?_⟩
          rcases Nat.lt_or_ge j k with h1 | h1
          · exact HN.out j h h1
          · obtain rfl : k = j := by omega
            exact HP.out
        case measure => simp [intOf]; omega
      · have HP := hide hp; clear hp
        go_wp2
        go_ret
        exact ⟨congrArg (fun z => Ending.returned (.int .i64 z)) ((idxOf_hit p xs k 0 hlt (fun j h hj => HN.out j h hj) HP.out).trans (by omega)).symm, rfl⟩
    · go_wp2
      go_ret
      exact ⟨congrArg (fun z => Ending.returned (.int .i64 z)) (idxOf_miss p xs 0 (fun j h => HN.out j h (by omega))).symm, rfl⟩

theorem idxOf_any (p : Int → Bool) : ∀ (xs : List Int) (i : Int), 0 ≤ i → decide (0 ≤ idxOf p xs i) = xs.any p
  | [], i, _ => by simp [idxOf]
  | x :: xs, i, hi => by
    unfold idxOf
    by_cases h : p x = true
    · simp [h, hi]
    · simp only [h, if_false, List.any_cons, Bool.false_or]
      have := idxOf_any p xs (i+1) (by omega)
      simpa [h] using this

set_option maxHeartbeats 400000 in
theorem containsFunc (xs : List Int) (p : Int → Bool) (b off cap g : Nat) (caps : Array Value) (w : World)
    (hcf : ∀ args W, (callFunc g args).run Try.prog W = .ok (.enter g args) W)
    (hlen : xs.length ≤ 9223372036854775807)
    (hx : ∀ i (h : i < xs.length), w.cell? ⟨b, off + i, none⟩ = some (.int .i64 xs[i]))
    (hf : ∀ i (h : i < xs.length), Calls Try.prog g (#[.int .i64 xs[i]] ++ caps) w (fun e w' => e = .returned (.bool (p xs[i])) ∧ w = w')) :
    Calls Try.prog 32 #[.slice (some ⟨b, off, none⟩) xs.length cap, .func (.func g) #[] caps] w fun e w' => e = .returned (.bool (xs.any p)) ∧ w = w' := by
  have H := hide (indexFunc xs p b off cap g caps w hcf hlen hx hf)
  have HA := hide (idxOf_any p xs 0 (Int.le_refl _))
  clear hx hf hcf
  generalize idxOf p xs 0 = r at H HA
  go_enter Try.func32, Try.ntmps32
  go_wp2_with (go_at_call 35; refine H.out.mono ?_; rintro e w' ⟨rfl, rfl⟩)
  go_ret
  exact ⟨congrArg (fun z => Ending.returned (.bool z)) HA.out, rfl⟩

set_option maxHeartbeats 400000 in
theorem knows1 (k nodes : Int) (a b : Nat) (w : World) (h1 : w.cell? ⟨b, 0, none⟩ = some (.pointer (some ⟨a, 0, none⟩))) (h2 : w.cell? ⟨a, 0, none⟩ = some (.int .i64 nodes)) :
    Calls Try.prog 33 #[.int .i64 k, .pointer (some ⟨b, 0, none⟩)] w fun e w' => e = .returned (.bool (decide (k < 0) || decide (nodes ≤ k))) ∧ w = w' := by
  by_cases hk : k < 0
  · go_enter Try.func33, Try.ntmps33
    go_wp2
    go_ret
    exact ⟨by simp [hk], rfl⟩
  · go_enter Try.func33, Try.ntmps33
    go_wp2
    go_ret
    exact ⟨by simp; intro h; omega, rfl⟩

def out1 (nodes k : Int) : Bool := decide (k < 0) || decide (nodes ≤ k)
def knowsB (nodes a b : Int) : Bool := !(a == b) && !(out1 nodes a || out1 nodes b)

set_option maxHeartbeats 400000 in
theorem knows_nil (a b : Int) (w : World) :
    Calls Try.prog 22 #[.pointer none, .agg #[.int .i64 a, .int .i64 b]] w fun e w' => e = .returned (.bool false) ∧ Below w.heap.size w w' := by
  go_enter Try.func22, Try.ntmps22
  go_wp2
  go_ret
  exact ⟨rfl, ((Below.refl _ _).alloc (Nat.le_refl _) _).alloc (by simp) _⟩
set_option maxHeartbeats 400000 in
theorem knows_same (p : Nat) (a : Int) (w : World) :
    Calls Try.prog 22 #[.pointer (some ⟨p, 0, none⟩), .agg #[.int .i64 a, .int .i64 a]] w fun e w' => e = .returned (.bool false) ∧ Below w.heap.size w w' := by
  have he := fun (a b c d : Int) (w : World) => run_eql_pair (P := Try.prog) Try.underlying58 Try.underlying3 (by kernel_rfl) a b c d w
  go_enter Try.func22, Try.ntmps22
  go_wp2
  go_ret
  exact ⟨rfl, ((Below.refl _ _).alloc (Nat.le_refl _) _).alloc (by simp) _⟩
set_option maxHeartbeats 400000 in
theorem knows_ne (p : Nat) (a b nodes : Int) (w : World) (hne : a ≠ b) (hc : w.cell? ⟨p, 0, none⟩ = some (.int .i64 nodes)) :
    Calls Try.prog 22 #[.pointer (some ⟨p, 0, none⟩), .agg #[.int .i64 a, .int .i64 b]] w fun e w' => e = .returned (.bool (!out1 nodes a && !out1 nodes b)) ∧ Below w.heap.size w w' := by
  have he := fun (a b c d : Int) (w : World) => run_eql_pair (P := Try.prog) Try.underlying58 Try.underlying3 (by kernel_rfl) a b c d w
  have hb : (a == b) = false := by simpa using hne
  have hp : p < w.heap.size := World.block_lt_of_cell? w _ hc
  have hC := hide (containsFunc [a, b] (out1 nodes) (w.heap.size + 1) 0 2 33 #[.pointer (some ⟨w.heap.size, 0, none⟩)]
    ((w.alloc (Obj.cells #[Value.pointer (some { block := p, off := 0 })] 25)).alloc (Obj.cells #[Value.int IntKind.i64 a, Value.int IntKind.i64 b] 58))
    (fun args W => by kernel_rfl) (by simp)
    (fun i h => by match i, h with
      | 0, _ => go_simp
      | 1, _ => go_simp)
    (fun i h => knows1 _ nodes p w.heap.size _ (by go_simp) (by go_simp)))
  have hB : Below w.heap.size w ((w.alloc (Obj.cells #[Value.pointer (some { block := p, off := 0 })] 25)).alloc (Obj.cells #[Value.int IntKind.i64 a, Value.int IntKind.i64 b] 58)) :=
    ((Below.refl _ _).alloc (Nat.le_refl _) _).alloc (by simp) _
  go_enter Try.func22, Try.ntmps22
  go_wp2_with (go_at_call 32; refine hC.out.mono ?_; rintro e w' ⟨rfl, rfl⟩)
  go_ret
  exact ⟨rfl, hB⟩

/-- What knows answers, for a nil network too. -/
def Kn (w : World) (pv : Value) (a b : Int) (kb : Bool) : Prop :=
  (pv = .pointer none ∧ kb = false) ∨ ∃ p nodes, pv = .pointer (some ⟨p, 0, none⟩) ∧ w.cell? ⟨p, 0, none⟩ = some (.int .i64 nodes) ∧ kb = knowsB nodes a b

theorem knows_any {w : World} {pv : Value} {a b : Int} {kb : Bool} (h : Kn w pv a b kb) :
    Calls Try.prog 22 #[pv, .agg #[.int .i64 a, .int .i64 b]] w fun e w' => e = .returned (.bool kb) ∧ Below w.heap.size w w' := by
  rcases h with ⟨rfl, rfl⟩ | ⟨p, nodes, rfl, hc, rfl⟩
  · exact knows_nil a b w
  · by_cases hab : a = b
    · subst hab
      refine (knows_same p a w).mono fun e w' h => ?_
      simpa [knowsB] using h
    · refine (knows_ne p a b nodes w hab hc).mono fun e w' h => ?_
      have e : (a == b) = false := by simpa using hab
      simpa [knowsB, e] using h

end Go.Proofs.Ytolpcjpnjicmkaa
