/-
  The reference of Escrow: New.
  Escrow and its reference: nothing can be done with a nil one.
  Escrow: do with a nil escrow, want with a nil reference.
  Escrow beside its reference, both there or both nil: the state of the law's walk.
  EscrowMatchesReference, walked.
-/
import Derived.Test.YtapabbpdfplpoaaJ11
import Derived.Test.YtapabbpdfplpoaaJ13
import Derived.Test.YtapabbpdfplpoaaJ8
set_option linter.unusedSimpArgs false
set_option linter.unusedVariables false
namespace Go.Proofs.Ytapabbpdfplpoaa
open Go.RowKit Go.CH Go.CH.Esc
open Go.ChangeMaps (setBlock)

set_option maxHeartbeats 1600000 in
theorem rnew_no (r u : Int) (w : World) (h : r < 1 ∨ 8 < r ∨ u < 0 ∨ 1000000000 < u) : Calls Try.prog 19 #[.int .i64 r, .int .i64 u] w (Quiet w (.tuple #[.pointer none, .int .i64 1])) := by
  by_cases h1 : r < 1
  · clear h
    go_enter Try.func19, Try.ntmps19
    go_wp2
    go_ret2
    exact ⟨rfl, rfl⟩
  · by_cases h2 : 8 < r
    · clear h
      go_enter Try.func19, Try.ntmps19
      go_wp2
      go_ret2
      exact ⟨rfl, rfl⟩
    · by_cases h3 : u < 0
      · clear h
        go_enter Try.func19, Try.ntmps19
        go_wp2
        go_ret2
        exact ⟨rfl, rfl⟩
      · have h4 : 1000000000 < u := by omega
        clear h
        go_enter Try.func19, Try.ntmps19
        go_wp2
        go_ret2
        exact ⟨rfl, rfl⟩
def RNewRet (w : World) (g : GM) (e : Ending) (w' : World) : Prop := ∃ p, e = .returned (.tuple #[.pointer (some ⟨p, 0, none⟩), .int .i64 0]) ∧ Post w (fun _ => False) (RefO g p) w'
/-- The frame at the literal. -/
def actN (r : Nat) (u : Int) (v6 v22 v23 v24 v25 v26 v27 v28 v29 : Value) : Act := ⟨#[Value.int .i64 (r : Int), Value.int .i64 u, undef, undef, Value.pointer none, Value.int .i64 0, v6, undef, Value.int .i64 (r : Int), Value.bool false, Value.bool false, Value.int .i64 (r : Int), Value.bool false, Value.bool false, Value.bool false, Value.int .i64 u, Value.bool false, Value.bool false, Value.bool false, Value.int .i64 u, Value.bool false, Value.bool false, v22, v23, v24, v25, v26, v27, v28, v29, undef, undef, undef, undef, undef, undef, undef, undef, undef, undef, undef, undef, undef, undef, undef, undef, undef, undef, undef, undef, undef, undef, undef], []⟩
/-- What is true when some of the operations have been listed. -/
structure NewI (w : World) (r : Nat) (b0 b1 b2 b3 b4 b5 b6 b7 b8 : Bool) (v6 v22 v23 v24 v25 v26 v27 v28 v29 : Value) (W : World) : Prop where
  n0 : b0 = true → v22 = .int .i64 (r : Int)
  n2 : b2 = true → v24 = .int .i64 (r : Int)
  n4 : b4 = true → v26 = .int .i64 (r : Int)
  run : ∃ X1 X2 X3 X4 : Own, (X1.Ok ∧ X2.Ok ∧ X3.Ok ∧ X4.Ok) ∧ Run (fun _ => False) w (star X1 (star X2 (star X3 X4))) W ∧
    (b1 = true → ∃ x : Nat, v23 = .slice (some ⟨x, 0, none⟩) r r ∧ X1 = RowO 3 1 (.slice (some ⟨x, 0, none⟩) r r) r (ints (List.replicate r 0))) ∧
    (b3 = true → ∃ x : Nat, v25 = .slice (some ⟨x, 0, none⟩) r r ∧ X2 = RowO 3 1 (.slice (some ⟨x, 0, none⟩) r r) r (ints (List.replicate r 0))) ∧
    (b5 = true → ∃ x : Nat, v27 = .slice (some ⟨x, 0, none⟩) r r ∧ X3 = RowO 4 1 (.slice (some ⟨x, 0, none⟩) r r) r (bools (List.replicate r false))) ∧
    (b7 = true → ∃ p : Nat, v29 = .pointer (some ⟨p, 0, none⟩) ∧ X4 = CellO p #[v23, v25, v27, .slice none 0 0] 114)
  d6 : b6 = true → b1 = true ∧ b3 = true ∧ b5 = true ∧ v28 = .agg #[v23, v25, v27, .slice none 0 0]
  d7 : b7 = true → b6 = true
  d8 : b8 = true → b7 = true ∧ v6 = v29
def NewII (w : World) (r : Nat) (u : Int) (listed : Array Bool) (a : Act) (W : World) : Prop :=
  ∃ b0 b1 b2 b3 b4 b5 b6 b7 b8 : Bool, listed = #[b0, b1, b2, b3, b4, b5, b6, b7, b8] ∧ ∃ v6 v22 v23 v24 v25 v26 v27 v28 v29 : Value, a = actN r u v6 v22 v23 v24 v25 v26 v27 v28 v29 ∧ NewI w r b0 b1 b2 b3 b4 b5 b6 b7 b8 v6 v22 v23 v24 v25 v26 v27 v28 v29 W
theorem wp_make {P : Program} {o : Oper} {a : Act} {w : World} {K : Act → World → Prop} {Q : Exit → Act → World → Prop} {t e : TypeId} {z : Value} {bytes : Nat} (S : SliceOk P t e z 1 bytes) (hby : bytes ≤ 1000) (l : Operand) (hop : o.op = Op.makeSlice t l l) (n : Nat) (hn : n ≤ 1000) (hl : a.eval l = .int .i64 (n : Int)) (hz : z.cells = #[z])
    (hK : ∀ w', Post w (fun _ => False) (RowO e 1 (.slice (some ⟨w.heap.size, 0, none⟩) n n) n (List.replicate n z)) w' → K (a.put o.dst (.slice (some ⟨w.heap.size, 0, none⟩) n n)) w') : o.wp P a w K Q := by
  obtain ⟨ht, hi, hzz, hsz⟩ := S
  obtain ⟨i, hi, hi1, hi2, hi3⟩ := info_parts hi
  obtain ⟨w', hrun, r1, r2⟩ := run_make_full (P := P) w w.heap.size t e i z 1 ht hi hi1 hi2 .i64 .i64 n (by rw [hi3]; have := Nat.mul_le_mul hby hn; omega) (by simp only [maxLen]; omega) (Nat.le_refl _)
  have h2 := hK w' (row_new (by
    rw [Nat.mul_one, hz, toList_madeCells_one] at r1; exact r1) (Mod.below (F := fun _ => False) (Mod.of_grown r2 (fun k hk => by cases hk)) (fun _ _ h => h)))
  unfold Oper.wp
  simp [execOp, hop, hl, hrun, Result.andThen]
  exact h2
def nilL : LinS := ⟨none, 0, none, 0, []⟩
theorem made_pairs (n : Nat) : (madeCells #[Value.slice none 0 0, .int .i64 0, .int .i64 0, .slice none 0 0] (n * 4)).toList = (List.range n).flatMap fun _ => pcl p0 nilL := by
    have h : ∀ n : Nat, (List.range (n * 4)).map (fun i => (#[Value.slice none 0 0, .int .i64 0, .int .i64 0, .slice none 0 0] : Array Value)[i % 4]!) = (List.range n).flatMap fun _ => pcl p0 nilL := by
      intro n
      induction n with
      | zero => rfl
      | succ n ih =>
        rw [List.range_succ (n := n), List.flatMap_append, ← ih, show (n + 1) * 4 = n * 4 + 1 + 1 + 1 + 1 by omega, List.range_succ, List.range_succ, List.range_succ, List.range_succ]
        simp only [List.map_append, List.map_cons, List.map_nil, List.append_assoc, List.flatMap_cons, List.flatMap_nil, List.append_nil]
        rw [show n * 4 % 4 = 0 by omega, show (n * 4 + 1) % 4 = 1 by omega, show (n * 4 + 1 + 1) % 4 = 2 by omega, show (n * 4 + 1 + 1 + 1) % 4 = 3 by omega]
        rfl
    rw [← h n]
    simp [madeCells]
theorem pairOk : SliceOk Try.prog 115 118 (.agg #[.slice none 0 0, .int .i64 0, .int .i64 0, .slice none 0 0]) 4 64 := ⟨Try.underlying115, by kernel_rfl, rfl, by decide⟩
theorem wp_make4 {o : Oper} {a : Act} {w : World} {K : Act → World → Prop} {Q : Exit → Act → World → Prop} (l : Operand) (hop : o.op = Op.makeSlice 115 l l) (n : Nat) (hn : n ≤ 1000) (hl : a.eval l = .int .i64 (n : Int))
    (hK : ∀ w', Post w (fun _ => False) (RowO 118 4 (.slice (some ⟨w.heap.size, 0, none⟩) n n) n ((List.range n).flatMap fun _ => pcl p0 nilL)) w' → K (a.put o.dst (.slice (some ⟨w.heap.size, 0, none⟩) n n)) w') : o.wp Try.prog a w K Q := by
  obtain ⟨ht, hi, hzz, hsz⟩ := pairOk
  obtain ⟨i, hi, hi1, hi2, hi3⟩ := info_parts hi
  obtain ⟨w', hrun, r1, r2⟩ := run_make_full (P := Try.prog) w w.heap.size 115 118 i _ 4 ht hi hi1 hi2 .i64 .i64 n (by rw [hi3]; omega) (by simp only [maxLen]; omega) (Nat.le_refl _)
  have h2 := hK w' (row_new (by rw [← made_pairs]; exact r1) (Mod.below (F := fun _ => False) (Mod.of_grown r2 (fun k hk => by cases hk)) (fun _ _ h => h)))
  unfold Oper.wp
  simp [execOp, hop, hl, hrun, Result.andThen]
  exact h2
theorem rowsOk : SliceOk Try.prog 112 115 (.slice none 0 0) 1 24 := ⟨Try.underlying112, by kernel_rfl, rfl, by decide⟩
def rowZ (r : Nat) (row : Nat → Nat) (k : Nat) : Own := RowO 118 4 (.slice (some ⟨row k, 0, none⟩) r r) r ((List.range r).flatMap fun _ => pcl p0 nilL)
/-- The reference in the making: k rows of pairs. -/
def RNewO (r p bU bS bR k : Nat) (A : Option Addr) (c : Nat) (row : Nat → Nat) : Own :=
  star (CellO p #[.slice (some ⟨bU, 0, none⟩) r r, .slice (some ⟨bS, 0, none⟩) r r, .slice (some ⟨bR, 0, none⟩) r r, .slice A k c] 114) (star (RowO 3 1 (.slice (some ⟨bU, 0, none⟩) r r) r (ints (List.replicate r 0)))
    (star (RowO 3 1 (.slice (some ⟨bS, 0, none⟩) r r) r (ints (List.replicate r 0))) (star (RowO 4 1 (.slice (some ⟨bR, 0, none⟩) r r) r (bools (List.replicate r false)))
      (star (RowO 115 1 (.slice A k c) k ((List.range k).map fun x => .slice (some ⟨row x, 0, none⟩) r r)) (bigK (List.range k) (rowZ r row))))))
theorem rnewO_ok {r p bU bS bR k : Nat} {A : Option Addr} {c : Nat} {row : Nat → Nat} : (RNewO r p bU bS bR k A c row).Ok := star_ok cell_ok (star_ok row_ok (star_ok row_ok (star_ok row_ok (star_ok row_ok (bigK_ok (fun _ => row_ok))))))
theorem pairs_emp {w : World} : ∀ l : List (Nat × Nat), bigK l (fun _ => PairX p0 nilL) w (fun _ => False)
  | [] => fun _ h => h
  | _ :: l => star_none (star_none (row_nil _ _ _) (arow_nil _ _ _)) (pairs_emp l)
theorem rnew_all {F0 : Nat → Prop} {w0 W : World} {r : Nat} (hr : 1 ≤ r) {u : Int} {p bU bS bR : Nat} {A : Nat} {c : Nat} {row : Nat → Nat} (h : Run F0 w0 (RNewO r p bU bS bR r (some ⟨A, 0, none⟩) c row) W) :
    Run F0 w0 (RefS (newG r u) p ⟨bU, bS, bR, A, c, row, fun _ => nilL⟩) (W.setCell ⟨bU, 0, none⟩ (.int .i64 u)) := by
  have e0 : (newG r u).acc.length = r := len_new hr u
  unfold RNewO at h
  obtain ⟨F, hU, -, bk⟩ := h.rot.take row_ok (star_ok cell_ok (star_ok row_ok (star_ok row_ok (star_ok row_ok (bigK_ok (fun _ => row_ok))))))
  have h2 := row_set hU (i := 0) (by omega) (.int .i64 u)
  have h3 := bk _ _ h2
  have e1 : (ints (List.replicate r 0)).set 0 (.int .i64 u) = ints ((newG r u).acc.map Acc.u) := by
    cases r with
    | zero => omega
    | succ r => simp [ints, newG, List.replicate_succ]
  have e2 : List.replicate r (0 : Int) = (newG r u).acc.map Acc.s := by
    cases r with
    | zero => omega
    | succ r => simp [newG, List.replicate_succ]
  have e3 : List.replicate r false = (newG r u).acc.map Acc.rev := by
    cases r with
    | zero => omega
    | succ r => simp [newG, List.replicate_succ]
  rw [e1] at h3
  have h4 := (h3.perm (star_emp_eq _).symm).imp (B := star _ (bigK (keys2 r) fun _ => PairX p0 nilL)) fun w F h => star_mono h (fun _ h => h) (fun F h => by
    have : F = fun _ => False := by funext i; exact propext ⟨fun hi => h i hi, fun hi => hi.elim⟩
    subst this; exact pairs_emp _)
  refine h4.perm ?_
  unfold RefS
  rw [e0, ← e2, ← e3]
  have e5 : (fun k => rowR (newG r u) ⟨bU, bS, bR, A, c, row, fun _ => nilL⟩ r k) = rowZ r row := rfl
  rw [e5]
  have e6 : (fun k => PairX ((newG r u).p2 k) ((⟨bU, bS, bR, A, c, row, fun _ => nilL⟩ : RefP).ps k)) = fun _ => PairX p0 nilL := rfl
  rw [e6]
  show _ = star (CellO p #[.slice (some ⟨bU, 0, none⟩) r r, .slice (some ⟨bS, 0, none⟩) r r, .slice (some ⟨bR, 0, none⟩) r r, .slice (some ⟨A, 0, none⟩) r c] 114) _
  simp only []
  ac_rfl
/-- One more row of pairs. -/
theorem rnew_next {F0 : Nat → Prop} {w0 W : World} {r p bU bS bR k : Nat} {A A' : Option Addr} {c c' bx : Nat} {row : Nat → Nat}
    (h : Run F0 w0 (star (RowO 115 1 (.slice A' (k + 1) c') (k + 1) (((List.range k).map fun x => .slice (some ⟨row x, 0, none⟩) r r) ++ [.slice (some ⟨bx, 0, none⟩) r r])) (star (RowO 118 4 (.slice (some ⟨bx, 0, none⟩) r r) r ((List.range r).flatMap fun _ => pcl p0 nilL))
      (star (CellO p #[.slice (some ⟨bU, 0, none⟩) r r, .slice (some ⟨bS, 0, none⟩) r r, .slice (some ⟨bR, 0, none⟩) r r, .slice A k c] 114) (star (RowO 3 1 (.slice (some ⟨bU, 0, none⟩) r r) r (ints (List.replicate r 0)))
    (star (RowO 3 1 (.slice (some ⟨bS, 0, none⟩) r r) r (ints (List.replicate r 0))) (star (RowO 4 1 (.slice (some ⟨bR, 0, none⟩) r r) r (bools (List.replicate r false))) (bigK (List.range k) (rowZ r row)))))))) W) :
    W.frozen? ⟨p, 3, none⟩ = false ∧ W.cell? ⟨p, 3, none⟩ = some (.slice A k c) ∧ Run F0 w0 (RNewO r p bU bS bR (k + 1) A' c' (fun x => if x = k then bx else row x)) (W.setCell ⟨p, 3, none⟩ (.slice A' (k + 1) c')) := by
  obtain ⟨F, hC, -, bk⟩ := h.rot3.take cell_ok (star_ok row_ok (star_ok row_ok (star_ok row_ok (star_ok row_ok (star_ok row_ok (bigK_ok (fun _ => row_ok)))))))
  refine ⟨cell_free hC 3, cell_at hC rfl, ?_⟩
  have h2 := bk _ _ (cell_set hC 3 (.slice A' (k + 1) c'))
  refine h2.perm ?_
  unfold RNewO
  have e1 : ((List.range (k + 1)).map fun x => Value.slice (some ⟨if x = k then bx else row x, 0, none⟩) r r) = ((List.range k).map fun x => .slice (some ⟨row x, 0, none⟩) r r) ++ [.slice (some ⟨bx, 0, none⟩) r r] := by
    rw [List.range_succ, List.map_append]
    congr 1
    · refine List.map_congr_left fun x hx => ?_
      have := List.mem_range.1 hx
      rw [if_neg (by omega)]
    · simp
  have e2 : bigK (List.range (k + 1)) (rowZ r fun x => if x = k then bx else row x) = star (RowO 118 4 (.slice (some ⟨bx, 0, none⟩) r r) r ((List.range r).flatMap fun _ => pcl p0 nilL)) (bigK (List.range k) (rowZ r row)) := by
    have h1 : bigK (List.range (k + 1)) (rowZ r fun x => if x = k then bx else row x) = star (rowZ r (fun x => if x = k then bx else row x) k) (bigK (List.range k) (rowZ r fun x => if x = k then bx else row x)) := by
      unfold bigK
      rw [List.range_succ, List.map_append, List.map_singleton, big_last]
    rw [h1]
    congr 1
    · simp only [rowZ, if_true]
    · refine bigK_congr fun x hx => ?_
      have := List.mem_range.1 hx
      have hne : x ≠ k := by omega
      simp only [rowZ, hne, if_false]
  rw [e1, e2]
  have e3 : (#[.slice (some ⟨bU, 0, none⟩) r r, .slice (some ⟨bS, 0, none⟩) r r, .slice (some ⟨bR, 0, none⟩) r r, .slice A k c] : Array Value).setIfInBounds 3 (.slice A' (k + 1) c') = #[.slice (some ⟨bU, 0, none⟩) r r, .slice (some ⟨bS, 0, none⟩) r r, .slice (some ⟨bR, 0, none⟩) r r, .slice A' (k + 1) c'] := rfl
  rw [e3]
  ac_rfl
theorem not_ready {md : Region.Mode} {ops : Array Oper} {listed : Array Bool} (hr : Region.ready md ops listed = []) {j : Nat} {o : Oper} (ho : ops[j]? = some o) (hd : ∀ e ∈ o.after, Region.binds md e = true → listed.getD e.on false = true) : listed.getD j true = true := by
  cases h : listed.getD j true with
  | true => rfl
  | false =>
    exfalso
    have hm := mem_ready.2 ⟨h, o, ho, hd⟩
    rw [hr] at hm
    cases hm
theorem boolOk : SliceOk Try.prog 111 4 (.bool false) 1 1 := ⟨Try.underlying111, by kernel_rfl, rfl, by decide⟩
set_option maxRecDepth 100000 in
set_option maxHeartbeats 3200000 in
theorem rnew_ok (r : Nat) (u : Int) (w : World) (h1 : 1 ≤ r) (h2 : r ≤ 8) (h3 : 0 ≤ u) (h4 : u ≤ 1000000000) : Calls Try.prog 19 #[.int .i64 r, .int .i64 u] w (RNewRet w (newG r u)) := by
  have i1 : ¬ ((r : Int) < 1) := by omega
  have i2 : ¬ ((8 : Int) < r) := by omega
  have i3 : ¬ (u < 0) := by omega
  have i4 : ¬ (1000000000 < u) := by omega
  go_enter Try.func19, Try.ntmps19
  go_wp2_with fail
  refine wp_region_inv (NewII w r u) (by kernel_rfl) ?_ ?_ ?_
  · refine ⟨false, false, false, false, false, false, false, false, false, rfl, undef, undef, undef, undef, undef, undef, undef, undef, undef, rfl, ?_⟩
    refine ⟨nofun, nofun, nofun, ⟨emp, emp, emp, emp, ⟨emp_ok, emp_ok, emp_ok, emp_ok⟩, ?_, nofun, nofun, nofun, nofun⟩, nofun, nofun, nofun⟩
    rw [emp_star, emp_star, emp_star]
    exact (Run.begin w).drew emp_ok
  · rintro listed a W ⟨b0, b1, b2, b3, b4, b5, b6, b7, b8, rfl, v6, v22, v23, v24, v25, v26, v27, v28, v29, rfl, hN⟩ hr
    have t0 : b0 = true := not_ready hr (j := 0) rfl (fun e he _ => by simp at he)
    have t1 : b1 = true := not_ready hr (j := 1) rfl (fun e he _ => by simp at he; subst he; exact t0)
    have t2 : b2 = true := not_ready hr (j := 2) rfl (fun e he _ => by simp at he)
    have t3 : b3 = true := not_ready hr (j := 3) rfl (fun e he _ => by simp at he; subst he; exact t2)
    have t4 : b4 = true := not_ready hr (j := 4) rfl (fun e he _ => by simp at he)
    have t5 : b5 = true := not_ready hr (j := 5) rfl (fun e he _ => by simp at he; subst he; exact t4)
    have t6 : b6 = true := not_ready hr (j := 6) rfl (fun e he _ => by simp at he; rcases he with rfl | rfl | rfl <;> assumption)
    have t7 : b7 = true := not_ready hr (j := 7) rfl (fun e he _ => by simp at he; subst he; exact t6)
    have t8 : b8 = true := not_ready hr (j := 8) rfl (fun e he _ => by simp at he; rcases he with rfl | rfl | rfl | rfl | rfl | rfl | rfl | rfl | rfl <;> assumption)
    obtain ⟨X1, X2, X3, X4, ⟨k1, k2, k3, k4⟩, hrun, hx1, hx2, hx3, hx4⟩ := hN.run
    obtain ⟨bU, rfl, rfl⟩ := hx1 t1
    obtain ⟨bS, rfl, rfl⟩ := hx2 t3
    obtain ⟨bR, rfl, rfl⟩ := hx3 t5
    obtain ⟨p, rfl, rfl⟩ := hx4 t7
    obtain ⟨-, rfl⟩ := hN.d8 t8
    obtain rfl := hN.n0 t0
    obtain rfl := hN.n2 t2
    obtain rfl := hN.n4 t4
    obtain ⟨-, -, -, rfl⟩ := hN.d6 t6
    clear hN hr hx1 hx2 hx3 hx4 t0 t1 t2 t3 t4 t5 t6 t7 t8
    have R0 : Run (fun _ => False) w (RNewO r p bU bS bR 0 none 0 (fun _ => 0)) W := by
      have h1 := (hrun.perm (star_emp_eq _).symm).imp (B := star _ (star (RowO 115 1 (.slice none 0 0) 0 []) emp)) fun w F h => star_mono h (fun _ h => h) (fun F h => star_emp' (row_of_emp h))
      refine h1.perm ?_
      unfold RNewO
      show _ = star _ (star _ (star _ (star _ (star (RowO 115 1 (.slice none 0 0) 0 []) emp))))
      ac_rfl
    have HR0 := hide R0
    clear hrun k1 k2 k3 k4 R0
    simp only [actN]
    go_wp2_with fail
    go_loopw [7] (fun i wr => ∃ (k : Nat) (A : Option Addr) (c : Nat) (row : Nat → Nat), k ≤ r ∧ i = .int .i64 k ∧ Run (fun _ => False) w (RNewO r p bU bS bR k A c row) wr) (fun i _ => r - (intOf i).toNat)
    case atStart => exact ⟨0, none, 0, _, Nat.zero_le _, rfl, HR0.out⟩
    case round =>
      obtain ⟨k, A, c, row, hk, rfl, hr⟩ := hrel
      have HR := hide hr
      obtain ⟨FC, hC⟩ := hr.fst
      have c3 := cell_at hC (i := 3) (v := .slice A k c) rfl
      clear HR0 hr hC
      by_cases hlt : k < r
      · go_wp2_with fail
        refine wp_region_lew [6, 7, 8, 11] [3, 2, 2, 2, 2, 0, 1, 2, 3, 3, 3, 4] (fun w' => w'.cell? ⟨p, 3, none⟩ = some (.slice A k c)) (fun w' => w'.cell? ⟨p, 3, none⟩ = some (.slice A k c)) (fun w' => w'.cell? ⟨p, 3, none⟩ = some (.slice A k c)) (fun _ => True) (fun _ h => h) (fun _ h => h) (fun _ _ => trivial) (by kernel_rfl) (by kernel_rfl) (by kernel_rfl) (by kernel_rfl) c3 ?_
        (repeat (first | (refine lew_skip (by rfl) (by rfl) ?_; try simp only [Act.put, List.setIfInBounds_toArray, List.set_cons_zero, List.set_cons_succ]) | (refine lew_read0 (v := ?_) (by rfl) (by rfl) ?_ ?_; rotate_left; (focus (intro w' hS'; go_simp; (try with_reducible rfl); done)); try simp only [Act.put, List.setIfInBounds_toArray, List.set_cons_zero, List.set_cons_succ]) | (refine lew_read1 (v := ?_) (by rfl) (by rfl) ?_ ?_; rotate_left; (focus (intro w' hS'; go_simp; (try with_reducible rfl); done)); try simp only [Act.put, List.setIfInBounds_toArray, List.set_cons_zero, List.set_cons_succ]) | (refine lew_read2 (v := ?_) (by rfl) (by rfl) ?_ ?_; rotate_left; (focus (intro w' hS'; go_simp; (try with_reducible rfl); done)); try simp only [Act.put, List.setIfInBounds_toArray, List.set_cons_zero, List.set_cons_succ]) | (refine lew_read3 (v := ?_) (by rfl) (by rfl) ?_ ?_; rotate_left; (focus (intro w' hS'; go_simp; (try with_reducible rfl); done)); try simp only [Act.put, List.setIfInBounds_toArray, List.set_cons_zero, List.set_cons_succ]) | (refine lew_read4 (v := ?_) (by rfl) (by rfl) ?_ ?_; rotate_left; (focus (intro w' hS'; go_simp; (try with_reducible rfl); done)); try simp only [Act.put, List.setIfInBounds_toArray, List.set_cons_zero, List.set_cons_succ])))
        refine lew_chain1 rfl (by rfl) (fun K hK => ?_)
        refine wp_make4 (.tmp 40) rfl r (by omega) rfl ?_
        intro w2 hP
        have S2 := hide ((HR.out.drew rnewO_ok).fresh rnewO_ok hP)
        obtain ⟨FC2, hC2⟩ := (S2.out.rot).fst
        have c3b := cell_at hC2 (i := 3) (v := .slice A k c) rfl
        refine hK.out _ _ c3b ?_
        clear hK hC2 HR c3
        generalize hbx : wr.drew.heap.size = bx at *
        clear hbx
        try simp only [Act.put, List.setIfInBounds_toArray, List.set_cons_zero, List.set_cons_succ]
        (repeat (first | (refine lew_skip (by rfl) (by rfl) ?_; try simp only [Act.put, List.setIfInBounds_toArray, List.set_cons_zero, List.set_cons_succ]) | (refine lew_read0 (v := ?_) (by rfl) (by rfl) ?_ ?_; rotate_left; (focus (intro w' hS'; go_simp; (try with_reducible rfl); done)); try simp only [Act.put, List.setIfInBounds_toArray, List.set_cons_zero, List.set_cons_succ]) | (refine lew_read1 (v := ?_) (by rfl) (by rfl) ?_ ?_; rotate_left; (focus (intro w' hS'; go_simp; (try with_reducible rfl); done)); try simp only [Act.put, List.setIfInBounds_toArray, List.set_cons_zero, List.set_cons_succ]) | (refine lew_read2 (v := ?_) (by rfl) (by rfl) ?_ ?_; rotate_left; (focus (intro w' hS'; go_simp; (try with_reducible rfl); done)); try simp only [Act.put, List.setIfInBounds_toArray, List.set_cons_zero, List.set_cons_succ]) | (refine lew_read3 (v := ?_) (by rfl) (by rfl) ?_ ?_; rotate_left; (focus (intro w' hS'; go_simp; (try with_reducible rfl); done)); try simp only [Act.put, List.setIfInBounds_toArray, List.set_cons_zero, List.set_cons_succ]) | (refine lew_read4 (v := ?_) (by rfl) (by rfl) ?_ ?_; rotate_left; (focus (intro w' hS'; go_simp; (try with_reducible rfl); done)); try simp only [Act.put, List.setIfInBounds_toArray, List.set_cons_zero, List.set_cons_succ])))
        refine lew_chain2 rfl (by rfl) (fun K hK => ?_)
        go_wp2_with fail
        have S3 := hide (S2.out.below (star_ok row_ok rnewO_ok) ((Below.refl _ _).alloc (Nat.le_refl _) (.cells #[.slice (some ⟨bx, 0, none⟩) r r] 115)))
        have HSR := hide (show Src (w2.alloc (.cells #[.slice (some ⟨bx, 0, none⟩) r r] 115)) (some ⟨w2.heap.size, 0, none⟩) 1 1 [.slice (some ⟨bx, 0, none⟩) r r] from src_new w2 [.slice (some ⟨bx, 0, none⟩) r r] 115 (fun u hu => by simp at hu; subst hu; rfl))
        obtain ⟨FC3, hC3⟩ := (S3.out.rot).fst
        have c3c := cell_at hC3 (i := 3) (v := .slice A k c) rfl
        refine hK.out _ _ c3c ?_
        clear hK hC3 S2 c3b c3c
        generalize w2.alloc (.cells #[.slice (some ⟨bx, 0, none⟩) r r] 115) = W3 at *
        (repeat (first | (refine lew_skip (by rfl) (by rfl) ?_; try simp only [Act.put, List.setIfInBounds_toArray, List.set_cons_zero, List.set_cons_succ]) | (refine lew_read0 (v := ?_) (by rfl) (by rfl) ?_ ?_; rotate_left; (focus (intro w' hS'; go_simp; (try with_reducible rfl); done)); try simp only [Act.put, List.setIfInBounds_toArray, List.set_cons_zero, List.set_cons_succ]) | (refine lew_read1 (v := ?_) (by rfl) (by rfl) ?_ ?_; rotate_left; (focus (intro w' hS'; go_simp; (try with_reducible rfl); done)); try simp only [Act.put, List.setIfInBounds_toArray, List.set_cons_zero, List.set_cons_succ]) | (refine lew_read2 (v := ?_) (by rfl) (by rfl) ?_ ?_; rotate_left; (focus (intro w' hS'; go_simp; (try with_reducible rfl); done)); try simp only [Act.put, List.setIfInBounds_toArray, List.set_cons_zero, List.set_cons_succ]) | (refine lew_read3 (v := ?_) (by rfl) (by rfl) ?_ ?_; rotate_left; (focus (intro w' hS'; go_simp; (try with_reducible rfl); done)); try simp only [Act.put, List.setIfInBounds_toArray, List.set_cons_zero, List.set_cons_succ]) | (refine lew_read4 (v := ?_) (by rfl) (by rfl) ?_ ?_; rotate_left; (focus (intro w' hS'; go_simp; (try with_reducible rfl); done)); try simp only [Act.put, List.setIfInBounds_toArray, List.set_cons_zero, List.set_cons_succ])))
        refine lew_chain3 rfl (by rfl) (fun K hK => ?_)
        have X3 := S3.out.perm (by unfold RNewO; ac_rfl : _ = star (RowO 115 1 (.slice A k c) k ((List.range k).map fun x => .slice (some ⟨row x, 0, none⟩) r r)) (star (RowO 118 4 (.slice (some ⟨bx, 0, none⟩) r r) r ((List.range r).flatMap fun _ => pcl p0 nilL))
          (star (CellO p #[.slice (some ⟨bU, 0, none⟩) r r, .slice (some ⟨bS, 0, none⟩) r r, .slice (some ⟨bR, 0, none⟩) r r, .slice A k c] 114) (star (RowO 3 1 (.slice (some ⟨bU, 0, none⟩) r r) r (ints (List.replicate r 0)))
            (star (RowO 3 1 (.slice (some ⟨bS, 0, none⟩) r r) r (ints (List.replicate r 0))) (star (RowO 4 1 (.slice (some ⟨bR, 0, none⟩) r r) r (bools (List.replicate r false))) (bigK (List.range k) (rowZ r row))))))))
        obtain ⟨F4, hR4, -, bk4⟩ := X3.take row_ok (star_ok row_ok (star_ok cell_ok (star_ok row_ok (star_ok row_ok (star_ok row_ok (bigK_ok (fun _ => row_ok)))))))
        refine wp_app (.tmp 39) (.tmp 42) rfl rowsOk _ 0 (v := .slice A k c) (n := k) rfl hR4.1 (A := some ⟨w2.heap.size, 0, none⟩) (m := 1) (c := 1) (news := [.slice (some ⟨bx, 0, none⟩) r r]) rfl HSR.out (by omega) (by omega) (Nat.zero_le _) ?_
        intro v5 w5 ho5 hg5 hv5
        have S5 := bk4 _ _ (row_app hR4 ho5 hg5 hv5)
        obtain ⟨A5, c5, rfl⟩ := own_form ho5
        obtain ⟨z1, z2, S6⟩ := rnew_next S5
        have HS6 := hide S6
        refine hK.out _ _ trivial ?_
        clear hK X3 hR4 bk4 ho5 hg5 hv5 S5 S6 S3
        generalize (fun x => if x = k then bx else row x) = row2 at *
        (repeat (first | (refine lew_skip (by rfl) (by rfl) ?_; try simp only [Act.put, List.setIfInBounds_toArray, List.set_cons_zero, List.set_cons_succ]) | (refine lew_read0 (v := ?_) (by rfl) (by rfl) ?_ ?_; rotate_left; (focus (intro w' hS'; go_simp; (try with_reducible rfl); done)); try simp only [Act.put, List.setIfInBounds_toArray, List.set_cons_zero, List.set_cons_succ]) | (refine lew_read1 (v := ?_) (by rfl) (by rfl) ?_ ?_; rotate_left; (focus (intro w' hS'; go_simp; (try with_reducible rfl); done)); try simp only [Act.put, List.setIfInBounds_toArray, List.set_cons_zero, List.set_cons_succ]) | (refine lew_read2 (v := ?_) (by rfl) (by rfl) ?_ ?_; rotate_left; (focus (intro w' hS'; go_simp; (try with_reducible rfl); done)); try simp only [Act.put, List.setIfInBounds_toArray, List.set_cons_zero, List.set_cons_succ]) | (refine lew_read3 (v := ?_) (by rfl) (by rfl) ?_ ?_; rotate_left; (focus (intro w' hS'; go_simp; (try with_reducible rfl); done)); try simp only [Act.put, List.setIfInBounds_toArray, List.set_cons_zero, List.set_cons_succ]) | (refine lew_read4 (v := ?_) (by rfl) (by rfl) ?_ ?_; rotate_left; (focus (intro w' hS'; go_simp; (try with_reducible rfl); done)); try simp only [Act.put, List.setIfInBounds_toArray, List.set_cons_zero, List.set_cons_succ])))
        refine lew_chain4 rfl (by rfl) (fun K hK => ?_)
        go_wp2_with fail
        refine hK.out _ _ trivial (lew_nil ?_)
        clear hK z1 z2
        go_wp2_with fail
        go_roundw
        case rel => exact ⟨k + 1, A5, c5, row2, by omega, by go_num, HS6.out⟩
        case measure => simp [intOf]; omega
      · obtain rfl : k = r := by omega
        obtain ⟨FP, hP⟩ := (HR.out.perm (by unfold RNewO; ac_rfl : _ = star (RowO 115 1 (.slice A k c) k ((List.range k).map fun x => .slice (some ⟨row x, 0, none⟩) k k)) (star (CellO p #[.slice (some ⟨bU, 0, none⟩) k k, .slice (some ⟨bS, 0, none⟩) k k, .slice (some ⟨bR, 0, none⟩) k k, .slice A k c] 114) (star (RowO 3 1 (.slice (some ⟨bU, 0, none⟩) k k) k (ints (List.replicate k 0)))
            (star (RowO 3 1 (.slice (some ⟨bS, 0, none⟩) k k) k (ints (List.replicate k 0))) (star (RowO 4 1 (.slice (some ⟨bR, 0, none⟩) k k) k (bools (List.replicate k false))) (bigK (List.range k) (rowZ k row)))))))).fst
        obtain ⟨gA, rfl⟩ := row_addr hP (by omega)
        obtain ⟨FC2, hC2⟩ := HR.out.fst
        have c0 := cell_at hC2 (i := 0) (v := .slice (some ⟨bU, 0, none⟩) k k) rfl
        obtain ⟨FU, hU⟩ := HR.out.rot.fst
        have uf := row_free hU 0 (by omega)
        have u0 : wr.cell? ⟨bU, 0, none⟩ = some (.int .i64 0) := row_cell hU (by cases k with | zero => omega | succ k => simp [ints, List.replicate_succ])
        have HFIN := hide ((rnew_all (u := u) (by omega) HR.out).post refS_ok)
        clear HR hP hC2 hU c3
        go_wp2_with fail
        go_ret2
        obtain ⟨F', y1, y2, y3⟩ := HFIN.out
        refine ⟨p, rfl, F', ⟨_, fun x hx => ?_, y1⟩, y2, y3⟩
        exact ⟨rfl, fun z hz => by cases hz⟩
  · rintro listed a W ⟨b0, b1, b2, b3, b4, b5, b6, b7, b8, rfl, v6, v22, v23, v24, v25, v26, v27, v28, v29, rfl, hN⟩ i hi
    obtain ⟨h0, o, ho, hdep⟩ := mem_ready.1 hi
    obtain ⟨X1, X2, X3, X4, ⟨k1, k2, k3, k4⟩, hrun, hx1, hx2, hx3, hx4⟩ := hN.run
    have hi9 : i < 9 := (Array.getElem?_eq_some_iff.1 ho).1
    match i, hi9 with
    | 0, _ =>
      simp only [List.getElem?_toArray, List.getElem?_cons_zero, List.getElem?_cons_succ, Option.some.injEq] at ho
      subst ho
      refine wpOp_plain rfl rfl ?_
      have hb : b0 = false := h0
      subst hb
      unfold Oper.wp
      simp only [execOp, resolve, Sem.run_bind, Sem.run_pure, Result.andThen_ok]
      refine ⟨true, b1, b2, b3, b4, b5, b6, b7, b8, rfl, v6, .int .i64 (r : Int), v23, v24, v25, v26, v27, v28, v29, rfl, ?_⟩
      exact ⟨(fun _ => rfl), hN.n2, hN.n4, hN.run, hN.d6, hN.d7, hN.d8⟩
    | 1, _ =>
      simp only [List.getElem?_toArray, List.getElem?_cons_zero, List.getElem?_cons_succ, Option.some.injEq] at ho
      subst ho
      refine wpOp_plain rfl rfl ?_
      have hb : b1 = false := h0
      subst hb
      have hd : b0 = true := hdep { on := 0, ground := .data } (by simp) rfl
      have hv := hN.n0 hd
      subst hv
      refine wp_make intsOk (by decide) (.tmp 22) rfl r (by omega) rfl rfl ?_
      intro w2 hP
      have hp2 : Run (fun _ => False) w (star (RowO 3 1 (.slice (some ⟨W.heap.size, 0, none⟩) r r) r (ints (List.replicate r 0))) (star X2 (star X3 X4))) w2 := by
        have h := hrun.fresh (star_ok k1 (star_ok k2 (star_ok k3 k4))) hP
        rw [show List.replicate r (Value.int .i64 0) = ints (List.replicate r 0) by unfold ints; simp] at h
        have h2 := (h.perm (by ac_rfl : _ = star X1 (star (RowO 3 1 (.slice (some ⟨W.heap.size, 0, none⟩) r r) r (ints (List.replicate r 0))) (star X2 (star X3 X4))))).drop
        exact h2.perm (by ac_rfl)
      refine ⟨b0, true, b2, b3, b4, b5, b6, b7, b8, rfl, v6, .int .i64 (r : Int), .slice (some ⟨W.heap.size, 0, none⟩) r r, v24, v25, v26, v27, v28, v29, rfl, ?_⟩
      exact ⟨hN.n0, hN.n2, hN.n4, ⟨_, _, _, _, ⟨row_ok, k2, k3, k4⟩, hp2, (fun _ => ⟨W.heap.size, rfl, rfl⟩), hx2, hx3, (fun h => by have := (hN.d6 (hN.d7 h)).1; cases this)⟩, (fun h => by have := (hN.d6 h).1; cases this), hN.d7, hN.d8⟩
    | 2, _ =>
      simp only [List.getElem?_toArray, List.getElem?_cons_zero, List.getElem?_cons_succ, Option.some.injEq] at ho
      subst ho
      refine wpOp_plain rfl rfl ?_
      have hb : b2 = false := h0
      subst hb
      unfold Oper.wp
      simp only [execOp, resolve, Sem.run_bind, Sem.run_pure, Result.andThen_ok]
      refine ⟨b0, b1, true, b3, b4, b5, b6, b7, b8, rfl, v6, v22, v23, .int .i64 (r : Int), v25, v26, v27, v28, v29, rfl, ?_⟩
      exact ⟨hN.n0, (fun _ => rfl), hN.n4, hN.run, hN.d6, hN.d7, hN.d8⟩
    | 3, _ =>
      simp only [List.getElem?_toArray, List.getElem?_cons_zero, List.getElem?_cons_succ, Option.some.injEq] at ho
      subst ho
      refine wpOp_plain rfl rfl ?_
      have hb : b3 = false := h0
      subst hb
      have hd : b2 = true := hdep { on := 2, ground := .data } (by simp) rfl
      have hv := hN.n2 hd
      subst hv
      refine wp_make intsOk (by decide) (.tmp 24) rfl r (by omega) rfl rfl ?_
      intro w2 hP
      have hp2 : Run (fun _ => False) w (star X1 (star (RowO 3 1 (.slice (some ⟨W.heap.size, 0, none⟩) r r) r (ints (List.replicate r 0))) (star X3 X4))) w2 := by
        have h := hrun.fresh (star_ok k1 (star_ok k2 (star_ok k3 k4))) hP
        rw [show List.replicate r (Value.int .i64 0) = ints (List.replicate r 0) by unfold ints; simp] at h
        have h2 := (h.perm (by ac_rfl : _ = star X2 (star (RowO 3 1 (.slice (some ⟨W.heap.size, 0, none⟩) r r) r (ints (List.replicate r 0))) (star X1 (star X3 X4))))).drop
        exact h2.perm (by ac_rfl)
      refine ⟨b0, b1, b2, true, b4, b5, b6, b7, b8, rfl, v6, v22, v23, .int .i64 (r : Int), .slice (some ⟨W.heap.size, 0, none⟩) r r, v26, v27, v28, v29, rfl, ?_⟩
      exact ⟨hN.n0, hN.n2, hN.n4, ⟨_, _, _, _, ⟨k1, row_ok, k3, k4⟩, hp2, hx1, (fun _ => ⟨W.heap.size, rfl, rfl⟩), hx3, (fun h => by have := (hN.d6 (hN.d7 h)).2.1; cases this)⟩, (fun h => by have := (hN.d6 h).2.1; cases this), hN.d7, hN.d8⟩
    | 4, _ =>
      simp only [List.getElem?_toArray, List.getElem?_cons_zero, List.getElem?_cons_succ, Option.some.injEq] at ho
      subst ho
      refine wpOp_plain rfl rfl ?_
      have hb : b4 = false := h0
      subst hb
      unfold Oper.wp
      simp only [execOp, resolve, Sem.run_bind, Sem.run_pure, Result.andThen_ok]
      refine ⟨b0, b1, b2, b3, true, b5, b6, b7, b8, rfl, v6, v22, v23, v24, v25, .int .i64 (r : Int), v27, v28, v29, rfl, ?_⟩
      exact ⟨hN.n0, hN.n2, (fun _ => rfl), hN.run, hN.d6, hN.d7, hN.d8⟩
    | 5, _ =>
      simp only [List.getElem?_toArray, List.getElem?_cons_zero, List.getElem?_cons_succ, Option.some.injEq] at ho
      subst ho
      refine wpOp_plain rfl rfl ?_
      have hb : b5 = false := h0
      subst hb
      have hd : b4 = true := hdep { on := 4, ground := .data } (by simp) rfl
      have hv := hN.n4 hd
      subst hv
      refine wp_make boolOk (by decide) (.tmp 26) rfl r (by omega) rfl rfl ?_
      intro w2 hP
      have hp2 : Run (fun _ => False) w (star X1 (star X2 (star (RowO 4 1 (.slice (some ⟨W.heap.size, 0, none⟩) r r) r (bools (List.replicate r false))) X4))) w2 := by
        have h := hrun.fresh (star_ok k1 (star_ok k2 (star_ok k3 k4))) hP
        rw [show List.replicate r (Value.bool false) = bools (List.replicate r false) by unfold bools; simp] at h
        have h2 := (h.perm (by ac_rfl : _ = star X3 (star (RowO 4 1 (.slice (some ⟨W.heap.size, 0, none⟩) r r) r (bools (List.replicate r false))) (star X1 (star X2 X4))))).drop
        exact h2.perm (by ac_rfl)
      refine ⟨b0, b1, b2, b3, b4, true, b6, b7, b8, rfl, v6, v22, v23, v24, v25, .int .i64 (r : Int), .slice (some ⟨W.heap.size, 0, none⟩) r r, v28, v29, rfl, ?_⟩
      exact ⟨hN.n0, hN.n2, hN.n4, ⟨_, _, _, _, ⟨k1, k2, row_ok, k4⟩, hp2, hx1, hx2, (fun _ => ⟨W.heap.size, rfl, rfl⟩), (fun h => by have := (hN.d6 (hN.d7 h)).2.2.1; cases this)⟩, (fun h => by have := (hN.d6 h).2.2.1; cases this), hN.d7, hN.d8⟩
    | 6, _ =>
      simp only [List.getElem?_toArray, List.getElem?_cons_zero, List.getElem?_cons_succ, Option.some.injEq] at ho
      subst ho
      refine wpOp_plain rfl rfl ?_
      have hb : b6 = false := h0
      subst hb
      have hd1 : b1 = true := hdep { on := 1, ground := .data } (by simp) rfl
      have hd3 : b3 = true := hdep { on := 3, ground := .data } (by simp) rfl
      have hd5 : b5 = true := hdep { on := 5, ground := .data } (by simp) rfl
      obtain ⟨x1, e1, -⟩ := hx1 hd1
      obtain ⟨x3, e3, -⟩ := hx2 hd3
      obtain ⟨x5, e5, -⟩ := hx3 hd5
      subst e1 e3 e5
      have HD1 := hide hd1
      have HD3 := hide hd3
      have HD5 := hide hd5
      clear hd1 hd3 hd5 hdep hi h0
      unfold Oper.wp actN
      go_simp
      refine ⟨b0, b1, b2, b3, b4, b5, true, b7, b8, rfl, v6, v22, .slice (some ⟨x1, 0, none⟩) r r, v24, .slice (some ⟨x3, 0, none⟩) r r, v26, .slice (some ⟨x5, 0, none⟩) r r, .agg #[.slice (some ⟨x1, 0, none⟩) r r, .slice (some ⟨x3, 0, none⟩) r r, .slice (some ⟨x5, 0, none⟩) r r, .slice none 0 0], v29, rfl, ?_⟩
      exact ⟨hN.n0, hN.n2, hN.n4, hN.run, fun _ => ⟨HD1.out, HD3.out, HD5.out, rfl⟩, fun _ => rfl, hN.d8⟩
    | 7, _ =>
      simp only [List.getElem?_toArray, List.getElem?_cons_zero, List.getElem?_cons_succ, Option.some.injEq] at ho
      subst ho
      refine wpOp_plain rfl rfl ?_
      have hb : b7 = false := h0
      subst hb
      have hd6 : b6 = true := hdep { on := 6, ground := .data } (by simp) rfl
      obtain ⟨hd1, hd3, hd5, e8⟩ := hN.d6 hd6
      obtain ⟨x1, e1, -⟩ := hx1 hd1
      obtain ⟨x3, e3, -⟩ := hx2 hd3
      obtain ⟨x5, e5, -⟩ := hx3 hd5
      subst e1 e3 e5 e8
      have HD6 := hide hd6
      clear hd1 hd3 hd5 hd6 hdep hi h0
      unfold Oper.wp actN
      go_simp
      have h := hrun.fresh (star_ok k1 (star_ok k2 (star_ok k3 k4))) (cell_new W #[.slice (some ⟨x1, 0, none⟩) r r, .slice (some ⟨x3, 0, none⟩) r r, .slice (some ⟨x5, 0, none⟩) r r, .slice none 0 0] 114)
      have h2 := (h.perm (by ac_rfl : _ = star X4 (star (CellO W.heap.size #[.slice (some ⟨x1, 0, none⟩) r r, .slice (some ⟨x3, 0, none⟩) r r, .slice (some ⟨x5, 0, none⟩) r r, .slice none 0 0] 114) (star X1 (star X2 X3))))).drop
      refine ⟨b0, b1, b2, b3, b4, b5, b6, true, b8, rfl, v6, v22, .slice (some ⟨x1, 0, none⟩) r r, v24, .slice (some ⟨x3, 0, none⟩) r r, v26, .slice (some ⟨x5, 0, none⟩) r r, .agg #[.slice (some ⟨x1, 0, none⟩) r r, .slice (some ⟨x3, 0, none⟩) r r, .slice (some ⟨x5, 0, none⟩) r r, .slice none 0 0], .pointer (some ⟨W.heap.size, 0, none⟩), rfl, ?_⟩
      exact ⟨hN.n0, hN.n2, hN.n4, ⟨X1, X2, X3, _, ⟨k1, k2, k3, cell_ok⟩, h2.perm (by ac_rfl), hx1, hx2, hx3, fun _ => ⟨W.heap.size, rfl, rfl⟩⟩, hN.d6, fun _ => HD6.out, (fun h => by have := (hN.d8 h).1; cases this)⟩
    | 8, _ =>
      simp only [List.getElem?_toArray, List.getElem?_cons_zero, List.getElem?_cons_succ, Option.some.injEq] at ho
      subst ho
      refine wpOp_plain rfl rfl ?_
      have hb : b8 = false := h0
      subst hb
      have HD7 := hide (show b7 = true from hdep { on := 7, ground := .data } (by simp) rfl)
      clear hdep hi h0
      unfold Oper.wp actN
      go_simp
      refine ⟨b0, b1, b2, b3, b4, b5, b6, b7, true, rfl, v29, v22, v23, v24, v25, v26, v27, v28, v29, rfl, ?_⟩
      exact ⟨hN.n0, hN.n2, hN.n4, hN.run, hN.d6, hN.d7, fun _ => ⟨HD7.out, rfl⟩⟩
end Go.Proofs.Ytapabbpdfplpoaa
namespace Go.Proofs.Ytapabbpdfplpoaa
open Go.RowKit Go.CH Go.CH.Esc
open Go.ChangeMaps (setBlock)

set_option maxHeartbeats 400000 in
theorem spent_nil (w : World) : Calls Try.prog 22 #[.pointer none] w (Quiet w (.int .i64 0)) := by
  go_enter Try.func22, Try.ntmps22
  go_wp2
  go_ret
  exact ⟨rfl, rfl⟩
set_option maxHeartbeats 400000 in
theorem flying_nil (w : World) : Calls Try.prog 24 #[.pointer none] w (Quiet w (.int .i64 0)) := by
  go_enter Try.func24, Try.ntmps24
  go_wp2
  go_ret
  exact ⟨rfl, rfl⟩
set_option maxHeartbeats 400000 in
theorem rspent_nil (w : World) : Calls Try.prog 23 #[.pointer none] w (Quiet w (.int .i64 0)) := by
  go_enter Try.func23, Try.ntmps23
  go_wp2
  go_ret
  exact ⟨rfl, rfl⟩
set_option maxHeartbeats 400000 in
theorem rflying_nil (w : World) : Calls Try.prog 25 #[.pointer none] w (Quiet w (.int .i64 0)) := by
  go_enter Try.func25, Try.ntmps25
  go_wp2
  go_ret
  exact ⟨rfl, rfl⟩
set_option maxHeartbeats 400000 in
theorem ris_nil (r : Int) (w : World) : Calls Try.prog 67 #[.pointer none, .int .i64 r] w (Quiet w (.bool false)) := by
  go_enter Try.func67, Try.ntmps67
  go_wp2
  go_ret
  exact ⟨rfl, rfl⟩
set_option maxHeartbeats 400000 in
theorem rhave_nil (r : Int) (w : World) : Calls Try.prog 27 #[.pointer none, .int .i64 r] w (Quiet w (.int .i64 0)) := by
  have H := hide (ris_nil r w)
  go_enter Try.func27, Try.ntmps27
  go_wp2_with fail
  refine H.out.mono ?_
  rintro e w' ⟨rfl, rfl⟩
  go_wp2
  go_ret
  exact ⟨rfl, rfl⟩
set_option maxHeartbeats 400000 in
theorem rrevoke_nil (r : Int) (w : World) : Calls Try.prog 65 #[.pointer none, .int .i64 r] w (Quiet w (.int .i64 1)) := by
  have H := hide (ris_nil r w)
  go_enter Try.func65, Try.ntmps65
  go_wp2_with fail
  refine H.out.mono ?_
  rintro e w' ⟨rfl, rfl⟩
  go_wp2
  go_ret
  exact ⟨rfl, rfl⟩
set_option maxHeartbeats 400000 in
theorem revoke_nil (r : Int) (w : World) : Calls Try.prog 34 #[.pointer none, .int .i64 r] w (Quiet w (.int .i64 1)) := by
  have H := hide (at_nil r w)
  go_enter Try.func34, Try.ntmps34
  go_wp2_with fail
  refine H.out.mono ?_
  rintro e w' ⟨rfl, rfl⟩
  go_wp2
  go_ret
  exact ⟨rfl, rfl⟩
set_option maxHeartbeats 400000 in
theorem send_nil (f t : Int) (w : World) : Calls Try.prog 31 #[.pointer none, .int .i64 f, .int .i64 t] w (Quiet w (.int .i64 1)) := by
  have H := hide (line_nil f t w)
  go_enter Try.func31, Try.ntmps31
  go_wp2_with fail
  refine H.out.mono ?_
  rintro e w' ⟨rfl, rfl⟩
  go_wp2
  go_ret
  exact ⟨rfl, rfl⟩
set_option maxHeartbeats 400000 in
theorem give_nil (f t k : Int) (w : World) : Calls Try.prog 32 #[.pointer none, .int .i64 f, .int .i64 t, .int .i64 k] w (Quiet w (.int .i64 1)) := by
  have H := hide (line_nil f t w)
  go_enter Try.func32, Try.ntmps32
  go_wp2_with fail
  refine H.out.mono ?_
  rintro e w' ⟨rfl, rfl⟩
  go_wp2
  go_ret
  exact ⟨rfl, rfl⟩
set_option maxHeartbeats 400000 in
theorem spend_nil2 (r k : Int) (hk1 : -9223372036854775808 ≤ k) (hk2 : k < 9223372036854775808) (w : World) : Calls Try.prog 33 #[.pointer none, .int .i64 r, .int .i64 k] w (Quiet w (.int .i64 1)) := by
  by_cases h : k < 1
  · go_enter Try.func33, Try.ntmps33
    go_wp2
    go_ret
    exact ⟨rfl, rfl⟩
  · have H := fun d fv => hide (change_no (at_nil r w) d fv)
    have t1 : IntKind.i64.wrap (-k) = -k := IntWalk.i64_in _ (by omega)
    have H2 := H (-k) (.func (.func 73) #[] #[])
    clear H
    go_enter Try.func33, Try.ntmps33
    go_wp2_with fail
    refine H2.out.mono ?_
    rintro e w' ⟨rfl, rfl⟩
    go_wp2
    go_ret
    exact ⟨rfl, rfl⟩
set_option maxHeartbeats 400000 in
theorem return_nil (r k : Int) (w : World) : Calls Try.prog 35 #[.pointer none, .int .i64 r, .int .i64 k] w (Quiet w (.int .i64 1)) := by
  by_cases h : k < 1
  · go_enter Try.func35, Try.ntmps35
    go_wp2
    go_ret
    exact ⟨rfl, rfl⟩
  · have H := fun d fv => hide (change_no (at_nil r w) d fv)
    have H2 := H k (.func (.func 74) #[] #[])
    clear H
    go_enter Try.func35, Try.ntmps35
    go_wp2_with fail
    refine H2.out.mono ?_
    rintro e w' ⟨rfl, rfl⟩
    go_wp2
    go_ret
    exact ⟨rfl, rfl⟩
set_option maxHeartbeats 400000 in
theorem rspend_nil (r k : Int) (w : World) : Calls Try.prog 60 #[.pointer none, .int .i64 r, .int .i64 k] w (Quiet w (.int .i64 1)) := by
  have H := hide (ris_nil r w)
  go_enter Try.func60, Try.ntmps60
  go_wp2_with fail
  refine H.out.mono ?_
  rintro e w' ⟨rfl, rfl⟩
  go_wp2
  go_ret
  exact ⟨rfl, rfl⟩
set_option maxHeartbeats 400000 in
theorem rreturn_nil (r k : Int) (w : World) : Calls Try.prog 61 #[.pointer none, .int .i64 r, .int .i64 k] w (Quiet w (.int .i64 1)) := by
  have H := hide (ris_nil r w)
  go_enter Try.func61, Try.ntmps61
  go_wp2_with fail
  refine H.out.mono ?_
  rintro e w' ⟨rfl, rfl⟩
  go_wp2
  go_ret
  exact ⟨rfl, rfl⟩
set_option maxHeartbeats 400000 in
theorem rgive_nil (r t k : Int) (w : World) : Calls Try.prog 62 #[.pointer none, .int .i64 r, .int .i64 t, .int .i64 k] w (Quiet w (.int .i64 1)) := by
  have H := hide (ris_nil r w)
  go_enter Try.func62, Try.ntmps62
  go_wp2_with fail
  refine H.out.mono ?_
  rintro e w' ⟨rfl, rfl⟩
  go_wp2
  go_ret
  exact ⟨rfl, rfl⟩
set_option maxRecDepth 100000 in
set_option maxHeartbeats 1600000 in
theorem rsend_nil (r t : Int) (w : World) : Calls Try.prog 63 #[.pointer none, .int .i64 r, .int .i64 t] w (Quiet w (.int .i64 1)) := by
  have H := hide (ris_nil r w)
  go_enter Try.func63, Try.ntmps63
  go_wp2_with fail
  refine H.out.mono ?_
  rintro e w' ⟨rfl, rfl⟩
  go_wp2
  go_ret
  exact ⟨rfl, rfl⟩
set_option maxRecDepth 100000 in
set_option maxHeartbeats 1600000 in
theorem rdel_nil (r t : Int) (lost again : Bool) (w : World) : Calls Try.prog 64 #[.pointer none, .int .i64 r, .int .i64 t, .bool lost, .bool again] w (Quiet w (.bool false)) := by
  have H := hide (ris_nil r w)
  go_enter Try.func64, Try.ntmps64
  go_wp2_with fail
  refine H.out.mono ?_
  rintro e w' ⟨rfl, rfl⟩
  go_wp2
  go_ret
  exact ⟨rfl, rfl⟩
end Go.Proofs.Ytapabbpdfplpoaa
namespace Go.Proofs.Ytapabbpdfplpoaa
open Go.RowKit Go.CH Go.CH.Esc
open Go.ChangeMaps (setBlock)

/-- The error of an operation on nothing. -/
def nilE (x : ActG) : Int := if x.k = 4 then 0 else 1
set_option maxRecDepth 100000 in
set_option maxHeartbeats 3200000 in
theorem do_nil {w : World} (x : ActG) (hu : -9223372036854775808 ≤ x.u ∧ x.u ≤ 9223372036854775807) :
    Calls Try.prog 20 #[.pointer none, .agg (actV x)] w (BelowRet w (.tuple #[.int .i64 (nilE x), .bool false])) := by
  obtain ⟨k, a, b, u, lost, again⟩ := x
  have hbel : Below w.heap.size w (w.alloc (.cells #[.int .i64 k, .int .i64 a, .int .i64 b, .int .i64 u, .bool lost, .bool again] 34)) := (Below.refl _ _).alloc (Nat.le_refl _) _
  have HBEL := hide hbel
  simp only [] at hu
  unfold actV
  simp only []
  by_cases k0 : k = 0
  · subst k0
    have KC := hide (spend_nil2 a u hu.1 (by omega) (w := (w.alloc (.cells #[.int .i64 0, .int .i64 a, .int .i64 b, .int .i64 u, .bool lost, .bool again] 34))))
    have e1 : nilE ⟨0, a, b, u, lost, again⟩ = 1 := by simp [nilE]
    rw [e1]
    clear hbel e1 hu
    go_enter Try.func20, Try.ntmps20
    go_wp2_with fail
    refine KC.out.mono ?_
    rintro e w' ⟨rfl, rfl⟩
    go_wp2
    go_ret2
    exact ⟨rfl, HBEL.out⟩
  by_cases k1 : k = 1
  · subst k1
    have KC := hide (return_nil a u (w := (w.alloc (.cells #[.int .i64 1, .int .i64 a, .int .i64 b, .int .i64 u, .bool lost, .bool again] 34))))
    have e1 : nilE ⟨1, a, b, u, lost, again⟩ = 1 := by simp [nilE]
    rw [e1]
    clear hbel e1 hu k0
    go_enter Try.func20, Try.ntmps20
    go_wp2_with fail
    refine KC.out.mono ?_
    rintro e w' ⟨rfl, rfl⟩
    go_wp2
    go_ret2
    exact ⟨rfl, HBEL.out⟩
  by_cases k2 : k = 2
  · subst k2
    have KC := hide (give_nil a b u (w := (w.alloc (.cells #[.int .i64 2, .int .i64 a, .int .i64 b, .int .i64 u, .bool lost, .bool again] 34))))
    have e1 : nilE ⟨2, a, b, u, lost, again⟩ = 1 := by simp [nilE]
    rw [e1]
    clear hbel e1 hu k0 k1
    go_enter Try.func20, Try.ntmps20
    go_wp2_with fail
    refine KC.out.mono ?_
    rintro e w' ⟨rfl, rfl⟩
    go_wp2
    go_ret2
    exact ⟨rfl, HBEL.out⟩
  by_cases k3 : k = 3
  · subst k3
    have KC := hide (send_nil a b (w := (w.alloc (.cells #[.int .i64 3, .int .i64 a, .int .i64 b, .int .i64 u, .bool lost, .bool again] 34))))
    have e1 : nilE ⟨3, a, b, u, lost, again⟩ = 1 := by simp [nilE]
    rw [e1]
    clear hbel e1 hu k0 k1 k2
    go_enter Try.func20, Try.ntmps20
    go_wp2_with fail
    refine KC.out.mono ?_
    rintro e w' ⟨rfl, rfl⟩
    go_wp2
    go_ret2
    exact ⟨rfl, HBEL.out⟩
  by_cases k4 : k = 4
  · subst k4
    have KC := hide (del_nil (f := a) (t := b) (lost := lost) (again := again) (w := (w.alloc (.cells #[.int .i64 4, .int .i64 a, .int .i64 b, .int .i64 u, .bool lost, .bool again] 34))))
    have e1 : nilE ⟨4, a, b, u, lost, again⟩ = 0 := by simp [nilE]
    rw [e1]
    clear hbel e1 hu k0 k1 k2 k3
    go_enter Try.func20, Try.ntmps20
    go_wp2_with fail
    refine KC.out.mono ?_
    rintro e w' ⟨rfl, rfl⟩
    go_wp2
    go_ret2
    exact ⟨rfl, HBEL.out⟩
  have KC := hide (revoke_nil a (w := (w.alloc (.cells #[.int .i64 k, .int .i64 a, .int .i64 b, .int .i64 u, .bool lost, .bool again] 34))))
  have e1 : nilE ⟨k, a, b, u, lost, again⟩ = 1 := by simp [nilE, k4]
  have b0 : (k == 0) = false := by simpa using k0
  have b1 : (k == 1) = false := by simpa using k1
  have b2 : (k == 2) = false := by simpa using k2
  have b3 : (k == 3) = false := by simpa using k3
  have b4 : (k == 4) = false := by simpa using k4
  rw [e1]
  clear hbel e1 hu k0 k1 k2 k3 k4
  go_enter Try.func20, Try.ntmps20
  go_wp2_with fail
  refine KC.out.mono ?_
  rintro e w' ⟨rfl, rfl⟩
  go_wp2
  go_ret2
  exact ⟨rfl, HBEL.out⟩
set_option maxRecDepth 100000 in
set_option maxHeartbeats 3200000 in
theorem want_nil {w : World} (x : ActG) (hu : -9223372036854775808 ≤ x.u ∧ x.u ≤ 9223372036854775807) :
    Calls Try.prog 21 #[.pointer none, .agg (actV x)] w (BelowRet w (.tuple #[.int .i64 (nilE x), .bool false])) := by
  obtain ⟨k, a, b, u, lost, again⟩ := x
  have hbel : Below w.heap.size w (w.alloc (.cells #[.int .i64 k, .int .i64 a, .int .i64 b, .int .i64 u, .bool lost, .bool again] 34)) := (Below.refl _ _).alloc (Nat.le_refl _) _
  have HBEL := hide hbel
  simp only [] at hu
  unfold actV
  simp only []
  by_cases k0 : k = 0
  · subst k0
    have KC := hide (rspend_nil a u (w := (w.alloc (.cells #[.int .i64 0, .int .i64 a, .int .i64 b, .int .i64 u, .bool lost, .bool again] 34))))
    have e1 : nilE ⟨0, a, b, u, lost, again⟩ = 1 := by simp [nilE]
    rw [e1]
    clear hbel e1 hu
    go_enter Try.func21, Try.ntmps21
    go_wp2_with fail
    refine KC.out.mono ?_
    rintro e w' ⟨rfl, rfl⟩
    go_wp2
    go_ret2
    exact ⟨rfl, HBEL.out⟩
  by_cases k1 : k = 1
  · subst k1
    have KC := hide (rreturn_nil a u (w := (w.alloc (.cells #[.int .i64 1, .int .i64 a, .int .i64 b, .int .i64 u, .bool lost, .bool again] 34))))
    have e1 : nilE ⟨1, a, b, u, lost, again⟩ = 1 := by simp [nilE]
    rw [e1]
    clear hbel e1 hu k0
    go_enter Try.func21, Try.ntmps21
    go_wp2_with fail
    refine KC.out.mono ?_
    rintro e w' ⟨rfl, rfl⟩
    go_wp2
    go_ret2
    exact ⟨rfl, HBEL.out⟩
  by_cases k2 : k = 2
  · subst k2
    have KC := hide (rgive_nil a b u (w := (w.alloc (.cells #[.int .i64 2, .int .i64 a, .int .i64 b, .int .i64 u, .bool lost, .bool again] 34))))
    have e1 : nilE ⟨2, a, b, u, lost, again⟩ = 1 := by simp [nilE]
    rw [e1]
    clear hbel e1 hu k0 k1
    go_enter Try.func21, Try.ntmps21
    go_wp2_with fail
    refine KC.out.mono ?_
    rintro e w' ⟨rfl, rfl⟩
    go_wp2
    go_ret2
    exact ⟨rfl, HBEL.out⟩
  by_cases k3 : k = 3
  · subst k3
    have KC := hide (rsend_nil a b (w := (w.alloc (.cells #[.int .i64 3, .int .i64 a, .int .i64 b, .int .i64 u, .bool lost, .bool again] 34))))
    have e1 : nilE ⟨3, a, b, u, lost, again⟩ = 1 := by simp [nilE]
    rw [e1]
    clear hbel e1 hu k0 k1 k2
    go_enter Try.func21, Try.ntmps21
    go_wp2_with fail
    refine KC.out.mono ?_
    rintro e w' ⟨rfl, rfl⟩
    go_wp2
    go_ret2
    exact ⟨rfl, HBEL.out⟩
  by_cases k4 : k = 4
  · subst k4
    have KC := hide (rdel_nil a b lost again (w := (w.alloc (.cells #[.int .i64 4, .int .i64 a, .int .i64 b, .int .i64 u, .bool lost, .bool again] 34))))
    have e1 : nilE ⟨4, a, b, u, lost, again⟩ = 0 := by simp [nilE]
    rw [e1]
    clear hbel e1 hu k0 k1 k2 k3
    go_enter Try.func21, Try.ntmps21
    go_wp2_with fail
    refine KC.out.mono ?_
    rintro e w' ⟨rfl, rfl⟩
    go_wp2
    go_ret2
    exact ⟨rfl, HBEL.out⟩
  have KC := hide (rrevoke_nil a (w := (w.alloc (.cells #[.int .i64 k, .int .i64 a, .int .i64 b, .int .i64 u, .bool lost, .bool again] 34))))
  have e1 : nilE ⟨k, a, b, u, lost, again⟩ = 1 := by simp [nilE, k4]
  have b0 : (k == 0) = false := by simpa using k0
  have b1 : (k == 1) = false := by simpa using k1
  have b2 : (k == 2) = false := by simpa using k2
  have b3 : (k == 3) = false := by simpa using k3
  have b4 : (k == 4) = false := by simpa using k4
  rw [e1]
  clear hbel e1 hu k0 k1 k2 k3 k4
  go_enter Try.func21, Try.ntmps21
  go_wp2_with fail
  refine KC.out.mono ?_
  rintro e w' ⟨rfl, rfl⟩
  go_wp2
  go_ret2
  exact ⟨rfl, HBEL.out⟩
end Go.Proofs.Ytapabbpdfplpoaa
namespace Go.Proofs.Ytapabbpdfplpoaa
open Go.RowKit Go.CH Go.CH.Esc
open Go.ChangeMaps (setBlock)

/-- Escrow and reference, of the models g and h. -/
inductive Two (U : Int) (n : Nat) (w0 : World) (pv qv : Value) (g h : GM) (W : World) : Prop
  | non (hp : pv = .pointer none) (hq : qv = .pointer none) (hb : Below w0.heap.size w0 W)
  | som (p q : Nat) (hp : pv = .pointer (some ⟨p, 0, none⟩)) (hq : qv = .pointer (some ⟨q, 0, none⟩)) (hr : Run (fun _ => False) w0 (star (EscO g p) (RefO h q)) W)
      (ig : Inv g U) (ih : Inv h U) (bg : HB g n) (bh : HB h n) (dg : Diag g) (dh : Diag h)
def isN (v : Value) : Bool := match v with | .pointer none => true | _ => false
def twE (v : Value) (g : GM) (x : ActG) : Int := if isN v = true then nilE x else doE g x
def twB (v : Value) (g : GM) (x : ActG) : Bool := if isN v = true then false else doB g x
def twS (v : Value) (g : GM) : Int := if isN v = true then 0 else spentG g
def twF (v : Value) (g : GM) : Int := if isN v = true then 0 else flyG g
def twH (v : Value) (g : GM) (r : Int) : Int := if isN v = true then 0 else have_ g r
def TwoRet (U : Int) (n : Nat) (w0 : World) (pv qv : Value) (g h : GM) (v : Value) (e : Ending) (W : World) : Prop := e = .returned v ∧ Two U n w0 pv qv g h W
section
variable {U : Int} {n : Nat} {w0 : World} {pv qv : Value} {g h : GM} {W : World}
theorem Two.below (S : Two U n w0 pv qv g h W) {W' : World} (hb : Below W.heap.size W W') : Two U n w0 pv qv g h W' := by
  cases S with
  | non hp hq h0 => exact .non hp hq (h0.trans (hb.mono h0.size))
  | som p q hp hq hr ig ih bg bh dg dh => exact .som p q hp hq (hr.below (star_ok escO_ok refO_ok) hb) ig ih bg bh dg dh
theorem Two.drew (S : Two U n w0 pv qv g h W) : Two U n w0 pv qv g h W.drew := S.below (below_drew (Below.refl _ _))
theorem Two.bel (S : Two U n w0 pv qv g h W) : Below w0.heap.size w0 W := by
  cases S with
  | non hp hq h0 => exact h0
  | som p q hp hq hr ig ih bg bh dg dh => exact hr.bel
theorem two_do (S : Two U n w0 pv qv g h W) (hn : n ≤ 1000) (x : ActG) (hu : -9223372036854775808 ≤ x.u ∧ x.u ≤ 9223372036854775807) :
    Calls Try.prog 20 #[pv, .agg (actV x)] W (TwoRet U (n + 1) w0 pv qv (doM g x) h (.tuple #[.int .i64 (twE pv g x), .bool (twB pv g x)])) := by
  cases S with
  | non hp hq h0 =>
    subst hp
    refine (do_nil (w := W) x hu).mono fun e W' k => ?_
    exact ⟨k.1, .non rfl hq (h0.trans (k.2.mono h0.size))⟩
  | som p q hp hq hr ig ih bg bh dg dh =>
    subst hp
    obtain ⟨F, hA, -, bk⟩ := hr.take escO_ok refO_ok
    refine (do_any hA ig (bg.mono (by omega)) x hu).mono fun e W' k => ?_
    exact ⟨k.1, .som p q rfl hq (bk _ _ k.2) (ig.do x) ih (bg.do x) (bh.mono (by omega)) (dg.do x) dh⟩
theorem two_want (S : Two U n w0 pv qv g h W) (hn : n ≤ 1000) (x : ActG) (hu : -9223372036854775808 ≤ x.u ∧ x.u ≤ 9223372036854775807) :
    Calls Try.prog 21 #[qv, .agg (actV x)] W (TwoRet U (n + 1) w0 pv qv g (doM h x) (.tuple #[.int .i64 (twE qv h x), .bool (twB qv h x)])) := by
  cases S with
  | non hp hq h0 =>
    subst hq
    refine (want_nil (w := W) x hu).mono fun e W' k => ?_
    exact ⟨k.1, .non hp rfl (h0.trans (k.2.mono h0.size))⟩
  | som p q hp hq hr ig ih bg bh dg dh =>
    subst hq
    obtain ⟨F, hA, -, bk⟩ := hr.swap.take refO_ok escO_ok
    refine (want_any hA ih (bh.mono (by omega)) x hu).mono fun e W' k => ?_
    exact ⟨k.1, .som p q hp rfl (bk _ _ k.2).swap ig (ih.do x) (bg.mono (by omega)) (bh.do x) dg (dh.do x)⟩
theorem two_spent (S : Two U n w0 pv qv g h W) : Calls Try.prog 22 #[pv] W (BelowRet W (.int .i64 (twS pv g))) := by
  cases S with
  | non hp hq h0 =>
    subst hp
    exact (spent_nil W).mono fun e W' k => ⟨k.1, by rw [k.2]; exact Below.refl _ _⟩
  | som p q hp hq hr ig ih bg bh dg dh =>
    subst hp
    obtain ⟨F, hA, -, -⟩ := hr.take escO_ok refO_ok
    exact spent_any hA ig
theorem two_rspent (S : Two U n w0 pv qv g h W) : Calls Try.prog 23 #[qv] W (BelowRet W (.int .i64 (twS qv h))) := by
  cases S with
  | non hp hq h0 =>
    subst hq
    exact (rspent_nil W).mono fun e W' k => ⟨k.1, by rw [k.2]; exact Below.refl _ _⟩
  | som p q hp hq hr ig ih bg bh dg dh =>
    subst hq
    obtain ⟨F, hA, -, -⟩ := hr.swap.take refO_ok escO_ok
    exact (rspent_any hA ih).mono fun e W' k => ⟨k.1, by rw [k.2]; exact Below.refl _ _⟩
theorem two_fly (S : Two U n w0 pv qv g h W) (hn : n ≤ 1000) : Calls Try.prog 24 #[pv] W (BelowRet W (.int .i64 (twF pv g))) := by
  cases S with
  | non hp hq h0 =>
    subst hp
    exact (flying_nil W).mono fun e W' k => ⟨k.1, by rw [k.2]; exact Below.refl _ _⟩
  | som p q hp hq hr ig ih bg bh dg dh =>
    subst hp
    obtain ⟨F, hA, -, -⟩ := hr.take escO_ok refO_ok
    exact fly_any hA ig (bg.mono (by omega))
theorem two_rfly (S : Two U n w0 pv qv g h W) (hn : n ≤ 1000) : Calls Try.prog 25 #[qv] W (BelowRet W (.int .i64 (twF qv h))) := by
  cases S with
  | non hp hq h0 =>
    subst hq
    exact (rflying_nil W).mono fun e W' k => ⟨k.1, by rw [k.2]; exact Below.refl _ _⟩
  | som p q hp hq hr ig ih bg bh dg dh =>
    subst hq
    obtain ⟨F, hA, -, -⟩ := hr.swap.take refO_ok escO_ok
    exact rfly_any hA ih dh (bh.mono (by omega))
theorem two_have (S : Two U n w0 pv qv g h W) (r : Int) : Calls Try.prog 26 #[pv, .int .i64 r] W (Quiet W (.int .i64 (twH pv g r))) := by
  cases S with
  | non hp hq h0 =>
    subst hp
    exact have_nil r W
  | som p q hp hq hr ig ih bg bh dg dh =>
    subst hp
    obtain ⟨F, hA, -, -⟩ := hr.take escO_ok refO_ok
    exact have_esc hA ig r
theorem two_rhave (S : Two U n w0 pv qv g h W) (r : Int) : Calls Try.prog 27 #[qv, .int .i64 r] W (Quiet W (.int .i64 (twH qv h r))) := by
  cases S with
  | non hp hq h0 =>
    subst hq
    exact rhave_nil r W
  | som p q hp hq hr ig ih bg bh dg dh =>
    subst hq
    obtain ⟨F, hA, -, -⟩ := hr.swap.take refO_ok escO_ok
    obtain ⟨s, hz, hS⟩ := hA
    exact rhave_any hS.read r
theorem Two.sameN (S : Two U n w0 pv qv g h W) : isN pv = isN qv := by
  cases S with
  | non hp hq h0 => subst hp; subst hq; rfl
  | som p q hp hq hr ig ih bg bh dg dh => subst hp; subst hq; rfl
end
end Go.Proofs.Ytapabbpdfplpoaa
namespace Go.Proofs.Ytapabbpdfplpoaa
open Go.RowKit Go.CH Go.CH.Esc
open Go.ChangeMaps (setBlock)

def badN (r u : Int) : Prop := r < 1 ∨ 8 < r ∨ u < 0 ∨ 1000000000 < u
theorem mat_no1 {w0 W : World} (hb : Below w0.heap.size w0 W) {r u : Int} (h : badN r u) : Calls Try.prog 18 #[.int .i64 r, .int .i64 u] W (fun e W' => e = .returned (.tuple #[.pointer none, .int .i64 1]) ∧ Below w0.heap.size w0 W') :=
  (new_no r u W h).mono fun e W' k => ⟨k.1, by rw [← k.2]; exact hb⟩
theorem mat_no2 {w0 W : World} (hb : Below w0.heap.size w0 W) {r u : Int} (h : badN r u) (g : GM) : Calls Try.prog 19 #[.int .i64 r, .int .i64 u] W (TwoRet u 0 w0 (.pointer none) (.pointer none) g g (.tuple #[.pointer none, .int .i64 1])) :=
  (rnew_no r u W h).mono fun e W' k => ⟨k.1, by rw [← k.2]; exact .non rfl rfl hb⟩
theorem mat_ok1 {w0 W : World} (hb : Below w0.heap.size w0 W) (r : Nat) (u : Int) (h1 : 1 ≤ r) (h2 : r ≤ 8) (h3 : 0 ≤ u) (h4 : u ≤ 1000000000) :
    Calls Try.prog 18 #[.int .i64 r, .int .i64 u] W (fun e W' => ∃ p, e = .returned (.tuple #[.pointer (some ⟨p, 0, none⟩), .int .i64 0]) ∧ St u 0 w0 emp p (newG r u) W') :=
  st_new emp_ok ((Run.begin w0).below emp_ok hb) r u h1 h2 h3 h4
theorem mat_ok2 {w0 W : World} {r : Nat} {u : Int} {p : Nat} (S : St u 0 w0 emp p (newG r u) W) (h1 : 1 ≤ r) (h2 : r ≤ 8) (h3 : 0 ≤ u) (h4 : u ≤ 1000000000) :
    Calls Try.prog 19 #[.int .i64 r, .int .i64 u] W (fun e W' => ∃ q, e = .returned (.tuple #[.pointer (some ⟨q, 0, none⟩), .int .i64 0]) ∧ Two u 0 w0 (.pointer (some ⟨p, 0, none⟩)) (.pointer (some ⟨q, 0, none⟩)) (newG r u) (newG r u) W') := by
  refine (rnew_ok r u W h1 h2 h3 h4).mono fun e W' hp => ?_
  obtain ⟨q, he, hp⟩ := hp
  have hr := S.run.fresh (star_ok escO_ok S.xo) hp
  exact ⟨q, he, .som p q rfl rfl hr.last.drop.swap S.inv S.inv S.hb S.hb (Diag.new _ _) (Diag.new _ _)⟩
end Go.Proofs.Ytapabbpdfplpoaa
