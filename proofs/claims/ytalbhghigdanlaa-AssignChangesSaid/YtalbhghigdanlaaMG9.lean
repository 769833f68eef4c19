/-
  Assign: what Best makes in memory.
  Assign: two appends to nothing in one statement, in any order of their parts.
  Assign: the problem with a row once more, as slices.Concat makes it, in any order of its parts.
-/
import Derived.Test.YtalbhghigdanlaaMG8
set_option linter.unusedSimpArgs false
set_option linter.unusedVariables false
namespace Go.Proofs.Ytalbhghigdanlaa
open Go.RowKit Go.CH Go.CH.Asg
open Go.ChangeMaps (setBlock)

theorem res_cell_tmp {fn : Func} {p u : Tmp} {ty : TypeId} (h : fn.results = #[.cell p ty, .tmp u]) {P : Program} (tmps : Array Value) (w : World) (g : Nat) (t : TypeId) (cs : Array Value) (fr : Nat × Nat) {d : Array Field}
    (hp : tmps.getD p undef = .pointer (some ⟨g, 0, none⟩)) (hg : w.heap[g]? = some (.cells cs t fr))
    (hu : P.underlying ty = some (.struct d)) (hi : (P.info? ty).map (·.size) = some cs.size) :
    (results fn tmps).run P w = .ok (.tuple #[.agg cs, tmps.getD u undef]) w := by
  rw [results_cell_tmp h, hp]
  simp [asAddr, run_loadVar_row w g t ty cs fr (.struct d) hg hu rfl hi]
def zeroA : Array Value := #[.int .i64 0, .slice none 0 0, .slice none 0 0, .slice none 0 0]
/-- A list of numbers of its own. -/
def VecO (A : Option Addr) (c : Nat) (l : List Int) : Own := RowO 3 1 (.slice A l.length c) l.length (ints l)
theorem vec_ok {A : Option Addr} {c : Nat} {l : List Int} : (VecO A c l).Ok := row_ok
theorem vec_snoc {A : Option Addr} {c : Nat} {l : List Int} {x : Int} : RowO 3 1 (.slice A (l.length + 1) c) (l.length + 1) (ints l ++ [.int .i64 x]) = VecO A c (l ++ [x]) := by
  unfold VecO
  have e : ints (l ++ [x]) = ints l ++ [.int .i64 x] := by simp [ints]
  rw [e, List.length_append, List.length_singleton]
theorem vec_vec {w : World} {F : Nat → Prop} {A : Option Addr} {c : Nat} {l : List Int} (h : VecO A c l w F) : Vec w A l := row_src h (ints_one l)
theorem vec_nil (w : World) : VecO none 0 [] w (fun _ => False) := row_nil w 3 1
/-- What Best has in hand. -/
def BestO (g6 ga : Nat) (k : Int) (A1 A2 A3 : Option Addr) (c1 c2 c3 : Nat) (ps us vs : List Int) : Own :=
  star (VecO A1 c1 ps) (star (VecO A2 c2 us) (star (VecO A3 c3 vs) (star (CellO ga #[.int .i64 k, .slice A1 ps.length c1, .slice A2 us.length c2, .slice A3 vs.length c3] 27) (CellO g6 zeroA 27))))
theorem best_ok {g6 ga : Nat} {k : Int} {A1 A2 A3 : Option Addr} {c1 c2 c3 : Nat} {ps us vs : List Int} : (BestO g6 ga k A1 A2 A3 c1 c2 c3 ps us vs).Ok := star_ok vec_ok (star_ok vec_ok (star_ok vec_ok (star_ok cell_ok cell_ok)))
/-- An assignment handed back. -/
structure BestM where
  k : Int
  ps : List Int
  us : List Int
  vs : List Int
def bestM (C : List (List Int)) (D E : List Int) : BestM := ⟨bcost (cF C) (lF D) (lF E) D.length E.length, bps (cF C) (lF D) (lF E) D.length E.length, bus (cF C) (lF D) (lF E) D.length E.length, bvs (cF C) (lF D) (lF E) D.length E.length⟩
/-- An assignment as a value whose lists lie in the world. -/
def AsgV (w : World) (v : Value) (x : BestM) : Prop :=
  ∃ A1 A2 A3 c1 c2 c3, v = .agg #[.int .i64 x.k, .slice A1 x.ps.length c1, .slice A2 x.us.length c2, .slice A3 x.vs.length c3] ∧ Vec w A1 x.ps ∧ Vec w A2 x.us ∧ Vec w A3 x.vs
def BestRet (w : World) (C : List (List Int)) (D E : List Int) (e : Ending) (w' : World) : Prop :=
  ∃ v, e = .returned (.tuple #[v, .int .i64 (if vld C D E then 0 else 1)]) ∧ Below w.heap.size w w' ∧ AsgV w' v (if vld C D E then bestM C D E else ⟨0, [], [], []⟩)
section
variable {w0 W : World} {X Y : Own}
theorem cell_put {g : Nat} {cs cs' : Array Value} {t : TypeId} (hY : Y.Ok) (h : Run (fun _ => False) w0 (star (CellO g cs t) Y) W) (i : Nat) (v : Value) (he : cs.setIfInBounds i v = cs') : Run (fun _ => False) w0 (star (CellO g cs' t) Y) (W.setCell ⟨g, i, none⟩ v) := by
  obtain ⟨F, hC, -, bk⟩ := h.take cell_ok hY
  rw [← he]
  exact bk _ _ (cell_set hC i v)
/-- A number more at the end of the pairs. -/
theorem best_ps {g6 ga : Nat} {k x : Int} {A1 A2 A3 A8 : Option Addr} {c1 c2 c3 c8 : Nat} {ps us vs : List Int} (hX : X.Ok)
    (h : Run (fun _ => False) w0 (star (RowO 3 1 (.slice A8 (ps.length + 1) c8) (ps.length + 1) (ints ps ++ [.int .i64 x])) (star (VecO A2 c2 us) (star (VecO A3 c3 vs) (star (CellO ga #[.int .i64 k, .slice A1 ps.length c1, .slice A2 us.length c2, .slice A3 vs.length c3] 27) (star (CellO g6 zeroA 27) X))))) W) :
    Run (fun _ => False) w0 (star (BestO g6 ga k A8 A2 A3 c8 c2 c3 (ps ++ [x]) us vs) X) (W.setCell ⟨ga, 1, none⟩ (.slice A8 (ps.length + 1) c8)) := by
  rw [vec_snoc] at h
  have h1 := cell_put (star_ok vec_ok (star_ok vec_ok (star_ok vec_ok (star_ok cell_ok hX)))) (h.perm (by ac_rfl : _ = star (CellO ga #[.int .i64 k, .slice A1 ps.length c1, .slice A2 us.length c2, .slice A3 vs.length c3] 27) (star (VecO A8 c8 (ps ++ [x])) (star (VecO A2 c2 us) (star (VecO A3 c3 vs) (star (CellO g6 zeroA 27) X)))))) 1 (.slice A8 (ps.length + 1) c8) (cs' := #[.int .i64 k, .slice A8 (ps ++ [x]).length c8, .slice A2 us.length c2, .slice A3 vs.length c3]) (by rw [List.length_append, List.length_singleton]; rfl)
  unfold BestO
  exact h1.perm (by ac_rfl)
theorem best_us {g6 ga : Nat} {k x : Int} {A1 A2 A3 A8 : Option Addr} {c1 c2 c3 c8 : Nat} {ps us vs : List Int} (hX : X.Ok)
    (h : Run (fun _ => False) w0 (star (RowO 3 1 (.slice A8 (us.length + 1) c8) (us.length + 1) (ints us ++ [.int .i64 x])) (star (VecO A1 c1 ps) (star (VecO A3 c3 vs) (star (CellO ga #[.int .i64 k, .slice A1 ps.length c1, .slice A2 us.length c2, .slice A3 vs.length c3] 27) (star (CellO g6 zeroA 27) X))))) W) :
    Run (fun _ => False) w0 (star (BestO g6 ga k A1 A8 A3 c1 c8 c3 ps (us ++ [x]) vs) X) (W.setCell ⟨ga, 2, none⟩ (.slice A8 (us.length + 1) c8)) := by
  rw [vec_snoc] at h
  have h1 := cell_put (star_ok vec_ok (star_ok vec_ok (star_ok vec_ok (star_ok cell_ok hX)))) (h.perm (by ac_rfl : _ = star (CellO ga #[.int .i64 k, .slice A1 ps.length c1, .slice A2 us.length c2, .slice A3 vs.length c3] 27) (star (VecO A1 c1 ps) (star (VecO A8 c8 (us ++ [x])) (star (VecO A3 c3 vs) (star (CellO g6 zeroA 27) X)))))) 2 (.slice A8 (us.length + 1) c8) (cs' := #[.int .i64 k, .slice A1 ps.length c1, .slice A8 (us ++ [x]).length c8, .slice A3 vs.length c3]) (by rw [List.length_append, List.length_singleton]; rfl)
  unfold BestO
  exact h1.perm (by ac_rfl)
theorem best_vs {g6 ga : Nat} {k x : Int} {A1 A2 A3 A8 : Option Addr} {c1 c2 c3 c8 : Nat} {ps us vs : List Int} (hX : X.Ok)
    (h : Run (fun _ => False) w0 (star (RowO 3 1 (.slice A8 (vs.length + 1) c8) (vs.length + 1) (ints vs ++ [.int .i64 x])) (star (VecO A1 c1 ps) (star (VecO A2 c2 us) (star (CellO ga #[.int .i64 k, .slice A1 ps.length c1, .slice A2 us.length c2, .slice A3 vs.length c3] 27) (star (CellO g6 zeroA 27) X))))) W) :
    Run (fun _ => False) w0 (star (BestO g6 ga k A1 A2 A8 c1 c2 c8 ps us (vs ++ [x])) X) (W.setCell ⟨ga, 3, none⟩ (.slice A8 (vs.length + 1) c8)) := by
  rw [vec_snoc] at h
  have h1 := cell_put (star_ok vec_ok (star_ok vec_ok (star_ok vec_ok (star_ok cell_ok hX)))) (h.perm (by ac_rfl : _ = star (CellO ga #[.int .i64 k, .slice A1 ps.length c1, .slice A2 us.length c2, .slice A3 vs.length c3] 27) (star (VecO A1 c1 ps) (star (VecO A2 c2 us) (star (VecO A8 c8 (vs ++ [x])) (star (CellO g6 zeroA 27) X)))))) 3 (.slice A8 (vs.length + 1) c8) (cs' := #[.int .i64 k, .slice A1 ps.length c1, .slice A2 us.length c2, .slice A8 (vs ++ [x]).length c8]) (by rw [List.length_append, List.length_singleton]; rfl)
  unfold BestO
  exact h1.perm (by ac_rfl)
/-- The cells of the assignment in hand. -/
theorem best_cells {g6 ga : Nat} {k : Int} {A1 A2 A3 : Option Addr} {c1 c2 c3 : Nat} {ps us vs : List Int} (h : Run (fun _ => False) w0 (star (BestO g6 ga k A1 A2 A3 c1 c2 c3 ps us vs) X) W) :
    W.cell? ⟨ga, 0, none⟩ = some (.int .i64 k) ∧ W.cell? ⟨ga, 1, none⟩ = some (.slice A1 ps.length c1) ∧ W.cell? ⟨ga, 2, none⟩ = some (.slice A2 us.length c2) ∧ W.cell? ⟨ga, 3, none⟩ = some (.slice A3 vs.length c3) ∧ ∀ i, W.frozen? ⟨ga, i, none⟩ = false := by
  have h1 := h
  unfold BestO at h1
  obtain ⟨F, hC⟩ := (h1.perm (by ac_rfl : _ = star (CellO ga #[.int .i64 k, .slice A1 ps.length c1, .slice A2 us.length c2, .slice A3 vs.length c3] 27) (star (VecO A1 c1 ps) (star (VecO A2 c2 us) (star (VecO A3 c3 vs) (star (CellO g6 zeroA 27) X)))))).fst
  exact ⟨cell_at hC rfl, cell_at hC rfl, cell_at hC rfl, cell_at hC rfl, cell_free hC⟩
theorem best_p1 {g6 ga : Nat} {k : Int} {A1 A2 A3 : Option Addr} {c1 c2 c3 : Nat} {ps us vs : List Int} (h : Run (fun _ => False) w0 (star (BestO g6 ga k A1 A2 A3 c1 c2 c3 ps us vs) X) W) :
    Run (fun _ => False) w0 (star (VecO A1 c1 ps) (star (VecO A2 c2 us) (star (VecO A3 c3 vs) (star (CellO ga #[.int .i64 k, .slice A1 ps.length c1, .slice A2 us.length c2, .slice A3 vs.length c3] 27) (star (CellO g6 zeroA 27) X))))) W := by
  unfold BestO at h; exact h.perm (by ac_rfl)
theorem best_p2 {g6 ga : Nat} {k : Int} {A1 A2 A3 : Option Addr} {c1 c2 c3 : Nat} {ps us vs : List Int} (h : Run (fun _ => False) w0 (star (BestO g6 ga k A1 A2 A3 c1 c2 c3 ps us vs) X) W) :
    Run (fun _ => False) w0 (star (VecO A2 c2 us) (star (VecO A1 c1 ps) (star (VecO A3 c3 vs) (star (CellO ga #[.int .i64 k, .slice A1 ps.length c1, .slice A2 us.length c2, .slice A3 vs.length c3] 27) (star (CellO g6 zeroA 27) X))))) W := by
  unfold BestO at h; exact h.perm (by ac_rfl)
theorem best_p3 {g6 ga : Nat} {k : Int} {A1 A2 A3 : Option Addr} {c1 c2 c3 : Nat} {ps us vs : List Int} (h : Run (fun _ => False) w0 (star (BestO g6 ga k A1 A2 A3 c1 c2 c3 ps us vs) X) W) :
    Run (fun _ => False) w0 (star (VecO A3 c3 vs) (star (VecO A1 c1 ps) (star (VecO A2 c2 us) (star (CellO ga #[.int .i64 k, .slice A1 ps.length c1, .slice A2 us.length c2, .slice A3 vs.length c3] 27) (star (CellO g6 zeroA 27) X))))) W := by
  unfold BestO at h; exact h.perm (by ac_rfl)
theorem oks5 {a b c d : Own} (h1 : a.Ok) (h2 : b.Ok) (h3 : c.Ok) (h4 : d.Ok) (hX : X.Ok) : (star a (star b (star c (star d X)))).Ok := star_ok h1 (star_ok h2 (star_ok h3 (star_ok h4 hX)))
/-- The literal of one number that an append reads. -/
theorem src_lit (W : World) (x : Int) : Src (W.alloc (.cells #[.int .i64 x] 3)) (some ⟨W.heap.size, 0, none⟩) 1 1 [.int .i64 x] := Src.one (heap_alloc_new W _) rfl
end
end Go.Proofs.Ytalbhghigdanlaa
namespace Go.Proofs.Ytalbhghigdanlaa
open Go.RowKit Go.CH Go.CH.Asg
open Go.ChangeMaps (setBlock)

def andO (p : Prop) (O : Own) : Own := fun w F => p ∧ O w F
theorem andO_ok {p : Prop} {O : Own} (h : O.Ok) : (andO p O).Ok := ⟨fun ⟨_, h1⟩ => h.lt h1, fun ⟨h0, h1⟩ hk => ⟨h0, h.keep h1 hk⟩⟩
def exO {α : Type} (O : α → Own) : Own := fun w F => ∃ x, O x w F
theorem exO_ok {α : Type} {O : α → Own} (h : ∀ x, (O x).Ok) : (exO O).Ok := ⟨fun ⟨x, h1⟩ => (h x).lt h1, fun ⟨x, h1⟩ hk => ⟨x, (h x).keep h1 hk⟩⟩
/-- The row that is made of nothing, then of all of what is there. -/
def apX (e : TypeId) (n : Nat) (xs : List Value) : List Value → Own
  | [] => emp
  | [v] => exO fun g : Nat => andO (v = .slice (some ⟨g, 0, none⟩) 0 0) (RowO e 1 v 0 [])
  | [_, v] => exO fun p : Option Addr × Nat => andO (v = .slice p.1 n p.2) (RowO e 1 v n xs)
  | _ => emp
/-- The literal of one element. -/
def apY (e : TypeId) (x : Value) : List Value → Own
  | [] => emp
  | [v] => exO fun g : Nat => andO (v = .slice (some ⟨g, 0, none⟩) 1 1) (CellO g #[x] e)
  | _ => emp
theorem apX_ok {e : TypeId} {n : Nat} {xs : List Value} : ∀ vs, (apX e n xs vs).Ok
  | [] => emp_ok
  | [_] => exO_ok fun _ => andO_ok row_ok
  | [_, _] => exO_ok fun _ => andO_ok row_ok
  | _ :: _ :: _ :: _ => emp_ok
theorem apY_ok {e : TypeId} {x : Value} : ∀ vs, (apY e x vs).Ok
  | [] => emp_ok
  | [_] => exO_ok fun _ => andO_ok cell_ok
  | _ :: _ :: _ => emp_ok
theorem run_ex {F0 : Nat → Prop} {w0 W : World} {α : Type} {O : α → Own} {X : Own} (h : Run F0 w0 (star (exO O) X) W) : ∃ x, Run F0 w0 (star (O x) X) W := by
  obtain ⟨F, ⟨F1, F2, ⟨x, h1⟩, h2, h3, h4⟩, h5⟩ := h.own
  exact ⟨x, ⟨F, ⟨F1, F2, h1, h2, h3, h4⟩, h5⟩, h.mod⟩
theorem run_and {F0 : Nat → Prop} {w0 W : World} {p : Prop} {O X : Own} (h : Run F0 w0 (star (andO p O) X) W) : p ∧ Run F0 w0 (star O X) W := by
  obtain ⟨F, ⟨F1, F2, ⟨h0, h1⟩, h2, h3, h4⟩, h5⟩ := h.own
  exact ⟨h0, ⟨F, ⟨F1, F2, h1, h2, h3, h4⟩, h5⟩, h.mod⟩
theorem run_mk {F0 : Nat → Prop} {w0 W : World} {α : Type} {p : α → Prop} {O : α → Own} {X : Own} (x : α) (hp : p x) (h : Run F0 w0 (star (O x) X) W) : Run F0 w0 (star (exO fun x => andO (p x) (O x)) X) W :=
  h.imp fun w F hh => star_mono hh (fun F h1 => ⟨x, hp, h1⟩) (fun _ h => h)
theorem run_drop0 {F0 : Nat → Prop} {w0 W : World} {X : Own} (h : Run F0 w0 (star emp X) W) : Run F0 w0 X W := h.drop
section
variable {w0 W : World} {F0 : Nat → Prop} {Z : Own} {ops : Array Oper} {a : Act} {Q : Exit → Act → World → Prop}
/-- '[]T{}'. -/
theorem ap_make {o : Oper} {ts e : TypeId} {z : Value} {bytes n : Nat} {xs : List Value} (S : SliceOk Try.prog ts e z 1 bytes) (hop : o.op = Op.buildSlice ts 0 #[]) (hZ : Z.Ok) (h : Run F0 w0 (star (apX e n xs []) Z) W)
    (hrun : ∀ w : World, (execOp a.eval o).run Try.prog w = .ok (.value (.slice (some ⟨w.heap.size, 0, none⟩) 0 0)) (w.alloc (.cells #[] e))) :
    o.wp Try.prog a W (fun a' w' => ∃ v, a' = a.put o.dst v ∧ Run F0 w0 (star (apX e n xs ([] ++ [v])) Z) w') Q := by
  unfold Oper.wp
  rw [hrun W]
  exact ⟨_, rfl, run_mk (p := fun g : Nat => (Value.slice (some ⟨W.heap.size, 0, none⟩) 0 0) = .slice (some ⟨g, 0, none⟩) 0 0) W.heap.size rfl ((run_drop0 h).fresh hZ (row_made W e 1))⟩
/-- 'append([]T{}, l...)'. -/
theorem ap_all {o : Oper} {ts e : TypeId} {z : Value} {bytes n c : Nat} {xs : List Value} {v : Value} {B : Option Addr} (S : SliceOk Try.prog ts e z 1 bytes) (hby : bytes ≤ 1000) (s x : Operand) (hop : o.op = .call { callee := .builtin .append, args := #[s, x], argTypes := #[ts, ts] }) (hZ : Z.Ok) (h : Run F0 w0 (star (apX e n xs [v]) Z) W)
    (hs : a.eval s = v) (hx : a.eval x = .slice B n c) (hS : Src W B n 1 xs) (hn : n ≤ 1000) :
    o.wp Try.prog a W (fun a' w' => ∃ v', a' = a.put o.dst v' ∧ Run F0 w0 (star (apX e n xs ([v] ++ [v'])) Z) w') Q := by
  obtain ⟨g, h1⟩ := run_ex h
  obtain ⟨rfl, h2⟩ := run_and h1
  obtain ⟨F7, hR7, -, bk7⟩ := h2.take row_ok hZ
  refine wp_app s x hop S W 0 hs hR7.1 hx hS (by omega) hby (Nat.zero_le _) ?_
  intro v8 w8 ho8 hg8 hv8
  have S8 := bk7 _ _ (row_app hR7 ho8 hg8 hv8)
  rw [Nat.zero_add, List.nil_append] at S8 ho8
  obtain ⟨A8, c8, rfl⟩ := own_form ho8
  exact ⟨_, rfl, run_mk (p := fun p : Option Addr × Nat => (Value.slice A8 n c8) = .slice p.1 n p.2) (A8, c8) rfl S8⟩
/-- '[]T{x}'. -/
theorem ap_one {o : Oper} {e : TypeId} {x : Value} (hZ : Z.Ok) (h : Run F0 w0 (star (apY e x []) Z) W)
    (hrun : ∀ w : World, (execOp a.eval o).run Try.prog w = .ok (.value (.slice (some ⟨w.heap.size, 0, none⟩) 1 1)) (w.alloc (.cells #[x] e))) :
    o.wp Try.prog a W (fun a' w' => ∃ v, a' = a.put o.dst v ∧ Run F0 w0 (star (apY e x ([] ++ [v])) Z) w') Q := by
  unfold Oper.wp
  rw [hrun W]
  exact ⟨_, rfl, run_mk (p := fun g : Nat => (Value.slice (some ⟨W.heap.size, 0, none⟩) 1 1) = .slice (some ⟨g, 0, none⟩) 1 1) W.heap.size rfl ((run_drop0 h).fresh hZ (cell_new W #[x] e))⟩
/-- Both appended to one another: the row of its own. -/
theorem ap_end {o : Oper} {ts e : TypeId} {z : Value} {bytes n : Nat} {xs : List Value} {x v116 v118 v123 : Value} {K : Act → World → Prop} (S : SliceOk Try.prog ts e z 1 bytes) (hby : bytes ≤ 1000) (s t : Operand) (hop : o.op = .call { callee := .builtin .append, args := #[s, t], argTypes := #[ts, ts] }) (hZ : Z.Ok)
    (h : Run F0 w0 (star (apX e n xs [v116, v118]) (star (apY e x [v123]) Z)) W) (hs : a.eval s = v118) (ht : a.eval t = v123) (hn : n ≤ 1000) (h1 : x.oneCell' = true)
    (hK : ∀ A c w', Run F0 w0 (star (RowO e 1 (.slice A (n + 1) c) (n + 1) (xs ++ [x])) Z) w' → K (a.put o.dst (.slice A (n + 1) c)) w') : o.wp Try.prog a W K Q := by
  obtain ⟨⟨A, c⟩, g1⟩ := run_ex h
  obtain ⟨rfl, g2⟩ := run_and g1
  obtain ⟨g, g3⟩ := run_ex g2.rot
  obtain ⟨rfl, g4⟩ := run_and g3
  obtain ⟨FC, hC⟩ := g4.fst
  obtain ⟨F7, hR7, -, bk7⟩ := g4.rot.take row_ok (star_ok cell_ok hZ)
  refine wp_app s t hop S W 0 hs hR7.1 ht (Src.one hC.1 h1) (by omega) hby (Nat.zero_le _) ?_
  intro v8 w8 ho8 hg8 hv8
  have S8 := bk7 _ _ (row_app hR7 ho8 hg8 hv8)
  obtain ⟨A8, c8, rfl⟩ := own_form ho8
  exact hK A8 c8 w8 S8.rot.drop
end

theorem put_eval {a : Act} {d : Nat} (v : Value) (h : d < a.tmps.size) : (a.put (some d) v).eval (.tmp d) = v := by
  simp [Act.put, Act.eval, h]
section
variable {w W : World} {A B G A1 B1 : Option Addr} {c : Nat → Nat → Int} {d e : Nat → Int} {n m i : Nat} {RV : List Value} {x : Value}
/-- The problem with a row once more. -/
theorem Prq.dup (h : Prq w A B G c d e n m) (hn : n ≤ 6) (hrow : ∀ i, i < n → ∃ R cp, RV[i]? = some (.slice R m cp) ∧ ∀ j, j < m → ∃ b' o', R = some ⟨b', o', none⟩ ∧ ∀ w', Below w.heap.size w w' → w'.cell? ⟨b', o' + j, none⟩ = some (.int .i64 (c i j)))
    (hl : RV.length = n) (hi : i < n) (hx : RV[i]? = some x) (hb : Below w.heap.size w W) (h1 : Src W A1 (n + 1) 1 (RV ++ [x])) (h2 : Src W B1 (n + 1) 1 ((fv n fun j => .int .i64 (d j)) ++ [.int .i64 (d i)])) :
    Prq W A1 B1 G (dupc c n i) (dupd d n i) e (n + 1) m where
  n7 := by omega
  m6 := h.m6
  db := fun r hr => by unfold dupd; split; exact h.db i hi; exact h.db r (by omega)
  eb := h.eb
  cb := fun r hr j hj => by unfold dupc; split; exact h.cb i hi j hj; exact h.cb r (by omega) j hj
  ds := by
    have e : (fv (n + 1) fun r => Value.int .i64 (dupd d n i r)) = (fv n fun j => .int .i64 (d j)) ++ [.int .i64 (d i)] := by
      unfold fv
      rw [List.range_succ, List.map_append]
      congr 1
      · exact List.map_congr_left fun r hr => by
          have : r ≠ n := by have := List.mem_range.1 hr; omega
          simp [dupd, this]
      · simp [dupd]
    rw [e]; exact h2
  es := src_below h.es hb
  rows := by
    refine ⟨_, h1, fun r hr => ?_⟩
    by_cases e : r = n
    · obtain ⟨R, cp, g1, g2⟩ := hrow i hi
      rw [hx] at g1
      refine ⟨R, cp, ?_, fun j hj => ?_⟩
      · rw [e, List.getElem?_append_right (by omega), hl, Nat.sub_self]; simpa using g1
      · obtain ⟨b', o', k1, k2⟩ := g2 j hj
        exact ⟨b', o', k1, fun w2 hb2 => by simp only [dupc, if_pos e]; exact k2 w2 (bel_trans hb hb2)⟩
    · obtain ⟨R, cp, g1, g2⟩ := hrow r (by omega)
      refine ⟨R, cp, ?_, fun j hj => ?_⟩
      · rw [List.getElem?_append_left (by omega)]; exact g1
      · obtain ⟨b', o', k1, k2⟩ := g2 j hj
        exact ⟨b', o', k1, fun w2 hb2 => by simp only [dupc, if_neg e]; exact k2 w2 (bel_trans hb hb2)⟩
end

theorem run_two {w0 W : World} {R : Own} (h : Run (fun _ => False) w0 R W) : Run (fun _ => False) w0 (star emp (star emp R)) W := by
  have h1 : Run (fun _ => False) w0 (star emp R) W := h.one.imp fun _ _ h => star_comm h
  exact h1.one.imp fun _ _ h => star_comm h

theorem len1 {vs : List Value} (h : vs.length = 1) : ∃ a, vs = [a] := by
  match vs, h with
  | [a], _ => exact ⟨a, rfl⟩
theorem len2 {vs : List Value} (h : vs.length = 2) : ∃ a b, vs = [a, b] := by
  match vs, h with
  | [a, b], _ => exact ⟨a, b, rfl⟩
theorem len3 {vs : List Value} (h : vs.length = 3) : ∃ a b c, vs = [a, b, c] := by
  match vs, h with
  | [a, b, c], _ => exact ⟨a, b, c, rfl⟩

theorem run_build22 (A : Option Addr) (n c : Nat) (w : World) : (Instr.buildSlice 22 1 #[(0, .slice A n c)]).run Try.prog w = .ok (.slice (some ⟨w.heap.size, 0, none⟩) 1 1) (w.alloc (.cells #[.slice A n c] 23)) := by go_simp
theorem run_build23 (x : Int) (w : World) : (Instr.buildSlice 23 1 #[(0, .int .i64 x)]).run Try.prog w = .ok (.slice (some ⟨w.heap.size, 0, none⟩) 1 1) (w.alloc (.cells #[.int .i64 x] 3)) := by go_simp
section
variable {w0 W : World} {F0 : Nat → Prop} {Z : Own} {ops : Array Oper} {a : Act} {Q : Exit → Act → World → Prop}
theorem wp_of_run {o : Oper} {v : Value} {w' : World} {K : Act → World → Prop} (hrun : (execOp a.eval o).run Try.prog W = .ok (.value v) w') (h : K (a.put o.dst v) w') : o.wp Try.prog a W K Q := by
  unfold Oper.wp
  rw [hrun]; exact h
theorem exec_build {o : Oper} {ts : TypeId} {x : Operand} {v r : Value} {w w' : World} (hop : o.op = .buildSlice ts 1 #[(0, x)]) (hx : a.eval x = v) (hb : (Instr.buildSlice ts 1 #[(0, v)]).run Try.prog w = .ok r w') : (execOp a.eval o).run Try.prog w = .ok (.value r) w' := by
  unfold execOp
  simp only [hop, List.map_toArray, List.map_cons, List.map_nil, hx]
  simp only [Sem.run_bind, hb, Result.andThen_ok, Sem.run_pure]
theorem ap_assign {o : Oper} {x : Operand} {v : Value} {K : Act → World → Prop} (ho : o.op = .assign x) (hx : a.eval x = v) (h : K (a.put o.dst v) W) : o.wp Try.prog a W K Q := by
  refine wp_of_run (v := v) (w' := W) ?_ h
  unfold execOp
  simp only [ho, hx, Sem.run_pure]
end

/-- The cell of the result. -/
theorem best_res {w0 W : World} {X : Own} {g6 ga : Nat} {k : Int} {A1 A2 A3 : Option Addr} {c1 c2 c3 : Nat} {ps us vs : List Int} (h : Run (fun _ => False) w0 (star (BestO g6 ga k A1 A2 A3 c1 c2 c3 ps us vs) X) W) :
    W.cell? ⟨g6, 0, none⟩ = some (.int .i64 0) ∧ W.cell? ⟨g6, 1, none⟩ = some (.slice none 0 0) ∧ W.cell? ⟨g6, 2, none⟩ = some (.slice none 0 0) ∧ W.cell? ⟨g6, 3, none⟩ = some (.slice none 0 0) ∧ ∀ i, W.frozen? ⟨g6, i, none⟩ = false := by
  unfold BestO at h
  obtain ⟨F, hC⟩ := (h.perm (by ac_rfl : _ = star (CellO g6 zeroA 27) (star (VecO A1 c1 ps) (star (VecO A2 c2 us) (star (VecO A3 c3 vs) (star (CellO ga #[.int .i64 k, .slice A1 ps.length c1, .slice A2 us.length c2, .slice A3 vs.length c3] 27) X)))))).fst
  exact ⟨cell_at hC rfl, cell_at hC rfl, cell_at hC rfl, cell_at hC rfl, cell_free hC⟩
/-- The result, stored. -/
theorem best_end {w0 W : World} {X : Own} {g6 ga : Nat} {k : Int} {A1 A2 A3 : Option Addr} {c1 c2 c3 : Nat} {ps us vs : List Int} (hX : X.Ok) (h : Run (fun _ => False) w0 (star (BestO g6 ga k A1 A2 A3 c1 c2 c3 ps us vs) X) W) :
    Run (fun _ => False) w0 (star (CellO g6 #[.int .i64 k, .slice A1 ps.length c1, .slice A2 us.length c2, .slice A3 vs.length c3] 27) (star (VecO A1 c1 ps) (star (VecO A2 c2 us) (star (VecO A3 c3 vs) X)))) ((((W.setCell ⟨g6, 0, none⟩ (.int .i64 k)).setCell ⟨g6, 1, none⟩ (.slice A1 ps.length c1)).setCell ⟨g6, 2, none⟩ (.slice A2 us.length c2)).setCell ⟨g6, 3, none⟩ (.slice A3 vs.length c3)) := by
  unfold BestO at h
  have h1 := h.perm (by ac_rfl : _ = star (CellO g6 zeroA 27) (star (VecO A1 c1 ps) (star (VecO A2 c2 us) (star (VecO A3 c3 vs) (star (CellO ga #[.int .i64 k, .slice A1 ps.length c1, .slice A2 us.length c2, .slice A3 vs.length c3] 27) X)))))
  have oY : (star (VecO A1 c1 ps) (star (VecO A2 c2 us) (star (VecO A3 c3 vs) (star (CellO ga #[.int .i64 k, .slice A1 ps.length c1, .slice A2 us.length c2, .slice A3 vs.length c3] 27) X)))).Ok := oks5 vec_ok vec_ok vec_ok cell_ok hX
  have h2 := cell_put oY h1 0 (.int .i64 k) (cs' := #[.int .i64 k, .slice none 0 0, .slice none 0 0, .slice none 0 0]) rfl
  have h3 := cell_put oY h2 1 (.slice A1 ps.length c1) (cs' := #[.int .i64 k, .slice A1 ps.length c1, .slice none 0 0, .slice none 0 0]) rfl
  have h4 := cell_put oY h3 2 (.slice A2 us.length c2) (cs' := #[.int .i64 k, .slice A1 ps.length c1, .slice A2 us.length c2, .slice none 0 0]) rfl
  have h5 := cell_put oY h4 3 (.slice A3 vs.length c3) (cs' := #[.int .i64 k, .slice A1 ps.length c1, .slice A2 us.length c2, .slice A3 vs.length c3]) rfl
  have h6 := h5.perm (by ac_rfl : _ = star (CellO ga #[.int .i64 k, .slice A1 ps.length c1, .slice A2 us.length c2, .slice A3 vs.length c3] 27) (star (CellO g6 #[.int .i64 k, .slice A1 ps.length c1, .slice A2 us.length c2, .slice A3 vs.length c3] 27) (star (VecO A1 c1 ps) (star (VecO A2 c2 us) (star (VecO A3 c3 vs) X)))))
  exact h6.drop
theorem best_asg {w0 W : World} {X : Own} {cs : Array Value} {g6 : Nat} {k : Int} {A1 A2 A3 : Option Addr} {c1 c2 c3 : Nat} {ps us vs : List Int} (h : Run (fun _ => False) w0 (star (CellO g6 cs 27) (star (VecO A1 c1 ps) (star (VecO A2 c2 us) (star (VecO A3 c3 vs) X)))) W) :
    AsgV W (.agg #[.int .i64 k, .slice A1 ps.length c1, .slice A2 us.length c2, .slice A3 vs.length c3]) ⟨k, ps, us, vs⟩ := by
  obtain ⟨F1, h1⟩ := h.rot.fst
  obtain ⟨F2, h2⟩ := (h.perm (by ac_rfl : _ = star (VecO A2 c2 us) (star (CellO g6 cs 27) (star (VecO A1 c1 ps) (star (VecO A3 c3 vs) X))))).fst
  obtain ⟨F3, h3⟩ := (h.perm (by ac_rfl : _ = star (VecO A3 c3 vs) (star (CellO g6 cs 27) (star (VecO A1 c1 ps) (star (VecO A2 c2 us) X))))).fst
  exact ⟨A1, A2, A3, c1, c2, c3, rfl, vec_vec h1, vec_vec h2, vec_vec h3⟩

theorem res_zero {w0 W : World} {g6 : Nat} (h : Run (fun _ => False) w0 (CellO g6 #[.int .i64 0, .slice none 0 0, .slice none 0 0, .slice none 0 0] 27) W) :
    Run (fun _ => False) w0 (CellO g6 #[.int .i64 0, .slice none 0 0, .slice none 0 0, .slice none 0 0] 27) ((((W.setCell ⟨g6, 0, none⟩ (.int .i64 0)).setCell ⟨g6, 1, none⟩ (.slice none 0 0)).setCell ⟨g6, 2, none⟩ (.slice none 0 0)).setCell ⟨g6, 3, none⟩ (.slice none 0 0)) := by
  have h0 : Run (fun _ => False) w0 (star (CellO g6 #[.int .i64 0, .slice none 0 0, .slice none 0 0, .slice none 0 0] 27) emp) W := h.one
  have h2 := cell_put emp_ok h0 0 (.int .i64 0) (cs' := #[.int .i64 0, .slice none 0 0, .slice none 0 0, .slice none 0 0]) rfl
  have h3 := cell_put emp_ok h2 1 (.slice none 0 0) (cs' := #[.int .i64 0, .slice none 0 0, .slice none 0 0, .slice none 0 0]) rfl
  have h4 := cell_put emp_ok h3 2 (.slice none 0 0) (cs' := #[.int .i64 0, .slice none 0 0, .slice none 0 0, .slice none 0 0]) rfl
  have h5 := cell_put emp_ok h4 3 (.slice none 0 0) (cs' := #[.int .i64 0, .slice none 0 0, .slice none 0 0, .slice none 0 0]) rfl
  exact h5.imp fun _ _ h => star_emp h
theorem split_gr {c : Nat → Nat → Int} {d e : Nat → Int} {n m k : Nat} {x : Int} {ps qs : List Int} {U T : Nat → Bool} (h : bps c d e n m = ps ++ gr c d e n m (k + 1) U) (hg : gr c d e n m (k + 1) U = x :: gr c d e n m k T) : bps c d e n m = (ps ++ [x]) ++ gr c d e n m k T := by
  rw [h, hg]; simp
end Go.Proofs.Ytalbhghigdanlaa
namespace Go.Proofs.Ytalbhghigdanlaa
open Go.RowKit Go.CH Go.CH.Asg
open Go.ChangeMaps (setBlock)

theorem exec_call31 {a : Act} {o : Oper} {x : Operand} {v : Value} (ho : o.op = .call { callee := .value (.func 31), args := #[x], argTypes := #[62] }) (hx : a.eval x = v) (W : World) : (execOp a.eval o).run Try.prog W = .ok (.enter 31 #[v]) W := by
  unfold execOp
  simp only [ho, resolve, List.map_toArray, List.map_cons, List.map_nil, hx]
  go_simp
theorem exec_call32 {a : Act} {o : Oper} {x : Operand} {v : Value} (ho : o.op = .call { callee := .value (.func 32), args := #[x], argTypes := #[22] }) (hx : a.eval x = v) (W : World) : (execOp a.eval o).run Try.prog W = .ok (.enter 32 #[v]) W := by
  unfold execOp
  simp only [ho, resolve, List.map_toArray, List.map_cons, List.map_nil, hx]
  go_simp
theorem wp_enter {o : Oper} {a : Act} {W : World} {f : FuncId} {args : Array Value} {K : Act → World → Prop} {Q : Exit → Act → World → Prop} (hrun : (execOp a.eval o).run Try.prog W = .ok (.enter f args) W)
    (h : Calls Try.prog f args W (fun e w' => ∃ r, e = .returned r ∧ K (a.put o.dst r) w')) : o.wp Try.prog a W K Q := by
  unfold Oper.wp
  rw [hrun]
  refine Calls.mono h ?_
  rintro e w' ⟨r, rfl, hK⟩
  exact hK
theorem run_build62 (v1 v2 : Value) (A B : Option Addr) (n c m d : Nat) (w : World) (h1 : v1 = .slice A n c) (h2 : v2 = .slice B m d) : (Instr.buildSlice 62 2 #[(0, v1), (1, v2)]).run Try.prog w = .ok (.slice (some ⟨w.heap.size, 0, none⟩) 2 2) (w.alloc (.cells #[v1, v2] 22)) := by
  subst h1 h2; go_simp
theorem run_build22_2 (v1 v2 : Value) (A B : Option Addr) (n c m d : Nat) (w : World) (h1 : v1 = .slice A n c) (h2 : v2 = .slice B m d) : (Instr.buildSlice 22 2 #[(0, v1), (1, v2)]).run Try.prog w = .ok (.slice (some ⟨w.heap.size, 0, none⟩) 2 2) (w.alloc (.cells #[v1, v2] 23)) := by
  subst h1 h2; go_simp
theorem exec_build2 {a : Act} {o : Oper} {ts : TypeId} {x y : Operand} {v u r : Value} {w w' : World} (hop : o.op = .buildSlice ts 2 #[(0, x), (1, y)]) (hx : a.eval x = v) (hy : a.eval y = u) (hb : (Instr.buildSlice ts 2 #[(0, v), (1, u)]).run Try.prog w = .ok r w') : (execOp a.eval o).run Try.prog w = .ok (.value r) w' := by
  unfold execOp
  simp only [hop, List.map_toArray, List.map_cons, List.map_nil, hx, hy]
  simp only [Sem.run_bind, hb, Result.andThen_ok, Sem.run_pure]

theorem src_two {W : World} {F : Nat → Prop} {g : Nat} {u v : Value} {t : TypeId} (h : CellO g #[u, v] t W F) (h1 : u.oneCell' = true) (h2 : v.oneCell' = true) : Src W (some ⟨g, 0, none⟩) 2 1 [u, v] := by
  refine ⟨rfl, fun x hx => ?_, fun _ => ⟨_, rfl, fun j x hx => ?_⟩⟩
  · simp at hx; rcases hx with rfl | rfl <;> assumption
  · rw [Addr.add_zero_]
    exact cell_at h (by simpa using hx)
theorem matx_two {W : World} {A B D : Option Addr} {n m c d : Nat} {xs ys : List Value} (h : Src W D 2 1 [.slice A n c, .slice B m d]) (h1 : Src W A n 1 xs) (h2 : Src W B m 1 ys) : MatX W D [xs, ys] [(A, c), (B, d)] := by
  have e1 : xs.length = n := by have := h1.1; omega
  have e2 : ys.length = m := by have := h2.1; omega
  refine ⟨rfl, ?_, fun i hi x hx => ?_⟩
  · have : ([(A, c), (B, d)] : List (Option Addr × Nat)).mapIdx (fun i x => Value.slice x.1 (([xs, ys] : List (List Value)).getD i []).length x.2) = [.slice A n c, .slice B m d] := by
      simp [e1, e2]
    rw [this]; exact h
  · match i, hi, hx with
    | 0, _, hx => simp at hx; subst hx; simpa [e1] using h1
    | 1, _, hx => simp at hx; subst hx; simpa [e2] using h2
def catX (A : Option Addr) (n c : Nat) (RV : List Value) (x : Value) : List Value → Own
  | [] => emp
  | [v] => exO fun g : Nat => andO (v = .slice (some ⟨g, 0, none⟩) 1 1) (CellO g #[x] 23)
  | [v1, v2] => exO fun p : Nat × Nat => andO (v1 = .slice (some ⟨p.1, 0, none⟩) 1 1 ∧ v2 = .slice (some ⟨p.2, 0, none⟩) 2 2) (star (CellO p.1 #[x] 23) (CellO p.2 #[.slice A n c, v1] 22))
  | [_, _, v3] => exO fun p : Option Addr × Nat => andO (v3 = .slice p.1 (n + 1) p.2) (RowO 23 1 v3 (n + 1) (RV ++ [x]))
  | _ => emp
def catY (B : Option Addr) (n d : Nat) (dv : List Value) (y v115 : Value) : List Value → Own
  | [] => emp
  | [v] => exO fun g : Nat => andO (v = .slice (some ⟨g, 0, none⟩) 2 2) (CellO g #[.slice B n d, v115] 23)
  | [_, v] => exO fun p : Option Addr × Nat => andO (v = .slice p.1 (n + 1) p.2) (RowO 3 1 v (n + 1) (dv ++ [y]))
  | _ => emp
theorem catX_ok {A : Option Addr} {n c : Nat} {RV : List Value} {x : Value} : ∀ vs, (catX A n c RV x vs).Ok
  | [] => emp_ok
  | [_] => exO_ok fun _ => andO_ok cell_ok
  | [_, _] => exO_ok fun _ => andO_ok (star_ok cell_ok cell_ok)
  | [_, _, _] => exO_ok fun _ => andO_ok row_ok
  | _ :: _ :: _ :: _ :: _ => emp_ok
theorem catY_ok {B : Option Addr} {n d : Nat} {dv : List Value} {y v115 : Value} : ∀ vs, (catY B n d dv y v115 vs).Ok
  | [] => emp_ok
  | [_] => exO_ok fun _ => andO_ok cell_ok
  | [_, _] => exO_ok fun _ => andO_ok row_ok
  | _ :: _ :: _ :: _ => emp_ok
section
variable {w0 W : World} {Z : Own} {a : Act} {o : Oper} {Q : Exit → Act → World → Prop} {A B B' : Option Addr} {n c d c' : Nat} {RV dv : List Value} {x y : Value}
theorem cat_x1 {ox : Operand} (hop : o.op = .buildSlice 22 1 #[(0, ox)]) (hx : a.eval ox = x) (hb : ∀ w : World, (Instr.buildSlice 22 1 #[(0, x)]).run Try.prog w = .ok (.slice (some ⟨w.heap.size, 0, none⟩) 1 1) (w.alloc (.cells #[x] 23))) (hZ : Z.Ok) (h : Run (fun _ => False) w0 (star (catX A n c RV x []) Z) W) :
    o.wp Try.prog a W (fun a' w' => ∃ v, a' = a.put o.dst v ∧ Run (fun _ => False) w0 (star (catX A n c RV x ([] ++ [v])) Z) w') Q := by
  refine wp_of_run (exec_build hop hx (hb W)) ⟨_, rfl, ?_⟩
  exact run_mk (p := fun g : Nat => (Value.slice (some ⟨W.heap.size, 0, none⟩) 1 1) = .slice (some ⟨g, 0, none⟩) 1 1) W.heap.size rfl ((run_drop0 h).fresh hZ (cell_new W #[x] 23))
theorem cat_x2 {ox oy : Operand} {v1 : Value} (hop : o.op = .buildSlice 62 2 #[(0, ox), (1, oy)]) (hx : a.eval ox = .slice A n c) (hy : a.eval oy = v1) (hZ : Z.Ok) (h : Run (fun _ => False) w0 (star (catX A n c RV x [v1]) Z) W) :
    o.wp Try.prog a W (fun a' w' => ∃ v, a' = a.put o.dst v ∧ Run (fun _ => False) w0 (star (catX A n c RV x ([v1] ++ [v])) Z) w') Q := by
  obtain ⟨g, h1⟩ := run_ex h
  obtain ⟨rfl, h2⟩ := run_and h1
  refine wp_of_run (exec_build2 hop hx hy (run_build62 _ _ _ _ _ _ _ _ W rfl rfl)) ⟨_, rfl, ?_⟩
  exact run_mk (p := fun p : Nat × Nat => (Value.slice (some ⟨g, 0, none⟩) 1 1) = .slice (some ⟨p.1, 0, none⟩) 1 1 ∧ (Value.slice (some ⟨W.heap.size, 0, none⟩) 2 2) = .slice (some ⟨p.2, 0, none⟩) 2 2) (O := fun p => star (CellO p.1 #[x] 23) (CellO p.2 #[.slice A n c, .slice (some ⟨g, 0, none⟩) 1 1] 22)) (g, W.heap.size) ⟨rfl, rfl⟩
    ((h2.fresh (star_ok cell_ok hZ) (cell_new W #[.slice A n c, .slice (some ⟨g, 0, none⟩) 1 1] 22)).perm (by ac_rfl))
theorem cat_x3 {ox : Operand} {v1 v2 : Value} (hop : o.op = .call { callee := .value (.func 31), args := #[ox], argTypes := #[62] }) (hx : a.eval ox = v2) (h1 : x.oneCell' = true) (hn : n ≤ 100) (hRV : Src W A n 1 RV) (hZ : Z.Ok) (h : Run (fun _ => False) w0 (star (catX A n c RV x [v1, v2]) Z) W) :
    o.wp Try.prog a W (fun a' w' => ∃ v, a' = a.put o.dst v ∧ Run (fun _ => False) w0 (star (catX A n c RV x ([v1, v2] ++ [v])) Z) w') Q := by
  obtain ⟨⟨g, g2⟩, e1⟩ := run_ex h
  obtain ⟨⟨rfl, rfl⟩, e2⟩ := run_and e1
  have e3 := e2.assoc
  obtain ⟨F1, hC1⟩ := e3.fst
  obtain ⟨F2, hC2⟩ := e3.rot.fst
  have hM := matx_two (src_two hC2 rfl rfl) hRV (Src.one hC1.1 h1)
  have hl : RV.length = n := by have := hRV.1; omega
  have hfl : fla [RV, [x]] = RV ++ [x] := by simp [fla]
  have K := concatR_any (c := 2) hM (by simp) (by rw [hfl]; simp; omega)
  refine wp_enter (exec_call31 hop hx W) (K.mono ?_)
  rintro e w' ⟨A5, c5, rfl, hP⟩
  rw [hfl, List.length_append, hl] at hP
  exact ⟨_, by rw [hfl, List.length_append, hl]; rfl, _, rfl, run_mk (p := fun p : Option Addr × Nat => (Value.slice A5 (n + 1) c5) = .slice p.1 (n + 1) p.2) (A5, c5) rfl (e3.drop.drop.fresh hZ hP)⟩
theorem cat_y1 {ox oy : Operand} (hop : o.op = .buildSlice 22 2 #[(0, ox), (1, oy)]) (hx : a.eval ox = .slice B n d) (hy : a.eval oy = .slice B' 1 c') (hZ : Z.Ok) (h : Run (fun _ => False) w0 (star (catY B n d dv y (.slice B' 1 c') []) Z) W) :
    o.wp Try.prog a W (fun a' w' => ∃ v, a' = a.put o.dst v ∧ Run (fun _ => False) w0 (star (catY B n d dv y (.slice B' 1 c') ([] ++ [v])) Z) w') Q := by
  refine wp_of_run (exec_build2 hop hx hy (run_build22_2 _ _ _ _ _ _ _ _ W rfl rfl)) ⟨_, rfl, ?_⟩
  exact run_mk (p := fun g : Nat => (Value.slice (some ⟨W.heap.size, 0, none⟩) 2 2) = .slice (some ⟨g, 0, none⟩) 2 2) W.heap.size rfl ((run_drop0 h).fresh hZ (cell_new W #[.slice B n d, .slice B' 1 c'] 23))
theorem cat_y2 {ox : Operand} {v1 : Value} (hop : o.op = .call { callee := .value (.func 32), args := #[ox], argTypes := #[22] }) (hx : a.eval ox = v1) (hn : n ≤ 100) (hdv : Src W B n 1 dv) (hy : Src W B' 1 1 [y]) (hZ : Z.Ok) (h : Run (fun _ => False) w0 (star (catY B n d dv y (.slice B' 1 c') [v1]) Z) W) :
    o.wp Try.prog a W (fun a' w' => ∃ v, a' = a.put o.dst v ∧ Run (fun _ => False) w0 (star (catY B n d dv y (.slice B' 1 c') ([v1] ++ [v])) Z) w') Q := by
  obtain ⟨g, e1⟩ := run_ex h
  obtain ⟨rfl, e3⟩ := run_and e1
  obtain ⟨F2, hC2⟩ := e3.fst
  have hM := matx_two (src_two hC2 rfl rfl) hdv hy
  have hl : dv.length = n := by have := hdv.1; omega
  have hfl : fla [dv, [y]] = dv ++ [y] := by simp [fla]
  have K := concatI_any (c := 2) hM (by simp) (by rw [hfl]; simp; omega)
  refine wp_enter (exec_call32 hop hx W) (K.mono ?_)
  rintro e w' ⟨A5, c5, rfl, hP⟩
  rw [hfl, List.length_append, hl] at hP
  exact ⟨_, by rw [hfl, List.length_append, hl]; rfl, _, rfl, run_mk (p := fun p : Option Addr × Nat => (Value.slice A5 (n + 1) c5) = .slice p.1 (n + 1) p.2) (A5, c5) rfl (e3.drop.fresh hZ hP)⟩
/-- Both are made: two rows of their own. -/
theorem cat_end {R : Own} {v1 v2 v3 u1 u2 : Value} (h : Run (fun _ => False) w0 (star (catX A n c RV x [v1, v2, v3]) (star (catY B n d dv y (.slice B' 1 c') [u1, u2]) R)) W) :
    ∃ A5 c5 B5 d5, v3 = .slice A5 (n + 1) c5 ∧ u2 = .slice B5 (n + 1) d5 ∧ Run (fun _ => False) w0 (star (RowO 23 1 (.slice A5 (n + 1) c5) (n + 1) (RV ++ [x])) (star (RowO 3 1 (.slice B5 (n + 1) d5) (n + 1) (dv ++ [y])) R)) W := by
  obtain ⟨⟨A5, c5⟩, e1⟩ := run_ex h
  obtain ⟨rfl, e2⟩ := run_and e1
  obtain ⟨⟨B5, d5⟩, e3⟩ := run_ex e2.rot
  obtain ⟨rfl, e4⟩ := run_and e3
  exact ⟨A5, c5, B5, d5, rfl, rfl, e4.rot⟩
end

theorem run_cut1 (bd od n d i : Nat) (hi : i < n) (hn : n ≤ d) (w : World) : (Instr.slice 23 (.slice (some ⟨bd, od, none⟩) n d) (some (.int .i64 (i : Int))) (some (.int .i64 ((i : Int) + 1))) none).run Try.prog w = .ok (.slice (some ⟨bd, od + i, none⟩) 1 (d - i)) w := by
  obtain ⟨ht, hinf, hz, hsz⟩ := intsOk
  obtain ⟨inf, hinf, hi1, hi2, hi3⟩ := info_parts hinf
  have h0 : (0 : Int) ≤ i := by omega
  have h1 : (0 : Int) ≤ (i : Int) + 1 := by omega
  have h2 : ((i : Int) + 1).toNat = i + 1 := by omega
  have h3 : (i : Int) + 1 ≤ (d : Int) := by omega
  have h4 : (i : Int) ≤ (i : Int) + 1 := by omega
  have h5 : i ≠ d := by omega
  have h6 : i + 1 - i = 1 := by omega
  have h7 : ¬ d ≤ i := by omega
  have h8 : ¬ d = i := by omega
  have h9 : d - i ≠ 0 := by omega
  simp [Instr.slice, run_underlying ht, Instr.sliceBounds, Instr.sliceBound, asIntOf, sizeOf, typeInfo, hinf, hi2, Addr.add, h0, h1, h2, h3, h4, h5, h6, h7, h8, h9]

theorem puts_size : ∀ (ds : List Nat) (vs : List Value) (a : Act), (puts a ds vs).tmps.size = a.tmps.size
  | [], _, _ => by simp [puts]
  | _ :: _, [], _ => rfl
  | e :: ds, u :: vs, a => by
    simp only [puts]
    rw [puts_size ds vs]
    simp [Act.put]
theorem best_v3 {w0 W : World} {X : Own} {g6 ga : Nat} {k : Int} {A1 A2 A3 : Option Addr} {c1 c2 c3 : Nat} {ps us vs : List Int} (hX : X.Ok)
    (h : Run (fun _ => False) w0 (star (VecO A3 c3 vs) (star (BestO g6 ga k A1 A2 none c1 c2 0 ps us []) X)) W) :
    Run (fun _ => False) w0 (star (BestO g6 ga k A1 A2 A3 c1 c2 c3 ps us vs) X) (W.setCell ⟨ga, 3, none⟩ (.slice A3 vs.length c3)) := by
  unfold BestO at h
  have h1 := (h.perm (by ac_rfl : _ = star (VecO none 0 []) (star (VecO A3 c3 vs) (star (VecO A1 c1 ps) (star (VecO A2 c2 us) (star (CellO ga #[.int .i64 k, .slice A1 ps.length c1, .slice A2 us.length c2, .slice none 0 0] 27) (star (CellO g6 zeroA 27) X))))))).drop
  have h2 := cell_put (star_ok vec_ok (star_ok vec_ok (star_ok vec_ok (star_ok cell_ok hX)))) (h1.perm (by ac_rfl : _ = star (CellO ga #[.int .i64 k, .slice A1 ps.length c1, .slice A2 us.length c2, .slice none 0 0] 27) (star (VecO A3 c3 vs) (star (VecO A1 c1 ps) (star (VecO A2 c2 us) (star (CellO g6 zeroA 27) X)))))) 3 (.slice A3 vs.length c3) (cs' := #[.int .i64 k, .slice A1 ps.length c1, .slice A2 us.length c2, .slice A3 vs.length c3]) rfl
  unfold BestO
  exact h2.perm (by ac_rfl)

theorem vec_put {w0 W : World} {Y : Own} {b c i : Nat} {l : List Int} {x : Int} (hY : Y.Ok) (hi : i < l.length) (h : Run (fun _ => False) w0 (star (VecO (some ⟨b, 0, none⟩) c l) Y) W) : Run (fun _ => False) w0 (star (VecO (some ⟨b, 0, none⟩) c (l.set i x)) Y) (W.setCell ⟨b, i, none⟩ (.int .i64 x)) := by
  obtain ⟨F, hV, -, bk⟩ := h.take vec_ok hY
  have h1 := row_set hV (i := i) (by omega) (.int .i64 x)
  have e : (ints l).set i (.int .i64 x) = ints (l.set i x) := by simp [ints, List.map_set]
  rw [e] at h1
  have h2 := bk (VecO (some ⟨b, 0, none⟩) c (l.set i x)) _ (by unfold VecO; rw [List.length_set]; exact h1)
  exact h2
theorem map_upd {m y : Nat} (f g : Nat → Int) (hy : y < m) : ((List.range m).map (fun t => if t < y then g t else f t)).set y (g y) = (List.range m).map (fun t => if t < y + 1 then g t else f t) := by
  refine List.ext_getElem (by simp) fun i h1 h2 => ?_
  rw [List.getElem_set]
  simp only [List.getElem_map, List.getElem_range]
  by_cases e : y = i
  · subst e; simp
  · rw [if_neg e]
    by_cases h : i < y
    · rw [if_pos h, if_pos (by omega)]
    · rw [if_neg h, if_neg (by omega)]

theorem best_b3 {w0 W : World} {X : Own} {g6 ga n : Nat} {k : Int} {A1 A2 A3 : Option Addr} {c1 c2 c3 : Nat} {ps us vs : List Int} (hn : n = vs.length)
    (h : Run (fun _ => False) w0 (star (VecO A3 c3 vs) (star (VecO A1 c1 ps) (star (VecO A2 c2 us) (star (CellO ga #[.int .i64 k, .slice A1 ps.length c1, .slice A2 us.length c2, .slice A3 n c3] 27) (star (CellO g6 zeroA 27) X))))) W) :
    Run (fun _ => False) w0 (star (BestO g6 ga k A1 A2 A3 c1 c2 c3 ps us vs) X) W := by
  subst hn
  unfold BestO
  exact h.perm (by ac_rfl)
end Go.Proofs.Ytalbhghigdanlaa
