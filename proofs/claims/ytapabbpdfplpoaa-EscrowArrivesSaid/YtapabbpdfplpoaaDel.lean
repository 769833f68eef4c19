/-
  The first element of a row is taken out in place: append where there is room, clear of the last element.
-/
import Derived.Test.YtapabbpdfplpoaaRun
import Derived.Lib.SliceRun
set_option linter.unusedSimpArgs false
set_option linter.unusedVariables false
namespace Go.CH
open Go.RowKit
section
variable {P : Program}
theorem row_shrink {w : World} {F : Nat → Prop} {e : TypeId} {size n c k : Nat} {A : Option Addr} {xs : List Value} (h : RowO e size (.slice A n c) n xs w F) (hk : k ≤ n) : RowO e size (.slice A k c) k (xs.take (k * size)) w F := by
  obtain ⟨⟨hl, h1⟩, h2⟩ := h
  refine ⟨⟨by rw [List.length_take, hl]; exact Nat.min_eq_left (Nat.mul_le_mul_right _ hk), ?_⟩, fun i => by rw [h2 i]; cases A <;> rfl⟩
  rcases h1 with ⟨hv, hn⟩ | ⟨g, cap, cur, hv, q1, q2, q3, q4, q5, q6⟩
  · injection hv with e1 e2 e3
    subst e1; subst e3
    exact .inl ⟨by congr 1; omega, by omega⟩
  · injection hv with e1 e2 e3
    subst e1; subst e3
    refine .inr ⟨g, _, cur, rfl, q1, q2, by omega, q4, q5, ?_⟩
    rw [← q6, List.take_take, Nat.min_eq_left (Nat.mul_le_mul_right _ hk)]
theorem run_app_room {t e : TypeId} {z : Value} {size bytes : Nat} (S : SliceOk P t e z size bytes) (ty : TypeId) (w : World) (base : Nat) {g c n : Nat} {xs : List Value} (hown : w.ownsRow base e size (.slice (some ⟨g, 0, none⟩) n c) n xs)
    {ad : Addr} {m d : Nat} {news : List Value} (hs : Src w (some ad) m size news) (hroom : n + m ≤ c) (h63 : n + m ≤ 1000000) (hby : bytes ≤ 1000) (hbase : base ≤ w.heap.size) :
    ∃ w', (Builtin.append_ #[t, t] ty #[.slice (some ⟨g, 0, none⟩) n c, .slice (some ad) m d]).run P w = .ok (.slice (some ⟨g, 0, none⟩) (n + m) c) w' ∧ w'.ownsRow base e size (.slice (some ⟨g, 0, none⟩) (n + m) c) (n + m) (xs ++ news) ∧ w.grownBy w' (some g) := by
  obtain ⟨v', w', h1, h2, h3, h4⟩ := run_app S ty w base hown (c := d) hs h63 hby hbase
  obtain ⟨ht, hi, hz, hsz⟩ := S
  obtain ⟨i, hi, hi1, hi2, hi3⟩ := info_parts hi
  rcases hown.2 with ⟨hv, _⟩ | ⟨g', cap, cur, hv, q1, q2, q3, q4, q5, q6⟩
  · cases hv
  · injection hv with e1 e2 e3
    injection e1 with e1
    injection e1 with e1 _ _
    subst e1; subst e3
    have hr := run_append_room (P := P) (ty := ty) w t e i ht hi g n c cur q2 ad m d news (by rw [hi2]; exact hs.1) (hs.cells rfl) hs.2.1 hroom (by rw [hi2, hs.1, q5, ← Nat.add_mul]; exact Nat.mul_le_mul_right _ hroom)
    rw [hr] at h1
    injection h1 with h5 h6
    subst h5; subst h6
    exact ⟨_, hr, h2, h3⟩
theorem run_slice_mid {t e : TypeId} {z : Value} {size bytes : Nat} (S : SliceOk P t e z size bytes) (A : Option Addr) (n c i j : Nat) (k1 k2 : IntKind) (li lj : Int) (hi : li = i) (hj : lj = j) (h1 : i ≤ j) (h2 : j ≤ c) (w : World) :
    (Instr.slice t (.slice A n c) (some (.int k1 li)) (some (.int k2 lj)) none).run P w = .ok (.slice (cutA A c i size) (j - i) (c - i)) w := by
  obtain ⟨ht, hi', hz, hsz⟩ := S
  obtain ⟨f, hi', hi1, hi2, hi3⟩ := info_parts hi'
  subst hi; subst hj
  have h0 : (0 : Int) ≤ i ∧ (i : Int) ≤ j := by omega
  have h3 : (0 : Int) ≤ j ∧ (j : Int) ≤ c := by omega
  simp [Instr.slice, run_underlying ht, Instr.sliceBounds, Instr.sliceBound, asIntOf, h1, h2, sizeOf, typeInfo, hi', hi2, cutA]
theorem run_slice_3 {t e : TypeId} {z : Value} {size bytes : Nat} (S : SliceOk P t e z size bytes) (A : Option Addr) (n c i j m : Nat) (k1 k2 k3 : IntKind) (li lj lm : Int) (hi : li = i) (hj : lj = j) (hm : lm = m) (h1 : i ≤ j) (h2 : j ≤ m) (h3 : m ≤ c) (w : World) :
    (Instr.slice t (.slice A n c) (some (.int k1 li)) (some (.int k2 lj)) (some (.int k3 lm))).run P w = .ok (.slice (cutA A m i size) (j - i) (m - i)) w := by
  obtain ⟨ht, hi', hz, hsz⟩ := S
  obtain ⟨f, hi', hi1, hi2, hi3⟩ := info_parts hi'
  subst hi; subst hj; subst hm
  simp [Instr.slice, run_underlying ht, Instr.sliceBounds, Instr.sliceBound, asIntOf, h1, h2, h3, sizeOf, typeInfo, hi', hi2, cutA]
theorem run_clear_tail {t e : TypeId} {z : Value} {size bytes : Nat} (S : SliceOk P t e z size bytes) (hv : ∀ w, (zeroValue e).run P w = .ok z w) (h1 : ∀ u ∈ z.cells, u.oneCell' = true) (ty : TypeId) {w : World} {F : Nat → Prop} {g c k m d : Nat} {xs : List Value}
    (h : RowO e size (.slice (some ⟨g, 0, none⟩) k c) k xs w F) (hkc : k + m ≤ c) (hm : 0 < m) :
    ∃ w', (Builtin.clear_ #[t] ty #[.slice (some ⟨g, k * size, none⟩) m d]).run P w = .ok (.tuple #[]) w' ∧ Post w F (RowO e size (.slice (some ⟨g, 0, none⟩) k c) k xs) w' := by
  obtain ⟨ht, hi, hz, hsz⟩ := S
  obtain ⟨⟨hl, h2⟩, hF⟩ := h
  rcases h2 with ⟨hv, _⟩ | ⟨g', cap, cur, hv', q1, q2, q3, q4, q5, q6⟩
  · cases hv
  · injection hv' with e1 e2 e3
    injection e1 with e1
    injection e1 with e1 _ _
    subst e1; subst e3
    have hzl : (Builtin.zeroCells z.cells m).toList.length = m * size := by simp [size_zeroCells, hz]
    have hone : ∀ v ∈ (Builtin.zeroCells z.cells m).toList, v.oneCell' = true := fun v hv => by
      simp only [Builtin.zeroCells, Array.toList_map, List.mem_map, Array.toList_range, List.mem_range] at hv
      obtain ⟨a, ha, rfl⟩ := hv
      have hp : 0 < z.cells.size := by rw [hz]; exact hsz
      have hlt : a % z.cells.size < z.cells.size := Nat.mod_lt _ hp
      rw [getElem!_pos z.cells _ hlt]
      exact h1 _ (Array.getElem_mem _)
    have hst := run_storeCells_at P g (k * size) e (Builtin.zeroCells z.cells m).toList 0 cur w q2 (by rw [hzl, q5, Nat.add_zero, ← Nat.add_mul]; exact Nat.mul_le_mul_right _ hkc) hone
    have hkl : k * size ≤ cur.toList.length := by simp [q5]; exact Nat.mul_le_mul_right _ q3
    have e1 : (k + m) * size ≤ c * size := Nat.mul_le_mul_right _ hkc
    have e2 : (k + m) * size = k * size + m * size := Nat.add_mul _ _ _
    have hXl : (cur.toList.take (k * size + 0) ++ (Builtin.zeroCells z.cells m).toList ++ cur.toList.drop (k * size + 0 + (Builtin.zeroCells z.cells m).toList.length)).toArray.size = c * size := by
      simp only [List.size_toArray, List.length_append, List.length_take, List.length_drop, hzl, Array.length_toList, Nat.add_zero]
      omega
    have hXt : (cur.toList.take (k * size + 0) ++ (Builtin.zeroCells z.cells m).toList ++ cur.toList.drop (k * size + 0 + (Builtin.zeroCells z.cells m).toList.length)).toArray.toList.take (k * size) = xs := by
      simp only [Nat.add_zero, List.append_assoc]
      rw [List.take_append_of_le_length (by rw [List.length_take]; omega), List.take_take, Nat.min_self]
      exact q6
    generalize (cur.toList.take (k * size + 0) ++ (Builtin.zeroCells z.cells m).toList ++ cur.toList.drop (k * size + 0 + (Builtin.zeroCells z.cells m).toList.length)).toArray = X at hst hXl hXt
    have hgb : w.grownBy (w.setRow g X) (some g) := ⟨rfl, rfl, rfl, by simp, fun k _ hk => setRow_other w g k _ (fun e => hk (by simp [e]))⟩
    obtain ⟨m', rfl⟩ : ∃ m', m = m' + 1 := ⟨m - 1, by omega⟩
    refine ⟨w.setRow g X, by simp only [Builtin.clear_]; simp [run_underlying ht, hv, hst], ?_⟩
    exact ⟨F, ⟨⟨hl, .inr ⟨g, _, _, rfl, q1, setRow_heap w g cur _ e _ q2, q3, q4, hXl, hXt⟩⟩, hF⟩, Mod.of_grown hgb (fun j hj _ => by injection hj with hj; subst hj; exact (hF _).2 rfl), fun i hi => .inl hi⟩
/-- append in place, at the operation. -/
theorem wp_app_room {o : Oper} {a : Act} {K : Act → World → Prop} {Q : Exit → Act → World → Prop} (s x : Operand) {t : TypeId}
    (ho : o.op = .call { callee := .builtin .append, args := #[s, x], argTypes := #[t, t] })
    {e : TypeId} {z : Value} {size bytes : Nat} (S : SliceOk P t e z size bytes) (w : World) (base : Nat) {g c n : Nat} {xs : List Value} (hsv : a.eval s = .slice (some ⟨g, 0, none⟩) n c) (hown : w.ownsRow base e size (.slice (some ⟨g, 0, none⟩) n c) n xs)
    {ad : Addr} {m d : Nat} {news : List Value} (hx : a.eval x = .slice (some ad) m d) (hs : Src w (some ad) m size news) (hroom : n + m ≤ c) (h63 : n + m ≤ 1000000) (hby : bytes ≤ 1000) (hbase : base ≤ w.heap.size)
    (h : ∀ w', w'.ownsRow base e size (.slice (some ⟨g, 0, none⟩) (n + m) c) (n + m) (xs ++ news) → w.grownBy w' (some g) → K (a.put o.dst (.slice (some ⟨g, 0, none⟩) (n + m) c)) w') : o.wp P a w K Q := by
  obtain ⟨w', hrun, h2, h3⟩ := run_app_room S o.type w base hown (d := d) hs hroom h63 hby hbase
  unfold Oper.wp execOp
  simp only [ho, resolve, invoke, builtin, Sem.run_bind, Sem.run_pure, Result.andThen_ok, List.map_toArray, List.map_cons, List.map_nil, hsv, hx, hrun]
  exact h w' h2 h3
/-- clear, at the operation. -/
theorem wpList_clear {ops : Array Oper} {rest : List Oper} {o : Oper} {a : Act} {Q : Exit → Act → World → Prop} (hgd : o.guard = none) (x : Operand) {t : TypeId}
    (ho : o.op = .call { callee := .builtin .clear, args := #[x], argTypes := #[t] }) {v : Value} {w w' : World} (hx : a.eval x = v)
    (hrun : (Builtin.clear_ #[t] o.type #[v]).run P w = .ok (.tuple #[]) w') (h : wpList P ops Q rest (a.put o.dst (.tuple #[])) w') : wpList P ops Q (o :: rest) a w := by
  refine wpList_plain hgd fun K hK => ?_
  unfold Oper.wp execOp
  simp only [ho, resolve, invoke, builtin, Sem.run_bind, Sem.run_pure, Result.andThen_ok, List.map_toArray, List.map_cons, List.map_nil, hx, hrun]
  exact hK _ _ h
end
end Go.CH
