/-
  Escrow: Give, whole.
  The first element of a row is taken out in place: append where there is room, clear of the last element.
  Escrow: slices.Delete of the first message, in memory.
  Escrow: the queue of messages: put, take.
  Escrow: take.
  Escrow: slices.Clone of a row of transfers.
  Escrow: Send.
  Escrow: Send, whole.
  Escrow: Deliver, where nothing is delivered; what a message leaves.
  Escrow: take and put at an escrow.
  Escrow: Deliver of a message that is lost.
  Escrow: Deliver of a message that is lost and comes again.
-/
import Derived.Test.YtapabbpdfplpoaaMT5
import Derived.Test.YtapabbpdfplpoaaMT2
import Derived.Lib.SliceRun
import Derived.Test.YtapabbpdfplpoaaMT3
set_option linter.unusedSimpArgs false
set_option linter.unusedVariables false
namespace Go.Proofs.Ytapabbpdfplpoaa
open Go.RowKit Go.CH Go.CH.Esc
open Go.ChangeMaps (setBlock)

set_option maxHeartbeats 800000 in
theorem give_any {w : World} {F : Nat → Prop} {g : GM} {p : Nat} (h : EscO g p w F) {U : Int} (hI : Inv g U) (f t k : Int) (hl : (g.pr (f, t)).H.length ≤ 1000000) :
    Calls Try.prog 32 #[.pointer (some ⟨p, 0, none⟩), .int .i64 f, .int .i64 t, .int .i64 k] w (EPost w F (.int .i64 (giveE g f t k)) (giveM g f t k) p) := by
  cases hp : g.pair f t with
  | false =>
    have e1 : giveE g f t k = 1 := by simp [giveE, hp]
    have e2 : giveM g f t k = g := by simp [giveM, e1]
    rw [e1, e2]
    have H := hide h
    obtain ⟨s, hS⟩ := h
    have KL := hide (line_any hS.read f t)
    rw [lineV, if_neg (by simp [hp])] at KL
    clear hI hl e1 e2 hS
    go_enter Try.func32, Try.ntmps32
    go_wp2_with fail
    refine KL.out.mono ?_
    rintro e w' ⟨rfl, rfl⟩
    go_wp2_with fail
    go_ret
    exact EPost.quiet H.out ⟨rfl, rfl⟩
  | true =>
    obtain ⟨hr, ht, -⟩ := pair_is hp
    obtain ⟨f', rfl⟩ : ∃ k : Nat, f = k := ⟨f.toNat, by have := (is_lt hr).1; omega⟩
    obtain ⟨t', rfl⟩ : ∃ k : Nat, t = k := ⟨t.toNat, by have := (is_lt ht).1; omega⟩
    have hfl := (is_lt hr).2
    simp only [Int.toNat_natCast] at hfl
    have H := hide h
    obtain ⟨s, hS⟩ := h
    have hR := hS.read
    obtain ⟨b, hb⟩ := hR.addr (by have := hI.nb; omega)
    have KL := hide (line_any hR f' t')
    rw [lineV, if_pos hp] at KL
    have hc0 := hR.c0
    rw [hb] at hc0
    obtain ⟨cu, -, -⟩ := hR.accs b hb f' hr
    obtain ⟨l0, -, hrun0⟩ := esc_line (Run.start hS) hp
    obtain ⟨q0, -, -, -⟩ := line_cells hrun0
    simp only [Int.toNat_natCast] at cu
    by_cases h1 : k < 1
    · have e1 : giveE g f' t' k = 1 := by simp [giveE, h1]
      have e2 : giveM g f' t' k = g := by simp [giveM, e1]
      rw [e1, e2]
      clear hI hl e1 e2 hS hR hrun0 cu q0
      go_enter Try.func32, Try.ntmps32
      go_wp2_with fail
      refine KL.out.mono ?_
      rintro e w' ⟨rfl, rfl⟩
      go_wp2_with fail
      go_ret
      exact EPost.quiet H.out ⟨rfl, rfl⟩
    · by_cases h2 : (g.at_ f').u < k
      · have e1 : giveE g f' t' k = 19 := by simp [giveE, h1, h2, hp]
        have e2 : giveM g f' t' k = g := by simp [giveM, e1]
        rw [e1, e2]
        generalize (g.at_ f').u = u at *
        clear hI hl e1 e2 hS hR hrun0 q0
        go_enter Try.func32, Try.ntmps32
        go_wp2_with fail
        refine KL.out.mono ?_
        rintro e w' ⟨rfl, rfl⟩
        go_wp2_with fail
        go_ret
        exact EPost.quiet H.out ⟨rfl, rfl⟩
      · by_cases h3 : 100 ≤ (g.pr (f', t')).H.length - (g.pr (f', t')).conf
        · have e1 : giveE g f' t' k = 28 := by simp [giveE, h1, h2, h3, hp]
          have e2 : giveM g f' t' k = g := by simp [giveM, e1]
          rw [e1, e2]
          have h4 : (100 : Int) ≤ ((g.pr (f', t')).H.drop (g.pr (f', t')).conf).length := by rw [List.length_drop]; omega
          clear h3
          generalize (g.at_ f').u = u at *
          generalize ((g.pr (f', t')).H.drop (g.pr (f', t')).conf).length = n at *
          clear hI hl e1 e2 hS hR hrun0
          go_enter Try.func32, Try.ntmps32
          go_wp2_with fail
          refine KL.out.mono ?_
          rintro e w' ⟨rfl, rfl⟩
          go_wp2_with fail
          go_ret
          exact EPost.quiet H.out ⟨rfl, rfl⟩
        · have e1 : giveE g f' t' k = 0 := by simp [giveE, h1, h2, h3, hp]
          have e2 : giveM g f' t' k = (g.setA f' { g.at_ f' with u := (g.at_ f').u - k }).setP (f', t') { g.pr (f', t') with H := (g.pr (f', t')).H ++ [k] } := by simp only [giveM, e1, if_true]
          rw [e1, e2]
          exact give_ok ⟨s, hS⟩ hI hp k (by omega) (by omega) hl (by omega)
end Go.Proofs.Ytapabbpdfplpoaa
namespace Go.CH
open Go.RowKit
section
variable {P : Program}
theorem row_shrink {w : World} {F : Nat → Prop} {e : TypeId} {size n c k : Nat} {A : Option Addr} {xs : List Value} (h : RowO e size (.slice A n c) n xs w F) (hk : k ≤ n) : RowO e size (.slice A k c) k (xs.take (k * size)) w F := by
  obtain ⟨⟨hl, h1⟩, h2⟩ := h
  refine ⟨⟨by rw [List.length_take, hl]; exact Nat.min_eq_left (Nat.mul_le_mul_right _ hk), ?_⟩, fun i => by rw [h2 i]; cases A <;> rfl⟩
  rcases h1 with ⟨hv, hn⟩ | ⟨g, cap, cur, hv, q1, q2, q3, q4, q5, q6⟩
  · injection hv with e1 e2 e3
    subst e1; subst e3
    exact .inl ⟨by congr 1; omega, by omega⟩
  · injection hv with e1 e2 e3
    subst e1; subst e3
    refine .inr ⟨g, _, cur, rfl, q1, q2, by omega, q4, q5, ?_⟩
    rw [← q6, List.take_take, Nat.min_eq_left (Nat.mul_le_mul_right _ hk)]
theorem run_app_room {t e : TypeId} {z : Value} {size bytes : Nat} (S : SliceOk P t e z size bytes) (ty : TypeId) (w : World) (base : Nat) {g c n : Nat} {xs : List Value} (hown : w.ownsRow base e size (.slice (some ⟨g, 0, none⟩) n c) n xs)
    {ad : Addr} {m d : Nat} {news : List Value} (hs : Src w (some ad) m size news) (hroom : n + m ≤ c) (h63 : n + m ≤ 1000000) (hby : bytes ≤ 1000) (hbase : base ≤ w.heap.size) :
    ∃ w', (Builtin.append_ #[t, t] ty #[.slice (some ⟨g, 0, none⟩) n c, .slice (some ad) m d]).run P w = .ok (.slice (some ⟨g, 0, none⟩) (n + m) c) w' ∧ w'.ownsRow base e size (.slice (some ⟨g, 0, none⟩) (n + m) c) (n + m) (xs ++ news) ∧ w.grownBy w' (some g) := by
  obtain ⟨v', w', h1, h2, h3, h4⟩ := run_app S ty w base hown (c := d) hs h63 hby hbase
  obtain ⟨ht, hi, hz, hsz⟩ := S
  obtain ⟨i, hi, hi1, hi2, hi3⟩ := info_parts hi
  rcases hown.2 with ⟨hv, _⟩ | ⟨g', cap, cur, hv, q1, q2, q3, q4, q5, q6⟩
  · cases hv
  · injection hv with e1 e2 e3
    injection e1 with e1
    injection e1 with e1 _ _
    subst e1; subst e3
    have hr := run_append_room (P := P) (ty := ty) w t e i ht hi g n c cur q2 ad m d news (by rw [hi2]; exact hs.1) (hs.cells rfl) hs.2.1 hroom (by rw [hi2, hs.1, q5, ← Nat.add_mul]; exact Nat.mul_le_mul_right _ hroom)
    rw [hr] at h1
    injection h1 with h5 h6
    subst h5; subst h6
    exact ⟨_, hr, h2, h3⟩
theorem run_slice_mid {t e : TypeId} {z : Value} {size bytes : Nat} (S : SliceOk P t e z size bytes) (A : Option Addr) (n c i j : Nat) (k1 k2 : IntKind) (li lj : Int) (hi : li = i) (hj : lj = j) (h1 : i ≤ j) (h2 : j ≤ c) (w : World) :
    (Instr.slice t (.slice A n c) (some (.int k1 li)) (some (.int k2 lj)) none).run P w = .ok (.slice (cutA A c i size) (j - i) (c - i)) w := by
  obtain ⟨ht, hi', hz, hsz⟩ := S
  obtain ⟨f, hi', hi1, hi2, hi3⟩ := info_parts hi'
  subst hi; subst hj
  have h0 : (0 : Int) ≤ i ∧ (i : Int) ≤ j := by omega
  have h3 : (0 : Int) ≤ j ∧ (j : Int) ≤ c := by omega
  simp [Instr.slice, run_underlying ht, Instr.sliceBounds, Instr.sliceBound, asIntOf, h1, h2, sizeOf, typeInfo, hi', hi2, cutA]
theorem run_slice_3 {t e : TypeId} {z : Value} {size bytes : Nat} (S : SliceOk P t e z size bytes) (A : Option Addr) (n c i j m : Nat) (k1 k2 k3 : IntKind) (li lj lm : Int) (hi : li = i) (hj : lj = j) (hm : lm = m) (h1 : i ≤ j) (h2 : j ≤ m) (h3 : m ≤ c) (w : World) :
    (Instr.slice t (.slice A n c) (some (.int k1 li)) (some (.int k2 lj)) (some (.int k3 lm))).run P w = .ok (.slice (cutA A m i size) (j - i) (m - i)) w := by
  obtain ⟨ht, hi', hz, hsz⟩ := S
  obtain ⟨f, hi', hi1, hi2, hi3⟩ := info_parts hi'
  subst hi; subst hj; subst hm
  simp [Instr.slice, run_underlying ht, Instr.sliceBounds, Instr.sliceBound, asIntOf, h1, h2, h3, sizeOf, typeInfo, hi', hi2, cutA]
theorem run_clear_tail {t e : TypeId} {z : Value} {size bytes : Nat} (S : SliceOk P t e z size bytes) (hv : ∀ w, (zeroValue e).run P w = .ok z w) (h1 : ∀ u ∈ z.cells, u.oneCell' = true) (ty : TypeId) {w : World} {F : Nat → Prop} {g c k m d : Nat} {xs : List Value}
    (h : RowO e size (.slice (some ⟨g, 0, none⟩) k c) k xs w F) (hkc : k + m ≤ c) (hm : 0 < m) :
    ∃ w', (Builtin.clear_ #[t] ty #[.slice (some ⟨g, k * size, none⟩) m d]).run P w = .ok (.tuple #[]) w' ∧ Post w F (RowO e size (.slice (some ⟨g, 0, none⟩) k c) k xs) w' := by
  obtain ⟨ht, hi, hz, hsz⟩ := S
  obtain ⟨⟨hl, h2⟩, hF⟩ := h
  rcases h2 with ⟨hv, _⟩ | ⟨g', cap, cur, hv', q1, q2, q3, q4, q5, q6⟩
  · cases hv
  · injection hv' with e1 e2 e3
    injection e1 with e1
    injection e1 with e1 _ _
    subst e1; subst e3
    have hzl : (Builtin.zeroCells z.cells m).toList.length = m * size := by simp [size_zeroCells, hz]
    have hone : ∀ v ∈ (Builtin.zeroCells z.cells m).toList, v.oneCell' = true := fun v hv => by
      simp only [Builtin.zeroCells, Array.toList_map, List.mem_map, Array.toList_range, List.mem_range] at hv
      obtain ⟨a, ha, rfl⟩ := hv
      have hp : 0 < z.cells.size := by rw [hz]; exact hsz
      have hlt : a % z.cells.size < z.cells.size := Nat.mod_lt _ hp
      rw [getElem!_pos z.cells _ hlt]
      exact h1 _ (Array.getElem_mem _)
    have hst := run_storeCells_at P g (k * size) e (Builtin.zeroCells z.cells m).toList 0 cur w q2 (by rw [hzl, q5, Nat.add_zero, ← Nat.add_mul]; exact Nat.mul_le_mul_right _ hkc) hone
    have hkl : k * size ≤ cur.toList.length := by simp [q5]; exact Nat.mul_le_mul_right _ q3
    have e1 : (k + m) * size ≤ c * size := Nat.mul_le_mul_right _ hkc
    have e2 : (k + m) * size = k * size + m * size := Nat.add_mul _ _ _
    have hXl : (cur.toList.take (k * size + 0) ++ (Builtin.zeroCells z.cells m).toList ++ cur.toList.drop (k * size + 0 + (Builtin.zeroCells z.cells m).toList.length)).toArray.size = c * size := by
      simp only [List.size_toArray, List.length_append, List.length_take, List.length_drop, hzl, Array.length_toList, Nat.add_zero]
      omega
    have hXt : (cur.toList.take (k * size + 0) ++ (Builtin.zeroCells z.cells m).toList ++ cur.toList.drop (k * size + 0 + (Builtin.zeroCells z.cells m).toList.length)).toArray.toList.take (k * size) = xs := by
      simp only [Nat.add_zero, List.append_assoc]
      rw [List.take_append_of_le_length (by rw [List.length_take]; omega), List.take_take, Nat.min_self]
      exact q6
    generalize (cur.toList.take (k * size + 0) ++ (Builtin.zeroCells z.cells m).toList ++ cur.toList.drop (k * size + 0 + (Builtin.zeroCells z.cells m).toList.length)).toArray = X at hst hXl hXt
    have hgb : w.grownBy (w.setRow g X) (some g) := ⟨rfl, rfl, rfl, by simp, fun k _ hk => setRow_other w g k _ (fun e => hk (by simp [e]))⟩
    obtain ⟨m', rfl⟩ : ∃ m', m = m' + 1 := ⟨m - 1, by omega⟩
    refine ⟨w.setRow g X, by simp only [Builtin.clear_]; simp [run_underlying ht, hv, hst], ?_⟩
    exact ⟨F, ⟨⟨hl, .inr ⟨g, _, _, rfl, q1, setRow_heap w g cur _ e _ q2, q3, q4, hXl, hXt⟩⟩, hF⟩, Mod.of_grown hgb (fun j hj _ => by injection hj with hj; subst hj; exact (hF _).2 rfl), fun i hi => .inl hi⟩
/-- append in place, at the operation. -/
theorem wp_app_room {o : Oper} {a : Act} {K : Act → World → Prop} {Q : Exit → Act → World → Prop} (s x : Operand) {t : TypeId}
    (ho : o.op = .call { callee := .builtin .append, args := #[s, x], argTypes := #[t, t] })
    {e : TypeId} {z : Value} {size bytes : Nat} (S : SliceOk P t e z size bytes) (w : World) (base : Nat) {g c n : Nat} {xs : List Value} (hsv : a.eval s = .slice (some ⟨g, 0, none⟩) n c) (hown : w.ownsRow base e size (.slice (some ⟨g, 0, none⟩) n c) n xs)
    {ad : Addr} {m d : Nat} {news : List Value} (hx : a.eval x = .slice (some ad) m d) (hs : Src w (some ad) m size news) (hroom : n + m ≤ c) (h63 : n + m ≤ 1000000) (hby : bytes ≤ 1000) (hbase : base ≤ w.heap.size)
    (h : ∀ w', w'.ownsRow base e size (.slice (some ⟨g, 0, none⟩) (n + m) c) (n + m) (xs ++ news) → w.grownBy w' (some g) → K (a.put o.dst (.slice (some ⟨g, 0, none⟩) (n + m) c)) w') : o.wp P a w K Q := by
  obtain ⟨w', hrun, h2, h3⟩ := run_app_room S o.type w base hown (d := d) hs hroom h63 hby hbase
  unfold Oper.wp execOp
  simp only [ho, resolve, invoke, builtin, Sem.run_bind, Sem.run_pure, Result.andThen_ok, List.map_toArray, List.map_cons, List.map_nil, hsv, hx, hrun]
  exact h w' h2 h3
/-- clear, at the operation. -/
theorem wpList_clear {ops : Array Oper} {rest : List Oper} {o : Oper} {a : Act} {Q : Exit → Act → World → Prop} (hgd : o.guard = none) (x : Operand) {t : TypeId}
    (ho : o.op = .call { callee := .builtin .clear, args := #[x], argTypes := #[t] }) {v : Value} {w w' : World} (hx : a.eval x = v)
    (hrun : (Builtin.clear_ #[t] o.type #[v]).run P w = .ok (.tuple #[]) w') (h : wpList P ops Q rest (a.put o.dst (.tuple #[])) w') : wpList P ops Q (o :: rest) a w := by
  refine wpList_plain hgd fun K hK => ?_
  unfold Oper.wp execOp
  simp only [ho, resolve, invoke, builtin, Sem.run_bind, Sem.run_pure, Result.andThen_ok, List.map_toArray, List.map_cons, List.map_nil, hx, hrun]
  exact hK _ _ h
end
end Go.CH
namespace Go.Proofs.Ytapabbpdfplpoaa
open Go.RowKit Go.CH Go.CH.Esc
open Go.ChangeMaps (setBlock)

theorem msgOk : SliceOk Try.prog 105 124 (.agg #[.slice none 0 0, .int .i64 0, .int .i64 0, .bool false]) 4 48 := ⟨Try.underlying105, by kernel_rfl, rfl, by decide⟩
theorem zeroM : ∀ w, (zeroValue 124).run Try.prog w = .ok (.agg #[.slice none 0 0, .int .i64 0, .int .i64 0, .bool false]) w := fun w => by kernel_rfl
set_option maxRecDepth 100000 in
set_option maxHeartbeats 1600000 in
theorem del_any {w : World} {F : Nat → Prop} {g n c : Nat} {xs : List Value} (h : RowO 124 4 (.slice (some ⟨g, 0, none⟩) (n + 1) c) (n + 1) xs w F) (h1 : ∀ u ∈ xs, u.oneCell' = true) (hn : n ≤ 100) :
    Calls Try.prog 102 #[.slice (some ⟨g, 0, none⟩) (n + 1) c, .int .i64 0, .int .i64 1] w
      (fun e w' => e = .returned (.slice (some ⟨g, 0, none⟩) n c) ∧ Post w F (RowO 124 4 (.slice (some ⟨g, 0, none⟩) n c) n (xs.drop 4)) w') := by
  have hc := (row_cap h.1).1
  have hci : (0 : Int) ≤ (n : Int) + 1 ∧ (n : Int) + 1 ≤ (c : Int) := by omega
  have hcj : (1 : Int) ≤ (n : Int) + 1 := by omega
  have R1 := hide ((Run.start h).drew row_ok)
  have hsrc : Src w.drew (cutA (some ⟨g, 0, none⟩) c 1 4) n 4 (xs.drop 4) := by
    obtain ⟨F', hF', -⟩ := R1.out.all row_ok
    exact Src.cut (k := 1) (c := c) (Src.of_own hF'.1 h1) (by omega) hc
  obtain ⟨ad, had⟩ : ∃ ad, cutA (some ⟨g, 0, none⟩) c 1 4 = some ad := by unfold cutA; split <;> exact ⟨_, rfl⟩
  rw [had] at hsrc
  have HSRC := hide hsrc
  have HC := hide hc
  have hA : (if c = 1 then some (⟨g, 0, none⟩ : Addr) else some ⟨g, 4, none⟩) = some ad := by rw [← had, cutA]; split <;> rfl
  clear hsrc hc had h h1
  go_enter Try.func102, Try.ntmps102
  go_wp2_with fail
  refine wp_region_lew [6] [0, 0, 0, 0, 0, 0, 1, 1] (fun _ => True) (fun _ => True) (fun _ => True) (fun _ => True) (fun _ h => h) (fun _ h => h) (fun _ h => h) (by kernel_rfl) (by kernel_rfl) (by kernel_rfl) (by kernel_rfl) trivial ?_
  (repeat (first | (refine lew_skip (by rfl) (by rfl) ?_; try simp only [Act.put, List.setIfInBounds_toArray, List.set_cons_zero, List.set_cons_succ]) | (refine lew_read0 (v := ?_) (by rfl) (by rfl) ?_ ?_; rotate_left; (focus (intro w' hS'; go_simp; (try with_reducible rfl); done)); try simp only [Act.put, List.setIfInBounds_toArray, List.set_cons_zero, List.set_cons_succ]) | (refine lew_read1 (v := ?_) (by rfl) (by rfl) ?_ ?_; rotate_left; (focus (intro w' hS'; go_simp; (try with_reducible rfl); done)); try simp only [Act.put, List.setIfInBounds_toArray, List.set_cons_zero, List.set_cons_succ]) | (refine lew_read2 (v := ?_) (by rfl) (by rfl) ?_ ?_; rotate_left; (focus (intro w' hS'; go_simp; (try with_reducible rfl); done)); try simp only [Act.put, List.setIfInBounds_toArray, List.set_cons_zero, List.set_cons_succ]) | (refine lew_read3 (v := ?_) (by rfl) (by rfl) ?_ ?_; rotate_left; (focus (intro w' hS'; go_simp; (try with_reducible rfl); done)); try simp only [Act.put, List.setIfInBounds_toArray, List.set_cons_zero, List.set_cons_succ]) | (refine lew_read4 (v := ?_) (by rfl) (by rfl) ?_ ?_; rotate_left; (focus (intro w' hS'; go_simp; (try with_reducible rfl); done)); try simp only [Act.put, List.setIfInBounds_toArray, List.set_cons_zero, List.set_cons_succ])))
  refine lew_chain1 rfl (by rfl) (fun K hK => ?_)
  obtain ⟨F1, hR1, hbk1⟩ := R1.out.all row_ok
  have hR1' := row_shrink hR1 (Nat.zero_le (n + 1))
  refine wp_app_room (.tmp 22) (.tmp 25) rfl msgOk _ 0 (g := g) (c := c) (n := 0) (xs := []) rfl hR1'.1 (ad := ad) (m := n) (d := c - 1) (news := xs.drop 4) (by first | rfl | (rw [← hA]; rfl)) HSRC.out (by have := HC.out; omega) (by omega) (by omega) (Nat.zero_le _) ?_
  intro w2 ho2 hg2
  have S2 := hbk1 _ _ (row_app hR1' ho2 hg2 (.inl rfl))
  rw [Nat.zero_add, List.nil_append] at S2
  obtain ⟨F2, hR2, hbk2⟩ := S2.all row_ok
  have hclr := run_clear_tail msgOk zeroM (by intro u hu; simp [Value.cells] at hu; rcases hu with rfl | rfl | rfl | rfl <;> rfl) 0 hR2 (m := 1) (d := c - n) HC.out (by omega)
  obtain ⟨w3, hrun3, hP3⟩ := hclr
  have HFIN := hide ((hbk2 _ _ hP3).post row_ok)
  have hcn : ¬ c = n := by have := HC.out; omega
  have hb0 : (0 : Int) ≤ (n : Int) ∧ (n : Int) ≤ (n : Int) + 1 := by omega
  rw [Nat.zero_add]
  refine hK.out _ _ trivial ?_
  clear hK R1 hR1 hbk1 hR1' ho2 hg2 S2 hR2 hbk2 hP3 HSRC
  (repeat (first | (refine lew_skip (by rfl) (by rfl) ?_; try simp only [Act.put, List.setIfInBounds_toArray, List.set_cons_zero, List.set_cons_succ]) | (refine lew_read0 (v := ?_) (by rfl) (by rfl) ?_ ?_; rotate_left; (focus (intro w' hS'; go_simp; (try with_reducible rfl); done)); try simp only [Act.put, List.setIfInBounds_toArray, List.set_cons_zero, List.set_cons_succ]) | (refine lew_read1 (v := ?_) (by rfl) (by rfl) ?_ ?_; rotate_left; (focus (intro w' hS'; go_simp; (try with_reducible rfl); done)); try simp only [Act.put, List.setIfInBounds_toArray, List.set_cons_zero, List.set_cons_succ]) | (refine lew_read2 (v := ?_) (by rfl) (by rfl) ?_ ?_; rotate_left; (focus (intro w' hS'; go_simp; (try with_reducible rfl); done)); try simp only [Act.put, List.setIfInBounds_toArray, List.set_cons_zero, List.set_cons_succ]) | (refine lew_read3 (v := ?_) (by rfl) (by rfl) ?_ ?_; rotate_left; (focus (intro w' hS'; go_simp; (try with_reducible rfl); done)); try simp only [Act.put, List.setIfInBounds_toArray, List.set_cons_zero, List.set_cons_succ]) | (refine lew_read4 (v := ?_) (by rfl) (by rfl) ?_ ?_; rotate_left; (focus (intro w' hS'; go_simp; (try with_reducible rfl); done)); try simp only [Act.put, List.setIfInBounds_toArray, List.set_cons_zero, List.set_cons_succ])))
  refine lew_nil ?_
  go_wp2
  go_ret
  exact ⟨rfl, HFIN.out⟩
end Go.Proofs.Ytapabbpdfplpoaa
namespace Go.Proofs.Ytapabbpdfplpoaa
open Go.RowKit Go.CH Go.CH.Esc
open Go.ChangeMaps (setBlock)

/-- A line's cells. -/
def lcl (s : Value) (last rc : Int) (B : Option Addr) (n d : Nat) : Array Value := #[s, .int .i64 last, .int .i64 rc, .slice B n d]
theorem zcl_one (z : ZMsg) : ∀ u ∈ zcl z, u.oneCell' = true := by
  intro u hu
  simp [zcl] at hu
  rcases hu with rfl | rfl | rfl | rfl <;> rfl
theorem src_new (w : World) (xs : List Value) (e : TypeId) (h1 : ∀ u ∈ xs, u.oneCell' = true) : Src (w.alloc (.cells xs.toArray e)) (some ⟨w.heap.size, 0, none⟩) 1 xs.length xs := by
  refine ⟨by omega, h1, fun _ => ⟨_, rfl, fun j u hu => ?_⟩⟩
  obtain ⟨F', hC, -⟩ := cell_new w xs.toArray e
  rw [Addr.add_zero_]
  exact cell_at hC (by simpa using hu)
set_option maxRecDepth 100000 in
set_option maxHeartbeats 1600000 in
theorem put_any {w : World} {F : Nat → Prop} {gp n d : Nat} {s : Value} {last rc : Int} {B : Option Addr} {zs : List ZMsg} {z : ZMsg} (hzn : zs.length = n) (hn : n ≤ 100)
    (h : star (CellO gp (lcl s last rc B n d) 109) (star (ARow zcl zow 124 4 (.slice B n d) zs) (zow z)) w F) :
    Calls Try.prog 70 #[.pointer (some ⟨gp, 3, none⟩), .agg (zcl z).toArray] w
      (fun e w' => e = .returned (.tuple #[]) ∧ ∃ B' d', Post w F (star (CellO gp (lcl s last rc B' (n + 1) d') 109) (ARow zcl zow 124 4 (.slice B' (n + 1) d') (zs ++ [z]))) w') := by
  have r0 : Run F w (star (CellO gp (lcl s last rc B n d) 109) (star (RowO 124 4 (.slice B n d) n (zs.flatMap zcl)) (star (zow z) (bigStar (zs.map zow))))) w := by
    refine (Run.start h).imp fun w F h => star_mono h (fun _ h => h) (fun F h => ?_)
    have h2 := star_assoc h
    rw [hzn] at h2
    exact star_mono h2 (fun _ h => h) (fun _ h => star_comm h)
  have ok0 : (star (RowO 124 4 (.slice B n d) n (zs.flatMap zcl)) (star (zow z) (bigStar (zs.map zow)))).Ok := star_ok row_ok (star_ok (zow_ok z) (big_ok (fun A hA => by obtain ⟨z, _, rfl⟩ := List.mem_map.1 hA; exact zow_ok z)))
  have OK0 := hide ok0
  have hone := hide (zcl_one z)
  have R1 := hide (show Run F w _ (w.alloc (.cells (zcl z).toArray 124)).drew from (r0.below (star_ok cell_ok ok0) ((Below.refl _ _).alloc (Nat.le_refl _) _)).drew (star_ok cell_ok ok0))
  obtain ⟨F1, hC1⟩ := R1.out.fst
  have c3 : (w.alloc (.cells (zcl z).toArray 124)).drew.cell? ⟨gp, 3, none⟩ = some (.slice B n d) := cell_at hC1 rfl
  obtain ⟨F2, hC2, -⟩ := cell_new w (zcl z).toArray 124
  have hC3 := cell_ok.keep (w' := (w.alloc (.cells (zcl z).toArray 124)).drew) hC2 (fun _ _ => rfl)
  have b0 : (w.alloc (.cells (zcl z).toArray 124)).drew.cell? ⟨w.heap.size, 0, none⟩ = some (.slice z.A z.ts.length z.c) := cell_at hC3 rfl
  have b1 : (w.alloc (.cells (zcl z).toArray 124)).drew.cell? ⟨w.heap.size, 1, none⟩ = some (.int .i64 z.m.up) := cell_at hC3 rfl
  have b2 : (w.alloc (.cells (zcl z).toArray 124)).drew.cell? ⟨w.heap.size, 2, none⟩ = some (.int .i64 z.m.rc) := cell_at hC3 rfl
  have b3 : (w.alloc (.cells (zcl z).toArray 124)).drew.cell? ⟨w.heap.size, 3, none⟩ = some (.bool z.m.rev) := cell_at hC3 rfl
  clear h r0 ok0 hC1 hC2 hC3
  go_enter Try.func70, Try.ntmps70
  go_wp2_with fail
  generalize w.alloc (.cells (zcl z).toArray 124) = W at *
  refine wp_region_lew [6, 7, 10] [2, 1, 1, 1, 1, 0, 1, 2, 2, 2, 3]
    (fun w' => w'.cell? ⟨gp, 3, none⟩ = some (.slice B n d) ∧ w'.cell? ⟨w.heap.size, 0, none⟩ = some (.slice z.A z.ts.length z.c) ∧ w'.cell? ⟨w.heap.size, 1, none⟩ = some (.int .i64 z.m.up) ∧ w'.cell? ⟨w.heap.size, 2, none⟩ = some (.int .i64 z.m.rc) ∧ w'.cell? ⟨w.heap.size, 3, none⟩ = some (.bool z.m.rev))
    (fun w' => w'.cell? ⟨gp, 3, none⟩ = some (.slice B n d)) (fun _ => True) (fun _ => True) (fun _ h => h.1) (fun _ _ => trivial) (fun _ h => h) (by kernel_rfl) (by kernel_rfl) (by kernel_rfl) (by kernel_rfl) (by exact ⟨c3, b0, b1, b2, b3⟩) ?_
  (repeat (first | (refine lew_skip (by rfl) (by rfl) ?_; try simp only [Act.put, List.setIfInBounds_toArray, List.set_cons_zero, List.set_cons_succ]) | (refine lew_read0 (v := ?_) (by rfl) (by rfl) ?_ ?_; rotate_left; (focus (intro w' hS'; go_simp; (try with_reducible rfl); done)); try simp only [Act.put, List.setIfInBounds_toArray, List.set_cons_zero, List.set_cons_succ]) | (refine lew_read1 (v := ?_) (by rfl) (by rfl) ?_ ?_; rotate_left; (focus (intro w' hS'; go_simp; (try with_reducible rfl); done)); try simp only [Act.put, List.setIfInBounds_toArray, List.set_cons_zero, List.set_cons_succ]) | (refine lew_read2 (v := ?_) (by rfl) (by rfl) ?_ ?_; rotate_left; (focus (intro w' hS'; go_simp; (try with_reducible rfl); done)); try simp only [Act.put, List.setIfInBounds_toArray, List.set_cons_zero, List.set_cons_succ]) | (refine lew_read3 (v := ?_) (by rfl) (by rfl) ?_ ?_; rotate_left; (focus (intro w' hS'; go_simp; (try with_reducible rfl); done)); try simp only [Act.put, List.setIfInBounds_toArray, List.set_cons_zero, List.set_cons_succ]) | (refine lew_read4 (v := ?_) (by rfl) (by rfl) ?_ ?_; rotate_left; (focus (intro w' hS'; go_simp; (try with_reducible rfl); done)); try simp only [Act.put, List.setIfInBounds_toArray, List.set_cons_zero, List.set_cons_succ])))
  refine lew_chain1 rfl (by rfl) (fun K hK => ?_)
  go_wp2_with fail
  have R2 := hide (show Run F w _ (W.alloc (.cells #[.slice z.A z.ts.length z.c, .int .i64 z.m.up, .int .i64 z.m.rc, .bool z.m.rev] 124)).drew from R1.out.below (star_ok cell_ok OK0.out) ((Below.refl _ _).alloc (Nat.le_refl _) _))
  have HSR := hide (show Src (W.alloc (.cells #[.slice z.A z.ts.length z.c, .int .i64 z.m.up, .int .i64 z.m.rc, .bool z.m.rev] 124)).drew (some ⟨W.heap.size, 0, none⟩) 1 4 (zcl z) from src_new W.drew (zcl z) 124 hone.out)
  generalize (W.alloc (.cells #[.slice z.A z.ts.length z.c, .int .i64 z.m.up, .int .i64 z.m.rc, .bool z.m.rev] 124)).drew = W2 at *
  obtain ⟨F3, hC3⟩ := R2.out.fst
  refine hK.out _ _ (cell_at hC3 rfl) ?_
  clear hK hC3 R1 c3 b0 b1 b2 b3
  (repeat (first | (refine lew_skip (by rfl) (by rfl) ?_; try simp only [Act.put, List.setIfInBounds_toArray, List.set_cons_zero, List.set_cons_succ]) | (refine lew_read0 (v := ?_) (by rfl) (by rfl) ?_ ?_; rotate_left; (focus (intro w' hS'; go_simp; (try with_reducible rfl); done)); try simp only [Act.put, List.setIfInBounds_toArray, List.set_cons_zero, List.set_cons_succ]) | (refine lew_read1 (v := ?_) (by rfl) (by rfl) ?_ ?_; rotate_left; (focus (intro w' hS'; go_simp; (try with_reducible rfl); done)); try simp only [Act.put, List.setIfInBounds_toArray, List.set_cons_zero, List.set_cons_succ]) | (refine lew_read2 (v := ?_) (by rfl) (by rfl) ?_ ?_; rotate_left; (focus (intro w' hS'; go_simp; (try with_reducible rfl); done)); try simp only [Act.put, List.setIfInBounds_toArray, List.set_cons_zero, List.set_cons_succ]) | (refine lew_read3 (v := ?_) (by rfl) (by rfl) ?_ ?_; rotate_left; (focus (intro w' hS'; go_simp; (try with_reducible rfl); done)); try simp only [Act.put, List.setIfInBounds_toArray, List.set_cons_zero, List.set_cons_succ]) | (refine lew_read4 (v := ?_) (by rfl) (by rfl) ?_ ?_; rotate_left; (focus (intro w' hS'; go_simp; (try with_reducible rfl); done)); try simp only [Act.put, List.setIfInBounds_toArray, List.set_cons_zero, List.set_cons_succ])))
  refine lew_chain2 rfl (by rfl) (fun K hK => ?_)
  obtain ⟨F4, hR4, -, hbk4⟩ := R2.out.rot.take row_ok (star_ok cell_ok (star_ok (zow_ok z) (big_ok (fun A hA => by obtain ⟨z, _, rfl⟩ := List.mem_map.1 hA; exact zow_ok z))))
  refine wp_app (.tmp 8) (.tmp 10) rfl msgOk _ 0 (v := .slice B n d) (n := n) rfl hR4.1 (A := some ⟨W.heap.size, 0, none⟩) (m := 1) (c := 1) (news := zcl z) rfl HSR.out (by omega) (by omega) (Nat.zero_le _) ?_
  intro v4 w4 ho4 hg4 hv4
  have S4 := hbk4 _ _ (row_app hR4 ho4 hg4 hv4)
  obtain ⟨B', d', rfl⟩ := own_form ho4
  obtain ⟨F5, hC5, -, hbk5⟩ := S4.rot.take cell_ok (star_ok row_ok (star_ok (zow_ok z) (big_ok (fun A hA => by obtain ⟨z, _, rfl⟩ := List.mem_map.1 hA; exact zow_ok z))))
  have d5 : w4.cell? ⟨gp, 3, none⟩ = some (.slice B n d) := cell_at hC5 rfl
  have z5 := cell_free hC5 3
  have S6 : Run F w (star (CellO gp (lcl s last rc B' (n + 1) d') 109) (ARow zcl zow 124 4 (.slice B' (n + 1) d') (zs ++ [z]))) (w4.setCell ⟨gp, 3, none⟩ (.slice B' (n + 1) d')) := by
    refine (hbk5 _ _ (cell_set hC5 3 (.slice B' (n + 1) d'))).imp fun w F h => star_mono h (fun _ h => h) (fun F h => arow_snoc ?_)
    rw [hzn]; exact h
  have HFIN := hide (S6.post (star_ok cell_ok (arow_ok zow_ok)))
  refine hK.out _ _ trivial ?_
  clear hK hR4 hbk4 ho4 hg4 hv4 S4 hC5 hbk5 S6
  (repeat (first | (refine lew_skip (by rfl) (by rfl) ?_; try simp only [Act.put, List.setIfInBounds_toArray, List.set_cons_zero, List.set_cons_succ]) | (refine lew_read0 (v := ?_) (by rfl) (by rfl) ?_ ?_; rotate_left; (focus (intro w' hS'; go_simp; (try with_reducible rfl); done)); try simp only [Act.put, List.setIfInBounds_toArray, List.set_cons_zero, List.set_cons_succ]) | (refine lew_read1 (v := ?_) (by rfl) (by rfl) ?_ ?_; rotate_left; (focus (intro w' hS'; go_simp; (try with_reducible rfl); done)); try simp only [Act.put, List.setIfInBounds_toArray, List.set_cons_zero, List.set_cons_succ]) | (refine lew_read2 (v := ?_) (by rfl) (by rfl) ?_ ?_; rotate_left; (focus (intro w' hS'; go_simp; (try with_reducible rfl); done)); try simp only [Act.put, List.setIfInBounds_toArray, List.set_cons_zero, List.set_cons_succ]) | (refine lew_read3 (v := ?_) (by rfl) (by rfl) ?_ ?_; rotate_left; (focus (intro w' hS'; go_simp; (try with_reducible rfl); done)); try simp only [Act.put, List.setIfInBounds_toArray, List.set_cons_zero, List.set_cons_succ]) | (refine lew_read4 (v := ?_) (by rfl) (by rfl) ?_ ?_; rotate_left; (focus (intro w' hS'; go_simp; (try with_reducible rfl); done)); try simp only [Act.put, List.setIfInBounds_toArray, List.set_cons_zero, List.set_cons_succ])))
  refine lew_chain3 rfl (by rfl) (fun K hK => ?_)
  go_wp2_with fail
  refine hK.out _ _ trivial (lew_nil ?_)
  go_wp2
  refine bodyPost_end (results_none rfl _ _ _) rfl ?_
  exact ⟨rfl, B', d', HFIN.out⟩
end Go.Proofs.Ytapabbpdfplpoaa
namespace Go.Proofs.Ytapabbpdfplpoaa
open Go.RowKit Go.CH Go.CH.Esc
open Go.ChangeMaps (setBlock)

theorem results_row_tmp {fn : Func} {p u : Tmp} {ty : TypeId} (h : fn.results = #[.cell p ty, .tmp u]) {P : Program} (tmps : Array Value) (w : World) (g : Nat) (t : TypeId) (cs : Array Value) (fr : Nat × Nat) {d : Array Field}
    (hp : tmps.getD p undef = .pointer (some ⟨g, 0, none⟩)) (hg : w.heap[g]? = some (.cells cs t fr))
    (hu : P.underlying ty = some (.struct d)) (hi : (P.info? ty).map (·.size) = some cs.size) :
    (results fn tmps).run P w = .ok (.tuple #[.agg cs, tmps.getD u undef]) w := by
  rw [results_cell_tmp h, hp]
  simp [asAddr, run_loadVar_row w g t ty cs fr (.struct d) hg hu rfl hi]
def zeroMsg : Value := .agg #[.slice none 0 0, .int .i64 0, .int .i64 0, .bool false]
set_option maxHeartbeats 1600000 in
theorem take_none {w : World} {gp d : Nat} {B : Option Addr} (h : w.cell? ⟨gp, 3, none⟩ = some (.slice B 0 d)) :
    Calls Try.prog 69 #[.pointer (some ⟨gp, 3, none⟩)] w (BelowRet w (.tuple #[zeroMsg, .bool false])) := by
  have hlt : gp < w.heap.size := World.block_lt_of_cell? _ _ h
  go_enter Try.func69, Try.ntmps69
  go_wp2_with fail
  refine bodyPost_ret_by (results_row_tmp rfl _ _ w.heap.size 124 #[.slice none 0 0, .int .i64 0, .int .i64 0, .bool false] (0, 0) rfl ?_ Try.underlying124 (by kernel_rfl)) rfl ?_
  · rw [heap_old (by simp)]; exact heap_alloc_new w _
  · exact ⟨rfl, ((Below.refl _ _).alloc (Nat.le_refl _) _).alloc (by simp) _⟩
set_option maxRecDepth 100000 in
set_option maxHeartbeats 1600000 in
theorem take_some {w : World} {F : Nat → Prop} {gp n d : Nat} {s : Value} {last rc : Int} {B : Option Addr} {zs : List ZMsg} {z : ZMsg} (hzn : zs.length = n) (hn : n ≤ 100)
    (h : star (CellO gp (lcl s last rc B (n + 1) d) 109) (ARow zcl zow 124 4 (.slice B (n + 1) d) (z :: zs)) w F) :
    Calls Try.prog 69 #[.pointer (some ⟨gp, 3, none⟩)] w
      (fun e w' => e = .returned (.tuple #[.agg (zcl z).toArray, .bool true]) ∧ Post w F (star (CellO gp (lcl s last rc B n d) 109) (star (ARow zcl zow 124 4 (.slice B n d) zs) (zow z))) w') := by
  have R0 := hide (Run.start h)
  obtain ⟨F1, hC1⟩ := R0.out.fst
  obtain ⟨F2, hA2⟩ := R0.out.swap.fst
  have c3 : w.cell? ⟨gp, 3, none⟩ = some (.slice B (n + 1) d) := cell_at hC1 rfl
  have hlt : gp < w.heap.size := World.block_lt_of_cell? _ _ c3
  obtain ⟨Fr, Fb, hr, -⟩ := hA2
  rw [List.length_cons, hzn] at hr
  obtain ⟨g, rfl⟩ := row_addr hr (Nat.succ_pos n)
  have a0 : w.cell? ⟨g, 0, none⟩ = some (.slice z.A z.ts.length z.c) := row_cell hr rfl
  have a1 : w.cell? ⟨g, 1, none⟩ = some (.int .i64 z.m.up) := row_cell hr rfl
  have a2 : w.cell? ⟨g, 2, none⟩ = some (.int .i64 z.m.rc) := row_cell hr rfl
  have a3 : w.cell? ⟨g, 3, none⟩ = some (.bool z.m.rev) := row_cell hr rfl
  have hlg : g < w.heap.size := World.block_lt_of_cell? _ _ a0
  have X0 : Run F w (star (CellO gp (lcl s last rc (some ⟨g, 0, none⟩) (n + 1) d) 109) (star (RowO 124 4 (.slice (some ⟨g, 0, none⟩) (n + 1) d) (n + 1) (zcl z ++ zs.flatMap zcl)) (star (zow z) (bigStar (zs.map zow))))) w := by
    refine (Run.start h).imp fun w F h => star_mono h (fun _ h => h) (fun F h => ?_)
    unfold ARow at h
    rw [List.length_cons, hzn] at h
    exact h
  have okT : (star (zow z) (bigStar (zs.map zow))).Ok := star_ok (zow_ok z) (big_ok (fun A hA => by obtain ⟨z, _, rfl⟩ := List.mem_map.1 hA; exact zow_ok z))
  have X1 := X0.fresh (star_ok cell_ok (star_ok row_ok okT)) (cell_new w #[.slice none 0 0, .int .i64 0, .int .i64 0, .bool false] 124)
  have X2 := X1.fresh (star_ok cell_ok (star_ok cell_ok (star_ok row_ok okT))) (cell_new _ #[.slice z.A z.ts.length z.c, .int .i64 z.m.up, .int .i64 z.m.rc, .bool z.m.rev] 124)
  rw [show (w.alloc (.cells #[.slice none 0 0, .int .i64 0, .int .i64 0, .bool false] 124)).heap.size = w.heap.size + 1 by simp] at X2
  have X3 := X2.imp fun w F h => star_rot (star_mono h (fun _ h => h) (fun F h => star_rot (star_mono h (fun _ h => h) (fun F h => star_rot h))))
  obtain ⟨F3, hR3, -, hbk3⟩ := X3.take row_ok (star_ok cell_ok (star_ok cell_ok (star_ok cell_ok okT)))
  have KD := hide (del_any hR3 (by
    intro u hu
    rcases List.mem_append.1 hu with hu | hu
    · exact zcl_one z u hu
    · obtain ⟨z', _, hu⟩ := List.mem_flatMap.1 hu
      exact zcl_one z' u hu) hn)
  have HBK := hide hbk3
  have OKT := hide okT
  clear h hC1 hr X0 X1 X2 X3 hR3 hbk3 okT R0
  go_enter Try.func69, Try.ntmps69
  go_wp2_with fail
  refine KD.out.mono ?_
  rintro e w3 ⟨rfl, hP3⟩
  have S3 := HBK.out _ _ hP3
  rw [show (zcl z ++ zs.flatMap zcl).drop 4 = zs.flatMap zcl from rfl] at S3
  have OKR : (star (RowO 124 4 (.slice (some ⟨g, 0, none⟩) n d) n (zs.flatMap zcl)) (star (CellO (w.heap.size + 1) #[.slice z.A z.ts.length z.c, .int .i64 z.m.up, .int .i64 z.m.rc, .bool z.m.rev] 124) (star (CellO w.heap.size #[.slice none 0 0, .int .i64 0, .int .i64 0, .bool false] 124) (star (zow z) (bigStar (zs.map zow)))))).Ok :=
    star_ok row_ok (star_ok cell_ok (star_ok cell_ok OKT.out))
  obtain ⟨F4, hC4, -, bk4⟩ := (S3.imp fun w F h => star_rot (star_mono h (fun _ h => h) (fun F h => star_rot (star_mono h (fun _ h => h) (fun F h => star_rot h))))).take cell_ok OKR
  have q3 := cell_at hC4 (i := 3) rfl
  have y3 := cell_free hC4 3
  have S5 := bk4 _ _ (cell_set hC4 3 (.slice (some ⟨g, 0, none⟩) n d))
  obtain ⟨F5, hM5⟩ := S5.rot3.fst
  have m0 := cell_at hM5 (i := 0) rfl
  have m1 := cell_at hM5 (i := 1) rfl
  have m2 := cell_at hM5 (i := 2) rfl
  have m3 := cell_at hM5 (i := 3) rfl
  have S6 := S5.imp fun w F h => star_rot (star_mono h (fun _ h => h) (fun F h => star_rot (star_mono h (fun _ h => h) (fun F h => star_rot h))))
  have OKC : (star (CellO gp (lcl s last rc (some ⟨g, 0, none⟩) n d) 109) (star (RowO 124 4 (.slice (some ⟨g, 0, none⟩) n d) n (zs.flatMap zcl)) (star (CellO (w.heap.size + 1) #[.slice z.A z.ts.length z.c, .int .i64 z.m.up, .int .i64 z.m.rc, .bool z.m.rev] 124) (star (zow z) (bigStar (zs.map zow)))))).Ok :=
    star_ok cell_ok (star_ok row_ok (star_ok cell_ok OKT.out))
  obtain ⟨G0, h0, -, k0⟩ := S6.take cell_ok OKC
  have r0 := cell_at h0 (i := 0) rfl
  have r1 := cell_at h0 (i := 1) rfl
  have r2 := cell_at h0 (i := 2) rfl
  have r3 := cell_at h0 (i := 3) rfl
  have f0 : w3.frozen? ⟨w.heap.size, 0, none⟩ = false := by simpa using cell_free h0 0
  have f1 : w3.frozen? ⟨w.heap.size, 1, none⟩ = false := by simpa using cell_free h0 1
  have f2 : w3.frozen? ⟨w.heap.size, 2, none⟩ = false := by simpa using cell_free h0 2
  have f3 : w3.frozen? ⟨w.heap.size, 3, none⟩ = false := by simpa using cell_free h0 3
  have s0 := k0 _ _ (cell_set h0 0 (.slice z.A z.ts.length z.c))
  obtain ⟨G1, h1, -, k1⟩ := s0.take cell_ok OKC
  have s1 := k1 _ _ (cell_set h1 1 (.int .i64 z.m.up))
  obtain ⟨G2, h2, -, k2⟩ := s1.take cell_ok OKC
  have s2 := k2 _ _ (cell_set h2 2 (.int .i64 z.m.rc))
  obtain ⟨G3, h3, -, k3⟩ := s2.take cell_ok OKC
  have s3 := k3 _ _ (cell_set h3 3 (.bool z.m.rev))
  obtain ⟨G4, h4⟩ := s3.fst
  have HH := hide h4.1
  have S9 : Run F w (star (CellO gp (lcl s last rc (some ⟨g, 0, none⟩) n d) 109) (star (ARow zcl zow 124 4 (.slice (some ⟨g, 0, none⟩) n d) zs) (zow z))) _ := s3.drop.rot3.drop.imp fun w F h => star_mono h (fun _ h => h) (fun F h => star_assoc' (by
    rw [hzn]
    exact star_mono h (fun _ h => h) (fun _ h => star_comm h)))
  have HFIN := hide (S9.post (star_ok cell_ok (star_ok (arow_ok zow_ok) (zow_ok z))))
  clear hP3 S3 OKR hC4 bk4 S5 hM5 S6 KD HBK h0 h1 h2 h3 h4 k0 k1 k2 k3 s0 s1 s2 s3 S9 OKC
  go_wp2_with fail
  exact bodyPost_ret_by (results_row_tmp rfl _ _ w.heap.size 124 #[.slice z.A z.ts.length z.c, .int .i64 z.m.up, .int .i64 z.m.rc, .bool z.m.rev] (0, 0) rfl HH.out Try.underlying124 (by kernel_rfl)) rfl ⟨rfl, HFIN.out⟩
end Go.Proofs.Ytapabbpdfplpoaa
namespace Go.Proofs.Ytapabbpdfplpoaa
open Go.RowKit Go.CH Go.CH.Esc
open Go.ChangeMaps (setBlock)

def CloneRet (w : World) (n : Nat) (l : List Int) (e : Ending) (w' : World) : Prop := ∃ A' c', e = .returned (.slice A' n c') ∧ Post w (fun _ => False) (RowO 3 1 (.slice A' n c') n (ints l)) w'
set_option maxHeartbeats 1600000 in
set_option maxRecDepth 100000 in
theorem clone_any {w : World} {A : Option Addr} {n c : Nat} {l : List Int} (h : w.ownsRow 0 3 1 (.slice A n c) n (ints l)) (hn : n ≤ 1000) :
    Calls Try.prog 71 #[.slice A n c] w (CloneRet w n l) := by
  have hs := hide (Src.of_own h (ints_one l))
  have hcap := row_cap h
  have hl : (ints l).length = n := by have := h.1; simpa using this
  cases A with
  | none =>
    have hc := hcap.2 rfl
    subst hc
    obtain rfl : n = 0 := by omega
    have h0 : ints l = [] := List.eq_nil_of_length_eq_zero hl
    have H0 := hide h0
    have he := fun w => Go.Lib.run_eql_slice_nil (P := Try.prog) w 74 3 none 0 0 0 0 Try.underlying74
    clear h hcap hl hs h0
    go_enter Try.func71, Try.ntmps71
    go_wp2_with fail
    go_ret
    refine ⟨none, 0, rfl, fun _ => False, ?_, Mod.refl _ _, fun i hi => hi.elim⟩
    rw [H0.out]
    exact row_nil _ _ _
  | some a =>
    have he := fun w => Go.Lib.run_eql_slice_nil (P := Try.prog) w 74 3 (some a) n c 0 0 Try.underlying74
    have R0 := hide ((Run.begin w).fresh emp_ok (row_made w 3 1))
    have hs' := hide (Src.of_own (ownsRow_of_block (w' := w.alloc (.cells #[] 3)) h (fun g hg => heap_old (ownsRow_lt h hg))) (ints_one l))
    clear h hcap hl hs
    go_enter Try.func71, Try.ntmps71
    go_wp2_with (at_builtin; refine held ?_)
    obtain ⟨F1, hR1, -, bk1⟩ := R0.out.take row_ok emp_ok
    refine Held.mk (wpList_app rfl (.tmp 5) (.tmp 6) rfl intsOk _ 0 (v := .slice (some ⟨w.heap.size, 0, none⟩) 0 0) (n := 0) (xs := []) rfl hR1.1 (A := some a) (m := n) (c := c) (news := ints l) rfl hs'.out (by omega) (by omega) (Nat.zero_le _) ?_)
    intro v4 w4 ho4 hg4 hv4
    have S4 := bk1 _ _ (row_app hR1 ho4 hg4 hv4)
    rw [Nat.zero_add, List.nil_append] at S4
    obtain ⟨A', c', rfl⟩ := own_form ho4
    rw [Nat.zero_add] at *
    have HFIN := hide (S4.swap.drop.post row_ok)
    clear hR1 bk1 ho4 hg4 hv4 S4
    go_wp2
    go_ret
    exact ⟨A', c', rfl, HFIN.out⟩
end Go.Proofs.Ytapabbpdfplpoaa
namespace Go.Proofs.Ytapabbpdfplpoaa
open Go.RowKit Go.CH Go.CH.Esc
open Go.ChangeMaps (setBlock)

theorem msgT_all {p : PrG} : msgT p.H ⟨p.conf, p.H.length, 0, false⟩ = p.H.drop p.conf := by simp [msgT]
/-- The other line's received, read beside a line that is out. -/
theorem escQ_rc {F0 : Nat → Prop} {w0 W : World} {g : GM} {p : Nat} {s : EscP} (h : Run F0 w0 (EscS g p s) W) {f t : Int} (hp : g.pair f t = true) : W.cell? ⟨s.gp (f, t), 2, none⟩ = some (.int .i64 (g.pr (f, t)).rc) := by
  obtain ⟨l, -, hl⟩ := esc_line h hp
  exact (line_cells hl).2.2.1
/-- The line, the new row beside it, as put wants it. -/
theorem send_in {w : World} {F : Nat → Prop} {N C T A Q : Own} (h : star N (star C (star T (star A Q))) w F) : star (star C (star A N)) (star T Q) w F :=
  star_assoc' (star_mono (star_rot h) (fun _ h => h) (fun F h => star_assoc' (star_rot (star_mono h (fun _ h => h) (fun F h => star_rot h)))))
theorem send_out {w : World} {F : Nat → Prop} {C A T Q : Own} (h : star (star C A) (star T Q) w F) : star C (star T (star A Q)) w F :=
  star_mono (star_assoc h) (fun _ h => h) (fun F h => star_rot h)
theorem send_run {F0 : Nat → Prop} {w0 W : World} {g : GM} {p : Nat} {s : EscP} {f t : Int} {l : LinS} {z : ZMsg} {B' : Option Addr} {d' : Nat} (hp : g.pair f t = true) (hz : LineZ (g.pr (f, t)) l) (hzt : z.ts = msgT (g.pr (f, t)).H z.m)
    (h : Run F0 w0 (star (star (CellO (s.gp (f, t)) (lcl (.slice l.A ((g.pr (f, t)).H.drop (g.pr (f, t)).conf).length l.c) (g.pr (f, t)).H.length (g.pr (f, t)).rc B' (l.zs.length + 1) d') 109) (ARow zcl zow 124 4 (.slice B' (l.zs.length + 1) d') (l.zs ++ [z])))
      (star (RowO 3 1 (.slice l.A ((g.pr (f, t)).H.drop (g.pr (f, t)).conf).length l.c) ((g.pr (f, t)).H.drop (g.pr (f, t)).conf).length (ints ((g.pr (f, t)).H.drop (g.pr (f, t)).conf))) (EscQ g p s (f, t)))) W) :
    Run F0 w0 (EscS (g.setP (f, t) { g.pr (f, t) with ms := (g.pr (f, t)).ms ++ [z.m] }) p s) W := by
  refine esc_back (l := { l with B := B', d := d', zs := l.zs ++ [z] }) (h.imp fun w F h => ?_) ⟨by simp [hz.1], fun y hy => ?_⟩ hp
  · unfold LineQ
    rw [show (l.zs ++ [z]).length = l.zs.length + 1 by simp]
    exact send_out h
  · simp at hy
    rcases hy with hy | rfl
    · exact hz.2 y hy
    · exact hzt
set_option maxRecDepth 100000 in
set_option maxHeartbeats 1600000 in
theorem send_ok {w : World} {F : Nat → Prop} {g : GM} {p : Nat} (h : EscO g p w F) {U : Int} (hI : Inv g U) {f t : Nat} (hp : g.pair f t = true) (hl : (g.pr (f, t)).H.length ≤ 1000000) (hq : (g.pr (f, t)).ms.length < 100) :
    Calls Try.prog 31 #[.pointer (some ⟨p, 0, none⟩), .int .i64 f, .int .i64 t] w (EPost w F (.int .i64 0) (g.setP (f, t) { g.pr (f, t) with ms := (g.pr (f, t)).ms ++ [⟨(g.pr (f, t)).conf, (g.pr (f, t)).H.length, (g.pr (t, f)).rc, (g.at_ f).rev⟩] }) p) := by
  have hr := (pair_is hp).1
  have hpb := pair_swap hp
  have hfl := (is_lt hr).2
  have hPr := hI.pr f t hp
  obtain ⟨s, hS⟩ := h
  have hR := hS.read
  obtain ⟨b, hb⟩ := hR.addr (by have := hI.nb; omega)
  have KL := hide (line_any hR f t)
  rw [lineV, if_pos hp] at KL
  obtain ⟨l0, hz0, hrun0⟩ := esc_line (Run.start hS) hp
  obtain ⟨-, -, -, q3⟩ := line_cells hrun0
  have hn0 : l0.zs.length = (g.pr (f, t)).ms.length := by rw [← hz0.1]; simp
  rw [hn0] at q3
  have hS1 := (Run.start hS).drew escS_ok
  obtain ⟨F1, hE1⟩ := hS1.get
  have hR1 := hE1.read
  have hc0 := hR1.c0
  rw [hb] at hc0
  obtain ⟨-, -, cr⟩ := hR1.accs b hb f hr
  have rc := escQ_rc hS1 hpb
  obtain ⟨l, hz, hrun⟩ := esc_line hS1 hp
  obtain ⟨d0, d1, -, -⟩ := line_cells hrun
  simp only [Int.toNat_natCast] at cr hfl
  have hnz : l.zs.length = (g.pr (f, t)).ms.length := by rw [← hz.1]; simp
  have hnl : ((g.pr (f, t)).H.drop (g.pr (f, t)).conf).length ≤ 100 := by rw [List.length_drop]; have := hPr.few; omega
  obtain ⟨FT, hT⟩ := hrun.rot.fst
  have KC := hide (clone_any hT.1 (by omega))
  have HRUN := hide hrun
  have HE1 := hide hE1
  have HZ := hide hz
  have e4 : ¬ ((100 : Int) ≤ (g.pr (f, t)).ms.length) := by omega
  have e3 : decide ((100 : Int) ≤ (g.pr (f, t)).ms.length) = false := by simp; omega
  generalize (g.at_ f).rev = rv at *
  generalize hN : ((g.pr (f, t)).H.drop (g.pr (f, t)).conf).length = n at *
  have HN := hide hN
  clear hT hrun hE1 hz hz0 hrun0 hS1 hR1 hS hR hI hN
  go_enter Try.func31, Try.ntmps31
  go_wp2_with fail
  refine KL.out.mono ?_
  rintro e w' ⟨rfl, rfl⟩
  go_wp2_with fail
  refine wp_region_lew [7, 15, 28] [2, 2, 2, 0, 0, 0, 0, 1, 2, 2, 2, 2, 1, 1, 1, 2, 2, 2, 2, 2, 2, 2, 2, 2, 2, 2, 2, 2, 3]
    (fun w' => w'.cell? ⟨s.gp (f, t), 0, none⟩ = some (.slice l.A n l.c) ∧ w'.cell? ⟨s.gp (f, t), 1, none⟩ = some (.int .i64 (g.pr (f, t)).H.length) ∧ w'.cell? ⟨s.gp (t, f), 2, none⟩ = some (.int .i64 (g.pr (t, f)).rc) ∧ w'.cell? ⟨p, 0, none⟩ = some (.slice (some ⟨b, 0, none⟩) g.acc.length s.c) ∧ w'.cell? ⟨b, f * 3 + 2, none⟩ = some (.bool rv))
    (fun w' => w'.cell? ⟨s.gp (f, t), 1, none⟩ = some (.int .i64 (g.pr (f, t)).H.length) ∧ w'.cell? ⟨s.gp (t, f), 2, none⟩ = some (.int .i64 (g.pr (t, f)).rc) ∧ w'.cell? ⟨p, 0, none⟩ = some (.slice (some ⟨b, 0, none⟩) g.acc.length s.c) ∧ w'.cell? ⟨b, f * 3 + 2, none⟩ = some (.bool rv))
    (fun w' => w'.cell? ⟨s.gp (f, t), 1, none⟩ = some (.int .i64 (g.pr (f, t)).H.length) ∧ w'.cell? ⟨s.gp (t, f), 2, none⟩ = some (.int .i64 (g.pr (t, f)).rc) ∧ w'.cell? ⟨p, 0, none⟩ = some (.slice (some ⟨b, 0, none⟩) g.acc.length s.c) ∧ w'.cell? ⟨b, f * 3 + 2, none⟩ = some (.bool rv))
    (fun _ => True) (fun _ h => h.2) (fun _ h => h) (fun _ _ => trivial) (by kernel_rfl) (by kernel_rfl) (by kernel_rfl) (by kernel_rfl) (by exact ⟨d0, d1, rc, hc0, cr⟩) ?_
  (repeat (first | (refine lew_skip (by rfl) (by rfl) ?_; try simp only [Act.put, List.setIfInBounds_toArray, List.set_cons_zero, List.set_cons_succ]) | (refine lew_read0 (v := ?_) (by rfl) (by rfl) ?_ ?_; rotate_left; (focus (intro w' hS'; go_simp; (try with_reducible rfl); done)); try simp only [Act.put, List.setIfInBounds_toArray, List.set_cons_zero, List.set_cons_succ]) | (refine lew_read1 (v := ?_) (by rfl) (by rfl) ?_ ?_; rotate_left; (focus (intro w' hS'; go_simp; (try with_reducible rfl); done)); try simp only [Act.put, List.setIfInBounds_toArray, List.set_cons_zero, List.set_cons_succ]) | (refine lew_read2 (v := ?_) (by rfl) (by rfl) ?_ ?_; rotate_left; (focus (intro w' hS'; go_simp; (try with_reducible rfl); done)); try simp only [Act.put, List.setIfInBounds_toArray, List.set_cons_zero, List.set_cons_succ]) | (refine lew_read3 (v := ?_) (by rfl) (by rfl) ?_ ?_; rotate_left; (focus (intro w' hS'; go_simp; (try with_reducible rfl); done)); try simp only [Act.put, List.setIfInBounds_toArray, List.set_cons_zero, List.set_cons_succ]) | (refine lew_read4 (v := ?_) (by rfl) (by rfl) ?_ ?_; rotate_left; (focus (intro w' hS'; go_simp; (try with_reducible rfl); done)); try simp only [Act.put, List.setIfInBounds_toArray, List.set_cons_zero, List.set_cons_succ])))
  refine lew_chain1 rfl (by rfl) (fun K hK => ?_)
  go_wp2_with fail
  refine KC.out.mono ?_
  rintro e w2 ⟨A', c', rfl, hP2⟩
  have S2 := hide (HRUN.out.fresh (lineQ_ok escQ_ok) hP2)
  obtain ⟨FN, -, hM, -⟩ := hP2
  have hbel : Below w.drew.heap.size w.drew w2 := hM.below (fun _ _ h => h)
  have KB := hide (line_any (EscR.below HE1.out hbel) t f)
  rw [lineV, if_pos hpb] at KB
  have d1' : w2.cell? ⟨s.gp (f, t), 1, none⟩ = some (.int .i64 (g.pr (f, t)).H.length) := by rw [hbel.cell (World.block_lt_of_cell? _ _ d1)]; exact d1
  have rc' : w2.cell? ⟨s.gp (t, f), 2, none⟩ = some (.int .i64 (g.pr (t, f)).rc) := by rw [hbel.cell (World.block_lt_of_cell? _ _ rc)]; exact rc
  have hc0' : w2.cell? ⟨p, 0, none⟩ = some (.slice (some ⟨b, 0, none⟩) g.acc.length s.c) := by rw [hbel.cell (World.block_lt_of_cell? _ _ hc0)]; exact hc0
  have cr' : w2.cell? ⟨b, f * 3 + 2, none⟩ = some (.bool rv) := by rw [hbel.cell (World.block_lt_of_cell? _ _ cr)]; exact cr
  refine hK.out _ _ ⟨d1', rc', hc0', cr'⟩ ?_
  clear hK hM hbel d0 d1 rc hc0 cr KC HE1
  (repeat (first | (refine lew_skip (by rfl) (by rfl) ?_; try simp only [Act.put, List.setIfInBounds_toArray, List.set_cons_zero, List.set_cons_succ]) | (refine lew_read0 (v := ?_) (by rfl) (by rfl) ?_ ?_; rotate_left; (focus (intro w' hS'; go_simp; (try with_reducible rfl); done)); try simp only [Act.put, List.setIfInBounds_toArray, List.set_cons_zero, List.set_cons_succ]) | (refine lew_read1 (v := ?_) (by rfl) (by rfl) ?_ ?_; rotate_left; (focus (intro w' hS'; go_simp; (try with_reducible rfl); done)); try simp only [Act.put, List.setIfInBounds_toArray, List.set_cons_zero, List.set_cons_succ]) | (refine lew_read2 (v := ?_) (by rfl) (by rfl) ?_ ?_; rotate_left; (focus (intro w' hS'; go_simp; (try with_reducible rfl); done)); try simp only [Act.put, List.setIfInBounds_toArray, List.set_cons_zero, List.set_cons_succ]) | (refine lew_read3 (v := ?_) (by rfl) (by rfl) ?_ ?_; rotate_left; (focus (intro w' hS'; go_simp; (try with_reducible rfl); done)); try simp only [Act.put, List.setIfInBounds_toArray, List.set_cons_zero, List.set_cons_succ]) | (refine lew_read4 (v := ?_) (by rfl) (by rfl) ?_ ?_; rotate_left; (focus (intro w' hS'; go_simp; (try with_reducible rfl); done)); try simp only [Act.put, List.setIfInBounds_toArray, List.set_cons_zero, List.set_cons_succ])))
  refine lew_chain2 rfl (by rfl) (fun K hK => ?_)
  go_wp2_with fail
  refine KB.out.mono ?_
  rintro e w' ⟨rfl, rfl⟩
  refine hK.out _ _ ⟨d1', rc', hc0', cr'⟩ ?_
  clear hK
  (repeat (first | (refine lew_skip (by rfl) (by rfl) ?_; try simp only [Act.put, List.setIfInBounds_toArray, List.set_cons_zero, List.set_cons_succ]) | (refine lew_read0 (v := ?_) (by rfl) (by rfl) ?_ ?_; rotate_left; (focus (intro w' hS'; go_simp; (try with_reducible rfl); done)); try simp only [Act.put, List.setIfInBounds_toArray, List.set_cons_zero, List.set_cons_succ]) | (refine lew_read1 (v := ?_) (by rfl) (by rfl) ?_ ?_; rotate_left; (focus (intro w' hS'; go_simp; (try with_reducible rfl); done)); try simp only [Act.put, List.setIfInBounds_toArray, List.set_cons_zero, List.set_cons_succ]) | (refine lew_read2 (v := ?_) (by rfl) (by rfl) ?_ ?_; rotate_left; (focus (intro w' hS'; go_simp; (try with_reducible rfl); done)); try simp only [Act.put, List.setIfInBounds_toArray, List.set_cons_zero, List.set_cons_succ]) | (refine lew_read3 (v := ?_) (by rfl) (by rfl) ?_ ?_; rotate_left; (focus (intro w' hS'; go_simp; (try with_reducible rfl); done)); try simp only [Act.put, List.setIfInBounds_toArray, List.set_cons_zero, List.set_cons_succ]) | (refine lew_read4 (v := ?_) (by rfl) (by rfl) ?_ ?_; rotate_left; (focus (intro w' hS'; go_simp; (try with_reducible rfl); done)); try simp only [Act.put, List.setIfInBounds_toArray, List.set_cons_zero, List.set_cons_succ])))
  refine lew_chain3 rfl (by rfl) (fun K hK => ?_)
  go_wp2_with fail
  have S3 := S2.out
  rw [← HN.out] at S3
  have X := S3.imp fun w F h => send_in h
  let z : ZMsg := ⟨⟨(g.pr (f, t)).conf, (g.pr (f, t)).H.length, (g.pr (t, f)).rc, rv⟩, (g.pr (f, t)).H.drop (g.pr (f, t)).conf, A', c'⟩
  have okP : (star (CellO (s.gp (f, t)) #[.slice l.A ((g.pr (f, t)).H.drop (g.pr (f, t)).conf).length l.c, .int .i64 (g.pr (f, t)).H.length, .int .i64 (g.pr (f, t)).rc, .slice l.B l.zs.length l.d] 109) (star (ARow zcl zow 124 4 (.slice l.B l.zs.length l.d) l.zs) (zow z))).Ok := star_ok cell_ok (star_ok (arow_ok zow_ok) (zow_ok z))
  obtain ⟨F5, hO, -, bk⟩ := X.take okP (star_ok row_ok escQ_ok)
  have KP := put_any (z := z) (n := l.zs.length) (gp := s.gp (f, t)) (s := .slice l.A ((g.pr (f, t)).H.drop (g.pr (f, t)).conf).length l.c) (last := (g.pr (f, t)).H.length) (rc := (g.pr (f, t)).rc) (B := l.B) (d := l.d) rfl (by omega) hO
  simp only [zcl, z] at KP
  rw [HN.out] at KP
  have HBK := hide bk
  have KPH := hide KP
  clear X hO bk S3 KP
  refine KPH.out.mono ?_
  rintro e w' ⟨rfl, B', d', hP5⟩
  rw [← HN.out] at hP5
  have HFIN := hide ((send_run (z := z) hp HZ.out (by simp [z, msgT]) (HBK.out _ _ hP5)).post escS_ok)
  refine hK.out _ _ trivial (lew_nil ?_)
  clear hK hP5 HBK KPH
  go_wp2
  go_ret
  obtain ⟨F', q1, q2, q3⟩ := HFIN.out
  exact ⟨rfl, F', ⟨_, q1⟩, q2, q3⟩
end Go.Proofs.Ytapabbpdfplpoaa
namespace Go.Proofs.Ytapabbpdfplpoaa
open Go.RowKit Go.CH Go.CH.Esc
open Go.ChangeMaps (setBlock)

set_option maxHeartbeats 800000 in
theorem send_any {w : World} {F : Nat → Prop} {g : GM} {p : Nat} (h : EscO g p w F) {U : Int} (hI : Inv g U) (f t : Int) (hl : (g.pr (f, t)).H.length ≤ 1000000) :
    Calls Try.prog 31 #[.pointer (some ⟨p, 0, none⟩), .int .i64 f, .int .i64 t] w (EPost w F (.int .i64 (sendE g f t)) (sendM g f t) p) := by
  cases hp : g.pair f t with
  | false =>
    have e1 : sendE g f t = 1 := by simp [sendE, hp]
    have e2 : sendM g f t = g := by simp [sendM, e1]
    rw [e1, e2]
    have H := hide h
    obtain ⟨s, hS⟩ := h
    have KL := hide (line_any hS.read f t)
    rw [lineV, if_neg (by simp [hp])] at KL
    clear hI hl e1 e2 hS
    go_enter Try.func31, Try.ntmps31
    go_wp2_with fail
    refine KL.out.mono ?_
    rintro e w' ⟨rfl, rfl⟩
    go_wp2_with fail
    go_ret
    exact EPost.quiet H.out ⟨rfl, rfl⟩
  | true =>
    obtain ⟨hr, ht, -⟩ := pair_is hp
    obtain ⟨f', rfl⟩ : ∃ k : Nat, f = k := ⟨f.toNat, by have := (is_lt hr).1; omega⟩
    obtain ⟨t', rfl⟩ : ∃ k : Nat, t = k := ⟨t.toNat, by have := (is_lt ht).1; omega⟩
    by_cases h3 : 100 ≤ (g.pr (f', t')).ms.length
    · have e1 : sendE g f' t' = 28 := by simp [sendE, hp, h3]
      have e2 : sendM g f' t' = g := by simp [sendM, e1]
      rw [e1, e2]
      have H := hide h
      obtain ⟨s, hS⟩ := h
      have KL := hide (line_any hS.read f' t')
      rw [lineV, if_pos hp] at KL
      obtain ⟨l0, hz0, hrun0⟩ := esc_line (Run.start hS) hp
      obtain ⟨-, -, -, q3⟩ := line_cells hrun0
      have hn0 : l0.zs.length = (g.pr (f', t')).ms.length := by rw [← hz0.1]; simp
      rw [hn0] at q3
      have h4 : (100 : Int) ≤ (g.pr (f', t')).ms.length := by omega
      clear hI hl e1 e2 hS hrun0 hz0 h3
      go_enter Try.func31, Try.ntmps31
      go_wp2_with fail
      refine KL.out.mono ?_
      rintro e w' ⟨rfl, rfl⟩
      go_wp2_with fail
      go_ret
      exact EPost.quiet H.out ⟨rfl, rfl⟩
    · have e1 : sendE g f' t' = 0 := by simp [sendE, hp, h3]
      have e2 : sendM g f' t' = g.setP (f', t') { g.pr (f', t') with ms := (g.pr (f', t')).ms ++ [⟨(g.pr (f', t')).conf, (g.pr (f', t')).H.length, (g.pr (t', f')).rc, (g.at_ f').rev⟩] } := by simp only [sendM, e1, if_true]
      rw [e1, e2]
      exact send_ok h hI hp hl (by omega)
end Go.Proofs.Ytapabbpdfplpoaa
namespace Go.Proofs.Ytapabbpdfplpoaa
open Go.RowKit Go.CH Go.CH.Esc
open Go.ChangeMaps (setBlock)

/-- A call that only made blocks. -/
theorem EPost.bel {w : World} {F : Nat → Prop} {g : GM} {p : Nat} (h : EscO g p w F) {v : Value} {w' : World} (hb : Below w.heap.size w w') : EPost w F v g p (.returned v) w' := by
  obtain ⟨s, hS⟩ := h
  obtain ⟨F', q1, q2, q3⟩ := ((Run.start hS).below escS_ok hb).post escS_ok
  exact ⟨rfl, F', ⟨_, q1⟩, q2, q3⟩
set_option maxRecDepth 100000 in
set_option maxHeartbeats 1600000 in
theorem del_no {w : World} {F : Nat → Prop} {g : GM} {p : Nat} (h : EscO g p w F) (f t : Int) (lost again : Bool) (hd : delE g f t = false) :
    Calls Try.prog 29 #[.pointer (some ⟨p, 0, none⟩), .int .i64 f, .int .i64 t, .bool lost, .bool again] w (EPost w F (.bool false) g p) := by
  have H := hide h
  obtain ⟨s, hS⟩ := h
  have KL := hide (line_any hS.read f t)
  have KB := hide (line_any hS.read t f)
  cases hp : g.pair f t with
  | false =>
    have hpb : g.pair t f = false := by
      cases hb : g.pair t f with
      | false => rfl
      | true => rw [pair_swap hb] at hp; cases hp
    rw [lineV, if_neg (by simp [hp])] at KL
    rw [lineV, if_neg (by simp [hpb])] at KB
    clear hd hS hp hpb
    go_enter Try.func29, Try.ntmps29
    go_wp2_with fail
    refine KL.out.mono ?_
    rintro e w' ⟨rfl, rfl⟩
    go_wp2_with fail
    refine KB.out.mono ?_
    rintro e w' ⟨rfl, rfl⟩
    go_wp2_with fail
    go_ret
    exact EPost.quiet H.out ⟨rfl, rfl⟩
  | true =>
    have hm : (g.pr (f, t)).ms = [] := by
      unfold delE at hd; rw [hp] at hd; simpa using hd
    rw [lineV, if_pos hp] at KL
    rw [lineV, if_pos (pair_swap hp)] at KB
    obtain ⟨l0, hz0, hrun0⟩ := esc_line (Run.start hS) hp
    obtain ⟨-, -, -, q3⟩ := line_cells hrun0
    have hn0 : l0.zs.length = 0 := by
      have h1 : (l0.zs.map ZMsg.m).length = 0 := by rw [hz0.1, hm]; rfl
      simpa using h1
    rw [hn0] at q3
    have KT := hide (take_none q3)
    clear hd hS hp hz0 hrun0 q3 hn0 hm
    unfold zeroMsg at KT
    go_enter Try.func29, Try.ntmps29
    go_wp2_with fail
    refine KL.out.mono ?_
    rintro e w' ⟨rfl, rfl⟩
    go_wp2_with fail
    refine KB.out.mono ?_
    rintro e w' ⟨rfl, rfl⟩
    go_wp2_with fail
    refine KT.out.mono ?_
    rintro e w2 ⟨rfl, hb2⟩
    have HB := hide hb2
    clear hb2
    go_wp2_with fail
    go_ret
    exact EPost.bel H.out (HB.out.alloc HB.out.size _)
end Go.Proofs.Ytapabbpdfplpoaa
namespace Go.Proofs.Ytapabbpdfplpoaa
open Go.RowKit Go.CH Go.CH.Esc
open Go.ChangeMaps (setBlock)

theorem esc_take {F0 : Nat → Prop} {w0 W : World} {g : GM} {p : Nat} {s : EscP} (h : Run F0 w0 (EscS g p s) W) {f t : Int} (hp : g.pair f t = true) {m : MsgG} {ml : List MsgG} (hms : (g.pr (f, t)).ms = m :: ml) (hl : ml.length ≤ 100) :
    ∃ z : ZMsg, z.m = m ∧ z.ts = msgT (g.pr (f, t)).H m ∧ Calls Try.prog 69 #[.pointer (some ⟨s.gp (f, t), 3, none⟩)] W
      (fun e w' => e = .returned (.tuple #[.agg (zcl z).toArray, .bool true]) ∧ Run F0 w0 (star (zow z) (EscS (g.setP (f, t) { g.pr (f, t) with ms := ml }) p s)) w') := by
  obtain ⟨l, hz, hrun⟩ := esc_line h hp
  obtain ⟨z, zs, hzs⟩ : ∃ z zs, l.zs = z :: zs := by
    cases hz' : l.zs with
    | nil => have := hz.1; rw [hz', hms] at this; cases this
    | cons z zs => exact ⟨z, zs, rfl⟩
  have hzm := hz.1
  rw [hzs, hms] at hzm
  injection hzm with hz1 hz2
  have hzt := hz.2
  rw [hzs] at hzt
  have hlen : zs.length = ml.length := by rw [← hz2]; simp
  refine ⟨z, hz1, by rw [hzt z (by simp), hz1], ?_⟩
  have X : Run F0 w0 (star (star (CellO (s.gp (f, t)) (lcl (.slice l.A ((g.pr (f, t)).H.drop (g.pr (f, t)).conf).length l.c) (g.pr (f, t)).H.length (g.pr (f, t)).rc l.B (zs.length + 1) l.d) 109) (ARow zcl zow 124 4 (.slice l.B (zs.length + 1) l.d) (z :: zs)))
      (star (RowO 3 1 (.slice l.A ((g.pr (f, t)).H.drop (g.pr (f, t)).conf).length l.c) ((g.pr (f, t)).H.drop (g.pr (f, t)).conf).length (ints ((g.pr (f, t)).H.drop (g.pr (f, t)).conf))) (EscQ g p s (f, t)))) W := by
    refine hrun.imp fun w F h => ?_
    unfold LineQ at h
    rw [hzs] at h
    exact star_assoc' (star_mono h (fun _ h => h) (fun F h => star_rot h))
  obtain ⟨F1, hO, -, bk⟩ := X.take (star_ok cell_ok (arow_ok zow_ok)) (star_ok row_ok escQ_ok)
  refine (take_some rfl (by omega) hO).mono ?_
  rintro e w' ⟨rfl, hP⟩
  refine ⟨rfl, ?_⟩
  have Y := bk _ _ hP
  have Z : Run F0 w0 (star (zow z) (star (LineS { g.pr (f, t) with ms := ml } (s.gp (f, t)) { l with zs := zs }) (EscQ g p s (f, t)))) w' := by
    refine Y.imp fun w F h => ?_
    have h2 := star_rot (star_mono (star_assoc h) (fun _ h => h) (fun F h => star_rot (star_assoc h)))
    exact star_mono h2 (fun _ h => h) (fun F h => star_assoc' (star_mono h (fun _ h => h) (fun F h => star_assoc' (star_rot h))))
  refine Z.imp fun w F h => star_mono h (fun _ h => h) (fun F h => escQ_in (pair_mem.1 hp) (star_mono h (fun F h => ⟨{ l with zs := zs }, ⟨hz2, fun y hy => hzt y (by simp [hy])⟩, h⟩) (fun _ h => h)))
theorem esc_put {F0 : Nat → Prop} {w0 W : World} {g : GM} {p : Nat} {s : EscP} {z : ZMsg} (h : Run F0 w0 (star (zow z) (EscS g p s)) W) {f t : Int} (hp : g.pair f t = true) (hzt : z.ts = msgT (g.pr (f, t)).H z.m) (hl : (g.pr (f, t)).ms.length ≤ 100) :
    Calls Try.prog 70 #[.pointer (some ⟨s.gp (f, t), 3, none⟩), .agg (zcl z).toArray] W
      (fun e w' => e = .returned (.tuple #[]) ∧ Run F0 w0 (EscS (g.setP (f, t) { g.pr (f, t) with ms := (g.pr (f, t)).ms ++ [z.m] }) p s) w') := by
  obtain ⟨⟨F, ⟨F1, F2, h1, h2, h3, h4⟩, hF⟩, hmod⟩ := h.imp fun w F h => star_mono h (fun _ h => h) (fun F h => escQ_out (pair_mem.1 hp) h)
  obtain ⟨F3, F4, ⟨l, hz, hL⟩, h6, h7, h8⟩ := h2
  have X : Run F0 w0 (star (zow z) (star (LineS (g.pr (f, t)) (s.gp (f, t)) l) (EscQ g p s (f, t)))) W := ⟨⟨F, ⟨F1, F2, h1, ⟨F3, F4, hL, h6, h7, h8⟩, h3, h4⟩, hF⟩, hmod⟩
  have Y : Run F0 w0 (star (zow z) (LineQ (g.pr (f, t)) (s.gp (f, t)) l (EscQ g p s (f, t)))) W := X.imp fun w F h => star_mono h (fun _ h => h) (fun F h => star_mono (star_assoc h) (fun _ h => h) (fun F h => star_assoc h))
  have V := Y.imp fun w F h => send_in h
  have hn : l.zs.length ≤ 100 := by
    have : (l.zs.map ZMsg.m).length = (g.pr (f, t)).ms.length := by rw [hz.1]
    simp at this; omega
  obtain ⟨F5, hO, -, bk⟩ := V.take (star_ok cell_ok (star_ok (arow_ok zow_ok) (zow_ok z))) (star_ok row_ok escQ_ok)
  refine (put_any (z := z) (n := l.zs.length) rfl hn hO).mono ?_
  rintro e w' ⟨rfl, B', d', hP⟩
  exact ⟨rfl, send_run hp hz hzt (bk _ _ hP)⟩
end Go.Proofs.Ytapabbpdfplpoaa
namespace Go.Proofs.Ytapabbpdfplpoaa
open Go.RowKit Go.CH Go.CH.Esc
open Go.ChangeMaps (setBlock)

theorem setP_twice (g : GM) (k : Int × Int) (a b : PrG) : (g.setP k a).setP k b = g.setP k b := by
  unfold GM.setP
  congr 1
  funext x
  by_cases h : x = k <;> simp [h]
theorem setP_pr (g : GM) (k : Int × Int) (a : PrG) : (g.setP k a).pr k = a := by simp [GM.setP]
theorem pop_no {g : GM} {f t : Int} {m : MsgG} {ml : List MsgG} (h : (g.pr (f, t)).ms = m :: ml) : popM g f t false = g.setP (f, t) { g.pr (f, t) with ms := ml } := by
  simp [popM, h]
theorem pop_yes {g : GM} {f t : Int} {m : MsgG} {ml : List MsgG} (h : (g.pr (f, t)).ms = m :: ml) : popM g f t true = (g.setP (f, t) { g.pr (f, t) with ms := ml }).setP (f, t) { (g.setP (f, t) { g.pr (f, t) with ms := ml }).pr (f, t) with ms := ((g.setP (f, t) { g.pr (f, t) with ms := ml }).pr (f, t)).ms ++ [m] } := by
  rw [setP_twice, setP_pr]
  simp [popM, h]
set_option maxRecDepth 100000 in
set_option maxHeartbeats 1600000 in
theorem del_lost_no {w : World} {F : Nat → Prop} {g : GM} {p : Nat} (h : EscO g p w F) {U : Int} (hI : Inv g U) (f t : Int) (hd : delE g f t = true) :
    Calls Try.prog 29 #[.pointer (some ⟨p, 0, none⟩), .int .i64 f, .int .i64 t, .bool true, .bool false] w (EPost w F (.bool true) (popM g f t false) p) := by
  obtain ⟨hp, m, ml, hm⟩ := delE_pair hd
  have hPr := hI.pr f t hp
  obtain ⟨s, hS⟩ := h
  have KL := hide (line_any hS.read f t)
  have KB := hide (line_any hS.read t f)
  rw [lineV, if_pos hp] at KL
  rw [lineV, if_pos (pair_swap hp)] at KB
  obtain ⟨z, hz1, hz2, hT⟩ := esc_take (Run.start hS) hp hm (by have := hPr.msl; rw [hm] at this; simp at this; omega)
  rw [pop_no hm]
  have KT := hide hT
  clear hd hS hPr hT hI
  unfold zcl at KT
  go_enter Try.func29, Try.ntmps29
  go_wp2_with fail
  refine KL.out.mono ?_
  rintro e w' ⟨rfl, rfl⟩
  go_wp2_with fail
  refine KB.out.mono ?_
  rintro e w' ⟨rfl, rfl⟩
  go_wp2_with fail
  refine KT.out.mono ?_
  rintro e w2 ⟨rfl, hR2⟩
  have R2 := hide hR2
  clear hR2
  go_wp2_with fail
  go_ret
  obtain ⟨F', q1, q2, q3⟩ := (R2.out.drop.below escS_ok ((Below.refl _ _).alloc (Nat.le_refl _) _)).post escS_ok
  exact ⟨rfl, F', ⟨_, q1⟩, q2, q3⟩
end Go.Proofs.Ytapabbpdfplpoaa
namespace Go.Proofs.Ytapabbpdfplpoaa
open Go.RowKit Go.CH Go.CH.Esc
open Go.ChangeMaps (setBlock)

set_option maxRecDepth 100000 in
set_option maxHeartbeats 1600000 in
theorem del_lost_yes {w : World} {F : Nat → Prop} {g : GM} {p : Nat} (h : EscO g p w F) {U : Int} (hI : Inv g U) (f t : Int) (hd : delE g f t = true) :
    Calls Try.prog 29 #[.pointer (some ⟨p, 0, none⟩), .int .i64 f, .int .i64 t, .bool true, .bool true] w (EPost w F (.bool true) (popM g f t true) p) := by
  obtain ⟨hp, m, ml, hm⟩ := delE_pair hd
  have hPr := hI.pr f t hp
  have hml : ml.length ≤ 100 := by have := hPr.msl; rw [hm] at this; simp at this; omega
  obtain ⟨s, hS⟩ := h
  have KL := hide (line_any hS.read f t)
  have KB := hide (line_any hS.read t f)
  rw [lineV, if_pos hp] at KL
  rw [lineV, if_pos (pair_swap hp)] at KB
  obtain ⟨z, hz1, hz2, hT⟩ := esc_take (Run.start hS) hp hm hml
  rw [pop_yes hm]
  have hp1 : (g.setP (f, t) { g.pr (f, t) with ms := ml }).pair f t = true := by rw [setP_pair]; exact hp
  have hzt : z.ts = msgT ((g.setP (f, t) { g.pr (f, t) with ms := ml }).pr (f, t)).H z.m := by rw [setP_pr, hz1]; exact hz2
  have hml1 : ((g.setP (f, t) { g.pr (f, t) with ms := ml }).pr (f, t)).ms.length ≤ 100 := by rw [setP_pr]; exact hml
  subst hz1
  generalize g.setP (f, t) { g.pr (f, t) with ms := ml } = g1 at *
  have KT := hide hT
  have HZT := hide hzt
  clear hd hS hPr hT hI hm hz2 hzt
  unfold zcl at KT
  go_enter Try.func29, Try.ntmps29
  go_wp2_with fail
  refine KL.out.mono ?_
  rintro e w' ⟨rfl, rfl⟩
  go_wp2_with fail
  refine KB.out.mono ?_
  rintro e w' ⟨rfl, rfl⟩
  go_wp2_with fail
  refine KT.out.mono ?_
  rintro e w2 ⟨rfl, hR2⟩
  have R3 := hR2.below (star_ok (zow_ok z) escS_ok) (((Below.refl _ _).alloc (Nat.le_refl _) (.cells #[.slice z.A z.ts.length z.c, .int .i64 z.m.up, .int .i64 z.m.rc, .bool z.m.rev] 124)))
  have KP := hide (esc_put (R3.drew (star_ok (zow_ok z) escS_ok)) hp1 HZT.out hml1)
  unfold zcl at KP
  obtain ⟨F2, hC2, -⟩ := cell_new w2 #[.slice z.A z.ts.length z.c, .int .i64 z.m.up, .int .i64 z.m.rc, .bool z.m.rev] 124
  have hC3 := cell_ok.keep (w' := (w2.alloc (.cells #[.slice z.A z.ts.length z.c, .int .i64 z.m.up, .int .i64 z.m.rc, .bool z.m.rev] 124)).drew) hC2 (fun _ _ => rfl)
  have b0 : (w2.alloc (.cells #[.slice z.A z.ts.length z.c, .int .i64 z.m.up, .int .i64 z.m.rc, .bool z.m.rev] 124)).drew.cell? ⟨w2.heap.size, 0, none⟩ = some (.slice z.A z.ts.length z.c) := cell_at hC3 rfl
  have b1 : (w2.alloc (.cells #[.slice z.A z.ts.length z.c, .int .i64 z.m.up, .int .i64 z.m.rc, .bool z.m.rev] 124)).drew.cell? ⟨w2.heap.size, 1, none⟩ = some (.int .i64 z.m.up) := cell_at hC3 rfl
  have b2 : (w2.alloc (.cells #[.slice z.A z.ts.length z.c, .int .i64 z.m.up, .int .i64 z.m.rc, .bool z.m.rev] 124)).drew.cell? ⟨w2.heap.size, 2, none⟩ = some (.int .i64 z.m.rc) := cell_at hC3 rfl
  have b3 : (w2.alloc (.cells #[.slice z.A z.ts.length z.c, .int .i64 z.m.up, .int .i64 z.m.rc, .bool z.m.rev] 124)).drew.cell? ⟨w2.heap.size, 3, none⟩ = some (.bool z.m.rev) := cell_at hC3 rfl
  clear hR2 R3 hC2 hC3
  go_wp2_with fail
  generalize w2.alloc (.cells #[.slice z.A z.ts.length z.c, .int .i64 z.m.up, .int .i64 z.m.rc, .bool z.m.rev] 124) = W at *
  refine wp_region_lew [4] [0, 0, 0, 0, 1]
    (fun w' => w'.cell? ⟨w2.heap.size, 0, none⟩ = some (.slice z.A z.ts.length z.c) ∧ w'.cell? ⟨w2.heap.size, 1, none⟩ = some (.int .i64 z.m.up) ∧ w'.cell? ⟨w2.heap.size, 2, none⟩ = some (.int .i64 z.m.rc) ∧ w'.cell? ⟨w2.heap.size, 3, none⟩ = some (.bool z.m.rev))
    (fun _ => True) (fun _ => True) (fun _ => True) (fun _ _ => trivial) (fun _ h => h) (fun _ h => h) (by kernel_rfl) (by kernel_rfl) (by kernel_rfl) (by kernel_rfl) (by exact ⟨b0, b1, b2, b3⟩) ?_
  (repeat (first | (refine lew_skip (by rfl) (by rfl) ?_; try simp only [Act.put, List.setIfInBounds_toArray, List.set_cons_zero, List.set_cons_succ]) | (refine lew_read0 (v := ?_) (by rfl) (by rfl) ?_ ?_; rotate_left; (focus (intro w' hS'; go_simp; (try with_reducible rfl); done)); try simp only [Act.put, List.setIfInBounds_toArray, List.set_cons_zero, List.set_cons_succ]) | (refine lew_read1 (v := ?_) (by rfl) (by rfl) ?_ ?_; rotate_left; (focus (intro w' hS'; go_simp; (try with_reducible rfl); done)); try simp only [Act.put, List.setIfInBounds_toArray, List.set_cons_zero, List.set_cons_succ]) | (refine lew_read2 (v := ?_) (by rfl) (by rfl) ?_ ?_; rotate_left; (focus (intro w' hS'; go_simp; (try with_reducible rfl); done)); try simp only [Act.put, List.setIfInBounds_toArray, List.set_cons_zero, List.set_cons_succ]) | (refine lew_read3 (v := ?_) (by rfl) (by rfl) ?_ ?_; rotate_left; (focus (intro w' hS'; go_simp; (try with_reducible rfl); done)); try simp only [Act.put, List.setIfInBounds_toArray, List.set_cons_zero, List.set_cons_succ]) | (refine lew_read4 (v := ?_) (by rfl) (by rfl) ?_ ?_; rotate_left; (focus (intro w' hS'; go_simp; (try with_reducible rfl); done)); try simp only [Act.put, List.setIfInBounds_toArray, List.set_cons_zero, List.set_cons_succ])))
  refine lew_chain1 rfl (by rfl) (fun K hK => ?_)
  go_wp2_with fail
  refine KP.out.mono ?_
  rintro e w5 ⟨rfl, hR5⟩
  have R5 := hide hR5
  clear hR5
  refine hK.out _ _ trivial (lew_nil ?_)
  clear hK
  go_wp2_with fail
  go_ret
  obtain ⟨F', q1, q2, q3⟩ := R5.out.post escS_ok
  exact ⟨rfl, F', ⟨_, q1⟩, q2, q3⟩
end Go.Proofs.Ytapabbpdfplpoaa
