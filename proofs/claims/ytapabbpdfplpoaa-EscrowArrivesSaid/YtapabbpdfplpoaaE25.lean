/-
  Escrow: New.
-/
import Derived.Test.YtapabbpdfplpoaaE24
import Derived.OwnWalk
import Derived.Laws.OwnMore
set_option linter.unusedSimpArgs false
set_option linter.unusedVariables false
namespace Go.Proofs.Ytapabbpdfplpoaa
open Go.RowKit Go.CH Go.CH.Esc
open Go.ChangeMaps (setBlock)

theorem accOk : SliceOk Try.prog 98 103 (.agg #[.int .i64 0, .int .i64 0, .bool false]) 3 24 := ⟨Try.underlying98, by kernel_rfl, rfl, by decide⟩
theorem made_accs (n : Nat) : (madeCells #[Value.int .i64 0, .int .i64 0, .bool false] (n * 3)).toList = (List.replicate n (⟨0, 0, false⟩ : Acc)).flatMap accL := by
    have h : ∀ n : Nat, (List.range (n * 3)).map (fun i => (#[Value.int .i64 0, .int .i64 0, .bool false] : Array Value)[i % 3]!) = (List.replicate n (⟨0, 0, false⟩ : Acc)).flatMap accL := by
      intro n
      induction n with
      | zero => rfl
      | succ n ih =>
        rw [List.replicate_succ', List.flatMap_append, ← ih, show (n + 1) * 3 = n * 3 + 1 + 1 + 1 by omega, List.range_succ, List.range_succ, List.range_succ]
        simp only [List.map_append, List.map_cons, List.map_nil, List.append_assoc, List.flatMap_cons, List.flatMap_nil, List.append_nil]
        rw [show n * 3 % 3 = 0 by omega, show (n * 3 + 1) % 3 = 1 by omega, show (n * 3 + 1 + 1) % 3 = 2 by omega]
        rfl
    rw [← h n]
    simp [madeCells]
theorem wpList_make_acc {w : World} {ops : Array Oper} {rest : List Oper} {o : Oper} {a : Act} {Q : Exit → Act → World → Prop} (hg : o.guard = none) (l c : Operand) (hop : o.op = Op.makeSlice 98 l c) (n : Nat) (hn : n ≤ 1000)
    (hl : a.eval l = .int .i64 n) (hc : a.eval c = .int .i64 n)
    (hK : ∀ w', Post w (fun _ => False) (RowO 103 3 (.slice (some ⟨w.heap.size, 0, none⟩) n n) n ((List.replicate n (⟨0, 0, false⟩ : Acc)).flatMap accL)) w' → wpList Try.prog ops Q rest (a.put o.dst (.slice (some ⟨w.heap.size, 0, none⟩) n n)) w') :
    wpList Try.prog ops Q (o :: rest) a w := by
  obtain ⟨ht, hi, hz, hsz⟩ := accOk
  obtain ⟨i, hi, hi1, hi2, hi3⟩ := info_parts hi
  refine wpList_make_full w hg l c 98 hop w.heap.size 103 i _ 3 ht hi hi1 hi2 .i64 .i64 n n n hl hc rfl rfl (by rw [hi3]; omega) (by simp only [maxLen]; omega) (Nat.le_refl _) (fun w' h1 h2 => ?_)
  refine hK w' (row_new ?_ (Mod.below (F := fun _ => False) (Mod.of_grown h2 (fun k hk => by cases hk)) (fun _ _ h => h)))
  rw [← made_accs]; exact h1

/-! ### The keys, one after the other -/
def rowK (i : Nat) (j : Nat) : List (Int × Int) := ((List.range j).filter fun t : Nat => decide (i ≠ t)).map fun t : Nat => ((i : Int), (t : Int))
def preK (n i j : Nat) : List (Int × Int) := (List.range i).flatMap (fun f => rowK f n) ++ rowK i j
theorem preK_all (n : Nat) : preK n n 0 = keys n := by simp [preK, rowK, keys]
theorem preK_zero (n : Nat) : preK n 0 0 = [] := by simp [preK, rowK]
theorem preK_next (n i : Nat) : preK n i n = preK n (i + 1) 0 := by simp [preK, List.range_succ, rowK]
theorem preK_eq (n i : Nat) : preK n i (i + 1) = preK n i i := by simp [preK, rowK, List.range_succ, List.filter_append]
theorem preK_ne (n i j : Nat) (h : i ≠ j) : preK n i (j + 1) = preK n i j ++ [((i : Int), (j : Int))] := by simp [preK, rowK, List.range_succ, List.filter_append, h]
theorem preK_new (n i j : Nat) : ((i : Int), (j : Int)) ∉ preK n i j := by
  simp only [preK, rowK, List.mem_append, List.mem_flatMap, List.mem_range, List.mem_map, List.mem_filter, Prod.mk.injEq, not_or]
  refine ⟨?_, ?_⟩
  · rintro ⟨a, ha, t, _, h1, _⟩; omega
  · rintro ⟨t, ⟨h1, _⟩, _, h2⟩; omega
theorem mput_new {α : Type} [DecidableEq α] {k : α} {v : Value} : ∀ {l : List (α × Value)}, k ∉ l.map (·.1) → mput l k v = l ++ [(k, v)]
  | [], _ => rfl
  | (a, u) :: l, h => by
    simp only [List.map_cons, List.mem_cons, not_or] at h
    simp only [mput, if_neg h.1, mput_new h.2, List.cons_append]
def entsK (K : List (Int × Int)) (gp : Int × Int → Nat) : List ((Int × Int) × Value) := K.map fun k => (k, .pointer (some ⟨gp k, 0, none⟩))
theorem entsK_new {K : List (Int × Int)} {gp : Int × Int → Nat} {k : Int × Int} (q : Nat) (h : k ∉ K) : mput (entsK K gp) k (.pointer (some ⟨q, 0, none⟩)) = entsK (K ++ [k]) (fun x => if x = k then q else gp x) := by
  rw [mput_new (by unfold entsK; simpa [Function.comp_def] using h)]
  unfold entsK
  rw [List.map_append]
  congr 1
  · refine List.map_congr_left fun x hx => ?_
    have : x ≠ k := fun e => h (e ▸ hx)
    simp [this]
  · simp
theorem bigK_new {K : List (Int × Int)} {gp : Int × Int → Nat} {k : Int × Int} (q : Nat) (h : k ∉ K) : bigK (K ++ [k]) (fun x => LineO p0 ((fun x => if x = k then q else gp x) x)) = star (LineO p0 q) (bigK K fun x => LineO p0 (gp x)) := by
  have h1 : bigK (K ++ [k]) (fun x => LineO p0 ((fun x => if x = k then q else gp x) x)) = star (LineO p0 ((fun x => if x = k then q else gp x) k)) (bigK K fun x => LineO p0 ((fun x => if x = k then q else gp x) x)) := by
    unfold bigK
    rw [List.map_append, List.map_singleton, big_last]
  rw [h1]
  congr 1
  · simp
  · refine bigK_congr fun x hx => ?_
    have : x ≠ k := fun e => h (e ▸ hx)
    simp [this]
theorem star_none {A B : Own} {w : World} {F : Nat → Prop} (ha : A w F) (hb : B w (fun _ => False)) : star A B w F := ⟨F, fun _ => False, ha, hb, fun _ _ h => h, fun i => by simp⟩
theorem line_new (w : World) : Post w (fun _ => False) (LineO p0 w.heap.size) (w.alloc (.cells #[.slice none 0 0, .int .i64 0, .int .i64 0, .slice none 0 0] 109)) := by
  obtain ⟨F', h1, h2, h3⟩ := cell_new w #[.slice none 0 0, .int .i64 0, .int .i64 0, .slice none 0 0] 109
  exact ⟨F', ⟨⟨none, 0, none, 0, []⟩, ⟨rfl, by simp⟩, star_none h1 (star_none (row_nil _ _ _) (arow_nil _ _ _))⟩, h2, h3⟩
theorem map_put {α : Type} [DecidableEq α] {P : Program} {kv : α → Value} {t K E : TypeId} (H : KeyOk P K kv) (ht : P.underlying t = some (.map K E)) {b : Nat} {l : List (α × Value)} {w : World} {F : Nat → Prop} (h : MapO kv b l w F) (k : α) (v : Value) :
    ∃ w', (Instr.mapUpdate t (.map (some b)) (kv k) v).run P w = .ok () w' ∧ Post w F (MapO kv b (mput l k v)) w' := by
  obtain ⟨⟨es, clock, h1, h2⟩, hF⟩ := h
  obtain ⟨es', clock', h3, h4⟩ := run_mapUpdate H ht h2 b k v
  exact ⟨_, h4 w h1, F, ⟨⟨es', clock', heap_setBlock_self h1, h3⟩, hF⟩, (Mod.refl _ _).setBlock _ (fun _ => (hF b).2 rfl), fun i hi => .inl hi⟩
/-- An escrow in the making. -/
def NewO (r : Nat) (u : Int) (p bA bm : Nat) (K : List (Int × Int)) (gp : Int × Int → Nat) : Own :=
  star (CellO p #[.slice (some ⟨bA, 0, none⟩) r r, .map (some bm)] 101) (star (RowO 103 3 (.slice (some ⟨bA, 0, none⟩) r r) r ((newG r u).acc.flatMap accL)) (star (MapO (pairV .i64) bm (entsK K gp)) (bigK K fun k => LineO p0 (gp k))))
theorem newO_ok {r : Nat} {u : Int} {p bA bm : Nat} {K : List (Int × Int)} {gp : Int × Int → Nat} : (NewO r u p bA bm K gp).Ok := star_ok cell_ok (star_ok row_ok (star_ok map_ok (bigK_ok (fun _ => lineO_ok))))
theorem newO_all {r : Nat} (hr : 1 ≤ r) {u : Int} {p bA bm : Nat} {gp : Int × Int → Nat} : NewO r u p bA bm (keys r) gp = EscS (newG r u) p ⟨some ⟨bA, 0, none⟩, r, bm, gp⟩ := by
  unfold NewO EscS
  rw [len_new hr]
  rfl
set_option maxHeartbeats 1600000 in
theorem new_no (r u : Int) (w : World) (h : r < 1 ∨ 8 < r ∨ u < 0 ∨ 1000000000 < u) : Calls Try.prog 18 #[.int .i64 r, .int .i64 u] w (Quiet w (.tuple #[.pointer none, .int .i64 1])) := by
  by_cases h1 : r < 1
  · clear h
    go_enter Try.func18, Try.ntmps18
    go_wp2
    go_ret2
    exact ⟨rfl, rfl⟩
  · by_cases h2 : 8 < r
    · clear h
      go_enter Try.func18, Try.ntmps18
      go_wp2
      go_ret2
      exact ⟨rfl, rfl⟩
    · by_cases h3 : u < 0
      · clear h
        go_enter Try.func18, Try.ntmps18
        go_wp2
        go_ret2
        exact ⟨rfl, rfl⟩
      · have h4 : 1000000000 < u := by omega
        clear h
        go_enter Try.func18, Try.ntmps18
        go_wp2
        go_ret2
        exact ⟨rfl, rfl⟩
def NewRet (w : World) (g : GM) (e : Ending) (w' : World) : Prop := ∃ p, e = .returned (.tuple #[.pointer (some ⟨p, 0, none⟩), .int .i64 0]) ∧ Post w (fun _ => False) (EscO g p) w'
set_option maxRecDepth 100000 in
set_option maxHeartbeats 3200000 in
theorem new_ok (r : Nat) (u : Int) (w : World) (h1 : 1 ≤ r) (h2 : r ≤ 8) (h3 : 0 ≤ u) (h4 : u ≤ 1000000000) : Calls Try.prog 18 #[.int .i64 r, .int .i64 u] w (NewRet w (newG r u)) := by
  have i1 : ¬ ((r : Int) < 1) := by omega
  have i2 : ¬ ((8 : Int) < r) := by omega
  have i3 : ¬ (u < 0) := by omega
  have i4 : ¬ (1000000000 < u) := by omega
  have hmk : ∀ w : World, (Instr.makeMap 99 none).run Try.prog w = .ok (.map (some w.heap.size)) (w.alloc (.map #[] 0)) := fun w => by kernel_rfl
  go_enter Try.func18, Try.ntmps18
  go_wp2_with (refine wpList_make_acc rfl (.tmp 23) (.tmp 23) rfl r (by omega) rfl rfl ?_; refine held ?_)
  refine Held.mk fun w1 hP1 => ?_
  have R1 := (Run.begin w).fresh emp_ok hP1
  generalize hbA : w.heap.size = bA at *
  have R2 := (R1.fresh (star_ok row_ok emp_ok) (map_new (kv := pairV .i64) w1))
  have R3 := R2.fresh (star_ok map_ok (star_ok row_ok emp_ok)) (cell_new (w1.alloc (.map #[] 0)) #[.slice (some ⟨bA, 0, none⟩) r r, .map (some w1.heap.size)] 101)
  have hsz : (w1.alloc (.map #[] 0)).heap.size = w1.heap.size + 1 := by simp
  rw [hsz] at R3
  obtain ⟨FC, hC⟩ := R3.fst
  have c0 := cell_at hC (i := 0) rfl
  obtain ⟨FR, hR⟩ := R3.rot3.fst
  have af := row_free hR 0 (by omega)
  have a0 := row_cell hR (i := 0) (v := .int .i64 0) (by cases r with | zero => omega | succ r => rfl)
  obtain ⟨FA, hA, -, bk⟩ := R3.rot3.take row_ok (star_ok cell_ok (star_ok map_ok emp_ok))
  have hset := row_set hA (i := 0) (by omega) (.int .i64 u)
  have R4 := bk _ _ hset
  have R5 : Run (fun _ => False) w (NewO r u (w1.heap.size + 1) bA w1.heap.size (preK r 0 0) (fun _ => 0)) _ := R4.perm (by
    have e : ((List.replicate r (⟨0, 0, false⟩ : Acc)).flatMap accL).set 0 (.int .i64 u) = (newG r u).acc.flatMap accL := by
      cases r with
      | zero => omega
      | succ r => rfl
    rw [e, preK_zero]
    unfold NewO bigK entsK
    show star _ (star _ (star _ emp)) = star _ (star _ (star _ emp))
    ac_rfl)
  have HR5 := hide R5
  clear R1 R2 R3 hC hR hA hset R4 bk hP1 R5 hbA
  go_wp2_with fail
  generalize hbm : w1.heap.size = bm at *
  generalize hp : bm + 1 = p at *
  clear hbm hp c0 a0 af hsz
  go_loopw [36] (fun i wr => ∃ (k : Nat) (gp : Int × Int → Nat), k ≤ r ∧ i = .int .i64 k ∧ Run (fun _ => False) w (NewO r u p bA bm (preK r k 0) gp) wr) (fun i _ => r - (intOf i).toNat)
  case atStart => exact ⟨0, _, Nat.zero_le _, rfl, HR5.out⟩
  case round =>
    obtain ⟨k, gp, hk, rfl, hr⟩ := hrel
    have HR := hide hr
    clear hr HR5
    by_cases hlt : k < r
    · go_wp2_with fail
      go_loopw [40] (fun i wr => ∃ (j : Nat) (gp : Int × Int → Nat), j ≤ r ∧ i = .int .i64 j ∧ Run (fun _ => False) w (NewO r u p bA bm (preK r k j) gp) wr) (fun i _ => r - (intOf i).toNat)
      case atStart => exact ⟨0, _, Nat.zero_le _, rfl, HR.out⟩
      case round =>
        obtain ⟨j, gp2, hj, rfl, hr2⟩ := hrel
        by_cases hlt2 : j < r
        · by_cases hkj : k = j
          · subst hkj
            rw [← preK_eq] at hr2
            have HR2 := hide hr2
            clear hr2 HR
            go_wp2_with fail
            go_roundw
            case rel => exact ⟨k + 1, gp2, by omega, by go_num, HR2.out⟩
            case measure => simp [intOf]; omega
          · have hkj2 : ¬ ((k : Int) = (j : Int)) := by omega
            have hkj3 : ((k : Int) == (j : Int)) = false := by simpa using hkj2
            have hkj4 : ((k : Int) != (j : Int)) = true := by simpa using hkj2
            have R1 := hr2.fresh newO_ok (line_new wr)
            obtain ⟨F1, hM, -, bk⟩ := (R1.perm (by unfold NewO; ac_rfl : _ = star (MapO (pairV .i64) bm (entsK (preK r k j) gp2)) (star (LineO p0 wr.heap.size) (star (CellO p #[.slice (some ⟨bA, 0, none⟩) r r, .map (some bm)] 101) (star (RowO 103 3 (.slice (some ⟨bA, 0, none⟩) r r) r ((newG r u).acc.flatMap accL)) (bigK (preK r k j) fun k => LineO p0 (gp2 k))))))).take map_ok (star_ok lineO_ok (star_ok cell_ok (star_ok row_ok (bigK_ok (fun _ => lineO_ok)))))
            obtain ⟨w4, hmu, hP⟩ := map_put (P := Try.prog) keyOk Try.underlying99 hM ((k : Int), (j : Int)) (.pointer (some ⟨wr.heap.size, 0, none⟩))
            simp only [pairV] at hmu
            rw [entsK_new _ (preK_new r k j)] at hP
            have R2 := bk _ _ hP
            have R3 : Run (fun _ => False) w (NewO r u p bA bm (preK r k (j + 1)) (fun x => if x = ((k : Int), (j : Int)) then wr.heap.size else gp2 x)) w4 := R2.perm (by
              unfold NewO
              rw [preK_ne r k j hkj, bigK_new wr.heap.size (preK_new r k j)]
              ac_rfl)
            obtain ⟨FC, hC⟩ := hr2.fst
            have c1 := cell_at hC (i := 1) rfl
            have HR3 := hide R3
            generalize (fun x => if x = ((k : Int), (j : Int)) then wr.heap.size else gp2 x) = gp3 at *
            clear hr2 R1 hM bk hP R2 R3 hC HR hkj
            go_wp2_with fail
            go_roundw
            case rel => exact ⟨j + 1, gp3, by omega, by go_num, HR3.out⟩
            case measure => simp [intOf]; omega
        · obtain rfl : j = r := by omega
          rw [preK_next] at hr2
          have HR2 := hide hr2
          clear hr2 HR
          go_wp2_with fail
          go_roundw
          case rel => exact ⟨k + 1, gp2, by omega, by go_num, HR2.out⟩
          case measure => simp [intOf]; omega
    · obtain rfl : k = r := by omega
      have R6 := HR.out
      rw [preK_all, newO_all h1] at R6
      have HP := hide (R6.post escS_ok)
      clear R6 HR
      go_wp2_with fail
      go_ret2
      obtain ⟨F', q1, q2, q3⟩ := HP.out
      exact ⟨p, rfl, F', ⟨_, q1⟩, q2, q3⟩
end Go.Proofs.Ytapabbpdfplpoaa
