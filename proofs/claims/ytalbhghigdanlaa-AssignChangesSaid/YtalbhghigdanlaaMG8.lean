/-
  Assign: the program's table.
  Assign: slices.Grow of nothing, slices.Concat, slices.Clone.
  Assign: how the first of the cheapest lists is found; what Best hands back.
  A region that draws its order, by an invariant over the operations that have been listed.
  A region that draws its order, in which two chains of operations that make memory of their own may run through one another.
-/
import Derived.Test.YtalbhghigdanlaaMG7
import Derived.Lib.AppendZeros
import Derived.WalkLawsBesides
import Derived.Test.YtalbhghigdanlaaMG5
import Derived.Test.YtalbhghigdanlaaMG2
set_option linter.unusedSimpArgs false
set_option linter.unusedVariables false
namespace Go.Proofs.Ytalbhghigdanlaa
open Go.RowKit Go.CH Go.CH.Asg
open Go.ChangeMaps (setBlock)

/-- A table of n rows of 64 numbers at g. -/
def TabO (g n : Nat) (f : Nat → Int) : Own := RowO 51 64 (.slice (some ⟨g, 0, none⟩) n n) n (fv (n * 64) fun i => .int .i64 (f i))
theorem tab_ok {g n : Nat} {f : Nat → Int} : (TabO g n f).Ok := row_ok
theorem tab_congr {g n : Nat} {f f' : Nat → Int} (h : ∀ i, i < n * 64 → f i = f' i) : TabO g n f = TabO g n f' := by
  unfold TabO; rw [fv_congr (fun i hi => by rw [h i hi])]
def updI (f : Nat → Int) (p : Nat) (v : Int) : Nat → Int := fun x => if x = p then v else f x
theorem tab_set {w : World} {F : Nat → Prop} {g n : Nat} {f : Nat → Int} (h : TabO g n f w F) {k : Nat} (hk : k < n * 64) (b : Int) : Post w F (TabO g n (updI f k b)) (w.setCell ⟨g, k, none⟩ (.int .i64 b)) := by
  have := row_set h (i := k) hk (.int .i64 b)
  rw [fv_set] at this
  unfold TabO
  rw [fv_congr (f := fun i => .int .i64 (updI f k b i)) (g := upv (fun i => .int .i64 (f i)) k (.int .i64 b)) (fun i hi => by unfold upv updI; split <;> rfl)]
  exact this
theorem tab_at {w : World} {F : Nat → Prop} {g n : Nat} {f : Nat → Int} (h : TabO g n f w F) {k : Nat} (hk : k < n * 64) : w.cell? ⟨g, k, none⟩ = some (.int .i64 (f k)) := row_cell h (fv_get _ hk)
theorem tab_free {w : World} {F : Nat → Prop} {g n : Nat} {f : Nat → Int} (h : TabO g n f w F) (k : Nat) (hn : 0 < n) : w.frozen? ⟨g, k, none⟩ = false := row_free h k hn
theorem made_tab (n : Nat) : (madeCells (Array.replicate 64 (Value.int .i64 0)) (n * 64)).toList = fv (n * 64) (fun _ => .int .i64 0) := by
  unfold fv
  simp only [madeCells, Array.toList_map, Array.toList_range]
  refine List.map_congr_left fun i _ => ?_
  have : i % (Array.replicate 64 (Value.int .i64 0)).size < (Array.replicate 64 (Value.int .i64 0)).size := by
    simp; omega
  simp only [getElem!_def]
  rw [Array.getElem?_eq_getElem this]
  simp
theorem costsOk : SliceOk Try.prog 48 51 (.agg (Array.replicate 64 (.int .i64 0))) 64 512 := ⟨Try.underlying48, by kernel_rfl, by decide, by decide⟩
theorem wpList_table {ops : Array Oper} {rest : List Oper} {o : Oper} {a : Act} {w : World} {Q : Exit → Act → World → Prop} (hg : o.guard = none) (l : Operand) (hop : o.op = Op.makeSlice 48 l l) (n : Nat) (hn : n ≤ 1000) (hl : a.eval l = .int .i64 (n : Int))
    (hK : ∀ w', Post w (fun _ => False) (TabO w.heap.size n (fun _ => 0)) w' → wpList Try.prog ops Q rest (a.put o.dst (.slice (some ⟨w.heap.size, 0, none⟩) n n)) w') : wpList Try.prog ops Q (o :: rest) a w := by
  obtain ⟨ht, hi, hzz, hsz⟩ := costsOk
  obtain ⟨i, hi, hi1, hi2, hi3⟩ := info_parts hi
  refine wpList_make_full w hg l l 48 hop w.heap.size 51 i _ 64 ht hi hi1 hi2 .i64 .i64 n n n hl hl rfl rfl (by rw [hi3]; omega) (by simp only [maxLen]; omega) (Nat.le_refl _) (fun w' h1 h2 => ?_)
  refine hK w' (row_new ?_ (Mod.below (F := fun _ => False) (Mod.of_grown h2 (fun k hk => by cases hk)) (fun _ _ h => h)))
  rw [← made_tab]; exact h1
section
variable {w : World} {A B G : Option Addr} {c : Nat → Nat → Int} {d e : Nat → Int} {n m : Nat}
/-- What the table holds at row r, set s. -/
def TB (c : Nat → Nat → Int) (d e : Nat → Int) (n m r s : Nat) : Int := L c d e n m (n - r) (bt s)
/-- The table with the rows behind i, and of row i the sets before k. -/
def tabF (c : Nat → Nat → Int) (d e : Nat → Int) (n m M i k : Nat) : Nat → Int := fun x => if x % 64 < M ∧ (i < x / 64 ∨ (x / 64 = i ∧ x % 64 < k)) then TB c d e n m (x / 64) (x % 64) else 0
theorem tabF_zero {M x : Nat} (hx : x < (n + 1) * 64) : tabF c d e n m M n 0 x = 0 := by
  unfold tabF; rw [if_neg (by omega)]
theorem tabF_upd {M i k : Nat} (hM : M ≤ 64) (hk : k < M) (x : Nat) : updI (tabF c d e n m M i k) (i * 64 + k) (TB c d e n m i k) x = tabF c d e n m M i (k + 1) x := by
  unfold updI tabF
  by_cases e : x = i * 64 + k
  · have h1 : x / 64 = i := by omega
    have h2 : x % 64 = k := by omega
    rw [if_pos e, if_pos (by omega), h1, h2]
  · rw [if_neg e]
    by_cases h : x % 64 < M ∧ (i < x / 64 ∨ (x / 64 = i ∧ x % 64 < k))
    · rw [if_pos h, if_pos (by omega)]
    · rw [if_neg h, if_neg (by omega)]
theorem tabF_next {M i : Nat} (x : Nat) : tabF c d e n m M (i + 1) M x = tabF c d e n m M i 0 x := by
  unfold tabF
  by_cases h : x % 64 < M ∧ (i + 1 < x / 64 ∨ (x / 64 = i + 1 ∧ x % 64 < M))
  · rw [if_pos h, if_pos (by omega)]
  · rw [if_neg h, if_neg (by omega)]
theorem tabF_at {M i k r s : Nat} (hM : M ≤ 64) (hs : s < M) (h : i < r ∨ (r = i ∧ s < k)) : tabF c d e n m M i k (r * 64 + s) = TB c d e n m r s := by
  unfold tabF
  have h1 : (r * 64 + s) / 64 = r := by omega
  have h2 : (r * 64 + s) % 64 = s := by omega
  rw [h1, h2, if_pos ⟨hs, h⟩]
theorem tabF_none {M i k : Nat} (hM : M ≤ 64) (hk : k < M) : tabF c d e n m M i k (i * 64 + k) = 0 := by
  unfold tabF; rw [if_neg (by omega)]
theorem updI_same (f : Nat → Int) (p x : Nat) : updI f p (f p) x = f x := by
  unfold updI; split
  · rename_i h; rw [h]
  · rfl
theorem updI_updI (f : Nat → Int) (p : Nat) (a b : Int) (x : Nat) : updI (updI f p a) p b x = updI f p b x := by
  unfold updI; split <;> rfl
theorem updI_at (f : Nat → Int) (p : Nat) (a : Int) : updI f p a p = a := by simp [updI]
theorem TB_last (s : Nat) : TB c d e n m n s = sg m (fun j => if bt s j then 0 else e j) := by unfold TB; rw [Nat.sub_self]; rfl
theorem TB_row {i : Nat} (hi : i < n) (s : Nat) : TB c d e n m i s = mnl (bt s) (fun j => c i j + TB c d e n m (i + 1) (s ||| 1 <<< j)) (d i + TB c d e n m (i + 1) s) m := by
  unfold TB
  have h1 : n - i = (n - (i + 1)) + 1 := by omega
  rw [h1, L]
  have h2 : n - (n - (i + 1) + 1) = i := by omega
  rw [h2]
  exact mnl_congr (fun j _ => by rw [bt_or]) (fun _ _ => rfl)
def TabRet (w : World) (c : Nat → Nat → Int) (d e : Nat → Int) (n m : Nat) (en : Ending) (w' : World) : Prop :=
  ∃ g, en = .returned (.slice (some ⟨g, 0, none⟩) (n + 1) (n + 1)) ∧ Post w (fun _ => False) (TabO g (n + 1) (tabF c d e n m (1 <<< m) 0 (1 <<< m))) w'
theorem run_tab {X : Own} {g N : Nat} {f f' : Nat → Int} {W : World} (h : Run (fun _ => False) w (TabO g N f) W) {p : Nat} (hp : p < N * 64) (v : Int) (hf : ∀ x, updI f p v x = f' x) : Run (fun _ => False) w (TabO g N f') (W.setCell ⟨g, p, none⟩ (.int .i64 v)) := by
  obtain ⟨F1, h1, bk⟩ := h.all tab_ok
  have := bk _ _ (tab_set h1 hp v)
  rwa [tab_congr (fun x _ => hf x)] at this
theorem pow_lt {m j s : Nat} (hm : m ≤ 6) (hs : s < 1 <<< m) (hj : j < m) : s ||| 1 <<< j < 1 <<< m := by
  rw [Nat.one_shiftLeft] at *
  rw [Nat.one_shiftLeft]
  exact Nat.or_lt_two_pow hs (Nat.pow_lt_pow_right (by decide) hj)
theorem pow_le {m : Nat} (hm : m ≤ 6) : 1 <<< m ≤ 64 := by
  rw [Nat.one_shiftLeft]; exact Nat.pow_le_pow_right (by decide) hm
set_option maxRecDepth 100000 in
set_option maxHeartbeats 6400000 in
theorem table_any (hq : Prq w A B G c d e n m) (ca cb cg : Nat) :
    Calls Try.prog 29 #[.slice A n ca, .slice B n cb, .slice G m cg] w (TabRet w c d e n m) := by
  have HQ := hide hq
  have hn7 := hq.n7
  have hm6 := hq.m6
  clear hq
  have hM := pow_le hm6
  have HPW := hide (fun s j hs hj => pow_lt (m := m) (s := s) (j := j) hm6 hs hj)
  have hshl := pow_of m hm6
  have HRET := hide (show ∀ (g : Nat) w', Run (fun _ => False) w (TabO g (n + 1) (tabF c d e n m (1 <<< m) 0 (1 <<< m))) w' → TabRet w c d e n m (.returned (.slice (some ⟨g, 0, none⟩) (n + 1) (n + 1))) w' from fun g w' h => ⟨g, rfl, h.post tab_ok⟩)
  generalize 1 <<< m = M at *
  go_enter Try.func29, Try.ntmps29
  go_wp2_with (refine wpList_table rfl (.tmp 18) rfl (n + 1) (by omega) (by simp [Act.eval]) ?_; refine held ?_)
  refine Held.mk fun w1 hP1 => ?_
  have R1 := hide (((Run.begin w).fresh emp_ok hP1).imp fun _ _ h => star_emp h)
  clear hP1
  generalize hg : w.heap.size = g at *
  rw [tab_congr (f := fun _ => 0) (f' := tabF c d e n m M n 0) (fun x hx => (tabF_zero hx).symm)] at R1
  go_wp2
  go_loopw [23] (fun i wr => ∃ k : Nat, k ≤ M ∧ i = .int .i64 k ∧ Run (fun _ => False) w (TabO g (n + 1) (tabF c d e n m M n k)) wr) (fun i _ => M - (intOf i).toNat)
  case atStart => exact ⟨0, Nat.zero_le _, rfl, R1.out⟩
  case round =>
    obtain ⟨k, hk, rfl, hR⟩ := hrel
    have HR := hide hR
    clear hR R1
    by_cases hlt : k < M
    · have R2 : Hid (Run (fun _ => False) w (TabO g (n + 1) (updI (tabF c d e n m M n k) (n * 64 + k) 0)) wr) := hide (by
        rw [tab_congr (f' := tabF c d e n m M n k) (fun x _ => by rw [← tabF_none (c := c) (d := d) (e := e) (n := n) (m := m) (i := n) hM hlt, updI_same])]
        exact HR.out)
      go_wp2
      go_loopw [28] (fun x wr => ∃ j : Nat, j ≤ m ∧ x = .int .i64 j ∧ Run (fun _ => False) w (TabO g (n + 1) (updI (tabF c d e n m M n k) (n * 64 + k) (sg j (fun j => if bt k j then 0 else e j)))) wr) (fun x _ => m - (intOf x).toNat)
      case atStart => exact ⟨0, Nat.zero_le _, rfl, R2.out⟩
      case round =>
        obtain ⟨j, hj, rfl, hR⟩ := hrel
        have HR3 := hide hR
        have hsb := sg_bnd (n := j) (f := fun j => if bt k j then 0 else e j) (a := 0) (b := 10000) (fun i hi => by
          have := HQ.out.eb i (by omega)
          split <;> omega)
        clear HR R2
        by_cases hjt : j < m
        · obtain ⟨be, oe, rfl, hce⟩ := HQ.out.E j hjt
          have heb := HQ.out.eb j hjt
          have c0 := hce _ hR.bel
          obtain ⟨q, hq1, hq2⟩ := bit_of k j (by omega)
          have HS := hide (sg_succ (n := j) (f := fun j => if bt k j then 0 else e j))
          generalize e j = y at *
          generalize sg j (fun j => if bt k j = true then 0 else e j) = z at *
          clear hce
          cases hu : bt k j with
          | true =>
            rw [hu] at hq2 HS
            simp only [if_true] at hq2
            clear hu hR
            go_wp2
            go_roundw
            case rel => exact ⟨j + 1, by omega, by go_num, by rw [HS.out]; simpa using HR3.out⟩
            case measure => simp [intOf]; omega
          | false =>
            rw [hu] at hq2 HS
            simp only [Bool.false_eq_true, if_false] at hq2
            have R4 := hR.drew tab_ok
            obtain ⟨F, hF⟩ := R4.get
            have c1 := tab_at hF (k := n * 64 + k) (by omega)
            rw [updI_at] at c1
            have hfr := tab_free hF (n * 64 + k) (by omega)
            have R5 := hide (run_tab (X := emp) R4 (p := n * 64 + k) (by omega) (z + y) (f' := updI (tabF c d e n m M n k) (n * 64 + k) (z + y)) (fun x => updI_updI _ _ _ _ _))
            have hk64 : (k : Int) < 64 := by omega
            have tn : (n : Int) < (n : Int) + 1 := by omega
            have t1 : IntKind.i64.wrap (z + y) = z + y := IntWalk.i64_in _ (by omega)
            clear hu hF R4 hR
            go_wp2_with fail
            refine wp_region_ley (fun w' => w' = wr.drew) (by kernel_rfl) (by kernel_rfl) (by kernel_rfl) rfl ?_
            generalize wr.drew = wd at *
            (repeat (first | (refine ley_skip (by rfl) ?_; try simp only [Act.put, List.setIfInBounds_toArray, List.set_cons_zero, List.set_cons_succ]) | (refine ley_read (v := ?_) (by rfl) ?_ ?_; rotate_left; (focus (intro w' hS'; go_simp; (try with_reducible rfl); done)); try simp only [Act.put, List.setIfInBounds_toArray, List.set_cons_zero, List.set_cons_succ])))
            refine ley_last rfl (by rfl) (fun K hK => ?_)
            go_wp2_with fail
            refine hK.out _ _ ?_
            clear hK c1 hfr
            go_wp2
            go_roundw
            case rel => exact ⟨j + 1, by omega, by go_num, by rw [HS.out]; simpa using R5.out⟩
            case measure => simp [intOf]; omega
        · obtain rfl : j = m := by omega
          have R6 : Hid (Run (fun _ => False) w (TabO g (n + 1) (tabF c d e n j M n (k + 1))) wr) := hide (by
            rw [← tab_congr (f := updI (tabF c d e n j M n k) (n * 64 + k) (TB c d e n j n k)) (fun x _ => tabF_upd hM hlt x), TB_last]
            exact HR3.out)
          clear HR3 hR
          go_wp2
          go_roundw
          case rel => exact ⟨k + 1, by omega, by go_num, R6.out⟩
          case measure => simp [intOf]; omega
    · obtain rfl : k = M := by omega
      clear hlt
      go_wp2
      go_loopw [11] (fun x wr => ∃ (a : Nat) (x0 : Int), a ≤ n ∧ x = .int .i64 x0 ∧ x0 = (a : Int) - 1 ∧ Run (fun _ => False) w (TabO g (n + 1) (tabF c d e n m k a k)) wr) (fun x _ => (intOf x + 1).toNat)
      case atStart => exact ⟨n, (n : Int) - 1, Nat.le_refl _, by go_num, rfl, HR.out⟩
      case round =>
        obtain ⟨a, x0, ha, rfl, hx0, hR⟩ := hrel
        have HR3 := hide hR
        clear HR hR
        cases a with
        | zero =>
          have tx : ¬ 0 ≤ x0 := by omega
          clear hx0
          go_wp2
          go_ret
          exact HRET.out _ _ HR3.out
        | succ i =>
          obtain rfl : x0 = (i : Int) := by omega
          have R4 : Hid (Run (fun _ => False) w (TabO g (n + 1) (tabF c d e n m k i 0)) wr) := hide (by
            rw [← tab_congr (fun x _ => tabF_next x)]; exact HR3.out)
          clear HR3 hx0
          go_wp2
          go_loopw [61] (fun x wr => ∃ s : Nat, s ≤ k ∧ x = .int .i64 s ∧ Run (fun _ => False) w (TabO g (n + 1) (tabF c d e n m k i s)) wr) (fun x _ => k - (intOf x).toNat)
          case atStart => exact ⟨0, Nat.zero_le _, rfl, R4.out⟩
          case round =>
            obtain ⟨s, hs, rfl, hR⟩ := hrel
            have HR5 := hide hR
            clear R4
            by_cases hst : s < k
            · have R6 := hR.drew tab_ok
              have HR6 := hide R6
              obtain ⟨bd, od, rfl, hcd⟩ := HQ.out.D i (by omega)
              have hdb := HQ.out.db i (by omega)
              have c0 := hcd _ R6.bel
              obtain ⟨F, hF⟩ := R6.get
              have c1 := tab_at hF (k := (i + 1) * 64 + s) (by omega)
              rw [tabF_at hM hst (.inl (by omega))] at c1
              have hl1 : 0 ≤ TB c d e n m (i + 1) s ∧ TB c d e n m (i + 1) s ≤ 200000 := by
                have := L_bnd HQ.out (show n - (i + 1) ≤ n by omega) (bt s); unfold TB; omega
              have hin : i < n := by omega
              have hs64 : (s : Int) < 64 := by omega
              have ti : (0 : Int) ≤ (i : Int) + 1 := by omega
              have t1 : IntKind.i64.wrap ((i : Int) + 1) = ((i + 1 : Nat) : Int) := by rw [IntWalk.i64_in _ (by omega)]; omega
              have t2 : IntKind.i64.wrap (d i + TB c d e n m (i + 1) s) = d i + TB c d e n m (i + 1) s := IntWalk.i64_in _ (by omega)
              have HTR := hide (TB_row (c := c) (d := d) (e := e) (m := m) (show i < n by omega) s)
              clear hF hcd hR R6 HR5
              go_wp2_with fail
              refine wp_region_lex (fun w' => w' = wr.drew) (by kernel_rfl) (by kernel_rfl) rfl ?_
              generalize wr.drew = wd at *
              (repeat (first | (refine lex_skip (by rfl) ?_; try simp only [Act.put, List.setIfInBounds_toArray, List.set_cons_zero, List.set_cons_succ]) | (refine lex_read (v := ?_) (by rfl) ?_ ?_; rotate_left; (focus (intro w' hS'; go_simp; (try with_reducible rfl); done)); try simp only [Act.put, List.setIfInBounds_toArray, List.set_cons_zero, List.set_cons_succ])))
              refine lex_nil ?_
              clear t1 t2 c0 c1 ti
              obtain ⟨ba, oa, R, cR, rfl, hca, hrow⟩ := HQ.out.R i hin
              have c2 := hca _ HR6.out.bel
              clear hca
              go_wp2
              go_loopw [13, 81] (fun b x wr => ∃ j : Nat, j ≤ m ∧ b = .int .i64 (mnl (bt s) (fun j => c i j + TB c d e n m (i + 1) (s ||| 1 <<< j)) (d i + TB c d e n m (i + 1) s) j) ∧ x = .int .i64 j ∧ Run (fun _ => False) w (TabO g (n + 1) (tabF c d e n m k i s)) wr) (fun _ x _ => m - (intOf x).toNat)
              case atStart => exact ⟨0, Nat.zero_le _, by simp [mnl], rfl, HR6.out⟩
              case round =>
                obtain ⟨j, hj, rfl, rfl, hR⟩ := hrel
                have HR7 := hide hR
                clear HR6
                by_cases hjt : j < m
                · obtain ⟨b', o', rfl, hcc⟩ := hrow j hjt
                  have c3 := hcc _ hR.bel
                  have hcb := HQ.out.cb i hin j hjt
                  have hi0 := mnl_init (U := bt s) (f := fun j => c i j + TB c d e n m (i + 1) (s ||| 1 <<< j)) (a := d i + TB c d e n m (i + 1) s) (m := j)
                  have hi2 := mnl_nn (U := bt s) (f := fun j => c i j + TB c d e n m (i + 1) (s ||| 1 <<< j)) (a := d i + TB c d e n m (i + 1) s) (m := j) (by omega) (fun t ht => by
                    have := L_bnd HQ.out (show n - (i + 1) ≤ n by omega) (bt (s ||| 1 <<< t)); have := HQ.out.cb i hin t (by omega); unfold TB; omega)
                  have HS := hide (show mnl (bt s) (fun j => c i j + TB c d e n m (i + 1) (s ||| 1 <<< j)) (d i + TB c d e n m (i + 1) s) (j + 1) = if bt s j then mnl (bt s) (fun j => c i j + TB c d e n m (i + 1) (s ||| 1 <<< j)) (d i + TB c d e n m (i + 1) s) j else min (mnl (bt s) (fun j => c i j + TB c d e n m (i + 1) (s ||| 1 <<< j)) (d i + TB c d e n m (i + 1) s) j) (c i j + TB c d e n m (i + 1) (s ||| 1 <<< j)) from rfl)
                  generalize mnl (bt s) (fun j => c i j + TB c d e n m (i + 1) (s ||| 1 <<< j)) (d i + TB c d e n m (i + 1) s) j = q at *
                  obtain ⟨z, hq1, hq2⟩ := bit_of s j (by omega)
                  have HROW := hide hrow
                  clear hcc hrow
                  cases hu : bt s j with
                  | true =>
                    rw [hu] at hq2 HS
                    simp only [if_true] at hq2
                    clear hu hR hi0 hi2
                    go_wp2
                    go_roundw
                    case rel => exact ⟨j + 1, by omega, by rw [HS.out]; simp, by go_num, HR7.out⟩
                    case measure => simp [intOf]; omega
                  | false =>
                    rw [hu] at hq2 HS
                    simp only [Bool.false_eq_true, if_false] at hq2
                    obtain ⟨p, hp1, hp2, hp3⟩ := or_of s j (by omega) (by omega)
                    have hlt2 := HPW.out s j hst hjt
                    have hl2 : 0 ≤ TB c d e n m (i + 1) (s ||| 1 <<< j) ∧ TB c d e n m (i + 1) (s ||| 1 <<< j) ≤ 200000 := by
                      have := L_bnd HQ.out (show n - (i + 1) ≤ n by omega) (bt (s ||| 1 <<< j)); unfold TB; omega
                    have R8 := hR.drew tab_ok
                    have HR8 := hide R8
                    obtain ⟨F, hF⟩ := R8.get
                    have c4 := tab_at hF (k := (i + 1) * 64 + (s ||| 1 <<< j)) (by omega)
                    rw [tabF_at hM hlt2 (.inl (by omega))] at c4
                    generalize s ||| 1 <<< j = so at *
                    generalize TB c d e n m (i + 1) so = T at *
                    have HMIN := hide (show min q (c i j + T) = if c i j + T < q then c i j + T else q by omega)
                    have t1 : IntKind.i64.wrap ((i : Int) + 1) = ((i + 1 : Nat) : Int) := by rw [IntWalk.i64_in _ (by omega)]; omega
                    have t2 : IntKind.i64.wrap (c i j + T) = c i j + T := IntWalk.i64_in _ (by omega)
                    have ti : (0 : Int) ≤ (i : Int) + 1 := by omega
                    have ts : (so : Int) < 64 := by omega
                    clear hu hR hF R8 hi0 hi2 c2
                    go_wp2_with fail
                    refine wp_region_lex (fun w' => w' = wr.drew) (by kernel_rfl) (by kernel_rfl) rfl ?_
                    generalize wr.drew = wd at *
                    (repeat (first | (refine lex_skip (by rfl) ?_; try simp only [Act.put, List.setIfInBounds_toArray, List.set_cons_zero, List.set_cons_succ]) | (refine lex_read (v := ?_) (by rfl) ?_ ?_; rotate_left; (focus (intro w' hS'; go_simp; (try with_reducible rfl); done)); try simp only [Act.put, List.setIfInBounds_toArray, List.set_cons_zero, List.set_cons_succ])))
                    refine lex_nil ?_
                    clear t1 t2 ti ts c4 hp1 hp2 hp3
                    go_wp2
                    go_roundw
                    case rel => exact ⟨j + 1, by omega, by rw [HS.out, ← HMIN.out]; rfl, by go_num, HR8.out⟩
                    case measure => simp [intOf]; omega
                · obtain rfl : j = m := by omega
                  obtain ⟨F, hF⟩ := hR.get
                  have c1 := tab_at hF (k := i * 64 + s) (by omega)
                  rw [tabF_none hM hst] at c1
                  have hfr := tab_free hF (i * 64 + s) (by omega)
                  rw [← HTR.out]
                  have R9 := hide (run_tab (X := emp) hR (p := i * 64 + s) (by omega) (TB c d e n j i s) (fun x => tabF_upd hM hst x))
                  have ti2 : (i : Int) < (n : Int) + 1 := by omega
                  clear hF hR hrow HR7
                  go_wp2
                  go_roundw
                  case rel => exact ⟨s + 1, by omega, by go_num, R9.out⟩
                  case measure => simp [intOf]; omega
            · obtain rfl : s = k := by omega
              clear hR
              go_wp2
              go_roundw
              case rel => exact ⟨i, (i : Int) - 1, by omega, rfl, rfl, HR5.out⟩
              case measure => simp [intOf]; try omega
end
end Go.Proofs.Ytalbhghigdanlaa
namespace Go.Proofs.Ytalbhghigdanlaa
open Go.RowKit Go.CH Go.CH.Asg
open Go.ChangeMaps (setBlock)

theorem owned_zero {w : World} {base g c : Nat} {e : TypeId} {size : Nat} {cur : Array Value} (hb : base ≤ g) (h : w.heap[g]? = some (.cells cur e (0, 0))) (hs : cur.size = c * size) (hc : c ≤ maxLen) : w.ownsRow base e size (.slice (some ⟨g, 0, none⟩) 0 c) 0 [] := by
  refine ⟨by simp, .inr ⟨g, c, cur, rfl, hb, h, Nat.zero_le _, ?_⟩⟩
  simp [hs, hc]
theorem size_zeroCells (z : Value) (n : Nat) (hz : z.cells = #[z]) : (Builtin.zeroCells z.cells n).size = n := by
  simp [Builtin.zeroCells, hz]
/-- A row of its own, new. -/
def RowRet (w : World) (e : TypeId) (n : Nat) (xs : List Value) (en : Ending) (w' : World) : Prop := ∃ A c, en = .returned (.slice A n c) ∧ Post w (fun _ => False) (RowO e 1 (.slice A n c) n xs) w'
/-- A list of lists of cells at A. -/
structure MatX (w : World) (A : Option Addr) (R : List (List Value)) (V : List (Option Addr × Nat)) : Prop where
  len : V.length = R.length
  src : Src w A R.length 1 (V.mapIdx fun i x => .slice x.1 (R.getD i []).length x.2)
  row : ∀ i (hi : i < R.length) x, V[i]? = some x → Src w x.1 R[i].length 1 R[i]
theorem MatX.at {w : World} {A : Option Addr} {R : List (List Value)} {V : List (Option Addr × Nat)} (h : MatX w A R V) (hn : 0 < R.length) :
    ∃ b o, A = some ⟨b, o, none⟩ ∧ ∀ j (hj : j < R.length), ∃ B c, Src w B R[j].length 1 R[j] ∧ ∀ w', Below w.heap.size w w' → w'.cell? ⟨b, o + j, none⟩ = some (.slice B R[j].length c) := by
  obtain ⟨b, o, rfl, hc⟩ := Src.open_ h.src hn (by omega)
  refine ⟨b, o, rfl, fun j hj => ?_⟩
  have hv : V[j]? = some (V[j]'(by rw [h.len]; exact hj)) := List.getElem?_eq_getElem _
  have h1 := h.row j hj _ hv
  refine ⟨_, (V[j]'(by rw [h.len]; exact hj)).2, h1, fun w' hb => ?_⟩
  have h3 := hc j (.slice (V[j]'(by rw [h.len]; exact hj)).1 R[j].length (V[j]'(by rw [h.len]; exact hj)).2) (by
    rw [List.getElem?_mapIdx, hv]
    simp [List.getD_eq_getElem?_getD, hj])
  rw [hb.cell (World.block_lt_of_cell? _ _ h3)]; exact h3
/-- The cells of the first k lists. -/
def fl (R : List (List Value)) (k : Nat) : List Value := (R.take k).flatten
def fla (R : List (List Value)) : List Value := R.flatten
theorem fl_all (R : List (List Value)) : fl R R.length = fla R := by unfold fl fla; rw [List.take_length]
theorem flat_take {R : List (List Value)} {k : Nat} (h : k < R.length) : fl R (k + 1) = fl R k ++ R[k] := by
  unfold fl
  rw [List.take_succ_eq_append_getElem h, List.flatten_append]; simp
theorem flat_le {R : List (List Value)} (k : Nat) : (fl R k).length ≤ (fla R).length := by
  unfold fl fla
  have := congrArg (fun l => l.flatten.length) (List.take_append_drop k R)
  simp only [List.flatten_append, List.length_append] at this
  omega
theorem Mat.x {w : World} {A : Option Addr} {C : List (List Int)} {V : List (Option Addr × Nat)} (h : Mat w A C V) : MatX w A (C.map ints) V where
  len := by rw [h.len, List.length_map]
  src := by
    rw [List.length_map]
    have e : (fun i (x : Option Addr × Nat) => Value.slice x.1 ((C.map ints).getD i []).length x.2) = fun i x => Value.slice x.1 (C.getD i []).length x.2 := by
      funext i x
      by_cases hi : i < C.length
      · simp [List.getD_eq_getElem?_getD, hi, ints_len]
      · simp [List.getD_eq_getElem?_getD, hi]
    rw [e]; exact h.src
  row := fun i hi x hx => by
    have hi' : i < C.length := by simpa using hi
    have h2 := (h.row i hi' x hx).1
    have e : (C.map ints)[i] = ints C[i] := by simp
    rw [e, ints_len]; exact h2


theorem growI_any (k : Nat) (hk2 : k ≤ 1000) (w : World) : Calls Try.prog 41 #[.slice none 0 0, .int .i64 k] w (RowRet w 3 0 []) := by
  by_cases hk : 0 < k
  case neg =>
    obtain rfl : k = 0 := by omega
    go_enter Try.func41, Try.ntmps41
    go_wp2
    go_ret
    exact ⟨none, 0, rfl, (fun _ => False), row_nil _ _ _, Mod.refl _ _, fun i hi => hi.elim⟩
  obtain ⟨ht, hi, hzz, hsz⟩ := intsOk
  obtain ⟨i, hi, hi1, hi2, hi3⟩ := info_parts hi
  have hr := fun ty => Lib.run_append_nil_zeros (P := Try.prog) w 23 3 ty 3 i (Value.int .i64 0) .i64 .i64 ht Try.underlying3 hi hi1 k hk (by omega) (by omega) (by rw [hi3]; omega)
  have hcap := grownCap_ge w k 0 3
  have hcm := grownCap_le_maxLen w k 0 3 (by unfold maxLen; omega)
  have HP : Hid (Post w (fun _ => False) (RowO 3 1 (.slice (some ⟨w.heap.size, 0, none⟩) 0 (grownCap w k 0 3)) 0 []) (w.drew.alloc (.cells (Builtin.zeroCells (Value.int .i64 0).cells k ++ Builtin.zeroCells (Value.int .i64 0).cells (grownCap w k 0 3 - k)) 3))) := by
    refine hide (row_new (owned_zero (Nat.le_refl _) (heap_alloc_new _ _) ?_ hcm) ((below_drew (Below.refl _ _)).alloc (Nat.le_refl _) _))
    rw [Array.size_append, size_zeroCells _ _ rfl, size_zeroCells _ _ rfl]; omega
  generalize grownCap w k 0 3 = cap at *
  have hcm' : cap ≤ 9223372036854775807 := hcm
  clear hi hi1 hi2 hi3 hzz ht hcm
  go_enter Try.func41, Try.ntmps41
  go_wp2_with (at_builtin; refine Lib.wpList_append_run _ rfl _ _ _ _ rfl _ _ rfl rfl _ _ (hr _) ?_; refine held ?_)
  refine Held.mk ?_
  go_wp2
  go_ret
  exact ⟨_, _, rfl, HP.out⟩


theorem growR_any (k : Nat) (hk2 : k ≤ 1000) (w : World) : Calls Try.prog 40 #[.slice none 0 0, .int .i64 k] w (RowRet w 23 0 []) := by
  by_cases hk : 0 < k
  case neg =>
    obtain rfl : k = 0 := by omega
    go_enter Try.func40, Try.ntmps40
    go_wp2
    go_ret
    exact ⟨none, 0, rfl, (fun _ => False), row_nil _ _ _, Mod.refl _ _, fun i hi => hi.elim⟩
  obtain ⟨ht, hi, hzz, hsz⟩ := rowsOk
  obtain ⟨i, hi, hi1, hi2, hi3⟩ := info_parts hi
  have hr := fun ty => Lib.run_append_nil_zeros (P := Try.prog) w 22 3 ty 23 i (Value.slice none 0 0) .i64 .i64 ht Try.underlying3 hi hi1 k hk (by omega) (by omega) (by rw [hi3]; omega)
  have hcap := grownCap_ge w k 0 23
  have hcm := grownCap_le_maxLen w k 0 23 (by unfold maxLen; omega)
  have HP : Hid (Post w (fun _ => False) (RowO 23 1 (.slice (some ⟨w.heap.size, 0, none⟩) 0 (grownCap w k 0 23)) 0 []) (w.drew.alloc (.cells (Builtin.zeroCells (Value.slice none 0 0).cells k ++ Builtin.zeroCells (Value.slice none 0 0).cells (grownCap w k 0 23 - k)) 23))) := by
    refine hide (row_new (owned_zero (Nat.le_refl _) (heap_alloc_new _ _) ?_ hcm) ((below_drew (Below.refl _ _)).alloc (Nat.le_refl _) _))
    rw [Array.size_append, size_zeroCells _ _ rfl, size_zeroCells _ _ rfl]; omega
  generalize grownCap w k 0 23 = cap at *
  have hcm' : cap ≤ 9223372036854775807 := hcm
  clear hi hi1 hi2 hi3 hzz ht hcm
  go_enter Try.func40, Try.ntmps40
  go_wp2_with (at_builtin; refine Lib.wpList_append_run _ rfl _ _ _ _ rfl _ _ rfl rfl _ _ (hr _) ?_; refine held ?_)
  refine Held.mk ?_
  go_wp2
  go_ret
  exact ⟨_, _, rfl, HP.out⟩

set_option maxHeartbeats 1600000 in
theorem concatI_any {w : World} {A : Option Addr} {c : Nat} {R : List (List Value)} {V : List (Option Addr × Nat)} (h : MatX w A R V) (h1 : R.length ≤ 1000) (h2 : (fla R).length ≤ 1000) :
    Calls Try.prog 32 #[.slice A R.length c] w (RowRet w 3 (fla R).length (fla R)) := by
  have HA := hide h
  have HFL := hide (fun k => flat_le (R := R) k)
  obtain ⟨n, hn⟩ : ∃ n, n = R.length := ⟨_, rfl⟩
  have HN := hide hn
  rw [← hn] at h1
  rw [← hn]
  clear h hn
  go_enter Try.func32, Try.ntmps32
  go_wp2
  go_loop [3, 11] (fun s i => ∃ k : Nat, k ≤ n ∧ s = .int .i64 (((fl R k).length : Nat) : Int) ∧ i = .int .i64 k) (fun _ i => n - (intOf i).toNat)
  case atStart => exact ⟨0, Nat.zero_le _, rfl, rfl⟩
  case round =>
    obtain ⟨k, hk, rfl, rfl⟩ := hrel
    by_cases hlt : k < n
    · have hkr : k < R.length := by rw [← HN.out]; exact hlt
      obtain ⟨b, o, rfl, hc⟩ := HA.out.at (by omega)
      obtain ⟨B, cp, -, hcell⟩ := hc k hkr
      have c0 := hcell _ (Below.refl _ _)
      have hl1 := HFL.out k
      have hl2 := HFL.out (k + 1)
      rw [flat_take hkr, List.length_append] at hl2
      have HT := hide (show (fl R (k + 1)).length = (fl R k).length + R[k].length by rw [flat_take hkr, List.length_append])
      generalize (fl R k).length = s at *
      generalize R[k].length = t at *
      clear hc hcell
      go_wp2
      go_round
      case rel => exact ⟨k + 1, by omega, by rw [HT.out]; go_num, by go_num⟩
      case measure => simp [intOf]; omega
    · obtain rfl : k = n := by omega
      have HT := hide (show (fl R k) = (fla R) by rw [HN.out, fl_all])
      rw [HT.out]
      have KG := hide (growI_any (fla R).length h2 w)
      go_wp2_with fail
      refine KG.out.mono ?_
      rintro e w1 ⟨A1, c1, rfl, hP⟩
      have HR := hide (((Run.begin w).fresh emp_ok hP).imp fun _ _ h => star_emp h)
      clear KG hP
      go_wp2
      go_loopw [6, 27] (fun v i wr => ∃ (j : Nat) (B : Option Addr) (d : Nat), j ≤ k ∧ v = .slice B (fl R j).length d ∧ i = .int .i64 j ∧ Run (fun _ => False) w (RowO 3 1 (.slice B (fl R j).length d) (fl R j).length (fl R j)) wr) (fun _ i _ => k - (intOf i).toNat)
      case atStart => exact ⟨0, _, _, Nat.zero_le _, rfl, rfl, HR.out⟩
      case round =>
        obtain ⟨j, B, d, hj, rfl, rfl, hR⟩ := hrel
        have HR2 := hide hR
        clear HR
        by_cases hjt : j < k
        · have hjr : j < R.length := by rw [← HN.out]; exact hjt
          obtain ⟨b, o, rfl, hc⟩ := HA.out.at (by omega)
          obtain ⟨B2, cp, hsrc, hcell⟩ := hc j hjr
          have c0 := hcell _ hR.bel
          have HS := hide (src_below hsrc hR.bel)
          have hl1 := HFL.out j
          have hl2 := HFL.out (j + 1)
          rw [flat_take hjr, List.length_append] at hl2
          have HT2 := hide (flat_take hjr)
          generalize (fl R j) = xs at *
          generalize R[j] = ys at *
          clear hc hcell hsrc hR
          go_wp2_with (at_builtin; refine held ?_)
          obtain ⟨F7, hR7, bk7⟩ := HR2.out.all row_ok
          refine Held.mk (wpList_app rfl (.tmp 31) (.tmp 32) rfl intsOk _ 0 (v := .slice B xs.length d) (n := xs.length) (xs := xs) rfl hR7.1 (A := B2) (m := ys.length) (c := cp) (news := ys) rfl HS.out (by omega) (by decide) (Nat.zero_le _) ?_)
          intro v8 w8 ho8 hg8 hv8
          have S8 := bk7 _ _ (row_app hR7 ho8 hg8 hv8)
          obtain ⟨A8, c8, rfl⟩ := own_form ho8
          rw [← List.length_append, ← HT2.out] at S8
          have HS8 := hide S8
          have e9 : xs.length + ys.length = (fl R (j + 1)).length := by rw [HT2.out, List.length_append]
          rw [e9]
          clear ho8 hg8 hv8 bk7 hR7 HS S8 HR2 e9
          go_wp2
          go_roundw
          case rel => exact ⟨j + 1, A8, c8, by omega, rfl, by go_num, HS8.out⟩
          case measure => simp [intOf]; omega
        · obtain rfl : j = k := by omega
          rw [HT.out] at HR2
          rw [HT.out]
          clear hR
          go_wp2
          go_ret
          exact ⟨B, d, rfl, HR2.out.post row_ok |> fun h => h⟩

set_option maxHeartbeats 1600000 in
theorem concatR_any {w : World} {A : Option Addr} {c : Nat} {R : List (List Value)} {V : List (Option Addr × Nat)} (h : MatX w A R V) (h1 : R.length ≤ 1000) (h2 : (fla R).length ≤ 1000) :
    Calls Try.prog 31 #[.slice A R.length c] w (RowRet w 23 (fla R).length (fla R)) := by
  have HA := hide h
  have HFL := hide (fun k => flat_le (R := R) k)
  obtain ⟨n, hn⟩ : ∃ n, n = R.length := ⟨_, rfl⟩
  have HN := hide hn
  rw [← hn] at h1
  rw [← hn]
  clear h hn
  go_enter Try.func31, Try.ntmps31
  go_wp2
  go_loop [3, 11] (fun s i => ∃ k : Nat, k ≤ n ∧ s = .int .i64 (((fl R k).length : Nat) : Int) ∧ i = .int .i64 k) (fun _ i => n - (intOf i).toNat)
  case atStart => exact ⟨0, Nat.zero_le _, rfl, rfl⟩
  case round =>
    obtain ⟨k, hk, rfl, rfl⟩ := hrel
    by_cases hlt : k < n
    · have hkr : k < R.length := by rw [← HN.out]; exact hlt
      obtain ⟨b, o, rfl, hc⟩ := HA.out.at (by omega)
      obtain ⟨B, cp, -, hcell⟩ := hc k hkr
      have c0 := hcell _ (Below.refl _ _)
      have hl1 := HFL.out k
      have hl2 := HFL.out (k + 1)
      rw [flat_take hkr, List.length_append] at hl2
      have HT := hide (show (fl R (k + 1)).length = (fl R k).length + R[k].length by rw [flat_take hkr, List.length_append])
      generalize (fl R k).length = s at *
      generalize R[k].length = t at *
      clear hc hcell
      go_wp2
      go_round
      case rel => exact ⟨k + 1, by omega, by rw [HT.out]; go_num, by go_num⟩
      case measure => simp [intOf]; omega
    · obtain rfl : k = n := by omega
      have HT := hide (show (fl R k) = (fla R) by rw [HN.out, fl_all])
      rw [HT.out]
      have KG := hide (growR_any (fla R).length h2 w)
      go_wp2_with fail
      refine KG.out.mono ?_
      rintro e w1 ⟨A1, c1, rfl, hP⟩
      have HR := hide (((Run.begin w).fresh emp_ok hP).imp fun _ _ h => star_emp h)
      clear KG hP
      go_wp2
      go_loopw [6, 27] (fun v i wr => ∃ (j : Nat) (B : Option Addr) (d : Nat), j ≤ k ∧ v = .slice B (fl R j).length d ∧ i = .int .i64 j ∧ Run (fun _ => False) w (RowO 23 1 (.slice B (fl R j).length d) (fl R j).length (fl R j)) wr) (fun _ i _ => k - (intOf i).toNat)
      case atStart => exact ⟨0, _, _, Nat.zero_le _, rfl, rfl, HR.out⟩
      case round =>
        obtain ⟨j, B, d, hj, rfl, rfl, hR⟩ := hrel
        have HR2 := hide hR
        clear HR
        by_cases hjt : j < k
        · have hjr : j < R.length := by rw [← HN.out]; exact hjt
          obtain ⟨b, o, rfl, hc⟩ := HA.out.at (by omega)
          obtain ⟨B2, cp, hsrc, hcell⟩ := hc j hjr
          have c0 := hcell _ hR.bel
          have HS := hide (src_below hsrc hR.bel)
          have hl1 := HFL.out j
          have hl2 := HFL.out (j + 1)
          rw [flat_take hjr, List.length_append] at hl2
          have HT2 := hide (flat_take hjr)
          generalize (fl R j) = xs at *
          generalize R[j] = ys at *
          clear hc hcell hsrc hR
          go_wp2_with (at_builtin; refine held ?_)
          obtain ⟨F7, hR7, bk7⟩ := HR2.out.all row_ok
          refine Held.mk (wpList_app rfl (.tmp 31) (.tmp 32) rfl rowsOk _ 0 (v := .slice B xs.length d) (n := xs.length) (xs := xs) rfl hR7.1 (A := B2) (m := ys.length) (c := cp) (news := ys) rfl HS.out (by omega) (by decide) (Nat.zero_le _) ?_)
          intro v8 w8 ho8 hg8 hv8
          have S8 := bk7 _ _ (row_app hR7 ho8 hg8 hv8)
          obtain ⟨A8, c8, rfl⟩ := own_form ho8
          rw [← List.length_append, ← HT2.out] at S8
          have HS8 := hide S8
          have e9 : xs.length + ys.length = (fl R (j + 1)).length := by rw [HT2.out, List.length_append]
          rw [e9]
          clear ho8 hg8 hv8 bk7 hR7 HS S8 HR2 e9
          go_wp2
          go_roundw
          case rel => exact ⟨j + 1, A8, c8, by omega, rfl, by go_num, HS8.out⟩
          case measure => simp [intOf]; omega
        · obtain rfl : j = k := by omega
          rw [HT.out] at HR2
          rw [HT.out]
          clear hR
          go_wp2
          go_ret
          exact ⟨B, d, rfl, HR2.out.post row_ok |> fun h => h⟩

set_option maxHeartbeats 1600000 in
theorem clone_any {w : World} {A : Option Addr} {c : Nat} {l : List Int} (h : Vec w A l) (hl : l.length ≤ 1000) :
    Calls Try.prog 30 #[.slice A l.length c] w (RowRet w 3 l.length (ints l)) := by
  cases A with
  | none =>
    have h0 : l.length = 0 := by
      rcases Nat.eq_zero_or_pos l.length with e | e
      · exact e
      · obtain ⟨b, o, h1, _⟩ := h.at e
        cases h1
    obtain rfl := List.length_eq_zero_iff.1 h0
    clear h
    have q22 : ∀ (w : World), (binOp .eql 23 (.slice none 0 c) (.slice none 0 0)).run Try.prog w = .ok (.bool true) w := fun w => Lib.run_eql_slice_nil w _ _ none _ c 0 0 Try.underlying23
    show Calls Try.prog 30 #[.slice none 0 c] w (RowRet w 3 0 [])
    go_enter Try.func30, Try.ntmps30
    go_wp2
    go_ret
    exact ⟨none, 0, rfl, (fun _ => False), row_nil _ _ _, Mod.refl _ _, fun i hi => hi.elim⟩
  | some ad =>
    have hR0 := (Run.begin w).fresh emp_ok (row_made w 3 1)
    have HR := hide (hR0.imp (fun _ _ h => star_emp h))
    have HS := hide (src_below h (show Below w.heap.size w (w.alloc (.cells #[] 3)) from (Below.refl _ _).alloc (Nat.le_refl _) _))
    have q22 : ∀ (w : World), (binOp .eql 23 (.slice (some ad) l.length c) (.slice none 0 0)).run Try.prog w = .ok (.bool false) w := fun w => Lib.run_eql_slice_nil w _ _ (some ad) _ c 0 0 Try.underlying23
    clear h hR0
    go_enter Try.func30, Try.ntmps30
    go_wp2_with (at_builtin; refine held ?_)
    obtain ⟨F7, hR7, bk7⟩ := HR.out.all row_ok
    refine Held.mk (wpList_app rfl (.tmp 5) (.tmp 6) rfl intsOk _ 0 (v := .slice (some ⟨w.heap.size, 0, none⟩) 0 0) (n := 0) (xs := []) rfl hR7.1 (A := some ad) (m := l.length) (c := c) (news := ints l) rfl HS.out (by omega) (by decide) (Nat.zero_le _) ?_)
    intro v8 w8 ho8 hg8 hv8
    have S8 := bk7 _ _ (row_app hR7 ho8 hg8 hv8)
    obtain ⟨A8, c8, rfl⟩ := own_form ho8
    rw [Nat.zero_add, List.nil_append] at S8
    have HS8 := hide S8
    rw [Nat.zero_add]
    clear ho8 hg8 hv8 bk7 hR7 HS S8 HR
    go_wp2
    go_ret
    exact ⟨A8, c8, rfl, HS8.out.post row_ok⟩
end Go.Proofs.Ytalbhghigdanlaa
namespace Go.CH.Asg
section
variable (c : Nat → Nat → Int) (d e : Nat → Int) (n m : Nat)
/-- Column j is the one that the next of the last a + 1 rows is paired with. -/
def tst (a : Nat) (U : Nat → Bool) (j : Nat) : Bool := !U j && decide (c (n - (a + 1)) j + L c d e n m a (ins U j) = L c d e n m (a + 1) U)
def bcost : Int := L c d e n m n noU
def bps : List Int := gr c d e n m n noU
def buF (i : Nat) : Int := L (dupc c n i) (dupd d n i) e (n + 1) m (n + 1) noU - bcost c d e n m
def bus : List Int := (List.range n).map (buF c d e n m)
def bvF (j : Nat) : Int := mnl noU (fun i => c i j - buF c d e n m i) (e j) n
def bvs : List Int := (List.range m).map (bvF c d e n m)
end
section
variable {c : Nat → Nat → Int} {d e : Nat → Int} {n m : Nat}
theorem find_hit {p : Nat → Bool} {j : Nat} (hj : j < m) (hp : p j = true) (hb : ∀ t, t < j → p t = false) : (List.range m).find? p = some j := by
  rw [List.find?_range_eq_some]
  exact ⟨hp, List.mem_range.2 hj, fun t ht => by simp [hb t ht]⟩
theorem find_miss {p : Nat → Bool} (hb : ∀ t, t < m → p t = false) : (List.range m).find? p = none := by
  rw [List.find?_eq_none]
  exact fun t ht => by simp [hb t (List.mem_range.1 ht)]
theorem gr_hit {a j : Nat} {U : Nat → Bool} (hj : j < m) (hp : tst c d e n m a U j = true) (hb : ∀ t, t < j → tst c d e n m a U t = false) :
    gr c d e n m (a + 1) U = (j : Int) :: gr c d e n m a (ins U j) ∧ L c d e n m a (ins U j) = L c d e n m (a + 1) U - c (n - (a + 1)) j := by
  refine ⟨?_, ?_⟩
  · rw [gr]
    have := find_hit (p := fun j => !U j && decide (c (n - (a + 1)) j + L c d e n m a (ins U j) = L c d e n m (a + 1) U)) hj hp hb
    rw [this]
  · unfold tst at hp
    simp only [Bool.and_eq_true, decide_eq_true_eq] at hp
    omega
theorem gr_miss {a : Nat} {U : Nat → Bool} (hb : ∀ t, t < m → tst c d e n m a U t = false) :
    gr c d e n m (a + 1) U = (m : Int) :: gr c d e n m a U ∧ L c d e n m a U = L c d e n m (a + 1) U - d (n - (a + 1)) := by
  refine ⟨?_, ?_⟩
  · rw [gr]
    have := find_miss (m := m) (p := fun j => !U j && decide (c (n - (a + 1)) j + L c d e n m a (ins U j) = L c d e n m (a + 1) U)) hb
    rw [this]
  · rcases mnl_is (U := U) (f := fun j => c (n - (a + 1)) j + L c d e n m a (ins U j)) (a := d (n - (a + 1)) + L c d e n m a U) (m := m) with h | ⟨j, g1, g2, g3⟩
    · have : L c d e n m (a + 1) U = d (n - (a + 1)) + L c d e n m a U := h
      omega
    · exfalso
      have h1 := hb j g1
      unfold tst at h1
      rw [g2] at h1
      simp only [Bool.not_false, Bool.true_and, decide_eq_false_iff_not] at h1
      exact h1 g3.symm
theorem best_pot : Pot c d e n m (bcost c d e n m) (buF c d e n m) (bvF c d e n m) where
  opt := L_opt
  more := fun i hi => by
    have : buF c d e n m i + bcost c d e n m = L (dupc c n i) (dupd d n i) e (n + 1) m (n + 1) noU := by unfold buF; omega
    rw [this]; exact L_opt
  ve := fun j hj => mnl_init
  vc := fun j hj i hi => mnl_at (f := fun i => c i j - buF c d e n m i) hi rfl
  vis := fun j hj => by
    rcases mnl_is (U := noU) (f := fun i => c i j - buF c d e n m i) (a := e j) (m := n) with h | ⟨i, g1, g2, g3⟩
    · exact .inl h
    · exact .inr ⟨i, g1, g3⟩
end
end Go.CH.Asg
namespace Go.CH
open Go.RowKit
section
variable {P : Program} {ops : Array Oper} {Q : Exit → Act → World → Prop}
theorem wpOp_mono {i : Nat} {K K' : Act → World → Prop} {a : Act} {w : World} (hk : ∀ a w, K a w → K' a w) (h : wpOp P ops Q i K a w) : wpOp P ops Q i K' a w := by
  unfold wpOp at *
  cases ho : ops[i]? with
  | none => simp only [ho] at h ⊢; exact hk _ _ h
  | some o =>
    simp only [ho] at h ⊢
    split at h
    · rename_i hw
      rw [if_pos hw]
      exact h.imp (Oper.wp_mono hk) id
    · rename_i hw
      rw [if_neg hw]
      exact hk _ _ h
theorem wpAny_inv (I : Array Bool → Act → World → Prop) (hend : ∀ listed a w, I listed a w → Region.ready .any ops listed = [] → Q .normal a w)
    (hstep : ∀ listed a w, I listed a w → ∀ i ∈ Region.ready .any ops listed, wpOp P ops Q i (I (listed.setIfInBounds i true)) a w) :
    ∀ (n : Nat) (listed : Array Bool) (a : Act) (w : World), (unl ops listed).length = n → listed.size = ops.size → I listed a w → wpAny P .any ops Q n listed a w := by
  intro n
  induction n with
  | zero =>
    intro listed a w hn hs hI
    have hnil : unl ops listed = [] := List.eq_nil_of_length_eq_zero hn
    have hr : Region.ready .any ops listed = [] := by
      cases hr : Region.ready .any ops listed with
      | nil => rfl
      | cons j r =>
        exfalso
        have hj : j ∈ Region.ready .any ops listed := by rw [hr]; simp
        obtain ⟨h0, o, ho, _⟩ := mem_ready.1 hj
        have hjs : j < ops.size := (Array.getElem?_eq_some_iff.1 ho).1
        obtain ⟨l1, l2, hs1, _, _⟩ := unl_split (ops := ops) hs hjs h0
        rw [hnil] at hs1
        cases l1 <;> simp at hs1
    exact ⟨hr, hend _ _ _ hI hr⟩
  | succ n ih =>
    intro listed a w hn hs hI
    refine ⟨hend _ _ _ hI, fun j hj => ?_⟩
    obtain ⟨h0, o, ho, _⟩ := mem_ready.1 hj
    have hjs : j < ops.size := (Array.getElem?_eq_some_iff.1 ho).1
    obtain ⟨l1, l2, hs1, hs2, _⟩ := unl_split (ops := ops) hs hjs h0
    refine wpOp_mono (fun a' w' h => ih _ a' w' ?_ (by simpa using hs) h) (hstep _ _ _ hI j hj)
    rw [hs2]
    rw [hs1] at hn
    simp at hn ⊢
    omega
theorem wp_region_inv {id : Nat} {l : List Oper} {a : Act} {w : World} (I : Array Bool → Act → World → Prop) (hm : P.follows .mixedOrders = true)
    (h0 : I (Array.replicate l.toArray.size false) a w.drew) (hend : ∀ listed a w, I listed a w → Region.ready .any l.toArray listed = [] → Q .normal a w)
    (hstep : ∀ listed a w, I listed a w → ∀ i ∈ Region.ready .any l.toArray listed, wpOp P l.toArray Q i (I (listed.setIfInBounds i true)) a w) : (Code.region id l.toArray true).wp P Q a w := by
  refine wp_region_any hm ?_
  have hu : unl l.toArray (Array.replicate l.toArray.size false) = List.range l.toArray.size := by
    unfold unl
    refine List.filter_eq_self.2 fun i hi => ?_
    have := List.mem_range.1 hi
    simp at this
    simp [this]
  exact wpAny_inv I hend hstep _ _ _ _ (by rw [hu]; simp) (by simp) h0
/-- An operation without a guard. -/
theorem wpOp_plain {i : Nat} {o : Oper} {K : Act → World → Prop} {a : Act} {w : World} (ho : ops[i]? = some o) (hg : o.guard = none) (h : o.wp P a w K Q) : wpOp P ops Q i K a w := by
  unfold wpOp
  simp only [ho]
  rw [if_pos (by simp [Region.wanted, hg])]
  exact .inl h
end
end Go.CH
namespace Go.CH
open Go.RowKit
section
variable {P : Program} {ops : Array Oper} {Q : Exit → Act → World → Prop} {S : World → Prop}

/-- Values put into temporaries, one after the other. -/
def puts : Act → List Nat → List Value → Act
  | a, d :: ds, v :: vs => puts (a.put (some d) v) ds vs
  | a, _, _ => a
theorem put_puts (d : Nat) (v : Value) : ∀ (ds : List Nat) (vs : List Value) (a : Act), d ∉ ds → (puts a ds vs).put (some d) v = puts (a.put (some d) v) ds vs
  | [], _, _, _ => by simp [puts]
  | _ :: _, [], _, _ => rfl
  | e :: ds, u :: vs, a, h => by
    simp only [List.mem_cons, not_or] at h
    simp only [puts]
    rw [put_puts d v ds vs _ h.2, Act.put_comm a v u (fun x hx => by injection hx with hx; subst hx; exact fun g => by injection g with g; exact h.1 g.symm)]
theorem puts_snoc (a : Act) (d : Nat) (v : Value) : ∀ (ds : List Nat) (vs : List Value), ds.length = vs.length → puts a (ds ++ [d]) (vs ++ [v]) = (puts a ds vs).put (some d) v := by
  intro ds
  induction ds generalizing a with
  | nil => intro vs h; cases vs with | nil => rfl | cons _ _ => simp at h
  | cons e ds ih =>
    intro vs h
    cases vs with
    | nil => simp at h
    | cons u vs => simp only [List.cons_append, puts]; exact ih _ _ (by simpa using h)
theorem puts_drop (a : Act) (ds es : List Nat) (vs : List Value) (h : ds.length = vs.length) : puts a (ds ++ es) vs = puts a ds vs := by
  induction ds generalizing a vs with
  | nil => cases vs with | nil => cases es <;> rfl | cons _ _ => simp at h
  | cons e ds ih =>
    cases vs with
    | nil => simp at h
    | cons u vs => simp only [List.cons_append, puts]; exact ih _ _ (by simpa using h)
theorem puts_eval (k : Nat) : ∀ (ds : List Nat) (vs : List Value) (a : Act), k ∉ ds → (puts a ds vs).eval (.tmp k) = a.eval (.tmp k)
  | [], _, _, _ => by simp [puts]
  | _ :: _, [], _, _ => rfl
  | e :: ds, u :: vs, a, h => by
    simp only [List.mem_cons, not_or] at h
    simp only [puts]
    rw [puts_eval k ds vs _ h.2, Act.eval_put (fun x hx => by injection hx with hx; subst hx; exact fun g => by injection g with g; exact h.1 g)]
/-- The temporaries of operations. -/
def dsts (ops : Array Oper) (X : List Nat) : List Nat := X.map fun i => ((ops[i]?.bind (·.dst))).getD 0
def lstB (l0 : Array Bool) (X Y : List Nat) (s t : Nat) : Array Bool := (X.take s ++ Y.take t).foldl (fun l i => l.setIfInBounds i true) l0
/-- X and Y are the only ones that are ready, each in its order, till both are through. -/
def twoOk (ops : Array Oper) (l0 : Array Bool) (X Y : List Nat) : Bool :=
  ((List.range (X.length + 1)).all fun s => (List.range (Y.length + 1)).all fun t =>
    ((s == X.length && t == Y.length) || (!(Region.ready .any ops (lstB l0 X Y s t)).isEmpty)) &&
    (((s == X.length && t == Y.length)) || (Region.ready .any ops (lstB l0 X Y s t)).all (fun i => (X[s]? == some i) || (Y[t]? == some i))) &&
    (match X[s]? with | some i => (lstB l0 X Y s t).setIfInBounds i true == lstB l0 X Y (s + 1) t | none => true) &&
    (match Y[t]? with | some i => (lstB l0 X Y s t).setIfInBounds i true == lstB l0 X Y s (t + 1) | none => true)) &&
  (X ++ Y).all (fun i => match ops[i]? with | some o => o.guard.isNone && o.dst.isSome | none => false) &&
  decide ((dsts ops X ++ dsts ops Y).Nodup)
theorem map_split {α β : Type} (f : α → β) (X : List α) {k : Nat} (h : k < X.length) : X.map f = (X.take k).map f ++ (f X[k] :: (X.drop (k + 1)).map f) := by
  have e := congrArg (List.map f) (List.take_append_drop k X)
  rw [List.map_append, List.drop_eq_getElem_cons h, List.map_cons] at e
  exact e.symm
theorem two_chains {F0 : Nat → Prop} {w0 : World} {l0 : Array Bool} {a0 : Act} {R : Own} (X Y : List Nat) (PX PY : List Value → Own) (fuel : Nat) (hok : twoOk ops l0 X Y = true)
    (oX : ∀ vs, (PX vs).Ok) (oY : ∀ vs, (PY vs).Ok) (oR : R.Ok) (hS : ∀ (O : Own) W, Run F0 w0 O W → S W)
    (hX : ∀ i o vs us, X[vs.length]? = some i → ops[i]? = some o → us.length ≤ Y.length → ∀ (Z : Own) W, Z.Ok → Run F0 w0 (star (PX vs) Z) W →
      o.wp P (puts (puts a0 (dsts ops X) vs) (dsts ops Y) us) W (fun a' w' => ∃ v, a' = (puts (puts a0 (dsts ops X) vs) (dsts ops Y) us).put o.dst v ∧ Run F0 w0 (star (PX (vs ++ [v])) Z) w') Q)
    (hY : ∀ i o vs us, Y[us.length]? = some i → ops[i]? = some o → vs.length ≤ X.length → ∀ (Z : Own) W, Z.Ok → Run F0 w0 (star (PY us) Z) W →
      o.wp P (puts (puts a0 (dsts ops X) vs) (dsts ops Y) us) W (fun a' w' => ∃ v, a' = (puts (puts a0 (dsts ops X) vs) (dsts ops Y) us).put o.dst v ∧ Run F0 w0 (star (PY (us ++ [v])) Z) w') Q)
    (hend : ∀ vs us W, vs.length = X.length → us.length = Y.length → Run F0 w0 (star (PX vs) (star (PY us) R)) W → wpAnyH P .any ops Q S fuel (lstB l0 X Y X.length Y.length) (puts (puts a0 (dsts ops X) vs) (dsts ops Y) us) W)
    {W : World} (h0 : Run F0 w0 (star (PX []) (star (PY []) R)) W) : wpAnyH P .any ops Q S (fuel + (X.length + Y.length)) l0 a0 W := by
  simp only [twoOk, Bool.and_eq_true, decide_eq_true_eq] at hok
  obtain ⟨⟨hst, hgd⟩, hnd⟩ := hok
  have key : ∀ (N : Nat) (vs us : List Value) (W : World), vs.length ≤ X.length → us.length ≤ Y.length → N = (X.length - vs.length) + (Y.length - us.length) → Run F0 w0 (star (PX vs) (star (PY us) R)) W →
      wpAnyH P .any ops Q S (fuel + N) (lstB l0 X Y vs.length us.length) (puts (puts a0 (dsts ops X) vs) (dsts ops Y) us) W := by
    intro N
    induction N with
    | zero =>
      intro vs us W hv hu hN hR
      have h1 : vs.length = X.length := by omega
      have h2 : us.length = Y.length := by omega
      rw [h1, h2]
      exact hend vs us W h1 h2 hR
    | succ N ih =>
      intro vs us W hv hu hN hR
      have hc := hst
      rw [List.all_eq_true] at hc
      have hc1 := hc vs.length (List.mem_range.2 (by omega))
      rw [List.all_eq_true] at hc1
      have hc2 := hc1 us.length (List.mem_range.2 (by omega))
      simp only [Bool.and_eq_true] at hc2
      obtain ⟨⟨⟨c1, c2⟩, c3⟩, c4⟩ := hc2
      have hne : (vs.length == X.length && us.length == Y.length) = false := by
        cases hb : (vs.length == X.length && us.length == Y.length) with
        | false => rfl
        | true => simp only [Bool.and_eq_true, beq_iff_eq] at hb; omega
      rw [hne, Bool.false_or] at c1 c2
      have hdl : ∀ (Z : List Nat) i, i ∈ Z → (∀ j ∈ Z, j ∈ X ++ Y) → ∃ o d, ops[i]? = some o ∧ o.guard = none ∧ o.dst = some d ∧ ((ops[i]?.bind (·.dst))).getD 0 = d := by
        intro Z i hi hZ
        rw [List.all_eq_true] at hgd
        have := hgd i (hZ i hi)
        cases ho : ops[i]? with
        | none => rw [ho] at this; cases this
        | some o =>
          rw [ho] at this
          simp only [Bool.and_eq_true, Option.isNone_iff_eq_none, Option.isSome_iff_exists] at this
          obtain ⟨g1, d, g2⟩ := this
          exact ⟨o, d, rfl, g1, g2, by simp [g2]⟩
      refine ⟨fun h => by rw [h] at c1; simp at c1, fun i hi => ?_⟩
      rw [List.all_eq_true] at c2
      have hi2 := c2 i hi
      simp only [Bool.or_eq_true, beq_iff_eq] at hi2
      have hdup := List.nodup_append.1 hnd
      rcases hi2 with hi2 | hi2
      · -- the next of X
        have hil : vs.length < X.length := (List.getElem?_eq_some_iff.1 hi2).1
        obtain ⟨o, d, ho, hg, hd, hdd⟩ := hdl X i (List.mem_of_getElem? hi2) (fun j hj => List.mem_append_left _ hj)
        refine wpOp_plain ho hg (Oper.wp_mono ?_ (hX i o vs us hi2 ho hu (star (PY us) R) W (star_ok (oY us) oR) hR))
        rintro a' w' ⟨v, rfl, hR'⟩
        refine ⟨hS _ _ hR', ?_⟩
        rw [hi2] at c3
        simp only [beq_iff_eq] at c3
        have h3 := ih (vs ++ [v]) us w' (by simp; omega) hu (by simp; omega) hR'
        rw [List.length_append, List.length_singleton, ← c3] at h3
        have e1 : puts a0 (dsts ops X) (vs ++ [v]) = (puts a0 (dsts ops X) vs).put (some d) v := by
          have hsp : dsts ops X = dsts ops (X.take vs.length) ++ (d :: dsts ops (X.drop (vs.length + 1))) := by
            have hXe : X[vs.length] = i := (List.getElem?_eq_some_iff.1 hi2).2
            have e9 := map_split (fun i => ((ops[i]?.bind (·.dst))).getD 0) X hil
            simp only [hXe, hdd] at e9
            exact e9
          have hl : (dsts ops (X.take vs.length)).length = vs.length := by unfold dsts; simp; omega
          rw [hsp]
          rw [show dsts ops (X.take vs.length) ++ (d :: dsts ops (X.drop (vs.length + 1))) = (dsts ops (X.take vs.length) ++ [d]) ++ dsts ops (X.drop (vs.length + 1)) by simp]
          rw [puts_drop _ _ _ (vs ++ [v]) (by simp [hl]), puts_snoc _ _ _ _ _ hl, List.append_assoc, puts_drop _ _ _ vs hl]
        have hnm : d ∉ dsts ops Y := by
          intro hm
          refine hdup.2.2 d ?_ d hm rfl
          unfold dsts
          exact List.mem_map.2 ⟨i, List.mem_of_getElem? hi2, hdd⟩
        rw [hd, put_puts d v _ us _ hnm, ← e1]
        exact h3
      · have hil : us.length < Y.length := (List.getElem?_eq_some_iff.1 hi2).1
        obtain ⟨o, d, ho, hg, hd, hdd⟩ := hdl Y i (List.mem_of_getElem? hi2) (fun j hj => List.mem_append_right _ hj)
        have hR2 : Run F0 w0 (star (PY us) (star (PX vs) R)) W := hR.rot
        refine wpOp_plain ho hg (Oper.wp_mono ?_ (hY i o vs us hi2 ho hv (star (PX vs) R) W (star_ok (oX vs) oR) hR2))
        rintro a' w' ⟨v, rfl, hR'⟩
        refine ⟨hS _ _ hR', ?_⟩
        rw [hi2] at c4
        simp only [beq_iff_eq] at c4
        have h3 := ih vs (us ++ [v]) w' hv (by simp; omega) (by simp; omega) hR'.rot
        rw [List.length_append, List.length_singleton, ← c4] at h3
        have e1 : ∀ b : Act, puts b (dsts ops Y) (us ++ [v]) = (puts b (dsts ops Y) us).put (some d) v := by
          intro b
          have hsp : dsts ops Y = dsts ops (Y.take us.length) ++ (d :: dsts ops (Y.drop (us.length + 1))) := by
            have hXe : Y[us.length] = i := (List.getElem?_eq_some_iff.1 hi2).2
            have e9 := map_split (fun i => ((ops[i]?.bind (·.dst))).getD 0) Y hil
            simp only [hXe, hdd] at e9
            exact e9
          have hl : (dsts ops (Y.take us.length)).length = us.length := by unfold dsts; simp; omega
          rw [hsp]
          rw [show dsts ops (Y.take us.length) ++ (d :: dsts ops (Y.drop (us.length + 1))) = (dsts ops (Y.take us.length) ++ [d]) ++ dsts ops (Y.drop (us.length + 1)) by simp]
          rw [puts_drop _ _ _ (us ++ [v]) (by simp [hl]), puts_snoc _ _ _ _ _ hl, List.append_assoc, puts_drop _ _ _ us hl]
        rw [hd, ← e1]
        exact h3
  have h1 := key (X.length + Y.length) [] [] W (Nat.zero_le _) (Nat.zero_le _) (by simp) h0
  have e : ∀ (b : Act) (ds : List Nat), puts b ds [] = b := fun b ds => by cases ds <;> rfl
  rw [e, e] at h1
  exact h1
end
end Go.CH
