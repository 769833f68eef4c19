/-
  Assign: the program's grid.
  Assign: grid of the program, walked.
  Assign: Ordered of the program.
  Assign: Ordered, Grid of the program.
  Assign: Grid of the program.
  Assign: the closure of GridBound; the neighbours of a position, visited by it.
  Assign: the neighbours of a position, visited by the closure of GridBound.
-/
import Derived.Test.YtalbhghigdanlaaMG10
import Derived.Deep.LoopGhost
import Derived.WalkMore
set_option linter.unusedSimpArgs false
set_option linter.unusedVariables false
namespace Go.Proofs.Ytalbhghigdanlaa
open Go.RowKit Go.CH Go.CH.Asg
open Go.ChangeMaps (setBlock)

section
variable {c : Nat → Nat → Int} {d e : Nat → Int} {n m : Nat}
theorem GR_bnd {w : World} {A B G : Option Addr} (h : Prq w A B G c d e n m) {a b : Nat} (ha : a ≤ n) (hb : b ≤ m) : 0 ≤ GR c d e n m a b ∧ GR c d e n m a b ≤ (a : Int) * 10000 + (b : Int) * 10000 := by
  induction a generalizing b with
  | zero =>
    induction b with
    | zero => show 0 ≤ (0 : Int) ∧ _; exact ⟨by omega, by show (0 : Int) ≤ _; omega⟩
    | succ b ih =>
      have h1 := ih (by omega)
      have h2 := h.eb (m - (b + 1)) (by omega)
      have h3 : GR c d e n m 0 (b + 1) = e (m - (b + 1)) + GR c d e n m 0 b := rfl
      rw [h3]; omega
  | succ a iha =>
    have h5 := h.db (n - (a + 1)) (by omega)
    induction b with
    | zero =>
      have h1 := iha (by omega) (b := 0) (by omega)
      have h3 : GR c d e n m (a + 1) 0 = d (n - (a + 1)) + GR c d e n m a 0 := rfl
      rw [h3]; omega
    | succ b ihb =>
      have h1 := iha (by omega) (b := b + 1) hb
      have h2 := ihb (by omega)
      have h6 := iha (by omega) (b := b) (by omega)
      have h7 := h.eb (m - (b + 1)) (by omega)
      have h8 := h.cb (n - (a + 1)) (by omega) (m - (b + 1)) (by omega)
      have h3 : GR c d e n m (a + 1) (b + 1) = min (min (d (n - (a + 1)) + GR c d e n m a (b + 1)) (e (m - (b + 1)) + GR c d e n m (a + 1) b)) (c (n - (a + 1)) (m - (b + 1)) + GR c d e n m a b) := rfl
      rw [h3]; omega
/-- The least over the neighbours is the grid's number. -/
theorem nb_val {w : World} {A B G : Option Addr} (h : Prq w A B G c d e n m) {f : Nat → Nat → Int} {i j : Nat} (hi : i ≤ n) (hj : j ≤ m) (h1 : i < n → f (i + 1) j = GR c d e n m (n - (i + 1)) (m - j)) (h2 : j < m → f i (j + 1) = GR c d e n m (n - i) (m - (j + 1)))
    (h3 : i < n → j < m → f (i + 1) (j + 1) = GR c d e n m (n - (i + 1)) (m - (j + 1))) :
    (if nb3 c f n m i j (nb2 e f m i j (nb1 d f n i j (-1))) < 0 then 0 else nb3 c f n m i j (nb2 e f m i j (nb1 d f n i j (-1)))) = GR c d e n m (n - i) (m - j) := by
  by_cases hin : i < n
  · have e1 := h1 hin
    have b1 := GR_bnd h (a := n - (i + 1)) (b := m - j) (by omega) (by omega)
    have hd := h.db i hin
    obtain ⟨a, ha⟩ : ∃ a, n - i = a + 1 := ⟨n - i - 1, by omega⟩
    have ha1 : n - (i + 1) = a := by omega
    have ha2 : n - (a + 1) = i := by omega
    rw [ha1] at e1 b1
    by_cases hjm : j < m
    · have e2 := h2 hjm
      have e3 := h3 hin hjm
      have he := h.eb j hjm
      have hc := h.cb i hin j hjm
      obtain ⟨b, hb⟩ : ∃ b, m - j = b + 1 := ⟨m - j - 1, by omega⟩
      have hb1 : m - (j + 1) = b := by omega
      have hb2 : m - (b + 1) = j := by omega
      have b2 := GR_bnd h (a := n - i) (b := m - (j + 1)) (by omega) (by omega)
      have b3 := GR_bnd h (a := n - (i + 1)) (b := m - (j + 1)) (by omega) (by omega)
      rw [ha, hb1] at e2 b2
      rw [ha1, hb1] at e3 b3
      rw [ha, hb]
      rw [hb] at e1 b1
      have h9 : GR c d e n m (a + 1) (b + 1) = min (min (d (n - (a + 1)) + GR c d e n m a (b + 1)) (e (m - (b + 1)) + GR c d e n m (a + 1) b)) (c (n - (a + 1)) (m - (b + 1)) + GR c d e n m a b) := rfl
      rw [ha2, hb2] at h9
      rw [h9]
      simp only [nb3, nb2, nb1, hin, hjm, if_true, and_self, e1, e2, e3, bst]
      simp only [show ((-1 : Int) < 0) from by omega, if_true]
      rw [if_neg (show ¬ d i + GR c d e n m a (b + 1) < 0 by omega)]
      by_cases g1 : e j + GR c d e n m (a + 1) b < d i + GR c d e n m a (b + 1)
      · rw [if_pos g1, if_neg (show ¬ e j + GR c d e n m (a + 1) b < 0 by omega)]
        by_cases g2 : c i j + GR c d e n m a b < e j + GR c d e n m (a + 1) b
        · rw [if_pos g2, if_neg (by omega)]; omega
        · rw [if_neg g2, if_neg (by omega)]; omega
      · rw [if_neg g1, if_neg (show ¬ d i + GR c d e n m a (b + 1) < 0 by omega)]
        by_cases g2 : c i j + GR c d e n m a b < d i + GR c d e n m a (b + 1)
        · rw [if_pos g2, if_neg (by omega)]; omega
        · rw [if_neg g2, if_neg (by omega)]; omega
    · obtain rfl : j = m := by omega
      rw [ha, Nat.sub_self]
      rw [Nat.sub_self] at e1 b1
      have h9 : GR c d e n j (a + 1) 0 = d (n - (a + 1)) + GR c d e n j a 0 := rfl
      rw [ha2] at h9
      rw [h9]
      simp only [nb3, nb2, nb1, hin, Nat.lt_irrefl, if_true, if_false, and_false, e1, bst]
      simp only [show ((-1 : Int) < 0) from by omega, if_true]
      rw [if_neg (by omega)]
  · obtain rfl : i = n := by omega
    rw [Nat.sub_self]
    by_cases hjm : j < m
    · have e2 := h2 hjm
      have he := h.eb j hjm
      obtain ⟨b, hb⟩ : ∃ b, m - j = b + 1 := ⟨m - j - 1, by omega⟩
      have hb1 : m - (j + 1) = b := by omega
      have hb2 : m - (b + 1) = j := by omega
      have b2 := GR_bnd h (a := 0) (b := b) (by omega) (by omega)
      rw [Nat.sub_self, hb1] at e2
      rw [hb]
      have h9 : GR c d e i m 0 (b + 1) = e (m - (b + 1)) + GR c d e i m 0 b := rfl
      rw [hb2] at h9
      rw [h9]
      simp only [nb3, nb2, nb1, hjm, Nat.lt_irrefl, if_true, if_false, false_and, e2, bst]
      simp only [show ((-1 : Int) < 0) from by omega, if_true]
      rw [if_neg (by omega)]
    · obtain rfl : j = m := by omega
      rw [Nat.sub_self]
      simp only [nb3, nb2, nb1, Nat.lt_irrefl, if_false, false_and]
      rfl
end
section
variable {w0 W : World} {X : Own} {pg gg : Nat} {rb : Nat → Nat} {f : Nat → Nat → Int} {i n m : Nat}
theorem range_cons {i n : Nat} (h : i ≤ n) : List.range' i (n + 1 - i) = i :: List.range' (i + 1) (n + 1 - (i + 1)) := by
  have e : n + 1 - i = (n + 1 - (i + 1)) + 1 := by omega
  rw [e, List.range'_succ]
/-- A row more. -/
theorem grid_new (hX : X.Ok) (hi : i ≤ n) {r : Nat} (h : Run (fun _ => False) w0 (star (NumO r (m + 1) (fun _ => 0)) (star (GridO pg gg rb f (i + 1) n m) X)) W) :
    Run (fun _ => False) w0 (star (GridO pg gg (fun a => if a = i then r else rb a) (fun a b => if a = i then 0 else f a b) i n m) X) (W.setCell ⟨gg, i, none⟩ (.slice (some ⟨r, 0, none⟩) (m + 1) (m + 1))) := by
  unfold GridO at h
  have oY : (star (NumO r (m + 1) (fun _ => 0)) (star (CellO pg #[.slice (some ⟨gg, 0, none⟩) (n + 1) (n + 1)] 22) (star (bigK (List.range' (i + 1) (n + 1 - (i + 1))) fun r => NumO (rb r) (m + 1) (f r)) X))).Ok := star_ok num_ok (star_ok cell_ok (star_ok (bigK_ok fun _ => num_ok) hX))
  obtain ⟨F, hR, -, bk⟩ := (h.perm (by ac_rfl : _ = star (RowO 23 1 (.slice (some ⟨gg, 0, none⟩) (n + 1) (n + 1)) (n + 1) (fv (n + 1) fun r => if i + 1 ≤ r then .slice (some ⟨rb r, 0, none⟩) (m + 1) (m + 1) else .slice none 0 0)) (star (NumO r (m + 1) (fun _ => 0)) (star (CellO pg #[.slice (some ⟨gg, 0, none⟩) (n + 1) (n + 1)] 22) (star (bigK (List.range' (i + 1) (n + 1 - (i + 1))) fun r => NumO (rb r) (m + 1) (f r)) X))))).take row_ok oY
  have h1 := bk _ _ (row_set hR (i := i) (by omega) (.slice (some ⟨r, 0, none⟩) (m + 1) (m + 1)))
  rw [fv_set] at h1
  rw [fv_congr (g := fun a => if i ≤ a then Value.slice (some ⟨(if a = i then r else rb a), 0, none⟩) (m + 1) (m + 1) else .slice none 0 0) (fun a ha => by
    unfold upv
    by_cases e : a = i
    · subst e; simp
    · rw [if_neg e]
      show (if i + 1 ≤ a then Value.slice (some ⟨rb a, 0, none⟩) (m + 1) (m + 1) else .slice none 0 0) = _
      by_cases h2 : i + 1 ≤ a
      · rw [if_pos h2, if_pos (by omega), if_neg e]
      · rw [if_neg h2, if_neg (by omega)])] at h1
  unfold GridO
  rw [range_cons hi]
  have hb : bigK (List.range' (i + 1) (n + 1 - (i + 1))) (fun r => NumO (rb r) (m + 1) (f r)) = bigK (List.range' (i + 1) (n + 1 - (i + 1))) (fun a => NumO (if a = i then r else rb a) (m + 1) (fun b => if a = i then 0 else f a b)) := bigK_congr fun a ha => by
    have : a ≠ i := by rw [List.mem_range'_1] at ha; omega
    simp [this]
  rw [hb] at h1
  have hk : bigK (i :: List.range' (i + 1) (n + 1 - (i + 1))) (fun a => NumO (if a = i then r else rb a) (m + 1) (fun b => if a = i then 0 else f a b)) = star (NumO r (m + 1) (fun _ => 0)) (bigK (List.range' (i + 1) (n + 1 - (i + 1))) (fun a => NumO (if a = i then r else rb a) (m + 1) (fun b => if a = i then 0 else f a b))) := by
    show star (NumO (if i = i then r else rb i) (m + 1) (fun b => if i = i then 0 else f i b)) (bigK (List.range' (i + 1) (n + 1 - (i + 1))) (fun a => NumO (if a = i then r else rb a) (m + 1) (fun b => if a = i then 0 else f a b))) = _
    rw [if_pos rfl]
    have e : (fun b : Nat => if i = i then (0 : Int) else f i b) = fun _ => 0 := by funext b; rw [if_pos rfl]
    rw [e]
  rw [hk]
  exact h1.perm (by ac_rfl)
end
def GridRet (w : World) (c : Nat → Nat → Int) (d e : Nat → Int) (n m : Nat) (en : Ending) (w' : World) : Prop :=
  ∃ pg gg rb f, en = .returned (.slice (some ⟨gg, 0, none⟩) (n + 1) (n + 1)) ∧ Run (fun _ => False) w (star (GridO pg gg rb f 0 n m) emp) w' ∧ ∀ r y, r ≤ n → y ≤ m → f r y = GR c d e n m (n - r) (m - y)
end Go.Proofs.Ytalbhghigdanlaa
namespace Go.Proofs.Ytalbhghigdanlaa
open Go.RowKit Go.CH Go.CH.Asg
open Go.ChangeMaps (setBlock)

theorem wpList_nums {ops : Array Oper} {rest : List Oper} {o : Oper} {a : Act} {w : World} {Q : Exit → Act → World → Prop} (hg : o.guard = none) (l : Operand) (hop : o.op = Op.makeSlice 23 l l) (n : Nat) (hn : n ≤ 1000) (hl : a.eval l = .int .i64 (n : Int))
    (hK : ∀ w', Post w (fun _ => False) (NumO w.heap.size n (fun _ => 0)) w' → wpList Try.prog ops Q rest (a.put o.dst (.slice (some ⟨w.heap.size, 0, none⟩) n n)) w') : wpList Try.prog ops Q (o :: rest) a w :=
  wpList_make hg intsOk (by decide) l hop n hn hl rfl fun w' h => hK w' (by unfold NumO; rw [← show List.replicate n (Value.int .i64 0) = fv n (fun _ => .int .i64 0) from fv_const n _]; exact h)
theorem wp_nums {o : Oper} {a : Act} {w : World} {K : Act → World → Prop} {Q : Exit → Act → World → Prop} (l : Operand) (hop : o.op = Op.makeSlice 23 l l) (n : Nat) (hn : n ≤ 1000) (hl : a.eval l = .int .i64 (n : Int))
    (hK : ∀ w', Post w (fun _ => False) (NumO w.heap.size n (fun _ => 0)) w' → K (a.put o.dst (.slice (some ⟨w.heap.size, 0, none⟩) n n)) w') : o.wp Try.prog a w K Q :=
  wp_make intsOk (by decide) l hop n hn hl rfl fun w' h => hK w' (by unfold NumO; rw [← show List.replicate n (Value.int .i64 0) = fv n (fun _ => .int .i64 0) from fv_const n _]; exact h)
theorem wpList_rows {ops : Array Oper} {rest : List Oper} {o : Oper} {a : Act} {w : World} {Q : Exit → Act → World → Prop} (hg : o.guard = none) (l : Operand) (hop : o.op = Op.makeSlice 22 l l) (n : Nat) (hn : n ≤ 1000) (hl : a.eval l = .int .i64 (n : Int))
    (hK : ∀ w', Post w (fun _ => False) (RowO 23 1 (.slice (some ⟨w.heap.size, 0, none⟩) n n) n (fv n fun _ => .slice none 0 0)) w' → wpList Try.prog ops Q rest (a.put o.dst (.slice (some ⟨w.heap.size, 0, none⟩) n n)) w') : wpList Try.prog ops Q (o :: rest) a w :=
  wpList_make hg rowsOk (by decide) l hop n hn hl rfl fun w' h => hK w' (by rw [← fv_const n _]; exact h)
section
variable {w : World} {A B G : Option Addr} {c : Nat → Nat → Int} {d e : Nat → Int} {n m : Nat}
set_option maxRecDepth 100000 in
set_option maxHeartbeats 6400000 in
theorem grid_any (hq : Prq w A B G c d e n m) (ca cb cg : Nat) : Calls Try.prog 35 #[.slice A n ca, .slice B n cb, .slice G m cg] w (GridRet w c d e n m) := by
  have HQ := hide hq
  have hn7 := hq.n7
  have hm6 := hq.m6
  clear hq
  have HRET := hide (show ∀ (pg gg : Nat) (rb : Nat → Nat) (f : Nat → Nat → Int) w', Run (fun _ => False) w (star (GridO pg gg rb f 0 n m) emp) w' → (∀ r y, r ≤ n → y ≤ m → f r y = GR c d e n m (n - r) (m - y)) → GridRet w c d e n m (.returned (.slice (some ⟨gg, 0, none⟩) (n + 1) (n + 1))) w' from fun pg gg rb f w' h1 h2 => ⟨pg, gg, rb, f, rfl, h1, h2⟩)
  go_enter Try.func35, Try.ntmps35
  go_wp2_with (refine wpList_rows rfl (.tmp 13) rfl (n + 1) (by omega) (by simp [Act.eval]) ?_; refine held ?_)
  refine Held.mk fun w1 hP1 => ?_
  have R1 := ((Run.begin w).fresh emp_ok hP1)
  have R2 := R1.fresh (star_ok row_ok emp_ok) (cell_new w1 #[.slice (some ⟨w.heap.size, 0, none⟩) (n + 1) (n + 1)] 22)
  have R3 : Hid (Run (fun _ => False) w (star (GridO w1.heap.size w.heap.size (fun _ => 0) (fun _ _ => 0) (n + 1) n m) emp) _) := hide (by
    have e1 : GridO w1.heap.size w.heap.size (fun _ => 0) (fun _ _ => 0) (n + 1) n m = star (CellO w1.heap.size #[.slice (some ⟨w.heap.size, 0, none⟩) (n + 1) (n + 1)] 22) (star (RowO 23 1 (.slice (some ⟨w.heap.size, 0, none⟩) (n + 1) (n + 1)) (n + 1) (fv (n + 1) fun _ => .slice none 0 0)) emp) := by
      unfold GridO
      rw [Nat.sub_self]
      rw [fv_congr (g := fun _ => Value.slice none 0 0) (fun r hr => by rw [if_neg (by omega)])]
      rfl
    rw [e1]
    exact R2.one)
  clear hP1 R1 R2
  go_wp2_with fail
  generalize w1.heap.size = pg at *
  generalize w.heap.size = gg at *
  go_wp2
  go_loopg [8] (n + 1) (fun g s8 wr => ∃ (x0 : Int) (rb : Nat → Nat) (f : Nat → Nat → Int), s8 = .int .i64 x0 ∧ x0 = (g : Int) - 1 ∧ g ≤ n + 1 ∧ Run (fun _ => False) w (star (GridO pg gg rb f g n m) emp) wr ∧ ∀ r y, g ≤ r → r ≤ n → y ≤ m → f r y = GR c d e n m (n - r) (m - y))
  case atStart => exact ⟨(n : Int), _, _, rfl, by omega, Nat.le_refl _, R3.out, fun r y h1 h2 => by omega⟩
  case round =>
    obtain ⟨x0, rb, f, rfl, hx0, hg, hR, hf⟩ := hrel
    have HR := hide hR
    have HF := hide hf
    clear hf R3
    cases gk with
    | zero =>
      have tx : ¬ 0 ≤ x0 := by omega
      have c0 := grid_pg hR
      have HFF := hide (fun r y h1 h2 => HF.out r y (Nat.zero_le _) h1 h2)
      clear hx0 hR
      go_wp2
      go_ret
      exact HRET.out _ _ _ _ _ HR.out HFF.out
    | succ i =>
      obtain rfl : x0 = (i : Int) := by omega
      have hi : i ≤ n := by omega
      have hR2 := hR.drew (star_ok gridO_ok emp_ok)
      have HR2 := hide hR2
      have c0 := grid_pg hR2
      have hin : (i : Int) < (n : Int) + 1 := by omega
      have tm : IntKind.i64.wrap ((m : Int) + 1) = (m : Int) + 1 := IntWalk.i64_in _ (by omega)
      clear hx0 hR hR2 HR
      go_wp2_with fail
      refine wp_region_ley (fun w' => w'.cell? ⟨pg, 0, none⟩ = some (.slice (some ⟨gg, 0, none⟩) (n + 1) (n + 1))) (by kernel_rfl) (by kernel_rfl) (by kernel_rfl) c0 ?_
      (repeat (first | (refine ley_skip (by rfl) ?_; try simp only [Act.put, List.setIfInBounds_toArray, List.set_cons_zero, List.set_cons_succ]) | (refine ley_read (v := ?_) (by rfl) ?_ ?_; rotate_left; (focus (intro w' hS'; go_simp; (try with_reducible rfl); done)); try simp only [Act.put, List.setIfInBounds_toArray, List.set_cons_zero, List.set_cons_succ])))
      refine ley_chain rfl (by rfl) (fun KK hK => ?_)
      obtain ⟨ri, hri⟩ : ∃ ri, ri = wr.drew.heap.size := ⟨_, rfl⟩
      refine wp_nums (.tmp 25) rfl (m + 1) (by omega) (by simp [Act.eval, tm]) ?_
      intro w2 hP2
      rw [← hri] at hP2 ⊢
      clear hri
      have R4 := HR2.out.fresh (star_ok gridO_ok emp_ok) hP2
      have c1 := grid_pg R4.drop
      have R5 := grid_new emp_ok hi R4
      have HR5 := hide R5
      have hrow0 : w2.cell? ⟨gg, i, none⟩ = some (.slice none 0 0) ∧ w2.frozen? ⟨gg, i, none⟩ = false := by
        have h9 := R4.drop
        unfold GridO at h9
        obtain ⟨F, hC⟩ := h9.assoc.rot.assoc.fst
        refine ⟨?_, row_free hC i (by omega)⟩
        have := row_cell hC (fv_get (fun r => if i + 1 ≤ r then Value.slice (some ⟨rb r, 0, none⟩) (m + 1) (m + 1) else .slice none 0 0) (show i < n + 1 by omega))
        rwa [if_neg (by omega)] at this
      obtain ⟨z0, z1⟩ := hrow0
      refine hK.out _ _ c1 ?_
      clear hK hP2 R4 R5 c0 c1 HR2
      (repeat (first | (refine ley_skip (by rfl) ?_; try simp only [Act.put, List.setIfInBounds_toArray, List.set_cons_zero, List.set_cons_succ]) | (refine ley_read (v := ?_) (by rfl) ?_ ?_; rotate_left; (focus (intro w' hS'; go_simp; (try with_reducible rfl); done)); try simp only [Act.put, List.setIfInBounds_toArray, List.set_cons_zero, List.set_cons_succ])))
      refine ley_last rfl (by rfl) (fun KK hK => ?_)
      go_wp2_with fail
      refine hK.out _ _ ?_
      clear hK z0 z1 tm
      have HF2 := hide (show ∀ r y, i < r → r ≤ n → y ≤ m → (if r = i then 0 else f r y) = GR c d e n m (n - r) (m - y) from fun r y h1 h2 h3 => by rw [if_neg (by omega)]; exact HF.out r y (by omega) h2 h3)
      clear HF
      go_wp2
      go_loopg [9] (m + 1) (fun g2 s9 wr => ∃ (x0 : Int) (f : Nat → Nat → Int), s9 = .int .i64 x0 ∧ x0 = (g2 : Int) - 1 ∧ g2 ≤ m + 1 ∧ Run (fun _ => False) w (star (GridO pg gg (fun a => if a = i then ri else rb a) f i n m) emp) wr ∧ (∀ r y, i < r → r ≤ n → y ≤ m → f r y = GR c d e n m (n - r) (m - y)) ∧ (∀ y, g2 ≤ y → y ≤ m → f i y = GR c d e n m (n - i) (m - y)) ∧ ∀ y, y < g2 → f i y = 0)
      case atStart => exact ⟨(m : Int), _, rfl, by omega, Nat.le_refl _, HR5.out, HF2.out, fun y h1 h2 => by omega, fun y _ => by simp⟩
      case round =>
        obtain ⟨x0, f2, rfl, hx0, hg2, hR, hf1, hf2, hf3⟩ := hrel
        have HF1 := hide hf1
        have HF3 := hide hf2
        have HF4 := hide hf3
        clear hf1 hf2 hf3 HR5 HF2
        cases gk with
        | zero =>
          have tx : ¬ 0 ≤ x0 := by omega
          have HRZ := hide hR
          have HFZ := hide (show ∀ r y, i ≤ r → r ≤ n → y ≤ m → f2 r y = GR c d e n m (n - r) (m - y) from fun r y h1 h2 h3 => by
            by_cases e : r = i
            · subst e; exact HF3.out y (Nat.zero_le _) h3
            · exact HF1.out r y (by omega) h2 h3)
          clear hx0 hR
          go_wp2
          go_roundg i
          case measure => omega
          case rel => exact ⟨(i : Int) - 1, _, f2, by go_num, rfl, by omega, HRZ.out, HFZ.out⟩
        | succ j =>
          obtain rfl : x0 = (j : Int) := by omega
          have hj : j ≤ m := by omega
          have R6 : Run (fun _ => False) w (GvO pg gg wr.heap.size (fun a => if a = i then ri else rb a) f2 i n m (-1) emp) (wr.alloc (.cells #[.int .i64 (-1)] 3)) := by
            unfold GvO
            exact (hR.fresh (star_ok gridO_ok emp_ok) (cell_new wr #[.int .i64 (-1)] 3)).rot
          have HFB := hide (show ∀ r y, i ≤ r → r ≤ n → y ≤ m → 0 ≤ f2 r y ∧ f2 r y ≤ 10000000 from fun r y h1 h2 h3 => by
            by_cases e : r = i
            · subst e
              by_cases h4 : y < j + 1
              · rw [HF4.out y h4]; omega
              · rw [HF3.out y (by omega) h3]; have := GR_bnd HQ.out (a := n - r) (b := m - y) (by omega) (by omega); omega
            · rw [HF1.out r y (by omega) h2 h3]; have := GR_bnd HQ.out (a := n - r) (b := m - y) (by omega) (by omega); omega)
          have KN := hide (nbg_any HQ.out emp_ok R6 hi hj HFB.out ca cb cg)
          have HVAL := hide (nb_val HQ.out (f := f2) (i := i) (j := j) hi hj (fun h => HF1.out (i + 1) j (by omega) (by omega) hj) (fun h => HF3.out (j + 1) (by omega) (by omega)) (fun h1 h2 => HF1.out (i + 1) (j + 1) (by omega) (by omega) (by omega)))
          generalize nb3 c f2 n m i j (nb2 e f2 m i j (nb1 d f2 n i j (-1))) = val at *
          clear hx0 hR R6
          go_wp2_with fail
          refine KN.out.mono ?_
          rintro e9 w4 ⟨rfl, hR4⟩
          have hR5 := hR4.drew (gv_ok emp_ok)
          obtain ⟨c3, -⟩ := gv_cell hR5
          unfold GvO at hR5
          have c1 := grid_pg hR5
          have c2 := grid_gg hR5 (Nat.le_refl i) hi
          have c4 := grid_at hR5 (Nat.le_refl i) hi hj
          have f4 := grid_free hR5 (Nat.le_refl i) hi j
          simp only [if_true] at c2 c4 f4
          have hR6 := hR5.rot.drop
          have hin : (i : Int) < (n : Int) + 1 := by omega
          have hjm : (j : Int) < (m : Int) + 1 := by omega
          generalize wr.heap.size = pb at *
          by_cases hv : val < 0
          · rw [if_pos hv] at HVAL
            have HR7 := hide (grid_put emp_ok hR6 (Nat.le_refl i) hi hj 0 (f' := fun a b => if a = i ∧ b = j then 0 else f2 a b) (fun _ _ => rfl))
            simp only [if_true] at HR7
            have HG1 := hide (show ∀ r y, i < r → r ≤ n → y ≤ m → (if r = i ∧ y = j then 0 else f2 r y) = GR c d e n m (n - r) (m - y) from fun r y h1 h2 h3 => by rw [if_neg (by omega)]; exact HF1.out r y h1 h2 h3)
            have HG2 := hide (show ∀ y, j ≤ y → y ≤ m → (if i = i ∧ y = j then 0 else f2 i y) = GR c d e n m (n - i) (m - y) from fun y h1 h2 => by
              by_cases e : y = j
              · subst e; rw [if_pos ⟨rfl, rfl⟩]; exact HVAL.out
              · rw [if_neg (by omega)]; exact HF3.out y (by omega) h2)
            have HG3 := hide (show ∀ y, y < j → (if i = i ∧ y = j then 0 else f2 i y) = 0 from fun y h1 => by rw [if_neg (by omega)]; exact HF4.out y (by omega))
            clear hR4 hR5 hR6 HVAL HF1 HF3 HF4 HFB KN
            go_wp2_with fail
            refine wp_region_ley (fun w' => w' = w4.drew) (by kernel_rfl) (by kernel_rfl) (by kernel_rfl) rfl ?_
            generalize w4.drew = wd at *
            (repeat (first | (refine ley_skip (by rfl) ?_; try simp only [Act.put, List.setIfInBounds_toArray, List.set_cons_zero, List.set_cons_succ]) | (refine ley_read (v := ?_) (by rfl) ?_ ?_; rotate_left; (focus (intro w' hS'; go_simp; (try with_reducible rfl); done)); try simp only [Act.put, List.setIfInBounds_toArray, List.set_cons_zero, List.set_cons_succ])))
            refine ley_last rfl (by rfl) (fun KK hK => ?_)
            go_wp2_with fail
            refine hK.out _ _ ?_
            clear hK c1 c2 c3 c4 f4
            go_wp2
            go_roundg j
            case measure => omega
            case rel => exact ⟨(j : Int) - 1, _, by go_num, rfl, by omega, HR7.out, HG1.out, fun y h1 h2 => by have := HG2.out y h1 h2; simpa using this, fun y h1 => by have := HG3.out y h1; simpa using this⟩
          · rw [if_neg hv] at HVAL
            have HR7 := hide (grid_put emp_ok hR6 (Nat.le_refl i) hi hj val (f' := fun a b => if a = i ∧ b = j then val else f2 a b) (fun _ _ => rfl))
            simp only [if_true] at HR7
            have HG1 := hide (show ∀ r y, i < r → r ≤ n → y ≤ m → (if r = i ∧ y = j then val else f2 r y) = GR c d e n m (n - r) (m - y) from fun r y h1 h2 h3 => by rw [if_neg (by omega)]; exact HF1.out r y h1 h2 h3)
            have HG2 := hide (show ∀ y, j ≤ y → y ≤ m → (if i = i ∧ y = j then val else f2 i y) = GR c d e n m (n - i) (m - y) from fun y h1 h2 => by
              by_cases e : y = j
              · subst e; rw [if_pos ⟨rfl, rfl⟩]; exact HVAL.out
              · rw [if_neg (by omega)]; exact HF3.out y (by omega) h2)
            have HG3 := hide (show ∀ y, y < j → (if i = i ∧ y = j then val else f2 i y) = 0 from fun y h1 => by rw [if_neg (by omega)]; exact HF4.out y (by omega))
            clear hR4 hR5 hR6 HVAL HF1 HF3 HF4 HFB KN
            go_wp2_with fail
            refine wp_region_ley (fun w' => w' = w4.drew) (by kernel_rfl) (by kernel_rfl) (by kernel_rfl) rfl ?_
            generalize w4.drew = wd at *
            (repeat (first | (refine ley_skip (by rfl) ?_; try simp only [Act.put, List.setIfInBounds_toArray, List.set_cons_zero, List.set_cons_succ]) | (refine ley_read (v := ?_) (by rfl) ?_ ?_; rotate_left; (focus (intro w' hS'; go_simp; (try with_reducible rfl); done)); try simp only [Act.put, List.setIfInBounds_toArray, List.set_cons_zero, List.set_cons_succ])))
            refine ley_last rfl (by rfl) (fun KK hK => ?_)
            go_wp2_with fail
            refine hK.out _ _ ?_
            clear hK c1 c2 c3 c4 f4
            go_wp2
            go_roundg j
            case measure => omega
            case rel => exact ⟨(j : Int) - 1, _, by go_num, rfl, by omega, HR7.out, HG1.out, fun y h1 h2 => by have := HG2.out y h1 h2; simpa using this, fun y h1 => by have := HG3.out y h1; simpa using this⟩
end
end Go.Proofs.Ytalbhghigdanlaa
namespace Go.CH.Asg
section
variable {c : Nat → Nat → Int} {d e : Nat → Int} {n m : Nat}
/-- Column m - b + t is the one that the next of the last a + 1 rows is paired with. -/
def otst (c : Nat → Nat → Int) (d e : Nat → Int) (n m a b t : Nat) : Bool := decide (sg t (fun x => e (m - b + x)) + c (n - (a + 1)) (m - b + t) + GR c d e n m a (b - (t + 1)) = GR c d e n m (a + 1) b)
theorem gro_hit {a b t : Nat} (ht : t < b) (hp : otst c d e n m a b t = true) (hb : ∀ u, u < t → otst c d e n m a b u = false) : gro c d e n m (a + 1) b = ((m - b + t : Nat) : Int) :: gro c d e n m a (b - (t + 1)) := by
  rw [gro]
  have := find_hit (p := fun t => decide (sg t (fun x => e (m - b + x)) + c (n - (a + 1)) (m - b + t) + GR c d e n m a (b - (t + 1)) = GR c d e n m (a + 1) b)) ht hp hb
  rw [this]
theorem gro_miss {a b : Nat} (hb : ∀ u, u < b → otst c d e n m a b u = false) : gro c d e n m (a + 1) b = (m : Int) :: gro c d e n m a b := by
  rw [gro]
  have := find_miss (m := b) (p := fun t => decide (sg t (fun x => e (m - b + x)) + c (n - (a + 1)) (m - b + t) + GR c d e n m a (b - (t + 1)) = GR c d e n m (a + 1) b)) hb
  rw [this]
end
end Go.CH.Asg
namespace Go.Proofs.Ytalbhghigdanlaa
open Go.RowKit Go.CH Go.CH.Asg
open Go.ChangeMaps (setBlock)
/-- A value that is a list of numbers. -/
def VecV (w : World) (v : Value) (l : List Int) : Prop := ∃ A c, v = .slice A l.length c ∧ Vec w A l
def ordL (C : List (List Int)) (D E : List Int) : List Int := if vld C D E then gro (cF C) (lF D) (lF E) D.length E.length D.length E.length else []
def ordK (C : List (List Int)) (D E : List Int) : Int := if vld C D E then GR (cF C) (lF D) (lF E) D.length E.length D.length E.length else 0
def errV (C : List (List Int)) (D E : List Int) : Int := if vld C D E then 0 else 1
def OrdRet (w : World) (C : List (List Int)) (D E : List Int) (e : Ending) (w' : World) : Prop :=
  ∃ v, e = .returned (.tuple #[v, .int .i64 (ordK C D E), .int .i64 (errV C D E)]) ∧ Below w.heap.size w w' ∧ VecV w' v (ordL C D E)
theorem vecO_snoc {w0 W : World} {Y : Own} {A : Option Addr} {c : Nat} {l : List Int} {x : Int} (h : Run (fun _ => False) w0 (star (RowO 3 1 (.slice A (l.length + 1) c) (l.length + 1) (ints l ++ [.int .i64 x])) Y) W) : Run (fun _ => False) w0 (star (VecO A c (l ++ [x])) Y) W := by
  rw [vec_snoc] at h; exact h
theorem split_gro {c : Nat → Nat → Int} {d e : Nat → Int} {n m a b b' : Nat} {x : Int} {ps L : List Int} (h : L = ps ++ gro c d e n m (a + 1) b) (hg : gro c d e n m (a + 1) b = x :: gro c d e n m a b') : L = (ps ++ [x]) ++ gro c d e n m a b' := by
  rw [h, hg]; simp
end Go.Proofs.Ytalbhghigdanlaa
namespace Go.Proofs.Ytalbhghigdanlaa
open Go.RowKit Go.CH Go.CH.Asg
open Go.ChangeMaps (setBlock)
set_option maxRecDepth 100000 in
set_option maxHeartbeats 12800000 in
theorem ordered_any {w : World} {A B G : Option Addr} {V : List (Option Addr × Nat)} {c d e : Nat} {C : List (List Int)} {D E : List Int} (h : Mat w A C V) (hl : C.length ≤ maxLen) (hD : Vec w B D) (hE : Vec w G E) :
    Calls Try.prog 17 #[.slice A C.length c, .slice B D.length d, .slice G E.length e] w (OrdRet w C D E) := by
  have KV := hide (valid_any (c := c) (d := d) (e := e) h hl hD hE)
  have HP := hide (fun hv => prb_of (w := w) (C := C) (D := D) (E := E) hv h hD hE)
  clear h hD hE hl
  cases hv : vld C D E with
  | false =>
    have HR := hide (show ∀ w' : World, Below w.heap.size w w' → OrdRet w C D E (.returned (.tuple #[.slice none 0 0, .int .i64 0, .int .i64 1])) w' from fun w' hb => ⟨_, by simp only [ordK, errV, hv]; rfl, hb, by simp only [ordL, hv]; exact ⟨none, 0, rfl, Src.none_⟩⟩)
    rw [hv] at KV
    clear HP hv
    go_enter Try.func17, Try.ntmps17
    go_wp2
    go_step3
    go_wp2_with fail
    refine KV.out.mono ?_
    rintro e9 w1 ⟨rfl, hb1⟩
    have HB := hide hb1
    clear hb1 KV
    go_wp2
    try rw [Exit.noGoto_ret]
    go_ret3
    exact HR.out _ HB.out
  | true =>
    rw [hv] at KV
    have hP := HP.out hv
    have hn6 := hP.n6
    have hm6 := hP.m6
    obtain ⟨nc, hnc⟩ : ∃ n, n = C.length := ⟨_, rfl⟩
    obtain ⟨n, hn⟩ : ∃ n, n = D.length := ⟨_, rfl⟩
    obtain ⟨m, hm⟩ : ∃ n, n = E.length := ⟨_, rfl⟩
    have hnn : nc = n := by rw [hnc, hn]; exact hP.hn
    have HRET := hide (show ∀ (v : Value) (w' : World), Below w.heap.size w w' → VecV w' v (gro (cF C) (lF D) (lF E) n m n m) → OrdRet w C D E (.returned (.tuple #[v, .int .i64 (GR (cF C) (lF D) (lF E) n m n m), .int .i64 0])) w' from fun v w' hb ha => ⟨v, by simp only [ordK, errV, hv, hn, hm]; rfl, hb, by simp only [ordL, hv, ← hn, ← hm]; exact ha⟩)
    rw [← hn, ← hm] at hP
    rw [← hn] at hn6
    rw [← hm] at hm6
    have HQ := hide hP.q
    rw [← hnc, ← hn, ← hm] at KV
    rw [← hnc, ← hn, ← hm]
    subst hnn
    clear HP hv hP hnc hn hm
    generalize cF C = cc at *
    generalize lF D = dd at *
    generalize lF E = ee at *
    go_enter Try.func17, Try.ntmps17
    go_wp2
    go_step3
    go_wp2_with fail
    refine KV.out.mono ?_
    rintro e9 w1 ⟨rfl, hb1⟩
    have HB1 := hide hb1
    have KG := hide (grid_any (HQ.out.below hb1) c d e)
    clear hb1 KV
    go_wp2_with fail
    refine KG.out.mono ?_
    rintro e9 w2 ⟨pg, gg, rb, f, rfl, hR2, hf⟩
    have HF := hide hf
    have hR3 : Run (fun _ => False) w (star (VecO none 0 []) (GridO pg gg rb f 0 nc m)) w2 := by
      have h2 := ((Run.begin w).below emp_ok HB1.out).fresh emp_ok ((hR2.imp fun _ _ h => star_emp h).post gridO_ok)
      exact (h2.imp fun _ _ h => star_emp h).imp fun W F hh => ⟨fun _ => False, F, vec_nil W, hh, fun _ h => h.elim, fun i => by simp⟩
    have HR3 := hide hR3
    clear KG hR2 hf hR3
    go_wp2
    go_step3
    go_wp2
    go_loopg [10, 11, 27] nc (fun g1 p s i wr => ∃ (k fr : Nat) (A1 : Option Addr) (c1 : Nat) (ps : List Int), k + g1 = nc ∧ fr ≤ m ∧ p = .slice A1 ps.length c1 ∧ s = .int .i64 fr ∧ i = .int .i64 k ∧ ps.length = k ∧ gro cc dd ee nc m nc m = ps ++ gro cc dd ee nc m (nc - k) (m - fr) ∧ Run (fun _ => False) w (star (VecO A1 c1 ps) (GridO pg gg rb f 0 nc m)) wr)
    case atStart => exact ⟨0, 0, none, 0, [], Nat.zero_add _, Nat.zero_le _, rfl, rfl, rfl, rfl, rfl, HR3.out⟩
    case round =>
      obtain ⟨k, fr, A1, c1, ps, hg1, hfr, rfl, rfl, rfl, hpl, hg, hR⟩ := hrel
      have HR := hide hR
      have HPL := hide hpl
      have HG := hide hg
      clear hR hpl hg HR3
      cases gk with
      | succ g1 =>
        have hlt : k < nc := by omega
        obtain ⟨a, ha⟩ : ∃ a, nc = a + 1 + k := ⟨nc - k - 1, by omega⟩
        have hnk : nc - k = a + 1 := by omega
        have hna : nc - (a + 1) = k := by omega
        have hnk1 : nc - (k + 1) = a := by omega
        rw [hnk] at HG
        have hmb : m - (m - fr) = fr := by omega
        have HHIT := hide (fun (t : Nat) ht hp hb => gro_hit (c := cc) (d := dd) (e := ee) (n := nc) (m := m) (a := a) (b := m - fr) (t := t) ht hp hb)
        have HMISS := hide (fun hb => gro_miss (c := cc) (d := dd) (e := ee) (n := nc) (m := m) (a := a) (b := m - fr) hb)
        have HTST := hide (fun (t : Nat) => show otst cc dd ee nc m a (m - fr) t = decide (sg t (fun x => ee (fr + x)) + cc k (fr + t) + GR cc dd ee nc m a (m - fr - (t + 1)) = GR cc dd ee nc m (a + 1) (m - fr)) by unfold otst; rw [hna, hmb])
        rw [hmb] at HHIT
        have HF0 := hide (show f k fr = GR cc dd ee nc m (a + 1) (m - fr) by rw [HF.out k fr (by omega) hfr, hnk])
        have HF1 := hide (show ∀ j, j < m → f (k + 1) (j + 1) = GR cc dd ee nc m a (m - (j + 1)) from fun j hj => by rw [HF.out (k + 1) (j + 1) (by omega) (by omega), hnk1])
        have HB0 := hide (GR_bnd HQ.out (a := a + 1) (b := m - fr) (by omega) (by omega))
        have HB2 := hide (fun j => GR_bnd HQ.out (a := a) (b := m - (j + 1)) (by omega) (by omega))
        have HNK := hide (show nc - (k + 1) = a from hnk1)
        have ha6 : a ≤ 6 := by omega
        clear hnk hna hnk1 hmb ha
        obtain ⟨ba, oa, RR, cR, rfl, hca, hrow⟩ := HQ.out.R k hlt
        have HROWS := hide hrow
        have c0 := hca _ HR.out.bel
        clear hca hrow
        go_wp2
        go_loopg [10, 11, 14, 15] (m - fr) (fun g2 p s q x wr => ∃ t : Nat, fr + t + g2 = m ∧ p = .slice A1 ps.length c1 ∧ s = .int .i64 fr ∧ q = .int .i64 (sg t (fun x => ee (fr + x))) ∧ x = .int .i64 ((fr + t : Nat) : Int) ∧ (∀ u, u < t → otst cc dd ee nc m a (m - fr) u = false) ∧ Run (fun _ => False) w (star (VecO A1 c1 ps) (GridO pg gg rb f 0 nc m)) wr)
        case atStart => exact ⟨0, by omega, rfl, rfl, rfl, rfl, fun t ht => absurd ht (Nat.not_lt_zero t), HR.out⟩
        case round =>
          obtain ⟨t, hg2, rfl, rfl, rfl, rfl, hno, hR⟩ := hrel
          have HNO := hide hno
          have HRI := hide hR
          clear HR hR hno c0
          have HSB := hide (sg_bnd (n := t) (f := fun x => ee (fr + x)) (a := 0) (b := 10000) (fun x hx => HQ.out.eb (fr + x) (by omega)))
          cases gk with
          | succ g2 =>
            obtain ⟨j, hj⟩ : ∃ j, j = fr + t := ⟨_, rfl⟩
            have hjt : j < m := by omega
            obtain ⟨b', o', rfl, hcc⟩ := HROWS.out j hjt
            have hcb := HQ.out.cb k hlt j hjt
            obtain ⟨be, oe, rfl, hce⟩ := HQ.out.E j hjt
            have heb := HQ.out.eb j hjt
            have hRD := HRI.out.drew (star_ok vec_ok gridO_ok)
            have HRD := hide hRD
            have c5 := hcc _ hRD.bel
            have c6 := hce _ hRD.bel
            have hGD := hRD.swap
            have k1 := grid_gg hGD (r := k + 1) (Nat.zero_le _) (by omega)
            have k2 := grid_gg hGD (r := k) (Nat.zero_le _) (by omega)
            have k3 := grid_at hGD (r := k + 1) (y := j + 1) (Nat.zero_le _) (by omega) (by omega)
            have k4 := grid_at hGD (r := k) (y := fr) (Nat.zero_le _) (by omega) hfr
            rw [HF1.out j hjt] at k3
            rw [HF0.out] at k4
            have HT1 := hide (HTST.out t)
            have hs1 := HSB.out
            have HS := hide (sg_succ (n := t) (f := fun x => ee (fr + x)))
            have hb2 := HB2.out j
            have hb0 := HB0.out
            rw [show m - fr - (t + 1) = m - (j + 1) by omega, ← hj] at HT1
            rw [← hj] at HS ⊢
            generalize sg t (fun x => ee (fr + x)) = ss at *
            generalize GR cc dd ee nc m a (m - (j + 1)) = T1 at *
            generalize GR cc dd ee nc m (a + 1) (m - fr) = T0 at *
            have ht6 : (t : Int) ≤ 6 := by omega
            have t1 : IntKind.i64.wrap ((k : Int) + 1) = ((k + 1 : Nat) : Int) := by rw [IntWalk.i64_in _ (by omega)]; omega
            have t1' : IntKind.i64.wrap ((j : Int) + 1) = ((j + 1 : Nat) : Int) := by rw [IntWalk.i64_in _ (by omega)]; omega
            have t2 : IntKind.i64.wrap (ss + cc k j) = ss + cc k j := IntWalk.i64_in _ (by omega)
            have t3 : IntKind.i64.wrap (ss + cc k j + T1) = ss + cc k j + T1 := IntWalk.i64_in _ (by omega)
            have ti : (0 : Int) ≤ (k : Int) + 1 := by omega
            have ti2 : (k : Int) < (nc : Int) + 1 := by omega
            have ti3 : (0 : Int) ≤ (j : Int) + 1 := by omega
            have ti4 : (fr : Int) < (m : Int) + 1 := by omega
            clear hcc hce hRD hGD HRI HSB
            by_cases heq : ss + cc k j + T1 = T0
            · have HH := HHIT.out t (by omega) (by rw [HT1.out]; simp [heq]) HNO.out
              rw [show m - fr - (t + 1) = m - (j + 1) by omega, ← hj] at HH
              have HG2 := hide (split_gro HG.out HH)
              rw [← HNK.out] at HG2
              have t4 : (ss + cc k j + T1 == T0) = true := by simpa using heq
              have t5 : IntKind.i64.wrap T0 = T0 := IntWalk.i64_in _ (by omega)
              clear HH HT1 hs1 hb2 hb0 hj
              go_wp2_with fail
              refine wp_region_lex (fun w' => w' = wr.drew) (by kernel_rfl) (by kernel_rfl) rfl ?_
              generalize wr.drew = wx at *
              (repeat (first | (refine lex_skip (by rfl) ?_; try simp only [Act.put, List.setIfInBounds_toArray, List.set_cons_zero, List.set_cons_succ]) | (refine lex_read (v := ?_) (by rfl) ?_ ?_; rotate_left; (focus (intro w' hS'; go_simp; (try with_reducible rfl); done)); try simp only [Act.put, List.setIfInBounds_toArray, List.set_cons_zero, List.set_cons_succ])))
              refine lex_nil ?_
              have HRB := hide HRD.out
              clear t1 t1' t2 t3 t4 t5 ti ti2 ti3 ti4 k1 k2 k3 k4 heq c5 c6 HRD HNO HS
              go_wp2_with (at_builtin; refine held ?_)
              obtain ⟨F7, hR7, -, bk7⟩ := (HRB.out.below (star_ok vec_ok gridO_ok) ((Below.refl _ _).alloc (Nat.le_refl _) (.cells #[.int .i64 j] 3))).take vec_ok gridO_ok
              refine Held.mk (wpList_app rfl (.tmp 63) (.tmp 65) rfl intsOk _ 0 (v := .slice A1 ps.length c1) (n := ps.length) (xs := ints ps) rfl hR7.1 (A := some ⟨wx.heap.size, 0, none⟩) (m := 1) (c := 1) (news := [.int .i64 j]) rfl (src_lit wx j) (by rw [HPL.out]; omega) (by decide) (Nat.zero_le _) ?_)
              intro v8 w8 ho8 hg8 hv8
              have S8 := bk7 _ _ (row_app hR7 ho8 hg8 hv8)
              obtain ⟨A8, c8, rfl⟩ := own_form ho8
              have S9 := hide (vecO_snoc S8)
              have HLN := hide (show ps.length + 1 = (ps ++ [((j : Nat) : Int)]).length by simp)
              clear ho8 hg8 hv8 bk7 hR7 HRB S8
              go_wp2
              go_roundg g1
              case measure => omega
              case rel => exact ⟨k + 1, j + 1, A8, c8, ps ++ [((j : Nat) : Int)], by omega, by omega, by rw [HLN.out], by go_num, by go_num, by rw [List.length_append, HPL.out]; rfl, HG2.out, S9.out⟩
            · have HNO2 := hide (show ∀ u, u < t + 1 → otst cc dd ee nc m a (m - fr) u = false from fun u hu => by
                by_cases e : u = t
                · subst e; rw [HT1.out]; simp [heq]
                · exact HNO.out u (by omega))
              have t4 : (ss + cc k j + T1 == T0) = false := by simpa using heq
              have HJ := hide hj
              clear HT1 heq hb2 hb0 hj
              go_wp2_with fail
              refine wp_region_lex (fun w' => w' = wr.drew) (by kernel_rfl) (by kernel_rfl) rfl ?_
              generalize wr.drew = wd at *
              (repeat (first | (refine lex_skip (by rfl) ?_; try simp only [Act.put, List.setIfInBounds_toArray, List.set_cons_zero, List.set_cons_succ]) | (refine lex_read (v := ?_) (by rfl) ?_ ?_; rotate_left; (focus (intro w' hS'; go_simp; (try with_reducible rfl); done)); try simp only [Act.put, List.setIfInBounds_toArray, List.set_cons_zero, List.set_cons_succ])))
              refine lex_nil ?_
              clear t1 t1' t2 t3 t4 ti ti2 ti3 ti4 k1 k2 k3 k4 c5
              go_wp2
              go_roundg g2
              case measure => omega
              case rel => exact ⟨t + 1, by omega, rfl, rfl, by rw [HS.out]; try go_num, by rw [HJ.out]; go_num, HNO2.out, HRD.out⟩
          | zero =>
            obtain ⟨j, hj⟩ : ∃ j, j = fr + t := ⟨_, rfl⟩
            obtain rfl : j = m := by omega
            have HH := HMISS.out (fun u hu => HNO.out u (by omega))
            have HG2 := hide (split_gro HG.out HH)
            rw [← HNK.out] at HG2
            have HRB := hide HRI.out
            rw [← hj]
            generalize wr = wx at *
            clear HH HRI HNO hj HSB
            go_wp2_with (at_builtin; refine held ?_)
            obtain ⟨F7, hR7, -, bk7⟩ := (HRB.out.below (star_ok vec_ok gridO_ok) ((Below.refl _ _).alloc (Nat.le_refl _) (.cells #[.int .i64 j] 3))).take vec_ok gridO_ok
            refine Held.mk (wpList_app rfl (.tmp 75) (.tmp 78) rfl intsOk _ 0 (v := .slice A1 ps.length c1) (n := ps.length) (xs := ints ps) rfl hR7.1 (A := some ⟨wx.heap.size, 0, none⟩) (m := 1) (c := 1) (news := [.int .i64 j]) rfl (src_lit wx j) (by rw [HPL.out]; omega) (by decide) (Nat.zero_le _) ?_)
            intro v8 w8 ho8 hg8 hv8
            have S8 := bk7 _ _ (row_app hR7 ho8 hg8 hv8)
            obtain ⟨A8, c8, rfl⟩ := own_form ho8
            have S9 := hide (vecO_snoc S8)
            have HLN := hide (show ps.length + 1 = (ps ++ [((j : Nat) : Int)]).length by simp)
            clear ho8 hg8 hv8 bk7 hR7 HRB S8
            go_wp2
            go_roundg g1
            case measure => omega
            case rel => exact ⟨k + 1, fr, A8, c8, ps ++ [((j : Nat) : Int)], by omega, by omega, by rw [HLN.out], by go_num, by go_num, by rw [List.length_append, HPL.out]; rfl, HG2.out, S9.out⟩
      | zero =>
        obtain rfl : k = nc := by omega
        have HPS := hide (show gro cc dd ee k m k m = ps by rw [HG.out, Nat.sub_self]; exact List.append_nil ps)
        have hRD := HR.out.drew (star_ok vec_ok gridO_ok)
        have HRD := hide hRD
        have k2 := grid_gg hRD.swap (r := 0) (Nat.zero_le _) (Nat.zero_le _)
        have k4 := grid_at hRD.swap (r := 0) (y := 0) (Nat.zero_le _) (Nat.zero_le _) (Nat.zero_le _)
        rw [HF.out 0 0 (Nat.zero_le _) (Nat.zero_le _), Nat.sub_zero, Nat.sub_zero] at k4
        have ti2 : (0 : Int) < (k : Int) + 1 := by omega
        have ti4 : (0 : Int) < (m : Int) + 1 := by omega
        clear HG hg1 hRD HR
        go_wp2_with fail
        refine wp_region_lex (fun w' => w' = wr.drew) (by kernel_rfl) (by kernel_rfl) rfl ?_
        generalize wr.drew = wd at *
        (repeat (first | (refine lex_skip (by rfl) ?_; try simp only [Act.put, List.setIfInBounds_toArray, List.set_cons_zero, List.set_cons_succ]) | (refine lex_read (v := ?_) (by rfl) ?_ ?_; rotate_left; (focus (intro w' hS'; go_simp; (try with_reducible rfl); done)); try simp only [Act.put, List.setIfInBounds_toArray, List.set_cons_zero, List.set_cons_succ])))
        refine lex_nil ?_
        clear k2 k4 ti2 ti4
        go_wp2
        try rw [Exit.noGoto_ret]
        go_ret3
        refine HRET.out _ _ HRD.out.bel ?_
        rw [HPS.out]
        obtain ⟨F, hV⟩ := HRD.out.fst
        exact ⟨A1, c1, rfl, vec_vec hV⟩
end Go.Proofs.Ytalbhghigdanlaa
namespace Go.Proofs.Ytalbhghigdanlaa
open Go.RowKit Go.CH Go.CH.Asg
open Go.ChangeMaps (setBlock)
/-- The numbers of the positions. -/
def griR (c : Nat → Nat → Int) (d e : Nat → Int) (n m : Nat) : List (List Int) := (List.range (n + 1)).map fun r => (List.range (m + 1)).map fun y => GR c d e n m (n - r) (m - y)
def gri (c : Nat → Nat → Int) (d e : Nat → Int) (n m : Nat) : List Int := (griR c d e n m).flatten
theorem flat_len {n m : Nat} (f : Nat → Nat → Int) : (((List.range n).map fun r => (List.range m).map fun y => f r y).flatten).length = n * m := by
  induction n with
  | zero => simp
  | succ n ih => rw [List.range_succ, List.map_append, List.flatten_append, List.length_append, ih]; simp [Nat.succ_mul]
theorem gri_len {c : Nat → Nat → Int} {d e : Nat → Int} {n m : Nat} : (gri c d e n m).length = (n + 1) * (m + 1) := flat_len _
theorem flat_get {n m : Nat} (f : Nat → Nat → Int) {i j : Nat} (hi : i < n) (hj : j < m) : (((List.range n).map fun r => (List.range m).map fun y => f r y).flatten)[i * m + j]? = some (f i j) := by
  induction n with
  | zero => omega
  | succ n ih =>
    rw [List.range_succ, List.map_append, List.flatten_append]
    by_cases h : i < n
    · rw [List.getElem?_append_left (by rw [flat_len]; have : (i + 1) * m ≤ n * m := Nat.mul_le_mul_right m h; rw [Nat.succ_mul] at this; omega)]
      exact ih h
    · obtain rfl : i = n := by omega
      rw [List.getElem?_append_right (by rw [flat_len]; omega), flat_len, Nat.add_sub_cancel_left]
      simp [hj]
theorem gri_get {c : Nat → Nat → Int} {d e : Nat → Int} {n m i j : Nat} (hi : i ≤ n) (hj : j ≤ m) : (gri c d e n m)[i * (m + 1) + j]? = some (GR c d e n m (n - i) (m - j)) := flat_get _ (by omega) (by omega)
theorem fla_ints (R : List (List Int)) : fla (R.map ints) = ints R.flatten := by
  unfold fla ints
  rw [List.map_flatten]
theorem gridX {w W : World} {pg gg : Nat} {rb : Nat → Nat} {f : Nat → Nat → Int} {c : Nat → Nat → Int} {d e : Nat → Int} {n m : Nat} (h : Run (fun _ => False) w (star (GridO pg gg rb f 0 n m) emp) W) (hf : ∀ r y, r ≤ n → y ≤ m → f r y = GR c d e n m (n - r) (m - y)) :
    MatX W (some ⟨gg, 0, none⟩) ((griR c d e n m).map ints) ((List.range (n + 1)).map fun r => (some ⟨rb r, 0, none⟩, m + 1)) where
  len := by simp [griR]
  src := by
    unfold GridO at h
    obtain ⟨F, hC⟩ := h.assoc.rot.assoc.fst
    have h1 := row_src hC (by
      intro u hu
      obtain ⟨r, _, rfl⟩ := List.mem_map.1 hu
      simp only [Nat.zero_le, if_true]; rfl)
    have e1 : ((griR c d e n m).map ints).length = n + 1 := by simp [griR]
    rw [e1]
    have e2 : (((List.range (n + 1)).map fun r => ((some ⟨rb r, 0, none⟩ : Option Addr), m + 1)).mapIdx fun i x => Value.slice x.1 (((griR c d e n m).map ints).getD i []).length x.2) = fv (n + 1) fun r => if 0 ≤ r then .slice (some ⟨rb r, 0, none⟩) (m + 1) (m + 1) else .slice none 0 0 := by
      apply List.ext_getElem?
      intro i
      rw [List.getElem?_mapIdx]
      by_cases hi : i < n + 1
      · rw [fv_get _ hi]
        simp [griR, List.getD_eq_getElem?_getD, hi, ints]
      · rw [List.getElem?_eq_none (l := fv _ _) (by rw [fv_len]; omega), List.getElem?_eq_none (by simp; omega)]; rfl
    rw [e2]; exact h1
  row := fun i hi x hx => by
    have hi' : i < n + 1 := by simpa [griR] using hi
    obtain ⟨F, hN⟩ := (grid_out h (r := i) (Nat.zero_le _) (by omega)).fst
    have hx2 : x = (some ⟨rb i, 0, none⟩, m + 1) := by
      rw [List.getElem?_map, List.getElem?_range hi'] at hx
      simpa using hx.symm
    subst hx2
    have h1 := row_src hN (by
      intro u hu
      obtain ⟨r, _, rfl⟩ := List.mem_map.1 hu
      rfl)
    have e1 : ((griR c d e n m).map ints)[i] = fv (m + 1) fun y => .int .i64 (f i y) := by
      rw [List.getElem_map]
      unfold griR
      rw [List.getElem_map, List.getElem_range]
      unfold ints
      rw [List.map_map]
      exact fv_congr (fun y hy => by show Value.int .i64 _ = _; rw [hf i y (by omega) (by omega)])
    have e2 : ((griR c d e n m).map ints)[i].length = m + 1 := by rw [e1, fv_len]
    rw [e2, e1]
    exact h1
def griL (C : List (List Int)) (D E : List Int) : List Int := if vld C D E then gri (cF C) (lF D) (lF E) D.length E.length else []
def GriRet (w : World) (C : List (List Int)) (D E : List Int) (en : Ending) (w' : World) : Prop :=
  ∃ v, en = .returned (.tuple #[v, .int .i64 (errV C D E)]) ∧ Below w.heap.size w w' ∧ VecV w' v (griL C D E)
set_option maxRecDepth 100000 in
set_option maxHeartbeats 3200000 in
theorem gridf_any {w : World} {A B G : Option Addr} {V : List (Option Addr × Nat)} {c d e : Nat} {C : List (List Int)} {D E : List Int} (h : Mat w A C V) (hl : C.length ≤ maxLen) (hD : Vec w B D) (hE : Vec w G E) :
    Calls Try.prog 20 #[.slice A C.length c, .slice B D.length d, .slice G E.length e] w (GriRet w C D E) := by
  have KV := hide (valid_any (c := c) (d := d) (e := e) h hl hD hE)
  have HP := hide (fun hv => prb_of (w := w) (C := C) (D := D) (E := E) hv h hD hE)
  clear h hD hE hl
  cases hv : vld C D E with
  | false =>
    have HR := hide (show ∀ w' : World, Below w.heap.size w w' → GriRet w C D E (.returned (.tuple #[.slice none 0 0, .int .i64 1])) w' from fun w' hb => ⟨_, by simp only [errV, hv]; rfl, hb, by simp only [griL, hv]; exact ⟨none, 0, rfl, Src.none_⟩⟩)
    rw [hv] at KV
    clear HP hv
    go_enter Try.func20, Try.ntmps20
    go_wp2_with fail
    refine KV.out.mono ?_
    rintro e9 w1 ⟨rfl, hb1⟩
    have HB := hide hb1
    clear hb1 KV
    go_wp2
    try rw [Exit.noGoto_ret]
    go_ret2
    exact HR.out _ HB.out
  | true =>
    rw [hv] at KV
    have hP := HP.out hv
    have hn6 := hP.n6
    have hm6 := hP.m6
    obtain ⟨nc, hnc⟩ : ∃ n, n = C.length := ⟨_, rfl⟩
    obtain ⟨n, hn⟩ : ∃ n, n = D.length := ⟨_, rfl⟩
    obtain ⟨m, hm⟩ : ∃ n, n = E.length := ⟨_, rfl⟩
    have hnn : nc = n := by rw [hnc, hn]; exact hP.hn
    have HRET := hide (show ∀ (v : Value) (w' : World), Below w.heap.size w w' → VecV w' v (gri (cF C) (lF D) (lF E) n m) → GriRet w C D E (.returned (.tuple #[v, .int .i64 0])) w' from fun v w' hb ha => ⟨v, by simp only [errV, hv]; rfl, hb, by simp only [griL, hv, ← hn, ← hm]; exact ha⟩)
    rw [← hn, ← hm] at hP
    rw [← hn] at hn6
    rw [← hm] at hm6
    have HQ := hide hP.q
    rw [← hnc, ← hn, ← hm] at KV
    rw [← hnc, ← hn, ← hm]
    subst hnn
    clear HP hv hP hnc hn hm
    generalize cF C = cc at *
    generalize lF D = dd at *
    generalize lF E = ee at *
    go_enter Try.func20, Try.ntmps20
    go_wp2_with fail
    refine KV.out.mono ?_
    rintro e9 w1 ⟨rfl, hb1⟩
    have HB1 := hide hb1
    have KG := hide (grid_any (HQ.out.below hb1) c d e)
    clear hb1 KV
    go_wp2_with fail
    refine KG.out.mono ?_
    rintro e9 w2 ⟨pg, gg, rb, f, rfl, hR2, hf⟩
    have hX := gridX hR2 hf
    have hb2 := hide (bel_trans HB1.out hR2.bel)
    have e1 : ((griR cc dd ee nc m).map ints).length = nc + 1 := by simp [griR]
    have e2 : (fla ((griR cc dd ee nc m).map ints)) = ints (gri cc dd ee nc m) := fla_ints _
    have e3 : (ints (gri cc dd ee nc m)).length = (gri cc dd ee nc m).length := ints_len _
    have e4 : (gri cc dd ee nc m).length ≤ 1000 := by
      rw [gri_len]
      have : (nc + 1) * (m + 1) ≤ 7 * 7 := Nat.mul_le_mul (by omega) (by omega)
      omega
    have KC := hide (concatI_any (c := nc + 1) hX (by rw [e1]; omega) (by rw [e2, e3]; exact e4))
    rw [e1, e2, e3] at KC
    clear KG hR2 hf hX e1 e2 e3 e4 HQ HB1
    go_wp2_with fail
    refine KC.out.mono ?_
    rintro e9 w3 ⟨A3, c3, rfl, hP3⟩
    have HB3 := hide (bel_trans hb2.out ((Run.begin w2).fresh emp_ok hP3).bel)
    have HV3 := hide (show VecV w3 (.slice A3 (gri cc dd ee nc m).length c3) (gri cc dd ee nc m) from by
      obtain ⟨F, hF, -⟩ := hP3
      exact ⟨A3, c3, rfl, row_src hF (ints_one _)⟩)
    clear hP3 KC hb2
    go_wp2
    try rw [Exit.noGoto_ret]
    go_ret2
    exact HRET.out _ _ HB3.out HV3.out
end Go.Proofs.Ytalbhghigdanlaa
namespace Go.Proofs.Ytalbhghigdanlaa
open Go.RowKit Go.CH Go.CH.Asg
open Go.ChangeMaps (setBlock)

section
variable {w0 W : World} {X : Own} {po pn pl pw cl : Nat} {LA : Option Addr} {L : List Int} {n m : Nat} {z : Int}
/-- What the closure works on. -/
def GbO (po pn pl pw : Nat) (LA : Option Addr) (cl len m : Nat) (z : Int) (b : Bool) (X : Own) : Own :=
  star (CellO po #[.bool b] 4) (star (CellO pn #[.int .i64 z] 3) (star (CellO pl #[.slice LA len cl] 23) (star (CellO pw #[.int .i64 ((m : Int) + 1)] 3) X)))
def GbRet (w0 : World) (po pn pl pw : Nat) (LA : Option Addr) (cl len m : Nat) (z : Int) (b : Bool) (X : Own) (e : Ending) (w' : World) : Prop := e = .returned (.tuple #[]) ∧ Run (fun _ => False) w0 (GbO po pn pl pw LA cl len m z b X) w'
theorem gb_ok {b : Bool} {len : Nat} (hX : X.Ok) : (GbO po pn pl pw LA cl len m z b X).Ok := star_ok cell_ok (star_ok cell_ok (star_ok cell_ok (star_ok cell_ok hX)))
theorem gb_cells {b : Bool} {len : Nat} (h : Run (fun _ => False) w0 (GbO po pn pl pw LA cl len m z b X) W) :
    W.cell? ⟨po, 0, none⟩ = some (.bool b) ∧ W.frozen? ⟨po, 0, none⟩ = false ∧ W.cell? ⟨pn, 0, none⟩ = some (.int .i64 z) ∧ W.cell? ⟨pl, 0, none⟩ = some (.slice LA len cl) ∧ W.cell? ⟨pw, 0, none⟩ = some (.int .i64 ((m : Int) + 1)) := by
  unfold GbO at h
  obtain ⟨F, hC⟩ := h.fst
  obtain ⟨F2, hC2⟩ := h.drop.fst
  obtain ⟨F3, hC3⟩ := h.drop.drop.fst
  obtain ⟨F4, hC4⟩ := h.drop.drop.drop.fst
  exact ⟨cell_at hC rfl, cell_free hC 0, cell_at hC2 rfl, cell_at hC3 rfl, cell_at hC4 rfl⟩
theorem gb_put {b : Bool} {len : Nat} (hX : X.Ok) (h : Run (fun _ => False) w0 (GbO po pn pl pw LA cl len m z b X) W) (v : Bool) : Run (fun _ => False) w0 (GbO po pn pl pw LA cl len m z v X) (W.setCell ⟨po, 0, none⟩ (.bool v)) := by
  unfold GbO at *
  exact cell_put (star_ok cell_ok (star_ok cell_ok (star_ok cell_ok hX))) h 0 (.bool v) rfl
set_option maxHeartbeats 3200000 in
theorem gbv_any {b : Bool} {q : Int} {x y : Nat} (hX : X.Ok) (h : Run (fun _ => False) w0 (GbO po pn pl pw LA cl L.length m z b X) W) (hL : Vec w0 LA L) (hlen : L.length = (n + 1) * (m + 1)) (hx2 : x ≤ n) (hy : y ≤ m) (hn : n ≤ 7) (hm : m ≤ 6) (hq : 0 ≤ q ∧ q ≤ 100000) (hf : ∀ i, i < L.length → -1000000 ≤ lF L i ∧ lF L i ≤ 1000000) :
    Calls Try.prog 39 #[.int .i64 (x : Int), .int .i64 (y : Int), .int .i64 q, .pointer (some ⟨po, 0, none⟩), .pointer (some ⟨pn, 0, none⟩), .pointer (some ⟨pl, 0, none⟩), .pointer (some ⟨pw, 0, none⟩)] W (GbRet w0 po pn pl pw LA cl L.length m z (b && decide (z ≤ q + lF L (x * (m + 1) + y))) X) := by
  have hR := h.drew (gb_ok hX)
  have HP := hide (gb_put hX hR)
  obtain ⟨c1, f1, c2, c3, c4⟩ := gb_cells hR
  have hxm : x * (m + 1) ≤ n * (m + 1) := Nat.mul_le_mul_right _ hx2
  rw [Nat.succ_mul] at hlen
  obtain ⟨a, ha⟩ : ∃ a, a = x * (m + 1) := ⟨_, rfl⟩
  have ha2 : (x : Int) * ((m : Int) + 1) = (a : Int) := by rw [ha]; push_cast; rfl
  rw [← ha] at hxm ⊢
  obtain ⟨s, hs⟩ : ∃ s, s = a + y := ⟨_, rfl⟩
  have hsl : s < L.length := by omega
  have hbs := hf s hsl
  have ha36 : a ≤ 49 := by
    have : n * (m + 1) ≤ 7 * 7 := Nat.mul_le_mul (by omega) (by omega)
    omega
  obtain ⟨bl, ol, rfl, hcl⟩ := vec_F hL rfl hsl
  have c5 := hcl _ hR.bel
  have t1 : IntKind.i64.wrap ((x : Int) * ((m : Int) + 1)) = (a : Int) := by rw [ha2]; exact IntWalk.i64_in _ (by omega)
  have t2 : IntKind.i64.wrap ((a : Int) + (y : Int)) = (s : Int) := by rw [IntWalk.i64_in _ (by omega)]; omega
  have t3 : IntKind.i64.wrap (q + lF L s) = q + lF L s := IntWalk.i64_in _ (by omega)
  rw [← hs]
  have hsi : (s : Int) < ((L.length : Nat) : Int) := by omega
  generalize lF L s = v at *
  generalize L.length = len at *
  clear h hR hL hf hcl ha ha2 hxm hs hlen
  cases b with
  | false =>
    go_enter Try.func39, Try.ntmps39
    go_wp2_with fail
    refine wp_region_ley (fun w' => w' = W.drew) (by kernel_rfl) (by kernel_rfl) (by kernel_rfl) rfl ?_
    generalize W.drew = wd at *
    (repeat (first | (refine ley_skip (by rfl) ?_; try simp only [Act.put, List.setIfInBounds_toArray, List.set_cons_zero, List.set_cons_succ]) | (refine ley_read (v := ?_) (by rfl) ?_ ?_; rotate_left; (focus (intro w' hS'; go_simp; (try with_reducible rfl); done)); try simp only [Act.put, List.setIfInBounds_toArray, List.set_cons_zero, List.set_cons_succ])))
    refine ley_last rfl (by rfl) (fun KK hK => ?_)
    go_wp2_with fail
    refine hK.out _ _ ?_
    clear hK
    go_wp2
    go_end0
    exact ⟨rfl, HP.out _⟩
  | true =>
    by_cases hz : z ≤ q + v
    · have td : decide (z ≤ q + v) = true := decide_eq_true hz
      rw [td]
      go_enter Try.func39, Try.ntmps39
      go_wp2_with fail
      refine wp_region_ley (fun w' => w' = W.drew) (by kernel_rfl) (by kernel_rfl) (by kernel_rfl) rfl ?_
      generalize W.drew = wd at *
      (repeat (first | (refine ley_skip (by rfl) ?_; try simp only [Act.put, List.setIfInBounds_toArray, List.set_cons_zero, List.set_cons_succ]) | (refine ley_read (v := ?_) (by rfl) ?_ ?_; rotate_left; (focus (intro w' hS'; go_simp; (try with_reducible rfl); done)); try simp only [Act.put, List.setIfInBounds_toArray, List.set_cons_zero, List.set_cons_succ])))
      refine ley_last rfl (by rfl) (fun KK hK => ?_)
      go_wp2_with fail
      refine hK.out _ _ ?_
      clear hK
      go_wp2
      go_end0
      exact ⟨rfl, HP.out _⟩
    · have td : decide (z ≤ q + v) = false := decide_eq_false hz
      rw [td]
      go_enter Try.func39, Try.ntmps39
      go_wp2_with fail
      refine wp_region_ley (fun w' => w' = W.drew) (by kernel_rfl) (by kernel_rfl) (by kernel_rfl) rfl ?_
      generalize W.drew = wd at *
      (repeat (first | (refine ley_skip (by rfl) ?_; try simp only [Act.put, List.setIfInBounds_toArray, List.set_cons_zero, List.set_cons_succ]) | (refine ley_read (v := ?_) (by rfl) ?_ ?_; rotate_left; (focus (intro w' hS'; go_simp; (try with_reducible rfl); done)); try simp only [Act.put, List.setIfInBounds_toArray, List.set_cons_zero, List.set_cons_succ])))
      refine ley_last rfl (by rfl) (fun KK hK => ?_)
      go_wp2_with fail
      refine hK.out _ _ ?_
      clear hK
      go_wp2
      go_end0
      exact ⟨rfl, HP.out _⟩
end
end Go.Proofs.Ytalbhghigdanlaa
namespace Go.Proofs.Ytalbhghigdanlaa
open Go.RowKit Go.CH Go.CH.Asg
open Go.ChangeMaps (setBlock)
/-- No neighbour proves the position wrong. -/
def hb1 (d : Nat → Int) (L : List Int) (n m i j : Nat) (z : Int) (b : Bool) : Bool := if i < n then b && decide (z ≤ d i + lF L ((i + 1) * (m + 1) + j)) else b
def hb2 (e : Nat → Int) (L : List Int) (m i j : Nat) (z : Int) (b : Bool) : Bool := if j < m then b && decide (z ≤ e j + lF L (i * (m + 1) + (j + 1))) else b
def hb3 (c : Nat → Nat → Int) (L : List Int) (n m i j : Nat) (z : Int) (b : Bool) : Bool := if i < n ∧ j < m then b && decide (z ≤ c i j + lF L ((i + 1) * (m + 1) + (j + 1))) else b
section
variable {w0 W : World} {X : Own} {po pn pl pw cl : Nat} {LA : Option Addr} {L : List Int} {A B G : Option Addr} {c : Nat → Nat → Int} {d e : Nat → Int} {n m : Nat} {z : Int}
set_option maxHeartbeats 3200000 in
theorem nbb_any {b : Bool} {i j : Nat} (hq : Prq w0 A B G c d e n m) (hX : X.Ok) (h : Run (fun _ => False) w0 (GbO po pn pl pw LA cl L.length m z b X) W) (hL : Vec w0 LA L) (hlen : L.length = (n + 1) * (m + 1)) (hi : i ≤ n) (hj : j ≤ m) (hf : ∀ i, i < L.length → -1000000 ≤ lF L i ∧ lF L i ≤ 1000000) (ca cb cg : Nat) :
    Calls Try.prog 38 #[.slice A n ca, .slice B n cb, .slice G m cg, .int .i64 (i : Int), .int .i64 (j : Int), .func (.func 39) #[] #[.pointer (some ⟨po, 0, none⟩), .pointer (some ⟨pn, 0, none⟩), .pointer (some ⟨pl, 0, none⟩), .pointer (some ⟨pw, 0, none⟩)]] W (GbRet w0 po pn pl pw LA cl L.length m z (hb3 c L n m i j z (hb2 e L m i j z (hb1 d L n m i j z b))) X) := by
  have HQ := hide hq
  have HR := hide h
  have hn6 := hq.n7
  have hm6 := hq.m6
  have HV := hide (fun (b : Bool) (q : Int) (x y : Nat) (W : World) (h : Run (fun _ => False) w0 (GbO po pn pl pw LA cl L.length m z b X) W) (hx2 : x ≤ n) (hy : y ≤ m) (hq : 0 ≤ q ∧ q ≤ 100000) => gbv_any hX h hL hlen hx2 hy (by omega) (by omega) hq hf)
  clear h hq hL hlen hf
  by_cases hin : i < n
  · obtain ⟨bd, od, rfl, hcd⟩ := HQ.out.D i hin
    have hdb := HQ.out.db i hin
    have c0 := hcd _ HR.out.bel
    have K1 := hide (HV.out b (d i) (i + 1) j W HR.out (by omega) hj (by omega))
    rw [show ((i + 1 : Nat) : Int) = (i : Int) + 1 by omega] at K1
    have H1 := hide (show hb1 d L n m i j z b = (b && decide (z ≤ d i + lF L ((i + 1) * (m + 1) + j))) by simp [hb1, hin])
    rw [← H1.out] at K1
    clear hcd H1
    by_cases hjm : j < m
    · have heb := HQ.out.eb j hjm
      have K2 := hide (fun W h => HV.out (hb1 d L n m i j z b) (e j) i (j + 1) W h (by omega) (by omega) (by omega))
      rw [show ((j + 1 : Nat) : Int) = (j : Int) + 1 by omega] at K2
      have H2 := hide (show hb2 e L m i j z (hb1 d L n m i j z b) = (hb1 d L n m i j z b && decide (z ≤ e j + lF L (i * (m + 1) + (j + 1)))) by simp [hb2, hjm])
      rw [← H2.out] at K2
      have hcb := HQ.out.cb i hin j hjm
      have K3 := hide (fun W h => HV.out (hb2 e L m i j z (hb1 d L n m i j z b)) (c i j) (i + 1) (j + 1) W h (by omega) (by omega) (by omega))
      rw [show ((j + 1 : Nat) : Int) = (j : Int) + 1 by omega, show ((i + 1 : Nat) : Int) = (i : Int) + 1 by omega] at K3
      have H3 := hide (show hb3 c L n m i j z (hb2 e L m i j z (hb1 d L n m i j z b)) = (hb2 e L m i j z (hb1 d L n m i j z b) && decide (z ≤ c i j + lF L ((i + 1) * (m + 1) + (j + 1)))) by simp [hb3, hin, hjm])
      rw [← H3.out] at K3
      clear H2 H3 HV
      obtain ⟨be, oe, rfl, hce⟩ := HQ.out.E j hjm
      obtain ⟨ba, oa, RR, cR, rfl, hca, hrow⟩ := HQ.out.R i hin
      obtain ⟨b', o', rfl, hcc⟩ := hrow j hjm
      have HCE := hide hce
      have HCA := hide hca
      have HCC := hide hcc
      clear hce hca hrow hcc
      go_enter Try.func38, Try.ntmps38
      go_wp2_with fail
      refine K1.out.mono ?_
      rintro e9 w1 ⟨rfl, h1⟩
      have c1 := HCE.out _ h1.bel
      have K2' := hide (K2.out _ h1)
      clear K1 K2 h1 c0
      go_wp2_with fail
      refine K2'.out.mono ?_
      rintro e9 w2 ⟨rfl, h2⟩
      have c2 := HCA.out _ h2.bel
      have c3 := HCC.out _ h2.bel
      have K3' := hide (K3.out _ h2)
      clear K2' K3 h2 c1
      go_wp2_with fail
      refine K3'.out.mono ?_
      rintro e9 w3 ⟨rfl, h3⟩
      have HR3 := hide h3
      clear K3' h3 c2 c3
      go_wp2
      go_end0
      exact ⟨rfl, HR3.out⟩
    · have H2 := hide (show hb3 c L n m i j z (hb2 e L m i j z (hb1 d L n m i j z b)) = hb1 d L n m i j z b by simp [hb3, hb2, hjm])
      rw [H2.out]
      clear H2 HV
      go_enter Try.func38, Try.ntmps38
      go_wp2_with fail
      refine K1.out.mono ?_
      rintro e9 w1 ⟨rfl, h1⟩
      have HR3 := hide h1
      clear K1 h1 c0
      go_wp2
      go_end0
      exact ⟨rfl, HR3.out⟩
  · have H1 := hide (show hb1 d L n m i j z b = b by simp [hb1, hin])
    rw [H1.out]
    by_cases hjm : j < m
    · have heb := HQ.out.eb j hjm
      have K2 := hide (HV.out b (e j) i (j + 1) W HR.out (by omega) (by omega) (by omega))
      rw [show ((j + 1 : Nat) : Int) = (j : Int) + 1 by omega] at K2
      have H2 := hide (show hb3 c L n m i j z (hb2 e L m i j z b) = (b && decide (z ≤ e j + lF L (i * (m + 1) + (j + 1)))) by simp [hb3, hb2, hin, hjm])
      rw [H2.out]
      obtain ⟨be, oe, rfl, hce⟩ := HQ.out.E j hjm
      have c1 := hce _ HR.out.bel
      clear H2 HV hce H1
      go_enter Try.func38, Try.ntmps38
      go_wp2_with fail
      refine K2.out.mono ?_
      rintro e9 w1 ⟨rfl, h1⟩
      have HR3 := hide h1
      clear K2 h1 c1
      go_wp2
      go_end0
      exact ⟨rfl, HR3.out⟩
    · have H2 := hide (show hb3 c L n m i j z (hb2 e L m i j z b) = b by simp [hb3, hb2, hin, hjm])
      rw [H2.out]
      clear H2 HV H1
      go_enter Try.func38, Try.ntmps38
      go_wp2
      go_end0
      exact ⟨rfl, HR.out⟩
end
end Go.Proofs.Ytalbhghigdanlaa
