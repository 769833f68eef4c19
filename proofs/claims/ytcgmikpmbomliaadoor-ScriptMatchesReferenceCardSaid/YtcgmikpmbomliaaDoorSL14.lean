/-
  Script: the reference's Parse, plainly: byte by byte.
  Script: the reference's Parse.
  Script: the law of folds
-/
import Derived.Test.YtcgmikpmbomliaaDoorSL9
import Derived.Test.YtcgmikpmbomliaaDoorSL11
set_option linter.unusedSimpArgs false
set_option linter.unusedVariables false
namespace Go.CH.Scr
/-- The last of the first s scripts whose word and colon a text begins with. -/
def preS (t : Bs) : Nat → Int × Nat
  | 0 => (0, 0)
  | s + 1 => if (title ((s + 1 : Nat) : Int) ++ [58]).isPrefixOf t then (((s + 1 : Nat) : Int), (title ((s + 1 : Nat) : Int) ++ [58]).length) else preS t s
theorem preS_four (t : Bs) : preS t 4 = pre t := by
  have hit : ∀ s : Nat, 1 ≤ s → s ≤ 4 → (title (s : Int) ++ [58]).isPrefixOf t = true → pre t = ((s : Int), (title (s : Int) ++ [58]).length) := by
    intro s h1 h4 h
    obtain ⟨r, e⟩ := prefix_app.1 h
    have hk : (s : Int) = 1 ∨ (s : Int) = 2 ∨ (s : Int) = 3 ∨ (s : Int) = 4 := by omega
    have := pre_title hk r
    rw [e, List.append_assoc, List.singleton_append, this]
    simp
  unfold preS
  split
  · rename_i h; rw [hit 4 (by omega) (by omega) h]
  unfold preS
  split
  · rename_i h; rw [hit 3 (by omega) (by omega) h]
  unfold preS
  split
  · rename_i h; rw [hit 2 (by omega) (by omega) h]
  unfold preS
  split
  · rename_i h; rw [hit 1 (by omega) (by omega) h]
  rename_i h4 h3 h2 h1
  have g1 : ¬ (plainT ++ [58]).isPrefixOf t = true := h1
  have g2 : ¬ (casedT ++ [58]).isPrefixOf t = true := h2
  have g3 : ¬ (abjadT ++ [58]).isPrefixOf t = true := h3
  have g4 : ¬ (syllabT ++ [58]).isPrefixOf t = true := h4
  unfold preS pre
  rw [if_neg g1, if_neg g2, if_neg g3, if_neg g4]
theorem preS_step {t x : Bs} {s : Nat} (hx : x = title ((s + 1 : Nat) : Int) ++ [58]) (h : x.length ≤ t.length ∧ t.take x.length = x) : preS t (s + 1) = (((s + 1 : Nat) : Int), x.length) := by
  unfold preS
  rw [← hx, if_pos]
  exact prefix_app.2 ⟨t.drop x.length, by conv => lhs; rw [← List.take_append_drop x.length t, h.2]⟩
theorem preS_skip {t x : Bs} {s : Nat} (hx : x = title ((s + 1 : Nat) : Int) ++ [58]) (h : ¬ (x.length ≤ t.length ∧ t.take x.length = x)) : preS t (s + 1) = preS t s := by
  conv => lhs; unfold preS
  rw [← hx, if_neg]
  intro hp
  obtain ⟨r, e⟩ := prefix_app.1 hp
  exact h ⟨by rw [e, List.length_append]; omega, by rw [e, List.take_left']; rfl⟩
theorem preS_len (t : Bs) (s : Nat) : (preS t s).2 ≤ 7 ∧ (preS t s).2 ≤ t.length := by
  induction s with
  | zero => exact ⟨by show 0 ≤ 7; omega, Nat.zero_le _⟩
  | succ s ih =>
    unfold preS
    split
    · rename_i h
      have := title_len ((s + 1 : Nat) : Int)
      obtain ⟨r, e⟩ := prefix_app.1 h
      constructor
      · show (title _ ++ [58]).length ≤ 7
        rw [List.length_append, List.length_singleton]; omega
      · show (title _ ++ [58]).length ≤ t.length
        have h9 := congrArg List.length e
        simp only [List.length_append] at h9 ⊢
        omega
    · exact ih
/-- None. -/
theorem parse_none {t : Bs} (hl : ¬ 20000 < t.length) (h : (preS t 4).2 = 0) : parseN t = (noName, 5, 0) := by
  rw [preS_four] at h
  unfold parseN
  rw [if_neg hl, if_pos]
  refine Classical.byContradiction fun hn => ?_
  obtain ⟨r, _, e, _⟩ := pre_is hn
  omega
/-- The reader's state. -/
def RpI (k : Int) (l : Bs) (ins : Bool) (cnt beg pos : Nat) (ws : List Bs) : Prop :=
  pos ≤ l.length ∧ ws.length ≤ 6 ∧ beg ≤ pos ∧ cnt ≤ 12 ∧ (ins = true → 1 ≤ cnt ∧ ws.length ≤ 5) ∧
  parseN l = done k l.length (read k ws (if ins then (l.take pos).drop beg else []) (if ins then cnt else 0) pos (l.drop pos))
theorem rp_start {l : Bs} (hl : ¬ 20000 < l.length) (h : (preS l 4).2 ≠ 0) : RpI (preS l 4).1 l false 0 0 (preS l 4).2 [] := by
  have h7 := preS_len l 4
  refine ⟨h7.2, Nat.zero_le _, Nat.zero_le _, Nat.zero_le _, (fun h => by cases h), ?_⟩
  rw [preS_four] at h ⊢
  unfold parseN
  rw [if_neg hl, if_neg]
  · rfl
  · intro e
    apply h
    unfold pre at e ⊢
    repeat' split
    all_goals simp_all
section
variable {k : Int} {l : Bs} {ins : Bool} {cnt beg pos : Nat} {ws : List Bs}
theorem drop_at {x : UInt8} (h : l[pos]? = some x) : l.drop pos = x :: l.drop (pos + 1) := by
  obtain ⟨h1, h2⟩ := List.getElem?_eq_some_iff.1 h
  rw [List.drop_eq_getElem_cons h1, h2]
theorem rp_blank_in (h : RpI k l true cnt beg pos ws) (hb : l[pos]? = some 32) : RpI k l false cnt beg (pos + 1) (ws ++ [(l.take pos).drop beg]) := by
  obtain ⟨h1, h2, h3, h4, h5, h6⟩ := h
  have h7 := (List.getElem?_eq_some_iff.1 hb).1
  have h8 := h5 rfl
  refine ⟨by omega, by rw [List.length_append, List.length_singleton]; omega, by omega, h4, (fun h => by cases h), ?_⟩
  rw [h6, drop_at hb, read_blank]
  show done k l.length (read k (close ws ((l.take pos).drop beg) cnt) [] 0 (pos + 1) _) = _
  unfold close
  rw [if_neg (by omega)]
  rfl
theorem rp_blank_out (h : RpI k l false cnt beg pos ws) (hb : l[pos]? = some 32) : RpI k l false cnt beg (pos + 1) ws := by
  obtain ⟨h1, h2, h3, h4, h5, h6⟩ := h
  have h7 := (List.getElem?_eq_some_iff.1 hb).1
  refine ⟨by omega, h2, by omega, h4, (fun h => by cases h), ?_⟩
  rw [h6, drop_at hb, read_blank]
  rfl
theorem rp_char {x : UInt8} (h : RpI k l ins cnt beg pos ws) (hx : l[pos]? = some x) (h32 : x ≠ 32) (hz : len1 k (l.drop pos) = 0) : parseN l = (noName, 3, (pos : Int)) := by
  obtain ⟨h1, h2, h3, h4, h5, h6⟩ := h
  rw [drop_at hx] at hz
  rw [h6, drop_at hx, read_char h32 hz, done_err]
theorem rp_full (h : RpI k l false cnt beg pos ws) (hz : len1 k (l.drop pos) ≠ 0) (hw : ws.length = 6) : parseN l = (noName, 2, (pos : Int)) := by
  obtain ⟨h1, h2, h3, h4, h5, h6⟩ := h
  rw [h6, read_limit hz (.inr hw), done_err]
theorem rp_twelve (h : RpI k l true cnt beg pos ws) (hz : len1 k (l.drop pos) ≠ 0) (hc : cnt = 12) : parseN l = (noName, 2, (pos : Int)) := by
  obtain ⟨h1, h2, h3, h4, h5, h6⟩ := h
  simp only [if_true] at h6
  rw [h6, read_limit hz (.inl hc), done_err]
theorem rp_enter (h : RpI k l false cnt beg pos ws) (hz : len1 k (l.drop pos) ≠ 0) (hw : ws.length ≠ 6) : RpI k l true 1 pos (pos + len1 k (l.drop pos)) ws := by
  obtain ⟨h1, h2, h3, h4, h5, h6⟩ := h
  have hle := len1_le (k := k) (l := l.drop pos)
  rw [List.length_drop] at hle
  refine ⟨by omega, h2, by omega, by omega, fun _ => ⟨Nat.le_refl _, by omega⟩, ?_⟩
  rw [h6, read_letter hz (by simp [hw]), List.drop_drop]
  simp only [Bool.false_eq_true, if_false, if_true, List.nil_append]
  rw [List.take_drop]
theorem rp_more (h : RpI k l true cnt beg pos ws) (hz : len1 k (l.drop pos) ≠ 0) (hc : cnt ≠ 12) : RpI k l true (cnt + 1) beg (pos + len1 k (l.drop pos)) ws := by
  obtain ⟨h1, h2, h3, h4, h5, h6⟩ := h
  have hle := len1_le (k := k) (l := l.drop pos)
  rw [List.length_drop] at hle
  have h8 := h5 rfl
  refine ⟨by omega, h2, by omega, by omega, fun _ => ⟨by omega, h8.2⟩, ?_⟩
  rw [h6]
  simp only [if_true]
  rw [read_letter hz (by omega), List.drop_drop]
  congr 2
  rw [List.take_add, List.drop_append, show beg - (l.take pos).length = 0 by rw [List.length_take]; omega, List.drop_zero]
theorem rp_end_in (h : RpI k l true cnt beg pos ws) (he : pos = l.length) : parseN l = (⟨k, ws ++ [l.drop beg]⟩, 0, 0) := by
  obtain ⟨h1, h2, h3, h4, h5, h6⟩ := h
  have h8 := h5 rfl
  rw [h6, he, List.drop_length, List.take_length, read_nil]
  unfold close
  simp only [if_true]
  rw [if_neg (by omega), done_ok (by simp)]
theorem rp_end_out (h : RpI k l false cnt beg pos ws) (he : pos = l.length) : parseN l = if ws = [] then (noName, 6, (l.length : Int)) else (⟨k, ws⟩, 0, 0) := by
  obtain ⟨h1, h2, h3, h4, h5, h6⟩ := h
  rw [h6, he, List.drop_length, read_nil]
  rfl
end
end Go.CH.Scr
namespace Go.Proofs.YtcgmikpmbomliaaDoor
open Go.RowKit Go.CH Go.CH.Scr
open Go.ChangeMaps (setBlock)
theorem res1 (tmps : Array Value) (w : World) (g2 : Nat) (k x y : Int) (A : Option Addr) (n c : Nat)
    (h2 : tmps.getD 2 undef = .pointer (some ⟨g2, 0, none⟩)) (h3 : tmps.getD 3 undef = .int .i64 x) (h4 : tmps.getD 4 undef = .int .i64 y)
    (c2 : w.heap[g2]? = some (.cells #[.int .i64 k, .slice A n c] 24)) :
    (results Tryd.f21 tmps).run Tryd.prog w = .ok (.tuple #[.agg #[.int .i64 k, .slice A n c], .int .i64 x, .int .i64 y]) w := by
  have h2' : tmps[2]?.getD undef = .pointer (some ⟨g2, 0, none⟩) := by simpa using h2
  have h3' : tmps[3]?.getD undef = .int .i64 x := by simpa using h3
  have h4' : tmps[4]?.getD undef = .int .i64 y := by simpa using h4
  have r2 := run_loadVar_row (P := Tryd.prog) w g2 24 24 #[.int .i64 k, .slice A n c] (0, 0) _ c2 Tryd.underlying24 rfl (by kernel_rfl)
  have hr : Tryd.f21.results = #[.cell 2 24, .tmp 3, .tmp 4] := rfl
  simp only [results, hr]
  simp [Sem.run_bind, Result.andThen, h2', h3', h4', asAddr, r2]
theorem rparse_fin {w W : World} {g2 : Nat} {k x y : Int} {A : Option Addr} {ws : List Bs} {c n : Nat} {X : CH.Own} {a : Act} {r : NameM × Int × Int} (hr : r = (⟨k, ws⟩, x, y)) (hn : ws.length = n)
    (h : Run (fun _ => False) w (star (CellO g2 #[.int .i64 k, .slice A n c] 24) X) W) (hA : Vst W A ws) (hc : ws.length ≤ c)
    (h2 : a.tmps.getD 2 undef = .pointer (some ⟨g2, 0, none⟩)) (h3 : a.tmps.getD 3 undef = .int .i64 x) (h4 : a.tmps.getD 4 undef = .int .i64 y) (hd : a.defers = []) :
    bodyPost Tryd.prog Tryd.f21 (ParseRet w r) .ret a W := by
  subst hr hn
  obtain ⟨F2, k2⟩ := h.fst
  exact bodyPost_ret_by (res1 a.tmps W g2 k x y A ws.length c h2 h3 h4 k2.1) hd ⟨A, c, rfl, h.bel, hA, hc⟩
/-- The name under way beside the first result's block. -/
def PnO (g2 g5 : Nat) (k : Int) (A : Option Addr) (c : Nat) (ws : List Bs) : CH.Own :=
  star (CellO g5 #[.int .i64 k, .slice A ws.length c] 24) (star (StrO A c ws) (CellO g2 #[.int .i64 0, .slice none 0 0] 24))
theorem pn_ok {g2 g5 : Nat} {k : Int} {A : Option Addr} {c : Nat} {ws : List Bs} : (PnO g2 g5 k A c ws).Ok := star_ok cell_ok (star_ok str_ok cell_ok)
theorem pn_cells {w W : World} {F0 : Nat → Prop} {g2 g5 : Nat} {k : Int} {A : Option Addr} {c : Nat} {ws : List Bs} (h : Run F0 w (PnO g2 g5 k A c ws) W) :
    (W.cell? ⟨g5, 0, none⟩ = some (.int .i64 k) ∧ W.frozen? ⟨g5, 0, none⟩ = false) ∧ (W.cell? ⟨g5, 1, none⟩ = some (.slice A ws.length c) ∧ W.frozen? ⟨g5, 1, none⟩ = false) ∧
    (W.cell? ⟨g2, 0, none⟩ = some (.int .i64 0) ∧ W.frozen? ⟨g2, 0, none⟩ = false) ∧ (W.cell? ⟨g2, 1, none⟩ = some (.slice none 0 0) ∧ W.frozen? ⟨g2, 1, none⟩ = false) := by
  unfold PnO at h
  have h2 := h.last
  exact ⟨get1 h rfl, get1 h rfl, get1 h2 rfl, get1 h2 rfl⟩
theorem pn_err {w W : World} {F0 : Nat → Prop} {g2 g5 : Nat} {k : Int} {A : Option Addr} {c : Nat} {ws : List Bs} (h : Run F0 w (PnO g2 g5 k A c ws) W) :
    Run F0 w (star (CellO g2 #[.int .i64 0, .slice none 0 0] 24) (star (CellO g5 #[.int .i64 k, .slice A ws.length c] 24) (StrO A c ws))) ((W.setCell ⟨g2, 0, none⟩ (.int .i64 0)).setCell ⟨g2, 1, none⟩ (.slice none 0 0)) := by
  unfold PnO at h
  obtain ⟨F, hF, -, bk⟩ := h.last.take cell_ok (star_ok cell_ok str_ok)
  have h1 : Run F0 w (star (CellO g2 #[.int .i64 0, .slice none 0 0] 24) _) _ := bk _ _ (cell_set hF 0 (.int .i64 0))
  obtain ⟨F, hF, -, bk⟩ := h1.take cell_ok (star_ok cell_ok str_ok)
  exact bk _ _ (cell_set hF 1 (.slice none 0 0))
theorem pn_fin {w W : World} {F0 : Nat → Prop} {g2 g5 : Nat} {k : Int} {A : Option Addr} {c : Nat} {ws : List Bs} (h : Run F0 w (PnO g2 g5 k A c ws) W) :
    Run F0 w (star (CellO g2 #[.int .i64 k, .slice A ws.length c] 24) (star (StrO A c ws) (CellO g5 #[.int .i64 k, .slice A ws.length c] 24))) ((W.setCell ⟨g2, 0, none⟩ (.int .i64 k)).setCell ⟨g2, 1, none⟩ (.slice A ws.length c)) := by
  unfold PnO at h
  obtain ⟨F, hF, -, bk⟩ := h.last.take cell_ok (star_ok cell_ok str_ok)
  have h1 : Run F0 w (star (CellO g2 #[.int .i64 k, .slice none 0 0] 24) _) _ := bk _ _ (cell_set hF 0 (.int .i64 k))
  obtain ⟨F, hF, -, bk⟩ := h1.take cell_ok (star_ok cell_ok str_ok)
  exact (bk _ _ (cell_set hF 1 (.slice A ws.length c))).in2
theorem pn_vst {w W : World} {F0 : Nat → Prop} {g2 : Nat} {cs : Array Value} {A : Option Addr} {c : Nat} {ws : List Bs} {X : CH.Own} (h : Run F0 w (star (CellO g2 cs 24) (star (StrO A c ws) X)) W) : Vst W A ws ∧ ws.length ≤ c := by
  obtain ⟨F, hF⟩ := h.rot.fst
  exact ⟨vst_of hF, (row_cap hF.1).1⟩
/-- The scripts tried one after another. -/
def PsO (g2 g5 : Nat) (k : Int) : CH.Own := star (CellO g5 #[.int .i64 k, .slice none 0 0] 24) (CellO g2 #[.int .i64 0, .slice none 0 0] 24)
theorem ps_start (w : World) : Run (fun _ => False) w (PsO w.heap.size (w.heap.size + 1) 0) ((w.alloc (.cells #[.int .i64 0, .slice none 0 0] 24)).alloc (.cells #[.int .i64 0, .slice none 0 0] 24)) := by
  have h1 := (Run.begin w).fresh emp_ok (cell_new w #[.int .i64 0, .slice none 0 0] 24)
  have h2 := h1.fresh (star_ok cell_ok emp_ok) (cell_new _ #[.int .i64 0, .slice none 0 0] 24)
  simp only [World.size_alloc] at h2
  exact h2.imp fun _ _ hh => star_mono hh (fun _ h => h) (fun _ h => star_emp h)
theorem ps_set {w W : World} {F0 : Nat → Prop} {g2 g5 : Nat} {k : Int} (h : Run F0 w (PsO g2 g5 k) W) (k' : Int) : Run F0 w (PsO g2 g5 k') (W.setCell ⟨g5, 0, none⟩ (.int .i64 k')) := by
  unfold PsO at h ⊢
  obtain ⟨F, hF, -, bk⟩ := h.take cell_ok cell_ok
  exact bk _ _ (cell_set hF 0 (.int .i64 k'))
theorem ps_ok {g2 g5 : Nat} {k : Int} : (PsO g2 g5 k).Ok := star_ok cell_ok cell_ok
theorem ps_cells {w W : World} {F0 : Nat → Prop} {g2 g5 : Nat} {k : Int} (h : Run F0 w (PsO g2 g5 k) W) :
    (W.cell? ⟨g5, 0, none⟩ = some (.int .i64 k) ∧ W.frozen? ⟨g5, 0, none⟩ = false) ∧ (W.cell? ⟨g2, 0, none⟩ = some (.int .i64 0) ∧ W.frozen? ⟨g2, 0, none⟩ = false) ∧ (W.cell? ⟨g2, 1, none⟩ = some (.slice none 0 0) ∧ W.frozen? ⟨g2, 1, none⟩ = false) := by
  unfold PsO at h
  exact ⟨get1 h rfl, get1 h.swap rfl, get1 h.swap rfl⟩
theorem ps_name {w W : World} {F0 : Nat → Prop} {g2 g5 : Nat} {k : Int} (h : Run F0 w (PsO g2 g5 k) W) : Run F0 w (PnO g2 g5 k none 0 []) W := by
  unfold PsO at h
  exact (h.fresh (star_ok cell_ok cell_ok) (⟨fun _ => False, str_nil W, Mod.refl _ _, fun i hi => .inl hi⟩ : Post W (fun _ => False) (StrO none 0 []) W)).rot
theorem ps_err {w W : World} {F0 : Nat → Prop} {g2 g5 : Nat} {k : Int} (h : Run F0 w (PsO g2 g5 k) W) :
    Run F0 w (star (CellO g2 #[.int .i64 0, .slice none 0 0] 24) (star (CellO g5 #[.int .i64 k, .slice none 0 0] 24) (StrO none 0 []))) ((W.setCell ⟨g2, 0, none⟩ (.int .i64 0)).setCell ⟨g2, 1, none⟩ (.slice none 0 0)) := pn_err (ps_name h)
theorem tb_len (j : Nat) : (bs (title ((j + 1 : Nat) : Int) ++ [58])).size ≤ 7 := by
  rw [bs_size, List.length_append, List.length_singleton]; have := title_len ((j + 1 : Nat) : Int); omega
set_option maxRecDepth 100000 in
set_option maxHeartbeats 3200000 in
theorem rParse_any (s : ByteArray) (w : World) : Calls Tryd.prog 21 #[.string s] w (ParseRet w (parseN (bl s))) := by
  by_cases hlen : (20000 : Int) < (s.size : Int)
  · have HR := hide (show parseN (bl s) = (⟨0, []⟩, 2, -1) by unfold parseN; rw [if_pos (by rw [bl_len]; omega)]; rfl)
    have S0 := hide ((Run.begin w).fresh emp_ok (cell_new w #[.int .i64 0, .slice none 0 0] 24))
    go_enter Tryd.func21, Tryd.ntmps21
    go_wp2
    exact rparse_fin (A := none) (c := 0) HR.out rfl S0.out (vst_nil _) (Nat.le_refl _) rfl rfl rfl rfl
  · have S0 := hide (ps_start w)
    have HL := hide (show ¬ 20000 < (bl s).length by rw [bl_len]; omega)
    go_enter Tryd.func21, Tryd.ntmps21
    go_wp2
    generalize (w.alloc (.cells #[.int .i64 0, .slice none 0 0] 24)).alloc (.cells #[.int .i64 0, .slice none 0 0] 24) = w1 at *
    generalize w.heap.size + 1 = g5 at *
    generalize hg2 : w.heap.size = g2 at *
    clear hg2
    go_loopw [6, 7] (fun at_ i wr => ∃ j : Nat, j ≤ 4 ∧ i = .int .i64 ((j + 1 : Nat) : Int) ∧ at_ = .int .i64 ((preS (bl s) j).2 : Nat) ∧ Run (fun _ => False) w (PsO g2 g5 (preS (bl s) j).1) wr) (fun _ i _ => 5 - (intOf i).toNat)
    case atStart => exact ⟨0, by omega, rfl, rfl, S0.out⟩
    case round =>
      obtain ⟨j, hj, rfl, rfl, hR⟩ := hrel
      have HR := hide hR
      clear hR S0
      obtain ⟨⟨n0, m0⟩, ⟨d0, e0⟩, ⟨d1, e1⟩⟩ := ps_cells HR.out
      by_cases hlt : j < 4
      · have hj4 : ((j + 1 : Nat) : Int) ≤ 4 := by omega
        have KT := hide (rtitle_any ((j + 1 : Nat) : Int) wr)
        have htl := tb_len j
        have HX := hide (fun h => preS_step (t := bl s) (s := j) rfl h)
        have HY := hide (fun h => preS_skip (t := bl s) (s := j) rfl h)
        have hE : (title ((j + 1 : Nat) : Int) ++ [58]).length = (bs (title ((j + 1 : Nat) : Int) ++ [58])).size := (bs_size _).symm
        have hbl : bl (bs (title ((j + 1 : Nat) : Int) ++ [58])) = title ((j + 1 : Nat) : Int) ++ [58] := bl_bs _
        generalize bs (title ((j + 1 : Nat) : Int) ++ [58]) = tb at *
        generalize title ((j + 1 : Nat) : Int) ++ [58] = tl at *
        have h58 : (58 : UInt8) = 58 := rfl
        clear h58
        by_cases hsz : tb.size ≤ s.size
        · have hsz2 : (tb.size : Int) ≤ (s.size : Int) := by omega
          have hext : bl (s.extract 0 tb.size) = (bl s).take tb.size := by rw [bl_extract, List.drop_zero]
          by_cases heq : s.extract 0 tb.size = tb
          · have HN := hide (HX.out ⟨by rw [hE, bl_len]; exact hsz, by rw [hE, ← hext, heq, hbl]⟩)
            rw [hE] at HN
            have t1 : (s.extract 0 tb.size == tb) = true := by rw [heq, bytes_dec]; simp
            have t3 : ((s.extract 0 tb.size).toList == tb.toList) = true := by rw [heq, toList_beq]; simp
            have t4 : (s.extract 0 tb.size).toList = tb.toList := by rw [heq]
            clear heq HX HY hE hbl hext
            go_wp2_with fail
            refine KT.out.mono ?_
            rintro e9 w9 ⟨rfl, hb⟩
            have HR2 := hide (HR.out.below ps_ok hb)
            obtain ⟨⟨n0, m0⟩, ⟨d0, e0⟩, ⟨d1, e1⟩⟩ := ps_cells HR2.out
            have HR3 := hide (ps_set HR2.out ((j + 1 : Nat) : Int))
            clear KT hb HR
            go_wp2
            go_roundw
            case rel => exact ⟨j + 1, by omega, by go_num, by rw [HN.out], by rw [HN.out]; exact HR3.out⟩
            case measure => simp [intOf]; omega
          · have HN := hide (HY.out (fun h => heq (bl_inj (by rw [hext, hbl, ← hE]; exact h.2))))
            have t1 : (s.extract 0 tb.size == tb) = false := by rw [bytes_dec]; simpa using heq
            have t3 : ((s.extract 0 tb.size).toList == tb.toList) = false := by rw [toList_beq]; simpa using heq
            have t4 : ¬ (s.extract 0 tb.size).toList = tb.toList := by simpa using t3
            clear heq HX HY hE hbl hext
            go_wp2_with fail
            refine KT.out.mono ?_
            rintro e9 w9 ⟨rfl, hb⟩
            have HR2 := hide (HR.out.below ps_ok hb)
            clear KT hb HR
            go_wp2
            go_roundw
            case rel => exact ⟨j + 1, by omega, by go_num, by rw [HN.out], by rw [HN.out]; exact HR2.out⟩
            case measure => simp [intOf]; omega
        · have HN := hide (HY.out (fun h => hsz (by rw [← hE, ← bl_len]; exact h.1)))
          have hsz2 : ¬ (tb.size : Int) ≤ (s.size : Int) := by omega
          clear HX HY hE hbl
          go_wp2_with fail
          refine KT.out.mono ?_
          rintro e9 w9 ⟨rfl, hb⟩
          have HR2 := hide (HR.out.below ps_ok hb)
          clear KT hb HR
          go_wp2
          go_roundw
          case rel => exact ⟨j + 1, by omega, by go_num, by rw [HN.out], by rw [HN.out]; exact HR2.out⟩
          case measure => simp [intOf]; omega
      · obtain rfl : j = 4 := by omega
        have h5 : ¬ (((4 + 1 : Nat) : Int) ≤ 4) := by decide
        generalize ((4 + 1 : Nat) : Int) = j7 at *
        by_cases h0 : (preS (bl s) 4).2 = 0
        · have HP := hide (parse_none HL.out h0)
          have HE := hide (ps_err HR.out)
          rw [h0]
          clear h0
          go_wp2
          exact rparse_fin (A := none) (c := 0) HP.out rfl HE.out (vst_nil _) (Nat.le_refl _) rfl rfl rfl rfl
        · have HP := hide (rp_start HL.out h0)
          have HR2 := hide (ps_name HR.out)
          have t0 : ((((preS (bl s) 4).2 : Nat) : Int) == 0) = false := by simpa using h0
          clear h0 HR n0 m0 d0 e0 d1 e1
          generalize (preS (bl s) 4).1 = k at *
          generalize (preS (bl s) 4).2 = o at *
          go_wp2
          go_loopw [9, 10, 11, 12] (fun a9 a10 a11 a12 wx => ∃ (ins : Bool) (cnt beg pos : Nat) (A : Option Addr) (c : Nat) (ws : List Bs), a9 = .bool ins ∧ a10 = .int .i64 (cnt : Int) ∧ a11 = .int .i64 (beg : Int) ∧ a12 = .int .i64 (pos : Int) ∧ RpI k (bl s) ins cnt beg pos ws ∧ Run (fun _ => False) w (PnO g2 g5 k A c ws) wx) (fun _ _ _ a12 _ => s.size - (intOf a12).toNat)
          case atStart => exact ⟨false, 0, 0, o, none, 0, [], rfl, rfl, rfl, rfl, HP.out, HR2.out⟩
          case round =>
            obtain ⟨ins, cnt, beg, pos, A, c, ws, rfl, rfl, rfl, rfl, hI, hR⟩ := hrel
            have HI := hide hI
            have HR := hide hR
            have hps := hI.1
            have hw6 := hI.2.1
            have hbp := hI.2.2.1
            have hc12 := hI.2.2.2.1
            rw [bl_len] at hps
            clear hI hR HP HR2 t0
            obtain ⟨⟨n0, m0⟩, ⟨n1, m1⟩, ⟨d0, e0⟩, ⟨d1, e1⟩⟩ := pn_cells HR.out
            by_cases hlt : (pos : Int) < (s.size : Int)
            · have hpl : pos < s.size := by omega
              obtain ⟨x, hx⟩ : ∃ x : UInt8, s[pos] = x := ⟨_, rfl⟩
              have HX := hide (show (bl s)[pos]? = some x by rw [bl_at s pos hpl, hx])
              have hx256 := x.toNat_lt
              have hxx := u8_eq x 32 32 rfl
              by_cases h32 : x = 32
              · have HX2 := hide (show (bl s)[pos]? = some 32 by rw [HX.out, h32])
                rw [show (x == 32) = true by simpa using h32] at hxx
                cases ins with
                | true =>
                  have HN := hide (rp_blank_in HI.out HX2.out)
                  rw [← bl_extract] at HN
                  have i1 : (beg : Int) ≤ (pos : Int) := by omega
                  have i2 : (pos : Int) ≤ (s.size : Int) := by omega
                  have HA := hide ((HR.out.drew pn_ok).perm (by unfold PnO; ac_rfl : _ = star (StrO A c ws) (star (CellO g5 #[.int .i64 k, .slice A ws.length c] 24) (CellO g2 #[.int .i64 0, .slice none 0 0] 24))))
                  have n1' : wr.drew.cell? ⟨g5, 1, none⟩ = some (.slice A ws.length c) := n1
                  clear h32 HX HI HX2 HR
                  go_wp2_with fail
                  refine wp_region_les [6, 7, 9] [1, 1, 0, 0, 0, 0, 1, 2, 2, 3] (fun w' => w'.cell? ⟨g5, 1, none⟩ = some (.slice A ws.length c)) [fun w' => w'.cell? ⟨g5, 1, none⟩ = some (.slice A ws.length c)] ⟨fun _ h => h, trivial⟩ rfl (by kernel_rfl) (by kernel_rfl) (by kernel_rfl) n1' ?_
                  clear n0 m0 n1 m1 d0 e0 d1 e1 n1'
                  generalize wr.drew = Wd at *
                  (repeat (first | (refine les_skip (by rfl) (by rfl) ?_; try simp only [Act.put, List.setIfInBounds_toArray, List.set_cons_zero, List.set_cons_succ]) | (refine les_read (v := ?_) (by rfl) (by rfl) ?_ ?_; rotate_left; (focus (intro w' hS'; (try simp only [stL] at hS'); go_simp; (try with_reducible rfl); done)); try simp only [Act.put, List.setIfInBounds_toArray, List.set_cons_zero, List.set_cons_succ])))
                  refine les_chain rfl (by rfl) (fun K hK => ?_)
                  go_wp2
                  refine hK.out _ _ ?_ ?_
                  · have h9 := HA.out.below (star_ok str_ok (star_ok cell_ok cell_ok)) ((Below.refl _ _).alloc (Nat.le_refl _) (.cells #[.string (s.extract beg pos)] 9))
                    exact (get1 h9.rot rfl).1
                  clear hK
                  (repeat (first | (refine les_skip (by rfl) (by rfl) ?_; try simp only [Act.put, List.setIfInBounds_toArray, List.set_cons_zero, List.set_cons_succ]) | (refine les_read (v := ?_) (by rfl) (by rfl) ?_ ?_; rotate_left; (focus (intro w' hS'; (try simp only [stL] at hS'); go_simp; (try with_reducible rfl); done)); try simp only [Act.put, List.setIfInBounds_toArray, List.set_cons_zero, List.set_cons_succ])))
                  refine les_chain rfl (by rfl) (fun K hK => ?_)
                  refine app_str1 (.tmp 56) (.tmp 61) rfl rfl rfl rfl (by omega) (star_ok cell_ok cell_ok) HA.out ?_
                  intro A' c' w2 hw2
                  obtain ⟨n1, m1⟩ := get1 hw2.rot (i := 1) rfl
                  have HW2 := hide (by
                    obtain ⟨F, hF, -, bk⟩ := hw2.rot.take cell_ok (star_ok str_ok cell_ok)
                    exact bk _ _ (cell_set hF 1 (.slice A' (ws.length + 1) c')))
                  refine hK.out _ _ trivial ?_
                  clear hK HA hw2
                  (repeat (first | (refine les_skip (by rfl) (by rfl) ?_; try simp only [Act.put, List.setIfInBounds_toArray, List.set_cons_zero, List.set_cons_succ]) | (refine les_read (v := ?_) (by rfl) (by rfl) ?_ ?_; rotate_left; (focus (intro w' hS'; (try simp only [stL] at hS'); go_simp; (try with_reducible rfl); done)); try simp only [Act.put, List.setIfInBounds_toArray, List.set_cons_zero, List.set_cons_succ])))
                  refine les_chain rfl (by rfl) (fun K hK => ?_)
                  go_wp2
                  refine hK.out _ _ trivial (les_nil ?_)
                  clear hK
                  have h3 : Run (fun _ => False) w (PnO g2 g5 k A' c' (ws ++ [bl (s.extract beg pos)])) (w2.setCell ⟨g5, 1, none⟩ (.slice A' (ws.length + 1) c')) := by
                    unfold PnO
                    rw [List.length_append, List.length_singleton]
                    exact HW2.out
                  have H3 := hide h3
                  clear h3 HW2 n1 m1
                  generalize w2.setCell ⟨g5, 1, none⟩ (.slice A' (ws.length + 1) c') = W6 at *
                  generalize hwl : ws ++ [bl (s.extract beg pos)] = ws' at *
                  clear hwl
                  go_wp2
                  go_roundw
                  case rel => exact ⟨false, cnt, beg, pos + 1, A', c', ws', rfl, rfl, rfl, by go_num, HN.out, H3.out⟩
                  case measure => simp [intOf]; omega
                | false =>
                  have HN := hide (rp_blank_out HI.out HX2.out)
                  clear h32 HX HI HX2
                  go_wp2
                  go_roundw
                  case rel => exact ⟨false, cnt, beg, pos + 1, A, c, ws, rfl, rfl, rfl, by go_num, HN.out, HR.out⟩
                  case measure => simp [intOf]; omega
              · rw [show (x == 32) = false by simpa using h32] at hxx
                have KL := hide (rlength_any k s pos wr (by omega) (by omega))
                by_cases hz : len1 k ((bl s).drop pos) = 0
                · have HN := hide (rp_char HI.out HX.out h32 hz)
                  rw [hz] at KL
                  clear h32 HX HI hz
                  go_wp2_with fail
                  refine KL.out.mono ?_
                  rintro e9 w9 ⟨rfl, hb⟩
                  have HR2 := hide (HR.out.below pn_ok hb)
                  obtain ⟨⟨n0, m0⟩, ⟨n1, m1⟩, ⟨d0, e0⟩, ⟨d1, e1⟩⟩ := pn_cells HR2.out
                  have HE2 := hide (pn_err HR2.out)
                  clear KL hb HR
                  go_wp2
                  exact rparse_fin (A := none) (c := 0) HN.out rfl HE2.out (vst_nil _) (Nat.le_refl _) rfl rfl rfl rfl
                · have hle := len1_le (k := k) (l := (bl s).drop pos)
                  rw [List.length_drop, bl_len] at hle
                  have hnp : 0 < len1 k ((bl s).drop pos) := by omega
                  have hn0 : ((len1 k ((bl s).drop pos) : Nat) : Int) ≠ 0 := by omega
                  have tnz : (((len1 k ((bl s).drop pos) : Nat) : Int) == 0) = false := by simpa using hn0
                  cases ins with
                  | true =>
                    by_cases h12 : cnt = 12
                    · have HN := hide (rp_twelve HI.out hz h12)
                      clear h32 HX HI hz hn0
                      subst h12
                      generalize len1 k ((bl s).drop pos) = n at *
                      go_wp2_with fail
                      refine KL.out.mono ?_
                      rintro e9 w9 ⟨rfl, hb⟩
                      have HR2 := hide (HR.out.below pn_ok hb)
                      obtain ⟨⟨n0, m0⟩, ⟨n1, m1⟩, ⟨d0, e0⟩, ⟨d1, e1⟩⟩ := pn_cells HR2.out
                      have HE2 := hide (pn_err HR2.out)
                      clear KL hb HR
                      go_wp2
                      exact rparse_fin (A := none) (c := 0) HN.out rfl HE2.out (vst_nil _) (Nat.le_refl _) rfl rfl rfl rfl
                    · have HN := hide (rp_more HI.out hz h12)
                      have hc1 : ¬ (12 : Int) < (cnt : Int) + 1 := by omega
                      clear h32 HX HI hz h12 hn0
                      generalize len1 k ((bl s).drop pos) = n at *
                      go_wp2_with fail
                      refine KL.out.mono ?_
                      rintro e9 w9 ⟨rfl, hb⟩
                      have HR2 := hide (HR.out.below pn_ok hb)
                      clear KL hb HR
                      go_wp2
                      go_roundw
                      case rel => exact ⟨true, cnt + 1, beg, pos + n, A, c, ws, rfl, by go_num, rfl, by go_num, HN.out, HR2.out⟩
                      case measure => simp [intOf]; omega
                  | false =>
                    by_cases h6 : ws.length = 6
                    · have HN := hide (rp_full HI.out hz h6)
                      have t6 : ((ws.length : Int) == 6) = true := by rw [h6]; rfl
                      clear h32 HX HI hz hn0 h6
                      generalize len1 k ((bl s).drop pos) = n at *
                      go_wp2_with fail
                      refine KL.out.mono ?_
                      rintro e9 w9 ⟨rfl, hb⟩
                      have HR2 := hide (HR.out.below pn_ok hb)
                      obtain ⟨⟨n0, m0⟩, ⟨n1, m1⟩, ⟨d0, e0⟩, ⟨d1, e1⟩⟩ := pn_cells HR2.out
                      have HE2 := hide (pn_err HR2.out)
                      clear KL hb HR
                      go_wp2
                      exact rparse_fin (A := none) (c := 0) HN.out rfl HE2.out (vst_nil _) (Nat.le_refl _) rfl rfl rfl rfl
                    · have HN := hide (rp_enter HI.out hz h6)
                      have t6 : ((ws.length : Int) == 6) = false := by simp; omega
                      clear h32 HX HI hz h6 hn0
                      generalize len1 k ((bl s).drop pos) = n at *
                      go_wp2_with fail
                      refine KL.out.mono ?_
                      rintro e9 w9 ⟨rfl, hb⟩
                      have HR2 := hide (HR.out.below pn_ok hb)
                      obtain ⟨⟨n0, m0⟩, ⟨n1, m1⟩, ⟨d0, e0⟩, ⟨d1, e1⟩⟩ := pn_cells HR2.out
                      clear KL hb HR
                      go_wp2
                      go_roundw
                      case rel => exact ⟨true, 1, pos, pos + n, A, c, ws, rfl, rfl, rfl, by go_num, HN.out, HR2.out⟩
                      case measure => simp [intOf]; omega
            · obtain rfl : pos = s.size := by omega
              have hlen5 : (s.size : Int) = (s.size : Int) := rfl
              clear hlen5
              cases ins with
              | true =>
                have HN := hide (rp_end_in HI.out (bl_len s).symm)
                rw [show (bl s).drop beg = bl (s.extract beg s.size) by rw [bl_extract, ← bl_len, List.take_length]] at HN
                have i1 : (beg : Int) ≤ (s.size : Int) := by omega
                have HA := hide ((HR.out.drew pn_ok).perm (by unfold PnO; ac_rfl : _ = star (StrO A c ws) (star (CellO g5 #[.int .i64 k, .slice A ws.length c] 24) (CellO g2 #[.int .i64 0, .slice none 0 0] 24))))
                have n1' : wr.drew.cell? ⟨g5, 1, none⟩ = some (.slice A ws.length c) := n1
                clear HI HR
                go_wp2_with fail
                refine wp_region_les [5, 6, 8] [1, 1, 0, 0, 0, 1, 2, 2, 3] (fun w' => w'.cell? ⟨g5, 1, none⟩ = some (.slice A ws.length c)) [fun w' => w'.cell? ⟨g5, 1, none⟩ = some (.slice A ws.length c)] ⟨fun _ h => h, trivial⟩ rfl (by kernel_rfl) (by kernel_rfl) (by kernel_rfl) n1' ?_
                clear n0 m0 n1 m1 d0 e0 d1 e1 n1'
                generalize wr.drew = Wd at *
                (repeat (first | (refine les_skip (by rfl) (by rfl) ?_; try simp only [Act.put, List.setIfInBounds_toArray, List.set_cons_zero, List.set_cons_succ]) | (refine les_read (v := ?_) (by rfl) (by rfl) ?_ ?_; rotate_left; (focus (intro w' hS'; (try simp only [stL] at hS'); go_simp; (try with_reducible rfl); done)); try simp only [Act.put, List.setIfInBounds_toArray, List.set_cons_zero, List.set_cons_succ])))
                refine les_chain rfl (by rfl) (fun K hK => ?_)
                go_wp2
                refine hK.out _ _ ?_ ?_
                · have h9 := HA.out.below (star_ok str_ok (star_ok cell_ok cell_ok)) ((Below.refl _ _).alloc (Nat.le_refl _) (.cells #[.string (s.extract beg s.size)] 9))
                  exact (get1 h9.rot rfl).1
                clear hK
                (repeat (first | (refine les_skip (by rfl) (by rfl) ?_; try simp only [Act.put, List.setIfInBounds_toArray, List.set_cons_zero, List.set_cons_succ]) | (refine les_read (v := ?_) (by rfl) (by rfl) ?_ ?_; rotate_left; (focus (intro w' hS'; (try simp only [stL] at hS'); go_simp; (try with_reducible rfl); done)); try simp only [Act.put, List.setIfInBounds_toArray, List.set_cons_zero, List.set_cons_succ])))
                refine les_chain rfl (by rfl) (fun K hK => ?_)
                refine app_str1 (.tmp 95) (.tmp 99) rfl rfl rfl rfl (by omega) (star_ok cell_ok cell_ok) HA.out ?_
                intro A' c' w2 hw2
                obtain ⟨n1, m1⟩ := get1 hw2.rot (i := 1) rfl
                have HW2 := hide (by
                  obtain ⟨F, hF, -, bk⟩ := hw2.rot.take cell_ok (star_ok str_ok cell_ok)
                  exact bk _ _ (cell_set hF 1 (.slice A' (ws.length + 1) c')))
                refine hK.out _ _ trivial ?_
                clear hK HA hw2
                (repeat (first | (refine les_skip (by rfl) (by rfl) ?_; try simp only [Act.put, List.setIfInBounds_toArray, List.set_cons_zero, List.set_cons_succ]) | (refine les_read (v := ?_) (by rfl) (by rfl) ?_ ?_; rotate_left; (focus (intro w' hS'; (try simp only [stL] at hS'); go_simp; (try with_reducible rfl); done)); try simp only [Act.put, List.setIfInBounds_toArray, List.set_cons_zero, List.set_cons_succ])))
                refine les_chain rfl (by rfl) (fun K hK => ?_)
                go_wp2
                refine hK.out _ _ trivial (les_nil ?_)
                clear hK
                have h3 : Run (fun _ => False) w (PnO g2 g5 k A' c' (ws ++ [bl (s.extract beg s.size)])) (w2.setCell ⟨g5, 1, none⟩ (.slice A' (ws.length + 1) c')) := by
                  unfold PnO
                  rw [List.length_append, List.length_singleton]
                  exact HW2.out
                obtain ⟨⟨n0, m0⟩, ⟨n1, m1⟩, ⟨d0, e0⟩, ⟨d1, e1⟩⟩ := pn_cells h3
                have HE := hide (pn_fin h3)
                rw [List.length_append, List.length_singleton] at n1 HE
                have t0 : (((ws.length + 1 : Nat) : Int) == 0) = false := by simp; omega
                clear h3 HW2
                generalize w2.setCell ⟨g5, 1, none⟩ (.slice A' (ws.length + 1) c') = W6 at *
                go_wp2
                obtain ⟨hv, hc⟩ := pn_vst HE.out
                exact rparse_fin HN.out (by rw [List.length_append, List.length_singleton]) HE.out hv hc rfl rfl rfl rfl
              | false =>
                have HN := hide (rp_end_out HI.out (bl_len s).symm)
                rw [bl_len] at HN
                by_cases h0 : ws = []
                · have HN2 := hide (HN.out.trans (if_pos h0))
                  have HE2 := hide (pn_err HR.out)
                  have t0 : ((ws.length : Int) == 0) = true := by rw [h0]; rfl
                  clear HI HN h0
                  go_wp2
                  exact rparse_fin (A := none) (c := 0) HN2.out rfl HE2.out (vst_nil _) (Nat.le_refl _) rfl rfl rfl rfl
                · have HN2 := hide (HN.out.trans (if_neg h0))
                  have HE := hide (pn_fin HR.out)
                  have t0 : ((ws.length : Int) == 0) = false := by
                    have : ws.length ≠ 0 := fun e => h0 (List.eq_nil_of_length_eq_zero e)
                    simpa using this
                  clear HI HN h0
                  go_wp2
                  obtain ⟨hv, hc⟩ := pn_vst HE.out
                  exact rparse_fin HN2.out rfl HE.out hv hc rfl rfl rfl rfl
end Go.Proofs.YtcgmikpmbomliaaDoor
namespace Go.Proofs.YtcgmikpmbomliaaDoor
open Go.RowKit Go.CH Go.CH.Scr
open Go.ChangeMaps (setBlock)
theorem cap_step {l : Bs} {j : Nat} {x : UInt8} (h : l[j]? = some x) : (capital (l.take j) || (decide ((65 : Int) ≤ (x.toNat : Int)) && decide ((x.toNat : Int) ≤ 90))) = capital (l.take (j + 1)) := by
  obtain ⟨h1, h2⟩ := List.getElem?_eq_some_iff.1 h
  rw [List.take_succ_eq_append_getElem h1, h2]
  unfold capital
  rw [List.any_append]
  simp only [List.any_cons, List.any_nil, Bool.or_false]
  congr 2
  · refine decide_eq_decide.2 ⟨fun h => UInt8.le_iff_toNat_le.2 (show 65 ≤ x.toNat by omega), fun h => ?_⟩
    have := UInt8.le_iff_toNat_le.1 h
    simp at this
    omega
  · refine decide_eq_decide.2 ⟨fun h => UInt8.le_iff_toNat_le.2 (show x.toNat ≤ 90 by omega), fun h => ?_⟩
    have := UInt8.le_iff_toNat_le.1 h
    simp at this
    omega
theorem foldN_ok {k : Int} {l : Bs} (h : word k l = true) : foldN k l = (lower l, 0) := by unfold foldN; rw [if_pos h]
theorem foldN_no {k : Int} {l : Bs} (h : word k l = false) : foldN k l = ([], 1) := by unfold foldN; rw [h]; rfl
theorem fold_get {k : Int} {l : Bs} {i : Nat} (hi : i < (ltrs k l).1.length) : foldN k (ltrs k l).1[i] = (lower (ltrs k l).1[i], 0) := by
  have h := ltrs_each (k := k) l _ (List.getElem_mem hi)
  exact foldN_ok (letter_word h)
set_option maxRecDepth 100000 in
set_option maxHeartbeats 12800000 in
theorem law_folds (k : Int) (s : ByteArray) (w : World) (hz : LZ w) : Calls Tryd.prog 6 #[.int .i64 k, .string s] w (BelowRet w (.bool true)) := by
  have HZ := hide hz
  have KH := hide (head_any w hz)
  have KS := hide (fun (W : World) => sho_ex (W := W) (l := [bl s]) (cs := #[.string s]) (n := 1) (by simp [strB, bs_bl]) rfl (by omega) rfl)
  clear hz
  cases hf : fewB 200 [bl s] with
  | false =>
    rw [hf] at KS
    clear hf
    go_enter Tryd.func6, Tryd.ntmps6
    go_wp2_with fail
    refine (KH.out).mono ?_
    rintro e9 w1 ⟨rfl, hb⟩
    have S1 := hide (hb)
    clear KH
    clear hb
    go_wp2_with fail
    refine (KS.out w1).mono ?_
    rintro e9 w2 ⟨rfl, hb⟩
    have S2 := hide (bel_trans (bel_new _ (Below.refl _ _)) hb)
    clear KS
    clear hb
    go_wp2
    go_ret
    exact ⟨rfl, (bel_trans S1.out S2.out)⟩
  | true =>
    have hs := few_one hf
    rw [hf] at KS
    clear hf
    have hs8 : s.size ≤ 1000000 := by omega
    cases hw : word k (bl s) with
    | false =>
      have KF := hide (fun W hz => fold_ex k s (t := ⟨#[]⟩) (x := 1) (foldN_no hw) hs8 W hz)
      have KL := hide (fun W hz => ltr_ex k s (ltrs_no hw) (n := 0) rfl hs8 W hz)
      clear hw
      go_enter Tryd.func6, Tryd.ntmps6
      go_wp2_with fail
      refine (KH.out).mono ?_
      rintro e9 w1 ⟨rfl, hb⟩
      have S1 := hide (hb)
      clear KH
      clear hb
      go_wp2_with fail
      refine (KS.out w1).mono ?_
      rintro e9 w2 ⟨rfl, hb⟩
      have S2 := hide (bel_trans (bel_new _ (Below.refl _ _)) hb)
      clear KS
      clear hb
      go_wp2_with fail
      refine (KF.out w2 (HZ.out.below (bel_trans S1.out S2.out))).mono ?_
      rintro e9 w3 ⟨rfl, hb⟩
      have S3 := hide (hb)
      clear KF
      clear hb
      go_wp2_with fail
      refine (KL.out w3 (HZ.out.below (bel_trans (bel_trans S1.out S2.out) S3.out))).mono ?_
      rintro e9 w4 ⟨A, c, rfl, hb, hv⟩
      have S4 := hide (hb)
      have VL := hide hv
      clear KL hv
      clear hb
      go_wp2
      go_ret
      exact ⟨rfl, (bel_trans (bel_trans (bel_trans S1.out S2.out) S3.out) S4.out)⟩
    | true =>
      have hw1 := word_iff.1 hw
      have hw2 := fold_word hw
      obtain ⟨t, ht⟩ : ∃ t : ByteArray, t = bs (lower (bl s)) := ⟨_, rfl⟩
      have htl : bl t = lower (bl s) := by rw [ht, bl_bs]
      have hts : t.size ≤ 1000000 := by rw [← bl_len, htl, lower_len, bl_len]; omega
      have KF := hide (fun W hz => fold_ex k s (t := t) (x := 0) (by rw [foldN_ok hw, htl]) hs8 W hz)
      have KL := hide (fun W hz => ltr_ex k s (ltrs_N hw) rfl hs8 W hz)
      have KG := hide (fun W hz => fold_ex k t (t := t) (x := 0) (by rw [htl, foldN_ok hw2, lower_lower]) hts W hz)
      have KM := hide (fun W hz => ltr_ex k t (r := (ltrs k (bl s)).1.map lower) (x := 0) (n := (ltrs k (bl s)).1.length) (by rw [htl, ltrs_N hw2, fold_letters hw]) (by rw [List.length_map]) hts W hz)
      have HG := hide (fun i (hi : i < (ltrs k (bl s)).1.length) => fold_get hi)
      have HGS := hide (fun i (hi : i < (ltrs k (bl s)).1.length) => show (bs (ltrs k (bl s)).1[i]).size ≤ 1000000 by rw [bs_size]; have := ltr_size hi; rw [bl_len] at this; omega)
      have HCK := hide (fun hc => cap_cased hw hc)
      have HNE := hide (show (t ≠ s) ↔ capital (bl s) = true by
        rw [← lower_ne]
        constructor
        · intro h e; exact h (by rw [ht, e, bs_bl])
        · intro h e; exact h (by rw [← htl, e]))
      have h1 : 1 ≤ (ltrs k (bl s)).1.length := hw1.2.1
      have h2 : (ltrs k (bl s)).1.length ≤ 12 := hw1.2.2
      clear hw hw1 hw2 ht htl
      generalize (ltrs k (bl s)).1 = xs at *
      obtain ⟨n, hn⟩ : ∃ n, n = xs.length := ⟨_, rfl⟩
      have HN := hide hn
      rw [← hn] at h1 h2 KL KM
      clear hn
      go_enter Tryd.func6, Tryd.ntmps6
      go_wp2_with fail
      refine (KH.out).mono ?_
      rintro e9 w1 ⟨rfl, hb⟩
      have S1 := hide (hb)
      clear KH
      clear hb
      go_wp2_with fail
      refine (KS.out w1).mono ?_
      rintro e9 w2 ⟨rfl, hb⟩
      have S2 := hide (bel_trans (bel_new _ (Below.refl _ _)) hb)
      clear KS
      clear hb
      go_wp2_with fail
      refine (KF.out w2 (HZ.out.below (bel_trans S1.out S2.out))).mono ?_
      rintro e9 w3 ⟨rfl, hb⟩
      have S3 := hide (hb)
      clear KF
      clear hb
      go_wp2_with fail
      refine (KL.out w3 (HZ.out.below (bel_trans (bel_trans S1.out S2.out) S3.out))).mono ?_
      rintro e9 w4 ⟨A, c, rfl, hb, hv⟩
      have S4 := hide (hb)
      have VL := hide hv
      clear KL hv
      clear hb
      go_wp2_with fail
      refine (KG.out w4 (HZ.out.below (bel_trans (bel_trans (bel_trans S1.out S2.out) S3.out) S4.out))).mono ?_
      rintro e9 w5 ⟨rfl, hb⟩
      have S5 := hide (hb)
      clear KG
      clear hb
      go_wp2_with fail
      refine (KM.out w5 (HZ.out.below (bel_trans (bel_trans (bel_trans (bel_trans S1.out S2.out) S3.out) S4.out) S5.out))).mono ?_
      rintro e9 w6 ⟨A2, c2, rfl, hb, hv⟩
      have S6 := hide (hb)
      have VM := hide hv
      clear KM hv
      clear hb
      go_wp2
      go_loopw [14] (fun i wr => ∃ j : Nat, j ≤ n ∧ i = .int .i64 (j : Int) ∧ Below w6.heap.size w6 wr) (fun i _ => n - (intOf i).toNat)
      case atStart => exact ⟨0, Nat.zero_le _, rfl, Below.refl _ _⟩
      case round =>
        obtain ⟨j, hj, rfl, hb⟩ := hrel
        have S7 := hide hb
        clear hb
        by_cases hlt : j < n
        · have hjx : j < xs.length := by rw [← HN.out]; exact hlt
          obtain ⟨b, o, rfl, hc⟩ := (VL.out.below (bel_trans (bel_trans S5.out S6.out) S7.out)).at (by omega)
          have ck := hc _ (Below.refl _ _) j hjx
          obtain ⟨b2, o2, rfl, hc2⟩ := (VM.out.below S7.out).at (by rw [List.length_map]; omega)
          have CK2 := hide (fun W (h : Below wr.heap.size wr W) => hc2 W h j (by rw [List.length_map]; omega))
          simp only [List.getElem_map] at CK2
          have KO := hide (fold_ex k (bs xs[j]) (t := bs (lower xs[j])) (x := 0) (by rw [bl_bs]; exact HG.out j hjx) (HGS.out j hjx) wr (HZ.out.below (bel_trans (bel_trans (bel_trans (bel_trans (bel_trans (bel_trans S1.out S2.out) S3.out) S4.out) S5.out) S6.out) S7.out)))
          clear hc hc2 HG HGS
          generalize xs[j] = x at *
          clear hjx
          generalize bs (lower x) = y at *
          go_wp2_with fail
          refine KO.out.mono ?_
          rintro e9 w9 ⟨rfl, hb⟩
          have ck2 := CK2.out _ hb
          have SB := hide (bel_trans S7.out hb)
          clear KO hb CK2 ck
          go_wp2
          go_roundw
          case rel => exact ⟨j + 1, by omega, by go_num, SB.out⟩
          case measure => simp [intOf]; omega
        · go_wp2
          clear VL VM HG HGS
          go_loopw [17, 18] (fun c i wq => ∃ j : Nat, j ≤ s.size ∧ i = .int .i64 (j : Int) ∧ c = .bool (capital ((bl s).take j)) ∧ Below wr.heap.size wr wq) (fun _ i _ => s.size - (intOf i).toNat)
          case atStart => exact ⟨0, Nat.zero_le _, rfl, rfl, Below.refl _ _⟩
          case round =>
            obtain ⟨i, hi, rfl, rfl, hb⟩ := hrel
            have S8 := hide hb
            clear hb
            by_cases hlt2 : (i : Int) < (s.size : Int)
            · have hpl : i < s.size := by omega
              obtain ⟨x, hx⟩ : ∃ x : UInt8, s[i] = x := ⟨_, rfl⟩
              have HNX := hide (cap_step (show (bl s)[i]? = some x by rw [bl_at s i hpl, hx]))
              have hx256 := x.toNat_lt
              generalize capital ((bl s).take i) = q0 at *
              cases q0 with
              | true =>
                go_wp2
                go_roundw
                case rel => exact ⟨i + 1, by omega, by go_num, by rw [← HNX.out]; simp only [Bool.true_or], S8.out⟩
                case measure => simp [intOf]; omega
              | false =>
                by_cases g1 : (65 : Int) ≤ (x.toNat : Int)
                · by_cases g2 : (x.toNat : Int) ≤ 90
                  · go_wp2
                    go_roundw
                    case rel => exact ⟨i + 1, by omega, by go_num, by rw [← HNX.out]; simp only [decide_eq_true g1, decide_eq_true g2, Bool.and_self, Bool.false_or], S8.out⟩
                    case measure => simp [intOf]; omega
                  · go_wp2
                    go_roundw
                    case rel => exact ⟨i + 1, by omega, by go_num, by rw [← HNX.out]; simp only [decide_eq_true g1, decide_eq_false g2, Bool.and_false, Bool.false_or], S8.out⟩
                    case measure => simp [intOf]; omega
                · go_wp2
                  go_roundw
                  case rel => exact ⟨i + 1, by omega, by go_num, by rw [← HNX.out]; simp only [decide_eq_false g1, Bool.false_and, Bool.false_or], S8.out⟩
                  case measure => simp [intOf]; omega
            · obtain rfl : i = s.size := by omega
              have hca : capital ((bl s).take s.size) = capital (bl s) := by rw [← bl_len, List.take_length]
              rw [hca]
              clear hca
              cases hc : capital (bl s) with
              | true =>
                have hne : t ≠ s := HNE.out.2 hc
                obtain rfl : k = 2 := HCK.out hc
                have t1 : (t == s) = false := by rw [bytes_dec]; simpa using hne
                have t2 : (t != s) = true := by rw [bne, t1]; rfl
                have t3 : (t.toList == s.toList) = false := by rw [toList_beq]; simpa using hne
                have t4 : ¬ t.toList = s.toList := by simpa using t3
                clear hc hne HNE HCK
                go_wp2
                go_ret
                exact ⟨rfl, (bel_trans (bel_trans (bel_trans (bel_trans (bel_trans (bel_trans (bel_trans S1.out S2.out) S3.out) S4.out) S5.out) S6.out) S7.out) S8.out)⟩
              | false =>
                have heq : t = s := Classical.byContradiction fun h => by rw [HNE.out.1 h] at hc; cases hc
                clear hc HNE HCK
                subst heq
                go_wp2
                go_ret
                exact ⟨rfl, (bel_trans (bel_trans (bel_trans (bel_trans (bel_trans (bel_trans (bel_trans S1.out S2.out) S3.out) S4.out) S5.out) S6.out) S7.out) S8.out)⟩
end Go.Proofs.YtcgmikpmbomliaaDoor
