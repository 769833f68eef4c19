/-
  Script: the reader, word by word; a text cut at its colon. Plainly.
  Script: what Parse leans on: the map of titles, the text cut at its colon.
  Script: Parse: how it starts and ends.
  Script: the reference's letters, plainly: position by position.
  Script: Parse: what the reader's loop holds, how it is left.
-/
import Derived.Test.YtcgmikpmbomliaaDoorSL2
import Derived.Test.YtcgmikpmbomliaaDoorSL8
set_option linter.unusedSimpArgs false
set_option linter.unusedVariables false
namespace Go.CH.Scr
section
variable {k : Int} {l : Bs} {ws : List Bs} {o : Nat}
/-- The bytes of the first i letters. -/
def eat (k : Int) (l : Bs) : Nat → Nat
  | 0 => 0
  | i + 1 => eat k l i + len1 k (l.drop (eat k l i))
theorem eat_ltrs : ∀ i, i ≤ (ltrs k l).1.length → ltrs k (l.drop (eat k l i)) = ((ltrs k l).1.drop i, (ltrs k l).2) ∧ eat k l i ≤ l.length := by
  intro i
  induction i with
  | zero => intro _; exact ⟨rfl, Nat.zero_le _⟩
  | succ i ih =>
    intro hi
    obtain ⟨h, hle⟩ := ih (by omega)
    have hd : (ltrs k l).1.drop i = (ltrs k l).1[i] :: (ltrs k l).1.drop (i + 1) := List.drop_eq_getElem_cons (by omega)
    have hn : len1 k (l.drop (eat k l i)) ≠ 0 := fun h0 => by
      rw [ltrs_stop h0, hd] at h
      cases h
    have h3 := len1_le (k := k) (l := l.drop (eat k l i))
    rw [List.length_drop] at h3
    rw [ltrs_step hn, hd, List.drop_drop] at h
    have h1 := congrArg Prod.fst h
    have h2 := congrArg Prod.snd h
    simp only [List.cons.injEq] at h1 h2
    exact ⟨Prod.ext h1.2 h2, by show eat k l i + _ ≤ _; omega⟩
theorem eat_next {i : Nat} (hi : i < (ltrs k l).1.length) : len1 k (l.drop (eat k l i)) ≠ 0 := fun h0 => by
  have h := (eat_ltrs (k := k) (l := l) i (by omega)).1
  have hd : (ltrs k l).1.drop i = (ltrs k l).1[i] :: (ltrs k l).1.drop (i + 1) := List.drop_eq_getElem_cons (by omega)
  rw [ltrs_stop h0, hd] at h
  cases h
theorem eat_stop : len1 k (l.drop (eat k l (ltrs k l).1.length)) = 0 := by
  have h := (eat_ltrs (k := k) (l := l) _ (Nat.le_refl _)).1
  rw [List.drop_length] at h
  refine Classical.byContradiction fun hn => ?_
  rw [ltrs_step hn] at h
  cases h
/-- Reading on behind i letters. -/
theorem read_upto : ∀ i, i ≤ (ltrs k l).1.length → (i = 0 ∨ (i ≤ 12 ∧ ws.length ≠ 6)) → read k ws [] 0 o l = read k ws (l.take (eat k l i)) i (o + eat k l i) (l.drop (eat k l i)) := by
  intro i
  induction i with
  | zero => intro _ _; simp [eat]
  | succ i ih =>
    intro hi hc
    rw [ih (by omega) (by omega), read_letter (eat_next (by omega)) (by omega), List.drop_drop, ← List.take_add, Nat.add_assoc]
    rfl
/-- Too many letters or words. -/
theorem read_many {i : Nat} (hi : i < (ltrs k l).1.length) (h0 : i = 0 ∨ (i ≤ 12 ∧ ws.length ≠ 6)) (h : i = 12 ∨ ws.length = 6) : read k ws [] 0 o l = .err 2 (o + eat k l i : Nat) := by
  rw [read_upto i (by omega) h0, read_limit (eat_next hi) h]
/-- Behind a word: the end, a blank, another byte. -/
theorem read_end (hc : (ltrs k l).1.length = 0 ∨ ((ltrs k l).1.length ≤ 12 ∧ ws.length ≠ 6)) (h : l.drop (eat k l (ltrs k l).1.length) = []) :
    read k ws [] 0 o l = .ok (close ws (l.take (eat k l (ltrs k l).1.length)) (ltrs k l).1.length) := by
  rw [read_upto _ (Nat.le_refl _) hc, h, read_nil]
theorem read_next {r : Bs} (hc : (ltrs k l).1.length = 0 ∨ ((ltrs k l).1.length ≤ 12 ∧ ws.length ≠ 6)) (h : l.drop (eat k l (ltrs k l).1.length) = 32 :: r) :
    read k ws [] 0 o l = read k (close ws (l.take (eat k l (ltrs k l).1.length)) (ltrs k l).1.length) [] 0 (o + eat k l (ltrs k l).1.length + 1) r := by
  rw [read_upto _ (Nat.le_refl _) hc, h, read_blank]
theorem read_other {a : UInt8} {r : Bs} (hc : (ltrs k l).1.length = 0 ∨ ((ltrs k l).1.length ≤ 12 ∧ ws.length ≠ 6)) (h : l.drop (eat k l (ltrs k l).1.length) = a :: r) (ha : a ≠ 32) :
    read k ws [] 0 o l = .err 3 (o + eat k l (ltrs k l).1.length : Nat) := by
  have h0 := eat_stop (k := k) (l := l)
  rw [h] at h0
  rw [read_upto _ (Nat.le_refl _) hc, h, read_char ha h0]
/-- The script whose name a text is. -/
def kOf (b : Bs) : Int := if b = plainT then 1 else if b = casedT then 2 else if b = abjadT then 3 else if b = syllabT then 4 else 0
theorem app_colon {a b r s : Bs} (ha : (58 : UInt8) ∉ a) (hb : (58 : UInt8) ∉ b) (h : a ++ 58 :: r = b ++ 58 :: s) : a = b ∧ r = s := by
  induction a generalizing b with
  | nil =>
    cases b with
    | nil => exact ⟨rfl, by simpa using h⟩
    | cons y b =>
      simp only [List.nil_append, List.cons_append, List.cons.injEq] at h
      exact absurd (by rw [← h.1]; exact List.mem_cons_self ..) hb
  | cons x a ih =>
    cases b with
    | nil =>
      simp only [List.nil_append, List.cons_append, List.cons.injEq] at h
      exact absurd (by rw [h.1]; exact List.mem_cons_self ..) ha
    | cons y b =>
      simp only [List.cons_append, List.cons.injEq] at h
      obtain ⟨e1, e2⟩ := ih (fun h => ha (List.mem_cons_of_mem _ h)) (fun h => hb (List.mem_cons_of_mem _ h)) h.2
      exact ⟨by rw [h.1, e1], e2⟩
theorem no_colon (k : Int) : (58 : UInt8) ∉ title k := by
  unfold title
  split
  · decide
  split
  · decide
  split <;> decide
theorem pre_no {t : Bs} (h : (58 : UInt8) ∉ t) : pre t = (0, 0) := by
  refine Classical.byContradiction fun hn => ?_
  by_cases h0 : (pre t).1 = 0
  · unfold pre at h0 hn
    repeat' split at h0
    all_goals first | exact absurd h0 (by decide) | skip
    rename_i h1 h2 h3 h4
    rw [if_neg h1, if_neg h2, if_neg h3, if_neg h4] at hn
    exact hn rfl
  · obtain ⟨r, hr, -⟩ := pre_is h0
    rw [hr] at h
    exact h (List.mem_append_right _ (List.mem_cons_self ..))
theorem pre_cut {b r : Bs} (h : (58 : UInt8) ∉ b) : (pre (b ++ 58 :: r)).1 = kOf b ∧ (kOf b ≠ 0 → (pre (b ++ 58 :: r)).2 = b.length + 1) := by
  unfold kOf
  by_cases h1 : b = plainT
  · subst h1; exact ⟨by rw [show plainT = title 1 from rfl, pre_title (.inl rfl)]; rfl, fun _ => by rw [show plainT = title 1 from rfl, pre_title (.inl rfl)]⟩
  rw [if_neg h1]
  by_cases h2 : b = casedT
  · subst h2; exact ⟨by rw [show casedT = title 2 from rfl, pre_title (.inr (.inl rfl))]; rfl, fun _ => by rw [show casedT = title 2 from rfl, pre_title (.inr (.inl rfl))]⟩
  rw [if_neg h2]
  by_cases h3 : b = abjadT
  · subst h3; exact ⟨by rw [show abjadT = title 3 from rfl, pre_title (.inr (.inr (.inl rfl)))]; rfl, fun _ => by rw [show abjadT = title 3 from rfl, pre_title (.inr (.inr (.inl rfl)))]⟩
  rw [if_neg h3]
  by_cases h4 : b = syllabT
  · subst h4; exact ⟨by rw [show syllabT = title 4 from rfl, pre_title (.inr (.inr (.inr rfl)))]; rfl, fun _ => by rw [show syllabT = title 4 from rfl, pre_title (.inr (.inr (.inr rfl)))]⟩
  rw [if_neg h4]
  refine ⟨?_, fun h => absurd rfl h⟩
  refine Classical.byContradiction fun h0 => ?_
  obtain ⟨s, hs, -, hk⟩ := pre_is h0
  have hb := (app_colon h (no_colon _) hs).1
  rcases hk with hk | hk | hk | hk <;> rw [hk] at hb
  · exact h1 hb
  · exact h2 hb
  · exact h3 hb
  · exact h4 hb
end
end Go.CH.Scr
namespace Go.Proofs.YtcgmikpmbomliaaDoor
open Go.RowKit Go.CH Go.CH.Scr
open Go.ChangeMaps (setBlock)
theorem index_cons (a c : UInt8) (l : Bs) : Lib.indexByte (a :: l) c = if a == c then 0 else if Lib.indexByte l c = -1 then -1 else Lib.indexByte l c + 1 := by
  rw [Lib.indexByte]
  simp
theorem cut_cons (a : UInt8) (l : Bs) (ha : a ≠ 58) : Lib.cut (a :: l) [58] = if (Lib.cut l [58]).2.2 then (a :: (Lib.cut l [58]).1, (Lib.cut l [58]).2.1, true) else (a :: l, [], false) := by
  unfold Lib.cut
  rw [Lib.index_one, Lib.index_one, index_cons]
  have hb : (a == 58) = false := by simpa using ha
  rw [hb]
  have hge := Lib.indexByte_ge l 58
  by_cases h : Lib.indexByte l 58 = -1
  · simp [h]
  · have h0 : 0 ≤ Lib.indexByte l 58 := by omega
    have h1 : (Lib.indexByte l 58 + 1).toNat = (Lib.indexByte l 58).toNat + 1 := by omega
    simp [h, h0, h1, show 0 ≤ Lib.indexByte l 58 + 1 by omega]
theorem cut_colon : ∀ t : Bs, (∃ b r, t = b ++ 58 :: r ∧ (58 : UInt8) ∉ b ∧ Lib.cut t [58] = (b, r, true)) ∨ ((58 : UInt8) ∉ t ∧ Lib.cut t [58] = (t, [], false))
  | [] => .inr ⟨by simp, by decide⟩
  | a :: l => by
    by_cases ha : a = 58
    · subst ha
      refine .inl ⟨[], l, rfl, by simp, ?_⟩
      unfold Lib.cut
      rw [Lib.index_one, index_cons]
      simp
    · rcases cut_colon l with ⟨b, r, h1, h2, h3⟩ | ⟨h2, h3⟩
      · refine .inl ⟨a :: b, r, by rw [h1]; rfl, ?_, by rw [cut_cons a l ha, h3]; rfl⟩
        intro h
        rcases List.mem_cons.1 h with h | h
        · exact ha h.symm
        · exact h2 h
      · refine .inr ⟨?_, by rw [cut_cons a l ha, h3]; rfl⟩
        intro h
        rcases List.mem_cons.1 h with h | h
        · exact ha h.symm
        · exact h2 h
/-- The map's entries behind i rounds. -/
def scl : List (ByteArray × Value) := [(⟨#[]⟩, .int .i64 0), (bs plainT, .int .i64 1), (bs casedT, .int .i64 2), (bs abjadT, .int .i64 3), (bs syllabT, .int .i64 4)]
theorem scl_get (b : ByteArray) : (mget scl b).getD (.int .i64 0) = .int .i64 (kOf (bl b)) := by
  have e : ∀ t : Bs, (b = bs t) ↔ (bl b = t) := fun t => ⟨fun h => by rw [h]; rfl, fun h => by rw [← h, bs_bl]⟩
  have e0 : (b = (⟨#[]⟩ : ByteArray)) ↔ (bl b = []) := e []
  unfold mget scl kOf
  simp only [fnd, e, e0]
  by_cases h0 : bl b = []
  · rw [h0]; rfl
  by_cases h1 : bl b = plainT
  · rw [h1]; rfl
  by_cases h2 : bl b = casedT
  · rw [h2]; rfl
  by_cases h3 : bl b = abjadT
  · rw [h3]; rfl
  by_cases h4 : bl b = syllabT
  · rw [h4]; rfl
  simp [h0, h1, h2, h3, h4]
theorem keyStr : KeyOk Tryd.prog 9 Value.string := keyOk_str Tryd.underlying9
theorem zeroI : ∀ w, (zeroValue 3).run Tryd.prog w = .ok (.int .i64 0) w := fun w => by kernel_rfl
/-- A round of the map's making. -/
theorem scl_put {k : Nat} (hk : k < 5) : mput (scl.take k) (scl[k]'(by simp [scl]; omega)).1 (scl[k]'(by simp [scl]; omega)).2 = scl.take (k + 1) := by
  match k, hk with
  | 0, _ => rfl
  | 1, _ => exact (mput_new_ (l := [(⟨#[]⟩, .int .i64 0)]) (k := bs plainT) (v := .int .i64 1) (by simp only [List.map_cons, List.map_nil, List.mem_cons, List.not_mem_nil, or_false, not_or]; decide +kernel)).trans rfl
  | 2, _ => exact (mput_new_ (l := [(⟨#[]⟩, .int .i64 0), (bs plainT, .int .i64 1)]) (k := bs casedT) (v := .int .i64 2) (by simp only [List.map_cons, List.map_nil, List.mem_cons, List.not_mem_nil, or_false, not_or]; decide +kernel)).trans rfl
  | 3, _ => exact (mput_new_ (l := [(⟨#[]⟩, .int .i64 0), (bs plainT, .int .i64 1), (bs casedT, .int .i64 2)]) (k := bs abjadT) (v := .int .i64 3) (by simp only [List.map_cons, List.map_nil, List.mem_cons, List.not_mem_nil, or_false, not_or]; decide +kernel)).trans rfl
  | 4, _ => exact (mput_new_ (l := [(⟨#[]⟩, .int .i64 0), (bs plainT, .int .i64 1), (bs casedT, .int .i64 2), (bs abjadT, .int .i64 3)]) (k := bs syllabT) (v := .int .i64 4) (by simp only [List.map_cons, List.map_nil, List.mem_cons, List.not_mem_nil, or_false, not_or]; decide +kernel)).trans rfl
theorem run_idx5 {a b c d e v : Value} {k : Int} (hk : k = 0 ∧ v = a ∨ k = 1 ∧ v = b ∨ k = 2 ∧ v = c ∨ k = 3 ∧ v = d ∨ k = 4 ∧ v = e) (w : World) : (Instr.index 52 (.agg #[a, b, c, d, e]) (.int .i64 k)).run Tryd.prog w = .ok v w := by
  rcases hk with ⟨rfl, rfl⟩ | hk
  · have h := Tryd.underlying52
    have h9 := Tryd.underlying9
    have hi' : (Tryd.prog.info? 9).map (fun i => (i.zero, i.size, i.bytes)) = some (some (.string ByteArray.empty), 1, 16) := by kernel_rfl
    obtain ⟨i0, hi, hz0, hz1, hz2⟩ := info_parts hi'
    unfold Instr.index
    simp [run_underlying h, sizeOf, typeInfo, isAgg, run_underlying h9, asIntOf, part, Sem.run_bind, Result.andThen_ok, hi, hz1, asInt]
  · exact run_idx hk w
end Go.Proofs.YtcgmikpmbomliaaDoor
namespace Go.Proofs.YtcgmikpmbomliaaDoor
open Go.RowKit Go.CH Go.CH.Scr
open Go.ChangeMaps (setBlock)
attribute [local go_sem] Oper.semAt_some
theorem run_loadVar_int {P : Program} (w : World) (g : Nat) (t ty : TypeId) (v : Value) (k : IntKind) (x : Int) (hv : v = .int k x) (hg : w.cell? ⟨g, 0, none⟩ = some v) (hu : P.underlying ty = some (.int k)) :
    (loadVar ty ⟨g, 0, none⟩).run P w = .ok v w := by
  subst hv
  unfold loadVar
  simp [isAgg, run_underlying hu, Sem.run_bind, hg]
theorem res3 {fn : Func} (h : fn.results = #[.cell 2 24, .cell 3 28, .cell 4 3]) (tmps : Array Value) (w : World) (g2 g3 g4 : Nat) (k x y : Int) (A : Option Addr) (n c : Nat)
    (h2 : tmps.getD 2 undef = .pointer (some ⟨g2, 0, none⟩)) (h3 : tmps.getD 3 undef = .pointer (some ⟨g3, 0, none⟩)) (h4 : tmps.getD 4 undef = .pointer (some ⟨g4, 0, none⟩))
    (c2 : w.heap[g2]? = some (.cells #[.int .i64 k, .slice A n c] 24)) (c3 : w.cell? ⟨g3, 0, none⟩ = some (.int .i64 x)) (c4 : w.cell? ⟨g4, 0, none⟩ = some (.int .i64 y)) :
    (results fn tmps).run Tryd.prog w = .ok (.tuple #[.agg #[.int .i64 k, .slice A n c], .int .i64 x, .int .i64 y]) w := by
  have h2' : tmps[2]?.getD undef = .pointer (some ⟨g2, 0, none⟩) := by simpa using h2
  have h3' : tmps[3]?.getD undef = .pointer (some ⟨g3, 0, none⟩) := by simpa using h3
  have h4' : tmps[4]?.getD undef = .pointer (some ⟨g4, 0, none⟩) := by simpa using h4
  have r2 := run_loadVar_row (P := Tryd.prog) w g2 24 24 #[.int .i64 k, .slice A n c] (0, 0) _ c2 Tryd.underlying24 rfl (by kernel_rfl)
  have r3 := run_loadVar_int (P := Tryd.prog) w g3 28 28 _ .i64 x rfl c3 (by kernel_rfl)
  have r4 := run_loadVar_int (P := Tryd.prog) w g4 3 3 _ .i64 y rfl c4 (by kernel_rfl)
  simp only [results, h]
  simp [Sem.run_bind, Result.andThen, h2', h3', h4', asAddr, r2, r3, r4]
/-- What Parse hands back. -/
def ParseRet (w : World) (r : NameM × Int × Int) (e : Ending) (w' : World) : Prop :=
  ∃ A c, e = .returned (.tuple #[nmV r.1 A c, .int .i64 r.2.1, .int .i64 r.2.2]) ∧ Below w.heap.size w w' ∧ Vst w' A r.1.ws ∧ r.1.ws.length ≤ c
/-- The three results in their blocks. -/
def ResO (g2 g3 g4 : Nat) : CH.Own := star (CellO g2 #[.int .i64 0, .slice none 0 0] 24) (star (CellO g3 #[.int .i64 0] 28) (CellO g4 #[.int .i64 0] 3))
theorem res_ok {g2 g3 g4 : Nat} : (ResO g2 g3 g4).Ok := star_ok cell_ok (star_ok cell_ok cell_ok)
theorem parse_start (w : World) : Run (fun _ => False) w (star (MapO Value.string (w.heap.size + 3) (scl.take 0)) (ResO w.heap.size (w.heap.size + 1) (w.heap.size + 2)))
    ((((w.alloc (.cells #[.int .i64 0, .slice none 0 0] 24)).alloc (.cells #[.int .i64 0] 28)).alloc (.cells #[.int .i64 0] 3)).alloc (.map #[] 0)) := by
  have h1 := (Run.begin w).fresh emp_ok (cell_new w #[.int .i64 0, .slice none 0 0] 24)
  have h2 := h1.fresh (star_ok cell_ok emp_ok) (cell_new _ #[.int .i64 0] 28)
  have h3 := h2.fresh (star_ok cell_ok (star_ok cell_ok emp_ok)) (cell_new _ #[.int .i64 0] 3)
  have h4 := h3.fresh (star_ok cell_ok (star_ok cell_ok (star_ok cell_ok emp_ok))) (map_new (kv := Value.string) _)
  simp only [World.size_alloc] at h4
  exact (h4.perm (by unfold ResO; ac_rfl : _ = star (star (MapO Value.string (w.heap.size + 1 + 1 + 1) []) (ResO w.heap.size (w.heap.size + 1) (w.heap.size + 1 + 1))) emp)).swap.drop
theorem parse_far (w : World) (x y : Int) : Run (fun _ => False) w (star (CellO w.heap.size #[.int .i64 0, .slice none 0 0] 24) (star (CellO (w.heap.size + 1) #[.int .i64 x] 28) (star (CellO (w.heap.size + 1 + 1) #[.int .i64 y] 3) emp)))
    (((w.alloc (.cells #[.int .i64 0, .slice none 0 0] 24)).alloc (.cells #[.int .i64 x] 28)).alloc (.cells #[.int .i64 y] 3)) := by
  have h1 := (Run.begin w).fresh emp_ok (cell_new w #[.int .i64 0, .slice none 0 0] 24)
  have h2 := h1.fresh (star_ok cell_ok emp_ok) (cell_new _ #[.int .i64 x] 28)
  have h3 := h2.fresh (star_ok cell_ok (star_ok cell_ok emp_ok)) (cell_new _ #[.int .i64 y] 3)
  simp only [World.size_alloc] at h3
  exact h3.perm (by ac_rfl)
/-- The end, the results lying in their blocks. -/
theorem parse_fin {w W : World} {g2 g3 g4 : Nat} {k x y : Int} {A : Option Addr} {ws : List Bs} {c : Nat} {X : CH.Own} {tmps : Array Value} {r : NameM × Int × Int} (hr : r = (⟨k, ws⟩, x, y))
    (h : Run (fun _ => False) w (star (CellO g2 #[.int .i64 k, .slice A ws.length c] 24) (star (CellO g3 #[.int .i64 x] 28) (star (CellO g4 #[.int .i64 y] 3) X))) W) (hA : Vst W A ws) (hc : ws.length ≤ c)
    (h2 : tmps.getD 2 undef = .pointer (some ⟨g2, 0, none⟩)) (h3 : tmps.getD 3 undef = .pointer (some ⟨g3, 0, none⟩)) (h4 : tmps.getD 4 undef = .pointer (some ⟨g4, 0, none⟩)) :
    ∃ v, (results Tryd.f20 tmps).run Tryd.prog W = .ok v W ∧ ParseRet w r (.returned v) W := by
  subst hr
  obtain ⟨F2, k2⟩ := h.fst
  obtain ⟨c3, -⟩ := get2 h
  obtain ⟨c4, -⟩ := get3 h
  exact ⟨_, res3 rfl tmps W g2 g3 g4 k x y A ws.length c h2 h3 h4 k2.1 c3 c4, A, c, rfl, h.bel, hA, hc⟩
theorem vst_nil (w : World) : Vst w none [] := (vst_of (str_nil w) : Vst w none [])
def mark (D : Nat) : Deferred := { target := .collected D, args := #[] }
def marksO (Ds : List Nat) : CH.Own := bigStar (Ds.map fun D => ObjO D (.deferred (some [])))
theorem marks_ok {Ds : List Nat} : (marksO Ds).Ok := big_ok (fun A hA => by obtain ⟨z, _, rfl⟩ := List.mem_map.1 hA; exact obj_ok)
theorem leaves_marks {P : Program} {fn : Func} {tmps : Array Value} {R : Ending → World → Prop} {n : Nat} {F0 : Nat → Prop} {w0 : World} {X : CH.Own} (hX : X.Ok)
    (hbase : ∀ W, Run F0 w0 X W → ∃ v, (results fn tmps).run P W = .ok v W ∧ R (.returned v) W) : ∀ (Ds : List Nat) (W : World), Run F0 w0 (star (marksO Ds) X) W → LeavesInM Fence.wide n P fn tmps R (Ds.map mark) .returning W
  | [], W, h => hbase W h.drop
  | D :: Ds, W, h => by
    have h1 : Run F0 w0 (star (ObjO D (.deferred (some []))) (star (marksO Ds) X)) W := h.perm (by unfold marksO; rw [List.map_cons]; show star (star _ _) _ = _; ac_rfl)
    obtain ⟨F, hD, -, bk⟩ := h1.take obj_ok (star_ok marks_ok hX)
    refine ⟨by simp, .inl ⟨_, _, rfl, run_takeDeferred hD.1, ?_⟩⟩
    exact leaves_marks hX hbase Ds _ (bk _ _ (obj_put hD (.deferred none))).drop
end Go.Proofs.YtcgmikpmbomliaaDoor
namespace Go.CH.Scr
section
variable {k : Int} {l : Bs}
/-- While less than all has been eaten and a letter comes, it is the next one. -/
theorem eat_more {i : Nat} (hi : i ≤ (ltrs k l).1.length) (h : len1 k (l.drop (eat k l i)) ≠ 0) : i < (ltrs k l).1.length := by
  refine Classical.byContradiction fun hn => ?_
  have e : i = (ltrs k l).1.length := by omega
  rw [e] at h
  exact h eat_stop
theorem eat_at {i : Nat} (hi : i < (ltrs k l).1.length) : (ltrs k l).1[i] = (l.drop (eat k l i)).take (len1 k (l.drop (eat k l i))) := by
  have h := (eat_ltrs (k := k) (l := l) i (by omega)).1
  have hd : (ltrs k l).1.drop i = (ltrs k l).1[i] :: (ltrs k l).1.drop (i + 1) := List.drop_eq_getElem_cons (by omega)
  rw [ltrs_step (eat_next hi), hd] at h
  have h1 := congrArg Prod.fst h
  simp only [List.cons.injEq] at h1
  exact h1.1.symm
/-- No letter comes, and something is left: no word. -/
theorem eat_bad {i : Nat} (hi : i ≤ (ltrs k l).1.length) (hl : eat k l i < l.length) (h : len1 k (l.drop (eat k l i)) = 0) : (ltrs k l).2 ≠ [] := by
  have h1 := (eat_ltrs (k := k) (l := l) i hi).1
  rw [ltrs_stop h] at h1
  have h2 : l.drop (eat k l i) = (ltrs k l).2 := congrArg Prod.snd h1
  rw [← h2]
  intro h3
  have := congrArg List.length h3
  rw [List.length_drop] at this
  simp at this
  omega
/-- All has been eaten. -/
theorem eat_all {i : Nat} (hi : i ≤ (ltrs k l).1.length) (hl : eat k l i = l.length) : i = (ltrs k l).1.length ∧ (ltrs k l).2 = [] := by
  have h1 := (eat_ltrs (k := k) (l := l) i hi).1
  rw [hl, List.drop_length, ltrs_stop rfl] at h1
  have h2 : [] = (ltrs k l).1.drop i := congrArg Prod.fst h1
  have h3 : [] = (ltrs k l).2 := congrArg Prod.snd h1
  have := congrArg List.length h2
  rw [List.length_drop] at this
  simp at this
  exact ⟨by omega, h3.symm⟩
end
end Go.CH.Scr
namespace Go.Proofs.YtcgmikpmbomliaaDoor
open Go.RowKit Go.CH Go.CH.Scr
open Go.ChangeMaps (setBlock)
theorem res_store {F0 : Nat → Prop} {w W : World} {g2 g3 g4 : Nat} {u0 u1 u3 u4 : Value} {X : CH.Own} (hX : X.Ok) (v0 v1 v3 v4 : Value)
    (h : Run F0 w (star (CellO g2 #[u0, u1] 24) (star (CellO g4 #[u4] 3) (star (CellO g3 #[u3] 28) X))) W) :
    Run F0 w (star (CellO g2 #[v0, v1] 24) (star (CellO g3 #[v3] 28) (star (CellO g4 #[v4] 3) X))) ((((W.setCell ⟨g2, 0, none⟩ v0).setCell ⟨g2, 1, none⟩ v1).setCell ⟨g3, 0, none⟩ v3).setCell ⟨g4, 0, none⟩ v4) := by
  obtain ⟨F, hF, -, bk⟩ := h.take cell_ok (star_ok cell_ok (star_ok cell_ok hX))
  have h1 : Run F0 w (star (CellO g2 #[v0, u1] 24) _) _ := bk _ _ (cell_set hF 0 v0)
  obtain ⟨F, hF, -, bk⟩ := h1.take cell_ok (star_ok cell_ok (star_ok cell_ok hX))
  have h2 : Run F0 w (star (CellO g2 #[v0, v1] 24) _) _ := bk _ _ (cell_set hF 1 v1)
  have h3 := put3 cell_ok cell_ok hX h2 v3
  have h4 := put2 cell_ok (star_ok cell_ok hX) h3 v4
  exact h4.perm (by ac_rfl)
/-- The name under way. -/
def NmO (b g2 g3 g4 g11 : Nat) (k : Int) (A : Option Addr) (c : Nat) (ws : List Bs) : CH.Own :=
  star (CellO g11 #[.int .i64 k, .slice A ws.length c] 24) (star (StrO A c ws) (star (MapO Value.string b scl) (ResO g2 g3 g4)))
theorem nm_ok {b g2 g3 g4 g11 : Nat} {k : Int} {A : Option Addr} {c : Nat} {ws : List Bs} : (NmO b g2 g3 g4 g11 k A c ws).Ok := star_ok cell_ok (star_ok str_ok (star_ok map_ok res_ok))
theorem get1 {T : CH.Own} {F0 : Nat → Prop} {w0 W : World} {g : Nat} {cs : Array Value} {t : TypeId} (h : Run F0 w0 (star (CellO g cs t) T) W) {i : Nat} {v : Value} (hv : cs[i]? = some v) : W.cell? ⟨g, i, none⟩ = some v ∧ W.frozen? ⟨g, i, none⟩ = false := by
  obtain ⟨F, hF⟩ := h.fst
  exact ⟨cell_at hF hv, cell_free hF i⟩
theorem nm_name {b g2 g3 g4 g11 : Nat} {k : Int} {A : Option Addr} {c : Nat} {ws : List Bs} {X : CH.Own} {F0 : Nat → Prop} {w0 W : World} (h : Run F0 w0 (star (NmO b g2 g3 g4 g11 k A c ws) X) W) :
    (W.cell? ⟨g11, 0, none⟩ = some (.int .i64 k) ∧ W.frozen? ⟨g11, 0, none⟩ = false) ∧ (W.cell? ⟨g11, 1, none⟩ = some (.slice A ws.length c) ∧ W.frozen? ⟨g11, 1, none⟩ = false) := by
  have h1 := h.perm (by unfold NmO; ac_rfl : _ = star (CellO g11 #[.int .i64 k, .slice A ws.length c] 24) (star (star (StrO A c ws) (star (MapO Value.string b scl) (ResO g2 g3 g4))) X))
  exact ⟨get1 h1 rfl, get1 h1 rfl⟩
theorem nm_res {b g2 g3 g4 g11 : Nat} {k : Int} {A : Option Addr} {c : Nat} {ws : List Bs} {X : CH.Own} {F0 : Nat → Prop} {w0 W : World} (h : Run F0 w0 (star (NmO b g2 g3 g4 g11 k A c ws) X) W) :
    (W.cell? ⟨g2, 0, none⟩ = some (.int .i64 0) ∧ W.frozen? ⟨g2, 0, none⟩ = false) ∧ (W.cell? ⟨g2, 1, none⟩ = some (.slice none 0 0) ∧ W.frozen? ⟨g2, 1, none⟩ = false) ∧
    (W.cell? ⟨g3, 0, none⟩ = some (.int .i64 0) ∧ W.frozen? ⟨g3, 0, none⟩ = false) ∧ (W.cell? ⟨g4, 0, none⟩ = some (.int .i64 0) ∧ W.frozen? ⟨g4, 0, none⟩ = false) := by
  have h1 := h.perm (by unfold NmO ResO; ac_rfl : _ = star (CellO g2 #[.int .i64 0, .slice none 0 0] 24) (star (CellO g3 #[.int .i64 0] 28) (star (CellO g4 #[.int .i64 0] 3) (star (CellO g11 #[.int .i64 k, .slice A ws.length c] 24) (star (StrO A c ws) (star (MapO Value.string b scl) X))))))
  exact ⟨get1 h1 rfl, get1 h1 rfl, get2 h1, get3 h1⟩
/-- An error's three results stored. -/
theorem nm_err {b g2 g3 g4 g11 : Nat} {k : Int} {A : Option Addr} {c : Nat} {ws : List Bs} {X : CH.Own} {F0 : Nat → Prop} {w0 W : World} (hX : X.Ok) (x y : Int) (h : Run F0 w0 (star (NmO b g2 g3 g4 g11 k A c ws) X) W) :
    Run F0 w0 (star (CellO g2 #[.int .i64 0, .slice none 0 0] 24) (star (CellO g3 #[.int .i64 x] 28) (star (CellO g4 #[.int .i64 y] 3) X))) ((((W.setCell ⟨g2, 0, none⟩ (.int .i64 0)).setCell ⟨g2, 1, none⟩ (.slice none 0 0)).setCell ⟨g3, 0, none⟩ (.int .i64 x)).setCell ⟨g4, 0, none⟩ (.int .i64 y)) := by
  have h1 := h.perm (by unfold NmO ResO; ac_rfl : _ = star (CellO g2 #[.int .i64 0, .slice none 0 0] 24) (star (CellO g4 #[.int .i64 0] 3) (star (CellO g3 #[.int .i64 0] 28) (star (CellO g11 #[.int .i64 k, .slice A ws.length c] 24) (star (StrO A c ws) (star (MapO Value.string b scl) X))))))
  have h2 := res_store (star_ok cell_ok (star_ok str_ok (star_ok map_ok hX))) (.int .i64 0) (.slice none 0 0) (.int .i64 x) (.int .i64 y) h1
  exact (h2.perm (by ac_rfl : _ = star (star (CellO g11 #[.int .i64 k, .slice A ws.length c] 24) (star (StrO A c ws) (MapO Value.string b scl))) (star (CellO g2 #[.int .i64 0, .slice none 0 0] 24) (star (CellO g3 #[.int .i64 x] 28) (star (CellO g4 #[.int .i64 y] 3) X))))).drop
/-- The name's results stored. -/
theorem nm_fin {b g2 g3 g4 g11 : Nat} {k : Int} {A : Option Addr} {c : Nat} {ws : List Bs} {X : CH.Own} {F0 : Nat → Prop} {w0 W : World} (hX : X.Ok) (h : Run F0 w0 (star (NmO b g2 g3 g4 g11 k A c ws) X) W) :
    Run F0 w0 (star (CellO g2 #[.int .i64 k, .slice A ws.length c] 24) (star (CellO g3 #[.int .i64 0] 28) (star (CellO g4 #[.int .i64 0] 3) (star (StrO A c ws) X)))) ((((W.setCell ⟨g2, 0, none⟩ (.int .i64 k)).setCell ⟨g2, 1, none⟩ (.slice A ws.length c)).setCell ⟨g3, 0, none⟩ (.int .i64 0)).setCell ⟨g4, 0, none⟩ (.int .i64 0)) := by
  have h1 := h.perm (by unfold NmO ResO; ac_rfl : _ = star (CellO g2 #[.int .i64 0, .slice none 0 0] 24) (star (CellO g4 #[.int .i64 0] 3) (star (CellO g3 #[.int .i64 0] 28) (star (CellO g11 #[.int .i64 k, .slice A ws.length c] 24) (star (StrO A c ws) (star (MapO Value.string b scl) X))))))
  have h2 := res_store (star_ok cell_ok (star_ok str_ok (star_ok map_ok hX))) (.int .i64 k) (.slice A ws.length c) (.int .i64 0) (.int .i64 0) h1
  exact (h2.perm (by ac_rfl : _ = star (star (CellO g11 #[.int .i64 k, .slice A ws.length c] 24) (MapO Value.string b scl)) (star (CellO g2 #[.int .i64 k, .slice A ws.length c] 24) (star (CellO g3 #[.int .i64 0] 28) (star (CellO g4 #[.int .i64 0] 3) (star (StrO A c ws) X)))))).drop
section
variable {w W : World} {g2 g3 g4 : Nat} {X : CH.Own} {tmps : Array Value} {r : NameM × Int × Int} {Ds : List Nat} {n : Nat}
theorem leave_err {x y : Int} (hX : X.Ok) (hr : r = (⟨0, []⟩, x, y))
    (h : Run (fun _ => False) w (star (CellO g2 #[.int .i64 0, .slice none 0 0] 24) (star (CellO g3 #[.int .i64 x] 28) (star (CellO g4 #[.int .i64 y] 3) (star (marksO Ds) X)))) W)
    (h2 : tmps.getD 2 undef = .pointer (some ⟨g2, 0, none⟩)) (h3 : tmps.getD 3 undef = .pointer (some ⟨g3, 0, none⟩)) (h4 : tmps.getD 4 undef = .pointer (some ⟨g4, 0, none⟩)) :
    LeavesInM Fence.wide n Tryd.prog Tryd.f20 tmps (ParseRet w r) (Ds.map mark) .returning W := by
  refine leaves_marks (X := star (CellO g2 #[.int .i64 0, .slice none 0 0] 24) (star (CellO g3 #[.int .i64 x] 28) (star (CellO g4 #[.int .i64 y] 3) X))) (star_ok cell_ok (star_ok cell_ok (star_ok cell_ok hX))) (fun W' h' => ?_) Ds W (h.perm (by ac_rfl))
  exact parse_fin (A := none) (c := 0) hr h' (vst_nil _) (Nat.le_refl _) h2 h3 h4
theorem leave_ok {k : Int} {A : Option Addr} {c : Nat} {ws : List Bs} (hX : X.Ok) (hr : r = (⟨k, ws⟩, 0, 0))
    (h : Run (fun _ => False) w (star (CellO g2 #[.int .i64 k, .slice A ws.length c] 24) (star (CellO g3 #[.int .i64 0] 28) (star (CellO g4 #[.int .i64 0] 3) (star (StrO A c ws) (star (marksO Ds) X))))) W)
    (h2 : tmps.getD 2 undef = .pointer (some ⟨g2, 0, none⟩)) (h3 : tmps.getD 3 undef = .pointer (some ⟨g3, 0, none⟩)) (h4 : tmps.getD 4 undef = .pointer (some ⟨g4, 0, none⟩)) :
    LeavesInM Fence.wide n Tryd.prog Tryd.f20 tmps (ParseRet w r) (Ds.map mark) .returning W := by
  refine leaves_marks (X := star (CellO g2 #[.int .i64 k, .slice A ws.length c] 24) (star (CellO g3 #[.int .i64 0] 28) (star (CellO g4 #[.int .i64 0] 3) (star (StrO A c ws) X)))) (star_ok cell_ok (star_ok cell_ok (star_ok cell_ok (star_ok str_ok hX)))) (fun W' h' => ?_) Ds W (h.perm (by ac_rfl))
  obtain ⟨F, hF⟩ := (h'.perm (by ac_rfl : _ = star (StrO A c ws) (star (CellO g2 #[.int .i64 k, .slice A ws.length c] 24) (star (CellO g3 #[.int .i64 0] 28) (star (CellO g4 #[.int .i64 0] 3) X))))).fst
  exact parse_fin (A := A) (c := c) hr h' (vst_of hF) (row_cap hF.1).1 h2 h3 h4
end
def posOf (g : Nat) (w : World) : Nat := match w.cell? ⟨g, 0, none⟩ with | some (.int _ x) => x.toNat | _ => 0
/-- The reader's loop: the marks of the ranges that were, the position, the name. -/
def LpO (b g2 g3 g4 g11 g12 : Nat) (k : Int) (Ds : List Nat) (pos : Nat) (A : Option Addr) (c : Nat) (ws : List Bs) : CH.Own :=
  star (CellO g12 #[.int .i64 (pos : Int)] 3) (star (NmO b g2 g3 g4 g11 k A c ws) (marksO Ds))
theorem lp_ok {b g2 g3 g4 g11 g12 : Nat} {k : Int} {Ds : List Nat} {pos : Nat} {A : Option Addr} {c : Nat} {ws : List Bs} : (LpO b g2 g3 g4 g11 g12 k Ds pos A c ws).Ok := star_ok cell_ok (star_ok nm_ok marks_ok)
theorem lp_start {w wd : World} {b g2 g3 g4 : Nat} {k : Int} {n0 : Nat} (h : Run (fun _ => False) w (star (MapO Value.string b scl) (ResO g2 g3 g4)) wd) :
    Run (fun _ => False) w (LpO b g2 g3 g4 wd.heap.size (wd.heap.size + 1) k [] (n0 + 1) none 0 []) ((wd.alloc (.cells #[.int .i64 k, .slice none 0 0] 24)).alloc (.cells #[.int .i64 ((n0 : Int) + 1)] 3)) := by
  have h1 := h.fresh (star_ok map_ok res_ok) (cell_new wd #[.int .i64 k, .slice none 0 0] 24)
  have h2 := h1.fresh (star_ok cell_ok (star_ok map_ok res_ok)) (cell_new _ #[.int .i64 ((n0 : Int) + 1)] 3)
  have h3 := h2.fresh (star_ok cell_ok (star_ok cell_ok (star_ok map_ok res_ok))) (⟨fun _ => False, str_nil _, Mod.refl _ _, fun i hi => .inl hi⟩ : Post _ (fun _ => False) (StrO none 0 []) _)
  rw [World.size_alloc] at h3
  unfold LpO NmO
  rw [show marksO [] = emp from rfl, star_emp_eq, show ((n0 + 1 : Nat) : Int) = (n0 : Int) + 1 by omega]
  exact h3.perm (by simp only [List.length_nil]; ac_rfl)
theorem lp_out {w W : World} {b g2 g3 g4 g11 g12 : Nat} {k : Int} {Ds : List Nat} {pos : Nat} {A : Option Addr} {c : Nat} {ws : List Bs} {F0 : Nat → Prop} (h : Run F0 w (LpO b g2 g3 g4 g11 g12 k Ds pos A c ws) W) :
    (W.cell? ⟨g12, 0, none⟩ = some (.int .i64 (pos : Int)) ∧ W.frozen? ⟨g12, 0, none⟩ = false) ∧ Run F0 w (star (NmO b g2 g3 g4 g11 k A c ws) (star (marksO Ds) (CellO g12 #[.int .i64 (pos : Int)] 3))) W :=
  ⟨get1 h rfl, h.perm (by unfold LpO; ac_rfl)⟩
theorem cell_far {W : World} {g g' i i' : Nat} {v u : Value} (h : W.cell? ⟨g, i, none⟩ = some u) (hne : g ≠ g') : (W.setCell ⟨g', i', none⟩ v).cell? ⟨g, i, none⟩ = some u :=
  (World.cell?_setCell_other _ _ _ _ (by intro e; cases e; exact hne rfl)).trans h
theorem _root_.Go.CH.Run.cne {X : CH.Own} {F0 : Nat → Prop} {w0 W : World} {g g' : Nat} {cs cs' : Array Value} {t t' : TypeId} (h : Run F0 w0 (star (CellO g cs t) (star (CellO g' cs' t') X)) W) : g ≠ g' := by
  obtain ⟨⟨F, ⟨F1, F2, h1, ⟨F3, F4, h3, h4, h5, h6⟩, h7, h8⟩, hF⟩, hm⟩ := h
  rintro rfl
  exact h7 g ((h1.2 g).2 rfl) ((h6 g).2 (.inl ((h3.2 g).2 rfl)))
/-- The position and the count before the i-th letter of a round. -/
def RgO (b g2 g3 g4 g11 g12 g14 : Nat) (k : Int) (l : Bs) (pos : Nat) (Ds : List Nat) (A : Option Addr) (c : Nat) (ws : List Bs) (i : Nat) : CH.Own :=
  pur (i = 0 ∨ (i ≤ 12 ∧ ws.length ≠ 6)) (star (CellO g12 #[.int .i64 ((pos + eat k l i : Nat) : Int)] 3) (star (CellO g14 #[.int .i64 (i : Int)] 3) (star (NmO b g2 g3 g4 g11 k A c ws) (marksO Ds))))
theorem rg_ok {b g2 g3 g4 g11 g12 g14 : Nat} {k : Int} {l : Bs} {pos : Nat} {Ds : List Nat} {A : Option Addr} {c : Nat} {ws : List Bs} (i : Nat) : (RgO b g2 g3 g4 g11 g12 g14 k l pos Ds A c ws i).Ok :=
  pur_ok (star_ok cell_ok (star_ok cell_ok (star_ok nm_ok marks_ok)))
def RgX (g2 g3 g4 g12 g14 : Nat) (k : Int) (l : Bs) (pos : Nat) (Ds : List Nat) (ws : List Bs) : Code → CH.Own
  | .ret => exA fun p : Nat × Nat => pur (read k ws [] 0 pos l = .err 2 ((p.1 : Nat) : Int)) (star (CellO g2 #[.int .i64 0, .slice none 0 0] 24) (star (CellO g3 #[.int .i64 2] 28) (star (CellO g4 #[.int .i64 (p.1 : Int)] 3) (star (marksO Ds) (star (CellO g12 #[.int .i64 (p.1 : Int)] 3) (CellO g14 #[.int .i64 (p.2 : Int)] 3))))))
  | _ => noO
theorem rgx_ok {g2 g3 g4 g12 g14 : Nat} {k : Int} {l : Bs} {pos : Nat} {Ds : List Nat} {ws : List Bs} (c : Code) : (RgX g2 g3 g4 g12 g14 k l pos Ds ws c).Ok := by
  unfold RgX
  split
  · exact exA_ok fun p => pur_ok (star_ok cell_ok (star_ok cell_ok (star_ok cell_ok (star_ok marks_ok (star_ok cell_ok cell_ok)))))
  · exact no_ok
theorem rg_start {w W : World} {b g2 g3 g4 g11 g12 g14 : Nat} {k : Int} {l : Bs} {pos : Nat} {Ds : List Nat} {A : Option Addr} {c : Nat} {ws : List Bs} {F0 : Nat → Prop} {Z : CH.Own}
    (h : Run F0 w (star Z (star (CellO g14 #[.int .i64 0] 3) (star (NmO b g2 g3 g4 g11 k A c ws) (star (marksO Ds) (CellO g12 #[.int .i64 (pos : Int)] 3))))) W) : Run F0 w (star Z (RgO b g2 g3 g4 g11 g12 g14 k l pos Ds A c ws 0)) W := by
  have h1 := h.perm (by ac_rfl : _ = star (star (CellO g12 #[.int .i64 (pos : Int)] 3) (star (CellO g14 #[.int .i64 0] 3) (star (NmO b g2 g3 g4 g11 k A c ws) (marksO Ds)))) Z)
  exact (Run.pureI (p := 0 = 0 ∨ (0 ≤ 12 ∧ ws.length ≠ 6)) (.inl rfl) h1).swap
theorem rg_open {w W : World} {b g2 g3 g4 g11 g12 g14 : Nat} {k : Int} {l : Bs} {pos : Nat} {Ds : List Nat} {A : Option Addr} {c : Nat} {ws : List Bs} {i : Nat} {F0 : Nat → Prop} {R : CH.Own} (h : Run F0 w (star (RgO b g2 g3 g4 g11 g12 g14 k l pos Ds A c ws i) R) W) :
    (i = 0 ∨ (i ≤ 12 ∧ ws.length ≠ 6)) ∧ Run F0 w (star (NmO b g2 g3 g4 g11 k A c ws) (star (CellO g12 #[.int .i64 ((pos + eat k l i : Nat) : Int)] 3) (star (CellO g14 #[.int .i64 (i : Int)] 3) (star (marksO Ds) R)))) W :=
  ⟨h.pure.1, h.pure.2.perm (by ac_rfl)⟩
theorem rg_close {w W : World} {b g2 g3 g4 g11 g12 g14 : Nat} {k : Int} {l : Bs} {pos q : Nat} {Ds : List Nat} {A : Option Addr} {c : Nat} {ws : List Bs} {i : Nat} {F0 : Nat → Prop} {R : CH.Own} (hp : i = 0 ∨ (i ≤ 12 ∧ ws.length ≠ 6)) (hq : q = pos + eat k l i)
    (h : Run F0 w (star (NmO b g2 g3 g4 g11 k A c ws) (star (CellO g12 #[.int .i64 (q : Int)] 3) (star (CellO g14 #[.int .i64 (i : Int)] 3) (star (marksO Ds) R)))) W) : Run F0 w (star (RgO b g2 g3 g4 g11 g12 g14 k l pos Ds A c ws i) R) W := by
  subst hq
  exact Run.pureI hp (h.perm (by ac_rfl))
theorem rg_ret {w W : World} {g2 g3 g4 g12 g14 : Nat} {k : Int} {l : Bs} {pos q i : Nat} {Ds : List Nat} {ws : List Bs} {F0 : Nat → Prop} {R : CH.Own} (hp : read k ws [] 0 pos l = .err 2 ((q : Nat) : Int))
    (h : Run F0 w (star (CellO g2 #[.int .i64 0, .slice none 0 0] 24) (star (CellO g3 #[.int .i64 2] 28) (star (CellO g4 #[.int .i64 (q : Int)] 3) (star (CellO g12 #[.int .i64 (q : Int)] 3) (star (CellO g14 #[.int .i64 (i : Int)] 3) (star (marksO Ds) R)))))) W) :
    Run F0 w (star (RgX g2 g3 g4 g12 g14 k l pos Ds ws .ret) R) W :=
  Run.exI (q, i) (Run.pureI hp (h.perm (by ac_rfl)))
/-- The three cells of the results, the position's cell: apart. -/
theorem nm_far {b g2 g3 g4 g11 g12 : Nat} {k : Int} {A : Option Addr} {c : Nat} {ws : List Bs} {X : CH.Own} {F0 : Nat → Prop} {w0 W : World} {cs : Array Value} {t : TypeId} (h : Run F0 w0 (star (NmO b g2 g3 g4 g11 k A c ws) (star (CellO g12 cs t) X)) W) : g12 ≠ g2 ∧ g12 ≠ g3 ∧ g12 ≠ g4 ∧ g12 ≠ g11 :=
  ⟨(h.perm (by unfold NmO ResO; ac_rfl : _ = star (CellO g12 cs t) (star (CellO g2 #[.int .i64 0, .slice none 0 0] 24) (star (CellO g3 #[.int .i64 0] 28) (star (CellO g4 #[.int .i64 0] 3) (star (CellO g11 #[.int .i64 k, .slice A ws.length c] 24) (star (StrO A c ws) (star (MapO Value.string b scl) X)))))))).cne,
   (h.perm (by unfold NmO ResO; ac_rfl : _ = star (CellO g12 cs t) (star (CellO g3 #[.int .i64 0] 28) (star (CellO g2 #[.int .i64 0, .slice none 0 0] 24) (star (CellO g4 #[.int .i64 0] 3) (star (CellO g11 #[.int .i64 k, .slice A ws.length c] 24) (star (StrO A c ws) (star (MapO Value.string b scl) X)))))))).cne,
   (h.perm (by unfold NmO ResO; ac_rfl : _ = star (CellO g12 cs t) (star (CellO g4 #[.int .i64 0] 3) (star (CellO g2 #[.int .i64 0, .slice none 0 0] 24) (star (CellO g3 #[.int .i64 0] 28) (star (CellO g11 #[.int .i64 k, .slice A ws.length c] 24) (star (StrO A c ws) (star (MapO Value.string b scl) X)))))))).cne,
   (h.perm (by unfold NmO ResO; ac_rfl : _ = star (CellO g12 cs t) (star (CellO g11 #[.int .i64 k, .slice A ws.length c] 24) (star (CellO g2 #[.int .i64 0, .slice none 0 0] 24) (star (CellO g3 #[.int .i64 0] 28) (star (CellO g4 #[.int .i64 0] 3) (star (StrO A c ws) (star (MapO Value.string b scl) X)))))))).cne⟩
theorem eat_len {k : Int} {l : Bs} {i : Nat} (hi : i < (ltrs k l).1.length) : eat k l (i + 1) = eat k l i + (ltrs k l).1[i].length ∧ eat k l (i + 1) ≤ l.length := by
  refine ⟨?_, (eat_ltrs (k := k) (l := l) (i + 1) hi).2⟩
  rw [eat_at hi, List.length_take]
  have := len1_le (k := k) (l := l.drop (eat k l i))
  show eat k l i + _ = _
  omega
theorem marks_cons (D : Nat) (Ds : List Nat) : marksO (D :: Ds) = star (ObjO D (.deferred (some []))) (marksO Ds) := rfl
theorem arr_of (tm : Array Value) (n : Nat) (h : tm.size = n) : tm = ((List.range n).map fun i => tm.getD i undef).toArray := by
  refine Array.ext (by simp [h]) fun i h1 h2 => ?_
  simp [h1]
theorem tm_form {s : ByteArray} {g2 g11 g12 : Nat} (tm : Array Value) (h : tm.size = 112) (h0 : tm.getD 0 undef = .string s) (h2 : tm.getD 2 undef = .pointer (some ⟨g2, 0, none⟩)) (h3 : tm.getD 3 undef = .pointer (some ⟨g2 + 1, 0, none⟩)) (h4 : tm.getD 4 undef = .pointer (some ⟨g2 + 1 + 1, 0, none⟩)) (h11 : tm.getD 11 undef = .pointer (some ⟨g11, 0, none⟩)) (h12 : tm.getD 12 undef = .pointer (some ⟨g12, 0, none⟩)) :
    ∃ v : Nat → Value, tm = #[.string s, v 1, .pointer (some ⟨g2, 0, none⟩), .pointer (some ⟨g2 + 1, 0, none⟩), .pointer (some ⟨g2 + 1 + 1, 0, none⟩), v 5, v 6, v 7, v 8, v 9, v 10, .pointer (some ⟨g11, 0, none⟩), .pointer (some ⟨g12, 0, none⟩), v 13, v 14, v 15, v 16, v 17, v 18, v 19, v 20, v 21, v 22, v 23, v 24, v 25, v 26, v 27, v 28, v 29, v 30, v 31, v 32, v 33, v 34, v 35, v 36, v 37, v 38, v 39, v 40, v 41, v 42, v 43, v 44, v 45, v 46, v 47, v 48, v 49, v 50, v 51, v 52, v 53, v 54, v 55, v 56, v 57, v 58, v 59, v 60, v 61, v 62, v 63, v 64, v 65, v 66, v 67, v 68, v 69, v 70, v 71, v 72, v 73, v 74, v 75, v 76, v 77, v 78, v 79, v 80, v 81, v 82, v 83, v 84, v 85, v 86, v 87, v 88, v 89, v 90, v 91, v 92, v 93, v 94, v 95, v 96, v 97, v 98, v 99, v 100, v 101, v 102, v 103, v 104, v 105, v 106, v 107, v 108, v 109, v 110, v 111] := by
  have e : tm = #[tm.getD 0 undef, tm.getD 1 undef, tm.getD 2 undef, tm.getD 3 undef, tm.getD 4 undef, tm.getD 5 undef, tm.getD 6 undef, tm.getD 7 undef, tm.getD 8 undef, tm.getD 9 undef, tm.getD 10 undef, tm.getD 11 undef, tm.getD 12 undef, tm.getD 13 undef, tm.getD 14 undef, tm.getD 15 undef, tm.getD 16 undef, tm.getD 17 undef, tm.getD 18 undef, tm.getD 19 undef, tm.getD 20 undef, tm.getD 21 undef, tm.getD 22 undef, tm.getD 23 undef, tm.getD 24 undef, tm.getD 25 undef, tm.getD 26 undef, tm.getD 27 undef, tm.getD 28 undef, tm.getD 29 undef, tm.getD 30 undef, tm.getD 31 undef, tm.getD 32 undef, tm.getD 33 undef, tm.getD 34 undef, tm.getD 35 undef, tm.getD 36 undef, tm.getD 37 undef, tm.getD 38 undef, tm.getD 39 undef, tm.getD 40 undef, tm.getD 41 undef, tm.getD 42 undef, tm.getD 43 undef, tm.getD 44 undef, tm.getD 45 undef, tm.getD 46 undef, tm.getD 47 undef, tm.getD 48 undef, tm.getD 49 undef, tm.getD 50 undef, tm.getD 51 undef, tm.getD 52 undef, tm.getD 53 undef, tm.getD 54 undef, tm.getD 55 undef, tm.getD 56 undef, tm.getD 57 undef, tm.getD 58 undef, tm.getD 59 undef, tm.getD 60 undef, tm.getD 61 undef, tm.getD 62 undef, tm.getD 63 undef, tm.getD 64 undef, tm.getD 65 undef, tm.getD 66 undef, tm.getD 67 undef, tm.getD 68 undef, tm.getD 69 undef, tm.getD 70 undef, tm.getD 71 undef, tm.getD 72 undef, tm.getD 73 undef, tm.getD 74 undef, tm.getD 75 undef, tm.getD 76 undef, tm.getD 77 undef, tm.getD 78 undef, tm.getD 79 undef, tm.getD 80 undef, tm.getD 81 undef, tm.getD 82 undef, tm.getD 83 undef, tm.getD 84 undef, tm.getD 85 undef, tm.getD 86 undef, tm.getD 87 undef, tm.getD 88 undef, tm.getD 89 undef, tm.getD 90 undef, tm.getD 91 undef, tm.getD 92 undef, tm.getD 93 undef, tm.getD 94 undef, tm.getD 95 undef, tm.getD 96 undef, tm.getD 97 undef, tm.getD 98 undef, tm.getD 99 undef, tm.getD 100 undef, tm.getD 101 undef, tm.getD 102 undef, tm.getD 103 undef, tm.getD 104 undef, tm.getD 105 undef, tm.getD 106 undef, tm.getD 107 undef, tm.getD 108 undef, tm.getD 109 undef, tm.getD 110 undef, tm.getD 111 undef] := (arr_of tm 112 h).trans rfl
  rw [h0, h2, h3, h4, h11, h12] at e
  exact ⟨fun i => tm.getD i undef, e⟩
/-- What is true at the head of the reader's loop. -/
def LpI (w : World) (b g2 g11 g12 : Nat) (k : Int) (s : ByteArray) (a : Act) (wr : World) : Prop :=
  ∃ (v : Nat → Value) (Ds : List Nat) (pos : Nat) (ws : List Bs) (A : Option Addr) (c : Nat), (Run (fun _ => False) w (LpO b g2 (g2 + 1) (g2 + 1 + 1) g11 g12 k Ds pos A c ws) wr ∧ pos ≤ s.size ∧ ws.length ≤ 6 ∧ parseN (bl s) = done k s.size (read k ws [] 0 pos ((bl s).drop pos))) ∧
    a = { tmps := #[.string s, v 1, .pointer (some ⟨g2, 0, none⟩), .pointer (some ⟨g2 + 1, 0, none⟩), .pointer (some ⟨g2 + 1 + 1, 0, none⟩), v 5, v 6, v 7, v 8, v 9, v 10, .pointer (some ⟨g11, 0, none⟩), .pointer (some ⟨g12, 0, none⟩), v 13, v 14, v 15, v 16, v 17, v 18, v 19, v 20, v 21, v 22, v 23, v 24, v 25, v 26, v 27, v 28, v 29, v 30, v 31, v 32, v 33, v 34, v 35, v 36, v 37, v 38, v 39, v 40, v 41, v 42, v 43, v 44, v 45, v 46, v 47, v 48, v 49, v 50, v 51, v 52, v 53, v 54, v 55, v 56, v 57, v 58, v 59, v 60, v 61, v 62, v 63, v 64, v 65, v 66, v 67, v 68, v 69, v 70, v 71, v 72, v 73, v 74, v 75, v 76, v 77, v 78, v 79, v 80, v 81, v 82, v 83, v 84, v 85, v 86, v 87, v 88, v 89, v 90, v 91, v 92, v 93, v 94, v 95, v 96, v 97, v 98, v 99, v 100, v 101, v 102, v 103, v 104, v 105, v 106, v 107, v 108, v 109, v 110, v 111], defers := Ds.map mark }
theorem lp_mk {w wr : World} {b g2 g11 g12 : Nat} {k : Int} {s : ByteArray} {tm : Array Value} {df : List Deferred} (Ds : List Nat) {pos : Nat} {ws : List Bs} {A : Option Addr} {c : Nat} (h : tm.size = 112) (h0 : tm.getD 0 undef = .string s) (h2 : tm.getD 2 undef = .pointer (some ⟨g2, 0, none⟩)) (h3 : tm.getD 3 undef = .pointer (some ⟨g2 + 1, 0, none⟩)) (h4 : tm.getD 4 undef = .pointer (some ⟨g2 + 1 + 1, 0, none⟩)) (h11 : tm.getD 11 undef = .pointer (some ⟨g11, 0, none⟩)) (h12 : tm.getD 12 undef = .pointer (some ⟨g12, 0, none⟩)) (hd : df = Ds.map mark)
    (hR : Run (fun _ => False) w (LpO b g2 (g2 + 1) (g2 + 1 + 1) g11 g12 k Ds pos A c ws) wr) (hp : pos ≤ s.size) (hw : ws.length ≤ 6) (hP : parseN (bl s) = done k s.size (read k ws [] 0 pos ((bl s).drop pos))) : LpI w b g2 g11 g12 k s { tmps := tm, defers := df } wr := by
  obtain ⟨v, hv⟩ := tm_form tm h h0 h2 h3 h4 h11 h12
  subst hd
  exact ⟨v, Ds, pos, ws, A, c, ⟨hR, hp, hw, hP⟩, by rw [hv]⟩
theorem lp_pos {w wr : World} {b g2 g3 g4 g11 g12 : Nat} {k : Int} {Ds : List Nat} {pos : Nat} {ws : List Bs} {A : Option Addr} {c : Nat} (hR : Run (fun _ => False) w (LpO b g2 g3 g4 g11 g12 k Ds pos A c ws) wr) : posOf g12 wr = pos := by
  unfold posOf
  rw [(lp_out hR).1.1]
  rfl
end Go.Proofs.YtcgmikpmbomliaaDoor
