/-
  Something owned of which one only knows that it is one of many; rows of strings.
  Script: letters, Letters.
  Script: Letters.
  Script: Fold, titles; lists of texts in memory.
  Potentials, plainly: rules, states, moves, paths, the least cost to the end.
-/
import Derived.Test.YtnppgomhhcbplaaGreatDoorPO7
import Derived.Test.YtnppgomhhcbplaaGreatDoorPO1
set_option linter.unusedSimpArgs false
set_option linter.unusedVariables false
namespace Go.CH
open Go.RowKit
def exA {α : Type} (O : α → Own) : Own := fun w F => ∃ x, O x w F
theorem exA_ok {α : Type} {O : α → Own} (h : ∀ x, (O x).Ok) : (exA O).Ok := ⟨fun ⟨c, h1⟩ => (h c).lt h1, fun ⟨c, h1⟩ hk => ⟨c, (h c).keep h1 hk⟩⟩
theorem Run.ex {α : Type} {O : α → Own} {R : Own} {F0 : Nat → Prop} {w0 W : World} (h : Run F0 w0 (star (exA O) R) W) : ∃ x, Run F0 w0 (star (O x) R) W := by
  obtain ⟨⟨F, ⟨F1, F2, ⟨c, g1⟩, g2, g3, g4⟩, hF⟩, hm⟩ := h
  exact ⟨c, ⟨⟨F, ⟨F1, F2, g1, g2, g3, g4⟩, hF⟩, hm⟩⟩
theorem Run.exI {α : Type} {O : α → Own} {R : Own} {F0 : Nat → Prop} {w0 W : World} (x : α) (h : Run F0 w0 (star (O x) R) W) : Run F0 w0 (star (exA O) R) W :=
  h.imp fun _ _ hh => star_mono hh (fun _ h => ⟨x, h⟩) (fun _ h => h)
/-- Besides, something holds that speaks of no world. -/
def pur (p : Prop) (O : Own) : Own := fun w F => p ∧ O w F
theorem pur_ok {p : Prop} {O : Own} (h : O.Ok) : (pur p O).Ok := ⟨fun h1 => h.lt h1.2, fun h1 hk => ⟨h1.1, h.keep h1.2 hk⟩⟩
theorem Run.pure {p : Prop} {O R : Own} {F0 : Nat → Prop} {w0 W : World} (h : Run F0 w0 (star (pur p O) R) W) : p ∧ Run F0 w0 (star O R) W := by
  obtain ⟨⟨F, ⟨F1, F2, ⟨c, g1⟩, g2, g3, g4⟩, hF⟩, hm⟩ := h
  exact ⟨c, ⟨⟨F, ⟨F1, F2, g1, g2, g3, g4⟩, hF⟩, hm⟩⟩
theorem Run.pureI {p : Prop} {O R : Own} {F0 : Nat → Prop} {w0 W : World} (hp : p) (h : Run F0 w0 (star O R) W) : Run F0 w0 (star (pur p O) R) W :=
  h.imp fun _ _ hh => star_mono hh (fun _ h => ⟨hp, h⟩) (fun _ h => h)
def noO : Own := fun _ _ => False
theorem no_ok : noO.Ok := ⟨fun h => h.elim, fun h => h.elim⟩
theorem Run.no {R : Own} {F0 : Nat → Prop} {w0 W : World} (h : Run F0 w0 (star noO R) W) : False := by
  obtain ⟨⟨F, ⟨F1, F2, g1, g2, g3, g4⟩, hF⟩, hm⟩ := h
  exact g1
theorem src_lit1 (W : World) (v : Value) (t : TypeId) (h : v.oneCell' = true) : Src (W.alloc (.cells #[v] t)) (some ⟨W.heap.size, 0, none⟩) 1 1 [v] := Src.one (heap_alloc_new W _) h
end Go.CH
namespace Go.Proofs.YtnppgomhhcbplaaGreatDoor
open Go.RowKit Go.CH Go.CH.Scr
open Go.ChangeMaps (setBlock)
attribute [local go_sem] Oper.semAt_some
def fn36 (b1 b2 : Nat) : Value := .func (.func 104) #[] #[.pointer (some ⟨b1, 0, none⟩), .pointer (some ⟨b2, 0, none⟩)]
theorem letters_any (k : Int) (s : ByteArray) (w : World) :
    Calls Tryz.prog 70 #[.int .i64 k, .string s] w fun e w' => ∃ b1 b2, e = .returned (fn36 b1 b2) ∧ Post w (fun _ => False) (Zl k (bl s) b1 b2 0) w' := by
  have hp : Post w (fun _ => False) (Zl k (bl s) w.heap.size (w.heap.size + 1) 0) ((w.alloc (.cells #[.int .i64 k] 3)).alloc (.cells #[.string s] 9)) := by
    have h1 := (Run.begin w).fresh emp_ok (cell_new w #[.int .i64 k] 3)
    have h2 := h1.fresh (star_ok cell_ok emp_ok) (cell_new _ #[.string s] 9)
    rw [World.size_alloc] at h2
    have h3 : Run (fun _ => False) w (star (Zl k (bl s) w.heap.size (w.heap.size + 1) 0) emp) _ := h2.perm (by unfold Zl; rw [show rst k 0 (bl s) = bl s from rfl, bs_bl]; ac_rfl)
    exact (h3.swap.drop).post (Zl_ok 0)
  have HP := hide hp
  clear hp
  go_enter Tryz.func70, Tryz.ntmps70
  go_wp2
  go_ret
  exact ⟨_, _, rfl, HP.out⟩
theorem strsOk : SliceOk Tryz.prog 59 9 (.string ByteArray.empty) 1 16 := ⟨Tryz.underlying59, by kernel_rfl, by decide, by decide⟩
def strB (xs : List Bs) : List Value := xs.map fun x => .string (bs x)
theorem strB_one (l : List Bs) : ∀ u ∈ strB l, u.oneCell' = true := by
  intro u hu
  obtain ⟨s, _, rfl⟩ := List.mem_map.1 hu
  rfl
theorem strB_len (l : List Bs) : (strB l).length = l.length := by simp [strB]
theorem strB_get {l : List Bs} {k : Nat} (h : k < l.length) : (strB l)[k]? = some (.string (bs l[k])) := by simp [strB, h]
def StrO (A : Option Addr) (c : Nat) (l : List Bs) : CH.Own := RowO 9 1 (.slice A l.length c) l.length (strB l)
theorem str_ok {A : Option Addr} {c : Nat} {l : List Bs} : (StrO A c l).Ok := row_ok
theorem str_snoc {A : Option Addr} {c : Nat} {l : List Bs} {x : Bs} : RowO 9 1 (.slice A (l.length + 1) c) (l.length + 1) (strB l ++ [.string (bs x)]) = StrO A c (l ++ [x]) := by
  unfold StrO
  have e : strB (l ++ [x]) = strB l ++ [.string (bs x)] := by simp [strB]
  rw [e, List.length_append, List.length_singleton]
theorem str_nil (w : World) : StrO none 0 [] w (fun _ => False) := row_nil w 9 1
/-- The program's answer about the letters of a word. -/
def lettersN (k : Int) (l : Bs) : List Bs × Int := if word k l then ((ltrs k l).1, 0) else ([], 1)
def LtrsRet (w : World) (k : Int) (l : Bs) (e : Ending) (w' : World) : Prop :=
  ∃ A c, e = .returned (.tuple #[.slice A (lettersN k l).1.length c, .int .i64 (lettersN k l).2]) ∧ Post w (fun _ => False) (StrO A c (lettersN k l).1) w'
theorem app_str1 {F0 : Nat → Prop} {w0 W : World} {Y : CH.Own} {o : Oper} {a : Act} {K : Act → World → Prop} {Q : Exit → Act → World → Prop} (s x : Operand)
    (ho : o.op = .call { callee := .builtin .append, args := #[s, x], argTypes := #[59, 59] }) {A : Option Addr} {c n : Nat} {l : List Bs} {i : ByteArray} (hl : l.length = n) (hsv : a.eval s = .slice A n c) (hx : a.eval x = .slice (some ⟨W.heap.size, 0, none⟩) 1 1) (hn : n ≤ 1000000) (hY : Y.Ok)
    (h : Run F0 w0 (star (StrO A c l) Y) W)
    (hK : ∀ A' c' w', Run F0 w0 (star (StrO A' c' (l ++ [bl i])) Y) w' → K (a.put o.dst (.slice A' (n + 1) c')) w') : o.wp Tryz.prog a (W.alloc (.cells #[.string i] 9)) K Q := by
  subst hl
  obtain ⟨F7, hR7, -, bk7⟩ := (h.below (star_ok str_ok hY) ((Below.refl _ _).alloc (Nat.le_refl _) (.cells #[.string i] 9))).take str_ok hY
  refine wp_appX s x ho strsOk _ 0 (v := .slice A l.length c) (n := l.length) (xs := strB l) hsv hR7.1 (A := some ⟨W.heap.size, 0, none⟩) (m := 1) (c := 1) (news := [.string i]) hx (src_lit1 W _ 9 rfl) (by unfold maxLen; omega) (by omega) (Nat.zero_le _) ?_
  intro v8 w8 ho8 hg8 hv8
  have S8 := bk7 _ _ (row_app hR7 ho8 hg8 hv8)
  obtain ⟨A8, c8, rfl⟩ := own_form ho8
  rw [show Value.string i = .string (bs (bl i)) by rw [bs_bl], str_snoc] at S8
  exact hK A8 c8 w8 S8
end Go.Proofs.YtnppgomhhcbplaaGreatDoor
namespace Go.Proofs.YtnppgomhhcbplaaGreatDoor
open Go.RowKit Go.CH Go.CH.Scr
open Go.ChangeMaps (setBlock)
attribute [local go_sem] Oper.semAt_some
/-- What Letters has in hand between two rounds. -/
def LtO (k : Int) (l : Bs) (c6 c7 i : Nat) : CH.Own := exA fun p : Option Addr × Nat => star (CellO c6 #[.slice p.1 i p.2] 59) (star (StrO p.1 p.2 ((ltrs k l).1.take i)) (CellO c7 #[.string (bs (rst k i l))] 9))
def LtT (k : Int) (l : Bs) (c6 c7 i : Nat) (A : Option Addr) (c : Nat) : CH.Own := star (CellO c6 #[.slice A i c] 59) (star (StrO A c ((ltrs k l).1.take i)) (CellO c7 #[.string (bs (rst k i l))] 9))
theorem lt_ok {k : Int} {l : Bs} {c6 c7 : Nat} (i : Nat) : (LtO k l c6 c7 i).Ok := exA_ok fun _ => star_ok cell_ok (star_ok str_ok cell_ok)
def LtX (k : Int) (l : Bs) (c6 c7 : Nat) : Code → CH.Own
  | .exit 0 => exA fun i : Nat => pur (12 < i ∧ i ≤ (ltrs k l).1.length) (LtO k l c6 c7 i)
  | _ => noO
theorem ltx_ok {k : Int} {l : Bs} {c6 c7 : Nat} (c : Code) : (LtX k l c6 c7 c).Ok := by
  unfold LtX
  split
  · exact exA_ok fun i => pur_ok (lt_ok i)
  · exact no_ok
theorem put2 {S T : CH.Own} {F0 : Nat → Prop} {w0 W : World} {g : Nat} {v : Value} {t : TypeId} (hS : S.Ok) (hT : T.Ok) (h : Run F0 w0 (star S (star (CellO g #[v] t) T)) W) (v' : Value) :
    Run F0 w0 (star S (star (CellO g #[v'] t) T)) (W.setCell ⟨g, 0, none⟩ v') := by
  obtain ⟨F, hF, -, bk⟩ := h.rot.take cell_ok (star_ok hS hT)
  exact (bk _ _ (cell_set hF 0 v')).rot
theorem put3 {S T U : CH.Own} {F0 : Nat → Prop} {w0 W : World} {g : Nat} {v : Value} {t : TypeId} (hS : S.Ok) (hU : U.Ok) (hT : T.Ok) (h : Run F0 w0 (star S (star U (star (CellO g #[v] t) T))) W) (v' : Value) :
    Run F0 w0 (star S (star U (star (CellO g #[v'] t) T))) (W.setCell ⟨g, 0, none⟩ v') := by
  obtain ⟨F, hF, -, bk⟩ := h.rot3.take cell_ok (star_ok hS (star_ok hU hT))
  exact (bk _ _ (cell_set hF 0 v')).perm (by ac_rfl)
theorem get2 {S T : CH.Own} {F0 : Nat → Prop} {w0 W : World} {g : Nat} {v : Value} {t : TypeId} (h : Run F0 w0 (star S (star (CellO g #[v] t) T)) W) : W.cell? ⟨g, 0, none⟩ = some v ∧ W.frozen? ⟨g, 0, none⟩ = false := by
  obtain ⟨F, hF⟩ := h.rot.fst
  exact ⟨cell_at hF rfl, cell_free hF 0⟩
theorem get3 {S T U : CH.Own} {F0 : Nat → Prop} {w0 W : World} {g : Nat} {v : Value} {t : TypeId} (h : Run F0 w0 (star S (star U (star (CellO g #[v] t) T))) W) : W.cell? ⟨g, 0, none⟩ = some v ∧ W.frozen? ⟨g, 0, none⟩ = false := by
  obtain ⟨F, hF⟩ := h.rot3.fst
  exact ⟨cell_at hF rfl, cell_free hF 0⟩
theorem ltrs_count (k : Int) (l : Bs) : (ltrs k l).1.length ≤ l.length := by
  refine ltrs_ind (k := k) (P := fun l => (ltrs k l).1.length ≤ l.length) (fun l h => ?_) (fun l h ih => ?_) l
  · show (ltrs k l).1.length ≤ l.length
    rw [ltrs_stop h]; exact Nat.zero_le _
  · show (ltrs k l).1.length ≤ l.length
    have ih : (ltrs k (l.drop (len1 k l))).1.length ≤ (l.drop (len1 k l)).length := ih
    rw [ltrs_step h]
    rw [List.length_drop] at ih
    have := len1_le (k := k) (l := l)
    simp only [List.length_cons]
    omega
theorem lt_letter {k : Int} {l : Bs} {i : Nat} (hi : i < (ltrs k l).1.length) : (ltrs k l).1.take i ++ [bl (bs (ltrs k l).1[i])] = (ltrs k l).1.take (i + 1) ∧
    (bs (rst k i l)).extract (bs (ltrs k l).1[i]).size (bs (rst k i l)).size = bs (rst k (i + 1) l) ∧ (bs (ltrs k l).1[i]).size ≤ (bs (rst k i l)).size := by
  have h := rst_at hi
  have e : (bs (ltrs k l).1[i]).size = len1 k (rst k i l) := by
    rw [h.2, bs_size, List.length_take]
    have := len1_le (k := k) (l := rst k i l)
    omega
  refine ⟨by rw [bl_bs, List.take_succ_eq_append_getElem hi], ?_, ?_⟩
  · rw [e, ← bs_drop]; rfl
  · rw [e, bs_size]; exact len1_le
theorem ltrs_err {k : Int} {l : Bs} {w W' : World} (h : lettersN k l = ([], 1)) (hm : CH.Mod (fun _ => False) w W') : LtrsRet w k l (.returned (.tuple #[.slice none 0 0, .int .i64 1])) W' :=
  ⟨none, 0, by rw [h]; rfl, fun _ => False, by rw [h]; exact str_nil _, hm, fun i hi => .inl hi⟩
theorem ltrs_okR {k : Int} {l : Bs} {w W' : World} {A : Option Addr} {c : Nat} {X : CH.Own} (h : lettersN k l = ((ltrs k l).1, 0)) (hr : Run (fun _ => False) w (star (StrO A c (ltrs k l).1) X) W') :
    LtrsRet w k l (.returned (.tuple #[.slice A (ltrs k l).1.length c, .int .i64 0])) W' := ⟨A, c, by rw [h], by rw [h]; exact (hr.swap.drop).post str_ok⟩
theorem no_word {k : Int} {l : Bs} (h : ¬ ((ltrs k l).2 = [] ∧ 1 ≤ (ltrs k l).1.length ∧ (ltrs k l).1.length ≤ 12)) : lettersN k l = ([], 1) := by
  unfold lettersN
  rw [if_neg (fun hw => h (word_iff.1 hw))]
theorem is_word {k : Int} {l : Bs} (h : (ltrs k l).2 = [] ∧ 1 ≤ (ltrs k l).1.length ∧ (ltrs k l).1.length ≤ 12) : lettersN k l = ((ltrs k l).1, 0) := by
  unfold lettersN
  rw [if_pos (word_iff.2 h)]
theorem bs_empty {l : Bs} : (bs l).toList = [] ↔ l = [] := by
  rw [ByteArray.toList_eq]; exact Iff.rfl
theorem lt_start (k : Int) (s : ByteArray) (w : World) : Run (fun _ => False) w (LtO k (bl s) w.heap.size (w.heap.size + 1) 0) ((w.alloc (.cells #[.slice none 0 0] 59)).alloc (.cells #[.string s] 9)) := by
  have h0 := (Run.begin w).fresh emp_ok (⟨fun _ => False, str_nil w, Mod.refl _ _, fun i hi => .inl hi⟩ : Post w (fun _ => False) (StrO none 0 []) w)
  have h1 := h0.fresh (star_ok str_ok emp_ok) (cell_new w #[.slice none 0 0] 59)
  have h2 := h1.fresh (star_ok cell_ok (star_ok str_ok emp_ok)) (cell_new _ #[.string s] 9)
  rw [World.size_alloc] at h2
  have h3 : Run (fun _ => False) w (star (star (CellO w.heap.size #[.slice none 0 0] 59) (star (StrO none 0 []) (CellO (w.heap.size + 1) #[.string s] 9))) emp) _ := h2.perm (by ac_rfl)
  refine h3.swap.drop.imp fun _ _ h => ⟨(none, 0), ?_⟩
  rw [show bs (rst k 0 (bl s)) = s from bs_bl s]
  exact h
set_option maxRecDepth 100000 in
set_option maxHeartbeats 3200000 in
theorem Letters_any (k : Int) (s : ByteArray) (w : World) (hs : s.size ≤ 1000000) (hz : LZ w) :
    Calls Tryz.prog 43 #[.int .i64 k, .string s] w (LtrsRet w k (bl s)) := by
  have HZ := hide hz
  have HL := hide (fun W => letters_any k s W)
  clear hz
  refine (callsIn_wide (n := 8)).1 ?_
  refine callsIn_of_wp_marks Tryz.func43 rfl trivial ?_ rfl
  simp only [Tryz.ntmps43, List.size_toArray, List.length_cons, List.length_nil, Nat.reduceAdd, Nat.reduceSub, Array.replicate_succ, Array.replicate_zero, List.push_toArray, List.append_toArray, List.nil_append, List.cons_append]
  refine (wpIn_wide (n := 8)).2 ?_
  have S0 := hide (lt_start k s w)
  go_wp2_with fail
  generalize ((w.alloc (.cells #[.slice none 0 0] 59)).alloc (.cells #[.string s] 9)) = W2 at *
  refine (HL.out W2).mono ?_
  rintro e9 w9 ⟨b1, b2, rfl, hp⟩
  have S1 := hide (S0.out.fresh (lt_ok 0) hp)
  clear S0 hp HL
  have hE : ∀ W, Mod (fun _ => False) w W → LZ W := fun W h => HZ.out.below (h.below (fun _ _ h => h))
  dsimp only
  go_wp2_with fail
  have hl : (bl s).length ≤ 1000000 := by rw [bl_len]; exact hs
  have HL := hide hl
  generalize w.heap.size + 1 = c7 at *
  generalize w.heap.size = c6 at *
  clear hl
  refine range_law (gf := 104) (lb := #[.pointer (some ⟨b1, 0, none⟩), .pointer (some ⟨b2, 0, none⟩)]) rfl (enters_of Tryz.func104 (by kernel_rfl) rfl) (letters_iter k (bl s) b1 b2 HL.out) Zl_ok (fun _ => rfl) hE
    (LtO k (bl s) c6 c7) (LtX k (bl s) c6 c7) lt_ok ltx_ok S1.out
    (fun x => { tmps := #[.int .i64 k, .string s, undef, undef, .slice none 0 0, .int .i64 0, .pointer (some ⟨c6, 0, none⟩), .pointer (some ⟨c7, 0, none⟩), .string (bs x), .string s, .int .i64 k, .string s, fn36 b1 b2, .string (bs x), undef, undef, undef, undef, undef, undef, undef, undef, undef, undef, undef, undef, undef, undef, undef, undef, undef, undef, undef, undef, undef, undef, undef, undef], defers := [] }) ?assign ?body ?done ?stop
  case assign =>
    intro l m x W K hK
    unfold encL
    gi_wp2
    exact hK
  case body =>
    intro lo m i hi R W hR hI
    obtain ⟨⟨A, c⟩, h1⟩ := hI.ex
    dsimp only at h1
    obtain ⟨F6, h6⟩ := h1.assoc.fst
    obtain ⟨F7, h7⟩ := h1.assoc.rot.assoc.rot.fst
    have c6a := cell_at (i := 0) h6 rfl
    have c6b := cell_free h6 0
    have c7a := cell_at (i := 0) h7 rfl
    have c7b := cell_free h7 0
    have H1 := hide h1
    clear h1 h6 h7 hI S1
    obtain ⟨q1, q2, q3⟩ := lt_letter hi
    have Q1 := hide q1
    have HI1 := hide (show i + 1 ≤ (ltrs k (bl s)).1.length from hi)
    have hi6 : i < 1000000 := by
      have := HL.out
      have h2 := ltrs_count k (bl s)
      omega
    have okY : (star (CellO c6 #[.slice A i c] 59) (star (CellO c7 #[.string (bs (rst k i (bl s)))] 9) R)).Ok := star_ok cell_ok (star_ok cell_ok hR)
    have HA := hide ((H1.out.perm (by ac_rfl) : Run (fun _ => False) w (star (StrO A c ((ltrs k (bl s)).1.take i)) (star (CellO c6 #[.slice A i c] 59) (star (CellO c7 #[.string (bs (rst k i (bl s)))] 9) R))) W).drew (star_ok str_ok okY))
    have OKY := hide okY
    have OKR := hide hR
    have hlen : ((ltrs k (bl s)).1.take i).length = i := by rw [List.length_take]; omega
    have HLEN := hide hlen
    clear okY H1 hlen q1 hR
    generalize (ltrs k (bl s)).1[i] = x at *
    generalize hr : bs (rst k i (bl s)) = r at *
    clear hr hi
    refine wpIn_block (wpIn_seq ?_)
    refine region_in_les [2, 3, 8, 9] [1, 0, 1, 2, 3, 3, 3, 3, 3, 4]
      (fun w' => w'.cell? ⟨c6, 0, none⟩ = some (.slice A i c) ∧ w'.cell? ⟨c7, 0, none⟩ = some (.string r))
      [fun w' => w'.cell? ⟨c6, 0, none⟩ = some (.slice A i c) ∧ w'.cell? ⟨c7, 0, none⟩ = some (.string r), fun w' => w'.cell? ⟨c7, 0, none⟩ = some (.string r), fun w' => w'.cell? ⟨c7, 0, none⟩ = some (.string r)]
      ⟨fun _ h => h, fun _ h => h.2, fun _ h => h, trivial⟩ rfl (fun ⟨a, w, h⟩ => h) rfl (by kernel_rfl) (by kernel_rfl) (by kernel_rfl) ⟨c6a, c7a⟩ ?_
    (repeat (first | (refine les_skip (by rfl) (by rfl) ?_; try simp only [Act.put, List.setIfInBounds_toArray, List.set_cons_zero, List.set_cons_succ]) | (refine les_read (v := ?_) (by rfl) (by rfl) ?_ ?_; rotate_left; (focus (intro w' hS'; (try simp only [stL] at hS'); go_simp; (try with_reducible rfl); done)); try simp only [Act.put, List.setIfInBounds_toArray, List.set_cons_zero, List.set_cons_succ])))
    refine les_chain rfl (by rfl) (fun K hK => ?_)
    go_wp2
    refine hK.out _ _ ?_ ?_
    · obtain ⟨d1, -⟩ := get2 (HA.out.below (star_ok str_ok OKY.out) ((Below.refl _ _).alloc (Nat.le_refl _) (.cells #[.string (bs x)] 9)))
      obtain ⟨d2, -⟩ := get3 (HA.out.below (star_ok str_ok OKY.out) ((Below.refl _ _).alloc (Nat.le_refl _) (.cells #[.string (bs x)] 9)))
      exact ⟨d1, d2⟩
    clear hK c6a c6b c7a c7b
    (repeat (first | (refine les_skip (by rfl) (by rfl) ?_; try simp only [Act.put, List.setIfInBounds_toArray, List.set_cons_zero, List.set_cons_succ]) | (refine les_read (v := ?_) (by rfl) (by rfl) ?_ ?_; rotate_left; (focus (intro w' hS'; (try simp only [stL] at hS'); go_simp; (try with_reducible rfl); done)); try simp only [Act.put, List.setIfInBounds_toArray, List.set_cons_zero, List.set_cons_succ])))
    refine les_chain rfl (by rfl) (fun K hK => ?_)
    refine app_str1 (.tmp 14) (.tmp 16) rfl HLEN.out rfl rfl (by omega) OKY.out HA.out ?_
    intro A' c' w2 hw2
    rw [Q1.out] at hw2
    have H2 := hide hw2
    obtain ⟨e6, f6⟩ := get2 hw2
    obtain ⟨e7, f7⟩ := get3 hw2
    refine hK.out _ _ e7 ?_
    clear hK HA hw2 Q1
    (repeat (first | (refine les_skip (by rfl) (by rfl) ?_; try simp only [Act.put, List.setIfInBounds_toArray, List.set_cons_zero, List.set_cons_succ]) | (refine les_read (v := ?_) (by rfl) (by rfl) ?_ ?_; rotate_left; (focus (intro w' hS'; (try simp only [stL] at hS'); go_simp; (try with_reducible rfl); done)); try simp only [Act.put, List.setIfInBounds_toArray, List.set_cons_zero, List.set_cons_succ])))
    refine les_chain rfl (by rfl) (fun K hK => ?_)
    go_wp2
    have okR := OKR.out
    have h3 := put2 str_ok (star_ok cell_ok okR) H2.out (.slice A' (i + 1) c')
    have H3 := hide h3
    obtain ⟨e7', f7'⟩ := get3 h3
    refine hK.out _ _ e7' ?_
    clear hK h3 e6 f6 e7 f7 H2
    refine les_chain rfl (by rfl) (fun K hK => ?_)
    go_wp2
    have h4 := put3 str_ok cell_ok okR H3.out (.string (r.extract (bs x).size r.size))
    rw [q2] at h4
    obtain ⟨e6, -⟩ := get2 h4
    have H4 := hide (Run.exI (O := fun p : Option Addr × Nat => star (CellO c6 #[.slice p.1 (i + 1) p.2] 59) (star (StrO p.1 p.2 ((ltrs k (bl s)).1.take (i + 1))) (CellO c7 #[.string (bs (rst k (i + 1) (bl s)))] 9))) (A', c') (h4.perm (by ac_rfl)))
    refine hK.out _ _ trivial (les_nil ?_)
    clear hK H3 e7' f7' h4
    show Code.wpIn _ _ _ _ _ _ _
    generalize (w2.setCell ⟨c6, 0, none⟩ (.slice A' (i + 1) c')).setCell ⟨c7, 0, none⟩ (.string (bs (rst k (i + 1) (bl s)))) = w3 at *
    by_cases h12 : (12 : Int) < (i : Int) + 1
    · have HX := hide (show Run (fun _ => False) w (star (LtX k (bl s) c6 c7 (.exit 0)) R) w3 from Run.exI (i + 1) (Run.pureI ⟨by omega, HI1.out⟩ H4.out))
      clear H4
      gi_wp2
      exact HX.out
    · gi_wp2
      exact H4.out
  case done =>
    intro D R W hR hI
    obtain ⟨⟨A, c⟩, h1⟩ := hI.ex
    dsimp only at h1 ⊢
    obtain ⟨F6, h6⟩ := h1.assoc.fst
    obtain ⟨F7, h7⟩ := h1.assoc.rot.assoc.rot.fst
    have c6a : W.cell? ⟨c6, 0, none⟩ = some (.slice A (ltrs k (bl s)).1.length c) := cell_at (i := 0) h6 rfl
    have c7a : W.cell? ⟨c7, 0, none⟩ = some (.string (bs (rst k (ltrs k (bl s)).1.length (bl s)))) := cell_at (i := 0) h7 rfl
    have okD : (star (LtT k (bl s) c6 c7 (ltrs k (bl s)).1.length A c) R).Ok := star_ok (star_ok cell_ok (star_ok str_ok cell_ok)) hR
    obtain ⟨FD, hD, -, bk⟩ := h1.rot.take obj_ok okD
    have hK := hD.1
    have HF := hide ((bk _ _ (obj_put hD (.deferred none))).perm (by ac_rfl : _ = star (StrO A c ((ltrs k (bl s)).1.take (ltrs k (bl s)).1.length)) (star (CellO c6 #[.slice A (ltrs k (bl s)).1.length c] 59) (star (CellO c7 #[.string (bs (rst k (ltrs k (bl s)).1.length (bl s)))] 9) (star (ObjO D (.deferred none)) R)))))
    have HK := hide hK
    clear h1 h6 h7 hI S1 hK hD bk okD
    rw [(rst_end k (bl s)).2] at c7a
    obtain ⟨n, hn⟩ : ∃ n, n = (ltrs k (bl s)).1.length := ⟨_, rfl⟩
    have HX0 := hide (fun h : lettersN k (bl s) = ((ltrs k (bl s)).1, 0) => show LtrsRet w k (bl s) (.returned (.tuple #[.slice A (ltrs k (bl s)).1.length c, .int .i64 0])) (W.putObj D (.deferred none)) from ltrs_okR h (by have := HF.out; rw [List.take_length] at this; exact this))
    have HN0 := hide (fun h : ¬ ((ltrs k (bl s)).2 = [] ∧ 1 ≤ n ∧ n ≤ 12) => show lettersN k (bl s) = ([], 1) from no_word (by rw [← hn]; exact h))
    have HW0 := hide (fun h : (ltrs k (bl s)).2 = [] ∧ 1 ≤ n ∧ n ≤ 12 => show lettersN k (bl s) = ((ltrs k (bl s)).1, 0) from is_word (by rw [← hn]; exact h))
    rw [← hn] at c6a HX0
    clear hn
    by_cases he : (ltrs k (bl s)).2 = []
    · have he2 : (bs (ltrs k (bl s)).2).toList = [] := bs_empty.2 he
      by_cases h0 : n = 0
      · have t0 : ((n : Int) == 0) = true := by simp [h0]
        have HN := hide (HN0.out (by omega))
        clear HX0 HN0 HW0 he
        go_wp2_with fail
        refine ⟨by simp, .inl ⟨_, _, rfl, run_takeDeferred HK.out, ?_⟩⟩
        refine ⟨_, results_tmp2 rfl _ _ _, ?_⟩
        exact ltrs_err HN.out HF.out.mod
      · have t0 : ((n : Int) == 0) = false := by simp [h0]
        by_cases h12 : (12 : Int) < (n : Int)
        · have HN := hide (HN0.out (by omega))
          clear HX0 HN0 HW0 he
          go_wp2_with fail
          refine ⟨by simp, .inl ⟨_, _, rfl, run_takeDeferred HK.out, ?_⟩⟩
          refine ⟨_, results_tmp2 rfl _ _ _, ?_⟩
          exact ltrs_err HN.out HF.out.mod
        · have HX := hide (HX0.out (HW0.out ⟨he, by omega, by omega⟩))
          clear HX0 HN0 HW0 he
          go_wp2_with fail
          refine ⟨by simp, .inl ⟨_, _, rfl, run_takeDeferred HK.out, ?_⟩⟩
          refine ⟨_, results_tmp2 rfl _ _ _, ?_⟩
          exact HX.out
    · have he2 : ¬ (bs (ltrs k (bl s)).2).toList = [] := fun h => he (bs_empty.1 h)
      have HN := hide (HN0.out (fun h => he h.1))
      clear HX0 HN0 HW0 he
      go_wp2_with fail
      refine ⟨by simp, .inl ⟨_, _, rfl, run_takeDeferred HK.out, ?_⟩⟩
      refine ⟨_, results_tmp2 rfl _ _ _, ?_⟩
      exact ltrs_err HN.out HF.out.mod
  case stop =>
    intro D c R W hR hI
    have hI2 : ∃ i, (12 < i ∧ i ≤ (ltrs k (bl s)).1.length) ∧ c = .exit 0 ∧ Run (fun _ => False) w (star (LtO k (bl s) c6 c7 i) (star (ObjO D (.deferred (some []))) R)) W := by
      unfold LtX at hI
      split at hI
      · obtain ⟨i, hi⟩ := hI.ex
        exact ⟨i, hi.pure.1, rfl, hi.pure.2⟩
      · exact hI.no.elim
    clear hI
    obtain ⟨i, ⟨h12, hin⟩, rfl, hI⟩ := hI2
    obtain ⟨⟨A, c⟩, h1⟩ := hI.ex
    dsimp only at h1 ⊢
    obtain ⟨F6, h6⟩ := h1.assoc.fst
    obtain ⟨F7, h7⟩ := h1.assoc.rot.assoc.rot.fst
    have c6a : W.cell? ⟨c6, 0, none⟩ = some (.slice A i c) := cell_at (i := 0) h6 rfl
    have c7a : W.cell? ⟨c7, 0, none⟩ = some (.string (bs (rst k i (bl s)))) := cell_at (i := 0) h7 rfl
    have okD : (star (LtT k (bl s) c6 c7 i A c) R).Ok := star_ok (star_ok cell_ok (star_ok str_ok cell_ok)) hR
    obtain ⟨FD, hD, -, bk⟩ := h1.rot.take obj_ok okD
    have hK := hD.1
    have HF := hide ((bk _ _ (obj_put hD (.deferred none))).perm (by ac_rfl : _ = star (StrO A c ((ltrs k (bl s)).1.take i)) (star (CellO c6 #[.slice A i c] 59) (star (CellO c7 #[.string (bs (rst k i (bl s)))] 9) (star (ObjO D (.deferred none)) R)))))
    have HK := hide hK
    clear h1 h6 h7 hI S1 hK hD bk okD
    have HN := hide (show lettersN k (bl s) = ([], 1) from no_word (by omega))
    have t0 : ((i : Int) == 0) = false := by simp; omega
    have t12 : (12 : Int) < (i : Int) := by omega
    generalize rst k i (bl s) = rr at *
    by_cases he : (bs rr).toList = []
    · go_wp2_with fail
      refine ⟨by simp, .inl ⟨_, _, rfl, run_takeDeferred HK.out, ?_⟩⟩
      refine ⟨_, results_tmp2 rfl _ _ _, ?_⟩
      exact ltrs_err HN.out HF.out.mod
    · go_wp2_with fail
      refine ⟨by simp, .inl ⟨_, _, rfl, run_takeDeferred HK.out, ?_⟩⟩
      refine ⟨_, results_tmp2 rfl _ _ _, ?_⟩
      exact ltrs_err HN.out HF.out.mod
end Go.Proofs.YtnppgomhhcbplaaGreatDoor
namespace Go.Proofs.YtnppgomhhcbplaaGreatDoor
open Go.RowKit Go.CH Go.CH.Scr
open Go.ChangeMaps (setBlock)
/-- A list of texts at A. -/
def Vst (w : World) (A : Option Addr) (l : List Bs) : Prop := Src w A l.length 1 (strB l)
theorem src_below {w w' : World} {A : Option Addr} {n size : Nat} {xs : List Value} (h : Src w A n size xs) (hb : Below w.heap.size w w') : Src w' A n size xs :=
  ((Run.begin w).below emp_ok hb).src0 h
theorem Vst.below {w w' : World} {A : Option Addr} {l : List Bs} (h : Vst w A l) (hb : Below w.heap.size w w') : Vst w' A l := src_below h hb
theorem Vst.at {w : World} {A : Option Addr} {l : List Bs} (h : Vst w A l) (hn : 0 < l.length) :
    ∃ b o, A = some ⟨b, o, none⟩ ∧ ∀ w', Below w.heap.size w w' → ∀ j (hj : j < l.length), w'.cell? ⟨b, o + j, none⟩ = some (.string (bs l[j])) := by
  obtain ⟨b, o, rfl, hc⟩ := Src.open_ h hn (by omega)
  refine ⟨b, o, rfl, fun w' hb j hj => ?_⟩
  have h1 := hc j _ (strB_get hj)
  rw [hb.cell (World.block_lt_of_cell? _ _ h1)]; exact h1
theorem vst_of {w : World} {F : Nat → Prop} {A : Option Addr} {c : Nat} {l : List Bs} (h : StrO A c l w F) : Vst w A l := row_src h (strB_one l)
/-- Letters' answer, read only. -/
def LtrsB (w : World) (k : Int) (l : Bs) (e : Ending) (w' : World) : Prop :=
  ∃ A c, e = .returned (.tuple #[.slice A (lettersN k l).1.length c, .int .i64 (lettersN k l).2]) ∧ Below w.heap.size w w' ∧ Vst w' A (lettersN k l).1
theorem Letters_b (k : Int) (s : ByteArray) (w : World) (hs : s.size ≤ 1000000) (hz : LZ w) :
    Calls Tryz.prog 43 #[.int .i64 k, .string s] w (LtrsB w k (bl s)) := by
  refine (Letters_any k s w hs hz).mono ?_
  rintro e w' ⟨A, c, rfl, F, h1, h2, h3⟩
  exact ⟨A, c, rfl, h2.below (fun _ _ h => h), vst_of h1⟩
/-- Fold's answer. -/
def foldN (k : Int) (l : Bs) : Bs × Int := if word k l then (lower l, 0) else ([], 1)
theorem set_ascii : (∀ c ∈ smallS, c.toNat < 128) ∧ (∀ c ∈ abjS, c.toNat < 128) ∧ (∀ c ∈ vowS, c.toNat < 128) ∧ (∀ c ∈ onsS, c.toNat < 128) ∧ (∀ c ∈ accS, c.toNat < 128) ∧ (∀ c ∈ ([110] : Bs), c.toNat < 128) := by decide
theorem lt2_ascii {k : Int} {a : UInt8} {b : Option UInt8} (h : lt2 k a b ≠ 0) : a.toNat < 128 := by
  obtain ⟨s1, s2, s3, s4, s5, s6⟩ := set_ascii
  unfold lt2 at h
  split at h
  · split at h
    · rename_i hh; exact s1 _ (has_mem.1 hh)
    · exact absurd rfl h
  split at h
  · split at h
    · rename_i hh
      refine Classical.byContradiction fun hc => ?_
      rw [has_high a (by omega)] at hh; cases hh
    · exact absurd rfl h
  split at h
  · split at h
    · rename_i hh; exact s2 _ (has_mem.1 hh)
    · exact absurd rfl h
  split at h
  · split at h
    · rename_i hh
      rw [Bool.and_eq_true] at hh
      exact s4 _ (has_mem.1 hh.1)
    · split at h
      · rename_i hh
        rw [Bool.or_eq_true] at hh
        rcases hh with hh | hh
        · exact s3 _ (has_mem.1 hh)
        · exact s6 _ (has_mem.1 hh)
      · exact absurd rfl h
  · exact absurd rfl h
theorem sec_ascii {k : Int} {c : UInt8} (h : has (sec k) (some c) = true) : c.toNat < 128 := by
  obtain ⟨s1, s2, s3, s4, s5, s6⟩ := set_ascii
  have hm := has_mem.1 h
  unfold sec at hm
  split at hm
  · exact s5 _ hm
  split at hm
  · exact s3 _ hm
  · cases hm
theorem letter_ascii {k : Int} {l : Bs} (h : len1 k l ≠ 0) : ∀ b ∈ l.take (len1 k l), b.toNat < 128 := by
  cases l with
  | nil => intro b hb; simp at hb
  | cons a t =>
    have h1 : lt2 k a t.head? ≠ 0 := h
    have ha := lt2_ascii h1
    show ∀ b ∈ (a :: t).take (lt2 k a t.head?), b.toNat < 128
    have hle := lt2_le (k := k) (a := a) (b := t.head?)
    by_cases h2 : lt2 k a t.head? = 2
    · have hs := lt2_two h2
      rw [h2]
      cases t with
      | nil => intro b hb; simp at hb; rw [hb]; exact ha
      | cons c t =>
        have hc := sec_ascii hs
        intro b hb
        simp at hb
        rcases hb with rfl | rfl
        · exact ha
        · exact hc
    · rw [show lt2 k a t.head? = 1 by omega]
      intro b hb
      simp at hb
      rw [hb]; exact ha
theorem words_ascii {k : Int} {l : Bs} (h : word k l = true) : ∀ b ∈ l, b.toNat < 128 := by
  have key : ∀ l : Bs, (ltrs k l).2 = [] → ∀ b ∈ l, b.toNat < 128 := fun l => by
    refine ltrs_ind (k := k) (P := fun l => (ltrs k l).2 = [] → ∀ b ∈ l, b.toNat < 128) (fun l h he b hb => ?_) (fun l h ih he b hb => ?_) l
    · rw [ltrs_stop h] at he
      have he : l = [] := he
      rw [he] at hb; cases hb
    · rw [ltrs_step h] at he
      have := ih he
      rw [← List.take_append_drop (len1 k l) l] at hb
      rcases List.mem_append.1 hb with hb | hb
      · exact letter_ascii h b hb
      · exact this b hb
  exact key l (word_iff.1 h).1
theorem fold_any (k : Int) (s : ByteArray) (w : World) (hs : s.size ≤ 1000000) (hz : LZ w) :
    Calls Tryz.prog 42 #[.int .i64 k, .string s] w (BelowRet w (.tuple #[.string (bs (foldN k (bl s)).1), .int .i64 (foldN k (bl s)).2])) := by
  have HZ := hide hz
  have HL := hide (Letters_b k s w hs hz)
  have HF := hide (fun W (h : Below w.heap.size w W) => Tryz.strings_ToLower_any s W (by omega) (HZ.out.below h).c (HZ.out.below h).t)
  by_cases hw : word k (bl s) = true
  · have e1 : lettersN k (bl s) = ((ltrs k (bl s)).1, 0) := by unfold lettersN; rw [if_pos hw]
    have e2 : foldN k (bl s) = (lower (bl s), 0) := by unfold foldN; rw [if_pos hw]
    have e3 : (⟨(Lib.toLowerD (bl s)).toArray⟩ : ByteArray) = bs (lower (bl s)) := by
      rw [Lib.toLowerD_ascii _ (words_ascii hw), toLowerA_is]; rfl
    unfold LtrsB at HL
    simp only [e1] at HL
    simp only [e3] at HF
    rw [e2]
    clear e1 e2 e3 hw hz
    go_enter Tryz.func42, Tryz.ntmps42
    go_wp2_with fail
    refine HL.out.mono ?_
    rintro e9 w1 ⟨A, c, rfl, hb, -⟩
    have HB := hide hb
    have KF := hide (HF.out w1 hb)
    clear hb HL HF
    dsimp only
    go_wp2_with fail
    refine KF.out.mono ?_
    rintro e9 w2 ⟨rfl, hb⟩
    have HB2 := hide (bel_trans HB.out hb)
    clear KF HB hb
    go_wp2
    refine bodyPost_ret (results_tmp2 rfl _ _ _) rfl ?_
    exact ⟨rfl, HB2.out⟩
  · have e1 : lettersN k (bl s) = ([], 1) := by unfold lettersN; rw [if_neg hw]
    have e2 : foldN k (bl s) = ([], 1) := by unfold foldN; rw [if_neg hw]
    unfold LtrsB at HL
    simp only [e1] at HL
    rw [e2]
    clear e1 e2 hw hz HF
    go_enter Tryz.func42, Tryz.ntmps42
    go_wp2_with fail
    refine HL.out.mono ?_
    rintro e9 w1 ⟨A, c, rfl, hb, -⟩
    have HB := hide hb
    clear hb HL
    dsimp only
    go_wp2
    refine bodyPost_ret (results_tmp2 rfl _ _ _) rfl ?_
    exact ⟨rfl, HB.out⟩
end Go.Proofs.YtnppgomhhcbplaaGreatDoor
namespace Go.CH.Pot
open Go.CH.Scr
structure Rule where
  k : Int
  f : Bs
  t : Bs
  c : Int
deriving DecidableEq
/-- A state of a derivation. -/
structure St where
  i : Nat
  j : Nat
  a : Bs
  r : Bool
deriving DecidableEq
/-- Two words, letter by letter, with their scripts, and rules. -/
structure Wd where
  ka : Int
  kb : Int
  l : List Bs
  m : List Bs
  rs : List Rule
/-- How many of the first letters make a text. -/
def tk : List Bs → Bs → Option Nat
  | _, [] => some 0
  | [], _ :: _ => none
  | x :: l, c :: t => if x.isPrefixOf (c :: t) then (tk l ((c :: t).drop x.length)).map (· + 1) else none
def takes (l : List Bs) (t : Bs) : Nat := (tk l t).getD 0
variable {W : Wd} {s s' t : St} {R : Rule} {c d : Int} {n : Nat}
/-- Whether the left side moves. -/
def Wd.left (W : Wd) (s : St) : Bool := s.r || (decide (s.a = []) && decide (s.i ≠ W.l.length))
def Wd.used (W : Wd) (s : St) (R : Rule) : Nat :=
  if W.left s then (if R.k = W.ka then takes (W.l.drop s.i) R.f else 0) else (if R.k = W.kb then takes (W.m.drop s.j) R.f else 0)
/-- What is ahead behind a move, and whether the right side is. -/
def Wd.ah (W : Wd) (s : St) (tw : Bs) : Option (Bs × Bool) :=
  if tw.isPrefixOf s.a ∧ s.a.drop tw.length ≠ [] then some (s.a.drop tw.length, s.r)
  else if s.a.isPrefixOf tw then some (tw.drop s.a.length, !W.left s && decide (tw.drop s.a.length ≠ []))
  else none
def Wd.mv (W : Wd) (s : St) (R : Rule) : Option (Int × St) :=
  if W.used s R = 0 then none
  else (W.ah s R.t).map fun x => (R.c, if W.left s then ⟨s.i + W.used s R, s.j, x.1, x.2⟩ else ⟨s.i, s.j + W.used s R, x.1, x.2⟩)
def Wd.moves (W : Wd) (s : St) : List (Int × St) := W.rs.filterMap (W.mv s)
def Wd.fin (W : Wd) : St := ⟨W.l.length, W.m.length, [], false⟩
def st0 : St := ⟨0, 0, [], false⟩
theorem pre_iff {a b : Bs} : a.isPrefixOf b = true ↔ ∃ r, b = a ++ r := by
  rw [List.isPrefixOf_iff_prefix]
  exact ⟨fun ⟨r, h⟩ => ⟨r, h.symm⟩, fun ⟨r, h⟩ => ⟨r, h.symm⟩⟩
theorem tk_nil {l : List Bs} : tk l [] = some 0 := by cases l <;> rfl
/-- The letters that make a text. -/
theorem tk_some : ∀ {l : List Bs} {t : Bs} {n : Nat}, tk l t = some n → n ≤ l.length ∧ (l.take n).flatten = t := by
  intro l
  induction l with
  | nil =>
    intro t n h
    cases t with
    | nil => rw [tk_nil] at h; injection h with h; subst h; exact ⟨Nat.le_refl _, rfl⟩
    | cons c t => cases h
  | cons x l ih =>
    intro t n h
    cases t with
    | nil => rw [tk_nil] at h; injection h with h; subst h; exact ⟨Nat.zero_le _, rfl⟩
    | cons c t =>
      unfold tk at h
      split at h
      · rename_i hp
        obtain ⟨r, hr⟩ := pre_iff.1 hp
        rw [Option.map_eq_some_iff] at h
        obtain ⟨k, hk, rfl⟩ := h
        obtain ⟨h1, h2⟩ := ih hk
        refine ⟨Nat.succ_le_succ h1, ?_⟩
        rw [List.take_succ_cons, List.flatten_cons, h2, hr, List.drop_left]
      · cases h
theorem takes_le {l : List Bs} {t : Bs} : takes l t ≤ l.length := by
  unfold takes
  cases h : tk l t with
  | none => exact Nat.zero_le _
  | some n => exact (tk_some h).1
theorem takes_flat {l : List Bs} {t : Bs} (h : takes l t ≠ 0) : (l.take (takes l t)).flatten = t := by
  unfold takes at h ⊢
  cases h2 : tk l t with
  | none => rw [h2] at h; exact absurd rfl h
  | some n => exact (tk_some h2).2
/-- Where letters are not empty, what they make is taken. -/
theorem tk_of : ∀ {l : List Bs} {n : Nat}, n ≤ l.length → (∀ x ∈ l, x ≠ []) → tk l (l.take n).flatten = some n := by
  intro l
  induction l with
  | nil => intro n hn _; obtain rfl : n = 0 := Nat.le_zero.1 hn; exact tk_nil
  | cons x l ih =>
    intro n hn hx
    cases n with
    | zero => rfl
    | succ n =>
      have ih' := ih (n := n) (by simpa using hn) (fun y hy => hx y (List.mem_cons_of_mem _ hy))
      have hx0 := hx x (List.mem_cons_self ..)
      cases x with
      | nil => exact absurd rfl hx0
      | cons b x =>
        show tk ((b :: x) :: l) (b :: (x ++ (l.take n).flatten)) = some (n + 1)
        unfold tk
        rw [if_pos (show (b :: x).isPrefixOf (b :: (x ++ (l.take n).flatten)) = true from pre_iff.2 ⟨(l.take n).flatten, rfl⟩)]
        have : (b :: (x ++ (l.take n).flatten)).drop (b :: x).length = (l.take n).flatten := List.drop_left
        rw [this, ih']; rfl
theorem takes_of {l : List Bs} {n : Nat} (hn : n ≤ l.length) (hx : ∀ x ∈ l, x ≠ []) : takes l (l.take n).flatten = n := by unfold takes; rw [tk_of hn hx]; rfl

/-! ### States -/
def Wd.ok (W : Wd) (s : St) : Prop := s.i ≤ W.l.length ∧ s.j ≤ W.m.length ∧ (s.r = true → s.a ≠ [])
def Wd.rank (W : Wd) (s : St) : Nat := (W.l.length - s.i) + (W.m.length - s.j)
theorem ok0 : W.ok st0 := ⟨Nat.zero_le _, Nat.zero_le _, fun h => by cases h⟩
theorem mv_some (h : W.mv s R = some (c, s')) : c = R.c ∧ W.used s R ≠ 0 ∧ ∃ x, W.ah s R.t = some x ∧ s' = (if W.left s then ⟨s.i + W.used s R, s.j, x.1, x.2⟩ else ⟨s.i, s.j + W.used s R, x.1, x.2⟩) := by
  unfold Wd.mv at h
  split at h
  · cases h
  · rename_i hu
    rw [Option.map_eq_some_iff] at h
    obtain ⟨x, hx, he⟩ := h
    injection he with h1 h2
    exact ⟨h1.symm, hu, x, hx, h2.symm⟩
theorem used_le : (W.left s = true → s.i ≤ W.l.length → s.i + W.used s R ≤ W.l.length) ∧ (W.left s = false → s.j ≤ W.m.length → s.j + W.used s R ≤ W.m.length) := by
  unfold Wd.used
  constructor
  · intro h hi
    rw [if_pos h]
    split
    · have := takes_le (l := W.l.drop s.i) (t := R.f); rw [List.length_drop] at this; omega
    · omega
  · intro h hj
    rw [if_neg (by rw [h]; decide)]
    split
    · have := takes_le (l := W.m.drop s.j) (t := R.f); rw [List.length_drop] at this; omega
    · omega
theorem ah_ok {x : Bs × Bool} {tw : Bs} (h : W.ah s tw = some x) : x.2 = true → x.1 ≠ [] := by
  unfold Wd.ah at h
  split at h
  · rename_i h1; injection h with h; subst h; exact fun _ => h1.2
  · split at h
    · injection h with h; subst h; intro h2; simp at h2; simpa using h2.2
    · cases h
theorem mv_ok (hs : W.ok s) (h : W.mv s R = some (c, s')) : W.ok s' ∧ W.rank s' < W.rank s := by
  obtain ⟨-, hu, x, hx, rfl⟩ := mv_some h
  obtain ⟨h1, h2, h3⟩ := hs
  have hle := used_le (W := W) (s := s) (R := R)
  cases hl : W.left s with
  | true =>
    have h4 := hle.1 hl h1
    simp only [if_true]
    exact ⟨⟨h4, h2, ah_ok hx⟩, by show (W.l.length - (s.i + W.used s R)) + (W.m.length - s.j) < (W.l.length - s.i) + (W.m.length - s.j); omega⟩
  | false =>
    have h4 := hle.2 hl h2
    simp only [Bool.false_eq_true, if_false]
    exact ⟨⟨h1, h4, ah_ok hx⟩, by show (W.l.length - s.i) + (W.m.length - (s.j + W.used s R)) < (W.l.length - s.i) + (W.m.length - s.j); omega⟩
theorem moves_mem (h : (c, s') ∈ W.moves s) : ∃ R ∈ W.rs, W.mv s R = some (c, s') := by
  unfold Wd.moves at h
  exact List.mem_filterMap.1 h
theorem moves_ok (hs : W.ok s) (h : (c, s') ∈ W.moves s) : W.ok s' ∧ W.rank s' < W.rank s := by
  obtain ⟨R, _, hm⟩ := moves_mem h
  exact mv_ok hs hm
/-- Reached from a state. -/
inductive Rch (W : Wd) (s : St) : St → Prop
  | refl : Rch W s s
  | step {s' s'' : St} {c : Int} (h : Rch W s s') (hm : (c, s'') ∈ W.moves s') : Rch W s s''
theorem Rch.ok (hs : W.ok s) (h : Rch W s s') : W.ok s' := by
  induction h with
  | refl => exact hs
  | step _ hm ih => exact (moves_ok ih hm).1
theorem Rch.trans {a b c : St} (h : Rch W a b) (h2 : Rch W b c) : Rch W a c := by
  induction h2 with
  | refl => exact h
  | step _ hm ih => exact .step ih hm
/-- A way from a state to another one, with its cost. -/
inductive Pa (W : Wd) : St → Int → St → Prop
  | nil (s : St) : Pa W s 0 s
  | cons {s s' t : St} {c d : Int} (hm : (c, s') ∈ W.moves s) (h : Pa W s' d t) : Pa W s (c + d) t

/-! ### The least cost to the end -/
def never : Int := 1099511627776
def Wd.dn (W : Wd) : Nat → St → Int
  | 0, s => if s = W.fin then 0 else never
  | n + 1, s => (W.moves s).foldl (fun h x => min h (x.1 + W.dn n x.2)) (if s = W.fin then 0 else never)
def Wd.dist (W : Wd) (s : St) : Int := W.dn (W.rank s) s
theorem fold_le {α : Type} (f : α → Int) : ∀ (l : List α) (h : Int), l.foldl (fun h x => min h (f x)) h ≤ h ∧ ∀ x ∈ l, l.foldl (fun h x => min h (f x)) h ≤ f x := by
  intro l
  induction l with
  | nil => intro h; exact ⟨Int.le_refl _, fun x hx => by cases hx⟩
  | cons y l ih =>
    intro h
    obtain ⟨h1, h2⟩ := ih (min h (f y))
    rw [List.foldl_cons]
    refine ⟨Int.le_trans h1 (Int.min_le_left ..), fun x hx => ?_⟩
    rcases List.mem_cons.1 hx with rfl | hx
    · exact Int.le_trans h1 (Int.min_le_right ..)
    · exact h2 x hx
theorem fold_eq {α : Type} (f : α → Int) : ∀ (l : List α) (h : Int), l.foldl (fun h x => min h (f x)) h = h ∨ ∃ x ∈ l, l.foldl (fun h x => min h (f x)) h = f x := by
  intro l
  induction l with
  | nil => intro h; exact .inl rfl
  | cons y l ih =>
    intro h
    rw [List.foldl_cons]
    rcases ih (min h (f y)) with h1 | ⟨x, hx, h1⟩
    · rw [h1]
      rcases Int.le_total h (f y) with h2 | h2
      · exact .inl (Int.min_eq_left h2)
      · exact .inr ⟨y, List.mem_cons_self .., Int.min_eq_right h2⟩
    · exact .inr ⟨x, List.mem_cons_of_mem _ hx, h1⟩
theorem fold_congr {α : Type} (f g : α → Int) : ∀ (l : List α) (h : Int), (∀ x ∈ l, f x = g x) → l.foldl (fun h x => min h (f x)) h = l.foldl (fun h x => min h (g x)) h := by
  intro l
  induction l with
  | nil => intro h _; rfl
  | cons y l ih =>
    intro h he
    rw [List.foldl_cons, List.foldl_cons, he y (List.mem_cons_self ..)]
    exact ih _ (fun x hx => he x (List.mem_cons_of_mem _ hx))
theorem dn_enough : ∀ (n m : Nat) (s : St), W.ok s → W.rank s ≤ n → W.rank s ≤ m → W.dn n s = W.dn m s := by
  intro n
  induction n with
  | zero =>
    intro m s hs hn hm
    cases m with
    | zero => rfl
    | succ m =>
      have : W.moves s = [] := by
        cases h : W.moves s with
        | nil => rfl
        | cons x l =>
          have := (moves_ok (c := x.1) (s' := x.2) hs (by rw [h]; exact List.mem_cons_self ..)).2
          omega
      unfold Wd.dn
      rw [this]; rfl
  | succ n ih =>
    intro m s hs hn hm
    cases m with
    | zero =>
      have : W.moves s = [] := by
        cases h : W.moves s with
        | nil => rfl
        | cons x l =>
          have := (moves_ok (c := x.1) (s' := x.2) hs (by rw [h]; exact List.mem_cons_self ..)).2
          omega
      unfold Wd.dn
      rw [this]; rfl
    | succ m =>
      unfold Wd.dn
      refine fold_congr _ _ _ _ (fun x hx => ?_)
      have := moves_ok (c := x.1) (s' := x.2) hs hx
      rw [ih m x.2 this.1 (by omega) (by omega)]
/-- The least cost, move by move. -/
theorem dist_eq (hs : W.ok s) : W.dist s = (W.moves s).foldl (fun h x => min h (x.1 + W.dist x.2)) (if s = W.fin then 0 else never) := by
  unfold Wd.dist
  rw [dn_enough (W.rank s) (W.rank s + 1) s hs (Nat.le_refl _) (by omega)]
  show List.foldl (fun h x => min h (x.1 + W.dn (W.rank s) x.2)) (if s = W.fin then 0 else never) (W.moves s) = _
  refine fold_congr _ _ _ _ (fun x hx => ?_)
  have := moves_ok (c := x.1) (s' := x.2) hs hx
  rw [dn_enough (W.rank s) (W.rank x.2) x.2 this.1 (by omega) (by omega)]
theorem dist_move (hs : W.ok s) (h : (c, s') ∈ W.moves s) : W.dist s ≤ c + W.dist s' := by
  rw [dist_eq hs]
  exact (fold_le (fun x : Int × St => x.1 + W.dist x.2) (W.moves s) _).2 (c, s') h
theorem dist_never (hs : W.ok s) : W.dist s ≤ never := by
  rw [dist_eq hs]
  refine Int.le_trans (fold_le (fun x : Int × St => x.1 + W.dist x.2) (W.moves s) _).1 ?_
  split
  · decide
  · exact Int.le_refl _
theorem fin_moves (h : W.rs.all (fun R => decide (R.f ≠ [])) = true) : W.moves W.fin = [] := by
  unfold Wd.moves
  rw [List.filterMap_eq_nil_iff]
  intro R hR
  have hf : R.f ≠ [] := by simpa using List.all_eq_true.1 h R hR
  have hl : W.left W.fin = false := by simp [Wd.left, Wd.fin]
  unfold Wd.mv
  rw [if_pos]
  unfold Wd.used
  rw [if_neg (by rw [hl]; decide)]
  split
  · rw [show W.fin.j = W.m.length from rfl, List.drop_length]
    cases hb : R.f with
    | nil => exact absurd hb hf
    | cons b f => rfl
  · rfl
/-- Costs are not negative, and rules are not empty. -/
def Wd.good (W : Wd) : Prop := ∀ R ∈ W.rs, 0 ≤ R.c ∧ R.c ≤ 1000 ∧ R.f ≠ []
theorem good_cost (hg : W.good) (h : (c, s') ∈ W.moves s) : 0 ≤ c ∧ c ≤ 1000 := by
  obtain ⟨R, hR, hm⟩ := moves_mem h
  obtain ⟨rfl, _⟩ := mv_some hm
  exact ⟨(hg R hR).1, (hg R hR).2.1⟩
theorem dist_pos (hg : W.good) : ∀ (n : Nat) (s : St), W.ok s → W.rank s ≤ n → 0 ≤ W.dist s := by
  intro n
  induction n with
  | zero =>
    intro s hs hn
    rw [dist_eq hs]
    rcases fold_eq (fun x : Int × St => x.1 + W.dist x.2) (W.moves s) (if s = W.fin then 0 else never) with h | ⟨x, hx, _⟩
    · rw [h]; split <;> decide
    · have := (moves_ok (c := x.1) (s' := x.2) hs hx).2; omega
  | succ n ih =>
    intro s hs hn
    rw [dist_eq hs]
    rcases fold_eq (fun x : Int × St => x.1 + W.dist x.2) (W.moves s) (if s = W.fin then 0 else never) with h | ⟨x, hx, h⟩
    · rw [h]; split <;> decide
    · rw [h]
      have h1 := moves_ok (c := x.1) (s' := x.2) hs hx
      have h2 := ih x.2 h1.1 (by omega)
      have h3 := (good_cost (c := x.1) (s' := x.2) hg hx).1
      show 0 ≤ x.1 + W.dist x.2
      omega
theorem dist_nonneg (hg : W.good) (hs : W.ok s) : 0 ≤ W.dist s := dist_pos hg _ s hs (Nat.le_refl _)
theorem dist_fin (hg : W.good) : W.dist W.fin = 0 := by
  have hok : W.ok W.fin := ⟨Nat.le_refl _, Nat.le_refl _, fun h => by cases h⟩
  rw [dist_eq hok, fin_moves (List.all_eq_true.2 fun R hR => by simpa using (hg R hR).2.2)]
  simp
/-- A way costs at least the least cost. -/
theorem dist_path (hs : W.ok s) (h : Pa W s c t) (ht : t = W.fin) (hg : W.good) : W.dist s ≤ c := by
  induction h with
  | nil s => rw [ht, dist_fin hg]; exact Int.le_refl _
  | cons hm _ ih =>
    have h1 := dist_move hs hm
    have h2 := ih (moves_ok hs hm).1 ht
    omega
/-- Either a way of this cost leads to the end, or none does. -/
theorem path_dist (hg : W.good) (hl : W.l.length + W.m.length ≤ 1000) : ∀ (n : Nat) (s : St), W.ok s → W.rank s ≤ n → (Pa W s (W.dist s) W.fin ∧ W.dist s ≤ 1000 * W.rank s) ∨ W.dist s = never ∧ ∀ c, ¬ Pa W s c W.fin := by
  intro n
  induction n with
  | zero =>
    intro s hs hn
    have hm : W.moves s = [] := by
      cases h : W.moves s with
      | nil => rfl
      | cons x l =>
        have := (moves_ok (c := x.1) (s' := x.2) hs (by rw [h]; exact List.mem_cons_self ..)).2
        omega
    by_cases hf : s = W.fin
    · refine .inl ?_
      have e : W.dist s = 0 := by rw [hf]; exact dist_fin hg
      rw [e]
      exact ⟨hf ▸ Pa.nil s, by omega⟩
    · refine .inr ⟨by rw [dist_eq hs, hm]; simp [hf], fun c hp => ?_⟩
      cases hp with
      | nil => exact hf rfl
      | cons hm2 _ => rw [hm] at hm2; cases hm2
  | succ n ih =>
    intro s hs hn
    by_cases hnv : W.dist s = never
    · refine .inr ⟨hnv, fun c hp => ?_⟩
      cases hp with
      | nil => rw [dist_fin hg] at hnv; exact absurd hnv (by decide)
      | cons hm2 hp2 =>
        rename_i s' c' d'
        have h1 := moves_ok hs hm2
        rcases ih _ h1.1 (by omega) with ⟨_, hb⟩ | ⟨_, h2⟩
        · have h3 := dist_move hs hm2
          have h4 := (good_cost hg hm2).2
          have h5 : W.rank s ≤ 1000 := by unfold Wd.rank; omega
          rw [hnv] at h3
          unfold never at h3
          omega
        · exact h2 _ hp2
    · have he := dist_eq hs
      rcases fold_eq (fun x : Int × St => x.1 + W.dist x.2) (W.moves s) (if s = W.fin then 0 else never) with h | ⟨x, hx, h⟩
      · rw [h] at he
        by_cases hf : s = W.fin
        · rw [if_pos hf] at he
          refine .inl ?_
          rw [he]
          exact ⟨hf ▸ Pa.nil s, by omega⟩
        · rw [if_neg hf] at he; exact absurd he hnv
      · rw [h] at he
        have h1 := moves_ok (c := x.1) (s' := x.2) hs hx
        have hc := good_cost (c := x.1) (s' := x.2) hg hx
        rcases ih x.2 h1.1 (by omega) with ⟨hp, hb⟩ | ⟨h2, _⟩
        · refine .inl ?_
          rw [he]
          exact ⟨.cons (c := x.1) (s' := x.2) hx hp, by show x.1 + W.dist x.2 ≤ _; omega⟩
        · exfalso
          have h3 := dist_never hs
          have he' : W.dist s = x.1 + W.dist x.2 := he
          rw [h2] at he'
          omega
end Go.CH.Pot
