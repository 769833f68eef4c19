/-
  Something owned of which one only knows that it is one of many; rows of strings.
  Script: letters, Letters.
  Script: Letters.
  Script: Fold, titles; lists of texts in memory.
  Script: Valid.
  Script: Text.
-/
import Derived.Test.YtcgmikpmbomliaaDoorSL7
set_option linter.unusedSimpArgs false
set_option linter.unusedVariables false
namespace Go.CH
open Go.RowKit
def exA {α : Type} (O : α → Own) : Own := fun w F => ∃ x, O x w F
theorem exA_ok {α : Type} {O : α → Own} (h : ∀ x, (O x).Ok) : (exA O).Ok := ⟨fun ⟨c, h1⟩ => (h c).lt h1, fun ⟨c, h1⟩ hk => ⟨c, (h c).keep h1 hk⟩⟩
theorem Run.ex {α : Type} {O : α → Own} {R : Own} {F0 : Nat → Prop} {w0 W : World} (h : Run F0 w0 (star (exA O) R) W) : ∃ x, Run F0 w0 (star (O x) R) W := by
  obtain ⟨⟨F, ⟨F1, F2, ⟨c, g1⟩, g2, g3, g4⟩, hF⟩, hm⟩ := h
  exact ⟨c, ⟨⟨F, ⟨F1, F2, g1, g2, g3, g4⟩, hF⟩, hm⟩⟩
theorem Run.exI {α : Type} {O : α → Own} {R : Own} {F0 : Nat → Prop} {w0 W : World} (x : α) (h : Run F0 w0 (star (O x) R) W) : Run F0 w0 (star (exA O) R) W :=
  h.imp fun _ _ hh => star_mono hh (fun _ h => ⟨x, h⟩) (fun _ h => h)
/-- Besides, something holds that speaks of no world. -/
def pur (p : Prop) (O : Own) : Own := fun w F => p ∧ O w F
theorem pur_ok {p : Prop} {O : Own} (h : O.Ok) : (pur p O).Ok := ⟨fun h1 => h.lt h1.2, fun h1 hk => ⟨h1.1, h.keep h1.2 hk⟩⟩
theorem Run.pure {p : Prop} {O R : Own} {F0 : Nat → Prop} {w0 W : World} (h : Run F0 w0 (star (pur p O) R) W) : p ∧ Run F0 w0 (star O R) W := by
  obtain ⟨⟨F, ⟨F1, F2, ⟨c, g1⟩, g2, g3, g4⟩, hF⟩, hm⟩ := h
  exact ⟨c, ⟨⟨F, ⟨F1, F2, g1, g2, g3, g4⟩, hF⟩, hm⟩⟩
theorem Run.pureI {p : Prop} {O R : Own} {F0 : Nat → Prop} {w0 W : World} (hp : p) (h : Run F0 w0 (star O R) W) : Run F0 w0 (star (pur p O) R) W :=
  h.imp fun _ _ hh => star_mono hh (fun _ h => ⟨hp, h⟩) (fun _ h => h)
def noO : Own := fun _ _ => False
theorem no_ok : noO.Ok := ⟨fun h => h.elim, fun h => h.elim⟩
theorem Run.no {R : Own} {F0 : Nat → Prop} {w0 W : World} (h : Run F0 w0 (star noO R) W) : False := by
  obtain ⟨⟨F, ⟨F1, F2, g1, g2, g3, g4⟩, hF⟩, hm⟩ := h
  exact g1
theorem src_lit1 (W : World) (v : Value) (t : TypeId) (h : v.oneCell' = true) : Src (W.alloc (.cells #[v] t)) (some ⟨W.heap.size, 0, none⟩) 1 1 [v] := Src.one (heap_alloc_new W _) h
end Go.CH
namespace Go.Proofs.YtcgmikpmbomliaaDoor
open Go.RowKit Go.CH Go.CH.Scr
open Go.ChangeMaps (setBlock)
attribute [local go_sem] Oper.semAt_some
def fn36 (b1 b2 : Nat) : Value := .func (.func 36) #[] #[.pointer (some ⟨b1, 0, none⟩), .pointer (some ⟨b2, 0, none⟩)]
theorem letters_any (k : Int) (s : ByteArray) (w : World) :
    Calls Tryd.prog 28 #[.int .i64 k, .string s] w fun e w' => ∃ b1 b2, e = .returned (fn36 b1 b2) ∧ Post w (fun _ => False) (Zl k (bl s) b1 b2 0) w' := by
  have hp : Post w (fun _ => False) (Zl k (bl s) w.heap.size (w.heap.size + 1) 0) ((w.alloc (.cells #[.int .i64 k] 3)).alloc (.cells #[.string s] 9)) := by
    have h1 := (Run.begin w).fresh emp_ok (cell_new w #[.int .i64 k] 3)
    have h2 := h1.fresh (star_ok cell_ok emp_ok) (cell_new _ #[.string s] 9)
    rw [World.size_alloc] at h2
    have h3 : Run (fun _ => False) w (star (Zl k (bl s) w.heap.size (w.heap.size + 1) 0) emp) _ := h2.perm (by unfold Zl; rw [show rst k 0 (bl s) = bl s from rfl, bs_bl]; ac_rfl)
    exact (h3.swap.drop).post (Zl_ok 0)
  have HP := hide hp
  clear hp
  go_enter Tryd.func28, Tryd.ntmps28
  go_wp2
  go_ret
  exact ⟨_, _, rfl, HP.out⟩
theorem strsOk : SliceOk Tryd.prog 22 9 (.string ByteArray.empty) 1 16 := ⟨Tryd.underlying22, by kernel_rfl, by decide, by decide⟩
def strB (xs : List Bs) : List Value := xs.map fun x => .string (bs x)
theorem strB_one (l : List Bs) : ∀ u ∈ strB l, u.oneCell' = true := by
  intro u hu
  obtain ⟨s, _, rfl⟩ := List.mem_map.1 hu
  rfl
theorem strB_len (l : List Bs) : (strB l).length = l.length := by simp [strB]
theorem strB_get {l : List Bs} {k : Nat} (h : k < l.length) : (strB l)[k]? = some (.string (bs l[k])) := by simp [strB, h]
def StrO (A : Option Addr) (c : Nat) (l : List Bs) : CH.Own := RowO 9 1 (.slice A l.length c) l.length (strB l)
theorem str_ok {A : Option Addr} {c : Nat} {l : List Bs} : (StrO A c l).Ok := row_ok
theorem str_snoc {A : Option Addr} {c : Nat} {l : List Bs} {x : Bs} : RowO 9 1 (.slice A (l.length + 1) c) (l.length + 1) (strB l ++ [.string (bs x)]) = StrO A c (l ++ [x]) := by
  unfold StrO
  have e : strB (l ++ [x]) = strB l ++ [.string (bs x)] := by simp [strB]
  rw [e, List.length_append, List.length_singleton]
theorem str_nil (w : World) : StrO none 0 [] w (fun _ => False) := row_nil w 9 1
/-- The program's answer about the letters of a word. -/
def lettersN (k : Int) (l : Bs) : List Bs × Int := if word k l then ((ltrs k l).1, 0) else ([], 1)
def LtrsRet (w : World) (k : Int) (l : Bs) (e : Ending) (w' : World) : Prop :=
  ∃ A c, e = .returned (.tuple #[.slice A (lettersN k l).1.length c, .int .i64 (lettersN k l).2]) ∧ Post w (fun _ => False) (StrO A c (lettersN k l).1) w'
theorem app_str1 {F0 : Nat → Prop} {w0 W : World} {Y : CH.Own} {o : Oper} {a : Act} {K : Act → World → Prop} {Q : Exit → Act → World → Prop} (s x : Operand)
    (ho : o.op = .call { callee := .builtin .append, args := #[s, x], argTypes := #[22, 22] }) {A : Option Addr} {c n : Nat} {l : List Bs} {i : ByteArray} (hl : l.length = n) (hsv : a.eval s = .slice A n c) (hx : a.eval x = .slice (some ⟨W.heap.size, 0, none⟩) 1 1) (hn : n ≤ 1000000) (hY : Y.Ok)
    (h : Run F0 w0 (star (StrO A c l) Y) W)
    (hK : ∀ A' c' w', Run F0 w0 (star (StrO A' c' (l ++ [bl i])) Y) w' → K (a.put o.dst (.slice A' (n + 1) c')) w') : o.wp Tryd.prog a (W.alloc (.cells #[.string i] 9)) K Q := by
  subst hl
  obtain ⟨F7, hR7, -, bk7⟩ := (h.below (star_ok str_ok hY) ((Below.refl _ _).alloc (Nat.le_refl _) (.cells #[.string i] 9))).take str_ok hY
  refine wp_appX s x ho strsOk _ 0 (v := .slice A l.length c) (n := l.length) (xs := strB l) hsv hR7.1 (A := some ⟨W.heap.size, 0, none⟩) (m := 1) (c := 1) (news := [.string i]) hx (src_lit1 W _ 9 rfl) (by unfold maxLen; omega) (by omega) (Nat.zero_le _) ?_
  intro v8 w8 ho8 hg8 hv8
  have S8 := bk7 _ _ (row_app hR7 ho8 hg8 hv8)
  obtain ⟨A8, c8, rfl⟩ := own_form ho8
  rw [show Value.string i = .string (bs (bl i)) by rw [bs_bl], str_snoc] at S8
  exact hK A8 c8 w8 S8
end Go.Proofs.YtcgmikpmbomliaaDoor
namespace Go.Proofs.YtcgmikpmbomliaaDoor
open Go.RowKit Go.CH Go.CH.Scr
open Go.ChangeMaps (setBlock)
attribute [local go_sem] Oper.semAt_some
/-- What Letters has in hand between two rounds. -/
def LtO (k : Int) (l : Bs) (c6 c7 i : Nat) : CH.Own := exA fun p : Option Addr × Nat => star (CellO c6 #[.slice p.1 i p.2] 22) (star (StrO p.1 p.2 ((ltrs k l).1.take i)) (CellO c7 #[.string (bs (rst k i l))] 9))
def LtT (k : Int) (l : Bs) (c6 c7 i : Nat) (A : Option Addr) (c : Nat) : CH.Own := star (CellO c6 #[.slice A i c] 22) (star (StrO A c ((ltrs k l).1.take i)) (CellO c7 #[.string (bs (rst k i l))] 9))
theorem lt_ok {k : Int} {l : Bs} {c6 c7 : Nat} (i : Nat) : (LtO k l c6 c7 i).Ok := exA_ok fun _ => star_ok cell_ok (star_ok str_ok cell_ok)
def LtX (k : Int) (l : Bs) (c6 c7 : Nat) : Code → CH.Own
  | .exit 0 => exA fun i : Nat => pur (12 < i ∧ i ≤ (ltrs k l).1.length) (LtO k l c6 c7 i)
  | _ => noO
theorem ltx_ok {k : Int} {l : Bs} {c6 c7 : Nat} (c : Code) : (LtX k l c6 c7 c).Ok := by
  unfold LtX
  split
  · exact exA_ok fun i => pur_ok (lt_ok i)
  · exact no_ok
theorem put2 {S T : CH.Own} {F0 : Nat → Prop} {w0 W : World} {g : Nat} {v : Value} {t : TypeId} (hS : S.Ok) (hT : T.Ok) (h : Run F0 w0 (star S (star (CellO g #[v] t) T)) W) (v' : Value) :
    Run F0 w0 (star S (star (CellO g #[v'] t) T)) (W.setCell ⟨g, 0, none⟩ v') := by
  obtain ⟨F, hF, -, bk⟩ := h.rot.take cell_ok (star_ok hS hT)
  exact (bk _ _ (cell_set hF 0 v')).rot
theorem put3 {S T U : CH.Own} {F0 : Nat → Prop} {w0 W : World} {g : Nat} {v : Value} {t : TypeId} (hS : S.Ok) (hU : U.Ok) (hT : T.Ok) (h : Run F0 w0 (star S (star U (star (CellO g #[v] t) T))) W) (v' : Value) :
    Run F0 w0 (star S (star U (star (CellO g #[v'] t) T))) (W.setCell ⟨g, 0, none⟩ v') := by
  obtain ⟨F, hF, -, bk⟩ := h.rot3.take cell_ok (star_ok hS (star_ok hU hT))
  exact (bk _ _ (cell_set hF 0 v')).perm (by ac_rfl)
theorem get2 {S T : CH.Own} {F0 : Nat → Prop} {w0 W : World} {g : Nat} {v : Value} {t : TypeId} (h : Run F0 w0 (star S (star (CellO g #[v] t) T)) W) : W.cell? ⟨g, 0, none⟩ = some v ∧ W.frozen? ⟨g, 0, none⟩ = false := by
  obtain ⟨F, hF⟩ := h.rot.fst
  exact ⟨cell_at hF rfl, cell_free hF 0⟩
theorem get3 {S T U : CH.Own} {F0 : Nat → Prop} {w0 W : World} {g : Nat} {v : Value} {t : TypeId} (h : Run F0 w0 (star S (star U (star (CellO g #[v] t) T))) W) : W.cell? ⟨g, 0, none⟩ = some v ∧ W.frozen? ⟨g, 0, none⟩ = false := by
  obtain ⟨F, hF⟩ := h.rot3.fst
  exact ⟨cell_at hF rfl, cell_free hF 0⟩
theorem ltrs_count (k : Int) (l : Bs) : (ltrs k l).1.length ≤ l.length := by
  refine ltrs_ind (k := k) (P := fun l => (ltrs k l).1.length ≤ l.length) (fun l h => ?_) (fun l h ih => ?_) l
  · show (ltrs k l).1.length ≤ l.length
    rw [ltrs_stop h]; exact Nat.zero_le _
  · show (ltrs k l).1.length ≤ l.length
    have ih : (ltrs k (l.drop (len1 k l))).1.length ≤ (l.drop (len1 k l)).length := ih
    rw [ltrs_step h]
    rw [List.length_drop] at ih
    have := len1_le (k := k) (l := l)
    simp only [List.length_cons]
    omega
theorem lt_letter {k : Int} {l : Bs} {i : Nat} (hi : i < (ltrs k l).1.length) : (ltrs k l).1.take i ++ [bl (bs (ltrs k l).1[i])] = (ltrs k l).1.take (i + 1) ∧
    (bs (rst k i l)).extract (bs (ltrs k l).1[i]).size (bs (rst k i l)).size = bs (rst k (i + 1) l) ∧ (bs (ltrs k l).1[i]).size ≤ (bs (rst k i l)).size := by
  have h := rst_at hi
  have e : (bs (ltrs k l).1[i]).size = len1 k (rst k i l) := by
    rw [h.2, bs_size, List.length_take]
    have := len1_le (k := k) (l := rst k i l)
    omega
  refine ⟨by rw [bl_bs, List.take_succ_eq_append_getElem hi], ?_, ?_⟩
  · rw [e, ← bs_drop]; rfl
  · rw [e, bs_size]; exact len1_le
theorem ltrs_err {k : Int} {l : Bs} {w W' : World} (h : lettersN k l = ([], 1)) (hm : CH.Mod (fun _ => False) w W') : LtrsRet w k l (.returned (.tuple #[.slice none 0 0, .int .i64 1])) W' :=
  ⟨none, 0, by rw [h]; rfl, fun _ => False, by rw [h]; exact str_nil _, hm, fun i hi => .inl hi⟩
theorem ltrs_okR {k : Int} {l : Bs} {w W' : World} {A : Option Addr} {c : Nat} {X : CH.Own} (h : lettersN k l = ((ltrs k l).1, 0)) (hr : Run (fun _ => False) w (star (StrO A c (ltrs k l).1) X) W') :
    LtrsRet w k l (.returned (.tuple #[.slice A (ltrs k l).1.length c, .int .i64 0])) W' := ⟨A, c, by rw [h], by rw [h]; exact (hr.swap.drop).post str_ok⟩
theorem no_word {k : Int} {l : Bs} (h : ¬ ((ltrs k l).2 = [] ∧ 1 ≤ (ltrs k l).1.length ∧ (ltrs k l).1.length ≤ 12)) : lettersN k l = ([], 1) := by
  unfold lettersN
  rw [if_neg (fun hw => h (word_iff.1 hw))]
theorem is_word {k : Int} {l : Bs} (h : (ltrs k l).2 = [] ∧ 1 ≤ (ltrs k l).1.length ∧ (ltrs k l).1.length ≤ 12) : lettersN k l = ((ltrs k l).1, 0) := by
  unfold lettersN
  rw [if_pos (word_iff.2 h)]
theorem bs_empty {l : Bs} : (bs l).toList = [] ↔ l = [] := by
  rw [ByteArray.toList_eq]; exact Iff.rfl
theorem lt_start (k : Int) (s : ByteArray) (w : World) : Run (fun _ => False) w (LtO k (bl s) w.heap.size (w.heap.size + 1) 0) ((w.alloc (.cells #[.slice none 0 0] 22)).alloc (.cells #[.string s] 9)) := by
  have h0 := (Run.begin w).fresh emp_ok (⟨fun _ => False, str_nil w, Mod.refl _ _, fun i hi => .inl hi⟩ : Post w (fun _ => False) (StrO none 0 []) w)
  have h1 := h0.fresh (star_ok str_ok emp_ok) (cell_new w #[.slice none 0 0] 22)
  have h2 := h1.fresh (star_ok cell_ok (star_ok str_ok emp_ok)) (cell_new _ #[.string s] 9)
  rw [World.size_alloc] at h2
  have h3 : Run (fun _ => False) w (star (star (CellO w.heap.size #[.slice none 0 0] 22) (star (StrO none 0 []) (CellO (w.heap.size + 1) #[.string s] 9))) emp) _ := h2.perm (by ac_rfl)
  refine h3.swap.drop.imp fun _ _ h => ⟨(none, 0), ?_⟩
  rw [show bs (rst k 0 (bl s)) = s from bs_bl s]
  exact h
set_option maxRecDepth 100000 in
set_option maxHeartbeats 3200000 in
theorem Letters_any (k : Int) (s : ByteArray) (w : World) (hs : s.size ≤ 1000000) (hz : LZ w) :
    Calls Tryd.prog 14 #[.int .i64 k, .string s] w (LtrsRet w k (bl s)) := by
  have HZ := hide hz
  have HL := hide (fun W => letters_any k s W)
  clear hz
  refine (callsIn_wide (n := 8)).1 ?_
  refine callsIn_of_wp_marks Tryd.func14 rfl trivial ?_ rfl
  simp only [Tryd.ntmps14, List.size_toArray, List.length_cons, List.length_nil, Nat.reduceAdd, Nat.reduceSub, Array.replicate_succ, Array.replicate_zero, List.push_toArray, List.append_toArray, List.nil_append, List.cons_append]
  refine (wpIn_wide (n := 8)).2 ?_
  have S0 := hide (lt_start k s w)
  go_wp2_with fail
  generalize ((w.alloc (.cells #[.slice none 0 0] 22)).alloc (.cells #[.string s] 9)) = W2 at *
  refine (HL.out W2).mono ?_
  rintro e9 w9 ⟨b1, b2, rfl, hp⟩
  have S1 := hide (S0.out.fresh (lt_ok 0) hp)
  clear S0 hp HL
  have hE : ∀ W, Mod (fun _ => False) w W → LZ W := fun W h => HZ.out.below (h.below (fun _ _ h => h))
  dsimp only
  go_wp2_with fail
  have hl : (bl s).length ≤ 1000000 := by rw [bl_len]; exact hs
  have HL := hide hl
  generalize w.heap.size + 1 = c7 at *
  generalize w.heap.size = c6 at *
  clear hl
  refine range_law (gf := 36) (lb := #[.pointer (some ⟨b1, 0, none⟩), .pointer (some ⟨b2, 0, none⟩)]) rfl (enters_of Tryd.func36 (by kernel_rfl) rfl) (letters_iter k (bl s) b1 b2 HL.out) Zl_ok (fun _ => rfl) hE
    (LtO k (bl s) c6 c7) (LtX k (bl s) c6 c7) lt_ok ltx_ok S1.out
    (fun x => { tmps := #[.int .i64 k, .string s, undef, undef, .slice none 0 0, .int .i64 0, .pointer (some ⟨c6, 0, none⟩), .pointer (some ⟨c7, 0, none⟩), .string (bs x), .string s, .int .i64 k, .string s, fn36 b1 b2, .string (bs x), undef, undef, undef, undef, undef, undef, undef, undef, undef, undef, undef, undef, undef, undef, undef, undef, undef, undef, undef, undef, undef, undef, undef, undef], defers := [] }) ?assign ?body ?done ?stop
  case assign =>
    intro l m x W K hK
    unfold encL
    gi_wp2
    exact hK
  case body =>
    intro lo m i hi R W hR hI
    obtain ⟨⟨A, c⟩, h1⟩ := hI.ex
    dsimp only at h1
    obtain ⟨F6, h6⟩ := h1.assoc.fst
    obtain ⟨F7, h7⟩ := h1.assoc.rot.assoc.rot.fst
    have c6a := cell_at (i := 0) h6 rfl
    have c6b := cell_free h6 0
    have c7a := cell_at (i := 0) h7 rfl
    have c7b := cell_free h7 0
    have H1 := hide h1
    clear h1 h6 h7 hI S1
    obtain ⟨q1, q2, q3⟩ := lt_letter hi
    have Q1 := hide q1
    have HI1 := hide (show i + 1 ≤ (ltrs k (bl s)).1.length from hi)
    have hi6 : i < 1000000 := by
      have := HL.out
      have h2 := ltrs_count k (bl s)
      omega
    have okY : (star (CellO c6 #[.slice A i c] 22) (star (CellO c7 #[.string (bs (rst k i (bl s)))] 9) R)).Ok := star_ok cell_ok (star_ok cell_ok hR)
    have HA := hide ((H1.out.perm (by ac_rfl) : Run (fun _ => False) w (star (StrO A c ((ltrs k (bl s)).1.take i)) (star (CellO c6 #[.slice A i c] 22) (star (CellO c7 #[.string (bs (rst k i (bl s)))] 9) R))) W).drew (star_ok str_ok okY))
    have OKY := hide okY
    have OKR := hide hR
    have hlen : ((ltrs k (bl s)).1.take i).length = i := by rw [List.length_take]; omega
    have HLEN := hide hlen
    clear okY H1 hlen q1 hR
    generalize (ltrs k (bl s)).1[i] = x at *
    generalize hr : bs (rst k i (bl s)) = r at *
    clear hr hi
    refine wpIn_block (wpIn_seq ?_)
    refine region_in_les [2, 3, 8, 9] [1, 0, 1, 2, 3, 3, 3, 3, 3, 4]
      (fun w' => w'.cell? ⟨c6, 0, none⟩ = some (.slice A i c) ∧ w'.cell? ⟨c7, 0, none⟩ = some (.string r))
      [fun w' => w'.cell? ⟨c6, 0, none⟩ = some (.slice A i c) ∧ w'.cell? ⟨c7, 0, none⟩ = some (.string r), fun w' => w'.cell? ⟨c7, 0, none⟩ = some (.string r), fun w' => w'.cell? ⟨c7, 0, none⟩ = some (.string r)]
      ⟨fun _ h => h, fun _ h => h.2, fun _ h => h, trivial⟩ rfl (fun ⟨a, w, h⟩ => h) rfl (by kernel_rfl) (by kernel_rfl) (by kernel_rfl) ⟨c6a, c7a⟩ ?_
    (repeat (first | (refine les_skip (by rfl) (by rfl) ?_; try simp only [Act.put, List.setIfInBounds_toArray, List.set_cons_zero, List.set_cons_succ]) | (refine les_read (v := ?_) (by rfl) (by rfl) ?_ ?_; rotate_left; (focus (intro w' hS'; (try simp only [stL] at hS'); go_simp; (try with_reducible rfl); done)); try simp only [Act.put, List.setIfInBounds_toArray, List.set_cons_zero, List.set_cons_succ])))
    refine les_chain rfl (by rfl) (fun K hK => ?_)
    go_wp2
    refine hK.out _ _ ?_ ?_
    · obtain ⟨d1, -⟩ := get2 (HA.out.below (star_ok str_ok OKY.out) ((Below.refl _ _).alloc (Nat.le_refl _) (.cells #[.string (bs x)] 9)))
      obtain ⟨d2, -⟩ := get3 (HA.out.below (star_ok str_ok OKY.out) ((Below.refl _ _).alloc (Nat.le_refl _) (.cells #[.string (bs x)] 9)))
      exact ⟨d1, d2⟩
    clear hK c6a c6b c7a c7b
    (repeat (first | (refine les_skip (by rfl) (by rfl) ?_; try simp only [Act.put, List.setIfInBounds_toArray, List.set_cons_zero, List.set_cons_succ]) | (refine les_read (v := ?_) (by rfl) (by rfl) ?_ ?_; rotate_left; (focus (intro w' hS'; (try simp only [stL] at hS'); go_simp; (try with_reducible rfl); done)); try simp only [Act.put, List.setIfInBounds_toArray, List.set_cons_zero, List.set_cons_succ])))
    refine les_chain rfl (by rfl) (fun K hK => ?_)
    refine app_str1 (.tmp 14) (.tmp 16) rfl HLEN.out rfl rfl (by omega) OKY.out HA.out ?_
    intro A' c' w2 hw2
    rw [Q1.out] at hw2
    have H2 := hide hw2
    obtain ⟨e6, f6⟩ := get2 hw2
    obtain ⟨e7, f7⟩ := get3 hw2
    refine hK.out _ _ e7 ?_
    clear hK HA hw2 Q1
    (repeat (first | (refine les_skip (by rfl) (by rfl) ?_; try simp only [Act.put, List.setIfInBounds_toArray, List.set_cons_zero, List.set_cons_succ]) | (refine les_read (v := ?_) (by rfl) (by rfl) ?_ ?_; rotate_left; (focus (intro w' hS'; (try simp only [stL] at hS'); go_simp; (try with_reducible rfl); done)); try simp only [Act.put, List.setIfInBounds_toArray, List.set_cons_zero, List.set_cons_succ])))
    refine les_chain rfl (by rfl) (fun K hK => ?_)
    go_wp2
    have okR := OKR.out
    have h3 := put2 str_ok (star_ok cell_ok okR) H2.out (.slice A' (i + 1) c')
    have H3 := hide h3
    obtain ⟨e7', f7'⟩ := get3 h3
    refine hK.out _ _ e7' ?_
    clear hK h3 e6 f6 e7 f7 H2
    refine les_chain rfl (by rfl) (fun K hK => ?_)
    go_wp2
    have h4 := put3 str_ok cell_ok okR H3.out (.string (r.extract (bs x).size r.size))
    rw [q2] at h4
    obtain ⟨e6, -⟩ := get2 h4
    have H4 := hide (Run.exI (O := fun p : Option Addr × Nat => star (CellO c6 #[.slice p.1 (i + 1) p.2] 22) (star (StrO p.1 p.2 ((ltrs k (bl s)).1.take (i + 1))) (CellO c7 #[.string (bs (rst k (i + 1) (bl s)))] 9))) (A', c') (h4.perm (by ac_rfl)))
    refine hK.out _ _ trivial (les_nil ?_)
    clear hK H3 e7' f7' h4
    show Code.wpIn _ _ _ _ _ _ _
    generalize (w2.setCell ⟨c6, 0, none⟩ (.slice A' (i + 1) c')).setCell ⟨c7, 0, none⟩ (.string (bs (rst k (i + 1) (bl s)))) = w3 at *
    by_cases h12 : (12 : Int) < (i : Int) + 1
    · have HX := hide (show Run (fun _ => False) w (star (LtX k (bl s) c6 c7 (.exit 0)) R) w3 from Run.exI (i + 1) (Run.pureI ⟨by omega, HI1.out⟩ H4.out))
      clear H4
      gi_wp2
      exact HX.out
    · gi_wp2
      exact H4.out
  case done =>
    intro D R W hR hI
    obtain ⟨⟨A, c⟩, h1⟩ := hI.ex
    dsimp only at h1 ⊢
    obtain ⟨F6, h6⟩ := h1.assoc.fst
    obtain ⟨F7, h7⟩ := h1.assoc.rot.assoc.rot.fst
    have c6a : W.cell? ⟨c6, 0, none⟩ = some (.slice A (ltrs k (bl s)).1.length c) := cell_at (i := 0) h6 rfl
    have c7a : W.cell? ⟨c7, 0, none⟩ = some (.string (bs (rst k (ltrs k (bl s)).1.length (bl s)))) := cell_at (i := 0) h7 rfl
    have okD : (star (LtT k (bl s) c6 c7 (ltrs k (bl s)).1.length A c) R).Ok := star_ok (star_ok cell_ok (star_ok str_ok cell_ok)) hR
    obtain ⟨FD, hD, -, bk⟩ := h1.rot.take obj_ok okD
    have hK := hD.1
    have HF := hide ((bk _ _ (obj_put hD (.deferred none))).perm (by ac_rfl : _ = star (StrO A c ((ltrs k (bl s)).1.take (ltrs k (bl s)).1.length)) (star (CellO c6 #[.slice A (ltrs k (bl s)).1.length c] 22) (star (CellO c7 #[.string (bs (rst k (ltrs k (bl s)).1.length (bl s)))] 9) (star (ObjO D (.deferred none)) R)))))
    have HK := hide hK
    clear h1 h6 h7 hI S1 hK hD bk okD
    rw [(rst_end k (bl s)).2] at c7a
    obtain ⟨n, hn⟩ : ∃ n, n = (ltrs k (bl s)).1.length := ⟨_, rfl⟩
    have HX0 := hide (fun h : lettersN k (bl s) = ((ltrs k (bl s)).1, 0) => show LtrsRet w k (bl s) (.returned (.tuple #[.slice A (ltrs k (bl s)).1.length c, .int .i64 0])) (W.putObj D (.deferred none)) from ltrs_okR h (by have := HF.out; rw [List.take_length] at this; exact this))
    have HN0 := hide (fun h : ¬ ((ltrs k (bl s)).2 = [] ∧ 1 ≤ n ∧ n ≤ 12) => show lettersN k (bl s) = ([], 1) from no_word (by rw [← hn]; exact h))
    have HW0 := hide (fun h : (ltrs k (bl s)).2 = [] ∧ 1 ≤ n ∧ n ≤ 12 => show lettersN k (bl s) = ((ltrs k (bl s)).1, 0) from is_word (by rw [← hn]; exact h))
    rw [← hn] at c6a HX0
    clear hn
    by_cases he : (ltrs k (bl s)).2 = []
    · have he2 : (bs (ltrs k (bl s)).2).toList = [] := bs_empty.2 he
      by_cases h0 : n = 0
      · have t0 : ((n : Int) == 0) = true := by simp [h0]
        have HN := hide (HN0.out (by omega))
        clear HX0 HN0 HW0 he
        go_wp2_with fail
        refine ⟨by simp, .inl ⟨_, _, rfl, run_takeDeferred HK.out, ?_⟩⟩
        refine ⟨_, results_tmp2 rfl _ _ _, ?_⟩
        exact ltrs_err HN.out HF.out.mod
      · have t0 : ((n : Int) == 0) = false := by simp [h0]
        by_cases h12 : (12 : Int) < (n : Int)
        · have HN := hide (HN0.out (by omega))
          clear HX0 HN0 HW0 he
          go_wp2_with fail
          refine ⟨by simp, .inl ⟨_, _, rfl, run_takeDeferred HK.out, ?_⟩⟩
          refine ⟨_, results_tmp2 rfl _ _ _, ?_⟩
          exact ltrs_err HN.out HF.out.mod
        · have HX := hide (HX0.out (HW0.out ⟨he, by omega, by omega⟩))
          clear HX0 HN0 HW0 he
          go_wp2_with fail
          refine ⟨by simp, .inl ⟨_, _, rfl, run_takeDeferred HK.out, ?_⟩⟩
          refine ⟨_, results_tmp2 rfl _ _ _, ?_⟩
          exact HX.out
    · have he2 : ¬ (bs (ltrs k (bl s)).2).toList = [] := fun h => he (bs_empty.1 h)
      have HN := hide (HN0.out (fun h => he h.1))
      clear HX0 HN0 HW0 he
      go_wp2_with fail
      refine ⟨by simp, .inl ⟨_, _, rfl, run_takeDeferred HK.out, ?_⟩⟩
      refine ⟨_, results_tmp2 rfl _ _ _, ?_⟩
      exact ltrs_err HN.out HF.out.mod
  case stop =>
    intro D c R W hR hI
    have hI2 : ∃ i, (12 < i ∧ i ≤ (ltrs k (bl s)).1.length) ∧ c = .exit 0 ∧ Run (fun _ => False) w (star (LtO k (bl s) c6 c7 i) (star (ObjO D (.deferred (some []))) R)) W := by
      unfold LtX at hI
      split at hI
      · obtain ⟨i, hi⟩ := hI.ex
        exact ⟨i, hi.pure.1, rfl, hi.pure.2⟩
      · exact hI.no.elim
    clear hI
    obtain ⟨i, ⟨h12, hin⟩, rfl, hI⟩ := hI2
    obtain ⟨⟨A, c⟩, h1⟩ := hI.ex
    dsimp only at h1 ⊢
    obtain ⟨F6, h6⟩ := h1.assoc.fst
    obtain ⟨F7, h7⟩ := h1.assoc.rot.assoc.rot.fst
    have c6a : W.cell? ⟨c6, 0, none⟩ = some (.slice A i c) := cell_at (i := 0) h6 rfl
    have c7a : W.cell? ⟨c7, 0, none⟩ = some (.string (bs (rst k i (bl s)))) := cell_at (i := 0) h7 rfl
    have okD : (star (LtT k (bl s) c6 c7 i A c) R).Ok := star_ok (star_ok cell_ok (star_ok str_ok cell_ok)) hR
    obtain ⟨FD, hD, -, bk⟩ := h1.rot.take obj_ok okD
    have hK := hD.1
    have HF := hide ((bk _ _ (obj_put hD (.deferred none))).perm (by ac_rfl : _ = star (StrO A c ((ltrs k (bl s)).1.take i)) (star (CellO c6 #[.slice A i c] 22) (star (CellO c7 #[.string (bs (rst k i (bl s)))] 9) (star (ObjO D (.deferred none)) R)))))
    have HK := hide hK
    clear h1 h6 h7 hI S1 hK hD bk okD
    have HN := hide (show lettersN k (bl s) = ([], 1) from no_word (by omega))
    have t0 : ((i : Int) == 0) = false := by simp; omega
    have t12 : (12 : Int) < (i : Int) := by omega
    generalize rst k i (bl s) = rr at *
    by_cases he : (bs rr).toList = []
    · go_wp2_with fail
      refine ⟨by simp, .inl ⟨_, _, rfl, run_takeDeferred HK.out, ?_⟩⟩
      refine ⟨_, results_tmp2 rfl _ _ _, ?_⟩
      exact ltrs_err HN.out HF.out.mod
    · go_wp2_with fail
      refine ⟨by simp, .inl ⟨_, _, rfl, run_takeDeferred HK.out, ?_⟩⟩
      refine ⟨_, results_tmp2 rfl _ _ _, ?_⟩
      exact ltrs_err HN.out HF.out.mod
end Go.Proofs.YtcgmikpmbomliaaDoor
namespace Go.Proofs.YtcgmikpmbomliaaDoor
open Go.RowKit Go.CH Go.CH.Scr
open Go.ChangeMaps (setBlock)
/-- A list of texts at A. -/
def Vst (w : World) (A : Option Addr) (l : List Bs) : Prop := Src w A l.length 1 (strB l)
theorem src_below {w w' : World} {A : Option Addr} {n size : Nat} {xs : List Value} (h : Src w A n size xs) (hb : Below w.heap.size w w') : Src w' A n size xs :=
  ((Run.begin w).below emp_ok hb).src0 h
theorem Vst.below {w w' : World} {A : Option Addr} {l : List Bs} (h : Vst w A l) (hb : Below w.heap.size w w') : Vst w' A l := src_below h hb
theorem Vst.at {w : World} {A : Option Addr} {l : List Bs} (h : Vst w A l) (hn : 0 < l.length) :
    ∃ b o, A = some ⟨b, o, none⟩ ∧ ∀ w', Below w.heap.size w w' → ∀ j (hj : j < l.length), w'.cell? ⟨b, o + j, none⟩ = some (.string (bs l[j])) := by
  obtain ⟨b, o, rfl, hc⟩ := Src.open_ h hn (by omega)
  refine ⟨b, o, rfl, fun w' hb j hj => ?_⟩
  have h1 := hc j _ (strB_get hj)
  rw [hb.cell (World.block_lt_of_cell? _ _ h1)]; exact h1
theorem vst_of {w : World} {F : Nat → Prop} {A : Option Addr} {c : Nat} {l : List Bs} (h : StrO A c l w F) : Vst w A l := row_src h (strB_one l)
/-- Letters' answer, read only. -/
def LtrsB (w : World) (k : Int) (l : Bs) (e : Ending) (w' : World) : Prop :=
  ∃ A c, e = .returned (.tuple #[.slice A (lettersN k l).1.length c, .int .i64 (lettersN k l).2]) ∧ Below w.heap.size w w' ∧ Vst w' A (lettersN k l).1
theorem Letters_b (k : Int) (s : ByteArray) (w : World) (hs : s.size ≤ 1000000) (hz : LZ w) :
    Calls Tryd.prog 14 #[.int .i64 k, .string s] w (LtrsB w k (bl s)) := by
  refine (Letters_any k s w hs hz).mono ?_
  rintro e w' ⟨A, c, rfl, F, h1, h2, h3⟩
  exact ⟨A, c, rfl, h2.below (fun _ _ h => h), vst_of h1⟩
/-- Fold's answer. -/
def foldN (k : Int) (l : Bs) : Bs × Int := if word k l then (lower l, 0) else ([], 1)
theorem set_ascii : (∀ c ∈ smallS, c.toNat < 128) ∧ (∀ c ∈ abjS, c.toNat < 128) ∧ (∀ c ∈ vowS, c.toNat < 128) ∧ (∀ c ∈ onsS, c.toNat < 128) ∧ (∀ c ∈ accS, c.toNat < 128) ∧ (∀ c ∈ ([110] : Bs), c.toNat < 128) := by decide
theorem lt2_ascii {k : Int} {a : UInt8} {b : Option UInt8} (h : lt2 k a b ≠ 0) : a.toNat < 128 := by
  obtain ⟨s1, s2, s3, s4, s5, s6⟩ := set_ascii
  unfold lt2 at h
  split at h
  · split at h
    · rename_i hh; exact s1 _ (has_mem.1 hh)
    · exact absurd rfl h
  split at h
  · split at h
    · rename_i hh
      refine Classical.byContradiction fun hc => ?_
      rw [has_high a (by omega)] at hh; cases hh
    · exact absurd rfl h
  split at h
  · split at h
    · rename_i hh; exact s2 _ (has_mem.1 hh)
    · exact absurd rfl h
  split at h
  · split at h
    · rename_i hh
      rw [Bool.and_eq_true] at hh
      exact s4 _ (has_mem.1 hh.1)
    · split at h
      · rename_i hh
        rw [Bool.or_eq_true] at hh
        rcases hh with hh | hh
        · exact s3 _ (has_mem.1 hh)
        · exact s6 _ (has_mem.1 hh)
      · exact absurd rfl h
  · exact absurd rfl h
theorem sec_ascii {k : Int} {c : UInt8} (h : has (sec k) (some c) = true) : c.toNat < 128 := by
  obtain ⟨s1, s2, s3, s4, s5, s6⟩ := set_ascii
  have hm := has_mem.1 h
  unfold sec at hm
  split at hm
  · exact s5 _ hm
  split at hm
  · exact s3 _ hm
  · cases hm
theorem letter_ascii {k : Int} {l : Bs} (h : len1 k l ≠ 0) : ∀ b ∈ l.take (len1 k l), b.toNat < 128 := by
  cases l with
  | nil => intro b hb; simp at hb
  | cons a t =>
    have h1 : lt2 k a t.head? ≠ 0 := h
    have ha := lt2_ascii h1
    show ∀ b ∈ (a :: t).take (lt2 k a t.head?), b.toNat < 128
    have hle := lt2_le (k := k) (a := a) (b := t.head?)
    by_cases h2 : lt2 k a t.head? = 2
    · have hs := lt2_two h2
      rw [h2]
      cases t with
      | nil => intro b hb; simp at hb; rw [hb]; exact ha
      | cons c t =>
        have hc := sec_ascii hs
        intro b hb
        simp at hb
        rcases hb with rfl | rfl
        · exact ha
        · exact hc
    · rw [show lt2 k a t.head? = 1 by omega]
      intro b hb
      simp at hb
      rw [hb]; exact ha
theorem words_ascii {k : Int} {l : Bs} (h : word k l = true) : ∀ b ∈ l, b.toNat < 128 := by
  have key : ∀ l : Bs, (ltrs k l).2 = [] → ∀ b ∈ l, b.toNat < 128 := fun l => by
    refine ltrs_ind (k := k) (P := fun l => (ltrs k l).2 = [] → ∀ b ∈ l, b.toNat < 128) (fun l h he b hb => ?_) (fun l h ih he b hb => ?_) l
    · rw [ltrs_stop h] at he
      have he : l = [] := he
      rw [he] at hb; cases hb
    · rw [ltrs_step h] at he
      have := ih he
      rw [← List.take_append_drop (len1 k l) l] at hb
      rcases List.mem_append.1 hb with hb | hb
      · exact letter_ascii h b hb
      · exact this b hb
  exact key l (word_iff.1 h).1
theorem fold_any (k : Int) (s : ByteArray) (w : World) (hs : s.size ≤ 1000000) (hz : LZ w) :
    Calls Tryd.prog 16 #[.int .i64 k, .string s] w (BelowRet w (.tuple #[.string (bs (foldN k (bl s)).1), .int .i64 (foldN k (bl s)).2])) := by
  have HZ := hide hz
  have HL := hide (Letters_b k s w hs hz)
  have HF := hide (fun W (h : Below w.heap.size w W) => Tryd.strings_ToLower_any s W (by omega) (HZ.out.below h).c (HZ.out.below h).t)
  by_cases hw : word k (bl s) = true
  · have e1 : lettersN k (bl s) = ((ltrs k (bl s)).1, 0) := by unfold lettersN; rw [if_pos hw]
    have e2 : foldN k (bl s) = (lower (bl s), 0) := by unfold foldN; rw [if_pos hw]
    have e3 : (⟨(Lib.toLowerD (bl s)).toArray⟩ : ByteArray) = bs (lower (bl s)) := by
      rw [Lib.toLowerD_ascii _ (words_ascii hw), toLowerA_is]; rfl
    unfold LtrsB at HL
    simp only [e1] at HL
    simp only [e3] at HF
    rw [e2]
    clear e1 e2 e3 hw hz
    go_enter Tryd.func16, Tryd.ntmps16
    go_wp2_with fail
    refine HL.out.mono ?_
    rintro e9 w1 ⟨A, c, rfl, hb, -⟩
    have HB := hide hb
    have KF := hide (HF.out w1 hb)
    clear hb HL HF
    dsimp only
    go_wp2_with fail
    refine KF.out.mono ?_
    rintro e9 w2 ⟨rfl, hb⟩
    have HB2 := hide (bel_trans HB.out hb)
    clear KF HB hb
    go_wp2
    refine bodyPost_ret (results_tmp2 rfl _ _ _) rfl ?_
    exact ⟨rfl, HB2.out⟩
  · have e1 : lettersN k (bl s) = ([], 1) := by unfold lettersN; rw [if_neg hw]
    have e2 : foldN k (bl s) = ([], 1) := by unfold foldN; rw [if_neg hw]
    unfold LtrsB at HL
    simp only [e1] at HL
    rw [e2]
    clear e1 e2 hw hz HF
    go_enter Tryd.func16, Tryd.ntmps16
    go_wp2_with fail
    refine HL.out.mono ?_
    rintro e9 w1 ⟨A, c, rfl, hb, -⟩
    have HB := hide hb
    clear hb HL
    dsimp only
    go_wp2
    refine bodyPost_ret (results_tmp2 rfl _ _ _) rfl ?_
    exact ⟨rfl, HB.out⟩
theorem titles_any (w : World) :
    Calls Tryd.prog 32 #[] w (BelowRet w (.agg #[.string ⟨#[]⟩, .string (bs plainT), .string (bs casedT), .string (bs abjadT), .string (bs syllabT)])) := by
  go_enter Tryd.func32, Tryd.ntmps32
  go_wp2
  refine bodyPost_ret_by (results_cell_row rfl _ _ w.heap.size 52 #[.string ⟨#[]⟩, .string ⟨#[112, 108, 97, 105, 110]⟩, .string ⟨#[99, 97, 115, 101, 100]⟩, .string ⟨#[97, 98, 106, 97, 100]⟩, .string ⟨#[115, 121, 108, 108, 97, 98]⟩] (0, 0) _ rfl ?_ Tryd.underlying52 rfl (by kernel_rfl)) rfl ?_
  · exact heap_alloc_new w _
  · exact ⟨rfl, (Below.refl _ w).alloc (Nat.le_refl _) _⟩
end Go.Proofs.YtcgmikpmbomliaaDoor
namespace Go.Proofs.YtcgmikpmbomliaaDoor
open Go.RowKit Go.CH Go.CH.Scr
open Go.ChangeMaps (setBlock)
def nmV (n : NameM) (A : Option Addr) (c : Nat) : Value := .agg #[.int .i64 n.k, .slice A n.ws.length c]
theorem valid_no {n : NameM} {i : Nat} (hi : i < n.ws.length) (h : ¬ word n.k n.ws[i] = true) : validN n = false := by
  unfold validN
  rw [show n.ws.all (word n.k) = false from by
    rw [List.all_eq_false]
    exact ⟨n.ws[i], List.getElem_mem hi, h⟩]
  rfl
theorem valid_step {n : NameM} {i : Nat} (hi : i < n.ws.length) (ha : ∀ x ∈ n.ws.take i, word n.k x = true) (h : word n.k n.ws[i] = true) : ∀ x ∈ n.ws.take (i + 1), word n.k x = true := by
  intro x hx
  rw [List.take_succ_eq_append_getElem hi] at hx
  rcases List.mem_append.1 hx with hx | hx
  · exact ha x hx
  · rw [List.mem_singleton.1 hx]; exact h
theorem valid_end {n : NameM} (ha : ∀ x ∈ n.ws, word n.k x = true) : validN n = (decide (0 < n.ws.length) && decide (n.ws.length ≤ 6)) := by
  unfold validN
  rw [show n.ws.all (word n.k) = true from List.all_eq_true.2 ha]
  rfl
set_option maxHeartbeats 1600000 in
theorem valid_any {w : World} {n : NameM} {A : Option Addr} {c : Nat} (hA : Vst w A n.ws) (hl : n.ws.length ≤ 1000000) (hw : ∀ x ∈ n.ws, x.length ≤ 1000000) (hz : LZ w) :
    Calls Tryd.prog 22 #[nmV n A c] w (BelowRet w (.bool (validN n))) := by
  have HZ := hide hz
  have HA := hide hA
  have HW := hide hw
  have HL := hide (fun (k : Int) (x : Bs) (W : World) (hx : x.length ≤ 1000000) (hz : LZ W) => Letters_b k (bs x) W (by rw [bs_size]; exact hx) hz)
  have h0 : (w.alloc (.cells #[.int .i64 n.k, .slice A n.ws.length c] 24)).cell? ⟨w.heap.size, 0, none⟩ = some (.int .i64 n.k) := cell_at (cell_new w #[.int .i64 n.k, .slice A n.ws.length c] 24).choose_spec.1 rfl
  have h1 : (w.alloc (.cells #[.int .i64 n.k, .slice A n.ws.length c] 24)).cell? ⟨w.heap.size, 1, none⟩ = some (.slice A n.ws.length c) := cell_at (cell_new w #[.int .i64 n.k, .slice A n.ws.length c] 24).choose_spec.1 rfl
  have hb1 : Below w.heap.size w (w.alloc (.cells #[.int .i64 n.k, .slice A n.ws.length c] 24)) := (Below.refl _ w).alloc (Nat.le_refl _) _
  have HB1 := hide hb1
  have HC0 := hide (fun W (hb : Below (w.alloc (.cells #[.int .i64 n.k, .slice A n.ws.length c] 24)).heap.size (w.alloc (.cells #[.int .i64 n.k, .slice A n.ws.length c] 24)) W) => show W.cell? ⟨w.heap.size, 0, none⟩ = some (.int .i64 n.k) ∧ W.cell? ⟨w.heap.size, 1, none⟩ = some (.slice A n.ws.length c) from
    ⟨by rw [hb.cell (World.block_lt_of_cell? _ _ h0)]; exact h0, by rw [hb.cell (World.block_lt_of_cell? _ _ h1)]; exact h1⟩)
  obtain ⟨N, hN⟩ : ∃ N, N = n.ws.length := ⟨_, rfl⟩
  have HN := hide hN
  rw [← hN] at hl
  unfold nmV
  rw [← hN] at h0 h1 HC0 HB1 ⊢
  clear hA hw hz hb1 hN
  go_enter Tryd.func22, Tryd.ntmps22
  go_wp2
  generalize w.alloc (.cells #[.int .i64 n.k, .slice A N c] 24) = w1 at *
  go_loopw [10] (fun i wr => ∃ k : Nat, k ≤ N ∧ i = .int .i64 k ∧ (∀ x ∈ n.ws.take k, word n.k x = true) ∧ Below w1.heap.size w1 wr) (fun i _ => N - (intOf i).toNat)
  case atStart => exact ⟨0, Nat.zero_le _, rfl, by simp, Below.refl _ _⟩
  case round =>
    obtain ⟨k, hk, rfl, ht, hb⟩ := hrel
    have HT := hide ht
    have HB := hide hb
    obtain ⟨d0, d1⟩ := HC0.out _ hb
    clear ht hb h0 h1
    by_cases hlt : k < N
    · have hkn : k < n.ws.length := by rw [← HN.out]; exact hlt
      obtain ⟨b, o, rfl, hc⟩ := HA.out.at (by omega)
      have ck := hc _ (bel_trans HB1.out HB.out) k hkn
      have KL := hide (HL.out n.k n.ws[k] wr (HW.out _ (List.getElem_mem hkn)) (HZ.out.below (bel_trans HB1.out HB.out)))
      rw [bl_bs] at KL
      have HNO := hide (valid_no hkn)
      have HST := hide (valid_step hkn HT.out)
      generalize n.ws[k] = x at *
      clear hc hkn
      by_cases hwx : word n.k x = true
      · have e1 : lettersN n.k x = ((ltrs n.k x).1, 0) := by unfold lettersN; rw [if_pos hwx]
        have HS := hide (HST.out hwx)
        unfold LtrsB at KL
        simp only [e1] at KL
        clear e1 HNO HST hwx
        go_wp2_with fail
        refine KL.out.mono ?_
        rintro e9 w2 ⟨A2, c2, rfl, hb, -⟩
        have HB2 := hide (bel_trans HB.out hb)
        clear KL HB hb
        dsimp only
        go_wp2
        go_roundw
        case rel => exact ⟨k + 1, by omega, by go_num, HS.out, HB2.out⟩
        case measure => simp [intOf]; omega
      · have e1 : lettersN n.k x = ([], 1) := by unfold lettersN; rw [if_neg hwx]
        have HF := hide (HNO.out hwx)
        unfold LtrsB at KL
        simp only [e1] at KL
        clear e1 HNO HST hwx
        go_wp2_with fail
        refine KL.out.mono ?_
        rintro e9 w2 ⟨A2, c2, rfl, hb, -⟩
        have HB2 := hide (bel_trans HB.out hb)
        clear KL HB hb
        dsimp only
        go_wp2
        go_ret
        exact bel_bool HF.out (bel_trans HB1.out HB2.out)
    · obtain rfl : k = N := by omega
      have HF := hide (valid_end (n := n) (by have := HT.out; rw [HN.out, List.take_length] at this; exact this))
      rw [← HN.out] at HF
      clear HT
      by_cases h0 : (0 : Int) < (k : Int)
      · have hd : (decide (0 < k) && decide (k ≤ 6)) = decide ((k : Int) ≤ 6) := by
          rw [decide_eq_true (show 0 < k by omega), Bool.true_and]
          exact decide_eq_decide.2 (by omega)
        rw [hd] at HF
        go_wp2
        go_ret
        exact bel_bool HF.out (bel_trans HB1.out HB.out)
      · have hd : (decide (0 < k) && decide (k ≤ 6)) = false := by
          rw [decide_eq_false (show ¬ 0 < k by omega), Bool.false_and]
        rw [hd] at HF
        go_wp2
        go_ret
        exact bel_bool HF.out (bel_trans HB1.out HB.out)
end Go.Proofs.YtcgmikpmbomliaaDoor
namespace Go.Proofs.YtcgmikpmbomliaaDoor
open Go.RowKit Go.CH Go.CH.Scr
open Go.ChangeMaps (setBlock)
theorem join_lib : ∀ ws : List Bs, Lib.join ws [32] = Scr.join ws
  | [] => rfl
  | [w] => by rw [Lib.join_one]; rfl
  | w :: v :: ws => by
    have ih := join_lib (v :: ws)
    show List.intercalate [32] (w :: v :: ws) = w ++ 32 :: Scr.join (v :: ws)
    rw [← ih]
    show List.intercalate [32] (w :: v :: ws) = w ++ 32 :: List.intercalate [32] (v :: ws)
    simp [List.intercalate]
theorem run_idx {a b c d e v : Value} {k : Int} (hk : k = 1 ∧ v = b ∨ k = 2 ∧ v = c ∨ k = 3 ∧ v = d ∨ k = 4 ∧ v = e) (w : World) : (Instr.index 52 (.agg #[a, b, c, d, e]) (.int .i64 k)).run Tryd.prog w = .ok v w := by
  have h := Tryd.underlying52
  have h9 := Tryd.underlying9
  have hi' : (Tryd.prog.info? 9).map (fun i => (i.zero, i.size, i.bytes)) = some (some (.string ByteArray.empty), 1, 16) := by kernel_rfl
  obtain ⟨i0, hi, hz0, hz1, hz2⟩ := info_parts hi'
  unfold Instr.index
  rcases hk with ⟨rfl, rfl⟩ | ⟨rfl, rfl⟩ | ⟨rfl, rfl⟩ | ⟨rfl, rfl⟩
  all_goals
    simp [run_underlying h, sizeOf, typeInfo, isAgg, run_underlying h9, asIntOf, part, Sem.run_bind, Result.andThen_ok, hi, hz1, asInt]
/-- The program's answer about a name's text. -/
def txtN (n : NameM) : Bs × Int := if validN n then (textN n, 0) else ([], 1)
/-- A name in a block of its own, in all worlds behind. -/
theorem box_cells (w : World) (k : Int) (A : Option Addr) (m c : Nat) (W : World) (hb : Below (w.alloc (.cells #[.int .i64 k, .slice A m c] 24)).heap.size (w.alloc (.cells #[.int .i64 k, .slice A m c] 24)) W) :
    W.cell? ⟨w.heap.size, 0, none⟩ = some (.int .i64 k) ∧ W.cell? ⟨w.heap.size, 1, none⟩ = some (.slice A m c) := by
  have h0 : (w.alloc (.cells #[.int .i64 k, .slice A m c] 24)).cell? ⟨w.heap.size, 0, none⟩ = some (.int .i64 k) := cell_at (cell_new w #[.int .i64 k, .slice A m c] 24).choose_spec.1 rfl
  have h1 : (w.alloc (.cells #[.int .i64 k, .slice A m c] 24)).cell? ⟨w.heap.size, 1, none⟩ = some (.slice A m c) := cell_at (cell_new w #[.int .i64 k, .slice A m c] 24).choose_spec.1 rfl
  exact ⟨by rw [hb.cell (World.block_lt_of_cell? _ _ h0)]; exact h0, by rw [hb.cell (World.block_lt_of_cell? _ _ h1)]; exact h1⟩
theorem tup_ret {w w' : World} {a b : Value} {x : Bs × Int} (ha : x = (bl ⟨#[]⟩, 1)) (hb : Below w.heap.size w w') : BelowRet w (.tuple #[.string (bs x.1), .int .i64 x.2]) (.returned (.tuple #[.string ⟨#[]⟩, .int .i64 1])) w' := ⟨by rw [ha]; rfl, hb⟩
set_option maxRecDepth 100000 in
set_option maxHeartbeats 3200000 in
theorem text_any {w : World} {n : NameM} {A : Option Addr} {c : Nat} (hA : Vst w A n.ws) (hc : n.ws.length ≤ c) (hl : n.ws.length ≤ 1000000) (hw : ∀ x ∈ n.ws, x.length ≤ 1000000) (hb : Scr.bytes n.ws ≤ 10000000) (hz : LZ w) :
    Calls Tryd.prog 18 #[nmV n A c] w (BelowRet w (.tuple #[.string (bs (txtN n).1), .int .i64 (txtN n).2])) := by
  have HZ := hide hz
  have HA := hide hA
  have hb1 : Below w.heap.size w (w.alloc (.cells #[.int .i64 n.k, .slice A n.ws.length c] 24)) := (Below.refl _ w).alloc (Nat.le_refl _) _
  have HB1 := hide hb1
  have HC0 := hide (box_cells w n.k A n.ws.length c)
  have KV := hide (valid_any (c := c) (hA.below hb1) hl hw (hz.below hb1))
  obtain ⟨d0, d1⟩ := HC0.out _ (Below.refl _ _)
  by_cases hv : validN n = true
  · have hkind := valid_kind hv
    have hv2 := (validN_iff.1 hv)
    have e1 : txtN n = (textN n, 0) := by unfold txtN; rw [if_pos hv]
    obtain ⟨b, o, rfl, hat⟩ := hA.at hv2.2.1
    have KJ := hide (fun W (h : Below w.heap.size w W) => Tryd.strings_Join b o c (n.ws.map bs) ⟨#[32]⟩ W (fun j x hx => by
      rw [List.getElem?_map] at hx
      cases hj : n.ws[j]? with
      | none => rw [hj] at hx; cases hx
      | some y =>
        rw [hj] at hx
        have hx : some (bs y) = some x := hx
        injection hx with hx
        obtain ⟨hj1, hj2⟩ := List.getElem?_eq_some_iff.1 hj
        rw [hat W h j hj1, hj2, hx]) (by have := hat W h 0 hv2.2.1; exact World.block_lt_of_cell? _ _ this) (by rw [List.length_map]; omega) (by rw [List.length_map]; exact hc) (by
          rw [show ((n.ws.map bs).map (·.data.toList)) = n.ws by rw [List.map_map]; exact List.map_id'' (fun x => bl_bs x) _, join_lib]
          have := join_len n.ws (by intro h; rw [h] at hv2; simp at hv2)
          omega))
    rw [show ((n.ws.map bs).map (·.data.toList)) = n.ws by rw [List.map_map]; exact List.map_id'' (fun x => bl_bs x) _, List.length_map, join_lib] at KJ
    change Hid (∀ W, Below w.heap.size w W → Calls Tryd.prog 33 #[.slice (some ⟨b, o, none⟩) n.ws.length c, .string ⟨#[32]⟩] W fun e w' => e = .returned (.string (bs (Scr.join n.ws))) ∧ Below W.heap.size W w') at KJ
    have HE := hide (show bs (textN n) = (bs (title n.k) ++ ⟨#[58]⟩) ++ bs (Scr.join n.ws) from bl_inj (by simp [bl, bs, textN]))
    have hjs : (bs (Scr.join n.ws)).size ≤ 10000000 := by
      have := join_len n.ws (by intro h; rw [h] at hv2; simp at hv2)
      rw [bs_size]; omega
    rw [hv] at KV
    rw [e1]
    unfold nmV at KV ⊢
    clear hv hv2 e1 hat hA hb1 hz hw hb
    generalize bs (Scr.join n.ws) = jn at *
    generalize n.ws.length = N at *
    have fin : ∀ w', Below w.heap.size w w' → BelowRet w (.tuple #[.string (bs (textN n)), .int .i64 0]) (.returned (.tuple #[.string ((bs (title n.k) ++ ⟨#[58]⟩) ++ jn), .int .i64 0])) w' := fun w' hb => ⟨by rw [HE.out], hb⟩
    have FIN := hide fin
    clear fin HE
    obtain ⟨k, ws⟩ := n
    dsimp only at *
    generalize textN ⟨k, ws⟩ = tx at *
    clear HA
    rcases hkind with rfl | rfl | rfl | rfl
    · obtain ⟨pb, hpb⟩ : ∃ pb, pb = bs plainT := ⟨_, rfl⟩
      have FIN2 := hide (fun w' hb => show BelowRet w (.tuple #[.string (bs tx), .int .i64 0]) (.returned (.tuple #[.string ((pb ++ ⟨#[58]⟩) ++ jn), .int .i64 0])) w' from by rw [hpb]; exact FIN.out w' hb)
      have hps : pb.size ≤ 10 := by rw [hpb]; decide
      have hs1 : ¬ 9223372036854775807 < pb.size + 1 := by omega
      have hs2 : ¬ 9223372036854775807 < pb.size + 1 + jn.size := by omega
      have HPB := hide hpb
      clear FIN hpb
      go_enter Tryd.func18, Tryd.ntmps18
      go_wp2_with fail
      refine KV.out.mono ?_
      rintro e9 w2 ⟨rfl, hb⟩
      have HB := hide hb
      clear KV hb d0 d1
      go_wp2_with fail
      have HCW := hide (fun W (h : Below w2.heap.size w2 W) => HC0.out W (bel_trans HB.out h))
      refine wp_region_lew [0, 7] [1, 2, 2, 2, 2, 1, 1, 2, 2, 2, 2]
        (fun W => W.cell? ⟨w.heap.size, 0, none⟩ = some (.int .i64 1) ∧ W.cell? ⟨w.heap.size, 1, none⟩ = some (.slice (some ⟨b, o, none⟩) N c))
        (fun W => W.cell? ⟨w.heap.size, 0, none⟩ = some (.int .i64 1) ∧ W.cell? ⟨w.heap.size, 1, none⟩ = some (.slice (some ⟨b, o, none⟩) N c))
        (fun W => W.cell? ⟨w.heap.size, 0, none⟩ = some (.int .i64 1) ∧ W.cell? ⟨w.heap.size, 1, none⟩ = some (.slice (some ⟨b, o, none⟩) N c))
        (fun _ => True) (fun _ h => h) (fun _ h => h) (fun _ _ => trivial) rfl (by kernel_rfl) (by kernel_rfl) (by kernel_rfl) (HCW.out _ (below_drew (Below.refl _ _))) ?_
      (repeat (first | (refine lew_skip (by rfl) (by rfl) ?_; try simp only [Act.put, List.setIfInBounds_toArray, List.set_cons_zero, List.set_cons_succ]) | (refine lew_read0 (v := ?_) (by rfl) (by rfl) ?_ ?_; rotate_left; (focus (intro w' hS'; go_simp; (try with_reducible rfl); done)); try simp only [Act.put, List.setIfInBounds_toArray, List.set_cons_zero, List.set_cons_succ]) | (refine lew_read1 (v := ?_) (by rfl) (by rfl) ?_ ?_; rotate_left; (focus (intro w' hS'; go_simp; (try with_reducible rfl); done)); try simp only [Act.put, List.setIfInBounds_toArray, List.set_cons_zero, List.set_cons_succ]) | (refine lew_read2 (v := ?_) (by rfl) (by rfl) ?_ ?_; rotate_left; (focus (intro w' hS'; go_simp; (try with_reducible rfl); done)); try simp only [Act.put, List.setIfInBounds_toArray, List.set_cons_zero, List.set_cons_succ]) | (refine lew_read3 (v := ?_) (by rfl) (by rfl) ?_ ?_; rotate_left; (focus (intro w' hS'; go_simp; (try with_reducible rfl); done)); try simp only [Act.put, List.setIfInBounds_toArray, List.set_cons_zero, List.set_cons_succ]) | (refine lew_read4 (v := ?_) (by rfl) (by rfl) ?_ ?_; rotate_left; (focus (intro w' hS'; go_simp; (try with_reducible rfl); done)); try simp only [Act.put, List.setIfInBounds_toArray, List.set_cons_zero, List.set_cons_succ])))
      refine lew_chain1 rfl (by rfl) (fun K hK => ?_)
      have KT := hide (titles_any w2.drew)
      have hix : ∀ W, (Instr.index 52 (.agg #[.string ⟨#[]⟩, .string (bs plainT), .string (bs casedT), .string (bs abjadT), .string (bs syllabT)]) (.int .i64 1)).run Tryd.prog W = .ok (.string pb) W := fun W => run_idx (by simp [HPB.out]) W
      go_wp2_with fail
      refine KT.out.mono ?_
      rintro e9 w3 ⟨rfl, hb⟩
      have HB3 := hide (bel_trans (below_drew (Below.refl _ w2)) hb)
      clear KT hb
      refine hK.out _ _ (HCW.out _ HB3.out) ?_
      clear hK
      (repeat (first | (refine lew_skip (by rfl) (by rfl) ?_; try simp only [Act.put, List.setIfInBounds_toArray, List.set_cons_zero, List.set_cons_succ]) | (refine lew_read0 (v := ?_) (by rfl) (by rfl) ?_ ?_; rotate_left; (focus (intro w' hS'; go_simp; (try with_reducible rfl); done)); try simp only [Act.put, List.setIfInBounds_toArray, List.set_cons_zero, List.set_cons_succ]) | (refine lew_read1 (v := ?_) (by rfl) (by rfl) ?_ ?_; rotate_left; (focus (intro w' hS'; go_simp; (try with_reducible rfl); done)); try simp only [Act.put, List.setIfInBounds_toArray, List.set_cons_zero, List.set_cons_succ]) | (refine lew_read2 (v := ?_) (by rfl) (by rfl) ?_ ?_; rotate_left; (focus (intro w' hS'; go_simp; (try with_reducible rfl); done)); try simp only [Act.put, List.setIfInBounds_toArray, List.set_cons_zero, List.set_cons_succ]) | (refine lew_read3 (v := ?_) (by rfl) (by rfl) ?_ ?_; rotate_left; (focus (intro w' hS'; go_simp; (try with_reducible rfl); done)); try simp only [Act.put, List.setIfInBounds_toArray, List.set_cons_zero, List.set_cons_succ]) | (refine lew_read4 (v := ?_) (by rfl) (by rfl) ?_ ?_; rotate_left; (focus (intro w' hS'; go_simp; (try with_reducible rfl); done)); try simp only [Act.put, List.setIfInBounds_toArray, List.set_cons_zero, List.set_cons_succ])))
      refine lew_chain2 rfl (by rfl) (fun K hK => ?_)
      have KJ2 := hide (KJ.out w3 (bel_trans HB1.out (bel_trans HB.out HB3.out)))
      go_wp2_with fail
      refine KJ2.out.mono ?_
      rintro e9 w4 ⟨rfl, hb⟩
      have HB4 := hide (bel_trans HB3.out hb)
      clear KJ KJ2 hb
      refine hK.out _ _ (HCW.out _ HB4.out) ?_
      clear hK
      (repeat (first | (refine lew_skip (by rfl) (by rfl) ?_; try simp only [Act.put, List.setIfInBounds_toArray, List.set_cons_zero, List.set_cons_succ]) | (refine lew_read0 (v := ?_) (by rfl) (by rfl) ?_ ?_; rotate_left; (focus (intro w' hS'; go_simp; (try with_reducible rfl); done)); try simp only [Act.put, List.setIfInBounds_toArray, List.set_cons_zero, List.set_cons_succ]) | (refine lew_read1 (v := ?_) (by rfl) (by rfl) ?_ ?_; rotate_left; (focus (intro w' hS'; go_simp; (try with_reducible rfl); done)); try simp only [Act.put, List.setIfInBounds_toArray, List.set_cons_zero, List.set_cons_succ]) | (refine lew_read2 (v := ?_) (by rfl) (by rfl) ?_ ?_; rotate_left; (focus (intro w' hS'; go_simp; (try with_reducible rfl); done)); try simp only [Act.put, List.setIfInBounds_toArray, List.set_cons_zero, List.set_cons_succ]) | (refine lew_read3 (v := ?_) (by rfl) (by rfl) ?_ ?_; rotate_left; (focus (intro w' hS'; go_simp; (try with_reducible rfl); done)); try simp only [Act.put, List.setIfInBounds_toArray, List.set_cons_zero, List.set_cons_succ]) | (refine lew_read4 (v := ?_) (by rfl) (by rfl) ?_ ?_; rotate_left; (focus (intro w' hS'; go_simp; (try with_reducible rfl); done)); try simp only [Act.put, List.setIfInBounds_toArray, List.set_cons_zero, List.set_cons_succ])))
      refine lew_nil ?_
      clear hix
      go_wp2
      refine bodyPost_ret (results_tmp2 rfl _ _ _) rfl ?_
      exact FIN2.out _ (bel_trans HB1.out (bel_trans HB.out HB4.out))
    · obtain ⟨pb, hpb⟩ : ∃ pb, pb = bs casedT := ⟨_, rfl⟩
      have FIN2 := hide (fun w' hb => show BelowRet w (.tuple #[.string (bs tx), .int .i64 0]) (.returned (.tuple #[.string ((pb ++ ⟨#[58]⟩) ++ jn), .int .i64 0])) w' from by rw [hpb]; exact FIN.out w' hb)
      have hps : pb.size ≤ 10 := by rw [hpb]; decide
      have hs1 : ¬ 9223372036854775807 < pb.size + 1 := by omega
      have hs2 : ¬ 9223372036854775807 < pb.size + 1 + jn.size := by omega
      have HPB := hide hpb
      clear FIN hpb
      go_enter Tryd.func18, Tryd.ntmps18
      go_wp2_with fail
      refine KV.out.mono ?_
      rintro e9 w2 ⟨rfl, hb⟩
      have HB := hide hb
      clear KV hb d0 d1
      go_wp2_with fail
      have HCW := hide (fun W (h : Below w2.heap.size w2 W) => HC0.out W (bel_trans HB.out h))
      refine wp_region_lew [0, 7] [1, 2, 2, 2, 2, 1, 1, 2, 2, 2, 2]
        (fun W => W.cell? ⟨w.heap.size, 0, none⟩ = some (.int .i64 2) ∧ W.cell? ⟨w.heap.size, 1, none⟩ = some (.slice (some ⟨b, o, none⟩) N c))
        (fun W => W.cell? ⟨w.heap.size, 0, none⟩ = some (.int .i64 2) ∧ W.cell? ⟨w.heap.size, 1, none⟩ = some (.slice (some ⟨b, o, none⟩) N c))
        (fun W => W.cell? ⟨w.heap.size, 0, none⟩ = some (.int .i64 2) ∧ W.cell? ⟨w.heap.size, 1, none⟩ = some (.slice (some ⟨b, o, none⟩) N c))
        (fun _ => True) (fun _ h => h) (fun _ h => h) (fun _ _ => trivial) rfl (by kernel_rfl) (by kernel_rfl) (by kernel_rfl) (HCW.out _ (below_drew (Below.refl _ _))) ?_
      (repeat (first | (refine lew_skip (by rfl) (by rfl) ?_; try simp only [Act.put, List.setIfInBounds_toArray, List.set_cons_zero, List.set_cons_succ]) | (refine lew_read0 (v := ?_) (by rfl) (by rfl) ?_ ?_; rotate_left; (focus (intro w' hS'; go_simp; (try with_reducible rfl); done)); try simp only [Act.put, List.setIfInBounds_toArray, List.set_cons_zero, List.set_cons_succ]) | (refine lew_read1 (v := ?_) (by rfl) (by rfl) ?_ ?_; rotate_left; (focus (intro w' hS'; go_simp; (try with_reducible rfl); done)); try simp only [Act.put, List.setIfInBounds_toArray, List.set_cons_zero, List.set_cons_succ]) | (refine lew_read2 (v := ?_) (by rfl) (by rfl) ?_ ?_; rotate_left; (focus (intro w' hS'; go_simp; (try with_reducible rfl); done)); try simp only [Act.put, List.setIfInBounds_toArray, List.set_cons_zero, List.set_cons_succ]) | (refine lew_read3 (v := ?_) (by rfl) (by rfl) ?_ ?_; rotate_left; (focus (intro w' hS'; go_simp; (try with_reducible rfl); done)); try simp only [Act.put, List.setIfInBounds_toArray, List.set_cons_zero, List.set_cons_succ]) | (refine lew_read4 (v := ?_) (by rfl) (by rfl) ?_ ?_; rotate_left; (focus (intro w' hS'; go_simp; (try with_reducible rfl); done)); try simp only [Act.put, List.setIfInBounds_toArray, List.set_cons_zero, List.set_cons_succ])))
      refine lew_chain1 rfl (by rfl) (fun K hK => ?_)
      have KT := hide (titles_any w2.drew)
      have hix : ∀ W, (Instr.index 52 (.agg #[.string ⟨#[]⟩, .string (bs plainT), .string (bs casedT), .string (bs abjadT), .string (bs syllabT)]) (.int .i64 2)).run Tryd.prog W = .ok (.string pb) W := fun W => run_idx (by simp [HPB.out]) W
      go_wp2_with fail
      refine KT.out.mono ?_
      rintro e9 w3 ⟨rfl, hb⟩
      have HB3 := hide (bel_trans (below_drew (Below.refl _ w2)) hb)
      clear KT hb
      refine hK.out _ _ (HCW.out _ HB3.out) ?_
      clear hK
      (repeat (first | (refine lew_skip (by rfl) (by rfl) ?_; try simp only [Act.put, List.setIfInBounds_toArray, List.set_cons_zero, List.set_cons_succ]) | (refine lew_read0 (v := ?_) (by rfl) (by rfl) ?_ ?_; rotate_left; (focus (intro w' hS'; go_simp; (try with_reducible rfl); done)); try simp only [Act.put, List.setIfInBounds_toArray, List.set_cons_zero, List.set_cons_succ]) | (refine lew_read1 (v := ?_) (by rfl) (by rfl) ?_ ?_; rotate_left; (focus (intro w' hS'; go_simp; (try with_reducible rfl); done)); try simp only [Act.put, List.setIfInBounds_toArray, List.set_cons_zero, List.set_cons_succ]) | (refine lew_read2 (v := ?_) (by rfl) (by rfl) ?_ ?_; rotate_left; (focus (intro w' hS'; go_simp; (try with_reducible rfl); done)); try simp only [Act.put, List.setIfInBounds_toArray, List.set_cons_zero, List.set_cons_succ]) | (refine lew_read3 (v := ?_) (by rfl) (by rfl) ?_ ?_; rotate_left; (focus (intro w' hS'; go_simp; (try with_reducible rfl); done)); try simp only [Act.put, List.setIfInBounds_toArray, List.set_cons_zero, List.set_cons_succ]) | (refine lew_read4 (v := ?_) (by rfl) (by rfl) ?_ ?_; rotate_left; (focus (intro w' hS'; go_simp; (try with_reducible rfl); done)); try simp only [Act.put, List.setIfInBounds_toArray, List.set_cons_zero, List.set_cons_succ])))
      refine lew_chain2 rfl (by rfl) (fun K hK => ?_)
      have KJ2 := hide (KJ.out w3 (bel_trans HB1.out (bel_trans HB.out HB3.out)))
      go_wp2_with fail
      refine KJ2.out.mono ?_
      rintro e9 w4 ⟨rfl, hb⟩
      have HB4 := hide (bel_trans HB3.out hb)
      clear KJ KJ2 hb
      refine hK.out _ _ (HCW.out _ HB4.out) ?_
      clear hK
      (repeat (first | (refine lew_skip (by rfl) (by rfl) ?_; try simp only [Act.put, List.setIfInBounds_toArray, List.set_cons_zero, List.set_cons_succ]) | (refine lew_read0 (v := ?_) (by rfl) (by rfl) ?_ ?_; rotate_left; (focus (intro w' hS'; go_simp; (try with_reducible rfl); done)); try simp only [Act.put, List.setIfInBounds_toArray, List.set_cons_zero, List.set_cons_succ]) | (refine lew_read1 (v := ?_) (by rfl) (by rfl) ?_ ?_; rotate_left; (focus (intro w' hS'; go_simp; (try with_reducible rfl); done)); try simp only [Act.put, List.setIfInBounds_toArray, List.set_cons_zero, List.set_cons_succ]) | (refine lew_read2 (v := ?_) (by rfl) (by rfl) ?_ ?_; rotate_left; (focus (intro w' hS'; go_simp; (try with_reducible rfl); done)); try simp only [Act.put, List.setIfInBounds_toArray, List.set_cons_zero, List.set_cons_succ]) | (refine lew_read3 (v := ?_) (by rfl) (by rfl) ?_ ?_; rotate_left; (focus (intro w' hS'; go_simp; (try with_reducible rfl); done)); try simp only [Act.put, List.setIfInBounds_toArray, List.set_cons_zero, List.set_cons_succ]) | (refine lew_read4 (v := ?_) (by rfl) (by rfl) ?_ ?_; rotate_left; (focus (intro w' hS'; go_simp; (try with_reducible rfl); done)); try simp only [Act.put, List.setIfInBounds_toArray, List.set_cons_zero, List.set_cons_succ])))
      refine lew_nil ?_
      clear hix
      go_wp2
      refine bodyPost_ret (results_tmp2 rfl _ _ _) rfl ?_
      exact FIN2.out _ (bel_trans HB1.out (bel_trans HB.out HB4.out))
    · obtain ⟨pb, hpb⟩ : ∃ pb, pb = bs abjadT := ⟨_, rfl⟩
      have FIN2 := hide (fun w' hb => show BelowRet w (.tuple #[.string (bs tx), .int .i64 0]) (.returned (.tuple #[.string ((pb ++ ⟨#[58]⟩) ++ jn), .int .i64 0])) w' from by rw [hpb]; exact FIN.out w' hb)
      have hps : pb.size ≤ 10 := by rw [hpb]; decide
      have hs1 : ¬ 9223372036854775807 < pb.size + 1 := by omega
      have hs2 : ¬ 9223372036854775807 < pb.size + 1 + jn.size := by omega
      have HPB := hide hpb
      clear FIN hpb
      go_enter Tryd.func18, Tryd.ntmps18
      go_wp2_with fail
      refine KV.out.mono ?_
      rintro e9 w2 ⟨rfl, hb⟩
      have HB := hide hb
      clear KV hb d0 d1
      go_wp2_with fail
      have HCW := hide (fun W (h : Below w2.heap.size w2 W) => HC0.out W (bel_trans HB.out h))
      refine wp_region_lew [0, 7] [1, 2, 2, 2, 2, 1, 1, 2, 2, 2, 2]
        (fun W => W.cell? ⟨w.heap.size, 0, none⟩ = some (.int .i64 3) ∧ W.cell? ⟨w.heap.size, 1, none⟩ = some (.slice (some ⟨b, o, none⟩) N c))
        (fun W => W.cell? ⟨w.heap.size, 0, none⟩ = some (.int .i64 3) ∧ W.cell? ⟨w.heap.size, 1, none⟩ = some (.slice (some ⟨b, o, none⟩) N c))
        (fun W => W.cell? ⟨w.heap.size, 0, none⟩ = some (.int .i64 3) ∧ W.cell? ⟨w.heap.size, 1, none⟩ = some (.slice (some ⟨b, o, none⟩) N c))
        (fun _ => True) (fun _ h => h) (fun _ h => h) (fun _ _ => trivial) rfl (by kernel_rfl) (by kernel_rfl) (by kernel_rfl) (HCW.out _ (below_drew (Below.refl _ _))) ?_
      (repeat (first | (refine lew_skip (by rfl) (by rfl) ?_; try simp only [Act.put, List.setIfInBounds_toArray, List.set_cons_zero, List.set_cons_succ]) | (refine lew_read0 (v := ?_) (by rfl) (by rfl) ?_ ?_; rotate_left; (focus (intro w' hS'; go_simp; (try with_reducible rfl); done)); try simp only [Act.put, List.setIfInBounds_toArray, List.set_cons_zero, List.set_cons_succ]) | (refine lew_read1 (v := ?_) (by rfl) (by rfl) ?_ ?_; rotate_left; (focus (intro w' hS'; go_simp; (try with_reducible rfl); done)); try simp only [Act.put, List.setIfInBounds_toArray, List.set_cons_zero, List.set_cons_succ]) | (refine lew_read2 (v := ?_) (by rfl) (by rfl) ?_ ?_; rotate_left; (focus (intro w' hS'; go_simp; (try with_reducible rfl); done)); try simp only [Act.put, List.setIfInBounds_toArray, List.set_cons_zero, List.set_cons_succ]) | (refine lew_read3 (v := ?_) (by rfl) (by rfl) ?_ ?_; rotate_left; (focus (intro w' hS'; go_simp; (try with_reducible rfl); done)); try simp only [Act.put, List.setIfInBounds_toArray, List.set_cons_zero, List.set_cons_succ]) | (refine lew_read4 (v := ?_) (by rfl) (by rfl) ?_ ?_; rotate_left; (focus (intro w' hS'; go_simp; (try with_reducible rfl); done)); try simp only [Act.put, List.setIfInBounds_toArray, List.set_cons_zero, List.set_cons_succ])))
      refine lew_chain1 rfl (by rfl) (fun K hK => ?_)
      have KT := hide (titles_any w2.drew)
      have hix : ∀ W, (Instr.index 52 (.agg #[.string ⟨#[]⟩, .string (bs plainT), .string (bs casedT), .string (bs abjadT), .string (bs syllabT)]) (.int .i64 3)).run Tryd.prog W = .ok (.string pb) W := fun W => run_idx (by simp [HPB.out]) W
      go_wp2_with fail
      refine KT.out.mono ?_
      rintro e9 w3 ⟨rfl, hb⟩
      have HB3 := hide (bel_trans (below_drew (Below.refl _ w2)) hb)
      clear KT hb
      refine hK.out _ _ (HCW.out _ HB3.out) ?_
      clear hK
      (repeat (first | (refine lew_skip (by rfl) (by rfl) ?_; try simp only [Act.put, List.setIfInBounds_toArray, List.set_cons_zero, List.set_cons_succ]) | (refine lew_read0 (v := ?_) (by rfl) (by rfl) ?_ ?_; rotate_left; (focus (intro w' hS'; go_simp; (try with_reducible rfl); done)); try simp only [Act.put, List.setIfInBounds_toArray, List.set_cons_zero, List.set_cons_succ]) | (refine lew_read1 (v := ?_) (by rfl) (by rfl) ?_ ?_; rotate_left; (focus (intro w' hS'; go_simp; (try with_reducible rfl); done)); try simp only [Act.put, List.setIfInBounds_toArray, List.set_cons_zero, List.set_cons_succ]) | (refine lew_read2 (v := ?_) (by rfl) (by rfl) ?_ ?_; rotate_left; (focus (intro w' hS'; go_simp; (try with_reducible rfl); done)); try simp only [Act.put, List.setIfInBounds_toArray, List.set_cons_zero, List.set_cons_succ]) | (refine lew_read3 (v := ?_) (by rfl) (by rfl) ?_ ?_; rotate_left; (focus (intro w' hS'; go_simp; (try with_reducible rfl); done)); try simp only [Act.put, List.setIfInBounds_toArray, List.set_cons_zero, List.set_cons_succ]) | (refine lew_read4 (v := ?_) (by rfl) (by rfl) ?_ ?_; rotate_left; (focus (intro w' hS'; go_simp; (try with_reducible rfl); done)); try simp only [Act.put, List.setIfInBounds_toArray, List.set_cons_zero, List.set_cons_succ])))
      refine lew_chain2 rfl (by rfl) (fun K hK => ?_)
      have KJ2 := hide (KJ.out w3 (bel_trans HB1.out (bel_trans HB.out HB3.out)))
      go_wp2_with fail
      refine KJ2.out.mono ?_
      rintro e9 w4 ⟨rfl, hb⟩
      have HB4 := hide (bel_trans HB3.out hb)
      clear KJ KJ2 hb
      refine hK.out _ _ (HCW.out _ HB4.out) ?_
      clear hK
      (repeat (first | (refine lew_skip (by rfl) (by rfl) ?_; try simp only [Act.put, List.setIfInBounds_toArray, List.set_cons_zero, List.set_cons_succ]) | (refine lew_read0 (v := ?_) (by rfl) (by rfl) ?_ ?_; rotate_left; (focus (intro w' hS'; go_simp; (try with_reducible rfl); done)); try simp only [Act.put, List.setIfInBounds_toArray, List.set_cons_zero, List.set_cons_succ]) | (refine lew_read1 (v := ?_) (by rfl) (by rfl) ?_ ?_; rotate_left; (focus (intro w' hS'; go_simp; (try with_reducible rfl); done)); try simp only [Act.put, List.setIfInBounds_toArray, List.set_cons_zero, List.set_cons_succ]) | (refine lew_read2 (v := ?_) (by rfl) (by rfl) ?_ ?_; rotate_left; (focus (intro w' hS'; go_simp; (try with_reducible rfl); done)); try simp only [Act.put, List.setIfInBounds_toArray, List.set_cons_zero, List.set_cons_succ]) | (refine lew_read3 (v := ?_) (by rfl) (by rfl) ?_ ?_; rotate_left; (focus (intro w' hS'; go_simp; (try with_reducible rfl); done)); try simp only [Act.put, List.setIfInBounds_toArray, List.set_cons_zero, List.set_cons_succ]) | (refine lew_read4 (v := ?_) (by rfl) (by rfl) ?_ ?_; rotate_left; (focus (intro w' hS'; go_simp; (try with_reducible rfl); done)); try simp only [Act.put, List.setIfInBounds_toArray, List.set_cons_zero, List.set_cons_succ])))
      refine lew_nil ?_
      clear hix
      go_wp2
      refine bodyPost_ret (results_tmp2 rfl _ _ _) rfl ?_
      exact FIN2.out _ (bel_trans HB1.out (bel_trans HB.out HB4.out))
    · obtain ⟨pb, hpb⟩ : ∃ pb, pb = bs syllabT := ⟨_, rfl⟩
      have FIN2 := hide (fun w' hb => show BelowRet w (.tuple #[.string (bs tx), .int .i64 0]) (.returned (.tuple #[.string ((pb ++ ⟨#[58]⟩) ++ jn), .int .i64 0])) w' from by rw [hpb]; exact FIN.out w' hb)
      have hps : pb.size ≤ 10 := by rw [hpb]; decide
      have hs1 : ¬ 9223372036854775807 < pb.size + 1 := by omega
      have hs2 : ¬ 9223372036854775807 < pb.size + 1 + jn.size := by omega
      have HPB := hide hpb
      clear FIN hpb
      go_enter Tryd.func18, Tryd.ntmps18
      go_wp2_with fail
      refine KV.out.mono ?_
      rintro e9 w2 ⟨rfl, hb⟩
      have HB := hide hb
      clear KV hb d0 d1
      go_wp2_with fail
      have HCW := hide (fun W (h : Below w2.heap.size w2 W) => HC0.out W (bel_trans HB.out h))
      refine wp_region_lew [0, 7] [1, 2, 2, 2, 2, 1, 1, 2, 2, 2, 2]
        (fun W => W.cell? ⟨w.heap.size, 0, none⟩ = some (.int .i64 4) ∧ W.cell? ⟨w.heap.size, 1, none⟩ = some (.slice (some ⟨b, o, none⟩) N c))
        (fun W => W.cell? ⟨w.heap.size, 0, none⟩ = some (.int .i64 4) ∧ W.cell? ⟨w.heap.size, 1, none⟩ = some (.slice (some ⟨b, o, none⟩) N c))
        (fun W => W.cell? ⟨w.heap.size, 0, none⟩ = some (.int .i64 4) ∧ W.cell? ⟨w.heap.size, 1, none⟩ = some (.slice (some ⟨b, o, none⟩) N c))
        (fun _ => True) (fun _ h => h) (fun _ h => h) (fun _ _ => trivial) rfl (by kernel_rfl) (by kernel_rfl) (by kernel_rfl) (HCW.out _ (below_drew (Below.refl _ _))) ?_
      (repeat (first | (refine lew_skip (by rfl) (by rfl) ?_; try simp only [Act.put, List.setIfInBounds_toArray, List.set_cons_zero, List.set_cons_succ]) | (refine lew_read0 (v := ?_) (by rfl) (by rfl) ?_ ?_; rotate_left; (focus (intro w' hS'; go_simp; (try with_reducible rfl); done)); try simp only [Act.put, List.setIfInBounds_toArray, List.set_cons_zero, List.set_cons_succ]) | (refine lew_read1 (v := ?_) (by rfl) (by rfl) ?_ ?_; rotate_left; (focus (intro w' hS'; go_simp; (try with_reducible rfl); done)); try simp only [Act.put, List.setIfInBounds_toArray, List.set_cons_zero, List.set_cons_succ]) | (refine lew_read2 (v := ?_) (by rfl) (by rfl) ?_ ?_; rotate_left; (focus (intro w' hS'; go_simp; (try with_reducible rfl); done)); try simp only [Act.put, List.setIfInBounds_toArray, List.set_cons_zero, List.set_cons_succ]) | (refine lew_read3 (v := ?_) (by rfl) (by rfl) ?_ ?_; rotate_left; (focus (intro w' hS'; go_simp; (try with_reducible rfl); done)); try simp only [Act.put, List.setIfInBounds_toArray, List.set_cons_zero, List.set_cons_succ]) | (refine lew_read4 (v := ?_) (by rfl) (by rfl) ?_ ?_; rotate_left; (focus (intro w' hS'; go_simp; (try with_reducible rfl); done)); try simp only [Act.put, List.setIfInBounds_toArray, List.set_cons_zero, List.set_cons_succ])))
      refine lew_chain1 rfl (by rfl) (fun K hK => ?_)
      have KT := hide (titles_any w2.drew)
      have hix : ∀ W, (Instr.index 52 (.agg #[.string ⟨#[]⟩, .string (bs plainT), .string (bs casedT), .string (bs abjadT), .string (bs syllabT)]) (.int .i64 4)).run Tryd.prog W = .ok (.string pb) W := fun W => run_idx (by simp [HPB.out]) W
      go_wp2_with fail
      refine KT.out.mono ?_
      rintro e9 w3 ⟨rfl, hb⟩
      have HB3 := hide (bel_trans (below_drew (Below.refl _ w2)) hb)
      clear KT hb
      refine hK.out _ _ (HCW.out _ HB3.out) ?_
      clear hK
      (repeat (first | (refine lew_skip (by rfl) (by rfl) ?_; try simp only [Act.put, List.setIfInBounds_toArray, List.set_cons_zero, List.set_cons_succ]) | (refine lew_read0 (v := ?_) (by rfl) (by rfl) ?_ ?_; rotate_left; (focus (intro w' hS'; go_simp; (try with_reducible rfl); done)); try simp only [Act.put, List.setIfInBounds_toArray, List.set_cons_zero, List.set_cons_succ]) | (refine lew_read1 (v := ?_) (by rfl) (by rfl) ?_ ?_; rotate_left; (focus (intro w' hS'; go_simp; (try with_reducible rfl); done)); try simp only [Act.put, List.setIfInBounds_toArray, List.set_cons_zero, List.set_cons_succ]) | (refine lew_read2 (v := ?_) (by rfl) (by rfl) ?_ ?_; rotate_left; (focus (intro w' hS'; go_simp; (try with_reducible rfl); done)); try simp only [Act.put, List.setIfInBounds_toArray, List.set_cons_zero, List.set_cons_succ]) | (refine lew_read3 (v := ?_) (by rfl) (by rfl) ?_ ?_; rotate_left; (focus (intro w' hS'; go_simp; (try with_reducible rfl); done)); try simp only [Act.put, List.setIfInBounds_toArray, List.set_cons_zero, List.set_cons_succ]) | (refine lew_read4 (v := ?_) (by rfl) (by rfl) ?_ ?_; rotate_left; (focus (intro w' hS'; go_simp; (try with_reducible rfl); done)); try simp only [Act.put, List.setIfInBounds_toArray, List.set_cons_zero, List.set_cons_succ])))
      refine lew_chain2 rfl (by rfl) (fun K hK => ?_)
      have KJ2 := hide (KJ.out w3 (bel_trans HB1.out (bel_trans HB.out HB3.out)))
      go_wp2_with fail
      refine KJ2.out.mono ?_
      rintro e9 w4 ⟨rfl, hb⟩
      have HB4 := hide (bel_trans HB3.out hb)
      clear KJ KJ2 hb
      refine hK.out _ _ (HCW.out _ HB4.out) ?_
      clear hK
      (repeat (first | (refine lew_skip (by rfl) (by rfl) ?_; try simp only [Act.put, List.setIfInBounds_toArray, List.set_cons_zero, List.set_cons_succ]) | (refine lew_read0 (v := ?_) (by rfl) (by rfl) ?_ ?_; rotate_left; (focus (intro w' hS'; go_simp; (try with_reducible rfl); done)); try simp only [Act.put, List.setIfInBounds_toArray, List.set_cons_zero, List.set_cons_succ]) | (refine lew_read1 (v := ?_) (by rfl) (by rfl) ?_ ?_; rotate_left; (focus (intro w' hS'; go_simp; (try with_reducible rfl); done)); try simp only [Act.put, List.setIfInBounds_toArray, List.set_cons_zero, List.set_cons_succ]) | (refine lew_read2 (v := ?_) (by rfl) (by rfl) ?_ ?_; rotate_left; (focus (intro w' hS'; go_simp; (try with_reducible rfl); done)); try simp only [Act.put, List.setIfInBounds_toArray, List.set_cons_zero, List.set_cons_succ]) | (refine lew_read3 (v := ?_) (by rfl) (by rfl) ?_ ?_; rotate_left; (focus (intro w' hS'; go_simp; (try with_reducible rfl); done)); try simp only [Act.put, List.setIfInBounds_toArray, List.set_cons_zero, List.set_cons_succ]) | (refine lew_read4 (v := ?_) (by rfl) (by rfl) ?_ ?_; rotate_left; (focus (intro w' hS'; go_simp; (try with_reducible rfl); done)); try simp only [Act.put, List.setIfInBounds_toArray, List.set_cons_zero, List.set_cons_succ])))
      refine lew_nil ?_
      clear hix
      go_wp2
      refine bodyPost_ret (results_tmp2 rfl _ _ _) rfl ?_
      exact FIN2.out _ (bel_trans HB1.out (bel_trans HB.out HB4.out))
  · have e1 : txtN n = ([], 1) := by unfold txtN; rw [if_neg hv]
    have hv : validN n = false := by simpa using hv
    rw [hv] at KV
    rw [e1]
    unfold nmV at KV ⊢
    clear hv e1 hA hb1 hz hw hb
    generalize n.ws.length = N at *
    go_enter Tryd.func18, Tryd.ntmps18
    go_wp2_with fail
    refine KV.out.mono ?_
    rintro e9 w2 ⟨rfl, hb⟩
    have HB := hide hb
    clear KV hb d0 d1
    go_wp2
    refine bodyPost_ret (results_tmp2 rfl _ _ _) rfl ?_
    exact ⟨rfl, bel_trans HB1.out HB.out⟩
end Go.Proofs.YtcgmikpmbomliaaDoor
