/-
  Script: the reference's Fold.
  The references' small functions: costs, small texts, rules that agree, letters of folded words.
  The references' letters of folded words.
  The reference's rules and drops.
  The reference's drops; tables that are valid.
  The reference's Valid.
-/
import Derived.Test.YtnppgomhhcbplaaGreatDoorPO18
import Derived.Laws.IdiomStrings
import Derived.Test.YtnppgomhhcbplaaGreatDoorPO14
import Derived.Test.YtnppgomhhcbplaaGreatDoorPO13
import Derived.Deep.DeepCutAuto
set_option linter.unusedSimpArgs false
set_option linter.unusedVariables false
namespace Go.Proofs.YtnppgomhhcbplaaGreatDoor
open Go.RowKit Go.CH Go.CH.Scr
open Go.ChangeMaps (setBlock)
set_option maxRecDepth 100000
theorem bytsOk : SliceOk Tryz.prog 155 5 (.int .u8 0) 1 1 := ⟨by kernel_rfl, by kernel_rfl, by decide, by decide⟩
def bytB (l : Bs) : List Value := l.map fun b => .int .u8 b.toNat
theorem bytB_one (l : Bs) : ∀ u ∈ bytB l, u.oneCell' = true := by
  intro u hu
  obtain ⟨b, _, rfl⟩ := List.mem_map.1 hu
  rfl
def BytO (A : Option Addr) (c : Nat) (l : Bs) : CH.Own := RowO 5 1 (.slice A l.length c) l.length (bytB l)
theorem byt_ok {A : Option Addr} {c : Nat} {l : Bs} : (BytO A c l).Ok := row_ok
theorem byt_snoc {A : Option Addr} {c : Nat} {l : Bs} {x : UInt8} : RowO 5 1 (.slice A (l.length + 1) c) (l.length + 1) (bytB l ++ [.int .u8 x.toNat]) = BytO A c (l ++ [x]) := by
  have e : bytB (l ++ [x]) = bytB l ++ [.int .u8 x.toNat] := by simp [bytB]
  unfold BytO
  rw [e, List.length_append, List.length_singleton]
theorem app_byt {F0 : Nat → Prop} {w0 W : World} {Y : CH.Own} {ops : Array Oper} {rest : List Oper} {o : Oper} {a : Act} {Q : Exit → Act → World → Prop} (hgd : o.guard = none) (s x : Operand)
    (ho : o.op = .call { callee := .builtin .append, args := #[s, x], argTypes := #[155, 155] }) {A : Option Addr} {c n : Nat} {l : Bs} {i : UInt8} {v : Value} (hv : v = .int .u8 i.toNat) (hl : l.length = n) (hsv : a.eval s = .slice A n c) (hx : a.eval x = .slice (some ⟨W.heap.size, 0, none⟩) 1 1) (hn : n ≤ 1000000) (hY : Y.Ok)
    (h : Run F0 w0 (star (BytO A c l) Y) W)
    (hK : ∀ A' c' w', Run F0 w0 (star (BytO A' c' (l ++ [i])) Y) w' → wpList Tryz.prog ops Q rest (a.put o.dst (.slice A' (n + 1) c')) w') : wpList Tryz.prog ops Q (o :: rest) a (W.alloc (.cells #[v] 5)) := by
  subst hl hv
  obtain ⟨F7, hR7, -, bk7⟩ := (h.below (star_ok byt_ok hY) ((Below.refl _ _).alloc (Nat.le_refl _) (.cells #[.int .u8 i.toNat] 5))).take byt_ok hY
  refine wpList_appX hgd s x ho bytsOk _ 0 (v := .slice A l.length c) (n := l.length) (xs := bytB l) hsv hR7.1 (A := some ⟨W.heap.size, 0, none⟩) (m := 1) (c := 1) (news := [.int .u8 i.toNat]) hx (src_lit1 W _ 5 rfl) (by unfold maxLen; omega) (by omega) (Nat.zero_le _) ?_
  intro v8 w8 ho8 hg8 hv8
  have S8 := bk7 _ _ (row_app hR7 ho8 hg8 hv8)
  obtain ⟨A8, c8, rfl⟩ := own_form ho8
  rw [byt_snoc] at S8
  exact hK A8 c8 w8 S8
theorem conv_byt {F0 : Nat → Prop} {w0 W : World} {A : Option Addr} {c n : Nat} {l : Bs} (h : Run F0 w0 (star (BytO A c l) emp) W) (hn : l.length = n) :
    (convert 155 9 (.slice A n c)).run Tryz.prog W = .ok (.string (bs l)) W := by
  subst hn
  obtain ⟨F, hF⟩ := h.fst
  have hs := row_src hF (bytB_one l)
  have u51 : Tryz.prog.underlying 155 = some (.slice 5) := bytsOk.1
  have u5 : Tryz.prog.underlying 5 = some (.int .u8) := by kernel_rfl
  cases A with
  | none =>
    have hl : l = [] := by
      rcases Nat.eq_zero_or_pos l.length with h0 | h0
      · exact List.eq_nil_of_length_eq_zero h0
      · obtain ⟨ad, e, _⟩ := hs.2.2 h0
        cases e
    subst hl
    rw [run_convert_bytes_nil W 155 5 u51 u5 _ _ 9 Tryz.underlying9]; rfl
  | some ad =>
    refine run_convert_bytes_back W 155 9 5 ad c l u51 u5 Tryz.underlying9 (fun j hj => ?_)
    exact hs.cells rfl j _ (by unfold bytB; rw [List.getElem?_map, List.getElem?_eq_getElem hj]; rfl)
theorem byt_start (w : World) : Run (fun _ => False) w (star (BytO (some ⟨w.heap.size, 0, none⟩) 0 []) emp) (w.alloc (.cells #[] 5)) :=
  (Run.begin w).fresh emp_ok (row_made w 5 1)
theorem low_up {x : UInt8} (h : 65 ≤ x.toNat ∧ x.toNat ≤ 90) : (x.toNat : Int) + 32 = (low x).toNat := by
  have h1 : (65 : UInt8) ≤ x ∧ x ≤ 90 := ⟨UInt8.le_iff_toNat_le.2 h.1, UInt8.le_iff_toNat_le.2 h.2⟩
  unfold low
  rw [if_pos h1, UInt8.toNat_add]
  show (x.toNat : Int) + 32 = (((x.toNat + 32) % 256 : Nat) : Int)
  rw [Nat.mod_eq_of_lt (by omega)]
  omega
theorem low_same {x : UInt8} (h : ¬ (65 ≤ x.toNat ∧ x.toNat ≤ 90)) : low x = x := by
  unfold low
  rw [if_neg]
  rintro ⟨h1, h2⟩
  exact h ⟨UInt8.le_iff_toNat_le.1 h1, UInt8.le_iff_toNat_le.1 h2⟩
theorem lower_next {l : Bs} {k : Nat} {x : UInt8} (h : l[k]? = some x) : lower (l.take k) ++ [low x] = lower (l.take (k + 1)) := by
  obtain ⟨h1, h2⟩ := List.getElem?_eq_some_iff.1 h
  rw [List.take_succ_eq_append_getElem h1, h2]
  simp [lower]
theorem lower_len (l : Bs) : (lower l).length = l.length := by simp [lower]
set_option maxRecDepth 100000 in
set_option maxHeartbeats 3200000 in
theorem rfold_any (k : Int) (s : ByteArray) (w : World) (hs : s.size ≤ 1000000) :
    Calls Tryz.prog 52 #[.int .i64 k, .string s] w (BelowRet w (.tuple #[.string (bs (foldN k (bl s)).1), .int .i64 (foldN k (bl s)).2])) := by
  have KW := hide (rWord_any k s w hs)
  cases hw : word k (bl s) with
  | false =>
    have e2 : foldN k (bl s) = ([], 1) := by unfold foldN; rw [hw]; rfl
    rw [hw] at KW
    rw [e2]
    clear hw e2
    go_enter Tryz.func52, Tryz.ntmps52
    go_wp2_with fail
    refine KW.out.mono ?_
    rintro e9 w1 ⟨rfl, hb⟩
    have HB := hide hb
    clear KW hb
    go_wp2
    refine bodyPost_ret (results_tmp2 rfl _ _ _) rfl ?_
    exact ⟨rfl, HB.out⟩
  | true =>
    have e2 : foldN k (bl s) = (lower (bl s), 0) := by unfold foldN; rw [hw]; rfl
    have HE := hide e2
    rw [hw] at KW
    clear hw e2
    go_enter Tryz.func52, Tryz.ntmps52
    go_wp2_with fail
    refine KW.out.mono ?_
    rintro e9 w1 ⟨rfl, hb⟩
    have HB := hide hb
    have S0 := hide (byt_start w1)
    clear KW hb
    go_wp2
    generalize w1.alloc (.cells #[] 5) = w2 at *
    go_loopw [6, 7] (fun v i wr => ∃ (j : Nat) (A : Option Addr) (c : Nat), j ≤ s.size ∧ v = .slice A j c ∧ i = .int .i64 (j : Int) ∧ Run (fun _ => False) w1 (star (BytO A c (lower ((bl s).take j))) emp) wr) (fun _ i _ => s.size - (intOf i).toNat)
    case atStart => exact ⟨0, _, 0, Nat.zero_le _, rfl, rfl, by rw [List.take_zero]; exact S0.out⟩
    case round =>
      obtain ⟨j, A, c, hj, rfl, rfl, hR⟩ := hrel
      have HR := hide hR
      clear hR S0
      have hll : (lower ((bl s).take j)).length = j := by rw [lower_len, List.length_take, bl_len]; omega
      have HLL := hide hll
      by_cases hlt : (j : Int) < (s.size : Int)
      · have hpl : j < s.size := by omega
        obtain ⟨x, hx⟩ : ∃ x : UInt8, s[j] = x := ⟨_, rfl⟩
        have HNX := hide (lower_next (show (bl s)[j]? = some x by rw [bl_at s j hpl, hx]))
        have hx256 := x.toNat_lt
        clear hll
        by_cases h1 : (65 : Int) ≤ (x.toNat : Int)
        · by_cases h2 : (x.toNat : Int) ≤ 90
          · have HLO := hide (low_up (x := x) (by omega))
            go_wp2_with (at_builtin; refine held ?_)
            refine Held.mk (app_byt rfl (.tmp 31) (.tmp 33) rfl (i := low x) (by rw [← HLO.out]) HLL.out rfl rfl (by omega) emp_ok HR.out ?_)
            intro A' c' w3 hw3
            rw [HNX.out] at hw3
            have HW3 := hide hw3
            clear hw3 HR HNX HLO
            go_wp2
            go_roundw
            case rel => exact ⟨j + 1, A', c', by omega, rfl, by go_num, HW3.out⟩
            case measure => simp [intOf]; omega
          · have HLO := hide (low_same (x := x) (by omega))
            go_wp2_with (at_builtin; refine held ?_)
            refine Held.mk (app_byt rfl (.tmp 31) (.tmp 33) rfl (i := low x) (by rw [HLO.out]) HLL.out rfl rfl (by omega) emp_ok HR.out ?_)
            intro A' c' w3 hw3
            rw [HNX.out] at hw3
            have HW3 := hide hw3
            clear hw3 HR HNX HLO
            go_wp2
            go_roundw
            case rel => exact ⟨j + 1, A', c', by omega, rfl, by go_num, HW3.out⟩
            case measure => simp [intOf]; omega
        · have HLO := hide (low_same (x := x) (by omega))
          go_wp2_with (at_builtin; refine held ?_)
          refine Held.mk (app_byt rfl (.tmp 31) (.tmp 33) rfl (i := low x) (by rw [HLO.out]) HLL.out rfl rfl (by omega) emp_ok HR.out ?_)
          intro A' c' w3 hw3
          rw [HNX.out] at hw3
          have HW3 := hide hw3
          clear hw3 HR HNX HLO
          go_wp2
          go_roundw
          case rel => exact ⟨j + 1, A', c', by omega, rfl, by go_num, HW3.out⟩
          case measure => simp [intOf]; omega
      · obtain rfl : j = s.size := by omega
        have HF := hide (show foldN k (bl s) = (lower ((bl s).take s.size), 0) by rw [HE.out, ← bl_len, List.take_length])
        have hcv := conv_byt HR.out hll
        have HM := hide (bel_trans HB.out HR.out.bel)
        clear hll HE HR
        generalize lower ((bl s).take s.size) = r at *
        go_wp2
        refine bodyPost_ret (results_tmp2 rfl _ _ _) rfl ?_
        exact ⟨by rw [HF.out]; rfl, HM.out⟩
end Go.Proofs.YtnppgomhhcbplaaGreatDoor
namespace Go.Proofs.YtnppgomhhcbplaaGreatDoor
open Go.RowKit Go.CH Go.CH.Scr Go.CH.Pot
open Go.ChangeMaps (setBlock)
set_option maxRecDepth 100000
theorem rcost_any (n : Int) (w : World) : Calls Tryz.prog 54 #[.int .i64 n] w (BelowRet w (.bool (costN n))) := by
  by_cases h1 : 0 ≤ n
  · by_cases h2 : n ≤ 1000
    · have e : costN n = true := costN_iff.2 ⟨h1, h2⟩
      rw [e]
      go_enter Tryz.func54, Tryz.ntmps54
      go_wp2
      go_ret
      exact ⟨rfl, Below.refl _ _⟩
    · have e : costN n = false := by rw [Bool.eq_false_iff]; exact fun h => h2 (costN_iff.1 h).2
      rw [e]
      go_enter Tryz.func54, Tryz.ntmps54
      go_wp2
      go_ret
      exact ⟨rfl, Below.refl _ _⟩
  · have e : costN n = false := by rw [Bool.eq_false_iff]; exact fun h => h1 (costN_iff.1 h).1
    rw [e]
    go_enter Tryz.func54, Tryz.ntmps54
    go_wp2
    go_ret
    exact ⟨rfl, Below.refl _ _⟩
theorem rtwice_any (w : World) (R S : Rule) : Calls Tryz.prog 93 #[.agg (rcells R).toArray, .agg (rcells S).toArray] w (BelowRet w (.bool (decide (keyR R = keyR S)))) := by
  obtain ⟨k, f, t, c⟩ := R
  obtain ⟨k2, f2, t2, c2⟩ := S
  have h1 := run_new (Run.begin w) emp_ok (rcells ⟨k, f, t, c⟩).toArray 41
  have h2 := run_new h1 (star_ok cell_ok emp_ok) (rcells ⟨k2, f2, t2, c2⟩).toArray 41
  have HB := hide (h2.mod.below (fun _ _ h => h))
  have e : decide (keyR ⟨k, f, t, c⟩ = keyR ⟨k2, f2, t2, c2⟩) = (decide (k = k2) && (decide (f = f2) && decide (t = t2))) := by
    unfold keyR
    simp only [Prod.mk.injEq, Bool.decide_and]
  rw [e]
  unfold rcells
  unfold rcells at HB
  clear h1 h2 e
  by_cases e1 : k = k2
  · have t1 : (k == k2) = true := by simp [e1]
    by_cases e2 : f = f2
    · have t2' : ((bs f).toList == (bs f2).toList) = true := by rw [toList_beq]; simp [e2]
      by_cases e3 : t = t2
      · have t3' : ((bs t).toList == (bs t2).toList) = true := by rw [toList_beq]; simp [e3]
        rw [decide_eq_true e1, decide_eq_true e2, decide_eq_true e3]
        clear e1 e2 e3
        go_enter Tryz.func93, Tryz.ntmps93
        go_wp2
        go_ret
        exact ⟨rfl, HB.out⟩
      · have t3' : ((bs t).toList == (bs t2).toList) = false := by rw [toList_beq]; simpa using fun h => e3 (bs_inj h)
        rw [decide_eq_true e1, decide_eq_true e2, decide_eq_false e3]
        clear e1 e2 e3
        go_enter Tryz.func93, Tryz.ntmps93
        go_wp2
        go_ret
        exact ⟨rfl, HB.out⟩
    · have t2' : ((bs f).toList == (bs f2).toList) = false := by rw [toList_beq]; simpa using fun h => e2 (bs_inj h)
      rw [decide_eq_true e1, decide_eq_false e2]
      clear e1 e2
      go_enter Tryz.func93, Tryz.ntmps93
      go_wp2
      go_ret
      exact ⟨rfl, HB.out⟩
  · have t1 : (k == k2) = false := by simp [e1]
    rw [decide_eq_false e1]
    clear e1
    go_enter Tryz.func93, Tryz.ntmps93
    go_wp2
    go_ret
    exact ⟨rfl, HB.out⟩
theorem low_iff {x : UInt8} : isLow x = true ↔ 97 ≤ x.toNat ∧ x.toNat ≤ 122 := by
  unfold isLow
  rw [Bool.and_eq_true, decide_eq_true_eq, decide_eq_true_eq, UInt8.le_iff_toNat_le, UInt8.le_iff_toNat_le]
  rfl
theorem rsmall10_any (s : ByteArray) (w : World) (hs : s.size ≤ 1000000) : Calls Tryz.prog 92 #[.string s] w (BelowRet w (.bool (formN (bl s)))) := by
  have HS := hide hs
  have HB0 := hide (Below.refl w.heap.size w)
  clear hs
  go_enter Tryz.func92, Tryz.ntmps92
  go_wp2
  go_loopw [3] (fun i wr => ∃ k : Nat, k ≤ s.size ∧ i = .int .i64 k ∧ ((bl s).take k).all isLow = true ∧ Below w.heap.size w wr) (fun i _ => s.size - (intOf i).toNat)
  case atStart => exact ⟨0, Nat.zero_le _, rfl, by simp, HB0.out⟩
  case round =>
    obtain ⟨k, hk, rfl, ht, hb⟩ := hrel
    have HT := hide ht
    have HBL := hide hb
    clear ht hb
    by_cases hlt : k < s.size
    · obtain ⟨y, hy⟩ : ∃ y : UInt8, s[k] = y := ⟨_, rfl⟩
      have hgl : (bl s)[k]? = some y := by rw [bl_at s k hlt, hy]
      have HNX := hide (show (bl s).take (k + 1) = (bl s).take k ++ [y] by rw [List.take_add_one, hgl]; rfl)
      have HMEM := hide (show y ∈ bl s from List.mem_of_getElem? hgl)
      have hk2 : (k : Int) < (s.size : Int) := by omega
      have hy256 := y.toNat_lt
      have HLT := hide hlt
      have hkb : (k : Int) < 1000000 := by have := HS.out; omega
      clear hgl
      by_cases h1 : y.toNat < 97
      · have HF := hide (show formN (bl s) = false by
          rw [Bool.eq_false_iff]; intro h
          have := List.all_eq_true.1 (formN_iff.1 h).2 y HMEM.out
          have := low_iff.1 this
          omega)
        have t1 : decide ((y.toNat : Int) < 97) = true := decide_eq_true (by omega)
        clear h1
        go_wp2
        go_ret
        rw [HF.out]
        exact ⟨rfl, HBL.out⟩
      · have t1 : decide ((y.toNat : Int) < 97) = false := decide_eq_false (by omega)
        by_cases h2 : 122 < y.toNat
        · have HF := hide (show formN (bl s) = false by
            rw [Bool.eq_false_iff]; intro h
            have := List.all_eq_true.1 (formN_iff.1 h).2 y HMEM.out
            have := low_iff.1 this
            omega)
          have t2 : decide ((122 : Int) < (y.toNat : Int)) = true := decide_eq_true (by omega)
          clear h1 h2
          go_wp2
          go_ret
          rw [HF.out]
          exact ⟨rfl, HBL.out⟩
        · have t2 : decide ((122 : Int) < (y.toNat : Int)) = false := decide_eq_false (by omega)
          have HAL := hide (show ((bl s).take (k + 1)).all isLow = true by
            rw [HNX.out, List.all_append, HT.out, List.all_cons, low_iff.2 ⟨by omega, by omega⟩]; rfl)
          clear h1 h2
          go_wp2
          go_roundw
          case rel => exact ⟨k + 1, HLT.out, by go_num, HAL.out, HBL.out⟩
          case measure => have := HLT.out; simp [intOf]; omega
    · obtain rfl : k = s.size := by omega
      have HA := hide (show (bl s).all isLow = true by
        have := HT.out
        rw [← bl_len, List.take_length] at this
        exact this)
      have HF := hide (show formN (bl s) = decide (s.size ≤ 3) by unfold formN; rw [HA.out, Bool.and_true, bl_len])
      go_wp2
      go_ret
      exact bel_bool (by rw [HF.out]; exact decide_eq_decide.2 (by omega)) HBL.out
theorem rsmall12_any (s : ByteArray) (w : World) (hs : s.size ≤ 1000000) : Calls Tryz.prog 34 #[.string s] w (BelowRet w (.bool (formN (bl s)))) := by
  have HS := hide hs
  have HB0 := hide (Below.refl w.heap.size w)
  clear hs
  go_enter Tryz.func34, Tryz.ntmps34
  go_wp2
  go_loopw [3] (fun i wr => ∃ k : Nat, k ≤ s.size ∧ i = .int .i64 k ∧ ((bl s).take k).all isLow = true ∧ Below w.heap.size w wr) (fun i _ => s.size - (intOf i).toNat)
  case atStart => exact ⟨0, Nat.zero_le _, rfl, by simp, HB0.out⟩
  case round =>
    obtain ⟨k, hk, rfl, ht, hb⟩ := hrel
    have HT := hide ht
    have HBL := hide hb
    clear ht hb
    by_cases hlt : k < s.size
    · obtain ⟨y, hy⟩ : ∃ y : UInt8, s[k] = y := ⟨_, rfl⟩
      have hgl : (bl s)[k]? = some y := by rw [bl_at s k hlt, hy]
      have HNX := hide (show (bl s).take (k + 1) = (bl s).take k ++ [y] by rw [List.take_add_one, hgl]; rfl)
      have HMEM := hide (show y ∈ bl s from List.mem_of_getElem? hgl)
      have hk2 : (k : Int) < (s.size : Int) := by omega
      have hy256 := y.toNat_lt
      have HLT := hide hlt
      have hkb : (k : Int) < 1000000 := by have := HS.out; omega
      clear hgl
      by_cases h1 : y.toNat < 97
      · have HF := hide (show formN (bl s) = false by
          rw [Bool.eq_false_iff]; intro h
          have := List.all_eq_true.1 (formN_iff.1 h).2 y HMEM.out
          have := low_iff.1 this
          omega)
        have t1 : decide ((y.toNat : Int) < 97) = true := decide_eq_true (by omega)
        clear h1
        go_wp2
        go_ret
        rw [HF.out]
        exact ⟨rfl, HBL.out⟩
      · have t1 : decide ((y.toNat : Int) < 97) = false := decide_eq_false (by omega)
        by_cases h2 : 122 < y.toNat
        · have HF := hide (show formN (bl s) = false by
            rw [Bool.eq_false_iff]; intro h
            have := List.all_eq_true.1 (formN_iff.1 h).2 y HMEM.out
            have := low_iff.1 this
            omega)
          have t2 : decide ((122 : Int) < (y.toNat : Int)) = true := decide_eq_true (by omega)
          clear h1 h2
          go_wp2
          go_ret
          rw [HF.out]
          exact ⟨rfl, HBL.out⟩
        · have t2 : decide ((122 : Int) < (y.toNat : Int)) = false := decide_eq_false (by omega)
          have HAL := hide (show ((bl s).take (k + 1)).all isLow = true by
            rw [HNX.out, List.all_append, HT.out, List.all_cons, low_iff.2 ⟨by omega, by omega⟩]; rfl)
          clear h1 h2
          go_wp2
          go_roundw
          case rel => exact ⟨k + 1, HLT.out, by go_num, HAL.out, HBL.out⟩
          case measure => have := HLT.out; simp [intOf]; omega
    · obtain rfl : k = s.size := by omega
      have HA := hide (show (bl s).all isLow = true by
        have := HT.out
        rw [← bl_len, List.take_length] at this
        exact this)
      have HF := hide (show formN (bl s) = decide (s.size ≤ 3) by unfold formN; rw [HA.out, Bool.and_true, bl_len])
      go_wp2
      go_ret
      exact bel_bool (by rw [HF.out]; exact decide_eq_decide.2 (by omega)) HBL.out

end Go.Proofs.YtnppgomhhcbplaaGreatDoor
namespace Go.Proofs.YtnppgomhhcbplaaGreatDoor
open Go.RowKit Go.CH Go.CH.Scr Go.CH.Pot
open Go.ChangeMaps (setBlock)
set_option maxRecDepth 100000
theorem str_nil_post (w : World) : Post w (fun _ => False) (StrO none 0 []) w := ⟨fun _ => False, str_nil w, Mod.refl _ _, fun i hi => .inl hi⟩
theorem post_after {w w1 w2 : World} {O : CH.Own} (hb : Below w.heap.size w w1) (h : Post w1 (fun _ => False) O w2) (ho : O.Ok) : Post w (fun _ => False) O w2 := by
  have h2 := ((Run.begin w).below emp_ok hb).fresh emp_ok h
  exact (h2.swap.drop).post ho
theorem fold_vals (k : Int) (x : Bs) : (word k x = true ∧ foldN k x = (lower x, 0) ∧ lettersN k (lower x) = ((ltrs k (lower x)).1, 0) ∧ openN k x = ((ltrs k (lower x)).1, true)) ∨ (word k x = false ∧ foldN k x = ([], 1) ∧ openN k x = ([], false)) := by
  by_cases hw : word k x = true
  · exact .inl ⟨hw, by unfold foldN; rw [if_pos hw], by unfold lettersN; rw [if_pos (fold_word hw)], by unfold openN; rw [if_pos hw]⟩
  · exact .inr ⟨Bool.eq_false_iff.2 hw, by unfold foldN; rw [if_neg hw], by unfold openN; rw [if_neg hw]⟩
/-- What the reference's Letters of layer 10 gives. -/
def RLtrRet (w : World) (k : Int) (x : Bs) (e : Ending) (w' : World) : Prop :=
  ∃ A c, e = .returned (.slice A (openN k x).1.length c) ∧ Post w (fun _ => False) (StrO A c (openN k x).1) w'
/-- What the reference's Open gives. -/
def ROpenRet (w : World) (k : Int) (x : Bs) (e : Ending) (w' : World) : Prop :=
  ∃ A c, e = .returned (.tuple #[.slice A (openN k x).1.length c, .bool (openN k x).2]) ∧ Post w (fun _ => False) (StrO A c (openN k x).1) w'
theorem rltr_any (k : Int) (x : Bs) (w : World) (hx : x.length ≤ 1000000) : Calls Tryz.prog 114 #[.int .i64 k, .string (bs x)] w (RLtrRet w k x) := by
  have KF := hide (rfold_any k (bs x) w (by rw [bs_size]; exact hx))
  simp only [bl_bs] at KF
  unfold BelowRet at KF
  have hlx : (lower x).length ≤ 1000000 := by unfold lower; rw [List.length_map]; exact hx
  unfold RLtrRet
  rcases fold_vals k x with ⟨-, e1, e2, e3⟩ | ⟨-, e1, e3⟩
  · have KL := hide (fun W => rLetters_any k (bs (lower x)) W (by rw [bs_size]; exact hlx))
    simp only [bl_bs] at KL
    unfold LtrsRet at KL
    simp only [e2] at KL
    simp only [e1] at KF
    rw [e3]
    dsimp only
    generalize (ltrs k (lower x)).1 = l at *
    clear e1 e2 e3 hlx hx
    go_enter Tryz.func114, Tryz.ntmps114
    go_wp2_with fail
    refine KF.out.mono ?_
    rintro e9 w2 ⟨rfl, hb⟩
    have HB := hide hb
    have KL2 := hide (KL.out w2)
    clear KF KL hb
    dsimp only
    go_wp2_with fail
    refine KL2.out.mono ?_
    rintro e9 w3 ⟨A, c, rfl, hp⟩
    have HP := hide (post_after HB.out hp str_ok)
    clear KL2 hp HB
    dsimp only
    generalize hn : l.length = n at *
    go_wp2
    go_ret
    exact ⟨A, c, by rw [hn]; rfl, HP.out⟩
  · simp only [e1] at KF
    rw [e3]
    dsimp only
    clear e1 e3 hlx hx
    go_enter Tryz.func114, Tryz.ntmps114
    go_wp2_with fail
    refine KF.out.mono ?_
    rintro e9 w2 ⟨rfl, hb⟩
    have HP := hide (post_after hb (str_nil_post w2) str_ok)
    clear KF hb
    dsimp only
    go_wp2
    go_ret
    exact ⟨none, 0, rfl, HP.out⟩
theorem ropen_any (k : Int) (x : Bs) (w : World) (hx : x.length ≤ 1000000) : Calls Tryz.prog 29 #[.int .i64 k, .string (bs x)] w (ROpenRet w k x) := by
  have KF := hide (rfold_any k (bs x) w (by rw [bs_size]; exact hx))
  simp only [bl_bs] at KF
  unfold BelowRet at KF
  have hlx : (lower x).length ≤ 1000000 := by unfold lower; rw [List.length_map]; exact hx
  unfold ROpenRet
  rcases fold_vals k x with ⟨-, e1, e2, e3⟩ | ⟨-, e1, e3⟩
  · have KL := hide (fun W => rLetters_any k (bs (lower x)) W (by rw [bs_size]; exact hlx))
    simp only [bl_bs] at KL
    unfold LtrsRet at KL
    simp only [e2] at KL
    simp only [e1] at KF
    rw [e3]
    dsimp only
    generalize (ltrs k (lower x)).1 = l at *
    clear e1 e2 e3 hlx hx
    go_enter Tryz.func29, Tryz.ntmps29
    go_wp2_with fail
    refine KF.out.mono ?_
    rintro e9 w2 ⟨rfl, hb⟩
    have HB := hide hb
    have KL2 := hide (KL.out w2)
    clear KF KL hb
    dsimp only
    go_wp2_with fail
    refine KL2.out.mono ?_
    rintro e9 w3 ⟨A, c, rfl, hp⟩
    have HP := hide (post_after HB.out hp str_ok)
    clear KL2 hp HB
    dsimp only
    generalize hn : l.length = n at *
    go_wp2
    refine bodyPost_ret (results_tmp2 rfl _ _ _) rfl ?_
    exact ⟨A, c, by rw [hn]; rfl, HP.out⟩
  · simp only [e1] at KF
    rw [e3]
    dsimp only
    clear e1 e3 hlx hx
    go_enter Tryz.func29, Tryz.ntmps29
    go_wp2_with fail
    refine KF.out.mono ?_
    rintro e9 w2 ⟨rfl, hb⟩
    have HP := hide (post_after hb (str_nil_post w2) str_ok)
    clear KF hb
    dsimp only
    go_wp2
    refine bodyPost_ret (results_tmp2 rfl _ _ _) rfl ?_
    exact ⟨none, 0, rfl, HP.out⟩
theorem rfolded_any (k : Int) (x : Bs) (most : Nat) (w : World) (hx : x.length ≤ 1000000) : Calls Tryz.prog 91 #[.int .i64 k, .string (bs x), .int .i64 (most : Int)] w (BelowRet w (.bool (foldedN k x most))) := by
  have KF := hide (rfold_any k (bs x) w (by rw [bs_size]; exact hx))
  simp only [bl_bs] at KF
  unfold BelowRet at KF
  rcases fold_vals k x with ⟨hw, e1, e2, e3⟩ | ⟨hw, e1, e3⟩
  · simp only [e1] at KF
    by_cases hl : lower x = x
    · have KL := hide (fun W => rltr_any k x W hx)
      unfold RLtrRet at KL
      simp only [e3] at KL
      have e4 : foldedN k x most = decide ((ltrs k x).1.length ≤ most) := by unfold foldedN; rw [hw, decide_eq_true hl]; simp
      rw [hl] at KL KF
      rw [e4]
      have tq : ((bs x).toList == (bs x).toList) = true := by simp
      clear e1 e2 e3 e4 hl hw hx
      generalize (ltrs k x).1 = l at *
      by_cases hm : l.length ≤ most
      · rw [decide_eq_true hm]
        go_enter Tryz.func91, Tryz.ntmps91
        go_wp2_with fail
        refine KF.out.mono ?_
        rintro e9 w2 ⟨rfl, hb⟩
        have HB := hide hb
        have KL2 := hide (KL.out w2)
        clear KF KL hb
        dsimp only
        go_wp2_with fail
        refine KL2.out.mono ?_
        rintro e9 w3 ⟨A, c, rfl, hp⟩
        obtain ⟨F, hF, hmd, -⟩ := hp
        have HB3 := hide (bel_trans HB.out (hmd.below (fun _ _ h => h)))
        clear KL2 hF hmd HB
        have t1 : decide ((l.length : Int) ≤ (most : Int)) = true := decide_eq_true (by omega)
        generalize l.length = n at *
        dsimp only
        go_wp2
        go_ret
        exact bel_bool (by simp [hm]) HB3.out
      · rw [decide_eq_false hm]
        go_enter Tryz.func91, Tryz.ntmps91
        go_wp2_with fail
        refine KF.out.mono ?_
        rintro e9 w2 ⟨rfl, hb⟩
        have HB := hide hb
        have KL2 := hide (KL.out w2)
        clear KF KL hb
        dsimp only
        go_wp2_with fail
        refine KL2.out.mono ?_
        rintro e9 w3 ⟨A, c, rfl, hp⟩
        obtain ⟨F, hF, hmd, -⟩ := hp
        have HB3 := hide (bel_trans HB.out (hmd.below (fun _ _ h => h)))
        clear KL2 hF hmd HB
        generalize l.length = n at *
        dsimp only
        go_wp2
        go_ret
        exact bel_bool (by simp) HB3.out
    · have e4 : foldedN k x most = false := by unfold foldedN; rw [decide_eq_false hl]; simp
      have tq : ((bs (lower x)).toList == (bs x).toList) = false := by rw [toList_beq]; simpa using fun h => hl (bs_inj h)
      rw [e4]
      clear e1 e2 e3 e4 hl hw hx
      go_enter Tryz.func91, Tryz.ntmps91
      go_wp2_with fail
      refine KF.out.mono ?_
      rintro e9 w2 ⟨rfl, hb⟩
      have HB := hide hb
      clear KF hb
      dsimp only
      go_wp2
      go_ret
      exact ⟨rfl, HB.out⟩
  · simp only [e1] at KF
    have e4 : foldedN k x most = false := by unfold foldedN; rw [hw]; rfl
    rw [e4]
    clear e1 e3 e4 hw hx
    go_enter Tryz.func91, Tryz.ntmps91
    go_wp2_with fail
    refine KF.out.mono ?_
    rintro e9 w2 ⟨rfl, hb⟩
    have HB := hide hb
    clear KF hb
    dsimp only
    go_wp2
    go_ret
    exact ⟨rfl, HB.out⟩
end Go.Proofs.YtnppgomhhcbplaaGreatDoor
namespace Go.Proofs.YtnppgomhhcbplaaGreatDoor
open Go.RowKit Go.CH Go.CH.Scr Go.CH.Pot
open Go.ChangeMaps (setBlock)
set_option maxRecDepth 100000
theorem rules_take {l : List Rule} {i : Nat} (h : i < l.length) : rulesN (l.take (i + 1)) = (rulesN (l.take i) && (ruleN l[i] && decide (∀ k (hk : k < l.length), k < i → keyR l[i] ≠ keyR l[k]))) := by
  rw [Bool.eq_iff_iff]
  simp only [Bool.and_eq_true, rulesN_iff, decide_eq_true_eq]
  rw [List.take_succ_eq_append_getElem h, List.map_append, List.nodup_append]
  constructor
  · rintro ⟨⟨h1, -, h2⟩, h3⟩
    refine ⟨⟨h1, fun R hR => h3 R (List.mem_append_left _ hR)⟩, h3 _ (List.mem_append_right _ (List.mem_singleton.2 rfl)), fun k hk hki e => ?_⟩
    refine h2 (keyR l[k]) (List.mem_map.2 ⟨l[k], ?_, rfl⟩) (keyR l[i]) (by simp) e.symm
    rw [List.mem_take_iff_getElem]
    exact ⟨k, by omega, rfl⟩
  · rintro ⟨⟨h1, h2⟩, h3, h4⟩
    refine ⟨⟨h1, by simp, fun a ha b hb e => ?_⟩, fun R hR => ?_⟩
    · obtain ⟨R, hR, rfl⟩ := List.mem_map.1 ha
      rw [List.mem_take_iff_getElem] at hR
      obtain ⟨k, hk, rfl⟩ := hR
      simp only [List.map_cons, List.map_nil, List.mem_singleton] at hb
      subst hb
      exact h4 k (by omega) (by omega) e.symm
    · rcases List.mem_append.1 hR with hR | hR
      · exact h2 R hR
      · rw [List.mem_singleton.1 hR]; exact h3
theorem rules_no2 {l : List Rule} {i : Nat} (h : rulesN (l.take i) = false) : rulesN l = false := by
  rw [Bool.eq_false_iff] at h ⊢
  intro h2
  refine h (rulesN_iff.2 ?_)
  obtain ⟨h3, h4⟩ := rulesN_iff.1 h2
  exact ⟨by rw [List.map_take]; exact h3.sublist (List.take_sublist _ _), fun R hR => h4 R (List.mem_of_mem_take hR)⟩
set_option maxHeartbeats 6400000 in
theorem rrules_any {w : World} {A : Option Addr} {c : Nat} {l : List Rule} (hA : RulesR w A l) (hl : l.length ≤ 1000000) (hs : ∀ R ∈ l, R.f.length ≤ 1000000 ∧ R.t.length ≤ 1000000) :
    Calls Tryz.prog 55 #[.slice A l.length c] w (BelowRet w (.bool (rulesN l))) := by
  have HA := hide hA
  have HL := hide hl
  have HS := hide hs
  have HB0 := hide (Below.refl w.heap.size w)
  obtain ⟨n, hn⟩ : ∃ n, n = l.length := ⟨_, rfl⟩
  have HN := hide hn
  rw [← hn]
  clear hA hl hs hn
  go_enter Tryz.func55, Tryz.ntmps55
  go_wp2_with fail
  go_loopw [3] (fun i wr => ∃ j : Nat, j ≤ n ∧ i = .int .i64 j ∧ rulesN (l.take j) = true ∧ Below w.heap.size w wr) (fun i _ => n - (intOf i).toNat)
  case atStart => exact ⟨0, Nat.zero_le _, rfl, by rw [List.take_zero]; rfl, HB0.out⟩
  case round =>
    obtain ⟨j, hj, rfl, hr, hb⟩ := hrel
    have HR := hide hr
    have HBE := hide hb
    clear hr hb
    by_cases hlt : j < n
    · have hjl : j < l.length := by rw [← HN.out]; exact hlt
      have HLT := hide hlt
      obtain ⟨b, o, rfl, hc⟩ := Rst.at (R := rcells) (fun _ => rfl) (by omega) HA.out (by omega)
      have HC := hide (fun W (h : Below w.heap.size w W) k (hk : k < l.length) => (show W.cell? ⟨b, o + k * 4, none⟩ = some (.int .i64 l[k].k) ∧ W.cell? ⟨b, o + k * 4 + 1, none⟩ = some (.string (bs l[k].f)) ∧ W.cell? ⟨b, o + k * 4 + 2, none⟩ = some (.string (bs l[k].t)) ∧ W.cell? ⟨b, o + k * 4 + 3, none⟩ = some (.int .i64 l[k].c) from ⟨hc W h k hk 0 _ rfl, hc W h k hk 1 _ rfl, hc W h k hk 2 _ rfl, hc W h k hk 3 _ rfl⟩))
      have hjb : (j : Int) < 1000000 := by have := HL.out; omega
      have HTK := hide (rules_take hjl)
      have HCJ := hide (fun W h => HC.out W h j hjl)
      obtain ⟨hf6, ht6⟩ := HS.out _ (List.getElem_mem hjl)
      have K1 := hide (fun W => rfolded_any l[j].k l[j].f 3 W hf6)
      have K2 := hide (fun W => rsmall10_any (bs l[j].t) W (by rw [bs_size]; exact ht6))
      have K3 := hide (fun W => rcost_any l[j].c W)
      have K4 := hide (fun W k (hk : k < l.length) => rtwice_any W l[j] l[k])
      simp only [bl_bs] at K2
      clear hc hf6 ht6
      have hrn : ruleN l[j] = (foldedN l[j].k l[j].f 3 && (formN l[j].t && costN l[j].c)) := rfl
      have HRN := hide hrn
      clear hrn
      generalize l[j] = R at *
      obtain ⟨Rk, Rf, Rt, Rc⟩ := R
      dsimp only at HCJ K1 K2 K3 HRN
      go_upto_region 4 with (fail)
      have HBD := hide (bel_trans HBE.out ((Below.refl wr.heap.size wr).drew))
      have hS0 := HCJ.out _ HBD.out
      refine wp_region_lex (fun W : World => W.cell? ⟨b, o + j * 4, none⟩ = some (.int .i64 Rk) ∧ W.cell? ⟨b, o + j * 4 + 1, none⟩ = some (.string (bs Rf)) ∧ W.cell? ⟨b, o + j * 4 + 2, none⟩ = some (.string (bs Rt)) ∧ W.cell? ⟨b, o + j * 4 + 3, none⟩ = some (.int .i64 Rc)) (by kernel_rfl) (by kernel_rfl) hS0 ?_
      clear hS0
      generalize wr.drew = w2 at *
      (repeat (first | (refine lex_skip (by rfl) ?_; try simp only [Act.put, List.setIfInBounds_toArray, List.set_cons_zero, List.set_cons_succ]) | (refine lex_read (v := ?_) (by rfl) ?_ ?_; rotate_left; (focus (intro w' hS'; go_simp; (try with_reducible rfl); done)); try simp only [Act.put, List.setIfInBounds_toArray, List.set_cons_zero, List.set_cons_succ])))
      refine lex_chain rfl (by rfl) (fun K hK => ?_)
      go_wp2_with fail
      refine (K1.out w2).mono ?_
      rintro e9 w3 ⟨rfl, hb⟩
      have HB3 := hide (bel_trans HBD.out hb)
      refine hK.out _ _ (HCJ.out w3 HB3.out) ?_
      clear hK hb
      generalize foldedN Rk Rf 3 = f1 at *
      cases f1 with
      | false =>
        have HNO := hide (show rulesN l = false from rules_no2 (i := j + 1) (by rw [HTK.out, HRN.out]; simp))
        (repeat (first | (refine lex_skip (by rfl) ?_; try simp only [Act.put, List.setIfInBounds_toArray, List.set_cons_zero, List.set_cons_succ]) | (refine lex_read (v := ?_) (by rfl) ?_ ?_; rotate_left; (focus (intro w' hS'; go_simp; (try with_reducible rfl); done)); try simp only [Act.put, List.setIfInBounds_toArray, List.set_cons_zero, List.set_cons_succ])))
        refine lex_nil ?_
        go_wp2
        go_ret
        exact bel_bool HNO.out HB3.out
      | true =>
        (repeat (first | (refine lex_skip (by rfl) ?_; try simp only [Act.put, List.setIfInBounds_toArray, List.set_cons_zero, List.set_cons_succ]) | (refine lex_read (v := ?_) (by rfl) ?_ ?_; rotate_left; (focus (intro w' hS'; go_simp; (try with_reducible rfl); done)); try simp only [Act.put, List.setIfInBounds_toArray, List.set_cons_zero, List.set_cons_succ])))
        refine lex_chain rfl (by rfl) (fun K hK => ?_)
        go_wp2_with fail
        refine (K2.out w3).mono ?_
        rintro e9 w4 ⟨rfl, hb⟩
        have HB4 := hide (bel_trans HB3.out hb)
        refine hK.out _ _ (HCJ.out w4 HB4.out) ?_
        clear hK hb
        generalize formN Rt = f2 at *
        cases f2 with
        | false =>
          have HNO := hide (show rulesN l = false from rules_no2 (i := j + 1) (by rw [HTK.out, HRN.out]; simp))
          (repeat (first | (refine lex_skip (by rfl) ?_; try simp only [Act.put, List.setIfInBounds_toArray, List.set_cons_zero, List.set_cons_succ]) | (refine lex_read (v := ?_) (by rfl) ?_ ?_; rotate_left; (focus (intro w' hS'; go_simp; (try with_reducible rfl); done)); try simp only [Act.put, List.setIfInBounds_toArray, List.set_cons_zero, List.set_cons_succ])))
          refine lex_nil ?_
          go_wp2
          go_ret
          exact bel_bool HNO.out HB4.out
        | true =>
          (repeat (first | (refine lex_skip (by rfl) ?_; try simp only [Act.put, List.setIfInBounds_toArray, List.set_cons_zero, List.set_cons_succ]) | (refine lex_read (v := ?_) (by rfl) ?_ ?_; rotate_left; (focus (intro w' hS'; go_simp; (try with_reducible rfl); done)); try simp only [Act.put, List.setIfInBounds_toArray, List.set_cons_zero, List.set_cons_succ])))
          refine lex_chain rfl (by rfl) (fun K hK => ?_)
          go_wp2_with fail
          refine (K3.out w4).mono ?_
          rintro e9 w5 ⟨rfl, hb⟩
          have HB5 := hide (bel_trans HB4.out hb)
          refine hK.out _ _ (HCJ.out w5 HB5.out) ?_
          clear hK hb
          generalize costN Rc = f3 at *
          cases f3 with
          | false =>
            have HNO := hide (show rulesN l = false from rules_no2 (i := j + 1) (by rw [HTK.out, HRN.out]; simp))
            (repeat (first | (refine lex_skip (by rfl) ?_; try simp only [Act.put, List.setIfInBounds_toArray, List.set_cons_zero, List.set_cons_succ]) | (refine lex_read (v := ?_) (by rfl) ?_ ?_; rotate_left; (focus (intro w' hS'; go_simp; (try with_reducible rfl); done)); try simp only [Act.put, List.setIfInBounds_toArray, List.set_cons_zero, List.set_cons_succ])))
            refine lex_nil ?_
            go_wp2
            go_ret
            exact bel_bool HNO.out HB5.out
          | true =>
            have HT2 := hide (show rulesN (l.take (j + 1)) = decide (∀ k (hk : k < l.length), k < j → keyR ⟨Rk, Rf, Rt, Rc⟩ ≠ keyR l[k]) from by rw [HTK.out, HRN.out, HR.out]; simp)
            clear HTK HRN K1 K2 K3
            (repeat (first | (refine lex_skip (by rfl) ?_; try simp only [Act.put, List.setIfInBounds_toArray, List.set_cons_zero, List.set_cons_succ]) | (refine lex_read (v := ?_) (by rfl) ?_ ?_; rotate_left; (focus (intro w' hS'; go_simp; (try with_reducible rfl); done)); try simp only [Act.put, List.setIfInBounds_toArray, List.set_cons_zero, List.set_cons_succ])))
            refine lex_nil ?_
            go_wp2_with fail
            go_loopw [4] (fun i wr => ∃ k : Nat, k ≤ j ∧ i = .int .i64 k ∧ (∀ q (hq : q < l.length), q < k → keyR ⟨Rk, Rf, Rt, Rc⟩ ≠ keyR l[q]) ∧ Below w.heap.size w wr) (fun i _ => j - (intOf i).toNat)
            case atStart => exact ⟨0, Nat.zero_le _, rfl, fun q _ h => absurd h (Nat.not_lt_zero _), HB5.out⟩
            case round =>
              obtain ⟨k, hk, rfl, hno, hb⟩ := hrel
              have HBE2 := hide hb
              have HNO2 := hide hno
              clear hb hno
              by_cases hkj : k < j
              · have hkl : k < l.length := by have := HLT.out; have := HN.out; omega
                have HKJ := hide hkj
                have HCK := hide (fun W h => HC.out W h k hkl)
                have K5 := hide (fun W => K4.out W k hkl)
                have HST := hide (show keyR ⟨Rk, Rf, Rt, Rc⟩ ≠ keyR l[k] → ∀ q (hq : q < l.length), q < k + 1 → keyR ⟨Rk, Rf, Rt, Rc⟩ ≠ keyR l[q] from fun h q hq hqk => by
                  by_cases e : q = k
                  · subst e; exact h
                  · exact HNO2.out q hq (by omega))
                have HSN := hide (show keyR ⟨Rk, Rf, Rt, Rc⟩ = keyR l[k] → rulesN l = false from fun h => rules_no2 (i := j + 1) (by rw [HT2.out]; exact decide_eq_false (fun g => g k hkl HKJ.out h)))
                have HBD2 := hide (bel_trans HBE2.out ((Below.refl wr.heap.size wr).drew))
                have hkb : (k : Int) < (j : Int) := by omega
                generalize l[k] = Q at *
                obtain ⟨Qk, Qf, Qt, Qc⟩ := Q
                dsimp only at HCK HST HSN
                unfold rcells at K5
                dsimp only at K5
                go_upto_region 9 with (fail)
                have hS0 := And.intro (HCJ.out _ HBD2.out) (HCK.out _ HBD2.out)
                have hjl2 : (j : Int) < (n : Int) := by have := HLT.out; omega
                have hkl2 : (k : Int) < (n : Int) := by omega
                refine wp_region_lex (fun W : World => (W.cell? ⟨b, o + j * 4, none⟩ = some (.int .i64 Rk) ∧ W.cell? ⟨b, o + j * 4 + 1, none⟩ = some (.string (bs Rf)) ∧ W.cell? ⟨b, o + j * 4 + 2, none⟩ = some (.string (bs Rt)) ∧ W.cell? ⟨b, o + j * 4 + 3, none⟩ = some (.int .i64 Rc)) ∧ (W.cell? ⟨b, o + k * 4, none⟩ = some (.int .i64 Qk) ∧ W.cell? ⟨b, o + k * 4 + 1, none⟩ = some (.string (bs Qf)) ∧ W.cell? ⟨b, o + k * 4 + 2, none⟩ = some (.string (bs Qt)) ∧ W.cell? ⟨b, o + k * 4 + 3, none⟩ = some (.int .i64 Qc))) (by kernel_rfl) (by kernel_rfl) hS0 ?_
                clear hS0
                generalize wr.drew = w6 at *
                (repeat (first | (refine lex_skip (by rfl) ?_; try simp only [Act.put, List.setIfInBounds_toArray, List.set_cons_zero, List.set_cons_succ]) | (refine lex_read (v := ?_) (by rfl) ?_ ?_; rotate_left; (focus (intro w' hS'; go_simp; (try with_reducible rfl); done)); try simp only [Act.put, List.setIfInBounds_toArray, List.set_cons_zero, List.set_cons_succ])))
                refine lex_chain rfl (by rfl) (fun K hK => ?_)
                go_wp2_with fail
                refine (K5.out w6).mono ?_
                rintro e9 w7 ⟨rfl, hb⟩
                have HB7 := hide (bel_trans HBD2.out hb)
                refine hK.out _ _ ⟨HCJ.out w7 HB7.out, HCK.out w7 HB7.out⟩ ?_
                clear hK hb K5
                (repeat (first | (refine lex_skip (by rfl) ?_; try simp only [Act.put, List.setIfInBounds_toArray, List.set_cons_zero, List.set_cons_succ]) | (refine lex_read (v := ?_) (by rfl) ?_ ?_; rotate_left; (focus (intro w' hS'; go_simp; (try with_reducible rfl); done)); try simp only [Act.put, List.setIfInBounds_toArray, List.set_cons_zero, List.set_cons_succ])))
                refine lex_nil ?_
                by_cases heq : keyR ⟨Rk, Rf, Rt, Rc⟩ = keyR ⟨Qk, Qf, Qt, Qc⟩
                · have HNO := hide (HSN.out heq)
                  rw [decide_eq_true heq]
                  clear heq
                  go_wp2
                  go_ret
                  exact bel_bool HNO.out HB7.out
                · have HNX := hide (HST.out heq)
                  rw [decide_eq_false heq]
                  clear heq
                  go_wp2
                  go_roundw
                  case rel => exact ⟨k + 1, by have := HKJ.out; omega, by go_num, HNX.out, HB7.out⟩
                  case measure => have := HKJ.out; simp [intOf]; omega
              · have HDONE := hide (show rulesN (l.take (j + 1)) = true from by rw [HT2.out]; exact decide_eq_true (fun q hq hqj => HNO2.out q hq (by omega)))
                obtain rfl : k = j := by omega
                go_wp2_with fail
                go_roundw
                case rel => exact ⟨k + 1, HLT.out, by go_num, HDONE.out, HBE2.out⟩
                case measure => have := HLT.out; simp [intOf]; omega
    · obtain rfl : j = n := by omega
      have HV := hide (show rulesN l = true by have := HR.out; rw [HN.out, List.take_length] at this; exact this)
      go_wp2
      go_ret
      rw [HV.out]
      exact ⟨rfl, HBE.out⟩
end Go.Proofs.YtnppgomhhcbplaaGreatDoor
namespace Go.Proofs.YtnppgomhhcbplaaGreatDoor
open Go.RowKit Go.CH Go.CH.Scr Go.CH.Pot
open Go.ChangeMaps (setBlock)
set_option maxRecDepth 100000
def dropsQ (most : Nat) (l : List Drop) : Bool := decide ((l.map keyD).Nodup) && l.all (dropN most)
theorem dropsQ_iff {most : Nat} {l : List Drop} : dropsQ most l = true ↔ (l.map keyD).Nodup ∧ ∀ R ∈ l, dropN most R = true := by unfold dropsQ; simp
theorem dropsQ_N {most : Nat} {l : List Drop} (h : l.length ≤ 40) : dropsN most l = dropsQ most l := by unfold dropsN dropsQ; rw [decide_eq_true h, Bool.and_true]
theorem drops_take {l : List Drop} {most i : Nat} (h : i < l.length) : dropsQ most (l.take (i + 1)) = (dropsQ most (l.take i) && (dropN most l[i] && decide (∀ k (hk : k < l.length), k < i → keyD l[i] ≠ keyD l[k]))) := by
  rw [Bool.eq_iff_iff]
  simp only [Bool.and_eq_true, dropsQ_iff, decide_eq_true_eq]
  rw [List.take_succ_eq_append_getElem h, List.map_append, List.nodup_append]
  constructor
  · rintro ⟨⟨h1, -, h2⟩, h3⟩
    refine ⟨⟨h1, fun d hR => h3 d (List.mem_append_left _ hR)⟩, h3 _ (List.mem_append_right _ (List.mem_singleton.2 rfl)), fun k hk hki e => ?_⟩
    refine h2 (keyD l[k]) (List.mem_map.2 ⟨l[k], ?_, rfl⟩) (keyD l[i]) (by simp) e.symm
    rw [List.mem_take_iff_getElem]
    exact ⟨k, by omega, rfl⟩
  · rintro ⟨⟨h1, h2⟩, h3, h4⟩
    refine ⟨⟨h1, by simp, fun a ha b hb e => ?_⟩, fun d hR => ?_⟩
    · obtain ⟨R, hR, rfl⟩ := List.mem_map.1 ha
      rw [List.mem_take_iff_getElem] at hR
      obtain ⟨k, hk, rfl⟩ := hR
      simp only [List.map_cons, List.map_nil, List.mem_singleton] at hb
      subst hb
      exact h4 k (by omega) (by omega) e.symm
    · rcases List.mem_append.1 hR with hR | hR
      · exact h2 d hR
      · rw [List.mem_singleton.1 hR]; exact h3
theorem drops_no2 {l : List Drop} {most i : Nat} (h : dropsQ most (l.take i) = false) : dropsQ most l = false := by
  rw [Bool.eq_false_iff] at h ⊢
  intro h2
  refine h (dropsQ_iff.2 ?_)
  obtain ⟨h3, h4⟩ := dropsQ_iff.1 h2
  exact ⟨by rw [List.map_take]; exact h3.sublist (List.take_sublist _ _), fun d hR => h4 d (List.mem_of_mem_take hR)⟩
set_option maxHeartbeats 6400000 in
theorem rdrops_any {w : World} {A : Option Addr} {c most : Nat} {l : List Drop} (hA : DropsR w A l) (hl : l.length ≤ 1000000) (hs : ∀ R ∈ l, R.w.length ≤ 1000000) :
    Calls Tryz.prog 56 #[.slice A l.length c, .int .i64 (most : Int)] w (BelowRet w (.bool (dropsQ most l))) := by
  have HA := hide hA
  have HL := hide hl
  have HS := hide hs
  have HB0 := hide (Below.refl w.heap.size w)
  obtain ⟨n, hn⟩ : ∃ n, n = l.length := ⟨_, rfl⟩
  have HN := hide hn
  rw [← hn]
  clear hA hl hs hn
  go_enter Tryz.func56, Tryz.ntmps56
  go_wp2_with fail
  go_loopw [5] (fun i wr => ∃ j : Nat, j ≤ n ∧ i = .int .i64 j ∧ dropsQ most (l.take j) = true ∧ Below w.heap.size w wr) (fun i _ => n - (intOf i).toNat)
  case atStart => exact ⟨0, Nat.zero_le _, rfl, by rw [List.take_zero]; rfl, HB0.out⟩
  case round =>
    obtain ⟨j, hj, rfl, hr, hb⟩ := hrel
    have HR := hide hr
    have HBE := hide hb
    clear hr hb
    by_cases hlt : j < n
    · have hjl : j < l.length := by rw [← HN.out]; exact hlt
      have HLT := hide hlt
      obtain ⟨b, o, rfl, hc⟩ := Rst.at (R := dcells) (fun _ => rfl) (by omega) HA.out (by omega)
      have HC := hide (fun W (h : Below w.heap.size w W) k (hk : k < l.length) => (show W.cell? ⟨b, o + k * 3, none⟩ = some (.int .i64 l[k].k) ∧ W.cell? ⟨b, o + k * 3 + 1, none⟩ = some (.string (bs l[k].w)) ∧ W.cell? ⟨b, o + k * 3 + 2, none⟩ = some (.int .i64 l[k].c) from ⟨hc W h k hk 0 _ rfl, hc W h k hk 1 _ rfl, hc W h k hk 2 _ rfl⟩))
      have hjb : (j : Int) < 1000000 := by have := HL.out; omega
      have HTK := hide (drops_take (most := most) hjl)
      have HCJ := hide (fun W h => HC.out W h j hjl)
      have hf6 := HS.out _ (List.getElem_mem hjl)
      have K1 := hide (fun W => rfolded_any l[j].k l[j].w most W hf6)
      have K3 := hide (fun W => rcost_any l[j].c W)
      clear hc hf6
      have HRN := hide (show dropN most l[j] = (foldedN l[j].k l[j].w most && costN l[j].c) from rfl)
      generalize l[j] = R at *
      obtain ⟨Rk, Rf, Rc⟩ := R
      dsimp only at HCJ K1 K3 HRN
      go_upto_region 4 with (fail)
      have HBD := hide (bel_trans HBE.out ((Below.refl wr.heap.size wr).drew))
      have hS0 := HCJ.out _ HBD.out
      refine wp_region_lex (fun W : World => W.cell? ⟨b, o + j * 3, none⟩ = some (.int .i64 Rk) ∧ W.cell? ⟨b, o + j * 3 + 1, none⟩ = some (.string (bs Rf)) ∧ W.cell? ⟨b, o + j * 3 + 2, none⟩ = some (.int .i64 Rc)) (by kernel_rfl) (by kernel_rfl) hS0 ?_
      clear hS0
      generalize wr.drew = w2 at *
      (repeat (first | (refine lex_skip (by rfl) ?_; try simp only [Act.put, List.setIfInBounds_toArray, List.set_cons_zero, List.set_cons_succ]) | (refine lex_read (v := ?_) (by rfl) ?_ ?_; rotate_left; (focus (intro w' hS'; go_simp; (try with_reducible rfl); done)); try simp only [Act.put, List.setIfInBounds_toArray, List.set_cons_zero, List.set_cons_succ])))
      refine lex_chain rfl (by rfl) (fun K hK => ?_)
      go_wp2_with fail
      refine (K1.out w2).mono ?_
      rintro e9 w3 ⟨rfl, hb⟩
      have HB3 := hide (bel_trans HBD.out hb)
      refine hK.out _ _ (HCJ.out w3 HB3.out) ?_
      clear hK hb
      generalize foldedN Rk Rf most = f1 at *
      cases f1 with
      | false =>
        have HNO := hide (show dropsQ most l = false from drops_no2 (i := j + 1) (by rw [HTK.out, HRN.out]; simp))
        (repeat (first | (refine lex_skip (by rfl) ?_; try simp only [Act.put, List.setIfInBounds_toArray, List.set_cons_zero, List.set_cons_succ]) | (refine lex_read (v := ?_) (by rfl) ?_ ?_; rotate_left; (focus (intro w' hS'; go_simp; (try with_reducible rfl); done)); try simp only [Act.put, List.setIfInBounds_toArray, List.set_cons_zero, List.set_cons_succ])))
        refine lex_nil ?_
        go_wp2
        go_ret
        exact bel_bool HNO.out HB3.out
      | true =>
        (repeat (first | (refine lex_skip (by rfl) ?_; try simp only [Act.put, List.setIfInBounds_toArray, List.set_cons_zero, List.set_cons_succ]) | (refine lex_read (v := ?_) (by rfl) ?_ ?_; rotate_left; (focus (intro w' hS'; go_simp; (try with_reducible rfl); done)); try simp only [Act.put, List.setIfInBounds_toArray, List.set_cons_zero, List.set_cons_succ])))
        refine lex_chain rfl (by rfl) (fun K hK => ?_)
        go_wp2_with fail
        refine (K3.out w3).mono ?_
        rintro e9 w5 ⟨rfl, hb⟩
        have HB5 := hide (bel_trans HB3.out hb)
        refine hK.out _ _ (HCJ.out w5 HB5.out) ?_
        clear hK hb
        generalize costN Rc = f3 at *
        cases f3 with
        | false =>
          have HNO := hide (show dropsQ most l = false from drops_no2 (i := j + 1) (by rw [HTK.out, HRN.out]; simp))
          (repeat (first | (refine lex_skip (by rfl) ?_; try simp only [Act.put, List.setIfInBounds_toArray, List.set_cons_zero, List.set_cons_succ]) | (refine lex_read (v := ?_) (by rfl) ?_ ?_; rotate_left; (focus (intro w' hS'; go_simp; (try with_reducible rfl); done)); try simp only [Act.put, List.setIfInBounds_toArray, List.set_cons_zero, List.set_cons_succ])))
          refine lex_nil ?_
          go_wp2
          go_ret
          exact bel_bool HNO.out HB5.out
        | true =>
          have HT2 := hide (show dropsQ most (l.take (j + 1)) = decide (∀ k (hk : k < l.length), k < j → keyD ⟨Rk, Rf, Rc⟩ ≠ keyD l[k]) from by rw [HTK.out, HRN.out, HR.out]; simp)
          clear HTK HRN K1 K3
          (repeat (first | (refine lex_skip (by rfl) ?_; try simp only [Act.put, List.setIfInBounds_toArray, List.set_cons_zero, List.set_cons_succ]) | (refine lex_read (v := ?_) (by rfl) ?_ ?_; rotate_left; (focus (intro w' hS'; go_simp; (try with_reducible rfl); done)); try simp only [Act.put, List.setIfInBounds_toArray, List.set_cons_zero, List.set_cons_succ])))
          refine lex_nil ?_
          go_wp2_with fail
          go_loopw [6] (fun i wr => ∃ k : Nat, k ≤ j ∧ i = .int .i64 k ∧ (∀ q (hq : q < l.length), q < k → keyD ⟨Rk, Rf, Rc⟩ ≠ keyD l[q]) ∧ Below w.heap.size w wr) (fun i _ => j - (intOf i).toNat)
          case atStart => exact ⟨0, Nat.zero_le _, rfl, fun q _ h => absurd h (Nat.not_lt_zero _), HB5.out⟩
          case round =>
            obtain ⟨k, hk, rfl, hno, hb⟩ := hrel
            have HBE2 := hide hb
            have HNO2 := hide hno
            clear hb hno
            by_cases hkj : k < j
            · have hkl : k < l.length := by have := HLT.out; have := HN.out; omega
              have HKJ := hide hkj
              have HCK := hide (fun W h => HC.out W h k hkl)
              have HST := hide (show keyD ⟨Rk, Rf, Rc⟩ ≠ keyD l[k] → ∀ q (hq : q < l.length), q < k + 1 → keyD ⟨Rk, Rf, Rc⟩ ≠ keyD l[q] from fun h q hq hqk => by
                by_cases e : q = k
                · subst e; exact h
                · exact HNO2.out q hq (by omega))
              have HSN := hide (show keyD ⟨Rk, Rf, Rc⟩ = keyD l[k] → dropsQ most l = false from fun h => drops_no2 (i := j + 1) (by rw [HT2.out]; exact decide_eq_false (fun g => g k hkl HKJ.out h)))
              have HBD2 := hide (bel_trans HBE2.out ((Below.refl wr.heap.size wr).drew))
              have hkb : (k : Int) < (j : Int) := by omega
              generalize l[k] = Q at *
              obtain ⟨Qk, Qf, Qc⟩ := Q
              dsimp only at HCK HST HSN
              go_upto_region 9 with (fail)
              have hS0 := And.intro (HCJ.out _ HBD2.out) (HCK.out _ HBD2.out)
              have hjl2 : (j : Int) < (n : Int) := by have := HLT.out; omega
              have hkl2 : (k : Int) < (n : Int) := by omega
              by_cases e1 : Rk = Qk
              · have t1 : (Rk == Qk) = true := by simp [e1]
                by_cases e2 : Rf = Qf
                · have t2 : ((bs Rf).toList == (bs Qf).toList) = true := by rw [toList_beq]; simp [e2]
                  have HNO := hide (HSN.out (by unfold keyD; rw [e1, e2]))
                  clear e1 e2
                  refine wp_region_lex (fun W : World => (W.cell? ⟨b, o + j * 3, none⟩ = some (.int .i64 Rk) ∧ W.cell? ⟨b, o + j * 3 + 1, none⟩ = some (.string (bs Rf)) ∧ W.cell? ⟨b, o + j * 3 + 2, none⟩ = some (.int .i64 Rc)) ∧ (W.cell? ⟨b, o + k * 3, none⟩ = some (.int .i64 Qk) ∧ W.cell? ⟨b, o + k * 3 + 1, none⟩ = some (.string (bs Qf)) ∧ W.cell? ⟨b, o + k * 3 + 2, none⟩ = some (.int .i64 Qc))) (by kernel_rfl) (by kernel_rfl) hS0 ?_
                  clear hS0
                  generalize wr.drew = w6 at *
                  (repeat (first | (refine lex_skip (by rfl) ?_; try simp only [Act.put, List.setIfInBounds_toArray, List.set_cons_zero, List.set_cons_succ]) | (refine lex_read (v := ?_) (by rfl) ?_ ?_; rotate_left; (focus (intro w' hS'; go_simp; (try with_reducible rfl); done)); try simp only [Act.put, List.setIfInBounds_toArray, List.set_cons_zero, List.set_cons_succ])))
                  refine lex_nil ?_
                  go_wp2
                  go_ret
                  exact bel_bool HNO.out HBD2.out
                · have t2 : ((bs Rf).toList == (bs Qf).toList) = false := by rw [toList_beq]; simpa using fun h => e2 (bs_inj h)
                  have HNX := hide (HST.out (by unfold keyD; simp only [ne_eq, Prod.mk.injEq]; exact fun h => e2 h.2.1))
                  clear e1 e2
                  refine wp_region_lex (fun W : World => (W.cell? ⟨b, o + j * 3, none⟩ = some (.int .i64 Rk) ∧ W.cell? ⟨b, o + j * 3 + 1, none⟩ = some (.string (bs Rf)) ∧ W.cell? ⟨b, o + j * 3 + 2, none⟩ = some (.int .i64 Rc)) ∧ (W.cell? ⟨b, o + k * 3, none⟩ = some (.int .i64 Qk) ∧ W.cell? ⟨b, o + k * 3 + 1, none⟩ = some (.string (bs Qf)) ∧ W.cell? ⟨b, o + k * 3 + 2, none⟩ = some (.int .i64 Qc))) (by kernel_rfl) (by kernel_rfl) hS0 ?_
                  clear hS0
                  generalize wr.drew = w6 at *
                  (repeat (first | (refine lex_skip (by rfl) ?_; try simp only [Act.put, List.setIfInBounds_toArray, List.set_cons_zero, List.set_cons_succ]) | (refine lex_read (v := ?_) (by rfl) ?_ ?_; rotate_left; (focus (intro w' hS'; go_simp; (try with_reducible rfl); done)); try simp only [Act.put, List.setIfInBounds_toArray, List.set_cons_zero, List.set_cons_succ])))
                  refine lex_nil ?_
                  go_wp2
                  go_roundw
                  case rel => exact ⟨k + 1, by have := HKJ.out; omega, by go_num, HNX.out, HBD2.out⟩
                  case measure => have := HKJ.out; simp [intOf]; omega
              · have t1 : (Rk == Qk) = false := by simp [e1]
                have HNX := hide (HST.out (by unfold keyD; simp only [ne_eq, Prod.mk.injEq]; exact fun h => e1 h.1))
                clear e1
                refine wp_region_lex (fun W : World => (W.cell? ⟨b, o + j * 3, none⟩ = some (.int .i64 Rk) ∧ W.cell? ⟨b, o + j * 3 + 1, none⟩ = some (.string (bs Rf)) ∧ W.cell? ⟨b, o + j * 3 + 2, none⟩ = some (.int .i64 Rc)) ∧ (W.cell? ⟨b, o + k * 3, none⟩ = some (.int .i64 Qk) ∧ W.cell? ⟨b, o + k * 3 + 1, none⟩ = some (.string (bs Qf)) ∧ W.cell? ⟨b, o + k * 3 + 2, none⟩ = some (.int .i64 Qc))) (by kernel_rfl) (by kernel_rfl) hS0 ?_
                clear hS0
                generalize wr.drew = w6 at *
                (repeat (first | (refine lex_skip (by rfl) ?_; try simp only [Act.put, List.setIfInBounds_toArray, List.set_cons_zero, List.set_cons_succ]) | (refine lex_read (v := ?_) (by rfl) ?_ ?_; rotate_left; (focus (intro w' hS'; go_simp; (try with_reducible rfl); done)); try simp only [Act.put, List.setIfInBounds_toArray, List.set_cons_zero, List.set_cons_succ])))
                refine lex_nil ?_
                go_wp2
                go_roundw
                case rel => exact ⟨k + 1, by have := HKJ.out; omega, by go_num, HNX.out, HBD2.out⟩
                case measure => have := HKJ.out; simp [intOf]; omega
            · have HDONE := hide (show dropsQ most (l.take (j + 1)) = true from by rw [HT2.out]; exact decide_eq_true (fun q hq hqj => HNO2.out q hq (by omega)))
              obtain rfl : k = j := by omega
              go_wp2_with fail
              go_roundw
              case rel => exact ⟨k + 1, HLT.out, by go_num, HDONE.out, HBE2.out⟩
              case measure => have := HLT.out; simp [intOf]; omega
    · obtain rfl : j = n := by omega
      have HV := hide (show dropsQ most l = true by have := HR.out; rw [HN.out, List.take_length] at this; exact this)
      go_wp2
      go_ret
      rw [HV.out]
      exact ⟨rfl, HBE.out⟩
end Go.Proofs.YtnppgomhhcbplaaGreatDoor
namespace Go.Proofs.YtnppgomhhcbplaaGreatDoor
open Go.RowKit Go.CH Go.CH.Scr Go.CH.Pot
open Go.ChangeMaps (setBlock)
set_option maxRecDepth 100000
theorem valid_eq {T : Tab} : validT T = ((decide (1 ≤ T.rs.length) && (decide (T.rs.length ≤ 80) && (decide (T.ds.length ≤ 40) && decide (T.es.length ≤ 40)))) && (costN T.drop && (costN T.ord && (costN T.ini && (rulesN T.rs && (dropsQ 12 T.ds && dropsQ 4 T.es)))))) := by
  unfold validT dropsN dropsQ
  have e : decide (T.rs ≠ []) = decide (1 ≤ T.rs.length) := by
    refine decide_eq_decide.2 ?_
    cases T.rs with
    | nil => simp
    | cons a l => simp
  rw [e]
  generalize decide (1 ≤ T.rs.length) = a1
  generalize decide (T.rs.length ≤ 80) = a2
  generalize decide (T.ds.length ≤ 40) = a3
  generalize decide (T.es.length ≤ 40) = a4
  generalize costN T.drop = a5
  generalize costN T.ord = a6
  generalize costN T.ini = a7
  generalize rulesN T.rs = a8
  generalize decide ((List.map keyD T.ds).Nodup) = a9
  generalize T.ds.all (dropN 12) = a10
  generalize decide ((List.map keyD T.es).Nodup) = a11
  generalize T.es.all (dropN 4) = a12
  cases a1 <;> cases a2 <;> cases a3 <;> cases a4 <;> simp <;> cases a5 <;> cases a6 <;> cases a7 <;> cases a8 <;> simp <;> cases a9 <;> cases a10 <;> simp
set_option maxHeartbeats 6400000 in
theorem rvalid_any {w : World} {T : Tab} {a : TA} (hT : TabR w T a) : Calls Tryz.prog 30 #[tabV T a] w (BelowRet w (.bool (validT T))) := by
  have HT := hide hT
  have h1 : Run (fun _ => False) w (star (CellO w.heap.size (tabC T a) 25) emp) _ := run_new (Run.begin w) emp_ok _ 25
  have HB := hide (h1.mod.below (fun _ _ h => h))
  have HTC := hide (fun W (h : Below (w.alloc (.cells (tabC T a) 25)).heap.size (w.alloc (.cells (tabC T a) 25)) W) => (show W.cell? ⟨w.heap.size, 0, none⟩ = some (.slice a.A T.rs.length a.c) ∧ W.cell? ⟨w.heap.size, 1, none⟩ = some (.slice a.D T.ds.length a.d) ∧ W.cell? ⟨w.heap.size, 2, none⟩ = some (.slice a.E T.es.length a.e) ∧ W.cell? ⟨w.heap.size, 3, none⟩ = some (.int .i64 T.drop) ∧ W.cell? ⟨w.heap.size, 4, none⟩ = some (.int .i64 T.ord) ∧ W.cell? ⟨w.heap.size, 5, none⟩ = some (.int .i64 T.ini) from by
    obtain ⟨f, hf⟩ := (h1.below (star_ok cell_ok emp_ok) h).fst
    exact ⟨cell_at hf rfl, cell_at hf rfl, cell_at hf rfl, cell_at hf rfl, cell_at hf rfl, cell_at hf rfl⟩))
  clear hT h1
  have KR := hide (fun W (h : Below w.heap.size w W) => rrules_any (c := a.c) (HT.out.rs.below h) (by have := HT.out.lr; omega) (fun R hR => ⟨by have := HT.out.sr R hR; omega, by have := HT.out.sr R hR; omega⟩))
  have KD := hide (fun W (h : Below w.heap.size w W) => rdrops_any (most := 12) (c := a.d) (HT.out.ds.below h) (by have := HT.out.ld; omega) (fun d hd => by have := HT.out.sd d hd; omega))
  have KE := hide (fun W (h : Below w.heap.size w W) => rdrops_any (most := 4) (c := a.e) (HT.out.es.below h) (by have := HT.out.le; omega) (fun d hd => by have := HT.out.se d hd; omega))
  have KC := hide (fun W n => rcost_any n W)
  have HV := hide (valid_eq (T := T))
  clear HT
  unfold tabV
  unfold tabC at HB HTC ⊢
  generalize T.rs.length = n1 at *
  generalize T.ds.length = n2 at *
  generalize T.es.length = n3 at *
  generalize validT T = vT at *
  have HBR := hide (Below.refl (w.alloc (.cells #[.slice a.A n1 a.c, .slice a.D n2 a.d, .slice a.E n3 a.e, .int .i64 T.drop, .int .i64 T.ord, .int .i64 T.ini] 25)).heap.size (w.alloc (.cells #[.slice a.A n1 a.c, .slice a.D n2 a.d, .slice a.E n3 a.e, .int .i64 T.drop, .int .i64 T.ord, .int .i64 T.ini] 25)))
  go_enter Tryz.func30, Tryz.ntmps30
  go_upto_region 1 with (fail)
  generalize w.alloc (.cells #[.slice a.A n1 a.c, .slice a.D n2 a.d, .slice a.E n3 a.e, .int .i64 T.drop, .int .i64 T.ord, .int .i64 T.ini] 25) = wb at *
  have HBW := hide (fun W (h : Below wb.heap.size wb W) => HB.out.trans (h.mono HB.out.size))
  obtain ⟨t0, t1, t2, t3, t4, t5⟩ := HTC.out _ HBR.out
  by_cases h0 : n1 < 1
  · have HNO := hide (show vT = false by rw [HV.out]; rw [decide_eq_false (by omega : ¬ 1 ≤ n1)]; simp)
    have u0 : decide ((n1 : Int) < 1) = true := decide_eq_true (by omega)
    clear h0
    go_wp2
    go_ret
    exact bel_bool HNO.out HB.out
  · have u0 : decide ((n1 : Int) < 1) = false := decide_eq_false (by omega)
    by_cases h1 : 80 < n1
    · have HNO := hide (show vT = false by rw [HV.out]; rw [decide_eq_false (by omega : ¬ n1 ≤ 80)]; simp)
      have u1 : decide ((80 : Int) < (n1 : Int)) = true := decide_eq_true (by omega)
      clear h1
      go_wp2
      go_ret
      exact bel_bool HNO.out HB.out
    · have u1 : decide ((80 : Int) < (n1 : Int)) = false := decide_eq_false (by omega)
      by_cases h2 : 40 < n2
      · have HNO := hide (show vT = false by rw [HV.out]; rw [decide_eq_false (by omega : ¬ n2 ≤ 40)]; simp)
        have u2 : decide ((40 : Int) < (n2 : Int)) = true := decide_eq_true (by omega)
        clear h2
        go_wp2
        go_ret
        exact bel_bool HNO.out HB.out
      · have u2 : decide ((40 : Int) < (n2 : Int)) = false := decide_eq_false (by omega)
        by_cases h3 : 40 < n3
        · have HNO := hide (show vT = false by rw [HV.out]; rw [decide_eq_false (by omega : ¬ n3 ≤ 40)]; simp)
          have u3 : decide ((40 : Int) < (n3 : Int)) = true := decide_eq_true (by omega)
          clear h3
          go_wp2
          go_ret
          exact bel_bool HNO.out HB.out
        · have u3 : decide ((40 : Int) < (n3 : Int)) = false := decide_eq_false (by omega)
          have HV2 := hide (show vT = (costN T.drop && (costN T.ord && (costN T.ini && (rulesN T.rs && (dropsQ 12 T.ds && dropsQ 4 T.es))))) by rw [HV.out, decide_eq_true (by omega : 1 ≤ n1), decide_eq_true (by omega : n1 ≤ 80), decide_eq_true (by omega : n2 ≤ 40), decide_eq_true (by omega : n3 ≤ 40)]; rfl)
          clear HV h0 h1 h2 h3
          have K := hide (KC.out wb T.drop)
          go_wp2_with fail
          refine K.out.mono ?_
          rintro e9 w2 ⟨rfl, hb⟩
          have HB2 := hide (bel_trans HBR.out hb)
          clear K hb t0 t1 t2 t3 t4 t5
          obtain ⟨t0, t1, t2, t3, t4, t5⟩ := HTC.out _ HB2.out
          dsimp only
          generalize costN T.drop = c0 at *
          cases c0 with
          | false =>
            have HNO := hide (show vT = false by rw [HV2.out]; simp)
            go_wp2
            go_ret
            exact bel_bool HNO.out (HBW.out _ HB2.out)
          | true =>
            have K := hide (KC.out w2 T.ord)
            go_wp2_with fail
            refine K.out.mono ?_
            rintro e9 w3 ⟨rfl, hb⟩
            have HB3 := hide (bel_trans HB2.out hb)
            clear K hb t0 t1 t2 t3 t4 t5
            obtain ⟨t0, t1, t2, t3, t4, t5⟩ := HTC.out _ HB3.out
            dsimp only
            generalize costN T.ord = c1 at *
            cases c1 with
            | false =>
              have HNO := hide (show vT = false by rw [HV2.out]; simp)
              go_wp2
              go_ret
              exact bel_bool HNO.out (HBW.out _ HB3.out)
            | true =>
              have K := hide (KC.out w3 T.ini)
              go_wp2_with fail
              refine K.out.mono ?_
              rintro e9 w4 ⟨rfl, hb⟩
              have HB4 := hide (bel_trans HB3.out hb)
              clear K hb t0 t1 t2 t3 t4 t5
              obtain ⟨t0, t1, t2, t3, t4, t5⟩ := HTC.out _ HB4.out
              dsimp only
              generalize costN T.ini = c2 at *
              cases c2 with
              | false =>
                have HNO := hide (show vT = false by rw [HV2.out]; simp)
                go_wp2
                go_ret
                exact bel_bool HNO.out (HBW.out _ HB4.out)
              | true =>
                have K := hide (KR.out w4 (HBW.out _ HB4.out))
                go_wp2_with fail
                refine K.out.mono ?_
                rintro e9 w5 ⟨rfl, hb⟩
                have HB5 := hide (bel_trans HB4.out hb)
                clear K hb t0 t1 t2 t3 t4 t5
                obtain ⟨t0, t1, t2, t3, t4, t5⟩ := HTC.out _ HB5.out
                dsimp only
                generalize rulesN T.rs = c3 at *
                cases c3 with
                | false =>
                  have HNO := hide (show vT = false by rw [HV2.out]; simp)
                  go_wp2
                  go_ret
                  exact bel_bool HNO.out (HBW.out _ HB5.out)
                | true =>
                  have K := hide (KD.out w5 (HBW.out _ HB5.out))
                  go_wp2_with fail
                  refine K.out.mono ?_
                  rintro e9 w6 ⟨rfl, hb⟩
                  have HB6 := hide (bel_trans HB5.out hb)
                  clear K hb t0 t1 t2 t3 t4 t5
                  obtain ⟨t0, t1, t2, t3, t4, t5⟩ := HTC.out _ HB6.out
                  dsimp only
                  generalize dropsQ 12 T.ds = c4 at *
                  cases c4 with
                  | false =>
                    have HNO := hide (show vT = false by rw [HV2.out]; simp)
                    go_wp2
                    go_ret
                    exact bel_bool HNO.out (HBW.out _ HB6.out)
                  | true =>
                    have K := hide (KE.out w6 (HBW.out _ HB6.out))
                    go_wp2_with fail
                    refine K.out.mono ?_
                    rintro e9 w7 ⟨rfl, hb⟩
                    have HB7 := hide (bel_trans HB6.out hb)
                    clear K hb t0 t1 t2 t3 t4 t5
                    obtain ⟨t0, t1, t2, t3, t4, t5⟩ := HTC.out _ HB7.out
                    dsimp only
                    generalize dropsQ 4 T.es = c5 at *
                    have HNO := hide (show vT = c5 by rw [HV2.out]; simp)
                    go_wp2
                    go_ret
                    exact bel_bool HNO.out (HBW.out _ HB7.out)
end Go.Proofs.YtnppgomhhcbplaaGreatDoor
