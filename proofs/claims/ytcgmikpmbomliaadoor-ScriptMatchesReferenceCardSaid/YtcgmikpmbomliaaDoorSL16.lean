/-
  Script: the law of joined words
  Script: agreement with the reference
  Script: what a row's condition says of the library's tables; names that came in, opened.
-/
import Derived.Test.YtcgmikpmbomliaaDoorSL15
import Derived.Test.YtcgmikpmbomliaaDoorSL13
import Derived.Test.YtcgmikpmbomliaaDoorSL14
import Derived.Test.YtcgmikpmbomliaaDoorRows
import Derived.Test.YtcgmikpmbomliaaDoorSL6
import Derived.PinnedBridge
import Derived.Lib.LaidCase
import Derived.Lib.LaidU8
import Derived.HandedShaped
import Derived.LaidMore
import Derived.Lay
import Derived.SevenTiedAt
import Derived.Stop.Joined
import Derived.WalkKit
import Derived.ProofKit
import Derived.OpenShut
import Derived.ShutString
set_option linter.unusedSimpArgs false
set_option linter.unusedVariables false
namespace Go.Proofs.YtcgmikpmbomliaaDoor
open Go.RowKit Go.CH Go.CH.Scr
open Go.ChangeMaps (setBlock)
theorem wpList_want {P : Program} {ops : Array Oper} {rest : List Oper} {o : Oper} {a : Act} {w : World} {Q : Exit → Act → World → Prop} (hw : Region.wanted o (yielded ops a.tmps) = true)
    (h : ∀ K : Act → World → Prop, (∀ a w, wpList P ops Q rest a w → K a w) → o.wp P a w K Q) : wpList P ops Q (o :: rest) a w :=
  wpList_step fun K hK => by rw [if_pos hw]; exact h K hK
/-- append(l, r...), l owned. -/
theorem app_lst {F0 : Nat → Prop} {w0 W : World} {Y : CH.Own} {ops : Array Oper} {rest : List Oper} {o : Oper} {a : Act} {Q : Exit → Act → World → Prop} (hgd : Region.wanted o (yielded ops a.tmps) = true) (s x : Operand)
    (ho : o.op = .call { callee := .builtin .append, args := #[s, x], argTypes := #[22, 22] }) {A B : Option Addr} {c d n m : Nat} {l r : List Bs} (hl : l.length = n) (hr : r.length = m) (hsv : a.eval s = .slice A n c) (hx : a.eval x = .slice B m d) (hB : Vst W B r) (hn : n + m ≤ 1000000) (hY : Y.Ok)
    (h : Run F0 w0 (star (StrO A c l) Y) W)
    (hK : ∀ A' c' w', Run F0 w0 (star (StrO A' c' (l ++ r)) Y) w' → wpList Tryd.prog ops Q rest (a.put o.dst (.slice A' (n + m) c')) w') : wpList Tryd.prog ops Q (o :: rest) a W := by
  subst hl hr
  obtain ⟨F7, hR7, -, bk7⟩ := h.take str_ok hY
  refine wpList_want hgd fun K hKK => wp_appX s x ho strsOk _ 0 (v := .slice A l.length c) (n := l.length) (xs := strB l) hsv hR7.1 (A := B) (m := r.length) (c := d) (news := strB r) hx hB (by unfold maxLen; omega) (by omega) (Nat.zero_le _) ?_
  intro v8 w8 ho8 hg8 hv8
  have S8 := bk7 _ _ (row_app hR7 ho8 hg8 hv8)
  obtain ⟨A8, c8, rfl⟩ := own_form ho8
  refine hKK _ _ (hK A8 c8 w8 ?_)
  unfold StrO
  rw [List.length_append]
  have e : strB (l ++ r) = strB l ++ strB r := by simp [strB]
  rw [e]
  exact S8
theorem bl_app (a b : ByteArray) : bl (a ++ b) = bl a ++ bl b := by
  show (a ++ b).data.toList = _
  rw [ByteArray.data_append, Array.toList_append]
theorem last_at {l : List Bs} {j : Nat} (h : j < l.length) (hj : j = l.length - 1) : l.getLast? = some l[j] := by
  subst hj
  rw [List.getLast?_eq_getElem?, List.getElem?_eq_getElem h]
set_option maxRecDepth 100000 in
set_option maxHeartbeats 12800000 in
theorem law_joins (k : Int) (a b : ByteArray) (w : World) (hz : LZ w) : Calls Tryd.prog 5 #[.int .i64 k, .string a, .string b] w (BelowRet w (.bool true)) := by
  have HZ := hide hz
  have KH := hide (head_any w hz)
  have KS := hide (fun (W : World) => sho_ex (W := W) (l := [bl a, bl b]) (cs := #[.string a, .string b]) (n := 2) (by simp [strB, bs_bl]) rfl (by omega) rfl)
  clear hz
  cases hf : fewB 200 [bl a, bl b] with
  | false =>
    rw [hf] at KS
    clear hf
    go_enter Tryd.func5, Tryd.ntmps5
    go_wp2_with fail
    refine (KH.out).mono ?_
    rintro e9 w1 ⟨rfl, hb⟩
    have S1 := hide (hb)
    clear KH
    clear hb
    go_wp2_with fail
    refine (KS.out w1).mono ?_
    rintro e9 w2 ⟨rfl, hb⟩
    have S2 := hide (bel_trans (bel_new _ (Below.refl _ _)) hb)
    clear KS
    clear hb
    go_wp2
    go_ret
    exact ⟨rfl, (bel_trans S1.out S2.out)⟩
  | true =>
    obtain ⟨hs, hs2⟩ := few_two hf
    rw [hf] at KS
    clear hf
    have hsa : a.size ≤ 1000000 := by omega
    have hsb : b.size ≤ 1000000 := by omega
    cases ha : word k (bl a) with
    | false =>
      have KX := hide (fun W hz => ltr_ex k a (ltrs_no ha) (n := 0) rfl hsa W hz)
      have KY := hide (fun W hz => ltr_ex k b (r := (lettersN k (bl b)).1) (x := (lettersN k (bl b)).2) rfl rfl hsb W hz)
      clear ha
      generalize (lettersN k (bl b)).1 = l2 at *
      generalize (lettersN k (bl b)).2 = x2 at *
      go_enter Tryd.func5, Tryd.ntmps5
      go_wp2_with fail
      refine (KH.out).mono ?_
      rintro e9 w1 ⟨rfl, hb⟩
      have S1 := hide (hb)
      clear KH
      clear hb
      go_wp2_with fail
      refine (KS.out w1).mono ?_
      rintro e9 w2 ⟨rfl, hb⟩
      have S2 := hide (bel_trans (bel_new _ (Below.refl _ _)) hb)
      clear KS
      clear hb
      go_wp2_with fail
      refine (KX.out w2 (HZ.out.below (bel_trans S1.out S2.out))).mono ?_
      rintro e9 w3 ⟨AX, cX, rfl, hb, hv⟩
      have S3 := hide (hb)
      have VX := hide hv
      clear KX hv
      clear hb
      go_wp2_with fail
      refine (KY.out w3 (HZ.out.below (bel_trans (bel_trans S1.out S2.out) S3.out))).mono ?_
      rintro e9 w4 ⟨AY, cY, rfl, hb, hv⟩
      have S4 := hide (hb)
      have VY := hide hv
      clear KY hv
      clear hb
      go_wp2
      go_ret
      exact ⟨rfl, (bel_trans (bel_trans (bel_trans S1.out S2.out) S3.out) S4.out)⟩
    | true =>
    cases hb : word k (bl b) with
    | false =>
      have KX := hide (fun W hz => ltr_ex k a (ltrs_N ha) rfl hsa W hz)
      have KY := hide (fun W hz => ltr_ex k b (ltrs_no hb) (n := 0) rfl hsb W hz)
      clear ha hb
      generalize (ltrs k (bl a)).1 = l2 at *
      go_enter Tryd.func5, Tryd.ntmps5
      go_wp2_with fail
      refine (KH.out).mono ?_
      rintro e9 w1 ⟨rfl, hb⟩
      have S1 := hide (hb)
      clear KH
      clear hb
      go_wp2_with fail
      refine (KS.out w1).mono ?_
      rintro e9 w2 ⟨rfl, hb⟩
      have S2 := hide (bel_trans (bel_new _ (Below.refl _ _)) hb)
      clear KS
      clear hb
      go_wp2_with fail
      refine (KX.out w2 (HZ.out.below (bel_trans S1.out S2.out))).mono ?_
      rintro e9 w3 ⟨AX, cX, rfl, hb, hv⟩
      have S3 := hide (hb)
      have VX := hide hv
      clear KX hv
      clear hb
      go_wp2_with fail
      refine (KY.out w3 (HZ.out.below (bel_trans (bel_trans S1.out S2.out) S3.out))).mono ?_
      rintro e9 w4 ⟨AY, cY, rfl, hb, hv⟩
      have S4 := hide (hb)
      have VY := hide hv
      clear KY hv
      clear hb
      go_wp2
      go_ret
      exact ⟨rfl, (bel_trans (bel_trans (bel_trans S1.out S2.out) S3.out) S4.out)⟩
    | true =>
      have ha1 := word_iff.1 ha
      have hb1 := word_iff.1 hb
      have KX := hide (fun W hz => ltr_ex k a (ltrs_N ha) rfl hsa W hz)
      have KY := hide (fun W hz => ltr_ex k b (ltrs_N hb) rfl hsb W hz)
      have KV := hide (fun W => vowel_any b W (by unfold maxLen; omega))
      have hsum : ¬ 9223372036854775807 < a.size + b.size := by omega
      have hsab : (a ++ b).size ≤ 1000000 := by rw [ByteArray.size_append]; omega
      have hnp : 1 ≤ (ltrs k (bl a)).1.length := ha1.2.1
      have hmp : 1 ≤ (ltrs k (bl b)).1.length := hb1.2.1
      have hn12 : (ltrs k (bl a)).1.length ≤ 12 := ha1.2.2
      have hm12 : (ltrs k (bl b)).1.length ≤ 12 := hb1.2.2
      have HJ := hide (fun hn => join_law (k := k) (a := bl a) (b := bl b) ha hb hn)
      have HEN := hide (show endsN k (bl a) (bl b) ↔ (k = 4 ∧ (ltrs k (bl a)).1.getLast? = some [110] ∧ has vowS (bl b)[0]? = true) by unfold endsN; rw [List.head?_eq_getElem?])
      have HBA := hide (bl_app a b)
      clear ha hb ha1 hb1
      generalize hxs : (ltrs k (bl a)).1 = xs at *
      generalize hys : (ltrs k (bl b)).1 = ys at *
      clear hxs hys
      obtain ⟨n, hn⟩ : ∃ n, n = xs.length := ⟨_, rfl⟩
      obtain ⟨m, hm⟩ : ∃ m, m = ys.length := ⟨_, rfl⟩
      have HN := hide hn
      have HM := hide hm
      rw [← hn] at hnp hn12 KX
      rw [← hm] at hmp hm12 KY
      clear hn hm
      have i1 : ¬ (n : Int) < 1 := by omega
      have i2 : ¬ (m : Int) < 1 := by omega
      go_enter Tryd.func5, Tryd.ntmps5
      go_wp2_with fail
      refine (KH.out).mono ?_
      rintro e9 w1 ⟨rfl, hb⟩
      have S1 := hide (hb)
      clear KH
      clear hb
      go_wp2_with fail
      refine (KS.out w1).mono ?_
      rintro e9 w2 ⟨rfl, hb⟩
      have S2 := hide (bel_trans (bel_new _ (Below.refl _ _)) hb)
      clear KS
      clear hb
      go_wp2_with fail
      refine (KX.out w2 (HZ.out.below (bel_trans S1.out S2.out))).mono ?_
      rintro e9 w3 ⟨AX, cX, rfl, hb, hv⟩
      have S3 := hide (hb)
      have VX := hide hv
      clear KX hv
      clear hb
      go_wp2_with fail
      refine (KY.out w3 (HZ.out.below (bel_trans (bel_trans S1.out S2.out) S3.out))).mono ?_
      rintro e9 w4 ⟨AY, cY, rfl, hb, hv⟩
      have S4 := hide (hb)
      have VY := hide hv
      clear KY hv
      clear hb
      by_cases h4 : k = 4
      · have t4 : (k == 4) = true := by simpa using h4
        have hx1 : n - 1 < xs.length := by rw [← HN.out]; omega
        obtain ⟨b0, o0, rfl, hc⟩ := (VX.out.below S4.out).at (by omega)
        have ck := hc _ (Below.refl _ _) (n - 1) hx1
        have VX := hide (VX.out)
        have HLA2 := hide (last_at hx1 (by rw [← HN.out]))
        clear hc
        obtain ⟨x, hx⟩ : ∃ x, x = xs[n - 1] := ⟨_, rfl⟩
        rw [← hx] at ck HLA2
        clear hx hx1
        have e1 : ((n : Int) - 1) = ((n - 1 : Nat) : Int) := by omega
        have E1 := hide e1
        clear e1
        obtain ⟨y, hy⟩ : ∃ y, y = bs x := ⟨_, rfl⟩
        have hxy : x = [110] ↔ y = ⟨#[110]⟩ := by rw [hy]; exact ⟨fun h => by rw [h]; rfl, fun h => bs_inj h⟩
        rw [← hy] at ck
        have HXY := hide hxy
        clear hy hxy
        by_cases hn : y = ⟨#[110]⟩
        · cases hv : has vowS (bl b)[0]? with
          | true =>
            rw [hv] at KV
            subst hn
            clear hv h4
            go_wp2_with fail
            refine (KV.out w4).mono ?_
            rintro e9 w9 ⟨rfl, rfl⟩
            clear KV
            go_wp2
            go_ret
            exact ⟨rfl, (bel_trans (bel_trans (bel_trans S1.out S2.out) S3.out) S4.out)⟩
          | false =>
            rw [hv] at KV
            have HNE := hide (show ¬ endsN k (bl a) (bl b) from fun h => by rw [(HEN.out.1 h).2.2] at hv; cases hv)
            subst hn
            clear hv h4
            go_wp2_with fail
            refine (KV.out w4).mono ?_
            rintro e9 w9 ⟨rfl, rfl⟩
            clear KV
            have hj := HJ.out HNE.out
            rw [← HBA.out, ← HN.out, ← HM.out] at hj
            clear HEN HJ
            by_cases h12 : n + m ≤ 12
            · have i3 : ¬ (12 : Int) < (n : Int) + (m : Int) := by omega
              have KZ := hide (fun W hz => ltr_ex k (a ++ b) (r := xs ++ ys) (x := 0) (n := n + m) (by rw [ltrs_N (by rw [hj.1, decide_eq_true h12]), hj.2]) (by rw [List.length_append, HN.out, HM.out]) hsab W hz)
              clear hj h12
              go_wp2_with fail
              refine (KZ.out w4 (HZ.out.below (bel_trans (bel_trans (bel_trans S1.out S2.out) S3.out) S4.out))).mono ?_
              rintro e9 w5 ⟨AZ, cZ, rfl, hb, hv⟩
              have S5 := hide (hb)
              have VZ := hide hv
              clear KZ hv
              clear hb
              have R0 := hide ((Run.begin w5).fresh emp_ok (show Post w5 (fun _ => False) (StrO (some ⟨w5.heap.size, 0, none⟩) 0 []) _ from row_made w5 9 1))
              go_wp2_with (at_builtin; refine held ?_)
              refine Held.mk (app_lst (by rfl) (.tmp 90) (.tmp 91) rfl (n := 0) (m := n) rfl HN.out.symm rfl rfl ((VX.out.below (bel_trans S4.out S5.out)).below R0.out.bel) (by omega) emp_ok R0.out ?_)
              intro A7 c7 w7 h7
              rw [List.nil_append] at h7
              have R7 := hide h7
              clear h7 R0
              try rw [Nat.zero_add]
              go_wp2_with (at_builtin; refine held ?_)
              refine Held.mk (app_lst (by rfl) (.tmp 92) (.tmp 93) rfl (n := n) (m := m) HN.out.symm HM.out.symm rfl rfl ((VY.out.below S5.out).below R7.out.bel) (by omega) emp_ok R7.out ?_)
              intro A8 c8 w8 h8
              obtain ⟨F8, hF8⟩ := h8.fst
              have V8 := hide (vst_of hF8)
              have B8 := hide h8.bel
              clear h8 hF8 R7
              have KT := hide (tex_any (c := cZ) (d := c8) (VZ.out.below B8.out) V8.out (by rw [List.length_append, ← HN.out, ← HM.out]; omega) rfl rfl)
              rw [List.length_append, ← HN.out, ← HM.out] at KT
              go_wp2_with fail
              refine KT.out.mono ?_
              rintro e9 w9 ⟨rfl, hb⟩
              have B9 := hide (bel_trans B8.out hb)
              clear KT hb
              go_wp2
              go_ret
              exact ⟨rfl, bel_trans (bel_trans (bel_trans (bel_trans (bel_trans S1.out S2.out) S3.out) S4.out) S5.out) B9.out⟩
            · have i3 : (12 : Int) < (n : Int) + (m : Int) := by omega
              have KZ := hide (fun W hz => ltr_ex k (a ++ b) (r := []) (x := 1) (n := 0) (ltrs_no (by rw [hj.1, decide_eq_false h12])) rfl hsab W hz)
              clear hj h12
              go_wp2_with fail
              refine (KZ.out w4 (HZ.out.below (bel_trans (bel_trans (bel_trans S1.out S2.out) S3.out) S4.out))).mono ?_
              rintro e9 w5 ⟨AZ, cZ, rfl, hb, hv⟩
              have S5 := hide (hb)
              clear KZ hv
              clear hb
              go_wp2
              go_ret
              exact ⟨rfl, (bel_trans (bel_trans (bel_trans (bel_trans S1.out S2.out) S3.out) S4.out) S5.out)⟩
        · have HNE := hide (show ¬ endsN k (bl a) (bl b) from fun h => by
            have h2 := (HEN.out.1 h).2.1
            rw [HLA2.out] at h2
            injection h2 with h2
            exact hn (HXY.out.1 h2))
          have t1 : (y == ⟨#[110]⟩) = false := by rw [bytes_dec]; simpa using hn
          have t3 : (y.toList == (⟨#[110]⟩ : ByteArray).toList) = false := by rw [toList_beq]; simpa using hn
          have t4 : ¬ y.toList = [110] := by
            rw [show (⟨#[110]⟩ : ByteArray).toList = [110] from by decide +kernel] at t3
            simpa using t3
          clear hn h4 t1 t3
          have hj := HJ.out HNE.out
          rw [← HBA.out, ← HN.out, ← HM.out] at hj
          clear HEN HJ
          by_cases h12 : n + m ≤ 12
          · have i3 : ¬ (12 : Int) < (n : Int) + (m : Int) := by omega
            have KZ := hide (fun W hz => ltr_ex k (a ++ b) (r := xs ++ ys) (x := 0) (n := n + m) (by rw [ltrs_N (by rw [hj.1, decide_eq_true h12]), hj.2]) (by rw [List.length_append, HN.out, HM.out]) hsab W hz)
            clear hj h12
            go_wp2_with fail
            refine (KZ.out w4 (HZ.out.below (bel_trans (bel_trans (bel_trans S1.out S2.out) S3.out) S4.out))).mono ?_
            rintro e9 w5 ⟨AZ, cZ, rfl, hb, hv⟩
            have S5 := hide (hb)
            have VZ := hide hv
            clear KZ hv
            clear hb
            have R0 := hide ((Run.begin w5).fresh emp_ok (show Post w5 (fun _ => False) (StrO (some ⟨w5.heap.size, 0, none⟩) 0 []) _ from row_made w5 9 1))
            go_wp2_with (at_builtin; refine held ?_)
            refine Held.mk (app_lst (by rfl) (.tmp 90) (.tmp 91) rfl (n := 0) (m := n) rfl HN.out.symm rfl rfl ((VX.out.below (bel_trans S4.out S5.out)).below R0.out.bel) (by omega) emp_ok R0.out ?_)
            intro A7 c7 w7 h7
            rw [List.nil_append] at h7
            have R7 := hide h7
            clear h7 R0
            try rw [Nat.zero_add]
            go_wp2_with (at_builtin; refine held ?_)
            refine Held.mk (app_lst (by rfl) (.tmp 92) (.tmp 93) rfl (n := n) (m := m) HN.out.symm HM.out.symm rfl rfl ((VY.out.below S5.out).below R7.out.bel) (by omega) emp_ok R7.out ?_)
            intro A8 c8 w8 h8
            obtain ⟨F8, hF8⟩ := h8.fst
            have V8 := hide (vst_of hF8)
            have B8 := hide h8.bel
            clear h8 hF8 R7
            have KT := hide (tex_any (c := cZ) (d := c8) (VZ.out.below B8.out) V8.out (by rw [List.length_append, ← HN.out, ← HM.out]; omega) rfl rfl)
            rw [List.length_append, ← HN.out, ← HM.out] at KT
            go_wp2_with fail
            refine KT.out.mono ?_
            rintro e9 w9 ⟨rfl, hb⟩
            have B9 := hide (bel_trans B8.out hb)
            clear KT hb
            go_wp2
            go_ret
            exact ⟨rfl, bel_trans (bel_trans (bel_trans (bel_trans (bel_trans S1.out S2.out) S3.out) S4.out) S5.out) B9.out⟩
          · have i3 : (12 : Int) < (n : Int) + (m : Int) := by omega
            have KZ := hide (fun W hz => ltr_ex k (a ++ b) (r := []) (x := 1) (n := 0) (ltrs_no (by rw [hj.1, decide_eq_false h12])) rfl hsab W hz)
            clear hj h12
            go_wp2_with fail
            refine (KZ.out w4 (HZ.out.below (bel_trans (bel_trans (bel_trans S1.out S2.out) S3.out) S4.out))).mono ?_
            rintro e9 w5 ⟨AZ, cZ, rfl, hb, hv⟩
            have S5 := hide (hb)
            clear KZ hv
            clear hb
            go_wp2
            go_ret
            exact ⟨rfl, (bel_trans (bel_trans (bel_trans (bel_trans S1.out S2.out) S3.out) S4.out) S5.out)⟩
      · have t4 : (k == 4) = false := by simpa using h4
        have HNE := hide (show ¬ endsN k (bl a) (bl b) from fun h => h4 (HEN.out.1 h).1)
        clear h4
        have hj := HJ.out HNE.out
        rw [← HBA.out, ← HN.out, ← HM.out] at hj
        clear HEN HJ
        by_cases h12 : n + m ≤ 12
        · have i3 : ¬ (12 : Int) < (n : Int) + (m : Int) := by omega
          have KZ := hide (fun W hz => ltr_ex k (a ++ b) (r := xs ++ ys) (x := 0) (n := n + m) (by rw [ltrs_N (by rw [hj.1, decide_eq_true h12]), hj.2]) (by rw [List.length_append, HN.out, HM.out]) hsab W hz)
          clear hj h12
          go_wp2_with fail
          refine (KZ.out w4 (HZ.out.below (bel_trans (bel_trans (bel_trans S1.out S2.out) S3.out) S4.out))).mono ?_
          rintro e9 w5 ⟨AZ, cZ, rfl, hb, hv⟩
          have S5 := hide (hb)
          have VZ := hide hv
          clear KZ hv
          clear hb
          have R0 := hide ((Run.begin w5).fresh emp_ok (show Post w5 (fun _ => False) (StrO (some ⟨w5.heap.size, 0, none⟩) 0 []) _ from row_made w5 9 1))
          go_wp2_with (at_builtin; refine held ?_)
          refine Held.mk (app_lst (by rfl) (.tmp 90) (.tmp 91) rfl (n := 0) (m := n) rfl HN.out.symm rfl rfl ((VX.out.below (bel_trans S4.out S5.out)).below R0.out.bel) (by omega) emp_ok R0.out ?_)
          intro A7 c7 w7 h7
          rw [List.nil_append] at h7
          have R7 := hide h7
          clear h7 R0
          try rw [Nat.zero_add]
          go_wp2_with (at_builtin; refine held ?_)
          refine Held.mk (app_lst (by rfl) (.tmp 92) (.tmp 93) rfl (n := n) (m := m) HN.out.symm HM.out.symm rfl rfl ((VY.out.below S5.out).below R7.out.bel) (by omega) emp_ok R7.out ?_)
          intro A8 c8 w8 h8
          obtain ⟨F8, hF8⟩ := h8.fst
          have V8 := hide (vst_of hF8)
          have B8 := hide h8.bel
          clear h8 hF8 R7
          have KT := hide (tex_any (c := cZ) (d := c8) (VZ.out.below B8.out) V8.out (by rw [List.length_append, ← HN.out, ← HM.out]; omega) rfl rfl)
          rw [List.length_append, ← HN.out, ← HM.out] at KT
          go_wp2_with fail
          refine KT.out.mono ?_
          rintro e9 w9 ⟨rfl, hb⟩
          have B9 := hide (bel_trans B8.out hb)
          clear KT hb
          go_wp2
          go_ret
          exact ⟨rfl, bel_trans (bel_trans (bel_trans (bel_trans (bel_trans S1.out S2.out) S3.out) S4.out) S5.out) B9.out⟩
        · have i3 : (12 : Int) < (n : Int) + (m : Int) := by omega
          have KZ := hide (fun W hz => ltr_ex k (a ++ b) (r := []) (x := 1) (n := 0) (ltrs_no (by rw [hj.1, decide_eq_false h12])) rfl hsab W hz)
          clear hj h12
          go_wp2_with fail
          refine (KZ.out w4 (HZ.out.below (bel_trans (bel_trans (bel_trans S1.out S2.out) S3.out) S4.out))).mono ?_
          rintro e9 w5 ⟨AZ, cZ, rfl, hb, hv⟩
          have S5 := hide (hb)
          clear KZ hv
          clear hb
          go_wp2
          go_ret
          exact ⟨rfl, (bel_trans (bel_trans (bel_trans (bel_trans S1.out S2.out) S3.out) S4.out) S5.out)⟩
end Go.Proofs.YtcgmikpmbomliaaDoor
namespace Go.Proofs.YtcgmikpmbomliaaDoor
open Go.RowKit Go.CH Go.CH.Scr
open Go.ChangeMaps (setBlock)
theorem rltr_ex (k : Int) (s : ByteArray) {r : List Bs} {x : Int} {n : Nat} (hr : lettersN k (bl s) = (r, x)) (hn : r.length = n) (hs : s.size ≤ 1000000) (W : World) :
    Calls Tryd.prog 15 #[.int .i64 k, .string s] W (LtrsE W n r x) := by
  have h := rLetters_b k s W hs
  unfold LtrsB at h
  rw [hr] at h
  subst hn
  exact h
theorem rpar_ex (s : ByteArray) {n : NameM} {x y : Int} {m : Nat} (hr : parseN (bl s) = (n, x, y)) (hn : n.ws.length = m) (W : World) :
    Calls Tryd.prog 21 #[.string s] W (ParE W n m x y) := by
  have h := rParse_any s W
  unfold ParseRet nmV at h
  rw [hr] at h
  subst hn
  exact h
theorem rfold_ex (k : Int) (s : ByteArray) {t : ByteArray} {x : Int} (hr : foldN k (bl s) = (bl t, x)) (hs : s.size ≤ 1000000) (W : World) :
    Calls Tryd.prog 17 #[.int .i64 k, .string s] W (BelowRet W (.tuple #[.string t, .int .i64 x])) := by
  have h := rfold_any k s W hs
  rw [hr] at h
  simp only [bs_bl] at h
  exact h
theorem rtxt_ex {W : World} {n : NameM} {A : Option Addr} {c m : Nat} (hA : Vst W A n.ws) (hm : n.ws.length = m) (hl : m ≤ 1000) (hb : Scr.bytes n.ws ≤ 1000000) {t : ByteArray} {x : Int} (hr : txtN n = (bl t, x)) :
    Calls Tryd.prog 19 #[.agg #[.int .i64 n.k, .slice A m c]] W (BelowRet W (.tuple #[.string t, .int .i64 x])) := by
  subst hm
  have h := rtext_any (n := n) (c := c) hA (by omega) (fun x hx => by
    obtain ⟨i, hi, rfl⟩ := List.mem_iff_getElem.1 hx
    exact Nat.le_trans (bytes_get hi) hb) (by omega)
  rw [hr] at h
  simp only [bs_bl] at h
  exact h
theorem rval_ex {W : World} {n : NameM} {A : Option Addr} {c m : Nat} (hA : Vst W A n.ws) (hm : n.ws.length = m) (hl : m ≤ 1000) (hb : Scr.bytes n.ws ≤ 1000000) {r : Bool} (hr : validN n = r) :
    Calls Tryd.prog 23 #[.agg #[.int .i64 n.k, .slice A m c]] W (BelowRet W (.bool r)) := by
  subst hm hr
  exact rvalid_any hA (by omega) (fun x hx => by
    obtain ⟨i, hi, rfl⟩ := List.mem_iff_getElem.1 hx
    exact Nat.le_trans (bytes_get hi) hb)
theorem ltr_few (k : Int) (l : Bs) : (lettersN k l).1.length ≤ 12 := by
  unfold lettersN
  split
  · rename_i h; exact (word_iff.1 h).2.2
  · exact Nat.zero_le _
set_option maxRecDepth 100000 in
set_option maxHeartbeats 12800000 in
theorem law_match {w : World} {a : NameM} {A : Option Addr} {c : Nat} (k : Int) (s t : ByteArray) (hA : Vst w A a.ws) (hac : a.ws.length ≤ c) (hal : a.ws.length ≤ 9223372036854775807) (hz : LZ w) :
    Calls Tryd.prog 3 #[nmV a A c, .int .i64 k, .string s, .string t] w (BelowRet w (.bool true)) := by
  unfold nmV
  obtain ⟨n, hn⟩ : ∃ n, n = a.ws.length := ⟨_, rfl⟩
  have HN := hide hn.symm
  rw [← hn] at hac hal ⊢
  clear hn
  have hca := box_cells w a.k A n c
  have hb0 := bel_new (.cells #[.int .i64 a.k, .slice A n c] 24) (Below.refl _ w)
  obtain ⟨wz, hwz⟩ : ∃ wz, wz = w.alloc (.cells #[.int .i64 a.k, .slice A n c] 24) := ⟨_, rfl⟩
  rw [← hwz] at hb0 hca
  have B0 := hide hb0
  have Ca := hide hca
  have VA := hide (hA.below hb0)
  have HZ := hide (hz.below hb0)
  have KH := hide (head_any wz HZ.out)
  have HWZ := hide hwz
  clear hb0 hca hz hA hwz
  have KFA := hide (fun W (hb : Below wz.heap.size wz W) => few_ex (c := c) (VA.out.below hb) HN.out hal rfl)
  have KS := hide (fun (W : World) => sho_ex (W := W) (l := [bl s]) (cs := #[.string s]) (n := 1) (by simp [strB, bs_bl]) rfl (by omega) rfl)
  cases hfa : fewN a with
  | false =>
    rw [hfa] at KFA
    clear hfa
    go_enter Tryd.func3, Tryd.ntmps3
    go_wp2_with fail
    rw [← HWZ.out]
    clear HWZ
    go_wp2_with fail
    refine (KH.out).mono ?_
    rintro e9 w1 ⟨rfl, hb⟩
    have S1 := hide (hb)
    clear KH
    clear hb
    obtain ⟨pa0, pa1⟩ := Ca.out _ S1.out
    go_wp2_with fail
    refine (KFA.out w1 S1.out).mono ?_
    rintro e9 w2 ⟨rfl, hb⟩
    have S2 := hide (hb)
    clear KFA
    clear hb
    clear pa0 pa1
    go_wp2
    go_ret
    exact ⟨rfl, (bel_trans B0.out (bel_trans S1.out S2.out))⟩
  | true =>
  cases hfs : fewB 200 [bl s] with
  | false =>
    rw [hfa] at KFA
    rw [hfs] at KS
    clear hfa hfs
    go_enter Tryd.func3, Tryd.ntmps3
    go_wp2_with fail
    rw [← HWZ.out]
    clear HWZ
    go_wp2_with fail
    refine (KH.out).mono ?_
    rintro e9 w1 ⟨rfl, hb⟩
    have S1 := hide (hb)
    clear KH
    clear hb
    obtain ⟨pa0, pa1⟩ := Ca.out _ S1.out
    go_wp2_with fail
    refine (KFA.out w1 S1.out).mono ?_
    rintro e9 w2 ⟨rfl, hb⟩
    have S2 := hide (hb)
    clear KFA
    clear hb
    clear pa0 pa1
    go_wp2_with fail
    refine (KS.out w2).mono ?_
    rintro e9 w3 ⟨rfl, hb⟩
    have S3 := hide (bel_trans (bel_new _ (Below.refl _ _)) hb)
    clear KS
    clear hb
    go_wp2
    go_ret
    exact ⟨rfl, (bel_trans B0.out (bel_trans (bel_trans S1.out S2.out) S3.out))⟩
  | true =>
  obtain ⟨ha20, haw⟩ := few_words hfa
  rw [HN.out] at ha20
  have hab : Scr.bytes a.ws ≤ 1000000 := by have := bytes_few haw; rw [HN.out] at this; have := Nat.mul_le_mul_right (100 + 1) ha20; omega
  have hs := few_one hfs
  have hs8 : s.size ≤ 1000000 := by omega
  rw [hfa] at KFA
  rw [hfs] at KS
  clear hfa hfs haw
  by_cases hl : (2000 : Int) < (t.size : Int)
  · go_enter Tryd.func3, Tryd.ntmps3
    go_wp2_with fail
    rw [← HWZ.out]
    clear HWZ
    go_wp2_with fail
    refine (KH.out).mono ?_
    rintro e9 w1 ⟨rfl, hb⟩
    have S1 := hide (hb)
    clear KH
    clear hb
    obtain ⟨pa0, pa1⟩ := Ca.out _ S1.out
    go_wp2_with fail
    refine (KFA.out w1 S1.out).mono ?_
    rintro e9 w2 ⟨rfl, hb⟩
    have S2 := hide (hb)
    clear KFA
    clear hb
    clear pa0 pa1
    go_wp2_with fail
    refine (KS.out w2).mono ?_
    rintro e9 w3 ⟨rfl, hb⟩
    have S3 := hide (bel_trans (bel_new _ (Below.refl _ _)) hb)
    clear KS
    clear hb
    go_wp2
    go_ret
    exact ⟨rfl, (bel_trans B0.out (bel_trans (bel_trans S1.out S2.out) S3.out))⟩
  obtain ⟨y, h, at_, hp⟩ : ∃ y h at_, parseN (bl t) = (y, h, at_) := ⟨_, _, _, rfl⟩
  have hy6 := par_small (by omega) hp
  obtain ⟨q, hq⟩ : ∃ q, q = y.ws.length := ⟨_, rfl⟩
  have HQ := hide hq.symm
  have K20 := hide (fun W hz => par_ex t hp hq.symm W hz)
  have K21 := hide (fun W => rpar_ex t hp hq.symm W)
  rw [← hq] at hy6
  obtain ⟨l, x, hlx⟩ : ∃ l x, lettersN k (bl s) = (l, x) := ⟨_, _, rfl⟩
  have hl12 : l.length ≤ 12 := by have := ltr_few k (bl s); rw [hlx] at this; exact this
  obtain ⟨p, hp2⟩ : ∃ p, p = l.length := ⟨_, rfl⟩
  have HP2 := hide hp2.symm
  have K14 := hide (fun W hz => ltr_ex k s hlx hp2.symm hs8 W hz)
  have K15 := hide (fun W => rltr_ex k s hlx hp2.symm hs8 W)
  rw [← hp2] at hl12
  obtain ⟨u, v, huv⟩ : ∃ u v, foldN k (bl s) = (bl u, v) := ⟨bs (foldN k (bl s)).1, _, rfl⟩
  have K16 := hide (fun W hz => fold_ex k s huv hs8 W hz)
  have K17 := hide (fun W => rfold_ex k s huv hs8 W)
  obtain ⟨i, j, hij⟩ : ∃ i j, txtN a = (bl i, j) := ⟨bs (txtN a).1, _, rfl⟩
  have K18 := hide (fun W (hb : Below wz.heap.size wz W) => txt_any (c := c) (VA.out.below hb) hac HN.out (by omega) hab hij (HZ.out.below hb))
  have K19 := hide (fun W (hb : Below wz.heap.size wz W) => rtxt_ex (c := c) (VA.out.below hb) HN.out (by omega) hab hij)
  obtain ⟨vr, hvr⟩ : ∃ vr, validN a = vr := ⟨_, rfl⟩
  have K22 := hide (fun W (hb : Below wz.heap.size wz W) => val_ex (c := c) (VA.out.below hb) HN.out (by omega) hab hvr (HZ.out.below hb))
  have K23 := hide (fun W (hb : Below wz.heap.size wz W) => rval_ex (c := c) (VA.out.below hb) HN.out (by omega) hab hvr)
  clear hp hq hlx hp2 huv hij hvr
  go_enter Tryd.func3, Tryd.ntmps3
  go_wp2_with fail
  rw [← HWZ.out]
  clear HWZ
  go_wp2_with fail
  refine (KH.out).mono ?_
  rintro e9 w1 ⟨rfl, hb⟩
  have S1 := hide (hb)
  clear KH
  clear hb
  obtain ⟨pa0, pa1⟩ := Ca.out _ S1.out
  go_wp2_with fail
  refine (KFA.out w1 S1.out).mono ?_
  rintro e9 w2 ⟨rfl, hb⟩
  have S2 := hide (hb)
  clear KFA
  clear hb
  clear pa0 pa1
  go_wp2_with fail
  refine (KS.out w2).mono ?_
  rintro e9 w3 ⟨rfl, hb⟩
  have S3 := hide (bel_trans (bel_new _ (Below.refl _ _)) hb)
  clear KS
  clear hb
  go_wp2_with fail
  refine (K14.out w3 (HZ.out.below (bel_trans (bel_trans S1.out S2.out) S3.out))).mono ?_
  rintro e9 w4 ⟨AX, cX, rfl, hb, hv⟩
  have S4 := hide (hb)
  have VX := hide hv
  clear K14 hv
  clear hb
  go_wp2_with fail
  refine (K15.out w4).mono ?_
  rintro e9 w5 ⟨AY, cY, rfl, hb, hv⟩
  have S5 := hide (hb)
  have VY := hide hv
  clear K15 hv
  clear hb
  go_wp2_with fail
  refine (K16.out w5 (HZ.out.below (bel_trans (bel_trans (bel_trans (bel_trans S1.out S2.out) S3.out) S4.out) S5.out))).mono ?_
  rintro e9 w6 ⟨rfl, hb⟩
  have S6 := hide (hb)
  clear K16
  clear hb
  go_wp2_with fail
  refine (K17.out w6).mono ?_
  rintro e9 w7 ⟨rfl, hb⟩
  have S7 := hide (hb)
  clear K17
  clear hb
  obtain ⟨pa0, pa1⟩ := Ca.out _ (bel_trans (bel_trans (bel_trans (bel_trans (bel_trans (bel_trans S1.out S2.out) S3.out) S4.out) S5.out) S6.out) S7.out)
  go_wp2_with fail
  refine (K18.out w7 (bel_trans (bel_trans (bel_trans (bel_trans (bel_trans (bel_trans S1.out S2.out) S3.out) S4.out) S5.out) S6.out) S7.out)).mono ?_
  rintro e9 w8 ⟨rfl, hb⟩
  have S8 := hide (hb)
  clear K18
  clear hb
  clear pa0 pa1
  obtain ⟨pa0, pa1⟩ := Ca.out _ (bel_trans (bel_trans (bel_trans (bel_trans (bel_trans (bel_trans (bel_trans S1.out S2.out) S3.out) S4.out) S5.out) S6.out) S7.out) S8.out)
  go_wp2_with fail
  refine (K19.out w8 (bel_trans (bel_trans (bel_trans (bel_trans (bel_trans (bel_trans (bel_trans S1.out S2.out) S3.out) S4.out) S5.out) S6.out) S7.out) S8.out)).mono ?_
  rintro e9 w9 ⟨rfl, hb⟩
  have S9 := hide (hb)
  clear K19
  clear hb
  clear pa0 pa1
  go_wp2_with fail
  refine (K20.out w9 (HZ.out.below (bel_trans (bel_trans (bel_trans (bel_trans (bel_trans (bel_trans (bel_trans (bel_trans S1.out S2.out) S3.out) S4.out) S5.out) S6.out) S7.out) S8.out) S9.out))).mono ?_
  rintro e9 v10 ⟨Ap, cp, rfl, hb, hv, hcp⟩
  have hba := bel_new (.cells #[.int .i64 y.k, .slice Ap q cp] 24) (Below.refl _ v10)
  have S10 := hide (bel_trans hb hba)
  have Vp := hide (hv.below hba)
  have Cp := hide (box_cells v10 (y.k) Ap q cp)
  clear hb hba hv
  go_wp2_with fail
  generalize v10.alloc (.cells #[.int .i64 y.k, .slice Ap q cp] 24) = w10 at *
  generalize v10.heap.size = gp at *
  clear v10
  refine (K21.out w10).mono ?_
  rintro e9 v11 ⟨Ar, cr, rfl, hb, hv, hcr⟩
  have hba := bel_new (.cells #[.int .i64 y.k, .slice Ar q cr] 24) (Below.refl _ v11)
  have S11 := hide (bel_trans hb hba)
  have Vr := hide (hv.below hba)
  have Cr := hide (box_cells v11 (y.k) Ar q cr)
  clear hb hba hv
  go_wp2_with fail
  generalize v11.alloc (.cells #[.int .i64 y.k, .slice Ar q cr] 24) = w11 at *
  generalize v11.heap.size = gr at *
  clear v11
  refine wp_region_lex (fun W => W.cell? ⟨w.heap.size, 0, none⟩ = some (.int .i64 a.k) ∧ W.cell? ⟨w.heap.size, 1, none⟩ = some (.slice A n c)) (by kernel_rfl) (by kernel_rfl) (Ca.out _ (below_drew (bel_trans (bel_trans (bel_trans (bel_trans (bel_trans (bel_trans (bel_trans (bel_trans (bel_trans (bel_trans S1.out S2.out) S3.out) S4.out) S5.out) S6.out) S7.out) S8.out) S9.out) S10.out) S11.out))) ?_
  have SD := hide (below_drew (Below.refl w11.heap.size w11))
  generalize w11.drew = wd at *
  (repeat (first | (refine lex_skip (by rfl) ?_; try simp only [Act.put, List.setIfInBounds_toArray, List.set_cons_zero, List.set_cons_succ]) | (refine lex_read (v := ?_) (by rfl) ?_ ?_; rotate_left; (focus (intro w' hS'; go_simp; (try with_reducible rfl); done)); try simp only [Act.put, List.setIfInBounds_toArray, List.set_cons_zero, List.set_cons_succ])))
  refine lex_chain (by rfl) (by rfl) (fun K hK => ?_)
  have BD := hide (bel_trans (bel_trans (bel_trans (bel_trans (bel_trans (bel_trans (bel_trans (bel_trans (bel_trans (bel_trans (bel_trans S1.out S2.out) S3.out) S4.out) S5.out) S6.out) S7.out) S8.out) S9.out) S10.out) S11.out) SD.out)
  go_wp2_with fail
  refine (K22.out _ BD.out).mono ?_
  rintro e9 x1 ⟨rfl, hb⟩
  have BD1 := hide (bel_trans BD.out hb)
  have SD1 := hide (bel_trans SD.out hb)
  clear K22 hb
  refine hK.out _ _ (Ca.out _ BD1.out) ?_
  clear hK
  (repeat (first | (refine lex_skip (by rfl) ?_; try simp only [Act.put, List.setIfInBounds_toArray, List.set_cons_zero, List.set_cons_succ]) | (refine lex_read (v := ?_) (by rfl) ?_ ?_; rotate_left; (focus (intro w' hS'; go_simp; (try with_reducible rfl); done)); try simp only [Act.put, List.setIfInBounds_toArray, List.set_cons_zero, List.set_cons_succ])))
  refine lex_chain (by rfl) (by rfl) (fun K hK => ?_)
  go_wp2_with fail
  refine (K23.out _ BD1.out).mono ?_
  rintro e9 x2 ⟨rfl, hb⟩
  have BD2 := hide (bel_trans BD1.out hb)
  have SD2 := hide (bel_trans SD1.out hb)
  clear K23 hb BD1 SD1
  refine hK.out _ _ (Ca.out _ BD2.out) ?_
  clear hK
  (repeat (first | (refine lex_skip (by rfl) ?_; try simp only [Act.put, List.setIfInBounds_toArray, List.set_cons_zero, List.set_cons_succ]) | (refine lex_read (v := ?_) (by rfl) ?_ ?_; rotate_left; (focus (intro w' hS'; go_simp; (try with_reducible rfl); done)); try simp only [Act.put, List.setIfInBounds_toArray, List.set_cons_zero, List.set_cons_succ])))
  refine lex_chain (by rfl) (by rfl) (fun K hK => ?_)
  have KT := hide (tex_any (c := cX) (d := cY) (VX.out.below (bel_trans (bel_trans (bel_trans (bel_trans (bel_trans (bel_trans (bel_trans S5.out S6.out) S7.out) S8.out) S9.out) S10.out) S11.out) SD2.out)) (VY.out.below (bel_trans (bel_trans (bel_trans (bel_trans (bel_trans (bel_trans S6.out S7.out) S8.out) S9.out) S10.out) S11.out) SD2.out)) (by rw [HP2.out]; omega) rfl rfl)
  rw [HP2.out] at KT
  go_wp2_with fail
  refine KT.out.mono ?_
  rintro e9 x3 ⟨rfl, hb⟩
  have BD3 := hide (bel_trans BD2.out hb)
  have SD3 := hide (bel_trans SD2.out hb)
  clear KT hb BD2 SD2
  refine hK.out _ _ (Ca.out _ BD3.out) ?_
  clear hK
  (repeat (first | (refine lex_skip (by rfl) ?_; try simp only [Act.put, List.setIfInBounds_toArray, List.set_cons_zero, List.set_cons_succ]) | (refine lex_read (v := ?_) (by rfl) ?_ ?_; rotate_left; (focus (intro w' hS'; go_simp; (try with_reducible rfl); done)); try simp only [Act.put, List.setIfInBounds_toArray, List.set_cons_zero, List.set_cons_succ])))
  refine lex_nil ?_
  obtain ⟨pp0, pp1⟩ := Cp.out _ (bel_trans S11.out SD3.out)
  obtain ⟨pr0, pr1⟩ := Cr.out _ SD3.out
  have KE := hide (same_ex (c := cp) (d := cr) (Vp.out.below (bel_trans S11.out SD3.out)) (Vr.out.below SD3.out) HQ.out (by omega))
  go_wp2_with fail
  refine KE.out.mono ?_
  rintro e9 x4 ⟨rfl, hb⟩
  have BD4 := hide (bel_trans B0.out (bel_trans BD3.out hb))
  clear KE hb
  go_wp2
  go_ret
  exact ⟨rfl, BD4.out⟩
end Go.Proofs.YtcgmikpmbomliaaDoor
namespace Go.Proofs.YtcgmikpmbomliaaDoor
open Go.ChangeShapes Go.WideShapes Go.ChangeAt Go.RowKit Go.CH Go.CH.Scr Go.Deep Go.Shelf Go.Lib
theorem caseX : CaseExtra Tryd.prog Tryd.lays262_ren := { n13 := by kernel_rfl, y13 := by kernel_rfl, c21 := by kernel_rfl, c51 := by kernel_rfl, c206 := by kernel_rfl, c208 := by kernel_rfl }
theorem u8X : U8Extra Tryd.prog Tryd.lays197_ren := { n3 := by kernel_rfl, n4 := by kernel_rfl, y3 := by kernel_rfl, y4 := by kernel_rfl, c5 := by kernel_rfl, c119 := by kernel_rfl, c138 := by kernel_rfl }
theorem lay274 : Lays.n274 Tryd.prog Tryd.lays262_ren := { Tryd.lays262 with }
theorem lay260 : Lays.n260 Tryd.prog Tryd.lays197_ren := { Tryd.lays197 with }
/-- The list of the rows. -/
def laidS : List (String × DataW Unit) := [("unicode/utf8.acceptRanges", Rows.laid_unicode_utf8_acceptRanges), ("unicode.CaseRanges", Rows.laid_unicode_CaseRanges), ("unicode/utf8.first", Rows.laid_unicode_utf8_first)]
theorem lz_of {w : World} (h : laidMetH Tryd.prog laidS w) (hs : w.ShapedOpen Tryd.prog) : LZ w := by
  rw [MakeChecks.laidMetH_plain _ _ _ (by kernel_rfl)] at h
  have h1 := laidMet.reads h (n := "unicode/utf8.acceptRanges") (d := Rows.laid_unicode_utf8_acceptRanges) (by simp [laidS])
  have h2 := laidMet.reads h (n := "unicode.CaseRanges") (d := Rows.laid_unicode_CaseRanges) (by simp [laidS])
  have h3 := laidMet.reads h (n := "unicode/utf8.first") (d := Rows.laid_unicode_utf8_first) (by simp [laidS])
  rw [show (Rows.laid_unicode_CaseRanges : DataW Unit) = caseData from Pinned.caseRanges_eq] at h2
  rw [show (Rows.laid_unicode_utf8_first : DataW Unit) = firstData from Pinned.utf8First_eq] at h3
  rw [show (Rows.laid_unicode_utf8_acceptRanges : DataW Unit) = acceptData by kernel_rfl] at h1
  exact ⟨caseVar_of_reads lay274 (by kernel_rfl) caseX h2, utf8Tabs_of_reads lay260 u8X h3 h1, Tryd.laysM145.s1_3 w hs⟩
/-- The wrap for a row that lists variables, the world's shape kept. -/
theorem returns_and_shaped {H : Type} {enc : TypeId × Value → H} {a : Assume} {C : Checked} {os : Os} {f : FuncId} {fn : Func} {s : ChangeSpec} {conds : List PathCond} {apart fresh handsOn again : Bool} {X : World → Array Value → Prop}
    (hX : ∀ (w w' : World) (args : Array Value), w.heap = w'.heap → X w args → X w' args)
    (own : ownKnob C.prog.godebug = none) (started : os.Started) (noInit : C.prog.inits.idxOf? f = none) (hfn : C.prog.funcs[f]? = some fn)
    (witness : ∃ (w : World) (tape : Tape) (i : Input), w.os = os ∧ (w.forCall tape i).Shaped C.prog ∧ i.vars = [] ∧ Input.okWide C.prog (w.forCall tape i) .any w.heap.size f i ∧
      ((s.pre enc C.prog fn conds apart (w.forCall tape i).memory i.args ∧ X (w.forCall tape i).memory i.args) ∧ sizedMet enc C.prog fn (OpenSpec.ofChange s) apart (w.forCall tape i).memory i.args) ∧ a.holds C.prog (lone (Frame.enter C.prog f i.args .normal) [] (w.forCall tape i)))
    (contract : ∀ (W : World) (base : Nat) (args : Array Value) (ds gs : List (DataW H)) (before : List MemPlace),
      (∀ (j : Nat) t v, fn.params[j]? = some t → args[j]? = some v → Value.okWide C.prog W .any base t v) →
      DataW.Whole enc C.prog fn.params.toList s.vars apart W args.toList ds gs before →
      X W args → W.ShapedOpen C.prog →
      Calls C.prog f args W fun e W' => ∃ v, e = .returned v ∧ s.post enc C.prog fn apart fresh handsOn again W args v W') :
    ReturnsInHanded a C os f .any (fun w args => (s.pre enc C.prog fn conds apart w args ∧ X w args) ∧ sizedMet enc C.prog fn (OpenSpec.ofChange s) apart w args) (s.post enc C.prog fn apart fresh handsOn again) := by
  refine returnsInHanded_of_calls own started noInit witness ?_
  intro w tape i _ hsh _ hok hpre hholds
  obtain ⟨_, _, _, fn', hfn', _, _, _, _, hval⟩ := hok
  have e : fn' = fn := Option.some.inj (hfn'.symm.trans hfn)
  subst e
  obtain ⟨⟨⟨ds, gs, before, hw, hc⟩, hx⟩, hz⟩ := hpre
  have hw' := DataW.Whole.of_heap (w' := w.forCall tape i) (by rfl) hw
  refine (contract (w.forCall tape i) w.heap.size i.args ds gs before hval hw' (hX _ _ _ (by rfl) hx) hsh).mono fun e W' ⟨v, he, hp⟩ => ?_
  subst he
  exact ChangeSpec.post_blind hp
section
variable {H : Type} {enc : TypeId × Value → H} {w : World}
theorem strs_map (l : List Bs) : (l.map bs).flatMap (fun x : ByteArray => [Value.string x]) = strB l := by
  induction l with
  | nil => rfl
  | cons a l ih =>
    rw [List.map_cons, List.flatMap_cons, ih]
    rfl
theorem open_words {m : Nat} {v : Value} {y : DataW H × List MemPlace} (h : DataW.trod enc Tryd.prog w 0 (fun _ => true) true m 22 [v] = some y) :
    ∃ (A : Option Addr) (c : Nat) (l : List Bs), v = .slice A l.length c ∧ Vst w A l ∧ l.length ≤ c ∧ l.length ≤ 9223372036854775807 := by
  have hv : ∃ A n c, v = .slice A n c := by
    rcases open_slice Tryd.underlying22 h with ⟨h0, _⟩ | ⟨a, len, cap, _, _, _, _, hv, _⟩
    · injection h0 with h0
      exact ⟨none, 0, 0, h0⟩
    · injection hv with hv
      exact ⟨some a, len, cap, hv⟩
  obtain ⟨A, n, c, rfl⟩ := hv
  obtain ⟨xs, h1, h2, h3, h4, h5⟩ := open_src (P := Tryd.prog) (t := 22) (e := 9) (A := A) (n := n) (c := c) (d := y.1) (ps := y.2) (size := 1) (fun x : ByteArray => [Value.string x]) (fun x => x.size ≤ maxLen) Tryd.underlying22 (by kernel_rfl) (by decide) (each_string Tryd.underlying9) (fun x _ u hu => by simp at hu; subst hu; rfl) ⟨m, by simpa [Value.cells] using h⟩
  subst h1
  have e : xs = (xs.map bl).map bs := by rw [List.map_map]; exact (List.map_id'' (fun x => bs_bl x) _).symm
  refine ⟨A, c, xs.map bl, by rw [List.length_map], ?_, by rw [List.length_map]; exact h4, by rw [List.length_map]; unfold maxLen at h5; omega⟩
  unfold Vst
  rw [e, strs_map, ← e] at h2
  rw [List.length_map]
  exact h2
/-- A name that came in. -/
structure NZ where
  n : NameM
  A : Option Addr
  c : Nat
def NzOk (w : World) (z : NZ) : Prop := Vst w z.A z.n.ws ∧ z.n.ws.length ≤ z.c ∧ z.n.ws.length ≤ 9223372036854775807
theorem len2 {cs : List Value} (h : cs.length = 2) : ∃ a b, cs = [a, b] := by
  match cs, h with
  | [a, b], _ => exact ⟨a, b, rfl⟩
theorem open24 {r : Reach} {b0 : Nat} {v : Value} {d : DataW H} {ps : List MemPlace} (hok : Value.okWide Tryd.prog w r b0 24 v) (h : DataW.Trod enc Tryd.prog w 0 (fun _ => true) true 24 v d ps) : ∃ z : NZ, v = nmV z.n z.A z.c ∧ NzOk w z := by
  obtain ⟨cs, rfl, hsz⟩ := okWide_struct Tryd.underlying24 hok
  obtain ⟨m, hm⟩ := h
  obtain ⟨xs, n, _, _, hl, hxl, hf⟩ := DataW.trod_struct Tryd.underlying24 hm
  have hl2 := hl.trans (by kernel_rfl : _ = 2)
  obtain ⟨a0, a1, ha⟩ := len2 hl2
  have hxl2 : xs.length = 2 := hxl
  have e0 : xs[0]? = some (xs[0]'(by omega)) := List.getElem?_eq_getElem (by omega)
  have e1 : xs[1]? = some (xs[1]'(by omega)) := List.getElem?_eq_getElem (by omega)
  have s3 : Tryd.prog.cellsOf 3 = 1 := by kernel_rfl
  have s22 : Tryd.prog.cellsOf 22 = 1 := by kernel_rfl
  have t0 := (hf 0 _ rfl).trans e0
  have t1 := (hf 1 _ rfl).trans e1
  rw [ha] at t0 t1
  have t0' : DataW.trod enc Tryd.prog w 0 (fun _ => true) true n 3 (([a0, a1].drop 0).take (Tryd.prog.cellsOf 3)) = some (xs[0]'(by omega)) := t0
  have t1' : DataW.trod enc Tryd.prog w 0 (fun _ => true) true n 22 (([a0, a1].drop 1).take (Tryd.prog.cellsOf 22)) = some (xs[1]'(by omega)) := t1
  simp only [s3, s22, List.drop, List.take] at t0' t1'
  obtain ⟨x0, f0, -, g0⟩ := DataW.trod_int Tryd.underlying3 t0'
  injection f0 with f0
  obtain ⟨A, c, l, f1, k1, k2, k3⟩ := open_words t1'
  subst f0 f1
  refine ⟨⟨⟨x0, l⟩, A, c⟩, ?_, k1, k2, k3⟩
  have : cs = #[.int .i64 x0, .slice A l.length c] := by
    apply Array.toList_inj.1
    simpa [Value.cells] using ha
  rw [this]; rfl
end
end Go.Proofs.YtcgmikpmbomliaaDoor
