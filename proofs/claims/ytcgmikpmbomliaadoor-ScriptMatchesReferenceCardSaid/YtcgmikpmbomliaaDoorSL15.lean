/-
  Script: the law of common words
-/
import Derived.Test.YtcgmikpmbomliaaDoorSL11
set_option linter.unusedSimpArgs false
set_option linter.unusedVariables false
namespace Go.Proofs.YtcgmikpmbomliaaDoor
open Go.RowKit Go.CH Go.CH.Scr
open Go.ChangeMaps (setBlock)
/-- Whether a byte stands in a text. -/
def quoB (l : Bs) : Bool := l.contains 39
theorem quo_step {l : Bs} {j : Nat} {x : UInt8} (h : l[j]? = some x) : (quoB (l.take j) || (x == 39)) = quoB (l.take (j + 1)) := by
  obtain ⟨h1, h2⟩ := List.getElem?_eq_some_iff.1 h
  rw [List.take_succ_eq_append_getElem h1, h2]
  have e : quoB (l.take j ++ [x]) = (quoB (l.take j) || (x == 39)) := by
    unfold quoB
    rw [Bool.eq_iff_iff]
    simp only [List.contains_eq_mem, List.mem_append, List.mem_singleton, Bool.or_eq_true, beq_iff_eq, decide_eq_true_eq]
    exact ⟨fun h => h.imp id Eq.symm, fun h => h.imp id Eq.symm⟩
  exact e.symm
theorem quo_no {l : Bs} (h : quoB l = false) : ∀ c ∈ l, c ≠ 39 := by
  intro c hc e
  subst e
  have : quoB l = true := by unfold quoB; simpa using hc
  rw [h] at this; cases this
theorem tex_any {w : World} {A B : Option Addr} {c d : Nat} {a b : List Bs} (hA : Vst w A a) (hB : Vst w B b) (hn : a.length ≤ 1000000) (hm : a.length = b.length) (he : a = b) :
    Calls Tryd.prog 24 #[.slice A a.length c, .slice B b.length d] w (BelowRet w (.bool true)) := by
  have h := texts_any (c := c) (d := d) hA hB hn (by omega)
  rw [decide_eq_true he] at h
  exact h
set_option maxRecDepth 100000 in
set_option maxHeartbeats 3200000 in
theorem law_common (s : ByteArray) (w : World) (hz : LZ w) : Calls Tryd.prog 10 #[.string s] w (BelowRet w (.bool true)) := by
  have HZ := hide hz
  have KH := hide (head_any w hz)
  have KS := hide (fun (W : World) => sho_ex (W := W) (l := [bl s]) (cs := #[.string s]) (n := 1) (by simp [strB, bs_bl]) rfl (by omega) rfl)
  clear hz
  cases hf : fewB 200 [bl s] with
  | false =>
    rw [hf] at KS
    clear hf
    go_enter Tryd.func10, Tryd.ntmps10
    go_wp2_with fail
    refine (KH.out).mono ?_
    rintro e9 w1 ⟨rfl, hb⟩
    have S1 := hide (hb)
    clear KH
    clear hb
    go_wp2_with fail
    refine (KS.out w1).mono ?_
    rintro e9 w2 ⟨rfl, hb⟩
    have S2 := hide (bel_trans (bel_new _ (Below.refl _ _)) hb)
    clear KS
    clear hb
    go_wp2
    go_ret
    exact ⟨rfl, (bel_trans S1.out S2.out)⟩
  | true =>
    have hs := few_one hf
    rw [hf] at KS
    clear hf
    have hcc := common_cased (l := bl s)
    have hca := common_abjad (l := bl s)
    have hcs := common_syllab (l := bl s)
    rw [bl_len] at hcs
    have hs8 : s.size ≤ 1000000 := by omega
    cases h1 : word 1 (bl s) with
    | true =>
      cases h3 : word 3 (bl s) with
      | true =>
        cases hq : quoB (bl s) with
        | true =>
          cases h4 : word 4 (bl s) with
          | true =>
            by_cases hlg : 12 < s.size
            · have L1 := hide (fun W hz => ltr_ex 1 s (ltrs_N h1) rfl hs8 W hz)
              have L2 := hide (fun W hz => ltr_ex 2 s (ltrs_N (hcc h1).1) rfl hs8 W hz)
              have L3 := hide (fun W hz => ltr_ex 3 s (ltrs_N h3) rfl hs8 W hz)
              have L4 := hide (fun W hz => ltr_ex 4 s (ltrs_N h4) rfl hs8 W hz)
              have HQ := hide hq
              have HL12 := hide (show (ltrs 1 (bl s)).1 = (ltrs 2 (bl s)).1 from (hcc h1).2.symm)
              have hN12 := hide (show (ltrs 1 (bl s)).1.length = (ltrs 2 (bl s)).1.length by rw [HL12.out])
              have hN1 := hide (show (ltrs 1 (bl s)).1.length ≤ 1000000 from Nat.le_trans (word_iff.1 h1).2.2 (by omega))
              clear hcc hca hcs h1 h3 h4 hq
              generalize (ltrs 1 (bl s)).1 = l1 at *
              generalize (ltrs 2 (bl s)).1 = l2 at *
              generalize (ltrs 3 (bl s)).1 = l3 at *
              generalize (ltrs 4 (bl s)).1 = l4 at *
              have i12 : (12 : Int) < (s.size : Int) := by omega
              go_enter Tryd.func10, Tryd.ntmps10
              go_wp2_with fail
              refine (KH.out).mono ?_
              rintro e9 w1 ⟨rfl, hb⟩
              have S1 := hide (hb)
              clear KH
              clear hb
              go_wp2_with fail
              refine (KS.out w1).mono ?_
              rintro e9 w2 ⟨rfl, hb⟩
              have S2 := hide (bel_trans (bel_new _ (Below.refl _ _)) hb)
              clear KS
              clear hb
              go_wp2_with fail
              refine (L1.out w2 (HZ.out.below (bel_trans S1.out S2.out))).mono ?_
              rintro e9 w3 ⟨A1, c1, rfl, hb, hv⟩
              have S3 := hide (hb)
              have V1 := hide hv
              clear L1 hv
              clear hb
              go_wp2_with fail
              refine (L2.out w3 (HZ.out.below (bel_trans (bel_trans S1.out S2.out) S3.out))).mono ?_
              rintro e9 w4 ⟨A2, c2, rfl, hb, hv⟩
              have S4 := hide (hb)
              have V2 := hide hv
              clear L2 hv
              clear hb
              go_wp2_with fail
              refine (L3.out w4 (HZ.out.below (bel_trans (bel_trans (bel_trans S1.out S2.out) S3.out) S4.out))).mono ?_
              rintro e9 w5 ⟨A3, c3, rfl, hb, hv⟩
              have S5 := hide (hb)
              have V3 := hide hv
              clear L3 hv
              clear hb
              go_wp2_with fail
              refine (L4.out w5 (HZ.out.below (bel_trans (bel_trans (bel_trans (bel_trans S1.out S2.out) S3.out) S4.out) S5.out))).mono ?_
              rintro e9 w6 ⟨A4, c4, rfl, hb, hv⟩
              have S6 := hide (hb)
              have V4 := hide hv
              clear L4 hv
              clear hb
              go_wp2
              go_loopw [12, 13] (fun b i wr => ∃ j : Nat, j ≤ s.size ∧ i = .int .i64 (j : Int) ∧ b = .bool (quoB ((bl s).take j)) ∧ Below w6.heap.size w6 wr) (fun _ i _ => s.size - (intOf i).toNat)
              case atStart => exact ⟨0, Nat.zero_le _, rfl, rfl, Below.refl _ _⟩
              case round =>
                obtain ⟨j, hj, rfl, rfl, hb⟩ := hrel
                have S7 := hide hb
                clear hb
                by_cases hlt : (j : Int) < (s.size : Int)
                · have hpl : j < s.size := by omega
                  obtain ⟨x, hx⟩ : ∃ x : UInt8, s[j] = x := ⟨_, rfl⟩
                  have HNX := hide (quo_step (show (bl s)[j]? = some x by rw [bl_at s j hpl, hx]))
                  have hxx := u8_eq x 39 39 rfl
                  have hx256 := x.toNat_lt
                  generalize quoB ((bl s).take j) = q0 at *
                  cases q0 with
                  | true =>
                    go_wp2
                    go_roundw
                    case rel => exact ⟨j + 1, by omega, by go_num, by rw [← HNX.out]; rfl, S7.out⟩
                    case measure => simp [intOf]; omega
                  | false =>
                    cases hx9 : (x == 39) with
                    | true =>
                      rw [hx9] at hxx HNX
                      clear hx9
                      go_wp2
                      go_roundw
                      case rel => exact ⟨j + 1, by omega, by go_num, by rw [← HNX.out]; rfl, S7.out⟩
                      case measure => simp [intOf]; omega
                    | false =>
                      rw [hx9] at hxx HNX
                      clear hx9
                      go_wp2
                      go_roundw
                      case rel => exact ⟨j + 1, by omega, by go_num, by rw [← HNX.out]; rfl, S7.out⟩
                      case measure => simp [intOf]; omega
                · obtain rfl : j = s.size := by omega
                  have hq9 : quoB ((bl s).take s.size) = true := by rw [← bl_len, List.take_length]; exact HQ.out
                  rw [hq9]
                  clear hq9
                  go_wp2_with fail
                  refine ((tex_any (V1.out.below (bel_trans (bel_trans (bel_trans S4.out S5.out) S6.out) S7.out)) (V2.out.below (bel_trans (bel_trans S5.out S6.out) S7.out)) hN1.out hN12.out HL12.out (c := c1) (d := c2))).mono ?_
                  rintro e9 w8 ⟨rfl, hb⟩
                  have S8 := hide (hb)
                  clear hb
                  go_wp2
                  go_ret
                  exact ⟨rfl, (bel_trans (bel_trans (bel_trans (bel_trans (bel_trans (bel_trans (bel_trans S1.out S2.out) S3.out) S4.out) S5.out) S6.out) S7.out) S8.out)⟩
            · have L1 := hide (fun W hz => ltr_ex 1 s (ltrs_N h1) rfl hs8 W hz)
              have L2 := hide (fun W hz => ltr_ex 2 s (ltrs_N (hcc h1).1) rfl hs8 W hz)
              have L3 := hide (fun W hz => ltr_ex 3 s (ltrs_N h3) rfl hs8 W hz)
              have L4 := hide (fun W hz => ltr_ex 4 s (ltrs_N h4) rfl hs8 W hz)
              have HQ := hide hq
              have HL12 := hide (show (ltrs 1 (bl s)).1 = (ltrs 2 (bl s)).1 from (hcc h1).2.symm)
              have hN12 := hide (show (ltrs 1 (bl s)).1.length = (ltrs 2 (bl s)).1.length by rw [HL12.out])
              have hN1 := hide (show (ltrs 1 (bl s)).1.length ≤ 1000000 from Nat.le_trans (word_iff.1 h1).2.2 (by omega))
              clear hcc hca hcs h1 h3 h4 hq
              generalize (ltrs 1 (bl s)).1 = l1 at *
              generalize (ltrs 2 (bl s)).1 = l2 at *
              generalize (ltrs 3 (bl s)).1 = l3 at *
              generalize (ltrs 4 (bl s)).1 = l4 at *
              have i12 : ¬ (12 : Int) < (s.size : Int) := by omega
              go_enter Tryd.func10, Tryd.ntmps10
              go_wp2_with fail
              refine (KH.out).mono ?_
              rintro e9 w1 ⟨rfl, hb⟩
              have S1 := hide (hb)
              clear KH
              clear hb
              go_wp2_with fail
              refine (KS.out w1).mono ?_
              rintro e9 w2 ⟨rfl, hb⟩
              have S2 := hide (bel_trans (bel_new _ (Below.refl _ _)) hb)
              clear KS
              clear hb
              go_wp2_with fail
              refine (L1.out w2 (HZ.out.below (bel_trans S1.out S2.out))).mono ?_
              rintro e9 w3 ⟨A1, c1, rfl, hb, hv⟩
              have S3 := hide (hb)
              have V1 := hide hv
              clear L1 hv
              clear hb
              go_wp2_with fail
              refine (L2.out w3 (HZ.out.below (bel_trans (bel_trans S1.out S2.out) S3.out))).mono ?_
              rintro e9 w4 ⟨A2, c2, rfl, hb, hv⟩
              have S4 := hide (hb)
              have V2 := hide hv
              clear L2 hv
              clear hb
              go_wp2_with fail
              refine (L3.out w4 (HZ.out.below (bel_trans (bel_trans (bel_trans S1.out S2.out) S3.out) S4.out))).mono ?_
              rintro e9 w5 ⟨A3, c3, rfl, hb, hv⟩
              have S5 := hide (hb)
              have V3 := hide hv
              clear L3 hv
              clear hb
              go_wp2_with fail
              refine (L4.out w5 (HZ.out.below (bel_trans (bel_trans (bel_trans (bel_trans S1.out S2.out) S3.out) S4.out) S5.out))).mono ?_
              rintro e9 w6 ⟨A4, c4, rfl, hb, hv⟩
              have S6 := hide (hb)
              have V4 := hide hv
              clear L4 hv
              clear hb
              go_wp2
              go_loopw [12, 13] (fun b i wr => ∃ j : Nat, j ≤ s.size ∧ i = .int .i64 (j : Int) ∧ b = .bool (quoB ((bl s).take j)) ∧ Below w6.heap.size w6 wr) (fun _ i _ => s.size - (intOf i).toNat)
              case atStart => exact ⟨0, Nat.zero_le _, rfl, rfl, Below.refl _ _⟩
              case round =>
                obtain ⟨j, hj, rfl, rfl, hb⟩ := hrel
                have S7 := hide hb
                clear hb
                by_cases hlt : (j : Int) < (s.size : Int)
                · have hpl : j < s.size := by omega
                  obtain ⟨x, hx⟩ : ∃ x : UInt8, s[j] = x := ⟨_, rfl⟩
                  have HNX := hide (quo_step (show (bl s)[j]? = some x by rw [bl_at s j hpl, hx]))
                  have hxx := u8_eq x 39 39 rfl
                  have hx256 := x.toNat_lt
                  generalize quoB ((bl s).take j) = q0 at *
                  cases q0 with
                  | true =>
                    go_wp2
                    go_roundw
                    case rel => exact ⟨j + 1, by omega, by go_num, by rw [← HNX.out]; rfl, S7.out⟩
                    case measure => simp [intOf]; omega
                  | false =>
                    cases hx9 : (x == 39) with
                    | true =>
                      rw [hx9] at hxx HNX
                      clear hx9
                      go_wp2
                      go_roundw
                      case rel => exact ⟨j + 1, by omega, by go_num, by rw [← HNX.out]; rfl, S7.out⟩
                      case measure => simp [intOf]; omega
                    | false =>
                      rw [hx9] at hxx HNX
                      clear hx9
                      go_wp2
                      go_roundw
                      case rel => exact ⟨j + 1, by omega, by go_num, by rw [← HNX.out]; rfl, S7.out⟩
                      case measure => simp [intOf]; omega
                · obtain rfl : j = s.size := by omega
                  have hq9 : quoB ((bl s).take s.size) = true := by rw [← bl_len, List.take_length]; exact HQ.out
                  rw [hq9]
                  clear hq9
                  go_wp2_with fail
                  refine ((tex_any (V1.out.below (bel_trans (bel_trans (bel_trans S4.out S5.out) S6.out) S7.out)) (V2.out.below (bel_trans (bel_trans S5.out S6.out) S7.out)) hN1.out hN12.out HL12.out (c := c1) (d := c2))).mono ?_
                  rintro e9 w8 ⟨rfl, hb⟩
                  have S8 := hide (hb)
                  clear hb
                  go_wp2
                  go_ret
                  exact ⟨rfl, (bel_trans (bel_trans (bel_trans (bel_trans (bel_trans (bel_trans (bel_trans S1.out S2.out) S3.out) S4.out) S5.out) S6.out) S7.out) S8.out)⟩
          | false =>
            have L1 := hide (fun W hz => ltr_ex 1 s (ltrs_N h1) rfl hs8 W hz)
            have L2 := hide (fun W hz => ltr_ex 2 s (ltrs_N (hcc h1).1) rfl hs8 W hz)
            have L3 := hide (fun W hz => ltr_ex 3 s (ltrs_N h3) rfl hs8 W hz)
            have L4 := hide (fun W hz => ltr_ex 4 s (ltrs_no h4) rfl hs8 W hz)
            have HQ := hide hq
            have HL12 := hide (show (ltrs 1 (bl s)).1 = (ltrs 2 (bl s)).1 from (hcc h1).2.symm)
            have hN12 := hide (show (ltrs 1 (bl s)).1.length = (ltrs 2 (bl s)).1.length by rw [HL12.out])
            have hN1 := hide (show (ltrs 1 (bl s)).1.length ≤ 1000000 from Nat.le_trans (word_iff.1 h1).2.2 (by omega))
            clear hcc hca hcs h1 h3 h4 hq
            generalize (ltrs 1 (bl s)).1 = l1 at *
            generalize (ltrs 2 (bl s)).1 = l2 at *
            generalize (ltrs 3 (bl s)).1 = l3 at *
            go_enter Tryd.func10, Tryd.ntmps10
            go_wp2_with fail
            refine (KH.out).mono ?_
            rintro e9 w1 ⟨rfl, hb⟩
            have S1 := hide (hb)
            clear KH
            clear hb
            go_wp2_with fail
            refine (KS.out w1).mono ?_
            rintro e9 w2 ⟨rfl, hb⟩
            have S2 := hide (bel_trans (bel_new _ (Below.refl _ _)) hb)
            clear KS
            clear hb
            go_wp2_with fail
            refine (L1.out w2 (HZ.out.below (bel_trans S1.out S2.out))).mono ?_
            rintro e9 w3 ⟨A1, c1, rfl, hb, hv⟩
            have S3 := hide (hb)
            have V1 := hide hv
            clear L1 hv
            clear hb
            go_wp2_with fail
            refine (L2.out w3 (HZ.out.below (bel_trans (bel_trans S1.out S2.out) S3.out))).mono ?_
            rintro e9 w4 ⟨A2, c2, rfl, hb, hv⟩
            have S4 := hide (hb)
            have V2 := hide hv
            clear L2 hv
            clear hb
            go_wp2_with fail
            refine (L3.out w4 (HZ.out.below (bel_trans (bel_trans (bel_trans S1.out S2.out) S3.out) S4.out))).mono ?_
            rintro e9 w5 ⟨A3, c3, rfl, hb, hv⟩
            have S5 := hide (hb)
            have V3 := hide hv
            clear L3 hv
            clear hb
            go_wp2_with fail
            refine (L4.out w5 (HZ.out.below (bel_trans (bel_trans (bel_trans (bel_trans S1.out S2.out) S3.out) S4.out) S5.out))).mono ?_
            rintro e9 w6 ⟨A4, c4, rfl, hb, hv⟩
            have S6 := hide (hb)
            have V4 := hide hv
            clear L4 hv
            clear hb
            go_wp2
            go_loopw [12, 13] (fun b i wr => ∃ j : Nat, j ≤ s.size ∧ i = .int .i64 (j : Int) ∧ b = .bool (quoB ((bl s).take j)) ∧ Below w6.heap.size w6 wr) (fun _ i _ => s.size - (intOf i).toNat)
            case atStart => exact ⟨0, Nat.zero_le _, rfl, rfl, Below.refl _ _⟩
            case round =>
              obtain ⟨j, hj, rfl, rfl, hb⟩ := hrel
              have S7 := hide hb
              clear hb
              by_cases hlt : (j : Int) < (s.size : Int)
              · have hpl : j < s.size := by omega
                obtain ⟨x, hx⟩ : ∃ x : UInt8, s[j] = x := ⟨_, rfl⟩
                have HNX := hide (quo_step (show (bl s)[j]? = some x by rw [bl_at s j hpl, hx]))
                have hxx := u8_eq x 39 39 rfl
                have hx256 := x.toNat_lt
                generalize quoB ((bl s).take j) = q0 at *
                cases q0 with
                | true =>
                  go_wp2
                  go_roundw
                  case rel => exact ⟨j + 1, by omega, by go_num, by rw [← HNX.out]; rfl, S7.out⟩
                  case measure => simp [intOf]; omega
                | false =>
                  cases hx9 : (x == 39) with
                  | true =>
                    rw [hx9] at hxx HNX
                    clear hx9
                    go_wp2
                    go_roundw
                    case rel => exact ⟨j + 1, by omega, by go_num, by rw [← HNX.out]; rfl, S7.out⟩
                    case measure => simp [intOf]; omega
                  | false =>
                    rw [hx9] at hxx HNX
                    clear hx9
                    go_wp2
                    go_roundw
                    case rel => exact ⟨j + 1, by omega, by go_num, by rw [← HNX.out]; rfl, S7.out⟩
                    case measure => simp [intOf]; omega
              · obtain rfl : j = s.size := by omega
                have hq9 : quoB ((bl s).take s.size) = true := by rw [← bl_len, List.take_length]; exact HQ.out
                rw [hq9]
                clear hq9
                go_wp2_with fail
                refine ((tex_any (V1.out.below (bel_trans (bel_trans (bel_trans S4.out S5.out) S6.out) S7.out)) (V2.out.below (bel_trans (bel_trans S5.out S6.out) S7.out)) hN1.out hN12.out HL12.out (c := c1) (d := c2))).mono ?_
                rintro e9 w8 ⟨rfl, hb⟩
                have S8 := hide (hb)
                clear hb
                go_wp2
                go_ret
                exact ⟨rfl, (bel_trans (bel_trans (bel_trans (bel_trans (bel_trans (bel_trans (bel_trans S1.out S2.out) S3.out) S4.out) S5.out) S6.out) S7.out) S8.out)⟩
        | false =>
          cases h4 : word 4 (bl s) with
          | true =>
            by_cases hlg : 12 < s.size
            · have L1 := hide (fun W hz => ltr_ex 1 s (ltrs_N h1) rfl hs8 W hz)
              have L2 := hide (fun W hz => ltr_ex 2 s (ltrs_N (hcc h1).1) rfl hs8 W hz)
              have L3 := hide (fun W hz => ltr_ex 3 s (ltrs_N h3) rfl hs8 W hz)
              have L4 := hide (fun W hz => ltr_ex 4 s (ltrs_N h4) rfl hs8 W hz)
              have HQ := hide hq
              have HL12 := hide (show (ltrs 1 (bl s)).1 = (ltrs 2 (bl s)).1 from (hcc h1).2.symm)
              have hN12 := hide (show (ltrs 1 (bl s)).1.length = (ltrs 2 (bl s)).1.length by rw [HL12.out])
              have hN1 := hide (show (ltrs 1 (bl s)).1.length ≤ 1000000 from Nat.le_trans (word_iff.1 h1).2.2 (by omega))
              have HL13 := hide (show (ltrs 1 (bl s)).1 = (ltrs 3 (bl s)).1 from (hca h3 (quo_no hq)).2)
              have hN13 := hide (show (ltrs 1 (bl s)).1.length = (ltrs 3 (bl s)).1.length by rw [HL13.out])
              clear hcc hca hcs h1 h3 h4 hq
              generalize (ltrs 1 (bl s)).1 = l1 at *
              generalize (ltrs 2 (bl s)).1 = l2 at *
              generalize (ltrs 3 (bl s)).1 = l3 at *
              generalize (ltrs 4 (bl s)).1 = l4 at *
              have i12 : (12 : Int) < (s.size : Int) := by omega
              go_enter Tryd.func10, Tryd.ntmps10
              go_wp2_with fail
              refine (KH.out).mono ?_
              rintro e9 w1 ⟨rfl, hb⟩
              have S1 := hide (hb)
              clear KH
              clear hb
              go_wp2_with fail
              refine (KS.out w1).mono ?_
              rintro e9 w2 ⟨rfl, hb⟩
              have S2 := hide (bel_trans (bel_new _ (Below.refl _ _)) hb)
              clear KS
              clear hb
              go_wp2_with fail
              refine (L1.out w2 (HZ.out.below (bel_trans S1.out S2.out))).mono ?_
              rintro e9 w3 ⟨A1, c1, rfl, hb, hv⟩
              have S3 := hide (hb)
              have V1 := hide hv
              clear L1 hv
              clear hb
              go_wp2_with fail
              refine (L2.out w3 (HZ.out.below (bel_trans (bel_trans S1.out S2.out) S3.out))).mono ?_
              rintro e9 w4 ⟨A2, c2, rfl, hb, hv⟩
              have S4 := hide (hb)
              have V2 := hide hv
              clear L2 hv
              clear hb
              go_wp2_with fail
              refine (L3.out w4 (HZ.out.below (bel_trans (bel_trans (bel_trans S1.out S2.out) S3.out) S4.out))).mono ?_
              rintro e9 w5 ⟨A3, c3, rfl, hb, hv⟩
              have S5 := hide (hb)
              have V3 := hide hv
              clear L3 hv
              clear hb
              go_wp2_with fail
              refine (L4.out w5 (HZ.out.below (bel_trans (bel_trans (bel_trans (bel_trans S1.out S2.out) S3.out) S4.out) S5.out))).mono ?_
              rintro e9 w6 ⟨A4, c4, rfl, hb, hv⟩
              have S6 := hide (hb)
              have V4 := hide hv
              clear L4 hv
              clear hb
              go_wp2
              go_loopw [12, 13] (fun b i wr => ∃ j : Nat, j ≤ s.size ∧ i = .int .i64 (j : Int) ∧ b = .bool (quoB ((bl s).take j)) ∧ Below w6.heap.size w6 wr) (fun _ i _ => s.size - (intOf i).toNat)
              case atStart => exact ⟨0, Nat.zero_le _, rfl, rfl, Below.refl _ _⟩
              case round =>
                obtain ⟨j, hj, rfl, rfl, hb⟩ := hrel
                have S7 := hide hb
                clear hb
                by_cases hlt : (j : Int) < (s.size : Int)
                · have hpl : j < s.size := by omega
                  obtain ⟨x, hx⟩ : ∃ x : UInt8, s[j] = x := ⟨_, rfl⟩
                  have HNX := hide (quo_step (show (bl s)[j]? = some x by rw [bl_at s j hpl, hx]))
                  have hxx := u8_eq x 39 39 rfl
                  have hx256 := x.toNat_lt
                  generalize quoB ((bl s).take j) = q0 at *
                  cases q0 with
                  | true =>
                    go_wp2
                    go_roundw
                    case rel => exact ⟨j + 1, by omega, by go_num, by rw [← HNX.out]; rfl, S7.out⟩
                    case measure => simp [intOf]; omega
                  | false =>
                    cases hx9 : (x == 39) with
                    | true =>
                      rw [hx9] at hxx HNX
                      clear hx9
                      go_wp2
                      go_roundw
                      case rel => exact ⟨j + 1, by omega, by go_num, by rw [← HNX.out]; rfl, S7.out⟩
                      case measure => simp [intOf]; omega
                    | false =>
                      rw [hx9] at hxx HNX
                      clear hx9
                      go_wp2
                      go_roundw
                      case rel => exact ⟨j + 1, by omega, by go_num, by rw [← HNX.out]; rfl, S7.out⟩
                      case measure => simp [intOf]; omega
                · obtain rfl : j = s.size := by omega
                  have hq9 : quoB ((bl s).take s.size) = false := by rw [← bl_len, List.take_length]; exact HQ.out
                  rw [hq9]
                  clear hq9
                  go_wp2_with fail
                  refine ((tex_any (V1.out.below (bel_trans (bel_trans (bel_trans S4.out S5.out) S6.out) S7.out)) (V2.out.below (bel_trans (bel_trans S5.out S6.out) S7.out)) hN1.out hN12.out HL12.out (c := c1) (d := c2))).mono ?_
                  rintro e9 w8 ⟨rfl, hb⟩
                  have S8 := hide (hb)
                  clear hb
                  go_wp2_with fail
                  refine ((tex_any (V1.out.below (bel_trans (bel_trans (bel_trans (bel_trans S4.out S5.out) S6.out) S7.out) S8.out)) (V3.out.below (bel_trans (bel_trans S6.out S7.out) S8.out)) hN1.out hN13.out HL13.out (c := c1) (d := c3))).mono ?_
                  rintro e9 w9 ⟨rfl, hb⟩
                  have S9 := hide (hb)
                  clear hb
                  go_wp2
                  go_ret
                  exact ⟨rfl, (bel_trans (bel_trans (bel_trans (bel_trans (bel_trans (bel_trans (bel_trans (bel_trans S1.out S2.out) S3.out) S4.out) S5.out) S6.out) S7.out) S8.out) S9.out)⟩
            · have L1 := hide (fun W hz => ltr_ex 1 s (ltrs_N h1) rfl hs8 W hz)
              have L2 := hide (fun W hz => ltr_ex 2 s (ltrs_N (hcc h1).1) rfl hs8 W hz)
              have L3 := hide (fun W hz => ltr_ex 3 s (ltrs_N h3) rfl hs8 W hz)
              have L4 := hide (fun W hz => ltr_ex 4 s (ltrs_N h4) rfl hs8 W hz)
              have HQ := hide hq
              have HL12 := hide (show (ltrs 1 (bl s)).1 = (ltrs 2 (bl s)).1 from (hcc h1).2.symm)
              have hN12 := hide (show (ltrs 1 (bl s)).1.length = (ltrs 2 (bl s)).1.length by rw [HL12.out])
              have hN1 := hide (show (ltrs 1 (bl s)).1.length ≤ 1000000 from Nat.le_trans (word_iff.1 h1).2.2 (by omega))
              have HL13 := hide (show (ltrs 1 (bl s)).1 = (ltrs 3 (bl s)).1 from (hca h3 (quo_no hq)).2)
              have hN13 := hide (show (ltrs 1 (bl s)).1.length = (ltrs 3 (bl s)).1.length by rw [HL13.out])
              clear hcc hca hcs h1 h3 h4 hq
              generalize (ltrs 1 (bl s)).1 = l1 at *
              generalize (ltrs 2 (bl s)).1 = l2 at *
              generalize (ltrs 3 (bl s)).1 = l3 at *
              generalize (ltrs 4 (bl s)).1 = l4 at *
              have i12 : ¬ (12 : Int) < (s.size : Int) := by omega
              go_enter Tryd.func10, Tryd.ntmps10
              go_wp2_with fail
              refine (KH.out).mono ?_
              rintro e9 w1 ⟨rfl, hb⟩
              have S1 := hide (hb)
              clear KH
              clear hb
              go_wp2_with fail
              refine (KS.out w1).mono ?_
              rintro e9 w2 ⟨rfl, hb⟩
              have S2 := hide (bel_trans (bel_new _ (Below.refl _ _)) hb)
              clear KS
              clear hb
              go_wp2_with fail
              refine (L1.out w2 (HZ.out.below (bel_trans S1.out S2.out))).mono ?_
              rintro e9 w3 ⟨A1, c1, rfl, hb, hv⟩
              have S3 := hide (hb)
              have V1 := hide hv
              clear L1 hv
              clear hb
              go_wp2_with fail
              refine (L2.out w3 (HZ.out.below (bel_trans (bel_trans S1.out S2.out) S3.out))).mono ?_
              rintro e9 w4 ⟨A2, c2, rfl, hb, hv⟩
              have S4 := hide (hb)
              have V2 := hide hv
              clear L2 hv
              clear hb
              go_wp2_with fail
              refine (L3.out w4 (HZ.out.below (bel_trans (bel_trans (bel_trans S1.out S2.out) S3.out) S4.out))).mono ?_
              rintro e9 w5 ⟨A3, c3, rfl, hb, hv⟩
              have S5 := hide (hb)
              have V3 := hide hv
              clear L3 hv
              clear hb
              go_wp2_with fail
              refine (L4.out w5 (HZ.out.below (bel_trans (bel_trans (bel_trans (bel_trans S1.out S2.out) S3.out) S4.out) S5.out))).mono ?_
              rintro e9 w6 ⟨A4, c4, rfl, hb, hv⟩
              have S6 := hide (hb)
              have V4 := hide hv
              clear L4 hv
              clear hb
              go_wp2
              go_loopw [12, 13] (fun b i wr => ∃ j : Nat, j ≤ s.size ∧ i = .int .i64 (j : Int) ∧ b = .bool (quoB ((bl s).take j)) ∧ Below w6.heap.size w6 wr) (fun _ i _ => s.size - (intOf i).toNat)
              case atStart => exact ⟨0, Nat.zero_le _, rfl, rfl, Below.refl _ _⟩
              case round =>
                obtain ⟨j, hj, rfl, rfl, hb⟩ := hrel
                have S7 := hide hb
                clear hb
                by_cases hlt : (j : Int) < (s.size : Int)
                · have hpl : j < s.size := by omega
                  obtain ⟨x, hx⟩ : ∃ x : UInt8, s[j] = x := ⟨_, rfl⟩
                  have HNX := hide (quo_step (show (bl s)[j]? = some x by rw [bl_at s j hpl, hx]))
                  have hxx := u8_eq x 39 39 rfl
                  have hx256 := x.toNat_lt
                  generalize quoB ((bl s).take j) = q0 at *
                  cases q0 with
                  | true =>
                    go_wp2
                    go_roundw
                    case rel => exact ⟨j + 1, by omega, by go_num, by rw [← HNX.out]; rfl, S7.out⟩
                    case measure => simp [intOf]; omega
                  | false =>
                    cases hx9 : (x == 39) with
                    | true =>
                      rw [hx9] at hxx HNX
                      clear hx9
                      go_wp2
                      go_roundw
                      case rel => exact ⟨j + 1, by omega, by go_num, by rw [← HNX.out]; rfl, S7.out⟩
                      case measure => simp [intOf]; omega
                    | false =>
                      rw [hx9] at hxx HNX
                      clear hx9
                      go_wp2
                      go_roundw
                      case rel => exact ⟨j + 1, by omega, by go_num, by rw [← HNX.out]; rfl, S7.out⟩
                      case measure => simp [intOf]; omega
                · obtain rfl : j = s.size := by omega
                  have hq9 : quoB ((bl s).take s.size) = false := by rw [← bl_len, List.take_length]; exact HQ.out
                  rw [hq9]
                  clear hq9
                  go_wp2_with fail
                  refine ((tex_any (V1.out.below (bel_trans (bel_trans (bel_trans S4.out S5.out) S6.out) S7.out)) (V2.out.below (bel_trans (bel_trans S5.out S6.out) S7.out)) hN1.out hN12.out HL12.out (c := c1) (d := c2))).mono ?_
                  rintro e9 w8 ⟨rfl, hb⟩
                  have S8 := hide (hb)
                  clear hb
                  go_wp2_with fail
                  refine ((tex_any (V1.out.below (bel_trans (bel_trans (bel_trans (bel_trans S4.out S5.out) S6.out) S7.out) S8.out)) (V3.out.below (bel_trans (bel_trans S6.out S7.out) S8.out)) hN1.out hN13.out HL13.out (c := c1) (d := c3))).mono ?_
                  rintro e9 w9 ⟨rfl, hb⟩
                  have S9 := hide (hb)
                  clear hb
                  go_wp2
                  go_ret
                  exact ⟨rfl, (bel_trans (bel_trans (bel_trans (bel_trans (bel_trans (bel_trans (bel_trans (bel_trans S1.out S2.out) S3.out) S4.out) S5.out) S6.out) S7.out) S8.out) S9.out)⟩
          | false =>
            have L1 := hide (fun W hz => ltr_ex 1 s (ltrs_N h1) rfl hs8 W hz)
            have L2 := hide (fun W hz => ltr_ex 2 s (ltrs_N (hcc h1).1) rfl hs8 W hz)
            have L3 := hide (fun W hz => ltr_ex 3 s (ltrs_N h3) rfl hs8 W hz)
            have L4 := hide (fun W hz => ltr_ex 4 s (ltrs_no h4) rfl hs8 W hz)
            have HQ := hide hq
            have HL12 := hide (show (ltrs 1 (bl s)).1 = (ltrs 2 (bl s)).1 from (hcc h1).2.symm)
            have hN12 := hide (show (ltrs 1 (bl s)).1.length = (ltrs 2 (bl s)).1.length by rw [HL12.out])
            have hN1 := hide (show (ltrs 1 (bl s)).1.length ≤ 1000000 from Nat.le_trans (word_iff.1 h1).2.2 (by omega))
            have HL13 := hide (show (ltrs 1 (bl s)).1 = (ltrs 3 (bl s)).1 from (hca h3 (quo_no hq)).2)
            have hN13 := hide (show (ltrs 1 (bl s)).1.length = (ltrs 3 (bl s)).1.length by rw [HL13.out])
            clear hcc hca hcs h1 h3 h4 hq
            generalize (ltrs 1 (bl s)).1 = l1 at *
            generalize (ltrs 2 (bl s)).1 = l2 at *
            generalize (ltrs 3 (bl s)).1 = l3 at *
            go_enter Tryd.func10, Tryd.ntmps10
            go_wp2_with fail
            refine (KH.out).mono ?_
            rintro e9 w1 ⟨rfl, hb⟩
            have S1 := hide (hb)
            clear KH
            clear hb
            go_wp2_with fail
            refine (KS.out w1).mono ?_
            rintro e9 w2 ⟨rfl, hb⟩
            have S2 := hide (bel_trans (bel_new _ (Below.refl _ _)) hb)
            clear KS
            clear hb
            go_wp2_with fail
            refine (L1.out w2 (HZ.out.below (bel_trans S1.out S2.out))).mono ?_
            rintro e9 w3 ⟨A1, c1, rfl, hb, hv⟩
            have S3 := hide (hb)
            have V1 := hide hv
            clear L1 hv
            clear hb
            go_wp2_with fail
            refine (L2.out w3 (HZ.out.below (bel_trans (bel_trans S1.out S2.out) S3.out))).mono ?_
            rintro e9 w4 ⟨A2, c2, rfl, hb, hv⟩
            have S4 := hide (hb)
            have V2 := hide hv
            clear L2 hv
            clear hb
            go_wp2_with fail
            refine (L3.out w4 (HZ.out.below (bel_trans (bel_trans (bel_trans S1.out S2.out) S3.out) S4.out))).mono ?_
            rintro e9 w5 ⟨A3, c3, rfl, hb, hv⟩
            have S5 := hide (hb)
            have V3 := hide hv
            clear L3 hv
            clear hb
            go_wp2_with fail
            refine (L4.out w5 (HZ.out.below (bel_trans (bel_trans (bel_trans (bel_trans S1.out S2.out) S3.out) S4.out) S5.out))).mono ?_
            rintro e9 w6 ⟨A4, c4, rfl, hb, hv⟩
            have S6 := hide (hb)
            have V4 := hide hv
            clear L4 hv
            clear hb
            go_wp2
            go_loopw [12, 13] (fun b i wr => ∃ j : Nat, j ≤ s.size ∧ i = .int .i64 (j : Int) ∧ b = .bool (quoB ((bl s).take j)) ∧ Below w6.heap.size w6 wr) (fun _ i _ => s.size - (intOf i).toNat)
            case atStart => exact ⟨0, Nat.zero_le _, rfl, rfl, Below.refl _ _⟩
            case round =>
              obtain ⟨j, hj, rfl, rfl, hb⟩ := hrel
              have S7 := hide hb
              clear hb
              by_cases hlt : (j : Int) < (s.size : Int)
              · have hpl : j < s.size := by omega
                obtain ⟨x, hx⟩ : ∃ x : UInt8, s[j] = x := ⟨_, rfl⟩
                have HNX := hide (quo_step (show (bl s)[j]? = some x by rw [bl_at s j hpl, hx]))
                have hxx := u8_eq x 39 39 rfl
                have hx256 := x.toNat_lt
                generalize quoB ((bl s).take j) = q0 at *
                cases q0 with
                | true =>
                  go_wp2
                  go_roundw
                  case rel => exact ⟨j + 1, by omega, by go_num, by rw [← HNX.out]; rfl, S7.out⟩
                  case measure => simp [intOf]; omega
                | false =>
                  cases hx9 : (x == 39) with
                  | true =>
                    rw [hx9] at hxx HNX
                    clear hx9
                    go_wp2
                    go_roundw
                    case rel => exact ⟨j + 1, by omega, by go_num, by rw [← HNX.out]; rfl, S7.out⟩
                    case measure => simp [intOf]; omega
                  | false =>
                    rw [hx9] at hxx HNX
                    clear hx9
                    go_wp2
                    go_roundw
                    case rel => exact ⟨j + 1, by omega, by go_num, by rw [← HNX.out]; rfl, S7.out⟩
                    case measure => simp [intOf]; omega
              · obtain rfl : j = s.size := by omega
                have hq9 : quoB ((bl s).take s.size) = false := by rw [← bl_len, List.take_length]; exact HQ.out
                rw [hq9]
                clear hq9
                go_wp2_with fail
                refine ((tex_any (V1.out.below (bel_trans (bel_trans (bel_trans S4.out S5.out) S6.out) S7.out)) (V2.out.below (bel_trans (bel_trans S5.out S6.out) S7.out)) hN1.out hN12.out HL12.out (c := c1) (d := c2))).mono ?_
                rintro e9 w8 ⟨rfl, hb⟩
                have S8 := hide (hb)
                clear hb
                go_wp2_with fail
                refine ((tex_any (V1.out.below (bel_trans (bel_trans (bel_trans (bel_trans S4.out S5.out) S6.out) S7.out) S8.out)) (V3.out.below (bel_trans (bel_trans S6.out S7.out) S8.out)) hN1.out hN13.out HL13.out (c := c1) (d := c3))).mono ?_
                rintro e9 w9 ⟨rfl, hb⟩
                have S9 := hide (hb)
                clear hb
                go_wp2
                go_ret
                exact ⟨rfl, (bel_trans (bel_trans (bel_trans (bel_trans (bel_trans (bel_trans (bel_trans (bel_trans S1.out S2.out) S3.out) S4.out) S5.out) S6.out) S7.out) S8.out) S9.out)⟩
      | false =>
        cases h4 : word 4 (bl s) with
        | true =>
          by_cases hlg : 12 < s.size
          · have L1 := hide (fun W hz => ltr_ex 1 s (ltrs_N h1) rfl hs8 W hz)
            have L2 := hide (fun W hz => ltr_ex 2 s (ltrs_N (hcc h1).1) rfl hs8 W hz)
            have L3 := hide (fun W hz => ltr_ex 3 s (ltrs_no h3) rfl hs8 W hz)
            have L4 := hide (fun W hz => ltr_ex 4 s (ltrs_N h4) rfl hs8 W hz)
            have HL12 := hide (show (ltrs 1 (bl s)).1 = (ltrs 2 (bl s)).1 from (hcc h1).2.symm)
            have hN12 := hide (show (ltrs 1 (bl s)).1.length = (ltrs 2 (bl s)).1.length by rw [HL12.out])
            have hN1 := hide (show (ltrs 1 (bl s)).1.length ≤ 1000000 from Nat.le_trans (word_iff.1 h1).2.2 (by omega))
            clear hcc hca hcs h1 h3 h4
            generalize (ltrs 1 (bl s)).1 = l1 at *
            generalize (ltrs 2 (bl s)).1 = l2 at *
            generalize (ltrs 4 (bl s)).1 = l4 at *
            have i12 : (12 : Int) < (s.size : Int) := by omega
            go_enter Tryd.func10, Tryd.ntmps10
            go_wp2_with fail
            refine (KH.out).mono ?_
            rintro e9 w1 ⟨rfl, hb⟩
            have S1 := hide (hb)
            clear KH
            clear hb
            go_wp2_with fail
            refine (KS.out w1).mono ?_
            rintro e9 w2 ⟨rfl, hb⟩
            have S2 := hide (bel_trans (bel_new _ (Below.refl _ _)) hb)
            clear KS
            clear hb
            go_wp2_with fail
            refine (L1.out w2 (HZ.out.below (bel_trans S1.out S2.out))).mono ?_
            rintro e9 w3 ⟨A1, c1, rfl, hb, hv⟩
            have S3 := hide (hb)
            have V1 := hide hv
            clear L1 hv
            clear hb
            go_wp2_with fail
            refine (L2.out w3 (HZ.out.below (bel_trans (bel_trans S1.out S2.out) S3.out))).mono ?_
            rintro e9 w4 ⟨A2, c2, rfl, hb, hv⟩
            have S4 := hide (hb)
            have V2 := hide hv
            clear L2 hv
            clear hb
            go_wp2_with fail
            refine (L3.out w4 (HZ.out.below (bel_trans (bel_trans (bel_trans S1.out S2.out) S3.out) S4.out))).mono ?_
            rintro e9 w5 ⟨A3, c3, rfl, hb, hv⟩
            have S5 := hide (hb)
            have V3 := hide hv
            clear L3 hv
            clear hb
            go_wp2_with fail
            refine (L4.out w5 (HZ.out.below (bel_trans (bel_trans (bel_trans (bel_trans S1.out S2.out) S3.out) S4.out) S5.out))).mono ?_
            rintro e9 w6 ⟨A4, c4, rfl, hb, hv⟩
            have S6 := hide (hb)
            have V4 := hide hv
            clear L4 hv
            clear hb
            go_wp2
            go_loopw [12, 13] (fun b i wr => ∃ j : Nat, j ≤ s.size ∧ i = .int .i64 (j : Int) ∧ b = .bool (quoB ((bl s).take j)) ∧ Below w6.heap.size w6 wr) (fun _ i _ => s.size - (intOf i).toNat)
            case atStart => exact ⟨0, Nat.zero_le _, rfl, rfl, Below.refl _ _⟩
            case round =>
              obtain ⟨j, hj, rfl, rfl, hb⟩ := hrel
              have S7 := hide hb
              clear hb
              by_cases hlt : (j : Int) < (s.size : Int)
              · have hpl : j < s.size := by omega
                obtain ⟨x, hx⟩ : ∃ x : UInt8, s[j] = x := ⟨_, rfl⟩
                have HNX := hide (quo_step (show (bl s)[j]? = some x by rw [bl_at s j hpl, hx]))
                have hxx := u8_eq x 39 39 rfl
                have hx256 := x.toNat_lt
                generalize quoB ((bl s).take j) = q0 at *
                cases q0 with
                | true =>
                  go_wp2
                  go_roundw
                  case rel => exact ⟨j + 1, by omega, by go_num, by rw [← HNX.out]; rfl, S7.out⟩
                  case measure => simp [intOf]; omega
                | false =>
                  cases hx9 : (x == 39) with
                  | true =>
                    rw [hx9] at hxx HNX
                    clear hx9
                    go_wp2
                    go_roundw
                    case rel => exact ⟨j + 1, by omega, by go_num, by rw [← HNX.out]; rfl, S7.out⟩
                    case measure => simp [intOf]; omega
                  | false =>
                    rw [hx9] at hxx HNX
                    clear hx9
                    go_wp2
                    go_roundw
                    case rel => exact ⟨j + 1, by omega, by go_num, by rw [← HNX.out]; rfl, S7.out⟩
                    case measure => simp [intOf]; omega
              · obtain rfl : j = s.size := by omega
                have hq9 : ∃ q9, q9 = quoB ((bl s).take s.size) := ⟨_, rfl⟩
                obtain ⟨q9, hq9⟩ := hq9
                rw [← hq9]
                clear hq9
                go_wp2_with fail
                refine ((tex_any (V1.out.below (bel_trans (bel_trans (bel_trans S4.out S5.out) S6.out) S7.out)) (V2.out.below (bel_trans (bel_trans S5.out S6.out) S7.out)) hN1.out hN12.out HL12.out (c := c1) (d := c2))).mono ?_
                rintro e9 w8 ⟨rfl, hb⟩
                have S8 := hide (hb)
                clear hb
                go_wp2
                go_ret
                exact ⟨rfl, (bel_trans (bel_trans (bel_trans (bel_trans (bel_trans (bel_trans (bel_trans S1.out S2.out) S3.out) S4.out) S5.out) S6.out) S7.out) S8.out)⟩
          · have L1 := hide (fun W hz => ltr_ex 1 s (ltrs_N h1) rfl hs8 W hz)
            have L2 := hide (fun W hz => ltr_ex 2 s (ltrs_N (hcc h1).1) rfl hs8 W hz)
            have L3 := hide (fun W hz => ltr_ex 3 s (ltrs_no h3) rfl hs8 W hz)
            have L4 := hide (fun W hz => ltr_ex 4 s (ltrs_N h4) rfl hs8 W hz)
            have HL12 := hide (show (ltrs 1 (bl s)).1 = (ltrs 2 (bl s)).1 from (hcc h1).2.symm)
            have hN12 := hide (show (ltrs 1 (bl s)).1.length = (ltrs 2 (bl s)).1.length by rw [HL12.out])
            have hN1 := hide (show (ltrs 1 (bl s)).1.length ≤ 1000000 from Nat.le_trans (word_iff.1 h1).2.2 (by omega))
            clear hcc hca hcs h1 h3 h4
            generalize (ltrs 1 (bl s)).1 = l1 at *
            generalize (ltrs 2 (bl s)).1 = l2 at *
            generalize (ltrs 4 (bl s)).1 = l4 at *
            have i12 : ¬ (12 : Int) < (s.size : Int) := by omega
            go_enter Tryd.func10, Tryd.ntmps10
            go_wp2_with fail
            refine (KH.out).mono ?_
            rintro e9 w1 ⟨rfl, hb⟩
            have S1 := hide (hb)
            clear KH
            clear hb
            go_wp2_with fail
            refine (KS.out w1).mono ?_
            rintro e9 w2 ⟨rfl, hb⟩
            have S2 := hide (bel_trans (bel_new _ (Below.refl _ _)) hb)
            clear KS
            clear hb
            go_wp2_with fail
            refine (L1.out w2 (HZ.out.below (bel_trans S1.out S2.out))).mono ?_
            rintro e9 w3 ⟨A1, c1, rfl, hb, hv⟩
            have S3 := hide (hb)
            have V1 := hide hv
            clear L1 hv
            clear hb
            go_wp2_with fail
            refine (L2.out w3 (HZ.out.below (bel_trans (bel_trans S1.out S2.out) S3.out))).mono ?_
            rintro e9 w4 ⟨A2, c2, rfl, hb, hv⟩
            have S4 := hide (hb)
            have V2 := hide hv
            clear L2 hv
            clear hb
            go_wp2_with fail
            refine (L3.out w4 (HZ.out.below (bel_trans (bel_trans (bel_trans S1.out S2.out) S3.out) S4.out))).mono ?_
            rintro e9 w5 ⟨A3, c3, rfl, hb, hv⟩
            have S5 := hide (hb)
            have V3 := hide hv
            clear L3 hv
            clear hb
            go_wp2_with fail
            refine (L4.out w5 (HZ.out.below (bel_trans (bel_trans (bel_trans (bel_trans S1.out S2.out) S3.out) S4.out) S5.out))).mono ?_
            rintro e9 w6 ⟨A4, c4, rfl, hb, hv⟩
            have S6 := hide (hb)
            have V4 := hide hv
            clear L4 hv
            clear hb
            go_wp2
            go_loopw [12, 13] (fun b i wr => ∃ j : Nat, j ≤ s.size ∧ i = .int .i64 (j : Int) ∧ b = .bool (quoB ((bl s).take j)) ∧ Below w6.heap.size w6 wr) (fun _ i _ => s.size - (intOf i).toNat)
            case atStart => exact ⟨0, Nat.zero_le _, rfl, rfl, Below.refl _ _⟩
            case round =>
              obtain ⟨j, hj, rfl, rfl, hb⟩ := hrel
              have S7 := hide hb
              clear hb
              by_cases hlt : (j : Int) < (s.size : Int)
              · have hpl : j < s.size := by omega
                obtain ⟨x, hx⟩ : ∃ x : UInt8, s[j] = x := ⟨_, rfl⟩
                have HNX := hide (quo_step (show (bl s)[j]? = some x by rw [bl_at s j hpl, hx]))
                have hxx := u8_eq x 39 39 rfl
                have hx256 := x.toNat_lt
                generalize quoB ((bl s).take j) = q0 at *
                cases q0 with
                | true =>
                  go_wp2
                  go_roundw
                  case rel => exact ⟨j + 1, by omega, by go_num, by rw [← HNX.out]; rfl, S7.out⟩
                  case measure => simp [intOf]; omega
                | false =>
                  cases hx9 : (x == 39) with
                  | true =>
                    rw [hx9] at hxx HNX
                    clear hx9
                    go_wp2
                    go_roundw
                    case rel => exact ⟨j + 1, by omega, by go_num, by rw [← HNX.out]; rfl, S7.out⟩
                    case measure => simp [intOf]; omega
                  | false =>
                    rw [hx9] at hxx HNX
                    clear hx9
                    go_wp2
                    go_roundw
                    case rel => exact ⟨j + 1, by omega, by go_num, by rw [← HNX.out]; rfl, S7.out⟩
                    case measure => simp [intOf]; omega
              · obtain rfl : j = s.size := by omega
                have hq9 : ∃ q9, q9 = quoB ((bl s).take s.size) := ⟨_, rfl⟩
                obtain ⟨q9, hq9⟩ := hq9
                rw [← hq9]
                clear hq9
                go_wp2_with fail
                refine ((tex_any (V1.out.below (bel_trans (bel_trans (bel_trans S4.out S5.out) S6.out) S7.out)) (V2.out.below (bel_trans (bel_trans S5.out S6.out) S7.out)) hN1.out hN12.out HL12.out (c := c1) (d := c2))).mono ?_
                rintro e9 w8 ⟨rfl, hb⟩
                have S8 := hide (hb)
                clear hb
                go_wp2
                go_ret
                exact ⟨rfl, (bel_trans (bel_trans (bel_trans (bel_trans (bel_trans (bel_trans (bel_trans S1.out S2.out) S3.out) S4.out) S5.out) S6.out) S7.out) S8.out)⟩
        | false =>
          have L1 := hide (fun W hz => ltr_ex 1 s (ltrs_N h1) rfl hs8 W hz)
          have L2 := hide (fun W hz => ltr_ex 2 s (ltrs_N (hcc h1).1) rfl hs8 W hz)
          have L3 := hide (fun W hz => ltr_ex 3 s (ltrs_no h3) rfl hs8 W hz)
          have L4 := hide (fun W hz => ltr_ex 4 s (ltrs_no h4) rfl hs8 W hz)
          have HL12 := hide (show (ltrs 1 (bl s)).1 = (ltrs 2 (bl s)).1 from (hcc h1).2.symm)
          have hN12 := hide (show (ltrs 1 (bl s)).1.length = (ltrs 2 (bl s)).1.length by rw [HL12.out])
          have hN1 := hide (show (ltrs 1 (bl s)).1.length ≤ 1000000 from Nat.le_trans (word_iff.1 h1).2.2 (by omega))
          clear hcc hca hcs h1 h3 h4
          generalize (ltrs 1 (bl s)).1 = l1 at *
          generalize (ltrs 2 (bl s)).1 = l2 at *
          go_enter Tryd.func10, Tryd.ntmps10
          go_wp2_with fail
          refine (KH.out).mono ?_
          rintro e9 w1 ⟨rfl, hb⟩
          have S1 := hide (hb)
          clear KH
          clear hb
          go_wp2_with fail
          refine (KS.out w1).mono ?_
          rintro e9 w2 ⟨rfl, hb⟩
          have S2 := hide (bel_trans (bel_new _ (Below.refl _ _)) hb)
          clear KS
          clear hb
          go_wp2_with fail
          refine (L1.out w2 (HZ.out.below (bel_trans S1.out S2.out))).mono ?_
          rintro e9 w3 ⟨A1, c1, rfl, hb, hv⟩
          have S3 := hide (hb)
          have V1 := hide hv
          clear L1 hv
          clear hb
          go_wp2_with fail
          refine (L2.out w3 (HZ.out.below (bel_trans (bel_trans S1.out S2.out) S3.out))).mono ?_
          rintro e9 w4 ⟨A2, c2, rfl, hb, hv⟩
          have S4 := hide (hb)
          have V2 := hide hv
          clear L2 hv
          clear hb
          go_wp2_with fail
          refine (L3.out w4 (HZ.out.below (bel_trans (bel_trans (bel_trans S1.out S2.out) S3.out) S4.out))).mono ?_
          rintro e9 w5 ⟨A3, c3, rfl, hb, hv⟩
          have S5 := hide (hb)
          have V3 := hide hv
          clear L3 hv
          clear hb
          go_wp2_with fail
          refine (L4.out w5 (HZ.out.below (bel_trans (bel_trans (bel_trans (bel_trans S1.out S2.out) S3.out) S4.out) S5.out))).mono ?_
          rintro e9 w6 ⟨A4, c4, rfl, hb, hv⟩
          have S6 := hide (hb)
          have V4 := hide hv
          clear L4 hv
          clear hb
          go_wp2
          go_loopw [12, 13] (fun b i wr => ∃ j : Nat, j ≤ s.size ∧ i = .int .i64 (j : Int) ∧ b = .bool (quoB ((bl s).take j)) ∧ Below w6.heap.size w6 wr) (fun _ i _ => s.size - (intOf i).toNat)
          case atStart => exact ⟨0, Nat.zero_le _, rfl, rfl, Below.refl _ _⟩
          case round =>
            obtain ⟨j, hj, rfl, rfl, hb⟩ := hrel
            have S7 := hide hb
            clear hb
            by_cases hlt : (j : Int) < (s.size : Int)
            · have hpl : j < s.size := by omega
              obtain ⟨x, hx⟩ : ∃ x : UInt8, s[j] = x := ⟨_, rfl⟩
              have HNX := hide (quo_step (show (bl s)[j]? = some x by rw [bl_at s j hpl, hx]))
              have hxx := u8_eq x 39 39 rfl
              have hx256 := x.toNat_lt
              generalize quoB ((bl s).take j) = q0 at *
              cases q0 with
              | true =>
                go_wp2
                go_roundw
                case rel => exact ⟨j + 1, by omega, by go_num, by rw [← HNX.out]; rfl, S7.out⟩
                case measure => simp [intOf]; omega
              | false =>
                cases hx9 : (x == 39) with
                | true =>
                  rw [hx9] at hxx HNX
                  clear hx9
                  go_wp2
                  go_roundw
                  case rel => exact ⟨j + 1, by omega, by go_num, by rw [← HNX.out]; rfl, S7.out⟩
                  case measure => simp [intOf]; omega
                | false =>
                  rw [hx9] at hxx HNX
                  clear hx9
                  go_wp2
                  go_roundw
                  case rel => exact ⟨j + 1, by omega, by go_num, by rw [← HNX.out]; rfl, S7.out⟩
                  case measure => simp [intOf]; omega
            · obtain rfl : j = s.size := by omega
              have hq9 : ∃ q9, q9 = quoB ((bl s).take s.size) := ⟨_, rfl⟩
              obtain ⟨q9, hq9⟩ := hq9
              rw [← hq9]
              clear hq9
              go_wp2_with fail
              refine ((tex_any (V1.out.below (bel_trans (bel_trans (bel_trans S4.out S5.out) S6.out) S7.out)) (V2.out.below (bel_trans (bel_trans S5.out S6.out) S7.out)) hN1.out hN12.out HL12.out (c := c1) (d := c2))).mono ?_
              rintro e9 w8 ⟨rfl, hb⟩
              have S8 := hide (hb)
              clear hb
              go_wp2
              go_ret
              exact ⟨rfl, (bel_trans (bel_trans (bel_trans (bel_trans (bel_trans (bel_trans (bel_trans S1.out S2.out) S3.out) S4.out) S5.out) S6.out) S7.out) S8.out)⟩
    | false =>
      cases h3 : word 3 (bl s) with
      | true =>
        cases hq : quoB (bl s) with
        | true =>
          cases h4 : word 4 (bl s) with
          | true =>
            by_cases hlg : 12 < s.size
            · have L1 := hide (fun W hz => ltr_ex 1 s (ltrs_no h1) rfl hs8 W hz)
              have L2 := hide (fun W hz => ltr_ex 2 s (r := (lettersN 2 (bl s)).1) (x := (lettersN 2 (bl s)).2) rfl rfl hs8 W hz)
              have L3 := hide (fun W hz => ltr_ex 3 s (ltrs_N h3) rfl hs8 W hz)
              have L4 := hide (fun W hz => ltr_ex 4 s (ltrs_N h4) rfl hs8 W hz)
              have HQ := hide hq
              clear hcc hca hcs h1 h3 h4 hq
              generalize (lettersN 2 (bl s)).1 = l2 at *
              generalize (lettersN 2 (bl s)).2 = x2 at *
              generalize (ltrs 3 (bl s)).1 = l3 at *
              generalize (ltrs 4 (bl s)).1 = l4 at *
              have i12 : (12 : Int) < (s.size : Int) := by omega
              go_enter Tryd.func10, Tryd.ntmps10
              go_wp2_with fail
              refine (KH.out).mono ?_
              rintro e9 w1 ⟨rfl, hb⟩
              have S1 := hide (hb)
              clear KH
              clear hb
              go_wp2_with fail
              refine (KS.out w1).mono ?_
              rintro e9 w2 ⟨rfl, hb⟩
              have S2 := hide (bel_trans (bel_new _ (Below.refl _ _)) hb)
              clear KS
              clear hb
              go_wp2_with fail
              refine (L1.out w2 (HZ.out.below (bel_trans S1.out S2.out))).mono ?_
              rintro e9 w3 ⟨A1, c1, rfl, hb, hv⟩
              have S3 := hide (hb)
              have V1 := hide hv
              clear L1 hv
              clear hb
              go_wp2_with fail
              refine (L2.out w3 (HZ.out.below (bel_trans (bel_trans S1.out S2.out) S3.out))).mono ?_
              rintro e9 w4 ⟨A2, c2, rfl, hb, hv⟩
              have S4 := hide (hb)
              have V2 := hide hv
              clear L2 hv
              clear hb
              go_wp2_with fail
              refine (L3.out w4 (HZ.out.below (bel_trans (bel_trans (bel_trans S1.out S2.out) S3.out) S4.out))).mono ?_
              rintro e9 w5 ⟨A3, c3, rfl, hb, hv⟩
              have S5 := hide (hb)
              have V3 := hide hv
              clear L3 hv
              clear hb
              go_wp2_with fail
              refine (L4.out w5 (HZ.out.below (bel_trans (bel_trans (bel_trans (bel_trans S1.out S2.out) S3.out) S4.out) S5.out))).mono ?_
              rintro e9 w6 ⟨A4, c4, rfl, hb, hv⟩
              have S6 := hide (hb)
              have V4 := hide hv
              clear L4 hv
              clear hb
              go_wp2
              go_loopw [12, 13] (fun b i wr => ∃ j : Nat, j ≤ s.size ∧ i = .int .i64 (j : Int) ∧ b = .bool (quoB ((bl s).take j)) ∧ Below w6.heap.size w6 wr) (fun _ i _ => s.size - (intOf i).toNat)
              case atStart => exact ⟨0, Nat.zero_le _, rfl, rfl, Below.refl _ _⟩
              case round =>
                obtain ⟨j, hj, rfl, rfl, hb⟩ := hrel
                have S7 := hide hb
                clear hb
                by_cases hlt : (j : Int) < (s.size : Int)
                · have hpl : j < s.size := by omega
                  obtain ⟨x, hx⟩ : ∃ x : UInt8, s[j] = x := ⟨_, rfl⟩
                  have HNX := hide (quo_step (show (bl s)[j]? = some x by rw [bl_at s j hpl, hx]))
                  have hxx := u8_eq x 39 39 rfl
                  have hx256 := x.toNat_lt
                  generalize quoB ((bl s).take j) = q0 at *
                  cases q0 with
                  | true =>
                    go_wp2
                    go_roundw
                    case rel => exact ⟨j + 1, by omega, by go_num, by rw [← HNX.out]; rfl, S7.out⟩
                    case measure => simp [intOf]; omega
                  | false =>
                    cases hx9 : (x == 39) with
                    | true =>
                      rw [hx9] at hxx HNX
                      clear hx9
                      go_wp2
                      go_roundw
                      case rel => exact ⟨j + 1, by omega, by go_num, by rw [← HNX.out]; rfl, S7.out⟩
                      case measure => simp [intOf]; omega
                    | false =>
                      rw [hx9] at hxx HNX
                      clear hx9
                      go_wp2
                      go_roundw
                      case rel => exact ⟨j + 1, by omega, by go_num, by rw [← HNX.out]; rfl, S7.out⟩
                      case measure => simp [intOf]; omega
                · obtain rfl : j = s.size := by omega
                  have hq9 : quoB ((bl s).take s.size) = true := by rw [← bl_len, List.take_length]; exact HQ.out
                  rw [hq9]
                  clear hq9
                  go_wp2
                  go_ret
                  exact ⟨rfl, (bel_trans (bel_trans (bel_trans (bel_trans (bel_trans (bel_trans S1.out S2.out) S3.out) S4.out) S5.out) S6.out) S7.out)⟩
            · rw [hcs h4 (by omega)] at h1; cases h1
          | false =>
            have L1 := hide (fun W hz => ltr_ex 1 s (ltrs_no h1) rfl hs8 W hz)
            have L2 := hide (fun W hz => ltr_ex 2 s (r := (lettersN 2 (bl s)).1) (x := (lettersN 2 (bl s)).2) rfl rfl hs8 W hz)
            have L3 := hide (fun W hz => ltr_ex 3 s (ltrs_N h3) rfl hs8 W hz)
            have L4 := hide (fun W hz => ltr_ex 4 s (ltrs_no h4) rfl hs8 W hz)
            have HQ := hide hq
            clear hcc hca hcs h1 h3 h4 hq
            generalize (lettersN 2 (bl s)).1 = l2 at *
            generalize (lettersN 2 (bl s)).2 = x2 at *
            generalize (ltrs 3 (bl s)).1 = l3 at *
            go_enter Tryd.func10, Tryd.ntmps10
            go_wp2_with fail
            refine (KH.out).mono ?_
            rintro e9 w1 ⟨rfl, hb⟩
            have S1 := hide (hb)
            clear KH
            clear hb
            go_wp2_with fail
            refine (KS.out w1).mono ?_
            rintro e9 w2 ⟨rfl, hb⟩
            have S2 := hide (bel_trans (bel_new _ (Below.refl _ _)) hb)
            clear KS
            clear hb
            go_wp2_with fail
            refine (L1.out w2 (HZ.out.below (bel_trans S1.out S2.out))).mono ?_
            rintro e9 w3 ⟨A1, c1, rfl, hb, hv⟩
            have S3 := hide (hb)
            have V1 := hide hv
            clear L1 hv
            clear hb
            go_wp2_with fail
            refine (L2.out w3 (HZ.out.below (bel_trans (bel_trans S1.out S2.out) S3.out))).mono ?_
            rintro e9 w4 ⟨A2, c2, rfl, hb, hv⟩
            have S4 := hide (hb)
            have V2 := hide hv
            clear L2 hv
            clear hb
            go_wp2_with fail
            refine (L3.out w4 (HZ.out.below (bel_trans (bel_trans (bel_trans S1.out S2.out) S3.out) S4.out))).mono ?_
            rintro e9 w5 ⟨A3, c3, rfl, hb, hv⟩
            have S5 := hide (hb)
            have V3 := hide hv
            clear L3 hv
            clear hb
            go_wp2_with fail
            refine (L4.out w5 (HZ.out.below (bel_trans (bel_trans (bel_trans (bel_trans S1.out S2.out) S3.out) S4.out) S5.out))).mono ?_
            rintro e9 w6 ⟨A4, c4, rfl, hb, hv⟩
            have S6 := hide (hb)
            have V4 := hide hv
            clear L4 hv
            clear hb
            go_wp2
            go_loopw [12, 13] (fun b i wr => ∃ j : Nat, j ≤ s.size ∧ i = .int .i64 (j : Int) ∧ b = .bool (quoB ((bl s).take j)) ∧ Below w6.heap.size w6 wr) (fun _ i _ => s.size - (intOf i).toNat)
            case atStart => exact ⟨0, Nat.zero_le _, rfl, rfl, Below.refl _ _⟩
            case round =>
              obtain ⟨j, hj, rfl, rfl, hb⟩ := hrel
              have S7 := hide hb
              clear hb
              by_cases hlt : (j : Int) < (s.size : Int)
              · have hpl : j < s.size := by omega
                obtain ⟨x, hx⟩ : ∃ x : UInt8, s[j] = x := ⟨_, rfl⟩
                have HNX := hide (quo_step (show (bl s)[j]? = some x by rw [bl_at s j hpl, hx]))
                have hxx := u8_eq x 39 39 rfl
                have hx256 := x.toNat_lt
                generalize quoB ((bl s).take j) = q0 at *
                cases q0 with
                | true =>
                  go_wp2
                  go_roundw
                  case rel => exact ⟨j + 1, by omega, by go_num, by rw [← HNX.out]; rfl, S7.out⟩
                  case measure => simp [intOf]; omega
                | false =>
                  cases hx9 : (x == 39) with
                  | true =>
                    rw [hx9] at hxx HNX
                    clear hx9
                    go_wp2
                    go_roundw
                    case rel => exact ⟨j + 1, by omega, by go_num, by rw [← HNX.out]; rfl, S7.out⟩
                    case measure => simp [intOf]; omega
                  | false =>
                    rw [hx9] at hxx HNX
                    clear hx9
                    go_wp2
                    go_roundw
                    case rel => exact ⟨j + 1, by omega, by go_num, by rw [← HNX.out]; rfl, S7.out⟩
                    case measure => simp [intOf]; omega
              · obtain rfl : j = s.size := by omega
                have hq9 : quoB ((bl s).take s.size) = true := by rw [← bl_len, List.take_length]; exact HQ.out
                rw [hq9]
                clear hq9
                go_wp2
                go_ret
                exact ⟨rfl, (bel_trans (bel_trans (bel_trans (bel_trans (bel_trans (bel_trans S1.out S2.out) S3.out) S4.out) S5.out) S6.out) S7.out)⟩
        | false =>
          rw [(hca h3 (quo_no hq)).1] at h1; cases h1
      | false =>
        cases h4 : word 4 (bl s) with
        | true =>
          by_cases hlg : 12 < s.size
          · have L1 := hide (fun W hz => ltr_ex 1 s (ltrs_no h1) rfl hs8 W hz)
            have L2 := hide (fun W hz => ltr_ex 2 s (r := (lettersN 2 (bl s)).1) (x := (lettersN 2 (bl s)).2) rfl rfl hs8 W hz)
            have L3 := hide (fun W hz => ltr_ex 3 s (ltrs_no h3) rfl hs8 W hz)
            have L4 := hide (fun W hz => ltr_ex 4 s (ltrs_N h4) rfl hs8 W hz)
            clear hcc hca hcs h1 h3 h4
            generalize (lettersN 2 (bl s)).1 = l2 at *
            generalize (lettersN 2 (bl s)).2 = x2 at *
            generalize (ltrs 4 (bl s)).1 = l4 at *
            have i12 : (12 : Int) < (s.size : Int) := by omega
            go_enter Tryd.func10, Tryd.ntmps10
            go_wp2_with fail
            refine (KH.out).mono ?_
            rintro e9 w1 ⟨rfl, hb⟩
            have S1 := hide (hb)
            clear KH
            clear hb
            go_wp2_with fail
            refine (KS.out w1).mono ?_
            rintro e9 w2 ⟨rfl, hb⟩
            have S2 := hide (bel_trans (bel_new _ (Below.refl _ _)) hb)
            clear KS
            clear hb
            go_wp2_with fail
            refine (L1.out w2 (HZ.out.below (bel_trans S1.out S2.out))).mono ?_
            rintro e9 w3 ⟨A1, c1, rfl, hb, hv⟩
            have S3 := hide (hb)
            have V1 := hide hv
            clear L1 hv
            clear hb
            go_wp2_with fail
            refine (L2.out w3 (HZ.out.below (bel_trans (bel_trans S1.out S2.out) S3.out))).mono ?_
            rintro e9 w4 ⟨A2, c2, rfl, hb, hv⟩
            have S4 := hide (hb)
            have V2 := hide hv
            clear L2 hv
            clear hb
            go_wp2_with fail
            refine (L3.out w4 (HZ.out.below (bel_trans (bel_trans (bel_trans S1.out S2.out) S3.out) S4.out))).mono ?_
            rintro e9 w5 ⟨A3, c3, rfl, hb, hv⟩
            have S5 := hide (hb)
            have V3 := hide hv
            clear L3 hv
            clear hb
            go_wp2_with fail
            refine (L4.out w5 (HZ.out.below (bel_trans (bel_trans (bel_trans (bel_trans S1.out S2.out) S3.out) S4.out) S5.out))).mono ?_
            rintro e9 w6 ⟨A4, c4, rfl, hb, hv⟩
            have S6 := hide (hb)
            have V4 := hide hv
            clear L4 hv
            clear hb
            go_wp2
            go_loopw [12, 13] (fun b i wr => ∃ j : Nat, j ≤ s.size ∧ i = .int .i64 (j : Int) ∧ b = .bool (quoB ((bl s).take j)) ∧ Below w6.heap.size w6 wr) (fun _ i _ => s.size - (intOf i).toNat)
            case atStart => exact ⟨0, Nat.zero_le _, rfl, rfl, Below.refl _ _⟩
            case round =>
              obtain ⟨j, hj, rfl, rfl, hb⟩ := hrel
              have S7 := hide hb
              clear hb
              by_cases hlt : (j : Int) < (s.size : Int)
              · have hpl : j < s.size := by omega
                obtain ⟨x, hx⟩ : ∃ x : UInt8, s[j] = x := ⟨_, rfl⟩
                have HNX := hide (quo_step (show (bl s)[j]? = some x by rw [bl_at s j hpl, hx]))
                have hxx := u8_eq x 39 39 rfl
                have hx256 := x.toNat_lt
                generalize quoB ((bl s).take j) = q0 at *
                cases q0 with
                | true =>
                  go_wp2
                  go_roundw
                  case rel => exact ⟨j + 1, by omega, by go_num, by rw [← HNX.out]; rfl, S7.out⟩
                  case measure => simp [intOf]; omega
                | false =>
                  cases hx9 : (x == 39) with
                  | true =>
                    rw [hx9] at hxx HNX
                    clear hx9
                    go_wp2
                    go_roundw
                    case rel => exact ⟨j + 1, by omega, by go_num, by rw [← HNX.out]; rfl, S7.out⟩
                    case measure => simp [intOf]; omega
                  | false =>
                    rw [hx9] at hxx HNX
                    clear hx9
                    go_wp2
                    go_roundw
                    case rel => exact ⟨j + 1, by omega, by go_num, by rw [← HNX.out]; rfl, S7.out⟩
                    case measure => simp [intOf]; omega
              · obtain rfl : j = s.size := by omega
                have hq9 : ∃ q9, q9 = quoB ((bl s).take s.size) := ⟨_, rfl⟩
                obtain ⟨q9, hq9⟩ := hq9
                rw [← hq9]
                clear hq9
                go_wp2
                go_ret
                exact ⟨rfl, (bel_trans (bel_trans (bel_trans (bel_trans (bel_trans (bel_trans S1.out S2.out) S3.out) S4.out) S5.out) S6.out) S7.out)⟩
          · rw [hcs h4 (by omega)] at h1; cases h1
        | false =>
          have L1 := hide (fun W hz => ltr_ex 1 s (ltrs_no h1) rfl hs8 W hz)
          have L2 := hide (fun W hz => ltr_ex 2 s (r := (lettersN 2 (bl s)).1) (x := (lettersN 2 (bl s)).2) rfl rfl hs8 W hz)
          have L3 := hide (fun W hz => ltr_ex 3 s (ltrs_no h3) rfl hs8 W hz)
          have L4 := hide (fun W hz => ltr_ex 4 s (ltrs_no h4) rfl hs8 W hz)
          clear hcc hca hcs h1 h3 h4
          generalize (lettersN 2 (bl s)).1 = l2 at *
          generalize (lettersN 2 (bl s)).2 = x2 at *
          go_enter Tryd.func10, Tryd.ntmps10
          go_wp2_with fail
          refine (KH.out).mono ?_
          rintro e9 w1 ⟨rfl, hb⟩
          have S1 := hide (hb)
          clear KH
          clear hb
          go_wp2_with fail
          refine (KS.out w1).mono ?_
          rintro e9 w2 ⟨rfl, hb⟩
          have S2 := hide (bel_trans (bel_new _ (Below.refl _ _)) hb)
          clear KS
          clear hb
          go_wp2_with fail
          refine (L1.out w2 (HZ.out.below (bel_trans S1.out S2.out))).mono ?_
          rintro e9 w3 ⟨A1, c1, rfl, hb, hv⟩
          have S3 := hide (hb)
          have V1 := hide hv
          clear L1 hv
          clear hb
          go_wp2_with fail
          refine (L2.out w3 (HZ.out.below (bel_trans (bel_trans S1.out S2.out) S3.out))).mono ?_
          rintro e9 w4 ⟨A2, c2, rfl, hb, hv⟩
          have S4 := hide (hb)
          have V2 := hide hv
          clear L2 hv
          clear hb
          go_wp2_with fail
          refine (L3.out w4 (HZ.out.below (bel_trans (bel_trans (bel_trans S1.out S2.out) S3.out) S4.out))).mono ?_
          rintro e9 w5 ⟨A3, c3, rfl, hb, hv⟩
          have S5 := hide (hb)
          have V3 := hide hv
          clear L3 hv
          clear hb
          go_wp2_with fail
          refine (L4.out w5 (HZ.out.below (bel_trans (bel_trans (bel_trans (bel_trans S1.out S2.out) S3.out) S4.out) S5.out))).mono ?_
          rintro e9 w6 ⟨A4, c4, rfl, hb, hv⟩
          have S6 := hide (hb)
          have V4 := hide hv
          clear L4 hv
          clear hb
          go_wp2
          go_loopw [12, 13] (fun b i wr => ∃ j : Nat, j ≤ s.size ∧ i = .int .i64 (j : Int) ∧ b = .bool (quoB ((bl s).take j)) ∧ Below w6.heap.size w6 wr) (fun _ i _ => s.size - (intOf i).toNat)
          case atStart => exact ⟨0, Nat.zero_le _, rfl, rfl, Below.refl _ _⟩
          case round =>
            obtain ⟨j, hj, rfl, rfl, hb⟩ := hrel
            have S7 := hide hb
            clear hb
            by_cases hlt : (j : Int) < (s.size : Int)
            · have hpl : j < s.size := by omega
              obtain ⟨x, hx⟩ : ∃ x : UInt8, s[j] = x := ⟨_, rfl⟩
              have HNX := hide (quo_step (show (bl s)[j]? = some x by rw [bl_at s j hpl, hx]))
              have hxx := u8_eq x 39 39 rfl
              have hx256 := x.toNat_lt
              generalize quoB ((bl s).take j) = q0 at *
              cases q0 with
              | true =>
                go_wp2
                go_roundw
                case rel => exact ⟨j + 1, by omega, by go_num, by rw [← HNX.out]; rfl, S7.out⟩
                case measure => simp [intOf]; omega
              | false =>
                cases hx9 : (x == 39) with
                | true =>
                  rw [hx9] at hxx HNX
                  clear hx9
                  go_wp2
                  go_roundw
                  case rel => exact ⟨j + 1, by omega, by go_num, by rw [← HNX.out]; rfl, S7.out⟩
                  case measure => simp [intOf]; omega
                | false =>
                  rw [hx9] at hxx HNX
                  clear hx9
                  go_wp2
                  go_roundw
                  case rel => exact ⟨j + 1, by omega, by go_num, by rw [← HNX.out]; rfl, S7.out⟩
                  case measure => simp [intOf]; omega
            · obtain rfl : j = s.size := by omega
              have hq9 : ∃ q9, q9 = quoB ((bl s).take s.size) := ⟨_, rfl⟩
              obtain ⟨q9, hq9⟩ := hq9
              rw [← hq9]
              clear hq9
              go_wp2
              go_ret
              exact ⟨rfl, (bel_trans (bel_trans (bel_trans (bel_trans (bel_trans (bel_trans S1.out S2.out) S3.out) S4.out) S5.out) S6.out) S7.out)⟩
end Go.Proofs.YtcgmikpmbomliaaDoor
