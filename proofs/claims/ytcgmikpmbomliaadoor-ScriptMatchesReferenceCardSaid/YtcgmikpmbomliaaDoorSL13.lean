/-
  Script: the law of texts
-/
import Derived.Test.YtcgmikpmbomliaaDoorSL12
set_option linter.unusedSimpArgs false
set_option linter.unusedVariables false
namespace Go.Proofs.YtcgmikpmbomliaaDoor
open Go.RowKit Go.CH Go.CH.Scr
open Go.ChangeMaps (setBlock)
theorem few_words {n : NameM} (h : fewN n = true) : n.ws.length ≤ 20 ∧ ∀ x ∈ n.ws, x.length ≤ 100 := by
  unfold fewN fewB at h
  rw [Bool.and_eq_true, decide_eq_true_eq, List.all_eq_true] at h
  refine ⟨h.2, fun x hx => ?_⟩
  have := h.1 x (by rw [List.take_of_length_le h.2]; exact hx)
  simpa using this
theorem few_ex {W : World} {n : NameM} {A : Option Addr} {c m : Nat} (hA : Vst W A n.ws) (hm : n.ws.length = m) (hl : m ≤ 9223372036854775807) {r : Bool} (hr : fewN n = r) :
    Calls Tryd.prog 12 #[.agg #[.int .i64 n.k, .slice A m c]] W (BelowRet W (.bool r)) := by
  subst hm hr
  exact few_any hA hl
theorem txt_any {W : World} {n : NameM} {A : Option Addr} {c m : Nat} (hA : Vst W A n.ws) (hc : m ≤ c) (hm : n.ws.length = m) (hl : m ≤ 1000) (hb : Scr.bytes n.ws ≤ 1000000) {t : ByteArray} {x : Int} (hr : txtN n = (bl t, x)) (hz : LZ W) :
    Calls Tryd.prog 18 #[.agg #[.int .i64 n.k, .slice A m c]] W (BelowRet W (.tuple #[.string t, .int .i64 x])) := by
  subst hm
  have h := text_any (n := n) hA hc (by omega) (fun x hx => by
    obtain ⟨i, hi, rfl⟩ := List.mem_iff_getElem.1 hx
    exact Nat.le_trans (bytes_get hi) hb) (by omega) hz
  rw [hr] at h
  simp only [bs_bl] at h
  exact h
theorem val_ex {W : World} {n : NameM} {A : Option Addr} {c m : Nat} (hA : Vst W A n.ws) (hm : n.ws.length = m) (hl : m ≤ 1000) (hb : Scr.bytes n.ws ≤ 1000000) {r : Bool} (hr : validN n = r) (hz : LZ W) :
    Calls Tryd.prog 22 #[.agg #[.int .i64 n.k, .slice A m c]] W (BelowRet W (.bool r)) := by
  subst hm hr
  exact valid_any hA (by omega) (fun x hx => by
    obtain ⟨i, hi, rfl⟩ := List.mem_iff_getElem.1 hx
    exact Nat.le_trans (bytes_get hi) hb) hz
theorem sam_ex {W : World} {a b : NameM} {A B : Option Addr} {c d m n : Nat} (hA : Vst W A a.ws) (hB : Vst W B b.ws) (hm : a.ws.length = m) (hn : b.ws.length = n) (hl : m ≤ 1000) (hl2 : n ≤ 1000) {r : Bool} (hr : a = b ↔ r = true) :
    Calls Tryd.prog 25 #[.agg #[.int .i64 a.k, .slice A m c], .agg #[.int .i64 b.k, .slice B n d]] W (BelowRet W (.bool r)) := by
  subst hm hn
  have h := same_any (a := a) (b := b) (c := c) (d := d) hA hB (by omega) (by omega)
  have e : (decide (a.k = b.k) && decide (a.ws = b.ws)) = r := by
    rw [Bool.eq_iff_iff, ← hr, Bool.and_eq_true, decide_eq_true_eq, decide_eq_true_eq]
    obtain ⟨k, l⟩ := a
    obtain ⟨k2, l2⟩ := b
    constructor
    · rintro ⟨h1, h2⟩
      exact congr (congrArg NameM.mk h1) h2
    · intro h
      exact ⟨congrArg NameM.k h, congrArg NameM.ws h⟩
  rw [e] at h
  exact h
theorem bytes_text {n : NameM} (hv : validN n = true) : Scr.bytes n.ws ≤ (textN n).length := by
  have h2 := (validN_iff.1 hv).2.1
  rw [text_len n (fun e => by rw [e] at h2; simp at h2)]
  omega
theorem box2 (w : World) (x y : Int) (A B : Option Addr) (n m c d : Nat) :
    Below w.heap.size w ((w.alloc (.cells #[.int .i64 x, .slice A n c] 24)).alloc (.cells #[.int .i64 y, .slice B m d] 24)) ∧
    (∀ W, Below ((w.alloc (.cells #[.int .i64 x, .slice A n c] 24)).alloc (.cells #[.int .i64 y, .slice B m d] 24)).heap.size ((w.alloc (.cells #[.int .i64 x, .slice A n c] 24)).alloc (.cells #[.int .i64 y, .slice B m d] 24)) W →
      W.cell? ⟨w.heap.size, 0, none⟩ = some (.int .i64 x) ∧ W.cell? ⟨w.heap.size, 1, none⟩ = some (.slice A n c)) ∧
    (∀ W, Below ((w.alloc (.cells #[.int .i64 x, .slice A n c] 24)).alloc (.cells #[.int .i64 y, .slice B m d] 24)).heap.size ((w.alloc (.cells #[.int .i64 x, .slice A n c] 24)).alloc (.cells #[.int .i64 y, .slice B m d] 24)) W →
      W.cell? ⟨w.heap.size + 1, 0, none⟩ = some (.int .i64 y) ∧ W.cell? ⟨w.heap.size + 1, 1, none⟩ = some (.slice B m d)) := by
  have h1 := bel_new (.cells #[.int .i64 x, .slice A n c] 24) (Below.refl _ w)
  have h2 := bel_new (.cells #[.int .i64 y, .slice B m d] 24) (Below.refl _ (w.alloc (.cells #[.int .i64 x, .slice A n c] 24)))
  refine ⟨bel_trans h1 h2, fun W h => box_cells w x A n c W (bel_trans h2 h), fun W h => ?_⟩
  have := box_cells (w.alloc (.cells #[.int .i64 x, .slice A n c] 24)) y B m d W h
  rw [World.size_alloc] at this
  exact this
set_option maxRecDepth 100000 in
set_option maxHeartbeats 12800000 in
theorem law_texts {w : World} {a b : NameM} {A B : Option Addr} {c d : Nat} (s : ByteArray) (hA : Vst w A a.ws) (hB : Vst w B b.ws) (hac : a.ws.length ≤ c) (hbd : b.ws.length ≤ d) (hal : a.ws.length ≤ 9223372036854775807) (hbl : b.ws.length ≤ 9223372036854775807) (hz : LZ w) :
    Calls Tryd.prog 7 #[nmV a A c, nmV b B d, .string s] w (BelowRet w (.bool true)) := by
  unfold nmV
  obtain ⟨n, hn⟩ : ∃ n, n = a.ws.length := ⟨_, rfl⟩
  obtain ⟨m, hm⟩ : ∃ m, m = b.ws.length := ⟨_, rfl⟩
  have HN := hide hn.symm
  have HM := hide hm.symm
  rw [← hn] at hac hal ⊢
  rw [← hm] at hbd hbl ⊢
  clear hn hm
  obtain ⟨hb0, hca, hcb⟩ := box2 w a.k b.k A B n m c d
  obtain ⟨wz, hwz⟩ : ∃ wz, wz = (w.alloc (.cells #[.int .i64 a.k, .slice A n c] 24)).alloc (.cells #[.int .i64 b.k, .slice B m d] 24) := ⟨_, rfl⟩
  rw [← hwz] at hb0 hca hcb
  have B0 := hide hb0
  have Ca := hide hca
  have Cb := hide hcb
  have VA := hide (hA.below hb0)
  have VB := hide (hB.below hb0)
  have HZ := hide (hz.below hb0)
  have KH := hide (head_any wz HZ.out)
  have HWZ := hide hwz
  clear hb0 hca hcb hz hA hB hwz
  have KFA := hide (fun W (hb : Below wz.heap.size wz W) => few_ex (c := c) (VA.out.below hb) HN.out hal rfl)
  have KFB := hide (fun W (hb : Below wz.heap.size wz W) => few_ex (c := d) (VB.out.below hb) HM.out hbl rfl)
  cases hfa : fewN a with
  | false =>
    rw [hfa] at KFA
    clear hfa
    go_enter Tryd.func7, Tryd.ntmps7
    go_wp2_with fail
    rw [← HWZ.out]
    clear HWZ
    generalize w.heap.size + 1 = gb at *
    go_wp2_with fail
    refine (KH.out).mono ?_
    rintro e9 w1 ⟨rfl, hb⟩
    have S1 := hide (hb)
    clear KH
    clear hb
    obtain ⟨pa0, pa1⟩ := Ca.out _ S1.out
    go_wp2_with fail
    refine (KFA.out w1 S1.out).mono ?_
    rintro e9 w2 ⟨rfl, hb⟩
    have S2 := hide (hb)
    clear KFA
    clear hb
    clear pa0 pa1
    go_wp2
    go_ret
    exact ⟨rfl, (bel_trans B0.out (bel_trans S1.out S2.out))⟩
  | true =>
  cases hfb : fewN b with
  | false =>
    rw [hfa] at KFA
    rw [hfb] at KFB
    clear hfa hfb
    go_enter Tryd.func7, Tryd.ntmps7
    go_wp2_with fail
    rw [← HWZ.out]
    clear HWZ
    generalize w.heap.size + 1 = gb at *
    go_wp2_with fail
    refine (KH.out).mono ?_
    rintro e9 w1 ⟨rfl, hb⟩
    have S1 := hide (hb)
    clear KH
    clear hb
    obtain ⟨pa0, pa1⟩ := Ca.out _ S1.out
    go_wp2_with fail
    refine (KFA.out w1 S1.out).mono ?_
    rintro e9 w2 ⟨rfl, hb⟩
    have S2 := hide (hb)
    clear KFA
    clear hb
    clear pa0 pa1
    obtain ⟨pb0, pb1⟩ := Cb.out _ (bel_trans S1.out S2.out)
    go_wp2_with fail
    refine (KFB.out w2 (bel_trans S1.out S2.out)).mono ?_
    rintro e9 w3 ⟨rfl, hb⟩
    have S3 := hide (hb)
    clear KFB
    clear hb
    clear pb0 pb1
    go_wp2
    go_ret
    exact ⟨rfl, (bel_trans B0.out (bel_trans (bel_trans S1.out S2.out) S3.out))⟩
  | true =>
  obtain ⟨ha20, haw⟩ := few_words hfa
  obtain ⟨hb20, hbw⟩ := few_words hfb
  have hta := text_few ha20 haw
  have htb := text_few hb20 hbw
  rw [HN.out] at ha20
  rw [HM.out] at hb20
  have hab : Scr.bytes a.ws ≤ 1000000 := by have := bytes_few haw; rw [HN.out] at this; have := Nat.mul_le_mul_right (100 + 1) ha20; omega
  have hbb : Scr.bytes b.ws ≤ 1000000 := by have := bytes_few hbw; rw [HM.out] at this; have := Nat.mul_le_mul_right (100 + 1) hb20; omega
  rw [hfa] at KFA
  rw [hfb] at KFB
  clear hfa hfb haw hbw
  by_cases hl : (2000 : Int) < (s.size : Int)
  · go_enter Tryd.func7, Tryd.ntmps7
    go_wp2_with fail
    rw [← HWZ.out]
    clear HWZ
    generalize w.heap.size + 1 = gb at *
    go_wp2_with fail
    refine (KH.out).mono ?_
    rintro e9 w1 ⟨rfl, hb⟩
    have S1 := hide (hb)
    clear KH
    clear hb
    obtain ⟨pa0, pa1⟩ := Ca.out _ S1.out
    go_wp2_with fail
    refine (KFA.out w1 S1.out).mono ?_
    rintro e9 w2 ⟨rfl, hb⟩
    have S2 := hide (hb)
    clear KFA
    clear hb
    clear pa0 pa1
    obtain ⟨pb0, pb1⟩ := Cb.out _ (bel_trans S1.out S2.out)
    go_wp2_with fail
    refine (KFB.out w2 (bel_trans S1.out S2.out)).mono ?_
    rintro e9 w3 ⟨rfl, hb⟩
    have S3 := hide (hb)
    clear KFB
    clear hb
    clear pb0 pb1
    go_wp2
    go_ret
    exact ⟨rfl, (bel_trans B0.out (bel_trans (bel_trans S1.out S2.out) S3.out))⟩
  obtain ⟨y, h, at_, hp, hcase⟩ := par_at (s := s) (by omega)
  have KP := hide (fun W hz => par_ex s hp rfl W hz)
  have HP := hide hp
  have hy6 := par_small (by omega) hp
  obtain ⟨q, hq⟩ : ∃ q, q = y.ws.length := ⟨_, rfl⟩
  have HQ := hide hq.symm
  rw [← hq] at KP hy6
  clear hp hq
  by_cases he : h = 0
  · subst he
    obtain ⟨rfl, hyv, hyt⟩ := parse_ok HP.out
    have HYV := hide hyv
    have HYB := hide (show Scr.bytes y.ws ≤ 1000000 by have h1 := bytes_text hyv; rw [bl_len] at hyt; omega)
    obtain ⟨sy, hsy⟩ : ∃ sy, sy = bs (textN y) := ⟨_, rfl⟩
    have HYT := hide (show txtN y = (bl sy, 0) by unfold txtN; rw [if_pos hyv, hsy, bl_bs])
    have hsz : (sy.size : Int) ≤ (s.size : Int) := by rw [bl_len] at hyt; rw [hsy, bs_size]; omega
    clear hyv hyt hsy hcase HP
    cases hva : validN a with
    | false =>
      have KTA := hide (fun W (hb : Below wz.heap.size wz W) => txt_any (c := c) (VA.out.below hb) hac HN.out (by omega) hab (t := ⟨#[]⟩) (x := 1) (by unfold txtN; rw [hva]; rfl) (HZ.out.below hb))
      have KTB := hide (fun W (hb : Below wz.heap.size wz W) => txt_any (c := d) (VB.out.below hb) hbd HM.out (by omega) hbb (t := bs (txtN b).1) (x := (txtN b).2) rfl (HZ.out.below hb))
      have KVA := hide (fun W (hb : Below wz.heap.size wz W) => val_ex (c := c) (VA.out.below hb) HN.out (by omega) hab hva (HZ.out.below hb))
      clear hva
      generalize bs (txtN b).1 = sb at *
      generalize (txtN b).2 = xb at *
      go_enter Tryd.func7, Tryd.ntmps7
      go_wp2_with fail
      rw [← HWZ.out]
      clear HWZ
      generalize w.heap.size + 1 = gb at *
      go_wp2_with fail
      refine (KH.out).mono ?_
      rintro e9 w1 ⟨rfl, hb⟩
      have S1 := hide (hb)
      clear KH
      clear hb
      obtain ⟨pa0, pa1⟩ := Ca.out _ S1.out
      go_wp2_with fail
      refine (KFA.out w1 S1.out).mono ?_
      rintro e9 w2 ⟨rfl, hb⟩
      have S2 := hide (hb)
      clear KFA
      clear hb
      clear pa0 pa1
      obtain ⟨pb0, pb1⟩ := Cb.out _ (bel_trans S1.out S2.out)
      go_wp2_with fail
      refine (KFB.out w2 (bel_trans S1.out S2.out)).mono ?_
      rintro e9 w3 ⟨rfl, hb⟩
      have S3 := hide (hb)
      clear KFB
      clear hb
      clear pb0 pb1
      obtain ⟨pa0, pa1⟩ := Ca.out _ (bel_trans (bel_trans S1.out S2.out) S3.out)
      go_wp2_with fail
      refine (KTA.out w3 (bel_trans (bel_trans S1.out S2.out) S3.out)).mono ?_
      rintro e9 w4 ⟨rfl, hb⟩
      have S4 := hide (hb)
      clear KTA
      clear hb
      clear pa0 pa1
      obtain ⟨pb0, pb1⟩ := Cb.out _ (bel_trans (bel_trans (bel_trans S1.out S2.out) S3.out) S4.out)
      go_wp2_with fail
      refine (KTB.out w4 (bel_trans (bel_trans (bel_trans S1.out S2.out) S3.out) S4.out)).mono ?_
      rintro e9 w5 ⟨rfl, hb⟩
      have S5 := hide (hb)
      clear KTB
      clear hb
      clear pb0 pb1
      obtain ⟨pa0, pa1⟩ := Ca.out _ (bel_trans (bel_trans (bel_trans (bel_trans S1.out S2.out) S3.out) S4.out) S5.out)
      go_wp2_with fail
      refine (KVA.out w5 (bel_trans (bel_trans (bel_trans (bel_trans S1.out S2.out) S3.out) S4.out) S5.out)).mono ?_
      rintro e9 w6 ⟨rfl, hb⟩
      have S6 := hide (hb)
      clear KVA
      clear hb
      clear pa0 pa1
      go_wp2_with fail
      refine (KP.out w6 (HZ.out.below (bel_trans (bel_trans (bel_trans (bel_trans (bel_trans S1.out S2.out) S3.out) S4.out) S5.out) S6.out))).mono ?_
      rintro e9 v7 ⟨Ay, cy, rfl, hb, hv, hcy⟩
      have hba := bel_new (.cells #[.int .i64 y.k, .slice Ay q cy] 24) (Below.refl _ v7)
      have S7 := hide (bel_trans hb hba)
      have Vy := hide (hv.below hba)
      have Cy := hide (box_cells v7 (y.k) Ay q cy)
      clear hb hba hv
      obtain ⟨py0, py1⟩ := Cy.out _ (Below.refl _ _)
      go_wp2_with fail
      generalize v7.alloc (.cells #[.int .i64 y.k, .slice Ay q cy] 24) = w7 at *
      generalize v7.heap.size = gy at *
      clear v7
      refine (txt_any (c := cy) (Vy.out.below (Below.refl _ _)) hcy HQ.out (by omega) HYB.out HYT.out (HZ.out.below (bel_trans (bel_trans (bel_trans (bel_trans (bel_trans (bel_trans S1.out S2.out) S3.out) S4.out) S5.out) S6.out) S7.out))).mono ?_
      rintro e9 w8 ⟨rfl, hb⟩
      have S8 := hide (hb)
      clear py0 py1
      clear hb
      obtain ⟨py0, py1⟩ := Cy.out _ S8.out
      go_wp2_with fail
      refine (val_ex (c := cy) (Vy.out.below S8.out) HQ.out (by omega) HYB.out HYV.out (HZ.out.below (bel_trans (bel_trans (bel_trans (bel_trans (bel_trans (bel_trans (bel_trans S1.out S2.out) S3.out) S4.out) S5.out) S6.out) S7.out) S8.out))).mono ?_
      rintro e9 w9 ⟨rfl, hb⟩
      have S9 := hide (hb)
      clear py0 py1
      clear hb
      go_wp2
      go_ret
      exact ⟨rfl, (bel_trans B0.out (bel_trans (bel_trans (bel_trans (bel_trans (bel_trans (bel_trans (bel_trans (bel_trans S1.out S2.out) S3.out) S4.out) S5.out) S6.out) S7.out) S8.out) S9.out))⟩
    | true =>
    cases hvb : validN b with
    | false =>
      have KTA := hide (fun W (hb : Below wz.heap.size wz W) => txt_any (c := c) (VA.out.below hb) hac HN.out (by omega) hab (t := bs (textN a)) (x := 0) (by unfold txtN; rw [if_pos hva]; rfl) (HZ.out.below hb))
      have KTB := hide (fun W (hb : Below wz.heap.size wz W) => txt_any (c := d) (VB.out.below hb) hbd HM.out (by omega) hbb (t := ⟨#[]⟩) (x := 1) (by unfold txtN; rw [hvb]; rfl) (HZ.out.below hb))
      have KVA := hide (fun W (hb : Below wz.heap.size wz W) => val_ex (c := c) (VA.out.below hb) HN.out (by omega) hab hva (HZ.out.below hb))
      have KPA := hide (fun W hz => par_ex (bs (textN a)) (n := a) (x := 0) (y := 0) (m := n) (by rw [bl_bs]; exact text_read hva hta) HN.out W hz)
      clear hva hvb
      generalize bs (textN a) = sa at *
      go_enter Tryd.func7, Tryd.ntmps7
      go_wp2_with fail
      rw [← HWZ.out]
      clear HWZ
      generalize w.heap.size + 1 = gb at *
      go_wp2_with fail
      refine (KH.out).mono ?_
      rintro e9 w1 ⟨rfl, hb⟩
      have S1 := hide (hb)
      clear KH
      clear hb
      obtain ⟨pa0, pa1⟩ := Ca.out _ S1.out
      go_wp2_with fail
      refine (KFA.out w1 S1.out).mono ?_
      rintro e9 w2 ⟨rfl, hb⟩
      have S2 := hide (hb)
      clear KFA
      clear hb
      clear pa0 pa1
      obtain ⟨pb0, pb1⟩ := Cb.out _ (bel_trans S1.out S2.out)
      go_wp2_with fail
      refine (KFB.out w2 (bel_trans S1.out S2.out)).mono ?_
      rintro e9 w3 ⟨rfl, hb⟩
      have S3 := hide (hb)
      clear KFB
      clear hb
      clear pb0 pb1
      obtain ⟨pa0, pa1⟩ := Ca.out _ (bel_trans (bel_trans S1.out S2.out) S3.out)
      go_wp2_with fail
      refine (KTA.out w3 (bel_trans (bel_trans S1.out S2.out) S3.out)).mono ?_
      rintro e9 w4 ⟨rfl, hb⟩
      have S4 := hide (hb)
      clear KTA
      clear hb
      clear pa0 pa1
      obtain ⟨pb0, pb1⟩ := Cb.out _ (bel_trans (bel_trans (bel_trans S1.out S2.out) S3.out) S4.out)
      go_wp2_with fail
      refine (KTB.out w4 (bel_trans (bel_trans (bel_trans S1.out S2.out) S3.out) S4.out)).mono ?_
      rintro e9 w5 ⟨rfl, hb⟩
      have S5 := hide (hb)
      clear KTB
      clear hb
      clear pb0 pb1
      obtain ⟨pa0, pa1⟩ := Ca.out _ (bel_trans (bel_trans (bel_trans (bel_trans S1.out S2.out) S3.out) S4.out) S5.out)
      go_wp2_with fail
      refine (KVA.out w5 (bel_trans (bel_trans (bel_trans (bel_trans S1.out S2.out) S3.out) S4.out) S5.out)).mono ?_
      rintro e9 w6 ⟨rfl, hb⟩
      have S6 := hide (hb)
      clear KVA
      clear hb
      clear pa0 pa1
      go_wp2_with fail
      refine (KPA.out w6 (HZ.out.below (bel_trans (bel_trans (bel_trans (bel_trans (bel_trans S1.out S2.out) S3.out) S4.out) S5.out) S6.out))).mono ?_
      rintro e9 v7 ⟨Ax, cx, rfl, hb, hv, hcx⟩
      have hba := bel_new (.cells #[.int .i64 a.k, .slice Ax n cx] 24) (Below.refl _ v7)
      have S7 := hide (bel_trans hb hba)
      have Vx := hide (hv.below hba)
      have Cx := hide (box_cells v7 (a.k) Ax n cx)
      clear hb hba hv
      obtain ⟨px0, px1⟩ := Cx.out _ (Below.refl _ _)
      obtain ⟨pa0, pa1⟩ := Ca.out _ (bel_trans (bel_trans (bel_trans (bel_trans (bel_trans (bel_trans S1.out S2.out) S3.out) S4.out) S5.out) S6.out) S7.out)
      go_wp2_with fail
      generalize v7.alloc (.cells #[.int .i64 a.k, .slice Ax n cx] 24) = w7 at *
      generalize v7.heap.size = gx at *
      clear v7
      refine (sam_ex (c := cx) (d := c) (Vx.out.below (Below.refl _ _)) (VA.out.below (bel_trans (bel_trans (bel_trans (bel_trans (bel_trans (bel_trans S1.out S2.out) S3.out) S4.out) S5.out) S6.out) S7.out)) HN.out HN.out (by omega) (by omega) (iff_of_true rfl rfl)).mono ?_
      rintro e9 w8 ⟨rfl, hb⟩
      have S8 := hide (hb)
      clear px0 px1
      clear hb
      clear pa0 pa1
      go_wp2_with fail
      refine (KP.out w8 (HZ.out.below (bel_trans (bel_trans (bel_trans (bel_trans (bel_trans (bel_trans (bel_trans S1.out S2.out) S3.out) S4.out) S5.out) S6.out) S7.out) S8.out))).mono ?_
      rintro e9 v9 ⟨Ay, cy, rfl, hb, hv, hcy⟩
      have hba := bel_new (.cells #[.int .i64 y.k, .slice Ay q cy] 24) (Below.refl _ v9)
      have S9 := hide (bel_trans hb hba)
      have Vy := hide (hv.below hba)
      have Cy := hide (box_cells v9 (y.k) Ay q cy)
      clear hb hba hv
      obtain ⟨py0, py1⟩ := Cy.out _ (Below.refl _ _)
      go_wp2_with fail
      generalize v9.alloc (.cells #[.int .i64 y.k, .slice Ay q cy] 24) = w9 at *
      generalize v9.heap.size = gy at *
      clear v9
      refine (txt_any (c := cy) (Vy.out.below (Below.refl _ _)) hcy HQ.out (by omega) HYB.out HYT.out (HZ.out.below (bel_trans (bel_trans (bel_trans (bel_trans (bel_trans (bel_trans (bel_trans (bel_trans S1.out S2.out) S3.out) S4.out) S5.out) S6.out) S7.out) S8.out) S9.out))).mono ?_
      rintro e9 w10 ⟨rfl, hb⟩
      have S10 := hide (hb)
      clear py0 py1
      clear hb
      obtain ⟨py0, py1⟩ := Cy.out _ S10.out
      go_wp2_with fail
      refine (val_ex (c := cy) (Vy.out.below S10.out) HQ.out (by omega) HYB.out HYV.out (HZ.out.below (bel_trans (bel_trans (bel_trans (bel_trans (bel_trans (bel_trans (bel_trans (bel_trans (bel_trans S1.out S2.out) S3.out) S4.out) S5.out) S6.out) S7.out) S8.out) S9.out) S10.out))).mono ?_
      rintro e9 w11 ⟨rfl, hb⟩
      have S11 := hide (hb)
      clear py0 py1
      clear hb
      go_wp2
      go_ret
      exact ⟨rfl, (bel_trans B0.out (bel_trans (bel_trans (bel_trans (bel_trans (bel_trans (bel_trans (bel_trans (bel_trans (bel_trans (bel_trans S1.out S2.out) S3.out) S4.out) S5.out) S6.out) S7.out) S8.out) S9.out) S10.out) S11.out))⟩
    | true =>
    by_cases hab2 : a = b
    · have KTA := hide (fun W (hb : Below wz.heap.size wz W) => txt_any (c := c) (VA.out.below hb) hac HN.out (by omega) hab (t := bs (textN a)) (x := 0) (by unfold txtN; rw [if_pos hva]; rfl) (HZ.out.below hb))
      have KTB := hide (fun W (hb : Below wz.heap.size wz W) => txt_any (c := d) (VB.out.below hb) hbd HM.out (by omega) hbb (t := bs (textN b)) (x := 0) (by unfold txtN; rw [if_pos hvb]; rfl) (HZ.out.below hb))
      have KVA := hide (fun W (hb : Below wz.heap.size wz W) => val_ex (c := c) (VA.out.below hb) HN.out (by omega) hab hva (HZ.out.below hb))
      have KPA := hide (fun W hz => par_ex (bs (textN a)) (n := a) (x := 0) (y := 0) (m := n) (by rw [bl_bs]; exact text_read hva hta) HN.out W hz)
      have HEQ := hide (show a = b from hab2)
      have hst : bs (textN a) = bs (textN b) := by rw [hab2]
      clear hva hvb hab2
      generalize bs (textN a) = sa at *
      generalize bs (textN b) = sb at *
      subst hst
      go_enter Tryd.func7, Tryd.ntmps7
      go_wp2_with fail
      rw [← HWZ.out]
      clear HWZ
      generalize w.heap.size + 1 = gb at *
      go_wp2_with fail
      refine (KH.out).mono ?_
      rintro e9 w1 ⟨rfl, hb⟩
      have S1 := hide (hb)
      clear KH
      clear hb
      obtain ⟨pa0, pa1⟩ := Ca.out _ S1.out
      go_wp2_with fail
      refine (KFA.out w1 S1.out).mono ?_
      rintro e9 w2 ⟨rfl, hb⟩
      have S2 := hide (hb)
      clear KFA
      clear hb
      clear pa0 pa1
      obtain ⟨pb0, pb1⟩ := Cb.out _ (bel_trans S1.out S2.out)
      go_wp2_with fail
      refine (KFB.out w2 (bel_trans S1.out S2.out)).mono ?_
      rintro e9 w3 ⟨rfl, hb⟩
      have S3 := hide (hb)
      clear KFB
      clear hb
      clear pb0 pb1
      obtain ⟨pa0, pa1⟩ := Ca.out _ (bel_trans (bel_trans S1.out S2.out) S3.out)
      go_wp2_with fail
      refine (KTA.out w3 (bel_trans (bel_trans S1.out S2.out) S3.out)).mono ?_
      rintro e9 w4 ⟨rfl, hb⟩
      have S4 := hide (hb)
      clear KTA
      clear hb
      clear pa0 pa1
      obtain ⟨pb0, pb1⟩ := Cb.out _ (bel_trans (bel_trans (bel_trans S1.out S2.out) S3.out) S4.out)
      go_wp2_with fail
      refine (KTB.out w4 (bel_trans (bel_trans (bel_trans S1.out S2.out) S3.out) S4.out)).mono ?_
      rintro e9 w5 ⟨rfl, hb⟩
      have S5 := hide (hb)
      clear KTB
      clear hb
      clear pb0 pb1
      obtain ⟨pa0, pa1⟩ := Ca.out _ (bel_trans (bel_trans (bel_trans (bel_trans S1.out S2.out) S3.out) S4.out) S5.out)
      go_wp2_with fail
      refine (KVA.out w5 (bel_trans (bel_trans (bel_trans (bel_trans S1.out S2.out) S3.out) S4.out) S5.out)).mono ?_
      rintro e9 w6 ⟨rfl, hb⟩
      have S6 := hide (hb)
      clear KVA
      clear hb
      clear pa0 pa1
      go_wp2_with fail
      refine (KPA.out w6 (HZ.out.below (bel_trans (bel_trans (bel_trans (bel_trans (bel_trans S1.out S2.out) S3.out) S4.out) S5.out) S6.out))).mono ?_
      rintro e9 v7 ⟨Ax, cx, rfl, hb, hv, hcx⟩
      have hba := bel_new (.cells #[.int .i64 a.k, .slice Ax n cx] 24) (Below.refl _ v7)
      have S7 := hide (bel_trans hb hba)
      have Vx := hide (hv.below hba)
      have Cx := hide (box_cells v7 (a.k) Ax n cx)
      clear hb hba hv
      obtain ⟨px0, px1⟩ := Cx.out _ (Below.refl _ _)
      obtain ⟨pa0, pa1⟩ := Ca.out _ (bel_trans (bel_trans (bel_trans (bel_trans (bel_trans (bel_trans S1.out S2.out) S3.out) S4.out) S5.out) S6.out) S7.out)
      go_wp2_with fail
      generalize v7.alloc (.cells #[.int .i64 a.k, .slice Ax n cx] 24) = w7 at *
      generalize v7.heap.size = gx at *
      clear v7
      refine (sam_ex (c := cx) (d := c) (Vx.out.below (Below.refl _ _)) (VA.out.below (bel_trans (bel_trans (bel_trans (bel_trans (bel_trans (bel_trans S1.out S2.out) S3.out) S4.out) S5.out) S6.out) S7.out)) HN.out HN.out (by omega) (by omega) (iff_of_true rfl rfl)).mono ?_
      rintro e9 w8 ⟨rfl, hb⟩
      have S8 := hide (hb)
      clear px0 px1
      clear hb
      clear pa0 pa1
      obtain ⟨pa0, pa1⟩ := Ca.out _ (bel_trans (bel_trans (bel_trans (bel_trans (bel_trans (bel_trans (bel_trans S1.out S2.out) S3.out) S4.out) S5.out) S6.out) S7.out) S8.out)
      obtain ⟨pb0, pb1⟩ := Cb.out _ (bel_trans (bel_trans (bel_trans (bel_trans (bel_trans (bel_trans (bel_trans S1.out S2.out) S3.out) S4.out) S5.out) S6.out) S7.out) S8.out)
      go_wp2_with fail
      refine (sam_ex (c := c) (d := d) (VA.out.below (bel_trans (bel_trans (bel_trans (bel_trans (bel_trans (bel_trans (bel_trans S1.out S2.out) S3.out) S4.out) S5.out) S6.out) S7.out) S8.out)) (VB.out.below (bel_trans (bel_trans (bel_trans (bel_trans (bel_trans (bel_trans (bel_trans S1.out S2.out) S3.out) S4.out) S5.out) S6.out) S7.out) S8.out)) HN.out HM.out (by omega) (by omega) (r := true) (iff_of_true HEQ.out rfl)).mono ?_
      rintro e9 w9 ⟨rfl, hb⟩
      have S9 := hide (hb)
      clear hb
      clear pa0 pa1
      clear pb0 pb1
      go_wp2_with fail
      refine (KP.out w9 (HZ.out.below (bel_trans (bel_trans (bel_trans (bel_trans (bel_trans (bel_trans (bel_trans (bel_trans S1.out S2.out) S3.out) S4.out) S5.out) S6.out) S7.out) S8.out) S9.out))).mono ?_
      rintro e9 v10 ⟨Ay, cy, rfl, hb, hv, hcy⟩
      have hba := bel_new (.cells #[.int .i64 y.k, .slice Ay q cy] 24) (Below.refl _ v10)
      have S10 := hide (bel_trans hb hba)
      have Vy := hide (hv.below hba)
      have Cy := hide (box_cells v10 (y.k) Ay q cy)
      clear hb hba hv
      obtain ⟨py0, py1⟩ := Cy.out _ (Below.refl _ _)
      go_wp2_with fail
      generalize v10.alloc (.cells #[.int .i64 y.k, .slice Ay q cy] 24) = w10 at *
      generalize v10.heap.size = gy at *
      clear v10
      refine (txt_any (c := cy) (Vy.out.below (Below.refl _ _)) hcy HQ.out (by omega) HYB.out HYT.out (HZ.out.below (bel_trans (bel_trans (bel_trans (bel_trans (bel_trans (bel_trans (bel_trans (bel_trans (bel_trans S1.out S2.out) S3.out) S4.out) S5.out) S6.out) S7.out) S8.out) S9.out) S10.out))).mono ?_
      rintro e9 w11 ⟨rfl, hb⟩
      have S11 := hide (hb)
      clear py0 py1
      clear hb
      obtain ⟨py0, py1⟩ := Cy.out _ S11.out
      go_wp2_with fail
      refine (val_ex (c := cy) (Vy.out.below S11.out) HQ.out (by omega) HYB.out HYV.out (HZ.out.below (bel_trans (bel_trans (bel_trans (bel_trans (bel_trans (bel_trans (bel_trans (bel_trans (bel_trans (bel_trans S1.out S2.out) S3.out) S4.out) S5.out) S6.out) S7.out) S8.out) S9.out) S10.out) S11.out))).mono ?_
      rintro e9 w12 ⟨rfl, hb⟩
      have S12 := hide (hb)
      clear py0 py1
      clear hb
      go_wp2
      go_ret
      exact ⟨rfl, (bel_trans B0.out (bel_trans (bel_trans (bel_trans (bel_trans (bel_trans (bel_trans (bel_trans (bel_trans (bel_trans (bel_trans (bel_trans S1.out S2.out) S3.out) S4.out) S5.out) S6.out) S7.out) S8.out) S9.out) S10.out) S11.out) S12.out))⟩
    · have KTA := hide (fun W (hb : Below wz.heap.size wz W) => txt_any (c := c) (VA.out.below hb) hac HN.out (by omega) hab (t := bs (textN a)) (x := 0) (by unfold txtN; rw [if_pos hva]; rfl) (HZ.out.below hb))
      have KTB := hide (fun W (hb : Below wz.heap.size wz W) => txt_any (c := d) (VB.out.below hb) hbd HM.out (by omega) hbb (t := bs (textN b)) (x := 0) (by unfold txtN; rw [if_pos hvb]; rfl) (HZ.out.below hb))
      have KVA := hide (fun W (hb : Below wz.heap.size wz W) => val_ex (c := c) (VA.out.below hb) HN.out (by omega) hab hva (HZ.out.below hb))
      have KPA := hide (fun W hz => par_ex (bs (textN a)) (n := a) (x := 0) (y := 0) (m := n) (by rw [bl_bs]; exact text_read hva hta) HN.out W hz)
      have HEQ := hide (show ¬ a = b from hab2)
      have hst : bs (textN a) ≠ bs (textN b) := fun e => hab2 (text_inj hva hvb hta htb (bs_inj e))
      clear hva hvb hab2
      generalize bs (textN a) = sa at *
      generalize bs (textN b) = sb at *
      have t1 : (sa == sb) = false := by rw [bytes_dec]; simpa using hst
      have t2 : (sa != sb) = true := by rw [bne, t1]; rfl
      have t3 : (sa.toList == sb.toList) = false := by rw [toList_beq]; simpa using hst
      have t4 : ¬ sa.toList = sb.toList := by simpa using t3
      clear hst
      go_enter Tryd.func7, Tryd.ntmps7
      go_wp2_with fail
      rw [← HWZ.out]
      clear HWZ
      generalize w.heap.size + 1 = gb at *
      go_wp2_with fail
      refine (KH.out).mono ?_
      rintro e9 w1 ⟨rfl, hb⟩
      have S1 := hide (hb)
      clear KH
      clear hb
      obtain ⟨pa0, pa1⟩ := Ca.out _ S1.out
      go_wp2_with fail
      refine (KFA.out w1 S1.out).mono ?_
      rintro e9 w2 ⟨rfl, hb⟩
      have S2 := hide (hb)
      clear KFA
      clear hb
      clear pa0 pa1
      obtain ⟨pb0, pb1⟩ := Cb.out _ (bel_trans S1.out S2.out)
      go_wp2_with fail
      refine (KFB.out w2 (bel_trans S1.out S2.out)).mono ?_
      rintro e9 w3 ⟨rfl, hb⟩
      have S3 := hide (hb)
      clear KFB
      clear hb
      clear pb0 pb1
      obtain ⟨pa0, pa1⟩ := Ca.out _ (bel_trans (bel_trans S1.out S2.out) S3.out)
      go_wp2_with fail
      refine (KTA.out w3 (bel_trans (bel_trans S1.out S2.out) S3.out)).mono ?_
      rintro e9 w4 ⟨rfl, hb⟩
      have S4 := hide (hb)
      clear KTA
      clear hb
      clear pa0 pa1
      obtain ⟨pb0, pb1⟩ := Cb.out _ (bel_trans (bel_trans (bel_trans S1.out S2.out) S3.out) S4.out)
      go_wp2_with fail
      refine (KTB.out w4 (bel_trans (bel_trans (bel_trans S1.out S2.out) S3.out) S4.out)).mono ?_
      rintro e9 w5 ⟨rfl, hb⟩
      have S5 := hide (hb)
      clear KTB
      clear hb
      clear pb0 pb1
      obtain ⟨pa0, pa1⟩ := Ca.out _ (bel_trans (bel_trans (bel_trans (bel_trans S1.out S2.out) S3.out) S4.out) S5.out)
      go_wp2_with fail
      refine (KVA.out w5 (bel_trans (bel_trans (bel_trans (bel_trans S1.out S2.out) S3.out) S4.out) S5.out)).mono ?_
      rintro e9 w6 ⟨rfl, hb⟩
      have S6 := hide (hb)
      clear KVA
      clear hb
      clear pa0 pa1
      go_wp2_with fail
      refine (KPA.out w6 (HZ.out.below (bel_trans (bel_trans (bel_trans (bel_trans (bel_trans S1.out S2.out) S3.out) S4.out) S5.out) S6.out))).mono ?_
      rintro e9 v7 ⟨Ax, cx, rfl, hb, hv, hcx⟩
      have hba := bel_new (.cells #[.int .i64 a.k, .slice Ax n cx] 24) (Below.refl _ v7)
      have S7 := hide (bel_trans hb hba)
      have Vx := hide (hv.below hba)
      have Cx := hide (box_cells v7 (a.k) Ax n cx)
      clear hb hba hv
      obtain ⟨px0, px1⟩ := Cx.out _ (Below.refl _ _)
      obtain ⟨pa0, pa1⟩ := Ca.out _ (bel_trans (bel_trans (bel_trans (bel_trans (bel_trans (bel_trans S1.out S2.out) S3.out) S4.out) S5.out) S6.out) S7.out)
      go_wp2_with fail
      generalize v7.alloc (.cells #[.int .i64 a.k, .slice Ax n cx] 24) = w7 at *
      generalize v7.heap.size = gx at *
      clear v7
      refine (sam_ex (c := cx) (d := c) (Vx.out.below (Below.refl _ _)) (VA.out.below (bel_trans (bel_trans (bel_trans (bel_trans (bel_trans (bel_trans S1.out S2.out) S3.out) S4.out) S5.out) S6.out) S7.out)) HN.out HN.out (by omega) (by omega) (iff_of_true rfl rfl)).mono ?_
      rintro e9 w8 ⟨rfl, hb⟩
      have S8 := hide (hb)
      clear px0 px1
      clear hb
      clear pa0 pa1
      obtain ⟨pa0, pa1⟩ := Ca.out _ (bel_trans (bel_trans (bel_trans (bel_trans (bel_trans (bel_trans (bel_trans S1.out S2.out) S3.out) S4.out) S5.out) S6.out) S7.out) S8.out)
      obtain ⟨pb0, pb1⟩ := Cb.out _ (bel_trans (bel_trans (bel_trans (bel_trans (bel_trans (bel_trans (bel_trans S1.out S2.out) S3.out) S4.out) S5.out) S6.out) S7.out) S8.out)
      go_wp2_with fail
      refine (sam_ex (c := c) (d := d) (VA.out.below (bel_trans (bel_trans (bel_trans (bel_trans (bel_trans (bel_trans (bel_trans S1.out S2.out) S3.out) S4.out) S5.out) S6.out) S7.out) S8.out)) (VB.out.below (bel_trans (bel_trans (bel_trans (bel_trans (bel_trans (bel_trans (bel_trans S1.out S2.out) S3.out) S4.out) S5.out) S6.out) S7.out) S8.out)) HN.out HM.out (by omega) (by omega) (r := false) (iff_of_false HEQ.out (by decide))).mono ?_
      rintro e9 w9 ⟨rfl, hb⟩
      have S9 := hide (hb)
      clear hb
      clear pa0 pa1
      clear pb0 pb1
      go_wp2_with fail
      refine (KP.out w9 (HZ.out.below (bel_trans (bel_trans (bel_trans (bel_trans (bel_trans (bel_trans (bel_trans (bel_trans S1.out S2.out) S3.out) S4.out) S5.out) S6.out) S7.out) S8.out) S9.out))).mono ?_
      rintro e9 v10 ⟨Ay, cy, rfl, hb, hv, hcy⟩
      have hba := bel_new (.cells #[.int .i64 y.k, .slice Ay q cy] 24) (Below.refl _ v10)
      have S10 := hide (bel_trans hb hba)
      have Vy := hide (hv.below hba)
      have Cy := hide (box_cells v10 (y.k) Ay q cy)
      clear hb hba hv
      obtain ⟨py0, py1⟩ := Cy.out _ (Below.refl _ _)
      go_wp2_with fail
      generalize v10.alloc (.cells #[.int .i64 y.k, .slice Ay q cy] 24) = w10 at *
      generalize v10.heap.size = gy at *
      clear v10
      refine (txt_any (c := cy) (Vy.out.below (Below.refl _ _)) hcy HQ.out (by omega) HYB.out HYT.out (HZ.out.below (bel_trans (bel_trans (bel_trans (bel_trans (bel_trans (bel_trans (bel_trans (bel_trans (bel_trans S1.out S2.out) S3.out) S4.out) S5.out) S6.out) S7.out) S8.out) S9.out) S10.out))).mono ?_
      rintro e9 w11 ⟨rfl, hb⟩
      have S11 := hide (hb)
      clear py0 py1
      clear hb
      obtain ⟨py0, py1⟩ := Cy.out _ S11.out
      go_wp2_with fail
      refine (val_ex (c := cy) (Vy.out.below S11.out) HQ.out (by omega) HYB.out HYV.out (HZ.out.below (bel_trans (bel_trans (bel_trans (bel_trans (bel_trans (bel_trans (bel_trans (bel_trans (bel_trans (bel_trans S1.out S2.out) S3.out) S4.out) S5.out) S6.out) S7.out) S8.out) S9.out) S10.out) S11.out))).mono ?_
      rintro e9 w12 ⟨rfl, hb⟩
      have S12 := hide (hb)
      clear py0 py1
      clear hb
      go_wp2
      go_ret
      exact ⟨rfl, (bel_trans B0.out (bel_trans (bel_trans (bel_trans (bel_trans (bel_trans (bel_trans (bel_trans (bel_trans (bel_trans (bel_trans (bel_trans S1.out S2.out) S3.out) S4.out) S5.out) S6.out) S7.out) S8.out) S9.out) S10.out) S11.out) S12.out))⟩
  · have t0 : (h == 0) = false := by simpa using he
    have t0' : (h != 0) = true := by rw [bne, t0]; rfl
    have hy := parse_err HP.out he
    subst hy
    obtain rfl : q = 0 := HQ.out.symm
    have l1 : (-1 : Int) ≤ at_ := by rcases hcase with h | h | h | ⟨_, i, h, _⟩ <;> omega
    have l2 : at_ ≤ (s.size : Int) := by rcases hcase with h | h | h | ⟨_, i, h, _⟩ <;> omega
    clear hcase HP he
    cases hva : validN a with
    | false =>
      have KTA := hide (fun W (hb : Below wz.heap.size wz W) => txt_any (c := c) (VA.out.below hb) hac HN.out (by omega) hab (t := ⟨#[]⟩) (x := 1) (by unfold txtN; rw [hva]; rfl) (HZ.out.below hb))
      have KTB := hide (fun W (hb : Below wz.heap.size wz W) => txt_any (c := d) (VB.out.below hb) hbd HM.out (by omega) hbb (t := bs (txtN b).1) (x := (txtN b).2) rfl (HZ.out.below hb))
      have KVA := hide (fun W (hb : Below wz.heap.size wz W) => val_ex (c := c) (VA.out.below hb) HN.out (by omega) hab hva (HZ.out.below hb))
      clear hva
      generalize bs (txtN b).1 = sb at *
      generalize (txtN b).2 = xb at *
      go_enter Tryd.func7, Tryd.ntmps7
      go_wp2_with fail
      rw [← HWZ.out]
      clear HWZ
      generalize w.heap.size + 1 = gb at *
      go_wp2_with fail
      refine (KH.out).mono ?_
      rintro e9 w1 ⟨rfl, hb⟩
      have S1 := hide (hb)
      clear KH
      clear hb
      obtain ⟨pa0, pa1⟩ := Ca.out _ S1.out
      go_wp2_with fail
      refine (KFA.out w1 S1.out).mono ?_
      rintro e9 w2 ⟨rfl, hb⟩
      have S2 := hide (hb)
      clear KFA
      clear hb
      clear pa0 pa1
      obtain ⟨pb0, pb1⟩ := Cb.out _ (bel_trans S1.out S2.out)
      go_wp2_with fail
      refine (KFB.out w2 (bel_trans S1.out S2.out)).mono ?_
      rintro e9 w3 ⟨rfl, hb⟩
      have S3 := hide (hb)
      clear KFB
      clear hb
      clear pb0 pb1
      obtain ⟨pa0, pa1⟩ := Ca.out _ (bel_trans (bel_trans S1.out S2.out) S3.out)
      go_wp2_with fail
      refine (KTA.out w3 (bel_trans (bel_trans S1.out S2.out) S3.out)).mono ?_
      rintro e9 w4 ⟨rfl, hb⟩
      have S4 := hide (hb)
      clear KTA
      clear hb
      clear pa0 pa1
      obtain ⟨pb0, pb1⟩ := Cb.out _ (bel_trans (bel_trans (bel_trans S1.out S2.out) S3.out) S4.out)
      go_wp2_with fail
      refine (KTB.out w4 (bel_trans (bel_trans (bel_trans S1.out S2.out) S3.out) S4.out)).mono ?_
      rintro e9 w5 ⟨rfl, hb⟩
      have S5 := hide (hb)
      clear KTB
      clear hb
      clear pb0 pb1
      obtain ⟨pa0, pa1⟩ := Ca.out _ (bel_trans (bel_trans (bel_trans (bel_trans S1.out S2.out) S3.out) S4.out) S5.out)
      go_wp2_with fail
      refine (KVA.out w5 (bel_trans (bel_trans (bel_trans (bel_trans S1.out S2.out) S3.out) S4.out) S5.out)).mono ?_
      rintro e9 w6 ⟨rfl, hb⟩
      have S6 := hide (hb)
      clear KVA
      clear hb
      clear pa0 pa1
      go_wp2_with fail
      refine (KP.out w6 (HZ.out.below (bel_trans (bel_trans (bel_trans (bel_trans (bel_trans S1.out S2.out) S3.out) S4.out) S5.out) S6.out))).mono ?_
      rintro e9 v7 ⟨Ay, cy, rfl, hb, hv, hcy⟩
      have hba := bel_new (.cells #[.int .i64 0, .slice Ay 0 cy] 24) (Below.refl _ v7)
      have S7 := hide (bel_trans hb hba)
      have Vy := hide (hv.below hba)
      have Cy := hide (box_cells v7 (0) Ay 0 cy)
      clear hb hba hv
      obtain ⟨py0, py1⟩ := Cy.out _ (Below.refl _ _)
      go_wp2
      go_ret
      exact ⟨rfl, (bel_trans B0.out (bel_trans (bel_trans (bel_trans (bel_trans (bel_trans (bel_trans S1.out S2.out) S3.out) S4.out) S5.out) S6.out) S7.out))⟩
    | true =>
    cases hvb : validN b with
    | false =>
      have KTA := hide (fun W (hb : Below wz.heap.size wz W) => txt_any (c := c) (VA.out.below hb) hac HN.out (by omega) hab (t := bs (textN a)) (x := 0) (by unfold txtN; rw [if_pos hva]; rfl) (HZ.out.below hb))
      have KTB := hide (fun W (hb : Below wz.heap.size wz W) => txt_any (c := d) (VB.out.below hb) hbd HM.out (by omega) hbb (t := ⟨#[]⟩) (x := 1) (by unfold txtN; rw [hvb]; rfl) (HZ.out.below hb))
      have KVA := hide (fun W (hb : Below wz.heap.size wz W) => val_ex (c := c) (VA.out.below hb) HN.out (by omega) hab hva (HZ.out.below hb))
      have KPA := hide (fun W hz => par_ex (bs (textN a)) (n := a) (x := 0) (y := 0) (m := n) (by rw [bl_bs]; exact text_read hva hta) HN.out W hz)
      clear hva hvb
      generalize bs (textN a) = sa at *
      go_enter Tryd.func7, Tryd.ntmps7
      go_wp2_with fail
      rw [← HWZ.out]
      clear HWZ
      generalize w.heap.size + 1 = gb at *
      go_wp2_with fail
      refine (KH.out).mono ?_
      rintro e9 w1 ⟨rfl, hb⟩
      have S1 := hide (hb)
      clear KH
      clear hb
      obtain ⟨pa0, pa1⟩ := Ca.out _ S1.out
      go_wp2_with fail
      refine (KFA.out w1 S1.out).mono ?_
      rintro e9 w2 ⟨rfl, hb⟩
      have S2 := hide (hb)
      clear KFA
      clear hb
      clear pa0 pa1
      obtain ⟨pb0, pb1⟩ := Cb.out _ (bel_trans S1.out S2.out)
      go_wp2_with fail
      refine (KFB.out w2 (bel_trans S1.out S2.out)).mono ?_
      rintro e9 w3 ⟨rfl, hb⟩
      have S3 := hide (hb)
      clear KFB
      clear hb
      clear pb0 pb1
      obtain ⟨pa0, pa1⟩ := Ca.out _ (bel_trans (bel_trans S1.out S2.out) S3.out)
      go_wp2_with fail
      refine (KTA.out w3 (bel_trans (bel_trans S1.out S2.out) S3.out)).mono ?_
      rintro e9 w4 ⟨rfl, hb⟩
      have S4 := hide (hb)
      clear KTA
      clear hb
      clear pa0 pa1
      obtain ⟨pb0, pb1⟩ := Cb.out _ (bel_trans (bel_trans (bel_trans S1.out S2.out) S3.out) S4.out)
      go_wp2_with fail
      refine (KTB.out w4 (bel_trans (bel_trans (bel_trans S1.out S2.out) S3.out) S4.out)).mono ?_
      rintro e9 w5 ⟨rfl, hb⟩
      have S5 := hide (hb)
      clear KTB
      clear hb
      clear pb0 pb1
      obtain ⟨pa0, pa1⟩ := Ca.out _ (bel_trans (bel_trans (bel_trans (bel_trans S1.out S2.out) S3.out) S4.out) S5.out)
      go_wp2_with fail
      refine (KVA.out w5 (bel_trans (bel_trans (bel_trans (bel_trans S1.out S2.out) S3.out) S4.out) S5.out)).mono ?_
      rintro e9 w6 ⟨rfl, hb⟩
      have S6 := hide (hb)
      clear KVA
      clear hb
      clear pa0 pa1
      go_wp2_with fail
      refine (KPA.out w6 (HZ.out.below (bel_trans (bel_trans (bel_trans (bel_trans (bel_trans S1.out S2.out) S3.out) S4.out) S5.out) S6.out))).mono ?_
      rintro e9 v7 ⟨Ax, cx, rfl, hb, hv, hcx⟩
      have hba := bel_new (.cells #[.int .i64 a.k, .slice Ax n cx] 24) (Below.refl _ v7)
      have S7 := hide (bel_trans hb hba)
      have Vx := hide (hv.below hba)
      have Cx := hide (box_cells v7 (a.k) Ax n cx)
      clear hb hba hv
      obtain ⟨px0, px1⟩ := Cx.out _ (Below.refl _ _)
      obtain ⟨pa0, pa1⟩ := Ca.out _ (bel_trans (bel_trans (bel_trans (bel_trans (bel_trans (bel_trans S1.out S2.out) S3.out) S4.out) S5.out) S6.out) S7.out)
      go_wp2_with fail
      generalize v7.alloc (.cells #[.int .i64 a.k, .slice Ax n cx] 24) = w7 at *
      generalize v7.heap.size = gx at *
      clear v7
      refine (sam_ex (c := cx) (d := c) (Vx.out.below (Below.refl _ _)) (VA.out.below (bel_trans (bel_trans (bel_trans (bel_trans (bel_trans (bel_trans S1.out S2.out) S3.out) S4.out) S5.out) S6.out) S7.out)) HN.out HN.out (by omega) (by omega) (iff_of_true rfl rfl)).mono ?_
      rintro e9 w8 ⟨rfl, hb⟩
      have S8 := hide (hb)
      clear px0 px1
      clear hb
      clear pa0 pa1
      go_wp2_with fail
      refine (KP.out w8 (HZ.out.below (bel_trans (bel_trans (bel_trans (bel_trans (bel_trans (bel_trans (bel_trans S1.out S2.out) S3.out) S4.out) S5.out) S6.out) S7.out) S8.out))).mono ?_
      rintro e9 v9 ⟨Ay, cy, rfl, hb, hv, hcy⟩
      have hba := bel_new (.cells #[.int .i64 0, .slice Ay 0 cy] 24) (Below.refl _ v9)
      have S9 := hide (bel_trans hb hba)
      have Vy := hide (hv.below hba)
      have Cy := hide (box_cells v9 (0) Ay 0 cy)
      clear hb hba hv
      obtain ⟨py0, py1⟩ := Cy.out _ (Below.refl _ _)
      go_wp2
      go_ret
      exact ⟨rfl, (bel_trans B0.out (bel_trans (bel_trans (bel_trans (bel_trans (bel_trans (bel_trans (bel_trans (bel_trans S1.out S2.out) S3.out) S4.out) S5.out) S6.out) S7.out) S8.out) S9.out))⟩
    | true =>
    by_cases hab2 : a = b
    · have KTA := hide (fun W (hb : Below wz.heap.size wz W) => txt_any (c := c) (VA.out.below hb) hac HN.out (by omega) hab (t := bs (textN a)) (x := 0) (by unfold txtN; rw [if_pos hva]; rfl) (HZ.out.below hb))
      have KTB := hide (fun W (hb : Below wz.heap.size wz W) => txt_any (c := d) (VB.out.below hb) hbd HM.out (by omega) hbb (t := bs (textN b)) (x := 0) (by unfold txtN; rw [if_pos hvb]; rfl) (HZ.out.below hb))
      have KVA := hide (fun W (hb : Below wz.heap.size wz W) => val_ex (c := c) (VA.out.below hb) HN.out (by omega) hab hva (HZ.out.below hb))
      have KPA := hide (fun W hz => par_ex (bs (textN a)) (n := a) (x := 0) (y := 0) (m := n) (by rw [bl_bs]; exact text_read hva hta) HN.out W hz)
      have HEQ := hide (show a = b from hab2)
      have hst : bs (textN a) = bs (textN b) := by rw [hab2]
      clear hva hvb hab2
      generalize bs (textN a) = sa at *
      generalize bs (textN b) = sb at *
      subst hst
      go_enter Tryd.func7, Tryd.ntmps7
      go_wp2_with fail
      rw [← HWZ.out]
      clear HWZ
      generalize w.heap.size + 1 = gb at *
      go_wp2_with fail
      refine (KH.out).mono ?_
      rintro e9 w1 ⟨rfl, hb⟩
      have S1 := hide (hb)
      clear KH
      clear hb
      obtain ⟨pa0, pa1⟩ := Ca.out _ S1.out
      go_wp2_with fail
      refine (KFA.out w1 S1.out).mono ?_
      rintro e9 w2 ⟨rfl, hb⟩
      have S2 := hide (hb)
      clear KFA
      clear hb
      clear pa0 pa1
      obtain ⟨pb0, pb1⟩ := Cb.out _ (bel_trans S1.out S2.out)
      go_wp2_with fail
      refine (KFB.out w2 (bel_trans S1.out S2.out)).mono ?_
      rintro e9 w3 ⟨rfl, hb⟩
      have S3 := hide (hb)
      clear KFB
      clear hb
      clear pb0 pb1
      obtain ⟨pa0, pa1⟩ := Ca.out _ (bel_trans (bel_trans S1.out S2.out) S3.out)
      go_wp2_with fail
      refine (KTA.out w3 (bel_trans (bel_trans S1.out S2.out) S3.out)).mono ?_
      rintro e9 w4 ⟨rfl, hb⟩
      have S4 := hide (hb)
      clear KTA
      clear hb
      clear pa0 pa1
      obtain ⟨pb0, pb1⟩ := Cb.out _ (bel_trans (bel_trans (bel_trans S1.out S2.out) S3.out) S4.out)
      go_wp2_with fail
      refine (KTB.out w4 (bel_trans (bel_trans (bel_trans S1.out S2.out) S3.out) S4.out)).mono ?_
      rintro e9 w5 ⟨rfl, hb⟩
      have S5 := hide (hb)
      clear KTB
      clear hb
      clear pb0 pb1
      obtain ⟨pa0, pa1⟩ := Ca.out _ (bel_trans (bel_trans (bel_trans (bel_trans S1.out S2.out) S3.out) S4.out) S5.out)
      go_wp2_with fail
      refine (KVA.out w5 (bel_trans (bel_trans (bel_trans (bel_trans S1.out S2.out) S3.out) S4.out) S5.out)).mono ?_
      rintro e9 w6 ⟨rfl, hb⟩
      have S6 := hide (hb)
      clear KVA
      clear hb
      clear pa0 pa1
      go_wp2_with fail
      refine (KPA.out w6 (HZ.out.below (bel_trans (bel_trans (bel_trans (bel_trans (bel_trans S1.out S2.out) S3.out) S4.out) S5.out) S6.out))).mono ?_
      rintro e9 v7 ⟨Ax, cx, rfl, hb, hv, hcx⟩
      have hba := bel_new (.cells #[.int .i64 a.k, .slice Ax n cx] 24) (Below.refl _ v7)
      have S7 := hide (bel_trans hb hba)
      have Vx := hide (hv.below hba)
      have Cx := hide (box_cells v7 (a.k) Ax n cx)
      clear hb hba hv
      obtain ⟨px0, px1⟩ := Cx.out _ (Below.refl _ _)
      obtain ⟨pa0, pa1⟩ := Ca.out _ (bel_trans (bel_trans (bel_trans (bel_trans (bel_trans (bel_trans S1.out S2.out) S3.out) S4.out) S5.out) S6.out) S7.out)
      go_wp2_with fail
      generalize v7.alloc (.cells #[.int .i64 a.k, .slice Ax n cx] 24) = w7 at *
      generalize v7.heap.size = gx at *
      clear v7
      refine (sam_ex (c := cx) (d := c) (Vx.out.below (Below.refl _ _)) (VA.out.below (bel_trans (bel_trans (bel_trans (bel_trans (bel_trans (bel_trans S1.out S2.out) S3.out) S4.out) S5.out) S6.out) S7.out)) HN.out HN.out (by omega) (by omega) (iff_of_true rfl rfl)).mono ?_
      rintro e9 w8 ⟨rfl, hb⟩
      have S8 := hide (hb)
      clear px0 px1
      clear hb
      clear pa0 pa1
      obtain ⟨pa0, pa1⟩ := Ca.out _ (bel_trans (bel_trans (bel_trans (bel_trans (bel_trans (bel_trans (bel_trans S1.out S2.out) S3.out) S4.out) S5.out) S6.out) S7.out) S8.out)
      obtain ⟨pb0, pb1⟩ := Cb.out _ (bel_trans (bel_trans (bel_trans (bel_trans (bel_trans (bel_trans (bel_trans S1.out S2.out) S3.out) S4.out) S5.out) S6.out) S7.out) S8.out)
      go_wp2_with fail
      refine (sam_ex (c := c) (d := d) (VA.out.below (bel_trans (bel_trans (bel_trans (bel_trans (bel_trans (bel_trans (bel_trans S1.out S2.out) S3.out) S4.out) S5.out) S6.out) S7.out) S8.out)) (VB.out.below (bel_trans (bel_trans (bel_trans (bel_trans (bel_trans (bel_trans (bel_trans S1.out S2.out) S3.out) S4.out) S5.out) S6.out) S7.out) S8.out)) HN.out HM.out (by omega) (by omega) (r := true) (iff_of_true HEQ.out rfl)).mono ?_
      rintro e9 w9 ⟨rfl, hb⟩
      have S9 := hide (hb)
      clear hb
      clear pa0 pa1
      clear pb0 pb1
      go_wp2_with fail
      refine (KP.out w9 (HZ.out.below (bel_trans (bel_trans (bel_trans (bel_trans (bel_trans (bel_trans (bel_trans (bel_trans S1.out S2.out) S3.out) S4.out) S5.out) S6.out) S7.out) S8.out) S9.out))).mono ?_
      rintro e9 v10 ⟨Ay, cy, rfl, hb, hv, hcy⟩
      have hba := bel_new (.cells #[.int .i64 0, .slice Ay 0 cy] 24) (Below.refl _ v10)
      have S10 := hide (bel_trans hb hba)
      have Vy := hide (hv.below hba)
      have Cy := hide (box_cells v10 (0) Ay 0 cy)
      clear hb hba hv
      obtain ⟨py0, py1⟩ := Cy.out _ (Below.refl _ _)
      go_wp2
      go_ret
      exact ⟨rfl, (bel_trans B0.out (bel_trans (bel_trans (bel_trans (bel_trans (bel_trans (bel_trans (bel_trans (bel_trans (bel_trans S1.out S2.out) S3.out) S4.out) S5.out) S6.out) S7.out) S8.out) S9.out) S10.out))⟩
    · have KTA := hide (fun W (hb : Below wz.heap.size wz W) => txt_any (c := c) (VA.out.below hb) hac HN.out (by omega) hab (t := bs (textN a)) (x := 0) (by unfold txtN; rw [if_pos hva]; rfl) (HZ.out.below hb))
      have KTB := hide (fun W (hb : Below wz.heap.size wz W) => txt_any (c := d) (VB.out.below hb) hbd HM.out (by omega) hbb (t := bs (textN b)) (x := 0) (by unfold txtN; rw [if_pos hvb]; rfl) (HZ.out.below hb))
      have KVA := hide (fun W (hb : Below wz.heap.size wz W) => val_ex (c := c) (VA.out.below hb) HN.out (by omega) hab hva (HZ.out.below hb))
      have KPA := hide (fun W hz => par_ex (bs (textN a)) (n := a) (x := 0) (y := 0) (m := n) (by rw [bl_bs]; exact text_read hva hta) HN.out W hz)
      have HEQ := hide (show ¬ a = b from hab2)
      have hst : bs (textN a) ≠ bs (textN b) := fun e => hab2 (text_inj hva hvb hta htb (bs_inj e))
      clear hva hvb hab2
      generalize bs (textN a) = sa at *
      generalize bs (textN b) = sb at *
      have t1 : (sa == sb) = false := by rw [bytes_dec]; simpa using hst
      have t2 : (sa != sb) = true := by rw [bne, t1]; rfl
      have t3 : (sa.toList == sb.toList) = false := by rw [toList_beq]; simpa using hst
      have t4 : ¬ sa.toList = sb.toList := by simpa using t3
      clear hst
      go_enter Tryd.func7, Tryd.ntmps7
      go_wp2_with fail
      rw [← HWZ.out]
      clear HWZ
      generalize w.heap.size + 1 = gb at *
      go_wp2_with fail
      refine (KH.out).mono ?_
      rintro e9 w1 ⟨rfl, hb⟩
      have S1 := hide (hb)
      clear KH
      clear hb
      obtain ⟨pa0, pa1⟩ := Ca.out _ S1.out
      go_wp2_with fail
      refine (KFA.out w1 S1.out).mono ?_
      rintro e9 w2 ⟨rfl, hb⟩
      have S2 := hide (hb)
      clear KFA
      clear hb
      clear pa0 pa1
      obtain ⟨pb0, pb1⟩ := Cb.out _ (bel_trans S1.out S2.out)
      go_wp2_with fail
      refine (KFB.out w2 (bel_trans S1.out S2.out)).mono ?_
      rintro e9 w3 ⟨rfl, hb⟩
      have S3 := hide (hb)
      clear KFB
      clear hb
      clear pb0 pb1
      obtain ⟨pa0, pa1⟩ := Ca.out _ (bel_trans (bel_trans S1.out S2.out) S3.out)
      go_wp2_with fail
      refine (KTA.out w3 (bel_trans (bel_trans S1.out S2.out) S3.out)).mono ?_
      rintro e9 w4 ⟨rfl, hb⟩
      have S4 := hide (hb)
      clear KTA
      clear hb
      clear pa0 pa1
      obtain ⟨pb0, pb1⟩ := Cb.out _ (bel_trans (bel_trans (bel_trans S1.out S2.out) S3.out) S4.out)
      go_wp2_with fail
      refine (KTB.out w4 (bel_trans (bel_trans (bel_trans S1.out S2.out) S3.out) S4.out)).mono ?_
      rintro e9 w5 ⟨rfl, hb⟩
      have S5 := hide (hb)
      clear KTB
      clear hb
      clear pb0 pb1
      obtain ⟨pa0, pa1⟩ := Ca.out _ (bel_trans (bel_trans (bel_trans (bel_trans S1.out S2.out) S3.out) S4.out) S5.out)
      go_wp2_with fail
      refine (KVA.out w5 (bel_trans (bel_trans (bel_trans (bel_trans S1.out S2.out) S3.out) S4.out) S5.out)).mono ?_
      rintro e9 w6 ⟨rfl, hb⟩
      have S6 := hide (hb)
      clear KVA
      clear hb
      clear pa0 pa1
      go_wp2_with fail
      refine (KPA.out w6 (HZ.out.below (bel_trans (bel_trans (bel_trans (bel_trans (bel_trans S1.out S2.out) S3.out) S4.out) S5.out) S6.out))).mono ?_
      rintro e9 v7 ⟨Ax, cx, rfl, hb, hv, hcx⟩
      have hba := bel_new (.cells #[.int .i64 a.k, .slice Ax n cx] 24) (Below.refl _ v7)
      have S7 := hide (bel_trans hb hba)
      have Vx := hide (hv.below hba)
      have Cx := hide (box_cells v7 (a.k) Ax n cx)
      clear hb hba hv
      obtain ⟨px0, px1⟩ := Cx.out _ (Below.refl _ _)
      obtain ⟨pa0, pa1⟩ := Ca.out _ (bel_trans (bel_trans (bel_trans (bel_trans (bel_trans (bel_trans S1.out S2.out) S3.out) S4.out) S5.out) S6.out) S7.out)
      go_wp2_with fail
      generalize v7.alloc (.cells #[.int .i64 a.k, .slice Ax n cx] 24) = w7 at *
      generalize v7.heap.size = gx at *
      clear v7
      refine (sam_ex (c := cx) (d := c) (Vx.out.below (Below.refl _ _)) (VA.out.below (bel_trans (bel_trans (bel_trans (bel_trans (bel_trans (bel_trans S1.out S2.out) S3.out) S4.out) S5.out) S6.out) S7.out)) HN.out HN.out (by omega) (by omega) (iff_of_true rfl rfl)).mono ?_
      rintro e9 w8 ⟨rfl, hb⟩
      have S8 := hide (hb)
      clear px0 px1
      clear hb
      clear pa0 pa1
      obtain ⟨pa0, pa1⟩ := Ca.out _ (bel_trans (bel_trans (bel_trans (bel_trans (bel_trans (bel_trans (bel_trans S1.out S2.out) S3.out) S4.out) S5.out) S6.out) S7.out) S8.out)
      obtain ⟨pb0, pb1⟩ := Cb.out _ (bel_trans (bel_trans (bel_trans (bel_trans (bel_trans (bel_trans (bel_trans S1.out S2.out) S3.out) S4.out) S5.out) S6.out) S7.out) S8.out)
      go_wp2_with fail
      refine (sam_ex (c := c) (d := d) (VA.out.below (bel_trans (bel_trans (bel_trans (bel_trans (bel_trans (bel_trans (bel_trans S1.out S2.out) S3.out) S4.out) S5.out) S6.out) S7.out) S8.out)) (VB.out.below (bel_trans (bel_trans (bel_trans (bel_trans (bel_trans (bel_trans (bel_trans S1.out S2.out) S3.out) S4.out) S5.out) S6.out) S7.out) S8.out)) HN.out HM.out (by omega) (by omega) (r := false) (iff_of_false HEQ.out (by decide))).mono ?_
      rintro e9 w9 ⟨rfl, hb⟩
      have S9 := hide (hb)
      clear hb
      clear pa0 pa1
      clear pb0 pb1
      go_wp2_with fail
      refine (KP.out w9 (HZ.out.below (bel_trans (bel_trans (bel_trans (bel_trans (bel_trans (bel_trans (bel_trans (bel_trans S1.out S2.out) S3.out) S4.out) S5.out) S6.out) S7.out) S8.out) S9.out))).mono ?_
      rintro e9 v10 ⟨Ay, cy, rfl, hb, hv, hcy⟩
      have hba := bel_new (.cells #[.int .i64 0, .slice Ay 0 cy] 24) (Below.refl _ v10)
      have S10 := hide (bel_trans hb hba)
      have Vy := hide (hv.below hba)
      have Cy := hide (box_cells v10 (0) Ay 0 cy)
      clear hb hba hv
      obtain ⟨py0, py1⟩ := Cy.out _ (Below.refl _ _)
      go_wp2
      go_ret
      exact ⟨rfl, (bel_trans B0.out (bel_trans (bel_trans (bel_trans (bel_trans (bel_trans (bel_trans (bel_trans (bel_trans (bel_trans S1.out S2.out) S3.out) S4.out) S5.out) S6.out) S7.out) S8.out) S9.out) S10.out))⟩
end Go.Proofs.YtcgmikpmbomliaaDoor
