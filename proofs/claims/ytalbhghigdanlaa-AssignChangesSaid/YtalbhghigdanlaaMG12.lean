/-
  Assign: GridBound of the program: what it answers.
  Assign: GridBound of the program, walked.
  Assign: Same of the reference.
  Assign: head, the chapter's examples.
  Assign: head, walked.
  Assign: GridBound of the reference: the plain part.
-/
import Derived.Test.YtalbhghigdanlaaMG11
import Derived.Test.YtalbhghigdanlaaMG10
set_option linter.unusedSimpArgs false
set_option linter.unusedVariables false
namespace Go.Proofs.Ytalbhghigdanlaa
open Go.RowKit Go.CH Go.CH.Asg
open Go.ChangeMaps (setBlock)
def hbA (c : Nat → Nat → Int) (d e : Nat → Int) (L : List Int) (n m k : Nat) (b : Bool) : Bool := hb3 c L n m (k / (m + 1)) (k % (m + 1)) (lF L k) (hb2 e L m (k / (m + 1)) (k % (m + 1)) (lF L k) (hb1 d L n m (k / (m + 1)) (k % (m + 1)) (lF L k) b))
def hbF (c : Nat → Nat → Int) (d e : Nat → Int) (L : List Int) (n m : Nat) : Nat → Bool
  | 0 => true
  | k + 1 => hbA c d e L n m k (hbF c d e L n m k)
def gbnd0 (C : List (List Int)) (D E L : List Int) : Bool := vld C D E && decide (L.length = (D.length + 1) * (E.length + 1)) && wi L (-1000000) 1000000 && decide (lF L (L.length - 1) ≤ 0)
def gbnd (C : List (List Int)) (D E L : List Int) : Int × Bool := if (gbnd0 C D E L && hbF (cF C) (lF D) (lF E) L D.length E.length L.length) = true then (lF L 0, true) else (0, false)
theorem gbnd_no {C : List (List Int)} {D E L : List Int} (h : gbnd0 C D E L = false) : gbnd C D E L = (0, false) := by unfold gbnd; rw [if_neg (by simp [h])]
theorem gbnd_noF {C : List (List Int)} {D E L : List Int} (h : hbF (cF C) (lF D) (lF E) L D.length E.length L.length = false) : gbnd C D E L = (0, false) := by unfold gbnd; rw [if_neg (by simp [h])]
theorem gbnd_yes {C : List (List Int)} {D E L : List Int} (h : gbnd0 C D E L = true) (hF : hbF (cF C) (lF D) (lF E) L D.length E.length L.length = true) : gbnd C D E L = (lF L 0, true) := by unfold gbnd; rw [if_pos (by simp [h, hF])]
/-- What GridBound makes ahead of its loop. -/
def PreO (pl pw : Nat) (LA : Option Addr) (cl len m : Nat) : Own := star (CellO pl #[.slice LA len cl] 23) (star (CellO pw #[.int .i64 ((m : Int) + 1)] 3) emp)
theorem pre_ok {pl pw : Nat} {LA : Option Addr} {cl len m : Nat} : (PreO pl pw LA cl len m).Ok := star_ok cell_ok (star_ok cell_ok emp_ok)
theorem pre_cells {w0 W : World} {pl pw : Nat} {LA : Option Addr} {cl len m : Nat} (h : Run (fun _ => False) w0 (PreO pl pw LA cl len m) W) : W.cell? ⟨pl, 0, none⟩ = some (.slice LA len cl) ∧ W.cell? ⟨pw, 0, none⟩ = some (.int .i64 ((m : Int) + 1)) := by
  unfold PreO at h
  obtain ⟨F, hC⟩ := h.fst
  obtain ⟨F2, hC2⟩ := h.drop.fst
  exact ⟨cell_at hC rfl, cell_at hC2 rfl⟩
theorem pre_new (w : World) (LA : Option Addr) (cl len m : Nat) : Run (fun _ => False) w (PreO w.heap.size (w.heap.size + 1) LA cl len m) ((w.alloc (.cells #[.slice LA len cl] 23)).alloc (.cells #[.int .i64 ((m : Int) + 1)] 3)) := by
  have R1 := (Run.begin w).fresh emp_ok (cell_new w #[.slice LA len cl] 23)
  have R2 := R1.fresh (star_ok cell_ok emp_ok) (cell_new _ #[.int .i64 ((m : Int) + 1)] 3)
  have hs : (w.alloc (.cells #[.slice LA len cl] 23)).heap.size = w.heap.size + 1 := by simp
  rw [hs] at R2
  exact R2.perm (by unfold PreO; ac_rfl)
end Go.Proofs.Ytalbhghigdanlaa
namespace Go.Proofs.Ytalbhghigdanlaa
open Go.RowKit Go.CH Go.CH.Asg
open Go.ChangeMaps (setBlock)
set_option maxRecDepth 100000 in
set_option maxHeartbeats 12800000 in
theorem gridbound_any {w : World} {A B G LA : Option Addr} {V : List (Option Addr × Nat)} {c d e cl : Nat} {C : List (List Int)} {D E L : List Int} (h : Mat w A C V) (hl : C.length ≤ maxLen) (hD : Vec w B D) (hE : Vec w G E) (hL : Vec w LA L) (hLl : L.length ≤ 1000000) (hEl : E.length ≤ 1000000) (hDl : D.length ≤ 1000000) :
    Calls Try.prog 25 #[.slice A C.length c, .slice B D.length d, .slice G E.length e, .slice LA L.length cl] w (BelowIB w (gbnd C D E L)) := by
  have KV := hide (fun (w' : World) (hb : Below w.heap.size w w') => valid_any (c := c) (d := d) (e := e) (h.below hb) hl (hD.below hb) (hE.below hb))
  have KW := hide (fun (w' : World) (hb : Below w.heap.size w w') => within_any (c := cl) (hL.below hb) hLl (-1000000) 1000000)
  have HP := hide (fun hv => prb_of (w := w) (C := C) (D := D) (E := E) hv h hD hE)
  have H6 := hide (fun hv => vld_iff (C := C) (D := D) (E := E) hv)
  have HL := hide hL
  have HB0 := hide (show gbnd0 C D E L = (vld C D E && decide (L.length = (D.length + 1) * (E.length + 1)) && wi L (-1000000) 1000000 && decide (lF L (L.length - 1) ≤ 0)) from rfl)
  have HNO := hide (fun hf => gbnd_no (C := C) (D := D) (E := E) (L := L) hf)
  have HNOF := hide (fun hf => gbnd_noF (C := C) (D := D) (E := E) (L := L) hf)
  have HYES := hide (fun h0 hf => gbnd_yes (C := C) (D := D) (E := E) (L := L) h0 hf)
  have HWI := hide (fun h0 => wi_F (l := L) (lo := -1000000) (hi := 1000000) h0)
  obtain ⟨n, hn⟩ : ∃ n, n = D.length := ⟨_, rfl⟩
  obtain ⟨m, hm⟩ : ∃ n, n = E.length := ⟨_, rfl⟩
  obtain ⟨nc, hnc⟩ : ∃ n, n = C.length := ⟨_, rfl⟩
  obtain ⟨nl, hnl⟩ : ∃ n, n = L.length := ⟨_, rfl⟩
  have HVF := hide (fun (i : Nat) hi => vec_F (n := nl) (i := i) hL hnl.symm hi)
  have HNL := hide hnl
  have HNC := hide hnc
  have HPR := hide (pre_new w LA cl nl m)
  rw [← hn, ← hm] at HP HNOF HB0
  rw [← hnl] at HNOF HB0 HWI KW
  rw [← hn, ← hm, ← hnl] at HYES
  rw [← hn] at hDl
  rw [← hm] at hEl
  rw [← hn, ← hm, ← hnc] at KV
  rw [← hnl] at hLl
  rw [← hn, ← hm, ← hnc, ← hnl]
  have tw : IntKind.i64.wrap ((m : Int) + 1) = (m : Int) + 1 := IntWalk.i64_in _ (by omega)
  have tn : IntKind.i64.wrap ((n : Int) + 1) = (n : Int) + 1 := IntWalk.i64_in _ (by omega)
  clear h hl hD hE hL hn hm hnc hnl
  cases hv : vld C D E with
  | false =>
    rw [hv] at HB0
    have HF := hide (HNO.out (by rw [HB0.out]; rfl))
    have HR0 := hide HPR.out
    have KV0 := hide (KV.out _ HPR.out.bel)
    rw [hv] at KV0
    clear HB0 HNO HNOF HYES KW HP H6 HPR KV hv HWI HVF HL HNL HNC
    go_enter Try.func25, Try.ntmps25
    go_wp2_with fail
    refine KV0.out.mono ?_
    rintro e9 w1 ⟨rfl, hb1⟩
    obtain ⟨pl, hpl⟩ : ∃ pl, pl = w.heap.size := ⟨_, rfl⟩
    rw [← hpl] at HR0 ⊢
    have HR1 := hide (HR0.out.below pre_ok hb1)
    obtain ⟨k1, k2⟩ := pre_cells HR1.out
    clear KV0 HR0 hb1 hpl
    have HB := hide HR1.out.bel
    clear HR1 k1 k2
    go_wp2
    go_ret2
    exact bel_ib HF.out HB.out
  | true =>
    rw [hv, Bool.true_and] at HB0
    have hP := HP.out hv
    have hn6 := hP.n6
    have hm6 := hP.m6
    have HQ := hide hP.q
    have hnn : n = nc := by rw [HNC.out]; exact hP.hn.symm
    subst hnn
    have HR0 := hide HPR.out
    have KV0 := hide (KV.out _ HPR.out.bel)
    rw [hv] at KV0
    clear HP hP H6 HPR KV hv HNC
    generalize cF C = cc at *
    generalize lF D = dd at *
    generalize lF E = ee at *
    obtain ⟨K, hK⟩ : ∃ K, K = (n + 1) * (m + 1) := ⟨_, rfl⟩
    have hK1 : 1 ≤ K := by rw [hK]; exact Nat.mul_pos (Nat.succ_pos _) (Nat.succ_pos _)
    have hK2 : K ≤ 49 := by rw [hK]; exact Nat.mul_le_mul (show n + 1 ≤ 7 by omega) (show m + 1 ≤ 7 by omega)
    have hKi : ((n : Int) + 1) * ((m : Int) + 1) = (K : Int) := by rw [hK]; push_cast; rfl
    have tk : IntKind.i64.wrap (((n : Int) + 1) * ((m : Int) + 1)) = (K : Int) := by rw [hKi]; exact IntWalk.i64_in _ (by omega)
    rw [← hK] at HB0
    have HK := hide hK
    clear hK hKi
    by_cases h1 : nl = K
    case neg =>
      have HF := hide (HNO.out (by rw [HB0.out, decide_eq_false h1]; rfl))
      clear HNO HNOF HYES KW HWI HVF HNL HB0 HQ HK HL
      go_enter Try.func25, Try.ntmps25
      go_wp2_with fail
      refine KV0.out.mono ?_
      rintro e9 w1 ⟨rfl, hb1⟩
      obtain ⟨pl, hpl⟩ : ∃ pl, pl = w.heap.size := ⟨_, rfl⟩
      rw [← hpl] at HR0 ⊢
      have HR1 := hide (HR0.out.below pre_ok hb1)
      obtain ⟨k1, k2⟩ := pre_cells HR1.out
      clear KV0 HR0 hb1 hpl
      have HB := hide HR1.out.bel
      clear HR1
      go_wp2
      go_ret2
      exact bel_ib HF.out HB.out
    rw [decide_eq_true h1, Bool.true_and] at HB0
    obtain ⟨s, hs⟩ : ∃ s, nl = s + 1 := ⟨nl - 1, by omega⟩
    have ts : IntKind.i64.wrap ((nl : Int) - 1) = (s : Int) := by rw [IntWalk.i64_in _ (by omega)]; omega
    have hs1 : nl - 1 = s := by omega
    have hsl : (s : Int) < (nl : Int) := by omega
    have hs0 : s < nl := by omega
    rw [hs1] at HB0
    subst h1
    clear hs hs1
    cases h3 : wi L (-1000000) 1000000 with
    | false =>
      rw [h3] at HB0 KW
      have HF := hide (HNO.out (by rw [HB0.out]; rfl))
      clear HNO HNOF HYES HWI HVF HNL HB0 HQ HK h3 HL
      go_enter Try.func25, Try.ntmps25
      go_wp2_with fail
      refine KV0.out.mono ?_
      rintro e9 w1 ⟨rfl, hb1⟩
      obtain ⟨pl, hpl⟩ : ∃ pl, pl = w.heap.size := ⟨_, rfl⟩
      rw [← hpl] at HR0 ⊢
      have HR1 := hide (HR0.out.below pre_ok hb1)
      obtain ⟨k1, k2⟩ := pre_cells HR1.out
      clear KV0 HR0 hb1 hpl
      have KW1 := hide (KW.out _ HR1.out.bel)
      clear KW
      go_wp2_with fail
      refine KW1.out.mono ?_
      rintro e9 w2 ⟨rfl, hb2⟩
      have HR2 := hide (HR1.out.below pre_ok hb2)
      clear KW1 k1 k2 HR1 hb2
      obtain ⟨k1, k2⟩ := pre_cells HR2.out
      have HB := hide HR2.out.bel
      clear HR2
      go_wp2
      go_ret2
      exact bel_ib HF.out HB.out
    | true =>
      rw [h3, Bool.true_and] at HB0
      rw [h3] at KW
      have HWB := hide (HWI.out h3)
      clear h3
      obtain ⟨bl, ol, rfl, hcs⟩ := HVF.out s hs0
      have HCS := hide hcs
      clear hcs
      by_cases h4 : lF L s ≤ 0
      case neg =>
        have HF := hide (HNO.out (by rw [HB0.out, decide_eq_false h4]))
        clear HNO HNOF HYES HWI HVF HNL HB0 HQ HK HWB HL
        go_enter Try.func25, Try.ntmps25
        go_wp2_with fail
        refine KV0.out.mono ?_
        rintro e9 w1 ⟨rfl, hb1⟩
        obtain ⟨pl, hpl⟩ : ∃ pl, pl = w.heap.size := ⟨_, rfl⟩
        rw [← hpl] at HR0 ⊢
        have HR1 := hide (HR0.out.below pre_ok hb1)
        obtain ⟨k1, k2⟩ := pre_cells HR1.out
        clear KV0 HR0 hb1 hpl
        have KW1 := hide (KW.out _ HR1.out.bel)
        clear KW
        go_wp2_with fail
        refine KW1.out.mono ?_
        rintro e9 w2 ⟨rfl, hb2⟩
        have HR2 := hide (HR1.out.below pre_ok hb2)
        clear KW1 k1 k2 HR1 hb2
        obtain ⟨k1, k2⟩ := pre_cells HR2.out
        have HB := hide HR2.out.bel
        have c5 := HCS.out _ HB.out
        clear HR2
        go_wp2
        go_ret2
        exact bel_ib HF.out HB.out
      have HY := hide (HYES.out (by rw [HB0.out, decide_eq_true h4]))
      clear HNO HYES HB0 HWI
      go_enter Try.func25, Try.ntmps25
      go_wp2_with fail
      refine KV0.out.mono ?_
      rintro e9 w1 ⟨rfl, hb1⟩
      obtain ⟨pl, hpl⟩ : ∃ pl, pl = w.heap.size := ⟨_, rfl⟩
      rw [← hpl] at HR0 ⊢
      have HR1 := hide (HR0.out.below pre_ok hb1)
      obtain ⟨k1, k2⟩ := pre_cells HR1.out
      clear KV0 HR0 hb1 hpl
      have KW1 := hide (KW.out _ HR1.out.bel)
      clear KW
      go_wp2_with fail
      refine KW1.out.mono ?_
      rintro e9 w2 ⟨rfl, hb2⟩
      have HR2 := hide (HR1.out.below pre_ok hb2)
      clear KW1 k1 k2 HR1 hb2
      obtain ⟨k1, k2⟩ := pre_cells HR2.out
      have c5 := HCS.out _ HR2.out.bel
      have hR3 := HR2.out.fresh pre_ok (cell_new w2 #[.bool true] 4)
      have HR3 := hide hR3
      obtain ⟨k3, -⟩ := pre_cells hR3.drop
      clear hR3 HR2
      go_wp2
      generalize w2.heap.size = po at *
      go_loopg [48] nl (fun g1 s wr => ∃ k : Nat, k + g1 = nl ∧ s = .int .i64 k ∧ Run (fun _ => False) w (star (CellO po #[.bool (hbF cc dd ee L n m k)] 4) (PreO pl (pl + 1) (some ⟨bl, ol, none⟩) cl nl m)) wr)
      case atStart => exact ⟨0, Nat.zero_add _, rfl, HR3.out⟩
      case round =>
        obtain ⟨k, hg1, rfl, hR⟩ := hrel
        have HR := hide hR
        clear hR HR3
        cases gk with
        | succ g1 =>
          have hlt : k < nl := by omega
          have hz := HWB.out k hlt
          obtain ⟨bl2, ol2, e0, hck⟩ := HVF.out k hlt
          obtain ⟨rfl, rfl⟩ : bl2 = bl ∧ ol2 = ol := by simpa [eq_comm] using e0
          have c6 := hck _ HR.out.bel
          obtain ⟨z, hzz⟩ : ∃ z, z = lF L k := ⟨_, rfl⟩
          have HZ := hide hzz
          rw [← hzz] at c6 hz
          have HRN := hide (show Run (fun _ => False) w (GbO po wr.heap.size pl (pl + 1) (some ⟨bl2, ol2, none⟩) cl nl m z (hbF cc dd ee L n m k) emp) (wr.alloc (.cells #[.int .i64 z] 3)) from
            ((HR.out.fresh (star_ok cell_ok pre_ok) (cell_new wr #[.int .i64 z] 3)).perm (by unfold GbO PreO; ac_rfl)))
          obtain ⟨i, hi⟩ : ∃ i, i = k / (m + 1) := ⟨_, rfl⟩
          obtain ⟨j, hj⟩ : ∃ j, j = k % (m + 1) := ⟨_, rfl⟩
          have hin : i ≤ n := by
            have h8 : k < (m + 1) * (n + 1) := by rw [Nat.mul_comm, ← HK.out]; exact hlt
            have h9 := Nat.div_lt_of_lt_mul h8
            omega
          have hjm : j ≤ m := by have := Nat.mod_lt k (show 0 < m + 1 by omega); omega
          have HA := hide (show hbF cc dd ee L n m (k + 1) = hb3 cc L n m i j z (hb2 ee L m i j z (hb1 dd L n m i j z (hbF cc dd ee L n m k))) by rw [hi, hj, HZ.out]; rfl)
          have td : wrap64 ((k : Int) / ((m : Int) + 1)) = (i : Int) := by
            have e8 : (k : Int) / ((m : Int) + 1) = (i : Int) := by rw [hi]; push_cast; rfl
            rw [e8]; exact IntWalk.wrap64_in (i : Int) (by omega)
          have tm : (k : Int) % ((m : Int) + 1) = (j : Int) := by rw [hj]; push_cast; rfl
          have tz : ((m : Int) + 1 == 0) = false := by simp; omega
          have tz2 : ¬ ((m : Int) + 1 = 0) := by omega
          clear hck e0 hzz hi hj
          go_wp2_with fail
          generalize (wr.alloc (.cells #[.int .i64 z] 3)) = wx at *
          generalize wr.heap.size = pn at *
          have hRD := HRN.out.drew (gb_ok emp_ok)
          have HRD := hide hRD
          obtain ⟨-, -, -, q2, q3⟩ := gb_cells hRD
          have KN := nbb_any (L := L) (z := z) (b := hbF cc dd ee L n m k) (m := m) (n := n) HQ.out emp_ok (W := wx.drew) (by rw [← HNL.out]; exact HRD.out) HL.out (by rw [← HNL.out]; exact HK.out) hin hjm (by rw [← HNL.out]; exact HWB.out) c d e
          rw [← HNL.out, ← HA.out] at KN
          have HKN := hide KN
          obtain ⟨bb, hbb⟩ : ∃ bb, bb = hbF cc dd ee L n m (k + 1) := ⟨_, rfl⟩
          rw [← hbb] at HKN
          have HBB := hide hbb
          clear KN hRD HRN HA c6 hbb
          refine wp_region_ley (fun w' => w' = wx.drew) (by kernel_rfl) (by kernel_rfl) (by kernel_rfl) rfl ?_
          generalize wx.drew = wd at *
          (repeat (first | (refine ley_skip (by rfl) ?_; try simp only [Act.put, List.setIfInBounds_toArray, List.set_cons_zero, List.set_cons_succ]) | (refine ley_read (v := ?_) (by rfl) ?_ ?_; rotate_left; (focus (intro w' hS'; go_simp; (try with_reducible rfl); done)); try simp only [Act.put, List.setIfInBounds_toArray, List.set_cons_zero, List.set_cons_succ])))
          refine ley_last rfl (by rfl) (fun KK hK => ?_)
          go_wp2_with fail
          rw [td, tm]
          refine HKN.out.mono ?_
          rintro e9 w4 ⟨rfl, hR4⟩
          have HR4 := hide (show Run (fun _ => False) w (star (CellO po #[.bool bb] 4) (PreO pl (pl + 1) (some ⟨bl2, ol2, none⟩) cl nl m)) w4 from by unfold GbO at hR4; unfold PreO; exact hR4.rot.drop)
          clear hR4 HKN q2 q3 td tm tz tz2
          go_wp2_with fail
          refine hK.out _ _ ?_
          clear hK
          go_wp2
          go_roundg g1
          case measure => omega
          case rel => exact ⟨k + 1, by omega, by go_num, by rw [← HBB.out]; exact HR4.out⟩
        | zero =>
          obtain rfl : k = nl := by omega
          obtain ⟨F, hC⟩ := HR.out.fst
          have c1 : wr.cell? ⟨po, 0, none⟩ = some (.bool (hbF cc dd ee L n m k)) := cell_at hC rfl
          obtain ⟨c2, -⟩ := pre_cells HR.out.drop
          have HBZ := hide HR.out.bel
          clear hC HR
          cases hb : hbF cc dd ee L n m k with
          | false =>
            have HF := hide (HNOF.out hb)
            rw [hb] at c1
            clear hb HNOF HY
            go_wp2
            go_ret2
            exact bel_ib HF.out HBZ.out
          | true =>
            have HF := hide (HY.out hb)
            obtain ⟨bl2, ol2, e0, hck⟩ := HVF.out 0 (by omega)
            obtain ⟨rfl, rfl⟩ : bl2 = bl ∧ ol2 = ol := by simpa [eq_comm] using e0
            have c3 := hck _ HBZ.out
            rw [Nat.add_zero] at c3
            rw [hb] at c1
            have t0 : (0 : Int) < (k : Int) := by omega
            generalize lF L 0 = z0 at *
            clear hb HNOF HY hck e0
            go_wp2
            go_ret2
            exact bel_ib HF.out HBZ.out
end Go.Proofs.Ytalbhghigdanlaa
namespace Go.Proofs.Ytalbhghigdanlaa
open Go.RowKit Go.CH Go.CH.Asg
open Go.ChangeMaps (setBlock)
def sameM (x y : BestM) : Bool := decide (x.k = y.k) && decide (x.ps = y.ps) && decide (x.us = y.us) && decide (x.vs = y.vs)
def TwoO (p q : Nat) (v u : Array Value) : Own := star (CellO q u 27) (star (CellO p v 27) emp)
theorem two_ok {p q : Nat} {v u : Array Value} : (TwoO p q v u).Ok := star_ok cell_ok (star_ok cell_ok emp_ok)
theorem two_new (w : World) (v u : Array Value) : Run (fun _ => False) w (TwoO w.heap.size (w.heap.size + 1) v u) ((w.alloc (.cells v 27)).alloc (.cells u 27)) := by
  have R1 := (Run.begin w).fresh emp_ok (cell_new w v 27)
  have R2 := R1.fresh (star_ok cell_ok emp_ok) (cell_new _ u 27)
  have hs : (w.alloc (.cells v 27)).heap.size = w.heap.size + 1 := by simp
  rw [hs] at R2
  exact R2
theorem two_cells {w W : World} {p q : Nat} {v u : Array Value} (h : Run (fun _ => False) w (TwoO p q v u) W) {i : Nat} {x y : Value} (hv : v[i]? = some x) (hu : u[i]? = some y) : W.cell? ⟨p, i, none⟩ = some x ∧ W.cell? ⟨q, i, none⟩ = some y := by
  unfold TwoO at h
  obtain ⟨F, hC⟩ := h.fst
  obtain ⟨F2, hC2⟩ := h.drop.fst
  exact ⟨cell_at hC2 hv, cell_at hC hu⟩
set_option maxRecDepth 100000 in
set_option maxHeartbeats 6400000 in
theorem same_any {w : World} {v u : Value} {x y : BestM} (hv : AsgV w v x) (hu : AsgV w u y) (h1 : x.ps.length ≤ 1000000) (h2 : x.us.length ≤ 1000000) (h3 : x.vs.length ≤ 1000000) :
    Calls Try.prog 22 #[v, u] w (BelowRet w (.bool (sameM x y))) := by
  obtain ⟨A1, A2, A3, c1, c2, c3, rfl, a1, a2, a3⟩ := hv
  obtain ⟨B1, B2, B3, d1, d2, d3, rfl, b1, b2, b3⟩ := hu
  have HS := hide (show sameM x y = (decide (x.k = y.k) && decide (x.ps = y.ps) && decide (x.us = y.us) && decide (x.vs = y.vs)) from rfl)
  have K1 := hide (fun (w' : World) (hb : Below w.heap.size w w') => ints_any (c := c1) (d := d1) (a1.below hb) (b1.below hb) h1)
  have K2 := hide (fun (w' : World) (hb : Below w.heap.size w w') => ints_any (c := c2) (d := d2) (a2.below hb) (b2.below hb) h2)
  have K3 := hide (fun (w' : World) (hb : Below w.heap.size w w') => ints_any (c := c3) (d := d3) (a3.below hb) (b3.below hb) h3)
  have HR0 := hide (two_new w #[.int .i64 x.k, .slice A1 x.ps.length c1, .slice A2 x.us.length c2, .slice A3 x.vs.length c3] #[.int .i64 y.k, .slice B1 y.ps.length d1, .slice B2 y.us.length d2, .slice B3 y.vs.length d3])
  clear a1 a2 a3 b1 b2 b3 h1 h2 h3
  generalize x.ps.length = l1 at *
  generalize x.us.length = l2 at *
  generalize x.vs.length = l3 at *
  generalize y.ps.length = m1 at *
  generalize y.us.length = m2 at *
  generalize y.vs.length = m3 at *
  generalize decide (x.ps = y.ps) = e1 at *
  generalize decide (x.us = y.us) = e2 at *
  generalize decide (x.vs = y.vs) = e3 at *
  generalize sameM x y = ss at *
  generalize x.k = k at *
  generalize y.k = k' at *
  clear x y
  obtain ⟨q0, r0⟩ := two_cells HR0.out (i := 0) rfl rfl
  obtain ⟨q1, r1⟩ := two_cells HR0.out (i := 1) rfl rfl
  obtain ⟨q2, r2⟩ := two_cells HR0.out (i := 2) rfl rfl
  obtain ⟨q3, r3⟩ := two_cells HR0.out (i := 3) rfl rfl
  by_cases hk : k = k'
  case neg =>
    have tk : (k == k') = false := by simpa using hk
    have HE := hide (show ss = false by rw [HS.out, decide_eq_false hk]; rfl)
    clear HS hk
    go_enter Try.func22, Try.ntmps22
    have HB := hide HR0.out.bel
    clear K1 K2 K3
    go_wp2
    go_ret
    exact bel_bool HE.out HB.out
  subst hk
  rw [decide_eq_true rfl, Bool.true_and] at HS
  cases e1 with
  | false =>
    have HE := hide (show ss = false by rw [HS.out]; simp)
    clear HS
    go_enter Try.func22, Try.ntmps22
    have KK1 := hide (K1.out _ HR0.out.bel)
    go_wp2_with fail
    refine KK1.out.mono ?_
    rintro e9 w1 ⟨rfl, hb⟩
    have HR1 := hide (HR0.out.below two_ok hb)
    clear hb KK1 q0 q1 q2 q3 r0 r1 r2 r3
    obtain ⟨q0, r0⟩ := two_cells HR1.out (i := 0) rfl rfl
    obtain ⟨q1, r1⟩ := two_cells HR1.out (i := 1) rfl rfl
    obtain ⟨q2, r2⟩ := two_cells HR1.out (i := 2) rfl rfl
    obtain ⟨q3, r3⟩ := two_cells HR1.out (i := 3) rfl rfl
    have HB := hide HR1.out.bel
    clear K1 K2 K3
    go_wp2
    go_ret
    exact bel_bool HE.out HB.out
  | true =>
    cases e2 with
    | false =>
      have HE := hide (show ss = false by rw [HS.out]; simp)
      clear HS
      go_enter Try.func22, Try.ntmps22
      have KK1 := hide (K1.out _ HR0.out.bel)
      go_wp2_with fail
      refine KK1.out.mono ?_
      rintro e9 w1 ⟨rfl, hb⟩
      have HR1 := hide (HR0.out.below two_ok hb)
      clear hb KK1 q0 q1 q2 q3 r0 r1 r2 r3
      obtain ⟨q0, r0⟩ := two_cells HR1.out (i := 0) rfl rfl
      obtain ⟨q1, r1⟩ := two_cells HR1.out (i := 1) rfl rfl
      obtain ⟨q2, r2⟩ := two_cells HR1.out (i := 2) rfl rfl
      obtain ⟨q3, r3⟩ := two_cells HR1.out (i := 3) rfl rfl
      have KK2 := hide (K2.out _ HR1.out.bel)
      go_wp2_with fail
      refine KK2.out.mono ?_
      rintro e9 w2 ⟨rfl, hb⟩
      have HR2 := hide (HR1.out.below two_ok hb)
      clear hb KK2 q0 q1 q2 q3 r0 r1 r2 r3
      obtain ⟨q0, r0⟩ := two_cells HR2.out (i := 0) rfl rfl
      obtain ⟨q1, r1⟩ := two_cells HR2.out (i := 1) rfl rfl
      obtain ⟨q2, r2⟩ := two_cells HR2.out (i := 2) rfl rfl
      obtain ⟨q3, r3⟩ := two_cells HR2.out (i := 3) rfl rfl
      have HB := hide HR2.out.bel
      clear K1 K2 K3
      go_wp2
      go_ret
      exact bel_bool HE.out HB.out
    | true =>
      cases e3 with
      | false =>
        have HE := hide (show ss = false by rw [HS.out]; simp)
        clear HS
        go_enter Try.func22, Try.ntmps22
        have KK1 := hide (K1.out _ HR0.out.bel)
        go_wp2_with fail
        refine KK1.out.mono ?_
        rintro e9 w1 ⟨rfl, hb⟩
        have HR1 := hide (HR0.out.below two_ok hb)
        clear hb KK1 q0 q1 q2 q3 r0 r1 r2 r3
        obtain ⟨q0, r0⟩ := two_cells HR1.out (i := 0) rfl rfl
        obtain ⟨q1, r1⟩ := two_cells HR1.out (i := 1) rfl rfl
        obtain ⟨q2, r2⟩ := two_cells HR1.out (i := 2) rfl rfl
        obtain ⟨q3, r3⟩ := two_cells HR1.out (i := 3) rfl rfl
        have KK2 := hide (K2.out _ HR1.out.bel)
        go_wp2_with fail
        refine KK2.out.mono ?_
        rintro e9 w2 ⟨rfl, hb⟩
        have HR2 := hide (HR1.out.below two_ok hb)
        clear hb KK2 q0 q1 q2 q3 r0 r1 r2 r3
        obtain ⟨q0, r0⟩ := two_cells HR2.out (i := 0) rfl rfl
        obtain ⟨q1, r1⟩ := two_cells HR2.out (i := 1) rfl rfl
        obtain ⟨q2, r2⟩ := two_cells HR2.out (i := 2) rfl rfl
        obtain ⟨q3, r3⟩ := two_cells HR2.out (i := 3) rfl rfl
        have KK3 := hide (K3.out _ HR2.out.bel)
        go_wp2_with fail
        refine KK3.out.mono ?_
        rintro e9 w3 ⟨rfl, hb⟩
        have HR3 := hide (HR2.out.below two_ok hb)
        clear hb KK3 q0 q1 q2 q3 r0 r1 r2 r3
        obtain ⟨q0, r0⟩ := two_cells HR3.out (i := 0) rfl rfl
        obtain ⟨q1, r1⟩ := two_cells HR3.out (i := 1) rfl rfl
        obtain ⟨q2, r2⟩ := two_cells HR3.out (i := 2) rfl rfl
        obtain ⟨q3, r3⟩ := two_cells HR3.out (i := 3) rfl rfl
        have HB := hide HR3.out.bel
        clear K1 K2 K3
        go_wp2
        go_ret
        exact bel_bool HE.out HB.out
      | true =>
        have HE := hide (show ss = true by rw [HS.out]; simp)
        clear HS
        go_enter Try.func22, Try.ntmps22
        have KK1 := hide (K1.out _ HR0.out.bel)
        go_wp2_with fail
        refine KK1.out.mono ?_
        rintro e9 w1 ⟨rfl, hb⟩
        have HR1 := hide (HR0.out.below two_ok hb)
        clear hb KK1 q0 q1 q2 q3 r0 r1 r2 r3
        obtain ⟨q0, r0⟩ := two_cells HR1.out (i := 0) rfl rfl
        obtain ⟨q1, r1⟩ := two_cells HR1.out (i := 1) rfl rfl
        obtain ⟨q2, r2⟩ := two_cells HR1.out (i := 2) rfl rfl
        obtain ⟨q3, r3⟩ := two_cells HR1.out (i := 3) rfl rfl
        have KK2 := hide (K2.out _ HR1.out.bel)
        go_wp2_with fail
        refine KK2.out.mono ?_
        rintro e9 w2 ⟨rfl, hb⟩
        have HR2 := hide (HR1.out.below two_ok hb)
        clear hb KK2 q0 q1 q2 q3 r0 r1 r2 r3
        obtain ⟨q0, r0⟩ := two_cells HR2.out (i := 0) rfl rfl
        obtain ⟨q1, r1⟩ := two_cells HR2.out (i := 1) rfl rfl
        obtain ⟨q2, r2⟩ := two_cells HR2.out (i := 2) rfl rfl
        obtain ⟨q3, r3⟩ := two_cells HR2.out (i := 3) rfl rfl
        have KK3 := hide (K3.out _ HR2.out.bel)
        go_wp2_with fail
        refine KK3.out.mono ?_
        rintro e9 w3 ⟨rfl, hb⟩
        have HR3 := hide (HR2.out.below two_ok hb)
        clear hb KK3 q0 q1 q2 q3 r0 r1 r2 r3
        obtain ⟨q0, r0⟩ := two_cells HR3.out (i := 0) rfl rfl
        obtain ⟨q1, r1⟩ := two_cells HR3.out (i := 1) rfl rfl
        obtain ⟨q2, r2⟩ := two_cells HR3.out (i := 2) rfl rfl
        obtain ⟨q3, r3⟩ := two_cells HR3.out (i := 3) rfl rfl
        have HB := hide HR3.out.bel
        clear K1 K2 K3
        go_wp2
        go_ret
        exact bel_bool HE.out HB.out
end Go.Proofs.Ytalbhghigdanlaa
namespace Go.Proofs.Ytalbhghigdanlaa
open Go.RowKit Go.CH Go.CH.Asg
open Go.ChangeMaps (setBlock)
theorem vec_new (w : World) (l : List Int) : Vec (w.alloc (.cells (ints l).toArray 3)) (some ⟨w.heap.size, 0, none⟩) l := by
  refine ⟨by rw [ints_len, Nat.mul_one], ints_one l, fun _ => ⟨_, rfl, fun j u hu => ?_⟩⟩
  obtain ⟨F', hC, -⟩ := cell_new w (ints l).toArray 3
  rw [Addr.add_zero_]
  exact cell_at hC (by simpa using hu)
theorem alloc_bel (w : World) (o : Obj) : Below w.heap.size w (w.alloc o) := (Below.refl _ _).alloc (Nat.le_refl _) o
def hC : List (List Int) := [[1, 5], [2, 9]]
def hD : List Int := [4, 4]
def hE : List Int := [3, 3]
theorem h_vld : vld hC hD hE = true := by decide +kernel
theorem h_best : bestM hC hD hE = ⟨7, [1, 0], [3, 4], [-2, 2]⟩ := by
  have h1 : bcost (cF hC) (lF hD) (lF hE) 2 2 = 7 := by decide +kernel
  have h2 : bps (cF hC) (lF hD) (lF hE) 2 2 = [1, 0] := by decide +kernel
  have h3 : bus (cF hC) (lF hD) (lF hE) 2 2 = [3, 4] := by decide +kernel
  have h4 : bvs (cF hC) (lF hD) (lF hE) 2 2 = [-2, 2] := by decide +kernel
  unfold bestM
  show BestM.mk _ _ _ _ = _
  rw [show hD.length = 2 from rfl, show hE.length = 2 from rfl, h1, h2, h3, h4]
theorem h_ordL : ordL hC hD hE = [0, 2] := by decide +kernel
theorem h_ordK : ordK hC hD hE = 8 := by decide +kernel
theorem h_err : errV hC hD hE = 0 := by decide +kernel
theorem h_gri : griL hC hD hE = [8, 9, 8, 5, 7, 4, 6, 3, 0] := by decide +kernel
theorem h_bnd1 : bnd hC hD hE [0, 0] [0, 0] = (0, true) := by
  unfold bnd
  rw [if_pos]
  · exact Prod.ext (by decide +kernel) rfl
  · refine ⟨by decide +kernel, ⟨?_, ?_, ?_⟩⟩
    · intro i hi j hj
      have : i < 2 := hi
      have : j < 2 := hj
      rcases (show i = 0 ∨ i = 1 by omega) with rfl | rfl <;> rcases (show j = 0 ∨ j = 1 by omega) with rfl | rfl <;> decide +kernel
    · intro i hi
      have : i < 2 := hi
      rcases (show i = 0 ∨ i = 1 by omega) with rfl | rfl <;> decide +kernel
    · intro i hi
      have : i < 2 := hi
      rcases (show i = 0 ∨ i = 1 by omega) with rfl | rfl <;> decide +kernel
theorem h_bnd2 : bnd hC hD hE [5, 0] [0, 0] = (0, false) := by
  unfold bnd
  rw [if_neg]
  rintro ⟨-, h⟩
  have := h.d 0 (by decide)
  revert this
  decide +kernel
end Go.Proofs.Ytalbhghigdanlaa
namespace Go.Proofs.Ytalbhghigdanlaa
open Go.RowKit Go.CH Go.CH.Asg
open Go.ChangeMaps (setBlock)
def hW (w : World) : World := ((((w.alloc (.cells #[.int .i64 1, .int .i64 5] 3)).alloc (.cells #[.int .i64 2, .int .i64 9] 3)).alloc (.cells #[.slice (some ⟨w.heap.size, 0, none⟩) 2 2, .slice (some ⟨w.heap.size + 1, 0, none⟩) 2 2] 23)).alloc (.cells #[.int .i64 4, .int .i64 4] 3)).alloc (.cells #[.int .i64 3, .int .i64 3] 3)
theorem size_alloc (w : World) (o : Obj) : (w.alloc o).heap.size = w.heap.size + 1 := by simp
theorem h_mem (w : World) : Below w.heap.size w (hW w) ∧ Mat (hW w) (some ⟨w.heap.size + 1 + 1, 0, none⟩) hC [(some ⟨w.heap.size, 0, none⟩, 2), (some ⟨w.heap.size + 1, 0, none⟩, 2)] ∧ Vec (hW w) (some ⟨w.heap.size + 1 + 1 + 1, 0, none⟩) hD ∧ Vec (hW w) (some ⟨w.heap.size + 1 + 1 + 1 + 1, 0, none⟩) hE := by
  unfold hW
  have v1 := vec_new w [1, 5]
  have b1 := alloc_bel w (.cells #[.int .i64 1, .int .i64 5] 3)
  generalize e1 : w.alloc (.cells #[.int .i64 1, .int .i64 5] 3) = w1 at *
  have s1 : w1.heap.size = w.heap.size + 1 := by rw [← e1]; exact size_alloc _ _
  have v2 := vec_new w1 [2, 9]
  have b2 := alloc_bel w1 (.cells #[.int .i64 2, .int .i64 9] 3)
  generalize e2 : w1.alloc (.cells #[.int .i64 2, .int .i64 9] 3) = w2 at *
  have s2 : w2.heap.size = w.heap.size + 1 + 1 := by rw [← e2, size_alloc, s1]
  have b3 := alloc_bel w2 (.cells #[.slice (some ⟨w.heap.size, 0, none⟩) 2 2, .slice (some ⟨w.heap.size + 1, 0, none⟩) 2 2] 23)
  have v3 : Src (w2.alloc (.cells #[.slice (some ⟨w.heap.size, 0, none⟩) 2 2, .slice (some ⟨w.heap.size + 1, 0, none⟩) 2 2] 23)) (some ⟨w2.heap.size, 0, none⟩) 2 1 [.slice (some ⟨w.heap.size, 0, none⟩) 2 2, .slice (some ⟨w.heap.size + 1, 0, none⟩) 2 2] := by
    obtain ⟨F', hC, -⟩ := cell_new w2 #[.slice (some ⟨w.heap.size, 0, none⟩) 2 2, .slice (some ⟨w.heap.size + 1, 0, none⟩) 2 2] 23
    exact src_two hC rfl rfl
  generalize e3 : w2.alloc (.cells #[.slice (some ⟨w.heap.size, 0, none⟩) 2 2, .slice (some ⟨w.heap.size + 1, 0, none⟩) 2 2] 23) = w3 at *
  have s3 : w3.heap.size = w.heap.size + 1 + 1 + 1 := by rw [← e3, size_alloc, s2]
  have v4 := vec_new w3 [4, 4]
  have b4 := alloc_bel w3 (.cells #[.int .i64 4, .int .i64 4] 3)
  change Vec (w3.alloc (.cells #[.int .i64 4, .int .i64 4] 3)) _ _ at v4
  generalize e4 : w3.alloc (.cells #[.int .i64 4, .int .i64 4] 3) = w4 at *
  have s4 : w4.heap.size = w.heap.size + 1 + 1 + 1 + 1 := by rw [← e4, size_alloc, s3]
  have v5 := vec_new w4 [3, 3]
  have b5 := alloc_bel w4 (.cells #[.int .i64 3, .int .i64 3] 3)
  change Vec (w1.alloc (.cells #[.int .i64 2, .int .i64 9] 3)) _ _ at v2
  change Vec (w.alloc (.cells #[.int .i64 1, .int .i64 5] 3)) _ _ at v1
  rw [e1] at v1
  rw [e2] at v2
  rw [s1] at v2
  rw [s2] at v3
  rw [s3] at v4
  rw [s4] at v5
  have b25 := bel_trans b2 (bel_trans b3 (bel_trans b4 b5))
  refine ⟨bel_trans b1 b25, ⟨rfl, (src_below v3 (bel_trans b4 b5)), ?_⟩, v4.below b5, v5⟩
  intro i hi x hx
  match i, hi, hx with
  | 0, _, hx => simp at hx; subst hx; exact ⟨v1.below b25, Nat.le_refl _⟩
  | 1, _, hx => simp at hx; subst hx; exact ⟨v2.below (bel_trans b3 (bel_trans b4 b5)), Nat.le_refl _⟩
/-- The example's problem lies in the world. -/
structure HX (w : World) (A B G : Option Addr) : Prop where
  m : ∃ V, Mat w A hC V
  d : Vec w B hD
  e : Vec w G hE
theorem HX.below {w w' : World} {A B G : Option Addr} (h : HX w A B G) (hb : Below w.heap.size w w') : HX w' A B G := by
  obtain ⟨⟨V, h1⟩, h2, h3⟩ := h
  exact ⟨⟨V, h1.below hb⟩, h2.below hb, h3.below hb⟩
theorem HX.best {w : World} {A B G : Option Addr} (h : HX w A B G) : Calls Try.prog 12 #[.slice A 2 2, .slice B 2 2, .slice G 2 2] w (fun e w' => ∃ v, e = .returned (.tuple #[v, .int .i64 0]) ∧ Below w.heap.size w w' ∧ AsgV w' v ⟨7, [1, 0], [3, 4], [-2, 2]⟩) := by
  obtain ⟨⟨V, h1⟩, h2, h3⟩ := h
  have K := best_any (c := 2) (d := 2) (e := 2) h1 (by decide) h2 h3 (by decide)
  refine K.mono ?_
  rintro e w' ⟨v, rfl, hb, ha⟩
  rw [h_vld, if_pos rfl, h_best] at ha
  exact ⟨v, by rw [h_vld]; rfl, hb, ha⟩
theorem HX.ord {w : World} {A B G : Option Addr} (h : HX w A B G) : Calls Try.prog 17 #[.slice A 2 2, .slice B 2 2, .slice G 2 2] w (fun e w' => ∃ v, e = .returned (.tuple #[v, .int .i64 8, .int .i64 0]) ∧ Below w.heap.size w w' ∧ VecV w' v [0, 2]) := by
  obtain ⟨⟨V, h1⟩, h2, h3⟩ := h
  have K := ordered_any (c := 2) (d := 2) (e := 2) h1 (by decide) h2 h3
  refine K.mono ?_
  rintro e w' ⟨v, rfl, hb, ha⟩
  rw [h_ordL] at ha
  rw [h_ordK, h_err]
  exact ⟨v, rfl, hb, ha⟩
theorem HX.gri {w : World} {A B G : Option Addr} (h : HX w A B G) : Calls Try.prog 20 #[.slice A 2 2, .slice B 2 2, .slice G 2 2] w (fun e w' => ∃ v, e = .returned (.tuple #[v, .int .i64 0]) ∧ Below w.heap.size w w' ∧ VecV w' v [8, 9, 8, 5, 7, 4, 6, 3, 0]) := by
  obtain ⟨⟨V, h1⟩, h2, h3⟩ := h
  have K := gridf_any (c := 2) (d := 2) (e := 2) h1 (by decide) h2 h3
  refine K.mono ?_
  rintro e w' ⟨v, rfl, hb, ha⟩
  rw [h_gri] at ha
  rw [h_err]
  exact ⟨v, rfl, hb, ha⟩
theorem HX.bnd {w : World} {A B G UA WA : Option Addr} (h : HX w A B G) (x : Int) (r : Int × Bool) (hr : Go.Proofs.Ytalbhghigdanlaa.bnd hC hD hE [x, 0] [0, 0] = r) (hU : Vec w UA [x, 0]) (hW : Vec w WA [0, 0]) : Calls Try.prog 16 #[.slice A 2 2, .slice B 2 2, .slice G 2 2, .slice UA 2 2, .slice WA 2 2] w (BelowIB w r) := by
  obtain ⟨⟨V, h1⟩, h2, h3⟩ := h
  have K := bound_any (c := 2) (d := 2) (e := 2) (u := 2) (v := 2) h1 (by decide) h2 h3 hU hW
  rw [hr] at K
  exact K
theorem HX.two {w : World} {A B G : Option Addr} (h : HX w A B G) (x : Int) (r : Int × Bool) (hr : Go.Proofs.Ytalbhghigdanlaa.bnd hC hD hE [x, 0] [0, 0] = r) :
    Calls Try.prog 16 #[.slice A 2 2, .slice B 2 2, .slice G 2 2, .slice (some ⟨w.heap.size, 0, none⟩) 2 2, .slice (some ⟨w.heap.size + 1, 0, none⟩) 2 2] ((w.alloc (.cells #[.int .i64 x, .int .i64 0] 3)).alloc (.cells #[.int .i64 0, .int .i64 0] 3)) (BelowIB ((w.alloc (.cells #[.int .i64 x, .int .i64 0] 3)).alloc (.cells #[.int .i64 0, .int .i64 0] 3)) r) := by
  have v1 : Vec (w.alloc (.cells #[.int .i64 x, .int .i64 0] 3)) _ _ := vec_new w [x, 0]
  have b1 := alloc_bel w (.cells #[.int .i64 x, .int .i64 0] 3)
  generalize e1 : w.alloc (.cells #[.int .i64 x, .int .i64 0] 3) = w1 at *
  have s1 : w1.heap.size = w.heap.size + 1 := by rw [← e1]; exact size_alloc _ _
  have v2 : Vec (w1.alloc (.cells #[.int .i64 0, .int .i64 0] 3)) _ _ := vec_new w1 [0, 0]
  have b2 := alloc_bel w1 (.cells #[.int .i64 0, .int .i64 0] 3)
  rw [s1] at v2
  exact ((h.below b1).below b2).bnd x r hr (v1.below b2) v2
theorem two_bel (w : World) (o p : Obj) : Below w.heap.size w ((w.alloc o).alloc p) := bel_trans (alloc_bel w o) (alloc_bel _ p)
theorem HX.same {w : World} {v : Value} (ha : AsgV w v ⟨7, [1, 0], [3, 4], [-2, 2]⟩) :
    Calls Try.prog 22 #[v, .agg #[.int .i64 7, .slice (some ⟨w.heap.size, 0, none⟩) 2 2, .slice (some ⟨w.heap.size + 1, 0, none⟩) 2 2, .slice (some ⟨w.heap.size + 1 + 1, 0, none⟩) 2 2]] (((w.alloc (.cells #[.int .i64 1, .int .i64 0] 3)).alloc (.cells #[.int .i64 3, .int .i64 4] 3)).alloc (.cells #[.int .i64 (-2), .int .i64 2] 3)) (fun e w' => e = .returned (.bool true) ∧ Below w.heap.size w w') := by
  have v1 : Vec (w.alloc (.cells #[.int .i64 1, .int .i64 0] 3)) _ _ := vec_new w [1, 0]
  have b1 := alloc_bel w (.cells #[.int .i64 1, .int .i64 0] 3)
  generalize e1 : w.alloc (.cells #[.int .i64 1, .int .i64 0] 3) = w1 at *
  have s1 : w1.heap.size = w.heap.size + 1 := by rw [← e1]; exact size_alloc _ _
  have v2 : Vec (w1.alloc (.cells #[.int .i64 3, .int .i64 4] 3)) _ _ := vec_new w1 [3, 4]
  have b2 := alloc_bel w1 (.cells #[.int .i64 3, .int .i64 4] 3)
  generalize e2 : w1.alloc (.cells #[.int .i64 3, .int .i64 4] 3) = w2 at *
  have s2 : w2.heap.size = w.heap.size + 1 + 1 := by rw [← e2, size_alloc, s1]
  have v3 : Vec (w2.alloc (.cells #[.int .i64 (-2), .int .i64 2] 3)) _ _ := vec_new w2 [-2, 2]
  have b3 := alloc_bel w2 (.cells #[.int .i64 (-2), .int .i64 2] 3)
  generalize e3 : w2.alloc (.cells #[.int .i64 (-2), .int .i64 2] 3) = w3 at *
  rw [s1] at v2
  rw [s2] at v3
  have ha3 : AsgV w3 v ⟨7, [1, 0], [3, 4], [-2, 2]⟩ := by
    obtain ⟨A1, A2, A3, c1, c2, c3, e0, h1, h2, h3⟩ := ha
    have hb := bel_trans b1 (bel_trans b2 b3)
    exact ⟨A1, A2, A3, c1, c2, c3, e0, h1.below hb, h2.below hb, h3.below hb⟩
  have K := same_any (w := w3) (y := ⟨7, [1, 0], [3, 4], [-2, 2]⟩) ha3 ⟨_, _, _, 2, 2, 2, rfl, v1.below (bel_trans b2 b3), v2.below b3, v3⟩ (by decide) (by decide) (by decide)
  refine K.mono ?_
  rintro e w' ⟨rfl, hb⟩
  exact ⟨by rw [show sameM ⟨7, [1, 0], [3, 4], [-2, 2]⟩ ⟨7, [1, 0], [3, 4], [-2, 2]⟩ = true by decide +kernel], bel_trans (bel_trans b1 (bel_trans b2 b3)) hb⟩
theorem HX.ints {w : World} {A : Option Addr} {c n : Nat} {l : List Int} (ha : Vec w A l) (hn : l.length = n) (hl : n ≤ 1000000) :
    Calls Try.prog 23 #[.slice A n c, .slice (some ⟨w.heap.size, 0, none⟩) n n] (w.alloc (.cells (ints l).toArray 3)) (fun e w' => e = .returned (.bool true) ∧ Below w.heap.size w w') := by
  have b1 := alloc_bel w (.cells (Go.Proofs.Ytalbhghigdanlaa.ints l).toArray 3)
  have K := ints_any (c := c) (d := n) (ha.below b1) (vec_new w l) (by omega)
  rw [hn] at K
  refine K.mono ?_
  rintro e w' ⟨rfl, hb⟩
  exact ⟨by rw [decide_eq_true rfl], bel_trans b1 hb⟩
theorem asgV_below {w w' : World} {v : Value} {x : BestM} (ha : AsgV w v x) (hb : Below w.heap.size w w') : AsgV w' v x := by
  obtain ⟨A1, A2, A3, c1, c2, c3, e0, h1, h2, h3⟩ := ha
  exact ⟨A1, A2, A3, c1, c2, c3, e0, h1.below hb, h2.below hb, h3.below hb⟩
theorem blk_new (w : World) (o : Obj) (w' : World) (hb : Below (w.alloc o).heap.size (w.alloc o) w') : w'.heap[w.heap.size]? = some o := by
  rw [hb.block _ (by rw [size_alloc]; omega)]; exact heap_alloc_new w o
theorem blk_cell {w : World} {g i : Nat} {cs : Array Value} {t : TypeId} {v : Value} (h : w.heap[g]? = some (.cells cs t (0, 0))) (hi : cs[i]? = some v) : w.cell? ⟨g, i, none⟩ = some v := by
  simp [World.cell?, h, hi]
set_option maxRecDepth 100000 in
set_option maxHeartbeats 6400000 in
theorem head_any (w : World) : Calls Try.prog 10 #[] w (BelowRet w (.bool true)) := by
  obtain ⟨b0, hm, hd, he⟩ := h_mem w
  have H0 := hide (show HX (hW w) _ _ _ from ⟨⟨_, hm⟩, hd, he⟩)
  have HB0 := hide b0
  clear b0 hm hd he
  go_enter Try.func10, Try.ntmps10
  go_wp2_with fail
  rw [show ((((w.alloc (.cells #[.int .i64 1, .int .i64 5] 3)).alloc (.cells #[.int .i64 2, .int .i64 9] 3)).alloc (.cells #[.slice (some ⟨w.heap.size, 0, none⟩) 2 2, .slice (some ⟨w.heap.size + 1, 0, none⟩) 2 2] 23)).alloc (.cells #[.int .i64 4, .int .i64 4] 3)).alloc (.cells #[.int .i64 3, .int .i64 3] 3) = hW w from rfl]
  generalize hW w = w0 at *
  generalize (some (⟨w.heap.size + 1 + 1, 0, none⟩ : Addr)) = A at *
  generalize (some (⟨w.heap.size + 1 + 1 + 1, 0, none⟩ : Addr)) = B at *
  generalize (some (⟨w.heap.size + 1 + 1 + 1 + 1, 0, none⟩ : Addr)) = G at *
  refine H0.out.best.mono ?_
  rintro e w1 ⟨v, rfl, hb, ha⟩
  have HA := hide ha
  have H1 := hide (H0.out.below hb)
  have HB1 := hide (bel_trans HB0.out hb)
  clear hb ha H0 HB0
  obtain ⟨A1, A2, A3, c1, c2, c3, rfl, a1, a2, a3⟩ := HA.out
  clear a1 a2 a3
  go_wp2_with fail
  have HA2 := hide (show AsgV (w1.alloc (.cells #[.int .i64 7, .slice A1 2 c1, .slice A2 2 c2, .slice A3 2 c3] 27)) _ _ from asgV_below HA.out (alloc_bel _ _))
  have H2 := hide (H1.out.below (alloc_bel w1 (.cells #[.int .i64 7, .slice A1 2 c1, .slice A2 2 c2, .slice A3 2 c3] 27)))
  have HB2 := hide (bel_trans HB1.out (alloc_bel w1 (.cells #[.int .i64 7, .slice A1 2 c1, .slice A2 2 c2, .slice A3 2 c3] 27)))
  have HN := hide (blk_new w1 (.cells #[.int .i64 7, .slice A1 2 c1, .slice A2 2 c2, .slice A3 2 c3] 27))
  clear H1 HB1 HA
  generalize w1.alloc (.cells #[.int .i64 7, .slice A1 2 c1, .slice A2 2 c2, .slice A3 2 c3] 27) = w2 at *
  generalize w1.heap.size = g at *
  clear w1
  refine H2.out.ord.mono ?_
  rintro e w3 ⟨v, rfl, hb, A4, c4, rfl, h4⟩
  have HV4 := hide h4
  have H3 := hide (H2.out.below hb)
  have HB3 := hide (bel_trans HB2.out hb)
  have HL3 := hide hb
  clear hb h4 H2 HB2
  go_wp2_with fail
  refine H3.out.gri.mono ?_
  rintro e w4 ⟨v, rfl, hb, A5, c5, rfl, h5⟩
  have HV5 := hide h5
  have HV4' := hide (HV4.out.below hb)
  have H4 := hide (H3.out.below hb)
  have HB4 := hide (bel_trans HB3.out hb)
  have HL4 := hide (bel_trans HL3.out hb)
  clear hb h5 H3 HB3 HL3 HV4
  go_wp2_with fail
  refine (H4.out.two 0 (0, true) h_bnd1).mono ?_
  rintro e w5 ⟨rfl, hb0⟩
  have hb := bel_trans (two_bel w4 _ _) hb0
  have HV5' := hide (HV5.out.below hb)
  have HV4 := hide (HV4'.out.below hb)
  have H5 := hide (H4.out.below hb)
  have HB5 := hide (bel_trans HB4.out hb)
  have HL5 := hide (bel_trans HL4.out hb)
  clear hb hb0 H4 HB4 HL4 HV4' HV5
  go_wp2_with fail
  refine (H5.out.two 5 (0, false) h_bnd2).mono ?_
  rintro e w6 ⟨rfl, hb0⟩
  have hb := bel_trans (two_bel w5 _ _) hb0
  have HV5 := hide (HV5'.out.below hb)
  have HV4' := hide (HV4.out.below hb)
  have HB6 := hide (bel_trans HB5.out hb)
  have HL6 := hide (bel_trans HL5.out hb)
  have HA6 := hide (asgV_below HA2.out HL6.out)
  have hn := HN.out w6 HL6.out
  clear hb hb0 H5 HB5 HL5 HV5' HV4 HA2 HN
  have KS := hide (HX.same HA6.out)
  have q0 := blk_cell (i := 0) hn rfl
  have q1 := blk_cell (i := 1) hn rfl
  have q2 := blk_cell (i := 2) hn rfl
  have q3 := blk_cell (i := 3) hn rfl
  go_wp2_with fail
  refine KS.out.mono ?_
  rintro e w7 ⟨rfl, hb⟩
  have HV5' := hide (HV5.out.below hb)
  have HV4 := hide (HV4'.out.below hb)
  have HB7 := hide (bel_trans HB6.out hb)
  clear hb KS HA6 HL6 HB6 HV5 HV4' hn q0 q1 q2 q3
  have KI := hide (HX.ints (c := c4) (n := 2) HV4.out rfl (by decide))
  go_wp2_with fail
  refine KI.out.mono ?_
  rintro e w8 ⟨rfl, hb⟩
  have HV5 := hide (HV5'.out.below hb)
  have HB8 := hide (bel_trans HB7.out hb)
  clear hb KI HB7 HV5' HV4
  have KI := hide (HX.ints (c := c5) (n := 9) HV5.out rfl (by decide))
  go_wp2_with fail
  refine KI.out.mono ?_
  rintro e w9 ⟨rfl, hb⟩
  have HB9 := hide (bel_trans HB8.out hb)
  clear hb KI HB8 HV5
  go_wp2
  go_ret
  exact ⟨rfl, HB9.out⟩
end Go.Proofs.Ytalbhghigdanlaa
namespace Go.Proofs.Ytalbhghigdanlaa
open Go.RowKit Go.CH Go.CH.Asg
open Go.ChangeMaps (setBlock)
theorem at_div {i j m : Nat} (hj : j ≤ m) : (i * (m + 1) + j) / (m + 1) = i := by
  rw [Nat.mul_comm, Nat.mul_add_div (by omega), Nat.div_eq_of_lt (by omega)]; rfl
theorem at_mod {i j m : Nat} (hj : j ≤ m) : (i * (m + 1) + j) % (m + 1) = j := by
  rw [Nat.mul_comm, Nat.mul_add_mod, Nat.mod_eq_of_lt (by omega)]
section
variable {c : Nat → Nat → Int} {d e : Nat → Int} {L : List Int} {n m : Nat}
/-- The three questions of GridBound at a position. -/
def q1 (d : Nat → Int) (L : List Int) (n m i p : Nat) : Bool := !(decide (i < n) && decide (d i + lF L (p + m + 1) < lF L p))
def q2 (e : Nat → Int) (L : List Int) (m j p : Nat) : Bool := !(decide (j < m) && decide (e j + lF L (p + 1) < lF L p))
def q3 (c : Nat → Nat → Int) (L : List Int) (n m i j p : Nat) : Bool := !(decide (i < n) && decide (j < m) && decide (c i j + lF L (p + m + 2) < lF L p))
theorem hbF_next {i j p : Nat} (hj : j ≤ m) (hp : p = i * (m + 1) + j) (hb : hbF c d e L n m p = true) : hbF c d e L n m (p + 1) = (q1 d L n m i p && q2 e L m j p && q3 c L n m i j p) := by
  show hbA c d e L n m p (hbF c d e L n m p) = _
  rw [hb]
  unfold hbA
  rw [hp, at_div hj, at_mod hj, ← hp]
  have e1 : (i + 1) * (m + 1) + j = p + m + 1 := by rw [hp, Nat.succ_mul]; omega
  have e2 : i * (m + 1) + (j + 1) = p + 1 := by rw [hp]; omega
  have e3 : (i + 1) * (m + 1) + (j + 1) = p + m + 2 := by rw [hp, Nat.succ_mul]; omega
  unfold hb1 hb2 hb3 q1 q2 q3
  rw [e1, e2, e3]
  have t : ∀ a b : Int, decide (a ≤ b) = !decide (b < a) := fun a b => by
    by_cases h : a ≤ b
    · rw [decide_eq_true h, decide_eq_false (by omega)]; rfl
    · rw [decide_eq_false h, decide_eq_true (by omega)]; rfl
  simp only [t]
  by_cases h1 : i < n <;> by_cases h2 : j < m <;> simp [h1, h2]
theorem hbA_false {k : Nat} : hbA c d e L n m k false = false := by
  unfold hbA hb1 hb2 hb3
  simp
theorem hbF_stop {k r : Nat} (h : hbF c d e L n m k = false) (hr : k ≤ r) : hbF c d e L n m r = false := by
  induction r with
  | zero => obtain rfl : k = 0 := by omega
            exact h
  | succ r ih =>
    by_cases e1 : k = r + 1
    · rw [← e1]; exact h
    · show hbA c d e L n m r (hbF c d e L n m r) = false
      rw [ih (by omega)]; exact hbA_false
end
end Go.Proofs.Ytalbhghigdanlaa
