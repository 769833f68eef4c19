/-
  LicenceMatchesReference: what the law's walk needs.
  LicenceMatchesReference, walked.
  Arguments that are slices, opened to the cells that the walk reads: one law for every kind of element, and the laws for an element that is a string, a bool, an integer or a struct of one-cell fields.
  Licence: steps that came in, opened.
  Escrow: the program's own words, sign by sign; and the closed facts of the rows.
-/
import Derived.Test.YtapabbpdfplpoaaM12
import Derived.Test.YtapabbpdfplpoaaM16
import Derived.Test.YtapabbpdfplpoaaM1
import Derived.ProofKit
import Derived.DataShut
import Derived.Carry
import Derived.Deep.Slices
import Derived.Deep.Fields
import Derived.ChangeSame
import Derived.Test.YtapabbpdfplpoaaM13
import Derived.WalkKit
import Derived.OpenShut
import Derived.ShutString
import Derived.SizedLaws
import Derived.Test.YtapabbpdfplpoaaRows
set_option linter.unusedSimpArgs false
set_option linter.unusedVariables false
namespace Go.Proofs.Ytapabbpdfplpoaa
open Go.RowKit Go.CH Go.CH.Lic Go.CH.Esc
open Go.ChangeMaps (setBlock)

section
variable {w0 W W' : World} {X : Own} {p q : Nat} {b b' : BkM}
theorem star_nil {A B : Own} {w : World} {F : Nat → Prop} (h : A w F) (hb : B w (fun _ => False)) : star A B w F := ⟨F, fun _ => False, h, hb, fun _ _ h => h, fun i => by simp⟩
theorem rf_new (h : BSt w0 X p newM W) (W0 : World) : BSt w0 (star (RfO W0 newM W.heap.size) X) p newM (W.alloc (.cells #[.slice none 0 0, .slice none 0 0, .slice none 0 0] 77)) := by
  have h1 := h.box #[.slice none 0 0, .slice none 0 0, .slice none 0 0] 77
  refine ⟨h1.run.rot.imp fun w F hh => ?_, star_ok rfO_ok h.xok, h.inv⟩
  refine star_rot (star_mono hh (fun F hc => ?_) (fun _ h => h))
  refine ⟨⟨[], none, 0, none, 0, none, 0⟩, ⟨rfl, by simp⟩, ?_⟩
  unfold RfS
  refine star_nil hc (star_nil (row_nil _ _ _) (star_nil (row_nil _ _ _) (row_nil _ _ _)))
theorem BSt.ref' (h : BSt w0 (star (RfO w0 b q) X) p b' W) (hI : Inv2 b) (hX : X.Ok) : RSt w0 (star (BkO b' p) X) q b W := ⟨h.run.perm (by ac_rfl), star_ok bkO_ok hX, hI⟩
theorem RSt.back (h : RSt w0 (star (BkO b p) X) q b W) (hX : X.Ok) : BSt w0 (star (RfO w0 b q) X) p b W := ⟨h.run.perm (by ac_rfl), star_ok rfO_ok hX, h.inv⟩
theorem st_step' (h : RSt w0 X q b W) {A : Option Addr} {n : Nat} {l : List ZS} (hs : Steps w0 A n l) (hf : fewB (stepsM l) = true) {k : Nat} (hk : k < l.length) :
    Calls Try.prog 47 #[gptr q, stepV l[k].x l[k].A l[k].c l[k].B l[k].d] W (RRet w0 X q (doR b l[k].x).2 (.int .i64 (doR b l[k].x).1)) := by
  have ho := hs.ok l[k] (List.getElem_mem hk)
  exact rst_do h l[k].x (ho.raw.at_ (few_at hf hk).1).h ho.key
/-- What the law reads of the reference's book. -/
theorem BSt.rf (h : BSt w0 (star (RfO w0 b q) X) p b' W) : ∃ s, RfZ w0 b s ∧ RfR W b q s := by
  obtain ⟨F, s, hz, hS⟩ := (h.run.perm (by ac_rfl : _ = star (RfO w0 b q) (star (BkO b' p) X))).fst
  exact ⟨s, hz, hS.read⟩
theorem BSt.rf2 {Y : Own} (h : BSt w0 (star Y (star (RfO w0 b q) X)) p b' W) : ∃ s, RfZ w0 b s ∧ RfR W b q s := by
  obtain ⟨F, s, hz, hS⟩ := (h.run.perm (by ac_rfl : _ = star (RfO w0 b q) (star (BkO b' p) (star Y X)))).fst
  exact ⟨s, hz, hS.read⟩
theorem cell_keep {w w' : World} (hb : Below w.heap.size w w') {ad : Addr} {v : Value} (h : w.cell? ad = some v) : w'.cell? ad = some v := ((Run.begin w).below emp_ok hb).cell h (fun h => h)
theorem BSt.listAll {Y : Own} {m c9 : Nat} {A9 : Option Addr} {zs : List ZL} (h : BSt w0 (star (ARow lcl low 56 7 (.slice A9 m c9) zs) Y) p b W) (hm : m = zs.length) {k : Nat} (hk : k < zs.length) :
    ∃ g, A9 = some ⟨g, 0, none⟩ ∧ (∀ j v, j < 7 → (lcl zs[k])[j]? = some v → W.cell? ⟨g, k * 7 + j, none⟩ = some v) ∧ Src W zs[k].A zs[k].l.ms.length 1 (strs zs[k].l.ms) ∧ Src W zs[k].B zs[k].l.ps.length 1 (strs zs[k].l.ps) := by
  subst hm
  obtain ⟨F, hA⟩ := h.run.rot.fst
  obtain ⟨F1, F2, hr, hb, -⟩ := hA
  obtain ⟨g, rfl⟩ := row_addr hr (by omega)
  obtain ⟨F3, F4, F5, ha, hc, -⟩ := big_mem low hb _ (List.getElem_mem hk)
  exact ⟨g, rfl, fun j v hj hv => row_cell hr (by rw [flat_get lcl 7 lcl_len hk j hj]; exact hv), row_src ha (strs_one _), row_src hc (strs_one _)⟩
theorem licIn_valid {w : World} {l : LicM} {A B : Option Addr} (hv : valid l = true) (hm : Src w A l.ms.length 1 (strs l.ms)) (hp : Src w B l.ps.length 1 (strs l.ps)) : LicIn w l A B := by
  obtain ⟨n1, n2, n3, n4, n5⟩ := valid_lists hv
  refine ⟨by have := name_size n5; unfold maxLen; omega, hm, hp, fun s hs => ?_, fun s hs => ?_, by omega, by omega⟩
  · have := names_size n3 s hs; unfold maxLen; omega
  · have := names_size n4 s hs; unfold maxLen; omega
end
section
variable {W : World} {A : Option Addr} {n c : Nat} {l : List ZS}
set_option maxRecDepth 100000 in
set_option maxHeartbeats 3200000 in
theorem mat35_away (hs : Steps W A n l) (id : ByteArray) (hid : id.size ≤ maxLen) (a : Int) (h1 : fewB (stepsM l) = false) : Calls Try.prog 11 #[.slice A n c, .string id, .int .i64 a] W (BelowRet W (.bool true)) := by
  have KH := hide (head35_any W)
  have KF := hide (fun w1 (hb : Below W.heap.size W w1) => fewL_any (c := c) (hs.keep hb))
  rw [h1] at KF
  clear hs h1
  go_enter Try.func11, Try.ntmps11
  go_wp2_with fail
  refine KH.out.mono ?_
  rintro e w1 ⟨rfl, hb1⟩
  have KA := hide (KF.out w1 hb1)
  have HB1 := hide hb1
  clear hb1
  go_wp2_with fail
  refine KA.out.mono ?_
  rintro e w2 ⟨rfl, hb2⟩
  have HB2 := hide (HB1.out.trans (hb2.mono HB1.out.size))
  clear hb2
  go_wp2
  go_ret
  exact bel_true HB2.out
set_option maxRecDepth 100000 in
set_option maxHeartbeats 3200000 in
theorem mat35_long (hs : Steps W A n l) (id : ByteArray) (hid : id.size ≤ maxLen) (a : Int) (h1 : fewB (stepsM l) = true) (h2 : 60 < id.size) : Calls Try.prog 11 #[.slice A n c, .string id, .int .i64 a] W (BelowRet W (.bool true)) := by
  have KH := hide (head35_any W)
  have KF := hide (fun w1 (hb : Below W.heap.size W w1) => fewL_any (c := c) (hs.keep hb))
  unfold maxLen at hid
  rw [h1] at KF
  clear hs h1
  go_enter Try.func11, Try.ntmps11
  go_wp2_with fail
  refine KH.out.mono ?_
  rintro e w1 ⟨rfl, hb1⟩
  have KA := hide (KF.out w1 hb1)
  have HB1 := hide hb1
  clear hb1
  go_wp2_with fail
  refine KA.out.mono ?_
  rintro e w2 ⟨rfl, hb2⟩
  have HB2 := hide (HB1.out.trans (hb2.mono HB1.out.size))
  clear hb2
  go_wp2
  go_ret
  exact bel_true HB2.out
end
end Go.Proofs.Ytapabbpdfplpoaa
namespace Go.Proofs.Ytapabbpdfplpoaa
open Go.RowKit Go.CH Go.CH.Lic Go.CH.Esc
open Go.ChangeMaps (setBlock)

section
variable {W : World} {A : Option Addr} {n c : Nat} {l : List ZS}
set_option maxRecDepth 100000 in
set_option maxHeartbeats 25600000 in
theorem mat35_main (hs : Steps W A n l) (id : ByteArray) (a : Int) (h1 : fewB (stepsM l) = true) (h2 : id.size ≤ 60) : Calls Try.prog 11 #[.slice A n c, .string id, .int .i64 a] W (BelowRet W (.bool true)) := by
  have KH := hide (head35_any W)
  have KF := hide (fun w1 (hb : Below W.heap.size W w1) => fewL_any (c := c) (hs.keep hb))
  have hn25 : n ≤ 25 := by rw [← hs.len]; exact few_len h1
  have HS := hide hs
  have HF := hide h1
  obtain ⟨xs, hxs⟩ : ∃ xs, xs = stepsM l := ⟨_, rfl⟩
  have HXS := hide hxs
  have HXL := hide (show n = xs.length by rw [hxs, ← hs.len]; unfold stepsM; simp)
  have HLL := hide (show l.length = n from hs.len)
  rw [h1] at KF
  clear hs h1 hxs
  go_enter Try.func11, Try.ntmps11
  go_wp2_with fail
  refine KH.out.mono ?_
  rintro e w1 ⟨rfl, hb1⟩
  have KA := hide (KF.out w1 hb1)
  have HB1 := hide hb1
  clear hb1
  go_wp2_with fail
  refine KA.out.mono ?_
  rintro e w2 ⟨rfl, hb2⟩
  have KB := hide (st_new ((Run.begin W).below emp_ok (HB1.out.trans (hb2.mono HB1.out.size))) emp_ok)
  clear hb2 KA KF KH HB1
  go_wp2_with fail
  refine KB.out.mono ?_
  rintro e w3 ⟨p, rfl, hS⟩
  have S3 := hide (rf_new hS W)
  clear hS KB
  unfold gptr
  go_wp2
  generalize w3.heap.size = q at *
  go_loopw [10, 11, 12, 13, 14, 15, 16, 17, 18, 19, 20, 21, 22] (fun i _ _ _ _ _ _ _ _ _ _ _ _ wr => ∃ k : Nat, k ≤ n ∧ i = .int .i64 k ∧ BSt W (star (RfO W (bk xs k) q) emp) p (bk xs k) wr) (fun i _ _ _ _ _ _ _ _ _ _ _ _ _ => n - (intOf i).toNat)
  case atStart => exact ⟨0, Nat.zero_le _, rfl, S3.out⟩
  case round =>
    obtain ⟨k, hk, rfl, hS⟩ := hrel
    clear S3
    by_cases hlt : k < n
    · have hkl : k < l.length := by rw [HLL.out]; exact hlt
      have HSX := hide (show sx xs k = l[k].x by rw [HXS.out]; exact sx_at hkl)
      have KD := hide (st_step hS HS.out HF.out hkl)
      have HBK := hide (show bk xs (k + 1) = (doR (bk xs k) l[k].x).2 by rw [bk_succ (by rw [← HXL.out]; exact hlt), HSX.out])
      have HI0 := hide hS.inv
      obtain ⟨bA, oA, hA, -⟩ := (HS.out.keep hS.bel).at_ hkl
      have HA := hide hA
      have HC := hide (show ∀ w', Below W.heap.size W w' → StepC w' bA (oA + k * 13) l[k] from fun w' hb => by
        obtain ⟨b2, o2, he, hd⟩ := (HS.out.keep hb).at_ hkl
        rw [HA.out] at he
        injection he with he; injection he with e1 e2
        subst e1 e2
        exact hd)
      have HD := hide (show ∀ w', RSt W (star (BkO (doR (bk xs k) l[k].x).2 p) emp) q (bk xs k) w' → Calls Try.prog 47 #[gptr q, stepV l[k].x l[k].A l[k].c l[k].B l[k].d] w' (RRet W (star (BkO (doR (bk xs k) l[k].x).2 p) emp) q (doR (bk xs k) l[k].x).2 (.int .i64 (doR (bk xs k) l[k].x).1)) from fun w' h => st_step' h HS.out HF.out hkl)
      have HLI := hide (show LicIn W l[k].x.l l[k].A l[k].B from ((HS.out.ok l[k] (List.getElem_mem hkl)).raw.at_ (few_at HF.out hkl).1).h)
      rw [← HBK.out] at KD HD
      have hbel := hS.bel
      clear hS HSX hA HBK
      generalize (doR (bk xs k) l[k].x).1 = ev at *
      generalize l[k] = z at *
      obtain ⟨d0, d1, d2, d3, d4, d5, d6, d7, d8, d9, d10, d11, d12⟩ := HC.out _ hbel
      clear hbel
      unfold stepV gptr at KD HD
      rw [HA.out]
      go_wp2_with fail
      refine KD.out.mono ?_
      rintro e w4 ⟨rfl, hS⟩
      have KR := hide (HD.out _ (hS.ref' HI0.out emp_ok))
      clear KD HD d0 d1 d2 d3 d4 d5 d6 d7 d8 d9 d10 d11 d12
      obtain ⟨d0, d1, d2, d3, d4, d5, d6, d7, d8, d9, d10, d11, d12⟩ := HC.out _ hS.bel
      clear hS
      go_wp2_with fail
      refine KR.out.mono ?_
      rintro e w5 ⟨rfl, hR⟩
      have hS := hR.back emp_ok
      have KL := hide (st_list hS)
      clear KR hR hS d0 d1 d2 d3 d4 d5 d6 d7 d8 d9 d10 d11 d12
      unfold gptr at KL
      go_wp2_with fail
      refine KL.out.mono ?_
      rintro e w6 ⟨A9, c9, zs, rfl, hm, hS⟩
      have HI := hide hS.inv
      have HM := hide (fun k2 (hk2 : k2 < zs.length) => zl_at hm hk2)
      have hlen : zs.length = (bk xs (k + 1)).gs.length := by have := congrArg List.length hm; simpa using this
      have S6 := hide hS
      have S7 := hide hS.drew
      obtain ⟨m, hmm⟩ : ∃ m, m = zs.length := ⟨_, rfl⟩
      have HMM := hide hmm
      have HGL := hide (show (bk xs (k + 1)).gs.length = m by rw [hmm, hlen])
      have hm100 : m ≤ 100 := by rw [hmm, hlen]; exact hS.inv.inv.gn
      rw [← hmm] at S6 S7
      rw [← hmm]
      clear hS KL hm hlen hmm HI0
      have KV1 := hide (fun w' (hb : Below W.heap.size W w') => valid_any (c := z.c) (d := z.d) (HLI.out.keep hb))
      have KV2 := hide (fun w' (hb : Below W.heap.size W w') => rvalid_any (c := z.c) (d := z.d) (HLI.out.keep hb))
      obtain ⟨s, -, hR⟩ := S7.out.rf2
      obtain ⟨sA, hsA⟩ : ∃ sA, sA = s.A := ⟨_, rfl⟩
      obtain ⟨sc, hsc⟩ : ∃ sc, sc = s.c := ⟨_, rfl⟩
      have HQ := hide (show ∀ w', Below w6.drew.heap.size w6.drew w' → w'.cell? ⟨q, 0, none⟩ = some (.slice sA m sc) ∧ StepC w' bA (oA + k * 13) z from fun w' hb =>
        ⟨by have := cell_keep hb hR.c0; rw [HGL.out, ← hsA, ← hsc] at this; exact this, HC.out _ (S7.out.bel.trans (hb.mono S7.out.bel.size))⟩)
      have t1 : (ev != ev) = false := by simp
      clear hR hsA hsc
      clear s
      unfold licV at KV1 KV2
      go_wp2_with fail
      refine wp_region_lew [19, 25] [0, 0, 0, 0, 0, 0, 0, 0, 0, 0, 0, 0, 0, 0, 0, 0, 0, 0, 0, 1, 1, 1, 1, 1, 1, 2, 2, 2] (fun w' => Below w6.drew.heap.size w6.drew w') (fun w' => Below w6.drew.heap.size w6.drew w') (fun _ => True) (fun _ => True) (fun _ h => h) (fun _ _ => trivial) (fun _ h => h) (by kernel_rfl) (by kernel_rfl) (by kernel_rfl) (by kernel_rfl) (by exact Below.refl _ _) ?_
      generalize w6.drew = wd at *
      (repeat (first | (refine lew_skip (by rfl) (by rfl) ?_; try simp only [Act.put, List.setIfInBounds_toArray, List.set_cons_zero, List.set_cons_succ]) | (refine lew_read0 (v := ?_) (by rfl) (by rfl) ?_ ?_; rotate_left; (focus (intro w' hS'; (try obtain ⟨c0, d0, d1, d2, d3, d4, d5, d6, d7, d8, d9, d10, d11, d12⟩ := HQ.out w' hS'); go_simp; (try with_reducible rfl); done)); try simp only [Act.put, List.setIfInBounds_toArray, List.set_cons_zero, List.set_cons_succ]) | (refine lew_read1 (v := ?_) (by rfl) (by rfl) ?_ ?_; rotate_left; (focus (intro w' hS'; (try obtain ⟨c0, d0, d1, d2, d3, d4, d5, d6, d7, d8, d9, d10, d11, d12⟩ := HQ.out w' hS'); go_simp; (try with_reducible rfl); done)); try simp only [Act.put, List.setIfInBounds_toArray, List.set_cons_zero, List.set_cons_succ]) | (refine lew_read2 (v := ?_) (by rfl) (by rfl) ?_ ?_; rotate_left; (focus (intro w' hS'; (try obtain ⟨c0, d0, d1, d2, d3, d4, d5, d6, d7, d8, d9, d10, d11, d12⟩ := HQ.out w' hS'); go_simp; (try with_reducible rfl); done)); try simp only [Act.put, List.setIfInBounds_toArray, List.set_cons_zero, List.set_cons_succ])))
      have t2 : (valid z.x.l != valid z.x.l) = false := by simp
      have HT2 := hide t2
      clear t2
      refine lew_chain1 rfl (by rfl) (fun K hK => ?_)
      go_wp2_with fail
      refine (KV1.out _ S7.out.bel).mono ?_
      rintro e w7 ⟨rfl, hb7⟩
      have HB7 := hide hb7
      refine hK.out _ _ hb7 ?_
      clear hK hb7
      (repeat (first | (refine lew_skip (by rfl) (by rfl) ?_; try simp only [Act.put, List.setIfInBounds_toArray, List.set_cons_zero, List.set_cons_succ]) | (refine lew_read0 (v := ?_) (by rfl) (by rfl) ?_ ?_; rotate_left; (focus (intro w' hS'; (try obtain ⟨c0, d0, d1, d2, d3, d4, d5, d6, d7, d8, d9, d10, d11, d12⟩ := HQ.out w' hS'); go_simp; (try with_reducible rfl); done)); try simp only [Act.put, List.setIfInBounds_toArray, List.set_cons_zero, List.set_cons_succ]) | (refine lew_read1 (v := ?_) (by rfl) (by rfl) ?_ ?_; rotate_left; (focus (intro w' hS'; (try obtain ⟨c0, d0, d1, d2, d3, d4, d5, d6, d7, d8, d9, d10, d11, d12⟩ := HQ.out w' hS'); go_simp; (try with_reducible rfl); done)); try simp only [Act.put, List.setIfInBounds_toArray, List.set_cons_zero, List.set_cons_succ]) | (refine lew_read2 (v := ?_) (by rfl) (by rfl) ?_ ?_; rotate_left; (focus (intro w' hS'; (try obtain ⟨c0, d0, d1, d2, d3, d4, d5, d6, d7, d8, d9, d10, d11, d12⟩ := HQ.out w' hS'); go_simp; (try with_reducible rfl); done)); try simp only [Act.put, List.setIfInBounds_toArray, List.set_cons_zero, List.set_cons_succ])))
      refine lew_chain2 rfl (by rfl) (fun K hK => ?_)
      go_wp2_with fail
      refine (KV2.out _ (S7.out.below HB7.out).bel).mono ?_
      rintro e w8 ⟨rfl, hb8⟩
      have S8 := hide ((S7.out.below HB7.out).below hb8)
      refine hK.out _ _ trivial ?_
      clear hK hb8 HB7 S7 S6 KV1 KV2 HQ
      generalize valid z.x.l = vb at *
      have t2 := HT2.out
      (repeat (first | (refine lew_skip (by rfl) (by rfl) ?_; try simp only [Act.put, List.setIfInBounds_toArray, List.set_cons_zero, List.set_cons_succ]) | (refine lew_read0 (v := ?_) (by rfl) (by rfl) ?_ ?_; rotate_left; (focus (intro w' hS'; (try obtain ⟨c0, d0, d1, d2, d3, d4, d5, d6, d7, d8, d9, d10, d11, d12⟩ := HQ.out w' hS'); go_simp; (try with_reducible rfl); done)); try simp only [Act.put, List.setIfInBounds_toArray, List.set_cons_zero, List.set_cons_succ]) | (refine lew_read1 (v := ?_) (by rfl) (by rfl) ?_ ?_; rotate_left; (focus (intro w' hS'; (try obtain ⟨c0, d0, d1, d2, d3, d4, d5, d6, d7, d8, d9, d10, d11, d12⟩ := HQ.out w' hS'); go_simp; (try with_reducible rfl); done)); try simp only [Act.put, List.setIfInBounds_toArray, List.set_cons_zero, List.set_cons_succ]) | (refine lew_read2 (v := ?_) (by rfl) (by rfl) ?_ ?_; rotate_left; (focus (intro w' hS'; (try obtain ⟨c0, d0, d1, d2, d3, d4, d5, d6, d7, d8, d9, d10, d11, d12⟩ := HQ.out w' hS'); go_simp; (try with_reducible rfl); done)); try simp only [Act.put, List.setIfInBounds_toArray, List.set_cons_zero, List.set_cons_succ])))
      refine lew_nil ?_
      clear HT2 HLI
      go_wp2
      go_loopw [14, 15, 16, 17, 18] (fun i _ _ _ _ wr => ∃ k2 : Nat, k2 ≤ m ∧ i = .int .i64 k2 ∧ BSt W (star (ARow lcl low 56 7 (.slice A9 m c9) zs) (star (RfO W (bk xs (k + 1)) q) emp)) p (bk xs (k + 1)) wr) (fun i _ _ _ _ _ => m - (intOf i).toNat)
      case atStart => exact ⟨0, Nat.zero_le _, rfl, S8.out⟩
      case round =>
        obtain ⟨k2, hk2, rfl, hS⟩ := hrel
        clear S8
        by_cases hlt2 : k2 < m
        · have hkz : k2 < zs.length := by rw [← HMM.out]; exact hlt2
          have hkg : k2 < (bk xs (k + 1)).gs.length := by rw [HGL.out]; exact hlt2
          obtain ⟨g9, hA9, hcell, hms, hps⟩ := hS.listAll HMM.out hkz
          have hzl := HM.out k2 hkz
          have HVL := hide (show valid zs[k2].l = true by rw [hzl]; exact (HI.out.inv.g _ (gat_mem hkg)).1)
          have HZL := hide hzl
          have HA9 := hide hA9
          obtain ⟨FB, hB⟩ := hS.run.fst
          have KL := hide (bookleft_any hB hS.inv.inv zs[k2].l.id a)
          have HCE := hide hcell
          have HMS := hide hms
          have HPS := hide hps
          have HKG := hide hkg
          have HSW := hide hS
          clear hcell hms hps hzl hA9 hS hB hkg
          generalize zs[k2] = zz at *
          clear hkz
          have c0 := HCE.out 0 _ (by omega) rfl
          rw [Nat.add_zero] at c0
          have HCW := hide (fun w' (hb : Below wr.heap.size wr w') j v hj hv => cell_keep hb (HCE.out j v hj hv))
          obtain ⟨x, y, ee, hr⟩ : ∃ x y z, leftR (bk xs (k + 1)) zz.l.id a = (x, y, z) := ⟨_, _, _, rfl⟩
          rw [hr] at KL
          have HR := hide hr
          clear hr HCE
          unfold leftV gptr at KL
          rw [HA9.out]
          go_wp2_with fail
          refine KL.out.mono ?_
          rintro e w9 ⟨rfl, hb⟩
          have S10 := hide ((HSW.out.below hb).box #[.int .i64 x, .int .i64 y] 66)
          have HB9 := hide (hb.trans ((Below.refl w9.heap.size w9).alloc (Nat.le_refl _) (.cells #[.int .i64 x, .int .i64 y] 66) |>.mono hb.size))
          clear hb KL c0
          obtain ⟨FR, hFR⟩ := (S10.out.run.perm (by ac_rfl : _ = star (RfO W (bk xs (k + 1)) q) (star (BkO (bk xs (k + 1)) p) (star (CellO w9.heap.size #[.int .i64 x, .int .i64 y] 66) (star (ARow lcl low 56 7 (.slice A9 m c9) zs) emp))))).fst
          have KR := hide (rbookleft_any hFR HI.out zz.l.id a)
          rw [HR.out] at KR
          have c0 := HCW.out _ HB9.out 0 _ (by omega) rfl
          rw [Nat.add_zero] at c0
          unfold leftV gptr at KR
          clear hFR
          have hg9 : w9.heap.size < (w9.alloc (.cells #[.int .i64 x, .int .i64 y] 66)).heap.size := by simp
          go_wp2_with fail
          refine KR.out.mono ?_
          rintro e w11 ⟨rfl, hb⟩
          have S12 := hide (((S10.out.below hb).box #[.int .i64 x, .int .i64 y] 66).drew)
          have HB12 := hide (below_drew ((HB9.out.trans (hb.mono HB9.out.size)).trans ((Below.refl w11.heap.size w11).alloc (Nat.le_refl _) (.cells #[.int .i64 x, .int .i64 y] 66) |>.mono (Nat.le_trans HB9.out.size hb.size))))
          clear hb KR c0 S10 hg9
          obtain ⟨FR2, s, hz, hRS⟩ := (S12.out.run.perm (by ac_rfl : _ = star (RfO W (bk xs (k + 1)) q) (star (BkO (bk xs (k + 1)) p) (star (CellO w11.heap.size #[.int .i64 x, .int .i64 y] 66) (star (CellO w9.heap.size #[.int .i64 x, .int .i64 y] 66) (star (ARow lcl low 56 7 (.slice A9 m c9) zs) emp)))))).fst
          obtain ⟨z2, hz2⟩ : ∃ z2, z2 = s.zs[k2]'(by rw [rfz_len hz]; exact HKG.out) := ⟨_, rfl⟩
          have hz2l : z2.l = zz.l := by rw [hz2, rfz_at hz HKG.out, HZL.out]
          have hz2in : LicIn W z2.l z2.A z2.B := hz.2 z2 (by rw [hz2]; exact List.getElem_mem _)
          obtain ⟨gA, hgA, -⟩ := hRS.read.lic k2 (by rw [rfz_len hz]; exact HKG.out) (rfz_len hz)
          have hrow := hRS.read.row hz HKG.out hz2.symm hgA
          rcases z2 with ⟨l2, A2, c2, B2, d2⟩
          have hl2 : l2 = zz.l := hz2l
          subst hl2
          have hcb := S12.out.box2
          have hcb2 := (S12.out.dropX (star_ok cell_ok (star_ok (arow_ok low_ok) (star_ok rfO_ok emp_ok)))).box2
          obtain ⟨sc, hsc⟩ : ∃ sc, sc = s.c := ⟨_, rfl⟩
          have HQ := hide (show ∀ w', Below (w11.alloc (.cells #[.int .i64 x, .int .i64 y] 66)).drew.heap.size (w11.alloc (.cells #[.int .i64 x, .int .i64 y] 66)).drew w' → w'.cell? ⟨q, 0, none⟩ = some (.slice (some ⟨gA, 0, none⟩) m sc) ∧
              w'.cell? ⟨g9, k2 * 7, none⟩ = some (.string zz.l.id) ∧ w'.cell? ⟨g9, k2 * 7 + 1, none⟩ = some (.slice zz.A zz.l.ms.length zz.c) ∧ w'.cell? ⟨g9, k2 * 7 + 2, none⟩ = some (.slice zz.B zz.l.ps.length zz.d) ∧ w'.cell? ⟨g9, k2 * 7 + 3, none⟩ = some (.int .i64 zz.l.q) ∧ w'.cell? ⟨g9, k2 * 7 + 4, none⟩ = some (.int .i64 zz.l.u) ∧ w'.cell? ⟨g9, k2 * 7 + 5, none⟩ = some (.int .i64 zz.l.f) ∧ w'.cell? ⟨g9, k2 * 7 + 6, none⟩ = some (.int .i64 zz.l.t) ∧
              w'.cell? ⟨gA, k2 * 7, none⟩ = some (.string zz.l.id) ∧ w'.cell? ⟨gA, k2 * 7 + 1, none⟩ = some (.slice A2 zz.l.ms.length c2) ∧ w'.cell? ⟨gA, k2 * 7 + 2, none⟩ = some (.slice B2 zz.l.ps.length d2) ∧ w'.cell? ⟨gA, k2 * 7 + 3, none⟩ = some (.int .i64 zz.l.q) ∧ w'.cell? ⟨gA, k2 * 7 + 4, none⟩ = some (.int .i64 zz.l.u) ∧ w'.cell? ⟨gA, k2 * 7 + 5, none⟩ = some (.int .i64 zz.l.f) ∧ w'.cell? ⟨gA, k2 * 7 + 6, none⟩ = some (.int .i64 zz.l.t) ∧
              w'.cell? ⟨w9.heap.size, 0, none⟩ = some (.int .i64 x) ∧ w'.cell? ⟨w9.heap.size, 1, none⟩ = some (.int .i64 y) ∧ w'.cell? ⟨w11.heap.size, 0, none⟩ = some (.int .i64 x) ∧ w'.cell? ⟨w11.heap.size, 1, none⟩ = some (.int .i64 y) from fun w' hb => by
            have hb2 : Below wr.heap.size wr w' := HB12.out.trans (hb.mono HB12.out.size)
            obtain ⟨r0, r1, r2, r3, r4, r5, r6, r7, -⟩ := hrow
            rw [HGL.out, ← hsc] at r0
            exact ⟨cell_keep hb r0, HCW.out w' hb2 0 _ (by omega) rfl, HCW.out w' hb2 1 _ (by omega) rfl, HCW.out w' hb2 2 _ (by omega) rfl, HCW.out w' hb2 3 _ (by omega) rfl, HCW.out w' hb2 4 _ (by omega) rfl, HCW.out w' hb2 5 _ (by omega) rfl, HCW.out w' hb2 6 _ (by omega) rfl,
              cell_keep hb r1, cell_keep hb r2, cell_keep hb r3, cell_keep hb r4, cell_keep hb r5, cell_keep hb r6, cell_keep hb r7, cell_keep hb hcb2.1, cell_keep hb hcb2.2, cell_keep hb hcb.1, cell_keep hb hcb.2⟩)
          have KS := hide (same_any (licIn_valid HVL.out (((Run.begin wr).below emp_ok HB12.out).src0 HMS.out) (((Run.begin wr).below emp_ok HB12.out).src0 HPS.out)) (hz2in.keep S12.out.bel) zz.c zz.d c2 d2)
          unfold licV at KS
          clear hz hRS hz2 hz2l hz2in hgA hrow hcb hcb2 hsc
          clear s
          go_wp2_with fail
          refine wp_region_lew [11] [0, 0, 0, 0, 0, 0, 0, 0, 0, 0, 0, 1, 1, 1, 1, 1, 1, 1, 1, 1, 1, 1, 1] (fun w' => Below (w11.alloc (.cells #[.int .i64 x, .int .i64 y] 66)).drew.heap.size (w11.alloc (.cells #[.int .i64 x, .int .i64 y] 66)).drew w') (fun w' => Below (w11.alloc (.cells #[.int .i64 x, .int .i64 y] 66)).drew.heap.size (w11.alloc (.cells #[.int .i64 x, .int .i64 y] 66)).drew w') (fun _ => True) (fun _ => True) (fun _ h => h) (fun _ _ => trivial) (fun _ h => h) (by kernel_rfl) (by kernel_rfl) (by kernel_rfl) (by kernel_rfl) (by exact Below.refl _ _) ?_
          generalize (w11.alloc (.cells #[.int .i64 x, .int .i64 y] 66)).drew = wd at *
          (repeat (first | (refine lew_skip (by rfl) (by rfl) ?_; try simp only [Act.put, List.setIfInBounds_toArray, List.set_cons_zero, List.set_cons_succ]) | (refine lew_read0 (v := ?_) (by rfl) (by rfl) ?_ ?_; rotate_left; (focus (intro w' hS'; (try obtain ⟨c0, d0, d1, d2, d3, d4, d5, d6, e0, e1, e2, e3, e4, e5, e6, f0, f1, f2, f3⟩ := HQ.out w' hS'); go_simp; (try with_reducible rfl); done)); try simp only [Act.put, List.setIfInBounds_toArray, List.set_cons_zero, List.set_cons_succ]) | (refine lew_read1 (v := ?_) (by rfl) (by rfl) ?_ ?_; rotate_left; (focus (intro w' hS'; (try obtain ⟨c0, d0, d1, d2, d3, d4, d5, d6, e0, e1, e2, e3, e4, e5, e6, f0, f1, f2, f3⟩ := HQ.out w' hS'); go_simp; (try with_reducible rfl); done)); try simp only [Act.put, List.setIfInBounds_toArray, List.set_cons_zero, List.set_cons_succ])))
          refine lew_chain1 rfl (by rfl) (fun K hK => ?_)
          go_wp2_with fail
          refine KS.out.mono ?_
          rintro e w13 ⟨rfl, hb⟩
          refine hK.out _ _ hb ?_
          have S13 := hide (((S12.out.below hb).dropX (star_ok cell_ok (star_ok (arow_ok low_ok) (star_ok rfO_ok emp_ok)))).dropX (star_ok (arow_ok low_ok) (star_ok rfO_ok emp_ok)))
          clear hK hb S12 HB12 KS
          (repeat (first | (refine lew_skip (by rfl) (by rfl) ?_; try simp only [Act.put, List.setIfInBounds_toArray, List.set_cons_zero, List.set_cons_succ]) | (refine lew_read0 (v := ?_) (by rfl) (by rfl) ?_ ?_; rotate_left; (focus (intro w' hS'; (try obtain ⟨c0, d0, d1, d2, d3, d4, d5, d6, e0, e1, e2, e3, e4, e5, e6, f0, f1, f2, f3⟩ := HQ.out w' hS'); go_simp; (try with_reducible rfl); done)); try simp only [Act.put, List.setIfInBounds_toArray, List.set_cons_zero, List.set_cons_succ]) | (refine lew_read1 (v := ?_) (by rfl) (by rfl) ?_ ?_; rotate_left; (focus (intro w' hS'; (try obtain ⟨c0, d0, d1, d2, d3, d4, d5, d6, e0, e1, e2, e3, e4, e5, e6, f0, f1, f2, f3⟩ := HQ.out w' hS'); go_simp; (try with_reducible rfl); done)); try simp only [Act.put, List.setIfInBounds_toArray, List.set_cons_zero, List.set_cons_succ])))
          refine lew_nil ?_
          clear HQ
          go_wp2
          go_roundw
          case rel => exact ⟨k2 + 1, by omega, by go_num, by rw [← HA9.out]; exact S13.out⟩
          case measure => simp [intOf]; omega
        · have hk2m : k2 = m := by omega
          rw [hk2m]
          have S14 := hide (hS.dropX (star_ok rfO_ok emp_ok))
          obtain ⟨FB, hB⟩ := hS.run.fst
          have KL := hide (bookleft_any hB hS.inv.inv id z.x.a)
          obtain ⟨d0, d1, d2, d3, d4, d5, d6, d7, d8, d9, d10, d11, d12⟩ := HC.out _ hS.bel
          clear hS hB hk2m hk2 hlt2 HM HMM d0 d1 d2 d3 d4 d5 d6 d7 d8 d9 d10 d11
          obtain ⟨x, y, ee, hr⟩ : ∃ x y z', leftR (bk xs (k + 1)) id z.x.a = (x, y, z') := ⟨_, _, _, rfl⟩
          rw [hr] at KL
          have HR := hide hr
          clear hr
          unfold leftV gptr at KL
          go_wp2_with fail
          refine KL.out.mono ?_
          rintro e w9 ⟨rfl, hb⟩
          have S15 := hide ((S14.out.below hb).box #[.int .i64 x, .int .i64 y] 66)
          clear hb KL d12 S14
          obtain ⟨FR, hFR⟩ := (S15.out.run.perm (by ac_rfl : _ = star (RfO W (bk xs (k + 1)) q) (star (BkO (bk xs (k + 1)) p) (star (CellO w9.heap.size #[.int .i64 x, .int .i64 y] 66) emp)))).fst
          have KR := hide (rbookleft_any hFR HI.out id z.x.a)
          rw [HR.out] at KR
          obtain ⟨d0, d1, d2, d3, d4, d5, d6, d7, d8, d9, d10, d11, d12⟩ := HC.out _ S15.out.bel
          clear d0 d1 d2 d3 d4 d5 d6 d7 d8 d9 d10 d11
          unfold leftV gptr at KR
          clear hFR
          go_wp2_with fail
          refine KR.out.mono ?_
          rintro e w11 ⟨rfl, hb⟩
          have S16 := hide ((S15.out.below hb).box #[.int .i64 x, .int .i64 y] 66)
          have hcb := S16.out.box2
          have hcb2 := (S16.out.dropX (star_ok cell_ok (star_ok rfO_ok emp_ok))).box2
          obtain ⟨f0, f1⟩ := hcb2
          have q0 := cell_keep hb S15.out.box2.1
          have q1 := cell_keep hb S15.out.box2.2
          have S17 := hide ((S16.out.dropX (star_ok cell_ok (star_ok rfO_ok emp_ok))).dropX (star_ok rfO_ok emp_ok))
          have hg11 : w9.heap.size < w11.heap.size := World.block_lt_of_cell? _ _ q0
          clear hb KR d12 S15 S16 hcb f0 f1
          go_wp2
          go_roundw
          case rel => exact ⟨k + 1, by omega, by go_num, S17.out⟩
          case measure => simp [intOf]; omega
    · have hb := hS.bel
      have HB := hide hb
      clear hS hb
      go_wp2
      go_ret
      exact bel_true HB.out
theorem mat35_any (hs : Steps W A n l) (id : ByteArray) (hid : id.size ≤ maxLen) (a : Int) : Calls Try.prog 11 #[.slice A n c, .string id, .int .i64 a] W (BelowRet W (.bool true)) := by
  by_cases h1 : fewB (stepsM l) = true
  · by_cases h2 : id.size ≤ 60
    · exact mat35_main hs id a h1 h2
    · exact mat35_long hs id hid a h1 (by omega)
  · exact mat35_away hs id hid a (by simpa using h1)
end
end Go.Proofs.Ytapabbpdfplpoaa
namespace Go.CH
open Go.ChangeShapes Go.WideShapes Go.Deep
section
variable {H : Type} {enc : TypeId × Value → H} {P : Program} {w : World} {base : Nat} {held : Bool}

theorem flatMap_get {α : Type} (R : α → List Value) (size : Nat) (hs : 0 < size) : ∀ (xs : List α), (∀ x ∈ xs, (R x).length = size) → ∀ j u, (xs.flatMap R)[j]? = some u → ∃ x, xs[j / size]? = some x ∧ (R x)[j % size]? = some u
  | [], _, j, u, h => by simp at h
  | x :: xs, hR, j, u, h => by
    have hx := hR x (by simp)
    rw [List.flatMap_cons] at h
    by_cases hj : j < size
    · rw [List.getElem?_append_left (by omega)] at h
      exact ⟨x, by rw [Nat.div_eq_of_lt hj]; rfl, by rw [Nat.mod_eq_of_lt hj]; exact h⟩
    · rw [List.getElem?_append_right (by omega), hx] at h
      obtain ⟨y, h1, h2⟩ := flatMap_get R size hs xs (fun z hz => hR z (by simp [hz])) (j - size) u h
      refine ⟨y, ?_, ?_⟩
      · rw [show j = (j - size) + size by omega, Nat.add_div_right _ hs]; simpa using h1
      · rw [show j = (j - size) + size by omega, Nat.add_mod_right]; exact h2

theorem flatMap_len {α : Type} (R : α → List Value) (size : Nat) : ∀ (xs : List α), (∀ x ∈ xs, (R x).length = size) → (xs.flatMap R).length = xs.length * size
  | [], _ => by simp
  | x :: xs, hR => by
    rw [List.flatMap_cons, List.length_append, hR x (by simp), flatMap_len R size xs (fun z hz => hR z (by simp [hz])), List.length_cons, Nat.succ_mul]; omega

/-- A slice that is an argument holds what its elements' readings say: 'R x' are the cells of the element x. -/
theorem open_src {t e : TypeId} {A : Option Addr} {n c : Nat} {d : DataW H} {ps : List MemPlace} {α : Type} [Inhabited α] (R : α → List Value) (Good : α → Prop) {size : Nat} (ht : P.underlying t = some (.slice e)) (hc : P.cellsOf e = size) (hs : 0 < size)
    (each : ∀ m cs y, DataW.trod enc P w base (fun _ => true) held m e cs = some y → ∃ x, cs = R x ∧ Good x) (one : ∀ x, Good x → ∀ u ∈ R x, u.oneCell' = true)
    (h : DataW.Trod enc P w base (fun _ => true) held t (.slice A n c) d ps) :
    ∃ xs : List α, xs.length = n ∧ Src w A n size (xs.flatMap R) ∧ (∀ x ∈ xs, Good x ∧ (R x).length = size) ∧ n ≤ c ∧ c ≤ maxLen := by
  obtain ⟨fuel, hf⟩ := h
  rcases open_slice ht hf with ⟨h0, _⟩ | ⟨a, len, cap, m, k, D, Pl, hv, _, hl, hm, hmm, _, hx⟩
  · simp [Value.cells] at h0
    obtain ⟨rfl, rfl, rfl⟩ := h0
    exact ⟨[], rfl, Src.none_, by simp, by omega, by omega⟩
  · simp [Value.cells] at hv
    obtain ⟨rfl, rfl, rfl⟩ := hv
    simp only [if_true] at hmm
    subst hmm
    obtain ⟨F, hF⟩ := choose_lt (n := m) (p := fun i (x : α) => Good x ∧ w.cells? base (a.add (i * P.cellsOf e)) (P.cellsOf e) = some (R x)) (fun i hi => by
      obtain ⟨cs', h1, h2⟩ := hx i hi
      obtain ⟨x, rfl, hg⟩ := each _ _ _ h2
      exact ⟨x, hg, h1⟩)
    have hlen : ∀ i, i < m → (R (F i)).length = size := fun i hi => by
      obtain ⟨_, h2, _⟩ := World.cells?_some (hF i hi).2
      rw [h2, hc]
    have hmem : ∀ x ∈ (List.range n).map F, Good x ∧ (R x).length = size := by
      intro x hx'
      simp only [List.mem_map, List.mem_range] at hx'
      obtain ⟨i, hi, rfl⟩ := hx'
      exact ⟨(hF i (by omega)).1, hlen i (by omega)⟩
    refine ⟨(List.range n).map F, by simp, ⟨?_, ?_, fun _ => ⟨a, rfl, ?_⟩⟩, hmem, hl, hm⟩
    · rw [flatMap_len R size _ (fun x hx' => (hmem x hx').2)]; simp
    · intro u hu
      rw [List.mem_flatMap] at hu
      obtain ⟨x, h1, h2⟩ := hu
      exact one x (hmem x h1).1 u h2
    · intro j u hu
      obtain ⟨x, h1, h2⟩ := flatMap_get R size hs _ (fun x hx' => (hmem x hx').2) j u hu
      rw [List.getElem?_map, Option.map_eq_some_iff] at h1
      obtain ⟨i, hi, rfl⟩ := h1
      have hi2 : j / size < n ∧ i = j / size := by
        obtain ⟨h1, h2⟩ := List.getElem?_eq_some_iff.1 hi
        simp at h1 h2
        exact ⟨h1, h2.symm⟩
      obtain ⟨hjn, rfl⟩ := hi2
      obtain ⟨_, _, h4⟩ := World.cells?_some (hF (j / size) (by omega)).2
      have h5 := h4 (j % size) (by rw [hc]; exact Nat.mod_lt _ hs)
      rw [add_add, hc, Nat.div_add_mod' j size] at h5
      rw [h5]; exact h2

theorem each_string {e : TypeId} (he : P.underlying e = some .string) : ∀ m cs y, DataW.trod enc P w base (fun _ => true) held m e cs = some y → ∃ x : ByteArray, cs = [.string x] ∧ x.size ≤ maxLen := by
  intro m cs y h
  obtain ⟨s, rfl, _, hw⟩ := DataW.trod_string he h
  exact ⟨s, rfl, hw⟩
theorem each_bool {e : TypeId} (he : P.underlying e = some .bool) : ∀ m cs y, DataW.trod enc P w base (fun _ => true) held m e cs = some y → ∃ x : Bool, cs = [.bool x] ∧ True := by
  intro m cs y h
  obtain ⟨s, h1, _⟩ := DataW.trod_bool he h
  exact ⟨s, h1, trivial⟩

/-- The cells of a struct whose fields take one cell each, field by field. -/
theorem open_fields {e : TypeId} {fs : Array Field} {m : Nat} {cs : List Value} {y : DataW H × List MemPlace} (he : P.underlying e = some (.struct fs)) (hone : oneCellFields P fs = true) (hC : P.cellsOf e = fs.size)
    (h : DataW.trod enc P w base (fun _ => true) held m e cs = some y) :
    cs.length = fs.size ∧ ∃ n, ∀ (j : Nat) (f : Field), fs[j]? = some f → ∃ (v : Value) (z : DataW H × List MemPlace), cs[j]? = some v ∧ DataW.trod enc P w base (fun _ => true) held n f.type [v] = some z := by
  obtain ⟨ys, n', _, _, hl, hyl, hf⟩ := DataW.trod_struct he h
  have hcl : cs.length = fs.size := by rw [← hC]; exact hl
  refine ⟨hcl, n', fun j f hj => ?_⟩
  obtain ⟨ho, hk⟩ := hone_of hone j f hj
  have hjl : j < fs.size := (Array.getElem?_eq_some_iff.1 hj).1
  have h1 := hf j f hj
  rw [ho, hk] at h1
  have hone' : (cs.drop j).take 1 = [cs[j]'(by omega)] := by
    rw [List.drop_eq_getElem_cons (by omega)]
    rfl
  rw [hone'] at h1
  have hys : ys[j]? = some (ys[j]'(by omega)) := List.getElem?_eq_getElem (by omega)
  exact ⟨_, _, List.getElem?_eq_getElem (by omega), h1.trans hys⟩
end
theorem of_wf {k : IntKind} {n : Int} (h : (Lit.int k n).wf = true) : k.min ≤ n ∧ n ≤ k.max := (Lit.wf_int_iff k n).1 h
theorem of_wf_u8 {n : Int} (h : (Lit.int .u8 n).wf = true) : 0 ≤ n ∧ n ≤ 255 := of_wf h
theorem of_wf_i64 {n : Int} (h : (Lit.int .i64 n).wf = true) : -9223372036854775808 ≤ n ∧ n ≤ 9223372036854775807 := of_wf h
end Go.CH
namespace Go.Proofs.Ytapabbpdfplpoaa
open Go.ChangeShapes Go.WideShapes Go.ChangeAt Go.RowKit Go.CH Go.CH.Lic Go.Deep
section
variable {H : Type} {enc : TypeId × Value → H} {w : World}
theorem open_list {m : Nat} {v : Value} {y : DataW H × List MemPlace} (h : DataW.trod enc Try.prog w 0 (fun _ => true) true m 54 [v] = some y) :
    ∃ (A : Option Addr) (c : Nat) (l : List ByteArray), v = .slice A l.length c ∧ Src w A l.length 1 (CH.strs l) ∧ (∀ s ∈ l, s.size ≤ maxLen) ∧ l.length ≤ maxLen ∧ (A = none → c = 0 ∧ l.length = 0) := by
  have hv : ∃ A n c, v = .slice A n c ∧ (A = none → c = 0 ∧ n = 0) := by
    rcases open_slice Try.underlying54 h with ⟨h0, _⟩ | ⟨a, len, cap, _, _, _, _, hv, _⟩
    · injection h0 with h0
      exact ⟨none, 0, 0, h0, fun _ => ⟨rfl, rfl⟩⟩
    · injection hv with hv
      exact ⟨some a, len, cap, hv, fun e => by cases e⟩
  obtain ⟨A, n, c, rfl, hn⟩ := hv
  obtain ⟨xs, h1, h2, h3, h4, h5⟩ := open_src (P := Try.prog) (t := 54) (e := 9) (A := A) (n := n) (c := c) (d := y.1) (ps := y.2) (size := 1) (fun x : ByteArray => [Value.string x]) (fun x => x.size ≤ maxLen) Try.underlying54 (by kernel_rfl) (by decide) (each_string Try.underlying9) (fun x _ u hu => by simp at hu; subst hu; rfl) ⟨m, by simpa [Value.cells] using h⟩
  subst h1
  have e : xs.flatMap (fun x : ByteArray => [Value.string x]) = CH.strs xs := by
    have : ∀ l : List ByteArray, l.flatMap (fun x : ByteArray => [Value.string x]) = l.map Value.string := fun l => by induction l with
      | nil => rfl
      | cons a l ih => simp [ih]
    exact this xs
  rw [e] at h2
  exact ⟨A, c, xs, rfl, h2, fun s hs => (h3 s hs).1, by omega, hn⟩
theorem len13 {cs : List Value} (h : cs.length = 13) : ∃ a0 a1 a2 a3 a4 a5 a6 a7 a8 a9 a10 a11 a12, cs = [a0, a1, a2, a3, a4, a5, a6, a7, a8, a9, a10, a11, a12] := by
  match cs, h with
  | [a0, a1, a2, a3, a4, a5, a6, a7, a8, a9, a10, a11, a12], _ => exact ⟨a0, a1, a2, a3, a4, a5, a6, a7, a8, a9, a10, a11, a12, rfl⟩
theorem each_step : ∀ m cs y, DataW.trod enc Try.prog w 0 (fun _ => true) true m 80 cs = some y → ∃ z : ZS, cs = scl z ∧ StepOk w z := by
  intro m cs y h
  obtain ⟨xs, n, _, _, hl, hxl, hf⟩ := DataW.trod_struct Try.underlying80 h
  have hl13 : cs.length = 13 := hl.trans (by kernel_rfl)
  obtain ⟨a0, a1, a2, a3, a4, a5, a6, a7, a8, a9, a10, a11, a12, rfl⟩ := len13 hl13
  have hxl7 : xs.length = 7 := hxl
  have get : ∀ i, i < 7 → ∃ z, xs[i]? = some z := fun i hi => ⟨xs[i]'(by omega), List.getElem?_eq_getElem (by omega)⟩
  obtain ⟨z0, e0⟩ := get 0 (by omega)
  obtain ⟨z1, e1⟩ := get 1 (by omega)
  obtain ⟨z2, e2⟩ := get 2 (by omega)
  obtain ⟨z3, e3⟩ := get 3 (by omega)
  obtain ⟨z4, e4⟩ := get 4 (by omega)
  obtain ⟨z5, e5⟩ := get 5 (by omega)
  obtain ⟨z6, e6⟩ := get 6 (by omega)
  have s3 : Try.prog.cellsOf 3 = 1 := by kernel_rfl
  have s9 : Try.prog.cellsOf 9 = 1 := by kernel_rfl
  have s56 : Try.prog.cellsOf 56 = 7 := by kernel_rfl
  have s54 : Try.prog.cellsOf 54 = 1 := by kernel_rfl
  have t0 : DataW.trod enc Try.prog w 0 (fun _ => true) true n 3 (([a0, a1, a2, a3, a4, a5, a6, a7, a8, a9, a10, a11, a12].drop 0).take (Try.prog.cellsOf 3)) = some z0 := (hf 0 _ rfl).trans e0
  simp only [s3, s9, s56, List.drop, List.take] at t0
  have t1 : DataW.trod enc Try.prog w 0 (fun _ => true) true n 56 (([a0, a1, a2, a3, a4, a5, a6, a7, a8, a9, a10, a11, a12].drop 1).take (Try.prog.cellsOf 56)) = some z1 := (hf 1 _ rfl).trans e1
  simp only [s3, s9, s56, List.drop, List.take] at t1
  have t2 : DataW.trod enc Try.prog w 0 (fun _ => true) true n 9 (([a0, a1, a2, a3, a4, a5, a6, a7, a8, a9, a10, a11, a12].drop 8).take (Try.prog.cellsOf 9)) = some z2 := (hf 2 _ rfl).trans e2
  simp only [s3, s9, s56, List.drop, List.take] at t2
  have t3 : DataW.trod enc Try.prog w 0 (fun _ => true) true n 9 (([a0, a1, a2, a3, a4, a5, a6, a7, a8, a9, a10, a11, a12].drop 9).take (Try.prog.cellsOf 9)) = some z3 := (hf 3 _ rfl).trans e3
  simp only [s3, s9, s56, List.drop, List.take] at t3
  have t4 : DataW.trod enc Try.prog w 0 (fun _ => true) true n 3 (([a0, a1, a2, a3, a4, a5, a6, a7, a8, a9, a10, a11, a12].drop 10).take (Try.prog.cellsOf 3)) = some z4 := (hf 4 _ rfl).trans e4
  simp only [s3, s9, s56, List.drop, List.take] at t4
  have t5 : DataW.trod enc Try.prog w 0 (fun _ => true) true n 3 (([a0, a1, a2, a3, a4, a5, a6, a7, a8, a9, a10, a11, a12].drop 11).take (Try.prog.cellsOf 3)) = some z5 := (hf 5 _ rfl).trans e5
  simp only [s3, s9, s56, List.drop, List.take] at t5
  have t6 : DataW.trod enc Try.prog w 0 (fun _ => true) true n 3 (([a0, a1, a2, a3, a4, a5, a6, a7, a8, a9, a10, a11, a12].drop 12).take (Try.prog.cellsOf 3)) = some z6 := (hf 6 _ rfl).trans e6
  simp only [s3, s9, s56, List.drop, List.take] at t6
  obtain ⟨x0, f0, -, g0⟩ := DataW.trod_int Try.underlying3 t0
  obtain ⟨x2, f2, -, g2⟩ := DataW.trod_string Try.underlying9 t2
  obtain ⟨x3, f3, -, g3⟩ := DataW.trod_string Try.underlying9 t3
  obtain ⟨x4, f4, -, g4⟩ := DataW.trod_int Try.underlying3 t4
  obtain ⟨x5, f5, -, g5⟩ := DataW.trod_int Try.underlying3 t5
  obtain ⟨x6, f6, -, g6⟩ := DataW.trod_int Try.underlying3 t6
  injection f0 with f0; injection f2 with f2; injection f3 with f3; injection f4 with f4; injection f5 with f5; injection f6 with f6
  subst f0 f2 f3 f4 f5 f6
  obtain ⟨ys, n2, _, _, _, hyl, hg⟩ := DataW.trod_struct Try.underlying56 t1
  have hyl7 : ys.length = 7 := hyl
  have get2 : ∀ i, i < 7 → ∃ z, ys[i]? = some z := fun i hi => ⟨ys[i]'(by omega), List.getElem?_eq_getElem (by omega)⟩
  obtain ⟨r0, u0⟩ := get2 0 (by omega)
  obtain ⟨r1, u1⟩ := get2 1 (by omega)
  obtain ⟨r2, u2⟩ := get2 2 (by omega)
  obtain ⟨r3, u3⟩ := get2 3 (by omega)
  obtain ⟨r4, u4⟩ := get2 4 (by omega)
  obtain ⟨r5, u5⟩ := get2 5 (by omega)
  obtain ⟨r6, u6⟩ := get2 6 (by omega)
  have v0 : DataW.trod enc Try.prog w 0 (fun _ => true) true n2 9 (([a1, a2, a3, a4, a5, a6, a7].drop 0).take (Try.prog.cellsOf 9)) = some r0 := (hg 0 _ rfl).trans u0
  simp only [s3, s9, s54, List.drop, List.take] at v0
  have v1 : DataW.trod enc Try.prog w 0 (fun _ => true) true n2 54 (([a1, a2, a3, a4, a5, a6, a7].drop 1).take (Try.prog.cellsOf 54)) = some r1 := (hg 1 _ rfl).trans u1
  simp only [s3, s9, s54, List.drop, List.take] at v1
  have v2 : DataW.trod enc Try.prog w 0 (fun _ => true) true n2 54 (([a1, a2, a3, a4, a5, a6, a7].drop 2).take (Try.prog.cellsOf 54)) = some r2 := (hg 2 _ rfl).trans u2
  simp only [s3, s9, s54, List.drop, List.take] at v2
  have v3 : DataW.trod enc Try.prog w 0 (fun _ => true) true n2 3 (([a1, a2, a3, a4, a5, a6, a7].drop 3).take (Try.prog.cellsOf 3)) = some r3 := (hg 3 _ rfl).trans u3
  simp only [s3, s9, s54, List.drop, List.take] at v3
  have v4 : DataW.trod enc Try.prog w 0 (fun _ => true) true n2 3 (([a1, a2, a3, a4, a5, a6, a7].drop 4).take (Try.prog.cellsOf 3)) = some r4 := (hg 4 _ rfl).trans u4
  simp only [s3, s9, s54, List.drop, List.take] at v4
  have v5 : DataW.trod enc Try.prog w 0 (fun _ => true) true n2 3 (([a1, a2, a3, a4, a5, a6, a7].drop 5).take (Try.prog.cellsOf 3)) = some r5 := (hg 5 _ rfl).trans u5
  simp only [s3, s9, s54, List.drop, List.take] at v5
  have v6 : DataW.trod enc Try.prog w 0 (fun _ => true) true n2 3 (([a1, a2, a3, a4, a5, a6, a7].drop 6).take (Try.prog.cellsOf 3)) = some r6 := (hg 6 _ rfl).trans u6
  simp only [s3, s9, s54, List.drop, List.take] at v6
  obtain ⟨y0, j0, -, k0⟩ := DataW.trod_string Try.underlying9 v0
  obtain ⟨A, c, ms, j1, k1, k1b, k1c, k1d⟩ := open_list v1
  obtain ⟨B, d, ps, j2, k2, k2b, k2c, k2d⟩ := open_list v2
  obtain ⟨y3, j3, -, k3⟩ := DataW.trod_int Try.underlying3 v3
  obtain ⟨y4, j4, -, k4⟩ := DataW.trod_int Try.underlying3 v4
  obtain ⟨y5, j5, -, k5⟩ := DataW.trod_int Try.underlying3 v5
  obtain ⟨y6, j6, -, k6⟩ := DataW.trod_int Try.underlying3 v6
  injection j0 with j0; injection j3 with j3; injection j4 with j4; injection j5 with j5; injection j6 with j6
  subst j0 j1 j2 j3 j4 j5 j6
  exact ⟨⟨⟨x0, ⟨y0, ms, ps, y3, y4, y5, y6⟩, x2, x3, x4, x5, x6⟩, A, c, B, d⟩, rfl, ⟨k0, k1, k2, k1b, k2b, k1c, k2c, k1d, k2d⟩, g2, g3⟩
set_option maxRecDepth 10000 in
theorem open70 {A : Option Addr} {n c : Nat} {d : DataW H} {ps : List MemPlace} (h : DataW.Trod enc Try.prog w 0 (fun _ => true) true 70 (.slice A n c) d ps) : ∃ l : List ZS, Steps w A n l := by
  obtain ⟨xs, h1, h2, h3, h4, h5⟩ := open_src (size := 13) scl (fun z => StepOk w z) Try.underlying70 (by kernel_rfl) (by decide) each_step (fun x _ u hu => by
    simp only [scl, stepL, List.mem_cons, List.not_mem_nil, or_false] at hu
    rcases hu with rfl | rfl | rfl | rfl | rfl | rfl | rfl | rfl | rfl | rfl | rfl | rfl | rfl <;> rfl) h
  exact ⟨xs, h1, h2, fun x hx => (h3 x hx).1, by omega⟩
theorem reach70 {A : Option Addr} {n c : Nat} {d : DataW H} {ps : List MemPlace} {ts : List TypeId} {ds : List (DataW H)} (h : DataW.Trod enc Try.prog w 0 (fun _ => true) true 70 (.slice A n c) d ps)
    (hsz : (DataW.weightsEach Try.prog ts ds).all (· ≤ reachBytes) = true) {j : Nat} (ht : ts[j]? = some 70) (hd : ds[j]? = some d) : n * 160 ≤ 140737488351232 := by
  obtain ⟨m, hm⟩ := h
  rcases open_slice Try.underlying70 hm with ⟨h0, _⟩ | ⟨a, len, cap, m', k, D, Pl, hv, _, hl, _, hmm, hx, _⟩
  · simp [Value.cells] at h0; omega
  · simp [Value.cells] at hv
    obtain ⟨-, rfl, rfl⟩ := hv
    injection hx with hx1 hx2
    subst hx1
    have := sized_slice hsz ht hd Try.underlying70
    rw [show Try.prog.bytesOf 80 = 160 by kernel_rfl, show reachBytes = 140737488351232 by rfl] at this
    simp only [List.length_map, List.length_range] at this
    simp only [if_true] at hmm
    have h3 : n * 160 ≤ (n + (m' - n)) * 160 := Nat.mul_le_mul_right _ (by omega)
    omega
set_option maxRecDepth 100000 in
theorem open80 {r : Reach} {b0 : Nat} {v : Value} {d : DataW H} {ps : List MemPlace} (hok : Value.okWide Try.prog w r b0 80 v) (h : DataW.Trod enc Try.prog w 0 (fun _ => true) true 80 v d ps) : ∃ z : ZS, v = stepV z.x z.A z.c z.B z.d ∧ StepOk w z := by
  obtain ⟨cs, rfl, hsz⟩ := okWide_struct Try.underlying80 hok
  obtain ⟨m, hm⟩ := h
  obtain ⟨z, hz, ho⟩ := each_step m _ _ hm
  refine ⟨z, ?_, ho⟩
  have : cs = (scl z).toArray := by
    apply Array.toList_inj.1
    simpa [Value.cells] using hz
  rw [this]; rfl
end
end Go.Proofs.Ytapabbpdfplpoaa
namespace Go.Proofs.Ytapabbpdfplpoaa
open Go.RowKit
def signs : List Nat := [104, 97, 114, 110, 101, 115, 115, 32, 53, 101, 49, 49, 101, 100, 97, 97, 51, 50, 99, 56, 51, 49, 53, 52, 56, 56, 52, 100, 102, 100, 56, 52, 57, 53, 51, 51, 50, 48, 49, 102, 50, 102, 101, 98, 52, 51, 99, 51, 56, 99, 100, 51, 52, 55, 49, 100, 54, 100, 99, 98, 57, 57, 97, 98, 54, 102, 52, 50, 49, 48, 54, 97, 32, 99, 117, 116, 32, 97, 116, 32, 99, 117, 115, 116, 111, 109, 104, 111, 117, 115, 101, 47, 99, 117, 115, 116, 111, 109, 104, 111, 117, 115, 101, 108, 97, 119, 51, 54, 46, 69, 115, 99, 114, 111, 119, 77, 97, 116, 99, 104, 101, 115, 82, 101, 102, 101, 114, 101, 110, 99, 101, 32, 99, 117, 115, 116, 111, 109, 104, 111, 117, 115, 101, 47, 99, 117, 115, 116, 111, 109, 104, 111, 117, 115, 101, 108, 97, 119, 51, 54, 46, 69, 115, 99, 114, 111, 119, 67, 111, 110, 115, 101, 114, 118, 101, 115, 32, 99, 117, 115, 116, 111, 109, 104, 111, 117, 115, 101, 47, 99, 117, 115, 116, 111, 109, 104, 111, 117, 115, 101, 108, 97, 119, 51, 54, 46, 69, 115, 99, 114, 111, 119, 79, 110, 99, 101, 32, 99, 117, 115, 116, 111, 109, 104, 111, 117, 115, 101, 47, 99, 117, 115, 116, 111, 109, 104, 111, 117, 115, 101, 108, 97, 119, 51, 54, 46, 69, 115, 99, 114, 111, 119, 65, 114, 114, 105, 118, 101, 115, 32, 99, 117, 115, 116, 111, 109, 104, 111, 117, 115, 101, 47, 99, 117, 115, 116, 111, 109, 104, 111, 117, 115, 101, 108, 97, 119, 51, 54, 46, 69, 115, 99, 114, 111, 119, 82, 101, 118, 111, 107, 101, 115, 32, 99, 117, 115, 116, 111, 109, 104, 111, 117, 115, 101, 47, 99, 117, 115, 116, 111, 109, 104, 111, 117, 115, 101, 108, 97, 119, 51, 54, 46, 69, 115, 99, 114, 111, 119, 67, 111, 110, 102, 105, 114, 109, 115, 32, 99, 117, 115, 116, 111, 109, 104, 111, 117, 115, 101, 47, 99, 117, 115, 116, 111, 109, 104, 111, 117, 115, 101, 108, 97, 119, 51, 54, 46, 69, 115, 99, 114, 111, 119, 79, 116, 104, 101, 114, 115, 32, 99, 117, 115, 116, 111, 109, 104, 111, 117, 115, 101, 47, 99, 117, 115, 116, 111, 109, 104, 111, 117, 115, 101, 116, 111, 112, 46, 84, 111, 112, 82, 101, 112, 108, 105, 99, 97, 115, 32, 99, 117, 115, 116, 111, 109, 104, 111, 117, 115, 101, 47, 99, 117, 115, 116, 111, 109, 104, 111, 117, 115, 101, 108, 97, 119, 51, 53, 46, 76, 105, 99, 101, 110, 99, 101, 77, 97, 116, 99, 104, 101, 115, 82, 101, 102, 101, 114, 101, 110, 99, 101, 32, 99, 117, 115, 116, 111, 109, 104, 111, 117, 115, 101, 47, 99, 117, 115, 116, 111, 109, 104, 111, 117, 115, 101, 108, 97, 119, 51, 53, 46, 76, 105, 99, 101, 110, 99, 101, 78, 105, 108, 32, 99, 117, 115, 116, 111, 109, 104, 111, 117, 115, 101, 47, 99, 117, 115, 116, 111, 109, 104, 111, 117, 115, 101, 108, 97, 119, 51, 53, 46, 76, 105, 99, 101, 110, 99, 101, 78, 101, 118, 101, 114, 79, 118, 101, 114, 115, 112, 101, 110, 116, 32, 99, 117, 115, 116, 111, 109, 104, 111, 117, 115, 101, 47, 99, 117, 115, 116, 111, 109, 104, 111, 117, 115, 101, 108, 97, 119, 51, 53, 46, 76, 105, 99, 101, 110, 99, 101, 82, 101, 118, 111, 107, 101, 100, 32, 99, 117, 115, 116, 111, 109, 104, 111, 117, 115, 101, 47, 99, 117, 115, 116, 111, 109, 104, 111, 117, 115, 101, 108, 97, 119, 51, 53, 46, 76, 105, 99, 101, 110, 99, 101, 83, 112, 108, 105, 116, 115, 32, 99, 117, 115, 116, 111, 109, 104, 111, 117, 115, 101, 47, 99, 117, 115, 116, 111, 109, 104, 111, 117, 115, 101, 108, 97, 119, 51, 53, 46, 76, 105, 99, 101, 110, 99, 101, 79, 116, 104, 101, 114, 115]
theorem init_is : Try.prog.initOrder = String.ofList (signs.map Char.ofNat) := by kernel_rfl
theorem init_list : Try.prog.initOrder.toList = signs.map Char.ofNat := by rw [init_is, String.toList_ofList]
set_option maxRecDepth 100000 in
theorem words_head : (behindMainWord (wordsSigns (signs.map Char.ofNat))).head? = some [Char.ofNat 99, Char.ofNat 117, Char.ofNat 116] := by kernel_rfl
theorem head_cons {α : Type} {l : List α} {a : α} (h : l.head? = some a) : ∃ r, l = a :: r := by
  cases l with
  | nil => cases h
  | cons c r => exact ⟨r, by injection h with h; rw [h]⟩
theorem words_of (L : List Char) (h : (behindMainWord (wordsSigns L)).head? = some [Char.ofNat 99, Char.ofNat 117, Char.ofNat 116]) : ∃ rest, behindMainWord (wordsSigns L) = [Char.ofNat 99, Char.ofNat 117, Char.ofNat 116] :: rest := head_cons h
theorem words_is : ∃ rest, behindMainWord (wordsSigns Try.prog.initOrder.toList) = [Char.ofNat 99, Char.ofNat 117, Char.ofNat 116] :: rest := words_of _ (by rw [init_list]; exact words_head)
theorem strip_none (s : String) (r : List (List Char)) : ∀ (l : List String), (∀ o ∈ l, o ≠ s) → stripLifts l (s.toList :: r) = ([], s.toList :: r)
  | [], _ => rfl
  | o :: l, h => by
    have h1 : (s.toList == o.toList) = false := by
      have : s.toList ≠ o.toList := fun e => h o (by simp) (String.toList_inj.1 e).symm
      simpa using this
    unfold stripLifts
    rw [h1]
    simp only [Bool.false_eq_true, if_false]
    exact strip_none s r l (fun x hx => h x (by simp [hx]))
theorem lift_cut : ∀ o ∈ liftWords, o ≠ "cut" := of_decide_eq_true (by kernel_rfl)
theorem cut_signs : [Char.ofNat 99, Char.ofNat 117, Char.ofNat 116] = "cut".toList := by kernel_rfl
theorem words_cut : ∃ rest, behindMainWord (wordsSigns Try.prog.initOrder.toList) = "cut".toList :: rest := by rw [← cut_signs]; exact words_is
section
variable {P : Program} {r : List (List Char)}
theorem head_lifts_of (h : behindMainWord (wordsSigns P.initOrder.toList) = "cut".toList :: r) : P.headLifts = [] := by
  unfold Program.headLifts
  rw [h]
  simp only [strip_none "cut" r liftWords lift_cut]
  split <;> rfl
theorem may_enter_of (h : behindMainWord (wordsSigns P.initOrder.toList) = "cut".toList :: r) (h1 : P.laysLater = false) (h2 : P.bearsReflect = false) (h3 : P.doorFits [] = true) : P.mayEnter = true := by
  unfold Program.mayEnter
  rw [h]
  simp only [strip_none "cut" r liftWords lift_cut, h1, h2, h3]
  simp
theorem lifts_final_of (h : behindMainWord (wordsSigns P.initOrder.toList) = "cut".toList :: r) : P.liftsFinal = false := by
  unfold Program.liftsFinal
  rw [head_lifts_of h, h]
  kernel_rfl
theorem make_of (h : behindMainWord (wordsSigns P.initOrder.toList) = "cut".toList :: r) : P.make = some .cut := by
  unfold Program.make
  rw [h]
  kernel_rfl
end
theorem may_enter : Try.prog.mayEnter = true := by
  obtain ⟨r, h⟩ := words_cut
  exact may_enter_of h (by kernel_rfl) (by kernel_rfl) (by kernel_rfl)
theorem lifts_final : Try.prog.liftsFinal = false := by
  obtain ⟨r, h⟩ := words_cut
  exact lifts_final_of h
theorem make_is : Try.prog.make = some .cut := by
  obtain ⟨r, h⟩ := words_cut
  exact make_of h
theorem band {a b : Bool} (ha : a = true) (hb : b = true) : (a && b) = true := by rw [ha, hb]; rfl
end Go.Proofs.Ytapabbpdfplpoaa
