/-
  Escrow: EscrowRevokes, walked.
-/
import Derived.Test.YtapabbpdfplpoaaE32
import Derived.Test.YtapabbpdfplpoaaGC
set_option linter.unusedSimpArgs false
set_option linter.unusedVariables false
namespace Go.Proofs.Ytapabbpdfplpoaa
open Go.RowKit Go.CH Go.CH.Esc
open Go.ChangeMaps (setBlock)

set_option maxRecDepth 100000 in
set_option maxHeartbeats 4000000 in
theorem revokes_ne {W : World} {raw u : Int} {r : Nat} (hr : 1 + raw % 4 = (r : Int)) (hraw : 0 ≤ raw ∧ raw ≤ 255) (hu : 0 ≤ u ∧ u ≤ 65535) {A : Option Addr} {n c : Nat} {l : List ActG} (hl : Acts W A n l) {a b : Int} (ha : 0 ≤ a ∧ a ≤ 255) (hb : 0 ≤ b ∧ b ≤ 255) {f t : Nat} (hf1 : Int.tmod a r = (f : Int)) (hf2 : f < r) (ht1 : Int.tmod b r = (t : Int)) (ht2 : t < r) (hc : 0 < have_ (doL (newG r u) (l.take 150)) t ∧ ¬ spendE (doL (newG r u) (l.take 150)) t 1 = 0) (hft : t = f) :
    Calls Try.prog 7 #[.int .u8 raw, .int .u16 u, .slice A n c, .int .u8 a, .int .u8 b] W (BelowRet W (.bool true)) := by
  have KH := hide (head_any W)
  have HR := hide (show 1 ≤ r by omega)
  have KO := hide (fun w1 (hb : Below W.heap.size W w1) => st_open (c := c) emp_ok ((Run.begin W).below emp_ok hb) hr hraw hu hl)
  have hr4 : (r : Int) ≤ 4 := by omega
  have HC := hide hc
  have HFT := hide hft
  have ha1 := ha.1
  have ha2 := ha.2
  have hb1 := hb.1
  have hb2 := hb.2
  have HWA := hide (show IntKind.i64.wrap a = a from IntWalk.i64_in _ (by omega))
  have HWB := hide (show IntKind.i64.wrap b = b from IntWalk.i64_in _ (by omega))
  have HF1 := hide hf1
  have HT1 := hide ht1
  have HR0 := hide (show ((r : Int) == 0) = false by have := HR.out; simp; omega)
  have HR1 := hide (show ¬ r = 0 by have := HR.out; omega)
  clear hl hraw hr hu ha hb hf1 ht1 hc hft
  go_enter Try.func7, Try.ntmps7
  go_wp2_with fail
  refine KH.out.mono ?_
  rintro e w1 ⟨rfl, hb1⟩
  have K := hide (KO.out w1 hb1)
  clear hb1 KH KO
  go_wp2_with fail
  refine K.out.mono ?_
  rintro e w2 ⟨p, rfl, hS⟩
  have hlen : (doL (newG r u) (l.take 150)).acc.length = r := by rw [len_doL, len_new HR.out]
  generalize doL (newG r u) (l.take 150) = g at *
  have HLEN := hide hlen
  have HIF := hide (show g.is (f : Int) = true by unfold GM.is; rw [hlen]; simp; omega)
  have HIT := hide (show g.is (t : Int) = true by unfold GM.is; rw [hlen]; simp; omega)
  clear hlen K
  have hwa := HWA.out
  have hwb := HWB.out
  have hf1 := HF1.out
  have ht1 := HT1.out
  have hr0 := HR0.out
  have hr1 := HR1.out
  have HS := hide hS
  clear hS
  go_wp2_with fail
  go_quiet (fail)
  have hS := HS.out.below (below_drewN (Below.refl _ _) nq)
  clear hwa hwb hf1 ht1 hr0 hr1 HS
  have hv := HC.out.1
  have K46 := hide (st_have hS t)
  generalize hhv : have_ g t = v0 at *
  have HHV := hide hhv
  clear hhv
  clear hS
  go_wp2_with fail
  refine K46.out.mono ?_
  rintro e w46 ⟨rfl, hS⟩
  clear K46
  have HSM := hide (show spendM g t 1 = g by unfold spendM; rw [if_neg HC.out.2])
  have hev : (spendE g t 1 == 0) = false := by simpa using HC.out.2
  have hev2 : ¬ spendE g t 1 = 0 := HC.out.2
  have K47 := hide (st_spend hS t 1 (by omega))
  rw [HSM.out] at K47
  generalize hev0 : spendE g t 1 = ev at *
  clear hev0
  clear hS
  go_wp2_with fail
  refine K47.out.mono ?_
  rintro e w47 ⟨rfl, hS⟩
  clear K47
  obtain ⟨r1, r2, r3, r4, r5, r6, r7, r8⟩ := revoke_plain hS.inv HIF.out HIT.out
  have R2 := hide r2
  have R3 := hide r3
  have R4 := hide r4
  have R5 := hide r5
  have R7 := hide r7
  have R8 := hide r8
  have K48 := hide (st_rev hS f)
  rw [r1] at K48
  generalize revM g f = g1 at *
  clear r1 r2 r3 r4 r5 r6 r7 r8
  clear hS
  go_wp2_with fail
  refine K48.out.mono ?_
  rintro e w48 ⟨rfl, hS⟩
  clear K48
  have K49 := hide (st_spend hS f 1 (by omega))
  rw [R2.out] at K49
  rw [R3.out] at K49
  clear hS
  go_wp2_with fail
  refine K49.out.mono ?_
  rintro e w49 ⟨rfl, hS⟩
  clear K49
  have hft := HFT.out
  subst hft
  clear HFT
  have HIE := R4
  have HRE := R5
  generalize g1 = g9 at *
  obtain ⟨z1, z2, z3⟩ := revoke_end hS.inv HIE.out HRE.out
  have Z1 := hide z1
  have Z2 := hide z2
  clear z1 z2 z3
  have K50 := hide (st_have hS t)
  clear hS
  go_wp2_with fail
  refine K50.out.mono ?_
  rintro e w50 ⟨rfl, hS⟩
  clear K50
  have K51 := hide (st_spent hS)
  clear hS
  go_wp2_with fail
  refine K51.out.mono ?_
  rintro e w51 ⟨rfl, hS⟩
  clear K51
  have hbd1 : 0 ≤ have_ g9 t ∧ have_ g9 t ≤ 1000000000 := by rw [have_is HIE.out]; exact (Inv.bnd hS.inv HIE.out).1
  have hbd2 : 0 ≤ spentG g9 ∧ spentG g9 ≤ 1000000000 := by
    obtain ⟨q1, q2, q3⟩ := Inv.nonneg hS.inv
    have q4 := isum_nonneg q3
    have q5 := hS.inv.tot
    have q6 := hS.inv.U
    unfold haveG at q5
    omega
  generalize hv9 : have_ g9 t = v9 at *
  generalize hs9 : spentG g9 = s9 at *
  have HV9 := hide hv9
  have HS9 := hide hs9
  have q1 := hbd1.1
  have q2 := hbd1.2
  have q3 := hbd2.1
  have q4 := hbd2.2
  clear hv9 hs9 hbd1 hbd2
  have K52 := hide (st_spend hS t 1 (by omega))
  rw [Z1.out] at K52
  rw [Z2.out] at K52
  clear hS
  go_wp2_with fail
  refine K52.out.mono ?_
  rintro e w52 ⟨rfl, hS⟩
  clear K52
  have K53 := hide (st_spent hS)
  rw [HS9.out] at K53
  clear hS
  go_wp2_with fail
  refine K53.out.mono ?_
  rintro e w53 ⟨rfl, hS⟩
  clear K53
  have HB := hide hS.bel
  clear hS
  go_wp2_with fail
  go_ret
  exact ⟨rfl, HB.out⟩
set_option maxRecDepth 100000 in
set_option maxHeartbeats 4000000 in
theorem revokes_nd {W : World} {raw u : Int} {r : Nat} (hr : 1 + raw % 4 = (r : Int)) (hraw : 0 ≤ raw ∧ raw ≤ 255) (hu : 0 ≤ u ∧ u ≤ 65535) {A : Option Addr} {n c : Nat} {l : List ActG} (hl : Acts W A n l) {a b : Int} (ha : 0 ≤ a ∧ a ≤ 255) (hb : 0 ≤ b ∧ b ≤ 255) {f t : Nat} (hf1 : Int.tmod a r = (f : Int)) (hf2 : f < r) (ht1 : Int.tmod b r = (t : Int)) (ht2 : t < r) (hc : 0 < have_ (doL (newG r u) (l.take 150)) t ∧ ¬ spendE (doL (newG r u) (l.take 150)) t 1 = 0) (hft : ¬ f = t) :
    Calls Try.prog 7 #[.int .u8 raw, .int .u16 u, .slice A n c, .int .u8 a, .int .u8 b] W (BelowRet W (.bool true)) := by
  have KH := hide (head_any W)
  have HR := hide (show 1 ≤ r by omega)
  have KO := hide (fun w1 (hb : Below W.heap.size W w1) => st_open (c := c) emp_ok ((Run.begin W).below emp_ok hb) hr hraw hu hl)
  have hr4 : (r : Int) ≤ 4 := by omega
  have HC := hide hc
  have HFT := hide hft
  have ha1 := ha.1
  have ha2 := ha.2
  have hb1 := hb.1
  have hb2 := hb.2
  have HWA := hide (show IntKind.i64.wrap a = a from IntWalk.i64_in _ (by omega))
  have HWB := hide (show IntKind.i64.wrap b = b from IntWalk.i64_in _ (by omega))
  have HF1 := hide hf1
  have HT1 := hide ht1
  have HR0 := hide (show ((r : Int) == 0) = false by have := HR.out; simp; omega)
  have HR1 := hide (show ¬ r = 0 by have := HR.out; omega)
  clear hl hraw hr hu ha hb hf1 ht1 hc hft
  go_enter Try.func7, Try.ntmps7
  go_wp2_with fail
  refine KH.out.mono ?_
  rintro e w1 ⟨rfl, hb1⟩
  have K := hide (KO.out w1 hb1)
  clear hb1 KH KO
  go_wp2_with fail
  refine K.out.mono ?_
  rintro e w2 ⟨p, rfl, hS⟩
  have hlen : (doL (newG r u) (l.take 150)).acc.length = r := by rw [len_doL, len_new HR.out]
  generalize doL (newG r u) (l.take 150) = g at *
  have HLEN := hide hlen
  have HIF := hide (show g.is (f : Int) = true by unfold GM.is; rw [hlen]; simp; omega)
  have HIT := hide (show g.is (t : Int) = true by unfold GM.is; rw [hlen]; simp; omega)
  clear hlen K
  have hwa := HWA.out
  have hwb := HWB.out
  have hf1 := HF1.out
  have ht1 := HT1.out
  have hr0 := HR0.out
  have hr1 := HR1.out
  have HS := hide hS
  clear hS
  go_wp2_with fail
  go_quiet (fail)
  have hS := HS.out.below (below_drewN (Below.refl _ _) nq)
  clear hwa hwb hf1 ht1 hr0 hr1 HS
  have hv := HC.out.1
  have K54 := hide (st_have hS t)
  generalize hhv : have_ g t = v0 at *
  have HHV := hide hhv
  clear hhv
  clear hS
  go_wp2_with fail
  refine K54.out.mono ?_
  rintro e w54 ⟨rfl, hS⟩
  clear K54
  have HSM := hide (show spendM g t 1 = g by unfold spendM; rw [if_neg HC.out.2])
  have hev : (spendE g t 1 == 0) = false := by simpa using HC.out.2
  have hev2 : ¬ spendE g t 1 = 0 := HC.out.2
  have K55 := hide (st_spend hS t 1 (by omega))
  rw [HSM.out] at K55
  generalize hev0 : spendE g t 1 = ev at *
  clear hev0
  clear hS
  go_wp2_with fail
  refine K55.out.mono ?_
  rintro e w55 ⟨rfl, hS⟩
  clear K55
  obtain ⟨r1, r2, r3, r4, r5, r6, r7, r8⟩ := revoke_plain hS.inv HIF.out HIT.out
  have R2 := hide r2
  have R3 := hide r3
  have R4 := hide r4
  have R5 := hide r5
  have R7 := hide r7
  have R8 := hide r8
  have K56 := hide (st_rev hS f)
  rw [r1] at K56
  generalize revM g f = g1 at *
  clear r1 r2 r3 r4 r5 r6 r7 r8
  clear hS
  go_wp2_with fail
  refine K56.out.mono ?_
  rintro e w56 ⟨rfl, hS⟩
  clear K56
  have K57 := hide (st_spend hS f 1 (by omega))
  rw [R2.out] at K57
  rw [R3.out] at K57
  clear hS
  go_wp2_with fail
  refine K57.out.mono ?_
  rintro e w57 ⟨rfl, hS⟩
  clear K57
  have hft1 : ¬ ((f : Int) = (t : Int)) := by have := HFT.out; omega
  have hft2 : ((f : Int) == (t : Int)) = false := by simpa using hft1
  have hft3 : ((f : Int) != (t : Int)) = true := by simpa using hft1
  obtain ⟨t1, t2, t3, t4, t5⟩ := revoke_told hS.inv (R7.out hft1) R5.out
  have T1 := hide t1
  have T2 := hide t2
  have HRE := hide t3
  have HIE := hide t5
  clear t1 t2 t3 t4 t5
  have K58 := hide (st_empty hS (by omega) f t)
  clear hS
  go_wp2_with fail
  refine K58.out.mono ?_
  rintro e w58 ⟨rfl, hS⟩
  clear K58
  have K59 := hide (st_send hS (by omega) f t)
  rw [T1.out] at K59
  clear hS
  go_wp2_with fail
  refine K59.out.mono ?_
  rintro e w59 ⟨rfl, hS⟩
  clear K59
  have K60 := hide (st_del hS (by omega) f t false false)
  rw [T2.out] at K60
  clear hS
  go_wp2_with fail
  refine K60.out.mono ?_
  rintro e w60 ⟨rfl, hS⟩
  clear K60
  generalize delM (sendM (emptyM g1 f t) f t) f t false false = g9 at *
  obtain ⟨z1, z2, z3⟩ := revoke_end hS.inv HIE.out HRE.out
  have Z1 := hide z1
  have Z2 := hide z2
  clear z1 z2 z3
  have K61 := hide (st_have hS t)
  clear hS
  go_wp2_with fail
  refine K61.out.mono ?_
  rintro e w61 ⟨rfl, hS⟩
  clear K61
  have K62 := hide (st_spent hS)
  clear hS
  go_wp2_with fail
  refine K62.out.mono ?_
  rintro e w62 ⟨rfl, hS⟩
  clear K62
  have hbd1 : 0 ≤ have_ g9 t ∧ have_ g9 t ≤ 1000000000 := by rw [have_is HIE.out]; exact (Inv.bnd hS.inv HIE.out).1
  have hbd2 : 0 ≤ spentG g9 ∧ spentG g9 ≤ 1000000000 := by
    obtain ⟨q1, q2, q3⟩ := Inv.nonneg hS.inv
    have q4 := isum_nonneg q3
    have q5 := hS.inv.tot
    have q6 := hS.inv.U
    unfold haveG at q5
    omega
  generalize hv9 : have_ g9 t = v9 at *
  generalize hs9 : spentG g9 = s9 at *
  have HV9 := hide hv9
  have HS9 := hide hs9
  have q1 := hbd1.1
  have q2 := hbd1.2
  have q3 := hbd2.1
  have q4 := hbd2.2
  clear hv9 hs9 hbd1 hbd2
  have K63 := hide (st_spend hS t 1 (by omega))
  rw [Z1.out] at K63
  rw [Z2.out] at K63
  clear hS
  go_wp2_with fail
  refine K63.out.mono ?_
  rintro e w63 ⟨rfl, hS⟩
  clear K63
  have K64 := hide (st_spent hS)
  rw [HS9.out] at K64
  clear hS
  go_wp2_with fail
  refine K64.out.mono ?_
  rintro e w64 ⟨rfl, hS⟩
  clear K64
  have HB := hide hS.bel
  clear hS
  go_wp2_with fail
  go_ret
  exact ⟨rfl, HB.out⟩
set_option maxRecDepth 100000 in
set_option maxHeartbeats 4000000 in
theorem revokes_zd {W : World} {raw u : Int} {r : Nat} (hr : 1 + raw % 4 = (r : Int)) (hraw : 0 ≤ raw ∧ raw ≤ 255) (hu : 0 ≤ u ∧ u ≤ 65535) {A : Option Addr} {n c : Nat} {l : List ActG} (hl : Acts W A n l) {a b : Int} (ha : 0 ≤ a ∧ a ≤ 255) (hb : 0 ≤ b ∧ b ≤ 255) {f t : Nat} (hf1 : Int.tmod a r = (f : Int)) (hf2 : f < r) (ht1 : Int.tmod b r = (t : Int)) (ht2 : t < r) (hc : have_ (doL (newG r u) (l.take 150)) t = 0) (hft : ¬ f = t) :
    Calls Try.prog 7 #[.int .u8 raw, .int .u16 u, .slice A n c, .int .u8 a, .int .u8 b] W (BelowRet W (.bool true)) := by
  have KH := hide (head_any W)
  have HR := hide (show 1 ≤ r by omega)
  have KO := hide (fun w1 (hb : Below W.heap.size W w1) => st_open (c := c) emp_ok ((Run.begin W).below emp_ok hb) hr hraw hu hl)
  have hr4 : (r : Int) ≤ 4 := by omega
  have HC := hide hc
  have HFT := hide hft
  have ha1 := ha.1
  have ha2 := ha.2
  have hb1 := hb.1
  have hb2 := hb.2
  have HWA := hide (show IntKind.i64.wrap a = a from IntWalk.i64_in _ (by omega))
  have HWB := hide (show IntKind.i64.wrap b = b from IntWalk.i64_in _ (by omega))
  have HF1 := hide hf1
  have HT1 := hide ht1
  have HR0 := hide (show ((r : Int) == 0) = false by have := HR.out; simp; omega)
  have HR1 := hide (show ¬ r = 0 by have := HR.out; omega)
  clear hl hraw hr hu ha hb hf1 ht1 hc hft
  go_enter Try.func7, Try.ntmps7
  go_wp2_with fail
  refine KH.out.mono ?_
  rintro e w1 ⟨rfl, hb1⟩
  have K := hide (KO.out w1 hb1)
  clear hb1 KH KO
  go_wp2_with fail
  refine K.out.mono ?_
  rintro e w2 ⟨p, rfl, hS⟩
  have hlen : (doL (newG r u) (l.take 150)).acc.length = r := by rw [len_doL, len_new HR.out]
  generalize doL (newG r u) (l.take 150) = g at *
  have HLEN := hide hlen
  have HIF := hide (show g.is (f : Int) = true by unfold GM.is; rw [hlen]; simp; omega)
  have HIT := hide (show g.is (t : Int) = true by unfold GM.is; rw [hlen]; simp; omega)
  clear hlen K
  have hwa := HWA.out
  have hwb := HWB.out
  have hf1 := HF1.out
  have ht1 := HT1.out
  have hr0 := HR0.out
  have hr1 := HR1.out
  have HS := hide hS
  clear hS
  go_wp2_with fail
  go_quiet (fail)
  have hS := HS.out.below (below_drewN (Below.refl _ _) nq)
  clear hwa hwb hf1 ht1 hr0 hr1 HS
  have hv := HC.out
  have K72 := hide (st_have hS t)
  rw [HC.out] at K72
  clear hv
  clear hS
  go_wp2_with fail
  refine K72.out.mono ?_
  rintro e w72 ⟨rfl, hS⟩
  clear K72
  obtain ⟨r1, r2, r3, r4, r5, r6, r7, r8⟩ := revoke_plain hS.inv HIF.out HIT.out
  have R2 := hide r2
  have R3 := hide r3
  have R4 := hide r4
  have R5 := hide r5
  have R7 := hide r7
  have R8 := hide r8
  have K73 := hide (st_rev hS f)
  rw [r1] at K73
  generalize revM g f = g1 at *
  clear r1 r2 r3 r4 r5 r6 r7 r8
  clear hS
  go_wp2_with fail
  refine K73.out.mono ?_
  rintro e w73 ⟨rfl, hS⟩
  clear K73
  have K74 := hide (st_spend hS f 1 (by omega))
  rw [R2.out] at K74
  rw [R3.out] at K74
  clear hS
  go_wp2_with fail
  refine K74.out.mono ?_
  rintro e w74 ⟨rfl, hS⟩
  clear K74
  have hft1 : ¬ ((f : Int) = (t : Int)) := by have := HFT.out; omega
  have hft2 : ((f : Int) == (t : Int)) = false := by simpa using hft1
  have hft3 : ((f : Int) != (t : Int)) = true := by simpa using hft1
  obtain ⟨t1, t2, t3, t4, t5⟩ := revoke_told hS.inv (R7.out hft1) R5.out
  have T1 := hide t1
  have T2 := hide t2
  have HRE := hide t3
  have HIE := hide t5
  clear t1 t2 t3 t4 t5
  have K75 := hide (st_empty hS (by omega) f t)
  clear hS
  go_wp2_with fail
  refine K75.out.mono ?_
  rintro e w75 ⟨rfl, hS⟩
  clear K75
  have K76 := hide (st_send hS (by omega) f t)
  rw [T1.out] at K76
  clear hS
  go_wp2_with fail
  refine K76.out.mono ?_
  rintro e w76 ⟨rfl, hS⟩
  clear K76
  have K77 := hide (st_del hS (by omega) f t false false)
  rw [T2.out] at K77
  clear hS
  go_wp2_with fail
  refine K77.out.mono ?_
  rintro e w77 ⟨rfl, hS⟩
  clear K77
  generalize delM (sendM (emptyM g1 f t) f t) f t false false = g9 at *
  obtain ⟨z1, z2, z3⟩ := revoke_end hS.inv HIE.out HRE.out
  have Z1 := hide z1
  have Z2 := hide z2
  clear z1 z2 z3
  have K78 := hide (st_have hS t)
  clear hS
  go_wp2_with fail
  refine K78.out.mono ?_
  rintro e w78 ⟨rfl, hS⟩
  clear K78
  have K79 := hide (st_spent hS)
  clear hS
  go_wp2_with fail
  refine K79.out.mono ?_
  rintro e w79 ⟨rfl, hS⟩
  clear K79
  have hbd1 : 0 ≤ have_ g9 t ∧ have_ g9 t ≤ 1000000000 := by rw [have_is HIE.out]; exact (Inv.bnd hS.inv HIE.out).1
  have hbd2 : 0 ≤ spentG g9 ∧ spentG g9 ≤ 1000000000 := by
    obtain ⟨q1, q2, q3⟩ := Inv.nonneg hS.inv
    have q4 := isum_nonneg q3
    have q5 := hS.inv.tot
    have q6 := hS.inv.U
    unfold haveG at q5
    omega
  generalize hv9 : have_ g9 t = v9 at *
  generalize hs9 : spentG g9 = s9 at *
  have HV9 := hide hv9
  have HS9 := hide hs9
  have q1 := hbd1.1
  have q2 := hbd1.2
  have q3 := hbd2.1
  have q4 := hbd2.2
  clear hv9 hs9 hbd1 hbd2
  have K80 := hide (st_spend hS t 1 (by omega))
  rw [Z1.out] at K80
  rw [Z2.out] at K80
  clear hS
  go_wp2_with fail
  refine K80.out.mono ?_
  rintro e w80 ⟨rfl, hS⟩
  clear K80
  have K81 := hide (st_spent hS)
  rw [HS9.out] at K81
  clear hS
  go_wp2_with fail
  refine K81.out.mono ?_
  rintro e w81 ⟨rfl, hS⟩
  clear K81
  have HB := hide hS.bel
  clear hS
  go_wp2_with fail
  go_ret
  exact ⟨rfl, HB.out⟩
theorem revokes_any {W : World} {raw u : Int} {r : Nat} (hr : 1 + raw % 4 = (r : Int)) (hraw : 0 ≤ raw ∧ raw ≤ 255) (hu : 0 ≤ u ∧ u ≤ 65535) {A : Option Addr} {n c : Nat} {l : List ActG} (hl : Acts W A n l) {a b : Int} (ha : 0 ≤ a ∧ a ≤ 255) (hb : 0 ≤ b ∧ b ≤ 255) :
    Calls Try.prog 7 #[.int .u8 raw, .int .u16 u, .slice A n c, .int .u8 a, .int .u8 b] W (BelowRet W (.bool true)) := by
  obtain ⟨f, hf1, hf2, hf3⟩ := mod_nat (r := r) ha (by omega)
  obtain ⟨t, ht1, ht2, ht3⟩ := mod_nat (r := r) hb (by omega)
  have hI : Inv (doL (newG r u) (l.take 150)) u := (Inv.new (by omega) (by omega) hu.1 (by omega)).doL _
  have hit : (doL (newG r u) (l.take 150)).is (t : Int) = true := by unfold GM.is; rw [len_doL, len_new (by omega)]; simp; omega
  have h0 : 0 ≤ have_ (doL (newG r u) (l.take 150)) t := by rw [have_is hit]; exact (hI.at_ hit).1
  by_cases hft : t = f
  · by_cases h1 : have_ (doL (newG r u) (l.take 150)) t = 0
    · exact revokes_ze hr hraw hu hl ha hb hf1 hf2 ht1 ht2 h1 hft
    · by_cases h2 : spendE (doL (newG r u) (l.take 150)) t 1 = 0
      · exact revokes_se hr hraw hu hl ha hb hf1 hf2 ht1 ht2 ⟨by omega, h2⟩ hft
      · exact revokes_ne hr hraw hu hl ha hb hf1 hf2 ht1 ht2 ⟨by omega, h2⟩ hft
  · have hft' : ¬ f = t := fun e => hft e.symm
    by_cases h1 : have_ (doL (newG r u) (l.take 150)) t = 0
    · exact revokes_zd hr hraw hu hl ha hb hf1 hf2 ht1 ht2 h1 hft'
    · by_cases h2 : spendE (doL (newG r u) (l.take 150)) t 1 = 0
      · exact revokes_sd hr hraw hu hl ha hb hf1 hf2 ht1 ht2 ⟨by omega, h2⟩ hft'
      · exact revokes_nd hr hraw hu hl ha hb hf1 hf2 ht1 ht2 ⟨by omega, h2⟩ hft'
end Go.Proofs.Ytapabbpdfplpoaa
