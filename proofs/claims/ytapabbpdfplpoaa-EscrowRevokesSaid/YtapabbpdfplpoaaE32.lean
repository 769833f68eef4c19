/-
  Escrow: EscrowRevokes, where a unit was spent, walked.
-/
import Derived.Test.YtapabbpdfplpoaaE30
import Derived.Test.YtapabbpdfplpoaaGC
set_option linter.unusedSimpArgs false
set_option linter.unusedVariables false
namespace Go.Proofs.Ytapabbpdfplpoaa
open Go.RowKit Go.CH Go.CH.Esc
open Go.ChangeMaps (setBlock)

set_option maxRecDepth 100000 in
set_option maxHeartbeats 4000000 in
theorem revokes_se {W : World} {raw u : Int} {r : Nat} (hr : 1 + raw % 4 = (r : Int)) (hraw : 0 ≤ raw ∧ raw ≤ 255) (hu : 0 ≤ u ∧ u ≤ 65535) {A : Option Addr} {n c : Nat} {l : List ActG} (hl : Acts W A n l) {a b : Int} (ha : 0 ≤ a ∧ a ≤ 255) (hb : 0 ≤ b ∧ b ≤ 255) {f t : Nat} (hf1 : Int.tmod a r = (f : Int)) (hf2 : f < r) (ht1 : Int.tmod b r = (t : Int)) (ht2 : t < r) (hc : 0 < have_ (doL (newG r u) (l.take 150)) t ∧ spendE (doL (newG r u) (l.take 150)) t 1 = 0) (hft : t = f) :
    Calls Try.prog 7 #[.int .u8 raw, .int .u16 u, .slice A n c, .int .u8 a, .int .u8 b] W (BelowRet W (.bool true)) := by
  have KH := hide (head_any W)
  have HR := hide (show 1 ≤ r by omega)
  have KO := hide (fun w1 (hb : Below W.heap.size W w1) => st_open (c := c) emp_ok ((Run.begin W).below emp_ok hb) hr hraw hu hl)
  have hr4 : (r : Int) ≤ 4 := by omega
  have HC := hide hc
  have HFT := hide hft
  have ha1 := ha.1
  have ha2 := ha.2
  have hb1 := hb.1
  have hb2 := hb.2
  have HWA := hide (show IntKind.i64.wrap a = a from IntWalk.i64_in _ (by omega))
  have HWB := hide (show IntKind.i64.wrap b = b from IntWalk.i64_in _ (by omega))
  have HF1 := hide hf1
  have HT1 := hide ht1
  have HR0 := hide (show ((r : Int) == 0) = false by have := HR.out; simp; omega)
  have HR1 := hide (show ¬ r = 0 by have := HR.out; omega)
  clear hl hraw hr hu ha hb hf1 ht1 hc hft
  go_enter Try.func7, Try.ntmps7
  go_wp2_with fail
  refine KH.out.mono ?_
  rintro e w1 ⟨rfl, hb1⟩
  have K := hide (KO.out w1 hb1)
  clear hb1 KH KO
  go_wp2_with fail
  refine K.out.mono ?_
  rintro e w2 ⟨p, rfl, hS⟩
  have hlen : (doL (newG r u) (l.take 150)).acc.length = r := by rw [len_doL, len_new HR.out]
  generalize doL (newG r u) (l.take 150) = g at *
  have HLEN := hide hlen
  have HIF := hide (show g.is (f : Int) = true by unfold GM.is; rw [hlen]; simp; omega)
  have HIT := hide (show g.is (t : Int) = true by unfold GM.is; rw [hlen]; simp; omega)
  clear hlen K
  have hwa := HWA.out
  have hwb := HWB.out
  have hf1 := HF1.out
  have ht1 := HT1.out
  have hr0 := HR0.out
  have hr1 := HR1.out
  have HS := hide hS
  clear hS
  go_wp2_with fail
  go_quiet (fail)
  have hS := HS.out.below (below_drewN (Below.refl _ _) nq)
  clear hwa hwb hf1 ht1 hr0 hr1 HS
  have hv := HC.out.1
  have K21 := hide (st_have hS t)
  generalize hhv : have_ g t = v0 at *
  have HHV := hide hhv
  clear hhv
  clear hS
  go_wp2_with fail
  refine K21.out.mono ?_
  rintro e w21 ⟨rfl, hS⟩
  clear K21
  have HSP := hide (spend_s hS.inv HC.out.2).1
  have HIF1 := hide (show (spendM g t 1).is (f : Int) = true by rw [spend_is]; exact HIF.out)
  have HIT1 := hide (show (spendM g t 1).is (t : Int) = true by rw [spend_is]; exact HIT.out)
  have K22 := hide (st_spend hS t 1 (by omega))
  rw [HC.out.2] at K22
  generalize spendM g t 1 = g0 at *
  clear HIF HIT HLEN HC HHV
  clear hS
  go_wp2_with fail
  refine K22.out.mono ?_
  rintro e w22 ⟨rfl, hS⟩
  clear K22
  clear g
  obtain ⟨g, rfl⟩ : ∃ g, g = g0 := ⟨_, rfl⟩
  have HIF := HIF1
  have HIT := HIT1
  clear HIF1 HIT1
  obtain ⟨r1, r2, r3, r4, r5, r6, r7, r8⟩ := revoke_plain hS.inv HIF.out HIT.out
  have HSP2 := hide (show 1 ≤ ((revM g f).at_ t).s by rw [r6]; exact HSP.out)
  have R2 := hide r2
  have R3 := hide r3
  have R4 := hide r4
  have R5 := hide r5
  have R7 := hide r7
  have R8 := hide r8
  have K23 := hide (st_rev hS f)
  rw [r1] at K23
  generalize revM g f = g1 at *
  clear r1 r2 r3 r4 r5 r6 r7 r8
  clear hS
  go_wp2_with fail
  refine K23.out.mono ?_
  rintro e w23 ⟨rfl, hS⟩
  clear K23
  have K24 := hide (st_spend hS f 1 (by omega))
  rw [R2.out] at K24
  rw [R3.out] at K24
  clear hS
  go_wp2_with fail
  refine K24.out.mono ?_
  rintro e w24 ⟨rfl, hS⟩
  clear K24
  have hft := HFT.out
  subst hft
  clear HFT
  have HIE := R4
  have HRE := R5
  have HSE := HSP2
  generalize g1 = g9 at *
  obtain ⟨z1, z2, z3⟩ := revoke_end hS.inv HIE.out HRE.out
  obtain ⟨z4, z5, z6⟩ := z3 HSE.out
  have Z4 := hide z4
  have Z5 := hide z5
  have Z6 := hide z6
  have Z1 := hide z1
  have Z2 := hide z2
  clear z1 z2 z3 z4 z5 z6
  have K25 := hide (st_have hS t)
  clear hS
  go_wp2_with fail
  refine K25.out.mono ?_
  rintro e w25 ⟨rfl, hS⟩
  clear K25
  have K26 := hide (st_spent hS)
  clear hS
  go_wp2_with fail
  refine K26.out.mono ?_
  rintro e w26 ⟨rfl, hS⟩
  clear K26
  have hbd1 : 0 ≤ have_ g9 t ∧ have_ g9 t ≤ 1000000000 := by rw [have_is HIE.out]; exact (Inv.bnd hS.inv HIE.out).1
  have hbd2 : 0 ≤ spentG g9 ∧ spentG g9 ≤ 1000000000 := by
    obtain ⟨q1, q2, q3⟩ := Inv.nonneg hS.inv
    have q4 := isum_nonneg q3
    have q5 := hS.inv.tot
    have q6 := hS.inv.U
    unfold haveG at q5
    omega
  generalize hv9 : have_ g9 t = v9 at *
  generalize hs9 : spentG g9 = s9 at *
  have HV9 := hide hv9
  have HS9 := hide hs9
  have q1 := hbd1.1
  have q2 := hbd1.2
  have q3 := hbd2.1
  have q4 := hbd2.2
  clear hv9 hs9 hbd1 hbd2
  have K27 := hide (st_spend hS t 1 (by omega))
  rw [Z1.out] at K27
  rw [Z2.out] at K27
  clear hS
  go_wp2_with fail
  refine K27.out.mono ?_
  rintro e w27 ⟨rfl, hS⟩
  clear K27
  have K28 := hide (st_spent hS)
  rw [HS9.out] at K28
  clear hS
  go_wp2_with fail
  refine K28.out.mono ?_
  rintro e w28 ⟨rfl, hS⟩
  clear K28
  have K29 := hide (st_ret hS t 1 (by omega))
  rw [Z4.out] at K29
  clear hS
  go_wp2_with fail
  refine K29.out.mono ?_
  rintro e w29 ⟨rfl, hS⟩
  clear K29
  have K30 := hide (st_have hS t)
  rw [Z5.out] at K30
  clear hS
  go_wp2_with fail
  refine K30.out.mono ?_
  rintro e w30 ⟨rfl, hS⟩
  clear K30
  have K31 := hide (st_spent hS)
  rw [Z6.out] at K31
  clear hS
  go_wp2_with fail
  refine K31.out.mono ?_
  rintro e w31 ⟨rfl, hS⟩
  clear K31
  have HB := hide hS.bel
  clear hS
  go_wp2_with fail
  go_ret
  exact ⟨rfl, HB.out⟩
set_option maxRecDepth 100000 in
set_option maxHeartbeats 4000000 in
theorem revokes_sd {W : World} {raw u : Int} {r : Nat} (hr : 1 + raw % 4 = (r : Int)) (hraw : 0 ≤ raw ∧ raw ≤ 255) (hu : 0 ≤ u ∧ u ≤ 65535) {A : Option Addr} {n c : Nat} {l : List ActG} (hl : Acts W A n l) {a b : Int} (ha : 0 ≤ a ∧ a ≤ 255) (hb : 0 ≤ b ∧ b ≤ 255) {f t : Nat} (hf1 : Int.tmod a r = (f : Int)) (hf2 : f < r) (ht1 : Int.tmod b r = (t : Int)) (ht2 : t < r) (hc : 0 < have_ (doL (newG r u) (l.take 150)) t ∧ spendE (doL (newG r u) (l.take 150)) t 1 = 0) (hft : ¬ f = t) :
    Calls Try.prog 7 #[.int .u8 raw, .int .u16 u, .slice A n c, .int .u8 a, .int .u8 b] W (BelowRet W (.bool true)) := by
  have KH := hide (head_any W)
  have HR := hide (show 1 ≤ r by omega)
  have KO := hide (fun w1 (hb : Below W.heap.size W w1) => st_open (c := c) emp_ok ((Run.begin W).below emp_ok hb) hr hraw hu hl)
  have hr4 : (r : Int) ≤ 4 := by omega
  have HC := hide hc
  have HFT := hide hft
  have ha1 := ha.1
  have ha2 := ha.2
  have hb1 := hb.1
  have hb2 := hb.2
  have HWA := hide (show IntKind.i64.wrap a = a from IntWalk.i64_in _ (by omega))
  have HWB := hide (show IntKind.i64.wrap b = b from IntWalk.i64_in _ (by omega))
  have HF1 := hide hf1
  have HT1 := hide ht1
  have HR0 := hide (show ((r : Int) == 0) = false by have := HR.out; simp; omega)
  have HR1 := hide (show ¬ r = 0 by have := HR.out; omega)
  clear hl hraw hr hu ha hb hf1 ht1 hc hft
  go_enter Try.func7, Try.ntmps7
  go_wp2_with fail
  refine KH.out.mono ?_
  rintro e w1 ⟨rfl, hb1⟩
  have K := hide (KO.out w1 hb1)
  clear hb1 KH KO
  go_wp2_with fail
  refine K.out.mono ?_
  rintro e w2 ⟨p, rfl, hS⟩
  have hlen : (doL (newG r u) (l.take 150)).acc.length = r := by rw [len_doL, len_new HR.out]
  generalize doL (newG r u) (l.take 150) = g at *
  have HLEN := hide hlen
  have HIF := hide (show g.is (f : Int) = true by unfold GM.is; rw [hlen]; simp; omega)
  have HIT := hide (show g.is (t : Int) = true by unfold GM.is; rw [hlen]; simp; omega)
  clear hlen K
  have hwa := HWA.out
  have hwb := HWB.out
  have hf1 := HF1.out
  have ht1 := HT1.out
  have hr0 := HR0.out
  have hr1 := HR1.out
  have HS := hide hS
  clear hS
  go_wp2_with fail
  go_quiet (fail)
  have hS := HS.out.below (below_drewN (Below.refl _ _) nq)
  clear hwa hwb hf1 ht1 hr0 hr1 HS
  have hv := HC.out.1
  have K32 := hide (st_have hS t)
  generalize hhv : have_ g t = v0 at *
  have HHV := hide hhv
  clear hhv
  clear hS
  go_wp2_with fail
  refine K32.out.mono ?_
  rintro e w32 ⟨rfl, hS⟩
  clear K32
  have HSP := hide (spend_s hS.inv HC.out.2).1
  have HIF1 := hide (show (spendM g t 1).is (f : Int) = true by rw [spend_is]; exact HIF.out)
  have HIT1 := hide (show (spendM g t 1).is (t : Int) = true by rw [spend_is]; exact HIT.out)
  have K33 := hide (st_spend hS t 1 (by omega))
  rw [HC.out.2] at K33
  generalize spendM g t 1 = g0 at *
  clear HIF HIT HLEN HC HHV
  clear hS
  go_wp2_with fail
  refine K33.out.mono ?_
  rintro e w33 ⟨rfl, hS⟩
  clear K33
  clear g
  obtain ⟨g, rfl⟩ : ∃ g, g = g0 := ⟨_, rfl⟩
  have HIF := HIF1
  have HIT := HIT1
  clear HIF1 HIT1
  obtain ⟨r1, r2, r3, r4, r5, r6, r7, r8⟩ := revoke_plain hS.inv HIF.out HIT.out
  have HSP2 := hide (show 1 ≤ ((revM g f).at_ t).s by rw [r6]; exact HSP.out)
  have R2 := hide r2
  have R3 := hide r3
  have R4 := hide r4
  have R5 := hide r5
  have R7 := hide r7
  have R8 := hide r8
  have K34 := hide (st_rev hS f)
  rw [r1] at K34
  generalize revM g f = g1 at *
  clear r1 r2 r3 r4 r5 r6 r7 r8
  clear hS
  go_wp2_with fail
  refine K34.out.mono ?_
  rintro e w34 ⟨rfl, hS⟩
  clear K34
  have K35 := hide (st_spend hS f 1 (by omega))
  rw [R2.out] at K35
  rw [R3.out] at K35
  clear hS
  go_wp2_with fail
  refine K35.out.mono ?_
  rintro e w35 ⟨rfl, hS⟩
  clear K35
  have hft1 : ¬ ((f : Int) = (t : Int)) := by have := HFT.out; omega
  have hft2 : ((f : Int) == (t : Int)) = false := by simpa using hft1
  have hft3 : ((f : Int) != (t : Int)) = true := by simpa using hft1
  obtain ⟨t1, t2, t3, t4, t5⟩ := revoke_told hS.inv (R7.out hft1) R5.out
  have T1 := hide t1
  have T2 := hide t2
  have HRE := hide t3
  have HIE := hide t5
  have HSE := hide (show 1 ≤ ((delM (sendM (emptyM g1 f t) f t) f t false false).at_ t).s by rw [t4]; exact HSP2.out)
  clear t1 t2 t3 t4 t5
  have K36 := hide (st_empty hS (by omega) f t)
  clear hS
  go_wp2_with fail
  refine K36.out.mono ?_
  rintro e w36 ⟨rfl, hS⟩
  clear K36
  have K37 := hide (st_send hS (by omega) f t)
  rw [T1.out] at K37
  clear hS
  go_wp2_with fail
  refine K37.out.mono ?_
  rintro e w37 ⟨rfl, hS⟩
  clear K37
  have K38 := hide (st_del hS (by omega) f t false false)
  rw [T2.out] at K38
  clear hS
  go_wp2_with fail
  refine K38.out.mono ?_
  rintro e w38 ⟨rfl, hS⟩
  clear K38
  generalize delM (sendM (emptyM g1 f t) f t) f t false false = g9 at *
  obtain ⟨z1, z2, z3⟩ := revoke_end hS.inv HIE.out HRE.out
  obtain ⟨z4, z5, z6⟩ := z3 HSE.out
  have Z4 := hide z4
  have Z5 := hide z5
  have Z6 := hide z6
  have Z1 := hide z1
  have Z2 := hide z2
  clear z1 z2 z3 z4 z5 z6
  have K39 := hide (st_have hS t)
  clear hS
  go_wp2_with fail
  refine K39.out.mono ?_
  rintro e w39 ⟨rfl, hS⟩
  clear K39
  have K40 := hide (st_spent hS)
  clear hS
  go_wp2_with fail
  refine K40.out.mono ?_
  rintro e w40 ⟨rfl, hS⟩
  clear K40
  have hbd1 : 0 ≤ have_ g9 t ∧ have_ g9 t ≤ 1000000000 := by rw [have_is HIE.out]; exact (Inv.bnd hS.inv HIE.out).1
  have hbd2 : 0 ≤ spentG g9 ∧ spentG g9 ≤ 1000000000 := by
    obtain ⟨q1, q2, q3⟩ := Inv.nonneg hS.inv
    have q4 := isum_nonneg q3
    have q5 := hS.inv.tot
    have q6 := hS.inv.U
    unfold haveG at q5
    omega
  generalize hv9 : have_ g9 t = v9 at *
  generalize hs9 : spentG g9 = s9 at *
  have HV9 := hide hv9
  have HS9 := hide hs9
  have q1 := hbd1.1
  have q2 := hbd1.2
  have q3 := hbd2.1
  have q4 := hbd2.2
  clear hv9 hs9 hbd1 hbd2
  have K41 := hide (st_spend hS t 1 (by omega))
  rw [Z1.out] at K41
  rw [Z2.out] at K41
  clear hS
  go_wp2_with fail
  refine K41.out.mono ?_
  rintro e w41 ⟨rfl, hS⟩
  clear K41
  have K42 := hide (st_spent hS)
  rw [HS9.out] at K42
  clear hS
  go_wp2_with fail
  refine K42.out.mono ?_
  rintro e w42 ⟨rfl, hS⟩
  clear K42
  have K43 := hide (st_ret hS t 1 (by omega))
  rw [Z4.out] at K43
  clear hS
  go_wp2_with fail
  refine K43.out.mono ?_
  rintro e w43 ⟨rfl, hS⟩
  clear K43
  have K44 := hide (st_have hS t)
  rw [Z5.out] at K44
  clear hS
  go_wp2_with fail
  refine K44.out.mono ?_
  rintro e w44 ⟨rfl, hS⟩
  clear K44
  have K45 := hide (st_spent hS)
  rw [Z6.out] at K45
  clear hS
  go_wp2_with fail
  refine K45.out.mono ?_
  rintro e w45 ⟨rfl, hS⟩
  clear K45
  have HB := hide hS.bel
  clear hS
  go_wp2_with fail
  go_ret
  exact ⟨rfl, HB.out⟩
set_option maxRecDepth 100000 in
set_option maxHeartbeats 4000000 in
theorem revokes_ze {W : World} {raw u : Int} {r : Nat} (hr : 1 + raw % 4 = (r : Int)) (hraw : 0 ≤ raw ∧ raw ≤ 255) (hu : 0 ≤ u ∧ u ≤ 65535) {A : Option Addr} {n c : Nat} {l : List ActG} (hl : Acts W A n l) {a b : Int} (ha : 0 ≤ a ∧ a ≤ 255) (hb : 0 ≤ b ∧ b ≤ 255) {f t : Nat} (hf1 : Int.tmod a r = (f : Int)) (hf2 : f < r) (ht1 : Int.tmod b r = (t : Int)) (ht2 : t < r) (hc : have_ (doL (newG r u) (l.take 150)) t = 0) (hft : t = f) :
    Calls Try.prog 7 #[.int .u8 raw, .int .u16 u, .slice A n c, .int .u8 a, .int .u8 b] W (BelowRet W (.bool true)) := by
  have KH := hide (head_any W)
  have HR := hide (show 1 ≤ r by omega)
  have KO := hide (fun w1 (hb : Below W.heap.size W w1) => st_open (c := c) emp_ok ((Run.begin W).below emp_ok hb) hr hraw hu hl)
  have hr4 : (r : Int) ≤ 4 := by omega
  have HC := hide hc
  have HFT := hide hft
  have ha1 := ha.1
  have ha2 := ha.2
  have hb1 := hb.1
  have hb2 := hb.2
  have HWA := hide (show IntKind.i64.wrap a = a from IntWalk.i64_in _ (by omega))
  have HWB := hide (show IntKind.i64.wrap b = b from IntWalk.i64_in _ (by omega))
  have HF1 := hide hf1
  have HT1 := hide ht1
  have HR0 := hide (show ((r : Int) == 0) = false by have := HR.out; simp; omega)
  have HR1 := hide (show ¬ r = 0 by have := HR.out; omega)
  clear hl hraw hr hu ha hb hf1 ht1 hc hft
  go_enter Try.func7, Try.ntmps7
  go_wp2_with fail
  refine KH.out.mono ?_
  rintro e w1 ⟨rfl, hb1⟩
  have K := hide (KO.out w1 hb1)
  clear hb1 KH KO
  go_wp2_with fail
  refine K.out.mono ?_
  rintro e w2 ⟨p, rfl, hS⟩
  have hlen : (doL (newG r u) (l.take 150)).acc.length = r := by rw [len_doL, len_new HR.out]
  generalize doL (newG r u) (l.take 150) = g at *
  have HLEN := hide hlen
  have HIF := hide (show g.is (f : Int) = true by unfold GM.is; rw [hlen]; simp; omega)
  have HIT := hide (show g.is (t : Int) = true by unfold GM.is; rw [hlen]; simp; omega)
  clear hlen K
  have hwa := HWA.out
  have hwb := HWB.out
  have hf1 := HF1.out
  have ht1 := HT1.out
  have hr0 := HR0.out
  have hr1 := HR1.out
  have HS := hide hS
  clear hS
  go_wp2_with fail
  go_quiet (fail)
  have hS := HS.out.below (below_drewN (Below.refl _ _) nq)
  clear hwa hwb hf1 ht1 hr0 hr1 HS
  have hv := HC.out
  have K65 := hide (st_have hS t)
  rw [HC.out] at K65
  clear hv
  clear hS
  go_wp2_with fail
  refine K65.out.mono ?_
  rintro e w65 ⟨rfl, hS⟩
  clear K65
  obtain ⟨r1, r2, r3, r4, r5, r6, r7, r8⟩ := revoke_plain hS.inv HIF.out HIT.out
  have R2 := hide r2
  have R3 := hide r3
  have R4 := hide r4
  have R5 := hide r5
  have R7 := hide r7
  have R8 := hide r8
  have K66 := hide (st_rev hS f)
  rw [r1] at K66
  generalize revM g f = g1 at *
  clear r1 r2 r3 r4 r5 r6 r7 r8
  clear hS
  go_wp2_with fail
  refine K66.out.mono ?_
  rintro e w66 ⟨rfl, hS⟩
  clear K66
  have K67 := hide (st_spend hS f 1 (by omega))
  rw [R2.out] at K67
  rw [R3.out] at K67
  clear hS
  go_wp2_with fail
  refine K67.out.mono ?_
  rintro e w67 ⟨rfl, hS⟩
  clear K67
  have hft := HFT.out
  subst hft
  clear HFT
  have HIE := R4
  have HRE := R5
  generalize g1 = g9 at *
  obtain ⟨z1, z2, z3⟩ := revoke_end hS.inv HIE.out HRE.out
  have Z1 := hide z1
  have Z2 := hide z2
  clear z1 z2 z3
  have K68 := hide (st_have hS t)
  clear hS
  go_wp2_with fail
  refine K68.out.mono ?_
  rintro e w68 ⟨rfl, hS⟩
  clear K68
  have K69 := hide (st_spent hS)
  clear hS
  go_wp2_with fail
  refine K69.out.mono ?_
  rintro e w69 ⟨rfl, hS⟩
  clear K69
  have hbd1 : 0 ≤ have_ g9 t ∧ have_ g9 t ≤ 1000000000 := by rw [have_is HIE.out]; exact (Inv.bnd hS.inv HIE.out).1
  have hbd2 : 0 ≤ spentG g9 ∧ spentG g9 ≤ 1000000000 := by
    obtain ⟨q1, q2, q3⟩ := Inv.nonneg hS.inv
    have q4 := isum_nonneg q3
    have q5 := hS.inv.tot
    have q6 := hS.inv.U
    unfold haveG at q5
    omega
  generalize hv9 : have_ g9 t = v9 at *
  generalize hs9 : spentG g9 = s9 at *
  have HV9 := hide hv9
  have HS9 := hide hs9
  have q1 := hbd1.1
  have q2 := hbd1.2
  have q3 := hbd2.1
  have q4 := hbd2.2
  clear hv9 hs9 hbd1 hbd2
  have K70 := hide (st_spend hS t 1 (by omega))
  rw [Z1.out] at K70
  rw [Z2.out] at K70
  clear hS
  go_wp2_with fail
  refine K70.out.mono ?_
  rintro e w70 ⟨rfl, hS⟩
  clear K70
  have K71 := hide (st_spent hS)
  rw [HS9.out] at K71
  clear hS
  go_wp2_with fail
  refine K71.out.mono ?_
  rintro e w71 ⟨rfl, hS⟩
  clear K71
  have HB := hide hS.bel
  clear hS
  go_wp2_with fail
  go_ret
  exact ⟨rfl, HB.out⟩
end Go.Proofs.Ytapabbpdfplpoaa
