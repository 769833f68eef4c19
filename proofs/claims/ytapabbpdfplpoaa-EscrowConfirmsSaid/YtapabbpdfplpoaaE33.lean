/-
  Escrow: EscrowConfirms, walked.
-/
import Derived.Test.YtapabbpdfplpoaaE30
import Derived.Test.YtapabbpdfplpoaaGC
set_option linter.unusedSimpArgs false
set_option linter.unusedVariables false
namespace Go.Proofs.Ytapabbpdfplpoaa
open Go.RowKit Go.CH Go.CH.Esc
open Go.ChangeMaps (setBlock)

set_option maxRecDepth 100000 in
set_option maxHeartbeats 4000000 in
theorem confirms_any {W : World} {raw u : Int} {r : Nat} (hr : 1 + raw % 4 = (r : Int)) (hraw : 0 ≤ raw ∧ raw ≤ 255) (hu : 0 ≤ u ∧ u ≤ 65535) {A : Option Addr} {n c : Nat} {l : List ActG} (hl : Acts W A n l) {a b : Int} (ha : 0 ≤ a ∧ a ≤ 255) (hb : 0 ≤ b ∧ b ≤ 255) :
    Calls Try.prog 8 #[.int .u8 raw, .int .u16 u, .slice A n c, .int .u8 a, .int .u8 b] W (BelowRet W (.bool true)) := by
  have KH := hide (head_any W)
  have HR := hide (show 1 ≤ r by omega)
  have KO := hide (fun w1 (hb : Below W.heap.size W w1) => st_open (c := c) emp_ok ((Run.begin W).below emp_ok hb) hr hraw hu hl)
  have hr4 : (r : Int) ≤ 4 := by omega
  obtain ⟨f, hf1, hf2, hf3⟩ := mod_nat ha HR.out
  obtain ⟨t, ht1, ht2, ht3⟩ := mod_nat hb HR.out
  have ha1 := ha.1
  have ha2 := ha.2
  have hb1 := hb.1
  have hb2 := hb.2
  have HWA := hide (show IntKind.i64.wrap a = a from IntWalk.i64_in _ (by omega))
  have HWB := hide (show IntKind.i64.wrap b = b from IntWalk.i64_in _ (by omega))
  have HF1 := hide hf1
  have HT1 := hide ht1
  have HR0 := hide (show ((r : Int) == 0) = false by have := HR.out; simp; omega)
  have HR1 := hide (show ¬ r = 0 by have := HR.out; omega)
  clear hl hraw hr hu ha hb hf3 ht3 hf1 ht1
  go_enter Try.func8, Try.ntmps8
  go_wp2_with fail
  refine KH.out.mono ?_
  rintro e w1 ⟨rfl, hb1⟩
  have K := hide (KO.out w1 hb1)
  clear hb1 KH KO
  go_wp2_with fail
  refine K.out.mono ?_
  rintro e w2 ⟨p, rfl, hS⟩
  have hlen : (doL (newG r u) (l.take 150)).acc.length = r := by rw [len_doL, len_new HR.out]
  generalize doL (newG r u) (l.take 150) = g at *
  have HLEN := hide hlen
  have HIF := hide (show g.is (f : Int) = true by unfold GM.is; rw [hlen]; simp; omega)
  have HIT := hide (show g.is (t : Int) = true by unfold GM.is; rw [hlen]; simp; omega)
  clear hlen K
  have hwa := HWA.out
  have hwb := HWB.out
  have hf1 := HF1.out
  have ht1 := HT1.out
  have hr0 := HR0.out
  have hr1 := HR1.out
  have HS := hide hS
  clear hS
  go_wp2_with fail
  go_quiet (fail)
  have hS := HS.out.below (below_drewN (Below.refl _ _) nq)
  clear hwa hwb hf1 ht1 hr0 hr1 HS
  by_cases hft : f = t
  · subst hft
    have HB := hide hS.bel
    clear hS
    go_wp2_with fail
    go_ret
    exact ⟨rfl, HB.out⟩
  · have hft1 : ¬ ((f : Int) = (t : Int)) := by omega
    have hft2 : ((f : Int) == (t : Int)) = false := by simpa using hft1
    have hp : g.pair (f : Int) (t : Int) = true := by simp [GM.pair, HIF.out, HIT.out, hft1]
    obtain ⟨c1, c2, c3, c4⟩ := confirm_plain hS.inv hp
    have C1 := hide c1
    have C2 := hide c2
    have HG := hide (show Gives (have_ (tellM (emptyM (tellM (emptyM g f t) f t) t f) t f) f) f t (tellM (emptyM (tellM (emptyM g f t) f t) t f) t f) 0 from ⟨c3, by simp, by rw [c4]; rfl⟩)
    clear hp c1 c2 c3 c4 hft
    have K10 := hide (st_empty hS (by omega) f t)
    clear hS
    go_wp2_with fail
    refine K10.out.mono ?_
    rintro e w10 ⟨rfl, hS⟩
    clear K10
    have K11 := hide (st_send hS (by omega) f t)
    rw [C1.out] at K11
    clear hS
    go_wp2_with fail
    refine K11.out.mono ?_
    rintro e w11 ⟨rfl, hS⟩
    clear K11
    have K12 := hide (st_empty hS (by omega) f t)
    rw [show emptyM (sendM (emptyM g f t) f t) f t = tellM (emptyM g f t) f t from rfl] at K12
    clear hS
    go_wp2_with fail
    refine K12.out.mono ?_
    rintro e w12 ⟨rfl, hS⟩
    clear K12
    generalize tellM (emptyM g f t) f t = g2 at *
    have K13 := hide (st_empty hS (by omega) t f)
    clear hS
    go_wp2_with fail
    refine K13.out.mono ?_
    rintro e w13 ⟨rfl, hS⟩
    clear K13
    have K14 := hide (st_send hS (by omega) t f)
    rw [C2.out] at K14
    clear hS
    go_wp2_with fail
    refine K14.out.mono ?_
    rintro e w14 ⟨rfl, hS⟩
    clear K14
    have K15 := hide (st_empty hS (by omega) t f)
    rw [show emptyM (sendM (emptyM g2 t f) t f) t f = tellM (emptyM g2 t f) t f from rfl] at K15
    clear hS
    go_wp2_with fail
    refine K15.out.mono ?_
    rintro e w15 ⟨rfl, hS⟩
    clear K15
    generalize tellM (emptyM g2 t f) t f = g4 at *
    have K16 := hide (st_have hS f)
    clear hS
    go_wp2_with fail
    refine K16.out.mono ?_
    rintro e w16 ⟨rfl, hS⟩
    clear K16
    have hv0 : 0 ≤ have_ g4 f ∧ have_ g4 f ≤ 1000000000 := by
      have hi := (pair_is HG.out.pair).1
      rw [have_is hi]
      exact (Inv.bnd hS.inv hi).1
    generalize have_ g4 f = h at *
    have hv1 := hv0.1
    have hv2 := hv0.2
    have HS := hide hS
    clear hS hv0
    go_wp2_with fail
    go_loopw [17] (fun i wr => ∃ (j : Nat) (g5 : GM), j ≤ 100 ∧ (j : Int) ≤ h ∧ i = .int .i64 j ∧ St u (150 + j) W emp p g5 wr ∧ Gives h f t g5 j) (fun i _ => 100 - (intOf i).toNat)
    case atStart => exact ⟨0, g4, by omega, by omega, rfl, HS.out, HG.out⟩
    case round =>
      obtain ⟨j, g5, hj, hjh, rfl, hS, hG⟩ := hrel
      clear HG HS
      by_cases hj1 : (j : Int) < 100
      · by_cases hj2 : (j : Int) < h
        · obtain ⟨e1, e2⟩ := gives_next hG (by omega) hj2
          have HE := hide e2
          have K17 := hide (st_give hS (by omega) f t 1)
          rw [e1] at K17
          generalize giveM g5 f t 1 = g6 at *
          clear e1 e2 hG
          clear hS
          go_wp2_with fail
          refine K17.out.mono ?_
          rintro e w17 ⟨rfl, hS⟩
          clear K17
          have HS := hide hS
          clear hS
          go_wp2_with fail
          go_roundw
          case rel => exact ⟨j + 1, g6, by omega, by omega, by go_num, HS.out, HE.out⟩
          case measure => simp [intOf]; omega
        · have hend := gives_end hG hj hjh (by omega)
          by_cases hh : h ≤ 100
          · rw [if_pos hh] at hend
            have K18 := hide (st_give hS (by omega) f t 1)
            rw [hend] at K18
            clear hend hG
            clear hS
            go_wp2_with fail
            refine K18.out.mono ?_
            rintro e w18 ⟨rfl, hS⟩
            clear K18
            have HB := hide hS.bel
            clear hS
            go_wp2_with fail
            go_ret
            exact ⟨rfl, HB.out⟩
          · rw [if_neg hh] at hend
            omega
      · have hend := gives_end hG hj hjh (by omega)
        by_cases hh : h ≤ 100
        · rw [if_pos hh] at hend
          have K19 := hide (st_give hS (by omega) f t 1)
          rw [hend] at K19
          clear hend hG
          clear hS
          go_wp2_with fail
          refine K19.out.mono ?_
          rintro e w19 ⟨rfl, hS⟩
          clear K19
          have HB := hide hS.bel
          clear hS
          go_wp2_with fail
          go_ret
          exact ⟨rfl, HB.out⟩
        · rw [if_neg hh] at hend
          have K20 := hide (st_give hS (by omega) f t 1)
          rw [hend] at K20
          clear hend hG
          clear hS
          go_wp2_with fail
          refine K20.out.mono ?_
          rintro e w20 ⟨rfl, hS⟩
          clear K20
          have HB := hide hS.bel
          clear hS
          go_wp2_with fail
          go_ret
          exact ⟨rfl, HB.out⟩
end Go.Proofs.Ytapabbpdfplpoaa
