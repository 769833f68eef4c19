/-
  Escrow: EscrowArrives, walked.
-/
import Derived.Test.YtapabbpdfplpoaaE30
import Derived.Test.YtapabbpdfplpoaaGC
set_option linter.unusedSimpArgs false
set_option linter.unusedVariables false
namespace Go.Proofs.Ytapabbpdfplpoaa
open Go.RowKit Go.CH Go.CH.Esc
open Go.ChangeMaps (setBlock)

set_option maxRecDepth 100000 in
set_option maxHeartbeats 4000000 in
theorem arrives_any {W : World} {raw u : Int} {r : Nat} (hr : 1 + raw % 4 = (r : Int)) (hraw : 0 ≤ raw ∧ raw ≤ 255) (hu : 0 ≤ u ∧ u ≤ 65535) {A : Option Addr} {n c : Nat} {l : List ActG} (hl : Acts W A n l) {a b : Int} (ha : 0 ≤ a ∧ a ≤ 255) (hb : 0 ≤ b ∧ b ≤ 255) :
    Calls Try.prog 6 #[.int .u8 raw, .int .u16 u, .slice A n c, .int .u8 a, .int .u8 b] W (BelowRet W (.bool true)) := by
  have KH := hide (head_any W)
  have HR := hide (show 1 ≤ r by omega)
  have KO := hide (fun w1 (hb : Below W.heap.size W w1) => st_open (c := c) emp_ok ((Run.begin W).below emp_ok hb) hr hraw hu hl)
  have hr4 : (r : Int) ≤ 4 := by omega
  obtain ⟨f, hf1, hf2, hf3⟩ := mod_nat ha HR.out
  obtain ⟨t, ht1, ht2, ht3⟩ := mod_nat hb HR.out
  have ha1 := ha.1
  have ha2 := ha.2
  have hb1 := hb.1
  have hb2 := hb.2
  have HWA := hide (show IntKind.i64.wrap a = a from IntWalk.i64_in _ (by omega))
  have HWB := hide (show IntKind.i64.wrap b = b from IntWalk.i64_in _ (by omega))
  have HF1 := hide hf1
  have HT1 := hide ht1
  have HR0 := hide (show ((r : Int) == 0) = false by have := HR.out; simp; omega)
  have HR1 := hide (show ¬ r = 0 by have := HR.out; omega)
  clear hl hraw hr hu ha hb hf3 ht3 hf1 ht1
  go_enter Try.func6, Try.ntmps6
  go_wp2_with fail
  refine KH.out.mono ?_
  rintro e w1 ⟨rfl, hb1⟩
  have K := hide (KO.out w1 hb1)
  clear hb1 KH KO
  go_wp2_with fail
  refine K.out.mono ?_
  rintro e w2 ⟨p, rfl, hS⟩
  have hlen : (doL (newG r u) (l.take 150)).acc.length = r := by rw [len_doL, len_new HR.out]
  generalize doL (newG r u) (l.take 150) = g at *
  have HLEN := hide hlen
  have HIF := hide (show g.is (f : Int) = true by unfold GM.is; rw [hlen]; simp; omega)
  have HIT := hide (show g.is (t : Int) = true by unfold GM.is; rw [hlen]; simp; omega)
  clear hlen K
  have hrn := HR.out
  by_cases hr2 : (r : Int) < 2
  · have HB := hide hS.bel
    clear hS hrn
    go_wp2_with fail
    go_ret
    exact ⟨rfl, HB.out⟩
  · have HS := hide hS
    clear hS hrn
    go_wp2_with fail
    go_loopw [14] (fun i wr => ∃ (j : Nat) (g1 : GM), j ≤ r ∧ i = .int .i64 j ∧ St u 150 W emp p g1 wr ∧ g1.acc.length = r ∧ ∀ x y : Nat, x < j → y < r → x ≠ y → Done g1 x y) (fun i _ => r - (intOf i).toNat)
    case atStart => exact ⟨0, g, by omega, rfl, HS.out, HLEN.out, fun x y hx => by omega⟩
    case round =>
      obtain ⟨j, g1, hj, rfl, hS, hL, hD⟩ := hrel
      clear HS HLEN HIF HIT
      by_cases hlt : j < r
      · have HS := hide hS
        have HL := hide hL
        have HD := hide hD
        clear hS hL hD
        go_wp2_with fail
        go_loopw [15] (fun i wr => ∃ (k : Nat) (g2 : GM), k ≤ r ∧ i = .int .i64 k ∧ St u 150 W emp p g2 wr ∧ g2.acc.length = r ∧ ∀ x y : Nat, (x < j ∧ y < r ∨ x = j ∧ y < k) → x ≠ y → Done g2 x y) (fun i _ => r - (intOf i).toNat)
        case atStart => exact ⟨0, g1, by omega, rfl, HS.out, HL.out, fun x y hx hne => HD.out x y (by omega) (by omega) hne⟩
        case round =>
          obtain ⟨k, g2, hk, rfl, hS, hL, hD⟩ := hrel
          clear HS HL HD
          by_cases hlt2 : k < r
          · by_cases hjk : j = k
            · subst hjk
              have HS := hide hS
              have HL := hide hL
              have HD := hide (show ∀ x y : Nat, (x < j ∧ y < r ∨ x = j ∧ y < j + 1) → x ≠ y → Done g2 x y from fun x y hx hne => hD x y (by omega) hne)
              clear hS hL hD
              go_wp2_with fail
              go_roundw
              case rel => exact ⟨j + 1, g2, by omega, by go_num, HS.out, HL.out, HD.out⟩
              case measure => simp [intOf]; omega
            · have hjk1 : ¬ ((j : Int) = (k : Int)) := by omega
              have hjk2 : ((j : Int) == (k : Int)) = false := by simpa using hjk1
              have hjk3 : ((j : Int) != (k : Int)) = true := by simpa using hjk1
              have hp : g2.pair (j : Int) (k : Int) = true := by unfold GM.pair GM.is; rw [hL]; simp; omega
              obtain ⟨d1, d2, d3⟩ := arr_step hS.inv hp
              have E1 := hide (empty_sendE hp)
              have HL := hide (d3.trans hL)
              have HD := hide (show ∀ x y : Nat, (x < j ∧ y < r ∨ x = j ∧ y < k + 1) → x ≠ y → Done (tellM (emptyM g2 j k) j k) x y from fun x y hx hne => by
                by_cases e : x = j ∧ y = k
                · obtain ⟨rfl, rfl⟩ := e; exact d1
                · exact d2 _ _ (hD x y (by omega) hne))
              clear hL hD d1 d2 d3 hp hjk
              have K82 := hide (st_empty hS (by omega) j k)
              clear hS
              go_wp2_with fail
              refine K82.out.mono ?_
              rintro e w82 ⟨rfl, hS⟩
              clear K82
              have K83 := hide (st_send hS (by omega) j k)
              rw [E1.out] at K83
              clear hS
              go_wp2_with fail
              refine K83.out.mono ?_
              rintro e w83 ⟨rfl, hS⟩
              clear K83
              have K84 := hide (st_empty hS (by omega) j k)
              rw [show emptyM (sendM (emptyM g2 j k) j k) j k = tellM (emptyM g2 j k) j k from rfl] at K84
              generalize tellM (emptyM g2 j k) j k = g3 at *
              clear hS
              go_wp2_with fail
              refine K84.out.mono ?_
              rintro e w84 ⟨rfl, hS⟩
              clear K84
              have HS := hide hS
              clear hS
              go_wp2_with fail
              go_roundw
              case rel => exact ⟨k + 1, g3, by omega, by go_num, HS.out, HL.out, HD.out⟩
              case measure => simp [intOf]; omega
          · obtain rfl : k = r := by omega
            have HS := hide hS
            have HL := hide hL
            have HD := hide (show ∀ x y : Nat, x < j + 1 → y < k → x ≠ y → Done g2 x y from fun x y hx hy hne => hD x y (by omega) hne)
            clear hS hL hD
            go_wp2_with fail
            go_roundw
            case rel => exact ⟨j + 1, g2, by omega, by go_num, HS.out, HL.out, HD.out⟩
            case measure => simp [intOf]; omega
      · obtain rfl : j = r := by omega
        have HAD := hide (show AllDone g1 from fun x y hp => by
          have hm := mem_keys.1 (pair_mem.1 hp)
          simp only [hL] at hm
          have := hD x.toNat y.toNat (by omega) (by omega) (by omega)
          rwa [show ((x.toNat : Nat) : Int) = x by omega, show ((y.toNat : Nat) : Int) = y by omega] at this)
        have HL := hide hL
        clear hD hL
        have K85 := hide (st_fly hS (by omega))
        rw [done_flyG HAD.out] at K85
        clear hS
        go_wp2_with fail
        refine K85.out.mono ?_
        rintro e w85 ⟨rfl, hS⟩
        clear K85
        have hwa := HWA.out
        have hwb := HWB.out
        have hf1 := HF1.out
        have ht1 := HT1.out
        have hr0 := HR0.out
        have hr1 := HR1.out
        have HS := hide hS
        clear hS
        go_wp2_with fail
        go_quiet (fail)
        have hS := HS.out.below (below_drewN (Below.refl _ _) nq)
        clear hwa hwb hf1 ht1 hr0 hr1 HS
        by_cases hft : f = t
        · subst hft
          have HB := hide hS.bel
          clear hS
          go_wp2_with fail
          go_ret
          exact ⟨rfl, HB.out⟩
        · have hft1 : ¬ ((f : Int) = (t : Int)) := by omega
          have hft2 : ((f : Int) == (t : Int)) = false := by simpa using hft1
          have hp : g1.pair (f : Int) (t : Int) = true := by unfold GM.pair GM.is; rw [HL.out]; simp; omega
          have hi := pair_is hp
          have hbt := (Inv.bnd hS.inv hi.2.1).1
          rw [← have_is hi.2.1] at hbt
          have HP := hide hp
          have HAR := hide (fun hu => arrive_plain hS.inv HAD.out hp hu)
          clear hp hi hft
          have K86 := hide (st_have hS f)
          generalize hhv : have_ g1 f = v0 at *
          have HHV := hide hhv
          clear hhv
          clear hS
          go_wp2_with fail
          refine K86.out.mono ?_
          rintro e w86 ⟨rfl, hS⟩
          clear K86
          by_cases hv0 : v0 = 0
          · subst hv0
            have HB := hide hS.bel
            clear hS
            go_wp2_with fail
            go_ret
            exact ⟨rfl, HB.out⟩
          · have hv1 : (v0 == 0) = false := by simpa using hv0
            obtain ⟨a1, a2, a3, a4, a5, a6, a7, a8⟩ := HAR.out hv0
            have A1 := hide a1
            have A2 := hide a2
            have A3 := hide a3
            have A4 := hide a4
            have A5 := hide a5
            have A6 := hide a6
            have A7 := hide a7
            have A8 := hide a8
            clear a1 a2 a3 a4 a5 a6 a7 a8 HAR
            have K87 := hide (st_have hS t)
            generalize hht : have_ g1 t = vt at *
            have HHT := hide hht
            have hbt1 := hbt.1
            have hbt2 := hbt.2
            clear hht hbt
            clear hS
            go_wp2_with fail
            refine K87.out.mono ?_
            rintro e w87 ⟨rfl, hS⟩
            clear K87
            have K88 := hide (st_send hS (by omega) t f)
            rw [A1.out] at K88
            clear hS
            go_wp2_with fail
            refine K88.out.mono ?_
            rintro e w88 ⟨rfl, hS⟩
            clear K88
            have K89 := hide (st_empty hS (by omega) t f)
            rw [show emptyM (sendM g1 t f) t f = tellM g1 t f from rfl] at K89
            generalize tellM g1 t f = g2 at *
            clear hS
            go_wp2_with fail
            refine K89.out.mono ?_
            rintro e w89 ⟨rfl, hS⟩
            clear K89
            have K90 := hide (st_give hS (by omega) f t 1)
            rw [A2.out] at K90
            generalize giveM g2 f t 1 = g3 at *
            clear hS
            go_wp2_with fail
            refine K90.out.mono ?_
            rintro e w90 ⟨rfl, hS⟩
            clear K90
            have K91 := hide (st_fly hS (by omega))
            rw [A3.out] at K91
            clear hS
            go_wp2_with fail
            refine K91.out.mono ?_
            rintro e w91 ⟨rfl, hS⟩
            clear K91
            have K92 := hide (st_have hS t)
            rw [A4.out] at K92
            clear hS
            go_wp2_with fail
            refine K92.out.mono ?_
            rintro e w92 ⟨rfl, hS⟩
            clear K92
            have K93 := hide (st_send hS (by omega) f t)
            rw [A5.out] at K93
            generalize sendM g3 f t = g4 at *
            clear hS
            go_wp2_with fail
            refine K93.out.mono ?_
            rintro e w93 ⟨rfl, hS⟩
            clear K93
            have K94 := hide (st_del hS (by omega) f t false false)
            rw [A6.out] at K94
            generalize delM g4 f t false false = g5 at *
            clear hS
            go_wp2_with fail
            refine K94.out.mono ?_
            rintro e w94 ⟨rfl, hS⟩
            clear K94
            have K95 := hide (st_fly hS (by omega))
            rw [A7.out] at K95
            clear hS
            go_wp2_with fail
            refine K95.out.mono ?_
            rintro e w95 ⟨rfl, hS⟩
            clear K95
            have K96 := hide (st_have hS t)
            rw [A8.out] at K96
            clear hS
            go_wp2_with fail
            refine K96.out.mono ?_
            rintro e w96 ⟨rfl, hS⟩
            clear K96
            have HB := hide hS.bel
            clear hS
            go_wp2_with fail
            go_ret
            exact ⟨rfl, HB.out⟩
end Go.Proofs.Ytapabbpdfplpoaa
