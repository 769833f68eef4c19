/-
  Escrow: EscrowOnce, walked.
-/
import Derived.Test.YtapabbpdfplpoaaE29
set_option linter.unusedSimpArgs false
set_option linter.unusedVariables false
namespace Go.Proofs.Ytapabbpdfplpoaa
open Go.RowKit Go.CH Go.CH.Esc
open Go.ChangeMaps (setBlock)

theorem mod_nat {a : Int} {r : Nat} (ha : 0 ≤ a ∧ a ≤ 255) (hr : 1 ≤ r) : ∃ f : Nat, Int.tmod a r = (f : Int) ∧ f < r ∧ a % (r : Int) = (f : Int) := by
  refine ⟨(a % (r : Int)).toNat, ?_, ?_, ?_⟩
  · rw [Int.tmod_eq_emod_of_nonneg ha.1]
    have := Int.emod_nonneg a (show (r : Int) ≠ 0 by omega); omega
  · have := Int.emod_nonneg a (show (r : Int) ≠ 0 by omega)
    have := Int.emod_lt_of_pos a (show (0 : Int) < r by omega); omega
  · have := Int.emod_nonneg a (show (r : Int) ≠ 0 by omega); omega
set_option maxRecDepth 100000 in
set_option maxHeartbeats 3200000 in
theorem once_any {W : World} {raw u : Int} {r : Nat} (hr : 1 + raw % 4 = (r : Int)) (hraw : 0 ≤ raw ∧ raw ≤ 255) (hu : 0 ≤ u ∧ u ≤ 65535) {A : Option Addr} {n c : Nat} {l : List ActG} (hl : Acts W A n l) {a b : Int} (ha : 0 ≤ a ∧ a ≤ 255) (hb : 0 ≤ b ∧ b ≤ 255) :
    Calls Try.prog 5 #[.int .u8 raw, .int .u16 u, .slice A n c, .int .u8 a, .int .u8 b] W (BelowRet W (.bool true)) := by
  have KH := hide (head_any W)
  have HR := hide (show 1 ≤ r by omega)
  have KO := hide (fun w1 (hb : Below W.heap.size W w1) => st_open (c := c) emp_ok ((Run.begin W).below emp_ok hb) hr hraw hu hl)
  have hr4 : (r : Int) ≤ 4 := by omega
  have hr0 : ((r : Int) == 0) = false := by simp; omega
  obtain ⟨f, hf1, hf2, hf3⟩ := mod_nat ha HR.out
  obtain ⟨t, ht1, ht2, ht3⟩ := mod_nat hb HR.out
  have ha1 := ha.1
  have ha2 := ha.2
  have hb1 := hb.1
  have hb2 := hb.2
  have hwa : IntKind.i64.wrap a = a := IntWalk.i64_in _ (by omega)
  have hwb : IntKind.i64.wrap b = b := IntWalk.i64_in _ (by omega)
  have hr1 : ¬ r = 0 := by omega
  clear hl hraw hr hu ha hb hf3 ht3
  go_enter Try.func5, Try.ntmps5
  go_wp2_with fail
  refine KH.out.mono ?_
  rintro e w1 ⟨rfl, hb1⟩
  have K := hide (KO.out w1 hb1)
  clear hb1 KH KO
  go_wp2_with fail
  refine K.out.mono ?_
  rintro e w2 ⟨p, rfl, hS⟩
  have hlen : (doL (newG r u) (l.take 150)).acc.length = r := by rw [len_doL, len_new HR.out]
  generalize doL (newG r u) (l.take 150) = g at *
  have HS := hide hS
  have HLEN := hide hlen
  clear hlen hS K
  go_wp2_with fail
  go_quiet (fail)
  have hS := HS.out.below (below_drewN (Below.refl _ _) nq)
  have HDE := hide (fun hd => cov_start (g := g) (f := (f : Int)) (t := (t : Int)) hd)
  have K1 := hide (st_del hS (by omega) f t false true)
  have HB := hide hS.bel
  have hNN : ((g.pr ((f : Int), (t : Int))).ms.length ≤ 100 ∨ delE g f t = false) := by
    cases hd : delE g f t with
    | false => exact .inr rfl
    | true => exact .inl (hS.inv.pr _ _ (delE_pair hd).1).msl
  have HNN := hide hNN
  clear hS hNN HS hf1 ht1 hwa hwb hr0 hr1
  generalize w2.drewN nq = w3 at *
  cases hd : delE g f t with
  | false =>
    rw [hd] at K1
    clear hd
    go_wp2_with fail
    refine K1.out.mono ?_
    rintro e w4 ⟨rfl, hS⟩
    have HB2 := hide hS.bel
    clear hS K1
    go_wp2_with fail
    go_ret
    exact ⟨rfl, HB2.out⟩
  | true =>
    rw [hd] at K1
    obtain ⟨c1, c2⟩ := cov_step (HDE.out hd)
    have HN2 : Hid ((g.pr ((f : Int), (t : Int))).ms.length ≤ 100) := by
      rcases HNN.out with h | h
      · exact hide h
      · rw [hd] at h; cases h
    have HC := hide (show Cov (delM g f t false true) f t 1 ∧ ((delM g f t false true).pr ((f : Int), (t : Int))).ms.length ≤ 100 by rw [c2]; exact ⟨c1, HN2.out⟩)
    generalize delM g f t false true = g1 at *
    clear hd c1 c2 HN2 HNN HDE
    go_wp2_with fail
    refine K1.out.mono ?_
    rintro e w4 ⟨rfl, hS⟩
    have HS := hide hS
    clear hS K1
    go_wp2_with fail
    go_loopw [17] (fun i wr => ∃ (j : Nat) (g2 : GM), j ≤ 100 ∧ i = .int .i64 j ∧ St u 150 W emp p g2 wr ∧ Cov g2 f t (1 + j) ∧ (g2.pr ((f : Int), (t : Int))).ms.length ≤ 100) (fun i _ => 100 - (intOf i).toNat)
    case atStart => exact ⟨0, g1, by omega, rfl, HS.out, HC.out⟩
    case round =>
      obtain ⟨j, g2, hj, rfl, hS, hC, hN⟩ := hrel
      by_cases hlt : j < 100
      · have K1 := hide (st_del hS (by omega) f t false true)
        rw [hC.1] at K1
        obtain ⟨c1, c2⟩ := cov_step hC
        have HC2 := hide (show Cov (delM g2 f t false true) f t (1 + (j + 1)) ∧ ((delM g2 f t false true).pr ((f : Int), (t : Int))).ms.length ≤ 100 by rw [c2]; exact ⟨c1, hN⟩)
        generalize delM g2 f t false true = g3 at *
        have hlt1 : (j : Int) < 100 := by omega
        clear hS hC hN c1 c2 HC HS
        go_wp2_with fail
        refine K1.out.mono ?_
        rintro e w5 ⟨rfl, hS⟩
        have HS2 := hide hS
        clear hS K1
        go_wp2_with fail
        go_roundw
        case rel => exact ⟨j + 1, g3, by omega, by go_num, HS2.out, HC2.out.1, HC2.out.2⟩
        case measure => simp [intOf]; omega
      · obtain rfl : j = 100 := by omega
        have K1 := hide (st_have hS t)
        have HC3 := hide hC
        have HN3 := hide hN
        have hlt1 : ¬ (((100 : Nat) : Int) < 100) := by omega
        clear hS hC hN HC HS
        go_wp2_with fail
        refine K1.out.mono ?_
        rintro e w5 ⟨rfl, hS⟩
        have K2 := hide (st_fly hS (by omega))
        clear hS K1
        go_wp2_with fail
        refine K2.out.mono ?_
        rintro e w6 ⟨rfl, hS⟩
        have HS2 := hide hS
        clear hS K2
        generalize hh : have_ g2 t = hv at *
        generalize hfl : flyG g2 = fv at *
        have HH := hide hh
        have HFL := hide hfl
        clear hh hfl
        go_wp2_with fail
        go_loopw [20] (fun i wr => ∃ (j : Nat) (g3 : GM), j ≤ 100 ∧ i = .int .i64 j ∧ St u 150 W emp p g3 wr ∧ Cov g3 f t (101 + j) ∧ (g3.pr ((f : Int), (t : Int))).ms.length ≤ 100 ∧ have_ g3 t = hv ∧ flyG g3 = fv) (fun i _ => 100 - (intOf i).toNat)
        case atStart => exact ⟨0, g2, by omega, rfl, HS2.out, HC3.out, HN3.out, HH.out, HFL.out⟩
        case round =>
          obtain ⟨k, g3, hk, rfl, hS, hC, hN, hh, hfl⟩ := hrel
          by_cases hlt : k < 100
          · have K1 := hide (st_del hS (by omega) f t false true)
            rw [hC.1] at K1
            obtain ⟨c1, c2⟩ := cov_step hC
            obtain ⟨d1, d2⟩ := cov_still hC (by omega)
            rw [hh] at d1
            rw [hfl] at d2
            have HD1 := hide d1
            have HD2 := hide d2
            have HC2 := hide (show Cov (delM g3 f t false true) f t (101 + (k + 1)) ∧ ((delM g3 f t false true).pr ((f : Int), (t : Int))).ms.length ≤ 100 by rw [c2]; exact ⟨c1, hN⟩)
            generalize delM g3 f t false true = g4 at *
            have hlt1 : (k : Int) < 100 := by omega
            clear hS hC hN c1 c2 d1 d2 hh hfl HS2 HC3 HN3 HH HFL
            go_wp2_with fail
            refine K1.out.mono ?_
            rintro e w7 ⟨rfl, hS⟩
            have K2 := hide (st_have hS t)
            rw [HD1.out] at K2
            clear hS K1
            go_wp2_with fail
            refine K2.out.mono ?_
            rintro e w8 ⟨rfl, hS⟩
            have K3 := hide (st_fly hS (by omega))
            rw [HD2.out] at K3
            clear hS K2
            go_wp2_with fail
            refine K3.out.mono ?_
            rintro e w9 ⟨rfl, hS⟩
            have HS3 := hide hS
            clear hS K3
            go_wp2_with fail
            go_roundw
            case rel => exact ⟨k + 1, g4, by omega, by go_num, HS3.out, HC2.out.1, HC2.out.2, HD1.out, HD2.out⟩
            case measure => simp [intOf]; omega
          · obtain rfl : k = 100 := by omega
            have HB3 := hide hS.bel
            have hlt1 : ¬ (((100 : Nat) : Int) < 100) := by omega
            clear hS hC hN hh hfl HS2
            go_wp2_with fail
            go_ret
            exact ⟨rfl, HB3.out⟩
end Go.Proofs.Ytapabbpdfplpoaa
