/-
  Escrow: EscrowConserves and EscrowOnce, walked.
-/
import Derived.Test.YtapabbpdfplpoaaE28
set_option linter.unusedSimpArgs false
set_option linter.unusedVariables false
namespace Go.Proofs.Ytapabbpdfplpoaa
open Go.RowKit Go.CH Go.CH.Esc
open Go.ChangeMaps (setBlock)

theorem have_at {g : GM} {j : Nat} (hj : j < g.acc.length) : have_ g (j : Int) = (g.acc.map Acc.u)[j]'(by simpa using hj) := by
  have hr : g.is (j : Int) = true := by simp [GM.is, hj]
  unfold have_
  rw [if_pos hr, at_get hr]; simp
theorem have_out {g : GM} {r : Int} (h : r < 0 ∨ (g.acc.length : Int) ≤ r) : have_ g r = 0 := by
  unfold have_
  rw [if_neg]
  simp [GM.is]; omega
theorem Inv.nonneg {g : GM} {U : Int} (h : Inv g U) : 0 ≤ flyG g ∧ 0 ≤ spentG g ∧ ∀ x ∈ g.acc.map Acc.u, 0 ≤ x :=
  ⟨isum_nonneg (fun y hy => by
    obtain ⟨k, hk, rfl⟩ := List.mem_map.1 hy
    exact fly_nonneg (h.pr k.1 k.2 (pair_mem.2 hk))), isum_nonneg (fun y hy => by obtain ⟨a, ha, rfl⟩ := List.mem_map.1 hy; exact (h.acc a ha).2), fun x hx => by obtain ⟨a, ha, rfl⟩ := List.mem_map.1 hx; exact (h.acc a ha).1⟩
set_option maxRecDepth 100000 in
set_option maxHeartbeats 3200000 in
theorem conserves_any {W : World} {raw u : Int} {r : Nat} (hr : 1 + raw % 4 = (r : Int)) (hraw : 0 ≤ raw ∧ raw ≤ 255) (hu : 0 ≤ u ∧ u ≤ 65535) {A : Option Addr} {n c : Nat} {l : List ActG} (hl : Acts W A n l) :
    Calls Try.prog 4 #[.int .u8 raw, .int .u16 u, .slice A n c] W (BelowRet W (.bool true)) := by
  have KH := hide (head_any W)
  have HR := hide (show 1 ≤ r by omega)
  have KO := hide (fun w1 (hb : Below W.heap.size W w1) => st_open (c := c) emp_ok ((Run.begin W).below emp_ok hb) hr hraw hu hl)
  have hu1 := hu.1
  have hu2 := hu.2
  have hr4 : (r : Int) ≤ 4 := by omega
  clear hl hraw hr hu
  go_enter Try.func4, Try.ntmps4
  go_wp2_with fail
  refine KH.out.mono ?_
  rintro e w1 ⟨rfl, hb1⟩
  have K := hide (KO.out w1 hb1)
  clear hb1 KH KO
  go_wp2_with fail
  refine K.out.mono ?_
  rintro e w2 ⟨p, rfl, hS⟩
  have hlen : (doL (newG r u) (l.take 150)).acc.length = r := by rw [len_doL, len_new HR.out]
  generalize doL (newG r u) (l.take 150) = g at *
  obtain ⟨hf0, hs0, hA0⟩ := Inv.nonneg hS.inv
  have htot := hS.inv.tot
  have HT := hide htot
  have HA := hide hA0
  have h0 := isum_nonneg hA0
  have hle : flyG g + spentG g ≤ u := by unfold haveG at htot; omega
  have K1 := hide (st_fly hS (by omega))
  clear hS K hA0 htot h0
  have HLEN := hide hlen
  clear hlen
  go_wp2_with fail
  refine K1.out.mono ?_
  rintro e w3 ⟨rfl, hS⟩
  have K2 := hide (st_spent hS)
  clear hS K1
  go_wp2_with fail
  refine K2.out.mono ?_
  rintro e w4 ⟨rfl, hS⟩
  have K3 := hide (st_fly hS (by omega))
  clear hS K2
  go_wp2_with fail
  refine K3.out.mono ?_
  rintro e w5 ⟨rfl, hS⟩
  have K4 := hide (st_spent hS)
  clear hS K3
  go_wp2_with fail
  refine K4.out.mono ?_
  rintro e w6 ⟨rfl, hS⟩
  have HS := hide hS
  clear hS K4
  go_wp2_with fail
  go_loopw [10, 11] (fun s i wr => ∃ j : Nat, j ≤ r ∧ i = .int .i64 j ∧ s = .int .i64 (flyG g + spentG g + isum ((g.acc.map Acc.u).take j)) ∧ St u 150 W emp p g wr) (fun _ i _ => r - (intOf i).toNat)
  case atStart => exact ⟨0, Nat.zero_le _, rfl, by simp [isum], HS.out⟩
  case round =>
    obtain ⟨j, hj, rfl, rfl, hS⟩ := hrel
    by_cases hlt : j < r
    · have hjl : j < g.acc.length := by rw [HLEN.out]; exact hlt
      have hh := have_at hjl
      have hs := isum_take (g.acc.map Acc.u) j (by simpa using hjl)
      have hb1 := isum_take_le HA.out j
      have hb2 := isum_take_le HA.out (j + 1)
      have hx : 0 ≤ (g.acc.map Acc.u)[j]'(by simpa using hjl) := HA.out _ (List.getElem_mem _)
      have ht := HT.out
      unfold haveG at ht
      rw [← hh] at hs hx
      have K1 := hide (st_have hS (j : Int))
      generalize hxx : have_ g (j : Int) = x at *
      have HX := hide hxx
      have hb3 : flyG g + spentG g + isum ((g.acc.map Acc.u).take j) + x ≤ 65535 := by omega
      have hb4 : 0 ≤ flyG g + spentG g + isum ((g.acc.map Acc.u).take j) := by omega
      have HE := hide (show flyG g + spentG g + isum ((g.acc.map Acc.u).take (j + 1)) = flyG g + spentG g + isum ((g.acc.map Acc.u).take j) + x by omega)
      clear hs hb1 hb2 ht hS hh hjl hxx
      generalize flyG g + spentG g + isum ((g.acc.map Acc.u).take j) = v at *
      go_wp2_with fail
      refine K1.out.mono ?_
      rintro e w7 ⟨rfl, hS⟩
      have K2 := hide (st_have hS (j : Int))
      rw [HX.out] at K2
      clear hS K1
      go_wp2_with fail
      refine K2.out.mono ?_
      rintro e w8 ⟨rfl, hS⟩
      have HS2 := hide hS
      clear hS K2
      go_wp2_with fail
      go_roundw
      case rel => exact ⟨j + 1, by omega, by go_num, by rw [HE.out], HS2.out⟩
      case measure => simp [intOf]; omega
    · obtain rfl : j = r := by omega
      have hv : flyG g + spentG g + isum ((g.acc.map Acc.u).take j) = u := by
        have ht := HT.out
        unfold haveG at ht
        rw [List.take_of_length_le (by simp [HLEN.out])]
        omega
      rw [hv]
      have K1 := hide (st_have hS (j : Int))
      rw [have_out (.inr (by rw [HLEN.out]; omega))] at K1
      clear hS hv hle
      go_wp2_with fail
      refine K1.out.mono ?_
      rintro e w7 ⟨rfl, hS⟩
      have K2 := hide (st_have hS (-1))
      rw [have_out (.inl (by omega))] at K2
      clear hS K1
      go_wp2_with fail
      refine K2.out.mono ?_
      rintro e w8 ⟨rfl, hS⟩
      have HB := hide hS.bel
      clear hS K2
      go_wp2_with fail
      go_ret
      exact ⟨rfl, HB.out⟩
end Go.Proofs.Ytapabbpdfplpoaa
