/-
  Escrow: Deliver, whole; Spent; nothing can be done with a nil escrow.
-/
import Derived.Test.YtapabbpdfplpoaaE21
set_option linter.unusedSimpArgs false
set_option linter.unusedVariables false
namespace Go.Proofs.Ytapabbpdfplpoaa
open Go.RowKit Go.CH Go.CH.Esc
open Go.ChangeMaps (setBlock)

theorem del_any_ {w : World} {F : Nat → Prop} {g : GM} {p : Nat} (h : EscO g p w F) {U : Int} (hI : Inv g U) (hl : HB g 1000000) (f t : Int) (lost again : Bool) :
    Calls Try.prog 29 #[.pointer (some ⟨p, 0, none⟩), .int .i64 f, .int .i64 t, .bool lost, .bool again] w (EPost w F (.bool (delE g f t)) (delM g f t lost again) p) := by
  cases hd : delE g f t with
  | false =>
    have e : delM g f t lost again = g := by unfold delM; rw [if_neg (by simp [hd])]
    rw [e]; exact del_no h f t lost again hd
  | true =>
    cases lost with
    | true =>
      have e : delM g f t true again = popM g f t again := by unfold delM; rw [if_pos hd]; rfl
      rw [e]
      cases again with
      | true => exact del_lost_yes h hI f t hd
      | false => exact del_lost_no h hI f t hd
    | false =>
      cases again with
      | true => exact del_again h hI hl f t hd
      | false => exact del_once h hI hl f t hd
theorem have_esc {w : World} {F : Nat → Prop} {g : GM} {p : Nat} (h : EscO g p w F) {U : Int} (hI : Inv g U) (r : Int) : Calls Try.prog 26 #[.pointer (some ⟨p, 0, none⟩), .int .i64 r] w (Quiet w (.int .i64 (have_ g r))) := by
  obtain ⟨s, hS⟩ := h
  exact have_any hS.read hI.nb r
set_option maxHeartbeats 400000 in
theorem spend_nil {w : World} (r k : Int) (hk : 1 ≤ k ∧ k ≤ 1000) : Calls Try.prog 33 #[.pointer none, .int .i64 r, .int .i64 k] w (Quiet w (.int .i64 1)) := by
  have H := fun d fv => hide (change_no (at_nil r w) d fv)
  have t1 : IntKind.i64.wrap (-k) = -k := IntWalk.i64_in _ (by omega)
  have H2 := H (-k) (.func (.func 73) #[] #[])
  clear H
  go_enter Try.func33, Try.ntmps33
  go_wp2_with fail
  refine H2.out.mono ?_
  rintro e w' ⟨rfl, rfl⟩
  go_wp2
  go_ret
  exact ⟨rfl, rfl⟩
set_option maxHeartbeats 400000 in
theorem del_nil {w : World} (f t : Int) (lost again : Bool) : Calls Try.prog 29 #[.pointer none, .int .i64 f, .int .i64 t, .bool lost, .bool again] w (Quiet w (.bool false)) := by
  have H1 := hide (line_nil f t w)
  have H2 := hide (line_nil t f w)
  go_enter Try.func29, Try.ntmps29
  go_wp2_with fail
  refine H1.out.mono ?_
  rintro e w' ⟨rfl, rfl⟩
  go_wp2_with fail
  refine H2.out.mono ?_
  rintro e w' ⟨rfl, rfl⟩
  go_wp2
  go_ret
  exact ⟨rfl, rfl⟩
theorem isum_take (L : List Int) (j : Nat) (hj : j < L.length) : isum (L.take (j + 1)) = isum (L.take j) + L[j] := by
  rw [List.take_succ_eq_append_getElem hj, isum_append]; simp [isum]
theorem isum_take_le {L : List Int} (h : ∀ x ∈ L, 0 ≤ x) (j : Nat) : 0 ≤ isum (L.take j) ∧ isum (L.take j) ≤ isum L := by
  have h1 : 0 ≤ isum (L.take j) := isum_nonneg (fun x hx => h x (List.mem_of_mem_take hx))
  have h2 : 0 ≤ isum (L.drop j) := isum_nonneg (fun x hx => h x (List.mem_of_mem_drop hx))
  have h3 : isum L = isum (L.take j) + isum (L.drop j) := by rw [← isum_append, List.take_append_drop]
  omega
set_option maxHeartbeats 1600000 in
theorem spent_any {w : World} {F : Nat → Prop} {g : GM} {p : Nat} (h : EscO g p w F) {U : Int} (hI : Inv g U) : Calls Try.prog 22 #[.pointer (some ⟨p, 0, none⟩)] w (BelowRet w (.int .i64 (spentG g))) := by
  obtain ⟨s, hS⟩ := h
  have HI := hide hI
  obtain ⟨b, hb⟩ := hS.read.addr (by have := hI.nb; omega)
  have hR := hS.read
  have hc0 := hR.c0
  rw [hb] at hc0
  have HR := hide (fun w' (hb : Below w.heap.size w w') => EscR.below hS hb)
  have HB := hide hb
  have hn8 := hI.nb.2
  have hsp : ∀ x ∈ g.acc.map Acc.s, 0 ≤ x := fun x hx => by obtain ⟨a, ha, rfl⟩ := List.mem_map.1 hx; exact (hI.acc a ha).2
  have hle : isum (g.acc.map Acc.s) ≤ 1000000000 := by
    have h4 : 0 ≤ haveG g := isum_nonneg (fun y hy => by obtain ⟨a, ha, rfl⟩ := List.mem_map.1 hy; exact (hI.acc a ha).1)
    have h6 : 0 ≤ flyG g := isum_nonneg (fun y hy => by
      obtain ⟨k, hk, rfl⟩ := List.mem_map.1 hy
      exact fly_nonneg (hI.pr k.1 k.2 (pair_mem.2 hk)))
    have h7 := hI.tot
    have h8 := hI.U
    unfold spentG at h7
    omega
  have HSP := hide hsp
  clear hS hR hb hI hsp
  go_enter Try.func22, Try.ntmps22
  go_wp2
  go_loopw [3, 13] (fun n i wr => ∃ j : Nat, j ≤ g.acc.length ∧ i = .int .i64 j ∧ n = .int .i64 (isum ((g.acc.map Acc.s).take j)) ∧ Below w.heap.size w wr) (fun _ i _ => g.acc.length - (intOf i).toNat)
  case atStart => exact ⟨0, Nat.zero_le _, rfl, rfl, Below.refl _ _⟩
  case round =>
    obtain ⟨j, hj, rfl, rfl, hbel⟩ := hrel
    by_cases hlt : j < g.acc.length
    · have hr : g.is (j : Int) = true := by simp [GM.is, hlt]
      obtain ⟨a0, a1, a2⟩ := (HR.out wr hbel).accs b HB.out j hr
      simp only [Int.toNat_natCast] at a0 a1 a2
      have hs := isum_take (g.acc.map Acc.s) j (by simpa using hlt)
      have hb1 := isum_take_le HSP.out j
      have hb2 := isum_take_le HSP.out (j + 1)
      have hgs : (g.acc.map Acc.s)[j]'(by simpa using hlt) = (g.at_ (j : Int)).s := by rw [at_get hr]; simp
      rw [hgs] at hs
      generalize (g.at_ (j : Int)).s = x at *
      generalize (g.at_ (j : Int)).u = y at *
      generalize (g.at_ (j : Int)).rev = z at *
      have hx : 0 ≤ isum ((g.acc.map Acc.s).take j) + x ∧ isum ((g.acc.map Acc.s).take j) + x ≤ 1000000000 := by omega
      have HS := hide hs
      have HBEL := hide hbel
      have c0 : wr.cell? ⟨p, 0, none⟩ = some (.slice (some ⟨b, 0, none⟩) g.acc.length s.c) := by rw [hbel.cell (World.block_lt_of_cell? _ _ hc0)]; exact hc0
      clear hs hbel hgs hc0
      have hb3 := hb1.1
      have hb4 := hb1.2
      clear hb1 hb2
      generalize isum ((g.acc.map Acc.s).take j) = v at *
      go_wp2
      go_roundw
      case rel => exact ⟨j + 1, by omega, by go_num, by rw [HS.out], HBEL.out.alloc HBEL.out.size _⟩
      case measure => simp [intOf]; omega
    · have hjn : j = g.acc.length := by omega
      subst hjn
      have hv : isum ((g.acc.map Acc.s).take g.acc.length) = spentG g := by rw [List.take_of_length_le (by simp)]; rfl
      rw [hv]
      have HBEL := hide hbel
      clear hbel hv hle hn8
      go_wp2
      go_ret
      exact ⟨rfl, HBEL.out⟩
end Go.Proofs.Ytapabbpdfplpoaa
