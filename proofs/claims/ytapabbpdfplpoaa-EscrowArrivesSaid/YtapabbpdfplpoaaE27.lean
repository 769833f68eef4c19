/-
  Escrow: open; the operations that come in.
-/
import Derived.Test.YtapabbpdfplpoaaE26
set_option linter.unusedSimpArgs false
set_option linter.unusedVariables false
namespace Go.Proofs.Ytapabbpdfplpoaa
open Go.RowKit Go.CH Go.CH.Esc
open Go.ChangeMaps (setBlock)

def actL (x : ActG) : List Value := [.int .i64 x.k, .int .i64 x.a, .int .i64 x.b, .int .i64 x.u, .bool x.lost, .bool x.again]
theorem actL_len (x : ActG) : (actL x).length = 6 := rfl
def actOk (x : ActG) : Prop := (-9223372036854775808 ≤ x.u ∧ x.u ≤ 9223372036854775807) ∧ (-9223372036854775808 ≤ x.a ∧ x.a ≤ 9223372036854775807) ∧ (-9223372036854775808 ≤ x.b ∧ x.b ≤ 9223372036854775807)
/-- The slice holds these operations. -/
structure Acts (w : World) (A : Option Addr) (n : Nat) (l : List ActG) : Prop where
  len : l.length = n
  src : Src w A n 6 (l.flatMap actL)
  ok : ∀ x ∈ l, actOk x
theorem Acts.run {w0 W : World} {A : Option Addr} {n : Nat} {l : List ActG} (h : Acts w0 A n l) {O : Own} (hr : Run (fun _ => False) w0 O W) : Acts W A n l := ⟨h.len, hr.src0 h.src, h.ok⟩
/-- The j-th operation's cells. -/
theorem Acts.at_ {w : World} {A : Option Addr} {n : Nat} {l : List ActG} (h : Acts w A n l) {j : Nat} (hj : j < n) : ∃ b o, A = some ⟨b, o, none⟩ ∧
    w.cell? ⟨b, o + j * 6, none⟩ = some (.int .i64 (l[j]'(by rw [h.len]; exact hj)).k) ∧ w.cell? ⟨b, o + j * 6 + 1, none⟩ = some (.int .i64 (l[j]'(by rw [h.len]; exact hj)).a) ∧ w.cell? ⟨b, o + j * 6 + 2, none⟩ = some (.int .i64 (l[j]'(by rw [h.len]; exact hj)).b) ∧ w.cell? ⟨b, o + j * 6 + 3, none⟩ = some (.int .i64 (l[j]'(by rw [h.len]; exact hj)).u) ∧ w.cell? ⟨b, o + j * 6 + 4, none⟩ = some (.bool (l[j]'(by rw [h.len]; exact hj)).lost) ∧ w.cell? ⟨b, o + j * 6 + 5, none⟩ = some (.bool (l[j]'(by rw [h.len]; exact hj)).again) := by
  obtain ⟨b, o, hA, hc⟩ := h.src.open_ (by omega) (by omega)
  have hjl : j < l.length := by rw [h.len]; exact hj
  have hg := fun i (hi : i < 6) => flat_get actL 6 actL_len hjl i hi
  refine ⟨b, o, hA, ?_, ?_, ?_, ?_, ?_, ?_⟩
  · have := hc (j * 6) _ (by have := hg 0 (by omega); simpa [actL] using this); simpa using this
  · have := hc (j * 6 + 1) _ (by have := hg 1 (by omega); simpa [actL] using this); simpa [Nat.add_assoc] using this
  · have := hc (j * 6 + 2) _ (by have := hg 2 (by omega); simpa [actL] using this); simpa [Nat.add_assoc] using this
  · have := hc (j * 6 + 3) _ (by have := hg 3 (by omega); simpa [actL] using this); simpa [Nat.add_assoc] using this
  · have := hc (j * 6 + 4) _ (by have := hg 4 (by omega); simpa [actL] using this); simpa [Nat.add_assoc] using this
  · have := hc (j * 6 + 5) _ (by have := hg 5 (by omega); simpa [actL] using this); simpa [Nat.add_assoc] using this
theorem doL_next (g : GM) (l : List ActG) (j : Nat) (hj : j < l.length) : doL g (l.take (j + 1)) = doM (doL g (l.take j)) l[j] := by
  rw [List.take_succ_eq_append_getElem hj, doL_snoc]
def OpenRet (w0 : World) (X : Own) (r : Nat) (u : Int) (l : List ActG) (e : Ending) (W : World) : Prop := ∃ p, e = .returned (.tuple #[.pointer (some ⟨p, 0, none⟩), .int .i64 (r : Int)]) ∧ St u 150 w0 X p (doL (newG r u) (l.take 150)) W
set_option maxRecDepth 100000 in
set_option maxHeartbeats 3200000 in
theorem st_open {w0 W : World} {X : Own} (hX : X.Ok) (h : Run (fun _ => False) w0 X W) {raw u : Int} {r : Nat} (hr : 1 + raw % 4 = (r : Int)) (hraw : 0 ≤ raw ∧ raw ≤ 255) (hu : 0 ≤ u ∧ u ≤ 65535) {A : Option Addr} {n c : Nat} {l : List ActG} (hl : Acts w0 A n l) :
    Calls Try.prog 28 #[.int .u8 raw, .int .u16 u, .slice A n c] W (OpenRet w0 X r u l) := by
  have KN := hide (st_new hX h r u (by omega) (by omega) (by omega) (by omega))
  have HL := hide hl
  have hr1 : 0 ≤ raw := hraw.1
  have hr2 : raw ≤ 255 := hraw.2
  have hu1 : 0 ≤ u := hu.1
  have hu2 : u ≤ 65535 := hu.2
  clear hraw hu h hl
  go_enter Try.func28, Try.ntmps28
  go_wp2_with fail
  refine KN.out.mono ?_
  rintro e w1 ⟨p, rfl, hS⟩
  have HS := hide hS
  clear hS KN hr
  go_wp2_with fail
  go_loopw [11] (fun i wr => ∃ j : Nat, j ≤ n ∧ j ≤ 150 ∧ i = .int .i64 j ∧ St u j w0 X p (doL (newG r u) (l.take j)) wr) (fun i _ => n - (intOf i).toNat)
  case atStart => exact ⟨0, Nat.zero_le _, by omega, rfl, HS.out⟩
  case round =>
    obtain ⟨j, hj, hj1, rfl, hS⟩ := hrel
    have HS2 := hide hS
    have hjl := HL.out.len
    by_cases hlt : j < n
    · by_cases hlt2 : j < 150
      · obtain ⟨b, o, rfl, c0, c1, c2, c3, c4, c5⟩ := (HL.out.run hS.run).at_ hlt
        have hnx := doL_next (newG r u) l j (by omega)
        have hok := HL.out.ok (l[j]'(by omega)) (List.getElem_mem _)
        have hi1 : (j : Int) < 150 := by omega
        generalize l[j]'(by omega) = x at *
        have KD := hide (st_do hS (by omega) x hok.1)
        rw [← hnx] at KD
        unfold actV at KD
        generalize x.k = x0 at *
        generalize x.a = x1 at *
        generalize x.b = x2 at *
        generalize x.u = x3 at *
        generalize x.lost = x4 at *
        generalize x.again = x5 at *
        clear hS hnx hok HS hjl
        go_wp2_with fail
        refine KD.out.mono ?_
        rintro e w2 ⟨rfl, hS⟩
        have HS3 := hide hS
        clear hS
        go_wp2_with fail
        go_roundw
        case rel => exact ⟨j + 1, by omega, by omega, by go_num, HS3.out⟩
        case measure => simp [intOf]; omega
      · obtain rfl : j = 150 := by omega
        clear hS HS hjl
        have hi1 : ¬ (((150 : Nat) : Int) < 150) := by omega
        go_wp2_with fail
        go_ret2
        exact ⟨p, rfl, HS2.out⟩
    · obtain rfl : j = n := by omega
      have HE := hide (show l.take j = l.take 150 by rw [List.take_of_length_le (by omega), List.take_of_length_le (by omega)])
      clear hS HS hjl
      go_wp2_with fail
      go_ret2
      refine ⟨p, rfl, ?_⟩
      rw [← HE.out]
      exact HS2.out.up hj1
end Go.Proofs.Ytapabbpdfplpoaa
