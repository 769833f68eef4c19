/-
  Licence: head, the chapter's examples.
  Licence: Short.
  Licence: steps that come in; Few.
  Licence: play.
  Licence: the plain laws of Split and Revoke.
  LicenceSplits, walked.
-/
import Derived.Test.YtapabbpdfplpoaaM12
import Derived.Test.YtapabbpdfplpoaaM9
set_option linter.unusedSimpArgs false
set_option linter.unusedVariables false
namespace Go.Proofs.Ytapabbpdfplpoaa
open Go.RowKit Go.CH Go.CH.Lic
open Go.ChangeMaps (setBlock)
def k1S : ByteArray := ⟨#[107, 49]⟩
def k2S : ByteArray := ⟨#[107, 50]⟩
def k3S : ByteArray := ⟨#[107, 51]⟩
def l2S : ByteArray := ⟨#[108, 50]⟩
def mS : ByteArray := ⟨#[109]⟩
def lic1 : LicM := ⟨l1S, [mS], [], 100, 3, 0, 1000⟩
def hb1 : BkM := (grantR newM lic1).2
def hb2 : BkM := (reserveR hb1 l1S k1S 60 1).2
def hb3 : BkM := (reserveR hb2 l1S k2S 50 1).2
def hb4 : BkM := (useR hb3 k1S 45 2).2
def hb5 : BkM := (returnR hb4 k1S 5).2
def hb6 : BkM := (splitR hb5 l1S l2S 20 1).2
def hb7 : BkM := (revokeR hb6 l1S 7).2
def hb8 : BkM := (reserveR hb7 l1S k3S 1 7).2
theorem he1 : (grantR newM lic1).1 = 0 := by kernel_rfl
theorem he2 : (reserveR hb1 l1S k1S 60 1).1 = 0 := by kernel_rfl
theorem he3 : (reserveR hb2 l1S k2S 50 1).1 = 19 := by kernel_rfl
theorem he4 : (useR hb3 k1S 45 2).1 = 0 := by kernel_rfl
theorem he5 : (returnR hb4 k1S 5).1 = 0 := by kernel_rfl
theorem he6 : (splitR hb5 l1S l2S 20 1).1 = 0 := by kernel_rfl
theorem he7 : (revokeR hb6 l1S 7).1 = 0 := by kernel_rfl
theorem he8 : (reserveR hb7 l1S k3S 1 7).1 = 12 := by kernel_rfl
theorem hl2 : decide (leftR hb2 l1S 5 = (40, 2, 0)) = true := by kernel_rfl
theorem hl4 : decide (leftR hb4 l1S 5 = (55, 2, 0)) = true := by kernel_rfl
theorem hl5 : decide (leftR hb5 l1S 5 = (60, 2, 0)) = true := by kernel_rfl
theorem hl6 : decide (leftR hb6 l1S 5 = (40, 1, 0)) = true := by kernel_rfl
theorem hl8 : decide (leftR hb8 l1S 5 = (40, 1, 0)) = true := by kernel_rfl
theorem hn8 : hb8.gs.length = 2 := by kernel_rfl
def N1 : ByteArray := ⟨#[108, 49]⟩
theorem licAt1 (W : World) : LicAt (W.alloc (.cells #[.string ⟨#[109]⟩] 9)) lic1 (some ⟨W.heap.size, 0, none⟩) 1 none 0 := by
  refine ⟨⟨by decide, Src.one (heap_alloc_new W _) rfl, Src.none_, fun s hs => ?_, (fun s hs => by cases hs), by decide, by decide⟩, (fun h => by cases h), fun _ => ⟨rfl, rfl⟩⟩
  simp [lic1] at hs; subst hs; decide
set_option maxRecDepth 100000 in
set_option maxHeartbeats 3200000 in
theorem head35_any (w : World) : Calls Try.prog 44 #[] w (BelowRet w (.bool true)) := by
  have K0 := hide (st_new (Run.begin w) emp_ok)
  go_enter Try.func44, Try.ntmps44
  go_wp2_with fail
  refine K0.out.mono ?_
  rintro e w1 ⟨p, rfl, hS⟩
  clear K0
  have S1 := hide (hS.below ((Below.refl _ _).alloc (Nat.le_refl _) (.cells #[.string ⟨#[109]⟩] 9)))
  clear hS
  have K1 : Hid (Calls Try.prog 38 #[.pointer (some ⟨p, 0, none⟩), .agg #[.string ⟨#[108, 49]⟩, .slice (some ⟨w1.heap.size, 0, none⟩) 1 1, .slice none 0 0, .int .i64 100, .int .i64 3, .int .i64 0, .int .i64 1000]] _ (BRet w emp p hb1 (.int .i64 0))) := hide (by
    have K := st_grant S1.out (licAt1 w1)
    rw [he1] at K
    exact K)
  clear S1
  unfold gptr
  go_wp2_with fail
  refine K1.out.mono ?_
  rintro e w2 ⟨rfl, hS2⟩
  clear K1

  have K : Hid (Calls Try.prog 40 #[.pointer (some ⟨p, 0, none⟩), .string ⟨#[108, 49]⟩, .string ⟨#[107, 49]⟩, .int .i64 60, .int .i64 1] w2 (BRet w emp p hb2 (.int .i64 0))) := hide (by
    have K := st_reserve hS2 l1S k1S 60 1 (by decide)
    rw [he2] at K
    exact K)
  clear hS2
  go_wp2_with fail
  refine K.out.mono ?_
  rintro e w3 ⟨rfl, hS3⟩
  clear K
  have K : Hid (Calls Try.prog 83 #[.pointer (some ⟨p, 0, none⟩), .int .i64 40, .int .i64 2] w3 (BRet w emp p hb2 (.bool true))) := hide (by
    have K := left35_any hS3 40 2
    rw [hl2] at K
    exact K)
  clear hS3
  go_wp2_with fail
  refine K.out.mono ?_
  rintro e w4 ⟨rfl, hS4⟩
  clear K
  have K : Hid (Calls Try.prog 40 #[.pointer (some ⟨p, 0, none⟩), .string ⟨#[108, 49]⟩, .string ⟨#[107, 50]⟩, .int .i64 50, .int .i64 1] w4 (BRet w emp p hb3 (.int .i64 19))) := hide (by
    have K := st_reserve hS4 l1S k2S 50 1 (by decide)
    rw [he3] at K
    exact K)
  clear hS4
  go_wp2_with fail
  refine K.out.mono ?_
  rintro e w5 ⟨rfl, hS5⟩
  clear K
  have K : Hid (Calls Try.prog 41 #[.pointer (some ⟨p, 0, none⟩), .string ⟨#[107, 49]⟩, .int .i64 45, .int .i64 2] w5 (BRet w emp p hb4 (.int .i64 0))) := hide (by
    have K := st_use hS5 k1S 45 2
    rw [he4] at K
    exact K)
  clear hS5
  go_wp2_with fail
  refine K.out.mono ?_
  rintro e w6 ⟨rfl, hS6⟩
  clear K
  have K : Hid (Calls Try.prog 83 #[.pointer (some ⟨p, 0, none⟩), .int .i64 55, .int .i64 2] w6 (BRet w emp p hb4 (.bool true))) := hide (by
    have K := left35_any hS6 55 2
    rw [hl4] at K
    exact K)
  clear hS6
  go_wp2_with fail
  refine K.out.mono ?_
  rintro e w7 ⟨rfl, hS7⟩
  clear K
  have K : Hid (Calls Try.prog 42 #[.pointer (some ⟨p, 0, none⟩), .string ⟨#[107, 49]⟩, .int .i64 5] w7 (BRet w emp p hb5 (.int .i64 0))) := hide (by
    have K := st_return hS7 k1S 5
    rw [he5] at K
    exact K)
  clear hS7
  go_wp2_with fail
  refine K.out.mono ?_
  rintro e w8 ⟨rfl, hS8⟩
  clear K
  have K : Hid (Calls Try.prog 83 #[.pointer (some ⟨p, 0, none⟩), .int .i64 60, .int .i64 2] w8 (BRet w emp p hb5 (.bool true))) := hide (by
    have K := left35_any hS8 60 2
    rw [hl5] at K
    exact K)
  clear hS8
  go_wp2_with fail
  refine K.out.mono ?_
  rintro e w9 ⟨rfl, hS9⟩
  clear K
  have K : Hid (Calls Try.prog 56 #[.pointer (some ⟨p, 0, none⟩), .string ⟨#[108, 49]⟩, .string ⟨#[108, 50]⟩, .int .i64 20, .int .i64 1] w9 (BRet w emp p hb6 (.int .i64 0))) := hide (by
    have K := st_split hS9 l1S l2S 20 1 (by decide)
    rw [he6] at K
    exact K)
  clear hS9
  go_wp2_with fail
  refine K.out.mono ?_
  rintro e w10 ⟨rfl, hS10⟩
  clear K
  have K : Hid (Calls Try.prog 83 #[.pointer (some ⟨p, 0, none⟩), .int .i64 40, .int .i64 1] w10 (BRet w emp p hb6 (.bool true))) := hide (by
    have K := left35_any hS10 40 1
    rw [hl6] at K
    exact K)
  clear hS10
  go_wp2_with fail
  refine K.out.mono ?_
  rintro e w11 ⟨rfl, hS11⟩
  clear K
  have K : Hid (Calls Try.prog 54 #[.pointer (some ⟨p, 0, none⟩), .string ⟨#[108, 49]⟩, .int .i64 7] w11 (BRet w emp p hb7 (.int .i64 0))) := hide (by
    have K := st_revoke hS11 l1S 7
    rw [he7] at K
    exact K)
  clear hS11
  go_wp2_with fail
  refine K.out.mono ?_
  rintro e w12 ⟨rfl, hS12⟩
  clear K
  have K : Hid (Calls Try.prog 40 #[.pointer (some ⟨p, 0, none⟩), .string ⟨#[108, 49]⟩, .string ⟨#[107, 51]⟩, .int .i64 1, .int .i64 7] w12 (BRet w emp p hb8 (.int .i64 12))) := hide (by
    have K := st_reserve hS12 l1S k3S 1 7 (by decide)
    rw [he8] at K
    exact K)
  clear hS12
  go_wp2_with fail
  refine K.out.mono ?_
  rintro e w13 ⟨rfl, hS13⟩
  clear K
  have K : Hid (Calls Try.prog 83 #[.pointer (some ⟨p, 0, none⟩), .int .i64 40, .int .i64 1] w13 (BRet w emp p hb8 (.bool true))) := hide (by
    have K := left35_any hS13 40 1
    rw [hl8] at K
    exact K)
  clear hS13
  go_wp2_with fail
  refine K.out.mono ?_
  rintro e w14 ⟨rfl, hS14⟩
  clear K
  have K := hide (st_list hS14)
  clear hS14
  unfold gptr at K
  go_wp2_with fail
  refine K.out.mono ?_
  rintro e w99 ⟨A, c, zs, rfl, hm, hS99⟩
  have hlen : zs.length = 2 := by have := congrArg List.length hm; simpa [hn8] using this
  have HB := hide hS99.bel
  clear K hm hS99
  rw [hlen]
  clear hlen
  go_wp2
  go_ret
  exact ⟨rfl, HB.out⟩
end Go.Proofs.Ytapabbpdfplpoaa
namespace Go.Proofs.Ytapabbpdfplpoaa
open Go.RowKit Go.CH Go.CH.Lic
open Go.ChangeMaps (setBlock)

/-- A licence as it comes in, whatever its size. -/
structure LicRaw (w : World) (l : LicM) (A : Option Addr) (c : Nat) (B : Option Addr) (d : Nat) : Prop where
  id : l.id.size ≤ maxLen
  ms : Src w A l.ms.length 1 (strs l.ms)
  ps : Src w B l.ps.length 1 (strs l.ps)
  mz : ∀ s ∈ l.ms, s.size ≤ maxLen
  pz : ∀ s ∈ l.ps, s.size ≤ maxLen
  mn : l.ms.length ≤ maxLen
  pn : l.ps.length ≤ maxLen
  mc : A = none → c = 0 ∧ l.ms.length = 0
  pc : B = none → d = 0 ∧ l.ps.length = 0
theorem LicRaw.keep {w W : World} {l : LicM} {A B : Option Addr} {c d : Nat} (h : LicRaw w l A c B d) (hb : Below w.heap.size w W) : LicRaw W l A c B d :=
  ⟨h.id, ((Run.begin w).below emp_ok hb).src0 h.ms, ((Run.begin w).below emp_ok hb).src0 h.ps, h.mz, h.pz, h.mn, h.pn, h.mc, h.pc⟩
theorem LicRaw.at_ {w : World} {l : LicM} {A B : Option Addr} {c d : Nat} (h : LicRaw w l A c B d) (hs : short l = true) : LicAt w l A c B d := by
  unfold short at hs
  simp only [Bool.and_eq_true, decide_eq_true_eq] at hs
  exact ⟨⟨h.id, h.ms, h.ps, h.mz, h.pz, by omega, by omega⟩, h.mc, h.pc⟩
section
variable {w : World} {l : LicM} {A B : Option Addr} {c d : Nat}
theorem lic_box (w : World) (l : LicM) (A : Option Addr) (c : Nat) (B : Option Addr) (d : Nat) : Run (fun _ => False) w (CellO w.heap.size #[.string l.id, .slice A l.ms.length c, .slice B l.ps.length d, .int .i64 l.q, .int .i64 l.u, .int .i64 l.f, .int .i64 l.t] 56) (w.alloc (.cells #[.string l.id, .slice A l.ms.length c, .slice B l.ps.length d, .int .i64 l.q, .int .i64 l.u, .int .i64 l.f, .int .i64 l.t] 56)) :=
  ((Run.begin w).fresh emp_ok (cell_new w _ 56)).imp fun _ _ h => star_emp h
set_option maxHeartbeats 1600000 in
theorem short_0 (h : LicRaw w l A c B d) (t : 60 < l.id.size ∨ (¬ 60 < l.id.size ∧ 14 < l.ms.length) ∨ (¬ 60 < l.id.size ∧ ¬ 14 < l.ms.length ∧ 14 < l.ps.length)) : Calls Try.prog 101 #[licV l A c B d] w (BelowRet w (.bool false)) := by
  have hid := h.id
  have hmn := h.mn
  have hpn := h.pn
  unfold maxLen at hid hmn hpn
  obtain ⟨c0, c1, c2, c3, c4, c5, c6⟩ := box_reads (lic_box w l A c B d)
  have HB := hide (lic_box w l A c B d).bel
  unfold licV
  clear h
  generalize l.ms.length = n at *
  generalize l.ps.length = m at *
  generalize l.id = zi at *
  rcases t with t1 | ⟨t1, t2⟩ | ⟨t1, t2, t3⟩
  · go_enter Try.func101, Try.ntmps101
    go_wp2
    go_ret
    exact bel_bool rfl HB.out
  · go_enter Try.func101, Try.ntmps101
    go_wp2
    go_ret
    exact bel_bool rfl HB.out
  · go_enter Try.func101, Try.ntmps101
    go_wp2
    go_ret
    exact bel_bool rfl HB.out
set_option maxHeartbeats 1600000 in
theorem short_3 (h : LicRaw w l A c B d) (t1 : ¬ 60 < l.id.size) (t2 : ¬ 14 < l.ms.length) (t3 : ¬ 14 < l.ps.length) : Calls Try.prog 101 #[licV l A c B d] w (BelowRet w (.bool (l.ms.all sz60 && l.ps.all sz60))) := by
  have hid := h.id
  unfold maxLen at hid
  obtain ⟨c0, c1, c2, c3, c4, c5, c6⟩ := box_reads (lic_box w l A c B d)
  have HB := hide (lic_box w l A c B d).bel
  have HM := hide (((Run.begin w).below emp_ok HB.out).src0 h.ms)
  have HP := hide (((Run.begin w).below emp_ok HB.out).src0 h.ps)
  have HMZ := hide h.mz
  have HPZ := hide h.pz
  have HW := hide h
  unfold licV
  clear h
  generalize l.id = zi at *
  go_enter Try.func101, Try.ntmps101
  go_wp2
  go_loop [3] (fun i => ∃ k : Nat, k ≤ l.ms.length ∧ i = .int .i64 k ∧ (l.ms.take k).all sz60 = true) (fun i => l.ms.length - (intOf i).toNat)
  case atStart => exact ⟨0, Nat.zero_le _, rfl, by simp⟩
  case round =>
    obtain ⟨k, hk, rfl, hall⟩ := hrel
    by_cases hlt : k < l.ms.length
    · obtain ⟨bA, o, hA, hc⟩ := HM.out.open_ (by omega) (by omega)
      subst hA
      have a0 := hc k _ (strs_get hlt)
      have hsz := HMZ.out l.ms[k] (List.getElem_mem _)
      unfold maxLen at hsz
      have HS := hide (all_take sz60 hlt)
      have HNO := hide (fun h => all_no (p := sz60) hlt h)
      have HALL := hide hall
      clear hc hall
      by_cases hs : 60 < l.ms[k].size
      · have hno := hide (HNO.out (decide_eq_false (by omega)))
        generalize l.ms[k] = x at *
        go_wp2
        go_ret
        exact bel_bool (by rw [hno.out]; rfl) HB.out
      · have hyes := hide (show sz60 l.ms[k] = true from decide_eq_true (by omega))
        generalize l.ms[k] = x at *
        go_wp2
        go_round
        case rel => exact ⟨k + 1, by omega, by go_num, by rw [HS.out, HALL.out, hyes.out]; rfl⟩
        case measure => simp [intOf]; omega
    · have hks : k = l.ms.length := by omega
      rw [hks, List.take_length] at hall
      have HALL := hide (show (l.ms.all sz60 && l.ps.all sz60) = l.ps.all sz60 by rw [hall]; rfl)
      clear hall
      subst hks
      go_wp2
      go_loop [4] (fun i => ∃ k : Nat, k ≤ l.ps.length ∧ i = .int .i64 k ∧ (l.ps.take k).all sz60 = true) (fun i => l.ps.length - (intOf i).toNat)
      case atStart => exact ⟨0, Nat.zero_le _, rfl, by simp⟩
      case round =>
        obtain ⟨k, hk, rfl, hall⟩ := hrel
        by_cases hlt : k < l.ps.length
        · obtain ⟨bA, o, hA, hc⟩ := HP.out.open_ (by omega) (by omega)
          subst hA
          have a0 := hc k _ (strs_get hlt)
          have hsz := HPZ.out l.ps[k] (List.getElem_mem _)
          unfold maxLen at hsz
          have HS := hide (all_take sz60 hlt)
          have HNO := hide (fun h => all_no (p := sz60) hlt h)
          have HALL2 := hide hall
          clear hc hall
          by_cases hs : 60 < l.ps[k].size
          · have hno := hide (HNO.out (decide_eq_false (by omega)))
            generalize l.ps[k] = x at *
            go_wp2
            go_ret
            exact bel_bool (by rw [HALL.out, hno.out]) HB.out
          · have hyes := hide (show sz60 l.ps[k] = true from decide_eq_true (by omega))
            generalize l.ps[k] = x at *
            go_wp2
            go_round
            case rel => exact ⟨k + 1, by omega, by go_num, by rw [HS.out, HALL2.out, hyes.out]; rfl⟩
            case measure => simp [intOf]; omega
        · have hks : k = l.ps.length := by omega
          rw [hks, List.take_length] at hall
          have HALL2 := hide hall
          clear hall
          subst hks
          go_wp2
          go_ret
          exact bel_bool (by rw [HALL.out, HALL2.out]) HB.out
theorem short_any (h : LicRaw w l A c B d) : Calls Try.prog 101 #[licV l A c B d] w (BelowRet w (.bool (short l))) := by
  by_cases t1 : 60 < l.id.size
  · rw [show short l = false by simp [short, sz60, show ¬ l.id.size ≤ 60 by omega]]; exact short_0 h (.inl t1)
  by_cases t2 : 14 < l.ms.length
  · rw [show short l = false by simp [short, show ¬ l.ms.length ≤ 14 by omega]]; exact short_0 h (.inr (.inl ⟨t1, t2⟩))
  by_cases t3 : 14 < l.ps.length
  · rw [show short l = false by simp [short, show ¬ l.ps.length ≤ 14 by omega]]; exact short_0 h (.inr (.inr ⟨t1, t2, t3⟩))
  rw [show short l = (l.ms.all sz60 && l.ps.all sz60) by
    unfold short
    rw [show sz60 l.id = true from decide_eq_true (by omega), decide_eq_true (show l.ms.length ≤ 14 by omega), decide_eq_true (show l.ps.length ≤ 14 by omega)]; rfl]
  exact short_3 h t1 t2 t3
end
end Go.Proofs.Ytapabbpdfplpoaa
namespace Go.Proofs.Ytapabbpdfplpoaa
open Go.RowKit Go.CH Go.CH.Lic
open Go.ChangeMaps (setBlock)

structure ZS where
  x : StepM
  A : Option Addr
  c : Nat
  B : Option Addr
  d : Nat
instance : Inhabited ZS := ⟨⟨default, none, 0, none, 0⟩⟩
def scl (z : ZS) : List Value := stepL z.x z.A z.c z.B z.d
theorem scl_len (z : ZS) : (scl z).length = 13 := rfl
structure StepOk (w : World) (z : ZS) : Prop where
  raw : LicRaw w z.x.l z.A z.c z.B z.d
  id : z.x.id.size ≤ maxLen
  key : z.x.key.size ≤ maxLen
/-- Steps that came in. -/
structure Steps (w : World) (A : Option Addr) (n : Nat) (l : List ZS) : Prop where
  len : l.length = n
  src : Src w A n 13 (l.flatMap scl)
  ok : ∀ z ∈ l, StepOk w z
  max : n ≤ maxLen
theorem StepOk.keep {w W : World} {z : ZS} (h : StepOk w z) (hb : Below w.heap.size w W) : StepOk W z := ⟨h.raw.keep hb, h.id, h.key⟩
theorem Steps.keep {w W : World} {A : Option Addr} {n : Nat} {l : List ZS} (h : Steps w A n l) (hb : Below w.heap.size w W) : Steps W A n l :=
  ⟨h.len, ((Run.begin w).below emp_ok hb).src0 h.src, fun z hz => (h.ok z hz).keep hb, h.max⟩
/-- The cells of a step. -/
def StepC (w : World) (b o : Nat) (z : ZS) : Prop :=
  w.cell? ⟨b, o, none⟩ = some (.int .i64 z.x.k) ∧ w.cell? ⟨b, o + 1, none⟩ = some (.string z.x.l.id) ∧ w.cell? ⟨b, o + 2, none⟩ = some (.slice z.A z.x.l.ms.length z.c) ∧ w.cell? ⟨b, o + 3, none⟩ = some (.slice z.B z.x.l.ps.length z.d) ∧ w.cell? ⟨b, o + 4, none⟩ = some (.int .i64 z.x.l.q) ∧ w.cell? ⟨b, o + 5, none⟩ = some (.int .i64 z.x.l.u) ∧ w.cell? ⟨b, o + 6, none⟩ = some (.int .i64 z.x.l.f) ∧ w.cell? ⟨b, o + 7, none⟩ = some (.int .i64 z.x.l.t) ∧ w.cell? ⟨b, o + 8, none⟩ = some (.string z.x.id) ∧ w.cell? ⟨b, o + 9, none⟩ = some (.string z.x.key) ∧ w.cell? ⟨b, o + 10, none⟩ = some (.int .i64 z.x.un) ∧ w.cell? ⟨b, o + 11, none⟩ = some (.int .i64 z.x.us) ∧ w.cell? ⟨b, o + 12, none⟩ = some (.int .i64 z.x.a)
theorem Steps.at_ {w : World} {A : Option Addr} {n : Nat} {l : List ZS} (h : Steps w A n l) {k : Nat} (hk : k < l.length) : ∃ b o, A = some ⟨b, o, none⟩ ∧ StepC w b (o + k * 13) l[k] := by
  have hn : 0 < n := by have := h.len; omega
  obtain ⟨b, o, e, hc⟩ := h.src.open_ hn (by omega)
  have hg : ∀ j v, j < 13 → (scl l[k])[j]? = some v → w.cell? ⟨b, o + k * 13 + j, none⟩ = some v := fun j v hj hv => by
    have := hc (k * 13 + j) v (by rw [flat_get scl 13 scl_len hk j hj]; exact hv)
    rw [← Nat.add_assoc] at this; exact this
  exact ⟨b, o, e, hg 0 _ (by omega) rfl, hg 1 _ (by omega) rfl, hg 2 _ (by omega) rfl, hg 3 _ (by omega) rfl, hg 4 _ (by omega) rfl, hg 5 _ (by omega) rfl, hg 6 _ (by omega) rfl, hg 7 _ (by omega) rfl, hg 8 _ (by omega) rfl, hg 9 _ (by omega) rfl, hg 10 _ (by omega) rfl, hg 11 _ (by omega) rfl, hg 12 _ (by omega) rfl⟩

section
variable {w : World} {A : Option Addr} {n c : Nat} {l : List ZS}
def stepsM (l : List ZS) : List StepM := l.map ZS.x
set_option maxRecDepth 100000 in
set_option maxHeartbeats 3200000 in
theorem few_any (h : Steps w A n l) : Calls Try.prog 53 #[.slice A n c] w (BelowRet w (.bool (fewB (stepsM l)))) := by
  have hmax := h.max
  unfold maxLen at hmax
  have HLEN := hide h.len
  have H := hide h
  clear h
  by_cases hn : n ≤ 25
  case neg =>
    have hv := hide (show fewB (stepsM l) = false by unfold fewB stepsM; rw [List.length_map, HLEN.out, decide_eq_false hn]; rfl)
    go_enter Try.func53, Try.ntmps53
    go_wp2
    go_loop [3] (fun i => i = .int .i64 0) (fun _ => 0)
    case atStart => rfl
    case round =>
      subst hrel
      go_wp2
      all_goals (go_ret; first | exact bel_bool hv.out (Below.refl _ _) | exact bel_bool (by rw [hv.out]; go_num) (Below.refl _ _) | exact bel_bool (by rw [hv.out]; simp; omega) (Below.refl _ _))
  case pos =>
  have HV := hide (show fewB (stepsM l) = (stepsM l).all fewX by unfold fewB stepsM; rw [List.length_map, HLEN.out, decide_eq_true hn]; rfl)
  go_enter Try.func53, Try.ntmps53
  go_wp2
  go_loopw [3] (fun i wr => ∃ k : Nat, k ≤ n ∧ i = .int .i64 k ∧ ((stepsM l).take k).all fewX = true ∧ Below w.heap.size w wr) (fun i _ => n - (intOf i).toNat)
  case atStart => exact ⟨0, Nat.zero_le _, rfl, by simp, Below.refl _ _⟩
  case round =>
    obtain ⟨k, hk, rfl, hall, hb⟩ := hrel
    have HBL := hide hb
    have HALL := hide hall
    clear hall
    by_cases hlt : k < n
    · have hkl : k < l.length := by rw [HLEN.out]; exact hlt
      have HS := hide (show ((stepsM l).take (k + 1)).all fewX = (((stepsM l).take k).all fewX && fewX l[k].x) by
        have hkm : k < (stepsM l).length := by unfold stepsM; simpa using hkl
        rw [all_take fewX hkm]; simp [stepsM])
      have HNO : Hid (fewX l[k].x = false → (stepsM l).all fewX = false) := hide (fun h => by
        have hkm : k < (stepsM l).length := by unfold stepsM; simpa using hkl
        exact all_no (p := fewX) hkm (by simpa [stepsM] using h))
      obtain ⟨b, o, hA, hd⟩ := (H.out.keep hb).at_ hkl
      have HOK := hide (H.out.ok l[k] (List.getElem_mem _))
      have HN := hide hn
      clear H
      subst hA
      generalize l[k] = z at *
      obtain ⟨d0, d1, d2, d3, d4, d5, d6, d7, d8, d9, d10, d11, d12⟩ := hd
      have KS := hide (fun W (hb : Below w.heap.size w W) => short_any (HOK.out.raw.keep hb))
      have hid := HOK.out.id
      have hkey := HOK.out.key
      unfold maxLen at hid hkey
      unfold licV at KS
      have hko : 0 ≤ k := Nat.zero_le _
      clear hb hkl
      cases hs : short z.x.l with
      | false =>
        rw [hs] at KS
        have hno := hide (HNO.out (by unfold fewX; rw [hs]; rfl))
        clear hs
        go_wp2_with fail
        refine (KS.out _ HBL.out).mono ?_
        rintro e w2 ⟨rfl, hb2⟩
        have HB2 := hide (HBL.out.trans (hb2.mono HBL.out.size))
        clear hb2
        go_wp2
        go_ret
        exact bel_bool (by rw [HV.out, hno.out]) HB2.out
      | true =>
        rw [hs] at KS
        have HSH := hide hs
        clear hs
        have HR := hide (fun W (hb : Below wr.heap.size wr W) (ad : Addr) (v : Value) (hc : wr.cell? ad = some v) => ((Run.begin wr).below emp_ok hb).cell hc (fun h => h))
        by_cases h60 : 60 < z.x.id.size
        · have hno := hide (HNO.out (by unfold fewX; rw [HSH.out, show sz60 z.x.id = false from decide_eq_false (by omega)]; rfl))
          go_wp2_with fail
          refine (KS.out _ HBL.out).mono ?_
          rintro e w2 ⟨rfl, hb2⟩
          have HB2 := hide (HBL.out.trans (hb2.mono HBL.out.size))
          have e8 := HR.out _ hb2 _ _ d8
          clear hb2
          generalize z.x.id = zid at *
          go_wp2
          go_ret
          exact bel_bool (by rw [HV.out, hno.out]) HB2.out
        · by_cases k60 : 60 < z.x.key.size
          · have hno := hide (HNO.out (by unfold fewX; rw [HSH.out, show sz60 z.x.key = false from decide_eq_false (by omega)]; simp))
            go_wp2_with fail
            refine (KS.out _ HBL.out).mono ?_
            rintro e w2 ⟨rfl, hb2⟩
            have HB2 := hide (HBL.out.trans (hb2.mono HBL.out.size))
            have e8 := HR.out _ hb2 _ _ d8
            have e9 := HR.out _ hb2 _ _ d9
            clear hb2
            generalize z.x.id = zid at *
            generalize z.x.key = zkey at *
            go_wp2
            go_ret
            exact bel_bool (by rw [HV.out, hno.out]) HB2.out
          · have hyes := hide (show fewX z.x = true by unfold fewX; rw [HSH.out, show sz60 z.x.id = true from decide_eq_true (by omega), show sz60 z.x.key = true from decide_eq_true (by omega)]; rfl)
            go_wp2_with fail
            refine (KS.out _ HBL.out).mono ?_
            rintro e w2 ⟨rfl, hb2⟩
            have HB2 := hide (HBL.out.trans (hb2.mono HBL.out.size))
            have e8 := HR.out _ hb2 _ _ d8
            have e9 := HR.out _ hb2 _ _ d9
            clear hb2
            generalize z.x.id = zid at *
            generalize z.x.key = zkey at *
            go_wp2
            go_roundw
            case rel => exact ⟨k + 1, by omega, by go_num, by rw [HS.out, HALL.out, hyes.out]; rfl, HB2.out⟩
            case measure => simp [intOf]; omega
    · have hks : k = n := by omega
      have HV2 := hide (show fewB (stepsM l) = true by rw [HV.out, ← HALL.out, hks, List.take_of_length_le (by unfold stepsM; rw [List.length_map, HLEN.out]; exact Nat.le_refl _)])
      subst hks
      clear hb
      go_wp2
      go_ret
      first | exact bel_bool HV2.out HBL.out | exact bel_bool (by rw [HV2.out]; go_num) HBL.out | exact bel_bool (by rw [HV2.out]; simp; omega) HBL.out
theorem fewL_any (h : Steps w A n l) : Calls Try.prog 45 #[.slice A n c] w (BelowRet w (.bool (fewB (stepsM l)))) := by
  have K := hide (few_any (c := c) h)
  clear h
  go_enter Try.func45, Try.ntmps45
  go_wp2_with fail
  refine K.out.mono ?_
  rintro e W' ⟨rfl, hb⟩
  have HB := hide hb
  clear hb
  go_wp2
  go_ret
  exact bel_bool rfl HB.out
end
end Go.Proofs.Ytapabbpdfplpoaa
namespace Go.Proofs.Ytapabbpdfplpoaa
open Go.RowKit Go.CH Go.CH.Lic
open Go.ChangeMaps (setBlock)

def PlayRet (w0 : World) (X : Own) (b : BkM) (e : Ending) (W : World) : Prop := ∃ p, e = .returned (gptr p) ∧ BSt w0 X p b W
theorem few_at {l : List ZS} (hf : fewB (stepsM l) = true) {k : Nat} (hk : k < l.length) : short l[k].x.l = true ∧ l[k].x.id.size ≤ 60 ∧ l[k].x.key.size ≤ 60 := by
  unfold fewB stepsM at hf
  simp only [Bool.and_eq_true, List.all_eq_true] at hf
  have h1 := hf.2 l[k].x (List.mem_map_of_mem (List.getElem_mem hk))
  unfold fewX sz60 at h1
  simp only [Bool.and_eq_true, decide_eq_true_eq] at h1
  exact ⟨h1.1.1, h1.1.2, h1.2⟩
theorem few_len {l : List ZS} (hf : fewB (stepsM l) = true) : l.length ≤ 25 := by
  unfold fewB stepsM at hf
  simp only [Bool.and_eq_true, decide_eq_true_eq, List.length_map] at hf
  exact hf.1
/-- A step of the law's steps, done. -/
theorem st_step {w0 W : World} {X : Own} {p : Nat} {b : BkM} {A : Option Addr} {n : Nat} {l : List ZS} (h : BSt w0 X p b W) (hs : Steps w0 A n l) (hf : fewB (stepsM l) = true) {k : Nat} (hk : k < l.length) :
    Calls Try.prog 46 #[gptr p, stepV l[k].x l[k].A l[k].c l[k].B l[k].d] W (BRet w0 X p (doR b l[k].x).2 (.int .i64 (doR b l[k].x).1)) := by
  have ho := (hs.ok l[k] (List.getElem_mem hk)).keep h.bel
  exact st_do h l[k].x (ho.raw.at_ (few_at hf hk).1) ho.key
set_option maxRecDepth 100000 in
set_option maxHeartbeats 3200000 in
theorem play_any {w0 W : World} {X : Own} (h : Run (fun _ => False) w0 X W) (hx : X.Ok) {A : Option Addr} {n c : Nat} {l : List ZS} (hs : Steps w0 A n l) (hf : fewB (stepsM l) = true) :
    Calls Try.prog 59 #[.slice A n c] W (PlayRet w0 X (playM (stepsM l))) := by
  have K0 := hide (st_new h hx)
  have HS := hide hs
  have HF := hide hf
  have hn := few_len hf
  have HLEN := hide hs.len
  rw [hs.len] at hn
  clear h hs hf
  go_enter Try.func59, Try.ntmps59
  go_wp2_with fail
  refine K0.out.mono ?_
  rintro e w1 ⟨p, rfl, hS⟩
  have HS1 := hide hS
  clear hS K0
  unfold gptr
  go_wp2
  go_loopw [4] (fun i wr => ∃ k : Nat, k ≤ n ∧ i = .int .i64 k ∧ BSt w0 X p (playM ((stepsM l).take k)) wr) (fun i _ => n - (intOf i).toNat)
  case atStart => exact ⟨0, Nat.zero_le _, rfl, HS1.out⟩
  case round =>
    obtain ⟨k, hk, rfl, hb⟩ := hrel
    by_cases hlt : k < n
    · have hkl : k < l.length := by rw [HLEN.out]; exact hlt
      have HP := hide (show playM ((stepsM l).take (k + 1)) = (doR (playM ((stepsM l).take k)) l[k].x).2 by
        have hkm : k < (stepsM l).length := by unfold stepsM; simpa using hkl
        rw [play_take hkm]; simp [stepsM])
      have KD := hide (st_step hb HS.out HF.out hkl)
      obtain ⟨b, o, hA, hd⟩ := (HS.out.keep hb.bel).at_ hkl
      rw [← HP.out] at KD
      clear hb HS HS1
      subst hA
      generalize l[k] = z at *
      obtain ⟨d0, d1, d2, d3, d4, d5, d6, d7, d8, d9, d10, d11, d12⟩ := hd
      unfold stepV gptr at KD
      clear hkl
      go_wp2_with fail
      refine KD.out.mono ?_
      rintro e w2 ⟨rfl, hS⟩
      have HS2 := hide hS
      clear hS KD d0 d1 d2 d3 d4 d5 d6 d7 d8 d9 d10 d11 d12
      go_wp2
      go_roundw
      case rel => exact ⟨k + 1, by omega, by go_num, HS2.out⟩
      case measure => simp [intOf]; omega
    · have hks : k = n := by omega
      have HB := hide hb
      have HE := hide (show (stepsM l).take k = stepsM l from List.take_of_length_le (by unfold stepsM; rw [List.length_map, HLEN.out, hks]; exact Nat.le_refl _))
      subst hks
      clear hb
      go_wp2
      go_ret
      exact ⟨p, rfl, HE.out ▸ HB.out⟩
end Go.Proofs.Ytapabbpdfplpoaa
namespace Go.CH.Lic

theorem findG_iff {b : BkM} (h : Inv2 b) {id : ByteArray} {i : Nat} : findG b id = some i ↔ i < b.gs.length ∧ (gat b i).l.id = id := by
  constructor
  · intro hf; exact ⟨(findG_some hf).1, (findG_some hf).2.1⟩
  · rintro ⟨hi, he⟩
    cases hf : findG b id with
    | none => exact absurd he (findG_none hf _ (gat_mem hi))
    | some j =>
      obtain ⟨hj, hej, _⟩ := findG_some hf
      have hn := h.ids
      have : (b.gs.map (·.l.id))[i]'(by simpa using hi) = (b.gs.map (·.l.id))[j]'(by simpa using hj) := by
        simp only [List.getElem_map]
        rw [← gat_get hi, ← gat_get hj, he, hej]
      have := (List.getElem_inj hn).1 this
      rw [this]
theorem findG_none_iff {b : BkM} {id : ByteArray} : findG b id = none ↔ ∀ g ∈ b.gs, g.l.id ≠ id := by
  constructor
  · exact findG_none
  · intro h
    unfold findG
    rw [List.findIdx?_eq_none_iff]
    intro g hg; simpa using h g hg
theorem gat_add {b : BkM} {l : LicM} (i : Nat) : gat (addM b l) i = if i < b.gs.length then gat b i else if i = b.gs.length then ⟨l, 0, 0, -1⟩ else default := by
  unfold gat addM
  simp only [List.getD_eq_getElem?_getD]
  by_cases h : i < b.gs.length
  · rw [if_pos h, List.getElem?_append_left h]
  · rw [if_neg h]
    by_cases e : i = b.gs.length
    · subst e; simp
    · rw [if_neg e, List.getElem?_eq_none (by simp; omega)]; rfl
theorem add_len (b : BkM) (l : LicM) : (addM b l).gs.length = b.gs.length + 1 := by simp [addM]
theorem runsB_neg {f t e e' a : Int} (h : e < 0) (h' : e' < 0) : runsB f t e a = runsB f t e' a := by
  unfold runsB; rw [decide_eq_true h, decide_eq_true h']; simp
/-! Split -/
theorem split_cases (b : BkM) (id into : ByteArray) (q u : Int) : ((splitR b id into q u).1 ≠ 0 ∧ (splitR b id into q u).2 = b) ∨
    ∃ i, findG b id = some i ∧ (gat b i).e < 0 ∧ findG b into = none ∧ b.gs.length < 100 ∧ isName into = true ∧ 0 ≤ q ∧ 0 ≤ u ∧ q ≤ (gat b i).l.q - (gat b i).su ∧ u ≤ (gat b i).l.u - (gat b i).sn ∧
      splitR b id into q u = (0, addM (putG b i { gat b i with l := { (gat b i).l with q := (gat b i).l.q - q, u := (gat b i).l.u - u } }) (splitL (gat b i).l into q u)) := by
  unfold splitR
  cases hf : findG b id with
  | none => left; simp
  | some i =>
    simp only
    by_cases h1 : 0 ≤ (gat b i).e
    · left; simp [h1]
    by_cases h2 : isName into = false ∨ q < 0 ∨ u < 0
    · left; simp only [if_neg h1, if_pos h2]; simp
    by_cases h3 : (findG b into).isSome
    · left; simp only [if_neg h1, if_neg h2, if_pos h3]; simp
    by_cases h4 : 100 ≤ b.gs.length
    · left; simp only [if_neg h1, if_neg h2, if_neg h3, if_pos h4]; simp
    by_cases h5 : (gat b i).l.q - (gat b i).su < q ∨ (gat b i).l.u - (gat b i).sn < u
    · left; simp only [if_neg h1, if_neg h2, if_neg h3, if_neg h4, if_pos h5]; simp
    right
    simp only [not_or, Bool.not_eq_false] at h2
    refine ⟨i, rfl, by omega, by simpa using h3, by omega, h2.1, by omega, by omega, by omega, by omega, ?_⟩
    simp only [if_neg h1, if_neg h3, if_neg h4, if_neg h5]
    rw [if_neg]
    simp only [not_or, Bool.not_eq_false]; exact h2
theorem split_ok {b : BkM} (h : Inv2 b) {id into : ByteArray} {q u : Int} (he : (splitR b id into q u).1 = 0) (a : Int) :
    (leftR b id a).2.2 = (leftR (splitR b id into q u).2 id a).2.2 ∧ (leftR (splitR b id into q u).2 into a).2.2 = (leftR (splitR b id into q u).2 id a).2.2 ∧
    (leftR (splitR b id into q u).2 id a).1 + (leftR (splitR b id into q u).2 into a).1 = (leftR b id a).1 ∧ (leftR (splitR b id into q u).2 id a).2.1 + (leftR (splitR b id into q u).2 into a).2.1 = (leftR b id a).2.1 ∧
    (splitR b id into q u).2.gs.length = b.gs.length + 1 := by
  have hinv := inv2_split h id into q u
  rcases split_cases b id into q u with ⟨h1, _⟩ | ⟨i, hf, hneg, hnone, hlen, hn, hq, hu, hq2, hu2, e⟩
  · exact absurd he h1
  rw [e] at hinv ⊢
  simp only at hinv ⊢
  have hi := (findG_some hf).1
  have hid := (findG_some hf).2.1
  have hb2 : gat (addM (putG b i { gat b i with l := { (gat b i).l with q := (gat b i).l.q - q, u := (gat b i).l.u - u } }) (splitL (gat b i).l into q u)) i = { gat b i with l := { (gat b i).l with q := (gat b i).l.q - q, u := (gat b i).l.u - u } } := by
    rw [gat_add, putG_len, if_pos hi, gat_putG hi, if_pos rfl]
  have hb3 : gat (addM (putG b i { gat b i with l := { (gat b i).l with q := (gat b i).l.q - q, u := (gat b i).l.u - u } }) (splitL (gat b i).l into q u)) b.gs.length = ⟨splitL (gat b i).l into q u, 0, 0, -1⟩ := by
    rw [gat_add, putG_len, if_neg (Nat.lt_irrefl _), if_pos rfl]
  have f1 : findG (addM (putG b i { gat b i with l := { (gat b i).l with q := (gat b i).l.q - q, u := (gat b i).l.u - u } }) (splitL (gat b i).l into q u)) id = some i :=
    (findG_iff hinv).2 ⟨by rw [add_len, putG_len]; omega, by rw [hb2]; exact hid⟩
  have f2 : findG (addM (putG b i { gat b i with l := { (gat b i).l with q := (gat b i).l.q - q, u := (gat b i).l.u - u } }) (splitL (gat b i).l into q u)) into = some b.gs.length :=
    (findG_iff hinv).2 ⟨by rw [add_len, putG_len]; omega, by rw [hb3]; rfl⟩
  have hr : runsG ⟨splitL (gat b i).l into q u, 0, 0, -1⟩ a = runsG (gat b i) a := by
    unfold runsG splitL; exact runsB_neg (show (-1 : Int) < 0 by decide) hneg
  have hr2 : runsG { gat b i with l := { (gat b i).l with q := (gat b i).l.q - q, u := (gat b i).l.u - u } } a = runsG (gat b i) a := rfl
  refine ⟨?_, ?_, ?_, ?_, by rw [add_len, putG_len]⟩
  all_goals
    unfold leftR
    simp only [f1, f2, hf, hb2, hb3, hr, hr2]
    by_cases w1 : inst a = false
    · simp [w1]
    · by_cases w2 : runsG (gat b i) a = false
      · simp [w1, w2]
      · simp only [if_neg w1, if_neg w2, splitL]
        try omega
theorem split_no {b : BkM} {id into : ByteArray} {q u : Int} (he : (splitR b id into q u).1 ≠ 0) : (splitR b id into q u).2 = b := by
  rcases split_cases b id into q u with ⟨_, h⟩ | ⟨i, _, _, _, _, _, _, _, _, _, e⟩
  · exact h
  · rw [e] at he; exact absurd rfl he
/-! Revoke -/
theorem revoke_cases (b : BkM) (id : ByteArray) (a : Int) : ((revokeR b id a).1 ≠ 0 ∧ (revokeR b id a).2 = b) ∨
    ∃ i, findG b id = some i ∧ (gat b i).e < 0 ∧ inst a = true ∧ revokeR b id a = (0, putG b i { gat b i with e := a }) := by
  unfold revokeR
  cases hf : findG b id with
  | none => left; simp
  | some i =>
    simp only
    by_cases h1 : inst a = false
    · left; simp [h1]
    by_cases h2 : 0 ≤ (gat b i).e
    · left; simp only [if_neg h1, if_pos h2]; simp
    right
    exact ⟨i, rfl, by omega, by simpa using h1, by simp only [if_neg h1, if_neg h2]⟩
theorem revoke_no {b : BkM} {id : ByteArray} {a : Int} (he : (revokeR b id a).1 ≠ 0) : (revokeR b id a).2 = b := by
  rcases revoke_cases b id a with ⟨_, h⟩ | ⟨i, _, _, _, e⟩
  · exact h
  · rw [e] at he; exact absurd rfl he
theorem inst_iff {a : Int} : inst a = true ↔ 0 ≤ a ∧ a ≤ 144001439 := within_iff
theorem revoke_ok {b : BkM} (h : Inv2 b) {id : ByteArray} {a o : Int} (he : (revokeR b id a).1 = 0) (ho : inst o = true) :
    (leftR b id o).2.2 = 0 ∧ (leftR (revokeR b id a).2 id o).2.2 = 0 ∧ (o < a → leftR (revokeR b id a).2 id o = leftR b id o) ∧
    (¬ o < a → leftR (revokeR b id a).2 id o = (0, 0, 0) ∧ ∀ nm un, (reserveR (revokeR b id a).2 id nm un o).1 ≠ 0) := by
  have hinv := inv2_revoke h id a
  rcases revoke_cases b id a with ⟨h1, _⟩ | ⟨i, hf, hneg, ha, e⟩
  · exact absurd he h1
  rw [e] at hinv ⊢
  simp only at hinv ⊢
  have hi := (findG_some hf).1
  have hid := (findG_some hf).2.1
  have hb2 : gat (putG b i { gat b i with e := a }) i = { gat b i with e := a } := by rw [gat_putG hi, if_pos rfl]
  have f1 : findG (putG b i { gat b i with e := a }) id = some i := (findG_iff hinv).2 ⟨by rw [putG_len]; exact hi, by rw [hb2]; exact hid⟩
  have ha' := inst_iff.1 ha
  have hoi : ¬ inst o = false := by rw [ho]; simp
  have e1 : leftR b id o = if runsG (gat b i) o = false then (0, 0, 0) else ((gat b i).l.q - (gat b i).su, (gat b i).l.u - (gat b i).sn, 0) := by
    unfold leftR; simp only [hf, if_neg hoi]
  have e2 : leftR (putG b i { gat b i with e := a }) id o = if runsG { gat b i with e := a } o = false then (0, 0, 0) else ((gat b i).l.q - (gat b i).su, (gat b i).l.u - (gat b i).sn, 0) := by
    unfold leftR; simp only [f1, hb2, if_neg hoi]
  refine ⟨?_, ?_, fun hlt => ?_, fun hge => ⟨?_, fun nm un => ?_⟩⟩
  · rw [e1]; split <;> rfl
  · rw [e2]; split <;> rfl
  · rw [e1, e2]
    have : runsG { gat b i with e := a } o = runsG (gat b i) o := by
      unfold runsG runsB
      simp only
      rw [decide_eq_true hneg, decide_eq_true hlt]; simp
    rw [this]
  · rw [e2, if_pos]
    unfold runsG runsB
    simp only
    rw [decide_eq_false hge, decide_eq_false (show ¬ a < 0 by omega)]; simp
  · have hr : runsG { gat b i with e := a } o = false := by
      unfold runsG runsB
      simp only
      rw [decide_eq_false hge, decide_eq_false (show ¬ a < 0 by omega)]; simp
    unfold reserveR
    split
    · simp
    · simp only [f1, hb2, hr]
      split
      · simp
      · split
        · simp
        · simp
theorem left_num {b : BkM} (h : Inv2 b) (id : ByteArray) (a : Int) : 0 ≤ (leftR b id a).1 ∧ (leftR b id a).1 ≤ 1000000000 ∧ 0 ≤ (leftR b id a).2.1 ∧ (leftR b id a).2.1 ≤ 1000 := by
  unfold leftR
  cases hf : findG b id with
  | none => simp
  | some i =>
    have hg := h.inv.g _ (gat_mem (findG_some hf).1)
    have hn := valid_num hg.1
    simp only
    split
    · simp
    · split
      · simp
      · simp only; omega
end Go.CH.Lic
namespace Go.Proofs.Ytapabbpdfplpoaa
open Go.RowKit Go.CH Go.CH.Lic
open Go.ChangeMaps (setBlock)

section
variable {w0 W : World} {X Y : Own} {p : Nat} {b : BkM}
theorem BSt.box (h : BSt w0 X p b W) (cs : Array Value) (t : TypeId) : BSt w0 (star (CellO W.heap.size cs t) X) p b (W.alloc (.cells cs t)) :=
  ⟨(h.run.fresh (star_ok bkO_ok h.xok) (cell_new W cs t)).rot, star_ok cell_ok h.xok, h.inv⟩
theorem BSt.dropX (h : BSt w0 (star X Y) p b W) (hy : Y.Ok) : BSt w0 Y p b W := ⟨h.run.rot.drop, hy, h.inv⟩
theorem BSt.cells {g : Nat} {cs : Array Value} {t : TypeId} (h : BSt w0 (star (CellO g cs t) X) p b W) : ∀ i v, cs[i]? = some v → W.cell? ⟨g, i, none⟩ = some v := by
  obtain ⟨F, hC⟩ := h.run.rot.fst
  exact fun i v hv => cell_at hC hv
theorem BSt.cells2 {g : Nat} {cs : Array Value} {t : TypeId} (h : BSt w0 (star Y (star (CellO g cs t) X)) p b W) : ∀ i v, cs[i]? = some v → W.cell? ⟨g, i, none⟩ = some v := by
  obtain ⟨F, hC⟩ := (h.run.perm (by ac_rfl : _ = star (CellO g cs t) (star (BkO b p) (star Y X)))).fst
  exact fun i v hv => cell_at hC hv
theorem BSt.cells3 {Z : Own} {g : Nat} {cs : Array Value} {t : TypeId} (h : BSt w0 (star Z (star Y (star (CellO g cs t) X))) p b W) : ∀ i v, cs[i]? = some v → W.cell? ⟨g, i, none⟩ = some v := by
  obtain ⟨F, hC⟩ := (h.run.perm (by ac_rfl : _ = star (CellO g cs t) (star (BkO b p) (star Z (star Y X))))).fst
  exact fun i v hv => cell_at hC hv
end
theorem bel_true {w w' : World} (hb : Below w.heap.size w w') : BelowRet w (.bool true) (.returned (.bool true)) w' := ⟨rfl, hb⟩

section
variable {W : World} {A : Option Addr} {n c : Nat} {l : List ZS}
set_option maxRecDepth 100000 in
set_option maxHeartbeats 3200000 in
theorem splits_away (hs : Steps W A n l) (id into : ByteArray) (hid : id.size ≤ maxLen) (hinto : into.size ≤ maxLen) (q u a : Int) (hn : fewB (stepsM l) = false ∨ (fewB (stepsM l) = true ∧ 60 < id.size) ∨ (fewB (stepsM l) = true ∧ ¬ 60 < id.size ∧ 60 < into.size)) :
    Calls Try.prog 15 #[.slice A n c, .string id, .string into, .int .i64 q, .int .i64 u, .int .i64 a] W (BelowRet W (.bool true)) := by
  have KH := hide (head35_any W)
  have KF := hide (fun w1 (hb : Below W.heap.size W w1) => fewL_any (c := c) (hs.keep hb))
  unfold maxLen at hid hinto
  clear hs
  rcases hn with h1 | ⟨h1, h2⟩ | ⟨h1, h2, h3⟩
  · rw [h1] at KF
    clear h1
    go_enter Try.func15, Try.ntmps15
    go_wp2_with fail
    refine KH.out.mono ?_
    rintro e w1 ⟨rfl, hb1⟩
    have KA := hide (KF.out w1 hb1)
    have HB1 := hide hb1
    clear hb1
    go_wp2_with fail
    refine KA.out.mono ?_
    rintro e w2 ⟨rfl, hb2⟩
    have HB2 := hide (HB1.out.trans (hb2.mono HB1.out.size))
    clear hb2
    go_wp2
    go_ret
    exact bel_true HB2.out
  · rw [h1] at KF
    clear h1
    go_enter Try.func15, Try.ntmps15
    go_wp2_with fail
    refine KH.out.mono ?_
    rintro e w1 ⟨rfl, hb1⟩
    have KA := hide (KF.out w1 hb1)
    have HB1 := hide hb1
    clear hb1
    go_wp2_with fail
    refine KA.out.mono ?_
    rintro e w2 ⟨rfl, hb2⟩
    have HB2 := hide (HB1.out.trans (hb2.mono HB1.out.size))
    clear hb2
    go_wp2
    go_ret
    exact bel_true HB2.out
  · rw [h1] at KF
    clear h1
    go_enter Try.func15, Try.ntmps15
    go_wp2_with fail
    refine KH.out.mono ?_
    rintro e w1 ⟨rfl, hb1⟩
    have KA := hide (KF.out w1 hb1)
    have HB1 := hide hb1
    clear hb1
    go_wp2_with fail
    refine KA.out.mono ?_
    rintro e w2 ⟨rfl, hb2⟩
    have HB2 := hide (HB1.out.trans (hb2.mono HB1.out.size))
    clear hb2
    go_wp2
    go_ret
    exact bel_true HB2.out
set_option maxRecDepth 100000 in
set_option maxHeartbeats 6400000 in
theorem splits_no (hs : Steps W A n l) (h1 : fewB (stepsM l) = true) (id into : ByteArray) (hid : ¬ 60 < id.size) (hinto : ¬ 60 < into.size) (q u a : Int) (he : (splitR (playM (stepsM l)) id into q u).1 ≠ 0) :
    Calls Try.prog 15 #[.slice A n c, .string id, .string into, .int .i64 q, .int .i64 u, .int .i64 a] W (BelowRet W (.bool true)) := by
  have KH := hide (head35_any W)
  have KF := hide (fun w1 (hb : Below W.heap.size W w1) => fewL_any (c := c) (hs.keep hb))
  have KP := hide (fun w1 (hb : Below W.heap.size W w1) => play_any (c := c) ((Run.begin W).below emp_ok hb) emp_ok hs h1)
  obtain ⟨b, hbk⟩ : ∃ b, b = playM (stepsM l) := ⟨_, rfl⟩
  rw [← hbk] at KP
  have hI : Inv2 b := hbk ▸ inv2_play _
  rw [h1] at KF
  have HI := hide hI
  clear hs h1 hI
  go_enter Try.func15, Try.ntmps15
  go_wp2_with fail
  refine KH.out.mono ?_
  rintro e w1 ⟨rfl, hb1⟩
  have KA := hide (KF.out w1 hb1)
  have HB1 := hide hb1
  clear hb1
  go_wp2_with fail
  refine KA.out.mono ?_
  rintro e w2 ⟨rfl, hb2⟩
  have KB := hide (KP.out w2 (HB1.out.trans (hb2.mono HB1.out.size)))
  clear hb2 KA KF KP KH HB1
  go_wp2_with fail
  refine KB.out.mono ?_
  rintro e w3 ⟨p, rfl, hS⟩
  have S3 := hide hS
  clear hS KB
  rw [← hbk] at he
  clear hbk
  obtain ⟨m, hmm⟩ : ∃ m, m = b.gs.length := ⟨_, rfl⟩
  have KL := hide (st_list S3.out)
  unfold gptr at *
  go_wp2_with fail
  refine KL.out.mono ?_
  rintro e w4 ⟨A4, c4, zs4, rfl, hm, hS⟩
  have hlen : zs4.length = m := by rw [hmm]; have := congrArg List.length hm; simpa using this
  rw [hlen]
  have S4 := hide (hS.dropX S3.out.xok)
  have hm100 := HI.out.inv.gn
  rw [← hmm] at hm100
  have HMM := hide hmm
  clear hm hlen hS KL S3 hmm
  have K5 := hide (st_left S4.out id a)
  obtain ⟨x, y, z, hr⟩ : ∃ x y z, leftR b id a = (x, y, z) := ⟨_, _, _, rfl⟩
  rw [hr] at K5
  unfold leftV gptr at K5
  go_wp2_with fail
  refine K5.out.mono ?_
  rintro e w5 ⟨rfl, hS⟩
  have S5 := hide (hS.box #[.int .i64 x, .int .i64 y] 66)
  clear hS K5 S4
  have K6 := hide (st_split S5.out id into q u (by unfold maxLen; omega))
  rw [split_no he] at K6
  obtain ⟨er, her⟩ : ∃ er, er = (splitR b id into q u).1 := ⟨_, rfl⟩
  rw [← her] at K6 he
  have he1 : (er != 0) = true := by simpa using he
  have he2 : (er == 0) = false := by simpa using he
  clear her he
  unfold gptr at K6
  go_wp2_with fail
  refine K6.out.mono ?_
  rintro e w6 ⟨rfl, hS⟩
  have S6 := hide hS
  clear hS K6 S5
  have K7 := hide (st_left S6.out id a)
  rw [hr] at K7
  clear hr
  unfold leftV gptr at K7
  go_wp2_with fail
  refine K7.out.mono ?_
  rintro e w7 ⟨rfl, hS⟩
  have S7 := hide (hS.box #[.int .i64 x, .int .i64 y] 66)
  have x0 := hS.cells 0 _ rfl
  have x1 := hS.cells 1 _ rfl
  have hl5 : w5.heap.size < w7.heap.size := World.block_lt_of_cell? _ _ x0
  clear hS K7 S6
  have K8 := hide (st_list S7.out)
  unfold gptr at K8
  go_wp2_with fail
  refine K8.out.mono ?_
  rintro e w8 ⟨A8, c8, zs8, rfl, hm, hS⟩
  have hlen : zs8.length = m := by rw [HMM.out]; have := congrArg List.length hm; simpa using this
  rw [hlen]
  have HB := hide hS.bel
  clear hm hlen hS K8
  go_wp2
  go_ret
  exact bel_true HB.out
set_option maxRecDepth 100000 in
set_option maxHeartbeats 6400000 in
theorem splits_yes (hs : Steps W A n l) (h1 : fewB (stepsM l) = true) (id into : ByteArray) (hid : ¬ 60 < id.size) (hinto : ¬ 60 < into.size) (q u a : Int) (he : (splitR (playM (stepsM l)) id into q u).1 = 0) :
    Calls Try.prog 15 #[.slice A n c, .string id, .string into, .int .i64 q, .int .i64 u, .int .i64 a] W (BelowRet W (.bool true)) := by
  have KH := hide (head35_any W)
  have KF := hide (fun w1 (hb : Below W.heap.size W w1) => fewL_any (c := c) (hs.keep hb))
  have KP := hide (fun w1 (hb : Below W.heap.size W w1) => play_any (c := c) ((Run.begin W).below emp_ok hb) emp_ok hs h1)
  obtain ⟨b, hbk⟩ : ∃ b, b = playM (stepsM l) := ⟨_, rfl⟩
  rw [← hbk] at KP
  have hI : Inv2 b := hbk ▸ inv2_play _
  rw [h1] at KF
  have HI := hide hI
  clear hs h1 hI
  go_enter Try.func15, Try.ntmps15
  go_wp2_with fail
  refine KH.out.mono ?_
  rintro e w1 ⟨rfl, hb1⟩
  have KA := hide (KF.out w1 hb1)
  have HB1 := hide hb1
  clear hb1
  go_wp2_with fail
  refine KA.out.mono ?_
  rintro e w2 ⟨rfl, hb2⟩
  have KB := hide (KP.out w2 (HB1.out.trans (hb2.mono HB1.out.size)))
  clear hb2 KA KF KP KH HB1
  go_wp2_with fail
  refine KB.out.mono ?_
  rintro e w3 ⟨p, rfl, hS⟩
  have S3 := hide hS
  clear hS KB
  rw [← hbk] at he
  clear hbk
  obtain ⟨m, hmm⟩ : ∃ m, m = b.gs.length := ⟨_, rfl⟩
  have KL := hide (st_list S3.out)
  unfold gptr at *
  go_wp2_with fail
  refine KL.out.mono ?_
  rintro e w4 ⟨A4, c4, zs4, rfl, hm, hS⟩
  have hlen : zs4.length = m := by rw [hmm]; have := congrArg List.length hm; simpa using this
  rw [hlen]
  have S4 := hide (hS.dropX S3.out.xok)
  have hm100 := HI.out.inv.gn
  rw [← hmm] at hm100
  have HMM := hide hmm
  clear hm hlen hS KL S3 hmm
  have K5 := hide (st_left S4.out id a)
  obtain ⟨x, y, z, hr⟩ : ∃ x y z, leftR b id a = (x, y, z) := ⟨_, _, _, rfl⟩
  rw [hr] at K5
  unfold leftV gptr at K5
  go_wp2_with fail
  refine K5.out.mono ?_
  rintro e w5 ⟨rfl, hS⟩
  have S5 := hide (hS.box #[.int .i64 x, .int .i64 y] 66)
  clear hS K5 S4
  have K6 := hide (st_split S5.out id into q u (by unfold maxLen; omega))
  have HSP := hide (split_ok HI.out he a)
  have HI2 := hide (inv2_split HI.out id into q u)
  rw [he] at K6
  obtain ⟨b2, hb2⟩ : ∃ b2, b2 = (splitR b id into q u).2 := ⟨_, rfl⟩
  rw [← hb2] at K6 HSP HI2
  clear hb2 he
  unfold gptr at K6
  go_wp2_with fail
  refine K6.out.mono ?_
  rintro e w6 ⟨rfl, hS⟩
  have S6 := hide hS
  clear hS K6 S5
  have K7 := hide (st_left S6.out id a)
  obtain ⟨x2, y2, z2, hr2⟩ : ∃ x y z, leftR b2 id a = (x, y, z) := ⟨_, _, _, rfl⟩
  obtain ⟨x3, y3, z3, hr3⟩ : ∃ x y z, leftR b2 into a = (x, y, z) := ⟨_, _, _, rfl⟩
  rw [hr, hr2, hr3] at HSP
  obtain ⟨g1, g2, g3, g4, g5⟩ := HSP.out
  simp only at g1 g2 g3 g4
  subst g1 g2
  have hbx := left_num HI2.out id a
  rw [hr2] at hbx
  have hby := left_num HI2.out into a
  rw [hr3] at hby
  simp only at hbx hby
  obtain ⟨bx1, bx2, bx3, bx4⟩ := hbx
  obtain ⟨by1, by2, by3, by4⟩ := hby
  have G5 := hide g5
  have G3 := hide g3
  have G4 := hide g4
  rw [hr2] at K7
  clear HSP g5 hr hr2
  unfold leftV gptr at K7
  go_wp2_with fail
  refine K7.out.mono ?_
  rintro e w7 ⟨rfl, hS⟩
  have S7 := hide (hS.box #[.int .i64 x2, .int .i64 y2] 66)
  clear hS K7 S6
  have K8 := hide (st_left S7.out into a)
  rw [hr3] at K8
  clear hr3
  unfold leftV gptr at K8
  go_wp2_with fail
  refine K8.out.mono ?_
  rintro e w8 ⟨rfl, hS⟩
  have S8 := hide (hS.box #[.int .i64 x3, .int .i64 y3] 66)
  have q0 := hS.cells 0 _ rfl
  have q1 := hS.cells 1 _ rfl
  have x0 := hS.cells2 0 _ rfl
  have x1 := hS.cells2 1 _ rfl
  have hl5 : w5.heap.size < w8.heap.size := World.block_lt_of_cell? _ _ x0
  have hl7 : w7.heap.size < w8.heap.size := World.block_lt_of_cell? _ _ q0
  clear hS K8 S7
  have K9 := hide (st_list S8.out)
  unfold gptr at K9
  go_wp2_with fail
  refine K9.out.mono ?_
  rintro e w9 ⟨A9, c9, zs9, rfl, hm, hS⟩
  have hlen : zs9.length = m + 1 := by rw [HMM.out, ← G5.out]; have := congrArg List.length hm; simpa using this
  rw [hlen]
  have HB := hide hS.bel
  clear hm hlen hS K9
  go_wp2
  go_ret
  exact bel_true HB.out
theorem splits_any (hs : Steps W A n l) (id into : ByteArray) (hid : id.size ≤ maxLen) (hinto : into.size ≤ maxLen) (q u a : Int) :
    Calls Try.prog 15 #[.slice A n c, .string id, .string into, .int .i64 q, .int .i64 u, .int .i64 a] W (BelowRet W (.bool true)) := by
  cases h1 : fewB (stepsM l) with
  | false => exact splits_away hs id into hid hinto q u a (.inl h1)
  | true =>
    by_cases h2 : 60 < id.size
    · exact splits_away hs id into hid hinto q u a (.inr (.inl ⟨h1, h2⟩))
    by_cases h3 : 60 < into.size
    · exact splits_away hs id into hid hinto q u a (.inr (.inr ⟨h1, h2, h3⟩))
    by_cases he : (splitR (playM (stepsM l)) id into q u).1 = 0
    · exact splits_yes hs h1 id into h2 h3 q u a he
    · exact splits_no hs h1 id into h2 h3 q u a he
end
end Go.Proofs.Ytapabbpdfplpoaa
