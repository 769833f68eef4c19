/-
  LicenceRevoked, walked.
  LicenceNil, walked.
  Licence: what a step may change.
  append, up to the room that a machine has.
  A region that draws its order, by an invariant over the operations that have been listed.
-/
import Derived.Test.YtapabbpdfplpoaaM13
import Derived.Test.YtapabbpdfplpoaaM1
import Derived.Test.YtapabbpdfplpoaaM4
set_option linter.unusedSimpArgs false
set_option linter.unusedVariables false
namespace Go.Proofs.Ytapabbpdfplpoaa
open Go.RowKit Go.CH Go.CH.Lic
open Go.ChangeMaps (setBlock)

section
variable {W : World} {A : Option Addr} {n c : Nat} {l : List ZS}
def newS : ByteArray := ⟨#[113, 117, 105, 116, 101, 95, 110, 101, 119]⟩
set_option maxRecDepth 100000 in
set_option maxHeartbeats 3200000 in
theorem revoked_away (hs : Steps W A n l) (id : ByteArray) (hid : id.size ≤ maxLen) (a o un : Int) (hn : fewB (stepsM l) = false ∨ (fewB (stepsM l) = true ∧ 60 < id.size) ∨ (fewB (stepsM l) = true ∧ ¬ 60 < id.size ∧ o < 0) ∨ (fewB (stepsM l) = true ∧ ¬ 60 < id.size ∧ ¬ o < 0 ∧ 144001439 < o)) :
    Calls Try.prog 14 #[.slice A n c, .string id, .int .i64 a, .int .i64 o, .int .i64 un] W (BelowRet W (.bool true)) := by
  have KH := hide (head35_any W)
  have KF := hide (fun w1 (hb : Below W.heap.size W w1) => fewL_any (c := c) (hs.keep hb))
  unfold maxLen at hid
  clear hs
  rcases hn with h1 | ⟨h1, h2⟩ | ⟨h1, h2, h3⟩ | ⟨h1, h2, h3, h4⟩
  · rw [h1] at KF
    clear h1
    go_enter Try.func14, Try.ntmps14
    go_wp2_with fail
    refine KH.out.mono ?_
    rintro e w1 ⟨rfl, hb1⟩
    have KA := hide (KF.out w1 hb1)
    have HB1 := hide hb1
    clear hb1
    go_wp2_with fail
    refine KA.out.mono ?_
    rintro e w2 ⟨rfl, hb2⟩
    have HB2 := hide (HB1.out.trans (hb2.mono HB1.out.size))
    clear hb2
    go_wp2
    go_ret
    exact bel_true HB2.out
  · rw [h1] at KF
    clear h1
    go_enter Try.func14, Try.ntmps14
    go_wp2_with fail
    refine KH.out.mono ?_
    rintro e w1 ⟨rfl, hb1⟩
    have KA := hide (KF.out w1 hb1)
    have HB1 := hide hb1
    clear hb1
    go_wp2_with fail
    refine KA.out.mono ?_
    rintro e w2 ⟨rfl, hb2⟩
    have HB2 := hide (HB1.out.trans (hb2.mono HB1.out.size))
    clear hb2
    go_wp2
    go_ret
    exact bel_true HB2.out
  · rw [h1] at KF
    clear h1
    go_enter Try.func14, Try.ntmps14
    go_wp2_with fail
    refine KH.out.mono ?_
    rintro e w1 ⟨rfl, hb1⟩
    have KA := hide (KF.out w1 hb1)
    have HB1 := hide hb1
    clear hb1
    go_wp2_with fail
    refine KA.out.mono ?_
    rintro e w2 ⟨rfl, hb2⟩
    have HB2 := hide (HB1.out.trans (hb2.mono HB1.out.size))
    clear hb2
    go_wp2
    go_ret
    exact bel_true HB2.out
  · rw [h1] at KF
    clear h1
    go_enter Try.func14, Try.ntmps14
    go_wp2_with fail
    refine KH.out.mono ?_
    rintro e w1 ⟨rfl, hb1⟩
    have KA := hide (KF.out w1 hb1)
    have HB1 := hide hb1
    clear hb1
    go_wp2_with fail
    refine KA.out.mono ?_
    rintro e w2 ⟨rfl, hb2⟩
    have HB2 := hide (HB1.out.trans (hb2.mono HB1.out.size))
    clear hb2
    go_wp2
    go_ret
    exact bel_true HB2.out
set_option maxRecDepth 100000 in
set_option maxHeartbeats 6400000 in
theorem revoked_no (hs : Steps W A n l) (h1 : fewB (stepsM l) = true) (id : ByteArray) (hid : ¬ 60 < id.size) (a o un : Int) (ho0 : ¬ o < 0) (ho1 : ¬ 144001439 < o) (he : (revokeR (playM (stepsM l)) id a).1 ≠ 0) :
    Calls Try.prog 14 #[.slice A n c, .string id, .int .i64 a, .int .i64 o, .int .i64 un] W (BelowRet W (.bool true)) := by
  have KH := hide (head35_any W)
  have KF := hide (fun w1 (hb : Below W.heap.size W w1) => fewL_any (c := c) (hs.keep hb))
  have KP := hide (fun w1 (hb : Below W.heap.size W w1) => play_any (c := c) ((Run.begin W).below emp_ok hb) emp_ok hs h1)
  obtain ⟨b, hbk⟩ : ∃ b, b = playM (stepsM l) := ⟨_, rfl⟩
  rw [← hbk] at KP
  have hI : Inv2 b := hbk ▸ inv2_play _
  rw [← hbk] at he
  rw [h1] at KF
  have HI := hide hI
  clear hs h1 hI hbk
  go_enter Try.func14, Try.ntmps14
  go_wp2_with fail
  refine KH.out.mono ?_
  rintro e w1 ⟨rfl, hb1⟩
  have KA := hide (KF.out w1 hb1)
  have HB1 := hide hb1
  clear hb1
  go_wp2_with fail
  refine KA.out.mono ?_
  rintro e w2 ⟨rfl, hb2⟩
  have KB := hide (KP.out w2 (HB1.out.trans (hb2.mono HB1.out.size)))
  clear hb2 KA KF KP KH HB1
  go_wp2_with fail
  refine KB.out.mono ?_
  rintro e w3 ⟨p, rfl, hS⟩
  have S4 := hide hS
  clear hS KB
  have K5 := hide (st_left S4.out id o)
  obtain ⟨x, y, z, hr⟩ : ∃ x y z, leftR b id o = (x, y, z) := ⟨_, _, _, rfl⟩
  rw [hr] at K5
  unfold leftV gptr at K5
  unfold gptr
  go_wp2_with fail
  refine K5.out.mono ?_
  rintro e w5 ⟨rfl, hS⟩
  have S5 := hide (hS.box #[.int .i64 x, .int .i64 y] 66)
  clear hS K5 S4
  have K6 := hide (st_revoke S5.out id a)
  rw [revoke_no he] at K6
  obtain ⟨er, her⟩ : ∃ er, er = (revokeR b id a).1 := ⟨_, rfl⟩
  rw [← her] at K6 he
  have he1 : (er != 0) = true := by simpa using he
  have he2 : (er == 0) = false := by simpa using he
  clear her he
  unfold gptr at K6
  go_wp2_with fail
  refine K6.out.mono ?_
  rintro e w6 ⟨rfl, hS⟩
  have S6 := hide hS
  clear hS K6 S5
  have K7 := hide (st_left S6.out id o)
  rw [hr] at K7
  clear hr
  unfold leftV gptr at K7
  go_wp2_with fail
  refine K7.out.mono ?_
  rintro e w7 ⟨rfl, hS⟩
  have S7 := hide (hS.box #[.int .i64 x, .int .i64 y] 66)
  have x0 := hS.cells 0 _ rfl
  have x1 := hS.cells 1 _ rfl
  have hl5 : w5.heap.size < w7.heap.size := World.block_lt_of_cell? _ _ x0
  have HB := hide S7.out.bel
  clear hS K7 S6 S7
  go_wp2
  go_ret
  exact bel_true HB.out
set_option maxRecDepth 100000 in
set_option maxHeartbeats 6400000 in
theorem revoked_before (hs : Steps W A n l) (h1 : fewB (stepsM l) = true) (id : ByteArray) (hid : ¬ 60 < id.size) (a o un : Int) (ho0 : ¬ o < 0) (ho1 : ¬ 144001439 < o) (he : (revokeR (playM (stepsM l)) id a).1 = 0) (hlt : o < a) :
    Calls Try.prog 14 #[.slice A n c, .string id, .int .i64 a, .int .i64 o, .int .i64 un] W (BelowRet W (.bool true)) := by
  have KH := hide (head35_any W)
  have KF := hide (fun w1 (hb : Below W.heap.size W w1) => fewL_any (c := c) (hs.keep hb))
  have KP := hide (fun w1 (hb : Below W.heap.size W w1) => play_any (c := c) ((Run.begin W).below emp_ok hb) emp_ok hs h1)
  obtain ⟨b, hbk⟩ : ∃ b, b = playM (stepsM l) := ⟨_, rfl⟩
  rw [← hbk] at KP
  have hI : Inv2 b := hbk ▸ inv2_play _
  rw [← hbk] at he
  rw [h1] at KF
  have HI := hide hI
  clear hs h1 hI hbk
  go_enter Try.func14, Try.ntmps14
  go_wp2_with fail
  refine KH.out.mono ?_
  rintro e w1 ⟨rfl, hb1⟩
  have KA := hide (KF.out w1 hb1)
  have HB1 := hide hb1
  clear hb1
  go_wp2_with fail
  refine KA.out.mono ?_
  rintro e w2 ⟨rfl, hb2⟩
  have KB := hide (KP.out w2 (HB1.out.trans (hb2.mono HB1.out.size)))
  clear hb2 KA KF KP KH HB1
  go_wp2_with fail
  refine KB.out.mono ?_
  rintro e w3 ⟨p, rfl, hS⟩
  have S4 := hide hS
  clear hS KB
  have K5 := hide (st_left S4.out id o)
  obtain ⟨x, y, z, hr⟩ : ∃ x y z, leftR b id o = (x, y, z) := ⟨_, _, _, rfl⟩
  rw [hr] at K5
  unfold leftV gptr at K5
  unfold gptr
  go_wp2_with fail
  refine K5.out.mono ?_
  rintro e w5 ⟨rfl, hS⟩
  have S5 := hide (hS.box #[.int .i64 x, .int .i64 y] 66)
  clear hS K5 S4
  have K6 := hide (st_revoke S5.out id a)
  have hR := revoke_ok HI.out he (o := o) (inst_iff.2 (by omega))
  have HI2 := hide (inv2_revoke HI.out id a)
  rw [he] at K6
  obtain ⟨b2, hb2⟩ : ∃ b2, b2 = (revokeR b id a).2 := ⟨_, rfl⟩
  rw [← hb2] at K6 hR HI2
  clear hb2 he
  rw [hr] at hR
  obtain ⟨x2, y2, z2, hr2⟩ : ∃ x y z, leftR b2 id o = (x, y, z) := ⟨_, _, _, rfl⟩
  rw [hr2] at hR
  obtain ⟨g1, g2, g3, g4⟩ := hR
  simp only at g1 g2
  subst g1 g2
  unfold gptr at K6
  go_wp2_with fail
  refine K6.out.mono ?_
  rintro e w6 ⟨rfl, hS⟩
  have S6 := hide hS
  clear hS K6 S5
  have K7 := hide (st_left S6.out id o)
  rw [hr2] at K7
  clear hr
  have g := g3 hlt
  injection g with g5 g6
  injection g6 with g6 g7
  subst g5 g6
  clear g3 g4 g7 hr2
  unfold leftV gptr at K7
  go_wp2_with fail
  refine K7.out.mono ?_
  rintro e w7 ⟨rfl, hS⟩
  have S7 := hide (hS.box #[.int .i64 x2, .int .i64 y2] 66)
  have x0 := hS.cells 0 _ rfl
  have x1 := hS.cells 1 _ rfl
  have hl5 : w5.heap.size < w7.heap.size := World.block_lt_of_cell? _ _ x0
  have HB := hide S7.out.bel
  clear hS K7 S6 S7
  go_wp2
  go_ret
  exact bel_true HB.out
set_option maxRecDepth 100000 in
set_option maxHeartbeats 6400000 in
theorem revoked_after (hs : Steps W A n l) (h1 : fewB (stepsM l) = true) (id : ByteArray) (hid : ¬ 60 < id.size) (a o un : Int) (ho0 : ¬ o < 0) (ho1 : ¬ 144001439 < o) (he : (revokeR (playM (stepsM l)) id a).1 = 0) (hlt : ¬ o < a) :
    Calls Try.prog 14 #[.slice A n c, .string id, .int .i64 a, .int .i64 o, .int .i64 un] W (BelowRet W (.bool true)) := by
  have KH := hide (head35_any W)
  have KF := hide (fun w1 (hb : Below W.heap.size W w1) => fewL_any (c := c) (hs.keep hb))
  have KP := hide (fun w1 (hb : Below W.heap.size W w1) => play_any (c := c) ((Run.begin W).below emp_ok hb) emp_ok hs h1)
  obtain ⟨b, hbk⟩ : ∃ b, b = playM (stepsM l) := ⟨_, rfl⟩
  rw [← hbk] at KP
  have hI : Inv2 b := hbk ▸ inv2_play _
  rw [← hbk] at he
  rw [h1] at KF
  have HI := hide hI
  clear hs h1 hI hbk
  go_enter Try.func14, Try.ntmps14
  go_wp2_with fail
  refine KH.out.mono ?_
  rintro e w1 ⟨rfl, hb1⟩
  have KA := hide (KF.out w1 hb1)
  have HB1 := hide hb1
  clear hb1
  go_wp2_with fail
  refine KA.out.mono ?_
  rintro e w2 ⟨rfl, hb2⟩
  have KB := hide (KP.out w2 (HB1.out.trans (hb2.mono HB1.out.size)))
  clear hb2 KA KF KP KH HB1
  go_wp2_with fail
  refine KB.out.mono ?_
  rintro e w3 ⟨p, rfl, hS⟩
  have S4 := hide hS
  clear hS KB
  have K5 := hide (st_left S4.out id o)
  obtain ⟨x, y, z, hr⟩ : ∃ x y z, leftR b id o = (x, y, z) := ⟨_, _, _, rfl⟩
  rw [hr] at K5
  unfold leftV gptr at K5
  unfold gptr
  go_wp2_with fail
  refine K5.out.mono ?_
  rintro e w5 ⟨rfl, hS⟩
  have S5 := hide (hS.box #[.int .i64 x, .int .i64 y] 66)
  clear hS K5 S4
  have K6 := hide (st_revoke S5.out id a)
  have hR := revoke_ok HI.out he (o := o) (inst_iff.2 (by omega))
  have HI2 := hide (inv2_revoke HI.out id a)
  rw [he] at K6
  obtain ⟨b2, hb2⟩ : ∃ b2, b2 = (revokeR b id a).2 := ⟨_, rfl⟩
  rw [← hb2] at K6 hR HI2
  clear hb2 he
  rw [hr] at hR
  obtain ⟨x2, y2, z2, hr2⟩ : ∃ x y z, leftR b2 id o = (x, y, z) := ⟨_, _, _, rfl⟩
  rw [hr2] at hR
  obtain ⟨g1, g2, g3, g4⟩ := hR
  simp only at g1 g2
  subst g1 g2
  unfold gptr at K6
  go_wp2_with fail
  refine K6.out.mono ?_
  rintro e w6 ⟨rfl, hS⟩
  have S6 := hide hS
  clear hS K6 S5
  have K7 := hide (st_left S6.out id o)
  rw [hr2] at K7
  clear hr
  have g := (g4 hlt).1
  have HRS := hide ((g4 hlt).2 newS un)
  injection g with g5 g6
  injection g6 with g6 g7
  subst g5 g6
  clear g3 g4 g7 hr2
  unfold leftV gptr at K7
  go_wp2_with fail
  refine K7.out.mono ?_
  rintro e w7 ⟨rfl, hS⟩
  have S7 := hide (hS.box #[.int .i64 0, .int .i64 0] 66)
  clear hS K7 S6
  have K8 := hide (st_reserve S7.out id newS un o (by decide))
  obtain ⟨er, her⟩ : ∃ er, er = (reserveR b2 id newS un o).1 := ⟨_, rfl⟩
  have he := HRS.out
  rw [← her] at K8 he
  have he1 : (er != 0) = true := by simpa using he
  have he2 : (er == 0) = false := by simpa using he
  clear her he HRS
  unfold gptr newS at K8
  obtain ⟨F7, h7⟩ := S7.out.run.rot.fst
  have q0 := cell_at h7 (i := 0) rfl
  have q1 := cell_at h7 (i := 1) rfl
  clear h7
  go_wp2_with fail
  refine K8.out.mono ?_
  rintro e w8 ⟨rfl, hS⟩
  have x0 := hS.cells 0 _ rfl
  have x1 := hS.cells 1 _ rfl
  have HB := hide hS.bel
  clear hS K8 S7 q0 q1
  go_wp2
  go_ret
  exact bel_true HB.out
theorem revoked_any (hs : Steps W A n l) (id : ByteArray) (hid : id.size ≤ maxLen) (a o un : Int) :
    Calls Try.prog 14 #[.slice A n c, .string id, .int .i64 a, .int .i64 o, .int .i64 un] W (BelowRet W (.bool true)) := by
  cases h1 : fewB (stepsM l) with
  | false => exact revoked_away hs id hid a o un (.inl h1)
  | true =>
    by_cases h2 : 60 < id.size
    · exact revoked_away hs id hid a o un (.inr (.inl ⟨h1, h2⟩))
    by_cases h3 : o < 0
    · exact revoked_away hs id hid a o un (.inr (.inr (.inl ⟨h1, h2, h3⟩)))
    by_cases h4 : 144001439 < o
    · exact revoked_away hs id hid a o un (.inr (.inr (.inr ⟨h1, h2, h3, h4⟩)))
    by_cases he : (revokeR (playM (stepsM l)) id a).1 = 0
    · by_cases hlt : o < a
      · exact revoked_before hs h1 id h2 a o un h3 h4 he hlt
      · exact revoked_after hs h1 id h2 a o un h3 h4 he hlt
    · exact revoked_no hs h1 id h2 a o un h3 h4 he
end
end Go.Proofs.Ytapabbpdfplpoaa
namespace Go.Proofs.Ytapabbpdfplpoaa
open Go.RowKit Go.CH Go.CH.Lic
open Go.ChangeMaps (setBlock)

set_option maxHeartbeats 800000 in
theorem revoke_nil {w : World} (id : ByteArray) (a : Int) : Calls Try.prog 54 #[.pointer none, .string id, .int .i64 a] w (Quiet w (.int .i64 11)) := by
  have K := hide (find_nil (w := w))
  have KK := hide (key_nil (w := w))
  go_enter Try.func54, Try.ntmps54
  go_wp2_with fail
  refine (K.out _).mono ?_
  rintro e w' ⟨rfl, rfl⟩
  go_wp2
  go_ret
  exact ⟨rfl, rfl⟩
set_option maxHeartbeats 800000 in
theorem amend_nil {w : World} (id : ByteArray) (q u t : Int) : Calls Try.prog 55 #[.pointer none, .string id, .int .i64 q, .int .i64 u, .int .i64 t] w (Quiet w (.int .i64 11)) := by
  have K := hide (find_nil (w := w))
  have KK := hide (key_nil (w := w))
  go_enter Try.func55, Try.ntmps55
  go_wp2_with fail
  refine (K.out _).mono ?_
  rintro e w' ⟨rfl, rfl⟩
  go_wp2
  go_ret
  exact ⟨rfl, rfl⟩
set_option maxHeartbeats 800000 in
theorem split_nil {w : World} (id into : ByteArray) (q u : Int) : Calls Try.prog 56 #[.pointer none, .string id, .string into, .int .i64 q, .int .i64 u] w (Quiet w (.int .i64 11)) := by
  have K := hide (find_nil (w := w))
  have KK := hide (key_nil (w := w))
  go_enter Try.func56, Try.ntmps56
  go_wp2_with fail
  refine (K.out _).mono ?_
  rintro e w' ⟨rfl, rfl⟩
  go_wp2
  go_ret
  exact ⟨rfl, rfl⟩
set_option maxHeartbeats 800000 in
theorem use_nil {w : World} (nm : ByteArray) (un a : Int) : Calls Try.prog 41 #[.pointer none, .string nm, .int .i64 un, .int .i64 a] w (Quiet w (.int .i64 11)) := by
  have K := hide (find_nil (w := w))
  have KK := hide (key_nil (w := w))
  go_enter Try.func41, Try.ntmps41
  go_wp2_with fail
  refine (KK.out _).mono ?_
  rintro e w' ⟨rfl, rfl⟩
  go_wp2
  go_ret
  exact ⟨rfl, rfl⟩
set_option maxHeartbeats 800000 in
theorem return_nil {w : World} (nm : ByteArray) (un : Int) : Calls Try.prog 42 #[.pointer none, .string nm, .int .i64 un] w (Quiet w (.int .i64 11)) := by
  have K := hide (find_nil (w := w))
  have KK := hide (key_nil (w := w))
  go_enter Try.func42, Try.ntmps42
  go_wp2_with fail
  refine (KK.out _).mono ?_
  rintro e w' ⟨rfl, rfl⟩
  go_wp2
  go_ret
  exact ⟨rfl, rfl⟩
set_option maxHeartbeats 800000 in
theorem release_nil {w : World} (nm : ByteArray) : Calls Try.prog 57 #[.pointer none, .string nm] w (Quiet w (.int .i64 11)) := by
  have K := hide (find_nil (w := w))
  have KK := hide (key_nil (w := w))
  go_enter Try.func57, Try.ntmps57
  go_wp2_with fail
  refine (KK.out _).mono ?_
  rintro e w' ⟨rfl, rfl⟩
  go_wp2
  go_ret
  exact ⟨rfl, rfl⟩
set_option maxHeartbeats 800000 in
theorem grant_nil {w : World} (l : LicM) (A : Option Addr) (c : Nat) (B : Option Addr) (d : Nat) : Calls Try.prog 38 #[.pointer none, licV l A c B d] w (BelowRet w (.int .i64 1)) := by
  unfold licV
  go_enter Try.func38, Try.ntmps38
  go_wp2
  go_ret
  exact ⟨rfl, (Below.refl _ _).alloc (Nat.le_refl _) _⟩
set_option maxHeartbeats 800000 in
theorem left_nil {w : World} (id : ByteArray) (a : Int) : Calls Try.prog 43 #[.pointer none, .string id, .int .i64 a] w (BelowRet w (leftV (0, 0, 11))) := by
  have K := hide (find_nil (w := w.alloc (.cells #[.int .i64 0, .int .i64 0] 66)) id)
  go_enter Try.func43, Try.ntmps43
  go_wp2_with fail
  refine K.out.mono ?_
  rintro e w' ⟨rfl, rfl⟩
  go_wp2_with fail
  refine bodyPost_ret_by (res_cell_tmp rfl _ _ w.heap.size 66 #[.int .i64 0, .int .i64 0] (0, 0) rfl ?_ Try.underlying66 (by kernel_rfl)) rfl ?_
  · exact heap_alloc_new w _
  · exact ⟨rfl, (Below.refl _ _).alloc (Nat.le_refl _) _⟩
def OneOr (w : World) (e : Ending) (w' : World) : Prop := (e = .returned (.int .i64 1) ∨ e = .returned (.int .i64 11)) ∧ w = w'
set_option maxHeartbeats 1600000 in
theorem reserve_nil {w : World} (id nm : ByteArray) (un a : Int) (hs : nm.size ≤ maxLen) : Calls Try.prog 40 #[.pointer none, .string id, .string nm, .int .i64 un, .int .i64 a] w (OneOr w) := by
  have KN := hide (isName_any nm w hs)
  have KU := hide (within_any un 1000000000 w)
  have KI := hide (within_any a 144001439 w)
  have KF := hide (find_nil (w := w) id)
  cases t1 : isName nm with
  | false =>
    rw [t1] at KN
    clear t1
    go_enter Try.func40, Try.ntmps40
    go_wp2_with fail
    refine KN.out.mono ?_
    rintro e w' ⟨rfl, rfl⟩
    go_wp2
    go_ret
    exact ⟨.inl rfl, rfl⟩
  | true =>
  rw [t1] at KN
  cases t2 : within un 1000000000 with
  | false =>
    rw [t2] at KU
    clear t1 t2
    go_enter Try.func40, Try.ntmps40
    go_wp2_with fail
    refine KN.out.mono ?_
    rintro e w' ⟨rfl, rfl⟩
    go_wp2_with fail
    refine KU.out.mono ?_
    rintro e w' ⟨rfl, rfl⟩
    go_wp2
    go_ret
    exact ⟨.inl rfl, rfl⟩
  | true =>
  rw [t2] at KU
  cases t3 : within a 144001439 with
  | false =>
    rw [t3] at KI
    clear t1 t2 t3
    go_enter Try.func40, Try.ntmps40
    go_wp2_with fail
    refine KN.out.mono ?_
    rintro e w' ⟨rfl, rfl⟩
    go_wp2_with fail
    refine KU.out.mono ?_
    rintro e w' ⟨rfl, rfl⟩
    go_wp2_with fail
    refine KI.out.mono ?_
    rintro e w' ⟨rfl, rfl⟩
    go_wp2
    go_ret
    exact ⟨.inl rfl, rfl⟩
  | true =>
    rw [t3] at KI
    clear t1 t2 t3
    go_enter Try.func40, Try.ntmps40
    go_wp2_with fail
    refine KN.out.mono ?_
    rintro e w' ⟨rfl, rfl⟩
    go_wp2_with fail
    refine KU.out.mono ?_
    rintro e w' ⟨rfl, rfl⟩
    go_wp2_with fail
    refine KI.out.mono ?_
    rintro e w' ⟨rfl, rfl⟩
    go_wp2_with fail
    refine KF.out.mono ?_
    rintro e w' ⟨rfl, rfl⟩
    go_wp2
    go_ret
    exact ⟨.inr rfl, rfl⟩
theorem src_new13 (w : World) (xs : List Value) (e : TypeId) (h1 : ∀ u ∈ xs, u.oneCell' = true) : Src (w.alloc (.cells xs.toArray e)) (some ⟨w.heap.size, 0, none⟩) 1 xs.length xs := by
  refine ⟨by omega, h1, fun _ => ⟨_, rfl, fun j u hu => ?_⟩⟩
  obtain ⟨F', hC, -⟩ := cell_new w xs.toArray e
  rw [Addr.add_zero_]
  exact cell_at hC (by simpa using hu)
theorem scl_one (z : ZS) : ∀ u ∈ scl z, u.oneCell' = true := by
  intro u hu
  simp only [scl, stepL, List.mem_cons, List.not_mem_nil, or_false] at hu
  rcases hu with rfl | rfl | rfl | rfl | rfl | rfl | rfl | rfl | rfl | rfl | rfl | rfl | rfl <;> rfl
theorem steps_one {w W : World} {z : ZS} (hz : StepOk w z) (hb : Below w.heap.size w W) : Steps (W.alloc (sbox z.x z.A z.c z.B z.d)) (some ⟨W.heap.size, 0, none⟩) 1 [z] := by
  refine ⟨rfl, ?_, fun y hy => ?_, by decide⟩
  · have := src_new13 W (scl z) 80 (scl_one z)
    rw [show [z].flatMap scl = scl z from List.append_nil _]
    exact this
  · simp at hy; subst hy
    exact (hz.keep hb).keep ((Below.refl _ _).alloc (Nat.le_refl _) _)
theorem sbox_cells {w0 W : World} {z : ZS} (h : Run (fun _ => False) w0 (CellO w0.heap.size #[.int .i64 z.x.k, .string z.x.l.id, .slice z.A z.x.l.ms.length z.c, .slice z.B z.x.l.ps.length z.d, .int .i64 z.x.l.q, .int .i64 z.x.l.u, .int .i64 z.x.l.f, .int .i64 z.x.l.t, .string z.x.id, .string z.x.key, .int .i64 z.x.un, .int .i64 z.x.us, .int .i64 z.x.a] 80) W) : StepC W w0.heap.size 0 z := by
  obtain ⟨F, hC⟩ := h.get
  unfold StepC
  simp only [Nat.zero_add]
  exact ⟨cell_at hC rfl, cell_at hC rfl, cell_at hC rfl, cell_at hC rfl, cell_at hC rfl, cell_at hC rfl, cell_at hC rfl, cell_at hC rfl, cell_at hC rfl, cell_at hC rfl, cell_at hC rfl, cell_at hC rfl, cell_at hC rfl⟩
section
variable {W : World} {z : ZS}
set_option maxRecDepth 100000 in
set_option maxHeartbeats 6400000 in
theorem nil35_any (hz : StepOk W z) (id : ByteArray) (hid : id.size ≤ maxLen) (a : Int) :
    Calls Try.prog 12 #[stepV z.x z.A z.c z.B z.d, .string id, .int .i64 a] W (BelowRet W (.bool true)) := by
  have R1 := hide (show Run (fun _ => False) W _ (W.alloc (sbox z.x z.A z.c z.B z.d)) from ((Run.begin W).fresh emp_ok (cell_new W #[.int .i64 z.x.k, .string z.x.l.id, .slice z.A z.x.l.ms.length z.c, .slice z.B z.x.l.ps.length z.d, .int .i64 z.x.l.q, .int .i64 z.x.l.u, .int .i64 z.x.l.f, .int .i64 z.x.l.t, .string z.x.id, .string z.x.key, .int .i64 z.x.un, .int .i64 z.x.us, .int .i64 z.x.a] 80)).imp fun _ _ h => star_emp h)
  have KH := hide (head35_any (W.alloc (sbox z.x z.A z.c z.B z.d)))
  have KF := hide (fun w1 (hb : Below W.heap.size W w1) => few_any (c := 1) (steps_one hz hb))
  have hkey := hz.key
  have HKEY := hide hkey
  unfold maxLen at hid hkey
  clear hz
  cases h1 : fewB (stepsM [z]) with
  | false =>
    rw [h1] at KF
    clear h1
    unfold sbox at KH R1
    unfold stepV
    go_enter Try.func12, Try.ntmps12
    go_wp2_with fail
    refine KH.out.mono ?_
    rintro e w1 ⟨rfl, hb1⟩
    have R2 := hide (R1.out.below cell_ok hb1)
    have KA := hide (KF.out w1 R2.out.bel)
    clear hb1
    obtain ⟨d0, d1, d2, d3, d4, d5, d6, d7, d8, d9, d10, d11, d12⟩ := sbox_cells R2.out
    simp only [Nat.zero_add] at d0 d1 d2 d3 d4 d5 d6 d7 d8 d9 d10 d11 d12
    unfold sbox at KA
    go_wp2_with fail
    refine KA.out.mono ?_
    rintro e w2 ⟨rfl, hb2⟩
    have R3 := hide ((R2.out.below cell_ok ((Below.refl w1.heap.size w1).alloc (Nat.le_refl _) _)).below cell_ok hb2)
    clear hb2 d0 d1 d2 d3 d4 d5 d6 d7 d8 d9 d10 d11 d12 KA KF KH
    go_wp2
    go_ret
    exact bel_true R3.out.bel
  | true =>
  rw [h1] at KF
  clear h1
  by_cases h2 : 60 < id.size
  case pos =>
    unfold sbox at KH R1
    unfold stepV
    go_enter Try.func12, Try.ntmps12
    go_wp2_with fail
    refine KH.out.mono ?_
    rintro e w1 ⟨rfl, hb1⟩
    have R2 := hide (R1.out.below cell_ok hb1)
    have KA := hide (KF.out w1 R2.out.bel)
    clear hb1
    obtain ⟨d0, d1, d2, d3, d4, d5, d6, d7, d8, d9, d10, d11, d12⟩ := sbox_cells R2.out
    simp only [Nat.zero_add] at d0 d1 d2 d3 d4 d5 d6 d7 d8 d9 d10 d11 d12
    unfold sbox at KA
    go_wp2_with fail
    refine KA.out.mono ?_
    rintro e w2 ⟨rfl, hb2⟩
    have R3 := hide ((R2.out.below cell_ok ((Below.refl w1.heap.size w1).alloc (Nat.le_refl _) _)).below cell_ok hb2)
    clear hb2 d0 d1 d2 d3 d4 d5 d6 d7 d8 d9 d10 d11 d12 KA KF KH
    go_wp2
    go_ret
    exact bel_true R3.out.bel
  case neg =>
    unfold sbox at KH R1
    unfold stepV
    go_enter Try.func12, Try.ntmps12
    go_wp2_with fail
    refine KH.out.mono ?_
    rintro e w1 ⟨rfl, hb1⟩
    have R2 := hide (R1.out.below cell_ok hb1)
    have KA := hide (KF.out w1 R2.out.bel)
    clear hb1
    obtain ⟨d0, d1, d2, d3, d4, d5, d6, d7, d8, d9, d10, d11, d12⟩ := sbox_cells R2.out
    simp only [Nat.zero_add] at d0 d1 d2 d3 d4 d5 d6 d7 d8 d9 d10 d11 d12
    unfold sbox at KA
    go_wp2_with fail
    refine KA.out.mono ?_
    rintro e w2 ⟨rfl, hb2⟩
    have R3 := hide ((R2.out.below cell_ok ((Below.refl w1.heap.size w1).alloc (Nat.le_refl _) _)).below cell_ok hb2)
    clear hb2 d0 d1 d2 d3 d4 d5 d6 d7 d8 d9 d10 d11 d12 KA KF KH
    have KL := hide (left_nil (w := w2) id a)
    unfold leftV at KL
    go_wp2_with fail
    refine KL.out.mono ?_
    rintro e w3 ⟨rfl, hb3⟩
    have R4 := (R3.out.below cell_ok hb3).fresh cell_ok (cell_new w3 #[.int .i64 0, .int .i64 0] 66)
    have HR4 := hide R4
    obtain ⟨d0, d1, d2, d3, d4, d5, d6, d7, d8, d9, d10, d11, d12⟩ := sbox_cells R4.drop
    simp only [Nat.zero_add] at d0 d1 d2 d3 d4 d5 d6 d7 d8 d9 d10 d11 d12
    clear hb3 R4 KL
    have KR := hide (reserve_nil (w := w3.alloc (.cells #[.int .i64 0, .int .i64 0] 66)) z.x.id z.x.key z.x.un z.x.a HKEY.out)
    go_wp2_with fail
    refine KR.out.mono ?_
    rintro e w4 ⟨hf, rfl⟩
    clear KR
    have KG := hide (grant_nil (w := w3.alloc (.cells #[.int .i64 0, .int .i64 0] 66)) z.x.l z.A z.c z.B z.d)
    unfold licV at KG
    have K1 := hide (fun W => revoke_nil (w := W) z.x.id z.x.a)
    have K2 := hide (fun W => amend_nil (w := W) z.x.id z.x.un z.x.us z.x.a)
    have K3 := hide (fun W => split_nil (w := W) z.x.id z.x.key z.x.un z.x.us)
    have K4 := hide (fun W => use_nil (w := W) z.x.key z.x.un z.x.a)
    have K5 := hide (fun W => return_nil (w := W) z.x.key z.x.un)
    have K6 := hide (fun W => release_nil (w := W) z.x.key)
    have K7 := hide (fun W => list_nil W)
    rcases hf with rfl | rfl
    · go_wp2_with fail
      refine KG.out.mono ?_
      rintro e w5 ⟨rfl, hb5⟩
      have R5 := HR4.out.below (star_ok cell_ok cell_ok) hb5
      obtain ⟨F5, h5⟩ := R5.fst
      have q0 := cell_at h5 (i := 0) rfl
      have q1 := cell_at h5 (i := 1) rfl
      have HB := hide R5.bel
      obtain ⟨f0, f1, f2, f3, f4, f5, f6, f7, f8, f9, f10, f11, f12⟩ := sbox_cells R5.drop
      simp only [Nat.zero_add] at f0 f1 f2 f3 f4 f5 f6 f7 f8 f9 f10 f11 f12
      clear hb5 R5 h5 KG d0 d1 d2 d3 d4 d5 d6 d7 d8 d9 d10 d11 d12
      go_wp2_with fail
      refine (K1.out _).mono ?_
      rintro e w' ⟨rfl, rfl⟩
      go_wp2_with fail
      refine (K2.out _).mono ?_
      rintro e w' ⟨rfl, rfl⟩
      go_wp2_with fail
      refine (K3.out _).mono ?_
      rintro e w' ⟨rfl, rfl⟩
      go_wp2_with fail
      refine (K4.out _).mono ?_
      rintro e w' ⟨rfl, rfl⟩
      go_wp2_with fail
      refine (K5.out _).mono ?_
      rintro e w' ⟨rfl, rfl⟩
      go_wp2_with fail
      refine (K6.out _).mono ?_
      rintro e w' ⟨rfl, rfl⟩
      go_wp2_with fail
      refine (K7.out _).mono ?_
      rintro e w' ⟨rfl, rfl⟩
      go_wp2
      go_ret
      exact bel_true HB.out
    · go_wp2_with fail
      refine KG.out.mono ?_
      rintro e w5 ⟨rfl, hb5⟩
      have R5 := HR4.out.below (star_ok cell_ok cell_ok) hb5
      obtain ⟨F5, h5⟩ := R5.fst
      have q0 := cell_at h5 (i := 0) rfl
      have q1 := cell_at h5 (i := 1) rfl
      have HB := hide R5.bel
      obtain ⟨f0, f1, f2, f3, f4, f5, f6, f7, f8, f9, f10, f11, f12⟩ := sbox_cells R5.drop
      simp only [Nat.zero_add] at f0 f1 f2 f3 f4 f5 f6 f7 f8 f9 f10 f11 f12
      clear hb5 R5 h5 KG d0 d1 d2 d3 d4 d5 d6 d7 d8 d9 d10 d11 d12
      go_wp2_with fail
      refine (K1.out _).mono ?_
      rintro e w' ⟨rfl, rfl⟩
      go_wp2_with fail
      refine (K2.out _).mono ?_
      rintro e w' ⟨rfl, rfl⟩
      go_wp2_with fail
      refine (K3.out _).mono ?_
      rintro e w' ⟨rfl, rfl⟩
      go_wp2_with fail
      refine (K4.out _).mono ?_
      rintro e w' ⟨rfl, rfl⟩
      go_wp2_with fail
      refine (K5.out _).mono ?_
      rintro e w' ⟨rfl, rfl⟩
      go_wp2_with fail
      refine (K6.out _).mono ?_
      rintro e w' ⟨rfl, rfl⟩
      go_wp2_with fail
      refine (K7.out _).mono ?_
      rintro e w' ⟨rfl, rfl⟩
      go_wp2
      go_ret
      exact bel_true HB.out
end
end Go.Proofs.Ytapabbpdfplpoaa
namespace Go.CH.Lic

/-- At most the licence i0 has turned. -/
structure Chg (b b' : BkM) (i0 : Nat) : Prop where
  same : ∀ i, i < b.gs.length → i ≠ i0 → gat b' i = gat b i
  ids : ∀ i, i < b.gs.length → (gat b' i).l.id = (gat b i).l.id
  len : b.gs.length ≤ b'.gs.length
theorem Chg.none (b : BkM) (i0 : Nat) : Chg b b i0 := ⟨fun _ _ _ => rfl, fun _ _ => rfl, Nat.le_refl _⟩
theorem Chg.put (b : BkM) {i : Nat} (hi : i < b.gs.length) {g : GrM} (h : g.l.id = (gat b i).l.id) : Chg b (putG b i g) i :=
  ⟨fun j _ hj => by rw [gat_putG hi, if_neg hj], fun j _ => by
    rw [gat_putG hi]; split
    · rename_i e; subst e; exact h
    · rfl, by rw [putG_len]; exact Nat.le_refl _⟩
theorem Chg.add (b : BkM) (l : LicM) (i0 : Nat) : Chg b (addM b l) i0 :=
  ⟨fun j hj _ => by rw [gat_add, if_pos hj], fun j hj => by rw [gat_add, if_pos hj], by rw [add_len]; omega⟩
theorem Chg.trans {a b c : BkM} {i0 : Nat} (h : Chg a b i0) (k : Chg b c i0) : Chg a c i0 :=
  ⟨fun i hi hn => (k.same i (Nat.lt_of_lt_of_le hi h.len) hn).trans (h.same i hi hn), fun i hi => (k.ids i (Nat.lt_of_lt_of_le hi h.len)).trans (h.ids i hi), Nat.le_trans h.len k.len⟩
theorem Chg.ks (b : BkM) (ks : List KeyM) (i0 : Nat) : Chg b { b with ks := ks } i0 := ⟨fun _ _ _ => rfl, fun _ _ => rfl, Nat.le_refl _⟩
def StepLaw (b : BkM) (r : Int × BkM) (P : Nat → Prop) : Prop := ∃ i0, Chg b r.2 i0 ∧ (r.1 ≠ 0 → r.1 ≠ 22 → r.2 = b) ∧ (i0 < b.gs.length → P i0)
theorem StepLaw.no (b : BkM) (e : Int) (P : Nat → Prop) : StepLaw b (e, b) P := ⟨b.gs.length, Chg.none _ _, fun _ _ => rfl, fun h => absurd h (Nat.lt_irrefl _)⟩
theorem law_grant (b : BkM) (l : LicM) (P : Nat → Prop) : StepLaw b (grantR b l) P := by
  unfold grantR
  split
  · exact StepLaw.no _ _ _
  split
  · exact StepLaw.no _ _ _
  split
  · exact StepLaw.no _ _ _
  exact ⟨b.gs.length, Chg.add _ _ _, fun h => absurd rfl h, fun h => absurd h (Nat.lt_irrefl _)⟩
theorem law_revoke (b : BkM) (id : ByteArray) (a : Int) : StepLaw b (revokeR b id a) (fun i => (gat b i).l.id = id) := by
  unfold revokeR
  cases hf : findG b id with
  | none => exact StepLaw.no _ _ _
  | some i =>
    obtain ⟨hi, he, _⟩ := findG_some hf
    simp only
    split
    · exact StepLaw.no _ _ _
    split
    · exact StepLaw.no _ _ _
    exact ⟨i, Chg.put b hi rfl, fun h => absurd rfl h, fun _ => he⟩
theorem law_amend (b : BkM) (id : ByteArray) (q u t : Int) : StepLaw b (amendR b id q u t) (fun i => (gat b i).l.id = id) := by
  unfold amendR
  cases hf : findG b id with
  | none => exact StepLaw.no _ _ _
  | some i =>
    obtain ⟨hi, he, _⟩ := findG_some hf
    simp only
    split
    · exact StepLaw.no _ _ _
    split
    · exact StepLaw.no _ _ _
    split
    · exact StepLaw.no _ _ _
    exact ⟨i, Chg.put b hi rfl, fun h => absurd rfl h, fun _ => he⟩
theorem law_split (b : BkM) (id into : ByteArray) (q u : Int) : StepLaw b (splitR b id into q u) (fun i => (gat b i).l.id = id) := by
  rcases split_cases b id into q u with ⟨h1, h2⟩ | ⟨i, hf, _, _, _, _, _, _, _, _, e⟩
  · exact ⟨b.gs.length, by rw [h2]; exact Chg.none _ _, fun _ _ => h2, fun h => absurd h (Nat.lt_irrefl _)⟩
  · obtain ⟨hi, he, _⟩ := findG_some hf
    rw [e]
    have hc : Chg b (addM (putG b i { gat b i with l := { (gat b i).l with q := (gat b i).l.q - q, u := (gat b i).l.u - u } }) (splitL (gat b i).l into q u)) i :=
      Chg.trans (Chg.put b hi (g := { gat b i with l := { (gat b i).l with q := (gat b i).l.q - q, u := (gat b i).l.u - u } }) rfl) (Chg.add _ _ _)
    exact ⟨i, hc, fun h => absurd rfl h, fun _ => he⟩
theorem law_reserve (b : BkM) (id nm : ByteArray) (un a : Int) : StepLaw b (reserveR b id nm un a) (fun i => (gat b i).l.id = id) := by
  unfold reserveR
  split
  · exact StepLaw.no _ _ _
  cases hf : findG b id with
  | none => exact StepLaw.no _ _ _
  | some i =>
    obtain ⟨hi, he, _⟩ := findG_some hf
    simp only
    split
    · exact StepLaw.no _ _ _
    split
    · exact StepLaw.no _ _ _
    split
    · exact StepLaw.no _ _ _
    split
    · exact StepLaw.no _ _ _
    exact ⟨i, (Chg.ks b _ i).trans (Chg.put { b with ks := b.ks ++ [⟨nm, i, 0, un⟩] } hi rfl), fun h => absurd rfl h, fun _ => he⟩
theorem chg_set {b : BkM} (h : Inv2 b) {j : Nat} (hj : j < b.ks.length) (st un : Int) : Chg b (setM b j st un) (kat b j).gi := by
  have hi := (h.inv.k _ (kat_mem hj)).1
  exact (Chg.ks b _ _).trans (Chg.put (putK b j { kat b j with st := st, un := un }) hi rfl)
theorem chg_rel {b : BkM} (h : Inv2 b) {j : Nat} (hj : j < b.ks.length) : Chg b (relM b j) (kat b j).gi := by
  have hi := (h.inv.k _ (kat_mem hj)).1
  exact (Chg.ks b _ _).trans (Chg.put (putK b j { kat b j with st := 2 }) hi rfl)
theorem law_use {b : BkM} (h : Inv2 b) (nm : ByteArray) (un a : Int) : StepLaw b (useR b nm un a) (fun _ => True) := by
  unfold useR
  cases hf : findK b nm with
  | none => exact StepLaw.no _ _ _
  | some j =>
    have hj := (findK_some hf).1
    simp only
    split
    · exact StepLaw.no _ _ _
    split
    · exact StepLaw.no _ _ _
    split
    · exact ⟨_, chg_rel h hj, fun _ h => absurd rfl h, fun _ => trivial⟩
    split
    · exact StepLaw.no _ _ _
    exact ⟨_, chg_set h hj _ _, fun h => absurd rfl h, fun _ => trivial⟩
theorem law_return {b : BkM} (h : Inv2 b) (nm : ByteArray) (un : Int) : StepLaw b (returnR b nm un) (fun _ => True) := by
  unfold returnR
  cases hf : findK b nm with
  | none => exact StepLaw.no _ _ _
  | some j =>
    have hj := (findK_some hf).1
    simp only
    split
    · exact StepLaw.no _ _ _
    split
    · exact StepLaw.no _ _ _
    split
    · exact StepLaw.no _ _ _
    exact ⟨_, chg_set h hj _ _, fun h => absurd rfl h, fun _ => trivial⟩
theorem law_release {b : BkM} (h : Inv2 b) (nm : ByteArray) : StepLaw b (releaseR b nm) (fun _ => True) := by
  unfold releaseR
  cases hf : findK b nm with
  | none => exact StepLaw.no _ _ _
  | some j =>
    have hj := (findK_some hf).1
    simp only
    split
    · exact StepLaw.no _ _ _
    exact ⟨_, chg_rel h hj, fun h => absurd rfl h, fun _ => trivial⟩
theorem StepLaw.weak {b : BkM} {r : Int × BkM} {P Q : Nat → Prop} (h : StepLaw b r P) (hpq : ∀ i, P i → Q i) : StepLaw b r Q := by
  obtain ⟨i0, h1, h2, h3⟩ := h
  exact ⟨i0, h1, h2, fun hi => hpq _ (h3 hi)⟩
theorem law_do {b : BkM} (h : Inv2 b) (x : StepM) : StepLaw b (doR b x) (fun i => 1 ≤ x.k → x.k ≤ 4 → (gat b i).l.id = x.id) := by
  unfold doR
  split
  · exact (law_grant b x.l _)
  split
  · exact (law_revoke b x.id x.a).weak fun _ h _ _ => h
  split
  · exact (law_amend b x.id _ _ _).weak fun _ h _ _ => h
  split
  · exact (law_split b x.id _ _ _).weak fun _ h _ _ => h
  split
  · exact (law_reserve b x.id _ _ _).weak fun _ h _ _ => h
  split
  · exact (law_use h _ _ _).weak fun _ _ _ _ => by omega
  split
  · exact (law_return h _ _).weak fun _ _ _ _ => by omega
  exact (law_release h _).weak fun _ _ _ _ => by omega
/-- What is left of the licence i. -/
def leftI (b : BkM) (i : Nat) (a : Int) : Int × Int := if runsG (gat b i) a = false then (0, 0) else ((gat b i).l.q - (gat b i).su, (gat b i).l.u - (gat b i).sn)
theorem left_at {b : BkM} (h : Inv2 b) {i : Nat} (hi : i < b.gs.length) {a : Int} (ha : inst a = true) : leftR b (gat b i).l.id a = ((leftI b i a).1, (leftI b i a).2, 0) := by
  have hf : findG b (gat b i).l.id = some i := (findG_iff h).2 ⟨hi, rfl⟩
  unfold leftR leftI
  rw [hf]
  simp only [ha, Bool.true_eq_false, if_false]
  split <;> rfl
/-- How many of the first k licences have turned. -/
def cnt (b b' : BkM) (a : Int) : Nat → Nat
  | 0 => 0
  | k + 1 => cnt b b' a k + if leftI b' k a = leftI b k a then 0 else 1
theorem cnt_le {b b' : BkM} {i0 : Nat} (h : Chg b b' i0) (a : Int) : ∀ k, k ≤ b.gs.length → cnt b b' a k ≤ if i0 < k then 1 else 0
  | 0, _ => by simp [cnt]
  | k + 1, hk => by
    have ih := cnt_le h a k (by omega)
    unfold cnt
    by_cases e : k = i0
    · subst e
      rw [if_neg (Nat.lt_irrefl _)] at ih
      rw [if_pos (show k < k + 1 by omega)]
      split <;> omega
    · have : leftI b' k a = leftI b k a := by unfold leftI; rw [h.same k (by omega) e]
      rw [if_pos this]
      by_cases h1 : i0 < k
      · rw [if_pos h1] at ih; rw [if_pos (show i0 < k + 1 by omega)]; omega
      · rw [if_neg h1] at ih; rw [if_neg (show ¬ i0 < k + 1 by omega)]; omega
theorem others_law {b : BkM} (h : Inv2 b) (x : StepM) (a : Int) : (∀ k, k ≤ b.gs.length → cnt b (doR b x).2 a k ≤ 1) ∧ b.gs.length ≤ (doR b x).2.gs.length ∧ (∀ i, i < b.gs.length → (gat (doR b x).2 i).l.id = (gat b i).l.id) ∧
    ∀ i, i < b.gs.length → leftI (doR b x).2 i a ≠ leftI b i a → ((doR b x).1 = 0 ∨ (doR b x).1 = 22) ∧ (1 ≤ x.k → x.k ≤ 4 → (gat b i).l.id = x.id) := by
  obtain ⟨i0, h1, h2, h3⟩ := law_do h x
  refine ⟨fun k hk => ?_, h1.len, h1.ids, fun i hi hne => ?_⟩
  · have := cnt_le h1 a k hk
    split at this <;> omega
  · have e : i = i0 := by
      refine Decidable.byContradiction fun e => hne ?_
      unfold leftI; rw [h1.same i hi e]
    subst e
    refine ⟨?_, h3 hi⟩
    refine Decidable.byContradiction fun hc => hne ?_
    rw [h2 (fun e => hc (.inl e)) (fun e => hc (.inr e))]
end Go.CH.Lic
namespace Go.CH
open Go.RowKit
section
variable {P : Program}
theorem run_appX {t e : TypeId} {z : Value} {size bytes : Nat} (S : SliceOk P t e z size bytes) (ty : TypeId) (w : World) (base : Nat) {v : Value} {n : Nat} {xs : List Value} (hown : w.ownsRow base e size v n xs)
    {A : Option Addr} {m c : Nat} {news : List Value} (hs : Src w A m size news) (h63 : n + m ≤ maxLen) (hb : (n + m) * bytes ≤ 140737488355328) (hbase : base ≤ w.heap.size) :
    ∃ v' w', (Builtin.append_ #[t, t] ty #[v, .slice A m c]).run P w = .ok v' w' ∧ w'.ownsRow base e size v' (n + m) (xs ++ news) ∧ w.grownBy w' v.ownBlock ∧
      (v'.ownBlock = v.ownBlock ∨ v'.ownBlock = some w.heap.size) := by
  obtain ⟨ht, hi, hz, hsz⟩ := S
  obtain ⟨i, hi, hi1, hi2, hi3⟩ := info_parts hi
  cases A with
  | some ad =>
    obtain ⟨v', w', h1, h2, h3, _, h5⟩ := run_append_own_at (P := P) w base t ty e i z size bytes ht hi hi1 hi2 hi3 hz hsz v n xs hown ad m c news hs.1 (hs.cells rfl) hs.2.1 h63 hb hbase
    exact ⟨v', w', h1, h2, h3, h5⟩
  | none =>
    have hm : m = 0 := by
      rcases Nat.eq_zero_or_pos m with h0 | h0
      · exact h0
      · obtain ⟨ad, h, _⟩ := hs.2.2 h0
        cases h
    subst hm
    have hn : news = [] := List.eq_nil_of_length_eq_zero (by simpa using hs.1)
    subst hn
    refine ⟨v, w, ?_, by simpa using hown, ⟨rfl, rfl, rfl, Nat.le_refl _, fun _ _ _ => rfl⟩, .inl rfl⟩
    rcases hown.2 with ⟨rfl, rfl⟩ | ⟨g, cap, cur, rfl, _, _, hnc, _⟩
    · simp [Builtin.append_, run_underlying ht, sizeOf, typeInfo, hi, Builtin.lenOf, Builtin.firstCells]
    · simp [Builtin.append_, run_underlying ht, sizeOf, typeInfo, hi, Builtin.lenOf, Builtin.firstCells, hnc, storeCells]
theorem wp_appX {o : Oper} {a : Act} {K : Act → World → Prop} {Q : Exit → Act → World → Prop} (s x : Operand) {t : TypeId}
    (ho : o.op = .call { callee := .builtin .append, args := #[s, x], argTypes := #[t, t] })
    {e : TypeId} {z : Value} {size bytes : Nat} (S : SliceOk P t e z size bytes) (w : World) (base : Nat) {v : Value} {n : Nat} {xs : List Value} (hsv : a.eval s = v) (hown : w.ownsRow base e size v n xs)
    {A : Option Addr} {m c : Nat} {news : List Value} (hx : a.eval x = .slice A m c) (hs : Src w A m size news) (h63 : n + m ≤ maxLen) (hb : (n + m) * bytes ≤ 140737488355328) (hbase : base ≤ w.heap.size)
    (h : ∀ v' w', w'.ownsRow base e size v' (n + m) (xs ++ news) → w.grownBy w' v.ownBlock → (v'.ownBlock = v.ownBlock ∨ v'.ownBlock = some w.heap.size) → K (a.put o.dst v') w') : o.wp P a w K Q := by
  obtain ⟨v', w', hrun, h2, h3, h4⟩ := run_appX S o.type w base hown (c := c) hs h63 hb hbase
  unfold Oper.wp execOp
  simp only [ho, resolve, invoke, builtin, Sem.run_bind, Sem.run_pure, Result.andThen_ok, List.map_toArray, List.map_cons, List.map_nil, hsv, hx, hrun]
  exact h v' w' h2 h3 h4
theorem wpList_appX {ops : Array Oper} {rest : List Oper} {o : Oper} {a : Act} {Q : Exit → Act → World → Prop} (hgd : o.guard = none) (s x : Operand) {t : TypeId}
    (ho : o.op = .call { callee := .builtin .append, args := #[s, x], argTypes := #[t, t] })
    {e : TypeId} {z : Value} {size bytes : Nat} (S : SliceOk P t e z size bytes) (w : World) (base : Nat) {v : Value} {n : Nat} {xs : List Value} (hsv : a.eval s = v) (hown : w.ownsRow base e size v n xs)
    {A : Option Addr} {m c : Nat} {news : List Value} (hx : a.eval x = .slice A m c) (hs : Src w A m size news) (h63 : n + m ≤ maxLen) (hb : (n + m) * bytes ≤ 140737488355328) (hbase : base ≤ w.heap.size)
    (h : ∀ v' w', w'.ownsRow base e size v' (n + m) (xs ++ news) → w.grownBy w' v.ownBlock → (v'.ownBlock = v.ownBlock ∨ v'.ownBlock = some w.heap.size) → wpList P ops Q rest (a.put o.dst v') w') : wpList P ops Q (o :: rest) a w :=
  wpList_plain hgd fun _ hK => wp_appX s x ho S w base hsv hown hx hs h63 hb hbase fun v' w' h2 h3 h4 => hK _ _ (h v' w' h2 h3 h4)
end
end Go.CH
namespace Go.CH
open Go.RowKit
section
variable {P : Program} {ops : Array Oper} {Q : Exit → Act → World → Prop}
theorem wpOp_mono {i : Nat} {K K' : Act → World → Prop} {a : Act} {w : World} (hk : ∀ a w, K a w → K' a w) (h : wpOp P ops Q i K a w) : wpOp P ops Q i K' a w := by
  unfold wpOp at *
  cases ho : ops[i]? with
  | none => simp only [ho] at h ⊢; exact hk _ _ h
  | some o =>
    simp only [ho] at h ⊢
    split at h
    · rename_i hw
      rw [if_pos hw]
      exact h.imp (Oper.wp_mono hk) id
    · rename_i hw
      rw [if_neg hw]
      exact hk _ _ h
theorem wpAny_inv (I : Array Bool → Act → World → Prop) (hend : ∀ listed a w, I listed a w → Region.ready .any ops listed = [] → Q .normal a w)
    (hstep : ∀ listed a w, I listed a w → ∀ i ∈ Region.ready .any ops listed, wpOp P ops Q i (I (listed.setIfInBounds i true)) a w) :
    ∀ (n : Nat) (listed : Array Bool) (a : Act) (w : World), (unl ops listed).length = n → listed.size = ops.size → I listed a w → wpAny P .any ops Q n listed a w := by
  intro n
  induction n with
  | zero =>
    intro listed a w hn hs hI
    have hnil : unl ops listed = [] := List.eq_nil_of_length_eq_zero hn
    have hr : Region.ready .any ops listed = [] := by
      cases hr : Region.ready .any ops listed with
      | nil => rfl
      | cons j r =>
        exfalso
        have hj : j ∈ Region.ready .any ops listed := by rw [hr]; simp
        obtain ⟨h0, o, ho, _⟩ := mem_ready.1 hj
        have hjs : j < ops.size := (Array.getElem?_eq_some_iff.1 ho).1
        obtain ⟨l1, l2, hs1, _, _⟩ := unl_split (ops := ops) hs hjs h0
        rw [hnil] at hs1
        cases l1 <;> simp at hs1
    exact ⟨hr, hend _ _ _ hI hr⟩
  | succ n ih =>
    intro listed a w hn hs hI
    refine ⟨hend _ _ _ hI, fun j hj => ?_⟩
    obtain ⟨h0, o, ho, _⟩ := mem_ready.1 hj
    have hjs : j < ops.size := (Array.getElem?_eq_some_iff.1 ho).1
    obtain ⟨l1, l2, hs1, hs2, _⟩ := unl_split (ops := ops) hs hjs h0
    refine wpOp_mono (fun a' w' h => ih _ a' w' ?_ (by simpa using hs) h) (hstep _ _ _ hI j hj)
    rw [hs2]
    rw [hs1] at hn
    simp at hn ⊢
    omega
theorem wp_region_inv {id : Nat} {l : List Oper} {a : Act} {w : World} (I : Array Bool → Act → World → Prop) (hm : P.follows .mixedOrders = true)
    (h0 : I (Array.replicate l.toArray.size false) a w.drew) (hend : ∀ listed a w, I listed a w → Region.ready .any l.toArray listed = [] → Q .normal a w)
    (hstep : ∀ listed a w, I listed a w → ∀ i ∈ Region.ready .any l.toArray listed, wpOp P l.toArray Q i (I (listed.setIfInBounds i true)) a w) : (Code.region id l.toArray true).wp P Q a w := by
  refine wp_region_any hm ?_
  have hu : unl l.toArray (Array.replicate l.toArray.size false) = List.range l.toArray.size := by
    unfold unl
    refine List.filter_eq_self.2 fun i hi => ?_
    have := List.mem_range.1 hi
    simp at this
    simp [this]
  exact wpAny_inv I hend hstep _ _ _ _ (by rw [hu]; simp) (by simp) h0
/-- An operation without a guard. -/
theorem wpOp_plain {i : Nat} {o : Oper} {K : Act → World → Prop} {a : Act} {w : World} (ho : ops[i]? = some o) (hg : o.guard = none) (h : o.wp P a w K Q) : wpOp P ops Q i K a w := by
  unfold wpOp
  simp only [ho]
  rw [if_pos (by simp [Region.wanted, hg])]
  exact .inl h
end
end Go.CH
