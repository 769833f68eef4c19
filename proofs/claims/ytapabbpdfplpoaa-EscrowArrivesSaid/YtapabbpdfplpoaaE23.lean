/-
  Escrow: do.
-/
import Derived.Test.YtapabbpdfplpoaaE22
set_option linter.unusedSimpArgs false
set_option linter.unusedVariables false
namespace Go.Proofs.Ytapabbpdfplpoaa
open Go.RowKit Go.CH Go.CH.Esc
open Go.ChangeMaps (setBlock)

def actV (x : ActG) : Array Value := #[.int .i64 x.k, .int .i64 x.a, .int .i64 x.b, .int .i64 x.u, .bool x.lost, .bool x.again]
/-- What do leaves. -/
def DPost (w : World) (F : Nat → Prop) (e0 : Int) (b0 : Bool) (g : GM) (p : Nat) (e : Ending) (w' : World) : Prop := e = .returned (.tuple #[.int .i64 e0, .bool b0]) ∧ Post w F (EscO g p) w'
theorem Post.pre {w w1 w' : World} {F : Nat → Prop} {R : Own} (hb : Below w.heap.size w w1) (hp : Post w1 F R w') : Post w F R w' := by
  obtain ⟨F', h1, h2, h3⟩ := hp
  refine ⟨F', h1, (Mod.of_below (F := F) hb).trans h2 (fun _ _ h => h) (fun _ _ h => h), fun i hi => (h3 i hi).imp id (fun h => ⟨?_, h.2⟩)⟩
  have := hb.size; omega
set_option maxRecDepth 100000 in
set_option maxHeartbeats 3200000 in
theorem do_any {w : World} {F : Nat → Prop} {g : GM} {p : Nat} (h : EscO g p w F) {U : Int} (hI : Inv g U) (hl : HB g 1000000) (x : ActG) (hu : -9223372036854775808 ≤ x.u ∧ x.u ≤ 9223372036854775807) :
    Calls Try.prog 20 #[.pointer (some ⟨p, 0, none⟩), .agg (actV x)] w (DPost w F (doE g x) (doB g x) (doM g x) p) := by
  obtain ⟨k, a, b, u, lost, again⟩ := x
  have hbel : Below w.heap.size w (w.alloc (.cells #[.int .i64 k, .int .i64 a, .int .i64 b, .int .i64 u, .bool lost, .bool again] 34)) := (Below.refl _ _).alloc (Nat.le_refl _) _
  have h1 : EscO g p (w.alloc (.cells #[.int .i64 k, .int .i64 a, .int .i64 b, .int .i64 u, .bool lost, .bool again] 34)) F := escO_ok.keep h (fun i hi => heap_old (escO_ok.lt h i hi))
  have HBEL := hide hbel
  have HI := hide hI
  simp only [] at hu
  unfold actV
  simp only []
  by_cases k0 : k = 0
  · subst k0
    have KC := hide (spend_any h1 hI a u hu)
    have e1 : doE g ⟨0, a, b, u, lost, again⟩ = spendE g a u := by simp [doE]
    have e2 : doB g ⟨0, a, b, u, lost, again⟩ = false := by simp [doB]
    have e3 : doM g ⟨0, a, b, u, lost, again⟩ = spendM g a u := by simp [doM]
    rw [e1, e2, e3]
    generalize spendE g a u = ev at *
    generalize spendM g a u = gv at *
    clear h hI hl h1 hbel e1 e2 e3 hu
    go_enter Try.func20, Try.ntmps20
    go_wp2_with fail
    refine KC.out.mono ?_
    rintro e w' ⟨rfl, hP⟩
    have HP := hide (Post.pre HBEL.out hP)
    clear hP
    go_wp2
    go_ret2
    exact ⟨rfl, HP.out⟩
  by_cases k1 : k = 1
  · subst k1
    have KC := hide (ret_any h1 hI a u hu)
    have e1 : doE g ⟨1, a, b, u, lost, again⟩ = retE g a u := by simp [doE]
    have e2 : doB g ⟨1, a, b, u, lost, again⟩ = false := by simp [doB]
    have e3 : doM g ⟨1, a, b, u, lost, again⟩ = retM g a u := by simp [doM]
    rw [e1, e2, e3]
    generalize retE g a u = ev at *
    generalize retM g a u = gv at *
    clear h hI hl h1 hbel e1 e2 e3 hu k0
    go_enter Try.func20, Try.ntmps20
    go_wp2_with fail
    refine KC.out.mono ?_
    rintro e w' ⟨rfl, hP⟩
    have HP := hide (Post.pre HBEL.out hP)
    clear hP
    go_wp2
    go_ret2
    exact ⟨rfl, HP.out⟩
  by_cases k2 : k = 2
  · subst k2
    have KC := hide (give_any h1 hI a b u (hl _))
    have e1 : doE g ⟨2, a, b, u, lost, again⟩ = giveE g a b u := by simp [doE]
    have e2 : doB g ⟨2, a, b, u, lost, again⟩ = false := by simp [doB]
    have e3 : doM g ⟨2, a, b, u, lost, again⟩ = giveM g a b u := by simp [doM]
    rw [e1, e2, e3]
    generalize giveE g a b u = ev at *
    generalize giveM g a b u = gv at *
    clear h hI hl h1 hbel e1 e2 e3 hu k0 k1
    go_enter Try.func20, Try.ntmps20
    go_wp2_with fail
    refine KC.out.mono ?_
    rintro e w' ⟨rfl, hP⟩
    have HP := hide (Post.pre HBEL.out hP)
    clear hP
    go_wp2
    go_ret2
    exact ⟨rfl, HP.out⟩
  by_cases k3 : k = 3
  · subst k3
    have KC := hide (send_any h1 hI a b (hl _))
    have e1 : doE g ⟨3, a, b, u, lost, again⟩ = sendE g a b := by simp [doE]
    have e2 : doB g ⟨3, a, b, u, lost, again⟩ = false := by simp [doB]
    have e3 : doM g ⟨3, a, b, u, lost, again⟩ = sendM g a b := by simp [doM]
    rw [e1, e2, e3]
    generalize sendE g a b = ev at *
    generalize sendM g a b = gv at *
    clear h hI hl h1 hbel e1 e2 e3 hu k0 k1 k2
    go_enter Try.func20, Try.ntmps20
    go_wp2_with fail
    refine KC.out.mono ?_
    rintro e w' ⟨rfl, hP⟩
    have HP := hide (Post.pre HBEL.out hP)
    clear hP
    go_wp2
    go_ret2
    exact ⟨rfl, HP.out⟩
  by_cases k4 : k = 4
  · subst k4
    have KC := hide (del_any_ h1 hI hl a b lost again)
    have e1 : doE g ⟨4, a, b, u, lost, again⟩ = 0 := by simp [doE]
    have e2 : doB g ⟨4, a, b, u, lost, again⟩ = delE g a b := by simp [doB]
    have e3 : doM g ⟨4, a, b, u, lost, again⟩ = delM g a b lost again := by simp [doM]
    rw [e1, e2, e3]
    generalize delE g a b = ev at *
    generalize delM g a b lost again = gv at *
    clear h hI hl h1 hbel e1 e2 e3 hu k0 k1 k2 k3
    go_enter Try.func20, Try.ntmps20
    go_wp2_with fail
    refine KC.out.mono ?_
    rintro e w' ⟨rfl, hP⟩
    have HP := hide (Post.pre HBEL.out hP)
    clear hP
    go_wp2
    go_ret2
    exact ⟨rfl, HP.out⟩
  have KC := hide (rev_any h1 hI a)
  have e1 : doE g ⟨k, a, b, u, lost, again⟩ = revE g a := by simp [doE, k0, k1, k2, k3, k4]
  have e2 : doB g ⟨k, a, b, u, lost, again⟩ = false := by simp [doB, k0, k1, k2, k3, k4]
  have e3 : doM g ⟨k, a, b, u, lost, again⟩ = revM g a := by simp [doM, k0, k1, k2, k3, k4]
  have b0 : (k == 0) = false := by simpa using k0
  have b1 : (k == 1) = false := by simpa using k1
  have b2 : (k == 2) = false := by simpa using k2
  have b3 : (k == 3) = false := by simpa using k3
  have b4 : (k == 4) = false := by simpa using k4
  rw [e1, e2, e3]
  generalize revE g a = ev at *
  generalize revM g a = gv at *
  clear h hI hl h1 hbel e1 e2 e3 hu k0 k1 k2 k3 k4
  go_enter Try.func20, Try.ntmps20
  go_wp2_with fail
  refine KC.out.mono ?_
  rintro e w' ⟨rfl, hP⟩
  have HP := hide (Post.pre HBEL.out hP)
  clear hP
  go_wp2
  go_ret2
  exact ⟨rfl, HP.out⟩
end Go.Proofs.Ytapabbpdfplpoaa
