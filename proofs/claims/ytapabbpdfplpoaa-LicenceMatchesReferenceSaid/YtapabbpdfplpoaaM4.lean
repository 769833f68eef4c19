/-
  Licence: Valid.
  A region that draws its order, walked once in the order of the text: operations that only read under a condition S on the world, and operations that change the world, which wait for one another.
-/
import Derived.Test.YtapabbpdfplpoaaM3
import Derived.WalkKit
import Derived.Orders
import Derived.OrdersHeld
import Derived.Deep.Draws
import Derived.Deep.RegionHeld3
set_option linter.unusedSimpArgs false
set_option linter.unusedVariables false
namespace Go.Proofs.Ytapabbpdfplpoaa
open Go.RowKit Go.CH Go.CH.Lic
open Go.ChangeMaps (setBlock)

def licV (l : LicM) (A : Option Addr) (c : Nat) (B : Option Addr) (d : Nat) : Value := .agg #[.string l.id, .slice A l.ms.length c, .slice B l.ps.length d, .int .i64 l.q, .int .i64 l.u, .int .i64 l.f, .int .i64 l.t]
def licC (l : LicM) (A : Option Addr) (c : Nat) (B : Option Addr) (d : Nat) : Array Value := #[.string l.id, .slice A l.ms.length c, .slice B l.ps.length d, .int .i64 l.q, .int .i64 l.u, .int .i64 l.f, .int .i64 l.t]
/-- A licence that comes in: its lists are read, their words are not too long. -/
structure LicIn (w : World) (l : LicM) (A : Option Addr) (B : Option Addr) : Prop where
  id : l.id.size ≤ maxLen
  ms : Src w A l.ms.length 1 (strs l.ms)
  ps : Src w B l.ps.length 1 (strs l.ps)
  mz : ∀ s ∈ l.ms, s.size ≤ maxLen
  pz : ∀ s ∈ l.ps, s.size ≤ maxLen
  mn : l.ms.length ≤ 1000000
  pn : l.ps.length ≤ 1000000
theorem LicIn.keep {w W : World} {l : LicM} {A B : Option Addr} (h : LicIn w l A B) (hb : Below w.heap.size w W) : LicIn W l A B :=
  ⟨h.id, ((Run.begin w).below emp_ok hb).src0 h.ms, ((Run.begin w).below emp_ok hb).src0 h.ps, h.mz, h.pz, h.mn, h.pn⟩
theorem box_reads {F0 : Nat → Prop} {w0 W : World} {bx t : Nat} {a0 a1 a2 a3 a4 a5 a6 : Value} (h : Run F0 w0 (CellO bx #[a0, a1, a2, a3, a4, a5, a6] t) W) :
    W.cell? ⟨bx, 0, none⟩ = some a0 ∧ W.cell? ⟨bx, 1, none⟩ = some a1 ∧ W.cell? ⟨bx, 2, none⟩ = some a2 ∧ W.cell? ⟨bx, 3, none⟩ = some a3 ∧ W.cell? ⟨bx, 4, none⟩ = some a4 ∧ W.cell? ⟨bx, 5, none⟩ = some a5 ∧ W.cell? ⟨bx, 6, none⟩ = some a6 := by
  obtain ⟨F, hC⟩ := h.get
  exact ⟨cell_at hC rfl, cell_at hC rfl, cell_at hC rfl, cell_at hC rfl, cell_at hC rfl, cell_at hC rfl, cell_at hC rfl⟩
section
variable {w : World} {l : LicM} {A B : Option Addr} {c d : Nat}

set_option maxHeartbeats 1600000 in
theorem valid_0 (h : LicIn w l A B) (t1 : names l.ms = false) (t6 : isName l.id = false) :
    Calls Try.prog 49 #[licV l A c B d] w (BelowRet w (.bool false)) := by
  have KM := hide (fun W (hb : Below w.heap.size w W) => names_any (c := c) (h.keep hb).ms h.mz h.mn)
  have KP := hide (fun W (hb : Below w.heap.size w W) => names_any (c := d) (h.keep hb).ps h.pz h.pn)
  have KI := hide (fun W => isName_any l.id W h.id)
  have KW := hide within_any
  have R1 := hide (((Run.begin w).fresh emp_ok (cell_new w (licC l A c B d) 56)).imp fun _ _ h => star_emp h)
  rw [t1] at KM
  rw [t6] at KI
  clear h t1 t6
  unfold licC at R1
  unfold licV
  generalize l.ms.length = n at *
  generalize l.ps.length = m at *
  generalize l.q = zq at *
  generalize l.u = zu at *
  generalize l.f = zf at *
  generalize l.t = zt at *
  generalize l.id = zi at *
  go_enter Try.func49, Try.ntmps49
  go_wp2_with fail
  refine (KM.out _ R1.out.bel).mono ?_
  rintro e w2 ⟨rfl, hb2⟩
  have R2 := hide (R1.out.below cell_ok hb2)
  obtain ⟨c0, c1, c2, c3, c4, c5, c6⟩ := box_reads R2.out
  clear hb2
  go_wp2_with fail
  refine (KI.out _).mono ?_
  rintro e wq ⟨rfl, rfl⟩
  go_wp2
  go_ret
  exact bel_bool rfl R2.out.bel
set_option maxHeartbeats 1600000 in
theorem valid_1 (h : LicIn w l A B) (t1 : names l.ms = false) (t6 : isName l.id = true) :
    Calls Try.prog 49 #[licV l A c B d] w (BelowRet w (.bool false)) := by
  have KM := hide (fun W (hb : Below w.heap.size w W) => names_any (c := c) (h.keep hb).ms h.mz h.mn)
  have KP := hide (fun W (hb : Below w.heap.size w W) => names_any (c := d) (h.keep hb).ps h.pz h.pn)
  have KI := hide (fun W => isName_any l.id W h.id)
  have KW := hide within_any
  have R1 := hide (((Run.begin w).fresh emp_ok (cell_new w (licC l A c B d) 56)).imp fun _ _ h => star_emp h)
  rw [t1] at KM
  rw [t6] at KI
  clear h t1 t6
  unfold licC at R1
  unfold licV
  generalize l.ms.length = n at *
  generalize l.ps.length = m at *
  generalize l.q = zq at *
  generalize l.u = zu at *
  generalize l.f = zf at *
  generalize l.t = zt at *
  generalize l.id = zi at *
  go_enter Try.func49, Try.ntmps49
  go_wp2_with fail
  refine (KM.out _ R1.out.bel).mono ?_
  rintro e w2 ⟨rfl, hb2⟩
  have R2 := hide (R1.out.below cell_ok hb2)
  obtain ⟨c0, c1, c2, c3, c4, c5, c6⟩ := box_reads R2.out
  clear hb2
  go_wp2_with fail
  refine (KI.out _).mono ?_
  rintro e wq ⟨rfl, rfl⟩
  go_wp2
  go_ret
  exact bel_bool rfl R2.out.bel
set_option maxHeartbeats 1600000 in
theorem valid_2 (h : LicIn w l A B) (t1 : names l.ms = true) (t2 : names l.ps = false) (t6 : isName l.id = false) :
    Calls Try.prog 49 #[licV l A c B d] w (BelowRet w (.bool false)) := by
  have KM := hide (fun W (hb : Below w.heap.size w W) => names_any (c := c) (h.keep hb).ms h.mz h.mn)
  have KP := hide (fun W (hb : Below w.heap.size w W) => names_any (c := d) (h.keep hb).ps h.pz h.pn)
  have KI := hide (fun W => isName_any l.id W h.id)
  have KW := hide within_any
  have R1 := hide (((Run.begin w).fresh emp_ok (cell_new w (licC l A c B d) 56)).imp fun _ _ h => star_emp h)
  rw [t1] at KM
  rw [t2] at KP
  rw [t6] at KI
  clear h t1 t2 t6
  unfold licC at R1
  unfold licV
  generalize l.ms.length = n at *
  generalize l.ps.length = m at *
  generalize l.q = zq at *
  generalize l.u = zu at *
  generalize l.f = zf at *
  generalize l.t = zt at *
  generalize l.id = zi at *
  go_enter Try.func49, Try.ntmps49
  go_wp2_with fail
  refine (KM.out _ R1.out.bel).mono ?_
  rintro e w2 ⟨rfl, hb2⟩
  have R2 := hide (R1.out.below cell_ok hb2)
  obtain ⟨c0, c1, c2, c3, c4, c5, c6⟩ := box_reads R2.out
  clear hb2
  go_wp2_with fail
  refine (KP.out _ R2.out.bel).mono ?_
  rintro e w3 ⟨rfl, hb3⟩
  have R3 := hide (R2.out.below cell_ok hb3)
  clear c0 c1 c2 c3 c4 c5 c6
  obtain ⟨c0, c1, c2, c3, c4, c5, c6⟩ := box_reads R3.out
  clear hb3
  go_wp2_with fail
  refine (KI.out _).mono ?_
  rintro e wq ⟨rfl, rfl⟩
  go_wp2
  go_ret
  exact bel_bool rfl R3.out.bel
set_option maxHeartbeats 1600000 in
theorem valid_3 (h : LicIn w l A B) (t1 : names l.ms = true) (t2 : names l.ps = false) (t6 : isName l.id = true) :
    Calls Try.prog 49 #[licV l A c B d] w (BelowRet w (.bool false)) := by
  have KM := hide (fun W (hb : Below w.heap.size w W) => names_any (c := c) (h.keep hb).ms h.mz h.mn)
  have KP := hide (fun W (hb : Below w.heap.size w W) => names_any (c := d) (h.keep hb).ps h.pz h.pn)
  have KI := hide (fun W => isName_any l.id W h.id)
  have KW := hide within_any
  have R1 := hide (((Run.begin w).fresh emp_ok (cell_new w (licC l A c B d) 56)).imp fun _ _ h => star_emp h)
  rw [t1] at KM
  rw [t2] at KP
  rw [t6] at KI
  clear h t1 t2 t6
  unfold licC at R1
  unfold licV
  generalize l.ms.length = n at *
  generalize l.ps.length = m at *
  generalize l.q = zq at *
  generalize l.u = zu at *
  generalize l.f = zf at *
  generalize l.t = zt at *
  generalize l.id = zi at *
  go_enter Try.func49, Try.ntmps49
  go_wp2_with fail
  refine (KM.out _ R1.out.bel).mono ?_
  rintro e w2 ⟨rfl, hb2⟩
  have R2 := hide (R1.out.below cell_ok hb2)
  obtain ⟨c0, c1, c2, c3, c4, c5, c6⟩ := box_reads R2.out
  clear hb2
  go_wp2_with fail
  refine (KP.out _ R2.out.bel).mono ?_
  rintro e w3 ⟨rfl, hb3⟩
  have R3 := hide (R2.out.below cell_ok hb3)
  clear c0 c1 c2 c3 c4 c5 c6
  obtain ⟨c0, c1, c2, c3, c4, c5, c6⟩ := box_reads R3.out
  clear hb3
  go_wp2_with fail
  refine (KI.out _).mono ?_
  rintro e wq ⟨rfl, rfl⟩
  go_wp2
  go_ret
  exact bel_bool rfl R3.out.bel
set_option maxHeartbeats 1600000 in
theorem valid_4 (h : LicIn w l A B) (t1 : names l.ms = true) (t2 : names l.ps = true) (t3 : ¬ 0 < l.ms.length) (t6 : isName l.id = false) :
    Calls Try.prog 49 #[licV l A c B d] w (BelowRet w (.bool false)) := by
  have KM := hide (fun W (hb : Below w.heap.size w W) => names_any (c := c) (h.keep hb).ms h.mz h.mn)
  have KP := hide (fun W (hb : Below w.heap.size w W) => names_any (c := d) (h.keep hb).ps h.pz h.pn)
  have KI := hide (fun W => isName_any l.id W h.id)
  have KW := hide within_any
  have R1 := hide (((Run.begin w).fresh emp_ok (cell_new w (licC l A c B d) 56)).imp fun _ _ h => star_emp h)
  rw [t1] at KM
  rw [t2] at KP
  rw [t6] at KI
  clear h t1 t2 t6
  unfold licC at R1
  unfold licV
  generalize l.ms.length = n at *
  generalize l.ps.length = m at *
  generalize l.q = zq at *
  generalize l.u = zu at *
  generalize l.f = zf at *
  generalize l.t = zt at *
  generalize l.id = zi at *
  go_enter Try.func49, Try.ntmps49
  go_wp2_with fail
  refine (KM.out _ R1.out.bel).mono ?_
  rintro e w2 ⟨rfl, hb2⟩
  have R2 := hide (R1.out.below cell_ok hb2)
  obtain ⟨c0, c1, c2, c3, c4, c5, c6⟩ := box_reads R2.out
  clear hb2
  go_wp2_with fail
  refine (KP.out _ R2.out.bel).mono ?_
  rintro e w3 ⟨rfl, hb3⟩
  have R3 := hide (R2.out.below cell_ok hb3)
  clear c0 c1 c2 c3 c4 c5 c6
  obtain ⟨c0, c1, c2, c3, c4, c5, c6⟩ := box_reads R3.out
  clear hb3
  go_wp2_with fail
  refine (KI.out _).mono ?_
  rintro e wq ⟨rfl, rfl⟩
  go_wp2
  go_ret
  exact bel_bool rfl R3.out.bel
set_option maxHeartbeats 1600000 in
theorem valid_5 (h : LicIn w l A B) (t1 : names l.ms = true) (t2 : names l.ps = true) (t3 : ¬ 0 < l.ms.length) (t6 : isName l.id = true) :
    Calls Try.prog 49 #[licV l A c B d] w (BelowRet w (.bool false)) := by
  have KM := hide (fun W (hb : Below w.heap.size w W) => names_any (c := c) (h.keep hb).ms h.mz h.mn)
  have KP := hide (fun W (hb : Below w.heap.size w W) => names_any (c := d) (h.keep hb).ps h.pz h.pn)
  have KI := hide (fun W => isName_any l.id W h.id)
  have KW := hide within_any
  have R1 := hide (((Run.begin w).fresh emp_ok (cell_new w (licC l A c B d) 56)).imp fun _ _ h => star_emp h)
  rw [t1] at KM
  rw [t2] at KP
  rw [t6] at KI
  clear h t1 t2 t6
  unfold licC at R1
  unfold licV
  generalize l.ms.length = n at *
  generalize l.ps.length = m at *
  generalize l.q = zq at *
  generalize l.u = zu at *
  generalize l.f = zf at *
  generalize l.t = zt at *
  generalize l.id = zi at *
  go_enter Try.func49, Try.ntmps49
  go_wp2_with fail
  refine (KM.out _ R1.out.bel).mono ?_
  rintro e w2 ⟨rfl, hb2⟩
  have R2 := hide (R1.out.below cell_ok hb2)
  obtain ⟨c0, c1, c2, c3, c4, c5, c6⟩ := box_reads R2.out
  clear hb2
  go_wp2_with fail
  refine (KP.out _ R2.out.bel).mono ?_
  rintro e w3 ⟨rfl, hb3⟩
  have R3 := hide (R2.out.below cell_ok hb3)
  clear c0 c1 c2 c3 c4 c5 c6
  obtain ⟨c0, c1, c2, c3, c4, c5, c6⟩ := box_reads R3.out
  clear hb3
  go_wp2_with fail
  refine (KI.out _).mono ?_
  rintro e wq ⟨rfl, rfl⟩
  go_wp2
  go_ret
  exact bel_bool rfl R3.out.bel
set_option maxHeartbeats 1600000 in
theorem valid_6 (h : LicIn w l A B) (t1 : names l.ms = true) (t2 : names l.ps = true) (t3 : 0 < l.ms.length) (t4 : ¬ l.ms.length ≤ 12) (t6 : isName l.id = false) :
    Calls Try.prog 49 #[licV l A c B d] w (BelowRet w (.bool false)) := by
  have KM := hide (fun W (hb : Below w.heap.size w W) => names_any (c := c) (h.keep hb).ms h.mz h.mn)
  have KP := hide (fun W (hb : Below w.heap.size w W) => names_any (c := d) (h.keep hb).ps h.pz h.pn)
  have KI := hide (fun W => isName_any l.id W h.id)
  have KW := hide within_any
  have R1 := hide (((Run.begin w).fresh emp_ok (cell_new w (licC l A c B d) 56)).imp fun _ _ h => star_emp h)
  rw [t1] at KM
  rw [t2] at KP
  rw [t6] at KI
  clear h t1 t2 t6
  unfold licC at R1
  unfold licV
  generalize l.ms.length = n at *
  generalize l.ps.length = m at *
  generalize l.q = zq at *
  generalize l.u = zu at *
  generalize l.f = zf at *
  generalize l.t = zt at *
  generalize l.id = zi at *
  go_enter Try.func49, Try.ntmps49
  go_wp2_with fail
  refine (KM.out _ R1.out.bel).mono ?_
  rintro e w2 ⟨rfl, hb2⟩
  have R2 := hide (R1.out.below cell_ok hb2)
  obtain ⟨c0, c1, c2, c3, c4, c5, c6⟩ := box_reads R2.out
  clear hb2
  go_wp2_with fail
  refine (KP.out _ R2.out.bel).mono ?_
  rintro e w3 ⟨rfl, hb3⟩
  have R3 := hide (R2.out.below cell_ok hb3)
  clear c0 c1 c2 c3 c4 c5 c6
  obtain ⟨c0, c1, c2, c3, c4, c5, c6⟩ := box_reads R3.out
  clear hb3
  go_wp2_with fail
  refine (KI.out _).mono ?_
  rintro e wq ⟨rfl, rfl⟩
  go_wp2
  go_ret
  exact bel_bool rfl R3.out.bel
set_option maxHeartbeats 1600000 in
theorem valid_7 (h : LicIn w l A B) (t1 : names l.ms = true) (t2 : names l.ps = true) (t3 : 0 < l.ms.length) (t4 : ¬ l.ms.length ≤ 12) (t6 : isName l.id = true) :
    Calls Try.prog 49 #[licV l A c B d] w (BelowRet w (.bool false)) := by
  have KM := hide (fun W (hb : Below w.heap.size w W) => names_any (c := c) (h.keep hb).ms h.mz h.mn)
  have KP := hide (fun W (hb : Below w.heap.size w W) => names_any (c := d) (h.keep hb).ps h.pz h.pn)
  have KI := hide (fun W => isName_any l.id W h.id)
  have KW := hide within_any
  have R1 := hide (((Run.begin w).fresh emp_ok (cell_new w (licC l A c B d) 56)).imp fun _ _ h => star_emp h)
  rw [t1] at KM
  rw [t2] at KP
  rw [t6] at KI
  clear h t1 t2 t6
  unfold licC at R1
  unfold licV
  generalize l.ms.length = n at *
  generalize l.ps.length = m at *
  generalize l.q = zq at *
  generalize l.u = zu at *
  generalize l.f = zf at *
  generalize l.t = zt at *
  generalize l.id = zi at *
  go_enter Try.func49, Try.ntmps49
  go_wp2_with fail
  refine (KM.out _ R1.out.bel).mono ?_
  rintro e w2 ⟨rfl, hb2⟩
  have R2 := hide (R1.out.below cell_ok hb2)
  obtain ⟨c0, c1, c2, c3, c4, c5, c6⟩ := box_reads R2.out
  clear hb2
  go_wp2_with fail
  refine (KP.out _ R2.out.bel).mono ?_
  rintro e w3 ⟨rfl, hb3⟩
  have R3 := hide (R2.out.below cell_ok hb3)
  clear c0 c1 c2 c3 c4 c5 c6
  obtain ⟨c0, c1, c2, c3, c4, c5, c6⟩ := box_reads R3.out
  clear hb3
  go_wp2_with fail
  refine (KI.out _).mono ?_
  rintro e wq ⟨rfl, rfl⟩
  go_wp2
  go_ret
  exact bel_bool rfl R3.out.bel
set_option maxHeartbeats 1600000 in
theorem valid_8 (h : LicIn w l A B) (t1 : names l.ms = true) (t2 : names l.ps = true) (t3 : 0 < l.ms.length) (t4 : l.ms.length ≤ 12) (t5 : ¬ l.ps.length ≤ 60) (t6 : isName l.id = false) :
    Calls Try.prog 49 #[licV l A c B d] w (BelowRet w (.bool false)) := by
  have KM := hide (fun W (hb : Below w.heap.size w W) => names_any (c := c) (h.keep hb).ms h.mz h.mn)
  have KP := hide (fun W (hb : Below w.heap.size w W) => names_any (c := d) (h.keep hb).ps h.pz h.pn)
  have KI := hide (fun W => isName_any l.id W h.id)
  have KW := hide within_any
  have R1 := hide (((Run.begin w).fresh emp_ok (cell_new w (licC l A c B d) 56)).imp fun _ _ h => star_emp h)
  rw [t1] at KM
  rw [t2] at KP
  rw [t6] at KI
  clear h t1 t2 t6
  unfold licC at R1
  unfold licV
  generalize l.ms.length = n at *
  generalize l.ps.length = m at *
  generalize l.q = zq at *
  generalize l.u = zu at *
  generalize l.f = zf at *
  generalize l.t = zt at *
  generalize l.id = zi at *
  go_enter Try.func49, Try.ntmps49
  go_wp2_with fail
  refine (KM.out _ R1.out.bel).mono ?_
  rintro e w2 ⟨rfl, hb2⟩
  have R2 := hide (R1.out.below cell_ok hb2)
  obtain ⟨c0, c1, c2, c3, c4, c5, c6⟩ := box_reads R2.out
  clear hb2
  go_wp2_with fail
  refine (KP.out _ R2.out.bel).mono ?_
  rintro e w3 ⟨rfl, hb3⟩
  have R3 := hide (R2.out.below cell_ok hb3)
  clear c0 c1 c2 c3 c4 c5 c6
  obtain ⟨c0, c1, c2, c3, c4, c5, c6⟩ := box_reads R3.out
  clear hb3
  go_wp2_with fail
  refine (KI.out _).mono ?_
  rintro e wq ⟨rfl, rfl⟩
  go_wp2
  go_ret
  exact bel_bool rfl R3.out.bel
set_option maxHeartbeats 1600000 in
theorem valid_9 (h : LicIn w l A B) (t1 : names l.ms = true) (t2 : names l.ps = true) (t3 : 0 < l.ms.length) (t4 : l.ms.length ≤ 12) (t5 : ¬ l.ps.length ≤ 60) (t6 : isName l.id = true) :
    Calls Try.prog 49 #[licV l A c B d] w (BelowRet w (.bool false)) := by
  have KM := hide (fun W (hb : Below w.heap.size w W) => names_any (c := c) (h.keep hb).ms h.mz h.mn)
  have KP := hide (fun W (hb : Below w.heap.size w W) => names_any (c := d) (h.keep hb).ps h.pz h.pn)
  have KI := hide (fun W => isName_any l.id W h.id)
  have KW := hide within_any
  have R1 := hide (((Run.begin w).fresh emp_ok (cell_new w (licC l A c B d) 56)).imp fun _ _ h => star_emp h)
  rw [t1] at KM
  rw [t2] at KP
  rw [t6] at KI
  clear h t1 t2 t6
  unfold licC at R1
  unfold licV
  generalize l.ms.length = n at *
  generalize l.ps.length = m at *
  generalize l.q = zq at *
  generalize l.u = zu at *
  generalize l.f = zf at *
  generalize l.t = zt at *
  generalize l.id = zi at *
  go_enter Try.func49, Try.ntmps49
  go_wp2_with fail
  refine (KM.out _ R1.out.bel).mono ?_
  rintro e w2 ⟨rfl, hb2⟩
  have R2 := hide (R1.out.below cell_ok hb2)
  obtain ⟨c0, c1, c2, c3, c4, c5, c6⟩ := box_reads R2.out
  clear hb2
  go_wp2_with fail
  refine (KP.out _ R2.out.bel).mono ?_
  rintro e w3 ⟨rfl, hb3⟩
  have R3 := hide (R2.out.below cell_ok hb3)
  clear c0 c1 c2 c3 c4 c5 c6
  obtain ⟨c0, c1, c2, c3, c4, c5, c6⟩ := box_reads R3.out
  clear hb3
  go_wp2_with fail
  refine (KI.out _).mono ?_
  rintro e wq ⟨rfl, rfl⟩
  go_wp2
  go_ret
  exact bel_bool rfl R3.out.bel
set_option maxHeartbeats 1600000 in
theorem valid_10 (h : LicIn w l A B) (t1 : names l.ms = true) (t2 : names l.ps = true) (t3 : 0 < l.ms.length) (t4 : l.ms.length ≤ 12) (t5 : l.ps.length ≤ 60) (t6 : isName l.id = false) :
    Calls Try.prog 49 #[licV l A c B d] w (BelowRet w (.bool false)) := by
  have KM := hide (fun W (hb : Below w.heap.size w W) => names_any (c := c) (h.keep hb).ms h.mz h.mn)
  have KP := hide (fun W (hb : Below w.heap.size w W) => names_any (c := d) (h.keep hb).ps h.pz h.pn)
  have KI := hide (fun W => isName_any l.id W h.id)
  have KW := hide within_any
  have R1 := hide (((Run.begin w).fresh emp_ok (cell_new w (licC l A c B d) 56)).imp fun _ _ h => star_emp h)
  rw [t1] at KM
  rw [t2] at KP
  rw [t6] at KI
  clear h t1 t2 t6
  unfold licC at R1
  unfold licV
  generalize l.ms.length = n at *
  generalize l.ps.length = m at *
  generalize l.q = zq at *
  generalize l.u = zu at *
  generalize l.f = zf at *
  generalize l.t = zt at *
  generalize l.id = zi at *
  go_enter Try.func49, Try.ntmps49
  go_wp2_with fail
  refine (KM.out _ R1.out.bel).mono ?_
  rintro e w2 ⟨rfl, hb2⟩
  have R2 := hide (R1.out.below cell_ok hb2)
  obtain ⟨c0, c1, c2, c3, c4, c5, c6⟩ := box_reads R2.out
  clear hb2
  go_wp2_with fail
  refine (KP.out _ R2.out.bel).mono ?_
  rintro e w3 ⟨rfl, hb3⟩
  have R3 := hide (R2.out.below cell_ok hb3)
  clear c0 c1 c2 c3 c4 c5 c6
  obtain ⟨c0, c1, c2, c3, c4, c5, c6⟩ := box_reads R3.out
  clear hb3
  go_wp2_with fail
  refine (KI.out _).mono ?_
  rintro e wq ⟨rfl, rfl⟩
  go_wp2
  go_ret
  exact bel_bool rfl R3.out.bel
set_option maxHeartbeats 1600000 in
theorem valid_11 (h : LicIn w l A B) (t1 : names l.ms = true) (t2 : names l.ps = true) (t3 : 0 < l.ms.length) (t4 : l.ms.length ≤ 12) (t5 : l.ps.length ≤ 60) (t6 : isName l.id = true) (t7 : within l.q 1000000000 = false) :
    Calls Try.prog 49 #[licV l A c B d] w (BelowRet w (.bool false)) := by
  have KM := hide (fun W (hb : Below w.heap.size w W) => names_any (c := c) (h.keep hb).ms h.mz h.mn)
  have KP := hide (fun W (hb : Below w.heap.size w W) => names_any (c := d) (h.keep hb).ps h.pz h.pn)
  have KI := hide (fun W => isName_any l.id W h.id)
  have KW := hide within_any
  have R1 := hide (((Run.begin w).fresh emp_ok (cell_new w (licC l A c B d) 56)).imp fun _ _ h => star_emp h)
  rw [t1] at KM
  rw [t2] at KP
  rw [t6] at KI
  have KQ := hide (KW.out l.q 1000000000)
  rw [t7] at KQ
  clear h t1 t2 t6 t7
  unfold licC at R1
  unfold licV
  generalize l.ms.length = n at *
  generalize l.ps.length = m at *
  generalize l.q = zq at *
  generalize l.u = zu at *
  generalize l.f = zf at *
  generalize l.t = zt at *
  generalize l.id = zi at *
  go_enter Try.func49, Try.ntmps49
  go_wp2_with fail
  refine (KM.out _ R1.out.bel).mono ?_
  rintro e w2 ⟨rfl, hb2⟩
  have R2 := hide (R1.out.below cell_ok hb2)
  obtain ⟨c0, c1, c2, c3, c4, c5, c6⟩ := box_reads R2.out
  clear hb2
  go_wp2_with fail
  refine (KP.out _ R2.out.bel).mono ?_
  rintro e w3 ⟨rfl, hb3⟩
  have R3 := hide (R2.out.below cell_ok hb3)
  clear c0 c1 c2 c3 c4 c5 c6
  obtain ⟨c0, c1, c2, c3, c4, c5, c6⟩ := box_reads R3.out
  clear hb3
  go_wp2_with fail
  refine (KI.out _).mono ?_
  rintro e wq ⟨rfl, rfl⟩
  go_wp2_with fail
  refine (KQ.out _).mono ?_
  rintro e wq ⟨rfl, rfl⟩
  go_wp2
  go_ret
  exact bel_bool rfl R3.out.bel
set_option maxHeartbeats 1600000 in
theorem valid_12 (h : LicIn w l A B) (t1 : names l.ms = true) (t2 : names l.ps = true) (t3 : 0 < l.ms.length) (t4 : l.ms.length ≤ 12) (t5 : l.ps.length ≤ 60) (t6 : isName l.id = true) (t7 : within l.q 1000000000 = true) (t8 : within l.u 1000 = false) :
    Calls Try.prog 49 #[licV l A c B d] w (BelowRet w (.bool false)) := by
  have KM := hide (fun W (hb : Below w.heap.size w W) => names_any (c := c) (h.keep hb).ms h.mz h.mn)
  have KP := hide (fun W (hb : Below w.heap.size w W) => names_any (c := d) (h.keep hb).ps h.pz h.pn)
  have KI := hide (fun W => isName_any l.id W h.id)
  have KW := hide within_any
  have R1 := hide (((Run.begin w).fresh emp_ok (cell_new w (licC l A c B d) 56)).imp fun _ _ h => star_emp h)
  rw [t1] at KM
  rw [t2] at KP
  rw [t6] at KI
  have KQ := hide (KW.out l.q 1000000000)
  rw [t7] at KQ
  have KU := hide (KW.out l.u 1000)
  rw [t8] at KU
  clear h t1 t2 t6 t7 t8
  unfold licC at R1
  unfold licV
  generalize l.ms.length = n at *
  generalize l.ps.length = m at *
  generalize l.q = zq at *
  generalize l.u = zu at *
  generalize l.f = zf at *
  generalize l.t = zt at *
  generalize l.id = zi at *
  go_enter Try.func49, Try.ntmps49
  go_wp2_with fail
  refine (KM.out _ R1.out.bel).mono ?_
  rintro e w2 ⟨rfl, hb2⟩
  have R2 := hide (R1.out.below cell_ok hb2)
  obtain ⟨c0, c1, c2, c3, c4, c5, c6⟩ := box_reads R2.out
  clear hb2
  go_wp2_with fail
  refine (KP.out _ R2.out.bel).mono ?_
  rintro e w3 ⟨rfl, hb3⟩
  have R3 := hide (R2.out.below cell_ok hb3)
  clear c0 c1 c2 c3 c4 c5 c6
  obtain ⟨c0, c1, c2, c3, c4, c5, c6⟩ := box_reads R3.out
  clear hb3
  go_wp2_with fail
  refine (KI.out _).mono ?_
  rintro e wq ⟨rfl, rfl⟩
  go_wp2_with fail
  refine (KQ.out _).mono ?_
  rintro e wq ⟨rfl, rfl⟩
  go_wp2_with fail
  refine (KU.out _).mono ?_
  rintro e wq ⟨rfl, rfl⟩
  go_wp2
  go_ret
  exact bel_bool rfl R3.out.bel
set_option maxHeartbeats 1600000 in
theorem valid_13 (h : LicIn w l A B) (t1 : names l.ms = true) (t2 : names l.ps = true) (t3 : 0 < l.ms.length) (t4 : l.ms.length ≤ 12) (t5 : l.ps.length ≤ 60) (t6 : isName l.id = true) (t7 : within l.q 1000000000 = true) (t8 : within l.u 1000 = true) (t9 : within l.f 144001439 = false) :
    Calls Try.prog 49 #[licV l A c B d] w (BelowRet w (.bool false)) := by
  have KM := hide (fun W (hb : Below w.heap.size w W) => names_any (c := c) (h.keep hb).ms h.mz h.mn)
  have KP := hide (fun W (hb : Below w.heap.size w W) => names_any (c := d) (h.keep hb).ps h.pz h.pn)
  have KI := hide (fun W => isName_any l.id W h.id)
  have KW := hide within_any
  have R1 := hide (((Run.begin w).fresh emp_ok (cell_new w (licC l A c B d) 56)).imp fun _ _ h => star_emp h)
  rw [t1] at KM
  rw [t2] at KP
  rw [t6] at KI
  have KQ := hide (KW.out l.q 1000000000)
  rw [t7] at KQ
  have KU := hide (KW.out l.u 1000)
  rw [t8] at KU
  have KF := hide (KW.out l.f 144001439)
  rw [t9] at KF
  clear h t1 t2 t6 t7 t8 t9
  unfold licC at R1
  unfold licV
  generalize l.ms.length = n at *
  generalize l.ps.length = m at *
  generalize l.q = zq at *
  generalize l.u = zu at *
  generalize l.f = zf at *
  generalize l.t = zt at *
  generalize l.id = zi at *
  go_enter Try.func49, Try.ntmps49
  go_wp2_with fail
  refine (KM.out _ R1.out.bel).mono ?_
  rintro e w2 ⟨rfl, hb2⟩
  have R2 := hide (R1.out.below cell_ok hb2)
  obtain ⟨c0, c1, c2, c3, c4, c5, c6⟩ := box_reads R2.out
  clear hb2
  go_wp2_with fail
  refine (KP.out _ R2.out.bel).mono ?_
  rintro e w3 ⟨rfl, hb3⟩
  have R3 := hide (R2.out.below cell_ok hb3)
  clear c0 c1 c2 c3 c4 c5 c6
  obtain ⟨c0, c1, c2, c3, c4, c5, c6⟩ := box_reads R3.out
  clear hb3
  go_wp2_with fail
  refine (KI.out _).mono ?_
  rintro e wq ⟨rfl, rfl⟩
  go_wp2_with fail
  refine (KQ.out _).mono ?_
  rintro e wq ⟨rfl, rfl⟩
  go_wp2_with fail
  refine (KU.out _).mono ?_
  rintro e wq ⟨rfl, rfl⟩
  go_wp2_with fail
  refine (KF.out _).mono ?_
  rintro e wq ⟨rfl, rfl⟩
  go_wp2
  go_ret
  exact bel_bool rfl R3.out.bel
set_option maxHeartbeats 1600000 in
theorem valid_14 (h : LicIn w l A B) (t1 : names l.ms = true) (t2 : names l.ps = true) (t3 : 0 < l.ms.length) (t4 : l.ms.length ≤ 12) (t5 : l.ps.length ≤ 60) (t6 : isName l.id = true) (t7 : within l.q 1000000000 = true) (t8 : within l.u 1000 = true) (t9 : within l.f 144001439 = true) (t10 : within l.t 144001439 = false) :
    Calls Try.prog 49 #[licV l A c B d] w (BelowRet w (.bool false)) := by
  have KM := hide (fun W (hb : Below w.heap.size w W) => names_any (c := c) (h.keep hb).ms h.mz h.mn)
  have KP := hide (fun W (hb : Below w.heap.size w W) => names_any (c := d) (h.keep hb).ps h.pz h.pn)
  have KI := hide (fun W => isName_any l.id W h.id)
  have KW := hide within_any
  have R1 := hide (((Run.begin w).fresh emp_ok (cell_new w (licC l A c B d) 56)).imp fun _ _ h => star_emp h)
  rw [t1] at KM
  rw [t2] at KP
  rw [t6] at KI
  have KQ := hide (KW.out l.q 1000000000)
  rw [t7] at KQ
  have KU := hide (KW.out l.u 1000)
  rw [t8] at KU
  have KF := hide (KW.out l.f 144001439)
  rw [t9] at KF
  have KT := hide (KW.out l.t 144001439)
  rw [t10] at KT
  clear h t1 t2 t6 t7 t8 t9 t10
  unfold licC at R1
  unfold licV
  generalize l.ms.length = n at *
  generalize l.ps.length = m at *
  generalize l.q = zq at *
  generalize l.u = zu at *
  generalize l.f = zf at *
  generalize l.t = zt at *
  generalize l.id = zi at *
  go_enter Try.func49, Try.ntmps49
  go_wp2_with fail
  refine (KM.out _ R1.out.bel).mono ?_
  rintro e w2 ⟨rfl, hb2⟩
  have R2 := hide (R1.out.below cell_ok hb2)
  obtain ⟨c0, c1, c2, c3, c4, c5, c6⟩ := box_reads R2.out
  clear hb2
  go_wp2_with fail
  refine (KP.out _ R2.out.bel).mono ?_
  rintro e w3 ⟨rfl, hb3⟩
  have R3 := hide (R2.out.below cell_ok hb3)
  clear c0 c1 c2 c3 c4 c5 c6
  obtain ⟨c0, c1, c2, c3, c4, c5, c6⟩ := box_reads R3.out
  clear hb3
  go_wp2_with fail
  refine (KI.out _).mono ?_
  rintro e wq ⟨rfl, rfl⟩
  go_wp2_with fail
  refine (KQ.out _).mono ?_
  rintro e wq ⟨rfl, rfl⟩
  go_wp2_with fail
  refine (KU.out _).mono ?_
  rintro e wq ⟨rfl, rfl⟩
  go_wp2_with fail
  refine (KF.out _).mono ?_
  rintro e wq ⟨rfl, rfl⟩
  go_wp2_with fail
  refine (KT.out _).mono ?_
  rintro e wq ⟨rfl, rfl⟩
  go_wp2
  go_ret
  exact bel_bool rfl R3.out.bel
set_option maxHeartbeats 1600000 in
theorem valid_15 (h : LicIn w l A B) (t1 : names l.ms = true) (t2 : names l.ps = true) (t3 : 0 < l.ms.length) (t4 : l.ms.length ≤ 12) (t5 : l.ps.length ≤ 60) (t6 : isName l.id = true) (t7 : within l.q 1000000000 = true) (t8 : within l.u 1000 = true) (t9 : within l.f 144001439 = true) (t10 : within l.t 144001439 = true) (t11 : ¬ l.f < l.t) :
    Calls Try.prog 49 #[licV l A c B d] w (BelowRet w (.bool false)) := by
  have KM := hide (fun W (hb : Below w.heap.size w W) => names_any (c := c) (h.keep hb).ms h.mz h.mn)
  have KP := hide (fun W (hb : Below w.heap.size w W) => names_any (c := d) (h.keep hb).ps h.pz h.pn)
  have KI := hide (fun W => isName_any l.id W h.id)
  have KW := hide within_any
  have R1 := hide (((Run.begin w).fresh emp_ok (cell_new w (licC l A c B d) 56)).imp fun _ _ h => star_emp h)
  rw [t1] at KM
  rw [t2] at KP
  rw [t6] at KI
  have KQ := hide (KW.out l.q 1000000000)
  rw [t7] at KQ
  have KU := hide (KW.out l.u 1000)
  rw [t8] at KU
  have KF := hide (KW.out l.f 144001439)
  rw [t9] at KF
  have KT := hide (KW.out l.t 144001439)
  rw [t10] at KT
  clear h t1 t2 t6 t7 t8 t9 t10
  unfold licC at R1
  unfold licV
  generalize l.ms.length = n at *
  generalize l.ps.length = m at *
  generalize l.q = zq at *
  generalize l.u = zu at *
  generalize l.f = zf at *
  generalize l.t = zt at *
  generalize l.id = zi at *
  go_enter Try.func49, Try.ntmps49
  go_wp2_with fail
  refine (KM.out _ R1.out.bel).mono ?_
  rintro e w2 ⟨rfl, hb2⟩
  have R2 := hide (R1.out.below cell_ok hb2)
  obtain ⟨c0, c1, c2, c3, c4, c5, c6⟩ := box_reads R2.out
  clear hb2
  go_wp2_with fail
  refine (KP.out _ R2.out.bel).mono ?_
  rintro e w3 ⟨rfl, hb3⟩
  have R3 := hide (R2.out.below cell_ok hb3)
  clear c0 c1 c2 c3 c4 c5 c6
  obtain ⟨c0, c1, c2, c3, c4, c5, c6⟩ := box_reads R3.out
  clear hb3
  go_wp2_with fail
  refine (KI.out _).mono ?_
  rintro e wq ⟨rfl, rfl⟩
  go_wp2_with fail
  refine (KQ.out _).mono ?_
  rintro e wq ⟨rfl, rfl⟩
  go_wp2_with fail
  refine (KU.out _).mono ?_
  rintro e wq ⟨rfl, rfl⟩
  go_wp2_with fail
  refine (KF.out _).mono ?_
  rintro e wq ⟨rfl, rfl⟩
  go_wp2_with fail
  refine (KT.out _).mono ?_
  rintro e wq ⟨rfl, rfl⟩
  go_wp2
  go_ret
  exact bel_bool (by go_num) R3.out.bel
set_option maxHeartbeats 1600000 in
theorem valid_16 (h : LicIn w l A B) (t1 : names l.ms = true) (t2 : names l.ps = true) (t3 : 0 < l.ms.length) (t4 : l.ms.length ≤ 12) (t5 : l.ps.length ≤ 60) (t6 : isName l.id = true) (t7 : within l.q 1000000000 = true) (t8 : within l.u 1000 = true) (t9 : within l.f 144001439 = true) (t10 : within l.t 144001439 = true) (t11 : l.f < l.t) :
    Calls Try.prog 49 #[licV l A c B d] w (BelowRet w (.bool true)) := by
  have KM := hide (fun W (hb : Below w.heap.size w W) => names_any (c := c) (h.keep hb).ms h.mz h.mn)
  have KP := hide (fun W (hb : Below w.heap.size w W) => names_any (c := d) (h.keep hb).ps h.pz h.pn)
  have KI := hide (fun W => isName_any l.id W h.id)
  have KW := hide within_any
  have R1 := hide (((Run.begin w).fresh emp_ok (cell_new w (licC l A c B d) 56)).imp fun _ _ h => star_emp h)
  rw [t1] at KM
  rw [t2] at KP
  rw [t6] at KI
  have KQ := hide (KW.out l.q 1000000000)
  rw [t7] at KQ
  have KU := hide (KW.out l.u 1000)
  rw [t8] at KU
  have KF := hide (KW.out l.f 144001439)
  rw [t9] at KF
  have KT := hide (KW.out l.t 144001439)
  rw [t10] at KT
  clear h t1 t2 t6 t7 t8 t9 t10
  unfold licC at R1
  unfold licV
  generalize l.ms.length = n at *
  generalize l.ps.length = m at *
  generalize l.q = zq at *
  generalize l.u = zu at *
  generalize l.f = zf at *
  generalize l.t = zt at *
  generalize l.id = zi at *
  go_enter Try.func49, Try.ntmps49
  go_wp2_with fail
  refine (KM.out _ R1.out.bel).mono ?_
  rintro e w2 ⟨rfl, hb2⟩
  have R2 := hide (R1.out.below cell_ok hb2)
  obtain ⟨c0, c1, c2, c3, c4, c5, c6⟩ := box_reads R2.out
  clear hb2
  go_wp2_with fail
  refine (KP.out _ R2.out.bel).mono ?_
  rintro e w3 ⟨rfl, hb3⟩
  have R3 := hide (R2.out.below cell_ok hb3)
  clear c0 c1 c2 c3 c4 c5 c6
  obtain ⟨c0, c1, c2, c3, c4, c5, c6⟩ := box_reads R3.out
  clear hb3
  go_wp2_with fail
  refine (KI.out _).mono ?_
  rintro e wq ⟨rfl, rfl⟩
  go_wp2_with fail
  refine (KQ.out _).mono ?_
  rintro e wq ⟨rfl, rfl⟩
  go_wp2_with fail
  refine (KU.out _).mono ?_
  rintro e wq ⟨rfl, rfl⟩
  go_wp2_with fail
  refine (KF.out _).mono ?_
  rintro e wq ⟨rfl, rfl⟩
  go_wp2_with fail
  refine (KT.out _).mono ?_
  rintro e wq ⟨rfl, rfl⟩
  go_wp2
  go_ret
  exact bel_bool rfl R3.out.bel
end
theorem valid_any {w : World} {l : LicM} {A B : Option Addr} {c d : Nat} (h : LicIn w l A B) : Calls Try.prog 49 #[licV l A c B d] w (BelowRet w (.bool (valid l))) := by
  cases t1 : names l.ms with
  | false =>
    cases t6 : isName l.id with
    | false =>
      rw [show valid l = false by simp [valid, listsOk, t1, t6]]
      exact valid_0 h t1 t6
    | true =>
      rw [show valid l = false by simp [valid, listsOk, t1, t6]]
      exact valid_1 h t1 t6
  | true =>
    cases t2 : names l.ps with
    | false =>
      cases t6 : isName l.id with
      | false =>
        rw [show valid l = false by simp [valid, listsOk, t1, t2, t6]]
        exact valid_2 h t1 t2 t6
      | true =>
        rw [show valid l = false by simp [valid, listsOk, t1, t2, t6]]
        exact valid_3 h t1 t2 t6
    | true =>
      by_cases t3 : 0 < l.ms.length
      case neg =>
        cases t6 : isName l.id with
        | false =>
          rw [show valid l = false by simp [valid, listsOk, t1, t2, t3, t6]]
          exact valid_4 h t1 t2 t3 t6
        | true =>
          rw [show valid l = false by simp [valid, listsOk, t1, t2, t3, t6]]
          exact valid_5 h t1 t2 t3 t6
      case pos =>
        by_cases t4 : l.ms.length ≤ 12
        case neg =>
          cases t6 : isName l.id with
          | false =>
            rw [show valid l = false by simp [valid, listsOk, t1, t2, t3, t4, t6]]
            exact valid_6 h t1 t2 t3 t4 t6
          | true =>
            rw [show valid l = false by simp [valid, listsOk, t1, t2, t3, t4, t6]]
            exact valid_7 h t1 t2 t3 t4 t6
        case pos =>
          by_cases t5 : l.ps.length ≤ 60
          case neg =>
            cases t6 : isName l.id with
            | false =>
              rw [show valid l = false by simp [valid, listsOk, t1, t2, t3, t4, t5, t6]]
              exact valid_8 h t1 t2 t3 t4 t5 t6
            | true =>
              rw [show valid l = false by simp [valid, listsOk, t1, t2, t3, t4, t5, t6]]
              exact valid_9 h t1 t2 t3 t4 t5 t6
          case pos =>
            cases t6 : isName l.id with
            | false =>
              rw [show valid l = false by simp [valid, listsOk, t1, t2, t3, t4, t5, t6]]
              exact valid_10 h t1 t2 t3 t4 t5 t6
            | true =>
              cases t7 : within l.q 1000000000 with
              | false =>
                rw [show valid l = false by simp [valid, listsOk, t1, t2, t3, t4, t5, t6, t7]]
                exact valid_11 h t1 t2 t3 t4 t5 t6 t7
              | true =>
                cases t8 : within l.u 1000 with
                | false =>
                  rw [show valid l = false by simp [valid, listsOk, t1, t2, t3, t4, t5, t6, t7, t8]]
                  exact valid_12 h t1 t2 t3 t4 t5 t6 t7 t8
                | true =>
                  cases t9 : within l.f 144001439 with
                  | false =>
                    rw [show valid l = false by simp [valid, listsOk, t1, t2, t3, t4, t5, t6, t7, t8, t9]]
                    exact valid_13 h t1 t2 t3 t4 t5 t6 t7 t8 t9
                  | true =>
                    cases t10 : within l.t 144001439 with
                    | false =>
                      rw [show valid l = false by simp [valid, listsOk, t1, t2, t3, t4, t5, t6, t7, t8, t9, t10]]
                      exact valid_14 h t1 t2 t3 t4 t5 t6 t7 t8 t9 t10
                    | true =>
                      by_cases t11 : l.f < l.t
                      case neg =>
                        rw [show valid l = false by simp [valid, listsOk, t1, t2, t3, t4, t5, t6, t7, t8, t9, t10, t11]]
                        exact valid_15 h t1 t2 t3 t4 t5 t6 t7 t8 t9 t10 t11
                      case pos =>
                        rw [show valid l = true by simp [valid, listsOk, t1, t2, t3, t4, t5, t6, t7, t8, t9, t10, t11]]
                        exact valid_16 h t1 t2 t3 t4 t5 t6 t7 t8 t9 t10 t11
end Go.Proofs.Ytapabbpdfplpoaa
namespace Go.CH
open Go.RowKit

/-- Operations that may change the world. -/
def chainK : Op → Bool
  | .call { callee := .builtin .len, .. } | .call { callee := .builtin .cap, .. } | .call { callee := .builtin .min, .. } | .call { callee := .builtin .max, .. } => false
  | .move _ | .assign _ | .pick .. | .load .. | .nilCheck _ | .binOp .. | .unOp .. | .makeInterface .. | .makeFunc .. | .slice .. | .fieldAddr .. | .field .. | .indexAddr .. | .index .. | .lookup .. | .extract .. | .build .. | .typeAssert .. | .entry _ => false
  | _ => true

section
variable {P : Program} {ops : Array Oper} {S : World → Prop} {Q : Exit → Act → World → Prop}

def NoExit : Exit → Act → World → Prop := fun _ _ _ => False

/-- The walk in the order of a list of indexes. -/
def wpLx (P : Program) (ops : Array Oper) (S : World → Prop) (Q : Exit → Act → World → Prop) : List Nat → Act → World → Prop
  | [], a, w => Q .normal a w
  | i :: r, a, w => match ops[i]? with
    | none => wpLx P ops S Q r a w
    | some o => (∃ v, YieldsIf P ops S o v a ∧ wpLx P ops S Q r (a.put o.dst v) w) ∨
      (chainK o.op = true ∧ Region.wanted o (yielded ops a.tmps) = true ∧ o.wp P a w (fun a' w' => S w' ∧ wpLx P ops S Q r a' w') NoExit)

theorem yi_uniq {o : Oper} {u v : Value} {a : Act} {w : World} (hS : S w) (h1 : YieldsIf P ops S o u a) (h2 : YieldsIf P ops S o v a) : u = v := by
  rcases h1 with ⟨w1, r1⟩ | ⟨w1, e1⟩ <;> rcases h2 with ⟨w2, r2⟩ | ⟨w2, e2⟩
  · have h := (r1 w hS).symm.trans (r2 w hS)
    injection h with h _
    injection h
  · rw [w1] at w2; cases w2
  · rw [w1] at w2; cases w2
  · rw [e1, e2]

theorem calls_some {f : FuncId} {args : Array Value} {w : World} {R : Ending → World → Prop} (h : Calls P f args w R) : ∃ e w', R e w' := by
  obtain ⟨e, w', _, hR, _⟩ := h []; exact ⟨e, w', hR⟩

/-- An operation that reads may be taken out of the way of one that has its own temporaries. -/
theorem yi_back {oi oj : Oper} {u v : Value} {a : Act} (hs : ∀ cs b, oj.op ≠ .select cs b) (h : ∀ d, oi.dst = some d → d ∉ oj.looksAt ops) (hy : YieldsIf P ops S oj u (a.put oi.dst v)) : YieldsIf P ops S oj u a :=
  hy.of_same (execOp_put oj hs a oi.dst v h).symm (wanted_put oj a oi.dst v h).symm
theorem yi_forth {oi oj : Oper} {u v : Value} {a : Act} (hs : ∀ cs b, oj.op ≠ .select cs b) (h : ∀ d, oi.dst = some d → d ∉ oj.looksAt ops) (hy : YieldsIf P ops S oj u a) : YieldsIf P ops S oj u (a.put oi.dst v) :=
  hy.of_same (execOp_put oj hs a oi.dst v h) (wanted_put oj a oi.dst v h)
theorem yi_defers {o : Oper} {u : Value} {a : Act} {ds : List Deferred} (h : YieldsIf P ops S o u { a with defers := ds }) : YieldsIf P ops S o u a := h.of_same rfl rfl
theorem yi_defers' {o : Oper} {u : Value} {a : Act} {ds : List Deferred} (h : YieldsIf P ops S o u a) : YieldsIf P ops S o u { a with defers := ds } := h.of_same rfl rfl

/-- A reading operation i first, a changing one j behind it: j may come first. -/
theorem wp_swap_rc {oi oj : Oper} {v : Value} {a : Act} {w : World} {K : Act → World → Prop} (hsi : ∀ cs b, oi.op ≠ .select cs b) (hsj : ∀ cs b, oj.op ≠ .select cs b) (hap : oi.apart ops oj = true)
    (hy : YieldsIf P ops S oi v a) (h : oj.wp P (a.put oi.dst v) w K NoExit) : oj.wp P a w (fun a' w' => YieldsIf P ops S oi v a' ∧ K (a'.put oi.dst v) w') NoExit := by
  obtain ⟨h1, h2, h3⟩ := Oper.apart_spec hap
  have keep : ∀ (a : Act), YieldsIf P ops S oi v a → ∀ u, YieldsIf P ops S oi v (a.put oj.dst u) := fun a hy u => yi_forth hsi h3 hy
  unfold Oper.wp at *
  rw [execOp_put oj hsj a oi.dst v h1] at h
  generalize (execOp a.eval oj).run P w = r at *
  cases r with
  | ok n w' =>
    cases n <;> simp only [Oper.upon] at h ⊢
    case value u => exact ⟨keep a hy u, by rw [← Act.put_comm a v u h2]; exact h⟩
    case skip => exact ⟨keep a hy _, by rw [← Act.put_comm a v undef h2]; exact h⟩
    case defer d =>
      refine ⟨keep _ (yi_defers' hy) _, ?_⟩
      rw [← Act.put_comm _ v undef h2, ← Act.put_defers]
      exact h
    case enter f args =>
      refine Calls.mono h fun e w'' he => ?_
      cases e with
      | returned u => exact ⟨keep a hy u, by rw [← Act.put_comm a v u h2]; exact he⟩
      | panicked c => exact he
      | outgrown => exact he
    case row row args => exact Rows.mono h fun u w'' he => ⟨keep a hy u, by rw [← Act.put_comm a v u h2]; exact he⟩
  | halt x w' => cases x <;> simp only [Oper.upon] at h ⊢ <;> exact h

/-- A changing operation i first, a reading one j behind it: j may come first. -/
theorem wp_swap_cr {oi oj : Oper} {a : Act} {w : World} {K : Act → World → Prop} (hsi : ∀ cs b, oi.op ≠ .select cs b) (hsj : ∀ cs b, oj.op ≠ .select cs b) (hap : oi.apart ops oj = true) (hS : S w)
    (h : oi.wp P a w (fun a' w' => S w' ∧ ∃ u, YieldsIf P ops S oj u a' ∧ K (a'.put oj.dst u) w') NoExit) :
    ∃ u, YieldsIf P ops S oj u a ∧ oi.wp P (a.put oj.dst u) w (fun a' w' => S w' ∧ K a' w') NoExit := by
  obtain ⟨h1, h2, h3⟩ := Oper.apart_spec hap
  unfold Oper.wp at *
  have hex : ∀ u, execOp (a.put oj.dst u).eval oi = execOp a.eval oi := fun u => execOp_put oi hsi a oj.dst u h3
  simp only [hex]
  generalize (execOp a.eval oi).run P w = r at *
  cases r with
  | ok n w' =>
    cases n <;> simp only [Oper.upon] at h ⊢
    case value v =>
      obtain ⟨s, u, hy, hk⟩ := h
      exact ⟨u, yi_back hsj h1 hy, s, by rw [← Act.put_comm a v u h2]; exact hk⟩
    case skip =>
      obtain ⟨s, u, hy, hk⟩ := h
      exact ⟨u, yi_back hsj h1 hy, s, by rw [← Act.put_comm a undef u h2]; exact hk⟩
    case defer d =>
      obtain ⟨s, u, hy, hk⟩ := h
      refine ⟨u, yi_defers (yi_back hsj h1 hy), s, ?_⟩
      rw [Act.put_defers, ← Act.put_comm _ undef u h2]
      exact hk
    case enter f args =>
      obtain ⟨e, w0, he⟩ := calls_some h
      cases e with
      | panicked c => exact he.elim
      | outgrown => obtain ⟨_, _, he⟩ := he; exact he.elim
      | returned v0 =>
        obtain ⟨_, u, hy, _⟩ := he
        have hy0 := yi_back hsj h1 hy
        refine ⟨u, hy0, Calls.mono h fun e w'' he => ?_⟩
        cases e with
        | panicked c => exact he
        | outgrown => exact he
        | returned v =>
          obtain ⟨s, u', hy', hk⟩ := he
          obtain rfl := yi_uniq hS hy0 (yi_back hsj h1 hy')
          exact ⟨s, by rw [← Act.put_comm a v u h2]; exact hk⟩
    case row row args =>
      have hr := h default []
      obtain ⟨v0, w0, ⟨_, u, hy, _⟩, _⟩ := hr
      have hy0 := yi_back hsj h1 hy
      refine ⟨u, hy0, Rows.mono h fun v w'' he => ?_⟩
      obtain ⟨s, u', hy', hk⟩ := he
      obtain rfl := yi_uniq hS hy0 (yi_back hsj h1 hy')
      exact ⟨s, by rw [← Act.put_comm a v u h2]; exact hk⟩
  | halt x w' => cases x <;> simp only [Oper.upon] at h <;> exact h.elim

/-- i may be overtaken by j. -/
def swapOk (ops : Array Oper) (i j : Nat) : Bool :=
  match ops[i]?, ops[j]? with
  | some oi, some oj => !(chainK oi.op && chainK oj.op) && oi.apart ops oj
  | _, _ => false

theorem wpLx_mono {S' : World → Prop} : ∀ (l : List Nat) {a : Act} {w : World} {Q' : Exit → Act → World → Prop} (_ : ∀ a w, Q .normal a w → Q' .normal a w), wpLx P ops S Q l a w → wpLx P ops S Q' l a w
  | [], a, w, Q', hq, h => hq _ _ h
  | i :: r, a, w, Q', hq, h => by
    unfold wpLx at *
    cases ho : ops[i]? with
    | none => simp only [ho] at h ⊢; exact wpLx_mono (S' := S') r hq h
    | some o =>
      simp only [ho] at h ⊢
      rcases h with ⟨v, h1, h2⟩ | ⟨h1, h2, h3⟩
      · exact .inl ⟨v, h1, wpLx_mono (S' := S') r hq h2⟩
      · exact .inr ⟨h1, h2, Oper.wp_mono (fun a w h => ⟨h.1, wpLx_mono (S' := S') r hq h.2⟩) h3⟩

theorem wpLx_swap (hns : Region.noSelect ops = true) {i j : Nat} {r : List Nat} {a : Act} {w : World} (hok : swapOk ops i j = true) (hS : S w) (h : wpLx P ops S Q (i :: j :: r) a w) : wpLx P ops S Q (j :: i :: r) a w := by
  unfold swapOk at hok
  cases hi : ops[i]? with
  | none => simp [hi] at hok
  | some oi =>
  cases hj : ops[j]? with
  | none => simp [hj] at hok
  | some oj =>
  simp only [hi, hj, Bool.and_eq_true, Bool.not_eq_true', Bool.and_eq_false_iff] at hok
  obtain ⟨hch, hap⟩ := hok
  have hsi := fun cs b => Region.noSelect_spec hns i oi cs b hi
  have hsj := fun cs b => Region.noSelect_spec hns j oj cs b hj
  obtain ⟨h1, h2, h3⟩ := Oper.apart_spec hap
  simp only [wpLx, hi, hj] at h ⊢
  rcases h with ⟨v, hy, ⟨u, hy2, hr⟩ | ⟨hc, hw, hr⟩⟩ | ⟨hc, hw, hr⟩
  · refine .inl ⟨u, yi_back hsj h1 hy2, .inl ⟨v, yi_forth hsi h3 hy, ?_⟩⟩
    rw [← Act.put_comm a v u h2]; exact hr
  · refine .inr ⟨hc, by rw [← hw]; exact (wanted_put oj a oi.dst v h1).symm, ?_⟩
    refine Oper.wp_mono (fun a' w' hk => ?_) (wp_swap_rc hsi hsj hap hy hr)
    exact ⟨hk.2.1, .inl ⟨v, hk.1, hk.2.2⟩⟩
  · have hcj : chainK oj.op = false := by
      rcases hch with e | e
      · rw [hc] at e; cases e
      · exact e
    have hr' : oi.wp P a w (fun a' w' => S w' ∧ ∃ u, YieldsIf P ops S oj u a' ∧ wpLx P ops S Q r (a'.put oj.dst u) w') NoExit := by
      refine Oper.wp_mono (fun a' w' hk => ⟨hk.1, ?_⟩) hr
      rcases hk.2 with hk | ⟨e, _⟩
      · exact hk
      · rw [hcj] at e; cases e
    obtain ⟨u, hy, hk⟩ := wp_swap_cr (K := wpLx P ops S Q r) hsi hsj hap hS hr'
    refine .inl ⟨u, hy, .inr ⟨hc, ?_, hk⟩⟩
    rw [wanted_put oi a oj.dst u h3]; exact hw

theorem wpLx_front (hns : Region.noSelect ops = true) {j : Nat} {r : List Nat} : ∀ (l : List Nat) {a : Act} {w : World}, (∀ i ∈ l, swapOk ops i j = true) → S w → wpLx P ops S Q (l ++ j :: r) a w → wpLx P ops S Q (j :: (l ++ r)) a w
  | [], _, _, _, _, h => h
  | i :: l, a, w, hok, hS, h => by
    refine wpLx_swap hns (hok i (by simp)) hS ?_
    have ih := fun {a : Act} {w : World} (hS : S w) => wpLx_front hns (r := r) l (a := a) (w := w) (fun i hi => hok i (by simp [hi])) hS
    rw [List.cons_append] at h
    unfold wpLx at h ⊢
    cases ho : ops[i]? with
    | none => simp only [ho] at h ⊢; exact ih hS h
    | some o =>
      simp only [ho] at h ⊢
      rcases h with ⟨v, h1, h2⟩ | ⟨h1, h2, h3⟩
      · exact .inl ⟨v, h1, ih hS h2⟩
      · exact .inr ⟨h1, h2, Oper.wp_mono (fun a w h => ⟨h.1, ih h.1 h.2⟩) h3⟩

/-! ### Any order -/

/-- Not yet listed, in the order of the text. -/
def unl (ops : Array Oper) (listed : Array Bool) : List Nat := (List.range ops.size).filter fun i => !listed.getD i true

/-- All that a listed operation waits for is listed. -/
def Closed (ops : Array Oper) (listed : Array Bool) : Prop := ∀ j o, ops[j]? = some o → listed.getD j false = true → ∀ e ∈ o.after, Region.binds .any e = true → listed.getD e.on false = true

/-- The masks B say what an operation waits for, directly or not. -/
def maskOk (ops : Array Oper) (B : Array Nat) : Bool :=
  (List.range ops.size).all fun j => (List.range j).all fun i => !(B.getD j 0).testBit i ||
    match ops[j]? with
    | some o => o.after.any fun e => Region.binds .any e && e.on < j && (e.on == i || (decide (i < e.on) && (B.getD e.on 0).testBit i))
    | none => false
def lexOk (ops : Array Oper) : Bool :=
  Region.noSelect ops && maskOk ops (Region.before ops) &&
  (List.range ops.size).all fun j => (match ops[j]? with | some o => o.after.all fun e => !Region.binds .any e || e.on < j | none => false) &&
    (List.range j).all fun i => ((Region.before ops).getD j 0).testBit i || swapOk ops i j

theorem mask_listed {B : Array Nat} (hB : maskOk ops B = true) {listed : Array Bool} (hc : Closed ops listed) : ∀ (n j : Nat) (o : Oper), j < n → ops[j]? = some o → (∀ e ∈ o.after, Region.binds .any e = true → listed.getD e.on false = true) →
    ∀ i, i < j → (B.getD j 0).testBit i = true → listed.getD i false = true
  | 0, _, _, h, _, _, _, _, _ => by omega
  | n + 1, j, o, hj, ho, ha, i, hi, hbit => by
    have hjs : j < ops.size := (Array.getElem?_eq_some_iff.1 ho).1
    have h1 := hB
    simp only [maskOk, List.all_eq_true, List.mem_range] at h1
    have h2 := h1 j hjs i hi
    simp only [ho, hbit, Bool.not_true, Bool.false_or] at h2
    obtain ⟨e, he, hb⟩ := Array.any_eq_true'.1 h2
    simp only [Bool.and_eq_true, decide_eq_true_eq, Bool.or_eq_true, beq_iff_eq] at hb
    obtain ⟨⟨hb1, hb2⟩, hb3⟩ := hb
    have hl := ha e he hb1
    rcases hb3 with rfl | ⟨hie, hb3⟩
    · exact hl
    · have hes : e.on < ops.size := by omega
      have ho' : ops[e.on]? = some ops[e.on] := Array.getElem?_eq_getElem hes
      exact mask_listed hB hc n e.on _ (by omega) ho' (fun e' he' hb' => hc e.on _ ho' hl e' he' hb') i hie hb3

theorem range_split {n j : Nat} (h : j < n) : List.range n = List.range j ++ j :: List.range' (j + 1) (n - j - 1) := by
  have e : n = j + (1 + (n - j - 1)) := by omega
  conv => lhs; rw [e, List.range_eq_range', ← List.range'_append_1, ← List.range'_append_1]
  simp [List.range_eq_range']

theorem getD_lt {listed : Array Bool} {i : Nat} (h : i < listed.size) (d d' : Bool) : listed.getD i d = listed.getD i d' := by simp [h]

theorem unl_split {listed : Array Bool} {j : Nat} (hs : listed.size = ops.size) (hj : j < ops.size) (hu : listed.getD j true = false) :
    ∃ l1 l2, unl ops listed = l1 ++ j :: l2 ∧ unl ops (listed.setIfInBounds j true) = l1 ++ l2 ∧ (∀ i ∈ l1, i < j ∧ listed.getD i true = false) := by
  refine ⟨(List.range j).filter fun i => !listed.getD i true, (List.range' (j + 1) (ops.size - j - 1)).filter fun i => !listed.getD i true, ?_, ?_, ?_⟩
  · unfold unl
    rw [range_split hj, List.filter_append, List.filter_cons_of_pos (by simp [hu])]
  · unfold unl
    have hset : (listed.setIfInBounds j true).getD j true = true := by simp
    rw [range_split hj, List.filter_append, List.filter_cons_of_neg (by rw [hset]; simp)]
    congr 1
    · refine List.filter_congr fun i hi => ?_
      have : j ≠ i := by have := List.mem_range.1 hi; omega
      rw [getD_set_ne true this]
    · refine List.filter_congr fun i hi => ?_
      have : j ≠ i := by have := List.mem_range'_1.1 hi; omega
      rw [getD_set_ne true this]
  · intro i hi
    rw [List.mem_filter, List.mem_range] at hi
    exact ⟨hi.1, by simpa using hi.2⟩

theorem wpAny_of_lx (hB : lexOk ops = true) : ∀ (n : Nat) (listed : Array Bool) (a : Act) (w : World), (unl ops listed).length = n → listed.size = ops.size → Closed ops listed → S w → wpLx P ops S Q (unl ops listed) a w → wpAny P .any ops Q n listed a w := by
  have hB' := hB
  simp only [lexOk, Bool.and_eq_true, List.all_eq_true, List.mem_range] at hB'
  obtain ⟨⟨hns, hmask⟩, hall⟩ := hB'
  intro n
  induction n with
  | zero =>
    intro listed a w hn hs hc hS h
    have hnil : unl ops listed = [] := List.eq_nil_of_length_eq_zero hn
    rw [hnil] at h
    refine ⟨?_, h⟩
    cases hr : Region.ready .any ops listed with
    | nil => rfl
    | cons j r =>
      have hj : j ∈ Region.ready .any ops listed := by rw [hr]; simp
      obtain ⟨h0, o, ho, _⟩ := mem_ready.1 hj
      have : j ∈ unl ops listed := by
        unfold unl; rw [List.mem_filter, List.mem_range]
        exact ⟨(Array.getElem?_eq_some_iff.1 ho).1, by simp [h0]⟩
      rw [hnil] at this; cases this
  | succ n ih =>
    intro listed a w hn hs hc hS h
    refine ⟨fun hr => ?_, fun j hj => ?_⟩
    · -- the first that is not listed is ready
      cases hu : unl ops listed with
      | nil => rw [hu] at hn; simp at hn
      | cons k r =>
        exfalso
        have hk : k ∈ unl ops listed := by rw [hu]; simp
        unfold unl at hk
        rw [List.mem_filter, List.mem_range] at hk
        obtain ⟨hk1, hk2⟩ := hk
        have hk2 : listed.getD k true = false := by simpa using hk2
        have ho : ops[k]? = some ops[k] := Array.getElem?_eq_getElem hk1
        have hd := (hall k hk1).1
        simp only [ho] at hd
        have : k ∈ Region.ready .any ops listed := by
          rw [mem_ready]
          refine ⟨hk2, _, ho, fun e he hb => ?_⟩
          have h1 := Array.all_eq_true_iff_forall_mem.1 hd e he
          simp only [hb, Bool.not_true, Bool.false_or, decide_eq_true_eq] at h1
          cases hl : listed.getD e.on false with
          | true => rfl
          | false =>
            exfalso
            obtain ⟨l1, l2, hs1, _, hs3⟩ := unl_split (ops := ops) (j := e.on) hs (by omega) (by rw [getD_lt (by omega) true false]; exact hl)
            rw [hu] at hs1
            cases l1 with
            | nil => simp at hs1; omega
            | cons x l1 =>
              simp at hs1
              have := (hs3 x (by simp)).1
              omega
        rw [hr] at this; cases this
    · obtain ⟨h0, o, ho, hall'⟩ := mem_ready.1 hj
      have hjs : j < ops.size := (Array.getElem?_eq_some_iff.1 ho).1
      obtain ⟨l1, l2, hs1, hs2, hs3⟩ := unl_split (ops := ops) hs hjs h0
      have hfront : wpLx P ops S Q (j :: (l1 ++ l2)) a w := by
        refine wpLx_front hns l1 (fun i hi => ?_) hS (hs1 ▸ h)
        obtain ⟨hij, hiu⟩ := hs3 i hi
        have := (hall j hjs).2 i hij
        rw [Bool.or_eq_true] at this
        rcases this with hb | hb
        · have hl := mask_listed hmask hc (j + 1) j o (by omega) ho hall' i hij hb
          rw [getD_lt (by omega) false true, hiu] at hl; cases hl
        · exact hb
      have hlen : (unl ops (listed.setIfInBounds j true)).length = n := by
        rw [hs2]; rw [hs1] at hn; simp at hn ⊢; omega
      have hs' : (listed.setIfInBounds j true).size = ops.size := by simpa using hs
      have hc' : Closed ops (listed.setIfInBounds j true) := by
        intro m om hm hl e he hb
        by_cases hmj : m = j
        · subst hmj
          rw [ho] at hm; cases hm
          exact getD_set_true (hall' e he hb)
        · rw [getD_set_ne false (Ne.symm hmj)] at hl
          exact getD_set_true (hc m om hm hl e he hb)
      rw [← hs2] at hfront
      unfold wpLx at hfront
      simp only [ho] at hfront
      rcases hfront with ⟨v, hy, hk⟩ | ⟨_, hw, hk⟩
      · exact hy.wpOp ho hS (ih _ _ _ hlen hs' hc' hS hk)
      · unfold wpOp
        simp only [ho, hw, if_true]
        refine .inl ?_
        have h2 := Oper.wp_mono (K' := wpAny P .any ops Q n (listed.setIfInBounds j true)) (fun a' w' hk => ih _ a' w' hlen hs' hc' hk.1 hk.2) hk
        -- the empty exit serves every exit
        unfold Oper.wp at h2 ⊢
        generalize (execOp a.eval o).run P w = r at *
        cases r with
        | ok nx w' =>
          cases nx <;> simp only [Oper.upon] at h2 ⊢ <;> first
            | exact h2
            | exact Calls.mono h2 (fun e w'' he => by
                cases e with
                | returned v => exact he
                | panicked c => exact he.elim
                | outgrown => obtain ⟨_, _, he⟩ := he; exact he.elim)
        | halt x w' => cases x <;> simp only [Oper.upon] at h2 ⊢ <;> first | exact h2 | exact h2.elim

/-! ### The walk -/

/-- The walk in the order of the text. -/
def wpLex (P : Program) (ops : Array Oper) (S : World → Prop) (Q : Exit → Act → World → Prop) : List Oper → Act → World → Prop
  | [], a, w => Q .normal a w
  | o :: r, a, w => (∃ v, YieldsIf P ops S o v a ∧ wpLex P ops S Q r (a.put o.dst v) w) ∨
      (chainK o.op = true ∧ Region.wanted o (yielded ops a.tmps) = true ∧ o.wp P a w (fun a' w' => S w' ∧ wpLex P ops S Q r a' w') NoExit)

theorem lx_of_lex : ∀ (l : List Oper) (k : Nat) (a : Act) (w : World), (∀ j, l[j]? = ops[k + j]?) → wpLex P ops S Q l a w → wpLx P ops S Q (List.range' k l.length) a w
  | [], _, _, _, _, h => h
  | o :: l, k, a, w, hl, h => by
    have h0 : ops[k]? = some o := by simpa using (hl 0).symm
    have ih := fun a w => lx_of_lex l (k + 1) a w (fun j => by have := hl (j + 1); simpa [Nat.add_assoc, Nat.add_comm 1 j] using this)
    simp only [List.length_cons, List.range'_succ]
    unfold wpLx
    simp only [h0]
    rcases h with ⟨v, h1, h2⟩ | ⟨h1, h2, h3⟩
    · exact .inl ⟨v, h1, ih _ _ h2⟩
    · exact .inr ⟨h1, h2, Oper.wp_mono (fun a' w' hk => ⟨hk.1, ih _ _ hk.2⟩) h3⟩

/-- A region that draws its order goes by one walk in the order of the text. -/
theorem wp_region_lex {id : Nat} {l : List Oper} {a : Act} {w : World} (S : World → Prop) (hm : P.follows .mixedOrders = true) (hB : lexOk l.toArray = true) (hS : S w.drew)
    (h : wpLex P l.toArray S Q l a w.drew) : (Code.region id l.toArray true).wp P Q a w := by
  refine wp_region_any hm ?_
  have hu : unl l.toArray (Array.replicate l.toArray.size false) = List.range l.toArray.size := by
    unfold unl
    refine List.filter_eq_self.2 fun i hi => ?_
    have := List.mem_range.1 hi
    simp at this
    simp [this]
  refine wpAny_of_lx (S := S) hB _ _ _ _ (by rw [hu]; simp) (by simp) ?_ hS ?_
  · intro j o ho hl
    have : j < l.length := by have := (Array.getElem?_eq_some_iff.1 ho).1; simpa using this
    simp [this] at hl
  · rw [hu]
    have := lx_of_lex (P := P) (ops := l.toArray) (S := S) (Q := Q) l 0 a w.drew (by simp) h
    simpa [List.range_eq_range'] using this

section
variable {o : Oper} {r : List Oper} {a : Act} {w : World}
theorem lex_nil (h : Q .normal a w) : wpLex P ops S Q [] a w := h
/-- The guard says no. -/
theorem lex_skip (hw : Region.wanted o (yielded ops a.tmps) = false) (h : wpLex P ops S Q r (a.put o.dst undef) w) : wpLex P ops S Q (o :: r) a w := .inl ⟨undef, .inr ⟨hw, rfl⟩, h⟩
/-- It reads. -/
theorem lex_read {v : Value} (hw : Region.wanted o (yielded ops a.tmps) = true) (hv : ∀ w', S w' → (execOp a.eval o).run P w' = .ok (.value v) w') (h : wpLex P ops S Q r (a.put o.dst v) w) : wpLex P ops S Q (o :: r) a w := .inl ⟨v, .inl ⟨hw, hv⟩, h⟩
/-- It may change the world. -/
theorem lex_chain (hc : chainK o.op = true) (hw : Region.wanted o (yielded ops a.tmps) = true) (h : ∀ K : Act → World → Prop, Hid (∀ a' w', S w' → wpLex P ops S Q r a' w' → K a' w') → o.wp P a w K NoExit) : wpLex P ops S Q (o :: r) a w :=
  .inr ⟨hc, hw, h _ fun _ _ h1 h2 => ⟨h1, h2⟩⟩
end
end
end Go.CH
