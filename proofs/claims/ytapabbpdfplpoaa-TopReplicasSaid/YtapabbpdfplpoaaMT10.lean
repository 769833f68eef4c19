/-
  Licence: Valid.
  Licence: what a book is in memory; what is read of it, what is written.
  Licence: slices.Clone of a list of texts; find, key, runs, left.
-/
import Derived.Test.YtapabbpdfplpoaaMT9
import Derived.Test.YtapabbpdfplpoaaMT4
set_option linter.unusedSimpArgs false
set_option linter.unusedVariables false
namespace Go.Proofs.Ytapabbpdfplpoaa
open Go.RowKit Go.CH Go.CH.Lic
open Go.ChangeMaps (setBlock)

def licV (l : LicM) (A : Option Addr) (c : Nat) (B : Option Addr) (d : Nat) : Value := .agg #[.string l.id, .slice A l.ms.length c, .slice B l.ps.length d, .int .i64 l.q, .int .i64 l.u, .int .i64 l.f, .int .i64 l.t]
def licC (l : LicM) (A : Option Addr) (c : Nat) (B : Option Addr) (d : Nat) : Array Value := #[.string l.id, .slice A l.ms.length c, .slice B l.ps.length d, .int .i64 l.q, .int .i64 l.u, .int .i64 l.f, .int .i64 l.t]
/-- A licence that comes in: its lists are read, their words are not too long. -/
structure LicIn (w : World) (l : LicM) (A : Option Addr) (B : Option Addr) : Prop where
  id : l.id.size ≤ maxLen
  ms : Src w A l.ms.length 1 (strs l.ms)
  ps : Src w B l.ps.length 1 (strs l.ps)
  mz : ∀ s ∈ l.ms, s.size ≤ maxLen
  pz : ∀ s ∈ l.ps, s.size ≤ maxLen
  mn : l.ms.length ≤ 1000000
  pn : l.ps.length ≤ 1000000
theorem LicIn.keep {w W : World} {l : LicM} {A B : Option Addr} (h : LicIn w l A B) (hb : Below w.heap.size w W) : LicIn W l A B :=
  ⟨h.id, ((Run.begin w).below emp_ok hb).src0 h.ms, ((Run.begin w).below emp_ok hb).src0 h.ps, h.mz, h.pz, h.mn, h.pn⟩
theorem box_reads {F0 : Nat → Prop} {w0 W : World} {bx t : Nat} {a0 a1 a2 a3 a4 a5 a6 : Value} (h : Run F0 w0 (CellO bx #[a0, a1, a2, a3, a4, a5, a6] t) W) :
    W.cell? ⟨bx, 0, none⟩ = some a0 ∧ W.cell? ⟨bx, 1, none⟩ = some a1 ∧ W.cell? ⟨bx, 2, none⟩ = some a2 ∧ W.cell? ⟨bx, 3, none⟩ = some a3 ∧ W.cell? ⟨bx, 4, none⟩ = some a4 ∧ W.cell? ⟨bx, 5, none⟩ = some a5 ∧ W.cell? ⟨bx, 6, none⟩ = some a6 := by
  obtain ⟨F, hC⟩ := h.get
  exact ⟨cell_at hC rfl, cell_at hC rfl, cell_at hC rfl, cell_at hC rfl, cell_at hC rfl, cell_at hC rfl, cell_at hC rfl⟩
section
variable {w : World} {l : LicM} {A B : Option Addr} {c d : Nat}

set_option maxHeartbeats 1600000 in
theorem valid_0 (h : LicIn w l A B) (t1 : names l.ms = false) (t6 : isName l.id = false) :
    Calls Try.prog 49 #[licV l A c B d] w (BelowRet w (.bool false)) := by
  have KM := hide (fun W (hb : Below w.heap.size w W) => names_any (c := c) (h.keep hb).ms h.mz h.mn)
  have KP := hide (fun W (hb : Below w.heap.size w W) => names_any (c := d) (h.keep hb).ps h.pz h.pn)
  have KI := hide (fun W => isName_any l.id W h.id)
  have KW := hide within_any
  have R1 := hide (((Run.begin w).fresh emp_ok (cell_new w (licC l A c B d) 56)).imp fun _ _ h => star_emp h)
  rw [t1] at KM
  rw [t6] at KI
  clear h t1 t6
  unfold licC at R1
  unfold licV
  generalize l.ms.length = n at *
  generalize l.ps.length = m at *
  generalize l.q = zq at *
  generalize l.u = zu at *
  generalize l.f = zf at *
  generalize l.t = zt at *
  generalize l.id = zi at *
  go_enter Try.func49, Try.ntmps49
  go_wp2_with fail
  refine (KM.out _ R1.out.bel).mono ?_
  rintro e w2 ⟨rfl, hb2⟩
  have R2 := hide (R1.out.below cell_ok hb2)
  obtain ⟨c0, c1, c2, c3, c4, c5, c6⟩ := box_reads R2.out
  clear hb2
  go_wp2_with fail
  refine (KI.out _).mono ?_
  rintro e wq ⟨rfl, rfl⟩
  go_wp2
  go_ret
  exact bel_bool rfl R2.out.bel
set_option maxHeartbeats 1600000 in
theorem valid_1 (h : LicIn w l A B) (t1 : names l.ms = false) (t6 : isName l.id = true) :
    Calls Try.prog 49 #[licV l A c B d] w (BelowRet w (.bool false)) := by
  have KM := hide (fun W (hb : Below w.heap.size w W) => names_any (c := c) (h.keep hb).ms h.mz h.mn)
  have KP := hide (fun W (hb : Below w.heap.size w W) => names_any (c := d) (h.keep hb).ps h.pz h.pn)
  have KI := hide (fun W => isName_any l.id W h.id)
  have KW := hide within_any
  have R1 := hide (((Run.begin w).fresh emp_ok (cell_new w (licC l A c B d) 56)).imp fun _ _ h => star_emp h)
  rw [t1] at KM
  rw [t6] at KI
  clear h t1 t6
  unfold licC at R1
  unfold licV
  generalize l.ms.length = n at *
  generalize l.ps.length = m at *
  generalize l.q = zq at *
  generalize l.u = zu at *
  generalize l.f = zf at *
  generalize l.t = zt at *
  generalize l.id = zi at *
  go_enter Try.func49, Try.ntmps49
  go_wp2_with fail
  refine (KM.out _ R1.out.bel).mono ?_
  rintro e w2 ⟨rfl, hb2⟩
  have R2 := hide (R1.out.below cell_ok hb2)
  obtain ⟨c0, c1, c2, c3, c4, c5, c6⟩ := box_reads R2.out
  clear hb2
  go_wp2_with fail
  refine (KI.out _).mono ?_
  rintro e wq ⟨rfl, rfl⟩
  go_wp2
  go_ret
  exact bel_bool rfl R2.out.bel
set_option maxHeartbeats 1600000 in
theorem valid_2 (h : LicIn w l A B) (t1 : names l.ms = true) (t2 : names l.ps = false) (t6 : isName l.id = false) :
    Calls Try.prog 49 #[licV l A c B d] w (BelowRet w (.bool false)) := by
  have KM := hide (fun W (hb : Below w.heap.size w W) => names_any (c := c) (h.keep hb).ms h.mz h.mn)
  have KP := hide (fun W (hb : Below w.heap.size w W) => names_any (c := d) (h.keep hb).ps h.pz h.pn)
  have KI := hide (fun W => isName_any l.id W h.id)
  have KW := hide within_any
  have R1 := hide (((Run.begin w).fresh emp_ok (cell_new w (licC l A c B d) 56)).imp fun _ _ h => star_emp h)
  rw [t1] at KM
  rw [t2] at KP
  rw [t6] at KI
  clear h t1 t2 t6
  unfold licC at R1
  unfold licV
  generalize l.ms.length = n at *
  generalize l.ps.length = m at *
  generalize l.q = zq at *
  generalize l.u = zu at *
  generalize l.f = zf at *
  generalize l.t = zt at *
  generalize l.id = zi at *
  go_enter Try.func49, Try.ntmps49
  go_wp2_with fail
  refine (KM.out _ R1.out.bel).mono ?_
  rintro e w2 ⟨rfl, hb2⟩
  have R2 := hide (R1.out.below cell_ok hb2)
  obtain ⟨c0, c1, c2, c3, c4, c5, c6⟩ := box_reads R2.out
  clear hb2
  go_wp2_with fail
  refine (KP.out _ R2.out.bel).mono ?_
  rintro e w3 ⟨rfl, hb3⟩
  have R3 := hide (R2.out.below cell_ok hb3)
  clear c0 c1 c2 c3 c4 c5 c6
  obtain ⟨c0, c1, c2, c3, c4, c5, c6⟩ := box_reads R3.out
  clear hb3
  go_wp2_with fail
  refine (KI.out _).mono ?_
  rintro e wq ⟨rfl, rfl⟩
  go_wp2
  go_ret
  exact bel_bool rfl R3.out.bel
set_option maxHeartbeats 1600000 in
theorem valid_3 (h : LicIn w l A B) (t1 : names l.ms = true) (t2 : names l.ps = false) (t6 : isName l.id = true) :
    Calls Try.prog 49 #[licV l A c B d] w (BelowRet w (.bool false)) := by
  have KM := hide (fun W (hb : Below w.heap.size w W) => names_any (c := c) (h.keep hb).ms h.mz h.mn)
  have KP := hide (fun W (hb : Below w.heap.size w W) => names_any (c := d) (h.keep hb).ps h.pz h.pn)
  have KI := hide (fun W => isName_any l.id W h.id)
  have KW := hide within_any
  have R1 := hide (((Run.begin w).fresh emp_ok (cell_new w (licC l A c B d) 56)).imp fun _ _ h => star_emp h)
  rw [t1] at KM
  rw [t2] at KP
  rw [t6] at KI
  clear h t1 t2 t6
  unfold licC at R1
  unfold licV
  generalize l.ms.length = n at *
  generalize l.ps.length = m at *
  generalize l.q = zq at *
  generalize l.u = zu at *
  generalize l.f = zf at *
  generalize l.t = zt at *
  generalize l.id = zi at *
  go_enter Try.func49, Try.ntmps49
  go_wp2_with fail
  refine (KM.out _ R1.out.bel).mono ?_
  rintro e w2 ⟨rfl, hb2⟩
  have R2 := hide (R1.out.below cell_ok hb2)
  obtain ⟨c0, c1, c2, c3, c4, c5, c6⟩ := box_reads R2.out
  clear hb2
  go_wp2_with fail
  refine (KP.out _ R2.out.bel).mono ?_
  rintro e w3 ⟨rfl, hb3⟩
  have R3 := hide (R2.out.below cell_ok hb3)
  clear c0 c1 c2 c3 c4 c5 c6
  obtain ⟨c0, c1, c2, c3, c4, c5, c6⟩ := box_reads R3.out
  clear hb3
  go_wp2_with fail
  refine (KI.out _).mono ?_
  rintro e wq ⟨rfl, rfl⟩
  go_wp2
  go_ret
  exact bel_bool rfl R3.out.bel
set_option maxHeartbeats 1600000 in
theorem valid_4 (h : LicIn w l A B) (t1 : names l.ms = true) (t2 : names l.ps = true) (t3 : ¬ 0 < l.ms.length) (t6 : isName l.id = false) :
    Calls Try.prog 49 #[licV l A c B d] w (BelowRet w (.bool false)) := by
  have KM := hide (fun W (hb : Below w.heap.size w W) => names_any (c := c) (h.keep hb).ms h.mz h.mn)
  have KP := hide (fun W (hb : Below w.heap.size w W) => names_any (c := d) (h.keep hb).ps h.pz h.pn)
  have KI := hide (fun W => isName_any l.id W h.id)
  have KW := hide within_any
  have R1 := hide (((Run.begin w).fresh emp_ok (cell_new w (licC l A c B d) 56)).imp fun _ _ h => star_emp h)
  rw [t1] at KM
  rw [t2] at KP
  rw [t6] at KI
  clear h t1 t2 t6
  unfold licC at R1
  unfold licV
  generalize l.ms.length = n at *
  generalize l.ps.length = m at *
  generalize l.q = zq at *
  generalize l.u = zu at *
  generalize l.f = zf at *
  generalize l.t = zt at *
  generalize l.id = zi at *
  go_enter Try.func49, Try.ntmps49
  go_wp2_with fail
  refine (KM.out _ R1.out.bel).mono ?_
  rintro e w2 ⟨rfl, hb2⟩
  have R2 := hide (R1.out.below cell_ok hb2)
  obtain ⟨c0, c1, c2, c3, c4, c5, c6⟩ := box_reads R2.out
  clear hb2
  go_wp2_with fail
  refine (KP.out _ R2.out.bel).mono ?_
  rintro e w3 ⟨rfl, hb3⟩
  have R3 := hide (R2.out.below cell_ok hb3)
  clear c0 c1 c2 c3 c4 c5 c6
  obtain ⟨c0, c1, c2, c3, c4, c5, c6⟩ := box_reads R3.out
  clear hb3
  go_wp2_with fail
  refine (KI.out _).mono ?_
  rintro e wq ⟨rfl, rfl⟩
  go_wp2
  go_ret
  exact bel_bool rfl R3.out.bel
set_option maxHeartbeats 1600000 in
theorem valid_5 (h : LicIn w l A B) (t1 : names l.ms = true) (t2 : names l.ps = true) (t3 : ¬ 0 < l.ms.length) (t6 : isName l.id = true) :
    Calls Try.prog 49 #[licV l A c B d] w (BelowRet w (.bool false)) := by
  have KM := hide (fun W (hb : Below w.heap.size w W) => names_any (c := c) (h.keep hb).ms h.mz h.mn)
  have KP := hide (fun W (hb : Below w.heap.size w W) => names_any (c := d) (h.keep hb).ps h.pz h.pn)
  have KI := hide (fun W => isName_any l.id W h.id)
  have KW := hide within_any
  have R1 := hide (((Run.begin w).fresh emp_ok (cell_new w (licC l A c B d) 56)).imp fun _ _ h => star_emp h)
  rw [t1] at KM
  rw [t2] at KP
  rw [t6] at KI
  clear h t1 t2 t6
  unfold licC at R1
  unfold licV
  generalize l.ms.length = n at *
  generalize l.ps.length = m at *
  generalize l.q = zq at *
  generalize l.u = zu at *
  generalize l.f = zf at *
  generalize l.t = zt at *
  generalize l.id = zi at *
  go_enter Try.func49, Try.ntmps49
  go_wp2_with fail
  refine (KM.out _ R1.out.bel).mono ?_
  rintro e w2 ⟨rfl, hb2⟩
  have R2 := hide (R1.out.below cell_ok hb2)
  obtain ⟨c0, c1, c2, c3, c4, c5, c6⟩ := box_reads R2.out
  clear hb2
  go_wp2_with fail
  refine (KP.out _ R2.out.bel).mono ?_
  rintro e w3 ⟨rfl, hb3⟩
  have R3 := hide (R2.out.below cell_ok hb3)
  clear c0 c1 c2 c3 c4 c5 c6
  obtain ⟨c0, c1, c2, c3, c4, c5, c6⟩ := box_reads R3.out
  clear hb3
  go_wp2_with fail
  refine (KI.out _).mono ?_
  rintro e wq ⟨rfl, rfl⟩
  go_wp2
  go_ret
  exact bel_bool rfl R3.out.bel
set_option maxHeartbeats 1600000 in
theorem valid_6 (h : LicIn w l A B) (t1 : names l.ms = true) (t2 : names l.ps = true) (t3 : 0 < l.ms.length) (t4 : ¬ l.ms.length ≤ 12) (t6 : isName l.id = false) :
    Calls Try.prog 49 #[licV l A c B d] w (BelowRet w (.bool false)) := by
  have KM := hide (fun W (hb : Below w.heap.size w W) => names_any (c := c) (h.keep hb).ms h.mz h.mn)
  have KP := hide (fun W (hb : Below w.heap.size w W) => names_any (c := d) (h.keep hb).ps h.pz h.pn)
  have KI := hide (fun W => isName_any l.id W h.id)
  have KW := hide within_any
  have R1 := hide (((Run.begin w).fresh emp_ok (cell_new w (licC l A c B d) 56)).imp fun _ _ h => star_emp h)
  rw [t1] at KM
  rw [t2] at KP
  rw [t6] at KI
  clear h t1 t2 t6
  unfold licC at R1
  unfold licV
  generalize l.ms.length = n at *
  generalize l.ps.length = m at *
  generalize l.q = zq at *
  generalize l.u = zu at *
  generalize l.f = zf at *
  generalize l.t = zt at *
  generalize l.id = zi at *
  go_enter Try.func49, Try.ntmps49
  go_wp2_with fail
  refine (KM.out _ R1.out.bel).mono ?_
  rintro e w2 ⟨rfl, hb2⟩
  have R2 := hide (R1.out.below cell_ok hb2)
  obtain ⟨c0, c1, c2, c3, c4, c5, c6⟩ := box_reads R2.out
  clear hb2
  go_wp2_with fail
  refine (KP.out _ R2.out.bel).mono ?_
  rintro e w3 ⟨rfl, hb3⟩
  have R3 := hide (R2.out.below cell_ok hb3)
  clear c0 c1 c2 c3 c4 c5 c6
  obtain ⟨c0, c1, c2, c3, c4, c5, c6⟩ := box_reads R3.out
  clear hb3
  go_wp2_with fail
  refine (KI.out _).mono ?_
  rintro e wq ⟨rfl, rfl⟩
  go_wp2
  go_ret
  exact bel_bool rfl R3.out.bel
set_option maxHeartbeats 1600000 in
theorem valid_7 (h : LicIn w l A B) (t1 : names l.ms = true) (t2 : names l.ps = true) (t3 : 0 < l.ms.length) (t4 : ¬ l.ms.length ≤ 12) (t6 : isName l.id = true) :
    Calls Try.prog 49 #[licV l A c B d] w (BelowRet w (.bool false)) := by
  have KM := hide (fun W (hb : Below w.heap.size w W) => names_any (c := c) (h.keep hb).ms h.mz h.mn)
  have KP := hide (fun W (hb : Below w.heap.size w W) => names_any (c := d) (h.keep hb).ps h.pz h.pn)
  have KI := hide (fun W => isName_any l.id W h.id)
  have KW := hide within_any
  have R1 := hide (((Run.begin w).fresh emp_ok (cell_new w (licC l A c B d) 56)).imp fun _ _ h => star_emp h)
  rw [t1] at KM
  rw [t2] at KP
  rw [t6] at KI
  clear h t1 t2 t6
  unfold licC at R1
  unfold licV
  generalize l.ms.length = n at *
  generalize l.ps.length = m at *
  generalize l.q = zq at *
  generalize l.u = zu at *
  generalize l.f = zf at *
  generalize l.t = zt at *
  generalize l.id = zi at *
  go_enter Try.func49, Try.ntmps49
  go_wp2_with fail
  refine (KM.out _ R1.out.bel).mono ?_
  rintro e w2 ⟨rfl, hb2⟩
  have R2 := hide (R1.out.below cell_ok hb2)
  obtain ⟨c0, c1, c2, c3, c4, c5, c6⟩ := box_reads R2.out
  clear hb2
  go_wp2_with fail
  refine (KP.out _ R2.out.bel).mono ?_
  rintro e w3 ⟨rfl, hb3⟩
  have R3 := hide (R2.out.below cell_ok hb3)
  clear c0 c1 c2 c3 c4 c5 c6
  obtain ⟨c0, c1, c2, c3, c4, c5, c6⟩ := box_reads R3.out
  clear hb3
  go_wp2_with fail
  refine (KI.out _).mono ?_
  rintro e wq ⟨rfl, rfl⟩
  go_wp2
  go_ret
  exact bel_bool rfl R3.out.bel
set_option maxHeartbeats 1600000 in
theorem valid_8 (h : LicIn w l A B) (t1 : names l.ms = true) (t2 : names l.ps = true) (t3 : 0 < l.ms.length) (t4 : l.ms.length ≤ 12) (t5 : ¬ l.ps.length ≤ 60) (t6 : isName l.id = false) :
    Calls Try.prog 49 #[licV l A c B d] w (BelowRet w (.bool false)) := by
  have KM := hide (fun W (hb : Below w.heap.size w W) => names_any (c := c) (h.keep hb).ms h.mz h.mn)
  have KP := hide (fun W (hb : Below w.heap.size w W) => names_any (c := d) (h.keep hb).ps h.pz h.pn)
  have KI := hide (fun W => isName_any l.id W h.id)
  have KW := hide within_any
  have R1 := hide (((Run.begin w).fresh emp_ok (cell_new w (licC l A c B d) 56)).imp fun _ _ h => star_emp h)
  rw [t1] at KM
  rw [t2] at KP
  rw [t6] at KI
  clear h t1 t2 t6
  unfold licC at R1
  unfold licV
  generalize l.ms.length = n at *
  generalize l.ps.length = m at *
  generalize l.q = zq at *
  generalize l.u = zu at *
  generalize l.f = zf at *
  generalize l.t = zt at *
  generalize l.id = zi at *
  go_enter Try.func49, Try.ntmps49
  go_wp2_with fail
  refine (KM.out _ R1.out.bel).mono ?_
  rintro e w2 ⟨rfl, hb2⟩
  have R2 := hide (R1.out.below cell_ok hb2)
  obtain ⟨c0, c1, c2, c3, c4, c5, c6⟩ := box_reads R2.out
  clear hb2
  go_wp2_with fail
  refine (KP.out _ R2.out.bel).mono ?_
  rintro e w3 ⟨rfl, hb3⟩
  have R3 := hide (R2.out.below cell_ok hb3)
  clear c0 c1 c2 c3 c4 c5 c6
  obtain ⟨c0, c1, c2, c3, c4, c5, c6⟩ := box_reads R3.out
  clear hb3
  go_wp2_with fail
  refine (KI.out _).mono ?_
  rintro e wq ⟨rfl, rfl⟩
  go_wp2
  go_ret
  exact bel_bool rfl R3.out.bel
set_option maxHeartbeats 1600000 in
theorem valid_9 (h : LicIn w l A B) (t1 : names l.ms = true) (t2 : names l.ps = true) (t3 : 0 < l.ms.length) (t4 : l.ms.length ≤ 12) (t5 : ¬ l.ps.length ≤ 60) (t6 : isName l.id = true) :
    Calls Try.prog 49 #[licV l A c B d] w (BelowRet w (.bool false)) := by
  have KM := hide (fun W (hb : Below w.heap.size w W) => names_any (c := c) (h.keep hb).ms h.mz h.mn)
  have KP := hide (fun W (hb : Below w.heap.size w W) => names_any (c := d) (h.keep hb).ps h.pz h.pn)
  have KI := hide (fun W => isName_any l.id W h.id)
  have KW := hide within_any
  have R1 := hide (((Run.begin w).fresh emp_ok (cell_new w (licC l A c B d) 56)).imp fun _ _ h => star_emp h)
  rw [t1] at KM
  rw [t2] at KP
  rw [t6] at KI
  clear h t1 t2 t6
  unfold licC at R1
  unfold licV
  generalize l.ms.length = n at *
  generalize l.ps.length = m at *
  generalize l.q = zq at *
  generalize l.u = zu at *
  generalize l.f = zf at *
  generalize l.t = zt at *
  generalize l.id = zi at *
  go_enter Try.func49, Try.ntmps49
  go_wp2_with fail
  refine (KM.out _ R1.out.bel).mono ?_
  rintro e w2 ⟨rfl, hb2⟩
  have R2 := hide (R1.out.below cell_ok hb2)
  obtain ⟨c0, c1, c2, c3, c4, c5, c6⟩ := box_reads R2.out
  clear hb2
  go_wp2_with fail
  refine (KP.out _ R2.out.bel).mono ?_
  rintro e w3 ⟨rfl, hb3⟩
  have R3 := hide (R2.out.below cell_ok hb3)
  clear c0 c1 c2 c3 c4 c5 c6
  obtain ⟨c0, c1, c2, c3, c4, c5, c6⟩ := box_reads R3.out
  clear hb3
  go_wp2_with fail
  refine (KI.out _).mono ?_
  rintro e wq ⟨rfl, rfl⟩
  go_wp2
  go_ret
  exact bel_bool rfl R3.out.bel
set_option maxHeartbeats 1600000 in
theorem valid_10 (h : LicIn w l A B) (t1 : names l.ms = true) (t2 : names l.ps = true) (t3 : 0 < l.ms.length) (t4 : l.ms.length ≤ 12) (t5 : l.ps.length ≤ 60) (t6 : isName l.id = false) :
    Calls Try.prog 49 #[licV l A c B d] w (BelowRet w (.bool false)) := by
  have KM := hide (fun W (hb : Below w.heap.size w W) => names_any (c := c) (h.keep hb).ms h.mz h.mn)
  have KP := hide (fun W (hb : Below w.heap.size w W) => names_any (c := d) (h.keep hb).ps h.pz h.pn)
  have KI := hide (fun W => isName_any l.id W h.id)
  have KW := hide within_any
  have R1 := hide (((Run.begin w).fresh emp_ok (cell_new w (licC l A c B d) 56)).imp fun _ _ h => star_emp h)
  rw [t1] at KM
  rw [t2] at KP
  rw [t6] at KI
  clear h t1 t2 t6
  unfold licC at R1
  unfold licV
  generalize l.ms.length = n at *
  generalize l.ps.length = m at *
  generalize l.q = zq at *
  generalize l.u = zu at *
  generalize l.f = zf at *
  generalize l.t = zt at *
  generalize l.id = zi at *
  go_enter Try.func49, Try.ntmps49
  go_wp2_with fail
  refine (KM.out _ R1.out.bel).mono ?_
  rintro e w2 ⟨rfl, hb2⟩
  have R2 := hide (R1.out.below cell_ok hb2)
  obtain ⟨c0, c1, c2, c3, c4, c5, c6⟩ := box_reads R2.out
  clear hb2
  go_wp2_with fail
  refine (KP.out _ R2.out.bel).mono ?_
  rintro e w3 ⟨rfl, hb3⟩
  have R3 := hide (R2.out.below cell_ok hb3)
  clear c0 c1 c2 c3 c4 c5 c6
  obtain ⟨c0, c1, c2, c3, c4, c5, c6⟩ := box_reads R3.out
  clear hb3
  go_wp2_with fail
  refine (KI.out _).mono ?_
  rintro e wq ⟨rfl, rfl⟩
  go_wp2
  go_ret
  exact bel_bool rfl R3.out.bel
set_option maxHeartbeats 1600000 in
theorem valid_11 (h : LicIn w l A B) (t1 : names l.ms = true) (t2 : names l.ps = true) (t3 : 0 < l.ms.length) (t4 : l.ms.length ≤ 12) (t5 : l.ps.length ≤ 60) (t6 : isName l.id = true) (t7 : within l.q 1000000000 = false) :
    Calls Try.prog 49 #[licV l A c B d] w (BelowRet w (.bool false)) := by
  have KM := hide (fun W (hb : Below w.heap.size w W) => names_any (c := c) (h.keep hb).ms h.mz h.mn)
  have KP := hide (fun W (hb : Below w.heap.size w W) => names_any (c := d) (h.keep hb).ps h.pz h.pn)
  have KI := hide (fun W => isName_any l.id W h.id)
  have KW := hide within_any
  have R1 := hide (((Run.begin w).fresh emp_ok (cell_new w (licC l A c B d) 56)).imp fun _ _ h => star_emp h)
  rw [t1] at KM
  rw [t2] at KP
  rw [t6] at KI
  have KQ := hide (KW.out l.q 1000000000)
  rw [t7] at KQ
  clear h t1 t2 t6 t7
  unfold licC at R1
  unfold licV
  generalize l.ms.length = n at *
  generalize l.ps.length = m at *
  generalize l.q = zq at *
  generalize l.u = zu at *
  generalize l.f = zf at *
  generalize l.t = zt at *
  generalize l.id = zi at *
  go_enter Try.func49, Try.ntmps49
  go_wp2_with fail
  refine (KM.out _ R1.out.bel).mono ?_
  rintro e w2 ⟨rfl, hb2⟩
  have R2 := hide (R1.out.below cell_ok hb2)
  obtain ⟨c0, c1, c2, c3, c4, c5, c6⟩ := box_reads R2.out
  clear hb2
  go_wp2_with fail
  refine (KP.out _ R2.out.bel).mono ?_
  rintro e w3 ⟨rfl, hb3⟩
  have R3 := hide (R2.out.below cell_ok hb3)
  clear c0 c1 c2 c3 c4 c5 c6
  obtain ⟨c0, c1, c2, c3, c4, c5, c6⟩ := box_reads R3.out
  clear hb3
  go_wp2_with fail
  refine (KI.out _).mono ?_
  rintro e wq ⟨rfl, rfl⟩
  go_wp2_with fail
  refine (KQ.out _).mono ?_
  rintro e wq ⟨rfl, rfl⟩
  go_wp2
  go_ret
  exact bel_bool rfl R3.out.bel
set_option maxHeartbeats 1600000 in
theorem valid_12 (h : LicIn w l A B) (t1 : names l.ms = true) (t2 : names l.ps = true) (t3 : 0 < l.ms.length) (t4 : l.ms.length ≤ 12) (t5 : l.ps.length ≤ 60) (t6 : isName l.id = true) (t7 : within l.q 1000000000 = true) (t8 : within l.u 1000 = false) :
    Calls Try.prog 49 #[licV l A c B d] w (BelowRet w (.bool false)) := by
  have KM := hide (fun W (hb : Below w.heap.size w W) => names_any (c := c) (h.keep hb).ms h.mz h.mn)
  have KP := hide (fun W (hb : Below w.heap.size w W) => names_any (c := d) (h.keep hb).ps h.pz h.pn)
  have KI := hide (fun W => isName_any l.id W h.id)
  have KW := hide within_any
  have R1 := hide (((Run.begin w).fresh emp_ok (cell_new w (licC l A c B d) 56)).imp fun _ _ h => star_emp h)
  rw [t1] at KM
  rw [t2] at KP
  rw [t6] at KI
  have KQ := hide (KW.out l.q 1000000000)
  rw [t7] at KQ
  have KU := hide (KW.out l.u 1000)
  rw [t8] at KU
  clear h t1 t2 t6 t7 t8
  unfold licC at R1
  unfold licV
  generalize l.ms.length = n at *
  generalize l.ps.length = m at *
  generalize l.q = zq at *
  generalize l.u = zu at *
  generalize l.f = zf at *
  generalize l.t = zt at *
  generalize l.id = zi at *
  go_enter Try.func49, Try.ntmps49
  go_wp2_with fail
  refine (KM.out _ R1.out.bel).mono ?_
  rintro e w2 ⟨rfl, hb2⟩
  have R2 := hide (R1.out.below cell_ok hb2)
  obtain ⟨c0, c1, c2, c3, c4, c5, c6⟩ := box_reads R2.out
  clear hb2
  go_wp2_with fail
  refine (KP.out _ R2.out.bel).mono ?_
  rintro e w3 ⟨rfl, hb3⟩
  have R3 := hide (R2.out.below cell_ok hb3)
  clear c0 c1 c2 c3 c4 c5 c6
  obtain ⟨c0, c1, c2, c3, c4, c5, c6⟩ := box_reads R3.out
  clear hb3
  go_wp2_with fail
  refine (KI.out _).mono ?_
  rintro e wq ⟨rfl, rfl⟩
  go_wp2_with fail
  refine (KQ.out _).mono ?_
  rintro e wq ⟨rfl, rfl⟩
  go_wp2_with fail
  refine (KU.out _).mono ?_
  rintro e wq ⟨rfl, rfl⟩
  go_wp2
  go_ret
  exact bel_bool rfl R3.out.bel
set_option maxHeartbeats 1600000 in
theorem valid_13 (h : LicIn w l A B) (t1 : names l.ms = true) (t2 : names l.ps = true) (t3 : 0 < l.ms.length) (t4 : l.ms.length ≤ 12) (t5 : l.ps.length ≤ 60) (t6 : isName l.id = true) (t7 : within l.q 1000000000 = true) (t8 : within l.u 1000 = true) (t9 : within l.f 144001439 = false) :
    Calls Try.prog 49 #[licV l A c B d] w (BelowRet w (.bool false)) := by
  have KM := hide (fun W (hb : Below w.heap.size w W) => names_any (c := c) (h.keep hb).ms h.mz h.mn)
  have KP := hide (fun W (hb : Below w.heap.size w W) => names_any (c := d) (h.keep hb).ps h.pz h.pn)
  have KI := hide (fun W => isName_any l.id W h.id)
  have KW := hide within_any
  have R1 := hide (((Run.begin w).fresh emp_ok (cell_new w (licC l A c B d) 56)).imp fun _ _ h => star_emp h)
  rw [t1] at KM
  rw [t2] at KP
  rw [t6] at KI
  have KQ := hide (KW.out l.q 1000000000)
  rw [t7] at KQ
  have KU := hide (KW.out l.u 1000)
  rw [t8] at KU
  have KF := hide (KW.out l.f 144001439)
  rw [t9] at KF
  clear h t1 t2 t6 t7 t8 t9
  unfold licC at R1
  unfold licV
  generalize l.ms.length = n at *
  generalize l.ps.length = m at *
  generalize l.q = zq at *
  generalize l.u = zu at *
  generalize l.f = zf at *
  generalize l.t = zt at *
  generalize l.id = zi at *
  go_enter Try.func49, Try.ntmps49
  go_wp2_with fail
  refine (KM.out _ R1.out.bel).mono ?_
  rintro e w2 ⟨rfl, hb2⟩
  have R2 := hide (R1.out.below cell_ok hb2)
  obtain ⟨c0, c1, c2, c3, c4, c5, c6⟩ := box_reads R2.out
  clear hb2
  go_wp2_with fail
  refine (KP.out _ R2.out.bel).mono ?_
  rintro e w3 ⟨rfl, hb3⟩
  have R3 := hide (R2.out.below cell_ok hb3)
  clear c0 c1 c2 c3 c4 c5 c6
  obtain ⟨c0, c1, c2, c3, c4, c5, c6⟩ := box_reads R3.out
  clear hb3
  go_wp2_with fail
  refine (KI.out _).mono ?_
  rintro e wq ⟨rfl, rfl⟩
  go_wp2_with fail
  refine (KQ.out _).mono ?_
  rintro e wq ⟨rfl, rfl⟩
  go_wp2_with fail
  refine (KU.out _).mono ?_
  rintro e wq ⟨rfl, rfl⟩
  go_wp2_with fail
  refine (KF.out _).mono ?_
  rintro e wq ⟨rfl, rfl⟩
  go_wp2
  go_ret
  exact bel_bool rfl R3.out.bel
set_option maxHeartbeats 1600000 in
theorem valid_14 (h : LicIn w l A B) (t1 : names l.ms = true) (t2 : names l.ps = true) (t3 : 0 < l.ms.length) (t4 : l.ms.length ≤ 12) (t5 : l.ps.length ≤ 60) (t6 : isName l.id = true) (t7 : within l.q 1000000000 = true) (t8 : within l.u 1000 = true) (t9 : within l.f 144001439 = true) (t10 : within l.t 144001439 = false) :
    Calls Try.prog 49 #[licV l A c B d] w (BelowRet w (.bool false)) := by
  have KM := hide (fun W (hb : Below w.heap.size w W) => names_any (c := c) (h.keep hb).ms h.mz h.mn)
  have KP := hide (fun W (hb : Below w.heap.size w W) => names_any (c := d) (h.keep hb).ps h.pz h.pn)
  have KI := hide (fun W => isName_any l.id W h.id)
  have KW := hide within_any
  have R1 := hide (((Run.begin w).fresh emp_ok (cell_new w (licC l A c B d) 56)).imp fun _ _ h => star_emp h)
  rw [t1] at KM
  rw [t2] at KP
  rw [t6] at KI
  have KQ := hide (KW.out l.q 1000000000)
  rw [t7] at KQ
  have KU := hide (KW.out l.u 1000)
  rw [t8] at KU
  have KF := hide (KW.out l.f 144001439)
  rw [t9] at KF
  have KT := hide (KW.out l.t 144001439)
  rw [t10] at KT
  clear h t1 t2 t6 t7 t8 t9 t10
  unfold licC at R1
  unfold licV
  generalize l.ms.length = n at *
  generalize l.ps.length = m at *
  generalize l.q = zq at *
  generalize l.u = zu at *
  generalize l.f = zf at *
  generalize l.t = zt at *
  generalize l.id = zi at *
  go_enter Try.func49, Try.ntmps49
  go_wp2_with fail
  refine (KM.out _ R1.out.bel).mono ?_
  rintro e w2 ⟨rfl, hb2⟩
  have R2 := hide (R1.out.below cell_ok hb2)
  obtain ⟨c0, c1, c2, c3, c4, c5, c6⟩ := box_reads R2.out
  clear hb2
  go_wp2_with fail
  refine (KP.out _ R2.out.bel).mono ?_
  rintro e w3 ⟨rfl, hb3⟩
  have R3 := hide (R2.out.below cell_ok hb3)
  clear c0 c1 c2 c3 c4 c5 c6
  obtain ⟨c0, c1, c2, c3, c4, c5, c6⟩ := box_reads R3.out
  clear hb3
  go_wp2_with fail
  refine (KI.out _).mono ?_
  rintro e wq ⟨rfl, rfl⟩
  go_wp2_with fail
  refine (KQ.out _).mono ?_
  rintro e wq ⟨rfl, rfl⟩
  go_wp2_with fail
  refine (KU.out _).mono ?_
  rintro e wq ⟨rfl, rfl⟩
  go_wp2_with fail
  refine (KF.out _).mono ?_
  rintro e wq ⟨rfl, rfl⟩
  go_wp2_with fail
  refine (KT.out _).mono ?_
  rintro e wq ⟨rfl, rfl⟩
  go_wp2
  go_ret
  exact bel_bool rfl R3.out.bel
set_option maxHeartbeats 1600000 in
theorem valid_15 (h : LicIn w l A B) (t1 : names l.ms = true) (t2 : names l.ps = true) (t3 : 0 < l.ms.length) (t4 : l.ms.length ≤ 12) (t5 : l.ps.length ≤ 60) (t6 : isName l.id = true) (t7 : within l.q 1000000000 = true) (t8 : within l.u 1000 = true) (t9 : within l.f 144001439 = true) (t10 : within l.t 144001439 = true) (t11 : ¬ l.f < l.t) :
    Calls Try.prog 49 #[licV l A c B d] w (BelowRet w (.bool false)) := by
  have KM := hide (fun W (hb : Below w.heap.size w W) => names_any (c := c) (h.keep hb).ms h.mz h.mn)
  have KP := hide (fun W (hb : Below w.heap.size w W) => names_any (c := d) (h.keep hb).ps h.pz h.pn)
  have KI := hide (fun W => isName_any l.id W h.id)
  have KW := hide within_any
  have R1 := hide (((Run.begin w).fresh emp_ok (cell_new w (licC l A c B d) 56)).imp fun _ _ h => star_emp h)
  rw [t1] at KM
  rw [t2] at KP
  rw [t6] at KI
  have KQ := hide (KW.out l.q 1000000000)
  rw [t7] at KQ
  have KU := hide (KW.out l.u 1000)
  rw [t8] at KU
  have KF := hide (KW.out l.f 144001439)
  rw [t9] at KF
  have KT := hide (KW.out l.t 144001439)
  rw [t10] at KT
  clear h t1 t2 t6 t7 t8 t9 t10
  unfold licC at R1
  unfold licV
  generalize l.ms.length = n at *
  generalize l.ps.length = m at *
  generalize l.q = zq at *
  generalize l.u = zu at *
  generalize l.f = zf at *
  generalize l.t = zt at *
  generalize l.id = zi at *
  go_enter Try.func49, Try.ntmps49
  go_wp2_with fail
  refine (KM.out _ R1.out.bel).mono ?_
  rintro e w2 ⟨rfl, hb2⟩
  have R2 := hide (R1.out.below cell_ok hb2)
  obtain ⟨c0, c1, c2, c3, c4, c5, c6⟩ := box_reads R2.out
  clear hb2
  go_wp2_with fail
  refine (KP.out _ R2.out.bel).mono ?_
  rintro e w3 ⟨rfl, hb3⟩
  have R3 := hide (R2.out.below cell_ok hb3)
  clear c0 c1 c2 c3 c4 c5 c6
  obtain ⟨c0, c1, c2, c3, c4, c5, c6⟩ := box_reads R3.out
  clear hb3
  go_wp2_with fail
  refine (KI.out _).mono ?_
  rintro e wq ⟨rfl, rfl⟩
  go_wp2_with fail
  refine (KQ.out _).mono ?_
  rintro e wq ⟨rfl, rfl⟩
  go_wp2_with fail
  refine (KU.out _).mono ?_
  rintro e wq ⟨rfl, rfl⟩
  go_wp2_with fail
  refine (KF.out _).mono ?_
  rintro e wq ⟨rfl, rfl⟩
  go_wp2_with fail
  refine (KT.out _).mono ?_
  rintro e wq ⟨rfl, rfl⟩
  go_wp2
  go_ret
  exact bel_bool (by go_num) R3.out.bel
set_option maxHeartbeats 1600000 in
theorem valid_16 (h : LicIn w l A B) (t1 : names l.ms = true) (t2 : names l.ps = true) (t3 : 0 < l.ms.length) (t4 : l.ms.length ≤ 12) (t5 : l.ps.length ≤ 60) (t6 : isName l.id = true) (t7 : within l.q 1000000000 = true) (t8 : within l.u 1000 = true) (t9 : within l.f 144001439 = true) (t10 : within l.t 144001439 = true) (t11 : l.f < l.t) :
    Calls Try.prog 49 #[licV l A c B d] w (BelowRet w (.bool true)) := by
  have KM := hide (fun W (hb : Below w.heap.size w W) => names_any (c := c) (h.keep hb).ms h.mz h.mn)
  have KP := hide (fun W (hb : Below w.heap.size w W) => names_any (c := d) (h.keep hb).ps h.pz h.pn)
  have KI := hide (fun W => isName_any l.id W h.id)
  have KW := hide within_any
  have R1 := hide (((Run.begin w).fresh emp_ok (cell_new w (licC l A c B d) 56)).imp fun _ _ h => star_emp h)
  rw [t1] at KM
  rw [t2] at KP
  rw [t6] at KI
  have KQ := hide (KW.out l.q 1000000000)
  rw [t7] at KQ
  have KU := hide (KW.out l.u 1000)
  rw [t8] at KU
  have KF := hide (KW.out l.f 144001439)
  rw [t9] at KF
  have KT := hide (KW.out l.t 144001439)
  rw [t10] at KT
  clear h t1 t2 t6 t7 t8 t9 t10
  unfold licC at R1
  unfold licV
  generalize l.ms.length = n at *
  generalize l.ps.length = m at *
  generalize l.q = zq at *
  generalize l.u = zu at *
  generalize l.f = zf at *
  generalize l.t = zt at *
  generalize l.id = zi at *
  go_enter Try.func49, Try.ntmps49
  go_wp2_with fail
  refine (KM.out _ R1.out.bel).mono ?_
  rintro e w2 ⟨rfl, hb2⟩
  have R2 := hide (R1.out.below cell_ok hb2)
  obtain ⟨c0, c1, c2, c3, c4, c5, c6⟩ := box_reads R2.out
  clear hb2
  go_wp2_with fail
  refine (KP.out _ R2.out.bel).mono ?_
  rintro e w3 ⟨rfl, hb3⟩
  have R3 := hide (R2.out.below cell_ok hb3)
  clear c0 c1 c2 c3 c4 c5 c6
  obtain ⟨c0, c1, c2, c3, c4, c5, c6⟩ := box_reads R3.out
  clear hb3
  go_wp2_with fail
  refine (KI.out _).mono ?_
  rintro e wq ⟨rfl, rfl⟩
  go_wp2_with fail
  refine (KQ.out _).mono ?_
  rintro e wq ⟨rfl, rfl⟩
  go_wp2_with fail
  refine (KU.out _).mono ?_
  rintro e wq ⟨rfl, rfl⟩
  go_wp2_with fail
  refine (KF.out _).mono ?_
  rintro e wq ⟨rfl, rfl⟩
  go_wp2_with fail
  refine (KT.out _).mono ?_
  rintro e wq ⟨rfl, rfl⟩
  go_wp2
  go_ret
  exact bel_bool rfl R3.out.bel
end
theorem valid_any {w : World} {l : LicM} {A B : Option Addr} {c d : Nat} (h : LicIn w l A B) : Calls Try.prog 49 #[licV l A c B d] w (BelowRet w (.bool (valid l))) := by
  cases t1 : names l.ms with
  | false =>
    cases t6 : isName l.id with
    | false =>
      rw [show valid l = false by simp [valid, listsOk, t1, t6]]
      exact valid_0 h t1 t6
    | true =>
      rw [show valid l = false by simp [valid, listsOk, t1, t6]]
      exact valid_1 h t1 t6
  | true =>
    cases t2 : names l.ps with
    | false =>
      cases t6 : isName l.id with
      | false =>
        rw [show valid l = false by simp [valid, listsOk, t1, t2, t6]]
        exact valid_2 h t1 t2 t6
      | true =>
        rw [show valid l = false by simp [valid, listsOk, t1, t2, t6]]
        exact valid_3 h t1 t2 t6
    | true =>
      by_cases t3 : 0 < l.ms.length
      case neg =>
        cases t6 : isName l.id with
        | false =>
          rw [show valid l = false by simp [valid, listsOk, t1, t2, t3, t6]]
          exact valid_4 h t1 t2 t3 t6
        | true =>
          rw [show valid l = false by simp [valid, listsOk, t1, t2, t3, t6]]
          exact valid_5 h t1 t2 t3 t6
      case pos =>
        by_cases t4 : l.ms.length ≤ 12
        case neg =>
          cases t6 : isName l.id with
          | false =>
            rw [show valid l = false by simp [valid, listsOk, t1, t2, t3, t4, t6]]
            exact valid_6 h t1 t2 t3 t4 t6
          | true =>
            rw [show valid l = false by simp [valid, listsOk, t1, t2, t3, t4, t6]]
            exact valid_7 h t1 t2 t3 t4 t6
        case pos =>
          by_cases t5 : l.ps.length ≤ 60
          case neg =>
            cases t6 : isName l.id with
            | false =>
              rw [show valid l = false by simp [valid, listsOk, t1, t2, t3, t4, t5, t6]]
              exact valid_8 h t1 t2 t3 t4 t5 t6
            | true =>
              rw [show valid l = false by simp [valid, listsOk, t1, t2, t3, t4, t5, t6]]
              exact valid_9 h t1 t2 t3 t4 t5 t6
          case pos =>
            cases t6 : isName l.id with
            | false =>
              rw [show valid l = false by simp [valid, listsOk, t1, t2, t3, t4, t5, t6]]
              exact valid_10 h t1 t2 t3 t4 t5 t6
            | true =>
              cases t7 : within l.q 1000000000 with
              | false =>
                rw [show valid l = false by simp [valid, listsOk, t1, t2, t3, t4, t5, t6, t7]]
                exact valid_11 h t1 t2 t3 t4 t5 t6 t7
              | true =>
                cases t8 : within l.u 1000 with
                | false =>
                  rw [show valid l = false by simp [valid, listsOk, t1, t2, t3, t4, t5, t6, t7, t8]]
                  exact valid_12 h t1 t2 t3 t4 t5 t6 t7 t8
                | true =>
                  cases t9 : within l.f 144001439 with
                  | false =>
                    rw [show valid l = false by simp [valid, listsOk, t1, t2, t3, t4, t5, t6, t7, t8, t9]]
                    exact valid_13 h t1 t2 t3 t4 t5 t6 t7 t8 t9
                  | true =>
                    cases t10 : within l.t 144001439 with
                    | false =>
                      rw [show valid l = false by simp [valid, listsOk, t1, t2, t3, t4, t5, t6, t7, t8, t9, t10]]
                      exact valid_14 h t1 t2 t3 t4 t5 t6 t7 t8 t9 t10
                    | true =>
                      by_cases t11 : l.f < l.t
                      case neg =>
                        rw [show valid l = false by simp [valid, listsOk, t1, t2, t3, t4, t5, t6, t7, t8, t9, t10, t11]]
                        exact valid_15 h t1 t2 t3 t4 t5 t6 t7 t8 t9 t10 t11
                      case pos =>
                        rw [show valid l = true by simp [valid, listsOk, t1, t2, t3, t4, t5, t6, t7, t8, t9, t10, t11]]
                        exact valid_16 h t1 t2 t3 t4 t5 t6 t7 t8 t9 t10 t11
end Go.Proofs.Ytapabbpdfplpoaa
namespace Go.Proofs.Ytapabbpdfplpoaa
open Go.RowKit Go.CH Go.CH.Lic
open Go.ChangeMaps (setBlock)

/-- A licence as it lies in memory. -/
structure ZG where
  g : GrM
  p : Nat
  A : Option Addr
  c : Nat
  B : Option Addr
  d : Nat
def gptr (p : Nat) : Value := .pointer (some ⟨p, 0, none⟩)
def gcell (z : ZG) : Array Value := #[.string z.g.l.id, .slice z.A z.g.l.ms.length z.c, .slice z.B z.g.l.ps.length z.d, .int .i64 z.g.l.q, .int .i64 z.g.l.u, .int .i64 z.g.l.f, .int .i64 z.g.l.t, .int .i64 z.g.su, .int .i64 z.g.sn, .int .i64 z.g.e]
def gcl (z : ZG) : List Value := [gptr z.p]
def gow (z : ZG) : Own := star (CellO z.p (gcell z) 147) (star (RowO 9 1 (.slice z.A z.g.l.ms.length z.c) z.g.l.ms.length (strs z.g.l.ms)) (RowO 9 1 (.slice z.B z.g.l.ps.length z.d) z.g.l.ps.length (strs z.g.l.ps)))
theorem gow_ok (z : ZG) : (gow z).Ok := star_ok cell_ok (star_ok row_ok row_ok)
/-- A key as it lies in memory. -/
structure ZT where
  k : KeyM
  p : Nat
  g : Nat
def tcell (z : ZT) : Array Value := #[gptr z.g, .int .i64 z.k.st, .int .i64 (unC z.k)]
def tow (z : ZT) : Own := CellO z.p (tcell z) 145
theorem tow_ok (z : ZT) : (tow z).Ok := cell_ok
structure BkP where
  A : Option Addr
  c : Nat
  bI : Nat
  bK : Nat
  zs : List ZG
  ts : List ZT
def entI (zs : List ZG) : List (ByteArray × Value) := zs.map fun z => (z.g.l.id, gptr z.p)
def entK (ts : List ZT) : List (ByteArray × Value) := ts.map fun z => (z.k.nm, gptr z.p)
def bcell (s : BkP) : Array Value := #[.slice s.A s.zs.length s.c, .map (some s.bI), .map (some s.bK)]
def BkS (p : Nat) (s : BkP) : Own :=
  star (CellO p (bcell s) 135) (star (ARow gcl gow 136 1 (.slice s.A s.zs.length s.c) s.zs) (star (MapO Value.string s.bI (entI s.zs)) (star (MapO Value.string s.bK (entK s.ts)) (bigStar (s.ts.map tow)))))
def BkZ (b : BkM) (s : BkP) : Prop := s.zs.map ZG.g = b.gs ∧ s.ts.map ZT.k = b.ks ∧ ∀ z ∈ s.ts, ∃ y, s.zs[z.k.gi]? = some y ∧ y.p = z.g
def BkO (b : BkM) (p : Nat) : Own := fun w F => ∃ s, BkZ b s ∧ BkS p s w F
theorem tows_ok {ts : List ZT} : (bigStar (ts.map tow)).Ok := big_ok (fun A hA => by obtain ⟨z, _, rfl⟩ := List.mem_map.1 hA; exact tow_ok z)
theorem bkS_ok {p : Nat} {s : BkP} : (BkS p s).Ok := star_ok cell_ok (star_ok (arow_ok gow_ok) (star_ok map_ok (star_ok map_ok tows_ok)))
theorem bkO_ok {b : BkM} {p : Nat} : (BkO b p).Ok := ⟨fun ⟨s, _, h⟩ => bkS_ok.lt h, fun ⟨s, hz, h⟩ hk => ⟨s, hz, bkS_ok.keep h hk⟩⟩

theorem zeroG : ∀ w, (zeroValue 136).run Try.prog w = .ok (.pointer none) w := fun w => by kernel_rfl
theorem zeroT : ∀ w, (zeroValue 141).run Try.prog w = .ok (.pointer none) w := fun w => by kernel_rfl
def findZ (zs : List ZG) (id : ByteArray) : Value := (zs.find? (fun z => z.g.l.id = id)).elim (.pointer none) (fun z => gptr z.p)
def findT (ts : List ZT) (nm : ByteArray) : Value := (ts.find? (fun z => z.k.nm = nm)).elim (.pointer none) (fun z => gptr z.p)
theorem mget_ents {ζ : Type} (kf : ζ → ByteArray) (vf : ζ → Value) (id : ByteArray) (d : Value) : ∀ l : List ζ, (mget (l.map fun z => (kf z, vf z)) id).getD d = (l.find? (fun z => kf z = id)).elim d vf
  | [] => rfl
  | z :: l => by
    rw [List.map_cons, mget_cons, List.find?_cons]
    by_cases h : id = kf z
    · subst h; simp
    · have h' : ¬ kf z = id := fun e => h e.symm
      rw [if_neg h, mget_ents kf vf id d l]
      simp [h']
/-- What is read of a book. -/
structure BkR (w : World) (p : Nat) (s : BkP) : Prop where
  c0 : w.cell? ⟨p, 0, none⟩ = some (.slice s.A s.zs.length s.c)
  c1 : w.cell? ⟨p, 1, none⟩ = some (.map (some s.bI))
  c2 : w.cell? ⟨p, 2, none⟩ = some (.map (some s.bK))
  lookI : ∀ id, (Instr.lookup 131 (.map (some s.bI)) (.string id) false).run Try.prog w = .ok (findZ s.zs id) w
  lookK : ∀ nm, (Instr.lookup 132 (.map (some s.bK)) (.string nm) false).run Try.prog w = .ok (findT s.ts nm) w
  lenK : (Builtin.len_ #[132] 3 #[.map (some s.bK)]).run Try.prog w = .ok (.int .i64 s.ts.length) w
  nodI : (s.zs.map fun z => z.g.l.id).Nodup
  nodK : (s.ts.map fun z => z.k.nm).Nodup
  gr : ∀ z ∈ s.zs, ∀ i v, (gcell z)[i]? = some v → w.cell? ⟨z.p, i, none⟩ = some v
  gf : ∀ z ∈ s.zs, ∀ i, w.frozen? ⟨z.p, i, none⟩ = false
  gs : ∀ z ∈ s.zs, Src w z.A z.g.l.ms.length 1 (strs z.g.l.ms) ∧ Src w z.B z.g.l.ps.length 1 (strs z.g.l.ps)
  tr : ∀ z ∈ s.ts, ∀ i v, (tcell z)[i]? = some v → w.cell? ⟨z.p, i, none⟩ = some v
  tf : ∀ z ∈ s.ts, ∀ i, w.frozen? ⟨z.p, i, none⟩ = false
  row : w.ownsRow 0 136 1 (.slice s.A s.zs.length s.c) s.zs.length (s.zs.flatMap gcl)
theorem big_mem {ζ : Type} (ow : ζ → Own) : ∀ {l : List ζ} {w : World} {F : Nat → Prop}, bigStar (l.map ow) w F → ∀ z ∈ l, ∃ F', ow z w F'
  | [], _, _, _, z, hz => by cases hz
  | a :: l, w, F, h, z, hz => by
    obtain ⟨F1, F2, h1, h2, _⟩ := (h : star (ow a) (bigStar (l.map ow)) w F)
    rcases List.mem_cons.1 hz with rfl | hz
    · exact ⟨F1, h1⟩
    · exact big_mem ow h2 z hz
theorem BkS.read {p : Nat} {s : BkP} {w : World} {F : Nat → Prop} (h : BkS p s w F) : BkR w p s := by
  obtain ⟨F1, F2, h1, ⟨F3, F4, h2, ⟨F5, F6, h3, ⟨F7, F8, h4, h5, _, _⟩, _, _⟩, _, _⟩, _, _⟩ := h
  obtain ⟨F9, F10, h6, h7, _, _⟩ := h2
  refine ⟨cell_at h1 rfl, cell_at h1 rfl, cell_at h1 rfl, fun id => ?_, fun nm => ?_, ?_, ?_, ?_, fun z hz i v hv => ?_, fun z hz i => ?_, fun z hz => ?_, fun z hz i v hv => ?_, fun z hz i => ?_, h6.1⟩
  · rw [mapO_get keyStr Try.underlying131 zeroG h3 id, entI, mget_ents (fun z : ZG => z.g.l.id) (fun z => gptr z.p)]; rfl
  · rw [mapO_get keyStr Try.underlying132 zeroT h4 nm, entK, mget_ents (fun z : ZT => z.k.nm) (fun z => gptr z.p)]; rfl
  · rw [mapO_len Try.underlying132 h4]; simp [entK]
  · obtain ⟨⟨es, clock, _, he⟩, _⟩ := h3
    have := he.2.1
    unfold entI at this; simpa [Function.comp_def] using this
  · obtain ⟨⟨es, clock, _, he⟩, _⟩ := h4
    have := he.2.1
    unfold entK at this; simpa [Function.comp_def] using this
  · obtain ⟨F', g1, g2, hg, _⟩ := big_mem gow h7 z hz
    exact cell_at hg hv
  · obtain ⟨F', g1, g2, hg, _⟩ := big_mem gow h7 z hz
    exact cell_free hg i
  · obtain ⟨F', g1, g2, hg, ⟨g3, g4, ha, hb, _⟩, _⟩ := big_mem gow h7 z hz
    exact ⟨row_src ha (strs_one _), row_src hb (strs_one _)⟩
  · obtain ⟨F', hg⟩ := big_mem tow h5 z hz
    exact cell_at hg hv
  · obtain ⟨F', hg⟩ := big_mem tow h5 z hz
    exact cell_free hg i
theorem bk_read {F0 : Nat → Prop} {w0 W : World} {p : Nat} {s : BkP} (h : Run F0 w0 (BkS p s) W) : BkR W p s := by
  obtain ⟨F, hS⟩ := h.get; exact hS.read
/-- The cells of a licence, taken out: another licence of the same lists, name and place may come back. -/
theorem bk_updG {F0 : Nat → Prop} {w0 W : World} {p : Nat} {s : BkP} (h : Run F0 w0 (BkS p s) W) {i : Nat} (hi : i < s.zs.length) (g' : GrM) (h1 : g'.l.id = s.zs[i].g.l.id) (h2 : g'.l.ms = s.zs[i].g.l.ms) (h3 : g'.l.ps = s.zs[i].g.l.ps) :
    ∃ F, CellO s.zs[i].p (gcell s.zs[i]) 147 W F ∧ ∀ W', Post W F (CellO s.zs[i].p (gcell { s.zs[i] with g := g' }) 147) W' → Run F0 w0 (BkS p { s with zs := s.zs.set i { s.zs[i] with g := g' } }) W' := by
  have hlen : (s.zs.set i { s.zs[i] with g := g' }).length = s.zs.length := by simp
  have hent : entI (s.zs.set i { s.zs[i] with g := g' }) = entI s.zs := by
    unfold entI; rw [List.map_set, h1]
    refine List.ext_getElem (by simp) fun j a b => ?_
    rw [List.getElem_set]; split <;> simp_all
  unfold BkS bcell
  simp only [hlen, hent]
  have e1 : BkS p s = star (ARow gcl gow 136 1 (.slice s.A s.zs.length s.c) s.zs) (star (CellO p (bcell s) 135) (star (MapO Value.string s.bI (entI s.zs)) (star (MapO Value.string s.bK (entK s.ts)) (bigStar (s.ts.map tow))))) := by unfold BkS; ac_rfl
  have okR : (star (CellO p (bcell s) 135) (star (MapO Value.string s.bI (entI s.zs)) (star (MapO Value.string s.bK (entK s.ts)) (bigStar (s.ts.map tow))))).Ok := star_ok cell_ok (star_ok map_ok (star_ok map_ok tows_ok))
  have h' := h.perm e1
  have h'' := h'.imp fun w F hh => star_mono hh (fun F h => arow_out hi h) (fun _ h => h)
  have h3' := h''.imp fun w F hh => star_assoc hh
  unfold gow at h3'
  have h4 := h3'.imp fun w F hh => star_assoc hh
  have okX : (star (star (RowO 9 1 (.slice s.zs[i].A s.zs[i].g.l.ms.length s.zs[i].c) s.zs[i].g.l.ms.length (strs s.zs[i].g.l.ms)) (RowO 9 1 (.slice s.zs[i].B s.zs[i].g.l.ps.length s.zs[i].d) s.zs[i].g.l.ps.length (strs s.zs[i].g.l.ps)))
      (star (star (RowO 136 1 (.slice s.A s.zs.length s.c) s.zs.length (s.zs.flatMap gcl)) (bigStar ((s.zs.eraseIdx i).map gow))) (star (CellO p (bcell s) 135) (star (MapO Value.string s.bI (entI s.zs)) (star (MapO Value.string s.bK (entK s.ts)) (bigStar (s.ts.map tow))))))).Ok :=
    star_ok (star_ok row_ok row_ok) (star_ok (star_ok row_ok (big_ok (fun A hA => by obtain ⟨z, _, rfl⟩ := List.mem_map.1 hA; exact gow_ok z))) okR)
  obtain ⟨F, hC, -, bk⟩ := h4.take cell_ok okX
  refine ⟨F, hC, fun W' hp => ?_⟩
  have h5 := bk _ _ hp
  have hflat : (s.zs.set i { s.zs[i] with g := g' }).flatMap gcl = s.zs.flatMap gcl := by
    have : ∀ l : List ZG, l.flatMap gcl = l.map fun z => gptr z.p := fun l => by induction l with
      | nil => rfl
      | cons a l ih => simp [gcl, ih]
    rw [this, this, List.map_set]
    refine List.ext_getElem (by simp) fun j a b => ?_
    rw [List.getElem_set]; split <;> simp_all
  have h6 : Run F0 w0 (star (star (gow { s.zs[i] with g := g' }) (star (RowO 136 1 (.slice s.A s.zs.length s.c) s.zs.length ((s.zs.set i { s.zs[i] with g := g' }).flatMap gcl)) (bigStar ((s.zs.eraseIdx i).map gow))))
      (star (CellO p (bcell s) 135) (star (MapO Value.string s.bI (entI s.zs)) (star (MapO Value.string s.bK (entK s.ts)) (bigStar (s.ts.map tow)))))) W' := by
    rw [hflat]
    refine h5.perm ?_
    unfold gow
    simp only [h2, h3]
    ac_rfl
  have h7 : Run F0 w0 (star (ARow gcl gow 136 1 (.slice s.A s.zs.length s.c) (s.zs.set i { s.zs[i] with g := g' })) (star (CellO p (bcell s) 135) (star (MapO Value.string s.bI (entI s.zs)) (star (MapO Value.string s.bK (entK s.ts)) (bigStar (s.ts.map tow)))))) W' := h6.imp fun w F hh => star_mono hh (fun F h => arow_in hi h) (fun _ h => h)
  exact h7.perm (by unfold bcell; ac_rfl)
theorem bk_setG {F0 : Nat → Prop} {w0 W : World} {p : Nat} {s : BkP} (h : Run F0 w0 (BkS p s) W) {i : Nat} (hi : i < s.zs.length) (k : Nat) (v : Value) (g' : GrM) (h1 : g'.l.id = s.zs[i].g.l.id) (h2 : g'.l.ms = s.zs[i].g.l.ms) (h3 : g'.l.ps = s.zs[i].g.l.ps)
    (hc : (gcell s.zs[i]).setIfInBounds k v = gcell { s.zs[i] with g := g' }) : Run F0 w0 (BkS p { s with zs := s.zs.set i { s.zs[i] with g := g' } }) (W.setCell ⟨s.zs[i].p, k, none⟩ v) := by
  obtain ⟨F, hC, bk⟩ := bk_updG h hi g' h1 h2 h3
  refine bk _ ?_
  rw [← hc]
  exact cell_set hC k v
theorem bk_updT {F0 : Nat → Prop} {w0 W : World} {p : Nat} {s : BkP} (h : Run F0 w0 (BkS p s) W) {i : Nat} (hi : i < s.ts.length) (k' : KeyM) (h1 : k'.nm = s.ts[i].k.nm) :
    ∃ F, CellO s.ts[i].p (tcell s.ts[i]) 145 W F ∧ ∀ W', Post W F (CellO s.ts[i].p (tcell { s.ts[i] with k := k' }) 145) W' → Run F0 w0 (BkS p { s with ts := s.ts.set i { s.ts[i] with k := k' } }) W' := by
  have hent : entK (s.ts.set i { s.ts[i] with k := k' }) = entK s.ts := by
    unfold entK; rw [List.map_set, h1]
    refine List.ext_getElem (by simp) fun j a b => ?_
    rw [List.getElem_set]; split <;> simp_all
  unfold BkS bcell
  simp only [hent]
  have e1 : BkS p s = star (bigStar (s.ts.map tow)) (star (CellO p (bcell s) 135) (star (ARow gcl gow 136 1 (.slice s.A s.zs.length s.c) s.zs) (star (MapO Value.string s.bI (entI s.zs)) (MapO Value.string s.bK (entK s.ts))))) := by unfold BkS; ac_rfl
  have okR : (star (CellO p (bcell s) 135) (star (ARow gcl gow 136 1 (.slice s.A s.zs.length s.c) s.zs) (star (MapO Value.string s.bI (entI s.zs)) (MapO Value.string s.bK (entK s.ts))))).Ok := star_ok cell_ok (star_ok (arow_ok gow_ok) (star_ok map_ok map_ok))
  have hi' : i < (s.ts.map tow).length := by simpa using hi
  have h2 := (h.perm e1).imp fun w F hh => star_mono hh (fun F h => big_out hi' h) (fun _ h => h)
  have h3 := h2.imp fun w F hh => star_assoc hh
  rw [List.getElem_map] at h3
  unfold tow at h3
  obtain ⟨F, hC, -, bk⟩ := h3.take cell_ok (star_ok (big_ok (fun A hA => by rw [map_erase] at hA; obtain ⟨z, _, rfl⟩ := List.mem_map.1 hA; exact cell_ok)) okR)
  refine ⟨F, hC, fun W' hp => ?_⟩
  have h5 := bk _ _ hp
  have h6 := (h5.imp fun w F hh => star_assoc' hh).imp fun w F hh => star_mono hh (fun F h => big_in hi' h) (fun _ h => h)
  refine h6.perm ?_
  rw [List.map_set]
  unfold bcell tow
  ac_rfl
end Go.Proofs.Ytapabbpdfplpoaa
namespace Go.Proofs.Ytapabbpdfplpoaa
open Go.RowKit Go.CH Go.CH.Lic
open Go.ChangeMaps (setBlock)

theorem strsOk : SliceOk Try.prog 54 9 (.string ByteArray.empty) 1 16 := ⟨Try.underlying54, by kernel_rfl, by decide, by decide⟩
def CloneS (w : World) (n : Nat) (l : List ByteArray) (e : Ending) (w' : World) : Prop := ∃ A' c', e = .returned (.slice A' n c') ∧ Post w (fun _ => False) (RowO 9 1 (.slice A' n c') n (strs l)) w'
set_option maxHeartbeats 1600000 in
set_option maxRecDepth 100000 in
theorem cloneS_any {w : World} {A : Option Addr} {n c : Nat} {l : List ByteArray} (h : Src w A n 1 (strs l)) (hn : n ≤ 1000000) (h0 : A = none → c = 0 ∧ n = 0) :
    Calls Try.prog 92 #[.slice A n c] w (CloneS w n l) := by
  have hl : (strs l).length = n := by have := h.1; simpa using this
  cases A with
  | none =>
    obtain ⟨rfl, rfl⟩ := h0 rfl
    have H0 := hide (List.eq_nil_of_length_eq_zero hl)
    have he := fun w => Go.Lib.run_eql_slice_nil (P := Try.prog) w 54 9 none 0 0 0 0 Try.underlying54
    clear h hl h0
    go_enter Try.func92, Try.ntmps92
    go_wp2_with fail
    go_ret
    refine ⟨none, 0, rfl, fun _ => False, ?_, Mod.refl _ _, fun i hi => hi.elim⟩
    rw [H0.out]
    exact row_nil _ _ _
  | some a =>
    have he := fun w => Go.Lib.run_eql_slice_nil (P := Try.prog) w 54 9 (some a) n c 0 0 Try.underlying54
    have R0 := hide ((Run.begin w).fresh emp_ok (row_made w 9 1))
    have hs' := hide (R0.out.src0 h)
    clear h hl h0
    go_enter Try.func92, Try.ntmps92
    go_wp2_with (at_builtin; refine held ?_)
    obtain ⟨F1, hR1, -, bk1⟩ := R0.out.take row_ok emp_ok
    refine Held.mk (wpList_app rfl (.tmp 5) (.tmp 6) rfl strsOk _ 0 (v := .slice (some ⟨w.heap.size, 0, none⟩) 0 0) (n := 0) (xs := []) rfl hR1.1 (A := some a) (m := n) (c := c) (news := strs l) rfl hs'.out (by omega) (by omega) (Nat.zero_le _) ?_)
    intro v4 w4 ho4 hg4 hv4
    have S4 := bk1 _ _ (row_app hR1 ho4 hg4 hv4)
    rw [Nat.zero_add, List.nil_append] at S4
    obtain ⟨A', c', rfl⟩ := own_form ho4
    rw [Nat.zero_add] at *
    have HFIN := hide (S4.swap.drop.post row_ok)
    clear hR1 bk1 ho4 hg4 hv4 S4
    go_wp2
    go_ret
    exact ⟨A', c', rfl, HFIN.out⟩
theorem find_any {w : World} {p : Nat} {s : BkP} (h : BkR w p s) (id : ByteArray) : Calls Try.prog 78 #[gptr p, .string id] w (Quiet w (findZ s.zs id)) := by
  have c1 := h.c1
  have hl := h.lookI id
  clear h
  unfold gptr
  go_enter Try.func78, Try.ntmps78
  go_wp2
  go_ret
  exact ⟨rfl, rfl⟩
theorem find_nil {w : World} (id : ByteArray) : Calls Try.prog 78 #[.pointer none, .string id] w (Quiet w (.pointer none)) := by
  go_enter Try.func78, Try.ntmps78
  go_wp2
  go_ret
  exact ⟨rfl, rfl⟩
theorem key_any {w : World} {p : Nat} {s : BkP} (h : BkR w p s) (nm : ByteArray) : Calls Try.prog 82 #[gptr p, .string nm] w (Quiet w (findT s.ts nm)) := by
  have c2 := h.c2
  have hl := h.lookK nm
  clear h
  unfold gptr
  go_enter Try.func82, Try.ntmps82
  go_wp2
  go_ret
  exact ⟨rfl, rfl⟩
theorem key_nil {w : World} (nm : ByteArray) : Calls Try.prog 82 #[.pointer none, .string nm] w (Quiet w (.pointer none)) := by
  go_enter Try.func82, Try.ntmps82
  go_wp2
  go_ret
  exact ⟨rfl, rfl⟩
set_option maxHeartbeats 1600000 in
theorem runs_any {w : World} {g : Nat} {f t e : Int} (a : Int) (c5 : w.cell? ⟨g, 5, none⟩ = some (.int .i64 f)) (c6 : w.cell? ⟨g, 6, none⟩ = some (.int .i64 t)) (c9 : w.cell? ⟨g, 9, none⟩ = some (.int .i64 e)) :
    Calls Try.prog 79 #[gptr g, .int .i64 a] w (Quiet w (.bool (runsB f t e a))) := by
  unfold gptr
  by_cases h1 : f ≤ a
  · by_cases h2 : a < t
    · by_cases h3 : e < 0
      · have hv := hide (show runsB f t e a = true by simp [runsB, h1, h2, h3])
        go_enter Try.func79, Try.ntmps79
        go_wp2
        go_ret
        exact ⟨by rw [hv.out]; rfl, rfl⟩
      · have hv := hide (show runsB f t e a = decide (a < e) by simp [runsB, h1, h2, h3])
        go_enter Try.func79, Try.ntmps79
        go_wp2
        go_ret
        exact ⟨by rw [hv.out]; rfl, rfl⟩
    · have hv := hide (show runsB f t e a = false by simp [runsB, h1, h2])
      go_enter Try.func79, Try.ntmps79
      go_wp2
      go_ret
      exact ⟨by rw [hv.out]; rfl, rfl⟩
  · have hv := hide (show runsB f t e a = false by simp [runsB, h1])
    go_enter Try.func79, Try.ntmps79
    go_wp2
    go_ret
    exact ⟨by rw [hv.out]; rfl, rfl⟩
theorem cell_ad {w : World} {p : Addr} {v : Value} (h : w.cell? p = some v) (o : Obj) : (w.alloc o).drew.cell? p = some v :=
  ((Run.begin w).below emp_ok (below_drew ((Below.refl w.heap.size w).alloc (Nat.le_refl _) o))).cell h (fun h => h)
set_option maxRecDepth 100000 in
set_option maxHeartbeats 1600000 in
theorem left_any {w : World} {g : Nat} {q u su sn : Int} (c3 : w.cell? ⟨g, 3, none⟩ = some (.int .i64 q)) (c4 : w.cell? ⟨g, 4, none⟩ = some (.int .i64 u)) (c7 : w.cell? ⟨g, 7, none⟩ = some (.int .i64 su)) (c8 : w.cell? ⟨g, 8, none⟩ = some (.int .i64 sn))
    (h1 : -9223372036854775808 ≤ q - su ∧ q - su ≤ 9223372036854775807) (h2 : -9223372036854775808 ≤ u - sn ∧ u - sn ≤ 9223372036854775807) :
    Calls Try.prog 80 #[gptr g] w (BelowRet w (.agg #[.int .i64 (q - su), .int .i64 (u - sn)])) := by
  have hlt : g < w.heap.size := World.block_lt_of_cell? _ _ c3
  have e1 : IntKind.i64.wrap (q - su) = q - su := IntWalk.i64_in _ (by omega)
  have e2 : IntKind.i64.wrap (u - sn) = u - sn := IntWalk.i64_in _ (by omega)
  have E1 := hide e1
  have E2 := hide e2
  clear h1 h2 e1 e2
  unfold gptr
  go_enter Try.func80, Try.ntmps80
  go_wp2
  refine wp_region_lex (fun w' => w'.cell? ⟨g, 3, none⟩ = some (.int .i64 q) ∧ w'.cell? ⟨g, 4, none⟩ = some (.int .i64 u) ∧ w'.cell? ⟨g, 7, none⟩ = some (.int .i64 su) ∧ w'.cell? ⟨g, 8, none⟩ = some (.int .i64 sn)) (by kernel_rfl) (by kernel_rfl) ?_ ?_
  · exact ⟨cell_ad c3 _, cell_ad c4 _, cell_ad c7 _, cell_ad c8 _⟩
  (repeat (first | (refine lex_skip (by rfl) ?_; try simp only [Act.put, List.setIfInBounds_toArray, List.set_cons_zero, List.set_cons_succ]) | (refine lex_read (v := ?_) (by rfl) ?_ ?_; rotate_left; (focus (intro w' hS'; go_simp; (try with_reducible rfl); done)); try simp only [Act.put, List.setIfInBounds_toArray, List.set_cons_zero, List.set_cons_succ])))
  refine lex_chain rfl (by rfl) (fun K hK => ?_)
  rw [E1.out, E2.out]
  go_wp2_with fail
  refine hK.out _ _ ⟨cell_ad c3 _, cell_ad c4 _, cell_ad c7 _, cell_ad c8 _⟩ ?_
  clear hK
  refine lex_nil ?_
  go_wp2_with fail
  refine bodyPost_ret_by (results_cell_row rfl _ _ w.heap.size 66 #[.int .i64 (q - su), .int .i64 (u - sn)] (0, 0) _ rfl ?_ Try.underlying66 rfl (by kernel_rfl)) rfl ?_
  · exact heap_alloc_new w _
  · exact ⟨rfl, below_drew ((Below.refl _ _).alloc (Nat.le_refl _) _)⟩
end Go.Proofs.Ytapabbpdfplpoaa
