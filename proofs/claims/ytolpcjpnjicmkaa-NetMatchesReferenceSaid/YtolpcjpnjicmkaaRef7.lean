/-
  Net: the reference: a step.
-/
import Derived.Test.YtolpcjpnjicmkaaRef6
import Derived.Test.YtolpcjpnjicmkaaNet8
set_option linter.unusedSimpArgs false
set_option linter.unusedVariables false
namespace Go.Proofs.Ytolpcjpnjicmkaa
open Go.RowKit Go.CH
open Go.ChangeMaps (setBlock)

theorem set3 {F0 : Nat → Prop} {w0 W : World} {g : Nat} {x y z : Value} {t : TypeId} {B : Own} (h : Run F0 w0 (star (CellO g #[x, y, z] t) B) W) (hB : B.Ok) (x' y' z' : Value) :
    Run F0 w0 (star (CellO g #[x', y', z'] t) B) (((W.setCell ⟨g, 0, none⟩ x').setCell ⟨g, 1, none⟩ y').setCell ⟨g, 2, none⟩ z') := by
  obtain ⟨F1, h1, -, k1⟩ := h.take cell_ok hB
  have r1 := k1 _ _ (cell_set h1 0 x')
  obtain ⟨F2, h2, -, k2⟩ := r1.take cell_ok hB
  have r2 := k2 _ _ (cell_set h2 1 y')
  obtain ⟨F3, h3, -, k3⟩ := r2.take cell_ok hB
  exact k3 _ _ (cell_set h3 2 z')
theorem res18 (tmps : Array Value) (w : World) (g : Nat) (x y z : Value) (hp : tmps.getD 4 undef = .pointer (some ⟨g, 0, none⟩)) (hg : w.heap[g]? = some (.cells #[x, y, z] 42)) :
    (results Try.f18 tmps).run Try.prog w = .ok (.agg #[x, y, z]) w :=
  results_cell_row rfl tmps w g 42 #[x, y, z] (0, 0) _ hp hg Try.underlying42 rfl (by kernel_rfl)
def rdoR (m : RefM) (x : Step) : Res :=
  if x.kind = 0 then ⟨rsendE m x.a x.b x.text, tE, false⟩
  else if x.kind = 1 then ⟨0, (rdelE m x.a x.b x.lost).1, (rdelE m x.a x.b x.lost).2⟩
  else if x.kind = 2 then ⟨rcutE m x.a x.b, tE, false⟩
  else ⟨rhealE m x.a x.b, tE, false⟩
def rdoM (m : RefM) (x : Step) : RefM :=
  if x.kind = 0 then rsendR m x.a x.b x.text
  else if x.kind = 1 then rdelR m x.a x.b x.lost x.again
  else if x.kind = 2 then rcutR m x.a x.b
  else rhealR m x.a x.b
/-- The state behind the two blocks that a step makes first. -/
theorem rdo_start {W : World} {F : Nat → Prop} {m : RefM} {p : Nat} (h : RefO m p W F) (k a b : Int) (t : ByteArray) (lost again : Bool) :
    Run F W (star (CellO (W.heap.size + 1) #[.int .i64 0, .string ⟨#[]⟩, .bool false] 42) (RefO m p)) (oW W k a b t lost again) := by
  have r1 := (Run.start h).below refO_ok ((Below.refl _ _).alloc (Nat.le_refl _) (.cells #[.int .i64 k, .int .i64 a, .int .i64 b, .string t, .bool lost, .bool again] 45))
  have := r1.fresh refO_ok (cell_new _ #[.int .i64 0, .string ⟨#[]⟩, .bool false] 42)
  simpa [oW] using this
/-- The post of a step. -/
theorem rdo_fin {W w2 : World} {F : Nat → Prop} {m : RefM} {p g : Nat} (h : Run F W (star (CellO g #[.int .i64 0, .string ⟨#[]⟩, .bool false] 42) (RefO m p)) w2) (x y z : Value) :
    Post W F (RefO m p) (((w2.setCell ⟨g, 0, none⟩ x).setCell ⟨g, 1, none⟩ y).setCell ⟨g, 2, none⟩ z) := (set3 h refO_ok x y z).drop.post refO_ok

set_option maxRecDepth 100000 in
set_option maxHeartbeats 1000000 in
theorem rdo_send {W : World} {F : Nat → Prop} {m : RefM} {p : Nat} (h : RefO m p W F) (hL : m.L.length ≤ 500) (hG : m.G.length ≤ 500) (a b : Int) (t : ByteArray) (lost again : Bool) :
    Calls Try.prog 18 #[.pointer (some ⟨p, 0, none⟩), .agg #[.int .i64 0, .int .i64 a, .int .i64 b, .string t, .bool lost, .bool again]] W (RPost W F (.agg #[.int .i64 (rsendE m a b t), .string tE, .bool false]) (rsendR m a b t) p) := by
  have r0 := rdo_start h 0 a b t lost again
  obtain ⟨F2, hR, -, hbk⟩ := r0.swap.take refO_ok cell_ok
  have KS := hide (rsend_any hR hL hG a b t)
  have HBK := hide hbk
  clear h r0 hR hbk
  go_enter Try.func18, Try.ntmps18
  go_wp2_with fail
  refine KS.out.mono ?_
  rintro e w2 ⟨rfl, hp2⟩
  have s2 := (HBK.out _ _ hp2).swap
  obtain ⟨FC, hC⟩ := s2.fst
  obtain ⟨⟨c0, c1, c2⟩, f0, f1, f2⟩ := row3 hC.1
  have S2 := hide s2
  clear s2 hC hp2
  go_wp2
  have s3 := set3 S2.out refO_ok (.int .i64 (rsendE m a b t)) (.string tE) (.bool false)
  obtain ⟨F3, h3⟩ := s3.fst
  exact ⟨rfl, _, res18 _ _ (W.heap.size + 1) _ _ _ rfl h3.1, rfl, s3.drop.post refO_ok⟩

set_option maxRecDepth 100000 in
set_option maxHeartbeats 1000000 in
theorem rdo_del {W : World} {F : Nat → Prop} {m : RefM} {p : Nat} (h : RefO m p W F) (hL : m.L.length ≤ 500) (hG : m.G.length ≤ 500) (a b : Int) (t : ByteArray) (lost again : Bool) :
    Calls Try.prog 18 #[.pointer (some ⟨p, 0, none⟩), .agg #[.int .i64 1, .int .i64 a, .int .i64 b, .string t, .bool lost, .bool again]] W (RPost W F (.agg #[.int .i64 0, .string (rdelE m a b lost).1, .bool (rdelE m a b lost).2]) (rdelR m a b lost again) p) := by
  have r0 := rdo_start h 1 a b t lost again
  obtain ⟨F2, hR, -, hbk⟩ := r0.swap.take refO_ok cell_ok
  have KS := hide (rdel_any hR hL hG a b lost again)
  have HBK := hide hbk
  clear h r0 hR hbk
  go_enter Try.func18, Try.ntmps18
  go_wp2_with fail
  refine KS.out.mono ?_
  rintro e w2 ⟨rfl, hp2⟩
  have s2 := (HBK.out _ _ hp2).swap
  obtain ⟨FC, hC⟩ := s2.fst
  obtain ⟨⟨c0, c1, c2⟩, f0, f1, f2⟩ := row3 hC.1
  have S2 := hide s2
  clear s2 hC hp2
  go_wp2
  have s3 := set3 S2.out refO_ok (.int .i64 0) (.string (rdelE m a b lost).1) (.bool (rdelE m a b lost).2)
  obtain ⟨F3, h3⟩ := s3.fst
  exact ⟨rfl, _, res18 _ _ (W.heap.size + 1) _ _ _ rfl h3.1, rfl, s3.drop.post refO_ok⟩

set_option maxRecDepth 100000 in
set_option maxHeartbeats 1000000 in
theorem rdo_cut {W : World} {F : Nat → Prop} {m : RefM} {p : Nat} (h : RefO m p W F) (hL : m.L.length ≤ 500) (hG : m.G.length ≤ 500) (a b : Int) (t : ByteArray) (lost again : Bool) :
    Calls Try.prog 18 #[.pointer (some ⟨p, 0, none⟩), .agg #[.int .i64 2, .int .i64 a, .int .i64 b, .string t, .bool lost, .bool again]] W (RPost W F (.agg #[.int .i64 (rcutE m a b), .string tE, .bool false]) (rcutR m a b) p) := by
  have r0 := rdo_start h 2 a b t lost again
  obtain ⟨F2, hR, -, hbk⟩ := r0.swap.take refO_ok cell_ok
  have KS := hide (rcut_any hR hL hG a b)
  have HBK := hide hbk
  clear h r0 hR hbk
  go_enter Try.func18, Try.ntmps18
  go_wp2_with fail
  refine KS.out.mono ?_
  rintro e w2 ⟨rfl, hp2⟩
  have s2 := (HBK.out _ _ hp2).swap
  obtain ⟨FC, hC⟩ := s2.fst
  obtain ⟨⟨c0, c1, c2⟩, f0, f1, f2⟩ := row3 hC.1
  have S2 := hide s2
  clear s2 hC hp2
  go_wp2
  have s3 := set3 S2.out refO_ok (.int .i64 (rcutE m a b)) (.string tE) (.bool false)
  obtain ⟨F3, h3⟩ := s3.fst
  exact ⟨rfl, _, res18 _ _ (W.heap.size + 1) _ _ _ rfl h3.1, rfl, s3.drop.post refO_ok⟩

set_option maxRecDepth 100000 in
set_option maxHeartbeats 1000000 in
theorem rdo_heal {W : World} {F : Nat → Prop} {m : RefM} {p : Nat} (h : RefO m p W F) (hL : m.L.length ≤ 500) (hG : m.G.length ≤ 500) (k : Int) (a b : Int) (t : ByteArray) (lost again : Bool) (hk0 : (k == 0) = false) (hk1 : (k == 1) = false) (hk2 : (k == 2) = false) :
    Calls Try.prog 18 #[.pointer (some ⟨p, 0, none⟩), .agg #[.int .i64 k, .int .i64 a, .int .i64 b, .string t, .bool lost, .bool again]] W (RPost W F (.agg #[.int .i64 (rhealE m a b), .string tE, .bool false]) (rhealR m a b) p) := by
  have r0 := rdo_start h k a b t lost again
  obtain ⟨F2, hR, -, hbk⟩ := r0.swap.take refO_ok cell_ok
  have KS := hide (rheal_any hR hL hG a b)
  have HBK := hide hbk
  clear h r0 hR hbk
  go_enter Try.func18, Try.ntmps18
  go_wp2_with fail
  refine KS.out.mono ?_
  rintro e w2 ⟨rfl, hp2⟩
  have s2 := (HBK.out _ _ hp2).swap
  obtain ⟨FC, hC⟩ := s2.fst
  obtain ⟨⟨c0, c1, c2⟩, f0, f1, f2⟩ := row3 hC.1
  have S2 := hide s2
  clear s2 hC hp2
  go_wp2
  have s3 := set3 S2.out refO_ok (.int .i64 (rhealE m a b)) (.string tE) (.bool false)
  obtain ⟨F3, h3⟩ := s3.fst
  exact ⟨rfl, _, res18 _ _ (W.heap.size + 1) _ _ _ rfl h3.1, rfl, s3.drop.post refO_ok⟩

theorem rdo_any {W : World} {F : Nat → Prop} {m : RefM} {p : Nat} (h : RefO m p W F) (hL : m.L.length ≤ 500) (hG : m.G.length ≤ 500) (x : Step) {r : Res} (hr : rdoR m x = r) {m' : RefM} (hm : rdoM m x = m') :
    Calls Try.prog 18 #[.pointer (some ⟨p, 0, none⟩), .agg #[.int .i64 x.kind, .int .i64 x.a, .int .i64 x.b, .string x.text, .bool x.lost, .bool x.again]] W (fun e W' => e = .returned (.agg #[.int .i64 r.err, .string r.text, .bool r.ok]) ∧ Post W F (RefO m' p) W') := by
  subst hr hm
  obtain ⟨k, a, b, t, lost, again⟩ := x
  simp only [rdoR, rdoM]
  by_cases h0 : k = 0
  · subst h0; exact rdo_send h hL hG a b t lost again
  by_cases h1 : k = 1
  · subst h1; exact rdo_del h hL hG a b t lost again
  by_cases h2 : k = 2
  · subst h2; exact rdo_cut h hL hG a b t lost again
  · simp only [h0, h1, h2, if_false]
    exact rdo_heal h hL hG k a b t lost again (by simpa using h0) (by simpa using h1) (by simpa using h2)
end Go.Proofs.Ytolpcjpnjicmkaa
