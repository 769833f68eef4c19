/-
  LicenceOthers, walked: the head.
-/
import Derived.Test.YtapabbpdfplpoaaM14
set_option linter.unusedSimpArgs false
set_option linter.unusedVariables false
namespace Go.Proofs.Ytapabbpdfplpoaa
open Go.RowKit Go.CH Go.CH.Lic
open Go.ChangeMaps (setBlock)

theorem stepsOk : SliceOk Try.prog 70 80 (.agg #[.int .i64 0, .string ByteArray.empty, .slice none 0 0, .slice none 0 0, .int .i64 0, .int .i64 0, .int .i64 0, .int .i64 0, .string ByteArray.empty, .string ByteArray.empty, .int .i64 0, .int .i64 0, .int .i64 0]) 13 160 := ⟨Try.underlying70, by kernel_rfl, by decide, by decide⟩
def sboxC (z : ZS) : Array Value := #[.int .i64 z.x.k, .string z.x.l.id, .slice z.A z.x.l.ms.length z.c, .slice z.B z.x.l.ps.length z.d, .int .i64 z.x.l.q, .int .i64 z.x.l.u, .int .i64 z.x.l.f, .int .i64 z.x.l.t, .string z.x.id, .string z.x.key, .int .i64 z.x.un, .int .i64 z.x.us, .int .i64 z.x.a]
theorem steps_app {w W : World} {A B : Option Addr} {n m : Nat} {l r : List ZS} (hl : ∀ z ∈ l, StepOk w z) (hr : ∀ z ∈ r, StepOk w z) (hb : Below w.heap.size w W) (hs : Src W B m 13 ((l ++ r).flatMap scl)) (hm : (l ++ r).length = m) (hx : m ≤ maxLen) : Steps W B m (l ++ r) :=
  ⟨hm, hs, fun z hz => by
    rcases List.mem_append.1 hz with h | h
    · exact (hl z h).keep hb
    · exact (hr z h).keep hb, hx⟩
theorem few_left {l : List ZS} {z : ZS} (h : fewB (stepsM (l ++ [z])) = true) : fewB (stepsM l) = true ∧ short z.x.l = true := by
  unfold fewB stepsM at *
  simp only [List.map_append, List.map_cons, List.map_nil, List.length_append, List.length_cons, List.length_nil, List.length_map, List.all_append, List.all_cons, List.all_nil, Bool.and_true, Bool.and_eq_true, decide_eq_true_eq] at *
  refine ⟨⟨by omega, h.2.1⟩, ?_⟩
  have := h.2.2
  unfold fewX at this
  simp only [Bool.and_eq_true] at this
  exact this.1.1
theorem leftsOk : SliceOk Try.prog 96 66 (.agg #[.int .i64 0, .int .i64 0]) 2 16 := ⟨Try.underlying96, by kernel_rfl, by decide, by decide⟩
def wasL (b : BkM) (a : Int) (k : Nat) : List Value := (List.range k).flatMap fun i => [.int .i64 (leftI b i a).1, .int .i64 (leftI b i a).2]
theorem wasL_succ (b : BkM) (a : Int) (k : Nat) : wasL b a (k + 1) = wasL b a k ++ [.int .i64 (leftI b k a).1, .int .i64 (leftI b k a).2] := by
  unfold wasL; rw [List.range_succ, List.flatMap_append]; simp
theorem lic_at {zs : List ZL} {b : BkM} (h : zs.map ZL.l = b.gs.map (·.l)) {k : Nat} (hk : k < zs.length) : zs[k].l.id = (gat b k).l.id := by
  have hk2 : k < b.gs.length := by have := congrArg List.length h; simp at this; omega
  have h1 : (zs.map ZL.l)[k]? = (b.gs.map (·.l))[k]? := by rw [h]
  rw [List.getElem?_map, List.getElem?_map, List.getElem?_eq_getElem hk, List.getElem?_eq_getElem hk2] at h1
  simp at h1
  rw [h1, gat_get hk2]
section
variable {w0 W : World} {X Y : Own} {p : Nat} {b : BkM}
theorem BSt.nilrow (h : BSt w0 X p b W) (e : TypeId) (size : Nat) : BSt w0 (star (RowO e size (.slice none 0 0) 0 []) X) p b W := by
  refine ⟨?_, star_ok row_ok h.xok, h.inv⟩
  have h1 := h.run.imp (B := star (star (BkO b p) X) (RowO e size (.slice none 0 0) 0 [])) fun w F hh => ⟨F, fun _ => False, hh, row_nil w _ _, fun _ _ h => h, fun i => by simp⟩
  exact h1.perm (by ac_rfl)
theorem was_cells {W : World} {F : Nat → Prop} {A' : Option Addr} {k c' : Nat} {b : BkM} {a : Int} (h : RowO 66 2 (.slice A' k c') k (wasL b a k) W F) {j : Nat} (hj : j < k) :
    ∃ g, A' = some ⟨g, 0, none⟩ ∧ W.cell? ⟨g, j * 2, none⟩ = some (.int .i64 (leftI b j a).1) ∧ W.cell? ⟨g, j * 2 + 1, none⟩ = some (.int .i64 (leftI b j a).2) := by
  obtain ⟨g, rfl⟩ := row_addr h (by omega)
  have hr : ∀ i, i < 2 → (wasL b a k)[j * 2 + i]? = ([.int .i64 (leftI b j a).1, .int .i64 (leftI b j a).2] : List Value)[i]? := fun i hi => by
    have := flat_get (fun i : Nat => ([.int .i64 (leftI b i a).1, .int .i64 (leftI b i a).2] : List Value)) 2 (fun _ => rfl) (l := List.range k) (k := j) (by simpa using hj) i hi
    unfold wasL; rw [this]; simp
  refine ⟨g, rfl, row_cell h ?_, row_cell h ?_⟩
  · have := hr 0 (by omega); simpa using this
  · have := hr 1 (by omega); simpa using this
theorem BSt.wasAt {A' : Option Addr} {k c' : Nat} {b0 : BkM} {a : Int} (h : BSt w0 (star (RowO 66 2 (.slice A' k c') k (wasL b0 a k)) X) p b W) {j : Nat} (hj : j < k) :
    ∃ g, A' = some ⟨g, 0, none⟩ ∧ W.cell? ⟨g, j * 2, none⟩ = some (.int .i64 (leftI b0 j a).1) ∧ W.cell? ⟨g, j * 2 + 1, none⟩ = some (.int .i64 (leftI b0 j a).2) := by
  obtain ⟨F, hR⟩ := h.run.rot.fst
  exact was_cells hR hj
theorem BSt.wasAt2 {A' : Option Addr} {k c' : Nat} {b0 : BkM} {a : Int} (h : BSt w0 (star Y (star (RowO 66 2 (.slice A' k c') k (wasL b0 a k)) X)) p b W) {j : Nat} (hj : j < k) :
    ∃ g, A' = some ⟨g, 0, none⟩ ∧ W.cell? ⟨g, j * 2, none⟩ = some (.int .i64 (leftI b0 j a).1) ∧ W.cell? ⟨g, j * 2 + 1, none⟩ = some (.int .i64 (leftI b0 j a).2) := by
  obtain ⟨F, hR⟩ := (h.run.perm (by ac_rfl : _ = star (RowO 66 2 (.slice A' k c') k (wasL b0 a k)) (star (BkO b p) (star Y X)))).fst
  exact was_cells hR hj
theorem BSt.box2 {g : Nat} {x y : Value} {t : TypeId} (h : BSt w0 (star (CellO g #[x, y] t) X) p b W) : W.cell? ⟨g, 0, none⟩ = some x ∧ W.cell? ⟨g, 1, none⟩ = some y := ⟨h.cells 0 _ rfl, h.cells 1 _ rfl⟩
theorem BSt.listId {m c9 : Nat} {A9 : Option Addr} {zs : List ZL} (h : BSt w0 (star Y (star (ARow lcl low 56 7 (.slice A9 m c9) zs) X)) p b W) (hm : m = zs.length) {k : Nat} (hk : k < zs.length) :
    ∃ g, A9 = some ⟨g, 0, none⟩ ∧ W.cell? ⟨g, k * 7, none⟩ = some (.string zs[k].l.id) := by
  subst hm
  obtain ⟨F, hA⟩ := (h.run.perm (by ac_rfl : _ = star (ARow lcl low 56 7 (.slice A9 zs.length c9) zs) (star (BkO b p) (star Y X)))).fst
  obtain ⟨F1, F2, hr, -⟩ := hA
  obtain ⟨g, rfl⟩ := row_addr hr (by omega)
  refine ⟨g, rfl, row_cell hr ?_⟩
  have := flat_get lcl 7 lcl_len hk 0 (by omega)
  rw [Nat.add_zero] at this
  rw [this]; rfl
end
theorem src_cell13 {w : World} {F : Nat → Prop} {g : Nat} {z : ZS} (h : CellO g (sboxC z) 80 w F) : Src w (some ⟨g, 0, none⟩) 1 13 (scl z) :=
  ⟨rfl, scl_one z, fun _ => ⟨_, rfl, fun j u hu => by
    rw [Addr.add_zero_]
    have e : sboxC z = (scl z).toArray := rfl
    rw [e] at h
    exact cell_at h (by simpa using hu)⟩⟩
theorem tail_first {P : Program} {ops : Array Oper} {Q : Exit → Act → World → Prop} {S : World → Prop} {fuel fuel2 : Nat} {ls ls2 : Array Bool} {a : Act} {w : World} (I : World → Act → Prop)
    (h1 : (∀ W' a', I W' a' → wpAnyH P .any ops Q S fuel2 ls2 a' W') → wpAnyH P .any ops Q S fuel ls a w) (h2 : ∀ W' a', I W' a' → wpAnyH P .any ops Q S fuel2 ls2 a' W') : wpAnyH P .any ops Q S fuel ls a w := h1 h2
section
variable {W : World} {A : Option Addr} {n c : Nat} {l : List ZS} {z : ZS}
set_option maxRecDepth 100000 in
set_option maxHeartbeats 6400000 in
theorem others_any (hs : Steps W A n l) (hz : StepOk W z) (hr : n * 160 ≤ 140737488351232) (a : Int) :
    Calls Try.prog 16 #[.slice A n c, stepV z.x z.A z.c z.B z.d, .int .i64 a] W (BelowRet W (.bool true)) := by
  have R1 := hide (((Run.begin W).fresh emp_ok (cell_new W (sboxC z) 80)).imp fun _ _ h => star_emp h)
  have KH := hide (head35_any (W.alloc (.cells (sboxC z) 80)))
  have HS := hide hs
  have HZ := hide hz
  have HR := hide hr
  unfold sboxC at KH
  clear hs hz hr
  unfold stepV
  go_enter Try.func16, Try.ntmps16
  go_wp2_with fail
  refine KH.out.mono ?_
  rintro e w1 ⟨rfl, hb1⟩
  have R2 := hide ((R1.out.below cell_ok hb1).drew cell_ok)
  clear hb1 R1 KH
  go_wp2_with fail
  have SC := hide (fun (w' : World) (h : Run (fun _ => False) W (CellO W.heap.size (sboxC z) 80) w') => sbox_cells (z := z) h)
  refine wp_region_held (S := fun w' => StepC w' W.heap.size 0 z) (by kernel_rfl) (show wpAnyH _ _ _ _ _ _ _ _ w1.drew from ?_)
  refine wpAnyH_take (i := 1) (v := .slice A n c) rfl (by kernel_rfl) (by kernel_rfl) (by kernel_rfl) (fun _ _ _ h => h) (.inl ⟨rfl, fun w' hS' => ?_⟩) (SC.out _ R2.out) ?_
  · go_simp
  try simp only [Act.put, List.getElem_toArray, List.getElem_cons_succ, List.getElem_cons_zero, List.setIfInBounds_toArray, List.set_cons_zero, List.set_cons_succ]
  refine wpAnyH_take (i := 3) (v := .agg #[.int .i64 z.x.k, .string z.x.l.id, .slice z.A z.x.l.ms.length z.c, .slice z.B z.x.l.ps.length z.d, .int .i64 z.x.l.q, .int .i64 z.x.l.u, .int .i64 z.x.l.f, .int .i64 z.x.l.t, .string z.x.id, .string z.x.key, .int .i64 z.x.un, .int .i64 z.x.us, .int .i64 z.x.a]) rfl (by kernel_rfl) (by kernel_rfl) (by kernel_rfl) (fun _ _ _ h => h) (.inl ⟨rfl, fun w' hS' => ?_⟩) (SC.out _ R2.out) ?_
  · unfold StepC at hS'
    simp only [Nat.zero_add] at hS'
    go_simp
  try simp only [Act.put, List.getElem_toArray, List.getElem_cons_succ, List.getElem_cons_zero, List.setIfInBounds_toArray, List.set_cons_zero, List.set_cons_succ]
  refine tail_first (fuel2 := 11) (ls2 := #[true, true, true, true, true, false, false, false, false, false, false, false, false, false, false, false]) (fun W' a' => ∃ (A4 : Option Addr) (c4 g4 : Nat) (x20 : Value), a' = ⟨#[(.slice A n c : Value), .agg #[.int .i64 z.x.k, .string z.x.l.id, .slice z.A z.x.l.ms.length z.c, .slice z.B z.x.l.ps.length z.d, .int .i64 z.x.l.q, .int .i64 z.x.l.u, .int .i64 z.x.l.f, .int .i64 z.x.l.t, .string z.x.id, .string z.x.key, .int .i64 z.x.un, .int .i64 z.x.us, .int .i64 z.x.a], .int .i64 a, undef, .pointer (some ⟨W.heap.size, 0, none⟩), undef, .bool false, .bool true, undef, undef, undef, undef, undef, undef, undef, undef, undef, undef, undef, .bool true, x20, .slice A n c, .slice A4 n c4, .agg #[.int .i64 z.x.k, .string z.x.l.id, .slice z.A z.x.l.ms.length z.c, .slice z.B z.x.l.ps.length z.d, .int .i64 z.x.l.q, .int .i64 z.x.l.u, .int .i64 z.x.l.f, .int .i64 z.x.l.t, .string z.x.id, .string z.x.key, .int .i64 z.x.un, .int .i64 z.x.us, .int .i64 z.x.a], .slice (some ⟨g4, 0, none⟩) 1 1, undef, undef, undef, undef, undef, undef, undef, undef, undef, undef, undef, undef, undef, undef, undef, undef, undef, undef, undef, undef, undef, undef, undef, undef, undef, undef, undef, undef, undef, undef, undef, undef, undef, undef, undef, undef, undef, undef, undef, undef, undef, undef, undef, undef, undef, undef, undef, undef, undef, undef, undef, undef, undef, undef, undef, undef, undef, undef, undef, undef, undef, undef, undef, undef, undef, undef, undef, undef, undef, undef, undef, undef, undef, undef, undef, undef, undef, undef, undef, undef, undef, undef, undef, undef, undef, undef, undef, undef, undef, undef, undef, undef, undef, undef, undef, undef, undef, undef, undef, undef], []⟩ ∧ Hid (Run (fun _ => False) W (star (RowO 80 13 (.slice A4 n c4) n (l.flatMap scl)) (star (CellO g4 (sboxC z) 80) (CellO W.heap.size (sboxC z) 80))) W')) (fun TAIL => ?g1) ?g2
  case g1 =>
    refine wpAnyH_all (rs := [0, 4]) (by kernel_rfl) (by decide) (fun i hi => ?_)
    simp only [List.mem_cons, List.not_mem_nil, or_false] at hi
    rcases hi with rfl | rfl
    · refine wpOp_plain rfl rfl ?_
      go_wp2_with fail
      have R3 : Hid (Run (fun _ => False) W (star (RowO 80 13 (.slice (some ⟨w1.heap.size, 0, none⟩) 0 0) 0 []) (CellO W.heap.size (sboxC z) 80)) ((w1.alloc (.cells #[] 80)).drew)) := hide (show Run _ _ _ (w1.drew.alloc (.cells #[] 80)) from R2.out.fresh cell_ok (row_made _ 80 13))
      refine ⟨SC.out _ R3.out.drop, ?_⟩
      try simp only [Act.put, List.getElem_toArray, List.getElem_cons_succ, List.getElem_cons_zero, List.setIfInBounds_toArray, List.set_cons_zero, List.set_cons_succ]
      generalize (w1.alloc (.cells #[] 80)).drew = w3 at *
      refine wpAnyH_all (rs := [2, 4]) (by kernel_rfl) (by decide) (fun i hi => ?_)
      simp only [List.mem_cons, List.not_mem_nil, or_false] at hi
      rcases hi with rfl | rfl
      · refine wpOp_plain rfl rfl ?_
        obtain ⟨F4, hR4, -, bk4⟩ := R3.out.take row_ok cell_ok
        refine wp_appX (.tmp 20) (.tmp 21) rfl stepsOk _ 0 (n := 0) (xs := []) rfl hR4.1 (A := A) (m := n) (c := c) (news := l.flatMap scl) rfl (R3.out.src0 HS.out.src) (by have := HS.out.max; omega) (by have := HR.out; omega) (Nat.zero_le _) ?_
        intro v4 w4 ho4 hg4 hv4
        have S4 := bk4 _ _ (row_app hR4 ho4 hg4 hv4)
        rw [Nat.zero_add, List.nil_append] at S4 ho4
        obtain ⟨A4, c4, rfl⟩ := own_form ho4
        have R4 := hide S4
        clear ho4 hg4 hv4 S4 bk4 hR4
        refine ⟨SC.out _ R4.out.drop, ?_⟩
        try simp only [Act.put, List.getElem_toArray, List.getElem_cons_succ, List.getElem_cons_zero, List.setIfInBounds_toArray, List.set_cons_zero, List.set_cons_succ]
        refine wpAnyH_all (rs := [4]) (by kernel_rfl) (by decide) (fun i hi => ?_)
        simp only [List.mem_cons, List.not_mem_nil, or_false] at hi
        subst hi
        refine wpOp_plain rfl rfl ?_
        go_wp2_with fail
        have R5 := hide (R4.out.fresh (star_ok row_ok cell_ok) (cell_new w4 (sboxC z) 80))
        refine ⟨SC.out _ R5.out.drop.drop, ?_⟩
        try simp only [Act.put, List.getElem_toArray, List.getElem_cons_succ, List.getElem_cons_zero, List.setIfInBounds_toArray, List.set_cons_zero, List.set_cons_succ]
        exact TAIL _ _ ⟨A4, c4, w4.heap.size, _, rfl, hide R5.out.rot⟩
      · refine wpOp_plain rfl rfl ?_
        go_wp2_with fail
        have R4 := hide (R3.out.fresh (star_ok row_ok cell_ok) (cell_new w3 (sboxC z) 80))
        refine ⟨SC.out _ R4.out.drop.drop, ?_⟩
        try simp only [Act.put, List.getElem_toArray, List.getElem_cons_succ, List.getElem_cons_zero, List.setIfInBounds_toArray, List.set_cons_zero, List.set_cons_succ]
        refine wpAnyH_all (rs := [2]) (by kernel_rfl) (by decide) (fun i hi => ?_)
        simp only [List.mem_cons, List.not_mem_nil, or_false] at hi
        subst hi
        refine wpOp_plain rfl rfl ?_
        obtain ⟨F4, hR4, -, bk4⟩ := R4.out.rot.take row_ok (star_ok cell_ok cell_ok)
        refine wp_appX (.tmp 20) (.tmp 21) rfl stepsOk _ 0 (n := 0) (xs := []) rfl hR4.1 (A := A) (m := n) (c := c) (news := l.flatMap scl) rfl (R4.out.src0 HS.out.src) (by have := HS.out.max; omega) (by have := HR.out; omega) (Nat.zero_le _) ?_
        intro v4 w4 ho4 hg4 hv4
        have S4 := bk4 _ _ (row_app hR4 ho4 hg4 hv4)
        rw [Nat.zero_add, List.nil_append] at S4 ho4
        obtain ⟨A4, c4, rfl⟩ := own_form ho4
        have R5 := hide S4
        clear ho4 hg4 hv4 S4 bk4 hR4
        refine ⟨SC.out _ R5.out.drop.drop, ?_⟩
        try simp only [Act.put, List.getElem_toArray, List.getElem_cons_succ, List.getElem_cons_zero, List.setIfInBounds_toArray, List.set_cons_zero, List.set_cons_succ]
        exact TAIL _ _ ⟨A4, c4, w3.heap.size, _, rfl, R5⟩
    · refine wpOp_plain rfl rfl ?_
      go_wp2_with fail
      have R3 : Hid (Run (fun _ => False) W (star (CellO w1.heap.size (sboxC z) 80) (CellO W.heap.size (sboxC z) 80)) ((w1.alloc (.cells (sboxC z) 80)).drew)) := hide (show Run _ _ _ (w1.drew.alloc (.cells (sboxC z) 80)) from R2.out.fresh cell_ok (cell_new _ (sboxC z) 80))
      refine ⟨SC.out _ R3.out.drop, ?_⟩
      try simp only [Act.put, List.getElem_toArray, List.getElem_cons_succ, List.getElem_cons_zero, List.setIfInBounds_toArray, List.set_cons_zero, List.set_cons_succ]
      unfold sboxC at R3
      generalize (w1.alloc (.cells #[.int .i64 z.x.k, .string z.x.l.id, .slice z.A z.x.l.ms.length z.c, .slice z.B z.x.l.ps.length z.d, .int .i64 z.x.l.q, .int .i64 z.x.l.u, .int .i64 z.x.l.f, .int .i64 z.x.l.t, .string z.x.id, .string z.x.key, .int .i64 z.x.un, .int .i64 z.x.us, .int .i64 z.x.a] 80)).drew = w3 at *
      have R3 := hide (show Run _ _ (star (CellO w1.heap.size (sboxC z) 80) (CellO W.heap.size (sboxC z) 80)) w3 from R3.out)
      refine wpAnyH_all (rs := [0]) (by kernel_rfl) (by decide) (fun i hi => ?_)
      simp only [List.mem_cons, List.not_mem_nil, or_false] at hi
      subst hi
      refine wpOp_plain rfl rfl ?_
      go_wp2_with fail
      have R4 := hide (R3.out.fresh (star_ok cell_ok cell_ok) (row_made w3 80 13))
      refine ⟨SC.out _ R4.out.drop.drop, ?_⟩
      try simp only [Act.put, List.getElem_toArray, List.getElem_cons_succ, List.getElem_cons_zero, List.setIfInBounds_toArray, List.set_cons_zero, List.set_cons_succ]
      refine wpAnyH_all (rs := [2]) (by kernel_rfl) (by decide) (fun i hi => ?_)
      simp only [List.mem_cons, List.not_mem_nil, or_false] at hi
      subst hi
      refine wpOp_plain rfl rfl ?_
      obtain ⟨F4, hR4, -, bk4⟩ := R4.out.take row_ok (star_ok cell_ok cell_ok)
      refine wp_appX (.tmp 20) (.tmp 21) rfl stepsOk _ 0 (n := 0) (xs := []) rfl hR4.1 (A := A) (m := n) (c := c) (news := l.flatMap scl) rfl (R4.out.src0 HS.out.src) (by have := HS.out.max; omega) (by have := HR.out; omega) (Nat.zero_le _) ?_
      intro v4 w4 ho4 hg4 hv4
      have S4 := bk4 _ _ (row_app hR4 ho4 hg4 hv4)
      rw [Nat.zero_add, List.nil_append] at S4 ho4
      obtain ⟨A4, c4, rfl⟩ := own_form ho4
      have R5 := hide S4
      clear ho4 hg4 hv4 S4 bk4 hR4
      refine ⟨SC.out _ R5.out.drop.drop, ?_⟩
      try simp only [Act.put, List.getElem_toArray, List.getElem_cons_succ, List.getElem_cons_zero, List.setIfInBounds_toArray, List.set_cons_zero, List.set_cons_succ]
      exact TAIL _ _ ⟨A4, c4, w1.heap.size, _, rfl, R5⟩
  case g2 =>
    rintro W4 a4 ⟨A4, c4, g4, x20, rfl, R5⟩
    refine wpAnyH_all (rs := [5]) (by kernel_rfl) (by decide) (fun i hi => ?_)
    simp only [List.mem_cons, List.not_mem_nil, or_false] at hi
    subst hi
    refine wpOp_plain rfl rfl ?_
    obtain ⟨F5, h5⟩ := R5.out.rot.fst
    have HSRC := hide (src_cell13 h5)
    obtain ⟨F6, hR6, -, bk6⟩ := R5.out.take row_ok (star_ok cell_ok cell_ok)
    refine wp_appX (.tmp 22) (.tmp 24) rfl stepsOk _ 0 (n := n) (xs := l.flatMap scl) rfl hR6.1 (A := some ⟨g4, 0, none⟩) (m := 1) (c := 1) (news := scl z) rfl HSRC.out (by have := HR.out; unfold maxLen; omega) (by have := HR.out; omega) (Nat.zero_le _) ?_
    intro v6 w6 ho6 hg6 hv6
    have S6 := bk6 _ _ (row_app hR6 ho6 hg6 hv6)
    obtain ⟨A6, c6, rfl⟩ := own_form ho6
    have R6 := hide S6
    clear ho6 hg6 hv6 S6 bk6 hR6 HSRC h5
    refine ⟨SC.out _ R6.out.drop.drop, ?_⟩
    try simp only [Act.put, List.getElem_toArray, List.getElem_cons_succ, List.getElem_cons_zero, List.setIfInBounds_toArray, List.set_cons_zero, List.set_cons_succ]
    have HST : Hid (Steps w6 A6 (n + 1) (l ++ [z])) := hide (by
      obtain ⟨F7, h7⟩ := R6.out.fst
      have hsrc := row_src (A := A6) h7 (fun u hu => by
        rcases List.mem_append.1 hu with hu | hu
        · obtain ⟨y, _, hy⟩ := List.mem_flatMap.1 hu
          exact scl_one y u hy
        · exact scl_one z u hu)
      refine steps_app (A := A) (n := n) HS.out.ok (fun y hy => by simp at hy; subst hy; exact HZ.out) R6.out.bel ?_ (by simp [HS.out.len]) (by have := HR.out; unfold maxLen; omega)
      rw [List.flatMap_append, show [z].flatMap scl = scl z from List.append_nil _]
      exact hsrc)
    have KF := hide (fewL_any (c := c6) HST.out)
    have HX := hide (show fewB (stepsM (l ++ [z])) = fewB (stepsM (l ++ [z])) from rfl)
    refine wpAnyH_all (rs := [6]) (by kernel_rfl) (by decide) (fun i hi => ?_)
    simp only [List.mem_cons, List.not_mem_nil, or_false] at hi
    subst hi
    refine wpOp_plain rfl rfl ?_
    go_wp2_with fail
    refine KF.out.mono ?_
    rintro e w7 ⟨rfl, hb7⟩
    have R7 := hide (R6.out.drop.drop.below cell_ok hb7)
    clear hb7 KF HST R6 R5
    refine ⟨SC.out _ R7.out, ?_⟩
    try simp only [Act.put, List.getElem_toArray, List.getElem_cons_succ, List.getElem_cons_zero, List.setIfInBounds_toArray, List.set_cons_zero, List.set_cons_succ]
    cases hfew : fewB (stepsM (l ++ [z])) with
    | false =>
      refine wpAnyH_take (i := 7) (v := .bool true) rfl (by kernel_rfl) (by kernel_rfl) (by kernel_rfl) (fun _ _ _ h => h) (.inl ⟨rfl, fun w' hS' => ?_⟩) (SC.out _ R7.out) ?_
      · go_simp
      try simp only [Act.put, List.getElem_toArray, List.getElem_cons_succ, List.getElem_cons_zero, List.setIfInBounds_toArray, List.set_cons_zero, List.set_cons_succ]
      refine wpAnyH_take (i := 8) (v := .bool true) rfl (by kernel_rfl) (by kernel_rfl) (by kernel_rfl) (fun _ _ _ h => h) (.inl ⟨rfl, fun w' hS' => ?_⟩) (SC.out _ R7.out) ?_
      · go_simp
      try simp only [Act.put, List.getElem_toArray, List.getElem_cons_succ, List.getElem_cons_zero, List.setIfInBounds_toArray, List.set_cons_zero, List.set_cons_succ]
      refine wpAnyH_take (i := 9) (v := undef) rfl (by kernel_rfl) (by kernel_rfl) (by kernel_rfl) (fun _ _ _ h => h) (.inr ⟨rfl, rfl⟩) (SC.out _ R7.out) ?_
      try simp only [Act.put, List.getElem_toArray, List.getElem_cons_succ, List.getElem_cons_zero, List.setIfInBounds_toArray, List.set_cons_zero, List.set_cons_succ]
      refine wpAnyH_take (i := 10) (v := undef) rfl (by kernel_rfl) (by kernel_rfl) (by kernel_rfl) (fun _ _ _ h => h) (.inr ⟨rfl, rfl⟩) (SC.out _ R7.out) ?_
      try simp only [Act.put, List.getElem_toArray, List.getElem_cons_succ, List.getElem_cons_zero, List.setIfInBounds_toArray, List.set_cons_zero, List.set_cons_succ]
      refine wpAnyH_take (i := 11) (v := .bool true) rfl (by kernel_rfl) (by kernel_rfl) (by kernel_rfl) (fun _ _ _ h => h) (.inl ⟨rfl, fun w' hS' => ?_⟩) (SC.out _ R7.out) ?_
      · go_simp
      try simp only [Act.put, List.getElem_toArray, List.getElem_cons_succ, List.getElem_cons_zero, List.setIfInBounds_toArray, List.set_cons_zero, List.set_cons_succ]
      refine wpAnyH_take (i := 12) (v := .bool true) rfl (by kernel_rfl) (by kernel_rfl) (by kernel_rfl) (fun _ _ _ h => h) (.inl ⟨rfl, fun w' hS' => ?_⟩) (SC.out _ R7.out) ?_
      · go_simp
      try simp only [Act.put, List.getElem_toArray, List.getElem_cons_succ, List.getElem_cons_zero, List.setIfInBounds_toArray, List.set_cons_zero, List.set_cons_succ]
      refine wpAnyH_take (i := 13) (v := undef) rfl (by kernel_rfl) (by kernel_rfl) (by kernel_rfl) (fun _ _ _ h => h) (.inr ⟨rfl, rfl⟩) (SC.out _ R7.out) ?_
      try simp only [Act.put, List.getElem_toArray, List.getElem_cons_succ, List.getElem_cons_zero, List.setIfInBounds_toArray, List.set_cons_zero, List.set_cons_succ]
      refine wpAnyH_take (i := 14) (v := undef) rfl (by kernel_rfl) (by kernel_rfl) (by kernel_rfl) (fun _ _ _ h => h) (.inr ⟨rfl, rfl⟩) (SC.out _ R7.out) ?_
      try simp only [Act.put, List.getElem_toArray, List.getElem_cons_succ, List.getElem_cons_zero, List.setIfInBounds_toArray, List.set_cons_zero, List.set_cons_succ]
      refine wpAnyH_take (i := 15) (v := .bool true) rfl (by kernel_rfl) (by kernel_rfl) (by kernel_rfl) (fun _ _ _ h => h) (.inl ⟨rfl, fun w' hS' => ?_⟩) (SC.out _ R7.out) ?_
      · go_simp
      try simp only [Act.put, List.getElem_toArray, List.getElem_cons_succ, List.getElem_cons_zero, List.setIfInBounds_toArray, List.set_cons_zero, List.set_cons_succ]
      refine wpAnyH_done (by kernel_rfl) ?_ 0
      go_wp2
      go_ret
      exact bel_true R7.out.bel
    | true =>
    by_cases ha0 : a < 0
    case pos =>
      refine wpAnyH_take (i := 7) (v := .bool false) rfl (by kernel_rfl) (by kernel_rfl) (by kernel_rfl) (fun _ _ _ h => h) (.inl ⟨rfl, fun w' hS' => ?_⟩) (SC.out _ R7.out) ?_
      · go_simp
      try simp only [Act.put, List.getElem_toArray, List.getElem_cons_succ, List.getElem_cons_zero, List.setIfInBounds_toArray, List.set_cons_zero, List.set_cons_succ]
      refine wpAnyH_take (i := 8) (v := .bool false) rfl (by kernel_rfl) (by kernel_rfl) (by kernel_rfl) (fun _ _ _ h => h) (.inl ⟨rfl, fun w' hS' => ?_⟩) (SC.out _ R7.out) ?_
      · go_simp
      try simp only [Act.put, List.getElem_toArray, List.getElem_cons_succ, List.getElem_cons_zero, List.setIfInBounds_toArray, List.set_cons_zero, List.set_cons_succ]
      refine wpAnyH_take (i := 9) (v := .int .i64 a) rfl (by kernel_rfl) (by kernel_rfl) (by kernel_rfl) (fun _ _ _ h => h) (.inl ⟨rfl, fun w' hS' => ?_⟩) (SC.out _ R7.out) ?_
      · go_simp
      try simp only [Act.put, List.getElem_toArray, List.getElem_cons_succ, List.getElem_cons_zero, List.setIfInBounds_toArray, List.set_cons_zero, List.set_cons_succ]
      refine wpAnyH_take (i := 10) (v := .bool true) rfl (by kernel_rfl) (by kernel_rfl) (by kernel_rfl) (fun _ _ _ h => h) (.inl ⟨rfl, fun w' hS' => ?_⟩) (SC.out _ R7.out) ?_
      · go_simp
      try simp only [Act.put, List.getElem_toArray, List.getElem_cons_succ, List.getElem_cons_zero, List.setIfInBounds_toArray, List.set_cons_zero, List.set_cons_succ]
      refine wpAnyH_take (i := 11) (v := .bool true) rfl (by kernel_rfl) (by kernel_rfl) (by kernel_rfl) (fun _ _ _ h => h) (.inl ⟨rfl, fun w' hS' => ?_⟩) (SC.out _ R7.out) ?_
      · go_simp
      try simp only [Act.put, List.getElem_toArray, List.getElem_cons_succ, List.getElem_cons_zero, List.setIfInBounds_toArray, List.set_cons_zero, List.set_cons_succ]
      refine wpAnyH_take (i := 12) (v := .bool true) rfl (by kernel_rfl) (by kernel_rfl) (by kernel_rfl) (fun _ _ _ h => h) (.inl ⟨rfl, fun w' hS' => ?_⟩) (SC.out _ R7.out) ?_
      · go_simp
      try simp only [Act.put, List.getElem_toArray, List.getElem_cons_succ, List.getElem_cons_zero, List.setIfInBounds_toArray, List.set_cons_zero, List.set_cons_succ]
      refine wpAnyH_take (i := 13) (v := undef) rfl (by kernel_rfl) (by kernel_rfl) (by kernel_rfl) (fun _ _ _ h => h) (.inr ⟨rfl, rfl⟩) (SC.out _ R7.out) ?_
      try simp only [Act.put, List.getElem_toArray, List.getElem_cons_succ, List.getElem_cons_zero, List.setIfInBounds_toArray, List.set_cons_zero, List.set_cons_succ]
      refine wpAnyH_take (i := 14) (v := undef) rfl (by kernel_rfl) (by kernel_rfl) (by kernel_rfl) (fun _ _ _ h => h) (.inr ⟨rfl, rfl⟩) (SC.out _ R7.out) ?_
      try simp only [Act.put, List.getElem_toArray, List.getElem_cons_succ, List.getElem_cons_zero, List.setIfInBounds_toArray, List.set_cons_zero, List.set_cons_succ]
      refine wpAnyH_take (i := 15) (v := .bool true) rfl (by kernel_rfl) (by kernel_rfl) (by kernel_rfl) (fun _ _ _ h => h) (.inl ⟨rfl, fun w' hS' => ?_⟩) (SC.out _ R7.out) ?_
      · go_simp
      try simp only [Act.put, List.getElem_toArray, List.getElem_cons_succ, List.getElem_cons_zero, List.setIfInBounds_toArray, List.set_cons_zero, List.set_cons_succ]
      refine wpAnyH_done (by kernel_rfl) ?_ 0
      go_wp2
      go_ret
      exact bel_true R7.out.bel
    case neg =>
    by_cases ha1 : 144001439 < a
    case pos =>
      refine wpAnyH_take (i := 7) (v := .bool false) rfl (by kernel_rfl) (by kernel_rfl) (by kernel_rfl) (fun _ _ _ h => h) (.inl ⟨rfl, fun w' hS' => ?_⟩) (SC.out _ R7.out) ?_
      · go_simp
      try simp only [Act.put, List.getElem_toArray, List.getElem_cons_succ, List.getElem_cons_zero, List.setIfInBounds_toArray, List.set_cons_zero, List.set_cons_succ]
      refine wpAnyH_take (i := 8) (v := .bool false) rfl (by kernel_rfl) (by kernel_rfl) (by kernel_rfl) (fun _ _ _ h => h) (.inl ⟨rfl, fun w' hS' => ?_⟩) (SC.out _ R7.out) ?_
      · go_simp
      try simp only [Act.put, List.getElem_toArray, List.getElem_cons_succ, List.getElem_cons_zero, List.setIfInBounds_toArray, List.set_cons_zero, List.set_cons_succ]
      refine wpAnyH_take (i := 9) (v := .int .i64 a) rfl (by kernel_rfl) (by kernel_rfl) (by kernel_rfl) (fun _ _ _ h => h) (.inl ⟨rfl, fun w' hS' => ?_⟩) (SC.out _ R7.out) ?_
      · go_simp
      try simp only [Act.put, List.getElem_toArray, List.getElem_cons_succ, List.getElem_cons_zero, List.setIfInBounds_toArray, List.set_cons_zero, List.set_cons_succ]
      refine wpAnyH_take (i := 10) (v := .bool false) rfl (by kernel_rfl) (by kernel_rfl) (by kernel_rfl) (fun _ _ _ h => h) (.inl ⟨rfl, fun w' hS' => ?_⟩) (SC.out _ R7.out) ?_
      · go_simp
      try simp only [Act.put, List.getElem_toArray, List.getElem_cons_succ, List.getElem_cons_zero, List.setIfInBounds_toArray, List.set_cons_zero, List.set_cons_succ]
      refine wpAnyH_take (i := 11) (v := .bool false) rfl (by kernel_rfl) (by kernel_rfl) (by kernel_rfl) (fun _ _ _ h => h) (.inl ⟨rfl, fun w' hS' => ?_⟩) (SC.out _ R7.out) ?_
      · go_simp
      try simp only [Act.put, List.getElem_toArray, List.getElem_cons_succ, List.getElem_cons_zero, List.setIfInBounds_toArray, List.set_cons_zero, List.set_cons_succ]
      refine wpAnyH_take (i := 12) (v := .bool false) rfl (by kernel_rfl) (by kernel_rfl) (by kernel_rfl) (fun _ _ _ h => h) (.inl ⟨rfl, fun w' hS' => ?_⟩) (SC.out _ R7.out) ?_
      · go_simp
      try simp only [Act.put, List.getElem_toArray, List.getElem_cons_succ, List.getElem_cons_zero, List.setIfInBounds_toArray, List.set_cons_zero, List.set_cons_succ]
      refine wpAnyH_take (i := 13) (v := .int .i64 a) rfl (by kernel_rfl) (by kernel_rfl) (by kernel_rfl) (fun _ _ _ h => h) (.inl ⟨rfl, fun w' hS' => ?_⟩) (SC.out _ R7.out) ?_
      · go_simp
      try simp only [Act.put, List.getElem_toArray, List.getElem_cons_succ, List.getElem_cons_zero, List.setIfInBounds_toArray, List.set_cons_zero, List.set_cons_succ]
      refine wpAnyH_take (i := 14) (v := .bool true) rfl (by kernel_rfl) (by kernel_rfl) (by kernel_rfl) (fun _ _ _ h => h) (.inl ⟨rfl, fun w' hS' => ?_⟩) (SC.out _ R7.out) ?_
      · go_simp
      try simp only [Act.put, List.getElem_toArray, List.getElem_cons_succ, List.getElem_cons_zero, List.setIfInBounds_toArray, List.set_cons_zero, List.set_cons_succ]
      refine wpAnyH_take (i := 15) (v := .bool true) rfl (by kernel_rfl) (by kernel_rfl) (by kernel_rfl) (fun _ _ _ h => h) (.inl ⟨rfl, fun w' hS' => ?_⟩) (SC.out _ R7.out) ?_
      · go_simp
      try simp only [Act.put, List.getElem_toArray, List.getElem_cons_succ, List.getElem_cons_zero, List.setIfInBounds_toArray, List.set_cons_zero, List.set_cons_succ]
      refine wpAnyH_done (by kernel_rfl) ?_ 0
      go_wp2
      go_ret
      exact bel_true R7.out.bel
    case neg =>
    refine wpAnyH_take (i := 7) (v := .bool false) rfl (by kernel_rfl) (by kernel_rfl) (by kernel_rfl) (fun _ _ _ h => h) (.inl ⟨rfl, fun w' hS' => ?_⟩) (SC.out _ R7.out) ?_
    · go_simp
    try simp only [Act.put, List.getElem_toArray, List.getElem_cons_succ, List.getElem_cons_zero, List.setIfInBounds_toArray, List.set_cons_zero, List.set_cons_succ]
    refine wpAnyH_take (i := 8) (v := .bool false) rfl (by kernel_rfl) (by kernel_rfl) (by kernel_rfl) (fun _ _ _ h => h) (.inl ⟨rfl, fun w' hS' => ?_⟩) (SC.out _ R7.out) ?_
    · go_simp
    try simp only [Act.put, List.getElem_toArray, List.getElem_cons_succ, List.getElem_cons_zero, List.setIfInBounds_toArray, List.set_cons_zero, List.set_cons_succ]
    refine wpAnyH_take (i := 9) (v := .int .i64 a) rfl (by kernel_rfl) (by kernel_rfl) (by kernel_rfl) (fun _ _ _ h => h) (.inl ⟨rfl, fun w' hS' => ?_⟩) (SC.out _ R7.out) ?_
    · go_simp
    try simp only [Act.put, List.getElem_toArray, List.getElem_cons_succ, List.getElem_cons_zero, List.setIfInBounds_toArray, List.set_cons_zero, List.set_cons_succ]
    refine wpAnyH_take (i := 10) (v := .bool false) rfl (by kernel_rfl) (by kernel_rfl) (by kernel_rfl) (fun _ _ _ h => h) (.inl ⟨rfl, fun w' hS' => ?_⟩) (SC.out _ R7.out) ?_
    · go_simp
    try simp only [Act.put, List.getElem_toArray, List.getElem_cons_succ, List.getElem_cons_zero, List.setIfInBounds_toArray, List.set_cons_zero, List.set_cons_succ]
    refine wpAnyH_take (i := 11) (v := .bool false) rfl (by kernel_rfl) (by kernel_rfl) (by kernel_rfl) (fun _ _ _ h => h) (.inl ⟨rfl, fun w' hS' => ?_⟩) (SC.out _ R7.out) ?_
    · go_simp
    try simp only [Act.put, List.getElem_toArray, List.getElem_cons_succ, List.getElem_cons_zero, List.setIfInBounds_toArray, List.set_cons_zero, List.set_cons_succ]
    refine wpAnyH_take (i := 12) (v := .bool false) rfl (by kernel_rfl) (by kernel_rfl) (by kernel_rfl) (fun _ _ _ h => h) (.inl ⟨rfl, fun w' hS' => ?_⟩) (SC.out _ R7.out) ?_
    · go_simp
    try simp only [Act.put, List.getElem_toArray, List.getElem_cons_succ, List.getElem_cons_zero, List.setIfInBounds_toArray, List.set_cons_zero, List.set_cons_succ]
    refine wpAnyH_take (i := 13) (v := .int .i64 a) rfl (by kernel_rfl) (by kernel_rfl) (by kernel_rfl) (fun _ _ _ h => h) (.inl ⟨rfl, fun w' hS' => ?_⟩) (SC.out _ R7.out) ?_
    · go_simp
    try simp only [Act.put, List.getElem_toArray, List.getElem_cons_succ, List.getElem_cons_zero, List.setIfInBounds_toArray, List.set_cons_zero, List.set_cons_succ]
    refine wpAnyH_take (i := 14) (v := .bool false) rfl (by kernel_rfl) (by kernel_rfl) (by kernel_rfl) (fun _ _ _ h => h) (.inl ⟨rfl, fun w' hS' => ?_⟩) (SC.out _ R7.out) ?_
    · go_simp
    try simp only [Act.put, List.getElem_toArray, List.getElem_cons_succ, List.getElem_cons_zero, List.setIfInBounds_toArray, List.set_cons_zero, List.set_cons_succ]
    refine wpAnyH_take (i := 15) (v := .bool false) rfl (by kernel_rfl) (by kernel_rfl) (by kernel_rfl) (fun _ _ _ h => h) (.inl ⟨rfl, fun w' hS' => ?_⟩) (SC.out _ R7.out) ?_
    · go_simp
    try simp only [Act.put, List.getElem_toArray, List.getElem_cons_succ, List.getElem_cons_zero, List.setIfInBounds_toArray, List.set_cons_zero, List.set_cons_succ]
    refine wpAnyH_done (by kernel_rfl) ?_ 0
    have hfl := hide (few_left hfew)
    have KP := hide (play_any (c := c) R7.out cell_ok HS.out hfl.out.1)
    obtain ⟨b, hbk⟩ : ∃ b, b = playM (stepsM l) := ⟨_, rfl⟩
    rw [← hbk] at KP
    have hI : Inv2 b := hbk ▸ inv2_play _
    have HI := hide hI
    have HOL := hide (others_law hI z.x a)
    have HIA := hide (inst_iff.2 (show 0 ≤ a ∧ a ≤ 144001439 by omega))
    clear hfew hbk hI
    go_wp2_with fail
    refine KP.out.mono ?_
    rintro e w8 ⟨p, rfl, hS⟩
    have S8 := hide hS
    clear hS KP R7
    have KL := hide (st_list S8.out)
    unfold gptr at KL
    unfold gptr
    go_wp2_with fail
    refine KL.out.mono ?_
    rintro e w9 ⟨A9, c9, zs, rfl, hm, hS⟩
    have hlen : zs.length = b.gs.length := by have := congrArg List.length hm; simpa using this
    have HM := hide (fun (k : Nat) (hk : k < zs.length) => lic_at hm hk)
    have S9 := hide hS
    have HLEN := hide hlen
    obtain ⟨m, hmm⟩ : ∃ m, m = zs.length := ⟨_, rfl⟩
    have HMM := hide hmm
    have hm100 : m ≤ 100 := by rw [hmm, hlen]; exact HI.out.inv.gn
    rw [← hmm] at S9
    rw [← hmm]
    clear hS KL hm S8 hlen hmm
    go_wp2
    go_loopw [10, 11, 12, 13] (fun was i _ _ wr => ∃ (k : Nat) (A' : Option Addr) (c' : Nat), k ≤ m ∧ i = .int .i64 k ∧ was = .slice A' k c' ∧ BSt W (star (RowO 66 2 (.slice A' k c') k (wasL b a k)) (star (ARow lcl low 56 7 (.slice A9 m c9) zs) (CellO W.heap.size (sboxC z) 80))) p b wr) (fun _ i _ _ _ => m - (intOf i).toNat)
    case atStart => exact ⟨0, none, 0, Nat.zero_le _, rfl, rfl, S9.out.nilrow 66 2⟩
    case round =>
      obtain ⟨k, A', c', hk, rfl, rfl, hS⟩ := hrel
      have SK := hide hS
      clear hS
      by_cases hlt : k < m
      · have hkz : k < zs.length := by rw [← HMM.out]; exact hlt
        obtain ⟨g9, hA9, a0⟩ := SK.out.listId HMM.out hkz
        have hid := HM.out k hkz
        rw [hid] at a0
        have hlf := left_at HI.out (i := k) (by rw [← HLEN.out]; exact hkz) HIA.out
        have K1 := hide (st_left SK.out (gat b k).l.id a)
        rw [hlf] at K1
        have HWA := hide (wasL_succ b a k)
        clear hid hlf hkz
        obtain ⟨lx, hlx⟩ : ∃ lx, lx = (leftI b k a).1 := ⟨_, rfl⟩
        obtain ⟨ly, hly⟩ : ∃ ly, ly = (leftI b k a).2 := ⟨_, rfl⟩
        rw [← hlx, ← hly] at K1 HWA
        clear hlx hly
        subst hA9
        generalize (gat b k).l.id = idk at *
        unfold leftV gptr at K1
        go_wp2_with fail
        refine K1.out.mono ?_
        rintro e w10 ⟨rfl, hS⟩
        have S10 := hide (hS.box #[.int .i64 lx, .int .i64 ly] 66)
        have S11 := hide (S10.out.dropX hS.xok)
        have S12 := hide (S11.out.below ((Below.refl _ _).alloc (Nat.le_refl _) (.cells #[.int .i64 lx, .int .i64 ly] 66)))
        have HSR := hide (show Src ((w10.alloc (.cells #[.int .i64 lx, .int .i64 ly] 66)).alloc (.cells #[.int .i64 lx, .int .i64 ly] 66)) (some ⟨w10.heap.size + 1, 0, none⟩) 1 2 [.int .i64 lx, .int .i64 ly] by
          have h := src_new7 (w10.alloc (.cells #[.int .i64 lx, .int .i64 ly] 66)) [.int .i64 lx, .int .i64 ly] 66 (by intro u hu; simp at hu; rcases hu with rfl | rfl <;> rfl)
          simpa using h)
        clear hS K1 S10 S11 SK
        go_wp2_with (at_builtin; refine held ?_)
        obtain ⟨F7, hR7, -, bk7⟩ := (S12.out.run.perm (by ac_rfl : _ = star (RowO 66 2 (.slice A' k c') k (wasL b a k)) (star (BkO b p) (star (ARow lcl low 56 7 (.slice (some ⟨g9, 0, none⟩) m c9) zs) (CellO W.heap.size (sboxC z) 80))))).take row_ok (star_ok bkO_ok (star_ok (arow_ok low_ok) cell_ok))
        refine Held.mk (wpList_app rfl (.tmp 60) (.tmp 62) rfl leftsOk _ 0 (v := .slice A' k c') (n := k) (xs := wasL b a k) rfl hR7.1 (A := some ⟨w10.heap.size + 1, 0, none⟩) (m := 1) (c := 1) (news := [.int .i64 lx, .int .i64 ly]) rfl HSR.out (by omega) (by omega) (Nat.zero_le _) ?_)
        intro v8 w8 ho8 hg8 hv8
        have S8 := bk7 _ _ (row_app hR7 ho8 hg8 hv8)
        obtain ⟨A8, c8, rfl⟩ := own_form ho8
        rw [← HWA.out] at S8
        have S13 : Hid (BSt W (star (RowO 66 2 (.slice A8 (k + 1) c8) (k + 1) (wasL b a (k + 1))) (star (ARow lcl low 56 7 (.slice (some ⟨g9, 0, none⟩) m c9) zs) (CellO W.heap.size (sboxC z) 80))) p b w8) :=
          hide ⟨S8.perm (by ac_rfl), star_ok row_ok (star_ok (arow_ok low_ok) cell_ok), S12.out.inv⟩
        clear ho8 hg8 hv8 bk7 hR7 HSR S8 S12
        go_wp2
        go_roundw
        case rel => exact ⟨k + 1, A8, c8, by omega, by go_num, rfl, S13.out⟩
        case measure => simp [intOf]; omega
      · obtain rfl : k = m := by omega
        have hkey := HZ.out.key
        have KD := hide (st_do SK.out z.x ((HZ.out.raw.keep SK.out.bel).at_ hfl.out.2) hkey)
        have hcs : StepC wr W.heap.size 0 z := sbox_cells ⟨(SK.out.run.perm (by ac_rfl : _ = star (CellO W.heap.size (sboxC z) 80) (star (BkO b p) (star (RowO 66 2 (.slice A' k c') k (wasL b a k)) (ARow lcl low 56 7 (.slice A9 k c9) zs))))).fst.imp fun F h => ⟨h, fun i hi => .inr (by have := (h.2 i).1 hi; omega)⟩, SK.out.run.mod⟩
        unfold StepC at hcs
        simp only [Nat.zero_add] at hcs
        obtain ⟨d0, d1, d2, d3, d4, d5, d6, d7, d8, d9, d10, d11, d12⟩ := hcs
        obtain ⟨er, her⟩ : ∃ er, er = (doR b z.x).1 := ⟨_, rfl⟩
        obtain ⟨b2, hb2⟩ : ∃ b2, b2 = (doR b z.x).2 := ⟨_, rfl⟩
        obtain ⟨g1, g2, g3, g4⟩ := HOL.out
        rw [← hb2] at g1 g2 g3 g4 KD
        rw [← her] at KD g4
        have hI2 : Inv2 b2 := hb2 ▸ inv2_do HI.out z.x
        have HI2 := hide hI2
        have G1 := hide g1
        have G2 := hide g2
        have G3 := hide g3
        have G4 := hide g4
        clear g1 g2 g3 g4 hI2 hb2 her HOL SK hkey
        unfold stepV gptr at KD
        go_wp2_with fail
        refine KD.out.mono ?_
        rintro e w10 ⟨rfl, hS⟩
        have S10 := hide hS
        clear hS KD d0 d1 d2 d3 d4 d5 d6 d7 d8 d9 d10 d11 d12
        go_wp2
        go_loopw [15, 16, 17, 18] (fun ch i _ _ wr => ∃ (j : Nat), j ≤ k ∧ i = .int .i64 j ∧ ch = .int .i64 (cnt b b2 a j) ∧ BSt W (star (RowO 66 2 (.slice A' k c') k (wasL b a k)) (star (ARow lcl low 56 7 (.slice A9 k c9) zs) (CellO W.heap.size (sboxC z) 80))) p b2 wr) (fun _ i _ _ _ => k - (intOf i).toNat)
        case atStart => exact ⟨0, Nat.zero_le _, rfl, rfl, S10.out⟩
        case round =>
          obtain ⟨j, hj, rfl, rfl, hS⟩ := hrel
          have SK := hide hS
          clear hS
          have hc1 : cnt b b2 a j ≤ 1 := G1.out j (by rw [← HLEN.out, ← HMM.out]; exact hj)
          by_cases hlt : j < k
          · have hkz : j < zs.length := by rw [← HMM.out]; exact hlt
            obtain ⟨g9, hA9, a0⟩ := SK.out.listId HMM.out hkz
            have hid := HM.out j hkz
            rw [hid] at a0
            have hjb : j < b.gs.length := by rw [← HLEN.out]; exact hkz
            have hlf := left_at HI2.out (i := j) (Nat.lt_of_lt_of_le hjb G2.out) HIA.out
            rw [G3.out j hjb] at hlf
            have K1 := hide (st_left SK.out (gat b j).l.id a)
            rw [hlf] at K1
            have hcn : cnt b b2 a (j + 1) = cnt b b2 a j + if leftI b2 j a = leftI b j a then 0 else 1 := rfl
            have HCN := hide hcn
            have H4 := hide (G4.out j hjb)
            obtain ⟨gw, hgw, r0, r1⟩ := SK.out.wasAt hlt
            clear hid hlf hkz hjb hcn
            obtain ⟨lx, hlx⟩ : ∃ lx, lx = (leftI b2 j a).1 := ⟨_, rfl⟩
            obtain ⟨ly, hly⟩ : ∃ ly, ly = (leftI b2 j a).2 := ⟨_, rfl⟩
            obtain ⟨ox, hox⟩ : ∃ ox, ox = (leftI b j a).1 := ⟨_, rfl⟩
            obtain ⟨oy, hoy⟩ : ∃ oy, oy = (leftI b j a).2 := ⟨_, rfl⟩
            rw [← hlx, ← hly] at K1
            rw [← hox] at r0
            rw [← hoy] at r1
            have HEQ : Hid (leftI b2 j a = (lx, ly) ∧ leftI b j a = (ox, oy)) := hide ⟨by rw [hlx, hly], by rw [hox, hoy]⟩
            clear hlx hly hox hoy
            subst hA9 hgw
            obtain ⟨idk, hidk⟩ : ∃ idk, idk = (gat b j).l.id := ⟨_, rfl⟩
            rw [← hidk] at K1 a0 H4
            have HIDK := hide hidk
            clear hidk
            unfold leftV gptr at K1
            go_wp2_with fail
            refine K1.out.mono ?_
            rintro e w11 ⟨rfl, hS⟩
            have S11 := hide (hS.box #[.int .i64 lx, .int .i64 ly] 66)
            have S12 := hide (S11.out.dropX hS.xok)
            clear hS K1 SK r0 r1 a0
            go_wp2_with fail
            obtain ⟨gw', hgw', r0, r1⟩ := S11.out.drew.wasAt2 hlt
            obtain rfl : gw = gw' := by injection hgw' with e; injection e
            obtain ⟨g9', hA9', a0⟩ := S12.out.listId HMM.out (show j < zs.length by rw [← HMM.out]; exact hlt)
            obtain rfl : g9 = g9' := by injection hA9' with e; injection e
            obtain ⟨q0, q1⟩ := S11.out.drew.box2
            have hid := HM.out j (by rw [← HMM.out]; exact hlt)
            clear hgw' hA9'
            obtain ⟨e1, e2⟩ := HEQ.out
            rw [e2] at r0 r1
            simp only at r0 r1
            have S13 := hide S12.out.drew
            have HEQ2 := hide (show (leftI b2 j a = leftI b j a) ↔ (lx = ox ∧ ly = oy) by rw [e1, e2, Prod.mk.injEq])
            clear e1 e2 HEQ S11 S12 S10 a0 hid
            by_cases heq : lx = ox ∧ ly = oy
            · obtain ⟨rfl, rfl⟩ := heq
              have HC := hide (show cnt b b2 a (j + 1) = cnt b b2 a j by rw [HCN.out, if_pos (HEQ2.out.2 ⟨rfl, rfl⟩)]; rfl)
              refine wp_region_lex (fun w' => w' = (w11.alloc (.cells #[.int .i64 lx, .int .i64 ly] 66)).drew) (by kernel_rfl) (by kernel_rfl) rfl ?_
              generalize (w11.alloc (.cells #[.int .i64 lx, .int .i64 ly] 66)).drew = w13 at *
              (repeat (first | (refine lex_skip (by rfl) ?_; try simp only [Act.put, List.setIfInBounds_toArray, List.set_cons_zero, List.set_cons_succ]) | (refine lex_read (v := ?_) (by rfl) ?_ ?_; rotate_left; (focus (intro w' hS'; go_simp; (try with_reducible rfl); done)); try simp only [Act.put, List.setIfInBounds_toArray, List.set_cons_zero, List.set_cons_succ])))
              refine lex_nil ?_
              clear r0 r1 q0 q1
              go_wp2
              go_roundw
              case rel => exact ⟨j + 1, by omega, by go_num, by rw [HC.out], S13.out⟩
              case measure => simp [intOf]; omega
            · have HC := hide (show cnt b b2 a (j + 1) = cnt b b2 a j + 1 by rw [HCN.out, if_neg (fun h => heq (HEQ2.out.1 h))])
              obtain ⟨her, hke⟩ := H4.out (fun h => heq (HEQ2.out.1 h))
              have hne : ((lx == ox) && (ly == oy)) = false := by
                rw [Bool.and_eq_false_iff]
                by_cases h1 : lx = ox
                · right; simpa using (fun h2 => heq ⟨h1, h2⟩)
                · left; simpa using h1
              have hne2 : lx = ox → ¬ ly = oy := fun h1 h2 => heq ⟨h1, h2⟩
              have HKE := hide hke
              have HER := hide her
              clear heq hke her
              refine wp_region_lex (fun w' => w' = (w11.alloc (.cells #[.int .i64 lx, .int .i64 ly] 66)).drew) (by kernel_rfl) (by kernel_rfl) rfl ?_
              generalize (w11.alloc (.cells #[.int .i64 lx, .int .i64 ly] 66)).drew = w13 at *
              (repeat (first | (refine lex_skip (by rfl) ?_; try simp only [Act.put, List.setIfInBounds_toArray, List.set_cons_zero, List.set_cons_succ]) | (refine lex_read (v := ?_) (by rfl) ?_ ?_; rotate_left; (focus (intro w' hS'; go_simp; (try with_reducible rfl); done)); try simp only [Act.put, List.setIfInBounds_toArray, List.set_cons_zero, List.set_cons_succ])))
              refine lex_read (v := .bool false) (by rfl) (fun w' hS' => ?_) ?_
              · by_cases h1 : lx = ox
                · subst h1
                  have h2 := hne2 rfl
                  go_simp
                · go_simp
              try simp only [Act.put, List.setIfInBounds_toArray, List.set_cons_zero, List.set_cons_succ]
              refine lex_nil ?_
              clear r0 r1 q0 q1 hne hne2
              have S14 := hide S13.out.drew
              obtain ⟨g9', hA9', a1⟩ := S14.out.listId HMM.out (show j < zs.length by rw [← HMM.out]; exact hlt)
              obtain rfl : g9 = g9' := by injection hA9' with e; injection e
              have hid := HM.out j (by rw [← HMM.out]; exact hlt)
              rw [hid] at a1
              have hidk := HIDK.out
              rw [← hidk] at a1
              clear hA9' hid hidk
              have hcs : StepC w13.drew W.heap.size 0 z := sbox_cells ⟨(S14.out.run.perm (by ac_rfl : _ = star (CellO W.heap.size (sboxC z) 80) (star (BkO b2 p) (star (RowO 66 2 (.slice (some ⟨gw, 0, none⟩) k c') k (wasL b a k)) (ARow lcl low 56 7 (.slice (some ⟨g9, 0, none⟩) k c9) zs))))).fst.imp fun F h => ⟨h, fun i hi => .inr (by have := (h.2 i).1 hi; omega)⟩, S14.out.run.mod⟩
              unfold StepC at hcs
              simp only [Nat.zero_add] at hcs
              obtain ⟨d0, d1, d2, d3, d4, d5, d6, d7, d8, d9, d10, d11, d12⟩ := hcs
              clear d1 d2 d3 d4 d5 d6 d7 d9 d10 d11 d12 S14
              go_wp2_with fail
              rcases HER.out with her | her
              · have hb0 : (er != 0) = false := by rw [her]; rfl
                clear her
                by_cases hk1 : 1 ≤ z.x.k
                · by_cases hk4 : z.x.k ≤ 4
                  · rw [HKE.out hk1 hk4] at a1
                    refine wp_region_lex (fun w' => w' = w13.drew) (by kernel_rfl) (by kernel_rfl) rfl ?_
                    (repeat (first | (refine lex_skip (by rfl) ?_; try simp only [Act.put, List.setIfInBounds_toArray, List.set_cons_zero, List.set_cons_succ]) | (refine lex_read (v := ?_) (by rfl) ?_ ?_; rotate_left; (focus (intro w' hS'; go_simp; (try with_reducible rfl); done)); try simp only [Act.put, List.setIfInBounds_toArray, List.set_cons_zero, List.set_cons_succ])))
                    refine lex_nil ?_
                    clear a1 d0 d8
                    go_wp2
                    go_roundw
                    case rel => exact ⟨j + 1, by omega, by go_num, by rw [HC.out]; go_num, S13.out.drew⟩
                    case measure => simp [intOf]; omega
                  · refine wp_region_lex (fun w' => w' = w13.drew) (by kernel_rfl) (by kernel_rfl) rfl ?_
                    (repeat (first | (refine lex_skip (by rfl) ?_; try simp only [Act.put, List.setIfInBounds_toArray, List.set_cons_zero, List.set_cons_succ]) | (refine lex_read (v := ?_) (by rfl) ?_ ?_; rotate_left; (focus (intro w' hS'; go_simp; (try with_reducible rfl); done)); try simp only [Act.put, List.setIfInBounds_toArray, List.set_cons_zero, List.set_cons_succ])))
                    refine lex_nil ?_
                    clear a1 d0 d8
                    go_wp2
                    go_roundw
                    case rel => exact ⟨j + 1, by omega, by go_num, by rw [HC.out]; go_num, S13.out.drew⟩
                    case measure => simp [intOf]; omega
                · refine wp_region_lex (fun w' => w' = w13.drew) (by kernel_rfl) (by kernel_rfl) rfl ?_
                  (repeat (first | (refine lex_skip (by rfl) ?_; try simp only [Act.put, List.setIfInBounds_toArray, List.set_cons_zero, List.set_cons_succ]) | (refine lex_read (v := ?_) (by rfl) ?_ ?_; rotate_left; (focus (intro w' hS'; go_simp; (try with_reducible rfl); done)); try simp only [Act.put, List.setIfInBounds_toArray, List.set_cons_zero, List.set_cons_succ])))
                  refine lex_nil ?_
                  clear a1 d0 d8
                  go_wp2
                  go_roundw
                  case rel => exact ⟨j + 1, by omega, by go_num, by rw [HC.out]; go_num, S13.out.drew⟩
                  case measure => simp [intOf]; omega
              · have hb0 : (er != 0) = true := by rw [her]; rfl
                have hb1 : (er != 22) = false := by rw [her]; rfl
                clear her
                by_cases hk1 : 1 ≤ z.x.k
                · by_cases hk4 : z.x.k ≤ 4
                  · rw [HKE.out hk1 hk4] at a1
                    refine wp_region_lex (fun w' => w' = w13.drew) (by kernel_rfl) (by kernel_rfl) rfl ?_
                    (repeat (first | (refine lex_skip (by rfl) ?_; try simp only [Act.put, List.setIfInBounds_toArray, List.set_cons_zero, List.set_cons_succ]) | (refine lex_read (v := ?_) (by rfl) ?_ ?_; rotate_left; (focus (intro w' hS'; go_simp; (try with_reducible rfl); done)); try simp only [Act.put, List.setIfInBounds_toArray, List.set_cons_zero, List.set_cons_succ])))
                    refine lex_nil ?_
                    clear a1 d0 d8
                    go_wp2
                    go_roundw
                    case rel => exact ⟨j + 1, by omega, by go_num, by rw [HC.out]; go_num, S13.out.drew⟩
                    case measure => simp [intOf]; omega
                  · refine wp_region_lex (fun w' => w' = w13.drew) (by kernel_rfl) (by kernel_rfl) rfl ?_
                    (repeat (first | (refine lex_skip (by rfl) ?_; try simp only [Act.put, List.setIfInBounds_toArray, List.set_cons_zero, List.set_cons_succ]) | (refine lex_read (v := ?_) (by rfl) ?_ ?_; rotate_left; (focus (intro w' hS'; go_simp; (try with_reducible rfl); done)); try simp only [Act.put, List.setIfInBounds_toArray, List.set_cons_zero, List.set_cons_succ])))
                    refine lex_nil ?_
                    clear a1 d0 d8
                    go_wp2
                    go_roundw
                    case rel => exact ⟨j + 1, by omega, by go_num, by rw [HC.out]; go_num, S13.out.drew⟩
                    case measure => simp [intOf]; omega
                · refine wp_region_lex (fun w' => w' = w13.drew) (by kernel_rfl) (by kernel_rfl) rfl ?_
                  (repeat (first | (refine lex_skip (by rfl) ?_; try simp only [Act.put, List.setIfInBounds_toArray, List.set_cons_zero, List.set_cons_succ]) | (refine lex_read (v := ?_) (by rfl) ?_ ?_; rotate_left; (focus (intro w' hS'; go_simp; (try with_reducible rfl); done)); try simp only [Act.put, List.setIfInBounds_toArray, List.set_cons_zero, List.set_cons_succ])))
                  refine lex_nil ?_
                  clear a1 d0 d8
                  go_wp2
                  go_roundw
                  case rel => exact ⟨j + 1, by omega, by go_num, by rw [HC.out]; go_num, S13.out.drew⟩
                  case measure => simp [intOf]; omega
          · obtain rfl : j = k := by omega
            have HB := hide SK.out.bel
            clear SK
            go_wp2
            go_ret
            first | exact bel_true HB.out | exact bel_bool (by symm; simp; omega) HB.out | exact bel_bool (by go_num) HB.out
end
end Go.Proofs.Ytapabbpdfplpoaa
