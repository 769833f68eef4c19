/-
  Net: Deliver.
-/
import Derived.Test.YtolpcjpnjicmkaaNet4
import Derived.Test.YtolpcjpnjicmkaaLex
set_option linter.unusedSimpArgs false
set_option linter.unusedVariables false
namespace Go.Proofs.Ytolpcjpnjicmkaa
open Go.RowKit Go.CH
open Go.ChangeMaps (setBlock)

/-- The two blocks that Deliver makes first. -/
def dW (w : World) (A : Option Addr) (a b : Int) : World := (w.alloc (.cells #[.pointer A] 25)).alloc (.cells #[.int .i64 a, .int .i64 b] 58)
theorem dW_below (w : World) (A : Option Addr) (a b : Int) : Below w.heap.size w (dW w A a b) := ((Below.refl _ _).alloc (Nat.le_refl _) _).alloc (by simp) _
theorem dW_size (w : World) (A : Option Addr) (a b : Int) : (dW w A a b).heap.size = w.heap.size + 2 := by simp [dW]
theorem dW_cells {w w1 : World} {A : Option Addr} {a b : Int} {B : Nat} (hb : Below B (dW w A a b) w1) (hB : B = w.heap.size + 2) :
    w1.cell? ⟨w.heap.size, 0, none⟩ = some (.pointer A) ∧ w1.cell? ⟨w.heap.size + 1, 0, none⟩ = some (.int .i64 a) ∧ w1.cell? ⟨w.heap.size + 1, 1, none⟩ = some (.int .i64 b) := by
  subst hB
  have e1 : (dW w A a b).heap[w.heap.size]? = some (.cells #[.pointer A] 25 (0, 0)) := (heap_old (by simp)).trans (heap_new rfl)
  have e2 : (dW w A a b).heap[w.heap.size + 1]? = some (.cells #[.int .i64 a, .int .i64 b] 58 (0, 0)) := heap_new (by simp)
  refine ⟨(hb.cell (p := ⟨w.heap.size, 0, none⟩) (by simp)).trans ?_, (hb.cell (p := ⟨w.heap.size + 1, 0, none⟩) (by simp)).trans ?_, (hb.cell (p := ⟨w.heap.size + 1, 1, none⟩) (by simp)).trans ?_⟩
  · simp [World.cell?, e1]
  · simp [World.cell?, e2]
  · simp [World.cell?, e2]

theorem NetPost.before {w w1 : World} {F : Nat → Prop} {p : Nat} {v : Value} {m : NetM} {w' : World} (hb : Below w.heap.size w w1) (hF : ∀ i, F i → i < w.heap.size) (h : ∃ F', Net w' F' m p ∧ Mod F w1 w' ∧ ∀ i, F' i → F i ∨ (w1.heap.size ≤ i ∧ i < w'.heap.size)) : NetPost w F p v m (.returned v) w' := by
  obtain ⟨F', h1, h2, h3⟩ := h
  exact ⟨rfl, F', h1, (Mod.of_below (F := F) hb).trans h2 (fun _ _ h => h) (fun _ _ h => h), fun i hi => (h3 i hi).imp id (fun h => ⟨Nat.le_trans hb.size h.1, h.2⟩)⟩

set_option maxHeartbeats 400000 in
theorem deliver_no (A : Option Addr) (a b : Int) (lost again : Bool) (w : World) (hk : Kn w (.pointer A) a b false) :
    Calls Try.prog 12 #[.pointer A, .int .i64 a, .int .i64 b, .bool lost, .bool again] w (BelowRet w (.tuple #[.string ⟨#[]⟩, .bool false])) := by
  have H := hide hk; clear hk
  have HK := hide (knows_at (w1 := (dW w A a b).drew) H.out (dW_below _ _ _ _).drew)
  have hd := fun w1 (h : Below (w.heap.size + 2) (dW w A a b) w1) => dW_cells h rfl
  have hd0 := fun w1 h => (hd w1 h).1
  have hd1 := fun w1 h => (hd w1 h).2.1
  have hd2 := fun w1 h => (hd w1 h).2.2
  clear hd
  go_enter_defers Try.func12, Try.ntmps12
  go_wp2
  change Code.wp _ _ _ _ (dW w A a b)
  refine wp_region_lex (Below (w.heap.size + 2) (dW w A a b)) (by kernel_rfl) (by kernel_rfl) (Below.refl _ _).drew ?_
  (repeat (first | (refine lex_skip (by rfl) ?_; try simp only [Act.put, List.setIfInBounds_toArray, List.set_cons_zero, List.set_cons_succ]) | (refine lex_read (v := ?_) (by rfl) ?_ ?_; rotate_left; (focus (intro w' hS'; go_simp; (try with_reducible rfl); done)); try simp only [Act.put, List.setIfInBounds_toArray, List.set_cons_zero, List.set_cons_succ])))
  refine lex_chain rfl (by rfl) (fun K hK => ?_)
  go_wp2_with (go_at_call 22; refine HK.out.mono ?_; rintro e w1 ⟨rfl, hb⟩)
  refine hK.out _ _ ?_ ?_
  · exact (Below.refl _ _).drew.trans (hb.mono (by simp [dW_size]))
  (repeat (first | (refine lex_skip (by rfl) ?_; try simp only [Act.put, List.setIfInBounds_toArray, List.set_cons_zero, List.set_cons_succ]) | (refine lex_read (v := ?_) (by rfl) ?_ ?_; rotate_left; (focus (intro w' hS'; go_simp; (try with_reducible rfl); done)); try simp only [Act.put, List.setIfInBounds_toArray, List.set_cons_zero, List.set_cons_succ])))
  refine lex_nil ?_
  go_wp2
  exact ⟨_, results_tmp2 rfl _ _ _, rfl, (dW_below w A a b).drew.trans (hb.mono (by simp [dW_size]))⟩

/-- What Deliver reads, wherever only new blocks have come. -/
structure DFacts (w : World) (p bq : Nat) (a b : Int) (A : Option Addr) (n c : Nat) (W : World) : Prop where
  d0 : ∀ w1, Below (w.heap.size + 2) W w1 → w1.cell? ⟨w.heap.size, 0, none⟩ = some (.pointer (some ⟨p, 0, none⟩))
  d1 : ∀ w1, Below (w.heap.size + 2) W w1 → w1.cell? ⟨w.heap.size + 1, 0, none⟩ = some (.int .i64 a)
  d2 : ∀ w1, Below (w.heap.size + 2) W w1 → w1.cell? ⟨w.heap.size + 1, 1, none⟩ = some (.int .i64 b)
  p1 : ∀ w1, Below (w.heap.size + 2) W w1 → w1.cell? ⟨p, 1, none⟩ = some (.map (some bq))
  lk : ∀ w1, Below (w.heap.size + 2) W w1 → (Instr.lookup 53 (.map (some bq)) (.agg #[.int .i64 a, .int .i64 b]) false).run Try.prog w1 = .ok (.slice A n c) w1

theorem NetAt.dfacts {w : World} {F : Nat → Prop} {m : NetM} {p bq bc : Nat} {lq lc : List ((Int × Int) × Value)} {eq ec : Array MapEntry} {kq kc : Nat} (h : NetAt w F m p bq bc lq lc eq ec kq kc) (a b : Int) {A : Option Addr} {c : Nat}
    (hA : qv lq (a, b) = .slice A (m.q (a, b)).length c) : DFacts w p bq a b A (m.q (a, b)).length c (dW w (some ⟨p, 0, none⟩) a b) := by
  have hb : ∀ w1, Below (w.heap.size + 2) (dW w (some ⟨p, 0, none⟩) a b) w1 → NetAt w1 F m p bq bc lq lc eq ec kq kc := fun w1 h1 => h.below ((dW_below w _ a b).trans (h1.mono (by omega)))
  refine ⟨fun w1 h1 => (dW_cells h1 rfl).1, fun w1 h1 => (dW_cells h1 rfl).2.1, fun w1 h1 => (dW_cells h1 rfl).2.2, fun w1 h1 => (hb w1 h1).cells.2.1, fun w1 h1 => ?_⟩
  have := (hb w1 h1).look_q a b 0
  rw [hA] at this; exact this

set_option maxHeartbeats 400000 in
theorem deliver_empty {w : World} {F : Nat → Prop} {m : NetM} {p bq bc : Nat} {lq lc : List ((Int × Int) × Value)} {eq ec : Array MapEntry} {kq kc : Nat} (h : NetAt w F m p bq bc lq lc eq ec kq kc) (a b : Int) (lost again : Bool)
    (hk : knowsB m.nodes a b = true) (hq : m.q (a, b) = []) :
    Calls Try.prog 12 #[.pointer (some ⟨p, 0, none⟩), .int .i64 a, .int .i64 b, .bool lost, .bool again] w (BelowRet w (.tuple #[.string ⟨#[]⟩, .bool false])) := by
  have HK := hide (knows_at (w1 := (dW w (some ⟨p, 0, none⟩) a b).drew) (hk ▸ h.kn a b) (dW_below _ _ _ _).drew)
  obtain ⟨A, c, hA, _, _⟩ := h.slice (a, b)
  obtain ⟨hd0, hd1, hd2, hp1, hlk⟩ := h.dfacts a b hA
  rw [hq] at hlk
  clear hA hq hk h
  go_enter_defers Try.func12, Try.ntmps12
  go_wp2
  change Code.wp _ _ _ _ (dW w _ a b)
  refine wp_region_lex (Below (w.heap.size + 2) (dW w (some ⟨p, 0, none⟩) a b)) (by kernel_rfl) (by kernel_rfl) (Below.refl _ _).drew ?_
  (repeat (first | (refine lex_skip (by rfl) ?_; try simp only [Act.put, List.setIfInBounds_toArray, List.set_cons_zero, List.set_cons_succ]) | (refine lex_read (v := ?_) (by rfl) ?_ ?_; rotate_left; (focus (intro w' hS'; go_simp; (try with_reducible rfl); done)); try simp only [Act.put, List.setIfInBounds_toArray, List.set_cons_zero, List.set_cons_succ])))
  refine lex_chain rfl (by rfl) (fun K hK => ?_)
  go_wp2_with (go_at_call 22; refine HK.out.mono ?_; rintro e w1 ⟨rfl, hb⟩)
  refine hK.out _ _ ?_ ?_
  · exact (Below.refl _ _).drew.trans (hb.mono (by simp [dW_size]))
  (repeat (first | (refine lex_skip (by rfl) ?_; try simp only [Act.put, List.setIfInBounds_toArray, List.set_cons_zero, List.set_cons_succ]) | (refine lex_read (v := ?_) (by rfl) ?_ ?_; rotate_left; (focus (intro w' hS'; go_simp; (try with_reducible rfl); done)); try simp only [Act.put, List.setIfInBounds_toArray, List.set_cons_zero, List.set_cons_succ])))
  refine lex_nil ?_
  go_wp2
  exact ⟨_, results_tmp2 rfl _ _ _, rfl, (dW_below w _ a b).drew.trans (hb.mono (by simp [dW_size]))⟩

set_option maxHeartbeats 400000 in
theorem deliver_lost {w : World} {F : Nat → Prop} {m : NetM} {p bq bc : Nat} {lq lc : List ((Int × Int) × Value)} {eq ec : Array MapEntry} {kq kc : Nat} (h : NetAt w F m p bq bc lq lc eq ec kq kc) (a b : Int) (again : Bool)
    (hk : knowsB m.nodes a b = true) (hq : 0 < (m.q (a, b)).length) :
    Calls Try.prog 12 #[.pointer (some ⟨p, 0, none⟩), .int .i64 a, .int .i64 b, .bool true, .bool again] w (NetPost w F p (.tuple #[.string ⟨#[]⟩, .bool false]) (popM m a b)) := by
  have HK := hide (knows_at (w1 := (dW w (some ⟨p, 0, none⟩) a b).drew) (hk ▸ h.kn a b) (dW_below _ _ _ _).drew)
  obtain ⟨A, c, hA, _, _⟩ := h.slice (a, b)
  obtain ⟨hd0, hd1, hd2, hp1, hlk⟩ := h.dfacts a b hA
  have H := hide h
  have hn : (((m.q (a, b)).length : Int) == 0) = false := by simp; rintro e; rw [e] at hq; simp at hq
  have HQ := hide hq
  clear hA hq hk h
  go_enter_defers Try.func12, Try.ntmps12
  go_wp2
  change Code.wp _ _ _ _ (dW w _ a b)
  refine wp_region_lex (Below (w.heap.size + 2) (dW w (some ⟨p, 0, none⟩) a b)) (by kernel_rfl) (by kernel_rfl) (Below.refl _ _).drew ?_
  (repeat (first | (refine lex_skip (by rfl) ?_; try simp only [Act.put, List.setIfInBounds_toArray, List.set_cons_zero, List.set_cons_succ]) | (refine lex_read (v := ?_) (by rfl) ?_ ?_; rotate_left; (focus (intro w' hS'; go_simp; (try with_reducible rfl); done)); try simp only [Act.put, List.setIfInBounds_toArray, List.set_cons_zero, List.set_cons_succ])))
  refine lex_chain rfl (by rfl) (fun K hK => ?_)
  go_wp2_with (go_at_call 22; refine HK.out.mono ?_; rintro e w1 ⟨rfl, hb⟩)
  refine hK.out _ _ ?_ ?_
  · exact (Below.refl _ _).drew.trans (hb.mono (by simp [dW_size]))
  (repeat (first | (refine lex_skip (by rfl) ?_; try simp only [Act.put, List.setIfInBounds_toArray, List.set_cons_zero, List.set_cons_succ]) | (refine lex_read (v := ?_) (by rfl) ?_ ?_; rotate_left; (focus (intro w' hS'; go_simp; (try with_reducible rfl); done)); try simp only [Act.put, List.setIfInBounds_toArray, List.set_cons_zero, List.set_cons_succ])))
  refine lex_nil ?_
  go_wp2
  have HB := hide ((dW_below w (some ⟨p, 0, none⟩) a b).drew.trans (hb.mono (by simp [dW_size])))
  refine leaves_cons (f := 23) (args := #[.pointer (some ⟨w.heap.size, 0, none⟩), .pointer (some ⟨w.heap.size + 1, 0, none⟩)]) (by simp) (by simp [go_sem]) ?_
  have hbw : Below (w.heap.size + 2) (dW w (some ⟨p, 0, none⟩) a b) w1 := (Below.refl _ _).drew.trans (hb.mono (by simp [dW_size]))
  refine (pop_any (H.out.below HB.out) a b _ _ (hd0 _ hbw) (hd1 _ hbw) (hd2 _ hbw) HQ.out).mono ?_
  rintro e u w2 ⟨rfl, rfl, hp⟩
  exact ⟨_, results_tmp2 rfl _ _ _, NetPost.before HB.out H.out.lt hp⟩

set_option maxHeartbeats 400000 in
theorem deliver_take {w : World} {F : Nat → Prop} {m : NetM} {p bq bc : Nat} {lq lc : List ((Int × Int) × Value)} {eq ec : Array MapEntry} {kq kc : Nat} (h : NetAt w F m p bq bc lq lc eq ec kq kc) (a b : Int) (again : Bool) {t : ByteArray} {l : List ByteArray}
    (hk : knowsB m.nodes a b = true) (hq : m.q (a, b) = t :: l) :
    Calls Try.prog 12 #[.pointer (some ⟨p, 0, none⟩), .int .i64 a, .int .i64 b, .bool false, .bool again] w (NetPost w F p (.tuple #[.string t, .bool true]) (if again then m else popM m a b)) := by
  have HK := hide (knows_at (w1 := (dW w (some ⟨p, 0, none⟩) a b).drew) (hk ▸ h.kn a b) (dW_below _ _ _ _).drew)
  obtain ⟨A, c, hA, hS, hF⟩ := h.slice (a, b)
  obtain ⟨hd0, hd1, hd2, hp1, hlk⟩ := h.dfacts a b hA
  have hl0 : 0 < (m.q (a, b)).length := by rw [hq]; simp
  obtain ⟨ad, rfl, hcell⟩ := hS.2.2 hl0
  obtain ⟨hFa, ho, hsp, _⟩ := hF ad rfl
  obtain ⟨g, off, spot⟩ := ad
  simp only at ho hsp hFa
  subst ho hsp
  have hlt := h.lt g hFa
  have h0 : ∀ w1, Below (w.heap.size + 2) (dW w (some ⟨p, 0, none⟩) a b) w1 → w1.cell? ⟨g, 0, none⟩ = some (.string t) := fun w1 h1 => by
    have hc := hcell 0 (.string t) (by rw [hq]; rfl)
    rw [Addr.add_zero_] at hc
    exact (((dW_below w _ a b).trans (h1.mono (by omega))).cell (p := ⟨g, 0, none⟩) hlt).trans hc
  have H := hide h
  have hn : (((m.q (a, b)).length : Int) == 0) = false := by simp; rintro e; rw [e] at hl0; simp at hl0
  have hn1 := hl0
  have HQ := hide hl0
  clear hA hq hk h hS hF hcell hl0
  cases again
  · go_enter_defers Try.func12, Try.ntmps12
    go_wp2
    change Code.wp _ _ _ _ (dW w _ a b)
    refine wp_region_lex (Below (w.heap.size + 2) (dW w (some ⟨p, 0, none⟩) a b)) (by kernel_rfl) (by kernel_rfl) (Below.refl _ _).drew ?_
    (repeat (first | (refine lex_skip (by rfl) ?_; try simp only [Act.put, List.setIfInBounds_toArray, List.set_cons_zero, List.set_cons_succ]) | (refine lex_read (v := ?_) (by rfl) ?_ ?_; rotate_left; (focus (intro w' hS'; go_simp; (try with_reducible rfl); done)); try simp only [Act.put, List.setIfInBounds_toArray, List.set_cons_zero, List.set_cons_succ])))
    refine lex_chain rfl (by rfl) (fun K hK => ?_)
    go_wp2_with (go_at_call 22; refine HK.out.mono ?_; rintro e w1 ⟨rfl, hb⟩)
    refine hK.out _ _ ?_ ?_
    · exact (Below.refl _ _).drew.trans (hb.mono (by simp [dW_size]))
    (repeat (first | (refine lex_skip (by rfl) ?_; try simp only [Act.put, List.setIfInBounds_toArray, List.set_cons_zero, List.set_cons_succ]) | (refine lex_read (v := ?_) (by rfl) ?_ ?_; rotate_left; (focus (intro w' hS'; go_simp; (try with_reducible rfl); done)); try simp only [Act.put, List.setIfInBounds_toArray, List.set_cons_zero, List.set_cons_succ])))
    refine lex_nil ?_
    have hbw : Below (w.heap.size + 2) (dW w (some ⟨p, 0, none⟩) a b) w1 := (Below.refl _ _).drew.trans (hb.mono (by simp [dW_size]))
    have HB := hide ((dW_below w (some ⟨p, 0, none⟩) a b).drew.trans (hb.mono (by simp [dW_size])))
    clear hb hK
    go_wp2
    refine wp_region_lex (Below (w.heap.size + 2) (dW w (some ⟨p, 0, none⟩) a b)) (by kernel_rfl) (by kernel_rfl) hbw.drew ?_
    (repeat (first | (refine lex_skip (by rfl) ?_; try simp only [Act.put, List.setIfInBounds_toArray, List.set_cons_zero, List.set_cons_succ]) | (refine lex_read (v := ?_) (by rfl) ?_ ?_; rotate_left; (focus (intro w' hS'; go_simp; (try with_reducible rfl); done)); try simp only [Act.put, List.setIfInBounds_toArray, List.set_cons_zero, List.set_cons_succ])))
    refine lex_nil ?_
    go_wp2
    refine leaves_cons (f := 23) (args := #[.pointer (some ⟨w.heap.size, 0, none⟩), .pointer (some ⟨w.heap.size + 1, 0, none⟩)]) (by simp) (by simp [go_sem]) ?_
    refine (pop_any (H.out.below HB.out.drew) a b _ _ (hd0 _ hbw.drew) (hd1 _ hbw.drew) (hd2 _ hbw.drew) HQ.out).mono ?_
    rintro e u w2 ⟨rfl, rfl, hp⟩
    exact ⟨_, results_tmp2 rfl _ _ _, NetPost.before HB.out.drew H.out.lt hp⟩
  · go_enter_defers Try.func12, Try.ntmps12
    go_wp2
    change Code.wp _ _ _ _ (dW w _ a b)
    refine wp_region_lex (Below (w.heap.size + 2) (dW w (some ⟨p, 0, none⟩) a b)) (by kernel_rfl) (by kernel_rfl) (Below.refl _ _).drew ?_
    (repeat (first | (refine lex_skip (by rfl) ?_; try simp only [Act.put, List.setIfInBounds_toArray, List.set_cons_zero, List.set_cons_succ]) | (refine lex_read (v := ?_) (by rfl) ?_ ?_; rotate_left; (focus (intro w' hS'; go_simp; (try with_reducible rfl); done)); try simp only [Act.put, List.setIfInBounds_toArray, List.set_cons_zero, List.set_cons_succ])))
    refine lex_chain rfl (by rfl) (fun K hK => ?_)
    go_wp2_with (go_at_call 22; refine HK.out.mono ?_; rintro e w1 ⟨rfl, hb⟩)
    refine hK.out _ _ ?_ ?_
    · exact (Below.refl _ _).drew.trans (hb.mono (by simp [dW_size]))
    (repeat (first | (refine lex_skip (by rfl) ?_; try simp only [Act.put, List.setIfInBounds_toArray, List.set_cons_zero, List.set_cons_succ]) | (refine lex_read (v := ?_) (by rfl) ?_ ?_; rotate_left; (focus (intro w' hS'; go_simp; (try with_reducible rfl); done)); try simp only [Act.put, List.setIfInBounds_toArray, List.set_cons_zero, List.set_cons_succ])))
    refine lex_nil ?_
    have hbw : Below (w.heap.size + 2) (dW w (some ⟨p, 0, none⟩) a b) w1 := (Below.refl _ _).drew.trans (hb.mono (by simp [dW_size]))
    have HB := hide ((dW_below w (some ⟨p, 0, none⟩) a b).drew.trans (hb.mono (by simp [dW_size])))
    clear hb hK
    go_wp2
    refine wp_region_lex (Below (w.heap.size + 2) (dW w (some ⟨p, 0, none⟩) a b)) (by kernel_rfl) (by kernel_rfl) hbw.drew ?_
    (repeat (first | (refine lex_skip (by rfl) ?_; try simp only [Act.put, List.setIfInBounds_toArray, List.set_cons_zero, List.set_cons_succ]) | (refine lex_read (v := ?_) (by rfl) ?_ ?_; rotate_left; (focus (intro w' hS'; go_simp; (try with_reducible rfl); done)); try simp only [Act.put, List.setIfInBounds_toArray, List.set_cons_zero, List.set_cons_succ])))
    refine lex_nil ?_
    go_wp2
    exact ⟨_, results_tmp2 rfl _ _ _, NetPost.of_below ⟨_, _, _, _, _, _, _, _, H.out⟩ ⟨rfl, HB.out.drew⟩⟩

def delE (m : NetM) (a b : Int) (lost : Bool) : ByteArray × Bool :=
  if knowsB m.nodes a b = true then match m.q (a, b) with
    | [] => (⟨#[]⟩, false)
    | t :: _ => if lost then (⟨#[]⟩, false) else (t, true)
  else (⟨#[]⟩, false)
def delM (m : NetM) (a b : Int) (lost again : Bool) : NetM :=
  if knowsB m.nodes a b = true ∧ m.q (a, b) ≠ [] ∧ (lost = true ∨ again = false) then popM m a b else m

theorem deliver_any {w : World} {F : Nat → Prop} {m : NetM} {p : Nat} (h : Net w F m p) (a b : Int) (lost again : Bool) :
    Calls Try.prog 12 #[.pointer (some ⟨p, 0, none⟩), .int .i64 a, .int .i64 b, .bool lost, .bool again] w (NetPost w F p (.tuple #[.string (delE m a b lost).1, .bool (delE m a b lost).2]) (delM m a b lost again)) := by
  have h0 := h
  obtain ⟨bq, bc, lq, lc, eq, ec, kq, kc, h⟩ := h
  cases hkb : knowsB m.nodes a b with
  | false =>
    simp only [delE, delM, hkb]
    exact (deliver_no _ a b lost again w (hkb ▸ h.kn a b)).mono fun e w' hb => .of_below h0 hb
  | true =>
    cases hq : m.q (a, b) with
    | nil =>
      simp only [delE, delM, hkb, hq]
      exact (deliver_empty h a b lost again hkb hq).mono fun e w' hb => .of_below h0 hb
    | cons t l =>
      cases lost with
      | true =>
        have := deliver_lost h a b again hkb (by rw [hq]; simp)
        simpa [delE, delM, hkb, hq] using this
      | false =>
        have := deliver_take h a b again hkb hq
        cases again <;> simpa [delE, delM, hkb, hq] using this
end Go.Proofs.Ytolpcjpnjicmkaa
