/-
  Net: Waiting, Deliver.
-/
import Derived.Test.YtolpcjpnjicmkaaNet3
import Derived.Defers
set_option linter.unusedSimpArgs false
set_option linter.unusedVariables false
namespace Go.Proofs.Ytolpcjpnjicmkaa
open Go.RowKit Go.CH
open Go.ChangeMaps (setBlock)

def waitM (m : NetM) (a b : Int) : List ByteArray := if knowsB m.nodes a b = true then m.q (a, b) else []

def ListRet (w : World) (l : List ByteArray) (e : Ending) (w' : World) : Prop := ∃ v, e = .returned v ∧ w'.ownsRow w.heap.size 9 1 v l.length (strs l) ∧ Below w.heap.size w w'

set_option maxHeartbeats 400000 in
theorem waiting_no (pv : Value) (a b : Int) (w : World) (hk : Kn w pv a b false) :
    Calls Try.prog 14 #[pv, .int .i64 a, .int .i64 b] w (ListRet w []) := by
  have H := hide hk; clear hk
  go_enter Try.func14, Try.ntmps14
  go_wp2_with (go_at_call 22; go_must (refine (knows_at H.out (below_alloc _ _)).mono ?_); rintro e w1 ⟨rfl, hb⟩)
  go_ret
  exact ⟨_, rfl, World.ownsRow_nil _ _ _ _, below_way hb⟩

set_option maxHeartbeats 400000 in
theorem waiting_yes {w : World} {F : Nat → Prop} {m : NetM} {p bq bc : Nat} {lq lc : List ((Int × Int) × Value)} {eq ec : Array MapEntry} {kq kc : Nat} (h : NetAt w F m p bq bc lq lc eq ec kq kc) (a b : Int)
    (hk : knowsB m.nodes a b = true) :
    Calls Try.prog 14 #[.pointer (some ⟨p, 0, none⟩), .int .i64 a, .int .i64 b] w (ListRet w (m.q (a, b))) := by
  have H := hide h; have HK := hide hk; clear hk h
  have hp : p < w.heap.size := H.out.lt p H.out.Fp
  go_enter Try.func14, Try.ntmps14
  go_wp2_with (go_at_call 22; go_must (refine (knows_at (HK.out ▸ H.out.kn a b) (below_alloc _ _)).mono ?_); rintro e w1 ⟨rfl, hb⟩)
  have HB := hide (below_way hb)
  have hsz : w.heap.size < w1.heap.size := by have := hb.size; simp at this; omega
  have HN := hide (H.out.below HB.out)
  obtain ⟨-, hc1, hc2⟩ := HN.out.cells
  obtain ⟨hw0, hw1⟩ := way_cells hb
  obtain ⟨A, c, hA, hS, hFA⟩ := HN.out.slice (a, b)
  have hlq : (Instr.lookup 53 (.map (some bq)) (.agg #[.int .i64 a, .int .i64 b]) false).run Try.prog w1.drew = .ok (.slice A (m.q (a, b)).length c) w1.drew := (HN.out.look_q a b 1).trans (by rw [hA]; rfl)
  have HA := hide hA
  have HS := hide (clone_any A (m.q (a, b)).length c (strs (m.q (a, b))) w1.drew hS (fun ad e => HN.out.lt _ (hFA ad e).1) (by have := HN.out.inn.len (a, b); omega))
  have HP := hide (Nat.lt_trans hp hsz)
  clear hb hA hFA hS
  go_region_held3 (fun w' => w'.cell? ⟨p, 1, none⟩ = some (.map (some bq)) ∧ w'.cell? ⟨w.heap.size, 0, none⟩ = some (.int .i64 a) ∧ w'.cell? ⟨w.heap.size, 1, none⟩ = some (.int .i64 b)) (first | go_keep | exact ⟨by assumption, by assumption, by assumption⟩)
    (first | (go_at_call 24; refine HS.out.mono ?_; rintro e w2 ⟨v, rfl, hown, hb2⟩; have k1 := (hb2.cell (p := ⟨p, 1, none⟩) HP.out).trans hc1; have k2 := (hb2.cell (p := ⟨w.heap.size, 0, none⟩) hsz).trans hw0; have k3 := (hb2.cell (p := ⟨w.heap.size, 1, none⟩) hsz).trans hw1))
  go_wp2
  go_ret
  refine ⟨_, rfl, ?_, HB.out.drew.trans (hb2.mono (Nat.le_of_lt hsz))⟩
  have h := hown
  exact ⟨h.1, h.2.imp id (fun ⟨g, cap, cur, h1, h2, h3⟩ => ⟨g, cap, cur, h1, Nat.le_trans (Nat.le_of_lt hsz) h2, h3⟩)⟩

theorem waiting_any {w : World} {F : Nat → Prop} {m : NetM} {p : Nat} (h : Net w F m p) (a b : Int) :
    Calls Try.prog 14 #[.pointer (some ⟨p, 0, none⟩), .int .i64 a, .int .i64 b] w (ListRet w (waitM m a b)) := by
  obtain ⟨bq, bc, lq, lc, eq, ec, kq, kc, h⟩ := h
  cases hk : knowsB m.nodes a b with
  | false => simpa [waitM, hk] using waiting_no _ a b w (hk ▸ h.kn a b)
  | true => simpa [waitM, hk] using waiting_yes h a b hk

/-- What Deliver answers, and what it leaves. -/
def popM (m : NetM) (a b : Int) : NetM := { m with q := upd m.q (a, b) (m.q (a, b)).tail }

/-- What a Deliver leaves, behind the store of the new queue. -/
theorem pop_fin {w w2 : World} {F : Nat → Prop} {m : NetM} {p bq bc : Nat} {lq lc : List ((Int × Int) × Value)} {eq ec : Array MapEntry} {kq kc : Nat} {a b : Int} {B : Nat}
    (h : NetAt w F m p bq bc lq lc eq ec kq kc) (hb : Below w.heap.size w w2) (hB : B = w.heap.size) {v1 : Value}
    (hown : w2.ownsRow B 9 1 v1 (m.q (a, b)).tail.length (strs (m.q (a, b)).tail))
    {es2 : Array MapEntry} {clk2 : Nat} (he : Ents (pairV .i64) es2 clk2 (mput lq (a, b) v1)) :
    ∃ F', Net (setBlock w2 bq (.map es2 clk2)) F' (popM m a b) p ∧ Mod F w (setBlock w2 bq (.map es2 clk2)) ∧ ∀ i, F' i → F i ∨ (w.heap.size ≤ i ∧ i < (setBlock w2 bq (.map es2 clk2)).heap.size) := by
  subst hB
  have hge : ∀ g, v1.ownBlock = some g → w.heap.size ≤ g := fun g hg1 => (hown.lt g hg1).1
  have hl : (m.q (a, b)).tail.length ≤ 100 := by have := h.inn.len (a, b); simp; omega
  have hown' : w2.ownsRow 0 9 1 v1 (m.q (a, b)).tail.length (strs (m.q (a, b)).tail) :=
    ⟨hown.1, hown.2.imp id (fun ⟨g, cap, cur, h1, _, h3⟩ => ⟨g, cap, cur, h1, Nat.zero_le _, h3⟩)⟩
  have hN := h.set_q (F2 := fun i => F i ∨ (w.heap.size ≤ i ∧ i < w2.heap.size)) (a, b) hl hown' (Mod.of_below hb) (fun g hg1 => .inr (hge g hg1)) (fun _ h => .inl h) (fun g hg1 => .inr ⟨hge g hg1, ownsRow_lt hown hg1⟩) (fun i hi => by
      rcases hi with hi | hi
      · have := h.lt i hi; have := hb.size; omega
      · exact hi.2) he
  exact ⟨_, ⟨_, _, _, _, _, _, _, _, hN⟩, (Mod.of_below hb).setBlock _ (fun _ => h.Fq), fun i hi => by rw [size_setBlock]; exact hi⟩

set_option maxHeartbeats 1000000 in
theorem pop_any {w : World} {F : Nat → Prop} {m : NetM} {p bq bc : Nat} {lq lc : List ((Int × Int) × Value)} {eq ec : Array MapEntry} {kq kc : Nat} (h : NetAt w F m p bq bc lq lc eq ec kq kc) (a b : Int)
    (g1 g2 : Nat) (h1 : w.cell? ⟨g1, 0, none⟩ = some (.pointer (some ⟨p, 0, none⟩))) (h2 : w.cell? ⟨g2, 0, none⟩ = some (.int .i64 a)) (h3 : w.cell? ⟨g2, 1, none⟩ = some (.int .i64 b)) (hq : 0 < (m.q (a, b)).length) :
    CallsD Try.prog 23 #[.pointer (some ⟨g1, 0, none⟩), .pointer (some ⟨g2, 0, none⟩)] .returning w fun e u w' => u = .returning ∧ NetPost w F p (.tuple #[]) (popM m a b) e w' := by
  have H := hide h; clear h
  obtain ⟨-, hc1, hc2⟩ := H.out.cells
  obtain ⟨A, c, hA, hS, hFA⟩ := H.out.slice (a, b)
  have hlq : (Instr.lookup 53 (.map (some bq)) (.agg #[.int .i64 a, .int .i64 b]) false).run Try.prog w.drew = .ok (.slice A (m.q (a, b)).length c) w.drew := (H.out.look_q a b 1).trans (by rw [hA]; rfl)
  have hsl := fun w => run_slice_from strOk A (m.q (a, b)).length c 1 .i64 1 rfl hq w
  have hlc : (m.q (a, b)).length ≤ c := by
    obtain ⟨ad, e, _⟩ := hS.2.2 hq
    exact (hFA ad e).2.2.2
  have HC := hide (clone_any (cutA A c 1 1) ((m.q (a, b)).length - 1) (c - 1) (strs (m.q (a, b)).tail) w.drew (by
      have := hS.cut (k := 1) (c := c) hq hlc
      have e : (strs (m.q (a, b))).drop (1 * 1) = strs (m.q (a, b)).tail := by simp [strs, List.map_tail]
      rw [e] at this; exact this) (fun ad e => by
      obtain ⟨ad', e1, e2⟩ := cutA_block e
      rw [← e2]; exact H.out.lt _ (hFA ad' e1).1) (by have := H.out.inn.len (a, b); omega))
  have hk1 := World.block_lt_of_cell? w _ h1
  have hk2 := World.block_lt_of_cell? w _ h2
  have hk3 := H.out.lt p H.out.Fp
  have hk4 := H.out.lt bq H.out.Fq
  have ht : (m.q (a, b)).length - 1 = (m.q (a, b)).tail.length := by simp
  have HT := hide ht
  have HMQ := hide H.out.mq
  have n1 : g1 ≠ bq := by rintro rfl; have := h1; unfold World.cell? at this; simp [H.out.mq] at this
  have n2 : g2 ≠ bq := by rintro rfl; have := h2; unfold World.cell? at this; simp [H.out.mq] at this
  have n3 := H.out.ne_q.1
  clear hA hS hFA hlc hq ht
  simp only [] at hk1 hk2
  go_enter_d Try.func23, Try.ntmps23
  go_wp2
  go_region_held3 (fun w' => w'.cell? ⟨g1, 0, none⟩ = some (.pointer (some ⟨p, 0, none⟩)) ∧ w'.cell? ⟨g2, 0, none⟩ = some (.int .i64 a) ∧ w'.cell? ⟨g2, 1, none⟩ = some (.int .i64 b) ∧ w'.cell? ⟨p, 1, none⟩ = some (.map (some bq))) (first | go_keep | exact ⟨by assumption, by assumption, by assumption, by assumption⟩ | exact ⟨(cell_setBlock n1.symm).trans (by assumption), (cell_setBlock n2.symm).trans (by assumption), (cell_setBlock n2.symm).trans (by assumption), (cell_setBlock n3.symm).trans (by assumption)⟩)
    (first | (go_at_call 24; refine HC.out.mono ?_; rintro e w2 ⟨v, rfl, hown, hb2⟩; obtain ⟨es2, clk2, hen, hmu⟩ := run_mapUpdate (P := Try.prog) keyOk Try.underlying53 H.out.hq bq (a, b) v; have hmu2 := hmu w2 ((hb2.block bq hk4).trans HMQ.out); simp only [pairV] at hmu2; clear hmu; have k1 := (hb2.cell (p := ⟨g1, 0, none⟩) hk1).trans h1; have k2 := (hb2.cell (p := ⟨g2, 0, none⟩) hk2).trans h2; have k3 := (hb2.cell (p := ⟨g2, 1, none⟩) hk2).trans h3; have k4 := (hb2.cell (p := ⟨p, 1, none⟩) hk3).trans hc1; have HOW := hide hown; have HB2 := hide hb2; have HEN := hide hen; clear hown hb2 hen))
  go_wp2
  go_end0
  have e1 := HOW.out
  rw [HT.out] at e1
  obtain ⟨F', f1, f2, f3⟩ := pop_fin (w := w.drew) (H.out.mod (Mod.refl (fun _ => False) w).drew (fun _ _ h => h)) HB2.out rfl e1 HEN.out
  exact ⟨rfl, F', f1, ⟨f2.os, f2.tape, f2.output, f2.size, f2.block⟩, f3⟩
end Go.Proofs.Ytolpcjpnjicmkaa
