/-
  Net: turn, Cut, Heal.
-/
import Derived.Test.YtolpcjpnjicmkaaNet5
set_option linter.unusedSimpArgs false
set_option linter.unusedVariables false
namespace Go.Proofs.Ytolpcjpnjicmkaa
open Go.RowKit Go.CH
open Go.ChangeMaps (setBlock)

set_option maxHeartbeats 400000 in
theorem turn_no (pv : Value) (a b : Int) (x : Bool) (w : World) (hk : Kn w pv a b false) :
    Calls Try.prog 31 #[pv, .int .i64 a, .int .i64 b, .bool x] w (BelowRet w (.int .i64 1)) := by
  have H := hide hk; clear hk
  go_enter Try.func31, Try.ntmps31
  go_wp2_with (go_at_call 22; go_must (refine (knows_at H.out (Below.refl _ _)).mono ?_); rintro e w1 ⟨rfl, hb⟩)
  go_ret
  exact ⟨rfl, hb⟩

set_option maxHeartbeats 400000 in
theorem turn_state {w : World} {F : Nat → Prop} {m : NetM} {p bq bc : Nat} {lq lc : List ((Int × Int) × Value)} {eq ec : Array MapEntry} {kq kc : Nat} (h : NetAt w F m p bq bc lq lc eq ec kq kc) (a b : Int) (x : Bool)
    (hk : knowsB m.nodes a b = true) (hc : m.c (a, b) = x) :
    Calls Try.prog 31 #[.pointer (some ⟨p, 0, none⟩), .int .i64 a, .int .i64 b, .bool x] w (BelowRet w (.int .i64 12)) := by
  have H := hide h; have HK := hide hk; have HC := hide hc; clear hk hc h
  have hc2 : ∀ w1, Below w.heap.size w w1 → w1.cell? ⟨p, 2, none⟩ = some (.map (some bc)) := fun w1 hb => (H.out.below hb).cells.2.2
  have hlc : ∀ w1, Below w.heap.size w w1 → (Instr.lookup 54 (.map (some bc)) (.agg #[.int .i64 a, .int .i64 b]) false).run Try.prog w1 = .ok (.bool x) w1 := fun w1 hb => ((H.out.below hb).look_c a b 0).trans (by rw [HC.out]; rfl)
  cases x
  · go_enter Try.func31, Try.ntmps31
    go_wp2_with (go_at_call 22; go_must (refine (knows_at (HK.out ▸ H.out.kn a b) (Below.refl _ _)).mono ?_); rintro e w1 ⟨rfl, hb⟩)
    go_ret
    exact ⟨rfl, hb⟩
  · go_enter Try.func31, Try.ntmps31
    go_wp2_with (go_at_call 22; go_must (refine (knows_at (HK.out ▸ H.out.kn a b) (Below.refl _ _)).mono ?_); rintro e w1 ⟨rfl, hb⟩)
    go_ret
    exact ⟨rfl, hb⟩

/-- One way is cut or repaired. -/
def turn1 (m : NetM) (k : Int × Int) (x : Bool) : NetM := { m with c := upd m.c k x, q := if x then upd m.q k [] else m.q }
def turnK (m : NetM) (a b : Int) (x : Bool) : Nat → NetM
  | 0 => m
  | 1 => turn1 m (a, b) x
  | _ => turn1 (turn1 m (a, b) x) (b, a) x

def TRel (w : World) (F : Nat → Prop) (m : NetM) (p bq bc : Nat) (wr : World) : Prop := ∃ lq lc eq ec kq kc, NetAt wr F m p bq bc lq lc eq ec kq kc ∧ Mod F w wr

/-- What a round of turn reads. -/
theorem NetAt.tfacts {w : World} {F : Nat → Prop} {m : NetM} {p bq bc : Nat} {lq lc : List ((Int × Int) × Value)} {eq ec : Array MapEntry} {kq kc : Nat} (h : NetAt w F m p bq bc lq lc eq ec kq kc) (a b : Int) :
    ∀ w1, Mod (fun i => i = bq ∨ i = bc) (w.alloc (.cells #[.int .i64 a, .int .i64 b] 58)) w1 →
      w1.cell? ⟨p, 1, none⟩ = some (.map (some bq)) ∧ w1.cell? ⟨p, 2, none⟩ = some (.map (some bc)) ∧ w1.cell? ⟨w.heap.size, 0, none⟩ = some (.int .i64 a) ∧ w1.cell? ⟨w.heap.size, 1, none⟩ = some (.int .i64 b) := by
  intro w1 h1
  have hp := h.lt p h.Fp
  have hq := h.lt bq h.Fq
  have hc := h.lt bc h.Fc
  obtain ⟨n1, n2⟩ := h.ne_q
  have hpn : ¬ (p = bq ∨ p = bc) := fun e => e.elim n1 n2
  have hwn : ¬ (w.heap.size = bq ∨ w.heap.size = bc) := by omega
  refine ⟨(h1.cell (p := ⟨p, 1, none⟩) (by simp; omega) hpn).trans ?_, (h1.cell (p := ⟨p, 2, none⟩) (by simp; omega) hpn).trans ?_, (h1.cell (p := ⟨w.heap.size, 0, none⟩) (by simp) hwn).trans (by simp), (h1.cell (p := ⟨w.heap.size, 1, none⟩) (by simp) hwn).trans (by simp)⟩
  · rw [World.cell?_alloc_lt _ _ _ hp]; exact h.cells.2.1
  · rw [World.cell?_alloc_lt _ _ _ hp]; exact h.cells.2.2

set_option maxHeartbeats 1000000 in
theorem turn_cut {w : World} {F : Nat → Prop} {m : NetM} {p bq bc : Nat} {lq lc : List ((Int × Int) × Value)} {eq ec : Array MapEntry} {kq kc : Nat} (h : NetAt w F m p bq bc lq lc eq ec kq kc) (a b : Int)
    (hk : knowsB m.nodes a b = true) (hc : m.c (a, b) = false) :
    Calls Try.prog 31 #[.pointer (some ⟨p, 0, none⟩), .int .i64 a, .int .i64 b, .bool true] w (NetPost w F p (.int .i64 0) (turnK m a b true 2)) := by
  have H := hide h; have HK := hide hk; have HC := hide hc; clear hk hc h
  have i0 : ∀ w, (Instr.index 73 (.agg #[.int .i64 a, .int .i64 b, .int .i64 b, .int .i64 a]) (.int .i64 0)).run Try.prog w = .ok (.agg #[.int .i64 a, .int .i64 b]) w := fun _ => by kernel_rfl
  have i1 : ∀ w, (Instr.index 73 (.agg #[.int .i64 a, .int .i64 b, .int .i64 b, .int .i64 a]) (.int .i64 1)).run Try.prog w = .ok (.agg #[.int .i64 b, .int .i64 a]) w := fun _ => by kernel_rfl
  have hc2 : ∀ w1, Below w.heap.size w w1 → w1.cell? ⟨p, 2, none⟩ = some (.map (some bc)) := fun w1 hb => (H.out.below hb).cells.2.2
  have hlc : ∀ w1, Below w.heap.size w w1 → (Instr.lookup 54 (.map (some bc)) (.agg #[.int .i64 a, .int .i64 b]) false).run Try.prog w1 = .ok (.bool false) w1 := fun w1 hb => ((H.out.below hb).look_c a b 0).trans (by rw [HC.out]; rfl)
  go_enter Try.func31, Try.ntmps31
  go_wp2_with (go_at_call 22; go_must (refine (knows_at (HK.out ▸ H.out.kn a b) (Below.refl _ _)).mono ?_); rintro e w1 ⟨rfl, hb⟩)
  have HB := hide hb
  have HN := hide (H.out.below HB.out)
  clear hb hc2 hlc
  go_loopw [34] (fun i wr => ∃ k : Nat, k ≤ 2 ∧ i = .int .i64 k ∧ TRel w F (turnK m a b true k) p bq bc wr) (fun i _ => 2 - (intOf i).toNat)
  case atStart => exact ⟨0, by omega, rfl, _, _, _, _, _, _, HN.out, Mod.of_below HB.out⟩
  case round =>
    obtain ⟨k, hk, rfl, hT⟩ := hrel
    obtain ⟨lq1, lc1, eq1, ec1, kq1, kc1, hN, hM⟩ := hT
    have HN1 := hide hN; have HM := hide hM; clear hN hM
    match k, hk with
    | 0, _ =>
      have hT := HN1.out.tfacts a b
      have t1 := fun w1 h => (hT w1 h).1
      have t2 := fun w1 h => (hT w1 h).2.1
      have t3 := fun w1 h => (hT w1 h).2.2.1
      have t4 := fun w1 h => (hT w1 h).2.2.2
      clear hT
      have HA := hide (HN1.out.below (w' := (wr.alloc (.cells #[.int .i64 a, .int .i64 b] 58)).drew) (below_alloc _ _).drew)
      obtain ⟨es2, clk2, hen, hmu⟩ := run_mapUpdate (P := Try.prog) keyOk Try.underlying54 HN1.out.hc bc (a, b) (.bool true)
      have hmu1 := hmu (wr.alloc (.cells #[.int .i64 a, .int .i64 b] 58)).drew HA.out.mc
      simp only [pairV] at hmu1
      have HM2 := hide (HA.out.set_c (a, b) true hen)
      clear hmu hen
      go_wp2
      refine wp_region_lex (Mod (fun i => i = bq ∨ i = bc) (wr.alloc (.cells #[.int .i64 a, .int .i64 b] 58))) (by kernel_rfl) (by kernel_rfl) (Mod.refl _ _).drew ?_
      (repeat (first | (refine lex_skip (by rfl) ?_; try simp only [Act.put, List.setIfInBounds_toArray, List.set_cons_zero, List.set_cons_succ]) | (refine lex_read (v := ?_) (by rfl) ?_ ?_; rotate_left; (focus (intro w' hS'; go_simp; (try with_reducible rfl); done)); try simp only [Act.put, List.setIfInBounds_toArray, List.set_cons_zero, List.set_cons_succ])))
      refine lex_chain rfl (by rfl) (fun K hK => ?_)
      go_wp2_with fail
      refine hK.out _ _ ?_ ?_
      · exact (Mod.refl _ _).drew.setBlock _ (fun _ => .inr rfl)
      (repeat (first | (refine lex_skip (by rfl) ?_; try simp only [Act.put, List.setIfInBounds_toArray, List.set_cons_zero, List.set_cons_succ]) | (refine lex_read (v := ?_) (by rfl) ?_ ?_; rotate_left; (focus (intro w' hS'; go_simp; (try with_reducible rfl); done)); try simp only [Act.put, List.setIfInBounds_toArray, List.set_cons_zero, List.set_cons_succ])))
      refine lex_nil ?_
      clear hmu1
      have HB3 := hide (HM2.out.mod (G := fun _ => False) (Mod.refl _ _).drew (fun _ _ h => h))
      obtain ⟨es3, clk3, hen3, hmu3⟩ := run_mapUpdate (P := Try.prog) keyOk Try.underlying53 HB3.out.hq bq (a, b) nilS
      have hmu4 := hmu3 _ HB3.out.mq
      simp only [pairV, nilS] at hmu4
      have HM4 := hide (HB3.out.set_q (F2 := F) (a, b) (l := []) (by simp) (World.ownsRow_nil _ _ _ _) (Mod.refl _ _) (fun g hg => by simp [Value.ownBlock] at hg) (fun _ h => h) (fun g hg => by simp [Value.ownBlock] at hg) HB3.out.lt hen3)
      clear hmu3 hen3
      go_wp2
      refine wp_region_lex (Mod (fun i => i = bq ∨ i = bc) (wr.alloc (.cells #[.int .i64 a, .int .i64 b] 58))) (by kernel_rfl) (by kernel_rfl) ((Mod.refl _ _).drew.setBlock _ (fun _ => .inr rfl)).drew ?_
      (repeat (first | (refine lex_skip (by rfl) ?_; try simp only [Act.put, List.setIfInBounds_toArray, List.set_cons_zero, List.set_cons_succ]) | (refine lex_read (v := ?_) (by rfl) ?_ ?_; rotate_left; (focus (intro w' hS'; go_simp; (try with_reducible rfl); done)); try simp only [Act.put, List.setIfInBounds_toArray, List.set_cons_zero, List.set_cons_succ])))
      refine lex_chain rfl (by rfl) (fun K hK => ?_)
      go_wp2_with fail
      refine hK.out _ _ ?_ ?_
      · exact ((Mod.refl _ _).drew.setBlock _ (fun _ => .inr rfl)).drew.setBlock _ (fun _ => .inl rfl)
      (repeat (first | (refine lex_skip (by rfl) ?_; try simp only [Act.put, List.setIfInBounds_toArray, List.set_cons_zero, List.set_cons_succ]) | (refine lex_read (v := ?_) (by rfl) ?_ ?_; rotate_left; (focus (intro w' hS'; go_simp; (try with_reducible rfl); done)); try simp only [Act.put, List.setIfInBounds_toArray, List.set_cons_zero, List.set_cons_succ])))
      refine lex_nil ?_
      clear hmu4
      go_wp2
      go_roundw
      case rel =>
        refine ⟨0 + 1, by omega, by go_num, _, _, _, _, _, _, HM4.out, ?_⟩
        exact ((((HM.out.alloc _).drew.setBlock _ (fun _ => HN1.out.Fc)).drew.setBlock _ (fun _ => HN1.out.Fq)))
      case measure => simp [intOf]
    | 1, _ =>
      have hT := HN1.out.tfacts b a
      have t1 := fun w1 h => (hT w1 h).1
      have t2 := fun w1 h => (hT w1 h).2.1
      have t3 := fun w1 h => (hT w1 h).2.2.1
      have t4 := fun w1 h => (hT w1 h).2.2.2
      clear hT
      have HA := hide (HN1.out.below (w' := (wr.alloc (.cells #[.int .i64 b, .int .i64 a] 58)).drew) (below_alloc _ _).drew)
      obtain ⟨es2, clk2, hen, hmu⟩ := run_mapUpdate (P := Try.prog) keyOk Try.underlying54 HN1.out.hc bc (b, a) (.bool true)
      have hmu1 := hmu (wr.alloc (.cells #[.int .i64 b, .int .i64 a] 58)).drew HA.out.mc
      simp only [pairV] at hmu1
      have HM2 := hide (HA.out.set_c (b, a) true hen)
      clear hmu hen
      go_wp2
      refine wp_region_lex (Mod (fun i => i = bq ∨ i = bc) (wr.alloc (.cells #[.int .i64 b, .int .i64 a] 58))) (by kernel_rfl) (by kernel_rfl) (Mod.refl _ _).drew ?_
      (repeat (first | (refine lex_skip (by rfl) ?_; try simp only [Act.put, List.setIfInBounds_toArray, List.set_cons_zero, List.set_cons_succ]) | (refine lex_read (v := ?_) (by rfl) ?_ ?_; rotate_left; (focus (intro w' hS'; go_simp; (try with_reducible rfl); done)); try simp only [Act.put, List.setIfInBounds_toArray, List.set_cons_zero, List.set_cons_succ])))
      refine lex_chain rfl (by rfl) (fun K hK => ?_)
      go_wp2_with fail
      refine hK.out _ _ ?_ ?_
      · exact (Mod.refl _ _).drew.setBlock _ (fun _ => .inr rfl)
      (repeat (first | (refine lex_skip (by rfl) ?_; try simp only [Act.put, List.setIfInBounds_toArray, List.set_cons_zero, List.set_cons_succ]) | (refine lex_read (v := ?_) (by rfl) ?_ ?_; rotate_left; (focus (intro w' hS'; go_simp; (try with_reducible rfl); done)); try simp only [Act.put, List.setIfInBounds_toArray, List.set_cons_zero, List.set_cons_succ])))
      refine lex_nil ?_
      clear hmu1
      have HB3 := hide (HM2.out.mod (G := fun _ => False) (Mod.refl _ _).drew (fun _ _ h => h))
      obtain ⟨es3, clk3, hen3, hmu3⟩ := run_mapUpdate (P := Try.prog) keyOk Try.underlying53 HB3.out.hq bq (b, a) nilS
      have hmu4 := hmu3 _ HB3.out.mq
      simp only [pairV, nilS] at hmu4
      have HM4 := hide (HB3.out.set_q (F2 := F) (b, a) (l := []) (by simp) (World.ownsRow_nil _ _ _ _) (Mod.refl _ _) (fun g hg => by simp [Value.ownBlock] at hg) (fun _ h => h) (fun g hg => by simp [Value.ownBlock] at hg) HB3.out.lt hen3)
      clear hmu3 hen3
      go_wp2
      refine wp_region_lex (Mod (fun i => i = bq ∨ i = bc) (wr.alloc (.cells #[.int .i64 b, .int .i64 a] 58))) (by kernel_rfl) (by kernel_rfl) ((Mod.refl _ _).drew.setBlock _ (fun _ => .inr rfl)).drew ?_
      (repeat (first | (refine lex_skip (by rfl) ?_; try simp only [Act.put, List.setIfInBounds_toArray, List.set_cons_zero, List.set_cons_succ]) | (refine lex_read (v := ?_) (by rfl) ?_ ?_; rotate_left; (focus (intro w' hS'; go_simp; (try with_reducible rfl); done)); try simp only [Act.put, List.setIfInBounds_toArray, List.set_cons_zero, List.set_cons_succ])))
      refine lex_chain rfl (by rfl) (fun K hK => ?_)
      go_wp2_with fail
      refine hK.out _ _ ?_ ?_
      · exact ((Mod.refl _ _).drew.setBlock _ (fun _ => .inr rfl)).drew.setBlock _ (fun _ => .inl rfl)
      (repeat (first | (refine lex_skip (by rfl) ?_; try simp only [Act.put, List.setIfInBounds_toArray, List.set_cons_zero, List.set_cons_succ]) | (refine lex_read (v := ?_) (by rfl) ?_ ?_; rotate_left; (focus (intro w' hS'; go_simp; (try with_reducible rfl); done)); try simp only [Act.put, List.setIfInBounds_toArray, List.set_cons_zero, List.set_cons_succ])))
      refine lex_nil ?_
      clear hmu4
      go_wp2
      go_roundw
      case rel =>
        refine ⟨1 + 1, by omega, by go_num, _, _, _, _, _, _, HM4.out, ?_⟩
        exact ((((HM.out.alloc _).drew.setBlock _ (fun _ => HN1.out.Fc)).drew.setBlock _ (fun _ => HN1.out.Fq)))
      case measure => simp [intOf]
    | 2, _ =>
      go_wp2
      go_ret
      exact ⟨rfl, F, ⟨_, _, _, _, _, _, _, _, HN1.out⟩, HM.out, fun i hi => .inl hi⟩

set_option maxHeartbeats 1000000 in
theorem turn_heal {w : World} {F : Nat → Prop} {m : NetM} {p bq bc : Nat} {lq lc : List ((Int × Int) × Value)} {eq ec : Array MapEntry} {kq kc : Nat} (h : NetAt w F m p bq bc lq lc eq ec kq kc) (a b : Int)
    (hk : knowsB m.nodes a b = true) (hc : m.c (a, b) = true) :
    Calls Try.prog 31 #[.pointer (some ⟨p, 0, none⟩), .int .i64 a, .int .i64 b, .bool false] w (NetPost w F p (.int .i64 0) (turnK m a b false 2)) := by
  have H := hide h; have HK := hide hk; have HC := hide hc; clear hk hc h
  have i0 : ∀ w, (Instr.index 73 (.agg #[.int .i64 a, .int .i64 b, .int .i64 b, .int .i64 a]) (.int .i64 0)).run Try.prog w = .ok (.agg #[.int .i64 a, .int .i64 b]) w := fun _ => by kernel_rfl
  have i1 : ∀ w, (Instr.index 73 (.agg #[.int .i64 a, .int .i64 b, .int .i64 b, .int .i64 a]) (.int .i64 1)).run Try.prog w = .ok (.agg #[.int .i64 b, .int .i64 a]) w := fun _ => by kernel_rfl
  have hc2 : ∀ w1, Below w.heap.size w w1 → w1.cell? ⟨p, 2, none⟩ = some (.map (some bc)) := fun w1 hb => (H.out.below hb).cells.2.2
  have hlc : ∀ w1, Below w.heap.size w w1 → (Instr.lookup 54 (.map (some bc)) (.agg #[.int .i64 a, .int .i64 b]) false).run Try.prog w1 = .ok (.bool true) w1 := fun w1 hb => ((H.out.below hb).look_c a b 0).trans (by rw [HC.out]; rfl)
  go_enter Try.func31, Try.ntmps31
  go_wp2_with (go_at_call 22; go_must (refine (knows_at (HK.out ▸ H.out.kn a b) (Below.refl _ _)).mono ?_); rintro e w1 ⟨rfl, hb⟩)
  have HB := hide hb
  have HN := hide (H.out.below HB.out)
  clear hb hc2 hlc
  go_loopw [34] (fun i wr => ∃ k : Nat, k ≤ 2 ∧ i = .int .i64 k ∧ TRel w F (turnK m a b false k) p bq bc wr) (fun i _ => 2 - (intOf i).toNat)
  case atStart => exact ⟨0, by omega, rfl, _, _, _, _, _, _, HN.out, Mod.of_below HB.out⟩
  case round =>
    obtain ⟨k, hk, rfl, hT⟩ := hrel
    obtain ⟨lq1, lc1, eq1, ec1, kq1, kc1, hN, hM⟩ := hT
    have HN1 := hide hN; have HM := hide hM; clear hN hM
    match k, hk with
    | 0, _ =>
      have hT := HN1.out.tfacts a b
      have t1 := fun w1 h => (hT w1 h).1
      have t2 := fun w1 h => (hT w1 h).2.1
      have t3 := fun w1 h => (hT w1 h).2.2.1
      have t4 := fun w1 h => (hT w1 h).2.2.2
      clear hT
      have HA := hide (HN1.out.below (w' := (wr.alloc (.cells #[.int .i64 a, .int .i64 b] 58)).drew) (below_alloc _ _).drew)
      obtain ⟨es2, clk2, hen, hmu⟩ := run_mapUpdate (P := Try.prog) keyOk Try.underlying54 HN1.out.hc bc (a, b) (.bool false)
      have hmu1 := hmu (wr.alloc (.cells #[.int .i64 a, .int .i64 b] 58)).drew HA.out.mc
      simp only [pairV] at hmu1
      have HM2 := hide (HA.out.set_c (a, b) false hen)
      clear hmu hen
      go_wp2
      refine wp_region_lex (Mod (fun i => i = bq ∨ i = bc) (wr.alloc (.cells #[.int .i64 a, .int .i64 b] 58))) (by kernel_rfl) (by kernel_rfl) (Mod.refl _ _).drew ?_
      (repeat (first | (refine lex_skip (by rfl) ?_; try simp only [Act.put, List.setIfInBounds_toArray, List.set_cons_zero, List.set_cons_succ]) | (refine lex_read (v := ?_) (by rfl) ?_ ?_; rotate_left; (focus (intro w' hS'; go_simp; (try with_reducible rfl); done)); try simp only [Act.put, List.setIfInBounds_toArray, List.set_cons_zero, List.set_cons_succ])))
      refine lex_chain rfl (by rfl) (fun K hK => ?_)
      go_wp2_with fail
      refine hK.out _ _ ?_ ?_
      · exact (Mod.refl _ _).drew.setBlock _ (fun _ => .inr rfl)
      (repeat (first | (refine lex_skip (by rfl) ?_; try simp only [Act.put, List.setIfInBounds_toArray, List.set_cons_zero, List.set_cons_succ]) | (refine lex_read (v := ?_) (by rfl) ?_ ?_; rotate_left; (focus (intro w' hS'; go_simp; (try with_reducible rfl); done)); try simp only [Act.put, List.setIfInBounds_toArray, List.set_cons_zero, List.set_cons_succ])))
      refine lex_nil ?_
      clear hmu1
      go_wp2
      go_roundw
      case rel =>
        refine ⟨0 + 1, by omega, by go_num, _, _, _, _, _, _, HM2.out, ?_⟩
        exact (HM.out.alloc _).drew.setBlock _ (fun _ => HN1.out.Fc)
      case measure => simp [intOf]
    | 1, _ =>
      have hT := HN1.out.tfacts b a
      have t1 := fun w1 h => (hT w1 h).1
      have t2 := fun w1 h => (hT w1 h).2.1
      have t3 := fun w1 h => (hT w1 h).2.2.1
      have t4 := fun w1 h => (hT w1 h).2.2.2
      clear hT
      have HA := hide (HN1.out.below (w' := (wr.alloc (.cells #[.int .i64 b, .int .i64 a] 58)).drew) (below_alloc _ _).drew)
      obtain ⟨es2, clk2, hen, hmu⟩ := run_mapUpdate (P := Try.prog) keyOk Try.underlying54 HN1.out.hc bc (b, a) (.bool false)
      have hmu1 := hmu (wr.alloc (.cells #[.int .i64 b, .int .i64 a] 58)).drew HA.out.mc
      simp only [pairV] at hmu1
      have HM2 := hide (HA.out.set_c (b, a) false hen)
      clear hmu hen
      go_wp2
      refine wp_region_lex (Mod (fun i => i = bq ∨ i = bc) (wr.alloc (.cells #[.int .i64 b, .int .i64 a] 58))) (by kernel_rfl) (by kernel_rfl) (Mod.refl _ _).drew ?_
      (repeat (first | (refine lex_skip (by rfl) ?_; try simp only [Act.put, List.setIfInBounds_toArray, List.set_cons_zero, List.set_cons_succ]) | (refine lex_read (v := ?_) (by rfl) ?_ ?_; rotate_left; (focus (intro w' hS'; go_simp; (try with_reducible rfl); done)); try simp only [Act.put, List.setIfInBounds_toArray, List.set_cons_zero, List.set_cons_succ])))
      refine lex_chain rfl (by rfl) (fun K hK => ?_)
      go_wp2_with fail
      refine hK.out _ _ ?_ ?_
      · exact (Mod.refl _ _).drew.setBlock _ (fun _ => .inr rfl)
      (repeat (first | (refine lex_skip (by rfl) ?_; try simp only [Act.put, List.setIfInBounds_toArray, List.set_cons_zero, List.set_cons_succ]) | (refine lex_read (v := ?_) (by rfl) ?_ ?_; rotate_left; (focus (intro w' hS'; go_simp; (try with_reducible rfl); done)); try simp only [Act.put, List.setIfInBounds_toArray, List.set_cons_zero, List.set_cons_succ])))
      refine lex_nil ?_
      clear hmu1
      go_wp2
      go_roundw
      case rel =>
        refine ⟨1 + 1, by omega, by go_num, _, _, _, _, _, _, HM2.out, ?_⟩
        exact (HM.out.alloc _).drew.setBlock _ (fun _ => HN1.out.Fc)
      case measure => simp [intOf]
    | 2, _ =>
      go_wp2
      go_ret
      exact ⟨rfl, F, ⟨_, _, _, _, _, _, _, _, HN1.out⟩, HM.out, fun i hi => .inl hi⟩

def turnE (m : NetM) (a b : Int) (x : Bool) : Int := if knowsB m.nodes a b = false then 1 else if m.c (a, b) = x then 12 else 0
def turnR (m : NetM) (a b : Int) (x : Bool) : NetM := if turnE m a b x = 0 then turnK m a b x 2 else m

theorem turn_any {w : World} {F : Nat → Prop} {m : NetM} {p : Nat} (h : Net w F m p) (a b : Int) (x : Bool) :
    Calls Try.prog 31 #[.pointer (some ⟨p, 0, none⟩), .int .i64 a, .int .i64 b, .bool x] w (NetPost w F p (.int .i64 (turnE m a b x)) (turnR m a b x)) := by
  have h0 := h
  obtain ⟨bq, bc, lq, lc, eq, ec, kq, kc, h⟩ := h
  cases hkb : knowsB m.nodes a b with
  | false =>
    have e : turnE m a b x = 1 := by simp [turnE, hkb]
    rw [turnR, e, if_neg (by decide)]
    exact (turn_no _ a b x w (hkb ▸ h.kn a b)).mono fun e w' hb => .of_below h0 hb
  | true =>
    by_cases hc : m.c (a, b) = x
    · have e : turnE m a b x = 12 := by simp [turnE, hkb, hc]
      rw [turnR, e, if_neg (by decide)]
      exact (turn_state h a b x hkb hc).mono fun e w' hb => .of_below h0 hb
    · have e : turnE m a b x = 0 := by simp [turnE, hkb, hc]
      rw [turnR, e, if_pos rfl]
      cases x with
      | true => exact turn_cut h a b hkb (by simpa using hc)
      | false => exact turn_heal h a b hkb (by simpa using hc)

set_option maxHeartbeats 400000 in
theorem cut_any {w : World} {F : Nat → Prop} {m : NetM} {p : Nat} (h : Net w F m p) (a b : Int) :
    Calls Try.prog 20 #[.pointer (some ⟨p, 0, none⟩), .int .i64 a, .int .i64 b] w (NetPost w F p (.int .i64 (turnE m a b true)) (turnR m a b true)) := by
  have H := hide (turn_any h a b true); clear h
  go_enter Try.func20, Try.ntmps20
  go_wp2_with (go_at_call 31; go_must (refine H.out.mono ?_); rintro e w1 ⟨rfl, hb⟩)
  go_ret
  exact ⟨rfl, hb⟩
set_option maxHeartbeats 400000 in
theorem heal_any {w : World} {F : Nat → Prop} {m : NetM} {p : Nat} (h : Net w F m p) (a b : Int) :
    Calls Try.prog 21 #[.pointer (some ⟨p, 0, none⟩), .int .i64 a, .int .i64 b] w (NetPost w F p (.int .i64 (turnE m a b false)) (turnR m a b false)) := by
  have H := hide (turn_any h a b false); clear h
  go_enter Try.func21, Try.ntmps21
  go_wp2_with (go_at_call 31; go_must (refine H.out.mono ?_); rintro e w1 ⟨rfl, hb⟩)
  go_ret
  exact ⟨rfl, hb⟩
set_option maxHeartbeats 400000 in
theorem cut_nil (a b : Int) (w : World) :
    Calls Try.prog 20 #[.pointer none, .int .i64 a, .int .i64 b] w (BelowRet w (.int .i64 1)) := by
  have H := hide (turn_no (.pointer none) a b true w (.inl ⟨rfl, rfl⟩))
  go_enter Try.func20, Try.ntmps20
  go_wp2_with (go_at_call 31; go_must (refine H.out.mono ?_); rintro e w1 ⟨rfl, hb⟩)
  go_ret
  exact ⟨rfl, hb⟩
set_option maxHeartbeats 400000 in
theorem heal_nil (a b : Int) (w : World) :
    Calls Try.prog 21 #[.pointer none, .int .i64 a, .int .i64 b] w (BelowRet w (.int .i64 1)) := by
  have H := hide (turn_no (.pointer none) a b false w (.inl ⟨rfl, rfl⟩))
  go_enter Try.func21, Try.ntmps21
  go_wp2_with (go_at_call 31; go_must (refine H.out.mono ?_); rintro e w1 ⟨rfl, hb⟩)
  go_ret
  exact ⟨rfl, hb⟩
end Go.Proofs.Ytolpcjpnjicmkaa
