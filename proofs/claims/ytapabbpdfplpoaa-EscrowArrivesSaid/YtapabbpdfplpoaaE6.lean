/-
  Escrow: Give.
-/
import Derived.Test.YtapabbpdfplpoaaE5
set_option linter.unusedSimpArgs false
set_option linter.unusedVariables false
namespace Go.Proofs.Ytapabbpdfplpoaa
open Go.RowKit Go.CH Go.CH.Esc
open Go.ChangeMaps (setBlock)

theorem intsOk : SliceOk Try.prog 74 3 (.int .i64 0) 1 8 := ⟨Try.underlying74, by kernel_rfl, rfl, by decide⟩
/-- A line's cells as they are read. -/
theorem line_cells {F0 : Nat → Prop} {w0 W : World} {q : PrG} {gp : Nat} {l : LinS} {O : Own} (h : Run F0 w0 (LineQ q gp l O) W) :
    W.cell? ⟨gp, 0, none⟩ = some (.slice l.A (q.H.drop q.conf).length l.c) ∧ W.cell? ⟨gp, 1, none⟩ = some (.int .i64 q.H.length) ∧ W.cell? ⟨gp, 2, none⟩ = some (.int .i64 q.rc) ∧ W.cell? ⟨gp, 3, none⟩ = some (.slice l.B l.zs.length l.d) := by
  obtain ⟨F, hC⟩ := h.fst
  exact ⟨cell_at hC rfl, cell_at hC rfl, cell_at hC rfl, cell_at hC rfl⟩
theorem drop_snoc {α : Type} (l : List α) (k : Nat) (x : α) (h : k ≤ l.length) : (l ++ [x]).drop k = l.drop k ++ [x] := List.drop_append_of_le_length h
/-- A transfer has been appended: the line's two cells are written. -/
theorem give_run {F0 : Nat → Prop} {w0 W : World} {g : GM} {p : Nat} {s : EscP} {f t : Int} {k : Int} {l : LinS} {A : Option Addr} {c : Nat} {U : Int} (hp : g.pair f t = true) (hk : PrOk (g.pr (f, t)) (g.pr (t, f))) (hz : LineZ (g.pr (f, t)) l)
    (h : Run F0 w0 (star (RowO 3 1 (.slice A (((g.pr (f, t)).H.drop (g.pr (f, t)).conf).length + 1) c) (((g.pr (f, t)).H.drop (g.pr (f, t)).conf).length + 1) (ints ((g.pr (f, t)).H.drop (g.pr (f, t)).conf) ++ [.int .i64 k]))
      (star (CellO (s.gp (f, t)) #[.slice l.A ((g.pr (f, t)).H.drop (g.pr (f, t)).conf).length l.c, .int .i64 (g.pr (f, t)).H.length, .int .i64 (g.pr (f, t)).rc, .slice l.B l.zs.length l.d] 109)
        (star (ARow zcl zow 124 4 (.slice l.B l.zs.length l.d) l.zs) (EscQ g p s (f, t))))) W) :
    (W.frozen? ⟨s.gp (f, t), 0, none⟩ = false ∧ W.frozen? ⟨s.gp (f, t), 1, none⟩ = false) ∧
    Run F0 w0 (EscS (g.setP (f, t) { g.pr (f, t) with H := (g.pr (f, t)).H ++ [k] }) p s)
      ((W.setCell ⟨s.gp (f, t), 0, none⟩ (.slice A (((g.pr (f, t)).H.drop (g.pr (f, t)).conf).length + 1) c)).setCell ⟨s.gp (f, t), 1, none⟩ (.int .i64 ((g.pr (f, t)).H.length + 1))) := by
  have hc : (g.pr (f, t)).conf ≤ (g.pr (f, t)).H.length := Nat.le_trans hk.cr hk.rl
  have hd := drop_snoc _ _ k hc
  obtain ⟨F1, hC, -, bk⟩ := h.rot.take cell_ok (star_ok row_ok (star_ok (arow_ok zow_ok) escQ_ok))
  have z0 := cell_free hC 0
  have z1 := cell_free hC 1
  have S1 := bk _ _ (cell_set hC 0 (.slice A (((g.pr (f, t)).H.drop (g.pr (f, t)).conf).length + 1) c))
  obtain ⟨F2, hC2, -, bk2⟩ := S1.take cell_ok (star_ok row_ok (star_ok (arow_ok zow_ok) escQ_ok))
  have S2 := bk2 _ _ (cell_set hC2 1 (.int .i64 ((g.pr (f, t)).H.length + 1)))
  refine ⟨⟨z0, z1⟩, esc_back (l := { l with A := A, c := c }) (S2.imp fun w F h => ?_) ⟨hz.1, fun z hzz => ?_⟩ hp⟩
  · unfold LineQ
    simp only [hd]
    simpa [ints, hd] using h
  · rw [hz.2 z hzz]
    have hm : z.m ∈ (g.pr (f, t)).ms := by rw [← hz.1]; exact List.mem_map_of_mem hzz
    have := (hk.msg _ hm).2.2.1
    unfold msgT
    rw [List.take_append_of_le_length this]
theorem src_one (w : World) (k : Int) (e : TypeId) : Src (w.alloc (.cells #[.int .i64 k] e)) (some ⟨w.heap.size, 0, none⟩) 1 1 [.int .i64 k] := by
  refine ⟨rfl, fun u hu => by simp at hu; subst hu; rfl, fun _ => ⟨_, rfl, fun j u hu => ?_⟩⟩
  cases j with
  | zero =>
    simp at hu; subst hu
    obtain ⟨F', hC, -⟩ := cell_new w #[.int .i64 k] e
    exact cell_at hC (i := 0) rfl
  | succ j => simp at hu
set_option maxRecDepth 100000 in
set_option maxHeartbeats 1600000 in
theorem give_ok {w : World} {F : Nat → Prop} {g : GM} {p : Nat} (h : EscO g p w F) {U : Int} (hI : Inv g U) {f t : Nat} (hp : g.pair f t = true) (k : Int) (hk : 1 ≤ k) (hu : k ≤ (g.at_ f).u) (hl : (g.pr (f, t)).H.length ≤ 1000000) (hq : (g.pr (f, t)).H.length - (g.pr (f, t)).conf < 100) :
    Calls Try.prog 32 #[.pointer (some ⟨p, 0, none⟩), .int .i64 f, .int .i64 t, .int .i64 k] w (EPost w F (.int .i64 0) ((g.setA f { g.at_ f with u := (g.at_ f).u - k }).setP (f, t) { g.pr (f, t) with H := (g.pr (f, t)).H ++ [k] }) p) := by
  have hr := (pair_is hp).1
  have hfl := (is_lt hr).2
  have hB := Inv.bnd hI hr
  have hPr := hI.pr f t hp
  obtain ⟨s, hS⟩ := h
  have hR := hS.read
  obtain ⟨b, hb⟩ := hR.addr (by have := hI.nb; omega)
  have KL := hide (line_any hR f t)
  rw [lineV, if_pos hp] at KL
  have hc0 := hR.c0
  rw [hb] at hc0
  obtain ⟨cu, -, -⟩ := hR.accs b hb f hr
  obtain ⟨l0, -, hrun0⟩ := esc_line (Run.start hS) hp
  obtain ⟨q0, -, -, -⟩ := line_cells hrun0
  obtain ⟨hrun1, hz1⟩ := esc_acc (Run.start hS) hr hb 0 (by omega) (.int .i64 ((g.at_ f).u - k)) { g.at_ f with u := (g.at_ f).u - k } rfl
  have hp1 : (g.setA f { g.at_ f with u := (g.at_ f).u - k }).pair f t = true := by rw [setA_pair]; exact hp
  obtain ⟨l, hlz, hrun2⟩ := esc_line (hrun1.drew escS_ok) hp1
  rw [setA_pr] at hlz hrun2
  obtain ⟨d0, d1, -, -⟩ := line_cells hrun2
  simp only [Int.toNat_natCast, Nat.add_zero] at cu hrun2 hz1 d0 d1 hfl
  have R2 := hide hrun2
  have HL := hide hlz
  have HP := hide hPr
  have e1 : decide ((g.at_ f).u < k) = false := by simp; omega
  have e2 : decide (k < 1) = false := by simp; omega
  have t1 : IntKind.i64.wrap ((g.at_ f).u - k) = (g.at_ f).u - k := IntWalk.i64_in _ (by omega)
  have t2 : IntKind.i64.wrap (((g.pr (f, t)).H.length : Int) + 1) = ((g.pr (f, t)).H.length : Int) + 1 := IntWalk.i64_in _ (by omega)
  have e3 : decide ((100 : Int) ≤ ((g.pr (f, t)).H.drop (g.pr (f, t)).conf).length) = false := by simp; omega
  have e4 : ¬ ((100 : Int) ≤ ((g.pr (f, t)).H.drop (g.pr (f, t)).conf).length) := by simp; omega
  generalize (g.at_ f).u = u at *
  generalize hN : ((g.pr (f, t)).H.drop (g.pr (f, t)).conf).length = n at *
  generalize hM : (g.pr (f, t)).H.length = m at *
  have HN := hide hN
  have HM := hide hM
  clear hB hPr hS hR hrun0 hrun1 hrun2 hlz hI hq hN hM
  go_enter Try.func32, Try.ntmps32
  go_wp2_with fail
  refine KL.out.mono ?_
  rintro e w' ⟨rfl, rfl⟩
  go_wp2_with fail
  clear q0 hc0 cu hz1
  generalize w.setCell ⟨b, f * 3, none⟩ (.int .i64 (u - k)) = W at *
  refine wp_region_lew [7, 8, 16, 19] [2, 3, 1, 1, 1, 1, 0, 1, 2, 2, 2, 2, 2, 3, 2, 2, 3, 3, 3, 4]
    (fun w' => w'.cell? ⟨s.gp (f, t), 0, none⟩ = some (.slice l.A n l.c) ∧ w'.cell? ⟨s.gp (f, t), 1, none⟩ = some (.int .i64 m)) (fun w' => w'.cell? ⟨s.gp (f, t), 0, none⟩ = some (.slice l.A n l.c) ∧ w'.cell? ⟨s.gp (f, t), 1, none⟩ = some (.int .i64 m))
    (fun w' => w'.cell? ⟨s.gp (f, t), 1, none⟩ = some (.int .i64 m)) (fun _ => True) (fun _ h => h) (fun _ h => h.2) (fun _ _ => trivial) (by kernel_rfl) (by kernel_rfl) (by kernel_rfl) (by kernel_rfl) (by exact ⟨d0, d1⟩) ?_
  (repeat (first | (refine lew_skip (by rfl) (by rfl) ?_; try simp only [Act.put, List.setIfInBounds_toArray, List.set_cons_zero, List.set_cons_succ]) | (refine lew_read0 (v := ?_) (by rfl) (by rfl) ?_ ?_; rotate_left; (focus (intro w' hS'; go_simp; (try with_reducible rfl); done)); try simp only [Act.put, List.setIfInBounds_toArray, List.set_cons_zero, List.set_cons_succ]) | (refine lew_read1 (v := ?_) (by rfl) (by rfl) ?_ ?_; rotate_left; (focus (intro w' hS'; go_simp; (try with_reducible rfl); done)); try simp only [Act.put, List.setIfInBounds_toArray, List.set_cons_zero, List.set_cons_succ]) | (refine lew_read2 (v := ?_) (by rfl) (by rfl) ?_ ?_; rotate_left; (focus (intro w' hS'; go_simp; (try with_reducible rfl); done)); try simp only [Act.put, List.setIfInBounds_toArray, List.set_cons_zero, List.set_cons_succ]) | (refine lew_read3 (v := ?_) (by rfl) (by rfl) ?_ ?_; rotate_left; (focus (intro w' hS'; go_simp; (try with_reducible rfl); done)); try simp only [Act.put, List.setIfInBounds_toArray, List.set_cons_zero, List.set_cons_succ]) | (refine lew_read4 (v := ?_) (by rfl) (by rfl) ?_ ?_; rotate_left; (focus (intro w' hS'; go_simp; (try with_reducible rfl); done)); try simp only [Act.put, List.setIfInBounds_toArray, List.set_cons_zero, List.set_cons_succ])))
  refine lew_chain1 rfl (by rfl) (fun K hK => ?_)
  go_wp2_with fail
  have R3 := hide (show Run F w _ (W.alloc (.cells #[.int .i64 k] 3)).drew from R2.out.below (lineQ_ok escQ_ok) ((Below.refl _ _).alloc (Nat.le_refl _) (.cells #[.int .i64 k] 3)))
  obtain ⟨d2, d3, -, -⟩ := line_cells R3.out
  rw [HN.out] at d2
  rw [HM.out] at d3
  refine hK.out _ _ ⟨d2, d3⟩ ?_
  clear hK
  have HSR := hide (show Src (W.alloc (.cells #[.int .i64 k] 3)).drew (some ⟨W.heap.size, 0, none⟩) 1 1 [.int .i64 k] from src_one W.drew k 3)
  generalize (W.alloc (.cells #[.int .i64 k] 3)).drew = W1 at *
  (repeat (first | (refine lew_skip (by rfl) (by rfl) ?_; try simp only [Act.put, List.setIfInBounds_toArray, List.set_cons_zero, List.set_cons_succ]) | (refine lew_read0 (v := ?_) (by rfl) (by rfl) ?_ ?_; rotate_left; (focus (intro w' hS'; go_simp; (try with_reducible rfl); done)); try simp only [Act.put, List.setIfInBounds_toArray, List.set_cons_zero, List.set_cons_succ]) | (refine lew_read1 (v := ?_) (by rfl) (by rfl) ?_ ?_; rotate_left; (focus (intro w' hS'; go_simp; (try with_reducible rfl); done)); try simp only [Act.put, List.setIfInBounds_toArray, List.set_cons_zero, List.set_cons_succ]) | (refine lew_read2 (v := ?_) (by rfl) (by rfl) ?_ ?_; rotate_left; (focus (intro w' hS'; go_simp; (try with_reducible rfl); done)); try simp only [Act.put, List.setIfInBounds_toArray, List.set_cons_zero, List.set_cons_succ]) | (refine lew_read3 (v := ?_) (by rfl) (by rfl) ?_ ?_; rotate_left; (focus (intro w' hS'; go_simp; (try with_reducible rfl); done)); try simp only [Act.put, List.setIfInBounds_toArray, List.set_cons_zero, List.set_cons_succ]) | (refine lew_read4 (v := ?_) (by rfl) (by rfl) ?_ ?_; rotate_left; (focus (intro w' hS'; go_simp; (try with_reducible rfl); done)); try simp only [Act.put, List.setIfInBounds_toArray, List.set_cons_zero, List.set_cons_succ])))
  refine lew_chain2 rfl (by rfl) (fun K hK => ?_)
  obtain ⟨F3, hR3, -, hbk3⟩ := R3.out.rot.take row_ok (star_ok cell_ok (star_ok (arow_ok zow_ok) escQ_ok))
  rw [HN.out] at hR3
  refine wp_app (.tmp 56) (.tmp 58) rfl intsOk _ 0 (v := .slice l.A n l.c) (n := n) rfl hR3.1 (A := some ⟨W.heap.size, 0, none⟩) (m := 1) (c := 1) (news := [.int .i64 k]) rfl HSR.out (by omega) (by omega) (Nat.zero_le _) ?_
  intro v4 w4 ho4 hg4 hv4
  have S4 := hbk3 _ _ (row_app hR3 ho4 hg4 hv4)
  obtain ⟨A4, c4, rfl⟩ := own_form ho4
  obtain ⟨FC4, hC4⟩ := S4.rot.fst
  have d4 : w4.cell? ⟨s.gp (f, t), 1, none⟩ = some (.int .i64 m) := by rw [← HM.out]; exact cell_at hC4 rfl
  have d5 : w4.cell? ⟨s.gp (f, t), 0, none⟩ = some (.slice l.A n l.c) := by rw [← HN.out]; exact cell_at hC4 rfl
  have G := give_run (W := w4) (A := A4) (c := c4) (g := g.setA f { g.at_ f with u := u - k }) (U := U) hp1 HP.out HL.out (by have S5 := S4; rw [← HN.out] at S5; exact S5)
  simp only [setA_pr, HN.out, HM.out] at G
  obtain ⟨⟨z1, z2⟩, hfin⟩ := G
  have HFIN := hide hfin
  refine hK.out _ _ d4 ?_
  clear hK hR3 hbk3 hg4 ho4 hv4 S4 hC4 hfin
  (repeat (first | (refine lew_skip (by rfl) (by rfl) ?_; try simp only [Act.put, List.setIfInBounds_toArray, List.set_cons_zero, List.set_cons_succ]) | (refine lew_read0 (v := ?_) (by rfl) (by rfl) ?_ ?_; rotate_left; (focus (intro w' hS'; go_simp; (try with_reducible rfl); done)); try simp only [Act.put, List.setIfInBounds_toArray, List.set_cons_zero, List.set_cons_succ]) | (refine lew_read1 (v := ?_) (by rfl) (by rfl) ?_ ?_; rotate_left; (focus (intro w' hS'; go_simp; (try with_reducible rfl); done)); try simp only [Act.put, List.setIfInBounds_toArray, List.set_cons_zero, List.set_cons_succ]) | (refine lew_read2 (v := ?_) (by rfl) (by rfl) ?_ ?_; rotate_left; (focus (intro w' hS'; go_simp; (try with_reducible rfl); done)); try simp only [Act.put, List.setIfInBounds_toArray, List.set_cons_zero, List.set_cons_succ]) | (refine lew_read3 (v := ?_) (by rfl) (by rfl) ?_ ?_; rotate_left; (focus (intro w' hS'; go_simp; (try with_reducible rfl); done)); try simp only [Act.put, List.setIfInBounds_toArray, List.set_cons_zero, List.set_cons_succ]) | (refine lew_read4 (v := ?_) (by rfl) (by rfl) ?_ ?_; rotate_left; (focus (intro w' hS'; go_simp; (try with_reducible rfl); done)); try simp only [Act.put, List.setIfInBounds_toArray, List.set_cons_zero, List.set_cons_succ])))
  refine lew_chain3 rfl (by rfl) (fun K hK => ?_)
  go_wp2_with fail
  refine hK.out _ _ trivial ?_
  clear hK
  (repeat (first | (refine lew_skip (by rfl) (by rfl) ?_; try simp only [Act.put, List.setIfInBounds_toArray, List.set_cons_zero, List.set_cons_succ]) | (refine lew_read0 (v := ?_) (by rfl) (by rfl) ?_ ?_; rotate_left; (focus (intro w' hS'; go_simp; (try with_reducible rfl); done)); try simp only [Act.put, List.setIfInBounds_toArray, List.set_cons_zero, List.set_cons_succ]) | (refine lew_read1 (v := ?_) (by rfl) (by rfl) ?_ ?_; rotate_left; (focus (intro w' hS'; go_simp; (try with_reducible rfl); done)); try simp only [Act.put, List.setIfInBounds_toArray, List.set_cons_zero, List.set_cons_succ]) | (refine lew_read2 (v := ?_) (by rfl) (by rfl) ?_ ?_; rotate_left; (focus (intro w' hS'; go_simp; (try with_reducible rfl); done)); try simp only [Act.put, List.setIfInBounds_toArray, List.set_cons_zero, List.set_cons_succ]) | (refine lew_read3 (v := ?_) (by rfl) (by rfl) ?_ ?_; rotate_left; (focus (intro w' hS'; go_simp; (try with_reducible rfl); done)); try simp only [Act.put, List.setIfInBounds_toArray, List.set_cons_zero, List.set_cons_succ]) | (refine lew_read4 (v := ?_) (by rfl) (by rfl) ?_ ?_; rotate_left; (focus (intro w' hS'; go_simp; (try with_reducible rfl); done)); try simp only [Act.put, List.setIfInBounds_toArray, List.set_cons_zero, List.set_cons_succ])))
  refine lew_chain4 rfl (by rfl) (fun K hK => ?_)
  go_wp2_with fail
  refine hK.out _ _ trivial (lew_nil ?_)
  go_wp2
  go_ret
  obtain ⟨F', q1, q2, q3⟩ := HFIN.out.post escS_ok
  exact ⟨rfl, F', ⟨_, q1⟩, q2, q3⟩
end Go.Proofs.Ytapabbpdfplpoaa
