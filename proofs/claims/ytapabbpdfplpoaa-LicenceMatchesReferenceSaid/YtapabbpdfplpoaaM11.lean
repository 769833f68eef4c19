/-
  Escrow: Give.
  The reference of Licence: Left, add, Grant.
  The reference of Licence: Amend.
-/
import Derived.Test.YtapabbpdfplpoaaM10
import Derived.Test.YtapabbpdfplpoaaM7
import Derived.Test.YtapabbpdfplpoaaM8
set_option linter.unusedSimpArgs false
set_option linter.unusedVariables false
namespace Go.Proofs.Ytapabbpdfplpoaa
open Go.RowKit Go.CH Go.CH.Esc
open Go.ChangeMaps (setBlock)

theorem intsOk : SliceOk Try.prog 74 3 (.int .i64 0) 1 8 := ⟨Try.underlying74, by kernel_rfl, rfl, by decide⟩
/-- A line's cells as they are read. -/
theorem line_cells {F0 : Nat → Prop} {w0 W : World} {q : PrG} {gp : Nat} {l : LinS} {O : Own} (h : Run F0 w0 (LineQ q gp l O) W) :
    W.cell? ⟨gp, 0, none⟩ = some (.slice l.A (q.H.drop q.conf).length l.c) ∧ W.cell? ⟨gp, 1, none⟩ = some (.int .i64 q.H.length) ∧ W.cell? ⟨gp, 2, none⟩ = some (.int .i64 q.rc) ∧ W.cell? ⟨gp, 3, none⟩ = some (.slice l.B l.zs.length l.d) := by
  obtain ⟨F, hC⟩ := h.fst
  exact ⟨cell_at hC rfl, cell_at hC rfl, cell_at hC rfl, cell_at hC rfl⟩
theorem drop_snoc {α : Type} (l : List α) (k : Nat) (x : α) (h : k ≤ l.length) : (l ++ [x]).drop k = l.drop k ++ [x] := List.drop_append_of_le_length h
/-- A transfer has been appended: the line's two cells are written. -/
theorem give_run {F0 : Nat → Prop} {w0 W : World} {g : GM} {p : Nat} {s : EscP} {f t : Int} {k : Int} {l : LinS} {A : Option Addr} {c : Nat} {U : Int} (hp : g.pair f t = true) (hk : PrOk (g.pr (f, t)) (g.pr (t, f))) (hz : LineZ (g.pr (f, t)) l)
    (h : Run F0 w0 (star (RowO 3 1 (.slice A (((g.pr (f, t)).H.drop (g.pr (f, t)).conf).length + 1) c) (((g.pr (f, t)).H.drop (g.pr (f, t)).conf).length + 1) (ints ((g.pr (f, t)).H.drop (g.pr (f, t)).conf) ++ [.int .i64 k]))
      (star (CellO (s.gp (f, t)) #[.slice l.A ((g.pr (f, t)).H.drop (g.pr (f, t)).conf).length l.c, .int .i64 (g.pr (f, t)).H.length, .int .i64 (g.pr (f, t)).rc, .slice l.B l.zs.length l.d] 109)
        (star (ARow zcl zow 124 4 (.slice l.B l.zs.length l.d) l.zs) (EscQ g p s (f, t))))) W) :
    (W.frozen? ⟨s.gp (f, t), 0, none⟩ = false ∧ W.frozen? ⟨s.gp (f, t), 1, none⟩ = false) ∧
    Run F0 w0 (EscS (g.setP (f, t) { g.pr (f, t) with H := (g.pr (f, t)).H ++ [k] }) p s)
      ((W.setCell ⟨s.gp (f, t), 0, none⟩ (.slice A (((g.pr (f, t)).H.drop (g.pr (f, t)).conf).length + 1) c)).setCell ⟨s.gp (f, t), 1, none⟩ (.int .i64 ((g.pr (f, t)).H.length + 1))) := by
  have hc : (g.pr (f, t)).conf ≤ (g.pr (f, t)).H.length := Nat.le_trans hk.cr hk.rl
  have hd := drop_snoc _ _ k hc
  obtain ⟨F1, hC, -, bk⟩ := h.rot.take cell_ok (star_ok row_ok (star_ok (arow_ok zow_ok) escQ_ok))
  have z0 := cell_free hC 0
  have z1 := cell_free hC 1
  have S1 := bk _ _ (cell_set hC 0 (.slice A (((g.pr (f, t)).H.drop (g.pr (f, t)).conf).length + 1) c))
  obtain ⟨F2, hC2, -, bk2⟩ := S1.take cell_ok (star_ok row_ok (star_ok (arow_ok zow_ok) escQ_ok))
  have S2 := bk2 _ _ (cell_set hC2 1 (.int .i64 ((g.pr (f, t)).H.length + 1)))
  refine ⟨⟨z0, z1⟩, esc_back (l := { l with A := A, c := c }) (S2.imp fun w F h => ?_) ⟨hz.1, fun z hzz => ?_⟩ hp⟩
  · unfold LineQ
    simp only [hd]
    simpa [ints, hd] using h
  · rw [hz.2 z hzz]
    have hm : z.m ∈ (g.pr (f, t)).ms := by rw [← hz.1]; exact List.mem_map_of_mem hzz
    have := (hk.msg _ hm).2.2.1
    unfold msgT
    rw [List.take_append_of_le_length this]
theorem src_one (w : World) (k : Int) (e : TypeId) : Src (w.alloc (.cells #[.int .i64 k] e)) (some ⟨w.heap.size, 0, none⟩) 1 1 [.int .i64 k] := by
  refine ⟨rfl, fun u hu => by simp at hu; subst hu; rfl, fun _ => ⟨_, rfl, fun j u hu => ?_⟩⟩
  cases j with
  | zero =>
    simp at hu; subst hu
    obtain ⟨F', hC, -⟩ := cell_new w #[.int .i64 k] e
    exact cell_at hC (i := 0) rfl
  | succ j => simp at hu
set_option maxRecDepth 100000 in
set_option maxHeartbeats 1600000 in
theorem give_ok {w : World} {F : Nat → Prop} {g : GM} {p : Nat} (h : EscO g p w F) {U : Int} (hI : Inv g U) {f t : Nat} (hp : g.pair f t = true) (k : Int) (hk : 1 ≤ k) (hu : k ≤ (g.at_ f).u) (hl : (g.pr (f, t)).H.length ≤ 1000000) (hq : (g.pr (f, t)).H.length - (g.pr (f, t)).conf < 100) :
    Calls Try.prog 32 #[.pointer (some ⟨p, 0, none⟩), .int .i64 f, .int .i64 t, .int .i64 k] w (EPost w F (.int .i64 0) ((g.setA f { g.at_ f with u := (g.at_ f).u - k }).setP (f, t) { g.pr (f, t) with H := (g.pr (f, t)).H ++ [k] }) p) := by
  have hr := (pair_is hp).1
  have hfl := (is_lt hr).2
  have hB := Inv.bnd hI hr
  have hPr := hI.pr f t hp
  obtain ⟨s, hS⟩ := h
  have hR := hS.read
  obtain ⟨b, hb⟩ := hR.addr (by have := hI.nb; omega)
  have KL := hide (line_any hR f t)
  rw [lineV, if_pos hp] at KL
  have hc0 := hR.c0
  rw [hb] at hc0
  obtain ⟨cu, -, -⟩ := hR.accs b hb f hr
  obtain ⟨l0, -, hrun0⟩ := esc_line (Run.start hS) hp
  obtain ⟨q0, -, -, -⟩ := line_cells hrun0
  obtain ⟨hrun1, hz1⟩ := esc_acc (Run.start hS) hr hb 0 (by omega) (.int .i64 ((g.at_ f).u - k)) { g.at_ f with u := (g.at_ f).u - k } rfl
  have hp1 : (g.setA f { g.at_ f with u := (g.at_ f).u - k }).pair f t = true := by rw [setA_pair]; exact hp
  obtain ⟨l, hlz, hrun2⟩ := esc_line (hrun1.drew escS_ok) hp1
  rw [setA_pr] at hlz hrun2
  obtain ⟨d0, d1, -, -⟩ := line_cells hrun2
  simp only [Int.toNat_natCast, Nat.add_zero] at cu hrun2 hz1 d0 d1 hfl
  have R2 := hide hrun2
  have HL := hide hlz
  have HP := hide hPr
  have e1 : decide ((g.at_ f).u < k) = false := by simp; omega
  have e2 : decide (k < 1) = false := by simp; omega
  have t1 : IntKind.i64.wrap ((g.at_ f).u - k) = (g.at_ f).u - k := IntWalk.i64_in _ (by omega)
  have t2 : IntKind.i64.wrap (((g.pr (f, t)).H.length : Int) + 1) = ((g.pr (f, t)).H.length : Int) + 1 := IntWalk.i64_in _ (by omega)
  have e3 : decide ((100 : Int) ≤ ((g.pr (f, t)).H.drop (g.pr (f, t)).conf).length) = false := by simp; omega
  have e4 : ¬ ((100 : Int) ≤ ((g.pr (f, t)).H.drop (g.pr (f, t)).conf).length) := by simp; omega
  generalize (g.at_ f).u = u at *
  generalize hN : ((g.pr (f, t)).H.drop (g.pr (f, t)).conf).length = n at *
  generalize hM : (g.pr (f, t)).H.length = m at *
  have HN := hide hN
  have HM := hide hM
  clear hB hPr hS hR hrun0 hrun1 hrun2 hlz hI hq hN hM
  go_enter Try.func32, Try.ntmps32
  go_wp2_with fail
  refine KL.out.mono ?_
  rintro e w' ⟨rfl, rfl⟩
  go_wp2_with fail
  clear q0 hc0 cu hz1
  generalize w.setCell ⟨b, f * 3, none⟩ (.int .i64 (u - k)) = W at *
  refine wp_region_lew [7, 8, 16, 19] [2, 3, 1, 1, 1, 1, 0, 1, 2, 2, 2, 2, 2, 3, 2, 2, 3, 3, 3, 4]
    (fun w' => w'.cell? ⟨s.gp (f, t), 0, none⟩ = some (.slice l.A n l.c) ∧ w'.cell? ⟨s.gp (f, t), 1, none⟩ = some (.int .i64 m)) (fun w' => w'.cell? ⟨s.gp (f, t), 0, none⟩ = some (.slice l.A n l.c) ∧ w'.cell? ⟨s.gp (f, t), 1, none⟩ = some (.int .i64 m))
    (fun w' => w'.cell? ⟨s.gp (f, t), 1, none⟩ = some (.int .i64 m)) (fun _ => True) (fun _ h => h) (fun _ h => h.2) (fun _ _ => trivial) (by kernel_rfl) (by kernel_rfl) (by kernel_rfl) (by kernel_rfl) (by exact ⟨d0, d1⟩) ?_
  (repeat (first | (refine lew_skip (by rfl) (by rfl) ?_; try simp only [Act.put, List.setIfInBounds_toArray, List.set_cons_zero, List.set_cons_succ]) | (refine lew_read0 (v := ?_) (by rfl) (by rfl) ?_ ?_; rotate_left; (focus (intro w' hS'; go_simp; (try with_reducible rfl); done)); try simp only [Act.put, List.setIfInBounds_toArray, List.set_cons_zero, List.set_cons_succ]) | (refine lew_read1 (v := ?_) (by rfl) (by rfl) ?_ ?_; rotate_left; (focus (intro w' hS'; go_simp; (try with_reducible rfl); done)); try simp only [Act.put, List.setIfInBounds_toArray, List.set_cons_zero, List.set_cons_succ]) | (refine lew_read2 (v := ?_) (by rfl) (by rfl) ?_ ?_; rotate_left; (focus (intro w' hS'; go_simp; (try with_reducible rfl); done)); try simp only [Act.put, List.setIfInBounds_toArray, List.set_cons_zero, List.set_cons_succ]) | (refine lew_read3 (v := ?_) (by rfl) (by rfl) ?_ ?_; rotate_left; (focus (intro w' hS'; go_simp; (try with_reducible rfl); done)); try simp only [Act.put, List.setIfInBounds_toArray, List.set_cons_zero, List.set_cons_succ]) | (refine lew_read4 (v := ?_) (by rfl) (by rfl) ?_ ?_; rotate_left; (focus (intro w' hS'; go_simp; (try with_reducible rfl); done)); try simp only [Act.put, List.setIfInBounds_toArray, List.set_cons_zero, List.set_cons_succ])))
  refine lew_chain1 rfl (by rfl) (fun K hK => ?_)
  go_wp2_with fail
  have R3 := hide (show Run F w _ (W.alloc (.cells #[.int .i64 k] 3)).drew from R2.out.below (lineQ_ok escQ_ok) ((Below.refl _ _).alloc (Nat.le_refl _) (.cells #[.int .i64 k] 3)))
  obtain ⟨d2, d3, -, -⟩ := line_cells R3.out
  rw [HN.out] at d2
  rw [HM.out] at d3
  refine hK.out _ _ ⟨d2, d3⟩ ?_
  clear hK
  have HSR := hide (show Src (W.alloc (.cells #[.int .i64 k] 3)).drew (some ⟨W.heap.size, 0, none⟩) 1 1 [.int .i64 k] from src_one W.drew k 3)
  generalize (W.alloc (.cells #[.int .i64 k] 3)).drew = W1 at *
  (repeat (first | (refine lew_skip (by rfl) (by rfl) ?_; try simp only [Act.put, List.setIfInBounds_toArray, List.set_cons_zero, List.set_cons_succ]) | (refine lew_read0 (v := ?_) (by rfl) (by rfl) ?_ ?_; rotate_left; (focus (intro w' hS'; go_simp; (try with_reducible rfl); done)); try simp only [Act.put, List.setIfInBounds_toArray, List.set_cons_zero, List.set_cons_succ]) | (refine lew_read1 (v := ?_) (by rfl) (by rfl) ?_ ?_; rotate_left; (focus (intro w' hS'; go_simp; (try with_reducible rfl); done)); try simp only [Act.put, List.setIfInBounds_toArray, List.set_cons_zero, List.set_cons_succ]) | (refine lew_read2 (v := ?_) (by rfl) (by rfl) ?_ ?_; rotate_left; (focus (intro w' hS'; go_simp; (try with_reducible rfl); done)); try simp only [Act.put, List.setIfInBounds_toArray, List.set_cons_zero, List.set_cons_succ]) | (refine lew_read3 (v := ?_) (by rfl) (by rfl) ?_ ?_; rotate_left; (focus (intro w' hS'; go_simp; (try with_reducible rfl); done)); try simp only [Act.put, List.setIfInBounds_toArray, List.set_cons_zero, List.set_cons_succ]) | (refine lew_read4 (v := ?_) (by rfl) (by rfl) ?_ ?_; rotate_left; (focus (intro w' hS'; go_simp; (try with_reducible rfl); done)); try simp only [Act.put, List.setIfInBounds_toArray, List.set_cons_zero, List.set_cons_succ])))
  refine lew_chain2 rfl (by rfl) (fun K hK => ?_)
  obtain ⟨F3, hR3, -, hbk3⟩ := R3.out.rot.take row_ok (star_ok cell_ok (star_ok (arow_ok zow_ok) escQ_ok))
  rw [HN.out] at hR3
  refine wp_app (.tmp 56) (.tmp 58) rfl intsOk _ 0 (v := .slice l.A n l.c) (n := n) rfl hR3.1 (A := some ⟨W.heap.size, 0, none⟩) (m := 1) (c := 1) (news := [.int .i64 k]) rfl HSR.out (by omega) (by omega) (Nat.zero_le _) ?_
  intro v4 w4 ho4 hg4 hv4
  have S4 := hbk3 _ _ (row_app hR3 ho4 hg4 hv4)
  obtain ⟨A4, c4, rfl⟩ := own_form ho4
  obtain ⟨FC4, hC4⟩ := S4.rot.fst
  have d4 : w4.cell? ⟨s.gp (f, t), 1, none⟩ = some (.int .i64 m) := by rw [← HM.out]; exact cell_at hC4 rfl
  have d5 : w4.cell? ⟨s.gp (f, t), 0, none⟩ = some (.slice l.A n l.c) := by rw [← HN.out]; exact cell_at hC4 rfl
  have G := give_run (W := w4) (A := A4) (c := c4) (g := g.setA f { g.at_ f with u := u - k }) (U := U) hp1 HP.out HL.out (by have S5 := S4; rw [← HN.out] at S5; exact S5)
  simp only [setA_pr, HN.out, HM.out] at G
  obtain ⟨⟨z1, z2⟩, hfin⟩ := G
  have HFIN := hide hfin
  refine hK.out _ _ d4 ?_
  clear hK hR3 hbk3 hg4 ho4 hv4 S4 hC4 hfin
  (repeat (first | (refine lew_skip (by rfl) (by rfl) ?_; try simp only [Act.put, List.setIfInBounds_toArray, List.set_cons_zero, List.set_cons_succ]) | (refine lew_read0 (v := ?_) (by rfl) (by rfl) ?_ ?_; rotate_left; (focus (intro w' hS'; go_simp; (try with_reducible rfl); done)); try simp only [Act.put, List.setIfInBounds_toArray, List.set_cons_zero, List.set_cons_succ]) | (refine lew_read1 (v := ?_) (by rfl) (by rfl) ?_ ?_; rotate_left; (focus (intro w' hS'; go_simp; (try with_reducible rfl); done)); try simp only [Act.put, List.setIfInBounds_toArray, List.set_cons_zero, List.set_cons_succ]) | (refine lew_read2 (v := ?_) (by rfl) (by rfl) ?_ ?_; rotate_left; (focus (intro w' hS'; go_simp; (try with_reducible rfl); done)); try simp only [Act.put, List.setIfInBounds_toArray, List.set_cons_zero, List.set_cons_succ]) | (refine lew_read3 (v := ?_) (by rfl) (by rfl) ?_ ?_; rotate_left; (focus (intro w' hS'; go_simp; (try with_reducible rfl); done)); try simp only [Act.put, List.setIfInBounds_toArray, List.set_cons_zero, List.set_cons_succ]) | (refine lew_read4 (v := ?_) (by rfl) (by rfl) ?_ ?_; rotate_left; (focus (intro w' hS'; go_simp; (try with_reducible rfl); done)); try simp only [Act.put, List.setIfInBounds_toArray, List.set_cons_zero, List.set_cons_succ])))
  refine lew_chain3 rfl (by rfl) (fun K hK => ?_)
  go_wp2_with fail
  refine hK.out _ _ trivial ?_
  clear hK
  (repeat (first | (refine lew_skip (by rfl) (by rfl) ?_; try simp only [Act.put, List.setIfInBounds_toArray, List.set_cons_zero, List.set_cons_succ]) | (refine lew_read0 (v := ?_) (by rfl) (by rfl) ?_ ?_; rotate_left; (focus (intro w' hS'; go_simp; (try with_reducible rfl); done)); try simp only [Act.put, List.setIfInBounds_toArray, List.set_cons_zero, List.set_cons_succ]) | (refine lew_read1 (v := ?_) (by rfl) (by rfl) ?_ ?_; rotate_left; (focus (intro w' hS'; go_simp; (try with_reducible rfl); done)); try simp only [Act.put, List.setIfInBounds_toArray, List.set_cons_zero, List.set_cons_succ]) | (refine lew_read2 (v := ?_) (by rfl) (by rfl) ?_ ?_; rotate_left; (focus (intro w' hS'; go_simp; (try with_reducible rfl); done)); try simp only [Act.put, List.setIfInBounds_toArray, List.set_cons_zero, List.set_cons_succ]) | (refine lew_read3 (v := ?_) (by rfl) (by rfl) ?_ ?_; rotate_left; (focus (intro w' hS'; go_simp; (try with_reducible rfl); done)); try simp only [Act.put, List.setIfInBounds_toArray, List.set_cons_zero, List.set_cons_succ]) | (refine lew_read4 (v := ?_) (by rfl) (by rfl) ?_ ?_; rotate_left; (focus (intro w' hS'; go_simp; (try with_reducible rfl); done)); try simp only [Act.put, List.setIfInBounds_toArray, List.set_cons_zero, List.set_cons_succ])))
  refine lew_chain4 rfl (by rfl) (fun K hK => ?_)
  go_wp2_with fail
  refine hK.out _ _ trivial (lew_nil ?_)
  go_wp2
  go_ret
  obtain ⟨F', q1, q2, q3⟩ := HFIN.out.post escS_ok
  exact ⟨rfl, F', ⟨_, q1⟩, q2, q3⟩
end Go.Proofs.Ytapabbpdfplpoaa
namespace Go.Proofs.Ytapabbpdfplpoaa
open Go.RowKit Go.CH Go.CH.Lic Go.CH.Esc
open Go.ChangeMaps (setBlock)

section
variable {w w0 : World} {F : Nat → Prop} {b : BkM} {p : Nat}
set_option maxRecDepth 100000 in
set_option maxHeartbeats 1600000 in
theorem rbookleft_any (h : RfO w0 b p w F) (hI : Inv2 b) (id : ByteArray) (a : Int) :
    Calls Try.prog 51 #[gptr p, .string id, .int .i64 a] w (BelowRet w (leftV (leftR b id a))) := by
  obtain ⟨s, hz, hS0⟩ := h
  obtain ⟨F1, hS⟩ := ((Run.start hS0).below rfS_ok (lbox_below w 0 0)).get
  have KF := hide (rfind_any hS.read hz hI.inv.gn id)
  have KI := hide (inst_any a (w.alloc (lbox 0 0)))
  unfold lbox at *
  cases hf : findG b id with
  | none =>
    have e : leftR b id a = (0, 0, 11) := by unfold leftR; rw [hf]
    rw [e]
    rw [hf] at KF
    simp only [fz] at KF
    clear hz hS hI hf e hS0
    unfold gptr at *
    go_enter Try.func51, Try.ntmps51
    go_wp2_with fail
    refine KF.out.mono ?_
    rintro e w' ⟨rfl, rfl⟩
    go_wp2_with fail
    refine bodyPost_ret_by (res_cell_tmp rfl _ _ w.heap.size 66 #[.int .i64 0, .int .i64 0] (0, 0) rfl ?_ Try.underlying66 (by kernel_rfl)) rfl ?_
    · exact heap_alloc_new w _
    · exact ⟨rfl, (Below.refl _ _).alloc (Nat.le_refl _) _⟩
  | some i =>
    have hi := (findG_some hf).1
    have hn100 := hI.inv.gn
    rw [hf] at KF
    simp only [fz] at KF
    cases hw : inst a with
    | false =>
      have e : leftR b id a = (0, 0, 1) := by unfold leftR; rw [hf]; simp [hw]
      rw [e]
      rw [hw] at KI
      clear hz hS hI hf e hS0 hw
      unfold gptr at *
      go_enter Try.func51, Try.ntmps51
      go_wp2_with fail
      refine KF.out.mono ?_
      rintro e w' ⟨rfl, rfl⟩
      go_wp2_with fail
      refine KI.out.mono ?_
      rintro e w' ⟨rfl, rfl⟩
      go_wp2_with fail
      refine bodyPost_ret_by (res_cell_tmp rfl _ _ w.heap.size 66 #[.int .i64 0, .int .i64 0] (0, 0) rfl ?_ Try.underlying66 (by kernel_rfl)) rfl ?_
      · exact heap_alloc_new w _
      · exact ⟨rfl, (Below.refl _ _).alloc (Nat.le_refl _) _⟩
    | true =>
      rw [hw] at KI
      have KR := hide (rruns_any hS.read hz hI.inv hi a)
      cases hr : runsG (gat b i) a with
      | false =>
        have e : leftR b id a = (0, 0, 0) := by unfold leftR; rw [hf]; simp [hw, hr]
        rw [e]
        rw [hr] at KR
        clear hz hS hI hf e hS0 hw hr
        unfold gptr at *
        go_enter Try.func51, Try.ntmps51
        go_wp2_with fail
        refine KF.out.mono ?_
        rintro e w' ⟨rfl, rfl⟩
        go_wp2_with fail
        refine KI.out.mono ?_
        rintro e w' ⟨rfl, rfl⟩
        go_wp2_with fail
        refine KR.out.mono ?_
        rintro e w' ⟨rfl, rfl⟩
        go_wp2_with fail
        refine bodyPost_ret_by (res_cell_tmp rfl _ _ w.heap.size 66 #[.int .i64 0, .int .i64 0] (0, 0) rfl ?_ Try.underlying66 (by kernel_rfl)) rfl ?_
        · exact heap_alloc_new w _
        · exact ⟨rfl, (Below.refl _ _).alloc (Nat.le_refl _) _⟩
      | true =>
        have e : leftR b id a = ((gat b i).l.q - (gat b i).su, (gat b i).l.u - (gat b i).sn, 0) := by unfold leftR; rw [hf]; simp [hw, hr]
        rw [e]
        rw [hr] at KR
        have KL := hide (rleft_any hS hz hI.r hi)
        clear hz hS hI hf e hS0 hw hr
        generalize (gat b i).l.q - (gat b i).su = x at *
        generalize (gat b i).l.u - (gat b i).sn = y at *
        unfold gptr at *
        go_enter Try.func51, Try.ntmps51
        go_wp2_with fail
        refine KF.out.mono ?_
        rintro e w' ⟨rfl, rfl⟩
        go_wp2_with fail
        refine KI.out.mono ?_
        rintro e w' ⟨rfl, rfl⟩
        go_wp2_with fail
        refine KR.out.mono ?_
        rintro e w' ⟨rfl, rfl⟩
        go_wp2_with fail
        refine KL.out.mono ?_
        rintro e w2 ⟨rfl, hb⟩
        have hR1 := ((Run.begin w).fresh emp_ok (cell_new w #[.int .i64 0, .int .i64 0] 66)).below (star_ok cell_ok emp_ok) hb
        obtain ⟨F1, hC, -, bk⟩ := hR1.take cell_ok emp_ok
        have q0 := cell_at hC (i := 0) rfl
        have q1 := cell_at hC (i := 1) rfl
        have f0 := cell_free hC 0
        have f1 := cell_free hC 1
        have R3 := hide (bk _ _ (cell_set2 hC 0 1 (.int .i64 x) (.int .i64 y)))
        obtain ⟨F2, h2⟩ := R3.out.fst
        have HH := hide h2.1
        clear hC bk hR1 hb h2
        go_wp2_with fail
        exact bodyPost_ret_by (res_cell_tmp rfl _ _ w.heap.size 66 #[.int .i64 x, .int .i64 y] (0, 0) rfl HH.out Try.underlying66 (by kernel_rfl)) rfl ⟨rfl, R3.out.bel⟩
theorem flatMap_same {α : Type} {f g : α → List Value} : ∀ {l : List α}, (∀ x ∈ l, f x = g x) → l.flatMap f = l.flatMap g
  | [], _ => rfl
  | x :: l, h => by rw [List.flatMap_cons, List.flatMap_cons, h x (by simp), flatMap_same (fun y hy => h y (by simp [hy]))]
theorem kcl_add {l : LicM} (hI : ∀ k ∈ b.ks, k.gi < b.gs.length) : b.ks.flatMap (kcl (addM b l)) = b.ks.flatMap (kcl b) :=
  flatMap_same fun k hk => by
    have := hI k hk
    unfold kcl gat addM
    simp only [List.getD_eq_getElem?_getD, List.getElem?_append_left this]
theorem rfz_add {s : RfP} (hz : RfZ w0 b s) {l : LicM} {A B : Option Addr} {c d : Nat} (hl : LicIn w0 l A B) (A' : Option Addr) (c' : Nat) (E : Option Addr) (cE : Nat) :
    RfZ w0 (addM b l) { s with zs := s.zs ++ [⟨l, A, c, B, d⟩], A := A', c := c', E := E, cE := cE } := by
  refine ⟨by simp [addM, hz.1], fun y hy => ?_⟩
  rcases List.mem_append.1 hy with hy | hy
  · exact hz.2 y hy
  · simp at hy; subst hy; exact hl
set_option maxRecDepth 100000 in
set_option maxHeartbeats 3200000 in
theorem radd_any (h : RfO w0 b p w F) (hgi : ∀ k ∈ b.ks, k.gi < b.gs.length) (hlen : b.gs.length < 100) {l : LicM} {A B : Option Addr} (hl : LicIn w0 l A B) (c d : Nat) :
    Calls Try.prog 104 #[gptr p, licV l A c B d] w (RfPost w0 w F (.tuple #[]) (addM b l) p) := by
  obtain ⟨s, hz, hS⟩ := h
  have HZ := hide (fun A' c' E cE => rfz_add (c := c) (d := d) hz hl A' c' E cE)
  have HG := hide hgi
  have hlt : p < w.heap.size := World.block_lt_of_cell? _ _ hS.read.c0
  have R1 := hide ((Run.start hS).fresh rfS_ok (cell_new w (licC l A c B d) 56))
  have hRB := hide (show ∀ w', Below (w.alloc (.cells (licC l A c B d) 56)).heap.size (w.alloc (.cells (licC l A c B d) 56)) w' → w'.cell? ⟨p, 0, none⟩ = some (.slice s.A b.gs.length s.c) ∧ w'.cell? ⟨w.heap.size, 0, none⟩ = some (.string l.id) ∧ w'.cell? ⟨w.heap.size, 1, none⟩ = some (.slice A l.ms.length c) ∧ w'.cell? ⟨w.heap.size, 2, none⟩ = some (.slice B l.ps.length d) ∧ w'.cell? ⟨w.heap.size, 3, none⟩ = some (.int .i64 l.q) ∧ w'.cell? ⟨w.heap.size, 4, none⟩ = some (.int .i64 l.u) ∧ w'.cell? ⟨w.heap.size, 5, none⟩ = some (.int .i64 l.f) ∧ w'.cell? ⟨w.heap.size, 6, none⟩ = some (.int .i64 l.t) from fun w' hb => by
    have h1 := R1.out.below (star_ok cell_ok rfS_ok) hb
    obtain ⟨G, hC⟩ := h1.fst
    exact ⟨(rf_read h1.drop).c0, cell_at hC rfl, cell_at hC rfl, cell_at hC rfl, cell_at hC rfl, cell_at hC rfl, cell_at hC rfl, cell_at hC rfl⟩)
  have HLZ := hide (rfz_len hz)
  clear hz hl hgi hS
  unfold licV
  unfold licC at R1 hRB
  unfold gptr
  go_enter Try.func104, Try.ntmps104
  go_wp2_with fail
  refine wp_region_lew [6, 7, 10] [2, 1, 1, 1, 1, 0, 1, 2, 2, 2, 3] (fun w' => Below (w.alloc (.cells #[.string l.id, .slice A l.ms.length c, .slice B l.ps.length d, .int .i64 l.q, .int .i64 l.u, .int .i64 l.f, .int .i64 l.t] 56)).heap.size (w.alloc (.cells #[.string l.id, .slice A l.ms.length c, .slice B l.ps.length d, .int .i64 l.q, .int .i64 l.u, .int .i64 l.f, .int .i64 l.t] 56)) w') (fun w' => Below (w.alloc (.cells #[.string l.id, .slice A l.ms.length c, .slice B l.ps.length d, .int .i64 l.q, .int .i64 l.u, .int .i64 l.f, .int .i64 l.t] 56)).heap.size (w.alloc (.cells #[.string l.id, .slice A l.ms.length c, .slice B l.ps.length d, .int .i64 l.q, .int .i64 l.u, .int .i64 l.f, .int .i64 l.t] 56)) w') (fun _ => True) (fun _ => True) (fun _ h => h) (fun _ _ => trivial) (fun _ h => h) (by kernel_rfl) (by kernel_rfl) (by kernel_rfl) (by kernel_rfl) (by exact below_drew (Below.refl _ _)) ?_
  have R2 := hide (R1.out.drew (star_ok cell_ok rfS_ok))
  have B2 := hide (below_drew (Below.refl (w.alloc (.cells #[.string l.id, .slice A l.ms.length c, .slice B l.ps.length d, .int .i64 l.q, .int .i64 l.u, .int .i64 l.f, .int .i64 l.t] 56)).heap.size (w.alloc (.cells #[.string l.id, .slice A l.ms.length c, .slice B l.ps.length d, .int .i64 l.q, .int .i64 l.u, .int .i64 l.f, .int .i64 l.t] 56))))
  have hsz : w.heap.size < (w.alloc (.cells #[.string l.id, .slice A l.ms.length c, .slice B l.ps.length d, .int .i64 l.q, .int .i64 l.u, .int .i64 l.f, .int .i64 l.t] 56)).drew.heap.size := by simp
  generalize (w.alloc (.cells #[.string l.id, .slice A l.ms.length c, .slice B l.ps.length d, .int .i64 l.q, .int .i64 l.u, .int .i64 l.f, .int .i64 l.t] 56)).drew = w1 at *
  repeat (first | (refine lew_skip (by rfl) (by rfl) ?_) | (refine lew_read2 (v := ?_) (by rfl) (by rfl) ?_ ?_; rotate_left; (focus (intro w' hS'; go_simp; (try with_reducible rfl); done)); try simp only [Act.put, List.setIfInBounds_toArray, List.set_cons_zero, List.set_cons_succ]) | (refine lew_read1 (v := ?_) (by rfl) (by rfl) ?_ ?_; rotate_left; (focus (intro w' hS'; obtain ⟨c0, q0, q1, q2, q3, q4, q5, q6⟩ := hRB.out w' hS'; go_simp; (try with_reducible rfl); done)); try simp only [Act.put, List.setIfInBounds_toArray, List.set_cons_zero, List.set_cons_succ]) | (refine lew_read0 (v := ?_) (by rfl) (by rfl) ?_ ?_; rotate_left; (focus (intro w' hS'; obtain ⟨c0, q0, q1, q2, q3, q4, q5, q6⟩ := hRB.out w' hS'; go_simp; (try with_reducible rfl); done)); try simp only [Act.put, List.setIfInBounds_toArray, List.set_cons_zero, List.set_cons_succ]))
  refine lew_chain1 rfl (by rfl) (fun K hK => ?_)
  go_wp2_with fail
  have HSRC := hide (src_new7 w1 (lcl ⟨l, A, c, B, d⟩) 56 (lcl_one _))
  have R3 := hide (R2.out.drop.below rfS_ok ((Below.refl w1.heap.size w1).alloc (Nat.le_refl _) (.cells (lcl ⟨l, A, c, B, d⟩).toArray 56)))
  refine hK.out _ _ (B2.out.alloc (by have := B2.out.size; simp at this ⊢; omega) _) ?_
  clear hK R1 R2 hRB B2
  unfold lcl at R3 HSRC
  generalize (w1.alloc (.cells #[.string l.id, .slice A l.ms.length c, .slice B l.ps.length d, .int .i64 l.q, .int .i64 l.u, .int .i64 l.f, .int .i64 l.t] 56)) = w2 at *
  refine lew_chain2 rfl (by rfl) (fun K hK => ?_)
  obtain ⟨F7, hR7, -, bk7⟩ := (R3.out.perm (show RfS b p s = star (RfL b s) (star (CellO p (rfcell b s) 77) (star (RfE b s) (RfK b s))) by unfold RfS; ac_rfl)).take row_ok (star_ok cell_ok (star_ok row_ok row_ok))
  refine wp_app (.tmp 8) (.tmp 10) rfl licsOk _ 0 (v := .slice s.A b.gs.length s.c) (n := b.gs.length) (xs := s.zs.flatMap lcl) rfl hR7.1 (A := some ⟨w1.heap.size, 0, none⟩) (m := 1) (c := 1) (news := lcl ⟨l, A, c, B, d⟩) rfl HSRC.out (by omega) (by omega) (Nat.zero_le _) ?_
  intro v8 w8 ho8 hg8 hv8
  have S8 := bk7 _ _ (row_app hR7 ho8 hg8 hv8)
  obtain ⟨A8, c8, rfl⟩ := own_form ho8
  refine hK.out _ _ trivial ?_
  clear hK ho8 hg8 hv8 bk7 hR7 R3 HSRC
  obtain ⟨F9, hC9, -, bk9⟩ := S8.rot.take cell_ok (star_ok row_ok (star_ok row_ok row_ok))
  have d9 := cell_at hC9 (i := 0) rfl
  have f9 := cell_free hC9 0
  have S9 := hide (bk9 _ _ (cell_set hC9 0 (.slice A8 (b.gs.length + 1) c8)))
  clear hC9 bk9 S8
  repeat (first | (refine lew_skip (by rfl) (by rfl) ?_) | (refine lew_read2 (v := ?_) (by rfl) (by rfl) ?_ ?_; rotate_left; (focus (intro w' hS'; go_simp; (try with_reducible rfl); done)); try simp only [Act.put, List.setIfInBounds_toArray, List.set_cons_zero, List.set_cons_succ]))
  refine lew_chain3 rfl (by rfl) (fun K hK => ?_)
  go_wp2_with fail
  refine hK.out _ _ trivial (lew_nil ?_)
  clear hK d9 f9
  generalize w8.setCell ⟨p, 0, none⟩ (.slice A8 (b.gs.length + 1) c8) = w9 at *
  obtain ⟨F9, hC9⟩ := S9.out.fst
  have d1 : w9.cell? ⟨p, 1, none⟩ = some (.slice s.E b.gs.length s.cE) := cell_at hC9 (i := 1) rfl
  have hp9 : p < w9.heap.size := World.block_lt_of_cell? _ _ d1
  clear hC9
  have S10 := hide (S9.out.below (star_ok cell_ok (star_ok row_ok (star_ok row_ok row_ok))) ((Below.refl w9.heap.size w9).alloc (Nat.le_refl _) (.cells #[.int .i64 (-1)] 3)))
  have HSRC := hide (src_new7 w9 [.int .i64 (-1)] 3 (by intro u hu; simp at hu; subst hu; rfl))
  clear S9
  go_wp2_with (at_builtin; refine held ?_)
  obtain ⟨F7, hR7, -, bk7⟩ := S10.out.rot3.take row_ok (star_ok cell_ok (star_ok row_ok row_ok))
  refine Held.mk (wpList_app rfl (.tmp 18) (.tmp 19) rfl intsOk _ 0 (v := .slice s.E b.gs.length s.cE) (n := b.gs.length) (xs := ints (b.gs.map GrM.e)) rfl hR7.1 (A := some ⟨w9.heap.size, 0, none⟩) (m := 1) (c := 1) (news := [.int .i64 (-1)]) rfl HSRC.out (by omega) (by omega) (Nat.zero_le _) ?_)
  intro v10 w10 ho8 hg8 hv8
  have S11 := bk7 _ _ (row_app hR7 ho8 hg8 hv8)
  obtain ⟨A10, c10, rfl⟩ := own_form ho8
  clear ho8 hg8 hv8 bk7 hR7 S10 HSRC d1
  obtain ⟨F9, hC9, -, bk9⟩ := S11.rot.take cell_ok (star_ok row_ok (star_ok row_ok row_ok))
  have d9 : w10.cell? ⟨p, 1, none⟩ = some (.slice s.E b.gs.length s.cE) := cell_at hC9 (i := 1) rfl
  have f9 := cell_free hC9 1
  have S12 := bk9 _ _ (cell_set hC9 1 (.slice A10 (b.gs.length + 1) c10))
  have e1 := kcl_add (l := l) HG.out
  have S13 := S12.perm (show _ = RfS (addM b l) p { s with zs := s.zs ++ [⟨l, A, c, B, d⟩], A := A8, c := c8, E := A10, cE := c10 } by
    unfold RfS RfL RfE RfK rfcell
    rw [show (addM b l).ks = b.ks from rfl, e1, show (addM b l).gs.length = b.gs.length + 1 by simp [addM], show (addM b l).gs.map GrM.e = b.gs.map GrM.e ++ [-1] by simp [addM]]
    unfold ints
    rw [List.map_append]
    simp only [List.flatMap_append, List.flatMap_cons, List.flatMap_nil, List.append_nil, List.map_cons, List.map_nil]
    rw [show ((#[.slice s.A b.gs.length s.c, .slice s.E b.gs.length s.cE, .slice s.K b.ks.length s.cK] : Array Value).setIfInBounds 0 (.slice A8 (b.gs.length + 1) c8)).setIfInBounds 1 (.slice A10 (b.gs.length + 1) c10) = #[.slice A8 (b.gs.length + 1) c8, .slice A10 (b.gs.length + 1) c10, .slice s.K b.ks.length s.cK] from rfl]
    ac_rfl)
  have HP := hide (S13.post rfS_ok)
  have HZ2 := hide (HZ.out A8 c8 A10 c10)
  clear hC9 bk9 S11 S12 S13 e1
  go_wp2_with fail
  refine bodyPost_end (results_none rfl _ _ _) rfl ?_
  exact RfPost.of HZ2.out HP.out
set_option maxRecDepth 100000 in
set_option maxHeartbeats 3200000 in
theorem rgrant_any (h : RfO w0 b p w F) (hI : Inv2 b) (hb0 : Below w0.heap.size w0 w) {l : LicM} {A B : Option Addr} (hl : LicIn w0 l A B) (c d : Nat) :
    Calls Try.prog 84 #[gptr p, licV l A c B d] w (RfPost w0 w F (.int .i64 (grantR b l).1) (grantR b l).2 p) := by
  have H := hide h
  have KV := hide (fun W (hb : Below w.heap.size w W) => rvalid_any (c := c) (d := d) ((hl.keep hb0).keep hb))
  have R1 := hide (((Run.begin w).fresh emp_ok (cell_new w (licC l A c B d) 56)).imp fun _ _ h => star_emp h)
  have KF := hide (fun W (hb : Below w.heap.size w W) => by
    obtain ⟨G, s, hz, hG⟩ := ((Run.start h).below rfO_ok hb).get
    exact rfind_any hG.read hz hI.inv.gn l.id)
  have HC := hide (fun W (hb : Below w.heap.size w W) => by
    obtain ⟨G, s, hz, hG⟩ := ((Run.start h).below rfO_ok hb).get
    exact (⟨s.A, s.c, hG.read.c0⟩ : ∃ A c, W.cell? ⟨p, 0, none⟩ = some (.slice A b.gs.length c)))
  have hn100 := hI.inv.gn
  have HL := hide hl
  have HI := hide hI
  unfold licC at R1
  cases hv : valid l with
  | false =>
    have e1 : grantR b l = (1, b) := by unfold grantR; simp [hv]
    rw [e1]
    rw [hv] at KV
    clear h hI hl hv e1 KF HC
    unfold licV gptr at *
    go_enter Try.func84, Try.ntmps84
    go_wp2_with fail
    obtain ⟨x0, x1, x2, x3, x4, x5, x6⟩ := box_reads R1.out
    refine (KV.out _ R1.out.bel).mono ?_
    rintro e w2 ⟨rfl, hb⟩
    have R2 := hide (R1.out.below cell_ok hb)
    clear hb
    go_wp2
    go_ret
    exact RfPost.below H.out _ R2.out.bel
  | true =>
    rw [hv] at KV
    cases hf : findG b l.id with
    | some i =>
      have e1 : grantR b l = (9, b) := by unfold grantR; simp [hv, hf]
      rw [e1]
      rw [hf] at KF
      simp only [fz] at KF
      clear h hI hl hv e1 HC hf
      unfold licV gptr at *
      go_enter Try.func84, Try.ntmps84
      go_wp2_with fail
      obtain ⟨x0, x1, x2, x3, x4, x5, x6⟩ := box_reads R1.out
      refine (KV.out _ R1.out.bel).mono ?_
      rintro e w2 ⟨rfl, hb⟩
      have R2 := hide (R1.out.below cell_ok hb)
      clear hb x0 x1 x2 x3 x4 x5 x6
      obtain ⟨x0, x1, x2, x3, x4, x5, x6⟩ := box_reads R2.out
      go_wp2_with fail
      refine (KF.out _ R2.out.bel).mono ?_
      rintro e w' ⟨rfl, rfl⟩
      go_wp2
      go_ret
      exact RfPost.below H.out _ R2.out.bel
    | none =>
      rw [hf] at KF
      simp only [fz] at KF
      by_cases hn : 100 ≤ b.gs.length
      · have e1 : grantR b l = (28, b) := by unfold grantR; simp [hv, hf, hn]
        rw [e1]
        obtain ⟨n, hbn⟩ : ∃ n, n = b.gs.length := ⟨_, rfl⟩
        rw [← hbn] at HC hn hn100
        obtain rfl : n = 100 := by omega
        clear h hI hl hv e1 hf hn hn100 hbn
        unfold licV gptr at *
        go_enter Try.func84, Try.ntmps84
        go_wp2_with fail
        obtain ⟨x0, x1, x2, x3, x4, x5, x6⟩ := box_reads R1.out
        refine (KV.out _ R1.out.bel).mono ?_
        rintro e w2 ⟨rfl, hb⟩
        have R2 := hide (R1.out.below cell_ok hb)
        clear hb x0 x1 x2 x3 x4 x5 x6
        obtain ⟨x0, x1, x2, x3, x4, x5, x6⟩ := box_reads R2.out
        obtain ⟨A9, c9, c0⟩ := HC.out _ R2.out.bel
        go_wp2_with fail
        refine (KF.out _ R2.out.bel).mono ?_
        rintro e w' ⟨rfl, rfl⟩
        go_wp2
        go_ret
        exact RfPost.below H.out _ R2.out.bel
      · have e1 : grantR b l = (0, addM b l) := by unfold grantR; simp [hv, hf, hn]
        rw [e1]
        have hk := hide (fun k hk => (hI.inv.k k hk).1)
        have hlt : b.gs.length < 100 := by omega
        clear h hI hl hv e1 hf hn hn100
        have KA := hide (fun W G (hG : RfO w0 b p W G) => radd_any hG hk.out hlt HL.out c d)
        generalize hgn : b.gs.length = n at *
        have HGN := hide hgn
        clear hgn
        unfold licV gptr at *
        go_enter Try.func84, Try.ntmps84
        go_wp2_with fail
        obtain ⟨x0, x1, x2, x3, x4, x5, x6⟩ := box_reads R1.out
        refine (KV.out _ R1.out.bel).mono ?_
        rintro e w2 ⟨rfl, hb⟩
        have R2 := hide (R1.out.below cell_ok hb)
        clear hb x0 x1 x2 x3 x4 x5 x6
        obtain ⟨x0, x1, x2, x3, x4, x5, x6⟩ := box_reads R2.out
        obtain ⟨A9, c9, c0⟩ := HC.out _ R2.out.bel
        go_wp2_with fail
        refine (KF.out _ R2.out.bel).mono ?_
        rintro e w' ⟨rfl, rfl⟩
        obtain ⟨G, hG, bk⟩ := ((Run.start H.out).below rfO_ok R2.out.bel).all rfO_ok
        go_wp2_with fail
        refine (KA.out _ G hG).mono ?_
        rintro e w3 ⟨rfl, hp⟩
        have HP := hide ((bk _ _ hp).post rfO_ok)
        clear hp bk hG c0 x0 x1 x2 x3 x4 x5 x6
        go_wp2
        go_ret
        exact ⟨rfl, HP.out⟩
end
end Go.Proofs.Ytapabbpdfplpoaa
namespace Go.Proofs.Ytapabbpdfplpoaa
open Go.RowKit Go.CH Go.CH.Lic Go.CH.Esc
open Go.ChangeMaps (setBlock)

section
variable {w w0 : World} {F : Nat → Prop} {b : BkM} {p : Nat}
/-- A licence of the book, read whole, and what a store there meets. -/
theorem RfR.row {s : RfP} (h : RfR w b p s) (hz : RfZ w0 b s) {i : Nat} (hi : i < b.gs.length) {z : ZL} (hzz : (s.zs[i]'(by rw [rfz_len hz]; exact hi)) = z) {g : Nat} (hA : s.A = some ⟨g, 0, none⟩) :
    w.cell? ⟨p, 0, none⟩ = some (.slice (some ⟨g, 0, none⟩) b.gs.length s.c) ∧ w.cell? ⟨g, i * 7, none⟩ = some (.string z.l.id) ∧ w.cell? ⟨g, i * 7 + 1, none⟩ = some (.slice z.A z.l.ms.length z.c) ∧ w.cell? ⟨g, i * 7 + 2, none⟩ = some (.slice z.B z.l.ps.length z.d) ∧
      w.cell? ⟨g, i * 7 + 3, none⟩ = some (.int .i64 z.l.q) ∧ w.cell? ⟨g, i * 7 + 4, none⟩ = some (.int .i64 z.l.u) ∧ w.cell? ⟨g, i * 7 + 5, none⟩ = some (.int .i64 z.l.f) ∧ w.cell? ⟨g, i * 7 + 6, none⟩ = some (.int .i64 z.l.t) ∧ ∀ j, w.frozen? ⟨g, j, none⟩ = false := by
  obtain ⟨g', hA', hc, hf⟩ := h.lic i (by rw [rfz_len hz]; exact hi) (rfz_len hz)
  rw [hA] at hA'
  injection hA' with e; injection e with e
  subst e
  rw [hzz] at hc
  exact ⟨by rw [← hA]; exact h.c0, hc 0 _ (by omega) rfl, hc 1 _ (by omega) rfl, hc 2 _ (by omega) rfl, hc 3 _ (by omega) rfl, hc 4 _ (by omega) rfl, hc 5 _ (by omega) rfl, hc 6 _ (by omega) rfl, hf⟩
theorem rinv_putG (h : RInv b) {i : Nat} (hi : i < b.gs.length) {g : GrM} (h0 : g.l.id = (gat b i).l.id) (h1 : g.su = (gat b i).su) (h2 : g.sn = (gat b i).sn) (hq : 0 ≤ g.l.q ∧ g.l.q ≤ 1000000000 ∧ 0 ≤ g.l.u ∧ g.l.u ≤ 1000) : RInv (putG b i g) := by
  refine ⟨by rw [putG_len]; exact h.gn, h.kn, fun k hk => by rw [putG_len]; exact h.k k hk, fun x hx => ?_, by rw [ids_put hi h0]; exact h.ids, fun j hj => ?_, fun j hj => ?_⟩
  · rcases List.mem_or_eq_of_mem_set hx with hx | rfl
    · exact h.q x hx
    · exact hq
  · rw [putG_len] at hj
    rw [gat_putG hi]; split
    · rename_i e; subst e; rw [h1]; exact h.su j hj
    · exact h.su j hj
  · rw [putG_len] at hj
    rw [gat_putG hi]; split
    · rename_i e; subst e; rw [h2]; exact h.sn j hj
    · exact h.sn j hj
theorem putG_back {i : Nat} (hi : i < b.gs.length) (g : GrM) : putG (putG b i g) i (gat b i) = b := by
  unfold putG
  simp only [List.set_set]
  rw [gat_get hi, List.set_getElem_self]
set_option maxRecDepth 100000 in
set_option maxHeartbeats 6400000 in
theorem ramend_any (h : RfO w0 b p w F) (hI : Inv2 b) (hb0 : Below w0.heap.size w0 w) (id : ByteArray) (q u t : Int) :
    Calls Try.prog 86 #[gptr p, .string id, .int .i64 q, .int .i64 u, .int .i64 t] w (RfPost w0 w F (.int .i64 (amendR b id q u t).1) (amendR b id q u t).2 p) := by
  have H := hide h
  obtain ⟨s, hz, hS⟩ := h
  have KF := hide (rfind_any hS.read hz hI.inv.gn id)
  cases hf : findG b id with
  | none =>
    have e : amendR b id q u t = (11, b) := by unfold amendR; rw [hf]
    rw [e]
    rw [hf] at KF
    simp only [fz] at KF
    clear hz hS hf e hI
    unfold gptr at *
    go_enter Try.func86, Try.ntmps86
    go_wp2_with fail
    refine KF.out.mono ?_
    rintro e w' ⟨rfl, rfl⟩
    go_wp2
    go_ret
    exact RfPost.quiet H.out _
  | some i =>
  have hi := (findG_some hf).1
  have hn100 := hI.inv.gn
  rw [hf] at KF
  simp only [fz] at KF
  have hR := hS.read
  have c1 := hR.c1
  obtain ⟨gE, hE, he, -⟩ := hR.e i hi
  rw [hE] at c1
  have hge := (hI.inv.g _ (gat_mem hi)).2.2.2.2.2.1
  by_cases h0 : 0 ≤ (gat b i).e
  · have e : amendR b id q u t = (12, b) := by unfold amendR; rw [hf]; simp [h0]
    rw [e]
    have t1 : ((gat b i).e != -1) = true := by simp; omega
    generalize (gat b i).e = ze at *
    generalize b.gs.length = n at *
    clear hz hS hI hf e hR hE hge h0
    unfold gptr at *
    go_enter Try.func86, Try.ntmps86
    go_wp2_with fail
    refine KF.out.mono ?_
    rintro e w' ⟨rfl, rfl⟩
    go_wp2
    go_ret
    exact RfPost.quiet H.out _
  have e2 : (gat b i).e = -1 := by omega
  rw [e2] at he
  obtain ⟨z, hzz⟩ : ∃ z, z = (s.zs[i]'(by rw [rfz_len hz]; exact hi)) := ⟨_, rfl⟩
  have hzl : z.l = (gat b i).l := by rw [hzz]; exact rfz_at hz hi
  have hzin : LicIn w0 z.l z.A z.B := hz.2 z (by rw [hzz]; exact List.getElem_mem _)
  rcases z with ⟨⟨zi, zms, zps, zq, zu, zf, zt⟩, zA, zc, zB, zd⟩
  obtain ⟨g, hA, -⟩ := hR.lic i (by rw [rfz_len hz]; exact hi) (rfz_len hz)
  have hrow := hide (hR.row hz hi hzz.symm hA)
  have hin : LicIn w0 (⟨zi, zms, zps, q, u, zf, t⟩ : LicM) zA zB := ⟨hzin.id, hzin.ms, hzin.ps, hzin.mz, hzin.pz, hzin.mn, hzin.pn⟩
  have KV := hide (fun W (hb : Below w.heap.size w W) => rvalid_any (c := zc) (d := zd) ((hin.keep hb0).keep hb))
  have BX := hide (((Run.begin w).fresh emp_ok (cell_new w #[.string zi, .slice zA zms.length zc, .slice zB zps.length zd, .int .i64 q, .int .i64 u, .int .i64 zf, .int .i64 t] 56)).imp fun _ _ h => star_emp h)
  have R1 := hide ((Run.start hS).fresh rfS_ok (cell_new w #[.string zi, .slice zA zms.length zc, .slice zB zps.length zd, .int .i64 q, .int .i64 u, .int .i64 zf, .int .i64 t] 56))
  have hplt : p < w.heap.size := World.block_lt_of_cell? _ _ c1
  have hglt : g < w.heap.size := World.block_lt_of_cell? _ _ hrow.out.2.1
  have hgp := (rfS_ne hS).1 g hA
  have hvz : valid (amendL (gat b i).l q u t) = valid (⟨zi, zms, zps, q, u, zf, t⟩ : LicM) := by rw [← hzl]; rfl
  unfold licV at KV
  cases hv : valid (⟨zi, zms, zps, q, u, zf, t⟩ : LicM) with
  | false =>
    have e : amendR b id q u t = (1, b) := by unfold amendR; rw [hf]; simp [h0, hvz, hv]
    rw [e]
    rw [hv] at KV
    obtain ⟨r0, r1, r2, r3, r4, r5, r6, r7, rf⟩ := hrow.out
    clear hz hS hI hf e hR hE hge h0 e2 hzz hzl hzin hA hin hv hvz R1 hrow
    unfold gptr at *
    go_enter Try.func86, Try.ntmps86
    go_wp2_with fail
    refine KF.out.mono ?_
    rintro e w' ⟨rfl, rfl⟩
    go_wp2_with fail
    refine (KV.out _ BX.out.bel).mono ?_
    rintro e w2 ⟨rfl, hb⟩
    have HB := hide (BX.out.below cell_ok hb)
    clear hb
    go_wp2
    go_ret
    exact RfPost.below H.out _ HB.out.bel
  | true =>
    rw [hv] at KV
    have hvn := valid_num hv
    obtain ⟨hq0, hq1, hu0, hu1, -⟩ := hvn
    have hq0 : 0 ≤ q := hq0
    have hq1 : q ≤ 1000000000 := hq1
    have hu0 : 0 ≤ u := hu0
    have hu1 : u ≤ 1000 := hu1
    obtain ⟨b', hb'⟩ : ∃ b', b' = putG b i { gat b i with l := (⟨zi, zms, zps, q, u, zf, t⟩ : LicM) } := ⟨_, rfl⟩
    have hI' : RInv b' := by rw [hb']; exact rinv_putG hI.r hi (by rw [← hzl]) rfl rfl ⟨hq0, hq1, hu0, hu1⟩
    have hz' : RfZ w0 b' ({ s with zs := s.zs.set i (⟨⟨zi, zms, zps, q, u, zf, t⟩, zA, zc, zB, zd⟩ : ZL) } : RfP) := by rw [hb']; exact rfz_setL hz hi rfl hin
    have hi' : i < b'.gs.length := by rw [hb', putG_len]; exact hi
    have hga : gat b' i = { gat b i with l := (⟨zi, zms, zps, q, u, zf, t⟩ : LicM) } := by rw [hb', gat_putG hi, if_pos rfl]
    have KL := hide (fun W G (hG : RfS b' p ({ s with zs := s.zs.set i (⟨⟨zi, zms, zps, q, u, zf, t⟩, zA, zc, zB, zd⟩ : ZL) } : RfP) W G) => rleft_any hG hz' hI' hi')
    rw [show (gat b' i).l.q = q by rw [hga], show (gat b' i).l.u = u by rw [hga], show (gat b' i).su = (gat b i).su by rw [hga], show (gat b' i).sn = (gat b i).sn by rw [hga]] at KL
    have hst : ∀ (F0 : Nat → Prop) (w1 W : World) (hr : Run F0 w1 (RfS b p s) W), Run F0 w1 (RfS b' p ({ s with zs := s.zs.set i (⟨⟨zi, zms, zps, q, u, zf, t⟩, zA, zc, zB, zd⟩ : ZL) } : RfP)) (([(0, .string zi), (1, .slice zA zms.length zc), (2, .slice zB zps.length zd), (3, .int .i64 q), (4, .int .i64 u), (5, .int .i64 zf), (6, .int .i64 t)] : List (Nat × Value)).foldl (fun w x => w.setCell ⟨g, i * 7 + x.1, none⟩ x.2) W) := by
      intro F0 w1 W hr
      have h1 := rf_setL hr hz hi hA ([(0, .string zi), (1, .slice zA zms.length zc), (2, .slice zB zps.length zd), (3, .int .i64 q), (4, .int .i64 u), (5, .int .i64 zf), (6, .int .i64 t)] : List (Nat × Value)) (by simp) (⟨⟨zi, zms, zps, q, u, zf, t⟩, zA, zc, zB, zd⟩ : ZL) (by rw [← hzl]) (by rw [← hzz]; rfl)
      rw [show putG b i { gat b i with l := (⟨⟨zi, zms, zps, q, u, zf, t⟩, zA, zc, zB, zd⟩ : ZL).l } = b' by rw [hb']] at h1
      exact h1
    have hback : ∀ (F0 : Nat → Prop) (w1 W : World) (hr : Run F0 w1 (RfS b' p ({ s with zs := s.zs.set i (⟨⟨zi, zms, zps, q, u, zf, t⟩, zA, zc, zB, zd⟩ : ZL) } : RfP)) W), Run F0 w1 (RfS b p s) (([(0, .string zi), (1, .slice zA zms.length zc), (2, .slice zB zps.length zd), (3, .int .i64 zq), (4, .int .i64 zu), (5, .int .i64 zf), (6, .int .i64 zt)] : List (Nat × Value)).foldl (fun w x => w.setCell ⟨g, i * 7 + x.1, none⟩ x.2) W) := by
      intro F0 w1 W hr
      have h1 := rf_setL hr hz' hi' hA ([(0, .string zi), (1, .slice zA zms.length zc), (2, .slice zB zps.length zd), (3, .int .i64 zq), (4, .int .i64 zu), (5, .int .i64 zf), (6, .int .i64 zt)] : List (Nat × Value)) (by simp) (⟨⟨zi, zms, zps, zq, zu, zf, zt⟩, zA, zc, zB, zd⟩ : ZL) (by rw [hga]) (by simp only [List.getElem_set_self]; rfl)
      have e1 : putG b' i { gat b' i with l := (⟨zi, zms, zps, zq, zu, zf, zt⟩ : LicM) } = b := by
        have e0 : ({ gat b' i with l := (⟨zi, zms, zps, zq, zu, zf, zt⟩ : LicM) } : GrM) = gat b i := by
          rw [hga, show (⟨zi, zms, zps, zq, zu, zf, zt⟩ : LicM) = (gat b i).l from hzl]
        rw [e0]
        have := putG_back hi { gat b i with l := (⟨zi, zms, zps, q, u, zf, t⟩ : LicM) }
        rw [← hb'] at this
        exact this
      have e2 : (s.zs.set i (⟨⟨zi, zms, zps, q, u, zf, t⟩, zA, zc, zB, zd⟩ : ZL)).set i (⟨⟨zi, zms, zps, zq, zu, zf, zt⟩, zA, zc, zB, zd⟩ : ZL) = s.zs := by rw [List.set_set, hzz, List.set_getElem_self]
      rw [e1] at h1
      simp only [e2] at h1
      exact h1
    have hrow2 : ∀ (W : World) (G : Nat → Prop), RfS b' p ({ s with zs := s.zs.set i (⟨⟨zi, zms, zps, q, u, zf, t⟩, zA, zc, zB, zd⟩ : ZL) } : RfP) W G → W.cell? ⟨p, 0, none⟩ = some (.slice (some ⟨g, 0, none⟩) b'.gs.length s.c) ∧ (∀ k v, k < 7 → (lcl (⟨⟨zi, zms, zps, q, u, zf, t⟩, zA, zc, zB, zd⟩ : ZL))[k]? = some v → W.cell? ⟨g, i * 7 + k, none⟩ = some v) ∧ ∀ j, W.frozen? ⟨g, j, none⟩ = false := by
      intro W G hG
      obtain ⟨g', hA', hc, hf⟩ := hG.read.lic i (by rw [rfz_len hz']; exact hi') (rfz_len hz')
      rw [show ({ s with zs := s.zs.set i (⟨⟨zi, zms, zps, q, u, zf, t⟩, zA, zc, zB, zd⟩ : ZL) } : RfP).A = s.A from rfl, hA] at hA'
      injection hA' with e; injection e with e
      subst e
      simp only [List.getElem_set_self] at hc
      exact ⟨by have := hG.read.c0; rw [show ({ s with zs := s.zs.set i (⟨⟨zi, zms, zps, q, u, zf, t⟩, zA, zc, zB, zd⟩ : ZL) } : RfP).A = s.A from rfl, hA] at this; exact this, hc, hf⟩
    have hlen' : b'.gs.length = b.gs.length := by rw [hb', putG_len]
    rw [hlen'] at hrow2
    have HST := hide hst
    have HBK := hide hback
    have HROW2 := hide hrow2
    have HROW := hide (fun (W : World) G (hG : RfS b p s W G) => hG.read.row hz hi hzz.symm hA)
    have HZ2 := hide hz'
    have HZ := hide hz
    have hbz := hI.inv.g _ (gat_mem hi)
    have hkl := hI.r.kn
    have hsu1 : 0 ≤ (gat b i).su ∧ (gat b i).su ≤ 1000000000 ∧ 0 ≤ (gat b i).sn ∧ (gat b i).sn ≤ 1000 := by have := valid_num hbz.1; omega
    obtain ⟨hsu1, hsu2, hsn1, hsn2⟩ := hsu1
    clear hst hback hrow2 hlen' hbz hkl
    by_cases hq : q < (gat b i).su
    · have e : amendR b id q u t = (19, b) := by unfold amendR; rw [hf]; simp [h0, hvz, hv, hq]
      rw [e]
      generalize (gat b i).su = su at *
      generalize (gat b i).sn = sn at *
      have d1 : decide (q - su < 0) = true := decide_eq_true (by omega)
      obtain ⟨r0, r1, r2, r3, r4, r5, r6, r7, rf⟩ := hrow.out
      clear hz hS hI hf e hR hE hge h0 e2 hzz hzl hzin hA hin hv hvz hrow hb' hI' hz' hi' hga
      unfold gptr at *
      go_enter Try.func86, Try.ntmps86
      go_wp2_with fail
      refine KF.out.mono ?_
      rintro e w' ⟨rfl, rfl⟩
      go_wp2_with fail
      refine (KV.out _ BX.out.bel).mono ?_
      rintro e w2 ⟨rfl, hb⟩
      have R2 := hide (R1.out.below (star_ok cell_ok rfS_ok) hb)
      clear hb c1 he r0 r1 r2 r3 r4 r5 r6 r7 rf
      have hp2 : p < w2.heap.size := by have := R2.out.size; omega
      have hg2 : g < w2.heap.size := by have := R2.out.size; omega
      obtain ⟨G2, hG2⟩ := R2.out.drop.get
      obtain ⟨r0, r1, r2, r3, r4, r5, r6, r7, rf⟩ := HROW.out _ _ hG2
      clear hG2
      go_wp2_with fail
      refine wp_region_lew [7] [0, 0, 0, 0, 0, 0, 0, 1] (fun w' => w' = (w2.alloc (.cells #[.string zi, .slice zA zms.length zc, .slice zB zps.length zd, .int .i64 zq, .int .i64 zu, .int .i64 zf, .int .i64 zt] 56)).drew) (fun _ => True) (fun _ => True) (fun _ => True) (fun _ _ => trivial) (fun _ h => h) (fun _ h => h) (by kernel_rfl) (by kernel_rfl) (by kernel_rfl) (by kernel_rfl) rfl ?_
      have R3 := hide ((R2.out.fresh (star_ok cell_ok rfS_ok) (cell_new w2 #[.string zi, .slice zA zms.length zc, .slice zB zps.length zd, .int .i64 zq, .int .i64 zu, .int .i64 zf, .int .i64 zt] 56)).drew (star_ok cell_ok (star_ok cell_ok rfS_ok)))
      generalize (w2.alloc (.cells #[.string zi, .slice zA zms.length zc, .slice zB zps.length zd, .int .i64 zq, .int .i64 zu, .int .i64 zf, .int .i64 zt] 56)).drew = w3 at *
      clear r0 r1 r2 r3 r4 r5 r6 r7 rf R2
      obtain ⟨G3, hG3⟩ := R3.out.drop.drop.get
      obtain ⟨r0, r1, r2, r3, r4, r5, r6, r7, rf⟩ := HROW.out _ _ hG3
      obtain ⟨G4, hG4⟩ := R3.out.rot.fst
      have x0 := cell_at hG4 (i := 0) rfl
      have x1 := cell_at hG4 (i := 1) rfl
      have x2 := cell_at hG4 (i := 2) rfl
      have x3 := cell_at hG4 (i := 3) rfl
      have x4 := cell_at hG4 (i := 4) rfl
      have x5 := cell_at hG4 (i := 5) rfl
      have x6 := cell_at hG4 (i := 6) rfl
      clear hG3 hG4
      (repeat (first | (refine lew_skip (by rfl) (by rfl) ?_; try simp only [Act.put, List.setIfInBounds_toArray, List.set_cons_zero, List.set_cons_succ]) | (refine lew_read0 (v := ?_) (by rfl) (by rfl) ?_ ?_; rotate_left; (focus (intro w' hS'; go_simp; (try with_reducible rfl); done)); try simp only [Act.put, List.setIfInBounds_toArray, List.set_cons_zero, List.set_cons_succ]) | (refine lew_read1 (v := ?_) (by rfl) (by rfl) ?_ ?_; rotate_left; (focus (intro w' hS'; go_simp; (try with_reducible rfl); done)); try simp only [Act.put, List.setIfInBounds_toArray, List.set_cons_zero, List.set_cons_succ]) | (refine lew_read2 (v := ?_) (by rfl) (by rfl) ?_ ?_; rotate_left; (focus (intro w' hS'; go_simp; (try with_reducible rfl); done)); try simp only [Act.put, List.setIfInBounds_toArray, List.set_cons_zero, List.set_cons_succ]) | (refine lew_read3 (v := ?_) (by rfl) (by rfl) ?_ ?_; rotate_left; (focus (intro w' hS'; go_simp; (try with_reducible rfl); done)); try simp only [Act.put, List.setIfInBounds_toArray, List.set_cons_zero, List.set_cons_succ]) | (refine lew_read4 (v := ?_) (by rfl) (by rfl) ?_ ?_; rotate_left; (focus (intro w' hS'; go_simp; (try with_reducible rfl); done)); try simp only [Act.put, List.setIfInBounds_toArray, List.set_cons_zero, List.set_cons_succ])))
      refine lew_chain1 rfl (by rfl) (fun K hK => ?_)
      go_wp2_with fail
      refine hK.out _ _ trivial (lew_nil ?_)
      clear hK r0 r1 r2 r3 r4 r5 r6 r7 rf x0 x1 x2 x3 x4 x5 x6
      obtain ⟨F4, hr4, bk4⟩ := (R3.out.perm (by ac_rfl : _ = star (RfS b p s) (star (CellO w2.heap.size #[.string zi, .slice zA zms.length zc, .slice zB zps.length zd, .int .i64 zq, .int .i64 zu, .int .i64 zf, .int .i64 zt] 56) (CellO w.heap.size #[.string zi, .slice zA zms.length zc, .slice zB zps.length zd, .int .i64 q, .int .i64 u, .int .i64 zf, .int .i64 t] 56)))).sub rfS_ok (star_ok cell_ok cell_ok)
      have R4 := bk4 _ _ rfS_ok (HST.out _ _ _ hr4)
      simp only [List.foldl_cons, List.foldl_nil, Nat.add_zero] at R4
      clear hr4 bk4 R3
      have R4 := hide R4
      generalize (((((((w3.setCell ⟨g, i * 7, none⟩ (.string zi)).setCell ⟨g, i * 7 + 1, none⟩ (.slice zA zms.length zc)).setCell ⟨g, i * 7 + 2, none⟩ (.slice zB zps.length zd)).setCell ⟨g, i * 7 + 3, none⟩ (.int .i64 q)).setCell ⟨g, i * 7 + 4, none⟩ (.int .i64 u)).setCell ⟨g, i * 7 + 5, none⟩ (.int .i64 zf)).setCell ⟨g, i * 7 + 6, none⟩ (.int .i64 t)) = w4 at *
      obtain ⟨G4, hG4⟩ := R4.out.fst
      go_wp2_with fail
      refine (KL.out _ G4 hG4).mono ?_
      rintro e w5 ⟨rfl, hb⟩
      have OK5 := hide (star_ok rfS_ok (star_ok cell_ok cell_ok) : (star (RfS b' p ({ s with zs := s.zs.set i (⟨⟨zi, zms, zps, q, u, zf, t⟩, zA, zc, zB, zd⟩ : ZL) } : RfP)) (star (CellO w2.heap.size #[.string zi, .slice zA zms.length zc, .slice zB zps.length zd, .int .i64 zq, .int .i64 zu, .int .i64 zf, .int .i64 zt] 56) (CellO w.heap.size #[.string zi, .slice zA zms.length zc, .slice zB zps.length zd, .int .i64 q, .int .i64 u, .int .i64 zf, .int .i64 t] 56))).Ok)
      have R5 := hide (R4.out.below OK5.out hb)
      have R6 := hide (R5.out.fresh OK5.out (cell_new w5 #[.int .i64 (q - su), .int .i64 (u - sn)] 66))
      clear hb R4 hG4
      go_wp2_with fail
      refine wp_region_lew [7] [0, 0, 0, 0, 0, 0, 0, 1] (fun w' => w' = (w5.alloc (.cells #[.int .i64 (q - su), .int .i64 (u - sn)] 66)).drew) (fun _ => True) (fun _ => True) (fun _ => True) (fun _ _ => trivial) (fun _ h => h) (fun _ h => h) (by kernel_rfl) (by kernel_rfl) (by kernel_rfl) (by kernel_rfl) rfl ?_
      have R7 := hide (R6.out.drew (star_ok cell_ok OK5.out))
      generalize (w5.alloc (.cells #[.int .i64 (q - su), .int .i64 (u - sn)] 66)).drew = w6 at *
      clear R5 R6
      obtain ⟨G3, hG3⟩ := R7.out.drop.fst
      obtain ⟨r0, rc, rf⟩ := HROW2.out _ _ hG3
      have r1 := rc 0 _ (by omega) rfl
      rw [Nat.add_zero] at r1
      have r2 := rc 1 _ (by omega) rfl
      have r3 := rc 2 _ (by omega) rfl
      have r4 := rc 3 _ (by omega) rfl
      have r5 := rc 4 _ (by omega) rfl
      have r6 := rc 5 _ (by omega) rfl
      have r7 := rc 6 _ (by omega) rfl
      obtain ⟨G4, hG4⟩ := R7.out.drop.drop.fst
      have x0 := cell_at hG4 (i := 0) rfl
      have x1 := cell_at hG4 (i := 1) rfl
      have x2 := cell_at hG4 (i := 2) rfl
      have x3 := cell_at hG4 (i := 3) rfl
      have x4 := cell_at hG4 (i := 4) rfl
      have x5 := cell_at hG4 (i := 5) rfl
      have x6 := cell_at hG4 (i := 6) rfl
      clear hG3 hG4 rc
      (repeat (first | (refine lew_skip (by rfl) (by rfl) ?_; try simp only [Act.put, List.setIfInBounds_toArray, List.set_cons_zero, List.set_cons_succ]) | (refine lew_read0 (v := ?_) (by rfl) (by rfl) ?_ ?_; rotate_left; (focus (intro w' hS'; go_simp; (try with_reducible rfl); done)); try simp only [Act.put, List.setIfInBounds_toArray, List.set_cons_zero, List.set_cons_succ]) | (refine lew_read1 (v := ?_) (by rfl) (by rfl) ?_ ?_; rotate_left; (focus (intro w' hS'; go_simp; (try with_reducible rfl); done)); try simp only [Act.put, List.setIfInBounds_toArray, List.set_cons_zero, List.set_cons_succ]) | (refine lew_read2 (v := ?_) (by rfl) (by rfl) ?_ ?_; rotate_left; (focus (intro w' hS'; go_simp; (try with_reducible rfl); done)); try simp only [Act.put, List.setIfInBounds_toArray, List.set_cons_zero, List.set_cons_succ]) | (refine lew_read3 (v := ?_) (by rfl) (by rfl) ?_ ?_; rotate_left; (focus (intro w' hS'; go_simp; (try with_reducible rfl); done)); try simp only [Act.put, List.setIfInBounds_toArray, List.set_cons_zero, List.set_cons_succ]) | (refine lew_read4 (v := ?_) (by rfl) (by rfl) ?_ ?_; rotate_left; (focus (intro w' hS'; go_simp; (try with_reducible rfl); done)); try simp only [Act.put, List.setIfInBounds_toArray, List.set_cons_zero, List.set_cons_succ])))
      refine lew_chain1 rfl (by rfl) (fun K hK => ?_)
      go_wp2_with fail
      refine hK.out _ _ trivial (lew_nil ?_)
      clear hK r0 r1 r2 r3 r4 r5 r6 r7 rf x0 x1 x2 x3 x4 x5 x6
      obtain ⟨F4, hr4, bk4⟩ := (R7.out.perm (by ac_rfl : _ = star (RfS b' p ({ s with zs := s.zs.set i (⟨⟨zi, zms, zps, q, u, zf, t⟩, zA, zc, zB, zd⟩ : ZL) } : RfP)) (star (CellO w5.heap.size #[.int .i64 (q - su), .int .i64 (u - sn)] 66) (star (CellO w2.heap.size #[.string zi, .slice zA zms.length zc, .slice zB zps.length zd, .int .i64 zq, .int .i64 zu, .int .i64 zf, .int .i64 zt] 56) (CellO w.heap.size #[.string zi, .slice zA zms.length zc, .slice zB zps.length zd, .int .i64 q, .int .i64 u, .int .i64 zf, .int .i64 t] 56))))).sub rfS_ok (star_ok cell_ok (star_ok cell_ok cell_ok))
      have R8 := (bk4 _ _ rfS_ok (HBK.out _ _ _ hr4))
      simp only [List.foldl_cons, List.foldl_nil, Nat.add_zero] at R8
      clear hr4 bk4 R7
      have HP := hide (R8.swap.drop.post rfS_ok)
      generalize (((((((w6.setCell ⟨g, i * 7, none⟩ (.string zi)).setCell ⟨g, i * 7 + 1, none⟩ (.slice zA zms.length zc)).setCell ⟨g, i * 7 + 2, none⟩ (.slice zB zps.length zd)).setCell ⟨g, i * 7 + 3, none⟩ (.int .i64 zq)).setCell ⟨g, i * 7 + 4, none⟩ (.int .i64 zu)).setCell ⟨g, i * 7 + 5, none⟩ (.int .i64 zf)).setCell ⟨g, i * 7 + 6, none⟩ (.int .i64 zt)) = w7 at *
      clear R8
      go_wp2_with fail
      go_ret
      exact RfPost.of HZ.out HP.out
    by_cases hu : u < (gat b i).sn
    · have e : amendR b id q u t = (19, b) := by unfold amendR; rw [hf]; simp [h0, hvz, hv, hu]
      rw [e]
      generalize (gat b i).su = su at *
      generalize (gat b i).sn = sn at *
      have d1 : decide (q - su < 0) = false := decide_eq_false (by omega)
      have d2 : decide (u - sn < 0) = true := decide_eq_true (by omega)
      obtain ⟨r0, r1, r2, r3, r4, r5, r6, r7, rf⟩ := hrow.out
      clear hz hS hI hf e hR hE hge h0 e2 hzz hzl hzin hA hin hv hvz hrow hb' hI' hz' hi' hga
      unfold gptr at *
      go_enter Try.func86, Try.ntmps86
      go_wp2_with fail
      refine KF.out.mono ?_
      rintro e w' ⟨rfl, rfl⟩
      go_wp2_with fail
      refine (KV.out _ BX.out.bel).mono ?_
      rintro e w2 ⟨rfl, hb⟩
      have R2 := hide (R1.out.below (star_ok cell_ok rfS_ok) hb)
      clear hb c1 he r0 r1 r2 r3 r4 r5 r6 r7 rf
      have hp2 : p < w2.heap.size := by have := R2.out.size; omega
      have hg2 : g < w2.heap.size := by have := R2.out.size; omega
      obtain ⟨G2, hG2⟩ := R2.out.drop.get
      obtain ⟨r0, r1, r2, r3, r4, r5, r6, r7, rf⟩ := HROW.out _ _ hG2
      clear hG2
      go_wp2_with fail
      refine wp_region_lew [7] [0, 0, 0, 0, 0, 0, 0, 1] (fun w' => w' = (w2.alloc (.cells #[.string zi, .slice zA zms.length zc, .slice zB zps.length zd, .int .i64 zq, .int .i64 zu, .int .i64 zf, .int .i64 zt] 56)).drew) (fun _ => True) (fun _ => True) (fun _ => True) (fun _ _ => trivial) (fun _ h => h) (fun _ h => h) (by kernel_rfl) (by kernel_rfl) (by kernel_rfl) (by kernel_rfl) rfl ?_
      have R3 := hide ((R2.out.fresh (star_ok cell_ok rfS_ok) (cell_new w2 #[.string zi, .slice zA zms.length zc, .slice zB zps.length zd, .int .i64 zq, .int .i64 zu, .int .i64 zf, .int .i64 zt] 56)).drew (star_ok cell_ok (star_ok cell_ok rfS_ok)))
      generalize (w2.alloc (.cells #[.string zi, .slice zA zms.length zc, .slice zB zps.length zd, .int .i64 zq, .int .i64 zu, .int .i64 zf, .int .i64 zt] 56)).drew = w3 at *
      clear r0 r1 r2 r3 r4 r5 r6 r7 rf R2
      obtain ⟨G3, hG3⟩ := R3.out.drop.drop.get
      obtain ⟨r0, r1, r2, r3, r4, r5, r6, r7, rf⟩ := HROW.out _ _ hG3
      obtain ⟨G4, hG4⟩ := R3.out.rot.fst
      have x0 := cell_at hG4 (i := 0) rfl
      have x1 := cell_at hG4 (i := 1) rfl
      have x2 := cell_at hG4 (i := 2) rfl
      have x3 := cell_at hG4 (i := 3) rfl
      have x4 := cell_at hG4 (i := 4) rfl
      have x5 := cell_at hG4 (i := 5) rfl
      have x6 := cell_at hG4 (i := 6) rfl
      clear hG3 hG4
      (repeat (first | (refine lew_skip (by rfl) (by rfl) ?_; try simp only [Act.put, List.setIfInBounds_toArray, List.set_cons_zero, List.set_cons_succ]) | (refine lew_read0 (v := ?_) (by rfl) (by rfl) ?_ ?_; rotate_left; (focus (intro w' hS'; go_simp; (try with_reducible rfl); done)); try simp only [Act.put, List.setIfInBounds_toArray, List.set_cons_zero, List.set_cons_succ]) | (refine lew_read1 (v := ?_) (by rfl) (by rfl) ?_ ?_; rotate_left; (focus (intro w' hS'; go_simp; (try with_reducible rfl); done)); try simp only [Act.put, List.setIfInBounds_toArray, List.set_cons_zero, List.set_cons_succ]) | (refine lew_read2 (v := ?_) (by rfl) (by rfl) ?_ ?_; rotate_left; (focus (intro w' hS'; go_simp; (try with_reducible rfl); done)); try simp only [Act.put, List.setIfInBounds_toArray, List.set_cons_zero, List.set_cons_succ]) | (refine lew_read3 (v := ?_) (by rfl) (by rfl) ?_ ?_; rotate_left; (focus (intro w' hS'; go_simp; (try with_reducible rfl); done)); try simp only [Act.put, List.setIfInBounds_toArray, List.set_cons_zero, List.set_cons_succ]) | (refine lew_read4 (v := ?_) (by rfl) (by rfl) ?_ ?_; rotate_left; (focus (intro w' hS'; go_simp; (try with_reducible rfl); done)); try simp only [Act.put, List.setIfInBounds_toArray, List.set_cons_zero, List.set_cons_succ])))
      refine lew_chain1 rfl (by rfl) (fun K hK => ?_)
      go_wp2_with fail
      refine hK.out _ _ trivial (lew_nil ?_)
      clear hK r0 r1 r2 r3 r4 r5 r6 r7 rf x0 x1 x2 x3 x4 x5 x6
      obtain ⟨F4, hr4, bk4⟩ := (R3.out.perm (by ac_rfl : _ = star (RfS b p s) (star (CellO w2.heap.size #[.string zi, .slice zA zms.length zc, .slice zB zps.length zd, .int .i64 zq, .int .i64 zu, .int .i64 zf, .int .i64 zt] 56) (CellO w.heap.size #[.string zi, .slice zA zms.length zc, .slice zB zps.length zd, .int .i64 q, .int .i64 u, .int .i64 zf, .int .i64 t] 56)))).sub rfS_ok (star_ok cell_ok cell_ok)
      have R4 := bk4 _ _ rfS_ok (HST.out _ _ _ hr4)
      simp only [List.foldl_cons, List.foldl_nil, Nat.add_zero] at R4
      clear hr4 bk4 R3
      have R4 := hide R4
      generalize (((((((w3.setCell ⟨g, i * 7, none⟩ (.string zi)).setCell ⟨g, i * 7 + 1, none⟩ (.slice zA zms.length zc)).setCell ⟨g, i * 7 + 2, none⟩ (.slice zB zps.length zd)).setCell ⟨g, i * 7 + 3, none⟩ (.int .i64 q)).setCell ⟨g, i * 7 + 4, none⟩ (.int .i64 u)).setCell ⟨g, i * 7 + 5, none⟩ (.int .i64 zf)).setCell ⟨g, i * 7 + 6, none⟩ (.int .i64 t)) = w4 at *
      obtain ⟨G4, hG4⟩ := R4.out.fst
      go_wp2_with fail
      refine (KL.out _ G4 hG4).mono ?_
      rintro e w5 ⟨rfl, hb⟩
      have OK5 := hide (star_ok rfS_ok (star_ok cell_ok cell_ok) : (star (RfS b' p ({ s with zs := s.zs.set i (⟨⟨zi, zms, zps, q, u, zf, t⟩, zA, zc, zB, zd⟩ : ZL) } : RfP)) (star (CellO w2.heap.size #[.string zi, .slice zA zms.length zc, .slice zB zps.length zd, .int .i64 zq, .int .i64 zu, .int .i64 zf, .int .i64 zt] 56) (CellO w.heap.size #[.string zi, .slice zA zms.length zc, .slice zB zps.length zd, .int .i64 q, .int .i64 u, .int .i64 zf, .int .i64 t] 56))).Ok)
      have R5 := hide (R4.out.below OK5.out hb)
      have R6 := hide (R5.out.fresh OK5.out (cell_new w5 #[.int .i64 (q - su), .int .i64 (u - sn)] 66))
      clear hb R4 hG4
      go_wp2_with fail
      refine wp_region_lew [7] [0, 0, 0, 0, 0, 0, 0, 1] (fun w' => w' = (w5.alloc (.cells #[.int .i64 (q - su), .int .i64 (u - sn)] 66)).drew) (fun _ => True) (fun _ => True) (fun _ => True) (fun _ _ => trivial) (fun _ h => h) (fun _ h => h) (by kernel_rfl) (by kernel_rfl) (by kernel_rfl) (by kernel_rfl) rfl ?_
      have R7 := hide (R6.out.drew (star_ok cell_ok OK5.out))
      generalize (w5.alloc (.cells #[.int .i64 (q - su), .int .i64 (u - sn)] 66)).drew = w6 at *
      clear R5 R6
      obtain ⟨G3, hG3⟩ := R7.out.drop.fst
      obtain ⟨r0, rc, rf⟩ := HROW2.out _ _ hG3
      have r1 := rc 0 _ (by omega) rfl
      rw [Nat.add_zero] at r1
      have r2 := rc 1 _ (by omega) rfl
      have r3 := rc 2 _ (by omega) rfl
      have r4 := rc 3 _ (by omega) rfl
      have r5 := rc 4 _ (by omega) rfl
      have r6 := rc 5 _ (by omega) rfl
      have r7 := rc 6 _ (by omega) rfl
      obtain ⟨G4, hG4⟩ := R7.out.drop.drop.fst
      have x0 := cell_at hG4 (i := 0) rfl
      have x1 := cell_at hG4 (i := 1) rfl
      have x2 := cell_at hG4 (i := 2) rfl
      have x3 := cell_at hG4 (i := 3) rfl
      have x4 := cell_at hG4 (i := 4) rfl
      have x5 := cell_at hG4 (i := 5) rfl
      have x6 := cell_at hG4 (i := 6) rfl
      clear hG3 hG4 rc
      (repeat (first | (refine lew_skip (by rfl) (by rfl) ?_; try simp only [Act.put, List.setIfInBounds_toArray, List.set_cons_zero, List.set_cons_succ]) | (refine lew_read0 (v := ?_) (by rfl) (by rfl) ?_ ?_; rotate_left; (focus (intro w' hS'; go_simp; (try with_reducible rfl); done)); try simp only [Act.put, List.setIfInBounds_toArray, List.set_cons_zero, List.set_cons_succ]) | (refine lew_read1 (v := ?_) (by rfl) (by rfl) ?_ ?_; rotate_left; (focus (intro w' hS'; go_simp; (try with_reducible rfl); done)); try simp only [Act.put, List.setIfInBounds_toArray, List.set_cons_zero, List.set_cons_succ]) | (refine lew_read2 (v := ?_) (by rfl) (by rfl) ?_ ?_; rotate_left; (focus (intro w' hS'; go_simp; (try with_reducible rfl); done)); try simp only [Act.put, List.setIfInBounds_toArray, List.set_cons_zero, List.set_cons_succ]) | (refine lew_read3 (v := ?_) (by rfl) (by rfl) ?_ ?_; rotate_left; (focus (intro w' hS'; go_simp; (try with_reducible rfl); done)); try simp only [Act.put, List.setIfInBounds_toArray, List.set_cons_zero, List.set_cons_succ]) | (refine lew_read4 (v := ?_) (by rfl) (by rfl) ?_ ?_; rotate_left; (focus (intro w' hS'; go_simp; (try with_reducible rfl); done)); try simp only [Act.put, List.setIfInBounds_toArray, List.set_cons_zero, List.set_cons_succ])))
      refine lew_chain1 rfl (by rfl) (fun K hK => ?_)
      go_wp2_with fail
      refine hK.out _ _ trivial (lew_nil ?_)
      clear hK r0 r1 r2 r3 r4 r5 r6 r7 rf x0 x1 x2 x3 x4 x5 x6
      obtain ⟨F4, hr4, bk4⟩ := (R7.out.perm (by ac_rfl : _ = star (RfS b' p ({ s with zs := s.zs.set i (⟨⟨zi, zms, zps, q, u, zf, t⟩, zA, zc, zB, zd⟩ : ZL) } : RfP)) (star (CellO w5.heap.size #[.int .i64 (q - su), .int .i64 (u - sn)] 66) (star (CellO w2.heap.size #[.string zi, .slice zA zms.length zc, .slice zB zps.length zd, .int .i64 zq, .int .i64 zu, .int .i64 zf, .int .i64 zt] 56) (CellO w.heap.size #[.string zi, .slice zA zms.length zc, .slice zB zps.length zd, .int .i64 q, .int .i64 u, .int .i64 zf, .int .i64 t] 56))))).sub rfS_ok (star_ok cell_ok (star_ok cell_ok cell_ok))
      have R8 := (bk4 _ _ rfS_ok (HBK.out _ _ _ hr4))
      simp only [List.foldl_cons, List.foldl_nil, Nat.add_zero] at R8
      clear hr4 bk4 R7
      have HP := hide (R8.swap.drop.post rfS_ok)
      generalize (((((((w6.setCell ⟨g, i * 7, none⟩ (.string zi)).setCell ⟨g, i * 7 + 1, none⟩ (.slice zA zms.length zc)).setCell ⟨g, i * 7 + 2, none⟩ (.slice zB zps.length zd)).setCell ⟨g, i * 7 + 3, none⟩ (.int .i64 zq)).setCell ⟨g, i * 7 + 4, none⟩ (.int .i64 zu)).setCell ⟨g, i * 7 + 5, none⟩ (.int .i64 zf)).setCell ⟨g, i * 7 + 6, none⟩ (.int .i64 zt)) = w7 at *
      clear R8
      go_wp2_with fail
      go_ret
      exact RfPost.of HZ.out HP.out
    have e : amendR b id q u t = (0, b') := by unfold amendR; rw [hf, hb', ← show amendL (gat b i).l q u t = (⟨zi, zms, zps, q, u, zf, t⟩ : LicM) by rw [← hzl]; rfl]; simp [h0, hvz, hv, hq, hu]
    rw [e]
    generalize (gat b i).su = su at *
    generalize (gat b i).sn = sn at *
    have d1 : decide (q - su < 0) = false := decide_eq_false (by omega)
    have d2 : decide (u - sn < 0) = false := decide_eq_false (by omega)
    obtain ⟨r0, r1, r2, r3, r4, r5, r6, r7, rf⟩ := hrow.out
    clear hz hS hI hf e hR hE hge h0 e2 hzz hzl hzin hA hin hv hvz hrow hb' hI' hz' hi' hga
    unfold gptr at *
    go_enter Try.func86, Try.ntmps86
    go_wp2_with fail
    refine KF.out.mono ?_
    rintro e w' ⟨rfl, rfl⟩
    go_wp2_with fail
    refine (KV.out _ BX.out.bel).mono ?_
    rintro e w2 ⟨rfl, hb⟩
    have R2 := hide (R1.out.below (star_ok cell_ok rfS_ok) hb)
    clear hb c1 he r0 r1 r2 r3 r4 r5 r6 r7 rf
    have hp2 : p < w2.heap.size := by have := R2.out.size; omega
    have hg2 : g < w2.heap.size := by have := R2.out.size; omega
    obtain ⟨G2, hG2⟩ := R2.out.drop.get
    obtain ⟨r0, r1, r2, r3, r4, r5, r6, r7, rf⟩ := HROW.out _ _ hG2
    clear hG2
    go_wp2_with fail
    refine wp_region_lew [7] [0, 0, 0, 0, 0, 0, 0, 1] (fun w' => w' = (w2.alloc (.cells #[.string zi, .slice zA zms.length zc, .slice zB zps.length zd, .int .i64 zq, .int .i64 zu, .int .i64 zf, .int .i64 zt] 56)).drew) (fun _ => True) (fun _ => True) (fun _ => True) (fun _ _ => trivial) (fun _ h => h) (fun _ h => h) (by kernel_rfl) (by kernel_rfl) (by kernel_rfl) (by kernel_rfl) rfl ?_
    have R3 := hide ((R2.out.fresh (star_ok cell_ok rfS_ok) (cell_new w2 #[.string zi, .slice zA zms.length zc, .slice zB zps.length zd, .int .i64 zq, .int .i64 zu, .int .i64 zf, .int .i64 zt] 56)).drew (star_ok cell_ok (star_ok cell_ok rfS_ok)))
    generalize (w2.alloc (.cells #[.string zi, .slice zA zms.length zc, .slice zB zps.length zd, .int .i64 zq, .int .i64 zu, .int .i64 zf, .int .i64 zt] 56)).drew = w3 at *
    clear r0 r1 r2 r3 r4 r5 r6 r7 rf R2
    obtain ⟨G3, hG3⟩ := R3.out.drop.drop.get
    obtain ⟨r0, r1, r2, r3, r4, r5, r6, r7, rf⟩ := HROW.out _ _ hG3
    obtain ⟨G4, hG4⟩ := R3.out.rot.fst
    have x0 := cell_at hG4 (i := 0) rfl
    have x1 := cell_at hG4 (i := 1) rfl
    have x2 := cell_at hG4 (i := 2) rfl
    have x3 := cell_at hG4 (i := 3) rfl
    have x4 := cell_at hG4 (i := 4) rfl
    have x5 := cell_at hG4 (i := 5) rfl
    have x6 := cell_at hG4 (i := 6) rfl
    clear hG3 hG4
    (repeat (first | (refine lew_skip (by rfl) (by rfl) ?_; try simp only [Act.put, List.setIfInBounds_toArray, List.set_cons_zero, List.set_cons_succ]) | (refine lew_read0 (v := ?_) (by rfl) (by rfl) ?_ ?_; rotate_left; (focus (intro w' hS'; go_simp; (try with_reducible rfl); done)); try simp only [Act.put, List.setIfInBounds_toArray, List.set_cons_zero, List.set_cons_succ]) | (refine lew_read1 (v := ?_) (by rfl) (by rfl) ?_ ?_; rotate_left; (focus (intro w' hS'; go_simp; (try with_reducible rfl); done)); try simp only [Act.put, List.setIfInBounds_toArray, List.set_cons_zero, List.set_cons_succ]) | (refine lew_read2 (v := ?_) (by rfl) (by rfl) ?_ ?_; rotate_left; (focus (intro w' hS'; go_simp; (try with_reducible rfl); done)); try simp only [Act.put, List.setIfInBounds_toArray, List.set_cons_zero, List.set_cons_succ]) | (refine lew_read3 (v := ?_) (by rfl) (by rfl) ?_ ?_; rotate_left; (focus (intro w' hS'; go_simp; (try with_reducible rfl); done)); try simp only [Act.put, List.setIfInBounds_toArray, List.set_cons_zero, List.set_cons_succ]) | (refine lew_read4 (v := ?_) (by rfl) (by rfl) ?_ ?_; rotate_left; (focus (intro w' hS'; go_simp; (try with_reducible rfl); done)); try simp only [Act.put, List.setIfInBounds_toArray, List.set_cons_zero, List.set_cons_succ])))
    refine lew_chain1 rfl (by rfl) (fun K hK => ?_)
    go_wp2_with fail
    refine hK.out _ _ trivial (lew_nil ?_)
    clear hK r0 r1 r2 r3 r4 r5 r6 r7 rf x0 x1 x2 x3 x4 x5 x6
    obtain ⟨F4, hr4, bk4⟩ := (R3.out.perm (by ac_rfl : _ = star (RfS b p s) (star (CellO w2.heap.size #[.string zi, .slice zA zms.length zc, .slice zB zps.length zd, .int .i64 zq, .int .i64 zu, .int .i64 zf, .int .i64 zt] 56) (CellO w.heap.size #[.string zi, .slice zA zms.length zc, .slice zB zps.length zd, .int .i64 q, .int .i64 u, .int .i64 zf, .int .i64 t] 56)))).sub rfS_ok (star_ok cell_ok cell_ok)
    have R4 := bk4 _ _ rfS_ok (HST.out _ _ _ hr4)
    simp only [List.foldl_cons, List.foldl_nil, Nat.add_zero] at R4
    clear hr4 bk4 R3
    have R4 := hide R4
    generalize (((((((w3.setCell ⟨g, i * 7, none⟩ (.string zi)).setCell ⟨g, i * 7 + 1, none⟩ (.slice zA zms.length zc)).setCell ⟨g, i * 7 + 2, none⟩ (.slice zB zps.length zd)).setCell ⟨g, i * 7 + 3, none⟩ (.int .i64 q)).setCell ⟨g, i * 7 + 4, none⟩ (.int .i64 u)).setCell ⟨g, i * 7 + 5, none⟩ (.int .i64 zf)).setCell ⟨g, i * 7 + 6, none⟩ (.int .i64 t)) = w4 at *
    obtain ⟨G4, hG4⟩ := R4.out.fst
    go_wp2_with fail
    refine (KL.out _ G4 hG4).mono ?_
    rintro e w5 ⟨rfl, hb⟩
    have OK5 := hide (star_ok rfS_ok (star_ok cell_ok cell_ok) : (star (RfS b' p ({ s with zs := s.zs.set i (⟨⟨zi, zms, zps, q, u, zf, t⟩, zA, zc, zB, zd⟩ : ZL) } : RfP)) (star (CellO w2.heap.size #[.string zi, .slice zA zms.length zc, .slice zB zps.length zd, .int .i64 zq, .int .i64 zu, .int .i64 zf, .int .i64 zt] 56) (CellO w.heap.size #[.string zi, .slice zA zms.length zc, .slice zB zps.length zd, .int .i64 q, .int .i64 u, .int .i64 zf, .int .i64 t] 56))).Ok)
    have R5 := hide (R4.out.below OK5.out hb)
    have R6 := hide (R5.out.fresh OK5.out (cell_new w5 #[.int .i64 (q - su), .int .i64 (u - sn)] 66))
    clear hb R4 hG4
    go_wp2_with fail
    have HP := hide ((R6.out.perm (by ac_rfl : _ = star (star (CellO w5.heap.size #[.int .i64 (q - su), .int .i64 (u - sn)] 66) (star (CellO w2.heap.size #[.string zi, .slice zA zms.length zc, .slice zB zps.length zd, .int .i64 zq, .int .i64 zu, .int .i64 zf, .int .i64 zt] 56) (CellO w.heap.size #[.string zi, .slice zA zms.length zc, .slice zB zps.length zd, .int .i64 q, .int .i64 u, .int .i64 zf, .int .i64 t] 56))) (RfS b' p ({ s with zs := s.zs.set i (⟨⟨zi, zms, zps, q, u, zf, t⟩, zA, zc, zB, zd⟩ : ZL) } : RfP)))).drop.post rfS_ok)
    clear R5 R6
    go_ret
    exact RfPost.of HZ2.out HP.out
end
end Go.Proofs.Ytapabbpdfplpoaa
