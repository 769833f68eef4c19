/-
  Escrow: Send.
-/
import Derived.Test.YtapabbpdfplpoaaE11
set_option linter.unusedSimpArgs false
set_option linter.unusedVariables false
namespace Go.Proofs.Ytapabbpdfplpoaa
open Go.RowKit Go.CH Go.CH.Esc
open Go.ChangeMaps (setBlock)

theorem msgT_all {p : PrG} : msgT p.H ⟨p.conf, p.H.length, 0, false⟩ = p.H.drop p.conf := by simp [msgT]
/-- The other line's received, read beside a line that is out. -/
theorem escQ_rc {F0 : Nat → Prop} {w0 W : World} {g : GM} {p : Nat} {s : EscP} (h : Run F0 w0 (EscS g p s) W) {f t : Int} (hp : g.pair f t = true) : W.cell? ⟨s.gp (f, t), 2, none⟩ = some (.int .i64 (g.pr (f, t)).rc) := by
  obtain ⟨l, -, hl⟩ := esc_line h hp
  exact (line_cells hl).2.2.1
/-- The line, the new row beside it, as put wants it. -/
theorem send_in {w : World} {F : Nat → Prop} {N C T A Q : Own} (h : star N (star C (star T (star A Q))) w F) : star (star C (star A N)) (star T Q) w F :=
  star_assoc' (star_mono (star_rot h) (fun _ h => h) (fun F h => star_assoc' (star_rot (star_mono h (fun _ h => h) (fun F h => star_rot h)))))
theorem send_out {w : World} {F : Nat → Prop} {C A T Q : Own} (h : star (star C A) (star T Q) w F) : star C (star T (star A Q)) w F :=
  star_mono (star_assoc h) (fun _ h => h) (fun F h => star_rot h)
theorem send_run {F0 : Nat → Prop} {w0 W : World} {g : GM} {p : Nat} {s : EscP} {f t : Int} {l : LinS} {z : ZMsg} {B' : Option Addr} {d' : Nat} (hp : g.pair f t = true) (hz : LineZ (g.pr (f, t)) l) (hzt : z.ts = msgT (g.pr (f, t)).H z.m)
    (h : Run F0 w0 (star (star (CellO (s.gp (f, t)) (lcl (.slice l.A ((g.pr (f, t)).H.drop (g.pr (f, t)).conf).length l.c) (g.pr (f, t)).H.length (g.pr (f, t)).rc B' (l.zs.length + 1) d') 109) (ARow zcl zow 124 4 (.slice B' (l.zs.length + 1) d') (l.zs ++ [z])))
      (star (RowO 3 1 (.slice l.A ((g.pr (f, t)).H.drop (g.pr (f, t)).conf).length l.c) ((g.pr (f, t)).H.drop (g.pr (f, t)).conf).length (ints ((g.pr (f, t)).H.drop (g.pr (f, t)).conf))) (EscQ g p s (f, t)))) W) :
    Run F0 w0 (EscS (g.setP (f, t) { g.pr (f, t) with ms := (g.pr (f, t)).ms ++ [z.m] }) p s) W := by
  refine esc_back (l := { l with B := B', d := d', zs := l.zs ++ [z] }) (h.imp fun w F h => ?_) ⟨by simp [hz.1], fun y hy => ?_⟩ hp
  · unfold LineQ
    rw [show (l.zs ++ [z]).length = l.zs.length + 1 by simp]
    exact send_out h
  · simp at hy
    rcases hy with hy | rfl
    · exact hz.2 y hy
    · exact hzt
set_option maxRecDepth 100000 in
set_option maxHeartbeats 1600000 in
theorem send_ok {w : World} {F : Nat → Prop} {g : GM} {p : Nat} (h : EscO g p w F) {U : Int} (hI : Inv g U) {f t : Nat} (hp : g.pair f t = true) (hl : (g.pr (f, t)).H.length ≤ 1000000) (hq : (g.pr (f, t)).ms.length < 100) :
    Calls Try.prog 31 #[.pointer (some ⟨p, 0, none⟩), .int .i64 f, .int .i64 t] w (EPost w F (.int .i64 0) (g.setP (f, t) { g.pr (f, t) with ms := (g.pr (f, t)).ms ++ [⟨(g.pr (f, t)).conf, (g.pr (f, t)).H.length, (g.pr (t, f)).rc, (g.at_ f).rev⟩] }) p) := by
  have hr := (pair_is hp).1
  have hpb := pair_swap hp
  have hfl := (is_lt hr).2
  have hPr := hI.pr f t hp
  obtain ⟨s, hS⟩ := h
  have hR := hS.read
  obtain ⟨b, hb⟩ := hR.addr (by have := hI.nb; omega)
  have KL := hide (line_any hR f t)
  rw [lineV, if_pos hp] at KL
  obtain ⟨l0, hz0, hrun0⟩ := esc_line (Run.start hS) hp
  obtain ⟨-, -, -, q3⟩ := line_cells hrun0
  have hn0 : l0.zs.length = (g.pr (f, t)).ms.length := by rw [← hz0.1]; simp
  rw [hn0] at q3
  have hS1 := (Run.start hS).drew escS_ok
  obtain ⟨F1, hE1⟩ := hS1.get
  have hR1 := hE1.read
  have hc0 := hR1.c0
  rw [hb] at hc0
  obtain ⟨-, -, cr⟩ := hR1.accs b hb f hr
  have rc := escQ_rc hS1 hpb
  obtain ⟨l, hz, hrun⟩ := esc_line hS1 hp
  obtain ⟨d0, d1, -, -⟩ := line_cells hrun
  simp only [Int.toNat_natCast] at cr hfl
  have hnz : l.zs.length = (g.pr (f, t)).ms.length := by rw [← hz.1]; simp
  have hnl : ((g.pr (f, t)).H.drop (g.pr (f, t)).conf).length ≤ 100 := by rw [List.length_drop]; have := hPr.few; omega
  obtain ⟨FT, hT⟩ := hrun.rot.fst
  have KC := hide (clone_any hT.1 (by omega))
  have HRUN := hide hrun
  have HE1 := hide hE1
  have HZ := hide hz
  have e4 : ¬ ((100 : Int) ≤ (g.pr (f, t)).ms.length) := by omega
  have e3 : decide ((100 : Int) ≤ (g.pr (f, t)).ms.length) = false := by simp; omega
  generalize (g.at_ f).rev = rv at *
  generalize hN : ((g.pr (f, t)).H.drop (g.pr (f, t)).conf).length = n at *
  have HN := hide hN
  clear hT hrun hE1 hz hz0 hrun0 hS1 hR1 hS hR hI hN
  go_enter Try.func31, Try.ntmps31
  go_wp2_with fail
  refine KL.out.mono ?_
  rintro e w' ⟨rfl, rfl⟩
  go_wp2_with fail
  refine wp_region_lew [7, 15, 28] [2, 2, 2, 0, 0, 0, 0, 1, 2, 2, 2, 2, 1, 1, 1, 2, 2, 2, 2, 2, 2, 2, 2, 2, 2, 2, 2, 2, 3]
    (fun w' => w'.cell? ⟨s.gp (f, t), 0, none⟩ = some (.slice l.A n l.c) ∧ w'.cell? ⟨s.gp (f, t), 1, none⟩ = some (.int .i64 (g.pr (f, t)).H.length) ∧ w'.cell? ⟨s.gp (t, f), 2, none⟩ = some (.int .i64 (g.pr (t, f)).rc) ∧ w'.cell? ⟨p, 0, none⟩ = some (.slice (some ⟨b, 0, none⟩) g.acc.length s.c) ∧ w'.cell? ⟨b, f * 3 + 2, none⟩ = some (.bool rv))
    (fun w' => w'.cell? ⟨s.gp (f, t), 1, none⟩ = some (.int .i64 (g.pr (f, t)).H.length) ∧ w'.cell? ⟨s.gp (t, f), 2, none⟩ = some (.int .i64 (g.pr (t, f)).rc) ∧ w'.cell? ⟨p, 0, none⟩ = some (.slice (some ⟨b, 0, none⟩) g.acc.length s.c) ∧ w'.cell? ⟨b, f * 3 + 2, none⟩ = some (.bool rv))
    (fun w' => w'.cell? ⟨s.gp (f, t), 1, none⟩ = some (.int .i64 (g.pr (f, t)).H.length) ∧ w'.cell? ⟨s.gp (t, f), 2, none⟩ = some (.int .i64 (g.pr (t, f)).rc) ∧ w'.cell? ⟨p, 0, none⟩ = some (.slice (some ⟨b, 0, none⟩) g.acc.length s.c) ∧ w'.cell? ⟨b, f * 3 + 2, none⟩ = some (.bool rv))
    (fun _ => True) (fun _ h => h.2) (fun _ h => h) (fun _ _ => trivial) (by kernel_rfl) (by kernel_rfl) (by kernel_rfl) (by kernel_rfl) (by exact ⟨d0, d1, rc, hc0, cr⟩) ?_
  (repeat (first | (refine lew_skip (by rfl) (by rfl) ?_; try simp only [Act.put, List.setIfInBounds_toArray, List.set_cons_zero, List.set_cons_succ]) | (refine lew_read0 (v := ?_) (by rfl) (by rfl) ?_ ?_; rotate_left; (focus (intro w' hS'; go_simp; (try with_reducible rfl); done)); try simp only [Act.put, List.setIfInBounds_toArray, List.set_cons_zero, List.set_cons_succ]) | (refine lew_read1 (v := ?_) (by rfl) (by rfl) ?_ ?_; rotate_left; (focus (intro w' hS'; go_simp; (try with_reducible rfl); done)); try simp only [Act.put, List.setIfInBounds_toArray, List.set_cons_zero, List.set_cons_succ]) | (refine lew_read2 (v := ?_) (by rfl) (by rfl) ?_ ?_; rotate_left; (focus (intro w' hS'; go_simp; (try with_reducible rfl); done)); try simp only [Act.put, List.setIfInBounds_toArray, List.set_cons_zero, List.set_cons_succ]) | (refine lew_read3 (v := ?_) (by rfl) (by rfl) ?_ ?_; rotate_left; (focus (intro w' hS'; go_simp; (try with_reducible rfl); done)); try simp only [Act.put, List.setIfInBounds_toArray, List.set_cons_zero, List.set_cons_succ]) | (refine lew_read4 (v := ?_) (by rfl) (by rfl) ?_ ?_; rotate_left; (focus (intro w' hS'; go_simp; (try with_reducible rfl); done)); try simp only [Act.put, List.setIfInBounds_toArray, List.set_cons_zero, List.set_cons_succ])))
  refine lew_chain1 rfl (by rfl) (fun K hK => ?_)
  go_wp2_with fail
  refine KC.out.mono ?_
  rintro e w2 ⟨A', c', rfl, hP2⟩
  have S2 := hide (HRUN.out.fresh (lineQ_ok escQ_ok) hP2)
  obtain ⟨FN, -, hM, -⟩ := hP2
  have hbel : Below w.drew.heap.size w.drew w2 := hM.below (fun _ _ h => h)
  have KB := hide (line_any (EscR.below HE1.out hbel) t f)
  rw [lineV, if_pos hpb] at KB
  have d1' : w2.cell? ⟨s.gp (f, t), 1, none⟩ = some (.int .i64 (g.pr (f, t)).H.length) := by rw [hbel.cell (World.block_lt_of_cell? _ _ d1)]; exact d1
  have rc' : w2.cell? ⟨s.gp (t, f), 2, none⟩ = some (.int .i64 (g.pr (t, f)).rc) := by rw [hbel.cell (World.block_lt_of_cell? _ _ rc)]; exact rc
  have hc0' : w2.cell? ⟨p, 0, none⟩ = some (.slice (some ⟨b, 0, none⟩) g.acc.length s.c) := by rw [hbel.cell (World.block_lt_of_cell? _ _ hc0)]; exact hc0
  have cr' : w2.cell? ⟨b, f * 3 + 2, none⟩ = some (.bool rv) := by rw [hbel.cell (World.block_lt_of_cell? _ _ cr)]; exact cr
  refine hK.out _ _ ⟨d1', rc', hc0', cr'⟩ ?_
  clear hK hM hbel d0 d1 rc hc0 cr KC HE1
  (repeat (first | (refine lew_skip (by rfl) (by rfl) ?_; try simp only [Act.put, List.setIfInBounds_toArray, List.set_cons_zero, List.set_cons_succ]) | (refine lew_read0 (v := ?_) (by rfl) (by rfl) ?_ ?_; rotate_left; (focus (intro w' hS'; go_simp; (try with_reducible rfl); done)); try simp only [Act.put, List.setIfInBounds_toArray, List.set_cons_zero, List.set_cons_succ]) | (refine lew_read1 (v := ?_) (by rfl) (by rfl) ?_ ?_; rotate_left; (focus (intro w' hS'; go_simp; (try with_reducible rfl); done)); try simp only [Act.put, List.setIfInBounds_toArray, List.set_cons_zero, List.set_cons_succ]) | (refine lew_read2 (v := ?_) (by rfl) (by rfl) ?_ ?_; rotate_left; (focus (intro w' hS'; go_simp; (try with_reducible rfl); done)); try simp only [Act.put, List.setIfInBounds_toArray, List.set_cons_zero, List.set_cons_succ]) | (refine lew_read3 (v := ?_) (by rfl) (by rfl) ?_ ?_; rotate_left; (focus (intro w' hS'; go_simp; (try with_reducible rfl); done)); try simp only [Act.put, List.setIfInBounds_toArray, List.set_cons_zero, List.set_cons_succ]) | (refine lew_read4 (v := ?_) (by rfl) (by rfl) ?_ ?_; rotate_left; (focus (intro w' hS'; go_simp; (try with_reducible rfl); done)); try simp only [Act.put, List.setIfInBounds_toArray, List.set_cons_zero, List.set_cons_succ])))
  refine lew_chain2 rfl (by rfl) (fun K hK => ?_)
  go_wp2_with fail
  refine KB.out.mono ?_
  rintro e w' ⟨rfl, rfl⟩
  refine hK.out _ _ ⟨d1', rc', hc0', cr'⟩ ?_
  clear hK
  (repeat (first | (refine lew_skip (by rfl) (by rfl) ?_; try simp only [Act.put, List.setIfInBounds_toArray, List.set_cons_zero, List.set_cons_succ]) | (refine lew_read0 (v := ?_) (by rfl) (by rfl) ?_ ?_; rotate_left; (focus (intro w' hS'; go_simp; (try with_reducible rfl); done)); try simp only [Act.put, List.setIfInBounds_toArray, List.set_cons_zero, List.set_cons_succ]) | (refine lew_read1 (v := ?_) (by rfl) (by rfl) ?_ ?_; rotate_left; (focus (intro w' hS'; go_simp; (try with_reducible rfl); done)); try simp only [Act.put, List.setIfInBounds_toArray, List.set_cons_zero, List.set_cons_succ]) | (refine lew_read2 (v := ?_) (by rfl) (by rfl) ?_ ?_; rotate_left; (focus (intro w' hS'; go_simp; (try with_reducible rfl); done)); try simp only [Act.put, List.setIfInBounds_toArray, List.set_cons_zero, List.set_cons_succ]) | (refine lew_read3 (v := ?_) (by rfl) (by rfl) ?_ ?_; rotate_left; (focus (intro w' hS'; go_simp; (try with_reducible rfl); done)); try simp only [Act.put, List.setIfInBounds_toArray, List.set_cons_zero, List.set_cons_succ]) | (refine lew_read4 (v := ?_) (by rfl) (by rfl) ?_ ?_; rotate_left; (focus (intro w' hS'; go_simp; (try with_reducible rfl); done)); try simp only [Act.put, List.setIfInBounds_toArray, List.set_cons_zero, List.set_cons_succ])))
  refine lew_chain3 rfl (by rfl) (fun K hK => ?_)
  go_wp2_with fail
  have S3 := S2.out
  rw [← HN.out] at S3
  have X := S3.imp fun w F h => send_in h
  let z : ZMsg := ⟨⟨(g.pr (f, t)).conf, (g.pr (f, t)).H.length, (g.pr (t, f)).rc, rv⟩, (g.pr (f, t)).H.drop (g.pr (f, t)).conf, A', c'⟩
  have okP : (star (CellO (s.gp (f, t)) #[.slice l.A ((g.pr (f, t)).H.drop (g.pr (f, t)).conf).length l.c, .int .i64 (g.pr (f, t)).H.length, .int .i64 (g.pr (f, t)).rc, .slice l.B l.zs.length l.d] 109) (star (ARow zcl zow 124 4 (.slice l.B l.zs.length l.d) l.zs) (zow z))).Ok := star_ok cell_ok (star_ok (arow_ok zow_ok) (zow_ok z))
  obtain ⟨F5, hO, -, bk⟩ := X.take okP (star_ok row_ok escQ_ok)
  have KP := put_any (z := z) (n := l.zs.length) (gp := s.gp (f, t)) (s := .slice l.A ((g.pr (f, t)).H.drop (g.pr (f, t)).conf).length l.c) (last := (g.pr (f, t)).H.length) (rc := (g.pr (f, t)).rc) (B := l.B) (d := l.d) rfl (by omega) hO
  simp only [zcl, z] at KP
  rw [HN.out] at KP
  have HBK := hide bk
  have KPH := hide KP
  clear X hO bk S3 KP
  refine KPH.out.mono ?_
  rintro e w' ⟨rfl, B', d', hP5⟩
  rw [← HN.out] at hP5
  have HFIN := hide ((send_run (z := z) hp HZ.out (by simp [z, msgT]) (HBK.out _ _ hP5)).post escS_ok)
  refine hK.out _ _ trivial (lew_nil ?_)
  clear hK hP5 HBK KPH
  go_wp2
  go_ret
  obtain ⟨F', q1, q2, q3⟩ := HFIN.out
  exact ⟨rfl, F', ⟨_, q1⟩, q2, q3⟩
end Go.Proofs.Ytapabbpdfplpoaa
