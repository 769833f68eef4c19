/-
  Escrow: Send.
  Escrow: Send, whole.
  Escrow: what the loop of Deliver adds up, in plain Lean.
  Escrow: Deliver, where nothing is delivered; what a message leaves.
  Escrow: take and put at an escrow.
  Escrow: Deliver of a message that is lost.
  Escrow: Deliver of a message that is lost and comes again.
  Things owned, in any order and with any brackets.
  Escrow: operations as data; what stays true of a state under any of them.
  Escrow: the plain laws: deliveries to an empty queue, once and again, what arrives, what is confirmed, what is revoked.
-/
import Derived.Test.YtapabbpdfplpoaaJ4
import Derived.Test.YtapabbpdfplpoaaJ2
set_option linter.unusedSimpArgs false
set_option linter.unusedVariables false
namespace Go.Proofs.Ytapabbpdfplpoaa
open Go.RowKit Go.CH Go.CH.Esc
open Go.ChangeMaps (setBlock)

theorem msgT_all {p : PrG} : msgT p.H ⟨p.conf, p.H.length, 0, false⟩ = p.H.drop p.conf := by simp [msgT]
/-- The other line's received, read beside a line that is out. -/
theorem escQ_rc {F0 : Nat → Prop} {w0 W : World} {g : GM} {p : Nat} {s : EscP} (h : Run F0 w0 (EscS g p s) W) {f t : Int} (hp : g.pair f t = true) : W.cell? ⟨s.gp (f, t), 2, none⟩ = some (.int .i64 (g.pr (f, t)).rc) := by
  obtain ⟨l, -, hl⟩ := esc_line h hp
  exact (line_cells hl).2.2.1
/-- The line, the new row beside it, as put wants it. -/
theorem send_in {w : World} {F : Nat → Prop} {N C T A Q : Own} (h : star N (star C (star T (star A Q))) w F) : star (star C (star A N)) (star T Q) w F :=
  star_assoc' (star_mono (star_rot h) (fun _ h => h) (fun F h => star_assoc' (star_rot (star_mono h (fun _ h => h) (fun F h => star_rot h)))))
theorem send_out {w : World} {F : Nat → Prop} {C A T Q : Own} (h : star (star C A) (star T Q) w F) : star C (star T (star A Q)) w F :=
  star_mono (star_assoc h) (fun _ h => h) (fun F h => star_rot h)
theorem send_run {F0 : Nat → Prop} {w0 W : World} {g : GM} {p : Nat} {s : EscP} {f t : Int} {l : LinS} {z : ZMsg} {B' : Option Addr} {d' : Nat} (hp : g.pair f t = true) (hz : LineZ (g.pr (f, t)) l) (hzt : z.ts = msgT (g.pr (f, t)).H z.m)
    (h : Run F0 w0 (star (star (CellO (s.gp (f, t)) (lcl (.slice l.A ((g.pr (f, t)).H.drop (g.pr (f, t)).conf).length l.c) (g.pr (f, t)).H.length (g.pr (f, t)).rc B' (l.zs.length + 1) d') 109) (ARow zcl zow 124 4 (.slice B' (l.zs.length + 1) d') (l.zs ++ [z])))
      (star (RowO 3 1 (.slice l.A ((g.pr (f, t)).H.drop (g.pr (f, t)).conf).length l.c) ((g.pr (f, t)).H.drop (g.pr (f, t)).conf).length (ints ((g.pr (f, t)).H.drop (g.pr (f, t)).conf))) (EscQ g p s (f, t)))) W) :
    Run F0 w0 (EscS (g.setP (f, t) { g.pr (f, t) with ms := (g.pr (f, t)).ms ++ [z.m] }) p s) W := by
  refine esc_back (l := { l with B := B', d := d', zs := l.zs ++ [z] }) (h.imp fun w F h => ?_) ⟨by simp [hz.1], fun y hy => ?_⟩ hp
  · unfold LineQ
    rw [show (l.zs ++ [z]).length = l.zs.length + 1 by simp]
    exact send_out h
  · simp at hy
    rcases hy with hy | rfl
    · exact hz.2 y hy
    · exact hzt
set_option maxRecDepth 100000 in
set_option maxHeartbeats 1600000 in
theorem send_ok {w : World} {F : Nat → Prop} {g : GM} {p : Nat} (h : EscO g p w F) {U : Int} (hI : Inv g U) {f t : Nat} (hp : g.pair f t = true) (hl : (g.pr (f, t)).H.length ≤ 1000000) (hq : (g.pr (f, t)).ms.length < 100) :
    Calls Try.prog 31 #[.pointer (some ⟨p, 0, none⟩), .int .i64 f, .int .i64 t] w (EPost w F (.int .i64 0) (g.setP (f, t) { g.pr (f, t) with ms := (g.pr (f, t)).ms ++ [⟨(g.pr (f, t)).conf, (g.pr (f, t)).H.length, (g.pr (t, f)).rc, (g.at_ f).rev⟩] }) p) := by
  have hr := (pair_is hp).1
  have hpb := pair_swap hp
  have hfl := (is_lt hr).2
  have hPr := hI.pr f t hp
  obtain ⟨s, hS⟩ := h
  have hR := hS.read
  obtain ⟨b, hb⟩ := hR.addr (by have := hI.nb; omega)
  have KL := hide (line_any hR f t)
  rw [lineV, if_pos hp] at KL
  obtain ⟨l0, hz0, hrun0⟩ := esc_line (Run.start hS) hp
  obtain ⟨-, -, -, q3⟩ := line_cells hrun0
  have hn0 : l0.zs.length = (g.pr (f, t)).ms.length := by rw [← hz0.1]; simp
  rw [hn0] at q3
  have hS1 := (Run.start hS).drew escS_ok
  obtain ⟨F1, hE1⟩ := hS1.get
  have hR1 := hE1.read
  have hc0 := hR1.c0
  rw [hb] at hc0
  obtain ⟨-, -, cr⟩ := hR1.accs b hb f hr
  have rc := escQ_rc hS1 hpb
  obtain ⟨l, hz, hrun⟩ := esc_line hS1 hp
  obtain ⟨d0, d1, -, -⟩ := line_cells hrun
  simp only [Int.toNat_natCast] at cr hfl
  have hnz : l.zs.length = (g.pr (f, t)).ms.length := by rw [← hz.1]; simp
  have hnl : ((g.pr (f, t)).H.drop (g.pr (f, t)).conf).length ≤ 100 := by rw [List.length_drop]; have := hPr.few; omega
  obtain ⟨FT, hT⟩ := hrun.rot.fst
  have KC := hide (clone_any hT.1 (by omega))
  have HRUN := hide hrun
  have HE1 := hide hE1
  have HZ := hide hz
  have e4 : ¬ ((100 : Int) ≤ (g.pr (f, t)).ms.length) := by omega
  have e3 : decide ((100 : Int) ≤ (g.pr (f, t)).ms.length) = false := by simp; omega
  generalize (g.at_ f).rev = rv at *
  generalize hN : ((g.pr (f, t)).H.drop (g.pr (f, t)).conf).length = n at *
  have HN := hide hN
  clear hT hrun hE1 hz hz0 hrun0 hS1 hR1 hS hR hI hN
  go_enter Try.func31, Try.ntmps31
  go_wp2_with fail
  refine KL.out.mono ?_
  rintro e w' ⟨rfl, rfl⟩
  go_wp2_with fail
  refine wp_region_lew [7, 15, 28] [2, 2, 2, 0, 0, 0, 0, 1, 2, 2, 2, 2, 1, 1, 1, 2, 2, 2, 2, 2, 2, 2, 2, 2, 2, 2, 2, 2, 3]
    (fun w' => w'.cell? ⟨s.gp (f, t), 0, none⟩ = some (.slice l.A n l.c) ∧ w'.cell? ⟨s.gp (f, t), 1, none⟩ = some (.int .i64 (g.pr (f, t)).H.length) ∧ w'.cell? ⟨s.gp (t, f), 2, none⟩ = some (.int .i64 (g.pr (t, f)).rc) ∧ w'.cell? ⟨p, 0, none⟩ = some (.slice (some ⟨b, 0, none⟩) g.acc.length s.c) ∧ w'.cell? ⟨b, f * 3 + 2, none⟩ = some (.bool rv))
    (fun w' => w'.cell? ⟨s.gp (f, t), 1, none⟩ = some (.int .i64 (g.pr (f, t)).H.length) ∧ w'.cell? ⟨s.gp (t, f), 2, none⟩ = some (.int .i64 (g.pr (t, f)).rc) ∧ w'.cell? ⟨p, 0, none⟩ = some (.slice (some ⟨b, 0, none⟩) g.acc.length s.c) ∧ w'.cell? ⟨b, f * 3 + 2, none⟩ = some (.bool rv))
    (fun w' => w'.cell? ⟨s.gp (f, t), 1, none⟩ = some (.int .i64 (g.pr (f, t)).H.length) ∧ w'.cell? ⟨s.gp (t, f), 2, none⟩ = some (.int .i64 (g.pr (t, f)).rc) ∧ w'.cell? ⟨p, 0, none⟩ = some (.slice (some ⟨b, 0, none⟩) g.acc.length s.c) ∧ w'.cell? ⟨b, f * 3 + 2, none⟩ = some (.bool rv))
    (fun _ => True) (fun _ h => h.2) (fun _ h => h) (fun _ _ => trivial) (by kernel_rfl) (by kernel_rfl) (by kernel_rfl) (by kernel_rfl) (by exact ⟨d0, d1, rc, hc0, cr⟩) ?_
  (repeat (first | (refine lew_skip (by rfl) (by rfl) ?_; try simp only [Act.put, List.setIfInBounds_toArray, List.set_cons_zero, List.set_cons_succ]) | (refine lew_read0 (v := ?_) (by rfl) (by rfl) ?_ ?_; rotate_left; (focus (intro w' hS'; go_simp; (try with_reducible rfl); done)); try simp only [Act.put, List.setIfInBounds_toArray, List.set_cons_zero, List.set_cons_succ]) | (refine lew_read1 (v := ?_) (by rfl) (by rfl) ?_ ?_; rotate_left; (focus (intro w' hS'; go_simp; (try with_reducible rfl); done)); try simp only [Act.put, List.setIfInBounds_toArray, List.set_cons_zero, List.set_cons_succ]) | (refine lew_read2 (v := ?_) (by rfl) (by rfl) ?_ ?_; rotate_left; (focus (intro w' hS'; go_simp; (try with_reducible rfl); done)); try simp only [Act.put, List.setIfInBounds_toArray, List.set_cons_zero, List.set_cons_succ]) | (refine lew_read3 (v := ?_) (by rfl) (by rfl) ?_ ?_; rotate_left; (focus (intro w' hS'; go_simp; (try with_reducible rfl); done)); try simp only [Act.put, List.setIfInBounds_toArray, List.set_cons_zero, List.set_cons_succ]) | (refine lew_read4 (v := ?_) (by rfl) (by rfl) ?_ ?_; rotate_left; (focus (intro w' hS'; go_simp; (try with_reducible rfl); done)); try simp only [Act.put, List.setIfInBounds_toArray, List.set_cons_zero, List.set_cons_succ])))
  refine lew_chain1 rfl (by rfl) (fun K hK => ?_)
  go_wp2_with fail
  refine KC.out.mono ?_
  rintro e w2 ⟨A', c', rfl, hP2⟩
  have S2 := hide (HRUN.out.fresh (lineQ_ok escQ_ok) hP2)
  obtain ⟨FN, -, hM, -⟩ := hP2
  have hbel : Below w.drew.heap.size w.drew w2 := hM.below (fun _ _ h => h)
  have KB := hide (line_any (EscR.below HE1.out hbel) t f)
  rw [lineV, if_pos hpb] at KB
  have d1' : w2.cell? ⟨s.gp (f, t), 1, none⟩ = some (.int .i64 (g.pr (f, t)).H.length) := by rw [hbel.cell (World.block_lt_of_cell? _ _ d1)]; exact d1
  have rc' : w2.cell? ⟨s.gp (t, f), 2, none⟩ = some (.int .i64 (g.pr (t, f)).rc) := by rw [hbel.cell (World.block_lt_of_cell? _ _ rc)]; exact rc
  have hc0' : w2.cell? ⟨p, 0, none⟩ = some (.slice (some ⟨b, 0, none⟩) g.acc.length s.c) := by rw [hbel.cell (World.block_lt_of_cell? _ _ hc0)]; exact hc0
  have cr' : w2.cell? ⟨b, f * 3 + 2, none⟩ = some (.bool rv) := by rw [hbel.cell (World.block_lt_of_cell? _ _ cr)]; exact cr
  refine hK.out _ _ ⟨d1', rc', hc0', cr'⟩ ?_
  clear hK hM hbel d0 d1 rc hc0 cr KC HE1
  (repeat (first | (refine lew_skip (by rfl) (by rfl) ?_; try simp only [Act.put, List.setIfInBounds_toArray, List.set_cons_zero, List.set_cons_succ]) | (refine lew_read0 (v := ?_) (by rfl) (by rfl) ?_ ?_; rotate_left; (focus (intro w' hS'; go_simp; (try with_reducible rfl); done)); try simp only [Act.put, List.setIfInBounds_toArray, List.set_cons_zero, List.set_cons_succ]) | (refine lew_read1 (v := ?_) (by rfl) (by rfl) ?_ ?_; rotate_left; (focus (intro w' hS'; go_simp; (try with_reducible rfl); done)); try simp only [Act.put, List.setIfInBounds_toArray, List.set_cons_zero, List.set_cons_succ]) | (refine lew_read2 (v := ?_) (by rfl) (by rfl) ?_ ?_; rotate_left; (focus (intro w' hS'; go_simp; (try with_reducible rfl); done)); try simp only [Act.put, List.setIfInBounds_toArray, List.set_cons_zero, List.set_cons_succ]) | (refine lew_read3 (v := ?_) (by rfl) (by rfl) ?_ ?_; rotate_left; (focus (intro w' hS'; go_simp; (try with_reducible rfl); done)); try simp only [Act.put, List.setIfInBounds_toArray, List.set_cons_zero, List.set_cons_succ]) | (refine lew_read4 (v := ?_) (by rfl) (by rfl) ?_ ?_; rotate_left; (focus (intro w' hS'; go_simp; (try with_reducible rfl); done)); try simp only [Act.put, List.setIfInBounds_toArray, List.set_cons_zero, List.set_cons_succ])))
  refine lew_chain2 rfl (by rfl) (fun K hK => ?_)
  go_wp2_with fail
  refine KB.out.mono ?_
  rintro e w' ⟨rfl, rfl⟩
  refine hK.out _ _ ⟨d1', rc', hc0', cr'⟩ ?_
  clear hK
  (repeat (first | (refine lew_skip (by rfl) (by rfl) ?_; try simp only [Act.put, List.setIfInBounds_toArray, List.set_cons_zero, List.set_cons_succ]) | (refine lew_read0 (v := ?_) (by rfl) (by rfl) ?_ ?_; rotate_left; (focus (intro w' hS'; go_simp; (try with_reducible rfl); done)); try simp only [Act.put, List.setIfInBounds_toArray, List.set_cons_zero, List.set_cons_succ]) | (refine lew_read1 (v := ?_) (by rfl) (by rfl) ?_ ?_; rotate_left; (focus (intro w' hS'; go_simp; (try with_reducible rfl); done)); try simp only [Act.put, List.setIfInBounds_toArray, List.set_cons_zero, List.set_cons_succ]) | (refine lew_read2 (v := ?_) (by rfl) (by rfl) ?_ ?_; rotate_left; (focus (intro w' hS'; go_simp; (try with_reducible rfl); done)); try simp only [Act.put, List.setIfInBounds_toArray, List.set_cons_zero, List.set_cons_succ]) | (refine lew_read3 (v := ?_) (by rfl) (by rfl) ?_ ?_; rotate_left; (focus (intro w' hS'; go_simp; (try with_reducible rfl); done)); try simp only [Act.put, List.setIfInBounds_toArray, List.set_cons_zero, List.set_cons_succ]) | (refine lew_read4 (v := ?_) (by rfl) (by rfl) ?_ ?_; rotate_left; (focus (intro w' hS'; go_simp; (try with_reducible rfl); done)); try simp only [Act.put, List.setIfInBounds_toArray, List.set_cons_zero, List.set_cons_succ])))
  refine lew_chain3 rfl (by rfl) (fun K hK => ?_)
  go_wp2_with fail
  have S3 := S2.out
  rw [← HN.out] at S3
  have X := S3.imp fun w F h => send_in h
  let z : ZMsg := ⟨⟨(g.pr (f, t)).conf, (g.pr (f, t)).H.length, (g.pr (t, f)).rc, rv⟩, (g.pr (f, t)).H.drop (g.pr (f, t)).conf, A', c'⟩
  have okP : (star (CellO (s.gp (f, t)) #[.slice l.A ((g.pr (f, t)).H.drop (g.pr (f, t)).conf).length l.c, .int .i64 (g.pr (f, t)).H.length, .int .i64 (g.pr (f, t)).rc, .slice l.B l.zs.length l.d] 109) (star (ARow zcl zow 124 4 (.slice l.B l.zs.length l.d) l.zs) (zow z))).Ok := star_ok cell_ok (star_ok (arow_ok zow_ok) (zow_ok z))
  obtain ⟨F5, hO, -, bk⟩ := X.take okP (star_ok row_ok escQ_ok)
  have KP := put_any (z := z) (n := l.zs.length) (gp := s.gp (f, t)) (s := .slice l.A ((g.pr (f, t)).H.drop (g.pr (f, t)).conf).length l.c) (last := (g.pr (f, t)).H.length) (rc := (g.pr (f, t)).rc) (B := l.B) (d := l.d) rfl (by omega) hO
  simp only [zcl, z] at KP
  rw [HN.out] at KP
  have HBK := hide bk
  have KPH := hide KP
  clear X hO bk S3 KP
  refine KPH.out.mono ?_
  rintro e w' ⟨rfl, B', d', hP5⟩
  rw [← HN.out] at hP5
  have HFIN := hide ((send_run (z := z) hp HZ.out (by simp [z, msgT]) (HBK.out _ _ hP5)).post escS_ok)
  refine hK.out _ _ trivial (lew_nil ?_)
  clear hK hP5 HBK KPH
  go_wp2
  go_ret
  obtain ⟨F', q1, q2, q3⟩ := HFIN.out
  exact ⟨rfl, F', ⟨_, q1⟩, q2, q3⟩
end Go.Proofs.Ytapabbpdfplpoaa
namespace Go.Proofs.Ytapabbpdfplpoaa
open Go.RowKit Go.CH Go.CH.Esc
open Go.ChangeMaps (setBlock)

set_option maxHeartbeats 800000 in
theorem send_any {w : World} {F : Nat → Prop} {g : GM} {p : Nat} (h : EscO g p w F) {U : Int} (hI : Inv g U) (f t : Int) (hl : (g.pr (f, t)).H.length ≤ 1000000) :
    Calls Try.prog 31 #[.pointer (some ⟨p, 0, none⟩), .int .i64 f, .int .i64 t] w (EPost w F (.int .i64 (sendE g f t)) (sendM g f t) p) := by
  cases hp : g.pair f t with
  | false =>
    have e1 : sendE g f t = 1 := by simp [sendE, hp]
    have e2 : sendM g f t = g := by simp [sendM, e1]
    rw [e1, e2]
    have H := hide h
    obtain ⟨s, hS⟩ := h
    have KL := hide (line_any hS.read f t)
    rw [lineV, if_neg (by simp [hp])] at KL
    clear hI hl e1 e2 hS
    go_enter Try.func31, Try.ntmps31
    go_wp2_with fail
    refine KL.out.mono ?_
    rintro e w' ⟨rfl, rfl⟩
    go_wp2_with fail
    go_ret
    exact EPost.quiet H.out ⟨rfl, rfl⟩
  | true =>
    obtain ⟨hr, ht, -⟩ := pair_is hp
    obtain ⟨f', rfl⟩ : ∃ k : Nat, f = k := ⟨f.toNat, by have := (is_lt hr).1; omega⟩
    obtain ⟨t', rfl⟩ : ∃ k : Nat, t = k := ⟨t.toNat, by have := (is_lt ht).1; omega⟩
    by_cases h3 : 100 ≤ (g.pr (f', t')).ms.length
    · have e1 : sendE g f' t' = 28 := by simp [sendE, hp, h3]
      have e2 : sendM g f' t' = g := by simp [sendM, e1]
      rw [e1, e2]
      have H := hide h
      obtain ⟨s, hS⟩ := h
      have KL := hide (line_any hS.read f' t')
      rw [lineV, if_pos hp] at KL
      obtain ⟨l0, hz0, hrun0⟩ := esc_line (Run.start hS) hp
      obtain ⟨-, -, -, q3⟩ := line_cells hrun0
      have hn0 : l0.zs.length = (g.pr (f', t')).ms.length := by rw [← hz0.1]; simp
      rw [hn0] at q3
      have h4 : (100 : Int) ≤ (g.pr (f', t')).ms.length := by omega
      clear hI hl e1 e2 hS hrun0 hz0 h3
      go_enter Try.func31, Try.ntmps31
      go_wp2_with fail
      refine KL.out.mono ?_
      rintro e w' ⟨rfl, rfl⟩
      go_wp2_with fail
      go_ret
      exact EPost.quiet H.out ⟨rfl, rfl⟩
    · have e1 : sendE g f' t' = 0 := by simp [sendE, hp, h3]
      have e2 : sendM g f' t' = g.setP (f', t') { g.pr (f', t') with ms := (g.pr (f', t')).ms ++ [⟨(g.pr (f', t')).conf, (g.pr (f', t')).H.length, (g.pr (t', f')).rc, (g.at_ f').rev⟩] } := by simp only [sendM, e1, if_true]
      rw [e1, e2]
      exact send_ok h hI hp hl (by omega)
end Go.Proofs.Ytapabbpdfplpoaa
namespace Go.CH.Esc

/-- One more transfer is looked at: the j-th (from 0). -/
theorem loop_step (H : List Int) (rc j : Nat) (hj : j < H.length) : isum ((H.take (j + 1)).drop rc) = if rc ≤ j then isum ((H.take j).drop rc) + H[j] else isum ((H.take j).drop rc) := by
  rw [List.take_succ_eq_append_getElem hj]
  split
  · rename_i h
    rw [List.drop_append_of_le_length (by rw [List.length_take]; omega), isum_append]
    simp [isum]
  · rename_i h
    have h1 : (H.take j ++ [H[j]]).drop rc = [] := List.drop_eq_nil_of_le (by rw [List.length_append, List.length_take, List.length_singleton]; omega)
    have h2 : (H.take j).drop rc = [] := List.drop_eq_nil_of_le (by rw [List.length_take]; omega)
    rw [h1, h2]
theorem loop_zero (H : List Int) (rc c : Nat) (h : c ≤ rc) : isum ((H.take c).drop rc) = 0 := by
  rw [List.drop_eq_nil_of_le (by rw [List.length_take]; omega)]; rfl
/-- The number of the i-th transfer of a message. -/
theorem msg_get (H : List Int) (c up i : Nat) (hu : up ≤ H.length) (hi : c + i < up) : ((H.take up).drop c)[i]? = H[c + i]? := by
  rw [List.getElem?_drop, List.getElem?_take, if_pos hi]
theorem msg_len (H : List Int) (c up : Nat) (hu : up ≤ H.length) : ((H.take up).drop c).length = up - c := by
  rw [List.length_drop, List.length_take, Nat.min_eq_left hu]
/-- The transfers back that are kept. -/
theorem keep_last (H : List Int) (c r : Nat) (hr : r ≤ H.length) (hc : c ≤ r) : (H.drop c).drop ((H.drop c).length - (H.length - r)) = H.drop r := by
  rw [List.drop_drop, List.length_drop]
  congr 1
  omega
/-- u and received behind k transfers stay small. -/
theorem loop_le {H : List Int} (hpos : ∀ h ∈ H, 1 ≤ h) (rc j : Nat) : 0 ≤ isum ((H.take j).drop rc) ∧ isum ((H.take j).drop rc) ≤ isum (H.drop rc) := by
  have hp : ∀ l : List Int, (∀ x ∈ l, x ∈ H) → 0 ≤ isum l := fun l hl => isum_nonneg (fun x hx => by have := hpos x (hl x hx); omega)
  refine ⟨hp _ (fun x hx => List.mem_of_mem_take (List.mem_of_mem_drop hx)), ?_⟩
  have := fly_split H rc j
  have := hp (H.drop (max rc j)) (fun x hx => List.mem_of_mem_drop hx)
  omega
end Go.CH.Esc
namespace Go.Proofs.Ytapabbpdfplpoaa
open Go.RowKit Go.CH Go.CH.Esc
open Go.ChangeMaps (setBlock)

/-- A call that only made blocks. -/
theorem EPost.bel {w : World} {F : Nat → Prop} {g : GM} {p : Nat} (h : EscO g p w F) {v : Value} {w' : World} (hb : Below w.heap.size w w') : EPost w F v g p (.returned v) w' := by
  obtain ⟨s, hS⟩ := h
  obtain ⟨F', q1, q2, q3⟩ := ((Run.start hS).below escS_ok hb).post escS_ok
  exact ⟨rfl, F', ⟨_, q1⟩, q2, q3⟩
set_option maxRecDepth 100000 in
set_option maxHeartbeats 1600000 in
theorem del_no {w : World} {F : Nat → Prop} {g : GM} {p : Nat} (h : EscO g p w F) (f t : Int) (lost again : Bool) (hd : delE g f t = false) :
    Calls Try.prog 29 #[.pointer (some ⟨p, 0, none⟩), .int .i64 f, .int .i64 t, .bool lost, .bool again] w (EPost w F (.bool false) g p) := by
  have H := hide h
  obtain ⟨s, hS⟩ := h
  have KL := hide (line_any hS.read f t)
  have KB := hide (line_any hS.read t f)
  cases hp : g.pair f t with
  | false =>
    have hpb : g.pair t f = false := by
      cases hb : g.pair t f with
      | false => rfl
      | true => rw [pair_swap hb] at hp; cases hp
    rw [lineV, if_neg (by simp [hp])] at KL
    rw [lineV, if_neg (by simp [hpb])] at KB
    clear hd hS hp hpb
    go_enter Try.func29, Try.ntmps29
    go_wp2_with fail
    refine KL.out.mono ?_
    rintro e w' ⟨rfl, rfl⟩
    go_wp2_with fail
    refine KB.out.mono ?_
    rintro e w' ⟨rfl, rfl⟩
    go_wp2_with fail
    go_ret
    exact EPost.quiet H.out ⟨rfl, rfl⟩
  | true =>
    have hm : (g.pr (f, t)).ms = [] := by
      unfold delE at hd; rw [hp] at hd; simpa using hd
    rw [lineV, if_pos hp] at KL
    rw [lineV, if_pos (pair_swap hp)] at KB
    obtain ⟨l0, hz0, hrun0⟩ := esc_line (Run.start hS) hp
    obtain ⟨-, -, -, q3⟩ := line_cells hrun0
    have hn0 : l0.zs.length = 0 := by
      have h1 : (l0.zs.map ZMsg.m).length = 0 := by rw [hz0.1, hm]; rfl
      simpa using h1
    rw [hn0] at q3
    have KT := hide (take_none q3)
    clear hd hS hp hz0 hrun0 q3 hn0 hm
    unfold zeroMsg at KT
    go_enter Try.func29, Try.ntmps29
    go_wp2_with fail
    refine KL.out.mono ?_
    rintro e w' ⟨rfl, rfl⟩
    go_wp2_with fail
    refine KB.out.mono ?_
    rintro e w' ⟨rfl, rfl⟩
    go_wp2_with fail
    refine KT.out.mono ?_
    rintro e w2 ⟨rfl, hb2⟩
    have HB := hide hb2
    clear hb2
    go_wp2_with fail
    go_ret
    exact EPost.bel H.out (HB.out.alloc HB.out.size _)
end Go.Proofs.Ytapabbpdfplpoaa
namespace Go.Proofs.Ytapabbpdfplpoaa
open Go.RowKit Go.CH Go.CH.Esc
open Go.ChangeMaps (setBlock)

theorem esc_take {F0 : Nat → Prop} {w0 W : World} {g : GM} {p : Nat} {s : EscP} (h : Run F0 w0 (EscS g p s) W) {f t : Int} (hp : g.pair f t = true) {m : MsgG} {ml : List MsgG} (hms : (g.pr (f, t)).ms = m :: ml) (hl : ml.length ≤ 100) :
    ∃ z : ZMsg, z.m = m ∧ z.ts = msgT (g.pr (f, t)).H m ∧ Calls Try.prog 69 #[.pointer (some ⟨s.gp (f, t), 3, none⟩)] W
      (fun e w' => e = .returned (.tuple #[.agg (zcl z).toArray, .bool true]) ∧ Run F0 w0 (star (zow z) (EscS (g.setP (f, t) { g.pr (f, t) with ms := ml }) p s)) w') := by
  obtain ⟨l, hz, hrun⟩ := esc_line h hp
  obtain ⟨z, zs, hzs⟩ : ∃ z zs, l.zs = z :: zs := by
    cases hz' : l.zs with
    | nil => have := hz.1; rw [hz', hms] at this; cases this
    | cons z zs => exact ⟨z, zs, rfl⟩
  have hzm := hz.1
  rw [hzs, hms] at hzm
  injection hzm with hz1 hz2
  have hzt := hz.2
  rw [hzs] at hzt
  have hlen : zs.length = ml.length := by rw [← hz2]; simp
  refine ⟨z, hz1, by rw [hzt z (by simp), hz1], ?_⟩
  have X : Run F0 w0 (star (star (CellO (s.gp (f, t)) (lcl (.slice l.A ((g.pr (f, t)).H.drop (g.pr (f, t)).conf).length l.c) (g.pr (f, t)).H.length (g.pr (f, t)).rc l.B (zs.length + 1) l.d) 109) (ARow zcl zow 124 4 (.slice l.B (zs.length + 1) l.d) (z :: zs)))
      (star (RowO 3 1 (.slice l.A ((g.pr (f, t)).H.drop (g.pr (f, t)).conf).length l.c) ((g.pr (f, t)).H.drop (g.pr (f, t)).conf).length (ints ((g.pr (f, t)).H.drop (g.pr (f, t)).conf))) (EscQ g p s (f, t)))) W := by
    refine hrun.imp fun w F h => ?_
    unfold LineQ at h
    rw [hzs] at h
    exact star_assoc' (star_mono h (fun _ h => h) (fun F h => star_rot h))
  obtain ⟨F1, hO, -, bk⟩ := X.take (star_ok cell_ok (arow_ok zow_ok)) (star_ok row_ok escQ_ok)
  refine (take_some rfl (by omega) hO).mono ?_
  rintro e w' ⟨rfl, hP⟩
  refine ⟨rfl, ?_⟩
  have Y := bk _ _ hP
  have Z : Run F0 w0 (star (zow z) (star (LineS { g.pr (f, t) with ms := ml } (s.gp (f, t)) { l with zs := zs }) (EscQ g p s (f, t)))) w' := by
    refine Y.imp fun w F h => ?_
    have h2 := star_rot (star_mono (star_assoc h) (fun _ h => h) (fun F h => star_rot (star_assoc h)))
    exact star_mono h2 (fun _ h => h) (fun F h => star_assoc' (star_mono h (fun _ h => h) (fun F h => star_assoc' (star_rot h))))
  refine Z.imp fun w F h => star_mono h (fun _ h => h) (fun F h => escQ_in (pair_mem.1 hp) (star_mono h (fun F h => ⟨{ l with zs := zs }, ⟨hz2, fun y hy => hzt y (by simp [hy])⟩, h⟩) (fun _ h => h)))
theorem esc_put {F0 : Nat → Prop} {w0 W : World} {g : GM} {p : Nat} {s : EscP} {z : ZMsg} (h : Run F0 w0 (star (zow z) (EscS g p s)) W) {f t : Int} (hp : g.pair f t = true) (hzt : z.ts = msgT (g.pr (f, t)).H z.m) (hl : (g.pr (f, t)).ms.length ≤ 100) :
    Calls Try.prog 70 #[.pointer (some ⟨s.gp (f, t), 3, none⟩), .agg (zcl z).toArray] W
      (fun e w' => e = .returned (.tuple #[]) ∧ Run F0 w0 (EscS (g.setP (f, t) { g.pr (f, t) with ms := (g.pr (f, t)).ms ++ [z.m] }) p s) w') := by
  obtain ⟨⟨F, ⟨F1, F2, h1, h2, h3, h4⟩, hF⟩, hmod⟩ := h.imp fun w F h => star_mono h (fun _ h => h) (fun F h => escQ_out (pair_mem.1 hp) h)
  obtain ⟨F3, F4, ⟨l, hz, hL⟩, h6, h7, h8⟩ := h2
  have X : Run F0 w0 (star (zow z) (star (LineS (g.pr (f, t)) (s.gp (f, t)) l) (EscQ g p s (f, t)))) W := ⟨⟨F, ⟨F1, F2, h1, ⟨F3, F4, hL, h6, h7, h8⟩, h3, h4⟩, hF⟩, hmod⟩
  have Y : Run F0 w0 (star (zow z) (LineQ (g.pr (f, t)) (s.gp (f, t)) l (EscQ g p s (f, t)))) W := X.imp fun w F h => star_mono h (fun _ h => h) (fun F h => star_mono (star_assoc h) (fun _ h => h) (fun F h => star_assoc h))
  have V := Y.imp fun w F h => send_in h
  have hn : l.zs.length ≤ 100 := by
    have : (l.zs.map ZMsg.m).length = (g.pr (f, t)).ms.length := by rw [hz.1]
    simp at this; omega
  obtain ⟨F5, hO, -, bk⟩ := V.take (star_ok cell_ok (star_ok (arow_ok zow_ok) (zow_ok z))) (star_ok row_ok escQ_ok)
  refine (put_any (z := z) (n := l.zs.length) rfl hn hO).mono ?_
  rintro e w' ⟨rfl, B', d', hP⟩
  exact ⟨rfl, send_run hp hz hzt (bk _ _ hP)⟩
end Go.Proofs.Ytapabbpdfplpoaa
namespace Go.Proofs.Ytapabbpdfplpoaa
open Go.RowKit Go.CH Go.CH.Esc
open Go.ChangeMaps (setBlock)

theorem setP_twice (g : GM) (k : Int × Int) (a b : PrG) : (g.setP k a).setP k b = g.setP k b := by
  unfold GM.setP
  congr 1
  funext x
  by_cases h : x = k <;> simp [h]
theorem setP_pr (g : GM) (k : Int × Int) (a : PrG) : (g.setP k a).pr k = a := by simp [GM.setP]
theorem pop_no {g : GM} {f t : Int} {m : MsgG} {ml : List MsgG} (h : (g.pr (f, t)).ms = m :: ml) : popM g f t false = g.setP (f, t) { g.pr (f, t) with ms := ml } := by
  simp [popM, h]
theorem pop_yes {g : GM} {f t : Int} {m : MsgG} {ml : List MsgG} (h : (g.pr (f, t)).ms = m :: ml) : popM g f t true = (g.setP (f, t) { g.pr (f, t) with ms := ml }).setP (f, t) { (g.setP (f, t) { g.pr (f, t) with ms := ml }).pr (f, t) with ms := ((g.setP (f, t) { g.pr (f, t) with ms := ml }).pr (f, t)).ms ++ [m] } := by
  rw [setP_twice, setP_pr]
  simp [popM, h]
set_option maxRecDepth 100000 in
set_option maxHeartbeats 1600000 in
theorem del_lost_no {w : World} {F : Nat → Prop} {g : GM} {p : Nat} (h : EscO g p w F) {U : Int} (hI : Inv g U) (f t : Int) (hd : delE g f t = true) :
    Calls Try.prog 29 #[.pointer (some ⟨p, 0, none⟩), .int .i64 f, .int .i64 t, .bool true, .bool false] w (EPost w F (.bool true) (popM g f t false) p) := by
  obtain ⟨hp, m, ml, hm⟩ := delE_pair hd
  have hPr := hI.pr f t hp
  obtain ⟨s, hS⟩ := h
  have KL := hide (line_any hS.read f t)
  have KB := hide (line_any hS.read t f)
  rw [lineV, if_pos hp] at KL
  rw [lineV, if_pos (pair_swap hp)] at KB
  obtain ⟨z, hz1, hz2, hT⟩ := esc_take (Run.start hS) hp hm (by have := hPr.msl; rw [hm] at this; simp at this; omega)
  rw [pop_no hm]
  have KT := hide hT
  clear hd hS hPr hT hI
  unfold zcl at KT
  go_enter Try.func29, Try.ntmps29
  go_wp2_with fail
  refine KL.out.mono ?_
  rintro e w' ⟨rfl, rfl⟩
  go_wp2_with fail
  refine KB.out.mono ?_
  rintro e w' ⟨rfl, rfl⟩
  go_wp2_with fail
  refine KT.out.mono ?_
  rintro e w2 ⟨rfl, hR2⟩
  have R2 := hide hR2
  clear hR2
  go_wp2_with fail
  go_ret
  obtain ⟨F', q1, q2, q3⟩ := (R2.out.drop.below escS_ok ((Below.refl _ _).alloc (Nat.le_refl _) _)).post escS_ok
  exact ⟨rfl, F', ⟨_, q1⟩, q2, q3⟩
end Go.Proofs.Ytapabbpdfplpoaa
namespace Go.Proofs.Ytapabbpdfplpoaa
open Go.RowKit Go.CH Go.CH.Esc
open Go.ChangeMaps (setBlock)

set_option maxRecDepth 100000 in
set_option maxHeartbeats 1600000 in
theorem del_lost_yes {w : World} {F : Nat → Prop} {g : GM} {p : Nat} (h : EscO g p w F) {U : Int} (hI : Inv g U) (f t : Int) (hd : delE g f t = true) :
    Calls Try.prog 29 #[.pointer (some ⟨p, 0, none⟩), .int .i64 f, .int .i64 t, .bool true, .bool true] w (EPost w F (.bool true) (popM g f t true) p) := by
  obtain ⟨hp, m, ml, hm⟩ := delE_pair hd
  have hPr := hI.pr f t hp
  have hml : ml.length ≤ 100 := by have := hPr.msl; rw [hm] at this; simp at this; omega
  obtain ⟨s, hS⟩ := h
  have KL := hide (line_any hS.read f t)
  have KB := hide (line_any hS.read t f)
  rw [lineV, if_pos hp] at KL
  rw [lineV, if_pos (pair_swap hp)] at KB
  obtain ⟨z, hz1, hz2, hT⟩ := esc_take (Run.start hS) hp hm hml
  rw [pop_yes hm]
  have hp1 : (g.setP (f, t) { g.pr (f, t) with ms := ml }).pair f t = true := by rw [setP_pair]; exact hp
  have hzt : z.ts = msgT ((g.setP (f, t) { g.pr (f, t) with ms := ml }).pr (f, t)).H z.m := by rw [setP_pr, hz1]; exact hz2
  have hml1 : ((g.setP (f, t) { g.pr (f, t) with ms := ml }).pr (f, t)).ms.length ≤ 100 := by rw [setP_pr]; exact hml
  subst hz1
  generalize g.setP (f, t) { g.pr (f, t) with ms := ml } = g1 at *
  have KT := hide hT
  have HZT := hide hzt
  clear hd hS hPr hT hI hm hz2 hzt
  unfold zcl at KT
  go_enter Try.func29, Try.ntmps29
  go_wp2_with fail
  refine KL.out.mono ?_
  rintro e w' ⟨rfl, rfl⟩
  go_wp2_with fail
  refine KB.out.mono ?_
  rintro e w' ⟨rfl, rfl⟩
  go_wp2_with fail
  refine KT.out.mono ?_
  rintro e w2 ⟨rfl, hR2⟩
  have R3 := hR2.below (star_ok (zow_ok z) escS_ok) (((Below.refl _ _).alloc (Nat.le_refl _) (.cells #[.slice z.A z.ts.length z.c, .int .i64 z.m.up, .int .i64 z.m.rc, .bool z.m.rev] 124)))
  have KP := hide (esc_put (R3.drew (star_ok (zow_ok z) escS_ok)) hp1 HZT.out hml1)
  unfold zcl at KP
  obtain ⟨F2, hC2, -⟩ := cell_new w2 #[.slice z.A z.ts.length z.c, .int .i64 z.m.up, .int .i64 z.m.rc, .bool z.m.rev] 124
  have hC3 := cell_ok.keep (w' := (w2.alloc (.cells #[.slice z.A z.ts.length z.c, .int .i64 z.m.up, .int .i64 z.m.rc, .bool z.m.rev] 124)).drew) hC2 (fun _ _ => rfl)
  have b0 : (w2.alloc (.cells #[.slice z.A z.ts.length z.c, .int .i64 z.m.up, .int .i64 z.m.rc, .bool z.m.rev] 124)).drew.cell? ⟨w2.heap.size, 0, none⟩ = some (.slice z.A z.ts.length z.c) := cell_at hC3 rfl
  have b1 : (w2.alloc (.cells #[.slice z.A z.ts.length z.c, .int .i64 z.m.up, .int .i64 z.m.rc, .bool z.m.rev] 124)).drew.cell? ⟨w2.heap.size, 1, none⟩ = some (.int .i64 z.m.up) := cell_at hC3 rfl
  have b2 : (w2.alloc (.cells #[.slice z.A z.ts.length z.c, .int .i64 z.m.up, .int .i64 z.m.rc, .bool z.m.rev] 124)).drew.cell? ⟨w2.heap.size, 2, none⟩ = some (.int .i64 z.m.rc) := cell_at hC3 rfl
  have b3 : (w2.alloc (.cells #[.slice z.A z.ts.length z.c, .int .i64 z.m.up, .int .i64 z.m.rc, .bool z.m.rev] 124)).drew.cell? ⟨w2.heap.size, 3, none⟩ = some (.bool z.m.rev) := cell_at hC3 rfl
  clear hR2 R3 hC2 hC3
  go_wp2_with fail
  generalize w2.alloc (.cells #[.slice z.A z.ts.length z.c, .int .i64 z.m.up, .int .i64 z.m.rc, .bool z.m.rev] 124) = W at *
  refine wp_region_lew [4] [0, 0, 0, 0, 1]
    (fun w' => w'.cell? ⟨w2.heap.size, 0, none⟩ = some (.slice z.A z.ts.length z.c) ∧ w'.cell? ⟨w2.heap.size, 1, none⟩ = some (.int .i64 z.m.up) ∧ w'.cell? ⟨w2.heap.size, 2, none⟩ = some (.int .i64 z.m.rc) ∧ w'.cell? ⟨w2.heap.size, 3, none⟩ = some (.bool z.m.rev))
    (fun _ => True) (fun _ => True) (fun _ => True) (fun _ _ => trivial) (fun _ h => h) (fun _ h => h) (by kernel_rfl) (by kernel_rfl) (by kernel_rfl) (by kernel_rfl) (by exact ⟨b0, b1, b2, b3⟩) ?_
  (repeat (first | (refine lew_skip (by rfl) (by rfl) ?_; try simp only [Act.put, List.setIfInBounds_toArray, List.set_cons_zero, List.set_cons_succ]) | (refine lew_read0 (v := ?_) (by rfl) (by rfl) ?_ ?_; rotate_left; (focus (intro w' hS'; go_simp; (try with_reducible rfl); done)); try simp only [Act.put, List.setIfInBounds_toArray, List.set_cons_zero, List.set_cons_succ]) | (refine lew_read1 (v := ?_) (by rfl) (by rfl) ?_ ?_; rotate_left; (focus (intro w' hS'; go_simp; (try with_reducible rfl); done)); try simp only [Act.put, List.setIfInBounds_toArray, List.set_cons_zero, List.set_cons_succ]) | (refine lew_read2 (v := ?_) (by rfl) (by rfl) ?_ ?_; rotate_left; (focus (intro w' hS'; go_simp; (try with_reducible rfl); done)); try simp only [Act.put, List.setIfInBounds_toArray, List.set_cons_zero, List.set_cons_succ]) | (refine lew_read3 (v := ?_) (by rfl) (by rfl) ?_ ?_; rotate_left; (focus (intro w' hS'; go_simp; (try with_reducible rfl); done)); try simp only [Act.put, List.setIfInBounds_toArray, List.set_cons_zero, List.set_cons_succ]) | (refine lew_read4 (v := ?_) (by rfl) (by rfl) ?_ ?_; rotate_left; (focus (intro w' hS'; go_simp; (try with_reducible rfl); done)); try simp only [Act.put, List.setIfInBounds_toArray, List.set_cons_zero, List.set_cons_succ])))
  refine lew_chain1 rfl (by rfl) (fun K hK => ?_)
  go_wp2_with fail
  refine KP.out.mono ?_
  rintro e w5 ⟨rfl, hR5⟩
  have R5 := hide hR5
  clear hR5
  refine hK.out _ _ trivial (lew_nil ?_)
  clear hK
  go_wp2_with fail
  go_ret
  obtain ⟨F', q1, q2, q3⟩ := R5.out.post escS_ok
  exact ⟨rfl, F', ⟨_, q1⟩, q2, q3⟩
end Go.Proofs.Ytapabbpdfplpoaa
namespace Go.CH
open Go.RowKit

theorem star_comm_eq (A B : Own) : star A B = star B A := by
  funext w F; exact propext ⟨star_comm, star_comm⟩
theorem star_assoc_eq (A B C : Own) : star (star A B) C = star A (star B C) := by
  funext w F; exact propext ⟨star_assoc, star_assoc'⟩
instance star_com : Std.Commutative star := ⟨star_comm_eq⟩
instance star_ass : Std.Associative star := ⟨star_assoc_eq⟩
theorem emp_star (A : Own) : star emp A = A := by
  funext w F; exact propext ⟨fun h => star_emp (star_comm h), fun h => star_comm (star_emp' h)⟩
theorem star_emp_eq (A : Own) : star A emp = A := by rw [star_comm_eq, emp_star]
theorem Run.perm {F0 : Nat → Prop} {w0 W : World} {A B : Own} (h : Run F0 w0 A W) (e : A = B) : Run F0 w0 B W := e ▸ h
/-- A call at a part of what is owned, by a law that speaks of the call's own beginning. -/
theorem Run.sub {F0 : Nat → Prop} {w0 W : World} {A B : Own} (h : Run F0 w0 (star A B) W) (ha : A.Ok) (hb : B.Ok) : ∃ F, Run F W A W ∧ ∀ (R : Own) (W' : World), R.Ok → Run F W R W' → Run F0 w0 (star R B) W' := by
  obtain ⟨F, h1, -, h2⟩ := h.take ha hb
  exact ⟨F, Run.start h1, fun R W' hr hp => h2 R W' (hp.post hr)⟩
end Go.CH
namespace Go.CH.Esc

structure ActG where
  k : Int
  a : Int
  b : Int
  u : Int
  lost : Bool
  again : Bool
def doM (g : GM) (x : ActG) : GM := if x.k = 0 then spendM g x.a x.u else if x.k = 1 then retM g x.a x.u else if x.k = 2 then giveM g x.a x.b x.u else if x.k = 3 then sendM g x.a x.b else if x.k = 4 then delM g x.a x.b x.lost x.again else revM g x.a
def doE (g : GM) (x : ActG) : Int := if x.k = 0 then spendE g x.a x.u else if x.k = 1 then retE g x.a x.u else if x.k = 2 then giveE g x.a x.b x.u else if x.k = 3 then sendE g x.a x.b else if x.k = 4 then 0 else revE g x.a
def doB (g : GM) (x : ActG) : Bool := if x.k = 0 then false else if x.k = 1 then false else if x.k = 2 then false else if x.k = 3 then false else if x.k = 4 then delE g x.a x.b else false
theorem Inv.do {g : GM} {U : Int} (h : Inv g U) (x : ActG) : Inv (doM g x) U := by
  unfold doM
  split
  · exact h.spend _ _
  · split
    · exact h.ret _ _
    · split
      · exact h.give _ _ _
      · split
        · exact h.send _ _
        · split
          · exact h.del _ _ _ _
          · exact h.revoke _
/-- No pair has seen more than n transfers. -/
def HB (g : GM) (n : Nat) : Prop := ∀ k, (g.pr k).H.length ≤ n
theorem HB.mono {g : GM} {n m : Nat} (h : HB g n) (hm : n ≤ m) : HB g m := fun k => Nat.le_trans (h k) hm
theorem HB.setA {g : GM} {n : Nat} (h : HB g n) (r : Int) (a : Acc) : HB (g.setA r a) n := h
theorem HB.setP {g : GM} {n : Nat} (h : HB g n) (k : Int × Int) (p : PrG) (hp : p.H.length ≤ n) : HB (g.setP k p) n := fun x => by
  unfold GM.setP; simp only []; split
  · exact hp
  · exact h x
theorem HB.spend {g : GM} {n : Nat} (h : HB g n) (r k : Int) : HB (spendM g r k) n := by unfold spendM; split; exact h.setA _ _; exact h
theorem HB.ret {g : GM} {n : Nat} (h : HB g n) (r k : Int) : HB (retM g r k) n := by unfold retM; split; exact h.setA _ _; exact h
theorem HB.revoke {g : GM} {n : Nat} (h : HB g n) (r : Int) : HB (revM g r) n := by unfold revM; split; exact h.setA _ _; exact h
theorem HB.give {g : GM} {n : Nat} (h : HB g n) (f t k : Int) : HB (giveM g f t k) (n + 1) := by
  unfold giveM
  split
  · exact (HB.setA (h.mono (Nat.le_succ _)) _ _).setP _ _ (by have := h (f, t); simp; omega)
  · exact h.mono (Nat.le_succ _)
theorem HB.send {g : GM} {n : Nat} (h : HB g n) (f t : Int) : HB (sendM g f t) n := by
  unfold sendM
  split
  · exact h.setP _ _ (h (f, t))
  · exact h
theorem HB.pop {g : GM} {n : Nat} (h : HB g n) (f t : Int) (again : Bool) : HB (popM g f t again) n := by unfold popM; exact h.setP _ _ (h (f, t))
theorem HB.recv {g : GM} {n : Nat} (h : HB g n) (f t : Int) (m : MsgG) : HB (recvM g f t m) n := by
  intro k
  unfold recvM
  simp only [setA_pr, GM.setP]
  repeat' split
  all_goals exact h _
theorem HB.del {g : GM} {n : Nat} (h : HB g n) (f t : Int) (lost again : Bool) : HB (delM g f t lost again) n := by
  unfold delM
  split
  · simp only []
    split
    · exact h.pop _ _ _
    · exact (h.pop _ _ _).recv _ _ _
  · exact h
theorem HB.do {g : GM} {n : Nat} (h : HB g n) (x : ActG) : HB (doM g x) (n + 1) := by
  unfold doM
  have h' := fun {g : GM} (h : HB g n) => h.mono (Nat.le_succ n)
  split
  · exact h' (h.spend _ _)
  · split
    · exact h' (h.ret _ _)
    · split
      · exact h.give _ _ _
      · split
        · exact h' (h.send _ _)
        · split
          · exact h' (h.del _ _ _ _)
          · exact h' (h.revoke _)
theorem HB.new (n : Nat) (u : Int) : HB (newG n u) 0 := fun k => by simp [newG, p0]
/-- The number of replicas stays. -/
theorem len_setA (g : GM) (r : Int) (a : Acc) : (g.setA r a).acc.length = g.acc.length := setA_len g r a
theorem len_do (g : GM) (x : ActG) : (doM g x).acc.length = g.acc.length := by
  unfold doM spendM retM giveM sendM delM revM popM recvM
  simp only []
  repeat' split
  all_goals simp only [GM.setP, GM.setA, List.length_set]
theorem len_new {n : Nat} (h : 1 ≤ n) (u : Int) : (newG n u).acc.length = n := by simp [newG]; omega
/-- Many operations. -/
def doL (g : GM) (l : List ActG) : GM := l.foldl doM g
theorem doL_snoc (g : GM) (l : List ActG) (x : ActG) : doL g (l ++ [x]) = doM (doL g l) x := by simp [doL]
theorem Inv.doL {g : GM} {U : Int} (h : Inv g U) (l : List ActG) : Inv (Esc.doL g l) U := by
  unfold Esc.doL
  induction l generalizing g with
  | nil => exact h
  | cons x l ih => exact ih (h.do x)
theorem HB.doL {g : GM} {n : Nat} (h : HB g n) (l : List ActG) : HB (Esc.doL g l) (n + l.length) := by
  unfold Esc.doL
  induction l generalizing g n with
  | nil => exact h
  | cons x l ih => have := ih (h.do x); rw [List.length_cons]; exact this.mono (by omega)
theorem len_doL (g : GM) (l : List ActG) : (doL g l).acc.length = g.acc.length := by
  unfold doL
  induction l generalizing g with
  | nil => rfl
  | cons x l ih => rw [List.foldl_cons, ih, len_do]
end Go.CH.Esc
namespace Go.CH.Esc

theorem pr_setP (g : GM) (k : Int × Int) (p : PrG) (x : Int × Int) : (g.setP k p).pr x = if x = k then p else g.pr x := rfl
theorem recv_pr {g : GM} {f t : Int} (hne : f ≠ t) (m : MsgG) (x : Int × Int) : (recvM g f t m).pr x = if x = (t, f) then { g.pr (t, f) with conf := max (g.pr (t, f)).conf m.rc } else if x = (f, t) then { g.pr (f, t) with rc := max (g.pr (f, t)).rc m.up } else g.pr x := by
  have hk' : (t, f) ≠ (f, t) := fun e => by rw [Prod.mk.injEq] at e; exact hne e.2
  unfold recvM
  simp only [setA_pr, pr_setP, hk', if_false]
theorem recv_len (g : GM) (f t : Int) (m : MsgG) : (recvM g f t m).acc.length = g.acc.length := by unfold recvM; simp only [GM.setP, GM.setA, List.length_set]
theorem recv_is (g : GM) (f t : Int) (m : MsgG) (x : Int) : (recvM g f t m).is x = g.is x := by unfold GM.is; rw [recv_len]
theorem recv_pair (g : GM) (f t : Int) (m : MsgG) (x y : Int) : (recvM g f t m).pair x y = g.pair x y := by unfold GM.pair; rw [recv_is, recv_is]
theorem recv_at {g : GM} {f t : Int} (ht : g.is t = true) (m : MsgG) (x : Int) (hx : g.is x = true) :
    (recvM g f t m).at_ x = if x = t then { g.at_ t with u := (g.at_ t).u + isum (((g.pr (f, t)).H.take m.up).drop (g.pr (f, t)).rc), rev := (g.at_ t).rev || m.rev } else g.at_ x := by
  unfold recvM
  simp only []
  exact setA_at (g := (g.setP (f, t) _).setP (t, f) _) ht _ x hx
theorem pop_pr' (g : GM) (f t : Int) (again : Bool) (x : Int × Int) : (popM g f t again).pr x = if x = (f, t) then { g.pr (f, t) with ms := (g.pr (f, t)).ms.tail ++ if again then [(g.pr (f, t)).ms.headD default] else [] } else g.pr x := rfl
theorem pop_pair (g : GM) (f t : Int) (again : Bool) (x y : Int) : (popM g f t again).pair x y = g.pair x y := rfl
theorem pop_is (g : GM) (f t : Int) (again : Bool) (x : Int) : (popM g f t again).is x = g.is x := rfl
theorem pop_at (g : GM) (f t : Int) (again : Bool) (x : Int) : (popM g f t again).at_ x = g.at_ x := rfl
theorem pop_len (g : GM) (f t : Int) (again : Bool) : (popM g f t again).acc.length = g.acc.length := rfl

/-- A delivery that is not lost. -/
theorem del_eq {g : GM} {f t : Int} (hd : delE g f t = true) (again : Bool) : delM g f t false again = recvM (popM g f t again) f t ((g.pr (f, t)).ms.headD default) := by
  unfold delM; rw [if_pos hd]; rfl
theorem del_ne {g : GM} {f t : Int} (hd : delE g f t = true) : f ≠ t := (pair_is (delE_pair hd).1).2.2
theorem swap_ne {f t : Int} (h : f ≠ t) : (t, f) ≠ (f, t) := fun e => by rw [Prod.mk.injEq] at e; exact h e.2
theorem del_pr {g : GM} {f t : Int} (hd : delE g f t = true) (again : Bool) (x : Int × Int) :
    (delM g f t false again).pr x = if x = (t, f) then { g.pr (t, f) with conf := max (g.pr (t, f)).conf ((g.pr (f, t)).ms.headD default).rc }
      else if x = (f, t) then { g.pr (f, t) with rc := max (g.pr (f, t)).rc ((g.pr (f, t)).ms.headD default).up, ms := (g.pr (f, t)).ms.tail ++ if again then [(g.pr (f, t)).ms.headD default] else [] } else g.pr x := by
  have hne := del_ne hd
  rw [del_eq hd, recv_pr hne]
  simp only [pop_pr', swap_ne hne, if_false, if_true]
  split
  · rfl
  · split
    · rfl
    · rfl
theorem del_at {g : GM} {f t : Int} (hd : delE g f t = true) (again : Bool) (x : Int) (hx : g.is x = true) :
    (delM g f t false again).at_ x = if x = t then { g.at_ t with u := (g.at_ t).u + isum (((g.pr (f, t)).H.take ((g.pr (f, t)).ms.headD default).up).drop (g.pr (f, t)).rc), rev := (g.at_ t).rev || ((g.pr (f, t)).ms.headD default).rev } else g.at_ x := by
  rw [del_eq hd, recv_at (by rw [pop_is]; exact (pair_is (delE_pair hd).1).2.1) _ x (by rw [pop_is]; exact hx)]
  simp only [pop_at, pop_pr', if_true]
theorem del_len (g : GM) (f t : Int) (lost again : Bool) : (delM g f t lost again).acc.length = g.acc.length := by
  unfold delM
  split
  · simp only []
    split
    · rfl
    · rw [recv_len]; rfl
  · rfl
theorem del_is (g : GM) (f t : Int) (lost again : Bool) (x : Int) : (delM g f t lost again).is x = g.is x := by unfold GM.is; rw [del_len]
theorem del_pair (g : GM) (f t : Int) (lost again : Bool) (x y : Int) : (delM g f t lost again).pair x y = g.pair x y := by unfold GM.pair; rw [del_is, del_is]
theorem delE_iff {g : GM} {f t : Int} : delE g f t = true ↔ g.pair f t = true ∧ (g.pr (f, t)).ms ≠ [] := by
  unfold delE
  cases h : (g.pr (f, t)).ms <;> simp

/-! ### Once and again -/
/-- The last j messages that wait have nothing new. -/
def Cov (g : GM) (f t : Int) (j : Nat) : Prop := delE g f t = true ∧ ∀ m ∈ (g.pr (f, t)).ms.drop ((g.pr (f, t)).ms.length - j), m.up ≤ (g.pr (f, t)).rc
theorem cov_step {g : GM} {f t : Int} {j : Nat} (h : Cov g f t j) : Cov (delM g f t false true) f t (j + 1) ∧ ((delM g f t false true).pr (f, t)).ms.length = (g.pr (f, t)).ms.length := by
  obtain ⟨hd, hm⟩ := h
  have hne := del_ne hd
  obtain ⟨hp, m, l, hml⟩ := delE_pair hd
  have e1 : ((delM g f t false true).pr (f, t)) = { g.pr (f, t) with rc := max (g.pr (f, t)).rc m.up, ms := l ++ [m] } := by
    rw [del_pr hd, if_neg (fun e => swap_ne hne e.symm), if_pos rfl, hml]; rfl
  refine ⟨⟨?_, fun x hx => ?_⟩, by rw [e1, hml]; simp⟩
  · rw [delE_iff, del_pair, e1]; exact ⟨hp, by simp⟩
  · rw [e1] at hx ⊢
    simp only [List.length_append, List.length_singleton] at hx ⊢
    rw [hml] at hm
    simp only [List.length_cons] at hm
    by_cases hj : j ≤ l.length
    · rw [show l.length + 1 - (j + 1) = l.length - j by omega, List.drop_append_of_le_length (by omega)] at hx
      rw [show l.length + 1 - j = (l.length - j) + 1 by omega, List.drop_succ_cons] at hm
      rcases List.mem_append.1 hx with hx | hx
      · have := hm x hx; omega
      · simp only [List.mem_singleton] at hx; subst hx; omega
    · rw [show l.length + 1 - j = 0 by omega, List.drop_zero] at hm
      have hx' : x ∈ l ++ [m] := List.mem_of_mem_drop hx
      have : x ∈ m :: l := by simp at hx' ⊢; exact hx'.symm
      have := hm x this; omega
theorem cov_start {g : GM} {f t : Int} (hd : delE g f t = true) : Cov g f t 0 := ⟨hd, by simp⟩
theorem fly_eq {p q : PrG} (h : p.H = q.H) (h2 : p.rc = q.rc) : fly p = fly q := by unfold fly; rw [h, h2]
/-- When nothing new waits, a delivery changes nothing that is seen. -/
theorem cov_still {g : GM} {f t : Int} {j : Nat} (h : Cov g f t j) (hj : (g.pr (f, t)).ms.length ≤ j) : have_ (delM g f t false true) t = have_ g t ∧ flyG (delM g f t false true) = flyG g := by
  obtain ⟨hd, hm⟩ := h
  have hne := del_ne hd
  obtain ⟨hp, m, l, hml⟩ := delE_pair hd
  have ht := (pair_is hp).2.1
  rw [show (g.pr (f, t)).ms.length - j = 0 by omega, List.drop_zero] at hm
  have hup : m.up ≤ (g.pr (f, t)).rc := hm m (by rw [hml]; simp)
  have hhd : (g.pr (f, t)).ms.headD default = m := by rw [hml]; rfl
  constructor
  · unfold have_
    rw [del_is, ht, if_pos rfl, if_pos rfl, del_at hd true t ht, if_pos rfl, hhd]
    simp only []
    rw [List.drop_eq_nil_of_le (by rw [List.length_take]; omega)]
    simp [isum]
  · unfold flyG
    rw [del_len]
    congr 1
    refine List.map_congr_left fun x _ => ?_
    rw [del_pr hd true x, hhd]
    split
    · rename_i e; subst e; exact fly_eq rfl rfl
    · split
      · rename_i e; subst e; exact fly_eq rfl (by simp only []; omega)
      · rfl

/-! ### A queue is emptied -/
def delN (f t : Int) : Nat → GM → GM
  | 0, g => g
  | n + 1, g => delN f t n (delM g f t false false)
def emptyM (g : GM) (f t : Int) : GM := if g.pair f t = true then delN f t (g.pr (f, t)).ms.length g else g
theorem delN_succ (f t : Int) : ∀ (n : Nat) (g : GM), delN f t (n + 1) g = delM (delN f t n g) f t false false
  | 0, g => rfl
  | n + 1, g => by rw [delN, delN_succ f t n]; rfl
/-- What the deliveries of some messages leave. -/
structure Dlv (g : GM) (f t : Int) (g' : GM) : Prop where
  len : g'.acc.length = g.acc.length
  at_ : ∀ x, g.is x = true → x ≠ t → g'.at_ x = g.at_ x
  s : g.is t = true → (g'.at_ t).s = (g.at_ t).s
  rev : g.is t = true → (g.at_ t).rev = true → (g'.at_ t).rev = true
  oth : ∀ k, k ≠ (f, t) → k ≠ (t, f) → g'.pr k = g.pr k
  H : ∀ k, (g'.pr k).H = (g.pr k).H
  ms : ∀ k, k ≠ (f, t) → (g'.pr k).ms = (g.pr k).ms
  rcb : ∀ k, k ≠ (f, t) → (g'.pr k).rc = (g.pr k).rc
  rc : (g.pr (f, t)).rc ≤ (g'.pr (f, t)).rc
  cf : ∀ k, k ≠ (t, f) → (g'.pr k).conf = (g.pr k).conf
  cfb : (g.pr (t, f)).conf ≤ (g'.pr (t, f)).conf
theorem Dlv.refl (g : GM) (f t : Int) : Dlv g f t g := ⟨rfl, fun _ _ _ => rfl, fun _ => rfl, fun _ h => h, fun _ _ _ => rfl, fun _ => rfl, fun _ _ => rfl, fun _ _ => rfl, Nat.le_refl _, fun _ _ => rfl, Nat.le_refl _⟩
theorem Dlv.is {g g' : GM} {f t : Int} (h : Dlv g f t g') (x : Int) : g'.is x = g.is x := by unfold GM.is; rw [h.len]
theorem Dlv.pair {g g' : GM} {f t : Int} (h : Dlv g f t g') (x y : Int) : g'.pair x y = g.pair x y := by unfold GM.pair; rw [h.is, h.is]
theorem Dlv.trans {g g' g'' : GM} {f t : Int} (h : Dlv g f t g') (k : Dlv g' f t g'') : Dlv g f t g'' :=
  ⟨k.len.trans h.len, fun x hx hne => (k.at_ x (by rw [h.is]; exact hx) hne).trans (h.at_ x hx hne), fun ht => (k.s (by rw [h.is]; exact ht)).trans (h.s ht), fun ht hr => k.rev (by rw [h.is]; exact ht) (h.rev ht hr),
   fun x h1 h2 => (k.oth x h1 h2).trans (h.oth x h1 h2), fun x => (k.H x).trans (h.H x), fun x h1 => (k.ms x h1).trans (h.ms x h1), fun x h1 => (k.rcb x h1).trans (h.rcb x h1), Nat.le_trans h.rc k.rc, fun x h1 => (k.cf x h1).trans (h.cf x h1), Nat.le_trans h.cfb k.cfb⟩
theorem dlv_one {g : GM} {f t : Int} (hd : delE g f t = true) : Dlv g f t (delM g f t false false) := by
  have hne := del_ne hd
  have hs := swap_ne hne
  have ht := (pair_is (delE_pair hd).1).2.1
  refine ⟨del_len _ _ _ _ _, fun x hx hxt => ?_, fun _ => ?_, fun _ hr => ?_, fun k h1 h2 => ?_, fun k => ?_, fun k h1 => ?_, fun k h1 => ?_, ?_, fun k h1 => ?_, ?_⟩
  · rw [del_at hd _ x hx, if_neg hxt]
  · rw [del_at hd _ t ht, if_pos rfl]
  · rw [del_at hd _ t ht, if_pos rfl]; simp [hr]
  · rw [del_pr hd, if_neg h2, if_neg h1]
  · rw [del_pr hd]; split
    · rename_i e; subst e; rfl
    · split
      · rename_i e; subst e; rfl
      · rfl
  · rw [del_pr hd]; split
    · rename_i e; subst e; rfl
    · rfl
  · rw [del_pr hd]; split
    · rename_i e; subst e; rfl
    · first | rfl | (rw [if_neg h1])
  · rw [del_pr hd, if_neg hs.symm, if_pos rfl]; simp only []; omega
  · rw [del_pr hd, if_neg h1]; split
    · rename_i e; subst e; rfl
    · rfl
  · rw [del_pr hd, if_pos rfl]; simp only []; omega
theorem delN_all (f t : Int) : ∀ (n : Nat) (g : GM), g.pair f t = true → (g.pr (f, t)).ms.length = n → ∀ j, j ≤ n → Dlv g f t (delN f t j g) ∧ ((delN f t j g).pr (f, t)).ms = (g.pr (f, t)).ms.drop j ∧
    (∀ m ∈ (g.pr (f, t)).ms.take j, m.up ≤ ((delN f t j g).pr (f, t)).rc ∧ m.rc ≤ ((delN f t j g).pr (t, f)).conf ∧ (m.rev = true → ((delN f t j g).at_ t).rev = true)) := by
  intro n
  induction n with
  | zero =>
    intro g hp hn j hj
    obtain rfl : j = 0 := by omega
    exact ⟨Dlv.refl _ _ _, by simp [delN], by simp⟩
  | succ n ih =>
    intro g hp hn j hj
    have hd : delE g f t = true := delE_iff.2 ⟨hp, fun e => by rw [e] at hn; simp at hn⟩
    obtain ⟨-, m, l, hml⟩ := delE_pair hd
    have hne := del_ne hd
    have ht := (pair_is hp).2.1
    cases j with
    | zero => exact ⟨Dlv.refl _ _ _, by simp [delN], by simp⟩
    | succ j =>
      have D1 := dlv_one hd
      have e1 : ((delM g f t false false).pr (f, t)) = { g.pr (f, t) with rc := max (g.pr (f, t)).rc m.up, ms := l } := by
        rw [del_pr hd, if_neg (fun e => swap_ne hne e.symm), if_pos rfl, hml]; simp
      have e2 : ((delM g f t false false).pr (t, f)) = { g.pr (t, f) with conf := max (g.pr (t, f)).conf m.rc } := by
        rw [del_pr hd, if_pos rfl, hml]; rfl
      have e3 : m.rev = true → ((delM g f t false false).at_ t).rev = true := fun hr => by
        rw [del_at hd _ t ht, if_pos rfl, hml]; simp [hr]
      obtain ⟨D2, h2, h3⟩ := ih (delM g f t false false) (by rw [D1.pair]; exact hp) (by rw [e1]; rw [hml] at hn; simpa using hn) j (by omega)
      rw [delN]
      refine ⟨D1.trans D2, by rw [h2, e1, hml]; rfl, fun x hx => ?_⟩
      rw [hml, List.take_succ_cons, List.mem_cons] at hx
      rcases hx with rfl | hx
      · have q1 := D2.rc
        have q2 := D2.cfb
        rw [e1] at q1
        rw [e2] at q2
        simp only [] at q1 q2
        exact ⟨by omega, by omega, fun hr => D2.rev (by rw [D1.is]; exact ht) (e3 hr)⟩
      · exact h3 x (by rw [e1]; exact hx)
theorem empty_all {g : GM} {f t : Int} (hp : g.pair f t = true) : Dlv g f t (emptyM g f t) ∧ ((emptyM g f t).pr (f, t)).ms = [] ∧
    (∀ m ∈ (g.pr (f, t)).ms, m.up ≤ ((emptyM g f t).pr (f, t)).rc ∧ m.rc ≤ ((emptyM g f t).pr (t, f)).conf ∧ (m.rev = true → ((emptyM g f t).at_ t).rev = true)) := by
  obtain ⟨h1, h2, h3⟩ := delN_all f t _ g hp rfl _ (Nat.le_refl _)
  unfold emptyM
  rw [if_pos hp]
  refine ⟨h1, by rw [h2]; simp, fun m hm => h3 m (by simpa using hm)⟩
theorem Inv.delN {g : GM} {U : Int} (h : Inv g U) (f t : Int) (n : Nat) : Inv (Esc.delN f t n g) U := by
  induction n generalizing g with
  | zero => exact h
  | succ n ih => exact ih (h.del f t false false)
theorem HB.delN {g : GM} {b : Nat} (h : HB g b) (f t : Int) (n : Nat) : HB (Esc.delN f t n g) b := by
  induction n generalizing g with
  | zero => exact h
  | succ n ih => exact ih (h.del f t false false)
theorem Inv.empty {g : GM} {U : Int} (h : Inv g U) (f t : Int) : Inv (emptyM g f t) U := by unfold emptyM; split; exact h.delN _ _ _; exact h
theorem HB.empty {g : GM} {b : Nat} (h : HB g b) (f t : Int) : HB (emptyM g f t) b := by unfold emptyM; split; exact h.delN _ _ _; exact h
theorem empty_dlv (g : GM) (f t : Int) : Dlv g f t (emptyM g f t) := by
  by_cases hp : g.pair f t = true
  · exact (empty_all hp).1
  · unfold emptyM; rw [if_neg hp]; exact Dlv.refl _ _ _

/-! ### A message is sent and delivered -/
theorem send_eq {g : GM} {f t : Int} (h : sendE g f t = 0) : sendM g f t = g.setP (f, t) { g.pr (f, t) with ms := (g.pr (f, t)).ms ++ [⟨(g.pr (f, t)).conf, (g.pr (f, t)).H.length, (g.pr (t, f)).rc, (g.at_ f).rev⟩] } := by unfold sendM; rw [if_pos h]
theorem sendE_ok {g : GM} {f t : Int} (hp : g.pair f t = true) (h : (g.pr (f, t)).ms.length < 100) : sendE g f t = 0 := by unfold sendE; rw [if_neg (by simp [hp]), if_neg (by omega)]
/-- A queue that is emptied, a message sent, and the queue emptied again. -/
def tellM (g : GM) (f t : Int) : GM := emptyM (sendM g f t) f t
structure Told (g : GM) (f t : Int) (g' : GM) : Prop where
  dl : Dlv g f t g'
  ms : (g'.pr (f, t)).ms = []
  all : (g'.pr (f, t)).rc = (g'.pr (f, t)).H.length
  cf : (g.pr (t, f)).conf ≤ (g'.pr (t, f)).conf ∧ (g.pr (t, f)).rc ≤ (g.pr (t, f)).rc
  con : (g.pr (f, t)).rc ≤ (g'.pr (f, t)).rc
  back : (g'.pr (t, f)).rc ≤ (g'.pr (t, f)).conf
  rv : (g.at_ f).rev = true → (g'.at_ t).rev = true
theorem send_dlv {g : GM} {f t : Int} (h : sendE g f t = 0) : (sendM g f t).acc.length = g.acc.length ∧ (∀ x, (sendM g f t).at_ x = g.at_ x) ∧ (∀ k, k ≠ (f, t) → (sendM g f t).pr k = g.pr k) ∧ ((sendM g f t).pr (f, t)).H = (g.pr (f, t)).H ∧ ((sendM g f t).pr (f, t)).rc = (g.pr (f, t)).rc ∧ ((sendM g f t).pr (f, t)).conf = (g.pr (f, t)).conf ∧
    ((sendM g f t).pr (f, t)).ms = (g.pr (f, t)).ms ++ [⟨(g.pr (f, t)).conf, (g.pr (f, t)).H.length, (g.pr (t, f)).rc, (g.at_ f).rev⟩] := by
  rw [send_eq h]
  refine ⟨rfl, fun _ => rfl, fun k hk => by rw [pr_setP, if_neg hk], ?_, ?_, ?_, ?_⟩ <;> rw [pr_setP, if_pos rfl]
theorem send_pair (g : GM) (f t x y : Int) : (sendM g f t).pair x y = g.pair x y := by unfold sendM; split <;> rfl
theorem told {g : GM} {U : Int} (hI : Inv g U) {f t : Int} (hp : g.pair f t = true) (hE : sendE g f t = 0) : Told g f t (tellM g f t) := by
  obtain ⟨s1, s2, s3, s4, s5, s6, s7⟩ := send_dlv hE
  have hp' : (sendM g f t).pair f t = true := by rw [send_pair]; exact hp
  obtain ⟨D, e1, e2⟩ := empty_all hp'
  have hI' : Inv (tellM g f t) U := (hI.send f t).empty f t
  have hpt : (tellM g f t).pair f t = true := by unfold tellM; rw [D.pair]; exact hp'
  have hne := (pair_is hp).2.2
  have hk := hI'.pr f t hpt
  have q := e2 ⟨(g.pr (f, t)).conf, (g.pr (f, t)).H.length, (g.pr (t, f)).rc, (g.at_ f).rev⟩ (by rw [s7]; simp)
  have his : ∀ x, (sendM g f t).is x = g.is x := fun x => by unfold GM.is; rw [s1]
  have hb : ((tellM g f t).pr (t, f)).rc = (g.pr (t, f)).rc := by unfold tellM; rw [D.rcb _ (swap_ne hne), s3 _ (swap_ne hne)]
  refine ⟨⟨D.len.trans s1, fun x hx hxt => (D.at_ x (by rw [his]; exact hx) hxt).trans (s2 x), fun ht => by rw [show (tellM g f t) = emptyM (sendM g f t) f t from rfl, D.s (by rw [his]; exact ht), s2], fun ht hr => D.rev (by rw [his]; exact ht) (by rw [s2]; exact hr),
    fun k h1 h2 => (D.oth k h1 h2).trans (s3 k h1), fun k => (D.H k).trans ?_, fun k h1 => by rw [show (tellM g f t) = emptyM (sendM g f t) f t from rfl, D.ms k h1, s3 k h1], fun k h1 => by rw [show (tellM g f t) = emptyM (sendM g f t) f t from rfl, D.rcb k h1, s3 k h1], by rw [← s5]; exact D.rc,
    fun k h1 => (D.cf k h1).trans ?_, by rw [← s3 _ (swap_ne hne)]; exact D.cfb⟩, e1, ?_, ⟨by rw [← s3 _ (swap_ne hne)]; exact D.cfb, Nat.le_refl _⟩, by rw [← s5]; exact D.rc, ?_, fun hr => q.2.2 hr⟩
  · by_cases e : k = (f, t)
    · subst e; exact s4
    · rw [s3 k e]
  · by_cases e : k = (f, t)
    · subst e; exact s6
    · rw [s3 k e]
  · have h1 := hk.rl
    have h2 : ((tellM g f t).pr (f, t)).H = (g.pr (f, t)).H := by unfold tellM; rw [D.H, s4]
    have h3 : (g.pr (f, t)).H.length ≤ ((tellM g f t).pr (f, t)).rc := q.1
    rw [h2] at h1 ⊢
    omega
  · rw [hb]; exact q.2.1
end Go.CH.Esc
