/-
  Escrow: take and put at an escrow.
-/
import Derived.Test.YtapabbpdfplpoaaE14
set_option linter.unusedSimpArgs false
set_option linter.unusedVariables false
namespace Go.Proofs.Ytapabbpdfplpoaa
open Go.RowKit Go.CH Go.CH.Esc
open Go.ChangeMaps (setBlock)

theorem esc_take {F0 : Nat → Prop} {w0 W : World} {g : GM} {p : Nat} {s : EscP} (h : Run F0 w0 (EscS g p s) W) {f t : Int} (hp : g.pair f t = true) {m : MsgG} {ml : List MsgG} (hms : (g.pr (f, t)).ms = m :: ml) (hl : ml.length ≤ 100) :
    ∃ z : ZMsg, z.m = m ∧ z.ts = msgT (g.pr (f, t)).H m ∧ Calls Try.prog 69 #[.pointer (some ⟨s.gp (f, t), 3, none⟩)] W
      (fun e w' => e = .returned (.tuple #[.agg (zcl z).toArray, .bool true]) ∧ Run F0 w0 (star (zow z) (EscS (g.setP (f, t) { g.pr (f, t) with ms := ml }) p s)) w') := by
  obtain ⟨l, hz, hrun⟩ := esc_line h hp
  obtain ⟨z, zs, hzs⟩ : ∃ z zs, l.zs = z :: zs := by
    cases hz' : l.zs with
    | nil => have := hz.1; rw [hz', hms] at this; cases this
    | cons z zs => exact ⟨z, zs, rfl⟩
  have hzm := hz.1
  rw [hzs, hms] at hzm
  injection hzm with hz1 hz2
  have hzt := hz.2
  rw [hzs] at hzt
  have hlen : zs.length = ml.length := by rw [← hz2]; simp
  refine ⟨z, hz1, by rw [hzt z (by simp), hz1], ?_⟩
  have X : Run F0 w0 (star (star (CellO (s.gp (f, t)) (lcl (.slice l.A ((g.pr (f, t)).H.drop (g.pr (f, t)).conf).length l.c) (g.pr (f, t)).H.length (g.pr (f, t)).rc l.B (zs.length + 1) l.d) 109) (ARow zcl zow 124 4 (.slice l.B (zs.length + 1) l.d) (z :: zs)))
      (star (RowO 3 1 (.slice l.A ((g.pr (f, t)).H.drop (g.pr (f, t)).conf).length l.c) ((g.pr (f, t)).H.drop (g.pr (f, t)).conf).length (ints ((g.pr (f, t)).H.drop (g.pr (f, t)).conf))) (EscQ g p s (f, t)))) W := by
    refine hrun.imp fun w F h => ?_
    unfold LineQ at h
    rw [hzs] at h
    exact star_assoc' (star_mono h (fun _ h => h) (fun F h => star_rot h))
  obtain ⟨F1, hO, -, bk⟩ := X.take (star_ok cell_ok (arow_ok zow_ok)) (star_ok row_ok escQ_ok)
  refine (take_some rfl (by omega) hO).mono ?_
  rintro e w' ⟨rfl, hP⟩
  refine ⟨rfl, ?_⟩
  have Y := bk _ _ hP
  have Z : Run F0 w0 (star (zow z) (star (LineS { g.pr (f, t) with ms := ml } (s.gp (f, t)) { l with zs := zs }) (EscQ g p s (f, t)))) w' := by
    refine Y.imp fun w F h => ?_
    have h2 := star_rot (star_mono (star_assoc h) (fun _ h => h) (fun F h => star_rot (star_assoc h)))
    exact star_mono h2 (fun _ h => h) (fun F h => star_assoc' (star_mono h (fun _ h => h) (fun F h => star_assoc' (star_rot h))))
  refine Z.imp fun w F h => star_mono h (fun _ h => h) (fun F h => escQ_in (pair_mem.1 hp) (star_mono h (fun F h => ⟨{ l with zs := zs }, ⟨hz2, fun y hy => hzt y (by simp [hy])⟩, h⟩) (fun _ h => h)))
theorem esc_put {F0 : Nat → Prop} {w0 W : World} {g : GM} {p : Nat} {s : EscP} {z : ZMsg} (h : Run F0 w0 (star (zow z) (EscS g p s)) W) {f t : Int} (hp : g.pair f t = true) (hzt : z.ts = msgT (g.pr (f, t)).H z.m) (hl : (g.pr (f, t)).ms.length ≤ 100) :
    Calls Try.prog 70 #[.pointer (some ⟨s.gp (f, t), 3, none⟩), .agg (zcl z).toArray] W
      (fun e w' => e = .returned (.tuple #[]) ∧ Run F0 w0 (EscS (g.setP (f, t) { g.pr (f, t) with ms := (g.pr (f, t)).ms ++ [z.m] }) p s) w') := by
  obtain ⟨⟨F, ⟨F1, F2, h1, h2, h3, h4⟩, hF⟩, hmod⟩ := h.imp fun w F h => star_mono h (fun _ h => h) (fun F h => escQ_out (pair_mem.1 hp) h)
  obtain ⟨F3, F4, ⟨l, hz, hL⟩, h6, h7, h8⟩ := h2
  have X : Run F0 w0 (star (zow z) (star (LineS (g.pr (f, t)) (s.gp (f, t)) l) (EscQ g p s (f, t)))) W := ⟨⟨F, ⟨F1, F2, h1, ⟨F3, F4, hL, h6, h7, h8⟩, h3, h4⟩, hF⟩, hmod⟩
  have Y : Run F0 w0 (star (zow z) (LineQ (g.pr (f, t)) (s.gp (f, t)) l (EscQ g p s (f, t)))) W := X.imp fun w F h => star_mono h (fun _ h => h) (fun F h => star_mono (star_assoc h) (fun _ h => h) (fun F h => star_assoc h))
  have V := Y.imp fun w F h => send_in h
  have hn : l.zs.length ≤ 100 := by
    have : (l.zs.map ZMsg.m).length = (g.pr (f, t)).ms.length := by rw [hz.1]
    simp at this; omega
  obtain ⟨F5, hO, -, bk⟩ := V.take (star_ok cell_ok (star_ok (arow_ok zow_ok) (zow_ok z))) (star_ok row_ok escQ_ok)
  refine (put_any (z := z) (n := l.zs.length) rfl hn hO).mono ?_
  rintro e w' ⟨rfl, B', d', hP⟩
  exact ⟨rfl, send_run hp hz hzt (bk _ _ hP)⟩
end Go.Proofs.Ytapabbpdfplpoaa
