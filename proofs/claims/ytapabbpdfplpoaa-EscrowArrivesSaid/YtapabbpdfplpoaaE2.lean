/-
  Escrow: line, Have, change, Spend, Return, Revoke.
-/
import Derived.Test.YtapabbpdfplpoaaE1
import Derived.Test.YtapabbpdfplpoaaLew
set_option linter.unusedSimpArgs false
set_option linter.unusedVariables false
namespace Go.Proofs.Ytapabbpdfplpoaa
open Go.RowKit Go.CH Go.CH.Esc
open Go.ChangeMaps (setBlock)

set_option maxHeartbeats 400000 in
theorem line_nil (f t : Int) (w : World) : Calls Try.prog 68 #[.pointer none, .int .i64 f, .int .i64 t] w (Quiet w (.pointer none)) := by
  go_enter Try.func68, Try.ntmps68
  go_wp2
  go_ret
  exact ⟨rfl, rfl⟩
def lineV (g : GM) (s : EscP) (f t : Int) : Value := if g.pair f t = true then .pointer (some ⟨s.gp (f, t), 0, none⟩) else .pointer none
set_option maxHeartbeats 400000 in
theorem line_any {w : World} {g : GM} {p : Nat} {s : EscP} (h : EscR w g p s) (f t : Int) : Calls Try.prog 68 #[.pointer (some ⟨p, 0, none⟩), .int .i64 f, .int .i64 t] w (Quiet w (lineV g s f t)) := by
  have c1 := h.c1
  have hl := h.look f t
  rw [show (if g.pair f t = true then Value.pointer (some ⟨s.gp (f, t), 0, none⟩) else .pointer none) = lineV g s f t from rfl] at hl
  generalize lineV g s f t = v at hl
  clear h
  go_enter Try.func68, Try.ntmps68
  go_wp2
  go_ret
  exact ⟨rfl, rfl⟩
set_option maxHeartbeats 400000 in
theorem have_nil (r : Int) (w : World) : Calls Try.prog 26 #[.pointer none, .int .i64 r] w (Quiet w (.int .i64 0)) := by
  go_enter Try.func26, Try.ntmps26
  go_wp2_with fail
  refine (at_nil r w).mono ?_
  rintro e w' ⟨rfl, rfl⟩
  go_wp2
  go_ret
  exact ⟨rfl, rfl⟩
theorem atV_true {g : GM} {s : EscP} {r : Int} {b : Nat} (hb : s.A = some ⟨b, 0, none⟩) (hi : g.is r = true) : atV g s r = .pointer (some ⟨b, r.toNat * 3, none⟩) := by simp [atV, hi, hb]
theorem atV_false {g : GM} {s : EscP} {r : Int} (hi : g.is r = false) : atV g s r = .pointer none := by simp [atV, hi]
set_option maxHeartbeats 400000 in
theorem have_any {w : World} {g : GM} {p : Nat} {s : EscP} (h : EscR w g p s) (hn : 1 ≤ g.acc.length ∧ g.acc.length ≤ 8) (r : Int) : Calls Try.prog 26 #[.pointer (some ⟨p, 0, none⟩), .int .i64 r] w (Quiet w (.int .i64 (have_ g r))) := by
  obtain ⟨b, hb⟩ := h.addr (by omega)
  have KA := hide (at_any h hn r)
  cases hi : g.is r with
  | false =>
    rw [atV_false hi] at KA
    have hv := hide (show have_ g r = 0 by simp [have_, hi])
    clear h hi hb hn
    go_enter Try.func26, Try.ntmps26
    go_wp2_with fail
    refine KA.out.mono ?_
    rintro e w' ⟨rfl, rfl⟩
    go_wp2
    go_ret
    exact ⟨by rw [hv.out]; rfl, rfl⟩
  | true =>
    rw [atV_true hb hi] at KA
    have hv := hide (show have_ g r = (g.at_ r).u by simp [have_, hi])
    obtain ⟨a0, -, -⟩ := h.accs b hb r hi
    generalize (g.at_ r).u = u at a0 hv
    generalize r.toNat * 3 = k at a0 KA
    clear h hi hb hn
    go_enter Try.func26, Try.ntmps26
    go_wp2_with fail
    refine KA.out.mono ?_
    rintro e w' ⟨rfl, rfl⟩
    go_wp2
    go_ret
    exact ⟨by rw [hv.out]; rfl, rfl⟩

/-! ### Writing an account -/
theorem escS_setA {g : GM} {r : Int} {a : Acc} {p : Nat} {s : EscP} {w : World} {F : Nat → Prop}
    (h : star (CellO p #[.slice s.A g.acc.length s.c, .map (some s.bm)] 101) (star (RowO 103 3 (.slice s.A g.acc.length s.c) g.acc.length ((g.acc.set r.toNat a).flatMap accL))
      (star (MapO (pairV .i64) s.bm (ents g.acc.length s.gp)) (bigK (keys g.acc.length) fun k => LineO (g.pr k) (s.gp k)))) w F) : EscS (g.setA r a) p s w F := by
  unfold EscS
  simp only [setA_len]
  exact h
theorem setA_twice (g : GM) (r : Int) (a b : Acc) : (g.setA r a).setA r b = g.setA r b := by simp [GM.setA]
/-- One cell of an account is written. -/
theorem esc_acc {F0 : Nat → Prop} {w0 W : World} {g : GM} {p : Nat} {s : EscP} (h : Run F0 w0 (EscS g p s) W) {r : Int} (hr : g.is r = true) {b : Nat} (hb : s.A = some ⟨b, 0, none⟩) (j : Nat) (hj : j < 3) (v : Value) (a : Acc) (ha : (accL (g.at_ r)).set j v = accL a) :
    Run F0 w0 (EscS (g.setA r a) p s) (W.setCell ⟨b, r.toNat * 3 + j, none⟩ v) ∧ W.frozen? ⟨b, r.toNat * 3 + j, none⟩ = false := by
  have hl := (is_lt hr).2
  have h1 : Run F0 w0 (star (CellO p #[.slice s.A g.acc.length s.c, .map (some s.bm)] 101) (star (RowO 103 3 (.slice s.A g.acc.length s.c) g.acc.length (g.acc.flatMap accL))
    (star (MapO (pairV .i64) s.bm (ents g.acc.length s.gp)) (bigK (keys g.acc.length) fun k => LineO (g.pr k) (s.gp k))))) W := h
  obtain ⟨F, hR, -, hbk⟩ := h1.rot.take row_ok (star_ok cell_ok (star_ok map_ok (bigK_ok (fun _ => lineO_ok))))
  rw [hb] at hR
  have hi : r.toNat * 3 + j < g.acc.length * 3 := by omega
  have h2 := row_set hR hi v
  rw [flat_set accL 3 accL_len hl hj (x := a) (by rw [← at_get hr]; exact ha)] at h2
  refine ⟨(hbk _ _ (by rw [← hb] at h2; exact h2)).rot.imp fun w F h => escS_setA h, row_free hR _ (by omega)⟩
end Go.Proofs.Ytapabbpdfplpoaa
