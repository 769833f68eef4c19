/-
  Escrow: a line is taken out of the escrow and put back; Give.
-/
import Derived.Test.YtapabbpdfplpoaaE4
set_option linter.unusedSimpArgs false
set_option linter.unusedVariables false
namespace Go.Proofs.Ytapabbpdfplpoaa
open Go.RowKit Go.CH Go.CH.Esc
open Go.ChangeMaps (setBlock)

/-- All but one line. -/
def EscQ (g : GM) (p : Nat) (s : EscP) (k : Int × Int) : Own :=
  star (CellO p #[.slice s.A g.acc.length s.c, .map (some s.bm)] 101) (star (RowO 103 3 (.slice s.A g.acc.length s.c) g.acc.length (g.acc.flatMap accL))
    (star (MapO (pairV .i64) s.bm (ents g.acc.length s.gp)) (bigK (@List.erase (Int × Int) instBEqOfDecidableEq (keys g.acc.length) k) fun k => LineO (g.pr k) (s.gp k))))
theorem escQ_ok {g : GM} {p : Nat} {s : EscP} {k : Int × Int} : (EscQ g p s k).Ok := star_ok cell_ok (star_ok row_ok (star_ok map_ok (bigK_ok (fun _ => lineO_ok))))
/-- The line in its three parts. -/
def LineQ (p : PrG) (g : Nat) (s : LinS) (O : Own) : Own :=
  star (CellO g #[.slice s.A (p.H.drop p.conf).length s.c, .int .i64 p.H.length, .int .i64 p.rc, .slice s.B s.zs.length s.d] 109)
    (star (RowO 3 1 (.slice s.A (p.H.drop p.conf).length s.c) (p.H.drop p.conf).length (ints (p.H.drop p.conf)))
      (star (ARow zcl zow 124 4 (.slice s.B s.zs.length s.d) s.zs) O))
theorem lineQ_ok {p : PrG} {g : Nat} {s : LinS} {O : Own} (h : O.Ok) : (LineQ p g s O).Ok := star_ok cell_ok (star_ok row_ok (star_ok (arow_ok zow_ok) h))
theorem escQ_out {w : World} {F : Nat → Prop} {g : GM} {p : Nat} {s : EscP} {k : Int × Int} (hk : k ∈ keys g.acc.length) (h : EscS g p s w F) : star (LineO (g.pr k) (s.gp k)) (EscQ g p s k) w F :=
  star_rot (star_mono h (fun _ h => h) (fun F h => star_rot (star_mono h (fun _ h => h) (fun F h => star_rot (star_mono h (fun _ h => h) (fun F h => bigK_out hk h))))))
theorem escQ_in {w : World} {F : Nat → Prop} {g : GM} {p : Nat} {s : EscP} {k : Int × Int} {q : PrG} (hk : k ∈ keys g.acc.length) (h : star (LineO q (s.gp k)) (EscQ g p s k) w F) : EscS (g.setP k q) p s w F := by
  have h1 : star (CellO p #[.slice s.A g.acc.length s.c, .map (some s.bm)] 101) (star (RowO 103 3 (.slice s.A g.acc.length s.c) g.acc.length (g.acc.flatMap accL))
    (star (MapO (pairV .i64) s.bm (ents g.acc.length s.gp)) (star (LineO q (s.gp k)) (bigK (@List.erase (Int × Int) instBEqOfDecidableEq (keys g.acc.length) k) fun k => LineO (g.pr k) (s.gp k))))) w F :=
    star_mono (star_rot h) (fun _ h => h) (fun F h => star_mono (star_rot h) (fun _ h => h) (fun F h => star_rot h))
  refine star_mono h1 (fun _ h => h) (fun F h => star_mono h (fun _ h => h) (fun F h => star_mono h (fun _ h => h) (fun F h => ?_)))
  refine bigK_in (nodup_keys _) (f := fun k => LineO (g.pr k) (s.gp k)) (g := fun x => LineO ((g.setP k q).pr x) (s.gp x)) hk (fun x hx => ?_) ?_
  · simp [GM.setP, hx]
  · have : (g.setP k q).pr k = q := by simp [GM.setP]
    simp only [this]; exact h
theorem esc_line {F0 : Nat → Prop} {w0 W : World} {g : GM} {p : Nat} {s : EscP} (h : Run F0 w0 (EscS g p s) W) {f t : Int} (hp : g.pair f t = true) :
    ∃ l, LineZ (g.pr (f, t)) l ∧ Run F0 w0 (LineQ (g.pr (f, t)) (s.gp (f, t)) l (EscQ g p s (f, t))) W := by
  have hk := pair_mem.1 hp
  obtain ⟨⟨F, ⟨F1, F2, ⟨l, hz, hl⟩, h2, h3, h4⟩, hF⟩, hm⟩ := h.imp (B := star (LineO (g.pr (f, t)) (s.gp (f, t))) (EscQ g p s (f, t))) fun w F h => escQ_out hk h
  have h5 : Run F0 w0 (star (LineS (g.pr (f, t)) (s.gp (f, t)) l) (EscQ g p s (f, t))) W := ⟨⟨F, ⟨F1, F2, hl, h2, h3, h4⟩, hF⟩, hm⟩
  exact ⟨l, hz, h5.imp fun w F h => star_mono (star_assoc h) (fun _ h => h) (fun F h => star_assoc h)⟩
theorem esc_back {F0 : Nat → Prop} {w0 W : World} {g : GM} {p : Nat} {s : EscP} {f t : Int} {q : PrG} {l : LinS} (h : Run F0 w0 (LineQ q (s.gp (f, t)) l (EscQ g p s (f, t))) W) (hz : LineZ q l) (hp : g.pair f t = true) :
    Run F0 w0 (EscS (g.setP (f, t) q) p s) W := by
  have h1 : Run F0 w0 (star (LineS q (s.gp (f, t)) l) (EscQ g p s (f, t))) W := h.imp fun w F h => star_assoc' (star_mono h (fun _ h => h) (fun F h => star_assoc' h))
  refine h1.imp fun w F h => escQ_in (pair_mem.1 hp) (star_mono h (fun F h => ⟨l, hz, h⟩) (fun _ h => h))
end Go.Proofs.Ytapabbpdfplpoaa
