/-
  Escrow: what a delivery owns while it goes on.
-/
import Derived.Test.YtapabbpdfplpoaaE18
set_option linter.unusedSimpArgs false
set_option linter.unusedVariables false
namespace Go.Proofs.Ytapabbpdfplpoaa
open Go.RowKit Go.CH Go.CH.Esc
open Go.ChangeMaps (setBlock)

def boxO (bx : Nat) (z : ZMsg) : Own := CellO bx #[.slice z.A z.ts.length z.c, .int .i64 z.m.up, .int .i64 z.m.rc, .bool z.m.rev] 124
/-- The message in its box and its row; the line's cells; the line back: its cells, its transfers; the accounts; the rest. -/
def DlO (bx : Nat) (z : ZMsg) (q : PrG) (gp : Nat) (l : LinS) (qb : PrG) (gb : Nat) (A : Option Addr) (c : Nat) (lb : LinS) (s : EscP) (L : List Acc) (RR : Own) : Own :=
  star (star (boxO bx z) (zow z)) (star (lce q gp l.A l.c l) (star (lce qb gb A c lb) (star (lts qb A c) (star (accO s L) RR))))
theorem dlO_ok {bx : Nat} {z : ZMsg} {q : PrG} {gp : Nat} {l : LinS} {qb : PrG} {gb : Nat} {A : Option Addr} {c : Nat} {lb : LinS} {s : EscP} {L : List Acc} {RR : Own} (h : RR.Ok) : (DlO bx z q gp l qb gb A c lb s L RR).Ok :=
  star_ok (star_ok cell_ok (zow_ok z)) (star_ok cell_ok (star_ok cell_ok (star_ok row_ok (star_ok row_ok h))))
section
variable {F0 : Nat → Prop} {w0 W : World} {bx : Nat} {z : ZMsg} {q : PrG} {gp : Nat} {l : LinS} {qb : PrG} {gb : Nat} {A : Option Addr} {c : Nat} {lb : LinS} {s : EscP} {L : List Acc} {RR : Own}
structure DlR (W : World) (bx : Nat) (z : ZMsg) (q : PrG) (gp : Nat) (qb : PrG) (gb : Nat) (A : Option Addr) (c : Nat) (b : Nat) (L : List Acc) : Prop where
  b0 : W.cell? ⟨bx, 0, none⟩ = some (.slice z.A z.ts.length z.c)
  b1 : W.cell? ⟨bx, 1, none⟩ = some (.int .i64 z.m.up)
  b2 : W.cell? ⟨bx, 2, none⟩ = some (.int .i64 z.m.rc)
  b3 : W.cell? ⟨bx, 3, none⟩ = some (.bool z.m.rev)
  zr : ∀ (j : Nat) (h : j < z.ts.length), ∃ gz, z.A = some ⟨gz, 0, none⟩ ∧ W.cell? ⟨gz, j, none⟩ = some (.int .i64 z.ts[j])
  r : W.cell? ⟨gp, 2, none⟩ = some (.int .i64 q.rc)
  rf : W.frozen? ⟨gp, 2, none⟩ = false
  k0 : W.cell? ⟨gb, 0, none⟩ = some (.slice A (qb.H.drop qb.conf).length c)
  k1 : W.cell? ⟨gb, 1, none⟩ = some (.int .i64 qb.H.length)
  kf : W.frozen? ⟨gb, 0, none⟩ = false
  ks : Src W A (qb.H.drop qb.conf).length 1 (ints (qb.H.drop qb.conf))
  kc : (qb.H.drop qb.conf).length ≤ c
  kA : 0 < (qb.H.drop qb.conf).length → ∃ g, A = some ⟨g, 0, none⟩
  ac : ∀ k (h : k < L.length), W.cell? ⟨b, k * 3, none⟩ = some (.int .i64 L[k].u) ∧ W.cell? ⟨b, k * 3 + 2, none⟩ = some (.bool L[k].rev)
  af : 0 < L.length → ∀ i, W.frozen? ⟨b, i, none⟩ = false
theorem DlO.read {b : Nat} (hb : s.A = some ⟨b, 0, none⟩) (h : Run F0 w0 (DlO bx z q gp l qb gb A c lb s L RR) W) : DlR W bx z q gp qb gb A c b L := by
  obtain ⟨F1, ⟨F2, F3, hB, hZ, _, _⟩⟩ := h.fst
  obtain ⟨F4, hC⟩ := h.rot.fst
  obtain ⟨F5, hK⟩ := h.rot3.fst
  obtain ⟨F6, hT⟩ := (h.perm (by unfold DlO; ac_rfl : _ = star (lts qb A c) (star (star (boxO bx z) (zow z)) (star (lce q gp l.A l.c l) (star (lce qb gb A c lb) (star (accO s L) RR)))))).fst
  obtain ⟨F7, hA⟩ := (h.perm (by unfold DlO; ac_rfl : _ = star (accO s L) (star (star (boxO bx z) (zow z)) (star (lce q gp l.A l.c l) (star (lce qb gb A c lb) (star (lts qb A c) RR)))))).fst
  unfold accO at hA
  rw [hb] at hA
  refine ⟨cell_at hB rfl, cell_at hB rfl, cell_at hB rfl, cell_at hB rfl, fun j hj => ?_, cell_at hC rfl, cell_free hC 2, cell_at hK rfl, cell_at hK rfl, cell_free hK 0, row_src hT (ints_one _), (row_cap hT.1).1, fun hn => row_addr hT hn, fun k hk => ⟨row_cell hA ?_, row_cell hA ?_⟩, fun hl i => row_free hA i hl⟩
  · have hZ' : RowO 3 1 (.slice z.A z.ts.length z.c) z.ts.length (ints z.ts) W F3 := hZ
    obtain ⟨gz, hgz⟩ := row_addr hZ' (by omega)
    rw [hgz] at hZ'
    exact ⟨gz, hgz, row_cell hZ' (by simp [ints, hj])⟩
  · have := flat_get accL 3 accL_len hk 0 (by omega); simpa [accL] using this
  · have := flat_get accL 3 accL_len hk 2 (by omega); simpa [accL] using this
theorem DlO.setRc (hR : RR.Ok) (h : Run F0 w0 (DlO bx z q gp l qb gb A c lb s L RR) W) (n : Nat) : Run F0 w0 (DlO bx z { q with rc := n } gp l qb gb A c lb s L RR) (W.setCell ⟨gp, 2, none⟩ (.int .i64 n)) := by
  obtain ⟨F1, hC, -, bk⟩ := h.rot.take cell_ok (star_ok (star_ok cell_ok (zow_ok z)) (star_ok cell_ok (star_ok row_ok (star_ok row_ok hR))))
  exact (bk _ _ (cell_set hC 2 (.int .i64 n))).rot
theorem DlO.setAcc (hR : RR.Ok) {b : Nat} (hb : s.A = some ⟨b, 0, none⟩) (h : Run F0 w0 (DlO bx z q gp l qb gb A c lb s L RR) W) {k : Nat} (hk : k < L.length) (j : Nat) (hj : j < 3) (v : Value) (a : Acc) (ha : (accL L[k]).set j v = accL a) :
    Run F0 w0 (DlO bx z q gp l qb gb A c lb s (L.set k a) RR) (W.setCell ⟨b, k * 3 + j, none⟩ v) := by
  have e : ∀ L, DlO bx z q gp l qb gb A c lb s L RR = star (accO s L) (star (star (boxO bx z) (zow z)) (star (lce q gp l.A l.c l) (star (lce qb gb A c lb) (star (lts qb A c) RR)))) := fun L => by unfold DlO; ac_rfl
  obtain ⟨F1, hC, -, bk⟩ := (h.perm (e L)).take row_ok (star_ok (star_ok cell_ok (zow_ok z)) (star_ok cell_ok (star_ok cell_ok (star_ok row_ok hR))))
  unfold accO at hC
  rw [hb] at hC
  have h2 := row_set hC (i := k * 3 + j) (by omega) v
  rw [flat_set accL 3 accL_len hk hj ha] at h2
  refine (bk (accO s (L.set k a)) _ ?_).perm (e (L.set k a)).symm
  unfold accO
  rw [hb, List.length_set]
  exact h2
/-- The line back gets another row of transfers. -/
theorem DlO.setBack (hR : RR.Ok) {A' : Option Addr} {c' conf : Nat} (h : Run F0 w0 (star (lts { qb with conf := conf } A' c') (DlO bx z q gp l qb gb A c lb s L RR)) W) :
    Run F0 w0 (DlO bx z q gp l { qb with conf := conf } gb A' c' lb s L RR) (W.setCell ⟨gb, 0, none⟩ (.slice A' (qb.H.drop conf).length c')) := by
  have e : star (lts { qb with conf := conf } A' c') (DlO bx z q gp l qb gb A c lb s L RR) = star (lts qb A c) (star (lce qb gb A c lb) (star (star (boxO bx z) (zow z)) (star (lce q gp l.A l.c l) (star (lts { qb with conf := conf } A' c') (star (accO s L) RR))))) := by unfold DlO; ac_rfl
  obtain ⟨F1, hC, -, bk⟩ := (h.perm e).drop.take cell_ok (star_ok (star_ok cell_ok (zow_ok z)) (star_ok cell_ok (star_ok row_ok (star_ok row_ok hR))))
  have h2 := bk (lce { qb with conf := conf } gb A' c' lb) _ (cell_set hC 0 (.slice A' (qb.H.drop conf).length c'))
  refine h2.perm ?_
  unfold DlO; ac_rfl
end
/-- The state after the first j transfers of a message. -/
def dlL (L : List Acc) (k : Nat) (H : List Int) (rc n : Nat) : List Acc := L.set k { L.getD k default with u := (L.getD k default).u + isum ((H.take n).drop rc) }
theorem dlL_len (L : List Acc) (k : Nat) (H : List Int) (rc n : Nat) : (dlL L k H rc n).length = L.length := by simp [dlL]
theorem dlL_get {L : List Acc} {k : Nat} (hk : k < L.length) (H : List Int) (rc n : Nat) : (dlL L k H rc n)[k]'(by rw [dlL_len]; exact hk) = { L.getD k default with u := (L.getD k default).u + isum ((H.take n).drop rc) } := by simp [dlL]
theorem dlL_set (L : List Acc) (k : Nat) (H : List Int) (rc n : Nat) (a : Acc) : (dlL L k H rc n).set k a = L.set k a := by simp [dlL]
end Go.Proofs.Ytapabbpdfplpoaa
