/-
  Elements of a row of structs, written: any cells of one element.
  The reference of Licence: what is written; Revoke, Release, Return, Use.
  The reference of Licence: Revoke, Release, Return, Use.
  The reference of Licence: Use, Left.
  Escrow: line, Have, change, Spend, Return, Revoke.
  Escrow: change, Spend, Return, Revoke.
  Escrow: Spend, Return, Revoke.
  Escrow: a line is taken out of the escrow and put back; Give.
-/
import Derived.Test.YtapabbpdfplpoaaM2
import Derived.Test.YtapabbpdfplpoaaM9
import Derived.Test.YtapabbpdfplpoaaM5
set_option linter.unusedSimpArgs false
set_option linter.unusedVariables false
namespace Go.CH
open Go.RowKit

theorem mid_sets (pre post : List Value) : ∀ (l : List (Nat × Value)) (mid : List Value), (∀ x ∈ l, x.1 < mid.length) →
    l.foldl (fun xs x => xs.set (pre.length + x.1) x.2) (pre ++ (mid ++ post)) = pre ++ (l.foldl (fun m x => m.set x.1 x.2) mid ++ post)
  | [], _, _ => rfl
  | x :: l, mid, h => by
    have h0 := h x (by simp)
    simp only [List.foldl_cons]
    rw [List.set_append_right _ _ (by omega), show pre.length + x.1 - pre.length = x.1 by omega, List.set_append_left _ _ h0]
    exact mid_sets pre post l (mid.set x.1 x.2) (fun y hy => by rw [List.length_set]; exact h y (by simp [hy]))
theorem flat_len' {α : Type} {R : α → List Value} {size : Nat} (hR : ∀ x, (R x).length = size) (l : List α) : (l.flatMap R).length = l.length * size := flat_len hR l
theorem flat_sets {α : Type} {R : α → List Value} {size : Nat} (hR : ∀ x, (R x).length = size) {zs : List α} {k : Nat} (hk : k < zs.length) (l : List (Nat × Value)) (hl : ∀ x ∈ l, x.1 < size) {z : α}
    (hz : l.foldl (fun m x => m.set x.1 x.2) (R zs[k]) = R z) : l.foldl (fun xs x => xs.set (k * size + x.1) x.2) (zs.flatMap R) = (zs.set k z).flatMap R := by
  have e1 : zs.flatMap R = (zs.take k).flatMap R ++ (R zs[k] ++ (zs.drop (k + 1)).flatMap R) := by
    have := congrArg (List.flatMap R) (List.take_append_drop k zs)
    rw [List.flatMap_append, List.drop_eq_getElem_cons hk, List.flatMap_cons] at this
    exact this.symm
  have e2 : (zs.set k z).flatMap R = (zs.take k).flatMap R ++ (R z ++ (zs.drop (k + 1)).flatMap R) := by
    rw [List.set_eq_take_append_cons_drop, if_pos hk]
    simp
  have hp : ((zs.take k).flatMap R).length = k * size := by rw [flat_len hR, List.length_take]; congr 1; omega
  rw [e1, e2, ← hz, ← mid_sets _ _ l _ (fun x hx => by rw [hR]; exact hl x hx), hp]
section
variable {F0 : Nat → Prop} {w0 : World} {X : Own} {e : TypeId} {size g n c : Nat}
theorem run_sets (hX : X.Ok) : ∀ (l : List (Nat × Value)) (xs : List Value) (W : World), (∀ x ∈ l, x.1 < n * size) → Run F0 w0 (star (RowO e size (.slice (some ⟨g, 0, none⟩) n c) n xs) X) W →
    Run F0 w0 (star (RowO e size (.slice (some ⟨g, 0, none⟩) n c) n (l.foldl (fun xs x => xs.set x.1 x.2) xs)) X) (l.foldl (fun w x => w.setCell ⟨g, x.1, none⟩ x.2) W)
  | [], _, _, _, h => h
  | x :: l, xs, W, hl, h => by
    obtain ⟨F, hR, -, bk⟩ := h.take row_ok hX
    exact run_sets hX l _ _ (fun y hy => hl y (by simp [hy])) (bk _ _ (row_set hR (hl x (by simp)) x.2))
theorem run_elem (hX : X.Ok) {α : Type} {R : α → List Value} (hR : ∀ x, (R x).length = size) {zs : List α} (hn : zs.length = n) {k : Nat} (hk : k < zs.length) (l : List (Nat × Value)) (hl : ∀ x ∈ l, x.1 < size) {z : α}
    (hz : l.foldl (fun m x => m.set x.1 x.2) (R zs[k]) = R z) {W : World} (h : Run F0 w0 (star (RowO e size (.slice (some ⟨g, 0, none⟩) n c) n (zs.flatMap R)) X) W) :
    Run F0 w0 (star (RowO e size (.slice (some ⟨g, 0, none⟩) n c) n ((zs.set k z).flatMap R)) X) (l.foldl (fun w x => w.setCell ⟨g, k * size + x.1, none⟩ x.2) W) := by
  have h1 := run_sets hX (l.map fun x => (k * size + x.1, x.2)) (zs.flatMap R) W (fun x hx => by
    obtain ⟨y, hy, rfl⟩ := List.mem_map.1 hx
    have := hl y hy
    have h2 : (k + 1) * size ≤ n * size := Nat.mul_le_mul_right _ (by omega)
    rw [Nat.succ_mul] at h2
    simp only
    omega) h
  rw [List.foldl_map, List.foldl_map, flat_sets hR hk l hl hz] at h1
  exact h1
end
end Go.CH
namespace Go.Proofs.Ytapabbpdfplpoaa
open Go.RowKit Go.CH Go.CH.Lic Go.CH.Esc
open Go.ChangeMaps (setBlock)

/-- What a method of the reference leaves. -/
def RfPost (w0 w : World) (F : Nat → Prop) (v : Value) (b : BkM) (p : Nat) (e : Ending) (w' : World) : Prop := e = .returned v ∧ Post w F (RfO w0 b p) w'
theorem RfPost.quiet {w0 w : World} {F : Nat → Prop} {b : BkM} {p : Nat} (h : RfO w0 b p w F) (v : Value) : RfPost w0 w F v b p (.returned v) w :=
  ⟨rfl, F, h, Mod.refl _ _, fun i hi => .inl hi⟩
theorem RfPost.below {w0 w : World} {F : Nat → Prop} {b : BkM} {p : Nat} (h : RfO w0 b p w F) (v : Value) {w' : World} (hb : Below w.heap.size w w') : RfPost w0 w F v b p (.returned v) w' :=
  ⟨rfl, ((Run.start h).below rfO_ok hb).post rfO_ok⟩
theorem RfPost.of {w0 w : World} {F : Nat → Prop} {b : BkM} {p : Nat} {s : RfP} (hz : RfZ w0 b s) {v : Value} {w' : World} (h : Post w F (RfS b p s) w') : RfPost w0 w F v b p (.returned v) w' := by
  obtain ⟨F', q1, q2, q3⟩ := h
  exact ⟨rfl, F', ⟨_, hz, q1⟩, q2, q3⟩
theorem kcl_putG {b : BkM} {i : Nat} (hi : i < b.gs.length) {g : GrM} (hid : g.l.id = (gat b i).l.id) : kcl (putG b i g) = kcl b := by
  funext k
  unfold kcl
  rw [gat_putG hi]
  split
  · rename_i h; rw [h, hid]
  · rfl
theorem rfS_putG {b : BkM} {p : Nat} (s : RfP) {i : Nat} (hi : i < b.gs.length) {g : GrM} (hid : g.l.id = (gat b i).l.id) :
    RfS (putG b i g) p s = star (CellO p (rfcell b s) 77) (star (RowO 56 7 (.slice s.A b.gs.length s.c) b.gs.length (s.zs.flatMap lcl)) (star (RowO 3 1 (.slice s.E b.gs.length s.cE) b.gs.length (ints ((b.gs.map GrM.e).set i g.e))) (RfK b s))) := by
  unfold RfS RfL RfE RfK rfcell
  rw [kcl_putG hi hid, putG_len]
  unfold putG
  rw [List.map_set]
theorem e_same {b : BkM} {i : Nat} (hi : i < b.gs.length) : (b.gs.map GrM.e).set i (gat b i).e = b.gs.map GrM.e := by
  rw [gat_get hi, ← List.map_set, List.set_getElem_self]
section
variable {F0 : Nat → Prop} {w0 w1 W : World} {b : BkM} {p : Nat} {s : RfP}
theorem rf_setE (h : Run F0 w1 (RfS b p s) W) {i : Nat} (hi : i < b.gs.length) (a : Int) {g : Nat} (hE : s.E = some ⟨g, 0, none⟩) : Run F0 w1 (RfS (putG b i { gat b i with e := a }) p s) (W.setCell ⟨g, i, none⟩ (.int .i64 a)) := by
  rw [rfS_putG s hi (by rfl), show ints ((b.gs.map GrM.e).set i a) = (ints (b.gs.map GrM.e)).set i (.int .i64 a) by unfold ints; rw [List.map_set]]
  have h1 := h.perm (show RfS b p s = star (RowO 3 1 (.slice (some ⟨g, 0, none⟩) b.gs.length s.cE) b.gs.length (ints (b.gs.map GrM.e))) (star (CellO p (rfcell b s) 77) (star (RfL b s) (RfK b s))) by unfold RfS RfE; rw [← hE]; ac_rfl)
  have h2 := run_sets (star_ok cell_ok (star_ok row_ok row_ok)) [(i, .int .i64 a)] _ _ (by simpa using hi) h1
  exact h2.perm (by rw [← hE]; simp only [List.foldl_cons, List.foldl_nil]; unfold RfK; ac_rfl)
theorem rf_setL (h : Run F0 w1 (RfS b p s) W) (hz : RfZ w0 b s) {i : Nat} (hi : i < b.gs.length) {g : Nat} (hA : s.A = some ⟨g, 0, none⟩) (l : List (Nat × Value)) (hl : ∀ x ∈ l, x.1 < 7) (z : ZL) (hid : z.l.id = (gat b i).l.id)
    (hcl : l.foldl (fun m x => m.set x.1 x.2) (lcl (s.zs[i]'(by rw [rfz_len hz]; exact hi))) = lcl z) :
    Run F0 w1 (RfS (putG b i { gat b i with l := z.l }) p { s with zs := s.zs.set i z }) (l.foldl (fun w x => w.setCell ⟨g, i * 7 + x.1, none⟩ x.2) W) := by
  rw [rfS_putG { s with zs := s.zs.set i z } hi (by exact hid)]
  have h1 := h.perm (show RfS b p s = star (RowO 56 7 (.slice (some ⟨g, 0, none⟩) b.gs.length s.c) b.gs.length (s.zs.flatMap lcl)) (star (CellO p (rfcell b s) 77) (star (RfE b s) (RfK b s))) by unfold RfS RfL; rw [← hA]; ac_rfl)
  have h2 := run_elem (star_ok cell_ok (star_ok row_ok row_ok)) lcl_len (rfz_len hz) (by rw [rfz_len hz]; exact hi) l hl hcl h1
  refine h2.perm ?_
  simp only [e_same hi]
  rw [← hA]; unfold rfcell RfK; ac_rfl
theorem rf_setK (h : Run F0 w1 (RfS b p s) W) {j : Nat} (hj : j < b.ks.length) {g : Nat} (hK : s.K = some ⟨g, 0, none⟩) (l : List (Nat × Value)) (hl : ∀ x ∈ l, x.1 < 4) (k : KeyM)
    (hcl : l.foldl (fun m x => m.set x.1 x.2) (kcl b b.ks[j]) = kcl b k) :
    Run F0 w1 (RfS (putK b j k) p s) (l.foldl (fun w x => w.setCell ⟨g, j * 4 + x.1, none⟩ x.2) W) := by
  have h1 := h.perm (show RfS b p s = star (RowO 163 4 (.slice (some ⟨g, 0, none⟩) b.ks.length s.cK) b.ks.length (b.ks.flatMap (kcl b))) (star (CellO p (rfcell b s) 77) (star (RfL b s) (RfE b s))) by unfold RfS RfK; rw [← hK]; ac_rfl)
  have h2 := run_elem (star_ok cell_ok (star_ok row_ok row_ok)) (kcl_len b) rfl hj l hl hcl h1
  refine h2.perm ?_
  have e1 : kcl (putK b j k) = kcl b := by funext x; rfl
  unfold RfS RfL RfE RfK rfcell
  rw [e1, putK_len, ← hK]
  unfold putK
  ac_rfl
theorem rfz_putG (hz : RfZ w0 b s) {i : Nat} (hi : i < b.gs.length) {g : GrM} (hl : g.l = (gat b i).l) : RfZ w0 (putG b i g) s := by
  refine ⟨?_, hz.2⟩
  rw [hz.1]; unfold putG
  rw [List.map_set, hl, gat_get hi]
  have : (b.gs.map (·.l)).set i b.gs[i].l = b.gs.map (·.l) := by rw [← List.map_set, List.set_getElem_self]
  exact this.symm
theorem rfz_setL (hz : RfZ w0 b s) {i : Nat} (hi : i < b.gs.length) {g : GrM} {z : ZL} (hl : z.l = g.l) (hin : LicIn w0 z.l z.A z.B) : RfZ w0 (putG b i g) { s with zs := s.zs.set i z } := by
  refine ⟨?_, fun y hy => ?_⟩
  · unfold putG
    simp only [List.map_set, hz.1, hl]
  · rcases List.mem_or_eq_of_mem_set hy with hy | rfl
    · exact hz.2 y hy
    · exact hin
theorem rfz_putK (hz : RfZ w0 b s) (j : Nat) (k : KeyM) : RfZ w0 (putK b j k) s := hz
end
end Go.Proofs.Ytapabbpdfplpoaa
namespace Go.Proofs.Ytapabbpdfplpoaa
open Go.RowKit Go.CH Go.CH.Lic Go.CH.Esc
open Go.ChangeMaps (setBlock)

section
variable {w w0 : World} {F : Nat → Prop} {b : BkM} {p : Nat}
set_option maxRecDepth 100000 in
set_option maxHeartbeats 1600000 in
theorem rrevoke_any (h : RfO w0 b p w F) (hI : Inv2 b) (id : ByteArray) (a : Int) : Calls Try.prog 85 #[gptr p, .string id, .int .i64 a] w (RfPost w0 w F (.int .i64 (revokeR b id a).1) (revokeR b id a).2 p) := by
  have H := hide h
  obtain ⟨s, hz, hS⟩ := h
  have KF := hide (rfind_any hS.read hz hI.inv.gn id)
  have KI := hide (fun W => inst_any a W)
  cases hf : findG b id with
  | none =>
    have e1 : revokeR b id a = (11, b) := by unfold revokeR; rw [hf]
    rw [e1]
    rw [hf] at KF
    simp only [fz] at KF
    clear hz hS hI hf e1
    unfold gptr at *
    go_enter Try.func85, Try.ntmps85
    go_wp2_with fail
    refine KF.out.mono ?_
    rintro e w' ⟨rfl, rfl⟩
    go_wp2
    go_ret
    exact RfPost.quiet H.out _
  | some i =>
    have hi := (findG_some hf).1
    have hn100 := hI.inv.gn
    rw [hf] at KF
    simp only [fz] at KF
    cases ha : inst a with
    | false =>
      have e1 : revokeR b id a = (1, b) := by unfold revokeR; rw [hf]; simp [ha]
      rw [e1]
      rw [ha] at KI
      clear hz hS hI hf e1 ha
      unfold gptr at *
      go_enter Try.func85, Try.ntmps85
      go_wp2_with fail
      refine KF.out.mono ?_
      rintro e w' ⟨rfl, rfl⟩
      go_wp2_with fail
      refine (KI.out _).mono ?_
      rintro e w' ⟨rfl, rfl⟩
      go_wp2
      go_ret
      exact RfPost.quiet H.out _
    | true =>
      rw [ha] at KI
      have hR := hS.read
      have c1 := hR.c1
      obtain ⟨g, hE, he, hfr⟩ := hR.e i hi
      rw [hE] at c1
      have hge := (hI.inv.g _ (gat_mem hi)).2.2.2.2.2.1
      by_cases h0 : 0 ≤ (gat b i).e
      · have e1 : revokeR b id a = (12, b) := by unfold revokeR; rw [hf]; simp [ha, h0]
        rw [e1]
        have t1 : ((gat b i).e != -1) = true := by simp; omega
        generalize (gat b i).e = ze at *
        clear hz hS hI hf e1 ha hR hE hge h0
        unfold gptr at *
        go_enter Try.func85, Try.ntmps85
        go_wp2_with fail
        refine KF.out.mono ?_
        rintro e w' ⟨rfl, rfl⟩
        go_wp2_with fail
        refine (KI.out _).mono ?_
        rintro e w' ⟨rfl, rfl⟩
        go_wp2
        go_ret
        exact RfPost.quiet H.out _
      · have e1 : revokeR b id a = (0, putG b i { gat b i with e := a }) := by unfold revokeR; rw [hf]; simp [ha, h0]
        rw [e1]
        have e2 : (gat b i).e = -1 := by omega
        rw [e2] at he
        have HP := hide ((rf_setE (Run.start hS) hi a hE).post rfS_ok)
        have HZ := hide (rfz_putG hz hi (g := { gat b i with e := a }) rfl)
        clear hz hS hI hf e1 ha hR hE hge h0 e2
        unfold gptr at *
        go_enter Try.func85, Try.ntmps85
        go_wp2_with fail
        refine KF.out.mono ?_
        rintro e w' ⟨rfl, rfl⟩
        go_wp2_with fail
        refine (KI.out _).mono ?_
        rintro e w' ⟨rfl, rfl⟩
        go_wp2
        go_ret
        exact RfPost.of HZ.out HP.out
theorem RfR.k {s : RfP} (h : RfR w b p s) {j : Nat} (hj : j < b.ks.length) : ∃ g, s.K = some ⟨g, 0, none⟩ ∧ w.cell? ⟨g, j * 4 + 1, none⟩ = some (.string (gat b (kat b j).gi).l.id) ∧ w.cell? ⟨g, j * 4 + 2, none⟩ = some (.int .i64 ((kat b j).st + 1)) ∧ w.cell? ⟨g, j * 4 + 3, none⟩ = some (.int .i64 (kat b j).un) ∧ ∀ i, w.frozen? ⟨g, i, none⟩ = false := by
  obtain ⟨g, hA, hc, hf⟩ := h.key j hj
  rw [kat_get hj]
  exact ⟨g, hA, hc 1 _ (by omega) rfl, hc 2 _ (by omega) rfl, hc 3 _ (by omega) rfl, hf⟩
theorem rfS_same (s : RfP) {i : Nat} (hi : i < b.gs.length) {g : GrM} (hid : g.l.id = (gat b i).l.id) (he : g.e = (gat b i).e) : RfS (putG b i g) p s = RfS b p s := by
  rw [rfS_putG s hi hid, he, e_same hi]
  rfl
/-- A released key: the reference keeps its number. -/
theorem rf_rel {s : RfP} {F0 : Nat → Prop} {w1 W : World} (h : Run F0 w1 (RfS b p s) W) (hI : Inv2 b) {j : Nat} (hj : j < b.ks.length) {g : Nat} (hK : s.K = some ⟨g, 0, none⟩) : Run F0 w1 (RfS (relM b j) p s) (W.setCell ⟨g, j * 4 + 2, none⟩ (.int .i64 3)) := by
  have hgi := (hI.inv.k _ (kat_mem hj)).1
  have h1 := rf_setK h hj hK [(2, .int .i64 3)] (by simp) { kat b j with st := 2 } (by rw [kat_get hj]; rfl)
  have e : RfS (relM b j) p s = RfS (putK b j { kat b j with st := 2 }) p s := by
    unfold relM
    exact rfS_same (b := putK b j { kat b j with st := 2 }) s (i := (kat b j).gi) hgi rfl rfl
  rw [e]
  exact h1
theorem rf_setM {s : RfP} {F0 : Nat → Prop} {w1 W : World} (h : Run F0 w1 (RfS b p s) W) (hI : Inv2 b) {j : Nat} (hj : j < b.ks.length) {g : Nat} (hK : s.K = some ⟨g, 0, none⟩) (st un : Int) (l : List (Nat × Value)) (hl : ∀ x ∈ l, x.1 < 4)
    (hcl : l.foldl (fun m x => m.set x.1 x.2) (kcl b (kat b j)) = kcl b { kat b j with st := st, un := un }) : Run F0 w1 (RfS (setM b j st un) p s) (l.foldl (fun w x => w.setCell ⟨g, j * 4 + x.1, none⟩ x.2) W) := by
  have hgi := (hI.inv.k _ (kat_mem hj)).1
  have h1 := rf_setK h hj hK l hl { kat b j with st := st, un := un } (by rw [← kat_get hj]; exact hcl)
  have e : RfS (setM b j st un) p s = RfS (putK b j { kat b j with st := st, un := un }) p s := by
    unfold setM
    exact rfS_same (b := putK b j { kat b j with st := st, un := un }) s (i := (kat b j).gi) hgi rfl rfl
  rw [e]
  exact h1
theorem rfz_rel {s : RfP} (hz : RfZ w0 b s) (hI : Inv2 b) {j : Nat} (hj : j < b.ks.length) : RfZ w0 (relM b j) s :=
  rfz_putG (b := putK b j { kat b j with st := 2 }) hz (hI.inv.k _ (kat_mem hj)).1 rfl
theorem rfz_setM {s : RfP} (hz : RfZ w0 b s) (hI : Inv2 b) {j : Nat} (hj : j < b.ks.length) (st un : Int) : RfZ w0 (setM b j st un) s :=
  rfz_putG (b := putK b j { kat b j with st := st, un := un }) hz (hI.inv.k _ (kat_mem hj)).1 rfl
set_option maxRecDepth 100000 in
set_option maxHeartbeats 1600000 in
theorem rrelease_any (h : RfO w0 b p w F) (hI : Inv2 b) (nm : ByteArray) : Calls Try.prog 91 #[gptr p, .string nm] w (RfPost w0 w F (.int .i64 (releaseR b nm).1) (releaseR b nm).2 p) := by
  have H := hide h
  obtain ⟨s, hz, hS⟩ := h
  have KF := hide (rkey_any hS.read hI.inv.kn nm)
  cases hf : findK b nm with
  | none =>
    have e1 : releaseR b nm = (11, b) := by unfold releaseR; rw [hf]
    rw [e1]
    rw [hf] at KF
    simp only [fz] at KF
    clear hz hS hI hf e1
    unfold gptr at *
    go_enter Try.func91, Try.ntmps91
    go_wp2_with fail
    refine KF.out.mono ?_
    rintro e w' ⟨rfl, rfl⟩
    go_wp2
    go_ret
    exact RfPost.quiet H.out _
  | some j =>
    have hj := (findK_some hf).1
    have hn100 := hI.inv.kn
    rw [hf] at KF
    simp only [fz] at KF
    have hR := hS.read
    have c2 := hR.c2
    obtain ⟨g, hK, k1, k2, k3, hfr⟩ := hR.k hj
    have hf2 := hfr (j * 4 + 2)
    have HK := hide hK
    rw [hK] at c2
    by_cases h0 : (kat b j).st = 0
    · have e1 : releaseR b nm = (0, relM b j) := by unfold releaseR; rw [hf]; simp [h0]
      rw [e1]
      have HP := hide ((rf_rel (Run.start hS) hI hj hK).post rfS_ok)
      have HZ := hide (rfz_rel hz hI hj)
      rw [h0] at k2
      clear hz hS hI hf e1 hR hK h0 hfr k1 k3
      unfold gptr at *
      go_enter Try.func91, Try.ntmps91
      go_wp2_with fail
      refine KF.out.mono ?_
      rintro e w' ⟨rfl, rfl⟩
      go_wp2
      go_ret
      exact RfPost.of HZ.out HP.out
    · have e1 : releaseR b nm = (12, b) := by unfold releaseR; rw [hf]; simp [h0]
      rw [e1]
      have t1 : ((kat b j).st + 1 != 1) = true := by simp; omega
      generalize (kat b j).st = st at *
      clear hz hS hI hf e1 hR hK h0 hfr k1 k3
      unfold gptr at *
      go_enter Try.func91, Try.ntmps91
      go_wp2_with fail
      refine KF.out.mono ?_
      rintro e w' ⟨rfl, rfl⟩
      go_wp2
      go_ret
      exact RfPost.quiet H.out _
set_option maxRecDepth 100000 in
set_option maxHeartbeats 1600000 in
theorem rreturn_any (h : RfO w0 b p w F) (hI : Inv2 b) (nm : ByteArray) (un : Int) : Calls Try.prog 90 #[gptr p, .string nm, .int .i64 un] w (RfPost w0 w F (.int .i64 (returnR b nm un).1) (returnR b nm un).2 p) := by
  have H := hide h
  obtain ⟨s, hz, hS⟩ := h
  have KF := hide (rkey_any hS.read hI.inv.kn nm)
  cases hf : findK b nm with
  | none =>
    have e1 : returnR b nm un = (11, b) := by unfold returnR; rw [hf]
    rw [e1]
    rw [hf] at KF
    simp only [fz] at KF
    clear hz hS hI hf e1
    unfold gptr at *
    go_enter Try.func90, Try.ntmps90
    go_wp2_with fail
    refine KF.out.mono ?_
    rintro e w' ⟨rfl, rfl⟩
    go_wp2
    go_ret
    exact RfPost.quiet H.out _
  | some j =>
    have hj := (findK_some hf).1
    have hn100 := hI.inv.kn
    rw [hf] at KF
    simp only [fz] at KF
    have hR := hS.read
    have c2 := hR.c2
    obtain ⟨g, hK, k1, k2, k3, hfr⟩ := hR.k hj
    have hf2 := hfr (j * 4 + 3)
    rw [hK] at c2
    by_cases hu : un < 1
    · have e1 : returnR b nm un = (1, b) := by unfold returnR; rw [hf]; simp [hu]
      rw [e1]
      clear hz hS hI hf e1 hR hK hfr k1 k2 k3
      unfold gptr at *
      go_enter Try.func90, Try.ntmps90
      go_wp2_with fail
      refine KF.out.mono ?_
      rintro e w' ⟨rfl, rfl⟩
      go_wp2
      go_ret
      exact RfPost.quiet H.out _
    by_cases h0 : (kat b j).st = 1
    case neg =>
      have e1 : returnR b nm un = (12, b) := by unfold returnR; rw [hf]; simp [h0, hu]
      rw [e1]
      have t1 : ((kat b j).st + 1 != 2) = true := by simp; omega
      generalize (kat b j).st = st at *
      clear hz hS hI hf e1 hR hK h0 hfr k1 k3
      unfold gptr at *
      go_enter Try.func90, Try.ntmps90
      go_wp2_with fail
      refine KF.out.mono ?_
      rintro e w' ⟨rfl, rfl⟩
      go_wp2
      go_ret
      exact RfPost.quiet H.out _
    by_cases hq : (kat b j).un < un
    · have e1 : returnR b nm un = (19, b) := by unfold returnR; rw [hf]; simp [h0, hu, hq]
      rw [e1]
      rw [h0] at k2
      generalize (kat b j).un = ku at *
      clear hz hS hI hf e1 hR hK h0 hfr k1
      unfold gptr at *
      go_enter Try.func90, Try.ntmps90
      go_wp2_with fail
      refine KF.out.mono ?_
      rintro e w' ⟨rfl, rfl⟩
      go_wp2
      go_ret
      exact RfPost.quiet H.out _
    have e1 : returnR b nm un = (0, setM b j 1 ((kat b j).un - un)) := by unfold returnR; rw [hf]; simp [h0, hu, hq]
    rw [e1]
    have HP := hide ((rf_setM (Run.start hS) hI hj hK 1 ((kat b j).un - un) [(3, .int .i64 ((kat b j).un - un))] (by simp) (by unfold kcl; rw [h0]; rfl)).post rfS_ok)
    have HZ := hide (rfz_setM hz hI hj 1 ((kat b j).un - un))
    have hb := (hI.inv.k _ (kat_mem hj)).2
    have hb1 := hb.1
    have hb2 := hb.2.1
    rw [h0] at k2
    generalize (kat b j).un = ku at *
    clear hz hS hI hf e1 hR hK h0 hfr k1 hb
    unfold gptr at *
    go_enter Try.func90, Try.ntmps90
    go_wp2_with fail
    refine KF.out.mono ?_
    rintro e w' ⟨rfl, rfl⟩
    go_wp2
    go_ret
    exact RfPost.of HZ.out HP.out
end
end Go.Proofs.Ytapabbpdfplpoaa
namespace Go.Proofs.Ytapabbpdfplpoaa
open Go.RowKit Go.CH Go.CH.Lic Go.CH.Esc
open Go.ChangeMaps (setBlock)

section
variable {w w0 : World} {F : Nat → Prop} {b : BkM} {p : Nat}
theorem findG_self {b : BkM} (h : Inv2 b) {i : Nat} (hi : i < b.gs.length) : findG b (gat b i).l.id = some i :=
  findG_at hi rfl (fun j hj e => by have := (ids_eq h.ids hi (by omega)).1 e; omega)
theorem rfS_ne {s : RfP} (h : RfS b p s w F) : (∀ g, s.A = some ⟨g, 0, none⟩ → p ≠ g) ∧ (∀ g, s.E = some ⟨g, 0, none⟩ → p ≠ g) ∧ ∀ g, s.K = some ⟨g, 0, none⟩ → p ≠ g := by
  obtain ⟨F1, F2, hC, ⟨F3, F4, hL, ⟨F5, F6, hE, hK, -, h6⟩, -, h4⟩, hd, -⟩ := h
  have hp : F1 p := (hC.2 p).2 rfl
  refine ⟨fun g hg e => ?_, fun g hg e => ?_, fun g hg e => ?_⟩
  · subst e
    unfold RfL at hL
    rw [hg] at hL
    exact hd p hp ((h4 p).2 (.inl ((hL.2 p).2 rfl)))
  · subst e
    unfold RfE at hE
    rw [hg] at hE
    exact hd p hp ((h4 p).2 (.inr ((h6 p).2 (.inl ((hE.2 p).2 rfl)))))
  · subst e
    unfold RfK at hK
    rw [hg] at hK
    exact hd p hp ((h4 p).2 (.inr ((h6 p).2 (.inr ((hK.2 p).2 rfl)))))
set_option maxRecDepth 100000 in
set_option maxHeartbeats 3200000 in
theorem ruse_any (h : RfO w0 b p w F) (hI : Inv2 b) (nm : ByteArray) (un a : Int) : Calls Try.prog 89 #[gptr p, .string nm, .int .i64 un, .int .i64 a] w (RfPost w0 w F (.int .i64 (useR b nm un a).1) (useR b nm un a).2 p) := by
  have H := hide h
  obtain ⟨s, hz, hS⟩ := h
  have KF := hide (rkey_any hS.read hI.inv.kn nm)
  have KI := hide (fun W => inst_any a W)
  cases hf : findK b nm with
  | none =>
    have e1 : useR b nm un a = (11, b) := by unfold useR; rw [hf]
    rw [e1]
    rw [hf] at KF
    simp only [fz] at KF
    clear hz hS hI hf e1
    unfold gptr at *
    go_enter Try.func89, Try.ntmps89
    go_wp2_with fail
    refine KF.out.mono ?_
    rintro e w' ⟨rfl, rfl⟩
    go_wp2
    go_ret
    exact RfPost.quiet H.out _
  | some j =>
    have hj := (findK_some hf).1
    have hn100 := hI.inv.kn
    rw [hf] at KF
    simp only [fz] at KF
    by_cases hu : un < 0
    · have e1 : useR b nm un a = (1, b) := by unfold useR; rw [hf]; simp [hu]
      rw [e1]
      have t1 : decide (un < 0) = true := decide_eq_true hu
      clear hz hS hI hf e1 hu
      unfold gptr at *
      go_enter Try.func89, Try.ntmps89
      go_wp2_with fail
      refine KF.out.mono ?_
      rintro e w' ⟨rfl, rfl⟩
      go_wp2
      go_ret
      exact RfPost.quiet H.out _
    have t1 : decide (un < 0) = false := decide_eq_false hu
    cases ha : inst a with
    | false =>
      have e1 : useR b nm un a = (1, b) := by unfold useR; rw [hf]; simp [ha]
      rw [e1]
      rw [ha] at KI
      clear hz hS hI hf e1 ha hu
      unfold gptr at *
      go_enter Try.func89, Try.ntmps89
      go_wp2_with fail
      refine KF.out.mono ?_
      rintro e w' ⟨rfl, rfl⟩
      go_wp2_with fail
      refine (KI.out _).mono ?_
      rintro e w' ⟨rfl, rfl⟩
      go_wp2
      go_ret
      exact RfPost.quiet H.out _
    | true =>
      rw [ha] at KI
      have hR := hS.read
      have c2 := hR.c2
      obtain ⟨g, hK, k1, k2, k3, hfr⟩ := hR.k hj
      have hf2 := hfr (j * 4 + 2)
      have hf3 := hfr (j * 4 + 3)
      rw [hK] at c2
      have hgi := (hI.inv.k _ (kat_mem hj)).1
      have KG := hide (rfind_any hR hz hI.inv.gn (gat b (kat b j).gi).l.id)
      rw [findG_self hI hgi] at KG
      simp only [fz] at KG
      have KR := hide (rruns_any hR hz hI.inv hgi a)
      by_cases h0 : (kat b j).st = 0
      case neg =>
        have e1 : useR b nm un a = (12, b) := by unfold useR; rw [hf]; simp [h0, hu, ha]
        rw [e1]
        have t2 : ((kat b j).st + 1 != 1) = true := by simp; omega
        generalize (kat b j).st = st at *
        clear hz hS hI hf e1 hR hK h0 hfr k1 k3 ha hu KG KR hgi
        unfold gptr at *
        go_enter Try.func89, Try.ntmps89
        go_wp2_with fail
        refine KF.out.mono ?_
        rintro e w' ⟨rfl, rfl⟩
        go_wp2_with fail
        refine (KI.out _).mono ?_
        rintro e w' ⟨rfl, rfl⟩
        go_wp2
        go_ret
        exact RfPost.quiet H.out _
      cases hr : runsG (gat b (kat b j).gi) a with
      | false =>
        have e1 : useR b nm un a = (22, relM b j) := by unfold useR; rw [hf]; simp [h0, hu, ha, hr]
        rw [e1]
        rw [hr] at KR
        have HP := hide ((rf_rel (Run.start hS) hI hj hK).post rfS_ok)
        have HZ := hide (rfz_rel hz hI hj)
        rw [h0] at k2
        generalize (kat b j).gi = gi at *
        generalize (gat b gi).l.id = gid at *
        clear hz hS hI hf e1 hR hK h0 hfr k3 ha hu hr hgi
        unfold gptr at *
        go_enter Try.func89, Try.ntmps89
        go_wp2_with fail
        refine KF.out.mono ?_
        rintro e w' ⟨rfl, rfl⟩
        go_wp2_with fail
        refine (KI.out _).mono ?_
        rintro e w' ⟨rfl, rfl⟩
        go_wp2_with fail
        refine KG.out.mono ?_
        rintro e w' ⟨rfl, rfl⟩
        go_wp2_with fail
        refine KR.out.mono ?_
        rintro e w' ⟨rfl, rfl⟩
        go_wp2
        go_ret
        exact RfPost.of HZ.out HP.out
      | true =>
        rw [hr] at KR
        by_cases hq : (kat b j).un < un
        · have e1 : useR b nm un a = (19, b) := by unfold useR; rw [hf]; simp [h0, hu, ha, hr, hq]
          rw [e1]
          rw [h0] at k2
          generalize (kat b j).gi = gi at *
          generalize (gat b gi).l.id = gid at *
          generalize (kat b j).un = ku at *
          clear hz hS hI hf e1 hR hK h0 hfr ha hu hr hgi
          unfold gptr at *
          go_enter Try.func89, Try.ntmps89
          go_wp2_with fail
          refine KF.out.mono ?_
          rintro e w' ⟨rfl, rfl⟩
          go_wp2_with fail
          refine (KI.out _).mono ?_
          rintro e w' ⟨rfl, rfl⟩
          go_wp2_with fail
          refine KG.out.mono ?_
          rintro e w' ⟨rfl, rfl⟩
          go_wp2_with fail
          refine KR.out.mono ?_
          rintro e w' ⟨rfl, rfl⟩
          go_wp2
          go_ret
          exact RfPost.quiet H.out _
        have e1 : useR b nm un a = (0, setM b j 1 un) := by unfold useR; rw [hf]; simp [h0, hu, ha, hr, hq]
        rw [e1]
        have HP := hide ((rf_setM (Run.start hS) hI hj hK 1 un [(2, .int .i64 2), (3, .int .i64 un)] (by simp) (by unfold kcl; rfl)).post rfS_ok)
        have HZ := hide (rfz_setM hz hI hj 1 un)
        rw [h0] at k2
        generalize (kat b j).gi = gi at *
        generalize (gat b gi).l.id = gid at *
        generalize (kat b j).un = ku at *
        have hpl : p ≠ g := (rfS_ne hS).2.2 g hK
        clear hz hS hI hf e1 hR hK h0 hfr ha hu hr hgi
        unfold gptr at *
        go_enter Try.func89, Try.ntmps89
        go_wp2_with fail
        refine KF.out.mono ?_
        rintro e w' ⟨rfl, rfl⟩
        go_wp2_with fail
        refine (KI.out _).mono ?_
        rintro e w' ⟨rfl, rfl⟩
        go_wp2_with fail
        refine KG.out.mono ?_
        rintro e w' ⟨rfl, rfl⟩
        go_wp2_with fail
        refine KR.out.mono ?_
        rintro e w' ⟨rfl, rfl⟩
        go_wp2
        go_ret
        exact RfPost.of HZ.out HP.out
end
end Go.Proofs.Ytapabbpdfplpoaa
namespace Go.Proofs.Ytapabbpdfplpoaa
open Go.RowKit Go.CH Go.CH.Esc
open Go.ChangeMaps (setBlock)

set_option maxHeartbeats 400000 in
theorem line_nil (f t : Int) (w : World) : Calls Try.prog 68 #[.pointer none, .int .i64 f, .int .i64 t] w (Quiet w (.pointer none)) := by
  go_enter Try.func68, Try.ntmps68
  go_wp2
  go_ret
  exact ⟨rfl, rfl⟩
def lineV (g : GM) (s : EscP) (f t : Int) : Value := if g.pair f t = true then .pointer (some ⟨s.gp (f, t), 0, none⟩) else .pointer none
set_option maxHeartbeats 400000 in
theorem line_any {w : World} {g : GM} {p : Nat} {s : EscP} (h : EscR w g p s) (f t : Int) : Calls Try.prog 68 #[.pointer (some ⟨p, 0, none⟩), .int .i64 f, .int .i64 t] w (Quiet w (lineV g s f t)) := by
  have c1 := h.c1
  have hl := h.look f t
  rw [show (if g.pair f t = true then Value.pointer (some ⟨s.gp (f, t), 0, none⟩) else .pointer none) = lineV g s f t from rfl] at hl
  generalize lineV g s f t = v at hl
  clear h
  go_enter Try.func68, Try.ntmps68
  go_wp2
  go_ret
  exact ⟨rfl, rfl⟩
set_option maxHeartbeats 400000 in
theorem have_nil (r : Int) (w : World) : Calls Try.prog 26 #[.pointer none, .int .i64 r] w (Quiet w (.int .i64 0)) := by
  go_enter Try.func26, Try.ntmps26
  go_wp2_with fail
  refine (at_nil r w).mono ?_
  rintro e w' ⟨rfl, rfl⟩
  go_wp2
  go_ret
  exact ⟨rfl, rfl⟩
theorem atV_true {g : GM} {s : EscP} {r : Int} {b : Nat} (hb : s.A = some ⟨b, 0, none⟩) (hi : g.is r = true) : atV g s r = .pointer (some ⟨b, r.toNat * 3, none⟩) := by simp [atV, hi, hb]
theorem atV_false {g : GM} {s : EscP} {r : Int} (hi : g.is r = false) : atV g s r = .pointer none := by simp [atV, hi]
set_option maxHeartbeats 400000 in
theorem have_any {w : World} {g : GM} {p : Nat} {s : EscP} (h : EscR w g p s) (hn : 1 ≤ g.acc.length ∧ g.acc.length ≤ 8) (r : Int) : Calls Try.prog 26 #[.pointer (some ⟨p, 0, none⟩), .int .i64 r] w (Quiet w (.int .i64 (have_ g r))) := by
  obtain ⟨b, hb⟩ := h.addr (by omega)
  have KA := hide (at_any h hn r)
  cases hi : g.is r with
  | false =>
    rw [atV_false hi] at KA
    have hv := hide (show have_ g r = 0 by simp [have_, hi])
    clear h hi hb hn
    go_enter Try.func26, Try.ntmps26
    go_wp2_with fail
    refine KA.out.mono ?_
    rintro e w' ⟨rfl, rfl⟩
    go_wp2
    go_ret
    exact ⟨by rw [hv.out]; rfl, rfl⟩
  | true =>
    rw [atV_true hb hi] at KA
    have hv := hide (show have_ g r = (g.at_ r).u by simp [have_, hi])
    obtain ⟨a0, -, -⟩ := h.accs b hb r hi
    generalize (g.at_ r).u = u at a0 hv
    generalize r.toNat * 3 = k at a0 KA
    clear h hi hb hn
    go_enter Try.func26, Try.ntmps26
    go_wp2_with fail
    refine KA.out.mono ?_
    rintro e w' ⟨rfl, rfl⟩
    go_wp2
    go_ret
    exact ⟨by rw [hv.out]; rfl, rfl⟩

/-! ### Writing an account -/
theorem escS_setA {g : GM} {r : Int} {a : Acc} {p : Nat} {s : EscP} {w : World} {F : Nat → Prop}
    (h : star (CellO p #[.slice s.A g.acc.length s.c, .map (some s.bm)] 101) (star (RowO 103 3 (.slice s.A g.acc.length s.c) g.acc.length ((g.acc.set r.toNat a).flatMap accL))
      (star (MapO (pairV .i64) s.bm (ents g.acc.length s.gp)) (bigK (keys g.acc.length) fun k => LineO (g.pr k) (s.gp k)))) w F) : EscS (g.setA r a) p s w F := by
  unfold EscS
  simp only [setA_len]
  exact h
theorem setA_twice (g : GM) (r : Int) (a b : Acc) : (g.setA r a).setA r b = g.setA r b := by simp [GM.setA]
/-- One cell of an account is written. -/
theorem esc_acc {F0 : Nat → Prop} {w0 W : World} {g : GM} {p : Nat} {s : EscP} (h : Run F0 w0 (EscS g p s) W) {r : Int} (hr : g.is r = true) {b : Nat} (hb : s.A = some ⟨b, 0, none⟩) (j : Nat) (hj : j < 3) (v : Value) (a : Acc) (ha : (accL (g.at_ r)).set j v = accL a) :
    Run F0 w0 (EscS (g.setA r a) p s) (W.setCell ⟨b, r.toNat * 3 + j, none⟩ v) ∧ W.frozen? ⟨b, r.toNat * 3 + j, none⟩ = false := by
  have hl := (is_lt hr).2
  have h1 : Run F0 w0 (star (CellO p #[.slice s.A g.acc.length s.c, .map (some s.bm)] 101) (star (RowO 103 3 (.slice s.A g.acc.length s.c) g.acc.length (g.acc.flatMap accL))
    (star (MapO (pairV .i64) s.bm (ents g.acc.length s.gp)) (bigK (keys g.acc.length) fun k => LineO (g.pr k) (s.gp k))))) W := h
  obtain ⟨F, hR, -, hbk⟩ := h1.rot.take row_ok (star_ok cell_ok (star_ok map_ok (bigK_ok (fun _ => lineO_ok))))
  rw [hb] at hR
  have hi : r.toNat * 3 + j < g.acc.length * 3 := by omega
  have h2 := row_set hR hi v
  rw [flat_set accL 3 accL_len hl hj (x := a) (by rw [← at_get hr]; exact ha)] at h2
  refine ⟨(hbk _ _ (by rw [← hb] at h2; exact h2)).rot.imp fun w F h => escS_setA h, row_free hR _ (by omega)⟩
end Go.Proofs.Ytapabbpdfplpoaa
namespace Go.Proofs.Ytapabbpdfplpoaa
open Go.RowKit Go.CH Go.CH.Esc
open Go.ChangeMaps (setBlock)

/-- What a method of an escrow leaves. -/
def EPost (w : World) (F : Nat → Prop) (v : Value) (g : GM) (p : Nat) (e : Ending) (w' : World) : Prop := e = .returned v ∧ Post w F (EscO g p) w'
theorem EPost.quiet {w : World} {F : Nat → Prop} {g : GM} {p : Nat} (h : EscO g p w F) {v : Value} {e : Ending} {w' : World} (hq : Quiet w v e w') : EPost w F v g p e w' := by
  obtain ⟨h1, rfl⟩ := hq
  exact ⟨h1, F, h, Mod.refl _ _, fun i hi => .inl hi⟩
set_option maxHeartbeats 400000 in
theorem change_no {w : World} {v : Value} {r : Int} (hv : Calls Try.prog 66 #[v, .int .i64 r] w (Quiet w (.pointer none))) (d : Int) (fv : Value) :
    Calls Try.prog 72 #[v, .int .i64 r, .int .i64 d, fv] w (Quiet w (.int .i64 1)) := by
  have H := hide hv; clear hv
  go_enter Try.func72, Try.ntmps72
  go_wp2_with fail
  refine H.out.mono ?_
  rintro e w' ⟨rfl, rfl⟩
  go_wp2
  go_ret
  exact ⟨rfl, rfl⟩
set_option maxHeartbeats 400000 in
theorem change_may {w : World} {v : Value} {r : Int} {b k fm : Nat} (hv : Calls Try.prog 66 #[v, .int .i64 r] w (Quiet w (.pointer (some ⟨b, k, none⟩)))) (d em : Int) (hem : em ≠ 0)
    (hcf : ∀ args W, (callFunc fm args).run Try.prog W = .ok (.enter fm args) W) (hm : Calls Try.prog fm #[.pointer (some ⟨b, k, none⟩)] w (Quiet w (.int .i64 em))) :
    Calls Try.prog 72 #[v, .int .i64 r, .int .i64 d, .func (.func fm) #[] #[]] w (Quiet w (.int .i64 em)) := by
  have H := hide hv; have M := hide hm
  have h1 : (em == 0) = false := by simpa using hem
  have h2 : (em != 0) = true := by simpa using hem
  clear hv hm hem
  go_enter Try.func72, Try.ntmps72
  go_wp2_with fail
  refine H.out.mono ?_
  rintro e w' ⟨rfl, rfl⟩
  go_wp2_with fail
  refine M.out.mono ?_
  rintro e w' ⟨rfl, rfl⟩
  go_wp2
  go_ret
  exact ⟨rfl, rfl⟩
set_option maxHeartbeats 800000 in
theorem change_quota {w : World} {v : Value} {r : Int} {b k fm : Nat} (hv : Calls Try.prog 66 #[v, .int .i64 r] w (Quiet w (.pointer (some ⟨b, k, none⟩)))) (d u s : Int)
    (hcf : ∀ args W, (callFunc fm args).run Try.prog W = .ok (.enter fm args) W) (hm : Calls Try.prog fm #[.pointer (some ⟨b, k, none⟩)] w (Quiet w (.int .i64 0)))
    (cu : w.cell? ⟨b, k, none⟩ = some (.int .i64 u)) (cs : w.cell? ⟨b, k + 1, none⟩ = some (.int .i64 s)) (hu : 0 ≤ u ∧ u ≤ 1000000000) (hs : 0 ≤ s ∧ s ≤ 1000000000) (hd : -9223372036854775807 ≤ d ∧ d ≤ 9223372036854775807)
    (hq : u + d < 0 ∨ s - d < 0) :
    Calls Try.prog 72 #[v, .int .i64 r, .int .i64 d, .func (.func fm) #[] #[]] w (Quiet w (.int .i64 19)) := by
  have H := hide hv; have M := hide hm
  clear hv hm
  by_cases h1 : u + d < 0
  · clear hq
    go_enter Try.func72, Try.ntmps72
    go_wp2_with fail
    refine H.out.mono ?_
    rintro e w' ⟨rfl, rfl⟩
    go_wp2_with fail
    refine M.out.mono ?_
    rintro e w' ⟨rfl, rfl⟩
    go_wp2
    go_ret
    exact ⟨rfl, rfl⟩
  · have h2 : s - d < 0 := by omega
    clear hq
    by_cases h3 : u + d ≤ 9223372036854775807
    · go_enter Try.func72, Try.ntmps72
      go_wp2_with fail
      refine H.out.mono ?_
      rintro e w' ⟨rfl, rfl⟩
      go_wp2_with fail
      refine M.out.mono ?_
      rintro e w' ⟨rfl, rfl⟩
      go_wp2
      go_ret
      exact ⟨rfl, rfl⟩
    · have hw : decide (wrap64 (u + d) < 0) = true := by unfold wrap64; simp only [decide_eq_true_eq]; omega
      clear h1 h2 h3
      go_enter Try.func72, Try.ntmps72
      go_wp2_with fail
      refine H.out.mono ?_
      rintro e w' ⟨rfl, rfl⟩
      go_wp2_with fail
      refine M.out.mono ?_
      rintro e w' ⟨rfl, rfl⟩
      go_wp2
      go_ret
      exact ⟨rfl, rfl⟩
/-- Units and spent are written. -/
theorem esc_two {F0 : Nat → Prop} {w0 W : World} {g : GM} {p : Nat} {s : EscP} (h : Run F0 w0 (EscS g p s) W) {r : Int} (hr : g.is r = true) {b : Nat} (hb : s.A = some ⟨b, 0, none⟩) (u v : Int) :
    (W.frozen? ⟨b, r.toNat * 3, none⟩ = false ∧ (W.setCell ⟨b, r.toNat * 3, none⟩ (.int .i64 u)).frozen? ⟨b, r.toNat * 3 + 1, none⟩ = false) ∧
    Run F0 w0 (EscS (g.setA r { g.at_ r with u := u, s := v }) p s) ((W.setCell ⟨b, r.toNat * 3, none⟩ (.int .i64 u)).setCell ⟨b, r.toNat * 3 + 1, none⟩ (.int .i64 v)) := by
  obtain ⟨h1, h2⟩ := esc_acc h hr hb 0 (by omega) (.int .i64 u) { g.at_ r with u := u } rfl
  have hr' : (g.setA r { g.at_ r with u := u }).is r = true := by rw [setA_is]; exact hr
  obtain ⟨h3, h4⟩ := esc_acc h1 hr' hb 1 (by omega) (.int .i64 v) { g.at_ r with u := u, s := v } (by rw [setA_at hr _ r hr, if_pos rfl]; rfl)
  rw [setA_twice] at h3
  exact ⟨⟨h2, h4⟩, h3⟩
set_option maxRecDepth 100000 in
set_option maxHeartbeats 1600000 in
theorem change_ok {w : World} {F : Nat → Prop} {g : GM} {p : Nat} (h : EscO g p w F) (hn : 1 ≤ g.acc.length ∧ g.acc.length ≤ 8) {r : Int} (hr : g.is r = true) {fm : Nat} (d : Int)
    (hcf : ∀ args W, (callFunc fm args).run Try.prog W = .ok (.enter fm args) W) (hm : ∀ b, w.cell? ⟨b, r.toNat * 3 + 2, none⟩ = some (.bool (g.at_ r).rev) → Calls Try.prog fm #[.pointer (some ⟨b, r.toNat * 3, none⟩)] w (Quiet w (.int .i64 0)))
    (hu : 0 ≤ (g.at_ r).u ∧ (g.at_ r).u ≤ 1000000000) (hs : 0 ≤ (g.at_ r).s ∧ (g.at_ r).s ≤ 1000000000) (hd : -1000000000 ≤ d ∧ d ≤ 1000000000) (h0 : 0 ≤ (g.at_ r).u + d) (h1 : 0 ≤ (g.at_ r).s - d) :
    Calls Try.prog 72 #[.pointer (some ⟨p, 0, none⟩), .int .i64 r, .int .i64 d, .func (.func fm) #[] #[]] w (EPost w F (.int .i64 0) (g.setA r { g.at_ r with u := (g.at_ r).u + d, s := (g.at_ r).s - d }) p) := by
  obtain ⟨s, hS⟩ := h
  have hR := hS.read
  obtain ⟨b, hb⟩ := hR.addr (by omega)
  have KA := hide (at_any hR hn r)
  rw [atV_true hb hr] at KA
  obtain ⟨cu, cs, cr⟩ := hR.accs b hb r hr
  have KM := hide (hm b cr)
  have R1 := hide ((Run.start hS).drew escS_ok)
  obtain ⟨⟨z1, z2⟩, hfin⟩ := esc_two R1.out hr hb ((g.at_ r).u + d) ((g.at_ r).s - d)
  have HFIN := hide hfin
  generalize (g.at_ r).u = u at *
  generalize (g.at_ r).s = v at *
  generalize r.toNat * 3 = k at *
  clear hm hS hR hfin cr
  have t1 : IntKind.i64.wrap (u + d) = u + d := IntWalk.i64_in _ (by omega)
  have t2 : IntKind.i64.wrap (v - d) = v - d := IntWalk.i64_in _ (by omega)
  have z3 : w.frozen? ⟨b, k + 1, none⟩ = false := by simpa using z2
  go_enter Try.func72, Try.ntmps72
  go_wp2_with fail
  refine KA.out.mono ?_
  rintro e w' ⟨rfl, rfl⟩
  go_wp2_with fail
  refine KM.out.mono ?_
  rintro e w' ⟨rfl, rfl⟩
  go_wp2
  refine wp_region_lew [16, 19] [0, 1, 0, 0, 0, 0, 0, 0, 0, 0, 0, 0, 1, 1, 0, 0, 1, 1, 1, 2] (fun w' => w'.cell? ⟨b, k, none⟩ = some (.int .i64 u) ∧ w'.cell? ⟨b, k + 1, none⟩ = some (.int .i64 v)) (fun w' => w'.cell? ⟨b, k + 1, none⟩ = some (.int .i64 v)) (fun _ => True) (fun _ => True) (fun _ h => h.2) (fun _ _ => trivial) (fun _ _ => trivial) (by kernel_rfl) (by kernel_rfl) (by kernel_rfl) (by kernel_rfl) (by exact ⟨cu, cs⟩) ?_
  (repeat (first | (refine lew_skip (by rfl) (by rfl) ?_; try simp only [Act.put, List.setIfInBounds_toArray, List.set_cons_zero, List.set_cons_succ]) | (refine lew_read0 (v := ?_) (by rfl) (by rfl) ?_ ?_; rotate_left; (focus (intro w' hS'; go_simp; (try with_reducible rfl); done)); try simp only [Act.put, List.setIfInBounds_toArray, List.set_cons_zero, List.set_cons_succ]) | (refine lew_read1 (v := ?_) (by rfl) (by rfl) ?_ ?_; rotate_left; (focus (intro w' hS'; go_simp; (try with_reducible rfl); done)); try simp only [Act.put, List.setIfInBounds_toArray, List.set_cons_zero, List.set_cons_succ]) | (refine lew_read2 (v := ?_) (by rfl) (by rfl) ?_ ?_; rotate_left; (focus (intro w' hS'; go_simp; (try with_reducible rfl); done)); try simp only [Act.put, List.setIfInBounds_toArray, List.set_cons_zero, List.set_cons_succ]) | (refine lew_read3 (v := ?_) (by rfl) (by rfl) ?_ ?_; rotate_left; (focus (intro w' hS'; go_simp; (try with_reducible rfl); done)); try simp only [Act.put, List.setIfInBounds_toArray, List.set_cons_zero, List.set_cons_succ]) | (refine lew_read4 (v := ?_) (by rfl) (by rfl) ?_ ?_; rotate_left; (focus (intro w' hS'; go_simp; (try with_reducible rfl); done)); try simp only [Act.put, List.setIfInBounds_toArray, List.set_cons_zero, List.set_cons_succ])))
  refine lew_chain1 rfl (by rfl) (fun K hK => ?_)
  go_wp2_with fail
  have hc : (w.drew.setCell ⟨b, k, none⟩ (.int .i64 (u + d))).cell? ⟨b, k + 1, none⟩ = some (.int .i64 v) := by rw [World.cell?_setCell_other _ _ _ _ (fun e => by injection e with e1 e2; omega)]; exact cs
  refine hK.out _ _ hc ?_
  clear hK
  (repeat (first | (refine lew_skip (by rfl) (by rfl) ?_; try simp only [Act.put, List.setIfInBounds_toArray, List.set_cons_zero, List.set_cons_succ]) | (refine lew_read0 (v := ?_) (by rfl) (by rfl) ?_ ?_; rotate_left; (focus (intro w' hS'; go_simp; (try with_reducible rfl); done)); try simp only [Act.put, List.setIfInBounds_toArray, List.set_cons_zero, List.set_cons_succ]) | (refine lew_read1 (v := ?_) (by rfl) (by rfl) ?_ ?_; rotate_left; (focus (intro w' hS'; go_simp; (try with_reducible rfl); done)); try simp only [Act.put, List.setIfInBounds_toArray, List.set_cons_zero, List.set_cons_succ]) | (refine lew_read2 (v := ?_) (by rfl) (by rfl) ?_ ?_; rotate_left; (focus (intro w' hS'; go_simp; (try with_reducible rfl); done)); try simp only [Act.put, List.setIfInBounds_toArray, List.set_cons_zero, List.set_cons_succ]) | (refine lew_read3 (v := ?_) (by rfl) (by rfl) ?_ ?_; rotate_left; (focus (intro w' hS'; go_simp; (try with_reducible rfl); done)); try simp only [Act.put, List.setIfInBounds_toArray, List.set_cons_zero, List.set_cons_succ]) | (refine lew_read4 (v := ?_) (by rfl) (by rfl) ?_ ?_; rotate_left; (focus (intro w' hS'; go_simp; (try with_reducible rfl); done)); try simp only [Act.put, List.setIfInBounds_toArray, List.set_cons_zero, List.set_cons_succ])))
  refine lew_chain2 rfl (by rfl) (fun K hK => ?_)
  go_wp2_with fail
  refine hK.out _ _ trivial (lew_nil ?_)
  go_wp2
  go_ret
  obtain ⟨F', q1, q2, q3⟩ := HFIN.out.post escS_ok
  exact ⟨rfl, F', ⟨_, q1⟩, q2, q3⟩
end Go.Proofs.Ytapabbpdfplpoaa
namespace Go.Proofs.Ytapabbpdfplpoaa
open Go.RowKit Go.CH Go.CH.Esc
open Go.ChangeMaps (setBlock)

theorem Inv.bnd {g : GM} {U : Int} (h : Inv g U) {r : Int} (hr : g.is r = true) : (0 ≤ (g.at_ r).u ∧ (g.at_ r).u ≤ 1000000000) ∧ (0 ≤ (g.at_ r).s ∧ (g.at_ r).s ≤ 1000000000) := by
  have h1 := h.at_ hr
  have hm := at_mem hr
  have h2 : (g.at_ r).u ≤ haveG g := isum_mem_le (fun y hy => by obtain ⟨a, ha, rfl⟩ := List.mem_map.1 hy; exact (h.acc a ha).1) (List.mem_map_of_mem hm)
  have h3 : (g.at_ r).s ≤ spentG g := isum_mem_le (fun y hy => by obtain ⟨a, ha, rfl⟩ := List.mem_map.1 hy; exact (h.acc a ha).2) (List.mem_map_of_mem hm)
  have h4 : 0 ≤ haveG g := isum_nonneg (fun y hy => by obtain ⟨a, ha, rfl⟩ := List.mem_map.1 hy; exact (h.acc a ha).1)
  have h5 : 0 ≤ spentG g := isum_nonneg (fun y hy => by obtain ⟨a, ha, rfl⟩ := List.mem_map.1 hy; exact (h.acc a ha).2)
  have h6 : 0 ≤ flyG g := isum_nonneg (fun y hy => by
    obtain ⟨k, hk, rfl⟩ := List.mem_map.1 hy
    have hp : g.pair k.1 k.2 = true := pair_mem.2 hk
    exact fly_nonneg (h.pr k.1 k.2 hp))
  have := h.tot
  have := h.U
  omega
set_option maxHeartbeats 400000 in
theorem spend1 {w : World} {b k : Nat} {v : Bool} (hc : w.cell? ⟨b, k + 2, none⟩ = some (.bool v)) : Calls Try.prog 73 #[.pointer (some ⟨b, k, none⟩)] w (Quiet w (.int .i64 (if v then 22 else 0))) := by
  cases v with
  | true =>
    go_enter Try.func73, Try.ntmps73
    go_wp2_with fail
    go_ret
    exact ⟨rfl, rfl⟩
  | false =>
    go_enter Try.func73, Try.ntmps73
    go_wp2_with fail
    go_ret
    exact ⟨rfl, rfl⟩
set_option maxHeartbeats 400000 in
theorem ret1 {w : World} {b k : Nat} : Calls Try.prog 74 #[.pointer (some ⟨b, k, none⟩)] w (Quiet w (.int .i64 0)) := by
  go_enter Try.func74, Try.ntmps74
  go_wp2_with fail
  go_ret
  exact ⟨rfl, rfl⟩
theorem call73 : ∀ args W, (callFunc 73 args).run Try.prog W = .ok (.enter 73 args) W := fun args W => by kernel_rfl
theorem call74 : ∀ args W, (callFunc 74 args).run Try.prog W = .ok (.enter 74 args) W := fun args W => by kernel_rfl

/-- What change answers for Spend. -/
theorem change_spend {w : World} {F : Nat → Prop} {g : GM} {p : Nat} (h : EscO g p w F) {U : Int} (hI : Inv g U) (r k : Int) (hk : 1 ≤ k ∧ k ≤ 9223372036854775807) :
    Calls Try.prog 72 #[.pointer (some ⟨p, 0, none⟩), .int .i64 r, .int .i64 (-k), .func (.func 73) #[] #[]] w (EPost w F (.int .i64 (spendE g r k)) (spendM g r k) p) := by
  have hk1 : ¬ k < 1 := by omega
  cases hr : g.is r with
  | false =>
    have e1 : spendE g r k = 1 := by simp [spendE, hr]
    have e2 : spendM g r k = g := by simp [spendM, e1]
    rw [e1, e2]
    obtain ⟨s, hS⟩ := h
    have hat := at_any hS.read hI.nb r
    rw [atV_false hr] at hat
    exact (change_no hat _ _).mono (fun e w' hq => EPost.quiet ⟨s, hS⟩ hq)
  | true =>
    have hB := Inv.bnd hI hr
    obtain ⟨s, hS⟩ := h
    have hR := hS.read
    obtain ⟨b, hb⟩ := hR.addr (by have := hI.nb; omega)
    have hat := at_any hR hI.nb r
    rw [atV_true hb hr] at hat
    obtain ⟨cu, cs, cr⟩ := hR.accs b hb r hr
    cases hv : (g.at_ r).rev with
    | true =>
      have e1 : spendE g r k = 22 := by simp [spendE, hr, hv, hk1]
      have e2 : spendM g r k = g := by simp [spendM, e1]
      rw [e1, e2]
      rw [hv] at cr
      exact (change_may hat (-k) 22 (by omega) call73 (by simpa using spend1 cr)).mono (fun e w' hq => EPost.quiet ⟨s, hS⟩ hq)
    | false =>
      rw [hv] at cr
      have hm : Calls Try.prog 73 #[.pointer (some ⟨b, r.toNat * 3, none⟩)] w (Quiet w (.int .i64 0)) := by simpa using spend1 cr
      by_cases hq : (g.at_ r).u < k
      · have e1 : spendE g r k = 19 := by simp [spendE, hr, hv, hk1, hq]
        have e2 : spendM g r k = g := by simp [spendM, e1]
        rw [e1, e2]
        exact (change_quota hat (-k) _ _ call73 hm cu cs hB.1 hB.2 (by omega) (.inl (by omega))).mono (fun e w' hq => EPost.quiet ⟨s, hS⟩ hq)
      · have e1 : spendE g r k = 0 := by simp [spendE, hr, hv, hk1, hq]
        have e2 : spendM g r k = g.setA r { g.at_ r with u := (g.at_ r).u + -k, s := (g.at_ r).s - -k } := by
          simp only [spendM, e1, if_true]; congr 2 <;> omega
        rw [e1, e2]
        refine change_ok ⟨s, hS⟩ hI.nb hr (-k) call73 (fun b hb => ?_) hB.1 hB.2 (by omega) (by omega) (by omega)
        rw [hv] at hb
        simpa using spend1 hb
/-- What change answers for Return. -/
theorem change_ret {w : World} {F : Nat → Prop} {g : GM} {p : Nat} (h : EscO g p w F) {U : Int} (hI : Inv g U) (r k : Int) (hk : 1 ≤ k ∧ k ≤ 9223372036854775807) :
    Calls Try.prog 72 #[.pointer (some ⟨p, 0, none⟩), .int .i64 r, .int .i64 k, .func (.func 74) #[] #[]] w (EPost w F (.int .i64 (retE g r k)) (retM g r k) p) := by
  have hk1 : ¬ k < 1 := by omega
  cases hr : g.is r with
  | false =>
    have e1 : retE g r k = 1 := by simp [retE, hr]
    have e2 : retM g r k = g := by simp [retM, e1]
    rw [e1, e2]
    obtain ⟨s, hS⟩ := h
    have hat := at_any hS.read hI.nb r
    rw [atV_false hr] at hat
    exact (change_no hat _ _).mono (fun e w' hq => EPost.quiet ⟨s, hS⟩ hq)
  | true =>
    have hB := Inv.bnd hI hr
    obtain ⟨s, hS⟩ := h
    have hR := hS.read
    obtain ⟨b, hb⟩ := hR.addr (by have := hI.nb; omega)
    have hat := at_any hR hI.nb r
    rw [atV_true hb hr] at hat
    obtain ⟨cu, cs, cr⟩ := hR.accs b hb r hr
    by_cases hq : (g.at_ r).s < k
    · have e1 : retE g r k = 19 := by simp [retE, hr, hk1, hq]
      have e2 : retM g r k = g := by simp [retM, e1]
      rw [e1, e2]
      exact (change_quota hat k _ _ call74 ret1 cu cs hB.1 hB.2 (by omega) (.inr (by omega))).mono (fun e w' hq => EPost.quiet ⟨s, hS⟩ hq)
    · have e1 : retE g r k = 0 := by simp [retE, hr, hk1, hq]
      have e2 : retM g r k = g.setA r { g.at_ r with u := (g.at_ r).u + k, s := (g.at_ r).s - k } := by
        simp only [retM, e1, if_true]
      rw [e1, e2]
      exact change_ok ⟨s, hS⟩ hI.nb hr k call74 (fun b hb => ret1) hB.1 hB.2 (by omega) (by omega) (by omega)
set_option maxHeartbeats 400000 in
theorem spend_any {w : World} {F : Nat → Prop} {g : GM} {p : Nat} (h : EscO g p w F) {U : Int} (hI : Inv g U) (r k : Int) (hk : -9223372036854775808 ≤ k ∧ k ≤ 9223372036854775807) :
    Calls Try.prog 33 #[.pointer (some ⟨p, 0, none⟩), .int .i64 r, .int .i64 k] w (EPost w F (.int .i64 (spendE g r k)) (spendM g r k) p) := by
  by_cases hk1 : k < 1
  · have e1 : spendE g r k = 1 := by simp [spendE, hk1]
    have e2 : spendM g r k = g := by simp [spendM, e1]
    rw [e1, e2]
    have H := hide h
    clear h hI e1 e2
    go_enter Try.func33, Try.ntmps33
    go_wp2_with fail
    go_ret
    exact EPost.quiet H.out ⟨rfl, rfl⟩
  · have H := hide (change_spend h hI r k (by omega))
    have t1 : IntKind.i64.wrap (-k) = -k := IntWalk.i64_in _ (by omega)
    generalize spendE g r k = e at *
    generalize spendM g r k = g' at *
    clear h hI
    go_enter Try.func33, Try.ntmps33
    go_wp2_with fail
    refine H.out.mono ?_
    rintro e w' ⟨rfl, hP⟩
    go_wp2
    go_ret
    exact ⟨rfl, hP⟩
set_option maxHeartbeats 400000 in
theorem ret_any {w : World} {F : Nat → Prop} {g : GM} {p : Nat} (h : EscO g p w F) {U : Int} (hI : Inv g U) (r k : Int) (hk : -9223372036854775808 ≤ k ∧ k ≤ 9223372036854775807) :
    Calls Try.prog 35 #[.pointer (some ⟨p, 0, none⟩), .int .i64 r, .int .i64 k] w (EPost w F (.int .i64 (retE g r k)) (retM g r k) p) := by
  by_cases hk1 : k < 1
  · have e1 : retE g r k = 1 := by simp [retE, hk1]
    have e2 : retM g r k = g := by simp [retM, e1]
    rw [e1, e2]
    have H := hide h
    clear h hI e1 e2
    go_enter Try.func35, Try.ntmps35
    go_wp2_with fail
    go_ret
    exact EPost.quiet H.out ⟨rfl, rfl⟩
  · have H := hide (change_ret h hI r k (by omega))
    generalize retE g r k = e at *
    generalize retM g r k = g' at *
    clear h hI
    go_enter Try.func35, Try.ntmps35
    go_wp2_with fail
    refine H.out.mono ?_
    rintro e w' ⟨rfl, hP⟩
    go_wp2
    go_ret
    exact ⟨rfl, hP⟩
set_option maxHeartbeats 800000 in
theorem rev_any {w : World} {F : Nat → Prop} {g : GM} {p : Nat} (h : EscO g p w F) {U : Int} (hI : Inv g U) (r : Int) :
    Calls Try.prog 34 #[.pointer (some ⟨p, 0, none⟩), .int .i64 r] w (EPost w F (.int .i64 (revE g r)) (revM g r) p) := by
  cases hr : g.is r with
  | false =>
    have e1 : revE g r = 1 := by simp [revE, hr]
    have e2 : revM g r = g := by simp [revM, hr]
    rw [e1, e2]
    have H := hide h
    obtain ⟨s, hS⟩ := h
    have hat := at_any hS.read hI.nb r
    rw [atV_false hr] at hat
    have KA := hide hat
    clear hat hI e1 e2 hS
    go_enter Try.func34, Try.ntmps34
    go_wp2_with fail
    refine KA.out.mono ?_
    rintro e w' ⟨rfl, rfl⟩
    go_wp2
    go_ret
    exact EPost.quiet H.out ⟨rfl, rfl⟩
  | true =>
    have e1 : revE g r = 0 := by simp [revE, hr]
    have e2 : revM g r = g.setA r { g.at_ r with rev := true } := by simp [revM, hr]
    rw [e1, e2]
    obtain ⟨s, hS⟩ := h
    have hR := hS.read
    obtain ⟨b, hb⟩ := hR.addr (by have := hI.nb; omega)
    have hat := at_any hR hI.nb r
    rw [atV_true hb hr] at hat
    have KA := hide hat
    obtain ⟨_, _, cr⟩ := hR.accs b hb r hr
    obtain ⟨hrun, hz⟩ := esc_acc (Run.start hS) hr hb 2 (by omega) (.bool true) { g.at_ r with rev := true } rfl
    obtain ⟨F', q1, q2, q3⟩ := hrun.post escS_ok
    have HP := hide (show Post w F (EscO (g.setA r { g.at_ r with rev := true }) p) _ from ⟨F', ⟨_, q1⟩, q2, q3⟩)
    generalize (g.at_ r).rev = v at *
    generalize r.toNat * 3 = k at *
    clear hat hI e1 e2 hS hR hrun q1 q2 q3
    go_enter Try.func34, Try.ntmps34
    go_wp2_with fail
    refine KA.out.mono ?_
    rintro e w' ⟨rfl, rfl⟩
    go_wp2
    go_ret
    exact ⟨rfl, HP.out⟩
end Go.Proofs.Ytapabbpdfplpoaa
namespace Go.Proofs.Ytapabbpdfplpoaa
open Go.RowKit Go.CH Go.CH.Esc
open Go.ChangeMaps (setBlock)

/-- All but one line. -/
def EscQ (g : GM) (p : Nat) (s : EscP) (k : Int × Int) : Own :=
  star (CellO p #[.slice s.A g.acc.length s.c, .map (some s.bm)] 101) (star (RowO 103 3 (.slice s.A g.acc.length s.c) g.acc.length (g.acc.flatMap accL))
    (star (MapO (pairV .i64) s.bm (ents g.acc.length s.gp)) (bigK (@List.erase (Int × Int) instBEqOfDecidableEq (keys g.acc.length) k) fun k => LineO (g.pr k) (s.gp k))))
theorem escQ_ok {g : GM} {p : Nat} {s : EscP} {k : Int × Int} : (EscQ g p s k).Ok := star_ok cell_ok (star_ok row_ok (star_ok map_ok (bigK_ok (fun _ => lineO_ok))))
/-- The line in its three parts. -/
def LineQ (p : PrG) (g : Nat) (s : LinS) (O : Own) : Own :=
  star (CellO g #[.slice s.A (p.H.drop p.conf).length s.c, .int .i64 p.H.length, .int .i64 p.rc, .slice s.B s.zs.length s.d] 109)
    (star (RowO 3 1 (.slice s.A (p.H.drop p.conf).length s.c) (p.H.drop p.conf).length (ints (p.H.drop p.conf)))
      (star (ARow zcl zow 124 4 (.slice s.B s.zs.length s.d) s.zs) O))
theorem lineQ_ok {p : PrG} {g : Nat} {s : LinS} {O : Own} (h : O.Ok) : (LineQ p g s O).Ok := star_ok cell_ok (star_ok row_ok (star_ok (arow_ok zow_ok) h))
theorem escQ_out {w : World} {F : Nat → Prop} {g : GM} {p : Nat} {s : EscP} {k : Int × Int} (hk : k ∈ keys g.acc.length) (h : EscS g p s w F) : star (LineO (g.pr k) (s.gp k)) (EscQ g p s k) w F :=
  star_rot (star_mono h (fun _ h => h) (fun F h => star_rot (star_mono h (fun _ h => h) (fun F h => star_rot (star_mono h (fun _ h => h) (fun F h => bigK_out hk h))))))
theorem escQ_in {w : World} {F : Nat → Prop} {g : GM} {p : Nat} {s : EscP} {k : Int × Int} {q : PrG} (hk : k ∈ keys g.acc.length) (h : star (LineO q (s.gp k)) (EscQ g p s k) w F) : EscS (g.setP k q) p s w F := by
  have h1 : star (CellO p #[.slice s.A g.acc.length s.c, .map (some s.bm)] 101) (star (RowO 103 3 (.slice s.A g.acc.length s.c) g.acc.length (g.acc.flatMap accL))
    (star (MapO (pairV .i64) s.bm (ents g.acc.length s.gp)) (star (LineO q (s.gp k)) (bigK (@List.erase (Int × Int) instBEqOfDecidableEq (keys g.acc.length) k) fun k => LineO (g.pr k) (s.gp k))))) w F :=
    star_mono (star_rot h) (fun _ h => h) (fun F h => star_mono (star_rot h) (fun _ h => h) (fun F h => star_rot h))
  refine star_mono h1 (fun _ h => h) (fun F h => star_mono h (fun _ h => h) (fun F h => star_mono h (fun _ h => h) (fun F h => ?_)))
  refine bigK_in (nodup_keys _) (f := fun k => LineO (g.pr k) (s.gp k)) (g := fun x => LineO ((g.setP k q).pr x) (s.gp x)) hk (fun x hx => ?_) ?_
  · simp [GM.setP, hx]
  · have : (g.setP k q).pr k = q := by simp [GM.setP]
    simp only [this]; exact h
theorem esc_line {F0 : Nat → Prop} {w0 W : World} {g : GM} {p : Nat} {s : EscP} (h : Run F0 w0 (EscS g p s) W) {f t : Int} (hp : g.pair f t = true) :
    ∃ l, LineZ (g.pr (f, t)) l ∧ Run F0 w0 (LineQ (g.pr (f, t)) (s.gp (f, t)) l (EscQ g p s (f, t))) W := by
  have hk := pair_mem.1 hp
  obtain ⟨⟨F, ⟨F1, F2, ⟨l, hz, hl⟩, h2, h3, h4⟩, hF⟩, hm⟩ := h.imp (B := star (LineO (g.pr (f, t)) (s.gp (f, t))) (EscQ g p s (f, t))) fun w F h => escQ_out hk h
  have h5 : Run F0 w0 (star (LineS (g.pr (f, t)) (s.gp (f, t)) l) (EscQ g p s (f, t))) W := ⟨⟨F, ⟨F1, F2, hl, h2, h3, h4⟩, hF⟩, hm⟩
  exact ⟨l, hz, h5.imp fun w F h => star_mono (star_assoc h) (fun _ h => h) (fun F h => star_assoc h)⟩
theorem esc_back {F0 : Nat → Prop} {w0 W : World} {g : GM} {p : Nat} {s : EscP} {f t : Int} {q : PrG} {l : LinS} (h : Run F0 w0 (LineQ q (s.gp (f, t)) l (EscQ g p s (f, t))) W) (hz : LineZ q l) (hp : g.pair f t = true) :
    Run F0 w0 (EscS (g.setP (f, t) q) p s) W := by
  have h1 : Run F0 w0 (star (LineS q (s.gp (f, t)) l) (EscQ g p s (f, t))) W := h.imp fun w F h => star_assoc' (star_mono h (fun _ h => h) (fun F h => star_assoc' h))
  refine h1.imp fun w F h => escQ_in (pair_mem.1 hp) (star_mono h (fun F h => ⟨l, hz, h⟩) (fun _ h => h))
end Go.Proofs.Ytapabbpdfplpoaa
