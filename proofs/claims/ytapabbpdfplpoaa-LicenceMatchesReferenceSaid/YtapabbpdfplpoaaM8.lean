/-
  Licence: Reserve.
  Licence: Amend.
  Licence: Split.
  Licence: List.
-/
import Derived.Test.YtapabbpdfplpoaaM7
set_option linter.unusedSimpArgs false
set_option linter.unusedVariables false
namespace Go.Proofs.Ytapabbpdfplpoaa
open Go.RowKit Go.CH Go.CH.Lic
open Go.ChangeMaps (setBlock)

theorem entK_snoc {ts : List ZT} {z : ZT} (h : ∀ y ∈ ts, y.k.nm ≠ z.k.nm) : mput (entK ts) z.k.nm (gptr z.p) = entK (ts ++ [z]) := by
  rw [mput_new_ (by
    intro hm
    unfold entK at hm
    rw [List.map_map, List.mem_map] at hm
    obtain ⟨y, hy, he⟩ := hm
    exact h y hy he)]
  unfold entK; simp
theorem bk_addT {F0 : Nat → Prop} {w0 W : World} {p : Nat} {s : BkP} {z : ZT} (h : Run F0 w0 (star (CellO z.p (tcell z) 145) (BkS p s)) W) (hn : ∀ y ∈ s.ts, y.k.nm ≠ z.k.nm) :
    ∃ W', (Instr.mapUpdate 132 (.map (some s.bK)) (.string z.k.nm) (gptr z.p)).run Try.prog W = .ok () W' ∧ Run F0 w0 (BkS p { s with ts := s.ts ++ [z] }) W' := by
  have h1 := h.perm (by unfold BkS; ac_rfl : _ = star (MapO Value.string s.bK (entK s.ts)) (star (star (CellO z.p (tcell z) 145) (bigStar (s.ts.map tow))) (star (CellO p (bcell s) 135) (star (ARow gcl gow 136 1 (.slice s.A s.zs.length s.c) s.zs) (MapO Value.string s.bI (entI s.zs))))))
  obtain ⟨G, g, -, bk⟩ := h1.take map_ok (star_ok (star_ok cell_ok tows_ok) (star_ok cell_ok (star_ok (arow_ok gow_ok) map_ok)))
  obtain ⟨W', hup, hp⟩ := mapO_put keyStr Try.underlying132 g z.k.nm (gptr z.p)
  refine ⟨W', hup, ?_⟩
  have h2 := bk _ _ hp
  rw [entK_snoc hn] at h2
  have h3 : Run F0 w0 (star (bigStar (s.ts.map tow ++ [tow z])) (star (MapO Value.string s.bK (entK (s.ts ++ [z]))) (star (CellO p (bcell s) 135) (star (ARow gcl gow 136 1 (.slice s.A s.zs.length s.c) s.zs) (MapO Value.string s.bI (entI s.zs)))))) W' :=
    h2.rot.imp fun w F h => star_mono h (fun F h => big_snoc (B := tow z) h) (fun _ h => h)
  refine h3.perm ?_
  unfold BkS bcell
  rw [List.map_append, List.map_singleton]
  ac_rfl
theorem bkZ_addT {b : BkM} {s : BkP} (hz : BkZ b s) (z : ZT) (hg : ∃ y, s.zs[z.k.gi]? = some y ∧ y.p = z.g) : BkZ { b with ks := b.ks ++ [z.k] } { s with ts := s.ts ++ [z] } := by
  refine ⟨hz.1, by simp [hz.2.1], fun t ht => ?_⟩
  rcases List.mem_append.1 ht with ht | ht
  · exact hz.2.2 t ht
  · simp at ht; subst ht; exact hg
/-- A book with a new key that holds nothing. -/
def resM (b : BkM) (nm : ByteArray) (i : Nat) : BkM := putG { b with ks := b.ks ++ [⟨nm, i, 0, 0⟩] } i { gat b i with sn := (gat b i).sn + 1 }
theorem gat_put {b : BkM} {i : Nat} (h : i < b.gs.length) (g : GrM) (ks : List KeyM) : gat (putG { b with ks := ks } i g) i = g := by
  simp [gat, putG, List.getD_eq_getElem?_getD, h]
theorem res_eq {b : BkM} {nm : ByteArray} {i : Nat} (h : i < b.gs.length) (un : Int) : setM (resM b nm i) b.ks.length 0 un = putG { b with ks := b.ks ++ [⟨nm, i, 0, un⟩] } i { gat b i with su := (gat b i).su + un, sn := (gat b i).sn + 1 } := by
  have e1 : kat (resM b nm i) b.ks.length = ⟨nm, i, 0, 0⟩ := by simp [kat, resM, putG, List.getD_eq_getElem?_getD]
  unfold setM
  rw [e1]
  have e2 : gat (resM b nm i) i = { gat b i with sn := (gat b i).sn + 1 } := gat_put h _ _
  simp only [e2, unC]
  unfold resM putG putK
  simp
theorem inv_res {b : BkM} (hI : Inv b) {nm : ByteArray} {i : Nat} (hi : i < b.gs.length) (hk : b.ks.length < 1000) (h1 : 1 ≤ (gat b i).l.u - (gat b i).sn) : Inv (resM b nm i) := by
  have hg := hI.g _ (gat_mem hi)
  refine ⟨fun g hgm => ?_, fun k hkm => ?_, by simpa [resM, putG] using hI.gn, by simp [resM, putG]; omega⟩
  · unfold resM putG at hgm
    rcases List.mem_or_eq_of_mem_set hgm with hgm | rfl
    · exact hI.g g hgm
    · exact ⟨hg.1, hg.2.1, hg.2.2.1, by simp; omega, by simp; omega, hg.2.2.2.2.2.1, hg.2.2.2.2.2.2⟩
  · have e : (resM b nm i).gs.length = b.gs.length := by simp [resM, putG]
    rw [e]
    unfold resM putG at hkm
    rcases List.mem_append.1 hkm with hkm | hkm
    · exact hI.k k hkm
    · simp at hkm; subst hkm; exact ⟨hi, by simp, by simp, .inl rfl⟩

theorem fld0 (a b : Int) (w : World) : (Instr.field 66 (.agg #[.int .i64 a, .int .i64 b]) 0).run Try.prog w = .ok (.int .i64 a) w := by kernel_rfl
theorem fld1 (a b : Int) (w : World) : (Instr.field 66 (.agg #[.int .i64 a, .int .i64 b]) 1).run Try.prog w = .ok (.int .i64 b) w := by kernel_rfl
set_option maxRecDepth 100000 in
set_option maxHeartbeats 3200000 in
theorem reserve_any {w : World} {F : Nat → Prop} {b : BkM} {p : Nat} (h : BkO b p w F) (hI : Inv b) (id nm : ByteArray) (un a : Int) (hs : nm.size ≤ maxLen) :
    Calls Try.prog 40 #[gptr p, .string id, .string nm, .int .i64 un, .int .i64 a] w (BPost w F (.int .i64 (reserveR b id nm un a).1) (reserveR b id nm un a).2 p) := by
  have H := hide h
  have fd0 := fld0
  have fd1 := fld1
  obtain ⟨s, hz, hS⟩ := h
  have hR := hS.read
  have KN := hide (isName_any nm w hs)
  have KU := hide (within_any un 1000000000 w)
  have KI := hide (within_any a 144001439 w)
  have KF := hide (find_any hR id)
  cases t1 : isName nm with
  | false =>
    rw [t1] at KN
    have e : reserveR b id nm un a = (1, b) := by unfold reserveR; simp [t1]
    rw [e]
    clear hz hS hR hI e t1
    unfold gptr at *
    go_enter Try.func40, Try.ntmps40
    go_wp2_with fail
    refine KN.out.mono ?_
    rintro e w' ⟨rfl, rfl⟩
    go_wp2
    go_ret
    exact BPost.quiet H.out _
  | true =>
  rw [t1] at KN
  cases t2 : within un 1000000000 with
  | false =>
    rw [t2] at KU
    have e : reserveR b id nm un a = (1, b) := by unfold reserveR; simp [t2]
    rw [e]
    clear hz hS hR hI e t1 t2
    unfold gptr at *
    go_enter Try.func40, Try.ntmps40
    go_wp2_with fail
    refine KN.out.mono ?_
    rintro e w' ⟨rfl, rfl⟩
    go_wp2_with fail
    refine KU.out.mono ?_
    rintro e w' ⟨rfl, rfl⟩
    go_wp2
    go_ret
    exact BPost.quiet H.out _
  | true =>
  rw [t2] at KU
  cases t3 : inst a with
  | false =>
    rw [show within a 144001439 = false from t3] at KI
    have e : reserveR b id nm un a = (1, b) := by unfold reserveR; simp [t3]
    rw [e]
    clear hz hS hR hI e t1 t2 t3
    unfold gptr at *
    go_enter Try.func40, Try.ntmps40
    go_wp2_with fail
    refine KN.out.mono ?_
    rintro e w' ⟨rfl, rfl⟩
    go_wp2_with fail
    refine KU.out.mono ?_
    rintro e w' ⟨rfl, rfl⟩
    go_wp2_with fail
    refine KI.out.mono ?_
    rintro e w' ⟨rfl, rfl⟩
    go_wp2
    go_ret
    exact BPost.quiet H.out _
  | true =>
  rw [show within a 144001439 = true from t3] at KI
  cases hf : findG b id with
  | none =>
    rw [bk_find0 hz hf] at KF
    have e : reserveR b id nm un a = (11, b) := by unfold reserveR; simp [t1, t2, t3, hf]
    rw [e]
    clear hz hS hR hI e t1 t2 t3 hf
    unfold gptr at *
    go_enter Try.func40, Try.ntmps40
    go_wp2_with fail
    refine KN.out.mono ?_
    rintro e w' ⟨rfl, rfl⟩
    go_wp2_with fail
    refine KU.out.mono ?_
    rintro e w' ⟨rfl, rfl⟩
    go_wp2_with fail
    refine KI.out.mono ?_
    rintro e w' ⟨rfl, rfl⟩
    go_wp2_with fail
    refine KF.out.mono ?_
    rintro e w' ⟨rfl, rfl⟩
    go_wp2
    go_ret
    exact BPost.quiet H.out _
  | some i =>
  obtain ⟨hi, h1, h2⟩ := bk_find hz hf
  rw [h1] at KF
  have hi2 : i < b.gs.length := (findG_some hf).1
  have c2 := hR.c2
  have lk := hR.lookK nm
  cases hk : findK b nm with
  | some j =>
    obtain ⟨hj, k1, k2⟩ := bk_key hz hk
    rw [k1] at lk
    have e : reserveR b id nm un a = (9, b) := by unfold reserveR; simp [t1, t2, t3, hf, hk]
    rw [e]
    clear hz hS hR hI e t1 t2 t3 hf h1 h2 hi2 hk k1 k2
    generalize s.zs[i].p = gp at *
    generalize s.ts[j].p = tp at *
    unfold gptr at *
    go_enter Try.func40, Try.ntmps40
    go_wp2_with fail
    refine KN.out.mono ?_
    rintro e w' ⟨rfl, rfl⟩
    go_wp2_with fail
    refine KU.out.mono ?_
    rintro e w' ⟨rfl, rfl⟩
    go_wp2_with fail
    refine KI.out.mono ?_
    rintro e w' ⟨rfl, rfl⟩
    go_wp2_with fail
    refine KF.out.mono ?_
    rintro e w' ⟨rfl, rfl⟩
    go_wp2
    go_ret
    exact BPost.quiet H.out _
  | none =>
  have hnew := findK_none hk
  rw [bk_key0 hz hk] at lk
  have ll := hR.lenK
  have htl := ts_len hz
  by_cases hfull : 1000 ≤ s.ts.length
  · have e : reserveR b id nm un a = (28, b) := by unfold reserveR; simp [t1, t2, t3, hf, hk, show 1000 ≤ b.ks.length by omega]
    rw [e]
    clear hz hS hR hI e t1 t2 t3 hf h1 h2 hi2 hk hnew htl
    generalize s.zs[i].p = gp at *
    unfold gptr at *
    go_enter Try.func40, Try.ntmps40
    go_wp2_with fail
    refine KN.out.mono ?_
    rintro e w' ⟨rfl, rfl⟩
    go_wp2_with fail
    refine KU.out.mono ?_
    rintro e w' ⟨rfl, rfl⟩
    go_wp2_with fail
    refine KI.out.mono ?_
    rintro e w' ⟨rfl, rfl⟩
    go_wp2_with fail
    refine KF.out.mono ?_
    rintro e w' ⟨rfl, rfl⟩
    go_wp2
    go_ret
    exact BPost.quiet H.out _
  have zmem : s.zs[i] ∈ s.zs := List.getElem_mem hi
  have hg := hI.g _ (gat_mem hi2)
  have hn := valid_num hg.1
  have g3 : w.cell? ⟨s.zs[i].p, 3, none⟩ = some (.int .i64 (gat b i).l.q) := by rw [← h2]; exact hR.gr _ zmem 3 _ rfl
  have g4 : w.cell? ⟨s.zs[i].p, 4, none⟩ = some (.int .i64 (gat b i).l.u) := by rw [← h2]; exact hR.gr _ zmem 4 _ rfl
  have g5 : w.cell? ⟨s.zs[i].p, 5, none⟩ = some (.int .i64 (gat b i).l.f) := by rw [← h2]; exact hR.gr _ zmem 5 _ rfl
  have g6 : w.cell? ⟨s.zs[i].p, 6, none⟩ = some (.int .i64 (gat b i).l.t) := by rw [← h2]; exact hR.gr _ zmem 6 _ rfl
  have g7 : w.cell? ⟨s.zs[i].p, 7, none⟩ = some (.int .i64 (gat b i).su) := by rw [← h2]; exact hR.gr _ zmem 7 _ rfl
  have g8 : w.cell? ⟨s.zs[i].p, 8, none⟩ = some (.int .i64 (gat b i).sn) := by rw [← h2]; exact hR.gr _ zmem 8 _ rfl
  have g9 : w.cell? ⟨s.zs[i].p, 9, none⟩ = some (.int .i64 (gat b i).e) := by rw [← h2]; exact hR.gr _ zmem 9 _ rfl
  have KR := hide (runs_any a g5 g6 g9)
  have KL := hide (fun W (hb : Below w.heap.size w W) => left_any (((Run.begin w).below emp_ok hb).cell g3 (fun h => h)) (((Run.begin w).below emp_ok hb).cell g4 (fun h => h)) (((Run.begin w).below emp_ok hb).cell g7 (fun h => h)) (((Run.begin w).below emp_ok hb).cell g8 (fun h => h)) (by omega) (by omega))
  have hv : runsB (gat b i).l.f (gat b i).l.t (gat b i).e a = runsG (gat b i) a := rfl
  rw [hv] at KR
  clear g3 g4 g5 g6 g7 g8 g9 hv
  cases hr : runsG (gat b i) a with
  | false =>
    rw [hr] at KR
    have e : reserveR b id nm un a = (12, b) := by unfold reserveR; simp [t1, t2, t3, hf, hk, show ¬ 1000 ≤ b.ks.length by omega, hr]
    rw [e]
    clear hz hS hR hI e t1 t2 t3 hf h1 h2 hi2 hk hnew htl zmem hg hn hr
    generalize s.zs[i].p = gp at *
    unfold gptr at *
    go_enter Try.func40, Try.ntmps40
    go_wp2_with fail
    refine KN.out.mono ?_
    rintro e w' ⟨rfl, rfl⟩
    go_wp2_with fail
    refine KU.out.mono ?_
    rintro e w' ⟨rfl, rfl⟩
    go_wp2_with fail
    refine KI.out.mono ?_
    rintro e w' ⟨rfl, rfl⟩
    go_wp2_with fail
    refine KF.out.mono ?_
    rintro e w' ⟨rfl, rfl⟩
    go_wp2_with fail
    refine KR.out.mono ?_
    rintro e w' ⟨rfl, rfl⟩
    go_wp2
    go_ret
    exact BPost.quiet H.out _
  | true =>
  rw [hr] at KR
  by_cases hm : (gat b i).l.q - (gat b i).su < un
  · have e : reserveR b id nm un a = (19, b) := by unfold reserveR; simp [t1, t2, t3, hf, hk, show ¬ 1000 ≤ b.ks.length by omega, hr, hm]
    rw [e]
    clear hz hS hR hI e t1 t2 t3 hf h1 h2 hi2 hk hnew htl zmem hg hn hr
    generalize (gat b i).l.q - (gat b i).su = lq at *
    generalize (gat b i).l.u - (gat b i).sn = lu at *
    generalize s.zs[i].p = gp at *
    unfold gptr at *
    go_enter Try.func40, Try.ntmps40
    go_wp2_with fail
    refine KN.out.mono ?_
    rintro e w' ⟨rfl, rfl⟩
    go_wp2_with fail
    refine KU.out.mono ?_
    rintro e w' ⟨rfl, rfl⟩
    go_wp2_with fail
    refine KI.out.mono ?_
    rintro e w' ⟨rfl, rfl⟩
    go_wp2_with fail
    refine KF.out.mono ?_
    rintro e w' ⟨rfl, rfl⟩
    go_wp2_with fail
    refine KR.out.mono ?_
    rintro e w' ⟨rfl, rfl⟩
    go_wp2_with fail
    refine (KL.out _ (Below.refl _ _)).mono ?_
    rintro e w1 ⟨rfl, hb1⟩
    have HB1 := hide hb1
    clear hb1
    go_wp2
    go_ret
    exact BPost.below H.out _ HB1.out
  by_cases hm2 : (gat b i).l.u - (gat b i).sn < 1
  · have e : reserveR b id nm un a = (19, b) := by unfold reserveR; simp [t1, t2, t3, hf, hk, show ¬ 1000 ≤ b.ks.length by omega, hr, hm2]
    rw [e]
    clear hz hS hR hI e t1 t2 t3 hf h1 h2 hi2 hk hnew htl zmem hg hn hr
    generalize (gat b i).l.q - (gat b i).su = lq at *
    generalize (gat b i).l.u - (gat b i).sn = lu at *
    generalize s.zs[i].p = gp at *
    unfold gptr at *
    go_enter Try.func40, Try.ntmps40
    go_wp2_with fail
    refine KN.out.mono ?_
    rintro e w' ⟨rfl, rfl⟩
    go_wp2_with fail
    refine KU.out.mono ?_
    rintro e w' ⟨rfl, rfl⟩
    go_wp2_with fail
    refine KI.out.mono ?_
    rintro e w' ⟨rfl, rfl⟩
    go_wp2_with fail
    refine KF.out.mono ?_
    rintro e w' ⟨rfl, rfl⟩
    go_wp2_with fail
    refine KR.out.mono ?_
    rintro e w' ⟨rfl, rfl⟩
    go_wp2_with fail
    refine (KL.out _ (Below.refl _ _)).mono ?_
    rintro e w1 ⟨rfl, hb1⟩
    have HB1 := hide hb1
    clear hb1
    go_wp2_with fail
    refine (KL.out _ HB1.out).mono ?_
    rintro e w2 ⟨rfl, hb2⟩
    have HB2 := hide (HB1.out.trans (hb2.mono HB1.out.size))
    clear hb2
    go_wp2
    go_ret
    exact BPost.below H.out _ HB2.out
  have e : reserveR b id nm un a = (0, setM (resM b nm i) b.ks.length 0 un) := by rw [res_eq hi2]; unfold reserveR; simp [t1, t2, t3, hf, hk, show ¬ 1000 ≤ b.ks.length by omega, hr, hm, hm2]
  rw [e]
  have HS := hide hS
  have HZ := hide hz
  have HI := hide hI
  have HNEW : Hid (∀ y ∈ s.ts, y.k.nm ≠ nm) := hide (fun y hy => hnew _ (by rw [← hz.2.1]; exact List.mem_map_of_mem hy))
  have H2 := hide h2
  have HI2 := hide hi2
  have HTL := hide htl
  have HM2 := hide hm2
  have HUN : Hid (0 ≤ un ∧ un ≤ 1000000000) := hide (by unfold within at t2; simpa using t2)
  have hsn : -9223372036854775808 ≤ (gat b i).sn + 1 ∧ (gat b i).sn + 1 ≤ 9223372036854775807 := by omega
  have KLL := hide (And.intro (Int.le_refl ((gat b i).l.q - (gat b i).su)) (Int.le_refl ((gat b i).l.u - (gat b i).sn)))
  clear KLL
  obtain ⟨lq, hlq⟩ : ∃ x, x = (gat b i).l.q - (gat b i).su := ⟨_, rfl⟩
  obtain ⟨lu, hlu⟩ : ∃ x, x = (gat b i).l.u - (gat b i).sn := ⟨_, rfl⟩
  rw [← hlq] at hm KL; rw [← hlu] at hm2 KL
  obtain ⟨gp, hgp⟩ : ∃ x, x = s.zs[i].p := ⟨_, rfl⟩
  rw [← hgp] at KF KR KL
  have HGP := hide hgp
  obtain ⟨sn, hsn0⟩ : ∃ x, x = (gat b i).sn := ⟨_, rfl⟩
  rw [← hsn0] at hsn
  have HSN := hide hsn0
  clear hlq hlu hgp hsn0
  clear hz hS hR hI e t1 t2 t3 hf h1 h2 hi2 hk hnew htl zmem hg hn hr
  unfold gptr at KF KR KL
  unfold gptr
  go_enter Try.func40, Try.ntmps40
  go_wp2_with fail
  refine KN.out.mono ?_
  rintro e w' ⟨rfl, rfl⟩
  go_wp2_with fail
  refine KU.out.mono ?_
  rintro e w' ⟨rfl, rfl⟩
  go_wp2_with fail
  refine KI.out.mono ?_
  rintro e w' ⟨rfl, rfl⟩
  go_wp2_with fail
  refine KF.out.mono ?_
  rintro e w' ⟨rfl, rfl⟩
  go_wp2_with fail
  refine KR.out.mono ?_
  rintro e w' ⟨rfl, rfl⟩
  go_wp2_with fail
  refine (KL.out _ (Below.refl _ _)).mono ?_
  rintro e w1 ⟨rfl, hb1⟩
  have HB1 := hide hb1
  clear hb1
  go_wp2_with fail
  refine (KL.out _ HB1.out).mono ?_
  rintro e w2 ⟨rfl, hb2⟩
  have R2 := hide (((Run.start HS.out).below bkS_ok HB1.out).below bkS_ok hb2)
  clear hb2 c2
  have c2 := (bk_read R2.out).c2
  have R3 := hide (R2.out.fresh bkS_ok (cell_new w2 (tcell ⟨⟨nm, i, 0, 0⟩, w2.heap.size, gp⟩) 145))
  obtain ⟨W4, hup, R4⟩ := bk_addT (z := ⟨⟨nm, i, 0, 0⟩, w2.heap.size, gp⟩) R3.out HNEW.out
  have R4 := hide R4
  have hlt2 : p < w2.heap.size := World.block_lt_of_cell? _ _ c2
  have t0 : W4.cell? ⟨w2.heap.size, 0, none⟩ = some (.pointer (some ⟨gp, 0, none⟩)) := (bk_read R4.out).tr ⟨⟨nm, i, 0, 0⟩, w2.heap.size, gp⟩ (by simp) 0 _ rfl
  have g8 : W4.cell? ⟨gp, 8, none⟩ = some (.int .i64 sn) := by
    rw [HGP.out, HSN.out, ← H2.out]
    exact (bk_read R4.out).gr _ (List.getElem_mem hi) 8 _ rfl
  have f8 : W4.frozen? ⟨gp, 8, none⟩ = false := by
    rw [HGP.out]
    exact (bk_read R4.out).gf _ (List.getElem_mem hi) 8
  have R5 := hide (bk_setG R4.out (i := i) hi 8 (.int .i64 (sn + 1)) { gat b i with sn := (gat b i).sn + 1 } (by rw [← H2.out]) (by rw [← H2.out]) (by rw [← H2.out]) (by rw [HSN.out, ← H2.out]; rfl))
  rw [show (({ s with ts := s.ts ++ [⟨⟨nm, i, 0, 0⟩, w2.heap.size, gp⟩] } : BkP).zs[i]).p = gp from HGP.out.symm] at R5
  have HZ5 : Hid (BkZ (resM b nm i) (setG { s with ts := s.ts ++ [⟨⟨nm, i, 0, 0⟩, w2.heap.size, gp⟩] } i hi { gat b i with sn := (gat b i).sn + 1 })) :=
    hide (bkZ_setG (bkZ_addT HZ.out ⟨⟨nm, i, 0, 0⟩, w2.heap.size, gp⟩ ⟨_, List.getElem?_eq_getElem hi, HGP.out.symm⟩) hi _)
  have HI5 := hide (inv_res (nm := nm) HI.out HI2.out (by have := HTL.out; omega) (by have := HM2.out; omega))
  obtain ⟨F5, hS5, back⟩ := R5.out.all bkS_ok
  have HBK := hide back
  have KS : Hid (Calls Try.prog 81 #[.pointer (some ⟨w2.heap.size, 0, none⟩), .int .i64 0, .int .i64 un] _ (BPost _ F5 (.tuple #[]) (setM (resM b nm i) b.ks.length 0 un) p)) := hide (by
    have hS6 : BkS p (setG { s with ts := s.ts ++ [⟨⟨nm, i, 0, 0⟩, w2.heap.size, gp⟩] } i hi { gat b i with sn := (gat b i).sn + 1 }) _ F5 := hS5
    have K := setM_any (j := s.ts.length) hS6 HZ5.out HI5.out (by simp [setG]) 0 un (by decide) HUN.out.1 HUN.out.2
    have e : ((setG { s with ts := s.ts ++ [⟨⟨nm, i, 0, 0⟩, w2.heap.size, gp⟩] } i hi { gat b i with sn := (gat b i).sn + 1 }).ts[s.ts.length]'(by simp [setG])).p = w2.heap.size := by simp [setG]
    rw [e] at K
    rw [← HTL.out]
    exact K)
  clear hS5 back R5
  have hup2 : (Instr.mapUpdate 132 (.map (some s.bK)) (.string nm) (.pointer (some ⟨w2.heap.size, 0, none⟩))).run Try.prog (w2.alloc (.cells #[.pointer (some ⟨gp, 0, none⟩), .int .i64 0, .int .i64 0] 145)) = .ok () W4 := hup
  clear hup
  go_wp2_with fail
  refine KS.out.mono ?_
  rintro e w9 ⟨rfl, hp⟩
  have HP := hide ((HBK.out _ _ hp).post bkO_ok)
  clear hp
  go_wp2
  go_ret
  exact ⟨rfl, HP.out⟩
end Go.Proofs.Ytapabbpdfplpoaa
namespace Go.Proofs.Ytapabbpdfplpoaa
open Go.RowKit Go.CH Go.CH.Lic
open Go.ChangeMaps (setBlock)

theorem cell_sets {g : Nat} {t : TypeId} : ∀ (l : List (Nat × Value)) {w : World} {F : Nat → Prop} {cs : Array Value}, CellO g cs t w F → Post w F (CellO g (l.foldl (fun cs x => cs.setIfInBounds x.1 x.2) cs) t) (l.foldl (fun w x => w.setCell ⟨g, x.1, none⟩ x.2) w)
  | [], w, F, cs, h => ⟨F, h, Mod.refl _ _, fun i hi => .inl hi⟩
  | x :: l, w, F, cs, h => by
    obtain ⟨F0, h0, bk⟩ := (Run.start h).all cell_ok
    obtain ⟨F1, h1, bk1⟩ := (bk _ _ (cell_set h0 x.1 x.2)).all cell_ok
    exact (bk1 _ _ (cell_sets l h1)).post cell_ok
theorem licAt_of {b : BkM} {s : BkP} {w : World} {F : Nat → Prop} {p : Nat} (hz : BkZ b s) (hI : Inv b) (h : BkS p s w F) {i : Nat} (hi : i < s.zs.length) (l' : LicM) (h0 : l'.id.size ≤ maxLen) (h1 : l'.ms = s.zs[i].g.l.ms) (h2 : l'.ps = s.zs[i].g.l.ps) : LicAt w l' s.zs[i].A s.zs[i].c s.zs[i].B s.zs[i].d := by
  have hR := h.read
  have hm := List.getElem_mem hi
  have hg := hI.g s.zs[i].g (by rw [← hz.1]; exact List.mem_map_of_mem hm)
  obtain ⟨n1, n2, n3, n4, n5⟩ := valid_lists hg.1
  obtain ⟨a, c⟩ := hR.gs _ hm
  obtain ⟨F1, F2, -, ⟨F3, F4, h6, -⟩, -⟩ := h
  obtain ⟨F5, F6, -, h7, -⟩ := h6
  obtain ⟨F', g1, g2, -, ⟨g3, g4, ra, rb, -⟩, -⟩ := big_mem gow h7 _ hm
  refine ⟨⟨h0, by rw [h1]; exact a, by rw [h2]; exact c, fun x hx => ?_, fun x hx => ?_, by rw [h1]; omega, by rw [h2]; omega⟩, fun e => ?_, fun e => ?_⟩
  · have := names_size n3 x (by rw [← h1]; exact hx); unfold maxLen; omega
  · have := names_size n4 x (by rw [← h2]; exact hx); unfold maxLen; omega
  · have := row_cap ra.1
    have h0 := this.2 e
    exact ⟨h0, by rw [h1]; omega⟩
  · have := row_cap rb.1
    have h0 := this.2 e
    exact ⟨h0, by rw [h2]; omega⟩
set_option maxRecDepth 100000 in
set_option maxHeartbeats 3200000 in
theorem amend_any {w : World} {F : Nat → Prop} {b : BkM} {p : Nat} (h : BkO b p w F) (hI : Inv b) (id : ByteArray) (q u t : Int) :
    Calls Try.prog 55 #[gptr p, .string id, .int .i64 q, .int .i64 u, .int .i64 t] w (BPost w F (.int .i64 (amendR b id q u t).1) (amendR b id q u t).2 p) := by
  have H := hide h
  obtain ⟨s, hz, hS⟩ := h
  have hR := hS.read
  have KF := hide (find_any hR id)
  cases hf : findG b id with
  | none =>
    rw [bk_find0 hz hf] at KF
    have e : amendR b id q u t = (11, b) := by unfold amendR; rw [hf]
    rw [e]
    clear hz hS hR hf e hI
    unfold gptr at *
    go_enter Try.func55, Try.ntmps55
    go_wp2_with fail
    refine KF.out.mono ?_
    rintro e w' ⟨rfl, rfl⟩
    go_wp2
    go_ret
    exact BPost.quiet H.out _
  | some i =>
  obtain ⟨hi, h1, h2⟩ := bk_find hz hf
  rw [h1] at KF
  have hi2 : i < b.gs.length := (findG_some hf).1
  have zmem : s.zs[i] ∈ s.zs := List.getElem_mem hi
  have g9 : w.cell? ⟨s.zs[i].p, 9, none⟩ = some (.int .i64 (gat b i).e) := by rw [← h2]; exact hR.gr _ zmem 9 _ rfl
  by_cases he : 0 ≤ (gat b i).e
  · have e : amendR b id q u t = (12, b) := by unfold amendR; rw [hf]; simp [he]
    rw [e]
    clear hz hS hR hf e hI h1 h2 zmem hi2
    generalize s.zs[i].p = gp at *
    generalize (gat b i).e = ge at *
    unfold gptr at *
    go_enter Try.func55, Try.ntmps55
    go_wp2_with fail
    refine KF.out.mono ?_
    rintro e w' ⟨rfl, rfl⟩
    go_wp2
    go_ret
    exact BPost.quiet H.out _
  have g0 : w.cell? ⟨s.zs[i].p, 0, none⟩ = some (.string (gat b i).l.id) := by rw [← h2]; exact hR.gr _ zmem 0 _ rfl
  have g1 : w.cell? ⟨s.zs[i].p, 1, none⟩ = some (.slice s.zs[i].A (gat b i).l.ms.length s.zs[i].c) := by rw [← h2]; exact hR.gr _ zmem 1 _ rfl
  have g2 : w.cell? ⟨s.zs[i].p, 2, none⟩ = some (.slice s.zs[i].B (gat b i).l.ps.length s.zs[i].d) := by rw [← h2]; exact hR.gr _ zmem 2 _ rfl
  have g3 : w.cell? ⟨s.zs[i].p, 3, none⟩ = some (.int .i64 (gat b i).l.q) := by rw [← h2]; exact hR.gr _ zmem 3 _ rfl
  have g4 : w.cell? ⟨s.zs[i].p, 4, none⟩ = some (.int .i64 (gat b i).l.u) := by rw [← h2]; exact hR.gr _ zmem 4 _ rfl
  have g5 : w.cell? ⟨s.zs[i].p, 5, none⟩ = some (.int .i64 (gat b i).l.f) := by rw [← h2]; exact hR.gr _ zmem 5 _ rfl
  have g6 : w.cell? ⟨s.zs[i].p, 6, none⟩ = some (.int .i64 (gat b i).l.t) := by rw [← h2]; exact hR.gr _ zmem 6 _ rfl
  have hl0 := licAt_of hz hI hS hi (amendL (gat b i).l q u t) (by
    have := name_size (valid_lists (hI.g _ (gat_mem hi2)).1).2.2.2.2
    show (gat b i).l.id.size ≤ maxLen
    unfold maxLen; omega) (by rw [h2]; rfl) (by rw [h2]; rfl)
  have R1 := hide ((Run.start hS).below bkS_ok ((Below.refl w.heap.size w).alloc (Nat.le_refl _) (.cells (licC (amendL (gat b i).l q u t) s.zs[i].A s.zs[i].c s.zs[i].B s.zs[i].d) 56)))
  have BX := hide (((Run.begin w).fresh emp_ok (cell_new w (licC (amendL (gat b i).l q u t) s.zs[i].A s.zs[i].c s.zs[i].B s.zs[i].d) 56)).imp fun _ _ h => star_emp h)
  have KV := hide (fun W (hb : Below w.heap.size w W) => valid_any (c := s.zs[i].c) (d := s.zs[i].d) (hl0.keep hb).h)
  have hlg : s.zs[i].p < w.heap.size := World.block_lt_of_cell? _ _ g0
  cases hv : valid (amendL (gat b i).l q u t) with
  | false =>
    have e : amendR b id q u t = (1, b) := by unfold amendR; rw [hf]; simp [he, hv]
    rw [e]
    rw [hv] at KV
    clear hz hS hR hf e hI h1 h2 zmem hi2 hv hl0 R1
    unfold licC amendL at BX
    unfold licV amendL at KV
    generalize s.zs[i].p = gp at *
    generalize (gat b i).e = ge at *
    unfold gptr at *
    go_enter Try.func55, Try.ntmps55
    go_wp2_with fail
    refine KF.out.mono ?_
    rintro e w' ⟨rfl, rfl⟩
    go_wp2_with fail
    refine (KV.out _ BX.out.bel).mono ?_
    rintro e w2 ⟨rfl, hb⟩
    have HB := hide (BX.out.bel.trans (hb.mono (by simp)))
    clear hb
    go_wp2
    go_ret
    exact BPost.below H.out _ HB.out
  | true =>
  rw [hv] at KV
  by_cases hq : q < (gat b i).su
  · have e : amendR b id q u t = (19, b) := by unfold amendR; rw [hf]; simp [he, hv, hq]
    rw [e]
    have HZ := hide hz
    have HS := hide hS
    have H2 := hide h2
    clear hz hS hR hf e hI h1 h2 zmem hi2 hv hl0
    have hgp := hide (rfl : s.zs[i].p = s.zs[i].p)
    unfold licC amendL at BX R1
    unfold licV amendL at KV
    unfold gptr at *
    go_enter Try.func55, Try.ntmps55
    go_wp2_with fail
    refine KF.out.mono ?_
    rintro e w' ⟨rfl, rfl⟩
    go_wp2_with fail
    refine (KV.out _ BX.out.bel).mono ?_
    rintro e w2 ⟨rfl, hb⟩
    have HB := hide (BX.out.bel.trans (hb.mono (by simp)))
    have R2 := hide (R1.out.below bkS_ok hb)
    have BX2 := hide (BX.out.below cell_ok hb)
    clear hb g0 g1 g2 g3 g4 g5 g6 g9
    obtain ⟨x0, x1, x2, x3, x4, x5, x6⟩ := box_reads BX2.out
    have BB := bk_read R2.out
    have zm : s.zs[i] ∈ s.zs := List.getElem_mem hi
    have g7 : w2.cell? ⟨s.zs[i].p, 7, none⟩ = some (.int .i64 (gat b i).su) := by rw [← H2.out]; exact BB.gr _ zm 7 _ rfl
    have g8 : w2.cell? ⟨s.zs[i].p, 8, none⟩ = some (.int .i64 (gat b i).sn) := by rw [← H2.out]; exact BB.gr _ zm 8 _ rfl
    clear BB zm
    generalize (gat b i).su = su at *
    generalize (gat b i).sn = sn at *
    go_wp2
    go_ret
    exact BPost.below H.out _ HB.out
  by_cases hu : u < (gat b i).sn
  · have e : amendR b id q u t = (19, b) := by unfold amendR; rw [hf]; simp [he, hv, hu]
    rw [e]
    have HZ := hide hz
    have HS := hide hS
    have H2 := hide h2
    clear hz hS hR hf e hI h1 h2 zmem hi2 hv hl0
    have hgp := hide (rfl : s.zs[i].p = s.zs[i].p)
    unfold licC amendL at BX R1
    unfold licV amendL at KV
    unfold gptr at *
    go_enter Try.func55, Try.ntmps55
    go_wp2_with fail
    refine KF.out.mono ?_
    rintro e w' ⟨rfl, rfl⟩
    go_wp2_with fail
    refine (KV.out _ BX.out.bel).mono ?_
    rintro e w2 ⟨rfl, hb⟩
    have HB := hide (BX.out.bel.trans (hb.mono (by simp)))
    have R2 := hide (R1.out.below bkS_ok hb)
    have BX2 := hide (BX.out.below cell_ok hb)
    clear hb g0 g1 g2 g3 g4 g5 g6 g9
    obtain ⟨x0, x1, x2, x3, x4, x5, x6⟩ := box_reads BX2.out
    have BB := bk_read R2.out
    have zm : s.zs[i] ∈ s.zs := List.getElem_mem hi
    have g7 : w2.cell? ⟨s.zs[i].p, 7, none⟩ = some (.int .i64 (gat b i).su) := by rw [← H2.out]; exact BB.gr _ zm 7 _ rfl
    have g8 : w2.cell? ⟨s.zs[i].p, 8, none⟩ = some (.int .i64 (gat b i).sn) := by rw [← H2.out]; exact BB.gr _ zm 8 _ rfl
    clear BB zm
    generalize (gat b i).su = su at *
    generalize (gat b i).sn = sn at *
    go_wp2
    go_ret
    exact BPost.below H.out _ HB.out
  have e : amendR b id q u t = (0, putG b i { gat b i with l := amendL (gat b i).l q u t }) := by unfold amendR; rw [hf]; simp [he, hv, hq, hu]
  rw [e]
  have HZ := hide hz
  have HS := hide hS
  have H2 := hide h2
  clear hz hS hR hf e hI h1 h2 zmem hi2 hv hl0
  have hgp := hide (rfl : s.zs[i].p = s.zs[i].p)
  unfold licC amendL at BX R1
  unfold licV amendL at KV
  unfold gptr at *
  go_enter Try.func55, Try.ntmps55
  go_wp2_with fail
  refine KF.out.mono ?_
  rintro e w' ⟨rfl, rfl⟩
  go_wp2_with fail
  refine (KV.out _ BX.out.bel).mono ?_
  rintro e w2 ⟨rfl, hb⟩
  have HB := hide (BX.out.bel.trans (hb.mono (by simp)))
  have R2 := hide (R1.out.below bkS_ok hb)
  have BX2 := hide (BX.out.below cell_ok hb)
  clear hb g0 g1 g2 g3 g4 g5 g6 g9
  obtain ⟨x0, x1, x2, x3, x4, x5, x6⟩ := box_reads BX2.out
  have BB := bk_read R2.out
  have zm : s.zs[i] ∈ s.zs := List.getElem_mem hi
  have g7 : w2.cell? ⟨s.zs[i].p, 7, none⟩ = some (.int .i64 (gat b i).su) := by rw [← H2.out]; exact BB.gr _ zm 7 _ rfl
  have g8 : w2.cell? ⟨s.zs[i].p, 8, none⟩ = some (.int .i64 (gat b i).sn) := by rw [← H2.out]; exact BB.gr _ zm 8 _ rfl
  have y0 := BB.gr _ zm 0 _ rfl
  have f0 := BB.gf _ zm 0
  have y1 := BB.gr _ zm 1 _ rfl
  have f1 := BB.gf _ zm 1
  have y2 := BB.gr _ zm 2 _ rfl
  have f2 := BB.gf _ zm 2
  have y3 := BB.gr _ zm 3 _ rfl
  have f3 := BB.gf _ zm 3
  have y4 := BB.gr _ zm 4 _ rfl
  have f4 := BB.gf _ zm 4
  have y5 := BB.gr _ zm 5 _ rfl
  have f5 := BB.gf _ zm 5
  have y6 := BB.gr _ zm 6 _ rfl
  have f6 := BB.gf _ zm 6
  obtain ⟨G, hC, bk⟩ := bk_updG R2.out hi { gat b i with l := amendL (gat b i).l q u t } (by rw [H2.out]; rfl) (by rw [H2.out]; rfl) (by rw [H2.out]; rfl)
  have hP := cell_sets [(0, .string (gat b i).l.id), (1, .slice s.zs[i].A (gat b i).l.ms.length s.zs[i].c), (2, .slice s.zs[i].B (gat b i).l.ps.length s.zs[i].d), (3, .int .i64 q), (4, .int .i64 u), (5, .int .i64 (gat b i).l.f), (6, .int .i64 t)] hC
  have hCC : (([(0, .string (gat b i).l.id), (1, .slice s.zs[i].A (gat b i).l.ms.length s.zs[i].c), (2, .slice s.zs[i].B (gat b i).l.ps.length s.zs[i].d), (3, .int .i64 q), (4, .int .i64 u), (5, .int .i64 (gat b i).l.f), (6, .int .i64 t)] : List (Nat × Value)).foldl (fun (cs : Array Value) x => cs.setIfInBounds x.1 x.2) (gcell s.zs[i])) = gcell { s.zs[i] with g := { gat b i with l := amendL (gat b i).l q u t } } := by
    unfold gcell; rw [H2.out]; rfl
  rw [hCC] at hP
  have HP := hide ((bk _ hP).post bkS_ok)
  have HZ2 := hide (bkZ_setG HZ.out hi { gat b i with l := amendL (gat b i).l q u t })
  clear hC bk hP hCC
  clear BB zm
  go_wp2
  go_ret
  exact BPost.mk' HZ2.out HP.out
end Go.Proofs.Ytapabbpdfplpoaa
namespace Go.Proofs.Ytapabbpdfplpoaa
open Go.RowKit Go.CH Go.CH.Lic
open Go.ChangeMaps (setBlock)

theorem licAt_of' {s : BkP} {w : World} {F : Nat → Prop} {p : Nat} (h : BkS p s w F) {i : Nat} (hi : i < s.zs.length) (l' : LicM) (h0 : l'.id.size ≤ maxLen) (h1 : l'.ms = s.zs[i].g.l.ms) (h2 : l'.ps = s.zs[i].g.l.ps)
    (n1 : l'.ms.length ≤ 12) (n2 : l'.ps.length ≤ 60) (n3 : names l'.ms = true) (n4 : names l'.ps = true) : LicAt w l' s.zs[i].A s.zs[i].c s.zs[i].B s.zs[i].d := by
  have hR := h.read
  have hm := List.getElem_mem hi
  obtain ⟨a, c⟩ := hR.gs _ hm
  obtain ⟨F1, F2, -, ⟨F3, F4, h6, -⟩, -⟩ := h
  obtain ⟨F5, F6, -, h7, -⟩ := h6
  obtain ⟨F', g1, g2, -, ⟨g3, g4, ra, rb, -⟩, -⟩ := big_mem gow h7 _ hm
  refine ⟨⟨h0, by rw [h1]; exact a, by rw [h2]; exact c, fun x hx => ?_, fun x hx => ?_, by omega, by omega⟩, fun e => ?_, fun e => ?_⟩
  · have := names_size n3 x hx; unfold maxLen; omega
  · have := names_size n4 x hx; unfold maxLen; omega
  · have := row_cap ra.1
    have h0 := this.2 e
    exact ⟨h0, by rw [h1]; omega⟩
  · have := row_cap rb.1
    have h0 := this.2 e
    exact ⟨h0, by rw [h2]; omega⟩
def cutL (l : LicM) (q u : Int) : LicM := { l with q := l.q - q, u := l.u - u }

set_option maxRecDepth 100000 in
set_option maxHeartbeats 3200000 in
theorem split_any {w : World} {F : Nat → Prop} {b : BkM} {p : Nat} (h : BkO b p w F) (hI : Inv b) (id into : ByteArray) (q u : Int) (hs : into.size ≤ maxLen) :
    Calls Try.prog 56 #[gptr p, .string id, .string into, .int .i64 q, .int .i64 u] w (BPost w F (.int .i64 (splitR b id into q u).1) (splitR b id into q u).2 p) := by
  have H := hide h
  have fd0 := fld0
  have fd1 := fld1
  obtain ⟨s, hz, hS⟩ := h
  have hR := hS.read
  have KN := hide (isName_any into w hs)
  have KF := hide (find_any hR id)
  cases hf : findG b id with
  | none =>
    rw [bk_find0 hz hf] at KF
    have e : splitR b id into q u = (11, b) := by unfold splitR; rw [hf]
    rw [e]
    clear hz hS hR hI e hf
    unfold gptr at *
    go_enter Try.func56, Try.ntmps56
    go_wp2_with fail
    refine KF.out.mono ?_
    rintro e w' ⟨rfl, rfl⟩
    go_wp2
    go_ret
    exact BPost.quiet H.out _
  | some i =>
  obtain ⟨hi, h1, h2⟩ := bk_find hz hf
  rw [h1] at KF
  have hi2 : i < b.gs.length := (findG_some hf).1
  have zmem : s.zs[i] ∈ s.zs := List.getElem_mem hi
  have g9 : w.cell? ⟨s.zs[i].p, 9, none⟩ = some (.int .i64 (gat b i).e) := by rw [← h2]; exact hR.gr _ zmem 9 _ rfl
  by_cases he : 0 ≤ (gat b i).e
  · have e : splitR b id into q u = (12, b) := by unfold splitR; rw [hf]; simp [he]
    rw [e]
    clear hz hS hR hI e hf h1 h2 hi2 zmem
    generalize s.zs[i].p = gp at *
    generalize (gat b i).e = ge at *
    unfold gptr at *
    go_enter Try.func56, Try.ntmps56
    go_wp2_with fail
    refine KF.out.mono ?_
    rintro e w' ⟨rfl, rfl⟩
    go_wp2
    go_ret
    exact BPost.quiet H.out _
  have hb0 : (gat b i).e < 0 := by omega
  cases t1 : isName into with
  | false =>
    rw [t1] at KN
    have e : splitR b id into q u = (1, b) := by unfold splitR; rw [hf]; simp [he, t1]
    rw [e]
    clear hz hS hR hI e hf h1 h2 hi2 zmem t1
    generalize s.zs[i].p = gp at *
    generalize (gat b i).e = ge at *
    unfold gptr at *
    go_enter Try.func56, Try.ntmps56
    go_wp2_with fail
    refine KF.out.mono ?_
    rintro e w' ⟨rfl, rfl⟩
    go_wp2_with fail
    refine KN.out.mono ?_
    rintro e w' ⟨rfl, rfl⟩
    go_wp2
    go_ret
    exact BPost.quiet H.out _
  | true =>
  rw [t1] at KN
  by_cases hq : q < 0
  · have e : splitR b id into q u = (1, b) := by unfold splitR; rw [hf]; simp [he, t1, hq]
    rw [e]
    clear hz hS hR hI e hf h1 h2 hi2 zmem t1
    generalize s.zs[i].p = gp at *
    generalize (gat b i).e = ge at *
    unfold gptr at *
    go_enter Try.func56, Try.ntmps56
    go_wp2_with fail
    refine KF.out.mono ?_
    rintro e w' ⟨rfl, rfl⟩
    go_wp2_with fail
    refine KN.out.mono ?_
    rintro e w' ⟨rfl, rfl⟩
    go_wp2
    go_ret
    exact BPost.quiet H.out _
  by_cases hu : u < 0
  · have e : splitR b id into q u = (1, b) := by unfold splitR; rw [hf]; simp [he, t1, hq, hu]
    rw [e]
    clear hz hS hR hI e hf h1 h2 hi2 zmem t1
    generalize s.zs[i].p = gp at *
    generalize (gat b i).e = ge at *
    unfold gptr at *
    go_enter Try.func56, Try.ntmps56
    go_wp2_with fail
    refine KF.out.mono ?_
    rintro e w' ⟨rfl, rfl⟩
    go_wp2_with fail
    refine KN.out.mono ?_
    rintro e w' ⟨rfl, rfl⟩
    go_wp2
    go_ret
    exact BPost.quiet H.out _
  have c0 := hR.c0
  have c1 := hR.c1
  have lk := hR.lookI into
  cases hk : findG b into with
  | some j =>
    obtain ⟨hj, k1, k2⟩ := bk_find hz hk
    rw [k1] at lk
    have e : splitR b id into q u = (9, b) := by unfold splitR; rw [hf]; simp [he, t1, hq, hu, hk]
    rw [e]
    clear hz hS hR hI e hf h1 h2 hi2 zmem t1 hk k1 k2
    generalize s.zs[j].p = tp at *
    generalize s.zs[i].p = gp at *
    generalize (gat b i).e = ge at *
    unfold gptr at *
    go_enter Try.func56, Try.ntmps56
    go_wp2_with fail
    refine KF.out.mono ?_
    rintro e w' ⟨rfl, rfl⟩
    go_wp2_with fail
    refine KN.out.mono ?_
    rintro e w' ⟨rfl, rfl⟩
    go_wp2
    go_ret
    exact BPost.quiet H.out _
  | none =>
  have hnew := findG_none hk
  rw [bk_find0 hz hk] at lk
  have hzl := zs_len hz
  by_cases hfull : 100 ≤ s.zs.length
  · have e : splitR b id into q u = (28, b) := by unfold splitR; rw [hf]; simp [he, t1, hq, hu, hk, show 100 ≤ b.gs.length by omega]
    rw [e]
    clear hz hS hR hI e hf h1 h2 hi2 zmem t1 hk hnew hzl
    generalize s.zs[i].p = gp at *
    generalize (gat b i).e = ge at *
    unfold gptr at *
    go_enter Try.func56, Try.ntmps56
    go_wp2_with fail
    refine KF.out.mono ?_
    rintro e w' ⟨rfl, rfl⟩
    go_wp2_with fail
    refine KN.out.mono ?_
    rintro e w' ⟨rfl, rfl⟩
    go_wp2
    go_ret
    exact BPost.quiet H.out _
  have hg := hI.g _ (gat_mem hi2)
  have hn := valid_num hg.1
  have g3 : w.cell? ⟨s.zs[i].p, 3, none⟩ = some (.int .i64 (gat b i).l.q) := by rw [← h2]; exact hR.gr _ zmem 3 _ rfl
  have g4 : w.cell? ⟨s.zs[i].p, 4, none⟩ = some (.int .i64 (gat b i).l.u) := by rw [← h2]; exact hR.gr _ zmem 4 _ rfl
  have g7 : w.cell? ⟨s.zs[i].p, 7, none⟩ = some (.int .i64 (gat b i).su) := by rw [← h2]; exact hR.gr _ zmem 7 _ rfl
  have g8 : w.cell? ⟨s.zs[i].p, 8, none⟩ = some (.int .i64 (gat b i).sn) := by rw [← h2]; exact hR.gr _ zmem 8 _ rfl
  have KL := hide (fun W (hb : Below w.heap.size w W) => left_any (((Run.begin w).below emp_ok hb).cell g3 (fun h => h)) (((Run.begin w).below emp_ok hb).cell g4 (fun h => h)) (((Run.begin w).below emp_ok hb).cell g7 (fun h => h)) (((Run.begin w).below emp_ok hb).cell g8 (fun h => h)) (by omega) (by omega))
  clear g7 g8
  by_cases hm : (gat b i).l.q - (gat b i).su < q
  · have e : splitR b id into q u = (19, b) := by unfold splitR; rw [hf]; simp [he, t1, hq, hu, hk, show ¬ 100 ≤ b.gs.length by omega, hm]
    rw [e]
    clear hz hS hR hI e hf h1 h2 hi2 zmem t1 hk hnew hzl hg hn
    clear g3 g4
    generalize (gat b i).l.q - (gat b i).su = lq at *
    generalize (gat b i).l.u - (gat b i).sn = lu at *
    generalize s.zs[i].p = gp at *
    generalize (gat b i).e = ge at *
    unfold gptr at *
    go_enter Try.func56, Try.ntmps56
    go_wp2_with fail
    refine KF.out.mono ?_
    rintro e w' ⟨rfl, rfl⟩
    go_wp2_with fail
    refine KN.out.mono ?_
    rintro e w' ⟨rfl, rfl⟩
    go_wp2_with fail
    refine (KL.out _ (Below.refl _ _)).mono ?_
    rintro e w1 ⟨rfl, hb1⟩
    have HB1 := hide hb1
    clear hb1
    go_wp2
    go_ret
    exact BPost.below H.out _ HB1.out
  by_cases hm2 : (gat b i).l.u - (gat b i).sn < u
  · have e : splitR b id into q u = (19, b) := by unfold splitR; rw [hf]; simp [he, t1, hq, hu, hk, show ¬ 100 ≤ b.gs.length by omega, hm2]
    rw [e]
    clear hz hS hR hI e hf h1 h2 hi2 zmem t1 hk hnew hzl hg hn
    clear g3 g4
    generalize (gat b i).l.q - (gat b i).su = lq at *
    generalize (gat b i).l.u - (gat b i).sn = lu at *
    generalize s.zs[i].p = gp at *
    generalize (gat b i).e = ge at *
    unfold gptr at *
    go_enter Try.func56, Try.ntmps56
    go_wp2_with fail
    refine KF.out.mono ?_
    rintro e w' ⟨rfl, rfl⟩
    go_wp2_with fail
    refine KN.out.mono ?_
    rintro e w' ⟨rfl, rfl⟩
    go_wp2_with fail
    refine (KL.out _ (Below.refl _ _)).mono ?_
    rintro e w1 ⟨rfl, hb1⟩
    have HB1 := hide hb1
    clear hb1
    go_wp2_with fail
    refine (KL.out _ HB1.out).mono ?_
    rintro e w2 ⟨rfl, hb2⟩
    have HB2 := hide (HB1.out.trans (hb2.mono HB1.out.size))
    clear hb2
    go_wp2
    go_ret
    exact BPost.below H.out _ HB2.out
  have e : splitR b id into q u = (0, addM (putG b i { gat b i with l := cutL (gat b i).l q u }) (splitL (gat b i).l into q u)) := by unfold splitR; rw [hf]; simp [he, t1, hq, hu, hk, show ¬ 100 ≤ b.gs.length by omega, hm, hm2]; rfl
  rw [e]
  have HS := hide hS
  have HZ := hide hz
  have H2 := hide h2
  have HI2 := hide hi2
  have HNEW := hide hnew
  have HZL := hide hzl
  have HFULL := hide hfull
  have HVL := hide (valid_lists hg.1)
  have HSZ := hide hs
  have HQ := hide (show -9223372036854775808 ≤ (gat b i).l.q - q ∧ (gat b i).l.q - q ≤ 9223372036854775807 by omega)
  have HU := hide (show -9223372036854775808 ≤ (gat b i).l.u - u ∧ (gat b i).l.u - u ≤ 9223372036854775807 by omega)
  obtain ⟨lq, hlq⟩ : ∃ x, x = (gat b i).l.q - (gat b i).su := ⟨_, rfl⟩
  obtain ⟨lu, hlu⟩ : ∃ x, x = (gat b i).l.u - (gat b i).sn := ⟨_, rfl⟩
  rw [← hlq] at hm KL; rw [← hlu] at hm2 KL
  clear hlq hlu g3 g4
  clear hz hS hR hI e hf h1 h2 hi2 zmem t1 hk hnew hzl hg hn
  unfold gptr at *
  go_enter Try.func56, Try.ntmps56
  go_wp2_with fail
  refine KF.out.mono ?_
  rintro e w' ⟨rfl, rfl⟩
  go_wp2_with fail
  refine KN.out.mono ?_
  rintro e w' ⟨rfl, rfl⟩
  go_wp2_with fail
  refine (KL.out _ (Below.refl _ _)).mono ?_
  rintro e w1 ⟨rfl, hb1⟩
  have HB1 := hide hb1
  clear hb1
  go_wp2_with fail
  refine (KL.out _ HB1.out).mono ?_
  rintro e w2 ⟨rfl, hb2⟩
  have HB2 := hide (HB1.out.trans (hb2.mono HB1.out.size))
  clear hb2
  have R2 := hide ((Run.start HS.out).below bkS_ok HB2.out)
  have BB := bk_read R2.out
  have zm : s.zs[i] ∈ s.zs := List.getElem_mem hi
  have y0 : w2.cell? ⟨s.zs[i].p, 0, none⟩ = some (.string (gat b i).l.id) := by rw [← H2.out]; exact BB.gr _ zm 0 _ rfl
  have y1 : w2.cell? ⟨s.zs[i].p, 1, none⟩ = some (.slice s.zs[i].A (gat b i).l.ms.length s.zs[i].c) := by rw [← H2.out]; exact BB.gr _ zm 1 _ rfl
  have y2 : w2.cell? ⟨s.zs[i].p, 2, none⟩ = some (.slice s.zs[i].B (gat b i).l.ps.length s.zs[i].d) := by rw [← H2.out]; exact BB.gr _ zm 2 _ rfl
  have y3 : w2.cell? ⟨s.zs[i].p, 3, none⟩ = some (.int .i64 (gat b i).l.q) := by rw [← H2.out]; exact BB.gr _ zm 3 _ rfl
  have y4 : w2.cell? ⟨s.zs[i].p, 4, none⟩ = some (.int .i64 (gat b i).l.u) := by rw [← H2.out]; exact BB.gr _ zm 4 _ rfl
  have y5 : w2.cell? ⟨s.zs[i].p, 5, none⟩ = some (.int .i64 (gat b i).l.f) := by rw [← H2.out]; exact BB.gr _ zm 5 _ rfl
  have y6 : w2.cell? ⟨s.zs[i].p, 6, none⟩ = some (.int .i64 (gat b i).l.t) := by rw [← H2.out]; exact BB.gr _ zm 6 _ rfl
  have f3 := BB.gf _ zm 3
  have f4 := BB.gf _ zm 4
  have hlg : s.zs[i].p < w2.heap.size := World.block_lt_of_cell? _ _ y0
  clear BB zm c0 c1 lk g9
  have E1 := hide (show IntKind.i64.wrap ((gat b i).l.q - q) = (gat b i).l.q - q from IntWalk.i64_in _ HQ.out)
  have E2 := hide (show IntKind.i64.wrap ((gat b i).l.u - u) = (gat b i).l.u - u from IntWalk.i64_in _ HU.out)
  have RR : Hid (Run F w (BkS p (setG s i hi { gat b i with l := cutL (gat b i).l q u })) ((((w2.setCell ⟨s.zs[i].p, 3, none⟩ (.int .i64 ((gat b i).l.q - q))).setCell ⟨s.zs[i].p, 4, none⟩ (.int .i64 ((gat b i).l.u - u))).alloc (.cells #[.string into, .slice s.zs[i].A (gat b i).l.ms.length s.zs[i].c, .slice s.zs[i].B (gat b i).l.ps.length s.zs[i].d, .int .i64 q, .int .i64 u, .int .i64 (gat b i).l.f, .int .i64 (gat b i).l.t] 56)).drew)) := hide (by
    obtain ⟨G, hC, bk⟩ := bk_updG R2.out hi { gat b i with l := cutL (gat b i).l q u } (by rw [H2.out]; rfl) (by rw [H2.out]; rfl) (by rw [H2.out]; rfl)
    have hP := cell_set2 hC 3 4 (.int .i64 ((gat b i).l.q - q)) (.int .i64 ((gat b i).l.u - u))
    have hCC : ((gcell s.zs[i]).setIfInBounds 3 (.int .i64 ((gat b i).l.q - q))).setIfInBounds 4 (.int .i64 ((gat b i).l.u - u)) = gcell { s.zs[i] with g := { gat b i with l := cutL (gat b i).l q u } } := by
      unfold gcell; rw [H2.out]; rfl
    rw [hCC] at hP
    exact ((bk _ hP).below bkS_ok ((Below.refl _ _).alloc (Nat.le_refl _) _)).drew bkS_ok)
  have HZ1 := hide (bkZ_setG HZ.out hi { gat b i with l := cutL (gat b i).l q u })
  go_wp2_with fail
  refine wp_region_lew [19, 23] [0, 1, 0, 0, 0, 0, 0, 0, 0, 0, 0, 0, 0, 0, 1, 1, 0, 0, 0, 1, 1, 1, 1, 2] (fun w' => w'.cell? ⟨s.zs[i].p, 3, none⟩ = some (.int .i64 (gat b i).l.q) ∧ w'.cell? ⟨s.zs[i].p, 4, none⟩ = some (.int .i64 (gat b i).l.u)) (fun _ => True) (fun _ => True) (fun _ => True) (fun _ _ => trivial) (fun _ h => h) (fun _ h => h) (by kernel_rfl) (by kernel_rfl) (by kernel_rfl) (by kernel_rfl) (by exact ⟨cell_ad y3 _, cell_ad y4 _⟩) ?_
  (repeat (first | (refine lew_skip (by rfl) (by rfl) ?_; try simp only [Act.put, List.setIfInBounds_toArray, List.set_cons_zero, List.set_cons_succ]) | (refine lew_read0 (v := ?_) (by rfl) (by rfl) ?_ ?_; rotate_left; (focus (intro w' hS'; go_simp; (try with_reducible rfl); done)); try simp only [Act.put, List.setIfInBounds_toArray, List.set_cons_zero, List.set_cons_succ]) | (refine lew_read1 (v := ?_) (by rfl) (by rfl) ?_ ?_; rotate_left; (focus (intro w' hS'; go_simp; (try with_reducible rfl); done)); try simp only [Act.put, List.setIfInBounds_toArray, List.set_cons_zero, List.set_cons_succ]) | (refine lew_read2 (v := ?_) (by rfl) (by rfl) ?_ ?_; rotate_left; (focus (intro w' hS'; go_simp; (try with_reducible rfl); done)); try simp only [Act.put, List.setIfInBounds_toArray, List.set_cons_zero, List.set_cons_succ]) | (refine lew_read3 (v := ?_) (by rfl) (by rfl) ?_ ?_; rotate_left; (focus (intro w' hS'; go_simp; (try with_reducible rfl); done)); try simp only [Act.put, List.setIfInBounds_toArray, List.set_cons_zero, List.set_cons_succ]) | (refine lew_read4 (v := ?_) (by rfl) (by rfl) ?_ ?_; rotate_left; (focus (intro w' hS'; go_simp; (try with_reducible rfl); done)); try simp only [Act.put, List.setIfInBounds_toArray, List.set_cons_zero, List.set_cons_succ])))
  rw [E1.out]
  (repeat (first | (refine lew_skip (by rfl) (by rfl) ?_; try simp only [Act.put, List.setIfInBounds_toArray, List.set_cons_zero, List.set_cons_succ]) | (refine lew_read0 (v := ?_) (by rfl) (by rfl) ?_ ?_; rotate_left; (focus (intro w' hS'; go_simp; (try with_reducible rfl); done)); try simp only [Act.put, List.setIfInBounds_toArray, List.set_cons_zero, List.set_cons_succ]) | (refine lew_read1 (v := ?_) (by rfl) (by rfl) ?_ ?_; rotate_left; (focus (intro w' hS'; go_simp; (try with_reducible rfl); done)); try simp only [Act.put, List.setIfInBounds_toArray, List.set_cons_zero, List.set_cons_succ]) | (refine lew_read2 (v := ?_) (by rfl) (by rfl) ?_ ?_; rotate_left; (focus (intro w' hS'; go_simp; (try with_reducible rfl); done)); try simp only [Act.put, List.setIfInBounds_toArray, List.set_cons_zero, List.set_cons_succ]) | (refine lew_read3 (v := ?_) (by rfl) (by rfl) ?_ ?_; rotate_left; (focus (intro w' hS'; go_simp; (try with_reducible rfl); done)); try simp only [Act.put, List.setIfInBounds_toArray, List.set_cons_zero, List.set_cons_succ]) | (refine lew_read4 (v := ?_) (by rfl) (by rfl) ?_ ?_; rotate_left; (focus (intro w' hS'; go_simp; (try with_reducible rfl); done)); try simp only [Act.put, List.setIfInBounds_toArray, List.set_cons_zero, List.set_cons_succ])))
  rw [E2.out]
  (repeat (first | (refine lew_skip (by rfl) (by rfl) ?_; try simp only [Act.put, List.setIfInBounds_toArray, List.set_cons_zero, List.set_cons_succ]) | (refine lew_read0 (v := ?_) (by rfl) (by rfl) ?_ ?_; rotate_left; (focus (intro w' hS'; go_simp; (try with_reducible rfl); done)); try simp only [Act.put, List.setIfInBounds_toArray, List.set_cons_zero, List.set_cons_succ]) | (refine lew_read1 (v := ?_) (by rfl) (by rfl) ?_ ?_; rotate_left; (focus (intro w' hS'; go_simp; (try with_reducible rfl); done)); try simp only [Act.put, List.setIfInBounds_toArray, List.set_cons_zero, List.set_cons_succ]) | (refine lew_read2 (v := ?_) (by rfl) (by rfl) ?_ ?_; rotate_left; (focus (intro w' hS'; go_simp; (try with_reducible rfl); done)); try simp only [Act.put, List.setIfInBounds_toArray, List.set_cons_zero, List.set_cons_succ]) | (refine lew_read3 (v := ?_) (by rfl) (by rfl) ?_ ?_; rotate_left; (focus (intro w' hS'; go_simp; (try with_reducible rfl); done)); try simp only [Act.put, List.setIfInBounds_toArray, List.set_cons_zero, List.set_cons_succ]) | (refine lew_read4 (v := ?_) (by rfl) (by rfl) ?_ ?_; rotate_left; (focus (intro w' hS'; go_simp; (try with_reducible rfl); done)); try simp only [Act.put, List.setIfInBounds_toArray, List.set_cons_zero, List.set_cons_succ])))
  refine lew_chain1 rfl (by rfl) (fun K hK => ?_)
  go_wp2_with fail
  refine hK.out _ _ trivial ?_
  clear hK
  (repeat (first | (refine lew_skip (by rfl) (by rfl) ?_; try simp only [Act.put, List.setIfInBounds_toArray, List.set_cons_zero, List.set_cons_succ]) | (refine lew_read0 (v := ?_) (by rfl) (by rfl) ?_ ?_; rotate_left; (focus (intro w' hS'; go_simp; (try with_reducible rfl); done)); try simp only [Act.put, List.setIfInBounds_toArray, List.set_cons_zero, List.set_cons_succ]) | (refine lew_read1 (v := ?_) (by rfl) (by rfl) ?_ ?_; rotate_left; (focus (intro w' hS'; go_simp; (try with_reducible rfl); done)); try simp only [Act.put, List.setIfInBounds_toArray, List.set_cons_zero, List.set_cons_succ]) | (refine lew_read2 (v := ?_) (by rfl) (by rfl) ?_ ?_; rotate_left; (focus (intro w' hS'; go_simp; (try with_reducible rfl); done)); try simp only [Act.put, List.setIfInBounds_toArray, List.set_cons_zero, List.set_cons_succ]) | (refine lew_read3 (v := ?_) (by rfl) (by rfl) ?_ ?_; rotate_left; (focus (intro w' hS'; go_simp; (try with_reducible rfl); done)); try simp only [Act.put, List.setIfInBounds_toArray, List.set_cons_zero, List.set_cons_succ]) | (refine lew_read4 (v := ?_) (by rfl) (by rfl) ?_ ?_; rotate_left; (focus (intro w' hS'; go_simp; (try with_reducible rfl); done)); try simp only [Act.put, List.setIfInBounds_toArray, List.set_cons_zero, List.set_cons_succ])))
  refine lew_chain2 rfl (by rfl) (fun K hK => ?_)
  go_wp2_with fail
  refine hK.out _ _ trivial (lew_nil ?_)
  clear hK
  obtain ⟨F5, hS5, back⟩ := RR.out.all bkS_ok
  have HBK := hide back
  have HL5 : Hid (LicAt _ (splitL (gat b i).l into q u) s.zs[i].A s.zs[i].c s.zs[i].B s.zs[i].d) := hide (by
    have h := licAt_of' hS5 (i := i) (by simpa [setG] using hi) (splitL (gat b i).l into q u) HSZ.out (by simp [setG, splitL, cutL]) (by simp [setG, splitL, cutL]) HVL.out.1 HVL.out.2.1 HVL.out.2.2.1 HVL.out.2.2.2.1
    have e : (setG s i hi { gat b i with l := cutL (gat b i).l q u }).zs[i]'(by simpa [setG] using hi) = { s.zs[i] with g := { gat b i with l := cutL (gat b i).l q u } } := by simp [setG]
    rw [e] at h
    exact h)
  have KA := hide (add_any (b := putG b i { gat b i with l := cutL (gat b i).l q u }) ⟨_, HZ1.out, hS5⟩ HL5.out (fun g hg => by
    rcases List.mem_or_eq_of_mem_set hg with hg | rfl
    · exact HNEW.out g hg
    · exact HNEW.out (gat b i) (gat_mem HI2.out)) (by have := HFULL.out; have := HZL.out; simp [putG]; omega))
  clear hS5 back
  unfold gptr licV splitL at KA
  go_wp2_with fail
  refine KA.out.mono ?_
  rintro e w9 ⟨rfl, hp⟩
  have HP := hide ((HBK.out _ _ hp).post bkO_ok)
  clear hp
  go_wp2
  go_ret
  exact ⟨rfl, HP.out⟩
end Go.Proofs.Ytapabbpdfplpoaa
namespace Go.Proofs.Ytapabbpdfplpoaa
open Go.RowKit Go.CH Go.CH.Lic
open Go.ChangeMaps (setBlock)

/-- A licence in a list that was handed out. -/
structure ZL where
  l : LicM
  A : Option Addr
  c : Nat
  B : Option Addr
  d : Nat
def lcl (z : ZL) : List Value := [.string z.l.id, .slice z.A z.l.ms.length z.c, .slice z.B z.l.ps.length z.d, .int .i64 z.l.q, .int .i64 z.l.u, .int .i64 z.l.f, .int .i64 z.l.t]
def low (z : ZL) : Own := star (RowO 9 1 (.slice z.A z.l.ms.length z.c) z.l.ms.length (strs z.l.ms)) (RowO 9 1 (.slice z.B z.l.ps.length z.d) z.l.ps.length (strs z.l.ps))
theorem low_ok (z : ZL) : (low z).Ok := star_ok row_ok row_ok
theorem lcl_len (z : ZL) : (lcl z).length = 7 := rfl
theorem lcl_one (z : ZL) : ∀ u ∈ lcl z, u.oneCell' = true := by
  intro u hu
  simp [lcl] at hu
  rcases hu with rfl | rfl | rfl | rfl | rfl | rfl | rfl <;> rfl
theorem licsOk : SliceOk Try.prog 73 56 (.agg #[.string ByteArray.empty, .slice none 0 0, .slice none 0 0, .int .i64 0, .int .i64 0, .int .i64 0, .int .i64 0]) 7 96 := ⟨Try.underlying73, by kernel_rfl, by decide, by decide⟩
theorem gcl_get (zs : List ZG) {k : Nat} (h : k < zs.length) : (zs.flatMap gcl)[k]? = some (gptr zs[k].p) := by
  have : ∀ l : List ZG, l.flatMap gcl = l.map fun z => gptr z.p := fun l => by induction l with
    | nil => rfl
    | cons a l ih => simp [gcl, ih]
  rw [this]; simp [h]
theorem BkR.ord {w : World} {p : Nat} {s : BkP} (h : BkR w p s) {k : Nat} (hk : k < s.zs.length) : ∃ g o, s.A = some ⟨g, o, none⟩ ∧ w.cell? ⟨g, o + k, none⟩ = some (gptr s.zs[k].p) := by
  have hs : Src w s.A s.zs.length 1 (s.zs.flatMap gcl) := Src.of_own h.row (fun u hu => by
    rw [List.mem_flatMap] at hu
    obtain ⟨z, _, hu⟩ := hu
    simp [gcl] at hu; subst hu; rfl)
  obtain ⟨g, o, e, hc⟩ := hs.open_ (by omega) (by omega)
  exact ⟨g, o, e, hc k _ (gcl_get s.zs hk)⟩
def ListRet (w : World) (ls : List LicM) (e : Ending) (w' : World) : Prop := ∃ A c zs, e = .returned (.slice A zs.length c) ∧ zs.map ZL.l = ls ∧ Post w (fun _ => False) (ARow lcl low 56 7 (.slice A zs.length c) zs) w'
theorem src_new7 (w : World) (xs : List Value) (e : TypeId) (h1 : ∀ u ∈ xs, u.oneCell' = true) : Src (w.alloc (.cells xs.toArray e)) (some ⟨w.heap.size, 0, none⟩) 1 xs.length xs := by
  refine ⟨by omega, h1, fun _ => ⟨_, rfl, fun j u hu => ?_⟩⟩
  obtain ⟨F', hC, -⟩ := cell_new w xs.toArray e
  rw [Addr.add_zero_]
  exact cell_at hC (by simpa using hu)
theorem list_nil (w : World) : Calls Try.prog 48 #[.pointer none] w (Quiet w (.slice none 0 0)) := by
  go_enter Try.func48, Try.ntmps48
  go_wp2
  go_ret
  exact ⟨rfl, rfl⟩
set_option maxRecDepth 100000 in
set_option maxHeartbeats 3200000 in
theorem list_any {w : World} {F : Nat → Prop} {b : BkM} {p : Nat} (h : BkO b p w F) (hI : Inv b) :
    Calls Try.prog 48 #[gptr p] w (ListRet w (b.gs.map (·.l))) := by
  obtain ⟨s, hz, hS⟩ := h
  have HS := hide (Run.start hS)
  have HL := hide (fun (W : World) (hb : Below w.heap.size w W) (k : Nat) (hk : k < s.zs.length) => by
    obtain ⟨G, hG⟩ := ((Run.start hS).below bkS_ok hb).get
    have hg := (hI.g s.zs[k].g (by rw [← hz.1]; exact List.mem_map_of_mem (List.getElem_mem hk))).1
    obtain ⟨n1, n2, n3, n4, n5⟩ := valid_lists hg
    exact licAt_of' hG hk s.zs[k].g.l (by have := name_size n5; unfold maxLen; omega) rfl rfl n1 n2 n3 n4)
  have HN := hide (show s.zs.length ≤ 100 by rw [zs_len hz]; exact hI.gn)
  have HG := hide hz.1
  have c0 := hS.read.c0
  clear hz hS hI
  unfold gptr
  go_enter Try.func48, Try.ntmps48
  go_wp2
  go_loopw [3, 5, 6, 14] (fun out _ _ i wr => ∃ (k : Nat) (zs : List ZL) (A : Option Addr) (c : Nat), k ≤ s.zs.length ∧ i = .int .i64 k ∧ out = .slice A k c ∧ zs.length = k ∧ zs.map ZL.l = (s.zs.take k).map (fun z => z.g.l) ∧ Run (fun _ => False) w (ARow lcl low 56 7 (.slice A k c) zs) wr) (fun _ _ _ i _ => s.zs.length - (intOf i).toNat)
  case atStart => exact ⟨0, [], none, 0, Nat.zero_le _, rfl, rfl, rfl, rfl, (Run.begin w).imp (fun w F h => by
    obtain rfl : F = fun _ => False := by funext i; exact propext ⟨fun hh => (h i hh).elim, fun hh => hh.elim⟩
    exact arow_nil w _ _)⟩
  case round =>
    obtain ⟨k, zs, A, c, hk, rfl, rfl, hlen, hmap, hR⟩ := hrel
    by_cases hlt : k < s.zs.length
    · have HMAP := hide hmap
      have HLEN := hide hlen
      have RS := HS.out.below bkS_ok hR.bel
      have BB := bk_read RS
      obtain ⟨g, o, hA, ho⟩ := BB.ord hlt
      have hA' : s.A = some ⟨g, o, none⟩ := hA
      have zm : s.zs[k] ∈ s.zs := List.getElem_mem hlt
      have y0 : wr.cell? ⟨s.zs[k].p, 0, none⟩ = some (.string s.zs[k].g.l.id) := BB.gr _ zm 0 _ rfl
      have y1 : wr.cell? ⟨s.zs[k].p, 1, none⟩ = some (.slice s.zs[k].A s.zs[k].g.l.ms.length s.zs[k].c) := BB.gr _ zm 1 _ rfl
      have y2 : wr.cell? ⟨s.zs[k].p, 2, none⟩ = some (.slice s.zs[k].B s.zs[k].g.l.ps.length s.zs[k].d) := BB.gr _ zm 2 _ rfl
      have y3 : wr.cell? ⟨s.zs[k].p, 3, none⟩ = some (.int .i64 s.zs[k].g.l.q) := BB.gr _ zm 3 _ rfl
      have y4 : wr.cell? ⟨s.zs[k].p, 4, none⟩ = some (.int .i64 s.zs[k].g.l.u) := BB.gr _ zm 4 _ rfl
      have y5 : wr.cell? ⟨s.zs[k].p, 5, none⟩ = some (.int .i64 s.zs[k].g.l.f) := BB.gr _ zm 5 _ rfl
      have y6 : wr.cell? ⟨s.zs[k].p, 6, none⟩ = some (.int .i64 s.zs[k].g.l.t) := BB.gr _ zm 6 _ rfl
      have HLK := hide (HL.out wr hR.bel k hlt)
      have HNX := hide (show (s.zs.take (k + 1)).map (fun z => z.g.l) = (s.zs.take k).map (fun z => z.g.l) ++ [s.zs[k].g.l] by rw [List.take_succ_eq_append_getElem hlt, List.map_append]; rfl)
      have hk100 := HN.out
      have hlp : s.zs[k].p < wr.heap.size := World.block_lt_of_cell? _ _ y0
      clear RS BB hmap hlen zm
      rw [hA]
      unfold gptr at ho
      generalize s.zs[k].p = gp at *
      generalize s.zs[k].A = zA at *
      generalize s.zs[k].c = zc at *
      generalize s.zs[k].B = zB at *
      generalize s.zs[k].d = zd at *
      generalize s.zs[k].g.l = l at *
      have R1 := hide (hR.fresh (arow_ok low_ok) (cell_new wr #[.string l.id, .slice zA l.ms.length zc, .slice zB l.ps.length zd, .int .i64 l.q, .int .i64 l.u, .int .i64 l.f, .int .i64 l.t] 56))
      have KM := hide (fun W (hb : Below wr.heap.size wr W) => cloneS_any (c := zc) (HLK.out.keep hb).h.ms HLK.out.h.mn HLK.out.mc)
      have KP := hide (fun W (hb : Below wr.heap.size wr W) => cloneS_any (c := zd) (HLK.out.keep hb).h.ps HLK.out.h.pn HLK.out.pc)
      have B1 := hide ((Below.refl wr.heap.size wr).alloc (Nat.le_refl _) (.cells #[.string l.id, .slice zA l.ms.length zc, .slice zB l.ps.length zd, .int .i64 l.q, .int .i64 l.u, .int .i64 l.f, .int .i64 l.t] 56))
      have BX := hide (((Run.begin wr).fresh emp_ok (cell_new wr #[.string l.id, .slice zA l.ms.length zc, .slice zB l.ps.length zd, .int .i64 l.q, .int .i64 l.u, .int .i64 l.f, .int .i64 l.t] 56)).imp fun _ _ h => star_emp h)
      obtain ⟨b0, b1, b2, b3, b4, b5, b6⟩ := box_reads BX.out
      have HA := hide hA
      clear hR hA HLK BX
      go_wp2_with fail
      have R2 := hide (R1.out.drew (star_ok cell_ok (arow_ok low_ok)))
      have B2 := hide (below_drew B1.out)
      clear R1 B1
      refine wp_region_lew [2, 5, 7, 9] [0, 0, 1, 1, 1, 2, 2, 3, 3, 4] (fun w' => w'.cell? ⟨wr.heap.size, 1, none⟩ = some (.slice zA l.ms.length zc) ∧ w'.cell? ⟨wr.heap.size, 2, none⟩ = some (.slice zB l.ps.length zd)) (fun w' => w'.cell? ⟨wr.heap.size, 2, none⟩ = some (.slice zB l.ps.length zd)) (fun _ => True) (fun _ => True) (fun _ h => h.2) (fun _ _ => trivial) (fun _ h => h) (by kernel_rfl) (by kernel_rfl) (by kernel_rfl) (by kernel_rfl) (by exact ⟨b1, b2⟩) ?_
      clear b0 b1 b2 b3 b4 b5 b6
      generalize (wr.alloc (.cells #[.string l.id, .slice zA l.ms.length zc, .slice zB l.ps.length zd, .int .i64 l.q, .int .i64 l.u, .int .i64 l.f, .int .i64 l.t] 56)).drew = w1 at *
      (repeat (first | (refine lew_skip (by rfl) (by rfl) ?_; try simp only [Act.put, List.setIfInBounds_toArray, List.set_cons_zero, List.set_cons_succ]) | (refine lew_read0 (v := ?_) (by rfl) (by rfl) ?_ ?_; rotate_left; (focus (intro w' hS'; go_simp; (try with_reducible rfl); done)); try simp only [Act.put, List.setIfInBounds_toArray, List.set_cons_zero, List.set_cons_succ]) | (refine lew_read1 (v := ?_) (by rfl) (by rfl) ?_ ?_; rotate_left; (focus (intro w' hS'; go_simp; (try with_reducible rfl); done)); try simp only [Act.put, List.setIfInBounds_toArray, List.set_cons_zero, List.set_cons_succ]) | (refine lew_read2 (v := ?_) (by rfl) (by rfl) ?_ ?_; rotate_left; (focus (intro w' hS'; go_simp; (try with_reducible rfl); done)); try simp only [Act.put, List.setIfInBounds_toArray, List.set_cons_zero, List.set_cons_succ]) | (refine lew_read3 (v := ?_) (by rfl) (by rfl) ?_ ?_; rotate_left; (focus (intro w' hS'; go_simp; (try with_reducible rfl); done)); try simp only [Act.put, List.setIfInBounds_toArray, List.set_cons_zero, List.set_cons_succ]) | (refine lew_read4 (v := ?_) (by rfl) (by rfl) ?_ ?_; rotate_left; (focus (intro w' hS'; go_simp; (try with_reducible rfl); done)); try simp only [Act.put, List.setIfInBounds_toArray, List.set_cons_zero, List.set_cons_succ])))
      refine lew_chain1 rfl (by rfl) (fun K hK => ?_)
      go_wp2_with fail
      refine (KM.out _ B2.out).mono ?_
      rintro e w2 ⟨A', c', rfl, hp2⟩
      have R3 := hide (R2.out.fresh (star_ok cell_ok (arow_ok low_ok)) hp2)
      have B3 := hide (B2.out.trans (((Run.begin w1).fresh emp_ok hp2).bel.mono (by have := B2.out.size; omega)))
      clear hp2 R2
      obtain ⟨F3, hC3⟩ := R3.out.rot.fst
      refine hK.out _ _ (cell_at hC3 rfl) ?_
      clear hK hC3
      (repeat (first | (refine lew_skip (by rfl) (by rfl) ?_; try simp only [Act.put, List.setIfInBounds_toArray, List.set_cons_zero, List.set_cons_succ]) | (refine lew_read0 (v := ?_) (by rfl) (by rfl) ?_ ?_; rotate_left; (focus (intro w' hS'; go_simp; (try with_reducible rfl); done)); try simp only [Act.put, List.setIfInBounds_toArray, List.set_cons_zero, List.set_cons_succ]) | (refine lew_read1 (v := ?_) (by rfl) (by rfl) ?_ ?_; rotate_left; (focus (intro w' hS'; go_simp; (try with_reducible rfl); done)); try simp only [Act.put, List.setIfInBounds_toArray, List.set_cons_zero, List.set_cons_succ]) | (refine lew_read2 (v := ?_) (by rfl) (by rfl) ?_ ?_; rotate_left; (focus (intro w' hS'; go_simp; (try with_reducible rfl); done)); try simp only [Act.put, List.setIfInBounds_toArray, List.set_cons_zero, List.set_cons_succ]) | (refine lew_read3 (v := ?_) (by rfl) (by rfl) ?_ ?_; rotate_left; (focus (intro w' hS'; go_simp; (try with_reducible rfl); done)); try simp only [Act.put, List.setIfInBounds_toArray, List.set_cons_zero, List.set_cons_succ]) | (refine lew_read4 (v := ?_) (by rfl) (by rfl) ?_ ?_; rotate_left; (focus (intro w' hS'; go_simp; (try with_reducible rfl); done)); try simp only [Act.put, List.setIfInBounds_toArray, List.set_cons_zero, List.set_cons_succ])))
      refine lew_chain2 rfl (by rfl) (fun K hK => ?_)
      go_wp2_with fail
      refine (KP.out _ B3.out).mono ?_
      rintro e w3 ⟨B', d', rfl, hp3⟩
      have R4 := hide (R3.out.fresh (star_ok row_ok (star_ok cell_ok (arow_ok low_ok))) hp3)
      clear hp3 R3 KM KP B2 B3
      refine hK.out _ _ trivial ?_
      clear hK
      obtain ⟨F4, hC4, -, bk4⟩ := R4.out.rot3.take cell_ok (star_ok row_ok (star_ok row_ok (arow_ok low_ok)))
      have q1 := cell_at hC4 (i := 1) rfl
      have q2 := cell_at hC4 (i := 2) rfl
      have f1 := cell_free hC4 1
      have f2 := cell_free hC4 2
      have R5 := hide (bk4 _ _ (cell_set2 hC4 1 2 (.slice A' l.ms.length c') (.slice B' l.ps.length d')))
      clear hC4 bk4 R4
      (repeat (first | (refine lew_skip (by rfl) (by rfl) ?_; try simp only [Act.put, List.setIfInBounds_toArray, List.set_cons_zero, List.set_cons_succ]) | (refine lew_read0 (v := ?_) (by rfl) (by rfl) ?_ ?_; rotate_left; (focus (intro w' hS'; go_simp; (try with_reducible rfl); done)); try simp only [Act.put, List.setIfInBounds_toArray, List.set_cons_zero, List.set_cons_succ]) | (refine lew_read1 (v := ?_) (by rfl) (by rfl) ?_ ?_; rotate_left; (focus (intro w' hS'; go_simp; (try with_reducible rfl); done)); try simp only [Act.put, List.setIfInBounds_toArray, List.set_cons_zero, List.set_cons_succ]) | (refine lew_read2 (v := ?_) (by rfl) (by rfl) ?_ ?_; rotate_left; (focus (intro w' hS'; go_simp; (try with_reducible rfl); done)); try simp only [Act.put, List.setIfInBounds_toArray, List.set_cons_zero, List.set_cons_succ]) | (refine lew_read3 (v := ?_) (by rfl) (by rfl) ?_ ?_; rotate_left; (focus (intro w' hS'; go_simp; (try with_reducible rfl); done)); try simp only [Act.put, List.setIfInBounds_toArray, List.set_cons_zero, List.set_cons_succ]) | (refine lew_read4 (v := ?_) (by rfl) (by rfl) ?_ ?_; rotate_left; (focus (intro w' hS'; go_simp; (try with_reducible rfl); done)); try simp only [Act.put, List.setIfInBounds_toArray, List.set_cons_zero, List.set_cons_succ])))
      refine lew_chain3 rfl (by rfl) (fun K hK => ?_)
      go_wp2_with fail
      refine hK.out _ _ trivial ?_
      clear hK
      (repeat (first | (refine lew_skip (by rfl) (by rfl) ?_; try simp only [Act.put, List.setIfInBounds_toArray, List.set_cons_zero, List.set_cons_succ]) | (refine lew_read0 (v := ?_) (by rfl) (by rfl) ?_ ?_; rotate_left; (focus (intro w' hS'; go_simp; (try with_reducible rfl); done)); try simp only [Act.put, List.setIfInBounds_toArray, List.set_cons_zero, List.set_cons_succ]) | (refine lew_read1 (v := ?_) (by rfl) (by rfl) ?_ ?_; rotate_left; (focus (intro w' hS'; go_simp; (try with_reducible rfl); done)); try simp only [Act.put, List.setIfInBounds_toArray, List.set_cons_zero, List.set_cons_succ]) | (refine lew_read2 (v := ?_) (by rfl) (by rfl) ?_ ?_; rotate_left; (focus (intro w' hS'; go_simp; (try with_reducible rfl); done)); try simp only [Act.put, List.setIfInBounds_toArray, List.set_cons_zero, List.set_cons_succ]) | (refine lew_read3 (v := ?_) (by rfl) (by rfl) ?_ ?_; rotate_left; (focus (intro w' hS'; go_simp; (try with_reducible rfl); done)); try simp only [Act.put, List.setIfInBounds_toArray, List.set_cons_zero, List.set_cons_succ]) | (refine lew_read4 (v := ?_) (by rfl) (by rfl) ?_ ?_; rotate_left; (focus (intro w' hS'; go_simp; (try with_reducible rfl); done)); try simp only [Act.put, List.setIfInBounds_toArray, List.set_cons_zero, List.set_cons_succ])))
      refine lew_chain4 rfl (by rfl) (fun K hK => ?_)
      go_wp2_with fail
      refine hK.out _ _ trivial (lew_nil ?_)
      clear hK q1 q2 f1 f2
      generalize (w3.setCell ⟨wr.heap.size, 1, none⟩ (.slice A' l.ms.length c')).setCell ⟨wr.heap.size, 2, none⟩ (.slice B' l.ps.length d') = w5 at *
      have R5' := hide (show Run (fun _ => False) w (star (CellO wr.heap.size #[.string l.id, .slice A' l.ms.length c', .slice B' l.ps.length d', .int .i64 l.q, .int .i64 l.u, .int .i64 l.f, .int .i64 l.t] 56) _) w5 from R5.out)
      clear R5
      obtain ⟨F5, hC5⟩ := R5'.out.fst
      have x0 := cell_at hC5 (i := 0) rfl
      have x1 := cell_at hC5 (i := 1) rfl
      have x2 := cell_at hC5 (i := 2) rfl
      have x3 := cell_at hC5 (i := 3) rfl
      have x4 := cell_at hC5 (i := 4) rfl
      have x5 := cell_at hC5 (i := 5) rfl
      have x6 := cell_at hC5 (i := 6) rfl
      clear hC5
      have R6 := hide (R5'.out.drop.below (star_ok row_ok (star_ok row_ok (arow_ok low_ok))) ((Below.refl w5.heap.size w5).alloc (Nat.le_refl _) (.cells (lcl ⟨l, A', c', B', d'⟩).toArray 56)))
      have HSRC := hide (src_new7 w5 (lcl ⟨l, A', c', B', d'⟩) 56 (lcl_one _))
      clear R5'
      have RQ := hide (R6.out.perm (show _ = star (RowO 56 7 (.slice A k c) k (zs.flatMap lcl)) (star (low ⟨l, A', c', B', d'⟩) (bigStar (zs.map low))) by
        unfold low ARow; rw [HLEN.out]; ac_rfl))
      clear R6
      have OKB := hide (show (star (low ⟨l, A', c', B', d'⟩) (bigStar (zs.map low))).Ok from star_ok (low_ok _) (big_ok (fun A hA => by obtain ⟨z, _, rfl⟩ := List.mem_map.1 hA; exact low_ok z)))
      go_wp2_with (at_builtin; refine held ?_)
      obtain ⟨F7, hR7, -, bk7⟩ := RQ.out.take row_ok OKB.out
      refine Held.mk (wpList_app rfl (.tmp 30) (.tmp 32) rfl licsOk _ 0 (v := .slice A k c) (n := k) (xs := zs.flatMap lcl) rfl hR7.1 (A := some ⟨w5.heap.size, 0, none⟩) (m := 1) (c := 1) (news := lcl ⟨l, A', c', B', d'⟩) rfl HSRC.out (by omega) (by omega) (Nat.zero_le _) ?_)
      intro v8 w8 ho8 hg8 hv8
      have S8 := bk7 _ _ (row_app hR7 ho8 hg8 hv8)
      obtain ⟨A8, c8, rfl⟩ := own_form ho8
      have S9 := hide (S8.imp fun w F h => arow_snoc (cl := lcl) (ow := low) (e := 56) (size := 7) (v := .slice A8 (k + 1) c8) (zs := zs) (z := ⟨l, A', c', B', d'⟩) (by rw [HLEN.out]; exact h))
      clear ho8 hg8 hv8 bk7 hR7 HSRC RQ S8 x0 x1 x2 x3 x4 x5 x6 OKB
      go_wp2
      go_roundw
      case rel => exact ⟨k + 1, zs ++ [⟨l, A', c', B', d'⟩], A8, c8, by omega, by go_num, rfl, by simp [HLEN.out], by rw [HNX.out, List.map_append, HMAP.out]; rfl, S9.out⟩
      case measure => simp [intOf]; omega
    · obtain rfl : k = s.zs.length := by omega
      have HMAP := hide hmap
      have HP := hide (hR.post (arow_ok low_ok))
      have HLEN := hide hlen
      clear hmap hR hlen
      go_wp2
      go_ret
      refine ⟨A, c, zs, ?_, ?_, ?_⟩
      · rw [HLEN.out]; rfl
      · rw [HMAP.out, List.take_length, ← HG.out, List.map_map]; rfl
      · rw [HLEN.out]; exact HP.out
end Go.Proofs.Ytapabbpdfplpoaa
