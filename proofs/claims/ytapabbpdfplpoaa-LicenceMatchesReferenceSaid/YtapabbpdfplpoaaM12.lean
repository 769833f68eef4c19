/-
  The reference of Licence: Split.
  The reference of Licence: Reserve.
  Licence: do.
  The reference of Licence: the state of a walk; Do.
  The reference of Licence: Texts, Same (on equal licences).
-/
import Derived.Test.YtapabbpdfplpoaaM11
import Derived.Test.YtapabbpdfplpoaaM9
set_option linter.unusedSimpArgs false
set_option linter.unusedVariables false
namespace Go.Proofs.Ytapabbpdfplpoaa
open Go.RowKit Go.CH Go.CH.Lic Go.CH.Esc
open Go.ChangeMaps (setBlock)

section
variable {w w0 : World} {F : Nat → Prop} {b : BkM} {p : Nat}
set_option maxRecDepth 100000 in
set_option maxHeartbeats 6400000 in
theorem rsplit_any (h : RfO w0 b p w F) (hI : Inv2 b) (hb0 : Below w0.heap.size w0 w) (id into : ByteArray) (hsz : into.size ≤ maxLen) (q u : Int) :
    Calls Try.prog 87 #[gptr p, .string id, .string into, .int .i64 q, .int .i64 u] w (RfPost w0 w F (.int .i64 (splitR b id into q u).1) (splitR b id into q u).2 p) := by
  have H := hide h
  obtain ⟨s, hz, hS⟩ := h
  have KF := hide (rfind_any hS.read hz hI.inv.gn id)
  have KG := hide (rfind_any hS.read hz hI.inv.gn into)
  have KN := hide (ident_any into w hsz)
  have hR := hS.read
  have c0 := hR.c0
  have hplt : p < w.heap.size := World.block_lt_of_cell? _ _ c0
  have hn100 := hI.inv.gn
  cases hf : findG b id with
  | none =>
    have e : splitR b id into q u = (11, b) := by unfold splitR; rw [hf]
    rw [e]
    rw [hf] at KF
    simp only [fz] at KF
    clear hz hS hR hI hf e c0
    unfold gptr at *
    go_enter Try.func87, Try.ntmps87
    go_wp2_with fail
    refine KF.out.mono ?_
    rintro e w' ⟨rfl, rfl⟩
    go_wp2
    go_ret
    exact RfPost.quiet H.out _
  | some i =>
  have hi := (findG_some hf).1
  rw [hf] at KF
  simp only [fz] at KF
  have c1 := hR.c1
  obtain ⟨gE, hE, he, -⟩ := hR.e i hi
  rw [hE] at c1
  have hge := (hI.inv.g _ (gat_mem hi)).2.2.2.2.2.1
  by_cases h0 : 0 ≤ (gat b i).e
  · have e : splitR b id into q u = (12, b) := by unfold splitR; rw [hf]; simp [h0]
    rw [e]
    have t1 : ((gat b i).e != -1) = true := by simp; omega
    generalize (gat b i).e = ze at *
    generalize b.gs.length = n at *
    clear hz hS hI hf e hR hE hge h0
    unfold gptr at *
    go_enter Try.func87, Try.ntmps87
    go_wp2_with fail
    refine KF.out.mono ?_
    rintro e w' ⟨rfl, rfl⟩
    go_wp2
    go_ret
    exact RfPost.quiet H.out _
  have e2 : (gat b i).e = -1 := by omega
  rw [e2] at he
  clear hge e2
  cases hnm : isName into with
  | false =>
    have e : splitR b id into q u = (1, b) := by unfold splitR; rw [hf]; simp [h0, hnm]
    rw [e]
    rw [hnm] at KN
    clear hz hS hI hf e hR hE h0 hnm
    unfold gptr at *
    go_enter Try.func87, Try.ntmps87
    go_wp2_with fail
    refine KF.out.mono ?_
    rintro e w' ⟨rfl, rfl⟩
    go_wp2_with fail
    refine KN.out.mono ?_
    rintro e w' ⟨rfl, rfl⟩
    go_wp2
    go_ret
    exact RfPost.quiet H.out _
  | true =>
  rw [hnm] at KN
  by_cases hq : q < 0
  · have e : splitR b id into q u = (1, b) := by unfold splitR; rw [hf]; simp [h0, hnm, hq]
    rw [e]
    have t1 : decide (q < 0) = true := decide_eq_true hq
    clear hz hS hI hf e hR hE h0 hnm hq
    unfold gptr at *
    go_enter Try.func87, Try.ntmps87
    go_wp2_with fail
    refine KF.out.mono ?_
    rintro e w' ⟨rfl, rfl⟩
    go_wp2_with fail
    refine KN.out.mono ?_
    rintro e w' ⟨rfl, rfl⟩
    go_wp2
    go_ret
    exact RfPost.quiet H.out _
  have t1 : decide (q < 0) = false := decide_eq_false hq
  by_cases hu : u < 0
  · have e : splitR b id into q u = (1, b) := by unfold splitR; rw [hf]; simp [h0, hnm, hu]
    rw [e]
    have t2 : decide (u < 0) = true := decide_eq_true hu
    clear hz hS hI hf e hR hE h0 hnm hq hu
    unfold gptr at *
    go_enter Try.func87, Try.ntmps87
    go_wp2_with fail
    refine KF.out.mono ?_
    rintro e w' ⟨rfl, rfl⟩
    go_wp2_with fail
    refine KN.out.mono ?_
    rintro e w' ⟨rfl, rfl⟩
    go_wp2
    go_ret
    exact RfPost.quiet H.out _
  have t2 : decide (u < 0) = false := decide_eq_false hu
  cases hg : findG b into with
  | some j =>
    have e : splitR b id into q u = (9, b) := by unfold splitR; rw [hf]; simp [h0, hnm, hq, hu, hg]
    rw [e]
    rw [hg] at KG
    simp only [fz] at KG
    clear hz hS hI hf e hR hE h0 hnm hg hq hu
    unfold gptr at *
    go_enter Try.func87, Try.ntmps87
    go_wp2_with fail
    refine KF.out.mono ?_
    rintro e w' ⟨rfl, rfl⟩
    go_wp2_with fail
    refine KN.out.mono ?_
    rintro e w' ⟨rfl, rfl⟩
    go_wp2_with fail
    refine KG.out.mono ?_
    rintro e w' ⟨rfl, rfl⟩
    go_wp2
    go_ret
    exact RfPost.quiet H.out _
  | none =>
  rw [hg] at KG
  simp only [fz] at KG
  by_cases hn : 100 ≤ b.gs.length
  · have e : splitR b id into q u = (28, b) := by unfold splitR; rw [hf]; simp [h0, hnm, hq, hu, hg, hn]
    rw [e]
    obtain ⟨n, hbn⟩ : ∃ n, n = b.gs.length := ⟨_, rfl⟩
    rw [← hbn] at c0 c1 hn hn100 hi
    obtain rfl : n = 100 := by omega
    clear hz hS hI hf e hR hE h0 hnm hg hq hu hn hn100 hbn
    unfold gptr at *
    go_enter Try.func87, Try.ntmps87
    go_wp2_with fail
    refine KF.out.mono ?_
    rintro e w' ⟨rfl, rfl⟩
    go_wp2_with fail
    refine KN.out.mono ?_
    rintro e w' ⟨rfl, rfl⟩
    go_wp2_with fail
    refine KG.out.mono ?_
    rintro e w' ⟨rfl, rfl⟩
    go_wp2
    go_ret
    exact RfPost.quiet H.out _
  have hlt : b.gs.length < 100 := by omega
  clear hn
  obtain ⟨z, hzz⟩ : ∃ z, z = (s.zs[i]'(by rw [rfz_len hz]; exact hi)) := ⟨_, rfl⟩
  have hzl : z.l = (gat b i).l := by rw [hzz]; exact rfz_at hz hi
  have hzin : LicIn w0 z.l z.A z.B := hz.2 z (by rw [hzz]; exact List.getElem_mem _)
  rcases z with ⟨⟨zi, zms, zps, zq, zu, zf, zt⟩, zA, zc, zB, zd⟩
  have hzl : (⟨zi, zms, zps, zq, zu, zf, zt⟩ : LicM) = (gat b i).l := hzl
  obtain ⟨g, hA, -⟩ := hR.lic i (by rw [rfz_len hz]; exact hi) (rfz_len hz)
  have hgp := (rfS_ne hS).1 g hA
  have hrow := hide (fun (W : World) G (hG : RfS b p s W G) => hG.read.row hz hi hzz.symm hA)
  have hglt : g < w.heap.size := World.block_lt_of_cell? _ _ (hrow.out _ _ hS).2.1
  have KL := hide (rleft_any hS hz hI.r hi)
  rw [show (gat b i).l.q = zq by rw [← hzl], show (gat b i).l.u = zu by rw [← hzl]] at KL
  have hbz := hI.inv.g _ (gat_mem hi)
  rw [show (gat b i).l.q = zq by rw [← hzl], show (gat b i).l.u = zu by rw [← hzl]] at hbz
  have hqz : 0 ≤ zq ∧ zq ≤ 1000000000 ∧ 0 ≤ zu ∧ zu ≤ 1000 := by have := valid_num hbz.1; rw [← hzl] at this; exact ⟨this.1, this.2.1, this.2.2.1, this.2.2.2.1⟩
  obtain ⟨hq1, hq2, hu1, hu2⟩ := hqz
  have hb1 := hbz.2.1
  have hb2 := hbz.2.2.1
  have hb3 := hbz.2.2.2.1
  have hb4 := hbz.2.2.2.2.1
  have HS := hide hS
  clear hbz
  by_cases hx : (gat b i).l.q - (gat b i).su < q
  · have e : splitR b id into q u = (19, b) := by unfold splitR; rw [hf]; simp [h0, hnm, hq, hu, hg, hx]; omega
    rw [show (gat b i).l.q = zq by rw [← hzl]] at hx
    rw [e]
    generalize (gat b i).su = su at *
    generalize (gat b i).sn = sn at *
    have d1 : decide (q > zq - su) = true := decide_eq_true hx
    clear hx
    clear hz hS hI hf e hR hE h0 hnm hg hq hu hzz hzl hzin hA
    unfold gptr at *
    go_enter Try.func87, Try.ntmps87
    go_wp2_with fail
    refine KF.out.mono ?_
    rintro e w' ⟨rfl, rfl⟩
    go_wp2_with fail
    refine KN.out.mono ?_
    rintro e w' ⟨rfl, rfl⟩
    go_wp2_with fail
    refine KG.out.mono ?_
    rintro e w' ⟨rfl, rfl⟩
    go_wp2_with fail
    refine KL.out.mono ?_
    rintro e w2 ⟨rfl, hb⟩
    have HB := hide (hb.trans ((Below.refl w2.heap.size w2).alloc (Nat.le_refl _) (.cells #[.int .i64 (zq - su), .int .i64 (zu - sn)] 66) |>.mono hb.size))
    clear hb
    go_wp2
    go_ret
    exact RfPost.below H.out _ HB.out
  by_cases hy : (gat b i).l.u - (gat b i).sn < u
  · have e : splitR b id into q u = (19, b) := by unfold splitR; rw [hf]; simp [h0, hnm, hq, hu, hg, hx, hy]; omega
    rw [show (gat b i).l.q = zq by rw [← hzl]] at hx
    rw [show (gat b i).l.u = zu by rw [← hzl]] at hy
    rw [e]
    generalize (gat b i).su = su at *
    generalize (gat b i).sn = sn at *
    have d1 : decide (q > zq - su) = false := decide_eq_false hx
    have d2 : decide (u > zu - sn) = true := decide_eq_true hy
    clear hx hy
    clear hz hS hI hf e hR hE h0 hnm hg hq hu hzz hzl hzin hA
    unfold gptr at *
    go_enter Try.func87, Try.ntmps87
    go_wp2_with fail
    refine KF.out.mono ?_
    rintro e w' ⟨rfl, rfl⟩
    go_wp2_with fail
    refine KN.out.mono ?_
    rintro e w' ⟨rfl, rfl⟩
    go_wp2_with fail
    refine KG.out.mono ?_
    rintro e w' ⟨rfl, rfl⟩
    go_wp2_with fail
    refine KL.out.mono ?_
    rintro e w2 ⟨rfl, hb⟩
    have HB := hide (hb.trans ((Below.refl w2.heap.size w2).alloc (Nat.le_refl _) (.cells #[.int .i64 (zq - su), .int .i64 (zu - sn)] 66) |>.mono hb.size))
    clear hb
    go_wp2
    go_ret
    exact RfPost.below H.out _ HB.out
  have e : splitR b id into q u = (0, addM (putG b i { gat b i with l := { (gat b i).l with q := (gat b i).l.q - q, u := (gat b i).l.u - u } }) (splitL (gat b i).l into q u)) := by
    unfold splitR; rw [hf]
    simp [h0, hnm, hq, hu, hg, hx, hy]
    omega
  rw [← hzl] at e
  rw [e]
  show Calls _ _ _ _ (RfPost w0 w F (.int .i64 0) (addM (putG b i { gat b i with l := (⟨zi, zms, zps, zq - q, zu - u, zf, zt⟩ : LicM) }) (⟨into, zms, zps, q, u, zf, zt⟩ : LicM)) p)
  rw [show (gat b i).l.q = zq by rw [← hzl]] at hx
  rw [show (gat b i).l.u = zu by rw [← hzl]] at hy
  have hst : ∀ (F0 : Nat → Prop) (w1 W : World) (hr : Run F0 w1 (RfS b p s) W), Run F0 w1 (RfS (putG b i { gat b i with l := (⟨zi, zms, zps, zq - q, zu - u, zf, zt⟩ : LicM) }) p ({ s with zs := s.zs.set i (⟨⟨zi, zms, zps, zq - q, zu - u, zf, zt⟩, zA, zc, zB, zd⟩ : ZL) } : RfP)) ((W.setCell ⟨g, i * 7 + 3, none⟩ (.int .i64 (zq - q))).setCell ⟨g, i * 7 + 4, none⟩ (.int .i64 (zu - u))) := by
    intro F0 w1 W hr
    exact rf_setL hr hz hi hA [(3, .int .i64 (zq - q)), (4, .int .i64 (zu - u))] (by simp) (⟨⟨zi, zms, zps, zq - q, zu - u, zf, zt⟩, zA, zc, zB, zd⟩ : ZL) (by rw [← hzl]) (by rw [← hzz]; rfl)
  have HST := hide hst
  have HA := hide (fun W G (hG : RfO w0 (putG b i { gat b i with l := (⟨zi, zms, zps, zq - q, zu - u, zf, zt⟩ : LicM) }) p W G) => radd_any hG (fun k hk => by rw [putG_len]; exact (hI.inv.k k hk).1) (by rw [putG_len]; exact hlt) (l := (⟨into, zms, zps, q, u, zf, zt⟩ : LicM)) (A := zA) (B := zB) ⟨hsz, hzin.ms, hzin.ps, hzin.mz, hzin.pz, hzin.mn, hzin.pn⟩ zc zd)
  have HZ1 := hide (show RfZ w0 (putG b i { gat b i with l := (⟨zi, zms, zps, zq - q, zu - u, zf, zt⟩ : LicM) }) ({ s with zs := s.zs.set i (⟨⟨zi, zms, zps, zq - q, zu - u, zf, zt⟩, zA, zc, zB, zd⟩ : ZL) } : RfP) from rfz_setL hz hi rfl ⟨hzin.id, hzin.ms, hzin.ps, hzin.mz, hzin.pz, hzin.mn, hzin.pn⟩)
  generalize (gat b i).su = su at *
  generalize (gat b i).sn = sn at *
  have d1 : decide (q > zq - su) = false := decide_eq_false hx
  have d2 : decide (u > zu - sn) = false := decide_eq_false hy
  have hq0 : 0 ≤ q := by omega
  have hu0 : 0 ≤ u := by omega
  have hqq : q ≤ zq := by omega
  have huu : u ≤ zu := by omega
  clear hz hS hI hf e hR hE h0 hnm hg hq hu hzz hzl hzin hA hst hx hy
  unfold licV at HA
  unfold gptr at *
  go_enter Try.func87, Try.ntmps87
  go_wp2_with fail
  refine KF.out.mono ?_
  rintro e w' ⟨rfl, rfl⟩
  go_wp2_with fail
  refine KN.out.mono ?_
  rintro e w' ⟨rfl, rfl⟩
  go_wp2_with fail
  refine KG.out.mono ?_
  rintro e w' ⟨rfl, rfl⟩
  go_wp2_with fail
  refine KL.out.mono ?_
  rintro e w2 ⟨rfl, hb⟩
  have HB := hide (hb.trans ((Below.refl w2.heap.size w2).alloc (Nat.le_refl _) (.cells #[.int .i64 (zq - su), .int .i64 (zu - sn)] 66) |>.mono hb.size))

  have R4 := hide (HST.out _ _ _ ((Run.start HS.out).below rfS_ok hb))
  obtain ⟨G2, hG2⟩ := ((Run.start HS.out).below rfS_ok hb).get
  obtain ⟨r0, r1, r2, r3, r4, r5, r6, r7, rf⟩ := hrow.out _ _ hG2
  have hp2 : p < w2.heap.size := by have := hb.size; omega
  have hg2 : g < w2.heap.size := by have := hb.size; omega
  clear hb HB hG2 c0 c1 he
  go_wp2_with fail
  have R5 := (((R4.out.below rfS_ok ((Below.refl _ _).alloc (Nat.le_refl _) (.cells #[.int .i64 (zq - su), .int .i64 (zu - sn)] 66))).below rfS_ok ((Below.refl _ _).alloc (Nat.le_refl _) (.cells #[.string into, .slice zA zms.length zc, .slice zB zps.length zd, .int .i64 q, .int .i64 u, .int .i64 zf, .int .i64 zt] 56))).imp (fun w F h => (⟨_, HZ1.out, h⟩ : RfO w0 (putG b i { gat b i with l := (⟨zi, zms, zps, zq - q, zu - u, zf, zt⟩ : LicM) }) p w F)))
  obtain ⟨G, hG, bk⟩ := R5.all rfO_ok
  refine (HA.out _ G hG).mono ?_
  rintro e w9 ⟨rfl, hp⟩
  have HP := hide ((bk _ _ hp).post rfO_ok)
  clear hp bk hG R5 R4 hp2 hg2 r0 r1 r2 r3 r4 r5 r6 r7 rf
  go_wp2
  go_ret
  exact ⟨rfl, HP.out⟩
end
end Go.Proofs.Ytapabbpdfplpoaa
namespace Go.Proofs.Ytapabbpdfplpoaa
open Go.RowKit Go.CH Go.CH.Lic Go.CH.Esc
open Go.ChangeMaps (setBlock)

theorem rkeysOk : SliceOk Try.prog 75 163 (.agg #[.string ByteArray.empty, .string ByteArray.empty, .int .i64 0, .int .i64 0]) 4 48 := ⟨Try.underlying75, by kernel_rfl, by decide, by decide⟩
section
variable {w w0 : World} {F : Nat → Prop} {b : BkM} {p : Nat}
set_option maxRecDepth 100000 in
set_option maxHeartbeats 6400000 in
theorem rreserve_any (h : RfO w0 b p w F) (hI : Inv2 b) (id nm : ByteArray) (hsz : nm.size ≤ maxLen) (un a : Int) :
    Calls Try.prog 88 #[gptr p, .string id, .string nm, .int .i64 un, .int .i64 a] w (RfPost w0 w F (.int .i64 (reserveR b id nm un a).1) (reserveR b id nm un a).2 p) := by
  have H := hide h
  obtain ⟨s, hz, hS⟩ := h
  have KN := hide (ident_any nm w hsz)
  have KI := hide (fun W => inst_any a W)
  have KF := hide (rfind_any hS.read hz hI.inv.gn id)
  have KK := hide (rkey_any hS.read hI.inv.kn nm)
  have hR := hS.read
  have c2 := hR.c2
  have hplt : p < w.heap.size := World.block_lt_of_cell? _ _ c2
  have hn100 := hI.inv.gn
  have hn1000 := hI.inv.kn
  cases hnm : isName nm with
  | false =>
    have e : reserveR b id nm un a = (1, b) := by unfold reserveR; simp [hnm]
    rw [e]
    rw [hnm] at KN
    clear hz hS hR hI e c2 hnm
    unfold gptr at *
    go_enter Try.func88, Try.ntmps88
    go_wp2_with fail
    refine KN.out.mono ?_
    rintro e w' ⟨rfl, rfl⟩
    go_wp2
    go_ret
    exact RfPost.quiet H.out _
  | true =>
  rw [hnm] at KN
  by_cases hu : un < 0
  · have e : reserveR b id nm un a = (1, b) := by unfold reserveR; rw [if_pos (.inr (.inl (by unfold within; rw [decide_eq_false (by omega : ¬ 0 ≤ un)]; rfl)))]
    rw [e]
    have t1 : decide (un < 0) = true := decide_eq_true hu
    clear hz hS hR hI e c2 hnm hu
    unfold gptr at *
    go_enter Try.func88, Try.ntmps88
    go_wp2_with fail
    refine KN.out.mono ?_
    rintro e w' ⟨rfl, rfl⟩
    go_wp2
    go_ret
    exact RfPost.quiet H.out _
  have t1 : decide (un < 0) = false := decide_eq_false hu
  by_cases hv : 1000000000 < un
  · have e : reserveR b id nm un a = (1, b) := by unfold reserveR; rw [if_pos (.inr (.inl (by unfold within; rw [Bool.and_eq_false_iff]; right; exact decide_eq_false (by omega))))]
    rw [e]
    have t2 : decide (un > 1000000000) = true := decide_eq_true hv
    clear hz hS hR hI e c2 hnm hu hv
    unfold gptr at *
    go_enter Try.func88, Try.ntmps88
    go_wp2_with fail
    refine KN.out.mono ?_
    rintro e w' ⟨rfl, rfl⟩
    go_wp2
    go_ret
    exact RfPost.quiet H.out _
  have t2 : decide (un > 1000000000) = false := decide_eq_false hv
  have hwi : within un 1000000000 = true := Go.CH.Lic.within_iff.2 (by omega)
  cases ha : inst a with
  | false =>
    have e : reserveR b id nm un a = (1, b) := by unfold reserveR; simp [ha]
    rw [e]
    rw [ha] at KI
    clear hz hS hR hI e c2 hnm hu hv ha
    unfold gptr at *
    go_enter Try.func88, Try.ntmps88
    go_wp2_with fail
    refine KN.out.mono ?_
    rintro e w' ⟨rfl, rfl⟩
    go_wp2_with fail
    refine (KI.out _).mono ?_
    rintro e w' ⟨rfl, rfl⟩
    go_wp2
    go_ret
    exact RfPost.quiet H.out _
  | true =>
  rw [ha] at KI
  cases hf : findG b id with
  | none =>
    have e : reserveR b id nm un a = (11, b) := by unfold reserveR; rw [hf]; simp [hnm, hwi, ha]
    rw [e]
    rw [hf] at KF
    simp only [fz] at KF
    clear hz hS hR hI e c2 hnm hu hv ha hf hwi
    unfold gptr at *
    go_enter Try.func88, Try.ntmps88
    go_wp2_with fail
    refine KN.out.mono ?_
    rintro e w' ⟨rfl, rfl⟩
    go_wp2_with fail
    refine (KI.out _).mono ?_
    rintro e w' ⟨rfl, rfl⟩
    go_wp2_with fail
    refine KF.out.mono ?_
    rintro e w' ⟨rfl, rfl⟩
    go_wp2
    go_ret
    exact RfPost.quiet H.out _
  | some i =>
  have hi := (findG_some hf).1
  have hid := (findG_some hf).2.1
  rw [hf] at KF
  simp only [fz] at KF
  cases hk : findK b nm with
  | some j =>
    have e : reserveR b id nm un a = (9, b) := by unfold reserveR; rw [hf]; simp [hnm, hwi, ha, hk]
    rw [e]
    rw [hk] at KK
    simp only [fz] at KK
    clear hz hS hR hI e c2 hnm hu hv ha hf hwi hk hid
    unfold gptr at *
    go_enter Try.func88, Try.ntmps88
    go_wp2_with fail
    refine KN.out.mono ?_
    rintro e w' ⟨rfl, rfl⟩
    go_wp2_with fail
    refine (KI.out _).mono ?_
    rintro e w' ⟨rfl, rfl⟩
    go_wp2_with fail
    refine KF.out.mono ?_
    rintro e w' ⟨rfl, rfl⟩
    go_wp2_with fail
    refine KK.out.mono ?_
    rintro e w' ⟨rfl, rfl⟩
    go_wp2
    go_ret
    exact RfPost.quiet H.out _
  | none =>
  rw [hk] at KK
  simp only [fz] at KK
  by_cases hn : 1000 ≤ b.ks.length
  · have e : reserveR b id nm un a = (28, b) := by unfold reserveR; rw [hf]; simp [hnm, hwi, ha, hk, hn]
    rw [e]
    obtain ⟨n, hbn⟩ : ∃ n, n = b.ks.length := ⟨_, rfl⟩
    rw [← hbn] at c2 hn hn1000
    obtain rfl : n = 1000 := by omega
    clear hz hS hR hI e hnm hu hv ha hf hwi hk hid hn hn1000 hbn
    unfold gptr at *
    go_enter Try.func88, Try.ntmps88
    go_wp2_with fail
    refine KN.out.mono ?_
    rintro e w' ⟨rfl, rfl⟩
    go_wp2_with fail
    refine (KI.out _).mono ?_
    rintro e w' ⟨rfl, rfl⟩
    go_wp2_with fail
    refine KF.out.mono ?_
    rintro e w' ⟨rfl, rfl⟩
    go_wp2_with fail
    refine KK.out.mono ?_
    rintro e w' ⟨rfl, rfl⟩
    go_wp2
    go_ret
    exact RfPost.quiet H.out _
  have hlt : b.ks.length < 1000 := by omega
  have KR := hide (rruns_any hS.read hz hI.inv hi a)
  cases hr : runsG (gat b i) a with
  | false =>
    have e : reserveR b id nm un a = (12, b) := by unfold reserveR; rw [hf]; simp [hnm, hwi, ha, hk, hr]; omega
    rw [e]
    rw [hr] at KR
    clear hz hS hR hI e hnm hu hv ha hf hwi hk hid hr hn
    unfold gptr at *
    go_enter Try.func88, Try.ntmps88
    go_wp2_with fail
    refine KN.out.mono ?_
    rintro e w' ⟨rfl, rfl⟩
    go_wp2_with fail
    refine (KI.out _).mono ?_
    rintro e w' ⟨rfl, rfl⟩
    go_wp2_with fail
    refine KF.out.mono ?_
    rintro e w' ⟨rfl, rfl⟩
    go_wp2_with fail
    refine KK.out.mono ?_
    rintro e w' ⟨rfl, rfl⟩
    go_wp2_with fail
    refine KR.out.mono ?_
    rintro e w' ⟨rfl, rfl⟩
    go_wp2
    go_ret
    exact RfPost.quiet H.out _
  | true =>
  rw [hr] at KR
  have KL := hide (rleft_any hS hz hI.r hi)
  have HS := hide hS
  have hbz := hI.inv.g _ (gat_mem hi)
  have hqz := valid_num hbz.1
  have hq1 := hqz.1
  have hq2 := hqz.2.1
  have hu1 := hqz.2.2.1
  have hu2 := hqz.2.2.2.1
  have hb1 := hbz.2.1
  have hb2 := hbz.2.2.1
  have hb3 := hbz.2.2.2.1
  have hb4 := hbz.2.2.2.2.1
  clear hbz hqz
  by_cases hx : (gat b i).l.q - (gat b i).su < un
  · have e : reserveR b id nm un a = (19, b) := by unfold reserveR; rw [hf]; simp [hnm, hwi, ha, hk, hr, hx]; omega
    rw [e]
    generalize (gat b i).su = su at *
    generalize (gat b i).sn = sn at *
    generalize (gat b i).l.q = zq at *
    generalize (gat b i).l.u = zu at *
    have d1 : decide (un > zq - su) = true := decide_eq_true hx
    clear hx
    clear hz hS hR hI e hnm hu hv ha hf hwi hk hid hr hn HS
    unfold gptr at *
    go_enter Try.func88, Try.ntmps88
    go_wp2_with fail
    refine KN.out.mono ?_
    rintro e w' ⟨rfl, rfl⟩
    go_wp2_with fail
    refine (KI.out _).mono ?_
    rintro e w' ⟨rfl, rfl⟩
    go_wp2_with fail
    refine KF.out.mono ?_
    rintro e w' ⟨rfl, rfl⟩
    go_wp2_with fail
    refine KK.out.mono ?_
    rintro e w' ⟨rfl, rfl⟩
    go_wp2_with fail
    refine KR.out.mono ?_
    rintro e w' ⟨rfl, rfl⟩
    go_wp2_with fail
    refine KL.out.mono ?_
    rintro e w2 ⟨rfl, hb⟩
    have HB := hide (hb.trans ((Below.refl w2.heap.size w2).alloc (Nat.le_refl _) (.cells #[.int .i64 (zq - su), .int .i64 (zu - sn)] 66) |>.mono hb.size))
    clear hb
    go_wp2
    go_ret
    exact RfPost.below H.out _ HB.out
  by_cases hy : (gat b i).l.u - (gat b i).sn < 1
  · have e : reserveR b id nm un a = (19, b) := by unfold reserveR; rw [hf]; simp [hnm, hwi, ha, hk, hr, hx, hy]; omega
    rw [e]
    generalize (gat b i).su = su at *
    generalize (gat b i).sn = sn at *
    generalize (gat b i).l.q = zq at *
    generalize (gat b i).l.u = zu at *
    have d1 : decide (un > zq - su) = false := decide_eq_false hx
    have d2 : decide (zu - sn < 1) = true := decide_eq_true hy
    clear hx hy
    clear hz hS hR hI e hnm hu hv ha hf hwi hk hid hr hn HS
    unfold gptr at *
    go_enter Try.func88, Try.ntmps88
    go_wp2_with fail
    refine KN.out.mono ?_
    rintro e w' ⟨rfl, rfl⟩
    go_wp2_with fail
    refine (KI.out _).mono ?_
    rintro e w' ⟨rfl, rfl⟩
    go_wp2_with fail
    refine KF.out.mono ?_
    rintro e w' ⟨rfl, rfl⟩
    go_wp2_with fail
    refine KK.out.mono ?_
    rintro e w' ⟨rfl, rfl⟩
    go_wp2_with fail
    refine KR.out.mono ?_
    rintro e w' ⟨rfl, rfl⟩
    go_wp2_with fail
    refine KL.out.mono ?_
    rintro e w2 ⟨rfl, hb⟩
    have HB := hide (hb.trans ((Below.refl w2.heap.size w2).alloc (Nat.le_refl _) (.cells #[.int .i64 (zq - su), .int .i64 (zu - sn)] 66) |>.mono hb.size))
    clear hb
    go_wp2
    go_ret
    exact RfPost.below H.out _ HB.out
  obtain ⟨b1, hb1e⟩ : ∃ b1 : BkM, b1 = { b with ks := b.ks ++ [⟨nm, i, 0, un⟩] } := ⟨_, rfl⟩
  have e : reserveR b id nm un a = (0, putG b1 i { gat b i with su := (gat b i).su + un, sn := (gat b i).sn + 1 }) := by
    unfold reserveR; rw [hf, hb1e]; simp [hnm, hwi, ha, hk, hr, hx, hy]; omega
  rw [e]
  have hFIN : ∀ (F0 : Nat → Prop) (w1 W : World) (K8 : Option Addr) (c8 : Nat), Run F0 w1 (star (CellO p #[.slice s.A b.gs.length s.c, .slice s.E b.gs.length s.cE, .slice K8 (b.ks.length + 1) c8] 77) (star (RfL b s) (star (RfE b s) (RowO 163 4 (.slice K8 (b.ks.length + 1) c8) (b.ks.length + 1) (b.ks.flatMap (kcl b) ++ [.string nm, .string id, .int .i64 1, .int .i64 un]))))) W →
      Run F0 w1 (RfO w0 (putG b1 i { gat b i with su := (gat b i).su + un, sn := (gat b i).sn + 1 }) p) W := by
    intro F0 w1 W K8 c8 hr
    have e1 : RfS (putG b1 i { gat b i with su := (gat b i).su + un, sn := (gat b i).sn + 1 }) p { s with K := K8, cK := c8 } = RfS b1 p { s with K := K8, cK := c8 } := rfS_same (b := b1) _ (by rw [hb1e]; exact hi) (by rw [hb1e]; rfl) (by rw [hb1e]; rfl)
    refine Run.imp ?_ (fun w F h => (⟨{ s with K := K8, cK := c8 }, rfz_putG (b := b1) (by rw [hb1e]; exact hz) (by rw [hb1e]; exact hi) (by rw [hb1e]; rfl), h⟩ : RfO w0 _ p w F))
    rw [e1]
    refine hr.perm ?_
    have e2 : b1.ks.flatMap (kcl b1) = b.ks.flatMap (kcl b) ++ [.string nm, .string id, .int .i64 1, .int .i64 un] := by
      rw [hb1e, ← hid]
      simp only [List.flatMap_append, List.flatMap_cons, List.flatMap_nil, List.append_nil]
      rfl
    unfold RfS RfL RfE RfK rfcell
    rw [e2]
    rw [show b1.ks.length = b.ks.length + 1 by rw [hb1e]; simp, show b1.gs = b.gs by rw [hb1e]]
  have HFIN := hide hFIN
  generalize (gat b i).su = su at *
  generalize (gat b i).sn = sn at *
  generalize (gat b i).l.q = zq at *
  generalize (gat b i).l.u = zu at *
  have d1 : decide (un > zq - su) = false := decide_eq_false hx
  have d2 : decide (zu - sn < 1) = false := decide_eq_false hy
  clear hx hy hFIN hb1e
  clear hz hS hR hI e hnm hu hv ha hf hwi hk hid hr hn
  unfold gptr at *
  go_enter Try.func88, Try.ntmps88
  go_wp2_with fail
  refine KN.out.mono ?_
  rintro e w' ⟨rfl, rfl⟩
  go_wp2_with fail
  refine (KI.out _).mono ?_
  rintro e w' ⟨rfl, rfl⟩
  go_wp2_with fail
  refine KF.out.mono ?_
  rintro e w' ⟨rfl, rfl⟩
  go_wp2_with fail
  refine KK.out.mono ?_
  rintro e w' ⟨rfl, rfl⟩
  go_wp2_with fail
  refine KR.out.mono ?_
  rintro e w' ⟨rfl, rfl⟩
  go_wp2_with fail
  refine KL.out.mono ?_
  rintro e w2 ⟨rfl, hb⟩
  have HB := hide (hb.trans ((Below.refl w2.heap.size w2).alloc (Nat.le_refl _) (.cells #[.int .i64 (zq - su), .int .i64 (zu - sn)] 66) |>.mono hb.size))

  have R2 := hide ((Run.start HS.out).below rfS_ok (HB.out))
  obtain ⟨G2, hG2⟩ := R2.out.fst
  have hp2 : p < w2.heap.size := by have := hb.size; omega
  have k2 := cell_at hG2 (i := 2) rfl
  clear hb HB hG2 c2
  have k2 : (w2.alloc (.cells #[.int .i64 (zq - su), .int .i64 (zu - sn)] 66)).cell? ⟨p, 2, none⟩ = some (.slice s.K b.ks.length s.cK) := k2
  have S3 := hide (R2.out.below rfS_ok ((Below.refl _ _).alloc (Nat.le_refl _) (.cells #[.string nm, .string id, .int .i64 1, .int .i64 un] 163)))
  have HSRC := hide (src_new7 (w2.alloc (.cells #[.int .i64 (zq - su), .int .i64 (zu - sn)] 66)) [.string nm, .string id, .int .i64 1, .int .i64 un] 163 (by intro u hu; simp at hu; rcases hu with rfl | rfl | rfl | rfl <;> rfl))
  rw [show (w2.alloc (.cells #[.int .i64 (zq - su), .int .i64 (zu - sn)] 66)).heap.size = w2.heap.size + 1 by simp] at HSRC
  clear R2
  go_wp2_with (at_builtin; refine held ?_)
  obtain ⟨F7, hR7, -, bk7⟩ := (S3.out.perm (show RfS b p s = star (RfK b s) (star (CellO p (rfcell b s) 77) (star (RfL b s) (RfE b s))) by unfold RfS; ac_rfl)).take row_ok (star_ok cell_ok (star_ok row_ok row_ok))
  refine Held.mk (wpList_app rfl (.tmp 65) (.tmp 70) rfl rkeysOk _ 0 (v := .slice s.K b.ks.length s.cK) (n := b.ks.length) (xs := b.ks.flatMap (kcl b)) rfl hR7.1 (A := some ⟨w2.heap.size + 1, 0, none⟩) (m := 1) (c := 1) (news := [.string nm, .string id, .int .i64 1, .int .i64 un]) rfl HSRC.out (by omega) (by omega) (Nat.zero_le _) ?_)
  intro v8 w8 ho8 hg8 hv8
  have S8 := bk7 _ _ (row_app hR7 ho8 hg8 hv8)
  obtain ⟨A8, c8, rfl⟩ := own_form ho8
  clear ho8 hg8 hv8 bk7 hR7 S3 HSRC k2 hp2
  obtain ⟨F9, hC9, -, bk9⟩ := S8.rot.take cell_ok (star_ok row_ok (star_ok row_ok row_ok))
  have d9 : w8.cell? ⟨p, 2, none⟩ = some (.slice s.K b.ks.length s.cK) := cell_at hC9 (i := 2) rfl
  have f9 := cell_free hC9 2
  have S9 := bk9 _ _ (cell_set hC9 2 (.slice A8 (b.ks.length + 1) c8))
  have HP := hide ((HFIN.out _ _ _ A8 c8 (S9.perm (by
    rw [show (rfcell b s).setIfInBounds 2 (.slice A8 (b.ks.length + 1) c8) = #[.slice s.A b.gs.length s.c, .slice s.E b.gs.length s.cE, .slice A8 (b.ks.length + 1) c8] from rfl]
    ac_rfl))).post rfO_ok)
  clear hC9 bk9 S8 S9
  go_wp2_with fail
  go_ret
  exact ⟨rfl, HP.out⟩
end
end Go.Proofs.Ytapabbpdfplpoaa
namespace Go.Proofs.Ytapabbpdfplpoaa
open Go.RowKit Go.CH Go.CH.Lic
open Go.ChangeMaps (setBlock)

def stepL (x : StepM) (A : Option Addr) (c : Nat) (B : Option Addr) (d : Nat) : List Value := [.int .i64 x.k, .string x.l.id, .slice A x.l.ms.length c, .slice B x.l.ps.length d, .int .i64 x.l.q, .int .i64 x.l.u, .int .i64 x.l.f, .int .i64 x.l.t, .string x.id, .string x.key, .int .i64 x.un, .int .i64 x.us, .int .i64 x.a]
def stepV (x : StepM) (A : Option Addr) (c : Nat) (B : Option Addr) (d : Nat) : Value := .agg #[.int .i64 x.k, .string x.l.id, .slice A x.l.ms.length c, .slice B x.l.ps.length d, .int .i64 x.l.q, .int .i64 x.l.u, .int .i64 x.l.f, .int .i64 x.l.t, .string x.id, .string x.key, .int .i64 x.un, .int .i64 x.us, .int .i64 x.a]
def sbox (x : StepM) (A : Option Addr) (c : Nat) (B : Option Addr) (d : Nat) : Obj := .cells #[.int .i64 x.k, .string x.l.id, .slice A x.l.ms.length c, .slice B x.l.ps.length d, .int .i64 x.l.q, .int .i64 x.l.u, .int .i64 x.l.f, .int .i64 x.l.t, .string x.id, .string x.key, .int .i64 x.un, .int .i64 x.us, .int .i64 x.a] 80
theorem sbox_below (w : World) (x : StepM) (A : Option Addr) (c : Nat) (B : Option Addr) (d : Nat) : Below w.heap.size w (w.alloc (sbox x A c B d)) := (Below.refl _ _).alloc (Nat.le_refl _) _
section
variable {w0 W : World} {X : Own} {p : Nat} {b : BkM}

set_option maxRecDepth 100000 in
set_option maxHeartbeats 1600000 in
theorem do_0 (h : BSt w0 X p b W) (x : StepM) {A B : Option Addr} {c d : Nat} (hl : LicAt W x.l A c B d) (hk : x.key.size ≤ maxLen) (hx : x.k = 0) :
    Calls Try.prog 46 #[gptr p, stepV x A c B d] W (BRet w0 X p (grantR b x.l).2 (.int .i64 (grantR b x.l).1)) := by
  have h1 := h.below (sbox_below W x A c B d)
  have hl1 := hl.keep (sbox_below W x A c B d)
  have K := hide (st_grant h1 hl1)
  clear h h1 hl hl1
  unfold sbox gptr at K
  unfold licV at K
  unfold stepV gptr
  obtain ⟨r, hr⟩ : ∃ r, r = grantR b x.l := ⟨_, rfl⟩
  rw [← hr] at K ⊢
  clear hr
  rw [hx] at K ⊢
  clear hx
  go_enter Try.func46, Try.ntmps46
  go_wp2_with fail
  refine K.out.mono ?_
  rintro e W' ⟨rfl, hS⟩
  have HS := hide hS
  clear hS
  go_wp2
  go_ret
  exact ⟨rfl, HS.out⟩
set_option maxRecDepth 100000 in
set_option maxHeartbeats 1600000 in
theorem do_1 (h : BSt w0 X p b W) (x : StepM) {A B : Option Addr} {c d : Nat} (hl : LicAt W x.l A c B d) (hk : x.key.size ≤ maxLen) (hx : x.k = 1) :
    Calls Try.prog 46 #[gptr p, stepV x A c B d] W (BRet w0 X p (revokeR b x.id x.a).2 (.int .i64 (revokeR b x.id x.a).1)) := by
  have h1 := h.below (sbox_below W x A c B d)
  have hl1 := hl.keep (sbox_below W x A c B d)
  have K := hide (st_revoke h1 x.id x.a)
  clear h h1 hl hl1
  unfold sbox gptr at K
  unfold stepV gptr
  obtain ⟨r, hr⟩ : ∃ r, r = revokeR b x.id x.a := ⟨_, rfl⟩
  rw [← hr] at K ⊢
  clear hr
  rw [hx] at K ⊢
  clear hx
  go_enter Try.func46, Try.ntmps46
  go_wp2_with fail
  refine K.out.mono ?_
  rintro e W' ⟨rfl, hS⟩
  have HS := hide hS
  clear hS
  go_wp2
  go_ret
  exact ⟨rfl, HS.out⟩
set_option maxRecDepth 100000 in
set_option maxHeartbeats 1600000 in
theorem do_2 (h : BSt w0 X p b W) (x : StepM) {A B : Option Addr} {c d : Nat} (hl : LicAt W x.l A c B d) (hk : x.key.size ≤ maxLen) (hx : x.k = 2) :
    Calls Try.prog 46 #[gptr p, stepV x A c B d] W (BRet w0 X p (amendR b x.id x.un x.us x.a).2 (.int .i64 (amendR b x.id x.un x.us x.a).1)) := by
  have h1 := h.below (sbox_below W x A c B d)
  have hl1 := hl.keep (sbox_below W x A c B d)
  have K := hide (st_amend h1 x.id x.un x.us x.a)
  clear h h1 hl hl1
  unfold sbox gptr at K
  unfold stepV gptr
  obtain ⟨r, hr⟩ : ∃ r, r = amendR b x.id x.un x.us x.a := ⟨_, rfl⟩
  rw [← hr] at K ⊢
  clear hr
  rw [hx] at K ⊢
  clear hx
  go_enter Try.func46, Try.ntmps46
  go_wp2_with fail
  refine K.out.mono ?_
  rintro e W' ⟨rfl, hS⟩
  have HS := hide hS
  clear hS
  go_wp2
  go_ret
  exact ⟨rfl, HS.out⟩
set_option maxRecDepth 100000 in
set_option maxHeartbeats 1600000 in
theorem do_3 (h : BSt w0 X p b W) (x : StepM) {A B : Option Addr} {c d : Nat} (hl : LicAt W x.l A c B d) (hk : x.key.size ≤ maxLen) (hx : x.k = 3) :
    Calls Try.prog 46 #[gptr p, stepV x A c B d] W (BRet w0 X p (splitR b x.id x.key x.un x.us).2 (.int .i64 (splitR b x.id x.key x.un x.us).1)) := by
  have h1 := h.below (sbox_below W x A c B d)
  have hl1 := hl.keep (sbox_below W x A c B d)
  have K := hide (st_split h1 x.id x.key x.un x.us hk)
  clear h h1 hl hl1
  unfold sbox gptr at K
  unfold stepV gptr
  obtain ⟨r, hr⟩ : ∃ r, r = splitR b x.id x.key x.un x.us := ⟨_, rfl⟩
  rw [← hr] at K ⊢
  clear hr
  rw [hx] at K ⊢
  clear hx
  go_enter Try.func46, Try.ntmps46
  go_wp2_with fail
  refine K.out.mono ?_
  rintro e W' ⟨rfl, hS⟩
  have HS := hide hS
  clear hS
  go_wp2
  go_ret
  exact ⟨rfl, HS.out⟩
set_option maxRecDepth 100000 in
set_option maxHeartbeats 1600000 in
theorem do_4 (h : BSt w0 X p b W) (x : StepM) {A B : Option Addr} {c d : Nat} (hl : LicAt W x.l A c B d) (hk : x.key.size ≤ maxLen) (hx : x.k = 4) :
    Calls Try.prog 46 #[gptr p, stepV x A c B d] W (BRet w0 X p (reserveR b x.id x.key x.un x.a).2 (.int .i64 (reserveR b x.id x.key x.un x.a).1)) := by
  have h1 := h.below (sbox_below W x A c B d)
  have hl1 := hl.keep (sbox_below W x A c B d)
  have K := hide (st_reserve h1 x.id x.key x.un x.a hk)
  clear h h1 hl hl1
  unfold sbox gptr at K
  unfold stepV gptr
  obtain ⟨r, hr⟩ : ∃ r, r = reserveR b x.id x.key x.un x.a := ⟨_, rfl⟩
  rw [← hr] at K ⊢
  clear hr
  rw [hx] at K ⊢
  clear hx
  go_enter Try.func46, Try.ntmps46
  go_wp2_with fail
  refine K.out.mono ?_
  rintro e W' ⟨rfl, hS⟩
  have HS := hide hS
  clear hS
  go_wp2
  go_ret
  exact ⟨rfl, HS.out⟩
set_option maxRecDepth 100000 in
set_option maxHeartbeats 1600000 in
theorem do_5 (h : BSt w0 X p b W) (x : StepM) {A B : Option Addr} {c d : Nat} (hl : LicAt W x.l A c B d) (hk : x.key.size ≤ maxLen) (hx : x.k = 5) :
    Calls Try.prog 46 #[gptr p, stepV x A c B d] W (BRet w0 X p (useR b x.key x.un x.a).2 (.int .i64 (useR b x.key x.un x.a).1)) := by
  have h1 := h.below (sbox_below W x A c B d)
  have hl1 := hl.keep (sbox_below W x A c B d)
  have K := hide (st_use h1 x.key x.un x.a)
  clear h h1 hl hl1
  unfold sbox gptr at K
  unfold stepV gptr
  obtain ⟨r, hr⟩ : ∃ r, r = useR b x.key x.un x.a := ⟨_, rfl⟩
  rw [← hr] at K ⊢
  clear hr
  rw [hx] at K ⊢
  clear hx
  go_enter Try.func46, Try.ntmps46
  go_wp2_with fail
  refine K.out.mono ?_
  rintro e W' ⟨rfl, hS⟩
  have HS := hide hS
  clear hS
  go_wp2
  go_ret
  exact ⟨rfl, HS.out⟩
set_option maxRecDepth 100000 in
set_option maxHeartbeats 1600000 in
theorem do_6 (h : BSt w0 X p b W) (x : StepM) {A B : Option Addr} {c d : Nat} (hl : LicAt W x.l A c B d) (hk : x.key.size ≤ maxLen) (hx : x.k = 6) :
    Calls Try.prog 46 #[gptr p, stepV x A c B d] W (BRet w0 X p (returnR b x.key x.un).2 (.int .i64 (returnR b x.key x.un).1)) := by
  have h1 := h.below (sbox_below W x A c B d)
  have hl1 := hl.keep (sbox_below W x A c B d)
  have K := hide (st_return h1 x.key x.un)
  clear h h1 hl hl1
  unfold sbox gptr at K
  unfold stepV gptr
  obtain ⟨r, hr⟩ : ∃ r, r = returnR b x.key x.un := ⟨_, rfl⟩
  rw [← hr] at K ⊢
  clear hr
  rw [hx] at K ⊢
  clear hx
  go_enter Try.func46, Try.ntmps46
  go_wp2_with fail
  refine K.out.mono ?_
  rintro e W' ⟨rfl, hS⟩
  have HS := hide hS
  clear hS
  go_wp2
  go_ret
  exact ⟨rfl, HS.out⟩
set_option maxRecDepth 100000 in
set_option maxHeartbeats 1600000 in
theorem do_7 (h : BSt w0 X p b W) (x : StepM) {A B : Option Addr} {c d : Nat} (hl : LicAt W x.l A c B d) (hk : x.key.size ≤ maxLen) (hx0 : ¬ x.k = 0) (hx1 : ¬ x.k = 1) (hx2 : ¬ x.k = 2) (hx3 : ¬ x.k = 3) (hx4 : ¬ x.k = 4) (hx5 : ¬ x.k = 5) (hx6 : ¬ x.k = 6) :
    Calls Try.prog 46 #[gptr p, stepV x A c B d] W (BRet w0 X p (releaseR b x.key).2 (.int .i64 (releaseR b x.key).1)) := by
  have h1 := h.below (sbox_below W x A c B d)
  have hl1 := hl.keep (sbox_below W x A c B d)
  have K := hide (st_release h1 x.key)
  clear h h1 hl hl1
  unfold sbox gptr at K
  unfold stepV gptr
  obtain ⟨r, hr⟩ : ∃ r, r = releaseR b x.key := ⟨_, rfl⟩
  rw [← hr] at K ⊢
  clear hr
  have b0 : (x.k == 0) = false := by simpa using hx0
  have b1 : (x.k == 1) = false := by simpa using hx1
  have b2 : (x.k == 2) = false := by simpa using hx2
  have b3 : (x.k == 3) = false := by simpa using hx3
  have b4 : (x.k == 4) = false := by simpa using hx4
  have b5 : (x.k == 5) = false := by simpa using hx5
  have b6 : (x.k == 6) = false := by simpa using hx6
  clear hx0 hx1 hx2 hx3 hx4 hx5 hx6
  generalize x.k = xk at *
  go_enter Try.func46, Try.ntmps46
  go_wp2_with fail
  refine K.out.mono ?_
  rintro e W' ⟨rfl, hS⟩
  have HS := hide hS
  clear hS
  go_wp2
  go_ret
  exact ⟨rfl, HS.out⟩
theorem st_do (h : BSt w0 X p b W) (x : StepM) {A B : Option Addr} {c d : Nat} (hl : LicAt W x.l A c B d) (hk : x.key.size ≤ maxLen) :
    Calls Try.prog 46 #[gptr p, stepV x A c B d] W (BRet w0 X p (doR b x).2 (.int .i64 (doR b x).1)) := by
  unfold doR
  by_cases hx0 : x.k = 0
  · simp only [if_pos hx0]
    exact do_0 h x hl hk hx0
  by_cases hx1 : x.k = 1
  · simp only [if_neg hx0, if_pos hx1]
    exact do_1 h x hl hk hx1
  by_cases hx2 : x.k = 2
  · simp only [if_neg hx0, if_neg hx1, if_pos hx2]
    exact do_2 h x hl hk hx2
  by_cases hx3 : x.k = 3
  · simp only [if_neg hx0, if_neg hx1, if_neg hx2, if_pos hx3]
    exact do_3 h x hl hk hx3
  by_cases hx4 : x.k = 4
  · simp only [if_neg hx0, if_neg hx1, if_neg hx2, if_neg hx3, if_pos hx4]
    exact do_4 h x hl hk hx4
  by_cases hx5 : x.k = 5
  · simp only [if_neg hx0, if_neg hx1, if_neg hx2, if_neg hx3, if_neg hx4, if_pos hx5]
    exact do_5 h x hl hk hx5
  by_cases hx6 : x.k = 6
  · simp only [if_neg hx0, if_neg hx1, if_neg hx2, if_neg hx3, if_neg hx4, if_neg hx5, if_pos hx6]
    exact do_6 h x hl hk hx6
  simp only [if_neg hx0, if_neg hx1, if_neg hx2, if_neg hx3, if_neg hx4, if_neg hx5, if_neg hx6]
  exact do_7 h x hl hk hx0 hx1 hx2 hx3 hx4 hx5 hx6
end
end Go.Proofs.Ytapabbpdfplpoaa
namespace Go.Proofs.Ytapabbpdfplpoaa
open Go.RowKit Go.CH Go.CH.Lic
open Go.ChangeMaps (setBlock)

/-- A law's walk that began in w0 has the reference's book b at q, and owns X besides. -/
structure RSt (w0 : World) (X : Own) (q : Nat) (b : BkM) (W : World) : Prop where
  run : Run (fun _ => False) w0 (star (RfO w0 b q) X) W
  xok : X.Ok
  inv : Inv2 b
def RRet (w0 : World) (X : Own) (q : Nat) (b : BkM) (v : Value) (e : Ending) (W : World) : Prop := e = .returned v ∧ RSt w0 X q b W
section
variable {w0 W W' : World} {X : Own} {p q : Nat} {b : BkM}
theorem RSt.bel (h : RSt w0 X q b W) : Below w0.heap.size w0 W := h.run.bel
theorem RSt.below (h : RSt w0 X q b W) (hb : Below W.heap.size W W') : RSt w0 X q b W' := ⟨h.run.below (star_ok rfO_ok h.xok) hb, h.xok, h.inv⟩
theorem rst_of (h : RSt w0 X q b W) {b' : BkM} (hI : Inv2 b') {fn : FuncId} {args : Array Value} {v : Value} (K : ∀ F, RfO w0 b q W F → Calls Try.prog fn args W (RfPost w0 W F v b' q)) :
    Calls Try.prog fn args W (RRet w0 X q b' v) := by
  obtain ⟨F, hB, -, back⟩ := h.run.take rfO_ok h.xok
  refine (K F hB).mono ?_
  rintro e w' ⟨rfl, hp⟩
  exact ⟨rfl, back _ _ hp, h.xok, hI⟩
theorem rst_left (h : RSt w0 X q b W) (id : ByteArray) (a : Int) : Calls Try.prog 51 #[gptr q, .string id, .int .i64 a] W (RRet w0 X q b (leftV (leftR b id a))) := by
  obtain ⟨F, hB⟩ := h.run.fst
  refine (rbookleft_any hB h.inv id a).mono ?_
  rintro e w' ⟨rfl, hb⟩
  exact ⟨rfl, h.below hb⟩
theorem BSt.ref (h : BSt w0 (star (RfO w0 b q) X) p b W') (hX : X.Ok) : RSt w0 (star (BkO b p) X) q b W' := ⟨h.run.perm (by ac_rfl), star_ok bkO_ok hX, h.inv⟩

set_option maxRecDepth 100000 in
set_option maxHeartbeats 1600000 in
theorem rdo_0 (h : RSt w0 X q b W) (x : StepM) {A B : Option Addr} {c d : Nat} (hl : LicIn w0 x.l A B) (hk : x.key.size ≤ maxLen) (hx : x.k = 0) :
    Calls Try.prog 47 #[gptr q, stepV x A c B d] W (RRet w0 X q (grantR b x.l).2 (.int .i64 (grantR b x.l).1)) := by
  have h1 := h.below (sbox_below W x A c B d)
  have K := hide (rst_of h1 (inv2_grant h1.inv x.l) fun F hB => rgrant_any hB h1.inv h1.bel hl c d)
  clear h h1 hl
  unfold sbox gptr at K
  unfold licV at K
  unfold stepV gptr
  obtain ⟨r, hr⟩ : ∃ r, r = grantR b x.l := ⟨_, rfl⟩
  rw [← hr] at K ⊢
  clear hr
  rw [hx] at K ⊢
  clear hx
  go_enter Try.func47, Try.ntmps47
  go_wp2_with fail
  refine K.out.mono ?_
  rintro e W' ⟨rfl, hS⟩
  have HS := hide hS
  clear hS
  go_wp2
  go_ret
  exact ⟨rfl, HS.out⟩
set_option maxRecDepth 100000 in
set_option maxHeartbeats 1600000 in
theorem rdo_1 (h : RSt w0 X q b W) (x : StepM) {A B : Option Addr} {c d : Nat} (hl : LicIn w0 x.l A B) (hk : x.key.size ≤ maxLen) (hx : x.k = 1) :
    Calls Try.prog 47 #[gptr q, stepV x A c B d] W (RRet w0 X q (revokeR b x.id x.a).2 (.int .i64 (revokeR b x.id x.a).1)) := by
  have h1 := h.below (sbox_below W x A c B d)
  have K := hide (rst_of h1 (inv2_revoke h1.inv x.id x.a) fun F hB => rrevoke_any hB h1.inv x.id x.a)
  clear h h1 hl
  unfold sbox gptr at K
  unfold stepV gptr
  obtain ⟨r, hr⟩ : ∃ r, r = revokeR b x.id x.a := ⟨_, rfl⟩
  rw [← hr] at K ⊢
  clear hr
  rw [hx] at K ⊢
  clear hx
  go_enter Try.func47, Try.ntmps47
  go_wp2_with fail
  refine K.out.mono ?_
  rintro e W' ⟨rfl, hS⟩
  have HS := hide hS
  clear hS
  go_wp2
  go_ret
  exact ⟨rfl, HS.out⟩
set_option maxRecDepth 100000 in
set_option maxHeartbeats 1600000 in
theorem rdo_2 (h : RSt w0 X q b W) (x : StepM) {A B : Option Addr} {c d : Nat} (hl : LicIn w0 x.l A B) (hk : x.key.size ≤ maxLen) (hx : x.k = 2) :
    Calls Try.prog 47 #[gptr q, stepV x A c B d] W (RRet w0 X q (amendR b x.id x.un x.us x.a).2 (.int .i64 (amendR b x.id x.un x.us x.a).1)) := by
  have h1 := h.below (sbox_below W x A c B d)
  have K := hide (rst_of h1 (inv2_amend h1.inv x.id x.un x.us x.a) fun F hB => ramend_any hB h1.inv h1.bel x.id x.un x.us x.a)
  clear h h1 hl
  unfold sbox gptr at K
  unfold stepV gptr
  obtain ⟨r, hr⟩ : ∃ r, r = amendR b x.id x.un x.us x.a := ⟨_, rfl⟩
  rw [← hr] at K ⊢
  clear hr
  rw [hx] at K ⊢
  clear hx
  go_enter Try.func47, Try.ntmps47
  go_wp2_with fail
  refine K.out.mono ?_
  rintro e W' ⟨rfl, hS⟩
  have HS := hide hS
  clear hS
  go_wp2
  go_ret
  exact ⟨rfl, HS.out⟩
set_option maxRecDepth 100000 in
set_option maxHeartbeats 1600000 in
theorem rdo_3 (h : RSt w0 X q b W) (x : StepM) {A B : Option Addr} {c d : Nat} (hl : LicIn w0 x.l A B) (hk : x.key.size ≤ maxLen) (hx : x.k = 3) :
    Calls Try.prog 47 #[gptr q, stepV x A c B d] W (RRet w0 X q (splitR b x.id x.key x.un x.us).2 (.int .i64 (splitR b x.id x.key x.un x.us).1)) := by
  have h1 := h.below (sbox_below W x A c B d)
  have K := hide (rst_of h1 (inv2_split h1.inv x.id x.key x.un x.us) fun F hB => rsplit_any hB h1.inv h1.bel x.id x.key hk x.un x.us)
  clear h h1 hl
  unfold sbox gptr at K
  unfold stepV gptr
  obtain ⟨r, hr⟩ : ∃ r, r = splitR b x.id x.key x.un x.us := ⟨_, rfl⟩
  rw [← hr] at K ⊢
  clear hr
  rw [hx] at K ⊢
  clear hx
  go_enter Try.func47, Try.ntmps47
  go_wp2_with fail
  refine K.out.mono ?_
  rintro e W' ⟨rfl, hS⟩
  have HS := hide hS
  clear hS
  go_wp2
  go_ret
  exact ⟨rfl, HS.out⟩
set_option maxRecDepth 100000 in
set_option maxHeartbeats 1600000 in
theorem rdo_4 (h : RSt w0 X q b W) (x : StepM) {A B : Option Addr} {c d : Nat} (hl : LicIn w0 x.l A B) (hk : x.key.size ≤ maxLen) (hx : x.k = 4) :
    Calls Try.prog 47 #[gptr q, stepV x A c B d] W (RRet w0 X q (reserveR b x.id x.key x.un x.a).2 (.int .i64 (reserveR b x.id x.key x.un x.a).1)) := by
  have h1 := h.below (sbox_below W x A c B d)
  have K := hide (rst_of h1 (inv2_reserve h1.inv x.id x.key x.un x.a) fun F hB => rreserve_any hB h1.inv x.id x.key hk x.un x.a)
  clear h h1 hl
  unfold sbox gptr at K
  unfold stepV gptr
  obtain ⟨r, hr⟩ : ∃ r, r = reserveR b x.id x.key x.un x.a := ⟨_, rfl⟩
  rw [← hr] at K ⊢
  clear hr
  rw [hx] at K ⊢
  clear hx
  go_enter Try.func47, Try.ntmps47
  go_wp2_with fail
  refine K.out.mono ?_
  rintro e W' ⟨rfl, hS⟩
  have HS := hide hS
  clear hS
  go_wp2
  go_ret
  exact ⟨rfl, HS.out⟩
set_option maxRecDepth 100000 in
set_option maxHeartbeats 1600000 in
theorem rdo_5 (h : RSt w0 X q b W) (x : StepM) {A B : Option Addr} {c d : Nat} (hl : LicIn w0 x.l A B) (hk : x.key.size ≤ maxLen) (hx : x.k = 5) :
    Calls Try.prog 47 #[gptr q, stepV x A c B d] W (RRet w0 X q (useR b x.key x.un x.a).2 (.int .i64 (useR b x.key x.un x.a).1)) := by
  have h1 := h.below (sbox_below W x A c B d)
  have K := hide (rst_of h1 (inv2_use h1.inv x.key x.un x.a) fun F hB => ruse_any hB h1.inv x.key x.un x.a)
  clear h h1 hl
  unfold sbox gptr at K
  unfold stepV gptr
  obtain ⟨r, hr⟩ : ∃ r, r = useR b x.key x.un x.a := ⟨_, rfl⟩
  rw [← hr] at K ⊢
  clear hr
  rw [hx] at K ⊢
  clear hx
  go_enter Try.func47, Try.ntmps47
  go_wp2_with fail
  refine K.out.mono ?_
  rintro e W' ⟨rfl, hS⟩
  have HS := hide hS
  clear hS
  go_wp2
  go_ret
  exact ⟨rfl, HS.out⟩
set_option maxRecDepth 100000 in
set_option maxHeartbeats 1600000 in
theorem rdo_6 (h : RSt w0 X q b W) (x : StepM) {A B : Option Addr} {c d : Nat} (hl : LicIn w0 x.l A B) (hk : x.key.size ≤ maxLen) (hx : x.k = 6) :
    Calls Try.prog 47 #[gptr q, stepV x A c B d] W (RRet w0 X q (returnR b x.key x.un).2 (.int .i64 (returnR b x.key x.un).1)) := by
  have h1 := h.below (sbox_below W x A c B d)
  have K := hide (rst_of h1 (inv2_return h1.inv x.key x.un) fun F hB => rreturn_any hB h1.inv x.key x.un)
  clear h h1 hl
  unfold sbox gptr at K
  unfold stepV gptr
  obtain ⟨r, hr⟩ : ∃ r, r = returnR b x.key x.un := ⟨_, rfl⟩
  rw [← hr] at K ⊢
  clear hr
  rw [hx] at K ⊢
  clear hx
  go_enter Try.func47, Try.ntmps47
  go_wp2_with fail
  refine K.out.mono ?_
  rintro e W' ⟨rfl, hS⟩
  have HS := hide hS
  clear hS
  go_wp2
  go_ret
  exact ⟨rfl, HS.out⟩
set_option maxRecDepth 100000 in
set_option maxHeartbeats 1600000 in
theorem rdo_7 (h : RSt w0 X q b W) (x : StepM) {A B : Option Addr} {c d : Nat} (hl : LicIn w0 x.l A B) (hk : x.key.size ≤ maxLen) (hx0 : ¬ x.k = 0) (hx1 : ¬ x.k = 1) (hx2 : ¬ x.k = 2) (hx3 : ¬ x.k = 3) (hx4 : ¬ x.k = 4) (hx5 : ¬ x.k = 5) (hx6 : ¬ x.k = 6) :
    Calls Try.prog 47 #[gptr q, stepV x A c B d] W (RRet w0 X q (releaseR b x.key).2 (.int .i64 (releaseR b x.key).1)) := by
  have h1 := h.below (sbox_below W x A c B d)
  have K := hide (rst_of h1 (inv2_release h1.inv x.key) fun F hB => rrelease_any hB h1.inv x.key)
  clear h h1 hl
  unfold sbox gptr at K
  unfold stepV gptr
  obtain ⟨r, hr⟩ : ∃ r, r = releaseR b x.key := ⟨_, rfl⟩
  rw [← hr] at K ⊢
  clear hr
  have b0 : (x.k == 0) = false := by simpa using hx0
  have b1 : (x.k == 1) = false := by simpa using hx1
  have b2 : (x.k == 2) = false := by simpa using hx2
  have b3 : (x.k == 3) = false := by simpa using hx3
  have b4 : (x.k == 4) = false := by simpa using hx4
  have b5 : (x.k == 5) = false := by simpa using hx5
  have b6 : (x.k == 6) = false := by simpa using hx6
  clear hx0 hx1 hx2 hx3 hx4 hx5 hx6
  generalize x.k = xk at *
  go_enter Try.func47, Try.ntmps47
  go_wp2_with fail
  refine K.out.mono ?_
  rintro e W' ⟨rfl, hS⟩
  have HS := hide hS
  clear hS
  go_wp2
  go_ret
  exact ⟨rfl, HS.out⟩
theorem rst_do (h : RSt w0 X q b W) (x : StepM) {A B : Option Addr} {c d : Nat} (hl : LicIn w0 x.l A B) (hk : x.key.size ≤ maxLen) :
    Calls Try.prog 47 #[gptr q, stepV x A c B d] W (RRet w0 X q (doR b x).2 (.int .i64 (doR b x).1)) := by
  unfold doR
  by_cases hx0 : x.k = 0
  · simp only [if_pos hx0]
    exact rdo_0 h x hl hk hx0
  by_cases hx1 : x.k = 1
  · simp only [if_neg hx0, if_pos hx1]
    exact rdo_1 h x hl hk hx1
  by_cases hx2 : x.k = 2
  · simp only [if_neg hx0, if_neg hx1, if_pos hx2]
    exact rdo_2 h x hl hk hx2
  by_cases hx3 : x.k = 3
  · simp only [if_neg hx0, if_neg hx1, if_neg hx2, if_pos hx3]
    exact rdo_3 h x hl hk hx3
  by_cases hx4 : x.k = 4
  · simp only [if_neg hx0, if_neg hx1, if_neg hx2, if_neg hx3, if_pos hx4]
    exact rdo_4 h x hl hk hx4
  by_cases hx5 : x.k = 5
  · simp only [if_neg hx0, if_neg hx1, if_neg hx2, if_neg hx3, if_neg hx4, if_pos hx5]
    exact rdo_5 h x hl hk hx5
  by_cases hx6 : x.k = 6
  · simp only [if_neg hx0, if_neg hx1, if_neg hx2, if_neg hx3, if_neg hx4, if_neg hx5, if_pos hx6]
    exact rdo_6 h x hl hk hx6
  simp only [if_neg hx0, if_neg hx1, if_neg hx2, if_neg hx3, if_neg hx4, if_neg hx5, if_neg hx6]
  exact rdo_7 h x hl hk hx0 hx1 hx2 hx3 hx4 hx5 hx6
end
end Go.Proofs.Ytapabbpdfplpoaa
namespace Go.Proofs.Ytapabbpdfplpoaa
open Go.RowKit Go.CH Go.CH.Lic
open Go.ChangeMaps (setBlock)

set_option maxRecDepth 100000 in
set_option maxHeartbeats 1600000 in
theorem texts_same {w : World} {A B : Option Addr} {n c d : Nat} {l : List ByteArray} (hA : Src w A n 1 (strs l)) (hB : Src w B n 1 (strs l)) (hn : n ≤ 1000000) :
    Calls Try.prog 100 #[.slice A n c, .slice B n d] w (BelowRet w (.bool true)) := by
  have hl : l.length = n := by have := hA.1; simpa [strs] using this
  have HA := hide hA
  have HB := hide hB
  have HL := hide hl
  clear hA hB hl
  go_enter Try.func100, Try.ntmps100
  go_wp2
  go_loopw [5] (fun i wr => ∃ k : Nat, k ≤ n ∧ i = .int .i64 k ∧ Below w.heap.size w wr) (fun i _ => n - (intOf i).toNat)
  case atStart => exact ⟨0, Nat.zero_le _, rfl, Below.refl _ _⟩
  case round =>
    obtain ⟨k, hk, rfl, hb⟩ := hrel
    have HBL := hide hb
    by_cases hlt : k < n
    · obtain ⟨bA, oA, rfl, hcA⟩ := HA.out.open_ (by omega) (by omega)
      obtain ⟨bB, oB, rfl, hcB⟩ := HB.out.open_ (by omega) (by omega)
      have c0 := ((Run.begin w).below emp_ok hb.drew).cell (hcA k _ (strs_get (by rw [HL.out]; omega))) (fun h => h)
      have c1 := ((Run.begin w).below emp_ok hb.drew).cell (hcB k _ (strs_get (by rw [HL.out]; omega))) (fun h => h)
      have HB2 := hide hb.drew
      generalize l[k]'(by rw [HL.out]; omega) = s at *
      have t1 : (s.toList == s.toList) = true := by rw [toList_beq]; exact decide_eq_true rfl
      have t2 : (s.toList != s.toList) = false := by unfold bne; rw [t1]; rfl
      clear hb hcA hcB HBL
      go_wp2_with fail
      refine wp_region_lex (fun w' => w' = wr.drew) (by kernel_rfl) (by kernel_rfl) rfl ?_
      generalize wr.drew = wd at *
      (repeat (first | (refine lex_skip (by rfl) ?_; try simp only [Act.put, List.setIfInBounds_toArray, List.set_cons_zero, List.set_cons_succ]) | (refine lex_read (v := ?_) (by rfl) ?_ ?_; rotate_left; (focus (intro w' hS'; go_simp; (try with_reducible rfl); done)); try simp only [Act.put, List.setIfInBounds_toArray, List.set_cons_zero, List.set_cons_succ])))
      refine lex_nil ?_
      go_wp2
      go_roundw
      case rel => exact ⟨k + 1, by omega, by go_num, HB2.out⟩
      case measure => simp [intOf]; omega
    · obtain rfl : k = n := by omega
      clear hb
      go_wp2
      go_ret
      exact bel_bool rfl HBL.out
set_option maxRecDepth 100000 in
set_option maxHeartbeats 1600000 in
theorem same_any {w : World} {l : LicM} {A B A' B' : Option Addr} (h : LicIn w l A B) (h' : LicIn w l A' B') (c d c' d' : Nat) :
    Calls Try.prog 52 #[licV l A c B d, licV l A' c' B' d'] w (BelowRet w (.bool true)) := by
  have R1 := hide (((Run.begin w).fresh emp_ok (cell_new w (licC l A c B d) 56)).imp fun _ _ h => star_emp h)
  have R2 := hide (R1.out.fresh cell_ok (cell_new _ (licC l A' c' B' d') 56))
  rw [show (w.alloc (.cells (licC l A c B d) 56)).heap.size = w.heap.size + 1 by simp] at R2
  have KM := hide (fun W (hb : Below w.heap.size w W) => texts_same (c := c) (d := c') (h.keep hb).ms (h'.keep hb).ms h.mn)
  have KP := hide (fun W (hb : Below w.heap.size w W) => texts_same (c := d) (d := d') (h.keep hb).ps (h'.keep hb).ps h.pn)
  have tid : (l.id.toList == l.id.toList) = true := by rw [toList_beq]; exact decide_eq_true rfl
  clear h h' R1
  unfold licC at R2
  unfold licV
  have OK := hide (star_ok cell_ok cell_ok : (star (CellO (w.heap.size + 1) #[.string l.id, .slice A' l.ms.length c', .slice B' l.ps.length d', .int .i64 l.q, .int .i64 l.u, .int .i64 l.f, .int .i64 l.t] 56) (CellO w.heap.size #[.string l.id, .slice A l.ms.length c, .slice B l.ps.length d, .int .i64 l.q, .int .i64 l.u, .int .i64 l.f, .int .i64 l.t] 56)).Ok)
  have HBX := hide (fun (W : World) (hR : Run (fun _ => False) w (star (CellO (w.heap.size + 1) #[.string l.id, .slice A' l.ms.length c', .slice B' l.ps.length d', .int .i64 l.q, .int .i64 l.u, .int .i64 l.f, .int .i64 l.t] 56) (CellO w.heap.size #[.string l.id, .slice A l.ms.length c, .slice B l.ps.length d, .int .i64 l.q, .int .i64 l.u, .int .i64 l.f, .int .i64 l.t] 56)) W) =>
    And.intro (box_reads (hR.imp fun w F h => h).swap.drop) (box_reads hR.drop))
  generalize l.ms.length = n at *
  generalize l.ps.length = m at *
  generalize l.id = zi at *
  go_enter Try.func52, Try.ntmps52
  go_wp2_with fail
  refine (KM.out _ R2.out.bel).mono ?_
  rintro e w3 ⟨rfl, hb⟩
  have R3 := hide (R2.out.below OK.out hb)
  clear hb R2
  obtain ⟨⟨a0, a1, a2, a3, a4, a5, a6⟩, b0, b1, b2, b3, b4, b5, b6⟩ := HBX.out _ R3.out
  go_wp2_with fail
  refine (KP.out _ R3.out.bel).mono ?_
  rintro e w4 ⟨rfl, hb⟩
  have R4 := hide (R3.out.below OK.out hb)
  clear hb R3 a0 a1 a2 a3 a4 a5 a6 b0 b1 b2 b3 b4 b5 b6
  obtain ⟨⟨a0, a1, a2, a3, a4, a5, a6⟩, b0, b1, b2, b3, b4, b5, b6⟩ := HBX.out _ R4.out
  go_wp2
  go_ret
  exact bel_bool rfl R4.out.bel
end Go.Proofs.Ytapabbpdfplpoaa
