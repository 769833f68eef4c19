/-
  The reference of Escrow: Deliver, a message that arrives.
-/
import Derived.Test.YtapabbpdfplpoaaJ11
set_option linter.unusedSimpArgs false
set_option linter.unusedVariables false
namespace Go.Proofs.Ytapabbpdfplpoaa
open Go.RowKit Go.CH Go.CH.Esc
open Go.ChangeMaps (setBlock)

theorem refZ_of {g g' : GM} {s : RefP} (h : RefZ g s) (hl : g'.acc.length = g.acc.length) (hk : ∀ k, (g'.p2 k).ms = (g.p2 k).ms ∧ (g'.p2 k).H = (g.p2 k).H) : RefZ g' s := by
  intro k hk2
  rw [hl] at hk2
  have := h k hk2
  exact ⟨by rw [(hk k).1]; exact this.1, fun z hz => by rw [(hk k).2]; exact this.2 z hz⟩
theorem setA_same {g : GM} {k : Nat} (hk : k < g.acc.length) : g.setA (k : Int) (g.at_ k) = g := by
  unfold GM.setA
  have e2 : g.acc.set k (g.at_ (k : Int)) = g.acc := by rw [at_nat hk]; exact List.set_getElem_self hk
  simp only [Int.toNat_natCast]
  rw [e2]
theorem refZ_recv {g : GM} {s : RefP} {f t : Nat} (hne : (f : Int) ≠ t) (m : MsgG) (h : RefZ g s) : RefZ (recvM g f t m) s := by
  refine refZ_of h (recv_len _ _ _ _) fun k => ?_
  unfold GM.p2
  rw [recv_pr hne]
  split
  · rename_i e; rw [e]; exact ⟨rfl, rfl⟩
  · split
    · rename_i e; rw [e]; exact ⟨rfl, rfl⟩
    · exact ⟨rfl, rfl⟩
/-- The state of a delivery: Z, the box, the reference. -/
def DvO (Z : Own) (bm : Nat) (z : ZMsg) (g : GM) (p : Nat) (s : RefP) : Own := star Z (star (CellO bm #[.int .i64 (z.m.c + 1), .slice z.A z.ts.length z.c, .int .i64 z.m.rc, .bool z.m.rev] 158) (RefS g p s))
section
variable {F0 : Nat → Prop} {w0 W : World} {Z : Own} {bm : Nat} {z : ZMsg} {g : GM} {p : Nat} {s : RefP}
theorem dvO_ok (hZ : Z.Ok) : (DvO Z bm z g p s).Ok := star_ok hZ (star_ok cell_ok refS_ok)
structure DvR (W : World) (bm : Nat) (z : ZMsg) (g : GM) (p : Nat) (s : RefP) : Prop where
  m0 : W.cell? ⟨bm, 0, none⟩ = some (.int .i64 (z.m.c + 1))
  m1 : W.cell? ⟨bm, 1, none⟩ = some (.slice z.A z.ts.length z.c)
  m2 : W.cell? ⟨bm, 2, none⟩ = some (.int .i64 z.m.rc)
  m3 : W.cell? ⟨bm, 3, none⟩ = some (.bool z.m.rev)
  r : RefR W g p s
theorem dv_read (h : Run F0 w0 (DvO Z bm z g p s) W) : DvR W bm z g p s := by
  obtain ⟨F1, ⟨F2, F3, h1, ⟨F4, F5, h2, h3, _, _⟩, _, _⟩, _⟩ := h.own
  exact ⟨cell_at h2 rfl, cell_at h2 rfl, cell_at h2 rfl, cell_at h2 rfl, h3.read⟩
theorem dv_sub (hZ : Z.Ok) (h : Run F0 w0 (DvO Z bm z g p s) W) {g' : GM} {W' : World} (hs : ∀ F, Run F W (RefS g p s) W → Run F W (RefS g' p s) W') : Run F0 w0 (DvO Z bm z g' p s) W' := by
  have e : ∀ g, DvO Z bm z g p s = star (RefS g p s) (star Z (CellO bm #[.int .i64 (z.m.c + 1), .slice z.A z.ts.length z.c, .int .i64 z.m.rc, .bool z.m.rev] 158)) := fun g => by unfold DvO; ac_rfl
  obtain ⟨F, hA, bk⟩ := (h.perm (e g)).sub refS_ok (star_ok hZ cell_ok)
  exact (bk _ _ refS_ok (hs F hA)).perm (e g').symm
end
set_option maxRecDepth 100000 in
set_option maxHeartbeats 8000000 in
theorem rdel_once_in {w : World} {F : Nat → Prop} {g : GM} {p : Nat} (h : RefO g p w F) {U : Int} (hI : Inv g U) (hl : HB g 999999) {f t : Nat} (hd : delE g f t = true) :
    Calls Try.prog 64 #[.pointer (some ⟨p, 0, none⟩), .int .i64 f, .int .i64 t, .bool false, .bool false] w (RPost w F (.bool true) (delM g f t false false) p) := by
  obtain ⟨hp, m, ml, hm⟩ := delE_pair hd
  obtain ⟨hif, hit, hne⟩ := pair_is hp
  have hPr := hI.pr f t hp
  have hN0 := dlN_mk hI hp (m := m) (by rw [hm]; simp) (hl.mono (by omega))
  obtain ⟨s, hz, hS⟩ := h
  have hf : f < g.acc.length := by simpa using (is_lt hif).2
  have ht : t < g.acc.length := by simpa using (is_lt hit).2
  have hR := hS.read
  have KF := hide (ris_any hR f)
  have KT := hide (ris_any hR t)
  rw [hif] at KF
  rw [hit] at KT
  have c3 := hR.c3
  have p0 := hR.p f hf
  obtain ⟨-, -, -, q3⟩ := hR.q f t hf ht
  have hzk := hz (f, t) (mem_keys2.2 ⟨hf, ht⟩)
  have hn8 := hI.nb.2
  have hft : ((f : Int) == (t : Int)) = false := by simpa using hne
  have hft2 : ¬ ((f : Int) = (t : Int)) := hne
  obtain ⟨z, zs, hzs⟩ : ∃ z zs, (s.ps (f, t)).zs = z :: zs := by
    cases hz' : (s.ps (f, t)).zs with
    | nil => have := hzk.1; rw [hz', show (g.p2 (f, t)).ms = (g.pr ((f : Int), (t : Int))).ms from rfl, hm] at this; cases this
    | cons z zs => exact ⟨z, zs, rfl⟩
  have hzm := hzk.1
  rw [hzs, show (g.p2 (f, t)).ms = (g.pr ((f : Int), (t : Int))).ms from rfl, hm] at hzm
  injection hzm with hz1 hz2
  have hzt := hzk.2
  rw [hzs] at hzt
  have hlen : zs.length = ml.length := by rw [← hz2]; simp
  have hml : ml.length ≤ 99 := by have := hPr.msl; rw [hm] at this; simp at this; omega
  subst hz1
  have hpop : popM g f t false = g.setP ((f : Int), (t : Int)) { g.p2 (f, t) with ms := ml } := by unfold popM; rw [hm]; simp; rfl
  have hmod : delM g f t false false = recvM (popM g f t false) f t z.m := by unfold delM; rw [if_pos hd, hm]; rfl
  rw [hmod, hpop]
  -- the messages as they lie
  have hmsg : Hid (∀ (w' : World) (G : Nat → Prop), RefS g p s w' G → ∀ (k : Nat) (hk : k < (z :: zs).length), ∃ gB, (s.ps (f, t)).B = some ⟨gB, 0, none⟩ ∧ w'.cell? ⟨gB, k * 4, none⟩ = some (.int .i64 ((z :: zs)[k].m.c + 1)) ∧ w'.cell? ⟨gB, k * 4 + 1, none⟩ = some (.slice (z :: zs)[k].A (z :: zs)[k].ts.length (z :: zs)[k].c) ∧
      w'.cell? ⟨gB, k * 4 + 2, none⟩ = some (.int .i64 (z :: zs)[k].m.rc) ∧ w'.cell? ⟨gB, k * 4 + 3, none⟩ = some (.bool (z :: zs)[k].m.rev)) := hide (fun (w' : World) (G : Nat → Prop) (h' : RefS g p s w' G) (k : Nat) (hk : k < (z :: zs).length) => by
    have := ref_msg h' hf ht (k := k) (by rw [hzs]; exact hk)
    simp only [hzs] at this
    exact this)
  obtain ⟨gB, hgB, m0, m1, m2, m3⟩ := hmsg.out w F hS 0 (by simp)
  rw [hgB, hzs] at q3
  simp only [List.getElem_cons_zero] at m0 m1 m2 m3
  have R1 := (Run.start hS).fresh refS_ok (cell_new w (rcl z).toArray 158)
  have HR1 := hide R1
  have hq2 : (((z :: zs).length : Int) == 0) = false := by simp; omega
  have hq3 : ¬ (((z :: zs).length : Int) = 0) := by simp; omega
  have HZ := hide hz
  have HZK := hide hzk
  have HZS := hide hzs
  have HZT := hide hzt
  have HZ2 := hide hz2
  have HPr := hide hPr
  have HN0 := hide hN0
  have HI := hide hI
  have HP := hide hp
  obtain ⟨L, hLn⟩ : ∃ L, (z :: zs).length = L := ⟨_, rfl⟩
  rw [hLn] at q3 hq2 hq3
  have hL2 : L ≤ zs.length + 1 ∧ zs.length + 1 ≤ L := by rw [← hLn]; simp
  have hL3 := hL2.1
  have hL4 := hL2.2
  have hz99 : zs.length ≤ 99 := by omega
  have HLN := hide hLn
  clear hL2 hlen hS hR hI hPr hz hzk hzs hzt hz2 R1 hif hit hp hm hmod hpop hd hN0 hLn
  unfold rcl at HR1
  generalize hG : (recvM (g.setP ((f : Int), (t : Int)) { g.p2 (f, t) with ms := ml }) f t z.m : GM) = G at *
  have HG := hide hG
  clear hG
  go_enter Try.func64, Try.ntmps64
  go_wp2_with fail
  refine KF.out.mono ?_
  rintro e w' ⟨rfl, rfl⟩
  go_wp2_with fail
  refine KT.out.mono ?_
  rintro e w' ⟨rfl, rfl⟩
  go_wp2_with fail
  generalize w.heap.size = bm at *
  generalize w.alloc (.cells _ 158) = W1 at *
  clear m0 m1 m2 m3 c3 p0 q3 hq2 hq3 KF KT hgB
  go_loopw [12, 13] (fun v i wr => ∃ (k : Nat) (A : Option Addr) (c : Nat), 1 ≤ k ∧ k ≤ L ∧ i = .int .i64 k ∧ v = .slice A (k - 1) c ∧ Run F w (star (RowO 158 4 (.slice A (k - 1) c) (k - 1) ((zs.take (k - 1)).flatMap rcl)) (star (CellO bm #[.int .i64 (z.m.c + 1), .slice z.A z.ts.length z.c, .int .i64 z.m.rc, .bool z.m.rev] 158) (RefS g p s))) wr) (fun _ i _ => L - (intOf i).toNat)
  case atStart =>
    refine ⟨1, none, 0, Nat.le_refl _, by omega, rfl, rfl, ?_⟩
    exact (HR1.out.perm (emp_star _).symm).imp fun w F h => star_mono h (fun F h => row_of_emp h) (fun _ h => h)
  case round =>
    obtain ⟨k, A, c, hk1, hk2, rfl, rfl, hr⟩ := hrel
    obtain ⟨FS, hS2⟩ := (hr.perm (by ac_rfl : _ = star (RefS g p s) (star (RowO 158 4 (.slice A (k - 1) c) (k - 1) ((zs.take (k - 1)).flatMap rcl)) (CellO bm #[.int .i64 (z.m.c + 1), .slice z.A z.ts.length z.c, .int .i64 z.m.rc, .bool z.m.rev] 158)))).fst
    have hR2 := hS2.read
    have c3 := hR2.c3
    have p0 := hR2.p f hf
    obtain ⟨-, -, -, q3⟩ := hR2.q f t hf ht
    rw [HZS.out, HLN.out] at q3
    have HR := hide hr
    clear HR1
    by_cases hlt : k < L
    · obtain ⟨gB, hgB, m0, m1, m2, m3⟩ := hmsg.out wr FS hS2 k (by rw [HLN.out]; exact hlt)
      obtain ⟨k', rfl⟩ : ∃ k', k = k' + 1 := ⟨k - 1, by omega⟩
      have hk' : k' < zs.length := by omega
      simp only [List.getElem_cons_succ] at m0 m1 m2 m3
      rw [hgB] at q3
      have htk : (zs.take (k' + 1)).flatMap rcl = (zs.take k').flatMap rcl ++ rcl zs[k'] := by rw [List.take_succ_eq_append_getElem hk', List.flatMap_append]; simp
      have HTK := hide htk
      have hone := hide (rcl_one zs[k'])
      have hrcl : rcl zs[k'] = [.int .i64 (zs[k'].m.c + 1), .slice zs[k'].A zs[k'].ts.length zs[k'].c, .int .i64 zs[k'].m.rc, .bool zs[k'].m.rev] := rfl
      generalize zs[k'] = y at *
      have HRCL := hide hrcl
      simp only [Nat.add_sub_cancel] at HR ⊢
      have HR5 := hide ((HR.out.below (star_ok row_ok (star_ok cell_ok refS_ok)) ((Below.refl _ _).alloc (Nat.le_refl _) (.cells #[.int .i64 (y.m.c + 1), .slice y.A y.ts.length y.c, .int .i64 y.m.rc, .bool y.m.rev] 158))))
      have HSR := hide (show Src (wr.alloc (.cells #[.int .i64 (y.m.c + 1), .slice y.A y.ts.length y.c, .int .i64 y.m.rc, .bool y.m.rev] 158)) (some ⟨wr.heap.size, 0, none⟩) 1 4 (rcl y) from src_new wr (rcl y) 158 hone.out)
      clear hr hS2 hR2 htk hrcl
      go_wp2_with (at_builtin; refine held ?_)
      obtain ⟨F7, hR7, -, bk7⟩ := HR5.out.take row_ok (star_ok cell_ok refS_ok)
      refine Held.mk (wpList_app rfl (.tmp 74) (.tmp 89) rfl rmsgOk _ 0 (v := .slice A k' c) (n := k') rfl hR7.1 (A := some ⟨wr.heap.size, 0, none⟩) (m := 1) (c := 1) (news := rcl y) rfl HSR.out (by omega) (by omega) (Nat.zero_le _) ?_)
      intro v8 w8 ho8 hg8 hv8
      have S8 := bk7 _ _ (row_app hR7 ho8 hg8 hv8)
      obtain ⟨A8, c8, rfl⟩ := own_form ho8
      have HS8 := hide S8
      clear hR7 bk7 ho8 hg8 hv8 S8 HR5 HR m0 m1 m2 m3 c3 p0 q3 hgB
      go_wp2_with fail
      go_roundw
      case rel =>
        refine ⟨k' + 1 + 1, A8, c8, by omega, by omega, by go_num, by simp, ?_⟩
        rw [show k' + 1 + 1 - 1 = k' + 1 by omega, HTK.out]
        exact HS8.out
      case measure => simp [intOf]; omega
    · obtain rfl : L = k := by omega
      have hk0 : L - 1 = zs.length := by omega
      have htk : zs.take (L - 1) = zs := by rw [hk0]; simp
      have HR0 := HR.out
      rw [htk] at HR0
      rw [hk0] at HR0 ⊢
      have hzl : zs.length ≤ 99 := by omega
      clear hr hS2 hR2 htk hk0 HR c3 p0 q3 hmsg
      have HR9 := HR0
      clear HR0
      obtain ⟨FS, hS2⟩ := (HR9.perm (by ac_rfl : _ = star (RefS g p s) (star (RowO 158 4 (.slice A zs.length c) zs.length ((zs).flatMap rcl)) (CellO bm #[.int .i64 (z.m.c + 1), .slice z.A z.ts.length z.c, .int .i64 z.m.rc, .bool z.m.rev] 158)))).fst
      have c3 := hS2.read.c3
      have p0 := hS2.read.p f hf
      obtain ⟨-, -, -, q3⟩ := hS2.read.q f t hf ht
      obtain ⟨zf, hQ⟩ := ref_queue (ms := ml) cell_ok hf ht (xs := zs) (rfl) (Zx := zow z) (zow_ok z) (by rw [HZS.out]; rfl) HR9
      have HQ := hide hQ
      rw [HZS.out, HLN.out] at q3
      clear hS2 HR9 hQ
      go_wp2_with fail
      generalize wr.setCell ⟨s.row f, t * 4 + 3, none⟩ (.slice A zs.length c) = W2 at *
      have HZ1 := hide (refZ_setP HZ.out (k := f) (j := t) (q := { g.p2 (f, t) with ms := ml }) (l := { s.ps (f, t) with B := A, d := c, zs := zs }) ⟨HZ2.out, fun y hy => HZT.out y (by simp at hy ⊢; exact .inr hy)⟩)
      have hne1 := hne
      have hok : (zow z : Own).Ok := zow_ok z
      have HZR := hide (show ∀ (g' : GM) (W' : World), g'.acc.length = g.acc.length → Run F w (DvO (zow z) bm z g' p (updP s f t { s.ps (f, t) with B := A, d := c, zs := zs })) W' → ∀ i (hi : i < z.ts.length), ∃ gz, z.A = some ⟨gz, 0, none⟩ ∧ W'.cell? ⟨gz, i, none⟩ = some (.int .i64 z.ts[i]) from fun g' W' hl1 h' i hi => by
        obtain ⟨F1, ⟨F2, F3, hZx, ⟨F4, F5, h2, hS2, _, _⟩, _, _⟩, _⟩ := h'.own
        obtain ⟨F', hz'⟩ : ∃ F', zow z W' F' := ⟨_, hZx⟩
        exact zow_cell hz' hi)
      have hHZ := hide (show z.ts = msgT ((g.setP ((f : Int), (t : Int)) { g.p2 (f, t) with ms := ml }).p2 (f, t)).H z.m by rw [p2_setP, if_pos rfl]; exact HZT.out z (by simp))
      have hN1 : DlN ((g.setP ((f : Int), (t : Int)) { g.p2 (f, t) with ms := ml }).p2 (f, t)) ((g.setP ((f : Int), (t : Int)) { g.p2 (f, t) with ms := ml }).p2 (t, f)) z.m ((g.setP ((f : Int), (t : Int)) { g.p2 (f, t) with ms := ml }).at_ t).u := by
        have hN := HN0.out
        rw [p2_setP, if_pos rfl, p2_setP, if_neg (fun e => hne (by rw [Prod.mk.injEq] at e; exact congrArg Int.ofNat e.1.symm)), setP_at]
        exact ⟨hN.cr, hN.cu, hN.up, hN.few, hN.big, hN.pos, hN.u0, hN.u1, hN.bc, hN.bm, hN.bl, hN.bf, hN.bb⟩
      have HN1 := hide hN1
      have hl1 : (g.setP ((f : Int), (t : Int)) { g.p2 (f, t) with ms := ml }).acc.length = g.acc.length := rfl
      have HQ2 : Hid (Run F w (DvO (zow z) bm z (g.setP ((f : Int), (t : Int)) { g.p2 (f, t) with ms := ml }) p (updP s f t { s.ps (f, t) with B := A, d := c, zs := zs })) W2) := HQ
      have HZX := hide hok
      generalize (zow z : Own) = Zx at *
      generalize updP s f t { s.ps (f, t) with B := A, d := c, zs := zs } = s1 at *
      have HLG := hide hl1
      rw [← hl1] at hf ht HZR hn8
      have hf' := hf
      have ht' := ht
      clear hl1 HQ c3 p0 q3 zf hok HZ HZK HZS HZT HZ2 HPr HN0 HI HP HLN hN1 HLG
      generalize g.setP ((f : Int), (t : Int)) { g.p2 (f, t) with ms := ml } = g1 at *
      obtain ⟨n, hn⟩ : ∃ n, z.ts.length = n := ⟨_, rfl⟩
      have hcn : z.m.c + n = z.m.up := by
        have hN := HN1.out
        have := congrArg List.length hHZ.out
        unfold msgT at this
        rw [msg_len _ _ _ hN.up, hn] at this
        have := hN.cu
        omega
      have hup6 : z.m.up ≤ 1000000 := by have hN := HN1.out; have := hN.up; have := hN.big; omega
      have HNZ := hide hn
      have HCN := hide hcn
      have hn6 : n ≤ 1000000 := by omega
      have hc6 : z.m.c ≤ 1000000 := by omega
      have hst := hide (show Run F w (DvO Zx bm z (dgj g1 f t z.m 0) p s1) W2 by rw [dgj_zero ht (HN1.out.cr)]; exact HQ2.out)
      clear hcn hn HQ2 hL3 hL4 hz99 hml hlt hk1 hk2
      try go_wp2_with fail
      generalize (Value.agg #[.int .i64 ((z.m.c : Int) + 1), .slice z.A z.ts.length z.c, .int .i64 z.m.rc, .bool z.m.rev]) = av
      go_loopw [14] (fun i wr => ∃ j : Nat, j ≤ n ∧ i = .int .i64 j ∧ Run F w (DvO Zx bm z (dgj g1 f t z.m j) p s1) wr) (fun i _ => n - (intOf i).toNat)
      case atStart => exact ⟨0, Nat.zero_le _, rfl, hst.out⟩
      case round =>
        obtain ⟨j, hj, rfl, hr⟩ := hrel
        have hrd := dv_read hr
        have m0 := hrd.m0
        have m1 := hrd.m1
        have m2 := hrd.m2
        have m3 := hrd.m3
        rw [HNZ.out] at m1
        have c0 := hrd.r.c0
        have c3 := hrd.r.c3
        have pf := hrd.r.p f (by rw [dgj_len]; exact hf)
        have pt := hrd.r.p t (by rw [dgj_len]; exact ht)
        obtain ⟨-, qf, -, -⟩ := hrd.r.q f t (by rw [dgj_len]; exact hf) (by rw [dgj_len]; exact ht)
        obtain ⟨-, -, qt, -⟩ := hrd.r.q t f (by rw [dgj_len]; exact ht) (by rw [dgj_len]; exact hf)
        obtain ⟨ut, -, -⟩ := hrd.r.u t (by rw [dgj_len]; exact ht)
        obtain ⟨uf, -, -⟩ := hrd.r.f (by rw [dgj_len]; omega) t
        have qff := hrd.r.qf f t (by rw [dgj_len]; exact hf) (by rw [dgj_len]; exact ht) (t * 4 + 1)
        rw [← at_nat (by rw [dgj_len]; exact ht), dgj_at ht] at ut
        rw [dgj_p2] at qf
        rw [dgj_p2b hne1] at qt
        rw [dgj_len] at c0 c3 pf pt
        simp only [] at ut qf
        have HR := hide hr
        clear hst hrd
        by_cases hlt : j < n
        · obtain ⟨gz, hgz, zc⟩ := HZR.out _ _ (dgj_len j) hr j (by rw [HNZ.out]; exact hlt)
          have hj2 : z.m.c + j < z.m.up := by have := HCN.out; omega
          have hzx : z.ts[j]'(by rw [HNZ.out]; exact hlt) = z.ts[j]'(by rw [HNZ.out]; exact hlt) := rfl
          have hget : z.ts[j]? = (((g1.p2 (f, t)).H.take z.m.up).drop z.m.c)[j]? := by rw [hHZ.out]; rfl
          rw [List.getElem?_eq_getElem (by rw [HNZ.out]; exact hlt)] at hget
          have t1 : IntKind.i64.wrap ((z.m.c : Int) + 1 + j) = (z.m.c : Int) + 1 + j := IntWalk.i64_in _ (by omega)
          by_cases hrc : (g1.p2 (f, t)).rc ≤ z.m.c + j
          · obtain ⟨e1, e2, x, hx, hx1, hs, hlo, hhi⟩ := dl_yes HN1.out hj2 hrc
            rw [hx] at hget
            injection hget with hget
            rw [hget] at zc
            have qf2 : wr.cell? ⟨s1.row f, t * 4 + 1, none⟩ = some (.int .i64 ((max (g1.p2 (f, t)).rc (z.m.c + j) : Nat) : Int)) := qf
            rw [e1] at qf2
            obtain ⟨r, hre⟩ : ∃ r : Nat, z.m.c + j = r := ⟨_, rfl⟩
            rw [hre] at qf2
            have h9 : (r : Int) < (z.m.c : Int) + 1 + j := by omega
            have h10 : decide ((r : Int) < (z.m.c : Int) + 1 + j) = true := decide_eq_true h9
            have hnx := dgj_next (g := g1) (f := f) (m := z.m) ht j ((g1.at_ t).u + isum (((g1.p2 (f, t)).H.take (z.m.c + (j + 1))).drop (g1.p2 (f, t)).rc)) (z.m.c + j + 1) rfl e2.symm
            rw [hs] at hnx
            have HNX := hide hnx
            generalize (g1.at_ t).u + isum (((g1.p2 (f, t)).H.take (z.m.c + j)).drop (g1.p2 (f, t)).rc) = v at *
            have t2 : IntKind.i64.wrap (v + x) = v + x := IntWalk.i64_in _ (by omega)
            have hc9 : ((z.m.c + j + 1 : Nat) : Int) = (z.m.c : Int) + 1 + j := by omega
            have HC9 := hide hc9
            clear hs hx hget hzx e1 e2 hre qf hr hnx hc9 hrc m2 m3 pt qt
            go_wp2_with fail
            refine wp_region_lex (fun w' => w'.cell? ⟨bm, 0, none⟩ = some (.int .i64 (z.m.c + 1)) ∧ w'.cell? ⟨p, 3, none⟩ = some (.slice (some ⟨s1.bP, 0, none⟩) g1.acc.length s1.cP) ∧ w'.cell? ⟨s1.bP, f, none⟩ = some (.slice (some ⟨s1.row f, 0, none⟩) g1.acc.length g1.acc.length) ∧ w'.cell? ⟨s1.row f, t * 4 + 1, none⟩ = some (.int .i64 r)) (by kernel_rfl) (by kernel_rfl) ⟨m0, c3, pf, qf2⟩ ?_
            (repeat (first | (refine lex_skip (by rfl) ?_; try simp only [Act.put, List.setIfInBounds_toArray, List.set_cons_zero, List.set_cons_succ]) | (refine lex_read (v := ?_) (by rfl) ?_ ?_; rotate_left; (focus (intro w' hS'; go_simp; (try with_reducible rfl); done)); try simp only [Act.put, List.setIfInBounds_toArray, List.set_cons_zero, List.set_cons_succ])))
            refine lex_nil ?_
            go_wp2_with fail
            have V1 := HR.out.drew (dvO_ok HZX.out)
            have HV1 := hide V1
            refine wp_region_lew [19] [0, 0, 0, 0, 0, 0, 0, 0, 0, 0, 0, 0, 0, 0, 0, 0, 0, 0, 0, 1] (fun w' => w'.cell? ⟨p, 0, none⟩ = some (.slice (some ⟨s1.bU, 0, none⟩) g1.acc.length g1.acc.length) ∧ w'.cell? ⟨s1.bU, t, none⟩ = some (.int .i64 v) ∧ w'.cell? ⟨bm, 1, none⟩ = some (.slice z.A n z.c) ∧ w'.cell? ⟨gz, j, none⟩ = some (.int .i64 x)) (fun _ => True) (fun _ => True) (fun _ => True) (fun _ _ => trivial) (fun _ h => h) (fun _ h => h) (by kernel_rfl) (by kernel_rfl) (by kernel_rfl) (by kernel_rfl) (by exact ⟨c0, ut, m1, zc⟩) ?_
            (repeat (first | (refine lew_skip (by rfl) (by rfl) ?_; try simp only [Act.put, List.setIfInBounds_toArray, List.set_cons_zero, List.set_cons_succ]) | (refine lew_read0 (v := ?_) (by rfl) (by rfl) ?_ ?_; rotate_left; (focus (intro w' hS'; go_simp; (try with_reducible rfl); done)); try simp only [Act.put, List.setIfInBounds_toArray, List.set_cons_zero, List.set_cons_succ]) | (refine lew_read1 (v := ?_) (by rfl) (by rfl) ?_ ?_; rotate_left; (focus (intro w' hS'; go_simp; (try with_reducible rfl); done)); try simp only [Act.put, List.setIfInBounds_toArray, List.set_cons_zero, List.set_cons_succ]) | (refine lew_read2 (v := ?_) (by rfl) (by rfl) ?_ ?_; rotate_left; (focus (intro w' hS'; go_simp; (try with_reducible rfl); done)); try simp only [Act.put, List.setIfInBounds_toArray, List.set_cons_zero, List.set_cons_succ]) | (refine lew_read3 (v := ?_) (by rfl) (by rfl) ?_ ?_; rotate_left; (focus (intro w' hS'; go_simp; (try with_reducible rfl); done)); try simp only [Act.put, List.setIfInBounds_toArray, List.set_cons_zero, List.set_cons_succ]) | (refine lew_read4 (v := ?_) (by rfl) (by rfl) ?_ ?_; rotate_left; (focus (intro w' hS'; go_simp; (try with_reducible rfl); done)); try simp only [Act.put, List.setIfInBounds_toArray, List.set_cons_zero, List.set_cons_succ])))
            refine lew_chain1 rfl (by rfl) (fun K hK => ?_)
            go_wp2_with fail
            have V2 := dv_sub HZX.out V1 (fun F h => (ref_setU (h.drew refS_ok) (k := t) (by rw [dgj_len]; exact ht) (v + x)))
            have V3 : Run F w (DvO Zx bm z ((dgj g1 f t z.m j).setA (t : Int) { (dgj g1 f t z.m j).at_ (t : Int) with u := v + x }) p s1) ((wr.setCell ⟨s1.bU, t, none⟩ (.int .i64 (v + x))).drew.drew) := V2
            have HV3 := hide V3
            refine hK.out _ _ trivial (lew_nil ?_)
            clear hK V1 V2 V3 m0 m1 c0 c3 pf qf2 ut uf qff zc hgz t2
            go_wp2_with fail
            generalize (wr.setCell ⟨s1.bU, t, none⟩ (.int .i64 (v + x))).drew.drew = W7 at *
            have hrd := dv_read HV3.out
            have m0 := hrd.m0
            have c3 := hrd.r.c3
            have pf := hrd.r.p f (by rw [setA_len, dgj_len]; exact hf)
            have qff := hrd.r.qf f t (by rw [setA_len, dgj_len]; exact hf) (by rw [setA_len, dgj_len]; exact ht) (t * 4 + 1)
            obtain ⟨-, qfc, -, -⟩ := hrd.r.q f t (by rw [setA_len, dgj_len]; exact hf) (by rw [setA_len, dgj_len]; exact ht)
            rw [setA_len, dgj_len] at c3 pf
            have V4 := dv_sub HZX.out HV3.out (fun F h => (ref_setRc (h.drew refS_ok) (f := f) (t := t) (by rw [setA_len, dgj_len]; exact hf) (by rw [setA_len, dgj_len]; exact ht) (z.m.c + j + 1)))
            rw [HNX.out, HC9.out] at V4
            have V5 : Run F w (DvO Zx bm z (dgj g1 f t z.m (j + 1)) p s1) ((W7.setCell ⟨s1.row f, t * 4 + 1, none⟩ (.int .i64 ((z.m.c : Int) + 1 + j))).drew) := V4
            have HV5 := hide V5
            clear V4 V5 hrd HV3
            refine wp_region_lew [14] [0, 0, 0, 0, 0, 0, 0, 0, 0, 0, 0, 0, 0, 0, 1] (fun w' => w'.cell? ⟨p, 3, none⟩ = some (.slice (some ⟨s1.bP, 0, none⟩) g1.acc.length s1.cP) ∧ w'.cell? ⟨s1.bP, f, none⟩ = some (.slice (some ⟨s1.row f, 0, none⟩) g1.acc.length g1.acc.length) ∧ w'.cell? ⟨bm, 0, none⟩ = some (.int .i64 (z.m.c + 1))) (fun _ => True) (fun _ => True) (fun _ => True) (fun _ _ => trivial) (fun _ h => h) (fun _ h => h) (by kernel_rfl) (by kernel_rfl) (by kernel_rfl) (by kernel_rfl) (by exact ⟨c3, pf, m0⟩) ?_
            (repeat (first | (refine lew_skip (by rfl) (by rfl) ?_; try simp only [Act.put, List.setIfInBounds_toArray, List.set_cons_zero, List.set_cons_succ]) | (refine lew_read0 (v := ?_) (by rfl) (by rfl) ?_ ?_; rotate_left; (focus (intro w' hS'; go_simp; (try with_reducible rfl); done)); try simp only [Act.put, List.setIfInBounds_toArray, List.set_cons_zero, List.set_cons_succ]) | (refine lew_read1 (v := ?_) (by rfl) (by rfl) ?_ ?_; rotate_left; (focus (intro w' hS'; go_simp; (try with_reducible rfl); done)); try simp only [Act.put, List.setIfInBounds_toArray, List.set_cons_zero, List.set_cons_succ]) | (refine lew_read2 (v := ?_) (by rfl) (by rfl) ?_ ?_; rotate_left; (focus (intro w' hS'; go_simp; (try with_reducible rfl); done)); try simp only [Act.put, List.setIfInBounds_toArray, List.set_cons_zero, List.set_cons_succ]) | (refine lew_read3 (v := ?_) (by rfl) (by rfl) ?_ ?_; rotate_left; (focus (intro w' hS'; go_simp; (try with_reducible rfl); done)); try simp only [Act.put, List.setIfInBounds_toArray, List.set_cons_zero, List.set_cons_succ]) | (refine lew_read4 (v := ?_) (by rfl) (by rfl) ?_ ?_; rotate_left; (focus (intro w' hS'; go_simp; (try with_reducible rfl); done)); try simp only [Act.put, List.setIfInBounds_toArray, List.set_cons_zero, List.set_cons_succ])))
            refine lew_chain1 rfl (by rfl) (fun K hK => ?_)
            go_wp2_with fail
            refine hK.out _ _ trivial (lew_nil ?_)
            clear hK c3 pf m0 qff qfc
            go_wp2_with fail
            go_roundw
            case rel => exact ⟨j + 1, by omega, by go_num, HV5.out⟩
            case measure => simp [intOf]; omega
          · obtain ⟨e1, e2, e3⟩ := dl_no HN1.out hj2 hrc
            have qf2 : wr.cell? ⟨s1.row f, t * 4 + 1, none⟩ = some (.int .i64 ((max (g1.p2 (f, t)).rc (z.m.c + j) : Nat) : Int)) := qf
            rw [e1] at qf2
            obtain ⟨r, hre⟩ : ∃ r : Nat, (g1.p2 (f, t)).rc = r := ⟨_, rfl⟩
            have hrc' := hrc
            rw [hre] at qf2 hrc'
            have h9 : ¬ ((r : Int) < (z.m.c : Int) + 1 + j) := by omega
            have h10 : decide ((r : Int) < (z.m.c : Int) + 1 + j) = false := decide_eq_false h9
            have HV5 := hide (show Run F w (DvO Zx bm z (dgj g1 f t z.m (j + 1)) p s1) wr.drew by
              rw [dgj_stay j (by rw [e1, e2]) e3]; exact HR.out.drew (dvO_ok HZX.out))
            clear hget hzx e1 e2 e3 hre qf hr hrc hrc' m2 m3 pt qt ut uf qff c0 zc hgz HR
            go_wp2_with fail
            refine wp_region_lex (fun w' => w'.cell? ⟨bm, 0, none⟩ = some (.int .i64 (z.m.c + 1)) ∧ w'.cell? ⟨p, 3, none⟩ = some (.slice (some ⟨s1.bP, 0, none⟩) g1.acc.length s1.cP) ∧ w'.cell? ⟨s1.bP, f, none⟩ = some (.slice (some ⟨s1.row f, 0, none⟩) g1.acc.length g1.acc.length) ∧ w'.cell? ⟨s1.row f, t * 4 + 1, none⟩ = some (.int .i64 r)) (by kernel_rfl) (by kernel_rfl) ⟨m0, c3, pf, qf2⟩ ?_
            (repeat (first | (refine lex_skip (by rfl) ?_; try simp only [Act.put, List.setIfInBounds_toArray, List.set_cons_zero, List.set_cons_succ]) | (refine lex_read (v := ?_) (by rfl) ?_ ?_; rotate_left; (focus (intro w' hS'; go_simp; (try with_reducible rfl); done)); try simp only [Act.put, List.setIfInBounds_toArray, List.set_cons_zero, List.set_cons_succ])))
            refine lex_nil ?_
            go_wp2_with fail
            go_roundw
            case rel => exact ⟨j + 1, by omega, by go_num, HV5.out⟩
            case measure => simp [intOf]; omega
        · have hjn : z.m.c + j = z.m.up := by have := HCN.out; omega
          have hall := fun rv => dgj_all (g := g1) (f := f) (m := z.m) ht hne1 j hjn rv
          have hg0 := hall true
          rw [HG.out] at hg0
          clear hall
          have hN := HN1.out
          have hq2 : wr.cell? ⟨s1.row t, f * 4 + 2, none⟩ = some (.int .i64 (g1.p2 (t, f)).conf) := qt
          have hcf0 := hN.bc
          have hmr := hN.bm
          have hrl := hN.bl
          have hbb := hN.bb
          have HGG := hide hg0
          have HZ1' := hide (refZ_recv hne1 z.m HZ1.out)
          rw [HG.out] at HZ1'
          have hrv : ∃ rv, (g1.at_ (t : Int)).rev = rv := ⟨_, rfl⟩
          obtain ⟨rv, hrv⟩ := hrv
          clear hr hN hg0 HN1 qf c0 pf ut uf qff m0
          by_cases hcf : (g1.p2 (t, f)).conf < z.m.rc
          · have hmx : max (g1.p2 (t, f)).conf z.m.rc = z.m.rc := by omega
            have h9 : ((g1.p2 (t, f)).conf : Int) < (z.m.rc : Int) := by omega
            have h10 : decide (((g1.p2 (t, f)).conf : Int) < (z.m.rc : Int)) = true := decide_eq_true h9
            have V1 := HR.out.drew (dvO_ok HZX.out)
            have V2 := dv_sub HZX.out V1 (fun F h => (ref_setCf (h.drew refS_ok) (f := t) (t := f) (by rw [dgj_len]; exact ht) (by rw [dgj_len]; exact hf) z.m.rc))
            rw [dgj_p2b hne1] at V2
            rw [hmx] at HGG
            have V3 : Run F w (DvO Zx bm z ((dgj g1 f t z.m j).setP ((t : Int), (f : Int)) { g1.p2 (t, f) with conf := z.m.rc }) p s1) ((wr.setCell ⟨s1.row t, f * 4 + 2, none⟩ (.int .i64 z.m.rc)).drew.drew) := V2
            have HV3 := hide V3
            have qtf := (dv_read HR.out).r.qf t f (by rw [dgj_len]; exact ht) (by rw [dgj_len]; exact hf) (f * 4 + 2)
            generalize (g1.p2 (t, f)).conf = cf at *
            clear V1 V2 V3 hmx hcf hcf0 hmr hrl hbb qt
            go_wp2_with fail
            refine wp_region_lex (fun w' => w'.cell? ⟨bm, 2, none⟩ = some (.int .i64 z.m.rc) ∧ w'.cell? ⟨p, 3, none⟩ = some (.slice (some ⟨s1.bP, 0, none⟩) g1.acc.length s1.cP) ∧ w'.cell? ⟨s1.bP, t, none⟩ = some (.slice (some ⟨s1.row t, 0, none⟩) g1.acc.length g1.acc.length) ∧ w'.cell? ⟨s1.row t, f * 4 + 2, none⟩ = some (.int .i64 cf)) (by kernel_rfl) (by kernel_rfl) ⟨m2, c3, pt, hq2⟩ ?_
            (repeat (first | (refine lex_skip (by rfl) ?_; try simp only [Act.put, List.setIfInBounds_toArray, List.set_cons_zero, List.set_cons_succ]) | (refine lex_read (v := ?_) (by rfl) ?_ ?_; rotate_left; (focus (intro w' hS'; go_simp; (try with_reducible rfl); done)); try simp only [Act.put, List.setIfInBounds_toArray, List.set_cons_zero, List.set_cons_succ])))
            refine lex_nil ?_
            go_wp2_with fail
            refine wp_region_lew [12] [0, 0, 0, 0, 0, 0, 0, 0, 0, 0, 0, 0, 1] (fun w' => w'.cell? ⟨bm, 2, none⟩ = some (.int .i64 z.m.rc) ∧ w'.cell? ⟨p, 3, none⟩ = some (.slice (some ⟨s1.bP, 0, none⟩) g1.acc.length s1.cP) ∧ w'.cell? ⟨s1.bP, t, none⟩ = some (.slice (some ⟨s1.row t, 0, none⟩) g1.acc.length g1.acc.length)) (fun _ => True) (fun _ => True) (fun _ => True) (fun _ _ => trivial) (fun _ h => h) (fun _ h => h) (by kernel_rfl) (by kernel_rfl) (by kernel_rfl) (by kernel_rfl) (by exact ⟨m2, c3, pt⟩) ?_
            (repeat (first | (refine lew_skip (by rfl) (by rfl) ?_; try simp only [Act.put, List.setIfInBounds_toArray, List.set_cons_zero, List.set_cons_succ]) | (refine lew_read0 (v := ?_) (by rfl) (by rfl) ?_ ?_; rotate_left; (focus (intro w' hS'; go_simp; (try with_reducible rfl); done)); try simp only [Act.put, List.setIfInBounds_toArray, List.set_cons_zero, List.set_cons_succ]) | (refine lew_read1 (v := ?_) (by rfl) (by rfl) ?_ ?_; rotate_left; (focus (intro w' hS'; go_simp; (try with_reducible rfl); done)); try simp only [Act.put, List.setIfInBounds_toArray, List.set_cons_zero, List.set_cons_succ]) | (refine lew_read2 (v := ?_) (by rfl) (by rfl) ?_ ?_; rotate_left; (focus (intro w' hS'; go_simp; (try with_reducible rfl); done)); try simp only [Act.put, List.setIfInBounds_toArray, List.set_cons_zero, List.set_cons_succ]) | (refine lew_read3 (v := ?_) (by rfl) (by rfl) ?_ ?_; rotate_left; (focus (intro w' hS'; go_simp; (try with_reducible rfl); done)); try simp only [Act.put, List.setIfInBounds_toArray, List.set_cons_zero, List.set_cons_succ]) | (refine lew_read4 (v := ?_) (by rfl) (by rfl) ?_ ?_; rotate_left; (focus (intro w' hS'; go_simp; (try with_reducible rfl); done)); try simp only [Act.put, List.setIfInBounds_toArray, List.set_cons_zero, List.set_cons_succ])))
            refine lew_chain1 rfl (by rfl) (fun K hK => ?_)
            go_wp2_with fail
            refine hK.out _ _ trivial (lew_nil ?_)
            clear hK
            generalize hY : (dgj g1 f t z.m j).setP ((t : Int), (f : Int)) { g1.p2 (t, f) with conf := z.m.rc } = Y at *
            have hYl : Y.acc.length = g1.acc.length := by rw [← hY]; exact dgj_len j
            have hYa : Y.at_ (t : Int) = { g1.at_ t with u := (g1.at_ t).u + isum (((g1.p2 (f, t)).H.take z.m.up).drop (g1.p2 (f, t)).rc) } := by rw [← hY, setP_at, dgj_at ht, hjn]
            generalize (wr.setCell ⟨s1.row t, f * 4 + 2, none⟩ (.int .i64 z.m.rc)).drew.drew = W7 at *
            clear m2 m3 c3 pt hq2 qtf h9 h10
            have hrd := dv_read HV3.out
            have m3 := hrd.m3
            have c2 := hrd.r.c2
            obtain ⟨-, -, rr⟩ := hrd.r.u t (by rw [hYl]; exact ht)
            obtain ⟨-, -, rf⟩ := hrd.r.f (by rw [hYl]; omega) t
            rw [hYl] at c2
            rw [← at_nat (by rw [hYl]; exact ht)] at rr
            cases hmv : z.m.rev with
            | true =>
              have V4 := dv_sub HZX.out HV3.out (fun F h => ref_setR h (k := t) (by rw [hYl]; exact ht) true)
              have hfe : Y.setA (t : Int) { Y.at_ (t : Int) with rev := true } = G := by
                rw [hYa, ← HGG.out, hmv, Bool.or_true]
              rw [hfe] at V4
              have HFIN := hide (V4.drop.drop.post refS_ok)
              rw [hmv] at m3
              clear hrd hfe V4 hYa hYl hY hrv hmv HV3 hHZ HCN HGG HR HZR HG
              generalize (Y.at_ (t : Int)).rev = yr at *
              go_wp2_with fail
              go_ret
              obtain ⟨F', y1, y2, y3⟩ := HFIN.out
              exact ⟨rfl, F', ⟨_, HZ1'.out, y1⟩, y2, y3⟩
            | false =>
              have hfe : Y = G := by
                have h1 := HGG.out
                rw [hmv, Bool.or_false] at h1
                have h2 := setA_same (g := Y) (k := t) (by rw [hYl]; exact ht)
                rw [hYa] at h2
                exact h2.symm.trans h1
              have HFIN0 := HV3.out.drop.drop.post refS_ok
              rw [hfe] at HFIN0
              have HFIN := hide HFIN0
              rw [hmv] at m3
              clear hrd hfe HFIN0 hYa hYl hY hrv hmv HV3 hHZ HCN HGG HR HZR HG rr rf c2
              go_wp2_with fail
              go_ret
              obtain ⟨F', y1, y2, y3⟩ := HFIN.out
              exact ⟨rfl, F', ⟨_, HZ1'.out, y1⟩, y2, y3⟩
          · have hmx : max (g1.p2 (t, f)).conf z.m.rc = (g1.p2 (t, f)).conf := by omega
            have h9 : ¬ (((g1.p2 (t, f)).conf : Int) < (z.m.rc : Int)) := by omega
            have h10 : decide (((g1.p2 (t, f)).conf : Int) < (z.m.rc : Int)) = false := decide_eq_false h9
            have hsame : (dgj g1 f t z.m j).setP ((t : Int), (f : Int)) { g1.p2 (t, f) with conf := (g1.p2 (t, f)).conf } = dgj g1 f t z.m j := by
              have e := setP_same (dgj g1 f t z.m j) ((t : Int), (f : Int))
              rw [show (dgj g1 f t z.m j).pr ((t : Int), (f : Int)) = g1.p2 (t, f) from dgj_p2b hne1 j] at e
              exact e
            rw [hmx, hsame] at HGG
            have HV3 := hide (HR.out.drew (dvO_ok HZX.out))
            generalize (g1.p2 (t, f)).conf = cf at *
            clear hmx hsame hcf hcf0 hmr hrl hbb qt
            go_wp2_with fail
            refine wp_region_lex (fun w' => w'.cell? ⟨bm, 2, none⟩ = some (.int .i64 z.m.rc) ∧ w'.cell? ⟨p, 3, none⟩ = some (.slice (some ⟨s1.bP, 0, none⟩) g1.acc.length s1.cP) ∧ w'.cell? ⟨s1.bP, t, none⟩ = some (.slice (some ⟨s1.row t, 0, none⟩) g1.acc.length g1.acc.length) ∧ w'.cell? ⟨s1.row t, f * 4 + 2, none⟩ = some (.int .i64 cf)) (by kernel_rfl) (by kernel_rfl) ⟨m2, c3, pt, hq2⟩ ?_
            (repeat (first | (refine lex_skip (by rfl) ?_; try simp only [Act.put, List.setIfInBounds_toArray, List.set_cons_zero, List.set_cons_succ]) | (refine lex_read (v := ?_) (by rfl) ?_ ?_; rotate_left; (focus (intro w' hS'; go_simp; (try with_reducible rfl); done)); try simp only [Act.put, List.setIfInBounds_toArray, List.set_cons_zero, List.set_cons_succ])))
            refine lex_nil ?_
            generalize hY : dgj g1 f t z.m j = Y at *
            have hYl : Y.acc.length = g1.acc.length := by rw [← hY]; exact dgj_len j
            have hYa : Y.at_ (t : Int) = { g1.at_ t with u := (g1.at_ t).u + isum (((g1.p2 (f, t)).H.take z.m.up).drop (g1.p2 (f, t)).rc) } := by rw [← hY, dgj_at ht, hjn]
            generalize wr.drew = W7 at *
            clear m2 m3 c3 pt hq2
            have hrd := dv_read HV3.out
            have m3 := hrd.m3
            have c2 := hrd.r.c2
            obtain ⟨-, -, rr⟩ := hrd.r.u t (by rw [hYl]; exact ht)
            obtain ⟨-, -, rf⟩ := hrd.r.f (by rw [hYl]; omega) t
            rw [hYl] at c2
            rw [← at_nat (by rw [hYl]; exact ht)] at rr
            cases hmv : z.m.rev with
            | true =>
              have V4 := dv_sub HZX.out HV3.out (fun F h => ref_setR h (k := t) (by rw [hYl]; exact ht) true)
              have hfe : Y.setA (t : Int) { Y.at_ (t : Int) with rev := true } = G := by
                rw [hYa, ← HGG.out, hmv, Bool.or_true]
              rw [hfe] at V4
              have HFIN := hide (V4.drop.drop.post refS_ok)
              rw [hmv] at m3
              clear hrd hfe V4 hYa hYl hY hrv hmv HV3 hHZ HCN HGG HR HZR HG
              generalize (Y.at_ (t : Int)).rev = yr at *
              go_wp2_with fail
              go_ret
              obtain ⟨F', y1, y2, y3⟩ := HFIN.out
              exact ⟨rfl, F', ⟨_, HZ1'.out, y1⟩, y2, y3⟩
            | false =>
              have hfe : Y = G := by
                have h1 := HGG.out
                rw [hmv, Bool.or_false] at h1
                have h2 := setA_same (g := Y) (k := t) (by rw [hYl]; exact ht)
                rw [hYa] at h2
                exact h2.symm.trans h1
              have HFIN0 := HV3.out.drop.drop.post refS_ok
              rw [hfe] at HFIN0
              have HFIN := hide HFIN0
              rw [hmv] at m3
              clear hrd hfe HFIN0 hYa hYl hY hrv hmv HV3 hHZ HCN HGG HR HZR HG rr rf c2
              go_wp2_with fail
              go_ret
              obtain ⟨F', y1, y2, y3⟩ := HFIN.out
              exact ⟨rfl, F', ⟨_, HZ1'.out, y1⟩, y2, y3⟩
end Go.Proofs.Ytapabbpdfplpoaa
