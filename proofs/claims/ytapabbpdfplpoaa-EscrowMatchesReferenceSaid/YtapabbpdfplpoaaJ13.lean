/-
  The reference of Escrow: Deliver, a message that arrives and comes again.
  The reference of Escrow: Flying.
  The reference of Escrow: Send, Deliver, whole; want.
  A region that draws its order, by an invariant over the operations that have been listed.
-/
import Derived.Test.YtapabbpdfplpoaaJ12
import Derived.Test.YtapabbpdfplpoaaJ11
import Derived.Test.YtapabbpdfplpoaaJ3
set_option linter.unusedSimpArgs false
set_option linter.unusedVariables false
namespace Go.Proofs.Ytapabbpdfplpoaa
open Go.RowKit Go.CH Go.CH.Esc
open Go.ChangeMaps (setBlock)

set_option maxRecDepth 100000 in
set_option maxHeartbeats 8000000 in
theorem rdel_again_in {w : World} {F : Nat → Prop} {g : GM} {p : Nat} (h : RefO g p w F) {U : Int} (hI : Inv g U) (hl : HB g 999999) {f t : Nat} (hd : delE g f t = true) :
    Calls Try.prog 64 #[.pointer (some ⟨p, 0, none⟩), .int .i64 f, .int .i64 t, .bool false, .bool true] w (RPost w F (.bool true) (delM g f t false true) p) := by
  obtain ⟨hp, m, ml, hm⟩ := delE_pair hd
  obtain ⟨hif, hit, hne⟩ := pair_is hp
  have hPr := hI.pr f t hp
  have hN0 := dlN_mk hI hp (m := m) (by rw [hm]; simp) (hl.mono (by omega))
  obtain ⟨s, hz, hS⟩ := h
  have hf : f < g.acc.length := by simpa using (is_lt hif).2
  have ht : t < g.acc.length := by simpa using (is_lt hit).2
  have hR := hS.read
  have KF := hide (ris_any hR f)
  have KT := hide (ris_any hR t)
  rw [hif] at KF
  rw [hit] at KT
  have c3 := hR.c3
  have p0 := hR.p f hf
  obtain ⟨-, -, -, q3⟩ := hR.q f t hf ht
  have hzk := hz (f, t) (mem_keys2.2 ⟨hf, ht⟩)
  have hn8 := hI.nb.2
  have hft : ((f : Int) == (t : Int)) = false := by simpa using hne
  have hft2 : ¬ ((f : Int) = (t : Int)) := hne
  obtain ⟨z, zs, hzs⟩ : ∃ z zs, (s.ps (f, t)).zs = z :: zs := by
    cases hz' : (s.ps (f, t)).zs with
    | nil => have := hzk.1; rw [hz', show (g.p2 (f, t)).ms = (g.pr ((f : Int), (t : Int))).ms from rfl, hm] at this; cases this
    | cons z zs => exact ⟨z, zs, rfl⟩
  have hzm := hzk.1
  rw [hzs, show (g.p2 (f, t)).ms = (g.pr ((f : Int), (t : Int))).ms from rfl, hm] at hzm
  injection hzm with hz1 hz2
  have hzt := hzk.2
  rw [hzs] at hzt
  have hlen : zs.length = ml.length := by rw [← hz2]; simp
  have hml : ml.length ≤ 99 := by have := hPr.msl; rw [hm] at this; simp at this; omega
  subst hz1
  have hpop : popM g f t true = g.setP ((f : Int), (t : Int)) { g.p2 (f, t) with ms := ml ++ [z.m] } := by unfold popM; rw [hm]; simp; rfl
  have hmod : delM g f t false true = recvM (popM g f t true) f t z.m := by unfold delM; rw [if_pos hd, hm]; rfl
  rw [hmod, hpop]
  -- the messages as they lie
  have hmsg : Hid (∀ (w' : World) (G : Nat → Prop), RefS g p s w' G → ∀ (k : Nat) (hk : k < (z :: zs).length), ∃ gB, (s.ps (f, t)).B = some ⟨gB, 0, none⟩ ∧ w'.cell? ⟨gB, k * 4, none⟩ = some (.int .i64 ((z :: zs)[k].m.c + 1)) ∧ w'.cell? ⟨gB, k * 4 + 1, none⟩ = some (.slice (z :: zs)[k].A (z :: zs)[k].ts.length (z :: zs)[k].c) ∧
      w'.cell? ⟨gB, k * 4 + 2, none⟩ = some (.int .i64 (z :: zs)[k].m.rc) ∧ w'.cell? ⟨gB, k * 4 + 3, none⟩ = some (.bool (z :: zs)[k].m.rev)) := hide (fun (w' : World) (G : Nat → Prop) (h' : RefS g p s w' G) (k : Nat) (hk : k < (z :: zs).length) => by
    have := ref_msg h' hf ht (k := k) (by rw [hzs]; exact hk)
    simp only [hzs] at this
    exact this)
  obtain ⟨gB, hgB, m0, m1, m2, m3⟩ := hmsg.out w F hS 0 (by simp)
  rw [hgB, hzs] at q3
  simp only [List.getElem_cons_zero] at m0 m1 m2 m3
  have R1 := (Run.start hS).fresh refS_ok (cell_new w (rcl z).toArray 158)
  have HR1 := hide R1
  have hq2 : (((z :: zs).length : Int) == 0) = false := by simp; omega
  have hq3 : ¬ (((z :: zs).length : Int) = 0) := by simp; omega
  have HZ := hide hz
  have HZK := hide hzk
  have HZS := hide hzs
  have HZT := hide hzt
  have HZ2 := hide hz2
  have HPr := hide hPr
  have HN0 := hide hN0
  have HI := hide hI
  have HP := hide hp
  obtain ⟨L, hLn⟩ : ∃ L, (z :: zs).length = L := ⟨_, rfl⟩
  rw [hLn] at q3 hq2 hq3
  have hL2 : L ≤ zs.length + 1 ∧ zs.length + 1 ≤ L := by rw [← hLn]; simp
  have hL3 := hL2.1
  have hL4 := hL2.2
  have hz99 : zs.length ≤ 99 := by omega
  have HLN := hide hLn
  clear hL2 hlen hS hR hI hPr hz hzk hzs hzt hz2 R1 hif hit hp hm hmod hpop hd hN0 hLn
  unfold rcl at HR1
  generalize hG : (recvM (g.setP ((f : Int), (t : Int)) { g.p2 (f, t) with ms := ml ++ [z.m] }) f t z.m : GM) = G at *
  have HG := hide hG
  clear hG
  go_enter Try.func64, Try.ntmps64
  go_wp2_with fail
  refine KF.out.mono ?_
  rintro e w' ⟨rfl, rfl⟩
  go_wp2_with fail
  refine KT.out.mono ?_
  rintro e w' ⟨rfl, rfl⟩
  go_wp2_with fail
  generalize w.heap.size = bm at *
  generalize w.alloc (.cells _ 158) = W1 at *
  clear m0 m1 m2 m3 c3 p0 q3 hq2 hq3 KF KT hgB
  go_loopw [12, 13] (fun v i wr => ∃ (k : Nat) (A : Option Addr) (c : Nat), 1 ≤ k ∧ k ≤ L ∧ i = .int .i64 k ∧ v = .slice A (k - 1) c ∧ Run F w (star (RowO 158 4 (.slice A (k - 1) c) (k - 1) ((zs.take (k - 1)).flatMap rcl)) (star (CellO bm #[.int .i64 (z.m.c + 1), .slice z.A z.ts.length z.c, .int .i64 z.m.rc, .bool z.m.rev] 158) (RefS g p s))) wr) (fun _ i _ => L - (intOf i).toNat)
  case atStart =>
    refine ⟨1, none, 0, Nat.le_refl _, by omega, rfl, rfl, ?_⟩
    exact (HR1.out.perm (emp_star _).symm).imp fun w F h => star_mono h (fun F h => row_of_emp h) (fun _ h => h)
  case round =>
    obtain ⟨k, A, c, hk1, hk2, rfl, rfl, hr⟩ := hrel
    obtain ⟨FS, hS2⟩ := (hr.perm (by ac_rfl : _ = star (RefS g p s) (star (RowO 158 4 (.slice A (k - 1) c) (k - 1) ((zs.take (k - 1)).flatMap rcl)) (CellO bm #[.int .i64 (z.m.c + 1), .slice z.A z.ts.length z.c, .int .i64 z.m.rc, .bool z.m.rev] 158)))).fst
    have hR2 := hS2.read
    have c3 := hR2.c3
    have p0 := hR2.p f hf
    obtain ⟨-, -, -, q3⟩ := hR2.q f t hf ht
    rw [HZS.out, HLN.out] at q3
    have HR := hide hr
    clear HR1
    by_cases hlt : k < L
    · obtain ⟨gB, hgB, m0, m1, m2, m3⟩ := hmsg.out wr FS hS2 k (by rw [HLN.out]; exact hlt)
      obtain ⟨k', rfl⟩ : ∃ k', k = k' + 1 := ⟨k - 1, by omega⟩
      have hk' : k' < zs.length := by omega
      simp only [List.getElem_cons_succ] at m0 m1 m2 m3
      rw [hgB] at q3
      have htk : (zs.take (k' + 1)).flatMap rcl = (zs.take k').flatMap rcl ++ rcl zs[k'] := by rw [List.take_succ_eq_append_getElem hk', List.flatMap_append]; simp
      have HTK := hide htk
      have hone := hide (rcl_one zs[k'])
      have hrcl : rcl zs[k'] = [.int .i64 (zs[k'].m.c + 1), .slice zs[k'].A zs[k'].ts.length zs[k'].c, .int .i64 zs[k'].m.rc, .bool zs[k'].m.rev] := rfl
      generalize zs[k'] = y at *
      have HRCL := hide hrcl
      simp only [Nat.add_sub_cancel] at HR ⊢
      have HR5 := hide ((HR.out.below (star_ok row_ok (star_ok cell_ok refS_ok)) ((Below.refl _ _).alloc (Nat.le_refl _) (.cells #[.int .i64 (y.m.c + 1), .slice y.A y.ts.length y.c, .int .i64 y.m.rc, .bool y.m.rev] 158))))
      have HSR := hide (show Src (wr.alloc (.cells #[.int .i64 (y.m.c + 1), .slice y.A y.ts.length y.c, .int .i64 y.m.rc, .bool y.m.rev] 158)) (some ⟨wr.heap.size, 0, none⟩) 1 4 (rcl y) from src_new wr (rcl y) 158 hone.out)
      clear hr hS2 hR2 htk hrcl
      go_wp2_with (at_builtin; refine held ?_)
      obtain ⟨F7, hR7, -, bk7⟩ := HR5.out.take row_ok (star_ok cell_ok refS_ok)
      refine Held.mk (wpList_app rfl (.tmp 74) (.tmp 89) rfl rmsgOk _ 0 (v := .slice A k' c) (n := k') rfl hR7.1 (A := some ⟨wr.heap.size, 0, none⟩) (m := 1) (c := 1) (news := rcl y) rfl HSR.out (by omega) (by omega) (Nat.zero_le _) ?_)
      intro v8 w8 ho8 hg8 hv8
      have S8 := bk7 _ _ (row_app hR7 ho8 hg8 hv8)
      obtain ⟨A8, c8, rfl⟩ := own_form ho8
      have HS8 := hide S8
      clear hR7 bk7 ho8 hg8 hv8 S8 HR5 HR m0 m1 m2 m3 c3 p0 q3 hgB
      go_wp2_with fail
      go_roundw
      case rel =>
        refine ⟨k' + 1 + 1, A8, c8, by omega, by omega, by go_num, by simp, ?_⟩
        rw [show k' + 1 + 1 - 1 = k' + 1 by omega, HTK.out]
        exact HS8.out
      case measure => simp [intOf]; omega
    · obtain rfl : L = k := by omega
      have hk0 : L - 1 = zs.length := by omega
      have htk : zs.take (L - 1) = zs := by rw [hk0]; simp
      have HR0 := HR.out
      rw [htk] at HR0
      rw [hk0] at HR0 ⊢
      have hzl : zs.length ≤ 99 := by omega
      clear hr hS2 hR2 htk hk0 HR c3 p0 q3 hmsg
      obtain ⟨FBX, hBX⟩ := HR0.rot.fst
      have x0 := cell_at hBX (i := 0) rfl
      have x1 := cell_at hBX (i := 1) rfl
      have x2 := cell_at hBX (i := 2) rfl
      have x3 := cell_at hBX (i := 3) rfl
      have HR5 := hide ((HR0.below (star_ok row_ok (star_ok cell_ok refS_ok)) ((Below.refl _ _).alloc (Nat.le_refl _) (.cells #[.int .i64 (z.m.c + 1), .slice z.A z.ts.length z.c, .int .i64 z.m.rc, .bool z.m.rev] 158))))
      have HSR := hide (show Src (wr.alloc (.cells #[.int .i64 (z.m.c + 1), .slice z.A z.ts.length z.c, .int .i64 z.m.rc, .bool z.m.rev] 158)) (some ⟨wr.heap.size, 0, none⟩) 1 4 (rcl z) from src_new wr (rcl z) 158 (rcl_one z))
      obtain ⟨FS, hS2⟩ := (HR0.perm (by ac_rfl : _ = star (RefS g p s) (star (RowO 158 4 (.slice A zs.length c) zs.length (zs.flatMap rcl)) (CellO bm #[.int .i64 (z.m.c + 1), .slice z.A z.ts.length z.c, .int .i64 z.m.rc, .bool z.m.rev] 158)))).fst
      have c3 := hS2.read.c3
      have p0 := hS2.read.p f hf
      obtain ⟨-, -, -, q3⟩ := hS2.read.q f t hf ht
      rw [HZS.out, HLN.out] at q3
      clear HR0 hBX hS2
      go_wp2_with (at_builtin; refine held ?_)
      obtain ⟨F7, hR7, -, bk7⟩ := HR5.out.take row_ok (star_ok cell_ok refS_ok)
      refine Held.mk (wpList_app rfl (.tmp 92) (.tmp 94) rfl rmsgOk _ 0 (v := .slice A zs.length c) (n := zs.length) rfl hR7.1 (A := some ⟨wr.heap.size, 0, none⟩) (m := 1) (c := 1) (news := rcl z) rfl HSR.out (by omega) (by omega) (Nat.zero_le _) ?_)
      intro v8 w8 ho8 hg8 hv8
      have S8 := bk7 _ _ (row_app hR7 ho8 hg8 hv8)
      obtain ⟨A8, c8, rfl⟩ := own_form ho8
      have HR9 : Run F w (star (RowO 158 4 (.slice A8 (zs.length + 1) c8) (zs.length + 1) ((zs ++ [z]).flatMap rcl)) (star (CellO bm #[.int .i64 (z.m.c + 1), .slice z.A z.ts.length z.c, .int .i64 z.m.rc, .bool z.m.rev] 158) (RefS g p s))) w8 := S8.perm (by rw [List.flatMap_append]; simp)
      clear hR7 bk7 ho8 hg8 hv8 S8 HR5 x0 x1 x2 x3 c3 p0 q3
      obtain ⟨FS, hS2⟩ := (HR9.perm (by ac_rfl : _ = star (RefS g p s) (star (RowO 158 4 (.slice A8 (zs.length + 1) c8) (zs.length + 1) ((zs ++ [z]).flatMap rcl)) (CellO bm #[.int .i64 (z.m.c + 1), .slice z.A z.ts.length z.c, .int .i64 z.m.rc, .bool z.m.rev] 158)))).fst
      have c3 := hS2.read.c3
      have p0 := hS2.read.p f hf
      obtain ⟨-, -, -, q3⟩ := hS2.read.q f t hf ht
      obtain ⟨zf, hQ⟩ := ref_queue (ms := ml ++ [z.m]) cell_ok hf ht (xs := zs ++ [z]) (by simp) (Zx := emp) (emp_ok) (by rw [HZS.out]; rw [List.map_append, List.map_singleton, big_last, emp_star]; rfl) HR9
      have HQ := hide hQ
      rw [HZS.out, HLN.out] at q3
      clear hS2 HR9 hQ
      go_wp2_with fail
      generalize w8.setCell ⟨s.row f, t * 4 + 3, none⟩ (.slice A8 (zs.length + 1) c8) = W2 at *
      have HZ1 := hide (refZ_setP HZ.out (k := f) (j := t) (q := { g.p2 (f, t) with ms := ml ++ [z.m] }) (l := { s.ps (f, t) with B := A8, d := c8, zs := zs ++ [z] }) ⟨by simp [HZ2.out], fun y hy => HZT.out y (by simp at hy ⊢; exact hy.symm)⟩)
      have hne1 := hne
      have hok : (emp : Own).Ok := emp_ok
      have HZR := hide (show ∀ (g' : GM) (W' : World), g'.acc.length = g.acc.length → Run F w (DvO (emp) bm z g' p (updP s f t { s.ps (f, t) with B := A8, d := c8, zs := zs ++ [z] })) W' → ∀ i (hi : i < z.ts.length), ∃ gz, z.A = some ⟨gz, 0, none⟩ ∧ W'.cell? ⟨gz, i, none⟩ = some (.int .i64 z.ts[i]) from fun g' W' hl1 h' i hi => by
        obtain ⟨F1, ⟨F2, F3, hZx, ⟨F4, F5, h2, hS2, _, _⟩, _, _⟩, _⟩ := h'.own
        obtain ⟨F', hz'⟩ : ∃ F', zow z W' F' := (ref_unit hS2 (by rw [hl1]; exact hf) (by rw [hl1]; exact ht) (z := z) (by simp [updP]))
        exact zow_cell hz' hi)
      have hHZ := hide (show z.ts = msgT ((g.setP ((f : Int), (t : Int)) { g.p2 (f, t) with ms := ml ++ [z.m] }).p2 (f, t)).H z.m by rw [p2_setP, if_pos rfl]; exact HZT.out z (by simp))
      have hN1 : DlN ((g.setP ((f : Int), (t : Int)) { g.p2 (f, t) with ms := ml ++ [z.m] }).p2 (f, t)) ((g.setP ((f : Int), (t : Int)) { g.p2 (f, t) with ms := ml ++ [z.m] }).p2 (t, f)) z.m ((g.setP ((f : Int), (t : Int)) { g.p2 (f, t) with ms := ml ++ [z.m] }).at_ t).u := by
        have hN := HN0.out
        rw [p2_setP, if_pos rfl, p2_setP, if_neg (fun e => hne (by rw [Prod.mk.injEq] at e; exact congrArg Int.ofNat e.1.symm)), setP_at]
        exact ⟨hN.cr, hN.cu, hN.up, hN.few, hN.big, hN.pos, hN.u0, hN.u1, hN.bc, hN.bm, hN.bl, hN.bf, hN.bb⟩
      have HN1 := hide hN1
      have hl1 : (g.setP ((f : Int), (t : Int)) { g.p2 (f, t) with ms := ml ++ [z.m] }).acc.length = g.acc.length := rfl
      have HQ2 : Hid (Run F w (DvO (emp) bm z (g.setP ((f : Int), (t : Int)) { g.p2 (f, t) with ms := ml ++ [z.m] }) p (updP s f t { s.ps (f, t) with B := A8, d := c8, zs := zs ++ [z] })) W2) := HQ
      have HZX := hide hok
      generalize (emp : Own) = Zx at *
      generalize updP s f t { s.ps (f, t) with B := A8, d := c8, zs := zs ++ [z] } = s1 at *
      have HLG := hide hl1
      rw [← hl1] at hf ht HZR hn8
      have hf' := hf
      have ht' := ht
      clear hl1 HQ c3 p0 q3 zf hok HZ HZK HZS HZT HZ2 HPr HN0 HI HP HLN hN1 HLG
      generalize g.setP ((f : Int), (t : Int)) { g.p2 (f, t) with ms := ml ++ [z.m] } = g1 at *
      obtain ⟨n, hn⟩ : ∃ n, z.ts.length = n := ⟨_, rfl⟩
      have hcn : z.m.c + n = z.m.up := by
        have hN := HN1.out
        have := congrArg List.length hHZ.out
        unfold msgT at this
        rw [msg_len _ _ _ hN.up, hn] at this
        have := hN.cu
        omega
      have hup6 : z.m.up ≤ 1000000 := by have hN := HN1.out; have := hN.up; have := hN.big; omega
      have HNZ := hide hn
      have HCN := hide hcn
      have hn6 : n ≤ 1000000 := by omega
      have hc6 : z.m.c ≤ 1000000 := by omega
      have hst := hide (show Run F w (DvO Zx bm z (dgj g1 f t z.m 0) p s1) W2 by rw [dgj_zero ht (HN1.out.cr)]; exact HQ2.out)
      clear hcn hn HQ2 hL3 hL4 hz99 hml hlt hk1 hk2
      try go_wp2_with fail
      generalize (Value.agg #[.int .i64 ((z.m.c : Int) + 1), .slice z.A z.ts.length z.c, .int .i64 z.m.rc, .bool z.m.rev]) = av
      go_loopw [14] (fun i wr => ∃ j : Nat, j ≤ n ∧ i = .int .i64 j ∧ Run F w (DvO Zx bm z (dgj g1 f t z.m j) p s1) wr) (fun i _ => n - (intOf i).toNat)
      case atStart => exact ⟨0, Nat.zero_le _, rfl, hst.out⟩
      case round =>
        obtain ⟨j, hj, rfl, hr⟩ := hrel
        have hrd := dv_read hr
        have m0 := hrd.m0
        have m1 := hrd.m1
        have m2 := hrd.m2
        have m3 := hrd.m3
        rw [HNZ.out] at m1
        have c0 := hrd.r.c0
        have c3 := hrd.r.c3
        have pf := hrd.r.p f (by rw [dgj_len]; exact hf)
        have pt := hrd.r.p t (by rw [dgj_len]; exact ht)
        obtain ⟨-, qf, -, -⟩ := hrd.r.q f t (by rw [dgj_len]; exact hf) (by rw [dgj_len]; exact ht)
        obtain ⟨-, -, qt, -⟩ := hrd.r.q t f (by rw [dgj_len]; exact ht) (by rw [dgj_len]; exact hf)
        obtain ⟨ut, -, -⟩ := hrd.r.u t (by rw [dgj_len]; exact ht)
        obtain ⟨uf, -, -⟩ := hrd.r.f (by rw [dgj_len]; omega) t
        have qff := hrd.r.qf f t (by rw [dgj_len]; exact hf) (by rw [dgj_len]; exact ht) (t * 4 + 1)
        rw [← at_nat (by rw [dgj_len]; exact ht), dgj_at ht] at ut
        rw [dgj_p2] at qf
        rw [dgj_p2b hne1] at qt
        rw [dgj_len] at c0 c3 pf pt
        simp only [] at ut qf
        have HR := hide hr
        clear hst hrd
        by_cases hlt : j < n
        · obtain ⟨gz, hgz, zc⟩ := HZR.out _ _ (dgj_len j) hr j (by rw [HNZ.out]; exact hlt)
          have hj2 : z.m.c + j < z.m.up := by have := HCN.out; omega
          have hzx : z.ts[j]'(by rw [HNZ.out]; exact hlt) = z.ts[j]'(by rw [HNZ.out]; exact hlt) := rfl
          have hget : z.ts[j]? = (((g1.p2 (f, t)).H.take z.m.up).drop z.m.c)[j]? := by rw [hHZ.out]; rfl
          rw [List.getElem?_eq_getElem (by rw [HNZ.out]; exact hlt)] at hget
          have t1 : IntKind.i64.wrap ((z.m.c : Int) + 1 + j) = (z.m.c : Int) + 1 + j := IntWalk.i64_in _ (by omega)
          by_cases hrc : (g1.p2 (f, t)).rc ≤ z.m.c + j
          · obtain ⟨e1, e2, x, hx, hx1, hs, hlo, hhi⟩ := dl_yes HN1.out hj2 hrc
            rw [hx] at hget
            injection hget with hget
            rw [hget] at zc
            have qf2 : wr.cell? ⟨s1.row f, t * 4 + 1, none⟩ = some (.int .i64 ((max (g1.p2 (f, t)).rc (z.m.c + j) : Nat) : Int)) := qf
            rw [e1] at qf2
            obtain ⟨r, hre⟩ : ∃ r : Nat, z.m.c + j = r := ⟨_, rfl⟩
            rw [hre] at qf2
            have h9 : (r : Int) < (z.m.c : Int) + 1 + j := by omega
            have h10 : decide ((r : Int) < (z.m.c : Int) + 1 + j) = true := decide_eq_true h9
            have hnx := dgj_next (g := g1) (f := f) (m := z.m) ht j ((g1.at_ t).u + isum (((g1.p2 (f, t)).H.take (z.m.c + (j + 1))).drop (g1.p2 (f, t)).rc)) (z.m.c + j + 1) rfl e2.symm
            rw [hs] at hnx
            have HNX := hide hnx
            generalize (g1.at_ t).u + isum (((g1.p2 (f, t)).H.take (z.m.c + j)).drop (g1.p2 (f, t)).rc) = v at *
            have t2 : IntKind.i64.wrap (v + x) = v + x := IntWalk.i64_in _ (by omega)
            have hc9 : ((z.m.c + j + 1 : Nat) : Int) = (z.m.c : Int) + 1 + j := by omega
            have HC9 := hide hc9
            clear hs hx hget hzx e1 e2 hre qf hr hnx hc9 hrc m2 m3 pt qt
            go_wp2_with fail
            refine wp_region_lex (fun w' => w'.cell? ⟨bm, 0, none⟩ = some (.int .i64 (z.m.c + 1)) ∧ w'.cell? ⟨p, 3, none⟩ = some (.slice (some ⟨s1.bP, 0, none⟩) g1.acc.length s1.cP) ∧ w'.cell? ⟨s1.bP, f, none⟩ = some (.slice (some ⟨s1.row f, 0, none⟩) g1.acc.length g1.acc.length) ∧ w'.cell? ⟨s1.row f, t * 4 + 1, none⟩ = some (.int .i64 r)) (by kernel_rfl) (by kernel_rfl) ⟨m0, c3, pf, qf2⟩ ?_
            (repeat (first | (refine lex_skip (by rfl) ?_; try simp only [Act.put, List.setIfInBounds_toArray, List.set_cons_zero, List.set_cons_succ]) | (refine lex_read (v := ?_) (by rfl) ?_ ?_; rotate_left; (focus (intro w' hS'; go_simp; (try with_reducible rfl); done)); try simp only [Act.put, List.setIfInBounds_toArray, List.set_cons_zero, List.set_cons_succ])))
            refine lex_nil ?_
            go_wp2_with fail
            have V1 := HR.out.drew (dvO_ok HZX.out)
            have HV1 := hide V1
            refine wp_region_lew [19] [0, 0, 0, 0, 0, 0, 0, 0, 0, 0, 0, 0, 0, 0, 0, 0, 0, 0, 0, 1] (fun w' => w'.cell? ⟨p, 0, none⟩ = some (.slice (some ⟨s1.bU, 0, none⟩) g1.acc.length g1.acc.length) ∧ w'.cell? ⟨s1.bU, t, none⟩ = some (.int .i64 v) ∧ w'.cell? ⟨bm, 1, none⟩ = some (.slice z.A n z.c) ∧ w'.cell? ⟨gz, j, none⟩ = some (.int .i64 x)) (fun _ => True) (fun _ => True) (fun _ => True) (fun _ _ => trivial) (fun _ h => h) (fun _ h => h) (by kernel_rfl) (by kernel_rfl) (by kernel_rfl) (by kernel_rfl) (by exact ⟨c0, ut, m1, zc⟩) ?_
            (repeat (first | (refine lew_skip (by rfl) (by rfl) ?_; try simp only [Act.put, List.setIfInBounds_toArray, List.set_cons_zero, List.set_cons_succ]) | (refine lew_read0 (v := ?_) (by rfl) (by rfl) ?_ ?_; rotate_left; (focus (intro w' hS'; go_simp; (try with_reducible rfl); done)); try simp only [Act.put, List.setIfInBounds_toArray, List.set_cons_zero, List.set_cons_succ]) | (refine lew_read1 (v := ?_) (by rfl) (by rfl) ?_ ?_; rotate_left; (focus (intro w' hS'; go_simp; (try with_reducible rfl); done)); try simp only [Act.put, List.setIfInBounds_toArray, List.set_cons_zero, List.set_cons_succ]) | (refine lew_read2 (v := ?_) (by rfl) (by rfl) ?_ ?_; rotate_left; (focus (intro w' hS'; go_simp; (try with_reducible rfl); done)); try simp only [Act.put, List.setIfInBounds_toArray, List.set_cons_zero, List.set_cons_succ]) | (refine lew_read3 (v := ?_) (by rfl) (by rfl) ?_ ?_; rotate_left; (focus (intro w' hS'; go_simp; (try with_reducible rfl); done)); try simp only [Act.put, List.setIfInBounds_toArray, List.set_cons_zero, List.set_cons_succ]) | (refine lew_read4 (v := ?_) (by rfl) (by rfl) ?_ ?_; rotate_left; (focus (intro w' hS'; go_simp; (try with_reducible rfl); done)); try simp only [Act.put, List.setIfInBounds_toArray, List.set_cons_zero, List.set_cons_succ])))
            refine lew_chain1 rfl (by rfl) (fun K hK => ?_)
            go_wp2_with fail
            have V2 := dv_sub HZX.out V1 (fun F h => (ref_setU (h.drew refS_ok) (k := t) (by rw [dgj_len]; exact ht) (v + x)))
            have V3 : Run F w (DvO Zx bm z ((dgj g1 f t z.m j).setA (t : Int) { (dgj g1 f t z.m j).at_ (t : Int) with u := v + x }) p s1) ((wr.setCell ⟨s1.bU, t, none⟩ (.int .i64 (v + x))).drew.drew) := V2
            have HV3 := hide V3
            refine hK.out _ _ trivial (lew_nil ?_)
            clear hK V1 V2 V3 m0 m1 c0 c3 pf qf2 ut uf qff zc hgz t2
            go_wp2_with fail
            generalize (wr.setCell ⟨s1.bU, t, none⟩ (.int .i64 (v + x))).drew.drew = W7 at *
            have hrd := dv_read HV3.out
            have m0 := hrd.m0
            have c3 := hrd.r.c3
            have pf := hrd.r.p f (by rw [setA_len, dgj_len]; exact hf)
            have qff := hrd.r.qf f t (by rw [setA_len, dgj_len]; exact hf) (by rw [setA_len, dgj_len]; exact ht) (t * 4 + 1)
            obtain ⟨-, qfc, -, -⟩ := hrd.r.q f t (by rw [setA_len, dgj_len]; exact hf) (by rw [setA_len, dgj_len]; exact ht)
            rw [setA_len, dgj_len] at c3 pf
            have V4 := dv_sub HZX.out HV3.out (fun F h => (ref_setRc (h.drew refS_ok) (f := f) (t := t) (by rw [setA_len, dgj_len]; exact hf) (by rw [setA_len, dgj_len]; exact ht) (z.m.c + j + 1)))
            rw [HNX.out, HC9.out] at V4
            have V5 : Run F w (DvO Zx bm z (dgj g1 f t z.m (j + 1)) p s1) ((W7.setCell ⟨s1.row f, t * 4 + 1, none⟩ (.int .i64 ((z.m.c : Int) + 1 + j))).drew) := V4
            have HV5 := hide V5
            clear V4 V5 hrd HV3
            refine wp_region_lew [14] [0, 0, 0, 0, 0, 0, 0, 0, 0, 0, 0, 0, 0, 0, 1] (fun w' => w'.cell? ⟨p, 3, none⟩ = some (.slice (some ⟨s1.bP, 0, none⟩) g1.acc.length s1.cP) ∧ w'.cell? ⟨s1.bP, f, none⟩ = some (.slice (some ⟨s1.row f, 0, none⟩) g1.acc.length g1.acc.length) ∧ w'.cell? ⟨bm, 0, none⟩ = some (.int .i64 (z.m.c + 1))) (fun _ => True) (fun _ => True) (fun _ => True) (fun _ _ => trivial) (fun _ h => h) (fun _ h => h) (by kernel_rfl) (by kernel_rfl) (by kernel_rfl) (by kernel_rfl) (by exact ⟨c3, pf, m0⟩) ?_
            (repeat (first | (refine lew_skip (by rfl) (by rfl) ?_; try simp only [Act.put, List.setIfInBounds_toArray, List.set_cons_zero, List.set_cons_succ]) | (refine lew_read0 (v := ?_) (by rfl) (by rfl) ?_ ?_; rotate_left; (focus (intro w' hS'; go_simp; (try with_reducible rfl); done)); try simp only [Act.put, List.setIfInBounds_toArray, List.set_cons_zero, List.set_cons_succ]) | (refine lew_read1 (v := ?_) (by rfl) (by rfl) ?_ ?_; rotate_left; (focus (intro w' hS'; go_simp; (try with_reducible rfl); done)); try simp only [Act.put, List.setIfInBounds_toArray, List.set_cons_zero, List.set_cons_succ]) | (refine lew_read2 (v := ?_) (by rfl) (by rfl) ?_ ?_; rotate_left; (focus (intro w' hS'; go_simp; (try with_reducible rfl); done)); try simp only [Act.put, List.setIfInBounds_toArray, List.set_cons_zero, List.set_cons_succ]) | (refine lew_read3 (v := ?_) (by rfl) (by rfl) ?_ ?_; rotate_left; (focus (intro w' hS'; go_simp; (try with_reducible rfl); done)); try simp only [Act.put, List.setIfInBounds_toArray, List.set_cons_zero, List.set_cons_succ]) | (refine lew_read4 (v := ?_) (by rfl) (by rfl) ?_ ?_; rotate_left; (focus (intro w' hS'; go_simp; (try with_reducible rfl); done)); try simp only [Act.put, List.setIfInBounds_toArray, List.set_cons_zero, List.set_cons_succ])))
            refine lew_chain1 rfl (by rfl) (fun K hK => ?_)
            go_wp2_with fail
            refine hK.out _ _ trivial (lew_nil ?_)
            clear hK c3 pf m0 qff qfc
            go_wp2_with fail
            go_roundw
            case rel => exact ⟨j + 1, by omega, by go_num, HV5.out⟩
            case measure => simp [intOf]; omega
          · obtain ⟨e1, e2, e3⟩ := dl_no HN1.out hj2 hrc
            have qf2 : wr.cell? ⟨s1.row f, t * 4 + 1, none⟩ = some (.int .i64 ((max (g1.p2 (f, t)).rc (z.m.c + j) : Nat) : Int)) := qf
            rw [e1] at qf2
            obtain ⟨r, hre⟩ : ∃ r : Nat, (g1.p2 (f, t)).rc = r := ⟨_, rfl⟩
            have hrc' := hrc
            rw [hre] at qf2 hrc'
            have h9 : ¬ ((r : Int) < (z.m.c : Int) + 1 + j) := by omega
            have h10 : decide ((r : Int) < (z.m.c : Int) + 1 + j) = false := decide_eq_false h9
            have HV5 := hide (show Run F w (DvO Zx bm z (dgj g1 f t z.m (j + 1)) p s1) wr.drew by
              rw [dgj_stay j (by rw [e1, e2]) e3]; exact HR.out.drew (dvO_ok HZX.out))
            clear hget hzx e1 e2 e3 hre qf hr hrc hrc' m2 m3 pt qt ut uf qff c0 zc hgz HR
            go_wp2_with fail
            refine wp_region_lex (fun w' => w'.cell? ⟨bm, 0, none⟩ = some (.int .i64 (z.m.c + 1)) ∧ w'.cell? ⟨p, 3, none⟩ = some (.slice (some ⟨s1.bP, 0, none⟩) g1.acc.length s1.cP) ∧ w'.cell? ⟨s1.bP, f, none⟩ = some (.slice (some ⟨s1.row f, 0, none⟩) g1.acc.length g1.acc.length) ∧ w'.cell? ⟨s1.row f, t * 4 + 1, none⟩ = some (.int .i64 r)) (by kernel_rfl) (by kernel_rfl) ⟨m0, c3, pf, qf2⟩ ?_
            (repeat (first | (refine lex_skip (by rfl) ?_; try simp only [Act.put, List.setIfInBounds_toArray, List.set_cons_zero, List.set_cons_succ]) | (refine lex_read (v := ?_) (by rfl) ?_ ?_; rotate_left; (focus (intro w' hS'; go_simp; (try with_reducible rfl); done)); try simp only [Act.put, List.setIfInBounds_toArray, List.set_cons_zero, List.set_cons_succ])))
            refine lex_nil ?_
            go_wp2_with fail
            go_roundw
            case rel => exact ⟨j + 1, by omega, by go_num, HV5.out⟩
            case measure => simp [intOf]; omega
        · have hjn : z.m.c + j = z.m.up := by have := HCN.out; omega
          have hall := fun rv => dgj_all (g := g1) (f := f) (m := z.m) ht hne1 j hjn rv
          have hg0 := hall true
          rw [HG.out] at hg0
          clear hall
          have hN := HN1.out
          have hq2 : wr.cell? ⟨s1.row t, f * 4 + 2, none⟩ = some (.int .i64 (g1.p2 (t, f)).conf) := qt
          have hcf0 := hN.bc
          have hmr := hN.bm
          have hrl := hN.bl
          have hbb := hN.bb
          have HGG := hide hg0
          have HZ1' := hide (refZ_recv hne1 z.m HZ1.out)
          rw [HG.out] at HZ1'
          have hrv : ∃ rv, (g1.at_ (t : Int)).rev = rv := ⟨_, rfl⟩
          obtain ⟨rv, hrv⟩ := hrv
          clear hr hN hg0 HN1 qf c0 pf ut uf qff m0
          by_cases hcf : (g1.p2 (t, f)).conf < z.m.rc
          · have hmx : max (g1.p2 (t, f)).conf z.m.rc = z.m.rc := by omega
            have h9 : ((g1.p2 (t, f)).conf : Int) < (z.m.rc : Int) := by omega
            have h10 : decide (((g1.p2 (t, f)).conf : Int) < (z.m.rc : Int)) = true := decide_eq_true h9
            have V1 := HR.out.drew (dvO_ok HZX.out)
            have V2 := dv_sub HZX.out V1 (fun F h => (ref_setCf (h.drew refS_ok) (f := t) (t := f) (by rw [dgj_len]; exact ht) (by rw [dgj_len]; exact hf) z.m.rc))
            rw [dgj_p2b hne1] at V2
            rw [hmx] at HGG
            have V3 : Run F w (DvO Zx bm z ((dgj g1 f t z.m j).setP ((t : Int), (f : Int)) { g1.p2 (t, f) with conf := z.m.rc }) p s1) ((wr.setCell ⟨s1.row t, f * 4 + 2, none⟩ (.int .i64 z.m.rc)).drew.drew) := V2
            have HV3 := hide V3
            have qtf := (dv_read HR.out).r.qf t f (by rw [dgj_len]; exact ht) (by rw [dgj_len]; exact hf) (f * 4 + 2)
            generalize (g1.p2 (t, f)).conf = cf at *
            clear V1 V2 V3 hmx hcf hcf0 hmr hrl hbb qt
            go_wp2_with fail
            refine wp_region_lex (fun w' => w'.cell? ⟨bm, 2, none⟩ = some (.int .i64 z.m.rc) ∧ w'.cell? ⟨p, 3, none⟩ = some (.slice (some ⟨s1.bP, 0, none⟩) g1.acc.length s1.cP) ∧ w'.cell? ⟨s1.bP, t, none⟩ = some (.slice (some ⟨s1.row t, 0, none⟩) g1.acc.length g1.acc.length) ∧ w'.cell? ⟨s1.row t, f * 4 + 2, none⟩ = some (.int .i64 cf)) (by kernel_rfl) (by kernel_rfl) ⟨m2, c3, pt, hq2⟩ ?_
            (repeat (first | (refine lex_skip (by rfl) ?_; try simp only [Act.put, List.setIfInBounds_toArray, List.set_cons_zero, List.set_cons_succ]) | (refine lex_read (v := ?_) (by rfl) ?_ ?_; rotate_left; (focus (intro w' hS'; go_simp; (try with_reducible rfl); done)); try simp only [Act.put, List.setIfInBounds_toArray, List.set_cons_zero, List.set_cons_succ])))
            refine lex_nil ?_
            go_wp2_with fail
            refine wp_region_lew [12] [0, 0, 0, 0, 0, 0, 0, 0, 0, 0, 0, 0, 1] (fun w' => w'.cell? ⟨bm, 2, none⟩ = some (.int .i64 z.m.rc) ∧ w'.cell? ⟨p, 3, none⟩ = some (.slice (some ⟨s1.bP, 0, none⟩) g1.acc.length s1.cP) ∧ w'.cell? ⟨s1.bP, t, none⟩ = some (.slice (some ⟨s1.row t, 0, none⟩) g1.acc.length g1.acc.length)) (fun _ => True) (fun _ => True) (fun _ => True) (fun _ _ => trivial) (fun _ h => h) (fun _ h => h) (by kernel_rfl) (by kernel_rfl) (by kernel_rfl) (by kernel_rfl) (by exact ⟨m2, c3, pt⟩) ?_
            (repeat (first | (refine lew_skip (by rfl) (by rfl) ?_; try simp only [Act.put, List.setIfInBounds_toArray, List.set_cons_zero, List.set_cons_succ]) | (refine lew_read0 (v := ?_) (by rfl) (by rfl) ?_ ?_; rotate_left; (focus (intro w' hS'; go_simp; (try with_reducible rfl); done)); try simp only [Act.put, List.setIfInBounds_toArray, List.set_cons_zero, List.set_cons_succ]) | (refine lew_read1 (v := ?_) (by rfl) (by rfl) ?_ ?_; rotate_left; (focus (intro w' hS'; go_simp; (try with_reducible rfl); done)); try simp only [Act.put, List.setIfInBounds_toArray, List.set_cons_zero, List.set_cons_succ]) | (refine lew_read2 (v := ?_) (by rfl) (by rfl) ?_ ?_; rotate_left; (focus (intro w' hS'; go_simp; (try with_reducible rfl); done)); try simp only [Act.put, List.setIfInBounds_toArray, List.set_cons_zero, List.set_cons_succ]) | (refine lew_read3 (v := ?_) (by rfl) (by rfl) ?_ ?_; rotate_left; (focus (intro w' hS'; go_simp; (try with_reducible rfl); done)); try simp only [Act.put, List.setIfInBounds_toArray, List.set_cons_zero, List.set_cons_succ]) | (refine lew_read4 (v := ?_) (by rfl) (by rfl) ?_ ?_; rotate_left; (focus (intro w' hS'; go_simp; (try with_reducible rfl); done)); try simp only [Act.put, List.setIfInBounds_toArray, List.set_cons_zero, List.set_cons_succ])))
            refine lew_chain1 rfl (by rfl) (fun K hK => ?_)
            go_wp2_with fail
            refine hK.out _ _ trivial (lew_nil ?_)
            clear hK
            generalize hY : (dgj g1 f t z.m j).setP ((t : Int), (f : Int)) { g1.p2 (t, f) with conf := z.m.rc } = Y at *
            have hYl : Y.acc.length = g1.acc.length := by rw [← hY]; exact dgj_len j
            have hYa : Y.at_ (t : Int) = { g1.at_ t with u := (g1.at_ t).u + isum (((g1.p2 (f, t)).H.take z.m.up).drop (g1.p2 (f, t)).rc) } := by rw [← hY, setP_at, dgj_at ht, hjn]
            generalize (wr.setCell ⟨s1.row t, f * 4 + 2, none⟩ (.int .i64 z.m.rc)).drew.drew = W7 at *
            clear m2 m3 c3 pt hq2 qtf h9 h10
            have hrd := dv_read HV3.out
            have m3 := hrd.m3
            have c2 := hrd.r.c2
            obtain ⟨-, -, rr⟩ := hrd.r.u t (by rw [hYl]; exact ht)
            obtain ⟨-, -, rf⟩ := hrd.r.f (by rw [hYl]; omega) t
            rw [hYl] at c2
            rw [← at_nat (by rw [hYl]; exact ht)] at rr
            cases hmv : z.m.rev with
            | true =>
              have V4 := dv_sub HZX.out HV3.out (fun F h => ref_setR h (k := t) (by rw [hYl]; exact ht) true)
              have hfe : Y.setA (t : Int) { Y.at_ (t : Int) with rev := true } = G := by
                rw [hYa, ← HGG.out, hmv, Bool.or_true]
              rw [hfe] at V4
              have HFIN := hide (V4.drop.drop.post refS_ok)
              rw [hmv] at m3
              clear hrd hfe V4 hYa hYl hY hrv hmv HV3 hHZ HCN HGG HR HZR HG
              generalize (Y.at_ (t : Int)).rev = yr at *
              go_wp2_with fail
              go_ret
              obtain ⟨F', y1, y2, y3⟩ := HFIN.out
              exact ⟨rfl, F', ⟨_, HZ1'.out, y1⟩, y2, y3⟩
            | false =>
              have hfe : Y = G := by
                have h1 := HGG.out
                rw [hmv, Bool.or_false] at h1
                have h2 := setA_same (g := Y) (k := t) (by rw [hYl]; exact ht)
                rw [hYa] at h2
                exact h2.symm.trans h1
              have HFIN0 := HV3.out.drop.drop.post refS_ok
              rw [hfe] at HFIN0
              have HFIN := hide HFIN0
              rw [hmv] at m3
              clear hrd hfe HFIN0 hYa hYl hY hrv hmv HV3 hHZ HCN HGG HR HZR HG rr rf c2
              go_wp2_with fail
              go_ret
              obtain ⟨F', y1, y2, y3⟩ := HFIN.out
              exact ⟨rfl, F', ⟨_, HZ1'.out, y1⟩, y2, y3⟩
          · have hmx : max (g1.p2 (t, f)).conf z.m.rc = (g1.p2 (t, f)).conf := by omega
            have h9 : ¬ (((g1.p2 (t, f)).conf : Int) < (z.m.rc : Int)) := by omega
            have h10 : decide (((g1.p2 (t, f)).conf : Int) < (z.m.rc : Int)) = false := decide_eq_false h9
            have hsame : (dgj g1 f t z.m j).setP ((t : Int), (f : Int)) { g1.p2 (t, f) with conf := (g1.p2 (t, f)).conf } = dgj g1 f t z.m j := by
              have e := setP_same (dgj g1 f t z.m j) ((t : Int), (f : Int))
              rw [show (dgj g1 f t z.m j).pr ((t : Int), (f : Int)) = g1.p2 (t, f) from dgj_p2b hne1 j] at e
              exact e
            rw [hmx, hsame] at HGG
            have HV3 := hide (HR.out.drew (dvO_ok HZX.out))
            generalize (g1.p2 (t, f)).conf = cf at *
            clear hmx hsame hcf hcf0 hmr hrl hbb qt
            go_wp2_with fail
            refine wp_region_lex (fun w' => w'.cell? ⟨bm, 2, none⟩ = some (.int .i64 z.m.rc) ∧ w'.cell? ⟨p, 3, none⟩ = some (.slice (some ⟨s1.bP, 0, none⟩) g1.acc.length s1.cP) ∧ w'.cell? ⟨s1.bP, t, none⟩ = some (.slice (some ⟨s1.row t, 0, none⟩) g1.acc.length g1.acc.length) ∧ w'.cell? ⟨s1.row t, f * 4 + 2, none⟩ = some (.int .i64 cf)) (by kernel_rfl) (by kernel_rfl) ⟨m2, c3, pt, hq2⟩ ?_
            (repeat (first | (refine lex_skip (by rfl) ?_; try simp only [Act.put, List.setIfInBounds_toArray, List.set_cons_zero, List.set_cons_succ]) | (refine lex_read (v := ?_) (by rfl) ?_ ?_; rotate_left; (focus (intro w' hS'; go_simp; (try with_reducible rfl); done)); try simp only [Act.put, List.setIfInBounds_toArray, List.set_cons_zero, List.set_cons_succ])))
            refine lex_nil ?_
            generalize hY : dgj g1 f t z.m j = Y at *
            have hYl : Y.acc.length = g1.acc.length := by rw [← hY]; exact dgj_len j
            have hYa : Y.at_ (t : Int) = { g1.at_ t with u := (g1.at_ t).u + isum (((g1.p2 (f, t)).H.take z.m.up).drop (g1.p2 (f, t)).rc) } := by rw [← hY, dgj_at ht, hjn]
            generalize wr.drew = W7 at *
            clear m2 m3 c3 pt hq2
            have hrd := dv_read HV3.out
            have m3 := hrd.m3
            have c2 := hrd.r.c2
            obtain ⟨-, -, rr⟩ := hrd.r.u t (by rw [hYl]; exact ht)
            obtain ⟨-, -, rf⟩ := hrd.r.f (by rw [hYl]; omega) t
            rw [hYl] at c2
            rw [← at_nat (by rw [hYl]; exact ht)] at rr
            cases hmv : z.m.rev with
            | true =>
              have V4 := dv_sub HZX.out HV3.out (fun F h => ref_setR h (k := t) (by rw [hYl]; exact ht) true)
              have hfe : Y.setA (t : Int) { Y.at_ (t : Int) with rev := true } = G := by
                rw [hYa, ← HGG.out, hmv, Bool.or_true]
              rw [hfe] at V4
              have HFIN := hide (V4.drop.drop.post refS_ok)
              rw [hmv] at m3
              clear hrd hfe V4 hYa hYl hY hrv hmv HV3 hHZ HCN HGG HR HZR HG
              generalize (Y.at_ (t : Int)).rev = yr at *
              go_wp2_with fail
              go_ret
              obtain ⟨F', y1, y2, y3⟩ := HFIN.out
              exact ⟨rfl, F', ⟨_, HZ1'.out, y1⟩, y2, y3⟩
            | false =>
              have hfe : Y = G := by
                have h1 := HGG.out
                rw [hmv, Bool.or_false] at h1
                have h2 := setA_same (g := Y) (k := t) (by rw [hYl]; exact ht)
                rw [hYa] at h2
                exact h2.symm.trans h1
              have HFIN0 := HV3.out.drop.drop.post refS_ok
              rw [hfe] at HFIN0
              have HFIN := hide HFIN0
              rw [hmv] at m3
              clear hrd hfe HFIN0 hYa hYl hY hrv hmv HV3 hHZ HCN HGG HR HZR HG rr rf c2
              go_wp2_with fail
              go_ret
              obtain ⟨F', y1, y2, y3⟩ := HFIN.out
              exact ⟨rfl, F', ⟨_, HZ1'.out, y1⟩, y2, y3⟩
end Go.Proofs.Ytapabbpdfplpoaa
namespace Go.Proofs.Ytapabbpdfplpoaa
open Go.RowKit Go.CH Go.CH.Esc
open Go.ChangeMaps (setBlock)

/-- What flies in the pairs of the rows before i, and in the row i before j. -/
def flyRow (g : GM) (i j : Nat) : Int := isum ((List.range j).map fun k => fly (g.p2 (i, k)))
def flyTo (g : GM) (n i : Nat) : Int := isum ((List.range i).map fun k => flyRow g k n)
theorem flyRow_succ (g : GM) (i j : Nat) : flyRow g i (j + 1) = flyRow g i j + fly (g.p2 (i, j)) := by
  unfold flyRow; rw [List.range_succ, List.map_append, isum_append]; simp [isum]
theorem flyTo_succ (g : GM) (n i : Nat) : flyTo g n (i + 1) = flyTo g n i + flyRow g i n := by
  unfold flyTo; rw [List.range_succ, List.map_append, isum_append]; simp [isum]
theorem isum_flat {α : Type} (f : α → List Int) : ∀ l : List α, isum (l.flatMap f) = isum (l.map fun x => isum (f x))
  | [] => rfl
  | a :: l => by rw [List.flatMap_cons, isum_append, isum_flat f l]; rfl
/-- Nothing flies from a replica to itself. -/
theorem flyTo_all {g : GM} (hd : ∀ k : Nat, fly (g.p2 (k, k)) = 0) : flyTo g g.acc.length g.acc.length = flyG g := by
  unfold flyG flyTo keys
  rw [List.map_flatMap, isum_flat]
  congr 1
  refine List.map_congr_left fun k _ => ?_
  unfold flyRow
  have : ∀ l : List Nat, isum (l.map fun j => fly (g.p2 (k, j))) = isum (((l.filter fun t : Nat => decide (k ≠ t)).map fun t : Nat => ((k : Int), (t : Int))).map fun x => fly (g.pr x)) := by
    intro l
    induction l with
    | nil => rfl
    | cons a l ih =>
      by_cases h : k = a
      · subst h
        simp only [List.map_cons, isum, hd k, ih, List.filter_cons, ne_eq, not_true_eq_false, decide_false]
        simp
      · simp only [List.map_cons, isum, ih, List.filter_cons, ne_eq, h, not_false_eq_true, decide_true, if_true]
        rfl
  exact this _
/-- The diagonal is empty. -/
def Diag (g : GM) : Prop := ∀ k : Int, (g.pr (k, k)).H = [] ∧ (g.pr (k, k)).rc = 0
theorem Diag.setP {g : GM} (h : Diag g) {k : Int × Int} (hk : k.1 ≠ k.2) (q : PrG) : Diag (g.setP k q) := fun x => by
  rw [pr_setP, if_neg (fun e => hk (by rw [← e]))]; exact h x
theorem Diag.do {g : GM} (h : Diag g) (x : ActG) : Diag (doM g x) := by
  have hs : ∀ r a, Diag (g.setA r a) := fun r a => h
  unfold doM
  split
  · unfold spendM; split; exact hs _ _; exact h
  · split
    · unfold retM; split; exact hs _ _; exact h
    · split
      · unfold giveM
        split
        · rename_i h0
          have hp : g.pair x.a x.b = true := by
            cases hq : g.pair x.a x.b with
            | true => rfl
            | false => simp [giveE, hq] at h0
          exact Diag.setP (g := g.setA _ _) h (pair_is hp).2.2 _
        · exact h
      · split
        · unfold sendM
          split
          · rename_i h0
            have hp : g.pair x.a x.b = true := by
              cases hq : g.pair x.a x.b with
              | true => rfl
              | false => simp [sendE, hq] at h0
            exact h.setP (pair_is hp).2.2 _
          · exact h
        · split
          · unfold delM
            split
            · rename_i h0
              have hne := del_ne h0
              have h1 : Diag (popM g x.a x.b x.again) := h.setP hne _
              simp only []
              split
              · exact h1
              · intro y
                rw [recv_pr hne, if_neg (fun e => hne (by rw [Prod.mk.injEq] at e; rw [← e.1, ← e.2])), if_neg (fun e => hne (by rw [Prod.mk.injEq] at e; rw [← e.1, ← e.2]))]
                exact h1 y
            · exact h
          · unfold revM; split; exact hs _ _; exact h
theorem Diag.new (n : Nat) (u : Int) : Diag (newG n u) := fun k => ⟨rfl, rfl⟩
theorem p2_fly {g : GM} {U : Int} (hI : Inv g U) (hD : Diag g) {i j : Nat} (hi : i < g.acc.length) (hj : j < g.acc.length) : 0 ≤ fly (g.p2 (i, j)) ∧ (g.p2 (i, j)).rc ≤ (g.p2 (i, j)).H.length ∧ ∀ x ∈ (g.p2 (i, j)).H, 0 ≤ x := by
  by_cases h : i = j
  · subst h
    have h1 := hD (i : Int)
    have h2 : (g.p2 (i, i)).H = [] := h1.1
    have h3 : (g.p2 (i, i)).rc = 0 := h1.2
    refine ⟨?_, by rw [h2, h3]; simp, by rw [h2]; simp⟩
    unfold fly; rw [h2]; simp [isum]
  · have hp : g.pair (i : Int) (j : Int) = true := by simp [GM.pair, GM.is, hi, hj]; omega
    have hk := hI.pr _ _ hp
    exact ⟨fly_nonneg hk, hk.rl, fun x hx => by have := hk.pos x hx; omega⟩
set_option maxRecDepth 100000 in
set_option maxHeartbeats 4000000 in
theorem rfly_any {w : World} {F : Nat → Prop} {g : GM} {p : Nat} (h : RefO g p w F) {U : Int} (hI : Inv g U) (hD : Diag g) (hl : HB g 999999) : Calls Try.prog 25 #[.pointer (some ⟨p, 0, none⟩)] w (BelowRet w (.int .i64 (flyG g))) := by
  obtain ⟨s, hz, hS⟩ := h
  have HR := hide (fun w' (hb : Below w.heap.size w w') => RefR.below hS hb)
  have hn8 := hI.nb.2
  have HP := hide (fun i j hi hj => p2_fly hI hD (i := i) (j := j) hi hj)
  have hall := flyTo_all (g := g) (fun k => by have := hD (k : Int); unfold fly GM.p2; rw [this.1]; simp [isum])
  have hle : flyG g ≤ 1000000000 := by
    obtain ⟨q1, q2, q3⟩ := And.intro (isum_nonneg (l := g.acc.map Acc.u) (fun y hy => by obtain ⟨a, ha, rfl⟩ := List.mem_map.1 hy; exact (hI.acc a ha).1)) (And.intro (isum_nonneg (l := g.acc.map Acc.s) (fun y hy => by obtain ⟨a, ha, rfl⟩ := List.mem_map.1 hy; exact (hI.acc a ha).2)) trivial)
    have h7 := hI.tot
    have h8 := hI.U
    unfold haveG spentG at h7
    omega
  have HRow : Hid (∀ i, i < g.acc.length → ∀ j, j ≤ g.acc.length → 0 ≤ flyRow g i j ∧ flyRow g i j ≤ flyRow g i g.acc.length) := hide (fun i hi j hj => by
    have h1 : ∀ k (hk : k ≤ g.acc.length), 0 ≤ flyRow g i k := fun k hk => isum_nonneg (fun y hy => by
      obtain ⟨x, hx, rfl⟩ := List.mem_map.1 hy
      have := List.mem_range.1 hx
      exact (HP.out i x hi (by omega)).1)
    have h2 : ∀ d, j + d ≤ g.acc.length → flyRow g i j ≤ flyRow g i (j + d) := by
      intro d
      induction d with
      | zero => intro _; exact Int.le_refl _
      | succ d ih =>
        intro hd
        have := ih (by omega)
        rw [← Nat.add_assoc, flyRow_succ]
        have := (HP.out i (j + d) hi (by omega)).1
        omega
    exact ⟨h1 j hj, by have := h2 (g.acc.length - j) (by omega); rwa [show j + (g.acc.length - j) = g.acc.length by omega] at this⟩)
  have HTo : Hid (∀ i, i ≤ g.acc.length → 0 ≤ flyTo g g.acc.length i ∧ flyTo g g.acc.length i ≤ flyG g) := hide (fun i hi => by
    have h1 : ∀ k (hk : k ≤ g.acc.length), 0 ≤ flyTo g g.acc.length k := fun k hk => isum_nonneg (fun y hy => by
      obtain ⟨x, hx, rfl⟩ := List.mem_map.1 hy
      have := List.mem_range.1 hx
      exact (HRow.out x (by omega) _ (Nat.le_refl _)).1)
    have h2 : ∀ d, i + d ≤ g.acc.length → flyTo g g.acc.length i ≤ flyTo g g.acc.length (i + d) := by
      intro d
      induction d with
      | zero => intro _; exact Int.le_refl _
      | succ d ih =>
        intro hd
        have := ih (by omega)
        rw [← Nat.add_assoc, flyTo_succ]
        have := (HRow.out (i + d) (by omega) _ (Nat.le_refl _)).1
        omega
    exact ⟨h1 i hi, by rw [← hall]; have := h2 (g.acc.length - i) (by omega); rwa [show i + (g.acc.length - i) = g.acc.length by omega] at this⟩)
  have HALL := hide hall
  have HLB := hide hl
  clear hS hI hD hall hl hz
  go_enter Try.func25, Try.ntmps25
  go_wp2_with fail
  go_loopw [3, 4] (fun n i wr => ∃ a : Nat, a ≤ g.acc.length ∧ i = .int .i64 a ∧ n = .int .i64 (flyTo g g.acc.length a) ∧ Below w.heap.size w wr) (fun _ i _ => g.acc.length - (intOf i).toNat)
  case atStart => exact ⟨0, by omega, rfl, rfl, Below.refl _ _⟩
  case round =>
    obtain ⟨a, ha, rfl, rfl, hb⟩ := hrel
    have hR := HR.out wr hb
    have c3 := hR.c3
    have HB := hide hb
    clear hR
    by_cases hlt : a < g.acc.length
    · clear hb
      go_wp2_with fail
      go_loopw [3, 5] (fun n i wr => ∃ b : Nat, b ≤ g.acc.length ∧ i = .int .i64 b ∧ n = .int .i64 (flyTo g g.acc.length a + flyRow g a b) ∧ Below w.heap.size w wr) (fun _ i _ => g.acc.length - (intOf i).toNat)
      case atStart => exact ⟨0, by omega, rfl, by simp [flyRow, isum], HB.out⟩
      case round =>
        obtain ⟨b, hb1, rfl, rfl, hb⟩ := hrel
        have hR := HR.out wr hb
        have c3 := hR.c3
        have HB2 := hide hb
        by_cases hlt2 : b < g.acc.length
        · have pa := hR.p a hlt
          obtain ⟨q0, q1, q2, q3⟩ := hR.q a b hlt hlt2
          have hsrc := hR.h a b hlt hlt2
          obtain ⟨y1, y2, y3⟩ := HP.out a b hlt hlt2
          have hb6 : (g.p2 (a, b)).H.length ≤ 999999 := HLB.out _
          have z1 := (HTo.out a (by omega)).1
          have z2 := (HTo.out (a + 1) (by omega)).2
          rw [flyTo_succ] at z2
          have z3 := (HRow.out a hlt b (by omega)).1
          have z4 := (HRow.out a hlt (b + 1) (by omega)).2
          rw [flyRow_succ] at z4
          have HFR := hide (flyRow_succ g a b)
          have hfl : fly (g.p2 (a, b)) = isum ((g.p2 (a, b)).H.drop (g.p2 (a, b)).rc) := rfl
          have HFL := hide hfl
          generalize g.p2 (a, b) = q at *
          generalize s.ps (a, b) = l at *
          obtain ⟨LA, Lc, LB, Ld, lzs⟩ := l
          simp only [] at q0 q3 hsrc
          have hw2 : Below w.heap.size w (wr.alloc (.cells #[.slice LA q.H.length Lc, .int .i64 q.rc, .int .i64 q.conf, .slice LB lzs.length Ld] 118)) := hb.alloc hb.size _
          have hsrc2 := src_new_old (o := .cells #[.slice LA q.H.length Lc, .int .i64 q.rc, .int .i64 q.conf, .slice LB lzs.length Ld] 118) hsrc (by omega)
          obtain ⟨FX, hX, -⟩ := cell_new wr #[.slice LA q.H.length Lc, .int .i64 q.rc, .int .i64 q.conf, .slice LB lzs.length Ld] 118
          have x0 := cell_at hX (i := 0) rfl
          have x1 := cell_at hX (i := 1) rfl
          have HW2 := hide hw2
          have HSR := hide hsrc2
          have hv0 : 0 ≤ flyTo g g.acc.length a + flyRow g a b := by omega
          have hvb : flyTo g g.acc.length a + flyRow g a b + isum (q.H.drop q.rc) ≤ 1000000000 := by omega
          have HFN := hide (show flyTo g g.acc.length a + flyRow g a (b + 1) = flyTo g g.acc.length a + flyRow g a b + isum (q.H.drop q.rc) by rw [HFR.out, HFL.out]; omega)
          have HY3 := hide (show ∀ x ∈ q.H.drop q.rc, 0 ≤ x from fun x hx => y3 x (List.mem_of_mem_drop hx))
          clear hR hb hw2 hsrc hsrc2 hX y1 y3 z1 z2 z3 z4 hfl HFR HFL
          generalize flyTo g g.acc.length a + flyRow g a b = v at *
          go_wp2_with fail
          generalize wr.alloc (.cells #[.slice LA q.H.length Lc, .int .i64 q.rc, .int .i64 q.conf, .slice LB lzs.length Ld] 118) = W2 at *
          generalize wr.heap.size = bx at *
          clear c3 pa q0 q1 q2 q3
          go_loop [3, 7] (fun n i => ∃ j : Nat, q.rc ≤ j ∧ j ≤ q.H.length ∧ i = .int .i64 j ∧ n = .int .i64 (v + isum ((q.H.drop q.rc).take (j - q.rc)))) (fun _ i => q.H.length - (intOf i).toNat)
          case atStart => exact ⟨q.rc, Nat.le_refl _, y2, rfl, by simp [isum]⟩
          case round =>
            obtain ⟨j, hj1, hj2, rfl, rfl⟩ := hrel
            by_cases hlt3 : j < q.H.length
            · obtain ⟨b4, o4, rfl, hc⟩ := HSR.out.open_ (by omega) (by omega)
              have ce := hc j (.int .i64 q.H[j]) (by simp [ints, hlt3])
              have hdl : (q.H.drop q.rc).length = q.H.length - q.rc := by simp
              have hs := isum_take (q.H.drop q.rc) (j - q.rc) (by omega)
              have hge : (q.H.drop q.rc)[j - q.rc]'(by omega) = q.H[j] := by rw [List.getElem_drop]; congr 1; omega
              rw [hge] at hs
              have hb1' := isum_take_le HY3.out (j - q.rc)
              have hb2' := isum_take_le HY3.out (j - q.rc + 1)
              have hx0 : 0 ≤ q.H[j] := by rw [← hge]; exact HY3.out _ (List.getElem_mem _)
              generalize q.H[j] = x at *
              have hsum1 : 0 ≤ v + isum ((q.H.drop q.rc).take (j - q.rc)) := by omega
              have hsum2 : v + isum ((q.H.drop q.rc).take (j - q.rc)) + x ≤ 1000000000 := by omega
              have HS2 := hide (show v + isum ((q.H.drop q.rc).take (j + 1 - q.rc)) = v + isum ((q.H.drop q.rc).take (j - q.rc)) + x by rw [show j + 1 - q.rc = j - q.rc + 1 by omega]; omega)
              clear hc hs hge hb1' hb2' hdl
              generalize v + isum ((q.H.drop q.rc).take (j - q.rc)) = v2 at *
              go_wp2_with fail
              go_round
              case rel => exact ⟨j + 1, by omega, by omega, by go_num, by rw [HS2.out]⟩
              case measure => simp [intOf]; omega
            · obtain rfl : j = q.H.length := by omega
              have hv2 : v + isum ((q.H.drop q.rc).take (q.H.length - q.rc)) = v + isum (q.H.drop q.rc) := by rw [List.take_of_length_le (by simp)]
              rw [hv2]
              clear hv2
              go_wp2_with fail
              go_roundw
              case rel => exact ⟨b + 1, by omega, by go_num, by rw [HFN.out], HW2.out⟩
              case measure => simp [intOf]; omega
        · obtain rfl : b = g.acc.length := by omega
          rw [← flyTo_succ]
          clear hR hb
          go_wp2_with fail
          go_roundw
          case rel => exact ⟨a + 1, by omega, by go_num, rfl, HB2.out⟩
          case measure => simp [intOf]; omega
    · obtain rfl : a = g.acc.length := by omega
      rw [HALL.out]
      clear hb
      go_wp2_with fail
      go_ret
      exact ⟨rfl, HB.out⟩
end Go.Proofs.Ytapabbpdfplpoaa
namespace Go.Proofs.Ytapabbpdfplpoaa
open Go.RowKit Go.CH Go.CH.Esc
open Go.ChangeMaps (setBlock)

theorem rsend_any {w : World} {F : Nat → Prop} {g : GM} {p : Nat} (h : RefO g p w F) {U : Int} (hI : Inv g U) (f t : Int) (hl : HB g 999999) :
    Calls Try.prog 63 #[.pointer (some ⟨p, 0, none⟩), .int .i64 f, .int .i64 t] w (RPost w F (.int .i64 (sendE g f t)) (sendM g f t) p) := by
  by_cases hE : sendE g f t = 0
  · have hp : g.pair f t = true := by
      cases hq : g.pair f t with
      | true => rfl
      | false => simp [sendE, hq] at hE
    have hm : (g.pr (f, t)).ms.length < 100 := by
      unfold sendE at hE
      rw [if_neg (by simp [hp])] at hE
      split at hE
      · cases hE
      · omega
    obtain ⟨a, rfl, -⟩ := is_nat (pair_is hp).1
    obtain ⟨b, rfl, -⟩ := is_nat (pair_is hp).2.1
    rw [hE, send_eq hE]
    exact rsend_ok h hI hp (hl _) hm
  · exact rsend_no h hI f t hE
theorem rdel_any {w : World} {F : Nat → Prop} {g : GM} {p : Nat} (h : RefO g p w F) {U : Int} (hI : Inv g U) (hl : HB g 999999) (f t : Int) (lost again : Bool) :
    Calls Try.prog 64 #[.pointer (some ⟨p, 0, none⟩), .int .i64 f, .int .i64 t, .bool lost, .bool again] w (RPost w F (.bool (delE g f t)) (delM g f t lost again) p) := by
  cases hd : delE g f t with
  | false =>
    have e : delM g f t lost again = g := by unfold delM; rw [if_neg (by simp [hd])]
    rw [e]; exact rdel_no h hI f t lost again hd
  | true =>
    obtain ⟨hp, -⟩ := delE_pair hd
    obtain ⟨a, rfl, -⟩ := is_nat (pair_is hp).1
    obtain ⟨b, rfl, -⟩ := is_nat (pair_is hp).2.1
    cases lost with
    | true =>
      cases again with
      | true => exact rdel_again_lost h hI hl hd
      | false => exact rdel_once_lost h hI hl hd
    | false =>
      cases again with
      | true => exact rdel_again_in h hI hl hd
      | false => exact rdel_once_in h hI hl hd
/-- What want leaves. -/
def WPost (w : World) (F : Nat → Prop) (e0 : Int) (b0 : Bool) (g : GM) (p : Nat) (e : Ending) (w' : World) : Prop := e = .returned (.tuple #[.int .i64 e0, .bool b0]) ∧ Post w F (RefO g p) w'
set_option maxRecDepth 100000 in
set_option maxHeartbeats 3200000 in
theorem want_any {w : World} {F : Nat → Prop} {g : GM} {p : Nat} (h : RefO g p w F) {U : Int} (hI : Inv g U) (hl : HB g 999999) (x : ActG) (hu : -9223372036854775808 ≤ x.u ∧ x.u ≤ 9223372036854775807) :
    Calls Try.prog 21 #[.pointer (some ⟨p, 0, none⟩), .agg (actV x)] w (WPost w F (doE g x) (doB g x) (doM g x) p) := by
  obtain ⟨k, a, b, u, lost, again⟩ := x
  have hbel : Below w.heap.size w (w.alloc (.cells #[.int .i64 k, .int .i64 a, .int .i64 b, .int .i64 u, .bool lost, .bool again] 34)) := (Below.refl _ _).alloc (Nat.le_refl _) _
  have h1 : RefO g p (w.alloc (.cells #[.int .i64 k, .int .i64 a, .int .i64 b, .int .i64 u, .bool lost, .bool again] 34)) F := refO_ok.keep h (fun i hi => heap_old (refO_ok.lt h i hi))
  have HBEL := hide hbel
  have HI := hide hI
  simp only [] at hu
  unfold actV
  simp only []
  by_cases k0 : k = 0
  · subst k0
    have KC := hide (rspend_any h1 hI a u hu)
    have e1 : doE g ⟨0, a, b, u, lost, again⟩ = spendE g a u := by simp [doE]
    have e2 : doB g ⟨0, a, b, u, lost, again⟩ = false := by simp [doB]
    have e3 : doM g ⟨0, a, b, u, lost, again⟩ = spendM g a u := by simp [doM]
    rw [e1, e2, e3]
    generalize spendE g a u = ev at *
    generalize spendM g a u = gv at *
    clear h hI hl h1 hbel e1 e2 e3 hu
    go_enter Try.func21, Try.ntmps21
    go_wp2_with fail
    refine KC.out.mono ?_
    rintro e w' ⟨rfl, hP⟩
    have HP := hide (Post.pre HBEL.out hP)
    clear hP
    go_wp2
    go_ret2
    exact ⟨rfl, HP.out⟩
  by_cases k1 : k = 1
  · subst k1
    have KC := hide (rret_any h1 hI a u hu)
    have e1 : doE g ⟨1, a, b, u, lost, again⟩ = retE g a u := by simp [doE]
    have e2 : doB g ⟨1, a, b, u, lost, again⟩ = false := by simp [doB]
    have e3 : doM g ⟨1, a, b, u, lost, again⟩ = retM g a u := by simp [doM]
    rw [e1, e2, e3]
    generalize retE g a u = ev at *
    generalize retM g a u = gv at *
    clear h hI hl h1 hbel e1 e2 e3 hu k0
    go_enter Try.func21, Try.ntmps21
    go_wp2_with fail
    refine KC.out.mono ?_
    rintro e w' ⟨rfl, hP⟩
    have HP := hide (Post.pre HBEL.out hP)
    clear hP
    go_wp2
    go_ret2
    exact ⟨rfl, HP.out⟩
  by_cases k2 : k = 2
  · subst k2
    have KC := hide (rgive_any h1 hI a b u (hl _))
    have e1 : doE g ⟨2, a, b, u, lost, again⟩ = giveE g a b u := by simp [doE]
    have e2 : doB g ⟨2, a, b, u, lost, again⟩ = false := by simp [doB]
    have e3 : doM g ⟨2, a, b, u, lost, again⟩ = giveM g a b u := by simp [doM]
    rw [e1, e2, e3]
    generalize giveE g a b u = ev at *
    generalize giveM g a b u = gv at *
    clear h hI hl h1 hbel e1 e2 e3 hu k0 k1
    go_enter Try.func21, Try.ntmps21
    go_wp2_with fail
    refine KC.out.mono ?_
    rintro e w' ⟨rfl, hP⟩
    have HP := hide (Post.pre HBEL.out hP)
    clear hP
    go_wp2
    go_ret2
    exact ⟨rfl, HP.out⟩
  by_cases k3 : k = 3
  · subst k3
    have KC := hide (rsend_any h1 hI a b hl)
    have e1 : doE g ⟨3, a, b, u, lost, again⟩ = sendE g a b := by simp [doE]
    have e2 : doB g ⟨3, a, b, u, lost, again⟩ = false := by simp [doB]
    have e3 : doM g ⟨3, a, b, u, lost, again⟩ = sendM g a b := by simp [doM]
    rw [e1, e2, e3]
    generalize sendE g a b = ev at *
    generalize sendM g a b = gv at *
    clear h hI hl h1 hbel e1 e2 e3 hu k0 k1 k2
    go_enter Try.func21, Try.ntmps21
    go_wp2_with fail
    refine KC.out.mono ?_
    rintro e w' ⟨rfl, hP⟩
    have HP := hide (Post.pre HBEL.out hP)
    clear hP
    go_wp2
    go_ret2
    exact ⟨rfl, HP.out⟩
  by_cases k4 : k = 4
  · subst k4
    have KC := hide (rdel_any h1 hI hl a b lost again)
    have e1 : doE g ⟨4, a, b, u, lost, again⟩ = 0 := by simp [doE]
    have e2 : doB g ⟨4, a, b, u, lost, again⟩ = delE g a b := by simp [doB]
    have e3 : doM g ⟨4, a, b, u, lost, again⟩ = delM g a b lost again := by simp [doM]
    rw [e1, e2, e3]
    generalize delE g a b = ev at *
    generalize delM g a b lost again = gv at *
    clear h hI hl h1 hbel e1 e2 e3 hu k0 k1 k2 k3
    go_enter Try.func21, Try.ntmps21
    go_wp2_with fail
    refine KC.out.mono ?_
    rintro e w' ⟨rfl, hP⟩
    have HP := hide (Post.pre HBEL.out hP)
    clear hP
    go_wp2
    go_ret2
    exact ⟨rfl, HP.out⟩
  have KC := hide (rrev_any h1 a)
  have e1 : doE g ⟨k, a, b, u, lost, again⟩ = revE g a := by simp [doE, k0, k1, k2, k3, k4]
  have e2 : doB g ⟨k, a, b, u, lost, again⟩ = false := by simp [doB, k0, k1, k2, k3, k4]
  have e3 : doM g ⟨k, a, b, u, lost, again⟩ = revM g a := by simp [doM, k0, k1, k2, k3, k4]
  have b0 : (k == 0) = false := by simpa using k0
  have b1 : (k == 1) = false := by simpa using k1
  have b2 : (k == 2) = false := by simpa using k2
  have b3 : (k == 3) = false := by simpa using k3
  have b4 : (k == 4) = false := by simpa using k4
  rw [e1, e2, e3]
  generalize revE g a = ev at *
  generalize revM g a = gv at *
  clear h hI hl h1 hbel e1 e2 e3 hu k0 k1 k2 k3 k4
  go_enter Try.func21, Try.ntmps21
  go_wp2_with fail
  refine KC.out.mono ?_
  rintro e w' ⟨rfl, hP⟩
  have HP := hide (Post.pre HBEL.out hP)
  clear hP
  go_wp2
  go_ret2
  exact ⟨rfl, HP.out⟩
end Go.Proofs.Ytapabbpdfplpoaa
namespace Go.CH
open Go.RowKit
section
variable {P : Program} {ops : Array Oper} {Q : Exit → Act → World → Prop}
theorem wpOp_mono {i : Nat} {K K' : Act → World → Prop} {a : Act} {w : World} (hk : ∀ a w, K a w → K' a w) (h : wpOp P ops Q i K a w) : wpOp P ops Q i K' a w := by
  unfold wpOp at *
  cases ho : ops[i]? with
  | none => simp only [ho] at h ⊢; exact hk _ _ h
  | some o =>
    simp only [ho] at h ⊢
    split at h
    · rename_i hw
      rw [if_pos hw]
      exact h.imp (Oper.wp_mono hk) id
    · rename_i hw
      rw [if_neg hw]
      exact hk _ _ h
theorem wpAny_inv (I : Array Bool → Act → World → Prop) (hend : ∀ listed a w, I listed a w → Region.ready .any ops listed = [] → Q .normal a w)
    (hstep : ∀ listed a w, I listed a w → ∀ i ∈ Region.ready .any ops listed, wpOp P ops Q i (I (listed.setIfInBounds i true)) a w) :
    ∀ (n : Nat) (listed : Array Bool) (a : Act) (w : World), (unl ops listed).length = n → listed.size = ops.size → I listed a w → wpAny P .any ops Q n listed a w := by
  intro n
  induction n with
  | zero =>
    intro listed a w hn hs hI
    have hnil : unl ops listed = [] := List.eq_nil_of_length_eq_zero hn
    have hr : Region.ready .any ops listed = [] := by
      cases hr : Region.ready .any ops listed with
      | nil => rfl
      | cons j r =>
        exfalso
        have hj : j ∈ Region.ready .any ops listed := by rw [hr]; simp
        obtain ⟨h0, o, ho, _⟩ := mem_ready.1 hj
        have hjs : j < ops.size := (Array.getElem?_eq_some_iff.1 ho).1
        obtain ⟨l1, l2, hs1, _, _⟩ := unl_split (ops := ops) hs hjs h0
        rw [hnil] at hs1
        cases l1 <;> simp at hs1
    exact ⟨hr, hend _ _ _ hI hr⟩
  | succ n ih =>
    intro listed a w hn hs hI
    refine ⟨hend _ _ _ hI, fun j hj => ?_⟩
    obtain ⟨h0, o, ho, _⟩ := mem_ready.1 hj
    have hjs : j < ops.size := (Array.getElem?_eq_some_iff.1 ho).1
    obtain ⟨l1, l2, hs1, hs2, _⟩ := unl_split (ops := ops) hs hjs h0
    refine wpOp_mono (fun a' w' h => ih _ a' w' ?_ (by simpa using hs) h) (hstep _ _ _ hI j hj)
    rw [hs2]
    rw [hs1] at hn
    simp at hn ⊢
    omega
theorem wp_region_inv {id : Nat} {l : List Oper} {a : Act} {w : World} (I : Array Bool → Act → World → Prop) (hm : P.follows .mixedOrders = true)
    (h0 : I (Array.replicate l.toArray.size false) a w.drew) (hend : ∀ listed a w, I listed a w → Region.ready .any l.toArray listed = [] → Q .normal a w)
    (hstep : ∀ listed a w, I listed a w → ∀ i ∈ Region.ready .any l.toArray listed, wpOp P l.toArray Q i (I (listed.setIfInBounds i true)) a w) : (Code.region id l.toArray true).wp P Q a w := by
  refine wp_region_any hm ?_
  have hu : unl l.toArray (Array.replicate l.toArray.size false) = List.range l.toArray.size := by
    unfold unl
    refine List.filter_eq_self.2 fun i hi => ?_
    have := List.mem_range.1 hi
    simp at this
    simp [this]
  exact wpAny_inv I hend hstep _ _ _ _ (by rw [hu]; simp) (by simp) h0
/-- An operation without a guard. -/
theorem wpOp_plain {i : Nat} {o : Oper} {K : Act → World → Prop} {a : Act} {w : World} (ho : ops[i]? = some o) (hg : o.guard = none) (h : o.wp P a w K Q) : wpOp P ops Q i K a w := by
  unfold wpOp
  simp only [ho]
  rw [if_pos (by simp [Region.wanted, hg])]
  exact .inl h
end
end Go.CH
