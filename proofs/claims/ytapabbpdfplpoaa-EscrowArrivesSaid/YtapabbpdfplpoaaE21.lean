/-
  Escrow: Deliver of a message that is not lost, and comes again.
-/
import Derived.Test.YtapabbpdfplpoaaE20
set_option linter.unusedSimpArgs false
set_option linter.unusedVariables false
namespace Go.Proofs.Ytapabbpdfplpoaa
open Go.RowKit Go.CH Go.CH.Esc
open Go.ChangeMaps (setBlock)

set_option maxRecDepth 100000 in
set_option maxHeartbeats 4000000 in
theorem del_again {w : World} {F : Nat → Prop} {g : GM} {p : Nat} (h : EscO g p w F) {U : Int} (hI : Inv g U) (hl : HB g 1000000) (f t : Int) (hd : delE g f t = true) :
    Calls Try.prog 29 #[.pointer (some ⟨p, 0, none⟩), .int .i64 f, .int .i64 t, .bool false, .bool true] w (EPost w F (.bool true) (delM g f t false true) p) := by
  obtain ⟨hp, m, ml, hm⟩ := delE_pair hd
  have hPr := hI.pr f t hp
  have hne := (pair_is hp).2.2
  have ht := (pair_is hp).2.1
  have hml : ml.length ≤ 100 := by have := hPr.msl; rw [hm] at this; simp at this; omega
  have hN := dlN_mk hI hp (m := m) (by rw [hm]; simp) hl
  have hmod : delM g f t false true = recvM (popM g f t true) f t m := by rw [del_eq hd, hm]; rfl
  have hlen8 := hI.nb
  rw [hmod, recv_rec hne]
  obtain ⟨s, hS⟩ := h
  obtain ⟨b, hb⟩ := hS.read.addr (by have := hI.nb; omega)
  have KL := hide (line_any hS.read f t)
  have KB := hide (line_any hS.read t f)
  rw [lineV, if_pos hp] at KL
  rw [lineV, if_pos (pair_swap hp)] at KB
  obtain ⟨z, hz1, hz2, hT⟩ := esc_take (Run.start hS) hp hm hml
  have hp1 : (g.setP (f, t) { g.pr (f, t) with ms := ml }).pair f t = true := by rw [setP_pair]; exact hp
  have hzt : z.ts = msgT ((g.setP (f, t) { g.pr (f, t) with ms := ml }).pr (f, t)).H z.m := by rw [setP_pr, hz1]; exact hz2
  have hml1 : ((g.setP (f, t) { g.pr (f, t) with ms := ml }).pr (f, t)).ms.length ≤ 100 := by rw [setP_pr]; exact hml
  have hN1 : DlN ((g.setP (f, t) { g.pr (f, t) with ms := ml }).pr (f, t)) ((g.setP (f, t) { g.pr (f, t) with ms := ml }).pr (t, f)) m ((g.setP (f, t) { g.pr (f, t) with ms := ml }).at_ t).u := by
    rw [setP_pr, pr_setP, if_neg (swap_ne hne), setP_at]
    exact ⟨hN.cr, hN.cu, hN.up, hN.few, hN.big, hN.pos, hN.u0, hN.u1, hN.bc, hN.bm, hN.bl, hN.bf, hN.bb⟩
  have hlen1 : 1 ≤ (g.setP (f, t) { g.pr (f, t) with ms := ml }).acc.length ∧ (g.setP (f, t) { g.pr (f, t) with ms := ml }).acc.length ≤ 8 := hlen8
  have ht1 : (g.setP (f, t) { g.pr (f, t) with ms := ml }).is t = true := ht
  rw [pop_yes hm]
  generalize hG : recM _ _ _ _ _ _ = G
  have HG := hide hG
  clear hG
  subst hz1
  have hgp : s.gp = s.gp := rfl
  generalize g.setP (f, t) { g.pr (f, t) with ms := ml } = g1 at *
  have KT := hide hT
  have HZT := hide hzt
  clear hd hS hPr hT hI hm hz2 hzt hl hmod hN hp ht hlen8 hgp
  unfold zcl at KT
  go_enter Try.func29, Try.ntmps29
  go_wp2_with fail
  refine KL.out.mono ?_
  rintro e w' ⟨rfl, rfl⟩
  go_wp2_with fail
  refine KB.out.mono ?_
  rintro e w' ⟨rfl, rfl⟩
  go_wp2_with fail
  refine KT.out.mono ?_
  rintro e w2 ⟨rfl, hR2⟩
  have R3 := hR2.fresh (star_ok (zow_ok z) escS_ok) (cell_new w2 #[.slice z.A z.ts.length z.c, .int .i64 z.m.up, .int .i64 z.m.rc, .bool z.m.rev] 124)
  clear hR2 KT
  have R4 := R3.drew (star_ok cell_ok (star_ok (zow_ok z) escS_ok))
  obtain ⟨FB, hB⟩ := R4.fst
  have b0 := cell_at hB (i := 0) rfl
  have b1 := cell_at hB (i := 1) rfl
  have b2 := cell_at hB (i := 2) rfl
  have b3 := cell_at hB (i := 3) rfl
  obtain ⟨l, lb, hlz, hlbz, hO⟩ := open2 (Z := star (boxO w2.heap.size z) (zow z)) hp1 (R4.perm (by unfold boxO; ac_rfl))
  have hln : l.zs.length ≤ 100 := by
    have : (l.zs.map ZMsg.m).length = (g1.pr (f, t)).ms.length := by rw [hlz.1]
    simp at this; omega
  have okA : (star (lce (g1.pr (f, t)) (s.gp (f, t)) l.A l.c l) (star (lms l) (zow z))).Ok := star_ok cell_ok (star_ok (arow_ok zow_ok) (zow_ok z))
  have okB : (star (boxO w2.heap.size z) (star (lce (g1.pr (t, f)) (s.gp (t, f)) lb.A lb.c lb) (star (lts (g1.pr (t, f)) lb.A lb.c) (star (accO s g1.acc) (restO g1 p s f t l lb))))).Ok := star_ok cell_ok (star_ok cell_ok (star_ok row_ok (star_ok row_ok restO_ok)))
  obtain ⟨F4, hF4, -, hbk4⟩ := (hO.perm (by ac_rfl : _ = star (star (lce (g1.pr (f, t)) (s.gp (f, t)) l.A l.c l) (star (lms l) (zow z))) (star (boxO w2.heap.size z) (star (lce (g1.pr (t, f)) (s.gp (t, f)) lb.A lb.c lb) (star (lts (g1.pr (t, f)) lb.A lb.c) (star (accO s g1.acc) (restO g1 p s f t l lb))))))).take okA okB
  have KP := hide (put_any (z := z) (n := l.zs.length) rfl hln hF4)
  have HBK := hide hbk4
  rw [show (zcl z).toArray = #[.slice z.A z.ts.length z.c, .int .i64 z.m.up, .int .i64 z.m.rc, .bool z.m.rev] from rfl] at KP
  clear R3 R4 hF4 hbk4 hB hO okA okB
  go_wp2_with fail
  generalize hbx : w2.heap.size = bx at *
  generalize hW : w2.alloc (.cells #[.slice z.A z.ts.length z.c, .int .i64 z.m.up, .int .i64 z.m.rc, .bool z.m.rev] 124) = W0 at *
  refine wp_region_lew [4] [0, 0, 0, 0, 1]
    (fun w' => w'.cell? ⟨bx, 0, none⟩ = some (.slice z.A z.ts.length z.c) ∧ w'.cell? ⟨bx, 1, none⟩ = some (.int .i64 z.m.up) ∧ w'.cell? ⟨bx, 2, none⟩ = some (.int .i64 z.m.rc) ∧ w'.cell? ⟨bx, 3, none⟩ = some (.bool z.m.rev))
    (fun _ => True) (fun _ => True) (fun _ => True) (fun _ _ => trivial) (fun _ h => h) (fun _ h => h) (by kernel_rfl) (by kernel_rfl) (by kernel_rfl) (by kernel_rfl) (by exact ⟨b0, b1, b2, b3⟩) ?_
  (repeat (first | (refine lew_skip (by rfl) (by rfl) ?_; try simp only [Act.put, List.setIfInBounds_toArray, List.set_cons_zero, List.set_cons_succ]) | (refine lew_read0 (v := ?_) (by rfl) (by rfl) ?_ ?_; rotate_left; (focus (intro w' hS'; go_simp; (try with_reducible rfl); done)); try simp only [Act.put, List.setIfInBounds_toArray, List.set_cons_zero, List.set_cons_succ]) | (refine lew_read1 (v := ?_) (by rfl) (by rfl) ?_ ?_; rotate_left; (focus (intro w' hS'; go_simp; (try with_reducible rfl); done)); try simp only [Act.put, List.setIfInBounds_toArray, List.set_cons_zero, List.set_cons_succ]) | (refine lew_read2 (v := ?_) (by rfl) (by rfl) ?_ ?_; rotate_left; (focus (intro w' hS'; go_simp; (try with_reducible rfl); done)); try simp only [Act.put, List.setIfInBounds_toArray, List.set_cons_zero, List.set_cons_succ]) | (refine lew_read3 (v := ?_) (by rfl) (by rfl) ?_ ?_; rotate_left; (focus (intro w' hS'; go_simp; (try with_reducible rfl); done)); try simp only [Act.put, List.setIfInBounds_toArray, List.set_cons_zero, List.set_cons_succ]) | (refine lew_read4 (v := ?_) (by rfl) (by rfl) ?_ ?_; rotate_left; (focus (intro w' hS'; go_simp; (try with_reducible rfl); done)); try simp only [Act.put, List.setIfInBounds_toArray, List.set_cons_zero, List.set_cons_succ])))
  refine lew_chain1 rfl (by rfl) (fun K hK => ?_)
  go_wp2_with fail
  refine KP.out.mono ?_
  rintro e W ⟨rfl, B', d', hP5⟩
  have R5 := HBK.out _ _ hP5
  clear hP5 KP HBK b0 b1 b2 b3 hW W0
  have hne1 := (pair_is hp1).2.2
  have hp2 : (g1.setP (f, t) { g1.pr (f, t) with ms := (g1.pr (f, t)).ms ++ [z.m] }).pair f t = true := by rw [setP_pair]; exact hp1
  have hN2 : DlN ((g1.setP (f, t) { g1.pr (f, t) with ms := (g1.pr (f, t)).ms ++ [z.m] }).pr (f, t)) ((g1.setP (f, t) { g1.pr (f, t) with ms := (g1.pr (f, t)).ms ++ [z.m] }).pr (t, f)) z.m ((g1.setP (f, t) { g1.pr (f, t) with ms := (g1.pr (f, t)).ms ++ [z.m] }).at_ t).u := by
    rw [setP_pr, pr_setP, if_neg (swap_ne hne1), setP_at]
    exact ⟨hN1.cr, hN1.cu, hN1.up, hN1.few, hN1.big, hN1.pos, hN1.u0, hN1.u1, hN1.bc, hN1.bm, hN1.bl, hN1.bf, hN1.bb⟩
  have hlz2 : LineZ ((g1.setP (f, t) { g1.pr (f, t) with ms := (g1.pr (f, t)).ms ++ [z.m] }).pr (f, t)) { l with B := B', d := d', zs := l.zs ++ [z] } := by
    rw [setP_pr]
    refine ⟨by simp [hlz.1], fun y hy => ?_⟩
    simp at hy
    rcases hy with hy | rfl
    · exact hlz.2 y hy
    · exact HZT.out
  have hlbz2 : LineZ ((g1.setP (f, t) { g1.pr (f, t) with ms := (g1.pr (f, t)).ms ++ [z.m] }).pr (t, f)) lb := by rw [pr_setP, if_neg (swap_ne hne1)]; exact hlbz
  have hzt := HZT.out
  rw [show (g1.pr (f, t)).H = ((g1.setP (f, t) { g1.pr (f, t) with ms := (g1.pr (f, t)).ms ++ [z.m] }).pr (f, t)).H by rw [setP_pr]] at hzt
  have hlen2 : 1 ≤ (g1.setP (f, t) { g1.pr (f, t) with ms := (g1.pr (f, t)).ms ++ [z.m] }).acc.length ∧ (g1.setP (f, t) { g1.pr (f, t) with ms := (g1.pr (f, t)).ms ++ [z.m] }).acc.length ≤ 8 := hlen1
  have ht2 : (g1.setP (f, t) { g1.pr (f, t) with ms := (g1.pr (f, t)).ms ++ [z.m] }).is t = true := ht1
  have hO2 : Run F w (star (star (boxO bx z) (zow z)) (star (lce ((g1.setP (f, t) { g1.pr (f, t) with ms := (g1.pr (f, t)).ms ++ [z.m] }).pr (f, t)) (s.gp (f, t)) l.A l.c { l with B := B', d := d', zs := l.zs ++ [z] })
      (star (lce ((g1.setP (f, t) { g1.pr (f, t) with ms := (g1.pr (f, t)).ms ++ [z.m] }).pr (t, f)) (s.gp (t, f)) lb.A lb.c lb) (star (lts ((g1.setP (f, t) { g1.pr (f, t) with ms := (g1.pr (f, t)).ms ++ [z.m] }).pr (t, f)) lb.A lb.c)
        (star (accO s (g1.setP (f, t) { g1.pr (f, t) with ms := (g1.pr (f, t)).ms ++ [z.m] }).acc) (star (star (RowO 124 4 (.slice B' (l.zs.length + 1) d') (l.zs.length + 1) ((l.zs ++ [z]).flatMap zcl)) (bigStar (l.zs.map zow))) (restO (g1.setP (f, t) { g1.pr (f, t) with ms := (g1.pr (f, t)).ms ++ [z.m] }) p s f t { l with B := B', d := d', zs := l.zs ++ [z] } lb))))))) W := by
    rw [arow_last] at R5
    rw [restO_setP (l := l) (l' := { l with B := B', d := d', zs := l.zs ++ [z] }) rfl rfl, setP_pr, pr_setP, if_neg (swap_ne hne1)]
    refine R5.perm ?_
    rw [show lce { g1.pr (f, t) with ms := (g1.pr (f, t)).ms ++ [z.m] } (s.gp (f, t)) l.A l.c { l with B := B', d := d', zs := l.zs ++ [z] } = CellO (s.gp (f, t)) (lcl (.slice l.A ((g1.pr (f, t)).H.drop (g1.pr (f, t)).conf).length l.c) (g1.pr (f, t)).H.length (g1.pr (f, t)).rc B' (l.zs.length + 1) d') 109 by unfold lce; simp]
    rw [show accO s (g1.setP (f, t) { g1.pr (f, t) with ms := (g1.pr (f, t)).ms ++ [z.m] }).acc = accO s g1.acc from rfl]
    ac_rfl
  have hlms : lms { l with B := B', d := d', zs := l.zs ++ [z] } = star (zow z) (star (RowO 124 4 (.slice B' (l.zs.length + 1) d') (l.zs.length + 1) ((l.zs ++ [z]).flatMap zcl)) (bigStar (l.zs.map zow))) := by
    unfold lms
    rw [← arow_last]
    simp
  clear R5 HZT hN1 hlen1 ht1 hp1 hml1 hlz hlbz hln hne1
  generalize g1.setP (f, t) { g1.pr (f, t) with ms := (g1.pr (f, t)).ms ++ [z.m] } = g2 at *
  clear g1
  have HZT := hide hzt
  have hlen1 := hlen2
  have ht1 := ht2
  have hN1 := hN2
  obtain ⟨RR, hRR, HDL, hCL⟩ : ∃ RR : Own, RR.Ok ∧ Hid (Run F w (DlO bx z (g2.pr (f, t)) (s.gp (f, t)) { l with B := B', d := d', zs := l.zs ++ [z] } (g2.pr (t, f)) (s.gp (t, f)) lb.A lb.c lb s g2.acc (star (CellO p #[.slice s.A g2.acc.length s.c, .map (some s.bm)] 101) RR)) W) ∧
      Hid (∀ (rc conf : Nat) (a : Acc) (A : Option Addr) (c : Nat) (W' : World), Run F w (DlO bx z { g2.pr (f, t) with rc := rc } (s.gp (f, t)) { l with B := B', d := d', zs := l.zs ++ [z] } { g2.pr (t, f) with conf := conf } (s.gp (t, f)) A c lb s (g2.acc.set t.toNat a) (star (CellO p #[.slice s.A g2.acc.length s.c, .map (some s.bm)] 101) RR)) W' → EPost w F (.bool true) (recM g2 f t rc conf a) p (.returned (.bool true)) W') := by
    refine ⟨star (star (RowO 124 4 (.slice B' (l.zs.length + 1) d') (l.zs.length + 1) ((l.zs ++ [z]).flatMap zcl)) (bigStar (l.zs.map zow))) (star (lts (g2.pr (f, t)) l.A l.c) (star (lms lb) (star (MapO (pairV .i64) s.bm (ents g2.acc.length s.gp)) (two g2 s f t)))),
      star_ok (star_ok row_ok (big_ok (fun A hA => by obtain ⟨z, _, rfl⟩ := List.mem_map.1 hA; exact zow_ok z))) (star_ok row_ok (star_ok (arow_ok zow_ok) (star_ok map_ok (bigK_ok (fun _ => lineO_ok))))), hide (hO2.perm (by unfold DlO restO; ac_rfl)), hide fun rc conf a A c W' hr => ?_⟩
    have hr2 : Run F w (star (boxO bx z) (star (lce { g2.pr (f, t) with rc := rc } (s.gp (f, t)) l.A l.c { l with B := B', d := d', zs := l.zs ++ [z] }) (star (lce { g2.pr (t, f) with conf := conf } (s.gp (t, f)) A c lb) (star (lts { g2.pr (t, f) with conf := conf } A c) (star (accO s (g2.acc.set t.toNat a)) (star (lms { l with B := B', d := d', zs := l.zs ++ [z] }) (restO g2 p s f t { l with B := B', d := d', zs := l.zs ++ [z] } lb))))))) W' := hr.perm (by rw [hlms]; unfold DlO restO; ac_rfl)
    obtain ⟨F', q1, q2, q3⟩ := (close2 (s := s) (p := p) hp2 hlz2 hlbz2 hr2.drop).post escS_ok
    exact ⟨rfl, F', ⟨_, q1⟩, q2, q3⟩
  clear hO2 hlms hlz2 hlbz2 hlen2 ht2 hN2 hp2 hzt
  generalize ({ l with B := B', d := d', zs := l.zs ++ [z] } : LinS) = l at *
  refine hK.out _ _ trivial (lew_nil ?_)
  clear hK hbx
  go_wp2_with fail
  obtain ⟨g1, rfl⟩ : ∃ g1, g1 = g2 := ⟨_, rfl⟩
  generalize s.gp (f, t) = gp at *
  generalize s.gp (t, f) = gb at *
  have hk := (is_lt ht1).2
  have hk0 := (is_lt ht1).1
  have hN := hN1
  unfold GM.at_ at hN
  obtain ⟨k, rfl⟩ : ∃ k : Nat, t = k := ⟨t.toNat, by omega⟩
  simp only [Int.toNat_natCast] at hk hN hCL
  rw [show g1.at_ (k : Int) = g1.acc.getD k default from rfl] at HG
  generalize hn : z.ts.length = n at *
  have hzl : n = z.m.up - z.m.c := by rw [← hn]; rw [HZT.out]; unfold msgT; exact msg_len _ _ _ hN.up
  have HZ := hide (fun j (h : j < z.ts.length) => show z.ts[j]? = ((((g1.pr (f, (k : Int))).H.take z.m.up).drop z.m.c)[j]?) by rw [HZT.out]; rfl)
  clear HZT hN1 ht1 hk0
  have hc0 : W.cell? ⟨p, 0, none⟩ = some (.slice (some ⟨b, 0, none⟩) g1.acc.length s.c) := by
    obtain ⟨FC, hC⟩ := (HDL.out.perm (by unfold DlO; ac_rfl : _ = star (CellO p #[.slice s.A g1.acc.length s.c, .map (some s.bm)] 101) (star (star (boxO bx z) (zow z)) (star (lce (g1.pr (f, (k : Int))) gp l.A l.c l) (star (lce (g1.pr ((k : Int), f)) gb lb.A lb.c lb) (star (lts (g1.pr ((k : Int), f)) lb.A lb.c) (star (accO s g1.acc) RR))))))).fst
    rw [← hb]
    exact cell_at hC rfl
  have KA := hide (at_cell hc0 hlen1.2 hk)
  have hRR2 : (star (CellO p #[.slice s.A g1.acc.length s.c, .map (some s.bm)] 101) RR).Ok := star_ok cell_ok hRR
  generalize (star (CellO p #[.slice s.A g1.acc.length s.c, .map (some s.bm)] 101) RR) = R2 at *
  generalize g1.pr (f, (k : Int)) = q at *
  generalize g1.pr ((k : Int), f) = qb at *
  generalize g1.acc = L at *
  clear hRR RR hc0 hlen1
  refine KA.out.mono ?_
  rintro e w' ⟨rfl, rfl⟩
  have R0 := DlO.read hb HDL.out
  have b0 := R0.b0
  rw [hn] at b0
  have hstart := hide (show Run F w (DlO bx z { q with rc := max q.rc (z.m.c + 0) } gp l qb gb lb.A lb.c lb s (dlL L k q.H q.rc (z.m.c + 0)) R2) W by
    rw [dlL_zero hk hN.cr, show max q.rc (z.m.c + 0) = q.rc by have := hN.cr; omega]; exact HDL.out)
  clear R0 HDL KA
  have hun : (z.m.up : Int) - (n : Int) = (z.m.c : Int) := by have := hN.cu; omega
  have HUN := hide hun
  have hcu : z.m.c + n = z.m.up := by omega
  have hup : (z.m.up : Int) ≤ 1000000 := by have := hN.up; have := hN.big; omega
  have hn8 : (n : Int) ≤ 1000000 := by omega
  have HN := hide hN
  have HB := hide hb
  have HNZ := hide hn
  clear hun hb hN hzl hn
  go_wp2_with fail
  go_loopw [52] (fun i wr => ∃ j : Nat, j ≤ n ∧ i = .int .i64 j ∧ Run F w (DlO bx z { q with rc := max q.rc (z.m.c + j) } gp l qb gb lb.A lb.c lb s (dlL L k q.H q.rc (z.m.c + j)) R2) wr) (fun i _ => n - (intOf i).toNat)
  case atStart => exact ⟨0, Nat.zero_le _, rfl, hstart.out⟩
  case round =>
    obtain ⟨j, hj, rfl, hr⟩ := hrel
    have R1 := DlO.read HB.out hr
    have hlk : k < (dlL L k q.H q.rc (z.m.c + j)).length := by rw [dlL_len]; exact hk
    have a0 := (R1.ac k hlk).1
    rw [dlL_get hk] at a0
    have af := R1.af (by omega)
    have c0 := R1.b0
    have c1 := R1.b1
    have r0 := R1.r
    have rf := R1.rf
    have HR := hide hr
    clear hstart b0
    rw [HNZ.out] at c0
    by_cases hlt : j < n
    · obtain ⟨gz, hgz, zc⟩ := R1.zr j (by rw [HNZ.out]; exact hlt)
      have hzx := HZ.out j (by rw [HNZ.out]; exact hlt)
      rw [List.getElem?_eq_getElem (by rw [HNZ.out]; exact hlt)] at hzx
      have hj2 : z.m.c + j < z.m.up := by omega
      by_cases hrc : q.rc ≤ z.m.c + j
      · obtain ⟨e1, e2, x, hx, hx1, hs, hlo, hhi⟩ := dl_yes HN.out hj2 hrc
        have hxz : z.ts[j]'(by rw [HNZ.out]; exact hlt) = x := by rw [hx] at hzx; injection hzx
        rw [hxz] at zc
        have a1 : wr.cell? ⟨b, k * 3, none⟩ = some (.int .i64 ((L.getD k default).u + isum ((q.H.take (z.m.c + j)).drop q.rc))) := a0
        have r1 : wr.cell? ⟨gp, 2, none⟩ = some (.int .i64 ((max q.rc (z.m.c + j) : Nat) : Int)) := r0
        rw [e1] at r1
        obtain ⟨r, hre⟩ : ∃ r : Nat, z.m.c + j = r := ⟨_, rfl⟩
        rw [hre] at r1
        have h9 : (r : Int) < (z.m.c : Int) + 1 + j := by omega
        have h10 : decide ((r : Int) < (z.m.c : Int) + 1 + j) = true := decide_eq_true h9
        have W1 := DlO.setRc hRR2 (DlO.setAcc hRR2 HB.out hr hlk 0 (by omega) (.int .i64 ((L.getD k default).u + isum ((q.H.take (z.m.c + (j + 1))).drop q.rc))) { L.getD k default with u := (L.getD k default).u + isum ((q.H.take (z.m.c + (j + 1))).drop q.rc) } (by rw [dlL_get hk]; rfl)) (max q.rc (z.m.c + (j + 1)))
        rw [dlL_set, hs, e2] at W1
        have W2 := hide (show Run F w (DlO bx z { q with rc := max q.rc (z.m.c + (j + 1)) } gp l qb gb lb.A lb.c lb s (dlL L k q.H q.rc (z.m.c + (j + 1))) R2) ((wr.setCell ⟨b, k * 3, none⟩ (.int .i64 ((L.getD k default).u + isum ((q.H.take (z.m.c + j)).drop q.rc) + x))).setCell ⟨gp, 2, none⟩ (.int .i64 ((z.m.c + j + 1 : Nat) : Int))) by
          unfold dlL
          rw [hs, e2]
          exact W1)
        have f0 := af (k * 3)
        have hun := HUN.out
        have hxx : (x : Int) ≤ 1000000000 := by omega
        have hne9 : ((z.m.c + j + 1 : Nat) : Int) = (z.m.c : Int) + 1 + j := by omega
        rw [hne9] at W2
        generalize (L.getD k default).u + isum ((q.H.take (z.m.c + j)).drop q.rc) = v at *
        clear R1 a0 r0 af e1 e2 hs hx hzx hre W1 hr HZ HN hne9 HR
        clear hRR2 hxz
        go_wp2
        go_roundw
        case rel => exact ⟨j + 1, by omega, by go_num, W2.out⟩
        case measure => simp [intOf]; omega
      · obtain ⟨e1, e2, e3⟩ := dl_no HN.out hj2 hrc
        have r1 : wr.cell? ⟨gp, 2, none⟩ = some (.int .i64 ((max q.rc (z.m.c + j) : Nat) : Int)) := r0
        rw [e1] at r1
        obtain ⟨r, hre⟩ : ∃ r : Nat, q.rc = r := ⟨_, rfl⟩
        have hrc' := hrc
        rw [hre] at r1 hrc'
        have h9 : ¬ ((r : Int) < (z.m.c : Int) + 1 + j) := by omega
        have h10 : decide ((r : Int) < (z.m.c : Int) + 1 + j) = false := decide_eq_false h9
        have W2 := hide (show Run F w (DlO bx z { q with rc := max q.rc (z.m.c + (j + 1)) } gp l qb gb lb.A lb.c lb s (dlL L k q.H q.rc (z.m.c + (j + 1))) R2) wr by
          have W1 := hr
          unfold dlL at W1 ⊢
          rw [e1] at W1
          rw [e2, e3]
          exact W1)
        have hun := HUN.out
        generalize z.ts[j]'(by rw [HNZ.out]; exact hlt) = x at *
        clear R1 a0 r0 af e1 e2 e3 hzx hre hr HZ HN HR hrc hrc' rf
        clear hRR2
        go_wp2
        go_roundw
        case rel => exact ⟨j + 1, by omega, by go_num, W2.out⟩
        case measure => simp [intOf]; omega
    · have hjn : z.m.c + j = z.m.up := by omega
      rw [hjn] at hr
      clear R1 a0 af r0 rf HR hlk
      have hr1 := hr.drew (dlO_ok hRR2)
      have R1 := DlO.read HB.out hr1
      have k0 := R1.k0
      have k1 := R1.k1
      have c2 := R1.b2
      have hN := HN.out
      obtain ⟨lf, hlf⟩ : ∃ lf : Nat, lf = qb.H.length - z.m.rc := ⟨_, rfl⟩
      have hnb : (qb.H.drop qb.conf).length = qb.H.length - qb.conf := by simp
      obtain ⟨nb, hnb2⟩ : ∃ nb, (qb.H.drop qb.conf).length = nb := ⟨_, rfl⟩
      have h1 := hN.bm
      have h2 := hN.bl
      have h3 := hN.bb
      have h4 := hN.bc
      have t1 : IntKind.i64.wrap ((qb.H.length : Int) - z.m.rc) = (lf : Int) := by rw [IntWalk.i64_in _ (by omega)]; omega
      rw [hnb2] at k0
      by_cases hcf : qb.conf < z.m.rc
      · have hmx : max qb.conf z.m.rc = z.m.rc := by omega
        have HMX := hide hmx
        have t2 : decide ((lf : Int) < nb) = true := decide_eq_true (by omega)
        have t3 : (lf : Int) < nb := by omega
        have t4 : IntKind.i64.wrap ((nb : Int) - lf) = ((z.m.rc - qb.conf : Nat) : Int) := by rw [IntWalk.i64_in _ (by omega)]; omega
        obtain ⟨gg, hgg⟩ := R1.kA (by omega)
        have hr2 := hr1.drew (dlO_ok hRR2)
        have R2' := DlO.read HB.out hr2
        have ks := R2'.ks
        have kc := R2'.kc
        rw [hnb2] at ks kc
        rw [hgg] at ks k0
        have hcut := Src.cut (k := z.m.rc - qb.conf) (c := lb.c) ks (by omega) kc
        obtain ⟨ad, had⟩ : ∃ ad, cutA (some (⟨gg, 0, none⟩ : Addr)) lb.c (z.m.rc - qb.conf) 1 = some ad := by unfold cutA; split <;> exact ⟨_, rfl⟩
        have hsl := fun w => run_slice_from intsOk (some ⟨gg, 0, none⟩) nb lb.c (z.m.rc - qb.conf) .i64 ((z.m.rc - qb.conf : Nat) : Int) rfl (by omega) w
        rw [had] at hcut hsl
        have hdr : (ints (qb.H.drop qb.conf)).drop ((z.m.rc - qb.conf) * 1) = ints (qb.H.drop z.m.rc) := by
          unfold ints
          rw [Nat.mul_one, ← List.map_drop, List.drop_drop]
          congr 2; omega
        rw [hdr, show nb - (z.m.rc - qb.conf) = lf by omega] at hcut
        rw [show nb - (z.m.rc - qb.conf) = lf by omega] at hsl
        have hdl : (qb.H.drop z.m.rc).length = lf := by simp; omega
        have KC := hide (clone_src (c := lb.c - (z.m.rc - qb.conf)) hcut (by have := hN.bf; omega) (by omega))
        have HR2 := hide hr2
        have HDL := hide hdl
        have HLF := hide hlf
        generalize z.m.rc - qb.conf = kk at *
        generalize lb.c - kk = cc at *
        clear hr hr1 R1 R2' hr2 ks kc hcut had hdr hnb hnb2 hdl hlf h1 h2 h3 h4 hN hjn hmx hcf
        go_wp2_with fail
        refine wp_region_lex (fun w' => w'.cell? ⟨gb, 1, none⟩ = some (.int .i64 qb.H.length) ∧ w'.cell? ⟨bx, 2, none⟩ = some (.int .i64 z.m.rc)) (by kernel_rfl) (by kernel_rfl) ⟨k1, c2⟩ ?_
        (repeat (first | (refine lex_skip (by rfl) ?_; try simp only [Act.put, List.setIfInBounds_toArray, List.set_cons_zero, List.set_cons_succ]) | (refine lex_read (v := ?_) (by rfl) ?_ ?_; rotate_left; (focus (intro w' hS'; go_simp; (try with_reducible rfl); done)); try simp only [Act.put, List.setIfInBounds_toArray, List.set_cons_zero, List.set_cons_succ])))
        refine lex_nil ?_
        go_wp2_with fail
        refine wp_region_lew [13, 16] [1, 0, 0, 0, 0, 0, 0, 0, 0, 0, 0, 0, 0, 1, 1, 1, 2] (fun w' => w'.cell? ⟨gb, 0, none⟩ = some (.slice (some ⟨gg, 0, none⟩) nb lb.c)) (fun _ => True) (fun _ => True) (fun _ => True) (fun _ _ => trivial) (fun _ h => h) (fun _ h => h) (by kernel_rfl) (by kernel_rfl) (by kernel_rfl) (by kernel_rfl) k0 ?_
        (repeat (first | (refine lew_skip (by rfl) (by rfl) ?_; try simp only [Act.put, List.setIfInBounds_toArray, List.set_cons_zero, List.set_cons_succ]) | (refine lew_read0 (v := ?_) (by rfl) (by rfl) ?_ ?_; rotate_left; (focus (intro w' hS'; go_simp; (try with_reducible rfl); done)); try simp only [Act.put, List.setIfInBounds_toArray, List.set_cons_zero, List.set_cons_succ]) | (refine lew_read1 (v := ?_) (by rfl) (by rfl) ?_ ?_; rotate_left; (focus (intro w' hS'; go_simp; (try with_reducible rfl); done)); try simp only [Act.put, List.setIfInBounds_toArray, List.set_cons_zero, List.set_cons_succ]) | (refine lew_read2 (v := ?_) (by rfl) (by rfl) ?_ ?_; rotate_left; (focus (intro w' hS'; go_simp; (try with_reducible rfl); done)); try simp only [Act.put, List.setIfInBounds_toArray, List.set_cons_zero, List.set_cons_succ]) | (refine lew_read3 (v := ?_) (by rfl) (by rfl) ?_ ?_; rotate_left; (focus (intro w' hS'; go_simp; (try with_reducible rfl); done)); try simp only [Act.put, List.setIfInBounds_toArray, List.set_cons_zero, List.set_cons_succ]) | (refine lew_read4 (v := ?_) (by rfl) (by rfl) ?_ ?_; rotate_left; (focus (intro w' hS'; go_simp; (try with_reducible rfl); done)); try simp only [Act.put, List.setIfInBounds_toArray, List.set_cons_zero, List.set_cons_succ])))
        refine lew_chain1 rfl (by rfl) (fun K hK => ?_)
        go_wp2_with fail
        refine KC.out.mono ?_
        rintro e w3 ⟨A3, c3, rfl, hP3⟩
        rw [← HDL.out] at hP3
        have S3 := HR2.out.fresh (dlO_ok hRR2) (R := lts { qb with conf := z.m.rc } A3 c3) hP3
        have kf := (DlO.read HB.out S3.drop).kf
        have k3 := (DlO.read HB.out S3.drop).k0
        have hrun := DlO.setBack (conf := z.m.rc) hRR2 S3
        rw [HDL.out] at hrun
        have HRUN := hide hrun
        clear hP3 S3 hrun KC HR2
        refine hK.out _ _ trivial ?_
        clear hK k0 k1 c2
        (repeat (first | (refine lew_skip (by rfl) (by rfl) ?_; try simp only [Act.put, List.setIfInBounds_toArray, List.set_cons_zero, List.set_cons_succ]) | (refine lew_read0 (v := ?_) (by rfl) (by rfl) ?_ ?_; rotate_left; (focus (intro w' hS'; go_simp; (try with_reducible rfl); done)); try simp only [Act.put, List.setIfInBounds_toArray, List.set_cons_zero, List.set_cons_succ]) | (refine lew_read1 (v := ?_) (by rfl) (by rfl) ?_ ?_; rotate_left; (focus (intro w' hS'; go_simp; (try with_reducible rfl); done)); try simp only [Act.put, List.setIfInBounds_toArray, List.set_cons_zero, List.set_cons_succ]) | (refine lew_read2 (v := ?_) (by rfl) (by rfl) ?_ ?_; rotate_left; (focus (intro w' hS'; go_simp; (try with_reducible rfl); done)); try simp only [Act.put, List.setIfInBounds_toArray, List.set_cons_zero, List.set_cons_succ]) | (refine lew_read3 (v := ?_) (by rfl) (by rfl) ?_ ?_; rotate_left; (focus (intro w' hS'; go_simp; (try with_reducible rfl); done)); try simp only [Act.put, List.setIfInBounds_toArray, List.set_cons_zero, List.set_cons_succ]) | (refine lew_read4 (v := ?_) (by rfl) (by rfl) ?_ ?_; rotate_left; (focus (intro w' hS'; go_simp; (try with_reducible rfl); done)); try simp only [Act.put, List.setIfInBounds_toArray, List.set_cons_zero, List.set_cons_succ])))
        refine lew_chain2 rfl (by rfl) (fun K hK => ?_)
        go_wp2_with fail
        generalize w3.setCell ⟨gb, 0, none⟩ (.slice A3 lf c3) = w4 at *
        refine hK.out _ _ trivial (lew_nil ?_)
        have hrun := HRUN.out
        rw [HMX.out] at HG
        clear hK kf k3 t1 t2 t3 t4 hsl HRUN HDL
        have R4 := DlO.read HB.out hrun
        have hlk4 : k < (dlL L k q.H q.rc z.m.up).length := by rw [dlL_len]; exact hk
        have a4 := (R4.ac k hlk4).2
        rw [dlL_get hk] at a4
        have a5 : w4.cell? ⟨b, k * 3 + 2, none⟩ = some (.bool (L.getD k default).rev) := a4
        have b5 := R4.b3
        have f5 := R4.af (by omega) (k * 3 + 2)
        have W5 := DlO.setAcc hRR2 HB.out hrun hlk4 2 (by omega) (.bool ((L.getD k default).rev || z.m.rev)) { L.getD k default with u := (L.getD k default).u + isum ((q.H.take z.m.up).drop q.rc), rev := (L.getD k default).rev || z.m.rev } (by rw [dlL_get hk]; rfl)
        rw [dlL_set] at W5
        have HFIN := hide (hCL.out _ _ _ _ _ _ W5)
        rw [HG.out] at HFIN
        generalize (L.getD k default).rev = rv at *
        generalize z.m.rev = mr at *
        clear R4 a4 W5 hrun HG hCL
        cases rv <;> cases mr
        all_goals
          go_wp2
          go_ret
          exact HFIN.out
      · have hmx : max qb.conf z.m.rc = qb.conf := by omega
        have t2 : decide ((lf : Int) < nb) = false := decide_eq_false (by omega)
        have t3 : ¬ ((lf : Int) < nb) := by omega
        have HR1 := hide hr1
        have HMX := hide hmx
        clear hr hr1 R1 hnb hnb2 hlf h1 h2 h3 h4 hN hjn hcf hmx
        go_wp2_with fail
        refine wp_region_lex (fun w' => w'.cell? ⟨gb, 1, none⟩ = some (.int .i64 qb.H.length) ∧ w'.cell? ⟨bx, 2, none⟩ = some (.int .i64 z.m.rc)) (by kernel_rfl) (by kernel_rfl) ⟨k1, c2⟩ ?_
        (repeat (first | (refine lex_skip (by rfl) ?_; try simp only [Act.put, List.setIfInBounds_toArray, List.set_cons_zero, List.set_cons_succ]) | (refine lex_read (v := ?_) (by rfl) ?_ ?_; rotate_left; (focus (intro w' hS'; go_simp; (try with_reducible rfl); done)); try simp only [Act.put, List.setIfInBounds_toArray, List.set_cons_zero, List.set_cons_succ])))
        refine lex_nil ?_
        have hrun := HR1.out
        generalize wr.drew = w4 at *
        rw [HMX.out] at HG
        have R4 := DlO.read HB.out hrun
        have hlk4 : k < (dlL L k q.H q.rc z.m.up).length := by rw [dlL_len]; exact hk
        have a4 := (R4.ac k hlk4).2
        rw [dlL_get hk] at a4
        have a5 : w4.cell? ⟨b, k * 3 + 2, none⟩ = some (.bool (L.getD k default).rev) := a4
        have b5 := R4.b3
        have f5 := R4.af (by omega) (k * 3 + 2)
        have W5 := DlO.setAcc hRR2 HB.out hrun hlk4 2 (by omega) (.bool ((L.getD k default).rev || z.m.rev)) { L.getD k default with u := (L.getD k default).u + isum ((q.H.take z.m.up).drop q.rc), rev := (L.getD k default).rev || z.m.rev } (by rw [dlL_get hk]; rfl)
        rw [dlL_set] at W5
        have HFIN := hide (hCL.out _ _ _ _ _ _ W5)
        rw [HG.out] at HFIN
        generalize (L.getD k default).rev = rv at *
        generalize z.m.rev = mr at *
        clear R4 a4 W5 hrun HG hCL
        cases rv <;> cases mr
        all_goals
          go_wp2
          go_ret
          exact HFIN.out
end Go.Proofs.Ytapabbpdfplpoaa
