/-
  Escrow: Deliver of a message that is not lost, and comes again.
  Escrow: Deliver, whole; Spent; nothing can be done with a nil escrow.
  Escrow: do.
  Ranging over a map: each step hands out an entry that is still to come, in whatever order.
-/
import Derived.Test.YtapabbpdfplpoaaMT7
import Derived.Test.YtapabbpdfplpoaaMT3
set_option linter.unusedSimpArgs false
set_option linter.unusedVariables false
namespace Go.Proofs.Ytapabbpdfplpoaa
open Go.RowKit Go.CH Go.CH.Esc
open Go.ChangeMaps (setBlock)

set_option maxRecDepth 100000 in
set_option maxHeartbeats 4000000 in
theorem del_again {w : World} {F : Nat → Prop} {g : GM} {p : Nat} (h : EscO g p w F) {U : Int} (hI : Inv g U) (hl : HB g 1000000) (f t : Int) (hd : delE g f t = true) :
    Calls Try.prog 29 #[.pointer (some ⟨p, 0, none⟩), .int .i64 f, .int .i64 t, .bool false, .bool true] w (EPost w F (.bool true) (delM g f t false true) p) := by
  obtain ⟨hp, m, ml, hm⟩ := delE_pair hd
  have hPr := hI.pr f t hp
  have hne := (pair_is hp).2.2
  have ht := (pair_is hp).2.1
  have hml : ml.length ≤ 100 := by have := hPr.msl; rw [hm] at this; simp at this; omega
  have hN := dlN_mk hI hp (m := m) (by rw [hm]; simp) hl
  have hmod : delM g f t false true = recvM (popM g f t true) f t m := by rw [del_eq hd, hm]; rfl
  have hlen8 := hI.nb
  rw [hmod, recv_rec hne]
  obtain ⟨s, hS⟩ := h
  obtain ⟨b, hb⟩ := hS.read.addr (by have := hI.nb; omega)
  have KL := hide (line_any hS.read f t)
  have KB := hide (line_any hS.read t f)
  rw [lineV, if_pos hp] at KL
  rw [lineV, if_pos (pair_swap hp)] at KB
  obtain ⟨z, hz1, hz2, hT⟩ := esc_take (Run.start hS) hp hm hml
  have hp1 : (g.setP (f, t) { g.pr (f, t) with ms := ml }).pair f t = true := by rw [setP_pair]; exact hp
  have hzt : z.ts = msgT ((g.setP (f, t) { g.pr (f, t) with ms := ml }).pr (f, t)).H z.m := by rw [setP_pr, hz1]; exact hz2
  have hml1 : ((g.setP (f, t) { g.pr (f, t) with ms := ml }).pr (f, t)).ms.length ≤ 100 := by rw [setP_pr]; exact hml
  have hN1 : DlN ((g.setP (f, t) { g.pr (f, t) with ms := ml }).pr (f, t)) ((g.setP (f, t) { g.pr (f, t) with ms := ml }).pr (t, f)) m ((g.setP (f, t) { g.pr (f, t) with ms := ml }).at_ t).u := by
    rw [setP_pr, pr_setP, if_neg (swap_ne hne), setP_at]
    exact ⟨hN.cr, hN.cu, hN.up, hN.few, hN.big, hN.pos, hN.u0, hN.u1, hN.bc, hN.bm, hN.bl, hN.bf, hN.bb⟩
  have hlen1 : 1 ≤ (g.setP (f, t) { g.pr (f, t) with ms := ml }).acc.length ∧ (g.setP (f, t) { g.pr (f, t) with ms := ml }).acc.length ≤ 8 := hlen8
  have ht1 : (g.setP (f, t) { g.pr (f, t) with ms := ml }).is t = true := ht
  rw [pop_yes hm]
  generalize hG : recM _ _ _ _ _ _ = G
  have HG := hide hG
  clear hG
  subst hz1
  have hgp : s.gp = s.gp := rfl
  generalize g.setP (f, t) { g.pr (f, t) with ms := ml } = g1 at *
  have KT := hide hT
  have HZT := hide hzt
  clear hd hS hPr hT hI hm hz2 hzt hl hmod hN hp ht hlen8 hgp
  unfold zcl at KT
  go_enter Try.func29, Try.ntmps29
  go_wp2_with fail
  refine KL.out.mono ?_
  rintro e w' ⟨rfl, rfl⟩
  go_wp2_with fail
  refine KB.out.mono ?_
  rintro e w' ⟨rfl, rfl⟩
  go_wp2_with fail
  refine KT.out.mono ?_
  rintro e w2 ⟨rfl, hR2⟩
  have R3 := hR2.fresh (star_ok (zow_ok z) escS_ok) (cell_new w2 #[.slice z.A z.ts.length z.c, .int .i64 z.m.up, .int .i64 z.m.rc, .bool z.m.rev] 124)
  clear hR2 KT
  have R4 := R3.drew (star_ok cell_ok (star_ok (zow_ok z) escS_ok))
  obtain ⟨FB, hB⟩ := R4.fst
  have b0 := cell_at hB (i := 0) rfl
  have b1 := cell_at hB (i := 1) rfl
  have b2 := cell_at hB (i := 2) rfl
  have b3 := cell_at hB (i := 3) rfl
  obtain ⟨l, lb, hlz, hlbz, hO⟩ := open2 (Z := star (boxO w2.heap.size z) (zow z)) hp1 (R4.perm (by unfold boxO; ac_rfl))
  have hln : l.zs.length ≤ 100 := by
    have : (l.zs.map ZMsg.m).length = (g1.pr (f, t)).ms.length := by rw [hlz.1]
    simp at this; omega
  have okA : (star (lce (g1.pr (f, t)) (s.gp (f, t)) l.A l.c l) (star (lms l) (zow z))).Ok := star_ok cell_ok (star_ok (arow_ok zow_ok) (zow_ok z))
  have okB : (star (boxO w2.heap.size z) (star (lce (g1.pr (t, f)) (s.gp (t, f)) lb.A lb.c lb) (star (lts (g1.pr (t, f)) lb.A lb.c) (star (accO s g1.acc) (restO g1 p s f t l lb))))).Ok := star_ok cell_ok (star_ok cell_ok (star_ok row_ok (star_ok row_ok restO_ok)))
  obtain ⟨F4, hF4, -, hbk4⟩ := (hO.perm (by ac_rfl : _ = star (star (lce (g1.pr (f, t)) (s.gp (f, t)) l.A l.c l) (star (lms l) (zow z))) (star (boxO w2.heap.size z) (star (lce (g1.pr (t, f)) (s.gp (t, f)) lb.A lb.c lb) (star (lts (g1.pr (t, f)) lb.A lb.c) (star (accO s g1.acc) (restO g1 p s f t l lb))))))).take okA okB
  have KP := hide (put_any (z := z) (n := l.zs.length) rfl hln hF4)
  have HBK := hide hbk4
  rw [show (zcl z).toArray = #[.slice z.A z.ts.length z.c, .int .i64 z.m.up, .int .i64 z.m.rc, .bool z.m.rev] from rfl] at KP
  clear R3 R4 hF4 hbk4 hB hO okA okB
  go_wp2_with fail
  generalize hbx : w2.heap.size = bx at *
  generalize hW : w2.alloc (.cells #[.slice z.A z.ts.length z.c, .int .i64 z.m.up, .int .i64 z.m.rc, .bool z.m.rev] 124) = W0 at *
  refine wp_region_lew [4] [0, 0, 0, 0, 1]
    (fun w' => w'.cell? ⟨bx, 0, none⟩ = some (.slice z.A z.ts.length z.c) ∧ w'.cell? ⟨bx, 1, none⟩ = some (.int .i64 z.m.up) ∧ w'.cell? ⟨bx, 2, none⟩ = some (.int .i64 z.m.rc) ∧ w'.cell? ⟨bx, 3, none⟩ = some (.bool z.m.rev))
    (fun _ => True) (fun _ => True) (fun _ => True) (fun _ _ => trivial) (fun _ h => h) (fun _ h => h) (by kernel_rfl) (by kernel_rfl) (by kernel_rfl) (by kernel_rfl) (by exact ⟨b0, b1, b2, b3⟩) ?_
  (repeat (first | (refine lew_skip (by rfl) (by rfl) ?_; try simp only [Act.put, List.setIfInBounds_toArray, List.set_cons_zero, List.set_cons_succ]) | (refine lew_read0 (v := ?_) (by rfl) (by rfl) ?_ ?_; rotate_left; (focus (intro w' hS'; go_simp; (try with_reducible rfl); done)); try simp only [Act.put, List.setIfInBounds_toArray, List.set_cons_zero, List.set_cons_succ]) | (refine lew_read1 (v := ?_) (by rfl) (by rfl) ?_ ?_; rotate_left; (focus (intro w' hS'; go_simp; (try with_reducible rfl); done)); try simp only [Act.put, List.setIfInBounds_toArray, List.set_cons_zero, List.set_cons_succ]) | (refine lew_read2 (v := ?_) (by rfl) (by rfl) ?_ ?_; rotate_left; (focus (intro w' hS'; go_simp; (try with_reducible rfl); done)); try simp only [Act.put, List.setIfInBounds_toArray, List.set_cons_zero, List.set_cons_succ]) | (refine lew_read3 (v := ?_) (by rfl) (by rfl) ?_ ?_; rotate_left; (focus (intro w' hS'; go_simp; (try with_reducible rfl); done)); try simp only [Act.put, List.setIfInBounds_toArray, List.set_cons_zero, List.set_cons_succ]) | (refine lew_read4 (v := ?_) (by rfl) (by rfl) ?_ ?_; rotate_left; (focus (intro w' hS'; go_simp; (try with_reducible rfl); done)); try simp only [Act.put, List.setIfInBounds_toArray, List.set_cons_zero, List.set_cons_succ])))
  refine lew_chain1 rfl (by rfl) (fun K hK => ?_)
  go_wp2_with fail
  refine KP.out.mono ?_
  rintro e W ⟨rfl, B', d', hP5⟩
  have R5 := HBK.out _ _ hP5
  clear hP5 KP HBK b0 b1 b2 b3 hW W0
  have hne1 := (pair_is hp1).2.2
  have hp2 : (g1.setP (f, t) { g1.pr (f, t) with ms := (g1.pr (f, t)).ms ++ [z.m] }).pair f t = true := by rw [setP_pair]; exact hp1
  have hN2 : DlN ((g1.setP (f, t) { g1.pr (f, t) with ms := (g1.pr (f, t)).ms ++ [z.m] }).pr (f, t)) ((g1.setP (f, t) { g1.pr (f, t) with ms := (g1.pr (f, t)).ms ++ [z.m] }).pr (t, f)) z.m ((g1.setP (f, t) { g1.pr (f, t) with ms := (g1.pr (f, t)).ms ++ [z.m] }).at_ t).u := by
    rw [setP_pr, pr_setP, if_neg (swap_ne hne1), setP_at]
    exact ⟨hN1.cr, hN1.cu, hN1.up, hN1.few, hN1.big, hN1.pos, hN1.u0, hN1.u1, hN1.bc, hN1.bm, hN1.bl, hN1.bf, hN1.bb⟩
  have hlz2 : LineZ ((g1.setP (f, t) { g1.pr (f, t) with ms := (g1.pr (f, t)).ms ++ [z.m] }).pr (f, t)) { l with B := B', d := d', zs := l.zs ++ [z] } := by
    rw [setP_pr]
    refine ⟨by simp [hlz.1], fun y hy => ?_⟩
    simp at hy
    rcases hy with hy | rfl
    · exact hlz.2 y hy
    · exact HZT.out
  have hlbz2 : LineZ ((g1.setP (f, t) { g1.pr (f, t) with ms := (g1.pr (f, t)).ms ++ [z.m] }).pr (t, f)) lb := by rw [pr_setP, if_neg (swap_ne hne1)]; exact hlbz
  have hzt := HZT.out
  rw [show (g1.pr (f, t)).H = ((g1.setP (f, t) { g1.pr (f, t) with ms := (g1.pr (f, t)).ms ++ [z.m] }).pr (f, t)).H by rw [setP_pr]] at hzt
  have hlen2 : 1 ≤ (g1.setP (f, t) { g1.pr (f, t) with ms := (g1.pr (f, t)).ms ++ [z.m] }).acc.length ∧ (g1.setP (f, t) { g1.pr (f, t) with ms := (g1.pr (f, t)).ms ++ [z.m] }).acc.length ≤ 8 := hlen1
  have ht2 : (g1.setP (f, t) { g1.pr (f, t) with ms := (g1.pr (f, t)).ms ++ [z.m] }).is t = true := ht1
  have hO2 : Run F w (star (star (boxO bx z) (zow z)) (star (lce ((g1.setP (f, t) { g1.pr (f, t) with ms := (g1.pr (f, t)).ms ++ [z.m] }).pr (f, t)) (s.gp (f, t)) l.A l.c { l with B := B', d := d', zs := l.zs ++ [z] })
      (star (lce ((g1.setP (f, t) { g1.pr (f, t) with ms := (g1.pr (f, t)).ms ++ [z.m] }).pr (t, f)) (s.gp (t, f)) lb.A lb.c lb) (star (lts ((g1.setP (f, t) { g1.pr (f, t) with ms := (g1.pr (f, t)).ms ++ [z.m] }).pr (t, f)) lb.A lb.c)
        (star (accO s (g1.setP (f, t) { g1.pr (f, t) with ms := (g1.pr (f, t)).ms ++ [z.m] }).acc) (star (star (RowO 124 4 (.slice B' (l.zs.length + 1) d') (l.zs.length + 1) ((l.zs ++ [z]).flatMap zcl)) (bigStar (l.zs.map zow))) (restO (g1.setP (f, t) { g1.pr (f, t) with ms := (g1.pr (f, t)).ms ++ [z.m] }) p s f t { l with B := B', d := d', zs := l.zs ++ [z] } lb))))))) W := by
    rw [arow_last] at R5
    rw [restO_setP (l := l) (l' := { l with B := B', d := d', zs := l.zs ++ [z] }) rfl rfl, setP_pr, pr_setP, if_neg (swap_ne hne1)]
    refine R5.perm ?_
    rw [show lce { g1.pr (f, t) with ms := (g1.pr (f, t)).ms ++ [z.m] } (s.gp (f, t)) l.A l.c { l with B := B', d := d', zs := l.zs ++ [z] } = CellO (s.gp (f, t)) (lcl (.slice l.A ((g1.pr (f, t)).H.drop (g1.pr (f, t)).conf).length l.c) (g1.pr (f, t)).H.length (g1.pr (f, t)).rc B' (l.zs.length + 1) d') 109 by unfold lce; simp]
    rw [show accO s (g1.setP (f, t) { g1.pr (f, t) with ms := (g1.pr (f, t)).ms ++ [z.m] }).acc = accO s g1.acc from rfl]
    ac_rfl
  have hlms : lms { l with B := B', d := d', zs := l.zs ++ [z] } = star (zow z) (star (RowO 124 4 (.slice B' (l.zs.length + 1) d') (l.zs.length + 1) ((l.zs ++ [z]).flatMap zcl)) (bigStar (l.zs.map zow))) := by
    unfold lms
    rw [← arow_last]
    simp
  clear R5 HZT hN1 hlen1 ht1 hp1 hml1 hlz hlbz hln hne1
  generalize g1.setP (f, t) { g1.pr (f, t) with ms := (g1.pr (f, t)).ms ++ [z.m] } = g2 at *
  clear g1
  have HZT := hide hzt
  have hlen1 := hlen2
  have ht1 := ht2
  have hN1 := hN2
  obtain ⟨RR, hRR, HDL, hCL⟩ : ∃ RR : Own, RR.Ok ∧ Hid (Run F w (DlO bx z (g2.pr (f, t)) (s.gp (f, t)) { l with B := B', d := d', zs := l.zs ++ [z] } (g2.pr (t, f)) (s.gp (t, f)) lb.A lb.c lb s g2.acc (star (CellO p #[.slice s.A g2.acc.length s.c, .map (some s.bm)] 101) RR)) W) ∧
      Hid (∀ (rc conf : Nat) (a : Acc) (A : Option Addr) (c : Nat) (W' : World), Run F w (DlO bx z { g2.pr (f, t) with rc := rc } (s.gp (f, t)) { l with B := B', d := d', zs := l.zs ++ [z] } { g2.pr (t, f) with conf := conf } (s.gp (t, f)) A c lb s (g2.acc.set t.toNat a) (star (CellO p #[.slice s.A g2.acc.length s.c, .map (some s.bm)] 101) RR)) W' → EPost w F (.bool true) (recM g2 f t rc conf a) p (.returned (.bool true)) W') := by
    refine ⟨star (star (RowO 124 4 (.slice B' (l.zs.length + 1) d') (l.zs.length + 1) ((l.zs ++ [z]).flatMap zcl)) (bigStar (l.zs.map zow))) (star (lts (g2.pr (f, t)) l.A l.c) (star (lms lb) (star (MapO (pairV .i64) s.bm (ents g2.acc.length s.gp)) (two g2 s f t)))),
      star_ok (star_ok row_ok (big_ok (fun A hA => by obtain ⟨z, _, rfl⟩ := List.mem_map.1 hA; exact zow_ok z))) (star_ok row_ok (star_ok (arow_ok zow_ok) (star_ok map_ok (bigK_ok (fun _ => lineO_ok))))), hide (hO2.perm (by unfold DlO restO; ac_rfl)), hide fun rc conf a A c W' hr => ?_⟩
    have hr2 : Run F w (star (boxO bx z) (star (lce { g2.pr (f, t) with rc := rc } (s.gp (f, t)) l.A l.c { l with B := B', d := d', zs := l.zs ++ [z] }) (star (lce { g2.pr (t, f) with conf := conf } (s.gp (t, f)) A c lb) (star (lts { g2.pr (t, f) with conf := conf } A c) (star (accO s (g2.acc.set t.toNat a)) (star (lms { l with B := B', d := d', zs := l.zs ++ [z] }) (restO g2 p s f t { l with B := B', d := d', zs := l.zs ++ [z] } lb))))))) W' := hr.perm (by rw [hlms]; unfold DlO restO; ac_rfl)
    obtain ⟨F', q1, q2, q3⟩ := (close2 (s := s) (p := p) hp2 hlz2 hlbz2 hr2.drop).post escS_ok
    exact ⟨rfl, F', ⟨_, q1⟩, q2, q3⟩
  clear hO2 hlms hlz2 hlbz2 hlen2 ht2 hN2 hp2 hzt
  generalize ({ l with B := B', d := d', zs := l.zs ++ [z] } : LinS) = l at *
  refine hK.out _ _ trivial (lew_nil ?_)
  clear hK hbx
  go_wp2_with fail
  obtain ⟨g1, rfl⟩ : ∃ g1, g1 = g2 := ⟨_, rfl⟩
  generalize s.gp (f, t) = gp at *
  generalize s.gp (t, f) = gb at *
  have hk := (is_lt ht1).2
  have hk0 := (is_lt ht1).1
  have hN := hN1
  unfold GM.at_ at hN
  obtain ⟨k, rfl⟩ : ∃ k : Nat, t = k := ⟨t.toNat, by omega⟩
  simp only [Int.toNat_natCast] at hk hN hCL
  rw [show g1.at_ (k : Int) = g1.acc.getD k default from rfl] at HG
  generalize hn : z.ts.length = n at *
  have hzl : n = z.m.up - z.m.c := by rw [← hn]; rw [HZT.out]; unfold msgT; exact msg_len _ _ _ hN.up
  have HZ := hide (fun j (h : j < z.ts.length) => show z.ts[j]? = ((((g1.pr (f, (k : Int))).H.take z.m.up).drop z.m.c)[j]?) by rw [HZT.out]; rfl)
  clear HZT hN1 ht1 hk0
  have hc0 : W.cell? ⟨p, 0, none⟩ = some (.slice (some ⟨b, 0, none⟩) g1.acc.length s.c) := by
    obtain ⟨FC, hC⟩ := (HDL.out.perm (by unfold DlO; ac_rfl : _ = star (CellO p #[.slice s.A g1.acc.length s.c, .map (some s.bm)] 101) (star (star (boxO bx z) (zow z)) (star (lce (g1.pr (f, (k : Int))) gp l.A l.c l) (star (lce (g1.pr ((k : Int), f)) gb lb.A lb.c lb) (star (lts (g1.pr ((k : Int), f)) lb.A lb.c) (star (accO s g1.acc) RR))))))).fst
    rw [← hb]
    exact cell_at hC rfl
  have KA := hide (at_cell hc0 hlen1.2 hk)
  have hRR2 : (star (CellO p #[.slice s.A g1.acc.length s.c, .map (some s.bm)] 101) RR).Ok := star_ok cell_ok hRR
  generalize (star (CellO p #[.slice s.A g1.acc.length s.c, .map (some s.bm)] 101) RR) = R2 at *
  generalize g1.pr (f, (k : Int)) = q at *
  generalize g1.pr ((k : Int), f) = qb at *
  generalize g1.acc = L at *
  clear hRR RR hc0 hlen1
  refine KA.out.mono ?_
  rintro e w' ⟨rfl, rfl⟩
  have R0 := DlO.read hb HDL.out
  have b0 := R0.b0
  rw [hn] at b0
  have hstart := hide (show Run F w (DlO bx z { q with rc := max q.rc (z.m.c + 0) } gp l qb gb lb.A lb.c lb s (dlL L k q.H q.rc (z.m.c + 0)) R2) W by
    rw [dlL_zero hk hN.cr, show max q.rc (z.m.c + 0) = q.rc by have := hN.cr; omega]; exact HDL.out)
  clear R0 HDL KA
  have hun : (z.m.up : Int) - (n : Int) = (z.m.c : Int) := by have := hN.cu; omega
  have HUN := hide hun
  have hcu : z.m.c + n = z.m.up := by omega
  have hup : (z.m.up : Int) ≤ 1000000 := by have := hN.up; have := hN.big; omega
  have hn8 : (n : Int) ≤ 1000000 := by omega
  have HN := hide hN
  have HB := hide hb
  have HNZ := hide hn
  clear hun hb hN hzl hn
  go_wp2_with fail
  go_loopw [52] (fun i wr => ∃ j : Nat, j ≤ n ∧ i = .int .i64 j ∧ Run F w (DlO bx z { q with rc := max q.rc (z.m.c + j) } gp l qb gb lb.A lb.c lb s (dlL L k q.H q.rc (z.m.c + j)) R2) wr) (fun i _ => n - (intOf i).toNat)
  case atStart => exact ⟨0, Nat.zero_le _, rfl, hstart.out⟩
  case round =>
    obtain ⟨j, hj, rfl, hr⟩ := hrel
    have R1 := DlO.read HB.out hr
    have hlk : k < (dlL L k q.H q.rc (z.m.c + j)).length := by rw [dlL_len]; exact hk
    have a0 := (R1.ac k hlk).1
    rw [dlL_get hk] at a0
    have af := R1.af (by omega)
    have c0 := R1.b0
    have c1 := R1.b1
    have r0 := R1.r
    have rf := R1.rf
    have HR := hide hr
    clear hstart b0
    rw [HNZ.out] at c0
    by_cases hlt : j < n
    · obtain ⟨gz, hgz, zc⟩ := R1.zr j (by rw [HNZ.out]; exact hlt)
      have hzx := HZ.out j (by rw [HNZ.out]; exact hlt)
      rw [List.getElem?_eq_getElem (by rw [HNZ.out]; exact hlt)] at hzx
      have hj2 : z.m.c + j < z.m.up := by omega
      by_cases hrc : q.rc ≤ z.m.c + j
      · obtain ⟨e1, e2, x, hx, hx1, hs, hlo, hhi⟩ := dl_yes HN.out hj2 hrc
        have hxz : z.ts[j]'(by rw [HNZ.out]; exact hlt) = x := by rw [hx] at hzx; injection hzx
        rw [hxz] at zc
        have a1 : wr.cell? ⟨b, k * 3, none⟩ = some (.int .i64 ((L.getD k default).u + isum ((q.H.take (z.m.c + j)).drop q.rc))) := a0
        have r1 : wr.cell? ⟨gp, 2, none⟩ = some (.int .i64 ((max q.rc (z.m.c + j) : Nat) : Int)) := r0
        rw [e1] at r1
        obtain ⟨r, hre⟩ : ∃ r : Nat, z.m.c + j = r := ⟨_, rfl⟩
        rw [hre] at r1
        have h9 : (r : Int) < (z.m.c : Int) + 1 + j := by omega
        have h10 : decide ((r : Int) < (z.m.c : Int) + 1 + j) = true := decide_eq_true h9
        have W1 := DlO.setRc hRR2 (DlO.setAcc hRR2 HB.out hr hlk 0 (by omega) (.int .i64 ((L.getD k default).u + isum ((q.H.take (z.m.c + (j + 1))).drop q.rc))) { L.getD k default with u := (L.getD k default).u + isum ((q.H.take (z.m.c + (j + 1))).drop q.rc) } (by rw [dlL_get hk]; rfl)) (max q.rc (z.m.c + (j + 1)))
        rw [dlL_set, hs, e2] at W1
        have W2 := hide (show Run F w (DlO bx z { q with rc := max q.rc (z.m.c + (j + 1)) } gp l qb gb lb.A lb.c lb s (dlL L k q.H q.rc (z.m.c + (j + 1))) R2) ((wr.setCell ⟨b, k * 3, none⟩ (.int .i64 ((L.getD k default).u + isum ((q.H.take (z.m.c + j)).drop q.rc) + x))).setCell ⟨gp, 2, none⟩ (.int .i64 ((z.m.c + j + 1 : Nat) : Int))) by
          unfold dlL
          rw [hs, e2]
          exact W1)
        have f0 := af (k * 3)
        have hun := HUN.out
        have hxx : (x : Int) ≤ 1000000000 := by omega
        have hne9 : ((z.m.c + j + 1 : Nat) : Int) = (z.m.c : Int) + 1 + j := by omega
        rw [hne9] at W2
        generalize (L.getD k default).u + isum ((q.H.take (z.m.c + j)).drop q.rc) = v at *
        clear R1 a0 r0 af e1 e2 hs hx hzx hre W1 hr HZ HN hne9 HR
        clear hRR2 hxz
        go_wp2
        go_roundw
        case rel => exact ⟨j + 1, by omega, by go_num, W2.out⟩
        case measure => simp [intOf]; omega
      · obtain ⟨e1, e2, e3⟩ := dl_no HN.out hj2 hrc
        have r1 : wr.cell? ⟨gp, 2, none⟩ = some (.int .i64 ((max q.rc (z.m.c + j) : Nat) : Int)) := r0
        rw [e1] at r1
        obtain ⟨r, hre⟩ : ∃ r : Nat, q.rc = r := ⟨_, rfl⟩
        have hrc' := hrc
        rw [hre] at r1 hrc'
        have h9 : ¬ ((r : Int) < (z.m.c : Int) + 1 + j) := by omega
        have h10 : decide ((r : Int) < (z.m.c : Int) + 1 + j) = false := decide_eq_false h9
        have W2 := hide (show Run F w (DlO bx z { q with rc := max q.rc (z.m.c + (j + 1)) } gp l qb gb lb.A lb.c lb s (dlL L k q.H q.rc (z.m.c + (j + 1))) R2) wr by
          have W1 := hr
          unfold dlL at W1 ⊢
          rw [e1] at W1
          rw [e2, e3]
          exact W1)
        have hun := HUN.out
        generalize z.ts[j]'(by rw [HNZ.out]; exact hlt) = x at *
        clear R1 a0 r0 af e1 e2 e3 hzx hre hr HZ HN HR hrc hrc' rf
        clear hRR2
        go_wp2
        go_roundw
        case rel => exact ⟨j + 1, by omega, by go_num, W2.out⟩
        case measure => simp [intOf]; omega
    · have hjn : z.m.c + j = z.m.up := by omega
      rw [hjn] at hr
      clear R1 a0 af r0 rf HR hlk
      have hr1 := hr.drew (dlO_ok hRR2)
      have R1 := DlO.read HB.out hr1
      have k0 := R1.k0
      have k1 := R1.k1
      have c2 := R1.b2
      have hN := HN.out
      obtain ⟨lf, hlf⟩ : ∃ lf : Nat, lf = qb.H.length - z.m.rc := ⟨_, rfl⟩
      have hnb : (qb.H.drop qb.conf).length = qb.H.length - qb.conf := by simp
      obtain ⟨nb, hnb2⟩ : ∃ nb, (qb.H.drop qb.conf).length = nb := ⟨_, rfl⟩
      have h1 := hN.bm
      have h2 := hN.bl
      have h3 := hN.bb
      have h4 := hN.bc
      have t1 : IntKind.i64.wrap ((qb.H.length : Int) - z.m.rc) = (lf : Int) := by rw [IntWalk.i64_in _ (by omega)]; omega
      rw [hnb2] at k0
      by_cases hcf : qb.conf < z.m.rc
      · have hmx : max qb.conf z.m.rc = z.m.rc := by omega
        have HMX := hide hmx
        have t2 : decide ((lf : Int) < nb) = true := decide_eq_true (by omega)
        have t3 : (lf : Int) < nb := by omega
        have t4 : IntKind.i64.wrap ((nb : Int) - lf) = ((z.m.rc - qb.conf : Nat) : Int) := by rw [IntWalk.i64_in _ (by omega)]; omega
        obtain ⟨gg, hgg⟩ := R1.kA (by omega)
        have hr2 := hr1.drew (dlO_ok hRR2)
        have R2' := DlO.read HB.out hr2
        have ks := R2'.ks
        have kc := R2'.kc
        rw [hnb2] at ks kc
        rw [hgg] at ks k0
        have hcut := Src.cut (k := z.m.rc - qb.conf) (c := lb.c) ks (by omega) kc
        obtain ⟨ad, had⟩ : ∃ ad, cutA (some (⟨gg, 0, none⟩ : Addr)) lb.c (z.m.rc - qb.conf) 1 = some ad := by unfold cutA; split <;> exact ⟨_, rfl⟩
        have hsl := fun w => run_slice_from intsOk (some ⟨gg, 0, none⟩) nb lb.c (z.m.rc - qb.conf) .i64 ((z.m.rc - qb.conf : Nat) : Int) rfl (by omega) w
        rw [had] at hcut hsl
        have hdr : (ints (qb.H.drop qb.conf)).drop ((z.m.rc - qb.conf) * 1) = ints (qb.H.drop z.m.rc) := by
          unfold ints
          rw [Nat.mul_one, ← List.map_drop, List.drop_drop]
          congr 2; omega
        rw [hdr, show nb - (z.m.rc - qb.conf) = lf by omega] at hcut
        rw [show nb - (z.m.rc - qb.conf) = lf by omega] at hsl
        have hdl : (qb.H.drop z.m.rc).length = lf := by simp; omega
        have KC := hide (clone_src (c := lb.c - (z.m.rc - qb.conf)) hcut (by have := hN.bf; omega) (by omega))
        have HR2 := hide hr2
        have HDL := hide hdl
        have HLF := hide hlf
        generalize z.m.rc - qb.conf = kk at *
        generalize lb.c - kk = cc at *
        clear hr hr1 R1 R2' hr2 ks kc hcut had hdr hnb hnb2 hdl hlf h1 h2 h3 h4 hN hjn hmx hcf
        go_wp2_with fail
        refine wp_region_lex (fun w' => w'.cell? ⟨gb, 1, none⟩ = some (.int .i64 qb.H.length) ∧ w'.cell? ⟨bx, 2, none⟩ = some (.int .i64 z.m.rc)) (by kernel_rfl) (by kernel_rfl) ⟨k1, c2⟩ ?_
        (repeat (first | (refine lex_skip (by rfl) ?_; try simp only [Act.put, List.setIfInBounds_toArray, List.set_cons_zero, List.set_cons_succ]) | (refine lex_read (v := ?_) (by rfl) ?_ ?_; rotate_left; (focus (intro w' hS'; go_simp; (try with_reducible rfl); done)); try simp only [Act.put, List.setIfInBounds_toArray, List.set_cons_zero, List.set_cons_succ])))
        refine lex_nil ?_
        go_wp2_with fail
        refine wp_region_lew [13, 16] [1, 0, 0, 0, 0, 0, 0, 0, 0, 0, 0, 0, 0, 1, 1, 1, 2] (fun w' => w'.cell? ⟨gb, 0, none⟩ = some (.slice (some ⟨gg, 0, none⟩) nb lb.c)) (fun _ => True) (fun _ => True) (fun _ => True) (fun _ _ => trivial) (fun _ h => h) (fun _ h => h) (by kernel_rfl) (by kernel_rfl) (by kernel_rfl) (by kernel_rfl) k0 ?_
        (repeat (first | (refine lew_skip (by rfl) (by rfl) ?_; try simp only [Act.put, List.setIfInBounds_toArray, List.set_cons_zero, List.set_cons_succ]) | (refine lew_read0 (v := ?_) (by rfl) (by rfl) ?_ ?_; rotate_left; (focus (intro w' hS'; go_simp; (try with_reducible rfl); done)); try simp only [Act.put, List.setIfInBounds_toArray, List.set_cons_zero, List.set_cons_succ]) | (refine lew_read1 (v := ?_) (by rfl) (by rfl) ?_ ?_; rotate_left; (focus (intro w' hS'; go_simp; (try with_reducible rfl); done)); try simp only [Act.put, List.setIfInBounds_toArray, List.set_cons_zero, List.set_cons_succ]) | (refine lew_read2 (v := ?_) (by rfl) (by rfl) ?_ ?_; rotate_left; (focus (intro w' hS'; go_simp; (try with_reducible rfl); done)); try simp only [Act.put, List.setIfInBounds_toArray, List.set_cons_zero, List.set_cons_succ]) | (refine lew_read3 (v := ?_) (by rfl) (by rfl) ?_ ?_; rotate_left; (focus (intro w' hS'; go_simp; (try with_reducible rfl); done)); try simp only [Act.put, List.setIfInBounds_toArray, List.set_cons_zero, List.set_cons_succ]) | (refine lew_read4 (v := ?_) (by rfl) (by rfl) ?_ ?_; rotate_left; (focus (intro w' hS'; go_simp; (try with_reducible rfl); done)); try simp only [Act.put, List.setIfInBounds_toArray, List.set_cons_zero, List.set_cons_succ])))
        refine lew_chain1 rfl (by rfl) (fun K hK => ?_)
        go_wp2_with fail
        refine KC.out.mono ?_
        rintro e w3 ⟨A3, c3, rfl, hP3⟩
        rw [← HDL.out] at hP3
        have S3 := HR2.out.fresh (dlO_ok hRR2) (R := lts { qb with conf := z.m.rc } A3 c3) hP3
        have kf := (DlO.read HB.out S3.drop).kf
        have k3 := (DlO.read HB.out S3.drop).k0
        have hrun := DlO.setBack (conf := z.m.rc) hRR2 S3
        rw [HDL.out] at hrun
        have HRUN := hide hrun
        clear hP3 S3 hrun KC HR2
        refine hK.out _ _ trivial ?_
        clear hK k0 k1 c2
        (repeat (first | (refine lew_skip (by rfl) (by rfl) ?_; try simp only [Act.put, List.setIfInBounds_toArray, List.set_cons_zero, List.set_cons_succ]) | (refine lew_read0 (v := ?_) (by rfl) (by rfl) ?_ ?_; rotate_left; (focus (intro w' hS'; go_simp; (try with_reducible rfl); done)); try simp only [Act.put, List.setIfInBounds_toArray, List.set_cons_zero, List.set_cons_succ]) | (refine lew_read1 (v := ?_) (by rfl) (by rfl) ?_ ?_; rotate_left; (focus (intro w' hS'; go_simp; (try with_reducible rfl); done)); try simp only [Act.put, List.setIfInBounds_toArray, List.set_cons_zero, List.set_cons_succ]) | (refine lew_read2 (v := ?_) (by rfl) (by rfl) ?_ ?_; rotate_left; (focus (intro w' hS'; go_simp; (try with_reducible rfl); done)); try simp only [Act.put, List.setIfInBounds_toArray, List.set_cons_zero, List.set_cons_succ]) | (refine lew_read3 (v := ?_) (by rfl) (by rfl) ?_ ?_; rotate_left; (focus (intro w' hS'; go_simp; (try with_reducible rfl); done)); try simp only [Act.put, List.setIfInBounds_toArray, List.set_cons_zero, List.set_cons_succ]) | (refine lew_read4 (v := ?_) (by rfl) (by rfl) ?_ ?_; rotate_left; (focus (intro w' hS'; go_simp; (try with_reducible rfl); done)); try simp only [Act.put, List.setIfInBounds_toArray, List.set_cons_zero, List.set_cons_succ])))
        refine lew_chain2 rfl (by rfl) (fun K hK => ?_)
        go_wp2_with fail
        generalize w3.setCell ⟨gb, 0, none⟩ (.slice A3 lf c3) = w4 at *
        refine hK.out _ _ trivial (lew_nil ?_)
        have hrun := HRUN.out
        rw [HMX.out] at HG
        clear hK kf k3 t1 t2 t3 t4 hsl HRUN HDL
        have R4 := DlO.read HB.out hrun
        have hlk4 : k < (dlL L k q.H q.rc z.m.up).length := by rw [dlL_len]; exact hk
        have a4 := (R4.ac k hlk4).2
        rw [dlL_get hk] at a4
        have a5 : w4.cell? ⟨b, k * 3 + 2, none⟩ = some (.bool (L.getD k default).rev) := a4
        have b5 := R4.b3
        have f5 := R4.af (by omega) (k * 3 + 2)
        have W5 := DlO.setAcc hRR2 HB.out hrun hlk4 2 (by omega) (.bool ((L.getD k default).rev || z.m.rev)) { L.getD k default with u := (L.getD k default).u + isum ((q.H.take z.m.up).drop q.rc), rev := (L.getD k default).rev || z.m.rev } (by rw [dlL_get hk]; rfl)
        rw [dlL_set] at W5
        have HFIN := hide (hCL.out _ _ _ _ _ _ W5)
        rw [HG.out] at HFIN
        generalize (L.getD k default).rev = rv at *
        generalize z.m.rev = mr at *
        clear R4 a4 W5 hrun HG hCL
        cases rv <;> cases mr
        all_goals
          go_wp2
          go_ret
          exact HFIN.out
      · have hmx : max qb.conf z.m.rc = qb.conf := by omega
        have t2 : decide ((lf : Int) < nb) = false := decide_eq_false (by omega)
        have t3 : ¬ ((lf : Int) < nb) := by omega
        have HR1 := hide hr1
        have HMX := hide hmx
        clear hr hr1 R1 hnb hnb2 hlf h1 h2 h3 h4 hN hjn hcf hmx
        go_wp2_with fail
        refine wp_region_lex (fun w' => w'.cell? ⟨gb, 1, none⟩ = some (.int .i64 qb.H.length) ∧ w'.cell? ⟨bx, 2, none⟩ = some (.int .i64 z.m.rc)) (by kernel_rfl) (by kernel_rfl) ⟨k1, c2⟩ ?_
        (repeat (first | (refine lex_skip (by rfl) ?_; try simp only [Act.put, List.setIfInBounds_toArray, List.set_cons_zero, List.set_cons_succ]) | (refine lex_read (v := ?_) (by rfl) ?_ ?_; rotate_left; (focus (intro w' hS'; go_simp; (try with_reducible rfl); done)); try simp only [Act.put, List.setIfInBounds_toArray, List.set_cons_zero, List.set_cons_succ])))
        refine lex_nil ?_
        have hrun := HR1.out
        generalize wr.drew = w4 at *
        rw [HMX.out] at HG
        have R4 := DlO.read HB.out hrun
        have hlk4 : k < (dlL L k q.H q.rc z.m.up).length := by rw [dlL_len]; exact hk
        have a4 := (R4.ac k hlk4).2
        rw [dlL_get hk] at a4
        have a5 : w4.cell? ⟨b, k * 3 + 2, none⟩ = some (.bool (L.getD k default).rev) := a4
        have b5 := R4.b3
        have f5 := R4.af (by omega) (k * 3 + 2)
        have W5 := DlO.setAcc hRR2 HB.out hrun hlk4 2 (by omega) (.bool ((L.getD k default).rev || z.m.rev)) { L.getD k default with u := (L.getD k default).u + isum ((q.H.take z.m.up).drop q.rc), rev := (L.getD k default).rev || z.m.rev } (by rw [dlL_get hk]; rfl)
        rw [dlL_set] at W5
        have HFIN := hide (hCL.out _ _ _ _ _ _ W5)
        rw [HG.out] at HFIN
        generalize (L.getD k default).rev = rv at *
        generalize z.m.rev = mr at *
        clear R4 a4 W5 hrun HG hCL
        cases rv <;> cases mr
        all_goals
          go_wp2
          go_ret
          exact HFIN.out
end Go.Proofs.Ytapabbpdfplpoaa
namespace Go.Proofs.Ytapabbpdfplpoaa
open Go.RowKit Go.CH Go.CH.Esc
open Go.ChangeMaps (setBlock)

theorem del_any_ {w : World} {F : Nat → Prop} {g : GM} {p : Nat} (h : EscO g p w F) {U : Int} (hI : Inv g U) (hl : HB g 1000000) (f t : Int) (lost again : Bool) :
    Calls Try.prog 29 #[.pointer (some ⟨p, 0, none⟩), .int .i64 f, .int .i64 t, .bool lost, .bool again] w (EPost w F (.bool (delE g f t)) (delM g f t lost again) p) := by
  cases hd : delE g f t with
  | false =>
    have e : delM g f t lost again = g := by unfold delM; rw [if_neg (by simp [hd])]
    rw [e]; exact del_no h f t lost again hd
  | true =>
    cases lost with
    | true =>
      have e : delM g f t true again = popM g f t again := by unfold delM; rw [if_pos hd]; rfl
      rw [e]
      cases again with
      | true => exact del_lost_yes h hI f t hd
      | false => exact del_lost_no h hI f t hd
    | false =>
      cases again with
      | true => exact del_again h hI hl f t hd
      | false => exact del_once h hI hl f t hd
theorem have_esc {w : World} {F : Nat → Prop} {g : GM} {p : Nat} (h : EscO g p w F) {U : Int} (hI : Inv g U) (r : Int) : Calls Try.prog 26 #[.pointer (some ⟨p, 0, none⟩), .int .i64 r] w (Quiet w (.int .i64 (have_ g r))) := by
  obtain ⟨s, hS⟩ := h
  exact have_any hS.read hI.nb r
set_option maxHeartbeats 400000 in
theorem spend_nil {w : World} (r k : Int) (hk : 1 ≤ k ∧ k ≤ 1000) : Calls Try.prog 33 #[.pointer none, .int .i64 r, .int .i64 k] w (Quiet w (.int .i64 1)) := by
  have H := fun d fv => hide (change_no (at_nil r w) d fv)
  have t1 : IntKind.i64.wrap (-k) = -k := IntWalk.i64_in _ (by omega)
  have H2 := H (-k) (.func (.func 73) #[] #[])
  clear H
  go_enter Try.func33, Try.ntmps33
  go_wp2_with fail
  refine H2.out.mono ?_
  rintro e w' ⟨rfl, rfl⟩
  go_wp2
  go_ret
  exact ⟨rfl, rfl⟩
set_option maxHeartbeats 400000 in
theorem del_nil {w : World} (f t : Int) (lost again : Bool) : Calls Try.prog 29 #[.pointer none, .int .i64 f, .int .i64 t, .bool lost, .bool again] w (Quiet w (.bool false)) := by
  have H1 := hide (line_nil f t w)
  have H2 := hide (line_nil t f w)
  go_enter Try.func29, Try.ntmps29
  go_wp2_with fail
  refine H1.out.mono ?_
  rintro e w' ⟨rfl, rfl⟩
  go_wp2_with fail
  refine H2.out.mono ?_
  rintro e w' ⟨rfl, rfl⟩
  go_wp2
  go_ret
  exact ⟨rfl, rfl⟩
theorem isum_take (L : List Int) (j : Nat) (hj : j < L.length) : isum (L.take (j + 1)) = isum (L.take j) + L[j] := by
  rw [List.take_succ_eq_append_getElem hj, isum_append]; simp [isum]
theorem isum_take_le {L : List Int} (h : ∀ x ∈ L, 0 ≤ x) (j : Nat) : 0 ≤ isum (L.take j) ∧ isum (L.take j) ≤ isum L := by
  have h1 : 0 ≤ isum (L.take j) := isum_nonneg (fun x hx => h x (List.mem_of_mem_take hx))
  have h2 : 0 ≤ isum (L.drop j) := isum_nonneg (fun x hx => h x (List.mem_of_mem_drop hx))
  have h3 : isum L = isum (L.take j) + isum (L.drop j) := by rw [← isum_append, List.take_append_drop]
  omega
set_option maxHeartbeats 1600000 in
theorem spent_any {w : World} {F : Nat → Prop} {g : GM} {p : Nat} (h : EscO g p w F) {U : Int} (hI : Inv g U) : Calls Try.prog 22 #[.pointer (some ⟨p, 0, none⟩)] w (BelowRet w (.int .i64 (spentG g))) := by
  obtain ⟨s, hS⟩ := h
  have HI := hide hI
  obtain ⟨b, hb⟩ := hS.read.addr (by have := hI.nb; omega)
  have hR := hS.read
  have hc0 := hR.c0
  rw [hb] at hc0
  have HR := hide (fun w' (hb : Below w.heap.size w w') => EscR.below hS hb)
  have HB := hide hb
  have hn8 := hI.nb.2
  have hsp : ∀ x ∈ g.acc.map Acc.s, 0 ≤ x := fun x hx => by obtain ⟨a, ha, rfl⟩ := List.mem_map.1 hx; exact (hI.acc a ha).2
  have hle : isum (g.acc.map Acc.s) ≤ 1000000000 := by
    have h4 : 0 ≤ haveG g := isum_nonneg (fun y hy => by obtain ⟨a, ha, rfl⟩ := List.mem_map.1 hy; exact (hI.acc a ha).1)
    have h6 : 0 ≤ flyG g := isum_nonneg (fun y hy => by
      obtain ⟨k, hk, rfl⟩ := List.mem_map.1 hy
      exact fly_nonneg (hI.pr k.1 k.2 (pair_mem.2 hk)))
    have h7 := hI.tot
    have h8 := hI.U
    unfold spentG at h7
    omega
  have HSP := hide hsp
  clear hS hR hb hI hsp
  go_enter Try.func22, Try.ntmps22
  go_wp2
  go_loopw [3, 13] (fun n i wr => ∃ j : Nat, j ≤ g.acc.length ∧ i = .int .i64 j ∧ n = .int .i64 (isum ((g.acc.map Acc.s).take j)) ∧ Below w.heap.size w wr) (fun _ i _ => g.acc.length - (intOf i).toNat)
  case atStart => exact ⟨0, Nat.zero_le _, rfl, rfl, Below.refl _ _⟩
  case round =>
    obtain ⟨j, hj, rfl, rfl, hbel⟩ := hrel
    by_cases hlt : j < g.acc.length
    · have hr : g.is (j : Int) = true := by simp [GM.is, hlt]
      obtain ⟨a0, a1, a2⟩ := (HR.out wr hbel).accs b HB.out j hr
      simp only [Int.toNat_natCast] at a0 a1 a2
      have hs := isum_take (g.acc.map Acc.s) j (by simpa using hlt)
      have hb1 := isum_take_le HSP.out j
      have hb2 := isum_take_le HSP.out (j + 1)
      have hgs : (g.acc.map Acc.s)[j]'(by simpa using hlt) = (g.at_ (j : Int)).s := by rw [at_get hr]; simp
      rw [hgs] at hs
      generalize (g.at_ (j : Int)).s = x at *
      generalize (g.at_ (j : Int)).u = y at *
      generalize (g.at_ (j : Int)).rev = z at *
      have hx : 0 ≤ isum ((g.acc.map Acc.s).take j) + x ∧ isum ((g.acc.map Acc.s).take j) + x ≤ 1000000000 := by omega
      have HS := hide hs
      have HBEL := hide hbel
      have c0 : wr.cell? ⟨p, 0, none⟩ = some (.slice (some ⟨b, 0, none⟩) g.acc.length s.c) := by rw [hbel.cell (World.block_lt_of_cell? _ _ hc0)]; exact hc0
      clear hs hbel hgs hc0
      have hb3 := hb1.1
      have hb4 := hb1.2
      clear hb1 hb2
      generalize isum ((g.acc.map Acc.s).take j) = v at *
      go_wp2
      go_roundw
      case rel => exact ⟨j + 1, by omega, by go_num, by rw [HS.out], HBEL.out.alloc HBEL.out.size _⟩
      case measure => simp [intOf]; omega
    · have hjn : j = g.acc.length := by omega
      subst hjn
      have hv : isum ((g.acc.map Acc.s).take g.acc.length) = spentG g := by rw [List.take_of_length_le (by simp)]; rfl
      rw [hv]
      have HBEL := hide hbel
      clear hbel hv hle hn8
      go_wp2
      go_ret
      exact ⟨rfl, HBEL.out⟩
end Go.Proofs.Ytapabbpdfplpoaa
namespace Go.Proofs.Ytapabbpdfplpoaa
open Go.RowKit Go.CH Go.CH.Esc
open Go.ChangeMaps (setBlock)

def actV (x : ActG) : Array Value := #[.int .i64 x.k, .int .i64 x.a, .int .i64 x.b, .int .i64 x.u, .bool x.lost, .bool x.again]
/-- What do leaves. -/
def DPost (w : World) (F : Nat → Prop) (e0 : Int) (b0 : Bool) (g : GM) (p : Nat) (e : Ending) (w' : World) : Prop := e = .returned (.tuple #[.int .i64 e0, .bool b0]) ∧ Post w F (EscO g p) w'
theorem Post.pre {w w1 w' : World} {F : Nat → Prop} {R : Own} (hb : Below w.heap.size w w1) (hp : Post w1 F R w') : Post w F R w' := by
  obtain ⟨F', h1, h2, h3⟩ := hp
  refine ⟨F', h1, (Mod.of_below (F := F) hb).trans h2 (fun _ _ h => h) (fun _ _ h => h), fun i hi => (h3 i hi).imp id (fun h => ⟨?_, h.2⟩)⟩
  have := hb.size; omega
set_option maxRecDepth 100000 in
set_option maxHeartbeats 3200000 in
theorem do_any {w : World} {F : Nat → Prop} {g : GM} {p : Nat} (h : EscO g p w F) {U : Int} (hI : Inv g U) (hl : HB g 1000000) (x : ActG) (hu : -9223372036854775808 ≤ x.u ∧ x.u ≤ 9223372036854775807) :
    Calls Try.prog 20 #[.pointer (some ⟨p, 0, none⟩), .agg (actV x)] w (DPost w F (doE g x) (doB g x) (doM g x) p) := by
  obtain ⟨k, a, b, u, lost, again⟩ := x
  have hbel : Below w.heap.size w (w.alloc (.cells #[.int .i64 k, .int .i64 a, .int .i64 b, .int .i64 u, .bool lost, .bool again] 34)) := (Below.refl _ _).alloc (Nat.le_refl _) _
  have h1 : EscO g p (w.alloc (.cells #[.int .i64 k, .int .i64 a, .int .i64 b, .int .i64 u, .bool lost, .bool again] 34)) F := escO_ok.keep h (fun i hi => heap_old (escO_ok.lt h i hi))
  have HBEL := hide hbel
  have HI := hide hI
  simp only [] at hu
  unfold actV
  simp only []
  by_cases k0 : k = 0
  · subst k0
    have KC := hide (spend_any h1 hI a u hu)
    have e1 : doE g ⟨0, a, b, u, lost, again⟩ = spendE g a u := by simp [doE]
    have e2 : doB g ⟨0, a, b, u, lost, again⟩ = false := by simp [doB]
    have e3 : doM g ⟨0, a, b, u, lost, again⟩ = spendM g a u := by simp [doM]
    rw [e1, e2, e3]
    generalize spendE g a u = ev at *
    generalize spendM g a u = gv at *
    clear h hI hl h1 hbel e1 e2 e3 hu
    go_enter Try.func20, Try.ntmps20
    go_wp2_with fail
    refine KC.out.mono ?_
    rintro e w' ⟨rfl, hP⟩
    have HP := hide (Post.pre HBEL.out hP)
    clear hP
    go_wp2
    go_ret2
    exact ⟨rfl, HP.out⟩
  by_cases k1 : k = 1
  · subst k1
    have KC := hide (ret_any h1 hI a u hu)
    have e1 : doE g ⟨1, a, b, u, lost, again⟩ = retE g a u := by simp [doE]
    have e2 : doB g ⟨1, a, b, u, lost, again⟩ = false := by simp [doB]
    have e3 : doM g ⟨1, a, b, u, lost, again⟩ = retM g a u := by simp [doM]
    rw [e1, e2, e3]
    generalize retE g a u = ev at *
    generalize retM g a u = gv at *
    clear h hI hl h1 hbel e1 e2 e3 hu k0
    go_enter Try.func20, Try.ntmps20
    go_wp2_with fail
    refine KC.out.mono ?_
    rintro e w' ⟨rfl, hP⟩
    have HP := hide (Post.pre HBEL.out hP)
    clear hP
    go_wp2
    go_ret2
    exact ⟨rfl, HP.out⟩
  by_cases k2 : k = 2
  · subst k2
    have KC := hide (give_any h1 hI a b u (hl _))
    have e1 : doE g ⟨2, a, b, u, lost, again⟩ = giveE g a b u := by simp [doE]
    have e2 : doB g ⟨2, a, b, u, lost, again⟩ = false := by simp [doB]
    have e3 : doM g ⟨2, a, b, u, lost, again⟩ = giveM g a b u := by simp [doM]
    rw [e1, e2, e3]
    generalize giveE g a b u = ev at *
    generalize giveM g a b u = gv at *
    clear h hI hl h1 hbel e1 e2 e3 hu k0 k1
    go_enter Try.func20, Try.ntmps20
    go_wp2_with fail
    refine KC.out.mono ?_
    rintro e w' ⟨rfl, hP⟩
    have HP := hide (Post.pre HBEL.out hP)
    clear hP
    go_wp2
    go_ret2
    exact ⟨rfl, HP.out⟩
  by_cases k3 : k = 3
  · subst k3
    have KC := hide (send_any h1 hI a b (hl _))
    have e1 : doE g ⟨3, a, b, u, lost, again⟩ = sendE g a b := by simp [doE]
    have e2 : doB g ⟨3, a, b, u, lost, again⟩ = false := by simp [doB]
    have e3 : doM g ⟨3, a, b, u, lost, again⟩ = sendM g a b := by simp [doM]
    rw [e1, e2, e3]
    generalize sendE g a b = ev at *
    generalize sendM g a b = gv at *
    clear h hI hl h1 hbel e1 e2 e3 hu k0 k1 k2
    go_enter Try.func20, Try.ntmps20
    go_wp2_with fail
    refine KC.out.mono ?_
    rintro e w' ⟨rfl, hP⟩
    have HP := hide (Post.pre HBEL.out hP)
    clear hP
    go_wp2
    go_ret2
    exact ⟨rfl, HP.out⟩
  by_cases k4 : k = 4
  · subst k4
    have KC := hide (del_any_ h1 hI hl a b lost again)
    have e1 : doE g ⟨4, a, b, u, lost, again⟩ = 0 := by simp [doE]
    have e2 : doB g ⟨4, a, b, u, lost, again⟩ = delE g a b := by simp [doB]
    have e3 : doM g ⟨4, a, b, u, lost, again⟩ = delM g a b lost again := by simp [doM]
    rw [e1, e2, e3]
    generalize delE g a b = ev at *
    generalize delM g a b lost again = gv at *
    clear h hI hl h1 hbel e1 e2 e3 hu k0 k1 k2 k3
    go_enter Try.func20, Try.ntmps20
    go_wp2_with fail
    refine KC.out.mono ?_
    rintro e w' ⟨rfl, hP⟩
    have HP := hide (Post.pre HBEL.out hP)
    clear hP
    go_wp2
    go_ret2
    exact ⟨rfl, HP.out⟩
  have KC := hide (rev_any h1 hI a)
  have e1 : doE g ⟨k, a, b, u, lost, again⟩ = revE g a := by simp [doE, k0, k1, k2, k3, k4]
  have e2 : doB g ⟨k, a, b, u, lost, again⟩ = false := by simp [doB, k0, k1, k2, k3, k4]
  have e3 : doM g ⟨k, a, b, u, lost, again⟩ = revM g a := by simp [doM, k0, k1, k2, k3, k4]
  have b0 : (k == 0) = false := by simpa using k0
  have b1 : (k == 1) = false := by simpa using k1
  have b2 : (k == 2) = false := by simpa using k2
  have b3 : (k == 3) = false := by simpa using k3
  have b4 : (k == 4) = false := by simpa using k4
  rw [e1, e2, e3]
  generalize revE g a = ev at *
  generalize revM g a = gv at *
  clear h hI hl h1 hbel e1 e2 e3 hu k0 k1 k2 k3 k4
  go_enter Try.func20, Try.ntmps20
  go_wp2_with fail
  refine KC.out.mono ?_
  rintro e w' ⟨rfl, hP⟩
  have HP := hide (Post.pre HBEL.out hP)
  clear hP
  go_wp2
  go_ret2
  exact ⟨rfl, HP.out⟩
end Go.Proofs.Ytapabbpdfplpoaa
namespace Go.CH
open Go.RowKit
open Go.ChangeMaps (setBlock)
section
variable {P : Program}
/-- The iterator in block r over the map b with the entries es: left are those to come. -/
def IterAt (w : World) (r b : Nat) (es : Array MapEntry) (clock : Nat) (left : List MapEntry) : Prop :=
  ∃ seen, w.heap[r]? = some (.mapIter (some b) clock seen clock) ∧ left = es.toList.filter (fun e => !seen.contains e.born)
theorem run_range_map {t K E : TypeId} (ht : P.underlying t = some (.map K E)) {w : World} {b : Nat} {es : Array MapEntry} {clock : Nat} (hb : w.heap[b]? = some (.map es clock)) :
    (Instr.range t (.map (some b))).run P w = .ok (.pointer (some ⟨w.heap.size, 0, none⟩)) (w.alloc (.mapIter (some b) clock #[] clock)) ∧ IterAt (w.alloc (.mapIter (some b) clock #[] clock)) w.heap.size b es clock es.toList := by
  refine ⟨?_, #[], heap_new rfl, (List.filter_eq_self.2 (by simp)).symm⟩
  simp only [Instr.range, Sem.run_bind, run_underlying ht, Result.andThen_ok, MapKept.run_getObj_map hb, Sem.run_pure]
  rfl
theorem run_getObj_iter {w : World} {r b : Nat} {c : Nat} {seen : Array Nat} {l : Nat} (h : w.heap[r]? = some (.mapIter (some b) c seen l)) : (getObj r).run P w = .ok (.mapIter (some b) c seen l) w := by
  simp [getObj, Sem.run, h]
theorem run_setObj_iter {w : World} {r b : Nat} {c : Nat} {seen : Array Nat} {l : Nat} (h : w.heap[r]? = some (.mapIter (some b) c seen l)) (o : Obj) : (setObj r o).run P w = .ok () (setBlock w r o) := by
  simp [setObj, Sem.run, h, setBlock]
theorem filter_push (es : List MapEntry) (seen : Array Nat) (hn : (es.map (·.born)).Nodup) {i : Nat} (hi : i < (es.filter (fun e => !seen.contains e.born)).length) :
    es.filter (fun e => !(seen.push (es.filter (fun e => !seen.contains e.born))[i].born).contains e.born) = (es.filter (fun e => !seen.contains e.born)).eraseIdx i := by
  have h1 : es.filter (fun e => !(seen.push (es.filter (fun e => !seen.contains e.born))[i].born).contains e.born) =
      (es.filter (fun e => !seen.contains e.born)).filter (fun e => !(e.born == (es.filter (fun e => !seen.contains e.born))[i].born)) := by
    rw [List.filter_filter]
    refine List.filter_congr fun e _ => ?_
    rw [Array.contains_push, Bool.not_or, Bool.and_comm]
  rw [h1]
  have hn2 : ((es.filter (fun e => !seen.contains e.born)).map (·.born)).Nodup := (List.filter_sublist.map _).nodup hn
  generalize es.filter (fun e => !seen.contains e.born) = l at hi hn2
  clear h1 hn
  induction l generalizing i with
  | nil => simp at hi
  | cons a l ih =>
    rw [List.map_cons, List.nodup_cons] at hn2
    cases i with
    | zero =>
      simp only [List.getElem_cons_zero, List.eraseIdx_cons_zero]
      rw [List.filter_cons_of_neg (by simp)]
      rw [List.filter_eq_self]
      intro e he
      simp only [Bool.not_eq_true', beq_eq_false_iff_ne]
      intro h; exact hn2.1 (h ▸ List.mem_map.2 ⟨e, he, rfl⟩)
    | succ i =>
      simp only [List.getElem_cons_succ, List.eraseIdx_cons_succ]
      have hi' : i < l.length := by simpa using hi
      rw [List.filter_cons_of_pos]
      · rw [ih hi' hn2.2]
      · simp only [Bool.not_eq_true', beq_eq_false_iff_ne]
        intro h; exact hn2.1 (h ▸ List.mem_map.2 ⟨l[i], List.getElem_mem hi', rfl⟩)
/-- A step. -/
theorem run_next_map {w : World} {r b : Nat} {es : Array MapEntry} {clock : Nat} {left : List MapEntry} (h : IterAt w r b es clock left) (hb : w.heap[b]? = some (.map es clock)) (hborn : ∀ e ∈ es.toList, e.born < clock) (hn : (es.toList.map (·.born)).Nodup) (ty : TypeId) :
    (left = [] ∧ (Instr.next (.pointer (some ⟨r, 0, none⟩)) false ty).run P w = .ok (.tuple #[.bool false]) w) ∨
    ∃ (i : Nat) (hi : i < left.length) (w' : World), (Instr.next (.pointer (some ⟨r, 0, none⟩)) false ty).run P w = .ok (.tuple #[.bool true, left[i].key, left[i].val]) w' ∧ IterAt w' r b es clock (left.eraseIdx i) ∧ Mod (fun i => i = r) w w' ∧ w'.heap.size = w.heap.size ∧
      ∀ w'' : World, w''.heap[r]? = w'.heap[r]? → w''.heap[b]? = some (.map es clock) → (Instr.entry (.pointer (some ⟨r, 0, none⟩))).run P w'' = .ok (.tuple #[left[i].key, left[i].val]) w'' := by
  obtain ⟨seen, hr, hl⟩ := h
  have hg : (!seen.isEmpty && !es.isEmpty && es.all (·.born ≥ clock)) = false := by
    cases he : es.toList with
    | nil => have : es = #[] := by simpa using he
             subst this; simp
    | cons e l =>
      have h1 := hborn e (by rw [he]; simp)
      have : es.all (fun x => decide (x.born ≥ clock)) = false := by
        rw [← Array.all_toList, he, List.all_cons]
        simp; intro h; omega
      rw [this, Bool.and_false]
  have hle : (es.filter fun e : MapEntry => !seen.contains e.born).toList = left := by rw [hl]; simp
  have hold : (es.filter fun e : MapEntry => !seen.contains e.born).filter (fun e => decide (e.born < clock)) = es.filter fun e : MapEntry => !seen.contains e.born := by
    apply Array.toList_inj.1
    rw [Array.toList_filter, hle, List.filter_eq_self]
    intro e he
    rw [hl] at he
    simpa using hborn e (List.mem_filter.1 he).1
  have hnew : (es.filter fun e : MapEntry => !seen.contains e.born).filter (fun e => decide (e.born ≥ clock)) = #[] := by
    apply Array.toList_inj.1
    rw [Array.toList_filter, hle, List.filter_eq_nil_iff.2]
    intro e he
    rw [hl] at he
    have := hborn e (List.mem_filter.1 he).1
    simp; omega
  have hrun0 : ∀ w1 : World, True := fun _ => trivial
  cases hlc : left with
  | nil =>
    left
    refine ⟨rfl, ?_⟩
    have hemp : (es.filter fun e : MapEntry => !seen.contains e.born) = #[] := by apply Array.toList_inj.1; rw [hle, hlc]
    simp only [Instr.next, Sem.run_bind, run_getObj_iter hr, Result.andThen_ok, MapKept.run_getObj_map hb, hg, Bool.false_eq_true, if_false, Sem.run_pure, hold, hnew, hemp]
    simp [choose, Sem.run, Question.forced]
  | cons e0 l0 =>
    right
    have hne : (es.filter fun e : MapEntry => !seen.contains e.born).isEmpty = false := by
      rw [← Array.isEmpty_toList, hle, hlc]; rfl
    have hsz : ((es.filter fun e : MapEntry => !seen.contains e.born) ++ #[]).size = left.length := by rw [Array.append_empty, ← Array.length_toList, hle]
    have key : ∀ i (hi : i < left.length) (w1 : World), w1.heap = w.heap → w1.os = w.os → w1.tape = w.tape → w1.output = w.output →
        IterAt (setBlock w1 r (.mapIter (some b) clock (seen.push left[i].born) clock)) r b es clock (left.eraseIdx i) ∧ Mod (fun i => i = r) w (setBlock w1 r (.mapIter (some b) clock (seen.push left[i].born) clock)) ∧
          (setBlock w1 r (.mapIter (some b) clock (seen.push left[i].born) clock)).heap.size = w.heap.size ∧
          (∀ w'' : World, w''.heap[r]? = (setBlock w1 r (.mapIter (some b) clock (seen.push left[i].born) clock)).heap[r]? → w''.heap[b]? = some (.map es clock) → (Instr.entry (.pointer (some ⟨r, 0, none⟩))).run P w'' = .ok (.tuple #[left[i].key, left[i].val]) w'') := by
      intro i hi w1 h1 h2 h3 h4
      have hr1 : w1.heap[r]? = some (.mapIter (some b) clock seen clock) := by rw [h1]; exact hr
      have hnr : (setBlock w1 r (.mapIter (some b) clock (seen.push left[i].born) clock)).heap[r]? = some (.mapIter (some b) clock (seen.push left[i].born) clock) := heap_setBlock_self hr1
      refine ⟨⟨_, hnr, ?_⟩, ⟨h2, h3, h4, by rw [size_setBlock, h1]; exact Nat.le_refl _, fun k hk hkr => by rw [heap_setBlock_ne (fun e => hkr e.symm), h1]⟩, by rw [size_setBlock, h1], fun w'' g1 g2 => ?_⟩
      · subst hl
        exact (filter_push es.toList seen hn hi).symm
      · rw [hnr] at g1
        have hall : ∀ x ∈ left, x ∈ es.toList := by rw [hl]; exact fun x hx => (List.mem_filter.1 hx).1
        have hmem : left[i] ∈ es.toList := hall _ (List.getElem_mem hi)
        have hfind : es.find? (fun x => x.born == left[i].born) = some left[i] := by
          obtain ⟨j, hj⟩ := List.getElem?_of_mem hmem
          have hfi : es.toList.find? (fun x => x.born == left[i].born) = some left[i] := by
            have : ∀ (l : List MapEntry) (j : Nat), (l.map (·.born)).Nodup → l[j]? = some left[i] → l.find? (fun x => x.born == left[i].born) = some left[i] := by
              intro l
              induction l with
              | nil => intro j _ h; simp at h
              | cons x l ih =>
                intro j hn h
                rw [List.map_cons, List.nodup_cons] at hn
                cases j with
                | zero => simp at h; subst h; simp
                | succ j =>
                  have h' : l[j]? = some left[i] := by simpa using h
                  have hne : ¬ x.born = left[i].born := fun e => hn.1 (e ▸ List.mem_map.2 ⟨left[i], List.mem_of_getElem? h', rfl⟩)
                  rw [List.find?_cons_of_neg (by simpa using hne)]
                  exact ih j hn.2 h'
            exact this _ j hn hj
          obtain ⟨es⟩ := es
          simpa using hfi
        simp only [Instr.entry, Sem.run_bind, run_getObj_iter g1, Result.andThen_ok, MapKept.run_getObj_map g2, Array.back?_push, bne_self_eq_false, Bool.false_eq_true, if_false, Sem.run_pure, hfind]
    have hpick : ∀ i (hi : i < left.length), (((#[] : Array (Option MapEntry)) ++ ((es.filter fun e : MapEntry => !seen.contains e.born) ++ #[]).map some)[i]?) = some (some left[i]) := by
      intro i hi
      rw [Array.append_empty, ← Array.getElem?_toList]
      simp only [Array.toList_append, Array.toList_map, hle]
      simp [hi]
    rw [← hlc]
    have hcs : ((#[] : Array (Option MapEntry)) ++ ((es.filter fun e : MapEntry => !seen.contains e.born) ++ #[]).map some).size = left.length := by simp only [Array.size_append, Array.size_map, hsz]; simp
    have hpos : 0 < left.length := by rw [hlc]; simp
    by_cases hf : left.length ≤ 1
    · refine ⟨0, hpos, setBlock w r (.mapIter (some b) clock (seen.push left[0].born) clock), ?_, key 0 hpos w rfl rfl rfl rfl⟩
      simp only [Instr.next, Sem.run_bind, run_getObj_iter hr, Result.andThen_ok, MapKept.run_getObj_map hb, hg, Bool.false_eq_true, if_false, Sem.run_pure, hold, hnew, hne]
      have hc : (choose (.mapNext ((#[] : Array (Option MapEntry)) ++ ((es.filter fun e : MapEntry => !seen.contains e.born) ++ #[]).map some).size) : Sem Nat).run P w = .ok 0 w := by
        rw [hcs]; simp [choose, Sem.run, Question.forced, hf]
      rw [hc]
      simp only [Result.andThen_ok, hpick 0 hpos, Sem.run_bind, run_setObj_iter hr, Sem.run_pure]
    · have hlt : w.tape w.drawn (.mapNext left.length) % left.length < left.length := Nat.mod_lt _ hpos
      refine ⟨_, hlt, setBlock w.drew r (.mapIter (some b) clock (seen.push (left[w.tape w.drawn (.mapNext left.length) % left.length]'hlt).born) clock), ?_, key _ hlt w.drew rfl rfl rfl rfl⟩
      simp only [Instr.next, Sem.run_bind, run_getObj_iter hr, Result.andThen_ok, MapKept.run_getObj_map hb, hg, Bool.false_eq_true, if_false, Sem.run_pure, hold, hnew, hne]
      have hc : (choose (.mapNext ((#[] : Array (Option MapEntry)) ++ ((es.filter fun e : MapEntry => !seen.contains e.born) ++ #[]).map some).size) : Sem Nat).run P w = .ok (w.tape w.drawn (.mapNext left.length) % left.length) w.drew := by
        rw [hcs]; simp [choose, Sem.run, Question.forced, hf, Question.cut]
      rw [hc]
      simp only [Result.andThen_ok, hpick _ hlt, Sem.run_bind, run_setObj_iter (w := w.drew) hr, Sem.run_pure]
end
end Go.CH
