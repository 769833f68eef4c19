/-
  The reference of Escrow: what Deliver reads and writes.
  The reference of Escrow: Deliver of a lost message.
-/
import Derived.Test.YtapabbpdfplpoaaJ10
set_option linter.unusedSimpArgs false
set_option linter.unusedVariables false
namespace Go.Proofs.Ytapabbpdfplpoaa
open Go.RowKit Go.CH Go.CH.Esc
open Go.ChangeMaps (setBlock)

theorem updP_same (s : RefP) (k j : Nat) : updP s k j (s.ps (k, j)) = s := by
  unfold updP
  have : (fun x => if x = (k, j) then s.ps (k, j) else s.ps x) = s.ps := by
    funext x
    by_cases h : x = (k, j)
    · simp [h]
    · simp [h]
  rw [this]
theorem setP_same (g : GM) (k : Int × Int) : g.setP k (g.pr k) = g := by
  unfold GM.setP
  have : (fun x => if x = k then g.pr k else g.pr x) = g.pr := by
    funext x
    by_cases h : x = k
    · simp [h]
    · simp [h]
  rw [this]
/-- The messages of a pair, as they lie in its queue. -/
theorem ref_msg {g : GM} {p : Nat} {s : RefP} {w : World} {F : Nat → Prop} (h : RefS g p s w F) {f t : Nat} (hf : f < g.acc.length) (ht : t < g.acc.length) {k : Nat} (hk : k < (s.ps (f, t)).zs.length) :
    ∃ gB, (s.ps (f, t)).B = some ⟨gB, 0, none⟩ ∧ w.cell? ⟨gB, k * 4, none⟩ = some (.int .i64 ((s.ps (f, t)).zs[k].m.c + 1)) ∧ w.cell? ⟨gB, k * 4 + 1, none⟩ = some (.slice (s.ps (f, t)).zs[k].A (s.ps (f, t)).zs[k].ts.length (s.ps (f, t)).zs[k].c) ∧
      w.cell? ⟨gB, k * 4 + 2, none⟩ = some (.int .i64 (s.ps (f, t)).zs[k].m.rc) ∧ w.cell? ⟨gB, k * 4 + 3, none⟩ = some (.bool (s.ps (f, t)).zs[k].m.rev) := by
  rw [refS_pull (k := f) (j := t) hf ht] at h
  obtain ⟨_, _, _, ⟨_, _, ⟨_, _, _, ⟨F1, _, h1, _⟩, _, _⟩, _⟩, _⟩ := h
  obtain ⟨gB, hB⟩ := row_addr h1 (by omega)
  rw [hB] at h1
  have hg := fun i (hi : i < 4) => flat_get rcl 4 rcl_len hk i hi
  exact ⟨gB, hB, row_cell h1 (by have := hg 0 (by omega); simpa [rcl] using this), row_cell h1 (by have := hg 1 (by omega); simpa [rcl] using this), row_cell h1 (by have := hg 2 (by omega); simpa [rcl] using this), row_cell h1 (by have := hg 3 (by omega); simpa [rcl] using this)⟩
theorem zow_cell {z : ZMsg} {w : World} {F : Nat → Prop} (h : zow z w F) {i : Nat} (hi : i < z.ts.length) : ∃ gz, z.A = some ⟨gz, 0, none⟩ ∧ w.cell? ⟨gz, i, none⟩ = some (.int .i64 z.ts[i]) := by
  have h' : RowO 3 1 (.slice z.A z.ts.length z.c) z.ts.length (ints z.ts) w F := h
  obtain ⟨gz, hz⟩ := row_addr h' (by omega)
  rw [hz] at h'
  exact ⟨gz, hz, row_cell h' (by simp [ints, hi])⟩
theorem big_mem : ∀ {l : List Own} {A : Own} {w : World} {F : Nat → Prop}, A ∈ l → bigStar l w F → ∃ F', A w F'
  | B :: l, A, w, F, hm, h => by
    have h1 : star B (bigStar l) w F := h
    obtain ⟨F1, F2, h2, h3, _⟩ := h1
    rcases List.mem_cons.1 hm with rfl | hm
    · exact ⟨F1, h2⟩
    · exact big_mem hm h3
theorem ref_unit {g : GM} {p : Nat} {s : RefP} {w : World} {F : Nat → Prop} (h : RefS g p s w F) {f t : Nat} (hf : f < g.acc.length) (ht : t < g.acc.length) {z : ZMsg} (hz : z ∈ (s.ps (f, t)).zs) : ∃ F', zow z w F' := by
  rw [refS_pull (k := f) (j := t) hf ht] at h
  obtain ⟨_, _, _, ⟨_, _, ⟨_, _, _, ⟨_, F2, _, h2, _⟩, _, _⟩, _⟩, _⟩ := h
  exact big_mem (List.mem_map.2 ⟨z, hz, rfl⟩) h2
/-- The queue is another row now. -/
theorem ref_queue {F0 : Nat → Prop} {w0 W : World} {g : GM} {p : Nat} {s : RefP} {C : Own} (hC : C.Ok) {f t : Nat} (hf : f < g.acc.length) (ht : t < g.acc.length) {A : Option Addr} {n c : Nat} {xs : List ZMsg} (hn : xs.length = n) {Zx : Own} (hZ : Zx.Ok)
    (hx : bigStar ((s.ps (f, t)).zs.map zow) = star Zx (bigStar (xs.map zow))) {ms : List MsgG}
    (h : Run F0 w0 (star (RowO 158 4 (.slice A n c) n (xs.flatMap rcl)) (star C (RefS g p s))) W) :
    W.frozen? ⟨s.row f, t * 4 + 3, none⟩ = false ∧ Run F0 w0 (star Zx (star C (RefS (g.setP ((f : Int), (t : Int)) { g.p2 (f, t) with ms := ms }) p (updP s f t { s.ps (f, t) with B := A, d := c, zs := xs })))) (W.setCell ⟨s.row f, t * 4 + 3, none⟩ (.slice A n c)) := by
  subst hn
  have okT : (star Zx C).Ok := star_ok hZ hC
  have h1 : Run F0 w0 (star (RowO 158 4 (.slice (s.ps (f, t)).B (s.ps (f, t)).zs.length (s.ps (f, t)).d) (s.ps (f, t)).zs.length ((s.ps (f, t)).zs.flatMap rcl)) (star (star (rowR g s g.acc.length f) (star (PairX { g.p2 (f, t) with ms := ms } { s.ps (f, t) with B := A, d := c, zs := xs }) (restR g p s f t))) (star Zx C))) W := h.perm (by
    rw [refS_pull (k := f) (j := t) hf ht]
    unfold PairX ARow
    simp only []
    rw [hx]
    ac_rfl)
  have h2 := h1.drop
  obtain ⟨F1, hR, bk⟩ := h2.sub (star_ok rowR_ok (star_ok pairX_ok restR_ok)) okT
  have h3 := ref_setQ hf ht hR 3 (by omega) (.slice A xs.length c) (by simp [pcl])
  obtain ⟨FQ, hQ⟩ := h2.assoc.fst
  refine ⟨row_free hQ (t * 4 + 3) (by omega), ?_⟩
  exact (bk _ _ refS_ok h3).perm (by ac_rfl)
/-- Received, or confirmed, is written. -/
theorem ref_setRc {F0 : Nat → Prop} {w0 W : World} {g : GM} {p : Nat} {s : RefP} (h : Run F0 w0 (RefS g p s) W) {f t : Nat} (hf : f < g.acc.length) (ht : t < g.acc.length) (n : Nat) :
    Run F0 w0 (RefS (g.setP ((f : Int), (t : Int)) { g.p2 (f, t) with rc := n }) p s) (W.setCell ⟨s.row f, t * 4 + 1, none⟩ (.int .i64 n)) := by
  have h1 := h.perm (refS_pull (k := f) (j := t) hf ht)
  have h2 := ref_setQ (q := { g.p2 (f, t) with rc := n }) (l := s.ps (f, t)) hf ht h1 1 (by omega) (.int .i64 n) (by simp [pcl])
  rwa [updP_same] at h2
theorem ref_setCf {F0 : Nat → Prop} {w0 W : World} {g : GM} {p : Nat} {s : RefP} (h : Run F0 w0 (RefS g p s) W) {f t : Nat} (hf : f < g.acc.length) (ht : t < g.acc.length) (n : Nat) :
    Run F0 w0 (RefS (g.setP ((f : Int), (t : Int)) { g.p2 (f, t) with conf := n }) p s) (W.setCell ⟨s.row f, t * 4 + 2, none⟩ (.int .i64 n)) := by
  have h1 := h.perm (refS_pull (k := f) (j := t) hf ht)
  have h2 := ref_setQ (q := { g.p2 (f, t) with conf := n }) (l := s.ps (f, t)) hf ht h1 2 (by omega) (.int .i64 n) (by simp [pcl])
  rwa [updP_same] at h2
/-- The state behind j transfers of a message. -/
def dgj (g : GM) (f t : Int) (m : MsgG) (j : Nat) : GM := (g.setP (f, t) { g.pr (f, t) with rc := max (g.pr (f, t)).rc (m.c + j) }).setA t { g.at_ t with u := (g.at_ t).u + isum (((g.pr (f, t)).H.take (m.c + j)).drop (g.pr (f, t)).rc) }
end Go.Proofs.Ytapabbpdfplpoaa
namespace Go.Proofs.Ytapabbpdfplpoaa
open Go.RowKit Go.CH Go.CH.Esc
open Go.ChangeMaps (setBlock)

section
variable {g : GM} {f t : Nat} {m : MsgG}
theorem dgj_len (j : Nat) : (dgj g f t m j).acc.length = g.acc.length := setA_len _ _ _
theorem dgj_p2 (j : Nat) : (dgj g f t m j).p2 (f, t) = { g.p2 (f, t) with rc := max (g.p2 (f, t)).rc (m.c + j) } := by
  show (g.setP _ _).pr _ = _
  rw [pr_setP, if_pos rfl]; rfl
theorem dgj_p2b (hne : (f : Int) ≠ t) (j : Nat) : (dgj g f t m j).p2 (t, f) = g.p2 (t, f) := by
  show (g.setP _ _).pr _ = _
  rw [pr_setP, if_neg (swap_ne hne)]; rfl
theorem dgj_at (ht : t < g.acc.length) (j : Nat) : (dgj g f t m j).at_ (t : Int) = { g.at_ t with u := (g.at_ t).u + isum (((g.p2 (f, t)).H.take (m.c + j)).drop (g.p2 (f, t)).rc) } := by
  have hi : g.is (t : Int) = true := by simp [GM.is, ht]
  unfold dgj
  rw [setA_at (by rw [setP_is]; exact hi) _ _ (by rw [setP_is]; exact hi), if_pos rfl]; rfl
theorem dgj_zero (ht : t < g.acc.length) (hc : m.c ≤ (g.p2 (f, t)).rc) : dgj g f t m 0 = g := by
  have hc' : m.c ≤ (g.pr ((f : Int), (t : Int))).rc := hc
  unfold dgj
  rw [Nat.add_zero, loop_zero _ _ _ hc', Nat.max_eq_left hc', Int.add_zero]
  have e1 : g.setP ((f : Int), (t : Int)) { g.pr ((f : Int), (t : Int)) with rc := (g.pr ((f : Int), (t : Int))).rc } = g := setP_same _ _
  rw [show (g.setP ((f : Int), (t : Int)) { g.pr ((f : Int), (t : Int)) with rc := (g.pr ((f : Int), (t : Int))).rc }) = g from e1]
  unfold GM.setA
  have e2 : g.acc.set t { g.at_ (t : Int) with u := (g.at_ (t : Int)).u } = g.acc := by
    rw [at_nat ht]; exact List.set_getElem_self ht
  simp only [Int.toNat_natCast]
  rw [show g.acc.set t { u := (g.at_ (t : Int)).u, s := (g.at_ (t : Int)).s, rev := (g.at_ (t : Int)).rev } = g.acc from e2]
theorem dgj_next (ht : t < g.acc.length) (j : Nat) (v : Int) (n : Nat) (hv : v = (g.at_ t).u + isum (((g.p2 (f, t)).H.take (m.c + (j + 1))).drop (g.p2 (f, t)).rc)) (hn : n = max (g.p2 (f, t)).rc (m.c + (j + 1))) :
    ((dgj g f t m j).setA t { (dgj g f t m j).at_ t with u := v }).setP ((f : Int), (t : Int)) { ((dgj g f t m j).setA t { (dgj g f t m j).at_ t with u := v }).p2 (f, t) with rc := n } = dgj g f t m (j + 1) := by
  rw [dgj_at ht]
  have e1 : ((dgj g f t m j).setA t { g.at_ t with u := v }).p2 (f, t) = { g.p2 (f, t) with rc := max (g.p2 (f, t)).rc (m.c + j) } := dgj_p2 j
  rw [e1]
  subst hv hn
  unfold dgj
  rw [show (((g.setP ((f : Int), (t : Int)) { g.pr ((f : Int), (t : Int)) with rc := max (g.pr ((f : Int), (t : Int))).rc (m.c + j) }).setA t { g.at_ t with u := (g.at_ t).u + isum (((g.pr ((f : Int), (t : Int))).H.take (m.c + j)).drop (g.pr ((f : Int), (t : Int))).rc) }).setA t { g.at_ t with u := (g.at_ t).u + isum (((g.p2 (f, t)).H.take (m.c + (j + 1))).drop (g.p2 (f, t)).rc) }) = (g.setP ((f : Int), (t : Int)) { g.pr ((f : Int), (t : Int)) with rc := max (g.pr ((f : Int), (t : Int))).rc (m.c + j) }).setA t { g.at_ t with u := (g.at_ t).u + isum (((g.p2 (f, t)).H.take (m.c + (j + 1))).drop (g.p2 (f, t)).rc) } from setA_twice _ _ _ _]
  show ((g.setP _ _).setP _ _).setA _ _ = _
  rw [setP_twice]
  rfl
theorem dgj_stay (j : Nat) (h1 : max (g.p2 (f, t)).rc (m.c + (j + 1)) = max (g.p2 (f, t)).rc (m.c + j)) (h2 : isum (((g.p2 (f, t)).H.take (m.c + (j + 1))).drop (g.p2 (f, t)).rc) = isum (((g.p2 (f, t)).H.take (m.c + j)).drop (g.p2 (f, t)).rc)) : dgj g f t m (j + 1) = dgj g f t m j := by
  unfold dgj
  rw [show max (g.pr ((f : Int), (t : Int))).rc (m.c + (j + 1)) = max (g.pr ((f : Int), (t : Int))).rc (m.c + j) from h1, show isum (((g.pr ((f : Int), (t : Int))).H.take (m.c + (j + 1))).drop (g.pr ((f : Int), (t : Int))).rc) = isum (((g.pr ((f : Int), (t : Int))).H.take (m.c + j)).drop (g.pr ((f : Int), (t : Int))).rc) from h2]
/-- The whole message has been received. -/
theorem dgj_all (ht : t < g.acc.length) (hne : (f : Int) ≠ t) (n : Nat) (hn : m.c + n = m.up) (rv : Bool) : ((dgj g f t m n).setP ((t : Int), (f : Int)) { g.p2 (t, f) with conf := max (g.p2 (t, f)).conf m.rc }).setA t { g.at_ t with u := (g.at_ t).u + isum (((g.p2 (f, t)).H.take m.up).drop (g.p2 (f, t)).rc), rev := (g.at_ t).rev || m.rev } = recvM g f t m := by
  rw [recv_rec hne]
  unfold dgj recM
  rw [hn]
  have : ∀ (x : GM) (a b : Acc) (k : Int × Int) (q : PrG), ((x.setA (t : Int) a).setP k q).setA (t : Int) b = (x.setP k q).setA (t : Int) b := fun x a b k q => by unfold GM.setA GM.setP; simp
  rw [this]
  rfl
end
set_option maxRecDepth 100000 in
set_option maxHeartbeats 8000000 in
theorem rdel_once_lost {w : World} {F : Nat → Prop} {g : GM} {p : Nat} (h : RefO g p w F) {U : Int} (hI : Inv g U) (hl : HB g 999999) {f t : Nat} (hd : delE g f t = true) :
    Calls Try.prog 64 #[.pointer (some ⟨p, 0, none⟩), .int .i64 f, .int .i64 t, .bool true, .bool false] w (RPost w F (.bool true) (delM g f t true false) p) := by
  obtain ⟨hp, m, ml, hm⟩ := delE_pair hd
  obtain ⟨hif, hit, hne⟩ := pair_is hp
  have hPr := hI.pr f t hp
  have hN0 := dlN_mk hI hp (m := m) (by rw [hm]; simp) (hl.mono (by omega))
  obtain ⟨s, hz, hS⟩ := h
  have hf : f < g.acc.length := by simpa using (is_lt hif).2
  have ht : t < g.acc.length := by simpa using (is_lt hit).2
  have hR := hS.read
  have KF := hide (ris_any hR f)
  have KT := hide (ris_any hR t)
  rw [hif] at KF
  rw [hit] at KT
  have c3 := hR.c3
  have p0 := hR.p f hf
  obtain ⟨-, -, -, q3⟩ := hR.q f t hf ht
  have hzk := hz (f, t) (mem_keys2.2 ⟨hf, ht⟩)
  have hn8 := hI.nb.2
  have hft : ((f : Int) == (t : Int)) = false := by simpa using hne
  have hft2 : ¬ ((f : Int) = (t : Int)) := hne
  obtain ⟨z, zs, hzs⟩ : ∃ z zs, (s.ps (f, t)).zs = z :: zs := by
    cases hz' : (s.ps (f, t)).zs with
    | nil => have := hzk.1; rw [hz', show (g.p2 (f, t)).ms = (g.pr ((f : Int), (t : Int))).ms from rfl, hm] at this; cases this
    | cons z zs => exact ⟨z, zs, rfl⟩
  have hzm := hzk.1
  rw [hzs, show (g.p2 (f, t)).ms = (g.pr ((f : Int), (t : Int))).ms from rfl, hm] at hzm
  injection hzm with hz1 hz2
  have hzt := hzk.2
  rw [hzs] at hzt
  have hlen : zs.length = ml.length := by rw [← hz2]; simp
  have hml : ml.length ≤ 99 := by have := hPr.msl; rw [hm] at this; simp at this; omega
  subst hz1
  have hpop : popM g f t false = g.setP ((f : Int), (t : Int)) { g.p2 (f, t) with ms := ml } := by unfold popM; rw [hm]; simp; rfl
  have hmod : delM g f t true false = popM g f t false := by unfold delM; rw [if_pos hd, hm]; rfl
  rw [hmod, hpop]
  -- the messages as they lie
  have hmsg : Hid (∀ (w' : World) (G : Nat → Prop), RefS g p s w' G → ∀ (k : Nat) (hk : k < (z :: zs).length), ∃ gB, (s.ps (f, t)).B = some ⟨gB, 0, none⟩ ∧ w'.cell? ⟨gB, k * 4, none⟩ = some (.int .i64 ((z :: zs)[k].m.c + 1)) ∧ w'.cell? ⟨gB, k * 4 + 1, none⟩ = some (.slice (z :: zs)[k].A (z :: zs)[k].ts.length (z :: zs)[k].c) ∧
      w'.cell? ⟨gB, k * 4 + 2, none⟩ = some (.int .i64 (z :: zs)[k].m.rc) ∧ w'.cell? ⟨gB, k * 4 + 3, none⟩ = some (.bool (z :: zs)[k].m.rev)) := hide (fun (w' : World) (G : Nat → Prop) (h' : RefS g p s w' G) (k : Nat) (hk : k < (z :: zs).length) => by
    have := ref_msg h' hf ht (k := k) (by rw [hzs]; exact hk)
    simp only [hzs] at this
    exact this)
  obtain ⟨gB, hgB, m0, m1, m2, m3⟩ := hmsg.out w F hS 0 (by simp)
  rw [hgB, hzs] at q3
  simp only [List.getElem_cons_zero] at m0 m1 m2 m3
  have R1 := (Run.start hS).fresh refS_ok (cell_new w (rcl z).toArray 158)
  have HR1 := hide R1
  have hq2 : (((z :: zs).length : Int) == 0) = false := by simp; omega
  have hq3 : ¬ (((z :: zs).length : Int) = 0) := by simp; omega
  have HZ := hide hz
  have HZK := hide hzk
  have HZS := hide hzs
  have HZT := hide hzt
  have HZ2 := hide hz2
  have HPr := hide hPr
  have HN0 := hide hN0
  have HI := hide hI
  have HP := hide hp
  obtain ⟨L, hLn⟩ : ∃ L, (z :: zs).length = L := ⟨_, rfl⟩
  rw [hLn] at q3 hq2 hq3
  have hL2 : L ≤ zs.length + 1 ∧ zs.length + 1 ≤ L := by rw [← hLn]; simp
  have hL3 := hL2.1
  have hL4 := hL2.2
  have hz99 : zs.length ≤ 99 := by omega
  have HLN := hide hLn
  clear hL2 hlen hS hR hI hPr hz hzk hzs hzt hz2 R1 hif hit hp hm hmod hpop hd hN0 hLn
  unfold rcl at HR1
  generalize hG : (g.setP ((f : Int), (t : Int)) { g.p2 (f, t) with ms := ml } : GM) = G at *
  have HG := hide hG
  clear hG
  go_enter Try.func64, Try.ntmps64
  go_wp2_with fail
  refine KF.out.mono ?_
  rintro e w' ⟨rfl, rfl⟩
  go_wp2_with fail
  refine KT.out.mono ?_
  rintro e w' ⟨rfl, rfl⟩
  go_wp2_with fail
  generalize w.heap.size = bm at *
  generalize w.alloc (.cells _ 158) = W1 at *
  clear m0 m1 m2 m3 c3 p0 q3 hq2 hq3 KF KT hgB
  go_loopw [12, 13] (fun v i wr => ∃ (k : Nat) (A : Option Addr) (c : Nat), 1 ≤ k ∧ k ≤ L ∧ i = .int .i64 k ∧ v = .slice A (k - 1) c ∧ Run F w (star (RowO 158 4 (.slice A (k - 1) c) (k - 1) ((zs.take (k - 1)).flatMap rcl)) (star (CellO bm #[.int .i64 (z.m.c + 1), .slice z.A z.ts.length z.c, .int .i64 z.m.rc, .bool z.m.rev] 158) (RefS g p s))) wr) (fun _ i _ => L - (intOf i).toNat)
  case atStart =>
    refine ⟨1, none, 0, Nat.le_refl _, by omega, rfl, rfl, ?_⟩
    exact (HR1.out.perm (emp_star _).symm).imp fun w F h => star_mono h (fun F h => row_of_emp h) (fun _ h => h)
  case round =>
    obtain ⟨k, A, c, hk1, hk2, rfl, rfl, hr⟩ := hrel
    obtain ⟨FS, hS2⟩ := (hr.perm (by ac_rfl : _ = star (RefS g p s) (star (RowO 158 4 (.slice A (k - 1) c) (k - 1) ((zs.take (k - 1)).flatMap rcl)) (CellO bm #[.int .i64 (z.m.c + 1), .slice z.A z.ts.length z.c, .int .i64 z.m.rc, .bool z.m.rev] 158)))).fst
    have hR2 := hS2.read
    have c3 := hR2.c3
    have p0 := hR2.p f hf
    obtain ⟨-, -, -, q3⟩ := hR2.q f t hf ht
    rw [HZS.out, HLN.out] at q3
    have HR := hide hr
    clear HR1
    by_cases hlt : k < L
    · obtain ⟨gB, hgB, m0, m1, m2, m3⟩ := hmsg.out wr FS hS2 k (by rw [HLN.out]; exact hlt)
      obtain ⟨k', rfl⟩ : ∃ k', k = k' + 1 := ⟨k - 1, by omega⟩
      have hk' : k' < zs.length := by omega
      simp only [List.getElem_cons_succ] at m0 m1 m2 m3
      rw [hgB] at q3
      have htk : (zs.take (k' + 1)).flatMap rcl = (zs.take k').flatMap rcl ++ rcl zs[k'] := by rw [List.take_succ_eq_append_getElem hk', List.flatMap_append]; simp
      have HTK := hide htk
      have hone := hide (rcl_one zs[k'])
      have hrcl : rcl zs[k'] = [.int .i64 (zs[k'].m.c + 1), .slice zs[k'].A zs[k'].ts.length zs[k'].c, .int .i64 zs[k'].m.rc, .bool zs[k'].m.rev] := rfl
      generalize zs[k'] = y at *
      have HRCL := hide hrcl
      simp only [Nat.add_sub_cancel] at HR ⊢
      have HR5 := hide ((HR.out.below (star_ok row_ok (star_ok cell_ok refS_ok)) ((Below.refl _ _).alloc (Nat.le_refl _) (.cells #[.int .i64 (y.m.c + 1), .slice y.A y.ts.length y.c, .int .i64 y.m.rc, .bool y.m.rev] 158))))
      have HSR := hide (show Src (wr.alloc (.cells #[.int .i64 (y.m.c + 1), .slice y.A y.ts.length y.c, .int .i64 y.m.rc, .bool y.m.rev] 158)) (some ⟨wr.heap.size, 0, none⟩) 1 4 (rcl y) from src_new wr (rcl y) 158 hone.out)
      clear hr hS2 hR2 htk hrcl
      go_wp2_with (at_builtin; refine held ?_)
      obtain ⟨F7, hR7, -, bk7⟩ := HR5.out.take row_ok (star_ok cell_ok refS_ok)
      refine Held.mk (wpList_app rfl (.tmp 74) (.tmp 89) rfl rmsgOk _ 0 (v := .slice A k' c) (n := k') rfl hR7.1 (A := some ⟨wr.heap.size, 0, none⟩) (m := 1) (c := 1) (news := rcl y) rfl HSR.out (by omega) (by omega) (Nat.zero_le _) ?_)
      intro v8 w8 ho8 hg8 hv8
      have S8 := bk7 _ _ (row_app hR7 ho8 hg8 hv8)
      obtain ⟨A8, c8, rfl⟩ := own_form ho8
      have HS8 := hide S8
      clear hR7 bk7 ho8 hg8 hv8 S8 HR5 HR m0 m1 m2 m3 c3 p0 q3 hgB
      go_wp2_with fail
      go_roundw
      case rel =>
        refine ⟨k' + 1 + 1, A8, c8, by omega, by omega, by go_num, by simp, ?_⟩
        rw [show k' + 1 + 1 - 1 = k' + 1 by omega, HTK.out]
        exact HS8.out
      case measure => simp [intOf]; omega
    · obtain rfl : L = k := by omega
      have hk0 : L - 1 = zs.length := by omega
      have htk : zs.take (L - 1) = zs := by rw [hk0]; simp
      have HR0 := HR.out
      rw [htk] at HR0
      rw [hk0] at HR0 ⊢
      have hzl : zs.length ≤ 99 := by omega
      clear hr hS2 hR2 htk hk0 HR c3 p0 q3 hmsg
      have HR9 := HR0
      clear HR0
      obtain ⟨FS, hS2⟩ := (HR9.perm (by ac_rfl : _ = star (RefS g p s) (star (RowO 158 4 (.slice A zs.length c) zs.length ((zs).flatMap rcl)) (CellO bm #[.int .i64 (z.m.c + 1), .slice z.A z.ts.length z.c, .int .i64 z.m.rc, .bool z.m.rev] 158)))).fst
      have c3 := hS2.read.c3
      have p0 := hS2.read.p f hf
      obtain ⟨-, -, -, q3⟩ := hS2.read.q f t hf ht
      obtain ⟨zf, hQ⟩ := ref_queue (ms := ml) cell_ok hf ht (xs := zs) (rfl) (Zx := zow z) (zow_ok z) (by rw [HZS.out]; rfl) HR9
      have HQ := hide hQ
      rw [HZS.out, HLN.out] at q3
      clear hS2 HR9 hQ
      go_wp2_with fail
      generalize wr.setCell ⟨s.row f, t * 4 + 3, none⟩ (.slice A zs.length c) = W2 at *
      have HZ1 := hide (refZ_setP HZ.out (k := f) (j := t) (q := { g.p2 (f, t) with ms := ml }) (l := { s.ps (f, t) with B := A, d := c, zs := zs }) ⟨HZ2.out, fun y hy => HZT.out y (by simp at hy ⊢; exact .inr hy)⟩)
      have HFIN := hide (HQ.out.drop.drop.post refS_ok)
      clear HQ c3 p0 q3 zf
      try go_wp2_with fail
      go_ret
      obtain ⟨F', y1, y2, y3⟩ := HFIN.out
      rw [← HG.out]
      exact ⟨rfl, F', ⟨_, HZ1.out, y1⟩, y2, y3⟩
set_option maxRecDepth 100000 in
set_option maxHeartbeats 8000000 in
theorem rdel_again_lost {w : World} {F : Nat → Prop} {g : GM} {p : Nat} (h : RefO g p w F) {U : Int} (hI : Inv g U) (hl : HB g 999999) {f t : Nat} (hd : delE g f t = true) :
    Calls Try.prog 64 #[.pointer (some ⟨p, 0, none⟩), .int .i64 f, .int .i64 t, .bool true, .bool true] w (RPost w F (.bool true) (delM g f t true true) p) := by
  obtain ⟨hp, m, ml, hm⟩ := delE_pair hd
  obtain ⟨hif, hit, hne⟩ := pair_is hp
  have hPr := hI.pr f t hp
  have hN0 := dlN_mk hI hp (m := m) (by rw [hm]; simp) (hl.mono (by omega))
  obtain ⟨s, hz, hS⟩ := h
  have hf : f < g.acc.length := by simpa using (is_lt hif).2
  have ht : t < g.acc.length := by simpa using (is_lt hit).2
  have hR := hS.read
  have KF := hide (ris_any hR f)
  have KT := hide (ris_any hR t)
  rw [hif] at KF
  rw [hit] at KT
  have c3 := hR.c3
  have p0 := hR.p f hf
  obtain ⟨-, -, -, q3⟩ := hR.q f t hf ht
  have hzk := hz (f, t) (mem_keys2.2 ⟨hf, ht⟩)
  have hn8 := hI.nb.2
  have hft : ((f : Int) == (t : Int)) = false := by simpa using hne
  have hft2 : ¬ ((f : Int) = (t : Int)) := hne
  obtain ⟨z, zs, hzs⟩ : ∃ z zs, (s.ps (f, t)).zs = z :: zs := by
    cases hz' : (s.ps (f, t)).zs with
    | nil => have := hzk.1; rw [hz', show (g.p2 (f, t)).ms = (g.pr ((f : Int), (t : Int))).ms from rfl, hm] at this; cases this
    | cons z zs => exact ⟨z, zs, rfl⟩
  have hzm := hzk.1
  rw [hzs, show (g.p2 (f, t)).ms = (g.pr ((f : Int), (t : Int))).ms from rfl, hm] at hzm
  injection hzm with hz1 hz2
  have hzt := hzk.2
  rw [hzs] at hzt
  have hlen : zs.length = ml.length := by rw [← hz2]; simp
  have hml : ml.length ≤ 99 := by have := hPr.msl; rw [hm] at this; simp at this; omega
  subst hz1
  have hpop : popM g f t true = g.setP ((f : Int), (t : Int)) { g.p2 (f, t) with ms := ml ++ [z.m] } := by unfold popM; rw [hm]; simp; rfl
  have hmod : delM g f t true true = popM g f t true := by unfold delM; rw [if_pos hd, hm]; rfl
  rw [hmod, hpop]
  -- the messages as they lie
  have hmsg : Hid (∀ (w' : World) (G : Nat → Prop), RefS g p s w' G → ∀ (k : Nat) (hk : k < (z :: zs).length), ∃ gB, (s.ps (f, t)).B = some ⟨gB, 0, none⟩ ∧ w'.cell? ⟨gB, k * 4, none⟩ = some (.int .i64 ((z :: zs)[k].m.c + 1)) ∧ w'.cell? ⟨gB, k * 4 + 1, none⟩ = some (.slice (z :: zs)[k].A (z :: zs)[k].ts.length (z :: zs)[k].c) ∧
      w'.cell? ⟨gB, k * 4 + 2, none⟩ = some (.int .i64 (z :: zs)[k].m.rc) ∧ w'.cell? ⟨gB, k * 4 + 3, none⟩ = some (.bool (z :: zs)[k].m.rev)) := hide (fun (w' : World) (G : Nat → Prop) (h' : RefS g p s w' G) (k : Nat) (hk : k < (z :: zs).length) => by
    have := ref_msg h' hf ht (k := k) (by rw [hzs]; exact hk)
    simp only [hzs] at this
    exact this)
  obtain ⟨gB, hgB, m0, m1, m2, m3⟩ := hmsg.out w F hS 0 (by simp)
  rw [hgB, hzs] at q3
  simp only [List.getElem_cons_zero] at m0 m1 m2 m3
  have R1 := (Run.start hS).fresh refS_ok (cell_new w (rcl z).toArray 158)
  have HR1 := hide R1
  have hq2 : (((z :: zs).length : Int) == 0) = false := by simp; omega
  have hq3 : ¬ (((z :: zs).length : Int) = 0) := by simp; omega
  have HZ := hide hz
  have HZK := hide hzk
  have HZS := hide hzs
  have HZT := hide hzt
  have HZ2 := hide hz2
  have HPr := hide hPr
  have HN0 := hide hN0
  have HI := hide hI
  have HP := hide hp
  obtain ⟨L, hLn⟩ : ∃ L, (z :: zs).length = L := ⟨_, rfl⟩
  rw [hLn] at q3 hq2 hq3
  have hL2 : L ≤ zs.length + 1 ∧ zs.length + 1 ≤ L := by rw [← hLn]; simp
  have hL3 := hL2.1
  have hL4 := hL2.2
  have hz99 : zs.length ≤ 99 := by omega
  have HLN := hide hLn
  clear hL2 hlen hS hR hI hPr hz hzk hzs hzt hz2 R1 hif hit hp hm hmod hpop hd hN0 hLn
  unfold rcl at HR1
  generalize hG : (g.setP ((f : Int), (t : Int)) { g.p2 (f, t) with ms := ml ++ [z.m] } : GM) = G at *
  have HG := hide hG
  clear hG
  go_enter Try.func64, Try.ntmps64
  go_wp2_with fail
  refine KF.out.mono ?_
  rintro e w' ⟨rfl, rfl⟩
  go_wp2_with fail
  refine KT.out.mono ?_
  rintro e w' ⟨rfl, rfl⟩
  go_wp2_with fail
  generalize w.heap.size = bm at *
  generalize w.alloc (.cells _ 158) = W1 at *
  clear m0 m1 m2 m3 c3 p0 q3 hq2 hq3 KF KT hgB
  go_loopw [12, 13] (fun v i wr => ∃ (k : Nat) (A : Option Addr) (c : Nat), 1 ≤ k ∧ k ≤ L ∧ i = .int .i64 k ∧ v = .slice A (k - 1) c ∧ Run F w (star (RowO 158 4 (.slice A (k - 1) c) (k - 1) ((zs.take (k - 1)).flatMap rcl)) (star (CellO bm #[.int .i64 (z.m.c + 1), .slice z.A z.ts.length z.c, .int .i64 z.m.rc, .bool z.m.rev] 158) (RefS g p s))) wr) (fun _ i _ => L - (intOf i).toNat)
  case atStart =>
    refine ⟨1, none, 0, Nat.le_refl _, by omega, rfl, rfl, ?_⟩
    exact (HR1.out.perm (emp_star _).symm).imp fun w F h => star_mono h (fun F h => row_of_emp h) (fun _ h => h)
  case round =>
    obtain ⟨k, A, c, hk1, hk2, rfl, rfl, hr⟩ := hrel
    obtain ⟨FS, hS2⟩ := (hr.perm (by ac_rfl : _ = star (RefS g p s) (star (RowO 158 4 (.slice A (k - 1) c) (k - 1) ((zs.take (k - 1)).flatMap rcl)) (CellO bm #[.int .i64 (z.m.c + 1), .slice z.A z.ts.length z.c, .int .i64 z.m.rc, .bool z.m.rev] 158)))).fst
    have hR2 := hS2.read
    have c3 := hR2.c3
    have p0 := hR2.p f hf
    obtain ⟨-, -, -, q3⟩ := hR2.q f t hf ht
    rw [HZS.out, HLN.out] at q3
    have HR := hide hr
    clear HR1
    by_cases hlt : k < L
    · obtain ⟨gB, hgB, m0, m1, m2, m3⟩ := hmsg.out wr FS hS2 k (by rw [HLN.out]; exact hlt)
      obtain ⟨k', rfl⟩ : ∃ k', k = k' + 1 := ⟨k - 1, by omega⟩
      have hk' : k' < zs.length := by omega
      simp only [List.getElem_cons_succ] at m0 m1 m2 m3
      rw [hgB] at q3
      have htk : (zs.take (k' + 1)).flatMap rcl = (zs.take k').flatMap rcl ++ rcl zs[k'] := by rw [List.take_succ_eq_append_getElem hk', List.flatMap_append]; simp
      have HTK := hide htk
      have hone := hide (rcl_one zs[k'])
      have hrcl : rcl zs[k'] = [.int .i64 (zs[k'].m.c + 1), .slice zs[k'].A zs[k'].ts.length zs[k'].c, .int .i64 zs[k'].m.rc, .bool zs[k'].m.rev] := rfl
      generalize zs[k'] = y at *
      have HRCL := hide hrcl
      simp only [Nat.add_sub_cancel] at HR ⊢
      have HR5 := hide ((HR.out.below (star_ok row_ok (star_ok cell_ok refS_ok)) ((Below.refl _ _).alloc (Nat.le_refl _) (.cells #[.int .i64 (y.m.c + 1), .slice y.A y.ts.length y.c, .int .i64 y.m.rc, .bool y.m.rev] 158))))
      have HSR := hide (show Src (wr.alloc (.cells #[.int .i64 (y.m.c + 1), .slice y.A y.ts.length y.c, .int .i64 y.m.rc, .bool y.m.rev] 158)) (some ⟨wr.heap.size, 0, none⟩) 1 4 (rcl y) from src_new wr (rcl y) 158 hone.out)
      clear hr hS2 hR2 htk hrcl
      go_wp2_with (at_builtin; refine held ?_)
      obtain ⟨F7, hR7, -, bk7⟩ := HR5.out.take row_ok (star_ok cell_ok refS_ok)
      refine Held.mk (wpList_app rfl (.tmp 74) (.tmp 89) rfl rmsgOk _ 0 (v := .slice A k' c) (n := k') rfl hR7.1 (A := some ⟨wr.heap.size, 0, none⟩) (m := 1) (c := 1) (news := rcl y) rfl HSR.out (by omega) (by omega) (Nat.zero_le _) ?_)
      intro v8 w8 ho8 hg8 hv8
      have S8 := bk7 _ _ (row_app hR7 ho8 hg8 hv8)
      obtain ⟨A8, c8, rfl⟩ := own_form ho8
      have HS8 := hide S8
      clear hR7 bk7 ho8 hg8 hv8 S8 HR5 HR m0 m1 m2 m3 c3 p0 q3 hgB
      go_wp2_with fail
      go_roundw
      case rel =>
        refine ⟨k' + 1 + 1, A8, c8, by omega, by omega, by go_num, by simp, ?_⟩
        rw [show k' + 1 + 1 - 1 = k' + 1 by omega, HTK.out]
        exact HS8.out
      case measure => simp [intOf]; omega
    · obtain rfl : L = k := by omega
      have hk0 : L - 1 = zs.length := by omega
      have htk : zs.take (L - 1) = zs := by rw [hk0]; simp
      have HR0 := HR.out
      rw [htk] at HR0
      rw [hk0] at HR0 ⊢
      have hzl : zs.length ≤ 99 := by omega
      clear hr hS2 hR2 htk hk0 HR c3 p0 q3 hmsg
      obtain ⟨FBX, hBX⟩ := HR0.rot.fst
      have x0 := cell_at hBX (i := 0) rfl
      have x1 := cell_at hBX (i := 1) rfl
      have x2 := cell_at hBX (i := 2) rfl
      have x3 := cell_at hBX (i := 3) rfl
      have HR5 := hide ((HR0.below (star_ok row_ok (star_ok cell_ok refS_ok)) ((Below.refl _ _).alloc (Nat.le_refl _) (.cells #[.int .i64 (z.m.c + 1), .slice z.A z.ts.length z.c, .int .i64 z.m.rc, .bool z.m.rev] 158))))
      have HSR := hide (show Src (wr.alloc (.cells #[.int .i64 (z.m.c + 1), .slice z.A z.ts.length z.c, .int .i64 z.m.rc, .bool z.m.rev] 158)) (some ⟨wr.heap.size, 0, none⟩) 1 4 (rcl z) from src_new wr (rcl z) 158 (rcl_one z))
      obtain ⟨FS, hS2⟩ := (HR0.perm (by ac_rfl : _ = star (RefS g p s) (star (RowO 158 4 (.slice A zs.length c) zs.length (zs.flatMap rcl)) (CellO bm #[.int .i64 (z.m.c + 1), .slice z.A z.ts.length z.c, .int .i64 z.m.rc, .bool z.m.rev] 158)))).fst
      have c3 := hS2.read.c3
      have p0 := hS2.read.p f hf
      obtain ⟨-, -, -, q3⟩ := hS2.read.q f t hf ht
      rw [HZS.out, HLN.out] at q3
      clear HR0 hBX hS2
      go_wp2_with (at_builtin; refine held ?_)
      obtain ⟨F7, hR7, -, bk7⟩ := HR5.out.take row_ok (star_ok cell_ok refS_ok)
      refine Held.mk (wpList_app rfl (.tmp 92) (.tmp 94) rfl rmsgOk _ 0 (v := .slice A zs.length c) (n := zs.length) rfl hR7.1 (A := some ⟨wr.heap.size, 0, none⟩) (m := 1) (c := 1) (news := rcl z) rfl HSR.out (by omega) (by omega) (Nat.zero_le _) ?_)
      intro v8 w8 ho8 hg8 hv8
      have S8 := bk7 _ _ (row_app hR7 ho8 hg8 hv8)
      obtain ⟨A8, c8, rfl⟩ := own_form ho8
      have HR9 : Run F w (star (RowO 158 4 (.slice A8 (zs.length + 1) c8) (zs.length + 1) ((zs ++ [z]).flatMap rcl)) (star (CellO bm #[.int .i64 (z.m.c + 1), .slice z.A z.ts.length z.c, .int .i64 z.m.rc, .bool z.m.rev] 158) (RefS g p s))) w8 := S8.perm (by rw [List.flatMap_append]; simp)
      clear hR7 bk7 ho8 hg8 hv8 S8 HR5 x0 x1 x2 x3 c3 p0 q3
      obtain ⟨FS, hS2⟩ := (HR9.perm (by ac_rfl : _ = star (RefS g p s) (star (RowO 158 4 (.slice A8 (zs.length + 1) c8) (zs.length + 1) ((zs ++ [z]).flatMap rcl)) (CellO bm #[.int .i64 (z.m.c + 1), .slice z.A z.ts.length z.c, .int .i64 z.m.rc, .bool z.m.rev] 158)))).fst
      have c3 := hS2.read.c3
      have p0 := hS2.read.p f hf
      obtain ⟨-, -, -, q3⟩ := hS2.read.q f t hf ht
      obtain ⟨zf, hQ⟩ := ref_queue (ms := ml ++ [z.m]) cell_ok hf ht (xs := zs ++ [z]) (by simp) (Zx := emp) (emp_ok) (by rw [HZS.out]; rw [List.map_append, List.map_singleton, big_last, emp_star]; rfl) HR9
      have HQ := hide hQ
      rw [HZS.out, HLN.out] at q3
      clear hS2 HR9 hQ
      go_wp2_with fail
      generalize w8.setCell ⟨s.row f, t * 4 + 3, none⟩ (.slice A8 (zs.length + 1) c8) = W2 at *
      have HZ1 := hide (refZ_setP HZ.out (k := f) (j := t) (q := { g.p2 (f, t) with ms := ml ++ [z.m] }) (l := { s.ps (f, t) with B := A8, d := c8, zs := zs ++ [z] }) ⟨by simp [HZ2.out], fun y hy => HZT.out y (by simp at hy ⊢; exact hy.symm)⟩)
      have HFIN := hide (HQ.out.drop.drop.post refS_ok)
      clear HQ c3 p0 q3 zf
      try go_wp2_with fail
      go_ret
      obtain ⟨F', y1, y2, y3⟩ := HFIN.out
      rw [← HG.out]
      exact ⟨rfl, F', ⟨_, HZ1.out, y1⟩, y2, y3⟩
end Go.Proofs.Ytapabbpdfplpoaa
