/-
  The reference of layer 12: States.
-/
import Derived.Test.YtnppgomhhcbplaaGreatDoorPO22
import Derived.Test.YtnppgomhhcbplaaGreatDoorPO7
import Derived.Deep.DeepCutAuto
set_option linter.unusedSimpArgs false
set_option linter.unusedVariables false
namespace Go.Proofs.YtnppgomhhcbplaaGreatDoor
open Go.RowKit Go.CH Go.CH.Scr Go.CH.Pot
open Go.ChangeMaps (setBlock)
set_option maxRecDepth 100000
theorem run_c6 {F0 : Nat → Prop} {w0 w : World} {g : Nat} {t : TypeId} {X : CH.Own} {a b c d e f : Value} (h : Run F0 w0 (star (CellO g #[a, b, c, d, e, f] t) X) w) : w.cell? ⟨g, 0, none⟩ = some a ∧ w.cell? ⟨g, 1, none⟩ = some b ∧ w.cell? ⟨g, 2, none⟩ = some c ∧ w.cell? ⟨g, 3, none⟩ = some d ∧ w.cell? ⟨g, 4, none⟩ = some e ∧ w.cell? ⟨g, 5, none⟩ = some f := by
  obtain ⟨F, hF⟩ := h.fst
  exact ⟨cell_at hF rfl, cell_at hF rfl, cell_at hF rfl, cell_at hF rfl, cell_at hF rfl, cell_at hF rfl⟩
theorem pts_seth {F0 : Nat → Prop} {w0 W : World} {X : CH.Own} {g c k : Nat} {zs : List Pt} (hX : X.Ok) (hk : k < zs.length) (v : Int) (h : Run F0 w0 (star (PtsO (some ⟨g, 0, none⟩) c zs) X) W) :
    Run F0 w0 (star (PtsO (some ⟨g, 0, none⟩) c (zs.set k { zs[k] with h := v })) X) (W.setCell ⟨g, k * 5 + 4, none⟩ (.int .i64 v)) := by
  have := run_elem (e := 37) (size := 5) (g := g) (n := zs.length) (c := c) hX (R := pcells) (fun _ => rfl) rfl hk [(4, .int .i64 v)] (fun x hx => by rw [List.mem_singleton.1 hx]; exact Nat.lt_succ_self 4) (z := { zs[k] with h := v }) rfl h
  unfold PtsO
  rw [List.length_set]
  exact this
/-- A row of one element. -/
theorem pts_one {W : World} {p : Pt} : Post W (fun _ => False) (PtsO (some ⟨W.heap.size, 0, none⟩) 1 [p]) (W.alloc (.cells (pcells p).toArray 37)) := by
  refine row_new ⟨rfl, .inr ⟨W.heap.size, 1, (pcells p).toArray, rfl, Nat.le_refl _, heap_alloc_new W _, Nat.le_refl _, by decide, rfl, rfl⟩⟩ ((Below.refl _ _).alloc (Nat.le_refl _) _)
theorem lys_el {W : World} {F : Nat → Prop} {g : Nat} {zs : List Ly} (h : LysO g zs W F) {i : Nat} (hi : i < zs.length) {L : List Pt} (hL : zs[i].l = L) {j : Nat} (hj : j < L.length) {p : Pt} (hp : L[j] = p) :
    ∃ b, zs[i].A = some ⟨b, 0, none⟩ ∧ (W.cell? ⟨b, j * 5, none⟩ = some (.int .i64 p.i) ∧ W.cell? ⟨b, j * 5 + 1, none⟩ = some (.int .i64 p.j) ∧ W.cell? ⟨b, j * 5 + 2, none⟩ = some (.string (bs p.a)) ∧ W.cell? ⟨b, j * 5 + 3, none⟩ = some (.bool p.r) ∧ W.cell? ⟨b, j * 5 + 4, none⟩ = some (.int .i64 p.h)) := by
  subst hL
  obtain ⟨F1, F2, h2, h3, -, -⟩ := arow_out hi h
  obtain ⟨b, hb⟩ := row_addr (show RowO 37 5 (.slice zs[i].A zs[i].l.length zs[i].c) zs[i].l.length (zs[i].l.flatMap pcells) W F1 from h2) (by omega)
  refine ⟨b, hb, ?_⟩
  have h4 : PtsO zs[i].A zs[i].c zs[i].l W F1 := h2
  rw [hb] at h4
  subst hp
  exact (pts_cell h4 hj).1
theorem mov_get {W : Wd} {q : St} (j : Nat) (h : j < (movP W q).length) (h2 : j < (W.moves q).length) : (movP W q)[j] = toPt (W.moves q)[j] := List.getElem_map ..
theorem ph_start {W : Wd} {A : Option Addr} {c N : Nat} (hN : N = W.l.length + W.m.length + 4) : Ph W (((List.replicate N ly0).set 0 ⟨A, c, [zp st0]⟩).map Ly.l) [] 0 0 st0 (W.moves st0).length := by
  subst hN
  have hlen : (((List.replicate (W.l.length + W.m.length + 4) ly0).set 0 ⟨A, c, [zp st0]⟩).map Ly.l).length = W.l.length + W.m.length + 4 := by simp
  have h0 : 0 < (((List.replicate (W.l.length + W.m.length + 4) ly0).set 0 ⟨A, c, [zp st0]⟩).map Ly.l).length := by omega
  refine ⟨hlen, fun m hm => ?_, ⟨h0, ?_⟩, List.Pairwise.nil, fun p => ?_, fun q hq => absurd hq List.not_mem_nil⟩
  · rw [List.getElem_map, List.getElem_set]
    by_cases e : 0 = m
    · subst e
      rw [if_pos rfl]
      refine ⟨List.pairwise_singleton .., fun p hp => ?_⟩
      rw [List.mem_singleton.1 hp]
      exact ⟨st0, Rch.refl, rfl, rfl⟩
    · rw [if_neg e, List.getElem_replicate]
      exact ⟨List.Pairwise.nil, fun p hp => absurd hp List.not_mem_nil⟩
  · rw [List.getElem_map, List.getElem_set, if_pos rfl]
    exact List.mem_singleton.2 rfl
  · constructor
    · intro hp; exact absurd hp List.not_mem_nil
    · rintro (⟨m, -, hlt, -⟩ | ⟨_, hp⟩)
      · omega
      · rw [List.take_zero] at hp; exact hp
/-- What States gives. -/
def StatesRet (W : Wd) (w : World) (e : Ending) (w' : World) : Prop := ∃ (A : Option Addr) (c : Nat) (Q : List St), e = .returned (.slice A Q.length c) ∧ Q.Pairwise ltS ∧ (∀ q, q ∈ Q ↔ Rch W st0 q) ∧ Post w (fun _ => False) (PtsO A c (Q.map (ph W.rd))) w'
set_option maxHeartbeats 16000000 in
theorem rstates_any {W : Wd} {w : World} {T : Tab} {a : TA} (hT : TabR w T a) (hrs : W.rs = T.rs) {X Y : Option Addr} {xc yc : Nat} (hX : Vst w X W.l) (hY : Vst w Y W.m) (hg : W.good) (ht : W.tosOk)
    (hl : W.l.length ≤ 12 ∧ ∀ x ∈ W.l, x.length ≤ 1000000) (hm : W.m.length ≤ 12 ∧ ∀ x ∈ W.m, x.length ≤ 1000000) (hr : W.rs.length ≤ 60) (hu : UseOk W) :
    Calls Tryz.prog 31 #[tabV T a, .int .i64 W.ka, .slice X W.l.length xc, .int .i64 W.kb, .slice Y W.m.length yc] w (StatesRet W w) := by

  have h1 := run_new (Run.begin w) emp_ok (tabC T a) 25
  have H1 := hide h1
  have KM := hide (fun (s : St) (h0 : Int) (W' : World) (hb : Below w.heap.size w W') (hs : W.ok s) (ha : s.a.length ≤ 1000000) => rmoves_any (h0 := h0) (xc := xc) (yc := yc) (hT.below hb) hrs (hX.below hb) (hY.below hb) hs ha ⟨by have := hl.1; omega, hl.2⟩ ⟨by have := hm.1; omega, hm.2⟩ hu)
  have HG := hide hg
  have HTO := hide ht
  have HFZ := hide (fun (C : List Pt) (h1 : C.Pairwise ltP) (h2 : AllZ W C) => few_z h1 h2 ht hl.1 hm.1 hr)
  have HMF := hide (show ∀ s, (W.moves s).length ≤ 60 from fun s => Nat.le_trans (List.length_filterMap_le ..) hr)
  clear hT hX hY hg ht hr hu h1
  obtain ⟨aA, ac, aD, ad, aE, ae⟩ := a
  unfold tabV at KM ⊢
  unfold tabC at H1 KM ⊢
  dsimp only at H1 KM ⊢
  generalize T.rs.length = n1 at *
  generalize T.ds.length = n2 at *
  generalize T.es.length = n3 at *
  obtain ⟨nl, hnl⟩ : ∃ n, n = W.l.length := ⟨_, rfl⟩
  obtain ⟨nm, hnm⟩ : ∃ n, n = W.m.length := ⟨_, rfl⟩
  have hnl2 : nl ≤ 12 := by rw [hnl]; exact hl.1
  have hnm2 : nm ≤ 12 := by rw [hnm]; exact hm.1
  rw [← hnl, ← hnm] at KM ⊢
  have HNL := hide hnl
  have HNM := hide hnm
  clear hl hm hnl hnm hrs
  have tw : IntKind.i64.wrap ((nl : Int) + nm) = (nl : Int) + nm := IntWalk.i64_in _ (by omega)
  go_enter Tryz.func31, Tryz.ntmps31
  go_upto_region 1 with (fail)
  obtain ⟨b5, hb5⟩ : ∃ B : Array Value, B = #[.slice aA n1 ac, .slice aD n2 ad, .slice aE n3 ae, .int .i64 T.drop, .int .i64 T.ord, .int .i64 T.ini] := ⟨_, rfl⟩
  have okB := hide (star_ok cell_ok emp_ok : (star (CellO w.heap.size #[.slice aA n1 ac, .slice aD n2 ad, .slice aE n3 ae, .int .i64 T.drop, .int .i64 T.ord, .int .i64 T.ini] 25) emp).Ok)
  generalize w.alloc (.cells #[.slice aA n1 ac, .slice aD n2 ad, .slice aE n3 ae, .int .i64 T.drop, .int .i64 T.ord, .int .i64 T.ini] 25) = w1 at *
  generalize w.heap.size = g5 at H1 okB ⊢
  go_wp2_with (refine wpList_make rfl laysOk (by decide) (.tmp 32) rfl (nl + nm + 4) (by omega) (by simp [Act.eval, tw]) rfl ?_; refine held ?_)
  refine Held.mk ?_
  intro w2 hP2
  have H2 := hide (show Run (fun _ => False) w (star (LysO w1.heap.size (List.replicate (nl + nm + 4) ly0)) (star (CellO g5 #[.slice aA n1 ac, .slice aD n2 ad, .slice aE n3 ae, .int .i64 T.drop, .int .i64 T.ord, .int .i64 T.ini] 25) emp)) w2 from (H1.out.fresh okB.out hP2).imp fun w F h => star_mono h (fun _ h => lys_new h) (fun _ h => h))
  clear H1 hP2
  generalize w1.heap.size = g11 at *
  have hz0 : 0 < (List.replicate (nl + nm + 4) ly0).length := by rw [List.length_replicate]; omega
  obtain ⟨F2, hF2⟩ := H2.out.fst
  obtain ⟨c0, cf, -⟩ := lys_cell hF2 hz0
  rw [List.getElem_replicate] at c0
  dsimp only [ly0, List.length_nil] at c0
  clear hF2 F2
  go_upto_region 2 with (fail)
  iterate 14 (first | go_values | go_guarded | go_step)
  have hn3 := (H2.out.fresh (star_ok lys_ok okB.out) (pts_one (p := zp st0)))
  have H3 := hide (show Run (fun _ => False) w (star (PtsO (some ⟨w2.heap.size, 0, none⟩) 1 [zp st0]) (star (LyR g11 (List.replicate (nl + nm + 4) ly0) 0) (star (CellO g5 #[.slice aA n1 ac, .slice aD n2 ad, .slice aE n3 ae, .int .i64 T.drop, .int .i64 T.ord, .int .i64 T.ini] 25) emp))) (w2.alloc (Obj.cells #[.int .i64 0, .int .i64 0, .string ⟨#[]⟩, .bool false, .int .i64 0] 37)) from (lys_out hz0 (hn3.perm (by ac_rfl : _ = star (LysO g11 (List.replicate (nl + nm + 4) ly0)) (star (PtsO (some ⟨w2.heap.size, 0, none⟩) 1 [zp st0]) (star (CellO g5 #[.slice aA n1 ac, .slice aD n2 ad, .slice aE n3 ae, .int .i64 T.drop, .int .i64 T.ord, .int .i64 T.ini] 25) emp))))).drop.perm (by ac_rfl))
  clear hn3 H2 c0 cf
  generalize w2.alloc (Obj.cells #[.int .i64 0, .int .i64 0, .string ⟨#[]⟩, .bool false, .int .i64 0] 37) = w3 at *
  generalize w2.heap.size = g12 at *
  obtain ⟨F2, hF2⟩ := H3.out.drop.fst
  obtain ⟨c0, cf⟩ := lyr_cell hF2 hz0
  rw [List.getElem_replicate] at c0
  dsimp only [ly0, List.length_nil] at c0
  have H4 := hide (show Run (fun _ => False) w (star (LysO g11 ((List.replicate (nl + nm + 4) ly0).set 0 ⟨some ⟨g12, 0, none⟩, 1, [zp st0]⟩)) (star (CellO g5 #[.slice aA n1 ac, .slice aD n2 ad, .slice aE n3 ae, .int .i64 T.drop, .int .i64 T.ord, .int .i64 T.ini] 25) emp)) (w3.setCell ⟨g11, 0, none⟩ (.slice (some ⟨g12, 0, none⟩) 1 1)) from lys_put hz0 okB.out H3.out)
  clear hF2 F2 H3
  go_upto_region 3 with (fail)
  generalize w3.setCell ⟨g11, 0, none⟩ (.slice (some ⟨g12, 0, none⟩) 1 1) = w4 at *
  clear c0 cf hz0 w3
  have H5 := hide (H4.out.fresh (star_ok lys_ok okB.out) (⟨fun _ => False, row_nil _ _ _, Mod.refl _ _, fun i hi => .inl hi⟩ : Post _ (fun _ => False) (PtsO none 0 []) _))
  clear H4
  have HP0 := hide (ph_start (W := W) (A := some ⟨g12, 0, none⟩) (c := 1) (N := nl + nm + 4) (by rw [HNL.out, HNM.out]))
  go_wp2_with fail
  go_loopw [12, 13] (fun v i wr => ∃ (n : Nat) (zs : List Ly) (A : Option Addr) (c : Nat) (all : List Pt) (q0 : St) (k0 : Nat), i = .int .i64 n ∧ n ≤ nl + nm + 1 ∧ v = .slice A all.length c ∧ (W.moves q0).length ≤ k0 ∧ Ph W (zs.map Ly.l) all n 0 q0 k0 ∧ Run (fun _ => False) w (star (PtsO A c all) (star (LysO g11 zs) (star (CellO g5 #[.slice aA n1 ac, .slice aD n2 ad, .slice aE n3 ae, .int .i64 T.drop, .int .i64 T.ord, .int .i64 T.ini] 25) emp))) wr) (fun _ i _ => nl + nm + 1 - (intOf i).toNat)
  case atStart => exact ⟨0, _, none, 0, [], _, _, rfl, Nat.zero_le _, rfl, Nat.le_refl _, HP0.out, H5.out⟩
  case round =>
    obtain ⟨n, zs, A, c, all, q0, k0, rfl, hn, rfl, hk0, hP, hR⟩ := hrel
    have HR := hide hR
    have HP := hide hP
    have HK0 := hide hk0
    clear hR hP hk0 H5 HP0
    have hzl : zs.length = nl + nm + 4 := by have := HP.out.len; rw [List.length_map] at this; rw [this, HNL.out, HNM.out]
    by_cases hlt : n ≤ nl + nm
    · have hd1 : decide ((n : Int) ≤ (nl : Int) + nm) = true := decide_eq_true (by omega)
      have hnz : n < zs.length := by omega
      obtain ⟨L0, hL0⟩ : ∃ L, L = zs[n].l := ⟨_, rfl⟩
      have HL0 := hide (show (zs.map Ly.l)[n]? = some L0 by rw [List.getElem?_map, List.getElem?_eq_getElem hnz, hL0]; rfl)
      have HN := hide hlt
      clear hn hL0 hnz hzl hlt
      go_wp2_with fail
      go_loopw [12, 14] (fun v ii wr => ∃ (i : Nat) (zs : List Ly) (A : Option Addr) (c : Nat) (all : List Pt) (q0 : St) (k0 : Nat), ii = .int .i64 i ∧ i ≤ L0.length ∧ v = .slice A all.length c ∧ (W.moves q0).length ≤ k0 ∧ (zs.map Ly.l)[n]? = some L0 ∧ Ph W (zs.map Ly.l) all n i q0 k0 ∧ Run (fun _ => False) w (star (PtsO A c all) (star (LysO g11 zs) (star (CellO g5 #[.slice aA n1 ac, .slice aD n2 ad, .slice aE n3 ae, .int .i64 T.drop, .int .i64 T.ord, .int .i64 T.ini] 25) emp))) wr) (fun _ ii _ => L0.length - (intOf ii).toNat)
      case atStart => exact ⟨0, zs, A, c, all, q0, k0, rfl, Nat.zero_le _, rfl, HK0.out, HL0.out, HP.out, HR.out⟩
      case round =>
        clear HP HR HK0 HL0
        obtain ⟨i, zs, A, c, all, q0, k0, rfl, hi, rfl, hk0, hL0, hP, hR⟩ := hrel
        have hzl : zs.length = nl + nm + 4 := by have := hP.len; rw [List.length_map] at this; rw [this, HNL.out, HNM.out]
        have hnz : n < zs.length := by have := HN.out; omega
        have hLe : zs[n].l = L0 := by
          rw [List.getElem?_map, List.getElem?_eq_getElem hnz] at hL0
          exact Option.some.inj hL0
        have hL0l : L0.length ≤ 400000 := by
          have h1 := hP.lay n (by rw [List.length_map]; exact hnz)
          rw [List.getElem_map, hLe] at h1
          exact HFZ.out _ h1.1 h1.z
        obtain ⟨F2, hF2⟩ := hR.drop.fst
        obtain ⟨c0, cf, cR⟩ := lys_cell hF2 hnz
        rw [hLe] at c0 cR
        obtain ⟨zc, hzc⟩ : ∃ c, c = zs[n].c := ⟨_, rfl⟩
        rw [← hzc] at c0
        have HLe := hide hLe
        have HL0 := hide hL0
        clear hF2 F2 hLe hL0
        by_cases hil : i < L0.length
        · have hd2 : decide ((i : Int) < (L0.length : Int)) = true := decide_eq_true (by omega)
          have hnb : (n : Int) ≤ 24 := by have := HN.out; omega
          have hib : (i : Int) ≤ 400000 := by omega
          obtain ⟨q, hq1, hq2, hq3⟩ : ∃ q, Rch W st0 q ∧ L0[i] = zp q ∧ q.i + q.j = n := by
            have h1 := hP.lay n (by rw [List.length_map]; exact hnz)
            rw [List.getElem_map, HLe.out] at h1
            obtain ⟨q, e1, e2, e3⟩ := h1.2 _ (List.getElem_mem hil)
            exact ⟨q, e1, e2, e3⟩
          have hget : ∃ h : n < (zs.map Ly.l).length, ∃ h2 : i < (zs.map Ly.l)[n].length, (zs.map Ly.l)[n][i] = zp q := by
            refine ⟨by rw [List.length_map]; exact hnz, ?_⟩
            simp only [List.getElem_map, HLe.out]
            exact ⟨hil, hq2⟩
          have HPT := hide (show Ph W (zs.map Ly.l) (putP all (zp q)) n (i + 1) q 0 from by
            obtain ⟨g1, g2, g3⟩ := hget
            exact hP.take hk0 g1 g2 g3 (by rw [← g3]; exact wk_new hP g1 g2))
          have HAZ := hide (HFZ.out all hP.srt hP.z)
          have HQR := hide hq1
          have HQN := hide hq3
          have hqa : q.a.length ≤ 1000000 := by have := (rch_ahead HTO.out hq1).1; omega
          have HZC := hide (show zc = zs[n].c from by assumption)
          have hnN : (n : Int) ≤ (nl : Int) + nm := by have := HN.out; omega
          obtain ⟨qi, qj, qa, qr⟩ := q
          dsimp only at hqa
          have HEL := hide (fun W' F' (h : LysO g11 zs W' F') => lys_el h hnz HLe.out hil (p := ⟨qi, qj, qa, qr, 0⟩) hq2)
          obtain ⟨F2, hF2⟩ := hR.drop.fst
          obtain ⟨b, hb, e0, e1, e2, e3, e4⟩ := HEL.out _ _ hF2
          rw [hb] at c0
          have HB := hide hb
          have HCE := hide (fun W' F' (h : LysO g11 zs W' F') => (show _ ∧ _ ∧ _ ∧ _ ∧ _ ∧ _ from by
            obtain ⟨b', hb', e0, e1, e2, e3, e4⟩ := HEL.out _ _ h
            have := HB.out.symm.trans hb'
            injection this with this
            injection this with this
            subst this
            have c0 := (lys_cell h hnz).1
            rw [HLe.out, HB.out, ← HZC.out] at c0
            exact ⟨c0, e0, e1, e2, e3, e4⟩))
          have KP := hide (rput_any (star_ok lys_ok okB.out) hR (by have := HAZ.out; omega) hP.srt (zp ⟨qi, qj, qa, qr⟩))
          unfold pcells zp at KP
          dsimp only at KP
          have HI1 := hide (show i + 1 ≤ L0.length from hil)
          clear hF2 F2 hb hget hP hR hk0 hq1 hq2 hq3 hi hzl HEL
          go_wp2_with fail
          refine KP.out.mono ?_
          rintro e9 w5 ⟨A5, c5, rfl, hR5⟩
          have okL := hide (star_ok lys_ok okB.out : (star (LysO g11 zs) (star (CellO g5 #[.slice aA n1 ac, .slice aD n2 ad, .slice aE n3 ae, .int .i64 T.drop, .int .i64 T.ord, .int .i64 T.ini] 25) emp)).Ok)
          have H5 := hide hR5
          clear KP hR5 c0 cf cR e0 e1 e2 e3 e4
          dsimp only
          obtain ⟨al, hal⟩ : ∃ l, l = putP all (⟨qi, qj, qa, qr, 0⟩ : Pt) := ⟨_, rfl⟩
          have HPT' := hide (show Ph W (zs.map Ly.l) al n (i + 1) ⟨qi, qj, qa, qr⟩ 0 from by rw [hal]; exact HPT.out)
          rw [← hal] at H5 ⊢
          clear hal HPT
          have HSS := hide (fun W' (h : Run (fun _ => False) w (star (PtsO A5 c5 al) (star (LysO g11 zs) (star (CellO g5 #[.slice aA n1 ac, .slice aD n2 ad, .slice aE n3 ae, .int .i64 T.drop, .int .i64 T.ord, .int .i64 T.ini] 25) emp))) W') => (show W'.cell? ⟨g5, 0, none⟩ = some (.slice aA n1 ac) ∧ W'.cell? ⟨g5, 1, none⟩ = some (.slice aD n2 ad) ∧ W'.cell? ⟨g5, 2, none⟩ = some (.slice aE n3 ae) ∧ W'.cell? ⟨g5, 3, none⟩ = some (.int .i64 T.drop) ∧ W'.cell? ⟨g5, 4, none⟩ = some (.int .i64 T.ord) ∧ W'.cell? ⟨g5, 5, none⟩ = some (.int .i64 T.ini) ∧ W'.cell? ⟨g11, n, none⟩ = some (.slice (some ⟨b, 0, none⟩) L0.length zc) ∧ W'.cell? ⟨b, i * 5, none⟩ = some (.int .i64 qi) ∧ W'.cell? ⟨b, i * 5 + 1, none⟩ = some (.int .i64 qj) ∧ W'.cell? ⟨b, i * 5 + 2, none⟩ = some (.string (bs qa)) ∧ W'.cell? ⟨b, i * 5 + 3, none⟩ = some (.bool qr) ∧ W'.cell? ⟨b, i * 5 + 4, none⟩ = some (.int .i64 0) from by
            obtain ⟨F, hF⟩ := h.drop.fst
            obtain ⟨a0, a1, a2, a3, a4, a5⟩ := run_c6 h.drop.drop
            exact ⟨a0, a1, a2, a3, a4, a5, HCE.out _ _ hF⟩))
          go_upto_region 11 with (fail)
          have hS0 := HSS.out _ (H5.out.drew (star_ok pts_ok okL.out))
          have H6 := hide (H5.out.drew (star_ok pts_ok okL.out))
          refine wp_region_lex (fun W' : World => W'.cell? ⟨g5, 0, none⟩ = some (.slice aA n1 ac) ∧ W'.cell? ⟨g5, 1, none⟩ = some (.slice aD n2 ad) ∧ W'.cell? ⟨g5, 2, none⟩ = some (.slice aE n3 ae) ∧ W'.cell? ⟨g5, 3, none⟩ = some (.int .i64 T.drop) ∧ W'.cell? ⟨g5, 4, none⟩ = some (.int .i64 T.ord) ∧ W'.cell? ⟨g5, 5, none⟩ = some (.int .i64 T.ini) ∧ W'.cell? ⟨g11, n, none⟩ = some (.slice (some ⟨b, 0, none⟩) L0.length zc) ∧ W'.cell? ⟨b, i * 5, none⟩ = some (.int .i64 qi) ∧ W'.cell? ⟨b, i * 5 + 1, none⟩ = some (.int .i64 qj) ∧ W'.cell? ⟨b, i * 5 + 2, none⟩ = some (.string (bs qa)) ∧ W'.cell? ⟨b, i * 5 + 3, none⟩ = some (.bool qr) ∧ W'.cell? ⟨b, i * 5 + 4, none⟩ = some (.int .i64 0)) rfl (by kernel_rfl) hS0 ?_
          clear hS0 H5
          generalize w5.drew = w6 at *
          have hbel := hide (show Below w.heap.size w w6 from H6.out.mod.below (fun _ _ h => h))
          have KM2 := hide (KM.out ⟨qi, qj, qa, qr⟩ 0 w6 hbel.out (Rch.ok ok0 HQR.out) hqa)
          dsimp only at KM2
          have hb1 : (n : Int) < (nl : Int) + nm + 4 := by omega
          have hb2 : (i : Int) < (L0.length : Int) := by omega
          (repeat (first | (refine lex_skip (by rfl) ?_; try simp only [Act.put, List.setIfInBounds_toArray, List.set_cons_zero, List.set_cons_succ]) | (refine lex_read (v := ?_) (by rfl) ?_ ?_; rotate_left; (focus (intro w' hS'; go_simp; (try with_reducible rfl); done)); try simp only [Act.put, List.setIfInBounds_toArray, List.set_cons_zero, List.set_cons_succ])))
          refine lex_chain rfl (by rfl) (fun K hK => ?_)
          go_wp2_with fail
          refine KM2.out.mono ?_
          rintro e9 w7 ⟨Am, cm, rfl, hp⟩
          have H7 := hide (H6.out.fresh (star_ok pts_ok okL.out) hp)
          clear KM2 H6 hp hbel
          dsimp only
          refine hK.out _ _ (HSS.out _ H7.out.drop) ?_
          clear hK
          (repeat (first | (refine lex_skip (by rfl) ?_; try simp only [Act.put, List.setIfInBounds_toArray, List.set_cons_zero, List.set_cons_succ]) | (refine lex_read (v := ?_) (by rfl) ?_ ?_; rotate_left; (focus (intro w' hS'; go_simp; (try with_reducible rfl); done)); try simp only [Act.put, List.setIfInBounds_toArray, List.set_cons_zero, List.set_cons_succ])))
          refine lex_nil ?_
          clear hb1 hb2
          obtain ⟨mv, hmv⟩ : ∃ n, n = (movP W ⟨qi, qj, qa, qr⟩).length := ⟨_, rfl⟩
          have hml : mv = (W.moves ⟨qi, qj, qa, qr⟩).length := by rw [hmv]; unfold movP; rw [List.length_map]
          have hm60 : (mv : Int) ≤ 60 := by have := HMF.out ⟨qi, qj, qa, qr⟩; omega
          have HM0 := hide (show ∀ j (h : j < (movP W ⟨qi, qj, qa, qr⟩).length) (h2 : j < (W.moves ⟨qi, qj, qa, qr⟩).length), 0 ≤ j → (movP W ⟨qi, qj, qa, qr⟩)[j] = toPt (W.moves ⟨qi, qj, qa, qr⟩)[j] from fun j h h2 _ => mov_get j h h2)
          have HMV := hide hmv
          have HML := hide hml
          rw [← hmv]
          clear hmv hml
          go_wp2_with fail
          go_loopw [16] (fun kk wr => ∃ (k : Nat) (zs : List Ly) (M : List Pt), kk = .int .i64 k ∧ k ≤ mv ∧ M.length = mv ∧ (∀ j (h : j < M.length) (h2 : j < (W.moves ⟨qi, qj, qa, qr⟩).length), k ≤ j → M[j] = toPt (W.moves ⟨qi, qj, qa, qr⟩)[j]) ∧ (zs.map Ly.l)[n]? = some L0 ∧ Ph W (zs.map Ly.l) al n (i + 1) ⟨qi, qj, qa, qr⟩ k ∧ Run (fun _ => False) w (star (PtsO Am cm M) (star (PtsO A5 c5 al) (star (LysO g11 zs) (star (CellO g5 #[.slice aA n1 ac, .slice aD n2 ad, .slice aE n3 ae, .int .i64 T.drop, .int .i64 T.ord, .int .i64 T.ini] 25) emp)))) wr) (fun kk _ => mv - (intOf kk).toNat)
          case atStart => exact ⟨0, zs, _, rfl, Nat.zero_le _, HMV.out.symm, HM0.out, HL0.out, HPT'.out, H7.out⟩
          case round =>
            clear H7 HM0 HPT' HMV HL0 HLe HZC HCE HSS okL HB HAZ
            obtain ⟨k, zs, M, rfl, hk, hMl, hM, hL0, hP, hR⟩ := hrel
            have hzl : zs.length = nl + nm + 4 := by have := hP.len; rw [List.length_map] at this; rw [this, HNL.out, HNM.out]
            by_cases hkl : k < mv
            · have hd3 : decide ((k : Int) < (mv : Int)) = true := decide_eq_true (by omega)
              have hkM : k < M.length := by omega
              have hkm : k < (W.moves ⟨qi, qj, qa, qr⟩).length := by have := HML.out; omega
              obtain ⟨gm, rfl⟩ : ∃ g, Am = some ⟨g, 0, none⟩ := by
                obtain ⟨F, hF⟩ := hR.fst
                exact row_addr hF (by omega)
              have hx : ∃ x : Int × St, M[k] = toPt x ∧ ∃ hm : x.2.i + x.2.j < (zs.map Ly.l).length, n < x.2.i + x.2.j ∧ Ph W ((zs.map Ly.l).set (x.2.i + x.2.j) (putP (zs.map Ly.l)[x.2.i + x.2.j] (zp x.2))) al n (i + 1) ⟨qi, qj, qa, qr⟩ (k + 1) := ⟨_, hM k hkM hkm (Nat.le_refl _), hP.step HQR.out HQN.out (Rch.ok ok0 HQR.out) hkm⟩
              obtain ⟨⟨xc', ⟨mi, mj, ma, mr⟩⟩, hMk, s1, s2, s3⟩ := hx
              dsimp only at hMk s1 s2 s3
              obtain ⟨m, hm⟩ : ∃ m, mi + mj = m := ⟨_, rfl⟩
              simp only [hm] at s1 s2 s3
              have hmz : m < zs.length := by rw [List.length_map] at s1; exact s1
              obtain ⟨Z, hZ⟩ : ∃ Z, zs[m] = Z := ⟨_, rfl⟩
              have HLO := hide (show Z.l.length ≤ 400000 ∧ Z.l.Pairwise ltP from by
                have h1 := hP.lay m s1
                rw [List.getElem_map, hZ] at h1
                exact ⟨HFZ.out _ h1.1 h1.z, h1.1⟩)
              have HST := hide (show ∀ A c, Ph W ((zs.set m ⟨A, c, putP Z.l ⟨mi, mj, ma, mr, 0⟩⟩).map Ly.l) al n (i + 1) ⟨qi, qj, qa, qr⟩ (k + 1) ∧ ((zs.set m ⟨A, c, putP Z.l ⟨mi, mj, ma, mr, 0⟩⟩).map Ly.l)[n]? = some L0 from fun A c => by
                rw [List.map_set]
                simp only [List.getElem_map, hZ] at s3
                refine ⟨s3, ?_⟩
                rw [List.getElem?_set_ne (by omega)]
                exact hL0)
              have HLC := hide (fun W' F' (h : LysO g11 zs W' F') => (show W'.cell? ⟨g11, m, none⟩ = some (.slice Z.A Z.l.length Z.c) from by
                have := (lys_cell h hmz).1
                rw [hZ] at this
                exact this))
              have HTK := hide (fun W' X (h : Run (fun _ => False) w (star (LysO g11 zs) X) W') => (show Run (fun _ => False) w (star (PtsO Z.A Z.c Z.l) (star (LyR g11 zs m) X)) W' from by
                have := lys_out hmz h
                rw [hZ] at this
                exact this))
              have HRC := hide (fun W' F' (h : LyR g11 zs m W' F') => (show W'.cell? ⟨g11, m, none⟩ = some (.slice Z.A Z.l.length Z.c) ∧ ∀ j, W'.frozen? ⟨g11, j, none⟩ = false from by
                have := lyr_cell h hmz
                rw [hZ] at this
                exact this))
              have HPU := hide (fun W' (X : CH.Own) (hX : X.Ok) A c l (h : Run (fun _ => False) w (star (PtsO A c l) (star (LyR g11 zs m) X)) W') => lys_put hmz hX h)
              obtain ⟨F2, hF2⟩ := hR.fst
              obtain ⟨⟨e0, e1, e2, e3, e4⟩, ef⟩ := pts_cell hF2 hkM
              rw [hMk] at e0 e1 e2 e3 e4
              dsimp only [toPt] at e0 e1 e2 e3 e4
              have hpk : ∃ M2 : List Pt, M2.length = mv ∧ (∀ j (h : j < M2.length) (h2 : j < (W.moves ⟨qi, qj, qa, qr⟩).length), k + 1 ≤ j → M2[j] = toPt (W.moves ⟨qi, qj, qa, qr⟩)[j]) ∧ (∃ h : k < M2.length, M2[k] = ⟨mi, mj, ma, mr, 0⟩) ∧ Run (fun _ => False) w (star (PtsO (some ⟨gm, 0, none⟩) cm M2) (star (PtsO A5 c5 al) (star (LysO g11 zs) (star (CellO g5 #[.slice aA n1 ac, .slice aD n2 ad, .slice aE n3 ae, .int .i64 T.drop, .int .i64 T.ord, .int .i64 T.ini] 25) emp)))) (wr.setCell ⟨gm, k * 5 + 4, none⟩ (.int .i64 0)) := by
                refine ⟨M.set k { M[k] with h := 0 }, by rw [List.length_set]; exact hMl, fun j h h2 h3 => ?_, ⟨by rw [List.length_set]; exact hkM, ?_⟩, pts_seth (star_ok pts_ok (star_ok lys_ok okB.out)) hkM 0 hR⟩
                · rw [List.getElem_set, if_neg (by omega)]
                  exact hM j (by rw [List.length_set] at h; exact h) h2 (by omega)
                · rw [List.getElem_set, if_pos rfl, hMk]; rfl
              obtain ⟨M2, hM2l, hMN, ⟨hkM2, hMk2⟩, hH1⟩ := hpk
              have H1 := hide hH1
              have HMN := hide hMN
              have HML2 := hide hM2l
              have HCM := hide (fun W' X (h : Run (fun _ => False) w (star (PtsO (some ⟨gm, 0, none⟩) cm M2) X) W') => (show W'.cell? ⟨gm, k * 5, none⟩ = some (.int .i64 mi) ∧ W'.cell? ⟨gm, k * 5 + 1, none⟩ = some (.int .i64 mj) ∧ W'.cell? ⟨gm, k * 5 + 2, none⟩ = some (.string (bs ma)) ∧ W'.cell? ⟨gm, k * 5 + 3, none⟩ = some (.bool mr) ∧ W'.cell? ⟨gm, k * 5 + 4, none⟩ = some (.int .i64 0) from by
                obtain ⟨F, hF⟩ := h.fst
                have := (pts_cell hF hkM2).1
                rw [hMk2] at this
                exact this))
              have hkb : (k : Int) < (mv : Int) := by omega
              have HK1 := hide (show k + 1 ≤ mv from hkl)
              have HM := hide hm
              have hmb : (m : Int) < (nl : Int) + nm + 4 := by omega
              have tm : IntKind.i64.wrap ((mi : Int) + (mj : Int)) = (m : Int) := by rw [IntWalk.i64_in _ (by omega)]; omega
              have tm2 : wrap64 ((mi : Int) + (mj : Int)) = (m : Int) := by rw [IntWalk.wrap64_in _ (by omega)]; omega
              clear hP hR hM hMl hk hkl hkM hkm hF2 F2 hMk hMk2 hM2l hMN hH1 s1 s2 s3 hm hZ hmz hkM2 hL0 hzl
              go_upto_region 16 with (fail)
              generalize wr.setCell ⟨gm, k * 5 + 4, none⟩ (.int .i64 0) = w1 at *
              have okA := hide (star_ok pts_ok (star_ok pts_ok (star_ok lys_ok okB.out)) : (star (PtsO (some ⟨gm, 0, none⟩) cm M2) (star (PtsO A5 c5 al) (star (LysO g11 zs) (star (CellO g5 #[.slice aA n1 ac, .slice aD n2 ad, .slice aE n3 ae, .int .i64 T.drop, .int .i64 T.ord, .int .i64 T.ini] 25) emp)))).Ok)
              have okC := hide (star_ok pts_ok (star_ok pts_ok okB.out) : (star (PtsO (some ⟨gm, 0, none⟩) cm M2) (star (PtsO A5 c5 al) (star (CellO g5 #[.slice aA n1 ac, .slice aD n2 ad, .slice aE n3 ae, .int .i64 T.drop, .int .i64 T.ord, .int .i64 T.ini] 25) emp))).Ok)
              have H2 := hide (H1.out.drew okA.out)
              clear H1 e0 e1 e2 e3 e4 ef
              obtain ⟨e0, e1, e2, e3, e4⟩ := HCM.out _ _ H2.out
              obtain ⟨F2, hF2⟩ := H2.out.drop.drop.fst
              have c0 := HLC.out _ _ hF2
              have KP := hide (rput_any (star_ok lyr_ok okC.out) (HTK.out _ _ (H2.out.perm (by ac_rfl : _ = star (LysO g11 zs) (star (PtsO (some ⟨gm, 0, none⟩) cm M2) (star (PtsO A5 c5 al) (star (CellO g5 #[.slice aA n1 ac, .slice aD n2 ad, .slice aE n3 ae, .int .i64 T.drop, .int .i64 T.ord, .int .i64 T.ini] 25) emp)))))) (by have := HLO.out.1; omega) HLO.out.2 ⟨mi, mj, ma, mr, 0⟩)
              unfold pcells at KP
              dsimp only at KP
              clear hF2 F2 H2
              refine wp_region_les [30, 32] [1, 1, 1, 1, 1, 1, 1, 1, 1, 1, 1, 1, 0, 0, 0, 0, 0, 0, 0, 0, 0, 0, 0, 0, 0, 0, 0, 0, 0, 0, 1, 1, 2] (fun W' : World => W'.cell? ⟨gm, k * 5, none⟩ = some (.int .i64 mi) ∧ W'.cell? ⟨gm, k * 5 + 1, none⟩ = some (.int .i64 mj) ∧ W'.cell? ⟨gm, k * 5 + 2, none⟩ = some (.string (bs ma)) ∧ W'.cell? ⟨gm, k * 5 + 3, none⟩ = some (.bool mr) ∧ W'.cell? ⟨gm, k * 5 + 4, none⟩ = some (.int .i64 0) ∧ W'.cell? ⟨g11, m, none⟩ = some (.slice Z.A Z.l.length Z.c)) [fun W' : World => W'.cell? ⟨gm, k * 5, none⟩ = some (.int .i64 mi) ∧ W'.cell? ⟨gm, k * 5 + 1, none⟩ = some (.int .i64 mj)] ⟨fun w h => ⟨h.1, h.2.1⟩, trivial⟩ rfl (by kernel_rfl) (by kernel_rfl) (by kernel_rfl) ⟨e0, e1, e2, e3, e4, c0⟩ ?_
              clear e0 e1 e2 e3 e4 c0
              generalize w1.drew = w2 at *
              (repeat (first | (refine les_skip (by rfl) (by rfl) ?_; try simp only [Act.put, List.setIfInBounds_toArray, List.set_cons_zero, List.set_cons_succ]) | (refine les_read (v := ?_) (by rfl) (by rfl) ?_ ?_; rotate_left; (focus (intro w' hS'; (try simp only [stL] at hS'); go_simp; (try with_reducible rfl); done)); try simp only [Act.put, List.setIfInBounds_toArray, List.set_cons_zero, List.set_cons_succ])))
              refine les_chain rfl (by rfl) (fun K hK => ?_)
              go_wp2_with fail
              refine KP.out.mono ?_
              rintro e9 w3 ⟨A8, c8, rfl, hr⟩
              have H3 := hide hr
              clear KP hr
              dsimp only
              obtain ⟨e0, e1, -⟩ := HCM.out _ _ (H3.out.perm (by ac_rfl : _ = star (PtsO (some ⟨gm, 0, none⟩) cm M2) (star (PtsO A8 c8 (putP Z.l ⟨mi, mj, ma, mr, 0⟩)) (star (LyR g11 zs m) (star (PtsO A5 c5 al) (star (CellO g5 #[.slice aA n1 ac, .slice aD n2 ad, .slice aE n3 ae, .int .i64 T.drop, .int .i64 T.ord, .int .i64 T.ini] 25) emp))))))
              obtain ⟨F2, hF2⟩ := H3.out.drop.fst
              obtain ⟨d0, df⟩ := HRC.out _ _ hF2
              have H4 := hide (HPU.out _ _ okC.out _ _ _ H3.out)
              obtain ⟨S4a, S4b⟩ := HST.out A8 c8
              have HSA := hide S4a
              have HSB := hide S4b
              refine hK.out _ _ ⟨e0, e1⟩ ?_
              clear hK hF2 F2 H3 HRC HPU HST HTK HLC HCM HLO S4a S4b
              (repeat (first | (refine les_skip (by rfl) (by rfl) ?_; try simp only [Act.put, List.setIfInBounds_toArray, List.set_cons_zero, List.set_cons_succ]) | (refine les_read (v := ?_) (by rfl) (by rfl) ?_ ?_; rotate_left; (focus (intro w' hS'; (try simp only [stL] at hS'); go_simp; (try with_reducible rfl); done)); try simp only [Act.put, List.setIfInBounds_toArray, List.set_cons_zero, List.set_cons_succ])))
              refine les_chain rfl (by rfl) (fun K hK => ?_)
              go_wp2
              refine hK.out _ _ trivial (les_nil ?_)
              clear hK e0 e1 d0 df okA
              generalize w3.setCell ⟨g11, m, none⟩ (.slice A8 (putP Z.l ⟨mi, mj, ma, mr, 0⟩).length c8) = w4 at *
              go_wp2_with fail
              go_roundw
              case rel => exact ⟨k + 1, _, M2, rfl, HK1.out, HML2.out, HMN.out, HSB.out, HSA.out, H4.out.perm (by ac_rfl)⟩
              case measure => have := HK1.out; simp [intOf]; omega
            · have hd3 : decide ((k : Int) < (mv : Int)) = false := decide_eq_false (by omega)
              have HPE := hide hP
              have HRE := hide hR
              have HL0 := hide hL0
              have HKE := hide (show (W.moves ⟨qi, qj, qa, qr⟩).length ≤ k by rw [← HML.out]; omega)
              clear hP hR hL0 hM hMl
              go_wp2_with fail
              go_roundw
              case rel => exact ⟨i + 1, zs, A5, c5, al, _, k, by go_num, HI1.out, rfl, HKE.out, HL0.out, HPE.out, (HRE.out.perm (by ac_rfl : _ = star (PtsO Am cm M) (star (PtsO A5 c5 al) (star (LysO g11 zs) (star (CellO g5 #[.slice aA n1 ac, .slice aD n2 ad, .slice aE n3 ae, .int .i64 T.drop, .int .i64 T.ord, .int .i64 T.ini] 25) emp))))).drop⟩
              case measure => have := HI1.out; simp [intOf]; omega
        · have hd2 : decide ((i : Int) < (L0.length : Int)) = false := decide_eq_false (by omega)
          have HPE := hide (hP.next (by rw [List.length_map]; exact hnz) (by rw [List.getElem_map, HLe.out]; omega))
          have HRE := hide hR
          have HKE := hide hk0
          have hnN : (n : Int) ≤ (nl : Int) + nm := by have := HN.out; omega
          have HN1 := hide (show n + 1 ≤ nl + nm + 1 by have := HN.out; omega)
          clear hP hR hk0 cR
          go_wp2_with fail
          go_roundw
          case rel => exact ⟨n + 1, zs, A, c, all, q0, k0, by go_num, HN1.out, rfl, HKE.out, HPE.out, HRE.out⟩
          case measure => have := HN1.out; simp [intOf]; omega
    · have hd1 : decide ((n : Int) ≤ (nl : Int) + nm) = false := decide_eq_false (by omega)
      obtain ⟨Q, hQ, hp2⟩ := HP.out.p2 HK0.out (show n = W.l.length + W.m.length + 1 by rw [← HNL.out, ← HNM.out]; omega)
      have HP2 := hide hp2
      have HRU := hide (show Run (fun _ => False) w (star (PtsO A c (Q.map (ph fun _ => 0))) (star (LysO g11 zs) (star (CellO g5 #[.slice aA n1 ac, .slice aD n2 ad, .slice aE n3 ae, .int .i64 T.drop, .int .i64 T.ord, .int .i64 T.ini] 25) emp))) wr from by rw [← hQ]; exact HR.out)
      have hQl : all.length = Q.length := by rw [hQ, List.length_map]
      have hQ4 : (Q.length : Int) ≤ 400000 := by have := HFZ.out all HP.out.srt HP.out.z; omega
      rw [hQl]
      clear HP HR HK0 hQ hp2 hQl
      clear hlt hn
      have HH0 := hide (h1_start (W := W) (h := fun _ => 0))
      rw [← HNL.out, ← HNM.out] at HH0
      obtain ⟨ga, rfl⟩ : ∃ g, A = some ⟨g, 0, none⟩ := by
        obtain ⟨F, hF⟩ := HRU.out.fst
        have h0 := (HP2.out.rch st0).2 Rch.refl
        exact row_addr hF (by rw [List.length_map]; exact List.length_pos_of_mem h0)
      go_wp2_with fail
      go_loopw [17] (fun v wr => ∃ (np : Nat) (h : St → Int), v = .int .i64 ((np : Int) - 1) ∧ np ≤ nl + nm + 1 ∧ H1 W h np ∧ Run (fun _ => False) w (star (PtsO (some ⟨ga, 0, none⟩) c (Q.map (ph h))) (star (LysO g11 zs) (star (CellO g5 #[.slice aA n1 ac, .slice aD n2 ad, .slice aE n3 ae, .int .i64 T.drop, .int .i64 T.ord, .int .i64 T.ini] 25) emp))) wr) (fun v _ => (intOf v + 1).toNat)
      case atStart => exact ⟨nl + nm + 1, _, by congr 1; omega, Nat.le_refl _, HH0.out, HRU.out⟩
      case round =>
        clear HRU HH0
        obtain ⟨np, h, rfl, hn1, hH, hR⟩ := hrel
        have HR := hide hR
        have HH := hide hH
        clear hR hH
        cases np with
        | zero =>
          have hd4 : decide ((0 : Int) ≤ ((0 : Nat) : Int) - 1) = false := rfl
          go_wp2
          go_ret
          refine ⟨some ⟨ga, 0, none⟩, c, Q, rfl, HP2.out.srt, HP2.out.rch, ?_⟩
          have hR := HR.out
          rw [p2_all HP2.out HH.out] at hR
          exact ((hR.perm (by ac_rfl : _ = star (star (LysO g11 zs) (star (CellO g5 #[.slice aA n1 ac, .slice aD n2 ad, .slice aE n3 ae, .int .i64 T.drop, .int .i64 T.ord, .int .i64 T.ini] 25) emp)) (PtsO (some ⟨ga, 0, none⟩) c (Q.map (ph W.rd))))).drop).post pts_ok
        | succ n =>
          have hnn : ((n + 1 : Nat) : Int) - 1 = (n : Int) := by omega
          rw [hnn]
          have hd4 : decide ((0 : Int) ≤ (n : Int)) = true := decide_eq_true (by omega)
          have hnb : (n : Int) ≤ (nl : Int) + nm := by omega
          have HN1 := hide (show n ≤ nl + nm + 1 by omega)
          have hzl : zs.length = nl + nm + 4 := by have := HP2.out.len; rw [List.length_map] at this; rw [this, HNL.out, HNM.out]
          have hnz : n < zs.length := by omega
          obtain ⟨Z, hZ⟩ : ∃ Z, zs[n] = Z := ⟨_, rfl⟩
          have hmz : n < (zs.map Ly.l).length := by rw [List.length_map]; exact hnz
          have hml : (zs.map Ly.l)[n] = Z.l := by rw [List.getElem_map, hZ]
          have HZ4 : (Z.l.length : Int) ≤ 400000 := by
            have h1 := HP2.out.lay n hmz
            rw [hml] at h1
            have := HFZ.out _ h1.1 h1.z
            omega
          have HLC := hide (fun W' X (h : Run (fun _ => False) w (star (LysO g11 zs) X) W') => (show W'.cell? ⟨g11, n, none⟩ = some (.slice Z.A Z.l.length Z.c) from by
            obtain ⟨F, hF⟩ := h.fst
            have := (lys_cell hF hnz).1
            rw [hZ] at this
            exact this))
          have HEL := hide (fun W' X (h : Run (fun _ => False) w (star (LysO g11 zs) X) W') (j : Nat) (hj : j < Z.l.length) (p : Pt) (hp : Z.l[j] = p) => (show ∃ b, Z.A = some ⟨b, 0, none⟩ ∧ (W'.cell? ⟨b, j * 5, none⟩ = some (.int .i64 p.i) ∧ W'.cell? ⟨b, j * 5 + 1, none⟩ = some (.int .i64 p.j) ∧ W'.cell? ⟨b, j * 5 + 2, none⟩ = some (.string (bs p.a)) ∧ W'.cell? ⟨b, j * 5 + 3, none⟩ = some (.bool p.r) ∧ W'.cell? ⟨b, j * 5 + 4, none⟩ = some (.int .i64 p.h)) from by
            obtain ⟨F, hF⟩ := h.fst
            have := lys_el hF hnz (by rw [hZ]) (L := Z.l) (j := j) hj (p := p) hp
            rw [hZ] at this
            exact this))
          have HNX := hide (fun (h : St → Int) (i : Nat) (hi : i < Z.l.length) (hh : H2 W (zs.map Ly.l) h n i) => (show ∃ s : St, Z.l[i] = zp s ∧ Rch W st0 s ∧ W.ok s ∧ s.i + s.j = n ∧ H2 W (zs.map Ly.l) (upH h s (W.rd s)) n (i + 1) ∧ ∃ k, ∃ hk : k < Q.length, Q[k] = s from by
            obtain ⟨s, k, hk, e1, e2, e3, e4, e5⟩ := HP2.out.at hmz (show i < (zs.map Ly.l)[n].length by rw [hml]; exact hi)
            refine ⟨s, by rw [← e1]; simp only [hml], e3, e4, e5, hh.next HP2.out hmz (by rw [hml]; exact hi) e1 e5, k, hk, e2⟩))
          have HEN := hide (fun (h : St → Int) (i : Nat) (hi : Z.l.length ≤ i) (hh : H2 W (zs.map Ly.l) h n i) => hh.lay HP2.out hmz (by rw [hml]; exact hi))
          have HH2 := hide (HH.out.lay (Ls := zs.map Ly.l))
          clear hnn hzl hnz hZ hmz hml HH hn1
          go_wp2_with fail
          go_loopw [18] (fun v wr => ∃ (i : Nat) (h : St → Int), v = .int .i64 i ∧ i ≤ Z.l.length ∧ H2 W (zs.map Ly.l) h n i ∧ Run (fun _ => False) w (star (PtsO (some ⟨ga, 0, none⟩) c (Q.map (ph h))) (star (LysO g11 zs) (star (CellO g5 #[.slice aA n1 ac, .slice aD n2 ad, .slice aE n3 ae, .int .i64 T.drop, .int .i64 T.ord, .int .i64 T.ini] 25) emp))) wr) (fun v _ => Z.l.length - (intOf v).toNat)
          case atStart => exact ⟨0, h, rfl, Nat.zero_le _, HH2.out, HR.out⟩
          case round =>
            clear HR HH2
            obtain ⟨i, h, rfl, hi, hH, hR⟩ := hrel
            have HR := hide hR
            have c0 := HLC.out _ _ hR.rot
            by_cases hil : i < Z.l.length
            · have hd5 : decide ((i : Int) < (Z.l.length : Int)) = true := decide_eq_true (by omega)
              obtain ⟨s, hs1, hs2, hs3, hs4, hs5, ks, hks, hs6⟩ := HNX.out h i hil hH
              have HTO2 := hide (fun j (hj : j < (W.moves s).length) => HP2.out.to hH hs2 hs4 hj)
              have HS2 := hide hs2
              have HS3 := hide hs3
              have HS5 := hide hs5
              have hsa : s.a.length ≤ 1000000 := by have := (rch_ahead HTO.out hs2).1; omega
              obtain ⟨b, hb, e0, e1, e2, e3, e4⟩ := HEL.out _ _ hR.rot i hil _ hs1
              have hib : (i : Int) < (Z.l.length : Int) := by omega
              have HI1 := hide (show i + 1 ≤ Z.l.length from hil)
              have HKS := hide (show ∃ hk : ks < Q.length, Q[ks] = s from ⟨hks, hs6⟩)
              rw [hb] at c0
              obtain ⟨si, sj, sa, sr⟩ := s
              unfold zp at e0 e1 e2 e3 e4
              dsimp only at e0 e1 e2 e3 e4 hsa
              clear hi hH hR hil hs1 hs2 hs3 hs4 hs5 hs6 hb hks
              go_upto_region 24 with (fail)
              have okA := hide (star_ok cell_ok (star_ok pts_ok (star_ok lys_ok okB.out)) : (star (CellO wr.heap.size #[.int .i64 si, .int .i64 sj, .string (bs sa), .bool sr, .int .i64 0] 37) (star (PtsO (some ⟨ga, 0, none⟩) c (Q.map (ph h))) (star (LysO g11 zs) (star (CellO g5 #[.slice aA n1 ac, .slice aD n2 ad, .slice aE n3 ae, .int .i64 T.drop, .int .i64 T.ord, .int .i64 T.ini] 25) emp)))).Ok)
              have H1 := hide (show Run (fun _ => False) w (star (CellO wr.heap.size #[.int .i64 si, .int .i64 sj, .string (bs sa), .bool sr, .int .i64 0] 37) (star (PtsO (some ⟨ga, 0, none⟩) c (Q.map (ph h))) (star (LysO g11 zs) (star (CellO g5 #[.slice aA n1 ac, .slice aD n2 ad, .slice aE n3 ae, .int .i64 T.drop, .int .i64 T.ord, .int .i64 T.ini] 25) emp)))) (wr.alloc (.cells #[.int .i64 si, .int .i64 sj, .string (bs sa), .bool sr, .int .i64 0] 37)) from run_new HR.out (star_ok pts_ok (star_ok lys_ok okB.out)) _ _)
              clear HR e0 e1 e2 e3 e4 c0
              generalize wr.alloc (.cells #[.int .i64 si, .int .i64 sj, .string (bs sa), .bool sr, .int .i64 0] 37) = w1 at *
              generalize wr.heap.size = g19 at *
              obtain ⟨c0, c1, c2, c3, c4, cf⟩ := run_c5 H1.out
              iterate 8 (first | go_values | go_guarded | go_step)
              go_cut [20] (fun v wx => v = .int .i64 (minR W ⟨si, sj, sa, sr⟩ 0) ∧ wx = w1)
              case first =>
                by_cases t1 : si = W.l.length
                · have d1 : ((si : Int) == (nl : Int)) = true := by rw [HNL.out]; simp [t1]
                  by_cases t2 : sj = W.m.length
                  · have d2 : ((sj : Int) == (nm : Int)) = true := by rw [HNM.out]; simp [t2]
                    by_cases t3 : sa = []
                    · have d3 : ((bs sa).toList == []) = true := by rw [beq_iff_eq]; exact bs_empty.2 t3
                      have hmz : minR W ⟨si, sj, sa, sr⟩ 0 = 0 := by
                        rw [minR_zero, if_pos]
                        unfold Wd.fin
                        rw [t1, t2, t3]
                        congr 1
                        have := HS3.out.2.2
                        cases sr with
                        | false => rfl
                        | true => exact absurd t3 (this rfl)
                      clear t1 t2 t3
                      go_wp2
                      go_meet
                      exact ⟨by rw [hmz], rfl⟩
                    · have d3 : ((bs sa).toList == []) = false := beq_eq_false_iff_ne.2 (fun e => t3 (bs_empty.1 e))
                      have hmz : minR W ⟨si, sj, sa, sr⟩ 0 = 1000000000 := by
                        rw [minR_zero, if_neg (fun e => t3 (by rw [St.mk.injEq] at e; exact e.2.2.1))]; rfl
                      clear t1 t2 t3
                      go_wp2
                      go_meet
                      exact ⟨by rw [hmz], rfl⟩
                  · have d2 : ((sj : Int) == (nm : Int)) = false := by rw [HNM.out]; rw [beq_eq_false_iff_ne]; omega
                    have hmz : minR W ⟨si, sj, sa, sr⟩ 0 = 1000000000 := by
                      rw [minR_zero, if_neg (fun e => t2 (by unfold Wd.fin at e; rw [St.mk.injEq] at e; exact e.2.1))]; rfl
                    clear t1 t2
                    go_wp2
                    go_meet
                    exact ⟨by rw [hmz], rfl⟩
                · have d1 : ((si : Int) == (nl : Int)) = false := by rw [HNL.out]; rw [beq_eq_false_iff_ne]; omega
                  have hmz : minR W ⟨si, sj, sa, sr⟩ 0 = 1000000000 := by
                    rw [minR_zero, if_neg (fun e => t1 (by unfold Wd.fin at e; rw [St.mk.injEq] at e; exact e.1))]; rfl
                  clear t1
                  go_wp2
                  go_meet
                  exact ⟨by rw [hmz], rfl⟩
              case rest =>
                obtain ⟨rfl, rfl⟩ := hcut
                obtain ⟨a0, a1, a2, a3, a4, a5⟩ := run_c6 (H1.out.perm (by ac_rfl : _ = star (CellO g5 #[.slice aA n1 ac, .slice aD n2 ad, .slice aE n3 ae, .int .i64 T.drop, .int .i64 T.ord, .int .i64 T.ini] 25) (star (CellO g19 #[.int .i64 si, .int .i64 sj, .string (bs sa), .bool sr, .int .i64 0] 37) (star (PtsO (some ⟨ga, 0, none⟩) c (Q.map (ph h))) (star (LysO g11 zs) emp)))))
                have hbel := hide (show Below w.heap.size w wc from H1.out.mod.below (fun _ _ h => h))
                have KM2 := hide (KM.out ⟨si, sj, sa, sr⟩ 0 wc hbel.out HS3.out hsa)
                dsimp only at KM2
                go_wp2_with fail
                refine KM2.out.mono ?_
                rintro e9 w3 ⟨Am, cm, rfl, hp⟩
                have H3 := hide (H1.out.fresh okA.out hp)
                clear KM2 H1 hp hbel a0 a1 a2 a3 a4 a5 c0 c1 c2 c3 c4 cf
                dsimp only
                obtain ⟨mv, hmv⟩ : ∃ n, n = (movP W ⟨si, sj, sa, sr⟩).length := ⟨_, rfl⟩
                have hml : mv = (W.moves ⟨si, sj, sa, sr⟩).length := by rw [hmv]; unfold movP; rw [List.length_map]
                have hm60 : (mv : Int) ≤ 60 := by have := HMF.out ⟨si, sj, sa, sr⟩; omega
                have HMV := hide hmv
                have HML := hide hml
                rw [← hmv]
                clear hmv hml
                go_wp2_with fail
                go_loopw [20, 22] (fun v kk wr => ∃ (k : Nat), kk = .int .i64 k ∧ k ≤ mv ∧ v = .int .i64 (minR W ⟨si, sj, sa, sr⟩ k) ∧ Run (fun _ => False) w (star (PtsO Am cm (movP W ⟨si, sj, sa, sr⟩)) (star (CellO g19 #[.int .i64 si, .int .i64 sj, .string (bs sa), .bool sr, .int .i64 0] 37) (star (PtsO (some ⟨ga, 0, none⟩) c (Q.map (ph h))) (star (LysO g11 zs) (star (CellO g5 #[.slice aA n1 ac, .slice aD n2 ad, .slice aE n3 ae, .int .i64 T.drop, .int .i64 T.ord, .int .i64 T.ini] 25) emp))))) wr) (fun _ kk _ => mv - (intOf kk).toNat)
                case atStart => exact ⟨0, rfl, Nat.zero_le _, rfl, H3.out⟩
                case round =>
                  clear H3
                  obtain ⟨k, rfl, hk, rfl, hR⟩ := hrel
                  have HR := hide hR
                  have okR := hide (star_ok pts_ok okA.out : (star (PtsO Am cm (movP W ⟨si, sj, sa, sr⟩)) (star (CellO g19 #[.int .i64 si, .int .i64 sj, .string (bs sa), .bool sr, .int .i64 0] 37) (star (PtsO (some ⟨ga, 0, none⟩) c (Q.map (ph h))) (star (LysO g11 zs) (star (CellO g5 #[.slice aA n1 ac, .slice aD n2 ad, .slice aE n3 ae, .int .i64 T.drop, .int .i64 T.ord, .int .i64 T.ini] 25) emp))))).Ok)
                  clear hR
                  have hmb := minR_bnd HG.out HS3.out k (by rw [← HML.out]; exact hk)
                  by_cases hkl : k < mv
                  · have hd6 : decide ((k : Int) < (mv : Int)) = true := decide_eq_true (by omega)
                    have hkm : k < (W.moves ⟨si, sj, sa, sr⟩).length := by rw [← HML.out]; exact hkl
                    have hkM : k < (movP W ⟨si, sj, sa, sr⟩).length := by rw [← HMV.out]; exact hkl
                    obtain ⟨gm, rfl⟩ : ∃ g, Am = some ⟨g, 0, none⟩ := by
                      obtain ⟨F, hF⟩ := HR.out.fst
                      exact row_addr hF (by rw [← HMV.out]; omega)
                    have hMS := minR_succ hkm
                    have hx : ∃ x : Int × St, (movP W ⟨si, sj, sa, sr⟩)[k] = toPt x ∧ minR W ⟨si, sj, sa, sr⟩ (k + 1) = min (minR W ⟨si, sj, sa, sr⟩ k) (x.1 + W.rd x.2) ∧ (0 ≤ x.1 ∧ x.1 ≤ 1000) ∧ (0 ≤ W.rd x.2 ∧ W.rd x.2 ≤ 1000000000) ∧ ∃ kq, ∃ hkq : kq < Q.length, Q[kq] = x.2 ∧ h Q[kq] = W.rd x.2 := by
                      obtain ⟨kq, hkq, e1, e2, e3⟩ := HTO2.out k hkm
                      exact ⟨_, mov_get k hkM hkm, hMS, good_cost HG.out (c := (W.moves ⟨si, sj, sa, sr⟩)[k].1) (s' := (W.moves ⟨si, sj, sa, sr⟩)[k].2) (List.getElem_mem hkm), rd_bnd HG.out e3, kq, hkq, e1, e2⟩
                    clear hMS hkm
                    obtain ⟨⟨xc', ⟨mi, mj, ma, mr⟩⟩, hMk, hmin, hxb, hrb, kq, hkq, e1, e2⟩ := hx
                    dsimp only at hmin hxb hrb e1 e2
                    have hkqQ : kq < (Q.map (ph h)).length := by rw [List.length_map]; exact hkq
                    have hgetq : (Q.map (ph h))[kq] = (⟨mi, mj, ma, mr, W.rd ⟨mi, mj, ma, mr⟩⟩ : Pt) := by
                      rw [List.getElem_map]
                      unfold ph
                      rw [e2, e1]
                    have hpl := ph_place (h := h) HP2.out.srt hkq (p := toPt (xc', ⟨mi, mj, ma, mr⟩)) (by rw [e1]; exact ⟨rfl, rfl, rfl, rfl⟩)
                    have HCG := hide (fun W' X (h2 : Run (fun _ => False) w (star (PtsO (some ⟨gm, 0, none⟩) cm (movP W ⟨si, sj, sa, sr⟩)) X) W') => (show W'.cell? ⟨gm, k * 5, none⟩ = some (.int .i64 mi) ∧ W'.cell? ⟨gm, k * 5 + 1, none⟩ = some (.int .i64 mj) ∧ W'.cell? ⟨gm, k * 5 + 2, none⟩ = some (.string (bs ma)) ∧ W'.cell? ⟨gm, k * 5 + 3, none⟩ = some (.bool mr) ∧ W'.cell? ⟨gm, k * 5 + 4, none⟩ = some (.int .i64 xc') from by
                      obtain ⟨F, hF⟩ := h2.fst
                      have := (pts_cell hF hkM).1
                      rw [hMk] at this
                      exact this))
                    have HCA := hide (fun W' X (h2 : Run (fun _ => False) w (star (PtsO (some ⟨ga, 0, none⟩) c (Q.map (ph h))) X) W') => (show W'.cell? ⟨ga, kq * 5 + 4, none⟩ = some (.int .i64 (W.rd ⟨mi, mj, ma, mr⟩)) from by
                      obtain ⟨F, hF⟩ := h2.fst
                      have := (pts_cell hF hkqQ).1
                      rw [hgetq] at this
                      exact this.2.2.2.2))
                    obtain ⟨e0, e1', e2', e3, e4⟩ := HCG.out _ _ HR.out
                    have KP := hide (show Calls Tryz.prog 37 #[.slice (some ⟨ga, 0, none⟩) Q.length c, .agg #[.int .i64 mi, .int .i64 mj, .string (bs ma), .bool mr, .int .i64 xc']] wr (BelowRet wr (.tuple #[.int .i64 (kq : Nat), .bool (isP (Q.map (ph h)) (toPt (xc', ⟨mi, mj, ma, mr⟩)))])) from by
                      have hA : PtsR wr (some ⟨ga, 0, none⟩) (Q.map (ph h)) := by
                        obtain ⟨F, hF⟩ := HR.out.drop.drop.fst
                        exact pts_of hF
                      have := rplace_any (c := c) hA (by rw [List.length_map]; omega) (ph_sorted HP2.out.srt) (toPt (xc', ⟨mi, mj, ma, mr⟩))
                      rw [hpl, List.length_map] at this
                      exact this)
                    generalize isP (Q.map (ph h)) (toPt (xc', ⟨mi, mj, ma, mr⟩)) = ib at *
                    have hkb : (k : Int) < (mv : Int) := by omega
                    have hkqb : (kq : Int) < (Q.length : Int) := by omega
                    have HK1 := hide (show k + 1 ≤ mv from hkl)
                    have HMIN := hide hmin
                    generalize hrd : W.rd ⟨mi, mj, ma, mr⟩ = rr at *
                    generalize hmr : minR W ⟨si, sj, sa, sr⟩ k = hh at *
                    clear hk hkl hkM hMk hmin hkq e1 e2 hkqQ hgetq hpl hrd hmr
                    go_wp2_with fail
                    refine KP.out.mono ?_
                    rintro e9 w5 ⟨rfl, hb⟩
                    have H5 := hide (HR.out.below okR.out hb)
                    clear KP HR hb e0 e1' e2' e3 e4
                    dsimp only
                    go_upto_region 32 with (fail)
                    have H6 := hide (H5.out.drew okR.out)
                    obtain ⟨-, -, -, -, e4⟩ := HCG.out _ _ H6.out
                    have f4 := HCA.out _ _ H6.out.drop.drop
                    refine wp_region_lex (fun W' : World => W'.cell? ⟨gm, k * 5 + 4, none⟩ = some (.int .i64 xc') ∧ W'.cell? ⟨ga, kq * 5 + 4, none⟩ = some (.int .i64 rr)) rfl (by kernel_rfl) ⟨e4, f4⟩ ?_
                    clear H5 e4 f4
                    generalize w5.drew = w6 at *
                    have tw1 : IntKind.i64.wrap (xc' + rr) = xc' + rr := IntWalk.i64_in _ (by omega)
                    have tw2 : wrap64 (xc' + rr) = xc' + rr := IntWalk.wrap64_in _ (by omega)
                    (repeat (first | (refine lex_skip (by rfl) ?_; try simp only [Act.put, List.setIfInBounds_toArray, List.set_cons_zero, List.set_cons_succ]) | (refine lex_read (v := ?_) (by rfl) ?_ ?_; rotate_left; (focus (intro w' hS'; go_simp; (try with_reducible rfl); done)); try simp only [Act.put, List.setIfInBounds_toArray, List.set_cons_zero, List.set_cons_succ])))
                    refine lex_nil ?_
                    by_cases hlt : xc' + rr < hh
                    · have hd7 : decide (xc' + rr < hh) = true := decide_eq_true hlt
                      have HM2 := hide (show minR W ⟨si, sj, sa, sr⟩ (k + 1) = xc' + rr by rw [HMIN.out]; omega)
                      go_upto_region 33 with (fail)
                      have H7 := hide (H6.out.drew okR.out)
                      obtain ⟨-, -, -, -, e4⟩ := HCG.out _ _ H7.out
                      have f4 := HCA.out _ _ H7.out.drop.drop
                      refine wp_region_lex (fun W' : World => W'.cell? ⟨gm, k * 5 + 4, none⟩ = some (.int .i64 xc') ∧ W'.cell? ⟨ga, kq * 5 + 4, none⟩ = some (.int .i64 rr)) rfl (by kernel_rfl) ⟨e4, f4⟩ ?_
                      clear H6 e4 f4
                      generalize w6.drew = w7 at *
                      (repeat (first | (refine lex_skip (by rfl) ?_; try simp only [Act.put, List.setIfInBounds_toArray, List.set_cons_zero, List.set_cons_succ]) | (refine lex_read (v := ?_) (by rfl) ?_ ?_; rotate_left; (focus (intro w' hS'; go_simp; (try with_reducible rfl); done)); try simp only [Act.put, List.setIfInBounds_toArray, List.set_cons_zero, List.set_cons_succ])))
                      refine lex_nil ?_
                      go_wp2_with fail
                      go_roundw
                      case rel => exact ⟨k + 1, by go_num, HK1.out, by rw [HM2.out], H7.out⟩
                      case measure => have := HK1.out; simp [intOf]; omega
                    · have hd7 : decide (xc' + rr < hh) = false := decide_eq_false hlt
                      have hge : hh ≤ xc' + rr := by omega
                      have HM2 := hide (show minR W ⟨si, sj, sa, sr⟩ (k + 1) = hh by rw [HMIN.out]; omega)
                      go_wp2_with fail
                      go_roundw
                      case rel => exact ⟨k + 1, by go_num, HK1.out, by rw [HM2.out], H6.out⟩
                      case measure => have := HK1.out; simp [intOf]; omega
                  · have hd6 : decide ((k : Int) < (mv : Int)) = false := decide_eq_false (by omega)
                    have hke : k = (W.moves ⟨si, sj, sa, sr⟩).length := by rw [← HML.out]; omega
                    have hmr : minR W ⟨si, sj, sa, sr⟩ k = W.rd ⟨si, sj, sa, sr⟩ := by rw [hke]; exact minR_all HG.out HS3.out
                    rw [hmr] at hmb ⊢
                    clear hke hmr hk
                    obtain ⟨hks, hs6⟩ := HKS.out
                    have hksQ : ks < (Q.map (ph h)).length := by rw [List.length_map]; exact hks
                    have hgs : (Q.map (ph h))[ks] = ph h ⟨si, sj, sa, sr⟩ := by rw [List.getElem_map, hs6]
                    have H1 := hide (HR.out.perm (by ac_rfl : _ = star (PtsO (some ⟨ga, 0, none⟩) c (Q.map (ph h))) (star (CellO g19 #[.int .i64 si, .int .i64 sj, .string (bs sa), .bool sr, .int .i64 0] 37) (star (PtsO Am cm (movP W ⟨si, sj, sa, sr⟩)) (star (LysO g11 zs) (star (CellO g5 #[.slice aA n1 ac, .slice aD n2 ad, .slice aE n3 ae, .int .i64 T.drop, .int .i64 T.ord, .int .i64 T.ini] 25) emp))))))
                    have okQ := hide (star_ok cell_ok (star_ok pts_ok (star_ok lys_ok okB.out)) : (star (CellO g19 #[.int .i64 si, .int .i64 sj, .string (bs sa), .bool sr, .int .i64 0] 37) (star (PtsO Am cm (movP W ⟨si, sj, sa, sr⟩)) (star (LysO g11 zs) (star (CellO g5 #[.slice aA n1 ac, .slice aD n2 ad, .slice aE n3 ae, .int .i64 T.drop, .int .i64 T.ord, .int .i64 T.ini] 25) emp)))).Ok)
                    have KP := hide (show Calls Tryz.prog 37 #[.slice (some ⟨ga, 0, none⟩) Q.length c, .agg #[.int .i64 si, .int .i64 sj, .string (bs sa), .bool sr, .int .i64 0]] wr (BelowRet wr (.tuple #[.int .i64 (ks : Nat), .bool (isP (Q.map (ph h)) (zp ⟨si, sj, sa, sr⟩))])) from by
                      have hA : PtsR wr (some ⟨ga, 0, none⟩) (Q.map (ph h)) := by
                        obtain ⟨F, hF⟩ := H1.out.fst
                        exact pts_of hF
                      have := rplace_any (c := c) hA (by rw [List.length_map]; omega) (ph_sorted HP2.out.srt) (zp ⟨si, sj, sa, sr⟩)
                      rw [ph_place (h := h) HP2.out.srt hks (p := zp ⟨si, sj, sa, sr⟩) (by rw [hs6]; exact ⟨rfl, rfl, rfl, rfl⟩), List.length_map] at this
                      exact this)
                    generalize isP (Q.map (ph h)) (zp ⟨si, sj, sa, sr⟩) = ib at *
                    have HCA := hide (fun W' X (h2 : Run (fun _ => False) w (star (PtsO (some ⟨ga, 0, none⟩) c (Q.map (ph h))) X) W') => (show (W'.cell? ⟨ga, ks * 5, none⟩ = some (.int .i64 si) ∧ W'.cell? ⟨ga, ks * 5 + 1, none⟩ = some (.int .i64 sj) ∧ W'.cell? ⟨ga, ks * 5 + 2, none⟩ = some (.string (bs sa)) ∧ W'.cell? ⟨ga, ks * 5 + 3, none⟩ = some (.bool sr) ∧ W'.cell? ⟨ga, ks * 5 + 4, none⟩ = some (.int .i64 (h ⟨si, sj, sa, sr⟩))) ∧ ∀ i, W'.frozen? ⟨ga, i, none⟩ = false from by
                      obtain ⟨F, hF⟩ := h2.fst
                      have := pts_cell hF hksQ
                      rw [hgs] at this
                      exact this))
                    have HST := hide (fun W' (h2 : Run (fun _ => False) w (star (PtsO (some ⟨ga, 0, none⟩) c (Q.map (ph h))) (star (CellO g19 #[.int .i64 si, .int .i64 sj, .string (bs sa), .bool sr, .int .i64 0] 37) (star (PtsO Am cm (movP W ⟨si, sj, sa, sr⟩)) (star (LysO g11 zs) (star (CellO g5 #[.slice aA n1 ac, .slice aD n2 ad, .slice aE n3 ae, .int .i64 T.drop, .int .i64 T.ord, .int .i64 T.ini] 25) emp))))) W') => (show Run (fun _ => False) w (star (PtsO (some ⟨ga, 0, none⟩) c (Q.map (ph (upH h ⟨si, sj, sa, sr⟩ (W.rd ⟨si, sj, sa, sr⟩))))) (star (CellO g19 #[.int .i64 si, .int .i64 sj, .string (bs sa), .bool sr, .int .i64 0] 37) (star (PtsO Am cm (movP W ⟨si, sj, sa, sr⟩)) (star (LysO g11 zs) (star (CellO g5 #[.slice aA n1 ac, .slice aD n2 ad, .slice aE n3 ae, .int .i64 T.drop, .int .i64 T.ord, .int .i64 T.ini] 25) emp))))) (W'.setCell ⟨ga, ks * 5 + 4, none⟩ (.int .i64 (W.rd ⟨si, sj, sa, sr⟩))) from by
                      have h3 := pts_seth okQ.out hksQ (W.rd ⟨si, sj, sa, sr⟩) h2
                      have e := ph_set (h := h) HP2.out.srt hks (W.rd ⟨si, sj, sa, sr⟩)
                      rw [hs6] at e
                      rw [hgs] at h3
                      rw [← e]
                      have e2 : ({ ph h ⟨si, sj, sa, sr⟩ with h := W.rd ⟨si, sj, sa, sr⟩ } : Pt) = ph (upH h ⟨si, sj, sa, sr⟩ (W.rd ⟨si, sj, sa, sr⟩)) ⟨si, sj, sa, sr⟩ := by
                        unfold ph
                        rw [upH_at]
                      rw [← e2]
                      exact h3))
                    obtain ⟨F9, hF9⟩ := H1.out.drop.fst
                    have c0 := cell_at (i := 0) hF9 rfl
                    have c1 := cell_at (i := 1) hF9 rfl
                    have c2 := cell_at (i := 2) hF9 rfl
                    have c3 := cell_at (i := 3) hF9 rfl
                    have c4 := cell_at (i := 4) hF9 rfl
                    have hksb : (ks : Int) < (Q.length : Int) := by omega
                    generalize W.rd ⟨si, sj, sa, sr⟩ = rr at *
                    clear hF9 F9 hs6 hks hksQ hgs HR
                    go_wp2_with fail
                    refine KP.out.mono ?_
                    rintro e9 w5 ⟨rfl, hb⟩
                    have H5 := hide (H1.out.below (star_ok pts_ok okQ.out) hb)
                    clear KP H1 hb c0 c1 c2 c3 c4
                    dsimp only
                    obtain ⟨⟨f0, f1, f2, f3, f4⟩, ff⟩ := HCA.out _ _ H5.out
                    have H6 := hide (HST.out _ H5.out)
                    clear H5 HST HCA
                    go_upto_region 22 with (fail)
                    generalize w5.setCell ⟨ga, ks * 5 + 4, none⟩ (.int .i64 rr) = w6 at *
                    clear f0 f1 f2 f3 f4 ff
                    go_wp2_with fail
                    go_roundw
                    case rel => exact ⟨i + 1, _, by go_num, HI1.out, HS5.out, (H6.out.perm (by ac_rfl : _ = star (CellO g19 #[.int .i64 si, .int .i64 sj, .string (bs sa), .bool sr, .int .i64 0] 37) (star (PtsO Am cm (movP W ⟨si, sj, sa, sr⟩)) (star (PtsO (some ⟨ga, 0, none⟩) c (Q.map (ph (upH h ⟨si, sj, sa, sr⟩ rr)))) (star (LysO g11 zs) (star (CellO g5 #[.slice aA n1 ac, .slice aD n2 ad, .slice aE n3 ae, .int .i64 T.drop, .int .i64 T.ord, .int .i64 T.ini] 25) emp)))))).drop.drop⟩
                    case measure => have := HI1.out; simp [intOf]; omega
            · have hd5 : decide ((i : Int) < (Z.l.length : Int)) = false := decide_eq_false (by omega)
              have HE := hide (HEN.out h i (by omega) hH)
              clear hR hH
              go_wp2_with fail
              go_roundw
              case rel => exact ⟨n, h, by go_num, HN1.out, HE.out, HR.out⟩
              case measure => first | (simp [intOf]; omega) | simp [intOf]
end Go.Proofs.YtnppgomhhcbplaaGreatDoor
