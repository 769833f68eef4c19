/-
  Potential: Check: the walk.
  Potential: the chapter's table.
-/
import Derived.Test.YtnppgomhhcbplaaGreatDoorPO16
import Derived.Test.YtnppgomhhcbplaaGreatDoorPO15
import Derived.Test.YtnppgomhhcbplaaGreatDoorPO8
import Derived.Test.YtnppgomhhcbplaaGreatDoorPO6
import Derived.Test.YtnppgomhhcbplaaGreatDoorPO7
set_option linter.unusedSimpArgs false
set_option linter.unusedVariables false
namespace Go.Proofs.YtnppgomhhcbplaaGreatDoor
open Go.RowKit Go.CH Go.CH.Scr Go.CH.Pot
open Go.ChangeMaps (setBlock)
attribute [local go_sem] Oper.semAt_some
theorem src_mod {F0 : Nat → Prop} {w W : World} {A : Option Addr} {n size : Nat} {xs : List Value} (h : Src w A n size xs) (hm : Mod F0 w W) (hn : ∀ ad : Addr, A = some ad → 0 < n → ¬ F0 ad.block) : Src W A n size xs := by
  refine ⟨h.1, h.2.1, fun h0 => ?_⟩
  obtain ⟨ad, e, hc⟩ := h.2.2 h0
  refine ⟨ad, e, fun j u hu => ?_⟩
  have h1 := hc j u hu
  rw [hm.cell (World.block_lt_of_cell? _ _ h1) (by rw [Addr.add_block]; exact hn ad e h0)]
  exact h1
theorem src_in {w : World} {A : Option Addr} {n size : Nat} {xs : List Value} (h : Src w A n size xs) (hs : 0 < size) : ∀ ad : Addr, A = some ad → 0 < n → ad.block < w.heap.size := by
  intro ad e h0
  obtain ⟨ad', e', hc⟩ := h.2.2 h0
  rw [e] at e'
  injection e' with e'
  subst e'
  have hl : 0 < xs.length := by rw [h.1]; exact Nat.mul_pos h0 hs
  have h1 := World.block_lt_of_cell? _ _ (hc 0 xs[0] (List.getElem?_eq_getElem hl))
  rwa [Addr.add_block] at h1
theorem run_loadVar_bool {P : Program} (w : World) (g : Nat) (ty : TypeId) (b : Bool) (hg : w.cell? ⟨g, 0, none⟩ = some (.bool b)) (hu : P.underlying ty = some .bool) :
    (loadVar ty ⟨g, 0, none⟩).run P w = .ok (.bool b) w := by
  unfold loadVar
  simp [isAgg, run_underlying hu, Sem.run_bind, hg]
theorem res_chk {tmps : Array Value} {w : World} {g : Nat} {b : Bool} (h : tmps.getD 14 undef = .pointer (some ⟨g, 0, none⟩)) (hc : w.cell? ⟨g, 0, none⟩ = some (.bool b)) : (results Tryz.f17 tmps).run Tryz.prog w = .ok (.bool b) w := by
  have h' : tmps[14]?.getD undef = .pointer (some ⟨g, 0, none⟩) := by simpa using h
  have r := run_loadVar_bool (P := Tryz.prog) w g 4 b hc Tryz.underlying4
  simp only [results, Tryz.results17]
  simp [Sem.run_bind, Result.andThen, h', asAddr, r]
theorem bel_mod {w w1 W : World} {F : Nat → Prop} (hb : Below w.heap.size w w1) (hm : Mod F w1 W) (hF : ∀ i, i < w.heap.size → ¬ F i) : Below w.heap.size w W :=
  ⟨hm.os.trans hb.os, hm.tape.trans hb.tape, hm.output.trans hb.output, Nat.le_trans hb.size hm.size, fun k hk => (hm.block k (Nat.lt_of_lt_of_le hk hb.size) (hF k hk)).trans (hb.block k hk)⟩
/-- What Check owns. -/
def ChO (W : Wd) (pa : PA) (bm gm gp gr : Nat) (L : List (St × Int)) : CH.Own := star (StM bm L) (star (CellO gm #[.map (some bm)] 67) (star (CellO gp (pairC W pa) 64) (CellO gr #[.bool false] 4)))
theorem cho_ok {W : Wd} {pa : PA} {bm gm gp gr : Nat} {L : List (St × Int)} : (ChO W pa bm gm gp gr L).Ok := star_ok stm_ok (star_ok cell_ok (star_ok cell_ok cell_ok))
theorem cho_end {F : Nat → Prop} {w w1 W' : World} {W : Wd} {pa : PA} {bm gm gp gr : Nat} {L : List (St × Int)} {A : CH.Own} (hb : Below w.heap.size w w1) (hF : ∀ i, i < w.heap.size → ¬ F i) (hA : A.Ok) (h : Run F w1 (star A (ChO W pa bm gm gp gr L)) W') :
    W'.cell? ⟨gr, 0, none⟩ = some (.bool false) ∧ W'.frozen? ⟨gr, 0, none⟩ = false ∧ ∀ v : Bool, (W'.setCell ⟨gr, 0, none⟩ (.bool v)).cell? ⟨gr, 0, none⟩ = some (.bool v) ∧ Below w.heap.size w (W'.setCell ⟨gr, 0, none⟩ (.bool v)) := by
  have h2 := h.perm (by unfold ChO; ac_rfl : _ = star (CellO gr #[.bool false] 4) (star A (star (StM bm L) (star (CellO gm #[.map (some bm)] 67) (CellO gp (pairC W pa) 64)))))
  have okR : (star A (star (StM bm L) (star (CellO gm #[.map (some bm)] 67) (CellO gp (pairC W pa) 64)))).Ok := star_ok hA (star_ok stm_ok (star_ok cell_ok cell_ok))
  obtain ⟨f, hf⟩ := h2.fst
  refine ⟨cell_at hf rfl, cell_free hf 0, fun v => ?_⟩
  have h3 := run_setc h2 okR 0 (.bool v)
  obtain ⟨f3, hf3⟩ := h3.fst
  exact ⟨cell_at (i := 0) hf3 rfl, bel_mod hb h3.mod hF⟩
theorem st_put {W : Wd} {bound : Int} {C : List Pt} {n bm : Nat} {w : World} {F : Nat → Prop} (h : StM bm (hts (C.take n)) w F) (hn : n < C.length) (hs : seenP W bound C (n + 1)) :
    ∃ w', (Instr.mapUpdate 67 (.map (some bm)) (.agg #[.int .i64 C[n].i, .int .i64 C[n].j, .string (bs C[n].a), .bool C[n].r]) (.int .i64 C[n].h)).run Tryz.prog w = .ok () w' ∧ Post w F (StM bm (hts (C.take (n + 1)))) w' := by
  obtain ⟨w', h1, h2⟩ := mapO_put keyOk_st Tryz.underlying67 h C[n].st (.int .i64 C[n].h)
  have hp : proper W bound C[n] = true := hs.1 _ (by rw [List.take_succ_eq_append_getElem hn]; exact List.mem_append_right _ (List.mem_singleton.2 rfl))
  have h0 := proper_pos hp
  have e : stV C[n].st = .agg #[.int .i64 C[n].i, .int .i64 C[n].j, .string (bs C[n].a), .bool C[n].r] := by
    unfold stV stC Pt.st
    simp only [Int.toNat_of_nonneg h0.1, Int.toNat_of_nonneg h0.2]
  rw [e] at h1
  refine ⟨w', h1, ?_⟩
  have e2 : mput ((hts (C.take n)).map fun p => (p.1, Value.int .i64 p.2)) C[n].st (.int .i64 C[n].h) = (hts (C.take (n + 1))).map fun p => (p.1, Value.int .i64 p.2) := by
    rw [mput_new_ (by rw [List.map_map]; exact hts_new hn hs), hts_snoc hn, List.map_append]; rfl
  rw [e2] at h2
  exact h2
set_option maxHeartbeats 6400000 in
set_option maxRecDepth 100000 in
theorem check_any {w : World} {T : Tab} {a : TA} (hT : TabR w T a) (hz : LZ w) (k : Int) (x : Bs) (k2 : Int) (y : Bs) (bound : Int) (hx : x.length ≤ 1000000) (hy : y.length ≤ 1000000)
    {B : Option Addr} {c : Nat} {C : List Pt} (hC : PtsR w B C) (hl : C.length ≤ 1000000) (hs : ∀ p ∈ C, p.a.length ≤ 1000000) :
    Calls Tryz.prog 17 #[tabV T a, .int .i64 k, .string (bs x), .int .i64 k2, .string (bs y), .int .i64 bound, .slice B C.length c] w (CheckRet w T k x k2 y bound C) := by
  have HT := hide hT
  have HZ := hide hz
  have HC := hide hC
  have HL := hide hl
  have HSZ := hide hs
  have h1 : Run (fun _ => False) w (star (CellO w.heap.size (tabC T a) 25) emp) _ := run_new (Run.begin w) emp_ok (tabC T a) 25
  have h2 := run_new h1 (star_ok cell_ok emp_ok) #[.bool false] 4
  simp only [World.size_alloc] at h2
  have HB1 := hide (h2.mod.below (fun _ _ h => h))
  have KO := hide (of_any (hT.below HB1.out) (hz.below HB1.out) k x k2 y hx hy)
  have H2 := hide h2
  obtain ⟨N, hN⟩ : ∃ N, N = C.length := ⟨_, rfl⟩
  rw [← hN]
  have HN := hide hN
  clear hT hz hC hl hs h1 h2 hN
  unfold tabV at KO ⊢
  unfold tabC at KO H2 HB1 ⊢
  unfold OfRet at KO
  refine (callsIn_wide (n := 8)).1 ?_
  refine callsIn_of_wp_marks Tryz.func17 rfl trivial ?_ rfl
  simp only [Tryz.ntmps17, List.size_toArray, List.length_cons, List.length_nil, Nat.reduceAdd, Nat.reduceSub, Array.replicate_succ, Array.replicate_zero, List.push_toArray, List.append_toArray, List.nil_append, List.cons_append]
  refine (wpIn_wide (n := 8)).2 ?_
  go_wp2_with fail
  refine KO.out.mono ?_
  rintro e9 w1 ⟨pa, rfl, hb, hP, hS, hA0, hL1, hL2⟩
  simp only [World.size_alloc] at hL1 hL2
  have H3 := hide (H2.out.below (star_ok cell_ok (star_ok cell_ok emp_ok)) hb)
  have HB2 := hide (HB1.out.trans (hb.mono HB1.out.size))
  have HP := hide hP
  have HS := hide hS
  have HA0 := hide hA0
  have HL1 := hide hL1
  have HL2 := hide hL2
  clear KO H2 HB1 hb hP hS hA0 hL1 hL2
  unfold pairV
  dsimp only
  obtain ⟨W, hW⟩ : ∃ W, W = ofW T k x k2 y := ⟨_, rfl⟩
  rw [← hW] at HP HS ⊢
  have HW := hide hW
  clear hW
  cases hok : okW T k x k2 y with
  | false =>
    have HF := hide (show false = true ↔ CheckP T k x k2 y bound C from ⟨fun h => (by cases h), fun h => (by rw [h.1] at hok; cases hok)⟩)
    have H4 := hide (run_new H3.out (star_ok cell_ok (star_ok cell_ok emp_ok)) (pairC W pa) 64)
    obtain ⟨FR, hFR⟩ := H4.out.drop.fst
    have r0 := cell_at (i := 0) hFR rfl
    have rf := cell_free hFR 0
    have H5 := hide (run_setc H4.out.rot (star_ok cell_ok (star_ok cell_ok emp_ok)) 0 (.bool false))
    obtain ⟨FR5, hFR5⟩ := H5.out.fst
    have r5 := cell_at (i := 0) hFR5 rfl
    have HBF := hide (H5.out.mod.below (fun _ _ h => h))
    clear hok hFR hFR5 H3 H4 H5
    unfold pairC
    unfold pairC at r0 rf r5 HBF
    go_wp2
    refine ⟨_, res_chk rfl r5, ?_⟩
    exact ⟨false, rfl, HF.out, HBF.out⟩
  | true =>
    have HOK := hide hok
    have HWe := hide (show W = wdOf T k x k2 y from HW.out.trans (ofW_ok hok))
    clear hok
    obtain ⟨F, hF⟩ := H3.out.fst
    have hgr : w.heap.size + 1 < w1.heap.size := by rw [← (hF.2 _).1 ((hF.2 _).2 rfl)]; exact cell_ok.lt hF _ ((hF.2 _).2 rfl)
    have HFI := hide (show ∀ i, i < w.heap.size → ¬ F i from fun i hi hf => by have := (hF.2 i).1 hf; omega)
    have hE : ∀ W', Mod F w1 W' → PairR W pa W' := fun W' hm => by
      have hp := HP.out
      refine ⟨src_mod hp.rs hm (fun ad e h0 hf => ?_), src_mod hp.l hm (fun ad e h0 hf => ?_), src_mod hp.m hm (fun ad e h0 hf => ?_)⟩
      · have h3 : W.rs = T.rs := by rw [HW.out]; rfl
        have h1 := src_in HT.out.rs (by omega) ad (HA0.out.symm.trans e) (by rw [← h3]; exact h0)
        have h2 := (hF.2 _).1 hf
        omega
      · have h1 := HL1.out ad e; have h2 := (hF.2 _).1 hf; omega
      · have h1 := HL2.out ad e; have h2 := (hF.2 _).1 hf; omega
    have HE := hide hE
    have h4 := run_new (Run.start hF).one (star_ok cell_ok emp_ok) (pairC W pa) 64
    have h5 := h4.fresh (star_ok cell_ok (star_ok cell_ok emp_ok)) (map_new (kv := stV) _)
    have h6 := run_new h5 (star_ok map_ok (star_ok cell_ok (star_ok cell_ok emp_ok))) #[.map (some (w1.heap.size + 1))] 67
    simp only [World.size_alloc] at h5 h6
    have H6 := hide (show Run F w1 (ChO W pa (w1.heap.size + 1) (w1.heap.size + 1 + 1) w1.heap.size (w.heap.size + 1) (hts (C.take 0))) _ from (h6.perm (by unfold ChO; rw [star_emp_eq]; unfold StM; ac_rfl)))
    have hmk : ∀ w : World, (Instr.makeMap 67 none).run Tryz.prog w = .ok (.map (some w.heap.size)) (w.alloc (.map #[] 0)) := fun w => by kernel_rfl
    clear hE h4 h5 h6 H3 hF
    unfold pairC at H6 ⊢
    go_wp2_with fail
    generalize ((w1.alloc (.cells #[.slice pa.A W.rs.length pa.c, .int .i64 W.ka, .int .i64 W.kb, .slice pa.L W.l.length pa.lc, .slice pa.M W.m.length pa.mc, .int .i64 W.l.length, .int .i64 W.m.length, .string (bs []), .bool false] 64)).alloc (.map #[] 0)).alloc (.cells #[.map (some (w1.heap.size + 1))] 67) = w2 at *
    generalize w1.heap.size + 1 = bm at *
    generalize bm + 1 = gm at *
    generalize w.heap.size + 1 = gr at *
    generalize w1.heap.size = gp at *
    clear hmk
    have HBW := hide (fun W' O (h : Run F w1 O W') => bel_mod HB2.out h.mod HFI.out)
    go_loopw [38] (fun i wr => ∃ n : Nat, n ≤ N ∧ i = .int .i64 n ∧ seenP W bound C n ∧ Run F w1 (ChO W pa bm gm gp gr (hts (C.take n))) wr) (fun i _ => N - (intOf i).toNat)
    case atStart => exact ⟨0, Nat.zero_le _, rfl, seen_zero, H6.out⟩
    case round =>
      clear H6
      obtain ⟨n, hn, rfl, hsn, hR⟩ := hrel
      have HSN := hide hsn
      have HR := hide hR
      clear hsn hR
      by_cases hlt : n < N
      · have hnc : n < C.length := by rw [← HN.out]; exact hlt
        have HLT := hide hlt
        have hnb : (n : Int) < 1000000 := by have := HL.out; omega
        obtain ⟨b, o, rfl, hc⟩ := PtsR.at HC.out (by omega)
        have HCE := hide (fun W' (hb : Below w.heap.size w W') => hc W' hb)
        obtain ⟨r0, r1, r2, r3, r4⟩ := hc wr (HBW.out _ _ HR.out) n hnc
        have H7 := hide (run_new HR.out cho_ok #[.int .i64 C[n].i, .int .i64 C[n].j, .string (bs C[n].a), .bool C[n].r, .int .i64 C[n].h] 37)
        clear hc
        go_wp2_with fail
        generalize hw3 : wr.alloc (.cells #[.int .i64 C[n].i, .int .i64 C[n].j, .string (bs C[n].a), .bool C[n].r, .int .i64 C[n].h] 37) = w3 at *
        generalize wr.heap.size = gx at *
        clear hw3 r0 r1 r2 r3 r4
        have hSS : ∀ W', Run F w1 (star (CellO gx #[.int .i64 C[n].i, .int .i64 C[n].j, .string (bs C[n].a), .bool C[n].r, .int .i64 C[n].h] 37) (ChO W pa bm gm gp gr (hts (C.take n)))) W' → (fun w' : World => w'.cell? ⟨gp, 0, none⟩ = some (.slice pa.A W.rs.length pa.c) ∧ w'.cell? ⟨gp, 1, none⟩ = some (.int .i64 W.ka) ∧ w'.cell? ⟨gp, 2, none⟩ = some (.int .i64 W.kb) ∧ w'.cell? ⟨gp, 3, none⟩ = some (.slice pa.L W.l.length pa.lc) ∧ w'.cell? ⟨gp, 4, none⟩ = some (.slice pa.M W.m.length pa.mc) ∧ w'.cell? ⟨gp, 5, none⟩ = some (.int .i64 W.l.length) ∧ w'.cell? ⟨gp, 6, none⟩ = some (.int .i64 W.m.length) ∧ w'.cell? ⟨gp, 7, none⟩ = some (.string (bs [])) ∧ w'.cell? ⟨gp, 8, none⟩ = some (.bool false) ∧ w'.cell? ⟨gx, 0, none⟩ = some (.int .i64 C[n].i) ∧ w'.cell? ⟨gx, 1, none⟩ = some (.int .i64 C[n].j) ∧ w'.cell? ⟨gx, 2, none⟩ = some (.string (bs C[n].a)) ∧ w'.cell? ⟨gx, 3, none⟩ = some (.bool C[n].r) ∧ w'.cell? ⟨gx, 4, none⟩ = some (.int .i64 C[n].h)) W' := fun W' h => by
          obtain ⟨f1, hf1⟩ := h.fst
          obtain ⟨f2, hf2⟩ := (h.drop.drop.drop).fst
          exact ⟨cell_at hf2 rfl, cell_at hf2 rfl, cell_at hf2 rfl, cell_at hf2 rfl, cell_at hf2 rfl, cell_at hf2 rfl, cell_at hf2 rfl, cell_at hf2 rfl, cell_at hf2 rfl, cell_at hf1 rfl, cell_at hf1 rfl, cell_at hf1 rfl, cell_at hf1 rfl, cell_at hf1 rfl⟩
        have HSS := hide hSS
        have OKX := hide (star_ok (cell_ok (g := gx) (cs := #[.int .i64 C[n].i, .int .i64 C[n].j, .string (bs C[n].a), .bool C[n].r, .int .i64 C[n].h]) (t := 37)) (cho_ok (W := W) (pa := pa) (bm := bm) (gm := gm) (gp := gp) (gr := gr) (L := hts (C.take n))))
        have H8 := hide (H7.out.drew OKX.out)
        have KP := hide (fun W' => proper_any (W := W) (pa := pa) (bound := bound) (p := C[n]) W' (HSZ.out _ (List.getElem_mem hnc)) HS.out.l HS.out.m)
        unfold pairV pairC ptV at KP
        have HF1 := hide (fun h => seen_no1 (W := W) (bound := bound) hnc h)
        clear hSS H7
        cases hpr : proper W bound C[n] with
        | false =>
          have HF := hide (show (false = true) ↔ CheckP T k x k2 y bound C from ⟨fun h => (by cases h), fun h => (HF1.out hpr (by rw [HWe.out]; exact h.2)).elim⟩)
          simp only [hpr] at KP
          have hS0 := HSS.out _ H8.out
          refine wp_region_lex (fun w' : World => w'.cell? ⟨gp, 0, none⟩ = some (.slice pa.A W.rs.length pa.c) ∧ w'.cell? ⟨gp, 1, none⟩ = some (.int .i64 W.ka) ∧ w'.cell? ⟨gp, 2, none⟩ = some (.int .i64 W.kb) ∧ w'.cell? ⟨gp, 3, none⟩ = some (.slice pa.L W.l.length pa.lc) ∧ w'.cell? ⟨gp, 4, none⟩ = some (.slice pa.M W.m.length pa.mc) ∧ w'.cell? ⟨gp, 5, none⟩ = some (.int .i64 W.l.length) ∧ w'.cell? ⟨gp, 6, none⟩ = some (.int .i64 W.m.length) ∧ w'.cell? ⟨gp, 7, none⟩ = some (.string (bs [])) ∧ w'.cell? ⟨gp, 8, none⟩ = some (.bool false) ∧ w'.cell? ⟨gx, 0, none⟩ = some (.int .i64 C[n].i) ∧ w'.cell? ⟨gx, 1, none⟩ = some (.int .i64 C[n].j) ∧ w'.cell? ⟨gx, 2, none⟩ = some (.string (bs C[n].a)) ∧ w'.cell? ⟨gx, 3, none⟩ = some (.bool C[n].r) ∧ w'.cell? ⟨gx, 4, none⟩ = some (.int .i64 C[n].h)) rfl (by kernel_rfl) hS0 ?_
          clear hS0
          generalize w3.drew = w4 at *
          (repeat (first | (refine lex_skip (by rfl) ?_; try simp only [Act.put, List.setIfInBounds_toArray, List.set_cons_zero, List.set_cons_succ]) | (refine lex_read (v := ?_) (by rfl) ?_ ?_; rotate_left; (focus (intro w' hS'; go_simp; (try with_reducible rfl); done)); try simp only [Act.put, List.setIfInBounds_toArray, List.set_cons_zero, List.set_cons_succ])))
          refine lex_chain rfl (by rfl) (fun K hK => ?_)
          go_wp2_with fail
          refine (KP.out _).mono ?_
          rintro e9 w5 ⟨rfl, hb⟩
          have H9 := hide (H8.out.below OKX.out hb)
          clear KP H8 hb
          dsimp only
          refine hK.out _ _ (HSS.out _ H9.out) ?_
          clear hK
          (repeat (first | (refine lex_skip (by rfl) ?_; try simp only [Act.put, List.setIfInBounds_toArray, List.set_cons_zero, List.set_cons_succ]) | (refine lex_read (v := ?_) (by rfl) ?_ ?_; rotate_left; (focus (intro w' hS'; go_simp; (try with_reducible rfl); done)); try simp only [Act.put, List.setIfInBounds_toArray, List.set_cons_zero, List.set_cons_succ])))
          refine lex_nil ?_
          obtain ⟨q0, q1, q2⟩ := cho_end HB2.out HFI.out cell_ok H9.out
          have Q2 := hide (q2 false)
          have q3 := Q2.out.1
          clear q2
          go_wp2
          refine ⟨_, res_chk rfl q3, ?_⟩
          exact ⟨false, rfl, HF.out, Q2.out.2⟩
        | true =>
          have HF2 := hide (fun h0 h => seen_no2 (W := W) (bound := bound) hnc h0 h)
          have HF3 := hide (fun h => seen_succ hnc HSN.out hpr h)
          simp only [hpr] at KP
          by_cases hn0 : n = 0
          · have t0 : decide ((0 : Int) < (n : Int)) = false := decide_eq_false (by omega)
            have t0' : decide (0 < n) = false := decide_eq_false (by omega)
            have HSN2 := hide (HF3.out (fun h => absurd hn0 (by omega)))
            clear hn0 HF2 HF3 HF1 hpr
            have hS0 := HSS.out _ H8.out
            refine wp_region_lex (fun w' : World => w'.cell? ⟨gp, 0, none⟩ = some (.slice pa.A W.rs.length pa.c) ∧ w'.cell? ⟨gp, 1, none⟩ = some (.int .i64 W.ka) ∧ w'.cell? ⟨gp, 2, none⟩ = some (.int .i64 W.kb) ∧ w'.cell? ⟨gp, 3, none⟩ = some (.slice pa.L W.l.length pa.lc) ∧ w'.cell? ⟨gp, 4, none⟩ = some (.slice pa.M W.m.length pa.mc) ∧ w'.cell? ⟨gp, 5, none⟩ = some (.int .i64 W.l.length) ∧ w'.cell? ⟨gp, 6, none⟩ = some (.int .i64 W.m.length) ∧ w'.cell? ⟨gp, 7, none⟩ = some (.string (bs [])) ∧ w'.cell? ⟨gp, 8, none⟩ = some (.bool false) ∧ w'.cell? ⟨gx, 0, none⟩ = some (.int .i64 C[n].i) ∧ w'.cell? ⟨gx, 1, none⟩ = some (.int .i64 C[n].j) ∧ w'.cell? ⟨gx, 2, none⟩ = some (.string (bs C[n].a)) ∧ w'.cell? ⟨gx, 3, none⟩ = some (.bool C[n].r) ∧ w'.cell? ⟨gx, 4, none⟩ = some (.int .i64 C[n].h)) rfl (by kernel_rfl) hS0 ?_
            clear hS0
            generalize w3.drew = w4 at *
            (repeat (first | (refine lex_skip (by rfl) ?_; try simp only [Act.put, List.setIfInBounds_toArray, List.set_cons_zero, List.set_cons_succ]) | (refine lex_read (v := ?_) (by rfl) ?_ ?_; rotate_left; (focus (intro w' hS'; go_simp; (try with_reducible rfl); done)); try simp only [Act.put, List.setIfInBounds_toArray, List.set_cons_zero, List.set_cons_succ])))
            refine lex_chain rfl (by rfl) (fun K hK => ?_)
            go_wp2_with fail
            refine (KP.out _).mono ?_
            rintro e9 w5 ⟨rfl, hb⟩
            have H9 := hide (H8.out.below OKX.out hb)
            clear KP H8 hb
            dsimp only
            refine hK.out _ _ (HSS.out _ H9.out) ?_
            clear hK
            (repeat (first | (refine lex_skip (by rfl) ?_; try simp only [Act.put, List.setIfInBounds_toArray, List.set_cons_zero, List.set_cons_succ]) | (refine lex_read (v := ?_) (by rfl) ?_ ?_; rotate_left; (focus (intro w' hS'; go_simp; (try with_reducible rfl); done)); try simp only [Act.put, List.setIfInBounds_toArray, List.set_cons_zero, List.set_cons_succ])))
            refine lex_nil ?_
            obtain ⟨f1, hf1⟩ := H9.out.fst
            have x0 := cell_at (i := 0) hf1 rfl
            have x1 := cell_at (i := 1) hf1 rfl
            have x2 := cell_at (i := 2) hf1 rfl
            have x3 := cell_at (i := 3) hf1 rfl
            have x4 := cell_at (i := 4) hf1 rfl
            obtain ⟨f2, hf2⟩ := (H9.out.drop.drop).fst
            have m0 := cell_at (i := 0) hf2 rfl
            have okZ : (star (CellO gm #[.map (some bm)] 67) (star (CellO gp (pairC W pa) 64) (CellO gr #[.bool false] 4))).Ok := star_ok cell_ok (star_ok cell_ok cell_ok)
            obtain ⟨f3, hf3, -, bk⟩ := (H9.out.drop : Run F w1 (star (StM bm (hts (C.take n))) (star (CellO gm #[.map (some bm)] 67) (star (CellO gp (pairC W pa) 64) (CellO gr #[.bool false] 4)))) w5).take stm_ok okZ
            obtain ⟨w8, hup, hpost⟩ := st_put hf3 hnc HSN2.out
            have HZ8 := hide (show Run F w1 (ChO W pa bm gm gp gr (hts (C.take (n + 1)))) w8 from bk _ _ hpost)
            clear hf1 hf2 hf3 bk hpost okZ H9
            go_wp2
            go_roundw
            case rel => exact ⟨n + 1, HLT.out, by go_num, HSN2.out, HZ8.out⟩
            case measure => have := HLT.out; simp [intOf]; omega
          · obtain ⟨m, rfl⟩ : ∃ m, n = m + 1 := ⟨n - 1, by omega⟩
            have hmc : m < C.length := by omega
            have t0 : decide ((0 : Int) < ((m + 1 : Nat) : Int)) = true := decide_eq_true (by omega)
            have t0' : decide (0 < m + 1) = true := decide_eq_true (by omega)
            have t1 : IntKind.i64.wrap (((m + 1 : Nat) : Int) - 1) = (m : Int) := by rw [IntWalk.i64_in _ (by omega)]; omega
            have t1' : IntKind.i64.wrap (m : Int) = (m : Int) := IntWalk.i64_in _ (by omega)
            have hmN' : (m : Int) < (N : Int) := by omega
            have KM := hide (fun W' => compare_any C[m] C[m + 1] W')
            unfold ptV at KM
            have hmN : m < N := by omega
            have HSM := hide (fun W' (h : (fun w' : World => w'.cell? ⟨gp, 0, none⟩ = some (.slice pa.A W.rs.length pa.c) ∧ w'.cell? ⟨gp, 1, none⟩ = some (.int .i64 W.ka) ∧ w'.cell? ⟨gp, 2, none⟩ = some (.int .i64 W.kb) ∧ w'.cell? ⟨gp, 3, none⟩ = some (.slice pa.L W.l.length pa.lc) ∧ w'.cell? ⟨gp, 4, none⟩ = some (.slice pa.M W.m.length pa.mc) ∧ w'.cell? ⟨gp, 5, none⟩ = some (.int .i64 W.l.length) ∧ w'.cell? ⟨gp, 6, none⟩ = some (.int .i64 W.m.length) ∧ w'.cell? ⟨gp, 7, none⟩ = some (.string (bs [])) ∧ w'.cell? ⟨gp, 8, none⟩ = some (.bool false) ∧ w'.cell? ⟨gx, 0, none⟩ = some (.int .i64 C[m + 1].i) ∧ w'.cell? ⟨gx, 1, none⟩ = some (.int .i64 C[m + 1].j) ∧ w'.cell? ⟨gx, 2, none⟩ = some (.string (bs C[m + 1].a)) ∧ w'.cell? ⟨gx, 3, none⟩ = some (.bool C[m + 1].r) ∧ w'.cell? ⟨gx, 4, none⟩ = some (.int .i64 C[m + 1].h)) W') (hb : Below w.heap.size w W') => (show (fun w' : World => w'.cell? ⟨gp, 0, none⟩ = some (.slice pa.A W.rs.length pa.c) ∧ w'.cell? ⟨gp, 1, none⟩ = some (.int .i64 W.ka) ∧ w'.cell? ⟨gp, 2, none⟩ = some (.int .i64 W.kb) ∧ w'.cell? ⟨gp, 3, none⟩ = some (.slice pa.L W.l.length pa.lc) ∧ w'.cell? ⟨gp, 4, none⟩ = some (.slice pa.M W.m.length pa.mc) ∧ w'.cell? ⟨gp, 5, none⟩ = some (.int .i64 W.l.length) ∧ w'.cell? ⟨gp, 6, none⟩ = some (.int .i64 W.m.length) ∧ w'.cell? ⟨gp, 7, none⟩ = some (.string (bs [])) ∧ w'.cell? ⟨gp, 8, none⟩ = some (.bool false) ∧ w'.cell? ⟨gx, 0, none⟩ = some (.int .i64 C[m + 1].i) ∧ w'.cell? ⟨gx, 1, none⟩ = some (.int .i64 C[m + 1].j) ∧ w'.cell? ⟨gx, 2, none⟩ = some (.string (bs C[m + 1].a)) ∧ w'.cell? ⟨gx, 3, none⟩ = some (.bool C[m + 1].r) ∧ w'.cell? ⟨gx, 4, none⟩ = some (.int .i64 C[m + 1].h) ∧ w'.cell? ⟨b, o + m * 5, none⟩ = some (.int .i64 C[m].i) ∧ w'.cell? ⟨b, o + m * 5 + 1, none⟩ = some (.int .i64 C[m].j) ∧ w'.cell? ⟨b, o + m * 5 + 2, none⟩ = some (.string (bs C[m].a)) ∧ w'.cell? ⟨b, o + m * 5 + 3, none⟩ = some (.bool C[m].r) ∧ w'.cell? ⟨b, o + m * 5 + 4, none⟩ = some (.int .i64 C[m].h)) W' from by
              obtain ⟨a0, a1, a2, a3, a4⟩ := HCE.out W' hb m hmc
              obtain ⟨h0, h1, h2, h3, h4, h5, h6, h7, h8, h9, h10, h11, h12, h13⟩ := h
              exact ⟨h0, h1, h2, h3, h4, h5, h6, h7, h8, h9, h10, h11, h12, h13, a0, a1, a2, a3, a4⟩))
            clear hn0
            have hS0 := HSM.out _ (HSS.out _ H8.out) (HBW.out _ _ H8.out)
            obtain ⟨cc, hcc⟩ : ∃ cc, cc = cmpP C[m] C[m + 1] := ⟨_, rfl⟩
            have HCL := hide (cmp_lt C[m] C[m + 1])
            rw [← hcc] at KM HCL
            clear hcc
            by_cases hcm : cc < 0
            · have t3 : decide ((0 : Int) ≤ cc) = false := decide_eq_false (by omega)
              have t3' : ¬ (0 : Int) ≤ cc := by omega
              have HSN2 := hide (HF3.out (fun _ => HCL.out.1 hcm))
              clear HF1 HF2 HF3 HCL
              refine wp_region_lex (fun w' : World => w'.cell? ⟨gp, 0, none⟩ = some (.slice pa.A W.rs.length pa.c) ∧ w'.cell? ⟨gp, 1, none⟩ = some (.int .i64 W.ka) ∧ w'.cell? ⟨gp, 2, none⟩ = some (.int .i64 W.kb) ∧ w'.cell? ⟨gp, 3, none⟩ = some (.slice pa.L W.l.length pa.lc) ∧ w'.cell? ⟨gp, 4, none⟩ = some (.slice pa.M W.m.length pa.mc) ∧ w'.cell? ⟨gp, 5, none⟩ = some (.int .i64 W.l.length) ∧ w'.cell? ⟨gp, 6, none⟩ = some (.int .i64 W.m.length) ∧ w'.cell? ⟨gp, 7, none⟩ = some (.string (bs [])) ∧ w'.cell? ⟨gp, 8, none⟩ = some (.bool false) ∧ w'.cell? ⟨gx, 0, none⟩ = some (.int .i64 C[m + 1].i) ∧ w'.cell? ⟨gx, 1, none⟩ = some (.int .i64 C[m + 1].j) ∧ w'.cell? ⟨gx, 2, none⟩ = some (.string (bs C[m + 1].a)) ∧ w'.cell? ⟨gx, 3, none⟩ = some (.bool C[m + 1].r) ∧ w'.cell? ⟨gx, 4, none⟩ = some (.int .i64 C[m + 1].h) ∧ w'.cell? ⟨b, o + m * 5, none⟩ = some (.int .i64 C[m].i) ∧ w'.cell? ⟨b, o + m * 5 + 1, none⟩ = some (.int .i64 C[m].j) ∧ w'.cell? ⟨b, o + m * 5 + 2, none⟩ = some (.string (bs C[m].a)) ∧ w'.cell? ⟨b, o + m * 5 + 3, none⟩ = some (.bool C[m].r) ∧ w'.cell? ⟨b, o + m * 5 + 4, none⟩ = some (.int .i64 C[m].h)) rfl (by kernel_rfl) hS0 ?_
              clear hS0
              generalize w3.drew = w4 at *
              (repeat (first | (refine lex_skip (by rfl) ?_; try simp only [Act.put, List.setIfInBounds_toArray, List.set_cons_zero, List.set_cons_succ]) | (refine lex_read (v := ?_) (by rfl) ?_ ?_; rotate_left; (focus (intro w' hS'; go_simp; (try with_reducible rfl); done)); try simp only [Act.put, List.setIfInBounds_toArray, List.set_cons_zero, List.set_cons_succ])))
              refine lex_chain rfl (by rfl) (fun K hK => ?_)
              go_wp2_with fail
              refine (KP.out _).mono ?_
              rintro e9 w5 ⟨rfl, hb⟩
              have H9 := hide (H8.out.below OKX.out hb)
              clear KP H8 hb
              dsimp only
              refine hK.out _ _ (HSM.out _ (HSS.out _ H9.out) (HBW.out _ _ H9.out)) ?_
              clear hK
              (repeat (first | (refine lex_skip (by rfl) ?_; try simp only [Act.put, List.setIfInBounds_toArray, List.set_cons_zero, List.set_cons_succ]) | (refine lex_read (v := ?_) (by rfl) ?_ ?_; rotate_left; (focus (intro w' hS'; go_simp; (try with_reducible rfl); done)); try simp only [Act.put, List.setIfInBounds_toArray, List.set_cons_zero, List.set_cons_succ])))
              refine lex_chain rfl (by rfl) (fun K hK => ?_)
              have hSm := HSM.out _ (HSS.out _ H9.out) (HBW.out _ _ H9.out)
              go_wp2_with fail
              refine (KM.out _).mono ?_
              rintro e9 w6 ⟨rfl, hb, -⟩
              have H10 := hide (H9.out.below OKX.out hb)
              clear KM H9 hb hSm
              dsimp only
              refine hK.out _ _ (HSM.out _ (HSS.out _ H10.out) (HBW.out _ _ H10.out)) ?_
              clear hK
              (repeat (first | (refine lex_skip (by rfl) ?_; try simp only [Act.put, List.setIfInBounds_toArray, List.set_cons_zero, List.set_cons_succ]) | (refine lex_read (v := ?_) (by rfl) ?_ ?_; rotate_left; (focus (intro w' hS'; go_simp; (try with_reducible rfl); done)); try simp only [Act.put, List.setIfInBounds_toArray, List.set_cons_zero, List.set_cons_succ])))
              refine lex_nil ?_
              obtain ⟨f1, hf1⟩ := H10.out.fst
              have x0 := cell_at (i := 0) hf1 rfl
              have x1 := cell_at (i := 1) hf1 rfl
              have x2 := cell_at (i := 2) hf1 rfl
              have x3 := cell_at (i := 3) hf1 rfl
              have x4 := cell_at (i := 4) hf1 rfl
              obtain ⟨f2, hf2⟩ := (H10.out.drop.drop).fst
              have m0 := cell_at (i := 0) hf2 rfl
              have okZ : (star (CellO gm #[.map (some bm)] 67) (star (CellO gp (pairC W pa) 64) (CellO gr #[.bool false] 4))).Ok := star_ok cell_ok (star_ok cell_ok cell_ok)
              obtain ⟨f3, hf3, -, bk⟩ := (H10.out.drop : Run F w1 (star (StM bm (hts (C.take (m + 1)))) (star (CellO gm #[.map (some bm)] 67) (star (CellO gp (pairC W pa) 64) (CellO gr #[.bool false] 4)))) w6).take stm_ok okZ
              obtain ⟨w8, hup, hpost⟩ := st_put hf3 hnc HSN2.out
              have HZ8 := hide (show Run F w1 (ChO W pa bm gm gp gr (hts (C.take (m + 1 + 1)))) w8 from bk _ _ hpost)
              clear hf1 hf2 hf3 bk hpost okZ H10
              go_wp2
              go_roundw
              case rel => exact ⟨m + 1 + 1, HLT.out, by go_num, HSN2.out, HZ8.out⟩
              case measure => have := HLT.out; simp [intOf]; omega
            · have t3 : decide ((0 : Int) ≤ cc) = true := decide_eq_true (by omega)
              have t3' : (0 : Int) ≤ cc := by omega
              have HF := hide (show (false = true) ↔ CheckP T k x k2 y bound C from ⟨fun h => (by cases h), fun h => (HF2.out (by omega) (fun h2 => hcm (HCL.out.2 h2)) (by rw [HWe.out]; exact h.2)).elim⟩)
              clear HF1 HF2 HF3 HCL
              refine wp_region_lex (fun w' : World => w'.cell? ⟨gp, 0, none⟩ = some (.slice pa.A W.rs.length pa.c) ∧ w'.cell? ⟨gp, 1, none⟩ = some (.int .i64 W.ka) ∧ w'.cell? ⟨gp, 2, none⟩ = some (.int .i64 W.kb) ∧ w'.cell? ⟨gp, 3, none⟩ = some (.slice pa.L W.l.length pa.lc) ∧ w'.cell? ⟨gp, 4, none⟩ = some (.slice pa.M W.m.length pa.mc) ∧ w'.cell? ⟨gp, 5, none⟩ = some (.int .i64 W.l.length) ∧ w'.cell? ⟨gp, 6, none⟩ = some (.int .i64 W.m.length) ∧ w'.cell? ⟨gp, 7, none⟩ = some (.string (bs [])) ∧ w'.cell? ⟨gp, 8, none⟩ = some (.bool false) ∧ w'.cell? ⟨gx, 0, none⟩ = some (.int .i64 C[m + 1].i) ∧ w'.cell? ⟨gx, 1, none⟩ = some (.int .i64 C[m + 1].j) ∧ w'.cell? ⟨gx, 2, none⟩ = some (.string (bs C[m + 1].a)) ∧ w'.cell? ⟨gx, 3, none⟩ = some (.bool C[m + 1].r) ∧ w'.cell? ⟨gx, 4, none⟩ = some (.int .i64 C[m + 1].h) ∧ w'.cell? ⟨b, o + m * 5, none⟩ = some (.int .i64 C[m].i) ∧ w'.cell? ⟨b, o + m * 5 + 1, none⟩ = some (.int .i64 C[m].j) ∧ w'.cell? ⟨b, o + m * 5 + 2, none⟩ = some (.string (bs C[m].a)) ∧ w'.cell? ⟨b, o + m * 5 + 3, none⟩ = some (.bool C[m].r) ∧ w'.cell? ⟨b, o + m * 5 + 4, none⟩ = some (.int .i64 C[m].h)) rfl (by kernel_rfl) hS0 ?_
              clear hS0
              generalize w3.drew = w4 at *
              (repeat (first | (refine lex_skip (by rfl) ?_; try simp only [Act.put, List.setIfInBounds_toArray, List.set_cons_zero, List.set_cons_succ]) | (refine lex_read (v := ?_) (by rfl) ?_ ?_; rotate_left; (focus (intro w' hS'; go_simp; (try with_reducible rfl); done)); try simp only [Act.put, List.setIfInBounds_toArray, List.set_cons_zero, List.set_cons_succ])))
              refine lex_chain rfl (by rfl) (fun K hK => ?_)
              go_wp2_with fail
              refine (KP.out _).mono ?_
              rintro e9 w5 ⟨rfl, hb⟩
              have H9 := hide (H8.out.below OKX.out hb)
              clear KP H8 hb
              dsimp only
              refine hK.out _ _ (HSM.out _ (HSS.out _ H9.out) (HBW.out _ _ H9.out)) ?_
              clear hK
              (repeat (first | (refine lex_skip (by rfl) ?_; try simp only [Act.put, List.setIfInBounds_toArray, List.set_cons_zero, List.set_cons_succ]) | (refine lex_read (v := ?_) (by rfl) ?_ ?_; rotate_left; (focus (intro w' hS'; go_simp; (try with_reducible rfl); done)); try simp only [Act.put, List.setIfInBounds_toArray, List.set_cons_zero, List.set_cons_succ])))
              refine lex_chain rfl (by rfl) (fun K hK => ?_)
              have hSm := HSM.out _ (HSS.out _ H9.out) (HBW.out _ _ H9.out)
              go_wp2_with fail
              refine (KM.out _).mono ?_
              rintro e9 w6 ⟨rfl, hb, -⟩
              have H10 := hide (H9.out.below OKX.out hb)
              clear KM H9 hb hSm
              dsimp only
              refine hK.out _ _ (HSM.out _ (HSS.out _ H10.out) (HBW.out _ _ H10.out)) ?_
              clear hK
              (repeat (first | (refine lex_skip (by rfl) ?_; try simp only [Act.put, List.setIfInBounds_toArray, List.set_cons_zero, List.set_cons_succ]) | (refine lex_read (v := ?_) (by rfl) ?_ ?_; rotate_left; (focus (intro w' hS'; go_simp; (try with_reducible rfl); done)); try simp only [Act.put, List.setIfInBounds_toArray, List.set_cons_zero, List.set_cons_succ])))
              refine lex_nil ?_
              obtain ⟨q0, q1, q2⟩ := cho_end HB2.out HFI.out cell_ok H10.out
              have Q2 := hide (q2 false)
              have q3 := Q2.out.1
              clear q2
              go_wp2
              refine ⟨_, res_chk rfl q3, ?_⟩
              exact ⟨false, rfl, HF.out, Q2.out.2⟩
      · obtain rfl : n = N := by omega
        have hsn : (∀ p ∈ C, proper W bound p = true) ∧ C.Pairwise ltP := by
          have h := HSN.out
          unfold seenP at h
          rw [HN.out, List.take_length] at h
          exact h
        have HSEEN := hide hsn
        have hR1 := HR.out
        rw [HN.out, List.take_length] at hR1
        clear HSN HR hsn
        unfold ChO at hR1
        obtain ⟨es, clock, hents, hR2⟩ := run_open_map hR1
        have HENT := hide hents
        obtain ⟨F5, hF5⟩ := hR2.fst
        obtain ⟨F6, hF6⟩ := hR2.drop.fst
        have c9 := cell_at (i := 0) hF6 rfl
        obtain ⟨hrange, hit0⟩ := Go.CH.run_range_map (P := Tryz.prog) Tryz.underlying67 hF5.1
        have okR : (star (ObjO bm (.map es clock)) (star (CellO gm #[.map (some bm)] 67) (star (CellO gp (pairC W pa) 64) (CellO gr #[.bool false] 4)))).Ok := star_ok obj_ok (star_ok cell_ok (star_ok cell_ok cell_ok))
        have R6 := hide (hR2.fresh okR (iter_new wr hit0))
        have HDEC := hide (decE_all hents.1)
        clear hents hF5 hF6 hit0 hR1 hR2 okR
        have R7 := hide (show Run F w1 (Ch2 W pa es clock bm gm gp gr wr.heap.size es.toList []) _ from (R6.out.one.perm (by unfold Ch2 marksO; show _ = star _ (star _ (star _ (star _ (star _ emp)))); ac_rfl)))
        have HGD := hide (show W.good by rw [HWe.out]; exact (good_of (okW_iff.1 HOK.out).2.2).1)
        have HSZ2 := hide (fun q hq => hts_st (W := W) (bound := bound) HSEEN.out.1 (q := q) hq)
        have HGT := hide (fun s => hgt_in (W := W) (bound := bound) HSEEN.out.1 s)
        clear R6
        go_wp2_with fail
        clear hrange c9
        generalize wr.alloc (.mapIter (some bm) clock #[] clock) = w3 at *
        generalize wr.heap.size = gi at *
        refine wp_loop (C2I F w1 W pa C bound es clock bm gm gp gr gi) (fun _ w9 => leftOfE es gi w9) ?_ ?_
        · exact c2_mk [] (Dn := []) rfl rfl rfl rfl rfl rfl rfl R7.out (by rw [List.nil_append, HDEC.out.1]) (fun _ h => h) (fun q hq => by cases hq)
        clear R7
        rintro a9 w4 ⟨v, Ds, left, Dn, ⟨hR, hpm, hmem, hdn⟩, rfl⟩
        have HPM := hide hpm
        have HMEM := hide hmem
        have HDN := hide hdn
        have HR := hide hR
        have HLE := hide (left_of (show Run F w1 (star (IterO gi bm es clock left) _) w4 from hR))
        obtain ⟨FI, hFI⟩ := hR.fst
        obtain ⟨FB, hFB⟩ := hR.drop.fst
        rcases Go.CH.run_next_map (P := Tryz.prog) hFI.1 hFB.1 HENT.out.2.2.2 HENT.out.2.2.1 0 with ⟨hl0, hnx⟩ | ⟨i, hi, w6, hnx, hit1, hm1, hsz1, hen1⟩
        · have hD : Dn.Perm (hts C) := by have h := HPM.out; rw [hl0, List.map_nil, List.append_nil] at h; exact h
          have HYES := hide (fun hb => holds_yes (W := W) (bound := bound) HSEEN.out hD HDN.out hb)
          have hlk : (Instr.lookup 67 (.map (some bm)) (.agg #[.int .i64 0, .int .i64 0, .string { data := #[] }, .bool false]) false).run Tryz.prog w4 = .ok (.int .i64 (hgt C st0)) w4 := ch2_get hFB.1 HENT.out st0
          obtain ⟨FM, hFM⟩ := hR.drop.drop.fst
          have c9 := cell_at (i := 0) hFM rfl
          have h8 := hR.perm (by unfold Ch2; ac_rfl : _ = star (CellO gr #[.bool false] 4) (star (marksO Ds) (star (IterO gi bm es clock left) (star (ObjO bm (.map es clock)) (star (CellO gm #[.map (some bm)] 67) (CellO gp (pairC W pa) 64))))))
          obtain ⟨FR, hFR⟩ := h8.fst
          have q0 := cell_at (i := 0) hFR rfl
          have q1 := cell_free hFR 0
          have okW : (star (marksO Ds) (star (IterO gi bm es clock left) (star (ObjO bm (.map es clock)) (star (CellO gm #[.map (some bm)] 67) (CellO gp (pairC W pa) 64))))).Ok := star_ok marks_ok (star_ok iter_ok (star_ok obj_ok (star_ok cell_ok cell_ok)))
          have HPUT := hide (fun b : Bool => (run_setc h8 okW 0 (.bool b)).perm (by ac_rfl : _ = star (marksO Ds) (star (CellO gr #[.bool b] 4) (star (IterO gi bm es clock left) (star (ObjO bm (.map es clock)) (star (CellO gm #[.map (some bm)] 67) (CellO gp (pairC W pa) 64)))))))
          have okX : ∀ b : Bool, (star (CellO gr #[.bool b] 4) (star (IterO gi bm es clock left) (star (ObjO bm (.map es clock)) (star (CellO gm #[.map (some bm)] 67) (CellO gp (pairC W pa) 64))))).Ok := fun b => star_ok cell_ok (star_ok iter_ok (star_ok obj_ok (star_ok cell_ok cell_ok)))
          have OKX := hide okX
          obtain ⟨hh, hhe⟩ : ∃ h, h = hgt C st0 := ⟨_, rfl⟩
          rw [← hhe] at hlk HYES
          have HHE := hide hhe
          clear hD hpm hmem hdn hR hFI hFB hFM h8 hFR okW okX hl0 HLE HR hhe
          by_cases hb : bound ≤ hh
          · have HF := hide (show CheckP T k x k2 y bound C from ⟨HOK.out, by rw [← HWe.out]; exact HYES.out hb⟩)
            clear HYES
            go_wp2_with fail
            refine leaves_marks (OKX.out true) (fun W' hr => ?_) Ds _ (HPUT.out true)
            obtain ⟨f, hf⟩ := hr.fst
            exact ⟨_, res_chk (g := gr) rfl (cell_at (i := 0) hf rfl), true, rfl, ⟨fun _ => HF.out, fun _ => rfl⟩, HBW.out _ _ hr⟩
          · have HF := hide (show (false = true) ↔ CheckP T k x k2 y bound C from ⟨fun h => (by cases h), fun h => (hb (by rw [HHE.out]; exact h.2.2.2.2)).elim⟩)
            clear HYES
            go_wp2_with fail
            refine leaves_marks (OKX.out false) (fun W' hr => ?_) Ds _ (HPUT.out false)
            obtain ⟨f, hf⟩ := hr.fst
            exact ⟨_, res_chk (g := gr) rfl (cell_at (i := 0) hf rfl), false, rfl, HF.out, HBW.out _ _ hr⟩
        · obtain ⟨F7, h7, -, bk⟩ := hR.take iter_ok (star_ok obj_ok (star_ok cell_ok (star_ok cell_ok (star_ok cell_ok marks_ok))))
          have h8 := bk (IterO gi bm es clock (left.eraseIdx i)) w6 ⟨F7, ⟨hit1, h7.2⟩, hm1.mono (fun j _ hj => (h7.2 j).2 hj), fun i hi => .inl hi⟩
          have R8 := hide (show Run F w1 (Ch2 W pa es clock bm gm gp gr gi (left.eraseIdx i) Ds) w6 from h8)
          obtain ⟨FB2, hFB2⟩ := h8.drop.fst
          have hen := hen1 w6 rfl hFB2.1
          obtain ⟨hkey, hval⟩ := HDEC.out.2 _ (hmem _ (List.getElem_mem hi))
          rw [hkey, hval] at hnx hen
          have HPM2 := hide (perm_step hi hpm)
          have HMM := hide (fun e (he : e ∈ left.eraseIdx i) => hmem e (List.mem_of_mem_eraseIdx he))
          have HL2 := hide (show (left.eraseIdx i).length < left.length by rw [List.length_eraseIdx, if_pos hi]; omega)
          have HQ := hide (show decE left[i] ∈ hts C from hpm.mem_iff.1 (List.mem_append_right _ (List.mem_map.2 ⟨_, List.getElem_mem hi, rfl⟩)))
          generalize decE left[i] = q at HPM2 HQ hnx hen
          obtain ⟨g1, g2, g3, g4⟩ := HSZ2.out _ HQ.out
          have HOKQ := hide g1
          have HAQ := hide g2
          clear hpm hmem hdn hR hFI hFB h7 bk h8 hFB2 hkey hval hen1 hit1 hm1 hsz1 HR HPM HMEM g1 g2 hi
          generalize left.eraseIdx i = left2 at *
          have r9 := run_new R8.out ch2_ok (stC q.1) 62
          have r10 := run_new r9 (star_ok cell_ok ch2_ok) #[.int .i64 q.2] 3
          rw [World.size_alloc] at r10
          have R10 := hide r10
          have KM := hide (fun w => moves_any (W := W) (a := pa) (s := q.1) w)
          unfold pairV pairC stV at KM
          obtain ⟨FP, hFP⟩ := (r10.drop.drop.perm (by unfold Ch2; ac_rfl : _ = star (CellO gp (pairC W pa) 64) (star (IterO gi bm es clock left2) (star (ObjO bm (.map es clock)) (star (CellO gm #[.map (some bm)] 67) (star (CellO gr #[.bool false] 4) (marksO Ds))))))).fst
          obtain ⟨FS, hFS⟩ := r10.drop.fst
          have p0 := cell_at (v := .slice pa.A W.rs.length pa.c) (i := 0) hFP rfl
          have p1 := cell_at (v := .int .i64 W.ka) (i := 1) hFP rfl
          have p2 := cell_at (v := .int .i64 W.kb) (i := 2) hFP rfl
          have p3 := cell_at (v := .slice pa.L W.l.length pa.lc) (i := 3) hFP rfl
          have p4 := cell_at (v := .slice pa.M W.m.length pa.mc) (i := 4) hFP rfl
          have p5 := cell_at (v := .int .i64 W.l.length) (i := 5) hFP rfl
          have p6 := cell_at (v := .int .i64 W.m.length) (i := 6) hFP rfl
          have p7 := cell_at (v := .string (bs [])) (i := 7) hFP rfl
          have p8 := cell_at (v := .bool false) (i := 8) hFP rfl
          have s0 := cell_at (v := .int .i64 q.1.i) (i := 0) hFS rfl
          have s1 := cell_at (v := .int .i64 q.1.j) (i := 1) hFS rfl
          have s2 := cell_at (v := .string (bs q.1.a)) (i := 2) hFS rfl
          have s3 := cell_at (v := .bool q.1.r) (i := 3) hFS rfl
          clear R8 r9 r10 hFP hFS
          unfold stV at hnx hen
          unfold stC at hnx hen p0 p1 p2 p3 p4 p5 p6 p7 p8 s0 s1 s2 s3 KM
          go_wp2_with fail
          refine (KM.out _).mono ?_
          rintro e9 w9 ⟨b1, b2, rfl, hp⟩
          have S1 := hide (R10.out.fresh (star_ok cell_ok (star_ok cell_ok ch2_ok)) hp)
          clear KM hp R10 p0 p1 p2 p3 p4 p5 p6 p7 p8 s0 s1 s2 s3
          dsimp only
          go_wp2_with fail
          generalize w6.heap.size + 1 = g21 at *
          generalize w6.heap.size = g20 at *
          generalize Value.tuple #[Value.bool true, Value.agg #[.int .i64 q.1.i, .int .i64 q.1.j, .string (bs q.1.a), .bool q.1.r], .int .i64 q.2] = z77
          generalize Value.tuple #[Value.agg #[.int .i64 q.1.i, .int .i64 q.1.j, .string (bs q.1.a), .bool q.1.r], .int .i64 q.2] = z79
          generalize Value.agg #[.int .i64 q.1.i, .int .i64 q.1.j, .string (bs q.1.a), .bool q.1.r] = z80
          generalize Value.agg #[.slice pa.A W.rs.length pa.c, .int .i64 W.ka, .int .i64 W.kb, .slice pa.L W.l.length pa.lc, .slice pa.M W.m.length pa.mc, .int .i64 W.l.length, .int .i64 W.m.length, .string (bs []), .bool false] = z82
          clear hnx hen
          have HIT := hide (moves_iter (W := W) (s := q.1) (pa := pa) (b1 := b1) (b2 := b2) HOKQ.out HS.out (Nat.le_trans HAQ.out (by omega)))
          have okO : (star (CellO g20 (stC q.1) 62) (star (CellO g21 #[.int .i64 q.2] 3) (Ch2 W pa es clock bm gm gp gr gi left2 Ds))).Ok := star_ok cell_ok (star_ok cell_ok ch2_ok)
          have OKO := hide okO
          have okI : ∀ i, (pur (stepsI W C q i) (star (CellO g20 (stC q.1) 62) (star (CellO g21 #[.int .i64 q.2] 3) (Ch2 W pa es clock bm gm gp gr gi left2 Ds)))).Ok := fun i => pur_ok okO
          have okI2 : ∀ (i : Nat) (a' : Act), (exA fun g : Nat => exA fun x : Int × St => pur ((W.moves q.1)[i]? = some x ∧ stepsI W C q i ∧ a' = { tmps := #[v 0, v 1, v 2, v 3, v 4, .int .i64 bound, v 6, v 7, v 8, v 9, v 10, v 11, v 12, v 13, .pointer (some ⟨gr, 0, none⟩), .pointer (some ⟨gp, 0, none⟩), v 16, .pointer (some ⟨gm, 0, none⟩), v 18, v 19, .pointer (some ⟨g20, 0, none⟩), .pointer (some ⟨g21, 0, none⟩), .int .i64 x.1, .pointer (some ⟨g, 0, none⟩), v 24, v 25, v 26, v 27, v 28, v 29, v 30, v 31, v 32, v 33, v 34, v 35, v 36, v 37, v 38, v 39, v 40, v 41, v 42, v 43, v 44, v 45, v 46, v 47, v 48, v 49, v 50, v 51, v 52, v 53, v 54, v 55, v 56, v 57, v 58, v 59, v 60, v 61, v 62, v 63, v 64, v 65, v 66, v 67, v 68, v 69, v 70, v 71, v 72, v 73, v 74, v 75, .pointer (some ⟨gi, 0, none⟩), z77, .bool true, z79, z80, .int .i64 q.2, z82, z80, fnM b1 b2, .int .i64 x.1, .agg (stC x.2), v 87, v 88, v 89, v 90, v 91, v 92, v 93, v 94, v 95, v 96, v 97, v 98], defers := [] }) (star (CellO g (stC x.2) 62) (star (CellO g20 (stC q.1) 62) (star (CellO g21 #[.int .i64 q.2] 3) (Ch2 W pa es clock bm gm gp gr gi left2 Ds))))).Ok := fun i a' => exA_ok fun g => exA_ok fun x => pur_ok (star_ok cell_ok okO)
          have okX : ∀ c : Code, (pur (c = .ret ∧ ¬ stepsQ W C q) (star (CellO g20 (stC q.1) 62) (star (CellO g21 #[.int .i64 q.2] 3) (Ch2 W pa es clock bm gm gp gr gi left2 Ds)))).Ok := fun c => pur_ok okO
          have hst : Run F w1 (star (Zm W pa q.1 b1 b2) (pur (stepsI W C q 0) (star (CellO g20 (stC q.1) 62) (star (CellO g21 #[.int .i64 q.2] 3) (Ch2 W pa es clock bm gm gp gr gi left2 Ds))))) w9 := (Run.pureI stepsI_zero (S1.out.perm (by ac_rfl : _ = star (star (CellO g20 (stC q.1) 62) (star (CellO g21 #[.int .i64 q.2] 3) (Ch2 W pa es clock bm gm gp gr gi left2 Ds))) (Zm W pa q.1 b1 b2)))).swap
          clear okO S1
          refine range_law2 (gf := 60) (lb := #[.pointer (some ⟨b1, 0, none⟩), .pointer (some ⟨b2, 0, none⟩)]) rfl (enters_of Tryz.func60 (by kernel_rfl) rfl) HIT.out (fun _ => Zm_ok) (fun _ => rfl) HE.out _ (fun c => pur (c = .ret ∧ ¬ stepsQ W C q) (star (CellO g20 (stC q.1) 62) (star (CellO g21 #[.int .i64 q.2] 3) (Ch2 W pa es clock bm gm gp gr gi left2 Ds)))) okI _ okI2 okX hst ?_ ?_ ?_ ?_
          · intro lo m i hi R W1 K hR hI hK
            obtain ⟨hsi, h1⟩ := hI.pure
            have h3 := run_new h1 (star_ok OKO.out hR) (stC (W.moves q.1)[i].2) 62
            have HF := hide (hK { tmps := #[v 0, v 1, v 2, v 3, v 4, .int .i64 bound, v 6, v 7, v 8, v 9, v 10, v 11, v 12, v 13, .pointer (some ⟨gr, 0, none⟩), .pointer (some ⟨gp, 0, none⟩), v 16, .pointer (some ⟨gm, 0, none⟩), v 18, v 19, .pointer (some ⟨g20, 0, none⟩), .pointer (some ⟨g21, 0, none⟩), .int .i64 (W.moves q.1)[i].1, .pointer (some ⟨W1.heap.size, 0, none⟩), v 24, v 25, v 26, v 27, v 28, v 29, v 30, v 31, v 32, v 33, v 34, v 35, v 36, v 37, v 38, v 39, v 40, v 41, v 42, v 43, v 44, v 45, v 46, v 47, v 48, v 49, v 50, v 51, v 52, v 53, v 54, v 55, v 56, v 57, v 58, v 59, v 60, v 61, v 62, v 63, v 64, v 65, v 66, v 67, v 68, v 69, v 70, v 71, v 72, v 73, v 74, v 75, .pointer (some ⟨gi, 0, none⟩), z77, .bool true, z79, z80, .int .i64 q.2, z82, z80, fnM b1 b2, .int .i64 (W.moves q.1)[i].1, .agg (stC (W.moves q.1)[i].2), v 87, v 88, v 89, v 90, v 91, v 92, v 93, v 94, v 95, v 96, v 97, v 98], defers := [] } _ (Run.exI W1.heap.size (Run.exI (W.moves q.1)[i] (Run.pureI ⟨List.getElem?_eq_getElem hi, hsi, rfl⟩ (h3.perm (by ac_rfl))))))
            clear hI h1 h3 hK hsi
            unfold encM
            generalize (W.moves q.1)[i] = x at *
            obtain ⟨xc, ⟨xi, xj, xa, xr⟩⟩ := x
            unfold stC
            unfold stC at HF
            gi_wp2
            exact HF.out
          · intro lo m i hi a' R W1 hR hI
            obtain ⟨g, h1⟩ := hI.ex
            obtain ⟨x, h1⟩ := h1.ex
            obtain ⟨⟨hx, hsi, rfl⟩, h2⟩ := h1.pure
            have hmem : x ∈ W.moves q.1 := List.mem_of_getElem? hx
            have HSU := hide (fun h => stepsI_succ hx hsi h)
            have HNO := hide (fun h => steps_no (W := W) (C := C) (q := q) (x := x) hmem h)
            have hgc := good_cost HGD.out (c := x.1) (s' := x.2) hmem
            obtain ⟨hg0, hg1⟩ := HGT.out x.2
            have H2 := hide (h2.perm (by ac_rfl : _ = star (CellO g (stC x.2) 62) (star (star (CellO g20 (stC q.1) 62) (star (CellO g21 #[.int .i64 q.2] 3) (Ch2 W pa es clock bm gm gp gr gi left2 Ds))) R)))
            have HRk := hide hR
            have hS : ∀ W', Run F w1 (star (CellO g (stC x.2) 62) (star (star (CellO g20 (stC q.1) 62) (star (CellO g21 #[.int .i64 q.2] 3) (Ch2 W pa es clock bm gm gp gr gi left2 Ds))) R)) W' → (W'.cell? ⟨g21, 0, none⟩ = some (.int .i64 q.2) ∧ W'.cell? ⟨gm, 0, none⟩ = some (.map (some bm)) ∧ W'.cell? ⟨g, 0, none⟩ = some (.int .i64 x.2.i) ∧ W'.cell? ⟨g, 1, none⟩ = some (.int .i64 x.2.j) ∧ W'.cell? ⟨g, 2, none⟩ = some (.string (bs x.2.a)) ∧ W'.cell? ⟨g, 3, none⟩ = some (.bool x.2.r) ∧ (Instr.lookup 67 (.map (some bm)) (.agg #[.int .i64 x.2.i, .int .i64 x.2.j, .string (bs x.2.a), .bool x.2.r]) false).run Tryz.prog W' = .ok (.int .i64 (hgt C x.2)) W') := fun W' h => by
              obtain ⟨f1, hf1⟩ := h.fst
              have h9 := h.perm (by unfold Ch2; ac_rfl : _ = star (CellO g21 #[.int .i64 q.2] 3) (star (CellO gm #[.map (some bm)] 67) (star (ObjO bm (.map es clock)) (star (CellO g (stC x.2) 62) (star (CellO g20 (stC q.1) 62) (star (IterO gi bm es clock left2) (star (CellO gp (pairC W pa) 64) (star (CellO gr #[.bool false] 4) (star (marksO Ds) R)))))))))
              obtain ⟨f2, hf2⟩ := h9.fst
              obtain ⟨f3, hf3⟩ := h9.drop.fst
              obtain ⟨f4, hf4⟩ := h9.drop.drop.fst
              exact ⟨cell_at hf2 rfl, cell_at hf3 rfl, cell_at hf1 rfl, cell_at hf1 rfl, cell_at hf1 rfl, cell_at hf1 rfl, ch2_get hf4.1 HENT.out x.2⟩
            have okA : (star (CellO g (stC x.2) 62) (star (star (CellO g20 (stC q.1) 62) (star (CellO g21 #[.int .i64 q.2] 3) (Ch2 W pa es clock bm gm gp gr gi left2 Ds))) R)).Ok := star_ok cell_ok (star_ok OKO.out hR)
            have H3 := hide (H2.out.drew okA)
            have hS0 := hS _ H3.out
            have h4 := H3.out.perm (by unfold Ch2; ac_rfl : _ = star (CellO gr #[.bool false] 4) (star (CellO g (stC x.2) 62) (star (CellO g20 (stC q.1) 62) (star (CellO g21 #[.int .i64 q.2] 3) (star (IterO gi bm es clock left2) (star (ObjO bm (.map es clock)) (star (CellO gm #[.map (some bm)] 67) (star (CellO gp (pairC W pa) 64) (star (marksO Ds) R)))))))))
            have okB : (star (CellO g (stC x.2) 62) (star (CellO g20 (stC q.1) 62) (star (CellO g21 #[.int .i64 q.2] 3) (star (IterO gi bm es clock left2) (star (ObjO bm (.map es clock)) (star (CellO gm #[.map (some bm)] 67) (star (CellO gp (pairC W pa) 64) (star (marksO Ds) R)))))))).Ok := star_ok cell_ok (star_ok cell_ok (star_ok cell_ok (star_ok iter_ok (star_ok obj_ok (star_ok cell_ok (star_ok cell_ok (star_ok marks_ok hR)))))))
            obtain ⟨fr, hfr⟩ := h4.fst
            have q0 := cell_at (i := 0) hfr rfl
            have q1 := cell_free hfr 0
            have H5 := hide ((run_setc h4 okB 0 (.bool false)).perm (by unfold Ch2; ac_rfl : _ = star (CellO g (stC x.2) 62) (star (star (CellO g20 (stC q.1) 62) (star (CellO g21 #[.int .i64 q.2] 3) (Ch2 W pa es clock bm gm gp gr gi left2 Ds))) R)))
            have HG5 := hide (run_setc h4 okB 0 (.bool false))
            clear hI h1 h2 hx hsi hmem hS okA okB h4 hfr H2 hi
            obtain ⟨xc, ⟨xi, xj, xa, xr⟩⟩ := x
            unfold stC
            dsimp only at hgc hg0 hg1 hS0 HSU HNO ⊢
            generalize hgt C { i := xi, j := xj, a := xa, r := xr } = hg at *
            have t1 : IntKind.i64.wrap (xc + hg) = xc + hg := IntWalk.i64_in _ (by omega)
            refine wpIn_block (wpIn_seq ?_)
            by_cases hle : q.2 ≤ xc + hg
            · have t2 : decide (xc + hg < q.2) = false := decide_eq_false (by omega)
              have HSI := hide (HSU.out hle)
              refine region_in_lex (fun w' : World => w'.cell? ⟨g21, 0, none⟩ = some (.int .i64 q.2) ∧ w'.cell? ⟨gm, 0, none⟩ = some (.map (some bm)) ∧ w'.cell? ⟨g, 0, none⟩ = some (.int .i64 xi) ∧ w'.cell? ⟨g, 1, none⟩ = some (.int .i64 xj) ∧ w'.cell? ⟨g, 2, none⟩ = some (.string (bs xa)) ∧ w'.cell? ⟨g, 3, none⟩ = some (.bool xr) ∧ (Instr.lookup 67 (.map (some bm)) (.agg #[.int .i64 xi, .int .i64 xj, .string (bs xa), .bool xr]) false).run Tryz.prog w' = .ok (.int .i64 hg) w') rfl (fun ⟨a, w, h⟩ => h) rfl (by kernel_rfl) hS0 ?_
              clear hS0
              (repeat (first | (refine lex_skip (by rfl) ?_; try simp only [Act.put, List.setIfInBounds_toArray, List.set_cons_zero, List.set_cons_succ]) | (refine lex_read (v := ?_) (by rfl) ?_ ?_; rotate_left; (focus (intro w' hS'; go_simp; (try with_reducible rfl); done)); try simp only [Act.put, List.setIfInBounds_toArray, List.set_cons_zero, List.set_cons_succ])))
              refine lex_nil ?_
              gi_wp2
              exact Run.pureI HSI.out H3.out.drop
            · have t2 : decide (xc + hg < q.2) = true := decide_eq_true (by omega)
              have HNS := hide (HNO.out hle)
              refine region_in_lex (fun w' : World => w'.cell? ⟨g21, 0, none⟩ = some (.int .i64 q.2) ∧ w'.cell? ⟨gm, 0, none⟩ = some (.map (some bm)) ∧ w'.cell? ⟨g, 0, none⟩ = some (.int .i64 xi) ∧ w'.cell? ⟨g, 1, none⟩ = some (.int .i64 xj) ∧ w'.cell? ⟨g, 2, none⟩ = some (.string (bs xa)) ∧ w'.cell? ⟨g, 3, none⟩ = some (.bool xr) ∧ (Instr.lookup 67 (.map (some bm)) (.agg #[.int .i64 xi, .int .i64 xj, .string (bs xa), .bool xr]) false).run Tryz.prog w' = .ok (.int .i64 hg) w') rfl (fun ⟨a, w, h⟩ => h) rfl (by kernel_rfl) hS0 ?_
              clear hS0
              (repeat (first | (refine lex_skip (by rfl) ?_; try simp only [Act.put, List.setIfInBounds_toArray, List.set_cons_zero, List.set_cons_succ]) | (refine lex_read (v := ?_) (by rfl) ?_ ?_; rotate_left; (focus (intro w' hS'; go_simp; (try with_reducible rfl); done)); try simp only [Act.put, List.setIfInBounds_toArray, List.set_cons_zero, List.set_cons_succ])))
              refine lex_nil ?_
              gi_wp2
              exact Run.pureI ⟨rfl, HNS.out⟩ H5.out.drop
          · intro D R W1 hR hI
            obtain ⟨hsi, h2⟩ := hI.pure
            have h3 := h2.perm (by unfold Ch2; rw [marks_cons]; ac_rfl : _ = star (star (CellO g20 (stC q.1) 62) (star (CellO g21 #[.int .i64 q.2] 3) R)) (Ch2 W pa es clock bm gm gp gr gi left2 (D :: Ds)))
            have H3 := hide h3.drop
            have HSQ := hide (stepsI_all hsi)
            clear hI h2 h3 hsi
            go_wp2_with fail
            refine ⟨c2_mk (D :: Ds) rfl rfl rfl rfl rfl rfl rfl H3.out HPM2.out HMM.out (fun p hp => ?_), ?_⟩
            · rcases List.mem_append.1 hp with hp | hp
              · exact HDN.out p hp
              · rw [List.mem_singleton.1 hp]; exact HSQ.out
            · rw [left_of (show Run F w1 (star (IterO gi bm es clock left2) _) W1 from H3.out), HLE.out]; exact HL2.out
          · intro D c9 R W1 hR hI
            obtain ⟨⟨rfl, hns⟩, h2⟩ := hI.pure
            have HF := hide (show (false = true) ↔ CheckP T k x k2 y bound C from ⟨fun h => (by cases h), fun h => (holds_no HQ.out hns (by rw [HWe.out]; exact h.2)).elim⟩)
            have H3 := hide (h2.perm (by unfold Ch2; rw [marks_cons]; ac_rfl : _ = star (marksO (D :: Ds)) (star (CellO gr #[.bool false] 4) (star (CellO g20 (stC q.1) 62) (star (CellO g21 #[.int .i64 q.2] 3) (star (IterO gi bm es clock left2) (star (ObjO bm (.map es clock)) (star (CellO gm #[.map (some bm)] 67) (star (CellO gp (pairC W pa) 64) R)))))))))
            have okX : (star (CellO gr #[.bool false] 4) (star (CellO g20 (stC q.1) 62) (star (CellO g21 #[.int .i64 q.2] 3) (star (IterO gi bm es clock left2) (star (ObjO bm (.map es clock)) (star (CellO gm #[.map (some bm)] 67) (star (CellO gp (pairC W pa) 64) R))))))).Ok := star_ok cell_ok (star_ok cell_ok (star_ok cell_ok (star_ok iter_ok (star_ok obj_ok (star_ok cell_ok (star_ok cell_ok hR))))))
            clear hI h2 hns
            go_wp2_with fail
            refine leaves_marks okX (fun W' hr => ?_) (D :: Ds) _ H3.out
            obtain ⟨f, hf⟩ := hr.fst
            exact ⟨_, res_chk (g := gr) rfl (cell_at (i := 0) hf rfl), false, rfl, HF.out, HBW.out _ _ hr⟩
end Go.Proofs.YtnppgomhhcbplaaGreatDoor
namespace Go.Proofs.YtnppgomhhcbplaaGreatDoor
open Go.RowKit Go.CH Go.CH.Scr Go.CH.Pot
open Go.ChangeMaps (setBlock)
theorem src_lits {W : World} {cs : Array Value} {t : TypeId} {n size : Nat} (hn : cs.size = n * size) (h : ∀ u ∈ cs.toList, u.oneCell' = true) : Src (W.alloc (.cells cs t)) (some ⟨W.heap.size, 0, none⟩) n size cs.toList := by
  refine ⟨by simp [hn], h, fun _ => ⟨_, rfl, fun j u hu => ?_⟩⟩
  rw [Array.getElem?_toList] at hu
  have e : (⟨W.heap.size, 0, none⟩ : Addr).add j = ⟨W.heap.size, j, none⟩ := by unfold Addr.add; split <;> simp_all
  rw [e]
  simp only [World.cell?, heap_alloc_new W _]
  rw [hu]; rfl
theorem pts_lit (W : World) (C : List Pt) : PtsR (W.alloc (.cells (C.flatMap pcells).toArray 37)) (some ⟨W.heap.size, 0, none⟩) C :=
  src_lits (cs := (C.flatMap pcells).toArray) (by rw [List.size_toArray, flat_len]) (fun u hu => pcells_one C u (by simpa using hu))
theorem src_none {w : World} {size : Nat} : Src w none 0 size [] := ⟨by simp, fun u hu => (by cases hu), fun h => absurd h (Nat.lt_irrefl _)⟩
theorem rules_lit (W : World) (l : List Rule) (t : TypeId) : RulesR (W.alloc (.cells (l.flatMap rcells).toArray t)) (some ⟨W.heap.size, 0, none⟩) l := by
  refine src_lits (cs := (l.flatMap rcells).toArray) ?_ (fun u hu => ?_)
  · rw [List.size_toArray]
    induction l with
    | nil => rfl
    | cons R l ih => rw [List.flatMap_cons, List.length_append, ih, List.length_cons]; show 4 + _ = _; omega
  · have hu : u ∈ l.flatMap rcells := by simpa using hu
    obtain ⟨R, -, hR⟩ := List.mem_flatMap.1 hu
    simp [rcells] at hR
    rcases hR with rfl | rfl | rfl | rfl <;> rfl
set_option maxHeartbeats 3200000 in
set_option maxRecDepth 100000 in
theorem sample_any (w : World) : Calls Tryz.prog 22 #[] w (fun e w' => ∃ a : TA, e = .returned (tabV sampT a) ∧ Below w.heap.size w w' ∧ TabR w' sampT a) := by
  have h1 : Run (fun _ => False) w (star (CellO w.heap.size #[.slice (some ⟨w.heap.size + 1, 0, none⟩) 3 3, .slice none 0 0, .slice none 0 0, .int .i64 0, .int .i64 0, .int .i64 0] 25) emp) _ := run_new (Run.begin w) emp_ok _ 25
  have hr := rules_lit (w.alloc (.cells #[.slice (some ⟨w.heap.size + 1, 0, none⟩) 3 3, .slice none 0 0, .slice none 0 0, .int .i64 0, .int .i64 0, .int .i64 0] 25)) sampT.rs 41
  have h2 := run_new h1 (star_ok cell_ok emp_ok) (sampT.rs.flatMap rcells).toArray 41
  simp only [World.size_alloc] at h2 hr
  have hl : (sampT.rs.flatMap rcells).toArray = #[.int .i64 1, .string { data := #[97] }, .string { data := #[97] }, .int .i64 0, .int .i64 1, .string { data := #[98] }, .string { data := #[98] }, .int .i64 0, .int .i64 1, .string { data := #[99] }, .string { data := #[98] }, .int .i64 2] := rfl
  rw [hl] at h2 hr
  obtain ⟨f, hf⟩ := h2.drop.fst
  have hblk := hf.1
  have HB := hide (h2.mod.below (fun _ _ h => h))
  have HR := hide hr
  clear h1 h2 hr hl hf
  go_enter Tryz.func22, Tryz.ntmps22
  go_wp2_with fail
  refine bodyPost_ret (results_cell_row rfl _ _ w.heap.size 25 #[.slice (some ⟨w.heap.size + 1, 0, none⟩) 3 3, .slice none 0 0, .slice none 0 0, .int .i64 0, .int .i64 0, .int .i64 0] (0, 0) (.struct _) rfl hblk Tryz.underlying25 rfl (by kernel_rfl)) rfl ?_
  refine ⟨⟨some ⟨w.heap.size + 1, 0, none⟩, 3, none, 0, none, 0⟩, rfl, HB.out, ?_⟩
  refine { rs := HR.out, ds := src_none, es := src_none, lr := by decide, ld := by decide, le := by decide, sr := fun R hR => ?_, sd := fun d hd => (by cases hd), se := fun d hd => (by cases hd) }
  have : ∀ R ∈ sampT.rs, R.f.length ≤ 1000000 ∧ R.t.length ≤ 1000000 := by decide
  exact this R hR
end Go.Proofs.YtnppgomhhcbplaaGreatDoor
