/-
  Potential: Make.
  Potential: Check.
  Marks of ranges over functions that an activation has collected.
  Potential: Check's second loop: what it leans on.
-/
import Derived.Test.YtnppgomhhcbplaaGreatDoorPO15
import Derived.Test.YtnppgomhhcbplaaGreatDoorPO14
import Derived.Test.YtnppgomhhcbplaaGreatDoorPO7
import Derived.Deep.LoopGhost
import Derived.Test.YtnppgomhhcbplaaGreatDoorPO12
import Derived.Test.YtnppgomhhcbplaaGreatDoorPO5
import Derived.Test.YtnppgomhhcbplaaGreatDoorPO8
import Derived.Test.YtnppgomhhcbplaaGreatDoorPO6
set_option linter.unusedSimpArgs false
set_option linter.unusedVariables false
namespace Go.Proofs.YtnppgomhhcbplaaGreatDoor
open Go.RowKit Go.CH Go.CH.Scr Go.CH.Pot
open Go.ChangeMaps (setBlock)
/-- What Make answers. -/
def MakeRet (w : World) (T : Tab) (k : Int) (x : Bs) (k2 : Int) (y : Bs) (bound : Int) (e : Ending) (w' : World) : Prop :=
  ∃ A c C er, e = .returned (.tuple #[.slice A C.length c, .int .i64 er]) ∧ MakeP T k x k2 y bound C er ∧ Post w (fun _ => False) (PtsO A c C) w'
theorem ptsOk : SliceOk Tryz.prog 26 37 (.agg #[.int .i64 0, .int .i64 0, .string ⟨#[]⟩, .bool false, .int .i64 0]) 5 48 := ⟨Tryz.underlying26, by kernel_rfl, by decide, by decide⟩
theorem make_nil {w w' : World} {T : Tab} {k k2 bound er : Int} {x y : Bs} (h : MakeP T k x k2 y bound [] er) (hb : Below w.heap.size w w') : MakeRet w T k x k2 y bound (.returned (.tuple #[.slice none 0 0, .int .i64 er])) w' :=
  ⟨none, 0, [], er, rfl, h, fun _ => False, row_nil _ _ _, Mod.of_below hb, fun i hi => hi.elim⟩
theorem src_lit {W : World} {cs : Array Value} {t : TypeId} (h : ∀ u ∈ cs.toList, u.oneCell' = true) : Src (W.alloc (.cells cs t)) (some ⟨W.heap.size, 0, none⟩) 1 cs.size cs.toList := by
  refine ⟨by simp, h, fun _ => ⟨_, rfl, fun j u hu => ?_⟩⟩
  rw [Array.getElem?_toList] at hu
  have e : (⟨W.heap.size, 0, none⟩ : Addr).add j = ⟨W.heap.size, j, none⟩ := by unfold Addr.add; split <;> simp_all
  rw [e]
  simp only [World.cell?, heap_alloc_new W _]
  rw [hu]; rfl
theorem pts_snoc {A : Option Addr} {c : Nat} {C : List Pt} {p : Pt} : RowO 37 5 (.slice A (C.length + 1) c) (C.length + 1) (C.flatMap pcells ++ pcells p) = PtsO A c (C ++ [p]) := by
  unfold PtsO
  rw [List.flatMap_append, List.length_append, List.length_singleton, List.flatMap_singleton]
theorem app_pts {F0 : Nat → Prop} {w0 W : World} {Y : CH.Own} {ops : Array Oper} {rest : List Oper} {o : Oper} {a : Act} {Q : Exit → Act → World → Prop} (hgd : o.guard = none) (s x : Operand)
    (ho : o.op = .call { callee := .builtin .append, args := #[s, x], argTypes := #[26, 26] }) {A : Option Addr} {c n : Nat} {C : List Pt} (p : Pt) (hl : C.length = n) (hsv : a.eval s = .slice A n c) (hx : a.eval x = .slice (some ⟨W.heap.size, 0, none⟩) 1 1) (hn : n ≤ 5737412434) (hY : Y.Ok)
    (h : Run F0 w0 (star (PtsO A c C) Y) W)
    (hK : ∀ A' c' w', Run F0 w0 (star (PtsO A' c' (C ++ [p])) Y) w' → wpList Tryz.prog ops Q rest (a.put o.dst (.slice A' (n + 1) c')) w') : wpList Tryz.prog ops Q (o :: rest) a (W.alloc (.cells #[.int .i64 p.i, .int .i64 p.j, .string (bs p.a), .bool p.r, .int .i64 p.h] 37)) := by
  subst hl
  obtain ⟨F7, hR7, -, bk7⟩ := (h.below (star_ok pts_ok hY) ((Below.refl _ _).alloc (Nat.le_refl _) (.cells #[.int .i64 p.i, .int .i64 p.j, .string (bs p.a), .bool p.r, .int .i64 p.h] 37))).take pts_ok hY
  refine wpList_appX hgd s x ho ptsOk _ 0 (v := .slice A C.length c) (n := C.length) (xs := C.flatMap pcells) hsv hR7.1 (A := some ⟨W.heap.size, 0, none⟩) (m := 1) (c := 1) (news := pcells p) hx (src_lit (cs := #[.int .i64 p.i, .int .i64 p.j, .string (bs p.a), .bool p.r, .int .i64 p.h]) (fun u hu => pcells_one [p] u (by simpa [pcells] using hu))) (by unfold maxLen; omega) (by omega) (Nat.zero_le _) ?_
  intro v8 w8 ho8 hg8 hv8
  have S8 := bk7 _ _ (row_app hR7 ho8 hg8 hv8)
  obtain ⟨A8, c8, rfl⟩ := own_form ho8
  rw [pts_snoc] at S8
  exact hK A8 c8 w8 S8
theorem entP_step (bound : Int) (Dn : List (St × Int)) (q : St × Int) : (Dn ++ [q]).filterMap (entP bound) = Dn.filterMap (entP bound) ++ (if 0 < min q.2 bound then [⟨q.1.i, q.1.j, q.1.a, q.1.r, min q.2 bound⟩] else []) := by
  rw [List.filterMap_append]
  congr 1
  unfold entP
  by_cases h : 0 < min q.2 bound
  · simp only [List.filterMap_cons, if_pos h, List.filterMap_nil]
  · simp only [List.filterMap_cons, if_neg h, List.filterMap_nil]
theorem erase_perm {α : Type} : ∀ {l : List α} {i : Nat} (h : i < l.length), (l[i] :: l.eraseIdx i).Perm l
  | _ :: _, 0, _ => .refl _
  | x :: l, i + 1, h => (List.Perm.swap ..).trans ((erase_perm (l := l) (by simpa using h)).cons x)
theorem perm_step {left : List MapEntry} {Dn L : List (St × Int)} {i : Nat} (hi : i < left.length) (h : (Dn ++ left.map decE).Perm L) : ((Dn ++ [decE left[i]]) ++ (left.eraseIdx i).map decE).Perm L := by
  refine List.Perm.trans ?_ h
  rw [List.append_assoc]
  refine List.Perm.append_left _ ?_
  have := (erase_perm hi).map decE
  exact this
set_option maxHeartbeats 6400000 in
set_option maxRecDepth 100000 in
theorem make_any {w : World} {T : Tab} {a : TA} (hT : TabR w T a) (hz : LZ w) (k : Int) (x : Bs) (k2 : Int) (y : Bs) (bound : Int) (hx : x.length ≤ 1000000) (hy : y.length ≤ 1000000) :
    Calls Tryz.prog 14 #[tabV T a, .int .i64 k, .string (bs x), .int .i64 k2, .string (bs y), .int .i64 bound] w (MakeRet w T k x k2 y bound) := by
  have HT := hide hT
  have HZ := hide hz
  have h1 : Run (fun _ => False) w (star (CellO w.heap.size (tabC T a) 25) emp) _ := run_new (Run.begin w) emp_ok (tabC T a) 25
  have HB1 := hide (show Below w.heap.size w (w.alloc (.cells (tabC T a) 25)) from h1.mod.below (fun _ _ h => h))
  have KO := hide (of_any (hT.below HB1.out) (hz.below HB1.out) k x k2 y hx hy)
  have H1 := hide h1
  clear hT hz h1
  unfold tabV at KO ⊢
  unfold tabC at KO H1 HB1 ⊢
  unfold OfRet at KO
  go_enter Tryz.func14, Tryz.ntmps14
  go_wp2_with fail
  refine KO.out.mono ?_
  rintro e9 w1 ⟨pa, rfl, hb, hP, hS, -⟩
  have HB2 := hide (HB1.out.trans (hb.mono HB1.out.size))
  have HP := hide hP
  have HS := hide hS
  clear KO H1 HB1 hb hP hS
  unfold pairV
  dsimp only
  obtain ⟨W, hW⟩ : ∃ W, W = ofW T k x k2 y := ⟨_, rfl⟩
  rw [← hW] at HP HS ⊢
  have HW := hide hW
  clear hW
  cases hok : okW T k x k2 y with
  | false =>
    have HF := hide (fun W' (hb : Below w.heap.size w W') => make_nil (w := w) (w' := W') (T := T) (k := k) (k2 := k2) (x := x) (y := y) (bound := bound) (.arg (.inl hok)) hb)
    have HBA := hide (HB2.out.alloc HB2.out.size (.cells (pairC W pa) 64))
    clear hok
    unfold pairC
    unfold pairC at HBA
    go_wp2
    refine bodyPost_ret (results_tmp2 rfl _ _ _) rfl ?_
    exact HF.out _ HBA.out
  | true =>
    have HOK := hide hok
    have HWe := hide (show W = wdOf T k x k2 y from HW.out.trans (ofW_ok hok))
    have HBA := hide (HB2.out.alloc HB2.out.size (.cells (pairC W pa) 64))
    clear hok
    by_cases hb0 : bound < 0
    · have HF := hide (fun W' (hb : Below w.heap.size w W') => make_nil (w := w) (w' := W') (T := T) (k := k) (k2 := k2) (x := x) (y := y) (bound := bound) (.arg (.inr (.inl hb0))) hb)
      unfold pairC
      unfold pairC at HBA
      go_wp2
      refine bodyPost_ret (results_tmp2 rfl _ _ _) rfl ?_
      exact HF.out _ HBA.out
    · by_cases hb1 : 100000 < bound
      · have HF := hide (fun W' (hb : Below w.heap.size w W') => make_nil (w := w) (w' := W') (T := T) (k := k) (k2 := k2) (x := x) (y := y) (bound := bound) (.arg (.inr (.inr hb1))) hb)
        unfold pairC
        unfold pairC at HBA
        go_wp2
        refine bodyPost_ret (results_tmp2 rfl _ _ _) rfl ?_
        exact HF.out _ HBA.out
      · have HB01 := hide (show 0 ≤ bound ∧ bound ≤ 100000 from ⟨by omega, by omega⟩)
        clear HBA
        have r0 := Run.begin w1
        have r1 := run_new r0 emp_ok (pairC W pa) 64
        have r2 : Run (fun _ => False) w1 (star (StM (w1.heap.size + 1) []) (star (CellO w1.heap.size (pairC W pa) 64) emp)) ((w1.alloc (.cells (pairC W pa) 64)).alloc (.map #[] 0)) := by
          have := r1.fresh (star_ok cell_ok emp_ok) (map_new (kv := stV) (w1.alloc (.cells (pairC W pa) 64)))
          rw [World.size_alloc] at this
          exact this
        have r3 := run_new r2 (star_ok stm_ok (star_ok cell_ok emp_ok)) (costC W pa (w1.heap.size + 1)) 69
        have e2 : ((w1.alloc (.cells (pairC W pa) 64)).alloc (.map #[] 0)).heap.size = w1.heap.size + 1 + 1 := by rw [World.size_alloc, World.size_alloc]
        rw [e2] at r3
        have R3 := hide (show Run (fun _ => False) w1 (star (StM (w1.heap.size + 1) []) (star (CellO (w1.heap.size + 1 + 1) (costC W pa (w1.heap.size + 1)) 69) (CellO w1.heap.size (pairC W pa) 64))) _ from r3.perm (by rw [star_emp_eq]; ac_rfl))
        have hg : W.good ∧ W.tosOk := by rw [HWe.out]; exact good_of (okW_iff.1 HOK.out).2.2
        have KF := hide (fun w9 => from_n (W := W) (pa := pa) (b := w1.heap.size + 1) (F0 := fun _ => False) (w0 := w1) (fun W' hm => HP.out.below (hm.below (fun _ _ h => h))) HS.out hg.1 hg.2 (W.rank st0 + 1) st0 [] (star (CellO (w1.heap.size + 1 + 1) (costC W pa (w1.heap.size + 1)) 69) (CellO w1.heap.size (pairC W pa) 64)) w9 (Nat.lt_succ_self _) ok0 (Nat.zero_le _) kn_nil (star_ok cell_ok cell_ok))
        have KF2 := hide (KF.out _ R3.out)
        have HG := hide hg
        have hmk : ∀ w : World, (Instr.makeMap 67 none).run Tryz.prog w = .ok (.map (some w.heap.size)) (w.alloc (.map #[] 0)) := fun w => by kernel_rfl
        clear r0 r1 r2 r3 e2 KF hg
        unfold costV stV st0 at KF2
        unfold pairC at R3 KF2 ⊢
        unfold costC at R3 KF2
        unfold stC at KF2
        dsimp only at KF2
        go_wp2_with fail
        refine KF2.out.mono ?_
        rintro e9 w4 ⟨L', rfl, hkn, hext, hmem, hR⟩
        clear KF2 R3 hmk
        generalize w1.heap.size + 1 = bm at *
        generalize bm + 1 = gc at *
        have R4 := hide hR
        have HKN := hide hkn
        have HRCH := hide (show ∀ p ∈ L', Rch W st0 p.1 from fun p hp => (hext.new p hp).elim (fun h => by cases h) id)
        have HMEM := hide (show st0 ∈ keysL L' from hmem)
        have hd0 := dist_nonneg HG.out.1 (ok0 (W := W))
        have hd1 := dist_never (ok0 (W := W))
        change Hid (Run (fun _ => False) w1 (star (StM bm L') (star (CellO gc #[.slice pa.A W.rs.length pa.c, .int .i64 W.ka, .int .i64 W.kb, .slice pa.L W.l.length pa.lc, .slice pa.M W.m.length pa.mc, .int .i64 W.l.length, .int .i64 W.m.length, .string (bs []), .bool false, .map (some bm)] 69) (CellO w1.heap.size #[.slice pa.A W.rs.length pa.c, .int .i64 W.ka, .int .i64 W.kb, .slice pa.L W.l.length pa.lc, .slice pa.M W.m.length pa.mc, .int .i64 W.l.length, .int .i64 W.m.length, .string (bs []), .bool false] 64))) w4) at R4
        have hdd : W.dist { i := 0, j := 0, a := [], r := false } = W.dist st0 := rfl
        simp only [hdd]
        clear hR hkn hext hmem hdd
        obtain ⟨dd, hdd⟩ : ∃ d, d = W.dist st0 := ⟨_, rfl⟩
        rw [← hdd] at hd0 hd1 ⊢
        have HDD := hide hdd
        clear hdd
        by_cases hlt : dd < bound
        · have HF := hide (fun W' (hb : Below w.heap.size w W') => make_nil (w := w) (w' := W') (T := T) (k := k) (k2 := k2) (x := x) (y := y) (bound := bound) (.none HOK.out HB01.out.1 HB01.out.2 (by rw [← HWe.out, ← HDD.out]; exact hlt)) hb)
          have HBA := hide (HB2.out.trans ((R4.out.mod.below (fun _ _ h => h)).mono HB2.out.size))
          go_wp2
          refine bodyPost_ret (results_tmp2 rfl _ _ _) rfl ?_
          exact HF.out _ HBA.out
        · obtain ⟨es, clock, hents, hR5⟩ := run_open_map R4.out
          have R5 := hide hR5
          have HENT := hide hents
          obtain ⟨F5, hF5⟩ := hR5.fst
          obtain ⟨F6, hF6⟩ := hR5.drop.fst
          have c9 := cell_at (i := 9) hF6 rfl
          obtain ⟨hrange, hit0⟩ := Go.CH.run_range_map (P := Tryz.prog) Tryz.underlying67 hF5.1
          have okR : (star (ObjO bm (.map es clock)) (star (CellO gc #[.slice pa.A W.rs.length pa.c, .int .i64 W.ka, .int .i64 W.kb, .slice pa.L W.l.length pa.lc, .slice pa.M W.m.length pa.mc, .int .i64 W.l.length, .int .i64 W.m.length, .string (bs []), .bool false, .map (some bm)] 69) (CellO w1.heap.size #[.slice pa.A W.rs.length pa.c, .int .i64 W.ka, .int .i64 W.kb, .slice pa.L W.l.length pa.lc, .slice pa.M W.m.length pa.mc, .int .i64 W.l.length, .int .i64 W.m.length, .string (bs []), .bool false] 64))).Ok := star_ok obj_ok (star_ok cell_ok cell_ok)
          have R6 := hide (hR5.fresh okR (iter_new w4 hit0))
          have HDEC := hide (decE_all hents.1)
          have HFEW := hide (known_few HKN.out HG.out.2 (by rw [HW.out]; exact openN_len k x) (by rw [HW.out]; exact openN_len k2 y) HRCH.out)
          clear R4 hents hF5 hF6 hit0 hR5
          have R7 := hide (R6.out.fresh (star_ok iter_ok okR) (⟨fun _ => False, row_nil _ _ _, Mod.refl _ _, fun i hi => .inl hi⟩ : Post _ (fun _ => False) (PtsO none 0 []) _))
          have HLE := hide (show es.toList.length = L'.length by rw [← HDEC.out.1, List.length_map])
          clear R6 R5 okR
          go_wp2_with fail
          generalize w4.alloc (.mapIter (some bm) clock #[] clock) = w5 at *
          generalize w4.heap.size = gi at *
          generalize w1.heap.size = gp at *
          clear hrange c9
          go_loopg [17] (es.size) (fun gk n wr => ∃ (left : List MapEntry) (Dn : List (St × Int)) (A : Option Addr) (c : Nat), left.length = gk ∧ n = .slice A (Dn.filterMap (entP bound)).length c ∧ (Dn ++ left.map decE).Perm L' ∧ (∀ e ∈ left, e ∈ es.toList) ∧ Run (fun _ => False) w1 (star (PtsO A c (Dn.filterMap (entP bound))) (star (IterO gi bm es clock left) (star (ObjO bm (.map es clock)) (star (CellO gc #[.slice pa.A W.rs.length pa.c, .int .i64 W.ka, .int .i64 W.kb, .slice pa.L W.l.length pa.lc, .slice pa.M W.m.length pa.mc, .int .i64 W.l.length, .int .i64 W.m.length, .string (bs []), .bool false, .map (some bm)] 69) (CellO gp #[.slice pa.A W.rs.length pa.c, .int .i64 W.ka, .int .i64 W.kb, .slice pa.L W.l.length pa.lc, .slice pa.M W.m.length pa.mc, .int .i64 W.l.length, .int .i64 W.m.length, .string (bs []), .bool false] 64))))) wr)
          case atStart => exact ⟨es.toList, [], none, 0, by simp, rfl, by rw [List.nil_append, HDEC.out.1], fun _ h => h, R7.out⟩
          case round =>
            clear R7
            obtain ⟨left, Dn, A, c, hlen, rfl, hpm, hmem, hR⟩ := hrel
            obtain ⟨FI, hFI⟩ := hR.drop.fst
            obtain ⟨FB, hFB⟩ := hR.drop.drop.fst
            rcases Go.CH.run_next_map (P := Tryz.prog) hFI.1 hFB.1 HENT.out.2.2.2 HENT.out.2.2.1 0 with ⟨hl0, hnx⟩ | ⟨i, hi, w6, hnx, hit1, hm1, hsz1, hen1⟩
            · have hpm2 : Dn.Perm L' := by rw [hl0, List.map_nil, List.append_nil] at hpm; exact hpm
              have hcl : (Dn.filterMap (entP bound)).length ≤ 5737412434 := Nat.le_trans (List.length_filterMap_le ..) (by rw [hpm2.length_eq]; exact HFEW.out)
              obtain ⟨F7, h7, -, bk⟩ := hR.take pts_ok (star_ok iter_ok (star_ok obj_ok (star_ok cell_ok cell_ok)))
              have KS := hide (sort_own h7 (by omega))
              have HBK := hide bk
              have HPM := hide (hpm2.filterMap (entP bound))
              clear hpm hpm2 hcl h7 bk hmem hl0 hFI hFB hR hlen
              generalize Dn.filterMap (entP bound) = C at *
              generalize wr = w6 at *
              go_wp2_with fail
              refine KS.out.mono ?_
              rintro e9 w7 ⟨rfl, C', hp1, hp2, hp3⟩
              have H7 := hide (HBK.out _ _ hp3)
              have HLN := hide hp1.length_eq
              have HCE := hide (cert_of (W := W) (bound := bound) HKN.out HMEM.out HRCH.out (hp1.trans HPM.out) hp2)
              clear KS HBK hp1 hp2 hp3 hnx
              rw [← HLN.out]
              dsimp only
              go_wp2
              refine bodyPost_ret (results_tmp2 rfl _ _ _) rfl ?_
              have h8 := (((Run.begin w).below emp_ok HB2.out).fresh emp_ok ((H7.out.swap.drop).post pts_ok))
              refine ⟨A, c, C', 0, rfl, .some C' HOK.out HB01.out.1 HB01.out.2 ?_ ?_, (h8.swap.drop).post pts_ok⟩
              · rw [← HWe.out, ← HDD.out]; omega
              · rw [← HWe.out]; exact HCE.out
            · have hdl : Dn.length ≤ 5737412434 := by
                have := hpm.length_eq
                rw [List.length_append] at this
                have h9 := HFEW.out
                omega
              have hcl : (Dn.filterMap (entP bound)).length ≤ 5737412434 := Nat.le_trans (List.length_filterMap_le ..) hdl
              obtain ⟨F7, h7, -, bk⟩ := (hR.rot).take iter_ok (star_ok pts_ok (star_ok obj_ok (star_ok cell_ok cell_ok)))
              have h8 := bk (IterO gi bm es clock (left.eraseIdx i)) w6 ⟨F7, ⟨hit1, h7.2⟩, hm1.mono (fun j _ hj => (h7.2 j).2 hj), fun i hi => .inl hi⟩
              have R8 := hide (h8.rot)
              obtain ⟨FB2, hFB2⟩ := h8.drop.drop.fst
              have hen := hen1 w6 rfl hFB2.1
              obtain ⟨hkey, hval⟩ := HDEC.out.2 _ (hmem _ (List.getElem_mem hi))
              rw [hkey, hval] at hnx hen
              have HPM := hide (perm_step hi hpm)
              have HMM := hide (fun e (he : e ∈ left.eraseIdx i) => hmem e (List.mem_of_mem_eraseIdx he))
              have HL2 := hide (show (left.eraseIdx i).length = left.length - 1 by rw [List.length_eraseIdx, if_pos hi])
              have HI := hide hi
              have HST := hide (entP_step bound Dn (decE left[i]))
              generalize decE left[i] = q at HPM HST hnx hen
              obtain ⟨⟨qi, qj, qa, qr⟩, qv⟩ := q
              unfold stV stC at hnx hen
              dsimp only at hnx hen HST
              have okX : (star (IterO gi bm es clock (left.eraseIdx i)) (star (ObjO bm (.map es clock)) (star (CellO gc #[.slice pa.A W.rs.length pa.c, .int .i64 W.ka, .int .i64 W.kb, .slice pa.L W.l.length pa.lc, .slice pa.M W.m.length pa.mc, .int .i64 W.l.length, .int .i64 W.m.length, .string (bs []), .bool false, .map (some bm)] 69) (CellO gp #[.slice pa.A W.rs.length pa.c, .int .i64 W.ka, .int .i64 W.kb, .slice pa.L W.l.length pa.lc, .slice pa.M W.m.length pa.mc, .int .i64 W.l.length, .int .i64 W.m.length, .string (bs []), .bool false] 64)))).Ok := star_ok iter_ok (star_ok obj_ok (star_ok cell_ok cell_ok))
              have R9 := hide (run_new R8.out (star_ok pts_ok okX) #[.int .i64 qi, .int .i64 qj, .string (bs qa), .bool qr] 62)
              have OKX := hide okX
              clear hpm hdl h7 bk h8 hFB2 hkey hval hen1 hmem hFI hFB hR hit1 hm1 hsz1 okX R8
              generalize hCn : Dn.filterMap (entP bound) = C at *
              generalize Dn ++ [(({ i := qi, j := qj, a := qa, r := qr } : St), qv)] = D2 at HPM HST
              by_cases hmn : 0 < min qv bound
              · rw [if_pos hmn] at HST
                obtain ⟨F9, hF9⟩ := R9.out.fst
                have z0 := cell_at (i := 0) hF9 rfl
                have z1 := cell_at (i := 1) hF9 rfl
                have z2 := cell_at (i := 2) hF9 rfl
                have z3 := cell_at (i := 3) hF9 rfl
                have R10 := hide (R9.out.drop)
                have HCN := hide hCn
                clear hF9 R9 hCn
                go_wp2_with (at_builtin; refine held ?_)
                refine Held.mk (app_pts rfl (.tmp 60) (.tmp 71) rfl ⟨qi, qj, qa, qr, min qv bound⟩ rfl rfl (by rw [World.size_alloc]; rfl) (by omega) OKX.out R10.out ?_)
                intro A' c' w8 hr8
                have R11 := hide hr8
                have HLC : C.length + 1 = (D2.filterMap (entP bound)).length := by rw [HST.out, List.length_append]; rfl
                have HST2 := hide (show D2.filterMap (entP bound) = C ++ [⟨qi, qj, qa, qr, min qv bound⟩] from HST.out)
                rw [HLC]
                clear hr8 R10 HLC z0 z1 z2 z3 hcl hnx hen
                go_wp2_with fail
                go_roundg (left.length - 1)
                case measure => have := HI.out; omega
                case rel => exact ⟨left.eraseIdx i, D2, A', c', HL2.out, rfl, HPM.out, HMM.out, by rw [HST2.out]; exact R11.out⟩
              · rw [if_neg hmn] at HST
                have R10 := hide (R9.out.drop)
                have HCN := hide hCn
                have HST2 := hide (show D2.filterMap (entP bound) = C from by rw [HST.out, List.append_nil])
                clear R9 hCn
                go_wp2_with fail
                rw [← HST2.out]
                go_roundg (left.length - 1)
                case measure => have := HI.out; omega
                case rel => exact ⟨left.eraseIdx i, D2, A, c, HL2.out, rfl, HPM.out, HMM.out, by rw [HST2.out]; exact R10.out⟩
end Go.Proofs.YtnppgomhhcbplaaGreatDoor
namespace Go.Proofs.YtnppgomhhcbplaaGreatDoor
open Go.RowKit Go.CH Go.CH.Scr Go.CH.Pot
open Go.ChangeMaps (setBlock)
/-- What Check answers. -/
def CheckRet (w : World) (T : Tab) (k : Int) (x : Bs) (k2 : Int) (y : Bs) (bound : Int) (C : List Pt) (e : Ending) (w' : World) : Prop :=
  ∃ b : Bool, e = .returned (.bool b) ∧ (b = true ↔ CheckP T k x k2 y bound C) ∧ Below w.heap.size w w'
/-- What the first round has seen. -/
def seenP (W : Wd) (bound : Int) (C : List Pt) (n : Nat) : Prop := (∀ p ∈ C.take n, proper W bound p = true) ∧ (C.take n).Pairwise ltP
def hts (C : List Pt) : List (St × Int) := C.map fun p => (p.st, p.h)
section
variable {W : Wd} {bound : Int} {C : List Pt} {n : Nat}
theorem seen_zero : seenP W bound C 0 := ⟨by simp, by simp⟩
theorem seen_all (h : Holds W bound C) : seenP W bound C n := ⟨fun p hp => h.1 p (List.mem_of_mem_take hp), h.2.1.sublist (List.take_sublist _ _)⟩
theorem seen_succ (hn : n < C.length) (h : seenP W bound C n) (h1 : proper W bound C[n] = true) (h2 : 0 < n → ltP (C[n - 1]'(by omega)) C[n]) : seenP W bound C (n + 1) := by
  obtain ⟨g1, g2⟩ := h
  have e := List.take_succ_eq_append_getElem hn
  refine ⟨fun p hp => ?_, ?_⟩
  · rw [e] at hp
    rcases List.mem_append.1 hp with hp | hp
    · exact g1 p hp
    · rw [List.mem_singleton.1 hp]; exact h1
  · rw [e, List.pairwise_append]
    refine ⟨g2, List.pairwise_singleton _ _, fun a ha b hb => ?_⟩
    rw [List.mem_singleton.1 hb]
    obtain ⟨j, hj, rfl⟩ := List.mem_iff_getElem.1 ha
    rw [List.length_take] at hj
    rw [List.getElem_take]
    have h3 := h2 (by omega)
    by_cases hjn : j = n - 1
    · subst hjn; exact h3
    · have h4 := List.pairwise_iff_getElem.1 g2 j (n - 1) (by rw [List.length_take]; omega) (by rw [List.length_take]; omega) (by omega)
      rw [List.getElem_take, List.getElem_take] at h4
      exact ltP_trans h4 h3
theorem seen_no1 (hn : n < C.length) (h1 : proper W bound C[n] = false) : ¬ Holds W bound C := fun h => by
  have := h.1 C[n] (List.getElem_mem hn)
  rw [h1] at this; cases this
theorem seen_no2 (hn : n < C.length) (h0 : 0 < n) (h2 : ¬ ltP (C[n - 1]'(by omega)) C[n]) : ¬ Holds W bound C := fun h =>
  h2 (List.pairwise_iff_getElem.1 h.2.1 (n - 1) n (by omega) hn (by omega))
theorem proper_pos {p : Pt} (h : proper W bound p = true) : 0 ≤ p.i ∧ 0 ≤ p.j := by
  have := proper_iff.1 h
  exact ⟨this.1.1, this.2.1.1⟩
/-- The heights of what was seen, as a map. -/
theorem hts_new (hn : n < C.length) (h : seenP W bound C (n + 1)) : C[n].st ∉ (hts (C.take n)).map (·.1) := by
  intro hm
  unfold hts at hm
  rw [List.map_map] at hm
  obtain ⟨p, hp, e⟩ := List.mem_map.1 hm
  obtain ⟨g1, g2⟩ := h
  rw [List.take_succ_eq_append_getElem hn] at g1 g2
  have h1 := proper_pos (g1 p (List.mem_append_left _ hp))
  have h2 := proper_pos (g1 C[n] (List.mem_append_right _ (List.mem_singleton.2 rfl)))
  have h3 := (List.pairwise_append.1 g2).2.2 p hp C[n] (List.mem_singleton.2 rfl)
  have h4 := st_inj h1 h2 e
  unfold ltP at h3
  rcases h3 with h3 | ⟨-, h3 | ⟨-, h3 | ⟨-, h3, h5⟩⟩⟩
  · omega
  · omega
  · rw [h4.2.2.1] at h3; exact lta_irr _ h3
  · rw [h4.2.2.2, h5] at h3; cases h3
theorem hts_snoc (hn : n < C.length) : hts (C.take (n + 1)) = hts (C.take n) ++ [(C[n].st, C[n].h)] := by
  unfold hts
  rw [List.take_succ_eq_append_getElem hn, List.map_append]; rfl
theorem mget_hts {s : St} : (mget ((hts C).map fun p => (p.1, Value.int .i64 p.2)) s).getD (.int .i64 0) = .int .i64 (hgt C s) := by
  unfold hgt
  induction C with
  | nil => rfl
  | cons p C ih =>
    show (mget ((p.st, Value.int .i64 p.h) :: ((hts C).map fun p => (p.1, Value.int .i64 p.2))) s).getD _ = _
    rw [mget_cons, List.find?_cons]
    by_cases h : s = p.st
    · rw [if_pos h, decide_eq_true h.symm]; rfl
    · rw [if_neg h, decide_eq_false (fun e => h e.symm)]; exact ih
end
end Go.Proofs.YtnppgomhhcbplaaGreatDoor
namespace Go.CH
open Go.RowKit
def markD (D : Nat) : Deferred := { target := .collected D, args := #[] }
def marksO (Ds : List Nat) : Own := bigStar (Ds.map fun D => ObjO D (.deferred (some [])))
theorem marks_ok {Ds : List Nat} : (marksO Ds).Ok := big_ok (fun A hA => by obtain ⟨z, _, rfl⟩ := List.mem_map.1 hA; exact obj_ok)
theorem marks_cons (D : Nat) (Ds : List Nat) : marksO (D :: Ds) = star (ObjO D (.deferred (some []))) (marksO Ds) := rfl
theorem leaves_marks {P : Program} {fn : Func} {tmps : Array Value} {R : Ending → World → Prop} {n : Nat} {F0 : Nat → Prop} {w0 : World} {X : Own} (hX : X.Ok)
    (hbase : ∀ W, Run F0 w0 X W → ∃ v, (results fn tmps).run P W = .ok v W ∧ R (.returned v) W) : ∀ (Ds : List Nat) (W : World), Run F0 w0 (star (marksO Ds) X) W → LeavesInM Fence.wide n P fn tmps R (Ds.map markD) .returning W
  | [], W, h => hbase W h.drop
  | D :: Ds, W, h => by
    have h1 : Run F0 w0 (star (ObjO D (.deferred (some []))) (star (marksO Ds) X)) W := h.perm (by unfold marksO; rw [List.map_cons]; show star (star _ _) _ = _; ac_rfl)
    obtain ⟨F, hD, -, bk⟩ := h1.take obj_ok (star_ok marks_ok hX)
    refine ⟨by simp, .inl ⟨_, _, rfl, run_takeDeferred hD.1, ?_⟩⟩
    exact leaves_marks hX hbase Ds _ (bk _ _ (obj_put hD (.deferred none))).drop
theorem arr_of (tm : Array Value) (n : Nat) (h : tm.size = n) : tm = ((List.range n).map fun i => tm.getD i undef).toArray := by
  refine Array.ext (by simp [h]) fun i h1 h2 => ?_
  simp [h1]
/-- How many entries an iterator still has to hand out. -/
def leftOfE (es : Array MapEntry) (r : Nat) (w : World) : Nat := match w.heap[r]? with
  | some (.mapIter _ _ seen _) => (es.toList.filter (fun e => !seen.contains e.born)).length
  | _ => 0
end Go.CH
namespace Go.Proofs.YtnppgomhhcbplaaGreatDoor
open Go.RowKit Go.CH Go.CH.Scr Go.CH.Pot
open Go.ChangeMaps (setBlock)
def stepsQ (W : Wd) (C : List Pt) (q : St × Int) : Prop := ∀ x ∈ W.moves q.1, q.2 ≤ x.1 + hgt C x.2
def stepsI (W : Wd) (C : List Pt) (q : St × Int) (i : Nat) : Prop := ∀ j (hj : j < (W.moves q.1).length), j < i → q.2 ≤ (W.moves q.1)[j].1 + hgt C (W.moves q.1)[j].2
theorem stepsI_zero {W : Wd} {C : List Pt} {q : St × Int} : stepsI W C q 0 := fun j _ h => absurd h (Nat.not_lt_zero _)
theorem stepsI_succ {W : Wd} {C : List Pt} {q : St × Int} {i : Nat} {x : Int × St} (hx : (W.moves q.1)[i]? = some x) (h : stepsI W C q i) (h2 : q.2 ≤ x.1 + hgt C x.2) : stepsI W C q (i + 1) := fun j hj hji => by
  by_cases e : j = i
  · subst e
    rw [List.getElem?_eq_getElem hj] at hx
    injection hx with hx
    rw [hx]; exact h2
  · exact h j hj (by omega)
theorem stepsI_all {W : Wd} {C : List Pt} {q : St × Int} (h : stepsI W C q (W.moves q.1).length) : stepsQ W C q := fun x hx => by
  obtain ⟨j, hj, rfl⟩ := List.mem_iff_getElem.1 hx
  exact h j hj hj
theorem steps_no {W : Wd} {C : List Pt} {q : St × Int} {x : Int × St} (hx : x ∈ W.moves q.1) (h : ¬ q.2 ≤ x.1 + hgt C x.2) : ¬ stepsQ W C q := fun h2 => h (h2 x hx)
theorem holds_no {W : Wd} {bound : Int} {C : List Pt} {q : St × Int} (hq : q ∈ hts C) (h : ¬ stepsQ W C q) : ¬ Holds W bound C := fun h2 => by
  unfold hts at hq
  obtain ⟨p, hp, rfl⟩ := List.mem_map.1 hq
  refine h (fun x hx => ?_)
  have := List.all_eq_true.1 (h2.2.2.1 p hp) x hx
  simpa using this
theorem holds_yes {W : Wd} {bound : Int} {C : List Pt} {D : List (St × Int)} (h0 : (∀ p ∈ C, proper W bound p = true) ∧ C.Pairwise ltP) (hp : D.Perm (hts C)) (h : ∀ q ∈ D, stepsQ W C q) (hb : bound ≤ hgt C st0) : Holds W bound C := by
  refine ⟨h0.1, h0.2, fun p hpC => ?_, hb⟩
  have h1 := h (p.st, p.h) (hp.mem_iff.2 (List.mem_map.2 ⟨p, hpC, rfl⟩))
  exact List.all_eq_true.2 fun x hx => decide_eq_true (h1 x hx)
theorem hgt_in {W : Wd} {bound : Int} {C : List Pt} (h : ∀ p ∈ C, proper W bound p = true) (s : St) : 0 ≤ hgt C s ∧ hgt C s ≤ 100000 := by
  unfold hgt
  cases hf : C.find? (fun p => decide (p.st = s)) with
  | none => simp
  | some p =>
    have := proper_iff.1 (h p (List.mem_of_find?_eq_some hf))
    exact ⟨by have := this.2.2.2.2.2.1; simp only; omega, this.2.2.2.2.2.2.2⟩
theorem hts_st {W : Wd} {bound : Int} {C : List Pt} (h : ∀ p ∈ C, proper W bound p = true) {q : St × Int} (hq : q ∈ hts C) : W.ok q.1 ∧ q.1.a.length ≤ 3 ∧ 0 ≤ q.2 ∧ q.2 ≤ 100000 := by
  unfold hts at hq
  obtain ⟨p, hp, rfl⟩ := List.mem_map.1 hq
  have g := proper_iff.1 (h p hp)
  refine ⟨⟨?_, ?_, g.2.2.2.1⟩, g.2.2.1.1, by have := g.2.2.2.2.2.1; show 0 ≤ p.h; omega, g.2.2.2.2.2.2.2⟩
  · show p.i.toNat ≤ W.l.length; have := g.1; omega
  · show p.j.toNat ≤ W.m.length; have := g.2.1; omega
/-- What Check owns in its second loop. -/
def Ch2 (W : Wd) (pa : PA) (es : Array MapEntry) (clock bm gm gp gr gi : Nat) (left : List MapEntry) (Ds : List Nat) : CH.Own :=
  star (IterO gi bm es clock left) (star (ObjO bm (.map es clock)) (star (CellO gm #[.map (some bm)] 67) (star (CellO gp (pairC W pa) 64) (star (CellO gr #[.bool false] 4) (marksO Ds)))))
theorem ch2_ok {W : Wd} {pa : PA} {es : Array MapEntry} {clock bm gm gp gr gi : Nat} {left : List MapEntry} {Ds : List Nat} : (Ch2 W pa es clock bm gm gp gr gi left Ds).Ok :=
  star_ok iter_ok (star_ok obj_ok (star_ok cell_ok (star_ok cell_ok (star_ok cell_ok marks_ok))))
theorem ch2_get {C : List Pt} {es : Array MapEntry} {clock bm : Nat} {w : World} (h : w.heap[bm]? = some (.map es clock)) (he : Ents stV es clock ((hts C).map fun p => (p.1, Value.int .i64 p.2))) (s : St) :
    (Instr.lookup 67 (.map (some bm)) (.agg #[.int .i64 s.i, .int .i64 s.j, .string (bs s.a), .bool s.r]) false).run Tryz.prog w = .ok (.int .i64 (hgt C s)) w := by
  have hm : StM bm (hts C) w (fun i => i = bm) := ⟨⟨es, clock, h, he⟩, fun i => Iff.rfl⟩
  have h1 := mapO_get keyOk_st Tryz.underlying67 Tryz.zeroValue3 hm s
  rw [mget_hts] at h1
  exact h1
/-- What is true at the head of the second loop. -/
def C2I (F : Nat → Prop) (w1 : World) (W : Wd) (pa : PA) (C : List Pt) (bound : Int) (es : Array MapEntry) (clock bm gm gp gr gi : Nat) (a : Act) (wr : World) : Prop :=
  ∃ (v : Nat → Value) (Ds : List Nat) (left : List MapEntry) (Dn : List (St × Int)), (Run F w1 (Ch2 W pa es clock bm gm gp gr gi left Ds) wr ∧ (Dn ++ left.map decE).Perm (hts C) ∧ (∀ e ∈ left, e ∈ es.toList) ∧ ∀ q ∈ Dn, stepsQ W C q) ∧
    a = { tmps := #[v 0, v 1, v 2, v 3, v 4, .int .i64 bound, v 6, v 7, v 8, v 9, v 10, v 11, v 12, v 13, .pointer (some ⟨gr, 0, none⟩), .pointer (some ⟨gp, 0, none⟩), v 16, .pointer (some ⟨gm, 0, none⟩), v 18, v 19, v 20, v 21, v 22, v 23, v 24, v 25, v 26, v 27, v 28, v 29, v 30, v 31, v 32, v 33, v 34, v 35, v 36, v 37, v 38, v 39, v 40, v 41, v 42, v 43, v 44, v 45, v 46, v 47, v 48, v 49, v 50, v 51, v 52, v 53, v 54, v 55, v 56, v 57, v 58, v 59, v 60, v 61, v 62, v 63, v 64, v 65, v 66, v 67, v 68, v 69, v 70, v 71, v 72, v 73, v 74, v 75, .pointer (some ⟨gi, 0, none⟩), v 77, v 78, v 79, v 80, v 81, v 82, v 83, v 84, v 85, v 86, v 87, v 88, v 89, v 90, v 91, v 92, v 93, v 94, v 95, v 96, v 97, v 98], defers := Ds.map markD }
theorem c2_form {bound : Int} {gr gp gm gi : Nat} (tm : Array Value) (h : tm.size = 99) (h5 : tm.getD 5 undef = .int .i64 bound) (h14 : tm.getD 14 undef = .pointer (some ⟨gr, 0, none⟩)) (h15 : tm.getD 15 undef = .pointer (some ⟨gp, 0, none⟩)) (h17 : tm.getD 17 undef = .pointer (some ⟨gm, 0, none⟩)) (h76 : tm.getD 76 undef = .pointer (some ⟨gi, 0, none⟩)) :
    ∃ v : Nat → Value, tm = #[v 0, v 1, v 2, v 3, v 4, .int .i64 bound, v 6, v 7, v 8, v 9, v 10, v 11, v 12, v 13, .pointer (some ⟨gr, 0, none⟩), .pointer (some ⟨gp, 0, none⟩), v 16, .pointer (some ⟨gm, 0, none⟩), v 18, v 19, v 20, v 21, v 22, v 23, v 24, v 25, v 26, v 27, v 28, v 29, v 30, v 31, v 32, v 33, v 34, v 35, v 36, v 37, v 38, v 39, v 40, v 41, v 42, v 43, v 44, v 45, v 46, v 47, v 48, v 49, v 50, v 51, v 52, v 53, v 54, v 55, v 56, v 57, v 58, v 59, v 60, v 61, v 62, v 63, v 64, v 65, v 66, v 67, v 68, v 69, v 70, v 71, v 72, v 73, v 74, v 75, .pointer (some ⟨gi, 0, none⟩), v 77, v 78, v 79, v 80, v 81, v 82, v 83, v 84, v 85, v 86, v 87, v 88, v 89, v 90, v 91, v 92, v 93, v 94, v 95, v 96, v 97, v 98] := by
  have e : tm = #[tm.getD 0 undef, tm.getD 1 undef, tm.getD 2 undef, tm.getD 3 undef, tm.getD 4 undef, tm.getD 5 undef, tm.getD 6 undef, tm.getD 7 undef, tm.getD 8 undef, tm.getD 9 undef, tm.getD 10 undef, tm.getD 11 undef, tm.getD 12 undef, tm.getD 13 undef, tm.getD 14 undef, tm.getD 15 undef, tm.getD 16 undef, tm.getD 17 undef, tm.getD 18 undef, tm.getD 19 undef, tm.getD 20 undef, tm.getD 21 undef, tm.getD 22 undef, tm.getD 23 undef, tm.getD 24 undef, tm.getD 25 undef, tm.getD 26 undef, tm.getD 27 undef, tm.getD 28 undef, tm.getD 29 undef, tm.getD 30 undef, tm.getD 31 undef, tm.getD 32 undef, tm.getD 33 undef, tm.getD 34 undef, tm.getD 35 undef, tm.getD 36 undef, tm.getD 37 undef, tm.getD 38 undef, tm.getD 39 undef, tm.getD 40 undef, tm.getD 41 undef, tm.getD 42 undef, tm.getD 43 undef, tm.getD 44 undef, tm.getD 45 undef, tm.getD 46 undef, tm.getD 47 undef, tm.getD 48 undef, tm.getD 49 undef, tm.getD 50 undef, tm.getD 51 undef, tm.getD 52 undef, tm.getD 53 undef, tm.getD 54 undef, tm.getD 55 undef, tm.getD 56 undef, tm.getD 57 undef, tm.getD 58 undef, tm.getD 59 undef, tm.getD 60 undef, tm.getD 61 undef, tm.getD 62 undef, tm.getD 63 undef, tm.getD 64 undef, tm.getD 65 undef, tm.getD 66 undef, tm.getD 67 undef, tm.getD 68 undef, tm.getD 69 undef, tm.getD 70 undef, tm.getD 71 undef, tm.getD 72 undef, tm.getD 73 undef, tm.getD 74 undef, tm.getD 75 undef, tm.getD 76 undef, tm.getD 77 undef, tm.getD 78 undef, tm.getD 79 undef, tm.getD 80 undef, tm.getD 81 undef, tm.getD 82 undef, tm.getD 83 undef, tm.getD 84 undef, tm.getD 85 undef, tm.getD 86 undef, tm.getD 87 undef, tm.getD 88 undef, tm.getD 89 undef, tm.getD 90 undef, tm.getD 91 undef, tm.getD 92 undef, tm.getD 93 undef, tm.getD 94 undef, tm.getD 95 undef, tm.getD 96 undef, tm.getD 97 undef, tm.getD 98 undef] := (arr_of tm 99 h).trans rfl
  rw [h5, h14, h15, h17, h76] at e
  exact ⟨fun i => tm.getD i undef, e⟩
theorem c2_mk {F : Nat → Prop} {w1 wr : World} {W : Wd} {pa : PA} {C : List Pt} {bound : Int} {es : Array MapEntry} {clock bm gm gp gr gi : Nat} {tm : Array Value} {df : List Deferred} (Ds : List Nat) {left : List MapEntry} {Dn : List (St × Int)} (h : tm.size = 99) (h5 : tm.getD 5 undef = .int .i64 bound) (h14 : tm.getD 14 undef = .pointer (some ⟨gr, 0, none⟩)) (h15 : tm.getD 15 undef = .pointer (some ⟨gp, 0, none⟩)) (h17 : tm.getD 17 undef = .pointer (some ⟨gm, 0, none⟩)) (h76 : tm.getD 76 undef = .pointer (some ⟨gi, 0, none⟩)) (hd : df = Ds.map markD)
    (hR : Run F w1 (Ch2 W pa es clock bm gm gp gr gi left Ds) wr) (hp : (Dn ++ left.map decE).Perm (hts C)) (hm : ∀ e ∈ left, e ∈ es.toList) (hq : ∀ q ∈ Dn, stepsQ W C q) : C2I F w1 W pa C bound es clock bm gm gp gr gi { tmps := tm, defers := df } wr := by
  obtain ⟨v, hv⟩ := c2_form tm h h5 h14 h15 h17 h76
  subst hd
  exact ⟨v, Ds, left, Dn, ⟨hR, hp, hm, hq⟩, by rw [hv]⟩
theorem left_of {F : Nat → Prop} {w1 wr : World} {es : Array MapEntry} {clock bm gi : Nat} {left : List MapEntry} {X : CH.Own} (h : Run F w1 (star (IterO gi bm es clock left) X) wr) : leftOfE es gi wr = left.length := by
  obtain ⟨f, hf⟩ := h.fst
  obtain ⟨seen, h1, h2⟩ := hf.1
  unfold leftOfE
  rw [h1, h2]
end Go.Proofs.YtnppgomhhcbplaaGreatDoor
