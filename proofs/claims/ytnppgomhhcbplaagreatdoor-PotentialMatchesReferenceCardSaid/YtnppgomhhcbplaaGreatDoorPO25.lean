/-
  The reference of layer 12: Check.
-/
import Derived.Test.YtnppgomhhcbplaaGreatDoorPO24
import Derived.Test.YtnppgomhhcbplaaGreatDoorPO16
import Derived.Deep.DeepCutAuto
set_option linter.unusedSimpArgs false
set_option linter.unusedVariables false
namespace Go.Proofs.YtnppgomhhcbplaaGreatDoor
open Go.RowKit Go.CH Go.CH.Scr Go.CH.Pot
open Go.ChangeMaps (setBlock)
set_option maxRecDepth 100000
theorem check_no {w w' : World} {T : Tab} {k k2 bound : Int} {x y : Bs} {C : List Pt} (h : ¬ CheckP T k x k2 y bound C) (hb : Below w.heap.size w w') : CheckRet w T k x k2 y bound C (.returned (.bool false)) w' :=
  ⟨false, rfl, ⟨(fun e => by cases e), (fun h2 => absurd h2 h)⟩, hb⟩
theorem check_of {w w' : World} {T : Tab} {k k2 bound : Int} {x y : Bs} {C : List Pt} {b : Bool} (h : b = true ↔ CheckP T k x k2 y bound C) (hb : Below w.heap.size w w') : CheckRet w T k x k2 y bound C (.returned (.bool b)) w' :=
  ⟨b, rfl, h, hb⟩
theorem proper_ok {W : Wd} {bound : Int} {p : Pt} (h : proper W bound p = true) : W.ok p.st ∧ p = ⟨p.st.i, p.st.j, p.st.a, p.st.r, p.h⟩ ∧ 0 < p.h ∧ p.h ≤ 100000 := by
  obtain ⟨⟨h1, h2⟩, ⟨h3, h4⟩, h5, h6, -, h8, h9, h10⟩ := proper_iff.1 h
  obtain ⟨i, j, a, r, v⟩ := p
  unfold Pt.st Wd.ok
  dsimp only at *
  refine ⟨⟨by omega, by omega, h6⟩, ?_, h8, h10⟩
  rw [Int.toNat_of_nonneg h1, Int.toNat_of_nonneg h3]
theorem hgt_bnd {C : List Pt} (h : ∀ p ∈ C, 0 < p.h ∧ p.h ≤ 100000) (s : St) : 0 ≤ hgt C s ∧ hgt C s ≤ 100000 := by
  rcases hgt_cases C s with ⟨p, hp, -, e⟩ | ⟨-, e⟩
  · have := h p hp; omega
  · omega
set_option maxHeartbeats 16000000 in
theorem rcheck_any {w : World} {T : Tab} {a : TA} (hT : TabR w T a) (k : Int) (x : Bs) (k2 : Int) (y : Bs) (bound : Int) (hx : x.length ≤ 1000000) (hy : y.length ≤ 1000000)
    {B : Option Addr} {c : Nat} {C : List Pt} (hC : PtsR w B C) (hl : C.length ≤ 1000000) (hsa : ∀ p ∈ C, p.a.length ≤ 1000000) :
    Calls Tryz.prog 18 #[tabV T a, .int .i64 k, .string (bs x), .int .i64 k2, .string (bs y), .int .i64 bound, .slice B C.length c] w (CheckRet w T k x k2 y bound C) := by
  have HT := hide hT
  have HC := hide hC
  have HL := hide hl
  have HSZ := hide hsa
  have h1 := run_new (Run.begin w) emp_ok (tabC T a) 25
  have H1 := hide h1
  have KO1 := hide (ropen_any k x (w.alloc (.cells (tabC T a) 25)) hx)
  have KO2 := hide (fun W => ropen_any k2 y W hy)
  have KV := hide (fun W (hb : Below w.heap.size w W) => rvalid_any (hT.below hb))
  have KS := hide (fun W (p : Pt) (ha : p.a.length ≤ 1000000) => (show Calls Tryz.prog 34 #[.string (bs p.a)] W (BelowRet W (.bool (formN p.a))) from by
    have := rsmall12_any (bs p.a) W (by rw [bs_size]; exact ha)
    rw [bl_bs] at this
    exact this))
  have KMV := hide (fun (hok : okW T k x k2 y = true) W (hb : Below w.heap.size w W) A c B d (hA : Vst W A (openN k x).1) (hB : Vst W B (openN k2 y).1) (s : St) (h0 : Int) (hs : (wdOf T k x k2 y).ok s) (ha : s.a.length ≤ 1000000) => (show Calls Tryz.prog 36 #[tabV T a, .int .i64 k, .slice A (openN k x).1.length c, .int .i64 k2, .slice B (openN k2 y).1.length d, .agg #[.int .i64 s.i, .int .i64 s.j, .string (bs s.a), .bool s.r, .int .i64 h0]] W (MovRet (wdOf T k x k2 y) s W) from by
    obtain ⟨e1, e2⟩ := wdOf_opens hok
    have hv := (okW_iff.1 hok).2.2
    have o1 := openN_small k x hx
    have o2 := openN_small k2 y hy
    have := rmoves_any (W := wdOf T k x k2 y) (s := s) (h0 := h0) (w := W) (T := T) (a := a) (X := A) (Y := B) (xc := c) (yc := d) (hT.below hb) rfl (by rw [e1]; exact hA) (by rw [e2]; exact hB) hs ha (by rw [e1]; exact ⟨by omega, o1.2⟩) (by rw [e2]; exact ⟨by omega, o2.2⟩) (use_ok hv)
    rw [e1, e2] at this
    exact this))
  clear hT h1 hx hy hC hl hsa
  unfold tabV at KV KMV ⊢
  unfold tabC at H1 KO1 KV KMV ⊢
  generalize hn1 : T.rs.length = n1 at *
  generalize hn2 : T.ds.length = n2 at *
  generalize hn3 : T.es.length = n3 at *
  clear hn1 hn2 hn3
  obtain ⟨nc, hnc⟩ : ∃ n, n = C.length := ⟨_, rfl⟩
  have HNC := hide hnc
  rw [← hnc]
  clear hnc
  have hncb : (nc : Int) ≤ 1000000 := by have := HL.out; rw [← HNC.out] at this; omega
  have HOK := hide (okW_opens (T := T) (k := k) (k2 := k2) (x := x) (y := y))
  obtain ⟨aA, ac, aD, ad, aE, ae⟩ := a
  dsimp only at H1 KO1 KV KMV ⊢
  unfold ROpenRet at KO1 KO2
  go_enter Tryz.func18, Tryz.ntmps18
  go_wp2_with fail
  refine KO1.out.mono ?_
  rintro e9 w2 ⟨A1, c1, rfl, hp⟩
  have okB := hide (star_ok cell_ok emp_ok : (star (CellO w.heap.size #[.slice aA n1 ac, .slice aD n2 ad, .slice aE n3 ae, .int .i64 T.drop, .int .i64 T.ord, .int .i64 T.ini] 25) emp).Ok)
  have H2 := hide (H1.out.fresh okB.out hp)
  clear hp KO1 H1
  generalize w.heap.size = g6 at H2 okB ⊢
  dsimp only
  go_wp2_with fail
  refine (KO2.out _).mono ?_
  rintro e9 w3 ⟨A2, c2, rfl, hp⟩
  have H3 := hide (H2.out.fresh (star_ok str_ok okB.out) hp)
  have okC := hide (star_ok str_ok (star_ok str_ok okB.out) : ((star (StrO A2 c2 (openN k2 y).1) (star (StrO A1 c1 (openN k x).1) (star (CellO g6 #[.slice aA n1 ac, .slice aD n2 ad, .slice aE n3 ae, .int .i64 T.drop, .int .i64 T.ord, .int .i64 T.ini] 25) emp)))).Ok)
  clear hp KO2 H2
  dsimp only
  obtain ⟨b0, b1, b2, b3, b4, b5⟩ := run_c6 H3.out.drop.drop
  have hbel := hide (show Below w.heap.size w w3 from H3.out.mod.below (fun _ _ h => h))
  have KV2 := hide (KV.out w3 hbel.out)
  clear KV
  go_wp2_with fail
  refine KV2.out.mono ?_
  rintro e9 w4 ⟨rfl, hb⟩
  have H4 := hide (H3.out.below okC.out hb)
  clear KV2 H3 hb b0 b1 b2 b3 b4 b5 hbel
  have HB4 := hide (show Below w.heap.size w w4 from H4.out.mod.below (fun _ _ h => h))
  dsimp only
  have HO1 := hide (show (openN k x).2 = (openN k x).2 from rfl)
  generalize ho1 : (openN k x).2 = o1 at *
  generalize ho2 : (openN k2 y).2 = o2 at *
  generalize hvt : validT T = vt at *
  clear ho1 ho2 hvt HO1
  cases vt with
  | false =>
    have hok : okW T k x k2 y = false := by rw [HOK.out, Bool.and_false, Bool.and_false]
    have HF := hide (check_no (w := w) (w' := w4) (T := T) (k := k) (k2 := k2) (x := x) (y := y) (bound := bound) (C := C) (fun h => by have := h.1; rw [hok] at this; cases this) HB4.out)
    go_wp2
    go_ret
    exact HF.out
  | true =>
    cases o1 with
    | false =>
      have hok : okW T k x k2 y = false := by rw [HOK.out]; rfl
      have HF := hide (check_no (w := w) (w' := w4) (T := T) (k := k) (k2 := k2) (x := x) (y := y) (bound := bound) (C := C) (fun h => by have := h.1; rw [hok] at this; cases this) HB4.out)
      go_wp2
      go_ret
      exact HF.out
    | true =>
      cases o2 with
      | false =>
        have hok : okW T k x k2 y = false := by rw [HOK.out]; rfl
        have HF := hide (check_no (w := w) (w' := w4) (T := T) (k := k) (k2 := k2) (x := x) (y := y) (bound := bound) (C := C) (fun h => by have := h.1; rw [hok] at this; cases this) HB4.out)
        go_wp2
        go_ret
        exact HF.out
      | true =>
        have hok : okW T k x k2 y = true := HOK.out
        have KM := hide (fun W hb A c B d hA hB s h0 hs ha => KMV.out hok W hb A c B d hA hB s h0 hs ha)
        have HYES := hide (show CheckP T k x k2 y bound C ↔ Holds (wdOf T k x k2 y) bound C from ⟨fun h => h.2, fun h => ⟨hok, h⟩⟩)
        have HWL := hide (wdOf_opens hok)
        have hlens := lens_of hok
        have HG := hide (good_of (a := k) (b := k2) (x := x) (y := y) (okW_iff.1 hok).2.2)
        have HR80 := hide (show (wdOf T k x k2 y).rs.length ≤ 80 from (validT_iff.1 (okW_iff.1 hok).2.2).1.2.1)
        have HLN := hide (show (wdOf T k x k2 y).l.length ≤ 12 ∧ (wdOf T k x k2 y).m.length ≤ 12 from ⟨hlens.2.1, hlens.2.2.2⟩)
        clear KMV HOK hok hlens HB4
        generalize wdOf T k x k2 y = W at *
        have HL1 := hide (show (openN k x).1.length = W.l.length by rw [HWL.out.1])
        have HL2 := hide (show (openN k2 y).1.length = W.m.length by rw [HWL.out.2])
        generalize hnl : (openN k x).1.length = nl at *
        generalize hnm : (openN k2 y).1.length = nm at *
        clear hnl hnm
        have hnlb : (nl : Int) ≤ 12 := by have := HLN.out.1; have := HL1.out; omega
        have hnmb : (nm : Int) ≤ 12 := by have := HLN.out.2; have := HL2.out; omega
        have HNO := hide (fun W' (h : ¬ Holds W bound C) (hb : Below w.heap.size w W') => check_no (w := w) (w' := W') (T := T) (k := k) (k2 := k2) (x := x) (y := y) (bound := bound) (C := C) (fun h2 => h (HYES.out.1 h2)) hb)
        go_wp2_with fail
        go_loopw [19] (fun kk wr => ∃ (n : Nat), kk = .int .i64 n ∧ n ≤ nc ∧ seenP W bound C n ∧ Run (fun _ => False) w (star (StrO A2 c2 (openN k2 y).1) (star (StrO A1 c1 (openN k x).1) (star (CellO g6 #[.slice aA n1 ac, .slice aD n2 ad, .slice aE n3 ae, .int .i64 T.drop, .int .i64 T.ord, .int .i64 T.ini] 25) emp))) wr) (fun kk _ => nc - (intOf kk).toNat)
        case atStart => exact ⟨0, rfl, Nat.zero_le _, seen_zero, H4.out⟩
        case round =>
          clear H4
          obtain ⟨n, rfl, hn, hs, hR⟩ := hrel
          have HR := hide hR
          have HS := hide hs
          clear hR hs
          by_cases hnl : n < nc
          · have hd1 : decide ((n : Int) < (nc : Int)) = true := decide_eq_true (by omega)
            have hnC : n < C.length := by rw [← HNC.out]; exact hnl
            have HBW := hide (show Below w.heap.size w wr from HR.out.mod.below (fun _ _ h => h))
            have hpk : ∃ p q : Pt, C[n] = p ∧ (0 < n → ∃ h : n - 1 < C.length, C[n - 1] = q) := by
              by_cases h0 : 0 < n
              · exact ⟨_, _, rfl, fun _ => ⟨by omega, rfl⟩⟩
              · exact ⟨_, ⟨0, 0, [], false, 0⟩, rfl, fun h => absurd h h0⟩
            obtain ⟨p, q, hCp, hCq⟩ := hpk
            obtain ⟨b, o, rfl, hc⟩ := PtsR.at HC.out (by omega)
            have HCN := hide (fun W' (hb : Below w.heap.size w W') => (show W'.cell? ⟨b, o + n * 5, none⟩ = some (.int .i64 p.i) ∧ W'.cell? ⟨b, o + n * 5 + 1, none⟩ = some (.int .i64 p.j) ∧ W'.cell? ⟨b, o + n * 5 + 2, none⟩ = some (.string (bs p.a)) ∧ W'.cell? ⟨b, o + n * 5 + 3, none⟩ = some (.bool p.r) ∧ W'.cell? ⟨b, o + n * 5 + 4, none⟩ = some (.int .i64 p.h) from by
              have := hc W' hb n hnC
              rw [hCp] at this
              exact this))
            have HCQ := hide (fun (h0 : 0 < n) (m : Nat) (hm : m + 1 = n) W' (hb : Below w.heap.size w W') => (show W'.cell? ⟨b, o + m * 5, none⟩ = some (.int .i64 q.i) ∧ W'.cell? ⟨b, o + m * 5 + 1, none⟩ = some (.int .i64 q.j) ∧ W'.cell? ⟨b, o + m * 5 + 2, none⟩ = some (.string (bs q.a)) ∧ W'.cell? ⟨b, o + m * 5 + 3, none⟩ = some (.bool q.r) ∧ W'.cell? ⟨b, o + m * 5 + 4, none⟩ = some (.int .i64 q.h) from by
              obtain ⟨hq1, hq2⟩ := hCq h0
              have := hc W' hb m (by omega)
              have em : m = n - 1 := by omega
              subst em
              rw [hq2] at this
              exact this))
            have HSU := hide (fun (h1 : proper W bound p = true) (h2 : 0 < n → ltP q p) => (show seenP W bound C (n + 1) from seen_succ hnC HS.out (by rw [hCp]; exact h1) (fun h0 => by
              obtain ⟨hq1, hq2⟩ := hCq h0
              rw [hq2, hCp]
              exact h2 h0)))
            have HX1 := hide (fun (h1 : proper W bound p = false) => seen_no1 (W := W) (bound := bound) hnC (by rw [hCp]; exact h1))
            have HX2 := hide (fun (h0 : 0 < n) (h2 : ¬ ltP q p) => seen_no2 (W := W) (bound := bound) hnC h0 (by
              obtain ⟨hq1, hq2⟩ := hCq h0
              rw [hq2, hCp]
              exact h2))
            have HPA := hide (HSZ.out p (by rw [← hCp]; exact List.getElem_mem hnC))
            have HN1 := hide (show n + 1 ≤ nc from hnl)
            have HPR := hide (proper_ref (W := W) (bound := bound) (p := p))
            have KS2 := hide (fun W' => KS.out W' p HPA.out)
            obtain ⟨r0, r1, r2, r3, r4⟩ := HCN.out _ HBW.out
            have hST : stN W p = (decide (0 ≤ p.i) && decide (p.i ≤ nl) && decide (0 ≤ p.j) && decide (p.j ≤ nm) && formN p.a && (!p.r || decide (p.a ≠ []))) := by unfold stN; rw [HL1.out, HL2.out]
            have hEN : enN W p = (decide (p.i = nl) && decide (p.j = nm) && decide (p.a = [])) := by unfold enN; rw [HL1.out, HL2.out]
            have hni : (n : Int) < (nc : Int) := by omega
            generalize stN W p = sN at *
            generalize enN W p = eN at *
            have HST := hide hST
            have HEN := hide hEN
            obtain ⟨pi, pj, pa, pr, ph⟩ := p
            dsimp only at r0 r1 r2 r3 r4 KS2 HST HEN HPR
            have HP := hide (show decide (1 ≤ ph) = decide (1 ≤ ph) from rfl)
            clear hnC hCp hCq hc hn hnl hST hEN HCN HP
            go_upto_region 9 with (fail)
            have H1 := hide (run_new HR.out okC.out #[.int .i64 pi, .int .i64 pj, .string (bs pa), .bool pr, .int .i64 ph] 37)
            have okR := hide (star_ok cell_ok okC.out : (star (CellO wr.heap.size #[.int .i64 pi, .int .i64 pj, .string (bs pa), .bool pr, .int .i64 ph] 37) (star (StrO A2 c2 (openN k2 y).1) (star (StrO A1 c1 (openN k x).1) (star (CellO g6 #[.slice aA n1 ac, .slice aD n2 ad, .slice aE n3 ae, .int .i64 T.drop, .int .i64 T.ord, .int .i64 T.ini] 25) emp)))).Ok)
            clear HR r0 r1 r2 r3 r4 HBW
            generalize wr.alloc (.cells #[.int .i64 pi, .int .i64 pj, .string (bs pa), .bool pr, .int .i64 ph] 37) = w1 at *
            generalize wr.heap.size = g20 at *
            obtain ⟨c0, c1', c2', c3, c4, cf⟩ := run_c5 H1.out
            go_cut [21] (fun v wx => v = .bool sN ∧ Run (fun _ => False) w (star (CellO g20 #[.int .i64 pi, .int .i64 pj, .string (bs pa), .bool pr, .int .i64 ph] 37) (star (StrO A2 c2 (openN k2 y).1) (star (StrO A1 c1 (openN k x).1) (star (CellO g6 #[.slice aA n1 ac, .slice aD n2 ad, .slice aE n3 ae, .int .i64 T.drop, .int .i64 T.ord, .int .i64 T.ini] 25) emp)))) wx)
            case first =>
              by_cases t1 : 0 ≤ pi
              · have d1 : decide (0 ≤ pi) = true := decide_eq_true t1
                by_cases t2 : pi ≤ nl
                · have d2 : decide (pi ≤ (nl : Int)) = true := decide_eq_true t2
                  by_cases t3 : 0 ≤ pj
                  · have d3 : decide (0 ≤ pj) = true := decide_eq_true t3
                    by_cases t4 : pj ≤ nm
                    · have d4 : decide (pj ≤ (nm : Int)) = true := decide_eq_true t4
                      have HSN := hide (show sN = (formN pa && (!pr || decide (pa ≠ []))) by rw [HST.out, d1, d2, d3, d4]; rfl)
                      clear t1 t2 t3 t4
                      go_wp2_with fail
                      refine (KS2.out _).mono ?_
                      rintro e9 w3 ⟨rfl, hb⟩
                      have H3 := hide (H1.out.below okR.out hb)
                      clear H1 hb c0 c1' c2' c3 c4 cf
                      obtain ⟨c0, c1', c2', c3, c4, cf⟩ := run_c5 H3.out
                      dsimp only
                      cases hfm : formN pa with
                      | false =>
                        have e : sN = false := by rw [HSN.out, hfm]; rfl
                        go_wp2
                        go_meet
                        exact ⟨by rw [e], H3.out⟩
                      | true =>
                        cases pr with
                        | false =>
                          have e : sN = true := by rw [HSN.out, hfm]; rfl
                          go_wp2
                          go_meet
                          exact ⟨by rw [e], H3.out⟩
                        | true =>
                          by_cases t5 : pa = []
                          · have d5 : (!((bs pa).toList == ([] : List UInt8))) = false := by rw [bs_empty.2 t5]; rfl
                            have d6 : ((bs pa).toList == ([] : List UInt8)) = true := by rw [bs_empty.2 t5]; rfl
                            have e : sN = false := by rw [HSN.out, hfm, decide_eq_false (fun h => h t5)]; rfl
                            clear t5
                            go_wp2
                            go_meet
                            exact ⟨by rw [e], H3.out⟩
                          · have d6 : ((bs pa).toList == ([] : List UInt8)) = false := beq_eq_false_iff_ne.2 (fun e => t5 (bs_empty.1 e))
                            have e : sN = true := by rw [HSN.out, hfm, decide_eq_true t5]; rfl
                            clear t5
                            go_wp2
                            go_meet
                            exact ⟨by rw [e], H3.out⟩
                    · have d4 : decide (pj ≤ (nm : Int)) = false := decide_eq_false t4
                      have e : sN = false := by rw [HST.out, d4]; simp
                      clear t1 t2 t3 t4
                      go_wp2
                      go_meet
                      exact ⟨by rw [e], H1.out⟩
                  · have d3 : decide (0 ≤ pj) = false := decide_eq_false t3
                    have e : sN = false := by rw [HST.out, d3]; simp
                    clear t1 t2 t3
                    go_wp2
                    go_meet
                    exact ⟨by rw [e], H1.out⟩
                · have d2 : decide (pi ≤ (nl : Int)) = false := decide_eq_false t2
                  have e : sN = false := by rw [HST.out, d2]; simp
                  clear t1 t2
                  go_wp2
                  go_meet
                  exact ⟨by rw [e], H1.out⟩
              · have d1 : decide (0 ≤ pi) = false := decide_eq_false t1
                have e : sN = false := by rw [HST.out, d1]; simp
                clear t1
                go_wp2
                go_meet
                exact ⟨by rw [e], H1.out⟩
            case rest =>
              obtain ⟨rfl, hR2⟩ := hcut
              have H2 := hide hR2
              clear hR2 H1 c0 c1' c2' c3 c4 cf
              obtain ⟨c0, c1', c2', c3, c4, cf⟩ := run_c5 H2.out
              go_upto_region 10 with (fail)
              obtain ⟨wd, hwd⟩ : ∃ wd, wd = wc := ⟨_, rfl⟩
              rw [← hwd] at H2 c0 c1' c2' c3 c4 cf ⊢
              clear hwd
              go_cut [22] (fun v wx => v = .bool eN ∧ wx = wd)
              case first =>
                by_cases t1 : pi = nl
                · have d1 : (pi == (nl : Int)) = true := by simp [t1]
                  by_cases t2 : pj = nm
                  · have d2 : (pj == (nm : Int)) = true := by simp [t2]
                    by_cases t3 : pa = []
                    · have d3 : ((bs pa).toList == ([] : List UInt8)) = true := by rw [bs_empty.2 t3]; rfl
                      have e : eN = true := by rw [HEN.out, decide_eq_true t1, decide_eq_true t2, decide_eq_true t3]; rfl
                      clear t1 t2 t3
                      go_wp2
                      go_meet
                      exact ⟨by rw [e], rfl⟩
                    · have d3 : ((bs pa).toList == ([] : List UInt8)) = false := beq_eq_false_iff_ne.2 (fun e => t3 (bs_empty.1 e))
                      have e : eN = false := by rw [HEN.out, decide_eq_false t3, Bool.and_false]
                      clear t1 t2 t3
                      go_wp2
                      go_meet
                      exact ⟨by rw [e], rfl⟩
                  · have d2 : (pj == (nm : Int)) = false := beq_eq_false_iff_ne.2 t2
                    have e : eN = false := by rw [HEN.out, decide_eq_false t2, Bool.and_false, Bool.false_and]
                    clear t1 t2
                    go_wp2
                    go_meet
                    exact ⟨by rw [e], rfl⟩
                · have d1 : (pi == (nl : Int)) = false := beq_eq_false_iff_ne.2 t1
                  have e : eN = false := by rw [HEN.out, decide_eq_false t1, Bool.false_and, Bool.false_and]
                  clear t1
                  go_wp2
                  go_meet
                  exact ⟨by rw [e], rfl⟩
              case rest =>
                obtain ⟨rfl, rfl⟩ := hcut
                have HBW := hide (fun W' (h : Run (fun _ => False) w (star (CellO g20 #[.int .i64 pi, .int .i64 pj, .string (bs pa), .bool pr, .int .i64 ph] 37) (star (StrO A2 c2 (openN k2 y).1) (star (StrO A1 c1 (openN k x).1) (star (CellO g6 #[.slice aA n1 ac, .slice aD n2 ad, .slice aE n3 ae, .int .i64 T.drop, .int .i64 T.ord, .int .i64 T.ini] 25) emp)))) W') => (show Below w.heap.size w W' from h.mod.below (fun _ _ h => h)))
                clear KS2 HST HEN
                go_upto_region 11 with (fail)
                clear c0 c1' c2' c3 c4 cf
                cases sN with
                | false =>
                  have HNH := hide (HX1.out (by rw [HPR.out]; simp))
                  have H5 := hide (H2.out.drew okR.out)
                  obtain ⟨c0, c1', c2', c3, c4, cf⟩ := run_c5 H5.out
                  refine wp_region_lex (fun W' : World => W'.cell? ⟨g20, 4, none⟩ = some (.int .i64 ph)) rfl (by kernel_rfl) c4 ?_
                  clear H2 c0 c1' c2' c3 c4 cf
                  generalize World.drew _ = w5 at *
                  have HF := hide (HNO.out _ HNH.out (HBW.out _ H5.out))
                  (repeat (first | (refine lex_skip (by rfl) ?_; try simp only [Act.put, List.setIfInBounds_toArray, List.set_cons_zero, List.set_cons_succ]) | (refine lex_read (v := ?_) (by rfl) ?_ ?_; rotate_left; (focus (intro w' hS'; go_simp; (try with_reducible rfl); done)); try simp only [Act.put, List.setIfInBounds_toArray, List.set_cons_zero, List.set_cons_succ])))
                  refine lex_nil ?_
                  go_wp2
                  go_ret
                  exact HF.out
                | true =>
                  cases eN with
                  | true =>
                    have HNH := hide (HX1.out (by rw [HPR.out]; simp))
                    have H5 := hide (H2.out.drew okR.out)
                    obtain ⟨c0, c1', c2', c3, c4, cf⟩ := run_c5 H5.out
                    refine wp_region_lex (fun W' : World => W'.cell? ⟨g20, 4, none⟩ = some (.int .i64 ph)) rfl (by kernel_rfl) c4 ?_
                    clear H2 c0 c1' c2' c3 c4 cf
                    generalize World.drew _ = w5 at *
                    have HF := hide (HNO.out _ HNH.out (HBW.out _ H5.out))
                    (repeat (first | (refine lex_skip (by rfl) ?_; try simp only [Act.put, List.setIfInBounds_toArray, List.set_cons_zero, List.set_cons_succ]) | (refine lex_read (v := ?_) (by rfl) ?_ ?_; rotate_left; (focus (intro w' hS'; go_simp; (try with_reducible rfl); done)); try simp only [Act.put, List.setIfInBounds_toArray, List.set_cons_zero, List.set_cons_succ])))
                    refine lex_nil ?_
                    go_wp2
                    go_ret
                    exact HF.out
                  | false =>
                    by_cases t1 : ph < 1
                    · have d1 : decide (ph < 1) = true := decide_eq_true t1
                      have d1' : decide (1 ≤ ph) = false := decide_eq_false (by omega)
                      have HNH := hide (HX1.out (by rw [HPR.out]; rw [d1']; simp))
                      have H5 := hide (H2.out.drew okR.out)
                      obtain ⟨c0, c1', c2', c3, c4, cf⟩ := run_c5 H5.out
                      refine wp_region_lex (fun W' : World => W'.cell? ⟨g20, 4, none⟩ = some (.int .i64 ph)) rfl (by kernel_rfl) c4 ?_
                      clear H2 c0 c1' c2' c3 c4 cf
                      generalize World.drew _ = w5 at *
                      have HF := hide (HNO.out _ HNH.out (HBW.out _ H5.out))
                      (repeat (first | (refine lex_skip (by rfl) ?_; try simp only [Act.put, List.setIfInBounds_toArray, List.set_cons_zero, List.set_cons_succ]) | (refine lex_read (v := ?_) (by rfl) ?_ ?_; rotate_left; (focus (intro w' hS'; go_simp; (try with_reducible rfl); done)); try simp only [Act.put, List.setIfInBounds_toArray, List.set_cons_zero, List.set_cons_succ])))
                      refine lex_nil ?_
                      go_wp2
                      go_ret
                      exact HF.out
                    · have d1 : decide (ph < 1) = false := decide_eq_false t1
                      have d1' : decide (1 ≤ ph) = true := decide_eq_true (by omega)
                      by_cases t2 : bound < ph
                      · have d2 : decide (bound < ph) = true := decide_eq_true t2
                        have d2' : decide (ph ≤ bound) = false := decide_eq_false (by omega)
                        have HNH := hide (HX1.out (by rw [HPR.out]; rw [d2']; simp))
                        have H5 := hide (H2.out.drew okR.out)
                        obtain ⟨c0, c1', c2', c3, c4, cf⟩ := run_c5 H5.out
                        refine wp_region_lex (fun W' : World => W'.cell? ⟨g20, 4, none⟩ = some (.int .i64 ph)) rfl (by kernel_rfl) c4 ?_
                        clear H2 c0 c1' c2' c3 c4 cf
                        generalize World.drew _ = w5 at *
                        have HF := hide (HNO.out _ HNH.out (HBW.out _ H5.out))
                        (repeat (first | (refine lex_skip (by rfl) ?_; try simp only [Act.put, List.setIfInBounds_toArray, List.set_cons_zero, List.set_cons_succ]) | (refine lex_read (v := ?_) (by rfl) ?_ ?_; rotate_left; (focus (intro w' hS'; go_simp; (try with_reducible rfl); done)); try simp only [Act.put, List.setIfInBounds_toArray, List.set_cons_zero, List.set_cons_succ])))
                        refine lex_nil ?_
                        go_wp2
                        go_ret
                        exact HF.out
                      · have d2 : decide (bound < ph) = false := decide_eq_false t2
                        have d2' : decide (ph ≤ bound) = true := decide_eq_true (by omega)
                        by_cases t3 : 100000 < ph
                        · have d3 : decide (100000 < ph) = true := decide_eq_true t3
                          have d3' : decide (ph ≤ 100000) = false := decide_eq_false (by omega)
                          have HNH := hide (HX1.out (by rw [HPR.out]; rw [d3']; simp))
                          have H5 := hide (H2.out.drew okR.out)
                          obtain ⟨c0, c1', c2', c3, c4, cf⟩ := run_c5 H5.out
                          refine wp_region_lex (fun W' : World => W'.cell? ⟨g20, 4, none⟩ = some (.int .i64 ph)) rfl (by kernel_rfl) c4 ?_
                          clear H2 c0 c1' c2' c3 c4 cf
                          generalize World.drew _ = w5 at *
                          have HF := hide (HNO.out _ HNH.out (HBW.out _ H5.out))
                          (repeat (first | (refine lex_skip (by rfl) ?_; try simp only [Act.put, List.setIfInBounds_toArray, List.set_cons_zero, List.set_cons_succ]) | (refine lex_read (v := ?_) (by rfl) ?_ ?_; rotate_left; (focus (intro w' hS'; go_simp; (try with_reducible rfl); done)); try simp only [Act.put, List.setIfInBounds_toArray, List.set_cons_zero, List.set_cons_succ])))
                          refine lex_nil ?_
                          go_wp2
                          go_ret
                          exact HF.out
                        · have d3 : decide (100000 < ph) = false := decide_eq_false t3
                          have d3' : decide (ph ≤ 100000) = true := decide_eq_true (by omega)
                          have HPP := hide (HSU.out (by rw [HPR.out, d1', d2', d3']; rfl))
                          clear HSU HX1 HPR d1' d2' d3' t1 t2 t3
                          by_cases hn0 : 0 < n
                          · have d4 : decide (0 < (n : Int)) = true := decide_eq_true (by omega)
                            have HN0 := hide hn0
                            have d4' : decide (0 < n) = true := decide_eq_true hn0
                            obtain ⟨m, hm⟩ : ∃ m, m + 1 = n := ⟨n - 1, by omega⟩
                            have tw : IntKind.i64.wrap ((n : Int) - 1) = (m : Int) := by rw [IntWalk.i64_in _ (by omega)]; omega
                            have hmn : (m : Int) < (nc : Int) := by omega
                            have HQC := hide (HCQ.out hn0 m hm)
                            obtain ⟨qi, qj, qa, qr, qh⟩ := q
                            dsimp only at HQC
                            clear hm HCQ
                            have HS5 := hide (fun W' (h : Run (fun _ => False) w (star (CellO g20 #[.int .i64 pi, .int .i64 pj, .string (bs pa), .bool pr, .int .i64 ph] 37) (star (StrO A2 c2 (openN k2 y).1) (star (StrO A1 c1 (openN k x).1) (star (CellO g6 #[.slice aA n1 ac, .slice aD n2 ad, .slice aE n3 ae, .int .i64 T.drop, .int .i64 T.ord, .int .i64 T.ini] 25) emp)))) W') => (show (W'.cell? ⟨g20, 0, none⟩ = some (.int .i64 pi) ∧ W'.cell? ⟨g20, 1, none⟩ = some (.int .i64 pj) ∧ W'.cell? ⟨g20, 2, none⟩ = some (.string (bs pa)) ∧ W'.cell? ⟨g20, 3, none⟩ = some (.bool pr) ∧ W'.cell? ⟨g20, 4, none⟩ = some (.int .i64 ph)) ∧ W'.cell? ⟨b, o + m * 5, none⟩ = some (.int .i64 qi) ∧ W'.cell? ⟨b, o + m * 5 + 1, none⟩ = some (.int .i64 qj) ∧ W'.cell? ⟨b, o + m * 5 + 2, none⟩ = some (.string (bs qa)) ∧ W'.cell? ⟨b, o + m * 5 + 3, none⟩ = some (.bool qr) ∧ W'.cell? ⟨b, o + m * 5 + 4, none⟩ = some (.int .i64 qh) from by
                              obtain ⟨c0, c1', c2', c3, c4, cf⟩ := run_c5 h
                              exact ⟨⟨c0, c1', c2', c3, c4⟩, HQC.out _ (HBW.out _ h)⟩))
                            have H5 := hide (H2.out.drew okR.out)
                            have hS5 := HS5.out _ H5.out
                            refine wp_region_lex (fun W' : World => (W'.cell? ⟨g20, 0, none⟩ = some (.int .i64 pi) ∧ W'.cell? ⟨g20, 1, none⟩ = some (.int .i64 pj) ∧ W'.cell? ⟨g20, 2, none⟩ = some (.string (bs pa)) ∧ W'.cell? ⟨g20, 3, none⟩ = some (.bool pr) ∧ W'.cell? ⟨g20, 4, none⟩ = some (.int .i64 ph)) ∧ W'.cell? ⟨b, o + m * 5, none⟩ = some (.int .i64 qi) ∧ W'.cell? ⟨b, o + m * 5 + 1, none⟩ = some (.int .i64 qj) ∧ W'.cell? ⟨b, o + m * 5 + 2, none⟩ = some (.string (bs qa)) ∧ W'.cell? ⟨b, o + m * 5 + 3, none⟩ = some (.bool qr) ∧ W'.cell? ⟨b, o + m * 5 + 4, none⟩ = some (.int .i64 qh)) rfl (by kernel_rfl) hS5 ?_
                            clear hS5 H2
                            generalize World.drew _ = w5 at *
                            have KL := hide (rless_any ⟨qi, qj, qa, qr, qh⟩ ⟨pi, pj, pa, pr, ph⟩ w5)
                            unfold pcells at KL
                            dsimp only at KL
                            have HLT := hide (decide_eq_true_iff (p := ltP ⟨qi, qj, qa, qr, qh⟩ ⟨pi, pj, pa, pr, ph⟩))
                            generalize decide (ltP ⟨qi, qj, qa, qr, qh⟩ ⟨pi, pj, pa, pr, ph⟩) = lt at *
                            (repeat (first | (refine lex_skip (by rfl) ?_; try simp only [Act.put, List.setIfInBounds_toArray, List.set_cons_zero, List.set_cons_succ]) | (refine lex_read (v := ?_) (by rfl) ?_ ?_; rotate_left; (focus (intro w' hS'; go_simp; (try with_reducible rfl); done)); try simp only [Act.put, List.setIfInBounds_toArray, List.set_cons_zero, List.set_cons_succ])))
                            refine lex_chain rfl (by rfl) (fun K hK => ?_)
                            go_wp2_with fail
                            refine KL.out.mono ?_
                            rintro e9 w7 ⟨rfl, hb⟩
                            have H7 := hide (H5.out.below okR.out hb)
                            clear KL H5 hb
                            dsimp only
                            refine hK.out _ _ (HS5.out _ H7.out) ?_
                            clear hK
                            cases lt with
                            | true =>
                              have HSE := hide (HPP.out (fun _ => HLT.out.1 rfl))
                              (repeat (first | (refine lex_skip (by rfl) ?_; try simp only [Act.put, List.setIfInBounds_toArray, List.set_cons_zero, List.set_cons_succ]) | (refine lex_read (v := ?_) (by rfl) ?_ ?_; rotate_left; (focus (intro w' hS'; go_simp; (try with_reducible rfl); done)); try simp only [Act.put, List.setIfInBounds_toArray, List.set_cons_zero, List.set_cons_succ])))
                              refine lex_nil ?_
                              go_wp2_with fail
                              go_roundw
                              case rel => exact ⟨n + 1, by go_num, HN1.out, HSE.out, H7.out.drop⟩
                              case measure => have := HN1.out; simp [intOf]; omega
                            | false =>
                              have HF := hide (HNO.out _ (HX2.out HN0.out (fun h => by have := HLT.out.2 h; cases this)) (HBW.out _ H7.out))
                              (repeat (first | (refine lex_skip (by rfl) ?_; try simp only [Act.put, List.setIfInBounds_toArray, List.set_cons_zero, List.set_cons_succ]) | (refine lex_read (v := ?_) (by rfl) ?_ ?_; rotate_left; (focus (intro w' hS'; go_simp; (try with_reducible rfl); done)); try simp only [Act.put, List.setIfInBounds_toArray, List.set_cons_zero, List.set_cons_succ])))
                              refine lex_nil ?_
                              go_wp2
                              go_ret
                              exact HF.out
                          · have d4 : decide (0 < (n : Int)) = false := decide_eq_false (by omega)
                            have HSE := hide (HPP.out (fun h => absurd h hn0))
                            have d4' : decide (0 < n) = false := decide_eq_false hn0
                            have H5 := hide (H2.out.drew okR.out)
                            obtain ⟨c0, c1', c2', c3, c4, cf⟩ := run_c5 H5.out
                            refine wp_region_lex (fun W' : World => W'.cell? ⟨g20, 4, none⟩ = some (.int .i64 ph)) rfl (by kernel_rfl) c4 ?_
                            clear H2 c0 c1' c2' c3 c4 cf
                            generalize World.drew _ = w5 at *
                            (repeat (first | (refine lex_skip (by rfl) ?_; try simp only [Act.put, List.setIfInBounds_toArray, List.set_cons_zero, List.set_cons_succ]) | (refine lex_read (v := ?_) (by rfl) ?_ ?_; rotate_left; (focus (intro w' hS'; go_simp; (try with_reducible rfl); done)); try simp only [Act.put, List.setIfInBounds_toArray, List.set_cons_zero, List.set_cons_succ])))
                            refine lex_nil ?_
                            go_wp2_with fail
                            go_roundw
                            case rel => exact ⟨n + 1, by go_num, HN1.out, HSE.out, H5.out.drop⟩
                            case measure => have := HN1.out; simp [intOf]; omega
          · have hd1 : decide ((n : Int) < (nc : Int)) = false := decide_eq_false (by omega)
            have HAL := hide (show (∀ p ∈ C, proper W bound p = true) ∧ C.Pairwise ltP from by
              have h := HS.out
              unfold seenP at h
              rw [List.take_of_length_le (by have := HNC.out; omega)] at h
              exact h)
            have HPOS := hide (fun p (hp : p ∈ C) => proper_ok (HAL.out.1 p hp))
            have HB5 := hide (hgt_bnd (C := C) (fun p hp => (HPOS.out p hp).2.2))
            have HPL := hide (fun W' (hb : Below w.heap.size w W') (s : St) (v : Int) => (show Calls Tryz.prog 37 #[.slice B nc c, .agg #[.int .i64 s.i, .int .i64 s.j, .string (bs s.a), .bool s.r, .int .i64 v]] W' (BelowRet W' (.tuple #[.int .i64 (placeN C ⟨s.i, s.j, s.a, s.r, v⟩ : Nat), .bool (isP C ⟨s.i, s.j, s.a, s.r, v⟩)])) from by
              have := rplace_any (c := c) (Rst.below HC.out hb) HL.out HAL.out.2 ⟨s.i, s.j, s.a, s.r, v⟩
              rw [← HNC.out] at this
              exact this))
            have HPG := hide (fun (s : St) (v : Int) => place_hgt HAL.out.2 (fun p hp => proper_pos (HAL.out.1 p hp)) s v)
            have HBW := hide (fun W' X' (h : Run (fun _ => False) w X' W') => (show Below w.heap.size w W' from h.mod.below (fun _ _ h => h)))
            have H1 := hide HR.out
            clear HR HS KS
            go_wp2_with fail
            go_loopw [23] (fun kk wr => ∃ (n : Nat), kk = .int .i64 n ∧ n ≤ nc ∧ (∀ j (h : j < C.length), j < n → steps W C C[j] = true) ∧ Run (fun _ => False) w (star (StrO A2 c2 (openN k2 y).1) (star (StrO A1 c1 (openN k x).1) (star (CellO g6 #[.slice aA n1 ac, .slice aD n2 ad, .slice aE n3 ae, .int .i64 T.drop, .int .i64 T.ord, .int .i64 T.ini] 25) emp))) wr) (fun kk _ => nc - (intOf kk).toNat)
            case atStart => exact ⟨0, rfl, Nat.zero_le _, fun j _ h => absurd h (Nat.not_lt_zero _), H1.out⟩
            case round =>
              clear H1 hd1 hn hnl
              obtain ⟨n, rfl, hn, hs, hR⟩ := hrel
              have HR := hide hR
              have HS := hide hs
              clear hR hs
              by_cases hnl : n < nc
              · have hd2 : decide ((n : Int) < (nc : Int)) = true := decide_eq_true (by omega)
                have hnC : n < C.length := by rw [← HNC.out]; exact hnl
                obtain ⟨b, o, rfl, hc⟩ := PtsR.at HC.out (by omega)
                have hpk : ∃ (s : St) (ph : Int), C[n] = ⟨s.i, s.j, s.a, s.r, ph⟩ ∧ W.ok s ∧ s.a.length ≤ 1000000 ∧ (0 < ph ∧ ph ≤ 100000) ∧ C[n].st = s ∧ C[n].h = ph := by
                  have h := HPOS.out _ (List.getElem_mem hnC)
                  exact ⟨C[n].st, C[n].h, h.2.1, h.1, HSZ.out _ (List.getElem_mem hnC), h.2.2, rfl, rfl⟩
                obtain ⟨s, ph, hCp, hok, hsa, hphb, hCs, hCh⟩ := hpk
                have HCN := hide (fun W' (hb : Below w.heap.size w W') => (show W'.cell? ⟨b, o + n * 5, none⟩ = some (.int .i64 (s.i : Int)) ∧ W'.cell? ⟨b, o + n * 5 + 1, none⟩ = some (.int .i64 (s.j : Int)) ∧ W'.cell? ⟨b, o + n * 5 + 2, none⟩ = some (.string (bs s.a)) ∧ W'.cell? ⟨b, o + n * 5 + 3, none⟩ = some (.bool s.r) ∧ W'.cell? ⟨b, o + n * 5 + 4, none⟩ = some (.int .i64 ph) from by
                  have := hc W' hb n hnC
                  rw [hCp] at this
                  exact this))
                have HCX := hide (fun (j : Nat) (hj : j < C.length) (v : Int) (hv : C[j].h = v) W' (hb : Below w.heap.size w W') => (show W'.cell? ⟨b, o + j * 5 + 4, none⟩ = some (.int .i64 v) from by
                  have := (hc W' hb j hj).2.2.2.2
                  rw [hv] at this
                  exact this))
                have HSY := hide (fun (h : ∀ j (hj : j < (W.moves s).length), j < (movP W s).length → ph ≤ (W.moves s)[j].1 + hgt C (W.moves s)[j].2) => (show ∀ j (h : j < C.length), j < n + 1 → steps W C C[j] = true from fun j hj hjn => by
                  by_cases e : j = n
                  · subst e
                    unfold steps
                    rw [hCs, hCh, List.all_eq_true]
                    intro x hx
                    obtain ⟨i, hi, rfl⟩ := List.mem_iff_getElem.1 hx
                    exact decide_eq_true (h i hi (by unfold movP; rw [List.length_map]; exact hi))
                  · exact HS.out j hj (by omega)))
                have HSN := hide (fun (j : Nat) (hj : j < (W.moves s).length) (h : ¬ ph ≤ (W.moves s)[j].1 + hgt C (W.moves s)[j].2) => (show ¬ Holds W bound C from fun hh => by
                  have h1 := hh.2.2.1 _ (List.getElem_mem hnC)
                  unfold steps at h1
                  rw [hCs, hCh, List.all_eq_true] at h1
                  exact h (of_decide_eq_true (h1 _ (List.getElem_mem hj)))))
                have HN1 := hide (show n + 1 ≤ nc from hnl)
                have hni : (n : Int) < (nc : Int) := by omega
                have HOKS := hide hok
                obtain ⟨si, sj, sa, sr⟩ := s
                dsimp only at hsa HCN
                clear hnC hCp hok hc hCs hCh hn hnl HS
                go_upto_region 16 with (fail)
                have H2 := hide (HR.out.drew okC.out)
                have HSS := hide (fun W' (h : Run (fun _ => False) w (star (StrO A2 c2 (openN k2 y).1) (star (StrO A1 c1 (openN k x).1) (star (CellO g6 #[.slice aA n1 ac, .slice aD n2 ad, .slice aE n3 ae, .int .i64 T.drop, .int .i64 T.ord, .int .i64 T.ini] 25) emp))) W') => (show (W'.cell? ⟨g6, 0, none⟩ = some (.slice aA n1 ac) ∧ W'.cell? ⟨g6, 1, none⟩ = some (.slice aD n2 ad) ∧ W'.cell? ⟨g6, 2, none⟩ = some (.slice aE n3 ae) ∧ W'.cell? ⟨g6, 3, none⟩ = some (.int .i64 T.drop) ∧ W'.cell? ⟨g6, 4, none⟩ = some (.int .i64 T.ord) ∧ W'.cell? ⟨g6, 5, none⟩ = some (.int .i64 T.ini)) ∧ W'.cell? ⟨b, o + n * 5, none⟩ = some (.int .i64 (si : Int)) ∧ W'.cell? ⟨b, o + n * 5 + 1, none⟩ = some (.int .i64 (sj : Int)) ∧ W'.cell? ⟨b, o + n * 5 + 2, none⟩ = some (.string (bs sa)) ∧ W'.cell? ⟨b, o + n * 5 + 3, none⟩ = some (.bool sr) ∧ W'.cell? ⟨b, o + n * 5 + 4, none⟩ = some (.int .i64 ph) from by
                  obtain ⟨a0, a1, a2, a3, a4, a5⟩ := run_c6 h.drop.drop
                  exact ⟨⟨a0, a1, a2, a3, a4, a5⟩, HCN.out _ (HBW.out _ _ h)⟩))
                refine wp_region_lex (fun W' : World => (W'.cell? ⟨g6, 0, none⟩ = some (.slice aA n1 ac) ∧ W'.cell? ⟨g6, 1, none⟩ = some (.slice aD n2 ad) ∧ W'.cell? ⟨g6, 2, none⟩ = some (.slice aE n3 ae) ∧ W'.cell? ⟨g6, 3, none⟩ = some (.int .i64 T.drop) ∧ W'.cell? ⟨g6, 4, none⟩ = some (.int .i64 T.ord) ∧ W'.cell? ⟨g6, 5, none⟩ = some (.int .i64 T.ini)) ∧ W'.cell? ⟨b, o + n * 5, none⟩ = some (.int .i64 (si : Int)) ∧ W'.cell? ⟨b, o + n * 5 + 1, none⟩ = some (.int .i64 (sj : Int)) ∧ W'.cell? ⟨b, o + n * 5 + 2, none⟩ = some (.string (bs sa)) ∧ W'.cell? ⟨b, o + n * 5 + 3, none⟩ = some (.bool sr) ∧ W'.cell? ⟨b, o + n * 5 + 4, none⟩ = some (.int .i64 ph)) rfl (by kernel_rfl) (HSS.out _ H2.out) ?_
                clear HR
                generalize World.drew _ = w6 at *
                have KM2 := hide (KM.out w6 (HBW.out _ _ H2.out) A1 c1 A2 c2 (by
                  obtain ⟨F, hF⟩ := H2.out.drop.fst
                  exact vst_of hF) (by
                  obtain ⟨F, hF⟩ := H2.out.fst
                  exact vst_of hF) ⟨si, sj, sa, sr⟩ ph HOKS.out hsa)
                dsimp only at KM2
                (repeat (first | (refine lex_skip (by rfl) ?_; try simp only [Act.put, List.setIfInBounds_toArray, List.set_cons_zero, List.set_cons_succ]) | (refine lex_read (v := ?_) (by rfl) ?_ ?_; rotate_left; (focus (intro w' hS'; go_simp; (try with_reducible rfl); done)); try simp only [Act.put, List.setIfInBounds_toArray, List.set_cons_zero, List.set_cons_succ])))
                refine lex_chain rfl (by rfl) (fun K hK => ?_)
                go_wp2_with fail
                refine KM2.out.mono ?_
                rintro e9 w7 ⟨Am, cm, rfl, hp⟩
                have H7 := hide (H2.out.fresh okC.out hp)
                clear KM2 H2 hp
                dsimp only
                refine hK.out _ _ (HSS.out _ H7.out.drop) ?_
                clear hK HSS
                (repeat (first | (refine lex_skip (by rfl) ?_; try simp only [Act.put, List.setIfInBounds_toArray, List.set_cons_zero, List.set_cons_succ]) | (refine lex_read (v := ?_) (by rfl) ?_ ?_; rotate_left; (focus (intro w' hS'; go_simp; (try with_reducible rfl); done)); try simp only [Act.put, List.setIfInBounds_toArray, List.set_cons_zero, List.set_cons_succ])))
                refine lex_nil ?_
                have okM := hide (star_ok pts_ok okC.out : (star (PtsO Am cm (movP W ⟨si, sj, sa, sr⟩)) (star (StrO A2 c2 (openN k2 y).1) (star (StrO A1 c1 (openN k x).1) (star (CellO g6 #[.slice aA n1 ac, .slice aD n2 ad, .slice aE n3 ae, .int .i64 T.drop, .int .i64 T.ord, .int .i64 T.ini] 25) emp)))).Ok)
                obtain ⟨mv, hmv⟩ : ∃ n, n = (movP W ⟨si, sj, sa, sr⟩).length := ⟨_, rfl⟩
                have hml : mv = (W.moves ⟨si, sj, sa, sr⟩).length := by rw [hmv]; unfold movP; rw [List.length_map]
                have hm80 : (mv : Int) ≤ 80 := by
                  have h1 : (W.moves ⟨si, sj, sa, sr⟩).length ≤ W.rs.length := List.length_filterMap_le ..
                  have := HR80.out
                  omega
                have HMV := hide hmv
                have HML := hide hml
                rw [← hmv]
                clear hmv hml
                go_wp2_with fail
                go_loopw [25] (fun kk wr => ∃ (j : Nat), kk = .int .i64 j ∧ j ≤ mv ∧ (∀ i (h : i < (W.moves ⟨si, sj, sa, sr⟩).length), i < j → ph ≤ (W.moves ⟨si, sj, sa, sr⟩)[i].1 + hgt C (W.moves ⟨si, sj, sa, sr⟩)[i].2) ∧ Run (fun _ => False) w (star (PtsO Am cm (movP W ⟨si, sj, sa, sr⟩)) (star (StrO A2 c2 (openN k2 y).1) (star (StrO A1 c1 (openN k x).1) (star (CellO g6 #[.slice aA n1 ac, .slice aD n2 ad, .slice aE n3 ae, .int .i64 T.drop, .int .i64 T.ord, .int .i64 T.ini] 25) emp)))) wr) (fun kk _ => mv - (intOf kk).toNat)
                case atStart => exact ⟨0, rfl, Nat.zero_le _, fun j _ h => absurd h (Nat.not_lt_zero _), H7.out⟩
                case round =>
                  clear H7
                  obtain ⟨j, rfl, hj, hs, hR⟩ := hrel
                  have HR := hide hR
                  have HS := hide hs
                  clear hR hs
                  by_cases hjl : j < mv
                  · have hd3 : decide ((j : Int) < (mv : Int)) = true := decide_eq_true (by omega)
                    have hjm : j < (W.moves ⟨si, sj, sa, sr⟩).length := by rw [← HML.out]; exact hjl
                    have hjM : j < (movP W ⟨si, sj, sa, sr⟩).length := by rw [← HMV.out]; exact hjl
                    obtain ⟨gm, rfl⟩ : ∃ g, Am = some ⟨g, 0, none⟩ := by
                      obtain ⟨F, hF⟩ := HR.out.fst
                      exact row_addr hF (by rw [← HMV.out]; omega)
                    have hx : ∃ (xc : Int) (s2 : St), (movP W ⟨si, sj, sa, sr⟩)[j] = ⟨s2.i, s2.j, s2.a, s2.r, xc⟩ ∧ (0 ≤ xc ∧ xc ≤ 1000) ∧ (ph ≤ xc + hgt C s2 → ∀ i (h : i < (W.moves ⟨si, sj, sa, sr⟩).length), i < j + 1 → ph ≤ (W.moves ⟨si, sj, sa, sr⟩)[i].1 + hgt C (W.moves ⟨si, sj, sa, sr⟩)[i].2) ∧ (¬ ph ≤ xc + hgt C s2 → ¬ Holds W bound C) := by
                      refine ⟨(W.moves ⟨si, sj, sa, sr⟩)[j].1, (W.moves ⟨si, sj, sa, sr⟩)[j].2, mov_get j hjM hjm, good_cost HG.out.1 (c := (W.moves ⟨si, sj, sa, sr⟩)[j].1) (s' := (W.moves ⟨si, sj, sa, sr⟩)[j].2) (List.getElem_mem hjm), fun h i hi hij => ?_, fun h => HSN.out j hjm (by omega)⟩
                      by_cases e : i = j
                      · subst e; exact h
                      · exact HS.out i hi (by omega)
                    obtain ⟨xc, ⟨mi, mj, ma, mr⟩, hMj, hxb, hSY, hSN⟩ := hx
                    have HSY2 := hide hSY
                    have HSN2 := hide hSN
                    have hpg := HPG.out ⟨mi, mj, ma, mr⟩ xc
                    have HCG := hide (fun W' X (h2 : Run (fun _ => False) w (star (PtsO (some ⟨gm, 0, none⟩) cm (movP W ⟨si, sj, sa, sr⟩)) X) W') => (show W'.cell? ⟨gm, j * 5, none⟩ = some (.int .i64 (mi : Int)) ∧ W'.cell? ⟨gm, j * 5 + 1, none⟩ = some (.int .i64 (mj : Int)) ∧ W'.cell? ⟨gm, j * 5 + 2, none⟩ = some (.string (bs ma)) ∧ W'.cell? ⟨gm, j * 5 + 3, none⟩ = some (.bool mr) ∧ W'.cell? ⟨gm, j * 5 + 4, none⟩ = some (.int .i64 xc) from by
                      obtain ⟨F, hF⟩ := h2.fst
                      have := (pts_cell hF hjM).1
                      rw [hMj] at this
                      exact this))
                    obtain ⟨e0, e1', e2', e3, e4⟩ := HCG.out _ _ HR.out
                    have hhb := HB5.out ⟨mi, mj, ma, mr⟩
                    have KP := hide (HPL.out wr (HBW.out _ _ HR.out) ⟨mi, mj, ma, mr⟩ xc)
                    dsimp only at KP hpg HSY2 HSN2
                    generalize placeN C ⟨mi, mj, ma, mr, xc⟩ = pl at *
                    generalize isP C ⟨mi, mj, ma, mr, xc⟩ = ib at *
                    generalize hgt C ⟨mi, mj, ma, mr⟩ = hh at *
                    have hjb : (j : Int) < (mv : Int) := by omega
                    have HJ1 := hide (show j + 1 ≤ mv from hjl)
                    have HPGx := hide hpg
                    clear hj hjl hjm hjM hMj hSY hSN HS HCG hpg
                    go_wp2_with fail
                    refine KP.out.mono ?_
                    rintro e9 w5 ⟨rfl, hb⟩
                    have H5 := hide (HR.out.below okM.out hb)
                    clear KP HR hb e0 e1' e2' e3 e4
                    dsimp only
                    obtain ⟨r0, r1, r2, r3, r4⟩ := HCN.out _ (HBW.out _ _ H5.out)
                    clear r0 r1 r2 r3
                    rcases HPGx.out with ⟨rfl, hpl, hph⟩ | ⟨rfl, hh0⟩
                    · have f4 := HCX.out pl hpl hh hph _ (HBW.out _ _ H5.out)
                      have hplb : (pl : Int) < (nc : Int) := by have := HNC.out; omega
                      have tw1 : IntKind.i64.wrap (xc + hh) = xc + hh := IntWalk.i64_in _ (by omega)
                      have tw2 : wrap64 (xc + hh) = xc + hh := IntWalk.wrap64_in _ (by omega)
                      clear hpl hph HPGx
                      by_cases hlt : xc + hh < ph
                      · have hd4 : decide (xc + hh < ph) = true := decide_eq_true hlt
                        have HF := hide (HNO.out _ (HSN2.out (by omega)) (HBW.out _ _ H5.out))
                        go_wp2
                        go_ret
                        exact HF.out
                      · have hd4 : decide (xc + hh < ph) = false := decide_eq_false hlt
                        have HSX := hide (HSY2.out (by omega))
                        go_wp2_with fail
                        go_roundw
                        case rel => exact ⟨j + 1, by go_num, HJ1.out, HSX.out, H5.out⟩
                        case measure => have := HJ1.out; simp [intOf]; omega
                    · clear HPGx
                      by_cases hlt : xc < ph
                      · have hd4 : decide (xc < ph) = true := decide_eq_true hlt
                        have HF := hide (HNO.out _ (HSN2.out (by omega)) (HBW.out _ _ H5.out))
                        go_wp2
                        go_ret
                        exact HF.out
                      · have hd4 : decide (xc < ph) = false := decide_eq_false hlt
                        have HSX := hide (HSY2.out (by omega))
                        go_wp2_with fail
                        go_roundw
                        case rel => exact ⟨j + 1, by go_num, HJ1.out, HSX.out, H5.out⟩
                        case measure => have := HJ1.out; simp [intOf]; omega
                  · have hd3 : decide ((j : Int) < (mv : Int)) = false := decide_eq_false (by omega)
                    have HSX := hide (HSY.out (fun i hi h2 => HS.out i hi (by have := HML.out; omega)))
                    go_wp2_with fail
                    go_roundw
                    case rel => exact ⟨n + 1, by go_num, HN1.out, HSX.out, HR.out.drop⟩
                    case measure => have := HN1.out; simp [intOf]; omega
              · have hd2 : decide ((n : Int) < (nc : Int)) = false := decide_eq_false (by omega)
                have HALL := hide (show ∀ p ∈ C, steps W C p = true from fun p hp => by
                  obtain ⟨i, hi, rfl⟩ := List.mem_iff_getElem.1 hp
                  exact HS.out i hi (by have := HNC.out; omega))
                have HHO := hide (show Holds W bound C ↔ bound ≤ hgt C st0 from ⟨fun h => h.2.2.2, fun h => ⟨HAL.out.1, HAL.out.2, HALL.out, h⟩⟩)
                have HPGx := hide (HPG.out st0 0)
                have KP := hide (show Calls Tryz.prog 37 #[.slice B nc c, .agg #[.int .i64 0, .int .i64 0, .string ⟨#[]⟩, .bool false, .int .i64 0]] wr (BelowRet wr (.tuple #[.int .i64 (placeN C ⟨st0.i, st0.j, st0.a, st0.r, 0⟩ : Nat), .bool (isP C ⟨st0.i, st0.j, st0.a, st0.r, 0⟩)])) from HPL.out wr (HBW.out _ _ HR.out) st0 0)
                generalize placeN C ⟨st0.i, st0.j, st0.a, st0.r, 0⟩ = pl at *
                generalize isP C ⟨st0.i, st0.j, st0.a, st0.r, 0⟩ = ib at *
                have hhb := HB5.out st0
                generalize hgt C st0 = hh at *
                clear HS HALL
                go_wp2_with fail
                refine KP.out.mono ?_
                rintro e9 w5 ⟨rfl, hb⟩
                have H5 := hide (HR.out.below okC.out hb)
                clear KP HR hb
                dsimp only
                have HCK := hide (fun (bb : Bool) (h : bb = true ↔ bound ≤ hh) => check_of (w := w) (w' := w5) (T := T) (k := k) (k2 := k2) (x := x) (y := y) (bound := bound) (C := C) (h.trans (HHO.out.symm.trans HYES.out.symm)) (HBW.out _ _ H5.out))
                rcases HPGx.out with ⟨rfl, hpl, hph⟩ | ⟨rfl, hh0⟩
                · obtain ⟨b, o, rfl, hc⟩ := PtsR.at HC.out (by omega)
                  have f4 := (hc _ (HBW.out _ _ H5.out) pl hpl).2.2.2.2
                  rw [hph] at f4
                  have hplb : (pl : Int) < (nc : Int) := by have := HNC.out; omega
                  clear hc hpl hph HPGx
                  go_wp2
                  go_ret
                  exact HCK.out _ decide_eq_true_iff
                · clear HPGx
                  subst hh0
                  go_wp2
                  go_ret
                  exact HCK.out _ decide_eq_true_iff
end Go.Proofs.YtnppgomhhcbplaaGreatDoor
