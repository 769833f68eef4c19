/-
  Align: written.
  Align: Check.
  Potential: the law Sound.
  Potential: derivations that came in, opened.
-/
import Derived.Test.YtnppgomhhcbplaaGreatDoorPO24
import Derived.Deep.DeepCutAuto
import Derived.Test.YtnppgomhhcbplaaGreatDoorPO23
import Derived.Test.YtnppgomhhcbplaaGreatDoorPO18
set_option linter.unusedSimpArgs false
set_option linter.unusedVariables false
namespace Go.Proofs.YtnppgomhhcbplaaGreatDoor
open Go.RowKit Go.CH Go.CH.Scr Go.CH.Pot
open Go.ChangeMaps (setBlock)
/-- What written answers. -/
def WrtRet (w : World) (l : List Bs) (rs : List AR) (ks : List Int) (e : Ending) (w' : World) : Prop :=
  ∃ (F : Bs) (c : Int) (ok : Bool), e = .returned (.tuple #[.string (bs F), .int .i64 c, .bool ok]) ∧ (F.length ≤ 1000000000 ∧ 0 ≤ c ∧ c ≤ 1000000000) ∧ (ok = true → wrtN l rs ks 0 = some (F, c, l.length)) ∧ Below w.heap.size w w'
/-- How far it has come. -/
def WrtI (l : List Bs) (rs : List AR) (ks : List Int) (j at0 : Nat) (F : Bs) (c : Int) : Prop :=
  (F.length ≤ 1000000 * j ∧ 0 ≤ c ∧ c ≤ 1000000 * j ∧ at0 ≤ l.length) ∧ wrtN l rs ks 0 = (wrtN l rs (ks.drop j) at0).map fun z => (F ++ z.1, c + z.2.1, z.2.2)
theorem wrti_zero {l : List Bs} {rs : List AR} {ks : List Int} : WrtI l rs ks 0 0 [] 0 := by
  refine ⟨⟨by simp, by simp, by simp, Nat.zero_le _⟩, ?_⟩
  rw [List.drop_zero]
  cases wrtN l rs ks 0 with
  | none => rfl
  | some z => simp
theorem wrti_succ {l : List Bs} {rs : List AR} {ks : List Int} {j at0 : Nat} {F : Bs} {c : Int} {r : AR} (h : WrtI l rs ks j at0 F c) (hj : j < ks.length) (hr : rs.find? (fun r => decide ((r.ix : Int) = ks[j])) = some r) (hf : fitsA l r at0 = true)
    (ht : r.t.length ≤ 1000000) (h0 : 0 ≤ r.c) (h1 : r.c ≤ 1000000) : WrtI l rs ks (j + 1) (at0 + r.f.length) (F ++ r.t) (c + r.c) := by
  obtain ⟨⟨g1, g2, g3, g4⟩, g5⟩ := h
  refine ⟨⟨by rw [List.length_append]; omega, by omega, by omega, ?_⟩, ?_⟩
  · unfold fitsA at hf
    simp only [Bool.and_eq_true, decide_eq_true_eq] at hf
    exact hf.1
  · rw [g5, List.drop_eq_getElem_cons hj]
    conv => lhs; unfold wrtN
    rw [hr]
    simp only [hf, if_true, Option.map_map]
    congr 1
    funext z
    simp only [Function.comp, List.append_assoc, Int.add_assoc]
theorem wrti_end {l : List Bs} {rs : List AR} {ks : List Int} {at0 : Nat} {F : Bs} {c : Int} (h : WrtI l rs ks ks.length at0 F c) (he : at0 = l.length) : wrtN l rs ks 0 = some (F, c, l.length) := by
  rw [h.2, List.drop_length]
  unfold wrtN
  simp [he]
set_option maxHeartbeats 6400000 in
set_option maxRecDepth 100000 in
theorem written_any {w : World} {l : List Bs} {L R D : Option Addr} {lc rc dc : Nat} {q : List RA} {ks : List Int} (hL : Vst w L l) (hR : ArsR w R q) (hF : ∀ y ∈ q, Vst w y.A y.r.f) (hD : Src w D ks.length 1 (ks.map (Value.int .i64)))
    (hll : l.length ≤ lc) (hl6 : l.length ≤ 1000000) (hq : q.length ≤ 1000000) (hf : ∀ y ∈ q, y.r.f.length ≤ 1000000 ∧ y.r.t.length ≤ 1000000 ∧ 0 ≤ y.r.c ∧ y.r.c ≤ 1000000) (hk : ks.length ≤ 1000) :
    Calls Tryz.prog 44 #[.agg #[.slice L l.length lc, .slice R q.length rc], .slice D ks.length dc] w (WrtRet w l (q.map (·.r)) ks) := by
  have h1 := run_new (Run.begin w) emp_ok #[.slice L l.length lc, .slice R q.length rc] 87
  have HB1 := hide (show Below w.heap.size w _ from h1.mod.below (fun _ _ h => h))
  have HBX := hide (fun W (h : Below (w.alloc (.cells #[.slice L l.length lc, .slice R q.length rc] 87)).heap.size (w.alloc (.cells #[.slice L l.length lc, .slice R q.length rc] 87)) W) => (show W.cell? ⟨w.heap.size, 0, none⟩ = some (.slice L l.length lc) ∧ W.cell? ⟨w.heap.size, 1, none⟩ = some (.slice R q.length rc) from by
    obtain ⟨f, hf⟩ := (h1.below (star_ok cell_ok emp_ok) h).fst
    exact ⟨cell_at hf rfl, cell_at hf rfl⟩))
  have HL := hide hL
  have HR := hide hR
  have HF := hide hF
  have HD := hide hD
  have HLL := hide hll
  have HL6 := hide hl6
  have HQ := hide hq
  have HFF := hide hf
  have HK := hide hk
  clear hL hR hF hD hll hl6 hq hf hk h1
  obtain ⟨n, hn⟩ : ∃ n, n = ks.length := ⟨_, rfl⟩
  have HN := hide hn
  rw [← hn]
  clear hn
  go_enter Tryz.func44, Tryz.ntmps44
  go_wp2_with fail
  generalize w.alloc (.cells #[.slice L l.length lc, .slice R q.length rc] 87) = w1 at *
  generalize w.heap.size = g2 at HBX ⊢
  have HB0 := hide (Below.refl w1.heap.size w1)
  go_loopw [4, 5, 7, 13] (fun u v a i wr => ∃ (j at0 : Nat) (F : Bs) (c : Int), j ≤ n ∧ i = .int .i64 j ∧ u = .string (bs F) ∧ v = .int .i64 c ∧ a = .int .i64 at0 ∧ WrtI l (q.map (·.r)) ks j at0 F c ∧ Below w1.heap.size w1 wr) (fun _ _ _ i _ => n - (intOf i).toNat)
  case atStart => exact ⟨0, 0, [], 0, Nat.zero_le _, rfl, rfl, rfl, rfl, wrti_zero, HB0.out⟩
  case round =>
    obtain ⟨j, at0, F, c, hj, rfl, rfl, rfl, rfl, hI, hbel⟩ := hrel
    have HBE := hide hbel
    have HI := hide hI
    clear hbel hI
    by_cases hlt : j < n
    · have hjk : j < ks.length := by rw [← HN.out]; exact hlt
      have HLT := hide hlt
      obtain ⟨db, dof, rfl, hdc⟩ := Src.open_ HD.out (by omega) (by omega)
      have k0 : wr.cell? ⟨db, dof + j, none⟩ = some (.int .i64 ks[j]) := by
        have h1 := hdc j (.int .i64 ks[j]) (by simp [hjk])
        have hbw := bel_trans HB1.out HBE.out
        rw [hbw.cell (World.block_lt_of_cell? _ _ h1)]
        exact h1
      have hjb : (j : Int) < 1000000 := by have := HK.out; omega
      have HWS := hide (fun r hr hf ht h0 h1 => wrti_succ (r := r) HI.out hjk hr hf ht h0 h1)
      have HIX := hide (ixN_cases q ks[j])
      have h4 := run_new (Run.begin wr) emp_ok #[.int .i64 ks[j]] 3
      have HB4 := hide (bel_trans HBE.out (h4.mod.below (fun _ _ h => h)))
      have K1 := hide (index_any (w := wr.alloc (.cells #[.int .i64 ks[j]] 3)) (rc := rc) (HR.out.below (bel_trans HB1.out HB4.out)) HQ.out (gi := wr.heap.size) (k := ks[j]) (by obtain ⟨f, hf⟩ := h4.fst; exact cell_at (i := 0) hf rfl))
      have y0 := (HBX.out _ HB4.out).1
      have y1 := (HBX.out _ HB4.out).2
      obtain ⟨⟨i1, i2, i3, i4⟩, -⟩ := HI.out
      have hF1 : F.length ≤ 1000000000 := by have := HK.out; omega
      have hc1 : c ≤ 1000000000 := by have := HK.out; omega
      have ha1 : at0 ≤ 1000000 := by have := HL6.out; omega
      have HI4 := hide i4
      have HI2 := hide i2
      clear hdc h4 i1 i3 i4
      generalize ks[j] = kk at *
      go_wp2_with fail
      refine K1.out.mono ?_
      rintro e9 w5 ⟨rfl, hb⟩
      have HB5 := hide (bel_trans HB4.out hb)
      clear K1 hb k0 y0 y1
      dsimp only
      rcases HIX.out with ⟨hix, -⟩ | ⟨jq, hjq, hix, hfd⟩
      · rw [hix]
        clear hix HIX
        have HBD := hide (bel_trans HB5.out ((Below.refl w5.heap.size w5).drew))
        go_upto_region 6 with (fail)
        refine wp_region_lex (fun w' => w' = w5.drew) (by kernel_rfl) (by kernel_rfl) rfl ?_
        generalize w5.drew = w6 at *
        (repeat (first | (refine lex_skip (by rfl) ?_; try simp only [Act.put, List.setIfInBounds_toArray, List.set_cons_zero, List.set_cons_succ]) | (refine lex_read (v := ?_) (by rfl) ?_ ?_; rotate_left; (focus (intro w' hS'; go_simp; (try with_reducible rfl); done)); try simp only [Act.put, List.setIfInBounds_toArray, List.set_cons_zero, List.set_cons_succ])))
        refine lex_nil ?_
        go_wp2
        refine bodyPost_ret (results_tmp3 rfl _ _ _) rfl ?_
        exact ⟨[], 0, false, rfl, ⟨by simp, by simp, by simp⟩, (fun h => by cases h), bel_trans HB1.out HBD.out⟩
      · rw [hix]
        clear hix HIX
        obtain ⟨rb, ro, rfl, hrc⟩ := Rst.at (R := acells) (fun _ => rfl) (by omega) HR.out (by omega)
        have HRC := hide (fun W (h : Below w5.heap.size w5 W) => (show W.cell? ⟨rb, ro + jq * 4, none⟩ = some (.int .i64 (q[jq].r.ix : Nat)) ∧ W.cell? ⟨rb, ro + jq * 4 + 1, none⟩ = some (.int .i64 q[jq].r.c) ∧ W.cell? ⟨rb, ro + jq * 4 + 2, none⟩ = some (.slice q[jq].A q[jq].r.f.length q[jq].c) ∧ W.cell? ⟨rb, ro + jq * 4 + 3, none⟩ = some (.string (bs q[jq].r.t)) ∧ W.cell? ⟨g2, 0, none⟩ = some (.slice L l.length lc) ∧ W.cell? ⟨g2, 1, none⟩ = some (.slice (some ⟨rb, ro, none⟩) q.length rc) from by
          have hb := bel_trans HB1.out (bel_trans HB5.out h)
          have hy := HBX.out W (bel_trans HB5.out h)
          exact ⟨hrc W hb jq hjq 0 _ rfl, hrc W hb jq hjq 1 _ rfl, hrc W hb jq hjq 2 _ rfl, hrc W hb jq hjq 3 _ rfl, hy.1, hy.2⟩))
        have hmem := List.getElem_mem hjq
        have HW1 := hide (fun hf => HWS.out _ hfd hf (HFF.out _ hmem).2.1 (HFF.out _ hmem).2.2.1 (HFF.out _ hmem).2.2.2)
        have KF := hide (fun W (h : Below w5.heap.size w5 W) => fits_any (w := W) (R := some ⟨rb, ro, none⟩) (rn := q.length) (rc := rc) (lc := lc) (fc := q[jq].c) (r := q[jq].r) (i := at0) (HL.out.below (bel_trans HB1.out (bel_trans HB5.out h))) ((HF.out _ hmem).below (bel_trans HB1.out (bel_trans HB5.out h))) HI4.out HLL.out HL6.out (HFF.out _ hmem).1)
        obtain ⟨b1, b2, b3, b4⟩ := HFF.out _ hmem
        have hjqb : (jq : Int) < 1000000 := by have := HQ.out; omega
        have HJQ := hide hjq
        clear hrc hfd hmem HWS HR HF HD HL
        generalize q[jq] = y at *
        obtain ⟨⟨ix, rcost, rf, rt⟩, rA, rn⟩ := y
        dsimp only at HRC HW1 KF b1 b2 b3 b4
        go_upto_region 6 with (fail)
        have t1 : decide ((jq : Int) < 0) = false := decide_eq_false (by omega)
        have HBD := hide ((Below.refl w5.heap.size w5).drew)
        have HS0 := hide (HRC.out _ HBD.out)
        refine wp_region_lex (fun W : World => W.cell? ⟨rb, ro + jq * 4, none⟩ = some (.int .i64 (ix : Nat)) ∧ W.cell? ⟨rb, ro + jq * 4 + 1, none⟩ = some (.int .i64 rcost) ∧ W.cell? ⟨rb, ro + jq * 4 + 2, none⟩ = some (.slice rA rf.length rn) ∧ W.cell? ⟨rb, ro + jq * 4 + 3, none⟩ = some (.string (bs rt)) ∧ W.cell? ⟨g2, 0, none⟩ = some (.slice L l.length lc) ∧ W.cell? ⟨g2, 1, none⟩ = some (.slice (some ⟨rb, ro, none⟩) q.length rc)) (by kernel_rfl) (by kernel_rfl) HS0.out ?_
        clear HS0
        generalize w5.drew = w6 at *
        (repeat (first | (refine lex_skip (by rfl) ?_; try simp only [Act.put, List.setIfInBounds_toArray, List.set_cons_zero, List.set_cons_succ]) | (refine lex_read (v := ?_) (by rfl) ?_ ?_; rotate_left; (focus (intro w' hS'; go_simp; (try with_reducible rfl); done)); try simp only [Act.put, List.setIfInBounds_toArray, List.set_cons_zero, List.set_cons_succ])))
        refine lex_chain rfl (by rfl) (fun K hK => ?_)
        go_wp2_with fail
        refine (KF.out w6 HBD.out).mono ?_
        rintro e9 w7 ⟨rfl, hb⟩
        have HB7 := hide (bel_trans HBD.out hb)
        refine hK.out _ _ (HRC.out w7 HB7.out) ?_
        clear hK KF hb HBD
        generalize hfit : fitsA l ⟨ix, rcost, rf, rt⟩ at0 = fb at *
        cases fb with
        | false =>
          clear HW1 hfit
          (repeat (first | (refine lex_skip (by rfl) ?_; try simp only [Act.put, List.setIfInBounds_toArray, List.set_cons_zero, List.set_cons_succ]) | (refine lex_read (v := ?_) (by rfl) ?_ ?_; rotate_left; (focus (intro w' hS'; go_simp; (try with_reducible rfl); done)); try simp only [Act.put, List.setIfInBounds_toArray, List.set_cons_zero, List.set_cons_succ])))
          refine lex_nil ?_
          go_wp2
          refine bodyPost_ret (results_tmp3 rfl _ _ _) rfl ?_
          exact ⟨[], 0, false, rfl, ⟨by simp, by simp, by simp⟩, (fun h => by cases h), bel_trans HB1.out (bel_trans HB5.out HB7.out)⟩
        | true =>
          have HI9 := hide (HW1.out rfl)
          clear HW1 hfit
          (repeat (first | (refine lex_skip (by rfl) ?_; try simp only [Act.put, List.setIfInBounds_toArray, List.set_cons_zero, List.set_cons_succ]) | (refine lex_read (v := ?_) (by rfl) ?_ ?_; rotate_left; (focus (intro w' hS'; go_simp; (try with_reducible rfl); done)); try simp only [Act.put, List.setIfInBounds_toArray, List.set_cons_zero, List.set_cons_succ])))
          refine lex_nil ?_
          obtain ⟨x0, x1, x2, x3, x4, x5⟩ := HRC.out w7 HB7.out
          have i2 := HI2.out
          have hsum : ¬ 9223372036854775807 < (bs F).size + (bs rt).size := by rw [bs_size, bs_size]; omega
          have hjl : jq < q.length := HJQ.out
          go_wp2_with fail
          go_roundw
          case rel => exact ⟨j + 1, at0 + rf.length, F ++ rt, c + rcost, HLT.out, by go_num, by rw [bs_cat], rfl, by go_num, HI9.out, bel_trans HB5.out HB7.out⟩
          case measure => have := HLT.out; simp [intOf]; omega
    · obtain rfl : j = n := by omega
      have y0 := (HBX.out _ HBE.out).1
      obtain ⟨⟨i1, i2, i3, i4⟩, -⟩ := HI.out
      have HFC := hide (show F.length ≤ 1000000000 ∧ 0 ≤ c ∧ c ≤ 1000000000 from ⟨by have := HK.out; have := HN.out; omega, i2, by have := HK.out; have := HN.out; omega⟩)
      have HEN := hide (fun h => wrti_end (l := l) (rs := q.map (·.r)) (ks := ks) (at0 := at0) (F := F) (c := c) (by have := HI.out; rw [HN.out] at this; exact this) h)
      have HBD := hide (bel_trans HBE.out ((Below.refl wr.heap.size wr).drew))
      clear i1 i2 i3 i4
      go_upto_region 12 with (fail)
      refine wp_region_lex (fun w' => w' = wr.drew) (by kernel_rfl) (by kernel_rfl) rfl ?_
      have y0 := (HBX.out _ HBD.out).1
      generalize wr.drew = w6 at *
      by_cases he : at0 = l.length
      · have t1 : ((at0 : Int) == (l.length : Int)) = true := by simp [he]
        have HE9 := hide (HEN.out he)
        clear he
        (repeat (first | (refine lex_skip (by rfl) ?_; try simp only [Act.put, List.setIfInBounds_toArray, List.set_cons_zero, List.set_cons_succ]) | (refine lex_read (v := ?_) (by rfl) ?_ ?_; rotate_left; (focus (intro w' hS'; go_simp; (try with_reducible rfl); done)); try simp only [Act.put, List.setIfInBounds_toArray, List.set_cons_zero, List.set_cons_succ])))
        refine lex_nil ?_
        go_wp2
        refine bodyPost_ret (results_tmp3 rfl _ _ _) rfl ?_
        exact ⟨F, c, true, rfl, HFC.out, (fun _ => HE9.out), bel_trans HB1.out HBD.out⟩
      · have t1 : ((at0 : Int) == (l.length : Int)) = false := by simp; omega
        clear he
        (repeat (first | (refine lex_skip (by rfl) ?_; try simp only [Act.put, List.setIfInBounds_toArray, List.set_cons_zero, List.set_cons_succ]) | (refine lex_read (v := ?_) (by rfl) ?_ ?_; rotate_left; (focus (intro w' hS'; go_simp; (try with_reducible rfl); done)); try simp only [Act.put, List.setIfInBounds_toArray, List.set_cons_zero, List.set_cons_succ])))
        refine lex_nil ?_
        go_wp2
        refine bodyPost_ret (results_tmp3 rfl _ _ _) rfl ?_
        exact ⟨F, c, false, rfl, HFC.out, (fun h => by cases h), bel_trans HB1.out HBD.out⟩
end Go.Proofs.YtnppgomhhcbplaaGreatDoor
namespace Go.Proofs.YtnppgomhhcbplaaGreatDoor
open Go.RowKit Go.CH Go.CH.Scr Go.CH.Pot
open Go.ChangeMaps (setBlock)
theorem side_cost {rs : List Rule} {k : Int} {r : AR} (h : r ∈ sideR rs k) : ∃ R ∈ rs, r.c = R.c := by
  unfold sideR at h
  obtain ⟨⟨R, ix⟩, hp, hr⟩ := List.mem_filterMap.1 h
  refine ⟨R, zip_mem _ _ hp, ?_⟩
  unfold arOf at hr
  simp only at hr
  split at hr
  · split at hr
    · injection hr with hr; rw [← hr]
    · cases hr
  · cases hr
/-- A derivation's numbers in memory. -/
def IntR (w : World) (A : Option Addr) (l : List Int) : Prop := Src w A l.length 1 (l.map (Value.int .i64))
theorem IntR.below {w w' : World} {A : Option Addr} {l : List Int} (h : IntR w A l) (hb : Below w.heap.size w w') : IntR w' A l := src_below h hb
/-- What Check answers. -/
def AcRet (w : World) (T : Tab) (k : Int) (x : Bs) (k2 : Int) (y : Bs) (d : Dv) (e : Ending) (w' : World) : Prop :=
  ∃ b : Bool, e = .returned (.bool b) ∧ (b = true → rightD T k x k2 y d) ∧ Below w.heap.size w w'
set_option maxHeartbeats 6400000 in
set_option maxRecDepth 100000 in
theorem acheck_any {w : World} {T : Tab} {a : TA} (hT : TabR w T a) (hz : LZ w) (k : Int) (x : Bs) (k2 : Int) (y : Bs) (hx : x.length ≤ 1000000) (hy : y.length ≤ 1000000) {d : Dv} {A B : Option Addr} {ac bc : Nat} (hA : IntR w A d.L) (hB : IntR w B d.M) (hl : d.L.length ≤ 1000) (hm : d.M.length ≤ 1000) :
    Calls Tryz.prog 21 #[tabV T a, .int .i64 k, .string (bs x), .int .i64 k2, .string (bs y), .agg #[.int .i64 d.c, .slice A d.L.length ac, .slice B d.M.length bc, .string (bs d.F)]] w (AcRet w T k x k2 y d) := by
  have h1 := run_new (Run.begin w) emp_ok (tabC T a) 25
  have h2 := run_new h1 (star_ok cell_ok emp_ok) #[.int .i64 d.c, .slice A d.L.length ac, .slice B d.M.length bc, .string (bs d.F)] 47
  rw [World.size_alloc] at h2
  have H2 := hide h2
  have HB2 := hide (show Below w.heap.size w _ from h2.mod.below (fun _ _ h => h))
  have KO := hide (open_any (hT.below HB2.out) (hz.below HB2.out) k x k2 y hx hy)
  have HA := hide hA
  have HB := hide hB
  have HNL := hide hl
  have HNM := hide hm
  clear hT hz h1 h2 hA hB hl hm
  unfold tabV at KO ⊢
  unfold tabC at KO H2 HB2 ⊢
  obtain ⟨n1, hn1⟩ : ∃ n, n = d.L.length := ⟨_, rfl⟩
  obtain ⟨n2, hn2⟩ : ∃ n, n = d.M.length := ⟨_, rfl⟩
  rw [← hn1, ← hn2] at H2 HB2 KO ⊢
  have HN1 := hide hn1
  have HN2 := hide hn2
  clear hn1 hn2
  go_enter Tryz.func21, Tryz.ntmps21
  go_wp2_with fail
  refine KO.out.mono ?_
  rintro e9 w1 ⟨wa, rfl, hb, hok⟩
  have H3 := hide (H2.out.below (star_ok cell_ok (star_ok cell_ok emp_ok)) hb)
  have HB1 := hide (HB2.out.trans (hb.mono HB2.out.size))
  have HOK := hide hok
  clear KO hb hok H2 HB2
  obtain ⟨W, hW⟩ : ∃ W, W = ofW T k x k2 y := ⟨_, rfl⟩
  rw [← hW] at HOK ⊢
  have HW := hide hW
  clear hW
  unfold wordsC
  generalize hob : okW T k x k2 y = ob at HOK ⊢
  have HOB := hide hob
  clear hob
  have H4 := hide (run_new H3.out (star_ok cell_ok (star_ok cell_ok emp_ok)) (wordsC W wa) 89)
  unfold wordsC at H4
  dsimp only
  cases ob with
  | false =>
    go_wp2
    go_ret
    exact ⟨false, rfl, (fun h => by cases h), H4.out.mod.below (fun _ _ h => h)⟩
  | true =>
    obtain ⟨hP, hS⟩ := HOK.out rfl
    have HWe := hide (show W = wdOf T k x k2 y from HW.out.trans (ofW_ok HOB.out))
    have hg : W.good := by rw [HWe.out]; exact (good_of (okW_iff.1 HOB.out).2.2).1
    have hca : ∀ z ∈ wa.a.q, z.r.f.length ≤ 1000000 ∧ z.r.t.length ≤ 1000000 ∧ 0 ≤ z.r.c ∧ z.r.c ≤ 1000000 := fun z hz => by
      obtain ⟨R, hR, e⟩ := side_cost (by rw [← hS.qa]; exact List.mem_map_of_mem hz : z.r ∈ sideR W.rs W.ka)
      have := hg R hR
      exact ⟨(hS.f6 z hz).1, (hS.f6 z hz).2, by omega, by omega⟩
    have hcb : ∀ z ∈ wa.b.q, z.r.f.length ≤ 1000000 ∧ z.r.t.length ≤ 1000000 ∧ 0 ≤ z.r.c ∧ z.r.c ≤ 1000000 := fun z hz => by
      obtain ⟨R, hR, e⟩ := side_cost (by rw [← hS.qb]; exact List.mem_map_of_mem hz : z.r ∈ sideR W.rs W.kb)
      have := hg R hR
      exact ⟨(hS.g6 z hz).1, (hS.g6 z hz).2, by omega, by omega⟩
    have HB3 := hide (show Below w1.heap.size w1 (w1.alloc (.cells #[.slice wa.a.L W.l.length wa.a.lc, .slice wa.a.R wa.a.q.length wa.a.rc, .slice wa.b.L W.m.length wa.b.lc, .slice wa.b.R wa.b.q.length wa.b.rc] 89)) from (Below.refl _ _).alloc (Nat.le_refl _) _)
    have KA := hide (fun W' (h : Below w1.heap.size w1 W') => written_any (w := W') (L := wa.a.L) (R := wa.a.R) (D := A) (lc := wa.a.lc) (rc := wa.a.rc) (dc := ac) (hP.l.below h) (hP.ra.below h) (fun z hz => (hP.fa z hz).below h) (HA.out.below (HB1.out.trans (h.mono HB1.out.size))) hS.la hS.l6 hS.na hca HNL.out)
    have KB := hide (fun W' (h : Below w1.heap.size w1 W') => written_any (w := W') (L := wa.b.L) (R := wa.b.R) (D := B) (lc := wa.b.lc) (rc := wa.b.rc) (dc := bc) (hP.m.below h) (hP.rb.below h) (fun z hz => (hP.fb z hz).below h) (HB.out.below (HB1.out.trans (h.mono HB1.out.size))) hS.lb hS.m6 hS.nb hcb HNM.out)
    rw [← HN1.out] at KA
    rw [← HN2.out] at KB
    have HQA := hide hS.qa
    have HQB := hide hS.qb
    have HC4 := hide (fun W' (h : Below (w1.alloc (.cells #[.slice wa.a.L W.l.length wa.a.lc, .slice wa.a.R wa.a.q.length wa.a.rc, .slice wa.b.L W.m.length wa.b.lc, .slice wa.b.R wa.b.q.length wa.b.rc] 89)).heap.size (w1.alloc (.cells #[.slice wa.a.L W.l.length wa.a.lc, .slice wa.a.R wa.a.q.length wa.a.rc, .slice wa.b.L W.m.length wa.b.lc, .slice wa.b.R wa.b.q.length wa.b.rc] 89)) W') => (show (W'.cell? ⟨w1.heap.size, 0, none⟩ = some (.slice wa.a.L W.l.length wa.a.lc) ∧ W'.cell? ⟨w1.heap.size, 1, none⟩ = some (.slice wa.a.R wa.a.q.length wa.a.rc) ∧ W'.cell? ⟨w1.heap.size, 2, none⟩ = some (.slice wa.b.L W.m.length wa.b.lc) ∧ W'.cell? ⟨w1.heap.size, 3, none⟩ = some (.slice wa.b.R wa.b.q.length wa.b.rc)) ∧ (W'.cell? ⟨w.heap.size + 1, 0, none⟩ = some (.int .i64 d.c) ∧ W'.cell? ⟨w.heap.size + 1, 1, none⟩ = some (.slice A n1 ac) ∧ W'.cell? ⟨w.heap.size + 1, 2, none⟩ = some (.slice B n2 bc) ∧ W'.cell? ⟨w.heap.size + 1, 3, none⟩ = some (.string (bs d.F))) ∧ Below w.heap.size w W' from by
      have h5 := H4.out.below (star_ok cell_ok (star_ok cell_ok (star_ok cell_ok emp_ok))) h
      obtain ⟨f1, hf1⟩ := h5.fst
      obtain ⟨f2, hf2⟩ := h5.drop.fst
      exact ⟨⟨cell_at hf1 rfl, cell_at hf1 rfl, cell_at hf1 rfl, cell_at hf1 rfl⟩, ⟨cell_at hf2 rfl, cell_at hf2 rfl, cell_at hf2 rfl, cell_at hf2 rfl⟩, h5.mod.below (fun _ _ h => h)⟩))
    clear hP hS hca hcb hg HOK H3 H4 HA HB
    go_upto_region 2 with (fail)
    generalize hw3 : w1.alloc (.cells #[.slice wa.a.L W.l.length wa.a.lc, .slice wa.a.R wa.a.q.length wa.a.rc, .slice wa.b.L W.m.length wa.b.lc, .slice wa.b.R wa.b.q.length wa.b.rc] 89) = w3 at *
    clear hw3
    generalize w1.heap.size = g12 at HC4 ⊢
    obtain ⟨⟨a0, a1, a2, a3⟩, ⟨q0, q1, q2, q3⟩, -⟩ := HC4.out w3 (Below.refl _ _)
    have K1 := hide (KA.out w3 HB3.out)
    go_wp2_with fail
    refine K1.out.mono ?_
    rintro e9 w4 ⟨F1, c1, ok1, rfl, ⟨g1, g2, g3⟩, hw1, hb⟩
    have HB4 := hide (bel_trans HB3.out hb)
    have HD4 := hide hb
    have HW1 := hide hw1
    clear K1 hw1 hb a0 a1 a2 a3 q0 q1 q2 q3 KA
    obtain ⟨⟨a0, a1, a2, a3⟩, ⟨q0, q1, q2, q3⟩, -⟩ := HC4.out w4 HD4.out
    have K2 := hide (KB.out w4 HB4.out)
    dsimp only
    go_wp2_with fail
    refine K2.out.mono ?_
    rintro e9 w5 ⟨F2, c2, ok2, rfl, ⟨g4, g5, g6⟩, hw2, hb⟩
    have HD5 := hide (bel_trans HD4.out hb)
    have HW2 := hide hw2
    clear K2 hw2 hb a0 a1 a2 a3 q0 q1 q2 q3 KB
    obtain ⟨-, ⟨q0, q1, q2, q3⟩, hbe⟩ := HC4.out w5 HD5.out
    have HBE := hide hbe
    clear hbe HC4
    dsimp only
    cases ok1 with
    | false =>
      go_wp2
      go_ret
      exact ⟨false, rfl, (fun h => by cases h), HBE.out⟩
    | true =>
      cases ok2 with
      | false =>
        go_wp2
        go_ret
        exact ⟨false, rfl, (fun h => by cases h), HBE.out⟩
      | true =>
        have HR := hide (show F1 = d.F → F2 = d.F → c1 + c2 = d.c → rightD T k x k2 y d from fun h1 h2 h3 => by
          have e1 := HW1.out rfl
          have e2 := HW2.out rfl
          rw [HQA.out, h1] at e1
          rw [HQB.out, h2] at e2
          have hWe := HWe.out
          subst hWe
          exact ⟨HOB.out, d.F, c1, c2, e1, e2, rfl, h3⟩)
        have tw : wrap64 (c1 + c2) = c1 + c2 := IntWalk.wrap64_in _ (by omega)
        clear HW1 HW2 HQA HQB HWe
        by_cases h1 : F1 = d.F
        · have t1 : ((bs F1).toList == (bs d.F).toList) = true := by rw [toList_beq]; simp [h1]
          by_cases h2 : F2 = d.F
          · have t2 : ((bs F2).toList == (bs d.F).toList) = true := by rw [toList_beq]; simp [h2]
            by_cases h3 : c1 + c2 = d.c
            · have t3 : (c1 + c2 == d.c) = true := by simp [h3]
              have HRR := hide (HR.out h1 h2 h3)
              clear h1 h2 h3 HR
              go_wp2
              go_ret
              exact ⟨true, rfl, (fun _ => HRR.out), HBE.out⟩
            · have t3 : (c1 + c2 == d.c) = false := by simp [h3]
              clear h1 h2 h3 HR
              go_wp2
              go_ret
              exact ⟨false, rfl, (fun h => by cases h), HBE.out⟩
          · have t2 : ((bs F2).toList == (bs d.F).toList) = false := by rw [toList_beq]; simpa using fun h => h2 (bs_inj h)
            clear h1 h2 HR
            go_wp2
            go_ret
            exact ⟨false, rfl, (fun h => by cases h), HBE.out⟩
        · have t1 : ((bs F1).toList == (bs d.F).toList) = false := by rw [toList_beq]; simpa using fun h => h1 (bs_inj h)
          clear h1 HR
          go_wp2
          go_ret
          exact ⟨false, rfl, (fun h => by cases h), HBE.out⟩
end Go.Proofs.YtnppgomhhcbplaaGreatDoor
namespace Go.Proofs.YtnppgomhhcbplaaGreatDoor
open Go.RowKit Go.CH Go.CH.Scr Go.CH.Pot
open Go.ChangeMaps (setBlock)
theorem best_er3 {T : Tab} {a b : Int} {x y : Bs} {d : Dv} {e : Int} (h : BestP T a x b y d e) : e = 1 ∨ e = 11 ∨ e = 0 := by cases h <;> simp
set_option maxHeartbeats 6400000 in
set_option maxRecDepth 100000 in
theorem law_sound_any {w : World} {T : Tab} {a : TA} (hT : TabZ w T a) (hz : LZ w) (k : Int) (x : Bs) (k2 : Int) (y : Bs) (bound : Int) {B : Option Addr} {c : Nat} {C : List Pt} (hC : PtsR w B C) {d : Dv} {A1 B1 : Option Addr} {ac bc : Nat} (hA : IntR w A1 d.L) (hB : IntR w B1 d.M) :
    Calls Tryz.prog 11 #[tabV T a, .int .i64 k, .string (bs x), .int .i64 k2, .string (bs y), .int .i64 bound, .slice B C.length c, .agg #[.int .i64 d.c, .slice A1 d.L.length ac, .slice B1 d.M.length bc, .string (bs d.F)]] w (BelowRet w (.bool true)) := by
  have HT := hide hT
  have HZ := hide hz
  have HC := hide hC
  have h1 : Run (fun _ => False) w (star (CellO w.heap.size (tabC T a) 25) emp) _ := run_new (Run.begin w) emp_ok _ 25
  obtain ⟨n1d, hn1d⟩ : ∃ n, n = d.L.length := ⟨_, rfl⟩
  obtain ⟨n2d, hn2d⟩ : ∃ n, n = d.M.length := ⟨_, rfl⟩
  rw [← hn1d, ← hn2d]
  have HN1D := hide hn1d
  have HN2D := hide hn2d
  have HA1 := hide hA
  have HB1D := hide hB
  clear hn1d hn2d hA hB
  have h2 := run_new h1 (star_ok cell_ok emp_ok) #[.int .i64 d.c, .slice A1 n1d ac, .slice B1 n2d bc, .string (bs d.F)] 47
  rw [World.size_alloc] at h2
  have HB := hide (h2.mod.below (fun _ _ h => h))
  have HTC := hide (fun W (h : Below ((w.alloc (.cells (tabC T a) 25)).alloc (.cells #[.int .i64 d.c, .slice A1 n1d ac, .slice B1 n2d bc, .string (bs d.F)] 47)).heap.size ((w.alloc (.cells (tabC T a) 25)).alloc (.cells #[.int .i64 d.c, .slice A1 n1d ac, .slice B1 n2d bc, .string (bs d.F)] 47)) W) => (show (W.cell? ⟨w.heap.size, 0, none⟩ = some (.slice a.A T.rs.length a.c) ∧ W.cell? ⟨w.heap.size, 1, none⟩ = some (.slice a.D T.ds.length a.d) ∧ W.cell? ⟨w.heap.size, 2, none⟩ = some (.slice a.E T.es.length a.e) ∧ W.cell? ⟨w.heap.size, 3, none⟩ = some (.int .i64 T.drop) ∧ W.cell? ⟨w.heap.size, 4, none⟩ = some (.int .i64 T.ord) ∧ W.cell? ⟨w.heap.size, 5, none⟩ = some (.int .i64 T.ini)) ∧ (W.cell? ⟨w.heap.size + 1, 0, none⟩ = some (.int .i64 d.c) ∧ W.cell? ⟨w.heap.size + 1, 1, none⟩ = some (.slice A1 n1d ac) ∧ W.cell? ⟨w.heap.size + 1, 2, none⟩ = some (.slice B1 n2d bc) ∧ W.cell? ⟨w.heap.size + 1, 3, none⟩ = some (.string (bs d.F))) from by
    have h3 := h2.below (star_ok cell_ok (star_ok cell_ok emp_ok)) h
    obtain ⟨f1, hf1⟩ := h3.fst
    obtain ⟨f2, hf2⟩ := h3.drop.fst
    exact ⟨⟨cell_at hf2 rfl, cell_at hf2 rfl, cell_at hf2 rfl, cell_at hf2 rfl, cell_at hf2 rfl, cell_at hf2 rfl⟩, cell_at hf1 rfl, cell_at hf1 rfl, cell_at hf1 rfl, cell_at hf1 rfl⟩))
  have KH := hide (head_any ((w.alloc (.cells (tabC T a) 25)).alloc (.cells #[.int .i64 d.c, .slice A1 n1d ac, .slice B1 n2d bc, .string (bs d.F)] 47)) (hz.below HB.out))
  clear hT hz h1 h2 hC
  unfold tabV
  unfold tabC at HB HTC KH ⊢
  generalize hn1 : T.rs.length = n1 at *
  generalize hn2 : T.ds.length = n2 at *
  generalize hn3 : T.es.length = n3 at *
  have HN := hide (show tabV T a = .agg #[.slice a.A n1 a.c, .slice a.D n2 a.d, .slice a.E n3 a.e, .int .i64 T.drop, .int .i64 T.ord, .int .i64 T.ini] from by unfold tabV tabC; rw [hn1, hn2, hn3])
  clear hn1 hn2 hn3
  generalize hnc : C.length = nc at *
  have HNC := hide hnc
  clear hnc
  go_enter Tryz.func11, Tryz.ntmps11
  go_wp2_with fail
  refine KH.out.mono ?_
  rintro e9 w1 ⟨rfl, hb1⟩
  generalize (w.alloc (.cells #[.slice a.A n1 a.c, .slice a.D n2 a.d, .slice a.E n3 a.e, .int .i64 T.drop, .int .i64 T.ord, .int .i64 T.ini] 25)).alloc (.cells #[.int .i64 d.c, .slice A1 n1d ac, .slice B1 n2d bc, .string (bs d.F)] 47) = wb at *
  obtain ⟨gt, hgt⟩ : ∃ gt, gt = w.heap.size := ⟨_, rfl⟩
  have HBW := hide (fun W (h : Below wb.heap.size wb W) => HB.out.trans (h.mono HB.out.size))
  have HZW := hide (fun W (h : Below wb.heap.size wb W) => HZ.out.below (HBW.out W h))
  have HTW := hide (fun W (h : Below wb.heap.size wb W) => HT.out.below (HBW.out W h))
  have HB1 := hide hb1
  have HCW := hide (fun W (h : Below wb.heap.size wb W) => Rst.below HC.out (HBW.out W h))
  have KF := hide (few_any (c := c) (HTW.out w1 hb1) (HCW.out w1 hb1) x y)
  rw [HN.out, HNC.out] at KF
  obtain ⟨⟨t0, t1, t2, t3, t4, t5⟩, v0, v1, v2, v3⟩ := HTC.out _ hb1
  clear KH hb1 HT HZ HB HC
  dsimp only
  cases hf : fewN T x y C with
  | false =>
    simp only [hf] at KF
    clear hf
    go_wp2_with fail
    refine KF.out.mono ?_
    rintro e9 w2 ⟨rfl, hb⟩
    have HB2 := hide (bel_trans HB1.out hb)
    clear KF hb t0 t1 t2 t3 t4 t5 v0 v1 v2 v3
    dsimp only
    go_wp2
    go_ret
    exact bel_bool rfl (HBW.out _ HB2.out)
  | true =>
    simp only [hf] at KF
    have HF := hide (fewN_iff.1 hf)
    clear hf
    go_wp2_with fail
    refine KF.out.mono ?_
    rintro e9 w2 ⟨rfl, hb⟩
    have HB2 := hide (bel_trans HB1.out hb)
    clear KF hb t0 t1 t2 t3 t4 t5 v0 v1 v2 v3
    dsimp only
    have HTD := hide (HTC.out _ HB2.out)
    have hfs : (bs d.F).size = d.F.length := bs_size _
    generalize d.F.length = nF at *
    obtain ⟨⟨t0, t1, t2, t3, t4, t5⟩, v0, v1, v2, v3⟩ := HTD.out
    clear HTD
    by_cases hl1 : 100 < n1d
    · have u1 : decide ((100 : Int) < (n1d : Int)) = true := decide_eq_true (by omega)
      clear hl1
      go_wp2
      go_ret
      exact bel_bool rfl (HBW.out _ HB2.out)
    · have u1 : decide ((100 : Int) < (n1d : Int)) = false := decide_eq_false (by omega)
      by_cases hl2 : 100 < n2d
      · have u2 : decide ((100 : Int) < (n2d : Int)) = true := decide_eq_true (by omega)
        clear hl1 hl2
        go_wp2
        go_ret
        exact bel_bool rfl (HBW.out _ HB2.out)
      · have u2 : decide ((100 : Int) < (n2d : Int)) = false := decide_eq_false (by omega)
        by_cases hl3 : 300 < nF
        · have u3 : decide ((300 : Int) < (nF : Int)) = true := decide_eq_true (by omega)
          clear hl1 hl2 hl3
          go_wp2
          go_ret
          exact bel_bool rfl (HBW.out _ HB2.out)
        · have u3 : decide ((300 : Int) < (nF : Int)) = false := decide_eq_false (by omega)
          have HSM := hide (show C.length ≤ 1000000 ∧ ∀ p ∈ C, p.a.length ≤ 1000000 from by
            obtain ⟨⟨-, -, -, g4⟩, -, -, -, g5⟩ := fewT_iff.1 HF.out.1
            exact ⟨by omega, fun p hp => by have := short_iff.1 (g5 p hp); omega⟩)
          have hx6 : x.length ≤ 1000000 := by have := HF.out.2.1; omega
          have hy6 : y.length ≤ 1000000 := by have := HF.out.2.2; omega
          have K1 := hide (check_any (c := c) ((HTW.out w2 HB2.out).few HF.out.1) (HZW.out w2 HB2.out) k x k2 y bound hx6 hy6 (HCW.out w2 HB2.out) HSM.out.1 HSM.out.2)
          have KB := hide (fun W (h : Below wb.heap.size wb W) => best_any ((HTW.out W h).few HF.out.1) (HZW.out W h) k x k2 y hx6 hy6)
          have KA := hide (fun W (h : Below wb.heap.size wb W) => acheck_any (d := d) (ac := ac) (bc := bc) ((HTW.out W h).few HF.out.1) (HZW.out W h) k x k2 y hx6 hy6 (HA1.out.below (HBW.out W h)) (HB1D.out.below (HBW.out W h)) (by have := HN1D.out; omega) (by have := HN2D.out; omega))
          rw [← HN1D.out, ← HN2D.out] at KA
          simp only [HN.out, HNC.out] at K1 KB KA
          clear hl1 hl2 hl3 hx6 hy6
          go_wp2_with fail
          refine K1.out.mono ?_
          rintro e9 w3 ⟨b1, rfl, hiff, hb⟩
          have HB3 := hide (bel_trans HB2.out hb)
          have HI1 := hide hiff
          clear K1 hiff hb t0 t1 t2 t3 t4 t5 v0 v1 v2 v3
          dsimp only
          cases b1 with
          | false =>
            go_wp2
            go_ret
            exact bel_bool rfl (HBW.out _ HB3.out)
          | true =>
            have HCK := hide (HI1.out.1 rfl)
            clear HI1
            have K2 := hide (KB.out w3 HB3.out)
            obtain ⟨⟨t0, t1, t2, t3, t4, t5⟩, v0, v1, v2, v3⟩ := HTC.out _ HB3.out
            go_wp2_with fail
            refine K2.out.mono ?_
            rintro e9 w4 ⟨d2, er, A, n, cc, B2, m, c2, f, rfl, hbp, hb⟩
            have HB4 := hide (bel_trans HB3.out hb)
            have hl := (law_sound (d := d2) (e := er) HCK.out).1 hbp
            have HRD := hide ((law_sound (d := d) (e := 0) HCK.out).2)
            clear K2 hbp hb t0 t1 t2 t3 t4 t5 v0 v1 v2 v3
            dsimp only
            obtain ⟨dc, hdc⟩ : ∃ dc, dc = d2.c := ⟨_, rfl⟩
            rw [← hdc] at hl ⊢
            clear hdc
            have r5 := run_new (Run.begin w4) emp_ok #[.int .i64 dc, .slice A n cc, .slice B2 m c2, .string (bs f)] 47
            have HB5 := hide (bel_trans HB4.out (r5.mod.below (fun _ _ h => h)))
            obtain ⟨f5, hf5⟩ := r5.fst
            have z0 := cell_at (i := 0) hf5 rfl
            have K3 := hide (KA.out _ HB5.out)
            obtain ⟨⟨t0, t1, t2, t3, t4, t5⟩, v0, v1, v2, v3⟩ := HTC.out _ HB5.out
            have HL := hide hl
            clear r5 hf5 f5 hl
            go_upto_region 5 with (fail)
            generalize w4.alloc (.cells #[.int .i64 dc, .slice A n cc, .slice B2 m c2, .string (bs f)] 47) = w5 at *
            generalize w4.heap.size = g18 at *
            rcases HL.out with rfl | ⟨rfl, hle⟩
            · clear HL
              go_wp2_with fail
              refine K3.out.mono ?_
              rintro e9 w6 ⟨b, rfl, himp, hb⟩
              have HB6 := hide (bel_trans HB5.out hb)
              have v0' := (HTC.out _ HB6.out).2.1
              have HIM := hide himp
              clear K3 hb t0 t1 t2 t3 t4 t5 v0 v1 v2 v3 himp z0
              dsimp only
              cases b with
              | false =>
                go_wp2
                go_ret
                exact bel_bool rfl (HBW.out _ HB6.out)
              | true =>
                have hge : decide (bound ≤ d.c) = true := decide_eq_true (HRD.out (HIM.out rfl))
                go_wp2
                go_ret
                exact bel_bool rfl (HBW.out _ HB6.out)
            · have tl : decide (dc < bound) = false := decide_eq_false (by omega)
              clear HL hle
              go_wp2_with fail
              refine K3.out.mono ?_
              rintro e9 w6 ⟨b, rfl, himp, hb⟩
              have HB6 := hide (bel_trans HB5.out hb)
              have v0' := (HTC.out _ HB6.out).2.1
              have HIM := hide himp
              clear K3 hb t0 t1 t2 t3 t4 t5 v0 v1 v2 v3 himp z0
              dsimp only
              cases b with
              | false =>
                go_wp2
                go_ret
                exact bel_bool rfl (HBW.out _ HB6.out)
              | true =>
                have hge : decide (bound ≤ d.c) = true := decide_eq_true (HRD.out (HIM.out rfl))
                go_wp2
                go_ret
                exact bel_bool rfl (HBW.out _ HB6.out)
end Go.Proofs.YtnppgomhhcbplaaGreatDoor
namespace Go.Proofs.YtnppgomhhcbplaaGreatDoor
open Go.ChangeShapes Go.WideShapes Go.ChangeAt Go.RowKit Go.CH Go.CH.Scr Go.CH.Pot Go.Deep Go.Shelf Go.Lib
section
variable {H : Type} {enc : TypeId × Value → H} {w : World}
theorem each_num : ∀ m cs y, DataW.trod enc Tryz.prog w 0 (fun _ => true) true m 3 cs = some y → ∃ x : Int, cs = [.int .i64 x] ∧ True := by
  intro m cs y h
  obtain ⟨s, h1, _⟩ := DataW.trod_int Tryz.underlying3 h
  exact ⟨s, h1, trivial⟩
theorem flat_nums (l : List Int) : l.flatMap (fun x : Int => [Value.int .i64 x]) = l.map (Value.int .i64) := by
  induction l with
  | nil => rfl
  | cons a l ih => rw [List.flatMap_cons, List.map_cons, ih]; rfl
theorem open_nums {m : Nat} {v : Value} {y : DataW H × List MemPlace} (h : DataW.trod enc Tryz.prog w 0 (fun _ => true) true m 45 [v] = some y) :
    ∃ (A : Option Addr) (c : Nat) (l : List Int), v = .slice A l.length c ∧ IntR w A l := by
  obtain ⟨A, n, c, rfl⟩ := slice_form Tryz.underlying45 h
  obtain ⟨xs, h1, h2, h3, h4, h5⟩ := open_src (P := Tryz.prog) (t := 45) (e := 3) (A := A) (n := n) (c := c) (d := y.1) (ps := y.2) (size := 1) (fun x : Int => [Value.int .i64 x]) (fun _ => True) Tryz.underlying45 (by kernel_rfl) (by decide) each_num (fun x _ u hu => by simp at hu; subst hu; rfl) ⟨m, by simpa [Value.cells] using h⟩
  subst h1
  rw [flat_nums] at h2
  exact ⟨A, c, xs, rfl, h2⟩
theorem len4 {cs : List Value} (h : cs.length = 4) : ∃ a b c d, cs = [a, b, c, d] := by
  match cs, h with
  | [a, b, c, d], _ => exact ⟨a, b, c, d, rfl⟩
/-- A derivation that came in. -/
structure DZ where
  d : Dv
  A : Option Addr
  ac : Nat
  B : Option Addr
  bc : Nat
def dzV (z : DZ) : Value := .agg #[.int .i64 z.d.c, .slice z.A z.d.L.length z.ac, .slice z.B z.d.M.length z.bc, .string (bs z.d.F)]
def DzOk (w : World) (z : DZ) : Prop := IntR w z.A z.d.L ∧ IntR w z.B z.d.M
set_option maxRecDepth 100000 in
theorem open47 {r : Reach} {b0 : Nat} {v : Value} {d : DataW H} {ps : List MemPlace} (hok : Value.okWide Tryz.prog w r b0 47 v) (h : DataW.Trod enc Tryz.prog w 0 (fun _ => true) true 47 v d ps) : ∃ z : DZ, v = dzV z ∧ DzOk w z := by
  obtain ⟨cs, rfl, hsz⟩ := okWide_struct Tryz.underlying47 hok
  obtain ⟨m, hm⟩ := h
  obtain ⟨xs, n, _, _, hl, hxl, hf⟩ := DataW.trod_struct Tryz.underlying47 hm
  have hl4 := hl.trans (by kernel_rfl : _ = 4)
  obtain ⟨a0, a1, a2, a3, ha⟩ := len4 hl4
  have hxl4 : xs.length = 4 := hxl
  have ex : ∀ i (hi : i < 4), xs[i]? = some (xs[i]'(by omega)) := fun i hi => List.getElem?_eq_getElem (by omega)
  have s3 : Tryz.prog.cellsOf 3 = 1 := by kernel_rfl
  have s9 : Tryz.prog.cellsOf 9 = 1 := by kernel_rfl
  have s45 : Tryz.prog.cellsOf 45 = 1 := by kernel_rfl
  have t0 := (hf 0 _ rfl).trans (ex 0 (by omega))
  have t1 := (hf 1 _ rfl).trans (ex 1 (by omega))
  have t2 := (hf 2 _ rfl).trans (ex 2 (by omega))
  have t3 := (hf 3 _ rfl).trans (ex 3 (by omega))
  rw [ha] at t0 t1 t2 t3
  have t0' : DataW.trod enc Tryz.prog w 0 (fun _ => true) true n 3 (([a0, a1, a2, a3].drop 0).take (Tryz.prog.cellsOf 3)) = some (xs[0]'(by omega)) := t0
  have t1' : DataW.trod enc Tryz.prog w 0 (fun _ => true) true n 45 (([a0, a1, a2, a3].drop 1).take (Tryz.prog.cellsOf 45)) = some (xs[1]'(by omega)) := t1
  have t2' : DataW.trod enc Tryz.prog w 0 (fun _ => true) true n 45 (([a0, a1, a2, a3].drop 2).take (Tryz.prog.cellsOf 45)) = some (xs[2]'(by omega)) := t2
  have t3' : DataW.trod enc Tryz.prog w 0 (fun _ => true) true n 9 (([a0, a1, a2, a3].drop 3).take (Tryz.prog.cellsOf 9)) = some (xs[3]'(by omega)) := t3
  simp only [s3, s9, s45, List.drop, List.take] at t0' t1' t2' t3'
  obtain ⟨x0, f0, -, -⟩ := DataW.trod_int Tryz.underlying3 t0'
  obtain ⟨A, ac, l1, f1, k1⟩ := open_nums t1'
  obtain ⟨B, bc, l2, f2, k2⟩ := open_nums t2'
  obtain ⟨x3, f3, -⟩ := DataW.trod_string Tryz.underlying9 t3'
  injection f0 with f0
  injection f3 with f3
  subst f0 f1 f2 f3
  refine ⟨⟨⟨x0, l1, l2, bl x3⟩, A, ac, B, bc⟩, ?_, ⟨k1, k2⟩⟩
  have : cs = #[.int .i64 x0, .slice A l1.length ac, .slice B l2.length bc, .string x3] := by
    apply Array.toList_inj.1
    simpa [Value.cells] using ha
  rw [this]
  unfold dzV
  rw [bs_bl]
end
end Go.Proofs.YtnppgomhhcbplaaGreatDoor
