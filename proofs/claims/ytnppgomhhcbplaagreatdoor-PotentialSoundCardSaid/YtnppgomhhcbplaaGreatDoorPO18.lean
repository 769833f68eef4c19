/-
  Potential: the chapter's examples.
  Potential: the law Turned.
  Potential: the law Bounds.
  Potential: the law Less.
  Potential: the law Fewer.
-/
import Derived.Test.YtnppgomhhcbplaaGreatDoorPO17
import Derived.Test.YtnppgomhhcbplaaGreatDoorPO7
import Derived.Test.YtnppgomhhcbplaaGreatDoorPO5
import Derived.Deep.DeepCutAuto
set_option linter.unusedSimpArgs false
set_option linter.unusedVariables false
namespace Go.Proofs.YtnppgomhhcbplaaGreatDoor
open Go.RowKit Go.CH Go.CH.Scr Go.CH.Pot
open Go.ChangeMaps (setBlock)
theorem make_bel {w w' : World} {T : Tab} {k k2 bound : Int} {x y : Bs} {e : Ending} (h : MakeRet w T k x k2 y bound e w') : ∃ A c C er, e = .returned (.tuple #[.slice A C.length c, .int .i64 er]) ∧ MakeP T k x k2 y bound C er ∧ PtsR w' A C ∧ Below w.heap.size w w' := by
  obtain ⟨A, c, C, er, h1, h2, F, h3, h4, h5⟩ := h
  exact ⟨A, c, C, er, h1, h2, pts_of h3, h4.below (fun _ _ h => h)⟩
theorem check_bool {w w' : World} {T : Tab} {k k2 bound : Int} {x y : Bs} {C : List Pt} {e : Ending} (h : CheckRet w T k x k2 y bound C e w') (b : Bool) (hb : b = true ↔ CheckP T k x k2 y bound C) : e = .returned (.bool b) ∧ Below w.heap.size w w' := by
  obtain ⟨b', h1, h2, h3⟩ := h
  have : b' = b := Bool.eq_iff_iff.2 (h2.trans hb.symm)
  rw [h1, this]
  exact ⟨rfl, h3⟩
theorem pts_cut1 {W : World} {g : Nat} {C : List Pt} (h : PtsR W (some ⟨g, 0, none⟩) C) : PtsR W (some ⟨g, 5, none⟩) (C.drop 1) := by
  cases C with
  | nil => exact ⟨by simp, fun u hu => (by cases hu), fun h => absurd h (Nat.lt_irrefl _)⟩
  | cons p C =>
    obtain ⟨b, o, e, hc⟩ := PtsR.at h (by simp)
    injection e with e
    injection e with e1 e2
    subst e1 e2
    refine ⟨by rw [List.drop_succ_cons, List.drop_zero, flat_len], pcells_one _, fun _ => ⟨_, rfl, fun j u hu => ?_⟩⟩
    obtain ⟨ad, e, hc2⟩ := h.2.2 (by simp)
    injection e with e
    subst e
    have h1 := hc2 (5 + j) u (by rw [List.flatMap_cons, List.getElem?_append_right (by rw [pcells_len]; omega), pcells_len, Nat.add_sub_cancel_left]; exact hu)
    have e3 : (⟨g, 5, none⟩ : Addr).add j = (⟨g, 0, none⟩ : Addr).add (5 + j) := by unfold Addr.add; split <;> simp_all
    rw [e3]; exact h1
theorem row_cell {w : World} {F : Nat → Prop} {g n c : Nat} {xs : List Value} {i : Nat} {v : Value} (h : RowO 37 5 (.slice (some ⟨g, 0, none⟩) n c) n xs w F) (hv : xs[i]? = some v) : w.cell? ⟨g, i, none⟩ = some v ∧ w.frozen? ⟨g, i, none⟩ = false := by
  rcases h.1.2 with ⟨e1, -⟩ | ⟨g', cap, cur, e1, -, hg, -, -, -, ht⟩
  · cases e1
  · injection e1 with e2 e3 e4
    injection e2 with e2; injection e2 with e2
    subst e2
    rw [← ht, List.getElem?_take] at hv
    split at hv
    · rw [Array.getElem?_toList] at hv
      simp only [World.cell?, World.frozen?, hg]
      exact ⟨by rw [hv]; rfl, by simp⟩
    · cases hv
theorem row_some {w : World} {F : Nat → Prop} {A : Option Addr} {n c : Nat} {xs : List Value} (h : RowO 37 5 (.slice A (n + 1) c) (n + 1) xs w F) : ∃ g, A = some ⟨g, 0, none⟩ := by
  rcases h.1.2 with ⟨-, e1⟩ | ⟨g', cap, cur, e1, -⟩
  · cases e1
  · injection e1 with e2
    exact ⟨g', e2⟩
theorem bad_set : (wantC.flatMap pcells).set 19 (.int .i64 1) = badC.flatMap pcells := rfl
set_option maxHeartbeats 6400000 in
set_option maxRecDepth 100000 in
theorem head_any (w : World) (hz : LZ w) : Calls Tryz.prog 12 #[] w (BelowRet w (.bool true)) := by
  have HZ := hide hz
  have KS := hide (sample_any w)
  clear hz
  go_enter Tryz.func12, Tryz.ntmps12
  go_wp2_with fail
  refine KS.out.mono ?_
  rintro e9 w1 ⟨a, rfl, hb, hT⟩
  have HT := hide hT
  have HB := hide hb
  clear KS hb hT
  have h1 : Run (fun _ => False) w1 (star (CellO w1.heap.size #[.slice a.A 3 a.c, .slice a.D 0 a.d, .slice a.E 0 a.e, .int .i64 0, .int .i64 0, .int .i64 0] 25) emp) (w1.alloc (.cells #[.slice a.A 3 a.c, .slice a.D 0 a.d, .slice a.E 0 a.e, .int .i64 0, .int .i64 0, .int .i64 0] 25)) := run_new (Run.begin w1) emp_ok _ 25
  have HB1 := hide (show Below w1.heap.size w1 (w1.alloc (.cells #[.slice a.A 3 a.c, .slice a.D 0 a.d, .slice a.E 0 a.e, .int .i64 0, .int .i64 0, .int .i64 0] 25)) from h1.mod.below (fun _ _ h => h))
  have HTC := hide (fun W (h : Below (w1.alloc (.cells #[.slice a.A 3 a.c, .slice a.D 0 a.d, .slice a.E 0 a.e, .int .i64 0, .int .i64 0, .int .i64 0] 25)).heap.size (w1.alloc (.cells #[.slice a.A 3 a.c, .slice a.D 0 a.d, .slice a.E 0 a.e, .int .i64 0, .int .i64 0, .int .i64 0] 25)) W) => (show W.cell? ⟨w1.heap.size, 0, none⟩ = some (.slice a.A 3 a.c) ∧ W.cell? ⟨w1.heap.size, 1, none⟩ = some (.slice a.D 0 a.d) ∧ W.cell? ⟨w1.heap.size, 2, none⟩ = some (.slice a.E 0 a.e) ∧ W.cell? ⟨w1.heap.size, 3, none⟩ = some (.int .i64 0) ∧ W.cell? ⟨w1.heap.size, 4, none⟩ = some (.int .i64 0) ∧ W.cell? ⟨w1.heap.size, 5, none⟩ = some (.int .i64 0) from by
    obtain ⟨f, hf⟩ := (h1.below (star_ok cell_ok emp_ok) h).fst
    exact ⟨cell_at hf rfl, cell_at hf rfl, cell_at hf rfl, cell_at hf rfl, cell_at hf rfl, cell_at hf rfl⟩))
  have HTW := hide (fun W (h : Below (w1.alloc (.cells #[.slice a.A 3 a.c, .slice a.D 0 a.d, .slice a.E 0 a.e, .int .i64 0, .int .i64 0, .int .i64 0] 25)).heap.size (w1.alloc (.cells #[.slice a.A 3 a.c, .slice a.D 0 a.d, .slice a.E 0 a.e, .int .i64 0, .int .i64 0, .int .i64 0] 25)) W) => (HT.out.below HB1.out).below h)
  have HZW := hide (fun W (h : Below (w1.alloc (.cells #[.slice a.A 3 a.c, .slice a.D 0 a.d, .slice a.E 0 a.e, .int .i64 0, .int .i64 0, .int .i64 0] 25)).heap.size (w1.alloc (.cells #[.slice a.A 3 a.c, .slice a.D 0 a.d, .slice a.E 0 a.e, .int .i64 0, .int .i64 0, .int .i64 0] 25)) W) => ((HZ.out.below HB.out).below HB1.out).below h)
  have HBW := hide (fun W (h : Below (w1.alloc (.cells #[.slice a.A 3 a.c, .slice a.D 0 a.d, .slice a.E 0 a.e, .int .i64 0, .int .i64 0, .int .i64 0] 25)).heap.size (w1.alloc (.cells #[.slice a.A 3 a.c, .slice a.D 0 a.d, .slice a.E 0 a.e, .int .i64 0, .int .i64 0, .int .i64 0] 25)) W) => bel_trans (bel_trans HB.out HB1.out) h)
  have KM := hide (fun W (h : Below (w1.alloc (.cells #[.slice a.A 3 a.c, .slice a.D 0 a.d, .slice a.E 0 a.e, .int .i64 0, .int .i64 0, .int .i64 0] 25)).heap.size (w1.alloc (.cells #[.slice a.A 3 a.c, .slice a.D 0 a.d, .slice a.E 0 a.e, .int .i64 0, .int .i64 0, .int .i64 0] 25)) W) (k : Int) (x : Bs) (k2 : Int) (y : Bs) (bound : Int) (hx : x.length ≤ 1000000) (hy : y.length ≤ 1000000) => (show Calls Tryz.prog 14 #[(.agg #[.slice a.A 3 a.c, .slice a.D 0 a.d, .slice a.E 0 a.e, .int .i64 0, .int .i64 0, .int .i64 0]), .int .i64 k, .string (bs x), .int .i64 k2, .string (bs y), .int .i64 bound] W (fun e w' => ∃ A c C er, e = .returned (.tuple #[.slice A C.length c, .int .i64 er]) ∧ MakeP sampT k x k2 y bound C er ∧ PtsR w' A C ∧ Below W.heap.size W w') from (make_any (HTW.out W h) (HZW.out W h) k x k2 y bound hx hy).mono fun e w' h => make_bel h))
  have KC := hide (fun W (h : Below (w1.alloc (.cells #[.slice a.A 3 a.c, .slice a.D 0 a.d, .slice a.E 0 a.e, .int .i64 0, .int .i64 0, .int .i64 0] 25)).heap.size (w1.alloc (.cells #[.slice a.A 3 a.c, .slice a.D 0 a.d, .slice a.E 0 a.e, .int .i64 0, .int .i64 0, .int .i64 0] 25)) W) (k : Int) (x : Bs) (k2 : Int) (y : Bs) (bound : Int) (hx : x.length ≤ 1000000) (hy : y.length ≤ 1000000) (B : Option Addr) (c : Nat) (C : List Pt) (hC : PtsR W B C) (hl : C.length ≤ 1000000) (hs : ∀ p ∈ C, p.a.length ≤ 1000000) (b : Bool) (hb : b = true ↔ CheckP sampT k x k2 y bound C) => (show Calls Tryz.prog 17 #[(.agg #[.slice a.A 3 a.c, .slice a.D 0 a.d, .slice a.E 0 a.e, .int .i64 0, .int .i64 0, .int .i64 0]), .int .i64 k, .string (bs x), .int .i64 k2, .string (bs y), .int .i64 bound, .slice B C.length c] W (fun e w' => e = .returned (.bool b) ∧ Below W.heap.size W w') from (check_any (c := c) (HTW.out W h) (HZW.out W h) k x k2 y bound hx hy hC hl hs).mono fun e w' h => check_bool h b hb))
  rw [show tabV sampT a = (.agg #[.slice a.A 3 a.c, .slice a.D 0 a.d, .slice a.E 0 a.e, .int .i64 0, .int .i64 0, .int .i64 0]) from rfl]
  clear h1 HT HZ HB HB1
  have HB0 := hide (Below.refl (w1.alloc (.cells #[.slice a.A 3 a.c, .slice a.D 0 a.d, .slice a.E 0 a.e, .int .i64 0, .int .i64 0, .int .i64 0] 25)).heap.size (w1.alloc (.cells #[.slice a.A 3 a.c, .slice a.D 0 a.d, .slice a.E 0 a.e, .int .i64 0, .int .i64 0, .int .i64 0] 25)))
  have K := hide (KM.out (w1.alloc (.cells #[.slice a.A 3 a.c, .slice a.D 0 a.d, .slice a.E 0 a.e, .int .i64 0, .int .i64 0, .int .i64 0] 25)) HB0.out 1 [97, 98] 1 [97, 99] 2 (by decide) (by decide))
  go_wp2_with fail
  refine K.out.mono ?_
  rintro e9 w2 ⟨A1, c1, C1, er1, rfl, hm, hp, hb⟩
  obtain ⟨rfl, rfl⟩ := samp_m1 hm
  have HB1 := hide (bel_trans HB0.out hb)
  have HP1_1 := hide hp
  clear K hm hp hb
  dsimp only
  rw [show wantC.length = 4 from rfl]
  have K := hide (KM.out w2 HB1.out 1 [97, 98] 1 [97, 99] 3 (by decide) (by decide))
  obtain ⟨t0, t1, t2, t3, t4, t5⟩ := HTC.out w2 HB1.out
  go_wp2_with fail
  refine K.out.mono ?_
  rintro e9 w3 ⟨A2, c2, C2, er2, rfl, hm, hp, hb⟩
  obtain ⟨rfl, rfl⟩ := samp_m2 hm
  have HB2 := hide (bel_trans HB1.out hb)
  have HP1_2 := hide (Rst.below HP1_1.out hb)
  clear HP1_1
  clear K hm hp hb t0 t1 t2 t3 t4 t5
  dsimp only
  have K := hide (KM.out w3 HB2.out 1 [97] 1 [98] 5 (by decide) (by decide))
  obtain ⟨t0, t1, t2, t3, t4, t5⟩ := HTC.out w3 HB2.out
  go_wp2_with fail
  refine K.out.mono ?_
  rintro e9 w4 ⟨A3, c3, C3, er3, rfl, hm, hp, hb⟩
  obtain ⟨rfl, rfl⟩ := samp_m3 hm
  have HB3 := hide (bel_trans HB2.out hb)
  have HP1_3 := hide (Rst.below HP1_2.out hb)
  clear HP1_2
  have HP3_3 := hide hp
  clear K hm hp hb t0 t1 t2 t3 t4 t5
  dsimp only
  have K := hide (KM.out w4 HB3.out 1 [97] 1 [99] 0 (by decide) (by decide))
  obtain ⟨t0, t1, t2, t3, t4, t5⟩ := HTC.out w4 HB3.out
  go_wp2_with fail
  refine K.out.mono ?_
  rintro e9 w5 ⟨A4, c4, C4, er4, rfl, hm, hp, hb⟩
  obtain ⟨rfl, rfl⟩ := samp_m4 hm
  have HB4 := hide (bel_trans HB3.out hb)
  have HP1_4 := hide (Rst.below HP1_3.out hb)
  clear HP1_3
  have HP3_4 := hide (Rst.below HP3_3.out hb)
  clear HP3_3
  clear K hm hp hb t0 t1 t2 t3 t4 t5
  dsimp only
  have hpw : PtsR (w5.alloc (.cells #[.int .i64 0, .int .i64 0, .string { data := #[] }, .bool false, .int .i64 2, .int .i64 1, .int .i64 0, .string { data := #[97] }, .bool false, .int .i64 2, .int .i64 1, .int .i64 1, .string { data := #[] }, .bool false, .int .i64 2, .int .i64 2, .int .i64 1, .string { data := #[98] }, .bool false, .int .i64 2] 37)) (some ⟨w5.heap.size, 0, none⟩) wantC := pts_lit w5 wantC
  have hba : Below w5.heap.size w5 (w5.alloc (.cells #[.int .i64 0, .int .i64 0, .string { data := #[] }, .bool false, .int .i64 2, .int .i64 1, .int .i64 0, .string { data := #[97] }, .bool false, .int .i64 2, .int .i64 1, .int .i64 1, .string { data := #[] }, .bool false, .int .i64 2, .int .i64 2, .int .i64 1, .string { data := #[98] }, .bool false, .int .i64 2] 37)) := (Below.refl _ _).alloc (Nat.le_refl _) _
  have hp1 := Rst.below HP1_4.out hba
  have K := hide (show Calls Tryz.prog 16 #[.slice A1 4 c1, .slice (some ⟨w5.heap.size, 0, none⟩) 4 4] (w5.alloc (.cells #[.int .i64 0, .int .i64 0, .string { data := #[] }, .bool false, .int .i64 2, .int .i64 1, .int .i64 0, .string { data := #[97] }, .bool false, .int .i64 2, .int .i64 1, .int .i64 1, .string { data := #[] }, .bool false, .int .i64 2, .int .i64 2, .int .i64 1, .string { data := #[98] }, .bool false, .int .i64 2] 37)) (BelowRet _ (.bool true)) from same_any (c := c1) (d := 4) hp1 hpw (by decide) (by decide))
  have HB5 := hide (bel_trans HB4.out hba)
  have HPW5 := hide hpw
  have HP3_5 := hide (Rst.below HP3_4.out hba)
  clear hpw hba hp1 HP1_4 HP3_4
  go_wp2_with fail
  refine K.out.mono ?_
  rintro e9 w7 ⟨rfl, hb⟩
  have HB6 := hide (bel_trans HB5.out hb)
  have HPW6 := hide (Rst.below HPW5.out hb)
  have HP3_6 := hide (Rst.below HP3_5.out hb)
  clear K hb HPW5 HP3_5
  generalize w5.heap.size = gw at *
  dsimp only
  have hp2 : PtsR (w7.alloc (.cells #[.int .i64 0, .int .i64 0, .string { data := #[] }, .bool false, .int .i64 5, .int .i64 1, .int .i64 0, .string { data := #[97] }, .bool false, .int .i64 5] 37)) (some ⟨w7.heap.size, 0, none⟩) [⟨0, 0, [], false, 5⟩, ⟨1, 0, [97], false, 5⟩] := pts_lit w7 [⟨0, 0, [], false, 5⟩, ⟨1, 0, [97], false, 5⟩]
  have hba : Below w7.heap.size w7 (w7.alloc (.cells #[.int .i64 0, .int .i64 0, .string { data := #[] }, .bool false, .int .i64 5, .int .i64 1, .int .i64 0, .string { data := #[97] }, .bool false, .int .i64 5] 37)) := (Below.refl _ _).alloc (Nat.le_refl _) _
  have K := hide (show Calls Tryz.prog 16 #[.slice A3 2 c3, .slice (some ⟨w7.heap.size, 0, none⟩) 2 2] (w7.alloc (.cells #[.int .i64 0, .int .i64 0, .string { data := #[] }, .bool false, .int .i64 5, .int .i64 1, .int .i64 0, .string { data := #[97] }, .bool false, .int .i64 5] 37)) (BelowRet _ (.bool true)) from same_any (c := c3) (d := 2) (C := [⟨0, 0, [], false, 5⟩, ⟨1, 0, [97], false, 5⟩]) (D := [⟨0, 0, [], false, 5⟩, ⟨1, 0, [97], false, 5⟩]) (Rst.below HP3_6.out hba) hp2 (by decide) (by decide))
  have HB7 := hide (bel_trans HB6.out hba)
  have HPW7 := hide (Rst.below HPW6.out hba)
  clear hp2 hba HP3_6 HPW6
  go_wp2_with fail
  refine K.out.mono ?_
  rintro e9 w8 ⟨rfl, hb⟩
  have HB8 := hide (bel_trans HB7.out hb)
  have HPW8 := hide (Rst.below HPW7.out hb)
  clear K hb HPW7
  dsimp only
  have hba : Below w8.heap.size w8 (w8.alloc (.cells #[] 37)) := (Below.refl _ _).alloc (Nat.le_refl _) _
  have hr9 := (Run.begin w8).fresh emp_ok (row_made w8 37 5)
  have HPW9 := hide (Rst.below HPW8.out hba)
  have HR9 := hide hr9
  clear hba hr9
  go_wp2_with (at_builtin; refine held ?_)
  obtain ⟨F7, hR7, -, bk7⟩ := HR9.out.take row_ok emp_ok
  refine Held.mk (wpList_appX rfl (.tmp 72) (.tmp 73) rfl ptsOk _ 0 (v := .slice (some ⟨w8.heap.size, 0, none⟩) 0 0) (n := 0) (xs := []) rfl hR7.1 (A := some ⟨gw, 0, none⟩) (m := 4) (c := 4) (news := wantC.flatMap pcells) rfl HPW9.out (by unfold maxLen; omega) (by omega) (Nat.zero_le _) ?_)
  intro v8 w10 ho8 hg8 hv8
  have S8 := bk7 _ _ (row_app hR7 ho8 hg8 hv8)
  obtain ⟨A8, c8, rfl⟩ := own_form ho8
  rw [Nat.zero_add, List.nil_append] at S8
  obtain ⟨F8, hF8⟩ := S8.fst
  obtain ⟨g8, rfl⟩ := row_some hF8
  obtain ⟨q0, q1⟩ := row_cell (i := 19) (v := .int .i64 2) hF8 rfl
  obtain ⟨F9, hF9, -, bk9⟩ := S8.take row_ok emp_ok
  have S9 := bk9 _ _ (row_set hF9 (i := 19) (by omega) (.int .i64 1))
  rw [bad_set] at S9
  have HS9 := hide S9
  have hb9 : Below w8.heap.size w8 _ := S9.mod.below (fun _ _ h => h)
  have HB9 := hide (bel_trans HB8.out hb9)
  have HPA := hide (Rst.below HPW8.out hb9)
  obtain ⟨F10, hF10⟩ := S9.fst
  have HPB := hide (pts_of (C := badC) hF10)
  have K := hide (KC.out _ HB9.out 1 [97, 98] 1 [97, 99] 2 (by decide) (by decide) (some ⟨gw, 0, none⟩) 4 wantC HPA.out (by decide) (by decide) true ⟨fun _ => samp_k1, fun _ => rfl⟩)
  obtain ⟨t0, t1, t2, t3, t4, t5⟩ := HTC.out _ HB9.out
  clear ho8 hg8 hv8 bk7 hR7 S8 hF8 hF9 bk9 S9 HR9 HPW9 hb9 hF10 HPW8 HS9
  go_wp2_with fail
  refine K.out.mono ?_
  rintro e9 w11 ⟨rfl, hb⟩
  have HB10 := hide (bel_trans HB9.out hb)
  have HPA2 := hide (Rst.below HPA.out hb)
  have HPB2 := hide (Rst.below HPB.out hb)
  clear K hb HPA HPB HB9 t0 t1 t2 t3 t4 t5 q0 q1
  dsimp only
  have HB11 := hide (below_drew HB10.out)
  have HPA3 := hide (Rst.below HPA2.out (below_drew (Below.refl _ _)))
  have HPB3 := hide (Rst.below HPB2.out (below_drew (Below.refl _ _)))
  clear HPA2 HPB2
  have hS0 := HTC.out _ HB11.out
  go_wp2_with fail
  refine wp_region_lex (fun W : World => W.cell? ⟨w1.heap.size, 0, none⟩ = some (.slice a.A 3 a.c) ∧ W.cell? ⟨w1.heap.size, 1, none⟩ = some (.slice a.D 0 a.d) ∧ W.cell? ⟨w1.heap.size, 2, none⟩ = some (.slice a.E 0 a.e) ∧ W.cell? ⟨w1.heap.size, 3, none⟩ = some (.int .i64 0) ∧ W.cell? ⟨w1.heap.size, 4, none⟩ = some (.int .i64 0) ∧ W.cell? ⟨w1.heap.size, 5, none⟩ = some (.int .i64 0)) rfl (by kernel_rfl) hS0 ?_
  clear hS0
  generalize w11.drew = w12 at *
  (repeat (first | (refine lex_skip (by rfl) ?_; try simp only [Act.put, List.setIfInBounds_toArray, List.set_cons_zero, List.set_cons_succ]) | (refine lex_read (v := ?_) (by rfl) ?_ ?_; rotate_left; (focus (intro w' hS'; go_simp; (try with_reducible rfl); done)); try simp only [Act.put, List.setIfInBounds_toArray, List.set_cons_zero, List.set_cons_succ])))
  have K := hide (KC.out _ HB11.out 1 [97, 98] 1 [97, 99] 2 (by decide) (by decide) (some ⟨g8, 0, none⟩) c8 badC HPB3.out (by decide) (by decide) false ⟨fun h => (by cases h), fun h => (samp_k2 h).elim⟩)
  refine lex_chain rfl (by rfl) (fun K' hK => ?_)
  go_wp2_with fail
  refine K.out.mono ?_
  rintro e9 w13 ⟨rfl, hb⟩
  have HB12 := hide (bel_trans HB11.out hb)
  have HPA4 := hide (Rst.below HPA3.out hb)
  clear K hb
  dsimp only
  refine hK.out _ _ (HTC.out _ HB12.out) ?_
  clear hK
  (repeat (first | (refine lex_skip (by rfl) ?_; try simp only [Act.put, List.setIfInBounds_toArray, List.set_cons_zero, List.set_cons_succ]) | (refine lex_read (v := ?_) (by rfl) ?_ ?_; rotate_left; (focus (intro w' hS'; go_simp; (try with_reducible rfl); done)); try simp only [Act.put, List.setIfInBounds_toArray, List.set_cons_zero, List.set_cons_succ])))
  have K := hide (KC.out _ HB12.out 1 [97, 98] 1 [97, 99] 2 (by decide) (by decide) (some ⟨gw, 5, none⟩) 3 (wantC.drop 1) (pts_cut1 HPA4.out) (by decide) (by decide) false ⟨fun h => (by cases h), fun h => (samp_k3 h).elim⟩)
  refine lex_chain rfl (by rfl) (fun K' hK => ?_)
  go_wp2_with fail
  refine K.out.mono ?_
  rintro e9 w14 ⟨rfl, hb⟩
  have HB13 := hide (bel_trans HB12.out hb)
  clear K hb
  dsimp only
  refine hK.out _ _ (HTC.out _ HB13.out) ?_
  clear hK
  (repeat (first | (refine lex_skip (by rfl) ?_; try simp only [Act.put, List.setIfInBounds_toArray, List.set_cons_zero, List.set_cons_succ]) | (refine lex_read (v := ?_) (by rfl) ?_ ?_; rotate_left; (focus (intro w' hS'; go_simp; (try with_reducible rfl); done)); try simp only [Act.put, List.setIfInBounds_toArray, List.set_cons_zero, List.set_cons_succ])))
  have K := hide (KC.out _ HB13.out 1 [97, 98] 1 [97, 99] 0 (by decide) (by decide) none 0 [] src_none (by decide) (by decide) true ⟨fun _ => samp_k4, fun _ => rfl⟩)
  refine lex_chain rfl (by rfl) (fun K' hK => ?_)
  go_wp2_with fail
  refine K.out.mono ?_
  rintro e9 w15 ⟨rfl, hb⟩
  have HB14 := hide (bel_trans HB13.out hb)
  clear K hb
  dsimp only
  refine hK.out _ _ (HTC.out _ HB14.out) ?_
  clear hK
  (repeat (first | (refine lex_skip (by rfl) ?_; try simp only [Act.put, List.setIfInBounds_toArray, List.set_cons_zero, List.set_cons_succ]) | (refine lex_read (v := ?_) (by rfl) ?_ ?_; rotate_left; (focus (intro w' hS'; go_simp; (try with_reducible rfl); done)); try simp only [Act.put, List.setIfInBounds_toArray, List.set_cons_zero, List.set_cons_succ])))
  refine lex_nil ?_
  go_wp2
  go_ret
  exact bel_bool rfl (HBW.out _ HB14.out)
end Go.Proofs.YtnppgomhhcbplaaGreatDoor
namespace Go.Proofs.YtnppgomhhcbplaaGreatDoor
open Go.RowKit Go.CH Go.CH.Scr Go.CH.Pot
open Go.ChangeMaps (setBlock)
set_option maxHeartbeats 6400000 in
set_option maxRecDepth 100000 in
theorem law_turned_any {w : World} {T : Tab} {a : TA} (hT : TabZ w T a) (hz : LZ w) (k : Int) (x : Bs) (k2 : Int) (y : Bs) (bound : Int) :
    Calls Tryz.prog 7 #[tabV T a, .int .i64 k, .string (bs x), .int .i64 k2, .string (bs y), .int .i64 bound] w (BelowRet w (.bool true)) := by
  have HT := hide hT
  have HZ := hide hz
  have h1 : Run (fun _ => False) w (star (CellO w.heap.size (tabC T a) 25) emp) _ := run_new (Run.begin w) emp_ok _ 25
  have HB := hide (h1.mod.below (fun _ _ h => h))
  have HTC := hide (fun W (h : Below (w.alloc (.cells (tabC T a) 25)).heap.size (w.alloc (.cells (tabC T a) 25)) W) => (show W.cell? ⟨w.heap.size, 0, none⟩ = some (.slice a.A T.rs.length a.c) ∧ W.cell? ⟨w.heap.size, 1, none⟩ = some (.slice a.D T.ds.length a.d) ∧ W.cell? ⟨w.heap.size, 2, none⟩ = some (.slice a.E T.es.length a.e) ∧ W.cell? ⟨w.heap.size, 3, none⟩ = some (.int .i64 T.drop) ∧ W.cell? ⟨w.heap.size, 4, none⟩ = some (.int .i64 T.ord) ∧ W.cell? ⟨w.heap.size, 5, none⟩ = some (.int .i64 T.ini) from by
    obtain ⟨f, hf⟩ := (h1.below (star_ok cell_ok emp_ok) h).fst
    exact ⟨cell_at hf rfl, cell_at hf rfl, cell_at hf rfl, cell_at hf rfl, cell_at hf rfl, cell_at hf rfl⟩))
  have KH := hide (head_any (w.alloc (.cells (tabC T a) 25)) (hz.below HB.out))
  clear hT hz h1
  unfold tabV
  unfold tabC at HB HTC KH ⊢
  generalize hn1 : T.rs.length = n1 at *
  generalize hn2 : T.ds.length = n2 at *
  generalize hn3 : T.es.length = n3 at *
  have HN := hide (show tabV T a = .agg #[.slice a.A n1 a.c, .slice a.D n2 a.d, .slice a.E n3 a.e, .int .i64 T.drop, .int .i64 T.ord, .int .i64 T.ini] from by unfold tabV tabC; rw [hn1, hn2, hn3])
  clear hn1 hn2 hn3
  go_enter Tryz.func7, Tryz.ntmps7
  go_wp2_with fail
  refine KH.out.mono ?_
  rintro e9 w1 ⟨rfl, hb1⟩
  generalize w.alloc (.cells #[.slice a.A n1 a.c, .slice a.D n2 a.d, .slice a.E n3 a.e, .int .i64 T.drop, .int .i64 T.ord, .int .i64 T.ini] 25) = wb at *
  obtain ⟨gt, hgt⟩ : ∃ gt, gt = w.heap.size := ⟨_, rfl⟩
  have HBW := hide (fun W (h : Below wb.heap.size wb W) => HB.out.trans (h.mono HB.out.size))
  have HZW := hide (fun W (h : Below wb.heap.size wb W) => HZ.out.below (HBW.out W h))
  have HTW := hide (fun W (h : Below wb.heap.size wb W) => HT.out.below (HBW.out W h))
  have HB1 := hide hb1
  have KF := hide (few_any (B := none) (c := 0) (C := []) (HTW.out w1 hb1) src_none x y)
  rw [HN.out] at KF
  obtain ⟨t0, t1, t2, t3, t4, t5⟩ := HTC.out _ hb1
  clear KH hb1 HT HZ HB
  dsimp only
  cases hf : fewN T x y [] with
  | false =>
    simp only [hf] at KF
    clear hf
    go_wp2_with fail
    refine KF.out.mono ?_
    rintro e9 w2 ⟨rfl, hb⟩
    have HB2 := hide (bel_trans HB1.out hb)
    clear KF hb t0 t1 t2 t3 t4 t5
    dsimp only
    go_wp2
    go_ret
    exact bel_bool rfl (HBW.out _ HB2.out)
  | true =>
    simp only [hf] at KF
    have HF := hide (fewN_iff.1 hf)
    clear hf
    go_wp2_with fail
    refine KF.out.mono ?_
    rintro e9 w2 ⟨rfl, hb⟩
    have HB2 := hide (bel_trans HB1.out hb)
    clear KF hb t0 t1 t2 t3 t4 t5
    dsimp only
    have KM := hide (fun W (h : Below wb.heap.size wb W) (k : Int) (x : Bs) (k2 : Int) (y : Bs) (hx : x.length ≤ 60) (hy : y.length ≤ 60) => (make_any ((HTW.out W h).few HF.out.1) (HZW.out W h) k x k2 y bound (by omega) (by omega)).mono fun e w' h => make_bel h)
    simp only [HN.out] at KM
    have K1 := hide (KM.out w2 HB2.out k x k2 y HF.out.2.1 HF.out.2.2)
    obtain ⟨t0, t1, t2, t3, t4, t5⟩ := HTC.out _ HB2.out
    go_wp2_with fail
    refine K1.out.mono ?_
    rintro e9 w3 ⟨A1, c1, C1, er1, rfl, hm1, -, hb⟩
    have HB3 := hide (bel_trans HB2.out hb)
    have HM1 := hide hm1
    clear K1 hm1 hb t0 t1 t2 t3 t4 t5
    dsimp only
    have K2 := hide (KM.out w3 HB3.out k2 y k x HF.out.2.2 HF.out.2.1)
    obtain ⟨t0, t1, t2, t3, t4, t5⟩ := HTC.out _ HB3.out
    go_wp2_with fail
    refine K2.out.mono ?_
    rintro e9 w4 ⟨A2, c2, C2, er2, rfl, hm2, -, hb⟩
    have HB4 := hide (bel_trans HB3.out hb)
    have he := law_turned HM1.out hm2
    have te : (er1 == er2) = true := by rw [he]; simp
    clear K2 hm2 hb t0 t1 t2 t3 t4 t5 he HM1
    dsimp only
    go_wp2
    go_ret
    exact bel_bool rfl (HBW.out _ HB4.out)
end Go.Proofs.YtnppgomhhcbplaaGreatDoor
namespace Go.Proofs.YtnppgomhhcbplaaGreatDoor
open Go.RowKit Go.CH Go.CH.Scr Go.CH.Pot
open Go.ChangeMaps (setBlock)
set_option maxHeartbeats 6400000 in
set_option maxRecDepth 100000 in
theorem law_bounds_any {w : World} {T : Tab} {a : TA} (hT : TabZ w T a) (hz : LZ w) (k : Int) (x : Bs) (k2 : Int) (y : Bs) (bound other : Int) {B : Option Addr} {c : Nat} {C : List Pt} (hC : PtsR w B C) :
    Calls Tryz.prog 8 #[tabV T a, .int .i64 k, .string (bs x), .int .i64 k2, .string (bs y), .int .i64 bound, .int .i64 other, .slice B C.length c] w (BelowRet w (.bool true)) := by
  have HT := hide hT
  have HZ := hide hz
  have HC := hide hC
  have h1 : Run (fun _ => False) w (star (CellO w.heap.size (tabC T a) 25) emp) _ := run_new (Run.begin w) emp_ok _ 25
  have HB := hide (h1.mod.below (fun _ _ h => h))
  have HTC := hide (fun W (h : Below (w.alloc (.cells (tabC T a) 25)).heap.size (w.alloc (.cells (tabC T a) 25)) W) => (show W.cell? ⟨w.heap.size, 0, none⟩ = some (.slice a.A T.rs.length a.c) ∧ W.cell? ⟨w.heap.size, 1, none⟩ = some (.slice a.D T.ds.length a.d) ∧ W.cell? ⟨w.heap.size, 2, none⟩ = some (.slice a.E T.es.length a.e) ∧ W.cell? ⟨w.heap.size, 3, none⟩ = some (.int .i64 T.drop) ∧ W.cell? ⟨w.heap.size, 4, none⟩ = some (.int .i64 T.ord) ∧ W.cell? ⟨w.heap.size, 5, none⟩ = some (.int .i64 T.ini) from by
    obtain ⟨f, hf⟩ := (h1.below (star_ok cell_ok emp_ok) h).fst
    exact ⟨cell_at hf rfl, cell_at hf rfl, cell_at hf rfl, cell_at hf rfl, cell_at hf rfl, cell_at hf rfl⟩))
  have KH := hide (head_any (w.alloc (.cells (tabC T a) 25)) (hz.below HB.out))
  clear hT hz h1 hC
  unfold tabV
  unfold tabC at HB HTC KH ⊢
  generalize hn1 : T.rs.length = n1 at *
  generalize hn2 : T.ds.length = n2 at *
  generalize hn3 : T.es.length = n3 at *
  have HN := hide (show tabV T a = .agg #[.slice a.A n1 a.c, .slice a.D n2 a.d, .slice a.E n3 a.e, .int .i64 T.drop, .int .i64 T.ord, .int .i64 T.ini] from by unfold tabV tabC; rw [hn1, hn2, hn3])
  clear hn1 hn2 hn3
  generalize hnc : C.length = nc at *
  have HNC := hide hnc
  clear hnc
  go_enter Tryz.func8, Tryz.ntmps8
  go_wp2_with fail
  refine KH.out.mono ?_
  rintro e9 w1 ⟨rfl, hb1⟩
  generalize w.alloc (.cells #[.slice a.A n1 a.c, .slice a.D n2 a.d, .slice a.E n3 a.e, .int .i64 T.drop, .int .i64 T.ord, .int .i64 T.ini] 25) = wb at *
  obtain ⟨gt, hgt⟩ : ∃ gt, gt = w.heap.size := ⟨_, rfl⟩
  have HBW := hide (fun W (h : Below wb.heap.size wb W) => HB.out.trans (h.mono HB.out.size))
  have HZW := hide (fun W (h : Below wb.heap.size wb W) => HZ.out.below (HBW.out W h))
  have HTW := hide (fun W (h : Below wb.heap.size wb W) => HT.out.below (HBW.out W h))
  have HB1 := hide hb1
  have HCW := hide (fun W (h : Below wb.heap.size wb W) => Rst.below HC.out (HBW.out W h))
  have KF := hide (few_any (c := c) (HTW.out w1 hb1) (HCW.out w1 hb1) x y)
  rw [HN.out, HNC.out] at KF
  obtain ⟨t0, t1, t2, t3, t4, t5⟩ := HTC.out _ hb1
  clear KH hb1 HT HZ HB HC
  dsimp only
  cases hf : fewN T x y C with
  | false =>
    simp only [hf] at KF
    clear hf
    go_wp2_with fail
    refine KF.out.mono ?_
    rintro e9 w2 ⟨rfl, hb⟩
    have HB2 := hide (bel_trans HB1.out hb)
    clear KF hb t0 t1 t2 t3 t4 t5
    dsimp only
    go_wp2
    go_ret
    exact bel_bool rfl (HBW.out _ HB2.out)
  | true =>
    simp only [hf] at KF
    have HF := hide (fewN_iff.1 hf)
    clear hf
    go_wp2_with fail
    refine KF.out.mono ?_
    rintro e9 w2 ⟨rfl, hb⟩
    have HB2 := hide (bel_trans HB1.out hb)
    clear KF hb t0 t1 t2 t3 t4 t5
    dsimp only
    by_cases hb1 : bound < 1
    · go_wp2
      go_ret
      exact bel_bool rfl (HBW.out _ HB2.out)
    · have HSM := hide (show C.length ≤ 1000000 ∧ ∀ p ∈ C, p.a.length ≤ 1000000 from by
        obtain ⟨⟨-, -, -, g4⟩, -, -, -, g5⟩ := fewT_iff.1 HF.out.1
        exact ⟨by omega, fun p hp => by have := short_iff.1 (g5 p hp); omega⟩)
      have KC := hide (fun W (h : Below wb.heap.size wb W) (bd : Int) => check_any (c := c) ((HTW.out W h).few HF.out.1) (HZW.out W h) k x k2 y bd (by have := HF.out.2.1; omega) (by have := HF.out.2.2; omega) (HCW.out W h) HSM.out.1 HSM.out.2)
      simp only [HN.out, HNC.out] at KC
      have K1 := hide (KC.out w2 HB2.out bound)
      obtain ⟨t0, t1, t2, t3, t4, t5⟩ := HTC.out _ HB2.out
      have HB1' := hide hb1
      go_wp2_with fail
      refine K1.out.mono ?_
      rintro e9 w3 ⟨b1, rfl, hiff, hb⟩
      have HB3 := hide (bel_trans HB2.out hb)
      have HI1 := hide hiff
      clear K1 hiff hb t0 t1 t2 t3 t4 t5
      dsimp only
      cases b1 with
      | false =>
        go_wp2
        go_ret
        exact bel_bool rfl (HBW.out _ HB3.out)
      | true =>
        have K2 := hide (KC.out w3 HB3.out other)
        have HLB := hide (fun h => law_bounds (other := other) h (by have := HB1'.out; omega) : CheckP T k x k2 y bound C → _)
        obtain ⟨t0, t1, t2, t3, t4, t5⟩ := HTC.out _ HB3.out
        go_wp2_with fail
        refine K2.out.mono ?_
        rintro e9 w4 ⟨b2, rfl, hiff, hb⟩
        have HB4 := hide (bel_trans HB3.out hb)
        have hl := HLB.out (HI1.out.1 trivial)
        have hbe : b2 = decide (other = bound) := by
          cases b2
          · exact (decide_eq_false (fun e => by have := hiff.2 (hl.2 e); cases this)).symm
          · exact (decide_eq_true (hl.1 (hiff.1 rfl))).symm
        have te : (b2 == (other == bound)) = true := by rw [hbe, beq_iff_eq]; rfl
        have HTE := hide te
        clear K2 hiff hb t0 t1 t2 t3 t4 t5 hl hbe HLB te
        dsimp only
        cases b2 with
        | true =>
          have te := HTE.out
          have t1 : (other == bound) = true := by simpa using te
          clear te
          go_wp2
          go_ret
          exact bel_bool rfl (HBW.out _ HB4.out)
        | false =>
          have te := HTE.out
          have t1 : (other == bound) = false := by simpa using te
          clear te
          go_wp2
          go_ret
          exact bel_bool rfl (HBW.out _ HB4.out)
end Go.Proofs.YtnppgomhhcbplaaGreatDoor
namespace Go.Proofs.YtnppgomhhcbplaaGreatDoor
open Go.RowKit Go.CH Go.CH.Scr Go.CH.Pot
open Go.ChangeMaps (setBlock)
theorem make_bel2 {w w' : World} {T : Tab} {k k2 bound : Int} {x y : Bs} {e : Ending} (h : MakeRet w T k x k2 y bound e w') : ∃ A c C er, e = .returned (.tuple #[.slice A C.length c, .int .i64 er]) ∧ MakeP T k x k2 y bound C er ∧ (PtsR w' A C ∧ C.length ≤ 9223372036854775807) ∧ Below w.heap.size w w' := by
  obtain ⟨A, c, C, er, h1, h2, F, h3, h4, h5⟩ := h
  refine ⟨A, c, C, er, h1, h2, ⟨pts_of h3, ?_⟩, h4.below (fun _ _ h => h)⟩
  rcases h3.1.2 with ⟨-, e⟩ | ⟨g, cap, cur, -, -, -, g1, g2, -⟩
  · omega
  · unfold maxLen at g2; omega
set_option maxHeartbeats 6400000 in
set_option maxRecDepth 100000 in
theorem law_less_any {w : World} {T : Tab} {a : TA} (hT : TabZ w T a) (hz : LZ w) (k : Int) (x : Bs) (k2 : Int) (y : Bs) (raw part : Nat) (hraw : raw < 4294967296) (hpart : part < 65536) :
    Calls Tryz.prog 4 #[tabV T a, .int .i64 k, .string (bs x), .int .i64 k2, .string (bs y), .int .u32 raw, .int .u16 part] w (BelowRet w (.bool true)) := by
  have HT := hide hT
  have HZ := hide hz
  have h1 : Run (fun _ => False) w (star (CellO w.heap.size (tabC T a) 25) emp) _ := run_new (Run.begin w) emp_ok _ 25
  have HB := hide (h1.mod.below (fun _ _ h => h))
  have HTC := hide (fun W (h : Below (w.alloc (.cells (tabC T a) 25)).heap.size (w.alloc (.cells (tabC T a) 25)) W) => (show W.cell? ⟨w.heap.size, 0, none⟩ = some (.slice a.A T.rs.length a.c) ∧ W.cell? ⟨w.heap.size, 1, none⟩ = some (.slice a.D T.ds.length a.d) ∧ W.cell? ⟨w.heap.size, 2, none⟩ = some (.slice a.E T.es.length a.e) ∧ W.cell? ⟨w.heap.size, 3, none⟩ = some (.int .i64 T.drop) ∧ W.cell? ⟨w.heap.size, 4, none⟩ = some (.int .i64 T.ord) ∧ W.cell? ⟨w.heap.size, 5, none⟩ = some (.int .i64 T.ini) from by
    obtain ⟨f, hf⟩ := (h1.below (star_ok cell_ok emp_ok) h).fst
    exact ⟨cell_at hf rfl, cell_at hf rfl, cell_at hf rfl, cell_at hf rfl, cell_at hf rfl, cell_at hf rfl⟩))
  have KH := hide (head_any (w.alloc (.cells (tabC T a) 25)) (hz.below HB.out))
  clear hT hz h1
  unfold tabV
  unfold tabC at HB HTC KH ⊢
  generalize hn1 : T.rs.length = n1 at *
  generalize hn2 : T.ds.length = n2 at *
  generalize hn3 : T.es.length = n3 at *
  have HN := hide (show tabV T a = .agg #[.slice a.A n1 a.c, .slice a.D n2 a.d, .slice a.E n3 a.e, .int .i64 T.drop, .int .i64 T.ord, .int .i64 T.ini] from by unfold tabV tabC; rw [hn1, hn2, hn3])
  clear hn1 hn2 hn3
  go_enter Tryz.func4, Tryz.ntmps4
  go_wp2_with fail
  refine KH.out.mono ?_
  rintro e9 w1 ⟨rfl, hb1⟩
  generalize w.alloc (.cells #[.slice a.A n1 a.c, .slice a.D n2 a.d, .slice a.E n3 a.e, .int .i64 T.drop, .int .i64 T.ord, .int .i64 T.ini] 25) = wb at *
  obtain ⟨gt, hgt⟩ : ∃ gt, gt = w.heap.size := ⟨_, rfl⟩
  have HBW := hide (fun W (h : Below wb.heap.size wb W) => HB.out.trans (h.mono HB.out.size))
  have HZW := hide (fun W (h : Below wb.heap.size wb W) => HZ.out.below (HBW.out W h))
  have HTW := hide (fun W (h : Below wb.heap.size wb W) => HT.out.below (HBW.out W h))
  have HB1 := hide hb1
  have KF := hide (few_any (B := none) (c := 0) (C := []) (HTW.out w1 hb1) src_none x y)
  rw [HN.out] at KF
  obtain ⟨t0, t1, t2, t3, t4, t5⟩ := HTC.out _ hb1
  clear KH hb1 HT HZ HB
  dsimp only
  cases hf : fewN T x y [] with
  | false =>
    simp only [hf] at KF
    clear hf
    go_wp2_with fail
    refine KF.out.mono ?_
    rintro e9 w2 ⟨rfl, hb⟩
    have HB2 := hide (bel_trans HB1.out hb)
    clear KF hb t0 t1 t2 t3 t4 t5
    dsimp only
    go_wp2
    go_ret
    exact bel_bool rfl (HBW.out _ HB2.out)
  | true =>
    simp only [hf] at KF
    have HF := hide (fewN_iff.1 hf)
    clear hf
    go_wp2_with fail
    refine KF.out.mono ?_
    rintro e9 w2 ⟨rfl, hb⟩
    have HB2 := hide (bel_trans HB1.out hb)
    clear KF hb t0 t1 t2 t3 t4 t5
    dsimp only
    have KM := hide (fun W (h : Below wb.heap.size wb W) (bd : Int) => (make_any ((HTW.out W h).few HF.out.1) (HZW.out W h) k x k2 y bd (by have := HF.out.2.1; omega) (by have := HF.out.2.2; omega)).mono fun e w' h => make_bel2 h)
    simp only [HN.out] at KM
    have hb0 : 0 ≤ (raw : Int) % 100000 ∧ (raw : Int) % 100000 < 100000 := ⟨Int.emod_nonneg _ (by decide), Int.emod_lt_of_pos _ (by decide)⟩
    have hl0 : 0 ≤ (part : Int) % ((raw : Int) % 100000 + 1) ∧ (part : Int) % ((raw : Int) % 100000 + 1) < (raw : Int) % 100000 + 1 := ⟨Int.emod_nonneg _ (by omega), Int.emod_lt_of_pos _ (by omega)⟩
    have tw : wrap64 ((part : Int) % ((raw : Int) % 100000 + 1) + 1) = (part : Int) % ((raw : Int) % 100000 + 1) + 1 := IntWalk.wrap64_in _ (by omega)
    have K1 := hide (KM.out w2 HB2.out ((raw : Int) % 100000 + 1))
    obtain ⟨t0, t1, t2, t3, t4, t5⟩ := HTC.out _ HB2.out
    go_wp2_with fail
    refine K1.out.mono ?_
    rintro e9 w3 ⟨A1, c1, C1, er1, rfl, hm1, ⟨hp1, hlen1⟩, hb⟩
    clear tw
    generalize (part : Int) % ((raw : Int) % 100000 + 1) = ls at *
    generalize (raw : Int) % 100000 = bd at *
    have HB3 := hide (bel_trans HB2.out hb)
    have HM1 := hide hm1
    have HP1 := hide hp1
    clear K1 hm1 hp1 hb t0 t1 t2 t3 t4 t5
    dsimp only
    by_cases her : er1 = 0
    · subst her
      have K2 := hide (KM.out w3 HB3.out (ls + 1))
      obtain ⟨t0, t1, t2, t3, t4, t5⟩ := HTC.out _ HB3.out
      go_wp2_with fail
      refine K2.out.mono ?_
      rintro e9 w4 ⟨A2, c2, C2, er2, rfl, hm2, ⟨hp2, hlen2⟩, hb⟩
      obtain ⟨rfl, rfl⟩ := law_less HM1.out (by omega) (by omega) hm2
      have HB4 := hide (bel_trans HB3.out hb)
      have HP1' := hide (Rst.below HP1.out hb)
      have HP2 := hide hp2
      clear K2 hm2 hp2 hb t0 t1 t2 t3 t4 t5 HP1 HM1 KM
      rw [List.length_map]
      dsimp only
      obtain ⟨n, hn⟩ : ∃ n, n = C1.length := ⟨_, rfl⟩
      rw [← hn]
      have HNL := hide hn
      clear hn
      rw [← HNL.out] at hlen1
      clear hlen2
      go_wp2_with fail
      have HB4' := hide (Below.refl w4.heap.size w4)
      go_loopw [22] (fun i wr => ∃ j : Nat, j ≤ n ∧ i = .int .i64 j ∧ Below w4.heap.size w4 wr) (fun i _ => n - (intOf i).toNat)
      case atStart => exact ⟨0, Nat.zero_le _, rfl, HB4'.out⟩
      case round =>
        obtain ⟨j, hj, rfl, hbel⟩ := hrel
        have HBE := hide hbel
        clear hbel
        by_cases hlt : j < n
        · have hjc : j < C1.length := by rw [← HNL.out]; exact hlt
          have HLT := hide hlt
          obtain ⟨b1, o1, rfl, hc1⟩ := PtsR.at HP1'.out (by omega)
          obtain ⟨b2, o2, rfl, hc2⟩ := PtsR.at HP2.out (by rw [List.length_map]; omega)
          obtain ⟨r0, r1, r2, r3, r4⟩ := hc1 wr HBE.out j hjc
          have HC2 := hide (fun W (h : Below w4.heap.size w4 W) => (show W.cell? ⟨b2, o2 + j * 5, none⟩ = some (.int .i64 C1[j].i) ∧ W.cell? ⟨b2, o2 + j * 5 + 1, none⟩ = some (.int .i64 C1[j].j) ∧ W.cell? ⟨b2, o2 + j * 5 + 2, none⟩ = some (.string (bs C1[j].a)) ∧ W.cell? ⟨b2, o2 + j * 5 + 3, none⟩ = some (.bool C1[j].r) ∧ W.cell? ⟨b2, o2 + j * 5 + 4, none⟩ = some (.int .i64 (min C1[j].h (ls + 1))) from by
            have h2 := hc2 W h j (by rw [List.length_map]; exact hjc)
            simpa only [List.getElem_map] using h2))
          clear hc1 hc2
          have h7 := run_new (Run.begin wr) emp_ok #[.int .i64 C1[j].i, .int .i64 C1[j].j, .string (bs C1[j].a), .bool C1[j].r, .int .i64 C1[j].h] 37
          have H7 := hide h7
          have HW7 := hide (bel_trans HBE.out (h7.mod.below (fun _ _ h => h)))
          clear h7
          generalize C1[j] = p at *
          go_upto_region 16 with (fail)
          generalize hwx : wr.alloc (.cells #[.int .i64 p.i, .int .i64 p.j, .string (bs p.a), .bool p.r, .int .i64 p.h] 37) = wx at *
          generalize wr.heap.size = gx at H7 ⊢
          clear hwx
          obtain ⟨f7, hf7⟩ := H7.out.fst
          have q4 := cell_at (v := .int .i64 p.h) (i := 4) hf7 rfl
          have qf := cell_free hf7 4
          have h8 : Run (fun _ => False) wr (star (CellO gx #[.int .i64 p.i, .int .i64 p.j, .string (bs p.a), .bool p.r, .int .i64 (min p.h (ls + 1))] 37) emp) _ := run_setc H7.out emp_ok 4 (.int .i64 (min p.h (ls + 1)))
          have h9 := h8.drew (star_ok cell_ok emp_ok)
          have HB9 := hide (bel_trans HBE.out (h9.mod.below (fun _ _ h => h)))
          obtain ⟨f9, hf9⟩ := h9.fst
          have hS0 : (fun W : World => (W.cell? ⟨b2, o2 + j * 5, none⟩ = some (.int .i64 p.i) ∧ W.cell? ⟨b2, o2 + j * 5 + 1, none⟩ = some (.int .i64 p.j) ∧ W.cell? ⟨b2, o2 + j * 5 + 2, none⟩ = some (.string (bs p.a)) ∧ W.cell? ⟨b2, o2 + j * 5 + 3, none⟩ = some (.bool p.r) ∧ W.cell? ⟨b2, o2 + j * 5 + 4, none⟩ = some (.int .i64 (min p.h (ls + 1)))) ∧ (W.cell? ⟨gx, 0, none⟩ = some (.int .i64 p.i) ∧ W.cell? ⟨gx, 1, none⟩ = some (.int .i64 p.j) ∧ W.cell? ⟨gx, 2, none⟩ = some (.string (bs p.a)) ∧ W.cell? ⟨gx, 3, none⟩ = some (.bool p.r) ∧ W.cell? ⟨gx, 4, none⟩ = some (.int .i64 (min p.h (ls + 1))))) _ := ⟨HC2.out _ HB9.out, cell_at hf9 rfl, cell_at hf9 rfl, cell_at hf9 rfl, cell_at hf9 rfl, cell_at hf9 rfl⟩
          have HS0 := hide hS0
          have HNE := hide (fun W => neq_pt ⟨p.i, p.j, p.a, p.r, min p.h (ls + 1)⟩ ⟨p.i, p.j, p.a, p.r, min p.h (ls + 1)⟩ W)
          rw [decide_eq_true rfl] at HNE
          unfold ptC at HNE
          clear hf7 h8 h9 hf9 hS0 r0 r1 r2 r3 r4 H7 HW7 HC2
          go_wp2_with fail
          refine wp_region_lex (fun W : World => (W.cell? ⟨b2, o2 + j * 5, none⟩ = some (.int .i64 p.i) ∧ W.cell? ⟨b2, o2 + j * 5 + 1, none⟩ = some (.int .i64 p.j) ∧ W.cell? ⟨b2, o2 + j * 5 + 2, none⟩ = some (.string (bs p.a)) ∧ W.cell? ⟨b2, o2 + j * 5 + 3, none⟩ = some (.bool p.r) ∧ W.cell? ⟨b2, o2 + j * 5 + 4, none⟩ = some (.int .i64 (min p.h (ls + 1)))) ∧ (W.cell? ⟨gx, 0, none⟩ = some (.int .i64 p.i) ∧ W.cell? ⟨gx, 1, none⟩ = some (.int .i64 p.j) ∧ W.cell? ⟨gx, 2, none⟩ = some (.string (bs p.a)) ∧ W.cell? ⟨gx, 3, none⟩ = some (.bool p.r) ∧ W.cell? ⟨gx, 4, none⟩ = some (.int .i64 (min p.h (ls + 1))))) rfl (by kernel_rfl) HS0.out ?_
          clear HS0
          iterate 5 (refine lex_read (v := ?_) (by rfl) ?_ ?_; rotate_left; (focus (intro w' hS'; go_simp; (try with_reducible rfl); done)); try simp only [Act.put, List.setIfInBounds_toArray, List.set_cons_zero, List.set_cons_succ])
          refine lex_read (v := .bool (!true)) (by rfl) (fun w' hS' => exec_neq_agg rfl rfl rfl (by kernel_rfl) (HNE.out w')) ?_
          refine lex_nil ?_
          simp only [Act.put, List.setIfInBounds_toArray, List.set_cons_zero, List.set_cons_succ, Bool.not_true]
          clear HNE q4 qf
          go_wp2_with fail
          go_roundw
          case rel => exact ⟨j + 1, HLT.out, by go_num, HB9.out⟩
          case measure => have := HLT.out; simp [intOf]; omega
        · go_wp2
          go_ret
          exact bel_bool rfl (HBW.out _ (bel_trans HB4.out HBE.out))
    · have t : (er1 != 0) = true := by simp [her]
      clear her
      go_wp2
      go_ret
      exact bel_bool rfl (HBW.out _ HB3.out)
end Go.Proofs.YtnppgomhhcbplaaGreatDoor
namespace Go.Proofs.YtnppgomhhcbplaaGreatDoor
open Go.RowKit Go.CH Go.CH.Scr Go.CH.Pot
open Go.ChangeMaps (setBlock)
theorem flat_take {α : Type} (R : α → List Value) (size : Nat) (hR : ∀ x, (R x).length = size) : ∀ (l : List α) (k : Nat), (l.flatMap R).take (k * size) = (l.take k).flatMap R
  | [], k => by simp
  | x :: l, 0 => by simp
  | x :: l, k + 1 => by
    rw [List.flatMap_cons, List.take_succ_cons, List.flatMap_cons, List.take_append, hR, Nat.succ_mul, Nat.add_sub_cancel, List.take_of_length_le (by rw [hR]; omega), flat_take R size hR l k]
theorem flat_drop {α : Type} (R : α → List Value) (size : Nat) (hR : ∀ x, (R x).length = size) : ∀ (l : List α) (k : Nat), (l.flatMap R).drop (k * size) = (l.drop k).flatMap R
  | [], k => by simp
  | x :: l, 0 => by simp
  | x :: l, k + 1 => by
    rw [List.flatMap_cons, List.drop_succ_cons, List.drop_append, hR, Nat.succ_mul, Nat.add_sub_cancel, List.drop_of_length_le (by rw [hR]; omega), flat_drop R size hR l k]; rfl
theorem rulesOk : SliceOk Tryz.prog 22 41 (.agg #[.int .i64 0, .string ⟨#[]⟩, .string ⟨#[]⟩, .int .i64 0]) 4 48 := ⟨Tryz.underlying22, by kernel_rfl, by decide, by decide⟩
theorem rcells_one (l : List Rule) : ∀ u ∈ l.flatMap rcells, u.oneCell' = true := by
  intro u hu
  obtain ⟨R, -, hR⟩ := List.mem_flatMap.1 hu
  simp [rcells] at hR
  rcases hR with rfl | rfl | rfl | rfl <;> rfl
/-- Rules of its own. -/
def RuO (A : Option Addr) (c : Nat) (l : List Rule) : CH.Own := RowO 41 4 (.slice A l.length c) l.length (l.flatMap rcells)
theorem ru_ok {A : Option Addr} {c : Nat} {l : List Rule} : (RuO A c l).Ok := row_ok
theorem ru_of {w : World} {F : Nat → Prop} {A : Option Addr} {c : Nat} {l : List Rule} (h : RuO A c l w F) : RulesR w A l := row_src h (rcells_one l)
/-- More rules at the end of rules of its own. -/
theorem app_rules {F0 : Nat → Prop} {w0 W : World} {Y : CH.Own} {o : Oper} {a : Act} {K : Act → World → Prop} {Q : Exit → Act → World → Prop} (s x : Operand)
    (ho : o.op = .call { callee := .builtin .append, args := #[s, x], argTypes := #[22, 22] }) {A B : Option Addr} {c d n m : Nat} {l r : List Rule} (hl : l.length = n) (hr : r.length = m) (hsv : a.eval s = .slice A n c) (hx : a.eval x = .slice B m d) (hn : n + m ≤ 1000000) (hY : Y.Ok)
    (hB : RulesR W B r) (h : Run F0 w0 (star (RuO A c l) Y) W)
    (hK : ∀ A' c' w', Run F0 w0 (star (RuO A' c' (l ++ r)) Y) w' → K (a.put o.dst (.slice A' (n + m) c')) w') : o.wp Tryz.prog a W K Q := by
  subst hl hr
  obtain ⟨F7, hR7, -, bk7⟩ := h.take ru_ok hY
  refine wp_appX s x ho rulesOk _ 0 (v := .slice A l.length c) (n := l.length) (xs := l.flatMap rcells) hsv hR7.1 (A := B) (m := r.length) (c := d) (news := r.flatMap rcells) hx hB (by unfold maxLen; omega) (by omega) (Nat.zero_le _) ?_
  intro v8 w8 ho8 hg8 hv8
  have S8 := bk7 _ _ (row_app hR7 ho8 hg8 hv8)
  obtain ⟨A8, c8, rfl⟩ := own_form ho8
  rw [← List.flatMap_append, ← List.length_append] at S8
  rw [← List.length_append] at *
  exact hK A8 c8 w8 S8
set_option maxHeartbeats 6400000 in
set_option maxRecDepth 100000 in
theorem law_fewer_any {w : World} {T : Tab} {a : TA} (hT : TabZ w T a) (hz : LZ w) (k : Int) (x : Bs) (k2 : Int) (y : Bs) (bound : Int) {B : Option Addr} {c : Nat} {C : List Pt} (hC : PtsR w B C) (raw : Nat) (hraw : raw < 256) (hcap : T.rs.length ≤ a.c) :
    Calls Tryz.prog 5 #[tabV T a, .int .i64 k, .string (bs x), .int .i64 k2, .string (bs y), .int .i64 bound, .slice B C.length c, .int .u8 raw] w (BelowRet w (.bool true)) := by
  have HT := hide hT
  have HZ := hide hz
  have HC := hide hC
  have h1 : Run (fun _ => False) w (star (CellO w.heap.size (tabC T a) 25) emp) _ := run_new (Run.begin w) emp_ok _ 25
  have HB := hide (h1.mod.below (fun _ _ h => h))
  have HTC := hide (fun W (h : Below (w.alloc (.cells (tabC T a) 25)).heap.size (w.alloc (.cells (tabC T a) 25)) W) => (show W.cell? ⟨w.heap.size, 0, none⟩ = some (.slice a.A T.rs.length a.c) ∧ W.cell? ⟨w.heap.size, 1, none⟩ = some (.slice a.D T.ds.length a.d) ∧ W.cell? ⟨w.heap.size, 2, none⟩ = some (.slice a.E T.es.length a.e) ∧ W.cell? ⟨w.heap.size, 3, none⟩ = some (.int .i64 T.drop) ∧ W.cell? ⟨w.heap.size, 4, none⟩ = some (.int .i64 T.ord) ∧ W.cell? ⟨w.heap.size, 5, none⟩ = some (.int .i64 T.ini) from by
    obtain ⟨f, hf⟩ := (h1.below (star_ok cell_ok emp_ok) h).fst
    exact ⟨cell_at hf rfl, cell_at hf rfl, cell_at hf rfl, cell_at hf rfl, cell_at hf rfl, cell_at hf rfl⟩))
  have KH := hide (head_any (w.alloc (.cells (tabC T a) 25)) (hz.below HB.out))
  clear hT hz h1 hC
  unfold tabV
  unfold tabC at HB HTC KH ⊢
  generalize hn1 : T.rs.length = n1 at *
  generalize hn2 : T.ds.length = n2 at *
  generalize hn3 : T.es.length = n3 at *
  have HN := hide (show tabV T a = .agg #[.slice a.A n1 a.c, .slice a.D n2 a.d, .slice a.E n3 a.e, .int .i64 T.drop, .int .i64 T.ord, .int .i64 T.ini] from by unfold tabV tabC; rw [hn1, hn2, hn3])
  clear hn1 hn2 hn3
  generalize hnc : C.length = nc at *
  have HNC := hide hnc
  clear hnc
  go_enter Tryz.func5, Tryz.ntmps5
  go_wp2_with fail
  refine KH.out.mono ?_
  rintro e9 w1 ⟨rfl, hb1⟩
  generalize w.alloc (.cells #[.slice a.A n1 a.c, .slice a.D n2 a.d, .slice a.E n3 a.e, .int .i64 T.drop, .int .i64 T.ord, .int .i64 T.ini] 25) = wb at *
  obtain ⟨gt, hgt⟩ : ∃ gt, gt = w.heap.size := ⟨_, rfl⟩
  have HBW := hide (fun W (h : Below wb.heap.size wb W) => HB.out.trans (h.mono HB.out.size))
  have HZW := hide (fun W (h : Below wb.heap.size wb W) => HZ.out.below (HBW.out W h))
  have HTW := hide (fun W (h : Below wb.heap.size wb W) => HT.out.below (HBW.out W h))
  have HB1 := hide hb1
  have HCW := hide (fun W (h : Below wb.heap.size wb W) => Rst.below HC.out (HBW.out W h))
  have KF := hide (few_any (c := c) (HTW.out w1 hb1) (HCW.out w1 hb1) x y)
  rw [HN.out, HNC.out] at KF
  obtain ⟨t0, t1, t2, t3, t4, t5⟩ := HTC.out _ hb1
  clear KH hb1 HT HZ HB HC
  dsimp only
  cases hf : fewN T x y C with
  | false =>
    simp only [hf] at KF
    clear hf
    go_wp2_with fail
    refine KF.out.mono ?_
    rintro e9 w2 ⟨rfl, hb⟩
    have HB2 := hide (bel_trans HB1.out hb)
    clear KF hb t0 t1 t2 t3 t4 t5
    dsimp only
    go_wp2
    go_ret
    exact bel_bool rfl (HBW.out _ HB2.out)
  | true =>
    simp only [hf] at KF
    have HF := hide (fewN_iff.1 hf)
    clear hf
    go_wp2_with fail
    refine KF.out.mono ?_
    rintro e9 w2 ⟨rfl, hb⟩
    have HB2 := hide (bel_trans HB1.out hb)
    clear KF hb t0 t1 t2 t3 t4 t5
    dsimp only
    obtain ⟨t0, t1, t2, t3, t4, t5⟩ := HTC.out _ HB2.out
    by_cases hn2' : n1 < 2
    · have hn2i : (n1 : Int) < 2 := by omega
      go_wp2
      go_ret
      exact bel_bool rfl (HBW.out _ HB2.out)
    · have hn2i : ¬ (n1 : Int) < 2 := by omega
      have HSM := hide (show C.length ≤ 1000000 ∧ ∀ p ∈ C, p.a.length ≤ 1000000 from by
        obtain ⟨⟨-, -, -, g4⟩, -, -, -, g5⟩ := fewT_iff.1 HF.out.1
        exact ⟨by omega, fun p hp => by have := short_iff.1 (g5 p hp); omega⟩)
      have K1 := hide (check_any (c := c) ((HTW.out w2 HB2.out).few HF.out.1) (HZW.out w2 HB2.out) k x k2 y bound (by have := HF.out.2.1; omega) (by have := HF.out.2.2; omega) (HCW.out w2 HB2.out) HSM.out.1 HSM.out.2)
      rw [HN.out, HNC.out] at K1
      go_wp2_with fail
      refine K1.out.mono ?_
      rintro e9 w3 ⟨b1, rfl, hiff, hb⟩
      have HB3 := hide (bel_trans HB2.out hb)
      have HI1 := hide hiff
      clear K1 hiff hb t0 t1 t2 t3 t4 t5
      dsimp only
      cases b1 with
      | false =>
        go_wp2
        go_ret
        exact bel_bool rfl (HBW.out _ HB3.out)
      | true =>
        have HCK := hide (HI1.out.1 rfl)
        clear HI1
        obtain ⟨t0, t1, t2, t3, t4, t5⟩ := HTC.out _ HB3.out
        have hne : ((n1 : Int) == 0) = false := by simp; omega
        have hne2 : ¬ (n1 : Int) = 0 := by omega
        go_upto_region 6 with (fail)
        have HN1 := hide (show T.rs.length = n1 from by have h := HN.out; unfold tabV tabC at h; simp at h; exact h.1)
        obtain ⟨kk, hkk⟩ : ∃ kk : Nat, kk = raw % n1 := ⟨_, rfl⟩
        have hkl : kk < n1 := by rw [hkk]; exact Nat.mod_lt _ (by omega)
        have hke : (raw : Int) % (n1 : Int) = (kk : Int) := by rw [hkk]; rfl
        rw [hke]
        have HSML := hide (show n1 ≤ 60 from by rw [← HN1.out]; exact (fewT_iff.1 HF.out.1).1.1)
        clear hke hkk t0 t1 t2 t3 t4 t5 hne hne2
        have h4 := run_new (Run.begin w3) emp_ok #[.slice a.A n1 a.c, .slice a.D n2 a.d, .slice a.E n3 a.e, .int .i64 T.drop, .int .i64 T.ord, .int .i64 T.ini] 25
        have h5 := h4.drew (star_ok cell_ok emp_ok)
        have H5 := hide h5
        have HB5 := hide (bel_trans HB3.out (h5.mod.below (fun _ _ h => h)))
        clear h4 h5
        have HX3 := hide HB3.out
        generalize hw4 : w3.alloc (.cells #[.slice a.A n1 a.c, .slice a.D n2 a.d, .slice a.E n3 a.e, .int .i64 T.drop, .int .i64 T.ord, .int .i64 T.ini] 25) = w4 at *
        generalize w3.heap.size = g19 at H5 ⊢
        clear hw4
        have HGT := hide (fun W (h : Below wb.heap.size wb W) => (show W.cell? ⟨w.heap.size, 0, none⟩ = some (.slice a.A n1 a.c) from (HTC.out W h).1))
        have hS0 := HGT.out _ HB5.out
        have hsl1 := fun W => run_slice_to rulesOk a.A n1 a.c kk .i64 (kk : Int) rfl (by omega) W
        have hsl2 := fun W => run_slice_from rulesOk a.A n1 a.c (kk + 1) .i64 ((kk : Int) + 1) rfl (by omega) W
        have tw : IntKind.i64.wrap ((kk : Int) + 1) = (kk : Int) + 1 := by have := HSML.out; exact IntWalk.i64_in _ (by omega)
        refine wp_region_lex (fun W : World => W.cell? ⟨w.heap.size, 0, none⟩ = some (.slice a.A n1 a.c)) rfl (by kernel_rfl) hS0 ?_
        clear hS0
        generalize w4.drew = w5 at *
        refine lex_chain rfl (by rfl) (fun K hK => ?_)
        go_wp2_with fail
        have H6 := hide (show Run (fun _ => False) w3 (star (RuO (some ⟨w5.heap.size, 0, none⟩) 0 []) (star (CellO g19 #[.slice a.A n1 a.c, .slice a.D n2 a.d, .slice a.E n3 a.e, .int .i64 T.drop, .int .i64 T.ord, .int .i64 T.ini] 25) emp)) _ from H5.out.fresh (star_ok cell_ok emp_ok) (row_made w5 41 4))
        have HB6 := hide (bel_trans HX3.out (H6.out.mod.below (fun _ _ h => h)))
        refine hK.out _ _ (HGT.out _ HB6.out) ?_
        clear hK H5 HB5
        generalize w5.alloc (.cells #[] 41) = w6 at *
        generalize w5.heap.size = g52 at *
        (repeat (first | (refine lex_skip (by rfl) ?_; try simp only [Act.put, List.setIfInBounds_toArray, List.set_cons_zero, List.set_cons_succ]) | (refine lex_read (v := ?_) (by rfl) ?_ ?_; rotate_left; (focus (intro w' hS'; go_simp; (try with_reducible rfl); done)); try simp only [Act.put, List.setIfInBounds_toArray, List.set_cons_zero, List.set_cons_succ])))
        refine lex_chain rfl (by rfl) (fun K hK => ?_)
        have hrs := (HTW.out w6 HB6.out).rs
        refine app_rules (.tmp 52) (.tmp 56) rfl (n := 0) (m := kk) (l := []) (r := T.rs.take kk) rfl (by rw [List.length_take, HN1.out]; omega) rfl rfl (by have := HSML.out; clear tw; omega) (star_ok cell_ok emp_ok) ?_ H6.out ?_
        · have h := Src.take (k := kk) hrs (by rw [HN1.out]; omega)
          rw [flat_take rcells 4 (fun _ => rfl)] at h
          unfold RulesR Rst
          rw [List.length_take, HN1.out, Nat.min_eq_left (by omega)]
          exact h
        intro A7 c7 w7 hr7
        have H7 := hide hr7
        have HB7 := hide (bel_trans HX3.out (hr7.mod.below (fun _ _ h => h)))
        refine hK.out _ _ (HGT.out _ HB7.out) ?_
        clear hK H6 HB6 hr7 hrs
        (repeat (first | (refine lex_skip (by rfl) ?_; try simp only [Act.put, List.setIfInBounds_toArray, List.set_cons_zero, List.set_cons_succ]) | (refine lex_read (v := ?_) (by rfl) ?_ ?_; rotate_left; (focus (intro w' hS'; go_simp; (try with_reducible rfl); done)); try simp only [Act.put, List.setIfInBounds_toArray, List.set_cons_zero, List.set_cons_succ])))
        refine lex_chain rfl (by rfl) (fun K hK => ?_)
        have hrs := (HTW.out w7 HB7.out).rs
        refine app_rules (.tmp 57) (.tmp 62) rfl (n := 0 + kk) (m := n1 - (kk + 1)) (l := [] ++ T.rs.take kk) (r := T.rs.drop (kk + 1)) (by rw [List.length_append, List.length_take, HN1.out]; simp; omega) (by rw [List.length_drop, HN1.out]) rfl rfl (by have := HSML.out; clear tw; omega) (star_ok cell_ok emp_ok) ?_ H7.out ?_
        · have h := Src.cut (k := kk + 1) (c := a.c) hrs (by rw [HN1.out]; omega) (by rw [HN1.out]; exact hcap)
          rw [flat_drop rcells 4 (fun _ => rfl)] at h
          unfold RulesR Rst
          rw [List.length_drop, HN1.out]
          rw [HN1.out] at h
          exact h
        intro A9 c9 w9 hr9
        have er : [] ++ T.rs.take kk ++ T.rs.drop (kk + 1) = T.rs.eraseIdx kk := by rw [List.nil_append, List.eraseIdx_eq_take_drop_succ]
        rw [er] at hr9
        have H9 := hide hr9
        have HB9 := hide (bel_trans HX3.out (hr9.mod.below (fun _ _ h => h)))
        refine hK.out _ _ (HGT.out _ HB9.out) ?_
        clear hK H7 HB7 hr9 hrs er
        (repeat (first | (refine lex_skip (by rfl) ?_; try simp only [Act.put, List.setIfInBounds_toArray, List.set_cons_zero, List.set_cons_succ]) | (refine lex_read (v := ?_) (by rfl) ?_ ?_; rotate_left; (focus (intro w' hS'; go_simp; (try with_reducible rfl); done)); try simp only [Act.put, List.setIfInBounds_toArray, List.set_cons_zero, List.set_cons_succ])))
        obtain ⟨f9, hf9⟩ := H9.out.drop.fst
        have q0 := cell_at (v := .slice a.A n1 a.c) (i := 0) hf9 rfl
        have qf := cell_free hf9 0
        have h10 : Run (fun _ => False) w3 (star (CellO g19 #[.slice A9 (kk + (n1 - (kk + 1))) c9, .slice a.D n2 a.d, .slice a.E n3 a.e, .int .i64 T.drop, .int .i64 T.ord, .int .i64 T.ini] 25) (star (RuO A9 c9 (T.rs.eraseIdx kk)) emp)) _ := run_setc H9.out.rot (star_ok ru_ok emp_ok) 0 (.slice A9 (kk + (n1 - (kk + 1))) c9)
        have H10 := hide h10
        have HB10 := hide (bel_trans HX3.out (h10.mod.below (fun _ _ h => h)))
        clear hf9 h10 hsl1 hsl2 tw
        refine lex_chain rfl (by rfl) (fun K hK => ?_)
        go_wp2_with fail
        refine hK.out _ _ (HGT.out _ HB10.out) ?_
        clear hK H9 HB9 q0 qf
        generalize w9.setCell ⟨g19, 0, none⟩ (.slice A9 (kk + (n1 - (kk + 1))) c9) = w10 at *
        (repeat (first | (refine lex_skip (by rfl) ?_; try simp only [Act.put, List.setIfInBounds_toArray, List.set_cons_zero, List.set_cons_succ]) | (refine lex_read (v := ?_) (by rfl) ?_ ?_; rotate_left; (focus (intro w' hS'; go_simp; (try with_reducible rfl); done)); try simp only [Act.put, List.setIfInBounds_toArray, List.set_cons_zero, List.set_cons_succ])))
        refine lex_nil ?_
        obtain ⟨f1, hf1⟩ := H10.out.fst
        obtain ⟨f2, hf2⟩ := H10.out.drop.fst
        have q0 := cell_at (v := .slice A9 (kk + (n1 - (kk + 1))) c9) (i := 0) hf1 rfl
        have q1 := cell_at (v := .slice a.D n2 a.d) (i := 1) hf1 rfl
        have q2 := cell_at (v := .slice a.E n3 a.e) (i := 2) hf1 rfl
        have q3 := cell_at (v := .int .i64 T.drop) (i := 3) hf1 rfl
        have q4 := cell_at (v := .int .i64 T.ord) (i := 4) hf1 rfl
        have q5 := cell_at (v := .int .i64 T.ini) (i := 5) hf1 rfl
        have hlen : (T.rs.eraseIdx kk).length = kk + (n1 - (kk + 1)) := by rw [List.length_eraseIdx, HN1.out, if_pos hkl]; omega
        have htr := (HTW.out w10 HB10.out).few HF.out.1
        have htab : TabR w10 { T with rs := T.rs.eraseIdx kk } ⟨A9, c9, a.D, a.d, a.E, a.e⟩ := { rs := ru_of hf2, ds := htr.ds, es := htr.es, lr := by show (T.rs.eraseIdx kk).length ≤ _; have := HSML.out; omega, ld := htr.ld, le := htr.le, sr := fun R hR => htr.sr R ((List.eraseIdx_sublist ..).subset hR), sd := htr.sd, se := htr.se }
        have KC := check_any (c := c) htab (HZW.out w10 HB10.out) k x k2 y bound (by have := HF.out.2.1; omega) (by have := HF.out.2.2; omega) (HCW.out w10 HB10.out) HSM.out.1 HSM.out.2
        have hv : tabV { T with rs := T.rs.eraseIdx kk } ⟨A9, c9, a.D, a.d, a.E, a.e⟩ = .agg #[.slice A9 (kk + (n1 - (kk + 1))) c9, .slice a.D n2 a.d, .slice a.E n3 a.e, .int .i64 T.drop, .int .i64 T.ord, .int .i64 T.ini] := by
          have h := HN.out
          unfold tabV tabC at h ⊢
          simp only [Value.agg.injEq] at h ⊢
          simp at h
          simp [hlen, h]
        rw [hv, HNC.out] at KC
        have HKC := hide (KC.mono fun e w' h => check_bool h true ⟨fun _ => check_fewer HCK.out kk (by rw [HN1.out]; omega), fun _ => rfl⟩)
        clear KC hv htab htr hlen hf1 hf2 H10
        go_wp2_with fail
        refine HKC.out.mono ?_
        rintro e9 w11 ⟨rfl, hb⟩
        have HB11 := hide (bel_trans HB10.out hb)
        clear HKC hb
        dsimp only
        go_wp2
        go_ret
        exact bel_bool rfl (HBW.out _ HB11.out)
end Go.Proofs.YtnppgomhhcbplaaGreatDoor
