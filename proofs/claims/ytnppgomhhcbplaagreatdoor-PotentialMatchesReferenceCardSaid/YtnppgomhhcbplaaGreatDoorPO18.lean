/-
  Potential: the chapter's examples.
  Potential: the law Less.
  How many elements a certificate can have, plainly.
  Script: the reader, word by word; a text cut at its colon. Plainly.
  Script: the reference's letters, plainly: position by position.
  Script: the reference's Letters.
  Script: the reference's Word.
-/
import Derived.Test.YtnppgomhhcbplaaGreatDoorPO17
import Derived.Test.YtnppgomhhcbplaaGreatDoorPO7
import Derived.Test.YtnppgomhhcbplaaGreatDoorPO5
import Derived.Deep.DeepCutAuto
import Derived.Test.YtnppgomhhcbplaaGreatDoorPO12
import Derived.Test.YtnppgomhhcbplaaGreatDoorPO2
import Derived.Test.YtnppgomhhcbplaaGreatDoorPO8
set_option linter.unusedSimpArgs false
set_option linter.unusedVariables false
namespace Go.Proofs.YtnppgomhhcbplaaGreatDoor
open Go.RowKit Go.CH Go.CH.Scr Go.CH.Pot
open Go.ChangeMaps (setBlock)
theorem make_bel {w w' : World} {T : Tab} {k k2 bound : Int} {x y : Bs} {e : Ending} (h : MakeRet w T k x k2 y bound e w') : ∃ A c C er, e = .returned (.tuple #[.slice A C.length c, .int .i64 er]) ∧ MakeP T k x k2 y bound C er ∧ PtsR w' A C ∧ Below w.heap.size w w' := by
  obtain ⟨A, c, C, er, h1, h2, F, h3, h4, h5⟩ := h
  exact ⟨A, c, C, er, h1, h2, pts_of h3, h4.below (fun _ _ h => h)⟩
theorem check_bool {w w' : World} {T : Tab} {k k2 bound : Int} {x y : Bs} {C : List Pt} {e : Ending} (h : CheckRet w T k x k2 y bound C e w') (b : Bool) (hb : b = true ↔ CheckP T k x k2 y bound C) : e = .returned (.bool b) ∧ Below w.heap.size w w' := by
  obtain ⟨b', h1, h2, h3⟩ := h
  have : b' = b := Bool.eq_iff_iff.2 (h2.trans hb.symm)
  rw [h1, this]
  exact ⟨rfl, h3⟩
theorem pts_cut1 {W : World} {g : Nat} {C : List Pt} (h : PtsR W (some ⟨g, 0, none⟩) C) : PtsR W (some ⟨g, 5, none⟩) (C.drop 1) := by
  cases C with
  | nil => exact ⟨by simp, fun u hu => (by cases hu), fun h => absurd h (Nat.lt_irrefl _)⟩
  | cons p C =>
    obtain ⟨b, o, e, hc⟩ := PtsR.at h (by simp)
    injection e with e
    injection e with e1 e2
    subst e1 e2
    refine ⟨by rw [List.drop_succ_cons, List.drop_zero, flat_len], pcells_one _, fun _ => ⟨_, rfl, fun j u hu => ?_⟩⟩
    obtain ⟨ad, e, hc2⟩ := h.2.2 (by simp)
    injection e with e
    subst e
    have h1 := hc2 (5 + j) u (by rw [List.flatMap_cons, List.getElem?_append_right (by rw [pcells_len]; omega), pcells_len, Nat.add_sub_cancel_left]; exact hu)
    have e3 : (⟨g, 5, none⟩ : Addr).add j = (⟨g, 0, none⟩ : Addr).add (5 + j) := by unfold Addr.add; split <;> simp_all
    rw [e3]; exact h1
theorem row_cell37 {w : World} {F : Nat → Prop} {g n c : Nat} {xs : List Value} {i : Nat} {v : Value} (h : RowO 37 5 (.slice (some ⟨g, 0, none⟩) n c) n xs w F) (hv : xs[i]? = some v) : w.cell? ⟨g, i, none⟩ = some v ∧ w.frozen? ⟨g, i, none⟩ = false := by
  rcases h.1.2 with ⟨e1, -⟩ | ⟨g', cap, cur, e1, -, hg, -, -, -, ht⟩
  · cases e1
  · injection e1 with e2 e3 e4
    injection e2 with e2; injection e2 with e2
    subst e2
    rw [← ht, List.getElem?_take] at hv
    split at hv
    · rw [Array.getElem?_toList] at hv
      simp only [World.cell?, World.frozen?, hg]
      exact ⟨by rw [hv]; rfl, by simp⟩
    · cases hv
theorem row_some {w : World} {F : Nat → Prop} {A : Option Addr} {n c : Nat} {xs : List Value} (h : RowO 37 5 (.slice A (n + 1) c) (n + 1) xs w F) : ∃ g, A = some ⟨g, 0, none⟩ := by
  rcases h.1.2 with ⟨-, e1⟩ | ⟨g', cap, cur, e1, -⟩
  · cases e1
  · injection e1 with e2
    exact ⟨g', e2⟩
theorem bad_set : (wantC.flatMap pcells).set 19 (.int .i64 1) = badC.flatMap pcells := rfl
set_option maxHeartbeats 6400000 in
set_option maxRecDepth 100000 in
theorem head_any (w : World) (hz : LZ w) : Calls Tryz.prog 12 #[] w (BelowRet w (.bool true)) := by
  have HZ := hide hz
  have KS := hide (sample_any w)
  clear hz
  go_enter Tryz.func12, Tryz.ntmps12
  go_wp2_with fail
  refine KS.out.mono ?_
  rintro e9 w1 ⟨a, rfl, hb, hT⟩
  have HT := hide hT
  have HB := hide hb
  clear KS hb hT
  have h1 : Run (fun _ => False) w1 (star (CellO w1.heap.size #[.slice a.A 3 a.c, .slice a.D 0 a.d, .slice a.E 0 a.e, .int .i64 0, .int .i64 0, .int .i64 0] 25) emp) (w1.alloc (.cells #[.slice a.A 3 a.c, .slice a.D 0 a.d, .slice a.E 0 a.e, .int .i64 0, .int .i64 0, .int .i64 0] 25)) := run_new (Run.begin w1) emp_ok _ 25
  have HB1 := hide (show Below w1.heap.size w1 (w1.alloc (.cells #[.slice a.A 3 a.c, .slice a.D 0 a.d, .slice a.E 0 a.e, .int .i64 0, .int .i64 0, .int .i64 0] 25)) from h1.mod.below (fun _ _ h => h))
  have HTC := hide (fun W (h : Below (w1.alloc (.cells #[.slice a.A 3 a.c, .slice a.D 0 a.d, .slice a.E 0 a.e, .int .i64 0, .int .i64 0, .int .i64 0] 25)).heap.size (w1.alloc (.cells #[.slice a.A 3 a.c, .slice a.D 0 a.d, .slice a.E 0 a.e, .int .i64 0, .int .i64 0, .int .i64 0] 25)) W) => (show W.cell? ⟨w1.heap.size, 0, none⟩ = some (.slice a.A 3 a.c) ∧ W.cell? ⟨w1.heap.size, 1, none⟩ = some (.slice a.D 0 a.d) ∧ W.cell? ⟨w1.heap.size, 2, none⟩ = some (.slice a.E 0 a.e) ∧ W.cell? ⟨w1.heap.size, 3, none⟩ = some (.int .i64 0) ∧ W.cell? ⟨w1.heap.size, 4, none⟩ = some (.int .i64 0) ∧ W.cell? ⟨w1.heap.size, 5, none⟩ = some (.int .i64 0) from by
    obtain ⟨f, hf⟩ := (h1.below (star_ok cell_ok emp_ok) h).fst
    exact ⟨cell_at hf rfl, cell_at hf rfl, cell_at hf rfl, cell_at hf rfl, cell_at hf rfl, cell_at hf rfl⟩))
  have HTW := hide (fun W (h : Below (w1.alloc (.cells #[.slice a.A 3 a.c, .slice a.D 0 a.d, .slice a.E 0 a.e, .int .i64 0, .int .i64 0, .int .i64 0] 25)).heap.size (w1.alloc (.cells #[.slice a.A 3 a.c, .slice a.D 0 a.d, .slice a.E 0 a.e, .int .i64 0, .int .i64 0, .int .i64 0] 25)) W) => (HT.out.below HB1.out).below h)
  have HZW := hide (fun W (h : Below (w1.alloc (.cells #[.slice a.A 3 a.c, .slice a.D 0 a.d, .slice a.E 0 a.e, .int .i64 0, .int .i64 0, .int .i64 0] 25)).heap.size (w1.alloc (.cells #[.slice a.A 3 a.c, .slice a.D 0 a.d, .slice a.E 0 a.e, .int .i64 0, .int .i64 0, .int .i64 0] 25)) W) => ((HZ.out.below HB.out).below HB1.out).below h)
  have HBW := hide (fun W (h : Below (w1.alloc (.cells #[.slice a.A 3 a.c, .slice a.D 0 a.d, .slice a.E 0 a.e, .int .i64 0, .int .i64 0, .int .i64 0] 25)).heap.size (w1.alloc (.cells #[.slice a.A 3 a.c, .slice a.D 0 a.d, .slice a.E 0 a.e, .int .i64 0, .int .i64 0, .int .i64 0] 25)) W) => bel_trans (bel_trans HB.out HB1.out) h)
  have KM := hide (fun W (h : Below (w1.alloc (.cells #[.slice a.A 3 a.c, .slice a.D 0 a.d, .slice a.E 0 a.e, .int .i64 0, .int .i64 0, .int .i64 0] 25)).heap.size (w1.alloc (.cells #[.slice a.A 3 a.c, .slice a.D 0 a.d, .slice a.E 0 a.e, .int .i64 0, .int .i64 0, .int .i64 0] 25)) W) (k : Int) (x : Bs) (k2 : Int) (y : Bs) (bound : Int) (hx : x.length ≤ 1000000) (hy : y.length ≤ 1000000) => (show Calls Tryz.prog 14 #[(.agg #[.slice a.A 3 a.c, .slice a.D 0 a.d, .slice a.E 0 a.e, .int .i64 0, .int .i64 0, .int .i64 0]), .int .i64 k, .string (bs x), .int .i64 k2, .string (bs y), .int .i64 bound] W (fun e w' => ∃ A c C er, e = .returned (.tuple #[.slice A C.length c, .int .i64 er]) ∧ MakeP sampT k x k2 y bound C er ∧ PtsR w' A C ∧ Below W.heap.size W w') from (make_any (HTW.out W h) (HZW.out W h) k x k2 y bound hx hy).mono fun e w' h => make_bel h))
  have KC := hide (fun W (h : Below (w1.alloc (.cells #[.slice a.A 3 a.c, .slice a.D 0 a.d, .slice a.E 0 a.e, .int .i64 0, .int .i64 0, .int .i64 0] 25)).heap.size (w1.alloc (.cells #[.slice a.A 3 a.c, .slice a.D 0 a.d, .slice a.E 0 a.e, .int .i64 0, .int .i64 0, .int .i64 0] 25)) W) (k : Int) (x : Bs) (k2 : Int) (y : Bs) (bound : Int) (hx : x.length ≤ 1000000) (hy : y.length ≤ 1000000) (B : Option Addr) (c : Nat) (C : List Pt) (hC : PtsR W B C) (hl : C.length ≤ 1000000) (hs : ∀ p ∈ C, p.a.length ≤ 1000000) (b : Bool) (hb : b = true ↔ CheckP sampT k x k2 y bound C) => (show Calls Tryz.prog 17 #[(.agg #[.slice a.A 3 a.c, .slice a.D 0 a.d, .slice a.E 0 a.e, .int .i64 0, .int .i64 0, .int .i64 0]), .int .i64 k, .string (bs x), .int .i64 k2, .string (bs y), .int .i64 bound, .slice B C.length c] W (fun e w' => e = .returned (.bool b) ∧ Below W.heap.size W w') from (check_any (c := c) (HTW.out W h) (HZW.out W h) k x k2 y bound hx hy hC hl hs).mono fun e w' h => check_bool h b hb))
  rw [show tabV sampT a = (.agg #[.slice a.A 3 a.c, .slice a.D 0 a.d, .slice a.E 0 a.e, .int .i64 0, .int .i64 0, .int .i64 0]) from rfl]
  clear h1 HT HZ HB HB1
  have HB0 := hide (Below.refl (w1.alloc (.cells #[.slice a.A 3 a.c, .slice a.D 0 a.d, .slice a.E 0 a.e, .int .i64 0, .int .i64 0, .int .i64 0] 25)).heap.size (w1.alloc (.cells #[.slice a.A 3 a.c, .slice a.D 0 a.d, .slice a.E 0 a.e, .int .i64 0, .int .i64 0, .int .i64 0] 25)))
  have K := hide (KM.out (w1.alloc (.cells #[.slice a.A 3 a.c, .slice a.D 0 a.d, .slice a.E 0 a.e, .int .i64 0, .int .i64 0, .int .i64 0] 25)) HB0.out 1 [97, 98] 1 [97, 99] 2 (by decide) (by decide))
  go_wp2_with fail
  refine K.out.mono ?_
  rintro e9 w2 ⟨A1, c1, C1, er1, rfl, hm, hp, hb⟩
  obtain ⟨rfl, rfl⟩ := samp_m1 hm
  have HB1 := hide (bel_trans HB0.out hb)
  have HP1_1 := hide hp
  clear K hm hp hb
  dsimp only
  rw [show wantC.length = 4 from rfl]
  have K := hide (KM.out w2 HB1.out 1 [97, 98] 1 [97, 99] 3 (by decide) (by decide))
  obtain ⟨t0, t1, t2, t3, t4, t5⟩ := HTC.out w2 HB1.out
  go_wp2_with fail
  refine K.out.mono ?_
  rintro e9 w3 ⟨A2, c2, C2, er2, rfl, hm, hp, hb⟩
  obtain ⟨rfl, rfl⟩ := samp_m2 hm
  have HB2 := hide (bel_trans HB1.out hb)
  have HP1_2 := hide (Rst.below HP1_1.out hb)
  clear HP1_1
  clear K hm hp hb t0 t1 t2 t3 t4 t5
  dsimp only
  have K := hide (KM.out w3 HB2.out 1 [97] 1 [98] 5 (by decide) (by decide))
  obtain ⟨t0, t1, t2, t3, t4, t5⟩ := HTC.out w3 HB2.out
  go_wp2_with fail
  refine K.out.mono ?_
  rintro e9 w4 ⟨A3, c3, C3, er3, rfl, hm, hp, hb⟩
  obtain ⟨rfl, rfl⟩ := samp_m3 hm
  have HB3 := hide (bel_trans HB2.out hb)
  have HP1_3 := hide (Rst.below HP1_2.out hb)
  clear HP1_2
  have HP3_3 := hide hp
  clear K hm hp hb t0 t1 t2 t3 t4 t5
  dsimp only
  have K := hide (KM.out w4 HB3.out 1 [97] 1 [99] 0 (by decide) (by decide))
  obtain ⟨t0, t1, t2, t3, t4, t5⟩ := HTC.out w4 HB3.out
  go_wp2_with fail
  refine K.out.mono ?_
  rintro e9 w5 ⟨A4, c4, C4, er4, rfl, hm, hp, hb⟩
  obtain ⟨rfl, rfl⟩ := samp_m4 hm
  have HB4 := hide (bel_trans HB3.out hb)
  have HP1_4 := hide (Rst.below HP1_3.out hb)
  clear HP1_3
  have HP3_4 := hide (Rst.below HP3_3.out hb)
  clear HP3_3
  clear K hm hp hb t0 t1 t2 t3 t4 t5
  dsimp only
  have hpw : PtsR (w5.alloc (.cells #[.int .i64 0, .int .i64 0, .string { data := #[] }, .bool false, .int .i64 2, .int .i64 1, .int .i64 0, .string { data := #[97] }, .bool false, .int .i64 2, .int .i64 1, .int .i64 1, .string { data := #[] }, .bool false, .int .i64 2, .int .i64 2, .int .i64 1, .string { data := #[98] }, .bool false, .int .i64 2] 37)) (some ⟨w5.heap.size, 0, none⟩) wantC := pts_lit w5 wantC
  have hba : Below w5.heap.size w5 (w5.alloc (.cells #[.int .i64 0, .int .i64 0, .string { data := #[] }, .bool false, .int .i64 2, .int .i64 1, .int .i64 0, .string { data := #[97] }, .bool false, .int .i64 2, .int .i64 1, .int .i64 1, .string { data := #[] }, .bool false, .int .i64 2, .int .i64 2, .int .i64 1, .string { data := #[98] }, .bool false, .int .i64 2] 37)) := (Below.refl _ _).alloc (Nat.le_refl _) _
  have hp1 := Rst.below HP1_4.out hba
  have K := hide (show Calls Tryz.prog 16 #[.slice A1 4 c1, .slice (some ⟨w5.heap.size, 0, none⟩) 4 4] (w5.alloc (.cells #[.int .i64 0, .int .i64 0, .string { data := #[] }, .bool false, .int .i64 2, .int .i64 1, .int .i64 0, .string { data := #[97] }, .bool false, .int .i64 2, .int .i64 1, .int .i64 1, .string { data := #[] }, .bool false, .int .i64 2, .int .i64 2, .int .i64 1, .string { data := #[98] }, .bool false, .int .i64 2] 37)) (BelowRet _ (.bool true)) from same_any (c := c1) (d := 4) hp1 hpw (by decide) (by decide))
  have HB5 := hide (bel_trans HB4.out hba)
  have HPW5 := hide hpw
  have HP3_5 := hide (Rst.below HP3_4.out hba)
  clear hpw hba hp1 HP1_4 HP3_4
  go_wp2_with fail
  refine K.out.mono ?_
  rintro e9 w7 ⟨rfl, hb⟩
  have HB6 := hide (bel_trans HB5.out hb)
  have HPW6 := hide (Rst.below HPW5.out hb)
  have HP3_6 := hide (Rst.below HP3_5.out hb)
  clear K hb HPW5 HP3_5
  generalize w5.heap.size = gw at *
  dsimp only
  have hp2 : PtsR (w7.alloc (.cells #[.int .i64 0, .int .i64 0, .string { data := #[] }, .bool false, .int .i64 5, .int .i64 1, .int .i64 0, .string { data := #[97] }, .bool false, .int .i64 5] 37)) (some ⟨w7.heap.size, 0, none⟩) [⟨0, 0, [], false, 5⟩, ⟨1, 0, [97], false, 5⟩] := pts_lit w7 [⟨0, 0, [], false, 5⟩, ⟨1, 0, [97], false, 5⟩]
  have hba : Below w7.heap.size w7 (w7.alloc (.cells #[.int .i64 0, .int .i64 0, .string { data := #[] }, .bool false, .int .i64 5, .int .i64 1, .int .i64 0, .string { data := #[97] }, .bool false, .int .i64 5] 37)) := (Below.refl _ _).alloc (Nat.le_refl _) _
  have K := hide (show Calls Tryz.prog 16 #[.slice A3 2 c3, .slice (some ⟨w7.heap.size, 0, none⟩) 2 2] (w7.alloc (.cells #[.int .i64 0, .int .i64 0, .string { data := #[] }, .bool false, .int .i64 5, .int .i64 1, .int .i64 0, .string { data := #[97] }, .bool false, .int .i64 5] 37)) (BelowRet _ (.bool true)) from same_any (c := c3) (d := 2) (C := [⟨0, 0, [], false, 5⟩, ⟨1, 0, [97], false, 5⟩]) (D := [⟨0, 0, [], false, 5⟩, ⟨1, 0, [97], false, 5⟩]) (Rst.below HP3_6.out hba) hp2 (by decide) (by decide))
  have HB7 := hide (bel_trans HB6.out hba)
  have HPW7 := hide (Rst.below HPW6.out hba)
  clear hp2 hba HP3_6 HPW6
  go_wp2_with fail
  refine K.out.mono ?_
  rintro e9 w8 ⟨rfl, hb⟩
  have HB8 := hide (bel_trans HB7.out hb)
  have HPW8 := hide (Rst.below HPW7.out hb)
  clear K hb HPW7
  dsimp only
  have hba : Below w8.heap.size w8 (w8.alloc (.cells #[] 37)) := (Below.refl _ _).alloc (Nat.le_refl _) _
  have hr9 := (Run.begin w8).fresh emp_ok (row_made w8 37 5)
  have HPW9 := hide (Rst.below HPW8.out hba)
  have HR9 := hide hr9
  clear hba hr9
  go_wp2_with (at_builtin; refine held ?_)
  obtain ⟨F7, hR7, -, bk7⟩ := HR9.out.take row_ok emp_ok
  refine Held.mk (wpList_appX rfl (.tmp 72) (.tmp 73) rfl ptsOk _ 0 (v := .slice (some ⟨w8.heap.size, 0, none⟩) 0 0) (n := 0) (xs := []) rfl hR7.1 (A := some ⟨gw, 0, none⟩) (m := 4) (c := 4) (news := wantC.flatMap pcells) rfl HPW9.out (by unfold maxLen; omega) (by omega) (Nat.zero_le _) ?_)
  intro v8 w10 ho8 hg8 hv8
  have S8 := bk7 _ _ (row_app hR7 ho8 hg8 hv8)
  obtain ⟨A8, c8, rfl⟩ := own_form ho8
  rw [Nat.zero_add, List.nil_append] at S8
  obtain ⟨F8, hF8⟩ := S8.fst
  obtain ⟨g8, rfl⟩ := row_some hF8
  obtain ⟨q0, q1⟩ := row_cell37 (i := 19) (v := .int .i64 2) hF8 rfl
  obtain ⟨F9, hF9, -, bk9⟩ := S8.take row_ok emp_ok
  have S9 := bk9 _ _ (row_set hF9 (i := 19) (by omega) (.int .i64 1))
  rw [bad_set] at S9
  have HS9 := hide S9
  have hb9 : Below w8.heap.size w8 _ := S9.mod.below (fun _ _ h => h)
  have HB9 := hide (bel_trans HB8.out hb9)
  have HPA := hide (Rst.below HPW8.out hb9)
  obtain ⟨F10, hF10⟩ := S9.fst
  have HPB := hide (pts_of (C := badC) hF10)
  have K := hide (KC.out _ HB9.out 1 [97, 98] 1 [97, 99] 2 (by decide) (by decide) (some ⟨gw, 0, none⟩) 4 wantC HPA.out (by decide) (by decide) true ⟨fun _ => samp_k1, fun _ => rfl⟩)
  obtain ⟨t0, t1, t2, t3, t4, t5⟩ := HTC.out _ HB9.out
  clear ho8 hg8 hv8 bk7 hR7 S8 hF8 hF9 bk9 S9 HR9 HPW9 hb9 hF10 HPW8 HS9
  go_wp2_with fail
  refine K.out.mono ?_
  rintro e9 w11 ⟨rfl, hb⟩
  have HB10 := hide (bel_trans HB9.out hb)
  have HPA2 := hide (Rst.below HPA.out hb)
  have HPB2 := hide (Rst.below HPB.out hb)
  clear K hb HPA HPB HB9 t0 t1 t2 t3 t4 t5 q0 q1
  dsimp only
  have HB11 := hide (below_drew HB10.out)
  have HPA3 := hide (Rst.below HPA2.out (below_drew (Below.refl _ _)))
  have HPB3 := hide (Rst.below HPB2.out (below_drew (Below.refl _ _)))
  clear HPA2 HPB2
  have hS0 := HTC.out _ HB11.out
  go_wp2_with fail
  refine wp_region_lex (fun W : World => W.cell? ⟨w1.heap.size, 0, none⟩ = some (.slice a.A 3 a.c) ∧ W.cell? ⟨w1.heap.size, 1, none⟩ = some (.slice a.D 0 a.d) ∧ W.cell? ⟨w1.heap.size, 2, none⟩ = some (.slice a.E 0 a.e) ∧ W.cell? ⟨w1.heap.size, 3, none⟩ = some (.int .i64 0) ∧ W.cell? ⟨w1.heap.size, 4, none⟩ = some (.int .i64 0) ∧ W.cell? ⟨w1.heap.size, 5, none⟩ = some (.int .i64 0)) rfl (by kernel_rfl) hS0 ?_
  clear hS0
  generalize w11.drew = w12 at *
  (repeat (first | (refine lex_skip (by rfl) ?_; try simp only [Act.put, List.setIfInBounds_toArray, List.set_cons_zero, List.set_cons_succ]) | (refine lex_read (v := ?_) (by rfl) ?_ ?_; rotate_left; (focus (intro w' hS'; go_simp; (try with_reducible rfl); done)); try simp only [Act.put, List.setIfInBounds_toArray, List.set_cons_zero, List.set_cons_succ])))
  have K := hide (KC.out _ HB11.out 1 [97, 98] 1 [97, 99] 2 (by decide) (by decide) (some ⟨g8, 0, none⟩) c8 badC HPB3.out (by decide) (by decide) false ⟨fun h => (by cases h), fun h => (samp_k2 h).elim⟩)
  refine lex_chain rfl (by rfl) (fun K' hK => ?_)
  go_wp2_with fail
  refine K.out.mono ?_
  rintro e9 w13 ⟨rfl, hb⟩
  have HB12 := hide (bel_trans HB11.out hb)
  have HPA4 := hide (Rst.below HPA3.out hb)
  clear K hb
  dsimp only
  refine hK.out _ _ (HTC.out _ HB12.out) ?_
  clear hK
  (repeat (first | (refine lex_skip (by rfl) ?_; try simp only [Act.put, List.setIfInBounds_toArray, List.set_cons_zero, List.set_cons_succ]) | (refine lex_read (v := ?_) (by rfl) ?_ ?_; rotate_left; (focus (intro w' hS'; go_simp; (try with_reducible rfl); done)); try simp only [Act.put, List.setIfInBounds_toArray, List.set_cons_zero, List.set_cons_succ])))
  have K := hide (KC.out _ HB12.out 1 [97, 98] 1 [97, 99] 2 (by decide) (by decide) (some ⟨gw, 5, none⟩) 3 (wantC.drop 1) (pts_cut1 HPA4.out) (by decide) (by decide) false ⟨fun h => (by cases h), fun h => (samp_k3 h).elim⟩)
  refine lex_chain rfl (by rfl) (fun K' hK => ?_)
  go_wp2_with fail
  refine K.out.mono ?_
  rintro e9 w14 ⟨rfl, hb⟩
  have HB13 := hide (bel_trans HB12.out hb)
  clear K hb
  dsimp only
  refine hK.out _ _ (HTC.out _ HB13.out) ?_
  clear hK
  (repeat (first | (refine lex_skip (by rfl) ?_; try simp only [Act.put, List.setIfInBounds_toArray, List.set_cons_zero, List.set_cons_succ]) | (refine lex_read (v := ?_) (by rfl) ?_ ?_; rotate_left; (focus (intro w' hS'; go_simp; (try with_reducible rfl); done)); try simp only [Act.put, List.setIfInBounds_toArray, List.set_cons_zero, List.set_cons_succ])))
  have K := hide (KC.out _ HB13.out 1 [97, 98] 1 [97, 99] 0 (by decide) (by decide) none 0 [] src_none (by decide) (by decide) true ⟨fun _ => samp_k4, fun _ => rfl⟩)
  refine lex_chain rfl (by rfl) (fun K' hK => ?_)
  go_wp2_with fail
  refine K.out.mono ?_
  rintro e9 w15 ⟨rfl, hb⟩
  have HB14 := hide (bel_trans HB13.out hb)
  clear K hb
  dsimp only
  refine hK.out _ _ (HTC.out _ HB14.out) ?_
  clear hK
  (repeat (first | (refine lex_skip (by rfl) ?_; try simp only [Act.put, List.setIfInBounds_toArray, List.set_cons_zero, List.set_cons_succ]) | (refine lex_read (v := ?_) (by rfl) ?_ ?_; rotate_left; (focus (intro w' hS'; go_simp; (try with_reducible rfl); done)); try simp only [Act.put, List.setIfInBounds_toArray, List.set_cons_zero, List.set_cons_succ])))
  refine lex_nil ?_
  go_wp2
  go_ret
  exact bel_bool rfl (HBW.out _ HB14.out)
end Go.Proofs.YtnppgomhhcbplaaGreatDoor
namespace Go.Proofs.YtnppgomhhcbplaaGreatDoor
open Go.RowKit Go.CH Go.CH.Scr Go.CH.Pot
open Go.ChangeMaps (setBlock)
theorem make_bel2 {w w' : World} {T : Tab} {k k2 bound : Int} {x y : Bs} {e : Ending} (h : MakeRet w T k x k2 y bound e w') : ∃ A c C er, e = .returned (.tuple #[.slice A C.length c, .int .i64 er]) ∧ MakeP T k x k2 y bound C er ∧ (PtsR w' A C ∧ C.length ≤ 9223372036854775807) ∧ Below w.heap.size w w' := by
  obtain ⟨A, c, C, er, h1, h2, F, h3, h4, h5⟩ := h
  refine ⟨A, c, C, er, h1, h2, ⟨pts_of h3, ?_⟩, h4.below (fun _ _ h => h)⟩
  rcases h3.1.2 with ⟨-, e⟩ | ⟨g, cap, cur, -, -, -, g1, g2, -⟩
  · omega
  · unfold maxLen at g2; omega
set_option maxHeartbeats 6400000 in
set_option maxRecDepth 100000 in
theorem law_less_any {w : World} {T : Tab} {a : TA} (hT : TabZ w T a) (hz : LZ w) (k : Int) (x : Bs) (k2 : Int) (y : Bs) (raw part : Nat) (hraw : raw < 4294967296) (hpart : part < 65536) :
    Calls Tryz.prog 4 #[tabV T a, .int .i64 k, .string (bs x), .int .i64 k2, .string (bs y), .int .u32 raw, .int .u16 part] w (BelowRet w (.bool true)) := by
  have HT := hide hT
  have HZ := hide hz
  have h1 : Run (fun _ => False) w (star (CellO w.heap.size (tabC T a) 25) emp) _ := run_new (Run.begin w) emp_ok _ 25
  have HB := hide (h1.mod.below (fun _ _ h => h))
  have HTC := hide (fun W (h : Below (w.alloc (.cells (tabC T a) 25)).heap.size (w.alloc (.cells (tabC T a) 25)) W) => (show W.cell? ⟨w.heap.size, 0, none⟩ = some (.slice a.A T.rs.length a.c) ∧ W.cell? ⟨w.heap.size, 1, none⟩ = some (.slice a.D T.ds.length a.d) ∧ W.cell? ⟨w.heap.size, 2, none⟩ = some (.slice a.E T.es.length a.e) ∧ W.cell? ⟨w.heap.size, 3, none⟩ = some (.int .i64 T.drop) ∧ W.cell? ⟨w.heap.size, 4, none⟩ = some (.int .i64 T.ord) ∧ W.cell? ⟨w.heap.size, 5, none⟩ = some (.int .i64 T.ini) from by
    obtain ⟨f, hf⟩ := (h1.below (star_ok cell_ok emp_ok) h).fst
    exact ⟨cell_at hf rfl, cell_at hf rfl, cell_at hf rfl, cell_at hf rfl, cell_at hf rfl, cell_at hf rfl⟩))
  have KH := hide (head_any (w.alloc (.cells (tabC T a) 25)) (hz.below HB.out))
  clear hT hz h1
  unfold tabV
  unfold tabC at HB HTC KH ⊢
  generalize hn1 : T.rs.length = n1 at *
  generalize hn2 : T.ds.length = n2 at *
  generalize hn3 : T.es.length = n3 at *
  have HN := hide (show tabV T a = .agg #[.slice a.A n1 a.c, .slice a.D n2 a.d, .slice a.E n3 a.e, .int .i64 T.drop, .int .i64 T.ord, .int .i64 T.ini] from by unfold tabV tabC; rw [hn1, hn2, hn3])
  clear hn1 hn2 hn3
  go_enter Tryz.func4, Tryz.ntmps4
  go_wp2_with fail
  refine KH.out.mono ?_
  rintro e9 w1 ⟨rfl, hb1⟩
  generalize w.alloc (.cells #[.slice a.A n1 a.c, .slice a.D n2 a.d, .slice a.E n3 a.e, .int .i64 T.drop, .int .i64 T.ord, .int .i64 T.ini] 25) = wb at *
  obtain ⟨gt, hgt⟩ : ∃ gt, gt = w.heap.size := ⟨_, rfl⟩
  have HBW := hide (fun W (h : Below wb.heap.size wb W) => HB.out.trans (h.mono HB.out.size))
  have HZW := hide (fun W (h : Below wb.heap.size wb W) => HZ.out.below (HBW.out W h))
  have HTW := hide (fun W (h : Below wb.heap.size wb W) => HT.out.below (HBW.out W h))
  have HB1 := hide hb1
  have KF := hide (few_any (B := none) (c := 0) (C := []) (HTW.out w1 hb1) src_none x y)
  rw [HN.out] at KF
  obtain ⟨t0, t1, t2, t3, t4, t5⟩ := HTC.out _ hb1
  clear KH hb1 HT HZ HB
  dsimp only
  cases hf : fewN T x y [] with
  | false =>
    simp only [hf] at KF
    clear hf
    go_wp2_with fail
    refine KF.out.mono ?_
    rintro e9 w2 ⟨rfl, hb⟩
    have HB2 := hide (bel_trans HB1.out hb)
    clear KF hb t0 t1 t2 t3 t4 t5
    dsimp only
    go_wp2
    go_ret
    exact bel_bool rfl (HBW.out _ HB2.out)
  | true =>
    simp only [hf] at KF
    have HF := hide (fewN_iff.1 hf)
    clear hf
    go_wp2_with fail
    refine KF.out.mono ?_
    rintro e9 w2 ⟨rfl, hb⟩
    have HB2 := hide (bel_trans HB1.out hb)
    clear KF hb t0 t1 t2 t3 t4 t5
    dsimp only
    have KM := hide (fun W (h : Below wb.heap.size wb W) (bd : Int) => (make_any ((HTW.out W h).few HF.out.1) (HZW.out W h) k x k2 y bd (by have := HF.out.2.1; omega) (by have := HF.out.2.2; omega)).mono fun e w' h => make_bel2 h)
    simp only [HN.out] at KM
    have hb0 : 0 ≤ (raw : Int) % 100000 ∧ (raw : Int) % 100000 < 100000 := ⟨Int.emod_nonneg _ (by decide), Int.emod_lt_of_pos _ (by decide)⟩
    have hl0 : 0 ≤ (part : Int) % ((raw : Int) % 100000 + 1) ∧ (part : Int) % ((raw : Int) % 100000 + 1) < (raw : Int) % 100000 + 1 := ⟨Int.emod_nonneg _ (by omega), Int.emod_lt_of_pos _ (by omega)⟩
    have tw : wrap64 ((part : Int) % ((raw : Int) % 100000 + 1) + 1) = (part : Int) % ((raw : Int) % 100000 + 1) + 1 := IntWalk.wrap64_in _ (by omega)
    have K1 := hide (KM.out w2 HB2.out ((raw : Int) % 100000 + 1))
    obtain ⟨t0, t1, t2, t3, t4, t5⟩ := HTC.out _ HB2.out
    go_wp2_with fail
    refine K1.out.mono ?_
    rintro e9 w3 ⟨A1, c1, C1, er1, rfl, hm1, ⟨hp1, hlen1⟩, hb⟩
    clear tw
    generalize (part : Int) % ((raw : Int) % 100000 + 1) = ls at *
    generalize (raw : Int) % 100000 = bd at *
    have HB3 := hide (bel_trans HB2.out hb)
    have HM1 := hide hm1
    have HP1 := hide hp1
    clear K1 hm1 hp1 hb t0 t1 t2 t3 t4 t5
    dsimp only
    by_cases her : er1 = 0
    · subst her
      have K2 := hide (KM.out w3 HB3.out (ls + 1))
      obtain ⟨t0, t1, t2, t3, t4, t5⟩ := HTC.out _ HB3.out
      go_wp2_with fail
      refine K2.out.mono ?_
      rintro e9 w4 ⟨A2, c2, C2, er2, rfl, hm2, ⟨hp2, hlen2⟩, hb⟩
      obtain ⟨rfl, rfl⟩ := law_less HM1.out (by omega) (by omega) hm2
      have HB4 := hide (bel_trans HB3.out hb)
      have HP1' := hide (Rst.below HP1.out hb)
      have HP2 := hide hp2
      clear K2 hm2 hp2 hb t0 t1 t2 t3 t4 t5 HP1 HM1 KM
      rw [List.length_map]
      dsimp only
      obtain ⟨n, hn⟩ : ∃ n, n = C1.length := ⟨_, rfl⟩
      rw [← hn]
      have HNL := hide hn
      clear hn
      rw [← HNL.out] at hlen1
      clear hlen2
      go_wp2_with fail
      have HB4' := hide (Below.refl w4.heap.size w4)
      go_loopw [22] (fun i wr => ∃ j : Nat, j ≤ n ∧ i = .int .i64 j ∧ Below w4.heap.size w4 wr) (fun i _ => n - (intOf i).toNat)
      case atStart => exact ⟨0, Nat.zero_le _, rfl, HB4'.out⟩
      case round =>
        obtain ⟨j, hj, rfl, hbel⟩ := hrel
        have HBE := hide hbel
        clear hbel
        by_cases hlt : j < n
        · have hjc : j < C1.length := by rw [← HNL.out]; exact hlt
          have HLT := hide hlt
          obtain ⟨b1, o1, rfl, hc1⟩ := PtsR.at HP1'.out (by omega)
          obtain ⟨b2, o2, rfl, hc2⟩ := PtsR.at HP2.out (by rw [List.length_map]; omega)
          obtain ⟨r0, r1, r2, r3, r4⟩ := hc1 wr HBE.out j hjc
          have HC2 := hide (fun W (h : Below w4.heap.size w4 W) => (show W.cell? ⟨b2, o2 + j * 5, none⟩ = some (.int .i64 C1[j].i) ∧ W.cell? ⟨b2, o2 + j * 5 + 1, none⟩ = some (.int .i64 C1[j].j) ∧ W.cell? ⟨b2, o2 + j * 5 + 2, none⟩ = some (.string (bs C1[j].a)) ∧ W.cell? ⟨b2, o2 + j * 5 + 3, none⟩ = some (.bool C1[j].r) ∧ W.cell? ⟨b2, o2 + j * 5 + 4, none⟩ = some (.int .i64 (min C1[j].h (ls + 1))) from by
            have h2 := hc2 W h j (by rw [List.length_map]; exact hjc)
            simpa only [List.getElem_map] using h2))
          clear hc1 hc2
          have h7 := run_new (Run.begin wr) emp_ok #[.int .i64 C1[j].i, .int .i64 C1[j].j, .string (bs C1[j].a), .bool C1[j].r, .int .i64 C1[j].h] 37
          have H7 := hide h7
          have HW7 := hide (bel_trans HBE.out (h7.mod.below (fun _ _ h => h)))
          clear h7
          generalize C1[j] = p at *
          go_upto_region 16 with (fail)
          generalize hwx : wr.alloc (.cells #[.int .i64 p.i, .int .i64 p.j, .string (bs p.a), .bool p.r, .int .i64 p.h] 37) = wx at *
          generalize wr.heap.size = gx at H7 ⊢
          clear hwx
          obtain ⟨f7, hf7⟩ := H7.out.fst
          have q4 := cell_at (v := .int .i64 p.h) (i := 4) hf7 rfl
          have qf := cell_free hf7 4
          have h8 : Run (fun _ => False) wr (star (CellO gx #[.int .i64 p.i, .int .i64 p.j, .string (bs p.a), .bool p.r, .int .i64 (min p.h (ls + 1))] 37) emp) _ := run_setc H7.out emp_ok 4 (.int .i64 (min p.h (ls + 1)))
          have h9 := h8.drew (star_ok cell_ok emp_ok)
          have HB9 := hide (bel_trans HBE.out (h9.mod.below (fun _ _ h => h)))
          obtain ⟨f9, hf9⟩ := h9.fst
          have hS0 : (fun W : World => (W.cell? ⟨b2, o2 + j * 5, none⟩ = some (.int .i64 p.i) ∧ W.cell? ⟨b2, o2 + j * 5 + 1, none⟩ = some (.int .i64 p.j) ∧ W.cell? ⟨b2, o2 + j * 5 + 2, none⟩ = some (.string (bs p.a)) ∧ W.cell? ⟨b2, o2 + j * 5 + 3, none⟩ = some (.bool p.r) ∧ W.cell? ⟨b2, o2 + j * 5 + 4, none⟩ = some (.int .i64 (min p.h (ls + 1)))) ∧ (W.cell? ⟨gx, 0, none⟩ = some (.int .i64 p.i) ∧ W.cell? ⟨gx, 1, none⟩ = some (.int .i64 p.j) ∧ W.cell? ⟨gx, 2, none⟩ = some (.string (bs p.a)) ∧ W.cell? ⟨gx, 3, none⟩ = some (.bool p.r) ∧ W.cell? ⟨gx, 4, none⟩ = some (.int .i64 (min p.h (ls + 1))))) _ := ⟨HC2.out _ HB9.out, cell_at hf9 rfl, cell_at hf9 rfl, cell_at hf9 rfl, cell_at hf9 rfl, cell_at hf9 rfl⟩
          have HS0 := hide hS0
          have HNE := hide (fun W => neq_pt ⟨p.i, p.j, p.a, p.r, min p.h (ls + 1)⟩ ⟨p.i, p.j, p.a, p.r, min p.h (ls + 1)⟩ W)
          rw [decide_eq_true rfl] at HNE
          unfold ptC at HNE
          clear hf7 h8 h9 hf9 hS0 r0 r1 r2 r3 r4 H7 HW7 HC2
          go_wp2_with fail
          refine wp_region_lex (fun W : World => (W.cell? ⟨b2, o2 + j * 5, none⟩ = some (.int .i64 p.i) ∧ W.cell? ⟨b2, o2 + j * 5 + 1, none⟩ = some (.int .i64 p.j) ∧ W.cell? ⟨b2, o2 + j * 5 + 2, none⟩ = some (.string (bs p.a)) ∧ W.cell? ⟨b2, o2 + j * 5 + 3, none⟩ = some (.bool p.r) ∧ W.cell? ⟨b2, o2 + j * 5 + 4, none⟩ = some (.int .i64 (min p.h (ls + 1)))) ∧ (W.cell? ⟨gx, 0, none⟩ = some (.int .i64 p.i) ∧ W.cell? ⟨gx, 1, none⟩ = some (.int .i64 p.j) ∧ W.cell? ⟨gx, 2, none⟩ = some (.string (bs p.a)) ∧ W.cell? ⟨gx, 3, none⟩ = some (.bool p.r) ∧ W.cell? ⟨gx, 4, none⟩ = some (.int .i64 (min p.h (ls + 1))))) rfl (by kernel_rfl) HS0.out ?_
          clear HS0
          iterate 5 (refine lex_read (v := ?_) (by rfl) ?_ ?_; rotate_left; (focus (intro w' hS'; go_simp; (try with_reducible rfl); done)); try simp only [Act.put, List.setIfInBounds_toArray, List.set_cons_zero, List.set_cons_succ])
          refine lex_read (v := .bool (!true)) (by rfl) (fun w' hS' => exec_neq_agg rfl rfl rfl (by kernel_rfl) (HNE.out w')) ?_
          refine lex_nil ?_
          simp only [Act.put, List.setIfInBounds_toArray, List.set_cons_zero, List.set_cons_succ, Bool.not_true]
          clear HNE q4 qf
          go_wp2_with fail
          go_roundw
          case rel => exact ⟨j + 1, HLT.out, by go_num, HB9.out⟩
          case measure => have := HLT.out; simp [intOf]; omega
        · go_wp2
          go_ret
          exact bel_bool rfl (HBW.out _ (bel_trans HB4.out HBE.out))
    · have t : (er1 != 0) = true := by simp [her]
      clear her
      go_wp2
      go_ret
      exact bel_bool rfl (HBW.out _ HB3.out)
end Go.Proofs.YtnppgomhhcbplaaGreatDoor
namespace Go.CH.Pot
open Go.CH.Scr
/-- All that can be ahead: the ends of what rules write. -/
def sufs (W : Wd) : List Bs := [] :: W.rs.flatMap fun R => [R.t, R.t.drop 1, R.t.drop 2, R.t.drop 3]
theorem fm_four {α β : Type} (f : α → List β) (h : ∀ x, (f x).length = 4) : ∀ l : List α, (l.flatMap f).length = 4 * l.length
  | [] => rfl
  | x :: l => by rw [List.flatMap_cons, List.length_append, h, fm_four f h l, List.length_cons]; omega
theorem sufs_len {W : Wd} : (sufs W).length = 1 + 4 * W.rs.length := by
  unfold sufs
  rw [List.length_cons, fm_four _ (fun _ => rfl)]
  omega
theorem suf_mem {W : Wd} (ht : W.tosOk) {R : Rule} (hR : R ∈ W.rs) (n : Nat) : R.t.drop n ∈ sufs W := by
  unfold sufs
  by_cases h : n < 4
  · refine List.mem_cons_of_mem _ (List.mem_flatMap.2 ⟨R, hR, ?_⟩)
    have : n = 0 ∨ n = 1 ∨ n = 2 ∨ n = 3 := by omega
    rcases this with rfl | rfl | rfl | rfl <;> simp
  · have := (ht R hR).1
    rw [List.drop_of_length_le (by omega)]
    exact List.mem_cons_self ..
theorem suf_drop {W : Wd} (ht : W.tosOk) {a : Bs} (h : a ∈ sufs W) (n : Nat) : a.drop n ∈ sufs W := by
  unfold sufs at h
  rcases List.mem_cons.1 h with rfl | h
  · rw [List.drop_nil]; exact List.mem_cons_self ..
  · obtain ⟨R, hR, ha⟩ := List.mem_flatMap.1 h
    simp only [List.mem_cons, List.not_mem_nil, or_false] at ha
    rcases ha with rfl | rfl | rfl | rfl
    · exact suf_mem ht hR n
    · rw [List.drop_drop]; exact suf_mem ht hR _
    · rw [List.drop_drop]; exact suf_mem ht hR _
    · rw [List.drop_drop]; exact suf_mem ht hR _
theorem rch_suf {W : Wd} {s : St} (ht : W.tosOk) (h : Rch W st0 s) : s.a ∈ sufs W := by
  induction h with
  | refl => exact List.mem_cons_self ..
  | step _ hm ih =>
    obtain ⟨R, hR, hm⟩ := moves_mem hm
    obtain ⟨-, -, x, hx, rfl⟩ := mv_some hm
    have key : x.1 ∈ sufs W := by
      unfold Wd.ah at hx
      split at hx
      · injection hx with hx; subst hx
        exact suf_drop ht ih _
      · split at hx
        · injection hx with hx; subst hx
          exact suf_mem ht hR _
        · cases hx
    split <;> exact key
def codeP (W : Wd) (p : Pt) : Nat := ((p.i.toNat * 13 + p.j.toNat) * 2 + (if p.r then 1 else 0)) * 1000 + (sufs W).idxOf p.a
theorem cert_few {W : Wd} {bound : Int} {C : List Pt} (h : IsCert W bound C) (ht : W.tosOk) (hl : W.l.length ≤ 12) (hm : W.m.length ≤ 12) (hr : W.rs.length ≤ 60) : C.length ≤ 1000000 ∧ ∀ p ∈ C, p.a.length ≤ 3 := by
  have hp : ∀ p ∈ C, 0 ≤ p.i ∧ 0 ≤ p.j ∧ p.i.toNat ≤ 12 ∧ p.j.toNat ≤ 12 ∧ p.a ∈ sufs W ∧ p.a.length ≤ 3 ∧ p.h = min (W.dist p.st) bound := fun p hC => by
    obtain ⟨⟨h1, h2⟩, h3, h4, -⟩ := (h.mem p).1 hC
    have hok := h3.ok ok0
    exact ⟨h1, h2, Nat.le_trans hok.1 hl, Nat.le_trans hok.2.1 hm, rch_suf ht h3, (rch_ahead ht h3).1, h4⟩
  have hs := sufs_len (W := W)
  have hnd : C.Nodup := by
    refine List.Pairwise.imp (fun {a b} hab e => ?_) h.ord
    subst e
    rcases hab with h1 | ⟨-, h1 | ⟨-, h1 | ⟨-, h1, h2⟩⟩⟩
    · omega
    · omega
    · exact lta_irr _ h1
    · rw [h1] at h2; cases h2
  refine ⟨?_, fun p hC => (hp p hC).2.2.2.2.2.1⟩
  have h1 : (C.map (codeP W)).Nodup := by
    rw [List.Nodup, List.pairwise_map]
    refine List.Pairwise.imp_of_mem (fun {a b} ha hb hne he => hne ?_) hnd
    obtain ⟨a1, a2, a3, a4, a5, -, a7⟩ := hp a ha
    obtain ⟨b1, b2, b3, b4, b5, -, b7⟩ := hp b hb
    have ia := List.idxOf_lt_length_iff.2 a5
    have ib := List.idxOf_lt_length_iff.2 b5
    unfold codeP at he
    have e1 : (sufs W).idxOf a.a = (sufs W).idxOf b.a := by
      generalize (if a.r = true then 1 else 0) = ra at he
      generalize (if b.r = true then 1 else 0) = rb at he
      omega
    have e2 : (a.i.toNat * 13 + a.j.toNat) * 2 + (if a.r = true then 1 else 0) = (b.i.toNat * 13 + b.j.toNat) * 2 + (if b.r = true then 1 else 0) := by omega
    have e3 : a.r = b.r := by cases ha : a.r <;> cases hb : b.r <;> rw [ha, hb] at e2 <;> simp at e2 ⊢ <;> omega
    rw [e3] at e2
    have e4 : a.a = b.a := by
      have := List.getElem_idxOf ia
      have h2 := List.getElem_idxOf ib
      rw [← this, ← h2]
      congr 1
    have e5 : a.i = b.i ∧ a.j = b.j := by omega
    have est : a.st = b.st := by unfold Pt.st; rw [e5.1, e5.2, e4, e3]
    have eh : a.h = b.h := by rw [a7, b7, est]
    obtain ⟨i, j, x, r, hh⟩ := a
    obtain ⟨i', j', x', r', hh'⟩ := b
    simp only at e3 e4 e5 eh
    obtain ⟨rfl, rfl⟩ := e5
    subst e3 e4 eh
    rfl
  have h2 : ∀ x ∈ C.map (codeP W), x ∈ List.range 338000 := by
    intro x hx
    obtain ⟨p, hC, rfl⟩ := List.mem_map.1 hx
    obtain ⟨a1, a2, a3, a4, a5, -, -⟩ := hp p hC
    have ia := List.idxOf_lt_length_iff.2 a5
    rw [List.mem_range]
    unfold codeP
    split <;> omega
  have h3 := List.Nodup.length_le_of_subset h1 h2
  rw [List.length_map, List.length_range] at h3
  omega
theorem make_few {T : Tab} {a b : Int} {x y : Bs} {bound er : Int} {C : List Pt} (h : MakeP T a x b y bound C er) (hr : T.rs.length ≤ 60) : C.length ≤ 1000000 ∧ ∀ p ∈ C, p.a.length ≤ 1000000 := by
  cases h with
  | arg => exact ⟨by simp, fun p hp => by cases hp⟩
  | none => exact ⟨by simp, fun p hp => by cases hp⟩
  | some C h h0 h1 h2 hc =>
    have hl := lens_of h
    have := cert_few hc (good_of (okW_iff.1 h).2.2).2 hl.2.1 hl.2.2.2 hr
    exact ⟨this.1, fun p hp => by have := this.2 p hp; omega⟩
end Go.CH.Pot
namespace Go.CH.Scr
section
variable {k : Int} {l : Bs} {ws : List Bs} {o : Nat}
/-- The bytes of the first i letters. -/
def eat (k : Int) (l : Bs) : Nat → Nat
  | 0 => 0
  | i + 1 => eat k l i + len1 k (l.drop (eat k l i))
theorem eat_ltrs : ∀ i, i ≤ (ltrs k l).1.length → ltrs k (l.drop (eat k l i)) = ((ltrs k l).1.drop i, (ltrs k l).2) ∧ eat k l i ≤ l.length := by
  intro i
  induction i with
  | zero => intro _; exact ⟨rfl, Nat.zero_le _⟩
  | succ i ih =>
    intro hi
    obtain ⟨h, hle⟩ := ih (by omega)
    have hd : (ltrs k l).1.drop i = (ltrs k l).1[i] :: (ltrs k l).1.drop (i + 1) := List.drop_eq_getElem_cons (by omega)
    have hn : len1 k (l.drop (eat k l i)) ≠ 0 := fun h0 => by
      rw [ltrs_stop h0, hd] at h
      cases h
    have h3 := len1_le (k := k) (l := l.drop (eat k l i))
    rw [List.length_drop] at h3
    rw [ltrs_step hn, hd, List.drop_drop] at h
    have h1 := congrArg Prod.fst h
    have h2 := congrArg Prod.snd h
    simp only [List.cons.injEq] at h1 h2
    exact ⟨Prod.ext h1.2 h2, by show eat k l i + _ ≤ _; omega⟩
theorem eat_next {i : Nat} (hi : i < (ltrs k l).1.length) : len1 k (l.drop (eat k l i)) ≠ 0 := fun h0 => by
  have h := (eat_ltrs (k := k) (l := l) i (by omega)).1
  have hd : (ltrs k l).1.drop i = (ltrs k l).1[i] :: (ltrs k l).1.drop (i + 1) := List.drop_eq_getElem_cons (by omega)
  rw [ltrs_stop h0, hd] at h
  cases h
theorem eat_stop : len1 k (l.drop (eat k l (ltrs k l).1.length)) = 0 := by
  have h := (eat_ltrs (k := k) (l := l) _ (Nat.le_refl _)).1
  rw [List.drop_length] at h
  refine Classical.byContradiction fun hn => ?_
  rw [ltrs_step hn] at h
  cases h
/-- Reading on behind i letters. -/
theorem read_upto : ∀ i, i ≤ (ltrs k l).1.length → (i = 0 ∨ (i ≤ 12 ∧ ws.length ≠ 6)) → read k ws [] 0 o l = read k ws (l.take (eat k l i)) i (o + eat k l i) (l.drop (eat k l i)) := by
  intro i
  induction i with
  | zero => intro _ _; simp [eat]
  | succ i ih =>
    intro hi hc
    rw [ih (by omega) (by omega), read_letter (eat_next (by omega)) (by omega), List.drop_drop, ← List.take_add, Nat.add_assoc]
    rfl
/-- Too many letters or words. -/
theorem read_many {i : Nat} (hi : i < (ltrs k l).1.length) (h0 : i = 0 ∨ (i ≤ 12 ∧ ws.length ≠ 6)) (h : i = 12 ∨ ws.length = 6) : read k ws [] 0 o l = .err 2 (o + eat k l i : Nat) := by
  rw [read_upto i (by omega) h0, read_limit (eat_next hi) h]
/-- Behind a word: the end, a blank, another byte. -/
theorem read_end (hc : (ltrs k l).1.length = 0 ∨ ((ltrs k l).1.length ≤ 12 ∧ ws.length ≠ 6)) (h : l.drop (eat k l (ltrs k l).1.length) = []) :
    read k ws [] 0 o l = .ok (close ws (l.take (eat k l (ltrs k l).1.length)) (ltrs k l).1.length) := by
  rw [read_upto _ (Nat.le_refl _) hc, h, read_nil]
theorem read_next {r : Bs} (hc : (ltrs k l).1.length = 0 ∨ ((ltrs k l).1.length ≤ 12 ∧ ws.length ≠ 6)) (h : l.drop (eat k l (ltrs k l).1.length) = 32 :: r) :
    read k ws [] 0 o l = read k (close ws (l.take (eat k l (ltrs k l).1.length)) (ltrs k l).1.length) [] 0 (o + eat k l (ltrs k l).1.length + 1) r := by
  rw [read_upto _ (Nat.le_refl _) hc, h, read_blank]
theorem read_other {a : UInt8} {r : Bs} (hc : (ltrs k l).1.length = 0 ∨ ((ltrs k l).1.length ≤ 12 ∧ ws.length ≠ 6)) (h : l.drop (eat k l (ltrs k l).1.length) = a :: r) (ha : a ≠ 32) :
    read k ws [] 0 o l = .err 3 (o + eat k l (ltrs k l).1.length : Nat) := by
  have h0 := eat_stop (k := k) (l := l)
  rw [h] at h0
  rw [read_upto _ (Nat.le_refl _) hc, h, read_char ha h0]
/-- The script whose name a text is. -/
def kOf (b : Bs) : Int := if b = plainT then 1 else if b = casedT then 2 else if b = abjadT then 3 else if b = syllabT then 4 else 0
theorem app_colon {a b r s : Bs} (ha : (58 : UInt8) ∉ a) (hb : (58 : UInt8) ∉ b) (h : a ++ 58 :: r = b ++ 58 :: s) : a = b ∧ r = s := by
  induction a generalizing b with
  | nil =>
    cases b with
    | nil => exact ⟨rfl, by simpa using h⟩
    | cons y b =>
      simp only [List.nil_append, List.cons_append, List.cons.injEq] at h
      exact absurd (by rw [← h.1]; exact List.mem_cons_self ..) hb
  | cons x a ih =>
    cases b with
    | nil =>
      simp only [List.nil_append, List.cons_append, List.cons.injEq] at h
      exact absurd (by rw [h.1]; exact List.mem_cons_self ..) ha
    | cons y b =>
      simp only [List.cons_append, List.cons.injEq] at h
      obtain ⟨e1, e2⟩ := ih (fun h => ha (List.mem_cons_of_mem _ h)) (fun h => hb (List.mem_cons_of_mem _ h)) h.2
      exact ⟨by rw [h.1, e1], e2⟩
theorem no_colon (k : Int) : (58 : UInt8) ∉ title k := by
  unfold title
  split
  · decide
  split
  · decide
  split <;> decide
theorem pre_no {t : Bs} (h : (58 : UInt8) ∉ t) : pre t = (0, 0) := by
  refine Classical.byContradiction fun hn => ?_
  by_cases h0 : (pre t).1 = 0
  · unfold pre at h0 hn
    repeat' split at h0
    all_goals first | exact absurd h0 (by decide) | skip
    rename_i h1 h2 h3 h4
    rw [if_neg h1, if_neg h2, if_neg h3, if_neg h4] at hn
    exact hn rfl
  · obtain ⟨r, hr, -⟩ := pre_is h0
    rw [hr] at h
    exact h (List.mem_append_right _ (List.mem_cons_self ..))
theorem pre_cut {b r : Bs} (h : (58 : UInt8) ∉ b) : (pre (b ++ 58 :: r)).1 = kOf b ∧ (kOf b ≠ 0 → (pre (b ++ 58 :: r)).2 = b.length + 1) := by
  unfold kOf
  by_cases h1 : b = plainT
  · subst h1; exact ⟨by rw [show plainT = title 1 from rfl, pre_title (.inl rfl)]; rfl, fun _ => by rw [show plainT = title 1 from rfl, pre_title (.inl rfl)]⟩
  rw [if_neg h1]
  by_cases h2 : b = casedT
  · subst h2; exact ⟨by rw [show casedT = title 2 from rfl, pre_title (.inr (.inl rfl))]; rfl, fun _ => by rw [show casedT = title 2 from rfl, pre_title (.inr (.inl rfl))]⟩
  rw [if_neg h2]
  by_cases h3 : b = abjadT
  · subst h3; exact ⟨by rw [show abjadT = title 3 from rfl, pre_title (.inr (.inr (.inl rfl)))]; rfl, fun _ => by rw [show abjadT = title 3 from rfl, pre_title (.inr (.inr (.inl rfl)))]⟩
  rw [if_neg h3]
  by_cases h4 : b = syllabT
  · subst h4; exact ⟨by rw [show syllabT = title 4 from rfl, pre_title (.inr (.inr (.inr rfl)))]; rfl, fun _ => by rw [show syllabT = title 4 from rfl, pre_title (.inr (.inr (.inr rfl)))]⟩
  rw [if_neg h4]
  refine ⟨?_, fun h => absurd rfl h⟩
  refine Classical.byContradiction fun h0 => ?_
  obtain ⟨s, hs, -, hk⟩ := pre_is h0
  have hb := (app_colon h (no_colon _) hs).1
  rcases hk with hk | hk | hk | hk <;> rw [hk] at hb
  · exact h1 hb
  · exact h2 hb
  · exact h3 hb
  · exact h4 hb
end
end Go.CH.Scr
namespace Go.CH.Scr
section
variable {k : Int} {l : Bs}
/-- While less than all has been eaten and a letter comes, it is the next one. -/
theorem eat_more {i : Nat} (hi : i ≤ (ltrs k l).1.length) (h : len1 k (l.drop (eat k l i)) ≠ 0) : i < (ltrs k l).1.length := by
  refine Classical.byContradiction fun hn => ?_
  have e : i = (ltrs k l).1.length := by omega
  rw [e] at h
  exact h eat_stop
theorem eat_at {i : Nat} (hi : i < (ltrs k l).1.length) : (ltrs k l).1[i] = (l.drop (eat k l i)).take (len1 k (l.drop (eat k l i))) := by
  have h := (eat_ltrs (k := k) (l := l) i (by omega)).1
  have hd : (ltrs k l).1.drop i = (ltrs k l).1[i] :: (ltrs k l).1.drop (i + 1) := List.drop_eq_getElem_cons (by omega)
  rw [ltrs_step (eat_next hi), hd] at h
  have h1 := congrArg Prod.fst h
  simp only [List.cons.injEq] at h1
  exact h1.1.symm
/-- No letter comes, and something is left: no word. -/
theorem eat_bad {i : Nat} (hi : i ≤ (ltrs k l).1.length) (hl : eat k l i < l.length) (h : len1 k (l.drop (eat k l i)) = 0) : (ltrs k l).2 ≠ [] := by
  have h1 := (eat_ltrs (k := k) (l := l) i hi).1
  rw [ltrs_stop h] at h1
  have h2 : l.drop (eat k l i) = (ltrs k l).2 := congrArg Prod.snd h1
  rw [← h2]
  intro h3
  have := congrArg List.length h3
  rw [List.length_drop] at this
  simp at this
  omega
/-- All has been eaten. -/
theorem eat_all {i : Nat} (hi : i ≤ (ltrs k l).1.length) (hl : eat k l i = l.length) : i = (ltrs k l).1.length ∧ (ltrs k l).2 = [] := by
  have h1 := (eat_ltrs (k := k) (l := l) i hi).1
  rw [hl, List.drop_length, ltrs_stop rfl] at h1
  have h2 : [] = (ltrs k l).1.drop i := congrArg Prod.fst h1
  have h3 : [] = (ltrs k l).2 := congrArg Prod.snd h1
  have := congrArg List.length h2
  rw [List.length_drop] at this
  simp at this
  exact ⟨by omega, h3.symm⟩
end
end Go.CH.Scr
namespace Go.Proofs.YtnppgomhhcbplaaGreatDoor
open Go.RowKit Go.CH Go.CH.Scr
open Go.ChangeMaps (setBlock)
theorem app_strL {F0 : Nat → Prop} {w0 W : World} {Y : CH.Own} {ops : Array Oper} {rest : List Oper} {o : Oper} {a : Act} {Q : Exit → Act → World → Prop} (hgd : o.guard = none) (s x : Operand)
    (ho : o.op = .call { callee := .builtin .append, args := #[s, x], argTypes := #[59, 59] }) {A : Option Addr} {c n : Nat} {l : List Bs} {i : ByteArray} (hl : l.length = n) (hsv : a.eval s = .slice A n c) (hx : a.eval x = .slice (some ⟨W.heap.size, 0, none⟩) 1 1) (hn : n ≤ 1000000) (hY : Y.Ok)
    (h : Run F0 w0 (star (StrO A c l) Y) W)
    (hK : ∀ A' c' w', Run F0 w0 (star (StrO A' c' (l ++ [bl i])) Y) w' → wpList Tryz.prog ops Q rest (a.put o.dst (.slice A' (n + 1) c')) w') : wpList Tryz.prog ops Q (o :: rest) a (W.alloc (.cells #[.string i] 9)) := by
  subst hl
  obtain ⟨F7, hR7, -, bk7⟩ := (h.below (star_ok str_ok hY) ((Below.refl _ _).alloc (Nat.le_refl _) (.cells #[.string i] 9))).take str_ok hY
  refine wpList_appX hgd s x ho strsOk _ 0 (v := .slice A l.length c) (n := l.length) (xs := strB l) hsv hR7.1 (A := some ⟨W.heap.size, 0, none⟩) (m := 1) (c := 1) (news := [.string i]) hx (src_lit1 W _ 9 rfl) (by unfold maxLen; omega) (by omega) (Nat.zero_le _) ?_
  intro v8 w8 ho8 hg8 hv8
  have S8 := bk7 _ _ (row_app hR7 ho8 hg8 hv8)
  obtain ⟨A8, c8, rfl⟩ := own_form ho8
  rw [show Value.string i = .string (bs (bl i)) by rw [bs_bl], str_snoc] at S8
  exact hK A8 c8 w8 S8
set_option maxHeartbeats 1600000 in
theorem rLetters_any (k : Int) (s : ByteArray) (w : World) (hs : s.size ≤ 1000000) :
    Calls Tryz.prog 53 #[.int .i64 k, .string s] w (LtrsRet w k (bl s)) := by
  obtain ⟨xs, hxs⟩ : ∃ xs, xs = (ltrs k (bl s)).1 := ⟨_, rfl⟩
  have HX := hide hxs
  have S0 := hide (((Run.begin w).fresh emp_ok (⟨fun _ => False, str_nil w, Mod.refl _ _, fun i hi => .inl hi⟩ : Post w (fun _ => False) (StrO none 0 []) w)))
  clear hxs
  go_enter Tryz.func53, Tryz.ntmps53
  go_wp2
  go_loopw [6, 7] (fun v p wr => ∃ (j : Nat) (A : Option Addr) (c : Nat), j ≤ 12 ∧ j ≤ xs.length ∧ v = .slice A j c ∧ p = .int .i64 (eat k (bl s) j : Nat) ∧ Run (fun _ => False) w (star (StrO A c (xs.take j)) emp) wr)
    (fun _ p _ => s.size - (intOf p).toNat)
  case atStart => exact ⟨0, none, 0, Nat.zero_le _, Nat.zero_le _, rfl, rfl, by rw [List.take_zero]; exact S0.out⟩
  case round =>
    obtain ⟨j, A, c, hj, hjx, rfl, rfl, hR⟩ := hrel
    have HR := hide hR
    clear hR S0
    have hej := (eat_ltrs (k := k) (l := bl s) j (by rw [← HX.out]; exact hjx)).2
    rw [bl_len] at hej
    by_cases hlt : (eat k (bl s) j : Int) < (s.size : Int)
    · have KL := hide (rlength_any k s (eat k (bl s) j) wr hs (by omega))
      by_cases hz : len1 k ((bl s).drop (eat k (bl s) j)) = 0
      · have HN := hide (show lettersN k (bl s) = ([], 1) from no_word (fun h => eat_bad (by rw [← HX.out]; exact hjx) (by rw [bl_len]; omega) hz h.1))
        rw [hz] at KL
        clear hz
        generalize eat k (bl s) j = pos at *
        go_wp2_with fail
        refine KL.out.mono ?_
        rintro e9 w9 ⟨rfl, hb⟩
        have HM := hide ((HR.out.below (star_ok str_ok emp_ok) hb).mod)
        clear KL hb
        go_wp2
        refine bodyPost_ret (results_tmp2 rfl _ _ _) rfl ?_
        exact ltrs_err HN.out HM.out
      · have hjx2 : j < (ltrs k (bl s)).1.length := eat_more (by rw [← HX.out]; exact hjx) hz
        by_cases h12 : j = 12
        · have HN := hide (show lettersN k (bl s) = ([], 1) from no_word (by omega))
          have hnz : ((len1 k ((bl s).drop (eat k (bl s) j)) : Nat) : Int) ≠ 0 := by omega
          have tnz : (((len1 k ((bl s).drop (eat k (bl s) j)) : Nat) : Int) == 0) = false := by simpa using hnz
          subst h12
          clear hz hnz hjx2
          generalize len1 k ((bl s).drop (eat k (bl s) 12)) = n1 at *
          generalize eat k (bl s) 12 = pos at *
          go_wp2_with fail
          refine KL.out.mono ?_
          rintro e9 w9 ⟨rfl, hb⟩
          have HM := hide ((HR.out.below (star_ok str_ok emp_ok) hb).mod)
          clear KL hb
          go_wp2
          refine bodyPost_ret (results_tmp2 rfl _ _ _) rfl ?_
          exact ltrs_err HN.out HM.out
        · have tnz : (((len1 k ((bl s).drop (eat k (bl s) j)) : Nat) : Int) == 0) = false := by simpa using hz
          have t12 : ((j : Int) == 12) = false := by simp; omega
          have hle := len1_le (k := k) (l := (bl s).drop (eat k (bl s) j))
          rw [List.length_drop, bl_len] at hle
          have HNX := hide (show xs.take j ++ [bl (s.extract (eat k (bl s) j) (eat k (bl s) j + len1 k ((bl s).drop (eat k (bl s) j))))] = xs.take (j + 1) by
            have hj3 : j < xs.length := by rw [HX.out]; exact hjx2
            rw [List.take_succ_eq_append_getElem hj3, bl_extract]
            have e1 := eat_at hjx2
            have e2 : xs[j] = (ltrs k (bl s)).1[j] := by simp only [HX.out]
            rw [e2, e1, List.take_drop])
          have HEN := hide (show eat k (bl s) (j + 1) = eat k (bl s) j + len1 k ((bl s).drop (eat k (bl s) j)) from rfl)
          have hpos : 0 < len1 k ((bl s).drop (eat k (bl s) j)) := by omega
          have hj2 : (xs.take j).length = j := by rw [List.length_take]; omega
          have HJ2 := hide hj2
          have HJX := hide (show j + 1 ≤ xs.length by rw [HX.out]; exact hjx2)
          clear hz hjx2 hj2 hjx
          generalize len1 k ((bl s).drop (eat k (bl s) j)) = n1 at *
          generalize eat k (bl s) j = pos at *
          go_wp2_with fail
          refine KL.out.mono ?_
          rintro e9 w9 ⟨rfl, hb⟩
          have HR2 := hide (HR.out.below (star_ok str_ok emp_ok) hb)
          clear KL hb HR
          go_wp2_with (at_builtin; refine held ?_)
          refine Held.mk (app_strL rfl (.tmp 24) (.tmp 31) rfl HJ2.out rfl rfl (by omega) emp_ok HR2.out ?_)
          intro A' c' w2 hw2
          rw [HNX.out] at hw2
          have HW2 := hide hw2
          clear hw2 HR2 HNX
          go_wp2
          go_roundw
          case rel => exact ⟨j + 1, A', c', by omega, HJX.out, by go_num, by rw [HEN.out]; go_num, HW2.out⟩
          case measure => simp [intOf]; omega
    · obtain ⟨ej, er⟩ := eat_all (k := k) (l := bl s) (by rw [← HX.out]; exact hjx) (by rw [bl_len]; omega)
      by_cases h0 : j = 0
      · have HN := hide (show lettersN k (bl s) = ([], 1) from no_word (by omega))
        have HM := hide HR.out.mod
        subst h0
        clear ej er
        generalize eat k (bl s) 0 = pos at *
        go_wp2
        refine bodyPost_ret (results_tmp2 rfl _ _ _) rfl ?_
        exact ltrs_err HN.out HM.out
      · have HN := hide (show lettersN k (bl s) = ((ltrs k (bl s)).1, 0) from is_word ⟨er, by omega, by omega⟩)
        have hr2 := HR.out
        rw [HX.out, ej, List.take_length] at hr2
        have HF := hide (ltrs_okR HN.out hr2)
        rw [← ej] at HF
        have h0' : ((j : Int) == 0) = false := by simp; omega
        clear ej er hr2
        generalize eat k (bl s) j = pos at *
        go_wp2
        refine bodyPost_ret (results_tmp2 rfl _ _ _) rfl ?_
        exact HF.out
end Go.Proofs.YtnppgomhhcbplaaGreatDoor
namespace Go.Proofs.YtnppgomhhcbplaaGreatDoor
open Go.RowKit Go.CH Go.CH.Scr
open Go.ChangeMaps (setBlock)
theorem rLetters_b (k : Int) (s : ByteArray) (w : World) (hs : s.size ≤ 1000000) : Calls Tryz.prog 53 #[.int .i64 k, .string s] w (LtrsB w k (bl s)) := by
  refine (rLetters_any k s w hs).mono ?_
  rintro e w' ⟨A, c, rfl, F, h1, h2, h3⟩
  exact ⟨A, c, rfl, h2.below (fun _ _ h => h), vst_of h1⟩
theorem rWord_any (k : Int) (s : ByteArray) (w : World) (hs : s.size ≤ 1000000) : Calls Tryz.prog 89 #[.int .i64 k, .string s] w (BelowRet w (.bool (word k (bl s)))) := by
  have HL := hide (rLetters_b k s w hs)
  cases hw : word k (bl s) with
  | true =>
    have e1 : lettersN k (bl s) = ((ltrs k (bl s)).1, 0) := by unfold lettersN; rw [if_pos hw]
    unfold LtrsB at HL
    simp only [e1] at HL
    clear e1 hw
    go_enter Tryz.func89, Tryz.ntmps89
    go_wp2_with fail
    refine HL.out.mono ?_
    rintro e9 w1 ⟨A, c, rfl, hb, -⟩
    have HB := hide hb
    clear hb HL
    dsimp only
    go_wp2
    go_ret
    exact bel_bool rfl HB.out
  | false =>
    have e1 : lettersN k (bl s) = ([], 1) := by unfold lettersN; rw [if_neg (by rw [hw]; decide)]
    unfold LtrsB at HL
    simp only [e1] at HL
    clear e1 hw
    go_enter Tryz.func89, Tryz.ntmps89
    go_wp2_with fail
    refine HL.out.mono ?_
    rintro e9 w1 ⟨A, c, rfl, hb, -⟩
    have HB := hide hb
    clear hb HL
    dsimp only
    go_wp2
    go_ret
    exact bel_bool rfl HB.out
end Go.Proofs.YtnppgomhhcbplaaGreatDoor
