/-
  Licence: Split.
  TopReplicas: the state of the law's walk: the escrow, the book, the list of what was spent.
  TopReplicas: the example at its head.
  A region that draws its order, walked once in the order of the text: operations that only read under a condition S on the world, and operations that change the world, which wait for one another.
-/
import Derived.Test.YtapabbpdfplpoaaMT12
import Derived.Test.YtapabbpdfplpoaaMT4
import Derived.Test.YtapabbpdfplpoaaMT9
import Derived.Test.YtapabbpdfplpoaaMT2
import Derived.WalkKit
import Derived.Orders
import Derived.OrdersHeld
import Derived.Deep.Draws
import Derived.Deep.RegionHeld3
set_option linter.unusedSimpArgs false
set_option linter.unusedVariables false
namespace Go.Proofs.Ytapabbpdfplpoaa
open Go.RowKit Go.CH Go.CH.Lic
open Go.ChangeMaps (setBlock)

theorem licAt_of' {s : BkP} {w : World} {F : Nat → Prop} {p : Nat} (h : BkS p s w F) {i : Nat} (hi : i < s.zs.length) (l' : LicM) (h0 : l'.id.size ≤ maxLen) (h1 : l'.ms = s.zs[i].g.l.ms) (h2 : l'.ps = s.zs[i].g.l.ps)
    (n1 : l'.ms.length ≤ 12) (n2 : l'.ps.length ≤ 60) (n3 : names l'.ms = true) (n4 : names l'.ps = true) : LicAt w l' s.zs[i].A s.zs[i].c s.zs[i].B s.zs[i].d := by
  have hR := h.read
  have hm := List.getElem_mem hi
  obtain ⟨a, c⟩ := hR.gs _ hm
  obtain ⟨F1, F2, -, ⟨F3, F4, h6, -⟩, -⟩ := h
  obtain ⟨F5, F6, -, h7, -⟩ := h6
  obtain ⟨F', g1, g2, -, ⟨g3, g4, ra, rb, -⟩, -⟩ := big_mem gow h7 _ hm
  refine ⟨⟨h0, by rw [h1]; exact a, by rw [h2]; exact c, fun x hx => ?_, fun x hx => ?_, by omega, by omega⟩, fun e => ?_, fun e => ?_⟩
  · have := names_size n3 x hx; unfold maxLen; omega
  · have := names_size n4 x hx; unfold maxLen; omega
  · have := row_cap ra.1
    have h0 := this.2 e
    exact ⟨h0, by rw [h1]; omega⟩
  · have := row_cap rb.1
    have h0 := this.2 e
    exact ⟨h0, by rw [h2]; omega⟩
def cutL (l : LicM) (q u : Int) : LicM := { l with q := l.q - q, u := l.u - u }

set_option maxRecDepth 100000 in
set_option maxHeartbeats 3200000 in
theorem split_any {w : World} {F : Nat → Prop} {b : BkM} {p : Nat} (h : BkO b p w F) (hI : Inv b) (id into : ByteArray) (q u : Int) (hs : into.size ≤ maxLen) :
    Calls Try.prog 56 #[gptr p, .string id, .string into, .int .i64 q, .int .i64 u] w (BPost w F (.int .i64 (splitR b id into q u).1) (splitR b id into q u).2 p) := by
  have H := hide h
  have fd0 := fld0
  have fd1 := fld1
  obtain ⟨s, hz, hS⟩ := h
  have hR := hS.read
  have KN := hide (isName_any into w hs)
  have KF := hide (find_any hR id)
  cases hf : findG b id with
  | none =>
    rw [bk_find0 hz hf] at KF
    have e : splitR b id into q u = (11, b) := by unfold splitR; rw [hf]
    rw [e]
    clear hz hS hR hI e hf
    unfold gptr at *
    go_enter Try.func56, Try.ntmps56
    go_wp2_with fail
    refine KF.out.mono ?_
    rintro e w' ⟨rfl, rfl⟩
    go_wp2
    go_ret
    exact BPost.quiet H.out _
  | some i =>
  obtain ⟨hi, h1, h2⟩ := bk_find hz hf
  rw [h1] at KF
  have hi2 : i < b.gs.length := (findG_some hf).1
  have zmem : s.zs[i] ∈ s.zs := List.getElem_mem hi
  have g9 : w.cell? ⟨s.zs[i].p, 9, none⟩ = some (.int .i64 (gat b i).e) := by rw [← h2]; exact hR.gr _ zmem 9 _ rfl
  by_cases he : 0 ≤ (gat b i).e
  · have e : splitR b id into q u = (12, b) := by unfold splitR; rw [hf]; simp [he]
    rw [e]
    clear hz hS hR hI e hf h1 h2 hi2 zmem
    generalize s.zs[i].p = gp at *
    generalize (gat b i).e = ge at *
    unfold gptr at *
    go_enter Try.func56, Try.ntmps56
    go_wp2_with fail
    refine KF.out.mono ?_
    rintro e w' ⟨rfl, rfl⟩
    go_wp2
    go_ret
    exact BPost.quiet H.out _
  have hb0 : (gat b i).e < 0 := by omega
  cases t1 : isName into with
  | false =>
    rw [t1] at KN
    have e : splitR b id into q u = (1, b) := by unfold splitR; rw [hf]; simp [he, t1]
    rw [e]
    clear hz hS hR hI e hf h1 h2 hi2 zmem t1
    generalize s.zs[i].p = gp at *
    generalize (gat b i).e = ge at *
    unfold gptr at *
    go_enter Try.func56, Try.ntmps56
    go_wp2_with fail
    refine KF.out.mono ?_
    rintro e w' ⟨rfl, rfl⟩
    go_wp2_with fail
    refine KN.out.mono ?_
    rintro e w' ⟨rfl, rfl⟩
    go_wp2
    go_ret
    exact BPost.quiet H.out _
  | true =>
  rw [t1] at KN
  by_cases hq : q < 0
  · have e : splitR b id into q u = (1, b) := by unfold splitR; rw [hf]; simp [he, t1, hq]
    rw [e]
    clear hz hS hR hI e hf h1 h2 hi2 zmem t1
    generalize s.zs[i].p = gp at *
    generalize (gat b i).e = ge at *
    unfold gptr at *
    go_enter Try.func56, Try.ntmps56
    go_wp2_with fail
    refine KF.out.mono ?_
    rintro e w' ⟨rfl, rfl⟩
    go_wp2_with fail
    refine KN.out.mono ?_
    rintro e w' ⟨rfl, rfl⟩
    go_wp2
    go_ret
    exact BPost.quiet H.out _
  by_cases hu : u < 0
  · have e : splitR b id into q u = (1, b) := by unfold splitR; rw [hf]; simp [he, t1, hq, hu]
    rw [e]
    clear hz hS hR hI e hf h1 h2 hi2 zmem t1
    generalize s.zs[i].p = gp at *
    generalize (gat b i).e = ge at *
    unfold gptr at *
    go_enter Try.func56, Try.ntmps56
    go_wp2_with fail
    refine KF.out.mono ?_
    rintro e w' ⟨rfl, rfl⟩
    go_wp2_with fail
    refine KN.out.mono ?_
    rintro e w' ⟨rfl, rfl⟩
    go_wp2
    go_ret
    exact BPost.quiet H.out _
  have c0 := hR.c0
  have c1 := hR.c1
  have lk := hR.lookI into
  cases hk : findG b into with
  | some j =>
    obtain ⟨hj, k1, k2⟩ := bk_find hz hk
    rw [k1] at lk
    have e : splitR b id into q u = (9, b) := by unfold splitR; rw [hf]; simp [he, t1, hq, hu, hk]
    rw [e]
    clear hz hS hR hI e hf h1 h2 hi2 zmem t1 hk k1 k2
    generalize s.zs[j].p = tp at *
    generalize s.zs[i].p = gp at *
    generalize (gat b i).e = ge at *
    unfold gptr at *
    go_enter Try.func56, Try.ntmps56
    go_wp2_with fail
    refine KF.out.mono ?_
    rintro e w' ⟨rfl, rfl⟩
    go_wp2_with fail
    refine KN.out.mono ?_
    rintro e w' ⟨rfl, rfl⟩
    go_wp2
    go_ret
    exact BPost.quiet H.out _
  | none =>
  have hnew := findG_none hk
  rw [bk_find0 hz hk] at lk
  have hzl := zs_len hz
  by_cases hfull : 100 ≤ s.zs.length
  · have e : splitR b id into q u = (28, b) := by unfold splitR; rw [hf]; simp [he, t1, hq, hu, hk, show 100 ≤ b.gs.length by omega]
    rw [e]
    clear hz hS hR hI e hf h1 h2 hi2 zmem t1 hk hnew hzl
    generalize s.zs[i].p = gp at *
    generalize (gat b i).e = ge at *
    unfold gptr at *
    go_enter Try.func56, Try.ntmps56
    go_wp2_with fail
    refine KF.out.mono ?_
    rintro e w' ⟨rfl, rfl⟩
    go_wp2_with fail
    refine KN.out.mono ?_
    rintro e w' ⟨rfl, rfl⟩
    go_wp2
    go_ret
    exact BPost.quiet H.out _
  have hg := hI.g _ (gat_mem hi2)
  have hn := valid_num hg.1
  have g3 : w.cell? ⟨s.zs[i].p, 3, none⟩ = some (.int .i64 (gat b i).l.q) := by rw [← h2]; exact hR.gr _ zmem 3 _ rfl
  have g4 : w.cell? ⟨s.zs[i].p, 4, none⟩ = some (.int .i64 (gat b i).l.u) := by rw [← h2]; exact hR.gr _ zmem 4 _ rfl
  have g7 : w.cell? ⟨s.zs[i].p, 7, none⟩ = some (.int .i64 (gat b i).su) := by rw [← h2]; exact hR.gr _ zmem 7 _ rfl
  have g8 : w.cell? ⟨s.zs[i].p, 8, none⟩ = some (.int .i64 (gat b i).sn) := by rw [← h2]; exact hR.gr _ zmem 8 _ rfl
  have KL := hide (fun W (hb : Below w.heap.size w W) => left_any (((Run.begin w).below emp_ok hb).cell g3 (fun h => h)) (((Run.begin w).below emp_ok hb).cell g4 (fun h => h)) (((Run.begin w).below emp_ok hb).cell g7 (fun h => h)) (((Run.begin w).below emp_ok hb).cell g8 (fun h => h)) (by omega) (by omega))
  clear g7 g8
  by_cases hm : (gat b i).l.q - (gat b i).su < q
  · have e : splitR b id into q u = (19, b) := by unfold splitR; rw [hf]; simp [he, t1, hq, hu, hk, show ¬ 100 ≤ b.gs.length by omega, hm]
    rw [e]
    clear hz hS hR hI e hf h1 h2 hi2 zmem t1 hk hnew hzl hg hn
    clear g3 g4
    generalize (gat b i).l.q - (gat b i).su = lq at *
    generalize (gat b i).l.u - (gat b i).sn = lu at *
    generalize s.zs[i].p = gp at *
    generalize (gat b i).e = ge at *
    unfold gptr at *
    go_enter Try.func56, Try.ntmps56
    go_wp2_with fail
    refine KF.out.mono ?_
    rintro e w' ⟨rfl, rfl⟩
    go_wp2_with fail
    refine KN.out.mono ?_
    rintro e w' ⟨rfl, rfl⟩
    go_wp2_with fail
    refine (KL.out _ (Below.refl _ _)).mono ?_
    rintro e w1 ⟨rfl, hb1⟩
    have HB1 := hide hb1
    clear hb1
    go_wp2
    go_ret
    exact BPost.below H.out _ HB1.out
  by_cases hm2 : (gat b i).l.u - (gat b i).sn < u
  · have e : splitR b id into q u = (19, b) := by unfold splitR; rw [hf]; simp [he, t1, hq, hu, hk, show ¬ 100 ≤ b.gs.length by omega, hm2]
    rw [e]
    clear hz hS hR hI e hf h1 h2 hi2 zmem t1 hk hnew hzl hg hn
    clear g3 g4
    generalize (gat b i).l.q - (gat b i).su = lq at *
    generalize (gat b i).l.u - (gat b i).sn = lu at *
    generalize s.zs[i].p = gp at *
    generalize (gat b i).e = ge at *
    unfold gptr at *
    go_enter Try.func56, Try.ntmps56
    go_wp2_with fail
    refine KF.out.mono ?_
    rintro e w' ⟨rfl, rfl⟩
    go_wp2_with fail
    refine KN.out.mono ?_
    rintro e w' ⟨rfl, rfl⟩
    go_wp2_with fail
    refine (KL.out _ (Below.refl _ _)).mono ?_
    rintro e w1 ⟨rfl, hb1⟩
    have HB1 := hide hb1
    clear hb1
    go_wp2_with fail
    refine (KL.out _ HB1.out).mono ?_
    rintro e w2 ⟨rfl, hb2⟩
    have HB2 := hide (HB1.out.trans (hb2.mono HB1.out.size))
    clear hb2
    go_wp2
    go_ret
    exact BPost.below H.out _ HB2.out
  have e : splitR b id into q u = (0, addM (putG b i { gat b i with l := cutL (gat b i).l q u }) (splitL (gat b i).l into q u)) := by unfold splitR; rw [hf]; simp [he, t1, hq, hu, hk, show ¬ 100 ≤ b.gs.length by omega, hm, hm2]; rfl
  rw [e]
  have HS := hide hS
  have HZ := hide hz
  have H2 := hide h2
  have HI2 := hide hi2
  have HNEW := hide hnew
  have HZL := hide hzl
  have HFULL := hide hfull
  have HVL := hide (valid_lists hg.1)
  have HSZ := hide hs
  have HQ := hide (show -9223372036854775808 ≤ (gat b i).l.q - q ∧ (gat b i).l.q - q ≤ 9223372036854775807 by omega)
  have HU := hide (show -9223372036854775808 ≤ (gat b i).l.u - u ∧ (gat b i).l.u - u ≤ 9223372036854775807 by omega)
  obtain ⟨lq, hlq⟩ : ∃ x, x = (gat b i).l.q - (gat b i).su := ⟨_, rfl⟩
  obtain ⟨lu, hlu⟩ : ∃ x, x = (gat b i).l.u - (gat b i).sn := ⟨_, rfl⟩
  rw [← hlq] at hm KL; rw [← hlu] at hm2 KL
  clear hlq hlu g3 g4
  clear hz hS hR hI e hf h1 h2 hi2 zmem t1 hk hnew hzl hg hn
  unfold gptr at *
  go_enter Try.func56, Try.ntmps56
  go_wp2_with fail
  refine KF.out.mono ?_
  rintro e w' ⟨rfl, rfl⟩
  go_wp2_with fail
  refine KN.out.mono ?_
  rintro e w' ⟨rfl, rfl⟩
  go_wp2_with fail
  refine (KL.out _ (Below.refl _ _)).mono ?_
  rintro e w1 ⟨rfl, hb1⟩
  have HB1 := hide hb1
  clear hb1
  go_wp2_with fail
  refine (KL.out _ HB1.out).mono ?_
  rintro e w2 ⟨rfl, hb2⟩
  have HB2 := hide (HB1.out.trans (hb2.mono HB1.out.size))
  clear hb2
  have R2 := hide ((Run.start HS.out).below bkS_ok HB2.out)
  have BB := bk_read R2.out
  have zm : s.zs[i] ∈ s.zs := List.getElem_mem hi
  have y0 : w2.cell? ⟨s.zs[i].p, 0, none⟩ = some (.string (gat b i).l.id) := by rw [← H2.out]; exact BB.gr _ zm 0 _ rfl
  have y1 : w2.cell? ⟨s.zs[i].p, 1, none⟩ = some (.slice s.zs[i].A (gat b i).l.ms.length s.zs[i].c) := by rw [← H2.out]; exact BB.gr _ zm 1 _ rfl
  have y2 : w2.cell? ⟨s.zs[i].p, 2, none⟩ = some (.slice s.zs[i].B (gat b i).l.ps.length s.zs[i].d) := by rw [← H2.out]; exact BB.gr _ zm 2 _ rfl
  have y3 : w2.cell? ⟨s.zs[i].p, 3, none⟩ = some (.int .i64 (gat b i).l.q) := by rw [← H2.out]; exact BB.gr _ zm 3 _ rfl
  have y4 : w2.cell? ⟨s.zs[i].p, 4, none⟩ = some (.int .i64 (gat b i).l.u) := by rw [← H2.out]; exact BB.gr _ zm 4 _ rfl
  have y5 : w2.cell? ⟨s.zs[i].p, 5, none⟩ = some (.int .i64 (gat b i).l.f) := by rw [← H2.out]; exact BB.gr _ zm 5 _ rfl
  have y6 : w2.cell? ⟨s.zs[i].p, 6, none⟩ = some (.int .i64 (gat b i).l.t) := by rw [← H2.out]; exact BB.gr _ zm 6 _ rfl
  have f3 := BB.gf _ zm 3
  have f4 := BB.gf _ zm 4
  have hlg : s.zs[i].p < w2.heap.size := World.block_lt_of_cell? _ _ y0
  clear BB zm c0 c1 lk g9
  have E1 := hide (show IntKind.i64.wrap ((gat b i).l.q - q) = (gat b i).l.q - q from IntWalk.i64_in _ HQ.out)
  have E2 := hide (show IntKind.i64.wrap ((gat b i).l.u - u) = (gat b i).l.u - u from IntWalk.i64_in _ HU.out)
  have RR : Hid (Run F w (BkS p (setG s i hi { gat b i with l := cutL (gat b i).l q u })) ((((w2.setCell ⟨s.zs[i].p, 3, none⟩ (.int .i64 ((gat b i).l.q - q))).setCell ⟨s.zs[i].p, 4, none⟩ (.int .i64 ((gat b i).l.u - u))).alloc (.cells #[.string into, .slice s.zs[i].A (gat b i).l.ms.length s.zs[i].c, .slice s.zs[i].B (gat b i).l.ps.length s.zs[i].d, .int .i64 q, .int .i64 u, .int .i64 (gat b i).l.f, .int .i64 (gat b i).l.t] 56)).drew)) := hide (by
    obtain ⟨G, hC, bk⟩ := bk_updG R2.out hi { gat b i with l := cutL (gat b i).l q u } (by rw [H2.out]; rfl) (by rw [H2.out]; rfl) (by rw [H2.out]; rfl)
    have hP := cell_set2 hC 3 4 (.int .i64 ((gat b i).l.q - q)) (.int .i64 ((gat b i).l.u - u))
    have hCC : ((gcell s.zs[i]).setIfInBounds 3 (.int .i64 ((gat b i).l.q - q))).setIfInBounds 4 (.int .i64 ((gat b i).l.u - u)) = gcell { s.zs[i] with g := { gat b i with l := cutL (gat b i).l q u } } := by
      unfold gcell; rw [H2.out]; rfl
    rw [hCC] at hP
    exact ((bk _ hP).below bkS_ok ((Below.refl _ _).alloc (Nat.le_refl _) _)).drew bkS_ok)
  have HZ1 := hide (bkZ_setG HZ.out hi { gat b i with l := cutL (gat b i).l q u })
  go_wp2_with fail
  refine wp_region_lew [19, 23] [0, 1, 0, 0, 0, 0, 0, 0, 0, 0, 0, 0, 0, 0, 1, 1, 0, 0, 0, 1, 1, 1, 1, 2] (fun w' => w'.cell? ⟨s.zs[i].p, 3, none⟩ = some (.int .i64 (gat b i).l.q) ∧ w'.cell? ⟨s.zs[i].p, 4, none⟩ = some (.int .i64 (gat b i).l.u)) (fun _ => True) (fun _ => True) (fun _ => True) (fun _ _ => trivial) (fun _ h => h) (fun _ h => h) (by kernel_rfl) (by kernel_rfl) (by kernel_rfl) (by kernel_rfl) (by exact ⟨cell_ad y3 _, cell_ad y4 _⟩) ?_
  (repeat (first | (refine lew_skip (by rfl) (by rfl) ?_; try simp only [Act.put, List.setIfInBounds_toArray, List.set_cons_zero, List.set_cons_succ]) | (refine lew_read0 (v := ?_) (by rfl) (by rfl) ?_ ?_; rotate_left; (focus (intro w' hS'; go_simp; (try with_reducible rfl); done)); try simp only [Act.put, List.setIfInBounds_toArray, List.set_cons_zero, List.set_cons_succ]) | (refine lew_read1 (v := ?_) (by rfl) (by rfl) ?_ ?_; rotate_left; (focus (intro w' hS'; go_simp; (try with_reducible rfl); done)); try simp only [Act.put, List.setIfInBounds_toArray, List.set_cons_zero, List.set_cons_succ]) | (refine lew_read2 (v := ?_) (by rfl) (by rfl) ?_ ?_; rotate_left; (focus (intro w' hS'; go_simp; (try with_reducible rfl); done)); try simp only [Act.put, List.setIfInBounds_toArray, List.set_cons_zero, List.set_cons_succ]) | (refine lew_read3 (v := ?_) (by rfl) (by rfl) ?_ ?_; rotate_left; (focus (intro w' hS'; go_simp; (try with_reducible rfl); done)); try simp only [Act.put, List.setIfInBounds_toArray, List.set_cons_zero, List.set_cons_succ]) | (refine lew_read4 (v := ?_) (by rfl) (by rfl) ?_ ?_; rotate_left; (focus (intro w' hS'; go_simp; (try with_reducible rfl); done)); try simp only [Act.put, List.setIfInBounds_toArray, List.set_cons_zero, List.set_cons_succ])))
  rw [E1.out]
  (repeat (first | (refine lew_skip (by rfl) (by rfl) ?_; try simp only [Act.put, List.setIfInBounds_toArray, List.set_cons_zero, List.set_cons_succ]) | (refine lew_read0 (v := ?_) (by rfl) (by rfl) ?_ ?_; rotate_left; (focus (intro w' hS'; go_simp; (try with_reducible rfl); done)); try simp only [Act.put, List.setIfInBounds_toArray, List.set_cons_zero, List.set_cons_succ]) | (refine lew_read1 (v := ?_) (by rfl) (by rfl) ?_ ?_; rotate_left; (focus (intro w' hS'; go_simp; (try with_reducible rfl); done)); try simp only [Act.put, List.setIfInBounds_toArray, List.set_cons_zero, List.set_cons_succ]) | (refine lew_read2 (v := ?_) (by rfl) (by rfl) ?_ ?_; rotate_left; (focus (intro w' hS'; go_simp; (try with_reducible rfl); done)); try simp only [Act.put, List.setIfInBounds_toArray, List.set_cons_zero, List.set_cons_succ]) | (refine lew_read3 (v := ?_) (by rfl) (by rfl) ?_ ?_; rotate_left; (focus (intro w' hS'; go_simp; (try with_reducible rfl); done)); try simp only [Act.put, List.setIfInBounds_toArray, List.set_cons_zero, List.set_cons_succ]) | (refine lew_read4 (v := ?_) (by rfl) (by rfl) ?_ ?_; rotate_left; (focus (intro w' hS'; go_simp; (try with_reducible rfl); done)); try simp only [Act.put, List.setIfInBounds_toArray, List.set_cons_zero, List.set_cons_succ])))
  rw [E2.out]
  (repeat (first | (refine lew_skip (by rfl) (by rfl) ?_; try simp only [Act.put, List.setIfInBounds_toArray, List.set_cons_zero, List.set_cons_succ]) | (refine lew_read0 (v := ?_) (by rfl) (by rfl) ?_ ?_; rotate_left; (focus (intro w' hS'; go_simp; (try with_reducible rfl); done)); try simp only [Act.put, List.setIfInBounds_toArray, List.set_cons_zero, List.set_cons_succ]) | (refine lew_read1 (v := ?_) (by rfl) (by rfl) ?_ ?_; rotate_left; (focus (intro w' hS'; go_simp; (try with_reducible rfl); done)); try simp only [Act.put, List.setIfInBounds_toArray, List.set_cons_zero, List.set_cons_succ]) | (refine lew_read2 (v := ?_) (by rfl) (by rfl) ?_ ?_; rotate_left; (focus (intro w' hS'; go_simp; (try with_reducible rfl); done)); try simp only [Act.put, List.setIfInBounds_toArray, List.set_cons_zero, List.set_cons_succ]) | (refine lew_read3 (v := ?_) (by rfl) (by rfl) ?_ ?_; rotate_left; (focus (intro w' hS'; go_simp; (try with_reducible rfl); done)); try simp only [Act.put, List.setIfInBounds_toArray, List.set_cons_zero, List.set_cons_succ]) | (refine lew_read4 (v := ?_) (by rfl) (by rfl) ?_ ?_; rotate_left; (focus (intro w' hS'; go_simp; (try with_reducible rfl); done)); try simp only [Act.put, List.setIfInBounds_toArray, List.set_cons_zero, List.set_cons_succ])))
  refine lew_chain1 rfl (by rfl) (fun K hK => ?_)
  go_wp2_with fail
  refine hK.out _ _ trivial ?_
  clear hK
  (repeat (first | (refine lew_skip (by rfl) (by rfl) ?_; try simp only [Act.put, List.setIfInBounds_toArray, List.set_cons_zero, List.set_cons_succ]) | (refine lew_read0 (v := ?_) (by rfl) (by rfl) ?_ ?_; rotate_left; (focus (intro w' hS'; go_simp; (try with_reducible rfl); done)); try simp only [Act.put, List.setIfInBounds_toArray, List.set_cons_zero, List.set_cons_succ]) | (refine lew_read1 (v := ?_) (by rfl) (by rfl) ?_ ?_; rotate_left; (focus (intro w' hS'; go_simp; (try with_reducible rfl); done)); try simp only [Act.put, List.setIfInBounds_toArray, List.set_cons_zero, List.set_cons_succ]) | (refine lew_read2 (v := ?_) (by rfl) (by rfl) ?_ ?_; rotate_left; (focus (intro w' hS'; go_simp; (try with_reducible rfl); done)); try simp only [Act.put, List.setIfInBounds_toArray, List.set_cons_zero, List.set_cons_succ]) | (refine lew_read3 (v := ?_) (by rfl) (by rfl) ?_ ?_; rotate_left; (focus (intro w' hS'; go_simp; (try with_reducible rfl); done)); try simp only [Act.put, List.setIfInBounds_toArray, List.set_cons_zero, List.set_cons_succ]) | (refine lew_read4 (v := ?_) (by rfl) (by rfl) ?_ ?_; rotate_left; (focus (intro w' hS'; go_simp; (try with_reducible rfl); done)); try simp only [Act.put, List.setIfInBounds_toArray, List.set_cons_zero, List.set_cons_succ])))
  refine lew_chain2 rfl (by rfl) (fun K hK => ?_)
  go_wp2_with fail
  refine hK.out _ _ trivial (lew_nil ?_)
  clear hK
  obtain ⟨F5, hS5, back⟩ := RR.out.all bkS_ok
  have HBK := hide back
  have HL5 : Hid (LicAt _ (splitL (gat b i).l into q u) s.zs[i].A s.zs[i].c s.zs[i].B s.zs[i].d) := hide (by
    have h := licAt_of' hS5 (i := i) (by simpa [setG] using hi) (splitL (gat b i).l into q u) HSZ.out (by simp [setG, splitL, cutL]) (by simp [setG, splitL, cutL]) HVL.out.1 HVL.out.2.1 HVL.out.2.2.1 HVL.out.2.2.2.1
    have e : (setG s i hi { gat b i with l := cutL (gat b i).l q u }).zs[i]'(by simpa [setG] using hi) = { s.zs[i] with g := { gat b i with l := cutL (gat b i).l q u } } := by simp [setG]
    rw [e] at h
    exact h)
  have KA := hide (add_any (b := putG b i { gat b i with l := cutL (gat b i).l q u }) ⟨_, HZ1.out, hS5⟩ HL5.out (fun g hg => by
    rcases List.mem_or_eq_of_mem_set hg with hg | rfl
    · exact HNEW.out g hg
    · exact HNEW.out (gat b i) (gat_mem HI2.out)) (by have := HFULL.out; have := HZL.out; simp [putG]; omega))
  clear hS5 back
  unfold gptr licV splitL at KA
  go_wp2_with fail
  refine KA.out.mono ?_
  rintro e w9 ⟨rfl, hp⟩
  have HP := hide ((HBK.out _ _ hp).post bkO_ok)
  clear hp
  go_wp2
  go_ret
  exact ⟨rfl, HP.out⟩
end Go.Proofs.Ytapabbpdfplpoaa
namespace Go.Proofs.Ytapabbpdfplpoaa
open Go.RowKit Go.CH Go.CH.Lic Go.CH.Esc Go.CH.Top
open Go.ChangeMaps (setBlock)

abbrev Sp := ByteArray × Int × Int
def spc (x : Sp) : List Value := [.string x.1, .int .i64 x.2.1, .int .i64 x.2.2]
theorem spc_len (x : Sp) : (spc x).length = 3 := rfl
def spz (sp : List (Int × Int)) : List Sp := (List.range sp.length).map fun i => (keyS i, at2 sp i)
theorem spz_len (sp : List (Int × Int)) : (spz sp).length = sp.length := by simp [spz]
theorem spz_at (sp : List (Int × Int)) {i : Nat} (h : i < sp.length) : (spz sp)[i]'(by rw [spz_len]; exact h) = (keyS i, sp[i]) := by simp [spz, at2_get h]
theorem spz_snoc (sp : List (Int × Int)) (x : Int × Int) : spz (sp ++ [x]) = spz sp ++ [(keyS sp.length, x)] := by
  refine List.ext_getElem (by simp [spz]) fun i h1 h2 => ?_
  rw [spz_len] at h1
  rw [spz_at _ h1]
  by_cases e : i < sp.length
  · rw [List.getElem_append_left e, List.getElem_append_left (by rw [spz_len]; exact e), spz_at _ e]
  · have : i = sp.length := by simp at h1; omega
    subst this
    simp [spz_len]
theorem spz_set (sp : List (Int × Int)) {i : Nat} (h : i < sp.length) (x : Int × Int) : (spz sp).set i (keyS i, x) = spz (sp.set i x) := by
  refine List.ext_getElem (by simp [spz]) fun j h1 h2 => ?_
  have hj : j < sp.length := by rw [spz_len, List.length_set] at h2; exact h2
  rw [List.getElem_set, spz_at _ hj, spz_at _ (by rw [List.length_set]; exact hj), List.getElem_set]
  split
  · rename_i e; subst e; rfl
  · rfl
def SpO (E : Option Addr) (c : Nat) (sp : List (Int × Int)) : Own := RowO 63 3 (.slice E sp.length c) sp.length ((spz sp).flatMap spc)
theorem spO_ok {E : Option Addr} {c : Nat} {sp : List (Int × Int)} : (SpO E c sp).Ok := row_ok
/-- The walk that began in w0 has the escrow g at p, the book b at q, the list sp at E, and Y besides. -/
structure TS (U : Int) (n : Nat) (w0 : World) (Y : Own) (p : Nat) (g : GM) (q : Nat) (b : BkM) (E : Option Addr) (c : Nat) (sp : List (Int × Int)) (W : World) : Prop where
  st : St U n w0 (star (BkO b q) (star (SpO E c sp) Y)) p g W
  inv2 : Inv2 b
  yok : Y.Ok
def TRet (U : Int) (n : Nat) (w0 : World) (Y : Own) (p : Nat) (g : GM) (q : Nat) (b : BkM) (E : Option Addr) (c : Nat) (sp : List (Int × Int)) (v : Value) (e : Ending) (W : World) : Prop := e = .returned v ∧ TS U n w0 Y p g q b E c sp W
section
variable {U : Int} {n : Nat} {w0 : World} {Y : Own} {p : Nat} {g : GM} {q : Nat} {b : BkM} {E : Option Addr} {c : Nat} {sp : List (Int × Int)} {W W' : World}
theorem TS.below (h : TS U n w0 Y p g q b E c sp W) (hb : Below W.heap.size W W') : TS U n w0 Y p g q b E c sp W' := ⟨h.st.below hb, h.inv2, h.yok⟩
theorem TS.up (h : TS U n w0 Y p g q b E c sp W) {m : Nat} (hm : n ≤ m) : TS U m w0 Y p g q b E c sp W := ⟨h.st.up hm, h.inv2, h.yok⟩
theorem ts_of (h : TS U n w0 Y p g q b E c sp W) {m : Nat} {g' : GM} {fn : FuncId} {args : Array Value} {v : Value} (K : Calls Try.prog fn args W (StRet U m w0 (star (BkO b q) (star (SpO E c sp) Y)) p g' v)) : Calls Try.prog fn args W (TRet U m w0 Y p g' q b E c sp v) :=
  K.mono fun _ _ ⟨h1, h2⟩ => ⟨h1, h2, h.inv2, h.yok⟩
theorem TS.bk (h : TS U n w0 Y p g q b E c sp W) : Run (fun _ => False) w0 (star (BkO b q) (star (EscO g p) (star (SpO E c sp) Y))) W := h.st.run.perm (by ac_rfl)
theorem ts_bk (h : TS U n w0 Y p g q b E c sp W) {b' : BkM} (hI : Inv2 b') {fn : FuncId} {args : Array Value} {v : Value} (K : ∀ F, BkO b q W F → Calls Try.prog fn args W (BPost W F v b' q)) : Calls Try.prog fn args W (TRet U n w0 Y p g q b' E c sp v) := by
  obtain ⟨F, hB, -, back⟩ := h.bk.take bkO_ok (star_ok escO_ok (star_ok spO_ok h.yok))
  refine (K F hB).mono ?_
  rintro e w' ⟨rfl, hp⟩
  exact ⟨rfl, ⟨(back _ _ hp).perm (by ac_rfl), h.st.inv, h.st.hb, star_ok bkO_ok (star_ok spO_ok h.yok)⟩, hI, h.yok⟩
theorem ts_left (h : TS U n w0 Y p g q b E c sp W) (id : ByteArray) (a : Int) : Calls Try.prog 43 #[gptr q, .string id, .int .i64 a] W (TRet U n w0 Y p g q b E c sp (leftV (leftR b id a))) := by
  obtain ⟨F, hB⟩ := h.bk.fst
  refine (bookleft_any hB h.inv2.inv id a).mono ?_
  rintro e w' ⟨rfl, hb⟩
  exact ⟨rfl, h.below hb⟩
theorem TS.spR (h : TS U n w0 Y p g q b E c sp W) : ∃ F, SpO E c sp W F := (h.st.run.perm (by ac_rfl : _ = star (SpO E c sp) (star (EscO g p) (star (BkO b q) Y)))).fst
theorem TS.spAt (h : TS U n w0 Y p g q b E c sp W) {i : Nat} (hi : i < sp.length) : ∃ a, E = some ⟨a, 0, none⟩ ∧ W.cell? ⟨a, i * 3, none⟩ = some (.string (keyS i)) ∧ W.cell? ⟨a, i * 3 + 1, none⟩ = some (.int .i64 sp[i].1) ∧ W.cell? ⟨a, i * 3 + 2, none⟩ = some (.int .i64 sp[i].2) ∧ W.frozen? ⟨a, i * 3 + 2, none⟩ = false := by
  obtain ⟨F, hS⟩ := h.spR
  unfold SpO at hS
  obtain ⟨a, rfl⟩ := row_addr hS (by omega)
  have hg := fun j (hj : j < 3) => flat_get spc 3 spc_len (l := spz sp) (k := i) (by rw [spz_len]; exact hi) j hj
  simp only [spz_at sp hi] at hg
  exact ⟨a, rfl, row_cell hS (by have := hg 0 (by omega); simpa [spc] using this), row_cell hS (by have := hg 1 (by omega); simpa [spc] using this), row_cell hS (by have := hg 2 (by omega); simpa [spc] using this), row_free hS _ (by omega)⟩
/-- The units of an entry are written. -/
theorem TS.spSet {a : Nat} (h : TS U n w0 Y p g q b (some ⟨a, 0, none⟩) c sp W) {i : Nat} (hi : i < sp.length) (A v : Int) (hA : sp[i].1 = A) : TS U n w0 Y p g q b (some ⟨a, 0, none⟩) c (sp.set i (A, v)) (W.setCell ⟨a, i * 3 + 2, none⟩ (.int .i64 v)) := by
  obtain ⟨F, hS, -, bk⟩ := (h.st.run.perm (by ac_rfl : _ = star (SpO (some ⟨a, 0, none⟩) c sp) (star (EscO g p) (star (BkO b q) Y)))).take spO_ok (star_ok escO_ok (star_ok bkO_ok h.yok))
  unfold SpO at hS
  have h1 := row_set hS (i := i * 3 + 2) (by omega) (.int .i64 v)
  have h2 := flat_set spc 3 spc_len (l := spz sp) (k := i) (by rw [spz_len]; exact hi) (j := 2) (by omega) (v := .int .i64 v) (x := (keyS i, A, v)) (by rw [spz_at sp hi, ← hA]; rfl)
  rw [h2, spz_set sp hi] at h1
  have h3 := bk (SpO (some ⟨a, 0, none⟩) c (sp.set i (A, v))) _ (by unfold SpO; rw [List.length_set]; exact h1)
  exact ⟨⟨h3.perm (by ac_rfl), h.st.inv, h.st.hb, star_ok bkO_ok (star_ok spO_ok h.yok)⟩, h.inv2, h.yok⟩
theorem TS.box (h : TS U n w0 Y p g q b E c sp W) (cs : Array Value) (t : TypeId) : TS U n w0 (star (CellO W.heap.size cs t) Y) p g q b E c sp (W.alloc (.cells cs t)) := by
  have h1 := h.st.run.fresh (star_ok escO_ok h.st.xo) (cell_new W cs t)
  exact ⟨⟨h1.perm (by ac_rfl), h.st.inv, h.st.hb, star_ok bkO_ok (star_ok spO_ok (star_ok cell_ok h.yok))⟩, h.inv2, star_ok cell_ok h.yok⟩
theorem TS.drop {cs : Array Value} {t : TypeId} {a : Nat} (h : TS U n w0 (star (CellO a cs t) Y) p g q b E c sp W) (hy : Y.Ok) : TS U n w0 Y p g q b E c sp W := by
  have h1 := (h.st.run.perm (by ac_rfl : _ = star (CellO a cs t) (star (EscO g p) (star (BkO b q) (star (SpO E c sp) Y))))).drop
  exact ⟨⟨h1, h.st.inv, h.st.hb, star_ok bkO_ok (star_ok spO_ok hy)⟩, h.inv2, hy⟩
theorem TS.cells {cs : Array Value} {t : TypeId} {a : Nat} (h : TS U n w0 (star (CellO a cs t) Y) p g q b E c sp W) : ∀ i v, cs[i]? = some v → W.cell? ⟨a, i, none⟩ = some v := by
  obtain ⟨F, hC⟩ := (h.st.run.perm (by ac_rfl : _ = star (CellO a cs t) (star (EscO g p) (star (BkO b q) (star (SpO E c sp) Y))))).fst
  exact fun i v hv => cell_at hC hv
theorem TS.bel (h : TS U n w0 Y p g q b E c sp W) : Below w0.heap.size w0 W := h.st.bel
theorem spentsOk : SliceOk Try.prog 57 63 (.agg #[.string ByteArray.empty, .int .i64 0, .int .i64 0]) 3 32 := ⟨Try.underlying57, by kernel_rfl, by decide, by decide⟩
end
end Go.Proofs.Ytapabbpdfplpoaa
namespace Go.Proofs.Ytapabbpdfplpoaa
open Go.RowKit Go.CH Go.CH.Esc
open Go.ChangeMaps (setBlock)

noncomputable def sg0 : GM := newG 2 10
theorem sv0 : giveE sg0 0 1 4 = 0 := by decide +kernel
noncomputable def sg1 : GM := giveM sg0 0 1 4
theorem sv1 : sendE sg1 0 1 = 0 := by decide +kernel
noncomputable def sg2 : GM := sendM sg1 0 1
theorem sv2 : delE sg2 0 1 = true := by decide +kernel
noncomputable def sg3 : GM := delM sg2 0 1 false false
theorem sv3 : spendE sg3 0 6 = 0 := by decide +kernel
noncomputable def sg4 : GM := spendM sg3 0 6
theorem sv4 : spendE sg4 0 1 = 19 := by decide +kernel
noncomputable def sg5 : GM := spendM sg4 0 1
theorem sv5 : spendE sg5 1 4 = 0 := by decide +kernel
noncomputable def sg6 : GM := spendM sg5 1 4
theorem sv6 : spentG sg6 = 10 := by decide +kernel
set_option maxRecDepth 100000 in
set_option maxHeartbeats 4000000 in
theorem shared_any (W : World) : Calls Try.prog 36 #[] W (BelowRet W (.bool true)) := by
  have KN := hide (st_new emp_ok (Run.begin W) 2 10 (by omega) (by omega) (by omega) (by omega))
  go_enter Try.func36, Try.ntmps36
  go_wp2_with fail
  refine KN.out.mono ?_
  rintro e v0 ⟨p, rfl, hS⟩
  have S0 := hide (show St 10 0 W emp p sg0 v0 from hS)
  have K0 := hide (st_give S0.out (by omega) 0 1 4)
  rw [sv0] at K0
  clear hS KN S0
  go_wp2_with fail
  refine K0.out.mono ?_
  rintro e v1 ⟨rfl, hS⟩
  have S1 := hide (show St 10 1 W emp p sg1 v1 from hS)
  have K1 := hide (st_send S1.out (by omega) 0 1)
  rw [sv1] at K1
  clear hS K0 S1
  go_wp2_with fail
  refine K1.out.mono ?_
  rintro e v2 ⟨rfl, hS⟩
  have S2 := hide (show St 10 1 W emp p sg2 v2 from hS)
  have K2 := hide (st_del S2.out (by omega) 0 1 false false)
  rw [sv2] at K2
  clear hS K1 S2
  go_wp2_with fail
  refine K2.out.mono ?_
  rintro e v3 ⟨rfl, hS⟩
  have S3 := hide (show St 10 1 W emp p sg3 v3 from hS)
  have K3 := hide (st_spend S3.out 0 6 (by omega))
  rw [sv3] at K3
  clear hS K2 S3
  go_wp2_with fail
  refine K3.out.mono ?_
  rintro e v4 ⟨rfl, hS⟩
  have S4 := hide (show St 10 1 W emp p sg4 v4 from hS)
  have K4 := hide (st_spend S4.out 0 1 (by omega))
  rw [sv4] at K4
  clear hS K3 S4
  go_wp2_with fail
  refine K4.out.mono ?_
  rintro e v5 ⟨rfl, hS⟩
  have S5 := hide (show St 10 1 W emp p sg5 v5 from hS)
  have K5 := hide (st_spend S5.out 1 4 (by omega))
  rw [sv5] at K5
  clear hS K4 S5
  go_wp2_with fail
  refine K5.out.mono ?_
  rintro e v6 ⟨rfl, hS⟩
  have S6 := hide (show St 10 1 W emp p sg6 v6 from hS)
  have K6 := hide (st_spent S6.out)
  rw [sv6] at K6
  clear hS K5 S6
  go_wp2_with fail
  refine K6.out.mono ?_
  rintro e v7 ⟨rfl, hS⟩
  have HB := hide hS.bel
  clear hS K6
  go_wp2
  go_ret
  exact ⟨rfl, HB.out⟩
end Go.Proofs.Ytapabbpdfplpoaa
namespace Go.CHC
open Go.RowKit

/-- Operations that may change the world. -/
def chainK : Op → Bool
  | .call { callee := .builtin .len, .. } | .call { callee := .builtin .cap, .. } | .call { callee := .builtin .min, .. } | .call { callee := .builtin .max, .. } => false
  | .move _ | .assign _ | .pick .. | .load .. | .nilCheck _ | .binOp .. | .unOp .. | .makeInterface .. | .makeFunc .. | .slice .. | .fieldAddr .. | .field .. | .indexAddr .. | .index .. | .lookup .. | .extract .. | .build .. | .typeAssert .. | .entry _ | .convert .. => false
  | _ => true

section
variable {P : Program} {ops : Array Oper} {S : World → Prop} {Q : Exit → Act → World → Prop}

def NoExit : Exit → Act → World → Prop := fun _ _ _ => False

/-- The walk in the order of a list of indexes. -/
def wpLx (P : Program) (ops : Array Oper) (S : World → Prop) (Q : Exit → Act → World → Prop) : List Nat → Act → World → Prop
  | [], a, w => Q .normal a w
  | i :: r, a, w => match ops[i]? with
    | none => wpLx P ops S Q r a w
    | some o => (∃ v, YieldsIf P ops S o v a ∧ wpLx P ops S Q r (a.put o.dst v) w) ∨
      (chainK o.op = true ∧ Region.wanted o (yielded ops a.tmps) = true ∧ o.wp P a w (fun a' w' => S w' ∧ wpLx P ops S Q r a' w') NoExit)

theorem yi_uniq {o : Oper} {u v : Value} {a : Act} {w : World} (hS : S w) (h1 : YieldsIf P ops S o u a) (h2 : YieldsIf P ops S o v a) : u = v := by
  rcases h1 with ⟨w1, r1⟩ | ⟨w1, e1⟩ <;> rcases h2 with ⟨w2, r2⟩ | ⟨w2, e2⟩
  · have h := (r1 w hS).symm.trans (r2 w hS)
    injection h with h _
    injection h
  · rw [w1] at w2; cases w2
  · rw [w1] at w2; cases w2
  · rw [e1, e2]

theorem calls_some {f : FuncId} {args : Array Value} {w : World} {R : Ending → World → Prop} (h : Calls P f args w R) : ∃ e w', R e w' := by
  obtain ⟨e, w', _, hR, _⟩ := h []; exact ⟨e, w', hR⟩

/-- An operation that reads may be taken out of the way of one that has its own temporaries. -/
theorem yi_back {oi oj : Oper} {u v : Value} {a : Act} (hs : ∀ cs b, oj.op ≠ .select cs b) (h : ∀ d, oi.dst = some d → d ∉ oj.looksAt ops) (hy : YieldsIf P ops S oj u (a.put oi.dst v)) : YieldsIf P ops S oj u a :=
  hy.of_same (execOp_put oj hs a oi.dst v h).symm (wanted_put oj a oi.dst v h).symm
theorem yi_forth {oi oj : Oper} {u v : Value} {a : Act} (hs : ∀ cs b, oj.op ≠ .select cs b) (h : ∀ d, oi.dst = some d → d ∉ oj.looksAt ops) (hy : YieldsIf P ops S oj u a) : YieldsIf P ops S oj u (a.put oi.dst v) :=
  hy.of_same (execOp_put oj hs a oi.dst v h) (wanted_put oj a oi.dst v h)
theorem yi_defers {o : Oper} {u : Value} {a : Act} {ds : List Deferred} (h : YieldsIf P ops S o u { a with defers := ds }) : YieldsIf P ops S o u a := h.of_same rfl rfl
theorem yi_defers' {o : Oper} {u : Value} {a : Act} {ds : List Deferred} (h : YieldsIf P ops S o u a) : YieldsIf P ops S o u { a with defers := ds } := h.of_same rfl rfl

/-- A reading operation i first, a changing one j behind it: j may come first. -/
theorem wp_swap_rc {oi oj : Oper} {v : Value} {a : Act} {w : World} {K : Act → World → Prop} (hsi : ∀ cs b, oi.op ≠ .select cs b) (hsj : ∀ cs b, oj.op ≠ .select cs b) (hap : oi.apart ops oj = true)
    (hy : YieldsIf P ops S oi v a) (h : oj.wp P (a.put oi.dst v) w K NoExit) : oj.wp P a w (fun a' w' => YieldsIf P ops S oi v a' ∧ K (a'.put oi.dst v) w') NoExit := by
  obtain ⟨h1, h2, h3⟩ := Oper.apart_spec hap
  have keep : ∀ (a : Act), YieldsIf P ops S oi v a → ∀ u, YieldsIf P ops S oi v (a.put oj.dst u) := fun a hy u => yi_forth hsi h3 hy
  unfold Oper.wp at *
  rw [execOp_put oj hsj a oi.dst v h1] at h
  generalize (execOp a.eval oj).run P w = r at *
  cases r with
  | ok n w' =>
    cases n <;> simp only [Oper.upon] at h ⊢
    case value u => exact ⟨keep a hy u, by rw [← Act.put_comm a v u h2]; exact h⟩
    case skip => exact ⟨keep a hy _, by rw [← Act.put_comm a v undef h2]; exact h⟩
    case defer d =>
      refine ⟨keep _ (yi_defers' hy) _, ?_⟩
      rw [← Act.put_comm _ v undef h2, ← Act.put_defers]
      exact h
    case enter f args =>
      refine Calls.mono h fun e w'' he => ?_
      cases e with
      | returned u => exact ⟨keep a hy u, by rw [← Act.put_comm a v u h2]; exact he⟩
      | panicked c => exact he
      | outgrown => exact he
    case row row args => exact Rows.mono h fun u w'' he => ⟨keep a hy u, by rw [← Act.put_comm a v u h2]; exact he⟩
  | halt x w' => cases x <;> simp only [Oper.upon] at h ⊢ <;> exact h

/-- A changing operation i first, a reading one j behind it: j may come first. -/
theorem wp_swap_cr {oi oj : Oper} {a : Act} {w : World} {K : Act → World → Prop} (hsi : ∀ cs b, oi.op ≠ .select cs b) (hsj : ∀ cs b, oj.op ≠ .select cs b) (hap : oi.apart ops oj = true) (hS : S w)
    (h : oi.wp P a w (fun a' w' => S w' ∧ ∃ u, YieldsIf P ops S oj u a' ∧ K (a'.put oj.dst u) w') NoExit) :
    ∃ u, YieldsIf P ops S oj u a ∧ oi.wp P (a.put oj.dst u) w (fun a' w' => S w' ∧ K a' w') NoExit := by
  obtain ⟨h1, h2, h3⟩ := Oper.apart_spec hap
  unfold Oper.wp at *
  have hex : ∀ u, execOp (a.put oj.dst u).eval oi = execOp a.eval oi := fun u => execOp_put oi hsi a oj.dst u h3
  simp only [hex]
  generalize (execOp a.eval oi).run P w = r at *
  cases r with
  | ok n w' =>
    cases n <;> simp only [Oper.upon] at h ⊢
    case value v =>
      obtain ⟨s, u, hy, hk⟩ := h
      exact ⟨u, yi_back hsj h1 hy, s, by rw [← Act.put_comm a v u h2]; exact hk⟩
    case skip =>
      obtain ⟨s, u, hy, hk⟩ := h
      exact ⟨u, yi_back hsj h1 hy, s, by rw [← Act.put_comm a undef u h2]; exact hk⟩
    case defer d =>
      obtain ⟨s, u, hy, hk⟩ := h
      refine ⟨u, yi_defers (yi_back hsj h1 hy), s, ?_⟩
      rw [Act.put_defers, ← Act.put_comm _ undef u h2]
      exact hk
    case enter f args =>
      obtain ⟨e, w0, he⟩ := calls_some h
      cases e with
      | panicked c => exact he.elim
      | outgrown => obtain ⟨_, _, he⟩ := he; exact he.elim
      | returned v0 =>
        obtain ⟨_, u, hy, _⟩ := he
        have hy0 := yi_back hsj h1 hy
        refine ⟨u, hy0, Calls.mono h fun e w'' he => ?_⟩
        cases e with
        | panicked c => exact he
        | outgrown => exact he
        | returned v =>
          obtain ⟨s, u', hy', hk⟩ := he
          obtain rfl := yi_uniq hS hy0 (yi_back hsj h1 hy')
          exact ⟨s, by rw [← Act.put_comm a v u h2]; exact hk⟩
    case row row args =>
      have hr := h default []
      obtain ⟨v0, w0, ⟨_, u, hy, _⟩, _⟩ := hr
      have hy0 := yi_back hsj h1 hy
      refine ⟨u, hy0, Rows.mono h fun v w'' he => ?_⟩
      obtain ⟨s, u', hy', hk⟩ := he
      obtain rfl := yi_uniq hS hy0 (yi_back hsj h1 hy')
      exact ⟨s, by rw [← Act.put_comm a v u h2]; exact hk⟩
  | halt x w' => cases x <;> simp only [Oper.upon] at h <;> exact h.elim

/-- i may be overtaken by j. -/
def swapOk (ops : Array Oper) (i j : Nat) : Bool :=
  match ops[i]?, ops[j]? with
  | some oi, some oj => !(chainK oi.op && chainK oj.op) && oi.apart ops oj
  | _, _ => false

theorem wpLx_mono {S' : World → Prop} : ∀ (l : List Nat) {a : Act} {w : World} {Q' : Exit → Act → World → Prop} (_ : ∀ a w, Q .normal a w → Q' .normal a w), wpLx P ops S Q l a w → wpLx P ops S Q' l a w
  | [], a, w, Q', hq, h => hq _ _ h
  | i :: r, a, w, Q', hq, h => by
    unfold wpLx at *
    cases ho : ops[i]? with
    | none => simp only [ho] at h ⊢; exact wpLx_mono (S' := S') r hq h
    | some o =>
      simp only [ho] at h ⊢
      rcases h with ⟨v, h1, h2⟩ | ⟨h1, h2, h3⟩
      · exact .inl ⟨v, h1, wpLx_mono (S' := S') r hq h2⟩
      · exact .inr ⟨h1, h2, Oper.wp_mono (fun a w h => ⟨h.1, wpLx_mono (S' := S') r hq h.2⟩) h3⟩

theorem wpLx_swap (hns : Region.noSelect ops = true) {i j : Nat} {r : List Nat} {a : Act} {w : World} (hok : swapOk ops i j = true) (hS : S w) (h : wpLx P ops S Q (i :: j :: r) a w) : wpLx P ops S Q (j :: i :: r) a w := by
  unfold swapOk at hok
  cases hi : ops[i]? with
  | none => simp [hi] at hok
  | some oi =>
  cases hj : ops[j]? with
  | none => simp [hj] at hok
  | some oj =>
  simp only [hi, hj, Bool.and_eq_true, Bool.not_eq_true', Bool.and_eq_false_iff] at hok
  obtain ⟨hch, hap⟩ := hok
  have hsi := fun cs b => Region.noSelect_spec hns i oi cs b hi
  have hsj := fun cs b => Region.noSelect_spec hns j oj cs b hj
  obtain ⟨h1, h2, h3⟩ := Oper.apart_spec hap
  simp only [wpLx, hi, hj] at h ⊢
  rcases h with ⟨v, hy, ⟨u, hy2, hr⟩ | ⟨hc, hw, hr⟩⟩ | ⟨hc, hw, hr⟩
  · refine .inl ⟨u, yi_back hsj h1 hy2, .inl ⟨v, yi_forth hsi h3 hy, ?_⟩⟩
    rw [← Act.put_comm a v u h2]; exact hr
  · refine .inr ⟨hc, by rw [← hw]; exact (wanted_put oj a oi.dst v h1).symm, ?_⟩
    refine Oper.wp_mono (fun a' w' hk => ?_) (wp_swap_rc hsi hsj hap hy hr)
    exact ⟨hk.2.1, .inl ⟨v, hk.1, hk.2.2⟩⟩
  · have hcj : chainK oj.op = false := by
      rcases hch with e | e
      · rw [hc] at e; cases e
      · exact e
    have hr' : oi.wp P a w (fun a' w' => S w' ∧ ∃ u, YieldsIf P ops S oj u a' ∧ wpLx P ops S Q r (a'.put oj.dst u) w') NoExit := by
      refine Oper.wp_mono (fun a' w' hk => ⟨hk.1, ?_⟩) hr
      rcases hk.2 with hk | ⟨e, _⟩
      · exact hk
      · rw [hcj] at e; cases e
    obtain ⟨u, hy, hk⟩ := wp_swap_cr (K := wpLx P ops S Q r) hsi hsj hap hS hr'
    refine .inl ⟨u, hy, .inr ⟨hc, ?_, hk⟩⟩
    rw [wanted_put oi a oj.dst u h3]; exact hw

theorem wpLx_front (hns : Region.noSelect ops = true) {j : Nat} {r : List Nat} : ∀ (l : List Nat) {a : Act} {w : World}, (∀ i ∈ l, swapOk ops i j = true) → S w → wpLx P ops S Q (l ++ j :: r) a w → wpLx P ops S Q (j :: (l ++ r)) a w
  | [], _, _, _, _, h => h
  | i :: l, a, w, hok, hS, h => by
    refine wpLx_swap hns (hok i (by simp)) hS ?_
    have ih := fun {a : Act} {w : World} (hS : S w) => wpLx_front hns (r := r) l (a := a) (w := w) (fun i hi => hok i (by simp [hi])) hS
    rw [List.cons_append] at h
    unfold wpLx at h ⊢
    cases ho : ops[i]? with
    | none => simp only [ho] at h ⊢; exact ih hS h
    | some o =>
      simp only [ho] at h ⊢
      rcases h with ⟨v, h1, h2⟩ | ⟨h1, h2, h3⟩
      · exact .inl ⟨v, h1, ih hS h2⟩
      · exact .inr ⟨h1, h2, Oper.wp_mono (fun a w h => ⟨h.1, ih h.1 h.2⟩) h3⟩

/-! ### Any order -/

/-- Not yet listed, in the order of the text. -/
def unl (ops : Array Oper) (listed : Array Bool) : List Nat := (List.range ops.size).filter fun i => !listed.getD i true

/-- All that a listed operation waits for is listed. -/
def Closed (ops : Array Oper) (listed : Array Bool) : Prop := ∀ j o, ops[j]? = some o → listed.getD j false = true → ∀ e ∈ o.after, Region.binds .any e = true → listed.getD e.on false = true

/-- The masks B say what an operation waits for, directly or not. -/
def maskOk (ops : Array Oper) (B : Array Nat) : Bool :=
  (List.range ops.size).all fun j => (List.range j).all fun i => !(B.getD j 0).testBit i ||
    match ops[j]? with
    | some o => o.after.any fun e => Region.binds .any e && e.on < j && (e.on == i || (decide (i < e.on) && (B.getD e.on 0).testBit i))
    | none => false
def lexOk (ops : Array Oper) : Bool :=
  Region.noSelect ops && maskOk ops (Region.before ops) &&
  (List.range ops.size).all fun j => (match ops[j]? with | some o => o.after.all fun e => !Region.binds .any e || e.on < j | none => false) &&
    (List.range j).all fun i => ((Region.before ops).getD j 0).testBit i || swapOk ops i j

theorem mask_listed {B : Array Nat} (hB : maskOk ops B = true) {listed : Array Bool} (hc : Closed ops listed) : ∀ (n j : Nat) (o : Oper), j < n → ops[j]? = some o → (∀ e ∈ o.after, Region.binds .any e = true → listed.getD e.on false = true) →
    ∀ i, i < j → (B.getD j 0).testBit i = true → listed.getD i false = true
  | 0, _, _, h, _, _, _, _, _ => by omega
  | n + 1, j, o, hj, ho, ha, i, hi, hbit => by
    have hjs : j < ops.size := (Array.getElem?_eq_some_iff.1 ho).1
    have h1 := hB
    simp only [maskOk, List.all_eq_true, List.mem_range] at h1
    have h2 := h1 j hjs i hi
    simp only [ho, hbit, Bool.not_true, Bool.false_or] at h2
    obtain ⟨e, he, hb⟩ := Array.any_eq_true'.1 h2
    simp only [Bool.and_eq_true, decide_eq_true_eq, Bool.or_eq_true, beq_iff_eq] at hb
    obtain ⟨⟨hb1, hb2⟩, hb3⟩ := hb
    have hl := ha e he hb1
    rcases hb3 with rfl | ⟨hie, hb3⟩
    · exact hl
    · have hes : e.on < ops.size := by omega
      have ho' : ops[e.on]? = some ops[e.on] := Array.getElem?_eq_getElem hes
      exact mask_listed hB hc n e.on _ (by omega) ho' (fun e' he' hb' => hc e.on _ ho' hl e' he' hb') i hie hb3

theorem range_split {n j : Nat} (h : j < n) : List.range n = List.range j ++ j :: List.range' (j + 1) (n - j - 1) := by
  have e : n = j + (1 + (n - j - 1)) := by omega
  conv => lhs; rw [e, List.range_eq_range', ← List.range'_append_1, ← List.range'_append_1]
  simp [List.range_eq_range']

theorem getD_lt {listed : Array Bool} {i : Nat} (h : i < listed.size) (d d' : Bool) : listed.getD i d = listed.getD i d' := by simp [h]

theorem unl_split {listed : Array Bool} {j : Nat} (hs : listed.size = ops.size) (hj : j < ops.size) (hu : listed.getD j true = false) :
    ∃ l1 l2, unl ops listed = l1 ++ j :: l2 ∧ unl ops (listed.setIfInBounds j true) = l1 ++ l2 ∧ (∀ i ∈ l1, i < j ∧ listed.getD i true = false) := by
  refine ⟨(List.range j).filter fun i => !listed.getD i true, (List.range' (j + 1) (ops.size - j - 1)).filter fun i => !listed.getD i true, ?_, ?_, ?_⟩
  · unfold unl
    rw [range_split hj, List.filter_append, List.filter_cons_of_pos (by simp [hu])]
  · unfold unl
    have hset : (listed.setIfInBounds j true).getD j true = true := by simp
    rw [range_split hj, List.filter_append, List.filter_cons_of_neg (by rw [hset]; simp)]
    congr 1
    · refine List.filter_congr fun i hi => ?_
      have : j ≠ i := by have := List.mem_range.1 hi; omega
      rw [getD_set_ne true this]
    · refine List.filter_congr fun i hi => ?_
      have : j ≠ i := by have := List.mem_range'_1.1 hi; omega
      rw [getD_set_ne true this]
  · intro i hi
    rw [List.mem_filter, List.mem_range] at hi
    exact ⟨hi.1, by simpa using hi.2⟩

theorem wpAny_of_lx (hB : lexOk ops = true) : ∀ (n : Nat) (listed : Array Bool) (a : Act) (w : World), (unl ops listed).length = n → listed.size = ops.size → Closed ops listed → S w → wpLx P ops S Q (unl ops listed) a w → wpAny P .any ops Q n listed a w := by
  have hB' := hB
  simp only [lexOk, Bool.and_eq_true, List.all_eq_true, List.mem_range] at hB'
  obtain ⟨⟨hns, hmask⟩, hall⟩ := hB'
  intro n
  induction n with
  | zero =>
    intro listed a w hn hs hc hS h
    have hnil : unl ops listed = [] := List.eq_nil_of_length_eq_zero hn
    rw [hnil] at h
    refine ⟨?_, h⟩
    cases hr : Region.ready .any ops listed with
    | nil => rfl
    | cons j r =>
      have hj : j ∈ Region.ready .any ops listed := by rw [hr]; simp
      obtain ⟨h0, o, ho, _⟩ := mem_ready.1 hj
      have : j ∈ unl ops listed := by
        unfold unl; rw [List.mem_filter, List.mem_range]
        exact ⟨(Array.getElem?_eq_some_iff.1 ho).1, by simp [h0]⟩
      rw [hnil] at this; cases this
  | succ n ih =>
    intro listed a w hn hs hc hS h
    refine ⟨fun hr => ?_, fun j hj => ?_⟩
    · -- the first that is not listed is ready
      cases hu : unl ops listed with
      | nil => rw [hu] at hn; simp at hn
      | cons k r =>
        exfalso
        have hk : k ∈ unl ops listed := by rw [hu]; simp
        unfold unl at hk
        rw [List.mem_filter, List.mem_range] at hk
        obtain ⟨hk1, hk2⟩ := hk
        have hk2 : listed.getD k true = false := by simpa using hk2
        have ho : ops[k]? = some ops[k] := Array.getElem?_eq_getElem hk1
        have hd := (hall k hk1).1
        simp only [ho] at hd
        have : k ∈ Region.ready .any ops listed := by
          rw [mem_ready]
          refine ⟨hk2, _, ho, fun e he hb => ?_⟩
          have h1 := Array.all_eq_true_iff_forall_mem.1 hd e he
          simp only [hb, Bool.not_true, Bool.false_or, decide_eq_true_eq] at h1
          cases hl : listed.getD e.on false with
          | true => rfl
          | false =>
            exfalso
            obtain ⟨l1, l2, hs1, _, hs3⟩ := unl_split (ops := ops) (j := e.on) hs (by omega) (by rw [getD_lt (by omega) true false]; exact hl)
            rw [hu] at hs1
            cases l1 with
            | nil => simp at hs1; omega
            | cons x l1 =>
              simp at hs1
              have := (hs3 x (by simp)).1
              omega
        rw [hr] at this; cases this
    · obtain ⟨h0, o, ho, hall'⟩ := mem_ready.1 hj
      have hjs : j < ops.size := (Array.getElem?_eq_some_iff.1 ho).1
      obtain ⟨l1, l2, hs1, hs2, hs3⟩ := unl_split (ops := ops) hs hjs h0
      have hfront : wpLx P ops S Q (j :: (l1 ++ l2)) a w := by
        refine wpLx_front hns l1 (fun i hi => ?_) hS (hs1 ▸ h)
        obtain ⟨hij, hiu⟩ := hs3 i hi
        have := (hall j hjs).2 i hij
        rw [Bool.or_eq_true] at this
        rcases this with hb | hb
        · have hl := mask_listed hmask hc (j + 1) j o (by omega) ho hall' i hij hb
          rw [getD_lt (by omega) false true, hiu] at hl; cases hl
        · exact hb
      have hlen : (unl ops (listed.setIfInBounds j true)).length = n := by
        rw [hs2]; rw [hs1] at hn; simp at hn ⊢; omega
      have hs' : (listed.setIfInBounds j true).size = ops.size := by simpa using hs
      have hc' : Closed ops (listed.setIfInBounds j true) := by
        intro m om hm hl e he hb
        by_cases hmj : m = j
        · subst hmj
          rw [ho] at hm; cases hm
          exact getD_set_true (hall' e he hb)
        · rw [getD_set_ne false (Ne.symm hmj)] at hl
          exact getD_set_true (hc m om hm hl e he hb)
      rw [← hs2] at hfront
      unfold wpLx at hfront
      simp only [ho] at hfront
      rcases hfront with ⟨v, hy, hk⟩ | ⟨_, hw, hk⟩
      · exact hy.wpOp ho hS (ih _ _ _ hlen hs' hc' hS hk)
      · unfold wpOp
        simp only [ho, hw, if_true]
        refine .inl ?_
        have h2 := Oper.wp_mono (K' := wpAny P .any ops Q n (listed.setIfInBounds j true)) (fun a' w' hk => ih _ a' w' hlen hs' hc' hk.1 hk.2) hk
        -- the empty exit serves every exit
        unfold Oper.wp at h2 ⊢
        generalize (execOp a.eval o).run P w = r at *
        cases r with
        | ok nx w' =>
          cases nx <;> simp only [Oper.upon] at h2 ⊢ <;> first
            | exact h2
            | exact Calls.mono h2 (fun e w'' he => by
                cases e with
                | returned v => exact he
                | panicked c => exact he.elim
                | outgrown => obtain ⟨_, _, he⟩ := he; exact he.elim)
        | halt x w' => cases x <;> simp only [Oper.upon] at h2 ⊢ <;> first | exact h2 | exact h2.elim

/-! ### The walk -/

/-- The walk in the order of the text. -/
def wpLex (P : Program) (ops : Array Oper) (S : World → Prop) (Q : Exit → Act → World → Prop) : List Oper → Act → World → Prop
  | [], a, w => Q .normal a w
  | o :: r, a, w => (∃ v, YieldsIf P ops S o v a ∧ wpLex P ops S Q r (a.put o.dst v) w) ∨
      (chainK o.op = true ∧ Region.wanted o (yielded ops a.tmps) = true ∧ o.wp P a w (fun a' w' => S w' ∧ wpLex P ops S Q r a' w') NoExit)

theorem lx_of_lex : ∀ (l : List Oper) (k : Nat) (a : Act) (w : World), (∀ j, l[j]? = ops[k + j]?) → wpLex P ops S Q l a w → wpLx P ops S Q (List.range' k l.length) a w
  | [], _, _, _, _, h => h
  | o :: l, k, a, w, hl, h => by
    have h0 : ops[k]? = some o := by simpa using (hl 0).symm
    have ih := fun a w => lx_of_lex l (k + 1) a w (fun j => by have := hl (j + 1); simpa [Nat.add_assoc, Nat.add_comm 1 j] using this)
    simp only [List.length_cons, List.range'_succ]
    unfold wpLx
    simp only [h0]
    rcases h with ⟨v, h1, h2⟩ | ⟨h1, h2, h3⟩
    · exact .inl ⟨v, h1, ih _ _ h2⟩
    · exact .inr ⟨h1, h2, Oper.wp_mono (fun a' w' hk => ⟨hk.1, ih _ _ hk.2⟩) h3⟩

/-- A region that draws its order goes by one walk in the order of the text. -/
theorem wp_region_lex {id : Nat} {l : List Oper} {a : Act} {w : World} (S : World → Prop) (hm : P.follows .mixedOrders = true) (hB : lexOk l.toArray = true) (hS : S w.drew)
    (h : wpLex P l.toArray S Q l a w.drew) : (Code.region id l.toArray true).wp P Q a w := by
  refine wp_region_any hm ?_
  have hu : unl l.toArray (Array.replicate l.toArray.size false) = List.range l.toArray.size := by
    unfold unl
    refine List.filter_eq_self.2 fun i hi => ?_
    have := List.mem_range.1 hi
    simp at this
    simp [this]
  refine wpAny_of_lx (S := S) hB _ _ _ _ (by rw [hu]; simp) (by simp) ?_ hS ?_
  · intro j o ho hl
    have : j < l.length := by have := (Array.getElem?_eq_some_iff.1 ho).1; simpa using this
    simp [this] at hl
  · rw [hu]
    have := lx_of_lex (P := P) (ops := l.toArray) (S := S) (Q := Q) l 0 a w.drew (by simp) h
    simpa [List.range_eq_range'] using this

section
variable {o : Oper} {r : List Oper} {a : Act} {w : World}
theorem lex_nil (h : Q .normal a w) : wpLex P ops S Q [] a w := h
/-- The guard says no. -/
theorem lex_skip (hw : Region.wanted o (yielded ops a.tmps) = false) (h : wpLex P ops S Q r (a.put o.dst undef) w) : wpLex P ops S Q (o :: r) a w := .inl ⟨undef, .inr ⟨hw, rfl⟩, h⟩
/-- It reads. -/
theorem lex_read {v : Value} (hw : Region.wanted o (yielded ops a.tmps) = true) (hv : ∀ w', S w' → (execOp a.eval o).run P w' = .ok (.value v) w') (h : wpLex P ops S Q r (a.put o.dst v) w) : wpLex P ops S Q (o :: r) a w := .inl ⟨v, .inl ⟨hw, hv⟩, h⟩
/-- It may change the world. -/
theorem lex_chain (hc : chainK o.op = true) (hw : Region.wanted o (yielded ops a.tmps) = true) (h : ∀ K : Act → World → Prop, Hid (∀ a' w', S w' → wpLex P ops S Q r a' w' → K a' w') → o.wp P a w K NoExit) : wpLex P ops S Q (o :: r) a w :=
  .inr ⟨hc, hw, h _ fun _ _ h1 h2 => ⟨h1, h2⟩⟩
end
end
end Go.CHC
