/-
  Net: the reference: Cut.
-/
import Derived.Test.YtolpcjpnjicmkaaRef5
set_option linter.unusedSimpArgs false
set_option linter.unusedVariables false
namespace Go.Proofs.Ytolpcjpnjicmkaa
open Go.RowKit Go.CH
open Go.ChangeMaps (setBlock)

def rcutE (m : RefM) (a b : Int) : Int := if pairB m.n a b = false then 1 else if 0 ≤ cutI m.G a b then 12 else 0
def open_ (G : List (Int × Int)) (x : RMsg) : Bool := decide (cutI G x.f x.t < 0)
def rcutR (m : RefM) (a b : Int) : RefM := if rcutE m a b = 0 then { m with G := m.G ++ [(a, b)], L := m.L.filter (open_ (m.G ++ [(a, b)])) } else m
def lkK (G : List (Int × Int)) (l : List RMsg) (k : Nat) : List RMsg := (l.take k).filter (open_ G)
theorem lkK_yes {G : List (Int × Int)} {l : List RMsg} {k : Nat} (hk : k < l.length) (h : open_ G l[k] = true) : lkK G l (k + 1) = lkK G l k ++ [l[k]] := by
  unfold lkK; rw [List.take_succ_eq_append_getElem hk, List.filter_append]; simp [h]
theorem lkK_no {G : List (Int × Int)} {l : List RMsg} {k : Nat} (hk : k < l.length) (h : open_ G l[k] = false) : lkK G l (k + 1) = lkK G l k := by
  unfold lkK; rw [List.take_succ_eq_append_getElem hk, List.filter_append]; simp [h]
theorem lkK_len (G : List (Int × Int)) (l : List RMsg) (k : Nat) : (lkK G l k).length ≤ l.length := by
  unfold lkK; exact Nat.le_trans (List.length_filter_le _ _) (by rw [List.length_take]; omega)

set_option maxRecDepth 100000 in
set_option maxHeartbeats 3200000 in
theorem rcut_any {w : World} {F : Nat → Prop} {m : RefM} {p : Nat} (h : RefO m p w F) (hL : m.L.length ≤ 500) (hG : m.G.length ≤ 500) (a b : Int) :
    Calls Try.prog 28 #[.pointer (some ⟨p, 0, none⟩), .int .i64 a, .int .i64 b] w (RPost w F (.int .i64 (rcutE m a b)) (rcutR m a b) p) := by
  have r0 := Run.start h
  obtain ⟨A, c, B, d, r1⟩ := runRef r0
  have R1 := hide r1
  have KP := hide (pair_ref (runRead r1).c0 a b)
  clear h r0 r1
  cases hp : pairB m.n a b with
  | false =>
    have he := hide (show rcutE m a b = 1 by simp [rcutE, hp])
    have hr := hide (show rcutR m a b = m by unfold rcutR; rw [he.out]; rfl)
    rw [hp] at KP; clear hp
    go_enter Try.func28, Try.ntmps28
    go_wp2_with fail
    refine KP.out.mono ?_
    rintro e w1 ⟨rfl, rfl⟩
    go_wp2
    go_ret
    exact ⟨by rw [he.out]; rfl, by rw [hr.out]; exact (R1.out.post refS_ok).imp fun F' h => ⟨h.1.shut, h.2⟩⟩
  | true =>
    rw [hp] at KP
    have KC := hide (cut_ref (runRead R1.out) (by omega) a b)
    by_cases hc : 0 ≤ cutI m.G a b
    · have he := hide (show rcutE m a b = 12 by simp [rcutE, hp, hc])
      have hr := hide (show rcutR m a b = m by unfold rcutR; rw [he.out]; rfl)
      generalize cutI m.G a b = q at KC hc
      clear hp
      go_enter Try.func28, Try.ntmps28
      go_wp2_with fail
      refine KP.out.mono ?_
      rintro e w1 ⟨rfl, rfl⟩
      go_wp2_with fail
      refine KC.out.mono ?_
      rintro e w1 ⟨rfl, hb1⟩
      have R2 := hide (R1.out.below refS_ok hb1)
      clear hb1
      go_wp2
      go_ret
      exact ⟨by rw [he.out]; rfl, by rw [hr.out]; exact (R2.out.post refS_ok).imp fun F' h => ⟨h.1.shut, h.2⟩⟩
    · have he := hide (show rcutE m a b = 0 by simp [rcutE, hp, hc])
      obtain ⟨G', hG'⟩ : ∃ G', m.G ++ [(a, b)] = G' := ⟨_, rfl⟩
      have hr := hide (show rcutR m a b = { m with G := G', L := lkK G' m.L m.L.length } by rw [← hG']; unfold rcutR lkK; rw [he.out, List.take_length]; rfl)
      have hgl : G'.length ≤ 501 := by rw [← hG']; simp; omega
      have HG' := hide hG'
      generalize cutI m.G a b = q at KC hc
      clear hp hG'
      go_enter Try.func28, Try.ntmps28
      go_wp2_with fail
      refine KP.out.mono ?_
      rintro e w1 ⟨rfl, rfl⟩
      go_wp2_with fail
      refine KC.out.mono ?_
      rintro e w1 ⟨rfl, hb1⟩
      have R2 := hide (R1.out.below refS_ok hb1)
      have g1 := (runRead R2.out).c2
      obtain ⟨FL, hRG, -, hback⟩ := (runS R2.out).last.take row_ok (star_ok cell_ok row_ok)
      have HRG := hide hRG; have HBK := hide hback
      clear hb1 hRG hback
      go_wp2_with (at_builtin; refine held ?_)
      refine Held.mk (wpList_app rfl (.tmp 23) (.tmp 27) rfl prOk _ 0 (v := .slice B m.G.length d) (n := m.G.length) (xs := prs m.G) rfl (HRG.out.1.alloc _) (A := some ⟨w1.heap.size, 0, none⟩) (m := 1) (c := 1) (news := prL (a, b)) rfl (Src.block (heap_new rfl) rfl (by simp [prL]; exact ⟨rfl, rfl⟩)) (by omega) (by omega) (Nat.zero_le _) ?_)
      intro v4 w4 ho4 hg4 hv4
      rw [show prs m.G ++ prL (a, b) = prs G' by rw [← HG'.out]; simp [prs], show m.G.length + 1 = G'.length by rw [← HG'.out]; simp] at ho4
      have r4 := HBK.out _ _ (row_app1 HRG.out ho4 hg4 hv4)
      obtain ⟨B4, d4, rfl⟩ := own_form ho4
      obtain ⟨FC, hC, -, hbk⟩ := r4.rot.take cell_ok (star_ok row_ok row_ok)
      have k1 := cell_at hC (i := 2) rfl
      have k2 := cell_free hC 2
      have S5 : Hid (Run F w (RefS { m with G := G' } p A c B4 d4) (w4.setCell ⟨p, 2, none⟩ (.slice B4 G'.length d4))) := (hbk _ _ (cell_set hC 2 (.slice B4 G'.length d4))).in2
      clear ho4 hg4 hv4 r4 hbk hC g1
      go_upto_region 6 with (fail)
      generalize w4.setCell ⟨p, 2, none⟩ (.slice B4 G'.length d4) = w5 at *
      have S6 : Hid (Run F w (star (RowO 67 3 (.slice none 0 0) 0 []) (RefS { m with G := G' } p A c B4 d4)) w5) := S5.out.fresh refS_ok ⟨_, row_nil _ _ _, Mod.refl _ _, fun _ h => h.elim⟩
      clear k1 k2
      go_wp2
      go_loopw [7, 8] (fun v i wr => ∃ (k : Nat) (A' : Option Addr) (c' : Nat), k ≤ m.L.length ∧ i = .int .i64 k ∧ v = .slice A' (lkK G' m.L k).length c' ∧ Run F w (star (RowO 67 3 (.slice A' (lkK G' m.L k).length c') (lkK G' m.L k).length (msgs (lkK G' m.L k))) (RefS { m with G := G' } p A c B4 d4)) wr) (fun _ i _ => m.L.length - (intOf i).toNat)
      case atStart => exact ⟨0, none, 0, by omega, rfl, rfl, S6.out⟩
      case round =>
        obtain ⟨k, A', c', hk, rfl, rfl, hS⟩ := hrel
        have HS := hide hS
        have hrd := runRead hS.drop
        have HRD := hide hrd
        have c1 := hrd.c1
        have hlk := lkK_len G' m.L k
        clear hS hrd
        simp only [] at c1
        by_cases hlt : k < m.L.length
        · obtain ⟨bb, o, rfl, g0, g1, g2⟩ := HRD.out.at_ hlt
          obtain ⟨⟨x, y, z⟩, hxy⟩ : ∃ z, m.L[k] = z := ⟨_, rfl⟩
          simp only [] at g0 g1 g2
          rw [hxy] at g0 g1 g2
          simp only [] at g0 g1 g2
          have hy := fun h => lkK_yes (G := G') hlt h
          have hn := fun h => lkK_no (G := G') hlt h
          rw [hxy] at hy hn
          have HY := hide hy; have HN := hide hn
          clear hy hn hxy
          have KC2 := hide (cut_ref (runRead (HS.out.drew (star_ok row_ok refS_ok)).drop) (by simp only []; omega) x y)
          simp only [] at KC2
          obtain ⟨q2, hq2⟩ : ∃ q2, cutI G' x y = q2 := ⟨_, rfl⟩
          rw [hq2] at KC2
          have HQ2 := hide hq2
          clear hq2
          have t1 : ∀ w', Below wr.heap.size wr w' → w'.cell? ⟨p, 1, none⟩ = some (.slice (some ⟨bb, o, none⟩) m.L.length c) := fun w' hb => (hb.cell (p := ⟨p, 1, none⟩) (World.block_lt_of_cell? _ _ c1)).trans c1
          have t2 : ∀ w', Below wr.heap.size wr w' → w'.cell? ⟨bb, o + k * 3, none⟩ = some (.int .i64 x) := fun w' hb => (hb.cell (p := ⟨bb, o + k * 3, none⟩) (World.block_lt_of_cell? _ _ g0)).trans g0
          have t3 : ∀ w', Below wr.heap.size wr w' → w'.cell? ⟨bb, o + k * 3 + 1, none⟩ = some (.int .i64 y) := fun w' hb => (hb.cell (p := ⟨bb, o + k * 3 + 1, none⟩) (World.block_lt_of_cell? _ _ g1)).trans g1
          have t4 : Hid (∀ w', Below wr.heap.size wr w' → w'.cell? ⟨bb, o + k * 3 + 2, none⟩ = some (.string z)) := fun w' hb => (hb.cell (p := ⟨bb, o + k * 3 + 2, none⟩) (World.block_lt_of_cell? _ _ g2)).trans g2
          clear g0 g1 g2
          go_wp2
          refine wp_region_lex (Below wr.heap.size wr) (by kernel_rfl) (by kernel_rfl) (below_drew (Below.refl _ _)) ?_
          (repeat (first | (refine lex_skip (by rfl) ?_; try simp only [Act.put, List.setIfInBounds_toArray, List.set_cons_zero, List.set_cons_succ]) | (refine lex_read (v := ?_) (by rfl) ?_ ?_; rotate_left; (focus (intro w' hS'; go_simp; (try with_reducible rfl); done)); try simp only [Act.put, List.setIfInBounds_toArray, List.set_cons_zero, List.set_cons_succ])))
          refine lex_chain rfl (by rfl) (fun K hK => ?_)
          go_wp2_with fail
          refine KC2.out.mono ?_
          rintro e w6 ⟨rfl, hb6⟩
          have hb6' : Below wr.heap.size wr w6 := (below_drew (Below.refl _ _)).trans hb6
          have S7 := hide ((HS.out.drew (star_ok row_ok refS_ok)).below (star_ok row_ok refS_ok) hb6)
          refine hK.out _ _ hb6' ?_
          (repeat (first | (refine lex_skip (by rfl) ?_; try simp only [Act.put, List.setIfInBounds_toArray, List.set_cons_zero, List.set_cons_succ]) | (refine lex_read (v := ?_) (by rfl) ?_ ?_; rotate_left; (focus (intro w' hS'; go_simp; (try with_reducible rfl); done)); try simp only [Act.put, List.setIfInBounds_toArray, List.set_cons_zero, List.set_cons_succ])))
          refine lex_nil ?_
          have u1 := t1 _ hb6'
          have u2 := t2 _ hb6'
          have u3 := t3 _ hb6'
          have u4 := t4.out _ hb6'
          clear hK hb6 hb6' t1 t2 t3 c1
          by_cases hq : q2 < 0
          · have hf := HY.out (by simp [open_, HQ2.out, hq])
            have HF := hide hf; clear hf
            obtain ⟨FR, hRR, -, hbk⟩ := S7.out.take row_ok refS_ok
            have HRR := hide hRR; have HBK2 := hide hbk
            clear hRR hbk
            go_wp2_with (at_builtin; refine held ?_)
            refine Held.mk (wpList_app rfl (.tmp 59) (.tmp 67) rfl msgOk _ 0 (v := .slice A' (lkK G' m.L k).length c') (n := (lkK G' m.L k).length) (xs := msgs (lkK G' m.L k)) rfl (HRR.out.1.alloc _) (A := some ⟨w6.heap.size, 0, none⟩) (m := 1) (c := 1) (news := msgL ⟨x, y, z⟩) rfl (Src.block (heap_new rfl) rfl (by simp [msgL]; exact ⟨rfl, rfl, rfl⟩)) (by omega) (by omega) (Nat.zero_le _) ?_)
            intro v8 w8 ho8 hg8 hv8
            rw [show msgs (lkK G' m.L k) ++ msgL ⟨x, y, z⟩ = msgs (lkK G' m.L (k + 1)) by rw [HF.out]; simp [msgs], show (lkK G' m.L k).length + 1 = (lkK G' m.L (k + 1)).length by rw [HF.out]; simp] at ho8
            have S9 := hide (HBK2.out _ _ (row_app1 HRR.out ho8 hg8 hv8))
            obtain ⟨A8, c8, rfl⟩ := own_form ho8
            clear ho8 hg8 hv8
            go_wp2
            go_roundw
            case rel => exact ⟨k + 1, A8, c8, hlt, by go_num, rfl, S9.out⟩
            case measure => simp [intOf]; omega
          · have hf := HN.out (by simp [open_, HQ2.out, hq])
            have HF := hide hf; clear hf
            go_wp2
            go_roundw
            case rel => exact ⟨k + 1, A', c', hlt, by go_num, by rw [HF.out], by rw [HF.out]; exact S7.out⟩
            case measure => simp [intOf]; omega
        · obtain rfl : k = m.L.length := by omega
          obtain ⟨FC7, hC7, -, hbk7⟩ := (runS2 HS.out).rot.take cell_ok (star_ok row_ok (star_ok row_ok row_ok))
          have k1 := cell_at hC7 (i := 1) rfl
          have k2 := cell_free hC7 1
          have HFIN := hide (hbk7 _ _ (cell_set hC7 1 (.slice A' (lkK G' m.L m.L.length).length c'))).rot3.drop
          clear hC7 hbk7
          go_wp2
          go_ret
          refine ⟨by rw [he.out]; rfl, ?_⟩
          rw [hr.out]
          exact (HFIN.out.post (star_ok cell_ok (star_ok row_ok row_ok))).imp fun F' h => ⟨⟨A', c', B4, d4, h.1⟩, h.2⟩
end Go.Proofs.Ytolpcjpnjicmkaa
