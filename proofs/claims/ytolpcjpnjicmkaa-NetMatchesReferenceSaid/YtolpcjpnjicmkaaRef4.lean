/-
  Net: the reference: Heal.
-/
import Derived.Test.YtolpcjpnjicmkaaRef3
import Derived.IntWalk
set_option linter.unusedSimpArgs false
set_option linter.unusedVariables false
namespace Go.Proofs.Ytolpcjpnjicmkaa
open Go.RowKit Go.CH
open Go.ChangeMaps (setBlock)

theorem runS {F0 : Nat → Prop} {w0 W : World} {m : RefM} {p : Nat} {A : Option Addr} {c : Nat} {B : Option Addr} {d : Nat} (h : Run F0 w0 (RefS m p A c B d) W) : Run F0 w0 (star (CellO p #[.int .i64 m.n, .slice A m.L.length c, .slice B m.G.length d] 64) (star (RowO 67 3 (.slice A m.L.length c) m.L.length (msgs m.L)) (RowO 57 2 (.slice B m.G.length d) m.G.length (prs m.G)))) W := h
def rhealE (m : RefM) (a b : Int) : Int := if pairB m.n a b = false then 1 else if cutI m.G a b < 0 then 12 else 0
def rhealR (m : RefM) (a b : Int) : RefM := if rhealE m a b = 0 then { m with G := m.G.eraseIdx (cutI m.G a b).toNat } else m
theorem idxG_lt {α : Type} (p : α → Bool) : ∀ (xs : List α) (i : Int), idxG p xs i = -1 ∨ ∃ k : Nat, k < xs.length ∧ idxG p xs i = i + k
  | [], i => .inl rfl
  | x :: xs, i => by
    unfold idxG
    by_cases h : p x = true
    · rw [if_pos h]; exact .inr ⟨0, by simp, by simp⟩
    · rw [if_neg h]
      rcases idxG_lt p xs (i + 1) with h1 | ⟨k, h1, h2⟩
      · exact .inl h1
      · exact .inr ⟨k + 1, by simpa using h1, by rw [h2]; push_cast; omega⟩
theorem flat_take {α : Type} (R : α → List Value) (size : Nat) (hR : ∀ x, (R x).length = size) : ∀ (l : List α) (k : Nat), (l.flatMap R).take (k * size) = (l.take k).flatMap R
  | [], k => by simp
  | x :: l, 0 => by simp
  | x :: l, k + 1 => by
    rw [List.flatMap_cons, List.take_succ_cons, List.flatMap_cons, List.take_append, hR, Nat.succ_mul, Nat.add_sub_cancel, List.take_of_length_le (by rw [hR]; omega), flat_take R size hR l k]
theorem flat_drop {α : Type} (R : α → List Value) (size : Nat) (hR : ∀ x, (R x).length = size) : ∀ (l : List α) (k : Nat), (l.flatMap R).drop (k * size) = (l.drop k).flatMap R
  | [], k => by simp
  | x :: l, 0 => by simp
  | x :: l, k + 1 => by
    rw [List.flatMap_cons, List.drop_succ_cons, List.drop_append, hR, Nat.succ_mul, Nat.add_sub_cancel, List.drop_of_length_le (by rw [hR]; omega), flat_drop R size hR l k]; rfl
theorem erase_eq {α : Type} (l : List α) (k : Nat) : l.take k ++ l.drop (k + 1) = l.eraseIdx k := (List.eraseIdx_eq_take_drop_succ l k).symm

set_option maxRecDepth 100000 in
set_option maxHeartbeats 1600000 in
theorem rheal_any {w : World} {F : Nat → Prop} {m : RefM} {p : Nat} (h : RefO m p w F) (hL : m.L.length ≤ 500) (hG : m.G.length ≤ 500) (a b : Int) :
    Calls Try.prog 29 #[.pointer (some ⟨p, 0, none⟩), .int .i64 a, .int .i64 b] w (RPost w F (.int .i64 (rhealE m a b)) (rhealR m a b) p) := by
  have r0 := Run.start h
  obtain ⟨A, c, B, d, r1⟩ := runRef r0
  have R1 := hide r1
  have KP := hide (pair_ref (runRead r1).c0 a b)
  clear h r0 r1
  cases hp : pairB m.n a b with
  | false =>
    have he := hide (show rhealE m a b = 1 by simp [rhealE, hp])
    have hr := hide (show rhealR m a b = m by unfold rhealR; rw [he.out]; rfl)
    rw [hp] at KP; clear hp
    go_enter Try.func29, Try.ntmps29
    go_wp2_with fail
    refine KP.out.mono ?_
    rintro e w1 ⟨rfl, rfl⟩
    go_wp2
    go_ret
    exact ⟨by rw [he.out]; rfl, by rw [hr.out]; exact (R1.out.post refS_ok).imp fun F' h => ⟨h.1.shut, h.2⟩⟩
  | true =>
    rw [hp] at KP
    have KC := hide (cut_ref (runRead R1.out) (by omega) a b)
    rcases idxG_lt (same a b) m.G 0 with hc | ⟨k, hk, hc⟩
    · have he := hide (show rhealE m a b = 12 by simp [rhealE, hp, cutI, hc])
      have hr := hide (show rhealR m a b = m by unfold rhealR; rw [he.out]; rfl)
      rw [show cutI m.G a b = -1 from hc] at KC
      clear hp hc
      go_enter Try.func29, Try.ntmps29
      go_wp2_with fail
      refine KP.out.mono ?_
      rintro e w1 ⟨rfl, rfl⟩
      go_wp2_with fail
      refine KC.out.mono ?_
      rintro e w1 ⟨rfl, hb1⟩
      have R2 := hide (R1.out.below refS_ok hb1)
      clear hb1
      go_wp2
      go_ret
      exact ⟨by rw [he.out]; rfl, by rw [hr.out]; exact (R2.out.post refS_ok).imp fun F' h => ⟨h.1.shut, h.2⟩⟩
    · rw [Int.zero_add] at hc
      have hck : cutI m.G a b = k := hc
      have he := hide (show rhealE m a b = 0 by unfold rhealE; rw [hp, hck]; simp)
      have hr := hide (show rhealR m a b = { m with G := m.G.eraseIdx k } by unfold rhealR; rw [he.out, hck]; rfl)
      rw [hck] at KC
      obtain ⟨G', hG'⟩ : ∃ G', m.G.eraseIdx k = G' := ⟨_, rfl⟩
      have hl' : k + (m.G.length - (k + 1)) = G'.length := by rw [← hG', List.length_eraseIdx]; simp [hk]; omega
      rw [hG'] at hr
      have HG' := hide hG'; have HL' := hide hl'
      clear hp hc hck hG' hl'
      go_enter Try.func29, Try.ntmps29
      go_wp2_with fail
      refine KP.out.mono ?_
      rintro e w1 ⟨rfl, rfl⟩
      go_wp2_with fail
      refine KC.out.mono ?_
      rintro e w1 ⟨rfl, hb1⟩
      have R2 := hide ((R1.out.below refS_ok hb1).drew refS_ok)
      have hrd := runRead R2.out
      have c2 := hrd.c2
      have HSB := hide hrd.g
      obtain ⟨FG, hRG⟩ := (runS R2.out).last.fst
      have hcap := (row_cap hRG.1).1
      have hs1 := fun w => run_slice_to prOk B m.G.length d k .i64 k rfl (by omega) w
      have hs2 := fun w => run_slice_from prOk B m.G.length d (k + 1) .i64 (IntKind.i64.wrap ((k : Int) + 1)) (by rw [IntWalk.i64_in _ (by omega)]; push_cast; rfl) (by omega) w
      have HCAP := hide hcap
      clear hb1 hrd hRG hcap
      go_wp2
      refine wp_region_ley (fun w' => w'.cell? ⟨p, 2, none⟩ = some (.slice B m.G.length d)) (by kernel_rfl) (by kernel_rfl) (by kernel_rfl) c2 ?_
      (repeat (first | (refine ley_skip (by rfl) ?_; try simp only [Act.put, List.setIfInBounds_toArray, List.set_cons_zero, List.set_cons_succ]) | (refine ley_read (v := ?_) (by rfl) ?_ ?_; rotate_left; (focus (intro w' hS'; go_simp; (try with_reducible rfl); done)); try simp only [Act.put, List.setIfInBounds_toArray, List.set_cons_zero, List.set_cons_succ])))
      refine ley_chain rfl (by rfl) (fun K hK => ?_)
      go_wp2_with fail
      have S3 := hide ((runS R2.out).fresh (star_ok cell_ok (star_ok row_ok row_ok)) (row_made w1.drew 57 2))
      obtain ⟨FC3, hC3⟩ := S3.out.rot.fst
      refine hK.out _ _ (cell_at hC3 rfl) ?_
      clear hC3 hK
      (repeat (first | (refine ley_skip (by rfl) ?_; try simp only [Act.put, List.setIfInBounds_toArray, List.set_cons_zero, List.set_cons_succ]) | (refine ley_read (v := ?_) (by rfl) ?_ ?_; rotate_left; (focus (intro w' hS'; go_simp; (try with_reducible rfl); done)); try simp only [Act.put, List.setIfInBounds_toArray, List.set_cons_zero, List.set_cons_succ])))
      refine ley_chain rfl (by rfl) (fun K hK => ?_)
      obtain ⟨F3, hR3, -, hbk3⟩ := S3.out.take row_ok (star_ok cell_ok (star_ok row_ok row_ok))
      have hsrc1 : Src w1.drew B k 2 (prs (m.G.take k)) := by
        have := HSB.out.take (k := k) (by omega)
        rwa [show (prs m.G).take (k * 2) = prs (m.G.take k) from flat_take prL 2 (fun _ => rfl) _ _] at this
      refine wp_app (.tmp 20) (.tmp 26) rfl prOk _ 0 (v := .slice (some ⟨w1.heap.size, 0, none⟩) 0 0) (n := 0) (xs := []) rfl hR3.1 (A := B) (m := k) (c := d) (news := prs (m.G.take k)) rfl (Src.below hsrc1 ((Below.refl _ _).alloc (Nat.le_refl _) _)) (by omega) (by omega) (Nat.zero_le _) ?_
      intro v4 w4 ho4 hg4 hv4
      have S4 := hide (hbk3 _ _ (row_app hR3 ho4 hg4 hv4))
      have hm4 : Below w1.drew.heap.size w1.drew w4 := by
        refine ((Below.refl _ _).alloc (Nat.le_refl _) _).grown hg4 (by simp) (fun i hi => ?_)
        simp [Value.ownBlock] at hi; subst hi; exact Nat.le_refl _
      obtain ⟨FC4, hC4⟩ := S4.out.rot.fst
      refine hK.out _ _ (cell_at hC4 rfl) ?_
      obtain ⟨A4, c4, rfl⟩ := own_form ho4
      have HM4 := hide hm4
      clear hC4 hK hR3 hbk3 ho4 hg4 hv4 hsrc1 hm4
      (repeat (first | (refine ley_skip (by rfl) ?_; try simp only [Act.put, List.setIfInBounds_toArray, List.set_cons_zero, List.set_cons_succ]) | (refine ley_read (v := ?_) (by rfl) ?_ ?_; rotate_left; (focus (intro w' hS'; go_simp; (try with_reducible rfl); done)); try simp only [Act.put, List.setIfInBounds_toArray, List.set_cons_zero, List.set_cons_succ])))
      refine ley_chain rfl (by rfl) (fun K hK => ?_)
      obtain ⟨F5, hR5, -, hbk5⟩ := S4.out.take row_ok (star_ok cell_ok (star_ok row_ok row_ok))
      have hsrc2 : Src w1.drew (cutA B d (k + 1) 2) (m.G.length - (k + 1)) 2 (prs (m.G.drop (k + 1))) := by
        have := HSB.out.cut (k := k + 1) (c := d) (by omega) HCAP.out
        rwa [show (prs m.G).drop ((k + 1) * 2) = prs (m.G.drop (k + 1)) from flat_drop prL 2 (fun _ => rfl) _ _] at this
      refine wp_app (.tmp 27) (.tmp 34) rfl prOk _ 0 (v := .slice A4 (0 + k) c4) (n := 0 + k) (xs := [] ++ prs (m.G.take k)) rfl hR5.1 (A := cutA B d (k + 1) 2) (m := m.G.length - (k + 1)) (c := d - (k + 1)) (news := prs (m.G.drop (k + 1))) rfl (Src.below hsrc2 HM4.out) (by omega) (by omega) (Nat.zero_le _) ?_
      intro v6 w6 ho6 hg6 hv6
      have hl6 : 0 + k + (m.G.length - (k + 1)) = G'.length := by rw [Nat.zero_add]; exact HL'.out
      have hx6 : [] ++ prs (m.G.take k) ++ prs (m.G.drop (k + 1)) = prs G' := by
        rw [List.nil_append, ← HG'.out, ← erase_eq]; simp [prs]
      rw [hl6, hx6] at ho6
      have S6 := hide (hbk5 _ _ (row_app hR5 ho6 hg6 hv6))
      obtain ⟨FC6, hC6⟩ := S6.out.rot.fst
      refine hK.out _ _ (cell_at hC6 rfl) ?_
      obtain ⟨A6, c6, rfl⟩ := own_form ho6
      obtain ⟨F7, hC7, -, hbk7⟩ := S6.out.last3.drop.rot.take cell_ok (star_ok row_ok row_ok)
      have k1 := cell_at hC7 (i := 2) rfl
      have k2 := cell_free hC7 2
      have HFIN := hide (hbk7 _ _ (cell_set hC7 2 (.slice A6 G'.length c6))).in2
      clear hC6 hK hR5 hbk5 ho6 hg6 hv6 hsrc2 hl6 hx6 hC7 hbk7
      (repeat (first | (refine ley_skip (by rfl) ?_; try simp only [Act.put, List.setIfInBounds_toArray, List.set_cons_zero, List.set_cons_succ]) | (refine ley_read (v := ?_) (by rfl) ?_ ?_; rotate_left; (focus (intro w' hS'; go_simp; (try with_reducible rfl); done)); try simp only [Act.put, List.setIfInBounds_toArray, List.set_cons_zero, List.set_cons_succ])))
      refine ley_last rfl (by rfl) (fun K hK => ?_)
      go_wp2_with fail
      refine hK.out _ _ ?_
      go_wp2
      go_ret
      refine ⟨by rw [he.out]; rfl, ?_⟩
      rw [hr.out]
      exact (HFIN.out.post (star_ok cell_ok (star_ok row_ok row_ok))).imp fun F' h => ⟨⟨A, c, A6, c6, h.1⟩, h.2⟩
end Go.Proofs.Ytolpcjpnjicmkaa
