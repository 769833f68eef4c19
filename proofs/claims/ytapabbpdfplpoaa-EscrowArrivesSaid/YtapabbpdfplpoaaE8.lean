/-
  Escrow: slices.Delete of the first message, in memory.
-/
import Derived.Test.YtapabbpdfplpoaaE7
import Derived.Test.YtapabbpdfplpoaaDel
import Derived.Test.YtapabbpdfplpoaaLew
set_option linter.unusedSimpArgs false
set_option linter.unusedVariables false
namespace Go.Proofs.Ytapabbpdfplpoaa
open Go.RowKit Go.CH Go.CH.Esc
open Go.ChangeMaps (setBlock)

theorem msgOk : SliceOk Try.prog 105 124 (.agg #[.slice none 0 0, .int .i64 0, .int .i64 0, .bool false]) 4 48 := ⟨Try.underlying105, by kernel_rfl, rfl, by decide⟩
theorem zeroM : ∀ w, (zeroValue 124).run Try.prog w = .ok (.agg #[.slice none 0 0, .int .i64 0, .int .i64 0, .bool false]) w := fun w => by kernel_rfl
set_option maxRecDepth 100000 in
set_option maxHeartbeats 1600000 in
theorem del_any {w : World} {F : Nat → Prop} {g n c : Nat} {xs : List Value} (h : RowO 124 4 (.slice (some ⟨g, 0, none⟩) (n + 1) c) (n + 1) xs w F) (h1 : ∀ u ∈ xs, u.oneCell' = true) (hn : n ≤ 100) :
    Calls Try.prog 102 #[.slice (some ⟨g, 0, none⟩) (n + 1) c, .int .i64 0, .int .i64 1] w
      (fun e w' => e = .returned (.slice (some ⟨g, 0, none⟩) n c) ∧ Post w F (RowO 124 4 (.slice (some ⟨g, 0, none⟩) n c) n (xs.drop 4)) w') := by
  have hc := (row_cap h.1).1
  have hci : (0 : Int) ≤ (n : Int) + 1 ∧ (n : Int) + 1 ≤ (c : Int) := by omega
  have hcj : (1 : Int) ≤ (n : Int) + 1 := by omega
  have R1 := hide ((Run.start h).drew row_ok)
  have hsrc : Src w.drew (cutA (some ⟨g, 0, none⟩) c 1 4) n 4 (xs.drop 4) := by
    obtain ⟨F', hF', -⟩ := R1.out.all row_ok
    exact Src.cut (k := 1) (c := c) (Src.of_own hF'.1 h1) (by omega) hc
  obtain ⟨ad, had⟩ : ∃ ad, cutA (some ⟨g, 0, none⟩) c 1 4 = some ad := by unfold cutA; split <;> exact ⟨_, rfl⟩
  rw [had] at hsrc
  have HSRC := hide hsrc
  have HC := hide hc
  have hA : (if c = 1 then some (⟨g, 0, none⟩ : Addr) else some ⟨g, 4, none⟩) = some ad := by rw [← had, cutA]; split <;> rfl
  clear hsrc hc had h h1
  go_enter Try.func102, Try.ntmps102
  go_wp2_with fail
  refine wp_region_lew [6] [0, 0, 0, 0, 0, 0, 1, 1] (fun _ => True) (fun _ => True) (fun _ => True) (fun _ => True) (fun _ h => h) (fun _ h => h) (fun _ h => h) (by kernel_rfl) (by kernel_rfl) (by kernel_rfl) (by kernel_rfl) trivial ?_
  (repeat (first | (refine lew_skip (by rfl) (by rfl) ?_; try simp only [Act.put, List.setIfInBounds_toArray, List.set_cons_zero, List.set_cons_succ]) | (refine lew_read0 (v := ?_) (by rfl) (by rfl) ?_ ?_; rotate_left; (focus (intro w' hS'; go_simp; (try with_reducible rfl); done)); try simp only [Act.put, List.setIfInBounds_toArray, List.set_cons_zero, List.set_cons_succ]) | (refine lew_read1 (v := ?_) (by rfl) (by rfl) ?_ ?_; rotate_left; (focus (intro w' hS'; go_simp; (try with_reducible rfl); done)); try simp only [Act.put, List.setIfInBounds_toArray, List.set_cons_zero, List.set_cons_succ]) | (refine lew_read2 (v := ?_) (by rfl) (by rfl) ?_ ?_; rotate_left; (focus (intro w' hS'; go_simp; (try with_reducible rfl); done)); try simp only [Act.put, List.setIfInBounds_toArray, List.set_cons_zero, List.set_cons_succ]) | (refine lew_read3 (v := ?_) (by rfl) (by rfl) ?_ ?_; rotate_left; (focus (intro w' hS'; go_simp; (try with_reducible rfl); done)); try simp only [Act.put, List.setIfInBounds_toArray, List.set_cons_zero, List.set_cons_succ]) | (refine lew_read4 (v := ?_) (by rfl) (by rfl) ?_ ?_; rotate_left; (focus (intro w' hS'; go_simp; (try with_reducible rfl); done)); try simp only [Act.put, List.setIfInBounds_toArray, List.set_cons_zero, List.set_cons_succ])))
  refine lew_chain1 rfl (by rfl) (fun K hK => ?_)
  obtain ⟨F1, hR1, hbk1⟩ := R1.out.all row_ok
  have hR1' := row_shrink hR1 (Nat.zero_le (n + 1))
  refine wp_app_room (.tmp 22) (.tmp 25) rfl msgOk _ 0 (g := g) (c := c) (n := 0) (xs := []) rfl hR1'.1 (ad := ad) (m := n) (d := c - 1) (news := xs.drop 4) (by first | rfl | (rw [← hA]; rfl)) HSRC.out (by have := HC.out; omega) (by omega) (by omega) (Nat.zero_le _) ?_
  intro w2 ho2 hg2
  have S2 := hbk1 _ _ (row_app hR1' ho2 hg2 (.inl rfl))
  rw [Nat.zero_add, List.nil_append] at S2
  obtain ⟨F2, hR2, hbk2⟩ := S2.all row_ok
  have hclr := run_clear_tail msgOk zeroM (by intro u hu; simp [Value.cells] at hu; rcases hu with rfl | rfl | rfl | rfl <;> rfl) 0 hR2 (m := 1) (d := c - n) HC.out (by omega)
  obtain ⟨w3, hrun3, hP3⟩ := hclr
  have HFIN := hide ((hbk2 _ _ hP3).post row_ok)
  have hcn : ¬ c = n := by have := HC.out; omega
  have hb0 : (0 : Int) ≤ (n : Int) ∧ (n : Int) ≤ (n : Int) + 1 := by omega
  rw [Nat.zero_add]
  refine hK.out _ _ trivial ?_
  clear hK R1 hR1 hbk1 hR1' ho2 hg2 S2 hR2 hbk2 hP3 HSRC
  (repeat (first | (refine lew_skip (by rfl) (by rfl) ?_; try simp only [Act.put, List.setIfInBounds_toArray, List.set_cons_zero, List.set_cons_succ]) | (refine lew_read0 (v := ?_) (by rfl) (by rfl) ?_ ?_; rotate_left; (focus (intro w' hS'; go_simp; (try with_reducible rfl); done)); try simp only [Act.put, List.setIfInBounds_toArray, List.set_cons_zero, List.set_cons_succ]) | (refine lew_read1 (v := ?_) (by rfl) (by rfl) ?_ ?_; rotate_left; (focus (intro w' hS'; go_simp; (try with_reducible rfl); done)); try simp only [Act.put, List.setIfInBounds_toArray, List.set_cons_zero, List.set_cons_succ]) | (refine lew_read2 (v := ?_) (by rfl) (by rfl) ?_ ?_; rotate_left; (focus (intro w' hS'; go_simp; (try with_reducible rfl); done)); try simp only [Act.put, List.setIfInBounds_toArray, List.set_cons_zero, List.set_cons_succ]) | (refine lew_read3 (v := ?_) (by rfl) (by rfl) ?_ ?_; rotate_left; (focus (intro w' hS'; go_simp; (try with_reducible rfl); done)); try simp only [Act.put, List.setIfInBounds_toArray, List.set_cons_zero, List.set_cons_succ]) | (refine lew_read4 (v := ?_) (by rfl) (by rfl) ?_ ?_; rotate_left; (focus (intro w' hS'; go_simp; (try with_reducible rfl); done)); try simp only [Act.put, List.setIfInBounds_toArray, List.set_cons_zero, List.set_cons_succ])))
  refine lew_nil ?_
  go_wp2
  go_ret
  exact ⟨rfl, HFIN.out⟩
end Go.Proofs.Ytapabbpdfplpoaa
