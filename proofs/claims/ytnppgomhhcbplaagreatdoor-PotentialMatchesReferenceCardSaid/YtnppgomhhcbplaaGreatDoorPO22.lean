/-
  The reference of layer 12: Place.
  Elements of a row of structs, written: any cells of one element.
  The reference of layer 12: put.
  The reference of layer 12: States, plainly: the layers.
  The reference of layer 12: States, plainly: the least costs.
  The reference of layer 12: States: the layers in memory.
-/
import Derived.Test.YtnppgomhhcbplaaGreatDoorPO21
import Derived.Deep.DeepCutAuto
import Derived.Test.YtnppgomhhcbplaaGreatDoorPO5
import Derived.Test.YtnppgomhhcbplaaGreatDoorPO18
set_option linter.unusedSimpArgs false
set_option linter.unusedVariables false
namespace Go.CH.Pot
open Go.CH.Scr
/-- The same state. -/
def sameP (p q : Pt) : Prop := p.i = q.i ∧ p.j = q.j ∧ p.a = q.a ∧ p.r = q.r
instance (p q : Pt) : Decidable (sameP p q) := by unfold sameP; infer_instance
/-- Where a state stands, or would stand. -/
def placeN (l : List Pt) (s : Pt) : Nat := l.findIdx fun p => !decide (ltP p s)
def isP (l : List Pt) (s : Pt) : Bool := l.any fun p => decide (sameP p s)
section
variable {l : List Pt} {s p q r : Pt}
theorem place_eq {k : Nat} (hk : k ≤ l.length) (h1 : ∀ i (hi : i < l.length), i < k → ltP l[i] s) (h2 : ∀ (hi : k < l.length), ¬ ltP l[k] s) : placeN l s = k := by
  unfold placeN
  by_cases hlt : k < l.length
  · rw [List.findIdx_eq hlt]
    exact ⟨by simp [h2 hlt], fun j hj => by simp [h1 j (by omega) hj]⟩
  · have e : k = l.length := by omega
    rw [e, List.findIdx_eq_length]
    intro p hp
    obtain ⟨i, hi, rfl⟩ := List.mem_iff_getElem.1 hp
    simp [h1 i hi (by omega)]
theorem is_eq (hs : l.Pairwise ltP) {k : Nat} (h1 : ∀ i (hi : i < l.length), i < k → ltP l[i] s) (hk : k < l.length) (h2 : ¬ ltP l[k] s) : isP l s = !decide (ltP s l[k]) := by
  unfold isP
  rw [Bool.eq_iff_iff, List.any_eq_true]
  simp only [decide_eq_true_eq, Bool.not_eq_true', decide_eq_false_iff_not]
  constructor
  · rintro ⟨p, hp, hsm⟩ h3
    obtain ⟨i, hi, rfl⟩ := List.mem_iff_getElem.1 hp
    have hls : ∀ x : Pt, ltP x s → ltP x l[i] := fun x hx => by unfold ltP sameP at *; rw [hsm.1, hsm.2.1, hsm.2.2.1, hsm.2.2.2]; exact hx
    have hls2 : ∀ x : Pt, ltP s x → ltP l[i] x := fun x hx => by unfold ltP sameP at *; rw [hsm.1, hsm.2.1, hsm.2.2.1, hsm.2.2.2]; exact hx
    by_cases hik : i < k
    · exact ltP_irr _ (hls _ (h1 i hi hik))
    · have h4 := hls2 _ h3
      by_cases e : i = k
      · subst e; exact ltP_irr _ h4
      · exact ltP_irr _ (ltP_trans h4 (List.pairwise_iff_getElem.1 hs k i hk hi (by omega)))
  · intro h3
    refine ⟨l[k], List.getElem_mem hk, ?_⟩
    rcases ltP_tri l[k] s with h | h | h
    · exact absurd h h2
    · exact h
    · exact absurd h h3
theorem is_none (h1 : ∀ i (hi : i < l.length), ltP l[i] s) : isP l s = false := by
  unfold isP
  rw [List.any_eq_false]
  intro p hp
  obtain ⟨i, hi, rfl⟩ := List.mem_iff_getElem.1 hp
  simp only [decide_eq_true_eq]
  intro hsm
  have := h1 i hi
  have hls : ltP l[i] l[i] := by
    unfold ltP sameP at *
    rw [hsm.1, hsm.2.1, hsm.2.2.1, hsm.2.2.2] at this ⊢
    exact this
  exact ltP_irr _ hls
end
end Go.CH.Pot
namespace Go.Proofs.YtnppgomhhcbplaaGreatDoor
open Go.RowKit Go.CH Go.CH.Scr Go.CH.Pot
open Go.ChangeMaps (setBlock)
set_option maxRecDepth 100000
set_option maxHeartbeats 6400000 in
theorem rplace_any {w : World} {A : Option Addr} {c : Nat} {l : List Pt} (hA : PtsR w A l) (hl : l.length ≤ 1000000) (hs : l.Pairwise ltP) (s : Pt) :
    Calls Tryz.prog 37 #[.slice A l.length c, .agg (pcells s).toArray] w (BelowRet w (.tuple #[.int .i64 (placeN l s : Nat), .bool (isP l s)])) := by
  have h1 := run_new (Run.begin w) emp_ok (pcells s).toArray 37
  have HB1 := hide (show Below w.heap.size w _ from h1.mod.below (fun _ _ h => h))
  have HBX := hide (fun W (h : Below (w.alloc (.cells (pcells s).toArray 37)).heap.size (w.alloc (.cells (pcells s).toArray 37)) W) => (show W.cell? ⟨w.heap.size, 0, none⟩ = some (.int .i64 s.i) ∧ W.cell? ⟨w.heap.size, 1, none⟩ = some (.int .i64 s.j) ∧ W.cell? ⟨w.heap.size, 2, none⟩ = some (.string (bs s.a)) ∧ W.cell? ⟨w.heap.size, 3, none⟩ = some (.bool s.r) ∧ W.cell? ⟨w.heap.size, 4, none⟩ = some (.int .i64 s.h) from by
    obtain ⟨f, hf⟩ := (h1.below (star_ok cell_ok emp_ok) h).fst
    exact ⟨cell_at hf rfl, cell_at hf rfl, cell_at hf rfl, cell_at hf rfl, cell_at hf rfl⟩))
  have KL := hide (fun W p q => rless_any p q W)
  have HA := hide hA
  have HL := hide hl
  have HS := hide hs
  clear hA hl hs h1
  obtain ⟨n, hn⟩ : ∃ n, n = l.length := ⟨_, rfl⟩
  have HN := hide hn
  rw [← hn]
  clear hn
  obtain ⟨si, sj, sa, sr, sh⟩ := s
  have HP := hide (fun k h1 h2 h3 => place_eq (l := l) (s := ⟨si, sj, sa, sr, sh⟩) (k := k) h1 h2 h3)
  have HI := hide (fun k h1 hk h2 => is_eq (l := l) (s := ⟨si, sj, sa, sr, sh⟩) (k := k) HS.out h1 hk h2)
  have HZ := hide (fun h1 => is_none (l := l) (s := ⟨si, sj, sa, sr, sh⟩) h1)
  generalize placeN l ⟨si, sj, sa, sr, sh⟩ = pN at *
  generalize isP l ⟨si, sj, sa, sr, sh⟩ = iN0 at *
  unfold pcells at HB1 HBX ⊢
  dsimp only at HB1 HBX ⊢
  go_enter Tryz.func37, Tryz.ntmps37
  go_wp2_with fail
  generalize w.alloc (.cells #[.int .i64 si, .int .i64 sj, .string (bs sa), .bool sr, .int .i64 sh] 37) = w1 at *
  generalize w.heap.size = g3 at HBX ⊢
  have HB0 := hide (Below.refl w1.heap.size w1)
  go_loopw [6, 7] (fun u v wr => ∃ lo hi : Nat, lo ≤ hi ∧ hi ≤ n ∧ u = .int .i64 lo ∧ v = .int .i64 hi ∧ (∀ i (h : i < l.length), i < lo → ltP l[i] ⟨si, sj, sa, sr, sh⟩) ∧ (∀ i (h : i < l.length), hi ≤ i → ¬ ltP l[i] ⟨si, sj, sa, sr, sh⟩) ∧ Below w1.heap.size w1 wr) (fun u v _ => (intOf v).toNat - (intOf u).toNat)
  case atStart => exact ⟨0, n, Nat.zero_le _, Nat.le_refl _, rfl, rfl, fun i _ h => absurd h (Nat.not_lt_zero _), fun i h h2 => by have := HN.out; omega, HB0.out⟩
  case round =>
    obtain ⟨lo, hi, hlh, hhn, rfl, rfl, hlow, hhigh, hb⟩ := hrel
    have HBE := hide hb
    have HLO := hide hlow
    have HHI := hide hhigh
    clear hb hlow hhigh
    have hnb : (n : Int) ≤ 1000000 := by have := HL.out; have := HN.out; omega
    by_cases hlt : lo < hi
    · have tq : ((lo : Int) + (hi : Int)) / 2 = (((lo + hi) / 2 : Nat) : Int) := by omega
      have hm1 : lo ≤ (lo + hi) / 2 := by omega
      have hm2 : (lo + hi) / 2 < hi := by omega
      go_upto_region 5 with (fail)
      rw [tq]
      generalize hmm : (lo + hi) / 2 = m at *
      clear tq hmm
      have hml : m < l.length := by have := HN.out; omega
      have hmn : (m : Int) < (n : Int) := by omega
      obtain ⟨b, o, rfl, hc⟩ := PtsR.at HA.out (by omega)
      have HBD := hide (bel_trans HBE.out ((Below.refl wr.heap.size wr).drew))
      have HCM := hide (fun W (h : Below w1.heap.size w1 W) => hc W (bel_trans HB1.out h) m hml)
      have HLE := hide (show ltP l[m] ⟨si, sj, sa, sr, sh⟩ → ∀ i (h : i < l.length), i < m + 1 → ltP l[i] ⟨si, sj, sa, sr, sh⟩ from fun hx i h him => by
        by_cases e : i = m
        · subst e; exact hx
        · exact ltP_trans (List.pairwise_iff_getElem.1 HS.out i m h hml (by omega)) hx)
      have HGE := hide (show ¬ ltP l[m] ⟨si, sj, sa, sr, sh⟩ → ∀ i (h : i < l.length), m ≤ i → ¬ ltP l[i] ⟨si, sj, sa, sr, sh⟩ from fun hx i h him hy => by
        by_cases e : i = m
        · subst e; exact hx hy
        · exact hx (ltP_trans (List.pairwise_iff_getElem.1 HS.out m i hml h (by omega)) hy))
      have K1 := hide (fun W => KL.out W l[m] ⟨si, sj, sa, sr, sh⟩)
      clear hc
      generalize l[m] = p at *
      obtain ⟨pi, pj, pa, pr, ph⟩ := p
      unfold pcells at K1
      dsimp only at HCM K1
      have hS0 := And.intro (HCM.out _ HBD.out) (HBX.out _ HBD.out)
      refine wp_region_lex (fun W : World => (W.cell? ⟨b, o + m * 5, none⟩ = some (.int .i64 pi) ∧ W.cell? ⟨b, o + m * 5 + 1, none⟩ = some (.int .i64 pj) ∧ W.cell? ⟨b, o + m * 5 + 2, none⟩ = some (.string (bs pa)) ∧ W.cell? ⟨b, o + m * 5 + 3, none⟩ = some (.bool pr) ∧ W.cell? ⟨b, o + m * 5 + 4, none⟩ = some (.int .i64 ph)) ∧ (W.cell? ⟨g3, 0, none⟩ = some (.int .i64 si) ∧ W.cell? ⟨g3, 1, none⟩ = some (.int .i64 sj) ∧ W.cell? ⟨g3, 2, none⟩ = some (.string (bs sa)) ∧ W.cell? ⟨g3, 3, none⟩ = some (.bool sr) ∧ W.cell? ⟨g3, 4, none⟩ = some (.int .i64 sh))) (by kernel_rfl) (by kernel_rfl) hS0 ?_
      clear hS0
      generalize wr.drew = w2 at *
      (repeat (first | (refine lex_skip (by rfl) ?_; try simp only [Act.put, List.setIfInBounds_toArray, List.set_cons_zero, List.set_cons_succ]) | (refine lex_read (v := ?_) (by rfl) ?_ ?_; rotate_left; (focus (intro w' hS'; go_simp; (try with_reducible rfl); done)); try simp only [Act.put, List.setIfInBounds_toArray, List.set_cons_zero, List.set_cons_succ])))
      refine lex_chain rfl (by rfl) (fun K hK => ?_)
      go_wp2_with fail
      refine (K1.out w2).mono ?_
      rintro e9 w3 ⟨rfl, hb⟩
      have HB3 := hide (bel_trans HBD.out hb)
      refine hK.out _ _ ⟨HCM.out _ HB3.out, HBX.out _ HB3.out⟩ ?_
      clear hK hb K1
      have HLH := hide hhn
      have HM1 := hide hm1
      have HM2 := hide hm2
      by_cases hx : ltP ⟨pi, pj, pa, pr, ph⟩ ⟨si, sj, sa, sr, sh⟩
      · rw [decide_eq_true hx]
        have HN1 := hide (HLE.out hx)
        clear hx
        (repeat (first | (refine lex_skip (by rfl) ?_; try simp only [Act.put, List.setIfInBounds_toArray, List.set_cons_zero, List.set_cons_succ]) | (refine lex_read (v := ?_) (by rfl) ?_ ?_; rotate_left; (focus (intro w' hS'; go_simp; (try with_reducible rfl); done)); try simp only [Act.put, List.setIfInBounds_toArray, List.set_cons_zero, List.set_cons_succ])))
        refine lex_nil ?_
        go_wp2
        go_roundw
        case rel => exact ⟨m + 1, hi, HM2.out, HLH.out, by go_num, rfl, HN1.out, HHI.out, HB3.out⟩
        case measure => have := HM1.out; have := HM2.out; simp [intOf]; omega
      · rw [decide_eq_false hx]
        have HN1 := hide (HGE.out hx)
        clear hx
        (repeat (first | (refine lex_skip (by rfl) ?_; try simp only [Act.put, List.setIfInBounds_toArray, List.set_cons_zero, List.set_cons_succ]) | (refine lex_read (v := ?_) (by rfl) ?_ ?_; rotate_left; (focus (intro w' hS'; go_simp; (try with_reducible rfl); done)); try simp only [Act.put, List.setIfInBounds_toArray, List.set_cons_zero, List.set_cons_succ])))
        refine lex_nil ?_
        go_wp2
        go_roundw
        case rel => exact ⟨lo, m, HM1.out, by have := HM2.out; have := HLH.out; omega, rfl, rfl, HLO.out, HN1.out, HB3.out⟩
        case measure => have := HM1.out; have := HM2.out; simp [intOf]; omega
    · have he : hi = lo := by omega
      subst he
      have hPL := HP.out hi (by have := HN.out; omega) HLO.out (fun h => HHI.out hi h (Nat.le_refl _))
      have HPL := hide hPL
      clear hPL hlt hlh
      by_cases hin : hi < n
      · have hil : hi < l.length := by have := HN.out; omega
        have hin2 : (hi : Int) < (n : Int) := by omega
        obtain ⟨b, o, rfl, hc⟩ := PtsR.at HA.out (by omega)
        have HBD := hide (bel_trans HBE.out ((Below.refl wr.heap.size wr).drew))
        have HCM := hide (fun W (h : Below w1.heap.size w1 W) => hc W (bel_trans HB1.out h) hi hil)
        have K1 := hide (fun W => KL.out W ⟨si, sj, sa, sr, sh⟩ l[hi])
        have HIV := hide (HI.out hi HLO.out hil (HHI.out hi hil (Nat.le_refl _)))
        clear hc
        generalize l[hi] = p at *
        obtain ⟨pi, pj, pa, pr, ph⟩ := p
        unfold pcells at K1
        dsimp only at HCM K1
        generalize decide (ltP ⟨si, sj, sa, sr, sh⟩ ⟨pi, pj, pa, pr, ph⟩) = lb at *
        go_upto_region 8 with (fail)
        have hS0 := And.intro (HCM.out _ HBD.out) (HBX.out _ HBD.out)
        refine wp_region_lex (fun W : World => (W.cell? ⟨b, o + hi * 5, none⟩ = some (.int .i64 pi) ∧ W.cell? ⟨b, o + hi * 5 + 1, none⟩ = some (.int .i64 pj) ∧ W.cell? ⟨b, o + hi * 5 + 2, none⟩ = some (.string (bs pa)) ∧ W.cell? ⟨b, o + hi * 5 + 3, none⟩ = some (.bool pr) ∧ W.cell? ⟨b, o + hi * 5 + 4, none⟩ = some (.int .i64 ph)) ∧ (W.cell? ⟨g3, 0, none⟩ = some (.int .i64 si) ∧ W.cell? ⟨g3, 1, none⟩ = some (.int .i64 sj) ∧ W.cell? ⟨g3, 2, none⟩ = some (.string (bs sa)) ∧ W.cell? ⟨g3, 3, none⟩ = some (.bool sr) ∧ W.cell? ⟨g3, 4, none⟩ = some (.int .i64 sh))) (by kernel_rfl) (by kernel_rfl) hS0 ?_
        clear hS0
        generalize wr.drew = w2 at *
        (repeat (first | (refine lex_skip (by rfl) ?_; try simp only [Act.put, List.setIfInBounds_toArray, List.set_cons_zero, List.set_cons_succ]) | (refine lex_read (v := ?_) (by rfl) ?_ ?_; rotate_left; (focus (intro w' hS'; go_simp; (try with_reducible rfl); done)); try simp only [Act.put, List.setIfInBounds_toArray, List.set_cons_zero, List.set_cons_succ])))
        refine lex_chain rfl (by rfl) (fun K hK => ?_)
        go_wp2_with fail
        refine (K1.out w2).mono ?_
        rintro e9 w3 ⟨rfl, hb⟩
        have HB3 := hide (bel_trans HBD.out hb)
        refine hK.out _ _ ⟨HCM.out _ HB3.out, HBX.out _ HB3.out⟩ ?_
        clear hK hb K1
        (repeat (first | (refine lex_skip (by rfl) ?_; try simp only [Act.put, List.setIfInBounds_toArray, List.set_cons_zero, List.set_cons_succ]) | (refine lex_read (v := ?_) (by rfl) ?_ ?_; rotate_left; (focus (intro w' hS'; go_simp; (try with_reducible rfl); done)); try simp only [Act.put, List.setIfInBounds_toArray, List.set_cons_zero, List.set_cons_succ])))
        refine lex_nil ?_
        go_wp2
        refine bodyPost_ret (results_tmp2 rfl _ _ _) rfl ?_
        rw [HPL.out, HIV.out]
        exact ⟨rfl, bel_trans HB1.out HB3.out⟩
      · have HIV := hide (HZ.out (fun i h => HLO.out i h (by have := HN.out; omega)))
        have HBD := hide (bel_trans HBE.out ((Below.refl wr.heap.size wr).drew))
        have hin2 : decide (hi < n) = false := decide_eq_false hin
        have hin3 : decide ((hi : Int) < (n : Int)) = false := decide_eq_false (by omega)
        go_upto_region 8 with (fail)
        refine wp_region_lex (fun w' => w' = wr.drew) (by kernel_rfl) (by kernel_rfl) rfl ?_
        generalize wr.drew = w2 at *
        (repeat (first | (refine lex_skip (by rfl) ?_; try simp only [Act.put, List.setIfInBounds_toArray, List.set_cons_zero, List.set_cons_succ]) | (refine lex_read (v := ?_) (by rfl) ?_ ?_; rotate_left; (focus (intro w' hS'; go_simp; (try with_reducible rfl); done)); try simp only [Act.put, List.setIfInBounds_toArray, List.set_cons_zero, List.set_cons_succ])))
        refine lex_nil ?_
        go_wp2
        refine bodyPost_ret (results_tmp2 rfl _ _ _) rfl ?_
        rw [HPL.out, HIV.out]
        exact ⟨rfl, bel_trans HB1.out HBD.out⟩
end Go.Proofs.YtnppgomhhcbplaaGreatDoor
namespace Go.CH
open Go.RowKit

theorem mid_sets (pre post : List Value) : ∀ (l : List (Nat × Value)) (mid : List Value), (∀ x ∈ l, x.1 < mid.length) →
    l.foldl (fun xs x => xs.set (pre.length + x.1) x.2) (pre ++ (mid ++ post)) = pre ++ (l.foldl (fun m x => m.set x.1 x.2) mid ++ post)
  | [], _, _ => rfl
  | x :: l, mid, h => by
    have h0 := h x (by simp)
    simp only [List.foldl_cons]
    rw [List.set_append_right _ _ (by omega), show pre.length + x.1 - pre.length = x.1 by omega, List.set_append_left _ _ h0]
    exact mid_sets pre post l (mid.set x.1 x.2) (fun y hy => by rw [List.length_set]; exact h y (by simp [hy]))
theorem flat_len' {α : Type} {R : α → List Value} {size : Nat} (hR : ∀ x, (R x).length = size) (l : List α) : (l.flatMap R).length = l.length * size := flat_len hR l
theorem flat_sets {α : Type} {R : α → List Value} {size : Nat} (hR : ∀ x, (R x).length = size) {zs : List α} {k : Nat} (hk : k < zs.length) (l : List (Nat × Value)) (hl : ∀ x ∈ l, x.1 < size) {z : α}
    (hz : l.foldl (fun m x => m.set x.1 x.2) (R zs[k]) = R z) : l.foldl (fun xs x => xs.set (k * size + x.1) x.2) (zs.flatMap R) = (zs.set k z).flatMap R := by
  have e1 : zs.flatMap R = (zs.take k).flatMap R ++ (R zs[k] ++ (zs.drop (k + 1)).flatMap R) := by
    have := congrArg (List.flatMap R) (List.take_append_drop k zs)
    rw [List.flatMap_append, List.drop_eq_getElem_cons hk, List.flatMap_cons] at this
    exact this.symm
  have e2 : (zs.set k z).flatMap R = (zs.take k).flatMap R ++ (R z ++ (zs.drop (k + 1)).flatMap R) := by
    rw [List.set_eq_take_append_cons_drop, if_pos hk]
    simp
  have hp : ((zs.take k).flatMap R).length = k * size := by rw [flat_len hR, List.length_take]; congr 1; omega
  rw [e1, e2, ← hz, ← mid_sets _ _ l _ (fun x hx => by rw [hR]; exact hl x hx), hp]
section
variable {F0 : Nat → Prop} {w0 : World} {X : Own} {e : TypeId} {size g n c : Nat}
theorem run_sets (hX : X.Ok) : ∀ (l : List (Nat × Value)) (xs : List Value) (W : World), (∀ x ∈ l, x.1 < n * size) → Run F0 w0 (star (RowO e size (.slice (some ⟨g, 0, none⟩) n c) n xs) X) W →
    Run F0 w0 (star (RowO e size (.slice (some ⟨g, 0, none⟩) n c) n (l.foldl (fun xs x => xs.set x.1 x.2) xs)) X) (l.foldl (fun w x => w.setCell ⟨g, x.1, none⟩ x.2) W)
  | [], _, _, _, h => h
  | x :: l, xs, W, hl, h => by
    obtain ⟨F, hR, -, bk⟩ := h.take row_ok hX
    exact run_sets hX l _ _ (fun y hy => hl y (by simp [hy])) (bk _ _ (row_set hR (hl x (by simp)) x.2))
theorem run_elem (hX : X.Ok) {α : Type} {R : α → List Value} (hR : ∀ x, (R x).length = size) {zs : List α} (hn : zs.length = n) {k : Nat} (hk : k < zs.length) (l : List (Nat × Value)) (hl : ∀ x ∈ l, x.1 < size) {z : α}
    (hz : l.foldl (fun m x => m.set x.1 x.2) (R zs[k]) = R z) {W : World} (h : Run F0 w0 (star (RowO e size (.slice (some ⟨g, 0, none⟩) n c) n (zs.flatMap R)) X) W) :
    Run F0 w0 (star (RowO e size (.slice (some ⟨g, 0, none⟩) n c) n ((zs.set k z).flatMap R)) X) (l.foldl (fun w x => w.setCell ⟨g, k * size + x.1, none⟩ x.2) W) := by
  have h1 := run_sets hX (l.map fun x => (k * size + x.1, x.2)) (zs.flatMap R) W (fun x hx => by
    obtain ⟨y, hy, rfl⟩ := List.mem_map.1 hx
    have := hl y hy
    have h2 : (k + 1) * size ≤ n * size := Nat.mul_le_mul_right _ (by omega)
    rw [Nat.succ_mul] at h2
    simp only
    omega) h
  rw [List.foldl_map, List.foldl_map, flat_sets hR hk l hl hz] at h1
  exact h1
end
end Go.CH
namespace Go.CH.Pot
open Go.CH.Scr
def putP (l : List Pt) (s : Pt) : List Pt := if isP l s then l else l.take (placeN l s) ++ s :: l.drop (placeN l s)
theorem place_le {l : List Pt} {s : Pt} : placeN l s ≤ l.length := List.findIdx_le_length
theorem put_step {l : List Pt} {y : Pt} {i : Nat} (h0 : 0 < i) (hi : i ≤ l.length) (hx : i - 1 < (l.take i ++ y :: l.drop i).length) : (l.take i ++ y :: l.drop i)[i - 1] = l[i - 1]'(by omega) ∧ (l.take i ++ y :: l.drop i).set i (l[i - 1]'(by omega)) = l.take (i - 1) ++ (l[i - 1]'(by omega)) :: l.drop (i - 1) := by
  have hl : (l.take i).length = i := by rw [List.length_take]; omega
  refine ⟨?_, ?_⟩
  · rw [List.getElem_append_left (by omega)]
    simp
  · rw [List.set_append_right _ _ (by omega), hl, Nat.sub_self, List.set_cons_zero]
    have e1 : l.take i = l.take (i - 1) ++ [l[i - 1]'(by omega)] := by
      have := List.take_succ_eq_append_getElem (l := l) (i := i - 1) (by omega)
      rw [show i - 1 + 1 = i by omega] at this
      exact this
    have e2 : l.drop (i - 1) = l[i - 1]'(by omega) :: l.drop i := by
      have := List.drop_eq_getElem_cons (l := l) (i := i - 1) (by omega)
      rw [show i - 1 + 1 = i by omega] at this
      exact this
    rw [e1, e2, List.append_assoc]
    rfl
theorem put_last {l : List Pt} {y s : Pt} {k : Nat} (hk : k ≤ l.length) : (l.take k ++ y :: l.drop k).set k s = l.take k ++ s :: l.drop k := by
  have hl : (l.take k).length = k := by rw [List.length_take]; omega
  rw [List.set_append_right _ _ (by omega), hl, Nat.sub_self, List.set_cons_zero]
theorem put_len {l : List Pt} {y : Pt} {k : Nat} (hk : k ≤ l.length) : (l.take k ++ y :: l.drop k).length = l.length + 1 := by
  rw [List.length_append, List.length_take, List.length_cons, List.length_drop]; omega
end Go.CH.Pot
namespace Go.Proofs.YtnppgomhhcbplaaGreatDoor
open Go.RowKit Go.CH Go.CH.Scr Go.CH.Pot
open Go.ChangeMaps (setBlock)
set_option maxRecDepth 100000
theorem pts_set {F0 : Nat → Prop} {w0 W : World} {X : CH.Own} {g c k : Nat} {zs : List Pt} (hX : X.Ok) (hk : k < zs.length) (z : Pt) (h : Run F0 w0 (star (PtsO (some ⟨g, 0, none⟩) c zs) X) W) :
    Run F0 w0 (star (PtsO (some ⟨g, 0, none⟩) c (zs.set k z)) X) (((((W.setCell ⟨g, k * 5, none⟩ (.int .i64 z.i)).setCell ⟨g, k * 5 + 1, none⟩ (.int .i64 z.j)).setCell ⟨g, k * 5 + 2, none⟩ (.string (bs z.a))).setCell ⟨g, k * 5 + 3, none⟩ (.bool z.r)).setCell ⟨g, k * 5 + 4, none⟩ (.int .i64 z.h)) := by
  have := run_elem (e := 37) (size := 5) (g := g) (n := zs.length) (c := c) hX (R := pcells) (fun _ => rfl) rfl hk [(0, .int .i64 z.i), (1, .int .i64 z.j), (2, .string (bs z.a)), (3, .bool z.r), (4, .int .i64 z.h)] (fun x hx => by
    simp only [List.mem_cons, List.not_mem_nil, or_false] at hx
    rcases hx with rfl | rfl | rfl | rfl | rfl <;> (show _ < 5; simp)) (z := z) rfl h
  unfold PtsO
  rw [List.length_set]
  exact this
theorem pts_cell {W : World} {F : Nat → Prop} {g c k : Nat} {zs : List Pt} (h : PtsO (some ⟨g, 0, none⟩) c zs W F) (hk : k < zs.length) :
    (W.cell? ⟨g, k * 5, none⟩ = some (.int .i64 zs[k].i) ∧ W.cell? ⟨g, k * 5 + 1, none⟩ = some (.int .i64 zs[k].j) ∧ W.cell? ⟨g, k * 5 + 2, none⟩ = some (.string (bs zs[k].a)) ∧ W.cell? ⟨g, k * 5 + 3, none⟩ = some (.bool zs[k].r) ∧ W.cell? ⟨g, k * 5 + 4, none⟩ = some (.int .i64 zs[k].h)) ∧ ∀ i, W.frozen? ⟨g, i, none⟩ = false := by
  have hc : ∀ d v, d < 5 → (pcells zs[k])[d]? = some v → W.cell? ⟨g, k * 5 + d, none⟩ = some v := fun d v hd hv => row_cell h (by rw [flat_get_ (R := pcells) (size := 5) (fun _ => rfl) hk hd]; exact hv)
  exact ⟨⟨hc 0 _ (by omega) rfl, hc 1 _ (by omega) rfl, hc 2 _ (by omega) rfl, hc 3 _ (by omega) rfl, hc 4 _ (by omega) rfl⟩, fun i => row_free h i (by omega)⟩
set_option maxHeartbeats 6400000 in
theorem rput_any {F0 : Nat → Prop} {w0 w : World} {A : Option Addr} {c : Nat} {l : List Pt} {X : CH.Own} (hX : X.Ok) (hR : Run F0 w0 (star (PtsO A c l) X) w) (hl : l.length ≤ 900000) (hs : l.Pairwise ltP) (s : Pt) :
    Calls Tryz.prog 57 #[.slice A l.length c, .agg (pcells s).toArray] w (fun e w' => ∃ A' c', e = .returned (.slice A' (putP l s).length c') ∧ Run F0 w0 (star (PtsO A' c' (putP l s)) X) w') := by
  have h1 := run_new hR (star_ok pts_ok hX) (pcells s).toArray 37
  have H1 := hide h1
  have KP := hide (fun W (h : PtsR W A l) => rplace_any (w := W) (c := c) h (by omega) hs s)
  have HL := hide hl
  have HPL := hide (place_le (l := l) (s := s))
  have HX := hide hX
  have HPU := hide (show putP l s = if isP l s then l else l.take (placeN l s) ++ s :: l.drop (placeN l s) from rfl)
  clear hR h1 hl hs hX
  generalize putP l s = pu at *
  generalize placeN l s = k at *
  generalize isP l s = b at *
  obtain ⟨si, sj, sa, sr, sh⟩ := s
  unfold pcells at H1 KP ⊢
  dsimp only at H1 KP ⊢
  obtain ⟨n, hn⟩ : ∃ n, n = l.length := ⟨_, rfl⟩
  have HN := hide hn
  rw [← hn] at KP ⊢
  clear hn
  go_enter Tryz.func57, Tryz.ntmps57
  go_upto_region 1 with (fail)
  have okB := hide (show (star (CellO w.heap.size #[.int .i64 si, .int .i64 sj, .string (bs sa), .bool sr, .int .i64 sh] 37) (star (PtsO A c l) X)).Ok from star_ok cell_ok (star_ok pts_ok HX.out))
  generalize w.alloc (.cells #[.int .i64 si, .int .i64 sj, .string (bs sa), .bool sr, .int .i64 sh] 37) = w1 at *
  generalize w.heap.size = g3 at *
  obtain ⟨c0, c1, c2, c3, c4, cf⟩ := run_c5 H1.out
  have K1 := hide (KP.out w1 (by obtain ⟨f, hf⟩ := H1.out.drop.fst; exact pts_of hf))
  clear KP
  go_wp2_with fail
  refine K1.out.mono ?_
  rintro e9 w2 ⟨rfl, hb⟩
  have H2 := hide (H1.out.below okB.out hb)
  clear K1 hb H1 c0 c1 c2 c3 c4 cf
  dsimp only
  cases b with
  | true =>
    have HF := hide (show pu = l by rw [HPU.out]; rfl)
    go_wp2
    go_ret
    refine ⟨A, c, by rw [HF.out, ← HN.out]; rfl, ?_⟩
    rw [HF.out]
    exact H2.out.drop
  | false =>
    have HF := hide (show pu = l.take k ++ ⟨si, sj, sa, sr, sh⟩ :: l.drop k by rw [HPU.out]; rfl)
    clear HPU
    go_wp2_with (at_builtin; refine held ?_)
    refine Held.mk (app_pts rfl (.tmp 16) (.tmp 18) rfl ⟨0, 0, [], false, 0⟩ HN.out.symm rfl rfl (by have := HL.out; have := HN.out; omega) (star_ok cell_ok HX.out) (H2.out.perm (by ac_rfl : _ = star (PtsO A c l) (star (CellO g3 #[.int .i64 si, .int .i64 sj, .string (bs sa), .bool sr, .int .i64 sh] 37) X))) ?_)
    intro A' c' w3 hr3
    have hga : ∃ g, A' = some ⟨g, 0, none⟩ := by
      obtain ⟨F, hF⟩ := hr3.fst
      exact row_addr hF (by rw [List.length_append]; simp)
    obtain ⟨g, rfl⟩ := hga
    have H3 := hide (show Run F0 w0 (star (PtsO (some ⟨g, 0, none⟩) c' (l.take n ++ ⟨0, 0, [], false, 0⟩ :: l.drop n)) (star (CellO g3 #[.int .i64 si, .int .i64 sj, .string (bs sa), .bool sr, .int .i64 sh] 37) X)) w3 from by
      rw [HN.out, List.take_length, List.drop_length]; exact hr3)
    have okR := hide (show (star (CellO g3 #[.int .i64 si, .int .i64 sj, .string (bs sa), .bool sr, .int .i64 sh] 37) X).Ok from star_ok cell_ok HX.out)
    clear hr3 H2 okB
    have hnb : (n : Int) ≤ 900000 := by have := HL.out; have := HN.out; omega
    have HPN := hide (show k ≤ n by have := HPL.out; have := HN.out; omega)
    go_wp2_with fail
    go_loopw [7] (fun v wr => ∃ (i : Nat) (y : Pt), k ≤ i ∧ i ≤ n ∧ v = .int .i64 i ∧ Run F0 w0 (star (PtsO (some ⟨g, 0, none⟩) c' (l.take i ++ y :: l.drop i)) (star (CellO g3 #[.int .i64 si, .int .i64 sj, .string (bs sa), .bool sr, .int .i64 sh] 37) X)) wr) (fun v _ => (intOf v).toNat)
    case atStart => exact ⟨n, _, HPN.out, Nat.le_refl _, by go_num, H3.out⟩
    case round =>
      obtain ⟨i, y, hki, hin, rfl, hR⟩ := hrel
      have HR := hide hR
      clear hR H3
      by_cases hgt : k < i
      · obtain ⟨j, rfl⟩ : ∃ j, i = j + 1 := ⟨i - 1, by omega⟩
        have hjl : j < l.length := by have := HN.out; omega
        have hln := put_len (y := y) (l := l) (k := j + 1) (by omega)
        obtain ⟨e1, e2⟩ := put_step (l := l) (y := y) (i := j + 1) (by omega) (by omega) (by rw [hln]; omega)
        have hj2 : j < (l.take (j + 1) ++ y :: l.drop (j + 1)).length := by rw [hln]; omega
        have HST := hide (fun z W h => pts_set (F0 := F0) (w0 := w0) (g := g) (c := c') (z := z) (W := W) okR.out (show j + 1 < (l.take (j + 1) ++ y :: l.drop (j + 1)).length by rw [hln]; omega) h)
        have e1' : (l.take (j + 1) ++ y :: l.drop (j + 1))[j] = l[j] := by simpa using e1
        have e2' : (l.take (j + 1) ++ y :: l.drop (j + 1)).set (j + 1) l[j] = l.take j ++ l[j] :: l.drop j := by simpa using e2
        obtain ⟨F, hF⟩ := HR.out.fst
        obtain ⟨⟨p0, p1, p2, p3, p4⟩, pf⟩ := pts_cell hF hj2
        have hj3 : j + 1 < (l.take (j + 1) ++ y :: l.drop (j + 1)).length := by rw [hln]; omega
        obtain ⟨⟨q0, q1, q2, q3, q4⟩, -⟩ := pts_cell hF hj3
        generalize hyy : (l.take (j + 1) ++ y :: l.drop (j + 1))[j + 1] = yy at q0 q1 q2 q3 q4
        clear hyy
        rw [e1'] at p0 p1 p2 p3 p4
        have HNX := hide (show Run F0 w0 (star (PtsO (some ⟨g, 0, none⟩) c' (l.take j ++ l[j] :: l.drop j)) (star (CellO g3 #[.int .i64 si, .int .i64 sj, .string (bs sa), .bool sr, .int .i64 sh] 37) X)) _ from by rw [← e2']; exact HST.out l[j] wr HR.out)
        have HJ := hide (show k ≤ j ∧ j ≤ n from ⟨by omega, by omega⟩)
        clear e1 e2 e1' e2' hF F hj2 hj3 hln HST HR
        have hg2 : decide ((k : Int) < ((j + 1 : Nat) : Int)) = true := decide_eq_true (by omega)
        have hjb : ((j + 1 : Nat) : Int) < (n : Int) + 1 := by omega
        generalize hz : l[j] = z at *
        go_wp2_with fail
        go_roundw
        case rel => exact ⟨j, z, HJ.out.1, HJ.out.2, rfl, HNX.out⟩
        case measure => simp [intOf]
      · have hik : i = k := by omega
        subst hik
        have hil : i ≤ l.length := by have := HN.out; omega
        have hln := put_len (y := y) (l := l) hil
        have hi2 : i < (l.take i ++ y :: l.drop i).length := by rw [hln]; omega
        have HST := hide (pts_set (F0 := F0) (w0 := w0) (g := g) (c := c') (W := wr) okR.out hi2 ⟨si, sj, sa, sr, sh⟩ HR.out)
        rw [put_last hil] at HST
        obtain ⟨F, hF⟩ := HR.out.fst
        obtain ⟨⟨q0, q1, q2, q3, q4⟩, pf⟩ := pts_cell hF hi2
        generalize hyy : (l.take i ++ y :: l.drop i)[i] = yy at q0 q1 q2 q3 q4
        obtain ⟨c0, c1, c2, c3, c4, cf⟩ := run_c5 (HR.out.drop)
        have HLN := hide (show (l.take i ++ (⟨si, sj, sa, sr, sh⟩ : Pt) :: l.drop i).length = n + 1 by rw [put_len hil, HN.out])
        clear hyy hF F hi2 hln hil HR
        have hib : (i : Int) < (n : Int) + 1 := by omega
        go_wp2_with fail
        go_ret
        refine ⟨some ⟨g, 0, none⟩, c', by rw [HF.out, HLN.out]; rfl, ?_⟩
        rw [HF.out]
        exact (HST.out.perm (by ac_rfl : _ = star (CellO g3 #[.int .i64 si, .int .i64 sj, .string (bs sa), .bool sr, .int .i64 sh] 37) (star (PtsO (some ⟨g, 0, none⟩) c' (l.take i ++ ⟨si, sj, sa, sr, sh⟩ :: l.drop i)) X))).drop
end Go.Proofs.YtnppgomhhcbplaaGreatDoor
namespace Go.CH.Pot
open Go.CH.Scr
def zp (q : St) : Pt := ⟨q.i, q.j, q.a, q.r, 0⟩
theorem zp_inj {a b : St} (h : zp a = zp b) : a = b := by
  obtain ⟨i, j, x, r⟩ := a
  obtain ⟨i', j', x', r'⟩ := b
  unfold zp at h
  simp only [Pt.mk.injEq, and_true] at h
  obtain ⟨h1, h2, h3, h4⟩ := h
  rw [show i = i' by omega, show j = j' by omega, h3, h4]
theorem same_zp {a b : St} (h : sameP (zp a) (zp b)) : a = b := zp_inj (by unfold sameP zp at *; simp only [Pt.mk.injEq, and_true]; exact h)
section
variable {l : List Pt} {s p : Pt}
theorem place_lt (hs : l.Pairwise ltP) : ∀ i (hi : i < l.length), i < placeN l s → ltP l[i] s := fun i hi h => by
  have := List.not_of_lt_findIdx h
  simpa using this
theorem place_ge (hs : l.Pairwise ltP) : ∀ i (hi : i < l.length), placeN l s ≤ i → ¬ ltP l[i] s := fun i hi h => by
  have hk : placeN l s < l.length := by omega
  have h1 : ¬ ltP l[placeN l s] s := by
    have h2 : (fun p => !decide (ltP p s)) (l[placeN l s]'hk) = true := List.findIdx_getElem (p := fun p => !decide (ltP p s)) (xs := l) (w := hk)
    intro h3
    simp [h3] at h2
  by_cases e : i = placeN l s
  · subst e; exact h1
  · intro h2
    exact h1 (ltP_trans (List.pairwise_iff_getElem.1 hs _ i hk hi (by omega)) h2)
theorem put_sorted (hs : l.Pairwise ltP) : (putP l s).Pairwise ltP := by
  unfold putP
  split
  · exact hs
  · rename_i hn
    rw [List.pairwise_append]
    refine ⟨hs.sublist (List.take_sublist _ _), List.pairwise_cons.2 ⟨fun b hb => ?_, hs.sublist (List.drop_sublist _ _)⟩, fun a ha b hb => ?_⟩
    · rw [List.mem_drop_iff_getElem] at hb
      obtain ⟨i, hi, rfl⟩ := hb
      have h1 := place_ge (s := s) hs (placeN l s + i) (by omega) (by omega)
      rcases ltP_tri l[placeN l s + i] s with h2 | h2 | h2
      · exact absurd h2 h1
      · exfalso
        refine hn ?_
        unfold isP
        rw [List.any_eq_true]
        exact ⟨_, List.getElem_mem _, decide_eq_true h2⟩
      · exact h2
    · rw [List.mem_take_iff_getElem] at ha
      obtain ⟨i, hi, rfl⟩ := ha
      have h1 := place_lt (s := s) hs i (by omega) (by omega)
      rcases List.mem_cons.1 hb with rfl | hb
      · exact h1
      · rw [List.mem_drop_iff_getElem] at hb
        obtain ⟨j, hj, rfl⟩ := hb
        exact List.pairwise_iff_getElem.1 hs i _ (by omega) (by omega) (by omega)
theorem put_mem : p ∈ putP l s ↔ p ∈ l ∨ (p = s ∧ isP l s = false) := by
  unfold putP
  cases h : isP l s with
  | true => simp
  | false =>
    simp only [Bool.false_eq_true, if_false, and_true, List.mem_append, List.mem_cons]
    have e : p ∈ l ↔ p ∈ l.take (placeN l s) ∨ p ∈ l.drop (placeN l s) := by
      rw [← List.mem_append, List.take_append_drop]
    rw [e]
    constructor
    · rintro (h | h | h)
      · exact .inl (.inl h)
      · exact .inr h
      · exact .inl (.inr h)
    · rintro ((h | h) | h)
      · exact .inl h
      · exact .inr (.inr h)
      · exact .inr (.inl h)
end
variable {W : Wd}
/-- A list of states of one layer. -/
def LOk (W : Wd) (n : Nat) (l : List Pt) : Prop := l.Pairwise ltP ∧ ∀ p ∈ l, ∃ q, Rch W st0 q ∧ p = zp q ∧ q.i + q.j = n
def AllZ (W : Wd) (l : List Pt) : Prop := ∀ p ∈ l, ∃ q, Rch W st0 q ∧ p = zp q
theorem put_zp {l : List Pt} {q : St} (hz : AllZ W l) {p : Pt} : p ∈ putP l (zp q) ↔ p ∈ l ∨ p = zp q := by
  rw [put_mem]
  constructor
  · rintro (h | ⟨h, -⟩)
    · exact .inl h
    · exact .inr h
  · rintro (h | h)
    · exact .inl h
    · cases hi : isP l (zp q) with
      | false => exact .inr ⟨h, rfl⟩
      | true =>
        left
        unfold isP at hi
        rw [List.any_eq_true] at hi
        obtain ⟨p', hp', hs⟩ := hi
        obtain ⟨q', -, rfl⟩ := hz p' hp'
        rw [same_zp (of_decide_eq_true hs)] at hp'
        rw [h]; exact hp'
theorem LOk.z {n : Nat} {l : List Pt} (h : LOk W n l) : AllZ W l := fun p hp => by
  obtain ⟨q, h1, h2, -⟩ := h.2 p hp
  exact ⟨q, h1, h2⟩
theorem LOk.put {n : Nat} {l : List Pt} (h : LOk W n l) {q : St} (hq : Rch W st0 q) (hn : q.i + q.j = n) : LOk W n (putP l (zp q)) :=
  ⟨put_sorted h.1, fun p hp => by
    rcases (put_zp h.z).1 hp with h1 | rfl
    · exact h.2 p h1
    · exact ⟨q, hq, rfl, hn⟩⟩
/-- A state that has been walked. -/
def Wk (Ls : List (List Pt)) (n i : Nat) (p : Pt) : Prop := (∃ m, ∃ h : m < Ls.length, m < n ∧ p ∈ Ls[m]) ∨ ∃ h : n < Ls.length, p ∈ Ls[n].take i
/-- Where the first phase stands. -/
structure Ph (W : Wd) (Ls : List (List Pt)) (all : List Pt) (n i : Nat) (q0 : St) (k : Nat) : Prop where
  len : Ls.length = W.l.length + W.m.length + 4
  lay : ∀ m (h : m < Ls.length), LOk W m Ls[m]
  one : ∃ h : 0 < Ls.length, zp st0 ∈ Ls[0]
  srt : all.Pairwise ltP
  mem : ∀ p, p ∈ all ↔ Wk Ls n i p
  mov : ∀ q, zp q ∈ all → ∀ j (hj : j < (W.moves q).length), (q = q0 → j < k) → ∃ h : (W.moves q)[j].2.i + (W.moves q)[j].2.j < Ls.length, zp (W.moves q)[j].2 ∈ Ls[(W.moves q)[j].2.i + (W.moves q)[j].2.j]
section
variable {Ls : List (List Pt)} {all : List Pt} {n i k : Nat} {q0 : St}
theorem Ph.z (h : Ph W Ls all n i q0 k) : AllZ W all := fun p hp => by
  rcases (h.mem p).1 hp with ⟨m, hm, -, hp2⟩ | ⟨hm, hp2⟩
  · exact (h.lay m hm).z p hp2
  · exact (h.lay n hm).z p (List.mem_of_mem_take hp2)
/-- All moves have been followed. -/
theorem Ph.full (h : Ph W Ls all n i q0 k) (hk : (W.moves q0).length ≤ k) (q1 : St) (k1 : Nat) : Ph W Ls all n i q1 k1 :=
  { h with mov := fun q hq j hj _ => h.mov q hq j hj (fun e => by subst e; omega) }
/-- A state is taken up. -/
theorem Ph.take (h : Ph W Ls all n i q0 k) (hk : (W.moves q0).length ≤ k) (hn : n < Ls.length) (hi : i < Ls[n].length) {q : St} (hq : Ls[n][i] = zp q) (hnew : zp q ∉ all) : Ph W Ls (putP all (zp q)) n (i + 1) q 0 := by
  refine { h with srt := put_sorted h.srt, mem := fun p => ?_, mov := fun s hs j hj he => ?_ }
  · rw [put_zp h.z, h.mem]
    unfold Wk
    constructor
    · rintro ((h1 | ⟨h1, h2⟩) | rfl)
      · exact .inl h1
      · exact .inr ⟨h1, by rw [List.take_succ_eq_append_getElem hi]; exact List.mem_append_left _ h2⟩
      · exact .inr ⟨hn, by rw [List.take_succ_eq_append_getElem hi, hq]; exact List.mem_append_right _ (List.mem_singleton.2 rfl)⟩
    · rintro (h1 | ⟨h1, h2⟩)
      · exact .inl (.inl h1)
      · rw [List.take_succ_eq_append_getElem hi, hq] at h2
        rcases List.mem_append.1 h2 with h2 | h2
        · exact .inl (.inr ⟨h1, h2⟩)
        · exact .inr (List.mem_singleton.1 h2)
  · rcases (put_zp h.z).1 hs with h1 | h1
    · exact h.mov s h1 j hj (fun e => by subst e; omega)
    · have := he (zp_inj h1)
      omega
theorem wk_new (h : Ph W Ls all n i q0 k) (hn : n < Ls.length) (hi : i < Ls[n].length) : Ls[n][i] ∉ all := fun hm => by
  rcases (h.mem _).1 hm with ⟨m, hm, hlt, hp⟩ | ⟨hm, hp⟩
  · obtain ⟨a, -, e1, e2⟩ := (h.lay m hm).2 _ hp
    obtain ⟨b, -, e3, e4⟩ := (h.lay n hn).2 _ (List.getElem_mem hi)
    rw [e1] at e3
    have := zp_inj e3
    subst this
    omega
  · rw [List.mem_take_iff_getElem] at hp
    obtain ⟨j, hj, e⟩ := hp
    have := List.pairwise_iff_getElem.1 (h.lay n hn).1 j i (by omega) hi (by omega)
    rw [e] at this
    exact ltP_irr _ this
/-- A move is followed. -/
theorem Ph.step (h : Ph W Ls all n i q0 k) (hq0 : Rch W st0 q0) (hn : q0.i + q0.j = n) (hok : W.ok q0) (hk : k < (W.moves q0).length) :
    ∃ hm : (W.moves q0)[k].2.i + (W.moves q0)[k].2.j < Ls.length, n < (W.moves q0)[k].2.i + (W.moves q0)[k].2.j ∧
      Ph W (Ls.set ((W.moves q0)[k].2.i + (W.moves q0)[k].2.j) (putP Ls[(W.moves q0)[k].2.i + (W.moves q0)[k].2.j] (zp (W.moves q0)[k].2))) all n i q0 (k + 1) := by
  have hmem : ((W.moves q0)[k].1, (W.moves q0)[k].2) ∈ W.moves q0 := List.getElem_mem hk
  have hmo := moves_ok hok hmem
  have hr : Rch W st0 (W.moves q0)[k].2 := Rch.step hq0 hmem
  have hgt : n < (W.moves q0)[k].2.i + (W.moves q0)[k].2.j := by
    have h1 := hmo.2
    have h2 := hmo.1
    have h3 := hok
    unfold Wd.rank at h1
    have := h2.1
    have := h2.2.1
    have := h3.1
    have := h3.2.1
    omega
  have hlt : (W.moves q0)[k].2.i + (W.moves q0)[k].2.j < Ls.length := by
    have := hmo.1.1
    have := hmo.1.2.1
    rw [h.len]; omega
  refine ⟨hlt, hgt, ?_⟩
  generalize hx : (W.moves q0)[k].2 = x at *
  generalize hmm : x.i + x.j = m at *
  have hset : ∀ a (ha : a < Ls.length) (ha2 : a < (Ls.set m (putP Ls[m] (zp x))).length), ∀ p, p ∈ (Ls.set m (putP Ls[m] (zp x)))[a] ↔ p ∈ Ls[a] ∨ (a = m ∧ p = zp x) := fun a ha ha2 p => by
    rw [List.getElem_set]
    by_cases e : m = a
    · subst e
      rw [if_pos rfl, put_zp (h.lay m hlt).z]
      simp
    · rw [if_neg e]
      constructor
      · exact .inl
      · rintro (h1 | ⟨h1, -⟩)
        · exact h1
        · exact absurd h1.symm e
  have hsame : ∀ a (ha : a < Ls.length) (ha2 : a < (Ls.set m (putP Ls[m] (zp x))).length), a ≠ m → (Ls.set m (putP Ls[m] (zp x)))[a] = Ls[a] := fun a ha ha2 hne => by
    rw [List.getElem_set, if_neg (fun e => hne e.symm)]
  refine ⟨by rw [List.length_set]; exact h.len, fun a ha => ?_, ?_, h.srt, fun p => ?_, fun q hq j hj he => ?_⟩
  · rw [List.length_set] at ha
    rw [List.getElem_set]
    by_cases e : m = a
    · subst e
      rw [if_pos rfl]
      exact (h.lay m ha).put hr hmm
    · rw [if_neg e]; exact h.lay a ha
  · obtain ⟨h0, h1⟩ := h.one
    exact ⟨by rw [List.length_set]; exact h0, (hset 0 h0 _ _).2 (.inl h1)⟩
  · rw [h.mem]
    unfold Wk
    constructor
    · rintro (⟨a, ha, hlt2, hp⟩ | ⟨ha, hp⟩)
      · exact .inl ⟨a, by rw [List.length_set]; exact ha, hlt2, (hset a ha _ _).2 (.inl hp)⟩
      · exact .inr ⟨by rw [List.length_set]; exact ha, by rw [hsame n ha (by rw [List.length_set]; exact ha) (by omega)]; exact hp⟩
    · rintro (⟨a, ha, hlt2, hp⟩ | ⟨ha, hp⟩)
      · have ha' : a < Ls.length := by rw [List.length_set] at ha; exact ha
        rw [hsame a ha' ha (by omega)] at hp
        exact .inl ⟨a, ha', hlt2, hp⟩
      · have ha' : n < Ls.length := by rw [List.length_set] at ha; exact ha
        rw [hsame n ha' ha (by omega)] at hp
        exact .inr ⟨ha', hp⟩
  · by_cases e : q = q0 ∧ j = k
    · obtain ⟨rfl, rfl⟩ := e
      simp only [hx, hmm]
      exact ⟨by rw [List.length_set]; exact hlt, (hset m hlt _ _).2 (.inr ⟨rfl, rfl⟩)⟩
    · obtain ⟨h1, h2⟩ := h.mov q hq j hj (fun e2 => by
        have := he e2
        by_cases e3 : j = k
        · exact absurd ⟨e2, e3⟩ e
        · omega)
      exact ⟨by rw [List.length_set]; exact h1, (hset _ h1 _ _).2 (.inl h2)⟩
/-- A layer is done. -/
theorem Ph.next (h : Ph W Ls all n i q0 k) (hn : n < Ls.length) (hi : Ls[n].length ≤ i) : Ph W Ls all (n + 1) 0 q0 k := by
  refine { h with mem := fun p => ?_ }
  rw [h.mem]
  unfold Wk
  constructor
  · rintro (⟨a, ha, hlt, hp⟩ | ⟨ha, hp⟩)
    · exact .inl ⟨a, ha, by omega, hp⟩
    · exact .inl ⟨n, ha, by omega, List.mem_of_mem_take hp⟩
  · rintro (⟨a, ha, hlt, hp⟩ | ⟨ha, hp⟩)
    · by_cases e : a = n
      · subst e
        exact .inr ⟨ha, by rw [List.take_of_length_le hi]; exact hp⟩
      · exact .inl ⟨a, ha, by omega, hp⟩
    · rw [List.take_zero] at hp; cases hp
/-- All layers are done. -/
theorem Ph.done (h : Ph W Ls all n 0 q0 k) (hk : (W.moves q0).length ≤ k) (hn : n = W.l.length + W.m.length + 1) : ∀ q, zp q ∈ all ↔ Rch W st0 q := by
  intro q
  constructor
  · intro hq
    obtain ⟨q', h1, h2⟩ := h.z _ hq
    rw [zp_inj h2]; exact h1
  · intro hr
    induction hr with
    | refl =>
      obtain ⟨h0, h1⟩ := h.one
      exact (h.mem _).2 (.inl ⟨0, h0, by omega, h1⟩)
    | step hr' hm ih =>
      rename_i s s' c
      obtain ⟨j, hj, e⟩ := List.mem_iff_getElem.1 hm
      obtain ⟨h1, h2⟩ := h.mov _ ih j hj (fun e2 => by subst e2; omega)
      have hx : (W.moves s)[j].2 = s' := by rw [e]
      rw [hx] at h1
      simp only [hx] at h2
      have hok := Rch.ok ok0 (Rch.step hr' hm)
      exact (h.mem _).2 (.inl ⟨_, h1, by have := hok.1; have := hok.2.1; omega, h2⟩)
end
end Go.CH.Pot
namespace Go.CH.Pot
open Go.CH.Scr
variable {W : Wd}
/-- The least cost as the reference reckons it. -/
def bigR : Int := 1000000000
def Wd.rd (W : Wd) (s : St) : Int := min (W.dist s) bigR
def minR (W : Wd) (s : St) (i : Nat) : Int := ((W.moves s).take i).foldl (fun h x => min h (x.1 + W.rd x.2)) (if s = W.fin then 0 else bigR)
theorem minR_zero {s : St} : minR W s 0 = if s = W.fin then 0 else bigR := rfl
theorem minR_succ {s : St} {i : Nat} (hi : i < (W.moves s).length) : minR W s (i + 1) = min (minR W s i) ((W.moves s)[i].1 + W.rd (W.moves s)[i].2) := by
  unfold minR
  rw [List.take_succ_eq_append_getElem hi, List.foldl_append]
  rfl
theorem fold_clip {α : Type} (c d : α → Int) (B : Int) : ∀ (l : List α) (a : Int), (∀ x ∈ l, 0 ≤ c x) → l.foldl (fun h x => min h (c x + min (d x) B)) (min a B) = min (l.foldl (fun h x => min h (c x + d x)) a) B
  | [], a, _ => rfl
  | x :: l, a, h => by
    have h0 := h x (List.mem_cons_self ..)
    rw [List.foldl_cons, List.foldl_cons, ← fold_clip c d B l _ (fun y hy => h y (List.mem_cons_of_mem _ hy))]
    congr 1
    omega
theorem minR_all {s : St} (hg : W.good) (hs : W.ok s) : minR W s (W.moves s).length = W.rd s := by
  unfold minR Wd.rd
  rw [List.take_length, dist_eq hs, ← fold_clip (fun x : Int × St => x.1) (fun x => W.dist x.2) bigR _ _ (fun x hx => (good_cost hg (c := x.1) (s' := x.2) hx).1)]
  congr 1
  split
  · rfl
  · rfl
theorem rd_bnd {s : St} (hg : W.good) (hs : W.ok s) : 0 ≤ W.rd s ∧ W.rd s ≤ 1000000000 := by
  have := dist_nonneg hg hs
  unfold Wd.rd bigR
  omega
theorem minR_bnd {s : St} (hg : W.good) (hs : W.ok s) : ∀ i, i ≤ (W.moves s).length → 0 ≤ minR W s i ∧ minR W s i ≤ 1000000000
  | 0, _ => by
    rw [minR_zero]
    unfold bigR
    split <;> omega
  | i + 1, hi => by
    have h1 := minR_bnd hg hs i (by omega)
    have hm : ((W.moves s)[i].1, (W.moves s)[i].2) ∈ W.moves s := List.getElem_mem (by omega)
    have h2 := rd_bnd hg (moves_ok hs hm).1
    have h3 := good_cost hg hm
    rw [minR_succ (by omega)]
    omega
/-- A state with a cost. -/
def ph (h : St → Int) (q : St) : Pt := ⟨q.i, q.j, q.a, q.r, h q⟩
def ltS (a b : St) : Prop := ltP (zp a) (zp b)
def upH (h : St → Int) (s : St) (v : Int) : St → Int := fun q => if q = s then v else h q
theorem ph_sorted {Q : List St} {h : St → Int} (hs : Q.Pairwise ltS) : (Q.map (ph h)).Pairwise ltP := List.pairwise_map.2 hs
theorem sq_nodup {Q : List St} (hs : Q.Pairwise ltS) : Q.Nodup := by
  refine List.Pairwise.imp (fun {a b} hab e => ?_) hs
  subst e
  exact ltP_irr _ hab
theorem ph_place {Q : List St} {h : St → Int} (hs : Q.Pairwise ltS) {k : Nat} (hk : k < Q.length) {p : Pt} (hp : sameP p (zp Q[k])) : placeN (Q.map (ph h)) p = k := by
  have hls : ∀ x : Pt, ltP x p ↔ ltP x (zp Q[k]) := fun x => by unfold ltP sameP at *; rw [hp.1, hp.2.1, hp.2.2.1, hp.2.2.2]
  refine place_eq (by rw [List.length_map]; omega) (fun i hi hik => ?_) (fun hi => ?_)
  · rw [List.length_map] at hi
    rw [List.getElem_map, hls]
    exact List.pairwise_iff_getElem.1 hs i k hi hk hik
  · rw [List.getElem_map, hls]
    exact ltP_irr _
theorem ph_set {Q : List St} {h : St → Int} (hs : Q.Pairwise ltS) {k : Nat} (hk : k < Q.length) (v : Int) : (Q.map (ph h)).set k (ph (upH h Q[k] v) Q[k]) = Q.map (ph (upH h Q[k] v)) := by
  have hn := sq_nodup hs
  refine List.ext_getElem (by rw [List.length_set, List.length_map, List.length_map]) (fun i h1 h2 => ?_)
  rw [List.length_map] at h2
  rw [List.getElem_set]
  by_cases e : k = i
  · subst e
    rw [if_pos rfl, List.getElem_map]
  · rw [if_neg e, List.getElem_map, List.getElem_map]
    have hne : Q[i] ≠ Q[k] := fun e2 => by
      rcases Nat.lt_or_gt_of_ne e with h3 | h3
      · exact List.pairwise_iff_getElem.1 hn k i hk h2 h3 e2.symm
      · exact List.pairwise_iff_getElem.1 hn i k h2 hk h3 e2
    have e3 : upH h Q[k] v Q[i] = h Q[i] := by unfold upH; rw [if_neg hne]
    show ph h Q[i] = (⟨Q[i].i, Q[i].j, Q[i].a, Q[i].r, upH h Q[k] v Q[i]⟩ : Pt)
    rw [e3]
    rfl
theorem upH_at {h : St → Int} {s : St} {v : Int} : upH h s v s = v := by unfold upH; rw [if_pos rfl]
/-- What the second phase begins with. -/
structure P2 (W : Wd) (Q : List St) (Ls : List (List Pt)) : Prop where
  len : Ls.length = W.l.length + W.m.length + 4
  lay : ∀ m (h : m < Ls.length), LOk W m Ls[m]
  srt : Q.Pairwise ltS
  rch : ∀ q, q ∈ Q ↔ Rch W st0 q
  mem : ∀ q, q ∈ Q → ∃ h : q.i + q.j < Ls.length, zp q ∈ Ls[q.i + q.j]
theorem Ph.p2 {Ls : List (List Pt)} {all : List Pt} {n k : Nat} {q0 : St} (h : Ph W Ls all n 0 q0 k) (hk : (W.moves q0).length ≤ k) (hn : n = W.l.length + W.m.length + 1) : ∃ Q, all = Q.map (ph fun _ => 0) ∧ P2 W Q Ls := by
  have hd := h.done hk hn
  have he : ∀ p ∈ all, zp p.st = p := fun p hp => by
    obtain ⟨q, -, rfl⟩ := h.z p hp
    rfl
  have e : all = (all.map Pt.st).map (ph fun _ => 0) := by
    rw [List.map_map]
    refine (List.map_id' all).symm.trans (List.map_congr_left fun p hp => ?_)
    exact (he p hp).symm
  have hm : ∀ q, q ∈ all.map Pt.st ↔ zp q ∈ all := fun q => by
    constructor
    · intro hq
      obtain ⟨p, hp, rfl⟩ := List.mem_map.1 hq
      rw [he p hp]; exact hp
    · intro hq
      exact List.mem_map.2 ⟨zp q, hq, rfl⟩
  refine ⟨all.map Pt.st, e, h.len, h.lay, ?_, fun q => by rw [hm, hd], fun q hq => ?_⟩
  · rw [List.pairwise_map]
    refine List.Pairwise.imp_of_mem (fun {a b} ha hb hab => ?_) h.srt
    unfold ltS
    rw [he a ha, he b hb]
    exact hab
  · rw [hm] at hq
    rcases (h.mem _).1 hq with ⟨m, hml, -, hp⟩ | ⟨hml, hp⟩
    · obtain ⟨q', -, e1, e2⟩ := (h.lay m hml).2 _ hp
      have := zp_inj e1
      subst this
      subst e2
      exact ⟨hml, hp⟩
    · rw [List.take_zero] at hp; cases hp
section
variable {Q : List St} {Ls : List (List Pt)} {h : St → Int} {n i : Nat}
def H1 (W : Wd) (h : St → Int) (n : Nat) : Prop := ∀ q, Rch W st0 q → n ≤ q.i + q.j → h q = W.rd q
def H2 (W : Wd) (Ls : List (List Pt)) (h : St → Int) (n i : Nat) : Prop := ∀ q, Rch W st0 q → (n < q.i + q.j ∨ ∃ j, ∃ hn : n < Ls.length, ∃ hj : j < Ls[n].length, j < i ∧ Ls[n][j] = zp q) → h q = W.rd q
theorem h1_start : H1 W h (W.l.length + W.m.length + 1) := fun q hq hn => by
  have hok := Rch.ok ok0 hq
  have := hok.1
  have := hok.2.1
  omega
theorem H1.lay (hh : H1 W h (n + 1)) : H2 W Ls h n 0 := fun q hq hc => by
  rcases hc with h1 | ⟨j, -, -, h1, -⟩
  · exact hh q hq h1
  · omega
theorem H2.lay (hp : P2 W Q Ls) (hh : H2 W Ls h n i) (hn : n < Ls.length) (hi : Ls[n].length ≤ i) : H1 W h n := fun q hq hc => by
  by_cases e : n = q.i + q.j
  · obtain ⟨h1, h2⟩ := hp.mem q ((hp.rch q).2 hq)
    subst e
    obtain ⟨j, hj, e⟩ := List.mem_iff_getElem.1 h2
    exact hh q hq (.inr ⟨j, hn, hj, by omega, e⟩)
  · exact hh q hq (.inl (by omega))
theorem H2.next (hp : P2 W Q Ls) (hh : H2 W Ls h n i) (hn : n < Ls.length) (hi : i < Ls[n].length) {s : St} (hs : Ls[n][i] = zp s) (hsn : s.i + s.j = n) : H2 W Ls (upH h s (W.rd s)) n (i + 1) := fun q hq hc => by
  unfold upH
  split
  · rename_i e; rw [e]
  · rename_i e
    refine hh q hq ?_
    rcases hc with h1 | ⟨j, a1, a2, a3, a4⟩
    · exact .inl h1
    · refine .inr ⟨j, a1, a2, ?_, a4⟩
      by_cases e2 : j = i
      · subst e2
        rw [hs] at a4
        exact absurd (zp_inj a4).symm e
      · omega
/-- A state of a layer. -/
theorem P2.at (hp : P2 W Q Ls) (hn : n < Ls.length) (hi : i < Ls[n].length) : ∃ s, ∃ k, ∃ hk : k < Q.length, Ls[n][i] = zp s ∧ Q[k] = s ∧ Rch W st0 s ∧ W.ok s ∧ s.i + s.j = n := by
  obtain ⟨q, h1, h2, h3⟩ := (hp.lay n hn).2 _ (List.getElem_mem hi)
  obtain ⟨k, hk, e⟩ := List.mem_iff_getElem.1 ((hp.rch q).2 h1)
  exact ⟨q, k, hk, h2, e, h1, Rch.ok ok0 h1, h3⟩
/-- A state to which a move leads. -/
theorem P2.to (hp : P2 W Q Ls) (hh : H2 W Ls h n i) {s : St} (hr : Rch W st0 s) (hsn : s.i + s.j = n) {j : Nat} (hj : j < (W.moves s).length) : ∃ k, ∃ hk : k < Q.length, Q[k] = (W.moves s)[j].2 ∧ h Q[k] = W.rd (W.moves s)[j].2 ∧ W.ok (W.moves s)[j].2 := by
  have hmem : ((W.moves s)[j].1, (W.moves s)[j].2) ∈ W.moves s := List.getElem_mem hj
  have hok := Rch.ok ok0 hr
  have hmo := moves_ok hok hmem
  have hr' : Rch W st0 (W.moves s)[j].2 := Rch.step hr hmem
  have hgt : n < (W.moves s)[j].2.i + (W.moves s)[j].2.j := by
    have h1 := hmo.2
    have h2 := hmo.1
    unfold Wd.rank at h1
    have := h2.1
    have := h2.2.1
    have := hok.1
    have := hok.2.1
    omega
  obtain ⟨k, hk, e⟩ := List.mem_iff_getElem.1 ((hp.rch _).2 hr')
  exact ⟨k, hk, e, by rw [e]; exact hh _ hr' (.inl hgt), hmo.1⟩
theorem p2_all (hp : P2 W Q Ls) (hh : H1 W h 0) : Q.map (ph h) = Q.map (ph W.rd) := List.map_congr_left fun q hq => by
  unfold ph
  rw [hh q ((hp.rch q).1 hq) (Nat.zero_le _)]
end
/-- How many there can be. -/
theorem few_z {C : List Pt} (hs : C.Pairwise ltP) (hz : AllZ W C) (ht : W.tosOk) (hl : W.l.length ≤ 12) (hm : W.m.length ≤ 12) (hr : W.rs.length ≤ 60) : C.length ≤ 400000 := by
  have hp : ∀ p ∈ C, 0 ≤ p.i ∧ 0 ≤ p.j ∧ p.i.toNat ≤ 12 ∧ p.j.toNat ≤ 12 ∧ p.a ∈ sufs W ∧ p.h = 0 := fun p hC => by
    obtain ⟨q, h3, rfl⟩ := hz p hC
    have hok := h3.ok ok0
    have := hok.1
    have := hok.2.1
    exact ⟨by unfold zp; simp, by unfold zp; simp, by unfold zp; simp; omega, by unfold zp; simp; omega, rch_suf ht h3, rfl⟩
  have hsl := sufs_len (W := W)
  have hnd : C.Nodup := by
    refine List.Pairwise.imp (fun {a b} hab e => ?_) hs
    subst e
    exact ltP_irr _ hab
  have h1 : (C.map (codeP W)).Nodup := by
    rw [List.Nodup, List.pairwise_map]
    refine List.Pairwise.imp_of_mem (fun {a b} ha hb hne he => hne ?_) hnd
    obtain ⟨a1, a2, a3, a4, a5, a7⟩ := hp a ha
    obtain ⟨b1, b2, b3, b4, b5, b7⟩ := hp b hb
    have ia := List.idxOf_lt_length_iff.2 a5
    have ib := List.idxOf_lt_length_iff.2 b5
    unfold codeP at he
    have e1 : (sufs W).idxOf a.a = (sufs W).idxOf b.a := by
      generalize (if a.r = true then 1 else 0) = ra at he
      generalize (if b.r = true then 1 else 0) = rb at he
      omega
    have e2 : (a.i.toNat * 13 + a.j.toNat) * 2 + (if a.r = true then 1 else 0) = (b.i.toNat * 13 + b.j.toNat) * 2 + (if b.r = true then 1 else 0) := by omega
    have e3 : a.r = b.r := by cases ha : a.r <;> cases hb : b.r <;> rw [ha, hb] at e2 <;> simp at e2 ⊢ <;> omega
    rw [e3] at e2
    have e4 : a.a = b.a := by
      have := List.getElem_idxOf ia
      have h2 := List.getElem_idxOf ib
      rw [← this, ← h2]
      congr 1
    have e5 : a.i = b.i ∧ a.j = b.j := by omega
    obtain ⟨i, j, x, r, hh⟩ := a
    obtain ⟨i', j', x', r', hh'⟩ := b
    simp only at e3 e4 e5 a7 b7
    obtain ⟨rfl, rfl⟩ := e5
    subst e3 e4 a7 b7
    rfl
  have h2 : ∀ x ∈ C.map (codeP W), x ∈ List.range 338000 := by
    intro x hx
    obtain ⟨p, hC, rfl⟩ := List.mem_map.1 hx
    obtain ⟨a1, a2, a3, a4, a5, -⟩ := hp p hC
    have ia := List.idxOf_lt_length_iff.2 a5
    rw [List.mem_range]
    unfold codeP
    split <;> omega
  have h3 := List.Nodup.length_le_of_subset h1 h2
  rw [List.length_map, List.length_range] at h3
  omega
end Go.CH.Pot
namespace Go.Proofs.YtnppgomhhcbplaaGreatDoor
open Go.RowKit Go.CH Go.CH.Scr Go.CH.Pot
open Go.ChangeMaps (setBlock)
theorem toList_madeCells_one (z : Value) (n : Nat) : (madeCells #[z] n).toList = List.replicate n z := by
  refine List.ext_getElem? fun i => ?_
  simp only [madeCells, Array.toList_map, Array.toList_range, List.getElem?_map, List.getElem?_range]
  by_cases h : i < n
  · simp [h, Nat.mod_one]
  · simp [h]
theorem wp_make {P : Program} {o : Oper} {a : Act} {w : World} {K : Act → World → Prop} {Q : Exit → Act → World → Prop} {t e : TypeId} {z : Value} {bytes : Nat} (S : SliceOk P t e z 1 bytes) (hby : bytes ≤ 1000) (l : Operand) (hop : o.op = Op.makeSlice t l l) (n : Nat) (hn : n ≤ 1000) (hl : a.eval l = .int .i64 (n : Int)) (hz : z.cells = #[z])
    (hK : ∀ w', Post w (fun _ => False) (RowO e 1 (.slice (some ⟨w.heap.size, 0, none⟩) n n) n (List.replicate n z)) w' → K (a.put o.dst (.slice (some ⟨w.heap.size, 0, none⟩) n n)) w') : o.wp P a w K Q := by
  obtain ⟨ht, hi, hzz, hsz⟩ := S
  obtain ⟨i, hi, hi1, hi2, hi3⟩ := info_parts hi
  obtain ⟨w', hrun, r1, r2⟩ := run_make_full (P := P) w w.heap.size t e i z 1 ht hi hi1 hi2 .i64 .i64 n (by rw [hi3]; have := Nat.mul_le_mul hby hn; omega) (by simp only [maxLen]; omega) (Nat.le_refl _)
  have h2 := hK w' (row_new (by
    rw [Nat.mul_one, hz, toList_madeCells_one] at r1; exact r1) (Mod.below (F := fun _ => False) (Mod.of_grown r2 (fun k hk => by cases hk)) (fun _ _ h => h)))
  unfold Oper.wp
  simp [execOp, hop, hl, hrun, Result.andThen]
  exact h2
theorem wpList_make {P : Program} {ops : Array Oper} {rest : List Oper} {o : Oper} {a : Act} {w : World} {Q : Exit → Act → World → Prop} (hg : o.guard = none) {t e : TypeId} {z : Value} {bytes : Nat} (S : SliceOk P t e z 1 bytes) (hby : bytes ≤ 1000) (l : Operand) (hop : o.op = Op.makeSlice t l l) (n : Nat) (hn : n ≤ 1000) (hl : a.eval l = .int .i64 (n : Int)) (hz : z.cells = #[z])
    (hK : ∀ w', Post w (fun _ => False) (RowO e 1 (.slice (some ⟨w.heap.size, 0, none⟩) n n) n (List.replicate n z)) w' → wpList P ops Q rest (a.put o.dst (.slice (some ⟨w.heap.size, 0, none⟩) n n)) w') : wpList P ops Q (o :: rest) a w :=
  wpList_plain hg fun _ hK' => wp_make S hby l hop n hn hl hz fun w' h => hK' _ _ (hK w' h)
theorem laysOk : SliceOk Tryz.prog 120 26 (.slice none 0 0) 1 24 := ⟨Tryz.underlying120, by kernel_rfl, rfl, by decide⟩
/-- A layer: where it lies, and what it holds. -/
structure Ly where
  A : Option Addr
  c : Nat
  l : List Pt
def lyV (z : Ly) : List Value := [.slice z.A z.l.length z.c]
def lyO (z : Ly) : CH.Own := PtsO z.A z.c z.l
def LysO (g : Nat) (zs : List Ly) : CH.Own := ARow lyV lyO 26 1 (.slice (some ⟨g, 0, none⟩) zs.length zs.length) zs
theorem lys_ok {g : Nat} {zs : List Ly} : (LysO g zs).Ok := arow_ok fun _ => pts_ok
/-- The layers but for one. -/
def LyR (g : Nat) (zs : List Ly) (k : Nat) : CH.Own := star (RowO 26 1 (.slice (some ⟨g, 0, none⟩) zs.length zs.length) zs.length (zs.flatMap lyV)) (bigStar ((zs.eraseIdx k).map lyO))
theorem lyr_ok {g : Nat} {zs : List Ly} {k : Nat} : (LyR g zs k).Ok := star_ok row_ok (big_ok (fun A hA => by obtain ⟨z, _, rfl⟩ := List.mem_map.1 hA; exact pts_ok))
def ly0 : Ly := ⟨none, 0, []⟩
theorem big_none (w : World) : ∀ n, bigStar ((List.replicate n ly0).map lyO) w (fun _ => False)
  | 0 => fun _ h => h
  | n + 1 => by
    rw [List.replicate_succ, List.map_cons]
    exact ⟨fun _ => False, fun _ => False, row_nil _ _ _, big_none w n, fun _ h => h.elim, fun i => by simp⟩
theorem lys_new {g n : Nat} {w : World} {F : Nat → Prop} (h : RowO 26 1 (.slice (some ⟨g, 0, none⟩) n n) n (List.replicate n (.slice none 0 0)) w F) : LysO g (List.replicate n ly0) w F := by
  have e : (List.replicate n ly0).flatMap lyV = List.replicate n (.slice none 0 0) := by
    induction n with
    | zero => rfl
    | succ n ih => rw [List.replicate_succ, List.flatMap_cons, List.replicate_succ]; rw [show ∀ m, (List.replicate m ly0).flatMap lyV = List.replicate m (.slice none 0 0) from fun m => by
        induction m with
        | zero => rfl
        | succ m ih2 => rw [List.replicate_succ, List.flatMap_cons, ih2, List.replicate_succ]; rfl]; rfl
  unfold LysO ARow
  rw [e, List.length_replicate]
  exact ⟨F, fun _ => False, h, big_none w n, fun _ _ h => h, fun i => by simp⟩
section
variable {F0 : Nat → Prop} {w0 W : World} {g k : Nat} {zs : List Ly} {X : CH.Own}
theorem lys_out (hk : k < zs.length) (h : Run F0 w0 (star (LysO g zs) X) W) : Run F0 w0 (star (PtsO zs[k].A zs[k].c zs[k].l) (star (LyR g zs k) X)) W :=
  (h.imp fun w F hh => star_mono hh (fun F h => arow_out hk h) (fun _ h => h)).assoc
theorem lyr_cell {F : Nat → Prop} (h : LyR g zs k W F) {i : Nat} (hi : i < zs.length) : W.cell? ⟨g, i, none⟩ = some (.slice zs[i].A zs[i].l.length zs[i].c) ∧ ∀ j, W.frozen? ⟨g, j, none⟩ = false := by
  obtain ⟨F1, F2, h1, -, -, -⟩ := h
  refine ⟨row_cell h1 ?_, fun j => row_free h1 j (by omega)⟩
  have := flat_get_ (R := lyV) (size := 1) (fun _ => rfl) hi (i := 0) (by omega)
  rw [Nat.mul_one, Nat.add_zero] at this
  rw [this]; rfl
theorem lys_cell {F : Nat → Prop} (h : LysO g zs W F) {i : Nat} (hi : i < zs.length) : W.cell? ⟨g, i, none⟩ = some (.slice zs[i].A zs[i].l.length zs[i].c) ∧ (∀ j, W.frozen? ⟨g, j, none⟩ = false) ∧ PtsR W zs[i].A zs[i].l := by
  have h1 := arow_out hi h
  obtain ⟨F1, F2, h2, h3, -, -⟩ := h1
  have h4 := lyr_cell (k := i) h3 hi
  exact ⟨h4.1, h4.2, pts_of h2⟩
theorem lys_put {A : Option Addr} {c : Nat} {l : List Pt} (hk : k < zs.length) (hX : X.Ok) (h : Run F0 w0 (star (PtsO A c l) (star (LyR g zs k) X)) W) : Run F0 w0 (star (LysO g (zs.set k ⟨A, c, l⟩)) X) (W.setCell ⟨g, k, none⟩ (.slice A l.length c)) := by
  have h1 : Run F0 w0 (star (RowO 26 1 (.slice (some ⟨g, 0, none⟩) zs.length zs.length) zs.length (zs.flatMap lyV)) (star (PtsO A c l) (star (bigStar ((zs.eraseIdx k).map lyO)) X))) W := h.perm (by unfold LyR; ac_rfl)
  have okB : (bigStar ((zs.eraseIdx k).map lyO)).Ok := big_ok (fun A hA => by obtain ⟨z, _, rfl⟩ := List.mem_map.1 hA; exact pts_ok)
  have h2 := run_elem (R := lyV) (size := 1) (star_ok pts_ok (star_ok okB hX)) (fun _ => rfl) rfl hk [(0, .slice A l.length c)] (fun x hx => by rw [List.mem_singleton.1 hx]; exact Nat.lt_succ_self 0) (z := ⟨A, c, l⟩) rfl h1
  have h3 : Run F0 w0 (star (star (PtsO A c l) (star (RowO 26 1 (.slice (some ⟨g, 0, none⟩) zs.length zs.length) zs.length ((zs.set k ⟨A, c, l⟩).flatMap lyV)) (bigStar ((zs.eraseIdx k).map lyO)))) X) _ := h2.perm (by ac_rfl)
  have h4 := h3.imp fun w F hh => star_mono hh (fun F h => (arow_in (cl := lyV) (ow := lyO) (z := ⟨A, c, l⟩) hk h)) (fun _ h => h)
  unfold LysO
  rw [List.length_set]
  simpa using h4
end
end Go.Proofs.YtnppgomhhcbplaaGreatDoor
