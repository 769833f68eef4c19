/-
  The reference of layer 12: two small things.
  The reference of layer 12: begins, used.
  The reference of layer 12: Less.
-/
import Derived.Test.YtnppgomhhcbplaaGreatDoorPO10
import Derived.Test.YtnppgomhhcbplaaGreatDoorPO19
import Derived.Test.YtnppgomhhcbplaaGreatDoorPO12
import Derived.Sort.Walk0
set_option linter.unusedSimpArgs false
set_option linter.unusedVariables false
namespace Go.Proofs.YtnppgomhhcbplaaGreatDoor
open Go.RowKit Go.CH Go.CH.Scr Go.CH.Pot
open Go.ChangeMaps (setBlock)
theorem bl_cat (a b : ByteArray) : bl (a ++ b) = bl a ++ bl b := by
  obtain ⟨a⟩ := a
  obtain ⟨b⟩ := b
  show (ByteArray.mk a ++ ByteArray.mk b).data.toList = a.toList ++ b.toList
  rw [ByteArray.data_append]
  simp
theorem bs_cat (a b : Bs) : bs (a ++ b) = bs a ++ bs b := bl_inj (by rw [bl_cat, bl_bs, bl_bs, bl_bs])
theorem vst_at {w : World} {A : Option Addr} {l : List Bs} (h : Vst w A l) (hn : 0 < l.length) : ∃ b o, A = some ⟨b, o, none⟩ ∧ ∀ w', Below w.heap.size w w' → ∀ j (hj : j < l.length), w'.cell? ⟨b, o + j, none⟩ = some (.string (bs l[j])) := by
  obtain ⟨b, o, rfl, hc⟩ := Src.open_ h hn (by omega)
  refine ⟨b, o, rfl, fun w' hb j hj => ?_⟩
  have h1 := hc j _ (strB_get hj)
  rw [hb.cell (World.block_lt_of_cell? _ _ h1)]
  exact h1
end Go.Proofs.YtnppgomhhcbplaaGreatDoor
namespace Go.Proofs.YtnppgomhhcbplaaGreatDoor
open Go.RowKit Go.CH Go.CH.Scr Go.CH.Pot
open Go.ChangeMaps (setBlock)
set_option maxRecDepth 100000
theorem flat_small {l : List Bs} {m : Nat} (h : ∀ x ∈ l, x.length ≤ m) : l.flatten.length ≤ l.length * m := by
  induction l with
  | nil => simp
  | cons x l ih =>
    have h1 := h x (List.mem_cons_self ..)
    have h2 := ih (fun y hy => h y (List.mem_cons_of_mem _ hy))
    rw [List.flatten_cons, List.length_append, List.length_cons, Nat.add_mul]
    omega
theorem rbegins_any (s p : Bs) (w : World) (hs : s.length ≤ 1000000) (hp : p.length ≤ 1000000) : Calls Tryz.prog 64 #[.string (bs s), .string (bs p)] w (BelowRet w (.bool (p.isPrefixOf s))) := by
  have z1 : (bs s).size = s.length := bs_size s
  have z2 : (bs p).size = p.length := bs_size p
  by_cases hl : p.length ≤ s.length
  · have e : ((bs s).extract 0 (bs p).size).toList = ((bs p).toList) ↔ p.isPrefixOf s = true := by
      constructor
      · intro h
        have h2 : (bs s).extract 0 (bs p).size = bs p := by
          have := toList_beq ((bs s).extract 0 (bs p).size) (bs p)
          rw [h] at this
          simpa using this
        have h3 := congrArg bl h2
        rw [bl_extract, bl_bs, bl_bs, z2, List.drop_zero] at h3
        rw [List.isPrefixOf_iff_prefix, ← h3]
        exact List.take_prefix _ _
      · intro h
        obtain ⟨t, rfl⟩ := List.isPrefixOf_iff_prefix.1 h
        have h2 : (bs (p ++ t)).extract 0 (bs p).size = bs p := bl_inj (by rw [bl_extract, bl_bs, bl_bs, z2, List.drop_zero, List.take_left' rfl])
        rw [h2]
    have hd : ¬ (bs s).size < (bs p).size := by rw [z1, z2]; omega
    have hd2 : (bs p).size ≤ (bs s).size := by omega
    clear hl
    by_cases hp1 : p.isPrefixOf s = true
    · have t1 : (((bs s).extract 0 (bs p).size).toList == (bs p).toList) = true := by rw [e.2 hp1]; simp
      rw [hp1]
      clear e hp1 z1 z2
      generalize bs s = S at *
      generalize bs p = Q at *
      have u1 : decide ((Q.size : Int) ≤ (S.size : Int)) = true := decide_eq_true (by omega)
      have u2 : (Q.size : Int) ≤ (S.size : Int) := by omega
      have u3 : Q.size ≤ S.size := by omega
      go_enter Tryz.func64, Tryz.ntmps64
      go_wp2
      go_ret
      exact bel_bool rfl (Below.refl _ _)
    · have t1 : (((bs s).extract 0 (bs p).size).toList == (bs p).toList) = false := by
        rw [Bool.eq_false_iff]; intro h; exact hp1 (e.1 (by simpa using h))
      rw [Bool.eq_false_iff.2 hp1]
      clear e hp1 z1 z2
      generalize bs s = S at *
      generalize bs p = Q at *
      have u1 : decide ((Q.size : Int) ≤ (S.size : Int)) = true := decide_eq_true (by omega)
      have u2 : (Q.size : Int) ≤ (S.size : Int) := by omega
      have u3 : Q.size ≤ S.size := by omega
      go_enter Tryz.func64, Tryz.ntmps64
      go_wp2
      go_ret
      exact bel_bool rfl (Below.refl _ _)
  · have hp1 : p.isPrefixOf s = false := by
      rw [Bool.eq_false_iff]; intro h
      exact hl (List.isPrefixOf_iff_prefix.1 h).length_le
    have hd2 : ¬ (bs p).size ≤ (bs s).size := by rw [z1, z2]; omega
    rw [hp1]
    clear hl z1 z2 hp1
    generalize bs s = S at *
    generalize bs p = Q at *
    have u1 : decide ((Q.size : Int) ≤ (S.size : Int)) = false := decide_eq_false (by omega)
    go_enter Tryz.func64, Tryz.ntmps64
    go_wp2
    go_ret
    exact ⟨rfl, Below.refl _ _⟩
/-- How many letters make a text, as the reference reckons it. -/
def mkN (l : List Bs) (f : Bs) (n : Nat) : Bool := decide (n ≤ l.length) && decide ((l.take n).flatten = f)
def usedR (l : List Bs) (f : Bs) : Nat := if mkN l f 1 then 1 else if mkN l f 2 then 2 else if mkN l f 3 then 3 else 0
theorem used_zero {l : List Bs} {f : Bs} {j : Nat} (h : ∀ q, 1 ≤ q → q ≤ j → mkN l f q = false) (hj : l.length < j + 1 ∨ j = 3) : usedR l f = 0 := by
  have hall : ∀ q, 1 ≤ q → q ≤ 3 → mkN l f q = false := fun q h1 h2 => by
    by_cases hq : q ≤ j
    · exact h q h1 hq
    · rcases hj with hj | rfl
      · unfold mkN; rw [decide_eq_false (by omega)]; rfl
      · omega
  unfold usedR
  rw [hall 1 (by omega) (by omega), hall 2 (by omega) (by omega), hall 3 (by omega) (by omega)]
  rfl
theorem used_at {l : List Bs} {f : Bs} {j : Nat} (h : ∀ q, 1 ≤ q → q ≤ j → mkN l f q = false) (h1 : mkN l f (j + 1) = true) (h3 : j + 1 ≤ 3) : usedR l f = j + 1 := by
  have : j = 0 ∨ j = 1 ∨ j = 2 := by omega
  unfold usedR
  rcases this with rfl | rfl | rfl
  · rw [if_pos h1]
  · rw [h 1 (by omega) (by omega), if_neg (by decide), if_pos h1]
  · rw [h 1 (by omega) (by omega), h 2 (by omega) (by omega), if_neg (by decide), if_neg (by decide), if_pos h1]
set_option maxHeartbeats 3200000 in
theorem used_any {w : World} {A : Option Addr} {c : Nat} {l : List Bs} (hA : Vst w A l) (i0 : Nat) (f : Bs) (hl : l.length ≤ 1000000) (hs : ∀ x ∈ l, x.length ≤ 1000000) (hi : i0 ≤ l.length) :
    Calls Tryz.prog 63 #[.slice A l.length c, .int .i64 (i0 : Int), .string (bs f)] w (BelowRet w (.int .i64 (usedR (l.drop i0) f : Nat))) := by
  have HA := hide hA
  have HL := hide hl
  have HS := hide hs
  have HI := hide hi
  have HB0 := hide (Below.refl w.heap.size w)
  obtain ⟨n, hn⟩ : ∃ n, n = l.length := ⟨_, rfl⟩
  have HN := hide hn
  rw [← hn]
  clear hA hl hs hi hn
  go_enter Tryz.func63, Tryz.ntmps63
  go_wp2_with fail
  go_loopw [7, 8] (fun u i wr => ∃ j : Nat, j ≤ 3 ∧ i = .int .i64 ((j : Int) + 1) ∧ u = .string (bs ((l.drop i0).take j).flatten) ∧ (∀ q, 1 ≤ q → q ≤ j → mkN (l.drop i0) f q = false) ∧ Below w.heap.size w wr) (fun _ i _ => 4 - (intOf i).toNat)
  case atStart => exact ⟨0, by omega, rfl, by rw [List.take_zero]; rfl, fun q h1 h2 => by omega, HB0.out⟩
  case round =>
    obtain ⟨j, hj, rfl, rfl, hno, hb⟩ := hrel
    have HNO := hide hno
    have HBE := hide hb
    clear hno hb
    have hib : (i0 : Int) ≤ 1000000 := by have := HL.out; have := HI.out; omega
    by_cases h3 : j < 3
    · by_cases hlt : i0 + j < n
      · have hjl : i0 + j < l.length := by rw [← HN.out]; exact hlt
        have hjd : j < (l.drop i0).length := by rw [List.length_drop]; omega
        obtain ⟨b, o, rfl, hc⟩ := vst_at HA.out (by omega)
        have q0 := hc wr HBE.out (i0 + j) hjl
        have e1 : (l.drop i0)[j] = l[i0 + j] := by rw [List.getElem_drop]
        have HNX := hide (show bs ((l.drop i0).take (j + 1)).flatten = bs ((l.drop i0).take j).flatten ++ bs l[i0 + j] by
          rw [← bs_cat, List.take_succ_eq_append_getElem hjd, List.flatten_append, e1]; simp)
        have HLE := hide (show ((l.drop i0).take j).flatten.length ≤ 3000000 ∧ l[i0 + j].length ≤ 1000000 from ⟨by
          refine Nat.le_trans (flat_small (m := 1000000) (fun x hx => HS.out x (List.mem_of_mem_drop (List.mem_of_mem_take hx)))) ?_
          rw [List.length_take]; omega, HS.out _ (List.getElem_mem hjl)⟩)
        have HMK := hide (show mkN (l.drop i0) f (j + 1) = decide (bs ((l.drop i0).take (j + 1)).flatten = bs f) by
          unfold mkN
          rw [decide_eq_true (by omega), Bool.true_and]
          exact decide_eq_decide.2 ⟨fun h => by rw [h], fun h => bs_inj h⟩)
        have hsum : ¬ 9223372036854775807 < (bs ((l.drop i0).take j).flatten).size + (bs l[i0 + j]).size := by rw [bs_size, bs_size]; have := HLE.out; omega
        have u1 : decide ((j : Int) + 1 ≤ 3) = true := decide_eq_true (by omega)
        have u2 : decide ((i0 : Int) + ((j : Int) + 1) ≤ (n : Int)) = true := decide_eq_true (by omega)
        have ws : wrap64 ((i0 : Int) + ((j : Int) + 1) - 1) = ((i0 + j : Nat) : Int) := by
          rw [IntWalk.wrap64_in _ (by omega)]; omega
        have hix : ((i0 + j : Nat) : Int) < (n : Int) := by omega
        have H3 := hide h3
        rw [HNX.out] at HMK
        generalize bs l[i0 + j] = z at *
        generalize bs ((l.drop i0).take j).flatten = y at *
        clear e1 hc
        by_cases heq : y ++ z = bs f
        · have t1 : ((y ++ z).toList == (bs f).toList) = true := by rw [heq]; simp
          have HF := hide (used_at (j := j) HNO.out (by rw [HMK.out]; exact decide_eq_true heq) h3)
          clear heq
          go_wp2
          go_ret
          exact ⟨by rw [HF.out]; rfl, HBE.out⟩
        · have t1 : ((y ++ z).toList == (bs f).toList) = false := by rw [toList_beq]; simpa using heq
          have HF := hide (show ∀ q, 1 ≤ q → q ≤ j + 1 → mkN (l.drop i0) f q = false from fun q h1 h2 => by
            by_cases e : q = j + 1
            · subst e; rw [HMK.out]; exact decide_eq_false heq
            · exact HNO.out q h1 (by omega))
          clear heq
          go_wp2
          go_roundw
          case rel => exact ⟨j + 1, by have := H3.out; omega, by go_num, by rw [HNX.out], HF.out, HBE.out⟩
          case measure => simp [intOf]; omega
      · have HF := hide (used_zero (j := j) HNO.out (.inl (by rw [List.length_drop]; have := HN.out; have := HI.out; omega)))
        have u1 : decide ((j : Int) + 1 ≤ 3) = true := decide_eq_true (by omega)
        have u2 : decide ((i0 : Int) + ((j : Int) + 1) ≤ (n : Int)) = false := decide_eq_false (by omega)
        clear h3 hlt
        generalize bs ((l.drop i0).take j).flatten = y at *
        go_wp2
        go_ret
        exact ⟨by rw [HF.out]; rfl, HBE.out⟩
    · have HF := hide (used_zero (j := j) HNO.out (.inr (by omega)))
      have u1 : decide ((j : Int) + 1 ≤ 3) = false := decide_eq_false (by omega)
      clear h3
      generalize bs ((l.drop i0).take j).flatten = y at *
      go_wp2
      go_ret
      exact ⟨by rw [HF.out]; rfl, HBE.out⟩
end Go.Proofs.YtnppgomhhcbplaaGreatDoor
namespace Go.Proofs.YtnppgomhhcbplaaGreatDoor
open Go.RowKit Go.CH Go.CH.Scr Go.CH.Pot
open Go.ChangeMaps (setBlock)
set_option maxRecDepth 100000
theorem toList_bs (a : Bs) : (bs a).toList = a := by rw [ByteArray.toList_eq]; rfl
theorem rless_any (p q : Pt) (w : World) : Calls Tryz.prog 35 #[.agg (pcells p).toArray, .agg (pcells q).toArray] w (BelowRet w (.bool (decide (ltP p q)))) := by
  have h1 := run_new (Run.begin w) emp_ok (pcells p).toArray 37
  have h2 := run_new h1 (star_ok cell_ok emp_ok) (pcells q).toArray 37
  have HB := hide (h2.mod.below (fun _ _ h => h))
  clear h1 h2
  obtain ⟨i, j, a, r, h⟩ := p
  obtain ⟨i2, j2, a2, r2, h2⟩ := q
  obtain ⟨v, hv⟩ : ∃ v : Bool, v = decide (ltP ⟨i, j, a, r, h⟩ ⟨i2, j2, a2, r2, h2⟩) := ⟨_, rfl⟩
  rw [← hv]
  have HE := hide (show v = true ↔ i < i2 ∨ i = i2 ∧ (j < j2 ∨ j = j2 ∧ (a < a2 ∨ a = a2 ∧ r = false ∧ r2 = true)) from by rw [hv, decide_eq_true_eq]; exact Iff.rfl)
  clear hv
  unfold pcells
  unfold pcells at HB
  dsimp only at HB ⊢
  have hbl : Op.bytesLess (bs a).toList (bs a2).toList = decide (a < a2) := by
    rw [bytesLess_eq, toList_bs, toList_bs]
  by_cases e1 : i = i2
  · have t1 : (i != i2) = false := by simp [e1]
    by_cases e2 : j = j2
    · have t2 : (j != j2) = false := by simp [e2]
      by_cases e3 : a = a2
      · have t3 : (!(bs a).toList == (bs a2).toList) = false := by rw [toList_beq]; simp [e3]
        have hna : ¬ a < a2 := by rw [e3]; exact lta_irr _
        cases r with
        | false =>
          have HVV := hide (show v = r2 from by
            rw [Bool.eq_iff_iff, HE.out]
            simp [e1, e2, e3, lta_irr])
          clear HE e1 e2 e3 hna hbl
          go_enter Tryz.func35, Tryz.ntmps35
          go_wp2
          go_ret
          exact bel_bool (HVV.out) HB.out
        | true =>
          have HVV := hide (show v = false from by
            rw [Bool.eq_iff_iff, HE.out]
            simp [e1, e2, e3, lta_irr])
          clear HE e1 e2 e3 hna hbl
          go_enter Tryz.func35, Tryz.ntmps35
          go_wp2
          go_ret
          exact bel_bool (HVV.out) HB.out
      · have t3 : (!(bs a).toList == (bs a2).toList) = true := by rw [toList_beq]; simpa using fun h => e3 (bs_inj h)
        have HVV := hide (show v = Op.bytesLess (bs a).toList (bs a2).toList from by
          rw [hbl, Bool.eq_iff_iff, HE.out]
          simp [e1, e2, e3])
        clear HE e1 e2 e3 hbl
        go_enter Tryz.func35, Tryz.ntmps35
        go_wp2
        go_ret
        exact bel_bool (HVV.out) HB.out
    · have t2 : (j != j2) = true := by simp [e2]
      have HVV := hide (show v = decide (j < j2) from by
        rw [Bool.eq_iff_iff, HE.out]
        simp [e1, e2])
      clear HE e1 e2 hbl
      go_enter Tryz.func35, Tryz.ntmps35
      go_wp2
      go_ret
      exact bel_bool (HVV.out) HB.out
  · have t1 : (i != i2) = true := by simp [e1]
    have HVV := hide (show v = decide (i < i2) from by
      rw [Bool.eq_iff_iff, HE.out]
      simp [e1])
    clear HE e1 hbl
    go_enter Tryz.func35, Tryz.ntmps35
    go_wp2
    go_ret
    exact bel_bool (HVV.out) HB.out
end Go.Proofs.YtnppgomhhcbplaaGreatDoor
