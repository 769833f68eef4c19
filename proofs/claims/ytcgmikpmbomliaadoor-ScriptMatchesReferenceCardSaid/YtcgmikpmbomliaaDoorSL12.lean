/-
  Script: the law of errors.
  A region that draws its order, by an invariant over the operations that have been listed.
  Script: the law of blanks
-/
import Derived.Test.YtcgmikpmbomliaaDoorSL11
import Derived.Test.YtcgmikpmbomliaaDoorSL5
set_option linter.unusedSimpArgs false
set_option linter.unusedVariables false
namespace Go.Proofs.YtcgmikpmbomliaaDoor
open Go.RowKit Go.CH Go.CH.Scr
open Go.ChangeMaps (setBlock)
theorem par_at {s : ByteArray} (hl : s.size ≤ 2000) : ∃ n e a, parseN (bl s) = (n, e, a) ∧
    ((e = 0 ∧ a = 0) ∨ (e = 5 ∧ a = 0) ∨ (e = 6 ∧ a = (s.size : Int)) ∨
      ((e = 3 ∨ e = 2) ∧ ∃ i : Nat, a = (i : Int) ∧ 6 ≤ i ∧ i < s.size ∧ ((∃ n', parseN (bl (s.extract 0 i)) = (n', 0, 0)) ∨ parseN (bl (s.extract 0 i)) = (noName, 6, (i : Int))))) := by
  refine ⟨(parseN (bl s)).1, (parseN (bl s)).2.1, (parseN (bl s)).2.2, rfl, ?_⟩
  have h := parse_at (t := bl s) (n := (parseN (bl s)).1) (e := (parseN (bl s)).2.1) (at_ := (parseN (bl s)).2.2) (by rw [bl_len]; omega) rfl
  simp only [bl_len] at h
  rcases h with h | h | h | ⟨h, i, h1, h2, h3, h4⟩
  · exact .inl h
  · exact .inr (.inl h)
  · exact .inr (.inr (.inl h))
  · refine .inr (.inr (.inr ⟨h, i, h1, h2, h3, ?_⟩))
    rw [show bl (s.extract 0 i) = (bl s).take i by rw [bl_extract, List.drop_zero]]
    exact h4
set_option maxRecDepth 100000 in
set_option maxHeartbeats 3200000 in
theorem law_errors (s : ByteArray) (w : World) (hz : LZ w) : Calls Tryd.prog 9 #[.string s] w (BelowRet w (.bool true)) := by
  have HZ := hide hz
  have KH := hide (head_any w hz)
  clear hz
  by_cases hl : (2000 : Int) < (s.size : Int)
  · go_enter Tryd.func9, Tryd.ntmps9
    go_wp2_with fail
    refine KH.out.mono ?_
    rintro e9 w1 ⟨rfl, hb⟩
    have B1 := hide hb
    clear KH hb
    go_wp2
    go_ret
    exact ⟨rfl, B1.out⟩
  · obtain ⟨n, e, a, hp, hcase⟩ := par_at (s := s) (by omega)
    have KP := hide (fun W hz => par_ex s hp rfl W hz)
    clear hp
    generalize n.ws.length = m at *
    rcases hcase with ⟨rfl, rfl⟩ | ⟨rfl, rfl⟩ | ⟨rfl, rfl⟩ | ⟨he, i, rfl, h6, hi, h4⟩
    · go_enter Tryd.func9, Tryd.ntmps9
      go_wp2_with fail
      refine KH.out.mono ?_
      rintro e9 w1 ⟨rfl, hb⟩
      have B1 := hide hb
      clear KH hb
      go_wp2_with fail
      refine (KP.out w1 (HZ.out.below B1.out)).mono ?_
      rintro e9 w2 ⟨A, c, rfl, hb, -, -⟩
      have B2 := hide (bel_new (.cells #[.int .i64 n.k, .slice A m c] 24) (bel_trans B1.out hb))
      clear KP hb
      go_wp2
      go_ret
      exact ⟨rfl, B2.out⟩
    · go_enter Tryd.func9, Tryd.ntmps9
      go_wp2_with fail
      refine KH.out.mono ?_
      rintro e9 w1 ⟨rfl, hb⟩
      have B1 := hide hb
      clear KH hb
      go_wp2_with fail
      refine (KP.out w1 (HZ.out.below B1.out)).mono ?_
      rintro e9 w2 ⟨A, c, rfl, hb, -, -⟩
      have B2 := hide (bel_new (.cells #[.int .i64 n.k, .slice A m c] 24) (bel_trans B1.out hb))
      clear KP hb
      go_wp2
      go_ret
      exact ⟨rfl, B2.out⟩
    · go_enter Tryd.func9, Tryd.ntmps9
      go_wp2_with fail
      refine KH.out.mono ?_
      rintro e9 w1 ⟨rfl, hb⟩
      have B1 := hide hb
      clear KH hb
      go_wp2_with fail
      refine (KP.out w1 (HZ.out.below B1.out)).mono ?_
      rintro e9 w2 ⟨A, c, rfl, hb, -, -⟩
      have B2 := hide (bel_new (.cells #[.int .i64 n.k, .slice A m c] 24) (bel_trans B1.out hb))
      clear KP hb
      go_wp2
      go_ret
      exact ⟨rfl, B2.out⟩
    · have i1 : ¬ (i : Int) < 6 := by omega
      have i2 : ¬ (s.size : Int) ≤ (i : Int) := by omega
      have i3 : (i : Int) ≤ (s.size : Int) := by omega
      rcases h4 with ⟨n', h4⟩ | h4
      · have KQ := hide (fun W hz => par_ex (s.extract 0 i) h4 rfl W hz)
        clear h4
        generalize n'.ws.length = m' at *
        rcases he with rfl | rfl
        · go_enter Tryd.func9, Tryd.ntmps9
          go_wp2_with fail
          refine KH.out.mono ?_
          rintro e9 w1 ⟨rfl, hb⟩
          have B1 := hide hb
          clear KH hb
          go_wp2_with fail
          refine (KP.out w1 (HZ.out.below B1.out)).mono ?_
          rintro e9 w2 ⟨A, c, rfl, hb, -, -⟩
          have B2 := hide (bel_new (.cells #[.int .i64 n.k, .slice A m c] 24) (bel_trans B1.out hb))
          clear KP hb
          go_wp2_with fail
          refine (KQ.out _ (HZ.out.below B2.out)).mono ?_
          rintro e9 w3 ⟨A', c', rfl, hb, -, -⟩
          have B3 := hide (bel_new (.cells #[.int .i64 n'.k, .slice A' m' c'] 24) (bel_trans B2.out hb))
          clear KQ hb
          go_wp2
          go_ret
          exact ⟨rfl, B3.out⟩
        · go_enter Tryd.func9, Tryd.ntmps9
          go_wp2_with fail
          refine KH.out.mono ?_
          rintro e9 w1 ⟨rfl, hb⟩
          have B1 := hide hb
          clear KH hb
          go_wp2_with fail
          refine (KP.out w1 (HZ.out.below B1.out)).mono ?_
          rintro e9 w2 ⟨A, c, rfl, hb, -, -⟩
          have B2 := hide (bel_new (.cells #[.int .i64 n.k, .slice A m c] 24) (bel_trans B1.out hb))
          clear KP hb
          go_wp2_with fail
          refine (KQ.out _ (HZ.out.below B2.out)).mono ?_
          rintro e9 w3 ⟨A', c', rfl, hb, -, -⟩
          have B3 := hide (bel_new (.cells #[.int .i64 n'.k, .slice A' m' c'] 24) (bel_trans B2.out hb))
          clear KQ hb
          go_wp2
          go_ret
          exact ⟨rfl, B3.out⟩
      · have KQ := hide (fun W hz => par_ex (s.extract 0 i) h4 rfl W hz)
        clear h4
        rcases he with rfl | rfl
        · go_enter Tryd.func9, Tryd.ntmps9
          go_wp2_with fail
          refine KH.out.mono ?_
          rintro e9 w1 ⟨rfl, hb⟩
          have B1 := hide hb
          clear KH hb
          go_wp2_with fail
          refine (KP.out w1 (HZ.out.below B1.out)).mono ?_
          rintro e9 w2 ⟨A, c, rfl, hb, -, -⟩
          have B2 := hide (bel_new (.cells #[.int .i64 n.k, .slice A m c] 24) (bel_trans B1.out hb))
          clear KP hb
          go_wp2_with fail
          refine (KQ.out _ (HZ.out.below B2.out)).mono ?_
          rintro e9 w3 ⟨A', c', rfl, hb, -, -⟩
          have B3 := hide (bel_new (.cells #[.int .i64 0, .slice A' 0 c'] 24) (bel_trans B2.out hb))
          clear KQ hb
          go_wp2
          go_ret
          exact ⟨rfl, B3.out⟩
        · go_enter Tryd.func9, Tryd.ntmps9
          go_wp2_with fail
          refine KH.out.mono ?_
          rintro e9 w1 ⟨rfl, hb⟩
          have B1 := hide hb
          clear KH hb
          go_wp2_with fail
          refine (KP.out w1 (HZ.out.below B1.out)).mono ?_
          rintro e9 w2 ⟨A, c, rfl, hb, -, -⟩
          have B2 := hide (bel_new (.cells #[.int .i64 n.k, .slice A m c] 24) (bel_trans B1.out hb))
          clear KP hb
          go_wp2_with fail
          refine (KQ.out _ (HZ.out.below B2.out)).mono ?_
          rintro e9 w3 ⟨A', c', rfl, hb, -, -⟩
          have B3 := hide (bel_new (.cells #[.int .i64 0, .slice A' 0 c'] 24) (bel_trans B2.out hb))
          clear KQ hb
          go_wp2
          go_ret
          exact ⟨rfl, B3.out⟩
end Go.Proofs.YtcgmikpmbomliaaDoor
namespace Go.CH
open Go.RowKit
section
variable {P : Program} {ops : Array Oper} {Q : Exit → Act → World → Prop}
theorem wpOp_mono {i : Nat} {K K' : Act → World → Prop} {a : Act} {w : World} (hk : ∀ a w, K a w → K' a w) (h : wpOp P ops Q i K a w) : wpOp P ops Q i K' a w := by
  unfold wpOp at *
  cases ho : ops[i]? with
  | none => simp only [ho] at h ⊢; exact hk _ _ h
  | some o =>
    simp only [ho] at h ⊢
    split at h
    · rename_i hw
      rw [if_pos hw]
      exact h.imp (Oper.wp_mono hk) id
    · rename_i hw
      rw [if_neg hw]
      exact hk _ _ h
theorem wpAny_inv (I : Array Bool → Act → World → Prop) (hend : ∀ listed a w, I listed a w → Region.ready .any ops listed = [] → Q .normal a w)
    (hstep : ∀ listed a w, I listed a w → ∀ i ∈ Region.ready .any ops listed, wpOp P ops Q i (I (listed.setIfInBounds i true)) a w) :
    ∀ (n : Nat) (listed : Array Bool) (a : Act) (w : World), (unl ops listed).length = n → listed.size = ops.size → I listed a w → wpAny P .any ops Q n listed a w := by
  intro n
  induction n with
  | zero =>
    intro listed a w hn hs hI
    have hnil : unl ops listed = [] := List.eq_nil_of_length_eq_zero hn
    have hr : Region.ready .any ops listed = [] := by
      cases hr : Region.ready .any ops listed with
      | nil => rfl
      | cons j r =>
        exfalso
        have hj : j ∈ Region.ready .any ops listed := by rw [hr]; simp
        obtain ⟨h0, o, ho, _⟩ := mem_ready.1 hj
        have hjs : j < ops.size := (Array.getElem?_eq_some_iff.1 ho).1
        obtain ⟨l1, l2, hs1, _, _⟩ := unl_split (ops := ops) hs hjs h0
        rw [hnil] at hs1
        cases l1 <;> simp at hs1
    exact ⟨hr, hend _ _ _ hI hr⟩
  | succ n ih =>
    intro listed a w hn hs hI
    refine ⟨hend _ _ _ hI, fun j hj => ?_⟩
    obtain ⟨h0, o, ho, _⟩ := mem_ready.1 hj
    have hjs : j < ops.size := (Array.getElem?_eq_some_iff.1 ho).1
    obtain ⟨l1, l2, hs1, hs2, _⟩ := unl_split (ops := ops) hs hjs h0
    refine wpOp_mono (fun a' w' h => ih _ a' w' ?_ (by simpa using hs) h) (hstep _ _ _ hI j hj)
    rw [hs2]
    rw [hs1] at hn
    simp at hn ⊢
    omega
theorem wp_region_inv {id : Nat} {l : List Oper} {a : Act} {w : World} (I : Array Bool → Act → World → Prop) (hm : P.follows .mixedOrders = true)
    (h0 : I (Array.replicate l.toArray.size false) a w.drew) (hend : ∀ listed a w, I listed a w → Region.ready .any l.toArray listed = [] → Q .normal a w)
    (hstep : ∀ listed a w, I listed a w → ∀ i ∈ Region.ready .any l.toArray listed, wpOp P l.toArray Q i (I (listed.setIfInBounds i true)) a w) : (Code.region id l.toArray true).wp P Q a w := by
  refine wp_region_any hm ?_
  have hu : unl l.toArray (Array.replicate l.toArray.size false) = List.range l.toArray.size := by
    unfold unl
    refine List.filter_eq_self.2 fun i hi => ?_
    have := List.mem_range.1 hi
    simp at this
    simp [this]
  exact wpAny_inv I hend hstep _ _ _ _ (by rw [hu]; simp) (by simp) h0
/-- An operation without a guard. -/
theorem wpOp_plain {i : Nat} {o : Oper} {K : Act → World → Prop} {a : Act} {w : World} (ho : ops[i]? = some o) (hg : o.guard = none) (h : o.wp P a w K Q) : wpOp P ops Q i K a w := by
  unfold wpOp
  simp only [ho]
  rw [if_pos (by simp [Region.wanted, hg])]
  exact .inl h
end
end Go.CH
namespace Go.Proofs.YtcgmikpmbomliaaDoor
open Go.RowKit Go.CH Go.CH.Scr
open Go.ChangeMaps (setBlock)
theorem gap_text (s : ByteArray) (j : Nat) : bl (s.extract 0 j ++ ⟨#[32]⟩ ++ s.extract j s.size) = (bl s).take j ++ 32 :: (bl s).drop j := by
  have h1 : bl (s.extract 0 j) = (bl s).take j := by rw [bl_extract, List.drop_zero]
  have h2 : bl (s.extract j s.size) = (bl s).drop j := by rw [bl_extract, ← bl_len, List.take_length]
  show (s.extract 0 j ++ ⟨#[32]⟩ ++ s.extract j s.size).data.toList = _
  rw [ByteArray.data_append, ByteArray.data_append]
  simp only [Array.toList_append]
  rw [show (s.extract 0 j).data.toList = (bl s).take j from h1, show (s.extract j s.size).data.toList = (bl s).drop j from h2]
  simp
/-- What Parse says of the text with one blank more. -/
theorem gap_parse {s : ByteArray} {j : Nat} {n : NameM} {e a : Int} (hl : s.size ≤ 2000) (hj : j ≤ s.size) (hg : gap (bl s) j) (hp : parseN (bl s) = (n, e, a)) (he : e ≠ 5) :
    ∃ a', parseN (bl (s.extract 0 j ++ ⟨#[32]⟩ ++ s.extract j s.size)) = (n, e, a') := by
  have h := parse_gap (t := bl s) (p := j) (by rw [bl_len]; omega) hg (by rw [hp]; exact he)
  rw [gap_text]
  rw [hp] at h
  refine ⟨(parseN ((bl s).take j ++ 32 :: (bl s).drop j)).2.2, ?_⟩
  exact Prod.ext h.1 (Prod.ext h.2 rfl)
theorem tail_at {P : Program} {ops : Array Oper} {Q : Exit → Act → World → Prop} {S : World → Prop} {fuel fuel2 : Nat} {ls ls2 : Array Bool} {a : Act} {w : World} (I : Act → World → Act → Prop)
    (h1 : (∀ W' a', I a W' a' → wpAnyH P .any ops Q S fuel2 ls2 a' W') → wpAnyH P .any ops Q S fuel ls a w) (h2 : ∀ W' a', I a W' a' → wpAnyH P .any ops Q S fuel2 ls2 a' W') : wpAnyH P .any ops Q S fuel ls a w := h1 h2
theorem gap_store {w W : World} {g m c : Nat} {k : Int} {A : Option Addr} {l : List Bs} (h1 : Below w.heap.size w W) (h2 : w.heap.size ≤ g) (h3 : W.heap[g]? = some (.cells #[.int .i64 0, .slice none 0 0] 24 (0, 0))) (h4 : Vst W A l) (h5 : l.length = m) :
    Below w.heap.size w ((W.setCell ⟨g, 0, none⟩ (.int .i64 k)).setCell ⟨g, 1, none⟩ (.slice A m c)) ∧
    (((W.setCell ⟨g, 0, none⟩ (.int .i64 k)).setCell ⟨g, 1, none⟩ (.slice A m c)).cell? ⟨g, 0, none⟩ = some (.int .i64 k) ∧ ((W.setCell ⟨g, 0, none⟩ (.int .i64 k)).setCell ⟨g, 1, none⟩ (.slice A m c)).cell? ⟨g, 1, none⟩ = some (.slice A m c)) ∧
    Vst ((W.setCell ⟨g, 0, none⟩ (.int .i64 k)).setCell ⟨g, 1, none⟩ (.slice A m c)) A l := by
  have hr : Run (fun _ => False) w (CellO g #[.int .i64 0, .slice none 0 0] 24) W := ⟨⟨fun i => i = g, ⟨h3, fun i => Iff.rfl⟩, fun i hi => .inr (by rw [hi]; exact h2)⟩, CH.Mod.of_below h1⟩
  obtain ⟨F, hF, bk⟩ := hr.all cell_ok
  have r1 : Run (fun _ => False) w (CellO g #[.int .i64 k, .slice none 0 0] 24) _ := bk _ _ (cell_set hF 0 (.int .i64 k))
  obtain ⟨F, hF, bk⟩ := r1.all cell_ok
  have r2 : Run (fun _ => False) w (CellO g #[.int .i64 k, .slice A m c] 24) _ := bk _ _ (cell_set hF 1 (.slice A m c))
  obtain ⟨F, hF⟩ := r2.get
  refine ⟨r2.bel, ⟨cell_at hF rfl, cell_at hF rfl⟩, ?_⟩
  rcases Nat.eq_zero_or_pos l.length with h0 | h0
  · refine ⟨h4.1, h4.2.1, fun hn => by omega⟩
  refine h4.keep (fun ad hA => ?_)
  have hne : g ≠ ad.block := by
    intro e
    obtain ⟨b, o, e2, hc⟩ := h4.at h0
    rw [e2] at hA
    injection hA with hA
    subst hA
    have := hc W (Below.refl _ _) 0 h0
    subst e
    simp only [World.cell?, h3, Nat.add_zero] at this
    rcases o with _ | _ | o <;> simp at this
  rw [Below.heap_setCell _ _ _ _ (by exact hne.symm), Below.heap_setCell _ _ _ _ (by exact hne.symm)]
theorem same_ex {w : World} {n : NameM} {A B : Option Addr} {c d m : Nat} (hA : Vst w A n.ws) (hB : Vst w B n.ws) (hm : n.ws.length = m) (hl : m ≤ 1000000) :
    Calls Tryd.prog 25 #[.agg #[.int .i64 n.k, .slice A m c], .agg #[.int .i64 n.k, .slice B m d]] w (BelowRet w (.bool true)) := by
  subst hm
  have h := same_any (a := n) (b := n) (c := c) (d := d) hA hB hl hl
  simp only [decide_true, Bool.and_self] at h
  exact h
theorem par_small {s : ByteArray} {n : NameM} {e a : Int} (hl : s.size ≤ 2000) (hp : parseN (bl s) = (n, e, a)) : n.ws.length ≤ 6 := by
  by_cases he : e = 0
  · subst he; exact (validN_iff.1 (parse_ok hp).2.1).2.2
  · rw [parse_err hp he]; exact Nat.zero_le _
set_option maxRecDepth 100000 in
set_option maxHeartbeats 6400000 in
theorem law_blanks (s : ByteArray) (r : Nat) (w : World) (hr : r ≤ 65535) (hz : LZ w) : Calls Tryd.prog 8 #[.string s, .int .u16 (r : Int)] w (BelowRet w (.bool true)) := by
  have HZ := hide hz
  have KH := hide (head_any w hz)
  clear hz
  by_cases hl : (2000 : Int) < (s.size : Int)
  · go_enter Tryd.func8, Tryd.ntmps8
    go_wp2_with fail
    refine (KH.out).mono ?_
    rintro e9 w1 ⟨rfl, hb⟩
    have S1 := hide (hb)
    clear KH
    clear hb
    go_wp2
    go_ret
    exact ⟨rfl, S1.out⟩
  · obtain ⟨n, e, a, hp⟩ : ∃ n e a, parseN (bl s) = (n, e, a) := ⟨_, _, _, rfl⟩
    have KP := hide (fun W hz => par_ex s hp rfl W hz)
    have HP := hide hp
    have hm6 := par_small (by omega) hp
    obtain ⟨m, hm⟩ : ∃ m, m = n.ws.length := ⟨_, rfl⟩
    have HM := hide hm
    rw [← hm] at KP hm6
    clear hp hm
    have hrem : (r : Int) % ((s.size : Int) + 1) = ((r % (s.size + 1) : Nat) : Int) := by simp
    have hrm : r % (s.size + 1) ≤ s.size := by have := Nat.mod_lt r (show 0 < s.size + 1 by omega); omega
    have HRM := hide hrem
    clear hrem
    go_enter Tryd.func8, Tryd.ntmps8
    go_wp2_with fail
    refine (KH.out).mono ?_
    rintro e9 w1 ⟨rfl, hb⟩
    have S1 := hide (hb)
    clear KH
    clear hb
    go_wp2
    rw [HRM.out]
    generalize r % (s.size + 1) = j0 at *
    clear HRM
    go_loopw [6] (fun i wr => ∃ j : Nat, j ≤ s.size ∧ i = .int .i64 (j : Int) ∧ Below w1.heap.size w1 wr) (fun i _ => s.size - (intOf i).toNat)
    case atStart => exact ⟨j0, hrm, rfl, Below.refl _ _⟩
    case round =>
      obtain ⟨j, hj, rfl, hb⟩ := hrel
      have S2 := hide hb
      clear hb
      by_cases hgo : ∃ x : UInt8, (bl s)[j]? = some x ∧ x ≠ 32
      · obtain ⟨x, hx, h32⟩ := hgo
        have hpl : j < s.size := by have := (List.getElem?_eq_some_iff.1 hx).1; rw [bl_len] at this; exact this
        have hx2 : s[j] = x := by rw [bl_at s j hpl] at hx; injection hx
        have hxx := u8_eq x 32 32 rfl
        rw [show (x == 32) = false by simpa using h32] at hxx
        have hxn : ((x.toNat : Int) != 32) = true := by rw [bne, hxx]; rfl
        have hx256 := x.toNat_lt
        have hlt : (j : Int) < (s.size : Int) := by omega
        clear hx h32
        go_wp2
        go_roundw
        case rel => exact ⟨j + 1, by omega, by go_num, S2.out⟩
        case measure => simp [intOf]; omega
      · have hg : gap (bl s) j := by
          by_cases hpl : j < s.size
          · refine .inl ?_
            rw [bl_at s j hpl]
            exact congrArg some (Classical.byContradiction fun h => hgo ⟨_, bl_at s j hpl, h⟩)
          · exact .inr (by rw [bl_len]; omega)
        have HG := hide hg
        have hst : (j : Int) < (s.size : Int) → (bl s)[j]? = some 32 := fun hlt => by
          rcases hg with h | h
          · exact h
          · rw [bl_len] at h; omega
        have HST := hide hst
        clear hgo hg hst
        by_cases hlt : (j : Int) < (s.size : Int)
        · have hpl : j < s.size := by omega
          have hx2 : s[j] = 32 := by have := HST.out hlt; rw [bl_at s j hpl] at this; injection this
          clear HST
          go_wp2_with fail
          refine (KP.out wr (HZ.out.below (bel_trans S1.out S2.out))).mono ?_
          rintro e9 v3 ⟨Ax, cx, rfl, hb, hv, hcx⟩
          have hba := bel_new (.cells #[.int .i64 n.k, .slice Ax m cx] 24) (Below.refl _ v3)
          have S3 := hide (bel_trans hb hba)
          have Vx := hide (hv.below hba)
          have Cx := hide (box_cells v3 (n.k) Ax m cx)
          clear hb hba hv
          by_cases he : e = 5
          · have te : (e == 5) = true := by simpa using he
            clear HP
            go_wp2
            go_ret
            exact ⟨rfl, (bel_trans (bel_trans S1.out S2.out) S3.out)⟩
          · have te : (e == 5) = false := by simpa using he
            have ZD := hide (HZ.out.below (below_drew (bel_trans (bel_trans S1.out S2.out) S3.out)))
            have ZW := hide (HZ.out.below (bel_trans (bel_trans S1.out S2.out) S3.out))
            obtain ⟨a9, hp'⟩ := gap_parse (by omega) hj HG.out HP.out he
            have KQ := hide (fun W hz => par_ex _ hp' HM.out.symm W hz)
            clear hp' he HP HG
            have i1 : (j : Int) ≤ (s.size : Int) := by omega
            have z1 : (s.extract 0 j).size = j := by rw [ByteArray.size_extract]; omega
            have z2 : (s.extract j s.size).size = s.size - j := by rw [ByteArray.size_extract]; omega
            have q1 : ¬ 9223372036854775807 < (s.extract 0 j).size + 1 := by omega
            have q2 : ¬ 9223372036854775807 < (s.extract 0 j ++ ⟨#[32]⟩).size + (s.extract j s.size).size := by rw [ByteArray.size_append, z1, z2]; show ¬ 9223372036854775807 < j + 1 + (s.size - j); omega
            clear z1 z2
            go_wp2_with fail
            generalize v3.alloc (.cells #[.int .i64 n.k, .slice Ax m cx] 24) = w3 at *
            generalize v3.heap.size = gx at *
            clear v3
            refine wp_region_held (S := fun _ => True) (by kernel_rfl) (show wpAnyH _ _ _ _ _ _ _ _ w3.drew from ?_)
            refine wpAnyH_take (i := 0) (v := .string s) rfl (by kernel_rfl) (by kernel_rfl) (by kernel_rfl) (fun _ _ _ h => h) (.inl ⟨rfl, fun w' _ => ?_⟩) trivial ?_
            · go_simp <;> omega
            try simp only [Act.put, List.getElem_toArray, List.getElem_cons_succ, List.getElem_cons_zero, List.setIfInBounds_toArray, List.set_cons_zero, List.set_cons_succ]
            refine wpAnyH_take (i := 1) (v := .int .i64 (j : Int)) rfl (by kernel_rfl) (by kernel_rfl) (by kernel_rfl) (fun _ _ _ h => h) (.inl ⟨rfl, fun w' _ => ?_⟩) trivial ?_
            · go_simp <;> omega
            try simp only [Act.put, List.getElem_toArray, List.getElem_cons_succ, List.getElem_cons_zero, List.setIfInBounds_toArray, List.set_cons_zero, List.set_cons_succ]
            refine wpAnyH_take (i := 2) (v := .string (s.extract 0 j)) rfl (by kernel_rfl) (by kernel_rfl) (by kernel_rfl) (fun _ _ _ h => h) (.inl ⟨rfl, fun w' _ => ?_⟩) trivial ?_
            · go_simp <;> omega
            try simp only [Act.put, List.getElem_toArray, List.getElem_cons_succ, List.getElem_cons_zero, List.setIfInBounds_toArray, List.set_cons_zero, List.set_cons_succ]
            refine wpAnyH_take (i := 3) (v := .string (s.extract 0 j ++ ⟨#[32]⟩)) rfl (by kernel_rfl) (by kernel_rfl) (by kernel_rfl) (fun _ _ _ h => h) (.inl ⟨rfl, fun w' _ => ?_⟩) trivial ?_
            · go_simp <;> omega
            try simp only [Act.put, List.getElem_toArray, List.getElem_cons_succ, List.getElem_cons_zero, List.setIfInBounds_toArray, List.set_cons_zero, List.set_cons_succ]
            refine wpAnyH_take (i := 4) (v := .string s) rfl (by kernel_rfl) (by kernel_rfl) (by kernel_rfl) (fun _ _ _ h => h) (.inl ⟨rfl, fun w' _ => ?_⟩) trivial ?_
            · go_simp <;> omega
            try simp only [Act.put, List.getElem_toArray, List.getElem_cons_succ, List.getElem_cons_zero, List.setIfInBounds_toArray, List.set_cons_zero, List.set_cons_succ]
            refine wpAnyH_take (i := 5) (v := .int .i64 (j : Int)) rfl (by kernel_rfl) (by kernel_rfl) (by kernel_rfl) (fun _ _ _ h => h) (.inl ⟨rfl, fun w' _ => ?_⟩) trivial ?_
            · go_simp <;> omega
            try simp only [Act.put, List.getElem_toArray, List.getElem_cons_succ, List.getElem_cons_zero, List.setIfInBounds_toArray, List.set_cons_zero, List.set_cons_succ]
            refine wpAnyH_take (i := 6) (v := .string (s.extract j s.size)) rfl (by kernel_rfl) (by kernel_rfl) (by kernel_rfl) (fun _ _ _ h => h) (.inl ⟨rfl, fun w' _ => ?_⟩) trivial ?_
            · go_simp <;> omega
            try simp only [Act.put, List.getElem_toArray, List.getElem_cons_succ, List.getElem_cons_zero, List.setIfInBounds_toArray, List.set_cons_zero, List.set_cons_succ]
            refine wpAnyH_take (i := 7) (v := .string (s.extract 0 j ++ ⟨#[32]⟩ ++ s.extract j s.size)) rfl (by kernel_rfl) (by kernel_rfl) (by kernel_rfl) (fun _ _ _ h => h) (.inl ⟨rfl, fun w' _ => ?_⟩) trivial ?_
            · go_simp <;> omega
            try simp only [Act.put, List.getElem_toArray, List.getElem_cons_succ, List.getElem_cons_zero, List.setIfInBounds_toArray, List.set_cons_zero, List.set_cons_succ]
            refine tail_at (fuel2 := 3) (ls2 := #[true, true, true, true, true, true, true, true, true, true, true, true, true, true, false, false, false]) (fun a0 W' a' => ∃ (A' : Option Addr) (c' g : Nat), a' = (((((a0.put (some 54) (.tuple #[.agg #[.int .i64 n.k, .slice A' m c'], .int .i64 e, .int .i64 a9])).put (some 45) (.tuple #[.agg #[.int .i64 n.k, .slice A' m c'], .int .i64 e, .int .i64 a9])).put (some 55) (.agg #[.int .i64 n.k, .slice A' m c'])).put (some 56) (.int .i64 e)).put (some 57) (.int .i64 a9)).put (some 10) (.pointer (some ⟨g, 0, none⟩)) ∧
                Hid (Below w3.heap.size w3 W' ∧ w3.heap.size ≤ g ∧ W'.heap[g]? = some (.cells #[.int .i64 0, .slice none 0 0] 24 (0, 0)) ∧ Vst W' A' n.ws ∧ n.ws.length = m)) (fun TAIL => ?g1) ?g2
            case g1 =>
              refine wpAnyH_all (rs := [8, 13]) (by kernel_rfl) (by decide) (fun i hi => ?_)
              simp only [List.mem_cons, List.not_mem_nil, or_false] at hi
              rcases hi with rfl | rfl
              · refine wpOp_plain rfl rfl ?_
                go_wp2_with fail
                refine (KQ.out w3.drew ZD.out).mono ?_
                rintro e9 w4 ⟨A', c', rfl, hb, hv, hc⟩
                have HB4 := hide (bel_trans (below_drew (Below.refl _ w3)) hb)
                have V4 := hide hv
                clear hb hv
                try simp only [Act.put, List.getElem_toArray, List.getElem_cons_succ, List.getElem_cons_zero, List.setIfInBounds_toArray, List.set_cons_zero, List.set_cons_succ]
                refine wpAnyH_take (i := 9) (v := .tuple #[.agg #[.int .i64 n.k, .slice A' m c'], .int .i64 e, .int .i64 a9]) rfl (by kernel_rfl) (by kernel_rfl) (by kernel_rfl) (fun _ _ _ h => h) (.inl ⟨rfl, fun w' _ => ?_⟩) trivial ?_
                · go_simp
                try simp only [Act.put, List.getElem_toArray, List.getElem_cons_succ, List.getElem_cons_zero, List.setIfInBounds_toArray, List.set_cons_zero, List.set_cons_succ]
                refine wpAnyH_take (i := 10) (v := .agg #[.int .i64 n.k, .slice A' m c']) rfl (by kernel_rfl) (by kernel_rfl) (by kernel_rfl) (fun _ _ _ h => h) (.inl ⟨rfl, fun w' _ => ?_⟩) trivial ?_
                · go_simp
                try simp only [Act.put, List.getElem_toArray, List.getElem_cons_succ, List.getElem_cons_zero, List.setIfInBounds_toArray, List.set_cons_zero, List.set_cons_succ]
                refine wpAnyH_take (i := 11) (v := .int .i64 e) rfl (by kernel_rfl) (by kernel_rfl) (by kernel_rfl) (fun _ _ _ h => h) (.inl ⟨rfl, fun w' _ => ?_⟩) trivial ?_
                · go_simp
                try simp only [Act.put, List.getElem_toArray, List.getElem_cons_succ, List.getElem_cons_zero, List.setIfInBounds_toArray, List.set_cons_zero, List.set_cons_succ]
                refine wpAnyH_take (i := 12) (v := .int .i64 a9) rfl (by kernel_rfl) (by kernel_rfl) (by kernel_rfl) (fun _ _ _ h => h) (.inl ⟨rfl, fun w' _ => ?_⟩) trivial ?_
                · go_simp
                try simp only [Act.put, List.getElem_toArray, List.getElem_cons_succ, List.getElem_cons_zero, List.setIfInBounds_toArray, List.set_cons_zero, List.set_cons_succ]
                refine wpAnyH_all (rs := [13]) (by kernel_rfl) (by decide) (fun i hi => ?_)
                simp only [List.mem_cons, List.not_mem_nil, or_false] at hi
                subst hi
                refine wpOp_plain rfl rfl ?_
                go_wp2_with fail
                try simp only [Act.put, List.getElem_toArray, List.getElem_cons_succ, List.getElem_cons_zero, List.setIfInBounds_toArray, List.set_cons_zero, List.set_cons_succ]
                refine TAIL _ _ ⟨A', c', w4.heap.size, ?_, hide ⟨bel_new _ HB4.out, HB4.out.size, heap_alloc_new _ _, V4.out.below (bel_new _ (Below.refl _ _)), HM.out.symm⟩⟩
                simp only [Act.put, List.setIfInBounds_toArray, List.set_cons_zero, List.set_cons_succ]
              · refine wpOp_plain rfl rfl ?_
                go_wp2_with fail
                have HB3 := hide (show Below w3.heap.size w3 ((w3.alloc (.cells #[.int .i64 0, .slice none 0 0] 24)).drew) from below_drew (bel_new _ (Below.refl _ w3)))
                have HC3 := hide (show (w3.alloc (.cells #[.int .i64 0, .slice none 0 0] 24)).drew.heap[w3.heap.size]? = some (.cells #[.int .i64 0, .slice none 0 0] 24 (0, 0)) from heap_alloc_new w3 _)
                try simp only [Act.put, List.getElem_toArray, List.getElem_cons_succ, List.getElem_cons_zero, List.setIfInBounds_toArray, List.set_cons_zero, List.set_cons_succ]
                generalize (w3.alloc (.cells #[.int .i64 0, .slice none 0 0] 24)).drew = w5 at *
                refine wpAnyH_all (rs := [8]) (by kernel_rfl) (by decide) (fun i hi => ?_)
                simp only [List.mem_cons, List.not_mem_nil, or_false] at hi
                subst hi
                refine wpOp_plain rfl rfl ?_
                go_wp2_with fail
                refine (KQ.out w5 (ZW.out.below HB3.out)).mono ?_
                rintro e9 w4 ⟨A', c', rfl, hb, hv, hc⟩
                have HB4 := hide (bel_trans HB3.out hb)
                have HC4 := hide ((hb.block _ (lt_of_block HC3.out)).trans HC3.out)
                have V4 := hide hv
                clear hb hv
                try simp only [Act.put, List.getElem_toArray, List.getElem_cons_succ, List.getElem_cons_zero, List.setIfInBounds_toArray, List.set_cons_zero, List.set_cons_succ]
                refine wpAnyH_take (i := 9) (v := .tuple #[.agg #[.int .i64 n.k, .slice A' m c'], .int .i64 e, .int .i64 a9]) rfl (by kernel_rfl) (by kernel_rfl) (by kernel_rfl) (fun _ _ _ h => h) (.inl ⟨rfl, fun w' _ => ?_⟩) trivial ?_
                · go_simp
                try simp only [Act.put, List.getElem_toArray, List.getElem_cons_succ, List.getElem_cons_zero, List.setIfInBounds_toArray, List.set_cons_zero, List.set_cons_succ]
                refine wpAnyH_take (i := 10) (v := .agg #[.int .i64 n.k, .slice A' m c']) rfl (by kernel_rfl) (by kernel_rfl) (by kernel_rfl) (fun _ _ _ h => h) (.inl ⟨rfl, fun w' _ => ?_⟩) trivial ?_
                · go_simp
                try simp only [Act.put, List.getElem_toArray, List.getElem_cons_succ, List.getElem_cons_zero, List.setIfInBounds_toArray, List.set_cons_zero, List.set_cons_succ]
                refine wpAnyH_take (i := 11) (v := .int .i64 e) rfl (by kernel_rfl) (by kernel_rfl) (by kernel_rfl) (fun _ _ _ h => h) (.inl ⟨rfl, fun w' _ => ?_⟩) trivial ?_
                · go_simp
                try simp only [Act.put, List.getElem_toArray, List.getElem_cons_succ, List.getElem_cons_zero, List.setIfInBounds_toArray, List.set_cons_zero, List.set_cons_succ]
                refine wpAnyH_take (i := 12) (v := .int .i64 a9) rfl (by kernel_rfl) (by kernel_rfl) (by kernel_rfl) (fun _ _ _ h => h) (.inl ⟨rfl, fun w' _ => ?_⟩) trivial ?_
                · go_simp
                try simp only [Act.put, List.getElem_toArray, List.getElem_cons_succ, List.getElem_cons_zero, List.setIfInBounds_toArray, List.set_cons_zero, List.set_cons_succ]
                refine TAIL _ _ ⟨A', c', w3.heap.size, ?_, hide ⟨HB4.out, Nat.le_refl _, HC4.out, V4.out, HM.out.symm⟩⟩
                simp only [Act.put, List.setIfInBounds_toArray, List.set_cons_zero, List.set_cons_succ]
            case g2 =>
              rintro W' a' ⟨A', c', g, rfl, HI⟩
              try simp only [Act.put, List.getElem_toArray, List.getElem_cons_succ, List.getElem_cons_zero, List.setIfInBounds_toArray, List.set_cons_zero, List.set_cons_succ]
              refine wpAnyH_all (rs := [14]) (by kernel_rfl) (by decide) (fun i hi => ?_)
              simp only [List.mem_cons, List.not_mem_nil, or_false] at hi
              subst hi
              obtain ⟨g1, g2, g3, g4, g5⟩ := HI.out
              have k0 : W'.cell? ⟨g, 0, none⟩ = some (.int .i64 0) := by simp [World.cell?, g3]
              have k1 : W'.cell? ⟨g, 1, none⟩ = some (.slice none 0 0) := by simp [World.cell?, g3]
              have f0 : W'.frozen? ⟨g, 0, none⟩ = false := by simp [World.frozen?, g3]
              have f1 : W'.frozen? ⟨g, 1, none⟩ = false := by simp [World.frozen?, g3]
              have HX := hide (gap_store (k := n.k) (c := c') g1 g2 g3 g4 g5)
              clear g1 g2 g3 g4 g5 HI
              refine wpOp_plain rfl rfl ?_
              go_wp2_with fail
              clear k0 k1 f0 f1
              try simp only [Act.put, List.getElem_toArray, List.getElem_cons_succ, List.getElem_cons_zero, List.setIfInBounds_toArray, List.set_cons_zero, List.set_cons_succ]
              generalize (W'.setCell ⟨g, 0, none⟩ (.int .i64 n.k)).setCell ⟨g, 1, none⟩ (.slice A' m c') = W6 at *
              refine wpAnyH_take (i := 15) (v := .int .i64 e) rfl (by kernel_rfl) (by kernel_rfl) (by kernel_rfl) (fun _ _ _ h => h) (.inl ⟨rfl, fun w' _ => ?_⟩) trivial ?_
              · go_simp
              try simp only [Act.put, List.getElem_toArray, List.getElem_cons_succ, List.getElem_cons_zero, List.setIfInBounds_toArray, List.set_cons_zero, List.set_cons_succ]
              refine wpAnyH_take (i := 16) (v := .int .i64 a9) rfl (by kernel_rfl) (by kernel_rfl) (by kernel_rfl) (fun _ _ _ h => h) (.inl ⟨rfl, fun w' _ => ?_⟩) trivial ?_
              · go_simp
              try simp only [Act.put, List.getElem_toArray, List.getElem_cons_succ, List.getElem_cons_zero, List.setIfInBounds_toArray, List.set_cons_zero, List.set_cons_succ]
              refine wpAnyH_done (by kernel_rfl) ?_ _
              have HY := hide (HX.out.2.1)
              have BE := hide (bel_trans (bel_trans (bel_trans S1.out S2.out) S3.out) HX.out.1)
              obtain ⟨px0, px1⟩ := Cx.out _ HX.out.1
              obtain ⟨py0, py1⟩ := HY.out
              have KE := hide (same_ex (c := cx) (d := c') (Vx.out.below HX.out.1) HX.out.2.2 HM.out.symm (by omega))
              clear HX
              go_wp2_with fail
              refine KE.out.mono ?_
              rintro e9 w7 ⟨rfl, hb⟩
              have BF := hide (bel_trans BE.out hb)
              clear KE hb
              go_wp2
              go_ret
              exact ⟨rfl, BF.out⟩
        · clear HST
          go_wp2_with fail
          refine (KP.out wr (HZ.out.below (bel_trans S1.out S2.out))).mono ?_
          rintro e9 v3 ⟨Ax, cx, rfl, hb, hv, hcx⟩
          have hba := bel_new (.cells #[.int .i64 n.k, .slice Ax m cx] 24) (Below.refl _ v3)
          have S3 := hide (bel_trans hb hba)
          have Vx := hide (hv.below hba)
          have Cx := hide (box_cells v3 (n.k) Ax m cx)
          clear hb hba hv
          by_cases he : e = 5
          · have te : (e == 5) = true := by simpa using he
            clear HP
            go_wp2
            go_ret
            exact ⟨rfl, (bel_trans (bel_trans S1.out S2.out) S3.out)⟩
          · have te : (e == 5) = false := by simpa using he
            have ZD := hide (HZ.out.below (below_drew (bel_trans (bel_trans S1.out S2.out) S3.out)))
            have ZW := hide (HZ.out.below (bel_trans (bel_trans S1.out S2.out) S3.out))
            obtain ⟨a9, hp'⟩ := gap_parse (by omega) hj HG.out HP.out he
            have KQ := hide (fun W hz => par_ex _ hp' HM.out.symm W hz)
            clear hp' he HP HG
            have i1 : (j : Int) ≤ (s.size : Int) := by omega
            have z1 : (s.extract 0 j).size = j := by rw [ByteArray.size_extract]; omega
            have z2 : (s.extract j s.size).size = s.size - j := by rw [ByteArray.size_extract]; omega
            have q1 : ¬ 9223372036854775807 < (s.extract 0 j).size + 1 := by omega
            have q2 : ¬ 9223372036854775807 < (s.extract 0 j ++ ⟨#[32]⟩).size + (s.extract j s.size).size := by rw [ByteArray.size_append, z1, z2]; show ¬ 9223372036854775807 < j + 1 + (s.size - j); omega
            clear z1 z2
            go_wp2_with fail
            generalize v3.alloc (.cells #[.int .i64 n.k, .slice Ax m cx] 24) = w3 at *
            generalize v3.heap.size = gx at *
            clear v3
            refine wp_region_held (S := fun _ => True) (by kernel_rfl) (show wpAnyH _ _ _ _ _ _ _ _ w3.drew from ?_)
            refine wpAnyH_take (i := 0) (v := .string s) rfl (by kernel_rfl) (by kernel_rfl) (by kernel_rfl) (fun _ _ _ h => h) (.inl ⟨rfl, fun w' _ => ?_⟩) trivial ?_
            · go_simp <;> omega
            try simp only [Act.put, List.getElem_toArray, List.getElem_cons_succ, List.getElem_cons_zero, List.setIfInBounds_toArray, List.set_cons_zero, List.set_cons_succ]
            refine wpAnyH_take (i := 1) (v := .int .i64 (j : Int)) rfl (by kernel_rfl) (by kernel_rfl) (by kernel_rfl) (fun _ _ _ h => h) (.inl ⟨rfl, fun w' _ => ?_⟩) trivial ?_
            · go_simp <;> omega
            try simp only [Act.put, List.getElem_toArray, List.getElem_cons_succ, List.getElem_cons_zero, List.setIfInBounds_toArray, List.set_cons_zero, List.set_cons_succ]
            refine wpAnyH_take (i := 2) (v := .string (s.extract 0 j)) rfl (by kernel_rfl) (by kernel_rfl) (by kernel_rfl) (fun _ _ _ h => h) (.inl ⟨rfl, fun w' _ => ?_⟩) trivial ?_
            · go_simp <;> omega
            try simp only [Act.put, List.getElem_toArray, List.getElem_cons_succ, List.getElem_cons_zero, List.setIfInBounds_toArray, List.set_cons_zero, List.set_cons_succ]
            refine wpAnyH_take (i := 3) (v := .string (s.extract 0 j ++ ⟨#[32]⟩)) rfl (by kernel_rfl) (by kernel_rfl) (by kernel_rfl) (fun _ _ _ h => h) (.inl ⟨rfl, fun w' _ => ?_⟩) trivial ?_
            · go_simp <;> omega
            try simp only [Act.put, List.getElem_toArray, List.getElem_cons_succ, List.getElem_cons_zero, List.setIfInBounds_toArray, List.set_cons_zero, List.set_cons_succ]
            refine wpAnyH_take (i := 4) (v := .string s) rfl (by kernel_rfl) (by kernel_rfl) (by kernel_rfl) (fun _ _ _ h => h) (.inl ⟨rfl, fun w' _ => ?_⟩) trivial ?_
            · go_simp <;> omega
            try simp only [Act.put, List.getElem_toArray, List.getElem_cons_succ, List.getElem_cons_zero, List.setIfInBounds_toArray, List.set_cons_zero, List.set_cons_succ]
            refine wpAnyH_take (i := 5) (v := .int .i64 (j : Int)) rfl (by kernel_rfl) (by kernel_rfl) (by kernel_rfl) (fun _ _ _ h => h) (.inl ⟨rfl, fun w' _ => ?_⟩) trivial ?_
            · go_simp <;> omega
            try simp only [Act.put, List.getElem_toArray, List.getElem_cons_succ, List.getElem_cons_zero, List.setIfInBounds_toArray, List.set_cons_zero, List.set_cons_succ]
            refine wpAnyH_take (i := 6) (v := .string (s.extract j s.size)) rfl (by kernel_rfl) (by kernel_rfl) (by kernel_rfl) (fun _ _ _ h => h) (.inl ⟨rfl, fun w' _ => ?_⟩) trivial ?_
            · go_simp <;> omega
            try simp only [Act.put, List.getElem_toArray, List.getElem_cons_succ, List.getElem_cons_zero, List.setIfInBounds_toArray, List.set_cons_zero, List.set_cons_succ]
            refine wpAnyH_take (i := 7) (v := .string (s.extract 0 j ++ ⟨#[32]⟩ ++ s.extract j s.size)) rfl (by kernel_rfl) (by kernel_rfl) (by kernel_rfl) (fun _ _ _ h => h) (.inl ⟨rfl, fun w' _ => ?_⟩) trivial ?_
            · go_simp <;> omega
            try simp only [Act.put, List.getElem_toArray, List.getElem_cons_succ, List.getElem_cons_zero, List.setIfInBounds_toArray, List.set_cons_zero, List.set_cons_succ]
            refine tail_at (fuel2 := 3) (ls2 := #[true, true, true, true, true, true, true, true, true, true, true, true, true, true, false, false, false]) (fun a0 W' a' => ∃ (A' : Option Addr) (c' g : Nat), a' = (((((a0.put (some 54) (.tuple #[.agg #[.int .i64 n.k, .slice A' m c'], .int .i64 e, .int .i64 a9])).put (some 45) (.tuple #[.agg #[.int .i64 n.k, .slice A' m c'], .int .i64 e, .int .i64 a9])).put (some 55) (.agg #[.int .i64 n.k, .slice A' m c'])).put (some 56) (.int .i64 e)).put (some 57) (.int .i64 a9)).put (some 10) (.pointer (some ⟨g, 0, none⟩)) ∧
                Hid (Below w3.heap.size w3 W' ∧ w3.heap.size ≤ g ∧ W'.heap[g]? = some (.cells #[.int .i64 0, .slice none 0 0] 24 (0, 0)) ∧ Vst W' A' n.ws ∧ n.ws.length = m)) (fun TAIL => ?g1) ?g2
            case g1 =>
              refine wpAnyH_all (rs := [8, 13]) (by kernel_rfl) (by decide) (fun i hi => ?_)
              simp only [List.mem_cons, List.not_mem_nil, or_false] at hi
              rcases hi with rfl | rfl
              · refine wpOp_plain rfl rfl ?_
                go_wp2_with fail
                refine (KQ.out w3.drew ZD.out).mono ?_
                rintro e9 w4 ⟨A', c', rfl, hb, hv, hc⟩
                have HB4 := hide (bel_trans (below_drew (Below.refl _ w3)) hb)
                have V4 := hide hv
                clear hb hv
                try simp only [Act.put, List.getElem_toArray, List.getElem_cons_succ, List.getElem_cons_zero, List.setIfInBounds_toArray, List.set_cons_zero, List.set_cons_succ]
                refine wpAnyH_take (i := 9) (v := .tuple #[.agg #[.int .i64 n.k, .slice A' m c'], .int .i64 e, .int .i64 a9]) rfl (by kernel_rfl) (by kernel_rfl) (by kernel_rfl) (fun _ _ _ h => h) (.inl ⟨rfl, fun w' _ => ?_⟩) trivial ?_
                · go_simp
                try simp only [Act.put, List.getElem_toArray, List.getElem_cons_succ, List.getElem_cons_zero, List.setIfInBounds_toArray, List.set_cons_zero, List.set_cons_succ]
                refine wpAnyH_take (i := 10) (v := .agg #[.int .i64 n.k, .slice A' m c']) rfl (by kernel_rfl) (by kernel_rfl) (by kernel_rfl) (fun _ _ _ h => h) (.inl ⟨rfl, fun w' _ => ?_⟩) trivial ?_
                · go_simp
                try simp only [Act.put, List.getElem_toArray, List.getElem_cons_succ, List.getElem_cons_zero, List.setIfInBounds_toArray, List.set_cons_zero, List.set_cons_succ]
                refine wpAnyH_take (i := 11) (v := .int .i64 e) rfl (by kernel_rfl) (by kernel_rfl) (by kernel_rfl) (fun _ _ _ h => h) (.inl ⟨rfl, fun w' _ => ?_⟩) trivial ?_
                · go_simp
                try simp only [Act.put, List.getElem_toArray, List.getElem_cons_succ, List.getElem_cons_zero, List.setIfInBounds_toArray, List.set_cons_zero, List.set_cons_succ]
                refine wpAnyH_take (i := 12) (v := .int .i64 a9) rfl (by kernel_rfl) (by kernel_rfl) (by kernel_rfl) (fun _ _ _ h => h) (.inl ⟨rfl, fun w' _ => ?_⟩) trivial ?_
                · go_simp
                try simp only [Act.put, List.getElem_toArray, List.getElem_cons_succ, List.getElem_cons_zero, List.setIfInBounds_toArray, List.set_cons_zero, List.set_cons_succ]
                refine wpAnyH_all (rs := [13]) (by kernel_rfl) (by decide) (fun i hi => ?_)
                simp only [List.mem_cons, List.not_mem_nil, or_false] at hi
                subst hi
                refine wpOp_plain rfl rfl ?_
                go_wp2_with fail
                try simp only [Act.put, List.getElem_toArray, List.getElem_cons_succ, List.getElem_cons_zero, List.setIfInBounds_toArray, List.set_cons_zero, List.set_cons_succ]
                refine TAIL _ _ ⟨A', c', w4.heap.size, ?_, hide ⟨bel_new _ HB4.out, HB4.out.size, heap_alloc_new _ _, V4.out.below (bel_new _ (Below.refl _ _)), HM.out.symm⟩⟩
                simp only [Act.put, List.setIfInBounds_toArray, List.set_cons_zero, List.set_cons_succ]
              · refine wpOp_plain rfl rfl ?_
                go_wp2_with fail
                have HB3 := hide (show Below w3.heap.size w3 ((w3.alloc (.cells #[.int .i64 0, .slice none 0 0] 24)).drew) from below_drew (bel_new _ (Below.refl _ w3)))
                have HC3 := hide (show (w3.alloc (.cells #[.int .i64 0, .slice none 0 0] 24)).drew.heap[w3.heap.size]? = some (.cells #[.int .i64 0, .slice none 0 0] 24 (0, 0)) from heap_alloc_new w3 _)
                try simp only [Act.put, List.getElem_toArray, List.getElem_cons_succ, List.getElem_cons_zero, List.setIfInBounds_toArray, List.set_cons_zero, List.set_cons_succ]
                generalize (w3.alloc (.cells #[.int .i64 0, .slice none 0 0] 24)).drew = w5 at *
                refine wpAnyH_all (rs := [8]) (by kernel_rfl) (by decide) (fun i hi => ?_)
                simp only [List.mem_cons, List.not_mem_nil, or_false] at hi
                subst hi
                refine wpOp_plain rfl rfl ?_
                go_wp2_with fail
                refine (KQ.out w5 (ZW.out.below HB3.out)).mono ?_
                rintro e9 w4 ⟨A', c', rfl, hb, hv, hc⟩
                have HB4 := hide (bel_trans HB3.out hb)
                have HC4 := hide ((hb.block _ (lt_of_block HC3.out)).trans HC3.out)
                have V4 := hide hv
                clear hb hv
                try simp only [Act.put, List.getElem_toArray, List.getElem_cons_succ, List.getElem_cons_zero, List.setIfInBounds_toArray, List.set_cons_zero, List.set_cons_succ]
                refine wpAnyH_take (i := 9) (v := .tuple #[.agg #[.int .i64 n.k, .slice A' m c'], .int .i64 e, .int .i64 a9]) rfl (by kernel_rfl) (by kernel_rfl) (by kernel_rfl) (fun _ _ _ h => h) (.inl ⟨rfl, fun w' _ => ?_⟩) trivial ?_
                · go_simp
                try simp only [Act.put, List.getElem_toArray, List.getElem_cons_succ, List.getElem_cons_zero, List.setIfInBounds_toArray, List.set_cons_zero, List.set_cons_succ]
                refine wpAnyH_take (i := 10) (v := .agg #[.int .i64 n.k, .slice A' m c']) rfl (by kernel_rfl) (by kernel_rfl) (by kernel_rfl) (fun _ _ _ h => h) (.inl ⟨rfl, fun w' _ => ?_⟩) trivial ?_
                · go_simp
                try simp only [Act.put, List.getElem_toArray, List.getElem_cons_succ, List.getElem_cons_zero, List.setIfInBounds_toArray, List.set_cons_zero, List.set_cons_succ]
                refine wpAnyH_take (i := 11) (v := .int .i64 e) rfl (by kernel_rfl) (by kernel_rfl) (by kernel_rfl) (fun _ _ _ h => h) (.inl ⟨rfl, fun w' _ => ?_⟩) trivial ?_
                · go_simp
                try simp only [Act.put, List.getElem_toArray, List.getElem_cons_succ, List.getElem_cons_zero, List.setIfInBounds_toArray, List.set_cons_zero, List.set_cons_succ]
                refine wpAnyH_take (i := 12) (v := .int .i64 a9) rfl (by kernel_rfl) (by kernel_rfl) (by kernel_rfl) (fun _ _ _ h => h) (.inl ⟨rfl, fun w' _ => ?_⟩) trivial ?_
                · go_simp
                try simp only [Act.put, List.getElem_toArray, List.getElem_cons_succ, List.getElem_cons_zero, List.setIfInBounds_toArray, List.set_cons_zero, List.set_cons_succ]
                refine TAIL _ _ ⟨A', c', w3.heap.size, ?_, hide ⟨HB4.out, Nat.le_refl _, HC4.out, V4.out, HM.out.symm⟩⟩
                simp only [Act.put, List.setIfInBounds_toArray, List.set_cons_zero, List.set_cons_succ]
            case g2 =>
              rintro W' a' ⟨A', c', g, rfl, HI⟩
              try simp only [Act.put, List.getElem_toArray, List.getElem_cons_succ, List.getElem_cons_zero, List.setIfInBounds_toArray, List.set_cons_zero, List.set_cons_succ]
              refine wpAnyH_all (rs := [14]) (by kernel_rfl) (by decide) (fun i hi => ?_)
              simp only [List.mem_cons, List.not_mem_nil, or_false] at hi
              subst hi
              obtain ⟨g1, g2, g3, g4, g5⟩ := HI.out
              have k0 : W'.cell? ⟨g, 0, none⟩ = some (.int .i64 0) := by simp [World.cell?, g3]
              have k1 : W'.cell? ⟨g, 1, none⟩ = some (.slice none 0 0) := by simp [World.cell?, g3]
              have f0 : W'.frozen? ⟨g, 0, none⟩ = false := by simp [World.frozen?, g3]
              have f1 : W'.frozen? ⟨g, 1, none⟩ = false := by simp [World.frozen?, g3]
              have HX := hide (gap_store (k := n.k) (c := c') g1 g2 g3 g4 g5)
              clear g1 g2 g3 g4 g5 HI
              refine wpOp_plain rfl rfl ?_
              go_wp2_with fail
              clear k0 k1 f0 f1
              try simp only [Act.put, List.getElem_toArray, List.getElem_cons_succ, List.getElem_cons_zero, List.setIfInBounds_toArray, List.set_cons_zero, List.set_cons_succ]
              generalize (W'.setCell ⟨g, 0, none⟩ (.int .i64 n.k)).setCell ⟨g, 1, none⟩ (.slice A' m c') = W6 at *
              refine wpAnyH_take (i := 15) (v := .int .i64 e) rfl (by kernel_rfl) (by kernel_rfl) (by kernel_rfl) (fun _ _ _ h => h) (.inl ⟨rfl, fun w' _ => ?_⟩) trivial ?_
              · go_simp
              try simp only [Act.put, List.getElem_toArray, List.getElem_cons_succ, List.getElem_cons_zero, List.setIfInBounds_toArray, List.set_cons_zero, List.set_cons_succ]
              refine wpAnyH_take (i := 16) (v := .int .i64 a9) rfl (by kernel_rfl) (by kernel_rfl) (by kernel_rfl) (fun _ _ _ h => h) (.inl ⟨rfl, fun w' _ => ?_⟩) trivial ?_
              · go_simp
              try simp only [Act.put, List.getElem_toArray, List.getElem_cons_succ, List.getElem_cons_zero, List.setIfInBounds_toArray, List.set_cons_zero, List.set_cons_succ]
              refine wpAnyH_done (by kernel_rfl) ?_ _
              have HY := hide (HX.out.2.1)
              have BE := hide (bel_trans (bel_trans (bel_trans S1.out S2.out) S3.out) HX.out.1)
              obtain ⟨px0, px1⟩ := Cx.out _ HX.out.1
              obtain ⟨py0, py1⟩ := HY.out
              have KE := hide (same_ex (c := cx) (d := c') (Vx.out.below HX.out.1) HX.out.2.2 HM.out.symm (by omega))
              clear HX
              go_wp2_with fail
              refine KE.out.mono ?_
              rintro e9 w7 ⟨rfl, hb⟩
              have BF := hide (bel_trans BE.out hb)
              clear KE hb
              go_wp2
              go_ret
              exact ⟨rfl, BF.out⟩
end Go.Proofs.YtcgmikpmbomliaaDoor
