/-
  Assign: Valid of the reference; within, valid of the program.
  Assign: within, valid of the program.
  Assign: numbers of a valid problem; Bound of the program.
  Assign: Bound of the program.
-/
import Derived.Test.YtalbhghigdanlaaMG5
set_option linter.unusedSimpArgs false
set_option linter.unusedVariables false
namespace Go.Proofs.Ytalbhghigdanlaa
open Go.RowKit Go.CH Go.CH.Asg
open Go.ChangeMaps (setBlock)

/-- The part of validity that does not speak of rows. -/
def vl0 (n nd ne : Nat) (D E : List Int) : Bool := decide (n = nd) && decide (nd ≤ 6) && decide (ne ≤ 6) && wi D 0 10000 && wi E 0 10000
def vlr (ne : Nat) (r : List Int) : Bool := decide (r.length = ne) && wi r 0 100000
theorem vld_eq (C : List (List Int)) (D E : List Int) : vld C D E = (vl0 C.length D.length E.length D E && C.all (vlr E.length)) := rfl
theorem vlr_take {C : List (List Int)} {ne k : Nat} (h : k < C.length) : (C.take (k + 1)).all (vlr ne) = ((C.take k).all (vlr ne) && vlr ne C[k]) := by
  rw [List.take_succ_eq_append_getElem h, List.all_append]; simp
set_option maxHeartbeats 3200000 in
theorem rvalid_any {w : World} {A B G : Option Addr} {V : List (Option Addr × Nat)} {c d e : Nat} {C : List (List Int)} {D E : List Int} (h : Mat w A C V) (hD : Vec w B D) (hE : Vec w G E) :
    Calls Try.prog 13 #[.slice A C.length c, .slice B D.length d, .slice G E.length e] w (Quiet w (.bool (vld C D E))) := by
  have HA := hide h
  have HV := hide (vld_eq C D E)
  have HD := hide (fun hl => rwithin_any (c := d) hD hl 0 10000)
  have HE := hide (fun hl => rwithin_any (c := e) hE hl 0 10000)
  obtain ⟨n, hn⟩ : ∃ n, n = C.length := ⟨_, rfl⟩
  obtain ⟨nd, hnd⟩ : ∃ n, n = D.length := ⟨_, rfl⟩
  obtain ⟨ne, hne⟩ : ∃ n, n = E.length := ⟨_, rfl⟩
  have HN := hide hn
  rw [← hn, ← hnd, ← hne] at HV
  rw [← hnd] at HD
  rw [← hne] at HE
  rw [← hn, ← hnd, ← hne]
  clear h hn hnd hne hD hE
  by_cases h1 : n = nd
  case neg =>
    have HF := hide (show false = vld C D E by rw [HV.out, vl0, decide_eq_false h1]; simp)
    clear HV HD HE HA
    go_enter Try.func13, Try.ntmps13
    go_wp2
    go_ret
    exact quiet_bool HF.out
  subst h1
  by_cases h2 : n ≤ 6
  case neg =>
    have HF := hide (show false = vld C D E by rw [HV.out, vl0, decide_eq_false h2]; simp)
    clear HV HD HE HA
    go_enter Try.func13, Try.ntmps13
    go_wp2
    go_ret
    exact quiet_bool HF.out
  by_cases h3 : ne ≤ 6
  case neg =>
    have HF := hide (show false = vld C D E by rw [HV.out, vl0, decide_eq_false h3]; simp)
    clear HV HD HE HA
    go_enter Try.func13, Try.ntmps13
    go_wp2
    go_ret
    exact quiet_bool HF.out
  have KD := hide (HD.out (by omega))
  have KE := hide (HE.out (by omega))
  have HV2 := hide (show vld C D E = (wi D 0 10000 && wi E 0 10000 && C.all (vlr ne)) by rw [HV.out, vl0, decide_eq_true rfl, decide_eq_true h2, decide_eq_true h3]; simp)
  clear HD HE HV
  cases h4 : wi D 0 10000 with
  | false =>
    rw [h4] at KD HV2
    have HF := hide (show false = vld C D E by rw [HV2.out]; simp)
    clear HV2 HA h4
    go_enter Try.func13, Try.ntmps13
    go_wp2_with fail
    refine KD.out.mono ?_
    rintro e w' ⟨rfl, rfl⟩
    go_wp2
    go_ret
    exact quiet_bool HF.out
  | true =>
    rw [h4] at KD HV2
    clear h4
    cases h5 : wi E 0 10000 with
    | false =>
      rw [h5] at KE HV2
      have HF := hide (show false = vld C D E by rw [HV2.out]; simp)
      clear HV2 HA h5
      go_enter Try.func13, Try.ntmps13
      go_wp2_with fail
      refine KD.out.mono ?_
      rintro e w' ⟨rfl, rfl⟩
      go_wp2_with fail
      refine KE.out.mono ?_
      rintro e w' ⟨rfl, rfl⟩
      go_wp2
      go_ret
      exact quiet_bool HF.out
    | true =>
      rw [h5] at KE HV2
      clear h5
      have HF := hide (show vld C D E = C.all (vlr ne) by rw [HV2.out]; simp)
      clear HV2
      go_enter Try.func13, Try.ntmps13
      go_wp2_with fail
      refine KD.out.mono ?_
      rintro e w' ⟨rfl, rfl⟩
      go_wp2_with fail
      refine KE.out.mono ?_
      rintro e w' ⟨rfl, rfl⟩
      go_wp2
      go_loop [7] (fun i => ∃ k : Nat, k ≤ n ∧ i = .int .i64 k ∧ (C.take k).all (vlr ne) = true) (fun i => n - (intOf i).toNat)
      case atStart => exact ⟨0, Nat.zero_le _, rfl, rfl⟩
      case round =>
        obtain ⟨k, hk, rfl, ht⟩ := hrel
        have HT := hide ht
        clear ht
        by_cases hlt : k < n
        · have hka : k < C.length := by rw [← HN.out]; exact hlt
          obtain ⟨b1, o1, rfl, hc1⟩ := HA.out.at (by omega)
          obtain ⟨Bk, ck, -, hrow, hck⟩ := hc1 k hka
          have c1 := hck _ (Below.refl _ _)
          have HX := hide (vlr_take (ne := ne) hka)
          have HY := hide (show vlr ne C[k] = false → C.all (vlr ne) = false from fun h => List.all_eq_false.2 ⟨C[k], List.getElem_mem _, by simpa using h⟩)
          have HK := hide (fun hl => rwithin_any (c := ck) hrow hl 0 100000)
          have HZ := hide (show vlr ne C[k] = (decide (C[k].length = ne) && wi C[k] 0 100000) from rfl)
          generalize C[k] = x at *
          obtain ⟨nx, hnx⟩ : ∃ n, n = x.length := ⟨_, rfl⟩
          rw [← hnx] at c1 HK HZ
          clear hc1 hck hrow hnx
          by_cases hx : nx = ne
          · have KX := hide (HK.out (by omega))
            rw [decide_eq_true hx] at HZ
            have t1 : ¬ ((nx : Int) ≠ ne) := by omega
            cases hw : wi x 0 100000 with
            | false =>
              rw [hw] at KX HZ
              have HS := hide (show false = vld C D E by rw [HF.out, HY.out (by rw [HZ.out]; rfl)])
              clear HT HX HZ HK hw
              subst hx
              go_wp2_with fail
              refine KX.out.mono ?_
              rintro e w' ⟨rfl, rfl⟩
              go_wp2
              go_ret
              exact quiet_bool HS.out
            | true =>
              rw [hw] at KX HZ
              have HS := hide (show (C.take (k + 1)).all (vlr ne) = true by rw [HX.out, HT.out, HZ.out]; rfl)
              clear HT HX HZ HK hw
              subst hx
              go_wp2_with fail
              refine KX.out.mono ?_
              rintro e w' ⟨rfl, rfl⟩
              go_wp2
              go_round
              case rel => exact ⟨k + 1, by omega, by go_num, HS.out⟩
              case measure => simp [intOf]; omega
          · have HS := hide (show false = vld C D E by rw [HF.out, HY.out (by rw [HZ.out, decide_eq_false hx]; rfl)])
            clear HT HX HZ HK
            go_wp2
            go_ret
            exact quiet_bool HS.out
        · obtain rfl : k = n := by omega
          have HS := hide (show true = vld C D E by
            have := HT.out
            rw [HN.out, List.take_length] at this
            rw [HF.out, this])
          clear HT
          go_wp2
          go_ret
          exact quiet_bool HS.out
end Go.Proofs.Ytalbhghigdanlaa
namespace Go.Proofs.Ytalbhghigdanlaa
open Go.RowKit Go.CH Go.CH.Asg
open Go.ChangeMaps (setBlock)

set_option maxHeartbeats 800000 in
theorem out_any {w : World} {p q : Addr} (x lo hi : Int) (h1 : w.cell? p = some (.int .i64 lo)) (h2 : w.cell? q = some (.int .i64 hi)) :
    Calls Try.prog 43 #[.int .i64 x, .pointer (some p), .pointer (some q)] w (Quiet w (.bool (!(decide (lo ≤ x) && decide (x ≤ hi))))) := by
  by_cases g1 : x < lo
  · go_enter Try.func43, Try.ntmps43
    go_wp2
    go_ret
    refine quiet_bool ?_
    simp; omega
  · by_cases g2 : hi < x
    · go_enter Try.func43, Try.ntmps43
      go_wp2
      go_ret
      refine quiet_bool ?_
      simp; try omega
    · go_enter Try.func43, Try.ntmps43
      go_wp2
      go_ret
      refine quiet_bool ?_
      simp; try omega
set_option maxHeartbeats 800000 in
theorem index_any {w : World} {A : Option Addr} {c : Nat} {l : List Int} (h : Vec w A l) (hl : l.length ≤ 1000000) {p q : Addr} (lo hi : Int) (h1 : w.cell? p = some (.int .i64 lo)) (h2 : w.cell? q = some (.int .i64 hi)) :
    Calls Try.prog 45 #[.slice A l.length c, .func (.func 43) #[] #[.pointer (some p), .pointer (some q)]] w (fun e w' => ∃ r : Int, e = .returned (.int .i64 r) ∧ w' = w ∧ (0 ≤ r ↔ wi l lo hi = false)) := by
  have HA := hide h
  have HO := hide (fun x => out_any x lo hi h1 h2)
  obtain ⟨n, hn⟩ : ∃ n, n = l.length := ⟨_, rfl⟩
  rw [← hn] at hl
  have HN := hide hn
  rw [← hn]
  clear h hn h1 h2
  go_enter Try.func45, Try.ntmps45
  go_wp2
  go_loop [8] (fun i => ∃ k : Nat, k ≤ n ∧ i = .int .i64 k ∧ wi (l.take k) lo hi = true) (fun i => n - (intOf i).toNat)
  case atStart => exact ⟨0, Nat.zero_le _, rfl, rfl⟩
  case round =>
    obtain ⟨k, hk, rfl, hw⟩ := hrel
    have HW := hide hw
    clear hw
    by_cases hlt : k < n
    · have hkl : k < l.length := by rw [← HN.out]; exact hlt
      obtain ⟨b, o, rfl, hc⟩ := HA.out.at (by omega)
      have c0 := hc w (Below.refl _ _) k hkl
      have HT := hide (wi_take (lo := lo) (hi := hi) hkl)
      have HNO := hide (wi_no (l := l) (lo := lo) (hi := hi) (k := k))
      have KO := hide (HO.out l[k])
      generalize l[k] = x at *
      clear hc
      rw [HW.out, Bool.true_and] at HT
      cases hb : (decide (lo ≤ x) && decide (x ≤ hi)) with
      | true =>
        rw [hb] at HT KO
        clear hb
        go_wp2_with fail
        refine KO.out.mono ?_
        rintro e w' ⟨rfl, rfl⟩
        go_wp2
        go_round
        case rel => exact ⟨k + 1, by omega, by go_num, HT.out⟩
        case measure => simp [intOf]; omega
      | false =>
        rw [hb] at HT KO
        clear hb
        have HF := hide (HNO.out HT.out)
        clear HNO HT HW
        go_wp2_with fail
        refine KO.out.mono ?_
        rintro e w' ⟨rfl, rfl⟩
        go_wp2
        go_ret
        exact ⟨k, rfl, rfl, by rw [HF.out]; simp⟩
    · obtain rfl : k = n := by omega
      have HF := hide (show true = wi l lo hi by rw [← HW.out, HN.out, List.take_length])
      clear HW
      go_wp2
      go_ret
      exact ⟨-1, rfl, rfl, by rw [← HF.out]; simp⟩

set_option maxHeartbeats 800000 in
theorem contains_any {w : World} {A : Option Addr} {c : Nat} {l : List Int} (h : Vec w A l) (hl : l.length ≤ 1000000) {p q : Addr} (lo hi : Int) (h1 : w.cell? p = some (.int .i64 lo)) (h2 : w.cell? q = some (.int .i64 hi)) :
    Calls Try.prog 42 #[.slice A l.length c, .func (.func 43) #[] #[.pointer (some p), .pointer (some q)]] w (Quiet w (.bool (!wi l lo hi))) := by
  have KI := hide (index_any (c := c) h hl lo hi h1 h2)
  clear h h1 h2
  go_enter Try.func42, Try.ntmps42
  go_wp2_with fail
  refine KI.out.mono ?_
  rintro e w' ⟨r, rfl, rfl, hr⟩
  cases hw : wi l lo hi with
  | false =>
    have : 0 ≤ r := hr.2 hw
    go_wp2
    go_ret
    refine quiet_bool ?_
    simp [hw]
  | true =>
    have : ¬ 0 ≤ r := fun h => by rw [hr.1 h] at hw; cases hw
    go_wp2
    go_ret
    refine quiet_bool ?_
    simp [hw]
theorem new_old (w : World) (cs : Array Value) (t : TypeId) (o : Obj) {v : Value} (h : cs[0]? = some v) : ((w.alloc (.cells cs t)).alloc o).cell? ⟨w.heap.size, 0, none⟩ = some v := by
  have h1 : ((w.alloc (.cells cs t)).alloc o).heap[w.heap.size]? = (w.alloc (.cells cs t)).heap[w.heap.size]? := heap_old (by simp)
  rw [World.cell?_of_block (w := w.alloc (.cells cs t)) h1]
  obtain ⟨F, hC, -⟩ := cell_new w cs t
  exact cell_at hC h
theorem new_two (w : World) (o : Obj) (cs : Array Value) (t : TypeId) {v : Value} (h : cs[0]? = some v) : ((w.alloc o).alloc (.cells cs t)).cell? ⟨w.heap.size + 1, 0, none⟩ = some v := by
  obtain ⟨F, hC, -⟩ := cell_new (w.alloc o) cs t
  have := cell_at hC h
  rwa [show (w.alloc o).heap.size = w.heap.size + 1 by simp] at this
set_option maxHeartbeats 800000 in
theorem within_any {w : World} {A : Option Addr} {c : Nat} {l : List Int} (h : Vec w A l) (hl : l.length ≤ 1000000) (lo hi : Int) :
    Calls Try.prog 34 #[.slice A l.length c, .int .i64 lo, .int .i64 hi] w (BelowRet w (.bool (wi l lo hi))) := by
  have hb2 : Below w.heap.size w ((w.alloc (.cells #[.int .i64 lo] 3)).alloc (.cells #[.int .i64 hi] 3)) := ((Below.refl _ _).alloc (Nat.le_refl _) _).alloc (by simp) _
  have KC := hide (contains_any (c := c) (p := ⟨w.heap.size, 0, none⟩) (q := ⟨w.heap.size + 1, 0, none⟩) (h.below hb2) hl lo hi (new_old w _ _ _ rfl) (new_two w _ _ _ rfl))
  have HB := hide hb2
  clear h hb2
  go_enter Try.func34, Try.ntmps34
  go_wp2_with fail
  refine KC.out.mono ?_
  rintro e w' ⟨rfl, rfl⟩
  go_wp2
  go_ret
  exact bel_bool (by simp) HB.out
/-- A call beside the walk that only makes memory. -/
theorem bel_trans {w w' w'' : World} (h : Below w.heap.size w w') (h' : Below w'.heap.size w' w'') : Below w.heap.size w w'' := h.trans (h'.mono h.size)
set_option maxHeartbeats 6400000 in
theorem valid_any {w : World} {A B G : Option Addr} {V : List (Option Addr × Nat)} {c d e : Nat} {C : List (List Int)} {D E : List Int} (h : Mat w A C V) (hl : C.length ≤ maxLen) (hD : Vec w B D) (hE : Vec w G E) :
    Calls Try.prog 28 #[.slice A C.length c, .slice B D.length d, .slice G E.length e] w (BelowRet w (.bool (vld C D E))) := by
  unfold maxLen at hl
  have HA := hide h
  have HV := hide (vld_eq C D E)
  have HD := hide (fun hl => within_any (c := d) hD hl 0 10000)
  have HE := hide (fun (w' : World) (hb : Below w.heap.size w w') hl => within_any (c := e) (hE.below hb) hl 0 10000)
  obtain ⟨n, hn⟩ : ∃ n, n = C.length := ⟨_, rfl⟩
  obtain ⟨nd, hnd⟩ : ∃ n, n = D.length := ⟨_, rfl⟩
  obtain ⟨ne, hne⟩ : ∃ n, n = E.length := ⟨_, rfl⟩
  have HN := hide hn
  rw [← hn] at hl
  rw [← hn, ← hnd, ← hne] at HV
  rw [← hnd] at HD
  rw [← hne] at HE
  rw [← hn, ← hnd, ← hne]
  have HB := hide (Below.refl w.heap.size w)
  clear h hn hnd hne hD hE
  by_cases h1 : n = nd
  case neg =>
    have HF := hide (show false = vld C D E by rw [HV.out, vl0, decide_eq_false h1]; simp)
    clear HV HD HE
    go_enter Try.func28, Try.ntmps28
    go_wp2
    go_loopw [7, 35] (fun ok i wr => ∃ k : Nat, k ≤ n ∧ ok = .bool false ∧ i = .int .i64 k ∧ Below w.heap.size w wr) (fun _ i _ => n - (intOf i).toNat)
    case atStart => exact ⟨0, Nat.zero_le _, rfl, rfl, HB.out⟩
    case round =>
      obtain ⟨k, hk, rfl, rfl, hb⟩ := hrel
      have HBL := hide hb
      clear HB
      by_cases hlt : k < n
      · have hka : k < C.length := by rw [← HN.out]; exact hlt
        obtain ⟨b1, o1, rfl, hc1⟩ := HA.out.at (by omega)
        obtain ⟨Bk, ck, -, -, hck⟩ := hc1 k hka
        have c1 := hck _ hb
        clear hc1 hck hb
        go_wp2
        go_roundw
        case rel => exact ⟨k + 1, by omega, rfl, by go_num, HBL.out⟩
        case measure => simp [intOf]; omega
      · obtain rfl : k = n := by omega
        clear hb
        go_wp2
        go_ret
        exact bel_bool HF.out.symm HBL.out
  by_cases h2 : nd ≤ 6
  case neg =>
    have HF := hide (show false = vld C D E by rw [HV.out, vl0, decide_eq_false h2]; simp)
    clear HV HD HE
    go_enter Try.func28, Try.ntmps28
    go_wp2
    go_loopw [7, 35] (fun ok i wr => ∃ k : Nat, k ≤ n ∧ ok = .bool false ∧ i = .int .i64 k ∧ Below w.heap.size w wr) (fun _ i _ => n - (intOf i).toNat)
    case atStart => exact ⟨0, Nat.zero_le _, rfl, rfl, HB.out⟩
    case round =>
      obtain ⟨k, hk, rfl, rfl, hb⟩ := hrel
      have HBL := hide hb
      clear HB
      by_cases hlt : k < n
      · have hka : k < C.length := by rw [← HN.out]; exact hlt
        obtain ⟨b1, o1, rfl, hc1⟩ := HA.out.at (by omega)
        obtain ⟨Bk, ck, -, -, hck⟩ := hc1 k hka
        have c1 := hck _ hb
        clear hc1 hck hb
        go_wp2
        go_roundw
        case rel => exact ⟨k + 1, by omega, rfl, by go_num, HBL.out⟩
        case measure => simp [intOf]; omega
      · obtain rfl : k = n := by omega
        clear hb
        go_wp2
        go_ret
        exact bel_bool HF.out.symm HBL.out
  by_cases h3 : ne ≤ 6
  case neg =>
    have HF := hide (show false = vld C D E by rw [HV.out, vl0, decide_eq_false h3]; simp)
    clear HV HD HE
    go_enter Try.func28, Try.ntmps28
    go_wp2
    go_loopw [7, 35] (fun ok i wr => ∃ k : Nat, k ≤ n ∧ ok = .bool false ∧ i = .int .i64 k ∧ Below w.heap.size w wr) (fun _ i _ => n - (intOf i).toNat)
    case atStart => exact ⟨0, Nat.zero_le _, rfl, rfl, HB.out⟩
    case round =>
      obtain ⟨k, hk, rfl, rfl, hb⟩ := hrel
      have HBL := hide hb
      clear HB
      by_cases hlt : k < n
      · have hka : k < C.length := by rw [← HN.out]; exact hlt
        obtain ⟨b1, o1, rfl, hc1⟩ := HA.out.at (by omega)
        obtain ⟨Bk, ck, -, -, hck⟩ := hc1 k hka
        have c1 := hck _ hb
        clear hc1 hck hb
        go_wp2
        go_roundw
        case rel => exact ⟨k + 1, by omega, rfl, by go_num, HBL.out⟩
        case measure => simp [intOf]; omega
      · obtain rfl : k = n := by omega
        clear hb
        go_wp2
        go_ret
        exact bel_bool HF.out.symm HBL.out
  have KD := hide (HD.out (by omega))
  have KE := hide (fun w' hb => HE.out w' hb (by omega))
  have HV2 := hide (show vld C D E = (wi D 0 10000 && wi E 0 10000 && C.all (vlr ne)) by rw [HV.out, vl0, decide_eq_true h1, decide_eq_true h2, decide_eq_true h3]; simp)
  clear HD HE HV
  cases h4 : wi D 0 10000 with
  | false =>
    rw [h4] at KD HV2
    have HF := hide (show false = vld C D E by rw [HV2.out]; simp)
    clear HV2 h4
    go_enter Try.func28, Try.ntmps28
    go_wp2_with fail
    refine KD.out.mono ?_
    rintro e w' ⟨rfl, hb'⟩
    have HB' := hide hb'
    clear HB hb' KD
    go_wp2
    go_loopw [7, 35] (fun ok i wr => ∃ k : Nat, k ≤ n ∧ ok = .bool false ∧ i = .int .i64 k ∧ Below w.heap.size w wr) (fun _ i _ => n - (intOf i).toNat)
    case atStart => exact ⟨0, Nat.zero_le _, rfl, rfl, HB'.out⟩
    case round =>
      obtain ⟨k, hk, rfl, rfl, hb⟩ := hrel
      have HBL := hide hb
      clear HB'
      by_cases hlt : k < n
      · have hka : k < C.length := by rw [← HN.out]; exact hlt
        obtain ⟨b1, o1, rfl, hc1⟩ := HA.out.at (by omega)
        obtain ⟨Bk, ck, -, -, hck⟩ := hc1 k hka
        have c1 := hck _ hb
        clear hc1 hck hb
        go_wp2
        go_roundw
        case rel => exact ⟨k + 1, by omega, rfl, by go_num, HBL.out⟩
        case measure => simp [intOf]; omega
      · obtain rfl : k = n := by omega
        clear hb
        go_wp2
        go_ret
        exact bel_bool HF.out.symm HBL.out
  | true =>
    rw [h4] at KD HV2
    clear h4
    cases h5 : wi E 0 10000 with
    | false =>
      rw [h5] at KE HV2
      have HF := hide (show false = vld C D E by rw [HV2.out]; simp)
      clear HV2 h5
      go_enter Try.func28, Try.ntmps28
      go_wp2_with fail
      refine KD.out.mono ?_
      rintro e w' ⟨rfl, hb'⟩
      have HB' := hide hb'
      have KE2 := hide (KE.out _ hb')
      clear HB hb' KD KE
      go_wp2_with fail
      refine KE2.out.mono ?_
      rintro e w2 ⟨rfl, hb2⟩
      have HB2 := hide (bel_trans HB'.out hb2)
      clear HB' hb2 KE2
      go_wp2
      go_loopw [7, 35] (fun ok i wr => ∃ k : Nat, k ≤ n ∧ ok = .bool false ∧ i = .int .i64 k ∧ Below w.heap.size w wr) (fun _ i _ => n - (intOf i).toNat)
      case atStart => exact ⟨0, Nat.zero_le _, rfl, rfl, HB2.out⟩
      case round =>
        obtain ⟨k, hk, rfl, rfl, hb⟩ := hrel
        have HBL := hide hb
        clear HB2
        by_cases hlt : k < n
        · have hka : k < C.length := by rw [← HN.out]; exact hlt
          obtain ⟨b1, o1, rfl, hc1⟩ := HA.out.at (by omega)
          obtain ⟨Bk, ck, -, -, hck⟩ := hc1 k hka
          have c1 := hck _ hb
          clear hc1 hck hb
          go_wp2
          go_roundw
          case rel => exact ⟨k + 1, by omega, rfl, by go_num, HBL.out⟩
          case measure => simp [intOf]; omega
        · obtain rfl : k = n := by omega
          clear hb
          go_wp2
          go_ret
          exact bel_bool HF.out.symm HBL.out
    | true =>
      rw [h5] at KE HV2
      clear h5
      have HF := hide (show vld C D E = C.all (vlr ne) by rw [HV2.out]; simp)
      clear HV2
      go_enter Try.func28, Try.ntmps28
      go_wp2_with fail
      refine KD.out.mono ?_
      rintro e w' ⟨rfl, hb'⟩
      have HB' := hide hb'
      have KE2 := hide (KE.out _ hb')
      clear HB hb' KD KE
      go_wp2_with fail
      refine KE2.out.mono ?_
      rintro e w2 ⟨rfl, hb2⟩
      have HB2 := hide (bel_trans HB'.out hb2)
      clear HB' hb2 KE2
      go_wp2
      go_loopw [7, 35] (fun ok i wr => ∃ k : Nat, k ≤ n ∧ ok = .bool ((C.take k).all (vlr ne)) ∧ i = .int .i64 k ∧ Below w.heap.size w wr) (fun _ i _ => n - (intOf i).toNat)
      case atStart => exact ⟨0, Nat.zero_le _, rfl, rfl, HB2.out⟩
      case round =>
        obtain ⟨k, hk, rfl, rfl, hb⟩ := hrel
        have HBL := hide hb
        clear HB2
        by_cases hlt : k < n
        · have hka : k < C.length := by rw [← HN.out]; exact hlt
          obtain ⟨b1, o1, rfl, hc1⟩ := HA.out.at (by omega)
          obtain ⟨Bk, ck, -, hrow, hck⟩ := hc1 k hka
          have c1 := hck _ hb
          have HX := hide (vlr_take (ne := ne) hka)
          have HK := hide (fun hl => within_any (c := ck) (hrow.below hb) hl 0 100000)
          have HZ := hide (show vlr ne C[k] = (decide (C[k].length = ne) && wi C[k] 0 100000) from rfl)
          generalize C[k] = x at *
          obtain ⟨nx, hnx⟩ : ∃ n, n = x.length := ⟨_, rfl⟩
          rw [← hnx] at c1 HK HZ
          clear hc1 hck hrow hnx hb
          cases ht : (C.take k).all (vlr ne) with
          | false =>
            rw [ht] at HX
            clear ht HZ HK
            go_wp2
            go_roundw
            case rel => exact ⟨k + 1, by omega, by rw [HX.out]; rfl, by go_num, HBL.out⟩
            case measure => simp [intOf]; omega
          | true =>
            rw [ht, Bool.true_and] at HX
            clear ht
            by_cases hx : nx = ne
            · have KX := hide (HK.out (by omega))
              rw [decide_eq_true hx, Bool.true_and] at HZ
              clear HK
              subst hx
              go_wp2_with fail
              refine KX.out.mono ?_
              rintro e w' ⟨rfl, hb'⟩
              have HB' := hide (bel_trans HBL.out hb')
              clear KX hb' HBL
              go_wp2
              go_roundw
              case rel => exact ⟨k + 1, by omega, by rw [HX.out, HZ.out], by go_num, HB'.out⟩
              case measure => simp [intOf]; omega
            · have HS := hide (show vlr ne x = false by rw [HZ.out, decide_eq_false hx]; rfl)
              clear HZ HK
              go_wp2
              go_roundw
              case rel => exact ⟨k + 1, by omega, by rw [HX.out, HS.out], by go_num, HBL.out⟩
              case measure => simp [intOf]; omega
        · obtain rfl : k = n := by omega
          have HS := hide (show C.take k = C by rw [HN.out, List.take_length])
          clear hb
          go_wp2
          go_ret
          exact bel_bool (by rw [HF.out, HS.out]) HBL.out
end Go.Proofs.Ytalbhghigdanlaa
namespace Go.Proofs.Ytalbhghigdanlaa
open Go.RowKit Go.CH Go.CH.Asg
open Go.ChangeMaps (setBlock)

def lF (l : List Int) (i : Nat) : Int := l.getD i 0
def cF (C : List (List Int)) (i j : Nat) : Int := lF (C.getD i []) j
theorem lF_at {l : List Int} {i : Nat} (h : i < l.length) : lF l i = l[i] := by simp [lF, List.getD_eq_getElem?_getD, h]
theorem cF_at {C : List (List Int)} {i : Nat} (h : i < C.length) (j : Nat) : cF C i j = lF C[i] j := by simp [cF, List.getD_eq_getElem?_getD, h]
structure Vld (C : List (List Int)) (D E : List Int) : Prop where
  n : C.length = D.length
  n6 : D.length ≤ 6
  m6 : E.length ≤ 6
  d : ∀ i, i < D.length → 0 ≤ lF D i ∧ lF D i ≤ 10000
  e : ∀ i, i < E.length → 0 ≤ lF E i ∧ lF E i ≤ 10000
  row : ∀ i (hi : i < C.length), C[i].length = E.length
  c : ∀ i, i < D.length → ∀ j, j < E.length → 0 ≤ cF C i j ∧ cF C i j ≤ 100000
theorem vld_iff {C : List (List Int)} {D E : List Int} (h : vld C D E = true) : Vld C D E := by
  simp only [vld, Bool.and_eq_true, decide_eq_true_eq, List.all_eq_true] at h
  obtain ⟨⟨⟨⟨⟨h1, h2⟩, h3⟩, h4⟩, h5⟩, h6⟩ := h
  refine ⟨h1, h2, h3, fun i hi => ?_, fun i hi => ?_, fun i hi => (h6 _ (List.getElem_mem hi)).1, fun i hi j hj => ?_⟩
  · rw [lF_at hi]; exact wi_at h4 hi
  · rw [lF_at hi]; exact wi_at h5 hi
  · have hi' : i < C.length := by omega
    obtain ⟨g1, g2⟩ := h6 _ (List.getElem_mem hi')
    rw [cF_at hi', lF_at (by omega)]
    exact wi_at g2 (by omega)
theorem Vec.atF {w : World} {A : Option Addr} {l : List Int} (h : Vec w A l) (hn : 0 < l.length) :
    ∃ b o, A = some ⟨b, o, none⟩ ∧ ∀ w', Below w.heap.size w w' → ∀ j, j < l.length → w'.cell? ⟨b, o + j, none⟩ = some (.int .i64 (lF l j)) := by
  obtain ⟨b, o, h1, h2⟩ := h.at hn
  exact ⟨b, o, h1, fun w' hb j hj => by rw [lF_at hj]; exact h2 w' hb j hj⟩
/-- The cells of a list of lists whose lists have the same length. -/
theorem Mat.atF {w : World} {A : Option Addr} {C : List (List Int)} {V : List (Option Addr × Nat)} {m : Nat} (h : Mat w A C V) (hn : 0 < C.length) (hr : ∀ i (hi : i < C.length), C[i].length = m) :
    ∃ b o, A = some ⟨b, o, none⟩ ∧ ∀ i, i < C.length → ∃ B c, m ≤ c ∧ (∀ w', Below w.heap.size w w' → w'.cell? ⟨b, o + i, none⟩ = some (.slice B m c)) ∧
      (0 < m → ∃ b' o', B = some ⟨b', o', none⟩ ∧ ∀ w', Below w.heap.size w w' → ∀ j, j < m → w'.cell? ⟨b', o' + j, none⟩ = some (.int .i64 (cF C i j))) := by
  obtain ⟨b, o, h1, h2⟩ := h.at hn
  refine ⟨b, o, h1, fun i hi => ?_⟩
  obtain ⟨B, c, h3, h4, h5⟩ := h2 i hi
  have hm := hr i hi
  refine ⟨B, c, by omega, fun w' hb => by rw [← hm]; exact h5 w' hb, fun h0 => ?_⟩
  obtain ⟨b', o', g1, g2⟩ := h4.atF (by omega)
  exact ⟨b', o', g1, fun w' hb j hj => by rw [cF_at hi]; exact g2 w' hb j (by omega)⟩
theorem sg_bnd {f : Nat → Int} {a b : Int} {n : Nat} (h : ∀ i, i < n → a ≤ f i ∧ f i ≤ b) : (n : Int) * a ≤ sg n f ∧ sg n f ≤ (n : Int) * b := by
  induction n with
  | zero => simp [sg]
  | succ n ih =>
    have := ih (fun i hi => h i (by omega))
    have := h n (by omega)
    have e1 : ((n + 1 : Nat) : Int) * a = n * a + a := by rw [Int.natCast_add, Int.add_mul]; simp
    have e2 : ((n + 1 : Nat) : Int) * b = n * b + b := by rw [Int.natCast_add, Int.add_mul]; simp
    rw [sg_succ, e1, e2]; omega
/-- What Bound asks ahead of its sums. -/
def bnd0 (C : List (List Int)) (D E U W : List Int) : Bool := vld C D E && decide (U.length = D.length) && decide (W.length = E.length) && wi U (-1000000) 1000000 && wi W (-1000000) 1000000
def FeasL (C : List (List Int)) (D E U W : List Int) : Prop := Feas (cF C) (lF D) (lF E) D.length E.length (lF U) (lF W)
open Classical in
/-- Bound. -/
noncomputable def bnd (C : List (List Int)) (D E U W : List Int) : Int × Bool := if bnd0 C D E U W = true ∧ FeasL C D E U W then (sg D.length (lF U) + sg E.length (lF W), true) else (0, false)
theorem bnd_no0 {C : List (List Int)} {D E U W : List Int} (h : bnd0 C D E U W = false) : bnd C D E U W = (0, false) := by unfold bnd; rw [if_neg (by simp [h])]
theorem bnd_noF {C : List (List Int)} {D E U W : List Int} (h : ¬ FeasL C D E U W) : bnd C D E U W = (0, false) := by unfold bnd; rw [if_neg (fun g => h g.2)]
theorem bnd_yes {C : List (List Int)} {D E U W : List Int} (h : bnd0 C D E U W = true) (hF : FeasL C D E U W) : bnd C D E U W = (sg D.length (lF U) + sg E.length (lF W), true) := by unfold bnd; rw [if_pos ⟨h, hF⟩]
theorem wi_F {l : List Int} {lo hi : Int} (h : wi l lo hi = true) : ∀ i, i < l.length → lo ≤ lF l i ∧ lF l i ≤ hi := fun i hi => by rw [lF_at hi]; exact wi_at h hi
/-- A pair of answers; nothing that was there has turned. -/
def BelowIB (w : World) (x : Int × Bool) (e : Ending) (w' : World) : Prop := e = .returned (.tuple #[.int .i64 x.1, .bool x.2]) ∧ Below w.heap.size w w'
theorem bel_ib {w w' : World} {a : Int} {b : Bool} {x : Int × Bool} (h : x = (a, b)) (hb : Below w.heap.size w w') : BelowIB w x (.returned (.tuple #[.int .i64 a, .bool b])) w' := ⟨by rw [h], hb⟩
/-- A valid problem, as it lies in memory: what a walk reads of it, in every world behind. -/
structure Prb (w : World) (A B G : Option Addr) (C : List (List Int)) (D E : List Int) (n m : Nat) : Prop where
  v : Vld C D E
  hn : C.length = n
  hd : D.length = n
  hm : E.length = m
  mat : ∃ V, Mat w A C V
  vd : Vec w B D
  ve : Vec w G E
theorem Prb.below {w w' : World} {A B G : Option Addr} {C : List (List Int)} {D E : List Int} {n m : Nat} (h : Prb w A B G C D E n m) (hb : Below w.heap.size w w') : Prb w' A B G C D E n m := by
  obtain ⟨V, hV⟩ := h.mat
  exact ⟨h.v, h.hn, h.hd, h.hm, ⟨V, hV.below hb⟩, h.vd.below hb, h.ve.below hb⟩
section
variable {w : World} {A B G : Option Addr} {C : List (List Int)} {D E : List Int} {n m : Nat}
theorem Prb.n6 (h : Prb w A B G C D E n m) : n ≤ 6 := h.hd ▸ h.v.n6
theorem Prb.m6 (h : Prb w A B G C D E n m) : m ≤ 6 := h.hm ▸ h.v.m6
theorem Prb.atD (h : Prb w A B G C D E n m) {i : Nat} (hi : i < n) : ∃ b o, B = some ⟨b, o, none⟩ ∧ (∀ w', Below w.heap.size w w' → w'.cell? ⟨b, o + i, none⟩ = some (.int .i64 (lF D i))) ∧ 0 ≤ lF D i ∧ lF D i ≤ 10000 := by
  have := h.hd
  obtain ⟨b, o, h1, h2⟩ := h.vd.atF (by omega)
  exact ⟨b, o, h1, fun w' hb => h2 w' hb i (by omega), h.v.d i (by omega)⟩
theorem Prb.atE (h : Prb w A B G C D E n m) {j : Nat} (hj : j < m) : ∃ b o, G = some ⟨b, o, none⟩ ∧ (∀ w', Below w.heap.size w w' → w'.cell? ⟨b, o + j, none⟩ = some (.int .i64 (lF E j))) ∧ 0 ≤ lF E j ∧ lF E j ≤ 10000 := by
  have := h.hm
  obtain ⟨b, o, h1, h2⟩ := h.ve.atF (by omega)
  exact ⟨b, o, h1, fun w' hb => h2 w' hb j (by omega), h.v.e j (by omega)⟩
theorem Prb.atR (h : Prb w A B G C D E n m) {i : Nat} (hi : i < n) : ∃ b o R c, A = some ⟨b, o, none⟩ ∧ (∀ w', Below w.heap.size w w' → w'.cell? ⟨b, o + i, none⟩ = some (.slice R m c)) ∧
      ∀ j, j < m → ∃ b' o', R = some ⟨b', o', none⟩ ∧ (∀ w', Below w.heap.size w w' → w'.cell? ⟨b', o' + j, none⟩ = some (.int .i64 (cF C i j))) ∧ 0 ≤ cF C i j ∧ cF C i j ≤ 100000 := by
  obtain ⟨V, hV⟩ := h.mat
  have h0 := h.hn
  have hm := h.hm
  have hd := h.hd
  obtain ⟨b, o, h1, h2⟩ := hV.atF (m := m) (by omega) (fun i hi => by rw [h.v.row i hi]; exact hm)
  obtain ⟨R, c, h3, h4, h5⟩ := h2 i (by omega)
  refine ⟨b, o, R, c, h1, h4, fun j hj => ?_⟩
  obtain ⟨b', o', g1, g2⟩ := h5 (by omega)
  exact ⟨b', o', g1, fun w' hb => g2 w' hb j hj, h.v.c i (by omega) j (by omega)⟩
end
theorem prb_of {w : World} {A B G : Option Addr} {C : List (List Int)} {D E : List Int} {V : List (Option Addr × Nat)} (hV : vld C D E = true) (h : Mat w A C V) (hD : Vec w B D) (hE : Vec w G E) : Prb w A B G C D E D.length E.length :=
  ⟨vld_iff hV, (vld_iff hV).n, rfl, rfl, ⟨V, h⟩, hD, hE⟩
theorem vec_F {w : World} {A : Option Addr} {l : List Int} {n : Nat} (h : Vec w A l) (hn : l.length = n) {i : Nat} (hi : i < n) : ∃ b o, A = some ⟨b, o, none⟩ ∧ ∀ w', Below w.heap.size w w' → w'.cell? ⟨b, o + i, none⟩ = some (.int .i64 (lF l i)) := by
  obtain ⟨b, o, h1, h2⟩ := h.atF (by omega)
  exact ⟨b, o, h1, fun w' hb => h2 w' hb i (by omega)⟩
end Go.Proofs.Ytalbhghigdanlaa
namespace Go.Proofs.Ytalbhghigdanlaa
open Go.RowKit Go.CH Go.CH.Asg
open Go.ChangeMaps (setBlock)

/-- The walk of Bound behind its tests. -/
def GoodU (C : List (List Int)) (D U W : List Int) (m k : Nat) : Prop := ∀ i, i < k → (∀ j, j < m → lF U i + lF W j ≤ cF C i j) ∧ lF U i ≤ lF D i
theorem goodU_succ {C : List (List Int)} {D U W : List Int} {m k : Nat} (h : GoodU C D U W m k) (h1 : ∀ j, j < m → lF U k + lF W j ≤ cF C k j) (h2 : lF U k ≤ lF D k) : GoodU C D U W m (k + 1) := by
  intro i hi
  by_cases e : i = k
  · subst e; exact ⟨h1, h2⟩
  · exact h i (by omega)
set_option maxHeartbeats 6400000 in
theorem bound_any {w : World} {A B G UA WA : Option Addr} {V : List (Option Addr × Nat)} {c d e u v : Nat} {C : List (List Int)} {D E U W : List Int} (h : Mat w A C V) (hl : C.length ≤ maxLen) (hD : Vec w B D) (hE : Vec w G E) (hU : Vec w UA U) (hW : Vec w WA W) :
    Calls Try.prog 16 #[.slice A C.length c, .slice B D.length d, .slice G E.length e, .slice UA U.length u, .slice WA W.length v] w (BelowIB w (bnd C D E U W)) := by
  have KV := hide (valid_any (c := c) (d := d) (e := e) h hl hD hE)
  have HP := hide (fun hv => prb_of (w := w) (C := C) (D := D) (E := E) hv h hD hE)
  have HU := hide hU
  have HW := hide hW
  have KU := hide (fun (w' : World) (hb : Below w.heap.size w w') hl => within_any (c := u) (hU.below hb) hl (-1000000) 1000000)
  have KW := hide (fun (w' : World) (hb : Below w.heap.size w w') hl => within_any (c := v) (hW.below hb) hl (-1000000) 1000000)
  have HB0 := hide (show bnd0 C D E U W = (vld C D E && decide (U.length = D.length) && decide (W.length = E.length) && wi U (-1000000) 1000000 && wi W (-1000000) 1000000) from rfl)
  have H6 := hide (fun hv => vld_iff (C := C) (D := D) (E := E) hv)
  clear h hD hE hU hW
  obtain ⟨n, hn⟩ : ∃ n, n = D.length := ⟨_, rfl⟩
  obtain ⟨m, hm⟩ : ∃ n, n = E.length := ⟨_, rfl⟩
  obtain ⟨nc, hnc⟩ : ∃ n, n = C.length := ⟨_, rfl⟩
  obtain ⟨nu, hnu⟩ : ∃ n, n = U.length := ⟨_, rfl⟩
  obtain ⟨nw, hnw⟩ : ∃ n, n = W.length := ⟨_, rfl⟩
  have HN := hide hn
  have HM := hide hm
  have HNC := hide hnc
  have HNU := hide hnu
  have HNW := hide hnw
  rw [← hn, ← hm] at HP
  rw [← hnu, ← hnw, ← hn, ← hm] at HB0
  rw [← hnu] at KU
  rw [← hnw] at KW
  rw [← hn, ← hm, ← hnc] at KV
  rw [← hn, ← hm, ← hnc, ← hnu, ← hnw]
  have hl' : nc ≤ maxLen := hnc ▸ hl
  unfold maxLen at hl'
  clear hn hm hnc hnu hnw hl
  cases hv : vld C D E with
  | false =>
    rw [hv] at KV HB0
    have HF := hide (bnd_no0 (C := C) (D := D) (E := E) (U := U) (W := W) (by rw [HB0.out]; rfl))
    clear hv HB0 HP HU HW KU KW H6
    go_enter Try.func16, Try.ntmps16
    go_wp2_with fail
    refine KV.out.mono ?_
    rintro e w1 ⟨rfl, hb1⟩
    have HB := hide hb1
    clear hb1 KV
    go_wp2
    go_ret2
    exact bel_ib HF.out HB.out
  | true =>
    have HP1 := hide (HP.out hv)
    have hn6 := HP1.out.n6
    have hm6 := HP1.out.m6
    have hnc6 : nc = n := by rw [HNC.out]; exact HP1.out.hn
    subst hnc6
    rw [hv, Bool.true_and] at HB0
    rw [hv] at KV
    clear hv HP H6
    by_cases h1 : nu = nc
    case neg =>
      have HF := hide (bnd_no0 (C := C) (D := D) (E := E) (U := U) (W := W) (by rw [HB0.out, decide_eq_false h1]; rfl))
      clear HB0 KU KW HU HW HP1
      go_enter Try.func16, Try.ntmps16
      go_wp2_with fail
      refine KV.out.mono ?_
      rintro e w1 ⟨rfl, hb1⟩
      have HB := hide hb1
      clear hb1 KV
      go_wp2
      go_ret2
      exact bel_ib HF.out HB.out
    rw [decide_eq_true h1, Bool.true_and] at HB0
    subst h1
    by_cases h2 : nw = m
    case neg =>
      have HF := hide (bnd_no0 (C := C) (D := D) (E := E) (U := U) (W := W) (by rw [HB0.out, decide_eq_false h2]; rfl))
      clear HB0 KU KW HU HW HP1
      go_enter Try.func16, Try.ntmps16
      go_wp2_with fail
      refine KV.out.mono ?_
      rintro e w1 ⟨rfl, hb1⟩
      have HB := hide hb1
      clear hb1 KV
      go_wp2
      go_ret2
      exact bel_ib HF.out HB.out
    rw [decide_eq_true h2, Bool.true_and] at HB0
    subst h2
    have KU2 := hide (fun w' hb => KU.out w' hb (by omega))
    have KW2 := hide (fun w' hb => KW.out w' hb (by omega))
    clear KU KW
    cases h3 : wi U (-1000000) 1000000 with
    | false =>
      rw [h3] at KU2 HB0
      have HF := hide (bnd_no0 (C := C) (D := D) (E := E) (U := U) (W := W) (by rw [HB0.out]; rfl))
      clear HB0 KW2 HU HW HP1 h3
      go_enter Try.func16, Try.ntmps16
      go_wp2_with fail
      refine KV.out.mono ?_
      rintro e w1 ⟨rfl, hb1⟩
      have HB := hide hb1
      have KU3 := hide (KU2.out _ hb1)
      clear hb1 KV KU2
      go_wp2_with fail
      refine KU3.out.mono ?_
      rintro e w2 ⟨rfl, hb2⟩
      have HB2 := hide (bel_trans HB.out hb2)
      clear HB hb2 KU3
      go_wp2
      go_ret2
      exact bel_ib HF.out HB2.out
    | true =>
      rw [h3, Bool.true_and] at HB0
      rw [h3] at KU2
      have HUB := hide (wi_F h3)
      rw [← HNU.out] at HUB
      clear h3
      cases h4 : wi W (-1000000) 1000000 with
      | false =>
        rw [h4] at KW2 HB0
        have HF := hide (bnd_no0 (C := C) (D := D) (E := E) (U := U) (W := W) (by rw [HB0.out]))
        clear HB0 HU HW HP1 h4
        go_enter Try.func16, Try.ntmps16
        go_wp2_with fail
        refine KV.out.mono ?_
        rintro e w1 ⟨rfl, hb1⟩
        have HB := hide hb1
        have KU3 := hide (KU2.out _ hb1)
        clear hb1 KV KU2
        go_wp2_with fail
        refine KU3.out.mono ?_
        rintro e w2 ⟨rfl, hb2⟩
        have HB2 := hide (bel_trans HB.out hb2)
        have KW3 := hide (KW2.out _ HB2.out)
        clear HB hb2 KU3 KW2
        go_wp2_with fail
        refine KW3.out.mono ?_
        rintro e w3 ⟨rfl, hb3⟩
        have HB3 := hide (bel_trans HB2.out hb3)
        clear HB2 hb3 KW3
        go_wp2
        go_ret2
        exact bel_ib HF.out HB3.out
      | true =>
        rw [h4] at KW2 HB0
        have HWB := hide (wi_F h4)
        rw [← HNW.out] at HWB
        have HNo := hide (fun hf => bnd_noF (C := C) (D := D) (E := E) (U := U) (W := W) hf)
        have HYes := hide (fun hf => bnd_yes (C := C) (D := D) (E := E) (U := U) (W := W) HB0.out hf)
        have HFe := hide (show FeasL C D E U W = Feas (cF C) (lF D) (lF E) D.length E.length (lF U) (lF W) from rfl)
        rw [← HN.out, ← HM.out] at HYes HFe
        clear HB0 h4
        go_enter Try.func16, Try.ntmps16
        go_wp2_with fail
        refine KV.out.mono ?_
        rintro e w1 ⟨rfl, hb1⟩
        have HB := hide hb1
        have KU3 := hide (KU2.out _ hb1)
        clear hb1 KV KU2
        go_wp2_with fail
        refine KU3.out.mono ?_
        rintro e w2 ⟨rfl, hb2⟩
        have HB2 := hide (bel_trans HB.out hb2)
        have KW3 := hide (KW2.out _ HB2.out)
        clear HB hb2 KU3 KW2
        go_wp2_with fail
        refine KW3.out.mono ?_
        rintro e w3 ⟨rfl, hb3⟩
        have HB3 := hide (bel_trans HB2.out hb3)
        have HP3 := hide (HP1.out.below HB3.out)
        have HU3 := hide (HU.out.below HB3.out)
        have HW3 := hide (HW.out.below HB3.out)
        clear HB2 hb3 KW3 HP1 HU HW
        go_wp2
        go_loop [12, 50] (fun s i => ∃ k : Nat, k ≤ nu ∧ s = .int .i64 (sg k (lF U)) ∧ i = .int .i64 k ∧ GoodU C D U W nw k) (fun _ i => nu - (intOf i).toNat)
        case atStart => exact ⟨0, Nat.zero_le _, rfl, rfl, fun i hi => absurd hi (Nat.not_lt_zero i)⟩
        case round =>
          obtain ⟨k, hk, rfl, rfl, hg⟩ := hrel
          have HG := hide hg
          have hsb := sg_bnd (n := k) (fun i hi => HUB.out i (by omega))
          clear hg
          by_cases hlt : k < nu
          · obtain ⟨bu, ou, rfl, hcu⟩ := vec_F HU3.out HNU.out.symm hlt
            have c0 := hcu _ (Below.refl _ _)
            have hub := HUB.out k (by omega)
            have HS := hide (sg_succ (n := k) (f := lF U))
            generalize hxe : lF U k = x at *
            have HXE := hide hxe
            clear hcu hxe
            go_wp2
            go_loop [57] (fun i => ∃ j : Nat, j ≤ nw ∧ i = .int .i64 j ∧ ∀ t, t < j → x + lF W t ≤ cF C k t) (fun i => nw - (intOf i).toNat)
            case atStart => exact ⟨0, Nat.zero_le _, rfl, fun t ht => absurd ht (Nat.not_lt_zero t)⟩
            case round =>
              obtain ⟨j, hj, rfl, hgj⟩ := hrel
              have HGJ := hide hgj
              clear hgj
              by_cases hjt : j < nw
              · obtain ⟨bw, ow, rfl, hcw⟩ := vec_F HW3.out HNW.out.symm hjt
                have c1 := hcw _ (Below.refl _ _)
                have hwb := HWB.out j (by omega)
                obtain ⟨ba, oa, R, cR, rfl, hca, hrow⟩ := HP3.out.atR hlt
                obtain ⟨b', o', rfl, hcc, hcb⟩ := hrow j hjt
                have c2 := hca _ (Below.refl _ _)
                have c3 := hcc _ (Below.refl _ _)
                have HY := hide (show (∀ t, t < j + 1 → x + lF W t ≤ cF C k t) ↔ x + lF W j ≤ cF C k j from ⟨fun h => h j (by omega), fun h t ht => by
                  by_cases e : t = j
                  · subst e; exact h
                  · exact HGJ.out t (by omega)⟩)
                have HZ := hide (show ¬ x + lF W j ≤ cF C k j → ¬ FeasL C D E U W from fun h hf => by rw [HFe.out] at hf; exact h (HXE.out ▸ hf.c k hlt j hjt))
                generalize lF W j = y at *
                generalize cF C k j = z at *
                clear hcw hca hrow hcc
                by_cases hle : z < x + y
                · have HR := hide (HNo.out (HZ.out (by omega)))
                  clear HNo HZ HY HYes
                  go_wp2
                  go_ret2
                  exact bel_ib HR.out HB3.out
                · have HR := hide (HY.out.2 (by omega))
                  clear HZ HY
                  go_wp2
                  go_round
                  case rel => exact ⟨j + 1, by omega, by go_num, HR.out⟩
                  case measure => simp [intOf]; omega
              · obtain rfl : j = nw := by omega
                obtain ⟨bd, od, rfl, hcd, hdb⟩ := HP3.out.atD hlt
                have c4 := hcd _ (Below.refl _ _)
                have HZ := hide (show ¬ x ≤ lF D k → ¬ FeasL C D E U W from fun h hf => by rw [HFe.out] at hf; exact h (HXE.out ▸ hf.d k hlt))
                have HR := hide (fun h2 => goodU_succ HG.out (fun t ht => HXE.out.symm ▸ HGJ.out t ht) (HXE.out.symm ▸ h2))
                generalize lF D k = z at *
                clear hcd
                by_cases hle : z < x
                · have HR := hide (HNo.out (HZ.out (by omega)))
                  clear HNo HZ HYes
                  go_wp2
                  go_ret2
                  exact bel_ib HR.out HB3.out
                · have HR2 := hide (HR.out (by omega))
                  clear HZ HR
                  go_wp2
                  go_round
                  case rel => exact ⟨k + 1, by omega, by rw [HS.out]; try go_num, by go_num, HR2.out⟩
                  case measure => simp [intOf]; omega
          · obtain rfl : k = nu := by omega
            have HSU := hide hsb
            go_wp2
            go_loop [12, 86] (fun s i => ∃ j : Nat, j ≤ nw ∧ s = .int .i64 (sg k (lF U) + sg j (lF W)) ∧ i = .int .i64 j ∧ ∀ t, t < j → lF W t ≤ lF E t) (fun _ i => nw - (intOf i).toNat)
            case atStart => exact ⟨0, Nat.zero_le _, by simp [sg], rfl, fun t ht => absurd ht (Nat.not_lt_zero t)⟩
            case round =>
              obtain ⟨j, hj, rfl, rfl, hgj⟩ := hrel
              have HGJ := hide hgj
              have hsb2 := sg_bnd (n := j) (fun i hi => HWB.out i (by omega))
              clear hgj
              by_cases hjt : j < nw
              · obtain ⟨bw, ow, rfl, hcw⟩ := vec_F HW3.out HNW.out.symm hjt
                have c1 := hcw _ (Below.refl _ _)
                have hwb := HWB.out j (by omega)
                obtain ⟨be, oe, rfl, hce, heb⟩ := HP3.out.atE hjt
                have c2 := hce _ (Below.refl _ _)
                have HS := hide (sg_succ (n := j) (f := lF W))
                have HY := hide (show (∀ t, t < j + 1 → lF W t ≤ lF E t) ↔ lF W j ≤ lF E j from ⟨fun h => h j (by omega), fun h t ht => by
                  by_cases e : t = j
                  · subst e; exact h
                  · exact HGJ.out t (by omega)⟩)
                have HZ := hide (show ¬ lF W j ≤ lF E j → ¬ FeasL C D E U W from fun h hf => by rw [HFe.out] at hf; exact h (hf.e j hjt))
                generalize lF W j = y at *
                generalize lF E j = z at *
                generalize sg k (lF U) = sU at *
                generalize sg j (lF W) = sW at *
                clear hcw hce
                by_cases hle : z < y
                · have HR := hide (HNo.out (HZ.out (by omega)))
                  clear HNo HZ HY HYes
                  go_wp2
                  go_ret2
                  exact bel_ib HR.out HB3.out
                · have HR := hide (HY.out.2 (by omega))
                  clear HZ HY
                  go_wp2
                  go_round
                  case rel => exact ⟨j + 1, by omega, by rw [HS.out]; try go_num, by go_num, HR.out⟩
                  case measure => simp [intOf]; omega
              · obtain rfl : j = nw := by omega
                have HR := hide (HYes.out (by rw [HFe.out]; exact ⟨fun i hi => (HG.out i hi).1, fun i hi => (HG.out i hi).2, HGJ.out⟩))
                clear HYes HNo
                go_wp2
                go_ret2
                exact bel_ib HR.out HB3.out
end Go.Proofs.Ytalbhghigdanlaa
