/-
  Assign: the plain laws of the potentials.
  Assign: AssignPotentials, walked.
  Assign: lists of numbers, and of such lists, that came in, opened.
-/
import Derived.Test.YtalbhghigdanlaaMP15
import Derived.Test.YtalbhghigdanlaaMP3
import Derived.WalkKit
import Derived.ProofKit
import Derived.OpenShut
import Derived.ShutString
import Derived.SizedLaws
set_option linter.unusedSimpArgs false
set_option linter.unusedVariables false
namespace Go.Proofs.Ytalbhghigdanlaa
open Go.RowKit Go.CH Go.CH.Asg
open Go.ChangeMaps (setBlock)
section
variable {C : List (List Int)} {D E U W : List Int}
theorem lF_map {n : Nat} {f : Nat → Int} {i : Nat} (hi : i < n) : lF ((List.range n).map f) i = f i := by
  unfold lF
  rw [List.getD_eq_getElem?_getD, List.getElem?_map, List.getElem?_range hi]; rfl
theorem bU_at {i : Nat} (hi : i < D.length) : lF (bU C D E) i = buF (cF C) (lF D) (lF E) D.length E.length i := lF_map hi
theorem bV_at {j : Nat} (hj : j < E.length) : lF (bV C D E) j = bvF (cF C) (lF D) (lF E) D.length E.length j := lF_map hj
theorem wi_all {l : List Int} {lo hi : Int} (h : ∀ i, i < l.length → lo ≤ lF l i ∧ lF l i ≤ hi) : wi l lo hi = true := by
  unfold wi
  rw [List.all_eq_true]
  intro x hx
  obtain ⟨i, hi, rfl⟩ := List.mem_iff_getElem.1 hx
  have := h i hi
  rw [lF_at hi] at this
  simpa using this
theorem bnd_best (hv : vld C D E = true) : bnd C D E (bU C D E) (bV C D E) = (bK C D E, true) := by
  have hV := vld_iff hv
  have hp : Pot (cF C) (lF D) (lF E) D.length E.length (bK C D E) (buF (cF C) (lF D) (lF E) D.length E.length) (bvF (cF C) (lF D) (lF E) D.length E.length) := best_pot
  have hf := hp.feas
  have hlow : ∀ i, i < D.length → -10000 ≤ buF (cF C) (lF D) (lF E) D.length E.length i := fun i hi =>
    hp.low (E := 10000) (fun i hi j hj => (hV.c i hi j hj).1) (fun i hi => (hV.d i hi).1) (fun j hj => hV.e j hj) (by omega) hi
  have hU : ∀ i, i < D.length → -10000 ≤ buF (cF C) (lF D) (lF E) D.length E.length i ∧ buF (cF C) (lF D) (lF E) D.length E.length i ≤ 10000 := fun i hi => ⟨hlow i hi, by have := hf.d i hi; have := hV.d i hi; omega⟩
  have hVV : ∀ j, j < E.length → -10000 ≤ bvF (cF C) (lF D) (lF E) D.length E.length j ∧ bvF (cF C) (lF D) (lF E) D.length E.length j ≤ 10000 := fun j hj => by
    refine ⟨?_, by have := hf.e j hj; have := hV.e j hj; omega⟩
    unfold bvF
    rcases mnl_is (U := noU) (f := fun i => cF C i j - buF (cF C) (lF D) (lF E) D.length E.length i) (a := lF E j) (m := D.length) with h | ⟨i, hi, -, h⟩
    · rw [h]; have := hV.e j hj; omega
    · rw [h]; have := hV.c i hi j hj; have := hU i hi; omega
  have hfl : FeasL C D E (bU C D E) (bV C D E) := ⟨fun i hi j hj => by rw [bU_at hi, bV_at hj]; exact hf.c i hi j hj, fun i hi => by rw [bU_at hi]; exact hf.d i hi, fun j hj => by rw [bV_at hj]; exact hf.e j hj⟩
  have h0 : bnd0 C D E (bU C D E) (bV C D E) = true := by
    unfold bnd0
    rw [hv, decide_eq_true bU_len, decide_eq_true bV_len, wi_all, wi_all]
    · rfl
    · intro j hj; rw [bV_len] at hj; rw [bV_at hj]; have := hVV j hj; omega
    · intro i hi; rw [bU_len] at hi; rw [bU_at hi]; have := hU i hi; omega
  unfold bnd
  rw [if_pos ⟨h0, hfl⟩]
  refine Prod.ext ?_ rfl
  show sg D.length (lF (bU C D E)) + sg E.length (lF (bV C D E)) = bK C D E
  rw [sg_congr (g := buF (cF C) (lF D) (lF E) D.length E.length) (fun i hi => bU_at hi), sg_congr (g := bvF (cF C) (lF D) (lF E) D.length E.length) (fun j hj => bV_at hj)]
  exact hp.sum
theorem bnd_is {x : Int} (h : bnd C D E U W = (x, true)) : vld C D E = true ∧ U.length = D.length ∧ W.length = E.length ∧ FeasL C D E U W ∧ x = sg D.length (lF U) + sg E.length (lF W) := by
  unfold bnd at h
  split at h
  · rename_i hh
    obtain ⟨h0, hf⟩ := hh
    unfold bnd0 at h0
    simp at h0
    refine ⟨h0.1.1.1.1, h0.1.1.1.2, h0.1.1.2, hf, ?_⟩
    exact (congrArg Prod.fst h).symm
  · simp at h
theorem bnd_zero {x : Int} (h : bnd C D E U W = (x, false)) : x = 0 := by
  unfold bnd at h
  split at h
  · simp at h
  · exact (congrArg Prod.fst h).symm
theorem bnd_low {x : Int} (h : bnd C D E U W = (x, true)) : x ≤ bK C D E ∧ (x = bK C D E → ∀ i, i < U.length → lF U i ≤ lF (bU C D E) i) := by
  obtain ⟨hv, h1, h2, hf, rfl⟩ := bnd_is h
  have hp : Pot (cF C) (lF D) (lF E) D.length E.length (bK C D E) (buF (cF C) (lF D) (lF E) D.length E.length) (bvF (cF C) (lF D) (lF E) D.length E.length) := best_pot
  refine ⟨L_opt.weak hf, fun he i hi => ?_⟩
  rw [h1] at hi
  rw [bU_at hi]
  exact hp.most hf he hi
end
end Go.Proofs.Ytalbhghigdanlaa
namespace Go.Proofs.Ytalbhghigdanlaa
open Go.RowKit Go.CH Go.CH.Asg
open Go.ChangeMaps (setBlock)
set_option maxRecDepth 100000 in
set_option maxHeartbeats 6400000 in
theorem potentials_any {w : World} {A B G UA VA : Option Addr} {C : List (List Int)} {D E U V : List Int} {nc n m c d e u nu v nv : Nat} (hP : PX w A B G C D E nc n m d) (hU : VecN w UA U nu) (hV : VecN w VA V nv) :
    Calls Try.prog 4 #[.slice A nc c, .slice B n d, .slice G m e, .slice UA nu u, .slice VA nv v] w (BelowRet w (.bool true)) := by
  have HP0 := hide hP
  have HU0 := hide hU
  have HV0 := hide hV
  have HB0 := hide (Below.refl w.heap.size w)
  have HNU := hide hU.n
  have HND := hide hP.hd
  clear hP hU hV
  have KH := hide (head_any w)
  have HCH := hide (fun x (h : bnd C D E U V = (x, true)) => bnd_low h)
  have HIS := hide (fun x (h : bnd C D E U V = (x, true)) => (bnd_is h).2.1)
  have HBB := hide (fun (h : vld C D E = true) => bnd_best h)
  have HFL := hide (HP0.out.few_len)
  go_enter Try.func4, Try.ntmps4
  go_wp2_with fail
  refine KH.out.mono ?_
  rintro e9 w1 ⟨rfl, hb⟩
  dsimp only
  have HP1 := hide (HP0.out.below hb)
  have HU1 := hide (HU0.out.below hb)
  have HV1 := hide (HV0.out.below hb)
  have HB1 := hide (bel_trans HB0.out hb)
  clear HP0 HU0 HV0 HB0
  clear hb KH 
  have KF := hide (HP1.out.few (c := c) (e := e))
  cases hf : few C D E with
  | false =>
    rw [hf] at KF
    clear hf HFL
    go_wp2_with fail
    refine KF.out.mono ?_
    rintro e9 w9 ⟨rfl, rfl⟩
    clear KF
    go_wp2
    go_ret
    exact ⟨rfl, HB1.out⟩
  | true =>
    obtain ⟨l1, l2, l3⟩ := HFL.out hf
    rw [hf] at KF
    clear hf HFL
    by_cases hlu : 20 < nu
    · go_wp2_with fail
      refine KF.out.mono ?_
      rintro e9 w9 ⟨rfl, rfl⟩
      clear KF
      go_wp2
      go_ret
      exact ⟨rfl, HB1.out⟩
    · by_cases hlv : 20 < nv
      · go_wp2_with fail
        refine KF.out.mono ?_
        rintro e9 w9 ⟨rfl, rfl⟩
        clear KF
        go_wp2
        go_ret
        exact ⟨rfl, HB1.out⟩
      · go_wp2_with fail
        refine KF.out.mono ?_
        rintro e9 w9 ⟨rfl, rfl⟩
        clear KF
        cases hv : vld C D E with
        | false =>
          have KB := hide (HP1.out.best_no (c := c) (e := e) hv)
          clear hv
          go_wp2_with fail
          refine KB.out.mono ?_
          rintro e9 wba ⟨AA1, AA2, AA3, ac1, ac2, ac3, rfl, hb0, h1, h2, h3⟩
          have hba := alloc_bel wba (.cells #[.int .i64 (0), .slice AA1 (0) ac1, .slice AA2 (0) ac2, .slice AA3 (0) ac3] 27)
          have hb := bel_trans hb0 hba
          have HP2 := hide (HP1.out.below hb)
          have HU2 := hide (HU1.out.below hb)
          have HV2 := hide (HV1.out.below hb)
          have HB2 := hide (bel_trans HB1.out hb)
          clear HP1 HU1 HV1 HB1
          have HaP2 := hide (h1.below hba)
          have HaU2 := hide (h2.below hba)
          have HaV2 := hide (h3.below hba)
          have HaM2 := hide (asg_mem wba (0) AA1 AA2 AA3 (0) (0) (0) ac1 ac2 ac3)
          clear hb hb0 hba h1 h2 h3 KB
          go_wp2
          go_ret
          exact ⟨rfl, HB2.out⟩
        | true =>
          have KB := hide (HP1.out.best (c := c) (e := e) hv)
          have hbb := HBB.out hv
          clear hv HBB
          go_wp2_with fail
          refine KB.out.mono ?_
          rintro e9 wba ⟨AA1, AA2, AA3, ac1, ac2, ac3, rfl, hb0, h1, h2, h3⟩
          have hba := alloc_bel wba (.cells #[.int .i64 (bK C D E), .slice AA1 (n) ac1, .slice AA2 (n) ac2, .slice AA3 (m) ac3] 27)
          have hb := bel_trans hb0 hba
          have HP2 := hide (HP1.out.below hb)
          have HU2 := hide (HU1.out.below hb)
          have HV2 := hide (HV1.out.below hb)
          have HB2 := hide (bel_trans HB1.out hb)
          clear HP1 HU1 HV1 HB1
          have HaP2 := hide (h1.below hba)
          have HaU2 := hide (h2.below hba)
          have HaV2 := hide (h3.below hba)
          have HaM2 := hide (asg_mem wba (bK C D E) AA1 AA2 AA3 (n) (n) (m) ac1 ac2 ac3)
          clear hb hb0 hba h1 h2 h3 KB
          have KC := hide (HP2.out.bound (c := c) (e := e) (u := ac2) (v := ac3) HaU2.out HaV2.out)
          rw [hbb] at KC
          clear hbb
          go_wp2_with fail
          generalize wba.alloc (.cells #[.int .i64 (bK C D E), .slice AA1 (n) ac1, .slice AA2 (n) ac2, .slice AA3 (m) ac3] 27) = w2 at *
          generalize wba.heap.size = ga at *
          clear wba
          refine KC.out.mono ?_
          rintro e9 w3 ⟨rfl, hb⟩
          dsimp only
          have HP3 := hide (HP2.out.below hb)
          have HU3 := hide (HU2.out.below hb)
          have HV3 := hide (HV2.out.below hb)
          have HB3 := hide (bel_trans HB2.out hb)
          have HaP3 := hide (HaP2.out.below hb)
          have HaU3 := hide (HaU2.out.below hb)
          have HaV3 := hide (HaV2.out.below hb)
          have HaM3 := hide (show ∀ W, Below w3.heap.size w3 W → _ from fun W h => HaM2.out W (bel_trans hb h))
          clear HP2 HU2 HV2 HB2 HaP2 HaU2 HaV2 HaM2
          clear hb KC 
          obtain ⟨aq0, aq1, aq2, aq3⟩ := HaM3.out _ (Below.refl _ _)
          have KC := hide (HP3.out.bound (c := c) (e := e) (u := u) (v := v) HU3.out HV3.out)
          generalize hx : bnd C D E U V = x at KC
          obtain ⟨x, ok⟩ := x
          cases ok with
          | false =>
            clear hx HCH HIS
            go_wp2_with fail
            refine KC.out.mono ?_
            rintro e9 w4 ⟨rfl, hb⟩
            dsimp only
            clear aq0 aq1 aq2 aq3
            have HP4 := hide (HP3.out.below hb)
            have HU4 := hide (HU3.out.below hb)
            have HV4 := hide (HV3.out.below hb)
            have HB4 := hide (bel_trans HB3.out hb)
            have HaP4 := hide (HaP3.out.below hb)
            have HaU4 := hide (HaU3.out.below hb)
            have HaV4 := hide (HaV3.out.below hb)
            have HaM4 := hide (show ∀ W, Below w4.heap.size w4 W → _ from fun W h => HaM3.out W (bel_trans hb h))
            clear HP3 HU3 HV3 HB3 HaP3 HaU3 HaV3 HaM3
            clear hb KC 
            obtain ⟨aq0, aq1, aq2, aq3⟩ := HaM4.out _ (Below.refl _ _)
            go_wp2
            go_loopg [17] 0 (fun g s wr => s = .int .i64 0 ∧ Below w4.heap.size w4 wr)
            case atStart => exact ⟨rfl, Below.refl _ _⟩
            case round =>
              obtain ⟨rfl, hb⟩ := hrel
              clear aq0 aq1 aq2 aq3
              obtain ⟨aq0, aq1, aq2, aq3⟩ := HaM4.out _ hb
              have HBR := hide (bel_trans HB4.out hb)
              clear hb
              go_wp2
              go_ret
              exact ⟨rfl, HBR.out⟩
          | true =>
            obtain ⟨h1, h2⟩ := HCH.out x hx
            have h3 := HIS.out x hx
            rw [HNU.out, HND.out] at h3
            clear HCH HIS hx
            by_cases hg : x < bK C D E
            · have tk : (x == bK C D E) = false := by
                have : ¬ x = bK C D E := by omega
                simpa using this
              clear h2 h3
              go_wp2_with fail
              refine KC.out.mono ?_
              rintro e9 w4 ⟨rfl, hb⟩
              dsimp only
              clear aq0 aq1 aq2 aq3
              have HP4 := hide (HP3.out.below hb)
              have HU4 := hide (HU3.out.below hb)
              have HV4 := hide (HV3.out.below hb)
              have HB4 := hide (bel_trans HB3.out hb)
              have HaP4 := hide (HaP3.out.below hb)
              have HaU4 := hide (HaU3.out.below hb)
              have HaV4 := hide (HaV3.out.below hb)
              have HaM4 := hide (show ∀ W, Below w4.heap.size w4 W → _ from fun W h => HaM3.out W (bel_trans hb h))
              clear HP3 HU3 HV3 HB3 HaP3 HaU3 HaV3 HaM3
              clear hb KC 
              obtain ⟨aq0, aq1, aq2, aq3⟩ := HaM4.out _ (Below.refl _ _)
              go_wp2
              go_loopg [17] 0 (fun g s wr => s = .int .i64 0 ∧ Below w4.heap.size w4 wr)
              case atStart => exact ⟨rfl, Below.refl _ _⟩
              case round =>
                obtain ⟨rfl, hb⟩ := hrel
                clear aq0 aq1 aq2 aq3
                obtain ⟨aq0, aq1, aq2, aq3⟩ := HaM4.out _ hb
                have HBR := hide (bel_trans HB4.out hb)
                clear hb
                go_wp2
                go_ret
                exact ⟨rfl, HBR.out⟩
            · obtain rfl : x = bK C D E := by omega
              have HLE := hide (h2 rfl)
              have HN3 := hide (h3)
              clear h1 h2 h3
              go_wp2_with fail
              refine KC.out.mono ?_
              rintro e9 w4 ⟨rfl, hb⟩
              dsimp only
              clear aq0 aq1 aq2 aq3
              have HP4 := hide (HP3.out.below hb)
              have HU4 := hide (HU3.out.below hb)
              have HV4 := hide (HV3.out.below hb)
              have HB4 := hide (bel_trans HB3.out hb)
              have HaP4 := hide (HaP3.out.below hb)
              have HaU4 := hide (HaU3.out.below hb)
              have HaV4 := hide (HaV3.out.below hb)
              have HaM4 := hide (show ∀ W, Below w4.heap.size w4 W → _ from fun W h => HaM3.out W (bel_trans hb h))
              clear HP3 HU3 HV3 HB3 HaP3 HaU3 HaV3 HaM3
              clear hb KC 
              obtain ⟨aq0, aq1, aq2, aq3⟩ := HaM4.out _ (Below.refl _ _)
              have hnn := HN3.out
              subst hnn
              clear HN3
              go_wp2
              go_loopg [17] nu (fun g s wr => ∃ k : Nat, s = .int .i64 k ∧ k + g = nu ∧ Below w4.heap.size w4 wr)
              case atStart => exact ⟨0, rfl, by omega, Below.refl _ _⟩
              case round =>
                obtain ⟨k, rfl, hk, hb⟩ := hrel
                have HBR := hide (bel_trans HB4.out hb)
                clear aq0 aq1 aq2 aq3
                cases gk with
                | zero =>
                  obtain rfl : k = nu := by omega
                  obtain ⟨aq0, aq1, aq2, aq3⟩ := HaM4.out _ hb
                  clear hb hk
                  go_wp2
                  go_ret
                  exact ⟨rfl, HBR.out⟩
                | succ g =>
                  have hkn : k < nu := by omega
                  have HKG := hide hk
                  have HBD := hide (below_drew hb)
                  obtain ⟨aq0, aq1, aq2, aq3⟩ := HaM4.out _ HBD.out
                  obtain ⟨au, ou, rfl, hcu⟩ := HU4.out.v.atF (by rw [HU4.out.n]; omega)
                  obtain ⟨bu, pu, rfl, hcb⟩ := HaU4.out.v.atF (by rw [HaU4.out.n]; omega)
                  have c1 := hcu _ HBD.out k (by rw [HU4.out.n]; omega)
                  have c2 := hcb _ HBD.out k (by rw [HaU4.out.n]; omega)
                  have hle : ¬ lF (bU C D E) k < lF U k := by
                    have := HLE.out k (by rw [HU4.out.n]; omega)
                    omega
                  have hk2 : decide (nu ≤ k) = false := decide_eq_false (by omega)
                  have hle2 : decide (lF (bU C D E) k < lF U k) = false := decide_eq_false hle
                  have hk3 : (k : Int) < (nu : Int) := by omega
                  clear hcu hcb
                  obtain ⟨z0, z1, z2, z3⟩ := HaM4.out _ hb
                  clear hb hk
                  go_wp2_with fail
                  refine wp_region_lex (fun w' => w' = wr.drew) (by kernel_rfl) (by kernel_rfl) rfl ?_
                  generalize wr.drew = wd at *
                  (repeat (first | (refine lex_skip (by rfl) ?_; try simp only [Act.put, List.setIfInBounds_toArray, List.set_cons_zero, List.set_cons_succ]) | (refine lex_read (v := ?_) (by rfl) ?_ ?_; rotate_left; (focus (intro w' hS'; go_simp; (try with_reducible rfl); done)); try simp only [Act.put, List.setIfInBounds_toArray, List.set_cons_zero, List.set_cons_succ])))
                  refine lex_nil ?_
                  clear aq0 aq1 aq2 aq3 z0 z1 z2 z3 c1 c2
                  go_wp2
                  go_roundg g
                  case measure => omega
                  case rel => exact ⟨k + 1, by go_num, by have := HKG.out; omega, HBD.out⟩
end Go.Proofs.Ytalbhghigdanlaa
namespace Go.Proofs.Ytalbhghigdanlaa
open Go.ChangeShapes Go.WideShapes Go.ChangeAt Go.RowKit Go.CH Go.CH.Asg Go.Deep
section
variable {H : Type} {enc : TypeId × Value → H} {w : World}
theorem each_num : ∀ m cs y, DataW.trod enc Try.prog w 0 (fun _ => true) true m 3 cs = some y → ∃ x : Int, cs = [.int .i64 x] ∧ True := by
  intro m cs y h
  obtain ⟨s, h1, _⟩ := DataW.trod_int Try.underlying3 h
  exact ⟨s, h1, trivial⟩
theorem flat_ints (l : List Int) : l.flatMap (fun x : Int => [Value.int .i64 x]) = ints l := by
  induction l with
  | nil => rfl
  | cons a l ih => simp [ints] at ih ⊢; exact ih
theorem open23 {A : Option Addr} {n c : Nat} {d : DataW H} {ps : List MemPlace} (h : DataW.Trod enc Try.prog w 0 (fun _ => true) true 23 (.slice A n c) d ps) : ∃ l : List Int, VecN w A l n ∧ n ≤ c ∧ c ≤ maxLen := by
  obtain ⟨xs, h1, h2, h3, h4, h5⟩ := open_src (size := 1) (fun x : Int => [Value.int .i64 x]) (fun x => True) Try.underlying23 (by kernel_rfl) (by decide) each_num (fun x _ u hu => by simp at hu; subst hu; rfl) h
  subst h1
  rw [flat_ints] at h2
  exact ⟨xs, ⟨h2, rfl⟩, h4, h5⟩
def rowL (x : List Int × Option Addr × Nat) : List Value := [.slice x.2.1 x.1.length x.2.2]
theorem each_row : ∀ m cs y, DataW.trod enc Try.prog w 0 (fun _ => true) true m 23 cs = some y → ∃ x : List Int × Option Addr × Nat, cs = rowL x ∧ (Vec w x.2.1 x.1 ∧ x.1.length ≤ x.2.2) := by
  intro m cs y h
  have hv : ∃ A n c, cs = [.slice A n c] := by
    rcases open_slice Try.underlying23 h with ⟨h0, _⟩ | ⟨a, len, cap, _, _, _, _, hv, _⟩
    · exact ⟨none, 0, 0, h0⟩
    · exact ⟨some a, len, cap, hv⟩
  obtain ⟨A, n, c, rfl⟩ := hv
  obtain ⟨l, h1, h2, h3⟩ := open23 (d := y.1) (ps := y.2) ⟨m, by simpa [Value.cells] using h⟩
  obtain ⟨hv, rfl⟩ := h1
  exact ⟨(l, A, c), rfl, hv, h2⟩
theorem open22 {A : Option Addr} {n c : Nat} {d : DataW H} {ps : List MemPlace} (h : DataW.Trod enc Try.prog w 0 (fun _ => true) true 22 (.slice A n c) d ps) : ∃ C : List (List Int), (∃ V, Mat w A C V) ∧ C.length = n ∧ n ≤ maxLen := by
  obtain ⟨xs, h1, h2, h3, h4, h5⟩ := open_src (size := 1) rowL (fun x => Vec w x.2.1 x.1 ∧ x.1.length ≤ x.2.2) Try.underlying22 (by kernel_rfl) (by decide) each_row (fun x _ u hu => by simp [rowL] at hu; subst hu; rfl) h
  subst h1
  refine ⟨xs.map (·.1), ⟨xs.map (·.2), ⟨by simp, ?_, ?_⟩⟩, by simp, by omega⟩
  · have e : (xs.map (·.2)).mapIdx (fun i x => Value.slice x.1 ((xs.map (·.1)).getD i []).length x.2) = xs.flatMap rowL := by
      have e1 : xs.flatMap rowL = xs.map (fun x => Value.slice x.2.1 x.1.length x.2.2) := by
        have : ∀ l : List (List Int × Option Addr × Nat), l.flatMap rowL = l.map (fun x => Value.slice x.2.1 x.1.length x.2.2) := fun l => by induction l with
          | nil => rfl
          | cons a l ih => simp [rowL] at ih ⊢; exact ih
        exact this xs
      rw [e1]
      apply List.ext_getElem?
      intro i
      rw [List.getElem?_mapIdx, List.getElem?_map, List.getElem?_map]
      cases hx : xs[i]? with
      | none => rfl
      | some x => simp [List.getD_eq_getElem?_getD, hx]
    rw [e, List.length_map]; exact h2
  · intro i hi x hx
    rw [List.getElem?_map] at hx
    have hi' : i < xs.length := by simpa using hi
    rw [List.getElem?_eq_getElem hi'] at hx
    simp at hx
    subst hx
    rw [List.getElem_map]
    exact (h3 _ (List.getElem_mem hi')).1
theorem px_of {A B G : Option Addr} {C : List (List Int)} {D E : List Int} {nc n m d : Nat} (h : (∃ V, Mat w A C V) ∧ C.length = nc ∧ nc ≤ maxLen) (hD : VecN w B D n ∧ n ≤ d ∧ d ≤ maxLen) (hE : VecN w G E m) : PX w A B G C D E nc n m d :=
  ⟨h.1, by rw [h.2.1]; exact h.2.2, hD.1.v, hE.v, by rw [hD.1.n]; exact hD.2.1, h.2.1, hD.1.n, hE.n⟩
end
end Go.Proofs.Ytalbhghigdanlaa
