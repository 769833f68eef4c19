/-
  Licence: Return, Release, Use.
  Licence: Left.
  Licence: add.
  Licence: New, Grant.
-/
import Derived.Test.YtapabbpdfplpoaaM6
import Derived.Test.YtapabbpdfplpoaaM5
set_option linter.unusedSimpArgs false
set_option linter.unusedVariables false
namespace Go.Proofs.Ytapabbpdfplpoaa
open Go.RowKit Go.CH Go.CH.Lic
open Go.ChangeMaps (setBlock)

theorem unC_num {b : BkM} (hI : Inv b) {j : Nat} (hj : j < b.ks.length) : 0 ≤ unC (kat b j) ∧ unC (kat b j) ≤ 1000000000 := by
  have := hI.k _ (kat_mem hj)
  unfold unC; split <;> omega
theorem su_num {b : BkM} (hI : Inv b) {i : Nat} (hi : i < b.gs.length) : 0 ≤ (gat b i).su ∧ (gat b i).su ≤ 1000000000 ∧ 0 ≤ (gat b i).sn ∧ (gat b i).sn ≤ 1000 := by
  have := hI.g _ (gat_mem hi)
  have h2 := valid_num this.1
  omega
section
variable {w : World} {F : Nat → Prop} {p : Nat} {b : BkM} {s : BkP}
theorem setM_any (h : BkS p s w F) (hz : BkZ b s) (hI : Inv b) {j : Nat} (hj : j < s.ts.length) (st un : Int) (hst : st ≠ 2) (h0 : 0 ≤ un) (h1 : un ≤ 1000000000) :
    Calls Try.prog 81 #[gptr s.ts[j].p, .int .i64 st, .int .i64 un] w (BPost w F (.tuple #[]) (setM b j st un) p) := by
  obtain ⟨hi, hg⟩ := ts_grant hz hj
  have hj' : j < b.ks.length := by rw [← ts_len hz]; exact hj
  have hi' : (kat b j).gi < b.gs.length := by rw [← zs_len hz]; exact hi
  have n1 := unC_num hI hj'
  have n2 := su_num hI hi'
  have ek := ts_kat hz hj
  have eg := zs_gat hz hi
  have K := set_keep h hj hi hg st un hst (by rw [ek]; exact IntWalk.i64_in _ (by omega)) (by rw [ek, eg]; exact IntWalk.i64_in _ (by omega))
  rw [ek, eg] at K
  refine K.mono ?_
  rintro e w' ⟨rfl, hp⟩
  have hz2 := bkZ_setG (bkZ_setT hz hj { kat b j with st := st, un := un } (by rw [ek])) (i := (kat b j).gi) hi { gat b (kat b j).gi with su := (gat b (kat b j).gi).su + (un - unC (kat b j)) }
  exact BPost.mk' hz2 hp
theorem relM_any (h : BkS p s w F) (hz : BkZ b s) (hI : Inv b) {j : Nat} (hj : j < s.ts.length) :
    Calls Try.prog 81 #[gptr s.ts[j].p, .int .i64 2, .int .i64 0] w (BPost w F (.tuple #[]) (relM b j) p) := by
  obtain ⟨hi, hg⟩ := ts_grant hz hj
  have hj' : j < b.ks.length := by rw [← ts_len hz]; exact hj
  have hi' : (kat b j).gi < b.gs.length := by rw [← zs_len hz]; exact hi
  have n1 := unC_num hI hj'
  have n2 := su_num hI hi'
  have ek := ts_kat hz hj
  have eg := zs_gat hz hi
  have K := set_rel h hj hi hg (by rw [eg]; omega) (by rw [eg]; omega) (by rw [ek]; exact IntWalk.i64_in _ (by omega)) (by rw [ek, eg]; exact IntWalk.i64_in _ (by omega))
  rw [ek, eg] at K
  refine K.mono ?_
  rintro e w' ⟨rfl, hp⟩
  have hz2 := bkZ_setG (bkZ_setT hz hj { kat b j with st := 2 } (by rw [ek])) (i := (kat b j).gi) hi { gat b (kat b j).gi with su := (gat b (kat b j).gi).su + (0 - unC (kat b j)), sn := (gat b (kat b j).gi).sn - 1 }
  exact BPost.mk' hz2 hp
end

set_option maxHeartbeats 1600000 in
theorem return_any {w : World} {F : Nat → Prop} {b : BkM} {p : Nat} (h : BkO b p w F) (hI : Inv b) (nm : ByteArray) (un : Int) :
    Calls Try.prog 42 #[gptr p, .string nm, .int .i64 un] w (BPost w F (.int .i64 (returnR b nm un).1) (returnR b nm un).2 p) := by
  have H := hide h
  obtain ⟨s, hz, hS⟩ := h
  have hR := hS.read
  have KF := hide (key_any hR nm)
  cases hf : findK b nm with
  | none =>
    rw [bk_key0 hz hf] at KF
    have e : returnR b nm un = (11, b) := by unfold returnR; rw [hf]
    rw [e]
    clear hz hS hR hI hf e 
    unfold gptr at *
    go_enter Try.func42, Try.ntmps42
    go_wp2_with fail
    refine KF.out.mono ?_
    rintro e w' ⟨rfl, rfl⟩
    go_wp2
    go_ret
    exact BPost.quiet H.out _
  | some j =>
    obtain ⟨hj, h1, h2⟩ := bk_key hz hf
    obtain ⟨hi, hg⟩ := ts_grant hz hj
    rw [h1] at KF
    have tmem : s.ts[j] ∈ s.ts := List.getElem_mem hj
    have zmem := List.getElem_mem hi
    have hj2 : j < b.ks.length := (findK_some hf).1
    have hk := hI.k _ (kat_mem hj2)
    have c0 : w.cell? ⟨s.ts[j].p, 0, none⟩ = some (gptr s.zs[(kat b j).gi].p) := by rw [← hg]; exact hR.tr _ tmem 0 _ rfl
    have c1 : w.cell? ⟨s.ts[j].p, 1, none⟩ = some (.int .i64 (kat b j).st) := by rw [← h2]; exact hR.tr _ tmem 1 _ rfl
    have c2 : w.cell? ⟨s.ts[j].p, 2, none⟩ = some (.int .i64 (unC (kat b j))) := by rw [← h2]; exact hR.tr _ tmem 2 _ rfl
    by_cases hu : un < 1
    · have e : returnR b nm un = (1, b) := by unfold returnR; rw [hf]; simp [hu]
      rw [e]
      clear hz hS hR hI hf e h1 h2 tmem zmem hk hj2 hg
      clear c0 c1 c2
      generalize s.ts[j].p = tp at *
      generalize s.zs[(kat b j).gi].p = gp at *
      unfold gptr at *
      go_enter Try.func42, Try.ntmps42
      go_wp2_with fail
      refine KF.out.mono ?_
      rintro e w' ⟨rfl, rfl⟩
      go_wp2
      go_ret
      exact BPost.quiet H.out _
    · by_cases hs : (kat b j).st = 1
      · rw [hs] at c1
        have hun : unC (kat b j) = (kat b j).un := if_neg (by omega)
        rw [hun] at c2
        by_cases hm : (kat b j).un < un
        · have e : returnR b nm un = (19, b) := by unfold returnR; rw [hf]; simp [hu, hs, hm]
          rw [e]
          clear hz hS hR hI hf e h1 h2 tmem zmem hk hj2 hg hs hun
          generalize (kat b j).un = ku at *
          generalize s.ts[j].p = tp at *
          generalize s.zs[(kat b j).gi].p = gp at *
          unfold gptr at *
          go_enter Try.func42, Try.ntmps42
          go_wp2_with fail
          refine KF.out.mono ?_
          rintro e w' ⟨rfl, rfl⟩
          go_wp2
          go_ret
          exact BPost.quiet H.out _
        · have e : returnR b nm un = (0, setM b j 1 ((kat b j).un - un)) := by unfold returnR; rw [hf]; simp [hu, hs, hm]
          rw [e]
          have KS := hide (setM_any hS hz hI hj 1 ((kat b j).un - un) (by decide) (by omega) (by omega))
          have n1 := hk.2.1
          have n2 := hk.2.2.1
          clear hz hS hR hI hf e h1 h2 tmem zmem hk hj2 hg hs hun
          generalize (kat b j).un = ku at *
          generalize s.ts[j].p = tp at *
          generalize s.zs[(kat b j).gi].p = gp at *
          unfold gptr at *
          go_enter Try.func42, Try.ntmps42
          go_wp2_with fail
          refine KF.out.mono ?_
          rintro e w' ⟨rfl, rfl⟩
          go_wp2_with fail
          refine KS.out.mono ?_
          rintro e w' ⟨rfl, hp⟩
          go_wp2
          go_ret
          exact ⟨rfl, hp⟩
      · have e : returnR b nm un = (12, b) := by unfold returnR; rw [hf]; simp [hu, hs]
        rw [e]
        have b1 : ((kat b j).st == 1) = false := by simpa using hs
        have b2 : ((kat b j).st != 1) = true := by simpa using hs
        clear hz hS hR hI hf e h1 h2 tmem zmem hk hj2 hg hs
        generalize (kat b j).st = ks at *
        clear c2
        generalize s.ts[j].p = tp at *
        generalize s.zs[(kat b j).gi].p = gp at *
        unfold gptr at *
        go_enter Try.func42, Try.ntmps42
        go_wp2_with fail
        refine KF.out.mono ?_
        rintro e w' ⟨rfl, rfl⟩
        go_wp2
        go_ret
        exact BPost.quiet H.out _
set_option maxHeartbeats 1600000 in
theorem release_any {w : World} {F : Nat → Prop} {b : BkM} {p : Nat} (h : BkO b p w F) (hI : Inv b) (nm : ByteArray) :
    Calls Try.prog 57 #[gptr p, .string nm] w (BPost w F (.int .i64 (releaseR b nm).1) (releaseR b nm).2 p) := by
  have H := hide h
  obtain ⟨s, hz, hS⟩ := h
  have hR := hS.read
  have KF := hide (key_any hR nm)
  cases hf : findK b nm with
  | none =>
    rw [bk_key0 hz hf] at KF
    have e : releaseR b nm = (11, b) := by unfold releaseR; rw [hf]
    rw [e]
    clear hz hS hR hI hf e 
    unfold gptr at *
    go_enter Try.func57, Try.ntmps57
    go_wp2_with fail
    refine KF.out.mono ?_
    rintro e w' ⟨rfl, rfl⟩
    go_wp2
    go_ret
    exact BPost.quiet H.out _
  | some j =>
    obtain ⟨hj, h1, h2⟩ := bk_key hz hf
    obtain ⟨hi, hg⟩ := ts_grant hz hj
    rw [h1] at KF
    have tmem : s.ts[j] ∈ s.ts := List.getElem_mem hj
    have zmem := List.getElem_mem hi
    have hj2 : j < b.ks.length := (findK_some hf).1
    have hk := hI.k _ (kat_mem hj2)
    have c0 : w.cell? ⟨s.ts[j].p, 0, none⟩ = some (gptr s.zs[(kat b j).gi].p) := by rw [← hg]; exact hR.tr _ tmem 0 _ rfl
    have c1 : w.cell? ⟨s.ts[j].p, 1, none⟩ = some (.int .i64 (kat b j).st) := by rw [← h2]; exact hR.tr _ tmem 1 _ rfl
    have c2 : w.cell? ⟨s.ts[j].p, 2, none⟩ = some (.int .i64 (unC (kat b j))) := by rw [← h2]; exact hR.tr _ tmem 2 _ rfl
    by_cases hs : (kat b j).st = 0
    · rw [hs] at c1
      have e : releaseR b nm = (0, relM b j) := by unfold releaseR; rw [hf]; simp [hs]
      rw [e]
      have KS := hide (relM_any hS hz hI hj)
      clear hz hS hR hI hf e h1 h2 tmem zmem hk hj2 hg hs c2
      generalize s.ts[j].p = tp at *
      generalize s.zs[(kat b j).gi].p = gp at *
      unfold gptr at *
      go_enter Try.func57, Try.ntmps57
      go_wp2_with fail
      refine KF.out.mono ?_
      rintro e w' ⟨rfl, rfl⟩
      go_wp2_with fail
      refine KS.out.mono ?_
      rintro e w' ⟨rfl, hp⟩
      go_wp2
      go_ret
      exact ⟨rfl, hp⟩
    · have e : releaseR b nm = (12, b) := by unfold releaseR; rw [hf]; simp [hs]
      rw [e]
      have b1 : ((kat b j).st == 0) = false := by simpa using hs
      have b2 : ((kat b j).st != 0) = true := by simpa using hs
      clear hz hS hR hI hf e h1 h2 tmem zmem hk hj2 hg hs c2
      generalize (kat b j).st = ks at *
      generalize s.ts[j].p = tp at *
      generalize s.zs[(kat b j).gi].p = gp at *
      unfold gptr at *
      go_enter Try.func57, Try.ntmps57
      go_wp2_with fail
      refine KF.out.mono ?_
      rintro e w' ⟨rfl, rfl⟩
      go_wp2
      go_ret
      exact BPost.quiet H.out _
set_option maxHeartbeats 1600000 in
theorem use_any {w : World} {F : Nat → Prop} {b : BkM} {p : Nat} (h : BkO b p w F) (hI : Inv b) (nm : ByteArray) (un a : Int) :
    Calls Try.prog 41 #[gptr p, .string nm, .int .i64 un, .int .i64 a] w (BPost w F (.int .i64 (useR b nm un a).1) (useR b nm un a).2 p) := by
  have H := hide h
  obtain ⟨s, hz, hS⟩ := h
  have hR := hS.read
  have KF := hide (key_any hR nm)
  have KI := hide (within_any a 144001439 w)
  cases hf : findK b nm with
  | none =>
    rw [bk_key0 hz hf] at KF
    have e : useR b nm un a = (11, b) := by unfold useR; rw [hf]
    rw [e]
    clear hz hS hR hI hf e 
    unfold gptr at *
    go_enter Try.func41, Try.ntmps41
    go_wp2_with fail
    refine KF.out.mono ?_
    rintro e w' ⟨rfl, rfl⟩
    go_wp2
    go_ret
    exact BPost.quiet H.out _
  | some j =>
    obtain ⟨hj, h1, h2⟩ := bk_key hz hf
    obtain ⟨hi, hg⟩ := ts_grant hz hj
    rw [h1] at KF
    have tmem : s.ts[j] ∈ s.ts := List.getElem_mem hj
    have zmem := List.getElem_mem hi
    have hj2 : j < b.ks.length := (findK_some hf).1
    have hk := hI.k _ (kat_mem hj2)
    have c0 : w.cell? ⟨s.ts[j].p, 0, none⟩ = some (gptr s.zs[(kat b j).gi].p) := by rw [← hg]; exact hR.tr _ tmem 0 _ rfl
    have c1 : w.cell? ⟨s.ts[j].p, 1, none⟩ = some (.int .i64 (kat b j).st) := by rw [← h2]; exact hR.tr _ tmem 1 _ rfl
    have c2 : w.cell? ⟨s.ts[j].p, 2, none⟩ = some (.int .i64 (unC (kat b j))) := by rw [← h2]; exact hR.tr _ tmem 2 _ rfl
    by_cases hu : un < 0
    · have e : useR b nm un a = (1, b) := by unfold useR; rw [hf]; simp [hu]
      rw [e]
      clear hz hS hR hI hf e h1 h2 tmem zmem hk hj2 hg
      clear c0 c1 c2
      generalize s.ts[j].p = tp at *
      generalize s.zs[(kat b j).gi].p = gp at *
      unfold gptr at *
      go_enter Try.func41, Try.ntmps41
      go_wp2_with fail
      refine KF.out.mono ?_
      rintro e w' ⟨rfl, rfl⟩
      go_wp2
      go_ret
      exact BPost.quiet H.out _
    · cases hw : inst a with
      | false =>
        rw [show within a 144001439 = false from hw] at KI
        have e : useR b nm un a = (1, b) := by unfold useR; rw [hf]; simp [hu, hw]
        rw [e]
        clear hz hS hR hI hf e h1 h2 tmem zmem hk hj2 hg hw
        clear c0 c1 c2
        generalize s.ts[j].p = tp at *
        generalize s.zs[(kat b j).gi].p = gp at *
        unfold gptr at *
        go_enter Try.func41, Try.ntmps41
        go_wp2_with fail
        refine KF.out.mono ?_
        rintro e w' ⟨rfl, rfl⟩
        go_wp2_with fail
        refine KI.out.mono ?_
        rintro e w' ⟨rfl, rfl⟩
        go_wp2
        go_ret
        exact BPost.quiet H.out _
      | true =>
        rw [show within a 144001439 = true from hw] at KI
        by_cases hs : (kat b j).st = 0
        · rw [hs] at c1
          have hun : unC (kat b j) = (kat b j).un := if_neg (by omega)
          rw [hun] at c2
          have eg := zs_gat hz hi
          have g5 : w.cell? ⟨s.zs[(kat b j).gi].p, 5, none⟩ = some (.int .i64 (gat b (kat b j).gi).l.f) := by rw [← eg]; exact hR.gr _ zmem 5 _ rfl
          have g6 : w.cell? ⟨s.zs[(kat b j).gi].p, 6, none⟩ = some (.int .i64 (gat b (kat b j).gi).l.t) := by rw [← eg]; exact hR.gr _ zmem 6 _ rfl
          have g9 : w.cell? ⟨s.zs[(kat b j).gi].p, 9, none⟩ = some (.int .i64 (gat b (kat b j).gi).e) := by rw [← eg]; exact hR.gr _ zmem 9 _ rfl
          have KR := hide (runs_any a g5 g6 g9)
          have hv : runsB (gat b (kat b j).gi).l.f (gat b (kat b j).gi).l.t (gat b (kat b j).gi).e a = runsG (gat b (kat b j).gi) a := rfl
          rw [hv] at KR
          cases hr : runsG (gat b (kat b j).gi) a with
          | false =>
            rw [hr] at KR
            have e : useR b nm un a = (22, relM b j) := by unfold useR; rw [hf]; simp [hu, hw, hs, hr]
            rw [e]
            have KS := hide (relM_any hS hz hI hj)
            clear hz hS hR hI hf e h1 h2 tmem zmem hk hj2 hg hs hw hun eg g5 g6 g9 hr hv c2
            generalize s.ts[j].p = tp at *
            generalize s.zs[(kat b j).gi].p = gp at *
            unfold gptr at *
            go_enter Try.func41, Try.ntmps41
            go_wp2_with fail
            refine KF.out.mono ?_
            rintro e w' ⟨rfl, rfl⟩
            go_wp2_with fail
            refine KI.out.mono ?_
            rintro e w' ⟨rfl, rfl⟩
            go_wp2_with fail
            refine KR.out.mono ?_
            rintro e w' ⟨rfl, rfl⟩
            go_wp2_with fail
            refine KS.out.mono ?_
            rintro e w' ⟨rfl, hp⟩
            go_wp2
            go_ret
            exact ⟨rfl, hp⟩
          | true =>
            rw [hr] at KR
            by_cases hm : (kat b j).un < un
            · have e : useR b nm un a = (19, b) := by unfold useR; rw [hf]; simp [hu, hw, hs, hr, hm]
              rw [e]
              clear hz hS hR hI hf e h1 h2 tmem zmem hk hj2 hg hs hw hun eg g5 g6 g9 hr hv
              generalize (kat b j).un = ku at *
              generalize s.ts[j].p = tp at *
              generalize s.zs[(kat b j).gi].p = gp at *
              unfold gptr at *
              go_enter Try.func41, Try.ntmps41
              go_wp2_with fail
              refine KF.out.mono ?_
              rintro e w' ⟨rfl, rfl⟩
              go_wp2_with fail
              refine KI.out.mono ?_
              rintro e w' ⟨rfl, rfl⟩
              go_wp2_with fail
              refine KR.out.mono ?_
              rintro e w' ⟨rfl, rfl⟩
              go_wp2
              go_ret
              exact BPost.quiet H.out _
            · have e : useR b nm un a = (0, setM b j 1 un) := by unfold useR; rw [hf]; simp [hu, hw, hs, hr, hm]
              rw [e]
              have KS := hide (setM_any hS hz hI hj 1 un (by decide) (by omega) (by omega))
              clear hz hS hR hI hf e h1 h2 tmem zmem hk hj2 hg hs hw hun eg g5 g6 g9 hr hv
              generalize (kat b j).un = ku at *
              generalize s.ts[j].p = tp at *
              generalize s.zs[(kat b j).gi].p = gp at *
              unfold gptr at *
              go_enter Try.func41, Try.ntmps41
              go_wp2_with fail
              refine KF.out.mono ?_
              rintro e w' ⟨rfl, rfl⟩
              go_wp2_with fail
              refine KI.out.mono ?_
              rintro e w' ⟨rfl, rfl⟩
              go_wp2_with fail
              refine KR.out.mono ?_
              rintro e w' ⟨rfl, rfl⟩
              go_wp2_with fail
              refine KS.out.mono ?_
              rintro e w' ⟨rfl, hp⟩
              go_wp2
              go_ret
              exact ⟨rfl, hp⟩
        · have e : useR b nm un a = (12, b) := by unfold useR; rw [hf]; simp [hu, hw, hs]
          rw [e]
          have b1 : ((kat b j).st == 0) = false := by simpa using hs
          have b2 : ((kat b j).st != 0) = true := by simpa using hs
          clear hz hS hR hI hf e h1 h2 tmem zmem hk hj2 hg hs hw
          generalize (kat b j).st = ks at *
          clear c2
          generalize s.ts[j].p = tp at *
          generalize s.zs[(kat b j).gi].p = gp at *
          unfold gptr at *
          go_enter Try.func41, Try.ntmps41
          go_wp2_with fail
          refine KF.out.mono ?_
          rintro e w' ⟨rfl, rfl⟩
          go_wp2_with fail
          refine KI.out.mono ?_
          rintro e w' ⟨rfl, rfl⟩
          go_wp2
          go_ret
          exact BPost.quiet H.out _
end Go.Proofs.Ytapabbpdfplpoaa
namespace Go.Proofs.Ytapabbpdfplpoaa
open Go.RowKit Go.CH Go.CH.Lic
open Go.ChangeMaps (setBlock)

theorem res_cell_tmp {fn : Func} {p u : Tmp} {ty : TypeId} (h : fn.results = #[.cell p ty, .tmp u]) {P : Program} (tmps : Array Value) (w : World) (g : Nat) (t : TypeId) (cs : Array Value) (fr : Nat × Nat) {d : Array Field}
    (hp : tmps.getD p undef = .pointer (some ⟨g, 0, none⟩)) (hg : w.heap[g]? = some (.cells cs t fr))
    (hu : P.underlying ty = some (.struct d)) (hi : (P.info? ty).map (·.size) = some cs.size) :
    (results fn tmps).run P w = .ok (.tuple #[.agg cs, tmps.getD u undef]) w := by
  rw [results_cell_tmp h, hp]
  simp [asAddr, run_loadVar_row w g t ty cs fr (.struct d) hg hu rfl hi]
def leftV (r : Int × Int × Int) : Value := .tuple #[.agg #[.int .i64 r.1, .int .i64 r.2.1], .int .i64 r.2.2]
def lbox (a b : Int) : Obj := .cells #[.int .i64 a, .int .i64 b] 66
theorem lbox_below (w : World) (a b : Int) : Below w.heap.size w (w.alloc (lbox a b)) := (Below.refl _ _).alloc (Nat.le_refl _) _
set_option maxHeartbeats 1600000 in
theorem bookleft_any {w : World} {F : Nat → Prop} {b : BkM} {p : Nat} (h : BkO b p w F) (hI : Inv b) (id : ByteArray) (a : Int) :
    Calls Try.prog 43 #[gptr p, .string id, .int .i64 a] w (BelowRet w (leftV (leftR b id a))) := by
  obtain ⟨s, hz, hS⟩ := h
  have hR := bk_read ((Run.start hS).below bkS_ok (lbox_below w 0 0))
  have hlt : p < w.heap.size := World.block_lt_of_cell? _ _ hS.read.c0
  have KF := hide (find_any hR id)
  have KI := hide (within_any a 144001439 (w.alloc (lbox 0 0)))
  unfold lbox at *

  cases hf : findG b id with
  | none =>
    rw [bk_find0 hz hf] at KF
    have e : leftR b id a = (0, 0, 11) := by unfold leftR; rw [hf]
    rw [e]
    clear hz hS hR hI hf e 
    unfold gptr at *
    go_enter Try.func43, Try.ntmps43
    go_wp2_with fail
    refine KF.out.mono ?_
    rintro e w' ⟨rfl, rfl⟩
    go_wp2_with fail
    refine bodyPost_ret_by (res_cell_tmp rfl _ _ w.heap.size 66 #[.int .i64 0, .int .i64 0] (0, 0) rfl ?_ Try.underlying66 (by kernel_rfl)) rfl ?_
    · exact heap_alloc_new w _
    · exact ⟨rfl, (Below.refl _ _).alloc (Nat.le_refl _) _⟩
  | some i =>
    obtain ⟨hi, h1, h2⟩ := bk_find hz hf
    rw [h1] at KF
    have zmem : s.zs[i] ∈ s.zs := List.getElem_mem hi
    have hi2 : i < b.gs.length := (findG_some hf).1
    have hg := hI.g _ (gat_mem hi2)
    have hn := valid_num hg.1
    have g3 : (w.alloc (.cells #[.int .i64 0, .int .i64 0] 66)).cell? ⟨s.zs[i].p, 3, none⟩ = some (.int .i64 (gat b i).l.q) := by rw [← h2]; exact hR.gr _ zmem 3 _ rfl
    have g4 : (w.alloc (.cells #[.int .i64 0, .int .i64 0] 66)).cell? ⟨s.zs[i].p, 4, none⟩ = some (.int .i64 (gat b i).l.u) := by rw [← h2]; exact hR.gr _ zmem 4 _ rfl
    have g5 : (w.alloc (.cells #[.int .i64 0, .int .i64 0] 66)).cell? ⟨s.zs[i].p, 5, none⟩ = some (.int .i64 (gat b i).l.f) := by rw [← h2]; exact hR.gr _ zmem 5 _ rfl
    have g6 : (w.alloc (.cells #[.int .i64 0, .int .i64 0] 66)).cell? ⟨s.zs[i].p, 6, none⟩ = some (.int .i64 (gat b i).l.t) := by rw [← h2]; exact hR.gr _ zmem 6 _ rfl
    have g7 : (w.alloc (.cells #[.int .i64 0, .int .i64 0] 66)).cell? ⟨s.zs[i].p, 7, none⟩ = some (.int .i64 (gat b i).su) := by rw [← h2]; exact hR.gr _ zmem 7 _ rfl
    have g8 : (w.alloc (.cells #[.int .i64 0, .int .i64 0] 66)).cell? ⟨s.zs[i].p, 8, none⟩ = some (.int .i64 (gat b i).sn) := by rw [← h2]; exact hR.gr _ zmem 8 _ rfl
    have g9 : (w.alloc (.cells #[.int .i64 0, .int .i64 0] 66)).cell? ⟨s.zs[i].p, 9, none⟩ = some (.int .i64 (gat b i).e) := by rw [← h2]; exact hR.gr _ zmem 9 _ rfl
    have KR := hide (runs_any a g5 g6 g9)
    have KL := hide (left_any g3 g4 g7 g8 (by omega) (by omega))
    have hv : runsB (gat b i).l.f (gat b i).l.t (gat b i).e a = runsG (gat b i) a := rfl
    rw [hv] at KR
    clear g3 g4 g5 g6 g7 g8 g9 hg hn
    cases hw : inst a with
    | false =>
      rw [show within a 144001439 = false from hw] at KI
      have e : leftR b id a = (0, 0, 1) := by unfold leftR; rw [hf]; simp [hw]
      rw [e]
      clear hz hS hR hI hf e h1 h2 zmem hi2 hv hw
      unfold gptr at *
      go_enter Try.func43, Try.ntmps43
      go_wp2_with fail
      refine KF.out.mono ?_
      rintro e w' ⟨rfl, rfl⟩
      go_wp2_with fail
      refine KI.out.mono ?_
      rintro e w' ⟨rfl, rfl⟩
      go_wp2_with fail
      refine bodyPost_ret_by (res_cell_tmp rfl _ _ w.heap.size 66 #[.int .i64 0, .int .i64 0] (0, 0) rfl ?_ Try.underlying66 (by kernel_rfl)) rfl ?_
      · exact heap_alloc_new w _
      · exact ⟨rfl, (Below.refl _ _).alloc (Nat.le_refl _) _⟩
    | true =>
      rw [show within a 144001439 = true from hw] at KI
      cases hr : runsG (gat b i) a with
      | false =>
        rw [hr] at KR
        have e : leftR b id a = (0, 0, 0) := by unfold leftR; rw [hf]; simp [hw, hr]
        rw [e]
        clear hz hS hR hI hf e h1 h2 zmem hi2 hv hw hr
        unfold gptr at *
        go_enter Try.func43, Try.ntmps43
        go_wp2_with fail
        refine KF.out.mono ?_
        rintro e w' ⟨rfl, rfl⟩
        go_wp2_with fail
        refine KI.out.mono ?_
        rintro e w' ⟨rfl, rfl⟩
        go_wp2_with fail
        refine KR.out.mono ?_
        rintro e w' ⟨rfl, rfl⟩
        go_wp2_with fail
        refine bodyPost_ret_by (res_cell_tmp rfl _ _ w.heap.size 66 #[.int .i64 0, .int .i64 0] (0, 0) rfl ?_ Try.underlying66 (by kernel_rfl)) rfl ?_
        · exact heap_alloc_new w _
        · exact ⟨rfl, (Below.refl _ _).alloc (Nat.le_refl _) _⟩
      | true =>
        rw [hr] at KR
        have e : leftR b id a = ((gat b i).l.q - (gat b i).su, (gat b i).l.u - (gat b i).sn, 0) := by unfold leftR; rw [hf]; simp [hw, hr]
        rw [e]
        clear hz hS hR hI hf e h1 h2 zmem hi2 hv hw hr
        generalize (gat b i).l.q = q at *
        generalize (gat b i).l.u = u at *
        generalize (gat b i).su = su at *
        generalize (gat b i).sn = sn at *
        unfold gptr at *
        go_enter Try.func43, Try.ntmps43
        go_wp2_with fail
        refine KF.out.mono ?_
        rintro e w' ⟨rfl, rfl⟩
        go_wp2_with fail
        refine KI.out.mono ?_
        rintro e w' ⟨rfl, rfl⟩
        go_wp2_with fail
        refine KR.out.mono ?_
        rintro e w' ⟨rfl, rfl⟩
        go_wp2_with fail
        refine KL.out.mono ?_
        rintro e w2 ⟨rfl, hb⟩
        have hR1 := ((Run.begin w).fresh emp_ok (cell_new w #[.int .i64 0, .int .i64 0] 66)).below (star_ok cell_ok emp_ok) hb
        obtain ⟨F1, hC, -, bk⟩ := hR1.take cell_ok emp_ok
        have q0 := cell_at hC (i := 0) rfl
        have q1 := cell_at hC (i := 1) rfl
        have f0 := cell_free hC 0
        have f1 := cell_free hC 1
        have R3 := hide (bk _ _ (cell_set2 hC 0 1 (.int .i64 (q - su)) (.int .i64 (u - sn))))
        obtain ⟨F2, h2⟩ := R3.out.fst
        have HH := hide h2.1
        clear hC bk hR1 hb h2
        go_wp2_with fail
        exact bodyPost_ret_by (res_cell_tmp rfl _ _ w.heap.size 66 #[.int .i64 (q - su), .int .i64 (u - sn)] (0, 0) rfl HH.out Try.underlying66 (by kernel_rfl)) rfl ⟨rfl, R3.out.bel⟩
end Go.Proofs.Ytapabbpdfplpoaa
namespace Go.Proofs.Ytapabbpdfplpoaa
open Go.RowKit Go.CH Go.CH.Lic
open Go.ChangeMaps (setBlock)

theorem ptrsOk : SliceOk Try.prog 133 136 (.pointer none) 1 8 := ⟨Try.underlying133, by kernel_rfl, by decide, by decide⟩
/-- A licence that comes in by value: its lists are nil or somewhere. -/
structure LicAt (w : World) (l : LicM) (A : Option Addr) (c : Nat) (B : Option Addr) (d : Nat) : Prop where
  h : LicIn w l A B
  mc : A = none → c = 0 ∧ l.ms.length = 0
  pc : B = none → d = 0 ∧ l.ps.length = 0
theorem LicAt.keep {w W : World} {l : LicM} {A B : Option Addr} {c d : Nat} (h : LicAt w l A c B d) (hb : Below w.heap.size w W) : LicAt W l A c B d := ⟨h.h.keep hb, h.mc, h.pc⟩
theorem bkZ_add {b : BkM} {s : BkP} (hz : BkZ b s) (z : ZG) (l : LicM) (hg : z.g = ⟨l, 0, 0, -1⟩) (A : Option Addr) (c : Nat) : BkZ (addM b l) { s with A := A, c := c, zs := s.zs ++ [z] } := by
  refine ⟨?_, hz.2.1, fun t ht => ?_⟩
  · simp [addM, hz.1, hg]
  · obtain ⟨y, h1, h2⟩ := hz.2.2 t ht
    have hi := (List.getElem?_eq_some_iff.1 h1).1
    exact ⟨y, by rw [List.getElem?_append_left hi]; exact h1, h2⟩
theorem entI_snoc {zs : List ZG} {z : ZG} (h : ∀ y ∈ zs, y.g.l.id ≠ z.g.l.id) : mput (entI zs) z.g.l.id (gptr z.p) = entI (zs ++ [z]) := by
  rw [mput_new_ (by
    intro hm
    unfold entI at hm
    rw [List.map_map, List.mem_map] at hm
    obtain ⟨y, hy, he⟩ := hm
    exact h y hy he)]
  unfold entI; simp
set_option maxRecDepth 100000 in
set_option maxHeartbeats 3200000 in
theorem add_any {w : World} {F : Nat → Prop} {b : BkM} {p : Nat} {l : LicM} {A B : Option Addr} {c d : Nat} (h : BkO b p w F) (hl : LicAt w l A c B d) (hnew : ∀ g ∈ b.gs, g.l.id ≠ l.id) (hlen : b.gs.length < 100) :
    Calls Try.prog 75 #[gptr p, licV l A c B d] w (BPost w F (.tuple #[]) (addM b l) p) := by
  obtain ⟨s, hz, hS⟩ := h
  have hzl : s.zs.length < 100 := by rw [zs_len hz]; exact hlen
  have hnew' : ∀ y ∈ s.zs, y.g.l.id ≠ l.id := fun y hy => hnew _ (by rw [← hz.1]; exact List.mem_map_of_mem hy)
  have HZ := hide hz
  have HN := hide hnew'
  have R1 := hide ((Run.start hS).fresh bkS_ok (cell_new w (licC l A c B d) 56))
  have hlt : p < w.heap.size := World.block_lt_of_cell? _ _ hS.read.c0
  have hbox := hide (((Run.begin w).fresh emp_ok (cell_new w (licC l A c B d) 56)).imp fun _ _ h => star_emp h)
  have KM := hide (fun W (hb : Below w.heap.size w W) => cloneS_any (c := c) (hl.keep hb).h.ms hl.h.mn hl.mc)
  have KP := hide (fun W (hb : Below w.heap.size w W) => cloneS_any (c := d) (hl.keep hb).h.ps hl.h.pn hl.pc)
  have B1 := hide ((Below.refl w.heap.size w).alloc (Nat.le_refl _) (.cells (licC l A c B d) 56))
  clear hz hnew hnew' hlen hl hS
  unfold licC at R1 hbox B1
  unfold licV
  obtain ⟨c0, c1, c2, c3, c4, c5, c6⟩ := box_reads hbox.out
  unfold gptr
  go_enter Try.func75, Try.ntmps75
  go_wp2_with fail
  have R2 := hide (R1.out.drew (star_ok cell_ok bkS_ok))
  have B2 := hide (below_drew B1.out)
  clear R1 B1 hbox
  refine wp_region_lew [2, 5, 7, 9] [0, 0, 1, 1, 1, 2, 2, 3, 3, 4] (fun w' => w'.cell? ⟨w.heap.size, 1, none⟩ = some (.slice A l.ms.length c) ∧ w'.cell? ⟨w.heap.size, 2, none⟩ = some (.slice B l.ps.length d)) (fun w' => w'.cell? ⟨w.heap.size, 2, none⟩ = some (.slice B l.ps.length d)) (fun _ => True) (fun _ => True) (fun _ h => h.2) (fun _ _ => trivial) (fun _ h => h) (by kernel_rfl) (by kernel_rfl) (by kernel_rfl) (by kernel_rfl) (by exact ⟨c1, c2⟩) ?_
  clear c0 c1 c2 c3 c4 c5 c6
  generalize (w.alloc (.cells #[.string l.id, .slice A l.ms.length c, .slice B l.ps.length d, .int .i64 l.q, .int .i64 l.u, .int .i64 l.f, .int .i64 l.t] 56)).drew = w1 at *
  (repeat (first | (refine lew_skip (by rfl) (by rfl) ?_; try simp only [Act.put, List.setIfInBounds_toArray, List.set_cons_zero, List.set_cons_succ]) | (refine lew_read0 (v := ?_) (by rfl) (by rfl) ?_ ?_; rotate_left; (focus (intro w' hS'; go_simp; (try with_reducible rfl); done)); try simp only [Act.put, List.setIfInBounds_toArray, List.set_cons_zero, List.set_cons_succ]) | (refine lew_read1 (v := ?_) (by rfl) (by rfl) ?_ ?_; rotate_left; (focus (intro w' hS'; go_simp; (try with_reducible rfl); done)); try simp only [Act.put, List.setIfInBounds_toArray, List.set_cons_zero, List.set_cons_succ]) | (refine lew_read2 (v := ?_) (by rfl) (by rfl) ?_ ?_; rotate_left; (focus (intro w' hS'; go_simp; (try with_reducible rfl); done)); try simp only [Act.put, List.setIfInBounds_toArray, List.set_cons_zero, List.set_cons_succ]) | (refine lew_read3 (v := ?_) (by rfl) (by rfl) ?_ ?_; rotate_left; (focus (intro w' hS'; go_simp; (try with_reducible rfl); done)); try simp only [Act.put, List.setIfInBounds_toArray, List.set_cons_zero, List.set_cons_succ]) | (refine lew_read4 (v := ?_) (by rfl) (by rfl) ?_ ?_; rotate_left; (focus (intro w' hS'; go_simp; (try with_reducible rfl); done)); try simp only [Act.put, List.setIfInBounds_toArray, List.set_cons_zero, List.set_cons_succ])))
  refine lew_chain1 rfl (by rfl) (fun K hK => ?_)
  go_wp2_with fail
  refine (KM.out _ B2.out).mono ?_
  rintro e w2 ⟨A', c', rfl, hp2⟩
  have R3 := hide (R2.out.fresh (star_ok cell_ok bkS_ok) hp2)
  have B3 := hide (B2.out.trans (((Run.begin w1).fresh emp_ok hp2).bel.mono (by have := B2.out.size; omega)))
  clear hp2 R2
  obtain ⟨F3, hC3⟩ := R3.out.rot.fst
  refine hK.out _ _ (cell_at hC3 rfl) ?_
  clear hK hC3
  (repeat (first | (refine lew_skip (by rfl) (by rfl) ?_; try simp only [Act.put, List.setIfInBounds_toArray, List.set_cons_zero, List.set_cons_succ]) | (refine lew_read0 (v := ?_) (by rfl) (by rfl) ?_ ?_; rotate_left; (focus (intro w' hS'; go_simp; (try with_reducible rfl); done)); try simp only [Act.put, List.setIfInBounds_toArray, List.set_cons_zero, List.set_cons_succ]) | (refine lew_read1 (v := ?_) (by rfl) (by rfl) ?_ ?_; rotate_left; (focus (intro w' hS'; go_simp; (try with_reducible rfl); done)); try simp only [Act.put, List.setIfInBounds_toArray, List.set_cons_zero, List.set_cons_succ]) | (refine lew_read2 (v := ?_) (by rfl) (by rfl) ?_ ?_; rotate_left; (focus (intro w' hS'; go_simp; (try with_reducible rfl); done)); try simp only [Act.put, List.setIfInBounds_toArray, List.set_cons_zero, List.set_cons_succ]) | (refine lew_read3 (v := ?_) (by rfl) (by rfl) ?_ ?_; rotate_left; (focus (intro w' hS'; go_simp; (try with_reducible rfl); done)); try simp only [Act.put, List.setIfInBounds_toArray, List.set_cons_zero, List.set_cons_succ]) | (refine lew_read4 (v := ?_) (by rfl) (by rfl) ?_ ?_; rotate_left; (focus (intro w' hS'; go_simp; (try with_reducible rfl); done)); try simp only [Act.put, List.setIfInBounds_toArray, List.set_cons_zero, List.set_cons_succ])))
  refine lew_chain2 rfl (by rfl) (fun K hK => ?_)
  go_wp2_with fail
  refine (KP.out _ B3.out).mono ?_
  rintro e w3 ⟨B', d', rfl, hp3⟩
  have R4 := hide (R3.out.fresh (star_ok row_ok (star_ok cell_ok bkS_ok)) hp3)
  clear hp3 R3 KM KP B2 B3
  refine hK.out _ _ trivial ?_
  clear hK
  obtain ⟨F4, hC4, -, bk4⟩ := R4.out.rot3.take cell_ok (star_ok row_ok (star_ok row_ok bkS_ok))
  have q1 := cell_at hC4 (i := 1) rfl
  have q2 := cell_at hC4 (i := 2) rfl
  have f1 := cell_free hC4 1
  have f2 := cell_free hC4 2
  have R5 := hide (bk4 _ _ (cell_set2 hC4 1 2 (.slice A' l.ms.length c') (.slice B' l.ps.length d')))
  clear hC4 bk4 R4
  (repeat (first | (refine lew_skip (by rfl) (by rfl) ?_; try simp only [Act.put, List.setIfInBounds_toArray, List.set_cons_zero, List.set_cons_succ]) | (refine lew_read0 (v := ?_) (by rfl) (by rfl) ?_ ?_; rotate_left; (focus (intro w' hS'; go_simp; (try with_reducible rfl); done)); try simp only [Act.put, List.setIfInBounds_toArray, List.set_cons_zero, List.set_cons_succ]) | (refine lew_read1 (v := ?_) (by rfl) (by rfl) ?_ ?_; rotate_left; (focus (intro w' hS'; go_simp; (try with_reducible rfl); done)); try simp only [Act.put, List.setIfInBounds_toArray, List.set_cons_zero, List.set_cons_succ]) | (refine lew_read2 (v := ?_) (by rfl) (by rfl) ?_ ?_; rotate_left; (focus (intro w' hS'; go_simp; (try with_reducible rfl); done)); try simp only [Act.put, List.setIfInBounds_toArray, List.set_cons_zero, List.set_cons_succ]) | (refine lew_read3 (v := ?_) (by rfl) (by rfl) ?_ ?_; rotate_left; (focus (intro w' hS'; go_simp; (try with_reducible rfl); done)); try simp only [Act.put, List.setIfInBounds_toArray, List.set_cons_zero, List.set_cons_succ]) | (refine lew_read4 (v := ?_) (by rfl) (by rfl) ?_ ?_; rotate_left; (focus (intro w' hS'; go_simp; (try with_reducible rfl); done)); try simp only [Act.put, List.setIfInBounds_toArray, List.set_cons_zero, List.set_cons_succ])))
  refine lew_chain3 rfl (by rfl) (fun K hK => ?_)
  go_wp2_with fail
  refine hK.out _ _ trivial ?_
  clear hK
  (repeat (first | (refine lew_skip (by rfl) (by rfl) ?_; try simp only [Act.put, List.setIfInBounds_toArray, List.set_cons_zero, List.set_cons_succ]) | (refine lew_read0 (v := ?_) (by rfl) (by rfl) ?_ ?_; rotate_left; (focus (intro w' hS'; go_simp; (try with_reducible rfl); done)); try simp only [Act.put, List.setIfInBounds_toArray, List.set_cons_zero, List.set_cons_succ]) | (refine lew_read1 (v := ?_) (by rfl) (by rfl) ?_ ?_; rotate_left; (focus (intro w' hS'; go_simp; (try with_reducible rfl); done)); try simp only [Act.put, List.setIfInBounds_toArray, List.set_cons_zero, List.set_cons_succ]) | (refine lew_read2 (v := ?_) (by rfl) (by rfl) ?_ ?_; rotate_left; (focus (intro w' hS'; go_simp; (try with_reducible rfl); done)); try simp only [Act.put, List.setIfInBounds_toArray, List.set_cons_zero, List.set_cons_succ]) | (refine lew_read3 (v := ?_) (by rfl) (by rfl) ?_ ?_; rotate_left; (focus (intro w' hS'; go_simp; (try with_reducible rfl); done)); try simp only [Act.put, List.setIfInBounds_toArray, List.set_cons_zero, List.set_cons_succ]) | (refine lew_read4 (v := ?_) (by rfl) (by rfl) ?_ ?_; rotate_left; (focus (intro w' hS'; go_simp; (try with_reducible rfl); done)); try simp only [Act.put, List.setIfInBounds_toArray, List.set_cons_zero, List.set_cons_succ])))
  refine lew_chain4 rfl (by rfl) (fun K hK => ?_)
  go_wp2_with fail
  refine hK.out _ _ trivial (lew_nil ?_)
  clear hK q1 q2 f1 f2
  generalize (w3.setCell ⟨w.heap.size, 1, none⟩ (.slice A' l.ms.length c')).setCell ⟨w.heap.size, 2, none⟩ (.slice B' l.ps.length d') = w5 at *
  have R5' := hide (show Run F w (star (CellO w.heap.size #[.string l.id, .slice A' l.ms.length c', .slice B' l.ps.length d', .int .i64 l.q, .int .i64 l.u, .int .i64 l.f, .int .i64 l.t] 56) _) w5 from R5.out)
  clear R5
  obtain ⟨F5, hC5⟩ := R5'.out.fst
  have x0 := cell_at hC5 (i := 0) rfl
  have x1 := cell_at hC5 (i := 1) rfl
  have x2 := cell_at hC5 (i := 2) rfl
  have x3 := cell_at hC5 (i := 3) rfl
  have x4 := cell_at hC5 (i := 4) rfl
  have x5 := cell_at hC5 (i := 5) rfl
  have x6 := cell_at hC5 (i := 6) rfl
  clear hC5
  obtain ⟨FS, hSS⟩ := (R5'.out.perm (by ac_rfl : _ = star (BkS p s) (star (CellO w.heap.size #[.string l.id, .slice A' l.ms.length c', .slice B' l.ps.length d', .int .i64 l.q, .int .i64 l.u, .int .i64 l.f, .int .i64 l.t] 56) (star (RowO 9 1 (.slice B' l.ps.length d') l.ps.length (strs l.ps)) (RowO 9 1 (.slice A' l.ms.length c') l.ms.length (strs l.ms)))))).fst
  have d0 := hSS.read.c0
  clear hSS
  have hlt5 : p < w5.heap.size := World.block_lt_of_cell? _ _ d0
  have R6 := hide (R5'.out.fresh (star_ok cell_ok (star_ok row_ok (star_ok row_ok bkS_ok))) (cell_new w5 (gcell ⟨⟨l, 0, 0, -1⟩, w5.heap.size, A', c', B', d'⟩) 147))
  have RQ := hide (R6.out.fresh (star_ok cell_ok (star_ok cell_ok (star_ok row_ok (star_ok row_ok bkS_ok)))) (cell_new _ #[gptr w5.heap.size] 136))
  have HSRC := hide (Src.one (RQ.out.fst.choose_spec.1) rfl)
  rw [show (w5.alloc (.cells (gcell ⟨⟨l, 0, 0, -1⟩, w5.heap.size, A', c', B', d'⟩) 147)).heap.size = w5.heap.size + 1 by simp] at RQ HSRC
  obtain ⟨REST, hREST⟩ : ∃ R, R = star (CellO p (bcell s) 135) (star (bigStar (s.zs.map gow)) (star (MapO Value.string s.bI (entI s.zs)) (star (MapO Value.string s.bK (entK s.ts)) (star (bigStar (s.ts.map tow)) (star (gow ⟨⟨l, 0, 0, -1⟩, w5.heap.size, A', c', B', d'⟩) (CellO w.heap.size #[.string l.id, .slice A' l.ms.length c', .slice B' l.ps.length d', .int .i64 l.q, .int .i64 l.u, .int .i64 l.f, .int .i64 l.t] 56)))))) := ⟨_, rfl⟩
  have OKR : REST.Ok := by
    rw [hREST]
    exact star_ok cell_ok (star_ok (big_ok (fun A hA => by obtain ⟨z, _, rfl⟩ := List.mem_map.1 hA; exact gow_ok z)) (star_ok map_ok (star_ok map_ok (star_ok tows_ok (star_ok (gow_ok _) cell_ok)))))
  have RQ2 := hide (RQ.out.drop.perm (show _ = star (RowO 136 1 (.slice s.A s.zs.length s.c) s.zs.length (s.zs.flatMap gcl)) REST by
    rw [hREST, show gow ⟨⟨l, 0, 0, -1⟩, w5.heap.size, A', c', B', d'⟩ = star (CellO w5.heap.size (gcell ⟨⟨l, 0, 0, -1⟩, w5.heap.size, A', c', B', d'⟩) 147) (star (RowO 9 1 (.slice A' l.ms.length c') l.ms.length (strs l.ms)) (RowO 9 1 (.slice B' l.ps.length d') l.ps.length (strs l.ps))) from rfl]; unfold BkS ARow; ac_rfl))
  have HREST := hide hREST
  have HOKR := hide OKR
  clear hREST OKR RQ R6 R5'
  go_wp2_with (at_builtin; refine held ?_)
  obtain ⟨F7, hR7, -, bk7⟩ := RQ2.out.take row_ok HOKR.out
  refine Held.mk (wpList_app rfl (.tmp 20) (.tmp 22) rfl ptrsOk _ 0 (v := .slice s.A s.zs.length s.c) (n := s.zs.length) (xs := s.zs.flatMap gcl) rfl hR7.1 (A := some ⟨w5.heap.size + 1, 0, none⟩) (m := 1) (c := 1) (news := [gptr w5.heap.size]) rfl HSRC.out (by omega) (by omega) (Nat.zero_le _) ?_)
  intro v8 w8 ho8 hg8 hv8
  have S8 := bk7 _ _ (row_app hR7 ho8 hg8 hv8)
  obtain ⟨A8, c8, rfl⟩ := own_form ho8
  clear ho8 hg8 hv8 bk7 hR7 HSRC RQ2 x0 x1 x2 x3 x4 x5 x6 d0
  rw [HREST.out] at S8
  have OKG : (bigStar (s.zs.map gow)).Ok := big_ok (fun A hA => by obtain ⟨z, _, rfl⟩ := List.mem_map.1 hA; exact gow_ok z)
  obtain ⟨F9, hC9, -, bk9⟩ := S8.rot.take cell_ok (star_ok row_ok (star_ok OKG (star_ok map_ok (star_ok map_ok (star_ok tows_ok (star_ok (gow_ok _) cell_ok))))))
  have d9 := cell_at hC9 (i := 0) rfl
  have f9 := cell_free hC9 0
  have S9 := hide (bk9 _ _ (cell_set hC9 0 (.slice A8 (s.zs.length + 1) c8)))
  clear hC9 bk9 S8 HREST HOKR
  go_wp2_with fail
  generalize w8.setCell ⟨p, 0, none⟩ (.slice A8 (s.zs.length + 1) c8) = w9 at *
  have S10 := S9.out.drew (star_ok cell_ok (star_ok row_ok (star_ok OKG (star_ok map_ok (star_ok map_ok (star_ok tows_ok (star_ok (gow_ok _) cell_ok)))))))
  obtain ⟨G1, g1⟩ := S10.fst
  have e1 : w9.drew.cell? ⟨p, 1, none⟩ = some (.map (some s.bI)) := cell_at g1 (i := 1) rfl
  have S11 := S10.perm (by ac_rfl : _ = star (MapO Value.string s.bI (entI s.zs)) (star (CellO w.heap.size #[.string l.id, .slice A' l.ms.length c', .slice B' l.ps.length d', .int .i64 l.q, .int .i64 l.u, .int .i64 l.f, .int .i64 l.t] 56) (star (CellO p ((bcell s).setIfInBounds 0 (.slice A8 (s.zs.length + 1) c8)) 135) (star (RowO 136 1 (.slice A8 (s.zs.length + 1) c8) (s.zs.length + 1) (s.zs.flatMap gcl ++ [gptr w5.heap.size])) (star (bigStar (s.zs.map gow)) (star (MapO Value.string s.bK (entK s.ts)) (star (bigStar (s.ts.map tow)) (gow ⟨⟨l, 0, 0, -1⟩, w5.heap.size, A', c', B', d'⟩))))))))
  obtain ⟨G2, g2⟩ := S11.rot.fst
  have e2 : w9.drew.cell? ⟨w.heap.size, 0, none⟩ = some (.string l.id) := cell_at g2 (i := 0) rfl
  obtain ⟨G3, g3, -, bk3⟩ := S11.take map_ok (star_ok cell_ok (star_ok cell_ok (star_ok row_ok (star_ok OKG (star_ok map_ok (star_ok tows_ok (gow_ok _)))))))
  obtain ⟨w10, hup, hpost⟩ := mapO_put keyStr Try.underlying131 g3 l.id (gptr w5.heap.size)
  have S12 := bk3 _ _ hpost
  have hent := entI_snoc (zs := s.zs) (z := ⟨⟨l, 0, 0, -1⟩, w5.heap.size, A', c', B', d'⟩) HN.out
  rw [show ((⟨⟨l, 0, 0, -1⟩, w5.heap.size, A', c', B', d'⟩ : ZG).g.l.id) = l.id from rfl, show ((⟨⟨l, 0, 0, -1⟩, w5.heap.size, A', c', B', d'⟩ : ZG).p) = w5.heap.size from rfl] at hent
  rw [hent] at S12
  have S13 : Run F w (BkS p { s with A := A8, c := c8, zs := s.zs ++ [⟨⟨l, 0, 0, -1⟩, w5.heap.size, A', c', B', d'⟩] }) w10 := by
    have h1 := (S12.rot.drop).perm (by ac_rfl : _ = star (star (RowO 136 1 (.slice A8 (s.zs.length + 1) c8) (s.zs.length + 1) (s.zs.flatMap gcl ++ [gptr w5.heap.size])) (star (gow ⟨⟨l, 0, 0, -1⟩, w5.heap.size, A', c', B', d'⟩) (bigStar (s.zs.map gow)))) (star (CellO p ((bcell s).setIfInBounds 0 (.slice A8 (s.zs.length + 1) c8)) 135) (star (MapO Value.string s.bI (entI (s.zs ++ [⟨⟨l, 0, 0, -1⟩, w5.heap.size, A', c', B', d'⟩]))) (star (MapO Value.string s.bK (entK s.ts)) (bigStar (s.ts.map tow))))))
    have h2 : Run F w (star (ARow gcl gow 136 1 (.slice A8 (s.zs.length + 1) c8) (s.zs ++ [⟨⟨l, 0, 0, -1⟩, w5.heap.size, A', c', B', d'⟩])) (star (CellO p #[.slice A8 (s.zs.length + 1) c8, .map (some s.bI), .map (some s.bK)] 135) (star (MapO Value.string s.bI (entI (s.zs ++ [⟨⟨l, 0, 0, -1⟩, w5.heap.size, A', c', B', d'⟩]))) (star (MapO Value.string s.bK (entK s.ts)) (bigStar (s.ts.map tow)))))) w10 :=
      h1.imp fun w F h => star_mono h (fun F h => arow_snoc (cl := gcl) (ow := gow) (z := ⟨⟨l, 0, 0, -1⟩, w5.heap.size, A', c', B', d'⟩) h) (fun _ h => h)
    refine h2.perm ?_
    unfold BkS bcell
    rw [List.length_append, show [(⟨⟨l, 0, 0, -1⟩, w5.heap.size, A', c', B', d'⟩ : ZG)].length = 1 from rfl]
    ac_rfl
  have HP := hide (S13.post bkS_ok)
  have HZ2 := hide (bkZ_add HZ.out ⟨⟨l, 0, 0, -1⟩, w5.heap.size, A', c', B', d'⟩ l rfl A8 c8)
  unfold gptr at hup
  refine wp_region_ley (fun w' => w' = w9.drew) (by kernel_rfl) (by kernel_rfl) (by kernel_rfl) rfl ?_
  clear S9 S10 S11 S12 S13 g1 g2 g3 bk3 hpost hent OKG
  (repeat (first | (refine ley_skip (by rfl) ?_; try simp only [Act.put, List.setIfInBounds_toArray, List.set_cons_zero, List.set_cons_succ]) | (refine ley_read (v := ?_) (by rfl) ?_ ?_; rotate_left; (focus (intro w' hS'; go_simp; (try with_reducible rfl); done)); try simp only [Act.put, List.setIfInBounds_toArray, List.set_cons_zero, List.set_cons_succ])))
  refine ley_last rfl (by rfl) (fun K hK => ?_)
  go_wp2_with fail
  refine hK.out _ _ ?_
  clear hK
  go_wp2_with fail
  refine bodyPost_end (results_none rfl _ _ _) rfl ?_
  exact BPost.mk' HZ2.out HP.out
end Go.Proofs.Ytapabbpdfplpoaa
namespace Go.Proofs.Ytapabbpdfplpoaa
open Go.RowKit Go.CH Go.CH.Lic
open Go.ChangeMaps (setBlock)

def NewB (w : World) (e : Ending) (w' : World) : Prop := ∃ p, e = .returned (gptr p) ∧ Post w (fun _ => False) (BkO newM p) w'
set_option maxHeartbeats 800000 in
theorem newb_any (w : World) : Calls Try.prog 37 #[] w (NewB w) := by
  have hmk1 : ∀ w : World, (Instr.makeMap 131 none).run Try.prog w = .ok (.map (some w.heap.size)) (w.alloc (.map #[] 0)) := fun w => by kernel_rfl
  have hmk2 : ∀ w : World, (Instr.makeMap 132 none).run Try.prog w = .ok (.map (some w.heap.size)) (w.alloc (.map #[] 0)) := fun w => by kernel_rfl
  have R1 := (Run.begin w).fresh emp_ok (map_new (kv := Value.string) w)
  have R2 := R1.fresh (star_ok map_ok emp_ok) (map_new (kv := Value.string) (w.alloc (.map #[] 0)))
  have R3 := R2.fresh (star_ok map_ok (star_ok map_ok emp_ok)) (cell_new ((w.alloc (.map #[] 0)).alloc (.map #[] 0)) #[.slice none 0 0, .map (some w.heap.size), .map (some (w.heap.size + 1))] 135)
  rw [show (w.alloc (.map #[] 0)).heap.size = w.heap.size + 1 by simp] at R3
  have e1 : ((w.alloc (.map #[] 0)).alloc (.map #[] 0)).heap.size = w.heap.size + 1 + 1 := by simp
  rw [e1] at R3
  have R4 : Run (fun _ => False) w (BkS (w.heap.size + 1 + 1) ⟨none, 0, w.heap.size, w.heap.size + 1, [], []⟩) (((w.alloc (.map #[] 0)).alloc (.map #[] 0)).alloc (.cells #[.slice none 0 0, .map (some w.heap.size), .map (some (w.heap.size + 1))] 135)) := by
    have h1 := (R3.perm (by ac_rfl : _ = star (star (CellO (w.heap.size + 1 + 1) #[.slice none 0 0, .map (some w.heap.size), .map (some (w.heap.size + 1))] 135) (star (MapO Value.string w.heap.size []) (MapO Value.string (w.heap.size + 1) []))) emp)).imp fun w F h => star_emp h
    have h2 := h1.imp (B := star (star (CellO (w.heap.size + 1 + 1) #[.slice none 0 0, .map (some w.heap.size), .map (some (w.heap.size + 1))] 135) (star (MapO Value.string w.heap.size []) (MapO Value.string (w.heap.size + 1) []))) (ARow gcl gow 136 1 (.slice none 0 0) [])) fun w F h => by
      exact ⟨F, fun _ => False, h, arow_nil w _ _, fun _ _ h => h, fun i => by simp⟩
    have h3 := h2.imp (B := star (star (star (CellO (w.heap.size + 1 + 1) #[.slice none 0 0, .map (some w.heap.size), .map (some (w.heap.size + 1))] 135) (star (MapO Value.string w.heap.size []) (MapO Value.string (w.heap.size + 1) []))) (ARow gcl gow 136 1 (.slice none 0 0) [])) emp) fun w F h => star_emp' h
    refine h3.perm ?_
    unfold BkS bcell
    show _ = star (CellO (w.heap.size + 1 + 1) #[.slice none 0 0, .map (some w.heap.size), .map (some (w.heap.size + 1))] 135) (star (ARow gcl gow 136 1 (.slice none 0 0) []) (star (MapO Value.string w.heap.size []) (star (MapO Value.string (w.heap.size + 1) []) emp)))
    ac_rfl
  have HP := hide (R4.post bkS_ok)
  clear R1 R2 R3 R4 e1
  go_enter Try.func37, Try.ntmps37
  go_wp2
  go_ret
  obtain ⟨F', q1, q2, q3⟩ := HP.out
  exact ⟨_, rfl, F', ⟨_, ⟨rfl, rfl, by simp⟩, q1⟩, q2, q3⟩
set_option maxRecDepth 100000 in
set_option maxHeartbeats 1600000 in
theorem grant_any {w : World} {F : Nat → Prop} {b : BkM} {p : Nat} {l : LicM} {A B : Option Addr} {c d : Nat} (h : BkO b p w F) (hl : LicAt w l A c B d) :
    Calls Try.prog 38 #[gptr p, licV l A c B d] w (BPost w F (.int .i64 (grantR b l).1) (grantR b l).2 p) := by
  have HO := hide h
  obtain ⟨s, hz, hS⟩ := h
  have R1 := hide ((Run.start hS).below bkS_ok ((Below.refl w.heap.size w).alloc (Nat.le_refl _) (.cells (licC l A c B d) 56)))
  have BX := hide (((Run.begin w).fresh emp_ok (cell_new w (licC l A c B d) 56)).imp fun _ _ h => star_emp h)
  have KV := hide (fun W (hb : Below w.heap.size w W) => valid_any (c := c) (d := d) (hl.keep hb).h)
  have HL := hide hl
  have hlt : p < w.heap.size := World.block_lt_of_cell? _ _ hS.read.c0
  clear hS hl
  obtain ⟨c0, c1, c2, c3, c4, c5, c6⟩ := box_reads (show Run _ _ (CellO w.heap.size #[.string l.id, .slice A l.ms.length c, .slice B l.ps.length d, .int .i64 l.q, .int .i64 l.u, .int .i64 l.f, .int .i64 l.t] 56) _ from BX.out)
  cases hv : valid l with
  | false =>
    have e : grantR b l = (1, b) := by unfold grantR; simp [hv]
    rw [e]
    rw [hv] at KV
    clear hv e hz
    unfold gptr licV licC at *
    go_enter Try.func38, Try.ntmps38
    go_wp2_with fail
    refine (KV.out _ BX.out.bel).mono ?_
    rintro e w2 ⟨rfl, hb⟩
    have HB := hide (BX.out.bel.trans (hb.mono (by simp)))
    clear hb
    go_wp2
    go_ret
    exact BPost.below HO.out _ HB.out
  | true =>
    rw [hv] at KV
    have hn := hide (show s.zs.length = b.gs.length from zs_len hz)
    cases hf : findG b l.id with
    | some i =>
      have e : grantR b l = (9, b) := by unfold grantR; simp [hv, hf]
      rw [e]
      obtain ⟨hi, h1, h2⟩ := bk_find hz hf
      have HFZ := hide h1
      generalize s.zs[i].p = gp at *
      clear hv e hz hf h1 h2
      unfold gptr licV licC at *
      go_enter Try.func38, Try.ntmps38
      go_wp2_with fail
      refine (KV.out _ BX.out.bel).mono ?_
      rintro e w2 ⟨rfl, hb⟩
      have RB := (R1.out.below bkS_ok hb).drew bkS_ok
      have BB := bk_read RB
      have m0 := BB.c0
      have m1 := BB.c1
      have ml := BB.lookI l.id
      rw [HFZ.out] at ml
      have BX2 := hide ((BX.out.below cell_ok hb).drew cell_ok)
      obtain ⟨q0, q1, q2, q3, q4, q5, q6⟩ := box_reads BX2.out
      have HBL := hide (below_drew (BX.out.bel.trans (hb.mono (by simp))))
      have RO2 := hide ((((Run.start HO.out).below bkO_ok ((Below.refl w.heap.size w).alloc (Nat.le_refl _) _)).below bkO_ok hb).drew bkO_ok)
      clear hb RB BB c0 c1 c2 c3 c4 c5 c6
      go_wp2_with fail
      refine wp_region_lex (fun w' => w' = w2.drew) (by kernel_rfl) (by kernel_rfl) rfl ?_
      (repeat (first | (refine lex_skip (by rfl) ?_; try simp only [Act.put, List.setIfInBounds_toArray, List.set_cons_zero, List.set_cons_succ]) | (refine lex_read (v := ?_) (by rfl) ?_ ?_; rotate_left; (focus (intro w' hS'; go_simp; (try with_reducible rfl); done)); try simp only [Act.put, List.setIfInBounds_toArray, List.set_cons_zero, List.set_cons_succ])))
      refine lex_nil ?_
      go_wp2
      go_ret
      exact BPost.below HO.out _ HBL.out
    | none =>
      have HFZ := hide (bk_find0 hz hf)
      have HNEW := hide (findG_none hf)
      by_cases hlen : 100 ≤ b.gs.length
      · have e : grantR b l = (28, b) := by unfold grantR; simp [hv, hf, hlen]
        rw [e]
        rw [← hn.out] at hlen
        clear hv e hz hf
        unfold gptr licV licC at *
        go_enter Try.func38, Try.ntmps38
        go_wp2_with fail
        refine (KV.out _ BX.out.bel).mono ?_
        rintro e w2 ⟨rfl, hb⟩
        have RB := (R1.out.below bkS_ok hb).drew bkS_ok
        have BB := bk_read RB
        have m0 := BB.c0
        have m1 := BB.c1
        have ml := BB.lookI l.id
        rw [HFZ.out] at ml
        have BX2 := hide ((BX.out.below cell_ok hb).drew cell_ok)
        obtain ⟨q0, q1, q2, q3, q4, q5, q6⟩ := box_reads BX2.out
        have HBL := hide (below_drew (BX.out.bel.trans (hb.mono (by simp))))
        have RO2 := hide ((((Run.start HO.out).below bkO_ok ((Below.refl w.heap.size w).alloc (Nat.le_refl _) _)).below bkO_ok hb).drew bkO_ok)
        clear hb RB BB c0 c1 c2 c3 c4 c5 c6
        go_wp2_with fail
        refine wp_region_lex (fun w' => w' = w2.drew) (by kernel_rfl) (by kernel_rfl) rfl ?_
        (repeat (first | (refine lex_skip (by rfl) ?_; try simp only [Act.put, List.setIfInBounds_toArray, List.set_cons_zero, List.set_cons_succ]) | (refine lex_read (v := ?_) (by rfl) ?_ ?_; rotate_left; (focus (intro w' hS'; go_simp; (try with_reducible rfl); done)); try simp only [Act.put, List.setIfInBounds_toArray, List.set_cons_zero, List.set_cons_succ])))
        refine lex_nil ?_
        go_wp2
        go_ret
        exact BPost.below HO.out _ HBL.out
      · have e : grantR b l = (0, addM b l) := by unfold grantR; simp [hv, hf, hlen]
        rw [e]
        have HLEN := hide hlen
        rw [← hn.out] at hlen
        clear hv e hz hf
        unfold gptr licV licC at *
        go_enter Try.func38, Try.ntmps38
        go_wp2_with fail
        refine (KV.out _ BX.out.bel).mono ?_
        rintro e w2 ⟨rfl, hb⟩
        have RB := (R1.out.below bkS_ok hb).drew bkS_ok
        have BB := bk_read RB
        have m0 := BB.c0
        have m1 := BB.c1
        have ml := BB.lookI l.id
        rw [HFZ.out] at ml
        have BX2 := hide ((BX.out.below cell_ok hb).drew cell_ok)
        obtain ⟨q0, q1, q2, q3, q4, q5, q6⟩ := box_reads BX2.out
        have HBL := hide (below_drew (BX.out.bel.trans (hb.mono (by simp))))
        have RO2 := hide ((((Run.start HO.out).below bkO_ok ((Below.refl w.heap.size w).alloc (Nat.le_refl _) _)).below bkO_ok hb).drew bkO_ok)
        clear hb RB BB c0 c1 c2 c3 c4 c5 c6
        go_wp2_with fail
        refine wp_region_lex (fun w' => w' = w2.drew) (by kernel_rfl) (by kernel_rfl) rfl ?_
        (repeat (first | (refine lex_skip (by rfl) ?_; try simp only [Act.put, List.setIfInBounds_toArray, List.set_cons_zero, List.set_cons_succ]) | (refine lex_read (v := ?_) (by rfl) ?_ ?_; rotate_left; (focus (intro w' hS'; go_simp; (try with_reducible rfl); done)); try simp only [Act.put, List.setIfInBounds_toArray, List.set_cons_zero, List.set_cons_succ])))
        refine lex_nil ?_
        obtain ⟨F', hB, back⟩ := RO2.out.all bkO_ok
        have KA := hide (add_any hB (HL.out.keep HBL.out) HNEW.out (by have := HLEN.out; omega))
        have BK := hide back
        clear hB back
        unfold gptr licV at KA
        go_wp2_with fail
        refine KA.out.mono ?_
        rintro e w3 ⟨rfl, hp⟩
        have HP := hide ((BK.out _ _ hp).post bkO_ok)
        clear hp BK
        go_wp2
        go_ret
        exact ⟨rfl, HP.out⟩
end Go.Proofs.Ytapabbpdfplpoaa
