/-
  Net: the walk of NetHonest.
-/
import Derived.Test.YtolpcjpnjicmkaaHon
set_option linter.unusedSimpArgs false
set_option linter.unusedVariables false
namespace Go.Proofs.Ytolpcjpnjicmkaa
open Go.RowKit Go.CH
open Go.ChangeMaps (setBlock)

theorem StepAt.sta {N : Nat} {w W : World} {O : Own} {b o : Nat} {x : Step} (h : StepAt w b o x) (s : Sta N w O W) (hN : N = w.heap.size) : StepAt W b o x := by
  subst hN
  have hb : b < w.heap.size := World.block_lt_of_cell? w _ h.c0
  exact ⟨s.cell h.c0 hb, s.cell h.c1 hb, s.cell h.c2 hb, s.cell h.c3 hb, s.cell h.c4 hb, s.cell h.c5 hb⟩
theorem do_at {m : NetM} {p : Nat} {W : World} {F : Nat → Prop} (h : NetO m p W F) (x : Step) {r : Res} (hr : doR m x = r) {m' : NetM} (hm : doM m x = m') :
    Calls Try.prog 17 #[.pointer (some ⟨p, 0, none⟩), .agg #[.int .i64 x.kind, .int .i64 x.a, .int .i64 x.b, .string x.text, .bool x.lost, .bool x.again]] W (fun e W' => e = .returned (.agg #[.int .i64 r.err, .string r.text, .bool r.ok]) ∧ Post W F (NetO m' p) W') := by
  subst hr hm
  exact do_post h x
theorem play_get (m : NetM) : ∀ (l : List Step) (j : Nat) (h : j < l.length) (h' : j < (play m l).length), ((play m l)[j]).1 = l[j]
  | x :: l, 0, _, _ => rfl
  | x :: l, j + 1, h, h' => by simpa [play] using play_get (doM m x) l j (by simpa using h) (by simpa [play] using h')
theorem resC_snoc (l : List (Step × Res)) (y : Step × Res) : resC l ++ resL y.2 = resC (l ++ [y]) := by simp [resC]
/-- What an inner round leaves in the slots. -/
theorem cnt_vals {x y : Step × Res} {l : List (Step × Res)} {k : Nat} (hk : k < l.length) (hy : l[k] = y) {s g q : Bool} (hs : isSent x y = s) (hg : isGot x y = g) (hq : isKnown x y = q) {S G : Nat} {Q : Bool}
    (eS : sentC x (l.take k) = S) (eG : gotC x (l.take k) = G) (eQ : knownC x (l.take k) = Q) :
    Value.int .i64 ((S : Int) + (if s then 1 else 0)) = .int .i64 (sentC x (l.take (k + 1))) ∧ Value.int .i64 ((G : Int) + (if g then 1 else 0)) = .int .i64 (gotC x (l.take (k + 1))) ∧ Value.bool (Q || q) = .bool (knownC x (l.take (k + 1))) := by
  obtain ⟨h1, h2, h3⟩ := cnt_step hk hy hs hg hq
  subst eS eG eQ
  rw [h1, h2, h3]
  refine ⟨?_, ?_, rfl⟩
  · cases s <;> simp
  · cases g <;> simp

def CntV (x y : Step × Res) (l : List (Step × Res)) (k S G : Nat) (Q : Bool) : Prop := ∀ s g q, isSent x y = s → isGot x y = g → isKnown x y = q →
  Value.int .i64 ((S : Int) + (if s then 1 else 0)) = .int .i64 (sentC x (l.take (k + 1))) ∧ Value.int .i64 ((G : Int) + (if g then 1 else 0)) = .int .i64 (gotC x (l.take (k + 1))) ∧ Value.bool (Q || q) = .bool (knownC x (l.take (k + 1)))
theorem cntV {x y : Step × Res} {l : List (Step × Res)} {k : Nat} (hk : k < l.length) (hy : l[k] = y) {S G : Nat} {Q : Bool} (eS : sentC x (l.take k) = S) (eG : gotC x (l.take k) = G) (eQ : knownC x (l.take k) = Q) : CntV x y l k S G Q :=
  fun s g q hs hg hq => cnt_vals hk hy hs hg hq eS eG eQ
theorem resK {m : NetM} {l : List Step} {k : Nat} {r : Res} (hlt : k < l.length) (hr : doR (stM m (l.take k)) l[k] = r) {w : World} {g n c base : Nat} (ho : w.ownsRow base 42 3 (.slice (some ⟨g, 0, none⟩) n c) n (resC (play m (l.take k)) ++ resL r)) : ResAt w g (k * 3) r := by
  subst hr
  have hlen : (play m (l.take k) ++ [(l[k], doR (stM m (l.take k)) l[k])]).length = k + 1 := by simp [play_len]; omega
  have h2 : (play m (l.take k) ++ [(l[k], doR (stM m (l.take k)) l[k])])[k]'(by omega) = (l[k], doR (stM m (l.take k)) l[k]) := by
    rw [List.getElem_append_right (by simp [play_len]; omega)]; simp
  have := resAt (l := play m (l.take k) ++ [(l[k], doR (stM m (l.take k)) l[k])]) (by rw [← resC_snoc]; exact ho) (k := k) (by omega)
  rwa [h2] at this
def m0 (n : Int) : NetM := ⟨n, fun _ => [], fun _ => false⟩
set_option maxHeartbeats 400000 in
theorem honest_no (n : Int) (A : Option Addr) (c : Nat) (l : List Step) (w : World) (h : n < 1 ∨ 8 < n) (hl : Src w A l.length 6 (steps l)) :
    Calls Try.prog 7 #[.int .i64 n, .slice A l.length c] w (BelowRet w (.bool true)) := by
  go_enter Try.func7, Try.ntmps7
  go_wp2_with fail
  refine (head_any _).mono ?_
  rintro e w0 ⟨rfl, hb0⟩
  have s0 := (Sta.start w).below emp_ok hb0
  have S0 := hide s0; clear s0
  go_wp2_with fail
  refine (new_no n _ h).mono ?_
  rintro e w1 ⟨rfl, rfl⟩
  have KF := hide (few15_any A _ c l _ rfl (S0.out.src hl rfl))
  generalize fewB l = f at KF
  go_wp2_with fail
  refine KF.out.mono ?_
  rintro e w2 ⟨rfl, hb2⟩
  cases f
  · go_wp2
    go_ret
    exact ⟨rfl, (S0.out.below emp_ok hb2).bel⟩
  · go_wp2
    go_ret
    exact ⟨rfl, (S0.out.below emp_ok hb2).bel⟩
set_option maxHeartbeats 400000 in
theorem honest_much (n : Int) (A : Option Addr) (c : Nat) (l : List Step) (w : World) (h1 : 1 ≤ n) (h2 : n ≤ 8) (hf : fewB l = false) (hl : Src w A l.length 6 (steps l)) :
    Calls Try.prog 7 #[.int .i64 n, .slice A l.length c] w (BelowRet w (.bool true)) := by
  go_enter Try.func7, Try.ntmps7
  go_wp2_with fail
  refine (head_any _).mono ?_
  rintro e w0 ⟨rfl, hb0⟩
  have s0 := (Sta.start w).below emp_ok hb0
  have S0 := hide s0; clear s0
  go_wp2_with fail
  refine (new_post n _ h1 h2).mono ?_
  rintro e w1 ⟨p, rfl, hp⟩
  have S1 := hide (S0.out.fresh emp_ok hp)
  have KF := hide (few15_any A _ c l _ rfl (S1.out.src hl rfl))
  rw [hf] at KF
  clear hf hp
  go_wp2_with fail
  refine KF.out.mono ?_
  rintro e w2 ⟨rfl, hb2⟩
  go_wp2
  go_ret
  exact ⟨rfl, (S1.out.below (star_ok netO_ok emp_ok) hb2).bel⟩

set_option maxHeartbeats 4000000 in
set_option maxRecDepth 100000 in
theorem honest_any (n : Int) (A : Option Addr) (c : Nat) (l : List Step) (w : World) (h1 : 1 ≤ n) (h2 : n ≤ 8) (hf : fewB l = true) (hl : Src w A l.length 6 (steps l)) :
    Calls Try.prog 7 #[.int .i64 n, .slice A l.length c] w (BelowRet w (.bool true)) := by
  have hn : l.length ≤ 150 := by simp [fewB] at hf; omega
  have HL := hide hl
  go_enter Try.func7, Try.ntmps7
  go_wp2_with fail
  refine (head_any _).mono ?_
  rintro e w0 ⟨rfl, hb0⟩
  have s0 := (Sta.start w).below emp_ok hb0
  have S0 := hide s0; clear s0
  go_wp2_with fail
  refine (new_post n _ h1 h2).mono ?_
  rintro e w1 ⟨p, rfl, hp⟩
  have S1 := hide (S0.out.fresh emp_ok hp)
  have KF := hide (few15_any A _ c l _ rfl (S1.out.src hl rfl))
  rw [hf] at KF
  clear hf hp hl
  go_wp2_with fail
  refine KF.out.mono ?_
  rintro e w2 ⟨rfl, hb2⟩
  have S2 : Hid (Sta w.heap.size w (star (NetO (m0 n) p) (RowO 42 3 (.slice none 0 0) 0 [])) w2) :=
    (S1.out.below (star_ok netO_ok emp_ok) hb2).imp fun _ _ h => star_mono h (fun _ h => h) (fun F hF => ⟨World.ownsRow_nil _ _ _ _, fun i => by simp [Value.ownBlock, hF i]⟩)
  clear hb2 hb0
  go_wp2
  go_loopw [8, 9] (fun v i wr => ∃ (k : Nat) (A' : Option Addr) (c' : Nat), k ≤ l.length ∧ i = .int .i64 k ∧ v = .slice A' k c' ∧ Sta w.heap.size w (star (NetO (stM (m0 n) (l.take k)) p) (RowO 42 3 (.slice A' k c') k (resC (play (m0 n) (l.take k))))) wr) (fun _ i _ => l.length - (intOf i).toNat)
  case atStart => exact ⟨0, none, 0, by omega, rfl, rfl, S2.out⟩
  case round =>
    obtain ⟨k, A', c', hk, rfl, rfl, hS⟩ := hrel
    have HS := hide hS; clear hS
    by_cases hlt : k < l.length
    · obtain ⟨b, o, rfl, hcl⟩ := HL.out.open_ (by omega) (by omega)
      have HA : Hid (∀ j (hj : j < l.length), StepAt w b (o + j * 6) l[j]) := fun j hj => stepAt hcl hj
      clear hcl
      obtain ⟨c0, c1, c2, c3, c4, c5⟩ := (HA.out k hlt).sta HS.out rfl
      obtain ⟨F, hN, -, hback⟩ := HS.out.take row_ok
      obtain ⟨r, hr⟩ : ∃ r, doR (stM (m0 n) (l.take k)) l[k] = r := ⟨_, rfl⟩
      have KD := hide (do_at hN l[k] hr rfl)
      have HB := hide hback
      have HR := hide hr
      clear hN hback hr
      go_wp2_with fail
      refine KD.out.mono ?_
      rintro e w3 ⟨rfl, hp3⟩
      have s3 := HB.out _ _ hp3
      obtain ⟨F3, hR3, -, hback3⟩ := s3.swap.take netO_ok
      have HR3 := hide hR3; have HB3 := hide hback3
      clear hp3 s3 hR3 hback3 c0 c1 c2 c3 c4 c5
      go_wp2_with (at_builtin; refine held ?_)
      refine Held.mk (wpList_app rfl (.tmp 50) (.tmp 57) rfl resOk _ 0 (v := .slice A' k c') (n := k) (xs := resC (play (m0 n) (l.take k))) rfl (HR3.out.1.alloc _) (A := some ⟨w3.heap.size, 0, none⟩) (m := 1) (c := 1) (news := resL r) rfl (Src.res (heap_new rfl)) (by omega) (by omega) (Nat.zero_le _) ?_)
      intro v4 w4 ho4 hg4 hv4
      have S4 := hide (HB3.out _ _ (row_app1 HR3.out ho4 hg4 hv4))
      obtain ⟨g, c4, rfl, -, -⟩ := ho4.form (by omega)
      obtain ⟨c0, -, -, -, -, -⟩ := (HA.out k hlt).sta S4.out rfl
      have r2 := (resK hlt HR.out ho4).c2
      obtain ⟨evs, hevs⟩ : ∃ evs, play (m0 n) (l.take (k + 1)) = evs := ⟨_, rfl⟩
      have hlen : evs.length = k + 1 := by rw [← hevs, play_len]; simp; omega
      have hsnoc : play (m0 n) (l.take k) ++ [(l[k], r)] = evs := by rw [← hevs, List.take_succ_eq_append_getElem hlt, play_snoc, HR.out]
      have hst : stM (m0 n) (l.take (k + 1)) = doM (stM (m0 n) (l.take k)) l[k] := by rw [List.take_succ_eq_append_getElem hlt, stM_snoc]
      rw [← hst, show resC (play (m0 n) (l.take k)) ++ resL r = resC evs by rw [← hsnoc]; simp [resC]] at S4
      rw [show resC (play (m0 n) (l.take k)) ++ resL r = resC evs by rw [← hsnoc]; simp [resC]] at ho4
      have HO4 := hide ho4; have HE := hide hevs; have HSN := hide hsnoc; have HLE := hide hlen
      clear ho4 hg4 hv4 hevs hsnoc hst hlen
      by_cases hkd : l[k].kind = 1
      · have hk1 : (l[k].kind == 1) = true := by simpa using hkd
        have hk2 : (l[k].kind != 1) = false := by simpa using hkd
        have HKD := hide hkd; clear hkd
        cases hro : r.ok with
        | false =>
          rw [hro] at r2
          go_wp2
          go_roundw
          case rel => exact ⟨k + 1, _, _, hlt, by go_num, rfl, by rw [HE.out]; exact S4.out.swap⟩
          case measure => simp [intOf]; omega
        | true =>
          rw [hro] at r2
          have hfa := fair_play (m0 n) (fun _ => rfl) l k hlt HKD.out (by rw [HR.out]; exact hro)
          rw [HR.out, HE.out] at hfa
          have HF := hide hfa
          clear hfa
          have hx1 := (HA.out k hlt).sta S4.out rfl
          have hx2 := resK hlt HR.out (by rw [show resC (play (m0 n) (l.take k)) ++ resL r = resC evs by rw [← HSN.out]; simp [resC]]; exact HO4.out)
          have hall : ∀ j, j < k + 1 → ∃ y : Step × Res, evs[j]? = some y ∧ StepAt w4 b (o + j * 6) y.1 ∧ ResAt w4 g (j * 3) y.2 := fun j hj => by
            have hj1 : j < evs.length := by rw [HLE.out]; exact hj
            refine ⟨evs[j], List.getElem?_eq_getElem hj1, ?_, resAt HO4.out hj1⟩
            have h3 : (evs[j]).1 = l[j] := by
              have h4 := play_get (m0 n) (l.take (k + 1)) j (by simp; omega) (by rw [HE.out]; exact hj1)
              simp only [HE.out, List.getElem_take] at h4
              exact h4
            rw [h3]; exact (HA.out j (by omega)).sta S4.out rfl
          have HX := hide hall
          have a1 := hx1.c1; have a2 := hx1.c2; have a3 := hx2.c1
          obtain ⟨xa, hxa⟩ : ∃ xa, l[k].a = xa := ⟨_, rfl⟩
          obtain ⟨xb, hxb⟩ : ∃ xb, l[k].b = xb := ⟨_, rfl⟩
          rw [hxa] at a1; rw [hxb] at a2
          have HXA := hide hxa; have HXB := hide hxb
          clear hall hx1 hx2 hxa hxb
          go_wp2
          go_loopw [10, 11, 12, 13] (fun s g' q i wq => ∃ (j : Nat), j ≤ k + 1 ∧ i = .int .i64 j ∧ s = .int .i64 (sentC (l[k], r) (evs.take j)) ∧ g' = .int .i64 (gotC (l[k], r) (evs.take j)) ∧ q = .bool (knownC (l[k], r) (evs.take j)) ∧ ∃ m, wq = w4.drewN m) (fun _ _ _ i _ => k + 1 - (intOf i).toNat)
          case atStart => exact ⟨0, by omega, rfl, rfl, rfl, rfl, 0, rfl⟩
          case round =>
            obtain ⟨j, hj, rfl, rfl, rfl, rfl, m, rfl⟩ := hrel
            have hS1 := sentC_le (l[k], r) (evs.take j)
            have hG1 := gotC_le (l[k], r) (evs.take j)
            have hT1 : (evs.take j).length ≤ j := List.length_take_le _ _
            by_cases hjk : j < k + 1
            · obtain ⟨⟨⟨yk, ya, yb, yt, yl, yg⟩, ⟨ye, yx, yo⟩⟩, hy, hs, hr⟩ := HX.out j hjk
              have hjl : j < evs.length := by rw [HLE.out]; exact hjk
              have hyj : evs[j] = (⟨yk, ya, yb, yt, yl, yg⟩, ⟨ye, yx, yo⟩) := (List.getElem?_eq_some_iff.1 hy).2
              have d0 := hs.c0; have d1 := hs.c1; have d2 := hs.c2; have d3 := hs.c3; have d5 := hs.c5
              have e0 := hr.c0; have e2 := hr.c2
              simp only [] at d0 d1 d2 d3 d5 e0 e2
              have HYJ := hide hyj
              clear hs hr hy hyj
              obtain ⟨S, hS⟩ : ∃ S, sentC (l[k], r) (evs.take j) = S := ⟨_, rfl⟩
              obtain ⟨G, hG⟩ : ∃ G, gotC (l[k], r) (evs.take j) = G := ⟨_, rfl⟩
              obtain ⟨Q, hQ⟩ : ∃ Q, knownC (l[k], r) (evs.take j) = Q := ⟨_, rfl⟩
              rw [hS] at hS1 ⊢; rw [hG] at hG1 ⊢; rw [hQ]
              have CV := cntV hjl HYJ.out hS hG hQ
              clear hS hG hQ
              have hSb : S ≤ 151 := by omega
              have hGb : G ≤ 151 := by omega
              clear hS1 hG1 hT1
              by_cases hA : ya = xa
              · by_cases hB : yb = xb
                · by_cases hk0 : yk = 0
                  · by_cases he0 : ye = 0
                    · cases Q with
                      | true =>
                        have fA : (ya != xa) = false := by simp [hA]
                        have fB : (yb != xb) = false := by simp [hB]
                        have f0 : (yk == 0) = true := by simp [hk0]
                        have f1 : (yk == 1) = false := by simp [hk0]
                        have f2 : (ye == 0) = true := by simp [he0]
                        have R := hide (CV true (false) (decide (yt = r.text)) (by simp [isSent, hit, HXA.out, HXB.out, *]) (by simp [isGot, hit, HXA.out, HXB.out, *]) (by simp [isKnown, isSent, hit, HXA.out, HXB.out, *]))
                        skip
                        go_wp2
                        go_quiet (fail)
                        go_wp2
                        go_quiet (fail)
                        go_wp2
                        go_roundw
                        case rel => exact ⟨j + 1, by omega, by go_num, by rw [← R.out.1]; simp, by rw [← R.out.2.1]; simp, by rw [← R.out.2.2]; simp, _, rfl⟩
                        case measure => simp [intOf]; omega
                      | false =>
                        by_cases ht : yt = r.text
                        · have f3 := strEq_true ht
                          have fA : (ya != xa) = false := by simp [hA]
                          have fB : (yb != xb) = false := by simp [hB]
                          have f0 : (yk == 0) = true := by simp [hk0]
                          have f1 : (yk == 1) = false := by simp [hk0]
                          have f2 : (ye == 0) = true := by simp [he0]
                          have R := hide (CV true (false) (true) (by simp [isSent, hit, HXA.out, HXB.out, *]) (by simp [isGot, hit, HXA.out, HXB.out, *]) (by simp [isKnown, isSent, hit, HXA.out, HXB.out, *]))
                          skip
                          go_wp2
                          go_quiet (fail)
                          go_wp2
                          go_quiet (fail)
                          go_wp2
                          go_roundw
                          case rel => exact ⟨j + 1, by omega, by go_num, by rw [← R.out.1]; simp, by rw [← R.out.2.1]; simp, by rw [← R.out.2.2]; simp, _, rfl⟩
                          case measure => simp [intOf]; omega
                        · have f3 := strEq_false ht
                          have fA : (ya != xa) = false := by simp [hA]
                          have fB : (yb != xb) = false := by simp [hB]
                          have f0 : (yk == 0) = true := by simp [hk0]
                          have f1 : (yk == 1) = false := by simp [hk0]
                          have f2 : (ye == 0) = true := by simp [he0]
                          have R := hide (CV true (false) (false) (by simp [isSent, hit, HXA.out, HXB.out, *]) (by simp [isGot, hit, HXA.out, HXB.out, *]) (by simp [isKnown, isSent, hit, HXA.out, HXB.out, *]))
                          skip
                          go_wp2
                          go_quiet (fail)
                          go_wp2
                          go_quiet (fail)
                          go_wp2
                          go_roundw
                          case rel => exact ⟨j + 1, by omega, by go_num, by rw [← R.out.1]; simp, by rw [← R.out.2.1]; simp, by rw [← R.out.2.2]; simp, _, rfl⟩
                          case measure => simp [intOf]; omega
                    · skip
                      have fA : (ya != xa) = false := by simp [hA]
                      have fB : (yb != xb) = false := by simp [hB]
                      have f0 : (yk == 0) = true := by simp [hk0]
                      have f1 : (yk == 1) = false := by simp [hk0]
                      have f2 : (ye == 0) = false := by simp [he0]
                      have R := hide (CV false (false) (false) (by simp [isSent, hit, HXA.out, HXB.out, *]) (by simp [isGot, hit, HXA.out, HXB.out, *]) (by simp [isKnown, isSent, hit, HXA.out, HXB.out, *]))
                      skip
                      go_wp2
                      go_quiet (fail)
                      go_wp2
                      go_roundw
                      case rel => exact ⟨j + 1, by omega, by go_num, by rw [← R.out.1]; simp, by rw [← R.out.2.1]; simp, by rw [← R.out.2.2]; simp, _, rfl⟩
                      case measure => simp [intOf]; omega
                  · by_cases hk1 : yk = 1
                    · cases yo with
                      | false =>
                        have fA : (ya != xa) = false := by simp [hA]
                        have fB : (yb != xb) = false := by simp [hB]
                        have f0 : (yk == 0) = false := by simp [hk0]
                        have f1 : (yk == 1) = true := by simp [hk1]
                        have R := hide (CV false (false) (false) (by simp [isSent, hit, HXA.out, HXB.out, *]) (by simp [isGot, hit, HXA.out, HXB.out, *]) (by simp [isKnown, isSent, hit, HXA.out, HXB.out, *]))
                        skip
                        go_wp2
                        go_quiet (fail)
                        go_wp2
                        go_roundw
                        case rel => exact ⟨j + 1, by omega, by go_num, by rw [← R.out.1]; simp, by rw [← R.out.2.1]; simp, by rw [← R.out.2.2]; simp, _, rfl⟩
                        case measure => simp [intOf]; omega
                      | true =>
                        cases yg with
                        | false =>
                          have fA : (ya != xa) = false := by simp [hA]
                          have fB : (yb != xb) = false := by simp [hB]
                          have f0 : (yk == 0) = false := by simp [hk0]
                          have f1 : (yk == 1) = true := by simp [hk1]
                          have R := hide (CV false (true) (false) (by simp [isSent, hit, HXA.out, HXB.out, *]) (by simp [isGot, hit, HXA.out, HXB.out, *]) (by simp [isKnown, isSent, hit, HXA.out, HXB.out, *]))
                          skip
                          go_wp2
                          go_quiet (fail)
                          go_wp2
                          go_roundw
                          case rel => exact ⟨j + 1, by omega, by go_num, by rw [← R.out.1]; simp, by rw [← R.out.2.1]; simp, by rw [← R.out.2.2]; simp, _, rfl⟩
                          case measure => simp [intOf]; omega
                        | true =>
                          have fA : (ya != xa) = false := by simp [hA]
                          have fB : (yb != xb) = false := by simp [hB]
                          have f0 : (yk == 0) = false := by simp [hk0]
                          have f1 : (yk == 1) = true := by simp [hk1]
                          have R := hide (CV false (false) (false) (by simp [isSent, hit, HXA.out, HXB.out, *]) (by simp [isGot, hit, HXA.out, HXB.out, *]) (by simp [isKnown, isSent, hit, HXA.out, HXB.out, *]))
                          skip
                          go_wp2
                          go_quiet (fail)
                          go_wp2
                          go_roundw
                          case rel => exact ⟨j + 1, by omega, by go_num, by rw [← R.out.1]; simp, by rw [← R.out.2.1]; simp, by rw [← R.out.2.2]; simp, _, rfl⟩
                          case measure => simp [intOf]; omega
                    · skip
                      have fA : (ya != xa) = false := by simp [hA]
                      have fB : (yb != xb) = false := by simp [hB]
                      have f0 : (yk == 0) = false := by simp [hk0]
                      have f1 : (yk == 1) = false := by simp [hk1]
                      have R := hide (CV false (false) (false) (by simp [isSent, hit, HXA.out, HXB.out, *]) (by simp [isGot, hit, HXA.out, HXB.out, *]) (by simp [isKnown, isSent, hit, HXA.out, HXB.out, *]))
                      skip
                      go_wp2
                      go_quiet (fail)
                      go_wp2
                      go_roundw
                      case rel => exact ⟨j + 1, by omega, by go_num, by rw [← R.out.1]; simp, by rw [← R.out.2.1]; simp, by rw [← R.out.2.2]; simp, _, rfl⟩
                      case measure => simp [intOf]; omega
                · skip
                  have fA : (ya != xa) = false := by simp [hA]
                  have fB : (yb != xb) = true := by simp [hB]
                  have R := hide (CV false (false) (false) (by simp [isSent, hit, HXA.out, HXB.out, *]) (by simp [isGot, hit, HXA.out, HXB.out, *]) (by simp [isKnown, isSent, hit, HXA.out, HXB.out, *]))
                  skip
                  go_wp2
                  go_quiet (fail)
                  go_wp2
                  go_roundw
                  case rel => exact ⟨j + 1, by omega, by go_num, by rw [← R.out.1]; simp, by rw [← R.out.2.1]; simp, by rw [← R.out.2.2]; simp, _, rfl⟩
                  case measure => simp [intOf]; omega
              · skip
                have fA : (ya != xa) = true := by simp [hA]
                have R := hide (CV false (false) (false) (by simp [isSent, hit, HXA.out, HXB.out, *]) (by simp [isGot, hit, HXA.out, HXB.out, *]) (by simp [isKnown, isSent, hit, HXA.out, HXB.out, *]))
                skip
                go_wp2
                go_quiet (fail)
                go_wp2
                go_roundw
                case rel => exact ⟨j + 1, by omega, by go_num, by rw [← R.out.1]; simp, by rw [← R.out.2.1]; simp, by rw [← R.out.2.2]; simp, _, rfl⟩
                case measure => simp [intOf]; omega
            · have hj2 : j = k + 1 := by omega
              have ht : evs.take j = evs := by rw [hj2, ← HLE.out]; exact List.take_length
              rw [ht]
              obtain ⟨hf1, hf2⟩ := HF.out
              rw [hf1]
              have hf3 : (↑(gotC (l[k], r) evs) : Int) ≤ ↑(sentC (l[k], r) evs) := by omega
              have hf4 : decide ((↑(sentC (l[k], r) evs) : Int) < ↑(gotC (l[k], r) evs)) = false := by simpa using hf2
              clear ht hf1 hf2
              go_wp2
              go_roundw
              case rel => exact ⟨k + 1, _, _, hlt, by go_num, rfl, by rw [HE.out]; exact S4.out.swap.below (star_ok netO_ok row_ok) (drewN_below _ _)⟩
              case measure => simp [intOf]; omega
      · have hk1 : (l[k].kind == 1) = false := by simpa using hkd
        have hk2 : (l[k].kind != 1) = true := by simpa using hkd
        clear hkd
        go_wp2
        go_roundw
        case rel => exact ⟨k + 1, _, _, hlt, by go_num, rfl, by rw [HE.out]; exact S4.out.swap⟩
        case measure => simp [intOf]; omega
    · go_wp2
      go_ret
      exact ⟨rfl, HS.out.bel⟩
end Go.Proofs.Ytolpcjpnjicmkaa
