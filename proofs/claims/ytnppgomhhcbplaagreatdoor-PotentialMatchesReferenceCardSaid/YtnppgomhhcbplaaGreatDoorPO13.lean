/-
  Potential: Short, Few, few.
  Potential: checkDrops.
  Potential: Valid: what its rounds lean on.
  Potential: Valid.
  Potential: letters, with what it owns.
-/
import Derived.Test.YtnppgomhhcbplaaGreatDoorPO12
import Derived.Test.YtnppgomhhcbplaaGreatDoorPO10
set_option linter.unusedSimpArgs false
set_option linter.unusedVariables false
namespace Go.Proofs.YtnppgomhhcbplaaGreatDoor
open Go.RowKit Go.CH Go.CH.Scr Go.CH.Pot
open Go.ChangeMaps (setBlock)
def shortN (s : Bs) : Bool := decide (s.length ≤ 60)
def shR (R : Rule) : Bool := shortN R.f && shortN R.t
def shD (d : Drop) : Bool := shortN d.w
def shP (p : Pt) : Bool := shortN p.a
def fewT (T : Tab) (C : List Pt) : Bool := decide (T.rs.length ≤ 60) && (decide (T.ds.length ≤ 40) && (decide (T.es.length ≤ 40) && (decide (C.length ≤ 2000) && (T.rs.all shR && (T.ds.all shD && (T.es.all shD && C.all shP))))))
def fewN (T : Tab) (x y : Bs) (C : List Pt) : Bool := fewT T C && (shortN x && shortN y)
theorem short_iff {s : Bs} : shortN s = true ↔ s.length ≤ 60 := by unfold shortN; rw [decide_eq_true_eq]
theorem fewT_iff {T : Tab} {C : List Pt} : fewT T C = true ↔ (T.rs.length ≤ 60 ∧ T.ds.length ≤ 40 ∧ T.es.length ≤ 40 ∧ C.length ≤ 2000) ∧ (∀ R ∈ T.rs, shR R = true) ∧ (∀ d ∈ T.ds, shD d = true) ∧ (∀ d ∈ T.es, shD d = true) ∧ ∀ p ∈ C, shP p = true := by
  unfold fewT
  simp only [Bool.and_eq_true, decide_eq_true_eq, List.all_eq_true, and_assoc]
theorem fewN_iff {T : Tab} {x y : Bs} {C : List Pt} : fewN T x y C = true ↔ fewT T C = true ∧ x.length ≤ 60 ∧ y.length ≤ 60 := by
  unfold fewN
  rw [Bool.and_eq_true, Bool.and_eq_true, short_iff, short_iff]
/-- A table of whatever size in memory. -/
structure TabZ (w : World) (T : Tab) (a : TA) : Prop where
  rs : RulesR w a.A T.rs
  ds : DropsR w a.D T.ds
  es : DropsR w a.E T.es
theorem TabZ.below {w w' : World} {T : Tab} {a : TA} (h : TabZ w T a) (hb : Below w.heap.size w w') : TabZ w' T a := ⟨h.rs.below hb, h.ds.below hb, h.es.below hb⟩
theorem TabZ.few {w : World} {T : Tab} {a : TA} {C : List Pt} (h : TabZ w T a) (hf : fewT T C = true) : TabR w T a := by
  obtain ⟨⟨h1, h2, h3, h4⟩, g1, g2, g3, g4⟩ := fewT_iff.1 hf
  refine { rs := h.rs, ds := h.ds, es := h.es, lr := by omega, ld := by omega, le := by omega, sr := fun R hR => ?_, sd := fun d hd => ?_, se := fun d hd => ?_ }
  · have := g1 R hR
    unfold shR at this
    rw [Bool.and_eq_true, short_iff, short_iff] at this
    exact ⟨by omega, by omega⟩
  · have := short_iff.1 (g2 d hd); omega
  · have := short_iff.1 (g3 d hd); omega
theorem short_any (s : Bs) (w : World) : Calls Tryz.prog 24 #[.string (bs s)] w (fun e w' => e = .returned (.bool (shortN s)) ∧ w' = w) := by
  by_cases h : s.length ≤ 60
  · have h' : ((bs s).size : Int) ≤ 60 := by rw [bs_size]; omega
    unfold shortN
    rw [decide_eq_true h]
    go_enter Tryz.func24, Tryz.ntmps24
    go_wp2
    go_ret
    exact ⟨rfl, rfl⟩
  · have h' : ¬ ((bs s).size : Int) ≤ 60 := by rw [bs_size]; omega
    unfold shortN
    rw [decide_eq_false h]
    go_enter Tryz.func24, Tryz.ntmps24
    go_wp2
    go_ret
    exact ⟨rfl, rfl⟩
theorem all_snoc {α : Type} {p : α → Bool} {l : List α} {k : Nat} (hk : k < l.length) (h : ∀ x ∈ l.take k, p x = true) (h2 : p l[k] = true) : ∀ x ∈ l.take (k + 1), p x = true := by
  intro x hx
  rw [List.take_succ_eq_append_getElem hk] at hx
  rcases List.mem_append.1 hx with hx | hx
  · exact h x hx
  · rw [List.mem_singleton.1 hx]; exact h2
set_option maxHeartbeats 6400000 in
set_option maxRecDepth 100000 in
theorem fewT_any {w : World} {T : Tab} {a : TA} {B : Option Addr} {c : Nat} {C : List Pt} (hT : TabZ w T a) (hC : PtsR w B C) : Calls Tryz.prog 23 #[tabV T a, .slice B C.length c] w (BelowRet w (.bool (fewT T C))) := by
  obtain ⟨A, ac, D, dc, E, ec⟩ := a
  have HT := hide hT
  have HC := hide hC
  have h1 : Run (fun _ => False) w (star (CellO w.heap.size (tabC T ⟨A, ac, D, dc, E, ec⟩) 25) emp) _ := run_new (Run.begin w) emp_ok _ 25
  have HB := hide (h1.mod.below (fun _ _ h => h))
  obtain ⟨F, hF⟩ := h1.fst
  obtain ⟨n1, hn1⟩ : ∃ n, n = T.rs.length := ⟨_, rfl⟩
  obtain ⟨n2, hn2⟩ : ∃ n, n = T.ds.length := ⟨_, rfl⟩
  obtain ⟨n3, hn3⟩ : ∃ n, n = T.es.length := ⟨_, rfl⟩
  obtain ⟨n4, hn4⟩ : ∃ n, n = C.length := ⟨_, rfl⟩
  have c0 := cell_at (v := .slice A T.rs.length ac) (i := 0) hF rfl
  have c1 := cell_at (v := .slice D T.ds.length dc) (i := 1) hF rfl
  have c2 := cell_at (v := .slice E T.es.length ec) (i := 2) hF rfl
  have HN1 := hide hn1
  have HN2 := hide hn2
  have HN3 := hide hn3
  have HN4 := hide hn4
  clear hT hC h1 hF
  unfold tabV tabC
  unfold tabC at HB c0 c1 c2
  dsimp only at HB c0 c1 c2 ⊢
  rw [← hn1, ← hn2, ← hn3] at HB c0 c1 c2 ⊢
  rw [← hn4]
  clear hn1 hn2 hn3 hn4
  obtain ⟨b, hb⟩ : ∃ b, b = fewT T C := ⟨_, rfl⟩
  rw [← hb]
  have HV := hide hb
  have HNO := hide (show ¬ ((n1 ≤ 60 ∧ n2 ≤ 40 ∧ n3 ≤ 40 ∧ n4 ≤ 2000) ∧ (∀ R ∈ T.rs, shR R = true) ∧ (∀ d ∈ T.ds, shD d = true) ∧ (∀ d ∈ T.es, shD d = true) ∧ ∀ p ∈ C, shP p = true) → b = false from fun h => by
    rw [hb, Bool.eq_false_iff]
    intro h2
    rw [fewT_iff, ← HN1.out, ← HN2.out, ← HN3.out, ← HN4.out] at h2
    exact h h2)
  clear hb
  have KS := hide (fun s W => short_any s W)
  go_enter Tryz.func23, Tryz.ntmps23
  iterate 10 (first | go_values | go_guarded | go_step)
  generalize w.alloc (.cells #[.slice A n1 ac, .slice D n2 dc, .slice E n3 ec, .int .i64 T.drop, .int .i64 T.ord, .int .i64 T.ini] 25) = w1 at *
  generalize w.heap.size = gt at c0 c1 c2 ⊢
  by_cases h1 : 60 < n1
  · have h1' : (60 : Int) < (n1 : Int) := by omega
    have HF := hide (HNO.out (fun h => by omega))
    clear HNO HV KS h1
    go_wp2
    go_ret
    exact bel_bool HF.out HB.out
  have k1 := Nat.le_of_not_lt h1
  have h1' : ¬ (60 : Int) < (n1 : Int) := by omega
  clear h1
  by_cases h2 : 40 < n2
  · have h2' : (40 : Int) < (n2 : Int) := by omega
    have HF := hide (HNO.out (fun h => by omega))
    clear HNO HV KS h2 k1
    go_wp2
    go_ret
    exact bel_bool HF.out HB.out
  have k2 := Nat.le_of_not_lt h2
  have h2' : ¬ (40 : Int) < (n2 : Int) := by omega
  clear h2
  by_cases h3 : 40 < n3
  · have h3' : (40 : Int) < (n3 : Int) := by omega
    have HF := hide (HNO.out (fun h => by omega))
    clear HNO HV KS h3 k1 k2
    go_wp2
    go_ret
    exact bel_bool HF.out HB.out
  have k3 := Nat.le_of_not_lt h3
  have h3' : ¬ (40 : Int) < (n3 : Int) := by omega
  clear h3
  by_cases h4 : 2000 < n4
  · have h4' : (2000 : Int) < (n4 : Int) := by omega
    have HF := hide (HNO.out (fun h => by omega))
    clear HNO HV KS h4 k1 k2 k3
    go_wp2
    go_ret
    exact bel_bool HF.out HB.out
  have k4 := Nat.le_of_not_lt h4
  have h4' : ¬ (2000 : Int) < (n4 : Int) := by omega
  clear h4
  go_wp2_with fail
  go_loop [5] (fun i => ∃ k : Nat, k ≤ n1 ∧ i = .int .i64 k ∧ ∀ x ∈ T.rs.take k, shR x = true) (fun i => n1 - (intOf i).toNat)
  case atStart => exact ⟨0, Nat.zero_le _, rfl, by simp⟩
  case round =>
    obtain ⟨k, hk, rfl, hall⟩ := hrel
    have HA := hide hall
    clear hall
    by_cases hlt : k < n1
    · have hkn : k < T.rs.length := by rw [← HN1.out]; exact hlt
      have HLT := hide hlt
      have hkb : (k : Int) < 1000000 := by omega
      obtain ⟨bb, o, rfl, hc⟩ := RulesR.at HT.out.rs (by omega)
      obtain ⟨r0, r1, r2, r3⟩ := hc w1 HB.out k hkn
      have HST := hide (fun h => all_snoc (p := shR) hkn HA.out h)
      have HBAD := hide (show shR T.rs[k] = false → b = false from fun h => HNO.out (fun h2 => by have := h2.2.1 _ (List.getElem_mem hkn); rw [h] at this; cases this))
      clear hc
      have HSH := hide (show shR T.rs[k] = (shortN T.rs[k].f && shortN T.rs[k].t) from rfl)
      have K0 := hide (fun W => KS.out T.rs[k].f W)
      have K1 := hide (fun W => KS.out T.rs[k].t W)
      generalize T.rs[k] = z at *
      cases hs0 : shortN z.f with
      | false =>
        simp only [hs0] at K0
        go_wp2_with fail
        refine (K0.out _).mono ?_
        rintro e9 w9 ⟨rfl, rfl⟩
        clear K0
        dsimp only
        have HF := hide (HBAD.out (by rw [HSH.out, hs0]; rfl))
        go_wp2
        go_ret
        exact bel_bool HF.out HB.out
      | true =>
        simp only [hs0] at K0
        go_wp2_with fail
        refine (K0.out _).mono ?_
        rintro e9 w9 ⟨rfl, rfl⟩
        clear K0
        dsimp only
        cases hs1 : shortN z.t with
        | false =>
          simp only [hs1] at K1
          go_wp2_with fail
          refine (K1.out _).mono ?_
          rintro e9 w9 ⟨rfl, rfl⟩
          clear K1
          dsimp only
          have HF := hide (HBAD.out (by rw [HSH.out, hs0, hs1]; rfl))
          go_wp2
          go_ret
          exact bel_bool HF.out HB.out
        | true =>
          simp only [hs1] at K1
          go_wp2_with fail
          refine (K1.out _).mono ?_
          rintro e9 w9 ⟨rfl, rfl⟩
          clear K1
          dsimp only
          have HT2 := hide (HST.out (by rw [HSH.out, hs0, hs1]; rfl))
          go_wp2
          go_round
          case rel => exact ⟨k + 1, HLT.out, by go_num, HT2.out⟩
          case measure => have := HLT.out; simp [intOf]; omega
    · obtain rfl : k = n1 := by omega
      have HA1 := hide (show ∀ x ∈ T.rs, shR x = true from by have h := HA.out; rw [HN1.out, List.take_length] at h; exact h)
      clear HA hlt
      go_wp2_with fail
      go_loop [6] (fun i => ∃ k : Nat, k ≤ n2 ∧ i = .int .i64 k ∧ ∀ x ∈ T.ds.take k, shD x = true) (fun i => n2 - (intOf i).toNat)
      case atStart => exact ⟨0, Nat.zero_le _, rfl, by simp⟩
      case round =>
        obtain ⟨k, hk, rfl, hall⟩ := hrel
        have HA := hide hall
        clear hall
        by_cases hlt : k < n2
        · have hkn : k < T.ds.length := by rw [← HN2.out]; exact hlt
          have HLT := hide hlt
          have hkb : (k : Int) < 1000000 := by omega
          obtain ⟨bb, o, rfl, hc⟩ := DropsR.at HT.out.ds (by omega)
          obtain ⟨r0, r1, r2⟩ := hc w1 HB.out k hkn
          have HST := hide (fun h => all_snoc (p := shD) hkn HA.out h)
          have HBAD := hide (show shD T.ds[k] = false → b = false from fun h => HNO.out (fun h2 => by have := h2.2.2.1 _ (List.getElem_mem hkn); rw [h] at this; cases this))
          clear hc
          have HSH := hide (show shD T.ds[k] = (shortN T.ds[k].w) from rfl)
          have K0 := hide (fun W => KS.out T.ds[k].w W)
          generalize T.ds[k] = z at *
          cases hs0 : shortN z.w with
          | false =>
            simp only [hs0] at K0
            go_wp2_with fail
            refine (K0.out _).mono ?_
            rintro e9 w9 ⟨rfl, rfl⟩
            clear K0
            dsimp only
            have HF := hide (HBAD.out (by rw [HSH.out, hs0]))
            go_wp2
            go_ret
            exact bel_bool HF.out HB.out
          | true =>
            simp only [hs0] at K0
            go_wp2_with fail
            refine (K0.out _).mono ?_
            rintro e9 w9 ⟨rfl, rfl⟩
            clear K0
            dsimp only
            have HT2 := hide (HST.out (by rw [HSH.out, hs0]))
            go_wp2
            go_round
            case rel => exact ⟨k + 1, HLT.out, by go_num, HT2.out⟩
            case measure => have := HLT.out; simp [intOf]; omega
        · obtain rfl : k = n2 := by omega
          have HA2 := hide (show ∀ x ∈ T.ds, shD x = true from by have h := HA.out; rw [HN2.out, List.take_length] at h; exact h)
          clear HA hlt
          go_wp2_with fail
          go_loop [7] (fun i => ∃ k : Nat, k ≤ n3 ∧ i = .int .i64 k ∧ ∀ x ∈ T.es.take k, shD x = true) (fun i => n3 - (intOf i).toNat)
          case atStart => exact ⟨0, Nat.zero_le _, rfl, by simp⟩
          case round =>
            obtain ⟨k, hk, rfl, hall⟩ := hrel
            have HA := hide hall
            clear hall
            by_cases hlt : k < n3
            · have hkn : k < T.es.length := by rw [← HN3.out]; exact hlt
              have HLT := hide hlt
              have hkb : (k : Int) < 1000000 := by omega
              obtain ⟨bb, o, rfl, hc⟩ := DropsR.at HT.out.es (by omega)
              obtain ⟨r0, r1, r2⟩ := hc w1 HB.out k hkn
              have HST := hide (fun h => all_snoc (p := shD) hkn HA.out h)
              have HBAD := hide (show shD T.es[k] = false → b = false from fun h => HNO.out (fun h2 => by have := h2.2.2.2.1 _ (List.getElem_mem hkn); rw [h] at this; cases this))
              clear hc
              have HSH := hide (show shD T.es[k] = (shortN T.es[k].w) from rfl)
              have K0 := hide (fun W => KS.out T.es[k].w W)
              generalize T.es[k] = z at *
              cases hs0 : shortN z.w with
              | false =>
                simp only [hs0] at K0
                go_wp2_with fail
                refine (K0.out _).mono ?_
                rintro e9 w9 ⟨rfl, rfl⟩
                clear K0
                dsimp only
                have HF := hide (HBAD.out (by rw [HSH.out, hs0]))
                go_wp2
                go_ret
                exact bel_bool HF.out HB.out
              | true =>
                simp only [hs0] at K0
                go_wp2_with fail
                refine (K0.out _).mono ?_
                rintro e9 w9 ⟨rfl, rfl⟩
                clear K0
                dsimp only
                have HT2 := hide (HST.out (by rw [HSH.out, hs0]))
                go_wp2
                go_round
                case rel => exact ⟨k + 1, HLT.out, by go_num, HT2.out⟩
                case measure => have := HLT.out; simp [intOf]; omega
            · obtain rfl : k = n3 := by omega
              have HA3 := hide (show ∀ x ∈ T.es, shD x = true from by have h := HA.out; rw [HN3.out, List.take_length] at h; exact h)
              clear HA hlt
              go_wp2_with fail
              go_loop [8] (fun i => ∃ k : Nat, k ≤ n4 ∧ i = .int .i64 k ∧ ∀ x ∈ C.take k, shP x = true) (fun i => n4 - (intOf i).toNat)
              case atStart => exact ⟨0, Nat.zero_le _, rfl, by simp⟩
              case round =>
                obtain ⟨k, hk, rfl, hall⟩ := hrel
                have HA := hide hall
                clear hall
                by_cases hlt : k < n4
                · have hkn : k < C.length := by rw [← HN4.out]; exact hlt
                  have HLT := hide hlt
                  have hkb : (k : Int) < 1000000 := by omega
                  obtain ⟨bb, o, rfl, hc⟩ := PtsR.at HC.out (by omega)
                  obtain ⟨r0, r1, r2, r3, r4⟩ := hc w1 HB.out k hkn
                  have HST := hide (fun h => all_snoc (p := shP) hkn HA.out h)
                  have HBAD := hide (show shP C[k] = false → b = false from fun h => HNO.out (fun h2 => by have := h2.2.2.2.2 _ (List.getElem_mem hkn); rw [h] at this; cases this))
                  clear hc
                  have HSH := hide (show shP C[k] = (shortN C[k].a) from rfl)
                  have K0 := hide (fun W => KS.out C[k].a W)
                  generalize C[k] = z at *
                  cases hs0 : shortN z.a with
                  | false =>
                    simp only [hs0] at K0
                    go_wp2_with fail
                    refine (K0.out _).mono ?_
                    rintro e9 w9 ⟨rfl, rfl⟩
                    clear K0
                    dsimp only
                    have HF := hide (HBAD.out (by rw [HSH.out, hs0]))
                    go_wp2
                    go_ret
                    exact bel_bool HF.out HB.out
                  | true =>
                    simp only [hs0] at K0
                    go_wp2_with fail
                    refine (K0.out _).mono ?_
                    rintro e9 w9 ⟨rfl, rfl⟩
                    clear K0
                    dsimp only
                    have HT2 := hide (HST.out (by rw [HSH.out, hs0]))
                    go_wp2
                    go_round
                    case rel => exact ⟨k + 1, HLT.out, by go_num, HT2.out⟩
                    case measure => have := HLT.out; simp [intOf]; omega
                · obtain rfl : k = n4 := by omega
                  have HA4 := hide (show ∀ x ∈ C, shP x = true from by have h := HA.out; rw [HN4.out, List.take_length] at h; exact h)
                  clear HA hlt
                  have HF := hide (show b = true from by rw [HV.out, fewT_iff, ← HN1.out, ← HN2.out, ← HN3.out, ← HN4.out]; exact ⟨⟨by omega, by omega, by omega, by omega⟩, HA1.out, HA2.out, HA3.out, HA4.out⟩)
                  go_wp2
                  go_ret
                  exact bel_bool HF.out HB.out
set_option maxHeartbeats 3200000 in
theorem few_any {w : World} {T : Tab} {a : TA} {B : Option Addr} {c : Nat} {C : List Pt} (hT : TabZ w T a) (hC : PtsR w B C) (x y : Bs) : Calls Tryz.prog 13 #[tabV T a, .string (bs x), .string (bs y), .slice B C.length c] w (BelowRet w (.bool (fewN T x y C))) := by
  have h1 : Run (fun _ => False) w (star (CellO w.heap.size (tabC T a) 25) emp) _ := run_new (Run.begin w) emp_ok _ 25
  have HB := hide (h1.mod.below (fun _ _ h => h))
  have KF := hide (fewT_any (c := c) (hT.below HB.out) (Rst.below hC HB.out))
  have KS := hide (fun s W => short_any s W)
  have hv : fewN T x y C = (fewT T C && (shortN x && shortN y)) := rfl
  rw [hv]
  clear hT hC h1 hv
  unfold tabV at KF ⊢
  unfold tabC at KF HB ⊢
  generalize hn : C.length = n at *
  clear hn
  cases hf : fewT T C with
  | false =>
    simp only [hf] at KF
    clear hf
    go_enter Tryz.func13, Tryz.ntmps13
    go_wp2_with fail
    refine KF.out.mono ?_
    rintro e9 w9 ⟨rfl, hb⟩
    have HB2 := hide (HB.out.trans (hb.mono HB.out.size))
    clear KF hb
    dsimp only
    go_wp2
    go_ret
    exact bel_bool rfl HB2.out
  | true =>
    simp only [hf] at KF
    clear hf
    have K1 := hide (fun W => KS.out x W)
    have K2 := hide (fun W => KS.out y W)
    clear KS
    cases hx : shortN x with
    | false =>
      simp only [hx] at K1
      clear hx
      go_enter Tryz.func13, Tryz.ntmps13
      go_wp2_with fail
      refine KF.out.mono ?_
      rintro e9 w9 ⟨rfl, hb⟩
      have HB2 := hide (HB.out.trans (hb.mono HB.out.size))
      clear KF hb
      dsimp only
      go_wp2_with fail
      refine (K1.out _).mono ?_
      rintro e9 w8 ⟨rfl, rfl⟩
      dsimp only
      go_wp2
      go_ret
      exact bel_bool rfl HB2.out
    | true =>
      simp only [hx] at K1
      clear hx
      go_enter Tryz.func13, Tryz.ntmps13
      go_wp2_with fail
      refine KF.out.mono ?_
      rintro e9 w9 ⟨rfl, hb⟩
      have HB2 := hide (HB.out.trans (hb.mono HB.out.size))
      clear KF hb
      dsimp only
      go_wp2_with fail
      refine (K1.out _).mono ?_
      rintro e9 w8 ⟨rfl, rfl⟩
      dsimp only
      go_wp2_with fail
      refine (K2.out _).mono ?_
      rintro e9 w7 ⟨rfl, rfl⟩
      dsimp only
      generalize shortN y = sy at *
      go_wp2
      go_ret
      exact bel_bool rfl HB2.out
end Go.Proofs.YtnppgomhhcbplaaGreatDoor
namespace Go.Proofs.YtnppgomhhcbplaaGreatDoor
open Go.RowKit Go.CH Go.CH.Scr Go.CH.Pot
open Go.ChangeMaps (setBlock)
theorem drops_no {most : Nat} {l : List Drop} {k : Nat} (hk : k < l.length) (h : keyD l[k] ∈ (l.take k).map keyD ∨ dropN most l[k] = false) : dropsN most l = false := by
  rw [Bool.eq_false_iff]
  intro h2
  unfold dropsN at h2
  simp only [Bool.and_eq_true, decide_eq_true_eq] at h2
  rcases h with h | h
  · obtain ⟨x, hx, e⟩ := List.mem_map.1 h
    obtain ⟨j, hj, rfl⟩ := List.mem_iff_getElem.1 hx
    have hj' : j < k := by rw [List.length_take] at hj; omega
    have h3 := List.pairwise_iff_getElem.1 h2.1 j k (by rw [List.length_map]; omega) (by rw [List.length_map]; omega) hj'
    rw [List.getElem_map, List.getElem_map] at h3
    rw [List.getElem_take] at e
    exact h3 e
  · have := List.all_eq_true.1 h2.2.1 l[k] (List.getElem_mem hk)
    rw [h] at this; cases this
theorem drops_end {most : Nat} {l : List Drop} (h1 : (l.map keyD).Nodup) (h2 : ∀ d ∈ l, dropN most d = true) : dropsN most l = decide (l.length ≤ 40) := by
  unfold dropsN
  rw [decide_eq_true h1, List.all_eq_true.2 h2]
  simp
theorem keys_step {l : List Drop} {k : Nat} (hk : k < l.length) (h1 : ((l.take k).map keyD).Nodup) (h2 : keyD l[k] ∉ (l.take k).map keyD) : ((l.take (k + 1)).map keyD) = (l.take k).map keyD ++ [keyD l[k]] ∧ ((l.take (k + 1)).map keyD).Nodup := by
  have e : ((l.take (k + 1)).map keyD) = (l.take k).map keyD ++ [keyD l[k]] := by rw [List.take_succ_eq_append_getElem hk, List.map_append]; rfl
  refine ⟨e, ?_⟩
  rw [e, List.nodup_append]
  refine ⟨h1, by simp, fun a ha b hb e => ?_⟩
  rw [List.mem_singleton.1 hb] at e
  exact h2 (e ▸ ha)
theorem all_step {most : Nat} {l : List Drop} {k : Nat} (hk : k < l.length) (h1 : ∀ d ∈ l.take k, dropN most d = true) (h2 : dropN most l[k] = true) : ∀ d ∈ l.take (k + 1), dropN most d = true := by
  intro d hd
  rw [List.take_succ_eq_append_getElem hk] at hd
  rcases List.mem_append.1 hd with hd | hd
  · exact h1 d hd
  · rw [List.mem_singleton.1 hd]; exact h2
set_option maxHeartbeats 3200000 in
set_option maxRecDepth 100000 in
theorem checkDrops_any {w : World} {A : Option Addr} {c : Nat} {l : List Drop} {most : Nat} (hA : DropsR w A l) (hl : l.length ≤ 1000000) (hs : ∀ d ∈ l, d.w.length ≤ 1000000) (hz : LZ w) :
    Calls Tryz.prog 76 #[.slice A l.length c, .int .i64 (most : Int)] w (BelowRet w (.bool (dropsN most l))) := by
  have HA := hide hA
  have HZ := hide hz
  have HS := hide hs
  obtain ⟨N, hN⟩ : ∃ N, N = l.length := ⟨_, rfl⟩
  have HN := hide hN
  rw [← hN] at hl ⊢
  have h0 := (Run.begin w).fresh emp_ok (map_new (kv := keyV) w)
  have H0 := hide (show Run (fun _ => False) w (star (SetO w.heap.size ((l.take 0).map keyD)) emp) (w.alloc (.map #[] 0)) from h0)
  have hmk : ∀ w : World, (Instr.makeMap 140 none).run Tryz.prog w = .ok (.map (some w.heap.size)) (w.alloc (.map #[] 0)) := fun w => by kernel_rfl
  clear hA hz hs hN h0
  go_enter Tryz.func76, Tryz.ntmps76
  go_wp2
  clear hmk
  generalize w.alloc (.map #[] 0) = w1 at *
  generalize w.heap.size = bm at *
  go_loopw [12] (fun i wr => ∃ k : Nat, k ≤ N ∧ i = .int .i64 k ∧ (∀ d ∈ l.take k, dropN most d = true) ∧ ((l.take k).map keyD).Nodup ∧ Run (fun _ => False) w (star (SetO bm ((l.take k).map keyD)) emp) wr) (fun i _ => N - (intOf i).toNat)
  case atStart => exact ⟨0, Nat.zero_le _, rfl, by simp, by simp, H0.out⟩
  case round =>
    clear H0
    obtain ⟨k, hk, rfl, ha, hnd, hR⟩ := hrel
    have HAL := hide ha
    have HND := hide hnd
    have HR := hide hR
    clear ha hnd hR
    by_cases hlt : k < N
    · have hkn : k < l.length := by rw [← HN.out]; exact hlt
      have HK1 := hide (show k + 1 ≤ N from hlt)
      have hkb : (k : Int) < 1000000 := by omega
      obtain ⟨b, o, rfl, hc⟩ := HA.out.at (by omega)
      obtain ⟨r0, r1, r2⟩ := hc wr (HR.out.mod.below (fun _ _ h => h)) k hkn
      have hwl := HS.out _ (List.getElem_mem hkn)
      clear hc
      have h2 := run_new HR.out (star_ok set_ok emp_ok) #[.int .i64 l[k].k, .string (bs l[k].w), .int .i64 l[k].c] 109
      have h3 := run_new h2 (star_ok cell_ok (star_ok set_ok emp_ok)) #[.int .i64 l[k].k, .string (bs l[k].w), .string ⟨#[]⟩] 142
      rw [World.size_alloc] at h3
      obtain ⟨FS, hFS⟩ := h3.drop.drop.fst
      have hlk := set_get hFS (keyD l[k])
      have hlk2 : (Instr.lookup 140 (.map (some bm)) (.agg #[.int .i64 l[k].k, .string (bs l[k].w), .string ⟨#[]⟩]) false).run Tryz.prog ((wr.alloc (.cells #[.int .i64 l[k].k, .string (bs l[k].w), .int .i64 l[k].c] 109)).alloc (.cells #[.int .i64 l[k].k, .string (bs l[k].w), .string ⟨#[]⟩] 142)) = .ok (.bool (decide (keyD l[k] ∈ (l.take k).map keyD))) _ := hlk
      have HNO := hide (fun h => drops_no (most := most) hkn h)
      have HST := hide (fun h => keys_step hkn HND.out h)
      have HAS := hide (fun h => all_step (most := most) hkn HAL.out h)
      have H3 := hide h3
      clear hlk h2 h3 hFS HR
      by_cases hin : keyD l[k] ∈ (l.take k).map keyD
      · rw [decide_eq_true hin] at hlk2
        have HF := hide (HNO.out (.inl hin))
        clear hin HNO HST HAS
        generalize l[k] = d at *
        have HB := hide (H3.out.mod.below (fun _ _ h => h))
        go_wp2
        go_ret
        exact bel_bool HF.out HB.out
      · rw [decide_eq_false hin] at hlk2
        have HKS := hide (HST.out hin)
        have HKN := hide hin
        have KF := hide (fun W (hz : LZ W) => folded_any l[k].k (bs l[k].w) most W (by rw [bs_size]; exact hwl) hz)
        clear hin HST
        simp only [bl_bs] at KF
        have KF2 := hide (KF.out _ (HZ.out.below (H3.out.mod.below (fun _ _ h => h))))
        have KC := hide (fun W => isCost_any l[k].c W)
        have okA : (star (CellO (wr.heap.size + 1) #[.int .i64 l[k].k, .string (bs l[k].w), .string ⟨#[]⟩] 142) (star (CellO wr.heap.size #[.int .i64 l[k].k, .string (bs l[k].w), .int .i64 l[k].c] 109) (star (SetO bm ((l.take k).map keyD)) emp))).Ok := star_ok cell_ok (star_ok cell_ok (star_ok set_ok emp_ok))
        have OKA := hide okA
        have hdn : dropN most l[k] = (foldedN l[k].k l[k].w most && costN l[k].c) := rfl
        have HDN := hide hdn
        have hky : keyD l[k] = (l[k].k, l[k].w, []) := rfl
        have HKY := hide hky
        clear KF okA hdn hky
        go_wp2_with fail
        refine KF2.out.mono ?_
        rintro e9 w3 ⟨rfl, hb⟩
        have H4 := hide (H3.out.below OKA.out hb)
        clear KF2 H3 hb hlk2 r0 r1 r2
        generalize wr.heap.size + 1 = g2 at *
        generalize wr.heap.size = g1 at *
        obtain ⟨F1, hF1⟩ := H4.out.fst
        obtain ⟨F2, hF2⟩ := H4.out.drop.fst
        have y0 := cell_at (i := 0) hF1 rfl
        have y1 := cell_at (i := 1) hF1 rfl
        have y2 := cell_at (i := 2) hF1 rfl
        have x2 := cell_at (i := 2) hF2 rfl
        clear hF1 hF2
        dsimp only
        cases hfo : foldedN l[k].k l[k].w most with
        | false =>
          have HF := hide (HNO.out (.inr (by rw [HDN.out, hfo]; rfl)))
          have HB := hide (H4.out.mod.below (fun _ _ h => h))
          clear hfo
          go_wp2
          go_ret
          exact bel_bool HF.out HB.out
        | true =>
          cases hco : costN l[k].c with
          | false =>
            have HF := hide (HNO.out (.inr (by rw [HDN.out, hfo, hco]; rfl)))
            rw [hco] at KC
            clear hfo hco
            go_wp2_with fail
            refine (KC.out _).mono ?_
            rintro e9 w4 ⟨rfl, hb⟩
            have H5 := hide (H4.out.below OKA.out hb)
            have HB := hide (H5.out.mod.below (fun _ _ h => h))
            clear KC H4 hb
            dsimp only
            go_wp2
            go_ret
            exact bel_bool HF.out HB.out
          | true =>
            have HA2 := hide (HAS.out (by rw [HDN.out, hfo, hco]; rfl))
            rw [hco] at KC
            clear hfo hco
            go_wp2_with fail
            refine (KC.out _).mono ?_
            rintro e9 w4 ⟨rfl, hb⟩
            have H5 := hide (H4.out.below OKA.out hb)
            clear KC H4 hb y0 y1 y2 x2
            dsimp only
            obtain ⟨F1, hF1⟩ := H5.out.fst
            have y0 := cell_at (i := 0) hF1 rfl
            have y1 := cell_at (i := 1) hF1 rfl
            have y2 := cell_at (i := 2) hF1 rfl
            obtain ⟨FM, hFM, -, bk⟩ := (H5.out.drop.drop).take set_ok emp_ok
            obtain ⟨w5, hup, hpost⟩ := set_put hFM HKN.out
            have h6 := bk _ _ hpost
            rw [← HKS.out.1] at h6
            have H6 := hide h6
            rw [HKY.out] at hup
            have hup2 : (Instr.mapUpdate 140 (.map (some bm)) (.agg #[.int .i64 l[k].k, .string (bs l[k].w), .string ⟨#[]⟩]) (.bool true)).run Tryz.prog w4 = .ok () w5 := hup
            clear hF1 hFM bk hup hpost h6
            go_wp2
            go_roundw
            case rel => exact ⟨k + 1, HK1.out, by go_num, HA2.out, HKS.out.2, H6.out⟩
            case measure => have := HK1.out; simp [intOf]; omega
    · obtain rfl : k = N := by omega
      have HF := hide (drops_end (most := most) (l := l) (by have := HND.out; rw [HN.out, List.take_length] at this; exact this) (by have := HAL.out; rw [HN.out, List.take_length] at this; exact this))
      rw [← HN.out] at HF
      have HB := hide (HR.out.mod.below (fun _ _ h => h))
      clear HND HAL
      by_cases h40 : k ≤ 40
      · have h40' : (k : Int) ≤ 40 := by omega
        rw [decide_eq_true h40] at HF
        go_wp2
        go_ret
        exact bel_bool HF.out HB.out
      · have h40' : ¬ (k : Int) ≤ 40 := by omega
        rw [decide_eq_false h40] at HF
        go_wp2
        go_ret
        exact bel_bool HF.out HB.out
end Go.Proofs.YtnppgomhhcbplaaGreatDoor
namespace Go.Proofs.YtnppgomhhcbplaaGreatDoor
open Go.RowKit Go.CH Go.CH.Scr Go.CH.Pot
theorem rules_no {l : List Rule} {k : Nat} (hk : k < l.length) (h : keyR l[k] ∈ (l.take k).map keyR ∨ ruleN l[k] = false) : rulesN l = false := by
  rw [Bool.eq_false_iff]
  intro h2
  obtain ⟨h3, h4⟩ := rulesN_iff.1 h2
  rcases h with h | h
  · obtain ⟨x, hx, e⟩ := List.mem_map.1 h
    obtain ⟨j, hj, rfl⟩ := List.mem_iff_getElem.1 hx
    have hj' : j < k := by rw [List.length_take] at hj; omega
    have h5 := List.pairwise_iff_getElem.1 h3 j k (by rw [List.length_map]; omega) (by rw [List.length_map]; omega) hj'
    rw [List.getElem_map, List.getElem_map] at h5
    rw [List.getElem_take] at e
    exact h5 e
  · have := h4 l[k] (List.getElem_mem hk)
    rw [h] at this; cases this
theorem rkeys_step {l : List Rule} {k : Nat} (hk : k < l.length) (h1 : ((l.take k).map keyR).Nodup) (h2 : keyR l[k] ∉ (l.take k).map keyR) : ((l.take (k + 1)).map keyR) = (l.take k).map keyR ++ [keyR l[k]] ∧ ((l.take (k + 1)).map keyR).Nodup := by
  have e : ((l.take (k + 1)).map keyR) = (l.take k).map keyR ++ [keyR l[k]] := by rw [List.take_succ_eq_append_getElem hk, List.map_append]; rfl
  refine ⟨e, ?_⟩
  rw [e, List.nodup_append]
  refine ⟨h1, by simp, fun a ha b hb e => ?_⟩
  rw [List.mem_singleton.1 hb] at e
  exact h2 (e ▸ ha)
theorem rall_step {l : List Rule} {k : Nat} (hk : k < l.length) (h1 : ∀ d ∈ l.take k, ruleN d = true) (h2 : ruleN l[k] = true) : ∀ d ∈ l.take (k + 1), ruleN d = true := by
  intro d hd
  rw [List.take_succ_eq_append_getElem hk] at hd
  rcases List.mem_append.1 hd with hd | hd
  · exact h1 d hd
  · rw [List.mem_singleton.1 hd]; exact h2
/-- The head of Valid fails. -/
theorem valid_head {T : Tab} (h : T.rs = [] ∨ 80 < T.rs.length ∨ costN T.drop = false ∨ costN T.ord = false ∨ costN T.ini = false) : validT T = false := by
  rw [Bool.eq_false_iff]
  intro h2
  obtain ⟨⟨g1, g2, g3, g4, g5⟩, -⟩ := validT_iff.1 h2
  rcases h with h | h | h | h | h
  · exact g1 h
  · omega
  · rw [h] at g3; cases g3
  · rw [h] at g4; cases g4
  · rw [h] at g5; cases g5
theorem valid_rules {T : Tab} (h : rulesN T.rs = false) : validT T = false := by
  rw [Bool.eq_false_iff]
  intro h2
  have := (validT_iff.1 h2).2.1
  rw [h] at this; cases this
theorem valid_tail {T : Tab} (h : T.rs ≠ [] ∧ T.rs.length ≤ 80 ∧ costN T.drop = true ∧ costN T.ord = true ∧ costN T.ini = true) (h2 : rulesN T.rs = true) : validT T = (dropsN 12 T.ds && dropsN 4 T.es) := by
  rw [Bool.eq_iff_iff, validT_iff, Bool.and_eq_true]
  exact ⟨fun g => g.2.2, fun g => ⟨h, h2, g⟩⟩
end Go.Proofs.YtnppgomhhcbplaaGreatDoor
namespace Go.Proofs.YtnppgomhhcbplaaGreatDoor
open Go.RowKit Go.CH Go.CH.Scr Go.CH.Pot
open Go.ChangeMaps (setBlock)
set_option maxHeartbeats 6400000 in
set_option maxRecDepth 100000 in
theorem tvalid_any {w : World} {T : Tab} {a : TA} (hT : TabR w T a) (hz : LZ w) : Calls Tryz.prog 46 #[tabV T a] w (BelowRet w (.bool (validT T))) := by
  obtain ⟨A, ac, D, dc, E, ec⟩ := a
  have HT := hide hT
  have HZ := hide hz
  have HC := hide (fun n W => isCost_any n W)
  have h1 : Run (fun _ => False) w (star (CellO w.heap.size (tabC T ⟨A, ac, D, dc, E, ec⟩) 25) emp) _ := run_new (Run.begin w) emp_ok (tabC T ⟨A, ac, D, dc, E, ec⟩) 25
  have H1 := hide h1
  obtain ⟨N, hN⟩ : ∃ N, N = T.rs.length := ⟨_, rfl⟩
  have HN := hide hN
  unfold tabV tabC
  dsimp only
  unfold tabC at H1
  dsimp only at H1
  rw [← hN] at H1 ⊢
  clear hT hz h1 hN
  go_enter Tryz.func46, Tryz.ntmps46
  iterate 12 (first | go_values | go_guarded | go_step)
  have hcells : ∀ W, Run (fun _ => False) w (star (CellO w.heap.size #[.slice A N ac, .slice D T.ds.length dc, .slice E T.es.length ec, .int .i64 T.drop, .int .i64 T.ord, .int .i64 T.ini] 25) emp) W →
      W.cell? ⟨w.heap.size, 0, none⟩ = some (.slice A N ac) ∧ W.cell? ⟨w.heap.size, 1, none⟩ = some (.slice D T.ds.length dc) ∧ W.cell? ⟨w.heap.size, 2, none⟩ = some (.slice E T.es.length ec) ∧ W.cell? ⟨w.heap.size, 3, none⟩ = some (.int .i64 T.drop) ∧ W.cell? ⟨w.heap.size, 4, none⟩ = some (.int .i64 T.ord) ∧ W.cell? ⟨w.heap.size, 5, none⟩ = some (.int .i64 T.ini) := fun W h => by
    obtain ⟨F, hF⟩ := h.fst
    exact ⟨cell_at hF rfl, cell_at hF rfl, cell_at hF rfl, cell_at hF rfl, cell_at hF rfl, cell_at hF rfl⟩
  have HCE := hide hcells
  clear hcells
  generalize w.alloc (.cells #[.slice A N ac, .slice D T.ds.length dc, .slice E T.es.length ec, .int .i64 T.drop, .int .i64 T.ord, .int .i64 T.ini] 25) = w1 at *
  obtain ⟨c0, c1, c2, c3, c4, c5⟩ := HCE.out _ H1.out
  have HB := hide (H1.out.mod.below (fun _ _ h => h))
  by_cases hn0 : N = 0
  · have t1 : ((N : Int) == 0) = true := by simp [hn0]
    have HF := hide (valid_head (T := T) (.inl (by rw [← List.length_eq_zero_iff, ← HN.out]; exact hn0)))
    clear hn0
    go_wp2
    go_ret
    exact bel_bool HF.out HB.out
  · have t1 : ((N : Int) == 0) = false := by simp [hn0]
    by_cases h80 : 80 < N
    · have t2 : (80 : Int) < (N : Int) := by omega
      have HF := hide (valid_head (T := T) (.inr (.inl (by rw [← HN.out]; exact h80))))
      clear hn0 h80
      go_wp2
      go_ret
      exact bel_bool HF.out HB.out
    · have t2 : ¬ (80 : Int) < (N : Int) := by omega
      have K1 := hide (HC.out T.drop)
      have K2 := hide (HC.out T.ord)
      have K3 := hide (HC.out T.ini)
      have HNE := hide (show T.rs ≠ [] ∧ T.rs.length ≤ 80 from ⟨by rw [ne_eq, ← List.length_eq_zero_iff, ← HN.out]; exact hn0, by rw [← HN.out]; omega⟩)
      clear HC hn0
      cases h3 : costN T.drop with
      | false =>
        have HF := hide (valid_head (T := T) (.inr (.inr (.inl h3))))
        simp only [h3] at K1
        clear h3
        go_wp2_with fail
        refine (K1.out _).mono ?_
        rintro e9 w2 ⟨rfl, hb⟩
        have HB2 := hide (bel_trans HB.out hb)
        clear K1 K2 K3 hb
        dsimp only
        go_wp2
        go_ret
        exact bel_bool HF.out HB2.out
      | true =>
        simp only [h3] at K1
        go_wp2_with fail
        refine (K1.out _).mono ?_
        rintro e9 w2 ⟨rfl, hb⟩
        have H2 := hide (H1.out.below (star_ok cell_ok emp_ok) hb)
        have HB2 := hide (bel_trans HB.out hb)
        clear K1 hb c0 c1 c2 c3 c4 c5 H1 HB
        obtain ⟨c0, c1, c2, c3, c4, c5⟩ := HCE.out _ H2.out
        dsimp only
        cases h4 : costN T.ord with
        | false =>
          have HF := hide (valid_head (T := T) (.inr (.inr (.inr (.inl h4)))))
          simp only [h4] at K2
          clear h3 h4
          go_wp2_with fail
          refine (K2.out _).mono ?_
          rintro e9 w3 ⟨rfl, hb⟩
          have HB3 := hide (bel_trans HB2.out hb)
          clear K2 K3 hb
          dsimp only
          go_wp2
          go_ret
          exact bel_bool HF.out HB3.out
        | true =>
          simp only [h4] at K2
          go_wp2_with fail
          refine (K2.out _).mono ?_
          rintro e9 w3 ⟨rfl, hb⟩
          have H3 := hide (H2.out.below (star_ok cell_ok emp_ok) hb)
          have HB3 := hide (bel_trans HB2.out hb)
          clear K2 hb c0 c1 c2 c3 c4 c5 H2 HB2
          obtain ⟨c0, c1, c2, c3, c4, c5⟩ := HCE.out _ H3.out
          dsimp only
          cases h5 : costN T.ini with
          | false =>
            have HF := hide (valid_head (T := T) (.inr (.inr (.inr (.inr h5)))))
            simp only [h5] at K3
            clear h3 h4 h5
            go_wp2_with fail
            refine (K3.out _).mono ?_
            rintro e9 w4 ⟨rfl, hb⟩
            have HB4 := hide (bel_trans HB3.out hb)
            clear K3 hb
            dsimp only
            go_wp2
            go_ret
            exact bel_bool HF.out HB4.out
          | true =>
            have HHD := hide (show T.rs ≠ [] ∧ T.rs.length ≤ 80 ∧ costN T.drop = true ∧ costN T.ord = true ∧ costN T.ini = true from ⟨HNE.out.1, HNE.out.2, h3, h4, h5⟩)
            simp only [h5] at K3
            clear h3 h4 h5
            go_wp2_with fail
            refine (K3.out _).mono ?_
            rintro e9 w4 ⟨rfl, hb⟩
            have H4 := hide (H3.out.below (star_ok cell_ok emp_ok) hb)
            have HB4 := hide (bel_trans HB3.out hb)
            clear K3 hb c0 c1 c2 c3 c4 c5 H3 HB3
            obtain ⟨c0, c1, c2, c3, c4, c5⟩ := HCE.out _ H4.out
            dsimp only
            have hmk : ∀ w : World, (Instr.makeMap 140 none).run Tryz.prog w = .ok (.map (some w.heap.size)) (w.alloc (.map #[] 0)) := fun w => by kernel_rfl
            have H5 := hide (show Run (fun _ => False) w (star (SetO w4.heap.size ((T.rs.take 0).map keyR)) _) (w4.alloc (.map #[] 0)) from H4.out.fresh (star_ok cell_ok emp_ok) (map_new (kv := keyV) w4))
            have hbx : ∀ W O, Run (fun _ => False) w (star O (star (CellO w.heap.size #[.slice A N ac, .slice D T.ds.length dc, .slice E T.es.length ec, .int .i64 T.drop, .int .i64 T.ord, .int .i64 T.ini] 25) emp)) W → W.cell? ⟨w.heap.size, 0, none⟩ = some (.slice A N ac) := fun W O h => (HCE.out _ h.drop).1
            have hc0 := hbx _ _ H5.out
            clear hbx c0 c1 c2 c3 c4 c5 H4 HB4
            go_wp2
            clear hmk hc0
            generalize w4.alloc (.map #[] 0) = w5 at *
            generalize w4.heap.size = bm at *
            generalize w.heap.size = gt at *
            have HB0 := hide (show ∀ wr O, Run (fun _ => False) w O wr → Below w.heap.size w wr from fun wr O h => h.mod.below (fun _ _ h => h))
            go_loopw [39] (fun i wr => ∃ k : Nat, k ≤ N ∧ i = .int .i64 k ∧ (∀ d ∈ T.rs.take k, ruleN d = true) ∧ ((T.rs.take k).map keyR).Nodup ∧ Run (fun _ => False) w (star (SetO bm ((T.rs.take k).map keyR)) (star (CellO gt #[.slice A N ac, .slice D T.ds.length dc, .slice E T.es.length ec, .int .i64 T.drop, .int .i64 T.ord, .int .i64 T.ini] 25) emp)) wr) (fun i _ => N - (intOf i).toNat)
            case atStart => exact ⟨0, Nat.zero_le _, rfl, by simp, by simp, H5.out⟩
            case round =>
              clear H5 HB0
              obtain ⟨k, hk, rfl, ha, hnd, hR⟩ := hrel
              have HAL := hide ha
              have HND := hide hnd
              have HR := hide hR
              clear ha hnd hR
              by_cases hlt : k < N
              · have hkn : k < T.rs.length := by rw [← HN.out]; exact hlt
                have HK1 := hide (show k + 1 ≤ N from hlt)
                have hkb : (k : Int) < 1000000 := by have := HNE.out.2; omega
                obtain ⟨b, o, rfl, hc⟩ := RulesR.at HT.out.rs (by omega)
                obtain ⟨r0, r1, r2, r3⟩ := hc wr (HR.out.mod.below (fun _ _ h => h)) k hkn
                have hsr := HT.out.sr _ (List.getElem_mem hkn)
                clear hc
                have okB : (star (SetO bm ((T.rs.take k).map keyR)) (star (CellO gt #[.slice (some ⟨b, o, none⟩) N ac, .slice D T.ds.length dc, .slice E T.es.length ec, .int .i64 T.drop, .int .i64 T.ord, .int .i64 T.ini] 25) emp)).Ok := star_ok set_ok (star_ok cell_ok emp_ok)
                have h2 := run_new HR.out okB #[.int .i64 T.rs[k].k, .string (bs T.rs[k].f), .string (bs T.rs[k].t), .int .i64 T.rs[k].c] 41
                have h3 := run_new h2 (star_ok cell_ok okB) #[.int .i64 T.rs[k].k, .string (bs T.rs[k].f), .string (bs T.rs[k].t)] 142
                rw [World.size_alloc] at h3
                obtain ⟨FS, hFS⟩ := h3.drop.drop.fst
                have hlk := set_get hFS (keyR T.rs[k])
                have hlk2 : (Instr.lookup 140 (.map (some bm)) (.agg #[.int .i64 T.rs[k].k, .string (bs T.rs[k].f), .string (bs T.rs[k].t)]) false).run Tryz.prog ((wr.alloc (.cells #[.int .i64 T.rs[k].k, .string (bs T.rs[k].f), .string (bs T.rs[k].t), .int .i64 T.rs[k].c] 41)).alloc (.cells #[.int .i64 T.rs[k].k, .string (bs T.rs[k].f), .string (bs T.rs[k].t)] 142)) = .ok (.bool (decide (keyR T.rs[k] ∈ (T.rs.take k).map keyR))) _ := hlk
                have HNO := hide (fun h => valid_rules (rules_no hkn h))
                have HST := hide (fun h => rkeys_step hkn HND.out h)
                have HAS := hide (fun h => rall_step hkn HAL.out h)
                have H3 := hide h3
                clear hlk h2 h3 hFS HR
                by_cases hin : keyR T.rs[k] ∈ (T.rs.take k).map keyR
                · rw [decide_eq_true hin] at hlk2
                  have HF := hide (HNO.out (.inl hin))
                  clear hin HNO HST HAS
                  generalize T.rs[k] = d at *
                  have HB := hide (H3.out.mod.below (fun _ _ h => h))
                  go_wp2
                  go_ret
                  exact bel_bool HF.out HB.out
                · rw [decide_eq_false hin] at hlk2
                  have HKS := hide (HST.out hin)
                  have HKN := hide hin
                  have KF := hide (fun W (hz : LZ W) => folded_any T.rs[k].k (bs T.rs[k].f) 3 W (by rw [bs_size]; exact hsr.1) hz)
                  have KG := hide (fun W => isForm_any (bs T.rs[k].t) W (by rw [bs_size]; exact hsr.2))
                  clear hin HST
                  simp only [bl_bs] at KF KG
                  have KF2 := hide (KF.out _ (HZ.out.below (H3.out.mod.below (fun _ _ h => h))))
                  have KC := hide (fun W => isCost_any T.rs[k].c W)
                  have okA : (star (CellO (wr.heap.size + 1) #[.int .i64 T.rs[k].k, .string (bs T.rs[k].f), .string (bs T.rs[k].t)] 142) (star (CellO wr.heap.size #[.int .i64 T.rs[k].k, .string (bs T.rs[k].f), .string (bs T.rs[k].t), .int .i64 T.rs[k].c] 41) (star (SetO bm ((T.rs.take k).map keyR)) (star (CellO gt #[.slice (some ⟨b, o, none⟩) N ac, .slice D T.ds.length dc, .slice E T.es.length ec, .int .i64 T.drop, .int .i64 T.ord, .int .i64 T.ini] 25) emp)))).Ok := star_ok cell_ok (star_ok cell_ok okB)
                  have OKA := hide okA
                  have OKB := hide okB
                  have HDN := hide (show ruleN T.rs[k] = (foldedN T.rs[k].k T.rs[k].f 3 && (formN T.rs[k].t && costN T.rs[k].c)) from rfl)
                  have HKY := hide (show keyR T.rs[k] = (T.rs[k].k, T.rs[k].f, T.rs[k].t) from rfl)
                  clear KF okA okB
                  go_wp2_with fail
                  refine KF2.out.mono ?_
                  rintro e9 w6 ⟨rfl, hb⟩
                  have H4 := hide (H3.out.below OKA.out hb)
                  clear KF2 H3 hb hlk2 r0 r1 r2 r3
                  generalize wr.heap.size + 1 = g2 at *
                  generalize wr.heap.size = g1 at *
                  obtain ⟨F1, hF1⟩ := H4.out.fst
                  have y0 := cell_at (i := 0) hF1 rfl
                  have y1 := cell_at (i := 1) hF1 rfl
                  have y2 := cell_at (i := 2) hF1 rfl
                  obtain ⟨F2, hF2⟩ := H4.out.drop.fst
                  have x0 := cell_at (i := 0) hF2 rfl
                  have x1 := cell_at (i := 1) hF2 rfl
                  have x2 := cell_at (i := 2) hF2 rfl
                  have x3 := cell_at (i := 3) hF2 rfl
                  clear hF1 hF2
                  dsimp only
                  cases hfo : foldedN T.rs[k].k T.rs[k].f 3 with
                  | false =>
                    have HF := hide (HNO.out (.inr (by rw [HDN.out, hfo]; rfl)))
                    have HB := hide (H4.out.mod.below (fun _ _ h => h))
                    clear hfo
                    go_wp2
                    go_ret
                    exact bel_bool HF.out HB.out
                  | true =>
                    cases hfm : formN T.rs[k].t with
                    | false =>
                      have HF := hide (HNO.out (.inr (by rw [HDN.out, hfo, hfm]; rfl)))
                      simp only [hfm] at KG
                      clear hfo hfm
                      go_wp2_with fail
                      refine (KG.out _).mono ?_
                      rintro e9 w7 ⟨rfl, hb⟩
                      have H5 := hide (H4.out.below OKA.out hb)
                      have HB := hide (H5.out.mod.below (fun _ _ h => h))
                      clear KG H4 hb
                      dsimp only
                      go_wp2
                      go_ret
                      exact bel_bool HF.out HB.out
                    | true =>
                      simp only [hfm] at KG
                      go_wp2_with fail
                      refine (KG.out _).mono ?_
                      rintro e9 w7 ⟨rfl, hb⟩
                      have H5 := hide (H4.out.below OKA.out hb)
                      clear KG H4 hb y0 y1 y2 x0 x1 x2 x3
                      obtain ⟨F1, hF1⟩ := H5.out.fst
                      have y0 := cell_at (i := 0) hF1 rfl
                      have y1 := cell_at (i := 1) hF1 rfl
                      have y2 := cell_at (i := 2) hF1 rfl
                      obtain ⟨F2, hF2⟩ := H5.out.drop.fst
                      have x0 := cell_at (i := 0) hF2 rfl
                      have x1 := cell_at (i := 1) hF2 rfl
                      have x2 := cell_at (i := 2) hF2 rfl
                      have x3 := cell_at (i := 3) hF2 rfl
                      clear hF1 hF2
                      dsimp only
                      cases hco : costN T.rs[k].c with
                      | false =>
                        have HF := hide (HNO.out (.inr (by rw [HDN.out, hfo, hfm, hco]; rfl)))
                        simp only [hco] at KC
                        clear hfo hfm hco
                        go_wp2_with fail
                        refine (KC.out _).mono ?_
                        rintro e9 w8 ⟨rfl, hb⟩
                        have H6 := hide (H5.out.below OKA.out hb)
                        have HB := hide (H6.out.mod.below (fun _ _ h => h))
                        clear KC H5 hb
                        dsimp only
                        go_wp2
                        go_ret
                        exact bel_bool HF.out HB.out
                      | true =>
                        have HA2 := hide (HAS.out (by rw [HDN.out, hfo, hfm, hco]; rfl))
                        simp only [hco] at KC
                        clear hfo hfm hco
                        go_wp2_with fail
                        refine (KC.out _).mono ?_
                        rintro e9 w8 ⟨rfl, hb⟩
                        have H6 := hide (H5.out.below OKA.out hb)
                        clear KC H5 hb y0 y1 y2 x0 x1 x2 x3
                        dsimp only
                        obtain ⟨F1, hF1⟩ := H6.out.fst
                        have y0 := cell_at (i := 0) hF1 rfl
                        have y1 := cell_at (i := 1) hF1 rfl
                        have y2 := cell_at (i := 2) hF1 rfl
                        clear hF1
                        obtain ⟨FM, hFM, -, bk⟩ := (H6.out.drop.drop).take set_ok (star_ok cell_ok emp_ok)
                        obtain ⟨w9, hup, hpost⟩ := set_put hFM HKN.out
                        have h6 := bk _ _ hpost
                        rw [← HKS.out.1] at h6
                        have H7 := hide h6
                        rw [HKY.out] at hup
                        have hup2 : (Instr.mapUpdate 140 (.map (some bm)) (.agg #[.int .i64 T.rs[k].k, .string (bs T.rs[k].f), .string (bs T.rs[k].t)]) (.bool true)).run Tryz.prog w8 = .ok () w9 := hup
                        clear hFM bk hup hpost h6
                        go_wp2
                        go_roundw
                        case rel => exact ⟨k + 1, HK1.out, by go_num, HA2.out, HKS.out.2, H7.out⟩
                        case measure => have := HK1.out; simp [intOf]; omega
              · obtain rfl : k = N := by omega
                have hrl : rulesN T.rs = true := rulesN_iff.2 ⟨by have := HND.out; rw [HN.out, List.take_length] at this; exact this, by have := HAL.out; rw [HN.out, List.take_length] at this; exact this⟩
                have HVT := hide (valid_tail HHD.out hrl)
                clear HND HAL hrl
                obtain ⟨FT, hFT⟩ := HR.out.drop.fst
                have c1 := cell_at (i := 1) hFT rfl
                have c2 := cell_at (i := 2) hFT rfl
                clear hFT
                have okC : (star (SetO bm ((T.rs.take k).map keyR)) (star (CellO gt #[.slice A k ac, .slice D T.ds.length dc, .slice E T.es.length ec, .int .i64 T.drop, .int .i64 T.ord, .int .i64 T.ini] 25) emp)).Ok := star_ok set_ok (star_ok cell_ok emp_ok)
                have HBW := hide (HR.out.mod.below (fun _ _ h => h))
                have KD := hide (checkDrops_any (most := 12) (c := dc) (HT.out.ds.below HBW.out) HT.out.ld HT.out.sd (HZ.out.below HBW.out))
                have KE := hide (fun W (hb : Below w.heap.size w W) => checkDrops_any (w := W) (most := 4) (c := ec) (HT.out.es.below hb) HT.out.le HT.out.se (HZ.out.below hb))
                go_wp2_with fail
                refine KD.out.mono ?_
                rintro e9 w6 ⟨rfl, hb⟩
                have H4 := hide (HR.out.below okC hb)
                have HB := hide (bel_trans HBW.out hb)
                clear KD hb c1 c2 okC HR HBW
                obtain ⟨FT, hFT⟩ := H4.out.drop.fst
                have c2 := cell_at (i := 2) hFT rfl
                clear hFT H4
                dsimp only
                cases hd1 : dropsN 12 T.ds with
                | false =>
                  have HF := hide (show validT T = false by rw [HVT.out, hd1]; rfl)
                  clear hd1 KE
                  go_wp2
                  go_ret
                  exact bel_bool HF.out HB.out
                | true =>
                  have HF := hide (show validT T = dropsN 4 T.es by rw [HVT.out, hd1]; rfl)
                  have KE2 := hide (KE.out w6 HB.out)
                  clear hd1 KE
                  go_wp2_with fail
                  refine KE2.out.mono ?_
                  rintro e9 w7 ⟨rfl, hb⟩
                  have HB2 := hide (bel_trans HB.out hb)
                  clear KE2 hb
                  dsimp only
                  go_wp2
                  go_ret
                  exact bel_bool HF.out HB2.out
end Go.Proofs.YtnppgomhhcbplaaGreatDoor
namespace Go.Proofs.YtnppgomhhcbplaaGreatDoor
open Go.RowKit Go.CH Go.CH.Scr Go.CH.Pot
open Go.ChangeMaps (setBlock)
/-- An answer: letters of its own, and whether it was a word. -/
def OpenP (w : World) (k : Int) (l : Bs) (e : Ending) (w' : World) : Prop :=
  ∃ A c, e = .returned (.tuple #[.slice A (openN k l).1.length c, .bool (openN k l).2]) ∧ Post w (fun _ => False) (StrO A c (openN k l).1) w'
theorem pletters_own (k : Int) (s : ByteArray) (w : World) (hs : s.size ≤ 1000000) (hz : LZ w) : Calls Tryz.prog 45 #[.int .i64 k, .string s] w (OpenP w k (bl s)) := by
  have KF := hide (fold_any k s w hs hz)
  have HZ := hide hz
  clear hz
  by_cases hw : word k (bl s) = true
  · have e1 : foldN k (bl s) = (lower (bl s), 0) := by unfold foldN; rw [if_pos hw]
    have e2 : lettersN k (lower (bl s)) = ((ltrs k (lower (bl s))).1, 0) := by unfold lettersN; rw [if_pos (fold_word hw)]
    have e3 : openN k (bl s) = ((ltrs k (lower (bl s))).1, true) := by unfold openN; rw [if_pos hw]
    have KL := hide (fun W (hz : LZ W) => Letters_any k (bs (lower (bl s))) W (by rw [bs_size]; unfold lower; rw [List.length_map, bl_len]; exact hs) hz)
    simp only [bl_bs] at KL
    unfold LtrsRet at KL
    simp only [e2] at KL
    unfold BelowRet at KF
    simp only [e1] at KF
    unfold OpenP
    rw [e3]
    clear e1 e2 e3 hw
    go_enter Tryz.func45, Tryz.ntmps45
    go_wp2_with fail
    refine KF.out.mono ?_
    rintro e9 w1 ⟨rfl, hb⟩
    have HB := hide hb
    have KL2 := hide (KL.out w1 (HZ.out.below hb))
    clear KF KL hb
    dsimp only
    go_wp2_with fail
    refine KL2.out.mono ?_
    rintro e9 w2 ⟨A, c, rfl, hp⟩
    have HP := hide (((Run.begin w).below emp_ok HB.out).fresh emp_ok hp)
    clear KL2 HB hp
    dsimp only
    go_wp2
    refine bodyPost_ret (results_tmp2 rfl _ _ _) rfl ?_
    exact ⟨A, c, rfl, (HP.out.swap.drop).post str_ok⟩
  · have e1 : foldN k (bl s) = ([], 1) := by unfold foldN; rw [if_neg hw]
    have e2 : lettersN k [] = ([], 1) := by unfold lettersN; rw [if_neg (word_nil k)]
    have e3 : openN k (bl s) = ([], false) := by unfold openN; rw [if_neg hw]
    have KL := hide (fun W (hz : LZ W) => Letters_any k (bs []) W (by rw [bs_size]; exact Nat.zero_le _) hz)
    simp only [bl_bs] at KL
    unfold LtrsRet at KL
    simp only [e2] at KL
    unfold BelowRet at KF
    simp only [e1] at KF
    unfold OpenP
    rw [e3]
    clear e1 e2 e3 hw
    go_enter Tryz.func45, Tryz.ntmps45
    go_wp2_with fail
    refine KF.out.mono ?_
    rintro e9 w1 ⟨rfl, hb⟩
    have HB := hide hb
    have KL2 := hide (KL.out w1 (HZ.out.below hb))
    clear KF KL hb
    dsimp only
    go_wp2_with fail
    refine KL2.out.mono ?_
    rintro e9 w2 ⟨A, c, rfl, hp⟩
    have HP := hide (((Run.begin w).below emp_ok HB.out).fresh emp_ok hp)
    clear KL2 HB hp
    dsimp only
    go_wp2
    refine bodyPost_ret (results_tmp2 rfl _ _ _) rfl ?_
    exact ⟨A, c, rfl, (HP.out.swap.drop).post str_ok⟩
end Go.Proofs.YtnppgomhhcbplaaGreatDoor
