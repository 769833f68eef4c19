/-
  The reference of layer 12: Make and Check, plainly.
  The reference of layer 12: Make.
-/
import Derived.Test.YtnppgomhhcbplaaGreatDoorPO23
import Derived.Test.YtnppgomhhcbplaaGreatDoorPO9
import Derived.Test.YtnppgomhhcbplaaGreatDoorPO16
set_option linter.unusedSimpArgs false
set_option linter.unusedVariables false
namespace Go.CH.Pot
open Go.CH.Scr
open Go.Proofs.YtnppgomhhcbplaaGreatDoor (usedR mkN)
/-- Both ways of reckoning how many letters are used agree. -/
theorem usedR_takes {k : Int} {w f : Bs} {i : Nat} (hf : word k f = true) (h3 : (ltrs k f).1.length ≤ 3) : usedR ((ltrs k w).1.drop i) f = takes ((ltrs k w).1.drop i) f := by
  have hne : ∀ x ∈ (ltrs k w).1.drop i, x ≠ [] := fun x hx => ltrs_ne w x (List.mem_of_mem_drop hx)
  have ht := takes_fits (w := w) (i := i) hf
  have hle := takes_le (l := (ltrs k w).1.drop i) (t := f)
  have hfl := takes_flat (l := (ltrs k w).1.drop i) (t := f)
  generalize (ltrs k w).1.drop i = l at *
  have hmk : ∀ m, 1 ≤ m → (mkN l f m = true ↔ takes l f = m) := fun m hm => by
    unfold mkN
    rw [Bool.and_eq_true, decide_eq_true_eq, decide_eq_true_eq]
    constructor
    · rintro ⟨h1, h2⟩
      rw [← h2]
      exact takes_of h1 hne
    · intro e
      have h4 := hfl (by omega)
      rw [e] at hle h4
      exact ⟨hle, h4⟩
  have hb : takes l f ≤ 3 := by
    rw [ht]
    split <;> omega
  unfold usedR
  by_cases e1 : takes l f = 1
  · rw [if_pos ((hmk 1 (by omega)).2 e1), e1]
  · rw [if_neg (fun h => e1 ((hmk 1 (by omega)).1 h))]
    by_cases e2 : takes l f = 2
    · rw [if_pos ((hmk 2 (by omega)).2 e2), e2]
    · rw [if_neg (fun h => e2 ((hmk 2 (by omega)).1 h))]
      by_cases e3 : takes l f = 3
      · rw [if_pos ((hmk 3 (by omega)).2 e3), e3]
      · rw [if_neg (fun h => e3 ((hmk 3 (by omega)).1 h))]
        omega
theorem use_ok {T : Tab} {a b : Int} {x y : Bs} (h : validT T = true) : Go.Proofs.YtnppgomhhcbplaaGreatDoor.UseOk (wdOf T a x b y) := by
  have hr : ∀ R ∈ T.rs, word R.k R.f = true ∧ (ltrs R.k R.f).1.length ≤ 3 := fun R hR => by
    have h1 := (ruleN_iff.1 ((rulesN_iff.1 (validT_iff.1 h).2.1).2 R hR)).1
    have h2 := foldedN_iff.1 h1
    exact ⟨h2.1, h2.2.2⟩
  constructor
  · intro R hR hk i _
    obtain ⟨h1, h2⟩ := hr R hR
    have hk : R.k = a := hk
    rw [hk] at h1 h2
    exact usedR_takes h1 h2
  · intro R hR hk i _
    obtain ⟨h1, h2⟩ := hr R hR
    have hk : R.k = b := hk
    rw [hk] at h1 h2
    exact usedR_takes h1 h2
section
variable {W : Wd} {Q : List St} {bound : Int}
theorem first_st0 (hs : Q.Pairwise ltS) (hm : ∀ q, q ∈ Q ↔ Rch W st0 q) : ∃ h : 0 < Q.length, Q[0] = st0 := by
  obtain ⟨k, hk, e⟩ := List.mem_iff_getElem.1 ((hm st0).2 Rch.refl)
  refine ⟨by omega, ?_⟩
  by_cases h0 : k = 0
  · subst h0; exact e
  · exfalso
    have h1 := List.pairwise_iff_getElem.1 hs 0 k (by omega) hk (by omega)
    rw [e] at h1
    unfold ltS ltP zp st0 at h1
    simp only at h1
    rcases h1 with h1 | ⟨-, h1 | ⟨-, h1 | ⟨-, -, h1⟩⟩⟩
    · omega
    · omega
    · exact absurd h1 (List.not_lt_nil _)
    · cases h1
/-- What Make gives, out of what States gives. -/
def cutQ (W : Wd) (bound : Int) (Q : List St) : List Pt := (Q.map fun q => (q, W.rd q)).filterMap (entP bound)
theorem cutQ_snoc {q : St} : cutQ W bound (Q ++ [q]) = cutQ W bound Q ++ (if 0 < min (W.rd q) bound then [⟨q.i, q.j, q.a, q.r, min (W.rd q) bound⟩] else []) := by
  unfold cutQ
  rw [List.map_append, List.filterMap_append]
  congr 1
  unfold entP
  by_cases h : 0 < min (W.rd q) bound
  · simp [h]
  · simp [h]
theorem cutQ_len : (cutQ W bound Q).length ≤ Q.length := by
  unfold cutQ
  exact Nat.le_trans (List.length_filterMap_le ..) (by rw [List.length_map]; exact Nat.le_refl _)
theorem rd_min (h : bound ≤ 100000) (s : St) : min (W.rd s) bound = min (W.dist s) bound := by unfold Wd.rd bigR; omega
theorem cutQ_cert (hs : Q.Pairwise ltS) (hm : ∀ q, q ∈ Q ↔ Rch W st0 q) (hb : bound ≤ 100000) : IsCert W bound (cutQ W bound Q) := by
  refine ⟨?_, fun p => ?_⟩
  · unfold cutQ
    rw [List.filterMap_map]
    refine List.Pairwise.filterMap _ (fun a b hab c hc d hd => ?_) hs
    simp only [Function.comp, entP] at hc hd
    split at hc
    · split at hd
      · injection hc with hc
        injection hd with hd
        subst hc hd
        exact hab
      · cases hd
    · cases hc
  · unfold cutQ
    rw [List.filterMap_map, List.mem_filterMap]
    simp only [Function.comp, entP]
    constructor
    · rintro ⟨q, hq, he⟩
      split at he
      · rename_i h0
        injection he with he
        subst he
        refine ⟨⟨Int.natCast_nonneg _, Int.natCast_nonneg _⟩, ?_, ?_, h0⟩
        · have := (hm q).1 hq
          unfold Pt.st
          simpa using this
        · unfold Pt.st
          simp only [Int.toNat_natCast]
          exact rd_min hb q
      · cases he
    · rintro ⟨⟨h1, h2⟩, h3, h4, h5⟩
      refine ⟨p.st, (hm _).2 h3, ?_⟩
      rw [rd_min hb, ← h4, if_pos h5]
      obtain ⟨i, j, x, r, v⟩ := p
      unfold Pt.st
      simp only at h1 h2 ⊢
      rw [Int.toNat_of_nonneg h1, Int.toNat_of_nonneg h2]
end
section
variable {W : Wd} {C : List Pt} {bound : Int}
theorem place_hgt (hs : C.Pairwise ltP) (h0 : ∀ p ∈ C, 0 ≤ p.i ∧ 0 ≤ p.j) (q : St) (v : Int) :
    (isP C ⟨q.i, q.j, q.a, q.r, v⟩ = true ∧ ∃ h : placeN C ⟨q.i, q.j, q.a, q.r, v⟩ < C.length, (C[placeN C ⟨q.i, q.j, q.a, q.r, v⟩]).h = hgt C q) ∨ (isP C ⟨q.i, q.j, q.a, q.r, v⟩ = false ∧ hgt C q = 0) := by
  have hst : ∀ p ∈ C, (sameP p ⟨q.i, q.j, q.a, q.r, v⟩ ↔ p.st = q) := fun p hp => by
    obtain ⟨h1, h2⟩ := h0 p hp
    obtain ⟨i, j, x, r⟩ := q
    unfold sameP Pt.st
    rw [St.mk.injEq]
    simp only
    constructor
    · rintro ⟨a, b, c, d⟩; exact ⟨by omega, by omega, c, d⟩
    · rintro ⟨a, b, c, d⟩; exact ⟨by omega, by omega, c, d⟩
  by_cases he : ∃ p ∈ C, p.st = q
  · obtain ⟨p, hp, e⟩ := he
    left
    have h1 : isP C ⟨q.i, q.j, q.a, q.r, v⟩ = true := by
      unfold isP
      rw [List.any_eq_true]
      exact ⟨p, hp, decide_eq_true ((hst p hp).2 e)⟩
    refine ⟨h1, ?_⟩
    obtain ⟨k, hk, ek⟩ := List.mem_iff_getElem.1 hp
    have hsm := (hst p hp).2 e
    have hls : ∀ x : Pt, ltP x ⟨q.i, q.j, q.a, q.r, v⟩ ↔ ltP x C[k] := fun x => by
      rw [ek]
      unfold sameP at hsm
      simp only at hsm
      unfold ltP
      simp only
      rw [hsm.1, hsm.2.1, hsm.2.2.1, hsm.2.2.2]
    have hpk : placeN C ⟨q.i, q.j, q.a, q.r, v⟩ = k := by
      refine place_eq (by omega) (fun i hi hik => ?_) (fun hi => ?_)
      · rw [hls]
        exact List.pairwise_iff_getElem.1 hs i k hi hk hik
      · rw [hls]
        exact ltP_irr _
    refine ⟨by omega, ?_⟩
    have := hgt_mem hs h0 hp
    rw [e] at this
    rw [this]
    simp only [hpk, ek]
  · right
    have hn : ∀ p ∈ C, p.st ≠ q := fun p hp e => he ⟨p, hp, e⟩
    refine ⟨?_, ?_⟩
    · unfold isP
      rw [List.any_eq_false]
      intro p hp
      rw [decide_eq_true_eq]
      exact fun hsm => hn p hp ((hst p hp).1 hsm)
    · rcases hgt_cases C q with ⟨p, hp, e, -⟩ | ⟨-, h⟩
      · exact absurd e (hn p hp)
      · exact h
def stN (W : Wd) (p : Pt) : Bool := decide (0 ≤ p.i) && decide (p.i ≤ W.l.length) && decide (0 ≤ p.j) && decide (p.j ≤ W.m.length) && formN p.a && (!p.r || decide (p.a ≠ []))
def enN (W : Wd) (p : Pt) : Bool := decide (p.i = W.l.length) && decide (p.j = W.m.length) && decide (p.a = [])
theorem proper_ref {p : Pt} : proper W bound p = (stN W p && !enN W p && decide (1 ≤ p.h) && decide (p.h ≤ bound) && decide (p.h ≤ 100000)) := by
  rw [Bool.eq_iff_iff, proper_iff]
  unfold stN enN
  simp only [Bool.and_eq_true, Bool.or_eq_true, decide_eq_true_eq, Bool.not_eq_true', Bool.and_eq_false_iff, decide_eq_false_iff_not, formN_iff]
  constructor
  · rintro ⟨⟨h1, h2⟩, ⟨h3, h4⟩, h5, h6, h7, h8, h9, h10⟩
    refine ⟨⟨⟨⟨⟨⟨⟨⟨⟨h1, h2⟩, h3⟩, h4⟩, h5⟩, ?_⟩, ?_⟩, by omega⟩, h9⟩, h10⟩
    · cases hr : p.r with
      | false => exact .inl rfl
      | true => exact .inr (h6 hr)
    · by_cases a1 : p.i = W.l.length
      · by_cases a2 : p.j = W.m.length
        · right
          intro a3
          refine h7 ?_
          unfold Pt.st Wd.fin
          rw [St.mk.injEq]
          refine ⟨by omega, by omega, a3, ?_⟩
          cases hr : p.r with
          | false => rfl
          | true => exact absurd a3 (h6 hr)
        · exact .inl (.inr a2)
      · exact .inl (.inl a1)
  · rintro ⟨⟨⟨⟨⟨⟨⟨⟨⟨h1, h2⟩, h3⟩, h4⟩, h5⟩, h6⟩, h7⟩, h8⟩, h9⟩, h10⟩
    refine ⟨⟨h1, h2⟩, ⟨h3, h4⟩, h5, fun hr => ?_, fun e => ?_, by omega, h9, h10⟩
    · rcases h6 with h6 | h6
      · rw [hr] at h6; cases h6
      · exact h6
    · unfold Pt.st Wd.fin at e
      rw [St.mk.injEq] at e
      obtain ⟨e1, e2, e3, -⟩ := e
      rcases h7 with (h7 | h7) | h7
      · exact h7 (by omega)
      · exact h7 (by omega)
      · exact h7 e3
theorem make_fun {T : Tab} {a b : Int} {x y : Bs} {er er' : Int} {C' : List Pt} (h : MakeP T a x b y bound C er) (h' : MakeP T a x b y bound C' er') : C = C' ∧ er = er' := by
  cases h with
  | arg h1 =>
    cases h' with
    | arg _ => exact ⟨rfl, rfl⟩
    | none k1 k2 k3 k4 =>
      rcases h1 with h1 | h1 | h1
      · rw [h1] at k1; cases k1
      · omega
      · omega
    | some _ k1 k2 k3 k4 k5 =>
      rcases h1 with h1 | h1 | h1
      · rw [h1] at k1; cases k1
      · omega
      · omega
  | none h1 h2 h3 h4 =>
    cases h' with
    | arg k1 =>
      rcases k1 with k1 | k1 | k1
      · rw [k1] at h1; cases h1
      · omega
      · omega
    | none _ _ _ _ => exact ⟨rfl, rfl⟩
    | some _ k1 k2 k3 k4 k5 => omega
  | some _ h1 h2 h3 h4 h5 =>
    cases h' with
    | arg k1 =>
      rcases k1 with k1 | k1 | k1
      · rw [k1] at h1; cases h1
      · omega
      · omega
    | none k1 k2 k3 k4 => omega
    | some _ k1 k2 k3 k4 k5 => exact ⟨cert_unique h5 k5, rfl⟩
end
end Go.CH.Pot
namespace Go.Proofs.YtnppgomhhcbplaaGreatDoor
open Go.RowKit Go.CH Go.CH.Scr Go.CH.Pot
open Go.ChangeMaps (setBlock)
set_option maxRecDepth 100000
theorem openN_small (k : Int) (x : Bs) (hx : x.length ≤ 1000000) : (openN k x).1.length ≤ 12 ∧ ∀ z ∈ (openN k x).1, z.length ≤ 1000000 := by
  rcases fold_vals k x with ⟨hw, -, -, he⟩ | ⟨-, -, he⟩
  · rw [he]
    refine ⟨(word_iff.1 (fold_word hw)).2.2, fun z hz => ?_⟩
    have h1 := ltrs_join (k := k) (lower x)
    have h2 : z.length ≤ (ltrs k (lower x)).1.flatten.length := (List.sublist_flatten_of_mem hz).length_le
    have h3 := congrArg List.length h1
    rw [List.length_append] at h3
    have h4 : (lower x).length = x.length := by unfold lower; rw [List.length_map]
    show z.length ≤ 1000000
    omega
  · rw [he]; exact ⟨by decide, fun z hz => absurd hz List.not_mem_nil⟩
theorem okW_opens {T : Tab} {k k2 : Int} {x y : Bs} : okW T k x k2 y = ((openN k x).2 && ((openN k2 y).2 && validT T)) := by
  unfold okW openN
  cases word k x <;> cases word k2 y <;> rfl
theorem wdOf_opens {T : Tab} {k k2 : Int} {x y : Bs} (h : okW T k x k2 y = true) : (wdOf T k x k2 y).l = (openN k x).1 ∧ (wdOf T k x k2 y).m = (openN k2 y).1 := by
  obtain ⟨h1, h2, -⟩ := okW_iff.1 h
  unfold openN
  rw [if_pos h1, if_pos h2]
  exact ⟨rfl, rfl⟩
set_option maxHeartbeats 16000000 in
theorem rmake_any {w : World} {T : Tab} {a : TA} (hT : TabR w T a) (k : Int) (x : Bs) (k2 : Int) (y : Bs) (bound : Int) (hx : x.length ≤ 1000000) (hy : y.length ≤ 1000000) (hr : T.rs.length ≤ 60) :
    Calls Tryz.prog 15 #[tabV T a, .int .i64 k, .string (bs x), .int .i64 k2, .string (bs y), .int .i64 bound] w (MakeRet w T k x k2 y bound) := by
  have HT := hide hT
  have h1 := run_new (Run.begin w) emp_ok (tabC T a) 25
  have H1 := hide h1
  have KO := hide (fun k x hx W => ropen_any k x W hx)
  have KO1 := hide (ropen_any k x (w.alloc (.cells (tabC T a) 25)) hx)
  have KO2 := hide (fun W => ropen_any k2 y W hy)
  have KV := hide (fun W (hb : Below w.heap.size w W) => rvalid_any (hT.below hb))
  have HOS := hide (show _ ∧ _ from ⟨openN_small k x hx, openN_small k2 y hy⟩)
  have HR60 := hide (show (wdOf T k x k2 y).rs.length ≤ 60 from hr)
  have HNV := hide (show tabV T a = .agg (tabC T a) from rfl)
  have KST := hide (fun (hok : okW T k x k2 y = true) W (hb : Below w.heap.size w W) A c B d (hA : Vst W A (openN k x).1) (hB : Vst W B (openN k2 y).1) => (show Calls Tryz.prog 31 #[tabV T a, .int .i64 k, .slice A (openN k x).1.length c, .int .i64 k2, .slice B (openN k2 y).1.length d] W (StatesRet (wdOf T k x k2 y) W) from by
    obtain ⟨e1, e2⟩ := wdOf_opens hok
    have hv := (okW_iff.1 hok).2.2
    obtain ⟨g1, g2⟩ := good_of (a := k) (b := k2) (x := x) (y := y) hv
    have := rstates_any (W := wdOf T k x k2 y) (w := W) (T := T) (a := a) (X := A) (Y := B) (xc := c) (yc := d) (hT.below hb) rfl (by rw [e1]; exact hA) (by rw [e2]; exact hB) g1 g2 (by rw [e1]; exact openN_small k x hx) (by rw [e2]; exact openN_small k2 y hy) hr (use_ok hv)
    rw [e1, e2] at this
    exact this))
  clear hT h1 hx hy hr KO
  unfold tabV at KV KST ⊢
  unfold tabC at H1 KO1 KV KST ⊢
  generalize hn1 : T.rs.length = n1 at *
  generalize hn2 : T.ds.length = n2 at *
  generalize hn3 : T.es.length = n3 at *
  clear hn1 hn2 hn3
  have HOK := hide (okW_opens (T := T) (k := k) (k2 := k2) (x := x) (y := y))
  have HWO := hide (fun h => wdOf_opens (T := T) (k := k) (k2 := k2) (x := x) (y := y) h)
  obtain ⟨aA, ac, aD, ad, aE, ae⟩ := a
  dsimp only at H1 KO1 KV KST ⊢
  unfold ROpenRet at KO1 KO2
  go_enter Tryz.func15, Tryz.ntmps15
  go_wp2_with fail
  refine KO1.out.mono ?_
  rintro e9 w2 ⟨A1, c1, rfl, hp⟩
  have okB := hide (star_ok cell_ok emp_ok : (star (CellO w.heap.size #[.slice aA n1 ac, .slice aD n2 ad, .slice aE n3 ae, .int .i64 T.drop, .int .i64 T.ord, .int .i64 T.ini] 25) emp).Ok)
  have H2 := hide (H1.out.fresh okB.out hp)
  clear hp KO1 H1
  generalize w.heap.size = g6 at H2 okB ⊢
  dsimp only
  go_wp2_with fail
  refine (KO2.out _).mono ?_
  rintro e9 w3 ⟨A2, c2, rfl, hp⟩
  have H3 := hide (H2.out.fresh (star_ok str_ok okB.out) hp)
  have okC := hide (star_ok str_ok (star_ok str_ok okB.out) : (star (StrO A2 c2 (openN k2 y).1) (star (StrO A1 c1 (openN k x).1) (star (CellO g6 #[.slice aA n1 ac, .slice aD n2 ad, .slice aE n3 ae, .int .i64 T.drop, .int .i64 T.ord, .int .i64 T.ini] 25) emp))).Ok)
  clear hp KO2 H2
  dsimp only
  obtain ⟨b0, b1, b2, b3, b4, b5⟩ := run_c6 H3.out.drop.drop
  have hbel := hide (show Below w.heap.size w w3 from H3.out.mod.below (fun _ _ h => h))
  have KV2 := hide (KV.out w3 hbel.out)
  clear KV
  go_wp2_with fail
  refine KV2.out.mono ?_
  rintro e9 w4 ⟨rfl, hb⟩
  have H4 := hide (H3.out.below okC.out hb)
  clear KV2 H3 hb b0 b1 b2 b3 b4 b5 hbel
  have HB4 := hide (show Below w.heap.size w w4 from H4.out.mod.below (fun _ _ h => h))
  dsimp only
  generalize ho1 : (openN k x).2 = o1 at *
  generalize ho2 : (openN k2 y).2 = o2 at *
  generalize hvt : validT T = vt at *
  clear ho1 ho2 hvt
  cases vt with
  | false =>
    have hok : okW T k x k2 y = false := by rw [HOK.out, Bool.and_false, Bool.and_false]
    have HF := hide (make_nil (w := w) (w' := w4) (T := T) (k := k) (k2 := k2) (x := x) (y := y) (bound := bound) (.arg (.inl hok)) HB4.out)
    go_wp2
    refine bodyPost_ret (results_tmp2 rfl _ _ _) rfl ?_
    exact HF.out
  | true =>
    cases o1 with
    | false =>
      have hok : okW T k x k2 y = false := by rw [HOK.out]; rfl
      have HF := hide (make_nil (w := w) (w' := w4) (T := T) (k := k) (k2 := k2) (x := x) (y := y) (bound := bound) (.arg (.inl hok)) HB4.out)
      go_wp2
      refine bodyPost_ret (results_tmp2 rfl _ _ _) rfl ?_
      exact HF.out
    | true =>
      cases o2 with
      | false =>
        have hok : okW T k x k2 y = false := by rw [HOK.out]; rfl
        have HF := hide (make_nil (w := w) (w' := w4) (T := T) (k := k) (k2 := k2) (x := x) (y := y) (bound := bound) (.arg (.inl hok)) HB4.out)
        go_wp2
        refine bodyPost_ret (results_tmp2 rfl _ _ _) rfl ?_
        exact HF.out
      | true =>
        have hok : okW T k x k2 y = true := HOK.out
        by_cases hb0 : bound < 0
        · have hd0 : decide (bound < 0) = true := decide_eq_true hb0
          have HF := hide (make_nil (w := w) (w' := w4) (T := T) (k := k) (k2 := k2) (x := x) (y := y) (bound := bound) (.arg (.inr (.inl hb0))) HB4.out)
          go_wp2
          refine bodyPost_ret (results_tmp2 rfl _ _ _) rfl ?_
          exact HF.out
        · have hd0 : decide (bound < 0) = false := decide_eq_false hb0
          by_cases hb1 : 100000 < bound
          · have hd1 : decide (100000 < bound) = true := decide_eq_true hb1
            have HF := hide (make_nil (w := w) (w' := w4) (T := T) (k := k) (k2 := k2) (x := x) (y := y) (bound := bound) (.arg (.inr (.inr hb1))) HB4.out)
            go_wp2
            refine bodyPost_ret (results_tmp2 rfl _ _ _) rfl ?_
            exact HF.out
          · have hd1 : decide (100000 < bound) = false := decide_eq_false hb1
            have KS := hide (KST.out hok w4 HB4.out A1 c1 A2 c2 (by
              obtain ⟨F, hF⟩ := H4.out.drop.fst
              exact vst_of hF) (by
              obtain ⟨F, hF⟩ := H4.out.fst
              exact vst_of hF))
            obtain ⟨b0, b1, b2, b3, b4, b5⟩ := run_c6 H4.out.drop.drop
            obtain ⟨W, hW⟩ : ∃ W, W = wdOf T k x k2 y := ⟨_, rfl⟩
            rw [← hW] at KS
            have HW := hide hW
            have HOKT := hide hok
            have hl := lens_of hok
            have HG := hide (good_of (a := k) (b := k2) (x := x) (y := y) (okW_iff.1 hok).2.2)
            rw [← hW] at HG hl
            have HLN := hide (show W.l.length ≤ 12 ∧ W.m.length ≤ 12 ∧ W.rs.length ≤ 60 from ⟨hl.2.1, hl.2.2.2, by rw [hW]; exact HR60.out⟩)
            clear KST HOK HWO hl hok hW HOS HB4
            go_wp2_with fail
            refine KS.out.mono ?_
            rintro e9 w5 ⟨A, c, Q, rfl, hq1, hq2, hp⟩
            have H5 := hide (H4.out.fresh okC.out hp)
            have HQ1 := hide hq1
            have HQ2 := hide hq2
            have okA := hide (star_ok pts_ok okC.out : (star (PtsO A c (Q.map (ph W.rd))) (star (StrO A2 c2 (openN k2 y).1) (star (StrO A1 c1 (openN k x).1) (star (CellO g6 #[.slice aA n1 ac, .slice aD n2 ad, .slice aE n3 ae, .int .i64 T.drop, .int .i64 T.ord, .int .i64 T.ini] 25) emp)))).Ok)
            obtain ⟨hq0, hqe⟩ := first_st0 hq1 hq2
            have hQ4 : (Q.length : Int) ≤ 400000 := by
              have := few_z (W := W) (C := Q.map zp) (List.pairwise_map.2 hq1) (fun p hp => by
                obtain ⟨q, hq, rfl⟩ := List.mem_map.1 hp
                exact ⟨q, (hq2 q).1 hq, rfl⟩) HG.out.2 HLN.out.1 HLN.out.2.1 HLN.out.2.2
              rw [List.length_map] at this
              omega
            obtain ⟨ga, rfl⟩ : ∃ g, A = some ⟨g, 0, none⟩ := by
              obtain ⟨F, hF⟩ := H5.out.fst
              exact row_addr hF (by rw [List.length_map]; exact hq0)
            have hd0' := dist_nonneg HG.out.1 (ok0 (W := W))
            have HCL := hide (fun W' X (h : Run (fun _ => False) w (star (PtsO (some ⟨ga, 0, none⟩) c (Q.map (ph W.rd))) X) W') (i : Nat) (hi : i < Q.length) => (show W'.cell? ⟨ga, i * 5, none⟩ = some (.int .i64 (Q[i].i : Int)) ∧ W'.cell? ⟨ga, i * 5 + 1, none⟩ = some (.int .i64 (Q[i].j : Int)) ∧ W'.cell? ⟨ga, i * 5 + 2, none⟩ = some (.string (bs Q[i].a)) ∧ W'.cell? ⟨ga, i * 5 + 3, none⟩ = some (.bool Q[i].r) ∧ W'.cell? ⟨ga, i * 5 + 4, none⟩ = some (.int .i64 (W.rd Q[i])) from by
              obtain ⟨F, hF⟩ := h.fst
              have := (pts_cell hF (k := i) (by rw [List.length_map]; exact hi)).1
              rw [List.getElem_map] at this
              exact this))
            have z4 : w5.cell? ⟨ga, 4, none⟩ = some (.int .i64 (W.rd st0)) := by
              have := (HCL.out _ _ H5.out 0 hq0).2.2.2.2
              rw [hqe] at this
              simpa using this
            have hq0i : (0 : Int) < (Q.length : Int) := by omega
            clear KS H4 hp b0 b1 b2 b3 b4 b5 hq1 hq2 hqe
            dsimp only
            have hrd0 : W.rd st0 < bound ↔ W.dist st0 < bound := by unfold Wd.rd bigR; omega
            generalize hrr : W.rd st0 = r0 at *
            clear hrr
            have HB01 := hide (show 0 ≤ bound ∧ bound ≤ 100000 from ⟨by omega, by omega⟩)
            by_cases hlt : r0 < bound
            · have HF := hide (fun W' (hb : Below w.heap.size w W') => make_nil (w := w) (w' := W') (T := T) (k := k) (k2 := k2) (x := x) (y := y) (bound := bound) (.none HOKT.out HB01.out.1 HB01.out.2 (by rw [← HW.out]; exact hrd0.1 hlt)) hb)
              have hd2 : decide (r0 < bound) = true := decide_eq_true hlt
              have HBA := hide (show Below w.heap.size w w5 from H5.out.mod.below (fun _ _ h => h))
              go_wp2
              refine bodyPost_ret (results_tmp2 rfl _ _ _) rfl ?_
              exact HF.out _ HBA.out
            · have hd2 : decide (r0 < bound) = false := decide_eq_false hlt
              have HDB := hide (show bound ≤ W.dist st0 by have := hrd0; omega)
              have hge : bound ≤ r0 := by omega
              clear hrd0 hd0'
              have H6 := hide (H5.out.fresh okA.out (⟨fun _ => False, row_nil _ _ _, Mod.refl _ _, fun i hi => .inl hi⟩ : Post _ (fun _ => False) (PtsO none 0 []) _))
              clear H5
              go_wp2_with fail
              go_loopw [19, 20] (fun v kk wr => ∃ (n : Nat) (A' : Option Addr) (c' : Nat), kk = .int .i64 n ∧ n ≤ Q.length ∧ v = .slice A' (cutQ W bound (Q.take n)).length c' ∧ Run (fun _ => False) w (star (PtsO A' c' (cutQ W bound (Q.take n))) (star (PtsO (some ⟨ga, 0, none⟩) c (Q.map (ph W.rd))) (star (StrO A2 c2 (openN k2 y).1) (star (StrO A1 c1 (openN k x).1) (star (CellO g6 #[.slice aA n1 ac, .slice aD n2 ad, .slice aE n3 ae, .int .i64 T.drop, .int .i64 T.ord, .int .i64 T.ini] 25) emp))))) wr) (fun _ kk _ => Q.length - (intOf kk).toNat)
              case atStart => exact ⟨0, none, 0, rfl, Nat.zero_le _, rfl, H6.out⟩
              case round =>
                clear H6 z4
                obtain ⟨n, A', c', rfl, hn, rfl, hR⟩ := hrel
                have HR := hide hR
                clear hR
                by_cases hnl : n < Q.length
                · have hd3 : decide ((n : Int) < (Q.length : Int)) = true := decide_eq_true (by omega)
                  have hcl : (cutQ W bound (Q.take n)).length ≤ 5737412434 := by
                    have := cutQ_len (W := W) (bound := bound) (Q := Q.take n)
                    rw [List.length_take] at this
                    omega
                  have HN1 := hide (show n + 1 ≤ Q.length from hnl)
                  have hpk : ∃ (q : St) (rr : Int), cutQ W bound (Q.take (n + 1)) = cutQ W bound (Q.take n) ++ (if 0 < min rr bound then [⟨q.i, q.j, q.a, q.r, min rr bound⟩] else []) ∧ (wr.cell? ⟨ga, n * 5, none⟩ = some (.int .i64 (q.i : Int)) ∧ wr.cell? ⟨ga, n * 5 + 1, none⟩ = some (.int .i64 (q.j : Int)) ∧ wr.cell? ⟨ga, n * 5 + 2, none⟩ = some (.string (bs q.a)) ∧ wr.cell? ⟨ga, n * 5 + 3, none⟩ = some (.bool q.r) ∧ wr.cell? ⟨ga, n * 5 + 4, none⟩ = some (.int .i64 rr)) ∧ 0 ≤ rr ∧ rr ≤ 1000000000 := by
                    refine ⟨Q[n], W.rd Q[n], ?_, HCL.out _ _ HR.out.rot n hnl, rd_bnd HG.out.1 (Rch.ok ok0 ((HQ2.out _).1 (List.getElem_mem hnl)))⟩
                    rw [← cutQ_snoc, List.take_succ_eq_append_getElem hnl]
                    rfl
                  obtain ⟨q, rr, hsn, ⟨e0, e1, e2, e3, e4⟩, hrn⟩ := hpk
                  obtain ⟨qi, qj, qa, qr⟩ := q
                  dsimp only at e0 e1 e2 e3 hsn
                  have HSN := hide hsn
                  clear hsn hn
                  have okR := hide (star_ok pts_ok okA.out : (star (PtsO A' c' (cutQ W bound (Q.take n))) (star (PtsO (some ⟨ga, 0, none⟩) c (Q.map (ph W.rd))) (star (StrO A2 c2 (openN k2 y).1) (star (StrO A1 c1 (openN k x).1) (star (CellO g6 #[.slice aA n1 ac, .slice aD n2 ad, .slice aE n3 ae, .int .i64 T.drop, .int .i64 T.ord, .int .i64 T.ini] 25) emp))))).Ok)
                  have hni : (n : Int) < (Q.length : Int) := by omega
                  generalize hC1 : cutQ W bound (Q.take (n + 1)) = C1 at *
                  generalize hC0 : cutQ W bound (Q.take n) = C0 at *
                  have HC1 := hide hC1
                  clear hC1 hC0
                  go_upto_region 13 with (fail)
                  have H1 := hide (run_new HR.out okR.out #[.int .i64 qi, .int .i64 qj, .string (bs qa), .bool qr, .int .i64 rr] 37)
                  clear HR e0 e1 e2 e3 e4
                  generalize wr.alloc (.cells #[.int .i64 qi, .int .i64 qj, .string (bs qa), .bool qr, .int .i64 rr] 37) = w1 at *
                  generalize wr.heap.size = g21 at *
                  obtain ⟨c0, c1', c2', c3, c4, cf⟩ := run_c5 H1.out
                  by_cases hgt : bound < rr
                  · have hd4 : decide (bound < rr) = true := decide_eq_true hgt
                    go_upto_region 15 with (fail)
                    have H2 := hide (show Run (fun _ => False) w (star (CellO g21 #[.int .i64 qi, .int .i64 qj, .string (bs qa), .bool qr, .int .i64 bound] 37) (star (PtsO A' c' C0) (star (PtsO (some ⟨ga, 0, none⟩) c (Q.map (ph W.rd))) (star (StrO A2 c2 (openN k2 y).1) (star (StrO A1 c1 (openN k x).1) (star (CellO g6 #[.slice aA n1 ac, .slice aD n2 ad, .slice aE n3 ae, .int .i64 T.drop, .int .i64 T.ord, .int .i64 T.ini] 25) emp)))))) (w1.setCell ⟨g21, 4, none⟩ (.int .i64 bound)) from run_setc H1.out okR.out 4 (.int .i64 bound))
                    clear H1 c0 c1' c2' c3 c4 cf
                    generalize w1.setCell ⟨g21, 4, none⟩ (.int .i64 bound) = w2 at *
                    obtain ⟨c0, c1', c2', c3, c4, cf⟩ := run_c5 H2.out
                    by_cases hp0 : 0 < bound
                    · have hd5 : decide (0 < bound) = true := decide_eq_true hp0
                      have HSN2 := hide (show C1 = C0 ++ [⟨qi, qj, qa, qr, bound⟩] by rw [HSN.out, if_pos (by omega), show min rr bound = bound by omega])
                      go_wp2_with (at_builtin; refine held ?_)
                      refine Held.mk (app_pts rfl (.tmp 84) (.tmp 86) rfl ⟨qi, qj, qa, qr, bound⟩ rfl rfl rfl hcl (star_ok cell_ok okA.out) (H2.out.perm (by ac_rfl : _ = star (PtsO A' c' C0) (star (CellO g21 #[.int .i64 qi, .int .i64 qj, .string (bs qa), .bool qr, .int .i64 bound] 37) (star (PtsO (some ⟨ga, 0, none⟩) c (Q.map (ph W.rd))) (star (StrO A2 c2 (openN k2 y).1) (star (StrO A1 c1 (openN k x).1) (star (CellO g6 #[.slice aA n1 ac, .slice aD n2 ad, .slice aE n3 ae, .int .i64 T.drop, .int .i64 T.ord, .int .i64 T.ini] 25) emp))))))) ?_)
                      intro A8 c8 w8 hr8
                      have H8 := hide (show Run (fun _ => False) w (star (PtsO A8 c8 C1) (star (PtsO (some ⟨ga, 0, none⟩) c (Q.map (ph W.rd))) (star (StrO A2 c2 (openN k2 y).1) (star (StrO A1 c1 (openN k x).1) (star (CellO g6 #[.slice aA n1 ac, .slice aD n2 ad, .slice aE n3 ae, .int .i64 T.drop, .int .i64 T.ord, .int .i64 T.ini] 25) emp))))) w8 from by
                        rw [HSN2.out]
                        exact (hr8.perm (by ac_rfl : _ = star (CellO g21 #[.int .i64 qi, .int .i64 qj, .string (bs qa), .bool qr, .int .i64 bound] 37) (star (PtsO A8 c8 (C0 ++ [⟨qi, qj, qa, qr, bound⟩])) (star (PtsO (some ⟨ga, 0, none⟩) c (Q.map (ph W.rd))) (star (StrO A2 c2 (openN k2 y).1) (star (StrO A1 c1 (openN k x).1) (star (CellO g6 #[.slice aA n1 ac, .slice aD n2 ad, .slice aE n3 ae, .int .i64 T.drop, .int .i64 T.ord, .int .i64 T.ini] 25) emp))))))).drop)
                      have HLN8 : C0.length + 1 = C1.length := by rw [HSN2.out, List.length_append]; rfl
                      rw [HLN8]
                      clear hr8 H2 HLN8 hcl c0 c1' c2' c3 c4 cf
                      go_wp2_with fail
                      go_roundw
                      case rel => exact ⟨n + 1, A8, c8, by go_num, HN1.out, by rw [HC1.out], by rw [HC1.out]; exact H8.out⟩
                      case measure => have := HN1.out; simp [intOf]; omega
                    · have hd5 : decide (0 < bound) = false := decide_eq_false hp0
                      have HSN2 := hide (show C1 = C0 by rw [HSN.out, if_neg (by omega), List.append_nil])
                      go_wp2_with fail
                      go_roundw
                      case rel => exact ⟨n + 1, A', c', by go_num, HN1.out, by rw [HC1.out, HSN2.out], by rw [HC1.out, HSN2.out]; exact H2.out.drop⟩
                      case measure => have := HN1.out; simp [intOf]; omega
                  · have hd4 : decide (bound < rr) = false := decide_eq_false hgt
                    by_cases hp0 : 0 < rr
                    · have hd5 : decide (0 < rr) = true := decide_eq_true hp0
                      have HSN2 := hide (show C1 = C0 ++ [⟨qi, qj, qa, qr, rr⟩] by rw [HSN.out, if_pos (by omega), show min rr bound = rr by omega])
                      go_wp2_with (at_builtin; refine held ?_)
                      refine Held.mk (app_pts rfl (.tmp 84) (.tmp 86) rfl ⟨qi, qj, qa, qr, rr⟩ rfl rfl rfl hcl (star_ok cell_ok okA.out) (H1.out.perm (by ac_rfl : _ = star (PtsO A' c' C0) (star (CellO g21 #[.int .i64 qi, .int .i64 qj, .string (bs qa), .bool qr, .int .i64 rr] 37) (star (PtsO (some ⟨ga, 0, none⟩) c (Q.map (ph W.rd))) (star (StrO A2 c2 (openN k2 y).1) (star (StrO A1 c1 (openN k x).1) (star (CellO g6 #[.slice aA n1 ac, .slice aD n2 ad, .slice aE n3 ae, .int .i64 T.drop, .int .i64 T.ord, .int .i64 T.ini] 25) emp))))))) ?_)
                      intro A8 c8 w8 hr8
                      have H8 := hide (show Run (fun _ => False) w (star (PtsO A8 c8 C1) (star (PtsO (some ⟨ga, 0, none⟩) c (Q.map (ph W.rd))) (star (StrO A2 c2 (openN k2 y).1) (star (StrO A1 c1 (openN k x).1) (star (CellO g6 #[.slice aA n1 ac, .slice aD n2 ad, .slice aE n3 ae, .int .i64 T.drop, .int .i64 T.ord, .int .i64 T.ini] 25) emp))))) w8 from by
                        rw [HSN2.out]
                        exact (hr8.perm (by ac_rfl : _ = star (CellO g21 #[.int .i64 qi, .int .i64 qj, .string (bs qa), .bool qr, .int .i64 rr] 37) (star (PtsO A8 c8 (C0 ++ [⟨qi, qj, qa, qr, rr⟩])) (star (PtsO (some ⟨ga, 0, none⟩) c (Q.map (ph W.rd))) (star (StrO A2 c2 (openN k2 y).1) (star (StrO A1 c1 (openN k x).1) (star (CellO g6 #[.slice aA n1 ac, .slice aD n2 ad, .slice aE n3 ae, .int .i64 T.drop, .int .i64 T.ord, .int .i64 T.ini] 25) emp))))))).drop)
                      have HLN8 : C0.length + 1 = C1.length := by rw [HSN2.out, List.length_append]; rfl
                      rw [HLN8]
                      clear hr8 H1 HLN8 hcl c0 c1' c2' c3 c4 cf
                      go_wp2_with fail
                      go_roundw
                      case rel => exact ⟨n + 1, A8, c8, by go_num, HN1.out, by rw [HC1.out], by rw [HC1.out]; exact H8.out⟩
                      case measure => have := HN1.out; simp [intOf]; omega
                    · have hd5 : decide (0 < rr) = false := decide_eq_false hp0
                      have HSN2 := hide (show C1 = C0 by rw [HSN.out, if_neg (by omega), List.append_nil])
                      go_wp2_with fail
                      go_roundw
                      case rel => exact ⟨n + 1, A', c', by go_num, HN1.out, by rw [HC1.out, HSN2.out], by rw [HC1.out, HSN2.out]; exact H1.out.drop⟩
                      case measure => have := HN1.out; simp [intOf]; omega
                · have hd3 : decide ((n : Int) < (Q.length : Int)) = false := decide_eq_false (by omega)
                  have hnq : n = Q.length := by omega
                  subst hnq
                  have HC := hide (show IsCert W bound (cutQ W bound (Q.take Q.length)) by rw [List.take_length]; exact cutQ_cert HQ1.out HQ2.out HB01.out.2)
                  have HP := hide (((HR.out.perm (by ac_rfl : _ = star (star (PtsO (some ⟨ga, 0, none⟩) c (Q.map (ph W.rd))) (star (StrO A2 c2 (openN k2 y).1) (star (StrO A1 c1 (openN k x).1) (star (CellO g6 #[.slice aA n1 ac, .slice aD n2 ad, .slice aE n3 ae, .int .i64 T.drop, .int .i64 T.ord, .int .i64 T.ini] 25) emp)))) (PtsO A' c' (cutQ W bound (Q.take Q.length))))).drop).post pts_ok)
                  clear HR
                  generalize cutQ W bound (Q.take Q.length) = C9 at *
                  go_wp2
                  refine bodyPost_ret (results_tmp2 rfl _ _ _) rfl ?_
                  exact ⟨A', c', C9, 0, rfl, .some C9 HOKT.out HB01.out.1 HB01.out.2 (by rw [← HW.out]; exact HDB.out) (by rw [← HW.out]; exact HC.out), HP.out⟩
end Go.Proofs.YtnppgomhhcbplaaGreatDoor
