/-
  As Lex: a region that draws its order and holds several stores: what may be leaned on grows weaker from store to store (stages St 0, St 1, ..). An operation leans on the stage in which it may run at the latest.
  Licence: add.
  Licence: New, Grant.
-/
import Derived.Test.YtapabbpdfplpoaaV5
import Derived.Test.YtapabbpdfplpoaaV6
set_option linter.unusedSimpArgs false
set_option linter.unusedVariables false
namespace Go.CH
open Go.RowKit
section
variable {P : Program} {ops : Array Oper} {Ts : List Nat} {St : Nat → World → Prop} {Q : Exit → Act → World → Prop}

/-- The stage in which a reading operation may run at the latest. -/
def lvl (ops : Array Oper) (Ts : List Nat) (i : Nat) : Nat := (Ts.filter fun T => decide (T < i) || !((Region.before ops).getD T 0).testBit i).length
/-- The stage behind a changing operation. -/
def chl (Ts : List Nat) (i : Nat) : Nat := (Ts.filter fun T => decide (T ≤ i)).length
/-- The walk in the order of a list of indexes. -/
def wpLw (P : Program) (ops : Array Oper) (Ts : List Nat) (St : Nat → World → Prop) (Q : Exit → Act → World → Prop) : List Nat → Act → World → Prop
  | [], a, w => Q .normal a w
  | i :: r, a, w => match ops[i]? with
    | none => wpLw P ops Ts St Q r a w
    | some o => (chainK o.op = false ∧ ∃ v, YieldsIf P ops (St (lvl ops Ts i)) o v a ∧ wpLw P ops Ts St Q r (a.put o.dst v) w) ∨
      (chainK o.op = true ∧ Region.wanted o (yielded ops a.tmps) = true ∧ o.wp P a w (fun a' w' => St (chl Ts i) w' ∧ wpLw P ops Ts St Q r a' w') NoExit)
def isChain (ops : Array Oper) (i : Nat) : Bool := match ops[i]? with | some o => chainK o.op | none => false
/-- The stages fit the order. -/
def lvOk (ops : Array Oper) (Ts : List Nat) : Bool :=
  (List.range ops.size).all fun j => (List.range j).all fun i =>
    (!isChain ops i || (if isChain ops j then decide (chl Ts i ≤ chl Ts j) else decide (chl Ts i ≤ lvl ops Ts j))) &&
    (isChain ops i || !isChain ops j || ((Region.before ops).getD j 0).testBit i || decide (chl Ts j ≤ lvl ops Ts i))
theorem st_mono {St : Nat → World → Prop} (hst : ∀ c w, St c w → St (c + 1) w) {a b : Nat} (h : a ≤ b) {w : World} (hw : St a w) : St b w := by
  induction h with
  | refl => exact hw
  | step _ ih => exact hst _ _ ih
theorem wpLw_swap (hns : Region.noSelect ops = true) {i j : Nat} {r : List Nat} {a : Act} {w : World} (hok : swapOk ops i j = true) (hS : isChain ops j = false → St (lvl ops Ts j) w)
    (hw : ∀ w, isChain ops i = true → isChain ops j = false → St (chl Ts i) w → St (lvl ops Ts j) w) (h : wpLw P ops Ts St Q (i :: j :: r) a w) : wpLw P ops Ts St Q (j :: i :: r) a w := by
  unfold swapOk at hok
  cases hi : ops[i]? with
  | none => simp [hi] at hok
  | some oi =>
  cases hj : ops[j]? with
  | none => simp [hj] at hok
  | some oj =>
  have ei : isChain ops i = chainK oi.op := by simp [isChain, hi]
  have ej : isChain ops j = chainK oj.op := by simp [isChain, hj]
  simp only [hi, hj, Bool.and_eq_true, Bool.not_eq_true', Bool.and_eq_false_iff] at hok
  obtain ⟨hch, hap⟩ := hok
  have hsi := fun cs b => Region.noSelect_spec hns i oi cs b hi
  have hsj := fun cs b => Region.noSelect_spec hns j oj cs b hj
  obtain ⟨h1, h2, h3⟩ := Oper.apart_spec hap
  simp only [wpLw, hi, hj] at h ⊢
  rcases h with ⟨hci, v, hy, ⟨hcj, u, hy2, hr⟩ | ⟨hcj, hwt, hr⟩⟩ | ⟨hci, hwt, hr⟩
  · exact .inl ⟨hcj, u, yi_back hsj h1 hy2, .inl ⟨hci, v, yi_forth hsi h3 hy, by rw [← Act.put_comm a v u h2]; exact hr⟩⟩
  · refine .inr ⟨hcj, by rw [← hwt]; exact (wanted_put oj a oi.dst v h1).symm, ?_⟩
    refine Oper.wp_mono (fun a' w' hk => ?_) (wp_swap_rc (S := St (lvl ops Ts i)) hsi hsj hap hy hr)
    exact ⟨hk.2.1, .inl ⟨hci, v, hk.1, hk.2.2⟩⟩
  · have hcj : chainK oj.op = false := by
      rcases hch with e | e
      · rw [hci] at e; cases e
      · exact e
    have hSj := hS (by rw [ej]; exact hcj)
    have hr' : oi.wp P a w (fun a' w' => St (lvl ops Ts j) w' ∧ ∃ u, YieldsIf P ops (St (lvl ops Ts j)) oj u a' ∧ (St (chl Ts i) w' ∧ wpLw P ops Ts St Q r (a'.put oj.dst u) w')) NoExit := by
      refine Oper.wp_mono (fun a' w' hk => ⟨hw w' (by rw [ei]; exact hci) (by rw [ej]; exact hcj) hk.1, ?_⟩) hr
      rcases hk.2 with ⟨_, u, hu1, hu2⟩ | ⟨e, _⟩
      · exact ⟨u, hu1, hk.1, hu2⟩
      · rw [hcj] at e; cases e
    obtain ⟨u, hy, hk⟩ := wp_swap_cr (K := fun a' w' => St (chl Ts i) w' ∧ wpLw P ops Ts St Q r a' w') hsi hsj hap hSj hr'
    refine .inl ⟨hcj, u, hy, .inr ⟨hci, ?_, Oper.wp_mono (fun a' w' hk => hk.2) hk⟩⟩
    rw [wanted_put oi a oj.dst u h3]; exact hwt
theorem wpLw_front (hns : Region.noSelect ops = true) {j : Nat} {r : List Nat} : ∀ (l : List Nat) {a : Act} {w : World}, (∀ i ∈ l, swapOk ops i j = true) → (isChain ops j = false → St (lvl ops Ts j) w) →
    (∀ i ∈ l, ∀ w, isChain ops i = true → isChain ops j = false → St (chl Ts i) w → St (lvl ops Ts j) w) → wpLw P ops Ts St Q (l ++ j :: r) a w → wpLw P ops Ts St Q (j :: (l ++ r)) a w
  | [], _, _, _, _, _, h => h
  | i :: l, a, w, hok, hS, hst, h => by
    refine wpLw_swap hns (hok i (by simp)) hS (hst i (by simp)) ?_
    have ih := fun {a : Act} {w : World} (hS : isChain ops j = false → St (lvl ops Ts j) w) => wpLw_front hns (r := r) l (a := a) (w := w) (fun i hi => hok i (by simp [hi])) hS (fun i hi => hst i (by simp [hi]))
    rw [List.cons_append] at h
    unfold wpLw at h ⊢
    cases ho : ops[i]? with
    | none => simp only [ho] at h ⊢; exact ih hS h
    | some o =>
      have ei : isChain ops i = chainK o.op := by simp [isChain, ho]
      simp only [ho] at h ⊢
      rcases h with ⟨h0, v, h1, h2⟩ | ⟨h1, h2, h3⟩
      · exact .inl ⟨h0, v, h1, ih hS h2⟩
      · exact .inr ⟨h1, h2, Oper.wp_mono (fun a w h => ⟨h.1, ih (fun hj => hst i (by simp) _ (by rw [ei]; exact h1) hj h.1) h.2⟩) h3⟩
/-- How far the stages have come. -/
def Come (ops : Array Oper) (Ts : List Nat) (St : Nat → World → Prop) (listed : Array Bool) (w : World) : Prop :=
  ∃ c, St c w ∧ ∀ i, i < ops.size → listed.getD i true = false → if isChain ops i then c ≤ chl Ts i else c ≤ lvl ops Ts i
theorem wpAny_of_lw (hst : ∀ c w, St c w → St (c + 1) w) (hB : lexOk ops = true) (hL : lvOk ops Ts = true) : ∀ (n : Nat) (listed : Array Bool) (a : Act) (w : World), (unl ops listed).length = n → listed.size = ops.size → Closed ops listed → Come ops Ts St listed w → wpLw P ops Ts St Q (unl ops listed) a w → wpAny P .any ops Q n listed a w := by
  have hB' := hB
  simp only [lexOk, Bool.and_eq_true, List.all_eq_true, List.mem_range] at hB'
  obtain ⟨⟨hns, hmask⟩, hall⟩ := hB'
  intro n
  induction n with
  | zero =>
    intro listed a w hn hs hc hS h
    have hnil : unl ops listed = [] := List.eq_nil_of_length_eq_zero hn
    rw [hnil] at h
    refine ⟨?_, h⟩
    cases hr : Region.ready .any ops listed with
    | nil => rfl
    | cons j r =>
      have hj : j ∈ Region.ready .any ops listed := by rw [hr]; simp
      obtain ⟨h0, o, ho, _⟩ := mem_ready.1 hj
      have : j ∈ unl ops listed := by
        unfold unl; rw [List.mem_filter, List.mem_range]
        exact ⟨(Array.getElem?_eq_some_iff.1 ho).1, by simp [h0]⟩
      rw [hnil] at this; cases this
  | succ n ih =>
    intro listed a w hn hs hc hS h
    refine ⟨fun hr => ?_, fun j hj => ?_⟩
    · -- the first that is not listed is ready
      cases hu : unl ops listed with
      | nil => rw [hu] at hn; simp at hn
      | cons k r =>
        exfalso
        have hk : k ∈ unl ops listed := by rw [hu]; simp
        unfold unl at hk
        rw [List.mem_filter, List.mem_range] at hk
        obtain ⟨hk1, hk2⟩ := hk
        have hk2 : listed.getD k true = false := by simpa using hk2
        have ho : ops[k]? = some ops[k] := Array.getElem?_eq_getElem hk1
        have hd := (hall k hk1).1
        simp only [ho] at hd
        have : k ∈ Region.ready .any ops listed := by
          rw [mem_ready]
          refine ⟨hk2, _, ho, fun e he hb => ?_⟩
          have h1 := Array.all_eq_true_iff_forall_mem.1 hd e he
          simp only [hb, Bool.not_true, Bool.false_or, decide_eq_true_eq] at h1
          cases hl : listed.getD e.on false with
          | true => rfl
          | false =>
            exfalso
            obtain ⟨l1, l2, hs1, _, hs3⟩ := unl_split (ops := ops) (j := e.on) hs (by omega) (by rw [getD_lt (by omega) true false]; exact hl)
            rw [hu] at hs1
            cases l1 with
            | nil => simp at hs1; omega
            | cons x l1 =>
              simp at hs1
              have := (hs3 x (by simp)).1
              omega
        rw [hr] at this; cases this
    · obtain ⟨h0, o, ho, hall'⟩ := mem_ready.1 hj
      have hjs : j < ops.size := (Array.getElem?_eq_some_iff.1 ho).1
      obtain ⟨l1, l2, hs1, hs2, hs3⟩ := unl_split (ops := ops) hs hjs h0
      obtain ⟨c, hc1, hc2⟩ := hS
      have ej : isChain ops j = chainK o.op := by simp [isChain, ho]
      have hl1 : ∀ i k, i < k → k < ops.size → isChain ops i = true → isChain ops k = false → chl Ts i ≤ lvl ops Ts k := fun i k hik hk e1 e2 => by
        have := hL
        simp only [lvOk, List.all_eq_true, List.mem_range] at this
        have := this k hk i hik
        simp [e1, e2] at this; exact this
      have hl2 : ∀ i k, i < k → k < ops.size → isChain ops i = true → isChain ops k = true → chl Ts i ≤ chl Ts k := fun i k hik hk e1 e2 => by
        have := hL
        simp only [lvOk, List.all_eq_true, List.mem_range] at this
        have := this k hk i hik
        simp [e1, e2] at this; exact this
      have hl3 : ∀ i k, i < k → k < ops.size → isChain ops i = false → isChain ops k = true → ((Region.before ops).getD k 0).testBit i = false → chl Ts k ≤ lvl ops Ts i := fun i k hik hk e1 e2 e3 => by
        have := hL
        simp only [lvOk, List.all_eq_true, List.mem_range] at this
        have := this k hk i hik
        have e4 := e3
        simp at e4
        simp [e1, e2, e4] at this; exact this
      have hSj : isChain ops j = false → St (lvl ops Ts j) w := fun e => by
        have := hc2 j hjs h0
        rw [e] at this
        exact st_mono hst (by simpa using this) hc1
      have hfront : wpLw P ops Ts St Q (j :: (l1 ++ l2)) a w := by
        refine wpLw_front hns l1 (fun i hi => ?_) hSj (fun i hi w hci hcj hw => ?_) (hs1 ▸ h)
        · obtain ⟨hij, hiu⟩ := hs3 i hi
          have := (hall j hjs).2 i hij
          rw [Bool.or_eq_true] at this
          rcases this with hb | hb
          · have hl := mask_listed hmask hc (j + 1) j o (by omega) ho hall' i hij hb
            rw [getD_lt (by omega) false true, hiu] at hl; cases hl
          · exact hb
        · obtain ⟨hij, _⟩ := hs3 i hi
          exact st_mono hst (hl1 i j hij hjs hci hcj) hw
      have hlen : (unl ops (listed.setIfInBounds j true)).length = n := by
        rw [hs2]; rw [hs1] at hn; simp at hn ⊢; omega
      have hs' : (listed.setIfInBounds j true).size = ops.size := by simpa using hs
      have hc' : Closed ops (listed.setIfInBounds j true) := by
        intro m om hm hl e he hb
        by_cases hmj : m = j
        · subst hmj
          rw [ho] at hm; cases hm
          exact getD_set_true (hall' e he hb)
        · rw [getD_set_ne false (Ne.symm hmj)] at hl
          exact getD_set_true (hc m om hm hl e he hb)
      have hsub : ∀ i, (listed.setIfInBounds j true).getD i true = false → i ≠ j ∧ listed.getD i true = false := fun i hi => by
        by_cases e : j = i
        · subst e; simp at hi
        · rw [getD_set_ne true e] at hi; exact ⟨fun e' => e e'.symm, hi⟩
      have hnext : chainK o.op = true → ∀ w', St (chl Ts j) w' → Come ops Ts St (listed.setIfInBounds j true) w' := fun hck w' hw' => by
        refine ⟨_, hw', fun i hi hiu => ?_⟩
        obtain ⟨hne, hiu⟩ := hsub i hiu
        have hun : i < j → ((Region.before ops).getD j 0).testBit i = false := fun hij => by
          cases hb : ((Region.before ops).getD j 0).testBit i with
          | false => rfl
          | true =>
            have hl := mask_listed hmask hc (j + 1) j o (by omega) ho hall' i hij hb
            rw [getD_lt (by omega) false true, hiu] at hl; cases hl
        have hcj : isChain ops j = true := by rw [ej]; exact hck
        rcases Nat.lt_or_ge i j with hij | hij
        · cases hci : isChain ops i with
          | true =>
            have := (hall j hjs).2 i hij
            rw [hun hij, Bool.false_or] at this
            exfalso
            unfold swapOk at this
            have ho' : ops[i]? = some ops[i] := Array.getElem?_eq_getElem hi
            simp only [isChain, ho'] at hci
            simp [ho', ho, hci, hck] at this
          | false => simpa using hl3 i j hij hjs hci hcj (hun hij)
        · cases hci : isChain ops i with
          | true => simpa using hl2 j i (by omega) hi hcj hci
          | false => simpa using hl1 j i (by omega) hi hcj hci
      have hstay : Come ops Ts St (listed.setIfInBounds j true) w := ⟨c, hc1, fun i hi hiu => hc2 i hi (hsub i hiu).2⟩
      rw [← hs2] at hfront
      unfold wpLw at hfront
      simp only [ho] at hfront
      rcases hfront with ⟨hcf, v, hy, hk⟩ | ⟨hck, hw, hk⟩
      · exact hy.wpOp ho (hSj (by rw [ej]; exact hcf)) (ih _ _ _ hlen hs' hc' hstay hk)
      · unfold wpOp
        simp only [ho, hw, if_true]
        refine .inl ?_
        have h2 := Oper.wp_mono (K' := wpAny P .any ops Q n (listed.setIfInBounds j true)) (fun a' w' hk => ih _ a' w' hlen hs' hc' (hnext hck w' hk.1) hk.2) hk
        -- the empty exit serves every exit
        unfold Oper.wp at h2 ⊢
        generalize (execOp a.eval o).run P w = r at *
        cases r with
        | ok nx w' =>
          cases nx <;> simp only [Oper.upon] at h2 ⊢ <;> first
            | exact h2
            | exact Calls.mono h2 (fun e w'' he => by
                cases e with
                | returned v => exact he
                | panicked c => exact he.elim
                | outgrown => obtain ⟨_, _, he⟩ := he; exact he.elim)
        | halt x w' => cases x <;> simp only [Oper.upon] at h2 ⊢ <;> first | exact h2 | exact h2.elim


/-! ### The walk: four stages -/
def stg4 (S0 S1 S2 S3 : World → Prop) : Nat → World → Prop
  | 0 => S0
  | 1 => S1
  | 2 => S2
  | _ => S3
variable {S0 S1 S2 S3 : World → Prop}
theorem stg4_mono (h0 : ∀ w, S0 w → S1 w) (h1 : ∀ w, S1 w → S2 w) (h2 : ∀ w, S2 w → S3 w) : ∀ c w, stg4 S0 S1 S2 S3 c w → stg4 S0 S1 S2 S3 (c + 1) w
  | 0, w, h => h0 w h
  | 1, w, h => h1 w h
  | 2, w, h => h2 w h
  | _ + 3, w, h => h
/-- An operation's stage. -/
def lev (ops : Array Oper) (Ts : List Nat) (i : Nat) : Nat := if isChain ops i then chl Ts i else lvl ops Ts i
/-- All operations' stages. -/
def levs (ops : Array Oper) (Ts : List Nat) : List Nat := (List.range ops.size).map (lev ops Ts)
/-- The walk in the order of the text; ahead: the stages of the operations that lie ahead. -/
def wpLew (P : Program) (ops : Array Oper) (S0 S1 S2 S3 : World → Prop) (Q : Exit → Act → World → Prop) : List Nat → List Oper → Act → World → Prop
  | _, [], a, w => Q .normal a w
  | [], _ :: _, _, _ => False
  | n :: lv, o :: r, a, w => (chainK o.op = false ∧ ∃ v, YieldsIf P ops (stg4 S0 S1 S2 S3 n) o v a ∧ wpLew P ops S0 S1 S2 S3 Q lv r (a.put o.dst v) w) ∨
      (chainK o.op = true ∧ Region.wanted o (yielded ops a.tmps) = true ∧ o.wp P a w (fun a' w' => stg4 S0 S1 S2 S3 n w' ∧ wpLew P ops S0 S1 S2 S3 Q lv r a' w') NoExit)
theorem lw_of_lew : ∀ (l : List Oper) (lv : List Nat) (k : Nat) (a : Act) (w : World), (∀ j, l[j]? = ops[k + j]?) → (∀ j, j < l.length → lv[j]? = some (lev ops Ts (k + j))) → wpLew P ops S0 S1 S2 S3 Q lv l a w → wpLw P ops Ts (stg4 S0 S1 S2 S3) Q (List.range' k l.length) a w
  | [], lv, _, _, _, _, _, h => by cases lv <;> exact h
  | o :: l, [], k, a, w, hl, hv, h => h.elim
  | o :: l, n :: lv, k, a, w, hl, hv, h => by
    have h0 : ops[k]? = some o := by simpa using (hl 0).symm
    have hn : n = lev ops Ts k := by have := hv 0 (by simp); simpa using this
    have ei : isChain ops k = chainK o.op := by simp [isChain, h0]
    have ih := fun a w => lw_of_lew l lv (k + 1) a w (fun j => by have := hl (j + 1); simpa [Nat.add_assoc, Nat.add_comm 1 j] using this)
      (fun j hj => by have := hv (j + 1) (by simpa using hj); simpa [Nat.add_assoc, Nat.add_comm 1 j] using this)
    simp only [List.length_cons, List.range'_succ]
    unfold wpLw
    simp only [h0]
    unfold lev at hn
    rcases h with ⟨h0, v, h1, h2⟩ | ⟨h1, h2, h3⟩
    · rw [ei, h0] at hn
      have hn : n = lvl ops Ts k := by simpa using hn
      subst hn
      exact .inl ⟨h0, v, h1, ih _ _ h2⟩
    · rw [ei, h1] at hn
      have hn : n = chl Ts k := by simpa using hn
      subst hn
      exact .inr ⟨h1, h2, Oper.wp_mono (fun a' w' hk => ⟨hk.1, ih _ _ hk.2⟩) h3⟩
theorem wp_region_lew {id : Nat} {l : List Oper} {a : Act} {w : World} (Ts lv : List Nat) (S0 S1 S2 S3 : World → Prop) (h0 : ∀ w, S0 w → S1 w) (h1 : ∀ w, S1 w → S2 w) (h2 : ∀ w, S2 w → S3 w) (hm : P.follows .mixedOrders = true) (hB : lexOk l.toArray = true) (hL : lvOk l.toArray Ts = true) (hlv : levs l.toArray Ts = lv) (hS : S0 w.drew)
    (h : wpLew P l.toArray S0 S1 S2 S3 Q lv l a w.drew) : (Code.region id l.toArray true).wp P Q a w := by
  refine wp_region_any hm ?_
  have hu : unl l.toArray (Array.replicate l.toArray.size false) = List.range l.toArray.size := by
    unfold unl
    refine List.filter_eq_self.2 fun i hi => ?_
    have := List.mem_range.1 hi
    simp at this
    simp [this]
  refine wpAny_of_lw (Ts := Ts) (St := stg4 S0 S1 S2 S3) (stg4_mono h0 h1 h2) hB hL _ _ _ _ (by rw [hu]; simp) (by simp) ?_ ⟨0, hS, fun i _ _ => by split <;> omega⟩ ?_
  · intro j o ho hl
    have : j < l.length := by have := (Array.getElem?_eq_some_iff.1 ho).1; simpa using this
    simp [this] at hl
  · rw [hu]
    have := lw_of_lew (P := P) (ops := l.toArray) (Ts := Ts) (S0 := S0) (S1 := S1) (S2 := S2) (S3 := S3) (Q := Q) l lv 0 a w.drew (by simp) (fun j hj => by
      rw [← hlv]; unfold levs; rw [List.getElem?_map, List.getElem?_range (by simpa using hj)]; simp) h
    simpa [List.range_eq_range'] using this
section
variable {o : Oper} {r : List Oper} {n : Nat} {lv : List Nat} {a : Act} {w : World}
theorem lew_nil (h : Q .normal a w) : wpLew P ops S0 S1 S2 S3 Q lv [] a w := by cases lv <;> exact h
theorem lew_skip (hc : chainK o.op = false) (hw : Region.wanted o (yielded ops a.tmps) = false) (h : wpLew P ops S0 S1 S2 S3 Q lv r (a.put o.dst undef) w) : wpLew P ops S0 S1 S2 S3 Q (n :: lv) (o :: r) a w := .inl ⟨hc, undef, .inr ⟨hw, rfl⟩, h⟩
theorem lew_read0 {v : Value} (hc : chainK o.op = false) (hw : Region.wanted o (yielded ops a.tmps) = true) (hv : ∀ w', S0 w' → (execOp a.eval o).run P w' = .ok (.value v) w') (h : wpLew P ops S0 S1 S2 S3 Q lv r (a.put o.dst v) w) : wpLew P ops S0 S1 S2 S3 Q (0 :: lv) (o :: r) a w :=
  .inl ⟨hc, v, .inl ⟨hw, hv⟩, h⟩
theorem lew_read1 {v : Value} (hc : chainK o.op = false) (hw : Region.wanted o (yielded ops a.tmps) = true) (hv : ∀ w', S1 w' → (execOp a.eval o).run P w' = .ok (.value v) w') (h : wpLew P ops S0 S1 S2 S3 Q lv r (a.put o.dst v) w) : wpLew P ops S0 S1 S2 S3 Q (1 :: lv) (o :: r) a w :=
  .inl ⟨hc, v, .inl ⟨hw, hv⟩, h⟩
theorem lew_read2 {v : Value} (hc : chainK o.op = false) (hw : Region.wanted o (yielded ops a.tmps) = true) (hv : ∀ w', S2 w' → (execOp a.eval o).run P w' = .ok (.value v) w') (h : wpLew P ops S0 S1 S2 S3 Q lv r (a.put o.dst v) w) : wpLew P ops S0 S1 S2 S3 Q (2 :: lv) (o :: r) a w :=
  .inl ⟨hc, v, .inl ⟨hw, hv⟩, h⟩
theorem lew_read3 {v : Value} (hc : chainK o.op = false) (hw : Region.wanted o (yielded ops a.tmps) = true) (hv : ∀ w', S3 w' → (execOp a.eval o).run P w' = .ok (.value v) w') (h : wpLew P ops S0 S1 S2 S3 Q lv r (a.put o.dst v) w) : wpLew P ops S0 S1 S2 S3 Q (3 :: lv) (o :: r) a w :=
  .inl ⟨hc, v, .inl ⟨hw, hv⟩, h⟩
theorem lew_chain0 (hc : chainK o.op = true) (hw : Region.wanted o (yielded ops a.tmps) = true) (h : ∀ K : Act → World → Prop, Hid (∀ a' w', S0 w' → wpLew P ops S0 S1 S2 S3 Q lv r a' w' → K a' w') → o.wp P a w K NoExit) : wpLew P ops S0 S1 S2 S3 Q (0 :: lv) (o :: r) a w :=
  .inr ⟨hc, hw, h _ fun _ _ h1 h2 => ⟨h1, h2⟩⟩
theorem lew_chain1 (hc : chainK o.op = true) (hw : Region.wanted o (yielded ops a.tmps) = true) (h : ∀ K : Act → World → Prop, Hid (∀ a' w', S1 w' → wpLew P ops S0 S1 S2 S3 Q lv r a' w' → K a' w') → o.wp P a w K NoExit) : wpLew P ops S0 S1 S2 S3 Q (1 :: lv) (o :: r) a w :=
  .inr ⟨hc, hw, h _ fun _ _ h1 h2 => ⟨h1, h2⟩⟩
theorem lew_chain2 (hc : chainK o.op = true) (hw : Region.wanted o (yielded ops a.tmps) = true) (h : ∀ K : Act → World → Prop, Hid (∀ a' w', S2 w' → wpLew P ops S0 S1 S2 S3 Q lv r a' w' → K a' w') → o.wp P a w K NoExit) : wpLew P ops S0 S1 S2 S3 Q (2 :: lv) (o :: r) a w :=
  .inr ⟨hc, hw, h _ fun _ _ h1 h2 => ⟨h1, h2⟩⟩
theorem lew_chain3 (hc : chainK o.op = true) (hw : Region.wanted o (yielded ops a.tmps) = true) (h : ∀ K : Act → World → Prop, Hid (∀ a' w', S3 w' → wpLew P ops S0 S1 S2 S3 Q lv r a' w' → K a' w') → o.wp P a w K NoExit) : wpLew P ops S0 S1 S2 S3 Q (3 :: lv) (o :: r) a w :=
  .inr ⟨hc, hw, h _ fun _ _ h1 h2 => ⟨h1, h2⟩⟩
theorem lew_read4 {v : Value} (hc : chainK o.op = false) (hw : Region.wanted o (yielded ops a.tmps) = true) (hv : ∀ w', S3 w' → (execOp a.eval o).run P w' = .ok (.value v) w') (h : wpLew P ops S0 S1 S2 S3 Q lv r (a.put o.dst v) w) : wpLew P ops S0 S1 S2 S3 Q (4 :: lv) (o :: r) a w :=
  .inl ⟨hc, v, .inl ⟨hw, hv⟩, h⟩
theorem lew_chain4 (hc : chainK o.op = true) (hw : Region.wanted o (yielded ops a.tmps) = true) (h : ∀ K : Act → World → Prop, Hid (∀ a' w', S3 w' → wpLew P ops S0 S1 S2 S3 Q lv r a' w' → K a' w') → o.wp P a w K NoExit) : wpLew P ops S0 S1 S2 S3 Q (4 :: lv) (o :: r) a w :=
  .inr ⟨hc, hw, h _ fun _ _ h1 h2 => ⟨h1, h2⟩⟩
end
end
end Go.CH
namespace Go.Proofs.Ytapabbpdfplpoaa
open Go.RowKit Go.CH Go.CH.Lic
open Go.ChangeMaps (setBlock)

theorem ptrsOk : SliceOk Try.prog 133 136 (.pointer none) 1 8 := ⟨Try.underlying133, by kernel_rfl, by decide, by decide⟩
/-- A licence that comes in by value: its lists are nil or somewhere. -/
structure LicAt (w : World) (l : LicM) (A : Option Addr) (c : Nat) (B : Option Addr) (d : Nat) : Prop where
  h : LicIn w l A B
  mc : A = none → c = 0 ∧ l.ms.length = 0
  pc : B = none → d = 0 ∧ l.ps.length = 0
theorem LicAt.keep {w W : World} {l : LicM} {A B : Option Addr} {c d : Nat} (h : LicAt w l A c B d) (hb : Below w.heap.size w W) : LicAt W l A c B d := ⟨h.h.keep hb, h.mc, h.pc⟩
theorem bkZ_add {b : BkM} {s : BkP} (hz : BkZ b s) (z : ZG) (l : LicM) (hg : z.g = ⟨l, 0, 0, -1⟩) (A : Option Addr) (c : Nat) : BkZ (addM b l) { s with A := A, c := c, zs := s.zs ++ [z] } := by
  refine ⟨?_, hz.2.1, fun t ht => ?_⟩
  · simp [addM, hz.1, hg]
  · obtain ⟨y, h1, h2⟩ := hz.2.2 t ht
    have hi := (List.getElem?_eq_some_iff.1 h1).1
    exact ⟨y, by rw [List.getElem?_append_left hi]; exact h1, h2⟩
theorem entI_snoc {zs : List ZG} {z : ZG} (h : ∀ y ∈ zs, y.g.l.id ≠ z.g.l.id) : mput (entI zs) z.g.l.id (gptr z.p) = entI (zs ++ [z]) := by
  rw [mput_new_ (by
    intro hm
    unfold entI at hm
    rw [List.map_map, List.mem_map] at hm
    obtain ⟨y, hy, he⟩ := hm
    exact h y hy he)]
  unfold entI; simp
set_option maxRecDepth 100000 in
set_option maxHeartbeats 3200000 in
theorem add_any {w : World} {F : Nat → Prop} {b : BkM} {p : Nat} {l : LicM} {A B : Option Addr} {c d : Nat} (h : BkO b p w F) (hl : LicAt w l A c B d) (hnew : ∀ g ∈ b.gs, g.l.id ≠ l.id) (hlen : b.gs.length < 100) :
    Calls Try.prog 75 #[gptr p, licV l A c B d] w (BPost w F (.tuple #[]) (addM b l) p) := by
  obtain ⟨s, hz, hS⟩ := h
  have hzl : s.zs.length < 100 := by rw [zs_len hz]; exact hlen
  have hnew' : ∀ y ∈ s.zs, y.g.l.id ≠ l.id := fun y hy => hnew _ (by rw [← hz.1]; exact List.mem_map_of_mem hy)
  have HZ := hide hz
  have HN := hide hnew'
  have R1 := hide ((Run.start hS).fresh bkS_ok (cell_new w (licC l A c B d) 56))
  have hlt : p < w.heap.size := World.block_lt_of_cell? _ _ hS.read.c0
  have hbox := hide (((Run.begin w).fresh emp_ok (cell_new w (licC l A c B d) 56)).imp fun _ _ h => star_emp h)
  have KM := hide (fun W (hb : Below w.heap.size w W) => cloneS_any (c := c) (hl.keep hb).h.ms hl.h.mn hl.mc)
  have KP := hide (fun W (hb : Below w.heap.size w W) => cloneS_any (c := d) (hl.keep hb).h.ps hl.h.pn hl.pc)
  have B1 := hide ((Below.refl w.heap.size w).alloc (Nat.le_refl _) (.cells (licC l A c B d) 56))
  clear hz hnew hnew' hlen hl hS
  unfold licC at R1 hbox B1
  unfold licV
  obtain ⟨c0, c1, c2, c3, c4, c5, c6⟩ := box_reads hbox.out
  unfold gptr
  go_enter Try.func75, Try.ntmps75
  go_wp2_with fail
  have R2 := hide (R1.out.drew (star_ok cell_ok bkS_ok))
  have B2 := hide (below_drew B1.out)
  clear R1 B1 hbox
  refine wp_region_lew [2, 5, 7, 9] [0, 0, 1, 1, 1, 2, 2, 3, 3, 4] (fun w' => w'.cell? ⟨w.heap.size, 1, none⟩ = some (.slice A l.ms.length c) ∧ w'.cell? ⟨w.heap.size, 2, none⟩ = some (.slice B l.ps.length d)) (fun w' => w'.cell? ⟨w.heap.size, 2, none⟩ = some (.slice B l.ps.length d)) (fun _ => True) (fun _ => True) (fun _ h => h.2) (fun _ _ => trivial) (fun _ h => h) (by kernel_rfl) (by kernel_rfl) (by kernel_rfl) (by kernel_rfl) (by exact ⟨c1, c2⟩) ?_
  clear c0 c1 c2 c3 c4 c5 c6
  generalize (w.alloc (.cells #[.string l.id, .slice A l.ms.length c, .slice B l.ps.length d, .int .i64 l.q, .int .i64 l.u, .int .i64 l.f, .int .i64 l.t] 56)).drew = w1 at *
  (repeat (first | (refine lew_skip (by rfl) (by rfl) ?_; try simp only [Act.put, List.setIfInBounds_toArray, List.set_cons_zero, List.set_cons_succ]) | (refine lew_read0 (v := ?_) (by rfl) (by rfl) ?_ ?_; rotate_left; (focus (intro w' hS'; go_simp; (try with_reducible rfl); done)); try simp only [Act.put, List.setIfInBounds_toArray, List.set_cons_zero, List.set_cons_succ]) | (refine lew_read1 (v := ?_) (by rfl) (by rfl) ?_ ?_; rotate_left; (focus (intro w' hS'; go_simp; (try with_reducible rfl); done)); try simp only [Act.put, List.setIfInBounds_toArray, List.set_cons_zero, List.set_cons_succ]) | (refine lew_read2 (v := ?_) (by rfl) (by rfl) ?_ ?_; rotate_left; (focus (intro w' hS'; go_simp; (try with_reducible rfl); done)); try simp only [Act.put, List.setIfInBounds_toArray, List.set_cons_zero, List.set_cons_succ]) | (refine lew_read3 (v := ?_) (by rfl) (by rfl) ?_ ?_; rotate_left; (focus (intro w' hS'; go_simp; (try with_reducible rfl); done)); try simp only [Act.put, List.setIfInBounds_toArray, List.set_cons_zero, List.set_cons_succ]) | (refine lew_read4 (v := ?_) (by rfl) (by rfl) ?_ ?_; rotate_left; (focus (intro w' hS'; go_simp; (try with_reducible rfl); done)); try simp only [Act.put, List.setIfInBounds_toArray, List.set_cons_zero, List.set_cons_succ])))
  refine lew_chain1 rfl (by rfl) (fun K hK => ?_)
  go_wp2_with fail
  refine (KM.out _ B2.out).mono ?_
  rintro e w2 ⟨A', c', rfl, hp2⟩
  have R3 := hide (R2.out.fresh (star_ok cell_ok bkS_ok) hp2)
  have B3 := hide (B2.out.trans (((Run.begin w1).fresh emp_ok hp2).bel.mono (by have := B2.out.size; omega)))
  clear hp2 R2
  obtain ⟨F3, hC3⟩ := R3.out.rot.fst
  refine hK.out _ _ (cell_at hC3 rfl) ?_
  clear hK hC3
  (repeat (first | (refine lew_skip (by rfl) (by rfl) ?_; try simp only [Act.put, List.setIfInBounds_toArray, List.set_cons_zero, List.set_cons_succ]) | (refine lew_read0 (v := ?_) (by rfl) (by rfl) ?_ ?_; rotate_left; (focus (intro w' hS'; go_simp; (try with_reducible rfl); done)); try simp only [Act.put, List.setIfInBounds_toArray, List.set_cons_zero, List.set_cons_succ]) | (refine lew_read1 (v := ?_) (by rfl) (by rfl) ?_ ?_; rotate_left; (focus (intro w' hS'; go_simp; (try with_reducible rfl); done)); try simp only [Act.put, List.setIfInBounds_toArray, List.set_cons_zero, List.set_cons_succ]) | (refine lew_read2 (v := ?_) (by rfl) (by rfl) ?_ ?_; rotate_left; (focus (intro w' hS'; go_simp; (try with_reducible rfl); done)); try simp only [Act.put, List.setIfInBounds_toArray, List.set_cons_zero, List.set_cons_succ]) | (refine lew_read3 (v := ?_) (by rfl) (by rfl) ?_ ?_; rotate_left; (focus (intro w' hS'; go_simp; (try with_reducible rfl); done)); try simp only [Act.put, List.setIfInBounds_toArray, List.set_cons_zero, List.set_cons_succ]) | (refine lew_read4 (v := ?_) (by rfl) (by rfl) ?_ ?_; rotate_left; (focus (intro w' hS'; go_simp; (try with_reducible rfl); done)); try simp only [Act.put, List.setIfInBounds_toArray, List.set_cons_zero, List.set_cons_succ])))
  refine lew_chain2 rfl (by rfl) (fun K hK => ?_)
  go_wp2_with fail
  refine (KP.out _ B3.out).mono ?_
  rintro e w3 ⟨B', d', rfl, hp3⟩
  have R4 := hide (R3.out.fresh (star_ok row_ok (star_ok cell_ok bkS_ok)) hp3)
  clear hp3 R3 KM KP B2 B3
  refine hK.out _ _ trivial ?_
  clear hK
  obtain ⟨F4, hC4, -, bk4⟩ := R4.out.rot3.take cell_ok (star_ok row_ok (star_ok row_ok bkS_ok))
  have q1 := cell_at hC4 (i := 1) rfl
  have q2 := cell_at hC4 (i := 2) rfl
  have f1 := cell_free hC4 1
  have f2 := cell_free hC4 2
  have R5 := hide (bk4 _ _ (cell_set2 hC4 1 2 (.slice A' l.ms.length c') (.slice B' l.ps.length d')))
  clear hC4 bk4 R4
  (repeat (first | (refine lew_skip (by rfl) (by rfl) ?_; try simp only [Act.put, List.setIfInBounds_toArray, List.set_cons_zero, List.set_cons_succ]) | (refine lew_read0 (v := ?_) (by rfl) (by rfl) ?_ ?_; rotate_left; (focus (intro w' hS'; go_simp; (try with_reducible rfl); done)); try simp only [Act.put, List.setIfInBounds_toArray, List.set_cons_zero, List.set_cons_succ]) | (refine lew_read1 (v := ?_) (by rfl) (by rfl) ?_ ?_; rotate_left; (focus (intro w' hS'; go_simp; (try with_reducible rfl); done)); try simp only [Act.put, List.setIfInBounds_toArray, List.set_cons_zero, List.set_cons_succ]) | (refine lew_read2 (v := ?_) (by rfl) (by rfl) ?_ ?_; rotate_left; (focus (intro w' hS'; go_simp; (try with_reducible rfl); done)); try simp only [Act.put, List.setIfInBounds_toArray, List.set_cons_zero, List.set_cons_succ]) | (refine lew_read3 (v := ?_) (by rfl) (by rfl) ?_ ?_; rotate_left; (focus (intro w' hS'; go_simp; (try with_reducible rfl); done)); try simp only [Act.put, List.setIfInBounds_toArray, List.set_cons_zero, List.set_cons_succ]) | (refine lew_read4 (v := ?_) (by rfl) (by rfl) ?_ ?_; rotate_left; (focus (intro w' hS'; go_simp; (try with_reducible rfl); done)); try simp only [Act.put, List.setIfInBounds_toArray, List.set_cons_zero, List.set_cons_succ])))
  refine lew_chain3 rfl (by rfl) (fun K hK => ?_)
  go_wp2_with fail
  refine hK.out _ _ trivial ?_
  clear hK
  (repeat (first | (refine lew_skip (by rfl) (by rfl) ?_; try simp only [Act.put, List.setIfInBounds_toArray, List.set_cons_zero, List.set_cons_succ]) | (refine lew_read0 (v := ?_) (by rfl) (by rfl) ?_ ?_; rotate_left; (focus (intro w' hS'; go_simp; (try with_reducible rfl); done)); try simp only [Act.put, List.setIfInBounds_toArray, List.set_cons_zero, List.set_cons_succ]) | (refine lew_read1 (v := ?_) (by rfl) (by rfl) ?_ ?_; rotate_left; (focus (intro w' hS'; go_simp; (try with_reducible rfl); done)); try simp only [Act.put, List.setIfInBounds_toArray, List.set_cons_zero, List.set_cons_succ]) | (refine lew_read2 (v := ?_) (by rfl) (by rfl) ?_ ?_; rotate_left; (focus (intro w' hS'; go_simp; (try with_reducible rfl); done)); try simp only [Act.put, List.setIfInBounds_toArray, List.set_cons_zero, List.set_cons_succ]) | (refine lew_read3 (v := ?_) (by rfl) (by rfl) ?_ ?_; rotate_left; (focus (intro w' hS'; go_simp; (try with_reducible rfl); done)); try simp only [Act.put, List.setIfInBounds_toArray, List.set_cons_zero, List.set_cons_succ]) | (refine lew_read4 (v := ?_) (by rfl) (by rfl) ?_ ?_; rotate_left; (focus (intro w' hS'; go_simp; (try with_reducible rfl); done)); try simp only [Act.put, List.setIfInBounds_toArray, List.set_cons_zero, List.set_cons_succ])))
  refine lew_chain4 rfl (by rfl) (fun K hK => ?_)
  go_wp2_with fail
  refine hK.out _ _ trivial (lew_nil ?_)
  clear hK q1 q2 f1 f2
  generalize (w3.setCell ⟨w.heap.size, 1, none⟩ (.slice A' l.ms.length c')).setCell ⟨w.heap.size, 2, none⟩ (.slice B' l.ps.length d') = w5 at *
  have R5' := hide (show Run F w (star (CellO w.heap.size #[.string l.id, .slice A' l.ms.length c', .slice B' l.ps.length d', .int .i64 l.q, .int .i64 l.u, .int .i64 l.f, .int .i64 l.t] 56) _) w5 from R5.out)
  clear R5
  obtain ⟨F5, hC5⟩ := R5'.out.fst
  have x0 := cell_at hC5 (i := 0) rfl
  have x1 := cell_at hC5 (i := 1) rfl
  have x2 := cell_at hC5 (i := 2) rfl
  have x3 := cell_at hC5 (i := 3) rfl
  have x4 := cell_at hC5 (i := 4) rfl
  have x5 := cell_at hC5 (i := 5) rfl
  have x6 := cell_at hC5 (i := 6) rfl
  clear hC5
  obtain ⟨FS, hSS⟩ := (R5'.out.perm (by ac_rfl : _ = star (BkS p s) (star (CellO w.heap.size #[.string l.id, .slice A' l.ms.length c', .slice B' l.ps.length d', .int .i64 l.q, .int .i64 l.u, .int .i64 l.f, .int .i64 l.t] 56) (star (RowO 9 1 (.slice B' l.ps.length d') l.ps.length (strs l.ps)) (RowO 9 1 (.slice A' l.ms.length c') l.ms.length (strs l.ms)))))).fst
  have d0 := hSS.read.c0
  clear hSS
  have hlt5 : p < w5.heap.size := World.block_lt_of_cell? _ _ d0
  have R6 := hide (R5'.out.fresh (star_ok cell_ok (star_ok row_ok (star_ok row_ok bkS_ok))) (cell_new w5 (gcell ⟨⟨l, 0, 0, -1⟩, w5.heap.size, A', c', B', d'⟩) 147))
  have RQ := hide (R6.out.fresh (star_ok cell_ok (star_ok cell_ok (star_ok row_ok (star_ok row_ok bkS_ok)))) (cell_new _ #[gptr w5.heap.size] 136))
  have HSRC := hide (Src.one (RQ.out.fst.choose_spec.1) rfl)
  rw [show (w5.alloc (.cells (gcell ⟨⟨l, 0, 0, -1⟩, w5.heap.size, A', c', B', d'⟩) 147)).heap.size = w5.heap.size + 1 by simp] at RQ HSRC
  obtain ⟨REST, hREST⟩ : ∃ R, R = star (CellO p (bcell s) 135) (star (bigStar (s.zs.map gow)) (star (MapO Value.string s.bI (entI s.zs)) (star (MapO Value.string s.bK (entK s.ts)) (star (bigStar (s.ts.map tow)) (star (gow ⟨⟨l, 0, 0, -1⟩, w5.heap.size, A', c', B', d'⟩) (CellO w.heap.size #[.string l.id, .slice A' l.ms.length c', .slice B' l.ps.length d', .int .i64 l.q, .int .i64 l.u, .int .i64 l.f, .int .i64 l.t] 56)))))) := ⟨_, rfl⟩
  have OKR : REST.Ok := by
    rw [hREST]
    exact star_ok cell_ok (star_ok (big_ok (fun A hA => by obtain ⟨z, _, rfl⟩ := List.mem_map.1 hA; exact gow_ok z)) (star_ok map_ok (star_ok map_ok (star_ok tows_ok (star_ok (gow_ok _) cell_ok)))))
  have RQ2 := hide (RQ.out.drop.perm (show _ = star (RowO 136 1 (.slice s.A s.zs.length s.c) s.zs.length (s.zs.flatMap gcl)) REST by
    rw [hREST, show gow ⟨⟨l, 0, 0, -1⟩, w5.heap.size, A', c', B', d'⟩ = star (CellO w5.heap.size (gcell ⟨⟨l, 0, 0, -1⟩, w5.heap.size, A', c', B', d'⟩) 147) (star (RowO 9 1 (.slice A' l.ms.length c') l.ms.length (strs l.ms)) (RowO 9 1 (.slice B' l.ps.length d') l.ps.length (strs l.ps))) from rfl]; unfold BkS ARow; ac_rfl))
  have HREST := hide hREST
  have HOKR := hide OKR
  clear hREST OKR RQ R6 R5'
  go_wp2_with (at_builtin; refine held ?_)
  obtain ⟨F7, hR7, -, bk7⟩ := RQ2.out.take row_ok HOKR.out
  refine Held.mk (wpList_app rfl (.tmp 20) (.tmp 22) rfl ptrsOk _ 0 (v := .slice s.A s.zs.length s.c) (n := s.zs.length) (xs := s.zs.flatMap gcl) rfl hR7.1 (A := some ⟨w5.heap.size + 1, 0, none⟩) (m := 1) (c := 1) (news := [gptr w5.heap.size]) rfl HSRC.out (by omega) (by omega) (Nat.zero_le _) ?_)
  intro v8 w8 ho8 hg8 hv8
  have S8 := bk7 _ _ (row_app hR7 ho8 hg8 hv8)
  obtain ⟨A8, c8, rfl⟩ := own_form ho8
  clear ho8 hg8 hv8 bk7 hR7 HSRC RQ2 x0 x1 x2 x3 x4 x5 x6 d0
  rw [HREST.out] at S8
  have OKG : (bigStar (s.zs.map gow)).Ok := big_ok (fun A hA => by obtain ⟨z, _, rfl⟩ := List.mem_map.1 hA; exact gow_ok z)
  obtain ⟨F9, hC9, -, bk9⟩ := S8.rot.take cell_ok (star_ok row_ok (star_ok OKG (star_ok map_ok (star_ok map_ok (star_ok tows_ok (star_ok (gow_ok _) cell_ok))))))
  have d9 := cell_at hC9 (i := 0) rfl
  have f9 := cell_free hC9 0
  have S9 := hide (bk9 _ _ (cell_set hC9 0 (.slice A8 (s.zs.length + 1) c8)))
  clear hC9 bk9 S8 HREST HOKR
  go_wp2_with fail
  generalize w8.setCell ⟨p, 0, none⟩ (.slice A8 (s.zs.length + 1) c8) = w9 at *
  have S10 := S9.out.drew (star_ok cell_ok (star_ok row_ok (star_ok OKG (star_ok map_ok (star_ok map_ok (star_ok tows_ok (star_ok (gow_ok _) cell_ok)))))))
  obtain ⟨G1, g1⟩ := S10.fst
  have e1 : w9.drew.cell? ⟨p, 1, none⟩ = some (.map (some s.bI)) := cell_at g1 (i := 1) rfl
  have S11 := S10.perm (by ac_rfl : _ = star (MapO Value.string s.bI (entI s.zs)) (star (CellO w.heap.size #[.string l.id, .slice A' l.ms.length c', .slice B' l.ps.length d', .int .i64 l.q, .int .i64 l.u, .int .i64 l.f, .int .i64 l.t] 56) (star (CellO p ((bcell s).setIfInBounds 0 (.slice A8 (s.zs.length + 1) c8)) 135) (star (RowO 136 1 (.slice A8 (s.zs.length + 1) c8) (s.zs.length + 1) (s.zs.flatMap gcl ++ [gptr w5.heap.size])) (star (bigStar (s.zs.map gow)) (star (MapO Value.string s.bK (entK s.ts)) (star (bigStar (s.ts.map tow)) (gow ⟨⟨l, 0, 0, -1⟩, w5.heap.size, A', c', B', d'⟩))))))))
  obtain ⟨G2, g2⟩ := S11.rot.fst
  have e2 : w9.drew.cell? ⟨w.heap.size, 0, none⟩ = some (.string l.id) := cell_at g2 (i := 0) rfl
  obtain ⟨G3, g3, -, bk3⟩ := S11.take map_ok (star_ok cell_ok (star_ok cell_ok (star_ok row_ok (star_ok OKG (star_ok map_ok (star_ok tows_ok (gow_ok _)))))))
  obtain ⟨w10, hup, hpost⟩ := mapO_put keyStr Try.underlying131 g3 l.id (gptr w5.heap.size)
  have S12 := bk3 _ _ hpost
  have hent := entI_snoc (zs := s.zs) (z := ⟨⟨l, 0, 0, -1⟩, w5.heap.size, A', c', B', d'⟩) HN.out
  rw [show ((⟨⟨l, 0, 0, -1⟩, w5.heap.size, A', c', B', d'⟩ : ZG).g.l.id) = l.id from rfl, show ((⟨⟨l, 0, 0, -1⟩, w5.heap.size, A', c', B', d'⟩ : ZG).p) = w5.heap.size from rfl] at hent
  rw [hent] at S12
  have S13 : Run F w (BkS p { s with A := A8, c := c8, zs := s.zs ++ [⟨⟨l, 0, 0, -1⟩, w5.heap.size, A', c', B', d'⟩] }) w10 := by
    have h1 := (S12.rot.drop).perm (by ac_rfl : _ = star (star (RowO 136 1 (.slice A8 (s.zs.length + 1) c8) (s.zs.length + 1) (s.zs.flatMap gcl ++ [gptr w5.heap.size])) (star (gow ⟨⟨l, 0, 0, -1⟩, w5.heap.size, A', c', B', d'⟩) (bigStar (s.zs.map gow)))) (star (CellO p ((bcell s).setIfInBounds 0 (.slice A8 (s.zs.length + 1) c8)) 135) (star (MapO Value.string s.bI (entI (s.zs ++ [⟨⟨l, 0, 0, -1⟩, w5.heap.size, A', c', B', d'⟩]))) (star (MapO Value.string s.bK (entK s.ts)) (bigStar (s.ts.map tow))))))
    have h2 : Run F w (star (ARow gcl gow 136 1 (.slice A8 (s.zs.length + 1) c8) (s.zs ++ [⟨⟨l, 0, 0, -1⟩, w5.heap.size, A', c', B', d'⟩])) (star (CellO p #[.slice A8 (s.zs.length + 1) c8, .map (some s.bI), .map (some s.bK)] 135) (star (MapO Value.string s.bI (entI (s.zs ++ [⟨⟨l, 0, 0, -1⟩, w5.heap.size, A', c', B', d'⟩]))) (star (MapO Value.string s.bK (entK s.ts)) (bigStar (s.ts.map tow)))))) w10 :=
      h1.imp fun w F h => star_mono h (fun F h => arow_snoc (cl := gcl) (ow := gow) (z := ⟨⟨l, 0, 0, -1⟩, w5.heap.size, A', c', B', d'⟩) h) (fun _ h => h)
    refine h2.perm ?_
    unfold BkS bcell
    rw [List.length_append, show [(⟨⟨l, 0, 0, -1⟩, w5.heap.size, A', c', B', d'⟩ : ZG)].length = 1 from rfl]
    ac_rfl
  have HP := hide (S13.post bkS_ok)
  have HZ2 := hide (bkZ_add HZ.out ⟨⟨l, 0, 0, -1⟩, w5.heap.size, A', c', B', d'⟩ l rfl A8 c8)
  unfold gptr at hup
  refine wp_region_ley (fun w' => w' = w9.drew) (by kernel_rfl) (by kernel_rfl) (by kernel_rfl) rfl ?_
  clear S9 S10 S11 S12 S13 g1 g2 g3 bk3 hpost hent OKG
  (repeat (first | (refine ley_skip (by rfl) ?_; try simp only [Act.put, List.setIfInBounds_toArray, List.set_cons_zero, List.set_cons_succ]) | (refine ley_read (v := ?_) (by rfl) ?_ ?_; rotate_left; (focus (intro w' hS'; go_simp; (try with_reducible rfl); done)); try simp only [Act.put, List.setIfInBounds_toArray, List.set_cons_zero, List.set_cons_succ])))
  refine ley_last rfl (by rfl) (fun K hK => ?_)
  go_wp2_with fail
  refine hK.out _ _ ?_
  clear hK
  go_wp2_with fail
  refine bodyPost_end (results_none rfl _ _ _) rfl ?_
  exact BPost.mk' HZ2.out HP.out
end Go.Proofs.Ytapabbpdfplpoaa
namespace Go.Proofs.Ytapabbpdfplpoaa
open Go.RowKit Go.CH Go.CH.Lic
open Go.ChangeMaps (setBlock)

def NewB (w : World) (e : Ending) (w' : World) : Prop := ∃ p, e = .returned (gptr p) ∧ Post w (fun _ => False) (BkO newM p) w'
set_option maxHeartbeats 800000 in
theorem newb_any (w : World) : Calls Try.prog 37 #[] w (NewB w) := by
  have hmk1 : ∀ w : World, (Instr.makeMap 131 none).run Try.prog w = .ok (.map (some w.heap.size)) (w.alloc (.map #[] 0)) := fun w => by kernel_rfl
  have hmk2 : ∀ w : World, (Instr.makeMap 132 none).run Try.prog w = .ok (.map (some w.heap.size)) (w.alloc (.map #[] 0)) := fun w => by kernel_rfl
  have R1 := (Run.begin w).fresh emp_ok (map_new (kv := Value.string) w)
  have R2 := R1.fresh (star_ok map_ok emp_ok) (map_new (kv := Value.string) (w.alloc (.map #[] 0)))
  have R3 := R2.fresh (star_ok map_ok (star_ok map_ok emp_ok)) (cell_new ((w.alloc (.map #[] 0)).alloc (.map #[] 0)) #[.slice none 0 0, .map (some w.heap.size), .map (some (w.heap.size + 1))] 135)
  rw [show (w.alloc (.map #[] 0)).heap.size = w.heap.size + 1 by simp] at R3
  have e1 : ((w.alloc (.map #[] 0)).alloc (.map #[] 0)).heap.size = w.heap.size + 1 + 1 := by simp
  rw [e1] at R3
  have R4 : Run (fun _ => False) w (BkS (w.heap.size + 1 + 1) ⟨none, 0, w.heap.size, w.heap.size + 1, [], []⟩) (((w.alloc (.map #[] 0)).alloc (.map #[] 0)).alloc (.cells #[.slice none 0 0, .map (some w.heap.size), .map (some (w.heap.size + 1))] 135)) := by
    have h1 := (R3.perm (by ac_rfl : _ = star (star (CellO (w.heap.size + 1 + 1) #[.slice none 0 0, .map (some w.heap.size), .map (some (w.heap.size + 1))] 135) (star (MapO Value.string w.heap.size []) (MapO Value.string (w.heap.size + 1) []))) emp)).imp fun w F h => star_emp h
    have h2 := h1.imp (B := star (star (CellO (w.heap.size + 1 + 1) #[.slice none 0 0, .map (some w.heap.size), .map (some (w.heap.size + 1))] 135) (star (MapO Value.string w.heap.size []) (MapO Value.string (w.heap.size + 1) []))) (ARow gcl gow 136 1 (.slice none 0 0) [])) fun w F h => by
      exact ⟨F, fun _ => False, h, arow_nil w _ _, fun _ _ h => h, fun i => by simp⟩
    have h3 := h2.imp (B := star (star (star (CellO (w.heap.size + 1 + 1) #[.slice none 0 0, .map (some w.heap.size), .map (some (w.heap.size + 1))] 135) (star (MapO Value.string w.heap.size []) (MapO Value.string (w.heap.size + 1) []))) (ARow gcl gow 136 1 (.slice none 0 0) [])) emp) fun w F h => star_emp' h
    refine h3.perm ?_
    unfold BkS bcell
    show _ = star (CellO (w.heap.size + 1 + 1) #[.slice none 0 0, .map (some w.heap.size), .map (some (w.heap.size + 1))] 135) (star (ARow gcl gow 136 1 (.slice none 0 0) []) (star (MapO Value.string w.heap.size []) (star (MapO Value.string (w.heap.size + 1) []) emp)))
    ac_rfl
  have HP := hide (R4.post bkS_ok)
  clear R1 R2 R3 R4 e1
  go_enter Try.func37, Try.ntmps37
  go_wp2
  go_ret
  obtain ⟨F', q1, q2, q3⟩ := HP.out
  exact ⟨_, rfl, F', ⟨_, ⟨rfl, rfl, by simp⟩, q1⟩, q2, q3⟩
set_option maxRecDepth 100000 in
set_option maxHeartbeats 1600000 in
theorem grant_any {w : World} {F : Nat → Prop} {b : BkM} {p : Nat} {l : LicM} {A B : Option Addr} {c d : Nat} (h : BkO b p w F) (hl : LicAt w l A c B d) :
    Calls Try.prog 38 #[gptr p, licV l A c B d] w (BPost w F (.int .i64 (grantR b l).1) (grantR b l).2 p) := by
  have HO := hide h
  obtain ⟨s, hz, hS⟩ := h
  have R1 := hide ((Run.start hS).below bkS_ok ((Below.refl w.heap.size w).alloc (Nat.le_refl _) (.cells (licC l A c B d) 56)))
  have BX := hide (((Run.begin w).fresh emp_ok (cell_new w (licC l A c B d) 56)).imp fun _ _ h => star_emp h)
  have KV := hide (fun W (hb : Below w.heap.size w W) => valid_any (c := c) (d := d) (hl.keep hb).h)
  have HL := hide hl
  have hlt : p < w.heap.size := World.block_lt_of_cell? _ _ hS.read.c0
  clear hS hl
  obtain ⟨c0, c1, c2, c3, c4, c5, c6⟩ := box_reads (show Run _ _ (CellO w.heap.size #[.string l.id, .slice A l.ms.length c, .slice B l.ps.length d, .int .i64 l.q, .int .i64 l.u, .int .i64 l.f, .int .i64 l.t] 56) _ from BX.out)
  cases hv : valid l with
  | false =>
    have e : grantR b l = (1, b) := by unfold grantR; simp [hv]
    rw [e]
    rw [hv] at KV
    clear hv e hz
    unfold gptr licV licC at *
    go_enter Try.func38, Try.ntmps38
    go_wp2_with fail
    refine (KV.out _ BX.out.bel).mono ?_
    rintro e w2 ⟨rfl, hb⟩
    have HB := hide (BX.out.bel.trans (hb.mono (by simp)))
    clear hb
    go_wp2
    go_ret
    exact BPost.below HO.out _ HB.out
  | true =>
    rw [hv] at KV
    have hn := hide (show s.zs.length = b.gs.length from zs_len hz)
    cases hf : findG b l.id with
    | some i =>
      have e : grantR b l = (9, b) := by unfold grantR; simp [hv, hf]
      rw [e]
      obtain ⟨hi, h1, h2⟩ := bk_find hz hf
      have HFZ := hide h1
      generalize s.zs[i].p = gp at *
      clear hv e hz hf h1 h2
      unfold gptr licV licC at *
      go_enter Try.func38, Try.ntmps38
      go_wp2_with fail
      refine (KV.out _ BX.out.bel).mono ?_
      rintro e w2 ⟨rfl, hb⟩
      have RB := (R1.out.below bkS_ok hb).drew bkS_ok
      have BB := bk_read RB
      have m0 := BB.c0
      have m1 := BB.c1
      have ml := BB.lookI l.id
      rw [HFZ.out] at ml
      have BX2 := hide ((BX.out.below cell_ok hb).drew cell_ok)
      obtain ⟨q0, q1, q2, q3, q4, q5, q6⟩ := box_reads BX2.out
      have HBL := hide (below_drew (BX.out.bel.trans (hb.mono (by simp))))
      have RO2 := hide ((((Run.start HO.out).below bkO_ok ((Below.refl w.heap.size w).alloc (Nat.le_refl _) _)).below bkO_ok hb).drew bkO_ok)
      clear hb RB BB c0 c1 c2 c3 c4 c5 c6
      go_wp2_with fail
      refine wp_region_lex (fun w' => w' = w2.drew) (by kernel_rfl) (by kernel_rfl) rfl ?_
      (repeat (first | (refine lex_skip (by rfl) ?_; try simp only [Act.put, List.setIfInBounds_toArray, List.set_cons_zero, List.set_cons_succ]) | (refine lex_read (v := ?_) (by rfl) ?_ ?_; rotate_left; (focus (intro w' hS'; go_simp; (try with_reducible rfl); done)); try simp only [Act.put, List.setIfInBounds_toArray, List.set_cons_zero, List.set_cons_succ])))
      refine lex_nil ?_
      go_wp2
      go_ret
      exact BPost.below HO.out _ HBL.out
    | none =>
      have HFZ := hide (bk_find0 hz hf)
      have HNEW := hide (findG_none hf)
      by_cases hlen : 100 ≤ b.gs.length
      · have e : grantR b l = (28, b) := by unfold grantR; simp [hv, hf, hlen]
        rw [e]
        rw [← hn.out] at hlen
        clear hv e hz hf
        unfold gptr licV licC at *
        go_enter Try.func38, Try.ntmps38
        go_wp2_with fail
        refine (KV.out _ BX.out.bel).mono ?_
        rintro e w2 ⟨rfl, hb⟩
        have RB := (R1.out.below bkS_ok hb).drew bkS_ok
        have BB := bk_read RB
        have m0 := BB.c0
        have m1 := BB.c1
        have ml := BB.lookI l.id
        rw [HFZ.out] at ml
        have BX2 := hide ((BX.out.below cell_ok hb).drew cell_ok)
        obtain ⟨q0, q1, q2, q3, q4, q5, q6⟩ := box_reads BX2.out
        have HBL := hide (below_drew (BX.out.bel.trans (hb.mono (by simp))))
        have RO2 := hide ((((Run.start HO.out).below bkO_ok ((Below.refl w.heap.size w).alloc (Nat.le_refl _) _)).below bkO_ok hb).drew bkO_ok)
        clear hb RB BB c0 c1 c2 c3 c4 c5 c6
        go_wp2_with fail
        refine wp_region_lex (fun w' => w' = w2.drew) (by kernel_rfl) (by kernel_rfl) rfl ?_
        (repeat (first | (refine lex_skip (by rfl) ?_; try simp only [Act.put, List.setIfInBounds_toArray, List.set_cons_zero, List.set_cons_succ]) | (refine lex_read (v := ?_) (by rfl) ?_ ?_; rotate_left; (focus (intro w' hS'; go_simp; (try with_reducible rfl); done)); try simp only [Act.put, List.setIfInBounds_toArray, List.set_cons_zero, List.set_cons_succ])))
        refine lex_nil ?_
        go_wp2
        go_ret
        exact BPost.below HO.out _ HBL.out
      · have e : grantR b l = (0, addM b l) := by unfold grantR; simp [hv, hf, hlen]
        rw [e]
        have HLEN := hide hlen
        rw [← hn.out] at hlen
        clear hv e hz hf
        unfold gptr licV licC at *
        go_enter Try.func38, Try.ntmps38
        go_wp2_with fail
        refine (KV.out _ BX.out.bel).mono ?_
        rintro e w2 ⟨rfl, hb⟩
        have RB := (R1.out.below bkS_ok hb).drew bkS_ok
        have BB := bk_read RB
        have m0 := BB.c0
        have m1 := BB.c1
        have ml := BB.lookI l.id
        rw [HFZ.out] at ml
        have BX2 := hide ((BX.out.below cell_ok hb).drew cell_ok)
        obtain ⟨q0, q1, q2, q3, q4, q5, q6⟩ := box_reads BX2.out
        have HBL := hide (below_drew (BX.out.bel.trans (hb.mono (by simp))))
        have RO2 := hide ((((Run.start HO.out).below bkO_ok ((Below.refl w.heap.size w).alloc (Nat.le_refl _) _)).below bkO_ok hb).drew bkO_ok)
        clear hb RB BB c0 c1 c2 c3 c4 c5 c6
        go_wp2_with fail
        refine wp_region_lex (fun w' => w' = w2.drew) (by kernel_rfl) (by kernel_rfl) rfl ?_
        (repeat (first | (refine lex_skip (by rfl) ?_; try simp only [Act.put, List.setIfInBounds_toArray, List.set_cons_zero, List.set_cons_succ]) | (refine lex_read (v := ?_) (by rfl) ?_ ?_; rotate_left; (focus (intro w' hS'; go_simp; (try with_reducible rfl); done)); try simp only [Act.put, List.setIfInBounds_toArray, List.set_cons_zero, List.set_cons_succ])))
        refine lex_nil ?_
        obtain ⟨F', hB, back⟩ := RO2.out.all bkO_ok
        have KA := hide (add_any hB (HL.out.keep HBL.out) HNEW.out (by have := HLEN.out; omega))
        have BK := hide back
        clear hB back
        unfold gptr licV at KA
        go_wp2_with fail
        refine KA.out.mono ?_
        rintro e w3 ⟨rfl, hp⟩
        have HP := hide ((BK.out _ _ hp).post bkO_ok)
        clear hp BK
        go_wp2
        go_ret
        exact ⟨rfl, HP.out⟩
end Go.Proofs.Ytapabbpdfplpoaa
