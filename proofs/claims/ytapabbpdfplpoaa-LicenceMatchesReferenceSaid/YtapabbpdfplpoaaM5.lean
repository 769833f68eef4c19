/-
  As Lex: a region that draws its order and holds several stores: what may be leaned on grows weaker from store to store (stages St 0, St 1, ..). An operation leans on the stage in which it may run at the latest.
  The reference of Licence: Instant, Ident, idents, Valid.
  The reference of Licence: Valid.
-/
import Derived.Test.YtapabbpdfplpoaaM4
set_option linter.unusedSimpArgs false
set_option linter.unusedVariables false
namespace Go.CH
open Go.RowKit
section
variable {P : Program} {ops : Array Oper} {Ts : List Nat} {St : Nat → World → Prop} {Q : Exit → Act → World → Prop}

/-- The stage in which a reading operation may run at the latest. -/
def lvl (ops : Array Oper) (Ts : List Nat) (i : Nat) : Nat := (Ts.filter fun T => decide (T < i) || !((Region.before ops).getD T 0).testBit i).length
/-- The stage behind a changing operation. -/
def chl (Ts : List Nat) (i : Nat) : Nat := (Ts.filter fun T => decide (T ≤ i)).length
/-- The walk in the order of a list of indexes. -/
def wpLw (P : Program) (ops : Array Oper) (Ts : List Nat) (St : Nat → World → Prop) (Q : Exit → Act → World → Prop) : List Nat → Act → World → Prop
  | [], a, w => Q .normal a w
  | i :: r, a, w => match ops[i]? with
    | none => wpLw P ops Ts St Q r a w
    | some o => (chainK o.op = false ∧ ∃ v, YieldsIf P ops (St (lvl ops Ts i)) o v a ∧ wpLw P ops Ts St Q r (a.put o.dst v) w) ∨
      (chainK o.op = true ∧ Region.wanted o (yielded ops a.tmps) = true ∧ o.wp P a w (fun a' w' => St (chl Ts i) w' ∧ wpLw P ops Ts St Q r a' w') NoExit)
def isChain (ops : Array Oper) (i : Nat) : Bool := match ops[i]? with | some o => chainK o.op | none => false
/-- The stages fit the order. -/
def lvOk (ops : Array Oper) (Ts : List Nat) : Bool :=
  (List.range ops.size).all fun j => (List.range j).all fun i =>
    (!isChain ops i || (if isChain ops j then decide (chl Ts i ≤ chl Ts j) else decide (chl Ts i ≤ lvl ops Ts j))) &&
    (isChain ops i || !isChain ops j || ((Region.before ops).getD j 0).testBit i || decide (chl Ts j ≤ lvl ops Ts i))
theorem st_mono {St : Nat → World → Prop} (hst : ∀ c w, St c w → St (c + 1) w) {a b : Nat} (h : a ≤ b) {w : World} (hw : St a w) : St b w := by
  induction h with
  | refl => exact hw
  | step _ ih => exact hst _ _ ih
theorem wpLw_swap (hns : Region.noSelect ops = true) {i j : Nat} {r : List Nat} {a : Act} {w : World} (hok : swapOk ops i j = true) (hS : isChain ops j = false → St (lvl ops Ts j) w)
    (hw : ∀ w, isChain ops i = true → isChain ops j = false → St (chl Ts i) w → St (lvl ops Ts j) w) (h : wpLw P ops Ts St Q (i :: j :: r) a w) : wpLw P ops Ts St Q (j :: i :: r) a w := by
  unfold swapOk at hok
  cases hi : ops[i]? with
  | none => simp [hi] at hok
  | some oi =>
  cases hj : ops[j]? with
  | none => simp [hj] at hok
  | some oj =>
  have ei : isChain ops i = chainK oi.op := by simp [isChain, hi]
  have ej : isChain ops j = chainK oj.op := by simp [isChain, hj]
  simp only [hi, hj, Bool.and_eq_true, Bool.not_eq_true', Bool.and_eq_false_iff] at hok
  obtain ⟨hch, hap⟩ := hok
  have hsi := fun cs b => Region.noSelect_spec hns i oi cs b hi
  have hsj := fun cs b => Region.noSelect_spec hns j oj cs b hj
  obtain ⟨h1, h2, h3⟩ := Oper.apart_spec hap
  simp only [wpLw, hi, hj] at h ⊢
  rcases h with ⟨hci, v, hy, ⟨hcj, u, hy2, hr⟩ | ⟨hcj, hwt, hr⟩⟩ | ⟨hci, hwt, hr⟩
  · exact .inl ⟨hcj, u, yi_back hsj h1 hy2, .inl ⟨hci, v, yi_forth hsi h3 hy, by rw [← Act.put_comm a v u h2]; exact hr⟩⟩
  · refine .inr ⟨hcj, by rw [← hwt]; exact (wanted_put oj a oi.dst v h1).symm, ?_⟩
    refine Oper.wp_mono (fun a' w' hk => ?_) (wp_swap_rc (S := St (lvl ops Ts i)) hsi hsj hap hy hr)
    exact ⟨hk.2.1, .inl ⟨hci, v, hk.1, hk.2.2⟩⟩
  · have hcj : chainK oj.op = false := by
      rcases hch with e | e
      · rw [hci] at e; cases e
      · exact e
    have hSj := hS (by rw [ej]; exact hcj)
    have hr' : oi.wp P a w (fun a' w' => St (lvl ops Ts j) w' ∧ ∃ u, YieldsIf P ops (St (lvl ops Ts j)) oj u a' ∧ (St (chl Ts i) w' ∧ wpLw P ops Ts St Q r (a'.put oj.dst u) w')) NoExit := by
      refine Oper.wp_mono (fun a' w' hk => ⟨hw w' (by rw [ei]; exact hci) (by rw [ej]; exact hcj) hk.1, ?_⟩) hr
      rcases hk.2 with ⟨_, u, hu1, hu2⟩ | ⟨e, _⟩
      · exact ⟨u, hu1, hk.1, hu2⟩
      · rw [hcj] at e; cases e
    obtain ⟨u, hy, hk⟩ := wp_swap_cr (K := fun a' w' => St (chl Ts i) w' ∧ wpLw P ops Ts St Q r a' w') hsi hsj hap hSj hr'
    refine .inl ⟨hcj, u, hy, .inr ⟨hci, ?_, Oper.wp_mono (fun a' w' hk => hk.2) hk⟩⟩
    rw [wanted_put oi a oj.dst u h3]; exact hwt
theorem wpLw_front (hns : Region.noSelect ops = true) {j : Nat} {r : List Nat} : ∀ (l : List Nat) {a : Act} {w : World}, (∀ i ∈ l, swapOk ops i j = true) → (isChain ops j = false → St (lvl ops Ts j) w) →
    (∀ i ∈ l, ∀ w, isChain ops i = true → isChain ops j = false → St (chl Ts i) w → St (lvl ops Ts j) w) → wpLw P ops Ts St Q (l ++ j :: r) a w → wpLw P ops Ts St Q (j :: (l ++ r)) a w
  | [], _, _, _, _, _, h => h
  | i :: l, a, w, hok, hS, hst, h => by
    refine wpLw_swap hns (hok i (by simp)) hS (hst i (by simp)) ?_
    have ih := fun {a : Act} {w : World} (hS : isChain ops j = false → St (lvl ops Ts j) w) => wpLw_front hns (r := r) l (a := a) (w := w) (fun i hi => hok i (by simp [hi])) hS (fun i hi => hst i (by simp [hi]))
    rw [List.cons_append] at h
    unfold wpLw at h ⊢
    cases ho : ops[i]? with
    | none => simp only [ho] at h ⊢; exact ih hS h
    | some o =>
      have ei : isChain ops i = chainK o.op := by simp [isChain, ho]
      simp only [ho] at h ⊢
      rcases h with ⟨h0, v, h1, h2⟩ | ⟨h1, h2, h3⟩
      · exact .inl ⟨h0, v, h1, ih hS h2⟩
      · exact .inr ⟨h1, h2, Oper.wp_mono (fun a w h => ⟨h.1, ih (fun hj => hst i (by simp) _ (by rw [ei]; exact h1) hj h.1) h.2⟩) h3⟩
/-- How far the stages have come. -/
def Come (ops : Array Oper) (Ts : List Nat) (St : Nat → World → Prop) (listed : Array Bool) (w : World) : Prop :=
  ∃ c, St c w ∧ ∀ i, i < ops.size → listed.getD i true = false → if isChain ops i then c ≤ chl Ts i else c ≤ lvl ops Ts i
theorem wpAny_of_lw (hst : ∀ c w, St c w → St (c + 1) w) (hB : lexOk ops = true) (hL : lvOk ops Ts = true) : ∀ (n : Nat) (listed : Array Bool) (a : Act) (w : World), (unl ops listed).length = n → listed.size = ops.size → Closed ops listed → Come ops Ts St listed w → wpLw P ops Ts St Q (unl ops listed) a w → wpAny P .any ops Q n listed a w := by
  have hB' := hB
  simp only [lexOk, Bool.and_eq_true, List.all_eq_true, List.mem_range] at hB'
  obtain ⟨⟨hns, hmask⟩, hall⟩ := hB'
  intro n
  induction n with
  | zero =>
    intro listed a w hn hs hc hS h
    have hnil : unl ops listed = [] := List.eq_nil_of_length_eq_zero hn
    rw [hnil] at h
    refine ⟨?_, h⟩
    cases hr : Region.ready .any ops listed with
    | nil => rfl
    | cons j r =>
      have hj : j ∈ Region.ready .any ops listed := by rw [hr]; simp
      obtain ⟨h0, o, ho, _⟩ := mem_ready.1 hj
      have : j ∈ unl ops listed := by
        unfold unl; rw [List.mem_filter, List.mem_range]
        exact ⟨(Array.getElem?_eq_some_iff.1 ho).1, by simp [h0]⟩
      rw [hnil] at this; cases this
  | succ n ih =>
    intro listed a w hn hs hc hS h
    refine ⟨fun hr => ?_, fun j hj => ?_⟩
    · -- the first that is not listed is ready
      cases hu : unl ops listed with
      | nil => rw [hu] at hn; simp at hn
      | cons k r =>
        exfalso
        have hk : k ∈ unl ops listed := by rw [hu]; simp
        unfold unl at hk
        rw [List.mem_filter, List.mem_range] at hk
        obtain ⟨hk1, hk2⟩ := hk
        have hk2 : listed.getD k true = false := by simpa using hk2
        have ho : ops[k]? = some ops[k] := Array.getElem?_eq_getElem hk1
        have hd := (hall k hk1).1
        simp only [ho] at hd
        have : k ∈ Region.ready .any ops listed := by
          rw [mem_ready]
          refine ⟨hk2, _, ho, fun e he hb => ?_⟩
          have h1 := Array.all_eq_true_iff_forall_mem.1 hd e he
          simp only [hb, Bool.not_true, Bool.false_or, decide_eq_true_eq] at h1
          cases hl : listed.getD e.on false with
          | true => rfl
          | false =>
            exfalso
            obtain ⟨l1, l2, hs1, _, hs3⟩ := unl_split (ops := ops) (j := e.on) hs (by omega) (by rw [getD_lt (by omega) true false]; exact hl)
            rw [hu] at hs1
            cases l1 with
            | nil => simp at hs1; omega
            | cons x l1 =>
              simp at hs1
              have := (hs3 x (by simp)).1
              omega
        rw [hr] at this; cases this
    · obtain ⟨h0, o, ho, hall'⟩ := mem_ready.1 hj
      have hjs : j < ops.size := (Array.getElem?_eq_some_iff.1 ho).1
      obtain ⟨l1, l2, hs1, hs2, hs3⟩ := unl_split (ops := ops) hs hjs h0
      obtain ⟨c, hc1, hc2⟩ := hS
      have ej : isChain ops j = chainK o.op := by simp [isChain, ho]
      have hl1 : ∀ i k, i < k → k < ops.size → isChain ops i = true → isChain ops k = false → chl Ts i ≤ lvl ops Ts k := fun i k hik hk e1 e2 => by
        have := hL
        simp only [lvOk, List.all_eq_true, List.mem_range] at this
        have := this k hk i hik
        simp [e1, e2] at this; exact this
      have hl2 : ∀ i k, i < k → k < ops.size → isChain ops i = true → isChain ops k = true → chl Ts i ≤ chl Ts k := fun i k hik hk e1 e2 => by
        have := hL
        simp only [lvOk, List.all_eq_true, List.mem_range] at this
        have := this k hk i hik
        simp [e1, e2] at this; exact this
      have hl3 : ∀ i k, i < k → k < ops.size → isChain ops i = false → isChain ops k = true → ((Region.before ops).getD k 0).testBit i = false → chl Ts k ≤ lvl ops Ts i := fun i k hik hk e1 e2 e3 => by
        have := hL
        simp only [lvOk, List.all_eq_true, List.mem_range] at this
        have := this k hk i hik
        have e4 := e3
        simp at e4
        simp [e1, e2, e4] at this; exact this
      have hSj : isChain ops j = false → St (lvl ops Ts j) w := fun e => by
        have := hc2 j hjs h0
        rw [e] at this
        exact st_mono hst (by simpa using this) hc1
      have hfront : wpLw P ops Ts St Q (j :: (l1 ++ l2)) a w := by
        refine wpLw_front hns l1 (fun i hi => ?_) hSj (fun i hi w hci hcj hw => ?_) (hs1 ▸ h)
        · obtain ⟨hij, hiu⟩ := hs3 i hi
          have := (hall j hjs).2 i hij
          rw [Bool.or_eq_true] at this
          rcases this with hb | hb
          · have hl := mask_listed hmask hc (j + 1) j o (by omega) ho hall' i hij hb
            rw [getD_lt (by omega) false true, hiu] at hl; cases hl
          · exact hb
        · obtain ⟨hij, _⟩ := hs3 i hi
          exact st_mono hst (hl1 i j hij hjs hci hcj) hw
      have hlen : (unl ops (listed.setIfInBounds j true)).length = n := by
        rw [hs2]; rw [hs1] at hn; simp at hn ⊢; omega
      have hs' : (listed.setIfInBounds j true).size = ops.size := by simpa using hs
      have hc' : Closed ops (listed.setIfInBounds j true) := by
        intro m om hm hl e he hb
        by_cases hmj : m = j
        · subst hmj
          rw [ho] at hm; cases hm
          exact getD_set_true (hall' e he hb)
        · rw [getD_set_ne false (Ne.symm hmj)] at hl
          exact getD_set_true (hc m om hm hl e he hb)
      have hsub : ∀ i, (listed.setIfInBounds j true).getD i true = false → i ≠ j ∧ listed.getD i true = false := fun i hi => by
        by_cases e : j = i
        · subst e; simp at hi
        · rw [getD_set_ne true e] at hi; exact ⟨fun e' => e e'.symm, hi⟩
      have hnext : chainK o.op = true → ∀ w', St (chl Ts j) w' → Come ops Ts St (listed.setIfInBounds j true) w' := fun hck w' hw' => by
        refine ⟨_, hw', fun i hi hiu => ?_⟩
        obtain ⟨hne, hiu⟩ := hsub i hiu
        have hun : i < j → ((Region.before ops).getD j 0).testBit i = false := fun hij => by
          cases hb : ((Region.before ops).getD j 0).testBit i with
          | false => rfl
          | true =>
            have hl := mask_listed hmask hc (j + 1) j o (by omega) ho hall' i hij hb
            rw [getD_lt (by omega) false true, hiu] at hl; cases hl
        have hcj : isChain ops j = true := by rw [ej]; exact hck
        rcases Nat.lt_or_ge i j with hij | hij
        · cases hci : isChain ops i with
          | true =>
            have := (hall j hjs).2 i hij
            rw [hun hij, Bool.false_or] at this
            exfalso
            unfold swapOk at this
            have ho' : ops[i]? = some ops[i] := Array.getElem?_eq_getElem hi
            simp only [isChain, ho'] at hci
            simp [ho', ho, hci, hck] at this
          | false => simpa using hl3 i j hij hjs hci hcj (hun hij)
        · cases hci : isChain ops i with
          | true => simpa using hl2 j i (by omega) hi hcj hci
          | false => simpa using hl1 j i (by omega) hi hcj hci
      have hstay : Come ops Ts St (listed.setIfInBounds j true) w := ⟨c, hc1, fun i hi hiu => hc2 i hi (hsub i hiu).2⟩
      rw [← hs2] at hfront
      unfold wpLw at hfront
      simp only [ho] at hfront
      rcases hfront with ⟨hcf, v, hy, hk⟩ | ⟨hck, hw, hk⟩
      · exact hy.wpOp ho (hSj (by rw [ej]; exact hcf)) (ih _ _ _ hlen hs' hc' hstay hk)
      · unfold wpOp
        simp only [ho, hw, if_true]
        refine .inl ?_
        have h2 := Oper.wp_mono (K' := wpAny P .any ops Q n (listed.setIfInBounds j true)) (fun a' w' hk => ih _ a' w' hlen hs' hc' (hnext hck w' hk.1) hk.2) hk
        -- the empty exit serves every exit
        unfold Oper.wp at h2 ⊢
        generalize (execOp a.eval o).run P w = r at *
        cases r with
        | ok nx w' =>
          cases nx <;> simp only [Oper.upon] at h2 ⊢ <;> first
            | exact h2
            | exact Calls.mono h2 (fun e w'' he => by
                cases e with
                | returned v => exact he
                | panicked c => exact he.elim
                | outgrown => obtain ⟨_, _, he⟩ := he; exact he.elim)
        | halt x w' => cases x <;> simp only [Oper.upon] at h2 ⊢ <;> first | exact h2 | exact h2.elim


/-! ### The walk: four stages -/
def stg4 (S0 S1 S2 S3 : World → Prop) : Nat → World → Prop
  | 0 => S0
  | 1 => S1
  | 2 => S2
  | _ => S3
variable {S0 S1 S2 S3 : World → Prop}
theorem stg4_mono (h0 : ∀ w, S0 w → S1 w) (h1 : ∀ w, S1 w → S2 w) (h2 : ∀ w, S2 w → S3 w) : ∀ c w, stg4 S0 S1 S2 S3 c w → stg4 S0 S1 S2 S3 (c + 1) w
  | 0, w, h => h0 w h
  | 1, w, h => h1 w h
  | 2, w, h => h2 w h
  | _ + 3, w, h => h
/-- An operation's stage. -/
def lev (ops : Array Oper) (Ts : List Nat) (i : Nat) : Nat := if isChain ops i then chl Ts i else lvl ops Ts i
/-- All operations' stages. -/
def levs (ops : Array Oper) (Ts : List Nat) : List Nat := (List.range ops.size).map (lev ops Ts)
/-- The walk in the order of the text; ahead: the stages of the operations that lie ahead. -/
def wpLew (P : Program) (ops : Array Oper) (S0 S1 S2 S3 : World → Prop) (Q : Exit → Act → World → Prop) : List Nat → List Oper → Act → World → Prop
  | _, [], a, w => Q .normal a w
  | [], _ :: _, _, _ => False
  | n :: lv, o :: r, a, w => (chainK o.op = false ∧ ∃ v, YieldsIf P ops (stg4 S0 S1 S2 S3 n) o v a ∧ wpLew P ops S0 S1 S2 S3 Q lv r (a.put o.dst v) w) ∨
      (chainK o.op = true ∧ Region.wanted o (yielded ops a.tmps) = true ∧ o.wp P a w (fun a' w' => stg4 S0 S1 S2 S3 n w' ∧ wpLew P ops S0 S1 S2 S3 Q lv r a' w') NoExit)
theorem lw_of_lew : ∀ (l : List Oper) (lv : List Nat) (k : Nat) (a : Act) (w : World), (∀ j, l[j]? = ops[k + j]?) → (∀ j, j < l.length → lv[j]? = some (lev ops Ts (k + j))) → wpLew P ops S0 S1 S2 S3 Q lv l a w → wpLw P ops Ts (stg4 S0 S1 S2 S3) Q (List.range' k l.length) a w
  | [], lv, _, _, _, _, _, h => by cases lv <;> exact h
  | o :: l, [], k, a, w, hl, hv, h => h.elim
  | o :: l, n :: lv, k, a, w, hl, hv, h => by
    have h0 : ops[k]? = some o := by simpa using (hl 0).symm
    have hn : n = lev ops Ts k := by have := hv 0 (by simp); simpa using this
    have ei : isChain ops k = chainK o.op := by simp [isChain, h0]
    have ih := fun a w => lw_of_lew l lv (k + 1) a w (fun j => by have := hl (j + 1); simpa [Nat.add_assoc, Nat.add_comm 1 j] using this)
      (fun j hj => by have := hv (j + 1) (by simpa using hj); simpa [Nat.add_assoc, Nat.add_comm 1 j] using this)
    simp only [List.length_cons, List.range'_succ]
    unfold wpLw
    simp only [h0]
    unfold lev at hn
    rcases h with ⟨h0, v, h1, h2⟩ | ⟨h1, h2, h3⟩
    · rw [ei, h0] at hn
      have hn : n = lvl ops Ts k := by simpa using hn
      subst hn
      exact .inl ⟨h0, v, h1, ih _ _ h2⟩
    · rw [ei, h1] at hn
      have hn : n = chl Ts k := by simpa using hn
      subst hn
      exact .inr ⟨h1, h2, Oper.wp_mono (fun a' w' hk => ⟨hk.1, ih _ _ hk.2⟩) h3⟩
theorem wp_region_lew {id : Nat} {l : List Oper} {a : Act} {w : World} (Ts lv : List Nat) (S0 S1 S2 S3 : World → Prop) (h0 : ∀ w, S0 w → S1 w) (h1 : ∀ w, S1 w → S2 w) (h2 : ∀ w, S2 w → S3 w) (hm : P.follows .mixedOrders = true) (hB : lexOk l.toArray = true) (hL : lvOk l.toArray Ts = true) (hlv : levs l.toArray Ts = lv) (hS : S0 w.drew)
    (h : wpLew P l.toArray S0 S1 S2 S3 Q lv l a w.drew) : (Code.region id l.toArray true).wp P Q a w := by
  refine wp_region_any hm ?_
  have hu : unl l.toArray (Array.replicate l.toArray.size false) = List.range l.toArray.size := by
    unfold unl
    refine List.filter_eq_self.2 fun i hi => ?_
    have := List.mem_range.1 hi
    simp at this
    simp [this]
  refine wpAny_of_lw (Ts := Ts) (St := stg4 S0 S1 S2 S3) (stg4_mono h0 h1 h2) hB hL _ _ _ _ (by rw [hu]; simp) (by simp) ?_ ⟨0, hS, fun i _ _ => by split <;> omega⟩ ?_
  · intro j o ho hl
    have : j < l.length := by have := (Array.getElem?_eq_some_iff.1 ho).1; simpa using this
    simp [this] at hl
  · rw [hu]
    have := lw_of_lew (P := P) (ops := l.toArray) (Ts := Ts) (S0 := S0) (S1 := S1) (S2 := S2) (S3 := S3) (Q := Q) l lv 0 a w.drew (by simp) (fun j hj => by
      rw [← hlv]; unfold levs; rw [List.getElem?_map, List.getElem?_range (by simpa using hj)]; simp) h
    simpa [List.range_eq_range'] using this
section
variable {o : Oper} {r : List Oper} {n : Nat} {lv : List Nat} {a : Act} {w : World}
theorem lew_nil (h : Q .normal a w) : wpLew P ops S0 S1 S2 S3 Q lv [] a w := by cases lv <;> exact h
theorem lew_skip (hc : chainK o.op = false) (hw : Region.wanted o (yielded ops a.tmps) = false) (h : wpLew P ops S0 S1 S2 S3 Q lv r (a.put o.dst undef) w) : wpLew P ops S0 S1 S2 S3 Q (n :: lv) (o :: r) a w := .inl ⟨hc, undef, .inr ⟨hw, rfl⟩, h⟩
theorem lew_read0 {v : Value} (hc : chainK o.op = false) (hw : Region.wanted o (yielded ops a.tmps) = true) (hv : ∀ w', S0 w' → (execOp a.eval o).run P w' = .ok (.value v) w') (h : wpLew P ops S0 S1 S2 S3 Q lv r (a.put o.dst v) w) : wpLew P ops S0 S1 S2 S3 Q (0 :: lv) (o :: r) a w :=
  .inl ⟨hc, v, .inl ⟨hw, hv⟩, h⟩
theorem lew_read1 {v : Value} (hc : chainK o.op = false) (hw : Region.wanted o (yielded ops a.tmps) = true) (hv : ∀ w', S1 w' → (execOp a.eval o).run P w' = .ok (.value v) w') (h : wpLew P ops S0 S1 S2 S3 Q lv r (a.put o.dst v) w) : wpLew P ops S0 S1 S2 S3 Q (1 :: lv) (o :: r) a w :=
  .inl ⟨hc, v, .inl ⟨hw, hv⟩, h⟩
theorem lew_read2 {v : Value} (hc : chainK o.op = false) (hw : Region.wanted o (yielded ops a.tmps) = true) (hv : ∀ w', S2 w' → (execOp a.eval o).run P w' = .ok (.value v) w') (h : wpLew P ops S0 S1 S2 S3 Q lv r (a.put o.dst v) w) : wpLew P ops S0 S1 S2 S3 Q (2 :: lv) (o :: r) a w :=
  .inl ⟨hc, v, .inl ⟨hw, hv⟩, h⟩
theorem lew_read3 {v : Value} (hc : chainK o.op = false) (hw : Region.wanted o (yielded ops a.tmps) = true) (hv : ∀ w', S3 w' → (execOp a.eval o).run P w' = .ok (.value v) w') (h : wpLew P ops S0 S1 S2 S3 Q lv r (a.put o.dst v) w) : wpLew P ops S0 S1 S2 S3 Q (3 :: lv) (o :: r) a w :=
  .inl ⟨hc, v, .inl ⟨hw, hv⟩, h⟩
theorem lew_chain0 (hc : chainK o.op = true) (hw : Region.wanted o (yielded ops a.tmps) = true) (h : ∀ K : Act → World → Prop, Hid (∀ a' w', S0 w' → wpLew P ops S0 S1 S2 S3 Q lv r a' w' → K a' w') → o.wp P a w K NoExit) : wpLew P ops S0 S1 S2 S3 Q (0 :: lv) (o :: r) a w :=
  .inr ⟨hc, hw, h _ fun _ _ h1 h2 => ⟨h1, h2⟩⟩
theorem lew_chain1 (hc : chainK o.op = true) (hw : Region.wanted o (yielded ops a.tmps) = true) (h : ∀ K : Act → World → Prop, Hid (∀ a' w', S1 w' → wpLew P ops S0 S1 S2 S3 Q lv r a' w' → K a' w') → o.wp P a w K NoExit) : wpLew P ops S0 S1 S2 S3 Q (1 :: lv) (o :: r) a w :=
  .inr ⟨hc, hw, h _ fun _ _ h1 h2 => ⟨h1, h2⟩⟩
theorem lew_chain2 (hc : chainK o.op = true) (hw : Region.wanted o (yielded ops a.tmps) = true) (h : ∀ K : Act → World → Prop, Hid (∀ a' w', S2 w' → wpLew P ops S0 S1 S2 S3 Q lv r a' w' → K a' w') → o.wp P a w K NoExit) : wpLew P ops S0 S1 S2 S3 Q (2 :: lv) (o :: r) a w :=
  .inr ⟨hc, hw, h _ fun _ _ h1 h2 => ⟨h1, h2⟩⟩
theorem lew_chain3 (hc : chainK o.op = true) (hw : Region.wanted o (yielded ops a.tmps) = true) (h : ∀ K : Act → World → Prop, Hid (∀ a' w', S3 w' → wpLew P ops S0 S1 S2 S3 Q lv r a' w' → K a' w') → o.wp P a w K NoExit) : wpLew P ops S0 S1 S2 S3 Q (3 :: lv) (o :: r) a w :=
  .inr ⟨hc, hw, h _ fun _ _ h1 h2 => ⟨h1, h2⟩⟩
theorem lew_read4 {v : Value} (hc : chainK o.op = false) (hw : Region.wanted o (yielded ops a.tmps) = true) (hv : ∀ w', S3 w' → (execOp a.eval o).run P w' = .ok (.value v) w') (h : wpLew P ops S0 S1 S2 S3 Q lv r (a.put o.dst v) w) : wpLew P ops S0 S1 S2 S3 Q (4 :: lv) (o :: r) a w :=
  .inl ⟨hc, v, .inl ⟨hw, hv⟩, h⟩
theorem lew_chain4 (hc : chainK o.op = true) (hw : Region.wanted o (yielded ops a.tmps) = true) (h : ∀ K : Act → World → Prop, Hid (∀ a' w', S3 w' → wpLew P ops S0 S1 S2 S3 Q lv r a' w' → K a' w') → o.wp P a w K NoExit) : wpLew P ops S0 S1 S2 S3 Q (4 :: lv) (o :: r) a w :=
  .inr ⟨hc, hw, h _ fun _ _ h1 h2 => ⟨h1, h2⟩⟩
end
end
end Go.CH
namespace Go.Proofs.Ytapabbpdfplpoaa
open Go.RowKit Go.CH Go.CH.Lic
open Go.ChangeMaps (setBlock)

theorem inst_any (a : Int) (w : World) : Calls Try.prog 96 #[.int .i64 a] w (Quiet w (.bool (inst a))) := by
  by_cases h : 0 ≤ a
  · have hv := hide (show inst a = decide (a ≤ 144001439) by unfold inst within; rw [decide_eq_true h]; rfl)
    have h' : decide (a ≥ 0) = true := by simpa using h
    go_enter Try.func96, Try.ntmps96
    go_wp2
    go_ret
    exact quiet_bool hv.out.symm
  · have hv := hide (show inst a = false by unfold inst within; rw [decide_eq_false h]; rfl)
    have h' : decide (a ≥ 0) = false := by simpa using h
    go_enter Try.func96, Try.ntmps96
    go_wp2
    go_ret
    exact quiet_bool hv.out.symm
set_option maxHeartbeats 1600000 in
theorem ident_any (s : ByteArray) (w : World) (hs : s.size ≤ maxLen) :
    Calls Try.prog 94 #[.string s] w (Quiet w (.bool (isName s))) := by
  unfold maxLen at hs
  by_cases h0 : s.size < 1
  · have hv := hide (show isName s = false by unfold isName; rw [decide_eq_false (by omega : ¬ 1 ≤ s.size)]; simp)
    have h0' : s.size = 0 := by omega
    clear h0
    go_enter Try.func94, Try.ntmps94
    go_wp2
    go_ret
    exact quiet_bool hv.out.symm
  by_cases h1 : 24 < s.size
  · have hv := hide (show isName s = false by unfold isName; rw [decide_eq_false (by omega : ¬ s.size ≤ 24)]; simp)
    go_enter Try.func94, Try.ntmps94
    go_wp2
    go_ret
    exact quiet_bool hv.out.symm
  have hv := hide (show isName s = okTo s s.size by unfold isName; rw [decide_eq_true (by omega : 1 ≤ s.size), decide_eq_true (by omega : s.size ≤ 24)]; simp)
  have hb1 : 1 ≤ s.size := by omega
  have hb2 : s.size ≤ 24 := by omega
  clear h0 h1
  go_enter Try.func94, Try.ntmps94
  go_wp2
  go_loop [3, 4, 5] (fun i _ _ => ∃ k : Nat, k ≤ s.size ∧ i = .int .i64 k ∧ okTo s k = true) (fun i _ _ => s.size - (intOf i).toNat)
  case atStart => exact ⟨0, Nat.zero_le _, rfl, rfl⟩
  case round =>
    obtain ⟨k, hk, rfl, hok⟩ := hrel
    have HOK := hide hok
    clear hok
    by_cases hlt : k < s.size
    · have hb := hide (byt_at s k hlt)
      have ho := hide (okAt_iff s k)
      have hno := hide (fun h => isName_no (s := s) hlt h)
      have hsucc := hide (okTo_succ s k)
      have hk0 : k = 0 ∨ ((k : Int) == 0) = false := by
        by_cases e : k = 0
        · exact .inl e
        · right; simp; omega
      rcases hk0 with rfl | hk0
      · go_wp2
        all_goals first
          | (go_ret; refine quiet_bool (hno.out ?_).symm; rw [Bool.eq_false_iff]; intro hx; have := ho.out.1 hx; rw [hb.out] at this; omega)
          | (go_round
             case rel =>
               refine ⟨0 + 1, by omega, by go_num, ?_⟩
               rw [hsucc.out, HOK.out, Bool.true_and]
               refine ho.out.2 ?_
               rw [hb.out]
               first | omega | (exfalso; simp_all; done) | (simp_all; omega)
             case measure => simp [intOf]; omega)
      · go_wp2
        all_goals first
          | (go_ret; refine quiet_bool (hno.out ?_).symm; rw [Bool.eq_false_iff]; intro hx; have := ho.out.1 hx; rw [hb.out] at this; omega)
          | (go_round
             case rel =>
               refine ⟨k + 1, by omega, by go_num, ?_⟩
               rw [hsucc.out, HOK.out, Bool.true_and]
               refine ho.out.2 ?_
               rw [hb.out]
               first | omega | (exfalso; simp_all; done) | (simp_all; omega)
             case measure => simp [intOf]; omega)
    · have hks : k = s.size := by omega
      rw [hks] at HOK
      clear hks
      have HV := hide (hv.out.trans HOK.out)
      clear hv HOK
      go_wp2
      go_ret
      exact quiet_bool HV.out.symm
theorem not_mem_take_succ {l : List ByteArray} {s : ByteArray} {j : Nat} (hj : j < l.length) (h : s ∉ l.take j) (hne : l[j] ≠ s) : s ∉ l.take (j + 1) := by
  rw [List.take_succ_eq_append_getElem hj]
  simp only [List.mem_append, List.mem_singleton, not_or]
  exact ⟨h, fun e => hne e.symm⟩
set_option maxRecDepth 100000 in
set_option maxHeartbeats 1600000 in
theorem idents_any {w : World} {A : Option Addr} {n c : Nat} {l : List ByteArray} (h : Src w A n 1 (strs l)) (hs : ∀ s ∈ l, s.size ≤ maxLen) (hn : n ≤ 1000000) (m : Int) :
    Calls Try.prog 95 #[.slice A n c, .int .i64 m] w (BelowRet w (.bool (names l && decide ((n : Int) ≤ m)))) := by
  have hl : l.length = n := by have := h.1; simpa [strs] using this
  have HA := hide h
  have HS := hide hs
  have HL := hide hl
  clear h hs hl
  go_enter Try.func95, Try.ntmps95
  go_wp2
  go_loopw [5, 6] (fun i _ wr => ∃ k : Nat, k ≤ n ∧ i = .int .i64 k ∧ names (l.take k) = true ∧ Below w.heap.size w wr) (fun i _ _ => n - (intOf i).toNat)
  case atStart => exact ⟨0, Nat.zero_le _, rfl, rfl, Below.refl _ _⟩
  case round =>
    obtain ⟨k, hk, rfl, hnm, hB⟩ := hrel
    by_cases hlt : k < n
    · obtain ⟨bA, o, rfl, hc⟩ := HA.out.open_ (by omega) (by omega)
      have c0 := ((Run.begin w).below emp_ok hB).cell (hc k _ (strs_get (by rw [HL.out]; omega))) (fun h => h)
      have hsz := HS.out (l[k]'(by rw [HL.out]; omega)) (List.getElem_mem _)
      have htk := names_take (l := l) (k := k) (by rw [HL.out]; omega)
      have hno : names (l.take (k + 1)) = false → names l = false := names_no
      have HC := hide (fun (w' : World) (hb : Below w.heap.size w w') (j : Nat) (hj : j < n) => ((Run.begin w).below emp_ok hb).cell (hc j _ (strs_get (by rw [HL.out]; omega))) (fun h => h))
      have HSK := hide (fun (w' : World) (hb : Below w.heap.size w w') => ((Run.begin w).below emp_ok hb).cell (hc k _ (strs_get (by rw [HL.out]; omega))) (fun h => h))
      generalize hsk : l[k]'(by rw [HL.out]; omega) = s at *
      have HSE := hide hsk
      rw [hnm, Bool.true_and] at htk
      have KN := hide (ident_any s wr hsz)
      have HNO := hide hno
      have HTK := hide htk
      have HBB := hide hB
      clear hno htk hnm hsk hc hsz
      cases hi : isName s with
      | false =>
        rw [hi] at KN HTK
        clear hi
        go_wp2_with fail
        refine KN.out.mono ?_
        rintro e w' ⟨rfl, rfl⟩
        go_wp2
        go_ret
        exact bel_bool (by rw [HNO.out (by rw [HTK.out]; rfl)]; rfl) HBB.out
      | true =>
        rw [hi, Bool.true_and] at HTK
        rw [hi] at KN
        clear hi
        go_wp2_with fail
        refine KN.out.mono ?_
        rintro e w' ⟨rfl, rfl⟩
        clear KN c0 hB
        go_wp2_with fail
        go_loopw [6] (fun i wr => ∃ j : Nat, j ≤ k ∧ i = .int .i64 j ∧ s ∉ l.take j ∧ Below w.heap.size w wr) (fun i _ => k - (intOf i).toNat)
        case atStart => exact ⟨0, Nat.zero_le _, rfl, by simp, HBB.out⟩
        case round =>
          obtain ⟨j, hj, rfl, hnj, hB2⟩ := hrel
          clear HBB
          by_cases hjk : j < k
          · have hjl : j < l.length := by rw [HL.out]; omega
            have hjn : j < n := by omega
            have c0 := HSK.out _ hB2.drew
            have c1 := HC.out _ hB2.drew j (by omega)
            have hmem : l[j] ∈ l.take k := by
              rw [List.mem_take_iff_getElem]
              exact ⟨j, by have := HL.out; omega, rfl⟩
            have hnx := hide (fun hne => not_mem_take_succ hjl hnj hne)
            have HB2 := hide hB2.drew
            generalize l[j]'(by rw [HL.out]; omega) = x at *
            clear hB2 hnj
            by_cases hx : x = s
            · rw [hx] at c1 hmem
              have t1 : (s.toList == s.toList) = true := by rw [toList_beq]; exact decide_eq_true rfl
              rw [decide_eq_true hmem] at HTK
              clear hx hmem hnx
              go_wp2_with fail
              refine wp_region_lex (fun w' => w' = wr.drew) (by kernel_rfl) (by kernel_rfl) rfl ?_
              generalize wr.drew = wd at *
              (repeat (first | (refine lex_skip (by rfl) ?_; try simp only [Act.put, List.setIfInBounds_toArray, List.set_cons_zero, List.set_cons_succ]) | (refine lex_read (v := ?_) (by rfl) ?_ ?_; rotate_left; (focus (intro w' hS'; go_simp; (try with_reducible rfl); done)); try simp only [Act.put, List.setIfInBounds_toArray, List.set_cons_zero, List.set_cons_succ])))
              refine lex_nil ?_
              go_wp2
              go_ret
              exact bel_bool (by rw [HNO.out (by rw [HTK.out]; rfl)]; rfl) HB2.out
            · have t1 : (x.toList == s.toList) = false := by rw [toList_beq]; exact decide_eq_false hx
              have HNX := hide (hnx.out hx)
              clear hx hmem hnx
              go_wp2_with fail
              refine wp_region_lex (fun w' => w' = wr.drew) (by kernel_rfl) (by kernel_rfl) rfl ?_
              generalize wr.drew = wd at *
              (repeat (first | (refine lex_skip (by rfl) ?_; try simp only [Act.put, List.setIfInBounds_toArray, List.set_cons_zero, List.set_cons_succ]) | (refine lex_read (v := ?_) (by rfl) ?_ ?_; rotate_left; (focus (intro w' hS'; go_simp; (try with_reducible rfl); done)); try simp only [Act.put, List.setIfInBounds_toArray, List.set_cons_zero, List.set_cons_succ])))
              refine lex_nil ?_
              go_wp2
              go_roundw
              case rel => exact ⟨j + 1, by omega, by go_num, HNX.out, HB2.out⟩
              case measure => simp [intOf]; omega
          · obtain rfl : j = k := by omega
            have HB2 := hide hB2
            rw [decide_eq_false hnj] at HTK
            clear hB2 hnj
            go_wp2
            go_roundw
            case rel => exact ⟨j + 1, by omega, by go_num, by rw [HTK.out]; rfl, HB2.out⟩
            case measure => simp [intOf]; omega
    · obtain rfl : k = n := by omega
      rw [← HL.out, List.take_length] at hnm
      have HN := hide hnm
      have HB := hide hB
      clear hnm hB
      go_wp2
      go_ret
      exact bel_bool (by rw [HN.out, Bool.true_and]) HB.out
end Go.Proofs.Ytapabbpdfplpoaa
namespace Go.Proofs.Ytapabbpdfplpoaa
open Go.RowKit Go.CH Go.CH.Lic
open Go.ChangeMaps (setBlock)

theorem valid_r (l : LicM) : valid l = (isName l.id && (decide (1 ≤ l.ms.length) && ((names l.ms && decide ((l.ms.length : Int) ≤ 12)) && ((names l.ps && decide ((l.ps.length : Int) ≤ 60)) && (decide (0 ≤ l.q) && (decide (l.q ≤ 1000000000) && (decide (0 ≤ l.u) && (decide (l.u ≤ 1000) && (inst l.f && (inst l.t && decide (l.f < l.t))))))))))) := by
  have e1 : (l.ms.length ≤ 12) ↔ ((l.ms.length : Int) ≤ 12) := by omega
  have e2 : (l.ps.length ≤ 60) ↔ ((l.ps.length : Int) ≤ 60) := by omega
  have e3 : (0 < l.ms.length) ↔ (1 ≤ l.ms.length) := by omega
  unfold valid listsOk within inst within
  rw [Bool.eq_iff_iff]
  simp only [Bool.and_eq_true, decide_eq_true_eq, e1, e2, e3]
  constructor
  · rintro ⟨⟨⟨⟨⟨⟨a, ⟨⟨⟨b, c⟩, d⟩, e⟩, f⟩, g⟩, h⟩, i⟩, j⟩, k⟩
    exact ⟨a, d, ⟨b, e⟩, ⟨c, f⟩, g.1, g.2, h.1, h.2, i, j, k⟩
  · rintro ⟨a, d, ⟨b, e⟩, ⟨c, f⟩, g1, g2, h1, h2, i, j, k⟩
    exact ⟨⟨⟨⟨⟨⟨a, ⟨⟨⟨b, c⟩, d⟩, e⟩, f⟩, ⟨g1, g2⟩⟩, ⟨h1, h2⟩⟩, i⟩, j⟩, k⟩
section
variable {w : World} {l : LicM} {A B : Option Addr} {c d : Nat}

set_option maxHeartbeats 1600000 in
theorem rvalid_0 (h : LicIn w l A B) (t0 : isName l.id = false) :
    Calls Try.prog 50 #[licV l A c B d] w (BelowRet w (.bool (false))) := by
  have KI := hide (fun W => ident_any l.id W h.id)
  have KM := hide (fun W (hb : Below w.heap.size w W) => idents_any (c := c) (h.keep hb).ms h.mz h.mn 12)
  have KP := hide (fun W (hb : Below w.heap.size w W) => idents_any (c := d) (h.keep hb).ps h.pz h.pn 60)
  have KF := hide (fun W => inst_any l.f W)
  have KT := hide (fun W => inst_any l.t W)
  have R1 := hide (((Run.begin w).fresh emp_ok (cell_new w (licC l A c B d) 56)).imp fun _ _ h => star_emp h)
  rw [t0] at KI
  clear h t0
  unfold licC at R1
  unfold licV
  generalize l.ms.length = n at *
  generalize l.ps.length = m at *
  generalize l.q = zq at *
  generalize l.u = zu at *
  generalize l.f = zf at *
  generalize l.t = zt at *
  generalize l.id = zi at *
  go_enter Try.func50, Try.ntmps50
  go_wp2_with fail
  have hc1 := box_reads R1.out
  obtain ⟨c0, c1, c2, c3, c4, c5, c6⟩ := hc1
  refine (KI.out _).mono ?_
  rintro e wq ⟨rfl, rfl⟩
  go_wp2
  go_ret
  exact bel_bool rfl R1.out.bel
set_option maxHeartbeats 1600000 in
theorem rvalid_1 (h : LicIn w l A B) (t0 : isName l.id = true) (t1 : decide (1 ≤ l.ms.length) = false) :
    Calls Try.prog 50 #[licV l A c B d] w (BelowRet w (.bool (false))) := by
  have KI := hide (fun W => ident_any l.id W h.id)
  have KM := hide (fun W (hb : Below w.heap.size w W) => idents_any (c := c) (h.keep hb).ms h.mz h.mn 12)
  have KP := hide (fun W (hb : Below w.heap.size w W) => idents_any (c := d) (h.keep hb).ps h.pz h.pn 60)
  have KF := hide (fun W => inst_any l.f W)
  have KT := hide (fun W => inst_any l.t W)
  have R1 := hide (((Run.begin w).fresh emp_ok (cell_new w (licC l A c B d) 56)).imp fun _ _ h => star_emp h)
  rw [t0] at KI
  clear h t0
  unfold licC at R1
  unfold licV
  generalize l.ms.length = n at *
  generalize l.ps.length = m at *
  generalize l.q = zq at *
  generalize l.u = zu at *
  generalize l.f = zf at *
  generalize l.t = zt at *
  generalize l.id = zi at *
  have d1 := of_decide_eq_false t1
  obtain rfl : n = 0 := by omega
  clear t1 d1
  go_enter Try.func50, Try.ntmps50
  go_wp2_with fail
  have hc1 := box_reads R1.out
  obtain ⟨c0, c1, c2, c3, c4, c5, c6⟩ := hc1
  refine (KI.out _).mono ?_
  rintro e wq ⟨rfl, rfl⟩
  go_wp2
  go_ret
  exact bel_bool rfl R1.out.bel
set_option maxHeartbeats 1600000 in
theorem rvalid_2 (h : LicIn w l A B) (t0 : isName l.id = true) (t1 : decide (1 ≤ l.ms.length) = true) (t2 : (names l.ms && decide ((l.ms.length : Int) ≤ 12)) = false) :
    Calls Try.prog 50 #[licV l A c B d] w (BelowRet w (.bool (false))) := by
  have KI := hide (fun W => ident_any l.id W h.id)
  have KM := hide (fun W (hb : Below w.heap.size w W) => idents_any (c := c) (h.keep hb).ms h.mz h.mn 12)
  have KP := hide (fun W (hb : Below w.heap.size w W) => idents_any (c := d) (h.keep hb).ps h.pz h.pn 60)
  have KF := hide (fun W => inst_any l.f W)
  have KT := hide (fun W => inst_any l.t W)
  have R1 := hide (((Run.begin w).fresh emp_ok (cell_new w (licC l A c B d) 56)).imp fun _ _ h => star_emp h)
  rw [t0] at KI
  rw [t2] at KM
  clear h t0 t2
  unfold licC at R1
  unfold licV
  generalize l.ms.length = n at *
  generalize l.ps.length = m at *
  generalize l.q = zq at *
  generalize l.u = zu at *
  generalize l.f = zf at *
  generalize l.t = zt at *
  generalize l.id = zi at *
  have d1 := of_decide_eq_true t1
  clear t1
  go_enter Try.func50, Try.ntmps50
  go_wp2_with fail
  have hc1 := box_reads R1.out
  obtain ⟨c0, c1, c2, c3, c4, c5, c6⟩ := hc1
  refine (KI.out _).mono ?_
  rintro e wq ⟨rfl, rfl⟩
  go_wp2_with fail
  refine (KM.out _ R1.out.bel).mono ?_
  rintro e w2 ⟨rfl, hb2⟩
  have R2 := hide (R1.out.below cell_ok hb2)
  clear c0 c1 c2 c3 c4 c5 c6 hb2
  obtain ⟨c0, c1, c2, c3, c4, c5, c6⟩ := box_reads R2.out
  go_wp2
  go_ret
  exact bel_bool rfl R2.out.bel
set_option maxHeartbeats 1600000 in
theorem rvalid_3 (h : LicIn w l A B) (t0 : isName l.id = true) (t1 : decide (1 ≤ l.ms.length) = true) (t2 : (names l.ms && decide ((l.ms.length : Int) ≤ 12)) = true) (t3 : (names l.ps && decide ((l.ps.length : Int) ≤ 60)) = false) :
    Calls Try.prog 50 #[licV l A c B d] w (BelowRet w (.bool (false))) := by
  have KI := hide (fun W => ident_any l.id W h.id)
  have KM := hide (fun W (hb : Below w.heap.size w W) => idents_any (c := c) (h.keep hb).ms h.mz h.mn 12)
  have KP := hide (fun W (hb : Below w.heap.size w W) => idents_any (c := d) (h.keep hb).ps h.pz h.pn 60)
  have KF := hide (fun W => inst_any l.f W)
  have KT := hide (fun W => inst_any l.t W)
  have R1 := hide (((Run.begin w).fresh emp_ok (cell_new w (licC l A c B d) 56)).imp fun _ _ h => star_emp h)
  rw [t0] at KI
  rw [t2] at KM
  rw [t3] at KP
  clear h t0 t2 t3
  unfold licC at R1
  unfold licV
  generalize l.ms.length = n at *
  generalize l.ps.length = m at *
  generalize l.q = zq at *
  generalize l.u = zu at *
  generalize l.f = zf at *
  generalize l.t = zt at *
  generalize l.id = zi at *
  have d1 := of_decide_eq_true t1
  clear t1
  go_enter Try.func50, Try.ntmps50
  go_wp2_with fail
  have hc1 := box_reads R1.out
  obtain ⟨c0, c1, c2, c3, c4, c5, c6⟩ := hc1
  refine (KI.out _).mono ?_
  rintro e wq ⟨rfl, rfl⟩
  go_wp2_with fail
  refine (KM.out _ R1.out.bel).mono ?_
  rintro e w2 ⟨rfl, hb2⟩
  have R2 := hide (R1.out.below cell_ok hb2)
  clear c0 c1 c2 c3 c4 c5 c6 hb2
  obtain ⟨c0, c1, c2, c3, c4, c5, c6⟩ := box_reads R2.out
  go_wp2_with fail
  refine (KP.out _ R2.out.bel).mono ?_
  rintro e w3 ⟨rfl, hb3⟩
  have R3 := hide (R2.out.below cell_ok hb3)
  clear c0 c1 c2 c3 c4 c5 c6 hb3
  obtain ⟨c0, c1, c2, c3, c4, c5, c6⟩ := box_reads R3.out
  go_wp2
  go_ret
  exact bel_bool rfl R3.out.bel
set_option maxHeartbeats 1600000 in
theorem rvalid_4 (h : LicIn w l A B) (t0 : isName l.id = true) (t1 : decide (1 ≤ l.ms.length) = true) (t2 : (names l.ms && decide ((l.ms.length : Int) ≤ 12)) = true) (t3 : (names l.ps && decide ((l.ps.length : Int) ≤ 60)) = true) (t4 : decide (0 ≤ l.q) = false) :
    Calls Try.prog 50 #[licV l A c B d] w (BelowRet w (.bool (false))) := by
  have KI := hide (fun W => ident_any l.id W h.id)
  have KM := hide (fun W (hb : Below w.heap.size w W) => idents_any (c := c) (h.keep hb).ms h.mz h.mn 12)
  have KP := hide (fun W (hb : Below w.heap.size w W) => idents_any (c := d) (h.keep hb).ps h.pz h.pn 60)
  have KF := hide (fun W => inst_any l.f W)
  have KT := hide (fun W => inst_any l.t W)
  have R1 := hide (((Run.begin w).fresh emp_ok (cell_new w (licC l A c B d) 56)).imp fun _ _ h => star_emp h)
  rw [t0] at KI
  rw [t2] at KM
  rw [t3] at KP
  clear h t0 t2 t3
  unfold licC at R1
  unfold licV
  generalize l.ms.length = n at *
  generalize l.ps.length = m at *
  generalize l.q = zq at *
  generalize l.u = zu at *
  generalize l.f = zf at *
  generalize l.t = zt at *
  generalize l.id = zi at *
  have d1 := of_decide_eq_true t1
  have d4 : decide (zq ≥ 0) = false := t4
  clear t1 t4
  go_enter Try.func50, Try.ntmps50
  go_wp2_with fail
  have hc1 := box_reads R1.out
  obtain ⟨c0, c1, c2, c3, c4, c5, c6⟩ := hc1
  refine (KI.out _).mono ?_
  rintro e wq ⟨rfl, rfl⟩
  go_wp2_with fail
  refine (KM.out _ R1.out.bel).mono ?_
  rintro e w2 ⟨rfl, hb2⟩
  have R2 := hide (R1.out.below cell_ok hb2)
  clear c0 c1 c2 c3 c4 c5 c6 hb2
  obtain ⟨c0, c1, c2, c3, c4, c5, c6⟩ := box_reads R2.out
  go_wp2_with fail
  refine (KP.out _ R2.out.bel).mono ?_
  rintro e w3 ⟨rfl, hb3⟩
  have R3 := hide (R2.out.below cell_ok hb3)
  clear c0 c1 c2 c3 c4 c5 c6 hb3
  obtain ⟨c0, c1, c2, c3, c4, c5, c6⟩ := box_reads R3.out
  go_wp2
  go_ret
  exact bel_bool rfl R3.out.bel
set_option maxHeartbeats 1600000 in
theorem rvalid_5 (h : LicIn w l A B) (t0 : isName l.id = true) (t1 : decide (1 ≤ l.ms.length) = true) (t2 : (names l.ms && decide ((l.ms.length : Int) ≤ 12)) = true) (t3 : (names l.ps && decide ((l.ps.length : Int) ≤ 60)) = true) (t4 : decide (0 ≤ l.q) = true) (t5 : decide (l.q ≤ 1000000000) = false) :
    Calls Try.prog 50 #[licV l A c B d] w (BelowRet w (.bool (false))) := by
  have KI := hide (fun W => ident_any l.id W h.id)
  have KM := hide (fun W (hb : Below w.heap.size w W) => idents_any (c := c) (h.keep hb).ms h.mz h.mn 12)
  have KP := hide (fun W (hb : Below w.heap.size w W) => idents_any (c := d) (h.keep hb).ps h.pz h.pn 60)
  have KF := hide (fun W => inst_any l.f W)
  have KT := hide (fun W => inst_any l.t W)
  have R1 := hide (((Run.begin w).fresh emp_ok (cell_new w (licC l A c B d) 56)).imp fun _ _ h => star_emp h)
  rw [t0] at KI
  rw [t2] at KM
  rw [t3] at KP
  clear h t0 t2 t3
  unfold licC at R1
  unfold licV
  generalize l.ms.length = n at *
  generalize l.ps.length = m at *
  generalize l.q = zq at *
  generalize l.u = zu at *
  generalize l.f = zf at *
  generalize l.t = zt at *
  generalize l.id = zi at *
  have d1 := of_decide_eq_true t1
  have d4 : decide (zq ≥ 0) = true := t4
  clear t1 t4
  go_enter Try.func50, Try.ntmps50
  go_wp2_with fail
  have hc1 := box_reads R1.out
  obtain ⟨c0, c1, c2, c3, c4, c5, c6⟩ := hc1
  refine (KI.out _).mono ?_
  rintro e wq ⟨rfl, rfl⟩
  go_wp2_with fail
  refine (KM.out _ R1.out.bel).mono ?_
  rintro e w2 ⟨rfl, hb2⟩
  have R2 := hide (R1.out.below cell_ok hb2)
  clear c0 c1 c2 c3 c4 c5 c6 hb2
  obtain ⟨c0, c1, c2, c3, c4, c5, c6⟩ := box_reads R2.out
  go_wp2_with fail
  refine (KP.out _ R2.out.bel).mono ?_
  rintro e w3 ⟨rfl, hb3⟩
  have R3 := hide (R2.out.below cell_ok hb3)
  clear c0 c1 c2 c3 c4 c5 c6 hb3
  obtain ⟨c0, c1, c2, c3, c4, c5, c6⟩ := box_reads R3.out
  go_wp2
  go_ret
  exact bel_bool rfl R3.out.bel
set_option maxHeartbeats 1600000 in
theorem rvalid_6 (h : LicIn w l A B) (t0 : isName l.id = true) (t1 : decide (1 ≤ l.ms.length) = true) (t2 : (names l.ms && decide ((l.ms.length : Int) ≤ 12)) = true) (t3 : (names l.ps && decide ((l.ps.length : Int) ≤ 60)) = true) (t4 : decide (0 ≤ l.q) = true) (t5 : decide (l.q ≤ 1000000000) = true) (t6 : decide (0 ≤ l.u) = false) :
    Calls Try.prog 50 #[licV l A c B d] w (BelowRet w (.bool (false))) := by
  have KI := hide (fun W => ident_any l.id W h.id)
  have KM := hide (fun W (hb : Below w.heap.size w W) => idents_any (c := c) (h.keep hb).ms h.mz h.mn 12)
  have KP := hide (fun W (hb : Below w.heap.size w W) => idents_any (c := d) (h.keep hb).ps h.pz h.pn 60)
  have KF := hide (fun W => inst_any l.f W)
  have KT := hide (fun W => inst_any l.t W)
  have R1 := hide (((Run.begin w).fresh emp_ok (cell_new w (licC l A c B d) 56)).imp fun _ _ h => star_emp h)
  rw [t0] at KI
  rw [t2] at KM
  rw [t3] at KP
  clear h t0 t2 t3
  unfold licC at R1
  unfold licV
  generalize l.ms.length = n at *
  generalize l.ps.length = m at *
  generalize l.q = zq at *
  generalize l.u = zu at *
  generalize l.f = zf at *
  generalize l.t = zt at *
  generalize l.id = zi at *
  have d1 := of_decide_eq_true t1
  have d4 : decide (zq ≥ 0) = true := t4
  have d6 : decide (zu ≥ 0) = false := t6
  clear t1 t4 t6
  go_enter Try.func50, Try.ntmps50
  go_wp2_with fail
  have hc1 := box_reads R1.out
  obtain ⟨c0, c1, c2, c3, c4, c5, c6⟩ := hc1
  refine (KI.out _).mono ?_
  rintro e wq ⟨rfl, rfl⟩
  go_wp2_with fail
  refine (KM.out _ R1.out.bel).mono ?_
  rintro e w2 ⟨rfl, hb2⟩
  have R2 := hide (R1.out.below cell_ok hb2)
  clear c0 c1 c2 c3 c4 c5 c6 hb2
  obtain ⟨c0, c1, c2, c3, c4, c5, c6⟩ := box_reads R2.out
  go_wp2_with fail
  refine (KP.out _ R2.out.bel).mono ?_
  rintro e w3 ⟨rfl, hb3⟩
  have R3 := hide (R2.out.below cell_ok hb3)
  clear c0 c1 c2 c3 c4 c5 c6 hb3
  obtain ⟨c0, c1, c2, c3, c4, c5, c6⟩ := box_reads R3.out
  go_wp2
  go_ret
  exact bel_bool rfl R3.out.bel
set_option maxHeartbeats 1600000 in
theorem rvalid_7 (h : LicIn w l A B) (t0 : isName l.id = true) (t1 : decide (1 ≤ l.ms.length) = true) (t2 : (names l.ms && decide ((l.ms.length : Int) ≤ 12)) = true) (t3 : (names l.ps && decide ((l.ps.length : Int) ≤ 60)) = true) (t4 : decide (0 ≤ l.q) = true) (t5 : decide (l.q ≤ 1000000000) = true) (t6 : decide (0 ≤ l.u) = true) (t7 : decide (l.u ≤ 1000) = false) :
    Calls Try.prog 50 #[licV l A c B d] w (BelowRet w (.bool (false))) := by
  have KI := hide (fun W => ident_any l.id W h.id)
  have KM := hide (fun W (hb : Below w.heap.size w W) => idents_any (c := c) (h.keep hb).ms h.mz h.mn 12)
  have KP := hide (fun W (hb : Below w.heap.size w W) => idents_any (c := d) (h.keep hb).ps h.pz h.pn 60)
  have KF := hide (fun W => inst_any l.f W)
  have KT := hide (fun W => inst_any l.t W)
  have R1 := hide (((Run.begin w).fresh emp_ok (cell_new w (licC l A c B d) 56)).imp fun _ _ h => star_emp h)
  rw [t0] at KI
  rw [t2] at KM
  rw [t3] at KP
  clear h t0 t2 t3
  unfold licC at R1
  unfold licV
  generalize l.ms.length = n at *
  generalize l.ps.length = m at *
  generalize l.q = zq at *
  generalize l.u = zu at *
  generalize l.f = zf at *
  generalize l.t = zt at *
  generalize l.id = zi at *
  have d1 := of_decide_eq_true t1
  have d4 : decide (zq ≥ 0) = true := t4
  have d6 : decide (zu ≥ 0) = true := t6
  clear t1 t4 t6
  go_enter Try.func50, Try.ntmps50
  go_wp2_with fail
  have hc1 := box_reads R1.out
  obtain ⟨c0, c1, c2, c3, c4, c5, c6⟩ := hc1
  refine (KI.out _).mono ?_
  rintro e wq ⟨rfl, rfl⟩
  go_wp2_with fail
  refine (KM.out _ R1.out.bel).mono ?_
  rintro e w2 ⟨rfl, hb2⟩
  have R2 := hide (R1.out.below cell_ok hb2)
  clear c0 c1 c2 c3 c4 c5 c6 hb2
  obtain ⟨c0, c1, c2, c3, c4, c5, c6⟩ := box_reads R2.out
  go_wp2_with fail
  refine (KP.out _ R2.out.bel).mono ?_
  rintro e w3 ⟨rfl, hb3⟩
  have R3 := hide (R2.out.below cell_ok hb3)
  clear c0 c1 c2 c3 c4 c5 c6 hb3
  obtain ⟨c0, c1, c2, c3, c4, c5, c6⟩ := box_reads R3.out
  go_wp2
  go_ret
  exact bel_bool rfl R3.out.bel
set_option maxHeartbeats 1600000 in
theorem rvalid_8 (h : LicIn w l A B) (t0 : isName l.id = true) (t1 : decide (1 ≤ l.ms.length) = true) (t2 : (names l.ms && decide ((l.ms.length : Int) ≤ 12)) = true) (t3 : (names l.ps && decide ((l.ps.length : Int) ≤ 60)) = true) (t4 : decide (0 ≤ l.q) = true) (t5 : decide (l.q ≤ 1000000000) = true) (t6 : decide (0 ≤ l.u) = true) (t7 : decide (l.u ≤ 1000) = true) (t8 : inst l.f = false) :
    Calls Try.prog 50 #[licV l A c B d] w (BelowRet w (.bool (false))) := by
  have KI := hide (fun W => ident_any l.id W h.id)
  have KM := hide (fun W (hb : Below w.heap.size w W) => idents_any (c := c) (h.keep hb).ms h.mz h.mn 12)
  have KP := hide (fun W (hb : Below w.heap.size w W) => idents_any (c := d) (h.keep hb).ps h.pz h.pn 60)
  have KF := hide (fun W => inst_any l.f W)
  have KT := hide (fun W => inst_any l.t W)
  have R1 := hide (((Run.begin w).fresh emp_ok (cell_new w (licC l A c B d) 56)).imp fun _ _ h => star_emp h)
  rw [t0] at KI
  rw [t2] at KM
  rw [t3] at KP
  rw [t8] at KF
  clear h t0 t2 t3 t8
  unfold licC at R1
  unfold licV
  generalize l.ms.length = n at *
  generalize l.ps.length = m at *
  generalize l.q = zq at *
  generalize l.u = zu at *
  generalize l.f = zf at *
  generalize l.t = zt at *
  generalize l.id = zi at *
  have d1 := of_decide_eq_true t1
  have d4 : decide (zq ≥ 0) = true := t4
  have d6 : decide (zu ≥ 0) = true := t6
  clear t1 t4 t6
  go_enter Try.func50, Try.ntmps50
  go_wp2_with fail
  have hc1 := box_reads R1.out
  obtain ⟨c0, c1, c2, c3, c4, c5, c6⟩ := hc1
  refine (KI.out _).mono ?_
  rintro e wq ⟨rfl, rfl⟩
  go_wp2_with fail
  refine (KM.out _ R1.out.bel).mono ?_
  rintro e w2 ⟨rfl, hb2⟩
  have R2 := hide (R1.out.below cell_ok hb2)
  clear c0 c1 c2 c3 c4 c5 c6 hb2
  obtain ⟨c0, c1, c2, c3, c4, c5, c6⟩ := box_reads R2.out
  go_wp2_with fail
  refine (KP.out _ R2.out.bel).mono ?_
  rintro e w3 ⟨rfl, hb3⟩
  have R3 := hide (R2.out.below cell_ok hb3)
  clear c0 c1 c2 c3 c4 c5 c6 hb3
  obtain ⟨c0, c1, c2, c3, c4, c5, c6⟩ := box_reads R3.out
  go_wp2_with fail
  refine (KF.out _).mono ?_
  rintro e wq ⟨rfl, rfl⟩
  go_wp2
  go_ret
  exact bel_bool rfl R3.out.bel
set_option maxHeartbeats 1600000 in
theorem rvalid_9 (h : LicIn w l A B) (t0 : isName l.id = true) (t1 : decide (1 ≤ l.ms.length) = true) (t2 : (names l.ms && decide ((l.ms.length : Int) ≤ 12)) = true) (t3 : (names l.ps && decide ((l.ps.length : Int) ≤ 60)) = true) (t4 : decide (0 ≤ l.q) = true) (t5 : decide (l.q ≤ 1000000000) = true) (t6 : decide (0 ≤ l.u) = true) (t7 : decide (l.u ≤ 1000) = true) (t8 : inst l.f = true) (t9 : inst l.t = false) :
    Calls Try.prog 50 #[licV l A c B d] w (BelowRet w (.bool (false))) := by
  have KI := hide (fun W => ident_any l.id W h.id)
  have KM := hide (fun W (hb : Below w.heap.size w W) => idents_any (c := c) (h.keep hb).ms h.mz h.mn 12)
  have KP := hide (fun W (hb : Below w.heap.size w W) => idents_any (c := d) (h.keep hb).ps h.pz h.pn 60)
  have KF := hide (fun W => inst_any l.f W)
  have KT := hide (fun W => inst_any l.t W)
  have R1 := hide (((Run.begin w).fresh emp_ok (cell_new w (licC l A c B d) 56)).imp fun _ _ h => star_emp h)
  rw [t0] at KI
  rw [t2] at KM
  rw [t3] at KP
  rw [t8] at KF
  rw [t9] at KT
  clear h t0 t2 t3 t8 t9
  unfold licC at R1
  unfold licV
  generalize l.ms.length = n at *
  generalize l.ps.length = m at *
  generalize l.q = zq at *
  generalize l.u = zu at *
  generalize l.f = zf at *
  generalize l.t = zt at *
  generalize l.id = zi at *
  have d1 := of_decide_eq_true t1
  have d4 : decide (zq ≥ 0) = true := t4
  have d6 : decide (zu ≥ 0) = true := t6
  clear t1 t4 t6
  go_enter Try.func50, Try.ntmps50
  go_wp2_with fail
  have hc1 := box_reads R1.out
  obtain ⟨c0, c1, c2, c3, c4, c5, c6⟩ := hc1
  refine (KI.out _).mono ?_
  rintro e wq ⟨rfl, rfl⟩
  go_wp2_with fail
  refine (KM.out _ R1.out.bel).mono ?_
  rintro e w2 ⟨rfl, hb2⟩
  have R2 := hide (R1.out.below cell_ok hb2)
  clear c0 c1 c2 c3 c4 c5 c6 hb2
  obtain ⟨c0, c1, c2, c3, c4, c5, c6⟩ := box_reads R2.out
  go_wp2_with fail
  refine (KP.out _ R2.out.bel).mono ?_
  rintro e w3 ⟨rfl, hb3⟩
  have R3 := hide (R2.out.below cell_ok hb3)
  clear c0 c1 c2 c3 c4 c5 c6 hb3
  obtain ⟨c0, c1, c2, c3, c4, c5, c6⟩ := box_reads R3.out
  go_wp2_with fail
  refine (KF.out _).mono ?_
  rintro e wq ⟨rfl, rfl⟩
  go_wp2_with fail
  refine (KT.out _).mono ?_
  rintro e wq ⟨rfl, rfl⟩
  go_wp2
  go_ret
  exact bel_bool rfl R3.out.bel
set_option maxHeartbeats 1600000 in
theorem rvalid_10 (h : LicIn w l A B) (t0 : isName l.id = true) (t1 : decide (1 ≤ l.ms.length) = true) (t2 : (names l.ms && decide ((l.ms.length : Int) ≤ 12)) = true) (t3 : (names l.ps && decide ((l.ps.length : Int) ≤ 60)) = true) (t4 : decide (0 ≤ l.q) = true) (t5 : decide (l.q ≤ 1000000000) = true) (t6 : decide (0 ≤ l.u) = true) (t7 : decide (l.u ≤ 1000) = true) (t8 : inst l.f = true) (t9 : inst l.t = true) :
    Calls Try.prog 50 #[licV l A c B d] w (BelowRet w (.bool (decide (l.f < l.t)))) := by
  have KI := hide (fun W => ident_any l.id W h.id)
  have KM := hide (fun W (hb : Below w.heap.size w W) => idents_any (c := c) (h.keep hb).ms h.mz h.mn 12)
  have KP := hide (fun W (hb : Below w.heap.size w W) => idents_any (c := d) (h.keep hb).ps h.pz h.pn 60)
  have KF := hide (fun W => inst_any l.f W)
  have KT := hide (fun W => inst_any l.t W)
  have R1 := hide (((Run.begin w).fresh emp_ok (cell_new w (licC l A c B d) 56)).imp fun _ _ h => star_emp h)
  rw [t0] at KI
  rw [t2] at KM
  rw [t3] at KP
  rw [t8] at KF
  rw [t9] at KT
  clear h t0 t2 t3 t8 t9
  unfold licC at R1
  unfold licV
  generalize l.ms.length = n at *
  generalize l.ps.length = m at *
  generalize l.q = zq at *
  generalize l.u = zu at *
  generalize l.f = zf at *
  generalize l.t = zt at *
  generalize l.id = zi at *
  have d1 := of_decide_eq_true t1
  have d4 : decide (zq ≥ 0) = true := t4
  have d6 : decide (zu ≥ 0) = true := t6
  clear t1 t4 t6
  go_enter Try.func50, Try.ntmps50
  go_wp2_with fail
  have hc1 := box_reads R1.out
  obtain ⟨c0, c1, c2, c3, c4, c5, c6⟩ := hc1
  refine (KI.out _).mono ?_
  rintro e wq ⟨rfl, rfl⟩
  go_wp2_with fail
  refine (KM.out _ R1.out.bel).mono ?_
  rintro e w2 ⟨rfl, hb2⟩
  have R2 := hide (R1.out.below cell_ok hb2)
  clear c0 c1 c2 c3 c4 c5 c6 hb2
  obtain ⟨c0, c1, c2, c3, c4, c5, c6⟩ := box_reads R2.out
  go_wp2_with fail
  refine (KP.out _ R2.out.bel).mono ?_
  rintro e w3 ⟨rfl, hb3⟩
  have R3 := hide (R2.out.below cell_ok hb3)
  clear c0 c1 c2 c3 c4 c5 c6 hb3
  obtain ⟨c0, c1, c2, c3, c4, c5, c6⟩ := box_reads R3.out
  go_wp2_with fail
  refine (KF.out _).mono ?_
  rintro e wq ⟨rfl, rfl⟩
  go_wp2_with fail
  refine (KT.out _).mono ?_
  rintro e wq ⟨rfl, rfl⟩
  go_wp2
  go_ret
  exact bel_bool rfl R3.out.bel
theorem rvalid_any (h : LicIn w l A B) : Calls Try.prog 50 #[licV l A c B d] w (BelowRet w (.bool (valid l))) := by
  have hv := valid_r l
  cases t0 : isName l.id with
  | false =>
    rw [hv, t0]
    exact rvalid_0 h t0
  | true =>
  cases t1 : decide (1 ≤ l.ms.length) with
  | false =>
    rw [hv, t0, t1]
    exact rvalid_1 h t0 t1
  | true =>
  cases t2 : (names l.ms && decide ((l.ms.length : Int) ≤ 12)) with
  | false =>
    rw [hv, t0, t1, t2]
    exact rvalid_2 h t0 t1 t2
  | true =>
  cases t3 : (names l.ps && decide ((l.ps.length : Int) ≤ 60)) with
  | false =>
    rw [hv, t0, t1, t2, t3]
    exact rvalid_3 h t0 t1 t2 t3
  | true =>
  cases t4 : decide (0 ≤ l.q) with
  | false =>
    rw [hv, t0, t1, t2, t3, t4]
    exact rvalid_4 h t0 t1 t2 t3 t4
  | true =>
  cases t5 : decide (l.q ≤ 1000000000) with
  | false =>
    rw [hv, t0, t1, t2, t3, t4, t5]
    exact rvalid_5 h t0 t1 t2 t3 t4 t5
  | true =>
  cases t6 : decide (0 ≤ l.u) with
  | false =>
    rw [hv, t0, t1, t2, t3, t4, t5, t6]
    exact rvalid_6 h t0 t1 t2 t3 t4 t5 t6
  | true =>
  cases t7 : decide (l.u ≤ 1000) with
  | false =>
    rw [hv, t0, t1, t2, t3, t4, t5, t6, t7]
    exact rvalid_7 h t0 t1 t2 t3 t4 t5 t6 t7
  | true =>
  cases t8 : inst l.f with
  | false =>
    rw [hv, t0, t1, t2, t3, t4, t5, t6, t7, t8]
    exact rvalid_8 h t0 t1 t2 t3 t4 t5 t6 t7 t8
  | true =>
  cases t9 : inst l.t with
  | false =>
    rw [hv, t0, t1, t2, t3, t4, t5, t6, t7, t8, t9]
    exact rvalid_9 h t0 t1 t2 t3 t4 t5 t6 t7 t8 t9
  | true =>
  rw [hv, t0, t1, t2, t3, t4, t5, t6, t7, t8, t9]
  exact rvalid_10 h t0 t1 t2 t3 t4 t5 t6 t7 t8 t9
end
end Go.Proofs.Ytapabbpdfplpoaa
