/-
  As Lex: a region that draws its order and holds several stores: what may be leaned on grows weaker from store to store (stages St 0, St 1, ..). An operation leans on the stage in which it may run at the latest.
  Escrow: line, Have, change, Spend, Return, Revoke.
  Escrow: change, Spend, Return, Revoke.
  Escrow: Spend, Return, Revoke.
  Escrow: a line is taken out of the escrow and put back; Give.
  Escrow: Give.
-/
import Derived.Test.YtapabbpdfplpoaaMT4
import Derived.Test.YtapabbpdfplpoaaMT3
set_option linter.unusedSimpArgs false
set_option linter.unusedVariables false
namespace Go.CH
open Go.RowKit
section
variable {P : Program} {ops : Array Oper} {Ts : List Nat} {St : Nat → World → Prop} {Q : Exit → Act → World → Prop}

/-- The stage in which a reading operation may run at the latest. -/
def lvl (ops : Array Oper) (Ts : List Nat) (i : Nat) : Nat := (Ts.filter fun T => decide (T < i) || !((Region.before ops).getD T 0).testBit i).length
/-- The stage behind a changing operation. -/
def chl (Ts : List Nat) (i : Nat) : Nat := (Ts.filter fun T => decide (T ≤ i)).length
/-- The walk in the order of a list of indexes. -/
def wpLw (P : Program) (ops : Array Oper) (Ts : List Nat) (St : Nat → World → Prop) (Q : Exit → Act → World → Prop) : List Nat → Act → World → Prop
  | [], a, w => Q .normal a w
  | i :: r, a, w => match ops[i]? with
    | none => wpLw P ops Ts St Q r a w
    | some o => (chainK o.op = false ∧ ∃ v, YieldsIf P ops (St (lvl ops Ts i)) o v a ∧ wpLw P ops Ts St Q r (a.put o.dst v) w) ∨
      (chainK o.op = true ∧ Region.wanted o (yielded ops a.tmps) = true ∧ o.wp P a w (fun a' w' => St (chl Ts i) w' ∧ wpLw P ops Ts St Q r a' w') NoExit)
def isChain (ops : Array Oper) (i : Nat) : Bool := match ops[i]? with | some o => chainK o.op | none => false
/-- The stages fit the order. -/
def lvOk (ops : Array Oper) (Ts : List Nat) : Bool :=
  (List.range ops.size).all fun j => (List.range j).all fun i =>
    (!isChain ops i || (if isChain ops j then decide (chl Ts i ≤ chl Ts j) else decide (chl Ts i ≤ lvl ops Ts j))) &&
    (isChain ops i || !isChain ops j || ((Region.before ops).getD j 0).testBit i || decide (chl Ts j ≤ lvl ops Ts i))
theorem st_mono {St : Nat → World → Prop} (hst : ∀ c w, St c w → St (c + 1) w) {a b : Nat} (h : a ≤ b) {w : World} (hw : St a w) : St b w := by
  induction h with
  | refl => exact hw
  | step _ ih => exact hst _ _ ih
theorem wpLw_swap (hns : Region.noSelect ops = true) {i j : Nat} {r : List Nat} {a : Act} {w : World} (hok : swapOk ops i j = true) (hS : isChain ops j = false → St (lvl ops Ts j) w)
    (hw : ∀ w, isChain ops i = true → isChain ops j = false → St (chl Ts i) w → St (lvl ops Ts j) w) (h : wpLw P ops Ts St Q (i :: j :: r) a w) : wpLw P ops Ts St Q (j :: i :: r) a w := by
  unfold swapOk at hok
  cases hi : ops[i]? with
  | none => simp [hi] at hok
  | some oi =>
  cases hj : ops[j]? with
  | none => simp [hj] at hok
  | some oj =>
  have ei : isChain ops i = chainK oi.op := by simp [isChain, hi]
  have ej : isChain ops j = chainK oj.op := by simp [isChain, hj]
  simp only [hi, hj, Bool.and_eq_true, Bool.not_eq_true', Bool.and_eq_false_iff] at hok
  obtain ⟨hch, hap⟩ := hok
  have hsi := fun cs b => Region.noSelect_spec hns i oi cs b hi
  have hsj := fun cs b => Region.noSelect_spec hns j oj cs b hj
  obtain ⟨h1, h2, h3⟩ := Oper.apart_spec hap
  simp only [wpLw, hi, hj] at h ⊢
  rcases h with ⟨hci, v, hy, ⟨hcj, u, hy2, hr⟩ | ⟨hcj, hwt, hr⟩⟩ | ⟨hci, hwt, hr⟩
  · exact .inl ⟨hcj, u, yi_back hsj h1 hy2, .inl ⟨hci, v, yi_forth hsi h3 hy, by rw [← Act.put_comm a v u h2]; exact hr⟩⟩
  · refine .inr ⟨hcj, by rw [← hwt]; exact (wanted_put oj a oi.dst v h1).symm, ?_⟩
    refine Oper.wp_mono (fun a' w' hk => ?_) (wp_swap_rc (S := St (lvl ops Ts i)) hsi hsj hap hy hr)
    exact ⟨hk.2.1, .inl ⟨hci, v, hk.1, hk.2.2⟩⟩
  · have hcj : chainK oj.op = false := by
      rcases hch with e | e
      · rw [hci] at e; cases e
      · exact e
    have hSj := hS (by rw [ej]; exact hcj)
    have hr' : oi.wp P a w (fun a' w' => St (lvl ops Ts j) w' ∧ ∃ u, YieldsIf P ops (St (lvl ops Ts j)) oj u a' ∧ (St (chl Ts i) w' ∧ wpLw P ops Ts St Q r (a'.put oj.dst u) w')) NoExit := by
      refine Oper.wp_mono (fun a' w' hk => ⟨hw w' (by rw [ei]; exact hci) (by rw [ej]; exact hcj) hk.1, ?_⟩) hr
      rcases hk.2 with ⟨_, u, hu1, hu2⟩ | ⟨e, _⟩
      · exact ⟨u, hu1, hk.1, hu2⟩
      · rw [hcj] at e; cases e
    obtain ⟨u, hy, hk⟩ := wp_swap_cr (K := fun a' w' => St (chl Ts i) w' ∧ wpLw P ops Ts St Q r a' w') hsi hsj hap hSj hr'
    refine .inl ⟨hcj, u, hy, .inr ⟨hci, ?_, Oper.wp_mono (fun a' w' hk => hk.2) hk⟩⟩
    rw [wanted_put oi a oj.dst u h3]; exact hwt
theorem wpLw_front (hns : Region.noSelect ops = true) {j : Nat} {r : List Nat} : ∀ (l : List Nat) {a : Act} {w : World}, (∀ i ∈ l, swapOk ops i j = true) → (isChain ops j = false → St (lvl ops Ts j) w) →
    (∀ i ∈ l, ∀ w, isChain ops i = true → isChain ops j = false → St (chl Ts i) w → St (lvl ops Ts j) w) → wpLw P ops Ts St Q (l ++ j :: r) a w → wpLw P ops Ts St Q (j :: (l ++ r)) a w
  | [], _, _, _, _, _, h => h
  | i :: l, a, w, hok, hS, hst, h => by
    refine wpLw_swap hns (hok i (by simp)) hS (hst i (by simp)) ?_
    have ih := fun {a : Act} {w : World} (hS : isChain ops j = false → St (lvl ops Ts j) w) => wpLw_front hns (r := r) l (a := a) (w := w) (fun i hi => hok i (by simp [hi])) hS (fun i hi => hst i (by simp [hi]))
    rw [List.cons_append] at h
    unfold wpLw at h ⊢
    cases ho : ops[i]? with
    | none => simp only [ho] at h ⊢; exact ih hS h
    | some o =>
      have ei : isChain ops i = chainK o.op := by simp [isChain, ho]
      simp only [ho] at h ⊢
      rcases h with ⟨h0, v, h1, h2⟩ | ⟨h1, h2, h3⟩
      · exact .inl ⟨h0, v, h1, ih hS h2⟩
      · exact .inr ⟨h1, h2, Oper.wp_mono (fun a w h => ⟨h.1, ih (fun hj => hst i (by simp) _ (by rw [ei]; exact h1) hj h.1) h.2⟩) h3⟩
/-- How far the stages have come. -/
def Come (ops : Array Oper) (Ts : List Nat) (St : Nat → World → Prop) (listed : Array Bool) (w : World) : Prop :=
  ∃ c, St c w ∧ ∀ i, i < ops.size → listed.getD i true = false → if isChain ops i then c ≤ chl Ts i else c ≤ lvl ops Ts i
theorem wpAny_of_lw (hst : ∀ c w, St c w → St (c + 1) w) (hB : lexOk ops = true) (hL : lvOk ops Ts = true) : ∀ (n : Nat) (listed : Array Bool) (a : Act) (w : World), (unl ops listed).length = n → listed.size = ops.size → Closed ops listed → Come ops Ts St listed w → wpLw P ops Ts St Q (unl ops listed) a w → wpAny P .any ops Q n listed a w := by
  have hB' := hB
  simp only [lexOk, Bool.and_eq_true, List.all_eq_true, List.mem_range] at hB'
  obtain ⟨⟨hns, hmask⟩, hall⟩ := hB'
  intro n
  induction n with
  | zero =>
    intro listed a w hn hs hc hS h
    have hnil : unl ops listed = [] := List.eq_nil_of_length_eq_zero hn
    rw [hnil] at h
    refine ⟨?_, h⟩
    cases hr : Region.ready .any ops listed with
    | nil => rfl
    | cons j r =>
      have hj : j ∈ Region.ready .any ops listed := by rw [hr]; simp
      obtain ⟨h0, o, ho, _⟩ := mem_ready.1 hj
      have : j ∈ unl ops listed := by
        unfold unl; rw [List.mem_filter, List.mem_range]
        exact ⟨(Array.getElem?_eq_some_iff.1 ho).1, by simp [h0]⟩
      rw [hnil] at this; cases this
  | succ n ih =>
    intro listed a w hn hs hc hS h
    refine ⟨fun hr => ?_, fun j hj => ?_⟩
    · -- the first that is not listed is ready
      cases hu : unl ops listed with
      | nil => rw [hu] at hn; simp at hn
      | cons k r =>
        exfalso
        have hk : k ∈ unl ops listed := by rw [hu]; simp
        unfold unl at hk
        rw [List.mem_filter, List.mem_range] at hk
        obtain ⟨hk1, hk2⟩ := hk
        have hk2 : listed.getD k true = false := by simpa using hk2
        have ho : ops[k]? = some ops[k] := Array.getElem?_eq_getElem hk1
        have hd := (hall k hk1).1
        simp only [ho] at hd
        have : k ∈ Region.ready .any ops listed := by
          rw [mem_ready]
          refine ⟨hk2, _, ho, fun e he hb => ?_⟩
          have h1 := Array.all_eq_true_iff_forall_mem.1 hd e he
          simp only [hb, Bool.not_true, Bool.false_or, decide_eq_true_eq] at h1
          cases hl : listed.getD e.on false with
          | true => rfl
          | false =>
            exfalso
            obtain ⟨l1, l2, hs1, _, hs3⟩ := unl_split (ops := ops) (j := e.on) hs (by omega) (by rw [getD_lt (by omega) true false]; exact hl)
            rw [hu] at hs1
            cases l1 with
            | nil => simp at hs1; omega
            | cons x l1 =>
              simp at hs1
              have := (hs3 x (by simp)).1
              omega
        rw [hr] at this; cases this
    · obtain ⟨h0, o, ho, hall'⟩ := mem_ready.1 hj
      have hjs : j < ops.size := (Array.getElem?_eq_some_iff.1 ho).1
      obtain ⟨l1, l2, hs1, hs2, hs3⟩ := unl_split (ops := ops) hs hjs h0
      obtain ⟨c, hc1, hc2⟩ := hS
      have ej : isChain ops j = chainK o.op := by simp [isChain, ho]
      have hl1 : ∀ i k, i < k → k < ops.size → isChain ops i = true → isChain ops k = false → chl Ts i ≤ lvl ops Ts k := fun i k hik hk e1 e2 => by
        have := hL
        simp only [lvOk, List.all_eq_true, List.mem_range] at this
        have := this k hk i hik
        simp [e1, e2] at this; exact this
      have hl2 : ∀ i k, i < k → k < ops.size → isChain ops i = true → isChain ops k = true → chl Ts i ≤ chl Ts k := fun i k hik hk e1 e2 => by
        have := hL
        simp only [lvOk, List.all_eq_true, List.mem_range] at this
        have := this k hk i hik
        simp [e1, e2] at this; exact this
      have hl3 : ∀ i k, i < k → k < ops.size → isChain ops i = false → isChain ops k = true → ((Region.before ops).getD k 0).testBit i = false → chl Ts k ≤ lvl ops Ts i := fun i k hik hk e1 e2 e3 => by
        have := hL
        simp only [lvOk, List.all_eq_true, List.mem_range] at this
        have := this k hk i hik
        have e4 := e3
        simp at e4
        simp [e1, e2, e4] at this; exact this
      have hSj : isChain ops j = false → St (lvl ops Ts j) w := fun e => by
        have := hc2 j hjs h0
        rw [e] at this
        exact st_mono hst (by simpa using this) hc1
      have hfront : wpLw P ops Ts St Q (j :: (l1 ++ l2)) a w := by
        refine wpLw_front hns l1 (fun i hi => ?_) hSj (fun i hi w hci hcj hw => ?_) (hs1 ▸ h)
        · obtain ⟨hij, hiu⟩ := hs3 i hi
          have := (hall j hjs).2 i hij
          rw [Bool.or_eq_true] at this
          rcases this with hb | hb
          · have hl := mask_listed hmask hc (j + 1) j o (by omega) ho hall' i hij hb
            rw [getD_lt (by omega) false true, hiu] at hl; cases hl
          · exact hb
        · obtain ⟨hij, _⟩ := hs3 i hi
          exact st_mono hst (hl1 i j hij hjs hci hcj) hw
      have hlen : (unl ops (listed.setIfInBounds j true)).length = n := by
        rw [hs2]; rw [hs1] at hn; simp at hn ⊢; omega
      have hs' : (listed.setIfInBounds j true).size = ops.size := by simpa using hs
      have hc' : Closed ops (listed.setIfInBounds j true) := by
        intro m om hm hl e he hb
        by_cases hmj : m = j
        · subst hmj
          rw [ho] at hm; cases hm
          exact getD_set_true (hall' e he hb)
        · rw [getD_set_ne false (Ne.symm hmj)] at hl
          exact getD_set_true (hc m om hm hl e he hb)
      have hsub : ∀ i, (listed.setIfInBounds j true).getD i true = false → i ≠ j ∧ listed.getD i true = false := fun i hi => by
        by_cases e : j = i
        · subst e; simp at hi
        · rw [getD_set_ne true e] at hi; exact ⟨fun e' => e e'.symm, hi⟩
      have hnext : chainK o.op = true → ∀ w', St (chl Ts j) w' → Come ops Ts St (listed.setIfInBounds j true) w' := fun hck w' hw' => by
        refine ⟨_, hw', fun i hi hiu => ?_⟩
        obtain ⟨hne, hiu⟩ := hsub i hiu
        have hun : i < j → ((Region.before ops).getD j 0).testBit i = false := fun hij => by
          cases hb : ((Region.before ops).getD j 0).testBit i with
          | false => rfl
          | true =>
            have hl := mask_listed hmask hc (j + 1) j o (by omega) ho hall' i hij hb
            rw [getD_lt (by omega) false true, hiu] at hl; cases hl
        have hcj : isChain ops j = true := by rw [ej]; exact hck
        rcases Nat.lt_or_ge i j with hij | hij
        · cases hci : isChain ops i with
          | true =>
            have := (hall j hjs).2 i hij
            rw [hun hij, Bool.false_or] at this
            exfalso
            unfold swapOk at this
            have ho' : ops[i]? = some ops[i] := Array.getElem?_eq_getElem hi
            simp only [isChain, ho'] at hci
            simp [ho', ho, hci, hck] at this
          | false => simpa using hl3 i j hij hjs hci hcj (hun hij)
        · cases hci : isChain ops i with
          | true => simpa using hl2 j i (by omega) hi hcj hci
          | false => simpa using hl1 j i (by omega) hi hcj hci
      have hstay : Come ops Ts St (listed.setIfInBounds j true) w := ⟨c, hc1, fun i hi hiu => hc2 i hi (hsub i hiu).2⟩
      rw [← hs2] at hfront
      unfold wpLw at hfront
      simp only [ho] at hfront
      rcases hfront with ⟨hcf, v, hy, hk⟩ | ⟨hck, hw, hk⟩
      · exact hy.wpOp ho (hSj (by rw [ej]; exact hcf)) (ih _ _ _ hlen hs' hc' hstay hk)
      · unfold wpOp
        simp only [ho, hw, if_true]
        refine .inl ?_
        have h2 := Oper.wp_mono (K' := wpAny P .any ops Q n (listed.setIfInBounds j true)) (fun a' w' hk => ih _ a' w' hlen hs' hc' (hnext hck w' hk.1) hk.2) hk
        -- the empty exit serves every exit
        unfold Oper.wp at h2 ⊢
        generalize (execOp a.eval o).run P w = r at *
        cases r with
        | ok nx w' =>
          cases nx <;> simp only [Oper.upon] at h2 ⊢ <;> first
            | exact h2
            | exact Calls.mono h2 (fun e w'' he => by
                cases e with
                | returned v => exact he
                | panicked c => exact he.elim
                | outgrown => obtain ⟨_, _, he⟩ := he; exact he.elim)
        | halt x w' => cases x <;> simp only [Oper.upon] at h2 ⊢ <;> first | exact h2 | exact h2.elim


/-! ### The walk: four stages -/
def stg4 (S0 S1 S2 S3 : World → Prop) : Nat → World → Prop
  | 0 => S0
  | 1 => S1
  | 2 => S2
  | _ => S3
variable {S0 S1 S2 S3 : World → Prop}
theorem stg4_mono (h0 : ∀ w, S0 w → S1 w) (h1 : ∀ w, S1 w → S2 w) (h2 : ∀ w, S2 w → S3 w) : ∀ c w, stg4 S0 S1 S2 S3 c w → stg4 S0 S1 S2 S3 (c + 1) w
  | 0, w, h => h0 w h
  | 1, w, h => h1 w h
  | 2, w, h => h2 w h
  | _ + 3, w, h => h
/-- An operation's stage. -/
def lev (ops : Array Oper) (Ts : List Nat) (i : Nat) : Nat := if isChain ops i then chl Ts i else lvl ops Ts i
/-- All operations' stages. -/
def levs (ops : Array Oper) (Ts : List Nat) : List Nat := (List.range ops.size).map (lev ops Ts)
/-- The walk in the order of the text; ahead: the stages of the operations that lie ahead. -/
def wpLew (P : Program) (ops : Array Oper) (S0 S1 S2 S3 : World → Prop) (Q : Exit → Act → World → Prop) : List Nat → List Oper → Act → World → Prop
  | _, [], a, w => Q .normal a w
  | [], _ :: _, _, _ => False
  | n :: lv, o :: r, a, w => (chainK o.op = false ∧ ∃ v, YieldsIf P ops (stg4 S0 S1 S2 S3 n) o v a ∧ wpLew P ops S0 S1 S2 S3 Q lv r (a.put o.dst v) w) ∨
      (chainK o.op = true ∧ Region.wanted o (yielded ops a.tmps) = true ∧ o.wp P a w (fun a' w' => stg4 S0 S1 S2 S3 n w' ∧ wpLew P ops S0 S1 S2 S3 Q lv r a' w') NoExit)
theorem lw_of_lew : ∀ (l : List Oper) (lv : List Nat) (k : Nat) (a : Act) (w : World), (∀ j, l[j]? = ops[k + j]?) → (∀ j, j < l.length → lv[j]? = some (lev ops Ts (k + j))) → wpLew P ops S0 S1 S2 S3 Q lv l a w → wpLw P ops Ts (stg4 S0 S1 S2 S3) Q (List.range' k l.length) a w
  | [], lv, _, _, _, _, _, h => by cases lv <;> exact h
  | o :: l, [], k, a, w, hl, hv, h => h.elim
  | o :: l, n :: lv, k, a, w, hl, hv, h => by
    have h0 : ops[k]? = some o := by simpa using (hl 0).symm
    have hn : n = lev ops Ts k := by have := hv 0 (by simp); simpa using this
    have ei : isChain ops k = chainK o.op := by simp [isChain, h0]
    have ih := fun a w => lw_of_lew l lv (k + 1) a w (fun j => by have := hl (j + 1); simpa [Nat.add_assoc, Nat.add_comm 1 j] using this)
      (fun j hj => by have := hv (j + 1) (by simpa using hj); simpa [Nat.add_assoc, Nat.add_comm 1 j] using this)
    simp only [List.length_cons, List.range'_succ]
    unfold wpLw
    simp only [h0]
    unfold lev at hn
    rcases h with ⟨h0, v, h1, h2⟩ | ⟨h1, h2, h3⟩
    · rw [ei, h0] at hn
      have hn : n = lvl ops Ts k := by simpa using hn
      subst hn
      exact .inl ⟨h0, v, h1, ih _ _ h2⟩
    · rw [ei, h1] at hn
      have hn : n = chl Ts k := by simpa using hn
      subst hn
      exact .inr ⟨h1, h2, Oper.wp_mono (fun a' w' hk => ⟨hk.1, ih _ _ hk.2⟩) h3⟩
theorem wp_region_lew {id : Nat} {l : List Oper} {a : Act} {w : World} (Ts lv : List Nat) (S0 S1 S2 S3 : World → Prop) (h0 : ∀ w, S0 w → S1 w) (h1 : ∀ w, S1 w → S2 w) (h2 : ∀ w, S2 w → S3 w) (hm : P.follows .mixedOrders = true) (hB : lexOk l.toArray = true) (hL : lvOk l.toArray Ts = true) (hlv : levs l.toArray Ts = lv) (hS : S0 w.drew)
    (h : wpLew P l.toArray S0 S1 S2 S3 Q lv l a w.drew) : (Code.region id l.toArray true).wp P Q a w := by
  refine wp_region_any hm ?_
  have hu : unl l.toArray (Array.replicate l.toArray.size false) = List.range l.toArray.size := by
    unfold unl
    refine List.filter_eq_self.2 fun i hi => ?_
    have := List.mem_range.1 hi
    simp at this
    simp [this]
  refine wpAny_of_lw (Ts := Ts) (St := stg4 S0 S1 S2 S3) (stg4_mono h0 h1 h2) hB hL _ _ _ _ (by rw [hu]; simp) (by simp) ?_ ⟨0, hS, fun i _ _ => by split <;> omega⟩ ?_
  · intro j o ho hl
    have : j < l.length := by have := (Array.getElem?_eq_some_iff.1 ho).1; simpa using this
    simp [this] at hl
  · rw [hu]
    have := lw_of_lew (P := P) (ops := l.toArray) (Ts := Ts) (S0 := S0) (S1 := S1) (S2 := S2) (S3 := S3) (Q := Q) l lv 0 a w.drew (by simp) (fun j hj => by
      rw [← hlv]; unfold levs; rw [List.getElem?_map, List.getElem?_range (by simpa using hj)]; simp) h
    simpa [List.range_eq_range'] using this
section
variable {o : Oper} {r : List Oper} {n : Nat} {lv : List Nat} {a : Act} {w : World}
theorem lew_nil (h : Q .normal a w) : wpLew P ops S0 S1 S2 S3 Q lv [] a w := by cases lv <;> exact h
theorem lew_skip (hc : chainK o.op = false) (hw : Region.wanted o (yielded ops a.tmps) = false) (h : wpLew P ops S0 S1 S2 S3 Q lv r (a.put o.dst undef) w) : wpLew P ops S0 S1 S2 S3 Q (n :: lv) (o :: r) a w := .inl ⟨hc, undef, .inr ⟨hw, rfl⟩, h⟩
theorem lew_read0 {v : Value} (hc : chainK o.op = false) (hw : Region.wanted o (yielded ops a.tmps) = true) (hv : ∀ w', S0 w' → (execOp a.eval o).run P w' = .ok (.value v) w') (h : wpLew P ops S0 S1 S2 S3 Q lv r (a.put o.dst v) w) : wpLew P ops S0 S1 S2 S3 Q (0 :: lv) (o :: r) a w :=
  .inl ⟨hc, v, .inl ⟨hw, hv⟩, h⟩
theorem lew_read1 {v : Value} (hc : chainK o.op = false) (hw : Region.wanted o (yielded ops a.tmps) = true) (hv : ∀ w', S1 w' → (execOp a.eval o).run P w' = .ok (.value v) w') (h : wpLew P ops S0 S1 S2 S3 Q lv r (a.put o.dst v) w) : wpLew P ops S0 S1 S2 S3 Q (1 :: lv) (o :: r) a w :=
  .inl ⟨hc, v, .inl ⟨hw, hv⟩, h⟩
theorem lew_read2 {v : Value} (hc : chainK o.op = false) (hw : Region.wanted o (yielded ops a.tmps) = true) (hv : ∀ w', S2 w' → (execOp a.eval o).run P w' = .ok (.value v) w') (h : wpLew P ops S0 S1 S2 S3 Q lv r (a.put o.dst v) w) : wpLew P ops S0 S1 S2 S3 Q (2 :: lv) (o :: r) a w :=
  .inl ⟨hc, v, .inl ⟨hw, hv⟩, h⟩
theorem lew_read3 {v : Value} (hc : chainK o.op = false) (hw : Region.wanted o (yielded ops a.tmps) = true) (hv : ∀ w', S3 w' → (execOp a.eval o).run P w' = .ok (.value v) w') (h : wpLew P ops S0 S1 S2 S3 Q lv r (a.put o.dst v) w) : wpLew P ops S0 S1 S2 S3 Q (3 :: lv) (o :: r) a w :=
  .inl ⟨hc, v, .inl ⟨hw, hv⟩, h⟩
theorem lew_chain0 (hc : chainK o.op = true) (hw : Region.wanted o (yielded ops a.tmps) = true) (h : ∀ K : Act → World → Prop, Hid (∀ a' w', S0 w' → wpLew P ops S0 S1 S2 S3 Q lv r a' w' → K a' w') → o.wp P a w K NoExit) : wpLew P ops S0 S1 S2 S3 Q (0 :: lv) (o :: r) a w :=
  .inr ⟨hc, hw, h _ fun _ _ h1 h2 => ⟨h1, h2⟩⟩
theorem lew_chain1 (hc : chainK o.op = true) (hw : Region.wanted o (yielded ops a.tmps) = true) (h : ∀ K : Act → World → Prop, Hid (∀ a' w', S1 w' → wpLew P ops S0 S1 S2 S3 Q lv r a' w' → K a' w') → o.wp P a w K NoExit) : wpLew P ops S0 S1 S2 S3 Q (1 :: lv) (o :: r) a w :=
  .inr ⟨hc, hw, h _ fun _ _ h1 h2 => ⟨h1, h2⟩⟩
theorem lew_chain2 (hc : chainK o.op = true) (hw : Region.wanted o (yielded ops a.tmps) = true) (h : ∀ K : Act → World → Prop, Hid (∀ a' w', S2 w' → wpLew P ops S0 S1 S2 S3 Q lv r a' w' → K a' w') → o.wp P a w K NoExit) : wpLew P ops S0 S1 S2 S3 Q (2 :: lv) (o :: r) a w :=
  .inr ⟨hc, hw, h _ fun _ _ h1 h2 => ⟨h1, h2⟩⟩
theorem lew_chain3 (hc : chainK o.op = true) (hw : Region.wanted o (yielded ops a.tmps) = true) (h : ∀ K : Act → World → Prop, Hid (∀ a' w', S3 w' → wpLew P ops S0 S1 S2 S3 Q lv r a' w' → K a' w') → o.wp P a w K NoExit) : wpLew P ops S0 S1 S2 S3 Q (3 :: lv) (o :: r) a w :=
  .inr ⟨hc, hw, h _ fun _ _ h1 h2 => ⟨h1, h2⟩⟩
theorem lew_read4 {v : Value} (hc : chainK o.op = false) (hw : Region.wanted o (yielded ops a.tmps) = true) (hv : ∀ w', S3 w' → (execOp a.eval o).run P w' = .ok (.value v) w') (h : wpLew P ops S0 S1 S2 S3 Q lv r (a.put o.dst v) w) : wpLew P ops S0 S1 S2 S3 Q (4 :: lv) (o :: r) a w :=
  .inl ⟨hc, v, .inl ⟨hw, hv⟩, h⟩
theorem lew_chain4 (hc : chainK o.op = true) (hw : Region.wanted o (yielded ops a.tmps) = true) (h : ∀ K : Act → World → Prop, Hid (∀ a' w', S3 w' → wpLew P ops S0 S1 S2 S3 Q lv r a' w' → K a' w') → o.wp P a w K NoExit) : wpLew P ops S0 S1 S2 S3 Q (4 :: lv) (o :: r) a w :=
  .inr ⟨hc, hw, h _ fun _ _ h1 h2 => ⟨h1, h2⟩⟩
end
end
end Go.CH
namespace Go.Proofs.Ytapabbpdfplpoaa
open Go.RowKit Go.CH Go.CH.Esc
open Go.ChangeMaps (setBlock)

set_option maxHeartbeats 400000 in
theorem line_nil (f t : Int) (w : World) : Calls Try.prog 68 #[.pointer none, .int .i64 f, .int .i64 t] w (Quiet w (.pointer none)) := by
  go_enter Try.func68, Try.ntmps68
  go_wp2
  go_ret
  exact ⟨rfl, rfl⟩
def lineV (g : GM) (s : EscP) (f t : Int) : Value := if g.pair f t = true then .pointer (some ⟨s.gp (f, t), 0, none⟩) else .pointer none
set_option maxHeartbeats 400000 in
theorem line_any {w : World} {g : GM} {p : Nat} {s : EscP} (h : EscR w g p s) (f t : Int) : Calls Try.prog 68 #[.pointer (some ⟨p, 0, none⟩), .int .i64 f, .int .i64 t] w (Quiet w (lineV g s f t)) := by
  have c1 := h.c1
  have hl := h.look f t
  rw [show (if g.pair f t = true then Value.pointer (some ⟨s.gp (f, t), 0, none⟩) else .pointer none) = lineV g s f t from rfl] at hl
  generalize lineV g s f t = v at hl
  clear h
  go_enter Try.func68, Try.ntmps68
  go_wp2
  go_ret
  exact ⟨rfl, rfl⟩
set_option maxHeartbeats 400000 in
theorem have_nil (r : Int) (w : World) : Calls Try.prog 26 #[.pointer none, .int .i64 r] w (Quiet w (.int .i64 0)) := by
  go_enter Try.func26, Try.ntmps26
  go_wp2_with fail
  refine (at_nil r w).mono ?_
  rintro e w' ⟨rfl, rfl⟩
  go_wp2
  go_ret
  exact ⟨rfl, rfl⟩
theorem atV_true {g : GM} {s : EscP} {r : Int} {b : Nat} (hb : s.A = some ⟨b, 0, none⟩) (hi : g.is r = true) : atV g s r = .pointer (some ⟨b, r.toNat * 3, none⟩) := by simp [atV, hi, hb]
theorem atV_false {g : GM} {s : EscP} {r : Int} (hi : g.is r = false) : atV g s r = .pointer none := by simp [atV, hi]
set_option maxHeartbeats 400000 in
theorem have_any {w : World} {g : GM} {p : Nat} {s : EscP} (h : EscR w g p s) (hn : 1 ≤ g.acc.length ∧ g.acc.length ≤ 8) (r : Int) : Calls Try.prog 26 #[.pointer (some ⟨p, 0, none⟩), .int .i64 r] w (Quiet w (.int .i64 (have_ g r))) := by
  obtain ⟨b, hb⟩ := h.addr (by omega)
  have KA := hide (at_any h hn r)
  cases hi : g.is r with
  | false =>
    rw [atV_false hi] at KA
    have hv := hide (show have_ g r = 0 by simp [have_, hi])
    clear h hi hb hn
    go_enter Try.func26, Try.ntmps26
    go_wp2_with fail
    refine KA.out.mono ?_
    rintro e w' ⟨rfl, rfl⟩
    go_wp2
    go_ret
    exact ⟨by rw [hv.out]; rfl, rfl⟩
  | true =>
    rw [atV_true hb hi] at KA
    have hv := hide (show have_ g r = (g.at_ r).u by simp [have_, hi])
    obtain ⟨a0, -, -⟩ := h.accs b hb r hi
    generalize (g.at_ r).u = u at a0 hv
    generalize r.toNat * 3 = k at a0 KA
    clear h hi hb hn
    go_enter Try.func26, Try.ntmps26
    go_wp2_with fail
    refine KA.out.mono ?_
    rintro e w' ⟨rfl, rfl⟩
    go_wp2
    go_ret
    exact ⟨by rw [hv.out]; rfl, rfl⟩

/-! ### Writing an account -/
theorem escS_setA {g : GM} {r : Int} {a : Acc} {p : Nat} {s : EscP} {w : World} {F : Nat → Prop}
    (h : star (CellO p #[.slice s.A g.acc.length s.c, .map (some s.bm)] 101) (star (RowO 103 3 (.slice s.A g.acc.length s.c) g.acc.length ((g.acc.set r.toNat a).flatMap accL))
      (star (MapO (pairV .i64) s.bm (ents g.acc.length s.gp)) (bigK (keys g.acc.length) fun k => LineO (g.pr k) (s.gp k)))) w F) : EscS (g.setA r a) p s w F := by
  unfold EscS
  simp only [setA_len]
  exact h
theorem setA_twice (g : GM) (r : Int) (a b : Acc) : (g.setA r a).setA r b = g.setA r b := by simp [GM.setA]
/-- One cell of an account is written. -/
theorem esc_acc {F0 : Nat → Prop} {w0 W : World} {g : GM} {p : Nat} {s : EscP} (h : Run F0 w0 (EscS g p s) W) {r : Int} (hr : g.is r = true) {b : Nat} (hb : s.A = some ⟨b, 0, none⟩) (j : Nat) (hj : j < 3) (v : Value) (a : Acc) (ha : (accL (g.at_ r)).set j v = accL a) :
    Run F0 w0 (EscS (g.setA r a) p s) (W.setCell ⟨b, r.toNat * 3 + j, none⟩ v) ∧ W.frozen? ⟨b, r.toNat * 3 + j, none⟩ = false := by
  have hl := (is_lt hr).2
  have h1 : Run F0 w0 (star (CellO p #[.slice s.A g.acc.length s.c, .map (some s.bm)] 101) (star (RowO 103 3 (.slice s.A g.acc.length s.c) g.acc.length (g.acc.flatMap accL))
    (star (MapO (pairV .i64) s.bm (ents g.acc.length s.gp)) (bigK (keys g.acc.length) fun k => LineO (g.pr k) (s.gp k))))) W := h
  obtain ⟨F, hR, -, hbk⟩ := h1.rot.take row_ok (star_ok cell_ok (star_ok map_ok (bigK_ok (fun _ => lineO_ok))))
  rw [hb] at hR
  have hi : r.toNat * 3 + j < g.acc.length * 3 := by omega
  have h2 := row_set hR hi v
  rw [flat_set accL 3 accL_len hl hj (x := a) (by rw [← at_get hr]; exact ha)] at h2
  refine ⟨(hbk _ _ (by rw [← hb] at h2; exact h2)).rot.imp fun w F h => escS_setA h, row_free hR _ (by omega)⟩
end Go.Proofs.Ytapabbpdfplpoaa
namespace Go.Proofs.Ytapabbpdfplpoaa
open Go.RowKit Go.CH Go.CH.Esc
open Go.ChangeMaps (setBlock)

/-- What a method of an escrow leaves. -/
def EPost (w : World) (F : Nat → Prop) (v : Value) (g : GM) (p : Nat) (e : Ending) (w' : World) : Prop := e = .returned v ∧ Post w F (EscO g p) w'
theorem EPost.quiet {w : World} {F : Nat → Prop} {g : GM} {p : Nat} (h : EscO g p w F) {v : Value} {e : Ending} {w' : World} (hq : Quiet w v e w') : EPost w F v g p e w' := by
  obtain ⟨h1, rfl⟩ := hq
  exact ⟨h1, F, h, Mod.refl _ _, fun i hi => .inl hi⟩
set_option maxHeartbeats 400000 in
theorem change_no {w : World} {v : Value} {r : Int} (hv : Calls Try.prog 66 #[v, .int .i64 r] w (Quiet w (.pointer none))) (d : Int) (fv : Value) :
    Calls Try.prog 72 #[v, .int .i64 r, .int .i64 d, fv] w (Quiet w (.int .i64 1)) := by
  have H := hide hv; clear hv
  go_enter Try.func72, Try.ntmps72
  go_wp2_with fail
  refine H.out.mono ?_
  rintro e w' ⟨rfl, rfl⟩
  go_wp2
  go_ret
  exact ⟨rfl, rfl⟩
set_option maxHeartbeats 400000 in
theorem change_may {w : World} {v : Value} {r : Int} {b k fm : Nat} (hv : Calls Try.prog 66 #[v, .int .i64 r] w (Quiet w (.pointer (some ⟨b, k, none⟩)))) (d em : Int) (hem : em ≠ 0)
    (hcf : ∀ args W, (callFunc fm args).run Try.prog W = .ok (.enter fm args) W) (hm : Calls Try.prog fm #[.pointer (some ⟨b, k, none⟩)] w (Quiet w (.int .i64 em))) :
    Calls Try.prog 72 #[v, .int .i64 r, .int .i64 d, .func (.func fm) #[] #[]] w (Quiet w (.int .i64 em)) := by
  have H := hide hv; have M := hide hm
  have h1 : (em == 0) = false := by simpa using hem
  have h2 : (em != 0) = true := by simpa using hem
  clear hv hm hem
  go_enter Try.func72, Try.ntmps72
  go_wp2_with fail
  refine H.out.mono ?_
  rintro e w' ⟨rfl, rfl⟩
  go_wp2_with fail
  refine M.out.mono ?_
  rintro e w' ⟨rfl, rfl⟩
  go_wp2
  go_ret
  exact ⟨rfl, rfl⟩
set_option maxHeartbeats 800000 in
theorem change_quota {w : World} {v : Value} {r : Int} {b k fm : Nat} (hv : Calls Try.prog 66 #[v, .int .i64 r] w (Quiet w (.pointer (some ⟨b, k, none⟩)))) (d u s : Int)
    (hcf : ∀ args W, (callFunc fm args).run Try.prog W = .ok (.enter fm args) W) (hm : Calls Try.prog fm #[.pointer (some ⟨b, k, none⟩)] w (Quiet w (.int .i64 0)))
    (cu : w.cell? ⟨b, k, none⟩ = some (.int .i64 u)) (cs : w.cell? ⟨b, k + 1, none⟩ = some (.int .i64 s)) (hu : 0 ≤ u ∧ u ≤ 1000000000) (hs : 0 ≤ s ∧ s ≤ 1000000000) (hd : -9223372036854775807 ≤ d ∧ d ≤ 9223372036854775807)
    (hq : u + d < 0 ∨ s - d < 0) :
    Calls Try.prog 72 #[v, .int .i64 r, .int .i64 d, .func (.func fm) #[] #[]] w (Quiet w (.int .i64 19)) := by
  have H := hide hv; have M := hide hm
  clear hv hm
  by_cases h1 : u + d < 0
  · clear hq
    go_enter Try.func72, Try.ntmps72
    go_wp2_with fail
    refine H.out.mono ?_
    rintro e w' ⟨rfl, rfl⟩
    go_wp2_with fail
    refine M.out.mono ?_
    rintro e w' ⟨rfl, rfl⟩
    go_wp2
    go_ret
    exact ⟨rfl, rfl⟩
  · have h2 : s - d < 0 := by omega
    clear hq
    by_cases h3 : u + d ≤ 9223372036854775807
    · go_enter Try.func72, Try.ntmps72
      go_wp2_with fail
      refine H.out.mono ?_
      rintro e w' ⟨rfl, rfl⟩
      go_wp2_with fail
      refine M.out.mono ?_
      rintro e w' ⟨rfl, rfl⟩
      go_wp2
      go_ret
      exact ⟨rfl, rfl⟩
    · have hw : decide (wrap64 (u + d) < 0) = true := by unfold wrap64; simp only [decide_eq_true_eq]; omega
      clear h1 h2 h3
      go_enter Try.func72, Try.ntmps72
      go_wp2_with fail
      refine H.out.mono ?_
      rintro e w' ⟨rfl, rfl⟩
      go_wp2_with fail
      refine M.out.mono ?_
      rintro e w' ⟨rfl, rfl⟩
      go_wp2
      go_ret
      exact ⟨rfl, rfl⟩
/-- Units and spent are written. -/
theorem esc_two {F0 : Nat → Prop} {w0 W : World} {g : GM} {p : Nat} {s : EscP} (h : Run F0 w0 (EscS g p s) W) {r : Int} (hr : g.is r = true) {b : Nat} (hb : s.A = some ⟨b, 0, none⟩) (u v : Int) :
    (W.frozen? ⟨b, r.toNat * 3, none⟩ = false ∧ (W.setCell ⟨b, r.toNat * 3, none⟩ (.int .i64 u)).frozen? ⟨b, r.toNat * 3 + 1, none⟩ = false) ∧
    Run F0 w0 (EscS (g.setA r { g.at_ r with u := u, s := v }) p s) ((W.setCell ⟨b, r.toNat * 3, none⟩ (.int .i64 u)).setCell ⟨b, r.toNat * 3 + 1, none⟩ (.int .i64 v)) := by
  obtain ⟨h1, h2⟩ := esc_acc h hr hb 0 (by omega) (.int .i64 u) { g.at_ r with u := u } rfl
  have hr' : (g.setA r { g.at_ r with u := u }).is r = true := by rw [setA_is]; exact hr
  obtain ⟨h3, h4⟩ := esc_acc h1 hr' hb 1 (by omega) (.int .i64 v) { g.at_ r with u := u, s := v } (by rw [setA_at hr _ r hr, if_pos rfl]; rfl)
  rw [setA_twice] at h3
  exact ⟨⟨h2, h4⟩, h3⟩
set_option maxRecDepth 100000 in
set_option maxHeartbeats 1600000 in
theorem change_ok {w : World} {F : Nat → Prop} {g : GM} {p : Nat} (h : EscO g p w F) (hn : 1 ≤ g.acc.length ∧ g.acc.length ≤ 8) {r : Int} (hr : g.is r = true) {fm : Nat} (d : Int)
    (hcf : ∀ args W, (callFunc fm args).run Try.prog W = .ok (.enter fm args) W) (hm : ∀ b, w.cell? ⟨b, r.toNat * 3 + 2, none⟩ = some (.bool (g.at_ r).rev) → Calls Try.prog fm #[.pointer (some ⟨b, r.toNat * 3, none⟩)] w (Quiet w (.int .i64 0)))
    (hu : 0 ≤ (g.at_ r).u ∧ (g.at_ r).u ≤ 1000000000) (hs : 0 ≤ (g.at_ r).s ∧ (g.at_ r).s ≤ 1000000000) (hd : -1000000000 ≤ d ∧ d ≤ 1000000000) (h0 : 0 ≤ (g.at_ r).u + d) (h1 : 0 ≤ (g.at_ r).s - d) :
    Calls Try.prog 72 #[.pointer (some ⟨p, 0, none⟩), .int .i64 r, .int .i64 d, .func (.func fm) #[] #[]] w (EPost w F (.int .i64 0) (g.setA r { g.at_ r with u := (g.at_ r).u + d, s := (g.at_ r).s - d }) p) := by
  obtain ⟨s, hS⟩ := h
  have hR := hS.read
  obtain ⟨b, hb⟩ := hR.addr (by omega)
  have KA := hide (at_any hR hn r)
  rw [atV_true hb hr] at KA
  obtain ⟨cu, cs, cr⟩ := hR.accs b hb r hr
  have KM := hide (hm b cr)
  have R1 := hide ((Run.start hS).drew escS_ok)
  obtain ⟨⟨z1, z2⟩, hfin⟩ := esc_two R1.out hr hb ((g.at_ r).u + d) ((g.at_ r).s - d)
  have HFIN := hide hfin
  generalize (g.at_ r).u = u at *
  generalize (g.at_ r).s = v at *
  generalize r.toNat * 3 = k at *
  clear hm hS hR hfin cr
  have t1 : IntKind.i64.wrap (u + d) = u + d := IntWalk.i64_in _ (by omega)
  have t2 : IntKind.i64.wrap (v - d) = v - d := IntWalk.i64_in _ (by omega)
  have z3 : w.frozen? ⟨b, k + 1, none⟩ = false := by simpa using z2
  go_enter Try.func72, Try.ntmps72
  go_wp2_with fail
  refine KA.out.mono ?_
  rintro e w' ⟨rfl, rfl⟩
  go_wp2_with fail
  refine KM.out.mono ?_
  rintro e w' ⟨rfl, rfl⟩
  go_wp2
  refine wp_region_lew [16, 19] [0, 1, 0, 0, 0, 0, 0, 0, 0, 0, 0, 0, 1, 1, 0, 0, 1, 1, 1, 2] (fun w' => w'.cell? ⟨b, k, none⟩ = some (.int .i64 u) ∧ w'.cell? ⟨b, k + 1, none⟩ = some (.int .i64 v)) (fun w' => w'.cell? ⟨b, k + 1, none⟩ = some (.int .i64 v)) (fun _ => True) (fun _ => True) (fun _ h => h.2) (fun _ _ => trivial) (fun _ _ => trivial) (by kernel_rfl) (by kernel_rfl) (by kernel_rfl) (by kernel_rfl) (by exact ⟨cu, cs⟩) ?_
  (repeat (first | (refine lew_skip (by rfl) (by rfl) ?_; try simp only [Act.put, List.setIfInBounds_toArray, List.set_cons_zero, List.set_cons_succ]) | (refine lew_read0 (v := ?_) (by rfl) (by rfl) ?_ ?_; rotate_left; (focus (intro w' hS'; go_simp; (try with_reducible rfl); done)); try simp only [Act.put, List.setIfInBounds_toArray, List.set_cons_zero, List.set_cons_succ]) | (refine lew_read1 (v := ?_) (by rfl) (by rfl) ?_ ?_; rotate_left; (focus (intro w' hS'; go_simp; (try with_reducible rfl); done)); try simp only [Act.put, List.setIfInBounds_toArray, List.set_cons_zero, List.set_cons_succ]) | (refine lew_read2 (v := ?_) (by rfl) (by rfl) ?_ ?_; rotate_left; (focus (intro w' hS'; go_simp; (try with_reducible rfl); done)); try simp only [Act.put, List.setIfInBounds_toArray, List.set_cons_zero, List.set_cons_succ]) | (refine lew_read3 (v := ?_) (by rfl) (by rfl) ?_ ?_; rotate_left; (focus (intro w' hS'; go_simp; (try with_reducible rfl); done)); try simp only [Act.put, List.setIfInBounds_toArray, List.set_cons_zero, List.set_cons_succ]) | (refine lew_read4 (v := ?_) (by rfl) (by rfl) ?_ ?_; rotate_left; (focus (intro w' hS'; go_simp; (try with_reducible rfl); done)); try simp only [Act.put, List.setIfInBounds_toArray, List.set_cons_zero, List.set_cons_succ])))
  refine lew_chain1 rfl (by rfl) (fun K hK => ?_)
  go_wp2_with fail
  have hc : (w.drew.setCell ⟨b, k, none⟩ (.int .i64 (u + d))).cell? ⟨b, k + 1, none⟩ = some (.int .i64 v) := by rw [World.cell?_setCell_other _ _ _ _ (fun e => by injection e with e1 e2; omega)]; exact cs
  refine hK.out _ _ hc ?_
  clear hK
  (repeat (first | (refine lew_skip (by rfl) (by rfl) ?_; try simp only [Act.put, List.setIfInBounds_toArray, List.set_cons_zero, List.set_cons_succ]) | (refine lew_read0 (v := ?_) (by rfl) (by rfl) ?_ ?_; rotate_left; (focus (intro w' hS'; go_simp; (try with_reducible rfl); done)); try simp only [Act.put, List.setIfInBounds_toArray, List.set_cons_zero, List.set_cons_succ]) | (refine lew_read1 (v := ?_) (by rfl) (by rfl) ?_ ?_; rotate_left; (focus (intro w' hS'; go_simp; (try with_reducible rfl); done)); try simp only [Act.put, List.setIfInBounds_toArray, List.set_cons_zero, List.set_cons_succ]) | (refine lew_read2 (v := ?_) (by rfl) (by rfl) ?_ ?_; rotate_left; (focus (intro w' hS'; go_simp; (try with_reducible rfl); done)); try simp only [Act.put, List.setIfInBounds_toArray, List.set_cons_zero, List.set_cons_succ]) | (refine lew_read3 (v := ?_) (by rfl) (by rfl) ?_ ?_; rotate_left; (focus (intro w' hS'; go_simp; (try with_reducible rfl); done)); try simp only [Act.put, List.setIfInBounds_toArray, List.set_cons_zero, List.set_cons_succ]) | (refine lew_read4 (v := ?_) (by rfl) (by rfl) ?_ ?_; rotate_left; (focus (intro w' hS'; go_simp; (try with_reducible rfl); done)); try simp only [Act.put, List.setIfInBounds_toArray, List.set_cons_zero, List.set_cons_succ])))
  refine lew_chain2 rfl (by rfl) (fun K hK => ?_)
  go_wp2_with fail
  refine hK.out _ _ trivial (lew_nil ?_)
  go_wp2
  go_ret
  obtain ⟨F', q1, q2, q3⟩ := HFIN.out.post escS_ok
  exact ⟨rfl, F', ⟨_, q1⟩, q2, q3⟩
end Go.Proofs.Ytapabbpdfplpoaa
namespace Go.Proofs.Ytapabbpdfplpoaa
open Go.RowKit Go.CH Go.CH.Esc
open Go.ChangeMaps (setBlock)

theorem Inv.bnd {g : GM} {U : Int} (h : Inv g U) {r : Int} (hr : g.is r = true) : (0 ≤ (g.at_ r).u ∧ (g.at_ r).u ≤ 1000000000) ∧ (0 ≤ (g.at_ r).s ∧ (g.at_ r).s ≤ 1000000000) := by
  have h1 := h.at_ hr
  have hm := at_mem hr
  have h2 : (g.at_ r).u ≤ haveG g := isum_mem_le (fun y hy => by obtain ⟨a, ha, rfl⟩ := List.mem_map.1 hy; exact (h.acc a ha).1) (List.mem_map_of_mem hm)
  have h3 : (g.at_ r).s ≤ spentG g := isum_mem_le (fun y hy => by obtain ⟨a, ha, rfl⟩ := List.mem_map.1 hy; exact (h.acc a ha).2) (List.mem_map_of_mem hm)
  have h4 : 0 ≤ haveG g := isum_nonneg (fun y hy => by obtain ⟨a, ha, rfl⟩ := List.mem_map.1 hy; exact (h.acc a ha).1)
  have h5 : 0 ≤ spentG g := isum_nonneg (fun y hy => by obtain ⟨a, ha, rfl⟩ := List.mem_map.1 hy; exact (h.acc a ha).2)
  have h6 : 0 ≤ flyG g := isum_nonneg (fun y hy => by
    obtain ⟨k, hk, rfl⟩ := List.mem_map.1 hy
    have hp : g.pair k.1 k.2 = true := pair_mem.2 hk
    exact fly_nonneg (h.pr k.1 k.2 hp))
  have := h.tot
  have := h.U
  omega
set_option maxHeartbeats 400000 in
theorem spend1 {w : World} {b k : Nat} {v : Bool} (hc : w.cell? ⟨b, k + 2, none⟩ = some (.bool v)) : Calls Try.prog 73 #[.pointer (some ⟨b, k, none⟩)] w (Quiet w (.int .i64 (if v then 22 else 0))) := by
  cases v with
  | true =>
    go_enter Try.func73, Try.ntmps73
    go_wp2_with fail
    go_ret
    exact ⟨rfl, rfl⟩
  | false =>
    go_enter Try.func73, Try.ntmps73
    go_wp2_with fail
    go_ret
    exact ⟨rfl, rfl⟩
set_option maxHeartbeats 400000 in
theorem ret1 {w : World} {b k : Nat} : Calls Try.prog 74 #[.pointer (some ⟨b, k, none⟩)] w (Quiet w (.int .i64 0)) := by
  go_enter Try.func74, Try.ntmps74
  go_wp2_with fail
  go_ret
  exact ⟨rfl, rfl⟩
theorem call73 : ∀ args W, (callFunc 73 args).run Try.prog W = .ok (.enter 73 args) W := fun args W => by kernel_rfl
theorem call74 : ∀ args W, (callFunc 74 args).run Try.prog W = .ok (.enter 74 args) W := fun args W => by kernel_rfl

/-- What change answers for Spend. -/
theorem change_spend {w : World} {F : Nat → Prop} {g : GM} {p : Nat} (h : EscO g p w F) {U : Int} (hI : Inv g U) (r k : Int) (hk : 1 ≤ k ∧ k ≤ 9223372036854775807) :
    Calls Try.prog 72 #[.pointer (some ⟨p, 0, none⟩), .int .i64 r, .int .i64 (-k), .func (.func 73) #[] #[]] w (EPost w F (.int .i64 (spendE g r k)) (spendM g r k) p) := by
  have hk1 : ¬ k < 1 := by omega
  cases hr : g.is r with
  | false =>
    have e1 : spendE g r k = 1 := by simp [spendE, hr]
    have e2 : spendM g r k = g := by simp [spendM, e1]
    rw [e1, e2]
    obtain ⟨s, hS⟩ := h
    have hat := at_any hS.read hI.nb r
    rw [atV_false hr] at hat
    exact (change_no hat _ _).mono (fun e w' hq => EPost.quiet ⟨s, hS⟩ hq)
  | true =>
    have hB := Inv.bnd hI hr
    obtain ⟨s, hS⟩ := h
    have hR := hS.read
    obtain ⟨b, hb⟩ := hR.addr (by have := hI.nb; omega)
    have hat := at_any hR hI.nb r
    rw [atV_true hb hr] at hat
    obtain ⟨cu, cs, cr⟩ := hR.accs b hb r hr
    cases hv : (g.at_ r).rev with
    | true =>
      have e1 : spendE g r k = 22 := by simp [spendE, hr, hv, hk1]
      have e2 : spendM g r k = g := by simp [spendM, e1]
      rw [e1, e2]
      rw [hv] at cr
      exact (change_may hat (-k) 22 (by omega) call73 (by simpa using spend1 cr)).mono (fun e w' hq => EPost.quiet ⟨s, hS⟩ hq)
    | false =>
      rw [hv] at cr
      have hm : Calls Try.prog 73 #[.pointer (some ⟨b, r.toNat * 3, none⟩)] w (Quiet w (.int .i64 0)) := by simpa using spend1 cr
      by_cases hq : (g.at_ r).u < k
      · have e1 : spendE g r k = 19 := by simp [spendE, hr, hv, hk1, hq]
        have e2 : spendM g r k = g := by simp [spendM, e1]
        rw [e1, e2]
        exact (change_quota hat (-k) _ _ call73 hm cu cs hB.1 hB.2 (by omega) (.inl (by omega))).mono (fun e w' hq => EPost.quiet ⟨s, hS⟩ hq)
      · have e1 : spendE g r k = 0 := by simp [spendE, hr, hv, hk1, hq]
        have e2 : spendM g r k = g.setA r { g.at_ r with u := (g.at_ r).u + -k, s := (g.at_ r).s - -k } := by
          simp only [spendM, e1, if_true]; congr 2 <;> omega
        rw [e1, e2]
        refine change_ok ⟨s, hS⟩ hI.nb hr (-k) call73 (fun b hb => ?_) hB.1 hB.2 (by omega) (by omega) (by omega)
        rw [hv] at hb
        simpa using spend1 hb
/-- What change answers for Return. -/
theorem change_ret {w : World} {F : Nat → Prop} {g : GM} {p : Nat} (h : EscO g p w F) {U : Int} (hI : Inv g U) (r k : Int) (hk : 1 ≤ k ∧ k ≤ 9223372036854775807) :
    Calls Try.prog 72 #[.pointer (some ⟨p, 0, none⟩), .int .i64 r, .int .i64 k, .func (.func 74) #[] #[]] w (EPost w F (.int .i64 (retE g r k)) (retM g r k) p) := by
  have hk1 : ¬ k < 1 := by omega
  cases hr : g.is r with
  | false =>
    have e1 : retE g r k = 1 := by simp [retE, hr]
    have e2 : retM g r k = g := by simp [retM, e1]
    rw [e1, e2]
    obtain ⟨s, hS⟩ := h
    have hat := at_any hS.read hI.nb r
    rw [atV_false hr] at hat
    exact (change_no hat _ _).mono (fun e w' hq => EPost.quiet ⟨s, hS⟩ hq)
  | true =>
    have hB := Inv.bnd hI hr
    obtain ⟨s, hS⟩ := h
    have hR := hS.read
    obtain ⟨b, hb⟩ := hR.addr (by have := hI.nb; omega)
    have hat := at_any hR hI.nb r
    rw [atV_true hb hr] at hat
    obtain ⟨cu, cs, cr⟩ := hR.accs b hb r hr
    by_cases hq : (g.at_ r).s < k
    · have e1 : retE g r k = 19 := by simp [retE, hr, hk1, hq]
      have e2 : retM g r k = g := by simp [retM, e1]
      rw [e1, e2]
      exact (change_quota hat k _ _ call74 ret1 cu cs hB.1 hB.2 (by omega) (.inr (by omega))).mono (fun e w' hq => EPost.quiet ⟨s, hS⟩ hq)
    · have e1 : retE g r k = 0 := by simp [retE, hr, hk1, hq]
      have e2 : retM g r k = g.setA r { g.at_ r with u := (g.at_ r).u + k, s := (g.at_ r).s - k } := by
        simp only [retM, e1, if_true]
      rw [e1, e2]
      exact change_ok ⟨s, hS⟩ hI.nb hr k call74 (fun b hb => ret1) hB.1 hB.2 (by omega) (by omega) (by omega)
set_option maxHeartbeats 400000 in
theorem spend_any {w : World} {F : Nat → Prop} {g : GM} {p : Nat} (h : EscO g p w F) {U : Int} (hI : Inv g U) (r k : Int) (hk : -9223372036854775808 ≤ k ∧ k ≤ 9223372036854775807) :
    Calls Try.prog 33 #[.pointer (some ⟨p, 0, none⟩), .int .i64 r, .int .i64 k] w (EPost w F (.int .i64 (spendE g r k)) (spendM g r k) p) := by
  by_cases hk1 : k < 1
  · have e1 : spendE g r k = 1 := by simp [spendE, hk1]
    have e2 : spendM g r k = g := by simp [spendM, e1]
    rw [e1, e2]
    have H := hide h
    clear h hI e1 e2
    go_enter Try.func33, Try.ntmps33
    go_wp2_with fail
    go_ret
    exact EPost.quiet H.out ⟨rfl, rfl⟩
  · have H := hide (change_spend h hI r k (by omega))
    have t1 : IntKind.i64.wrap (-k) = -k := IntWalk.i64_in _ (by omega)
    generalize spendE g r k = e at *
    generalize spendM g r k = g' at *
    clear h hI
    go_enter Try.func33, Try.ntmps33
    go_wp2_with fail
    refine H.out.mono ?_
    rintro e w' ⟨rfl, hP⟩
    go_wp2
    go_ret
    exact ⟨rfl, hP⟩
set_option maxHeartbeats 400000 in
theorem ret_any {w : World} {F : Nat → Prop} {g : GM} {p : Nat} (h : EscO g p w F) {U : Int} (hI : Inv g U) (r k : Int) (hk : -9223372036854775808 ≤ k ∧ k ≤ 9223372036854775807) :
    Calls Try.prog 35 #[.pointer (some ⟨p, 0, none⟩), .int .i64 r, .int .i64 k] w (EPost w F (.int .i64 (retE g r k)) (retM g r k) p) := by
  by_cases hk1 : k < 1
  · have e1 : retE g r k = 1 := by simp [retE, hk1]
    have e2 : retM g r k = g := by simp [retM, e1]
    rw [e1, e2]
    have H := hide h
    clear h hI e1 e2
    go_enter Try.func35, Try.ntmps35
    go_wp2_with fail
    go_ret
    exact EPost.quiet H.out ⟨rfl, rfl⟩
  · have H := hide (change_ret h hI r k (by omega))
    generalize retE g r k = e at *
    generalize retM g r k = g' at *
    clear h hI
    go_enter Try.func35, Try.ntmps35
    go_wp2_with fail
    refine H.out.mono ?_
    rintro e w' ⟨rfl, hP⟩
    go_wp2
    go_ret
    exact ⟨rfl, hP⟩
set_option maxHeartbeats 800000 in
theorem rev_any {w : World} {F : Nat → Prop} {g : GM} {p : Nat} (h : EscO g p w F) {U : Int} (hI : Inv g U) (r : Int) :
    Calls Try.prog 34 #[.pointer (some ⟨p, 0, none⟩), .int .i64 r] w (EPost w F (.int .i64 (revE g r)) (revM g r) p) := by
  cases hr : g.is r with
  | false =>
    have e1 : revE g r = 1 := by simp [revE, hr]
    have e2 : revM g r = g := by simp [revM, hr]
    rw [e1, e2]
    have H := hide h
    obtain ⟨s, hS⟩ := h
    have hat := at_any hS.read hI.nb r
    rw [atV_false hr] at hat
    have KA := hide hat
    clear hat hI e1 e2 hS
    go_enter Try.func34, Try.ntmps34
    go_wp2_with fail
    refine KA.out.mono ?_
    rintro e w' ⟨rfl, rfl⟩
    go_wp2
    go_ret
    exact EPost.quiet H.out ⟨rfl, rfl⟩
  | true =>
    have e1 : revE g r = 0 := by simp [revE, hr]
    have e2 : revM g r = g.setA r { g.at_ r with rev := true } := by simp [revM, hr]
    rw [e1, e2]
    obtain ⟨s, hS⟩ := h
    have hR := hS.read
    obtain ⟨b, hb⟩ := hR.addr (by have := hI.nb; omega)
    have hat := at_any hR hI.nb r
    rw [atV_true hb hr] at hat
    have KA := hide hat
    obtain ⟨_, _, cr⟩ := hR.accs b hb r hr
    obtain ⟨hrun, hz⟩ := esc_acc (Run.start hS) hr hb 2 (by omega) (.bool true) { g.at_ r with rev := true } rfl
    obtain ⟨F', q1, q2, q3⟩ := hrun.post escS_ok
    have HP := hide (show Post w F (EscO (g.setA r { g.at_ r with rev := true }) p) _ from ⟨F', ⟨_, q1⟩, q2, q3⟩)
    generalize (g.at_ r).rev = v at *
    generalize r.toNat * 3 = k at *
    clear hat hI e1 e2 hS hR hrun q1 q2 q3
    go_enter Try.func34, Try.ntmps34
    go_wp2_with fail
    refine KA.out.mono ?_
    rintro e w' ⟨rfl, rfl⟩
    go_wp2
    go_ret
    exact ⟨rfl, HP.out⟩
end Go.Proofs.Ytapabbpdfplpoaa
namespace Go.Proofs.Ytapabbpdfplpoaa
open Go.RowKit Go.CH Go.CH.Esc
open Go.ChangeMaps (setBlock)

/-- All but one line. -/
def EscQ (g : GM) (p : Nat) (s : EscP) (k : Int × Int) : Own :=
  star (CellO p #[.slice s.A g.acc.length s.c, .map (some s.bm)] 101) (star (RowO 103 3 (.slice s.A g.acc.length s.c) g.acc.length (g.acc.flatMap accL))
    (star (MapO (pairV .i64) s.bm (ents g.acc.length s.gp)) (bigK (@List.erase (Int × Int) instBEqOfDecidableEq (keys g.acc.length) k) fun k => LineO (g.pr k) (s.gp k))))
theorem escQ_ok {g : GM} {p : Nat} {s : EscP} {k : Int × Int} : (EscQ g p s k).Ok := star_ok cell_ok (star_ok row_ok (star_ok map_ok (bigK_ok (fun _ => lineO_ok))))
/-- The line in its three parts. -/
def LineQ (p : PrG) (g : Nat) (s : LinS) (O : Own) : Own :=
  star (CellO g #[.slice s.A (p.H.drop p.conf).length s.c, .int .i64 p.H.length, .int .i64 p.rc, .slice s.B s.zs.length s.d] 109)
    (star (RowO 3 1 (.slice s.A (p.H.drop p.conf).length s.c) (p.H.drop p.conf).length (ints (p.H.drop p.conf)))
      (star (ARow zcl zow 124 4 (.slice s.B s.zs.length s.d) s.zs) O))
theorem lineQ_ok {p : PrG} {g : Nat} {s : LinS} {O : Own} (h : O.Ok) : (LineQ p g s O).Ok := star_ok cell_ok (star_ok row_ok (star_ok (arow_ok zow_ok) h))
theorem escQ_out {w : World} {F : Nat → Prop} {g : GM} {p : Nat} {s : EscP} {k : Int × Int} (hk : k ∈ keys g.acc.length) (h : EscS g p s w F) : star (LineO (g.pr k) (s.gp k)) (EscQ g p s k) w F :=
  star_rot (star_mono h (fun _ h => h) (fun F h => star_rot (star_mono h (fun _ h => h) (fun F h => star_rot (star_mono h (fun _ h => h) (fun F h => bigK_out hk h))))))
theorem escQ_in {w : World} {F : Nat → Prop} {g : GM} {p : Nat} {s : EscP} {k : Int × Int} {q : PrG} (hk : k ∈ keys g.acc.length) (h : star (LineO q (s.gp k)) (EscQ g p s k) w F) : EscS (g.setP k q) p s w F := by
  have h1 : star (CellO p #[.slice s.A g.acc.length s.c, .map (some s.bm)] 101) (star (RowO 103 3 (.slice s.A g.acc.length s.c) g.acc.length (g.acc.flatMap accL))
    (star (MapO (pairV .i64) s.bm (ents g.acc.length s.gp)) (star (LineO q (s.gp k)) (bigK (@List.erase (Int × Int) instBEqOfDecidableEq (keys g.acc.length) k) fun k => LineO (g.pr k) (s.gp k))))) w F :=
    star_mono (star_rot h) (fun _ h => h) (fun F h => star_mono (star_rot h) (fun _ h => h) (fun F h => star_rot h))
  refine star_mono h1 (fun _ h => h) (fun F h => star_mono h (fun _ h => h) (fun F h => star_mono h (fun _ h => h) (fun F h => ?_)))
  refine bigK_in (nodup_keys _) (f := fun k => LineO (g.pr k) (s.gp k)) (g := fun x => LineO ((g.setP k q).pr x) (s.gp x)) hk (fun x hx => ?_) ?_
  · simp [GM.setP, hx]
  · have : (g.setP k q).pr k = q := by simp [GM.setP]
    simp only [this]; exact h
theorem esc_line {F0 : Nat → Prop} {w0 W : World} {g : GM} {p : Nat} {s : EscP} (h : Run F0 w0 (EscS g p s) W) {f t : Int} (hp : g.pair f t = true) :
    ∃ l, LineZ (g.pr (f, t)) l ∧ Run F0 w0 (LineQ (g.pr (f, t)) (s.gp (f, t)) l (EscQ g p s (f, t))) W := by
  have hk := pair_mem.1 hp
  obtain ⟨⟨F, ⟨F1, F2, ⟨l, hz, hl⟩, h2, h3, h4⟩, hF⟩, hm⟩ := h.imp (B := star (LineO (g.pr (f, t)) (s.gp (f, t))) (EscQ g p s (f, t))) fun w F h => escQ_out hk h
  have h5 : Run F0 w0 (star (LineS (g.pr (f, t)) (s.gp (f, t)) l) (EscQ g p s (f, t))) W := ⟨⟨F, ⟨F1, F2, hl, h2, h3, h4⟩, hF⟩, hm⟩
  exact ⟨l, hz, h5.imp fun w F h => star_mono (star_assoc h) (fun _ h => h) (fun F h => star_assoc h)⟩
theorem esc_back {F0 : Nat → Prop} {w0 W : World} {g : GM} {p : Nat} {s : EscP} {f t : Int} {q : PrG} {l : LinS} (h : Run F0 w0 (LineQ q (s.gp (f, t)) l (EscQ g p s (f, t))) W) (hz : LineZ q l) (hp : g.pair f t = true) :
    Run F0 w0 (EscS (g.setP (f, t) q) p s) W := by
  have h1 : Run F0 w0 (star (LineS q (s.gp (f, t)) l) (EscQ g p s (f, t))) W := h.imp fun w F h => star_assoc' (star_mono h (fun _ h => h) (fun F h => star_assoc' h))
  refine h1.imp fun w F h => escQ_in (pair_mem.1 hp) (star_mono h (fun F h => ⟨l, hz, h⟩) (fun _ h => h))
end Go.Proofs.Ytapabbpdfplpoaa
namespace Go.Proofs.Ytapabbpdfplpoaa
open Go.RowKit Go.CH Go.CH.Esc
open Go.ChangeMaps (setBlock)

theorem intsOk : SliceOk Try.prog 74 3 (.int .i64 0) 1 8 := ⟨Try.underlying74, by kernel_rfl, rfl, by decide⟩
/-- A line's cells as they are read. -/
theorem line_cells {F0 : Nat → Prop} {w0 W : World} {q : PrG} {gp : Nat} {l : LinS} {O : Own} (h : Run F0 w0 (LineQ q gp l O) W) :
    W.cell? ⟨gp, 0, none⟩ = some (.slice l.A (q.H.drop q.conf).length l.c) ∧ W.cell? ⟨gp, 1, none⟩ = some (.int .i64 q.H.length) ∧ W.cell? ⟨gp, 2, none⟩ = some (.int .i64 q.rc) ∧ W.cell? ⟨gp, 3, none⟩ = some (.slice l.B l.zs.length l.d) := by
  obtain ⟨F, hC⟩ := h.fst
  exact ⟨cell_at hC rfl, cell_at hC rfl, cell_at hC rfl, cell_at hC rfl⟩
theorem drop_snoc {α : Type} (l : List α) (k : Nat) (x : α) (h : k ≤ l.length) : (l ++ [x]).drop k = l.drop k ++ [x] := List.drop_append_of_le_length h
/-- A transfer has been appended: the line's two cells are written. -/
theorem give_run {F0 : Nat → Prop} {w0 W : World} {g : GM} {p : Nat} {s : EscP} {f t : Int} {k : Int} {l : LinS} {A : Option Addr} {c : Nat} {U : Int} (hp : g.pair f t = true) (hk : PrOk (g.pr (f, t)) (g.pr (t, f))) (hz : LineZ (g.pr (f, t)) l)
    (h : Run F0 w0 (star (RowO 3 1 (.slice A (((g.pr (f, t)).H.drop (g.pr (f, t)).conf).length + 1) c) (((g.pr (f, t)).H.drop (g.pr (f, t)).conf).length + 1) (ints ((g.pr (f, t)).H.drop (g.pr (f, t)).conf) ++ [.int .i64 k]))
      (star (CellO (s.gp (f, t)) #[.slice l.A ((g.pr (f, t)).H.drop (g.pr (f, t)).conf).length l.c, .int .i64 (g.pr (f, t)).H.length, .int .i64 (g.pr (f, t)).rc, .slice l.B l.zs.length l.d] 109)
        (star (ARow zcl zow 124 4 (.slice l.B l.zs.length l.d) l.zs) (EscQ g p s (f, t))))) W) :
    (W.frozen? ⟨s.gp (f, t), 0, none⟩ = false ∧ W.frozen? ⟨s.gp (f, t), 1, none⟩ = false) ∧
    Run F0 w0 (EscS (g.setP (f, t) { g.pr (f, t) with H := (g.pr (f, t)).H ++ [k] }) p s)
      ((W.setCell ⟨s.gp (f, t), 0, none⟩ (.slice A (((g.pr (f, t)).H.drop (g.pr (f, t)).conf).length + 1) c)).setCell ⟨s.gp (f, t), 1, none⟩ (.int .i64 ((g.pr (f, t)).H.length + 1))) := by
  have hc : (g.pr (f, t)).conf ≤ (g.pr (f, t)).H.length := Nat.le_trans hk.cr hk.rl
  have hd := drop_snoc _ _ k hc
  obtain ⟨F1, hC, -, bk⟩ := h.rot.take cell_ok (star_ok row_ok (star_ok (arow_ok zow_ok) escQ_ok))
  have z0 := cell_free hC 0
  have z1 := cell_free hC 1
  have S1 := bk _ _ (cell_set hC 0 (.slice A (((g.pr (f, t)).H.drop (g.pr (f, t)).conf).length + 1) c))
  obtain ⟨F2, hC2, -, bk2⟩ := S1.take cell_ok (star_ok row_ok (star_ok (arow_ok zow_ok) escQ_ok))
  have S2 := bk2 _ _ (cell_set hC2 1 (.int .i64 ((g.pr (f, t)).H.length + 1)))
  refine ⟨⟨z0, z1⟩, esc_back (l := { l with A := A, c := c }) (S2.imp fun w F h => ?_) ⟨hz.1, fun z hzz => ?_⟩ hp⟩
  · unfold LineQ
    simp only [hd]
    simpa [ints, hd] using h
  · rw [hz.2 z hzz]
    have hm : z.m ∈ (g.pr (f, t)).ms := by rw [← hz.1]; exact List.mem_map_of_mem hzz
    have := (hk.msg _ hm).2.2.1
    unfold msgT
    rw [List.take_append_of_le_length this]
theorem src_one (w : World) (k : Int) (e : TypeId) : Src (w.alloc (.cells #[.int .i64 k] e)) (some ⟨w.heap.size, 0, none⟩) 1 1 [.int .i64 k] := by
  refine ⟨rfl, fun u hu => by simp at hu; subst hu; rfl, fun _ => ⟨_, rfl, fun j u hu => ?_⟩⟩
  cases j with
  | zero =>
    simp at hu; subst hu
    obtain ⟨F', hC, -⟩ := cell_new w #[.int .i64 k] e
    exact cell_at hC (i := 0) rfl
  | succ j => simp at hu
set_option maxRecDepth 100000 in
set_option maxHeartbeats 1600000 in
theorem give_ok {w : World} {F : Nat → Prop} {g : GM} {p : Nat} (h : EscO g p w F) {U : Int} (hI : Inv g U) {f t : Nat} (hp : g.pair f t = true) (k : Int) (hk : 1 ≤ k) (hu : k ≤ (g.at_ f).u) (hl : (g.pr (f, t)).H.length ≤ 1000000) (hq : (g.pr (f, t)).H.length - (g.pr (f, t)).conf < 100) :
    Calls Try.prog 32 #[.pointer (some ⟨p, 0, none⟩), .int .i64 f, .int .i64 t, .int .i64 k] w (EPost w F (.int .i64 0) ((g.setA f { g.at_ f with u := (g.at_ f).u - k }).setP (f, t) { g.pr (f, t) with H := (g.pr (f, t)).H ++ [k] }) p) := by
  have hr := (pair_is hp).1
  have hfl := (is_lt hr).2
  have hB := Inv.bnd hI hr
  have hPr := hI.pr f t hp
  obtain ⟨s, hS⟩ := h
  have hR := hS.read
  obtain ⟨b, hb⟩ := hR.addr (by have := hI.nb; omega)
  have KL := hide (line_any hR f t)
  rw [lineV, if_pos hp] at KL
  have hc0 := hR.c0
  rw [hb] at hc0
  obtain ⟨cu, -, -⟩ := hR.accs b hb f hr
  obtain ⟨l0, -, hrun0⟩ := esc_line (Run.start hS) hp
  obtain ⟨q0, -, -, -⟩ := line_cells hrun0
  obtain ⟨hrun1, hz1⟩ := esc_acc (Run.start hS) hr hb 0 (by omega) (.int .i64 ((g.at_ f).u - k)) { g.at_ f with u := (g.at_ f).u - k } rfl
  have hp1 : (g.setA f { g.at_ f with u := (g.at_ f).u - k }).pair f t = true := by rw [setA_pair]; exact hp
  obtain ⟨l, hlz, hrun2⟩ := esc_line (hrun1.drew escS_ok) hp1
  rw [setA_pr] at hlz hrun2
  obtain ⟨d0, d1, -, -⟩ := line_cells hrun2
  simp only [Int.toNat_natCast, Nat.add_zero] at cu hrun2 hz1 d0 d1 hfl
  have R2 := hide hrun2
  have HL := hide hlz
  have HP := hide hPr
  have e1 : decide ((g.at_ f).u < k) = false := by simp; omega
  have e2 : decide (k < 1) = false := by simp; omega
  have t1 : IntKind.i64.wrap ((g.at_ f).u - k) = (g.at_ f).u - k := IntWalk.i64_in _ (by omega)
  have t2 : IntKind.i64.wrap (((g.pr (f, t)).H.length : Int) + 1) = ((g.pr (f, t)).H.length : Int) + 1 := IntWalk.i64_in _ (by omega)
  have e3 : decide ((100 : Int) ≤ ((g.pr (f, t)).H.drop (g.pr (f, t)).conf).length) = false := by simp; omega
  have e4 : ¬ ((100 : Int) ≤ ((g.pr (f, t)).H.drop (g.pr (f, t)).conf).length) := by simp; omega
  generalize (g.at_ f).u = u at *
  generalize hN : ((g.pr (f, t)).H.drop (g.pr (f, t)).conf).length = n at *
  generalize hM : (g.pr (f, t)).H.length = m at *
  have HN := hide hN
  have HM := hide hM
  clear hB hPr hS hR hrun0 hrun1 hrun2 hlz hI hq hN hM
  go_enter Try.func32, Try.ntmps32
  go_wp2_with fail
  refine KL.out.mono ?_
  rintro e w' ⟨rfl, rfl⟩
  go_wp2_with fail
  clear q0 hc0 cu hz1
  generalize w.setCell ⟨b, f * 3, none⟩ (.int .i64 (u - k)) = W at *
  refine wp_region_lew [7, 8, 16, 19] [2, 3, 1, 1, 1, 1, 0, 1, 2, 2, 2, 2, 2, 3, 2, 2, 3, 3, 3, 4]
    (fun w' => w'.cell? ⟨s.gp (f, t), 0, none⟩ = some (.slice l.A n l.c) ∧ w'.cell? ⟨s.gp (f, t), 1, none⟩ = some (.int .i64 m)) (fun w' => w'.cell? ⟨s.gp (f, t), 0, none⟩ = some (.slice l.A n l.c) ∧ w'.cell? ⟨s.gp (f, t), 1, none⟩ = some (.int .i64 m))
    (fun w' => w'.cell? ⟨s.gp (f, t), 1, none⟩ = some (.int .i64 m)) (fun _ => True) (fun _ h => h) (fun _ h => h.2) (fun _ _ => trivial) (by kernel_rfl) (by kernel_rfl) (by kernel_rfl) (by kernel_rfl) (by exact ⟨d0, d1⟩) ?_
  (repeat (first | (refine lew_skip (by rfl) (by rfl) ?_; try simp only [Act.put, List.setIfInBounds_toArray, List.set_cons_zero, List.set_cons_succ]) | (refine lew_read0 (v := ?_) (by rfl) (by rfl) ?_ ?_; rotate_left; (focus (intro w' hS'; go_simp; (try with_reducible rfl); done)); try simp only [Act.put, List.setIfInBounds_toArray, List.set_cons_zero, List.set_cons_succ]) | (refine lew_read1 (v := ?_) (by rfl) (by rfl) ?_ ?_; rotate_left; (focus (intro w' hS'; go_simp; (try with_reducible rfl); done)); try simp only [Act.put, List.setIfInBounds_toArray, List.set_cons_zero, List.set_cons_succ]) | (refine lew_read2 (v := ?_) (by rfl) (by rfl) ?_ ?_; rotate_left; (focus (intro w' hS'; go_simp; (try with_reducible rfl); done)); try simp only [Act.put, List.setIfInBounds_toArray, List.set_cons_zero, List.set_cons_succ]) | (refine lew_read3 (v := ?_) (by rfl) (by rfl) ?_ ?_; rotate_left; (focus (intro w' hS'; go_simp; (try with_reducible rfl); done)); try simp only [Act.put, List.setIfInBounds_toArray, List.set_cons_zero, List.set_cons_succ]) | (refine lew_read4 (v := ?_) (by rfl) (by rfl) ?_ ?_; rotate_left; (focus (intro w' hS'; go_simp; (try with_reducible rfl); done)); try simp only [Act.put, List.setIfInBounds_toArray, List.set_cons_zero, List.set_cons_succ])))
  refine lew_chain1 rfl (by rfl) (fun K hK => ?_)
  go_wp2_with fail
  have R3 := hide (show Run F w _ (W.alloc (.cells #[.int .i64 k] 3)).drew from R2.out.below (lineQ_ok escQ_ok) ((Below.refl _ _).alloc (Nat.le_refl _) (.cells #[.int .i64 k] 3)))
  obtain ⟨d2, d3, -, -⟩ := line_cells R3.out
  rw [HN.out] at d2
  rw [HM.out] at d3
  refine hK.out _ _ ⟨d2, d3⟩ ?_
  clear hK
  have HSR := hide (show Src (W.alloc (.cells #[.int .i64 k] 3)).drew (some ⟨W.heap.size, 0, none⟩) 1 1 [.int .i64 k] from src_one W.drew k 3)
  generalize (W.alloc (.cells #[.int .i64 k] 3)).drew = W1 at *
  (repeat (first | (refine lew_skip (by rfl) (by rfl) ?_; try simp only [Act.put, List.setIfInBounds_toArray, List.set_cons_zero, List.set_cons_succ]) | (refine lew_read0 (v := ?_) (by rfl) (by rfl) ?_ ?_; rotate_left; (focus (intro w' hS'; go_simp; (try with_reducible rfl); done)); try simp only [Act.put, List.setIfInBounds_toArray, List.set_cons_zero, List.set_cons_succ]) | (refine lew_read1 (v := ?_) (by rfl) (by rfl) ?_ ?_; rotate_left; (focus (intro w' hS'; go_simp; (try with_reducible rfl); done)); try simp only [Act.put, List.setIfInBounds_toArray, List.set_cons_zero, List.set_cons_succ]) | (refine lew_read2 (v := ?_) (by rfl) (by rfl) ?_ ?_; rotate_left; (focus (intro w' hS'; go_simp; (try with_reducible rfl); done)); try simp only [Act.put, List.setIfInBounds_toArray, List.set_cons_zero, List.set_cons_succ]) | (refine lew_read3 (v := ?_) (by rfl) (by rfl) ?_ ?_; rotate_left; (focus (intro w' hS'; go_simp; (try with_reducible rfl); done)); try simp only [Act.put, List.setIfInBounds_toArray, List.set_cons_zero, List.set_cons_succ]) | (refine lew_read4 (v := ?_) (by rfl) (by rfl) ?_ ?_; rotate_left; (focus (intro w' hS'; go_simp; (try with_reducible rfl); done)); try simp only [Act.put, List.setIfInBounds_toArray, List.set_cons_zero, List.set_cons_succ])))
  refine lew_chain2 rfl (by rfl) (fun K hK => ?_)
  obtain ⟨F3, hR3, -, hbk3⟩ := R3.out.rot.take row_ok (star_ok cell_ok (star_ok (arow_ok zow_ok) escQ_ok))
  rw [HN.out] at hR3
  refine wp_app (.tmp 56) (.tmp 58) rfl intsOk _ 0 (v := .slice l.A n l.c) (n := n) rfl hR3.1 (A := some ⟨W.heap.size, 0, none⟩) (m := 1) (c := 1) (news := [.int .i64 k]) rfl HSR.out (by omega) (by omega) (Nat.zero_le _) ?_
  intro v4 w4 ho4 hg4 hv4
  have S4 := hbk3 _ _ (row_app hR3 ho4 hg4 hv4)
  obtain ⟨A4, c4, rfl⟩ := own_form ho4
  obtain ⟨FC4, hC4⟩ := S4.rot.fst
  have d4 : w4.cell? ⟨s.gp (f, t), 1, none⟩ = some (.int .i64 m) := by rw [← HM.out]; exact cell_at hC4 rfl
  have d5 : w4.cell? ⟨s.gp (f, t), 0, none⟩ = some (.slice l.A n l.c) := by rw [← HN.out]; exact cell_at hC4 rfl
  have G := give_run (W := w4) (A := A4) (c := c4) (g := g.setA f { g.at_ f with u := u - k }) (U := U) hp1 HP.out HL.out (by have S5 := S4; rw [← HN.out] at S5; exact S5)
  simp only [setA_pr, HN.out, HM.out] at G
  obtain ⟨⟨z1, z2⟩, hfin⟩ := G
  have HFIN := hide hfin
  refine hK.out _ _ d4 ?_
  clear hK hR3 hbk3 hg4 ho4 hv4 S4 hC4 hfin
  (repeat (first | (refine lew_skip (by rfl) (by rfl) ?_; try simp only [Act.put, List.setIfInBounds_toArray, List.set_cons_zero, List.set_cons_succ]) | (refine lew_read0 (v := ?_) (by rfl) (by rfl) ?_ ?_; rotate_left; (focus (intro w' hS'; go_simp; (try with_reducible rfl); done)); try simp only [Act.put, List.setIfInBounds_toArray, List.set_cons_zero, List.set_cons_succ]) | (refine lew_read1 (v := ?_) (by rfl) (by rfl) ?_ ?_; rotate_left; (focus (intro w' hS'; go_simp; (try with_reducible rfl); done)); try simp only [Act.put, List.setIfInBounds_toArray, List.set_cons_zero, List.set_cons_succ]) | (refine lew_read2 (v := ?_) (by rfl) (by rfl) ?_ ?_; rotate_left; (focus (intro w' hS'; go_simp; (try with_reducible rfl); done)); try simp only [Act.put, List.setIfInBounds_toArray, List.set_cons_zero, List.set_cons_succ]) | (refine lew_read3 (v := ?_) (by rfl) (by rfl) ?_ ?_; rotate_left; (focus (intro w' hS'; go_simp; (try with_reducible rfl); done)); try simp only [Act.put, List.setIfInBounds_toArray, List.set_cons_zero, List.set_cons_succ]) | (refine lew_read4 (v := ?_) (by rfl) (by rfl) ?_ ?_; rotate_left; (focus (intro w' hS'; go_simp; (try with_reducible rfl); done)); try simp only [Act.put, List.setIfInBounds_toArray, List.set_cons_zero, List.set_cons_succ])))
  refine lew_chain3 rfl (by rfl) (fun K hK => ?_)
  go_wp2_with fail
  refine hK.out _ _ trivial ?_
  clear hK
  (repeat (first | (refine lew_skip (by rfl) (by rfl) ?_; try simp only [Act.put, List.setIfInBounds_toArray, List.set_cons_zero, List.set_cons_succ]) | (refine lew_read0 (v := ?_) (by rfl) (by rfl) ?_ ?_; rotate_left; (focus (intro w' hS'; go_simp; (try with_reducible rfl); done)); try simp only [Act.put, List.setIfInBounds_toArray, List.set_cons_zero, List.set_cons_succ]) | (refine lew_read1 (v := ?_) (by rfl) (by rfl) ?_ ?_; rotate_left; (focus (intro w' hS'; go_simp; (try with_reducible rfl); done)); try simp only [Act.put, List.setIfInBounds_toArray, List.set_cons_zero, List.set_cons_succ]) | (refine lew_read2 (v := ?_) (by rfl) (by rfl) ?_ ?_; rotate_left; (focus (intro w' hS'; go_simp; (try with_reducible rfl); done)); try simp only [Act.put, List.setIfInBounds_toArray, List.set_cons_zero, List.set_cons_succ]) | (refine lew_read3 (v := ?_) (by rfl) (by rfl) ?_ ?_; rotate_left; (focus (intro w' hS'; go_simp; (try with_reducible rfl); done)); try simp only [Act.put, List.setIfInBounds_toArray, List.set_cons_zero, List.set_cons_succ]) | (refine lew_read4 (v := ?_) (by rfl) (by rfl) ?_ ?_; rotate_left; (focus (intro w' hS'; go_simp; (try with_reducible rfl); done)); try simp only [Act.put, List.setIfInBounds_toArray, List.set_cons_zero, List.set_cons_succ])))
  refine lew_chain4 rfl (by rfl) (fun K hK => ?_)
  go_wp2_with fail
  refine hK.out _ _ trivial (lew_nil ?_)
  go_wp2
  go_ret
  obtain ⟨F', q1, q2, q3⟩ := HFIN.out.post escS_ok
  exact ⟨rfl, F', ⟨_, q1⟩, q2, q3⟩
end Go.Proofs.Ytapabbpdfplpoaa
