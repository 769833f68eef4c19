/-
  As Lex: a region that draws its order and holds several stores: what may be leaned on grows weaker from store to store (stages St 0, St 1, ..). An operation leans on the stage in which it may run at the latest.
  As Lex: a region that draws its order, whose last operation waits for all the others and may change what they read.
  Within a round of a range over a function: what has been walked as everywhere holds there too (no operation is a 'defer').
  Arguments that are slices, opened to the cells that the walk reads: one law for every kind of element, and the laws for an element that is a string, a bool, an integer or a struct of one-cell fields.
  Maps whose keys are strings; rows of strings.
  Script: a byte of a text is one of some: the program's 'is', the reference's 'among'.
-/
import Derived.Test.YtnppgomhhcbplaaGreatDoorPO5
import Derived.OrdersIn
import Derived.TacticsIn
import Derived.Test.YtnppgomhhcbplaaGreatDoorPO4
import Derived.ProofKit
import Derived.DataShut
import Derived.Carry
import Derived.Deep.Slices
import Derived.Deep.Fields
import Derived.ChangeSame
import Derived.Test.YtnppgomhhcbplaaGreatDoorPO2
import Derived.Test.YtnppgomhhcbplaaGreatDoorPO3
import Derived.Lib.IndexAny
import Derived.Deep.QuietTactic
import Derived.BigQuiet
import Derived.Deep.DeepCutAuto
import Derived.IntWalk
import Derived.WalkKit
set_option linter.unusedSimpArgs false
set_option linter.unusedVariables false
namespace Go.CH
open Go.RowKit
section
variable {P : Program} {ops : Array Oper} {Ts : List Nat} {St : Nat → World → Prop} {Q : Exit → Act → World → Prop}

/-- The stage in which a reading operation may run at the latest. -/
def lvl (ops : Array Oper) (Ts : List Nat) (i : Nat) : Nat := (Ts.filter fun T => decide (T < i) || !((Region.before ops).getD T 0).testBit i).length
/-- The stage behind a changing operation. -/
def chl (Ts : List Nat) (i : Nat) : Nat := (Ts.filter fun T => decide (T ≤ i)).length
/-- The walk in the order of a list of indexes. -/
def wpLw (P : Program) (ops : Array Oper) (Ts : List Nat) (St : Nat → World → Prop) (Q : Exit → Act → World → Prop) : List Nat → Act → World → Prop
  | [], a, w => Q .normal a w
  | i :: r, a, w => match ops[i]? with
    | none => wpLw P ops Ts St Q r a w
    | some o => (chainK o.op = false ∧ ∃ v, YieldsIf P ops (St (lvl ops Ts i)) o v a ∧ wpLw P ops Ts St Q r (a.put o.dst v) w) ∨
      (chainK o.op = true ∧ Region.wanted o (yielded ops a.tmps) = true ∧ o.wp P a w (fun a' w' => St (chl Ts i) w' ∧ wpLw P ops Ts St Q r a' w') NoExit)
def isChain (ops : Array Oper) (i : Nat) : Bool := match ops[i]? with | some o => chainK o.op | none => false
/-- The stages fit the order. -/
def lvOk (ops : Array Oper) (Ts : List Nat) : Bool :=
  (List.range ops.size).all fun j => (List.range j).all fun i =>
    (!isChain ops i || (if isChain ops j then decide (chl Ts i ≤ chl Ts j) else decide (chl Ts i ≤ lvl ops Ts j))) &&
    (isChain ops i || !isChain ops j || ((Region.before ops).getD j 0).testBit i || decide (chl Ts j ≤ lvl ops Ts i))
theorem st_mono {St : Nat → World → Prop} (hst : ∀ c w, St c w → St (c + 1) w) {a b : Nat} (h : a ≤ b) {w : World} (hw : St a w) : St b w := by
  induction h with
  | refl => exact hw
  | step _ ih => exact hst _ _ ih
theorem wpLw_swap (hns : Region.noSelect ops = true) {i j : Nat} {r : List Nat} {a : Act} {w : World} (hok : swapOk ops i j = true) (hS : isChain ops j = false → St (lvl ops Ts j) w)
    (hw : ∀ w, isChain ops i = true → isChain ops j = false → St (chl Ts i) w → St (lvl ops Ts j) w) (h : wpLw P ops Ts St Q (i :: j :: r) a w) : wpLw P ops Ts St Q (j :: i :: r) a w := by
  unfold swapOk at hok
  cases hi : ops[i]? with
  | none => simp [hi] at hok
  | some oi =>
  cases hj : ops[j]? with
  | none => simp [hj] at hok
  | some oj =>
  have ei : isChain ops i = chainK oi.op := by simp [isChain, hi]
  have ej : isChain ops j = chainK oj.op := by simp [isChain, hj]
  simp only [hi, hj, Bool.and_eq_true, Bool.not_eq_true', Bool.and_eq_false_iff] at hok
  obtain ⟨hch, hap⟩ := hok
  have hsi := fun cs b => Region.noSelect_spec hns i oi cs b hi
  have hsj := fun cs b => Region.noSelect_spec hns j oj cs b hj
  obtain ⟨h1, h2, h3⟩ := Oper.apart_spec hap
  simp only [wpLw, hi, hj] at h ⊢
  rcases h with ⟨hci, v, hy, ⟨hcj, u, hy2, hr⟩ | ⟨hcj, hwt, hr⟩⟩ | ⟨hci, hwt, hr⟩
  · exact .inl ⟨hcj, u, yi_back hsj h1 hy2, .inl ⟨hci, v, yi_forth hsi h3 hy, by rw [← Act.put_comm a v u h2]; exact hr⟩⟩
  · refine .inr ⟨hcj, by rw [← hwt]; exact (wanted_put oj a oi.dst v h1).symm, ?_⟩
    refine Oper.wp_mono (fun a' w' hk => ?_) (wp_swap_rc (S := St (lvl ops Ts i)) hsi hsj hap hy hr)
    exact ⟨hk.2.1, .inl ⟨hci, v, hk.1, hk.2.2⟩⟩
  · have hcj : chainK oj.op = false := by
      rcases hch with e | e
      · rw [hci] at e; cases e
      · exact e
    have hSj := hS (by rw [ej]; exact hcj)
    have hr' : oi.wp P a w (fun a' w' => St (lvl ops Ts j) w' ∧ ∃ u, YieldsIf P ops (St (lvl ops Ts j)) oj u a' ∧ (St (chl Ts i) w' ∧ wpLw P ops Ts St Q r (a'.put oj.dst u) w')) NoExit := by
      refine Oper.wp_mono (fun a' w' hk => ⟨hw w' (by rw [ei]; exact hci) (by rw [ej]; exact hcj) hk.1, ?_⟩) hr
      rcases hk.2 with ⟨_, u, hu1, hu2⟩ | ⟨e, _⟩
      · exact ⟨u, hu1, hk.1, hu2⟩
      · rw [hcj] at e; cases e
    obtain ⟨u, hy, hk⟩ := wp_swap_cr (K := fun a' w' => St (chl Ts i) w' ∧ wpLw P ops Ts St Q r a' w') hsi hsj hap hSj hr'
    refine .inl ⟨hcj, u, hy, .inr ⟨hci, ?_, Oper.wp_mono (fun a' w' hk => hk.2) hk⟩⟩
    rw [wanted_put oi a oj.dst u h3]; exact hwt
theorem wpLw_front (hns : Region.noSelect ops = true) {j : Nat} {r : List Nat} : ∀ (l : List Nat) {a : Act} {w : World}, (∀ i ∈ l, swapOk ops i j = true) → (isChain ops j = false → St (lvl ops Ts j) w) →
    (∀ i ∈ l, ∀ w, isChain ops i = true → isChain ops j = false → St (chl Ts i) w → St (lvl ops Ts j) w) → wpLw P ops Ts St Q (l ++ j :: r) a w → wpLw P ops Ts St Q (j :: (l ++ r)) a w
  | [], _, _, _, _, _, h => h
  | i :: l, a, w, hok, hS, hst, h => by
    refine wpLw_swap hns (hok i (by simp)) hS (hst i (by simp)) ?_
    have ih := fun {a : Act} {w : World} (hS : isChain ops j = false → St (lvl ops Ts j) w) => wpLw_front hns (r := r) l (a := a) (w := w) (fun i hi => hok i (by simp [hi])) hS (fun i hi => hst i (by simp [hi]))
    rw [List.cons_append] at h
    unfold wpLw at h ⊢
    cases ho : ops[i]? with
    | none => simp only [ho] at h ⊢; exact ih hS h
    | some o =>
      have ei : isChain ops i = chainK o.op := by simp [isChain, ho]
      simp only [ho] at h ⊢
      rcases h with ⟨h0, v, h1, h2⟩ | ⟨h1, h2, h3⟩
      · exact .inl ⟨h0, v, h1, ih hS h2⟩
      · exact .inr ⟨h1, h2, Oper.wp_mono (fun a w h => ⟨h.1, ih (fun hj => hst i (by simp) _ (by rw [ei]; exact h1) hj h.1) h.2⟩) h3⟩
/-- How far the stages have come. -/
def Come (ops : Array Oper) (Ts : List Nat) (St : Nat → World → Prop) (listed : Array Bool) (w : World) : Prop :=
  ∃ c, St c w ∧ ∀ i, i < ops.size → listed.getD i true = false → if isChain ops i then c ≤ chl Ts i else c ≤ lvl ops Ts i
theorem wpAny_of_lw (hst : ∀ c w, St c w → St (c + 1) w) (hB : lexOk ops = true) (hL : lvOk ops Ts = true) : ∀ (n : Nat) (listed : Array Bool) (a : Act) (w : World), (unl ops listed).length = n → listed.size = ops.size → Closed ops listed → Come ops Ts St listed w → wpLw P ops Ts St Q (unl ops listed) a w → wpAny P .any ops Q n listed a w := by
  have hB' := hB
  simp only [lexOk, Bool.and_eq_true, List.all_eq_true, List.mem_range] at hB'
  obtain ⟨⟨hns, hmask⟩, hall⟩ := hB'
  intro n
  induction n with
  | zero =>
    intro listed a w hn hs hc hS h
    have hnil : unl ops listed = [] := List.eq_nil_of_length_eq_zero hn
    rw [hnil] at h
    refine ⟨?_, h⟩
    cases hr : Region.ready .any ops listed with
    | nil => rfl
    | cons j r =>
      have hj : j ∈ Region.ready .any ops listed := by rw [hr]; simp
      obtain ⟨h0, o, ho, _⟩ := mem_ready.1 hj
      have : j ∈ unl ops listed := by
        unfold unl; rw [List.mem_filter, List.mem_range]
        exact ⟨(Array.getElem?_eq_some_iff.1 ho).1, by simp [h0]⟩
      rw [hnil] at this; cases this
  | succ n ih =>
    intro listed a w hn hs hc hS h
    refine ⟨fun hr => ?_, fun j hj => ?_⟩
    · -- the first that is not listed is ready
      cases hu : unl ops listed with
      | nil => rw [hu] at hn; simp at hn
      | cons k r =>
        exfalso
        have hk : k ∈ unl ops listed := by rw [hu]; simp
        unfold unl at hk
        rw [List.mem_filter, List.mem_range] at hk
        obtain ⟨hk1, hk2⟩ := hk
        have hk2 : listed.getD k true = false := by simpa using hk2
        have ho : ops[k]? = some ops[k] := Array.getElem?_eq_getElem hk1
        have hd := (hall k hk1).1
        simp only [ho] at hd
        have : k ∈ Region.ready .any ops listed := by
          rw [mem_ready]
          refine ⟨hk2, _, ho, fun e he hb => ?_⟩
          have h1 := Array.all_eq_true_iff_forall_mem.1 hd e he
          simp only [hb, Bool.not_true, Bool.false_or, decide_eq_true_eq] at h1
          cases hl : listed.getD e.on false with
          | true => rfl
          | false =>
            exfalso
            obtain ⟨l1, l2, hs1, _, hs3⟩ := unl_split (ops := ops) (j := e.on) hs (by omega) (by rw [getD_lt (by omega) true false]; exact hl)
            rw [hu] at hs1
            cases l1 with
            | nil => simp at hs1; omega
            | cons x l1 =>
              simp at hs1
              have := (hs3 x (by simp)).1
              omega
        rw [hr] at this; cases this
    · obtain ⟨h0, o, ho, hall'⟩ := mem_ready.1 hj
      have hjs : j < ops.size := (Array.getElem?_eq_some_iff.1 ho).1
      obtain ⟨l1, l2, hs1, hs2, hs3⟩ := unl_split (ops := ops) hs hjs h0
      obtain ⟨c, hc1, hc2⟩ := hS
      have ej : isChain ops j = chainK o.op := by simp [isChain, ho]
      have hl1 : ∀ i k, i < k → k < ops.size → isChain ops i = true → isChain ops k = false → chl Ts i ≤ lvl ops Ts k := fun i k hik hk e1 e2 => by
        have := hL
        simp only [lvOk, List.all_eq_true, List.mem_range] at this
        have := this k hk i hik
        simp [e1, e2] at this; exact this
      have hl2 : ∀ i k, i < k → k < ops.size → isChain ops i = true → isChain ops k = true → chl Ts i ≤ chl Ts k := fun i k hik hk e1 e2 => by
        have := hL
        simp only [lvOk, List.all_eq_true, List.mem_range] at this
        have := this k hk i hik
        simp [e1, e2] at this; exact this
      have hl3 : ∀ i k, i < k → k < ops.size → isChain ops i = false → isChain ops k = true → ((Region.before ops).getD k 0).testBit i = false → chl Ts k ≤ lvl ops Ts i := fun i k hik hk e1 e2 e3 => by
        have := hL
        simp only [lvOk, List.all_eq_true, List.mem_range] at this
        have := this k hk i hik
        have e4 := e3
        simp at e4
        simp [e1, e2, e4] at this; exact this
      have hSj : isChain ops j = false → St (lvl ops Ts j) w := fun e => by
        have := hc2 j hjs h0
        rw [e] at this
        exact st_mono hst (by simpa using this) hc1
      have hfront : wpLw P ops Ts St Q (j :: (l1 ++ l2)) a w := by
        refine wpLw_front hns l1 (fun i hi => ?_) hSj (fun i hi w hci hcj hw => ?_) (hs1 ▸ h)
        · obtain ⟨hij, hiu⟩ := hs3 i hi
          have := (hall j hjs).2 i hij
          rw [Bool.or_eq_true] at this
          rcases this with hb | hb
          · have hl := mask_listed hmask hc (j + 1) j o (by omega) ho hall' i hij hb
            rw [getD_lt (by omega) false true, hiu] at hl; cases hl
          · exact hb
        · obtain ⟨hij, _⟩ := hs3 i hi
          exact st_mono hst (hl1 i j hij hjs hci hcj) hw
      have hlen : (unl ops (listed.setIfInBounds j true)).length = n := by
        rw [hs2]; rw [hs1] at hn; simp at hn ⊢; omega
      have hs' : (listed.setIfInBounds j true).size = ops.size := by simpa using hs
      have hc' : Closed ops (listed.setIfInBounds j true) := by
        intro m om hm hl e he hb
        by_cases hmj : m = j
        · subst hmj
          rw [ho] at hm; cases hm
          exact getD_set_true (hall' e he hb)
        · rw [getD_set_ne false (Ne.symm hmj)] at hl
          exact getD_set_true (hc m om hm hl e he hb)
      have hsub : ∀ i, (listed.setIfInBounds j true).getD i true = false → i ≠ j ∧ listed.getD i true = false := fun i hi => by
        by_cases e : j = i
        · subst e; simp at hi
        · rw [getD_set_ne true e] at hi; exact ⟨fun e' => e e'.symm, hi⟩
      have hnext : chainK o.op = true → ∀ w', St (chl Ts j) w' → Come ops Ts St (listed.setIfInBounds j true) w' := fun hck w' hw' => by
        refine ⟨_, hw', fun i hi hiu => ?_⟩
        obtain ⟨hne, hiu⟩ := hsub i hiu
        have hun : i < j → ((Region.before ops).getD j 0).testBit i = false := fun hij => by
          cases hb : ((Region.before ops).getD j 0).testBit i with
          | false => rfl
          | true =>
            have hl := mask_listed hmask hc (j + 1) j o (by omega) ho hall' i hij hb
            rw [getD_lt (by omega) false true, hiu] at hl; cases hl
        have hcj : isChain ops j = true := by rw [ej]; exact hck
        rcases Nat.lt_or_ge i j with hij | hij
        · cases hci : isChain ops i with
          | true =>
            have := (hall j hjs).2 i hij
            rw [hun hij, Bool.false_or] at this
            exfalso
            unfold swapOk at this
            have ho' : ops[i]? = some ops[i] := Array.getElem?_eq_getElem hi
            simp only [isChain, ho'] at hci
            simp [ho', ho, hci, hck] at this
          | false => simpa using hl3 i j hij hjs hci hcj (hun hij)
        · cases hci : isChain ops i with
          | true => simpa using hl2 j i (by omega) hi hcj hci
          | false => simpa using hl1 j i (by omega) hi hcj hci
      have hstay : Come ops Ts St (listed.setIfInBounds j true) w := ⟨c, hc1, fun i hi hiu => hc2 i hi (hsub i hiu).2⟩
      rw [← hs2] at hfront
      unfold wpLw at hfront
      simp only [ho] at hfront
      rcases hfront with ⟨hcf, v, hy, hk⟩ | ⟨hck, hw, hk⟩
      · exact hy.wpOp ho (hSj (by rw [ej]; exact hcf)) (ih _ _ _ hlen hs' hc' hstay hk)
      · unfold wpOp
        simp only [ho, hw, if_true]
        refine .inl ?_
        have h2 := Oper.wp_mono (K' := wpAny P .any ops Q n (listed.setIfInBounds j true)) (fun a' w' hk => ih _ a' w' hlen hs' hc' (hnext hck w' hk.1) hk.2) hk
        -- the empty exit serves every exit
        unfold Oper.wp at h2 ⊢
        generalize (execOp a.eval o).run P w = r at *
        cases r with
        | ok nx w' =>
          cases nx <;> simp only [Oper.upon] at h2 ⊢ <;> first
            | exact h2
            | exact Calls.mono h2 (fun e w'' he => by
                cases e with
                | returned v => exact he
                | panicked c => exact he.elim
                | outgrown => obtain ⟨_, _, he⟩ := he; exact he.elim)
        | halt x w' => cases x <;> simp only [Oper.upon] at h2 ⊢ <;> first | exact h2 | exact h2.elim


/-! ### The walk: four stages -/
def stg4 (S0 S1 S2 S3 : World → Prop) : Nat → World → Prop
  | 0 => S0
  | 1 => S1
  | 2 => S2
  | _ => S3
variable {S0 S1 S2 S3 : World → Prop}
theorem stg4_mono (h0 : ∀ w, S0 w → S1 w) (h1 : ∀ w, S1 w → S2 w) (h2 : ∀ w, S2 w → S3 w) : ∀ c w, stg4 S0 S1 S2 S3 c w → stg4 S0 S1 S2 S3 (c + 1) w
  | 0, w, h => h0 w h
  | 1, w, h => h1 w h
  | 2, w, h => h2 w h
  | _ + 3, w, h => h
/-- An operation's stage. -/
def lev (ops : Array Oper) (Ts : List Nat) (i : Nat) : Nat := if isChain ops i then chl Ts i else lvl ops Ts i
/-- All operations' stages. -/
def levs (ops : Array Oper) (Ts : List Nat) : List Nat := (List.range ops.size).map (lev ops Ts)
/-- The walk in the order of the text; ahead: the stages of the operations that lie ahead. -/
def wpLew (P : Program) (ops : Array Oper) (S0 S1 S2 S3 : World → Prop) (Q : Exit → Act → World → Prop) : List Nat → List Oper → Act → World → Prop
  | _, [], a, w => Q .normal a w
  | [], _ :: _, _, _ => False
  | n :: lv, o :: r, a, w => (chainK o.op = false ∧ ∃ v, YieldsIf P ops (stg4 S0 S1 S2 S3 n) o v a ∧ wpLew P ops S0 S1 S2 S3 Q lv r (a.put o.dst v) w) ∨
      (chainK o.op = true ∧ Region.wanted o (yielded ops a.tmps) = true ∧ o.wp P a w (fun a' w' => stg4 S0 S1 S2 S3 n w' ∧ wpLew P ops S0 S1 S2 S3 Q lv r a' w') NoExit)
theorem lw_of_lew : ∀ (l : List Oper) (lv : List Nat) (k : Nat) (a : Act) (w : World), (∀ j, l[j]? = ops[k + j]?) → (∀ j, j < l.length → lv[j]? = some (lev ops Ts (k + j))) → wpLew P ops S0 S1 S2 S3 Q lv l a w → wpLw P ops Ts (stg4 S0 S1 S2 S3) Q (List.range' k l.length) a w
  | [], lv, _, _, _, _, _, h => by cases lv <;> exact h
  | o :: l, [], k, a, w, hl, hv, h => h.elim
  | o :: l, n :: lv, k, a, w, hl, hv, h => by
    have h0 : ops[k]? = some o := by simpa using (hl 0).symm
    have hn : n = lev ops Ts k := by have := hv 0 (by simp); simpa using this
    have ei : isChain ops k = chainK o.op := by simp [isChain, h0]
    have ih := fun a w => lw_of_lew l lv (k + 1) a w (fun j => by have := hl (j + 1); simpa [Nat.add_assoc, Nat.add_comm 1 j] using this)
      (fun j hj => by have := hv (j + 1) (by simpa using hj); simpa [Nat.add_assoc, Nat.add_comm 1 j] using this)
    simp only [List.length_cons, List.range'_succ]
    unfold wpLw
    simp only [h0]
    unfold lev at hn
    rcases h with ⟨h0, v, h1, h2⟩ | ⟨h1, h2, h3⟩
    · rw [ei, h0] at hn
      have hn : n = lvl ops Ts k := by simpa using hn
      subst hn
      exact .inl ⟨h0, v, h1, ih _ _ h2⟩
    · rw [ei, h1] at hn
      have hn : n = chl Ts k := by simpa using hn
      subst hn
      exact .inr ⟨h1, h2, Oper.wp_mono (fun a' w' hk => ⟨hk.1, ih _ _ hk.2⟩) h3⟩
theorem wp_region_lew {id : Nat} {l : List Oper} {a : Act} {w : World} (Ts lv : List Nat) (S0 S1 S2 S3 : World → Prop) (h0 : ∀ w, S0 w → S1 w) (h1 : ∀ w, S1 w → S2 w) (h2 : ∀ w, S2 w → S3 w) (hm : P.follows .mixedOrders = true) (hB : lexOk l.toArray = true) (hL : lvOk l.toArray Ts = true) (hlv : levs l.toArray Ts = lv) (hS : S0 w.drew)
    (h : wpLew P l.toArray S0 S1 S2 S3 Q lv l a w.drew) : (Code.region id l.toArray true).wp P Q a w := by
  refine wp_region_any hm ?_
  have hu : unl l.toArray (Array.replicate l.toArray.size false) = List.range l.toArray.size := by
    unfold unl
    refine List.filter_eq_self.2 fun i hi => ?_
    have := List.mem_range.1 hi
    simp at this
    simp [this]
  refine wpAny_of_lw (Ts := Ts) (St := stg4 S0 S1 S2 S3) (stg4_mono h0 h1 h2) hB hL _ _ _ _ (by rw [hu]; simp) (by simp) ?_ ⟨0, hS, fun i _ _ => by split <;> omega⟩ ?_
  · intro j o ho hl
    have : j < l.length := by have := (Array.getElem?_eq_some_iff.1 ho).1; simpa using this
    simp [this] at hl
  · rw [hu]
    have := lw_of_lew (P := P) (ops := l.toArray) (Ts := Ts) (S0 := S0) (S1 := S1) (S2 := S2) (S3 := S3) (Q := Q) l lv 0 a w.drew (by simp) (fun j hj => by
      rw [← hlv]; unfold levs; rw [List.getElem?_map, List.getElem?_range (by simpa using hj)]; simp) h
    simpa [List.range_eq_range'] using this
section
variable {o : Oper} {r : List Oper} {n : Nat} {lv : List Nat} {a : Act} {w : World}
theorem lew_nil (h : Q .normal a w) : wpLew P ops S0 S1 S2 S3 Q lv [] a w := by cases lv <;> exact h
theorem lew_skip (hc : chainK o.op = false) (hw : Region.wanted o (yielded ops a.tmps) = false) (h : wpLew P ops S0 S1 S2 S3 Q lv r (a.put o.dst undef) w) : wpLew P ops S0 S1 S2 S3 Q (n :: lv) (o :: r) a w := .inl ⟨hc, undef, .inr ⟨hw, rfl⟩, h⟩
theorem lew_read0 {v : Value} (hc : chainK o.op = false) (hw : Region.wanted o (yielded ops a.tmps) = true) (hv : ∀ w', S0 w' → (execOp a.eval o).run P w' = .ok (.value v) w') (h : wpLew P ops S0 S1 S2 S3 Q lv r (a.put o.dst v) w) : wpLew P ops S0 S1 S2 S3 Q (0 :: lv) (o :: r) a w :=
  .inl ⟨hc, v, .inl ⟨hw, hv⟩, h⟩
theorem lew_read1 {v : Value} (hc : chainK o.op = false) (hw : Region.wanted o (yielded ops a.tmps) = true) (hv : ∀ w', S1 w' → (execOp a.eval o).run P w' = .ok (.value v) w') (h : wpLew P ops S0 S1 S2 S3 Q lv r (a.put o.dst v) w) : wpLew P ops S0 S1 S2 S3 Q (1 :: lv) (o :: r) a w :=
  .inl ⟨hc, v, .inl ⟨hw, hv⟩, h⟩
theorem lew_read2 {v : Value} (hc : chainK o.op = false) (hw : Region.wanted o (yielded ops a.tmps) = true) (hv : ∀ w', S2 w' → (execOp a.eval o).run P w' = .ok (.value v) w') (h : wpLew P ops S0 S1 S2 S3 Q lv r (a.put o.dst v) w) : wpLew P ops S0 S1 S2 S3 Q (2 :: lv) (o :: r) a w :=
  .inl ⟨hc, v, .inl ⟨hw, hv⟩, h⟩
theorem lew_read3 {v : Value} (hc : chainK o.op = false) (hw : Region.wanted o (yielded ops a.tmps) = true) (hv : ∀ w', S3 w' → (execOp a.eval o).run P w' = .ok (.value v) w') (h : wpLew P ops S0 S1 S2 S3 Q lv r (a.put o.dst v) w) : wpLew P ops S0 S1 S2 S3 Q (3 :: lv) (o :: r) a w :=
  .inl ⟨hc, v, .inl ⟨hw, hv⟩, h⟩
theorem lew_chain0 (hc : chainK o.op = true) (hw : Region.wanted o (yielded ops a.tmps) = true) (h : ∀ K : Act → World → Prop, Hid (∀ a' w', S0 w' → wpLew P ops S0 S1 S2 S3 Q lv r a' w' → K a' w') → o.wp P a w K NoExit) : wpLew P ops S0 S1 S2 S3 Q (0 :: lv) (o :: r) a w :=
  .inr ⟨hc, hw, h _ fun _ _ h1 h2 => ⟨h1, h2⟩⟩
theorem lew_chain1 (hc : chainK o.op = true) (hw : Region.wanted o (yielded ops a.tmps) = true) (h : ∀ K : Act → World → Prop, Hid (∀ a' w', S1 w' → wpLew P ops S0 S1 S2 S3 Q lv r a' w' → K a' w') → o.wp P a w K NoExit) : wpLew P ops S0 S1 S2 S3 Q (1 :: lv) (o :: r) a w :=
  .inr ⟨hc, hw, h _ fun _ _ h1 h2 => ⟨h1, h2⟩⟩
theorem lew_chain2 (hc : chainK o.op = true) (hw : Region.wanted o (yielded ops a.tmps) = true) (h : ∀ K : Act → World → Prop, Hid (∀ a' w', S2 w' → wpLew P ops S0 S1 S2 S3 Q lv r a' w' → K a' w') → o.wp P a w K NoExit) : wpLew P ops S0 S1 S2 S3 Q (2 :: lv) (o :: r) a w :=
  .inr ⟨hc, hw, h _ fun _ _ h1 h2 => ⟨h1, h2⟩⟩
theorem lew_chain3 (hc : chainK o.op = true) (hw : Region.wanted o (yielded ops a.tmps) = true) (h : ∀ K : Act → World → Prop, Hid (∀ a' w', S3 w' → wpLew P ops S0 S1 S2 S3 Q lv r a' w' → K a' w') → o.wp P a w K NoExit) : wpLew P ops S0 S1 S2 S3 Q (3 :: lv) (o :: r) a w :=
  .inr ⟨hc, hw, h _ fun _ _ h1 h2 => ⟨h1, h2⟩⟩
theorem lew_read4 {v : Value} (hc : chainK o.op = false) (hw : Region.wanted o (yielded ops a.tmps) = true) (hv : ∀ w', S3 w' → (execOp a.eval o).run P w' = .ok (.value v) w') (h : wpLew P ops S0 S1 S2 S3 Q lv r (a.put o.dst v) w) : wpLew P ops S0 S1 S2 S3 Q (4 :: lv) (o :: r) a w :=
  .inl ⟨hc, v, .inl ⟨hw, hv⟩, h⟩
theorem lew_chain4 (hc : chainK o.op = true) (hw : Region.wanted o (yielded ops a.tmps) = true) (h : ∀ K : Act → World → Prop, Hid (∀ a' w', S3 w' → wpLew P ops S0 S1 S2 S3 Q lv r a' w' → K a' w') → o.wp P a w K NoExit) : wpLew P ops S0 S1 S2 S3 Q (4 :: lv) (o :: r) a w :=
  .inr ⟨hc, hw, h _ fun _ _ h1 h2 => ⟨h1, h2⟩⟩
end
end
end Go.CH
namespace Go.CH
open Go.RowKit
section
variable {P : Program} {ops : Array Oper} {S : World → Prop} {Q : Exit → Act → World → Prop}

/-- The walk in the order of a list of indexes; behind the last operation of all S is not asked. -/
def wpLy (P : Program) (ops : Array Oper) (S : World → Prop) (Q : Exit → Act → World → Prop) : List Nat → Act → World → Prop
  | [], a, w => Q .normal a w
  | i :: r, a, w => match ops[i]? with
    | none => wpLy P ops S Q r a w
    | some o => (∃ v, YieldsIf P ops S o v a ∧ wpLy P ops S Q r (a.put o.dst v) w) ∨
      (chainK o.op = true ∧ Region.wanted o (yielded ops a.tmps) = true ∧ o.wp P a w (fun a' w' => (i + 1 < ops.size → S w') ∧ wpLy P ops S Q r a' w') NoExit)

theorem wpLy_swap (hns : Region.noSelect ops = true) {i j : Nat} {r : List Nat} {a : Act} {w : World} (hil : i + 1 < ops.size) (hok : swapOk ops i j = true) (hS : S w) (h : wpLy P ops S Q (i :: j :: r) a w) : wpLy P ops S Q (j :: i :: r) a w := by
  unfold swapOk at hok
  cases hi : ops[i]? with
  | none => simp [hi] at hok
  | some oi =>
  cases hj : ops[j]? with
  | none => simp [hj] at hok
  | some oj =>
  simp only [hi, hj, Bool.and_eq_true, Bool.not_eq_true', Bool.and_eq_false_iff] at hok
  obtain ⟨hch, hap⟩ := hok
  have hsi := fun cs b => Region.noSelect_spec hns i oi cs b hi
  have hsj := fun cs b => Region.noSelect_spec hns j oj cs b hj
  obtain ⟨h1, h2, h3⟩ := Oper.apart_spec hap
  simp only [wpLy, hi, hj] at h ⊢
  rcases h with ⟨v, hy, ⟨u, hy2, hr⟩ | ⟨hc, hw, hr⟩⟩ | ⟨hc, hw, hr⟩
  · refine .inl ⟨u, yi_back hsj h1 hy2, .inl ⟨v, yi_forth hsi h3 hy, ?_⟩⟩
    rw [← Act.put_comm a v u h2]; exact hr
  · refine .inr ⟨hc, by rw [← hw]; exact (wanted_put oj a oi.dst v h1).symm, ?_⟩
    refine Oper.wp_mono (fun a' w' hk => ?_) (wp_swap_rc hsi hsj hap hy hr)
    exact ⟨hk.2.1, .inl ⟨v, hk.1, hk.2.2⟩⟩
  · have hcj : chainK oj.op = false := by
      rcases hch with e | e
      · rw [hc] at e; cases e
      · exact e
    have hr' : oi.wp P a w (fun a' w' => S w' ∧ ∃ u, YieldsIf P ops S oj u a' ∧ wpLy P ops S Q r (a'.put oj.dst u) w') NoExit := by
      refine Oper.wp_mono (fun a' w' hk => ⟨hk.1 hil, ?_⟩) hr
      rcases hk.2 with hk | ⟨e, _⟩
      · exact hk
      · rw [hcj] at e; cases e
    obtain ⟨u, hy, hk⟩ := wp_swap_cr (K := wpLy P ops S Q r) hsi hsj hap hS hr'
    refine .inl ⟨u, hy, .inr ⟨hc, ?_, Oper.wp_mono (fun a' w' hk => ⟨fun _ => hk.1, hk.2⟩) hk⟩⟩
    rw [wanted_put oi a oj.dst u h3]; exact hw

theorem wpLy_front (hns : Region.noSelect ops = true) {j : Nat} {r : List Nat} : ∀ (l : List Nat) {a : Act} {w : World}, (∀ i ∈ l, i + 1 < ops.size ∧ swapOk ops i j = true) → S w → wpLy P ops S Q (l ++ j :: r) a w → wpLy P ops S Q (j :: (l ++ r)) a w
  | [], _, _, _, _, h => h
  | i :: l, a, w, hok, hS, h => by
    refine wpLy_swap hns (hok i (by simp)).1 (hok i (by simp)).2 hS ?_
    have ih := fun {a : Act} {w : World} (hS : S w) => wpLy_front hns (r := r) l (a := a) (w := w) (fun i hi => hok i (by simp [hi])) hS
    rw [List.cons_append] at h
    unfold wpLy at h ⊢
    cases ho : ops[i]? with
    | none => simp only [ho] at h ⊢; exact ih hS h
    | some o =>
      simp only [ho] at h ⊢
      rcases h with ⟨v, h1, h2⟩ | ⟨h1, h2, h3⟩
      · exact .inl ⟨v, h1, ih hS h2⟩
      · exact .inr ⟨h1, h2, Oper.wp_mono (fun a w h => ⟨h.1, ih (h.1 (hok i (by simp)).1) h.2⟩) h3⟩

/-- The last operation waits for all the others. -/
def lastOk (ops : Array Oper) : Bool := (List.range (ops.size - 1)).all fun i => ((Region.before ops).getD (ops.size - 1) 0).testBit i
theorem wpAny_of_ly (hB : lexOk ops = true) (hlast : lastOk ops = true) : ∀ (n : Nat) (listed : Array Bool) (a : Act) (w : World), (unl ops listed).length = n → listed.size = ops.size → Closed ops listed → (unl ops listed ≠ [] → S w) → wpLy P ops S Q (unl ops listed) a w → wpAny P .any ops Q n listed a w := by
  have hB' := hB
  simp only [lexOk, Bool.and_eq_true, List.all_eq_true, List.mem_range] at hB'
  obtain ⟨⟨hns, hmask⟩, hall⟩ := hB'
  intro n
  induction n with
  | zero =>
    intro listed a w hn hs hc hS h
    have hnil : unl ops listed = [] := List.eq_nil_of_length_eq_zero hn
    rw [hnil] at h
    refine ⟨?_, h⟩
    cases hr : Region.ready .any ops listed with
    | nil => rfl
    | cons j r =>
      have hj : j ∈ Region.ready .any ops listed := by rw [hr]; simp
      obtain ⟨h0, o, ho, _⟩ := mem_ready.1 hj
      have : j ∈ unl ops listed := by
        unfold unl; rw [List.mem_filter, List.mem_range]
        exact ⟨(Array.getElem?_eq_some_iff.1 ho).1, by simp [h0]⟩
      rw [hnil] at this; cases this
  | succ n ih =>
    intro listed a w hn hs hc hS h
    refine ⟨fun hr => ?_, fun j hj => ?_⟩
    · -- the first that is not listed is ready
      cases hu : unl ops listed with
      | nil => rw [hu] at hn; simp at hn
      | cons k r =>
        exfalso
        have hk : k ∈ unl ops listed := by rw [hu]; simp
        unfold unl at hk
        rw [List.mem_filter, List.mem_range] at hk
        obtain ⟨hk1, hk2⟩ := hk
        have hk2 : listed.getD k true = false := by simpa using hk2
        have ho : ops[k]? = some ops[k] := Array.getElem?_eq_getElem hk1
        have hd := (hall k hk1).1
        simp only [ho] at hd
        have : k ∈ Region.ready .any ops listed := by
          rw [mem_ready]
          refine ⟨hk2, _, ho, fun e he hb => ?_⟩
          have h1 := Array.all_eq_true_iff_forall_mem.1 hd e he
          simp only [hb, Bool.not_true, Bool.false_or, decide_eq_true_eq] at h1
          cases hl : listed.getD e.on false with
          | true => rfl
          | false =>
            exfalso
            obtain ⟨l1, l2, hs1, _, hs3⟩ := unl_split (ops := ops) (j := e.on) hs (by omega) (by rw [getD_lt (by omega) true false]; exact hl)
            rw [hu] at hs1
            cases l1 with
            | nil => simp at hs1; omega
            | cons x l1 =>
              simp at hs1
              have := (hs3 x (by simp)).1
              omega
        rw [hr] at this; cases this
    · obtain ⟨h0, o, ho, hall'⟩ := mem_ready.1 hj
      have hjs : j < ops.size := (Array.getElem?_eq_some_iff.1 ho).1
      obtain ⟨l1, l2, hs1, hs2, hs3⟩ := unl_split (ops := ops) hs hjs h0
      have hS := hS (by rw [hs1]; simp)
      have hfront : wpLy P ops S Q (j :: (l1 ++ l2)) a w := by
        refine wpLy_front hns l1 (fun i hi => ?_) hS (hs1 ▸ h)
        obtain ⟨hij, hiu⟩ := hs3 i hi
        refine ⟨by omega, ?_⟩
        have := (hall j hjs).2 i hij
        rw [Bool.or_eq_true] at this
        rcases this with hb | hb
        · have hl := mask_listed hmask hc (j + 1) j o (by omega) ho hall' i hij hb
          rw [getD_lt (by omega) false true, hiu] at hl; cases hl
        · exact hb
      have hlen : (unl ops (listed.setIfInBounds j true)).length = n := by
        rw [hs2]; rw [hs1] at hn; simp at hn ⊢; omega
      have hs' : (listed.setIfInBounds j true).size = ops.size := by simpa using hs
      have hc' : Closed ops (listed.setIfInBounds j true) := by
        intro m om hm hl e he hb
        by_cases hmj : m = j
        · subst hmj
          rw [ho] at hm; cases hm
          exact getD_set_true (hall' e he hb)
        · rw [getD_set_ne false (Ne.symm hmj)] at hl
          exact getD_set_true (hc m om hm hl e he hb)
      have hlt : unl ops (listed.setIfInBounds j true) ≠ [] → j + 1 < ops.size := fun hne => by
        rcases Nat.lt_or_ge (j + 1) ops.size with h1 | h1
        · exact h1
        · exfalso
          apply hne
          rw [hs2]
          have e1 : ∀ i, i ∈ l1 ++ l2 → False := fun i hi => by
            have hiu : i ∈ unl ops (listed.setIfInBounds j true) := by rw [hs2]; exact hi
            unfold unl at hiu
            rw [List.mem_filter, List.mem_range] at hiu
            obtain ⟨hi1, hi2⟩ := hiu
            have hij : i < j := by
              rcases Nat.lt_or_ge i j with h2 | h2
              · exact h2
              · obtain rfl : i = j := by omega
                simp at hi2
            have hb : ((Region.before ops).getD j 0).testBit i = true := by
              simp only [lastOk, List.all_eq_true, List.mem_range] at hlast
              have := hlast i (by omega)
              rwa [show ops.size - 1 = j by omega] at this
            have hl := mask_listed hmask hc (j + 1) j o (by omega) ho hall' i hij hb
            have hl2 : listed.getD i true = true := by rw [getD_lt (by omega) true false]; exact hl
            rw [getD_set_ne true (by omega : j ≠ i), hl2] at hi2
            simp at hi2
          cases hll : l1 ++ l2 with
          | nil => rfl
          | cons x y => exact (e1 x (by rw [hll]; simp)).elim
      rw [← hs2] at hfront
      unfold wpLy at hfront
      simp only [ho] at hfront
      rcases hfront with ⟨v, hy, hk⟩ | ⟨_, hw, hk⟩
      · exact hy.wpOp ho hS (ih _ _ _ hlen hs' hc' (fun _ => hS) hk)
      · unfold wpOp
        simp only [ho, hw, if_true]
        refine .inl ?_
        have h2 := Oper.wp_mono (K' := wpAny P .any ops Q n (listed.setIfInBounds j true)) (fun a' w' hk => ih _ a' w' hlen hs' hc' (fun hne => hk.1 (hlt hne)) hk.2) hk
        -- the empty exit serves every exit
        unfold Oper.wp at h2 ⊢
        generalize (execOp a.eval o).run P w = r at *
        cases r with
        | ok nx w' =>
          cases nx <;> simp only [Oper.upon] at h2 ⊢ <;> first
            | exact h2
            | exact Calls.mono h2 (fun e w'' he => by
                cases e with
                | returned v => exact he
                | panicked c => exact he.elim
                | outgrown => obtain ⟨_, _, he⟩ := he; exact he.elim)
        | halt x w' => cases x <;> simp only [Oper.upon] at h2 ⊢ <;> first | exact h2 | exact h2.elim


/-! ### The walk -/
/-- The walk in the order of the text. -/
def wpLey (P : Program) (ops : Array Oper) (S : World → Prop) (Q : Exit → Act → World → Prop) : List Oper → Act → World → Prop
  | [], a, w => Q .normal a w
  | o :: r, a, w => (∃ v, YieldsIf P ops S o v a ∧ wpLey P ops S Q r (a.put o.dst v) w) ∨
      (chainK o.op = true ∧ Region.wanted o (yielded ops a.tmps) = true ∧ o.wp P a w (fun a' w' => (r ≠ [] → S w') ∧ wpLey P ops S Q r a' w') NoExit)
theorem ly_of_ley : ∀ (l : List Oper) (k : Nat) (a : Act) (w : World), (∀ j, l[j]? = ops[k + j]?) → k + l.length = ops.size → wpLey P ops S Q l a w → wpLy P ops S Q (List.range' k l.length) a w
  | [], _, _, _, _, _, h => h
  | o :: l, k, a, w, hl, hs, h => by
    have h0 : ops[k]? = some o := by simpa using (hl 0).symm
    have ih := fun a w => ly_of_ley l (k + 1) a w (fun j => by have := hl (j + 1); simpa [Nat.add_assoc, Nat.add_comm 1 j] using this) (by simp at hs; omega)
    simp only [List.length_cons, List.range'_succ]
    unfold wpLy
    simp only [h0]
    rcases h with ⟨v, h1, h2⟩ | ⟨h1, h2, h3⟩
    · exact .inl ⟨v, h1, ih _ _ h2⟩
    · exact .inr ⟨h1, h2, Oper.wp_mono (fun a' w' hk => ⟨fun hlt => hk.1 (fun e => by subst e; simp at hs; omega), ih _ _ hk.2⟩) h3⟩
theorem wp_region_ley {id : Nat} {l : List Oper} {a : Act} {w : World} (S : World → Prop) (hm : P.follows .mixedOrders = true) (hB : lexOk l.toArray = true) (hlast : lastOk l.toArray = true) (hS : S w.drew)
    (h : wpLey P l.toArray S Q l a w.drew) : (Code.region id l.toArray true).wp P Q a w := by
  refine wp_region_any hm ?_
  have hu : unl l.toArray (Array.replicate l.toArray.size false) = List.range l.toArray.size := by
    unfold unl
    refine List.filter_eq_self.2 fun i hi => ?_
    have := List.mem_range.1 hi
    simp at this
    simp [this]
  refine wpAny_of_ly (S := S) hB hlast _ _ _ _ (by rw [hu]; simp) (by simp) ?_ (fun _ => hS) ?_
  · intro j o ho hl
    have : j < l.length := by have := (Array.getElem?_eq_some_iff.1 ho).1; simpa using this
    simp [this] at hl
  · rw [hu]
    have := ly_of_ley (P := P) (ops := l.toArray) (S := S) (Q := Q) l 0 a w.drew (by simp) (by simp) h
    simpa [List.range_eq_range'] using this
section
variable {o : Oper} {r : List Oper} {a : Act} {w : World}
theorem ley_nil (h : Q .normal a w) : wpLey P ops S Q [] a w := h
theorem ley_skip (hw : Region.wanted o (yielded ops a.tmps) = false) (h : wpLey P ops S Q r (a.put o.dst undef) w) : wpLey P ops S Q (o :: r) a w := .inl ⟨undef, .inr ⟨hw, rfl⟩, h⟩
theorem ley_read {v : Value} (hw : Region.wanted o (yielded ops a.tmps) = true) (hv : ∀ w', S w' → (execOp a.eval o).run P w' = .ok (.value v) w') (h : wpLey P ops S Q r (a.put o.dst v) w) : wpLey P ops S Q (o :: r) a w := .inl ⟨v, .inl ⟨hw, hv⟩, h⟩
/-- It may change the world. -/
theorem ley_chain (hc : chainK o.op = true) (hw : Region.wanted o (yielded ops a.tmps) = true) (h : ∀ K : Act → World → Prop, Hid (∀ a' w', S w' → wpLey P ops S Q r a' w' → K a' w') → o.wp P a w K NoExit) : wpLey P ops S Q (o :: r) a w :=
  .inr ⟨hc, hw, h _ fun _ _ h1 h2 => ⟨fun _ => h1, h2⟩⟩
/-- The last one. -/
theorem ley_last (hc : chainK o.op = true) (hw : Region.wanted o (yielded ops a.tmps) = true) (h : ∀ K : Act → World → Prop, Hid (∀ a' w', Q .normal a' w' → K a' w') → o.wp P a w K NoExit) : wpLey P ops S Q [o] a w :=
  .inr ⟨hc, hw, h _ fun _ _ h2 => ⟨fun h => (h rfl).elim, h2⟩⟩
end
end
end Go.CH
namespace Go.CH
open Go.RowKit
section
variable {P : Program} {l n : Nat} {o : Oper} {ops : Array Oper} {a : Act} {w : World} {K : Act → World → Prop} {Q : Exit → Act → World → Prop}
def noDefer (o : Oper) : Bool := match o.op with | .defer _ => false | _ => true
theorem noDefer_ne (h : noDefer o = true) : ∀ c, o.op ≠ .defer c := fun c e => by unfold noDefer at h; rw [e] at h; cases h
theorem oper_in (hd : noDefer o = true) (h : o.wp P a w K Q) : o.wpIn (Fence.wide.inRound l) n P a w K Q := by
  unfold Oper.wp at h
  refine ⟨fun _ _ => trivial, ?_⟩
  have e : (Fence.wide.inRound l).round = some l := rfl
  rw [e, Oper.semAt_some l _ _ (noDefer_ne hd)]
  generalize (execOp a.eval o).run P w = r at h ⊢
  have hdep : (Fence.wide.inRound l).depth.isSome = true → 1 ≤ n := fun h => by cases h
  cases r with
  | ok x w' =>
    cases x <;> first
      | exact h
      | exact h.elim
      | (refine ⟨hdep, (CallsIn.inRound l (callsIn_wide.2 h)).mono fun e w'' he => ?_⟩
         cases e <;> exact he)
      | exact ⟨hdep, fun c cs _ => let ⟨v, w', r, s⟩ := h c cs; ⟨v, w', r, stepsIn_wide.2 s⟩⟩
  | halt x w' =>
    cases x <;> first | exact h | exact h.elim
theorem opIn_of (hout : ¬ LetsOut Q) {i : Nat} (hd : ∀ o : Oper, ops[i]? = some o → noDefer o = true) (h : wpOp P ops Q i K a w) : wpOpIn (Fence.wide.inRound l) n P ops Q i K a w := by
  unfold wpOp at h
  unfold wpOpIn
  cases ho : ops[i]? with
  | none => simp only [ho] at h; exact h
  | some o =>
    simp only [ho] at h ⊢
    by_cases hw : Region.wanted o (yielded ops a.tmps) = true
    · rw [if_pos hw] at h ⊢
      rcases h with h | ⟨_, h⟩
      · exact oper_in (hd o ho) h
      · exact absurd h hout
    · rw [if_neg hw] at h ⊢; exact ⟨fun _ _ => trivial, h⟩
theorem anyIn_of (hout : ¬ LetsOut Q) {md : Region.Mode} (hd : ∀ (i : Nat) (o : Oper), ops[i]? = some o → noDefer o = true) : ∀ (fuel : Nat) (listed : Array Bool) (a : Act) (w : World), wpAny P md ops Q fuel listed a w → wpAnyIn (Fence.wide.inRound l) n P md ops Q fuel listed a w := by
  intro fuel
  induction fuel with
  | zero => intro listed a w h; exact h
  | succ fuel ih =>
    intro listed a w h
    exact ⟨h.1, fun i hi => wpOpIn_mono (fun a w => ih _ a w) (opIn_of hout (hd i) (h.2 i hi))⟩
theorem listIn_of (hout : ¬ LetsOut Q) : ∀ (r : List Oper) (a : Act) (w : World), r.all noDefer = true → wpList P ops Q r a w → wpListIn (Fence.wide.inRound l) n P ops Q r a w := by
  intro r
  induction r with
  | nil => intro a w _ h; exact h
  | cons o r ih =>
    intro a w hd h
    rw [List.all_cons, Bool.and_eq_true] at hd
    unfold wpList at h
    unfold wpListIn
    by_cases hw : Region.wanted o (yielded ops a.tmps) = true
    · rw [if_pos hw] at h ⊢
      rcases h with h | ⟨_, h⟩
      · exact Oper.wpIn_mono (fun a w => ih a w hd.2) (oper_in hd.1 h)
      · exact absurd h hout
    · rw [if_neg hw] at h ⊢; exact ⟨fun _ _ => trivial, ih _ _ hd.2 h⟩
/-- A region in the text's order. -/
theorem region_in {id : Nat} {r : List Oper} (hd : r.all noDefer = true) (hout : ¬ LetsOut Q) (h : wpList P r.toArray Q r a w) : (Code.region id r.toArray false).wpIn (Fence.wide.inRound l) n P Q a w := by
  refine wpIn_region ?_
  rw [List.range_eq_range', ← Array.length_toList, wpOpsIn_eq_wpListIn r.toArray.toList 0 (by simp)]
  simp only [List.toList_toArray]
  exact listIn_of hout r a w hd h
theorem all_ops {r : List Oper} (hd : r.all noDefer = true) : ∀ (i : Nat) (o : Oper), r.toArray[i]? = some o → noDefer o = true := fun i o ho => by
  rw [List.getElem?_toArray] at ho
  exact List.all_eq_true.1 hd o (List.mem_of_getElem? ho)
/-- A region that draws its order. -/
theorem region_in_lex {id : Nat} {r : List Oper} (S : World → Prop) (hd : r.all noDefer = true) (hout : ¬ LetsOut Q) (hm : P.follows .mixedOrders = true) (hB : lexOk r.toArray = true) (hS : S w.drew)
    (h : wpLex P r.toArray S Q r a w.drew) : (Code.region id r.toArray true).wpIn (Fence.wide.inRound l) n P Q a w := by
  refine wpIn_region_any hm (anyIn_of hout (all_ops hd) _ _ _ _ ?_)
  have hu : unl r.toArray (Array.replicate r.toArray.size false) = List.range r.toArray.size := by
    unfold unl
    refine List.filter_eq_self.2 fun i hi => ?_
    have := List.mem_range.1 hi
    simp at this
    simp [this]
  refine wpAny_of_lx (S := S) hB _ _ _ _ (by rw [hu]; simp) (by simp) ?_ hS ?_
  · intro j o ho hl
    have : j < r.length := by have := (Array.getElem?_eq_some_iff.1 ho).1; simpa using this
    simp [this] at hl
  · rw [hu]
    have := lx_of_lex (P := P) (ops := r.toArray) (S := S) (Q := Q) r 0 a w.drew (by simp) h
    simpa [List.range_eq_range'] using this
theorem region_in_lew {id : Nat} {r : List Oper} (Ts lv : List Nat) (S0 S1 S2 S3 : World → Prop) (h0 : ∀ w, S0 w → S1 w) (h1 : ∀ w, S1 w → S2 w) (h2 : ∀ w, S2 w → S3 w) (hd : r.all noDefer = true) (hout : ¬ LetsOut Q) (hm : P.follows .mixedOrders = true) (hB : lexOk r.toArray = true) (hL : lvOk r.toArray Ts = true) (hlv : levs r.toArray Ts = lv) (hS : S0 w.drew)
    (h : wpLew P r.toArray S0 S1 S2 S3 Q lv r a w.drew) : (Code.region id r.toArray true).wpIn (Fence.wide.inRound l) n P Q a w := by
  refine wpIn_region_any hm (anyIn_of hout (all_ops hd) _ _ _ _ ?_)
  have hu : unl r.toArray (Array.replicate r.toArray.size false) = List.range r.toArray.size := by
    unfold unl
    refine List.filter_eq_self.2 fun i hi => ?_
    have := List.mem_range.1 hi
    simp at this
    simp [this]
  refine wpAny_of_lw (Ts := Ts) (St := stg4 S0 S1 S2 S3) (stg4_mono h0 h1 h2) hB hL _ _ _ _ (by rw [hu]; simp) (by simp) ?_ ⟨0, hS, fun i _ _ => by split <;> omega⟩ ?_
  · intro j o ho hl
    have : j < r.length := by have := (Array.getElem?_eq_some_iff.1 ho).1; simpa using this
    simp [this] at hl
  · rw [hu]
    have := lw_of_lew (P := P) (ops := r.toArray) (Ts := Ts) (S0 := S0) (S1 := S1) (S2 := S2) (S3 := S3) (Q := Q) r lv 0 a w.drew (by simp) (fun j hj => by
      rw [← hlv]; unfold levs; rw [List.getElem?_map, List.getElem?_range (by simpa using hj)]; simp) h
    simpa [List.range_eq_range'] using this
end
end Go.CH
namespace Go.CH
open Go.ChangeShapes Go.WideShapes Go.Deep
section
variable {H : Type} {enc : TypeId × Value → H} {P : Program} {w : World} {base : Nat} {held : Bool}

theorem flatMap_get {α : Type} (R : α → List Value) (size : Nat) (hs : 0 < size) : ∀ (xs : List α), (∀ x ∈ xs, (R x).length = size) → ∀ j u, (xs.flatMap R)[j]? = some u → ∃ x, xs[j / size]? = some x ∧ (R x)[j % size]? = some u
  | [], _, j, u, h => by simp at h
  | x :: xs, hR, j, u, h => by
    have hx := hR x (by simp)
    rw [List.flatMap_cons] at h
    by_cases hj : j < size
    · rw [List.getElem?_append_left (by omega)] at h
      exact ⟨x, by rw [Nat.div_eq_of_lt hj]; rfl, by rw [Nat.mod_eq_of_lt hj]; exact h⟩
    · rw [List.getElem?_append_right (by omega), hx] at h
      obtain ⟨y, h1, h2⟩ := flatMap_get R size hs xs (fun z hz => hR z (by simp [hz])) (j - size) u h
      refine ⟨y, ?_, ?_⟩
      · rw [show j = (j - size) + size by omega, Nat.add_div_right _ hs]; simpa using h1
      · rw [show j = (j - size) + size by omega, Nat.add_mod_right]; exact h2

theorem flatMap_len {α : Type} (R : α → List Value) (size : Nat) : ∀ (xs : List α), (∀ x ∈ xs, (R x).length = size) → (xs.flatMap R).length = xs.length * size
  | [], _ => by simp
  | x :: xs, hR => by
    rw [List.flatMap_cons, List.length_append, hR x (by simp), flatMap_len R size xs (fun z hz => hR z (by simp [hz])), List.length_cons, Nat.succ_mul]; omega

/-- A slice that is an argument holds what its elements' readings say: 'R x' are the cells of the element x. -/
theorem open_src {t e : TypeId} {A : Option Addr} {n c : Nat} {d : DataW H} {ps : List MemPlace} {α : Type} [Inhabited α] (R : α → List Value) (Good : α → Prop) {size : Nat} (ht : P.underlying t = some (.slice e)) (hc : P.cellsOf e = size) (hs : 0 < size)
    (each : ∀ m cs y, DataW.trod enc P w base (fun _ => true) held m e cs = some y → ∃ x, cs = R x ∧ Good x) (one : ∀ x, Good x → ∀ u ∈ R x, u.oneCell' = true)
    (h : DataW.Trod enc P w base (fun _ => true) held t (.slice A n c) d ps) :
    ∃ xs : List α, xs.length = n ∧ Src w A n size (xs.flatMap R) ∧ (∀ x ∈ xs, Good x ∧ (R x).length = size) ∧ n ≤ c ∧ c ≤ maxLen := by
  obtain ⟨fuel, hf⟩ := h
  rcases open_slice ht hf with ⟨h0, _⟩ | ⟨a, len, cap, m, k, D, Pl, hv, _, hl, hm, hmm, _, hx⟩
  · simp [Value.cells] at h0
    obtain ⟨rfl, rfl, rfl⟩ := h0
    exact ⟨[], rfl, Src.none_, by simp, by omega, by omega⟩
  · simp [Value.cells] at hv
    obtain ⟨rfl, rfl, rfl⟩ := hv
    simp only [if_true] at hmm
    subst hmm
    obtain ⟨F, hF⟩ := choose_lt (n := m) (p := fun i (x : α) => Good x ∧ w.cells? base (a.add (i * P.cellsOf e)) (P.cellsOf e) = some (R x)) (fun i hi => by
      obtain ⟨cs', h1, h2⟩ := hx i hi
      obtain ⟨x, rfl, hg⟩ := each _ _ _ h2
      exact ⟨x, hg, h1⟩)
    have hlen : ∀ i, i < m → (R (F i)).length = size := fun i hi => by
      obtain ⟨_, h2, _⟩ := World.cells?_some (hF i hi).2
      rw [h2, hc]
    have hmem : ∀ x ∈ (List.range n).map F, Good x ∧ (R x).length = size := by
      intro x hx'
      simp only [List.mem_map, List.mem_range] at hx'
      obtain ⟨i, hi, rfl⟩ := hx'
      exact ⟨(hF i (by omega)).1, hlen i (by omega)⟩
    refine ⟨(List.range n).map F, by simp, ⟨?_, ?_, fun _ => ⟨a, rfl, ?_⟩⟩, hmem, hl, hm⟩
    · rw [flatMap_len R size _ (fun x hx' => (hmem x hx').2)]; simp
    · intro u hu
      rw [List.mem_flatMap] at hu
      obtain ⟨x, h1, h2⟩ := hu
      exact one x (hmem x h1).1 u h2
    · intro j u hu
      obtain ⟨x, h1, h2⟩ := flatMap_get R size hs _ (fun x hx' => (hmem x hx').2) j u hu
      rw [List.getElem?_map, Option.map_eq_some_iff] at h1
      obtain ⟨i, hi, rfl⟩ := h1
      have hi2 : j / size < n ∧ i = j / size := by
        obtain ⟨h1, h2⟩ := List.getElem?_eq_some_iff.1 hi
        simp at h1 h2
        exact ⟨h1, h2.symm⟩
      obtain ⟨hjn, rfl⟩ := hi2
      obtain ⟨_, _, h4⟩ := World.cells?_some (hF (j / size) (by omega)).2
      have h5 := h4 (j % size) (by rw [hc]; exact Nat.mod_lt _ hs)
      rw [add_add, hc, Nat.div_add_mod' j size] at h5
      rw [h5]; exact h2

theorem each_string {e : TypeId} (he : P.underlying e = some .string) : ∀ m cs y, DataW.trod enc P w base (fun _ => true) held m e cs = some y → ∃ x : ByteArray, cs = [.string x] ∧ x.size ≤ maxLen := by
  intro m cs y h
  obtain ⟨s, rfl, _, hw⟩ := DataW.trod_string he h
  exact ⟨s, rfl, hw⟩
theorem each_bool {e : TypeId} (he : P.underlying e = some .bool) : ∀ m cs y, DataW.trod enc P w base (fun _ => true) held m e cs = some y → ∃ x : Bool, cs = [.bool x] ∧ True := by
  intro m cs y h
  obtain ⟨s, h1, _⟩ := DataW.trod_bool he h
  exact ⟨s, h1, trivial⟩

/-- The cells of a struct whose fields take one cell each, field by field. -/
theorem open_fields {e : TypeId} {fs : Array Field} {m : Nat} {cs : List Value} {y : DataW H × List MemPlace} (he : P.underlying e = some (.struct fs)) (hone : oneCellFields P fs = true) (hC : P.cellsOf e = fs.size)
    (h : DataW.trod enc P w base (fun _ => true) held m e cs = some y) :
    cs.length = fs.size ∧ ∃ n, ∀ (j : Nat) (f : Field), fs[j]? = some f → ∃ (v : Value) (z : DataW H × List MemPlace), cs[j]? = some v ∧ DataW.trod enc P w base (fun _ => true) held n f.type [v] = some z := by
  obtain ⟨ys, n', _, _, hl, hyl, hf⟩ := DataW.trod_struct he h
  have hcl : cs.length = fs.size := by rw [← hC]; exact hl
  refine ⟨hcl, n', fun j f hj => ?_⟩
  obtain ⟨ho, hk⟩ := hone_of hone j f hj
  have hjl : j < fs.size := (Array.getElem?_eq_some_iff.1 hj).1
  have h1 := hf j f hj
  rw [ho, hk] at h1
  have hone' : (cs.drop j).take 1 = [cs[j]'(by omega)] := by
    rw [List.drop_eq_getElem_cons (by omega)]
    rfl
  rw [hone'] at h1
  have hys : ys[j]? = some (ys[j]'(by omega)) := List.getElem?_eq_getElem (by omega)
  exact ⟨_, _, List.getElem?_eq_getElem (by omega), h1.trans hys⟩
end
theorem of_wf {k : IntKind} {n : Int} (h : (Lit.int k n).wf = true) : k.min ≤ n ∧ n ≤ k.max := (Lit.wf_int_iff k n).1 h
theorem of_wf_u8 {n : Int} (h : (Lit.int .u8 n).wf = true) : 0 ≤ n ∧ n ≤ 255 := of_wf h
theorem of_wf_i64 {n : Int} (h : (Lit.int .i64 n).wf = true) : -9223372036854775808 ≤ n ∧ n ≤ 9223372036854775807 := of_wf h
end Go.CH
namespace Go.CH
open Go.RowKit
open Go.ChangeMaps (setBlock)
section
variable {P : Program}
theorem bytes_dec (a b : ByteArray) : (a == b) = decide (a = b) := by
  rw [Bool.eq_iff_iff, Go.MapKept.bytes_beq]; simp
theorem toList_inj {a b : ByteArray} : a.toList = b.toList ↔ a = b := by
  constructor
  · intro h
    rw [ByteArray.toList_eq, ByteArray.toList_eq] at h
    cases a; cases b; simp at h; rw [h]
  · rintro rfl; rfl
theorem toList_beq (a b : ByteArray) : (a.toList == b.toList) = decide (a = b) := by
  rw [Bool.eq_iff_iff, beq_iff_eq, toList_inj]; simp
theorem eqStr {E : TypeId} (hE : P.underlying E = some .string) (a b : ByteArray) (n : Nat) (w : World) :
    (Op.equalIn (n + 1) E (.string a) (.string b)).run P w = .ok (a == b) w := by
  simp [Op.equalIn, run_underlying hE]
theorem checkStr {E : TypeId} (hE : P.underlying E = some .string) (e : Bool) (a : ByteArray) (n : Nat) (w : World) : (Instr.checkKey e (n + 1) E (.string a)).run P w = .ok () w := by
  simp [Instr.checkKey, run_underlying hE]
theorem keyOk_str {K : TypeId} (hK : P.underlying K = some .string) : KeyOk P K Value.string := by
  refine ⟨fun a b w => ?_, fun e a w => checkStr hK e a 9999 w, fun a => ?_, _, hK, fun a b => ?_⟩
  · rw [Op.equal, Op.maxDepth, eqStr hK a b 9999 w, bytes_dec]
  · unfold Instr.sameBits; exact (bytes_dec a a).trans (by simp)
  · right; unfold Instr.sameNow; simp only [bytes_dec]
end
def strs (l : List ByteArray) : List Value := l.map Value.string
theorem strs_one (l : List ByteArray) : ∀ u ∈ strs l, u.oneCell' = true := by
  intro u hu
  obtain ⟨s, _, rfl⟩ := List.mem_map.1 hu
  rfl
theorem strs_len (l : List ByteArray) : (strs l).length = l.length := by simp [strs]
theorem strs_get {l : List ByteArray} {k : Nat} (h : k < l.length) : (strs l)[k]? = some (.string l[k]) := by simp [strs, h]
section
variable {α : Type} [DecidableEq α] {P : Program} {kv : α → Value} {t K E : TypeId}
theorem mapO_put (H : KeyOk P K kv) (ht : P.underlying t = some (.map K E)) {b : Nat} {l : List (α × Value)} {w : World} {F : Nat → Prop} (h : MapO kv b l w F) (k : α) (v : Value) :
    ∃ w', (Instr.mapUpdate t (.map (some b)) (kv k) v).run P w = .ok () w' ∧ Post w F (MapO kv b (mput l k v)) w' := by
  obtain ⟨⟨es, clock, h1, h2⟩, hF⟩ := h
  obtain ⟨es', clock', h3, h4⟩ := run_mapUpdate H ht h2 b k v
  exact ⟨_, h4 w h1, F, ⟨⟨es', clock', heap_setBlock_self h1, h3⟩, hF⟩, (Mod.refl _ _).setBlock _ (fun _ => (hF b).2 rfl), fun i hi => .inl hi⟩
theorem mapO_get {z : Value} (H : KeyOk P K kv) (ht : P.underlying t = some (.map K E)) (hz : ∀ w, (zeroValue E).run P w = .ok z w) {b : Nat} {l : List (α × Value)} {w : World} {F : Nat → Prop} (h : MapO kv b l w F) (k : α) :
    (Instr.lookup t (.map (some b)) (kv k) false).run P w = .ok ((mget l k).getD z) w := by
  obtain ⟨⟨es, clock, h1, h2⟩, hF⟩ := h
  exact run_lookup H ht hz h2 k w h1
omit [DecidableEq α] in
theorem mapO_len {ty : TypeId} (ht : P.underlying t = some (.map K E)) {b : Nat} {l : List (α × Value)} {w : World} {F : Nat → Prop} (h : MapO kv b l w F) :
    (Builtin.len_ #[t] ty #[.map (some b)]).run P w = .ok (.int .i64 l.length) w := run_len_map ht h.1
theorem mput_new_ {l : List (α × Value)} {k : α} {v : Value} (h : k ∉ l.map (·.1)) : mput l k v = l ++ [(k, v)] := by
  cases hf : fnd k l 0 with
  | none => exact (fnd_none hf).2 v
  | some p =>
    obtain ⟨j, u⟩ := p
    obtain ⟨n, h1, h2, h3⟩ := fnd_some hf
    exact absurd (List.mem_map.2 ⟨(k, u), List.mem_of_getElem? h2, rfl⟩) h
theorem mget_none_ {k : α} : ∀ {l : List (α × Value)}, k ∉ l.map (·.1) → mget l k = none
  | [], _ => rfl
  | (a, u) :: l, h => by
    simp only [List.map_cons, List.mem_cons, not_or] at h
    rw [mget_cons, if_neg h.1, mget_none_ h.2]
theorem mget_all {k : α} {v : Value} : ∀ {l : List α}, mget (l.map fun x => (x, v)) k = if k ∈ l then some v else none
  | [] => rfl
  | a :: l => by
    rw [List.map_cons, mget_cons, mget_all]
    by_cases h : k = a
    · simp [h]
    · simp [h]
end
end Go.CH
namespace Go.Proofs.YtnppgomhhcbplaaGreatDoor
open Go.RowKit Go.CH Go.CH.Scr
open Go.ChangeMaps (setBlock)
def BelowRet (w : World) (v : Value) (e : Ending) (w' : World) : Prop := e = .returned v ∧ Below w.heap.size w w'
def Quiet (w : World) (v : Value) (e : Ending) (w' : World) : Prop := e = .returned v ∧ w = w'
/-- The bytes of a text. -/
abbrev bl (s : ByteArray) : Bs := s.data.toList
def bs (l : Bs) : ByteArray := ⟨l.toArray⟩
theorem bl_bs (l : Bs) : bl (bs l) = l := rfl
theorem bs_bl (s : ByteArray) : bs (bl s) = s := by cases s; rfl
theorem bl_len (s : ByteArray) : (bl s).length = s.size := by cases s; rfl
theorem bs_size (l : Bs) : (bs l).size = l.length := by cases l; rfl; rfl
theorem bs_inj {a b : Bs} (h : bs a = bs b) : a = b := by have := congrArg bl h; exact this
theorem bl_inj {a b : ByteArray} (h : bl a = bl b) : a = b := by rw [← bs_bl a, ← bs_bl b, h]
theorem bl_at (s : ByteArray) (i : Nat) (h : i < s.size) : (bl s)[i]? = some s[i] := Lib.data_getElem? s i h
theorem bl_no (s : ByteArray) (i : Nat) (h : ¬ i < s.size) : (bl s)[i]? = none := List.getElem?_eq_none (by rw [bl_len]; omega)
theorem quiet_bool {w : World} {a b : Bool} (h : a = b) : Quiet w (.bool b) (.returned (.bool a)) w := ⟨by rw [h], rfl⟩
theorem indexByte_has (S : Bs) (x : UInt8) : decide (0 ≤ Lib.indexByte S x) = has S (some x) := (Lib.contains_iff_indexByte S x).symm
theorem u8_back (x : UInt8) : ((x.toNat : Int)).toNat.toUInt8 = x := by simp
set_option maxHeartbeats 1600000 in
theorem is_any (s S : ByteArray) (i : Nat) (w : World) (hs : s.size ≤ maxLen) :
    Calls Tryz.prog 124 #[.string s, .int .i64 (i : Int), .string S] w (Quiet w (.bool (has (bl S) (bl s)[i]?))) := by
  by_cases h : i < s.size
  · rw [bl_at s i h]
    obtain ⟨x, hx⟩ : ∃ x : UInt8, s[i] = x := ⟨_, rfl⟩
    rw [hx]
    have KI := hide (Tryz.strings_IndexByte S (x.toNat : Int) w)
    rw [u8_back] at KI
    have HB := hide (indexByte_has (bl S) x)
    generalize has (bl S) (some x) = r at *
    have hx256 := x.toNat_lt
    have hi : (i : Int) < (s.size : Int) := by omega
    go_enter Tryz.func124, Tryz.ntmps124
    generalize Lib.indexByte (bl S) x = ix at *
    go_wp2_with fail
    refine KI.out.mono ?_
    rintro e9 w9 ⟨rfl, rfl⟩
    clear KI
    go_wp2
    go_ret
    exact quiet_bool HB.out
  · rw [bl_no s i h]
    have hi : ¬ (i : Int) < (s.size : Int) := by omega
    go_enter Tryz.func124, Tryz.ntmps124
    go_wp2
    go_ret
    exact quiet_bool rfl
end Go.Proofs.YtnppgomhhcbplaaGreatDoor
