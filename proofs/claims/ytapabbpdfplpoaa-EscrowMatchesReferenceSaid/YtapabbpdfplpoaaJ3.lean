/-
  A region that draws its order, walked once in the order of the text: operations that only read under a condition S on the world, and operations that change the world, which wait for one another.
  As Lex: a region that draws its order and holds several stores: what may be leaned on grows weaker from store to store (stages St 0, St 1, ..). An operation leans on the stage in which it may run at the latest.
  Escrow: line, Have, change, Spend, Return, Revoke.
  Escrow: change, Spend, Return, Revoke.
-/
import Derived.WalkKit
import Derived.Orders
import Derived.OrdersHeld
import Derived.Deep.Draws
import Derived.Deep.RegionHeld3
import Derived.Test.YtapabbpdfplpoaaJ2
set_option linter.unusedSimpArgs false
set_option linter.unusedVariables false
namespace Go.CH
open Go.RowKit

/-- Operations that may change the world. -/
def chainK : Op → Bool
  | .call { callee := .builtin .len, .. } | .call { callee := .builtin .cap, .. } | .call { callee := .builtin .min, .. } | .call { callee := .builtin .max, .. } => false
  | .move _ | .assign _ | .pick .. | .load .. | .nilCheck _ | .binOp .. | .unOp .. | .makeInterface .. | .makeFunc .. | .slice .. | .fieldAddr .. | .field .. | .indexAddr .. | .index .. | .lookup .. | .extract .. | .build .. | .typeAssert .. | .entry _ => false
  | _ => true

section
variable {P : Program} {ops : Array Oper} {S : World → Prop} {Q : Exit → Act → World → Prop}

def NoExit : Exit → Act → World → Prop := fun _ _ _ => False

/-- The walk in the order of a list of indexes. -/
def wpLx (P : Program) (ops : Array Oper) (S : World → Prop) (Q : Exit → Act → World → Prop) : List Nat → Act → World → Prop
  | [], a, w => Q .normal a w
  | i :: r, a, w => match ops[i]? with
    | none => wpLx P ops S Q r a w
    | some o => (∃ v, YieldsIf P ops S o v a ∧ wpLx P ops S Q r (a.put o.dst v) w) ∨
      (chainK o.op = true ∧ Region.wanted o (yielded ops a.tmps) = true ∧ o.wp P a w (fun a' w' => S w' ∧ wpLx P ops S Q r a' w') NoExit)

theorem yi_uniq {o : Oper} {u v : Value} {a : Act} {w : World} (hS : S w) (h1 : YieldsIf P ops S o u a) (h2 : YieldsIf P ops S o v a) : u = v := by
  rcases h1 with ⟨w1, r1⟩ | ⟨w1, e1⟩ <;> rcases h2 with ⟨w2, r2⟩ | ⟨w2, e2⟩
  · have h := (r1 w hS).symm.trans (r2 w hS)
    injection h with h _
    injection h
  · rw [w1] at w2; cases w2
  · rw [w1] at w2; cases w2
  · rw [e1, e2]

theorem calls_some {f : FuncId} {args : Array Value} {w : World} {R : Ending → World → Prop} (h : Calls P f args w R) : ∃ e w', R e w' := by
  obtain ⟨e, w', _, hR, _⟩ := h []; exact ⟨e, w', hR⟩

/-- An operation that reads may be taken out of the way of one that has its own temporaries. -/
theorem yi_back {oi oj : Oper} {u v : Value} {a : Act} (hs : ∀ cs b, oj.op ≠ .select cs b) (h : ∀ d, oi.dst = some d → d ∉ oj.looksAt ops) (hy : YieldsIf P ops S oj u (a.put oi.dst v)) : YieldsIf P ops S oj u a :=
  hy.of_same (execOp_put oj hs a oi.dst v h).symm (wanted_put oj a oi.dst v h).symm
theorem yi_forth {oi oj : Oper} {u v : Value} {a : Act} (hs : ∀ cs b, oj.op ≠ .select cs b) (h : ∀ d, oi.dst = some d → d ∉ oj.looksAt ops) (hy : YieldsIf P ops S oj u a) : YieldsIf P ops S oj u (a.put oi.dst v) :=
  hy.of_same (execOp_put oj hs a oi.dst v h) (wanted_put oj a oi.dst v h)
theorem yi_defers {o : Oper} {u : Value} {a : Act} {ds : List Deferred} (h : YieldsIf P ops S o u { a with defers := ds }) : YieldsIf P ops S o u a := h.of_same rfl rfl
theorem yi_defers' {o : Oper} {u : Value} {a : Act} {ds : List Deferred} (h : YieldsIf P ops S o u a) : YieldsIf P ops S o u { a with defers := ds } := h.of_same rfl rfl

/-- A reading operation i first, a changing one j behind it: j may come first. -/
theorem wp_swap_rc {oi oj : Oper} {v : Value} {a : Act} {w : World} {K : Act → World → Prop} (hsi : ∀ cs b, oi.op ≠ .select cs b) (hsj : ∀ cs b, oj.op ≠ .select cs b) (hap : oi.apart ops oj = true)
    (hy : YieldsIf P ops S oi v a) (h : oj.wp P (a.put oi.dst v) w K NoExit) : oj.wp P a w (fun a' w' => YieldsIf P ops S oi v a' ∧ K (a'.put oi.dst v) w') NoExit := by
  obtain ⟨h1, h2, h3⟩ := Oper.apart_spec hap
  have keep : ∀ (a : Act), YieldsIf P ops S oi v a → ∀ u, YieldsIf P ops S oi v (a.put oj.dst u) := fun a hy u => yi_forth hsi h3 hy
  unfold Oper.wp at *
  rw [execOp_put oj hsj a oi.dst v h1] at h
  generalize (execOp a.eval oj).run P w = r at *
  cases r with
  | ok n w' =>
    cases n <;> simp only [Oper.upon] at h ⊢
    case value u => exact ⟨keep a hy u, by rw [← Act.put_comm a v u h2]; exact h⟩
    case skip => exact ⟨keep a hy _, by rw [← Act.put_comm a v undef h2]; exact h⟩
    case defer d =>
      refine ⟨keep _ (yi_defers' hy) _, ?_⟩
      rw [← Act.put_comm _ v undef h2, ← Act.put_defers]
      exact h
    case enter f args =>
      refine Calls.mono h fun e w'' he => ?_
      cases e with
      | returned u => exact ⟨keep a hy u, by rw [← Act.put_comm a v u h2]; exact he⟩
      | panicked c => exact he
      | outgrown => exact he
    case row row args => exact Rows.mono h fun u w'' he => ⟨keep a hy u, by rw [← Act.put_comm a v u h2]; exact he⟩
  | halt x w' => cases x <;> simp only [Oper.upon] at h ⊢ <;> exact h

/-- A changing operation i first, a reading one j behind it: j may come first. -/
theorem wp_swap_cr {oi oj : Oper} {a : Act} {w : World} {K : Act → World → Prop} (hsi : ∀ cs b, oi.op ≠ .select cs b) (hsj : ∀ cs b, oj.op ≠ .select cs b) (hap : oi.apart ops oj = true) (hS : S w)
    (h : oi.wp P a w (fun a' w' => S w' ∧ ∃ u, YieldsIf P ops S oj u a' ∧ K (a'.put oj.dst u) w') NoExit) :
    ∃ u, YieldsIf P ops S oj u a ∧ oi.wp P (a.put oj.dst u) w (fun a' w' => S w' ∧ K a' w') NoExit := by
  obtain ⟨h1, h2, h3⟩ := Oper.apart_spec hap
  unfold Oper.wp at *
  have hex : ∀ u, execOp (a.put oj.dst u).eval oi = execOp a.eval oi := fun u => execOp_put oi hsi a oj.dst u h3
  simp only [hex]
  generalize (execOp a.eval oi).run P w = r at *
  cases r with
  | ok n w' =>
    cases n <;> simp only [Oper.upon] at h ⊢
    case value v =>
      obtain ⟨s, u, hy, hk⟩ := h
      exact ⟨u, yi_back hsj h1 hy, s, by rw [← Act.put_comm a v u h2]; exact hk⟩
    case skip =>
      obtain ⟨s, u, hy, hk⟩ := h
      exact ⟨u, yi_back hsj h1 hy, s, by rw [← Act.put_comm a undef u h2]; exact hk⟩
    case defer d =>
      obtain ⟨s, u, hy, hk⟩ := h
      refine ⟨u, yi_defers (yi_back hsj h1 hy), s, ?_⟩
      rw [Act.put_defers, ← Act.put_comm _ undef u h2]
      exact hk
    case enter f args =>
      obtain ⟨e, w0, he⟩ := calls_some h
      cases e with
      | panicked c => exact he.elim
      | outgrown => obtain ⟨_, _, he⟩ := he; exact he.elim
      | returned v0 =>
        obtain ⟨_, u, hy, _⟩ := he
        have hy0 := yi_back hsj h1 hy
        refine ⟨u, hy0, Calls.mono h fun e w'' he => ?_⟩
        cases e with
        | panicked c => exact he
        | outgrown => exact he
        | returned v =>
          obtain ⟨s, u', hy', hk⟩ := he
          obtain rfl := yi_uniq hS hy0 (yi_back hsj h1 hy')
          exact ⟨s, by rw [← Act.put_comm a v u h2]; exact hk⟩
    case row row args =>
      have hr := h default []
      obtain ⟨v0, w0, ⟨_, u, hy, _⟩, _⟩ := hr
      have hy0 := yi_back hsj h1 hy
      refine ⟨u, hy0, Rows.mono h fun v w'' he => ?_⟩
      obtain ⟨s, u', hy', hk⟩ := he
      obtain rfl := yi_uniq hS hy0 (yi_back hsj h1 hy')
      exact ⟨s, by rw [← Act.put_comm a v u h2]; exact hk⟩
  | halt x w' => cases x <;> simp only [Oper.upon] at h <;> exact h.elim

/-- i may be overtaken by j. -/
def swapOk (ops : Array Oper) (i j : Nat) : Bool :=
  match ops[i]?, ops[j]? with
  | some oi, some oj => !(chainK oi.op && chainK oj.op) && oi.apart ops oj
  | _, _ => false

theorem wpLx_mono {S' : World → Prop} : ∀ (l : List Nat) {a : Act} {w : World} {Q' : Exit → Act → World → Prop} (_ : ∀ a w, Q .normal a w → Q' .normal a w), wpLx P ops S Q l a w → wpLx P ops S Q' l a w
  | [], a, w, Q', hq, h => hq _ _ h
  | i :: r, a, w, Q', hq, h => by
    unfold wpLx at *
    cases ho : ops[i]? with
    | none => simp only [ho] at h ⊢; exact wpLx_mono (S' := S') r hq h
    | some o =>
      simp only [ho] at h ⊢
      rcases h with ⟨v, h1, h2⟩ | ⟨h1, h2, h3⟩
      · exact .inl ⟨v, h1, wpLx_mono (S' := S') r hq h2⟩
      · exact .inr ⟨h1, h2, Oper.wp_mono (fun a w h => ⟨h.1, wpLx_mono (S' := S') r hq h.2⟩) h3⟩

theorem wpLx_swap (hns : Region.noSelect ops = true) {i j : Nat} {r : List Nat} {a : Act} {w : World} (hok : swapOk ops i j = true) (hS : S w) (h : wpLx P ops S Q (i :: j :: r) a w) : wpLx P ops S Q (j :: i :: r) a w := by
  unfold swapOk at hok
  cases hi : ops[i]? with
  | none => simp [hi] at hok
  | some oi =>
  cases hj : ops[j]? with
  | none => simp [hj] at hok
  | some oj =>
  simp only [hi, hj, Bool.and_eq_true, Bool.not_eq_true', Bool.and_eq_false_iff] at hok
  obtain ⟨hch, hap⟩ := hok
  have hsi := fun cs b => Region.noSelect_spec hns i oi cs b hi
  have hsj := fun cs b => Region.noSelect_spec hns j oj cs b hj
  obtain ⟨h1, h2, h3⟩ := Oper.apart_spec hap
  simp only [wpLx, hi, hj] at h ⊢
  rcases h with ⟨v, hy, ⟨u, hy2, hr⟩ | ⟨hc, hw, hr⟩⟩ | ⟨hc, hw, hr⟩
  · refine .inl ⟨u, yi_back hsj h1 hy2, .inl ⟨v, yi_forth hsi h3 hy, ?_⟩⟩
    rw [← Act.put_comm a v u h2]; exact hr
  · refine .inr ⟨hc, by rw [← hw]; exact (wanted_put oj a oi.dst v h1).symm, ?_⟩
    refine Oper.wp_mono (fun a' w' hk => ?_) (wp_swap_rc hsi hsj hap hy hr)
    exact ⟨hk.2.1, .inl ⟨v, hk.1, hk.2.2⟩⟩
  · have hcj : chainK oj.op = false := by
      rcases hch with e | e
      · rw [hc] at e; cases e
      · exact e
    have hr' : oi.wp P a w (fun a' w' => S w' ∧ ∃ u, YieldsIf P ops S oj u a' ∧ wpLx P ops S Q r (a'.put oj.dst u) w') NoExit := by
      refine Oper.wp_mono (fun a' w' hk => ⟨hk.1, ?_⟩) hr
      rcases hk.2 with hk | ⟨e, _⟩
      · exact hk
      · rw [hcj] at e; cases e
    obtain ⟨u, hy, hk⟩ := wp_swap_cr (K := wpLx P ops S Q r) hsi hsj hap hS hr'
    refine .inl ⟨u, hy, .inr ⟨hc, ?_, hk⟩⟩
    rw [wanted_put oi a oj.dst u h3]; exact hw

theorem wpLx_front (hns : Region.noSelect ops = true) {j : Nat} {r : List Nat} : ∀ (l : List Nat) {a : Act} {w : World}, (∀ i ∈ l, swapOk ops i j = true) → S w → wpLx P ops S Q (l ++ j :: r) a w → wpLx P ops S Q (j :: (l ++ r)) a w
  | [], _, _, _, _, h => h
  | i :: l, a, w, hok, hS, h => by
    refine wpLx_swap hns (hok i (by simp)) hS ?_
    have ih := fun {a : Act} {w : World} (hS : S w) => wpLx_front hns (r := r) l (a := a) (w := w) (fun i hi => hok i (by simp [hi])) hS
    rw [List.cons_append] at h
    unfold wpLx at h ⊢
    cases ho : ops[i]? with
    | none => simp only [ho] at h ⊢; exact ih hS h
    | some o =>
      simp only [ho] at h ⊢
      rcases h with ⟨v, h1, h2⟩ | ⟨h1, h2, h3⟩
      · exact .inl ⟨v, h1, ih hS h2⟩
      · exact .inr ⟨h1, h2, Oper.wp_mono (fun a w h => ⟨h.1, ih h.1 h.2⟩) h3⟩

/-! ### Any order -/

/-- Not yet listed, in the order of the text. -/
def unl (ops : Array Oper) (listed : Array Bool) : List Nat := (List.range ops.size).filter fun i => !listed.getD i true

/-- All that a listed operation waits for is listed. -/
def Closed (ops : Array Oper) (listed : Array Bool) : Prop := ∀ j o, ops[j]? = some o → listed.getD j false = true → ∀ e ∈ o.after, Region.binds .any e = true → listed.getD e.on false = true

/-- The masks B say what an operation waits for, directly or not. -/
def maskOk (ops : Array Oper) (B : Array Nat) : Bool :=
  (List.range ops.size).all fun j => (List.range j).all fun i => !(B.getD j 0).testBit i ||
    match ops[j]? with
    | some o => o.after.any fun e => Region.binds .any e && e.on < j && (e.on == i || (decide (i < e.on) && (B.getD e.on 0).testBit i))
    | none => false
def lexOk (ops : Array Oper) : Bool :=
  Region.noSelect ops && maskOk ops (Region.before ops) &&
  (List.range ops.size).all fun j => (match ops[j]? with | some o => o.after.all fun e => !Region.binds .any e || e.on < j | none => false) &&
    (List.range j).all fun i => ((Region.before ops).getD j 0).testBit i || swapOk ops i j

theorem mask_listed {B : Array Nat} (hB : maskOk ops B = true) {listed : Array Bool} (hc : Closed ops listed) : ∀ (n j : Nat) (o : Oper), j < n → ops[j]? = some o → (∀ e ∈ o.after, Region.binds .any e = true → listed.getD e.on false = true) →
    ∀ i, i < j → (B.getD j 0).testBit i = true → listed.getD i false = true
  | 0, _, _, h, _, _, _, _, _ => by omega
  | n + 1, j, o, hj, ho, ha, i, hi, hbit => by
    have hjs : j < ops.size := (Array.getElem?_eq_some_iff.1 ho).1
    have h1 := hB
    simp only [maskOk, List.all_eq_true, List.mem_range] at h1
    have h2 := h1 j hjs i hi
    simp only [ho, hbit, Bool.not_true, Bool.false_or] at h2
    obtain ⟨e, he, hb⟩ := Array.any_eq_true'.1 h2
    simp only [Bool.and_eq_true, decide_eq_true_eq, Bool.or_eq_true, beq_iff_eq] at hb
    obtain ⟨⟨hb1, hb2⟩, hb3⟩ := hb
    have hl := ha e he hb1
    rcases hb3 with rfl | ⟨hie, hb3⟩
    · exact hl
    · have hes : e.on < ops.size := by omega
      have ho' : ops[e.on]? = some ops[e.on] := Array.getElem?_eq_getElem hes
      exact mask_listed hB hc n e.on _ (by omega) ho' (fun e' he' hb' => hc e.on _ ho' hl e' he' hb') i hie hb3

theorem range_split {n j : Nat} (h : j < n) : List.range n = List.range j ++ j :: List.range' (j + 1) (n - j - 1) := by
  have e : n = j + (1 + (n - j - 1)) := by omega
  conv => lhs; rw [e, List.range_eq_range', ← List.range'_append_1, ← List.range'_append_1]
  simp [List.range_eq_range']

theorem getD_lt {listed : Array Bool} {i : Nat} (h : i < listed.size) (d d' : Bool) : listed.getD i d = listed.getD i d' := by simp [h]

theorem unl_split {listed : Array Bool} {j : Nat} (hs : listed.size = ops.size) (hj : j < ops.size) (hu : listed.getD j true = false) :
    ∃ l1 l2, unl ops listed = l1 ++ j :: l2 ∧ unl ops (listed.setIfInBounds j true) = l1 ++ l2 ∧ (∀ i ∈ l1, i < j ∧ listed.getD i true = false) := by
  refine ⟨(List.range j).filter fun i => !listed.getD i true, (List.range' (j + 1) (ops.size - j - 1)).filter fun i => !listed.getD i true, ?_, ?_, ?_⟩
  · unfold unl
    rw [range_split hj, List.filter_append, List.filter_cons_of_pos (by simp [hu])]
  · unfold unl
    have hset : (listed.setIfInBounds j true).getD j true = true := by simp
    rw [range_split hj, List.filter_append, List.filter_cons_of_neg (by rw [hset]; simp)]
    congr 1
    · refine List.filter_congr fun i hi => ?_
      have : j ≠ i := by have := List.mem_range.1 hi; omega
      rw [getD_set_ne true this]
    · refine List.filter_congr fun i hi => ?_
      have : j ≠ i := by have := List.mem_range'_1.1 hi; omega
      rw [getD_set_ne true this]
  · intro i hi
    rw [List.mem_filter, List.mem_range] at hi
    exact ⟨hi.1, by simpa using hi.2⟩

theorem wpAny_of_lx (hB : lexOk ops = true) : ∀ (n : Nat) (listed : Array Bool) (a : Act) (w : World), (unl ops listed).length = n → listed.size = ops.size → Closed ops listed → S w → wpLx P ops S Q (unl ops listed) a w → wpAny P .any ops Q n listed a w := by
  have hB' := hB
  simp only [lexOk, Bool.and_eq_true, List.all_eq_true, List.mem_range] at hB'
  obtain ⟨⟨hns, hmask⟩, hall⟩ := hB'
  intro n
  induction n with
  | zero =>
    intro listed a w hn hs hc hS h
    have hnil : unl ops listed = [] := List.eq_nil_of_length_eq_zero hn
    rw [hnil] at h
    refine ⟨?_, h⟩
    cases hr : Region.ready .any ops listed with
    | nil => rfl
    | cons j r =>
      have hj : j ∈ Region.ready .any ops listed := by rw [hr]; simp
      obtain ⟨h0, o, ho, _⟩ := mem_ready.1 hj
      have : j ∈ unl ops listed := by
        unfold unl; rw [List.mem_filter, List.mem_range]
        exact ⟨(Array.getElem?_eq_some_iff.1 ho).1, by simp [h0]⟩
      rw [hnil] at this; cases this
  | succ n ih =>
    intro listed a w hn hs hc hS h
    refine ⟨fun hr => ?_, fun j hj => ?_⟩
    · -- the first that is not listed is ready
      cases hu : unl ops listed with
      | nil => rw [hu] at hn; simp at hn
      | cons k r =>
        exfalso
        have hk : k ∈ unl ops listed := by rw [hu]; simp
        unfold unl at hk
        rw [List.mem_filter, List.mem_range] at hk
        obtain ⟨hk1, hk2⟩ := hk
        have hk2 : listed.getD k true = false := by simpa using hk2
        have ho : ops[k]? = some ops[k] := Array.getElem?_eq_getElem hk1
        have hd := (hall k hk1).1
        simp only [ho] at hd
        have : k ∈ Region.ready .any ops listed := by
          rw [mem_ready]
          refine ⟨hk2, _, ho, fun e he hb => ?_⟩
          have h1 := Array.all_eq_true_iff_forall_mem.1 hd e he
          simp only [hb, Bool.not_true, Bool.false_or, decide_eq_true_eq] at h1
          cases hl : listed.getD e.on false with
          | true => rfl
          | false =>
            exfalso
            obtain ⟨l1, l2, hs1, _, hs3⟩ := unl_split (ops := ops) (j := e.on) hs (by omega) (by rw [getD_lt (by omega) true false]; exact hl)
            rw [hu] at hs1
            cases l1 with
            | nil => simp at hs1; omega
            | cons x l1 =>
              simp at hs1
              have := (hs3 x (by simp)).1
              omega
        rw [hr] at this; cases this
    · obtain ⟨h0, o, ho, hall'⟩ := mem_ready.1 hj
      have hjs : j < ops.size := (Array.getElem?_eq_some_iff.1 ho).1
      obtain ⟨l1, l2, hs1, hs2, hs3⟩ := unl_split (ops := ops) hs hjs h0
      have hfront : wpLx P ops S Q (j :: (l1 ++ l2)) a w := by
        refine wpLx_front hns l1 (fun i hi => ?_) hS (hs1 ▸ h)
        obtain ⟨hij, hiu⟩ := hs3 i hi
        have := (hall j hjs).2 i hij
        rw [Bool.or_eq_true] at this
        rcases this with hb | hb
        · have hl := mask_listed hmask hc (j + 1) j o (by omega) ho hall' i hij hb
          rw [getD_lt (by omega) false true, hiu] at hl; cases hl
        · exact hb
      have hlen : (unl ops (listed.setIfInBounds j true)).length = n := by
        rw [hs2]; rw [hs1] at hn; simp at hn ⊢; omega
      have hs' : (listed.setIfInBounds j true).size = ops.size := by simpa using hs
      have hc' : Closed ops (listed.setIfInBounds j true) := by
        intro m om hm hl e he hb
        by_cases hmj : m = j
        · subst hmj
          rw [ho] at hm; cases hm
          exact getD_set_true (hall' e he hb)
        · rw [getD_set_ne false (Ne.symm hmj)] at hl
          exact getD_set_true (hc m om hm hl e he hb)
      rw [← hs2] at hfront
      unfold wpLx at hfront
      simp only [ho] at hfront
      rcases hfront with ⟨v, hy, hk⟩ | ⟨_, hw, hk⟩
      · exact hy.wpOp ho hS (ih _ _ _ hlen hs' hc' hS hk)
      · unfold wpOp
        simp only [ho, hw, if_true]
        refine .inl ?_
        have h2 := Oper.wp_mono (K' := wpAny P .any ops Q n (listed.setIfInBounds j true)) (fun a' w' hk => ih _ a' w' hlen hs' hc' hk.1 hk.2) hk
        -- the empty exit serves every exit
        unfold Oper.wp at h2 ⊢
        generalize (execOp a.eval o).run P w = r at *
        cases r with
        | ok nx w' =>
          cases nx <;> simp only [Oper.upon] at h2 ⊢ <;> first
            | exact h2
            | exact Calls.mono h2 (fun e w'' he => by
                cases e with
                | returned v => exact he
                | panicked c => exact he.elim
                | outgrown => obtain ⟨_, _, he⟩ := he; exact he.elim)
        | halt x w' => cases x <;> simp only [Oper.upon] at h2 ⊢ <;> first | exact h2 | exact h2.elim

/-! ### The walk -/

/-- The walk in the order of the text. -/
def wpLex (P : Program) (ops : Array Oper) (S : World → Prop) (Q : Exit → Act → World → Prop) : List Oper → Act → World → Prop
  | [], a, w => Q .normal a w
  | o :: r, a, w => (∃ v, YieldsIf P ops S o v a ∧ wpLex P ops S Q r (a.put o.dst v) w) ∨
      (chainK o.op = true ∧ Region.wanted o (yielded ops a.tmps) = true ∧ o.wp P a w (fun a' w' => S w' ∧ wpLex P ops S Q r a' w') NoExit)

theorem lx_of_lex : ∀ (l : List Oper) (k : Nat) (a : Act) (w : World), (∀ j, l[j]? = ops[k + j]?) → wpLex P ops S Q l a w → wpLx P ops S Q (List.range' k l.length) a w
  | [], _, _, _, _, h => h
  | o :: l, k, a, w, hl, h => by
    have h0 : ops[k]? = some o := by simpa using (hl 0).symm
    have ih := fun a w => lx_of_lex l (k + 1) a w (fun j => by have := hl (j + 1); simpa [Nat.add_assoc, Nat.add_comm 1 j] using this)
    simp only [List.length_cons, List.range'_succ]
    unfold wpLx
    simp only [h0]
    rcases h with ⟨v, h1, h2⟩ | ⟨h1, h2, h3⟩
    · exact .inl ⟨v, h1, ih _ _ h2⟩
    · exact .inr ⟨h1, h2, Oper.wp_mono (fun a' w' hk => ⟨hk.1, ih _ _ hk.2⟩) h3⟩

/-- A region that draws its order goes by one walk in the order of the text. -/
theorem wp_region_lex {id : Nat} {l : List Oper} {a : Act} {w : World} (S : World → Prop) (hm : P.follows .mixedOrders = true) (hB : lexOk l.toArray = true) (hS : S w.drew)
    (h : wpLex P l.toArray S Q l a w.drew) : (Code.region id l.toArray true).wp P Q a w := by
  refine wp_region_any hm ?_
  have hu : unl l.toArray (Array.replicate l.toArray.size false) = List.range l.toArray.size := by
    unfold unl
    refine List.filter_eq_self.2 fun i hi => ?_
    have := List.mem_range.1 hi
    simp at this
    simp [this]
  refine wpAny_of_lx (S := S) hB _ _ _ _ (by rw [hu]; simp) (by simp) ?_ hS ?_
  · intro j o ho hl
    have : j < l.length := by have := (Array.getElem?_eq_some_iff.1 ho).1; simpa using this
    simp [this] at hl
  · rw [hu]
    have := lx_of_lex (P := P) (ops := l.toArray) (S := S) (Q := Q) l 0 a w.drew (by simp) h
    simpa [List.range_eq_range'] using this

section
variable {o : Oper} {r : List Oper} {a : Act} {w : World}
theorem lex_nil (h : Q .normal a w) : wpLex P ops S Q [] a w := h
/-- The guard says no. -/
theorem lex_skip (hw : Region.wanted o (yielded ops a.tmps) = false) (h : wpLex P ops S Q r (a.put o.dst undef) w) : wpLex P ops S Q (o :: r) a w := .inl ⟨undef, .inr ⟨hw, rfl⟩, h⟩
/-- It reads. -/
theorem lex_read {v : Value} (hw : Region.wanted o (yielded ops a.tmps) = true) (hv : ∀ w', S w' → (execOp a.eval o).run P w' = .ok (.value v) w') (h : wpLex P ops S Q r (a.put o.dst v) w) : wpLex P ops S Q (o :: r) a w := .inl ⟨v, .inl ⟨hw, hv⟩, h⟩
/-- It may change the world. -/
theorem lex_chain (hc : chainK o.op = true) (hw : Region.wanted o (yielded ops a.tmps) = true) (h : ∀ K : Act → World → Prop, Hid (∀ a' w', S w' → wpLex P ops S Q r a' w' → K a' w') → o.wp P a w K NoExit) : wpLex P ops S Q (o :: r) a w :=
  .inr ⟨hc, hw, h _ fun _ _ h1 h2 => ⟨h1, h2⟩⟩
end
end
end Go.CH
namespace Go.CH
open Go.RowKit
section
variable {P : Program} {ops : Array Oper} {Ts : List Nat} {St : Nat → World → Prop} {Q : Exit → Act → World → Prop}

/-- The stage in which a reading operation may run at the latest. -/
def lvl (ops : Array Oper) (Ts : List Nat) (i : Nat) : Nat := (Ts.filter fun T => decide (T < i) || !((Region.before ops).getD T 0).testBit i).length
/-- The stage behind a changing operation. -/
def chl (Ts : List Nat) (i : Nat) : Nat := (Ts.filter fun T => decide (T ≤ i)).length
/-- The walk in the order of a list of indexes. -/
def wpLw (P : Program) (ops : Array Oper) (Ts : List Nat) (St : Nat → World → Prop) (Q : Exit → Act → World → Prop) : List Nat → Act → World → Prop
  | [], a, w => Q .normal a w
  | i :: r, a, w => match ops[i]? with
    | none => wpLw P ops Ts St Q r a w
    | some o => (chainK o.op = false ∧ ∃ v, YieldsIf P ops (St (lvl ops Ts i)) o v a ∧ wpLw P ops Ts St Q r (a.put o.dst v) w) ∨
      (chainK o.op = true ∧ Region.wanted o (yielded ops a.tmps) = true ∧ o.wp P a w (fun a' w' => St (chl Ts i) w' ∧ wpLw P ops Ts St Q r a' w') NoExit)
def isChain (ops : Array Oper) (i : Nat) : Bool := match ops[i]? with | some o => chainK o.op | none => false
/-- The stages fit the order. -/
def lvOk (ops : Array Oper) (Ts : List Nat) : Bool :=
  (List.range ops.size).all fun j => (List.range j).all fun i =>
    (!isChain ops i || (if isChain ops j then decide (chl Ts i ≤ chl Ts j) else decide (chl Ts i ≤ lvl ops Ts j))) &&
    (isChain ops i || !isChain ops j || ((Region.before ops).getD j 0).testBit i || decide (chl Ts j ≤ lvl ops Ts i))
theorem st_mono {St : Nat → World → Prop} (hst : ∀ c w, St c w → St (c + 1) w) {a b : Nat} (h : a ≤ b) {w : World} (hw : St a w) : St b w := by
  induction h with
  | refl => exact hw
  | step _ ih => exact hst _ _ ih
theorem wpLw_swap (hns : Region.noSelect ops = true) {i j : Nat} {r : List Nat} {a : Act} {w : World} (hok : swapOk ops i j = true) (hS : isChain ops j = false → St (lvl ops Ts j) w)
    (hw : ∀ w, isChain ops i = true → isChain ops j = false → St (chl Ts i) w → St (lvl ops Ts j) w) (h : wpLw P ops Ts St Q (i :: j :: r) a w) : wpLw P ops Ts St Q (j :: i :: r) a w := by
  unfold swapOk at hok
  cases hi : ops[i]? with
  | none => simp [hi] at hok
  | some oi =>
  cases hj : ops[j]? with
  | none => simp [hj] at hok
  | some oj =>
  have ei : isChain ops i = chainK oi.op := by simp [isChain, hi]
  have ej : isChain ops j = chainK oj.op := by simp [isChain, hj]
  simp only [hi, hj, Bool.and_eq_true, Bool.not_eq_true', Bool.and_eq_false_iff] at hok
  obtain ⟨hch, hap⟩ := hok
  have hsi := fun cs b => Region.noSelect_spec hns i oi cs b hi
  have hsj := fun cs b => Region.noSelect_spec hns j oj cs b hj
  obtain ⟨h1, h2, h3⟩ := Oper.apart_spec hap
  simp only [wpLw, hi, hj] at h ⊢
  rcases h with ⟨hci, v, hy, ⟨hcj, u, hy2, hr⟩ | ⟨hcj, hwt, hr⟩⟩ | ⟨hci, hwt, hr⟩
  · exact .inl ⟨hcj, u, yi_back hsj h1 hy2, .inl ⟨hci, v, yi_forth hsi h3 hy, by rw [← Act.put_comm a v u h2]; exact hr⟩⟩
  · refine .inr ⟨hcj, by rw [← hwt]; exact (wanted_put oj a oi.dst v h1).symm, ?_⟩
    refine Oper.wp_mono (fun a' w' hk => ?_) (wp_swap_rc (S := St (lvl ops Ts i)) hsi hsj hap hy hr)
    exact ⟨hk.2.1, .inl ⟨hci, v, hk.1, hk.2.2⟩⟩
  · have hcj : chainK oj.op = false := by
      rcases hch with e | e
      · rw [hci] at e; cases e
      · exact e
    have hSj := hS (by rw [ej]; exact hcj)
    have hr' : oi.wp P a w (fun a' w' => St (lvl ops Ts j) w' ∧ ∃ u, YieldsIf P ops (St (lvl ops Ts j)) oj u a' ∧ (St (chl Ts i) w' ∧ wpLw P ops Ts St Q r (a'.put oj.dst u) w')) NoExit := by
      refine Oper.wp_mono (fun a' w' hk => ⟨hw w' (by rw [ei]; exact hci) (by rw [ej]; exact hcj) hk.1, ?_⟩) hr
      rcases hk.2 with ⟨_, u, hu1, hu2⟩ | ⟨e, _⟩
      · exact ⟨u, hu1, hk.1, hu2⟩
      · rw [hcj] at e; cases e
    obtain ⟨u, hy, hk⟩ := wp_swap_cr (K := fun a' w' => St (chl Ts i) w' ∧ wpLw P ops Ts St Q r a' w') hsi hsj hap hSj hr'
    refine .inl ⟨hcj, u, hy, .inr ⟨hci, ?_, Oper.wp_mono (fun a' w' hk => hk.2) hk⟩⟩
    rw [wanted_put oi a oj.dst u h3]; exact hwt
theorem wpLw_front (hns : Region.noSelect ops = true) {j : Nat} {r : List Nat} : ∀ (l : List Nat) {a : Act} {w : World}, (∀ i ∈ l, swapOk ops i j = true) → (isChain ops j = false → St (lvl ops Ts j) w) →
    (∀ i ∈ l, ∀ w, isChain ops i = true → isChain ops j = false → St (chl Ts i) w → St (lvl ops Ts j) w) → wpLw P ops Ts St Q (l ++ j :: r) a w → wpLw P ops Ts St Q (j :: (l ++ r)) a w
  | [], _, _, _, _, _, h => h
  | i :: l, a, w, hok, hS, hst, h => by
    refine wpLw_swap hns (hok i (by simp)) hS (hst i (by simp)) ?_
    have ih := fun {a : Act} {w : World} (hS : isChain ops j = false → St (lvl ops Ts j) w) => wpLw_front hns (r := r) l (a := a) (w := w) (fun i hi => hok i (by simp [hi])) hS (fun i hi => hst i (by simp [hi]))
    rw [List.cons_append] at h
    unfold wpLw at h ⊢
    cases ho : ops[i]? with
    | none => simp only [ho] at h ⊢; exact ih hS h
    | some o =>
      have ei : isChain ops i = chainK o.op := by simp [isChain, ho]
      simp only [ho] at h ⊢
      rcases h with ⟨h0, v, h1, h2⟩ | ⟨h1, h2, h3⟩
      · exact .inl ⟨h0, v, h1, ih hS h2⟩
      · exact .inr ⟨h1, h2, Oper.wp_mono (fun a w h => ⟨h.1, ih (fun hj => hst i (by simp) _ (by rw [ei]; exact h1) hj h.1) h.2⟩) h3⟩
/-- How far the stages have come. -/
def Come (ops : Array Oper) (Ts : List Nat) (St : Nat → World → Prop) (listed : Array Bool) (w : World) : Prop :=
  ∃ c, St c w ∧ ∀ i, i < ops.size → listed.getD i true = false → if isChain ops i then c ≤ chl Ts i else c ≤ lvl ops Ts i
theorem wpAny_of_lw (hst : ∀ c w, St c w → St (c + 1) w) (hB : lexOk ops = true) (hL : lvOk ops Ts = true) : ∀ (n : Nat) (listed : Array Bool) (a : Act) (w : World), (unl ops listed).length = n → listed.size = ops.size → Closed ops listed → Come ops Ts St listed w → wpLw P ops Ts St Q (unl ops listed) a w → wpAny P .any ops Q n listed a w := by
  have hB' := hB
  simp only [lexOk, Bool.and_eq_true, List.all_eq_true, List.mem_range] at hB'
  obtain ⟨⟨hns, hmask⟩, hall⟩ := hB'
  intro n
  induction n with
  | zero =>
    intro listed a w hn hs hc hS h
    have hnil : unl ops listed = [] := List.eq_nil_of_length_eq_zero hn
    rw [hnil] at h
    refine ⟨?_, h⟩
    cases hr : Region.ready .any ops listed with
    | nil => rfl
    | cons j r =>
      have hj : j ∈ Region.ready .any ops listed := by rw [hr]; simp
      obtain ⟨h0, o, ho, _⟩ := mem_ready.1 hj
      have : j ∈ unl ops listed := by
        unfold unl; rw [List.mem_filter, List.mem_range]
        exact ⟨(Array.getElem?_eq_some_iff.1 ho).1, by simp [h0]⟩
      rw [hnil] at this; cases this
  | succ n ih =>
    intro listed a w hn hs hc hS h
    refine ⟨fun hr => ?_, fun j hj => ?_⟩
    · -- the first that is not listed is ready
      cases hu : unl ops listed with
      | nil => rw [hu] at hn; simp at hn
      | cons k r =>
        exfalso
        have hk : k ∈ unl ops listed := by rw [hu]; simp
        unfold unl at hk
        rw [List.mem_filter, List.mem_range] at hk
        obtain ⟨hk1, hk2⟩ := hk
        have hk2 : listed.getD k true = false := by simpa using hk2
        have ho : ops[k]? = some ops[k] := Array.getElem?_eq_getElem hk1
        have hd := (hall k hk1).1
        simp only [ho] at hd
        have : k ∈ Region.ready .any ops listed := by
          rw [mem_ready]
          refine ⟨hk2, _, ho, fun e he hb => ?_⟩
          have h1 := Array.all_eq_true_iff_forall_mem.1 hd e he
          simp only [hb, Bool.not_true, Bool.false_or, decide_eq_true_eq] at h1
          cases hl : listed.getD e.on false with
          | true => rfl
          | false =>
            exfalso
            obtain ⟨l1, l2, hs1, _, hs3⟩ := unl_split (ops := ops) (j := e.on) hs (by omega) (by rw [getD_lt (by omega) true false]; exact hl)
            rw [hu] at hs1
            cases l1 with
            | nil => simp at hs1; omega
            | cons x l1 =>
              simp at hs1
              have := (hs3 x (by simp)).1
              omega
        rw [hr] at this; cases this
    · obtain ⟨h0, o, ho, hall'⟩ := mem_ready.1 hj
      have hjs : j < ops.size := (Array.getElem?_eq_some_iff.1 ho).1
      obtain ⟨l1, l2, hs1, hs2, hs3⟩ := unl_split (ops := ops) hs hjs h0
      obtain ⟨c, hc1, hc2⟩ := hS
      have ej : isChain ops j = chainK o.op := by simp [isChain, ho]
      have hl1 : ∀ i k, i < k → k < ops.size → isChain ops i = true → isChain ops k = false → chl Ts i ≤ lvl ops Ts k := fun i k hik hk e1 e2 => by
        have := hL
        simp only [lvOk, List.all_eq_true, List.mem_range] at this
        have := this k hk i hik
        simp [e1, e2] at this; exact this
      have hl2 : ∀ i k, i < k → k < ops.size → isChain ops i = true → isChain ops k = true → chl Ts i ≤ chl Ts k := fun i k hik hk e1 e2 => by
        have := hL
        simp only [lvOk, List.all_eq_true, List.mem_range] at this
        have := this k hk i hik
        simp [e1, e2] at this; exact this
      have hl3 : ∀ i k, i < k → k < ops.size → isChain ops i = false → isChain ops k = true → ((Region.before ops).getD k 0).testBit i = false → chl Ts k ≤ lvl ops Ts i := fun i k hik hk e1 e2 e3 => by
        have := hL
        simp only [lvOk, List.all_eq_true, List.mem_range] at this
        have := this k hk i hik
        have e4 := e3
        simp at e4
        simp [e1, e2, e4] at this; exact this
      have hSj : isChain ops j = false → St (lvl ops Ts j) w := fun e => by
        have := hc2 j hjs h0
        rw [e] at this
        exact st_mono hst (by simpa using this) hc1
      have hfront : wpLw P ops Ts St Q (j :: (l1 ++ l2)) a w := by
        refine wpLw_front hns l1 (fun i hi => ?_) hSj (fun i hi w hci hcj hw => ?_) (hs1 ▸ h)
        · obtain ⟨hij, hiu⟩ := hs3 i hi
          have := (hall j hjs).2 i hij
          rw [Bool.or_eq_true] at this
          rcases this with hb | hb
          · have hl := mask_listed hmask hc (j + 1) j o (by omega) ho hall' i hij hb
            rw [getD_lt (by omega) false true, hiu] at hl; cases hl
          · exact hb
        · obtain ⟨hij, _⟩ := hs3 i hi
          exact st_mono hst (hl1 i j hij hjs hci hcj) hw
      have hlen : (unl ops (listed.setIfInBounds j true)).length = n := by
        rw [hs2]; rw [hs1] at hn; simp at hn ⊢; omega
      have hs' : (listed.setIfInBounds j true).size = ops.size := by simpa using hs
      have hc' : Closed ops (listed.setIfInBounds j true) := by
        intro m om hm hl e he hb
        by_cases hmj : m = j
        · subst hmj
          rw [ho] at hm; cases hm
          exact getD_set_true (hall' e he hb)
        · rw [getD_set_ne false (Ne.symm hmj)] at hl
          exact getD_set_true (hc m om hm hl e he hb)
      have hsub : ∀ i, (listed.setIfInBounds j true).getD i true = false → i ≠ j ∧ listed.getD i true = false := fun i hi => by
        by_cases e : j = i
        · subst e; simp at hi
        · rw [getD_set_ne true e] at hi; exact ⟨fun e' => e e'.symm, hi⟩
      have hnext : chainK o.op = true → ∀ w', St (chl Ts j) w' → Come ops Ts St (listed.setIfInBounds j true) w' := fun hck w' hw' => by
        refine ⟨_, hw', fun i hi hiu => ?_⟩
        obtain ⟨hne, hiu⟩ := hsub i hiu
        have hun : i < j → ((Region.before ops).getD j 0).testBit i = false := fun hij => by
          cases hb : ((Region.before ops).getD j 0).testBit i with
          | false => rfl
          | true =>
            have hl := mask_listed hmask hc (j + 1) j o (by omega) ho hall' i hij hb
            rw [getD_lt (by omega) false true, hiu] at hl; cases hl
        have hcj : isChain ops j = true := by rw [ej]; exact hck
        rcases Nat.lt_or_ge i j with hij | hij
        · cases hci : isChain ops i with
          | true =>
            have := (hall j hjs).2 i hij
            rw [hun hij, Bool.false_or] at this
            exfalso
            unfold swapOk at this
            have ho' : ops[i]? = some ops[i] := Array.getElem?_eq_getElem hi
            simp only [isChain, ho'] at hci
            simp [ho', ho, hci, hck] at this
          | false => simpa using hl3 i j hij hjs hci hcj (hun hij)
        · cases hci : isChain ops i with
          | true => simpa using hl2 j i (by omega) hi hcj hci
          | false => simpa using hl1 j i (by omega) hi hcj hci
      have hstay : Come ops Ts St (listed.setIfInBounds j true) w := ⟨c, hc1, fun i hi hiu => hc2 i hi (hsub i hiu).2⟩
      rw [← hs2] at hfront
      unfold wpLw at hfront
      simp only [ho] at hfront
      rcases hfront with ⟨hcf, v, hy, hk⟩ | ⟨hck, hw, hk⟩
      · exact hy.wpOp ho (hSj (by rw [ej]; exact hcf)) (ih _ _ _ hlen hs' hc' hstay hk)
      · unfold wpOp
        simp only [ho, hw, if_true]
        refine .inl ?_
        have h2 := Oper.wp_mono (K' := wpAny P .any ops Q n (listed.setIfInBounds j true)) (fun a' w' hk => ih _ a' w' hlen hs' hc' (hnext hck w' hk.1) hk.2) hk
        -- the empty exit serves every exit
        unfold Oper.wp at h2 ⊢
        generalize (execOp a.eval o).run P w = r at *
        cases r with
        | ok nx w' =>
          cases nx <;> simp only [Oper.upon] at h2 ⊢ <;> first
            | exact h2
            | exact Calls.mono h2 (fun e w'' he => by
                cases e with
                | returned v => exact he
                | panicked c => exact he.elim
                | outgrown => obtain ⟨_, _, he⟩ := he; exact he.elim)
        | halt x w' => cases x <;> simp only [Oper.upon] at h2 ⊢ <;> first | exact h2 | exact h2.elim


/-! ### The walk: four stages -/
def stg4 (S0 S1 S2 S3 : World → Prop) : Nat → World → Prop
  | 0 => S0
  | 1 => S1
  | 2 => S2
  | _ => S3
variable {S0 S1 S2 S3 : World → Prop}
theorem stg4_mono (h0 : ∀ w, S0 w → S1 w) (h1 : ∀ w, S1 w → S2 w) (h2 : ∀ w, S2 w → S3 w) : ∀ c w, stg4 S0 S1 S2 S3 c w → stg4 S0 S1 S2 S3 (c + 1) w
  | 0, w, h => h0 w h
  | 1, w, h => h1 w h
  | 2, w, h => h2 w h
  | _ + 3, w, h => h
/-- An operation's stage. -/
def lev (ops : Array Oper) (Ts : List Nat) (i : Nat) : Nat := if isChain ops i then chl Ts i else lvl ops Ts i
/-- All operations' stages. -/
def levs (ops : Array Oper) (Ts : List Nat) : List Nat := (List.range ops.size).map (lev ops Ts)
/-- The walk in the order of the text; ahead: the stages of the operations that lie ahead. -/
def wpLew (P : Program) (ops : Array Oper) (S0 S1 S2 S3 : World → Prop) (Q : Exit → Act → World → Prop) : List Nat → List Oper → Act → World → Prop
  | _, [], a, w => Q .normal a w
  | [], _ :: _, _, _ => False
  | n :: lv, o :: r, a, w => (chainK o.op = false ∧ ∃ v, YieldsIf P ops (stg4 S0 S1 S2 S3 n) o v a ∧ wpLew P ops S0 S1 S2 S3 Q lv r (a.put o.dst v) w) ∨
      (chainK o.op = true ∧ Region.wanted o (yielded ops a.tmps) = true ∧ o.wp P a w (fun a' w' => stg4 S0 S1 S2 S3 n w' ∧ wpLew P ops S0 S1 S2 S3 Q lv r a' w') NoExit)
theorem lw_of_lew : ∀ (l : List Oper) (lv : List Nat) (k : Nat) (a : Act) (w : World), (∀ j, l[j]? = ops[k + j]?) → (∀ j, j < l.length → lv[j]? = some (lev ops Ts (k + j))) → wpLew P ops S0 S1 S2 S3 Q lv l a w → wpLw P ops Ts (stg4 S0 S1 S2 S3) Q (List.range' k l.length) a w
  | [], lv, _, _, _, _, _, h => by cases lv <;> exact h
  | o :: l, [], k, a, w, hl, hv, h => h.elim
  | o :: l, n :: lv, k, a, w, hl, hv, h => by
    have h0 : ops[k]? = some o := by simpa using (hl 0).symm
    have hn : n = lev ops Ts k := by have := hv 0 (by simp); simpa using this
    have ei : isChain ops k = chainK o.op := by simp [isChain, h0]
    have ih := fun a w => lw_of_lew l lv (k + 1) a w (fun j => by have := hl (j + 1); simpa [Nat.add_assoc, Nat.add_comm 1 j] using this)
      (fun j hj => by have := hv (j + 1) (by simpa using hj); simpa [Nat.add_assoc, Nat.add_comm 1 j] using this)
    simp only [List.length_cons, List.range'_succ]
    unfold wpLw
    simp only [h0]
    unfold lev at hn
    rcases h with ⟨h0, v, h1, h2⟩ | ⟨h1, h2, h3⟩
    · rw [ei, h0] at hn
      have hn : n = lvl ops Ts k := by simpa using hn
      subst hn
      exact .inl ⟨h0, v, h1, ih _ _ h2⟩
    · rw [ei, h1] at hn
      have hn : n = chl Ts k := by simpa using hn
      subst hn
      exact .inr ⟨h1, h2, Oper.wp_mono (fun a' w' hk => ⟨hk.1, ih _ _ hk.2⟩) h3⟩
theorem wp_region_lew {id : Nat} {l : List Oper} {a : Act} {w : World} (Ts lv : List Nat) (S0 S1 S2 S3 : World → Prop) (h0 : ∀ w, S0 w → S1 w) (h1 : ∀ w, S1 w → S2 w) (h2 : ∀ w, S2 w → S3 w) (hm : P.follows .mixedOrders = true) (hB : lexOk l.toArray = true) (hL : lvOk l.toArray Ts = true) (hlv : levs l.toArray Ts = lv) (hS : S0 w.drew)
    (h : wpLew P l.toArray S0 S1 S2 S3 Q lv l a w.drew) : (Code.region id l.toArray true).wp P Q a w := by
  refine wp_region_any hm ?_
  have hu : unl l.toArray (Array.replicate l.toArray.size false) = List.range l.toArray.size := by
    unfold unl
    refine List.filter_eq_self.2 fun i hi => ?_
    have := List.mem_range.1 hi
    simp at this
    simp [this]
  refine wpAny_of_lw (Ts := Ts) (St := stg4 S0 S1 S2 S3) (stg4_mono h0 h1 h2) hB hL _ _ _ _ (by rw [hu]; simp) (by simp) ?_ ⟨0, hS, fun i _ _ => by split <;> omega⟩ ?_
  · intro j o ho hl
    have : j < l.length := by have := (Array.getElem?_eq_some_iff.1 ho).1; simpa using this
    simp [this] at hl
  · rw [hu]
    have := lw_of_lew (P := P) (ops := l.toArray) (Ts := Ts) (S0 := S0) (S1 := S1) (S2 := S2) (S3 := S3) (Q := Q) l lv 0 a w.drew (by simp) (fun j hj => by
      rw [← hlv]; unfold levs; rw [List.getElem?_map, List.getElem?_range (by simpa using hj)]; simp) h
    simpa [List.range_eq_range'] using this
section
variable {o : Oper} {r : List Oper} {n : Nat} {lv : List Nat} {a : Act} {w : World}
theorem lew_nil (h : Q .normal a w) : wpLew P ops S0 S1 S2 S3 Q lv [] a w := by cases lv <;> exact h
theorem lew_skip (hc : chainK o.op = false) (hw : Region.wanted o (yielded ops a.tmps) = false) (h : wpLew P ops S0 S1 S2 S3 Q lv r (a.put o.dst undef) w) : wpLew P ops S0 S1 S2 S3 Q (n :: lv) (o :: r) a w := .inl ⟨hc, undef, .inr ⟨hw, rfl⟩, h⟩
theorem lew_read0 {v : Value} (hc : chainK o.op = false) (hw : Region.wanted o (yielded ops a.tmps) = true) (hv : ∀ w', S0 w' → (execOp a.eval o).run P w' = .ok (.value v) w') (h : wpLew P ops S0 S1 S2 S3 Q lv r (a.put o.dst v) w) : wpLew P ops S0 S1 S2 S3 Q (0 :: lv) (o :: r) a w :=
  .inl ⟨hc, v, .inl ⟨hw, hv⟩, h⟩
theorem lew_read1 {v : Value} (hc : chainK o.op = false) (hw : Region.wanted o (yielded ops a.tmps) = true) (hv : ∀ w', S1 w' → (execOp a.eval o).run P w' = .ok (.value v) w') (h : wpLew P ops S0 S1 S2 S3 Q lv r (a.put o.dst v) w) : wpLew P ops S0 S1 S2 S3 Q (1 :: lv) (o :: r) a w :=
  .inl ⟨hc, v, .inl ⟨hw, hv⟩, h⟩
theorem lew_read2 {v : Value} (hc : chainK o.op = false) (hw : Region.wanted o (yielded ops a.tmps) = true) (hv : ∀ w', S2 w' → (execOp a.eval o).run P w' = .ok (.value v) w') (h : wpLew P ops S0 S1 S2 S3 Q lv r (a.put o.dst v) w) : wpLew P ops S0 S1 S2 S3 Q (2 :: lv) (o :: r) a w :=
  .inl ⟨hc, v, .inl ⟨hw, hv⟩, h⟩
theorem lew_read3 {v : Value} (hc : chainK o.op = false) (hw : Region.wanted o (yielded ops a.tmps) = true) (hv : ∀ w', S3 w' → (execOp a.eval o).run P w' = .ok (.value v) w') (h : wpLew P ops S0 S1 S2 S3 Q lv r (a.put o.dst v) w) : wpLew P ops S0 S1 S2 S3 Q (3 :: lv) (o :: r) a w :=
  .inl ⟨hc, v, .inl ⟨hw, hv⟩, h⟩
theorem lew_chain0 (hc : chainK o.op = true) (hw : Region.wanted o (yielded ops a.tmps) = true) (h : ∀ K : Act → World → Prop, Hid (∀ a' w', S0 w' → wpLew P ops S0 S1 S2 S3 Q lv r a' w' → K a' w') → o.wp P a w K NoExit) : wpLew P ops S0 S1 S2 S3 Q (0 :: lv) (o :: r) a w :=
  .inr ⟨hc, hw, h _ fun _ _ h1 h2 => ⟨h1, h2⟩⟩
theorem lew_chain1 (hc : chainK o.op = true) (hw : Region.wanted o (yielded ops a.tmps) = true) (h : ∀ K : Act → World → Prop, Hid (∀ a' w', S1 w' → wpLew P ops S0 S1 S2 S3 Q lv r a' w' → K a' w') → o.wp P a w K NoExit) : wpLew P ops S0 S1 S2 S3 Q (1 :: lv) (o :: r) a w :=
  .inr ⟨hc, hw, h _ fun _ _ h1 h2 => ⟨h1, h2⟩⟩
theorem lew_chain2 (hc : chainK o.op = true) (hw : Region.wanted o (yielded ops a.tmps) = true) (h : ∀ K : Act → World → Prop, Hid (∀ a' w', S2 w' → wpLew P ops S0 S1 S2 S3 Q lv r a' w' → K a' w') → o.wp P a w K NoExit) : wpLew P ops S0 S1 S2 S3 Q (2 :: lv) (o :: r) a w :=
  .inr ⟨hc, hw, h _ fun _ _ h1 h2 => ⟨h1, h2⟩⟩
theorem lew_chain3 (hc : chainK o.op = true) (hw : Region.wanted o (yielded ops a.tmps) = true) (h : ∀ K : Act → World → Prop, Hid (∀ a' w', S3 w' → wpLew P ops S0 S1 S2 S3 Q lv r a' w' → K a' w') → o.wp P a w K NoExit) : wpLew P ops S0 S1 S2 S3 Q (3 :: lv) (o :: r) a w :=
  .inr ⟨hc, hw, h _ fun _ _ h1 h2 => ⟨h1, h2⟩⟩
theorem lew_read4 {v : Value} (hc : chainK o.op = false) (hw : Region.wanted o (yielded ops a.tmps) = true) (hv : ∀ w', S3 w' → (execOp a.eval o).run P w' = .ok (.value v) w') (h : wpLew P ops S0 S1 S2 S3 Q lv r (a.put o.dst v) w) : wpLew P ops S0 S1 S2 S3 Q (4 :: lv) (o :: r) a w :=
  .inl ⟨hc, v, .inl ⟨hw, hv⟩, h⟩
theorem lew_chain4 (hc : chainK o.op = true) (hw : Region.wanted o (yielded ops a.tmps) = true) (h : ∀ K : Act → World → Prop, Hid (∀ a' w', S3 w' → wpLew P ops S0 S1 S2 S3 Q lv r a' w' → K a' w') → o.wp P a w K NoExit) : wpLew P ops S0 S1 S2 S3 Q (4 :: lv) (o :: r) a w :=
  .inr ⟨hc, hw, h _ fun _ _ h1 h2 => ⟨h1, h2⟩⟩
end
end
end Go.CH
namespace Go.Proofs.Ytapabbpdfplpoaa
open Go.RowKit Go.CH Go.CH.Esc
open Go.ChangeMaps (setBlock)

set_option maxHeartbeats 400000 in
theorem line_nil (f t : Int) (w : World) : Calls Try.prog 68 #[.pointer none, .int .i64 f, .int .i64 t] w (Quiet w (.pointer none)) := by
  go_enter Try.func68, Try.ntmps68
  go_wp2
  go_ret
  exact ⟨rfl, rfl⟩
def lineV (g : GM) (s : EscP) (f t : Int) : Value := if g.pair f t = true then .pointer (some ⟨s.gp (f, t), 0, none⟩) else .pointer none
set_option maxHeartbeats 400000 in
theorem line_any {w : World} {g : GM} {p : Nat} {s : EscP} (h : EscR w g p s) (f t : Int) : Calls Try.prog 68 #[.pointer (some ⟨p, 0, none⟩), .int .i64 f, .int .i64 t] w (Quiet w (lineV g s f t)) := by
  have c1 := h.c1
  have hl := h.look f t
  rw [show (if g.pair f t = true then Value.pointer (some ⟨s.gp (f, t), 0, none⟩) else .pointer none) = lineV g s f t from rfl] at hl
  generalize lineV g s f t = v at hl
  clear h
  go_enter Try.func68, Try.ntmps68
  go_wp2
  go_ret
  exact ⟨rfl, rfl⟩
set_option maxHeartbeats 400000 in
theorem have_nil (r : Int) (w : World) : Calls Try.prog 26 #[.pointer none, .int .i64 r] w (Quiet w (.int .i64 0)) := by
  go_enter Try.func26, Try.ntmps26
  go_wp2_with fail
  refine (at_nil r w).mono ?_
  rintro e w' ⟨rfl, rfl⟩
  go_wp2
  go_ret
  exact ⟨rfl, rfl⟩
theorem atV_true {g : GM} {s : EscP} {r : Int} {b : Nat} (hb : s.A = some ⟨b, 0, none⟩) (hi : g.is r = true) : atV g s r = .pointer (some ⟨b, r.toNat * 3, none⟩) := by simp [atV, hi, hb]
theorem atV_false {g : GM} {s : EscP} {r : Int} (hi : g.is r = false) : atV g s r = .pointer none := by simp [atV, hi]
set_option maxHeartbeats 400000 in
theorem have_any {w : World} {g : GM} {p : Nat} {s : EscP} (h : EscR w g p s) (hn : 1 ≤ g.acc.length ∧ g.acc.length ≤ 8) (r : Int) : Calls Try.prog 26 #[.pointer (some ⟨p, 0, none⟩), .int .i64 r] w (Quiet w (.int .i64 (have_ g r))) := by
  obtain ⟨b, hb⟩ := h.addr (by omega)
  have KA := hide (at_any h hn r)
  cases hi : g.is r with
  | false =>
    rw [atV_false hi] at KA
    have hv := hide (show have_ g r = 0 by simp [have_, hi])
    clear h hi hb hn
    go_enter Try.func26, Try.ntmps26
    go_wp2_with fail
    refine KA.out.mono ?_
    rintro e w' ⟨rfl, rfl⟩
    go_wp2
    go_ret
    exact ⟨by rw [hv.out]; rfl, rfl⟩
  | true =>
    rw [atV_true hb hi] at KA
    have hv := hide (show have_ g r = (g.at_ r).u by simp [have_, hi])
    obtain ⟨a0, -, -⟩ := h.accs b hb r hi
    generalize (g.at_ r).u = u at a0 hv
    generalize r.toNat * 3 = k at a0 KA
    clear h hi hb hn
    go_enter Try.func26, Try.ntmps26
    go_wp2_with fail
    refine KA.out.mono ?_
    rintro e w' ⟨rfl, rfl⟩
    go_wp2
    go_ret
    exact ⟨by rw [hv.out]; rfl, rfl⟩

/-! ### Writing an account -/
theorem escS_setA {g : GM} {r : Int} {a : Acc} {p : Nat} {s : EscP} {w : World} {F : Nat → Prop}
    (h : star (CellO p #[.slice s.A g.acc.length s.c, .map (some s.bm)] 101) (star (RowO 103 3 (.slice s.A g.acc.length s.c) g.acc.length ((g.acc.set r.toNat a).flatMap accL))
      (star (MapO (pairV .i64) s.bm (ents g.acc.length s.gp)) (bigK (keys g.acc.length) fun k => LineO (g.pr k) (s.gp k)))) w F) : EscS (g.setA r a) p s w F := by
  unfold EscS
  simp only [setA_len]
  exact h
theorem setA_twice (g : GM) (r : Int) (a b : Acc) : (g.setA r a).setA r b = g.setA r b := by simp [GM.setA]
/-- One cell of an account is written. -/
theorem esc_acc {F0 : Nat → Prop} {w0 W : World} {g : GM} {p : Nat} {s : EscP} (h : Run F0 w0 (EscS g p s) W) {r : Int} (hr : g.is r = true) {b : Nat} (hb : s.A = some ⟨b, 0, none⟩) (j : Nat) (hj : j < 3) (v : Value) (a : Acc) (ha : (accL (g.at_ r)).set j v = accL a) :
    Run F0 w0 (EscS (g.setA r a) p s) (W.setCell ⟨b, r.toNat * 3 + j, none⟩ v) ∧ W.frozen? ⟨b, r.toNat * 3 + j, none⟩ = false := by
  have hl := (is_lt hr).2
  have h1 : Run F0 w0 (star (CellO p #[.slice s.A g.acc.length s.c, .map (some s.bm)] 101) (star (RowO 103 3 (.slice s.A g.acc.length s.c) g.acc.length (g.acc.flatMap accL))
    (star (MapO (pairV .i64) s.bm (ents g.acc.length s.gp)) (bigK (keys g.acc.length) fun k => LineO (g.pr k) (s.gp k))))) W := h
  obtain ⟨F, hR, -, hbk⟩ := h1.rot.take row_ok (star_ok cell_ok (star_ok map_ok (bigK_ok (fun _ => lineO_ok))))
  rw [hb] at hR
  have hi : r.toNat * 3 + j < g.acc.length * 3 := by omega
  have h2 := row_set hR hi v
  rw [flat_set accL 3 accL_len hl hj (x := a) (by rw [← at_get hr]; exact ha)] at h2
  refine ⟨(hbk _ _ (by rw [← hb] at h2; exact h2)).rot.imp fun w F h => escS_setA h, row_free hR _ (by omega)⟩
end Go.Proofs.Ytapabbpdfplpoaa
namespace Go.Proofs.Ytapabbpdfplpoaa
open Go.RowKit Go.CH Go.CH.Esc
open Go.ChangeMaps (setBlock)

/-- What a method of an escrow leaves. -/
def EPost (w : World) (F : Nat → Prop) (v : Value) (g : GM) (p : Nat) (e : Ending) (w' : World) : Prop := e = .returned v ∧ Post w F (EscO g p) w'
theorem EPost.quiet {w : World} {F : Nat → Prop} {g : GM} {p : Nat} (h : EscO g p w F) {v : Value} {e : Ending} {w' : World} (hq : Quiet w v e w') : EPost w F v g p e w' := by
  obtain ⟨h1, rfl⟩ := hq
  exact ⟨h1, F, h, Mod.refl _ _, fun i hi => .inl hi⟩
set_option maxHeartbeats 400000 in
theorem change_no {w : World} {v : Value} {r : Int} (hv : Calls Try.prog 66 #[v, .int .i64 r] w (Quiet w (.pointer none))) (d : Int) (fv : Value) :
    Calls Try.prog 72 #[v, .int .i64 r, .int .i64 d, fv] w (Quiet w (.int .i64 1)) := by
  have H := hide hv; clear hv
  go_enter Try.func72, Try.ntmps72
  go_wp2_with fail
  refine H.out.mono ?_
  rintro e w' ⟨rfl, rfl⟩
  go_wp2
  go_ret
  exact ⟨rfl, rfl⟩
set_option maxHeartbeats 400000 in
theorem change_may {w : World} {v : Value} {r : Int} {b k fm : Nat} (hv : Calls Try.prog 66 #[v, .int .i64 r] w (Quiet w (.pointer (some ⟨b, k, none⟩)))) (d em : Int) (hem : em ≠ 0)
    (hcf : ∀ args W, (callFunc fm args).run Try.prog W = .ok (.enter fm args) W) (hm : Calls Try.prog fm #[.pointer (some ⟨b, k, none⟩)] w (Quiet w (.int .i64 em))) :
    Calls Try.prog 72 #[v, .int .i64 r, .int .i64 d, .func (.func fm) #[] #[]] w (Quiet w (.int .i64 em)) := by
  have H := hide hv; have M := hide hm
  have h1 : (em == 0) = false := by simpa using hem
  have h2 : (em != 0) = true := by simpa using hem
  clear hv hm hem
  go_enter Try.func72, Try.ntmps72
  go_wp2_with fail
  refine H.out.mono ?_
  rintro e w' ⟨rfl, rfl⟩
  go_wp2_with fail
  refine M.out.mono ?_
  rintro e w' ⟨rfl, rfl⟩
  go_wp2
  go_ret
  exact ⟨rfl, rfl⟩
set_option maxHeartbeats 800000 in
theorem change_quota {w : World} {v : Value} {r : Int} {b k fm : Nat} (hv : Calls Try.prog 66 #[v, .int .i64 r] w (Quiet w (.pointer (some ⟨b, k, none⟩)))) (d u s : Int)
    (hcf : ∀ args W, (callFunc fm args).run Try.prog W = .ok (.enter fm args) W) (hm : Calls Try.prog fm #[.pointer (some ⟨b, k, none⟩)] w (Quiet w (.int .i64 0)))
    (cu : w.cell? ⟨b, k, none⟩ = some (.int .i64 u)) (cs : w.cell? ⟨b, k + 1, none⟩ = some (.int .i64 s)) (hu : 0 ≤ u ∧ u ≤ 1000000000) (hs : 0 ≤ s ∧ s ≤ 1000000000) (hd : -9223372036854775807 ≤ d ∧ d ≤ 9223372036854775807)
    (hq : u + d < 0 ∨ s - d < 0) :
    Calls Try.prog 72 #[v, .int .i64 r, .int .i64 d, .func (.func fm) #[] #[]] w (Quiet w (.int .i64 19)) := by
  have H := hide hv; have M := hide hm
  clear hv hm
  by_cases h1 : u + d < 0
  · clear hq
    go_enter Try.func72, Try.ntmps72
    go_wp2_with fail
    refine H.out.mono ?_
    rintro e w' ⟨rfl, rfl⟩
    go_wp2_with fail
    refine M.out.mono ?_
    rintro e w' ⟨rfl, rfl⟩
    go_wp2
    go_ret
    exact ⟨rfl, rfl⟩
  · have h2 : s - d < 0 := by omega
    clear hq
    by_cases h3 : u + d ≤ 9223372036854775807
    · go_enter Try.func72, Try.ntmps72
      go_wp2_with fail
      refine H.out.mono ?_
      rintro e w' ⟨rfl, rfl⟩
      go_wp2_with fail
      refine M.out.mono ?_
      rintro e w' ⟨rfl, rfl⟩
      go_wp2
      go_ret
      exact ⟨rfl, rfl⟩
    · have hw : decide (wrap64 (u + d) < 0) = true := by unfold wrap64; simp only [decide_eq_true_eq]; omega
      clear h1 h2 h3
      go_enter Try.func72, Try.ntmps72
      go_wp2_with fail
      refine H.out.mono ?_
      rintro e w' ⟨rfl, rfl⟩
      go_wp2_with fail
      refine M.out.mono ?_
      rintro e w' ⟨rfl, rfl⟩
      go_wp2
      go_ret
      exact ⟨rfl, rfl⟩
/-- Units and spent are written. -/
theorem esc_two {F0 : Nat → Prop} {w0 W : World} {g : GM} {p : Nat} {s : EscP} (h : Run F0 w0 (EscS g p s) W) {r : Int} (hr : g.is r = true) {b : Nat} (hb : s.A = some ⟨b, 0, none⟩) (u v : Int) :
    (W.frozen? ⟨b, r.toNat * 3, none⟩ = false ∧ (W.setCell ⟨b, r.toNat * 3, none⟩ (.int .i64 u)).frozen? ⟨b, r.toNat * 3 + 1, none⟩ = false) ∧
    Run F0 w0 (EscS (g.setA r { g.at_ r with u := u, s := v }) p s) ((W.setCell ⟨b, r.toNat * 3, none⟩ (.int .i64 u)).setCell ⟨b, r.toNat * 3 + 1, none⟩ (.int .i64 v)) := by
  obtain ⟨h1, h2⟩ := esc_acc h hr hb 0 (by omega) (.int .i64 u) { g.at_ r with u := u } rfl
  have hr' : (g.setA r { g.at_ r with u := u }).is r = true := by rw [setA_is]; exact hr
  obtain ⟨h3, h4⟩ := esc_acc h1 hr' hb 1 (by omega) (.int .i64 v) { g.at_ r with u := u, s := v } (by rw [setA_at hr _ r hr, if_pos rfl]; rfl)
  rw [setA_twice] at h3
  exact ⟨⟨h2, h4⟩, h3⟩
set_option maxRecDepth 100000 in
set_option maxHeartbeats 1600000 in
theorem change_ok {w : World} {F : Nat → Prop} {g : GM} {p : Nat} (h : EscO g p w F) (hn : 1 ≤ g.acc.length ∧ g.acc.length ≤ 8) {r : Int} (hr : g.is r = true) {fm : Nat} (d : Int)
    (hcf : ∀ args W, (callFunc fm args).run Try.prog W = .ok (.enter fm args) W) (hm : ∀ b, w.cell? ⟨b, r.toNat * 3 + 2, none⟩ = some (.bool (g.at_ r).rev) → Calls Try.prog fm #[.pointer (some ⟨b, r.toNat * 3, none⟩)] w (Quiet w (.int .i64 0)))
    (hu : 0 ≤ (g.at_ r).u ∧ (g.at_ r).u ≤ 1000000000) (hs : 0 ≤ (g.at_ r).s ∧ (g.at_ r).s ≤ 1000000000) (hd : -1000000000 ≤ d ∧ d ≤ 1000000000) (h0 : 0 ≤ (g.at_ r).u + d) (h1 : 0 ≤ (g.at_ r).s - d) :
    Calls Try.prog 72 #[.pointer (some ⟨p, 0, none⟩), .int .i64 r, .int .i64 d, .func (.func fm) #[] #[]] w (EPost w F (.int .i64 0) (g.setA r { g.at_ r with u := (g.at_ r).u + d, s := (g.at_ r).s - d }) p) := by
  obtain ⟨s, hS⟩ := h
  have hR := hS.read
  obtain ⟨b, hb⟩ := hR.addr (by omega)
  have KA := hide (at_any hR hn r)
  rw [atV_true hb hr] at KA
  obtain ⟨cu, cs, cr⟩ := hR.accs b hb r hr
  have KM := hide (hm b cr)
  have R1 := hide ((Run.start hS).drew escS_ok)
  obtain ⟨⟨z1, z2⟩, hfin⟩ := esc_two R1.out hr hb ((g.at_ r).u + d) ((g.at_ r).s - d)
  have HFIN := hide hfin
  generalize (g.at_ r).u = u at *
  generalize (g.at_ r).s = v at *
  generalize r.toNat * 3 = k at *
  clear hm hS hR hfin cr
  have t1 : IntKind.i64.wrap (u + d) = u + d := IntWalk.i64_in _ (by omega)
  have t2 : IntKind.i64.wrap (v - d) = v - d := IntWalk.i64_in _ (by omega)
  have z3 : w.frozen? ⟨b, k + 1, none⟩ = false := by simpa using z2
  go_enter Try.func72, Try.ntmps72
  go_wp2_with fail
  refine KA.out.mono ?_
  rintro e w' ⟨rfl, rfl⟩
  go_wp2_with fail
  refine KM.out.mono ?_
  rintro e w' ⟨rfl, rfl⟩
  go_wp2
  refine wp_region_lew [16, 19] [0, 1, 0, 0, 0, 0, 0, 0, 0, 0, 0, 0, 1, 1, 0, 0, 1, 1, 1, 2] (fun w' => w'.cell? ⟨b, k, none⟩ = some (.int .i64 u) ∧ w'.cell? ⟨b, k + 1, none⟩ = some (.int .i64 v)) (fun w' => w'.cell? ⟨b, k + 1, none⟩ = some (.int .i64 v)) (fun _ => True) (fun _ => True) (fun _ h => h.2) (fun _ _ => trivial) (fun _ _ => trivial) (by kernel_rfl) (by kernel_rfl) (by kernel_rfl) (by kernel_rfl) (by exact ⟨cu, cs⟩) ?_
  (repeat (first | (refine lew_skip (by rfl) (by rfl) ?_; try simp only [Act.put, List.setIfInBounds_toArray, List.set_cons_zero, List.set_cons_succ]) | (refine lew_read0 (v := ?_) (by rfl) (by rfl) ?_ ?_; rotate_left; (focus (intro w' hS'; go_simp; (try with_reducible rfl); done)); try simp only [Act.put, List.setIfInBounds_toArray, List.set_cons_zero, List.set_cons_succ]) | (refine lew_read1 (v := ?_) (by rfl) (by rfl) ?_ ?_; rotate_left; (focus (intro w' hS'; go_simp; (try with_reducible rfl); done)); try simp only [Act.put, List.setIfInBounds_toArray, List.set_cons_zero, List.set_cons_succ]) | (refine lew_read2 (v := ?_) (by rfl) (by rfl) ?_ ?_; rotate_left; (focus (intro w' hS'; go_simp; (try with_reducible rfl); done)); try simp only [Act.put, List.setIfInBounds_toArray, List.set_cons_zero, List.set_cons_succ]) | (refine lew_read3 (v := ?_) (by rfl) (by rfl) ?_ ?_; rotate_left; (focus (intro w' hS'; go_simp; (try with_reducible rfl); done)); try simp only [Act.put, List.setIfInBounds_toArray, List.set_cons_zero, List.set_cons_succ]) | (refine lew_read4 (v := ?_) (by rfl) (by rfl) ?_ ?_; rotate_left; (focus (intro w' hS'; go_simp; (try with_reducible rfl); done)); try simp only [Act.put, List.setIfInBounds_toArray, List.set_cons_zero, List.set_cons_succ])))
  refine lew_chain1 rfl (by rfl) (fun K hK => ?_)
  go_wp2_with fail
  have hc : (w.drew.setCell ⟨b, k, none⟩ (.int .i64 (u + d))).cell? ⟨b, k + 1, none⟩ = some (.int .i64 v) := by rw [World.cell?_setCell_other _ _ _ _ (fun e => by injection e with e1 e2; omega)]; exact cs
  refine hK.out _ _ hc ?_
  clear hK
  (repeat (first | (refine lew_skip (by rfl) (by rfl) ?_; try simp only [Act.put, List.setIfInBounds_toArray, List.set_cons_zero, List.set_cons_succ]) | (refine lew_read0 (v := ?_) (by rfl) (by rfl) ?_ ?_; rotate_left; (focus (intro w' hS'; go_simp; (try with_reducible rfl); done)); try simp only [Act.put, List.setIfInBounds_toArray, List.set_cons_zero, List.set_cons_succ]) | (refine lew_read1 (v := ?_) (by rfl) (by rfl) ?_ ?_; rotate_left; (focus (intro w' hS'; go_simp; (try with_reducible rfl); done)); try simp only [Act.put, List.setIfInBounds_toArray, List.set_cons_zero, List.set_cons_succ]) | (refine lew_read2 (v := ?_) (by rfl) (by rfl) ?_ ?_; rotate_left; (focus (intro w' hS'; go_simp; (try with_reducible rfl); done)); try simp only [Act.put, List.setIfInBounds_toArray, List.set_cons_zero, List.set_cons_succ]) | (refine lew_read3 (v := ?_) (by rfl) (by rfl) ?_ ?_; rotate_left; (focus (intro w' hS'; go_simp; (try with_reducible rfl); done)); try simp only [Act.put, List.setIfInBounds_toArray, List.set_cons_zero, List.set_cons_succ]) | (refine lew_read4 (v := ?_) (by rfl) (by rfl) ?_ ?_; rotate_left; (focus (intro w' hS'; go_simp; (try with_reducible rfl); done)); try simp only [Act.put, List.setIfInBounds_toArray, List.set_cons_zero, List.set_cons_succ])))
  refine lew_chain2 rfl (by rfl) (fun K hK => ?_)
  go_wp2_with fail
  refine hK.out _ _ trivial (lew_nil ?_)
  go_wp2
  go_ret
  obtain ⟨F', q1, q2, q3⟩ := HFIN.out.post escS_ok
  exact ⟨rfl, F', ⟨_, q1⟩, q2, q3⟩
end Go.Proofs.Ytapabbpdfplpoaa
