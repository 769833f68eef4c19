/-
  Potential: elements compared; Same.
  Ranging over a map: each step hands out an entry that is still to come, in whatever order.
  Potential: how many states there are; the iterator over a map as something owned.
  A range over a function whose loop variables are boxed: the assignment makes memory too.
  Potential: the least cost from a state on: the walk.
-/
import Derived.Test.YtnppgomhhcbplaaGreatDoorPO13
import Derived.Test.YtnppgomhhcbplaaGreatDoorPO14
import Derived.Test.YtnppgomhhcbplaaGreatDoorPO5
import Derived.Test.YtnppgomhhcbplaaGreatDoorPO12
import Derived.Test.YtnppgomhhcbplaaGreatDoorPO8
import Derived.Test.YtnppgomhhcbplaaGreatDoorPO6
set_option linter.unusedSimpArgs false
set_option linter.unusedVariables false
namespace Go.Proofs.YtnppgomhhcbplaaGreatDoor
open Go.RowKit Go.CH Go.CH.Scr Go.CH.Pot
open Go.ChangeMaps (setBlock)
def ptF : List Field := [⟨ "I", 3, 0, false, "", "", 0⟩, ⟨ "J", 3, 1, false, "", "", 8⟩, ⟨ "Ahead", 9, 2, false, "", "", 16⟩, ⟨ "Right", 4, 3, false, "", "", 32⟩, ⟨ "H", 3, 4, false, "", "", 40⟩]
def ptC (p : Pt) : Array Value := #[.int .i64 p.i, .int .i64 p.j, .string (bs p.a), .bool p.r, .int .i64 p.h]
theorem pt_flats (p : Pt) : Flats Tryz.prog ptF (ptC p) := by
  intro f hf
  simp only [ptF, List.mem_cons, List.mem_nil_iff, or_false] at hf
  rcases hf with rfl | rfl | rfl | rfl | rfl
  · exact ⟨by decide, _, rfl, .int Tryz.underlying3 _⟩
  · exact ⟨by decide, _, rfl, .int Tryz.underlying3 _⟩
  · exact ⟨by decide, _, rfl, .str Tryz.underlying9 _⟩
  · exact ⟨by decide, _, rfl, .bool Tryz.underlying4 _⟩
  · exact ⟨by decide, _, rfl, .int Tryz.underlying3 _⟩
theorem pt_same (p q : Pt) : sameF ptF (ptC p) (ptC q) = decide (p = q) := by
  have e : sameF ptF (ptC p) (ptC q) = ((p.i == q.i) && ((p.j == q.j) && ((bs p.a == bs q.a) && ((p.r == q.r) && ((p.h == q.h) && true))))) := rfl
  rw [e, bs_beq]
  clear e
  obtain ⟨a, b, c, d, e⟩ := p
  obtain ⟨a', b', c', d', e'⟩ := q
  by_cases h1 : a = a' <;> by_cases h2 : b = b' <;> by_cases h3 : c = c' <;> by_cases h4 : d = d' <;> by_cases h5 : e = e' <;> simp [h1, h2, h3, h4, h5]
theorem neq_pt (p q : Pt) (w : World) : (binOp .neq 37 (.agg (ptC p)) (.agg (ptC q))).run Tryz.prog w = .ok (.bool (!decide (p = q))) w := by
  have h := key_neq (P := Tryz.prog) (fs := ptF.toArray) Tryz.underlying37 (by kernel_rfl) (pt_flats p) (pt_flats q) w
  rw [pt_same] at h
  exact h
theorem exec_neq_agg {P : Program} {o : Oper} {ev : Operand → Value} {w : World} {t t2 : TypeId} {x y : Operand} {xs ys : Array Value} {v : Value} (ho : o.op = .binOp .neq t x y t2) (hx : ev x = .agg xs) (hy : ev y = .agg ys)
    (hm : P.eqGuardType P.depth t = false) (h : (binOp .neq t (.agg xs) (.agg ys)).run P w = .ok v w) : (execOp ev o).run P w = .ok (.value v) w := by
  unfold execOp
  simp only [ho, hx, hy, Sem.run_bind, run_eqGuard_agg w .neq t x y xs ys hm, Result.andThen_ok, h, Sem.run_pure]
set_option maxHeartbeats 3200000 in
set_option maxRecDepth 100000 in
theorem same_any {w : World} {A B : Option Addr} {c d : Nat} {C D : List Pt} (hA : PtsR w A C) (hB : PtsR w B D) (hl : C.length ≤ 4611686018427387904) (hl2 : D.length ≤ 4611686018427387904) :
    Calls Tryz.prog 16 #[.slice A C.length c, .slice B D.length d] w (BelowRet w (.bool (decide (C = D)))) := by
  have HA := hide hA
  have HB := hide hB
  obtain ⟨n, hn⟩ : ∃ n, n = C.length := ⟨_, rfl⟩
  obtain ⟨m, hm⟩ : ∃ m, m = D.length := ⟨_, rfl⟩
  rw [← hn] at hl ⊢
  rw [← hm] at hl2 ⊢
  have HN := hide hn
  have HM := hide hm
  clear hA hB hn hm
  by_cases hnm : n = m
  · subst hnm
    obtain ⟨b, hb⟩ : ∃ b, b = decide (C = D) := ⟨_, rfl⟩
    rw [← hb]
    have HV := hide hb
    clear hb
    go_enter Tryz.func16, Tryz.ntmps16
    go_wp2_with fail
    go_loopw [5] (fun i wr => ∃ k : Nat, k ≤ n ∧ i = .int .i64 k ∧ C.take k = D.take k ∧ Below w.heap.size w wr) (fun i _ => n - (intOf i).toNat)
    case atStart => exact ⟨0, Nat.zero_le _, rfl, by simp, Below.refl _ _⟩
    case round =>
      obtain ⟨k, hk, rfl, heq, hbel⟩ := hrel
      have HEQ := hide heq
      have HBE := hide hbel
      clear heq hbel
      by_cases hlt : k < n
      · have hkc : k < C.length := by rw [← HN.out]; exact hlt
        have hkd : k < D.length := by rw [← HM.out]; exact hlt
        have HLT := hide hlt
        obtain ⟨b1, o1, rfl, hc1⟩ := PtsR.at HA.out (by omega)
        obtain ⟨b2, o2, rfl, hc2⟩ := PtsR.at HB.out (by omega)
        have HC1 := hide (fun W (h : Below w.heap.size w W) => hc1 W h k hkc)
        have HC2 := hide (fun W (h : Below w.heap.size w W) => hc2 W h k hkd)
        have HNE := hide (fun W => neq_pt C[k] D[k] W)
        have HST := hide (show C[k] = D[k] → C.take (k + 1) = D.take (k + 1) from fun h => by rw [List.take_succ_eq_append_getElem hkc, List.take_succ_eq_append_getElem hkd, HEQ.out, h])
        have HNO := hide (show C[k] ≠ D[k] → b = false from fun h => by rw [HV.out]; exact decide_eq_false (fun e => h (by simp only [e])))
        clear hc1 hc2
        generalize C[k] = p at *
        generalize D[k] = q at *
        unfold ptC at HNE
        have hS0 : ∀ W, Below w.heap.size w W → (W.cell? ⟨b1, o1 + k * 5, none⟩ = some (.int .i64 p.i) ∧ W.cell? ⟨b1, o1 + k * 5 + 1, none⟩ = some (.int .i64 p.j) ∧ W.cell? ⟨b1, o1 + k * 5 + 2, none⟩ = some (.string (bs p.a)) ∧ W.cell? ⟨b1, o1 + k * 5 + 3, none⟩ = some (.bool p.r) ∧ W.cell? ⟨b1, o1 + k * 5 + 4, none⟩ = some (.int .i64 p.h)) ∧ (W.cell? ⟨b2, o2 + k * 5, none⟩ = some (.int .i64 q.i) ∧ W.cell? ⟨b2, o2 + k * 5 + 1, none⟩ = some (.int .i64 q.j) ∧ W.cell? ⟨b2, o2 + k * 5 + 2, none⟩ = some (.string (bs q.a)) ∧ W.cell? ⟨b2, o2 + k * 5 + 3, none⟩ = some (.bool q.r) ∧ W.cell? ⟨b2, o2 + k * 5 + 4, none⟩ = some (.int .i64 q.h)) := fun W h => ⟨HC1.out W h, HC2.out W h⟩
        have hS1 := hS0 _ (below_drew HBE.out)
        clear hS0
        have HB3 := hide (below_drew HBE.out)
        go_wp2_with fail
        refine wp_region_lex (fun W => (W.cell? ⟨b1, o1 + k * 5, none⟩ = some (.int .i64 p.i) ∧ W.cell? ⟨b1, o1 + k * 5 + 1, none⟩ = some (.int .i64 p.j) ∧ W.cell? ⟨b1, o1 + k * 5 + 2, none⟩ = some (.string (bs p.a)) ∧ W.cell? ⟨b1, o1 + k * 5 + 3, none⟩ = some (.bool p.r) ∧ W.cell? ⟨b1, o1 + k * 5 + 4, none⟩ = some (.int .i64 p.h)) ∧ (W.cell? ⟨b2, o2 + k * 5, none⟩ = some (.int .i64 q.i) ∧ W.cell? ⟨b2, o2 + k * 5 + 1, none⟩ = some (.int .i64 q.j) ∧ W.cell? ⟨b2, o2 + k * 5 + 2, none⟩ = some (.string (bs q.a)) ∧ W.cell? ⟨b2, o2 + k * 5 + 3, none⟩ = some (.bool q.r) ∧ W.cell? ⟨b2, o2 + k * 5 + 4, none⟩ = some (.int .i64 q.h))) rfl (by kernel_rfl) hS1 ?_
        clear hS1
        iterate 8 (refine lex_read (v := ?_) (by rfl) ?_ ?_; rotate_left; (focus (intro w' hS'; go_simp; (try with_reducible rfl); done)); try simp only [Act.put, List.setIfInBounds_toArray, List.set_cons_zero, List.set_cons_succ])
        refine lex_read (v := .bool (!decide (p = q))) (by rfl) (fun w' hS' => exec_neq_agg rfl rfl rfl (by kernel_rfl) (HNE.out w')) ?_
        refine lex_nil ?_
        simp only [Act.put, List.setIfInBounds_toArray, List.set_cons_zero, List.set_cons_succ]
        by_cases hpq : p = q
        · have t : (!decide (p = q)) = false := by rw [decide_eq_true hpq]; rfl
          have HTK := hide (HST.out hpq)
          clear hpq HNE
          rw [t]
          clear t
          go_wp2
          go_roundw
          case rel => exact ⟨k + 1, HLT.out, by go_num, HTK.out, HB3.out⟩
          case measure => have := HLT.out; simp [intOf]; omega
        · have t : (!decide (p = q)) = true := by rw [decide_eq_false hpq]; rfl
          have HF := hide (HNO.out hpq)
          clear hpq HNE
          rw [t]
          clear t
          go_wp2
          go_ret
          exact bel_bool HF.out HB3.out
      · have HF := hide (show b = true from by
          rw [HV.out]
          have h := HEQ.out
          have e : k = n := by omega
          rw [List.take_of_length_le (by rw [← HN.out]; omega), List.take_of_length_le (by rw [← HM.out]; omega)] at h
          exact decide_eq_true h)
        clear HEQ
        go_wp2
        go_ret
        exact bel_bool HF.out HBE.out
  · have t : ((n : Int) != (m : Int)) = true := by simp; omega
    have hf : decide (C = D) = false := decide_eq_false (fun e => hnm (by rw [HN.out, HM.out, e]))
    rw [hf]
    clear hf hnm
    go_enter Tryz.func16, Tryz.ntmps16
    go_wp2
    go_ret
    exact ⟨rfl, Below.refl _ _⟩
end Go.Proofs.YtnppgomhhcbplaaGreatDoor
namespace Go.CH
open Go.RowKit
open Go.ChangeMaps (setBlock)
section
variable {P : Program}
/-- The iterator in block r over the map b with the entries es: left are those to come. -/
def IterAt (w : World) (r b : Nat) (es : Array MapEntry) (clock : Nat) (left : List MapEntry) : Prop :=
  ∃ seen, w.heap[r]? = some (.mapIter (some b) clock seen clock) ∧ left = es.toList.filter (fun e => !seen.contains e.born)
theorem run_range_map {t K E : TypeId} (ht : P.underlying t = some (.map K E)) {w : World} {b : Nat} {es : Array MapEntry} {clock : Nat} (hb : w.heap[b]? = some (.map es clock)) :
    (Instr.range t (.map (some b))).run P w = .ok (.pointer (some ⟨w.heap.size, 0, none⟩)) (w.alloc (.mapIter (some b) clock #[] clock)) ∧ IterAt (w.alloc (.mapIter (some b) clock #[] clock)) w.heap.size b es clock es.toList := by
  refine ⟨?_, #[], heap_new rfl, (List.filter_eq_self.2 (by simp)).symm⟩
  simp only [Instr.range, Sem.run_bind, run_underlying ht, Result.andThen_ok, MapKept.run_getObj_map hb, Sem.run_pure]
  rfl
theorem run_getObj_iter {w : World} {r b : Nat} {c : Nat} {seen : Array Nat} {l : Nat} (h : w.heap[r]? = some (.mapIter (some b) c seen l)) : (getObj r).run P w = .ok (.mapIter (some b) c seen l) w := by
  simp [getObj, Sem.run, h]
theorem run_setObj_iter {w : World} {r b : Nat} {c : Nat} {seen : Array Nat} {l : Nat} (h : w.heap[r]? = some (.mapIter (some b) c seen l)) (o : Obj) : (setObj r o).run P w = .ok () (setBlock w r o) := by
  simp [setObj, Sem.run, h, setBlock]
theorem filter_push (es : List MapEntry) (seen : Array Nat) (hn : (es.map (·.born)).Nodup) {i : Nat} (hi : i < (es.filter (fun e => !seen.contains e.born)).length) :
    es.filter (fun e => !(seen.push (es.filter (fun e => !seen.contains e.born))[i].born).contains e.born) = (es.filter (fun e => !seen.contains e.born)).eraseIdx i := by
  have h1 : es.filter (fun e => !(seen.push (es.filter (fun e => !seen.contains e.born))[i].born).contains e.born) =
      (es.filter (fun e => !seen.contains e.born)).filter (fun e => !(e.born == (es.filter (fun e => !seen.contains e.born))[i].born)) := by
    rw [List.filter_filter]
    refine List.filter_congr fun e _ => ?_
    rw [Array.contains_push, Bool.not_or, Bool.and_comm]
  rw [h1]
  have hn2 : ((es.filter (fun e => !seen.contains e.born)).map (·.born)).Nodup := (List.filter_sublist.map _).nodup hn
  generalize es.filter (fun e => !seen.contains e.born) = l at hi hn2
  clear h1 hn
  induction l generalizing i with
  | nil => simp at hi
  | cons a l ih =>
    rw [List.map_cons, List.nodup_cons] at hn2
    cases i with
    | zero =>
      simp only [List.getElem_cons_zero, List.eraseIdx_cons_zero]
      rw [List.filter_cons_of_neg (by simp)]
      rw [List.filter_eq_self]
      intro e he
      simp only [Bool.not_eq_true', beq_eq_false_iff_ne]
      intro h; exact hn2.1 (h ▸ List.mem_map.2 ⟨e, he, rfl⟩)
    | succ i =>
      simp only [List.getElem_cons_succ, List.eraseIdx_cons_succ]
      have hi' : i < l.length := by simpa using hi
      rw [List.filter_cons_of_pos]
      · rw [ih hi' hn2.2]
      · simp only [Bool.not_eq_true', beq_eq_false_iff_ne]
        intro h; exact hn2.1 (h ▸ List.mem_map.2 ⟨l[i], List.getElem_mem hi', rfl⟩)
/-- A step. -/
theorem run_next_map {w : World} {r b : Nat} {es : Array MapEntry} {clock : Nat} {left : List MapEntry} (h : IterAt w r b es clock left) (hb : w.heap[b]? = some (.map es clock)) (hborn : ∀ e ∈ es.toList, e.born < clock) (hn : (es.toList.map (·.born)).Nodup) (ty : TypeId) :
    (left = [] ∧ (Instr.next (.pointer (some ⟨r, 0, none⟩)) false ty).run P w = .ok (.tuple #[.bool false]) w) ∨
    ∃ (i : Nat) (hi : i < left.length) (w' : World), (Instr.next (.pointer (some ⟨r, 0, none⟩)) false ty).run P w = .ok (.tuple #[.bool true, left[i].key, left[i].val]) w' ∧ IterAt w' r b es clock (left.eraseIdx i) ∧ Mod (fun i => i = r) w w' ∧ w'.heap.size = w.heap.size ∧
      ∀ w'' : World, w''.heap[r]? = w'.heap[r]? → w''.heap[b]? = some (.map es clock) → (Instr.entry (.pointer (some ⟨r, 0, none⟩))).run P w'' = .ok (.tuple #[left[i].key, left[i].val]) w'' := by
  obtain ⟨seen, hr, hl⟩ := h
  have hg : (!seen.isEmpty && !es.isEmpty && es.all (·.born ≥ clock)) = false := by
    cases he : es.toList with
    | nil => have : es = #[] := by simpa using he
             subst this; simp
    | cons e l =>
      have h1 := hborn e (by rw [he]; simp)
      have : es.all (fun x => decide (x.born ≥ clock)) = false := by
        rw [← Array.all_toList, he, List.all_cons]
        simp; intro h; omega
      rw [this, Bool.and_false]
  have hle : (es.filter fun e : MapEntry => !seen.contains e.born).toList = left := by rw [hl]; simp
  have hold : (es.filter fun e : MapEntry => !seen.contains e.born).filter (fun e => decide (e.born < clock)) = es.filter fun e : MapEntry => !seen.contains e.born := by
    apply Array.toList_inj.1
    rw [Array.toList_filter, hle, List.filter_eq_self]
    intro e he
    rw [hl] at he
    simpa using hborn e (List.mem_filter.1 he).1
  have hnew : (es.filter fun e : MapEntry => !seen.contains e.born).filter (fun e => decide (e.born ≥ clock)) = #[] := by
    apply Array.toList_inj.1
    rw [Array.toList_filter, hle, List.filter_eq_nil_iff.2]
    intro e he
    rw [hl] at he
    have := hborn e (List.mem_filter.1 he).1
    simp; omega
  have hrun0 : ∀ w1 : World, True := fun _ => trivial
  cases hlc : left with
  | nil =>
    left
    refine ⟨rfl, ?_⟩
    have hemp : (es.filter fun e : MapEntry => !seen.contains e.born) = #[] := by apply Array.toList_inj.1; rw [hle, hlc]
    simp only [Instr.next, Sem.run_bind, run_getObj_iter hr, Result.andThen_ok, MapKept.run_getObj_map hb, hg, Bool.false_eq_true, if_false, Sem.run_pure, hold, hnew, hemp]
    simp [choose, Sem.run, Question.forced]
  | cons e0 l0 =>
    right
    have hne : (es.filter fun e : MapEntry => !seen.contains e.born).isEmpty = false := by
      rw [← Array.isEmpty_toList, hle, hlc]; rfl
    have hsz : ((es.filter fun e : MapEntry => !seen.contains e.born) ++ #[]).size = left.length := by rw [Array.append_empty, ← Array.length_toList, hle]
    have key : ∀ i (hi : i < left.length) (w1 : World), w1.heap = w.heap → w1.os = w.os → w1.tape = w.tape → w1.output = w.output →
        IterAt (setBlock w1 r (.mapIter (some b) clock (seen.push left[i].born) clock)) r b es clock (left.eraseIdx i) ∧ Mod (fun i => i = r) w (setBlock w1 r (.mapIter (some b) clock (seen.push left[i].born) clock)) ∧
          (setBlock w1 r (.mapIter (some b) clock (seen.push left[i].born) clock)).heap.size = w.heap.size ∧
          (∀ w'' : World, w''.heap[r]? = (setBlock w1 r (.mapIter (some b) clock (seen.push left[i].born) clock)).heap[r]? → w''.heap[b]? = some (.map es clock) → (Instr.entry (.pointer (some ⟨r, 0, none⟩))).run P w'' = .ok (.tuple #[left[i].key, left[i].val]) w'') := by
      intro i hi w1 h1 h2 h3 h4
      have hr1 : w1.heap[r]? = some (.mapIter (some b) clock seen clock) := by rw [h1]; exact hr
      have hnr : (setBlock w1 r (.mapIter (some b) clock (seen.push left[i].born) clock)).heap[r]? = some (.mapIter (some b) clock (seen.push left[i].born) clock) := heap_setBlock_self hr1
      refine ⟨⟨_, hnr, ?_⟩, ⟨h2, h3, h4, by rw [size_setBlock, h1]; exact Nat.le_refl _, fun k hk hkr => by rw [heap_setBlock_ne (fun e => hkr e.symm), h1]⟩, by rw [size_setBlock, h1], fun w'' g1 g2 => ?_⟩
      · subst hl
        exact (filter_push es.toList seen hn hi).symm
      · rw [hnr] at g1
        have hall : ∀ x ∈ left, x ∈ es.toList := by rw [hl]; exact fun x hx => (List.mem_filter.1 hx).1
        have hmem : left[i] ∈ es.toList := hall _ (List.getElem_mem hi)
        have hfind : es.find? (fun x => x.born == left[i].born) = some left[i] := by
          obtain ⟨j, hj⟩ := List.getElem?_of_mem hmem
          have hfi : es.toList.find? (fun x => x.born == left[i].born) = some left[i] := by
            have : ∀ (l : List MapEntry) (j : Nat), (l.map (·.born)).Nodup → l[j]? = some left[i] → l.find? (fun x => x.born == left[i].born) = some left[i] := by
              intro l
              induction l with
              | nil => intro j _ h; simp at h
              | cons x l ih =>
                intro j hn h
                rw [List.map_cons, List.nodup_cons] at hn
                cases j with
                | zero => simp at h; subst h; simp
                | succ j =>
                  have h' : l[j]? = some left[i] := by simpa using h
                  have hne : ¬ x.born = left[i].born := fun e => hn.1 (e ▸ List.mem_map.2 ⟨left[i], List.mem_of_getElem? h', rfl⟩)
                  rw [List.find?_cons_of_neg (by simpa using hne)]
                  exact ih j hn.2 h'
            exact this _ j hn hj
          obtain ⟨es⟩ := es
          simpa using hfi
        simp only [Instr.entry, Sem.run_bind, run_getObj_iter g1, Result.andThen_ok, MapKept.run_getObj_map g2, Array.back?_push, bne_self_eq_false, Bool.false_eq_true, if_false, Sem.run_pure, hfind]
    have hpick : ∀ i (hi : i < left.length), (((#[] : Array (Option MapEntry)) ++ ((es.filter fun e : MapEntry => !seen.contains e.born) ++ #[]).map some)[i]?) = some (some left[i]) := by
      intro i hi
      rw [Array.append_empty, ← Array.getElem?_toList]
      simp only [Array.toList_append, Array.toList_map, hle]
      simp [hi]
    rw [← hlc]
    have hcs : ((#[] : Array (Option MapEntry)) ++ ((es.filter fun e : MapEntry => !seen.contains e.born) ++ #[]).map some).size = left.length := by simp only [Array.size_append, Array.size_map, hsz]; simp
    have hpos : 0 < left.length := by rw [hlc]; simp
    by_cases hf : left.length ≤ 1
    · refine ⟨0, hpos, setBlock w r (.mapIter (some b) clock (seen.push left[0].born) clock), ?_, key 0 hpos w rfl rfl rfl rfl⟩
      simp only [Instr.next, Sem.run_bind, run_getObj_iter hr, Result.andThen_ok, MapKept.run_getObj_map hb, hg, Bool.false_eq_true, if_false, Sem.run_pure, hold, hnew, hne]
      have hc : (choose (.mapNext ((#[] : Array (Option MapEntry)) ++ ((es.filter fun e : MapEntry => !seen.contains e.born) ++ #[]).map some).size) : Sem Nat).run P w = .ok 0 w := by
        rw [hcs]; simp [choose, Sem.run, Question.forced, hf]
      rw [hc]
      simp only [Result.andThen_ok, hpick 0 hpos, Sem.run_bind, run_setObj_iter hr, Sem.run_pure]
    · have hlt : w.tape w.drawn (.mapNext left.length) % left.length < left.length := Nat.mod_lt _ hpos
      refine ⟨_, hlt, setBlock w.drew r (.mapIter (some b) clock (seen.push (left[w.tape w.drawn (.mapNext left.length) % left.length]'hlt).born) clock), ?_, key _ hlt w.drew rfl rfl rfl rfl⟩
      simp only [Instr.next, Sem.run_bind, run_getObj_iter hr, Result.andThen_ok, MapKept.run_getObj_map hb, hg, Bool.false_eq_true, if_false, Sem.run_pure, hold, hnew, hne]
      have hc : (choose (.mapNext ((#[] : Array (Option MapEntry)) ++ ((es.filter fun e : MapEntry => !seen.contains e.born) ++ #[]).map some).size) : Sem Nat).run P w = .ok (w.tape w.drawn (.mapNext left.length) % left.length) w.drew := by
        rw [hcs]; simp [choose, Sem.run, Question.forced, hf, Question.cut]
      rw [hc]
      simp only [Result.andThen_ok, hpick _ hlt, Sem.run_bind, run_setObj_iter (w := w.drew) hr, Sem.run_pure]
end
end Go.CH
namespace Go.CH.Pot
open Go.CH.Scr
def codeA : Bs → Nat
  | [] => 0
  | x :: l => 1 + x.toNat + 257 * codeA l
theorem codeA_inj : ∀ a b : Bs, codeA a = codeA b → a = b
  | [], [], _ => rfl
  | [], _ :: _, h => by unfold codeA at h; omega
  | _ :: _, [], h => by unfold codeA at h; omega
  | x :: l, y :: m, h => by
    unfold codeA at h
    have h1 := x.toNat_lt
    have h2 := y.toNat_lt
    have h3 : x.toNat = y.toNat := by omega
    have h4 : codeA l = codeA m := by omega
    rw [codeA_inj l m h4, UInt8.toNat_inj.1 h3]
theorem codeA_lt : ∀ (n : Nat) (a : Bs), a.length ≤ n → codeA a < 257 ^ n
  | n, [], _ => Nat.pow_pos (by omega)
  | 0, _ :: _, h => by simp at h
  | n + 1, x :: l, h => by
    have h1 := codeA_lt n l (by simpa using h)
    have h2 := x.toNat_lt
    unfold codeA
    rw [Nat.pow_succ]
    omega
def codeS (s : St) : Nat := ((s.i * 13 + s.j) * 2 + (if s.r then 1 else 0)) * 16974593 + codeA s.a
theorem codeS_inj {s t : St} (h1 : s.j ≤ 12 ∧ s.a.length ≤ 3) (h2 : t.j ≤ 12 ∧ t.a.length ≤ 3) (h : codeS s = codeS t) : s = t := by
  have ha := codeA_lt 3 s.a h1.2
  have hb := codeA_lt 3 t.a h2.2
  obtain ⟨i, j, a, r⟩ := s
  obtain ⟨i', j', a', r'⟩ := t
  unfold codeS at h
  simp only at *
  have e1 : codeA a = codeA a' := by cases r <;> cases r' <;> simp at h <;> omega
  have e2 : (i * 13 + j) * 2 + (if r = true then 1 else 0) = (i' * 13 + j') * 2 + (if r' = true then 1 else 0) := by omega
  have e3 : r = r' := by cases r <;> cases r' <;> simp at e2 ⊢ <;> omega
  subst e3
  have e4 : i * 13 + j = i' * 13 + j' := by omega
  rw [codeA_inj _ _ e1, show i = i' by omega, show j = j' by omega]
/-- How many states there can be. -/
theorem states_few {l : List St} (hn : l.Nodup) (h : ∀ s ∈ l, s.i ≤ 12 ∧ s.j ≤ 12 ∧ s.a.length ≤ 3) : l.length ≤ 5737412434 := by
  have h1 : (l.map codeS).Nodup := by
    rw [List.Nodup, List.pairwise_map]
    exact List.Pairwise.imp_of_mem (fun ha hb hne he => hne (codeS_inj (h _ ha).2 (h _ hb).2 he)) hn
  have h2 : ∀ x ∈ l.map codeS, x ∈ List.range 5737412434 := by
    intro x hx
    obtain ⟨s, hs, rfl⟩ := List.mem_map.1 hx
    obtain ⟨g1, g2, g3⟩ := h s hs
    have g4 := codeA_lt 3 s.a g3
    rw [List.mem_range]
    unfold codeS
    split <;> omega
  have h3 := List.Nodup.length_le_of_subset h1 h2
  rwa [List.length_map, List.length_range] at h3
end Go.CH.Pot
namespace Go.Proofs.YtnppgomhhcbplaaGreatDoor
open Go.RowKit Go.CH Go.CH.Scr Go.CH.Pot
open Go.ChangeMaps (setBlock)
theorem known_few {W : Wd} {L : List (St × Int)} (hk : Kn W L) (ht : W.tosOk) (hl : W.l.length ≤ 12) (hm : W.m.length ≤ 12) (hr : ∀ p ∈ L, Rch W st0 p.1) : L.length ≤ 5737412434 := by
  have := states_few hk.nd (fun s hs => by
    obtain ⟨v, hv⟩ := mem_keys.1 hs
    have h1 := hk.ok _ hv
    have h2 := rch_ahead ht (hr _ hv)
    exact ⟨Nat.le_trans h1.1 hl, Nat.le_trans h1.2.1 hm, h2.1⟩)
  unfold keysL at this
  rwa [List.length_map] at this
/-- The iterator in block r as something owned. -/
def IterO (r b : Nat) (es : Array MapEntry) (clock : Nat) (left : List MapEntry) : CH.Own := fun w F => IterAt w r b es clock left ∧ ∀ i, F i ↔ i = r
theorem iter_ok {r b : Nat} {es : Array MapEntry} {clock : Nat} {left : List MapEntry} : (IterO r b es clock left).Ok := by
  refine ⟨fun h i hi => ?_, fun h hk => ⟨?_, h.2⟩⟩
  · rw [(h.2 i).1 hi]
    obtain ⟨seen, h1, -⟩ := h.1
    exact lt_of_block h1
  · obtain ⟨seen, h1, h2⟩ := h.1
    exact ⟨seen, (hk r ((h.2 r).2 rfl)).trans h1, h2⟩
theorem iter_new (w : World) {b : Nat} {es : Array MapEntry} {clock : Nat} (h : IterAt (w.alloc (.mapIter (some b) clock #[] clock)) w.heap.size b es clock es.toList) :
    Post w (fun _ => False) (IterO w.heap.size b es clock es.toList) (w.alloc (.mapIter (some b) clock #[] clock)) :=
  ⟨fun i => i = w.heap.size, ⟨h, fun i => Iff.rfl⟩, Mod.of_below ((Below.refl _ _).alloc (Nat.le_refl _) _), fun i hi => .inr (by subst hi; simp)⟩
/-- A map of its own, opened. -/
theorem run_open_map {α : Type} [DecidableEq α] {kv : α → Value} {b : Nat} {l : List (α × Value)} {F0 : Nat → Prop} {w0 w : World} {X : CH.Own} (h : Run F0 w0 (star (MapO kv b l) X) w) :
    ∃ es clock, Ents kv es clock l ∧ Run F0 w0 (star (ObjO b (.map es clock)) X) w := by
  obtain ⟨⟨F, ⟨F1, F2, ⟨⟨es, clock, h1, h2⟩, h3⟩, h4, h5, h6⟩, h7⟩, h8⟩ := h
  exact ⟨es, clock, h2, ⟨F, ⟨F1, F2, ⟨h1, h3⟩, h4, h5, h6⟩, h7⟩, h8⟩
def decSt : Value → St
  | .agg #[.int _ i, .int _ j, .string a, .bool r] => ⟨i.toNat, j.toNat, bl a, r⟩
  | _ => st0
def decInt : Value → Int
  | .int _ v => v
  | _ => 0
def decE (e : MapEntry) : St × Int := (decSt e.key, decInt e.val)
theorem decSt_stV (s : St) : decSt (stV s) = s := by
  obtain ⟨i, j, a, r⟩ := s
  rfl
theorem decE_all {L : List (St × Int)} {es : List MapEntry} (h : es.map (fun e => (e.key, e.val)) = (L.map fun p => (p.1, Value.int .i64 p.2)).map (fun p => (stV p.1, p.2))) :
    es.map decE = L ∧ ∀ e ∈ es, e.key = stV (decE e).1 ∧ e.val = .int .i64 (decE e).2 := by
  have h2 : es.map (fun e => (e.key, e.val)) = L.map (fun p => (stV p.1, Value.int .i64 p.2)) := by rw [h, List.map_map]; rfl
  constructor
  · have h3 := congrArg (List.map fun (q : Value × Value) => (decSt q.1, decInt q.2)) h2
    simp only [List.map_map] at h3
    refine Eq.trans h3 ?_
    conv => rhs; rw [← List.map_id L]
    refine List.map_congr_left fun p _ => ?_
    show (decSt (stV p.1), decInt (.int .i64 p.2)) = p
    rw [decSt_stV]; rfl
  · intro e he
    have h3 : (e.key, e.val) ∈ es.map (fun e => (e.key, e.val)) := List.mem_map.2 ⟨e, he, rfl⟩
    rw [h2] at h3
    obtain ⟨p, -, he2⟩ := List.mem_map.1 h3
    injection he2 with h5 h6
    unfold decE
    rw [← h5, ← h6, decSt_stV]
    exact ⟨rfl, rfl⟩
end Go.Proofs.YtnppgomhhcbplaaGreatDoor
namespace Go.CH
open Go.RowKit
theorem range_law2 {α : Type} {P : Program} {g : Operand} {ps : Array Tmp} {assign body : Code} {Q : Exit → Act → World → Prop} {a : Act} {w : World} {gf : Nat} {lb : Array Value}
    (hg : a.eval g = .func (.func gf) #[] lb) (eg : ∀ args w, (callFunc gf args).run P w = .ok (.enter gf args) w) {E : World → Prop} {Z : Nat → Own} {enc : α → Array Value} {xs : List α}
    (hit : IterK P gf lb E Z enc xs) (hZ : ∀ i, (Z i).Ok) (hps : ∀ x, (enc x).size = ps.size)
    {F0 : Nat → Prop} {w0 : World} (hE : ∀ W, Mod F0 w0 W → E W) (I : Nat → Own) (Ix : Code → Own) (hI : ∀ i, (I i).Ok) (I2 : Nat → Act → Own) (hI2 : ∀ i a, (I2 i a).Ok) (hIx : ∀ c, (Ix c).Ok) (h0 : Run F0 w0 (star (Z 0) (I 0)) w)
    (hassign : ∀ (l m i : Nat) (hi : i < xs.length) (R : Own) (W : World) (K : Act → World → Prop), R.Ok → Run F0 w0 (star (I i) R) W → (∀ a' W', Run F0 w0 (star (I2 i a') R) W' → K a' W') →
      assign.wpIn (Fence.wide.inRound l) m P (Exit.then K (fun _ _ _ => False)) { tmps := (ps.zip (enc xs[i])).foldl (fun t (p, v) => t.setIfInBounds p v) a.tmps, defers := [] } W)
    (hbody : ∀ (l m i : Nat) (hi : i < xs.length) (a' : Act) (R : Own) (W : World), R.Ok → Run F0 w0 (star (I2 i a') R) W → body.wpIn (Fence.wide.inRound l) m P (rngPost F0 w0 R (I (i + 1)) Ix) a' W)
    (hdone : ∀ (D : Nat) (R : Own) (W : World), R.Ok → Run F0 w0 (star (I xs.length) (star (ObjO D (.deferred (some []))) R)) W → Q .normal { a with defers := { target := .collected D, args := #[] } :: a.defers } W)
    (hstop : ∀ (D : Nat) (c : Code) (R : Own) (W : World), R.Ok → Run F0 w0 (star (Ix c) (star (ObjO D (.deferred (some []))) R)) W → c.wp P Q { a with defers := { target := .collected D, args := #[] } :: a.defers } W) :
    (Code.rangeFunc g ps assign body).wp P Q a w := by
  refine (wpIn_wide (n := 8)).1 ?_
  refine wpIn_rangeFunc ?_
  intro fn hfn
  obtain ⟨rec, hrec⟩ : ∃ rec : LoopState → Option Code → Loop, rec = fun st pe => { state := st, pending := pe, fn, tmps := a.tmps, params := ps, assign, body, defers := w.heap.size } := ⟨_, rfl⟩
  obtain ⟨W1, hW1⟩ : ∃ W1, (w.alloc (.deferred (some []))).alloc (.loop (rec .ready none)) = W1 := ⟨_, rfl⟩
  obtain ⟨l, hl⟩ : ∃ l, l = w.heap.size + 1 := ⟨_, rfl⟩
  obtain ⟨D, hD⟩ : ∃ D, D = w.heap.size := ⟨_, rfl⟩
  have R1 : Run F0 w0 (star (Z 0) (star (ObjO l (.loop (rec .ready none))) (star (ObjO D (.deferred (some []))) (I 0)))) W1 := by
    have o1 := star_ok (hZ 0) (hI 0)
    have h1 := h0.fresh o1 (obj_new w (.deferred (some [])))
    have h2 := h1.fresh (star_ok obj_ok o1) (obj_new (w.alloc (.deferred (some []))) (.loop (rec .ready none)))
    have e1 : (w.alloc (.deferred (some []))).heap.size = l := by rw [hl]; simp
    rw [e1, ← hD] at h2
    rw [hW1] at h2
    exact h2.perm (by ac_rfl)
  have okD : (ObjO D (.deferred (some []))).Ok := obj_ok
  refine ⟨l, [{ target := .collected w.heap.size, args := #[] }], W1, { target := .fn (.func gf) lb, args := #[.func (.yield l) #[] #[]] }, W1, gf,
    #[.func (.yield l) #[] #[]] ++ lb, W1, ?_, ?_, ?_, ?_, fun _ => by omega, ?_⟩
  · rw [← hW1, hrec, hl]; exact run_enterLoop_outer _ _ _ _ _
  · simp only [resolve, hg]
    simp [go_sem]
  · intro f' hf'; trivial
  · simp [invoke, go_sem, eg]
  · refine (hit (8 - 1) l W1 F0 w0 (fun i => star (ObjO l (.loop (rec .ready none))) (star (ObjO D (.deferred (some []))) (I i)))
      (exC fun c => star (ObjO l (.loop (rec .done (some c)))) (star (ObjO D (.deferred (some []))) (Ix c)))
      (fun i => star_ok obj_ok (star_ok obj_ok (hI i))) (exC_ok fun c => star_ok obj_ok (star_ok obj_ok (hIx c))) hE R1 ?_).mono ?_
    · -- one round
      intro i hi W hR
      have okR : (star (ObjO D (.deferred (some []))) (star (Z i) (I i))).Ok := star_ok obj_ok (star_ok (hZ i) (hI i))
      have hR2 := hR.perm (by ac_rfl : _ = star (ObjO l (.loop (rec .ready none))) (star (ObjO D (.deferred (some []))) (star (Z i) (I i))))
      obtain ⟨FL, hL, -, bk⟩ := hR2.take obj_ok okR
      have hy := run_yield (P := P) (args := enc xs[i]) hL.1 (by rw [hrec]; exact hps _)
      rw [hrec] at hy
      refine ⟨fn, _, assign, body, hy, roundIn_of_wpIn hfn (hassign l _ i hi (star (ObjO l (.loop (rec .ready none))) (star (ObjO D (.deferred (some []))) (Z i))) W _ (star_ok obj_ok (star_ok obj_ok (hZ i))) (hR2.perm (by ac_rfl)) ?_)⟩
      intro a' W' hR3
      obtain ⟨FL', hL', -, bk'⟩ := (hR3.perm (by ac_rfl : _ = star (ObjO l (.loop (rec .ready none))) (star (ObjO D (.deferred (some []))) (star (Z i) (I2 i a'))))).take obj_ok (star_ok obj_ok (star_ok (hZ i) (hI2 i a')))
      refine ⟨_, run_beginRound hL'.1 (by rw [hrec]), ?_⟩
      have hB := bk' _ _ (obj_put hL' (.loop { rec .ready none with state := .busy }))
      have okB : (star (ObjO l (.loop { rec .ready none with state := .busy })) (star (ObjO D (.deferred (some []))) (Z i))).Ok := star_ok obj_ok (star_ok obj_ok (hZ i))
      refine wpIn_mono (hbody l _ i hi a' (star (ObjO l (.loop { rec .ready none with state := .busy })) (star (ObjO D (.deferred (some []))) (Z i))) _ okB (hB.perm (by ac_rfl))) ?_
      have fin : ∀ (jump : Option Code) (W3 : World) (O : Own), O.Ok → Run F0 w0 (star O (star (ObjO l (.loop { rec .ready none with state := .busy })) (star (ObjO D (.deferred (some []))) (Z i)))) W3 →
          ∃ W4, (Instr.endRound l jump).run P W3 = .ok (.bool jump.isNone) W4 ∧ Run F0 w0 (star (Z i) (star (ObjO l (.loop (rec (if jump.isNone then .ready else .done) jump))) (star (ObjO D (.deferred (some []))) O))) W4 := fun jump W3 O hO h3 => by
        have h4 := h3.perm (by ac_rfl : _ = star (ObjO l (.loop { rec .ready none with state := .busy })) (star (ObjO D (.deferred (some []))) (star (Z i) O)))
        obtain ⟨FL, hL, -, bk⟩ := h4.take obj_ok (star_ok obj_ok (star_ok (hZ i) hO))
        refine ⟨_, run_endRound (P := P) jump hL.1, ?_⟩
        have h5 := bk _ _ (obj_put hL (.loop { { rec .ready none with state := .busy } with state := if jump.isNone then .ready else .done, pending := jump }))
        have e5 : ({ { rec .ready none with state := .busy } with state := if jump.isNone then .ready else .done, pending := jump } : Loop) = rec (if jump.isNone then .ready else .done) jump := by rw [hrec]
        rw [e5] at h5 ⊢
        exact h5.perm (by ac_rfl)
      rintro e a3 W3 hp
      cases e with
      | normal =>
        obtain ⟨W4, h4, h5⟩ := fin none W3 _ (hI (i + 1)) hp
        exact ⟨_, _, h4, .inl ⟨rfl, h5⟩⟩
      | ret =>
        obtain ⟨W4, h4, h5⟩ := fin (some .ret) W3 _ (hIx .ret) hp
        exact ⟨_, _, h4, .inr ⟨rfl, h5.imp fun w F hh => star_mono hh (fun _ h => h) (fun _ h => ⟨.ret, h⟩)⟩⟩
      | exit id =>
        obtain ⟨W4, h4, h5⟩ := fin (some (.exit id)) W3 _ (hIx (.exit id)) hp
        exact ⟨_, _, h4, .inr ⟨rfl, h5.imp fun w F hh => star_mono hh (fun _ h => h) (fun _ h => ⟨.exit id, h⟩)⟩⟩
      | goto t =>
        obtain ⟨W4, h4, h5⟩ := fin (some (.goto t)) W3 _ (hIx (.goto t)) hp
        exact ⟨_, _, h4, .inr ⟨rfl, h5.imp fun w F hh => star_mono hh (fun _ h => h) (fun _ h => ⟨.goto t, h⟩)⟩⟩
      | panic ch => exact hp.elim
      | outgrown => exact hp.elim
    · -- behind the iterator
      have fin : ∀ (st : LoopState) (pe : Option Code) (W2 : World) (i : Nat) (O : Own), O.Ok → st ≠ .busy → Run F0 w0 (star (Z i) (star (ObjO l (.loop (rec st pe))) (star (ObjO D (.deferred (some []))) O))) W2 →
          ∃ W4 R, R.Ok ∧ (Instr.endLoop l).run P W2 = .ok pe W4 ∧ Run F0 w0 (star O (star (ObjO D (.deferred (some []))) R)) W4 := fun st pe W2 i O hO hst h3 => by
        have h4 := h3.perm (by ac_rfl : _ = star (ObjO l (.loop (rec st pe))) (star (ObjO D (.deferred (some []))) (star (Z i) O)))
        obtain ⟨FL, hL, -, bk⟩ := h4.take obj_ok (star_ok obj_ok (star_ok (hZ i) hO))
        have he := run_endLoop (P := P) hL.1 (by rw [hrec]; exact hst)
        have e6 : (rec st pe).pending = pe := by rw [hrec]
        have he := he.trans (congrArg (fun p => Result.ok p (W2.putObj l (.loop { rec st pe with state := .exhausted }))) e6)
        have hp := obj_put hL (.loop { rec st pe with state := .exhausted })
        generalize Obj.loop { rec st pe with state := .exhausted } = o4 at he hp
        have h5 := bk _ _ hp
        exact ⟨_, star (ObjO l o4) (Z i), star_ok obj_ok (hZ i), he, h5.perm (by ac_rfl : _ = star O (star (ObjO D (.deferred (some []))) (star (ObjO l o4) (Z i))))⟩
      rintro e W2 ⟨⟨v, rfl⟩, h2 | ⟨i, h2⟩⟩
      · obtain ⟨W4, R, hR, he, h4⟩ := fin .ready none W2 _ _ (hI _) (by simp) h2
        rw [← hD]
        exact ⟨none, _, he, hdone D R W4 hR h4⟩
      · have h3 : ∃ c, Run F0 w0 (star (Z i) (star (ObjO l (.loop (rec .done (some c)))) (star (ObjO D (.deferred (some []))) (Ix c)))) W2 := by
          obtain ⟨⟨F, ⟨F1, F2, g1, ⟨c, g2⟩, g3, g4⟩, hF⟩, hm⟩ := h2
          exact ⟨c, ⟨⟨F, ⟨F1, F2, g1, g2, g3, g4⟩, hF⟩, hm⟩⟩
        obtain ⟨c, h3⟩ := h3
        obtain ⟨W4, R, hR, he, h4⟩ := fin .done (some c) W2 _ _ (hIx c) (by simp) h3
        rw [← hD]
        exact ⟨some c, _, he, (wpIn_wide (n := 8)).2 (hstop D c R W4 hR h4)⟩
end Go.CH
namespace Go.Proofs.YtnppgomhhcbplaaGreatDoor
open Go.RowKit Go.CH Go.CH.Scr Go.CH.Pot
open Go.ChangeMaps (setBlock)
attribute [local go_sem] Oper.semAt_some
set_option maxHeartbeats 6400000 in
set_option maxRecDepth 100000 in
theorem from_n {W : Wd} {pa : PA} {b : Nat} {F0 : Nat → Prop} {w0 : World} (hE : ∀ W', Mod F0 w0 W' → PairR W pa W') (hW : WdSmall W pa) (hg : W.good) (ht : W.tosOk) :
    ∀ (n : Nat) (s : St) (L : List (St × Int)) (X : CH.Own) (w : World), W.rank s < n → W.ok s → s.a.length ≤ 3 → Kn W L → X.Ok → Run F0 w0 (star (StM b L) X) w →
    Calls Tryz.prog 26 #[costV W pa b, stV s] w (FromRet W s L F0 w0 b X) := by
  intro n
  induction n with
  | zero => intro s L X w h; exact absurd h (Nat.not_lt_zero _)
  | succ n ih =>
  intro s L X w hn hs ha hk hX hR
  have IH := hide ih
  have HE := hide hE
  have HW := hide hW
  have HG := hide hg
  have HT := hide ht
  have HN := hide hn
  have HS := hide hs
  have HA := hide ha
  have HK := hide hk
  have HX := hide hX
  have h1 : Run F0 w0 (star (CellO w.heap.size (costC W pa b) 69) (star (StM b L) X)) _ := run_new hR (star_ok stm_ok hX) (costC W pa b) 69
  have h2 := run_new h1 (star_ok cell_ok (star_ok stm_ok hX)) (stC s) 62
  rw [World.size_alloc] at h2
  have H2 := hide (show Run F0 w0 (FrO W pa b s w.heap.size (w.heap.size + 1) L X) ((w.alloc (.cells (costC W pa b) 69)).alloc (.cells (stC s) 62)) from h2)
  clear ih hE hW hg ht hn hs ha hk h1 h2 hR
  refine (callsIn_wide (n := 8)).1 ?_
  refine callsIn_of_wp_marks Tryz.func26 rfl trivial ?_ rfl
  simp only [Tryz.ntmps26, List.size_toArray, List.length_cons, List.length_nil, Nat.reduceAdd, Nat.reduceSub, Array.replicate_succ, Array.replicate_zero, List.push_toArray, List.append_toArray, List.nil_append, List.cons_append]
  refine (wpIn_wide (n := 8)).2 ?_
  unfold costV stV
  unfold costC stC
  unfold costC stC at H2
  generalize hW2 : (w.alloc (.cells #[.slice pa.A W.rs.length pa.c, .int .i64 W.ka, .int .i64 W.kb, .slice pa.L W.l.length pa.lc, .slice pa.M W.m.length pa.mc, .int .i64 W.l.length, .int .i64 W.m.length, .string (bs []), .bool false, .map (some b)] 69)).alloc (.cells #[.int .i64 s.i, .int .i64 s.j, .string (bs s.a), .bool s.r] 62) = w2 at *
  iterate 12 (first | go_values | go_guarded | go_step)
  clear hW2
  generalize w.heap.size = gc at *
  obtain ⟨⟨c0, c1, c2, c3⟩, ⟨d0, d1, d2, d3, d4, d5, d6, d7, d8, d9⟩, F, hF⟩ := fro_cells H2.out
  have hlk := stm_get hF s
  by_cases hin : s ∈ keysL L
  · obtain ⟨v, hv⟩ := mem_keys.1 hin
    have hv2 : v = W.dist s := HK.out.val _ hv
    subst hv2
    rw [mget_kn HK.out.nd hv] at hlk
    have hlk2 : (Instr.lookup 67 (.map (some b)) (.agg #[.int .i64 s.i, .int .i64 s.j, .string (bs s.a), .bool s.r]) true).run Tryz.prog w2 = .ok (.tuple #[.int .i64 (W.dist s), .bool true]) w2 := hlk
    have HF := hide (show FromRet W s L F0 w0 b X (.returned (.int .i64 (W.dist s))) w2 from ⟨L, rfl, HK.out, Ext.refl, hin, H2.out.drop.drop⟩)
    clear hlk hF hv hin
    go_wp2
    refine ⟨_, results_tmp rfl _ _ _, ?_⟩
    exact HF.out
  · rw [mget_no hin] at hlk
    have hlk2 : (Instr.lookup 67 (.map (some b)) (.agg #[.int .i64 s.i, .int .i64 s.j, .string (bs s.a), .bool s.r]) true).run Tryz.prog w2 = .ok (.tuple #[.int .i64 0, .bool false]) w2 := hlk
    have HIN := hide hin
    clear hlk hF hin
    have heq := fun w => eql_st s W.fin w
    unfold stV stC at heq
    iterate 58 (first | go_values | go_guarded | go_step)
    go_step
    rename_i Kr hKr
    have H3 := hide (run_new H2.out (fro_ok HX.out) #[.int .i64 1099511627776] 3)
    clear H2 c0 c1 c2 c3 d0 d1 d2 d3 d4 d5 d6 d7 d8 d9
    generalize w2.alloc (.cells #[.int .i64 1099511627776] 3) = w3 at *
    generalize w2.heap.size = g7 at *
    have cut : ∀ (w : World) (g19 g20 g21 g22 g23 : Value), Run F0 w0 (star (CellO g7 #[.int .i64 (minF W s 0)] 3) (FrO W pa b s gc (gc + 1) L X)) w → Kr { tmps := #[.agg #[.slice pa.A W.rs.length pa.c, .int .i64 W.ka, .int .i64 W.kb, .slice pa.L W.l.length pa.lc, .slice pa.M W.m.length pa.mc, .int .i64 W.l.length, .int .i64 W.m.length, .string (bs []), .bool false, .map (some b)], .agg #[.int .i64 s.i, .int .i64 s.j, .string (bs s.a), .bool s.r], .pointer (some ⟨gc, 0, none⟩), .pointer (some ⟨gc + 1, 0, none⟩), .int .i64 0, .int .i64 0, .bool false, .pointer (some ⟨g7, 0, none⟩), undef, undef, .tuple #[.int .i64 0, .bool false], .pointer (some ⟨gc, 9, none⟩), .map (some b), .agg #[.int .i64 s.i, .int .i64 s.j, .string (bs s.a), .bool s.r], .tuple #[.int .i64 0, .bool false], .int .i64 0, .bool false, .bool false, undef, g19, g20, g21, g22, g23, undef, undef, undef, undef, undef, undef, undef, undef, undef, undef, undef, undef, undef, undef, undef, undef, undef, undef], defers := [] } w := by
      intro w g19 g20 g21 g22 g23 hR
      have HR := hide hR
      refine hKr _ _ ?_
      clear hKr hR
      obtain ⟨⟨c0, c1, c2, c3⟩, ⟨d0, d1, d2, d3, d4, d5, d6, d7, d8, d9⟩, -⟩ := fro_cells HR.out.drop
      have KM := hide (fun w => moves_any (W := W) (a := pa) (s := s) w)
      unfold pairV stV pairC stC at KM
      go_wp2_with fail
      refine (KM.out w).mono ?_
      rintro e9 w9 ⟨b1, b2, rfl, hp⟩
      have S1 := hide (HR.out.fresh (star_ok cell_ok (fro_ok HX.out)) hp)
      clear HR KM hp c0 c1 c2 c3 d0 d1 d2 d3 d4 d5 d6 d7 d8 d9
      dsimp only
      go_wp2_with fail
      have HIT := hide (moves_iter (W := W) (s := s) (pa := pa) (b1 := b1) (b2 := b2) HS.out HW.out (Nat.le_trans HA.out (by omega)))
      have okI : ∀ i, (exA fun L' : List (St × Int) => pur (KnI W s L i L') (star (CellO g7 #[.int .i64 (minF W s i)] 3) (FrO W pa b s gc (gc + 1) L' X))).Ok := fun i => exA_ok fun L' => pur_ok (star_ok cell_ok (fro_ok HX.out))
      have okI2 : ∀ (i : Nat) (a' : Act), (exA fun L' : List (St × Int) => exA fun g : Nat => exA fun x : Int × St => pur (KnI W s L i L' ∧ (W.moves s)[i]? = some x ∧ a' = { tmps := #[.agg #[.slice pa.A W.rs.length pa.c, .int .i64 W.ka, .int .i64 W.kb, .slice pa.L W.l.length pa.lc, .slice pa.M W.m.length pa.mc, .int .i64 W.l.length, .int .i64 W.m.length, .string (bs []), .bool false, .map (some b)], .agg #[.int .i64 s.i, .int .i64 s.j, .string (bs s.a), .bool s.r], .pointer (some ⟨gc, 0, none⟩), .pointer (some ⟨gc + 1, 0, none⟩), .int .i64 0, .int .i64 0, .bool false, .pointer (some ⟨g7, 0, none⟩), .int .i64 x.1, .pointer (some ⟨g, 0, none⟩), .tuple #[.int .i64 0, .bool false], .pointer (some ⟨gc, 9, none⟩), .map (some b), .agg #[.int .i64 s.i, .int .i64 s.j, .string (bs s.a), .bool s.r], .tuple #[.int .i64 0, .bool false], .int .i64 0, .bool false, .bool false, undef, g19, g20, g21, g22, g23, .pointer (some ⟨gc, 0, none⟩), .agg #[.slice pa.A W.rs.length pa.c, .int .i64 W.ka, .int .i64 W.kb, .slice pa.L W.l.length pa.lc, .slice pa.M W.m.length pa.mc, .int .i64 W.l.length, .int .i64 W.m.length, .string (bs []), .bool false], .agg #[.int .i64 s.i, .int .i64 s.j, .string (bs s.a), .bool s.r], fnM b1 b2, .int .i64 x.1, .agg (stC x.2), undef, undef, undef, undef, undef, undef, undef, undef, undef, undef, undef, undef], defers := [] }) (star (CellO g (stC x.2) 62) (star (CellO g7 #[.int .i64 (minF W s i)] 3) (FrO W pa b s gc (gc + 1) L' X)))).Ok := fun i a' => exA_ok fun L' => exA_ok fun g => exA_ok fun x => pur_ok (star_ok cell_ok (star_ok cell_ok (fro_ok HX.out)))
      have hst : Run F0 w0 (star (Zm W pa s b1 b2) (exA fun L' : List (St × Int) => pur (KnI W s L 0 L') (star (CellO g7 #[.int .i64 (minF W s 0)] 3) (FrO W pa b s gc (gc + 1) L' X)))) w9 := (Run.exI L (Run.pureI (kni_zero HK.out) S1.out.swap)).swap
      refine range_law2 (gf := 60) (lb := #[.pointer (some ⟨b1, 0, none⟩), .pointer (some ⟨b2, 0, none⟩)]) rfl (enters_of Tryz.func60 (by kernel_rfl) rfl) HIT.out (fun _ => Zm_ok) (fun _ => rfl) HE.out _ (fun _ => noO) okI _ okI2 (fun _ => no_ok) hst ?_ ?_ ?_ ?_
      · intro lo m i hi R W1 K hR hI hK
        obtain ⟨L', h1⟩ := hI.ex
        obtain ⟨hkn, h2⟩ := h1.pure
        have h3 := run_new h2 (star_ok (star_ok cell_ok (fro_ok HX.out)) hR) (stC (W.moves s)[i].2) 62
        have HF := hide (hK { tmps := #[.agg #[.slice pa.A W.rs.length pa.c, .int .i64 W.ka, .int .i64 W.kb, .slice pa.L W.l.length pa.lc, .slice pa.M W.m.length pa.mc, .int .i64 W.l.length, .int .i64 W.m.length, .string (bs []), .bool false, .map (some b)], .agg #[.int .i64 s.i, .int .i64 s.j, .string (bs s.a), .bool s.r], .pointer (some ⟨gc, 0, none⟩), .pointer (some ⟨gc + 1, 0, none⟩), .int .i64 0, .int .i64 0, .bool false, .pointer (some ⟨g7, 0, none⟩), .int .i64 (W.moves s)[i].1, .pointer (some ⟨W1.heap.size, 0, none⟩), .tuple #[.int .i64 0, .bool false], .pointer (some ⟨gc, 9, none⟩), .map (some b), .agg #[.int .i64 s.i, .int .i64 s.j, .string (bs s.a), .bool s.r], .tuple #[.int .i64 0, .bool false], .int .i64 0, .bool false, .bool false, undef, g19, g20, g21, g22, g23, .pointer (some ⟨gc, 0, none⟩), .agg #[.slice pa.A W.rs.length pa.c, .int .i64 W.ka, .int .i64 W.kb, .slice pa.L W.l.length pa.lc, .slice pa.M W.m.length pa.mc, .int .i64 W.l.length, .int .i64 W.m.length, .string (bs []), .bool false], .agg #[.int .i64 s.i, .int .i64 s.j, .string (bs s.a), .bool s.r], fnM b1 b2, .int .i64 (W.moves s)[i].1, .agg (stC (W.moves s)[i].2), undef, undef, undef, undef, undef, undef, undef, undef, undef, undef, undef, undef], defers := [] } _ (Run.exI L' (Run.exI W1.heap.size (Run.exI (W.moves s)[i] (Run.pureI ⟨hkn, List.getElem?_eq_getElem hi, rfl⟩ (h3.perm (by ac_rfl)))))))
        clear hI h1 h2 h3 hK hkn
        unfold encM
        generalize (W.moves s)[i] = x at *
        obtain ⟨xc, ⟨xi, xj, xa, xr⟩⟩ := x
        unfold stC
        unfold stC at HF
        gi_wp2
        exact HF.out
      · intro lo m i hi a' R W1 hR hI
        obtain ⟨L', h1⟩ := hI.ex
        obtain ⟨g, h1⟩ := h1.ex
        obtain ⟨x, h1⟩ := h1.ex
        obtain ⟨⟨hkn, hx, rfl⟩, h2⟩ := h1.pure
        have hxe : (W.moves s)[i] = x := by rw [List.getElem?_eq_getElem hi] at hx; injection hx
        have hmem : (x.1, x.2) ∈ W.moves s := by rw [← hxe]; exact List.getElem_mem hi
        have hmo := moves_ok HS.out hmem
        have hgc := good_cost HG.out hmem
        have hd0 := dist_nonneg HG.out hmo.1
        have hd1 := dist_never hmo.1
        have hm0 := minF_pos HG.out HS.out i
        have hm1 := minF_le (W := W) (s := s) (i := i)
        have okY : (star (CellO g (stC x.2) 62) (star (CellO g7 #[.int .i64 (minF W s i)] 3) (star (CellO (gc + 1) (stC s) 62) (star (CellO gc (costC W pa b) 69) (star X R))))).Ok := star_ok cell_ok (star_ok cell_ok (star_ok cell_ok (star_ok cell_ok (star_ok HX.out hR))))
        have h3 := (h2.perm (by unfold FrO; ac_rfl) : Run F0 w0 (star (StM b L') (star (CellO g (stC x.2) 62) (star (CellO g7 #[.int .i64 (minF W s i)] 3) (star (CellO (gc + 1) (stC s) 62) (star (CellO gc (costC W pa b) 69) (star X R)))))) W1).drew (star_ok stm_ok okY)
        have KI := hide (IH.out x.2 L' _ W1.drew (by have := HN.out; omega) hmo.1 (move_ahead HT.out HA.out hmem) hkn.kn okY h3)
        have hfc := fro_cells (s := s) (gs := gc + 1) (h3.perm (by unfold FrO; ac_rfl) : Run F0 w0 (FrO W pa b s gc (gc + 1) L' (star (CellO g (stC x.2) 62) (star (CellO g7 #[.int .i64 (minF W s i)] 3) (star X R)))) _)
        obtain ⟨-, ⟨d0, d1, d2, d3, d4, d5, d6, d7, d8, d9⟩, -⟩ := hfc
        obtain ⟨y0, y1, y2, y3, -⟩ := run_c4 (h3.drop : Run F0 w0 (star (CellO g #[.int .i64 x.2.i, .int .i64 x.2.j, .string (bs x.2.a), .bool x.2.r] 62) _) _)
        obtain ⟨F7, hF7⟩ := h3.drop.drop.fst
        have e7 := cell_at (i := 0) hF7 rfl
        have HSU := hide (minF_succ hi)
        have HKS := hide (fun L'' h1 h2 h3 => kni_succ (L'' := L'') hi hkn h1 (by rw [hxe]; exact h2) (by rw [hxe]; exact h3))
        rw [hxe] at HSU
        unfold FromRet at KI
        have HOY := hide okY
        have HRR := hide hR
        clear hI h1 h2 h3 hkn hx hxe hmem hmo hF7 okY hR hi
        generalize W.dist x.2 = dd at *
        generalize minF W s i = mm at *
        obtain ⟨xc, ⟨xi, xj, xa, xr⟩⟩ := x
        unfold costV stV costC stC at KI
        unfold stC
        simp only at *
        refine wpIn_block ?_
        refine region_in_les [4, 7] [1, 1, 0, 0, 1, 1, 1, 2] (fun w' => w' = W1.drew) [fun w' => w'.cell? ⟨g7, 0, none⟩ = some (.int .i64 mm)] ⟨fun w h => by rw [h]; exact e7, trivial⟩ rfl (fun ⟨a, w, h⟩ => h) rfl (by kernel_rfl) (by kernel_rfl) (by kernel_rfl) rfl ?_
        generalize W1.drew = W2 at *
        (repeat (first | (refine les_skip (by rfl) (by rfl) ?_; try simp only [Act.put, List.setIfInBounds_toArray, List.set_cons_zero, List.set_cons_succ]) | (refine les_read (v := ?_) (by rfl) (by rfl) ?_ ?_; rotate_left; (focus (intro w' hS'; (try simp only [stL] at hS'); go_simp; (try with_reducible rfl); done)); try simp only [Act.put, List.setIfInBounds_toArray, List.set_cons_zero, List.set_cons_succ])))
        refine les_chain rfl (by rfl) (fun K hK => ?_)
        go_wp2_with fail
        refine KI.out.mono ?_
        rintro e9 w9 ⟨L'', rfl, k1, k2, k3, hR9⟩
        have hR9' := (hR9.perm (by unfold FrO costC stC; ac_rfl) : Run F0 w0 (star (CellO g7 #[.int .i64 mm] 3) (star (FrO W pa b s gc (gc + 1) L'' X) (star (CellO g #[.int .i64 xi, .int .i64 xj, .string (bs xa), .bool xr] 62) R))) w9)
        have okZ : (star (FrO W pa b s gc (gc + 1) L'' X) (star (CellO g #[.int .i64 xi, .int .i64 xj, .string (bs xa), .bool xr] 62) R)).Ok := star_ok (fro_ok HX.out) (star_ok cell_ok HRR.out)
        obtain ⟨F7, hF7⟩ := hR9'.fst
        have q7 := cell_at (i := 0) hF7 rfl
        have p7 := cell_free hF7 0
        have H9 := hide (run_setc hR9' okZ 0 (.int .i64 (min mm (xc + dd))))
        have HK2 := hide (HKS.out L'' k1 k2 k3)
        refine hK.out _ _ q7 ?_
        clear hK KI hF7 hR9 hR9' k1 k2 k3 HKS okZ y0 y1 y2 y3 e7 d0 d1 d2 d3 d4 d5 d6 d7 d8 d9
        (repeat (first | (refine les_skip (by rfl) (by rfl) ?_; try simp only [Act.put, List.setIfInBounds_toArray, List.set_cons_zero, List.set_cons_succ]) | (refine les_read (v := ?_) (by rfl) (by rfl) ?_ ?_; rotate_left; (focus (intro w' hS'; (try simp only [stL] at hS'); go_simp; (try with_reducible rfl); done)); try simp only [Act.put, List.setIfInBounds_toArray, List.set_cons_zero, List.set_cons_succ])))
        refine les_chain rfl (by rfl) (fun K hK => ?_)
        go_wp2
        have hwr : wrap64 (xc + dd) = xc + dd := by
          unfold never at hd1
          exact IntWalk.wrap64_in (xc + dd) (by omega)
        rw [hwr]
        refine hK.out _ _ trivial (les_nil ?_)
        have hfin : Run F0 w0 (star (exA fun L' : List (St × Int) => pur (KnI W s L (i + 1) L') (star (CellO g7 #[.int .i64 (minF W s (i + 1))] 3) (FrO W pa b s gc (gc + 1) L' X))) R) (w9.setCell ⟨g7, 0, none⟩ (.int .i64 (min mm (xc + dd)))) := by
          refine Run.exI L'' (Run.pureI HK2.out ?_)
          rw [HSU.out]
          exact (H9.out.perm (by ac_rfl) : Run F0 w0 (star (CellO g #[.int .i64 xi, .int .i64 xj, .string (bs xa), .bool xr] 62) (star (star (CellO g7 #[.int .i64 (min mm (xc + dd))] 3) (FrO W pa b s gc (gc + 1) L'' X)) R)) _).drop
        exact hfin
      · intro D R W1 hR hI
        obtain ⟨L', h1⟩ := hI.ex
        obtain ⟨hkn, h2⟩ := h1.pure
        obtain ⟨k1, k2, k3, k4⟩ := kni_end hkn HS.out HIN.out
        rw [minF_all HS.out] at h2
        have okY : (star (ObjO D (.deferred (some []))) (star (CellO g7 #[.int .i64 (W.dist s)] 3) (star (CellO (gc + 1) (stC s) 62) (star (CellO gc (costC W pa b) 69) (star X R))))).Ok := star_ok obj_ok (star_ok cell_ok (star_ok cell_ok (star_ok cell_ok (star_ok HX.out hR))))
        have h3 := (h2.perm (by unfold FrO; ac_rfl) : Run F0 w0 (star (StM b L') (star (ObjO D (.deferred (some []))) (star (CellO g7 #[.int .i64 (W.dist s)] 3) (star (CellO (gc + 1) (stC s) 62) (star (CellO gc (costC W pa b) 69) (star X R)))))) W1)
        obtain ⟨⟨c0, c1, c2, c3⟩, ⟨d0, d1, d2, d3, d4, d5, d6, d7, d8, d9⟩, -⟩ := fro_cells (h3.perm (by unfold FrO; ac_rfl) : Run F0 w0 (FrO W pa b s gc (gc + 1) L' (star (ObjO D (.deferred (some []))) (star (CellO g7 #[.int .i64 (W.dist s)] 3) (star X R)))) W1)
        obtain ⟨F7, hF7⟩ := h3.drop.drop.fst
        have e7 := cell_at (i := 0) hF7 rfl
        obtain ⟨FM, hFM, -, bk⟩ := h3.take stm_ok okY
        obtain ⟨w', hup, hpost⟩ := mapO_put keyOk_st Tryz.underlying67 hFM s (.int .i64 (W.dist s))
        have h4 := bk _ _ hpost
        have emp : mput (L'.map fun p => (p.1, Value.int .i64 p.2)) s (.int .i64 (W.dist s)) = (L' ++ [(s, W.dist s)]).map fun p => (p.1, Value.int .i64 p.2) := by
          rw [mput_new_ (by rw [List.map_map]; exact k4), List.map_append]; rfl
        rw [emp] at h4
        have H4 := hide (show Run F0 w0 (star (StM b (L' ++ [(s, W.dist s)])) _) w' from h4)
        obtain ⟨F8, hF8⟩ := h4.drop.drop.fst
        have e8 := cell_at (i := 0) hF8 rfl
        obtain ⟨FD, hD, -, bk2⟩ := (H4.out.rot).take obj_ok (star_ok stm_ok (star_ok cell_ok (star_ok cell_ok (star_ok cell_ok (star_ok HX.out hR)))))
        have HD := hide hD.1
        have h5 := (bk2 _ _ (obj_put hD (.deferred none))).perm (by ac_rfl : _ = star (star (ObjO D (.deferred none)) (star (CellO g7 #[.int .i64 (W.dist s)] 3) (star (CellO (gc + 1) (stC s) 62) (star (CellO gc (costC W pa b) 69) R)))) (star (StM b (L' ++ [(s, W.dist s)])) X))
        have HF := hide (show FromRet W s L F0 w0 b X (.returned (.int .i64 (W.dist s))) (w'.putObj D (.deferred none)) from ⟨_, rfl, k1, k2, k3, h5.drop⟩)
        unfold stV stC at hup
        clear hI h1 h2 h3 h4 h5 hkn k1 k2 k3 k4 okY hF7 hF8 hFM bk hpost emp H4 hD bk2 hR
        dsimp only
        go_wp2_with fail
        refine ⟨by simp, .inl ⟨_, _, rfl, run_takeDeferred HD.out, ?_⟩⟩
        refine ⟨_, results_tmp rfl _ _ _, ?_⟩
        exact HF.out
      · intro D c R W1 hR hI
        exact hI.no.elim
    have HC := hide cut
    clear cut hKr
    obtain ⟨⟨c0, c1, c2, c3⟩, ⟨d0, d1, d2, d3, d4, d5, d6, d7, d8, d9⟩, F, hF⟩ := fro_cells H3.out.drop
    obtain ⟨F7, hF7⟩ := H3.out.fst
    have e7 := cell_at (i := 0) hF7 rfl
    have f7 := cell_free hF7 0
    by_cases hfin : s = W.fin
    · rw [decide_eq_true hfin] at heq
      have HM0 := hide (show minF W s 0 = 0 from by rw [minF_zero, if_pos hfin])
      clear hfin hF hF7
      unfold Wd.fin at heq
      simp only at heq
      have heq2 := heq w3
      clear heq
      iterate 15 (first | go_values | go_guarded | go_step)
      refine wp_eql_agg rfl rfl rfl (by kernel_rfl) heq2 ?_
      go_wp2
      refine HC.out _ _ _ _ _ _ ?_
      rw [HM0.out]
      exact run_setc H3.out (fro_ok HX.out) 0 (.int .i64 0)
    · rw [decide_eq_false hfin] at heq
      have HM0 := hide (show minF W s 0 = 1099511627776 from by rw [minF_zero, if_neg hfin]; rfl)
      clear hfin hF hF7
      unfold Wd.fin at heq
      simp only at heq
      have heq2 := heq w3
      clear heq
      iterate 15 (first | go_values | go_guarded | go_step)
      refine wp_eql_agg rfl rfl rfl (by kernel_rfl) heq2 ?_
      go_wp2
      refine HC.out _ _ _ _ _ _ ?_
      rw [HM0.out]
      exact H3.out
end Go.Proofs.YtnppgomhhcbplaaGreatDoor
