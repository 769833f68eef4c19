/-
  Ranging over a map: each step hands out an entry that is still to come, in whatever order.
-/
import Derived.Test.YtapabbpdfplpoaaTree
set_option linter.unusedSimpArgs false
set_option linter.unusedVariables false
namespace Go.CH
open Go.RowKit
open Go.ChangeMaps (setBlock)
section
variable {P : Program}
/-- The iterator in block r over the map b with the entries es: left are those to come. -/
def IterAt (w : World) (r b : Nat) (es : Array MapEntry) (clock : Nat) (left : List MapEntry) : Prop :=
  ∃ seen, w.heap[r]? = some (.mapIter (some b) clock seen clock) ∧ left = es.toList.filter (fun e => !seen.contains e.born)
theorem run_range_map {t K E : TypeId} (ht : P.underlying t = some (.map K E)) {w : World} {b : Nat} {es : Array MapEntry} {clock : Nat} (hb : w.heap[b]? = some (.map es clock)) :
    (Instr.range t (.map (some b))).run P w = .ok (.pointer (some ⟨w.heap.size, 0, none⟩)) (w.alloc (.mapIter (some b) clock #[] clock)) ∧ IterAt (w.alloc (.mapIter (some b) clock #[] clock)) w.heap.size b es clock es.toList := by
  refine ⟨?_, #[], heap_new rfl, (List.filter_eq_self.2 (by simp)).symm⟩
  simp only [Instr.range, Sem.run_bind, run_underlying ht, Result.andThen_ok, MapKept.run_getObj_map hb, Sem.run_pure]
  rfl
theorem run_getObj_iter {w : World} {r b : Nat} {c : Nat} {seen : Array Nat} {l : Nat} (h : w.heap[r]? = some (.mapIter (some b) c seen l)) : (getObj r).run P w = .ok (.mapIter (some b) c seen l) w := by
  simp [getObj, Sem.run, h]
theorem run_setObj_iter {w : World} {r b : Nat} {c : Nat} {seen : Array Nat} {l : Nat} (h : w.heap[r]? = some (.mapIter (some b) c seen l)) (o : Obj) : (setObj r o).run P w = .ok () (setBlock w r o) := by
  simp [setObj, Sem.run, h, setBlock]
theorem filter_push (es : List MapEntry) (seen : Array Nat) (hn : (es.map (·.born)).Nodup) {i : Nat} (hi : i < (es.filter (fun e => !seen.contains e.born)).length) :
    es.filter (fun e => !(seen.push (es.filter (fun e => !seen.contains e.born))[i].born).contains e.born) = (es.filter (fun e => !seen.contains e.born)).eraseIdx i := by
  have h1 : es.filter (fun e => !(seen.push (es.filter (fun e => !seen.contains e.born))[i].born).contains e.born) =
      (es.filter (fun e => !seen.contains e.born)).filter (fun e => !(e.born == (es.filter (fun e => !seen.contains e.born))[i].born)) := by
    rw [List.filter_filter]
    refine List.filter_congr fun e _ => ?_
    rw [Array.contains_push, Bool.not_or, Bool.and_comm]
  rw [h1]
  have hn2 : ((es.filter (fun e => !seen.contains e.born)).map (·.born)).Nodup := (List.filter_sublist.map _).nodup hn
  generalize es.filter (fun e => !seen.contains e.born) = l at hi hn2
  clear h1 hn
  induction l generalizing i with
  | nil => simp at hi
  | cons a l ih =>
    rw [List.map_cons, List.nodup_cons] at hn2
    cases i with
    | zero =>
      simp only [List.getElem_cons_zero, List.eraseIdx_cons_zero]
      rw [List.filter_cons_of_neg (by simp)]
      rw [List.filter_eq_self]
      intro e he
      simp only [Bool.not_eq_true', beq_eq_false_iff_ne]
      intro h; exact hn2.1 (h ▸ List.mem_map.2 ⟨e, he, rfl⟩)
    | succ i =>
      simp only [List.getElem_cons_succ, List.eraseIdx_cons_succ]
      have hi' : i < l.length := by simpa using hi
      rw [List.filter_cons_of_pos]
      · rw [ih hi' hn2.2]
      · simp only [Bool.not_eq_true', beq_eq_false_iff_ne]
        intro h; exact hn2.1 (h ▸ List.mem_map.2 ⟨l[i], List.getElem_mem hi', rfl⟩)
/-- A step. -/
theorem run_next_map {w : World} {r b : Nat} {es : Array MapEntry} {clock : Nat} {left : List MapEntry} (h : IterAt w r b es clock left) (hb : w.heap[b]? = some (.map es clock)) (hborn : ∀ e ∈ es.toList, e.born < clock) (hn : (es.toList.map (·.born)).Nodup) (ty : TypeId) :
    (left = [] ∧ (Instr.next (.pointer (some ⟨r, 0, none⟩)) false ty).run P w = .ok (.tuple #[.bool false]) w) ∨
    ∃ (i : Nat) (hi : i < left.length) (w' : World), (Instr.next (.pointer (some ⟨r, 0, none⟩)) false ty).run P w = .ok (.tuple #[.bool true, left[i].key, left[i].val]) w' ∧ IterAt w' r b es clock (left.eraseIdx i) ∧ Mod (fun i => i = r) w w' ∧ w'.heap.size = w.heap.size ∧
      ∀ w'' : World, w''.heap[r]? = w'.heap[r]? → w''.heap[b]? = some (.map es clock) → (Instr.entry (.pointer (some ⟨r, 0, none⟩))).run P w'' = .ok (.tuple #[left[i].key, left[i].val]) w'' := by
  obtain ⟨seen, hr, hl⟩ := h
  have hg : (!seen.isEmpty && !es.isEmpty && es.all (·.born ≥ clock)) = false := by
    cases he : es.toList with
    | nil => have : es = #[] := by simpa using he
             subst this; simp
    | cons e l =>
      have h1 := hborn e (by rw [he]; simp)
      have : es.all (fun x => decide (x.born ≥ clock)) = false := by
        rw [← Array.all_toList, he, List.all_cons]
        simp; intro h; omega
      rw [this, Bool.and_false]
  have hle : (es.filter fun e : MapEntry => !seen.contains e.born).toList = left := by rw [hl]; simp
  have hold : (es.filter fun e : MapEntry => !seen.contains e.born).filter (fun e => decide (e.born < clock)) = es.filter fun e : MapEntry => !seen.contains e.born := by
    apply Array.toList_inj.1
    rw [Array.toList_filter, hle, List.filter_eq_self]
    intro e he
    rw [hl] at he
    simpa using hborn e (List.mem_filter.1 he).1
  have hnew : (es.filter fun e : MapEntry => !seen.contains e.born).filter (fun e => decide (e.born ≥ clock)) = #[] := by
    apply Array.toList_inj.1
    rw [Array.toList_filter, hle, List.filter_eq_nil_iff.2]
    intro e he
    rw [hl] at he
    have := hborn e (List.mem_filter.1 he).1
    simp; omega
  have hrun0 : ∀ w1 : World, True := fun _ => trivial
  cases hlc : left with
  | nil =>
    left
    refine ⟨rfl, ?_⟩
    have hemp : (es.filter fun e : MapEntry => !seen.contains e.born) = #[] := by apply Array.toList_inj.1; rw [hle, hlc]
    simp only [Instr.next, Sem.run_bind, run_getObj_iter hr, Result.andThen_ok, MapKept.run_getObj_map hb, hg, Bool.false_eq_true, if_false, Sem.run_pure, hold, hnew, hemp]
    simp [choose, Sem.run, Question.forced]
  | cons e0 l0 =>
    right
    have hne : (es.filter fun e : MapEntry => !seen.contains e.born).isEmpty = false := by
      rw [← Array.isEmpty_toList, hle, hlc]; rfl
    have hsz : ((es.filter fun e : MapEntry => !seen.contains e.born) ++ #[]).size = left.length := by rw [Array.append_empty, ← Array.length_toList, hle]
    have key : ∀ i (hi : i < left.length) (w1 : World), w1.heap = w.heap → w1.os = w.os → w1.tape = w.tape → w1.output = w.output →
        IterAt (setBlock w1 r (.mapIter (some b) clock (seen.push left[i].born) clock)) r b es clock (left.eraseIdx i) ∧ Mod (fun i => i = r) w (setBlock w1 r (.mapIter (some b) clock (seen.push left[i].born) clock)) ∧
          (setBlock w1 r (.mapIter (some b) clock (seen.push left[i].born) clock)).heap.size = w.heap.size ∧
          (∀ w'' : World, w''.heap[r]? = (setBlock w1 r (.mapIter (some b) clock (seen.push left[i].born) clock)).heap[r]? → w''.heap[b]? = some (.map es clock) → (Instr.entry (.pointer (some ⟨r, 0, none⟩))).run P w'' = .ok (.tuple #[left[i].key, left[i].val]) w'') := by
      intro i hi w1 h1 h2 h3 h4
      have hr1 : w1.heap[r]? = some (.mapIter (some b) clock seen clock) := by rw [h1]; exact hr
      have hnr : (setBlock w1 r (.mapIter (some b) clock (seen.push left[i].born) clock)).heap[r]? = some (.mapIter (some b) clock (seen.push left[i].born) clock) := heap_setBlock_self hr1
      refine ⟨⟨_, hnr, ?_⟩, ⟨h2, h3, h4, by rw [size_setBlock, h1]; exact Nat.le_refl _, fun k hk hkr => by rw [heap_setBlock_ne (fun e => hkr e.symm), h1]⟩, by rw [size_setBlock, h1], fun w'' g1 g2 => ?_⟩
      · subst hl
        exact (filter_push es.toList seen hn hi).symm
      · rw [hnr] at g1
        have hall : ∀ x ∈ left, x ∈ es.toList := by rw [hl]; exact fun x hx => (List.mem_filter.1 hx).1
        have hmem : left[i] ∈ es.toList := hall _ (List.getElem_mem hi)
        have hfind : es.find? (fun x => x.born == left[i].born) = some left[i] := by
          obtain ⟨j, hj⟩ := List.getElem?_of_mem hmem
          have hfi : es.toList.find? (fun x => x.born == left[i].born) = some left[i] := by
            have : ∀ (l : List MapEntry) (j : Nat), (l.map (·.born)).Nodup → l[j]? = some left[i] → l.find? (fun x => x.born == left[i].born) = some left[i] := by
              intro l
              induction l with
              | nil => intro j _ h; simp at h
              | cons x l ih =>
                intro j hn h
                rw [List.map_cons, List.nodup_cons] at hn
                cases j with
                | zero => simp at h; subst h; simp
                | succ j =>
                  have h' : l[j]? = some left[i] := by simpa using h
                  have hne : ¬ x.born = left[i].born := fun e => hn.1 (e ▸ List.mem_map.2 ⟨left[i], List.mem_of_getElem? h', rfl⟩)
                  rw [List.find?_cons_of_neg (by simpa using hne)]
                  exact ih j hn.2 h'
            exact this _ j hn hj
          obtain ⟨es⟩ := es
          simpa using hfi
        simp only [Instr.entry, Sem.run_bind, run_getObj_iter g1, Result.andThen_ok, MapKept.run_getObj_map g2, Array.back?_push, bne_self_eq_false, Bool.false_eq_true, if_false, Sem.run_pure, hfind]
    have hpick : ∀ i (hi : i < left.length), (((#[] : Array (Option MapEntry)) ++ ((es.filter fun e : MapEntry => !seen.contains e.born) ++ #[]).map some)[i]?) = some (some left[i]) := by
      intro i hi
      rw [Array.append_empty, ← Array.getElem?_toList]
      simp only [Array.toList_append, Array.toList_map, hle]
      simp [hi]
    rw [← hlc]
    have hcs : ((#[] : Array (Option MapEntry)) ++ ((es.filter fun e : MapEntry => !seen.contains e.born) ++ #[]).map some).size = left.length := by simp only [Array.size_append, Array.size_map, hsz]; simp
    have hpos : 0 < left.length := by rw [hlc]; simp
    by_cases hf : left.length ≤ 1
    · refine ⟨0, hpos, setBlock w r (.mapIter (some b) clock (seen.push left[0].born) clock), ?_, key 0 hpos w rfl rfl rfl rfl⟩
      simp only [Instr.next, Sem.run_bind, run_getObj_iter hr, Result.andThen_ok, MapKept.run_getObj_map hb, hg, Bool.false_eq_true, if_false, Sem.run_pure, hold, hnew, hne]
      have hc : (choose (.mapNext ((#[] : Array (Option MapEntry)) ++ ((es.filter fun e : MapEntry => !seen.contains e.born) ++ #[]).map some).size) : Sem Nat).run P w = .ok 0 w := by
        rw [hcs]; simp [choose, Sem.run, Question.forced, hf]
      rw [hc]
      simp only [Result.andThen_ok, hpick 0 hpos, Sem.run_bind, run_setObj_iter hr, Sem.run_pure]
    · have hlt : w.tape w.drawn (.mapNext left.length) % left.length < left.length := Nat.mod_lt _ hpos
      refine ⟨_, hlt, setBlock w.drew r (.mapIter (some b) clock (seen.push (left[w.tape w.drawn (.mapNext left.length) % left.length]'hlt).born) clock), ?_, key _ hlt w.drew rfl rfl rfl rfl⟩
      simp only [Instr.next, Sem.run_bind, run_getObj_iter hr, Result.andThen_ok, MapKept.run_getObj_map hb, hg, Bool.false_eq_true, if_false, Sem.run_pure, hold, hnew, hne]
      have hc : (choose (.mapNext ((#[] : Array (Option MapEntry)) ++ ((es.filter fun e : MapEntry => !seen.contains e.born) ++ #[]).map some).size) : Sem Nat).run P w = .ok (w.tape w.drawn (.mapNext left.length) % left.length) w.drew := by
        rw [hcs]; simp [choose, Sem.run, Question.forced, hf, Question.cut]
      rw [hc]
      simp only [Result.andThen_ok, hpick _ hlt, Sem.run_bind, run_setObj_iter (w := w.drew) hr, Sem.run_pure]
end
end Go.CH
