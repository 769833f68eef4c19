/-
  Net: the walk of NetNil.
-/
import Derived.Test.YtolpcjpnjicmkaaOrder
import Derived.OwnWalk
import Derived.Laws.OwnMore
import Derived.Laws.BytesArg
set_option linter.unusedSimpArgs false
set_option linter.unusedVariables false
namespace Go.Proofs.Ytolpcjpnjicmkaa
open Go.RowKit Go.CH
open Go.ChangeMaps (setBlock)

theorem u8Ok : SliceOk Try.prog 49 5 (.int .u8 0) 1 1 := ⟨Try.underlying49, by kernel_rfl, rfl, by decide⟩
def nums (xs : List Int) : List Value := xs.map (Value.int .u8)
theorem nums_one (xs : List Int) : ∀ u ∈ nums xs, u.oneCell' = true := by
  intro u hu
  simp only [nums, List.mem_map] at hu
  obtain ⟨x, _, rfl⟩ := hu
  rfl
/-- string(b), of a row of one's own. -/
theorem conv_own {W : World} {N n c : Nat} {A : Option Addr} {xs : List Int} (h : W.ownsRow N 5 1 (.slice A n c) n (nums xs)) (hn : 0 < n) :
    (convert 49 9 (.slice A n c)).run Try.prog W = .ok (.string (strOfNums xs)) W ∧ (strOfNums xs).size = n := by
  have hl : xs.length = n := by have := h.1; simpa [nums] using this
  obtain ⟨g, cap, hv, _, _⟩ := h.form hn
  injection hv with e1 e2 e3
  subst e1 e3
  refine ⟨run_convert_bytes_arg W 49 5 Try.underlying49 Try.underlying5 g 0 n c xs hl (fun i hi => ?_) 9 Try.underlying9, by rw [strOfNums_size, hl]⟩
  have := h.cells (g := g) rfl i (.int .u8 (xs.getD i 0)) (by simp [nums, List.getD, List.getElem?_eq_getElem (show i < xs.length by omega)])
  rw [Addr.add_zero_] at this
  simpa using this
/-- make([]byte, n). -/
theorem wpList_make_u8 {w : World} {ops : Array Oper} {rest : List Oper} {o : Oper} {a : Act} {Q : Exit → Act → World → Prop} (hg : o.guard = none) (l c : Operand) (hop : o.op = Op.makeSlice 49 l c) (n : Nat) (hn : n ≤ 1000000)
    (hl : a.eval l = .int .i64 n) (hc : a.eval c = .int .i64 n)
    (hK : ∀ w' g xs, w'.ownsRow w.heap.size 5 1 (.slice (some ⟨g, 0, none⟩) n n) n (nums xs) → w.grownBy w' none → wpList Try.prog ops Q rest (a.put o.dst (.slice (some ⟨g, 0, none⟩) n n)) w') :
    wpList Try.prog ops Q (o :: rest) a w := by
  obtain ⟨ht, hi, hz, hsz⟩ := u8Ok
  obtain ⟨i, hi, hi1, hi2, hi3⟩ := info_parts hi
  refine wpList_make_full w hg l c 49 hop w.heap.size 5 i _ 1 ht hi hi1 hi2 .i64 .i64 n n n hl hc rfl rfl (by rw [hi3]; omega) (by simp only [maxLen]; omega) (Nat.le_refl _) (fun w' h1 h2 => ?_)
  refine hK w' _ (List.replicate n 0) ?_ h2
  have e : (madeCells (Value.int .u8 0).cells (n * 1)).toList = nums (List.replicate n 0) := by
    rw [Nat.mul_one, show (Value.int .u8 0).cells = #[.int .u8 0] from rfl, toList_madeCells_one]; simp [nums]
  rw [← e]; exact h1

theorem kn_nil (a b : Int) (w : World) : Kn w (.pointer none) a b false := .inl ⟨rfl, rfl⟩
theorem waiting_nil (a b : Int) (w : World) : Calls Try.prog 14 #[.pointer none, .int .i64 a, .int .i64 b] w fun e w' => ∃ A c, e = .returned (.slice A 0 c) ∧ Below w.heap.size w w' := by
  refine (waiting_no (.pointer none) a b w (kn_nil a b w)).mono fun e w' hp => ?_
  obtain ⟨v, he, ho, hb⟩ := hp
  obtain ⟨A, c, hv, _⟩ := listAt_of_own ho
  subst hv
  exact ⟨A, c, he, hb⟩

def one01 (s : ByteArray) : NetM := ⟨2, fun x => if x = (0, 1) then [s] else [], fun _ => false⟩
def emp2 : NetM := ⟨2, fun _ => [], fun _ => false⟩
theorem emp2_E (s : ByteArray) (hs : s.size ≤ 20000) : sendE emp2 0 1 s = 0 := by
  have h1 : ¬ (knowsB emp2.nodes 0 1 = false ∨ 20000 < s.size) := by
    rw [show knowsB emp2.nodes 0 1 = true from rfl]; simp; omega
  unfold sendE
  rw [if_neg h1, if_neg (by simp [emp2]), if_neg (by simp [emp2])]
theorem emp2_R (s : ByteArray) (hs : s.size ≤ 20000) : sendR emp2 0 1 s = one01 s := by
  unfold sendR
  rw [emp2_E s hs, if_pos rfl]
  simp only [sendM, emp2, one01, NetM.mk.injEq, true_and, and_true]
  funext x
  simp only [upd]
  by_cases hx : x = (0, 1) <;> simp [hx]
theorem one01_E (s t : ByteArray) (ht : 20000 < t.size) : sendE (one01 s) 0 1 t = 1 := by
  unfold sendE
  rw [if_pos (.inr ht)]
theorem one01_R (s t : ByteArray) (ht : 20000 < t.size) : sendR (one01 s) 0 1 t = one01 s := by
  unfold sendR
  rw [one01_E s t ht, if_neg (by decide)]
theorem one01_W (s : ByteArray) : waitM (one01 s) 0 1 = [s] := by
  unfold waitM
  rw [if_pos (by rfl)]; simp [one01]

/-- The network, apart from the row v. -/
def NilS (N : Nat) (w : World) (m : NetM) (p : Nat) (v : Value) (W : World) : Prop := StG N w (fun i => v.ownBlock = some i) m p W
theorem NilS.start {N : Nat} {w W W' : World} {m : NetM} {p : Nat} {v : Value} {n : Nat} {xs : List Value} (h : St N w m p W) (hN : N ≤ w.heap.size) (ho : W'.ownsRow W.heap.size 5 1 v n xs) (hg : W.grownBy W' none) : NilS N w m p v W' := by
  have hb : Below W.heap.size W W' := Below.grown (Below.refl _ _) hg (Nat.le_refl _) (fun k h => by cases h)
  have h1 := (StG.of_st h).extend hN hb
  exact h1.mod (H := fun _ => False) (Mod.refl _ _) (fun _ h => h.elim) (fun _ h => h.elim) hN (fun i hi hg => .inr ⟨(ho.lt i hg).1, hi⟩)
theorem NilS.send {N : Nat} {w W : World} {m : NetM} {p : Nat} {v : Value} {n : Nat} {xs : List Value} {B : Nat} (h : NilS N w m p v W) (hN : N ≤ w.heap.size) (ho : W.ownsRow B 5 1 v n xs) (t : ByteArray) {e : Int} (he : sendE m 0 1 t = e) {m' : NetM} (hm : sendR m 0 1 t = m') :
    Calls Try.prog 11 #[.pointer (some ⟨p, 0, none⟩), .int .i64 0, .int .i64 1, .string t] W fun x W' => x = .returned (.int .i64 e) ∧ NilS N w m' p v W' ∧ W'.ownsRow B 5 1 v n xs :=
  (StG.send h hN (fun i hi => ownsRow_lt ho hi) 0 1 t he hm).mono fun x W' hp => ⟨hp.1, hp.2.1, ownsRow_of_block ho (fun i hi => hp.2.2.block i (ownsRow_lt ho hi) (fun hn => hn hi))⟩
theorem NilS.grow {N : Nat} {w W W' : World} {m : NetM} {p : Nat} {v : Value} {n : Nat} {xs : List Value} {B : Nat} {o : Obj} (h : NilS N w m p v W) (hN : N ≤ w.heap.size) (hB : N ≤ B) (ho : W.ownsRow B 5 1 v n xs)
    (hg : (W.alloc o).grownBy W' v.ownBlock) : St N w m p W' :=
  StG.lift (W := W') (W' := W') (StG.mod (W' := W') (StG.below h hN (below_alloc W o)) (G' := fun _ => False) (Mod.of_grown (F := fun i => v.ownBlock = some i) hg (fun k hk _ => hk)) (fun i hi => hi) (fun i hi => Nat.le_trans hB (ho.lt i hi).1) hN (fun i _ h => h.elim))

theorem conv_grown {W : World} {N n : Nat} {v : Value} {xs : List Int} (h : W.ownsRow N 5 1 v (n + 1) (nums xs ++ [.int .u8 120])) : ∃ s : ByteArray, (convert 49 9 v).run Try.prog W = .ok (.string s) W ∧ n < s.size := by
  have e : nums xs ++ [Value.int .u8 120] = nums (xs ++ [120]) := by simp [nums]
  rw [e] at h
  obtain ⟨g, c, rfl, _⟩ := h.form (by omega)
  obtain ⟨h1, h2⟩ := conv_own h (by omega)
  exact ⟨_, h1, by omega⟩

set_option maxRecDepth 100000 in
set_option maxHeartbeats 4000000 in
theorem nil_any (a b : Int) (lost again : Bool) (t : ByteArray) (w : World) :
    Calls Try.prog 6 #[.int .i64 a, .int .i64 b, .bool lost, .bool again, .string t] w (BelowRet w (.bool true)) := by
  go_enter Try.func6, Try.ntmps6
  go_wp2_with fail
  refine (head_any _).mono ?_
  rintro e w0 ⟨rfl, hb0⟩
  go_wp2_with fail
  refine (deliver_no none a b lost again _ (kn_nil a b _)).mono ?_
  rintro e w1 ⟨rfl, hb1⟩
  go_wp2_with fail
  refine (send_no (.pointer none) a b t _ (kn_nil a b _)).mono ?_
  rintro e w2 ⟨rfl, hb2⟩
  go_wp2_with fail
  refine (waiting_nil a b _).mono ?_
  rintro e w3 ⟨A, c, rfl, hb3⟩
  go_wp2_with fail
  refine (cut_nil a b _).mono ?_
  rintro e w4 ⟨rfl, hb4⟩
  go_wp2_with fail
  refine (heal_nil a b _).mono ?_
  rintro e w5 ⟨rfl, hb5⟩
  have hb15 : Below w.heap.size w w5 := hb0.trans ((hb1.trans ((hb2.trans ((hb3.trans ((hb4.trans (hb5.mono hb4.size)).mono hb3.size)).mono hb2.size)).mono hb1.size)).mono hb0.size)
  clear hb0 hb1 hb2 hb3 hb4 hb5
  go_wp2_with fail
  refine (new_yes 2 _ (by omega) (by omega)).mono ?_
  rintro e w6 ⟨p, rfl, hN1, hb6⟩
  have s0 : St w5.heap.size w5 emp2 p w6 := ⟨_, hN1, fun i hi => hi.1, hb6⟩
  have S0 := hide s0
  have hN := Nat.le_refl w5.heap.size
  have h65 := hb6.size
  clear hN1 hb6 s0
  go_wp2_with (refine wpList_make_u8 rfl (.const (.int .i64 20000)) (.const (.int .i64 20000)) rfl 20000 (by omega) rfl rfl ?_
               intro w7 g xs ho7 hg7
               have s7 := NilS.start S0.out hN ho7 hg7
               obtain ⟨hconv, hsz⟩ := conv_own ho7 (by omega)
               have S7 := hide s7; have HO7 := hide ho7; have HSZ := hide hsz
               clear s7 ho7 hg7 hsz)
  refine (NilS.send S7.out hN HO7.out (strOfNums xs) (emp2_E _ (by rw [HSZ.out]; omega)) (emp2_R _ (by rw [HSZ.out]; omega))).mono ?_
  rintro e w8 ⟨rfl, s8, ho8⟩
  have S8 := hide s8; have HO8 := hide ho8
  have h86 : w6.heap.size ≤ w8.heap.size := Nat.le_of_lt (Nat.lt_of_le_of_lt (ho8.lt g rfl).1 (ho8.lt g rfl).2)
  clear s8 ho8 hconv
  go_wp2_with fail
  refine wp_app (.tmp 83) (.tmp 84) rfl u8Ok _ w6.heap.size (v := .slice (some ⟨g, 0, none⟩) 20000 20000) (n := 20000) (xs := nums xs) rfl (by exact ownsRow_of_block HO8.out (fun i hi => heap_old (ownsRow_lt HO8.out hi))) (A := some ⟨w8.heap.size, 0, none⟩) (m := 1) (c := 1) (news := [.int .u8 120]) rfl (by exact Src.one (heap_new rfl) rfl) (by omega) (by omega) (by exact Nat.le_trans h86 (by simp)) ?_
  intro v9 w9 ho9 hg9 hv9
  have s9 := NilS.grow S8.out hN h65 HO8.out hg9
  obtain ⟨s9s, hconv9, hsz9⟩ := conv_grown ho9
  have S9 := hide s9; have HSZ9 := hide hsz9
  clear s9 ho9 hg9 hv9 hsz9
  go_wp2_with fail
  refine (S9.out.send hN 0 1 s9s (one01_E _ _ HSZ9.out) (one01_R _ _ HSZ9.out)).mono ?_
  rintro e w10 ⟨rfl, s10⟩
  have KW := hide (s10.waiting hN 0 1 (one01_W _))
  have S10 := hide s10
  clear s10 hconv9
  go_wp2_with (go_at_call 14; go_must (refine KW.out.mono ?_); rintro e w11 ⟨A2, c2, rfl, ho2, hb2, s11⟩)
  go_ret
  obtain ⟨_, _, _, hb11⟩ := s11
  exact ⟨rfl, hb15.trans (hb11.mono hb15.size)⟩
end Go.Proofs.Ytolpcjpnjicmkaa
