/-
  Net: the walk of NetOrder.
-/
import Derived.Test.YtolpcjpnjicmkaaNet8
set_option linter.unusedSimpArgs false
set_option linter.unusedVariables false
namespace Go.Proofs.Ytolpcjpnjicmkaa
open Go.RowKit Go.CH
open Go.ChangeMaps (setBlock)

def ordM (f t : Int) (q : List ByteArray) : NetM := ⟨4, fun x => if x = (f, t) then q else [], fun _ => false⟩
theorem ordM_q (f t : Int) (q : List ByteArray) : (ordM f t q).q (f, t) = q := by simp [ordM]
theorem ordM_nil (f t : Int) : ordM f t [] = ⟨4, fun _ => [], fun _ => false⟩ := by simp [ordM]
/-- Two different nodes of the four. -/
def Two (f t : Int) : Prop := 0 ≤ f ∧ f < 4 ∧ 0 ≤ t ∧ t < 4 ∧ f ≠ t
theorem ordM_k {f t : Int} (h : Two f t) (q : List ByteArray) : knowsB (ordM f t q).nodes f t = true := by
  obtain ⟨h1, h2, h3, h4, h5⟩ := h
  have h6 : ¬ f = t := h5
  have e : (f == t) = false := by simpa using h6
  show (!(f == t) && !((decide (f < 0) || decide ((4 : Int) ≤ f)) || (decide (t < 0) || decide ((4 : Int) ≤ t)))) = true
  rw [e, decide_eq_false (by omega : ¬ f < 0), decide_eq_false (by omega : ¬ (4 : Int) ≤ f), decide_eq_false (by omega : ¬ t < 0), decide_eq_false (by omega : ¬ (4 : Int) ≤ t)]; rfl
theorem ord_E {f t : Int} (h : Two f t) (q : List ByteArray) (s : ByteArray) (hs : s.size ≤ 100) (hq : q.length < 100) : sendE (ordM f t q) f t s = 0 := by
  have h1 : ¬ (knowsB (ordM f t q).nodes f t = false ∨ 20000 < s.size) := by rw [ordM_k h]; simp; omega
  unfold sendE
  rw [if_neg h1, if_neg (by simp [ordM]), ordM_q, if_neg (by omega)]
theorem ord_R {f t : Int} (h : Two f t) (q : List ByteArray) (s : ByteArray) (hs : s.size ≤ 100) (hq : q.length < 100) : sendR (ordM f t q) f t s = ordM f t (q ++ [s]) := by
  unfold sendR
  rw [ord_E h q s hs hq, if_pos rfl]
  unfold sendM
  rw [ordM_q]
  simp only [ordM, NetM.mk.injEq, true_and, and_true]
  funext x
  simp only [upd]
  by_cases hx : x = (f, t) <;> simp [hx]
theorem ord_D {f t : Int} (h : Two f t) (s : ByteArray) (q : List ByteArray) : delE (ordM f t (s :: q)) f t false = (s, true) := by
  simp [delE, ordM_k h, ordM_q]
theorem ord_P {f t : Int} (h : Two f t) (s : ByteArray) (q : List ByteArray) : delM (ordM f t (s :: q)) f t false false = ordM f t q := by
  have h1 : knowsB (ordM f t (s :: q)).nodes f t = true ∧ (ordM f t (s :: q)).q (f, t) ≠ [] ∧ (false = true ∨ false = false) := ⟨ordM_k h _, by rw [ordM_q]; simp, .inr rfl⟩
  unfold delM
  rw [if_pos h1]
  unfold popM
  rw [ordM_q]
  simp only [ordM, NetM.mk.injEq, true_and, and_true]
  funext x
  simp only [upd]
  by_cases hx : x = (f, t) <;> simp [hx]
theorem ord_W {f t : Int} (h : Two f t) (q : List ByteArray) : waitM (ordM f t q) f t = q := by
  unfold waitM
  rw [if_pos (ordM_k h q), ordM_q]

/-- The network that holds q; the texts g that were received, in a row of their own. -/
def OrdS (N : Nat) (w : World) (f t : Int) (p : Nat) (A : Option Addr) (c : Nat) (g q : List ByteArray) (W : World) : Prop :=
  W.ownsRow N 9 1 (.slice A g.length c) g.length (strs g) ∧ StG N w (fun i => (Value.slice A g.length c).ownBlock = some i) (ordM f t q) p W

theorem StG.bel {N : Nat} {w W : World} {G : Nat → Prop} {m : NetM} {p : Nat} (h : StG N w G m p W) : Below N w W := by obtain ⟨_, _, _, h⟩ := h; exact h
theorem OrdS.lt {N : Nat} {w W : World} {f t : Int} {p : Nat} {A : Option Addr} {c : Nat} {g q : List ByteArray} (h : OrdS N w f t p A c g q W) : ∀ i, (Value.slice A g.length c).ownBlock = some i → i < W.heap.size := fun i hi => ownsRow_lt h.1 hi
theorem OrdS.keep {N : Nat} {w W W' : World} {f t : Int} {p : Nat} {A : Option Addr} {c : Nat} {g q q' : List ByteArray} (h : OrdS N w f t p A c g q W)
    (h1 : StG N w (fun i => (Value.slice A g.length c).ownBlock = some i) (ordM f t q') p W') (hM : Mod (fun i => ¬ (Value.slice A g.length c).ownBlock = some i) W W') : OrdS N w f t p A c g q' W' :=
  ⟨ownsRow_of_block h.1 (fun i hi => hM.block i (h.lt i hi) (fun hn => hn hi)), h1⟩
theorem OrdS.send {N : Nat} {w W : World} {f t : Int} {p : Nat} {A : Option Addr} {c : Nat} {g q : List ByteArray} (h : OrdS N w f t p A c g q W) (hN : N ≤ w.heap.size) (h2 : Two f t) (s : ByteArray) (hs : s.size ≤ 100) (hq : q.length < 100) :
    Calls Try.prog 11 #[.pointer (some ⟨p, 0, none⟩), .int .i64 f, .int .i64 t, .string s] W (fun e W' => e = .returned (.int .i64 0) ∧ OrdS N w f t p A c g (q ++ [s]) W') :=
  (h.2.send hN h.lt f t s (ord_E h2 q s hs hq) (ord_R h2 q s hs hq)).mono fun e W' hp => ⟨hp.1, h.keep hp.2.1 hp.2.2⟩
theorem OrdS.deliver {N : Nat} {w W : World} {f t : Int} {p : Nat} {A : Option Addr} {c : Nat} {g q : List ByteArray} {s : ByteArray} (h : OrdS N w f t p A c g (s :: q) W) (hN : N ≤ w.heap.size) (h2 : Two f t) :
    Calls Try.prog 12 #[.pointer (some ⟨p, 0, none⟩), .int .i64 f, .int .i64 t, .bool false, .bool false] W (fun e W' => e = .returned (.tuple #[.string s, .bool true]) ∧ OrdS N w f t p A c g q W') :=
  (h.2.deliver hN h.lt f t false false (ord_D h2 s q) (ord_P h2 s q)).mono fun e W' hp => ⟨hp.1, h.keep hp.2.1 hp.2.2⟩
/-- got = append(got, s). -/
theorem OrdS.grow {N : Nat} {w W W' : World} {f t : Int} {p : Nat} {A : Option Addr} {c : Nat} {g q : List ByteArray} {s : ByteArray} (h : OrdS N w f t p A c g q W) (hN : N ≤ w.heap.size) {v : Value} {o : Obj}
    (ho : W'.ownsRow N 9 1 v (g.length + 1) (strs g ++ [.string s])) (hg : (W.alloc o).grownBy W' (Value.slice A g.length c).ownBlock) (hv : v.ownBlock = (Value.slice A g.length c).ownBlock ∨ v.ownBlock = some (W.alloc o).heap.size) :
    ∃ A' c', v = .slice A' (g ++ [s]).length c' ∧ OrdS N w f t p A' c' (g ++ [s]) q W' := by
  have e : strs g ++ [.string s] = strs (g ++ [s]) := by simp [strs]
  have e2 : g.length + 1 = (g ++ [s]).length := by simp
  rw [e, e2] at ho
  obtain ⟨A', c', hv', ho'⟩ := listAt_of_own ho
  subst hv'
  refine ⟨A', c', rfl, ho, ?_⟩
  have hS := h.2.size hN
  have h1 := h.2.below hN (below_alloc W o)
  have hM : Mod (fun i => (Value.slice A g.length c).ownBlock = some i) (W.alloc o) W' := Mod.of_grown hg (fun k hk _ => hk)
  refine h1.mod hM (fun i hi => hi) (fun i hi => (h.1.lt i hi).1) hN (fun i hi hi' => ?_)
  rcases hv with hv | hv
  · rw [← hv]; exact hi'
  · rw [hv] at hi'; injection hi' with hi'; omega

theorem wpList_want {P : Program} {ops : Array Oper} {Q : Exit → Act → World → Prop} {a : Act} {w : World} {rest : List Oper} {o : Oper} (hw : Region.wanted o (yielded ops a.tmps) = true)
    (h : ∀ K : Act → World → Prop, (∀ a w, wpList P ops Q rest a w → K a w) → o.wp P a w K Q) : wpList P ops Q (o :: rest) a w :=
  wpList_step fun K hK => by rw [if_pos hw]; exact h K hK
theorem wpList_app_want {P : Program} {ops : Array Oper} {rest : List Oper} {o : Oper} {a : Act} {Q : Exit → Act → World → Prop} (hgd : Region.wanted o (yielded ops a.tmps) = true) (s x : Operand) {t : TypeId}
    (ho : o.op = .call { callee := .builtin .append, args := #[s, x], argTypes := #[t, t] })
    {e : TypeId} {z : Value} {size bytes : Nat} (S : SliceOk P t e z size bytes) (w : World) (base : Nat) {v : Value} {n : Nat} {xs : List Value} (hsv : a.eval s = v) (hown : w.ownsRow base e size v n xs)
    {A : Option Addr} {m c : Nat} {news : List Value} (hx : a.eval x = .slice A m c) (hs : Src w A m size news) (h63 : n + m ≤ 1000000) (hby : bytes ≤ 1000) (hbase : base ≤ w.heap.size)
    (h : ∀ v' w', w'.ownsRow base e size v' (n + m) (xs ++ news) → w.grownBy w' v.ownBlock → (v'.ownBlock = v.ownBlock ∨ v'.ownBlock = some w.heap.size) → wpList P ops Q rest (a.put o.dst v') w') : wpList P ops Q (o :: rest) a w :=
  wpList_want hgd fun _ hK => wp_app s x ho S w base hsv hown hx hs h63 hby hbase fun v' w' h2 h3 h4 => hK _ _ (h v' w' h2 h3 h4)
theorem Src.below {w w' : World} {A : Option Addr} {n size : Nat} {xs : List Value} (h : Src w A n size xs) (hb : Below w.heap.size w w') : Src w' A n size xs :=
  ⟨h.1, h.2.1, fun hn => by
    obtain ⟨ad, e, hc⟩ := h.2.2 hn
    exact ⟨ad, e, fun j u hu => by have h1 := hc j u hu; rw [hb.cell (World.block_lt_of_cell? w _ h1)]; exact h1⟩⟩
theorem ord_take {l g q : List ByteArray} {k : Nat} (h : k < l.length) (hg : g ++ q = l.take k) : g ++ (q ++ [l[k]]) = l.take (k + 1) := by
  rw [← List.append_assoc, hg, List.take_succ_eq_append_getElem h]
set_option maxHeartbeats 400000 in
theorem order_much (A : Option Addr) (n c : Nat) (B : Option Addr) (nb cb : Nat) (a b : Int) (w : World) (hn : 90 < n) :
    Calls Try.prog 3 #[.slice A n c, .int .u8 a, .int .u8 b, .slice B nb cb] w (BelowRet w (.bool true)) := by
  go_enter Try.func3, Try.ntmps3
  go_wp2_with fail
  refine (head_any _).mono ?_
  rintro e w0 ⟨rfl, hb0⟩
  go_wp2
  go_ret
  exact ⟨rfl, hb0⟩
set_option maxHeartbeats 400000 in
theorem order_same (A : Option Addr) (n c : Nat) (B : Option Addr) (nb cb : Nat) (a b : Int) (w : World) (hn : n ≤ 90) (h0 : 0 ≤ a ∧ a ≤ 255) (h1 : 0 ≤ b ∧ b ≤ 255) (he : (a % 4 == b % 4) = true) :
    Calls Try.prog 3 #[.slice A n c, .int .u8 a, .int .u8 b, .slice B nb cb] w (BelowRet w (.bool true)) := by
  go_enter Try.func3, Try.ntmps3
  go_wp2_with fail
  refine (head_any _).mono ?_
  rintro e w0 ⟨rfl, hb0⟩
  go_wp2
  go_ret
  exact ⟨rfl, hb0⟩

set_option maxHeartbeats 4000000 in
theorem order_any (A : Option Addr) (c : Nat) (l : List ByteArray) (B : Option Addr) (cb : Nat) (when_ : List Bool) (a b : Int) (w : World) (hn : l.length ≤ 90) (h0 : 0 ≤ a ∧ a ≤ 255) (h1 : 0 ≤ b ∧ b ≤ 255) (he : (a % 4 == b % 4) = false)
    (hl : Src w A l.length 1 (strs l)) (hw : Src w B when_.length 1 (when_.map Value.bool)) :
    Calls Try.prog 3 #[.slice A l.length c, .int .u8 a, .int .u8 b, .slice B when_.length cb] w (BelowRet w (.bool true)) := by
  have h2 : Two (a % 4) (b % 4) := ⟨by omega, by omega, by omega, by omega, by simpa using he⟩
  have H2 := hide h2
  have HL := hide hl
  have HW := hide hw
  clear h2 hl hw
  go_enter Try.func3, Try.ntmps3
  go_wp2_with fail
  refine (head_any _).mono ?_
  rintro e w0 ⟨rfl, hb0⟩
  go_wp2_with fail
  refine (new_yes 4 _ (by omega) (by omega)).mono ?_
  rintro e w1 ⟨p, rfl, hN1, hb1⟩
  have s0 : OrdS w0.heap.size w0 (a % 4) (b % 4) p none 0 [] [] w1 := ⟨⟨rfl, .inl ⟨rfl, rfl⟩⟩, _, ordM_nil _ _ ▸ hN1, fun i hi => ⟨hi.1, fun h => by cases h⟩, hb1⟩
  have S0 := hide s0
  clear hN1 hb1 s0
  go_wp2_with fail
  have hN := Nat.le_refl w0.heap.size
  go_loopw [14, 15] (fun got i wr => ∃ (k : Nat) (g q : List ByteArray) (A' : Option Addr) (c' : Nat), k ≤ l.length ∧ g ++ q = l.take k ∧ i = .int .i64 k ∧ got = .slice A' g.length c' ∧ OrdS w0.heap.size w0 (a % 4) (b % 4) p A' c' g q wr) (fun _ i _ => l.length - (intOf i).toNat)
  case atStart => exact ⟨0, [], [], none, 0, by omega, rfl, rfl, rfl, S0.out⟩
  case round =>
    obtain ⟨k, g, q, A', c', hk, hgq, rfl, rfl, hS⟩ := hrel
    have hgl : g.length + q.length = k := by have := congrArg List.length hgq; simp at this; omega
    have HS := hide hS
    have HG := hide hgq
    clear hS hgq
    by_cases hlt : k < l.length
    · obtain ⟨ad, rfl, hcx⟩ := HL.out.2.2 (by omega)
      have h1 : w.cell? (ad.add k) = some (.string l[k]) := hcx k _ (by simp [strs, hlt])
      have hr : ∀ W', Below w0.heap.size w0 W' → W'.cell? (ad.add k) = some (.string l[k]) := fun W' hb => by
        have hlt := World.block_lt_of_cell? w _ h1
        rw [hb.cell (Nat.lt_of_lt_of_le hlt hb0.size), hb0.cell hlt]; exact h1
      have hr1 := hr wr HS.out.2.bel
      clear hcx h1
      by_cases hs : l[k].size ≤ 100
      · have KS := hide (HS.out.send hN H2.out l[k] hs (by omega))
        by_cases hkw : k < when_.length
        · obtain ⟨bd, rfl, hcw⟩ := HW.out.2.2 (by omega)
          have h3 : w.cell? (bd.add k) = some (.bool when_[k]) := hcw k _ (by simp [hkw])
          have hrw : ∀ W', Below w0.heap.size w0 W' → W'.cell? (bd.add k) = some (.bool when_[k]) := fun W' hb => by
            have hlt := World.block_lt_of_cell? w _ h3
            rw [hb.cell (Nat.lt_of_lt_of_le hlt hb0.size), hb0.cell hlt]; exact h3
          have HRW := hide hrw
          clear hcw h3 hrw
          cases hwk : when_[k] with
          | false =>
            rw [hwk] at HRW
            go_wp2_with (go_at_call 11; go_must (refine KS.out.mono ?_); rintro e w2 ⟨rfl, s2⟩; have c2 := HRW.out w2 s2.2.bel)
            exact ⟨⟨k + 1, g, q ++ [l[k]], A', c', hlt, ord_take hlt HG.out, by simp, rfl, s2⟩, by simp [intOf]; omega⟩
          | true =>
            rw [hwk] at HRW
            obtain ⟨s', q', hq'⟩ : ∃ s' q', q ++ [l[k]] = s' :: q' := by cases q with
              | nil => exact ⟨_, _, rfl⟩
              | cons x y => exact ⟨_, _, rfl⟩
            rw [hq'] at KS
            have HQ := hide hq'
            clear hq'
            go_wp2_with (first
              | (go_at_call 11; go_must (refine KS.out.mono ?_); rintro e w2 ⟨rfl, s2⟩; have c2 := HRW.out w2 s2.2.bel)
              | (go_at_call 12; go_must (refine (s2.deliver hN H2.out).mono ?_); rintro e w3 ⟨rfl, s3⟩; have S3 := hide s3; clear s3)
              | (refine wpList_app rfl (.tmp 85) (.tmp 87) rfl strOk _ w0.heap.size (v := .slice A' g.length c') (n := g.length) (xs := strs g) rfl (by exact ownsRow_of_block S3.out.1 (fun i hi => heap_old (S3.out.lt i hi))) (A := some ⟨w3.heap.size, 0, none⟩) (m := 1) (c := 1) (news := [.string s']) rfl (by exact Src.one (heap_new rfl) rfl) (by omega) (by omega) (by exact Nat.le_trans (S3.out.2.size hN) (by simp)) ?_
                 intro v4 w4 ho4 hg4 hv4))
            obtain ⟨A4, c4, rfl, s4⟩ := S3.out.grow hN ho4 hg4 hv4
            exact ⟨⟨k + 1, g ++ [s'], q', A4, c4, hlt, by rw [List.append_assoc, List.singleton_append, ← HQ.out]; exact ord_take hlt HG.out, by simp, rfl, s4⟩, by simp [intOf]; omega⟩
        · go_wp2_with (go_at_call 11; go_must (refine KS.out.mono ?_); rintro e w2 ⟨rfl, s2⟩)
          exact ⟨⟨k + 1, g, q ++ [l[k]], A', c', hlt, ord_take hlt HG.out, by simp, rfl, s2⟩, by simp [intOf]; omega⟩
      · go_wp2_with fail
        go_ret
        exact ⟨rfl, hb0.trans (HS.out.2.bel.mono hb0.size)⟩
    · have hke : k = l.length := by omega
      subst hke
      have KW := hide (HS.out.2.waiting hN (a % 4) (b % 4) (ord_W H2.out q))
      go_wp2_with (first
        | (go_at_call 14; go_must (refine KW.out.mono ?_); rintro e w2 ⟨A2, c2, rfl, ho2, hb2, s2⟩; have HO2 := hide ho2; clear ho2)
        | (refine wpList_app_want (by rfl) (.tmp 91) (.tmp 95) rfl strOk _ w0.heap.size (v := .slice A' g.length c') (n := g.length) (xs := strs g) rfl (by exact ownsRow_of_block HS.out.1 (fun i hi => hb2.block i (HS.out.lt i hi))) (A := A2) (m := q.length) (c := c2) (news := strs q) rfl (by exact Src.of_own HO2.out (strs_one q)) (by omega) (by omega) (by exact s2.size hN) ?_
           intro v3 w3 ho3 hg3 hv3
           have hb3 : Below w.heap.size w w3 := hb0.trans ((Below.grown s2.bel hg3 (s2.size hN) (fun i hi => (HS.out.1.lt i hi).1)).mono hb0.size)
           have e1 : strs g ++ strs q = strs l := by have := HG.out; rw [List.take_length] at this; rw [← this]; simp [strs]
           rw [e1, hgl] at ho3
           obtain ⟨A3, c3, rfl, ho3'⟩ := listAt_of_own ho3
           have KT := hide (texts_any (c := c3) (d := c) (Src.of_own ho3' (strs_one l)) (Src.below HL.out hb3) (by omega))
           clear ho3 ho3' hg3 hv3)
        | (go_at_call 13; go_must (refine KT.out.mono ?_); rintro e w4 ⟨rfl, hb4⟩; have ht : decide (l = l) = true := by simp
           rw [ht]))
      go_ret
      exact ⟨rfl, hb3.trans (hb4.mono hb3.size)⟩
end Go.Proofs.Ytolpcjpnjicmkaa
