/-
  Potential: moves; states as keys of maps.
  What is known of states while the least cost is reckoned; the certificate out of it, plainly.
  Potential: the least cost from a state on.
  A world that has only grown, as slices.SortFunc's law asks it of its function.
  Potential: cmp.Or.
  Potential: compare.
  Potential: what compare answers is the order of states.
  DERIVED: THE SHELF's CONTRACTS AT THIS DUMP, IN PLAIN WORDS (tools/lay-plain.mjs out of 'TryzSrt.lean', which tools/lay-shelf.mjs wrote): THE SAME DECLARATIONS UNDER THE SAME NAMES: 'import', 'namespace', 'open', 'def', 'theorem' AND NOTHING ELSE: no command of the shelf's: FOR A HAND-IN. Each laying: the table of numbers ('.._ren') and one theorem, a field a fact of the dump's own or the kernel's comparison; each contract: ONE APPLICATION.
  Potential: slices.SortFunc by compare.
  Potential: slices.SortFunc by compare, of a row that is owned.
  Potential: isCost, folded.
  Potential: isForm.
  Potential: the keys of rules and drops as keys of maps; what checkDrops and Valid carry through their rounds.
-/
import Derived.Test.YtnppgomhhcbplaaGreatDoorPO11
import Derived.Test.YtnppgomhhcbplaaGreatDoorPO10
import Derived.Test.YtnppgomhhcbplaaGreatDoorPO6
import Derived.Test.YtnppgomhhcbplaaGreatDoorPO5
import Derived.Sort.Grow
import Derived.Shelf.RegionOpenPlain
import Derived.Test.YtnppgomhhcbplaaGreatDoorPO7
import Derived.Shelf.SlGeneric
import Derived.Shelf.SlSortCmp.WholeK
import Derived.Ground.SlsfProg
import Derived.Test.YtnppgomhhcbplaaGreatDoorProg
import Derived.Shelf.SlSortCmp.NoneTotal
import Derived.Shelf.Strings.SlTrimAscii
set_option linter.unusedSimpArgs false
set_option linter.unusedVariables false
namespace Go.Proofs.YtnppgomhhcbplaaGreatDoor
open Go.RowKit Go.CH Go.CH.Scr Go.CH.Pot
open Go.ChangeMaps (setBlock)
section
attribute [local go_sem] Oper.semAt_some
/-- The iterator as a value. -/
def fnM (b1 b2 : Nat) : Value := .func (.func 60) #[] #[.pointer (some ⟨b1, 0, none⟩), .pointer (some ⟨b2, 0, none⟩)]
def pairV (W : Wd) (a : PA) : Value := .agg (pairC W a)
def stV (s : St) : Value := .agg (stC s)
theorem moves_any {W : Wd} {a : PA} {s : St} (w : World) :
    Calls Tryz.prog 33 #[pairV W a, stV s] w fun e w' => ∃ b1 b2, e = .returned (fnM b1 b2) ∧ Post w (fun _ => False) (Zm W a s b1 b2) w' := by
  have hp : Post w (fun _ => False) (Zm W a s (w.heap.size + 1) w.heap.size) ((w.alloc (.cells (pairC W a) 64)).alloc (.cells (stC s) 62)) := by
    have h1 := (Run.begin w).fresh emp_ok (cell_new w (pairC W a) 64)
    have h2 := h1.fresh (star_ok cell_ok emp_ok) (cell_new _ (stC s) 62)
    rw [World.size_alloc] at h2
    have h3 : Run (fun _ => False) w (star (Zm W a s (w.heap.size + 1) w.heap.size) emp) _ := h2.perm (by unfold Zm; ac_rfl)
    exact (h3.swap.drop).post Zm_ok
  have HP := hide hp
  clear hp
  unfold pairV stV pairC stC
  unfold pairC stC at HP
  go_enter Tryz.func33, Tryz.ntmps33
  go_wp2
  go_ret
  exact ⟨_, _, rfl, HP.out⟩
end
/-! ### States as keys -/
theorem st_flats (s : St) : Flats Tryz.prog [⟨ "i", 3, 0, false, "", "customhouse/potential", 0⟩, ⟨ "j", 3, 1, false, "", "customhouse/potential", 8⟩, ⟨ "ahead", 9, 2, false, "", "customhouse/potential", 16⟩, ⟨ "right", 4, 3, false, "", "customhouse/potential", 32⟩] (stC s) := by
  intro f hf
  simp only [List.mem_cons, List.mem_nil_iff, or_false] at hf
  rcases hf with rfl | rfl | rfl | rfl
  · exact ⟨by decide, _, rfl, .int Tryz.underlying3 _⟩
  · exact ⟨by decide, _, rfl, .int Tryz.underlying3 _⟩
  · exact ⟨by decide, _, rfl, .str Tryz.underlying9 _⟩
  · exact ⟨by decide, _, rfl, .bool Tryz.underlying4 _⟩
theorem bs_beq (a b : Bs) : (bs a == bs b) = decide (a = b) := by
  rw [bytes_dec]
  exact decide_eq_decide.2 ⟨fun h => bs_inj h, fun h => by rw [h]⟩
theorem st_same (a b : St) : sameF [⟨ "i", 3, 0, false, "", "customhouse/potential", 0⟩, ⟨ "j", 3, 1, false, "", "customhouse/potential", 8⟩, ⟨ "ahead", 9, 2, false, "", "customhouse/potential", 16⟩, ⟨ "right", 4, 3, false, "", "customhouse/potential", 32⟩] (stC a) (stC b) = decide (a = b) := by
  have e : sameF [⟨ "i", 3, 0, false, "", "customhouse/potential", 0⟩, ⟨ "j", 3, 1, false, "", "customhouse/potential", 8⟩, ⟨ "ahead", 9, 2, false, "", "customhouse/potential", 16⟩, ⟨ "right", 4, 3, false, "", "customhouse/potential", 32⟩] (stC a) (stC b) = (((a.i : Int) == (b.i : Int)) && (((a.j : Int) == (b.j : Int)) && ((bs a.a == bs b.a) && ((a.r == b.r) && true)))) := rfl
  rw [e, bs_beq]
  obtain ⟨i, j, x, r⟩ := a
  obtain ⟨i', j', x', r'⟩ := b
  simp only [Bool.and_true]
  by_cases h1 : i = i'
  · by_cases h2 : j = j'
    · by_cases h3 : x = x'
      · by_cases h4 : r = r' <;> simp [h1, h2, h3, h4]
      · simp [h3]
    · simp only [St.mk.injEq, h2, false_and, and_false, decide_false]
      have : ((j : Int) == (j' : Int)) = false := by simp; omega
      rw [this]; simp
  · simp only [St.mk.injEq, h1, false_and, decide_false]
    have : ((i : Int) == (i' : Int)) = false := by simp; omega
    rw [this]; rfl
theorem keyOk_st : KeyOk Tryz.prog 62 stV := by
  refine keyOk_struct (cs := stC) Tryz.underlying62 (by kernel_rfl) st_flats st_same (fun a => ?_)
  simp [stC, Instr.sameBits, bs_beq]
theorem eql_st (a b : St) (w : World) : (binOp .eql 62 (stV a) (stV b)).run Tryz.prog w = .ok (.bool (decide (a = b))) w := by
  have h := key_eql (P := Tryz.prog) (xs := stC a) (ys := stC b) Tryz.underlying62 (by kernel_rfl) (st_flats a) (st_flats b) w
  exact h.trans (by rw [← st_same a b])
/-- A map of states with their numbers. -/
def StM (b : Nat) (l : List (St × Int)) : CH.Own := MapO stV b (l.map fun p => (p.1, .int .i64 p.2))
end Go.Proofs.YtnppgomhhcbplaaGreatDoor
namespace Go.CH.Pot
open Go.CH.Scr
def keysL (L : List (St × Int)) : List St := L.map (·.1)
/-- What is known is right, and closed under moves. -/
structure Kn (W : Wd) (L : List (St × Int)) : Prop where
  val : ∀ p ∈ L, p.2 = W.dist p.1
  ok : ∀ p ∈ L, W.ok p.1
  cl : ∀ p ∈ L, ∀ x ∈ W.moves p.1, x.2 ∈ keysL L
  nd : (keysL L).Nodup
/-- More is known, of states that a state leads to. -/
structure Ext (W : Wd) (s : St) (L L' : List (St × Int)) : Prop where
  old : ∀ p ∈ L, p ∈ L'
  new : ∀ p ∈ L', p ∈ L ∨ Rch W s p.1
section
variable {W : Wd} {s s' : St} {L L' L'' : List (St × Int)} {c : Int}
theorem kn_nil : Kn W [] := ⟨fun p h => absurd h (List.not_mem_nil), fun p h => absurd h (List.not_mem_nil), fun p h => absurd h (List.not_mem_nil), List.nodup_nil⟩
theorem mem_keys {q : St} : q ∈ keysL L ↔ ∃ v, (q, v) ∈ L := by
  unfold keysL
  rw [List.mem_map]
  exact ⟨fun ⟨p, hp, e⟩ => ⟨p.2, by rw [← e]; exact hp⟩, fun ⟨v, hv⟩ => ⟨_, hv, rfl⟩⟩
theorem Ext.refl : Ext W s L L := ⟨fun _ h => h, fun _ h => .inl h⟩
theorem Ext.keys (h : Ext W s L L') {q : St} (hq : q ∈ keysL L) : q ∈ keysL L' := by
  obtain ⟨v, hv⟩ := mem_keys.1 hq
  exact mem_keys.2 ⟨v, h.old _ hv⟩
theorem Ext.step (h : Ext W s L L') (hm : (c, s') ∈ W.moves s) (h2 : Ext W s' L' L'') : Ext W s L L'' :=
  ⟨fun p hp => h2.old p (h.old p hp), fun p hp => (h2.new p hp).elim (fun h3 => h.new p h3) (fun h3 => .inr ((Rch.step .refl hm).trans h3))⟩
theorem rch_rank (hs : W.ok s) (h : Rch W s s') : W.rank s' ≤ W.rank s := by
  induction h with
  | refl => exact Nat.le_refl _
  | step h hm ih => have := (moves_ok (Rch.ok hs h) hm).2; omega
/-- The state itself is not known yet when its moves have been followed. -/
theorem not_known (hs : W.ok s) (h : s ∉ keysL L) (he : ∀ p ∈ L', p ∈ L ∨ ∃ c s', (c, s') ∈ W.moves s ∧ Rch W s' p.1) : s ∉ keysL L' := fun hq => by
  obtain ⟨v, hv⟩ := mem_keys.1 hq
  rcases he _ hv with h1 | ⟨c, s', hm, hr⟩
  · exact h (mem_keys.2 ⟨v, h1⟩)
  · have h2 := moves_ok hs hm
    have h3 := rch_rank h2.1 hr
    have : W.rank s ≤ W.rank s' := h3
    omega
theorem Kn.add (h : Kn W L) (hs : W.ok s) (hn : s ∉ keysL L) (hm : ∀ x ∈ W.moves s, x.2 ∈ keysL L) : Kn W (L ++ [(s, W.dist s)]) := by
  have hk : keysL (L ++ [(s, W.dist s)]) = keysL L ++ [s] := by unfold keysL; rw [List.map_append]; rfl
  refine ⟨fun p hp => ?_, fun p hp => ?_, fun p hp x hx => ?_, ?_⟩
  · rcases List.mem_append.1 hp with hp | hp
    · exact h.val p hp
    · rw [List.mem_singleton.1 hp]
  · rcases List.mem_append.1 hp with hp | hp
    · exact h.ok p hp
    · rw [List.mem_singleton.1 hp]; exact hs
  · rw [hk]
    refine List.mem_append_left _ ?_
    rcases List.mem_append.1 hp with hp | hp
    · exact h.cl p hp x hx
    · rw [List.mem_singleton.1 hp] at hx; exact hm x hx
  · rw [hk, List.nodup_append]
    refine ⟨h.nd, (by simp), fun a ha b hb e => ?_⟩
    rw [List.mem_singleton.1 hb] at e
    exact hn (e ▸ ha)
/-- The least cost by the first moves. -/
def minF (W : Wd) (s : St) (i : Nat) : Int := ((W.moves s).take i).foldl (fun h x => min h (x.1 + W.dist x.2)) (if s = W.fin then 0 else never)
theorem minF_zero : minF W s 0 = if s = W.fin then 0 else never := rfl
theorem minF_succ {i : Nat} (hi : i < (W.moves s).length) : minF W s (i + 1) = min (minF W s i) ((W.moves s)[i].1 + W.dist (W.moves s)[i].2) := by
  unfold minF
  rw [List.take_succ_eq_append_getElem hi, List.foldl_append]; rfl
theorem minF_all (hs : W.ok s) : minF W s (W.moves s).length = W.dist s := by unfold minF; rw [List.take_length, dist_eq hs]
theorem minF_le {i : Nat} : minF W s i ≤ never := by
  unfold minF
  refine Int.le_trans (fold_le (fun x : Int × St => x.1 + W.dist x.2) _ _).1 ?_
  split
  · decide
  · exact Int.le_refl _
theorem minF_pos (hg : W.good) (hs : W.ok s) : ∀ i, 0 ≤ minF W s i := fun i => by
  rcases fold_eq (fun x : Int × St => x.1 + W.dist x.2) ((W.moves s).take i) (if s = W.fin then 0 else never) with h | ⟨x, hx, h⟩
  · unfold minF; rw [h]; split <;> decide
  · unfold minF
    rw [h]
    have hx' := List.mem_of_mem_take hx
    have h1 := moves_ok (c := x.1) (s' := x.2) hs hx'
    have h2 := dist_nonneg hg h1.1
    have h3 := (good_cost (c := x.1) (s' := x.2) hg hx').1
    omega
/-- The state of the loop over the moves: what is known behind i moves. -/
structure KnI (W : Wd) (s : St) (L : List (St × Int)) (i : Nat) (L' : List (St × Int)) : Prop where
  kn : Kn W L'
  old : ∀ p ∈ L, p ∈ L'
  new : ∀ p ∈ L', p ∈ L ∨ ∃ c s', (c, s') ∈ W.moves s ∧ Rch W s' p.1
  mv : ∀ j (hj : j < (W.moves s).length), j < i → (W.moves s)[j].2 ∈ keysL L'
theorem kni_zero (h : Kn W L) : KnI W s L 0 L := ⟨h, fun _ h => h, fun _ h => .inl h, fun j _ h => absurd h (Nat.not_lt_zero _)⟩
theorem kni_succ {i : Nat} (hi : i < (W.moves s).length) (h : KnI W s L i L') (h2 : Kn W L'') (he : Ext W (W.moves s)[i].2 L' L'') (hk : (W.moves s)[i].2 ∈ keysL L'') : KnI W s L (i + 1) L'' := by
  refine ⟨h2, fun p hp => he.old p (h.old p hp), fun p hp => ?_, fun j hj hji => ?_⟩
  · rcases he.new p hp with h3 | h3
    · exact h.new p h3
    · exact .inr ⟨_, _, List.getElem_mem hi, h3⟩
  · by_cases e : j = i
    · subst e; exact hk
    · exact he.keys (h.mv j hj (by omega))
theorem kni_end (h : KnI W s L (W.moves s).length L') (hs : W.ok s) (hn : s ∉ keysL L) : Kn W (L' ++ [(s, W.dist s)]) ∧ Ext W s L (L' ++ [(s, W.dist s)]) ∧ s ∈ keysL (L' ++ [(s, W.dist s)]) ∧ s ∉ keysL L' := by
  have hn' := not_known hs hn h.new
  refine ⟨h.kn.add hs hn' (fun x hx => ?_), ⟨fun p hp => List.mem_append_left _ (h.old p hp), fun p hp => ?_⟩, mem_keys.2 ⟨_, List.mem_append_right _ (List.mem_singleton.2 rfl)⟩, hn'⟩
  · obtain ⟨j, hj, rfl⟩ := List.mem_iff_getElem.1 hx
    exact h.mv j hj hj
  · rcases List.mem_append.1 hp with hp | hp
    · rcases h.new p hp with h3 | ⟨c, s', hm, hr⟩
      · exact .inl h3
      · exact .inr ((Rch.step .refl hm).trans hr)
    · rw [List.mem_singleton.1 hp]; exact .inr .refl
/-! ### The certificate -/
/-- An entry as an element of a certificate, if it is one. -/
def entP (bound : Int) (p : St × Int) : Option Pt := if 0 < min p.2 bound then some ⟨p.1.i, p.1.j, p.1.a, p.1.r, min p.2 bound⟩ else none
/-- All that was known, sorted, is the certificate. -/
theorem cert_of {bound : Int} {C : List Pt} (h : Kn W L) (h0 : st0 ∈ keysL L) (hr : ∀ p ∈ L, Rch W st0 p.1) (hp : C.Perm (L.filterMap (entP bound))) (hs : C.Pairwise fun p q => ¬ ltP q p) : IsCert W bound C := by
  have hall : ∀ q, Rch W st0 q → q ∈ keysL L := fun q hq => by
    induction hq with
    | refl => exact h0
    | step _ hm ih =>
      obtain ⟨v, hv⟩ := mem_keys.1 ih
      exact h.cl _ hv _ hm
  have hmem : ∀ p, p ∈ C ↔ (0 ≤ p.i ∧ 0 ≤ p.j) ∧ Rch W st0 p.st ∧ p.h = min (W.dist p.st) bound ∧ 0 < p.h := by
    intro p
    rw [hp.mem_iff, List.mem_filterMap]
    constructor
    · rintro ⟨⟨q, v⟩, hq, he⟩
      unfold entP at he
      split at he
      · rename_i hpos
        injection he with he
        subst he
        have hst : (⟨(q.i : Int), (q.j : Int), q.a, q.r, min v bound⟩ : Pt).st = q := by simp [Pt.st]
        refine ⟨⟨by simp, by simp⟩, ?_, ?_, hpos⟩
        · rw [hst]; exact hr _ hq
        · rw [hst]; have := h.val _ hq; simp only at this; rw [this]
      · cases he
    · rintro ⟨⟨h1, h2⟩, h3, h4, h5⟩
      obtain ⟨v, hv⟩ := mem_keys.1 (hall _ h3)
      have hval : v = W.dist p.st := h.val _ hv
      refine ⟨(p.st, v), hv, ?_⟩
      unfold entP
      rw [hval, if_pos (by show 0 < min (W.dist p.st) bound; omega)]
      obtain ⟨i, j, a, r, hh⟩ := p
      simp only at h1 h2 h4
      simp only [Pt.st, Option.some.injEq, Pt.mk.injEq, true_and]
      refine ⟨by omega, by omega, ?_⟩
      rw [h4]; rfl
  have hnd : C.Nodup := by
    rw [hp.nodup_iff]
    have : ∀ L : List (St × Int), (keysL L).Nodup → (L.filterMap (entP bound)).Nodup := by
      intro L
      induction L with
      | nil => intro _; exact List.nodup_nil
      | cons p L ih =>
        intro hn
        have hn1 := List.nodup_cons.1 hn
        cases he : entP bound p with
        | none => rw [List.filterMap_cons_none he]; exact ih hn1.2
        | some x =>
          rw [List.filterMap_cons_some he, List.nodup_cons]
          refine ⟨fun hx => ?_, ih hn1.2⟩
          obtain ⟨q, hq, hqe⟩ := List.mem_filterMap.1 hx
          have e : p.1 = q.1 := by
            unfold entP at he hqe
            split at he
            · split at hqe
              · injection he with he; injection hqe with hqe
                rw [← hqe] at he
                injection he with a1 a2 a3 a4
                obtain ⟨⟨i, j, a, r⟩, v⟩ := p
                obtain ⟨⟨i', j', a', r'⟩, v'⟩ := q
                simp only at a1 a2 a3 a4
                simp only [St.mk.injEq]
                exact ⟨by omega, by omega, a3, a4⟩
              · cases hqe
            · cases he
          exact hn1.1 (List.mem_map.2 ⟨q, hq, e.symm⟩)
    exact this L h.nd
  refine ⟨?_, hmem⟩
  rw [List.pairwise_iff_getElem] at hs ⊢
  intro i j hi hj hij
  rcases ltP_tri C[i] C[j] with h1 | h1 | h1
  · exact h1
  · exfalso
    have m1 := (hmem _).1 (List.getElem_mem hi)
    have m2 := (hmem _).1 (List.getElem_mem hj)
    have e : C[i] = C[j] := by
      have hst : C[i].st = C[j].st := by unfold Pt.st; rw [h1.1, h1.2.1, h1.2.2.1, h1.2.2.2]
      have hh : C[i].h = C[j].h := by rw [m1.2.2.1, m2.2.2.1, hst]
      revert h1 hh
      generalize C[i] = p
      generalize C[j] = q
      intro h1 hh
      obtain ⟨a, b, c, d, e⟩ := p
      obtain ⟨a', b', c', d', e'⟩ := q
      simp only at h1 hh
      obtain ⟨rfl, rfl, rfl, rfl⟩ := h1
      rw [hh]
    exact List.pairwise_iff_getElem.1 hnd i j hi hj hij e
  · exact absurd h1 (hs i j hi hj hij)
end
end Go.CH.Pot
namespace Go.Proofs.YtnppgomhhcbplaaGreatDoor
open Go.RowKit Go.CH Go.CH.Scr Go.CH.Pot
open Go.ChangeMaps (setBlock)
attribute [local go_sem] Oper.semAt_some
def costC (W : Wd) (a : PA) (b : Nat) : Array Value := #[.slice a.A W.rs.length a.c, .int .i64 W.ka, .int .i64 W.kb, .slice a.L W.l.length a.lc, .slice a.M W.m.length a.mc, .int .i64 W.l.length, .int .i64 W.m.length, .string (bs []), .bool false, .map (some b)]
def costV (W : Wd) (a : PA) (b : Nat) : Value := .agg (costC W a b)
theorem stm_ok {b : Nat} {L : List (St × Int)} : (StM b L).Ok := map_ok
theorem mget_kn {L : List (St × Int)} {s : St} {v : Int} (hn : (keysL L).Nodup) (h : (s, v) ∈ L) : mget (L.map fun p => (p.1, Value.int .i64 p.2)) s = some (.int .i64 v) := by
  induction L with
  | nil => cases h
  | cons p L ih =>
    have hn1 := List.nodup_cons.1 hn
    rw [List.map_cons, mget_cons]
    rcases List.mem_cons.1 h with e | h
    · rw [← e]; simp
    · rw [if_neg (fun e : s = p.1 => hn1.1 (List.mem_map.2 ⟨(s, v), h, e⟩))]
      exact ih hn1.2 h
theorem mget_no {L : List (St × Int)} {s : St} (h : s ∉ keysL L) : mget (L.map fun p => (p.1, Value.int .i64 p.2)) s = none := by
  refine mget_none_ ?_
  rw [List.map_map]
  exact h
/-- What from gives back. -/
def FromRet (W : Wd) (s : St) (L : List (St × Int)) (F0 : Nat → Prop) (w0 : World) (b : Nat) (X : CH.Own) (e : Ending) (w' : World) : Prop :=
  ∃ L', e = .returned (.int .i64 (W.dist s)) ∧ Kn W L' ∧ Ext W s L L' ∧ s ∈ keysL L' ∧ Run F0 w0 (star (StM b L') X) w'
theorem stm_get {b : Nat} {L : List (St × Int)} {w : World} {F : Nat → Prop} (h : StM b L w F) (s : St) :
    (Instr.lookup 67 (.map (some b)) (.agg #[.int .i64 s.i, .int .i64 s.j, .string (bs s.a), .bool s.r]) true).run Tryz.prog w = .ok (.tuple #[(mget (L.map fun p => (p.1, Value.int .i64 p.2)) s).getD (.int .i64 0), .bool (mget (L.map fun p => (p.1, Value.int .i64 p.2)) s).isSome]) w := by
  obtain ⟨⟨es, clock, h1, h2⟩, hF⟩ := h
  exact run_lookup_ok keyOk_st Tryz.underlying67 Tryz.zeroValue3 h2 s w h1
theorem move_ahead {W : Wd} {s s' : St} {c : Int} (ht : W.tosOk) (ha : s.a.length ≤ 3) (h : (c, s') ∈ W.moves s) : s'.a.length ≤ 3 := by
  obtain ⟨R, hR, hm⟩ := moves_mem h
  obtain ⟨-, -, x, hx, rfl⟩ := mv_some hm
  have h1 := (ht R hR).1
  have key : x.1.length ≤ 3 := by
    unfold Wd.ah at hx
    split at hx
    · injection hx with hx; subst hx; rw [List.length_drop]; omega
    · split at hx
      · injection hx with hx; subst hx; rw [List.length_drop]; omega
      · cases hx
  split <;> exact key
/-- What is owned while from runs. -/
def FrO (W : Wd) (a : PA) (b : Nat) (s : St) (gc gs : Nat) (L : List (St × Int)) (X : CH.Own) : CH.Own := star (CellO gs (stC s) 62) (star (CellO gc (costC W a b) 69) (star (StM b L) X))
theorem fro_ok {W : Wd} {a : PA} {b : Nat} {s : St} {gc gs : Nat} {L : List (St × Int)} {X : CH.Own} (hX : X.Ok) : (FrO W a b s gc gs L X).Ok := star_ok cell_ok (star_ok cell_ok (star_ok stm_ok hX))
theorem fro_cells {W : Wd} {a : PA} {b : Nat} {s : St} {gc gs : Nat} {L : List (St × Int)} {X : CH.Own} {F0 : Nat → Prop} {w0 w : World} (h : Run F0 w0 (FrO W a b s gc gs L X) w) :
    (w.cell? ⟨gs, 0, none⟩ = some (.int .i64 s.i) ∧ w.cell? ⟨gs, 1, none⟩ = some (.int .i64 s.j) ∧ w.cell? ⟨gs, 2, none⟩ = some (.string (bs s.a)) ∧ w.cell? ⟨gs, 3, none⟩ = some (.bool s.r)) ∧
    (w.cell? ⟨gc, 0, none⟩ = some (.slice a.A W.rs.length a.c) ∧ w.cell? ⟨gc, 1, none⟩ = some (.int .i64 W.ka) ∧ w.cell? ⟨gc, 2, none⟩ = some (.int .i64 W.kb) ∧ w.cell? ⟨gc, 3, none⟩ = some (.slice a.L W.l.length a.lc) ∧ w.cell? ⟨gc, 4, none⟩ = some (.slice a.M W.m.length a.mc) ∧ w.cell? ⟨gc, 5, none⟩ = some (.int .i64 W.l.length) ∧ w.cell? ⟨gc, 6, none⟩ = some (.int .i64 W.m.length) ∧ w.cell? ⟨gc, 7, none⟩ = some (.string (bs [])) ∧ w.cell? ⟨gc, 8, none⟩ = some (.bool false) ∧ w.cell? ⟨gc, 9, none⟩ = some (.map (some b))) ∧ ∃ F, StM b L w F := by
  unfold FrO at h
  obtain ⟨F, hF⟩ := h.fst
  obtain ⟨F2, hF2⟩ := h.drop.fst
  obtain ⟨F3, hF3⟩ := h.drop.drop.fst
  exact ⟨⟨cell_at hF rfl, cell_at hF rfl, cell_at hF rfl, cell_at hF rfl⟩, ⟨cell_at hF2 rfl, cell_at hF2 rfl, cell_at hF2 rfl, cell_at hF2 rfl, cell_at hF2 rfl, cell_at hF2 rfl, cell_at hF2 rfl, cell_at hF2 rfl, cell_at hF2 rfl, cell_at hF2 rfl⟩, F3, hF3⟩
end Go.Proofs.YtnppgomhhcbplaaGreatDoor
namespace Go.CH
open Go.RowKit
theorem below_grow {w w' : World} (h : Below w.heap.size w w') (hd : w.drawn ≤ w'.drawn) : ∃ q os, w' = Go.Sort.grow (w.drewN q) os := by
  refine ⟨w'.drawn - w.drawn, w'.heap.extract w.heap.size w'.heap.size, ?_⟩
  obtain ⟨h1, h2, h3, h4, h5⟩ := h
  have hh : w'.heap = w.heap ++ w'.heap.extract w.heap.size w'.heap.size := by
    apply Array.ext_getElem?
    intro k
    rw [Array.getElem?_append]
    split
    · rename_i hk; exact h5 k hk
    · rename_i hk
      rw [Array.getElem?_extract]
      split
      · congr 1; omega
      · rw [Array.getElem?_eq_none]; omega
  have hdn : w'.drawn = w.drawn + (w'.drawn - w.drawn) := by omega
  obtain ⟨hp, tp, dr, os, out⟩ := w'
  simp only at h1 h2 h3 hh hdn ⊢
  subst h1 h2 h3
  simp only [Go.Sort.grow, World.drewN]
  congr 1
end Go.CH
namespace Go.Proofs.YtnppgomhhcbplaaGreatDoor
open Go.RowKit Go.CH Go.CH.Scr Go.CH.Pot
open Go.ChangeMaps (setBlock)
/-- The first number that is not 0. -/
def orN : List Int → Int
  | [] => 0
  | x :: l => if x = 0 then orN l else x
theorem orN_skip {l : List Int} {k : Nat} (hk : k < l.length) (h : l[k] = 0) (h2 : orN l = orN (l.drop k)) : orN l = orN (l.drop (k + 1)) := by
  rw [h2, List.drop_eq_getElem_cons hk]
  show (if l[k] = 0 then _ else _) = _
  rw [if_pos h]
theorem orN_here {l : List Int} {k : Nat} (hk : k < l.length) (h : l[k] ≠ 0) (h2 : orN l = orN (l.drop k)) : orN l = l[k] := by
  rw [h2, List.drop_eq_getElem_cons hk]
  show (if l[k] = 0 then _ else _) = _
  rw [if_neg h]
set_option maxHeartbeats 1600000 in
theorem or_any {w : World} {b o c : Nat} {l : List Int} (hl : l.length ≤ 1000) (hc : ∀ k (hk : k < l.length), w.cell? ⟨b, o + k, none⟩ = some (.int .i64 l[k])) :
    Calls Tryz.prog 49 #[.slice (some ⟨b, o, none⟩) l.length c] w (fun e w' => e = .returned (.int .i64 (orN l)) ∧ w' = w) := by
  have HC := hide hc
  obtain ⟨N, hN⟩ : ∃ N, N = l.length := ⟨_, rfl⟩
  have HN := hide hN
  rw [← hN] at hl ⊢
  clear hc hN
  go_enter Tryz.func49, Tryz.ntmps49
  go_wp2
  go_loopw [8] (fun i wr => ∃ k : Nat, k ≤ N ∧ i = .int .i64 k ∧ orN l = orN (l.drop k) ∧ wr = w) (fun i _ => N - (intOf i).toNat)
  case atStart => exact ⟨0, Nat.zero_le _, rfl, rfl, rfl⟩
  case round =>
    obtain ⟨k, hk, rfl, ho, rfl⟩ := hrel
    have HO := hide ho
    clear ho
    by_cases hlt : k < N
    · have hkn : k < l.length := by rw [← HN.out]; exact hlt
      have ck := HC.out k hkn
      have HS := hide (fun h => orN_skip hkn h HO.out)
      have HH := hide (fun h => orN_here hkn h HO.out)
      generalize l[k] = x at *
      by_cases hx : x = 0
      · subst hx
        have H2 := hide (HS.out rfl)
        clear HS HH hkn
        go_wp2
        go_roundw
        case rel => exact ⟨k + 1, by omega, by go_num, H2.out, trivial⟩
        case measure => simp [intOf]; omega
      · have t1 : (x == 0) = false := by simp [hx]
        have H2 := hide (HH.out hx)
        clear HS HH hkn hx
        go_wp2
        go_ret
        exact ⟨by rw [H2.out]; rfl, rfl⟩
    · obtain rfl : k = N := by omega
      have H2 := hide (show orN l = 0 by have := HO.out; rw [HN.out, List.drop_length] at this; exact this)
      clear HO
      go_wp2
      go_ret
      exact ⟨by rw [H2.out]; rfl, rfl⟩
end Go.Proofs.YtnppgomhhcbplaaGreatDoor
namespace Go.Proofs.YtnppgomhhcbplaaGreatDoor
open Go.RowKit Go.CH Go.CH.Scr Go.CH.Pot
open Go.ChangeMaps (setBlock)
theorem keyOk_bool : KeyOk Tryz.prog 4 Value.bool := by
  refine ⟨fun a b w => ?_, fun e a w => ?_, fun a => ?_, _, Tryz.underlying4, fun a b => .inr ?_⟩
  · rw [Op.equal, Op.maxDepth, flat_eq (.bool Tryz.underlying4 a) (.bool Tryz.underlying4 b) 9999 w]
    show Result.ok (a == b) w = _
    cases a <;> cases b <;> rfl
  · exact flat_check (.bool Tryz.underlying4 a) e 9999 w
  · unfold Instr.sameBits; cases a <;> rfl
  · show some (a == b) = _
    cases a <;> cases b <;> rfl
/-- A map is written: the draws stay. -/
theorem mapO_put_d {α : Type} [DecidableEq α] {P : Program} {kv : α → Value} {t K E : TypeId} (H : KeyOk P K kv) (ht : P.underlying t = some (.map K E)) {b : Nat} {l : List (α × Value)} {w : World} {F : Nat → Prop} (h : MapO kv b l w F) (k : α) (v : Value) :
    ∃ w', (Instr.mapUpdate t (.map (some b)) (kv k) v).run P w = .ok () w' ∧ Post w F (MapO kv b (mput l k v)) w' ∧ w'.drawn = w.drawn := by
  obtain ⟨⟨es, clock, h1, h2⟩, hF⟩ := h
  obtain ⟨es', clock', h3, h4⟩ := run_mapUpdate H ht h2 b k v
  exact ⟨_, h4 w h1, ⟨F, ⟨⟨es', clock', heap_setBlock_self h1, h3⟩, hF⟩, (Mod.refl _ _).setBlock _ (fun _ => (hF b).2 rfl), fun i hi => .inl hi⟩, rfl⟩
def cmpP (p q : Pt) : Int := orN [Lib.compareInt p.i q.i, Lib.compareInt p.j q.j, Lib.compareBytes p.a q.a, Lib.compareInt (if p.r then 1 else 0) (if q.r then 1 else 0)]
def ptV (p : Pt) : Value := .agg #[.int .i64 p.i, .int .i64 p.j, .string (bs p.a), .bool p.r, .int .i64 p.h]
set_option maxHeartbeats 3200000 in
set_option maxRecDepth 100000 in
theorem compare_any (p q : Pt) (w : World) : Calls Tryz.prog 28 #[ptV p, ptV q] w (fun e w' => e = .returned (.int .i64 (cmpP p q)) ∧ Below w.heap.size w w' ∧ w.drawn ≤ w'.drawn) := by
  obtain ⟨pi, pj, pa, pr, ph⟩ := p
  obtain ⟨qi, qj, qa, qr, qh⟩ := q
  have h1 : Run (fun _ => False) w (star (CellO w.heap.size #[.int .i64 pi, .int .i64 pj, .string (bs pa), .bool pr, .int .i64 ph] 37) emp) _ := run_new (Run.begin w) emp_ok _ 37
  have h2 := run_new h1 (star_ok cell_ok emp_ok) #[.int .i64 qi, .int .i64 qj, .string (bs qa), .bool qr, .int .i64 qh] 37
  rw [World.size_alloc] at h2
  have h3 := h2.fresh (star_ok cell_ok (star_ok cell_ok emp_ok)) (map_new (kv := Value.bool) _)
  simp only [World.size_alloc] at h3
  obtain ⟨FM, hFM, -, bk⟩ := h3.take map_ok (star_ok cell_ok (star_ok cell_ok emp_ok))
  obtain ⟨w4, hup, hpost, hdr⟩ := mapO_put_d keyOk_bool Tryz.underlying113 hFM true (.int .i64 1)
  have h4 := bk _ _ hpost
  have hmk : ∀ w : World, (Instr.makeMap 113 none).run Tryz.prog w = .ok (.map (some w.heap.size)) (w.alloc (.map #[] 0)) := fun w => by kernel_rfl
  have H4 := hide h4
  have HDR := hide (show w.drawn ≤ w4.drawn by rw [hdr]; exact Nat.le_refl _)
  have h5 := h4.drew (star_ok map_ok (star_ok cell_ok (star_ok cell_ok emp_ok)))
  obtain ⟨F5, hF5⟩ := h5.fst
  have hl1 := mapO_get keyOk_bool Tryz.underlying113 Tryz.zeroValue3 hF5 pr
  have hl2 := mapO_get keyOk_bool Tryz.underlying113 Tryz.zeroValue3 hF5 qr
  have hmg : ∀ r : Bool, (mget (mput ([] : List (Bool × Value)) true (.int .i64 1)) r).getD (.int .i64 0) = .int .i64 (if r then 1 else 0) := fun r => by cases r <;> rfl
  rw [hmg] at hl1 hl2
  obtain ⟨F6, hF6⟩ := h5.drop.fst
  obtain ⟨F7, hF7⟩ := h5.drop.drop.fst
  have q0 := cell_at (i := 0) hF6 rfl
  have q1 := cell_at (i := 1) hF6 rfl
  have q2 := cell_at (i := 2) hF6 rfl
  have q3 := cell_at (i := 3) hF6 rfl
  have p0 := cell_at (i := 0) hF7 rfl
  have p1 := cell_at (i := 1) hF7 rfl
  have p2 := cell_at (i := 2) hF7 rfl
  have p3 := cell_at (i := 3) hF7 rfl
  have HB := hide (show Below w.heap.size w w4.drew from (h5.mod).below (fun _ _ h => h))
  have KA := hide (fun W => Tryz.cmp_Compare_int pi qi W)
  have KB := hide (fun W => Tryz.cmp_Compare_int pj qj W)
  have KC := hide (fun W => Tryz.strings_Compare (bs pa) (bs qa) W)
  have KD := hide (fun W => Tryz.cmp_Compare_int (if pr then 1 else 0) (if qr then 1 else 0) W)
  clear h1 h2 h3 h4 hFM bk hpost hdr h5 hF5 hF6 hF7 H4 hmg
  unfold ptV cmpP
  simp only
  obtain ⟨u1, hu1⟩ : ∃ u : Int, u = if pr = true then 1 else 0 := ⟨_, rfl⟩
  obtain ⟨u2, hu2⟩ : ∃ u : Int, u = if qr = true then 1 else 0 := ⟨_, rfl⟩
  rw [← hu1] at hl1 KD ⊢
  rw [← hu2] at hl2 KD ⊢
  clear hu1 hu2
  have hbytes : (bs pa).data.toList = pa ∧ (bs qa).data.toList = qa := ⟨rfl, rfl⟩
  rw [hbytes.1, hbytes.2] at KC
  clear hbytes
  generalize Lib.compareInt pi qi = r1 at *
  generalize Lib.compareInt pj qj = r2 at *
  generalize Lib.compareBytes pa qa = r3 at *
  generalize Lib.compareInt u1 u2 = r4 at *
  have KO := hide (fun (W : World) (b : Nat) (hc : ∀ k (hk : k < [r1, r2, r3, r4].length), W.cell? ⟨b, 0 + k, none⟩ = some (.int .i64 [r1, r2, r3, r4][k])) => or_any (l := [r1, r2, r3, r4]) (o := 0) (c := 4) (by simp) hc)
  go_enter Tryz.func28, Tryz.ntmps28
  go_wp2_with fail
  have HDR2 := hide (show w.drawn ≤ w4.drew.drawn from Nat.le_trans HDR.out (Nat.le_succ _))
  refine wp_region_les [4, 9, 14, 23, 24, 25] [0, 0, 0, 0, 1, 1, 1, 1, 1, 2, 2, 2, 2, 2, 3, 3, 3, 3, 3, 3, 3, 3, 3, 4, 5, 6, 6] (fun w' => w' = w4.drew) [fun w' => w' = w4.drew, fun w' => w' = w4.drew, fun w' => w' = w4.drew, fun w' => w' = w4.drew, fun _ => True] ⟨fun _ h => h, fun _ h => h, fun _ h => h, fun _ h => h, fun _ _ => trivial, trivial⟩ rfl (by kernel_rfl) (by kernel_rfl) (by kernel_rfl) rfl ?_
  generalize w4.drew = W at *
  (repeat (first | (refine les_skip (by rfl) (by rfl) ?_; try simp only [Act.put, List.setIfInBounds_toArray, List.set_cons_zero, List.set_cons_succ]) | (refine les_read (v := ?_) (by rfl) (by rfl) ?_ ?_; rotate_left; (focus (intro w' hS'; (try simp only [stL] at hS'); go_simp; (try with_reducible rfl); done)); try simp only [Act.put, List.setIfInBounds_toArray, List.set_cons_zero, List.set_cons_succ])))
  refine les_chain rfl (by rfl) (fun K hK => ?_)
  go_wp2_with fail
  refine (KA.out _).mono ?_
  rintro e9 w9 ⟨rfl, h9⟩
  subst w9
  refine hK.out _ _ rfl ?_
  clear hK KA
  (repeat (first | (refine les_skip (by rfl) (by rfl) ?_; try simp only [Act.put, List.setIfInBounds_toArray, List.set_cons_zero, List.set_cons_succ]) | (refine les_read (v := ?_) (by rfl) (by rfl) ?_ ?_; rotate_left; (focus (intro w' hS'; (try simp only [stL] at hS'); go_simp; (try with_reducible rfl); done)); try simp only [Act.put, List.setIfInBounds_toArray, List.set_cons_zero, List.set_cons_succ])))
  refine les_chain rfl (by rfl) (fun K hK => ?_)
  go_wp2_with fail
  refine (KB.out _).mono ?_
  rintro e9 w9 ⟨rfl, h9⟩
  subst w9
  refine hK.out _ _ rfl ?_
  clear hK KB
  (repeat (first | (refine les_skip (by rfl) (by rfl) ?_; try simp only [Act.put, List.setIfInBounds_toArray, List.set_cons_zero, List.set_cons_succ]) | (refine les_read (v := ?_) (by rfl) (by rfl) ?_ ?_; rotate_left; (focus (intro w' hS'; (try simp only [stL] at hS'); go_simp; (try with_reducible rfl); done)); try simp only [Act.put, List.setIfInBounds_toArray, List.set_cons_zero, List.set_cons_succ])))
  refine les_chain rfl (by rfl) (fun K hK => ?_)
  go_wp2_with fail
  refine (KC.out _).mono ?_
  rintro e9 w9 ⟨rfl, h9⟩
  subst w9
  refine hK.out _ _ rfl ?_
  clear hK KC
  (repeat (first | (refine les_skip (by rfl) (by rfl) ?_; try simp only [Act.put, List.setIfInBounds_toArray, List.set_cons_zero, List.set_cons_succ]) | (refine les_read (v := ?_) (by rfl) (by rfl) ?_ ?_; rotate_left; (focus (intro w' hS'; (try simp only [stL] at hS'); go_simp; (try with_reducible rfl); done)); try simp only [Act.put, List.setIfInBounds_toArray, List.set_cons_zero, List.set_cons_succ])))
  refine les_chain rfl (by rfl) (fun K hK => ?_)
  go_wp2_with fail
  refine (KD.out _).mono ?_
  rintro e9 w9 ⟨rfl, h9⟩
  subst w9
  refine hK.out _ _ rfl ?_
  clear hK KD
  (repeat (first | (refine les_skip (by rfl) (by rfl) ?_; try simp only [Act.put, List.setIfInBounds_toArray, List.set_cons_zero, List.set_cons_succ]) | (refine les_read (v := ?_) (by rfl) (by rfl) ?_ ?_; rotate_left; (focus (intro w' hS'; (try simp only [stL] at hS'); go_simp; (try with_reducible rfl); done)); try simp only [Act.put, List.setIfInBounds_toArray, List.set_cons_zero, List.set_cons_succ])))
  refine les_chain rfl (by rfl) (fun K hK => ?_)
  go_wp2
  refine hK.out _ _ trivial ?_
  clear hK
  have hcell : ∀ k (hk : k < [r1, r2, r3, r4].length), (W.alloc (.cells #[.int .i64 r1, .int .i64 r2, .int .i64 r3, .int .i64 r4] 3)).cell? ⟨W.heap.size, 0 + k, none⟩ = some (.int .i64 [r1, r2, r3, r4][k]) := by
    intro k hk
    have hk : k < 4 := hk
    obtain ⟨F, hF, -⟩ := cell_new W #[.int .i64 r1, .int .i64 r2, .int .i64 r3, .int .i64 r4] 3
    match k, hk with
    | 0, _ => exact cell_at hF rfl
    | 1, _ => exact cell_at hF rfl
    | 2, _ => exact cell_at hF rfl
    | 3, _ => exact cell_at hF rfl
  have KQ := hide (KO.out _ _ hcell)
  have HZ := hide (show Below w.heap.size w (W.alloc (.cells #[.int .i64 r1, .int .i64 r2, .int .i64 r3, .int .i64 r4] 3)) ∧ w.drawn ≤ (W.alloc (.cells #[.int .i64 r1, .int .i64 r2, .int .i64 r3, .int .i64 r4] 3)).drawn from ⟨HB.out.alloc HB.out.size _, HDR2.out⟩)
  clear hcell KO
  refine les_chain rfl (by rfl) (fun K hK => ?_)
  go_wp2_with fail
  refine KQ.out.mono ?_
  rintro e9 w9 ⟨rfl, h9⟩
  subst w9
  refine hK.out _ _ trivial ?_
  clear hK KQ
  (repeat (first | (refine les_skip (by rfl) (by rfl) ?_; try simp only [Act.put, List.setIfInBounds_toArray, List.set_cons_zero, List.set_cons_succ]) | (refine les_read (v := ?_) (by rfl) (by rfl) ?_ ?_; rotate_left; (focus (intro w' hS'; (try simp only [stL] at hS'); go_simp; (try with_reducible rfl); done)); try simp only [Act.put, List.setIfInBounds_toArray, List.set_cons_zero, List.set_cons_succ])))
  refine les_nil ?_
  go_wp2
  go_ret
  exact ⟨rfl, HZ.out⟩
end Go.Proofs.YtnppgomhhcbplaaGreatDoor
namespace Go.Proofs.YtnppgomhhcbplaaGreatDoor
open Go.RowKit Go.CH Go.CH.Scr Go.CH.Pot
theorem ci_cases (x y : Int) : (x < y ∧ Lib.compareInt x y = -1) ∨ (x = y ∧ Lib.compareInt x y = 0) ∨ (y < x ∧ Lib.compareInt x y = 1) := by
  unfold Lib.compareInt
  by_cases h1 : x < y
  · exact .inl ⟨h1, by rw [if_pos h1]⟩
  · by_cases h2 : y < x
    · exact .inr (.inr ⟨h2, by rw [if_neg h1, if_pos h2]⟩)
    · exact .inr (.inl ⟨by omega, by rw [if_neg h1, if_neg h2]⟩)
theorem cb_cases : ∀ a b : Bs, (a < b ∧ Lib.compareBytes a b = -1) ∨ (a = b ∧ Lib.compareBytes a b = 0) ∨ (b < a ∧ Lib.compareBytes a b = 1)
  | [], [] => .inr (.inl ⟨rfl, rfl⟩)
  | [], _ :: _ => .inl ⟨List.nil_lt_cons _ _, rfl⟩
  | _ :: _, [] => .inr (.inr ⟨List.nil_lt_cons _ _, rfl⟩)
  | a :: u, b :: v => by
    unfold Lib.compareBytes
    by_cases h1 : a < b
    · exact .inl ⟨List.cons_lt_cons_iff.2 (.inl h1), by rw [if_pos h1]⟩
    · by_cases h2 : b < a
      · exact .inr (.inr ⟨List.cons_lt_cons_iff.2 (.inl h2), by rw [if_neg h1, if_pos h2]⟩)
      · have e : a = b := UInt8.le_antisymm (UInt8.not_lt.1 h2) (UInt8.not_lt.1 h1)
        subst e
        rw [if_neg h1, if_neg h1]
        rcases cb_cases u v with ⟨h, e⟩ | ⟨h, e⟩ | ⟨h, e⟩
        · exact .inl ⟨List.cons_lt_cons_iff.2 (.inr ⟨rfl, h⟩), e⟩
        · exact .inr (.inl ⟨by rw [h], e⟩)
        · exact .inr (.inr ⟨List.cons_lt_cons_iff.2 (.inr ⟨rfl, h⟩), e⟩)
theorem or4 (a b c d : Int) : orN [a, b, c, d] = if a = 0 then (if b = 0 then (if c = 0 then (if d = 0 then 0 else d) else c) else b) else a := rfl
theorem ci_one : Lib.compareInt 0 0 = 0 ∧ Lib.compareInt 1 1 = 0 ∧ Lib.compareInt 0 1 = -1 ∧ Lib.compareInt 1 0 = 1 := by decide
/-- compare is the order. -/
theorem cmp_lt (p q : Pt) : cmpP p q < 0 ↔ ltP p q := by
  unfold cmpP ltP
  rw [or4]
  rcases ci_cases p.i q.i with ⟨h1, e1⟩ | ⟨h1, e1⟩ | ⟨h1, e1⟩
  · rw [e1]; simp [h1]
  · rw [e1, if_pos rfl]
    rcases ci_cases p.j q.j with ⟨h2, e2⟩ | ⟨h2, e2⟩ | ⟨h2, e2⟩
    · rw [e2]; simp [h1, h2]
    · rw [e2, if_pos rfl]
      rcases cb_cases p.a q.a with ⟨h3, e3⟩ | ⟨h3, e3⟩ | ⟨h3, e3⟩
      · rw [e3]; simp [h1, h2, h3]
      · rw [e3, if_pos rfl]
        have hirr : ¬ q.a < q.a := lta_irr _
        rw [h1, h2, h3]
        cases p.r <;> cases q.r <;> simp [ci_one, hirr]
      · rw [e3]
        have hn : ¬ p.a < q.a := fun h => lta_irr _ (lta_trans h h3)
        have hne : p.a ≠ q.a := fun h => by rw [h] at h3; exact lta_irr _ h3
        simp [h1, h2, hn, hne]
    · rw [e2]
      have hn : ¬ p.j < q.j := by omega
      have hne : p.j ≠ q.j := by omega
      simp [h1, hn, hne]
  · rw [e1]
    have hn : ¬ p.i < q.i := by omega
    have hne : p.i ≠ q.i := by omega
    simp [hn, hne]
end Go.Proofs.YtnppgomhhcbplaaGreatDoor
namespace Go.Proofs
open Go.Shelf
def Tryz.sortPt_ren : Go.Shelf.Ren := ⟨fun | 6 => 27 | 15 => 48 | 14 => 47 | 28 => 85 | 29 => 86 | 20 => 77 | 21 => 78 | 22 => 79 | 23 => 80 | 24 => 81 | 25 => 82 | 26 => 83 | 27 => 84 | 46 => 107 | 47 => 108 | 48 => 109 | 49 => 110 | 50 => 111 | 57 => 132 | n => n, fun | 22 => 26 | 24 => 37 | 25 => 72 | 3 => 3 | 39 => 112 | 0 => 0 | 53 => 34 | 55 => 153 | 4 => 4 | 46 => 146 | 45 => 145 | 50 => 83 | 5 => 5 | 9 => 9 | 66 => 174 | 70 => 178 | 76 => 197 | 77 => 198 | n => n, fun | n => n⟩
theorem Tryz.sortPt : Go.Proofs.SlLaysF0.n6 Tryz.prog Tryz.sortPt_ren := {
  mixed := by kernel_rfl
  f6 := ⟨Tryz.f27.name, by decide, Tryz.func27.trans (congrArg some (by kernel_rfl))⟩
  f14 := ⟨Tryz.f47.name, by decide, Tryz.func47.trans (congrArg some (by kernel_rfl))⟩
  f15 := Tryz.func48.trans (congrArg some (by kernel_rfl))
  f20 := ⟨Tryz.f77.name, by decide, Tryz.func77.trans (congrArg some (by kernel_rfl))⟩
  f21 := ⟨Tryz.f78.name, by decide, Tryz.func78.trans (congrArg some (by kernel_rfl))⟩
  f22 := ⟨Tryz.f79.name, by decide, Tryz.func79.trans (congrArg some (by kernel_rfl))⟩
  f23 := ⟨Tryz.f80.name, by decide, Tryz.func80.trans (congrArg some (by kernel_rfl))⟩
  f24 := ⟨Tryz.f81.name, by decide, Tryz.func81.trans (congrArg some (by kernel_rfl))⟩
  f25 := ⟨Tryz.f82.name, by decide, Tryz.func82.trans (congrArg some (by kernel_rfl))⟩
  f26 := ⟨Tryz.f83.name, by decide, Tryz.func83.trans (congrArg some (by kernel_rfl))⟩
  f27 := ⟨Tryz.f84.name, by decide, Tryz.func84.trans (congrArg some (by kernel_rfl))⟩
  f28 := Tryz.func85.trans (congrArg some (by kernel_rfl))
  f29 := Tryz.func86.trans (congrArg some (by kernel_rfl))
  f46 := ⟨Tryz.f107.name, by decide, Tryz.func107.trans (congrArg some (by kernel_rfl))⟩
  f47 := Tryz.func108.trans (congrArg some (by kernel_rfl))
  f48 := Tryz.func109.trans (congrArg some (by kernel_rfl))
  f49 := ⟨Tryz.f110.name, by decide, Tryz.func110.trans (congrArg some (by kernel_rfl))⟩
  f50 := ⟨Tryz.f111.name, by decide, Tryz.func111.trans (congrArg some (by kernel_rfl))⟩
  f57 := ⟨Tryz.f132.name, by decide, Tryz.func132.trans (congrArg some (by kernel_rfl))⟩
  t0 := Tryz.underlying0
  a0 := Tryz.isAgg0
  z0 := Tryz.sizeOf0
  v0 := Tryz.zeroValue0
  t3 := Tryz.underlying3
  a3 := Tryz.isAgg3
  z3 := Tryz.sizeOf3
  v3 := Tryz.zeroValue3
  t4 := Tryz.underlying4
  a4 := Tryz.isAgg4
  z4 := Tryz.sizeOf4
  v4 := Tryz.zeroValue4
  t5 := Tryz.underlying5
  a5 := Tryz.isAgg5
  z5 := Tryz.sizeOf5
  v5 := Tryz.zeroValue5
  t9 := Tryz.underlying9
  a9 := Tryz.isAgg9
  z9 := Tryz.sizeOf9
  v9 := Tryz.zeroValue9
  t22 := Tryz.underlying26
  a22 := Tryz.isAgg26
  z22 := Tryz.sizeOf26
  v22 := Tryz.zeroValue26
  t25 := Tryz.underlying72
  a25 := Tryz.isAgg72
  z25 := Tryz.sizeOf72
  v25 := Tryz.zeroValue72
  t39 := Tryz.underlying112
  a39 := Tryz.isAgg112
  z39 := Tryz.sizeOf112
  v39 := Tryz.zeroValue112
  t45 := Tryz.underlying145
  a45 := Tryz.isAgg145
  z45 := Tryz.sizeOf145
  v45 := Tryz.zeroValue145
  t46 := Tryz.underlying146
  a46 := Tryz.isAgg146
  z46 := Tryz.sizeOf146
  v46 := Tryz.zeroValue146
  t50 := Tryz.underlying83
  a50 := Tryz.isAgg83
  z50 := Tryz.sizeOf83
  v50 := Tryz.zeroValue83
  t53 := Tryz.underlying34
  a53 := Tryz.isAgg34
  z53 := Tryz.sizeOf34
  v53 := Tryz.zeroValue34
  t55 := Tryz.underlying153
  a55 := Tryz.isAgg153
  z55 := Tryz.sizeOf153
  v55 := Tryz.zeroValue153
  t66 := Tryz.underlying174
  a66 := Tryz.isAgg174
  z66 := Tryz.sizeOf174
  v66 := Tryz.zeroValue174
  t70 := Tryz.underlying178
  a70 := Tryz.isAgg178
  z70 := Tryz.sizeOf178
  v70 := Tryz.zeroValue178
  t76 := Tryz.underlying197
  a76 := Tryz.isAgg197
  z76 := Tryz.sizeOf197
  v76 := Tryz.zeroValue197
  t77 := Tryz.underlying198
  a77 := Tryz.isAgg198
  z77 := Tryz.sizeOf198
  v77 := Tryz.zeroValue198 }
end Go.Proofs
namespace Go.Proofs.YtnppgomhhcbplaaGreatDoor
open Go.RowKit Go.CH Go.CH.Scr Go.CH.Pot Go.Sort
instance : Inhabited Pt := ⟨⟨0, 0, [], false, 0⟩⟩
theorem cmp_ltOf (p q : Pt) : ltOf cmpP p q = decide (ltP p q) := by
  unfold ltOf
  exact decide_eq_decide.2 (cmp_lt p q)
theorem cmp_swo : SWO (ltOf cmpP) where
  irrefl p := by rw [cmp_ltOf]; exact decide_eq_false (ltP_irr p)
  trans p q r h1 h2 := by
    rw [cmp_ltOf] at *
    exact decide_eq_true (ltP_trans (of_decide_eq_true h1) (of_decide_eq_true h2))
  ntrans p q r h1 h2 := by
    rw [cmp_ltOf] at *
    have h1 := of_decide_eq_false h1
    have h2 := of_decide_eq_false h2
    refine decide_eq_false fun h => ?_
    rcases ltP_tri p q with h3 | h3 | h3
    · exact h1 h3
    · -- p and q are one state
      refine h2 ?_
      unfold ltP at h ⊢
      rw [← h3.1, ← h3.2.1, ← h3.2.2.1, ← h3.2.2.2]; exact h
    · exact h2 (ltP_trans h3 h)
theorem sort_any (blk off cap : Nat) (d : Array Pt) (w : World) (hH : HoldsK pcells 5 w blk off d) (hblk : blk < w.heap.size) (hsz : d.size < 4611686018427387904) :
    Calls Tryz.prog 27 #[.slice (some ⟨blk, off, none⟩) d.size cap, .func (.func 28) #[] #[]] w fun e w' =>
      e = .returned (.tuple #[]) ∧ ∃ d' n os, PermIn 0 d.size d d' ∧ SortedIn (ltOf cmpP) 0 d.size d' ∧ w' = sortWorldK pcells 5 w blk off n d' os := by
  have eg : ∀ args w, (callFunc 28 args).run Tryz.prog w = .ok (.enter 28 args) w := enters_of Tryz.func28 (by kernel_rfl) rfl
  have hcmp : CmpLays Tryz.prog 28 #[] pcells 5 cmpP blk off d.size w := fun m os dk _ p q =>
    (compare_any p q (sortWorldK pcells 5 w blk off m dk os)).mono fun _ _ ⟨h1, h2, h3⟩ => ⟨h1, below_grow h2 h3⟩
  exact AnyQ.slices_SortFunc Tryz.sortPt 5 Tryz.isAgg37 Tryz.sizeOf37 pcells (fun _ => rfl) (fun x v hv => by simp [pcells] at hv; rcases hv with rfl | rfl | rfl | rfl | rfl <;> rfl) cmpP cmp_swo 28 #[] blk off cap d w eg hcmp hH hblk hsz
end Go.Proofs.YtnppgomhhcbplaaGreatDoor
namespace Go.Proofs.YtnppgomhhcbplaaGreatDoor
open Go.RowKit Go.CH Go.CH.Scr Go.CH.Pot Go.Sort
/-- A certificate of its own. -/
def PtsO (A : Option Addr) (c : Nat) (C : List Pt) : CH.Own := RowO 37 5 (.slice A C.length c) C.length (C.flatMap pcells)
theorem pts_ok {A : Option Addr} {c : Nat} {C : List Pt} : (PtsO A c C).Ok := row_ok
theorem pcells_len (p : Pt) : (pcells p).length = 5 := rfl
theorem pcells_one (C : List Pt) : ∀ u ∈ C.flatMap pcells, u.oneCell' = true := by
  intro u hu
  obtain ⟨p, -, hp⟩ := List.mem_flatMap.1 hu
  simp [pcells] at hp
  rcases hp with rfl | rfl | rfl | rfl | rfl <;> rfl
theorem pts_of {w : World} {F : Nat → Prop} {A : Option Addr} {c : Nat} {C : List Pt} (h : PtsO A c C w F) : PtsR w A C := row_src h (pcells_one C)
theorem flat_len (C : List Pt) : (C.flatMap pcells).length = C.length * 5 := by
  induction C with
  | nil => rfl
  | cons p C ih => rw [List.flatMap_cons, List.length_append, ih, List.length_cons, pcells_len]; omega
theorem flatK_list (C : List Pt) : (flatK pcells 5 C.toArray).toList = C.flatMap pcells := by
  apply List.ext_getElem?
  intro t
  by_cases ht : t < C.length * 5
  · have h1 : t / 5 < C.length := by omega
    have h2 : t % 5 < 5 := by omega
    have h3 : t / 5 * 5 + t % 5 = t := by omega
    have h4 := flat_get_ (R := pcells) (size := 5) pcells_len (l := C) h1 h2
    rw [h3] at h4
    rw [h4]
    have hs : t < (flatK pcells 5 C.toArray).size := by rw [size_flatK]; exact ht
    rw [Array.getElem?_toList, Array.getElem?_eq_getElem hs, ← getElem!_pos (flatK pcells 5 C.toArray) t hs, get_flatK _ _ _ _ (by simpa using ht)]
    have h5 : C.toArray[t / 5]! = C[t / 5] := by rw [getElem!_pos C.toArray (t / 5) (by simpa using h1)]; simp
    rw [h5]
    rw [List.getElem?_eq_getElem (by rw [pcells_len]; exact h2), getElem!_pos (pcells C[t / 5]) (t % 5) (by rw [pcells_len]; exact h2)]
  · rw [List.getElem?_eq_none (by rw [Array.length_toList, size_flatK]; simpa using ht), List.getElem?_eq_none (by rw [flat_len]; omega)]
theorem flatK_size (C : List Pt) : (flatK pcells 5 C.toArray).size = C.length * 5 := by rw [size_flatK]; simp
theorem putCells_take (F cur : Array Value) (h : F.size ≤ cur.size) : (putCells id 0 F cur).toList.take F.size = F.toList := by
  apply List.ext_getElem?
  intro t
  by_cases ht : t < F.size
  · rw [List.getElem?_take, if_pos ht, Array.getElem?_toList, Array.getElem?_toList]
    unfold putCells
    rw [Array.getElem?_mapIdx, Array.getElem?_eq_getElem (by omega), Option.map_some, if_pos ⟨Nat.zero_le _, by omega⟩, Nat.sub_zero, id, getElem!_pos F t ht, Array.getElem?_eq_getElem ht]
  · rw [List.getElem?_eq_none (by rw [List.length_take]; omega), List.getElem?_eq_none (by simpa using ht)]
theorem putCells_size (F cur : Array Value) : (putCells id 0 F cur).size = cur.size := by unfold putCells; simp
theorem heap_mapBlock (w : World) (g : Nat) (f : Array Value → Array Value) {cur : Array Value} {t : TypeId} {fz : Nat × Nat} (h : w.heap[g]? = some (.cells cur t fz)) : (mapBlock w g f).heap[g]? = some (.cells (f cur) t fz) := by
  unfold mapBlock
  simp [Array.getElem?_modify, h, onCells]
theorem heap_mapBlock_ne (w : World) (g : Nat) (f : Array Value → Array Value) {i : Nat} (h : i ≠ g) : (mapBlock w g f).heap[i]? = w.heap[i]? := by
  unfold mapBlock
  simp [Array.getElem?_modify, Ne.symm h]
theorem heap_grow (w : World) (os : Array Obj) {i : Nat} (h : i < w.heap.size) : (grow w os).heap[i]? = w.heap[i]? := by
  unfold grow
  simp [Array.getElem?_append, h]
theorem sort_own {W : World} {F : Nat → Prop} {A : Option Addr} {c : Nat} {C : List Pt} (h : PtsO A c C W F) (hl : C.length < 4611686018427387904) :
    Calls Tryz.prog 27 #[.slice A C.length c, .func (.func 28) #[] #[]] W fun e w' =>
      e = .returned (.tuple #[]) ∧ ∃ C', C'.Perm C ∧ C'.Pairwise (fun p q => ¬ ltP q p) ∧ Post W F (PtsO A c C') w' := by
  have h0 := h
  obtain ⟨⟨hx, hv⟩, hF⟩ := h
  rcases hv with ⟨hv, hn⟩ | ⟨g, cap, cur, hv, -, hg, hnc, hcm, hcs, htk⟩
  · obtain rfl : C = [] := List.length_eq_zero_iff.1 hn
    injection hv with e1 e2 e3
    subst e1
    have := AnyF.slices_SortFunc_none Tryz.sortPt none c (.func (.func 28) #[] #[]) W
    refine this.mono ?_
    rintro e w' ⟨rfl, rfl⟩
    exact ⟨rfl, [], .refl _, .nil, F, h0, Mod.refl _ _, fun i hi => .inl hi⟩
  · injection hv with e1 e2 e3
    subst e1
    subst e3
    have hcell : ∀ j v, (C.flatMap pcells)[j]? = some v → cur[j]? = some v := fun j v hj => by
      rw [← htk, List.getElem?_take] at hj
      split at hj
      · rw [Array.getElem?_toList] at hj; exact hj
      · cases hj
    have hH : HoldsK pcells 5 W g 0 C.toArray := by
      intro j hj
      rw [flatK_size] at hj
      have hfl : (C.flatMap pcells)[j]? = some (flatK pcells 5 C.toArray)[j]! := by
        rw [← flatK_list, Array.getElem?_toList, Array.getElem?_eq_getElem (by rw [flatK_size]; exact hj), getElem!_pos (flatK pcells 5 C.toArray) j (by rw [flatK_size]; exact hj)]
      refine ⟨?_, ?_⟩
      · rw [Nat.zero_add]
        simp only [World.cell?, hg]
        rw [hcell j _ hfl]; rfl
      · simp [World.frozen?, hg]
    have hgl : g < W.heap.size := lt_of_block hg
    have hs := sort_any g 0 c C.toArray W hH hgl (by simpa using hl)
    have hsz : C.toArray.size = C.length := by simp
    rw [hsz] at hs
    refine hs.mono ?_
    rintro e w' ⟨rfl, d', n, os, hp, hso, rfl⟩
    obtain ⟨hd, -, hpm⟩ := hp
    have hd' : d'.toList.length = C.length := by rw [Array.length_toList, hd, hsz]
    refine ⟨rfl, d'.toList, ?_, ?_, ?_⟩
    · have e1 : d'.extract 0 C.length = d' := by rw [← hsz, ← hd, Array.extract_size]
      have e2 : C.toArray.extract 0 C.length = C.toArray := by rw [← hsz, Array.extract_size]
      rw [e1, e2] at hpm
      simpa using hpm
    · rw [List.pairwise_iff_getElem]
      intro i j hi hj hij
      have h1 := hso i j (Nat.zero_le _) hij (by rw [← hd']; exact hj)
      rw [cmp_ltOf] at h1
      have hi' : i < d'.size := by simpa using hi
      have hj' : j < d'.size := by simpa using hj
      rw [getElem!_pos d' i hi', getElem!_pos d' j hj'] at h1
      have := of_decide_eq_false h1
      rw [Array.getElem_toList, Array.getElem_toList]
      exact this
    · have hfs : (flatK pcells 5 d').size = C.length * 5 := by rw [size_flatK, hd, hsz]
      have hfl : (flatK pcells 5 d').toList = d'.toList.flatMap pcells := by
        have := flatK_list d'.toList
        simpa using this
      have hb : (sortWorldK pcells 5 W g 0 n d' os).heap[g]? = some (.cells (putCells id 0 (flatK pcells 5 d') cur) 37 (0, 0)) := by
        have h1 : (putRowK pcells 5 (Sort.ahead W n) g 0 d').heap[g]? = some (.cells (putCells id 0 (flatK pcells 5 d') cur) 37 (0, 0)) := heap_mapBlock _ _ _ (show (Sort.ahead W n).heap[g]? = _ from hg)
        unfold sortWorldK
        rw [heap_grow _ _ (lt_of_block h1), h1]
      refine ⟨F, ⟨⟨by rw [flat_len], .inr ⟨g, c, putCells id 0 (flatK pcells 5 d') cur, by rw [hd'], Nat.zero_le _, hb, by rw [hd']; exact hnc, hcm, by rw [putCells_size]; exact hcs, ?_⟩⟩, fun i => ?_⟩, ?_, fun i hi => .inl hi⟩
      · rw [hd', ← hfs, putCells_take _ _ (by rw [hfs, hcs]; exact Nat.mul_le_mul_right _ hnc), hfl]
      · rw [hF i, hd']
      · refine ⟨rfl, rfl, rfl, ?_, fun i hi hF' => ?_⟩
        · unfold sortWorldK grow putRowK putRow mapBlock
          simp [Sort.ahead]
        · have hne : i ≠ g := fun e => hF' ((hF i).2 (by rw [e]; rfl))
          unfold sortWorldK
          have h1 : (putRowK pcells 5 (Sort.ahead W n) g 0 d').heap[i]? = W.heap[i]? := heap_mapBlock_ne _ _ _ hne
          have h2 : i < (putRowK pcells 5 (Sort.ahead W n) g 0 d').heap.size := by
            unfold putRowK putRow mapBlock
            simpa [Sort.ahead] using hi
          rw [heap_grow _ _ h2, h1]
end Go.Proofs.YtnppgomhhcbplaaGreatDoor
namespace Go.Proofs.YtnppgomhhcbplaaGreatDoor
open Go.RowKit Go.CH Go.CH.Scr Go.CH.Pot
open Go.ChangeMaps (setBlock)
theorem isCost_any (n : Int) (w : World) : Calls Tryz.prog 73 #[.int .i64 n] w (BelowRet w (.bool (costN n))) := by
  by_cases h1 : 0 ≤ n
  · by_cases h2 : n ≤ 1000
    · have e : costN n = true := costN_iff.2 ⟨h1, h2⟩
      rw [e]
      go_enter Tryz.func73, Tryz.ntmps73
      go_wp2
      go_ret
      exact ⟨rfl, Below.refl _ _⟩
    · have e : costN n = false := by rw [Bool.eq_false_iff]; exact fun h => h2 (costN_iff.1 h).2
      rw [e]
      go_enter Tryz.func73, Tryz.ntmps73
      go_wp2
      go_ret
      exact ⟨rfl, Below.refl _ _⟩
  · have e : costN n = false := by rw [Bool.eq_false_iff]; exact fun h => h1 (costN_iff.1 h).1
    rw [e]
    go_enter Tryz.func73, Tryz.ntmps73
    go_wp2
    go_ret
    exact ⟨rfl, Below.refl _ _⟩
set_option maxHeartbeats 1600000 in
theorem folded_any (k : Int) (s : ByteArray) (most : Nat) (w : World) (hs : s.size ≤ 1000000) (hz : LZ w) : Calls Tryz.prog 74 #[.int .i64 k, .string s, .int .i64 (most : Int)] w (BelowRet w (.bool (foldedN k (bl s) most))) := by
  have KF := hide (fold_any k s w hs hz)
  have KL := hide (fun W (hz : LZ W) => Letters_d k s W hs hz)
  have HZ := hide hz
  clear hz
  unfold BelowRet at KF
  by_cases hw : word k (bl s) = true
  · have e1 : foldN k (bl s) = (lower (bl s), 0) := by unfold foldN; rw [if_pos hw]
    have e2 : lettersN k (bl s) = ((ltrs k (bl s)).1, 0) := by unfold lettersN; rw [if_pos hw]
    simp only [e1] at KF
    unfold LtrsD at KL
    simp only [e2] at KL
    by_cases hl : lower (bl s) = bl s
    · have e3 : foldedN k (bl s) most = decide ((ltrs k (bl s)).1.length ≤ most) := by unfold foldedN; rw [hw, decide_eq_true hl]; simp
      have eqs : bs (lower (bl s)) = s := by rw [hl, bs_bl]
      rw [e3]
      rw [eqs] at KF
      have tq : (s.toList == s.toList) = true := by simp
      clear e1 e2 e3 hl eqs hw
      generalize (ltrs k (bl s)).1 = L at *
      by_cases hm : L.length ≤ most
      · have hm2 : (L.length : Int) ≤ (most : Int) := by omega
        rw [decide_eq_true hm]
        go_enter Tryz.func74, Tryz.ntmps74
        go_wp2_with fail
        refine KF.out.mono ?_
        rintro e9 w1 ⟨rfl, hb⟩
        have HB := hide hb
        have KL2 := hide (KL.out w1 (HZ.out.below hb))
        clear KF KL hb
        dsimp only
        go_wp2_with fail
        refine KL2.out.mono ?_
        rintro e9 w2 ⟨A, c, rfl, hb, hA, hc⟩
        have HB2 := hide (bel_trans HB.out hb)
        clear KL2 HB hb hA hc
        dsimp only
        go_wp2
        go_ret
        exact ⟨rfl, HB2.out⟩
      · have hm2 : ¬ (L.length : Int) ≤ (most : Int) := by omega
        rw [decide_eq_false hm]
        go_enter Tryz.func74, Tryz.ntmps74
        go_wp2_with fail
        refine KF.out.mono ?_
        rintro e9 w1 ⟨rfl, hb⟩
        have HB := hide hb
        have KL2 := hide (KL.out w1 (HZ.out.below hb))
        clear KF KL hb
        dsimp only
        go_wp2_with fail
        refine KL2.out.mono ?_
        rintro e9 w2 ⟨A, c, rfl, hb, hA, hc⟩
        have HB2 := hide (bel_trans HB.out hb)
        clear KL2 HB hb hA hc
        dsimp only
        go_wp2
        go_ret
        exact ⟨rfl, HB2.out⟩
    · have e3 : foldedN k (bl s) most = false := by unfold foldedN; rw [decide_eq_false hl]; simp
      have tq : ((bs (lower (bl s))).toList == s.toList) = false := by
        rw [toList_beq]; exact decide_eq_false fun h => hl (by have h2 := congrArg bl h; rw [bl_bs] at h2; exact h2)
      rw [e3]
      clear e1 e2 e3 hl hw
      generalize bs (lower (bl s)) = z at *
      go_enter Tryz.func74, Tryz.ntmps74
      go_wp2_with fail
      refine KF.out.mono ?_
      rintro e9 w1 ⟨rfl, hb⟩
      have HB := hide hb
      clear KF KL hb
      dsimp only
      go_wp2
      go_ret
      exact ⟨rfl, HB.out⟩
  · have e1 : foldN k (bl s) = ([], 1) := by unfold foldN; rw [if_neg hw]
    have e3 : foldedN k (bl s) most = false := by unfold foldedN; rw [Bool.eq_false_iff.2 hw]; rfl
    simp only [e1] at KF
    rw [e3]
    clear e1 e3 hw
    go_enter Tryz.func74, Tryz.ntmps74
    go_wp2_with fail
    refine KF.out.mono ?_
    rintro e9 w1 ⟨rfl, hb⟩
    have HB := hide hb
    clear KF KL hb
    dsimp only
    go_wp2
    go_ret
    exact ⟨rfl, HB.out⟩
end Go.Proofs.YtnppgomhhcbplaaGreatDoor
namespace Go.Proofs.YtnppgomhhcbplaaGreatDoor
open Go.RowKit Go.CH Go.CH.Scr Go.CH.Pot
open Go.ChangeMaps (setBlock)
theorem low_has (c : UInt8) : smallS.contains c = isLow c := by
  have h : ∀ n : Fin 256, smallS.contains (UInt8.ofNat n.1) = isLow (UInt8.ofNat n.1) := by decide +kernel
  have := h ⟨c.toNat, c.toNat_lt⟩
  simpa using this
theorem dw_nil {α : Type} {p : α → Bool} : ∀ l : List α, l.dropWhile p = [] ↔ l.all p = true
  | [] => by simp
  | a :: l => by
    rw [List.dropWhile_cons, List.all_cons]
    cases h : p a with
    | true => simp [dw_nil l]
    | false => simp
theorem trim_all (s : Bs) : Lib.trimS s smallS = [] ↔ s.all isLow = true := by
  have e : s.all isLow = s.all (smallS.contains ·) := by congr 1; funext c; exact (low_has c).symm
  rw [e]
  unfold Lib.trimS Lib.trimLeftS Lib.trimRightS
  constructor
  · intro h
    rw [dw_nil, List.all_reverse] at h
    rw [List.all_eq_true] at h ⊢
    intro c hc
    by_cases hd : c ∈ s.reverse.dropWhile (smallS.contains ·)
    · exact h c hd
    · have := List.takeWhile_append_dropWhile (p := (smallS.contains ·)) (l := s.reverse)
      have hc2 : c ∈ s.reverse := List.mem_reverse.2 hc
      rw [← this, List.mem_append] at hc2
      rcases hc2 with h2 | h2
      · exact List.all_eq_true.1 (List.all_takeWhile) c h2
      · exact absurd h2 hd
  · intro h
    have h2 : s.reverse.dropWhile (smallS.contains ·) = [] := (dw_nil _).2 (by rw [List.all_reverse]; exact h)
    rw [h2]; rfl
theorem isForm_any (s : ByteArray) (w : World) (hs : s.size ≤ 1000000) : Calls Tryz.prog 75 #[.string s] w (BelowRet w (.bool (formN (bl s)))) := by
  have KT := hide (Any.strings_Trim_laid Tryz.lays160 (by kernel_rfl) s ⟨#[97, 98, 99, 100, 101, 102, 103, 104, 105, 106, 107, 108, 109, 110, 111, 112, 113, 114, 115, 116, 117, 118, 119, 120, 121, 122]⟩ w (by omega) (by decide) (_root_.Go.Proofs.ascii_of_all (by decide)))
  have KT := hide (show Calls Tryz.prog 106 #[.string s, .string ⟨#[97, 98, 99, 100, 101, 102, 103, 104, 105, 106, 107, 108, 109, 110, 111, 112, 113, 114, 115, 116, 117, 118, 119, 120, 121, 122]⟩] w (fun e w' => e = .returned (.string (bs (Lib.trimS (bl s) smallS))) ∧ Below w.heap.size w w') from KT.out)
  have hlen : (bl s).length = s.size := bl_len s
  by_cases h3 : s.size ≤ 3
  · have h3' : (s.size : Int) ≤ 3 := by omega
    by_cases ha : Lib.trimS (bl s) smallS = []
    · have e : formN (bl s) = true := formN_iff.2 ⟨by omega, (trim_all _).1 ha⟩
      have t1 : (bs (Lib.trimS (bl s) smallS)).toList.isEmpty = true := by rw [List.isEmpty_iff]; exact bs_empty.2 ha
      rw [e]
      clear e ha hlen
      generalize bs (Lib.trimS (bl s) smallS) = z at *
      go_enter Tryz.func75, Tryz.ntmps75
      go_wp2_with fail
      refine KT.out.mono ?_
      rintro e9 w1 ⟨rfl, hb⟩
      have HB := hide hb
      clear KT hb
      dsimp only
      go_wp2
      go_ret
      exact ⟨rfl, HB.out⟩
    · have e : formN (bl s) = false := by rw [Bool.eq_false_iff]; exact fun h => ha ((trim_all _).2 (formN_iff.1 h).2)
      have t1 : (bs (Lib.trimS (bl s) smallS)).toList.isEmpty = false := by rw [List.isEmpty_eq_false_iff]; exact fun h => ha (bs_empty.1 h)
      rw [e]
      clear e ha hlen
      generalize bs (Lib.trimS (bl s) smallS) = z at *
      go_enter Tryz.func75, Tryz.ntmps75
      go_wp2_with fail
      refine KT.out.mono ?_
      rintro e9 w1 ⟨rfl, hb⟩
      have HB := hide hb
      clear KT hb
      dsimp only
      go_wp2
      go_ret
      exact ⟨rfl, HB.out⟩
  · have h3' : ¬ (s.size : Int) ≤ 3 := by omega
    have e : formN (bl s) = false := by rw [Bool.eq_false_iff]; exact fun h => h3 (by have := (formN_iff.1 h).1; omega)
    rw [e]
    clear e KT hlen
    go_enter Tryz.func75, Tryz.ntmps75
    go_wp2
    go_ret
    exact ⟨rfl, Below.refl _ _⟩
end Go.Proofs.YtnppgomhhcbplaaGreatDoor
namespace Go.Proofs.YtnppgomhhcbplaaGreatDoor
open Go.RowKit Go.CH Go.CH.Scr Go.CH.Pot
open Go.ChangeMaps (setBlock)
def keyC (x : Int × Bs × Bs) : Array Value := #[.int .i64 x.1, .string (bs x.2.1), .string (bs x.2.2)]
def keyV (x : Int × Bs × Bs) : Value := .agg (keyC x)
def keyF : List Field := [⟨ "script", 3, 0, false, "", "customhouse/rewrite", 0⟩, ⟨ "from", 9, 1, false, "", "customhouse/rewrite", 8⟩, ⟨ "to", 9, 2, false, "", "customhouse/rewrite", 24⟩]
theorem key_flats (x : Int × Bs × Bs) : Flats Tryz.prog keyF (keyC x) := by
  intro f hf
  simp only [keyF, List.mem_cons, List.mem_nil_iff, or_false] at hf
  rcases hf with rfl | rfl | rfl
  · exact ⟨by decide, _, rfl, .int Tryz.underlying3 _⟩
  · exact ⟨by decide, _, rfl, .str Tryz.underlying9 _⟩
  · exact ⟨by decide, _, rfl, .str Tryz.underlying9 _⟩
theorem key_same (a b : Int × Bs × Bs) : sameF keyF (keyC a) (keyC b) = decide (a = b) := by
  have e : sameF keyF (keyC a) (keyC b) = ((a.1 == b.1) && ((bs a.2.1 == bs b.2.1) && ((bs a.2.2 == bs b.2.2) && true))) := rfl
  rw [e, bs_beq, bs_beq]
  obtain ⟨i, x, y⟩ := a
  obtain ⟨i', x', y'⟩ := b
  by_cases h1 : i = i' <;> by_cases h2 : x = x' <;> by_cases h3 : y = y' <;> simp [h1, h2, h3]
theorem keyOk_key : KeyOk Tryz.prog 142 keyV := by
  refine keyOk_struct (cs := keyC) (fs := keyF.toArray) Tryz.underlying142 (by kernel_rfl) key_flats key_same (fun a => ?_)
  simp [keyC, Instr.sameBits, bs_beq]
/-- A set of keys in memory. -/
def SetO (b : Nat) (l : List (Int × Bs × Bs)) : CH.Own := MapO keyV b (l.map fun x => (x, .bool true))
theorem set_ok {b : Nat} {l : List (Int × Bs × Bs)} : (SetO b l).Ok := map_ok
theorem set_get {b : Nat} {l : List (Int × Bs × Bs)} {w : World} {F : Nat → Prop} (h : SetO b l w F) (x : Int × Bs × Bs) :
    (Instr.lookup 140 (.map (some b)) (.agg #[.int .i64 x.1, .string (bs x.2.1), .string (bs x.2.2)]) false).run Tryz.prog w = .ok (.bool (decide (x ∈ l))) w := by
  have h1 := mapO_get keyOk_key Tryz.underlying140 Tryz.zeroValue4 h x
  rw [mget_all] at h1
  refine h1.trans ?_
  by_cases hx : x ∈ l
  · rw [if_pos hx, decide_eq_true hx]; rfl
  · rw [if_neg hx, decide_eq_false hx]; rfl
theorem set_put {b : Nat} {l : List (Int × Bs × Bs)} {w : World} {F : Nat → Prop} (h : SetO b l w F) {x : Int × Bs × Bs} (hx : x ∉ l) :
    ∃ w', (Instr.mapUpdate 140 (.map (some b)) (.agg #[.int .i64 x.1, .string (bs x.2.1), .string (bs x.2.2)]) (.bool true)).run Tryz.prog w = .ok () w' ∧ Post w F (SetO b (l ++ [x])) w' := by
  obtain ⟨w', h1, h2⟩ := mapO_put keyOk_key Tryz.underlying140 h x (.bool true)
  refine ⟨w', h1, ?_⟩
  have e : mput (l.map fun x => (x, Value.bool true)) x (.bool true) = (l ++ [x]).map fun x => (x, Value.bool true) := by
    rw [mput_new_ (by rw [List.map_map]; simpa using hx), List.map_append]; rfl
  rw [e] at h2
  exact h2
end Go.Proofs.YtnppgomhhcbplaaGreatDoor
