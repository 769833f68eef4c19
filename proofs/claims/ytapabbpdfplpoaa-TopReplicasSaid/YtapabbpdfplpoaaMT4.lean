/-
  TopReplicas: the law of the two stories.
  TopReplicas: units given back; the other moves; beginning and end.
  Things owned, in any order and with any brackets.
  Licence: isName, within.
  TopReplicas: digits, walked.
  A region that draws its order, walked once in the order of the text: operations that only read under a condition S on the world, and operations that change the world, which wait for one another.
-/
import Derived.Test.YtapabbpdfplpoaaMT3
import Derived.Test.YtapabbpdfplpoaaMT1
import Derived.WalkKit
import Derived.Orders
import Derived.OrdersHeld
import Derived.Deep.Draws
import Derived.Deep.RegionHeld3
set_option linter.unusedSimpArgs false
set_option linter.unusedVariables false
namespace Go.CH.Top
open Go.CH.Lic Go.CH.Esc

def lS : ByteArray := ⟨#[108]⟩
def mS : ByteArray := ⟨#[109]⟩
def licT (U : Int) : LicM := ⟨lS, [mS], [], U, 1000, 0, 144001439⟩
/-- What a replica has spent, by the list. -/
def sumR (r : Int) : List (Int × Int) → Int
  | [] => 0
  | x :: l => (if x.1 = r then x.2 else 0) + sumR r l
def all2 (l : List (Int × Int)) : Int := isum (l.map (·.2))
def at2 (l : List (Int × Int)) (i : Nat) : Int × Int := l.getD i (0, 0)
theorem at2_get {l : List (Int × Int)} {i : Nat} (h : i < l.length) : at2 l i = l[i] := by simp [at2, List.getD_eq_getElem?_getD, h]
theorem sumR_app (r : Int) : ∀ (a b : List (Int × Int)), sumR r (a ++ b) = sumR r a + sumR r b
  | [], b => by simp [sumR]
  | x :: a, b => by simp [sumR, sumR_app r a b]; omega
theorem sumR_set (r : Int) : ∀ (l : List (Int × Int)) (i : Nat) (h : i < l.length) (v : Int), sumR r (l.set i (l[i].1, v)) = sumR r l + (if l[i].1 = r then v - l[i].2 else 0)
  | x :: l, 0, _, v => by simp only [List.set_cons_zero, List.getElem_cons_zero, sumR]; split <;> omega
  | x :: l, i + 1, h, v => by
    have := sumR_set r l i (by simpa using h) v
    simp only [List.set_cons_succ, List.getElem_cons_succ, sumR, this]; omega
theorem all2_app (a b : List (Int × Int)) : all2 (a ++ b) = all2 a + all2 b := by unfold all2; rw [List.map_append, isum_append]
theorem all2_set (l : List (Int × Int)) (i : Nat) (h : i < l.length) (v : Int) : all2 (l.set i (l[i].1, v)) = all2 l - l[i].2 + v := by
  unfold all2
  rw [List.map_set, isum_set _ _ _ (by simpa using h)]
  simp
theorem all2_sum : ∀ (l : List (Int × Int)), (∀ x ∈ l, x.1 = 0 ∨ x.1 = 1 ∨ x.1 = 2) → all2 l = sumR 0 l + sumR 1 l + sumR 2 l
  | [], _ => by simp [all2, isum, sumR]
  | x :: l, h => by
    have h1 := all2_sum l (fun y hy => h y (by simp [hy]))
    have h2 := h x (by simp)
    unfold all2 at *
    simp only [List.map_cons, isum, sumR, h1]
    rcases h2 with e | e | e <;> simp [e] <;> omega
theorem sumR_nonneg (r : Int) : ∀ (l : List (Int × Int)), (∀ x ∈ l, 0 ≤ x.2) → 0 ≤ sumR r l
  | [], _ => by simp [sumR]
  | x :: l, h => by
    have h1 := sumR_nonneg r l (fun y hy => h y (by simp [hy]))
    have h2 := h x (by simp)
    simp only [sumR]; split <;> omega
theorem sumR_zero (r : Int) : ∀ (l : List (Int × Int)), (∀ x ∈ l, x.1 = r → x.2 = 0) → sumR r l = 0
  | [], _ => by simp [sumR]
  | x :: l, h => by
    have h1 := sumR_zero r l (fun y hy => h y (by simp [hy]))
    have h2 := h x (by simp)
    simp only [sumR, h1]; split
    · rename_i e; rw [h2 e]; rfl
    · rfl
theorem all2_nonneg (l : List (Int × Int)) (h : ∀ x ∈ l, 0 ≤ x.2) : 0 ≤ all2 l := isum_nonneg (fun y hy => by obtain ⟨x, hx, rfl⟩ := List.mem_map.1 hy; exact h x hx)

def keysT (sp : List (Int × Int)) : List KeyM := (List.range sp.length).map fun i => ⟨keyS i, 0, 1, (at2 sp i).2⟩
/-- The book beside the escrow, while rest units of A are still to be given back. -/
structure TIn (U : Int) (g : GM) (b : BkM) (sp : List (Int × Int)) (A rest : Int) : Prop where
  gi : Esc.Inv g U
  len : g.acc.length = 3
  gs : b.gs = [⟨licT U, all2 sp, sp.length, -1⟩]
  ks : b.ks = keysT sp
  s : ∀ r, g.is r = true → (g.at_ r).s = sumR r sp - (if r = A then rest else 0)
  pos : ∀ x ∈ sp, g.is x.1 = true ∧ 0 ≤ x.2
theorem is3 {g : GM} (h : g.acc.length = 3) (r : Int) : g.is r = true ↔ r = 0 ∨ r = 1 ∨ r = 2 := by
  simp [GM.is, h]; omega
theorem acc3 {g : GM} (h : g.acc.length = 3) : g.acc = [g.at_ 0, g.at_ 1, g.at_ 2] := by
  refine List.ext_getElem (by simp [h]) fun i h1 h2 => ?_
  have : i = 0 ∨ i = 1 ∨ i = 2 := by omega
  rcases this with rfl | rfl | rfl <;> simp [GM.at_, List.getD_eq_getElem?_getD, h]
theorem spent3 {g : GM} (h : g.acc.length = 3) : spentG g = (g.at_ 0).s + (g.at_ 1).s + (g.at_ 2).s := by
  unfold spentG; rw [acc3 h]; simp [isum]; omega
theorem have3 {g : GM} (h : g.acc.length = 3) : haveG g = (g.at_ 0).u + (g.at_ 1).u + (g.at_ 2).u := by
  unfold haveG; rw [acc3 h]; simp [isum]; omega
theorem TIn.spent {U : Int} {g : GM} {b : BkM} {sp : List (Int × Int)} {A rest : Int} (h : TIn U g b sp A rest) (hA : g.is A = true) : spentG g = all2 sp - rest := by
  rw [spent3 h.len, all2_sum sp (fun x hx => (is3 h.len _).1 (h.pos x hx).1), h.s 0 ((is3 h.len _).2 (by simp)), h.s 1 ((is3 h.len _).2 (by simp)), h.s 2 ((is3 h.len _).2 (by simp))]
  rcases (is3 h.len A).1 hA with e | e | e <;> simp [e] <;> omega
theorem TIn.zero {U : Int} {g : GM} {b : BkM} {sp : List (Int × Int)} {A : Int} (h : TIn U g b sp A 0) (B : Int) : TIn U g b sp B 0 :=
  ⟨h.gi, h.len, h.gs, h.ks, fun r hr => by rw [h.s r hr]; simp, h.pos⟩
section
variable {U : Int} {g : GM} {b : BkM} {sp : List (Int × Int)} {A rest : Int}
theorem TIn.gat0 (h : TIn U g b sp A rest) : gat b 0 = ⟨licT U, all2 sp, sp.length, -1⟩ := by unfold gat; rw [h.gs]; rfl
theorem TIn.fg (h : TIn U g b sp A rest) : findG b lS = some 0 := by unfold findG; rw [h.gs]; simp [List.findIdx?_cons, licT]
theorem TIn.kat (h : TIn U g b sp A rest) {i : Nat} (hi : i < sp.length) : kat b i = ⟨keyS i, 0, 1, sp[i].2⟩ := by
  unfold Lic.kat; rw [h.ks]; unfold keysT
  simp [List.getD_eq_getElem?_getD, hi, at2_get hi]
theorem TIn.fk (h : TIn U g b sp A rest) (hn : sp.length ≤ 80) {i : Nat} (hi : i < sp.length) : findK b (keyS i) = some i := by
  unfold findK; rw [h.ks]; unfold keysT
  rw [List.findIdx?_eq_some_iff_getElem]
  refine ⟨by simpa using hi, by simp, fun j hj => ?_⟩
  simp
  exact fun e => by have := key_inj (by omega) (by omega) e; omega
theorem TIn.fk0 (h : TIn U g b sp A rest) (hn : sp.length < 80) : findK b (keyS sp.length) = none := by
  unfold findK; rw [h.ks]; unfold keysT
  rw [List.findIdx?_eq_none_iff]
  intro x hx
  obtain ⟨j, hj, rfl⟩ := List.mem_map.1 hx
  have hj : j < sp.length := List.mem_range.1 hj
  simp
  exact fun e => by have := key_inj (by omega) (by omega) e; omega
theorem TIn.runs (h : TIn U g b sp A rest) (su : Int) (sn : Int) : runsG ⟨licT U, su, sn, -1⟩ 0 = true := by
  simp [runsG, runsB, licT]
end
theorem inst0 : inst 0 = true := by simp [inst, within]
/-- Units are spent. -/
theorem top_spend {U : Int} {g : GM} {b : BkM} {sp : List (Int × Int)} {A k : Int} (h : TIn U g b sp A 0) (hU : U ≤ 65535) (hn : sp.length < 80) (he : spendE g A k = 0) :
    ∃ b1 b2, reserveR b lS (keyS sp.length) k 0 = (0, b1) ∧ useR b1 (keyS sp.length) k 0 = (0, b2) ∧ TIn U (spendM g A k) b2 (sp ++ [(A, k)]) A 0 := by
  have hk1 : 1 ≤ k := by
    unfold spendE at he; split at he
    · cases he
    · rename_i hh; simp only [not_or] at hh; omega
  have hA : g.is A = true := by
    unfold spendE at he; split at he
    · cases he
    · rename_i hh; simp only [not_or] at hh; simpa using hh.2
  have hu : k ≤ (g.at_ A).u := by
    unfold spendE at he
    split at he
    · cases he
    · split at he
      · cases he
      · split at he
        · cases he
        · omega
  have hsp := h.spent hA
  have htot := h.gi.tot
  have hfly : 0 ≤ flyG g := by
    refine isum_nonneg (fun y hy => ?_)
    obtain ⟨x, hx, rfl⟩ := List.mem_map.1 hy
    exact fly_nonneg (h.gi.pr x.1 x.2 (pair_mem.2 hx))
  have hhv : (g.at_ A).u ≤ haveG g := by
    have h0 := h.gi.at_ ((is3 h.len 0).2 (by simp))
    have h1 := h.gi.at_ ((is3 h.len 1).2 (by simp))
    have h2 := h.gi.at_ ((is3 h.len 2).2 (by simp))
    rw [have3 h.len]
    rcases (is3 h.len A).1 hA with e | e | e <;> subst e <;> omega
  have hall : 0 ≤ all2 sp := all2_nonneg sp (fun x hx => (h.pos x hx).2)
  have hleft : k ≤ U - all2 sp := by omega
  have hkl : b.ks.length = sp.length := by rw [h.ks]; simp [keysT]
  have hg0 := h.gat0
  have hgl : b.gs.length = 1 := by rw [h.gs]; rfl
  obtain ⟨b1, hb1⟩ : ∃ b1, b1 = putG { b with ks := b.ks ++ [⟨keyS sp.length, 0, 0, k⟩] } 0 { gat b 0 with su := all2 sp + k, sn := sp.length + 1 } := ⟨_, rfl⟩
  have hks : b1.ks = b.ks ++ [⟨keyS sp.length, 0, 0, k⟩] := by rw [hb1]; rfl
  have hgs : b1.gs = [⟨licT U, all2 sp + k, sp.length + 1, -1⟩] := by rw [hb1, hg0]; unfold putG; simp only [h.gs, List.set_cons_zero]
  have hga : gat b1 0 = ⟨licT U, all2 sp + k, sp.length + 1, -1⟩ := by unfold gat; rw [hgs]; rfl
  have hka : Lic.kat b1 sp.length = ⟨keyS sp.length, 0, 0, k⟩ := by
    unfold Lic.kat; rw [hks]; simp [List.getD_eq_getElem?_getD, List.getElem?_append_right, hkl]
  have hsm : spendM g A k = g.setA A { g.at_ A with u := (g.at_ A).u - k, s := (g.at_ A).s + k } := by unfold spendM; rw [if_pos he]
  have hlen : (spendM g A k).acc.length = 3 := by rw [hsm, setA_len]; exact h.len
  refine ⟨b1, setM b1 sp.length 1 k, ?_, ?_, ?_⟩
  · have e1 : within k 1000000000 = true := Lic.within_iff.2 (by omega)
    have e2 : runsG (gat b 0) 0 = true := by rw [hg0]; exact h.runs _ _
    have e3 : ¬ ((gat b 0).l.q - (gat b 0).su < k ∨ (gat b 0).l.u - (gat b 0).sn < 1) := by
      rw [hg0]; simp only [licT]; omega
    unfold reserveR
    rw [if_neg (by simp [key_name _ hn, e1, inst0])]
    simp only [h.fg, h.fk0 hn]
    rw [if_neg (by simp), if_neg (by omega), if_neg (by rw [e2]; simp), if_neg e3, hb1, hg0]
  · have hf : findK b1 (keyS sp.length) = some sp.length := by
      unfold findK; rw [hks, List.findIdx?_eq_some_iff_getElem]
      refine ⟨by simp [hkl], by simp [List.getElem_append_right, hkl], fun j hj => ?_⟩
      have hjl : j < b.ks.length := by omega
      rw [List.getElem_append_left hjl]
      have := h.fk0 hn
      unfold findK at this
      rw [List.findIdx?_eq_none_iff] at this
      have := this _ (List.getElem_mem hjl)
      simpa using this
    have e2 : runsG (gat b1 0) 0 = true := by rw [hga]; exact h.runs _ _
    unfold useR
    simp only [hf, hka]
    rw [if_neg (by simp [inst0]; omega), if_neg (by simp), if_neg (by rw [e2]; simp), if_neg (by omega)]
  · refine ⟨h.gi.spend A k, hlen, ?_, ?_, fun r hr => ?_, fun x hx => ?_⟩
    · unfold setM
      rw [hka]
      have e3 : all2 (sp ++ [(A, k)]) = all2 sp + k := by rw [all2_app]; simp [all2, isum]
      unfold putG putK
      simp only [hgs, List.set_cons_zero, e3, hga, unC]
      simp
    · unfold setM
      rw [hka]
      unfold putG putK
      simp only [hks]
      rw [List.set_append_right _ _ (by omega), hkl, Nat.sub_self, h.ks]
      unfold keysT
      simp only [List.length_append, List.length_cons, List.length_nil, List.range_succ, List.map_append, List.set_cons_zero, List.map_cons, List.map_nil]
      congr 1
      · refine List.map_congr_left fun i hi => ?_
        have hi : i < sp.length := List.mem_range.1 hi
        rw [at2_get hi, at2_get (by simp; omega), List.getElem_append_left hi]
      · rw [at2_get (by simp), List.getElem_append_right (by omega)]; simp
    · rw [hsm, setA_is] at hr
      rw [hsm, setA_at hA _ r hr, sumR_app]
      simp only [sumR]
      have := h.s r hr
      by_cases e : r = A
      · subst e; simp; simp at this; omega
      · simp [e, Ne.symm e] at *; omega
    · rw [hsm, setA_is]
      rcases List.mem_append.1 hx with hx | hx
      · exact h.pos x hx
      · simp at hx; subst hx; exact ⟨hA, by omega⟩
end Go.CH.Top
namespace Go.CH.Top
open Go.CH.Lic Go.CH.Esc

section
variable {U : Int} {g : GM} {b : BkM} {sp : List (Int × Int)} {A k rest : Int}
theorem ret_num (he : retE g A k = 0) : 1 ≤ k ∧ g.is A = true ∧ k ≤ (g.at_ A).s := by
  unfold retE at he
  split at he
  · cases he
  · rename_i hh
    simp only [not_or] at hh
    split at he
    · cases he
    · exact ⟨by omega, by simpa using hh.2, by omega⟩
theorem top_ret0 (h : TIn U g b sp A 0) (he : retE g A k = 0) : TIn U (retM g A k) b sp A k := by
  obtain ⟨hk, hA, hs⟩ := ret_num he
  have hm : retM g A k = g.setA A { g.at_ A with u := (g.at_ A).u + k, s := (g.at_ A).s - k } := by unfold retM; rw [if_pos he]
  refine ⟨h.gi.ret A k, by rw [hm, setA_len]; exact h.len, h.gs, h.ks, fun r hr => ?_, fun x hx => by rw [hm, setA_is]; exact h.pos x hx⟩
  rw [hm, setA_is] at hr
  rw [hm, setA_at hA _ r hr]
  have := h.s r hr
  by_cases e : r = A
  · subst e; simp at this ⊢; omega
  · simp [e] at this ⊢; exact this
theorem top_ret (h : TIn U g b sp A rest) (hn : sp.length ≤ 80) {i : Nat} (hi : i < sp.length) (hr : sp[i].1 = A) {part : Int} (h1 : 1 ≤ part) (h2 : part ≤ sp[i].2) :
    ∃ b', returnR b (keyS i) part = (0, b') ∧ TIn U g b' (sp.set i (A, sp[i].2 - part)) A (rest - part) := by
  have hk := h.kat hi
  have hga := h.gat0
  refine ⟨setM b i 1 (sp[i].2 - part), ?_, h.gi, h.len, ?_, ?_, fun r hr' => ?_, fun x hx => ?_⟩
  · unfold returnR
    simp only [h.fk hn hi, hk]
    rw [if_neg (by omega), if_neg (by simp), if_neg (by omega)]
  · unfold setM
    rw [hk]
    unfold putG putK
    simp only [h.gs, List.set_cons_zero, hga, unC]
    have e : all2 (sp.set i (A, sp[i].2 - part)) = all2 sp + (sp[i].2 - part - sp[i].2) := by
      rw [← hr, all2_set sp i hi]; omega
    rw [e]
    simp
  · unfold setM
    rw [hk]
    unfold putG putK
    simp only [h.ks]
    unfold keysT
    rw [List.length_set]
    refine List.ext_getElem (by simp) fun j a c => ?_
    have hj : j < sp.length := by simpa using c
    rw [List.getElem_set]
    simp only [List.getElem_map, List.getElem_range, at2_get hj]
    rw [at2_get (by simpa using hj), List.getElem_set]
    by_cases e : i = j
    · subst e; simp
    · simp [e]
  · have e := sumR_set r sp i hi (sp[i].2 - part)
    rw [hr] at e
    rw [e, h.s r hr']
    by_cases e1 : A = r
    · subst e1; simp; omega
    · simp [e1, Ne.symm e1]
  · rcases List.mem_or_eq_of_mem_set hx with hx | rfl
    · exact h.pos x hx
    · have := h.pos _ (List.getElem_mem hi)
      rw [hr] at this
      exact ⟨this.1, by simp only; omega⟩
theorem top_done (h : TIn U g b sp A rest) (hA : g.is A = true) (hz : ∀ j (hj : j < sp.length), sp[j].1 = A → sp[j].2 = 0) : rest ≤ 0 := by
  have h1 := h.s A hA
  have h2 := sumR_zero A sp (fun x hx e => by obtain ⟨j, hj, rfl⟩ := List.getElem_of_mem hx; exact hz j hj e)
  have h3 := (h.gi.at_ hA).2
  simp at h1
  omega
theorem TIn.unit_le (h : TIn U g b sp A rest) (hA : g.is A = true) {i : Nat} (hi : i < sp.length) : 0 ≤ sp[i].2 ∧ sp[i].2 ≤ U + rest := by
  have h1 := h.spent hA
  have htot := h.gi.tot
  have hfly : 0 ≤ flyG g := by
    refine isum_nonneg (fun y hy => ?_)
    obtain ⟨x, hx, rfl⟩ := List.mem_map.1 hy
    exact fly_nonneg (h.gi.pr x.1 x.2 (pair_mem.2 hx))
  have hh : 0 ≤ haveG g := isum_nonneg (fun y hy => by obtain ⟨a, ha, rfl⟩ := List.mem_map.1 hy; exact (h.gi.acc a ha).1)
  have h2 : sp[i].2 ≤ all2 sp := isum_mem_le (fun y hy => by obtain ⟨x, hx, rfl⟩ := List.mem_map.1 hy; exact (h.pos x hx).2) (List.mem_map_of_mem (f := (·.2)) (List.getElem_mem hi))
  exact ⟨(h.pos _ (List.getElem_mem hi)).2, by omega⟩
theorem ret_le (hI : Esc.Inv g U) (he : retE g A k = 0) : k ≤ 1000000000 := by
  obtain ⟨_, hA, hs⟩ := ret_num he
  have htot := hI.tot
  have hfly : 0 ≤ flyG g := by
    refine isum_nonneg (fun y hy => ?_)
    obtain ⟨x, hx, rfl⟩ := List.mem_map.1 hy
    exact fly_nonneg (hI.pr x.1 x.2 (pair_mem.2 hx))
  have hh : 0 ≤ haveG g := isum_nonneg (fun y hy => by obtain ⟨a, ha, rfl⟩ := List.mem_map.1 hy; exact (hI.acc a ha).1)
  have h2 : (g.at_ A).s ≤ spentG g := isum_mem_le (fun y hy => by obtain ⟨a, ha, rfl⟩ := List.mem_map.1 hy; exact (hI.acc a ha).2) (List.mem_map_of_mem (at_mem hA))
  have := hI.U
  omega
theorem ret_is (he : retE g A k = 0) : (retM g A k).is A = true := by
  unfold retM; rw [if_pos he, setA_is]; exact (ret_num he).2.1
/-- A move that leaves what was spent alone. -/
theorem top_same (h : TIn U g b sp A 0) {g' : GM} (hi : Esc.Inv g' U) (hl : g'.acc.length = g.acc.length) (hs : ∀ r, g.is r = true → (g'.at_ r).s = (g.at_ r).s) : TIn U g' b sp A 0 := by
  have his : ∀ r, g'.is r = g.is r := fun r => by unfold GM.is; rw [hl]
  exact ⟨hi, hl.trans h.len, h.gs, h.ks, fun r hr => by rw [his] at hr; rw [hs r hr]; exact h.s r hr, fun x hx => by rw [his]; exact h.pos x hx⟩
theorem setA_s {g : GM} {x : Int} (hx : g.is x = true) (a : Acc) (ha : a.s = (g.at_ x).s) (r : Int) (hr : g.is r = true) : ((g.setA x a).at_ r).s = (g.at_ r).s := by
  rw [setA_at hx a r hr]
  split
  · rename_i e; subst e; exact ha
  · rfl
theorem recv_s {g : GM} {t r : Int} (ht : g.is t = true) (hr : g.is r = true) (f : Int) (m : MsgG) : ((recvM g f t m).at_ r).s = (g.at_ r).s := by
  unfold recvM
  simp only []
  rw [setA_at (by exact ht) _ r (by exact hr)]
  split
  · rename_i e; subst e; rfl
  · rfl
theorem top_give (h : TIn U g b sp A 0) (f t k : Int) : TIn U (giveM g f t k) b sp A 0 := by
  refine top_same h (h.gi.give f t k) ?_ (fun r hr => ?_)
  · unfold giveM; split
    · exact setA_len _ _ _
    · rfl
  · unfold giveM; split
    · rename_i he
      have hp : g.pair f t = true := by
        unfold giveE at he; split at he
        · cases he
        · rename_i hh; simp only [not_or] at hh; simpa using hh.1
      exact setA_s (pair_is hp).1 { g.at_ f with u := (g.at_ f).u - k } rfl r hr
    · rfl
theorem top_send (h : TIn U g b sp A 0) (f t : Int) : TIn U (sendM g f t) b sp A 0 := by
  refine top_same h (h.gi.send f t) ?_ (fun r hr => ?_)
  · unfold sendM; split <;> rfl
  · unfold sendM; split <;> rfl
theorem top_del (h : TIn U g b sp A 0) (f t : Int) (lost again : Bool) : TIn U (delM g f t lost again) b sp A 0 := by
  refine top_same h (h.gi.del f t lost again) ?_ (fun r hr => ?_)
  · unfold delM; split
    · simp only []; split
      · rfl
      · exact setA_len _ _ _
    · rfl
  · unfold delM; split
    · rename_i he
      have hp : g.pair f t = true := by unfold delE at he; simp only [Bool.and_eq_true] at he; exact he.1
      simp only []; split
      · rfl
      · exact recv_s (g := popM g f t again) (pair_is hp).2.1 hr f _
    · rfl
theorem top_start (hU : 0 ≤ U ∧ U ≤ 65535) : grantR newM (licT U) = (0, addM newM (licT U)) ∧ TIn U (newG 3 U) (addM newM (licT U)) [] A 0 := by
  constructor
  · have hv : valid (licT U) = true := by
      have e1 : isName lS = true := by decide +kernel
      have e2 : names [mS] = true := by decide +kernel
      have e3 : names ([] : List ByteArray) = true := rfl
      unfold valid listsOk licT
      simp only [e1, e2, e3, within]
      simp; omega
    unfold grantR
    simp [hv, findG, newM]
  · refine ⟨Inv.new (n := 3) (by omega) (by omega) hU.1 (by omega), rfl, rfl, rfl, fun r hr => ?_, by simp⟩
    rcases (is3 (g := newG 3 U) rfl r).1 hr with e | e | e <;> subst e <;> simp [sumR, GM.at_, newG] <;> rfl
theorem top_end (h : TIn U g b sp A 0) : leftR b lS 0 = (U - all2 sp, 1000 - (sp.length : Int), 0) ∧ have_ g 0 + have_ g 1 + have_ g 2 + flyG g = U - all2 sp ∧ spentG g = all2 sp := by
  have i0 := (is3 h.len 0).2 (by simp)
  have i1 := (is3 h.len 1).2 (by simp)
  have i2 := (is3 h.len 2).2 (by simp)
  have hsp := (h.zero 0).spent i0
  have htot := h.gi.tot
  refine ⟨?_, ?_, by omega⟩
  · have e2 : runsG (gat b 0) 0 = true := by rw [h.gat0]; exact h.runs _ _
    unfold leftR
    simp only [h.fg]
    rw [if_neg (by simp [inst0]), if_neg (by rw [e2]; simp), h.gat0]
    rfl
  · have := have3 h.len
    unfold have_
    rw [if_pos i0, if_pos i1, if_pos i2]
    omega
end
end Go.CH.Top
namespace Go.CH
open Go.RowKit

theorem star_comm_eq (A B : Own) : star A B = star B A := by
  funext w F; exact propext ⟨star_comm, star_comm⟩
theorem star_assoc_eq (A B C : Own) : star (star A B) C = star A (star B C) := by
  funext w F; exact propext ⟨star_assoc, star_assoc'⟩
instance star_com : Std.Commutative star := ⟨star_comm_eq⟩
instance star_ass : Std.Associative star := ⟨star_assoc_eq⟩
theorem emp_star (A : Own) : star emp A = A := by
  funext w F; exact propext ⟨fun h => star_emp (star_comm h), fun h => star_comm (star_emp' h)⟩
theorem star_emp_eq (A : Own) : star A emp = A := by rw [star_comm_eq, emp_star]
theorem Run.perm {F0 : Nat → Prop} {w0 W : World} {A B : Own} (h : Run F0 w0 A W) (e : A = B) : Run F0 w0 B W := e ▸ h
/-- A call at a part of what is owned, by a law that speaks of the call's own beginning. -/
theorem Run.sub {F0 : Nat → Prop} {w0 W : World} {A B : Own} (h : Run F0 w0 (star A B) W) (ha : A.Ok) (hb : B.Ok) : ∃ F, Run F W A W ∧ ∀ (R : Own) (W' : World), R.Ok → Run F W R W' → Run F0 w0 (star R B) W' := by
  obtain ⟨F, h1, -, h2⟩ := h.take ha hb
  exact ⟨F, Run.start h1, fun R W' hr hp => h2 R W' (hp.post hr)⟩
end Go.CH
namespace Go.Proofs.Ytapabbpdfplpoaa
open Go.RowKit Go.CH Go.CH.Lic
open Go.ChangeMaps (setBlock)

theorem bytN (s : ByteArray) (i : Nat) : s.data.toList.getD i 0 = UInt8.ofNat (byt s i) := by unfold byt; simp
theorem byt_lt (s : ByteArray) (i : Nat) : byt s i < 256 := by unfold byt; exact UInt8.toNat_lt _
theorem okAt_iff (s : ByteArray) (k : Nat) : okAt s k = true ↔ ((97 ≤ byt s k ∧ byt s k ≤ 122) ∨ (65 ≤ byt s k ∧ byt s k ≤ 90)) ∨ (k ≠ 0 ∧ (byt s k = 95 ∨ (48 ≤ byt s k ∧ byt s k ≤ 57))) := by
  unfold okAt restB letB
  by_cases h : k = 0
  · simp [h]
  · simp [h]; omega
theorem byt_at (s : ByteArray) (k : Nat) (h : k < s.size) : byt s k = s[k].toNat := by
  unfold byt
  have h1 : s.data.toList[k]? = some s[k] := by
    rw [Array.getElem?_toList]
    exact Array.getElem?_eq_getElem (xs := s.data) h
  rw [List.getD_eq_getElem?_getD, h1]; rfl
theorem isName_no {s : ByteArray} {k : Nat} (h : k < s.size) (ho : okAt s k = false) : isName s = false := by
  unfold isName; rw [okTo_false h ho]; rfl
theorem size_or (s : ByteArray) : (s.size = 0 ∧ s.toList = [] ∧ (!s.toList.isEmpty) = false) ∨ (1 ≤ s.size ∧ ¬ s.toList = [] ∧ (!s.toList.isEmpty) = true) := by
  have h1 : s.toList.length = s.size := by rw [ByteArray.toList_eq]; simp
  by_cases h : s.toList = []
  · left; rw [h] at h1; exact ⟨h1.symm, h, by rw [h]; rfl⟩
  · right
    refine ⟨?_, h, ?_⟩
    · rcases Nat.eq_zero_or_pos s.size with e | e
      · exact absurd (List.eq_nil_of_length_eq_zero (h1.trans e)) h
      · exact e
    · cases hl : s.toList with
      | nil => exact absurd hl h
      | cons a l => rfl
theorem quiet_bool {w : World} {a b : Bool} (h : a = b) : Quiet w (.bool b) (.returned (.bool a)) w := ⟨by rw [h], rfl⟩
set_option maxHeartbeats 1600000 in
theorem isName_any (s : ByteArray) (w : World) (hs : s.size ≤ maxLen) :
    Calls Try.prog 76 #[.string s] w (Quiet w (.bool (isName s))) := by
  unfold maxLen at hs
  go_enter Try.func76, Try.ntmps76
  go_wp2
  go_loop [2, 3, 4, 5, 8] (fun _ _ _ _ i => ∃ k : Nat, k ≤ s.size ∧ i = .int .i64 k ∧ okTo s k = true) (fun _ _ _ _ i => s.size - (intOf i).toNat)
  case atStart => exact ⟨0, Nat.zero_le _, rfl, rfl⟩
  case round =>
    obtain ⟨k, hk, rfl, hok⟩ := hrel
    have HOK := hide hok
    clear hok
    by_cases hlt : k < s.size
    · have hb := hide (byt_at s k hlt)
      have ho := hide (okAt_iff s k)
      have hno := hide (fun h => isName_no (s := s) hlt h)
      have hsucc := hide (okTo_succ s k)
      have hk0 : k = 0 ∨ ((k : Int) == 0) = false := by
        by_cases e : k = 0
        · exact .inl e
        · right; simp; omega
      rcases hk0 with rfl | hk0
      · go_wp2
        all_goals first
          | (go_ret; refine quiet_bool (hno.out ?_).symm; rw [Bool.eq_false_iff]; intro hx; have := ho.out.1 hx; rw [hb.out] at this; omega)
          | (go_round
             case rel =>
               refine ⟨0 + 1, by omega, by go_num, ?_⟩
               rw [hsucc.out, HOK.out, Bool.true_and]
               refine ho.out.2 ?_
               rw [hb.out]
               first | omega | (exfalso; simp_all; done) | (simp_all; omega)
             case measure => simp [intOf]; omega)
      · go_wp2
        all_goals first
          | (go_ret; refine quiet_bool (hno.out ?_).symm; rw [Bool.eq_false_iff]; intro hx; have := ho.out.1 hx; rw [hb.out] at this; omega)
          | (go_round
             case rel =>
               refine ⟨k + 1, by omega, by go_num, ?_⟩
               rw [hsucc.out, HOK.out, Bool.true_and]
               refine ho.out.2 ?_
               rw [hb.out]
               first | omega | (exfalso; simp_all; done) | (simp_all; omega)
             case measure => simp [intOf]; omega)
    · have hks : k = s.size := by omega
      have HK := hide hks
      clear hks
      have hfin := hide (show isName s = (decide (1 ≤ s.size) && decide (s.size ≤ 24)) by unfold isName; rw [← HK.out, HOK.out, Bool.true_and])
      rcases size_or s with ⟨e0, e1, e2⟩ | ⟨e0, e1, e2⟩
      · have HE := hide e0
        clear e0
        go_wp2
        go_ret
        exact quiet_bool (by rw [hfin.out, HE.out]; rfl)
      · have HE := hide e0
        clear e0
        go_wp2
        go_ret
        exact quiet_bool (by rw [hfin.out, decide_eq_true HE.out, Bool.true_and]; go_num)
theorem within_any (n m : Int) (w : World) : Calls Try.prog 77 #[.int .i64 n, .int .i64 m] w (Quiet w (.bool (within n m))) := by
  by_cases h : 0 ≤ n
  · have hv := hide (show within n m = decide (n ≤ m) by unfold within; rw [decide_eq_true h]; rfl)
    have h' : decide (n ≥ 0) = true := by simpa using h
    go_enter Try.func77, Try.ntmps77
    go_wp2
    go_ret
    exact quiet_bool hv.out.symm
  · have hv := hide (show within n m = false by unfold within; rw [decide_eq_false h]; rfl)
    have h' : decide (n ≥ 0) = false := by simpa using h
    go_enter Try.func77, Try.ntmps77
    go_wp2
    go_ret
    exact quiet_bool hv.out.symm
end Go.Proofs.Ytapabbpdfplpoaa
namespace Go.Proofs.Ytapabbpdfplpoaa
open Go.RowKit Go.CH Go.CH.Lic Go.CH.Top
open Go.ChangeMaps (setBlock)

theorem dig_lt (n : Nat) (h : n < 10) (w : World) : Calls Try.prog 39 #[.int .i64 n] w (Quiet w (.string (ch n))) := by
  have : n = 0 ∨ n = 1 ∨ n = 2 ∨ n = 3 ∨ n = 4 ∨ n = 5 ∨ n = 6 ∨ n = 7 ∨ n = 8 ∨ n = 9 := by omega
  rcases this with rfl | rfl | rfl | rfl | rfl | rfl | rfl | rfl | rfl | rfl
  all_goals
    go_enter Try.func39, Try.ntmps39
    go_wp2
    go_ret
    exact ⟨rfl, rfl⟩
theorem dig_any (n : Nat) (h : n < 80) (w : World) : Calls Try.prog 39 #[.int .i64 n] w (Quiet w (.string (digS n))) := by
  unfold digS
  by_cases h10 : n < 10
  · rw [if_pos h10]; exact dig_lt n h10 w
  · rw [if_neg h10]
    have K1 := hide (dig_lt (n / 10) (by omega) w)
    have K2 := hide (dig_lt (n % 10) (by omega) w)
    rw [show ((n / 10 : Nat) : Int) = (n : Int) / 10 by omega] at K1
    rw [show ((n % 10 : Nat) : Int) = (n : Int) % 10 by omega] at K2
    have hs1 : (ch (n / 10)).size ≤ 1 := Nat.le_refl 1
    have hs2 : (ch (n % 10)).size ≤ 1 := Nat.le_refl 1
    generalize ch (n / 10) = a at *
    generalize ch (n % 10) = b at *
    go_enter Try.func39, Try.ntmps39
    go_wp2_with fail
    refine K1.out.mono ?_
    rintro e w' ⟨rfl, rfl⟩
    go_wp2_with fail
    refine K2.out.mono ?_
    rintro e w' ⟨rfl, rfl⟩
    go_wp2
    go_ret
    exact ⟨rfl, rfl⟩
end Go.Proofs.Ytapabbpdfplpoaa
namespace Go.CH
open Go.RowKit

/-- Operations that may change the world. -/
def chainK : Op → Bool
  | .call { callee := .builtin .len, .. } | .call { callee := .builtin .cap, .. } | .call { callee := .builtin .min, .. } | .call { callee := .builtin .max, .. } => false
  | .move _ | .assign _ | .pick .. | .load .. | .nilCheck _ | .binOp .. | .unOp .. | .makeInterface .. | .makeFunc .. | .slice .. | .fieldAddr .. | .field .. | .indexAddr .. | .index .. | .lookup .. | .extract .. | .build .. | .typeAssert .. | .entry _ => false
  | _ => true

section
variable {P : Program} {ops : Array Oper} {S : World → Prop} {Q : Exit → Act → World → Prop}

def NoExit : Exit → Act → World → Prop := fun _ _ _ => False

/-- The walk in the order of a list of indexes. -/
def wpLx (P : Program) (ops : Array Oper) (S : World → Prop) (Q : Exit → Act → World → Prop) : List Nat → Act → World → Prop
  | [], a, w => Q .normal a w
  | i :: r, a, w => match ops[i]? with
    | none => wpLx P ops S Q r a w
    | some o => (∃ v, YieldsIf P ops S o v a ∧ wpLx P ops S Q r (a.put o.dst v) w) ∨
      (chainK o.op = true ∧ Region.wanted o (yielded ops a.tmps) = true ∧ o.wp P a w (fun a' w' => S w' ∧ wpLx P ops S Q r a' w') NoExit)

theorem yi_uniq {o : Oper} {u v : Value} {a : Act} {w : World} (hS : S w) (h1 : YieldsIf P ops S o u a) (h2 : YieldsIf P ops S o v a) : u = v := by
  rcases h1 with ⟨w1, r1⟩ | ⟨w1, e1⟩ <;> rcases h2 with ⟨w2, r2⟩ | ⟨w2, e2⟩
  · have h := (r1 w hS).symm.trans (r2 w hS)
    injection h with h _
    injection h
  · rw [w1] at w2; cases w2
  · rw [w1] at w2; cases w2
  · rw [e1, e2]

theorem calls_some {f : FuncId} {args : Array Value} {w : World} {R : Ending → World → Prop} (h : Calls P f args w R) : ∃ e w', R e w' := by
  obtain ⟨e, w', _, hR, _⟩ := h []; exact ⟨e, w', hR⟩

/-- An operation that reads may be taken out of the way of one that has its own temporaries. -/
theorem yi_back {oi oj : Oper} {u v : Value} {a : Act} (hs : ∀ cs b, oj.op ≠ .select cs b) (h : ∀ d, oi.dst = some d → d ∉ oj.looksAt ops) (hy : YieldsIf P ops S oj u (a.put oi.dst v)) : YieldsIf P ops S oj u a :=
  hy.of_same (execOp_put oj hs a oi.dst v h).symm (wanted_put oj a oi.dst v h).symm
theorem yi_forth {oi oj : Oper} {u v : Value} {a : Act} (hs : ∀ cs b, oj.op ≠ .select cs b) (h : ∀ d, oi.dst = some d → d ∉ oj.looksAt ops) (hy : YieldsIf P ops S oj u a) : YieldsIf P ops S oj u (a.put oi.dst v) :=
  hy.of_same (execOp_put oj hs a oi.dst v h) (wanted_put oj a oi.dst v h)
theorem yi_defers {o : Oper} {u : Value} {a : Act} {ds : List Deferred} (h : YieldsIf P ops S o u { a with defers := ds }) : YieldsIf P ops S o u a := h.of_same rfl rfl
theorem yi_defers' {o : Oper} {u : Value} {a : Act} {ds : List Deferred} (h : YieldsIf P ops S o u a) : YieldsIf P ops S o u { a with defers := ds } := h.of_same rfl rfl

/-- A reading operation i first, a changing one j behind it: j may come first. -/
theorem wp_swap_rc {oi oj : Oper} {v : Value} {a : Act} {w : World} {K : Act → World → Prop} (hsi : ∀ cs b, oi.op ≠ .select cs b) (hsj : ∀ cs b, oj.op ≠ .select cs b) (hap : oi.apart ops oj = true)
    (hy : YieldsIf P ops S oi v a) (h : oj.wp P (a.put oi.dst v) w K NoExit) : oj.wp P a w (fun a' w' => YieldsIf P ops S oi v a' ∧ K (a'.put oi.dst v) w') NoExit := by
  obtain ⟨h1, h2, h3⟩ := Oper.apart_spec hap
  have keep : ∀ (a : Act), YieldsIf P ops S oi v a → ∀ u, YieldsIf P ops S oi v (a.put oj.dst u) := fun a hy u => yi_forth hsi h3 hy
  unfold Oper.wp at *
  rw [execOp_put oj hsj a oi.dst v h1] at h
  generalize (execOp a.eval oj).run P w = r at *
  cases r with
  | ok n w' =>
    cases n <;> simp only [Oper.upon] at h ⊢
    case value u => exact ⟨keep a hy u, by rw [← Act.put_comm a v u h2]; exact h⟩
    case skip => exact ⟨keep a hy _, by rw [← Act.put_comm a v undef h2]; exact h⟩
    case defer d =>
      refine ⟨keep _ (yi_defers' hy) _, ?_⟩
      rw [← Act.put_comm _ v undef h2, ← Act.put_defers]
      exact h
    case enter f args =>
      refine Calls.mono h fun e w'' he => ?_
      cases e with
      | returned u => exact ⟨keep a hy u, by rw [← Act.put_comm a v u h2]; exact he⟩
      | panicked c => exact he
      | outgrown => exact he
    case row row args => exact Rows.mono h fun u w'' he => ⟨keep a hy u, by rw [← Act.put_comm a v u h2]; exact he⟩
  | halt x w' => cases x <;> simp only [Oper.upon] at h ⊢ <;> exact h

/-- A changing operation i first, a reading one j behind it: j may come first. -/
theorem wp_swap_cr {oi oj : Oper} {a : Act} {w : World} {K : Act → World → Prop} (hsi : ∀ cs b, oi.op ≠ .select cs b) (hsj : ∀ cs b, oj.op ≠ .select cs b) (hap : oi.apart ops oj = true) (hS : S w)
    (h : oi.wp P a w (fun a' w' => S w' ∧ ∃ u, YieldsIf P ops S oj u a' ∧ K (a'.put oj.dst u) w') NoExit) :
    ∃ u, YieldsIf P ops S oj u a ∧ oi.wp P (a.put oj.dst u) w (fun a' w' => S w' ∧ K a' w') NoExit := by
  obtain ⟨h1, h2, h3⟩ := Oper.apart_spec hap
  unfold Oper.wp at *
  have hex : ∀ u, execOp (a.put oj.dst u).eval oi = execOp a.eval oi := fun u => execOp_put oi hsi a oj.dst u h3
  simp only [hex]
  generalize (execOp a.eval oi).run P w = r at *
  cases r with
  | ok n w' =>
    cases n <;> simp only [Oper.upon] at h ⊢
    case value v =>
      obtain ⟨s, u, hy, hk⟩ := h
      exact ⟨u, yi_back hsj h1 hy, s, by rw [← Act.put_comm a v u h2]; exact hk⟩
    case skip =>
      obtain ⟨s, u, hy, hk⟩ := h
      exact ⟨u, yi_back hsj h1 hy, s, by rw [← Act.put_comm a undef u h2]; exact hk⟩
    case defer d =>
      obtain ⟨s, u, hy, hk⟩ := h
      refine ⟨u, yi_defers (yi_back hsj h1 hy), s, ?_⟩
      rw [Act.put_defers, ← Act.put_comm _ undef u h2]
      exact hk
    case enter f args =>
      obtain ⟨e, w0, he⟩ := calls_some h
      cases e with
      | panicked c => exact he.elim
      | outgrown => obtain ⟨_, _, he⟩ := he; exact he.elim
      | returned v0 =>
        obtain ⟨_, u, hy, _⟩ := he
        have hy0 := yi_back hsj h1 hy
        refine ⟨u, hy0, Calls.mono h fun e w'' he => ?_⟩
        cases e with
        | panicked c => exact he
        | outgrown => exact he
        | returned v =>
          obtain ⟨s, u', hy', hk⟩ := he
          obtain rfl := yi_uniq hS hy0 (yi_back hsj h1 hy')
          exact ⟨s, by rw [← Act.put_comm a v u h2]; exact hk⟩
    case row row args =>
      have hr := h default []
      obtain ⟨v0, w0, ⟨_, u, hy, _⟩, _⟩ := hr
      have hy0 := yi_back hsj h1 hy
      refine ⟨u, hy0, Rows.mono h fun v w'' he => ?_⟩
      obtain ⟨s, u', hy', hk⟩ := he
      obtain rfl := yi_uniq hS hy0 (yi_back hsj h1 hy')
      exact ⟨s, by rw [← Act.put_comm a v u h2]; exact hk⟩
  | halt x w' => cases x <;> simp only [Oper.upon] at h <;> exact h.elim

/-- i may be overtaken by j. -/
def swapOk (ops : Array Oper) (i j : Nat) : Bool :=
  match ops[i]?, ops[j]? with
  | some oi, some oj => !(chainK oi.op && chainK oj.op) && oi.apart ops oj
  | _, _ => false

theorem wpLx_mono {S' : World → Prop} : ∀ (l : List Nat) {a : Act} {w : World} {Q' : Exit → Act → World → Prop} (_ : ∀ a w, Q .normal a w → Q' .normal a w), wpLx P ops S Q l a w → wpLx P ops S Q' l a w
  | [], a, w, Q', hq, h => hq _ _ h
  | i :: r, a, w, Q', hq, h => by
    unfold wpLx at *
    cases ho : ops[i]? with
    | none => simp only [ho] at h ⊢; exact wpLx_mono (S' := S') r hq h
    | some o =>
      simp only [ho] at h ⊢
      rcases h with ⟨v, h1, h2⟩ | ⟨h1, h2, h3⟩
      · exact .inl ⟨v, h1, wpLx_mono (S' := S') r hq h2⟩
      · exact .inr ⟨h1, h2, Oper.wp_mono (fun a w h => ⟨h.1, wpLx_mono (S' := S') r hq h.2⟩) h3⟩

theorem wpLx_swap (hns : Region.noSelect ops = true) {i j : Nat} {r : List Nat} {a : Act} {w : World} (hok : swapOk ops i j = true) (hS : S w) (h : wpLx P ops S Q (i :: j :: r) a w) : wpLx P ops S Q (j :: i :: r) a w := by
  unfold swapOk at hok
  cases hi : ops[i]? with
  | none => simp [hi] at hok
  | some oi =>
  cases hj : ops[j]? with
  | none => simp [hj] at hok
  | some oj =>
  simp only [hi, hj, Bool.and_eq_true, Bool.not_eq_true', Bool.and_eq_false_iff] at hok
  obtain ⟨hch, hap⟩ := hok
  have hsi := fun cs b => Region.noSelect_spec hns i oi cs b hi
  have hsj := fun cs b => Region.noSelect_spec hns j oj cs b hj
  obtain ⟨h1, h2, h3⟩ := Oper.apart_spec hap
  simp only [wpLx, hi, hj] at h ⊢
  rcases h with ⟨v, hy, ⟨u, hy2, hr⟩ | ⟨hc, hw, hr⟩⟩ | ⟨hc, hw, hr⟩
  · refine .inl ⟨u, yi_back hsj h1 hy2, .inl ⟨v, yi_forth hsi h3 hy, ?_⟩⟩
    rw [← Act.put_comm a v u h2]; exact hr
  · refine .inr ⟨hc, by rw [← hw]; exact (wanted_put oj a oi.dst v h1).symm, ?_⟩
    refine Oper.wp_mono (fun a' w' hk => ?_) (wp_swap_rc hsi hsj hap hy hr)
    exact ⟨hk.2.1, .inl ⟨v, hk.1, hk.2.2⟩⟩
  · have hcj : chainK oj.op = false := by
      rcases hch with e | e
      · rw [hc] at e; cases e
      · exact e
    have hr' : oi.wp P a w (fun a' w' => S w' ∧ ∃ u, YieldsIf P ops S oj u a' ∧ wpLx P ops S Q r (a'.put oj.dst u) w') NoExit := by
      refine Oper.wp_mono (fun a' w' hk => ⟨hk.1, ?_⟩) hr
      rcases hk.2 with hk | ⟨e, _⟩
      · exact hk
      · rw [hcj] at e; cases e
    obtain ⟨u, hy, hk⟩ := wp_swap_cr (K := wpLx P ops S Q r) hsi hsj hap hS hr'
    refine .inl ⟨u, hy, .inr ⟨hc, ?_, hk⟩⟩
    rw [wanted_put oi a oj.dst u h3]; exact hw

theorem wpLx_front (hns : Region.noSelect ops = true) {j : Nat} {r : List Nat} : ∀ (l : List Nat) {a : Act} {w : World}, (∀ i ∈ l, swapOk ops i j = true) → S w → wpLx P ops S Q (l ++ j :: r) a w → wpLx P ops S Q (j :: (l ++ r)) a w
  | [], _, _, _, _, h => h
  | i :: l, a, w, hok, hS, h => by
    refine wpLx_swap hns (hok i (by simp)) hS ?_
    have ih := fun {a : Act} {w : World} (hS : S w) => wpLx_front hns (r := r) l (a := a) (w := w) (fun i hi => hok i (by simp [hi])) hS
    rw [List.cons_append] at h
    unfold wpLx at h ⊢
    cases ho : ops[i]? with
    | none => simp only [ho] at h ⊢; exact ih hS h
    | some o =>
      simp only [ho] at h ⊢
      rcases h with ⟨v, h1, h2⟩ | ⟨h1, h2, h3⟩
      · exact .inl ⟨v, h1, ih hS h2⟩
      · exact .inr ⟨h1, h2, Oper.wp_mono (fun a w h => ⟨h.1, ih h.1 h.2⟩) h3⟩

/-! ### Any order -/

/-- Not yet listed, in the order of the text. -/
def unl (ops : Array Oper) (listed : Array Bool) : List Nat := (List.range ops.size).filter fun i => !listed.getD i true

/-- All that a listed operation waits for is listed. -/
def Closed (ops : Array Oper) (listed : Array Bool) : Prop := ∀ j o, ops[j]? = some o → listed.getD j false = true → ∀ e ∈ o.after, Region.binds .any e = true → listed.getD e.on false = true

/-- The masks B say what an operation waits for, directly or not. -/
def maskOk (ops : Array Oper) (B : Array Nat) : Bool :=
  (List.range ops.size).all fun j => (List.range j).all fun i => !(B.getD j 0).testBit i ||
    match ops[j]? with
    | some o => o.after.any fun e => Region.binds .any e && e.on < j && (e.on == i || (decide (i < e.on) && (B.getD e.on 0).testBit i))
    | none => false
def lexOk (ops : Array Oper) : Bool :=
  Region.noSelect ops && maskOk ops (Region.before ops) &&
  (List.range ops.size).all fun j => (match ops[j]? with | some o => o.after.all fun e => !Region.binds .any e || e.on < j | none => false) &&
    (List.range j).all fun i => ((Region.before ops).getD j 0).testBit i || swapOk ops i j

theorem mask_listed {B : Array Nat} (hB : maskOk ops B = true) {listed : Array Bool} (hc : Closed ops listed) : ∀ (n j : Nat) (o : Oper), j < n → ops[j]? = some o → (∀ e ∈ o.after, Region.binds .any e = true → listed.getD e.on false = true) →
    ∀ i, i < j → (B.getD j 0).testBit i = true → listed.getD i false = true
  | 0, _, _, h, _, _, _, _, _ => by omega
  | n + 1, j, o, hj, ho, ha, i, hi, hbit => by
    have hjs : j < ops.size := (Array.getElem?_eq_some_iff.1 ho).1
    have h1 := hB
    simp only [maskOk, List.all_eq_true, List.mem_range] at h1
    have h2 := h1 j hjs i hi
    simp only [ho, hbit, Bool.not_true, Bool.false_or] at h2
    obtain ⟨e, he, hb⟩ := Array.any_eq_true'.1 h2
    simp only [Bool.and_eq_true, decide_eq_true_eq, Bool.or_eq_true, beq_iff_eq] at hb
    obtain ⟨⟨hb1, hb2⟩, hb3⟩ := hb
    have hl := ha e he hb1
    rcases hb3 with rfl | ⟨hie, hb3⟩
    · exact hl
    · have hes : e.on < ops.size := by omega
      have ho' : ops[e.on]? = some ops[e.on] := Array.getElem?_eq_getElem hes
      exact mask_listed hB hc n e.on _ (by omega) ho' (fun e' he' hb' => hc e.on _ ho' hl e' he' hb') i hie hb3

theorem range_split {n j : Nat} (h : j < n) : List.range n = List.range j ++ j :: List.range' (j + 1) (n - j - 1) := by
  have e : n = j + (1 + (n - j - 1)) := by omega
  conv => lhs; rw [e, List.range_eq_range', ← List.range'_append_1, ← List.range'_append_1]
  simp [List.range_eq_range']

theorem getD_lt {listed : Array Bool} {i : Nat} (h : i < listed.size) (d d' : Bool) : listed.getD i d = listed.getD i d' := by simp [h]

theorem unl_split {listed : Array Bool} {j : Nat} (hs : listed.size = ops.size) (hj : j < ops.size) (hu : listed.getD j true = false) :
    ∃ l1 l2, unl ops listed = l1 ++ j :: l2 ∧ unl ops (listed.setIfInBounds j true) = l1 ++ l2 ∧ (∀ i ∈ l1, i < j ∧ listed.getD i true = false) := by
  refine ⟨(List.range j).filter fun i => !listed.getD i true, (List.range' (j + 1) (ops.size - j - 1)).filter fun i => !listed.getD i true, ?_, ?_, ?_⟩
  · unfold unl
    rw [range_split hj, List.filter_append, List.filter_cons_of_pos (by simp [hu])]
  · unfold unl
    have hset : (listed.setIfInBounds j true).getD j true = true := by simp
    rw [range_split hj, List.filter_append, List.filter_cons_of_neg (by rw [hset]; simp)]
    congr 1
    · refine List.filter_congr fun i hi => ?_
      have : j ≠ i := by have := List.mem_range.1 hi; omega
      rw [getD_set_ne true this]
    · refine List.filter_congr fun i hi => ?_
      have : j ≠ i := by have := List.mem_range'_1.1 hi; omega
      rw [getD_set_ne true this]
  · intro i hi
    rw [List.mem_filter, List.mem_range] at hi
    exact ⟨hi.1, by simpa using hi.2⟩

theorem wpAny_of_lx (hB : lexOk ops = true) : ∀ (n : Nat) (listed : Array Bool) (a : Act) (w : World), (unl ops listed).length = n → listed.size = ops.size → Closed ops listed → S w → wpLx P ops S Q (unl ops listed) a w → wpAny P .any ops Q n listed a w := by
  have hB' := hB
  simp only [lexOk, Bool.and_eq_true, List.all_eq_true, List.mem_range] at hB'
  obtain ⟨⟨hns, hmask⟩, hall⟩ := hB'
  intro n
  induction n with
  | zero =>
    intro listed a w hn hs hc hS h
    have hnil : unl ops listed = [] := List.eq_nil_of_length_eq_zero hn
    rw [hnil] at h
    refine ⟨?_, h⟩
    cases hr : Region.ready .any ops listed with
    | nil => rfl
    | cons j r =>
      have hj : j ∈ Region.ready .any ops listed := by rw [hr]; simp
      obtain ⟨h0, o, ho, _⟩ := mem_ready.1 hj
      have : j ∈ unl ops listed := by
        unfold unl; rw [List.mem_filter, List.mem_range]
        exact ⟨(Array.getElem?_eq_some_iff.1 ho).1, by simp [h0]⟩
      rw [hnil] at this; cases this
  | succ n ih =>
    intro listed a w hn hs hc hS h
    refine ⟨fun hr => ?_, fun j hj => ?_⟩
    · -- the first that is not listed is ready
      cases hu : unl ops listed with
      | nil => rw [hu] at hn; simp at hn
      | cons k r =>
        exfalso
        have hk : k ∈ unl ops listed := by rw [hu]; simp
        unfold unl at hk
        rw [List.mem_filter, List.mem_range] at hk
        obtain ⟨hk1, hk2⟩ := hk
        have hk2 : listed.getD k true = false := by simpa using hk2
        have ho : ops[k]? = some ops[k] := Array.getElem?_eq_getElem hk1
        have hd := (hall k hk1).1
        simp only [ho] at hd
        have : k ∈ Region.ready .any ops listed := by
          rw [mem_ready]
          refine ⟨hk2, _, ho, fun e he hb => ?_⟩
          have h1 := Array.all_eq_true_iff_forall_mem.1 hd e he
          simp only [hb, Bool.not_true, Bool.false_or, decide_eq_true_eq] at h1
          cases hl : listed.getD e.on false with
          | true => rfl
          | false =>
            exfalso
            obtain ⟨l1, l2, hs1, _, hs3⟩ := unl_split (ops := ops) (j := e.on) hs (by omega) (by rw [getD_lt (by omega) true false]; exact hl)
            rw [hu] at hs1
            cases l1 with
            | nil => simp at hs1; omega
            | cons x l1 =>
              simp at hs1
              have := (hs3 x (by simp)).1
              omega
        rw [hr] at this; cases this
    · obtain ⟨h0, o, ho, hall'⟩ := mem_ready.1 hj
      have hjs : j < ops.size := (Array.getElem?_eq_some_iff.1 ho).1
      obtain ⟨l1, l2, hs1, hs2, hs3⟩ := unl_split (ops := ops) hs hjs h0
      have hfront : wpLx P ops S Q (j :: (l1 ++ l2)) a w := by
        refine wpLx_front hns l1 (fun i hi => ?_) hS (hs1 ▸ h)
        obtain ⟨hij, hiu⟩ := hs3 i hi
        have := (hall j hjs).2 i hij
        rw [Bool.or_eq_true] at this
        rcases this with hb | hb
        · have hl := mask_listed hmask hc (j + 1) j o (by omega) ho hall' i hij hb
          rw [getD_lt (by omega) false true, hiu] at hl; cases hl
        · exact hb
      have hlen : (unl ops (listed.setIfInBounds j true)).length = n := by
        rw [hs2]; rw [hs1] at hn; simp at hn ⊢; omega
      have hs' : (listed.setIfInBounds j true).size = ops.size := by simpa using hs
      have hc' : Closed ops (listed.setIfInBounds j true) := by
        intro m om hm hl e he hb
        by_cases hmj : m = j
        · subst hmj
          rw [ho] at hm; cases hm
          exact getD_set_true (hall' e he hb)
        · rw [getD_set_ne false (Ne.symm hmj)] at hl
          exact getD_set_true (hc m om hm hl e he hb)
      rw [← hs2] at hfront
      unfold wpLx at hfront
      simp only [ho] at hfront
      rcases hfront with ⟨v, hy, hk⟩ | ⟨_, hw, hk⟩
      · exact hy.wpOp ho hS (ih _ _ _ hlen hs' hc' hS hk)
      · unfold wpOp
        simp only [ho, hw, if_true]
        refine .inl ?_
        have h2 := Oper.wp_mono (K' := wpAny P .any ops Q n (listed.setIfInBounds j true)) (fun a' w' hk => ih _ a' w' hlen hs' hc' hk.1 hk.2) hk
        -- the empty exit serves every exit
        unfold Oper.wp at h2 ⊢
        generalize (execOp a.eval o).run P w = r at *
        cases r with
        | ok nx w' =>
          cases nx <;> simp only [Oper.upon] at h2 ⊢ <;> first
            | exact h2
            | exact Calls.mono h2 (fun e w'' he => by
                cases e with
                | returned v => exact he
                | panicked c => exact he.elim
                | outgrown => obtain ⟨_, _, he⟩ := he; exact he.elim)
        | halt x w' => cases x <;> simp only [Oper.upon] at h2 ⊢ <;> first | exact h2 | exact h2.elim

/-! ### The walk -/

/-- The walk in the order of the text. -/
def wpLex (P : Program) (ops : Array Oper) (S : World → Prop) (Q : Exit → Act → World → Prop) : List Oper → Act → World → Prop
  | [], a, w => Q .normal a w
  | o :: r, a, w => (∃ v, YieldsIf P ops S o v a ∧ wpLex P ops S Q r (a.put o.dst v) w) ∨
      (chainK o.op = true ∧ Region.wanted o (yielded ops a.tmps) = true ∧ o.wp P a w (fun a' w' => S w' ∧ wpLex P ops S Q r a' w') NoExit)

theorem lx_of_lex : ∀ (l : List Oper) (k : Nat) (a : Act) (w : World), (∀ j, l[j]? = ops[k + j]?) → wpLex P ops S Q l a w → wpLx P ops S Q (List.range' k l.length) a w
  | [], _, _, _, _, h => h
  | o :: l, k, a, w, hl, h => by
    have h0 : ops[k]? = some o := by simpa using (hl 0).symm
    have ih := fun a w => lx_of_lex l (k + 1) a w (fun j => by have := hl (j + 1); simpa [Nat.add_assoc, Nat.add_comm 1 j] using this)
    simp only [List.length_cons, List.range'_succ]
    unfold wpLx
    simp only [h0]
    rcases h with ⟨v, h1, h2⟩ | ⟨h1, h2, h3⟩
    · exact .inl ⟨v, h1, ih _ _ h2⟩
    · exact .inr ⟨h1, h2, Oper.wp_mono (fun a' w' hk => ⟨hk.1, ih _ _ hk.2⟩) h3⟩

/-- A region that draws its order goes by one walk in the order of the text. -/
theorem wp_region_lex {id : Nat} {l : List Oper} {a : Act} {w : World} (S : World → Prop) (hm : P.follows .mixedOrders = true) (hB : lexOk l.toArray = true) (hS : S w.drew)
    (h : wpLex P l.toArray S Q l a w.drew) : (Code.region id l.toArray true).wp P Q a w := by
  refine wp_region_any hm ?_
  have hu : unl l.toArray (Array.replicate l.toArray.size false) = List.range l.toArray.size := by
    unfold unl
    refine List.filter_eq_self.2 fun i hi => ?_
    have := List.mem_range.1 hi
    simp at this
    simp [this]
  refine wpAny_of_lx (S := S) hB _ _ _ _ (by rw [hu]; simp) (by simp) ?_ hS ?_
  · intro j o ho hl
    have : j < l.length := by have := (Array.getElem?_eq_some_iff.1 ho).1; simpa using this
    simp [this] at hl
  · rw [hu]
    have := lx_of_lex (P := P) (ops := l.toArray) (S := S) (Q := Q) l 0 a w.drew (by simp) h
    simpa [List.range_eq_range'] using this

section
variable {o : Oper} {r : List Oper} {a : Act} {w : World}
theorem lex_nil (h : Q .normal a w) : wpLex P ops S Q [] a w := h
/-- The guard says no. -/
theorem lex_skip (hw : Region.wanted o (yielded ops a.tmps) = false) (h : wpLex P ops S Q r (a.put o.dst undef) w) : wpLex P ops S Q (o :: r) a w := .inl ⟨undef, .inr ⟨hw, rfl⟩, h⟩
/-- It reads. -/
theorem lex_read {v : Value} (hw : Region.wanted o (yielded ops a.tmps) = true) (hv : ∀ w', S w' → (execOp a.eval o).run P w' = .ok (.value v) w') (h : wpLex P ops S Q r (a.put o.dst v) w) : wpLex P ops S Q (o :: r) a w := .inl ⟨v, .inl ⟨hw, hv⟩, h⟩
/-- It may change the world. -/
theorem lex_chain (hc : chainK o.op = true) (hw : Region.wanted o (yielded ops a.tmps) = true) (h : ∀ K : Act → World → Prop, Hid (∀ a' w', S w' → wpLex P ops S Q r a' w' → K a' w') → o.wp P a w K NoExit) : wpLex P ops S Q (o :: r) a w :=
  .inr ⟨hc, hw, h _ fun _ _ h1 h2 => ⟨h1, h2⟩⟩
end
end
end Go.CH
