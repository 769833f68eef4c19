/-
  Licence: what stays true of a book.
  Licence: the state of a law's walk with a book; left, as the laws use it.
  The reference of Licence: what a book is in memory; find, key, runs.
  The reference of Licence: left.
-/
import Derived.Test.YtapabbpdfplpoaaM3
import Derived.Test.YtapabbpdfplpoaaM8
import Derived.Test.YtapabbpdfplpoaaM5
set_option linter.unusedSimpArgs false
set_option linter.unusedVariables false
namespace Go.CH.Lic

theorem putG_len (b : BkM) (i : Nat) (g : GrM) : (putG b i g).gs.length = b.gs.length := by simp [putG]
theorem putK_len (b : BkM) (j : Nat) (k : KeyM) : (putK b j k).ks.length = b.ks.length := by simp [putK]
theorem inv_putG {b : BkM} (h : Inv b) (i : Nat) (g : GrM) (hg : valid g.l = true ∧ 0 ≤ g.su ∧ g.su ≤ g.l.q ∧ 0 ≤ g.sn ∧ g.sn ≤ g.l.u ∧ -1 ≤ g.e ∧ g.e ≤ 144001439) : Inv (putG b i g) := by
  refine ⟨fun x hx => ?_, fun k hk => ?_, by rw [putG_len]; exact h.gn, h.kn⟩
  · rcases List.mem_or_eq_of_mem_set hx with hx | rfl
    · exact h.g x hx
    · exact hg
  · rw [putG_len]; exact h.k k hk
theorem inv_putK {b : BkM} (h : Inv b) (j : Nat) (k : KeyM) (hk : k.gi < b.gs.length ∧ 0 ≤ k.un ∧ k.un ≤ 1000000000 ∧ (k.st = 0 ∨ k.st = 1 ∨ k.st = 2)) : Inv (putK b j k) := by
  refine ⟨h.g, fun x hx => ?_, h.gn, by rw [putK_len]; exact h.kn⟩
  rcases List.mem_or_eq_of_mem_set hx with hx | rfl
  · exact h.k x hx
  · exact hk
theorem inv_new : Inv newM := ⟨by simp [newM], by simp [newM], by simp [newM], by simp [newM]⟩
theorem inv_add {b : BkM} (h : Inv b) {l : LicM} (hv : valid l = true) (hn : b.gs.length < 100) : Inv (addM b l) := by
  have hn := valid_num hv
  refine ⟨fun x hx => ?_, fun k hk => ?_, by simp [addM]; omega, h.kn⟩
  · rcases List.mem_append.1 hx with hx | hx
    · exact h.g x hx
    · simp at hx; subst hx; exact ⟨hv, by simp, hn.1, by simp, hn.2.2.1, by simp, by simp⟩
  · have := h.k k hk
    exact ⟨by simp [addM]; omega, this.2⟩
/-! Sums: what the keys of a licence hold. -/
def suOf (i : Nat) : List KeyM → Int
  | [] => 0
  | k :: l => (if k.gi = i then unC k else 0) + suOf i l
def snOf (i : Nat) : List KeyM → Int
  | [] => 0
  | k :: l => (if k.gi = i ∧ k.st ≠ 2 then 1 else 0) + snOf i l
theorem suOf_app (i : Nat) (l r : List KeyM) : suOf i (l ++ r) = suOf i l + suOf i r := by
  induction l with
  | nil => simp [suOf]
  | cons k l ih => simp only [List.cons_append, suOf, ih]; omega
theorem snOf_app (i : Nat) (l r : List KeyM) : snOf i (l ++ r) = snOf i l + snOf i r := by
  induction l with
  | nil => simp [snOf]
  | cons k l ih => simp only [List.cons_append, snOf, ih]; omega
theorem suOf_set (i : Nat) : ∀ (l : List KeyM) (j : Nat) (hj : j < l.length) (k : KeyM), suOf i (l.set j k) = suOf i l - (if l[j].gi = i then unC l[j] else 0) + (if k.gi = i then unC k else 0)
  | x :: l, 0, _, k => by simp [suOf]; omega
  | x :: l, j + 1, hj, k => by
    have := suOf_set i l j (by simpa using hj) k
    simp only [List.set_cons_succ, suOf, List.getElem_cons_succ, this]; omega
theorem snOf_set (i : Nat) : ∀ (l : List KeyM) (j : Nat) (hj : j < l.length) (k : KeyM), snOf i (l.set j k) = snOf i l - (if l[j].gi = i ∧ l[j].st ≠ 2 then 1 else 0) + (if k.gi = i ∧ k.st ≠ 2 then 1 else 0)
  | x :: l, 0, _, k => by simp [snOf]; omega
  | x :: l, j + 1, hj, k => by
    have := snOf_set i l j (by simpa using hj) k
    simp only [List.set_cons_succ, snOf, List.getElem_cons_succ, this]; omega
theorem suOf_nonneg (i : Nat) : ∀ (l : List KeyM), (∀ k ∈ l, 0 ≤ k.un) → 0 ≤ suOf i l
  | [], _ => by simp [suOf]
  | k :: l, h => by
    have h1 := suOf_nonneg i l (fun x hx => h x (by simp [hx]))
    have h2 := h k (by simp)
    have h3 : 0 ≤ unC k := by unfold unC; split <;> omega
    simp only [suOf]; split <;> omega
theorem snOf_nonneg (i : Nat) : ∀ (l : List KeyM), 0 ≤ snOf i l
  | [] => by simp [snOf]
  | k :: l => by
    have h1 := snOf_nonneg i l
    simp only [snOf]; split <;> omega
theorem suOf_ge (i : Nat) {l : List KeyM} (h : ∀ k ∈ l, 0 ≤ k.un) {k : KeyM} (hk : k ∈ l) (hi : k.gi = i) : unC k ≤ suOf i l := by
  induction l with
  | nil => cases hk
  | cons x l ih =>
    have hl := suOf_nonneg i l (fun y hy => h y (by simp [hy]))
    rcases List.mem_cons.1 hk with rfl | hk
    · simp only [suOf, if_pos hi]; omega
    · have := ih (fun y hy => h y (by simp [hy])) hk
      have h2 := h x (by simp)
      have h3 : 0 ≤ unC x := by unfold unC; split <;> omega
      simp only [suOf]; split <;> omega
theorem snOf_ge (i : Nat) {l : List KeyM} {k : KeyM} (hk : k ∈ l) (hi : k.gi = i) (hs : k.st ≠ 2) : 1 ≤ snOf i l := by
  induction l with
  | nil => cases hk
  | cons x l ih =>
    have hl := snOf_nonneg i l
    rcases List.mem_cons.1 hk with rfl | hk
    · simp only [snOf, if_pos (And.intro hi hs)]; omega
    · have := ih hk
      simp only [snOf]; split <;> omega
/-- .. and what the keys hold is what the licences say. -/
structure Inv2 (b : BkM) : Prop where
  inv : Inv b
  ids : (b.gs.map (·.l.id)).Nodup
  nms : (b.ks.map (·.nm)).Nodup
  knm : ∀ k ∈ b.ks, isName k.nm = true
  su : ∀ i, i < b.gs.length → (gat b i).su = suOf i b.ks
  sn : ∀ i, i < b.gs.length → (gat b i).sn = snOf i b.ks
theorem gat_putG {b : BkM} {i : Nat} (hi : i < b.gs.length) (g : GrM) (j : Nat) : gat (putG b i g) j = if j = i then g else gat b j := by
  unfold gat putG
  simp only [List.getD_eq_getElem?_getD, List.getElem?_set]
  by_cases h : i = j
  · subst h; simp [hi]
  · simp [h, Ne.symm h, show ¬ j = i from fun e => h e.symm]
theorem gat_putK (b : BkM) (j : Nat) (k : KeyM) (i : Nat) : gat (putK b j k) i = gat b i := rfl
theorem ids_put {b : BkM} {i : Nat} (hi : i < b.gs.length) {g : GrM} (h : g.l.id = (gat b i).l.id) : (putG b i g).gs.map (·.l.id) = b.gs.map (·.l.id) := by
  unfold putG
  rw [List.map_set, h, gat_get hi]
  refine List.ext_getElem (by simp) fun j a c => ?_
  rw [List.getElem_set]; split <;> simp_all
theorem nms_put {b : BkM} {j : Nat} (hj : j < b.ks.length) {k : KeyM} (h : k.nm = (kat b j).nm) : (putK b j k).ks.map (·.nm) = b.ks.map (·.nm) := by
  unfold putK
  rw [List.map_set, h, kat_get hj]
  refine List.ext_getElem (by simp) fun i a c => ?_
  rw [List.getElem_set]; split <;> simp_all
theorem inv2_new : Inv2 newM := ⟨inv_new, by simp [newM], by simp [newM], by simp [newM], by simp [newM], by simp [newM]⟩
/-- A licence's own numbers change (not what its keys hold). -/
theorem inv2_putG {b : BkM} (h : Inv2 b) {i : Nat} (hi : i < b.gs.length) (g : GrM) (hv : valid g.l = true) (h0 : g.l.id = (gat b i).l.id) (h1 : g.su = (gat b i).su) (h2 : g.sn = (gat b i).sn) (h3 : g.su ≤ g.l.q) (h4 : g.sn ≤ g.l.u) (h5 : -1 ≤ g.e ∧ g.e ≤ 144001439) : Inv2 (putG b i g) := by
  have hg := h.inv.g _ (gat_mem hi)
  refine ⟨inv_putG h.inv i g ⟨hv, by omega, h3, by omega, h4, h5⟩, by rw [ids_put hi h0]; exact h.ids, h.nms, h.knm, fun j hj => ?_, fun j hj => ?_⟩
  · rw [gat_putG hi]; split
    · rename_i e; subst e; rw [h1]; exact h.su j hi
    · exact h.su j (by simpa [putG] using hj)
  · rw [gat_putG hi]; split
    · rename_i e; subst e; rw [h2]; exact h.sn j hi
    · exact h.sn j (by simpa [putG] using hj)
theorem suOf_none {i : Nat} {l : List KeyM} (h : ∀ k ∈ l, k.gi < i) : suOf i l = 0 := by
  induction l with
  | nil => rfl
  | cons k l ih =>
    have h1 := h k (by simp)
    simp only [suOf, ih (fun x hx => h x (by simp [hx]))]
    rw [if_neg (by omega)]; omega
theorem snOf_none {i : Nat} {l : List KeyM} (h : ∀ k ∈ l, k.gi < i) : snOf i l = 0 := by
  induction l with
  | nil => rfl
  | cons k l ih =>
    have h1 := h k (by simp)
    simp only [snOf, ih (fun x hx => h x (by simp [hx]))]
    rw [if_neg (by omega)]; omega
theorem inv2_add {b : BkM} (h : Inv2 b) {l : LicM} (hv : valid l = true) (hn : b.gs.length < 100) (hid : ∀ g ∈ b.gs, g.l.id ≠ l.id) : Inv2 (addM b l) := by
  have hlen : (addM b l).gs.length = b.gs.length + 1 := by simp [addM]
  have hgat : ∀ i, i < b.gs.length → gat (addM b l) i = gat b i := fun i hi => by
    simp [gat, addM, List.getD_eq_getElem?_getD, List.getElem?_append_left hi]
  have hlast : gat (addM b l) b.gs.length = ⟨l, 0, 0, -1⟩ := by simp [gat, addM, List.getD_eq_getElem?_getD]
  refine ⟨inv_add h.inv hv hn, ?_, h.nms, h.knm, fun i hi => ?_, fun i hi => ?_⟩
  · simp only [addM, List.map_append, List.map_cons, List.map_nil]
    refine List.nodup_append.2 ⟨h.ids, by simp, fun a ha c hc => ?_⟩
    simp at hc; subst hc
    obtain ⟨g, hg, rfl⟩ := List.mem_map.1 ha
    exact hid g hg
  · by_cases e : i = b.gs.length
    · subst e; rw [hlast]; exact (suOf_none (fun k hk => (h.inv.k k hk).1)).symm
    · rw [hgat i (by omega)]; exact h.su i (by omega)
  · by_cases e : i = b.gs.length
    · subst e; rw [hlast]; exact (snOf_none (fun k hk => (h.inv.k k hk).1)).symm
    · rw [hgat i (by omega)]; exact h.sn i (by omega)
theorem inv2_set {b : BkM} (h : Inv2 b) {j : Nat} (hj : j < b.ks.length) {st un : Int} (h0 : (kat b j).st ≠ 2) (hst : st = 0 ∨ st = 1) (h1 : 0 ≤ un) (h2 : un ≤ (kat b j).un) : Inv2 (setM b j st un) := by
  have hk := h.inv.k _ (kat_mem hj)
  have hi := hk.1
  have hg := h.inv.g _ (gat_mem hi)
  have hu : unC (kat b j) = (kat b j).un := if_neg h0
  have hge := suOf_ge (kat b j).gi (fun k hk => (h.inv.k k hk).2.1) (kat_mem hj) rfl
  rw [← h.su _ hi] at hge
  have hun : unC { kat b j with st := st, un := un } = un := if_neg (by simp; omega)
  unfold setM
  have hi' : (kat b j).gi < (putK b j { kat b j with st := st, un := un }).gs.length := hi
  refine ⟨inv_putG (inv_putK h.inv j { kat b j with st := st, un := un } ⟨hi, h1, by simp; omega, by simp; omega⟩) _ { gat b (kat b j).gi with su := (gat b (kat b j).gi).su + (un - unC (kat b j)) } ⟨hg.1, by simp; omega, by simp; omega, hg.2.2.2.1, hg.2.2.2.2.1, hg.2.2.2.2.2.1, hg.2.2.2.2.2.2⟩, ?_, ?_, ?_, fun i hil => ?_, fun i hil => ?_⟩
  · rw [ids_put (g := { gat b (kat b j).gi with su := (gat b (kat b j).gi).su + (un - unC (kat b j)) }) hi' rfl]; exact h.ids
  · show ((putK b j { kat b j with st := st, un := un }).ks.map (·.nm)).Nodup
    rw [nms_put (k := { kat b j with st := st, un := un }) hj rfl]; exact h.nms
  · intro k hkm
    rcases List.mem_or_eq_of_mem_set (show k ∈ b.ks.set j { kat b j with st := st, un := un } from hkm) with hkm | e
    · exact h.knm k hkm
    · rw [e]; exact h.knm (kat b j) (kat_mem hj)
  · rw [gat_putG hi']
    show _ = suOf i (b.ks.set j { kat b j with st := st, un := un })
    rw [suOf_set i b.ks j hj, ← kat_get hj, hun, gat_putK]
    have := h.su i (by simpa [putG, putK] using hil)
    by_cases e : i = (kat b j).gi
    · subst e; simp; omega
    · rw [if_neg e, if_neg (fun e' => e e'.symm), if_neg (fun e' => e e'.symm)]; omega
  · rw [gat_putG hi']
    show _ = snOf i (b.ks.set j { kat b j with st := st, un := un })
    rw [snOf_set i b.ks j hj, ← kat_get hj, gat_putK]
    have := h.sn i (by simpa [putG, putK] using hil)
    have h01 : st ≠ 2 := by omega
    by_cases e : i = (kat b j).gi
    · subst e; simp [h0, h01]; omega
    · rw [if_neg e, if_neg (fun e' => e e'.1.symm), if_neg (fun e' => e e'.1.symm)]; omega
theorem inv2_rel {b : BkM} (h : Inv2 b) {j : Nat} (hj : j < b.ks.length) (h0 : (kat b j).st ≠ 2) : Inv2 (relM b j) := by
  have hk := h.inv.k _ (kat_mem hj)
  have hi := hk.1
  have hg := h.inv.g _ (gat_mem hi)
  have hu : unC (kat b j) = (kat b j).un := if_neg h0
  have hge := suOf_ge (kat b j).gi (fun k hk => (h.inv.k k hk).2.1) (kat_mem hj) rfl
  have hge2 := snOf_ge (kat b j).gi (kat_mem hj) rfl h0
  rw [← h.su _ hi] at hge
  rw [← h.sn _ hi] at hge2
  have hun : unC { kat b j with st := 2 } = 0 := if_pos rfl
  unfold relM
  have hi' : (kat b j).gi < (putK b j { kat b j with st := 2 }).gs.length := hi
  refine ⟨inv_putG (inv_putK h.inv j { kat b j with st := 2 } ⟨hi, hk.2.1, hk.2.2.1, .inr (.inr rfl)⟩) _ { gat b (kat b j).gi with su := (gat b (kat b j).gi).su + (0 - unC (kat b j)), sn := (gat b (kat b j).gi).sn - 1 } ⟨hg.1, by simp; omega, by simp; omega, by simp; omega, by simp; omega, hg.2.2.2.2.2.1, hg.2.2.2.2.2.2⟩, ?_, ?_, ?_, fun i hil => ?_, fun i hil => ?_⟩
  · rw [ids_put (g := { gat b (kat b j).gi with su := (gat b (kat b j).gi).su + (0 - unC (kat b j)), sn := (gat b (kat b j).gi).sn - 1 }) hi' rfl]; exact h.ids
  · show ((putK b j { kat b j with st := 2 }).ks.map (·.nm)).Nodup
    rw [nms_put (k := { kat b j with st := 2 }) hj rfl]; exact h.nms
  · intro k hkm
    rcases List.mem_or_eq_of_mem_set (show k ∈ b.ks.set j { kat b j with st := 2 } from hkm) with hkm | e
    · exact h.knm k hkm
    · rw [e]; exact h.knm (kat b j) (kat_mem hj)
  · rw [gat_putG hi']
    show _ = suOf i (b.ks.set j { kat b j with st := 2 })
    rw [suOf_set i b.ks j hj, ← kat_get hj, hun, gat_putK]
    have := h.su i (by simpa [putG, putK] using hil)
    by_cases e : i = (kat b j).gi
    · subst e; simp; omega
    · rw [if_neg e, if_neg (fun e' => e e'.symm)]; simp; omega
  · rw [gat_putG hi']
    show _ = snOf i (b.ks.set j { kat b j with st := 2 })
    rw [snOf_set i b.ks j hj, ← kat_get hj, gat_putK]
    have := h.sn i (by simpa [putG, putK] using hil)
    by_cases e : i = (kat b j).gi
    · subst e; simp [h0]; omega
    · rw [if_neg e, if_neg (fun e' => e e'.1.symm)]; simp; omega
/-! The functions keep it. -/
theorem within_iff {n m : Int} : within n m = true ↔ 0 ≤ n ∧ n ≤ m := by unfold within; simp
theorem inv2_grant {b : BkM} (h : Inv2 b) (l : LicM) : Inv2 (grantR b l).2 := by
  unfold grantR
  split
  · exact h
  · split
    · exact h
    · split
      · exact h
      · rename_i a c d
        refine inv2_add h (by simpa using a) (by omega) (findG_none (by simpa using c))
theorem inv2_revoke {b : BkM} (h : Inv2 b) (id : ByteArray) (a : Int) : Inv2 (revokeR b id a).2 := by
  unfold revokeR
  cases hf : findG b id with
  | none => exact h
  | some i =>
    have hi := (findG_some hf).1
    have hg := h.inv.g _ (gat_mem hi)
    simp only
    split
    · exact h
    · split
      · exact h
      · rename_i c d
        have := within_iff.1 (show within a 144001439 = true by simpa [inst] using c)
        exact inv2_putG h hi _ hg.1 rfl rfl rfl hg.2.2.1 hg.2.2.2.2.1 (by simp; omega)
theorem inv2_amend {b : BkM} (h : Inv2 b) (id : ByteArray) (q u t : Int) : Inv2 (amendR b id q u t).2 := by
  unfold amendR
  cases hf : findG b id with
  | none => exact h
  | some i =>
    have hi := (findG_some hf).1
    have hg := h.inv.g _ (gat_mem hi)
    simp only
    split
    · exact h
    · split
      · exact h
      · split
        · exact h
        · rename_i a c d
          have hv : valid (amendL (gat b i).l q u t) = true := by simpa using c
          exact inv2_putG h hi _ hv rfl rfl rfl (by simp [amendL]; omega) (by simp [amendL]; omega) hg.2.2.2.2.2
theorem valid_cut {l : LicM} (h : valid l = true) {q u : Int} (h1 : 0 ≤ l.q - q) (h2 : 0 ≤ q) (h3 : 0 ≤ l.u - u) (h4 : 0 ≤ u) : valid { l with q := l.q - q, u := l.u - u } = true := by
  have hn := valid_num h
  unfold valid at h ⊢
  simp only [Bool.and_eq_true, within_iff, decide_eq_true_eq, listsOk] at h ⊢
  refine ⟨⟨⟨⟨⟨⟨h.1.1.1.1.1.1, h.1.1.1.1.1.2⟩, ?_⟩, ?_⟩, h.1.1.2⟩, h.1.2⟩, h.2⟩ <;> omega
theorem valid_split {l : LicM} (h : valid l = true) {into : ByteArray} {q u : Int} (hn : isName into = true) (h1 : q ≤ l.q) (h2 : 0 ≤ q) (h3 : u ≤ l.u) (h4 : 0 ≤ u) : valid (splitL l into q u) = true := by
  have hnn := valid_num h
  unfold valid splitL at *
  simp only [Bool.and_eq_true, within_iff, decide_eq_true_eq, listsOk] at h ⊢
  refine ⟨⟨⟨⟨⟨⟨hn, h.1.1.1.1.1.2⟩, ?_⟩, ?_⟩, h.1.1.2⟩, h.1.2⟩, h.2⟩ <;> omega
theorem inv2_split {b : BkM} (h : Inv2 b) (id into : ByteArray) (q u : Int) : Inv2 (splitR b id into q u).2 := by
  unfold splitR
  cases hf : findG b id with
  | none => exact h
  | some i =>
    have hi := (findG_some hf).1
    have hg := h.inv.g _ (gat_mem hi)
    simp only
    split
    · exact h
    · split
      · exact h
      · split
        · exact h
        · split
          · exact h
          · split
            · exact h
            · rename_i a c d e f
              have hc : isName into = true ∧ 0 ≤ q ∧ 0 ≤ u := by
                simp only [not_or, Bool.not_eq_false] at c; exact ⟨c.1, by omega, by omega⟩
              have hd := findG_none (by simpa using d)
              have hP : Inv2 (putG b i { gat b i with l := { (gat b i).l with q := (gat b i).l.q - q, u := (gat b i).l.u - u } }) := inv2_putG h hi _ (valid_cut hg.1 (q := q) (u := u) (by omega) (by omega) (by omega) (by omega)) rfl rfl rfl (by simp; omega) (by simp; omega) hg.2.2.2.2.2
              have hI2 : ∀ g ∈ (putG b i { gat b i with l := { (gat b i).l with q := (gat b i).l.q - q, u := (gat b i).l.u - u } }).gs, g.l.id ≠ into := fun g hgm => by
                rcases List.mem_or_eq_of_mem_set (show g ∈ b.gs.set i { gat b i with l := { (gat b i).l with q := (gat b i).l.q - q, u := (gat b i).l.u - u } } from hgm) with hgm | e
                · exact hd g hgm
                · rw [e]; exact hd (gat b i) (gat_mem hi)
              exact inv2_add hP (valid_split hg.1 hc.1 (by omega) (by omega) (by omega) (by omega)) (by rw [putG_len]; omega) hI2
theorem inv2_reserve {b : BkM} (h : Inv2 b) (id nm : ByteArray) (un a : Int) : Inv2 (reserveR b id nm un a).2 := by
  unfold reserveR
  split
  · exact h
  · rename_i hargs
    cases hf : findG b id with
    | none => exact h
    | some i =>
      have hi := (findG_some hf).1
      have hg := h.inv.g _ (gat_mem hi)
      simp only
      split
      · exact h
      · split
        · exact h
        · split
          · exact h
          · split
            · exact h
            · rename_i c d e f
              have hk := findK_none (by simpa using c)
              simp only [not_or, Bool.not_eq_false] at hargs
              have hun := within_iff.1 hargs.2.1
              have hlen : ({ b with ks := b.ks ++ [⟨nm, i, 0, un⟩] } : BkM).gs.length = b.gs.length := rfl
              have hb1 : Inv { b with ks := b.ks ++ [⟨nm, i, 0, un⟩] } := by
                refine ⟨h.inv.g, fun k hkm => ?_, h.inv.gn, by simp; omega⟩
                rcases List.mem_append.1 hkm with hkm | hkm
                · exact h.inv.k k hkm
                · simp at hkm; subst hkm; exact ⟨hi, hun.1, hun.2, .inl rfl⟩
              show Inv2 (putG { b with ks := b.ks ++ [⟨nm, i, 0, un⟩] } i { gat b i with su := (gat b i).su + un, sn := (gat b i).sn + 1 })
              refine ⟨inv_putG hb1 i { gat b i with su := (gat b i).su + un, sn := (gat b i).sn + 1 } ⟨hg.1, by simp; omega, by simp; omega, by simp; omega, by simp; omega, hg.2.2.2.2.2⟩, ?_, ?_, ?_, fun j hj => ?_, fun j hj => ?_⟩
              · rw [ids_put (b := { b with ks := b.ks ++ [⟨nm, i, 0, un⟩] }) (g := { gat b i with su := (gat b i).su + un, sn := (gat b i).sn + 1 }) hi rfl]; exact h.ids
              · show ((b.ks ++ [(⟨nm, i, 0, un⟩ : KeyM)]).map (fun k => k.nm)).Nodup
                rw [List.map_append]
                refine List.nodup_append.2 ⟨h.nms, by simp, fun x hx y hy => ?_⟩
                simp at hy; subst hy
                obtain ⟨k, hkm, rfl⟩ := List.mem_map.1 hx
                exact hk k hkm
              · intro k hkm
                rcases List.mem_append.1 (show k ∈ b.ks ++ [⟨nm, i, 0, un⟩] from hkm) with hkm | hkm
                · exact h.knm k hkm
                · simp at hkm; subst hkm; exact hargs.1
              · rw [gat_putG (b := { b with ks := b.ks ++ [⟨nm, i, 0, un⟩] }) hi]
                show _ = suOf j (b.ks ++ [⟨nm, i, 0, un⟩])
                rw [suOf_app]
                have := h.su j (by simpa [putG] using hj)
                by_cases e2 : j = i
                · subst e2; simp [suOf, unC]; omega
                · rw [if_neg e2]; simp only [suOf, if_neg (show ¬ i = j from fun x => e2 x.symm)]
                  show (gat b j).su = _; omega
              · rw [gat_putG (b := { b with ks := b.ks ++ [⟨nm, i, 0, un⟩] }) hi]
                show _ = snOf j (b.ks ++ [⟨nm, i, 0, un⟩])
                rw [snOf_app]
                have := h.sn j (by simpa [putG] using hj)
                by_cases e2 : j = i
                · subst e2; simp [snOf]; omega
                · rw [if_neg e2]; simp only [snOf, if_neg (show ¬ (i = j ∧ (0 : Int) ≠ 2) from fun x => e2 x.1.symm)]
                  show (gat b j).sn = _; omega
theorem inv2_use {b : BkM} (h : Inv2 b) (nm : ByteArray) (un a : Int) : Inv2 (useR b nm un a).2 := by
  unfold useR
  cases hf : findK b nm with
  | none => exact h
  | some j =>
    have hj := (findK_some hf).1
    simp only
    split
    · exact h
    · split
      · exact h
      · split
        · rename_i c d e; exact inv2_rel h hj (by simp only [ne_eq, Decidable.not_not] at d; omega)
        · split
          · exact h
          · rename_i c d e f
            exact inv2_set h hj (by simp only [ne_eq, Decidable.not_not] at d; omega) (.inr rfl) (by omega) (by omega)
theorem inv2_return {b : BkM} (h : Inv2 b) (nm : ByteArray) (un : Int) : Inv2 (returnR b nm un).2 := by
  unfold returnR
  cases hf : findK b nm with
  | none => exact h
  | some j =>
    have hj := (findK_some hf).1
    simp only
    split
    · exact h
    · split
      · exact h
      · split
        · exact h
        · rename_i c d e
          exact inv2_set h hj (by simp only [ne_eq, Decidable.not_not] at d; omega) (.inr rfl) (by omega) (by omega)
theorem inv2_release {b : BkM} (h : Inv2 b) (nm : ByteArray) : Inv2 (releaseR b nm).2 := by
  unfold releaseR
  cases hf : findK b nm with
  | none => exact h
  | some j =>
    have hj := (findK_some hf).1
    simp only
    split
    · exact h
    · rename_i d; exact inv2_rel h hj (by simp only [ne_eq, Decidable.not_not] at d; omega)
/-- A step. -/
structure StepM where
  k : Int
  l : LicM
  id : ByteArray
  key : ByteArray
  un : Int
  us : Int
  a : Int
instance : Inhabited StepM := ⟨⟨0, default, ByteArray.empty, ByteArray.empty, 0, 0, 0⟩⟩
def doR (b : BkM) (x : StepM) : Int × BkM :=
  if x.k = 0 then grantR b x.l else if x.k = 1 then revokeR b x.id x.a else if x.k = 2 then amendR b x.id x.un x.us x.a else if x.k = 3 then splitR b x.id x.key x.un x.us
  else if x.k = 4 then reserveR b x.id x.key x.un x.a else if x.k = 5 then useR b x.key x.un x.a else if x.k = 6 then returnR b x.key x.un else releaseR b x.key
theorem inv2_do {b : BkM} (h : Inv2 b) (x : StepM) : Inv2 (doR b x).2 := by
  unfold doR
  split
  · exact inv2_grant h _
  split
  · exact inv2_revoke h _ _
  split
  · exact inv2_amend h _ _ _ _
  split
  · exact inv2_split h _ _ _ _
  split
  · exact inv2_reserve h _ _ _ _
  split
  · exact inv2_use h _ _ _
  split
  · exact inv2_return h _ _
  exact inv2_release h _
def sz60 (s : ByteArray) : Bool := decide (s.size ≤ 60)
def short (l : LicM) : Bool := sz60 l.id && decide (l.ms.length ≤ 14) && decide (l.ps.length ≤ 14) && l.ms.all sz60 && l.ps.all sz60
def fewX (x : StepM) : Bool := short x.l && sz60 x.id && sz60 x.key
def fewB (l : List StepM) : Bool := decide (l.length ≤ 25) && l.all fewX
theorem all_take {α : Type} (p : α → Bool) {l : List α} {k : Nat} (h : k < l.length) : (l.take (k + 1)).all p = ((l.take k).all p && p l[k]) := by
  rw [List.take_succ_eq_append_getElem h, List.all_append]; simp
theorem all_no {α : Type} {p : α → Bool} {l : List α} {k : Nat} (h : k < l.length) (hp : p l[k] = false) : l.all p = false := by
  rw [List.all_eq_false]; exact ⟨l[k], List.getElem_mem h, by simp [hp]⟩
def playM (l : List StepM) : BkM := l.foldl (fun b x => (doR b x).2) newM
theorem inv2_play (l : List StepM) : Inv2 (playM l) := by
  unfold playM
  suffices h : ∀ (l : List StepM) b, Inv2 b → Inv2 (l.foldl (fun b x => (doR b x).2) b) from h l _ inv2_new
  intro l
  induction l with
  | nil => exact fun b h => h
  | cons x l ih => exact fun b h => ih _ (inv2_do h x)
theorem play_take {l : List StepM} {k : Nat} (h : k < l.length) : playM (l.take (k + 1)) = (doR (playM (l.take k)) l[k]).2 := by
  unfold playM; rw [List.take_succ_eq_append_getElem h, List.foldl_append]; rfl
end Go.CH.Lic
namespace Go.Proofs.Ytapabbpdfplpoaa
open Go.RowKit Go.CH Go.CH.Lic
open Go.ChangeMaps (setBlock)

/-- A law's walk that began in w0 has the book b at p, and owns X besides. -/
structure BSt (w0 : World) (X : Own) (p : Nat) (b : BkM) (W : World) : Prop where
  run : Run (fun _ => False) w0 (star (BkO b p) X) W
  xok : X.Ok
  inv : Inv2 b
def BRet (w0 : World) (X : Own) (p : Nat) (b : BkM) (v : Value) (e : Ending) (W : World) : Prop := e = .returned v ∧ BSt w0 X p b W
section
variable {w0 W W' : World} {X : Own} {p : Nat} {b : BkM}
theorem BSt.bel (h : BSt w0 X p b W) : Below w0.heap.size w0 W := h.run.bel
theorem BSt.below (h : BSt w0 X p b W) (hb : Below W.heap.size W W') : BSt w0 X p b W' := ⟨h.run.below (star_ok bkO_ok h.xok) hb, h.xok, h.inv⟩
theorem BSt.drew (h : BSt w0 X p b W) : BSt w0 X p b W.drew := h.below (below_drew (Below.refl _ _))
theorem st_of (h : BSt w0 X p b W) {b' : BkM} (hI : Inv2 b') {fn : FuncId} {args : Array Value} {v : Value} (K : ∀ F, BkO b p W F → Calls Try.prog fn args W (BPost W F v b' p)) :
    Calls Try.prog fn args W (BRet w0 X p b' v) := by
  obtain ⟨F, hB, -, back⟩ := h.run.take bkO_ok h.xok
  refine (K F hB).mono ?_
  rintro e w' ⟨rfl, hp⟩
  exact ⟨rfl, back _ _ hp, h.xok, hI⟩
theorem st_grant (h : BSt w0 X p b W) {l : LicM} {A B : Option Addr} {c d : Nat} (hl : LicAt W l A c B d) : Calls Try.prog 38 #[gptr p, licV l A c B d] W (BRet w0 X p (grantR b l).2 (.int .i64 (grantR b l).1)) :=
  st_of h (inv2_grant h.inv l) fun F hB => grant_any hB hl
theorem st_revoke (h : BSt w0 X p b W) (id : ByteArray) (a : Int) : Calls Try.prog 54 #[gptr p, .string id, .int .i64 a] W (BRet w0 X p (revokeR b id a).2 (.int .i64 (revokeR b id a).1)) :=
  st_of h (inv2_revoke h.inv id a) fun F hB => revoke_any hB id a
theorem st_amend (h : BSt w0 X p b W) (id : ByteArray) (q u t : Int) : Calls Try.prog 55 #[gptr p, .string id, .int .i64 q, .int .i64 u, .int .i64 t] W (BRet w0 X p (amendR b id q u t).2 (.int .i64 (amendR b id q u t).1)) :=
  st_of h (inv2_amend h.inv id q u t) fun F hB => amend_any hB h.inv.inv id q u t
theorem st_split (h : BSt w0 X p b W) (id into : ByteArray) (q u : Int) (hs : into.size ≤ maxLen) : Calls Try.prog 56 #[gptr p, .string id, .string into, .int .i64 q, .int .i64 u] W (BRet w0 X p (splitR b id into q u).2 (.int .i64 (splitR b id into q u).1)) :=
  st_of h (inv2_split h.inv id into q u) fun F hB => split_any hB h.inv.inv id into q u hs
theorem st_reserve (h : BSt w0 X p b W) (id nm : ByteArray) (un a : Int) (hs : nm.size ≤ maxLen) : Calls Try.prog 40 #[gptr p, .string id, .string nm, .int .i64 un, .int .i64 a] W (BRet w0 X p (reserveR b id nm un a).2 (.int .i64 (reserveR b id nm un a).1)) :=
  st_of h (inv2_reserve h.inv id nm un a) fun F hB => reserve_any hB h.inv.inv id nm un a hs
theorem st_use (h : BSt w0 X p b W) (nm : ByteArray) (un a : Int) : Calls Try.prog 41 #[gptr p, .string nm, .int .i64 un, .int .i64 a] W (BRet w0 X p (useR b nm un a).2 (.int .i64 (useR b nm un a).1)) :=
  st_of h (inv2_use h.inv nm un a) fun F hB => use_any hB h.inv.inv nm un a
theorem st_return (h : BSt w0 X p b W) (nm : ByteArray) (un : Int) : Calls Try.prog 42 #[gptr p, .string nm, .int .i64 un] W (BRet w0 X p (returnR b nm un).2 (.int .i64 (returnR b nm un).1)) :=
  st_of h (inv2_return h.inv nm un) fun F hB => return_any hB h.inv.inv nm un
theorem st_release (h : BSt w0 X p b W) (nm : ByteArray) : Calls Try.prog 57 #[gptr p, .string nm] W (BRet w0 X p (releaseR b nm).2 (.int .i64 (releaseR b nm).1)) :=
  st_of h (inv2_release h.inv nm) fun F hB => release_any hB h.inv.inv nm
theorem st_left (h : BSt w0 X p b W) (id : ByteArray) (a : Int) : Calls Try.prog 43 #[gptr p, .string id, .int .i64 a] W (BRet w0 X p b (leftV (leftR b id a))) := by
  obtain ⟨F, hB⟩ := h.run.fst
  refine (bookleft_any hB h.inv.inv id a).mono ?_
  rintro e w' ⟨rfl, hb⟩
  exact ⟨rfl, h.below hb⟩
def BList (w0 : World) (X : Own) (p : Nat) (b : BkM) (e : Ending) (W : World) : Prop := ∃ A c zs, e = .returned (.slice A zs.length c) ∧ zs.map ZL.l = b.gs.map (·.l) ∧ BSt w0 (star (ARow lcl low 56 7 (.slice A zs.length c) zs) X) p b W
theorem st_list (h : BSt w0 X p b W) : Calls Try.prog 48 #[gptr p] W (BList w0 X p b) := by
  obtain ⟨F, hB⟩ := h.run.fst
  refine (list_any hB h.inv.inv).mono ?_
  rintro e w' ⟨A, c, zs, rfl, hm, hp⟩
  exact ⟨A, c, zs, rfl, hm, (h.run.fresh (star_ok bkO_ok h.xok) hp).rot, star_ok (arow_ok low_ok) h.xok, h.inv⟩
def BNew (w0 : World) (X : Own) (e : Ending) (W : World) : Prop := ∃ p, e = .returned (gptr p) ∧ BSt w0 X p newM W
theorem st_new {w0 W : World} {X : Own} (h : Run (fun _ => False) w0 X W) (hx : X.Ok) : Calls Try.prog 37 #[] W (BNew w0 X) := by
  refine (newb_any W).mono ?_
  rintro e w' ⟨p, rfl, hp⟩
  exact ⟨p, rfl, h.fresh hx hp, hx, inv2_new⟩
end
def l1S : ByteArray := ⟨#[108, 49]⟩
set_option maxRecDepth 100000 in
set_option maxHeartbeats 1600000 in
theorem left35_any {w0 W : World} {X : Own} {p : Nat} {b : BkM} (h : BSt w0 X p b W) (un us : Int) :
    Calls Try.prog 83 #[gptr p, .int .i64 un, .int .i64 us] W (BRet w0 X p b (.bool (decide (leftR b l1S 5 = (un, us, 0))))) := by
  have K := hide (st_left h l1S 5)
  obtain ⟨x, y, z, hr⟩ : ∃ x y z, leftR b l1S 5 = (x, y, z) := ⟨_, _, _, rfl⟩
  rw [hr] at K ⊢
  clear hr h
  unfold leftV gptr l1S at *
  by_cases hz : z = 0
  · subst hz
    by_cases hx : x = un
    · subst hx
      by_cases hy : y = us
      · subst hy
        go_enter Try.func83, Try.ntmps83
        go_wp2_with fail
        refine K.out.mono ?_
        rintro e W' ⟨rfl, hS⟩
        have HS := hide (hS.below ((Below.refl _ _).alloc (Nat.le_refl _) (.cells #[.int .i64 x, .int .i64 y] 66)))
        clear hS
        go_wp2
        go_ret
        exact ⟨by simp, HS.out⟩
      · have hv := hide (show decide ((x, y, (0 : Int)) = (x, us, 0)) = false from decide_eq_false (fun e => hy (by injection e with _ e; injection e)))
        go_enter Try.func83, Try.ntmps83
        go_wp2_with fail
        refine K.out.mono ?_
        rintro e W' ⟨rfl, hS⟩
        have HS := hide (hS.below ((Below.refl _ _).alloc (Nat.le_refl _) (.cells #[.int .i64 x, .int .i64 y] 66)))
        clear hS
        go_wp2
        go_ret
        exact ⟨by rw [hv.out]; rfl, HS.out⟩
    · have hv := hide (show decide ((x, y, (0 : Int)) = (un, us, 0)) = false from decide_eq_false (fun e => hx (by injection e)))
      go_enter Try.func83, Try.ntmps83
      go_wp2_with fail
      refine K.out.mono ?_
      rintro e W' ⟨rfl, hS⟩
      have HS := hide (hS.below ((Below.refl _ _).alloc (Nat.le_refl _) (.cells #[.int .i64 x, .int .i64 y] 66)))
      clear hS
      go_wp2
      go_ret
      exact ⟨by rw [hv.out]; rfl, HS.out⟩
  · have hz1 : (z == 0) = false := by simpa using hz
    go_enter Try.func83, Try.ntmps83
    go_wp2_with fail
    refine K.out.mono ?_
    rintro e W' ⟨rfl, hS⟩
    have HS := hide (hS.below ((Below.refl _ _).alloc (Nat.le_refl _) (.cells #[.int .i64 x, .int .i64 y] 66)))
    clear hS
    go_wp2
    go_ret
    exact ⟨by rw [decide_eq_false (fun e => hz (by injection e with _ e; injection e))]; rfl, HS.out⟩
end Go.Proofs.Ytapabbpdfplpoaa
namespace Go.Proofs.Ytapabbpdfplpoaa
open Go.RowKit Go.CH Go.CH.Lic Go.CH.Esc
open Go.ChangeMaps (setBlock)

/-- Where a book of the reference lies. -/
structure RfP where
  zs : List ZL
  A : Option Addr
  c : Nat
  E : Option Addr
  cE : Nat
  K : Option Addr
  cK : Nat
/-- A key's cells. -/
def kcl (b : BkM) (k : KeyM) : List Value := [.string k.nm, .string (gat b k.gi).l.id, .int .i64 (k.st + 1), .int .i64 k.un]
theorem kcl_len (b : BkM) (k : KeyM) : (kcl b k).length = 4 := rfl
def RfL (b : BkM) (s : RfP) : Own := RowO 56 7 (.slice s.A b.gs.length s.c) b.gs.length (s.zs.flatMap lcl)
def RfE (b : BkM) (s : RfP) : Own := RowO 3 1 (.slice s.E b.gs.length s.cE) b.gs.length (ints (b.gs.map GrM.e))
def RfK (b : BkM) (s : RfP) : Own := RowO 163 4 (.slice s.K b.ks.length s.cK) b.ks.length (b.ks.flatMap (kcl b))
def rfcell (b : BkM) (s : RfP) : Array Value := #[.slice s.A b.gs.length s.c, .slice s.E b.gs.length s.cE, .slice s.K b.ks.length s.cK]
def RfS (b : BkM) (p : Nat) (s : RfP) : Own := star (CellO p (rfcell b s) 77) (star (RfL b s) (star (RfE b s) (RfK b s)))
def RfZ (w0 : World) (b : BkM) (s : RfP) : Prop := s.zs.map ZL.l = b.gs.map GrM.l ∧ ∀ z ∈ s.zs, LicIn w0 z.l z.A z.B
def RfO (w0 : World) (b : BkM) (p : Nat) : Own := fun w F => ∃ s, RfZ w0 b s ∧ RfS b p s w F
theorem rfS_ok {b : BkM} {p : Nat} {s : RfP} : (RfS b p s).Ok := star_ok cell_ok (star_ok row_ok (star_ok row_ok row_ok))
theorem rfO_ok {w0 : World} {b : BkM} {p : Nat} : (RfO w0 b p).Ok := ⟨fun ⟨s, _, h⟩ => rfS_ok.lt h, fun ⟨s, hz, h⟩ hk => ⟨s, hz, rfS_ok.keep h hk⟩⟩
theorem rfz_len {w0 : World} {b : BkM} {s : RfP} (h : RfZ w0 b s) : s.zs.length = b.gs.length := by have := congrArg List.length h.1; simpa using this
theorem zl_at {zs : List ZL} {b : BkM} (h : zs.map ZL.l = b.gs.map (·.l)) {k : Nat} (hk : k < zs.length) : zs[k].l = (gat b k).l := by
  have hk2 : k < b.gs.length := by have := congrArg List.length h; simp at this; omega
  have h1 : (zs.map ZL.l)[k]? = (b.gs.map (·.l))[k]? := by rw [h]
  rw [List.getElem?_map, List.getElem?_map, List.getElem?_eq_getElem hk, List.getElem?_eq_getElem hk2] at h1
  simp at h1
  rw [h1, gat_get hk2]
theorem rfz_at {w0 : World} {b : BkM} {s : RfP} (h : RfZ w0 b s) {i : Nat} (hi : i < b.gs.length) : (s.zs[i]'(by rw [rfz_len h]; exact hi)).l = (gat b i).l := zl_at h.1 (by rw [rfz_len h]; exact hi)
/-- What is read. -/
structure RfR (w : World) (b : BkM) (p : Nat) (s : RfP) : Prop where
  c0 : w.cell? ⟨p, 0, none⟩ = some (.slice s.A b.gs.length s.c)
  c1 : w.cell? ⟨p, 1, none⟩ = some (.slice s.E b.gs.length s.cE)
  c2 : w.cell? ⟨p, 2, none⟩ = some (.slice s.K b.ks.length s.cK)
  lic : ∀ i (h : i < s.zs.length), s.zs.length = b.gs.length → ∃ g, s.A = some ⟨g, 0, none⟩ ∧ (∀ j v, j < 7 → (lcl s.zs[i])[j]? = some v → w.cell? ⟨g, i * 7 + j, none⟩ = some v) ∧ ∀ j, w.frozen? ⟨g, j, none⟩ = false
  e : ∀ i (h : i < b.gs.length), ∃ g, s.E = some ⟨g, 0, none⟩ ∧ w.cell? ⟨g, i, none⟩ = some (.int .i64 (gat b i).e) ∧ w.frozen? ⟨g, i, none⟩ = false
  key : ∀ j (h : j < b.ks.length), ∃ g, s.K = some ⟨g, 0, none⟩ ∧ (∀ i v, i < 4 → (kcl b b.ks[j])[i]? = some v → w.cell? ⟨g, j * 4 + i, none⟩ = some v) ∧ ∀ i, w.frozen? ⟨g, i, none⟩ = false
theorem RfS.read {b : BkM} {p : Nat} {s : RfP} {w : World} {F : Nat → Prop} (h : RfS b p s w F) : RfR w b p s := by
  obtain ⟨_, _, hC, ⟨_, _, hL, ⟨_, _, hE, hK, _, _⟩, _, _⟩, _, _⟩ := h
  refine ⟨cell_at hC rfl, cell_at hC rfl, cell_at hC rfl, fun i hi hl => ?_, fun i hi => ?_, fun j hj => ?_⟩
  · unfold RfL at hL
    obtain ⟨g, hA⟩ := row_addr hL (by omega)
    rw [hA] at hL
    exact ⟨g, hA, fun j v hj hv => row_cell hL (by rw [flat_get lcl 7 lcl_len hi j hj]; exact hv), fun j => row_free hL j (by omega)⟩
  · unfold RfE at hE
    obtain ⟨g, hA⟩ := row_addr hE (by omega)
    rw [hA] at hE
    exact ⟨g, hA, row_cell hE (by simp [ints, hi, gat_get hi]), row_free hE i (by omega)⟩
  · unfold RfK at hK
    obtain ⟨g, hA⟩ := row_addr hK (by omega)
    rw [hA] at hK
    exact ⟨g, hA, fun i v hi hv => row_cell hK (by rw [flat_get (kcl b) 4 (kcl_len b) hj i hi]; exact hv), fun i => row_free hK i (by omega)⟩
theorem rf_read {F0 : Nat → Prop} {w0 W : World} {b : BkM} {p : Nat} {s : RfP} (h : Run F0 w0 (RfS b p s) W) : RfR W b p s := by
  obtain ⟨F, hS⟩ := h.get
  exact hS.read
def fz : Option Nat → Int
  | none => -1
  | some i => i
theorem findG_at {b : BkM} {id : ByteArray} {k : Nat} (hk : k < b.gs.length) (he : (gat b k).l.id = id) (hn : ∀ j, j < k → (gat b j).l.id ≠ id) : findG b id = some k := by
  unfold findG
  rw [List.findIdx?_eq_some_iff_getElem]
  refine ⟨hk, by rw [gat_get hk] at he; simpa using he, fun j hj => ?_⟩
  have := hn j hj
  rw [gat_get (by omega)] at this
  simpa using this
theorem findG_all {b : BkM} {id : ByteArray} (hn : ∀ j, j < b.gs.length → (gat b j).l.id ≠ id) : findG b id = none := by
  unfold findG
  rw [List.findIdx?_eq_none_iff]
  intro x hx
  obtain ⟨j, hj, rfl⟩ := List.getElem_of_mem hx
  have := hn j hj
  rw [gat_get hj] at this
  simpa using this
theorem findK_at {b : BkM} {nm : ByteArray} {k : Nat} (hk : k < b.ks.length) (he : (kat b k).nm = nm) (hn : ∀ j, j < k → (kat b j).nm ≠ nm) : findK b nm = some k := by
  unfold findK
  rw [List.findIdx?_eq_some_iff_getElem]
  refine ⟨hk, by rw [kat_get hk] at he; simpa using he, fun j hj => ?_⟩
  have := hn j hj
  rw [kat_get (by omega)] at this
  simpa using this
theorem findK_all {b : BkM} {nm : ByteArray} (hn : ∀ j, j < b.ks.length → (kat b j).nm ≠ nm) : findK b nm = none := by
  unfold findK
  rw [List.findIdx?_eq_none_iff]
  intro x hx
  obtain ⟨j, hj, rfl⟩ := List.getElem_of_mem hx
  have := hn j hj
  rw [kat_get hj] at this
  simpa using this
section
variable {w w0 : World} {b : BkM} {p : Nat} {s : RfP}
theorem RfR.id (h : RfR w b p s) (hz : RfZ w0 b s) {i : Nat} (hi : i < b.gs.length) : ∃ g, s.A = some ⟨g, 0, none⟩ ∧ w.cell? ⟨g, i * 7, none⟩ = some (.string (gat b i).l.id) := by
  obtain ⟨g, hA, hc, -⟩ := h.lic i (by rw [rfz_len hz]; exact hi) (rfz_len hz)
  refine ⟨g, hA, ?_⟩
  have := hc 0 _ (by omega) rfl
  rw [rfz_at hz hi] at this
  exact this
theorem RfR.nm (h : RfR w b p s) {j : Nat} (hj : j < b.ks.length) : ∃ g, s.K = some ⟨g, 0, none⟩ ∧ w.cell? ⟨g, j * 4, none⟩ = some (.string (kat b j).nm) := by
  obtain ⟨g, hA, hc, -⟩ := h.key j hj
  refine ⟨g, hA, ?_⟩
  have := hc 0 _ (by omega) rfl
  rw [kat_get hj]
  exact this
set_option maxHeartbeats 1600000 in
theorem rfind_any (h : RfR w b p s) (hz : RfZ w0 b s) (hn : b.gs.length ≤ 100) (id : ByteArray) : Calls Try.prog 97 #[gptr p, .string id] w (Quiet w (.int .i64 (fz (findG b id)))) := by
  have c0 := h.c0
  have HI := hide (fun i (hi : i < b.gs.length) => h.id hz hi)
  have HA := hide (fun k (hk : k < b.gs.length) (he : (gat b k).l.id = id) hn => findG_at hk he hn)
  have HB := hide (fun hn => findG_all (b := b) (id := id) hn)
  generalize b.gs.length = n at *
  clear h hz
  unfold gptr
  go_enter Try.func97, Try.ntmps97
  go_wp2
  go_loop [5] (fun i => ∃ k : Nat, k ≤ n ∧ i = .int .i64 k ∧ ∀ j, j < k → (gat b j).l.id ≠ id) (fun i => n - (intOf i).toNat)
  case atStart => exact ⟨0, Nat.zero_le _, rfl, fun j hj => absurd hj (Nat.not_lt_zero _)⟩
  case round =>
    obtain ⟨k, hk, rfl, hne⟩ := hrel
    have HNE := hide hne
    clear hne
    by_cases hlt : k < n
    · obtain ⟨g, hA, hc⟩ := HI.out k hlt
      rw [hA] at c0
      by_cases he : (gat b k).l.id = id
      · have HV := hide (HA.out k hlt he HNE.out)
        rw [he] at hc
        have t1 : (id.toList == id.toList) = true := by rw [toList_beq]; exact decide_eq_true rfl
        clear he hA
        go_wp2
        go_ret
        exact ⟨by rw [HV.out]; rfl, rfl⟩
      · have HS := hide (show ∀ j, j < k + 1 → (gat b j).l.id ≠ id by
          intro j hj
          by_cases e : j = k
          · subst e; exact he
          · exact HNE.out j (by omega))
        generalize (gat b k).l.id = x at *
        have t1 : (x.toList == id.toList) = false := by rw [toList_beq]; exact decide_eq_false he
        clear he hA
        go_wp2
        go_round
        case rel => exact ⟨k + 1, by omega, by go_num, HS.out⟩
        case measure => simp [intOf]; omega
    · have HV := hide (HB.out (fun j hj => HNE.out j (by omega)))
      go_wp2
      go_ret
      exact ⟨by rw [HV.out]; rfl, rfl⟩
set_option maxHeartbeats 1600000 in
theorem rkey_any (h : RfR w b p s) (hn : b.ks.length ≤ 1000) (nm : ByteArray) : Calls Try.prog 105 #[gptr p, .string nm] w (Quiet w (.int .i64 (fz (findK b nm)))) := by
  have c2 := h.c2
  have HI := hide (fun i (hi : i < b.ks.length) => h.nm hi)
  have HA := hide (fun k (hk : k < b.ks.length) (he : (kat b k).nm = nm) hn => findK_at hk he hn)
  have HB := hide (fun hn => findK_all (b := b) (nm := nm) hn)
  generalize b.ks.length = n at *
  clear h
  unfold gptr
  go_enter Try.func105, Try.ntmps105
  go_wp2
  go_loop [5] (fun i => ∃ k : Nat, k ≤ n ∧ i = .int .i64 k ∧ ∀ j, j < k → (kat b j).nm ≠ nm) (fun i => n - (intOf i).toNat)
  case atStart => exact ⟨0, Nat.zero_le _, rfl, fun j hj => absurd hj (Nat.not_lt_zero _)⟩
  case round =>
    obtain ⟨k, hk, rfl, hne⟩ := hrel
    have HNE := hide hne
    clear hne
    by_cases hlt : k < n
    · obtain ⟨g, hA, hc⟩ := HI.out k hlt
      rw [hA] at c2
      by_cases he : (kat b k).nm = nm
      · have HV := hide (HA.out k hlt he HNE.out)
        rw [he] at hc
        have t1 : (nm.toList == nm.toList) = true := by rw [toList_beq]; exact decide_eq_true rfl
        clear he hA
        go_wp2
        go_ret
        exact ⟨by rw [HV.out]; rfl, rfl⟩
      · have HS := hide (show ∀ j, j < k + 1 → (kat b j).nm ≠ nm by
          intro j hj
          by_cases e : j = k
          · subst e; exact he
          · exact HNE.out j (by omega))
        generalize (kat b k).nm = x at *
        have t1 : (x.toList == nm.toList) = false := by rw [toList_beq]; exact decide_eq_false he
        clear he hA
        go_wp2
        go_round
        case rel => exact ⟨k + 1, by omega, by go_num, HS.out⟩
        case measure => simp [intOf]; omega
    · have HV := hide (HB.out (fun j hj => HNE.out j (by omega)))
      go_wp2
      go_ret
      exact ⟨by rw [HV.out]; rfl, rfl⟩
theorem runs_e {f t e a : Int} (h : -1 ≤ e) : runsB f t e a = (decide (f ≤ a) && decide (a < t) && (decide (e = -1) || decide (a < e))) := by
  unfold runsB
  have : (e < 0) ↔ (e = -1) := by omega
  simp only [this]
set_option maxHeartbeats 1600000 in
theorem rruns_any (h : RfR w b p s) (hz : RfZ w0 b s) (hI : Inv b) {i : Nat} (hi : i < b.gs.length) (a : Int) : Calls Try.prog 98 #[gptr p, .int .i64 i, .int .i64 a] w (Quiet w (.bool (runsG (gat b i) a))) := by
  have c0 := h.c0
  have c1 := h.c1
  obtain ⟨g, hA, hc, -⟩ := h.lic i (by rw [rfz_len hz]; exact hi) (rfz_len hz)
  obtain ⟨gE, hE, he, -⟩ := h.e i hi
  have hl := rfz_at hz hi
  have h5 := hc 5 _ (by omega) rfl
  have h6 := hc 6 _ (by omega) rfl
  rw [hl] at h5 h6
  rw [hA] at c0
  rw [hE] at c1
  have hv := runs_e (f := (gat b i).l.f) (t := (gat b i).l.t) (a := a) (hI.g _ (gat_mem hi)).2.2.2.2.2.1
  unfold runsG
  rw [hv]
  clear hl hc hA hE h hz hI hv
  generalize (gat b i).l.f = zf at *
  generalize (gat b i).l.t = zt at *
  generalize (gat b i).e = ze at *
  generalize b.gs.length = n at *
  unfold gptr
  cases t1 : decide (zf ≤ a) with
  | false =>
    have t1' : decide (a ≥ zf) = false := t1
    clear t1
    go_enter Try.func98, Try.ntmps98
    go_wp2
    go_ret
    exact ⟨rfl, rfl⟩
  | true =>
    have t1' : decide (a ≥ zf) = true := t1
    clear t1
    cases t2 : decide (a < zt) with
    | false =>
      go_enter Try.func98, Try.ntmps98
      go_wp2
      go_ret
      exact ⟨rfl, rfl⟩
    | true =>
      cases t3 : decide (ze = -1) with
      | true =>
        have t3' : (ze == -1) = true := t3
        clear t3
        go_enter Try.func98, Try.ntmps98
        go_wp2
        go_ret
        exact ⟨rfl, rfl⟩
      | false =>
        have t3' : (ze == -1) = false := t3
        clear t3
        go_enter Try.func98, Try.ntmps98
        go_wp2
        go_ret
        exact ⟨rfl, rfl⟩
end
end Go.Proofs.Ytapabbpdfplpoaa
namespace Go.Proofs.Ytapabbpdfplpoaa
open Go.RowKit Go.CH Go.CH.Lic Go.CH.Esc
open Go.ChangeMaps (setBlock)

/-- What the reference's functions ask of a book. -/
structure RInv (b : BkM) : Prop where
  gn : b.gs.length ≤ 100
  kn : b.ks.length ≤ 1000
  k : ∀ k ∈ b.ks, k.gi < b.gs.length ∧ 0 ≤ k.un ∧ k.un ≤ 1000000000 ∧ (k.st = 0 ∨ k.st = 1 ∨ k.st = 2)
  q : ∀ g ∈ b.gs, 0 ≤ g.l.q ∧ g.l.q ≤ 1000000000 ∧ 0 ≤ g.l.u ∧ g.l.u ≤ 1000
  ids : (b.gs.map (·.l.id)).Nodup
  su : ∀ i, i < b.gs.length → (gat b i).su = suOf i b.ks
  sn : ∀ i, i < b.gs.length → (gat b i).sn = snOf i b.ks
theorem _root_.Go.CH.Lic.Inv2.r {b : BkM} (h : Inv2 b) : RInv b :=
  ⟨h.inv.gn, h.inv.kn, h.inv.k, fun g hg => by have := valid_num (h.inv.g g hg).1; omega, h.ids, h.su, h.sn⟩
theorem suOf_le (i : Nat) : ∀ (l : List KeyM), (∀ k ∈ l, 0 ≤ k.un ∧ k.un ≤ 1000000000) → suOf i l ≤ 1000000000 * l.length
  | [], _ => by simp [suOf]
  | k :: l, h => by
    have h1 := suOf_le i l (fun x hx => h x (by simp [hx]))
    have h2 := h k (by simp)
    have h3 : unC k ≤ 1000000000 := by unfold unC; split <;> omega
    simp only [suOf, List.length_cons]
    split <;> omega
theorem snOf_le (i : Nat) : ∀ (l : List KeyM), snOf i l ≤ l.length
  | [] => by simp [snOf]
  | k :: l => by
    have h1 := snOf_le i l
    simp only [snOf, List.length_cons]
    split <;> omega
theorem su_step (i : Nat) {l : List KeyM} {j : Nat} (hj : j < l.length) : suOf i (l.take (j + 1)) = suOf i (l.take j) + (if l[j].gi = i then unC l[j] else 0) := by
  rw [List.take_succ_eq_append_getElem hj, suOf_app]; simp [suOf]
theorem sn_step (i : Nat) {l : List KeyM} {j : Nat} (hj : j < l.length) : snOf i (l.take (j + 1)) = snOf i (l.take j) + (if l[j].gi = i ∧ l[j].st ≠ 2 then 1 else 0) := by
  rw [List.take_succ_eq_append_getElem hj, snOf_app]; simp [snOf]
theorem ids_eq {b : BkM} (h : (b.gs.map (·.l.id)).Nodup) {i j : Nat} (hi : i < b.gs.length) (hj : j < b.gs.length) : (gat b j).l.id = (gat b i).l.id ↔ j = i := by
  constructor
  · intro e
    rw [gat_get hi, gat_get hj] at e
    have hp := List.pairwise_iff_getElem.1 h
    rcases Nat.lt_trichotomy i j with hlt | rfl | hlt
    · have := hp i j (by simpa using hi) (by simpa using hj) hlt
      simp only [List.getElem_map] at this
      exact absurd e.symm this
    · rfl
    · have := hp j i (by simpa using hj) (by simpa using hi) hlt
      simp only [List.getElem_map] at this
      exact absurd e this
  · rintro rfl; rfl
theorem rc2 {F0 : Nat → Prop} {w0 W : World} {g : Nat} {a b : Value} {t : TypeId} {X : Own} (h : Run F0 w0 (star (CellO g #[a, b] t) X) W) : W.cell? ⟨g, 0, none⟩ = some a ∧ W.cell? ⟨g, 1, none⟩ = some b ∧ (∀ i, W.frozen? ⟨g, i, none⟩ = false) ∧ g < W.heap.size := by
  obtain ⟨F, hC⟩ := h.fst
  exact ⟨cell_at hC rfl, cell_at hC rfl, fun i => cell_free hC i, lt_of_block hC.1⟩
theorem rset {F0 : Nat → Prop} {w0 W : World} {g : Nat} {cs : Array Value} {t : TypeId} {X : Own} (h : Run F0 w0 (star (CellO g cs t) X) W) (hX : X.Ok) (i : Nat) (v : Value) : Run F0 w0 (star (CellO g (cs.setIfInBounds i v) t) X) (W.setCell ⟨g, i, none⟩ v) := by
  obtain ⟨F, hC, -, bk⟩ := h.take cell_ok hX
  exact bk _ _ (cell_set hC i v)
set_option maxRecDepth 100000 in
set_option maxHeartbeats 3200000 in
theorem rleft_any {w w0 : World} {F : Nat → Prop} {b : BkM} {p : Nat} {s : RfP} (h : RfS b p s w F) (hz : RfZ w0 b s) (hI : RInv b) {i : Nat} (hi : i < b.gs.length) :
    Calls Try.prog 99 #[gptr p, .int .i64 i] w (BelowRet w (.agg #[.int .i64 ((gat b i).l.q - (gat b i).su), .int .i64 ((gat b i).l.u - (gat b i).sn)])) := by
  have hS := Run.start h
  have HQ := hide (show ∀ W, Below w.heap.size w W → ∃ g, s.A = some ⟨g, 0, none⟩ ∧ W.cell? ⟨p, 0, none⟩ = some (.slice s.A b.gs.length s.c) ∧ W.cell? ⟨p, 2, none⟩ = some (.slice s.K b.ks.length s.cK) ∧ W.cell? ⟨g, i * 7, none⟩ = some (.string (gat b i).l.id) ∧ W.cell? ⟨g, i * 7 + 3, none⟩ = some (.int .i64 (gat b i).l.q) ∧ W.cell? ⟨g, i * 7 + 4, none⟩ = some (.int .i64 (gat b i).l.u) from fun W hb => by
    have hR := rf_read (hS.below rfS_ok hb)
    obtain ⟨g, hA, hc, -⟩ := hR.lic i (by rw [rfz_len hz]; exact hi) (rfz_len hz)
    have hl := rfz_at hz hi
    have h0 := hc 0 _ (by omega) rfl
    have h3 := hc 3 _ (by omega) rfl
    have h4 := hc 4 _ (by omega) rfl
    rw [hl] at h0 h3 h4
    exact ⟨g, hA, hR.c0, hR.c2, h0, h3, h4⟩)
  have HK := hide (show ∀ W, Below w.heap.size w W → ∀ j (hj : j < b.ks.length), ∃ g, s.K = some ⟨g, 0, none⟩ ∧ W.cell? ⟨g, j * 4 + 1, none⟩ = some (.string (gat b b.ks[j].gi).l.id) ∧ W.cell? ⟨g, j * 4 + 2, none⟩ = some (.int .i64 (b.ks[j].st + 1)) ∧ W.cell? ⟨g, j * 4 + 3, none⟩ = some (.int .i64 b.ks[j].un) from fun W hb j hj => by
    have hR := rf_read (hS.below rfS_ok hb)
    obtain ⟨g, hA, hc, -⟩ := hR.key j hj
    exact ⟨g, hA, hc 1 _ (by omega) rfl, hc 2 _ (by omega) rfl, hc 3 _ (by omega) rfl⟩)
  obtain ⟨gA, hA, -⟩ := HQ.out w (Below.refl _ _)
  have HQ := hide (show ∀ W, Below w.heap.size w W → W.cell? ⟨p, 0, none⟩ = some (.slice (some ⟨gA, 0, none⟩) b.gs.length s.c) ∧ W.cell? ⟨p, 2, none⟩ = some (.slice s.K b.ks.length s.cK) ∧ W.cell? ⟨gA, i * 7, none⟩ = some (.string (gat b i).l.id) ∧ W.cell? ⟨gA, i * 7 + 3, none⟩ = some (.int .i64 (gat b i).l.q) ∧ W.cell? ⟨gA, i * 7 + 4, none⟩ = some (.int .i64 (gat b i).l.u) from fun W hb => by
    obtain ⟨g, hA', h0, h2, h3⟩ := HQ.out W hb
    rw [hA] at hA' h0
    injection hA' with e; injection e with e
    subst e
    exact ⟨h0, h2, h3⟩)
  have HI := hide (fun j (hj : j < b.ks.length) => ids_eq hI.ids hi (hI.k _ (List.getElem_mem hj)).1)
  have HSU := hide (hI.su i hi)
  have HSN := hide (hI.sn i hi)
  have HB := hide (fun j (hj : j < b.ks.length) => hI.k _ (List.getElem_mem hj))
  have HU := hide (show ∀ j, 0 ≤ suOf i (b.ks.take j) ∧ suOf i (b.ks.take j) ≤ 1000000000000 ∧ 0 ≤ snOf i (b.ks.take j) ∧ snOf i (b.ks.take j) ≤ 1000 from fun j => by
    have hk := fun (k : KeyM) (hk : k ∈ b.ks.take j) => hI.k k (List.mem_of_mem_take hk)
    have h1 := suOf_nonneg i (b.ks.take j) (fun k hh => (hk k hh).2.1)
    have h2 := suOf_le i (b.ks.take j) (fun k hh => ⟨(hk k hh).2.1, (hk k hh).2.2.1⟩)
    have h3 := snOf_nonneg i (b.ks.take j)
    have h4 := snOf_le i (b.ks.take j)
    have h5 : (b.ks.take j).length ≤ 1000 := by have := hI.kn; rw [List.length_take]; omega
    omega)
  have hn100 := hI.gn
  have hk1000 := hI.kn
  obtain ⟨hq1, hq2, hu1, hu2⟩ := hI.q _ (gat_mem hi)
  have R0 := hide (Run.begin w)
  rw [HSU.out, HSN.out]
  clear h hS hz hI hA
  generalize (gat b i).l.q = q at *
  generalize (gat b i).l.u = u at *
  have R1 := hide (R0.out.fresh emp_ok (cell_new w #[.int .i64 0, .int .i64 0] 66))
  have C1 := hide (HQ.out _ (R1.out.drew (star_ok cell_ok emp_ok)).bel)
  unfold gptr
  go_enter Try.func99, Try.ntmps99
  go_wp2_with fail
  refine wp_region_lew [17, 18] [1, 1, 1, 1, 1, 1, 1, 1, 1, 1, 1, 1, 1, 1, 1, 1, 1, 1, 2] (fun w' => Below w.heap.size w w') (fun w' => Below w.heap.size w w') (fun _ => True) (fun _ => True) (fun _ h => h) (fun _ _ => trivial) (fun _ h => h) (by kernel_rfl) (by kernel_rfl) (by kernel_rfl) (by kernel_rfl) (by exact (R1.out.drew (star_ok cell_ok emp_ok)).bel) ?_
  repeat (first | (refine lew_skip (by rfl) (by rfl) ?_) | (refine lew_read1 (v := ?_) (by rfl) (by rfl) ?_ ?_; rotate_left; (focus (intro w' hS'; obtain ⟨c0, c2, c3, c4, c5⟩ := HQ.out w' hS'; go_simp; (try with_reducible rfl); done)); try simp only [Act.put, List.setIfInBounds_toArray, List.set_cons_zero, List.set_cons_succ]))
  refine lew_chain1 rfl (by rfl) (fun K hK => ?_)
  go_wp2_with fail
  have R2 := hide ((R1.out.fresh (star_ok cell_ok emp_ok) (cell_new _ #[.int .i64 0, .int .i64 0] 66)).drew (star_ok cell_ok (star_ok cell_ok emp_ok)))
  rw [show (w.alloc (.cells #[.int .i64 0, .int .i64 0] 66)).heap.size = w.heap.size + 1 by simp] at R2
  refine hK.out _ _ R2.out.bel ?_
  clear hK R1 C1
  refine lew_chain2 rfl (by rfl) (fun K hK => ?_)
  go_wp2_with fail
  refine hK.out _ _ trivial (lew_nil ?_)
  clear hK
  clear R2
  have R3 := hide ((((R0.out.fresh emp_ok (cell_new w #[.int .i64 0, .int .i64 0] 66)).fresh (star_ok cell_ok emp_ok) (cell_new _ #[.int .i64 q, .int .i64 u] 66)).drew (star_ok cell_ok (star_ok cell_ok emp_ok))))
  rw [show (w.alloc (.cells #[.int .i64 0, .int .i64 0] 66)).heap.size = w.heap.size + 1 by simp] at R3
  generalize ((w.alloc (.cells #[.int .i64 0, .int .i64 0] 66)).alloc (.cells #[.int .i64 q, .int .i64 u] 66)).drew = w3 at *
  clear R0
  obtain ⟨m, hm⟩ : ∃ m, m = b.ks.length := ⟨_, rfl⟩
  have HM := hide hm
  rw [← hm] at hk1000
  clear hm
  go_wp2_with fail
  go_loopw [6] (fun z wr => ∃ j : Nat, j ≤ m ∧ z = .int .i64 j ∧ Run (fun _ => False) w (star (CellO (w.heap.size + 1) #[.int .i64 (q - suOf i (b.ks.take j)), .int .i64 (u - snOf i (b.ks.take j))] 66) (star (CellO w.heap.size #[.int .i64 0, .int .i64 0] 66) emp)) wr) (fun z _ => m - (intOf z).toNat)
  case atStart => exact ⟨0, Nat.zero_le _, rfl, by simpa [suOf, snOf] using R3.out⟩
  case round =>
    obtain ⟨j, hj, rfl, hR⟩ := hrel
    clear R3
    have OK2 := hide (star_ok cell_ok emp_ok : (star (CellO w.heap.size #[.int .i64 0, .int .i64 0] 66) emp).Ok)
    have HR := hide hR
    obtain ⟨-, c2w, -⟩ := HQ.out _ hR.bel
    rw [← HM.out] at c2w
    by_cases hlt : j < m
    · have hjk : j < b.ks.length := by rw [← HM.out]; exact hlt
      have SU := su_step i hjk
      have SN := sn_step i hjk
      obtain ⟨b1, b2, b3, b4⟩ := HU.out j
      obtain ⟨b5, b6, b7, b8⟩ := HU.out (j + 1)
      obtain ⟨hg1, hg2, hg3, hg4⟩ := HB.out j hjk
      have hid := HI.out j hjk
      have RD := hide (hR.drew (star_ok cell_ok OK2.out))
      obtain ⟨c0, c2, c3, -, -⟩ := HQ.out _ RD.out.bel
      obtain ⟨gK, hK, k1, k2, k3⟩ := HK.out _ RD.out.bel j hjk
      obtain ⟨a0, a1, af, al⟩ := rc2 RD.out
      rw [← HM.out] at c2
      rw [hK] at c2 c2w
      have HKK := hide hK
      clear hR hK
      generalize b.ks[j] = ky at *
      generalize (gat b ky.gi).l.id = kid at *
      generalize (gat b i).l.id = iid at *
      generalize suOf i (b.ks.take j) = su0 at *
      generalize snOf i (b.ks.take j) = sn0 at *
      generalize hsu1 : suOf i (b.ks.take (j + 1)) = su1 at *
      generalize hsn1 : snOf i (b.ks.take (j + 1)) = sn1 at *
      have HS1 := hide hsu1
      have HN1 := hide hsn1
      clear hsu1 hsn1
      by_cases hgi : ky.gi = i
      · have hkid := hid.2 hgi
        rw [hkid] at k1
        have t1 : (iid.toList == iid.toList) = true := by rw [toList_beq]; exact decide_eq_true rfl
        by_cases hst : ky.st = 2
        · rw [hst] at k2
          have E1 := hide (show su1 = su0 by rw [SU, if_pos hgi]; unfold unC; rw [if_pos hst]; omega)
          have E2 := hide (show sn1 = sn0 by rw [SN, if_neg (fun e => e.2 hst)]; omega)
          clear hkid hgi hid SU SN hst
          go_wp2_with fail
          refine wp_region_lex (fun w' => w' = wr.drew) (by kernel_rfl) (by kernel_rfl) rfl ?_
          generalize wr.drew = wd at *
          (repeat (first | (refine lex_skip (by rfl) ?_; try simp only [Act.put, List.setIfInBounds_toArray, List.set_cons_zero, List.set_cons_succ]) | (refine lex_read (v := ?_) (by rfl) ?_ ?_; rotate_left; (focus (intro w' hS'; go_simp; (try with_reducible rfl); done)); try simp only [Act.put, List.setIfInBounds_toArray, List.set_cons_zero, List.set_cons_succ])))
          refine lex_nil ?_
          go_wp2
          go_roundw
          case rel => exact ⟨j + 1, by omega, by go_num, by rw [HS1.out, HN1.out, E1.out, E2.out]; exact RD.out⟩
          case measure => simp [intOf]; omega
        · have t2 : (ky.st + 1 != 3) = true := by simp; omega
          have E1 := hide (show su1 = su0 + ky.un by rw [SU, if_pos hgi]; unfold unC; rw [if_neg hst])
          have E2 := hide (show sn1 = sn0 + 1 by rw [SN, if_pos ⟨hgi, hst⟩])
          clear hkid hgi hid SU SN hst
          have T1 := hide (show IntKind.i64.wrap (q - su0 - ky.un) = q - su0 - ky.un from IntWalk.i64_in _ (by omega))
          have RD2 := hide (RD.out.drew (star_ok cell_ok OK2.out))
          have C2 := hide (HQ.out _ RD2.out.bel)
          have KK := hide (rc2 RD2.out)
          have CK : Hid (wr.drew.drew.cell? ⟨gK, j * 4 + 3, none⟩ = some (.int .i64 ky.un)) := hide k3
          have RS := hide (rset RD2.out OK2.out 0 (.int .i64 (q - su0 - ky.un)))
          go_wp2_with fail
          refine wp_region_lex (fun w' => w' = wr.drew) (by kernel_rfl) (by kernel_rfl) rfl ?_
          generalize wr.drew = wd at *
          (repeat (first | (refine lex_skip (by rfl) ?_; try simp only [Act.put, List.setIfInBounds_toArray, List.set_cons_zero, List.set_cons_succ]) | (refine lex_read (v := ?_) (by rfl) ?_ ?_; rotate_left; (focus (intro w' hS'; go_simp; (try with_reducible rfl); done)); try simp only [Act.put, List.setIfInBounds_toArray, List.set_cons_zero, List.set_cons_succ])))
          refine lex_nil ?_
          clear c0 c2 c3 k1 k2 k3 a0 a1 af al c2w
          go_wp2_with fail
          obtain ⟨a0, a1, af, al⟩ := KK.out
          obtain ⟨-, c2, -⟩ := C2.out
          rw [← HM.out, HKK.out] at c2
          have k3 := CK.out
          refine wp_region_lew [12] [0, 0, 0, 0, 0, 0, 0, 0, 0, 0, 0, 0, 1] (fun w' => w' = wd.drew) (fun _ => True) (fun _ => True) (fun _ => True) (fun _ _ => trivial) (fun _ h => h) (fun _ h => h) (by kernel_rfl) (by kernel_rfl) (by kernel_rfl) (by kernel_rfl) rfl ?_
          generalize wd.drew = w6 at *
          (repeat (first | (refine lew_skip (by rfl) (by rfl) ?_; try simp only [Act.put, List.setIfInBounds_toArray, List.set_cons_zero, List.set_cons_succ]) | (refine lew_read0 (v := ?_) (by rfl) (by rfl) ?_ ?_; rotate_left; (focus (intro w' hS'; go_simp; (try with_reducible rfl); done)); try simp only [Act.put, List.setIfInBounds_toArray, List.set_cons_zero, List.set_cons_succ]) | (refine lew_read1 (v := ?_) (by rfl) (by rfl) ?_ ?_; rotate_left; (focus (intro w' hS'; go_simp; (try with_reducible rfl); done)); try simp only [Act.put, List.setIfInBounds_toArray, List.set_cons_zero, List.set_cons_succ]) | (refine lew_read2 (v := ?_) (by rfl) (by rfl) ?_ ?_; rotate_left; (focus (intro w' hS'; go_simp; (try with_reducible rfl); done)); try simp only [Act.put, List.setIfInBounds_toArray, List.set_cons_zero, List.set_cons_succ]) | (refine lew_read3 (v := ?_) (by rfl) (by rfl) ?_ ?_; rotate_left; (focus (intro w' hS'; go_simp; (try with_reducible rfl); done)); try simp only [Act.put, List.setIfInBounds_toArray, List.set_cons_zero, List.set_cons_succ]) | (refine lew_read4 (v := ?_) (by rfl) (by rfl) ?_ ?_; rotate_left; (focus (intro w' hS'; go_simp; (try with_reducible rfl); done)); try simp only [Act.put, List.setIfInBounds_toArray, List.set_cons_zero, List.set_cons_succ])))
          refine lew_chain1 rfl (by rfl) (fun K hK => ?_)
          rw [T1.out]
          go_wp2_with fail
          refine hK.out _ _ trivial (lew_nil ?_)
          clear hK a0 a1 af al c2 k3
          have RS' := hide (show Run (fun _ => False) w (star (CellO (w.heap.size + 1) #[.int .i64 (q - su0 - ky.un), .int .i64 (u - sn0)] 66) (star (CellO w.heap.size #[.int .i64 0, .int .i64 0] 66) emp)) (w6.setCell ⟨w.heap.size + 1, 0, none⟩ (.int .i64 (q - su0 - ky.un))) from RS.out)
          have RT := hide (rset RS'.out OK2.out 1 (.int .i64 (u - sn0 - 1)))
          obtain ⟨a0, a1, af, al⟩ := rc2 RS'.out
          generalize w6.setCell ⟨w.heap.size + 1, 0, none⟩ (.int .i64 (q - su0 - ky.un)) = w7 at *
          clear RS RS' KK C2 CK RD RD2
          go_wp2
          go_roundw
          case rel => exact ⟨j + 1, by omega, by go_num, by rw [HS1.out, HN1.out, E1.out, E2.out, show q - (su0 + ky.un) = q - su0 - ky.un by omega, show u - (sn0 + 1) = u - sn0 - 1 by omega]; exact RT.out⟩
          case measure => simp [intOf]; omega
      · have hkid : ¬ kid = iid := fun e => hgi (hid.1 e)
        have t1 : (kid.toList == iid.toList) = false := by rw [toList_beq]; exact decide_eq_false hkid
        have E1 := hide (show su1 = su0 by rw [SU, if_neg hgi]; omega)
        have E2 := hide (show sn1 = sn0 by rw [SN, if_neg (fun e => hgi e.1)]; omega)
        clear hkid hgi hid SU SN
        go_wp2_with fail
        refine wp_region_lex (fun w' => w' = wr.drew) (by kernel_rfl) (by kernel_rfl) rfl ?_
        generalize wr.drew = wd at *
        (repeat (first | (refine lex_skip (by rfl) ?_; try simp only [Act.put, List.setIfInBounds_toArray, List.set_cons_zero, List.set_cons_succ]) | (refine lex_read (v := ?_) (by rfl) ?_ ?_; rotate_left; (focus (intro w' hS'; go_simp; (try with_reducible rfl); done)); try simp only [Act.put, List.setIfInBounds_toArray, List.set_cons_zero, List.set_cons_succ])))
        refine lex_nil ?_
        go_wp2
        go_roundw
        case rel => exact ⟨j + 1, by omega, by go_num, by rw [HS1.out, HN1.out, E1.out, E2.out]; exact RD.out⟩
        case measure => simp [intOf]; omega
    · obtain rfl : j = m := by omega
      rw [HM.out, List.take_length] at HR
      obtain ⟨a0, a1, af, al⟩ := rc2 HR.out
      obtain ⟨F4, hC4⟩ := HR.out.rot.fst
      have RF := hide (rset (rset HR.out.rot (star_ok cell_ok emp_ok) 0 (.int .i64 (q - suOf i b.ks))) (star_ok cell_ok emp_ok) 1 (.int .i64 (u - snOf i b.ks)))
      have x0 := cell_at hC4 (i := 0) rfl
      have x1 := cell_at hC4 (i := 1) rfl
      have y0 := cell_free hC4 0
      have y1 := cell_free hC4 1
      clear hR hC4
      go_wp2_with fail
      obtain ⟨F5, hC5⟩ := RF.out.fst
      refine bodyPost_ret_by (results_cell_row rfl _ _ w.heap.size 66 #[.int .i64 (q - suOf i b.ks), .int .i64 (u - snOf i b.ks)] (0, 0) _ rfl ?_ Try.underlying66 rfl (by kernel_rfl)) rfl ?_
      · exact hC5.1
      · exact ⟨rfl, RF.out.bel⟩
end Go.Proofs.Ytapabbpdfplpoaa
