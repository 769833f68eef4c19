/-
  Licence: what stays true of a book.
  Licence: the state of a law's walk with a book; left, as the laws use it.
  Licence: do.
  Licence: head, the chapter's examples.
  Licence: Short.
-/
import Derived.Test.YtapabbpdfplpoaaV3
import Derived.Test.YtapabbpdfplpoaaV8
set_option linter.unusedSimpArgs false
set_option linter.unusedVariables false
namespace Go.CH.Lic

theorem putG_len (b : BkM) (i : Nat) (g : GrM) : (putG b i g).gs.length = b.gs.length := by simp [putG]
theorem putK_len (b : BkM) (j : Nat) (k : KeyM) : (putK b j k).ks.length = b.ks.length := by simp [putK]
theorem inv_putG {b : BkM} (h : Inv b) (i : Nat) (g : GrM) (hg : valid g.l = true ∧ 0 ≤ g.su ∧ g.su ≤ g.l.q ∧ 0 ≤ g.sn ∧ g.sn ≤ g.l.u ∧ -1 ≤ g.e ∧ g.e ≤ 144001439) : Inv (putG b i g) := by
  refine ⟨fun x hx => ?_, fun k hk => ?_, by rw [putG_len]; exact h.gn, h.kn⟩
  · rcases List.mem_or_eq_of_mem_set hx with hx | rfl
    · exact h.g x hx
    · exact hg
  · rw [putG_len]; exact h.k k hk
theorem inv_putK {b : BkM} (h : Inv b) (j : Nat) (k : KeyM) (hk : k.gi < b.gs.length ∧ 0 ≤ k.un ∧ k.un ≤ 1000000000 ∧ (k.st = 0 ∨ k.st = 1 ∨ k.st = 2)) : Inv (putK b j k) := by
  refine ⟨h.g, fun x hx => ?_, h.gn, by rw [putK_len]; exact h.kn⟩
  rcases List.mem_or_eq_of_mem_set hx with hx | rfl
  · exact h.k x hx
  · exact hk
theorem inv_new : Inv newM := ⟨by simp [newM], by simp [newM], by simp [newM], by simp [newM]⟩
theorem inv_add {b : BkM} (h : Inv b) {l : LicM} (hv : valid l = true) (hn : b.gs.length < 100) : Inv (addM b l) := by
  have hn := valid_num hv
  refine ⟨fun x hx => ?_, fun k hk => ?_, by simp [addM]; omega, h.kn⟩
  · rcases List.mem_append.1 hx with hx | hx
    · exact h.g x hx
    · simp at hx; subst hx; exact ⟨hv, by simp, hn.1, by simp, hn.2.2.1, by simp, by simp⟩
  · have := h.k k hk
    exact ⟨by simp [addM]; omega, this.2⟩
/-! Sums: what the keys of a licence hold. -/
def suOf (i : Nat) : List KeyM → Int
  | [] => 0
  | k :: l => (if k.gi = i then unC k else 0) + suOf i l
def snOf (i : Nat) : List KeyM → Int
  | [] => 0
  | k :: l => (if k.gi = i ∧ k.st ≠ 2 then 1 else 0) + snOf i l
theorem suOf_app (i : Nat) (l r : List KeyM) : suOf i (l ++ r) = suOf i l + suOf i r := by
  induction l with
  | nil => simp [suOf]
  | cons k l ih => simp only [List.cons_append, suOf, ih]; omega
theorem snOf_app (i : Nat) (l r : List KeyM) : snOf i (l ++ r) = snOf i l + snOf i r := by
  induction l with
  | nil => simp [snOf]
  | cons k l ih => simp only [List.cons_append, snOf, ih]; omega
theorem suOf_set (i : Nat) : ∀ (l : List KeyM) (j : Nat) (hj : j < l.length) (k : KeyM), suOf i (l.set j k) = suOf i l - (if l[j].gi = i then unC l[j] else 0) + (if k.gi = i then unC k else 0)
  | x :: l, 0, _, k => by simp [suOf]; omega
  | x :: l, j + 1, hj, k => by
    have := suOf_set i l j (by simpa using hj) k
    simp only [List.set_cons_succ, suOf, List.getElem_cons_succ, this]; omega
theorem snOf_set (i : Nat) : ∀ (l : List KeyM) (j : Nat) (hj : j < l.length) (k : KeyM), snOf i (l.set j k) = snOf i l - (if l[j].gi = i ∧ l[j].st ≠ 2 then 1 else 0) + (if k.gi = i ∧ k.st ≠ 2 then 1 else 0)
  | x :: l, 0, _, k => by simp [snOf]; omega
  | x :: l, j + 1, hj, k => by
    have := snOf_set i l j (by simpa using hj) k
    simp only [List.set_cons_succ, snOf, List.getElem_cons_succ, this]; omega
theorem suOf_nonneg (i : Nat) : ∀ (l : List KeyM), (∀ k ∈ l, 0 ≤ k.un) → 0 ≤ suOf i l
  | [], _ => by simp [suOf]
  | k :: l, h => by
    have h1 := suOf_nonneg i l (fun x hx => h x (by simp [hx]))
    have h2 := h k (by simp)
    have h3 : 0 ≤ unC k := by unfold unC; split <;> omega
    simp only [suOf]; split <;> omega
theorem snOf_nonneg (i : Nat) : ∀ (l : List KeyM), 0 ≤ snOf i l
  | [] => by simp [snOf]
  | k :: l => by
    have h1 := snOf_nonneg i l
    simp only [snOf]; split <;> omega
theorem suOf_ge (i : Nat) {l : List KeyM} (h : ∀ k ∈ l, 0 ≤ k.un) {k : KeyM} (hk : k ∈ l) (hi : k.gi = i) : unC k ≤ suOf i l := by
  induction l with
  | nil => cases hk
  | cons x l ih =>
    have hl := suOf_nonneg i l (fun y hy => h y (by simp [hy]))
    rcases List.mem_cons.1 hk with rfl | hk
    · simp only [suOf, if_pos hi]; omega
    · have := ih (fun y hy => h y (by simp [hy])) hk
      have h2 := h x (by simp)
      have h3 : 0 ≤ unC x := by unfold unC; split <;> omega
      simp only [suOf]; split <;> omega
theorem snOf_ge (i : Nat) {l : List KeyM} {k : KeyM} (hk : k ∈ l) (hi : k.gi = i) (hs : k.st ≠ 2) : 1 ≤ snOf i l := by
  induction l with
  | nil => cases hk
  | cons x l ih =>
    have hl := snOf_nonneg i l
    rcases List.mem_cons.1 hk with rfl | hk
    · simp only [snOf, if_pos (And.intro hi hs)]; omega
    · have := ih hk
      simp only [snOf]; split <;> omega
/-- .. and what the keys hold is what the licences say. -/
structure Inv2 (b : BkM) : Prop where
  inv : Inv b
  ids : (b.gs.map (·.l.id)).Nodup
  nms : (b.ks.map (·.nm)).Nodup
  knm : ∀ k ∈ b.ks, isName k.nm = true
  su : ∀ i, i < b.gs.length → (gat b i).su = suOf i b.ks
  sn : ∀ i, i < b.gs.length → (gat b i).sn = snOf i b.ks
theorem gat_putG {b : BkM} {i : Nat} (hi : i < b.gs.length) (g : GrM) (j : Nat) : gat (putG b i g) j = if j = i then g else gat b j := by
  unfold gat putG
  simp only [List.getD_eq_getElem?_getD, List.getElem?_set]
  by_cases h : i = j
  · subst h; simp [hi]
  · simp [h, Ne.symm h, show ¬ j = i from fun e => h e.symm]
theorem gat_putK (b : BkM) (j : Nat) (k : KeyM) (i : Nat) : gat (putK b j k) i = gat b i := rfl
theorem ids_put {b : BkM} {i : Nat} (hi : i < b.gs.length) {g : GrM} (h : g.l.id = (gat b i).l.id) : (putG b i g).gs.map (·.l.id) = b.gs.map (·.l.id) := by
  unfold putG
  rw [List.map_set, h, gat_get hi]
  refine List.ext_getElem (by simp) fun j a c => ?_
  rw [List.getElem_set]; split <;> simp_all
theorem nms_put {b : BkM} {j : Nat} (hj : j < b.ks.length) {k : KeyM} (h : k.nm = (kat b j).nm) : (putK b j k).ks.map (·.nm) = b.ks.map (·.nm) := by
  unfold putK
  rw [List.map_set, h, kat_get hj]
  refine List.ext_getElem (by simp) fun i a c => ?_
  rw [List.getElem_set]; split <;> simp_all
theorem inv2_new : Inv2 newM := ⟨inv_new, by simp [newM], by simp [newM], by simp [newM], by simp [newM], by simp [newM]⟩
/-- A licence's own numbers change (not what its keys hold). -/
theorem inv2_putG {b : BkM} (h : Inv2 b) {i : Nat} (hi : i < b.gs.length) (g : GrM) (hv : valid g.l = true) (h0 : g.l.id = (gat b i).l.id) (h1 : g.su = (gat b i).su) (h2 : g.sn = (gat b i).sn) (h3 : g.su ≤ g.l.q) (h4 : g.sn ≤ g.l.u) (h5 : -1 ≤ g.e ∧ g.e ≤ 144001439) : Inv2 (putG b i g) := by
  have hg := h.inv.g _ (gat_mem hi)
  refine ⟨inv_putG h.inv i g ⟨hv, by omega, h3, by omega, h4, h5⟩, by rw [ids_put hi h0]; exact h.ids, h.nms, h.knm, fun j hj => ?_, fun j hj => ?_⟩
  · rw [gat_putG hi]; split
    · rename_i e; subst e; rw [h1]; exact h.su j hi
    · exact h.su j (by simpa [putG] using hj)
  · rw [gat_putG hi]; split
    · rename_i e; subst e; rw [h2]; exact h.sn j hi
    · exact h.sn j (by simpa [putG] using hj)
theorem suOf_none {i : Nat} {l : List KeyM} (h : ∀ k ∈ l, k.gi < i) : suOf i l = 0 := by
  induction l with
  | nil => rfl
  | cons k l ih =>
    have h1 := h k (by simp)
    simp only [suOf, ih (fun x hx => h x (by simp [hx]))]
    rw [if_neg (by omega)]; omega
theorem snOf_none {i : Nat} {l : List KeyM} (h : ∀ k ∈ l, k.gi < i) : snOf i l = 0 := by
  induction l with
  | nil => rfl
  | cons k l ih =>
    have h1 := h k (by simp)
    simp only [snOf, ih (fun x hx => h x (by simp [hx]))]
    rw [if_neg (by omega)]; omega
theorem inv2_add {b : BkM} (h : Inv2 b) {l : LicM} (hv : valid l = true) (hn : b.gs.length < 100) (hid : ∀ g ∈ b.gs, g.l.id ≠ l.id) : Inv2 (addM b l) := by
  have hlen : (addM b l).gs.length = b.gs.length + 1 := by simp [addM]
  have hgat : ∀ i, i < b.gs.length → gat (addM b l) i = gat b i := fun i hi => by
    simp [gat, addM, List.getD_eq_getElem?_getD, List.getElem?_append_left hi]
  have hlast : gat (addM b l) b.gs.length = ⟨l, 0, 0, -1⟩ := by simp [gat, addM, List.getD_eq_getElem?_getD]
  refine ⟨inv_add h.inv hv hn, ?_, h.nms, h.knm, fun i hi => ?_, fun i hi => ?_⟩
  · simp only [addM, List.map_append, List.map_cons, List.map_nil]
    refine List.nodup_append.2 ⟨h.ids, by simp, fun a ha c hc => ?_⟩
    simp at hc; subst hc
    obtain ⟨g, hg, rfl⟩ := List.mem_map.1 ha
    exact hid g hg
  · by_cases e : i = b.gs.length
    · subst e; rw [hlast]; exact (suOf_none (fun k hk => (h.inv.k k hk).1)).symm
    · rw [hgat i (by omega)]; exact h.su i (by omega)
  · by_cases e : i = b.gs.length
    · subst e; rw [hlast]; exact (snOf_none (fun k hk => (h.inv.k k hk).1)).symm
    · rw [hgat i (by omega)]; exact h.sn i (by omega)
theorem inv2_set {b : BkM} (h : Inv2 b) {j : Nat} (hj : j < b.ks.length) {st un : Int} (h0 : (kat b j).st ≠ 2) (hst : st = 0 ∨ st = 1) (h1 : 0 ≤ un) (h2 : un ≤ (kat b j).un) : Inv2 (setM b j st un) := by
  have hk := h.inv.k _ (kat_mem hj)
  have hi := hk.1
  have hg := h.inv.g _ (gat_mem hi)
  have hu : unC (kat b j) = (kat b j).un := if_neg h0
  have hge := suOf_ge (kat b j).gi (fun k hk => (h.inv.k k hk).2.1) (kat_mem hj) rfl
  rw [← h.su _ hi] at hge
  have hun : unC { kat b j with st := st, un := un } = un := if_neg (by simp; omega)
  unfold setM
  have hi' : (kat b j).gi < (putK b j { kat b j with st := st, un := un }).gs.length := hi
  refine ⟨inv_putG (inv_putK h.inv j { kat b j with st := st, un := un } ⟨hi, h1, by simp; omega, by simp; omega⟩) _ { gat b (kat b j).gi with su := (gat b (kat b j).gi).su + (un - unC (kat b j)) } ⟨hg.1, by simp; omega, by simp; omega, hg.2.2.2.1, hg.2.2.2.2.1, hg.2.2.2.2.2.1, hg.2.2.2.2.2.2⟩, ?_, ?_, ?_, fun i hil => ?_, fun i hil => ?_⟩
  · rw [ids_put (g := { gat b (kat b j).gi with su := (gat b (kat b j).gi).su + (un - unC (kat b j)) }) hi' rfl]; exact h.ids
  · show ((putK b j { kat b j with st := st, un := un }).ks.map (·.nm)).Nodup
    rw [nms_put (k := { kat b j with st := st, un := un }) hj rfl]; exact h.nms
  · intro k hkm
    rcases List.mem_or_eq_of_mem_set (show k ∈ b.ks.set j { kat b j with st := st, un := un } from hkm) with hkm | e
    · exact h.knm k hkm
    · rw [e]; exact h.knm (kat b j) (kat_mem hj)
  · rw [gat_putG hi']
    show _ = suOf i (b.ks.set j { kat b j with st := st, un := un })
    rw [suOf_set i b.ks j hj, ← kat_get hj, hun, gat_putK]
    have := h.su i (by simpa [putG, putK] using hil)
    by_cases e : i = (kat b j).gi
    · subst e; simp; omega
    · rw [if_neg e, if_neg (fun e' => e e'.symm), if_neg (fun e' => e e'.symm)]; omega
  · rw [gat_putG hi']
    show _ = snOf i (b.ks.set j { kat b j with st := st, un := un })
    rw [snOf_set i b.ks j hj, ← kat_get hj, gat_putK]
    have := h.sn i (by simpa [putG, putK] using hil)
    have h01 : st ≠ 2 := by omega
    by_cases e : i = (kat b j).gi
    · subst e; simp [h0, h01]; omega
    · rw [if_neg e, if_neg (fun e' => e e'.1.symm), if_neg (fun e' => e e'.1.symm)]; omega
theorem inv2_rel {b : BkM} (h : Inv2 b) {j : Nat} (hj : j < b.ks.length) (h0 : (kat b j).st ≠ 2) : Inv2 (relM b j) := by
  have hk := h.inv.k _ (kat_mem hj)
  have hi := hk.1
  have hg := h.inv.g _ (gat_mem hi)
  have hu : unC (kat b j) = (kat b j).un := if_neg h0
  have hge := suOf_ge (kat b j).gi (fun k hk => (h.inv.k k hk).2.1) (kat_mem hj) rfl
  have hge2 := snOf_ge (kat b j).gi (kat_mem hj) rfl h0
  rw [← h.su _ hi] at hge
  rw [← h.sn _ hi] at hge2
  have hun : unC { kat b j with st := 2 } = 0 := if_pos rfl
  unfold relM
  have hi' : (kat b j).gi < (putK b j { kat b j with st := 2 }).gs.length := hi
  refine ⟨inv_putG (inv_putK h.inv j { kat b j with st := 2 } ⟨hi, hk.2.1, hk.2.2.1, .inr (.inr rfl)⟩) _ { gat b (kat b j).gi with su := (gat b (kat b j).gi).su + (0 - unC (kat b j)), sn := (gat b (kat b j).gi).sn - 1 } ⟨hg.1, by simp; omega, by simp; omega, by simp; omega, by simp; omega, hg.2.2.2.2.2.1, hg.2.2.2.2.2.2⟩, ?_, ?_, ?_, fun i hil => ?_, fun i hil => ?_⟩
  · rw [ids_put (g := { gat b (kat b j).gi with su := (gat b (kat b j).gi).su + (0 - unC (kat b j)), sn := (gat b (kat b j).gi).sn - 1 }) hi' rfl]; exact h.ids
  · show ((putK b j { kat b j with st := 2 }).ks.map (·.nm)).Nodup
    rw [nms_put (k := { kat b j with st := 2 }) hj rfl]; exact h.nms
  · intro k hkm
    rcases List.mem_or_eq_of_mem_set (show k ∈ b.ks.set j { kat b j with st := 2 } from hkm) with hkm | e
    · exact h.knm k hkm
    · rw [e]; exact h.knm (kat b j) (kat_mem hj)
  · rw [gat_putG hi']
    show _ = suOf i (b.ks.set j { kat b j with st := 2 })
    rw [suOf_set i b.ks j hj, ← kat_get hj, hun, gat_putK]
    have := h.su i (by simpa [putG, putK] using hil)
    by_cases e : i = (kat b j).gi
    · subst e; simp; omega
    · rw [if_neg e, if_neg (fun e' => e e'.symm)]; simp; omega
  · rw [gat_putG hi']
    show _ = snOf i (b.ks.set j { kat b j with st := 2 })
    rw [snOf_set i b.ks j hj, ← kat_get hj, gat_putK]
    have := h.sn i (by simpa [putG, putK] using hil)
    by_cases e : i = (kat b j).gi
    · subst e; simp [h0]; omega
    · rw [if_neg e, if_neg (fun e' => e e'.1.symm)]; simp; omega
/-! The functions keep it. -/
theorem within_iff {n m : Int} : within n m = true ↔ 0 ≤ n ∧ n ≤ m := by unfold within; simp
theorem inv2_grant {b : BkM} (h : Inv2 b) (l : LicM) : Inv2 (grantR b l).2 := by
  unfold grantR
  split
  · exact h
  · split
    · exact h
    · split
      · exact h
      · rename_i a c d
        refine inv2_add h (by simpa using a) (by omega) (findG_none (by simpa using c))
theorem inv2_revoke {b : BkM} (h : Inv2 b) (id : ByteArray) (a : Int) : Inv2 (revokeR b id a).2 := by
  unfold revokeR
  cases hf : findG b id with
  | none => exact h
  | some i =>
    have hi := (findG_some hf).1
    have hg := h.inv.g _ (gat_mem hi)
    simp only
    split
    · exact h
    · split
      · exact h
      · rename_i c d
        have := within_iff.1 (show within a 144001439 = true by simpa [inst] using c)
        exact inv2_putG h hi _ hg.1 rfl rfl rfl hg.2.2.1 hg.2.2.2.2.1 (by simp; omega)
theorem inv2_amend {b : BkM} (h : Inv2 b) (id : ByteArray) (q u t : Int) : Inv2 (amendR b id q u t).2 := by
  unfold amendR
  cases hf : findG b id with
  | none => exact h
  | some i =>
    have hi := (findG_some hf).1
    have hg := h.inv.g _ (gat_mem hi)
    simp only
    split
    · exact h
    · split
      · exact h
      · split
        · exact h
        · rename_i a c d
          have hv : valid (amendL (gat b i).l q u t) = true := by simpa using c
          exact inv2_putG h hi _ hv rfl rfl rfl (by simp [amendL]; omega) (by simp [amendL]; omega) hg.2.2.2.2.2
theorem valid_cut {l : LicM} (h : valid l = true) {q u : Int} (h1 : 0 ≤ l.q - q) (h2 : 0 ≤ q) (h3 : 0 ≤ l.u - u) (h4 : 0 ≤ u) : valid { l with q := l.q - q, u := l.u - u } = true := by
  have hn := valid_num h
  unfold valid at h ⊢
  simp only [Bool.and_eq_true, within_iff, decide_eq_true_eq, listsOk] at h ⊢
  refine ⟨⟨⟨⟨⟨⟨h.1.1.1.1.1.1, h.1.1.1.1.1.2⟩, ?_⟩, ?_⟩, h.1.1.2⟩, h.1.2⟩, h.2⟩ <;> omega
theorem valid_split {l : LicM} (h : valid l = true) {into : ByteArray} {q u : Int} (hn : isName into = true) (h1 : q ≤ l.q) (h2 : 0 ≤ q) (h3 : u ≤ l.u) (h4 : 0 ≤ u) : valid (splitL l into q u) = true := by
  have hnn := valid_num h
  unfold valid splitL at *
  simp only [Bool.and_eq_true, within_iff, decide_eq_true_eq, listsOk] at h ⊢
  refine ⟨⟨⟨⟨⟨⟨hn, h.1.1.1.1.1.2⟩, ?_⟩, ?_⟩, h.1.1.2⟩, h.1.2⟩, h.2⟩ <;> omega
theorem inv2_split {b : BkM} (h : Inv2 b) (id into : ByteArray) (q u : Int) : Inv2 (splitR b id into q u).2 := by
  unfold splitR
  cases hf : findG b id with
  | none => exact h
  | some i =>
    have hi := (findG_some hf).1
    have hg := h.inv.g _ (gat_mem hi)
    simp only
    split
    · exact h
    · split
      · exact h
      · split
        · exact h
        · split
          · exact h
          · split
            · exact h
            · rename_i a c d e f
              have hc : isName into = true ∧ 0 ≤ q ∧ 0 ≤ u := by
                simp only [not_or, Bool.not_eq_false] at c; exact ⟨c.1, by omega, by omega⟩
              have hd := findG_none (by simpa using d)
              have hP : Inv2 (putG b i { gat b i with l := { (gat b i).l with q := (gat b i).l.q - q, u := (gat b i).l.u - u } }) := inv2_putG h hi _ (valid_cut hg.1 (q := q) (u := u) (by omega) (by omega) (by omega) (by omega)) rfl rfl rfl (by simp; omega) (by simp; omega) hg.2.2.2.2.2
              have hI2 : ∀ g ∈ (putG b i { gat b i with l := { (gat b i).l with q := (gat b i).l.q - q, u := (gat b i).l.u - u } }).gs, g.l.id ≠ into := fun g hgm => by
                rcases List.mem_or_eq_of_mem_set (show g ∈ b.gs.set i { gat b i with l := { (gat b i).l with q := (gat b i).l.q - q, u := (gat b i).l.u - u } } from hgm) with hgm | e
                · exact hd g hgm
                · rw [e]; exact hd (gat b i) (gat_mem hi)
              exact inv2_add hP (valid_split hg.1 hc.1 (by omega) (by omega) (by omega) (by omega)) (by rw [putG_len]; omega) hI2
theorem inv2_reserve {b : BkM} (h : Inv2 b) (id nm : ByteArray) (un a : Int) : Inv2 (reserveR b id nm un a).2 := by
  unfold reserveR
  split
  · exact h
  · rename_i hargs
    cases hf : findG b id with
    | none => exact h
    | some i =>
      have hi := (findG_some hf).1
      have hg := h.inv.g _ (gat_mem hi)
      simp only
      split
      · exact h
      · split
        · exact h
        · split
          · exact h
          · split
            · exact h
            · rename_i c d e f
              have hk := findK_none (by simpa using c)
              simp only [not_or, Bool.not_eq_false] at hargs
              have hun := within_iff.1 hargs.2.1
              have hlen : ({ b with ks := b.ks ++ [⟨nm, i, 0, un⟩] } : BkM).gs.length = b.gs.length := rfl
              have hb1 : Inv { b with ks := b.ks ++ [⟨nm, i, 0, un⟩] } := by
                refine ⟨h.inv.g, fun k hkm => ?_, h.inv.gn, by simp; omega⟩
                rcases List.mem_append.1 hkm with hkm | hkm
                · exact h.inv.k k hkm
                · simp at hkm; subst hkm; exact ⟨hi, hun.1, hun.2, .inl rfl⟩
              show Inv2 (putG { b with ks := b.ks ++ [⟨nm, i, 0, un⟩] } i { gat b i with su := (gat b i).su + un, sn := (gat b i).sn + 1 })
              refine ⟨inv_putG hb1 i { gat b i with su := (gat b i).su + un, sn := (gat b i).sn + 1 } ⟨hg.1, by simp; omega, by simp; omega, by simp; omega, by simp; omega, hg.2.2.2.2.2⟩, ?_, ?_, ?_, fun j hj => ?_, fun j hj => ?_⟩
              · rw [ids_put (b := { b with ks := b.ks ++ [⟨nm, i, 0, un⟩] }) (g := { gat b i with su := (gat b i).su + un, sn := (gat b i).sn + 1 }) hi rfl]; exact h.ids
              · show ((b.ks ++ [(⟨nm, i, 0, un⟩ : KeyM)]).map (fun k => k.nm)).Nodup
                rw [List.map_append]
                refine List.nodup_append.2 ⟨h.nms, by simp, fun x hx y hy => ?_⟩
                simp at hy; subst hy
                obtain ⟨k, hkm, rfl⟩ := List.mem_map.1 hx
                exact hk k hkm
              · intro k hkm
                rcases List.mem_append.1 (show k ∈ b.ks ++ [⟨nm, i, 0, un⟩] from hkm) with hkm | hkm
                · exact h.knm k hkm
                · simp at hkm; subst hkm; exact hargs.1
              · rw [gat_putG (b := { b with ks := b.ks ++ [⟨nm, i, 0, un⟩] }) hi]
                show _ = suOf j (b.ks ++ [⟨nm, i, 0, un⟩])
                rw [suOf_app]
                have := h.su j (by simpa [putG] using hj)
                by_cases e2 : j = i
                · subst e2; simp [suOf, unC]; omega
                · rw [if_neg e2]; simp only [suOf, if_neg (show ¬ i = j from fun x => e2 x.symm)]
                  show (gat b j).su = _; omega
              · rw [gat_putG (b := { b with ks := b.ks ++ [⟨nm, i, 0, un⟩] }) hi]
                show _ = snOf j (b.ks ++ [⟨nm, i, 0, un⟩])
                rw [snOf_app]
                have := h.sn j (by simpa [putG] using hj)
                by_cases e2 : j = i
                · subst e2; simp [snOf]; omega
                · rw [if_neg e2]; simp only [snOf, if_neg (show ¬ (i = j ∧ (0 : Int) ≠ 2) from fun x => e2 x.1.symm)]
                  show (gat b j).sn = _; omega
theorem inv2_use {b : BkM} (h : Inv2 b) (nm : ByteArray) (un a : Int) : Inv2 (useR b nm un a).2 := by
  unfold useR
  cases hf : findK b nm with
  | none => exact h
  | some j =>
    have hj := (findK_some hf).1
    simp only
    split
    · exact h
    · split
      · exact h
      · split
        · rename_i c d e; exact inv2_rel h hj (by simp only [ne_eq, Decidable.not_not] at d; omega)
        · split
          · exact h
          · rename_i c d e f
            exact inv2_set h hj (by simp only [ne_eq, Decidable.not_not] at d; omega) (.inr rfl) (by omega) (by omega)
theorem inv2_return {b : BkM} (h : Inv2 b) (nm : ByteArray) (un : Int) : Inv2 (returnR b nm un).2 := by
  unfold returnR
  cases hf : findK b nm with
  | none => exact h
  | some j =>
    have hj := (findK_some hf).1
    simp only
    split
    · exact h
    · split
      · exact h
      · split
        · exact h
        · rename_i c d e
          exact inv2_set h hj (by simp only [ne_eq, Decidable.not_not] at d; omega) (.inr rfl) (by omega) (by omega)
theorem inv2_release {b : BkM} (h : Inv2 b) (nm : ByteArray) : Inv2 (releaseR b nm).2 := by
  unfold releaseR
  cases hf : findK b nm with
  | none => exact h
  | some j =>
    have hj := (findK_some hf).1
    simp only
    split
    · exact h
    · rename_i d; exact inv2_rel h hj (by simp only [ne_eq, Decidable.not_not] at d; omega)
/-- A step. -/
structure StepM where
  k : Int
  l : LicM
  id : ByteArray
  key : ByteArray
  un : Int
  us : Int
  a : Int
instance : Inhabited StepM := ⟨⟨0, default, ByteArray.empty, ByteArray.empty, 0, 0, 0⟩⟩
def doR (b : BkM) (x : StepM) : Int × BkM :=
  if x.k = 0 then grantR b x.l else if x.k = 1 then revokeR b x.id x.a else if x.k = 2 then amendR b x.id x.un x.us x.a else if x.k = 3 then splitR b x.id x.key x.un x.us
  else if x.k = 4 then reserveR b x.id x.key x.un x.a else if x.k = 5 then useR b x.key x.un x.a else if x.k = 6 then returnR b x.key x.un else releaseR b x.key
theorem inv2_do {b : BkM} (h : Inv2 b) (x : StepM) : Inv2 (doR b x).2 := by
  unfold doR
  split
  · exact inv2_grant h _
  split
  · exact inv2_revoke h _ _
  split
  · exact inv2_amend h _ _ _ _
  split
  · exact inv2_split h _ _ _ _
  split
  · exact inv2_reserve h _ _ _ _
  split
  · exact inv2_use h _ _ _
  split
  · exact inv2_return h _ _
  exact inv2_release h _
def sz60 (s : ByteArray) : Bool := decide (s.size ≤ 60)
def short (l : LicM) : Bool := sz60 l.id && decide (l.ms.length ≤ 14) && decide (l.ps.length ≤ 14) && l.ms.all sz60 && l.ps.all sz60
def fewX (x : StepM) : Bool := short x.l && sz60 x.id && sz60 x.key
def fewB (l : List StepM) : Bool := decide (l.length ≤ 25) && l.all fewX
theorem all_take {α : Type} (p : α → Bool) {l : List α} {k : Nat} (h : k < l.length) : (l.take (k + 1)).all p = ((l.take k).all p && p l[k]) := by
  rw [List.take_succ_eq_append_getElem h, List.all_append]; simp
theorem all_no {α : Type} {p : α → Bool} {l : List α} {k : Nat} (h : k < l.length) (hp : p l[k] = false) : l.all p = false := by
  rw [List.all_eq_false]; exact ⟨l[k], List.getElem_mem h, by simp [hp]⟩
def playM (l : List StepM) : BkM := l.foldl (fun b x => (doR b x).2) newM
theorem inv2_play (l : List StepM) : Inv2 (playM l) := by
  unfold playM
  suffices h : ∀ (l : List StepM) b, Inv2 b → Inv2 (l.foldl (fun b x => (doR b x).2) b) from h l _ inv2_new
  intro l
  induction l with
  | nil => exact fun b h => h
  | cons x l ih => exact fun b h => ih _ (inv2_do h x)
theorem play_take {l : List StepM} {k : Nat} (h : k < l.length) : playM (l.take (k + 1)) = (doR (playM (l.take k)) l[k]).2 := by
  unfold playM; rw [List.take_succ_eq_append_getElem h, List.foldl_append]; rfl
end Go.CH.Lic
namespace Go.Proofs.Ytapabbpdfplpoaa
open Go.RowKit Go.CH Go.CH.Lic
open Go.ChangeMaps (setBlock)

/-- A law's walk that began in w0 has the book b at p, and owns X besides. -/
structure BSt (w0 : World) (X : Own) (p : Nat) (b : BkM) (W : World) : Prop where
  run : Run (fun _ => False) w0 (star (BkO b p) X) W
  xok : X.Ok
  inv : Inv2 b
def BRet (w0 : World) (X : Own) (p : Nat) (b : BkM) (v : Value) (e : Ending) (W : World) : Prop := e = .returned v ∧ BSt w0 X p b W
section
variable {w0 W W' : World} {X : Own} {p : Nat} {b : BkM}
theorem BSt.bel (h : BSt w0 X p b W) : Below w0.heap.size w0 W := h.run.bel
theorem BSt.below (h : BSt w0 X p b W) (hb : Below W.heap.size W W') : BSt w0 X p b W' := ⟨h.run.below (star_ok bkO_ok h.xok) hb, h.xok, h.inv⟩
theorem BSt.drew (h : BSt w0 X p b W) : BSt w0 X p b W.drew := h.below (below_drew (Below.refl _ _))
theorem st_of (h : BSt w0 X p b W) {b' : BkM} (hI : Inv2 b') {fn : FuncId} {args : Array Value} {v : Value} (K : ∀ F, BkO b p W F → Calls Try.prog fn args W (BPost W F v b' p)) :
    Calls Try.prog fn args W (BRet w0 X p b' v) := by
  obtain ⟨F, hB, -, back⟩ := h.run.take bkO_ok h.xok
  refine (K F hB).mono ?_
  rintro e w' ⟨rfl, hp⟩
  exact ⟨rfl, back _ _ hp, h.xok, hI⟩
theorem st_grant (h : BSt w0 X p b W) {l : LicM} {A B : Option Addr} {c d : Nat} (hl : LicAt W l A c B d) : Calls Try.prog 38 #[gptr p, licV l A c B d] W (BRet w0 X p (grantR b l).2 (.int .i64 (grantR b l).1)) :=
  st_of h (inv2_grant h.inv l) fun F hB => grant_any hB hl
theorem st_revoke (h : BSt w0 X p b W) (id : ByteArray) (a : Int) : Calls Try.prog 54 #[gptr p, .string id, .int .i64 a] W (BRet w0 X p (revokeR b id a).2 (.int .i64 (revokeR b id a).1)) :=
  st_of h (inv2_revoke h.inv id a) fun F hB => revoke_any hB id a
theorem st_amend (h : BSt w0 X p b W) (id : ByteArray) (q u t : Int) : Calls Try.prog 55 #[gptr p, .string id, .int .i64 q, .int .i64 u, .int .i64 t] W (BRet w0 X p (amendR b id q u t).2 (.int .i64 (amendR b id q u t).1)) :=
  st_of h (inv2_amend h.inv id q u t) fun F hB => amend_any hB h.inv.inv id q u t
theorem st_split (h : BSt w0 X p b W) (id into : ByteArray) (q u : Int) (hs : into.size ≤ maxLen) : Calls Try.prog 56 #[gptr p, .string id, .string into, .int .i64 q, .int .i64 u] W (BRet w0 X p (splitR b id into q u).2 (.int .i64 (splitR b id into q u).1)) :=
  st_of h (inv2_split h.inv id into q u) fun F hB => split_any hB h.inv.inv id into q u hs
theorem st_reserve (h : BSt w0 X p b W) (id nm : ByteArray) (un a : Int) (hs : nm.size ≤ maxLen) : Calls Try.prog 40 #[gptr p, .string id, .string nm, .int .i64 un, .int .i64 a] W (BRet w0 X p (reserveR b id nm un a).2 (.int .i64 (reserveR b id nm un a).1)) :=
  st_of h (inv2_reserve h.inv id nm un a) fun F hB => reserve_any hB h.inv.inv id nm un a hs
theorem st_use (h : BSt w0 X p b W) (nm : ByteArray) (un a : Int) : Calls Try.prog 41 #[gptr p, .string nm, .int .i64 un, .int .i64 a] W (BRet w0 X p (useR b nm un a).2 (.int .i64 (useR b nm un a).1)) :=
  st_of h (inv2_use h.inv nm un a) fun F hB => use_any hB h.inv.inv nm un a
theorem st_return (h : BSt w0 X p b W) (nm : ByteArray) (un : Int) : Calls Try.prog 42 #[gptr p, .string nm, .int .i64 un] W (BRet w0 X p (returnR b nm un).2 (.int .i64 (returnR b nm un).1)) :=
  st_of h (inv2_return h.inv nm un) fun F hB => return_any hB h.inv.inv nm un
theorem st_release (h : BSt w0 X p b W) (nm : ByteArray) : Calls Try.prog 57 #[gptr p, .string nm] W (BRet w0 X p (releaseR b nm).2 (.int .i64 (releaseR b nm).1)) :=
  st_of h (inv2_release h.inv nm) fun F hB => release_any hB h.inv.inv nm
theorem st_left (h : BSt w0 X p b W) (id : ByteArray) (a : Int) : Calls Try.prog 43 #[gptr p, .string id, .int .i64 a] W (BRet w0 X p b (leftV (leftR b id a))) := by
  obtain ⟨F, hB⟩ := h.run.fst
  refine (bookleft_any hB h.inv.inv id a).mono ?_
  rintro e w' ⟨rfl, hb⟩
  exact ⟨rfl, h.below hb⟩
def BList (w0 : World) (X : Own) (p : Nat) (b : BkM) (e : Ending) (W : World) : Prop := ∃ A c zs, e = .returned (.slice A zs.length c) ∧ zs.map ZL.l = b.gs.map (·.l) ∧ BSt w0 (star (ARow lcl low 56 7 (.slice A zs.length c) zs) X) p b W
theorem st_list (h : BSt w0 X p b W) : Calls Try.prog 48 #[gptr p] W (BList w0 X p b) := by
  obtain ⟨F, hB⟩ := h.run.fst
  refine (list_any hB h.inv.inv).mono ?_
  rintro e w' ⟨A, c, zs, rfl, hm, hp⟩
  exact ⟨A, c, zs, rfl, hm, (h.run.fresh (star_ok bkO_ok h.xok) hp).rot, star_ok (arow_ok low_ok) h.xok, h.inv⟩
def BNew (w0 : World) (X : Own) (e : Ending) (W : World) : Prop := ∃ p, e = .returned (gptr p) ∧ BSt w0 X p newM W
theorem st_new {w0 W : World} {X : Own} (h : Run (fun _ => False) w0 X W) (hx : X.Ok) : Calls Try.prog 37 #[] W (BNew w0 X) := by
  refine (newb_any W).mono ?_
  rintro e w' ⟨p, rfl, hp⟩
  exact ⟨p, rfl, h.fresh hx hp, hx, inv2_new⟩
end
def l1S : ByteArray := ⟨#[108, 49]⟩
set_option maxRecDepth 100000 in
set_option maxHeartbeats 1600000 in
theorem left35_any {w0 W : World} {X : Own} {p : Nat} {b : BkM} (h : BSt w0 X p b W) (un us : Int) :
    Calls Try.prog 83 #[gptr p, .int .i64 un, .int .i64 us] W (BRet w0 X p b (.bool (decide (leftR b l1S 5 = (un, us, 0))))) := by
  have K := hide (st_left h l1S 5)
  obtain ⟨x, y, z, hr⟩ : ∃ x y z, leftR b l1S 5 = (x, y, z) := ⟨_, _, _, rfl⟩
  rw [hr] at K ⊢
  clear hr h
  unfold leftV gptr l1S at *
  by_cases hz : z = 0
  · subst hz
    by_cases hx : x = un
    · subst hx
      by_cases hy : y = us
      · subst hy
        go_enter Try.func83, Try.ntmps83
        go_wp2_with fail
        refine K.out.mono ?_
        rintro e W' ⟨rfl, hS⟩
        have HS := hide (hS.below ((Below.refl _ _).alloc (Nat.le_refl _) (.cells #[.int .i64 x, .int .i64 y] 66)))
        clear hS
        go_wp2
        go_ret
        exact ⟨by simp, HS.out⟩
      · have hv := hide (show decide ((x, y, (0 : Int)) = (x, us, 0)) = false from decide_eq_false (fun e => hy (by injection e with _ e; injection e)))
        go_enter Try.func83, Try.ntmps83
        go_wp2_with fail
        refine K.out.mono ?_
        rintro e W' ⟨rfl, hS⟩
        have HS := hide (hS.below ((Below.refl _ _).alloc (Nat.le_refl _) (.cells #[.int .i64 x, .int .i64 y] 66)))
        clear hS
        go_wp2
        go_ret
        exact ⟨by rw [hv.out]; rfl, HS.out⟩
    · have hv := hide (show decide ((x, y, (0 : Int)) = (un, us, 0)) = false from decide_eq_false (fun e => hx (by injection e)))
      go_enter Try.func83, Try.ntmps83
      go_wp2_with fail
      refine K.out.mono ?_
      rintro e W' ⟨rfl, hS⟩
      have HS := hide (hS.below ((Below.refl _ _).alloc (Nat.le_refl _) (.cells #[.int .i64 x, .int .i64 y] 66)))
      clear hS
      go_wp2
      go_ret
      exact ⟨by rw [hv.out]; rfl, HS.out⟩
  · have hz1 : (z == 0) = false := by simpa using hz
    go_enter Try.func83, Try.ntmps83
    go_wp2_with fail
    refine K.out.mono ?_
    rintro e W' ⟨rfl, hS⟩
    have HS := hide (hS.below ((Below.refl _ _).alloc (Nat.le_refl _) (.cells #[.int .i64 x, .int .i64 y] 66)))
    clear hS
    go_wp2
    go_ret
    exact ⟨by rw [decide_eq_false (fun e => hz (by injection e with _ e; injection e))]; rfl, HS.out⟩
end Go.Proofs.Ytapabbpdfplpoaa
namespace Go.Proofs.Ytapabbpdfplpoaa
open Go.RowKit Go.CH Go.CH.Lic
open Go.ChangeMaps (setBlock)

def stepL (x : StepM) (A : Option Addr) (c : Nat) (B : Option Addr) (d : Nat) : List Value := [.int .i64 x.k, .string x.l.id, .slice A x.l.ms.length c, .slice B x.l.ps.length d, .int .i64 x.l.q, .int .i64 x.l.u, .int .i64 x.l.f, .int .i64 x.l.t, .string x.id, .string x.key, .int .i64 x.un, .int .i64 x.us, .int .i64 x.a]
def stepV (x : StepM) (A : Option Addr) (c : Nat) (B : Option Addr) (d : Nat) : Value := .agg #[.int .i64 x.k, .string x.l.id, .slice A x.l.ms.length c, .slice B x.l.ps.length d, .int .i64 x.l.q, .int .i64 x.l.u, .int .i64 x.l.f, .int .i64 x.l.t, .string x.id, .string x.key, .int .i64 x.un, .int .i64 x.us, .int .i64 x.a]
def sbox (x : StepM) (A : Option Addr) (c : Nat) (B : Option Addr) (d : Nat) : Obj := .cells #[.int .i64 x.k, .string x.l.id, .slice A x.l.ms.length c, .slice B x.l.ps.length d, .int .i64 x.l.q, .int .i64 x.l.u, .int .i64 x.l.f, .int .i64 x.l.t, .string x.id, .string x.key, .int .i64 x.un, .int .i64 x.us, .int .i64 x.a] 80
theorem sbox_below (w : World) (x : StepM) (A : Option Addr) (c : Nat) (B : Option Addr) (d : Nat) : Below w.heap.size w (w.alloc (sbox x A c B d)) := (Below.refl _ _).alloc (Nat.le_refl _) _
section
variable {w0 W : World} {X : Own} {p : Nat} {b : BkM}

set_option maxRecDepth 100000 in
set_option maxHeartbeats 1600000 in
theorem do_0 (h : BSt w0 X p b W) (x : StepM) {A B : Option Addr} {c d : Nat} (hl : LicAt W x.l A c B d) (hk : x.key.size ≤ maxLen) (hx : x.k = 0) :
    Calls Try.prog 46 #[gptr p, stepV x A c B d] W (BRet w0 X p (grantR b x.l).2 (.int .i64 (grantR b x.l).1)) := by
  have h1 := h.below (sbox_below W x A c B d)
  have hl1 := hl.keep (sbox_below W x A c B d)
  have K := hide (st_grant h1 hl1)
  clear h h1 hl hl1
  unfold sbox gptr at K
  unfold licV at K
  unfold stepV gptr
  obtain ⟨r, hr⟩ : ∃ r, r = grantR b x.l := ⟨_, rfl⟩
  rw [← hr] at K ⊢
  clear hr
  rw [hx] at K ⊢
  clear hx
  go_enter Try.func46, Try.ntmps46
  go_wp2_with fail
  refine K.out.mono ?_
  rintro e W' ⟨rfl, hS⟩
  have HS := hide hS
  clear hS
  go_wp2
  go_ret
  exact ⟨rfl, HS.out⟩
set_option maxRecDepth 100000 in
set_option maxHeartbeats 1600000 in
theorem do_1 (h : BSt w0 X p b W) (x : StepM) {A B : Option Addr} {c d : Nat} (hl : LicAt W x.l A c B d) (hk : x.key.size ≤ maxLen) (hx : x.k = 1) :
    Calls Try.prog 46 #[gptr p, stepV x A c B d] W (BRet w0 X p (revokeR b x.id x.a).2 (.int .i64 (revokeR b x.id x.a).1)) := by
  have h1 := h.below (sbox_below W x A c B d)
  have hl1 := hl.keep (sbox_below W x A c B d)
  have K := hide (st_revoke h1 x.id x.a)
  clear h h1 hl hl1
  unfold sbox gptr at K
  unfold stepV gptr
  obtain ⟨r, hr⟩ : ∃ r, r = revokeR b x.id x.a := ⟨_, rfl⟩
  rw [← hr] at K ⊢
  clear hr
  rw [hx] at K ⊢
  clear hx
  go_enter Try.func46, Try.ntmps46
  go_wp2_with fail
  refine K.out.mono ?_
  rintro e W' ⟨rfl, hS⟩
  have HS := hide hS
  clear hS
  go_wp2
  go_ret
  exact ⟨rfl, HS.out⟩
set_option maxRecDepth 100000 in
set_option maxHeartbeats 1600000 in
theorem do_2 (h : BSt w0 X p b W) (x : StepM) {A B : Option Addr} {c d : Nat} (hl : LicAt W x.l A c B d) (hk : x.key.size ≤ maxLen) (hx : x.k = 2) :
    Calls Try.prog 46 #[gptr p, stepV x A c B d] W (BRet w0 X p (amendR b x.id x.un x.us x.a).2 (.int .i64 (amendR b x.id x.un x.us x.a).1)) := by
  have h1 := h.below (sbox_below W x A c B d)
  have hl1 := hl.keep (sbox_below W x A c B d)
  have K := hide (st_amend h1 x.id x.un x.us x.a)
  clear h h1 hl hl1
  unfold sbox gptr at K
  unfold stepV gptr
  obtain ⟨r, hr⟩ : ∃ r, r = amendR b x.id x.un x.us x.a := ⟨_, rfl⟩
  rw [← hr] at K ⊢
  clear hr
  rw [hx] at K ⊢
  clear hx
  go_enter Try.func46, Try.ntmps46
  go_wp2_with fail
  refine K.out.mono ?_
  rintro e W' ⟨rfl, hS⟩
  have HS := hide hS
  clear hS
  go_wp2
  go_ret
  exact ⟨rfl, HS.out⟩
set_option maxRecDepth 100000 in
set_option maxHeartbeats 1600000 in
theorem do_3 (h : BSt w0 X p b W) (x : StepM) {A B : Option Addr} {c d : Nat} (hl : LicAt W x.l A c B d) (hk : x.key.size ≤ maxLen) (hx : x.k = 3) :
    Calls Try.prog 46 #[gptr p, stepV x A c B d] W (BRet w0 X p (splitR b x.id x.key x.un x.us).2 (.int .i64 (splitR b x.id x.key x.un x.us).1)) := by
  have h1 := h.below (sbox_below W x A c B d)
  have hl1 := hl.keep (sbox_below W x A c B d)
  have K := hide (st_split h1 x.id x.key x.un x.us hk)
  clear h h1 hl hl1
  unfold sbox gptr at K
  unfold stepV gptr
  obtain ⟨r, hr⟩ : ∃ r, r = splitR b x.id x.key x.un x.us := ⟨_, rfl⟩
  rw [← hr] at K ⊢
  clear hr
  rw [hx] at K ⊢
  clear hx
  go_enter Try.func46, Try.ntmps46
  go_wp2_with fail
  refine K.out.mono ?_
  rintro e W' ⟨rfl, hS⟩
  have HS := hide hS
  clear hS
  go_wp2
  go_ret
  exact ⟨rfl, HS.out⟩
set_option maxRecDepth 100000 in
set_option maxHeartbeats 1600000 in
theorem do_4 (h : BSt w0 X p b W) (x : StepM) {A B : Option Addr} {c d : Nat} (hl : LicAt W x.l A c B d) (hk : x.key.size ≤ maxLen) (hx : x.k = 4) :
    Calls Try.prog 46 #[gptr p, stepV x A c B d] W (BRet w0 X p (reserveR b x.id x.key x.un x.a).2 (.int .i64 (reserveR b x.id x.key x.un x.a).1)) := by
  have h1 := h.below (sbox_below W x A c B d)
  have hl1 := hl.keep (sbox_below W x A c B d)
  have K := hide (st_reserve h1 x.id x.key x.un x.a hk)
  clear h h1 hl hl1
  unfold sbox gptr at K
  unfold stepV gptr
  obtain ⟨r, hr⟩ : ∃ r, r = reserveR b x.id x.key x.un x.a := ⟨_, rfl⟩
  rw [← hr] at K ⊢
  clear hr
  rw [hx] at K ⊢
  clear hx
  go_enter Try.func46, Try.ntmps46
  go_wp2_with fail
  refine K.out.mono ?_
  rintro e W' ⟨rfl, hS⟩
  have HS := hide hS
  clear hS
  go_wp2
  go_ret
  exact ⟨rfl, HS.out⟩
set_option maxRecDepth 100000 in
set_option maxHeartbeats 1600000 in
theorem do_5 (h : BSt w0 X p b W) (x : StepM) {A B : Option Addr} {c d : Nat} (hl : LicAt W x.l A c B d) (hk : x.key.size ≤ maxLen) (hx : x.k = 5) :
    Calls Try.prog 46 #[gptr p, stepV x A c B d] W (BRet w0 X p (useR b x.key x.un x.a).2 (.int .i64 (useR b x.key x.un x.a).1)) := by
  have h1 := h.below (sbox_below W x A c B d)
  have hl1 := hl.keep (sbox_below W x A c B d)
  have K := hide (st_use h1 x.key x.un x.a)
  clear h h1 hl hl1
  unfold sbox gptr at K
  unfold stepV gptr
  obtain ⟨r, hr⟩ : ∃ r, r = useR b x.key x.un x.a := ⟨_, rfl⟩
  rw [← hr] at K ⊢
  clear hr
  rw [hx] at K ⊢
  clear hx
  go_enter Try.func46, Try.ntmps46
  go_wp2_with fail
  refine K.out.mono ?_
  rintro e W' ⟨rfl, hS⟩
  have HS := hide hS
  clear hS
  go_wp2
  go_ret
  exact ⟨rfl, HS.out⟩
set_option maxRecDepth 100000 in
set_option maxHeartbeats 1600000 in
theorem do_6 (h : BSt w0 X p b W) (x : StepM) {A B : Option Addr} {c d : Nat} (hl : LicAt W x.l A c B d) (hk : x.key.size ≤ maxLen) (hx : x.k = 6) :
    Calls Try.prog 46 #[gptr p, stepV x A c B d] W (BRet w0 X p (returnR b x.key x.un).2 (.int .i64 (returnR b x.key x.un).1)) := by
  have h1 := h.below (sbox_below W x A c B d)
  have hl1 := hl.keep (sbox_below W x A c B d)
  have K := hide (st_return h1 x.key x.un)
  clear h h1 hl hl1
  unfold sbox gptr at K
  unfold stepV gptr
  obtain ⟨r, hr⟩ : ∃ r, r = returnR b x.key x.un := ⟨_, rfl⟩
  rw [← hr] at K ⊢
  clear hr
  rw [hx] at K ⊢
  clear hx
  go_enter Try.func46, Try.ntmps46
  go_wp2_with fail
  refine K.out.mono ?_
  rintro e W' ⟨rfl, hS⟩
  have HS := hide hS
  clear hS
  go_wp2
  go_ret
  exact ⟨rfl, HS.out⟩
set_option maxRecDepth 100000 in
set_option maxHeartbeats 1600000 in
theorem do_7 (h : BSt w0 X p b W) (x : StepM) {A B : Option Addr} {c d : Nat} (hl : LicAt W x.l A c B d) (hk : x.key.size ≤ maxLen) (hx0 : ¬ x.k = 0) (hx1 : ¬ x.k = 1) (hx2 : ¬ x.k = 2) (hx3 : ¬ x.k = 3) (hx4 : ¬ x.k = 4) (hx5 : ¬ x.k = 5) (hx6 : ¬ x.k = 6) :
    Calls Try.prog 46 #[gptr p, stepV x A c B d] W (BRet w0 X p (releaseR b x.key).2 (.int .i64 (releaseR b x.key).1)) := by
  have h1 := h.below (sbox_below W x A c B d)
  have hl1 := hl.keep (sbox_below W x A c B d)
  have K := hide (st_release h1 x.key)
  clear h h1 hl hl1
  unfold sbox gptr at K
  unfold stepV gptr
  obtain ⟨r, hr⟩ : ∃ r, r = releaseR b x.key := ⟨_, rfl⟩
  rw [← hr] at K ⊢
  clear hr
  have b0 : (x.k == 0) = false := by simpa using hx0
  have b1 : (x.k == 1) = false := by simpa using hx1
  have b2 : (x.k == 2) = false := by simpa using hx2
  have b3 : (x.k == 3) = false := by simpa using hx3
  have b4 : (x.k == 4) = false := by simpa using hx4
  have b5 : (x.k == 5) = false := by simpa using hx5
  have b6 : (x.k == 6) = false := by simpa using hx6
  clear hx0 hx1 hx2 hx3 hx4 hx5 hx6
  generalize x.k = xk at *
  go_enter Try.func46, Try.ntmps46
  go_wp2_with fail
  refine K.out.mono ?_
  rintro e W' ⟨rfl, hS⟩
  have HS := hide hS
  clear hS
  go_wp2
  go_ret
  exact ⟨rfl, HS.out⟩
theorem st_do (h : BSt w0 X p b W) (x : StepM) {A B : Option Addr} {c d : Nat} (hl : LicAt W x.l A c B d) (hk : x.key.size ≤ maxLen) :
    Calls Try.prog 46 #[gptr p, stepV x A c B d] W (BRet w0 X p (doR b x).2 (.int .i64 (doR b x).1)) := by
  unfold doR
  by_cases hx0 : x.k = 0
  · simp only [if_pos hx0]
    exact do_0 h x hl hk hx0
  by_cases hx1 : x.k = 1
  · simp only [if_neg hx0, if_pos hx1]
    exact do_1 h x hl hk hx1
  by_cases hx2 : x.k = 2
  · simp only [if_neg hx0, if_neg hx1, if_pos hx2]
    exact do_2 h x hl hk hx2
  by_cases hx3 : x.k = 3
  · simp only [if_neg hx0, if_neg hx1, if_neg hx2, if_pos hx3]
    exact do_3 h x hl hk hx3
  by_cases hx4 : x.k = 4
  · simp only [if_neg hx0, if_neg hx1, if_neg hx2, if_neg hx3, if_pos hx4]
    exact do_4 h x hl hk hx4
  by_cases hx5 : x.k = 5
  · simp only [if_neg hx0, if_neg hx1, if_neg hx2, if_neg hx3, if_neg hx4, if_pos hx5]
    exact do_5 h x hl hk hx5
  by_cases hx6 : x.k = 6
  · simp only [if_neg hx0, if_neg hx1, if_neg hx2, if_neg hx3, if_neg hx4, if_neg hx5, if_pos hx6]
    exact do_6 h x hl hk hx6
  simp only [if_neg hx0, if_neg hx1, if_neg hx2, if_neg hx3, if_neg hx4, if_neg hx5, if_neg hx6]
  exact do_7 h x hl hk hx0 hx1 hx2 hx3 hx4 hx5 hx6
end
end Go.Proofs.Ytapabbpdfplpoaa
namespace Go.Proofs.Ytapabbpdfplpoaa
open Go.RowKit Go.CH Go.CH.Lic
open Go.ChangeMaps (setBlock)
def k1S : ByteArray := ⟨#[107, 49]⟩
def k2S : ByteArray := ⟨#[107, 50]⟩
def k3S : ByteArray := ⟨#[107, 51]⟩
def l2S : ByteArray := ⟨#[108, 50]⟩
def mS : ByteArray := ⟨#[109]⟩
def lic1 : LicM := ⟨l1S, [mS], [], 100, 3, 0, 1000⟩
def hb1 : BkM := (grantR newM lic1).2
def hb2 : BkM := (reserveR hb1 l1S k1S 60 1).2
def hb3 : BkM := (reserveR hb2 l1S k2S 50 1).2
def hb4 : BkM := (useR hb3 k1S 45 2).2
def hb5 : BkM := (returnR hb4 k1S 5).2
def hb6 : BkM := (splitR hb5 l1S l2S 20 1).2
def hb7 : BkM := (revokeR hb6 l1S 7).2
def hb8 : BkM := (reserveR hb7 l1S k3S 1 7).2
theorem he1 : (grantR newM lic1).1 = 0 := by kernel_rfl
theorem he2 : (reserveR hb1 l1S k1S 60 1).1 = 0 := by kernel_rfl
theorem he3 : (reserveR hb2 l1S k2S 50 1).1 = 19 := by kernel_rfl
theorem he4 : (useR hb3 k1S 45 2).1 = 0 := by kernel_rfl
theorem he5 : (returnR hb4 k1S 5).1 = 0 := by kernel_rfl
theorem he6 : (splitR hb5 l1S l2S 20 1).1 = 0 := by kernel_rfl
theorem he7 : (revokeR hb6 l1S 7).1 = 0 := by kernel_rfl
theorem he8 : (reserveR hb7 l1S k3S 1 7).1 = 12 := by kernel_rfl
theorem hl2 : decide (leftR hb2 l1S 5 = (40, 2, 0)) = true := by kernel_rfl
theorem hl4 : decide (leftR hb4 l1S 5 = (55, 2, 0)) = true := by kernel_rfl
theorem hl5 : decide (leftR hb5 l1S 5 = (60, 2, 0)) = true := by kernel_rfl
theorem hl6 : decide (leftR hb6 l1S 5 = (40, 1, 0)) = true := by kernel_rfl
theorem hl8 : decide (leftR hb8 l1S 5 = (40, 1, 0)) = true := by kernel_rfl
theorem hn8 : hb8.gs.length = 2 := by kernel_rfl
def N1 : ByteArray := ⟨#[108, 49]⟩
theorem licAt1 (W : World) : LicAt (W.alloc (.cells #[.string ⟨#[109]⟩] 9)) lic1 (some ⟨W.heap.size, 0, none⟩) 1 none 0 := by
  refine ⟨⟨by decide, Src.one (heap_alloc_new W _) rfl, Src.none_, fun s hs => ?_, (fun s hs => by cases hs), by decide, by decide⟩, (fun h => by cases h), fun _ => ⟨rfl, rfl⟩⟩
  simp [lic1] at hs; subst hs; decide
set_option maxRecDepth 100000 in
set_option maxHeartbeats 3200000 in
theorem head35_any (w : World) : Calls Try.prog 44 #[] w (BelowRet w (.bool true)) := by
  have K0 := hide (st_new (Run.begin w) emp_ok)
  go_enter Try.func44, Try.ntmps44
  go_wp2_with fail
  refine K0.out.mono ?_
  rintro e w1 ⟨p, rfl, hS⟩
  clear K0
  have S1 := hide (hS.below ((Below.refl _ _).alloc (Nat.le_refl _) (.cells #[.string ⟨#[109]⟩] 9)))
  clear hS
  have K1 : Hid (Calls Try.prog 38 #[.pointer (some ⟨p, 0, none⟩), .agg #[.string ⟨#[108, 49]⟩, .slice (some ⟨w1.heap.size, 0, none⟩) 1 1, .slice none 0 0, .int .i64 100, .int .i64 3, .int .i64 0, .int .i64 1000]] _ (BRet w emp p hb1 (.int .i64 0))) := hide (by
    have K := st_grant S1.out (licAt1 w1)
    rw [he1] at K
    exact K)
  clear S1
  unfold gptr
  go_wp2_with fail
  refine K1.out.mono ?_
  rintro e w2 ⟨rfl, hS2⟩
  clear K1

  have K : Hid (Calls Try.prog 40 #[.pointer (some ⟨p, 0, none⟩), .string ⟨#[108, 49]⟩, .string ⟨#[107, 49]⟩, .int .i64 60, .int .i64 1] w2 (BRet w emp p hb2 (.int .i64 0))) := hide (by
    have K := st_reserve hS2 l1S k1S 60 1 (by decide)
    rw [he2] at K
    exact K)
  clear hS2
  go_wp2_with fail
  refine K.out.mono ?_
  rintro e w3 ⟨rfl, hS3⟩
  clear K
  have K : Hid (Calls Try.prog 83 #[.pointer (some ⟨p, 0, none⟩), .int .i64 40, .int .i64 2] w3 (BRet w emp p hb2 (.bool true))) := hide (by
    have K := left35_any hS3 40 2
    rw [hl2] at K
    exact K)
  clear hS3
  go_wp2_with fail
  refine K.out.mono ?_
  rintro e w4 ⟨rfl, hS4⟩
  clear K
  have K : Hid (Calls Try.prog 40 #[.pointer (some ⟨p, 0, none⟩), .string ⟨#[108, 49]⟩, .string ⟨#[107, 50]⟩, .int .i64 50, .int .i64 1] w4 (BRet w emp p hb3 (.int .i64 19))) := hide (by
    have K := st_reserve hS4 l1S k2S 50 1 (by decide)
    rw [he3] at K
    exact K)
  clear hS4
  go_wp2_with fail
  refine K.out.mono ?_
  rintro e w5 ⟨rfl, hS5⟩
  clear K
  have K : Hid (Calls Try.prog 41 #[.pointer (some ⟨p, 0, none⟩), .string ⟨#[107, 49]⟩, .int .i64 45, .int .i64 2] w5 (BRet w emp p hb4 (.int .i64 0))) := hide (by
    have K := st_use hS5 k1S 45 2
    rw [he4] at K
    exact K)
  clear hS5
  go_wp2_with fail
  refine K.out.mono ?_
  rintro e w6 ⟨rfl, hS6⟩
  clear K
  have K : Hid (Calls Try.prog 83 #[.pointer (some ⟨p, 0, none⟩), .int .i64 55, .int .i64 2] w6 (BRet w emp p hb4 (.bool true))) := hide (by
    have K := left35_any hS6 55 2
    rw [hl4] at K
    exact K)
  clear hS6
  go_wp2_with fail
  refine K.out.mono ?_
  rintro e w7 ⟨rfl, hS7⟩
  clear K
  have K : Hid (Calls Try.prog 42 #[.pointer (some ⟨p, 0, none⟩), .string ⟨#[107, 49]⟩, .int .i64 5] w7 (BRet w emp p hb5 (.int .i64 0))) := hide (by
    have K := st_return hS7 k1S 5
    rw [he5] at K
    exact K)
  clear hS7
  go_wp2_with fail
  refine K.out.mono ?_
  rintro e w8 ⟨rfl, hS8⟩
  clear K
  have K : Hid (Calls Try.prog 83 #[.pointer (some ⟨p, 0, none⟩), .int .i64 60, .int .i64 2] w8 (BRet w emp p hb5 (.bool true))) := hide (by
    have K := left35_any hS8 60 2
    rw [hl5] at K
    exact K)
  clear hS8
  go_wp2_with fail
  refine K.out.mono ?_
  rintro e w9 ⟨rfl, hS9⟩
  clear K
  have K : Hid (Calls Try.prog 56 #[.pointer (some ⟨p, 0, none⟩), .string ⟨#[108, 49]⟩, .string ⟨#[108, 50]⟩, .int .i64 20, .int .i64 1] w9 (BRet w emp p hb6 (.int .i64 0))) := hide (by
    have K := st_split hS9 l1S l2S 20 1 (by decide)
    rw [he6] at K
    exact K)
  clear hS9
  go_wp2_with fail
  refine K.out.mono ?_
  rintro e w10 ⟨rfl, hS10⟩
  clear K
  have K : Hid (Calls Try.prog 83 #[.pointer (some ⟨p, 0, none⟩), .int .i64 40, .int .i64 1] w10 (BRet w emp p hb6 (.bool true))) := hide (by
    have K := left35_any hS10 40 1
    rw [hl6] at K
    exact K)
  clear hS10
  go_wp2_with fail
  refine K.out.mono ?_
  rintro e w11 ⟨rfl, hS11⟩
  clear K
  have K : Hid (Calls Try.prog 54 #[.pointer (some ⟨p, 0, none⟩), .string ⟨#[108, 49]⟩, .int .i64 7] w11 (BRet w emp p hb7 (.int .i64 0))) := hide (by
    have K := st_revoke hS11 l1S 7
    rw [he7] at K
    exact K)
  clear hS11
  go_wp2_with fail
  refine K.out.mono ?_
  rintro e w12 ⟨rfl, hS12⟩
  clear K
  have K : Hid (Calls Try.prog 40 #[.pointer (some ⟨p, 0, none⟩), .string ⟨#[108, 49]⟩, .string ⟨#[107, 51]⟩, .int .i64 1, .int .i64 7] w12 (BRet w emp p hb8 (.int .i64 12))) := hide (by
    have K := st_reserve hS12 l1S k3S 1 7 (by decide)
    rw [he8] at K
    exact K)
  clear hS12
  go_wp2_with fail
  refine K.out.mono ?_
  rintro e w13 ⟨rfl, hS13⟩
  clear K
  have K : Hid (Calls Try.prog 83 #[.pointer (some ⟨p, 0, none⟩), .int .i64 40, .int .i64 1] w13 (BRet w emp p hb8 (.bool true))) := hide (by
    have K := left35_any hS13 40 1
    rw [hl8] at K
    exact K)
  clear hS13
  go_wp2_with fail
  refine K.out.mono ?_
  rintro e w14 ⟨rfl, hS14⟩
  clear K
  have K := hide (st_list hS14)
  clear hS14
  unfold gptr at K
  go_wp2_with fail
  refine K.out.mono ?_
  rintro e w99 ⟨A, c, zs, rfl, hm, hS99⟩
  have hlen : zs.length = 2 := by have := congrArg List.length hm; simpa [hn8] using this
  have HB := hide hS99.bel
  clear K hm hS99
  rw [hlen]
  clear hlen
  go_wp2
  go_ret
  exact ⟨rfl, HB.out⟩
end Go.Proofs.Ytapabbpdfplpoaa
namespace Go.Proofs.Ytapabbpdfplpoaa
open Go.RowKit Go.CH Go.CH.Lic
open Go.ChangeMaps (setBlock)

/-- A licence as it comes in, whatever its size. -/
structure LicRaw (w : World) (l : LicM) (A : Option Addr) (c : Nat) (B : Option Addr) (d : Nat) : Prop where
  id : l.id.size ≤ maxLen
  ms : Src w A l.ms.length 1 (strs l.ms)
  ps : Src w B l.ps.length 1 (strs l.ps)
  mz : ∀ s ∈ l.ms, s.size ≤ maxLen
  pz : ∀ s ∈ l.ps, s.size ≤ maxLen
  mn : l.ms.length ≤ maxLen
  pn : l.ps.length ≤ maxLen
  mc : A = none → c = 0 ∧ l.ms.length = 0
  pc : B = none → d = 0 ∧ l.ps.length = 0
theorem LicRaw.keep {w W : World} {l : LicM} {A B : Option Addr} {c d : Nat} (h : LicRaw w l A c B d) (hb : Below w.heap.size w W) : LicRaw W l A c B d :=
  ⟨h.id, ((Run.begin w).below emp_ok hb).src0 h.ms, ((Run.begin w).below emp_ok hb).src0 h.ps, h.mz, h.pz, h.mn, h.pn, h.mc, h.pc⟩
theorem LicRaw.at_ {w : World} {l : LicM} {A B : Option Addr} {c d : Nat} (h : LicRaw w l A c B d) (hs : short l = true) : LicAt w l A c B d := by
  unfold short at hs
  simp only [Bool.and_eq_true, decide_eq_true_eq] at hs
  exact ⟨⟨h.id, h.ms, h.ps, h.mz, h.pz, by omega, by omega⟩, h.mc, h.pc⟩
section
variable {w : World} {l : LicM} {A B : Option Addr} {c d : Nat}
theorem lic_box (w : World) (l : LicM) (A : Option Addr) (c : Nat) (B : Option Addr) (d : Nat) : Run (fun _ => False) w (CellO w.heap.size #[.string l.id, .slice A l.ms.length c, .slice B l.ps.length d, .int .i64 l.q, .int .i64 l.u, .int .i64 l.f, .int .i64 l.t] 56) (w.alloc (.cells #[.string l.id, .slice A l.ms.length c, .slice B l.ps.length d, .int .i64 l.q, .int .i64 l.u, .int .i64 l.f, .int .i64 l.t] 56)) :=
  ((Run.begin w).fresh emp_ok (cell_new w _ 56)).imp fun _ _ h => star_emp h
set_option maxHeartbeats 1600000 in
theorem short_0 (h : LicRaw w l A c B d) (t : 60 < l.id.size ∨ (¬ 60 < l.id.size ∧ 14 < l.ms.length) ∨ (¬ 60 < l.id.size ∧ ¬ 14 < l.ms.length ∧ 14 < l.ps.length)) : Calls Try.prog 101 #[licV l A c B d] w (BelowRet w (.bool false)) := by
  have hid := h.id
  have hmn := h.mn
  have hpn := h.pn
  unfold maxLen at hid hmn hpn
  obtain ⟨c0, c1, c2, c3, c4, c5, c6⟩ := box_reads (lic_box w l A c B d)
  have HB := hide (lic_box w l A c B d).bel
  unfold licV
  clear h
  generalize l.ms.length = n at *
  generalize l.ps.length = m at *
  generalize l.id = zi at *
  rcases t with t1 | ⟨t1, t2⟩ | ⟨t1, t2, t3⟩
  · go_enter Try.func101, Try.ntmps101
    go_wp2
    go_ret
    exact bel_bool rfl HB.out
  · go_enter Try.func101, Try.ntmps101
    go_wp2
    go_ret
    exact bel_bool rfl HB.out
  · go_enter Try.func101, Try.ntmps101
    go_wp2
    go_ret
    exact bel_bool rfl HB.out
set_option maxHeartbeats 1600000 in
theorem short_3 (h : LicRaw w l A c B d) (t1 : ¬ 60 < l.id.size) (t2 : ¬ 14 < l.ms.length) (t3 : ¬ 14 < l.ps.length) : Calls Try.prog 101 #[licV l A c B d] w (BelowRet w (.bool (l.ms.all sz60 && l.ps.all sz60))) := by
  have hid := h.id
  unfold maxLen at hid
  obtain ⟨c0, c1, c2, c3, c4, c5, c6⟩ := box_reads (lic_box w l A c B d)
  have HB := hide (lic_box w l A c B d).bel
  have HM := hide (((Run.begin w).below emp_ok HB.out).src0 h.ms)
  have HP := hide (((Run.begin w).below emp_ok HB.out).src0 h.ps)
  have HMZ := hide h.mz
  have HPZ := hide h.pz
  have HW := hide h
  unfold licV
  clear h
  generalize l.id = zi at *
  go_enter Try.func101, Try.ntmps101
  go_wp2
  go_loop [3] (fun i => ∃ k : Nat, k ≤ l.ms.length ∧ i = .int .i64 k ∧ (l.ms.take k).all sz60 = true) (fun i => l.ms.length - (intOf i).toNat)
  case atStart => exact ⟨0, Nat.zero_le _, rfl, by simp⟩
  case round =>
    obtain ⟨k, hk, rfl, hall⟩ := hrel
    by_cases hlt : k < l.ms.length
    · obtain ⟨bA, o, hA, hc⟩ := HM.out.open_ (by omega) (by omega)
      subst hA
      have a0 := hc k _ (strs_get hlt)
      have hsz := HMZ.out l.ms[k] (List.getElem_mem _)
      unfold maxLen at hsz
      have HS := hide (all_take sz60 hlt)
      have HNO := hide (fun h => all_no (p := sz60) hlt h)
      have HALL := hide hall
      clear hc hall
      by_cases hs : 60 < l.ms[k].size
      · have hno := hide (HNO.out (decide_eq_false (by omega)))
        generalize l.ms[k] = x at *
        go_wp2
        go_ret
        exact bel_bool (by rw [hno.out]; rfl) HB.out
      · have hyes := hide (show sz60 l.ms[k] = true from decide_eq_true (by omega))
        generalize l.ms[k] = x at *
        go_wp2
        go_round
        case rel => exact ⟨k + 1, by omega, by go_num, by rw [HS.out, HALL.out, hyes.out]; rfl⟩
        case measure => simp [intOf]; omega
    · have hks : k = l.ms.length := by omega
      rw [hks, List.take_length] at hall
      have HALL := hide (show (l.ms.all sz60 && l.ps.all sz60) = l.ps.all sz60 by rw [hall]; rfl)
      clear hall
      subst hks
      go_wp2
      go_loop [4] (fun i => ∃ k : Nat, k ≤ l.ps.length ∧ i = .int .i64 k ∧ (l.ps.take k).all sz60 = true) (fun i => l.ps.length - (intOf i).toNat)
      case atStart => exact ⟨0, Nat.zero_le _, rfl, by simp⟩
      case round =>
        obtain ⟨k, hk, rfl, hall⟩ := hrel
        by_cases hlt : k < l.ps.length
        · obtain ⟨bA, o, hA, hc⟩ := HP.out.open_ (by omega) (by omega)
          subst hA
          have a0 := hc k _ (strs_get hlt)
          have hsz := HPZ.out l.ps[k] (List.getElem_mem _)
          unfold maxLen at hsz
          have HS := hide (all_take sz60 hlt)
          have HNO := hide (fun h => all_no (p := sz60) hlt h)
          have HALL2 := hide hall
          clear hc hall
          by_cases hs : 60 < l.ps[k].size
          · have hno := hide (HNO.out (decide_eq_false (by omega)))
            generalize l.ps[k] = x at *
            go_wp2
            go_ret
            exact bel_bool (by rw [HALL.out, hno.out]) HB.out
          · have hyes := hide (show sz60 l.ps[k] = true from decide_eq_true (by omega))
            generalize l.ps[k] = x at *
            go_wp2
            go_round
            case rel => exact ⟨k + 1, by omega, by go_num, by rw [HS.out, HALL2.out, hyes.out]; rfl⟩
            case measure => simp [intOf]; omega
        · have hks : k = l.ps.length := by omega
          rw [hks, List.take_length] at hall
          have HALL2 := hide hall
          clear hall
          subst hks
          go_wp2
          go_ret
          exact bel_bool (by rw [HALL.out, HALL2.out]) HB.out
theorem short_any (h : LicRaw w l A c B d) : Calls Try.prog 101 #[licV l A c B d] w (BelowRet w (.bool (short l))) := by
  by_cases t1 : 60 < l.id.size
  · rw [show short l = false by simp [short, sz60, show ¬ l.id.size ≤ 60 by omega]]; exact short_0 h (.inl t1)
  by_cases t2 : 14 < l.ms.length
  · rw [show short l = false by simp [short, show ¬ l.ms.length ≤ 14 by omega]]; exact short_0 h (.inr (.inl ⟨t1, t2⟩))
  by_cases t3 : 14 < l.ps.length
  · rw [show short l = false by simp [short, show ¬ l.ps.length ≤ 14 by omega]]; exact short_0 h (.inr (.inr ⟨t1, t2, t3⟩))
  rw [show short l = (l.ms.all sz60 && l.ps.all sz60) by
    unfold short
    rw [show sz60 l.id = true from decide_eq_true (by omega), decide_eq_true (show l.ms.length ≤ 14 by omega), decide_eq_true (show l.ps.length ≤ 14 by omega)]; rfl]
  exact short_3 h t1 t2 t3
end
end Go.Proofs.Ytapabbpdfplpoaa
