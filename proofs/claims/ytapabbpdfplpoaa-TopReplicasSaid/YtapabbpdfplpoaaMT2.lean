/-
  Licence: what stays true of a book.
  Licence: the plain laws of Split and Revoke.
  Ownership: what a call's own memory holds and which blocks it takes; what a call may change, and that all else stays.
  A call that owns the blocks F0 from the start: what it owns now, and that nothing else has turned.
-/
import Derived.Test.YtapabbpdfplpoaaMT1
set_option linter.unusedSimpArgs false
set_option linter.unusedVariables false
namespace Go.CH.Lic

theorem putG_len (b : BkM) (i : Nat) (g : GrM) : (putG b i g).gs.length = b.gs.length := by simp [putG]
theorem putK_len (b : BkM) (j : Nat) (k : KeyM) : (putK b j k).ks.length = b.ks.length := by simp [putK]
theorem inv_putG {b : BkM} (h : Inv b) (i : Nat) (g : GrM) (hg : valid g.l = true ∧ 0 ≤ g.su ∧ g.su ≤ g.l.q ∧ 0 ≤ g.sn ∧ g.sn ≤ g.l.u ∧ -1 ≤ g.e ∧ g.e ≤ 144001439) : Inv (putG b i g) := by
  refine ⟨fun x hx => ?_, fun k hk => ?_, by rw [putG_len]; exact h.gn, h.kn⟩
  · rcases List.mem_or_eq_of_mem_set hx with hx | rfl
    · exact h.g x hx
    · exact hg
  · rw [putG_len]; exact h.k k hk
theorem inv_putK {b : BkM} (h : Inv b) (j : Nat) (k : KeyM) (hk : k.gi < b.gs.length ∧ 0 ≤ k.un ∧ k.un ≤ 1000000000 ∧ (k.st = 0 ∨ k.st = 1 ∨ k.st = 2)) : Inv (putK b j k) := by
  refine ⟨h.g, fun x hx => ?_, h.gn, by rw [putK_len]; exact h.kn⟩
  rcases List.mem_or_eq_of_mem_set hx with hx | rfl
  · exact h.k x hx
  · exact hk
theorem inv_new : Inv newM := ⟨by simp [newM], by simp [newM], by simp [newM], by simp [newM]⟩
theorem inv_add {b : BkM} (h : Inv b) {l : LicM} (hv : valid l = true) (hn : b.gs.length < 100) : Inv (addM b l) := by
  have hn := valid_num hv
  refine ⟨fun x hx => ?_, fun k hk => ?_, by simp [addM]; omega, h.kn⟩
  · rcases List.mem_append.1 hx with hx | hx
    · exact h.g x hx
    · simp at hx; subst hx; exact ⟨hv, by simp, hn.1, by simp, hn.2.2.1, by simp, by simp⟩
  · have := h.k k hk
    exact ⟨by simp [addM]; omega, this.2⟩
/-! Sums: what the keys of a licence hold. -/
def suOf (i : Nat) : List KeyM → Int
  | [] => 0
  | k :: l => (if k.gi = i then unC k else 0) + suOf i l
def snOf (i : Nat) : List KeyM → Int
  | [] => 0
  | k :: l => (if k.gi = i ∧ k.st ≠ 2 then 1 else 0) + snOf i l
theorem suOf_app (i : Nat) (l r : List KeyM) : suOf i (l ++ r) = suOf i l + suOf i r := by
  induction l with
  | nil => simp [suOf]
  | cons k l ih => simp only [List.cons_append, suOf, ih]; omega
theorem snOf_app (i : Nat) (l r : List KeyM) : snOf i (l ++ r) = snOf i l + snOf i r := by
  induction l with
  | nil => simp [snOf]
  | cons k l ih => simp only [List.cons_append, snOf, ih]; omega
theorem suOf_set (i : Nat) : ∀ (l : List KeyM) (j : Nat) (hj : j < l.length) (k : KeyM), suOf i (l.set j k) = suOf i l - (if l[j].gi = i then unC l[j] else 0) + (if k.gi = i then unC k else 0)
  | x :: l, 0, _, k => by simp [suOf]; omega
  | x :: l, j + 1, hj, k => by
    have := suOf_set i l j (by simpa using hj) k
    simp only [List.set_cons_succ, suOf, List.getElem_cons_succ, this]; omega
theorem snOf_set (i : Nat) : ∀ (l : List KeyM) (j : Nat) (hj : j < l.length) (k : KeyM), snOf i (l.set j k) = snOf i l - (if l[j].gi = i ∧ l[j].st ≠ 2 then 1 else 0) + (if k.gi = i ∧ k.st ≠ 2 then 1 else 0)
  | x :: l, 0, _, k => by simp [snOf]; omega
  | x :: l, j + 1, hj, k => by
    have := snOf_set i l j (by simpa using hj) k
    simp only [List.set_cons_succ, snOf, List.getElem_cons_succ, this]; omega
theorem suOf_nonneg (i : Nat) : ∀ (l : List KeyM), (∀ k ∈ l, 0 ≤ k.un) → 0 ≤ suOf i l
  | [], _ => by simp [suOf]
  | k :: l, h => by
    have h1 := suOf_nonneg i l (fun x hx => h x (by simp [hx]))
    have h2 := h k (by simp)
    have h3 : 0 ≤ unC k := by unfold unC; split <;> omega
    simp only [suOf]; split <;> omega
theorem snOf_nonneg (i : Nat) : ∀ (l : List KeyM), 0 ≤ snOf i l
  | [] => by simp [snOf]
  | k :: l => by
    have h1 := snOf_nonneg i l
    simp only [snOf]; split <;> omega
theorem suOf_ge (i : Nat) {l : List KeyM} (h : ∀ k ∈ l, 0 ≤ k.un) {k : KeyM} (hk : k ∈ l) (hi : k.gi = i) : unC k ≤ suOf i l := by
  induction l with
  | nil => cases hk
  | cons x l ih =>
    have hl := suOf_nonneg i l (fun y hy => h y (by simp [hy]))
    rcases List.mem_cons.1 hk with rfl | hk
    · simp only [suOf, if_pos hi]; omega
    · have := ih (fun y hy => h y (by simp [hy])) hk
      have h2 := h x (by simp)
      have h3 : 0 ≤ unC x := by unfold unC; split <;> omega
      simp only [suOf]; split <;> omega
theorem snOf_ge (i : Nat) {l : List KeyM} {k : KeyM} (hk : k ∈ l) (hi : k.gi = i) (hs : k.st ≠ 2) : 1 ≤ snOf i l := by
  induction l with
  | nil => cases hk
  | cons x l ih =>
    have hl := snOf_nonneg i l
    rcases List.mem_cons.1 hk with rfl | hk
    · simp only [snOf, if_pos (And.intro hi hs)]; omega
    · have := ih hk
      simp only [snOf]; split <;> omega
/-- .. and what the keys hold is what the licences say. -/
structure Inv2 (b : BkM) : Prop where
  inv : Inv b
  ids : (b.gs.map (·.l.id)).Nodup
  nms : (b.ks.map (·.nm)).Nodup
  knm : ∀ k ∈ b.ks, isName k.nm = true
  su : ∀ i, i < b.gs.length → (gat b i).su = suOf i b.ks
  sn : ∀ i, i < b.gs.length → (gat b i).sn = snOf i b.ks
theorem gat_putG {b : BkM} {i : Nat} (hi : i < b.gs.length) (g : GrM) (j : Nat) : gat (putG b i g) j = if j = i then g else gat b j := by
  unfold gat putG
  simp only [List.getD_eq_getElem?_getD, List.getElem?_set]
  by_cases h : i = j
  · subst h; simp [hi]
  · simp [h, Ne.symm h, show ¬ j = i from fun e => h e.symm]
theorem gat_putK (b : BkM) (j : Nat) (k : KeyM) (i : Nat) : gat (putK b j k) i = gat b i := rfl
theorem ids_put {b : BkM} {i : Nat} (hi : i < b.gs.length) {g : GrM} (h : g.l.id = (gat b i).l.id) : (putG b i g).gs.map (·.l.id) = b.gs.map (·.l.id) := by
  unfold putG
  rw [List.map_set, h, gat_get hi]
  refine List.ext_getElem (by simp) fun j a c => ?_
  rw [List.getElem_set]; split <;> simp_all
theorem nms_put {b : BkM} {j : Nat} (hj : j < b.ks.length) {k : KeyM} (h : k.nm = (kat b j).nm) : (putK b j k).ks.map (·.nm) = b.ks.map (·.nm) := by
  unfold putK
  rw [List.map_set, h, kat_get hj]
  refine List.ext_getElem (by simp) fun i a c => ?_
  rw [List.getElem_set]; split <;> simp_all
theorem inv2_new : Inv2 newM := ⟨inv_new, by simp [newM], by simp [newM], by simp [newM], by simp [newM], by simp [newM]⟩
/-- A licence's own numbers change (not what its keys hold). -/
theorem inv2_putG {b : BkM} (h : Inv2 b) {i : Nat} (hi : i < b.gs.length) (g : GrM) (hv : valid g.l = true) (h0 : g.l.id = (gat b i).l.id) (h1 : g.su = (gat b i).su) (h2 : g.sn = (gat b i).sn) (h3 : g.su ≤ g.l.q) (h4 : g.sn ≤ g.l.u) (h5 : -1 ≤ g.e ∧ g.e ≤ 144001439) : Inv2 (putG b i g) := by
  have hg := h.inv.g _ (gat_mem hi)
  refine ⟨inv_putG h.inv i g ⟨hv, by omega, h3, by omega, h4, h5⟩, by rw [ids_put hi h0]; exact h.ids, h.nms, h.knm, fun j hj => ?_, fun j hj => ?_⟩
  · rw [gat_putG hi]; split
    · rename_i e; subst e; rw [h1]; exact h.su j hi
    · exact h.su j (by simpa [putG] using hj)
  · rw [gat_putG hi]; split
    · rename_i e; subst e; rw [h2]; exact h.sn j hi
    · exact h.sn j (by simpa [putG] using hj)
theorem suOf_none {i : Nat} {l : List KeyM} (h : ∀ k ∈ l, k.gi < i) : suOf i l = 0 := by
  induction l with
  | nil => rfl
  | cons k l ih =>
    have h1 := h k (by simp)
    simp only [suOf, ih (fun x hx => h x (by simp [hx]))]
    rw [if_neg (by omega)]; omega
theorem snOf_none {i : Nat} {l : List KeyM} (h : ∀ k ∈ l, k.gi < i) : snOf i l = 0 := by
  induction l with
  | nil => rfl
  | cons k l ih =>
    have h1 := h k (by simp)
    simp only [snOf, ih (fun x hx => h x (by simp [hx]))]
    rw [if_neg (by omega)]; omega
theorem inv2_add {b : BkM} (h : Inv2 b) {l : LicM} (hv : valid l = true) (hn : b.gs.length < 100) (hid : ∀ g ∈ b.gs, g.l.id ≠ l.id) : Inv2 (addM b l) := by
  have hlen : (addM b l).gs.length = b.gs.length + 1 := by simp [addM]
  have hgat : ∀ i, i < b.gs.length → gat (addM b l) i = gat b i := fun i hi => by
    simp [gat, addM, List.getD_eq_getElem?_getD, List.getElem?_append_left hi]
  have hlast : gat (addM b l) b.gs.length = ⟨l, 0, 0, -1⟩ := by simp [gat, addM, List.getD_eq_getElem?_getD]
  refine ⟨inv_add h.inv hv hn, ?_, h.nms, h.knm, fun i hi => ?_, fun i hi => ?_⟩
  · simp only [addM, List.map_append, List.map_cons, List.map_nil]
    refine List.nodup_append.2 ⟨h.ids, by simp, fun a ha c hc => ?_⟩
    simp at hc; subst hc
    obtain ⟨g, hg, rfl⟩ := List.mem_map.1 ha
    exact hid g hg
  · by_cases e : i = b.gs.length
    · subst e; rw [hlast]; exact (suOf_none (fun k hk => (h.inv.k k hk).1)).symm
    · rw [hgat i (by omega)]; exact h.su i (by omega)
  · by_cases e : i = b.gs.length
    · subst e; rw [hlast]; exact (snOf_none (fun k hk => (h.inv.k k hk).1)).symm
    · rw [hgat i (by omega)]; exact h.sn i (by omega)
theorem inv2_set {b : BkM} (h : Inv2 b) {j : Nat} (hj : j < b.ks.length) {st un : Int} (h0 : (kat b j).st ≠ 2) (hst : st = 0 ∨ st = 1) (h1 : 0 ≤ un) (h2 : un ≤ (kat b j).un) : Inv2 (setM b j st un) := by
  have hk := h.inv.k _ (kat_mem hj)
  have hi := hk.1
  have hg := h.inv.g _ (gat_mem hi)
  have hu : unC (kat b j) = (kat b j).un := if_neg h0
  have hge := suOf_ge (kat b j).gi (fun k hk => (h.inv.k k hk).2.1) (kat_mem hj) rfl
  rw [← h.su _ hi] at hge
  have hun : unC { kat b j with st := st, un := un } = un := if_neg (by simp; omega)
  unfold setM
  have hi' : (kat b j).gi < (putK b j { kat b j with st := st, un := un }).gs.length := hi
  refine ⟨inv_putG (inv_putK h.inv j { kat b j with st := st, un := un } ⟨hi, h1, by simp; omega, by simp; omega⟩) _ { gat b (kat b j).gi with su := (gat b (kat b j).gi).su + (un - unC (kat b j)) } ⟨hg.1, by simp; omega, by simp; omega, hg.2.2.2.1, hg.2.2.2.2.1, hg.2.2.2.2.2.1, hg.2.2.2.2.2.2⟩, ?_, ?_, ?_, fun i hil => ?_, fun i hil => ?_⟩
  · rw [ids_put (g := { gat b (kat b j).gi with su := (gat b (kat b j).gi).su + (un - unC (kat b j)) }) hi' rfl]; exact h.ids
  · show ((putK b j { kat b j with st := st, un := un }).ks.map (·.nm)).Nodup
    rw [nms_put (k := { kat b j with st := st, un := un }) hj rfl]; exact h.nms
  · intro k hkm
    rcases List.mem_or_eq_of_mem_set (show k ∈ b.ks.set j { kat b j with st := st, un := un } from hkm) with hkm | e
    · exact h.knm k hkm
    · rw [e]; exact h.knm (kat b j) (kat_mem hj)
  · rw [gat_putG hi']
    show _ = suOf i (b.ks.set j { kat b j with st := st, un := un })
    rw [suOf_set i b.ks j hj, ← kat_get hj, hun, gat_putK]
    have := h.su i (by simpa [putG, putK] using hil)
    by_cases e : i = (kat b j).gi
    · subst e; simp; omega
    · rw [if_neg e, if_neg (fun e' => e e'.symm), if_neg (fun e' => e e'.symm)]; omega
  · rw [gat_putG hi']
    show _ = snOf i (b.ks.set j { kat b j with st := st, un := un })
    rw [snOf_set i b.ks j hj, ← kat_get hj, gat_putK]
    have := h.sn i (by simpa [putG, putK] using hil)
    have h01 : st ≠ 2 := by omega
    by_cases e : i = (kat b j).gi
    · subst e; simp [h0, h01]; omega
    · rw [if_neg e, if_neg (fun e' => e e'.1.symm), if_neg (fun e' => e e'.1.symm)]; omega
theorem inv2_rel {b : BkM} (h : Inv2 b) {j : Nat} (hj : j < b.ks.length) (h0 : (kat b j).st ≠ 2) : Inv2 (relM b j) := by
  have hk := h.inv.k _ (kat_mem hj)
  have hi := hk.1
  have hg := h.inv.g _ (gat_mem hi)
  have hu : unC (kat b j) = (kat b j).un := if_neg h0
  have hge := suOf_ge (kat b j).gi (fun k hk => (h.inv.k k hk).2.1) (kat_mem hj) rfl
  have hge2 := snOf_ge (kat b j).gi (kat_mem hj) rfl h0
  rw [← h.su _ hi] at hge
  rw [← h.sn _ hi] at hge2
  have hun : unC { kat b j with st := 2 } = 0 := if_pos rfl
  unfold relM
  have hi' : (kat b j).gi < (putK b j { kat b j with st := 2 }).gs.length := hi
  refine ⟨inv_putG (inv_putK h.inv j { kat b j with st := 2 } ⟨hi, hk.2.1, hk.2.2.1, .inr (.inr rfl)⟩) _ { gat b (kat b j).gi with su := (gat b (kat b j).gi).su + (0 - unC (kat b j)), sn := (gat b (kat b j).gi).sn - 1 } ⟨hg.1, by simp; omega, by simp; omega, by simp; omega, by simp; omega, hg.2.2.2.2.2.1, hg.2.2.2.2.2.2⟩, ?_, ?_, ?_, fun i hil => ?_, fun i hil => ?_⟩
  · rw [ids_put (g := { gat b (kat b j).gi with su := (gat b (kat b j).gi).su + (0 - unC (kat b j)), sn := (gat b (kat b j).gi).sn - 1 }) hi' rfl]; exact h.ids
  · show ((putK b j { kat b j with st := 2 }).ks.map (·.nm)).Nodup
    rw [nms_put (k := { kat b j with st := 2 }) hj rfl]; exact h.nms
  · intro k hkm
    rcases List.mem_or_eq_of_mem_set (show k ∈ b.ks.set j { kat b j with st := 2 } from hkm) with hkm | e
    · exact h.knm k hkm
    · rw [e]; exact h.knm (kat b j) (kat_mem hj)
  · rw [gat_putG hi']
    show _ = suOf i (b.ks.set j { kat b j with st := 2 })
    rw [suOf_set i b.ks j hj, ← kat_get hj, hun, gat_putK]
    have := h.su i (by simpa [putG, putK] using hil)
    by_cases e : i = (kat b j).gi
    · subst e; simp; omega
    · rw [if_neg e, if_neg (fun e' => e e'.symm)]; simp; omega
  · rw [gat_putG hi']
    show _ = snOf i (b.ks.set j { kat b j with st := 2 })
    rw [snOf_set i b.ks j hj, ← kat_get hj, gat_putK]
    have := h.sn i (by simpa [putG, putK] using hil)
    by_cases e : i = (kat b j).gi
    · subst e; simp [h0]; omega
    · rw [if_neg e, if_neg (fun e' => e e'.1.symm)]; simp; omega
/-! The functions keep it. -/
theorem within_iff {n m : Int} : within n m = true ↔ 0 ≤ n ∧ n ≤ m := by unfold within; simp
theorem inv2_grant {b : BkM} (h : Inv2 b) (l : LicM) : Inv2 (grantR b l).2 := by
  unfold grantR
  split
  · exact h
  · split
    · exact h
    · split
      · exact h
      · rename_i a c d
        refine inv2_add h (by simpa using a) (by omega) (findG_none (by simpa using c))
theorem inv2_revoke {b : BkM} (h : Inv2 b) (id : ByteArray) (a : Int) : Inv2 (revokeR b id a).2 := by
  unfold revokeR
  cases hf : findG b id with
  | none => exact h
  | some i =>
    have hi := (findG_some hf).1
    have hg := h.inv.g _ (gat_mem hi)
    simp only
    split
    · exact h
    · split
      · exact h
      · rename_i c d
        have := within_iff.1 (show within a 144001439 = true by simpa [inst] using c)
        exact inv2_putG h hi _ hg.1 rfl rfl rfl hg.2.2.1 hg.2.2.2.2.1 (by simp; omega)
theorem inv2_amend {b : BkM} (h : Inv2 b) (id : ByteArray) (q u t : Int) : Inv2 (amendR b id q u t).2 := by
  unfold amendR
  cases hf : findG b id with
  | none => exact h
  | some i =>
    have hi := (findG_some hf).1
    have hg := h.inv.g _ (gat_mem hi)
    simp only
    split
    · exact h
    · split
      · exact h
      · split
        · exact h
        · rename_i a c d
          have hv : valid (amendL (gat b i).l q u t) = true := by simpa using c
          exact inv2_putG h hi _ hv rfl rfl rfl (by simp [amendL]; omega) (by simp [amendL]; omega) hg.2.2.2.2.2
theorem valid_cut {l : LicM} (h : valid l = true) {q u : Int} (h1 : 0 ≤ l.q - q) (h2 : 0 ≤ q) (h3 : 0 ≤ l.u - u) (h4 : 0 ≤ u) : valid { l with q := l.q - q, u := l.u - u } = true := by
  have hn := valid_num h
  unfold valid at h ⊢
  simp only [Bool.and_eq_true, within_iff, decide_eq_true_eq, listsOk] at h ⊢
  refine ⟨⟨⟨⟨⟨⟨h.1.1.1.1.1.1, h.1.1.1.1.1.2⟩, ?_⟩, ?_⟩, h.1.1.2⟩, h.1.2⟩, h.2⟩ <;> omega
theorem valid_split {l : LicM} (h : valid l = true) {into : ByteArray} {q u : Int} (hn : isName into = true) (h1 : q ≤ l.q) (h2 : 0 ≤ q) (h3 : u ≤ l.u) (h4 : 0 ≤ u) : valid (splitL l into q u) = true := by
  have hnn := valid_num h
  unfold valid splitL at *
  simp only [Bool.and_eq_true, within_iff, decide_eq_true_eq, listsOk] at h ⊢
  refine ⟨⟨⟨⟨⟨⟨hn, h.1.1.1.1.1.2⟩, ?_⟩, ?_⟩, h.1.1.2⟩, h.1.2⟩, h.2⟩ <;> omega
theorem inv2_split {b : BkM} (h : Inv2 b) (id into : ByteArray) (q u : Int) : Inv2 (splitR b id into q u).2 := by
  unfold splitR
  cases hf : findG b id with
  | none => exact h
  | some i =>
    have hi := (findG_some hf).1
    have hg := h.inv.g _ (gat_mem hi)
    simp only
    split
    · exact h
    · split
      · exact h
      · split
        · exact h
        · split
          · exact h
          · split
            · exact h
            · rename_i a c d e f
              have hc : isName into = true ∧ 0 ≤ q ∧ 0 ≤ u := by
                simp only [not_or, Bool.not_eq_false] at c; exact ⟨c.1, by omega, by omega⟩
              have hd := findG_none (by simpa using d)
              have hP : Inv2 (putG b i { gat b i with l := { (gat b i).l with q := (gat b i).l.q - q, u := (gat b i).l.u - u } }) := inv2_putG h hi _ (valid_cut hg.1 (q := q) (u := u) (by omega) (by omega) (by omega) (by omega)) rfl rfl rfl (by simp; omega) (by simp; omega) hg.2.2.2.2.2
              have hI2 : ∀ g ∈ (putG b i { gat b i with l := { (gat b i).l with q := (gat b i).l.q - q, u := (gat b i).l.u - u } }).gs, g.l.id ≠ into := fun g hgm => by
                rcases List.mem_or_eq_of_mem_set (show g ∈ b.gs.set i { gat b i with l := { (gat b i).l with q := (gat b i).l.q - q, u := (gat b i).l.u - u } } from hgm) with hgm | e
                · exact hd g hgm
                · rw [e]; exact hd (gat b i) (gat_mem hi)
              exact inv2_add hP (valid_split hg.1 hc.1 (by omega) (by omega) (by omega) (by omega)) (by rw [putG_len]; omega) hI2
theorem inv2_reserve {b : BkM} (h : Inv2 b) (id nm : ByteArray) (un a : Int) : Inv2 (reserveR b id nm un a).2 := by
  unfold reserveR
  split
  · exact h
  · rename_i hargs
    cases hf : findG b id with
    | none => exact h
    | some i =>
      have hi := (findG_some hf).1
      have hg := h.inv.g _ (gat_mem hi)
      simp only
      split
      · exact h
      · split
        · exact h
        · split
          · exact h
          · split
            · exact h
            · rename_i c d e f
              have hk := findK_none (by simpa using c)
              simp only [not_or, Bool.not_eq_false] at hargs
              have hun := within_iff.1 hargs.2.1
              have hlen : ({ b with ks := b.ks ++ [⟨nm, i, 0, un⟩] } : BkM).gs.length = b.gs.length := rfl
              have hb1 : Inv { b with ks := b.ks ++ [⟨nm, i, 0, un⟩] } := by
                refine ⟨h.inv.g, fun k hkm => ?_, h.inv.gn, by simp; omega⟩
                rcases List.mem_append.1 hkm with hkm | hkm
                · exact h.inv.k k hkm
                · simp at hkm; subst hkm; exact ⟨hi, hun.1, hun.2, .inl rfl⟩
              show Inv2 (putG { b with ks := b.ks ++ [⟨nm, i, 0, un⟩] } i { gat b i with su := (gat b i).su + un, sn := (gat b i).sn + 1 })
              refine ⟨inv_putG hb1 i { gat b i with su := (gat b i).su + un, sn := (gat b i).sn + 1 } ⟨hg.1, by simp; omega, by simp; omega, by simp; omega, by simp; omega, hg.2.2.2.2.2⟩, ?_, ?_, ?_, fun j hj => ?_, fun j hj => ?_⟩
              · rw [ids_put (b := { b with ks := b.ks ++ [⟨nm, i, 0, un⟩] }) (g := { gat b i with su := (gat b i).su + un, sn := (gat b i).sn + 1 }) hi rfl]; exact h.ids
              · show ((b.ks ++ [(⟨nm, i, 0, un⟩ : KeyM)]).map (fun k => k.nm)).Nodup
                rw [List.map_append]
                refine List.nodup_append.2 ⟨h.nms, by simp, fun x hx y hy => ?_⟩
                simp at hy; subst hy
                obtain ⟨k, hkm, rfl⟩ := List.mem_map.1 hx
                exact hk k hkm
              · intro k hkm
                rcases List.mem_append.1 (show k ∈ b.ks ++ [⟨nm, i, 0, un⟩] from hkm) with hkm | hkm
                · exact h.knm k hkm
                · simp at hkm; subst hkm; exact hargs.1
              · rw [gat_putG (b := { b with ks := b.ks ++ [⟨nm, i, 0, un⟩] }) hi]
                show _ = suOf j (b.ks ++ [⟨nm, i, 0, un⟩])
                rw [suOf_app]
                have := h.su j (by simpa [putG] using hj)
                by_cases e2 : j = i
                · subst e2; simp [suOf, unC]; omega
                · rw [if_neg e2]; simp only [suOf, if_neg (show ¬ i = j from fun x => e2 x.symm)]
                  show (gat b j).su = _; omega
              · rw [gat_putG (b := { b with ks := b.ks ++ [⟨nm, i, 0, un⟩] }) hi]
                show _ = snOf j (b.ks ++ [⟨nm, i, 0, un⟩])
                rw [snOf_app]
                have := h.sn j (by simpa [putG] using hj)
                by_cases e2 : j = i
                · subst e2; simp [snOf]; omega
                · rw [if_neg e2]; simp only [snOf, if_neg (show ¬ (i = j ∧ (0 : Int) ≠ 2) from fun x => e2 x.1.symm)]
                  show (gat b j).sn = _; omega
theorem inv2_use {b : BkM} (h : Inv2 b) (nm : ByteArray) (un a : Int) : Inv2 (useR b nm un a).2 := by
  unfold useR
  cases hf : findK b nm with
  | none => exact h
  | some j =>
    have hj := (findK_some hf).1
    simp only
    split
    · exact h
    · split
      · exact h
      · split
        · rename_i c d e; exact inv2_rel h hj (by simp only [ne_eq, Decidable.not_not] at d; omega)
        · split
          · exact h
          · rename_i c d e f
            exact inv2_set h hj (by simp only [ne_eq, Decidable.not_not] at d; omega) (.inr rfl) (by omega) (by omega)
theorem inv2_return {b : BkM} (h : Inv2 b) (nm : ByteArray) (un : Int) : Inv2 (returnR b nm un).2 := by
  unfold returnR
  cases hf : findK b nm with
  | none => exact h
  | some j =>
    have hj := (findK_some hf).1
    simp only
    split
    · exact h
    · split
      · exact h
      · split
        · exact h
        · rename_i c d e
          exact inv2_set h hj (by simp only [ne_eq, Decidable.not_not] at d; omega) (.inr rfl) (by omega) (by omega)
theorem inv2_release {b : BkM} (h : Inv2 b) (nm : ByteArray) : Inv2 (releaseR b nm).2 := by
  unfold releaseR
  cases hf : findK b nm with
  | none => exact h
  | some j =>
    have hj := (findK_some hf).1
    simp only
    split
    · exact h
    · rename_i d; exact inv2_rel h hj (by simp only [ne_eq, Decidable.not_not] at d; omega)
/-- A step. -/
structure StepM where
  k : Int
  l : LicM
  id : ByteArray
  key : ByteArray
  un : Int
  us : Int
  a : Int
instance : Inhabited StepM := ⟨⟨0, default, ByteArray.empty, ByteArray.empty, 0, 0, 0⟩⟩
def doR (b : BkM) (x : StepM) : Int × BkM :=
  if x.k = 0 then grantR b x.l else if x.k = 1 then revokeR b x.id x.a else if x.k = 2 then amendR b x.id x.un x.us x.a else if x.k = 3 then splitR b x.id x.key x.un x.us
  else if x.k = 4 then reserveR b x.id x.key x.un x.a else if x.k = 5 then useR b x.key x.un x.a else if x.k = 6 then returnR b x.key x.un else releaseR b x.key
theorem inv2_do {b : BkM} (h : Inv2 b) (x : StepM) : Inv2 (doR b x).2 := by
  unfold doR
  split
  · exact inv2_grant h _
  split
  · exact inv2_revoke h _ _
  split
  · exact inv2_amend h _ _ _ _
  split
  · exact inv2_split h _ _ _ _
  split
  · exact inv2_reserve h _ _ _ _
  split
  · exact inv2_use h _ _ _
  split
  · exact inv2_return h _ _
  exact inv2_release h _
def sz60 (s : ByteArray) : Bool := decide (s.size ≤ 60)
def short (l : LicM) : Bool := sz60 l.id && decide (l.ms.length ≤ 14) && decide (l.ps.length ≤ 14) && l.ms.all sz60 && l.ps.all sz60
def fewX (x : StepM) : Bool := short x.l && sz60 x.id && sz60 x.key
def fewB (l : List StepM) : Bool := decide (l.length ≤ 25) && l.all fewX
theorem all_take {α : Type} (p : α → Bool) {l : List α} {k : Nat} (h : k < l.length) : (l.take (k + 1)).all p = ((l.take k).all p && p l[k]) := by
  rw [List.take_succ_eq_append_getElem h, List.all_append]; simp
theorem all_no {α : Type} {p : α → Bool} {l : List α} {k : Nat} (h : k < l.length) (hp : p l[k] = false) : l.all p = false := by
  rw [List.all_eq_false]; exact ⟨l[k], List.getElem_mem h, by simp [hp]⟩
def playM (l : List StepM) : BkM := l.foldl (fun b x => (doR b x).2) newM
theorem inv2_play (l : List StepM) : Inv2 (playM l) := by
  unfold playM
  suffices h : ∀ (l : List StepM) b, Inv2 b → Inv2 (l.foldl (fun b x => (doR b x).2) b) from h l _ inv2_new
  intro l
  induction l with
  | nil => exact fun b h => h
  | cons x l ih => exact fun b h => ih _ (inv2_do h x)
theorem play_take {l : List StepM} {k : Nat} (h : k < l.length) : playM (l.take (k + 1)) = (doR (playM (l.take k)) l[k]).2 := by
  unfold playM; rw [List.take_succ_eq_append_getElem h, List.foldl_append]; rfl
end Go.CH.Lic
namespace Go.CH.Lic

theorem findG_iff {b : BkM} (h : Inv2 b) {id : ByteArray} {i : Nat} : findG b id = some i ↔ i < b.gs.length ∧ (gat b i).l.id = id := by
  constructor
  · intro hf; exact ⟨(findG_some hf).1, (findG_some hf).2.1⟩
  · rintro ⟨hi, he⟩
    cases hf : findG b id with
    | none => exact absurd he (findG_none hf _ (gat_mem hi))
    | some j =>
      obtain ⟨hj, hej, _⟩ := findG_some hf
      have hn := h.ids
      have : (b.gs.map (·.l.id))[i]'(by simpa using hi) = (b.gs.map (·.l.id))[j]'(by simpa using hj) := by
        simp only [List.getElem_map]
        rw [← gat_get hi, ← gat_get hj, he, hej]
      have := (List.getElem_inj hn).1 this
      rw [this]
theorem findG_none_iff {b : BkM} {id : ByteArray} : findG b id = none ↔ ∀ g ∈ b.gs, g.l.id ≠ id := by
  constructor
  · exact findG_none
  · intro h
    unfold findG
    rw [List.findIdx?_eq_none_iff]
    intro g hg; simpa using h g hg
theorem gat_add {b : BkM} {l : LicM} (i : Nat) : gat (addM b l) i = if i < b.gs.length then gat b i else if i = b.gs.length then ⟨l, 0, 0, -1⟩ else default := by
  unfold gat addM
  simp only [List.getD_eq_getElem?_getD]
  by_cases h : i < b.gs.length
  · rw [if_pos h, List.getElem?_append_left h]
  · rw [if_neg h]
    by_cases e : i = b.gs.length
    · subst e; simp
    · rw [if_neg e, List.getElem?_eq_none (by simp; omega)]; rfl
theorem add_len (b : BkM) (l : LicM) : (addM b l).gs.length = b.gs.length + 1 := by simp [addM]
theorem runsB_neg {f t e e' a : Int} (h : e < 0) (h' : e' < 0) : runsB f t e a = runsB f t e' a := by
  unfold runsB; rw [decide_eq_true h, decide_eq_true h']; simp
/-! Split -/
theorem split_cases (b : BkM) (id into : ByteArray) (q u : Int) : ((splitR b id into q u).1 ≠ 0 ∧ (splitR b id into q u).2 = b) ∨
    ∃ i, findG b id = some i ∧ (gat b i).e < 0 ∧ findG b into = none ∧ b.gs.length < 100 ∧ isName into = true ∧ 0 ≤ q ∧ 0 ≤ u ∧ q ≤ (gat b i).l.q - (gat b i).su ∧ u ≤ (gat b i).l.u - (gat b i).sn ∧
      splitR b id into q u = (0, addM (putG b i { gat b i with l := { (gat b i).l with q := (gat b i).l.q - q, u := (gat b i).l.u - u } }) (splitL (gat b i).l into q u)) := by
  unfold splitR
  cases hf : findG b id with
  | none => left; simp
  | some i =>
    simp only
    by_cases h1 : 0 ≤ (gat b i).e
    · left; simp [h1]
    by_cases h2 : isName into = false ∨ q < 0 ∨ u < 0
    · left; simp only [if_neg h1, if_pos h2]; simp
    by_cases h3 : (findG b into).isSome
    · left; simp only [if_neg h1, if_neg h2, if_pos h3]; simp
    by_cases h4 : 100 ≤ b.gs.length
    · left; simp only [if_neg h1, if_neg h2, if_neg h3, if_pos h4]; simp
    by_cases h5 : (gat b i).l.q - (gat b i).su < q ∨ (gat b i).l.u - (gat b i).sn < u
    · left; simp only [if_neg h1, if_neg h2, if_neg h3, if_neg h4, if_pos h5]; simp
    right
    simp only [not_or, Bool.not_eq_false] at h2
    refine ⟨i, rfl, by omega, by simpa using h3, by omega, h2.1, by omega, by omega, by omega, by omega, ?_⟩
    simp only [if_neg h1, if_neg h3, if_neg h4, if_neg h5]
    rw [if_neg]
    simp only [not_or, Bool.not_eq_false]; exact h2
theorem split_ok {b : BkM} (h : Inv2 b) {id into : ByteArray} {q u : Int} (he : (splitR b id into q u).1 = 0) (a : Int) :
    (leftR b id a).2.2 = (leftR (splitR b id into q u).2 id a).2.2 ∧ (leftR (splitR b id into q u).2 into a).2.2 = (leftR (splitR b id into q u).2 id a).2.2 ∧
    (leftR (splitR b id into q u).2 id a).1 + (leftR (splitR b id into q u).2 into a).1 = (leftR b id a).1 ∧ (leftR (splitR b id into q u).2 id a).2.1 + (leftR (splitR b id into q u).2 into a).2.1 = (leftR b id a).2.1 ∧
    (splitR b id into q u).2.gs.length = b.gs.length + 1 := by
  have hinv := inv2_split h id into q u
  rcases split_cases b id into q u with ⟨h1, _⟩ | ⟨i, hf, hneg, hnone, hlen, hn, hq, hu, hq2, hu2, e⟩
  · exact absurd he h1
  rw [e] at hinv ⊢
  simp only at hinv ⊢
  have hi := (findG_some hf).1
  have hid := (findG_some hf).2.1
  have hb2 : gat (addM (putG b i { gat b i with l := { (gat b i).l with q := (gat b i).l.q - q, u := (gat b i).l.u - u } }) (splitL (gat b i).l into q u)) i = { gat b i with l := { (gat b i).l with q := (gat b i).l.q - q, u := (gat b i).l.u - u } } := by
    rw [gat_add, putG_len, if_pos hi, gat_putG hi, if_pos rfl]
  have hb3 : gat (addM (putG b i { gat b i with l := { (gat b i).l with q := (gat b i).l.q - q, u := (gat b i).l.u - u } }) (splitL (gat b i).l into q u)) b.gs.length = ⟨splitL (gat b i).l into q u, 0, 0, -1⟩ := by
    rw [gat_add, putG_len, if_neg (Nat.lt_irrefl _), if_pos rfl]
  have f1 : findG (addM (putG b i { gat b i with l := { (gat b i).l with q := (gat b i).l.q - q, u := (gat b i).l.u - u } }) (splitL (gat b i).l into q u)) id = some i :=
    (findG_iff hinv).2 ⟨by rw [add_len, putG_len]; omega, by rw [hb2]; exact hid⟩
  have f2 : findG (addM (putG b i { gat b i with l := { (gat b i).l with q := (gat b i).l.q - q, u := (gat b i).l.u - u } }) (splitL (gat b i).l into q u)) into = some b.gs.length :=
    (findG_iff hinv).2 ⟨by rw [add_len, putG_len]; omega, by rw [hb3]; rfl⟩
  have hr : runsG ⟨splitL (gat b i).l into q u, 0, 0, -1⟩ a = runsG (gat b i) a := by
    unfold runsG splitL; exact runsB_neg (show (-1 : Int) < 0 by decide) hneg
  have hr2 : runsG { gat b i with l := { (gat b i).l with q := (gat b i).l.q - q, u := (gat b i).l.u - u } } a = runsG (gat b i) a := rfl
  refine ⟨?_, ?_, ?_, ?_, by rw [add_len, putG_len]⟩
  all_goals
    unfold leftR
    simp only [f1, f2, hf, hb2, hb3, hr, hr2]
    by_cases w1 : inst a = false
    · simp [w1]
    · by_cases w2 : runsG (gat b i) a = false
      · simp [w1, w2]
      · simp only [if_neg w1, if_neg w2, splitL]
        try omega
theorem split_no {b : BkM} {id into : ByteArray} {q u : Int} (he : (splitR b id into q u).1 ≠ 0) : (splitR b id into q u).2 = b := by
  rcases split_cases b id into q u with ⟨_, h⟩ | ⟨i, _, _, _, _, _, _, _, _, _, e⟩
  · exact h
  · rw [e] at he; exact absurd rfl he
/-! Revoke -/
theorem revoke_cases (b : BkM) (id : ByteArray) (a : Int) : ((revokeR b id a).1 ≠ 0 ∧ (revokeR b id a).2 = b) ∨
    ∃ i, findG b id = some i ∧ (gat b i).e < 0 ∧ inst a = true ∧ revokeR b id a = (0, putG b i { gat b i with e := a }) := by
  unfold revokeR
  cases hf : findG b id with
  | none => left; simp
  | some i =>
    simp only
    by_cases h1 : inst a = false
    · left; simp [h1]
    by_cases h2 : 0 ≤ (gat b i).e
    · left; simp only [if_neg h1, if_pos h2]; simp
    right
    exact ⟨i, rfl, by omega, by simpa using h1, by simp only [if_neg h1, if_neg h2]⟩
theorem revoke_no {b : BkM} {id : ByteArray} {a : Int} (he : (revokeR b id a).1 ≠ 0) : (revokeR b id a).2 = b := by
  rcases revoke_cases b id a with ⟨_, h⟩ | ⟨i, _, _, _, e⟩
  · exact h
  · rw [e] at he; exact absurd rfl he
theorem inst_iff {a : Int} : inst a = true ↔ 0 ≤ a ∧ a ≤ 144001439 := within_iff
theorem revoke_ok {b : BkM} (h : Inv2 b) {id : ByteArray} {a o : Int} (he : (revokeR b id a).1 = 0) (ho : inst o = true) :
    (leftR b id o).2.2 = 0 ∧ (leftR (revokeR b id a).2 id o).2.2 = 0 ∧ (o < a → leftR (revokeR b id a).2 id o = leftR b id o) ∧
    (¬ o < a → leftR (revokeR b id a).2 id o = (0, 0, 0) ∧ ∀ nm un, (reserveR (revokeR b id a).2 id nm un o).1 ≠ 0) := by
  have hinv := inv2_revoke h id a
  rcases revoke_cases b id a with ⟨h1, _⟩ | ⟨i, hf, hneg, ha, e⟩
  · exact absurd he h1
  rw [e] at hinv ⊢
  simp only at hinv ⊢
  have hi := (findG_some hf).1
  have hid := (findG_some hf).2.1
  have hb2 : gat (putG b i { gat b i with e := a }) i = { gat b i with e := a } := by rw [gat_putG hi, if_pos rfl]
  have f1 : findG (putG b i { gat b i with e := a }) id = some i := (findG_iff hinv).2 ⟨by rw [putG_len]; exact hi, by rw [hb2]; exact hid⟩
  have ha' := inst_iff.1 ha
  have hoi : ¬ inst o = false := by rw [ho]; simp
  have e1 : leftR b id o = if runsG (gat b i) o = false then (0, 0, 0) else ((gat b i).l.q - (gat b i).su, (gat b i).l.u - (gat b i).sn, 0) := by
    unfold leftR; simp only [hf, if_neg hoi]
  have e2 : leftR (putG b i { gat b i with e := a }) id o = if runsG { gat b i with e := a } o = false then (0, 0, 0) else ((gat b i).l.q - (gat b i).su, (gat b i).l.u - (gat b i).sn, 0) := by
    unfold leftR; simp only [f1, hb2, if_neg hoi]
  refine ⟨?_, ?_, fun hlt => ?_, fun hge => ⟨?_, fun nm un => ?_⟩⟩
  · rw [e1]; split <;> rfl
  · rw [e2]; split <;> rfl
  · rw [e1, e2]
    have : runsG { gat b i with e := a } o = runsG (gat b i) o := by
      unfold runsG runsB
      simp only
      rw [decide_eq_true hneg, decide_eq_true hlt]; simp
    rw [this]
  · rw [e2, if_pos]
    unfold runsG runsB
    simp only
    rw [decide_eq_false hge, decide_eq_false (show ¬ a < 0 by omega)]; simp
  · have hr : runsG { gat b i with e := a } o = false := by
      unfold runsG runsB
      simp only
      rw [decide_eq_false hge, decide_eq_false (show ¬ a < 0 by omega)]; simp
    unfold reserveR
    split
    · simp
    · simp only [f1, hb2, hr]
      split
      · simp
      · split
        · simp
        · simp
theorem left_num {b : BkM} (h : Inv2 b) (id : ByteArray) (a : Int) : 0 ≤ (leftR b id a).1 ∧ (leftR b id a).1 ≤ 1000000000 ∧ 0 ≤ (leftR b id a).2.1 ∧ (leftR b id a).2.1 ≤ 1000 := by
  unfold leftR
  cases hf : findG b id with
  | none => simp
  | some i =>
    have hg := h.inv.g _ (gat_mem (findG_some hf).1)
    have hn := valid_num hg.1
    simp only
    split
    · simp
    · split
      · simp
      · simp only; omega
end Go.CH.Lic
namespace Go.CH
open Go.RowKit
open Go.ChangeMaps (setBlock)

/-- A goal that a walk leaves alone. -/
def Held (p : Prop) : Prop := p
theorem held {p : Prop} (h : Held p) : p := h
theorem Held.mk {p : Prop} (h : p) : Held p := h

theorem Src.open_ {w : World} {A : Option Addr} {n size : Nat} {xs : List Value} (h : Src w A n size xs) (hn : 0 < n) (hs : 0 < size) :
    ∃ b o, A = some ⟨b, o, none⟩ ∧ ∀ j u, xs[j]? = some u → w.cell? ⟨b, o + j, none⟩ = some u := by
  obtain ⟨ad, rfl, hc⟩ := h.2.2 hn
  have hl : 0 < xs.length := by rw [h.1]; exact Nat.mul_pos hn hs
  have h0 := hc 0 xs[0] (List.getElem?_eq_getElem hl)
  obtain ⟨b, o, sp⟩ := ad
  have hsp : sp = none := by
    cases sp with
    | none => rfl
    | some x =>
      exfalso
      simp only [Addr.add, if_true, World.cell?] at h0
      split at h0 <;> simp at h0
  subst hsp
  refine ⟨b, o, rfl, fun j u hu => ?_⟩
  have := hc j u hu
  by_cases hj : j = 0
  · subst hj; simpa [Addr.add] using this
  · simpa [Addr.add, hj] using this

/-- What a world holds in the blocks F. -/
def Own := World → (Nat → Prop) → Prop
structure Own.Ok (O : Own) : Prop where
  lt : ∀ {w F}, O w F → ∀ i, F i → i < w.heap.size
  keep : ∀ {w w' F}, O w F → (∀ i, F i → w'.heap[i]? = w.heap[i]?) → O w' F
/-- What a call leaves of the blocks F: R, in them or in new ones; no other block has turned. -/
def Post (w : World) (F : Nat → Prop) (R : Own) (w' : World) : Prop := ∃ F', R w' F' ∧ Mod F w w' ∧ ∀ i, F' i → F i ∨ (w.heap.size ≤ i ∧ i < w'.heap.size)
def star (A B : Own) : Own := fun w F => ∃ F1 F2, A w F1 ∧ B w F2 ∧ (∀ i, F1 i → ¬ F2 i) ∧ ∀ i, F i ↔ F1 i ∨ F2 i
def emp : Own := fun _ F => ∀ i, ¬ F i
/-- The state of a call that began in w0 with N blocks: O in blocks of its own; nothing below N has turned. -/
structure Sta (N : Nat) (w0 : World) (O : Own) (W : World) : Prop where
  own : ∃ F, O W F ∧ ∀ i, F i → N ≤ i
  bel : Below N w0 W
  big : N ≤ w0.heap.size

theorem emp_ok : emp.Ok := ⟨fun h i hi => (h i hi).elim, fun h _ => h⟩
theorem star_ok {A B : Own} (ha : A.Ok) (hb : B.Ok) : (star A B).Ok :=
  ⟨fun ⟨F1, F2, h1, h2, _, h4⟩ i hi => ((h4 i).1 hi).elim (ha.lt h1 i) (hb.lt h2 i),
   fun ⟨F1, F2, h1, h2, h3, h4⟩ hk => ⟨F1, F2, ha.keep h1 (fun i hi => hk i ((h4 i).2 (.inl hi))), hb.keep h2 (fun i hi => hk i ((h4 i).2 (.inr hi))), h3, h4⟩⟩

section
variable {N : Nat} {w0 W W' : World} {A B C D O R : Own}
theorem Sta.start (w : World) : Sta w.heap.size w emp w := ⟨⟨fun _ => False, fun _ h => h, fun _ h => h.elim⟩, Below.refl _ _, Nat.le_refl _⟩
theorem Sta.size (h : Sta N w0 O W) : N ≤ W.heap.size := Nat.le_trans h.big h.bel.size
theorem below_down {N : Nat} {W W' : World} (hb : Below W.heap.size W W') (hN : N ≤ W.heap.size) : Below N W W' := hb.mono hN
theorem Sta.below (h : Sta N w0 O W) (ho : O.Ok) (hb : Below W.heap.size W W') : Sta N w0 O W' := by
  obtain ⟨F, h1, h2⟩ := h.own
  exact ⟨⟨F, ho.keep h1 (fun i hi => hb.block i (ho.lt h1 i hi)), h2⟩, h.bel.trans (hb.mono h.size), h.big⟩
/-- Take A out for a call: what it leaves comes back. -/
theorem Sta.take (h : Sta N w0 (star A B) W) (hb : B.Ok) : ∃ F, A W F ∧ (∀ i, F i → N ≤ i) ∧ ∀ (R : Own) (W' : World), Post W F R W' → Sta N w0 (star R B) W' := by
  have hs := h.size
  obtain ⟨F, ⟨F1, F2, h1, h2, h3, h4⟩, h5⟩ := h.own
  refine ⟨F1, h1, fun i hi => h5 i ((h4 i).2 (.inl hi)), fun R W' hp => ?_⟩
  obtain ⟨F', g1, g2, g3⟩ := hp
  refine ⟨⟨fun i => F' i ∨ F2 i, ⟨F', F2, g1, hb.keep h2 (fun i hi => g2.block i (hb.lt h2 i hi) (fun hf => h3 i hf hi)), fun i hi hi2 => ?_, fun i => Iff.rfl⟩, fun i hi => ?_⟩, ?_, h.big⟩
  · rcases g3 i hi with g | g
    · exact h3 i g hi2
    · have := hb.lt h2 i hi2; omega
  · rcases hi with hi | hi
    · rcases g3 i hi with g | g
      · exact h5 i ((h4 i).2 (.inl g))
      · omega
    · exact h5 i ((h4 i).2 (.inr hi))
  · exact h.bel.trans ⟨g2.os, g2.tape, g2.output, g2.size, fun k hk => g2.block k (by omega) (fun e => by have := h5 k ((h4 k).2 (.inl e)); omega)⟩
/-- Something new. -/
theorem Sta.fresh (h : Sta N w0 O W) (ho : O.Ok) (hp : Post W (fun _ => False) R W') : Sta N w0 (star R O) W' := by
  have hs := h.size
  obtain ⟨F, h1, h2⟩ := h.own
  have h3 : Sta N w0 (star emp O) W := ⟨⟨F, ⟨fun _ => False, F, fun _ h => h, h1, fun _ h => h.elim, fun i => by simp⟩, h2⟩, h.bel, h.big⟩
  obtain ⟨F0, e1, e2, e3⟩ := h3.take ho
  refine e3 R W' ?_
  obtain ⟨F', g1, g2, g3⟩ := hp
  exact ⟨F', g1, g2.mono (fun _ _ h => h.elim), fun i hi => (g3 i hi).elim (fun h => h.elim) .inr⟩
theorem Sta.imp (h : Sta N w0 A W) (hi : ∀ w F, A w F → B w F) : Sta N w0 B W := by
  obtain ⟨F, h1, h2⟩ := h.own
  exact ⟨⟨F, hi _ _ h1, h2⟩, h.bel, h.big⟩
theorem star_comm {w : World} {F : Nat → Prop} (h : star A B w F) : star B A w F := by
  obtain ⟨F1, F2, h1, h2, h3, h4⟩ := h
  exact ⟨F2, F1, h2, h1, fun i h g => h3 i g h, fun i => (h4 i).trans Or.comm⟩
theorem star_rot {w : World} {F : Nat → Prop} (h : star A (star B C) w F) : star B (star A C) w F := by
  obtain ⟨F1, F2, h1, ⟨F3, F4, h2, h3, h5, h6⟩, h7, h8⟩ := h
  refine ⟨F3, fun i => F1 i ∨ F4 i, h2, ⟨F1, F4, h1, h3, fun i hi h4 => h7 i hi ((h6 i).2 (.inr h4)), fun i => Iff.rfl⟩, fun i hi h => ?_, fun i => ?_⟩
  · rcases h with h | h
    · exact h7 i h ((h6 i).2 (.inl hi))
    · exact h5 i hi h
  · rw [h8, h6]; constructor <;> rintro (h | h | h) <;> simp [h]
theorem star_mono {A' B' : Own} {w : World} {F : Nat → Prop} (h : star A B w F) (ha : ∀ F, A w F → A' w F) (hb : ∀ F, B w F → B' w F) : star A' B' w F := by
  obtain ⟨F1, F2, h1, h2, h3, h4⟩ := h
  exact ⟨F1, F2, ha _ h1, hb _ h2, h3, h4⟩
theorem star_emp {w : World} {F : Nat → Prop} (h : star A emp w F) : A w F := by
  obtain ⟨F1, F2, h1, h2, h3, h4⟩ := h
  have : F1 = F := by funext i; exact propext ⟨fun h => (h4 i).2 (.inl h), fun h => ((h4 i).1 h).elim id (fun h => (h2 i h).elim)⟩
  exact this ▸ h1
theorem Sta.swap (h : Sta N w0 (star A B) W) : Sta N w0 (star B A) W := h.imp fun _ _ => star_comm
theorem Sta.rot (h : Sta N w0 (star A (star B C)) W) : Sta N w0 (star B (star A C)) W := h.imp fun _ _ => star_rot
theorem Sta.rot3 (h : Sta N w0 (star A (star B (star C D))) W) : Sta N w0 (star C (star A (star B D))) W :=
  (h.imp fun _ _ h => star_mono h (fun _ h => h) (fun _ h => star_rot h)).rot
theorem Sta.drop (h : Sta N w0 (star A B) W) : Sta N w0 B W := by
  obtain ⟨F, ⟨F1, F2, h1, h2, h3, h4⟩, h5⟩ := h.own
  exact ⟨⟨F2, h2, fun i hi => h5 i ((h4 i).2 (.inr hi))⟩, h.bel, h.big⟩
theorem Sta.fst (h : Sta N w0 (star A B) W) : ∃ F, A W F ∧ ∀ i, F i → N ≤ i := by
  obtain ⟨F, ⟨F1, F2, h1, h2, h3, h4⟩, h5⟩ := h.own
  exact ⟨F1, h1, fun i hi => h5 i ((h4 i).2 (.inl hi))⟩
theorem Sta.one (h : Sta N w0 A W) : Sta N w0 (star A emp) W := by
  obtain ⟨F, h1, h2⟩ := h.own
  exact ⟨⟨F, ⟨F, fun _ => False, h1, fun _ h => h, fun _ _ h => h, fun i => by simp⟩, h2⟩, h.bel, h.big⟩
theorem Sta.cell (h : Sta N w0 O W) {p : Addr} {u : Value} (hc : w0.cell? p = some u) (hp : p.block < N) : W.cell? p = some u := by rw [h.bel.cell hp]; exact hc
theorem Sta.src (h : Sta N w0 O W) {A : Option Addr} {n size : Nat} {xs : List Value} (hs : Src w0 A n size xs) (hN : N = w0.heap.size) : Src W A n size xs := by
  subst hN
  refine ⟨hs.1, hs.2.1, fun hn => ?_⟩
  obtain ⟨ad, e, hc⟩ := hs.2.2 hn
  exact ⟨ad, e, fun j u hu => h.cell (hc j u hu) (World.block_lt_of_cell? _ _ (hc j u hu))⟩
end

theorem Sta.last {N : Nat} {w0 W : World} {A B C : Own} (h : Sta N w0 (star A (star B C)) W) : Sta N w0 (star C (star A B)) W :=
  (h.imp fun _ _ h => star_mono h (fun _ h => h) (fun _ h => star_comm h)).rot
/-- The block g holds the cells cs. -/
def CellO (g : Nat) (cs : Array Value) (t : TypeId) : Own := fun w F => w.heap[g]? = some (.cells cs t (0, 0)) ∧ ∀ i, F i ↔ i = g
theorem cell_ok {g : Nat} {cs : Array Value} {t : TypeId} : (CellO g cs t).Ok :=
  ⟨fun h i hi => by rw [(h.2 i).1 hi]; exact lt_of_block h.1, fun h hk => ⟨(hk g ((h.2 g).2 rfl)).trans h.1, h.2⟩⟩
theorem cell_new (w : World) (cs : Array Value) (t : TypeId) : Post w (fun _ => False) (CellO w.heap.size cs t) (w.alloc (.cells cs t)) :=
  ⟨fun i => i = w.heap.size, ⟨heap_new rfl, fun i => Iff.rfl⟩, Mod.of_below ((Below.refl _ _).alloc (Nat.le_refl _) _), fun i hi => .inr (by subst hi; simp)⟩

/-! ### Rows -/
/-- The slice v of n elements owns its row of cells xs. -/
def RowO (e : TypeId) (size : Nat) (v : Value) (n : Nat) (xs : List Value) : Own := fun w F => w.ownsRow 0 e size v n xs ∧ ∀ i, F i ↔ v.ownBlock = some i
theorem row_ok {e : TypeId} {size : Nat} {v : Value} {n : Nat} {xs : List Value} : (RowO e size v n xs).Ok :=
  ⟨fun h i hi => ownsRow_lt h.1 ((h.2 i).1 hi), fun h hk => ⟨ownsRow_of_block h.1 (fun g hg => hk g ((h.2 g).2 hg)), h.2⟩⟩
theorem row_nil (w : World) (e : TypeId) (size : Nat) : RowO e size (.slice none 0 0) 0 [] w (fun _ => False) := ⟨World.ownsRow_nil _ _ _ _, fun i => by simp [Value.ownBlock]⟩
theorem row_base {w : World} {b b' : Nat} {e : TypeId} {size : Nat} {v : Value} {n : Nat} {xs : List Value} (h : w.ownsRow b e size v n xs) (hb : b' ≤ b) : w.ownsRow b' e size v n xs :=
  ⟨h.1, h.2.imp id (fun ⟨g, cap, cur, h1, h2, h3⟩ => ⟨g, cap, cur, h1, Nat.le_trans hb h2, h3⟩)⟩
/-- What an append leaves. -/
theorem row_app {W W' : World} {F : Nat → Prop} {e : TypeId} {size : Nat} {v v' : Value} {n n' : Nat} {xs xs' : List Value} (h : RowO e size v n xs W F) (h1 : W'.ownsRow 0 e size v' n' xs') (hg : W.grownBy W' v.ownBlock) (hv : v'.ownBlock = v.ownBlock ∨ v'.ownBlock = some W.heap.size) :
    Post W F (RowO e size v' n' xs') W' := by
  refine ⟨fun i => v'.ownBlock = some i, ⟨h1, fun i => Iff.rfl⟩, Mod.of_grown hg (fun k hk _ => (h.2 k).2 hk), fun i hi => ?_⟩
  rcases hv with hv | hv
  · exact .inl ((h.2 i).2 (hv ▸ hi))
  · rw [hv] at hi; injection hi with hi; subst hi
    exact .inr ⟨Nat.le_refl _, ownsRow_lt h1 hv⟩
/-- .. with something laid into a new block first. -/
theorem row_app1 {W W' : World} {F : Nat → Prop} {o : Obj} {e : TypeId} {size : Nat} {v v' : Value} {n n' : Nat} {xs xs' : List Value} (h : RowO e size v n xs W F) (h1 : W'.ownsRow 0 e size v' n' xs') (hg : (W.alloc o).grownBy W' v.ownBlock) (hv : v'.ownBlock = v.ownBlock ∨ v'.ownBlock = some (W.alloc o).heap.size) :
    Post W F (RowO e size v' n' xs') W' := by
  have hr : RowO e size v n xs (W.alloc o) F := row_ok.keep h (fun i hi => heap_old (row_ok.lt h i hi))
  obtain ⟨F', g1, g2, g3⟩ := row_app hr h1 hg hv
  refine ⟨F', g1, (Mod.of_below (F := F) ((Below.refl _ _).alloc (Nat.le_refl _) o)).trans g2 (fun _ _ h => h) (fun _ _ h => h), fun i hi => (g3 i hi).imp id (fun h => ⟨by have := h.1; simp at this; omega, h.2⟩)⟩
/-- A row that a call has made. -/
theorem row_new {W W' : World} {e : TypeId} {size : Nat} {v : Value} {n : Nat} {xs : List Value} (h : W'.ownsRow W.heap.size e size v n xs) (hb : Below W.heap.size W W') : Post W (fun _ => False) (RowO e size v n xs) W' :=
  ⟨fun i => v.ownBlock = some i, ⟨row_base h (Nat.zero_le _), fun i => Iff.rfl⟩, Mod.of_below hb, fun i hi => .inr (h.lt i hi)⟩
theorem row_src {W : World} {F : Nat → Prop} {e : TypeId} {size n c : Nat} {A : Option Addr} {xs : List Value} (h : RowO e size (.slice A n c) n xs W F) (h1 : ∀ u ∈ xs, u.oneCell' = true) : Src W A n size xs := Src.of_own h.1 h1
theorem own_form {W : World} {b : Nat} {e : TypeId} {size n : Nat} {v : Value} {xs : List Value} (h : W.ownsRow b e size v n xs) : ∃ A c, v = .slice A n c := by
  rcases h.2 with ⟨rfl, rfl⟩ | ⟨g, cap, cur, rfl, _⟩
  · exact ⟨none, 0, rfl⟩
  · exact ⟨_, _, rfl⟩
end Go.CH
namespace Go.CH
open Go.RowKit

/-- The state of a call that began in w0 with the blocks F0: O in blocks of F0 or new ones; nothing else has turned. -/
structure Run (F0 : Nat → Prop) (w0 : World) (O : Own) (W : World) : Prop where
  own : ∃ F, O W F ∧ ∀ i, F i → F0 i ∨ w0.heap.size ≤ i
  mod : Mod F0 w0 W
section
variable {F0 : Nat → Prop} {w0 W W' : World} {A B C D O R : Own}
theorem Run.start {F0 : Nat → Prop} {w : World} (h : O w F0) : Run F0 w O w := ⟨⟨F0, h, fun i hi => .inl hi⟩, Mod.refl _ _⟩
theorem Run.begin (w : World) : Run (fun _ => False) w emp w := ⟨⟨fun _ => False, fun _ h => h, fun _ h => h.elim⟩, Mod.refl _ _⟩
theorem Run.size (h : Run F0 w0 O W) : w0.heap.size ≤ W.heap.size := h.mod.size
theorem Run.bel (h : Run (fun _ => False) w0 O W) : Below w0.heap.size w0 W := h.mod.below (fun _ _ h => h)
theorem Run.post (h : Run F0 w0 O W) (ho : O.Ok) : Post w0 F0 O W := by
  obtain ⟨F, h1, h2⟩ := h.own
  exact ⟨F, h1, h.mod, fun i hi => (h2 i hi).imp id (fun g => ⟨g, ho.lt h1 i hi⟩)⟩
theorem Run.imp (h : Run F0 w0 A W) (hi : ∀ w F, A w F → B w F) : Run F0 w0 B W := by
  obtain ⟨F, h1, h2⟩ := h.own
  exact ⟨⟨F, hi _ _ h1, h2⟩, h.mod⟩
/-- A call that only makes blocks. -/
theorem Run.below (h : Run F0 w0 O W) (ho : O.Ok) (hb : Below W.heap.size W W') : Run F0 w0 O W' := by
  obtain ⟨F, h1, h2⟩ := h.own
  exact ⟨⟨F, ho.keep h1 (fun i hi => hb.block i (ho.lt h1 i hi)), h2⟩, h.mod.trans (Mod.of_below (F := fun _ => False) hb) (fun _ _ h => h) (fun _ _ h => h.elim)⟩
theorem Run.drew (h : Run F0 w0 O W) (ho : O.Ok) : Run F0 w0 O W.drew := h.below ho (below_drew (Below.refl _ _))
theorem Run.drewN (h : Run F0 w0 O W) (ho : O.Ok) (n : Nat) : Run F0 w0 O (W.drewN n) := h.below ho (below_drewN (Below.refl _ _) n)
/-- Take A out for a call: what it leaves comes back. -/
theorem Run.take (h : Run F0 w0 (star A B) W) (ha : A.Ok) (hb : B.Ok) : ∃ F, A W F ∧ (∀ i, F i → F0 i ∨ w0.heap.size ≤ i) ∧ ∀ (R : Own) (W' : World), Post W F R W' → Run F0 w0 (star R B) W' := by
  have hs := h.size
  obtain ⟨F, ⟨F1, F2, h1, h2, h3, h4⟩, h5⟩ := h.own
  refine ⟨F1, h1, fun i hi => h5 i ((h4 i).2 (.inl hi)), fun R W' hp => ?_⟩
  obtain ⟨F', g1, g2, g3⟩ := hp
  refine ⟨⟨fun i => F' i ∨ F2 i, ⟨F', F2, g1, hb.keep h2 (fun i hi => g2.block i (hb.lt h2 i hi) (fun hf => h3 i hf hi)), fun i hi hi2 => ?_, fun i => Iff.rfl⟩, fun i hi => ?_⟩, ?_⟩
  · rcases g3 i hi with g | g
    · exact h3 i g hi2
    · have := hb.lt h2 i hi2; omega
  · rcases hi with hi | hi
    · rcases g3 i hi with g | g
      · exact h5 i ((h4 i).2 (.inl g))
      · exact .inr (by omega)
    · exact h5 i ((h4 i).2 (.inr hi))
  · exact h.mod.trans g2 (fun _ _ h => h) (fun i hi hf => (h5 i ((h4 i).2 (.inl hf))).elim id (fun g => by omega))
theorem Run.one (h : Run F0 w0 A W) : Run F0 w0 (star A emp) W := by
  obtain ⟨F, h1, h2⟩ := h.own
  exact ⟨⟨F, ⟨F, fun _ => False, h1, fun _ h => h, fun _ _ h => h, fun i => by simp⟩, h2⟩, h.mod⟩
/-- The whole of what is owned goes into a call. -/
theorem Run.all (h : Run F0 w0 A W) (ha : A.Ok) : ∃ F, A W F ∧ ∀ (R : Own) (W' : World), Post W F R W' → Run F0 w0 R W' := by
  obtain ⟨F, h1, -, h2⟩ := h.one.take ha emp_ok
  exact ⟨F, h1, fun R W' hp => (h2 R W' hp).imp fun _ _ h => star_emp h⟩
/-- Something new. -/
theorem Run.fresh (h : Run F0 w0 O W) (ho : O.Ok) (hp : Post W (fun _ => False) R W') : Run F0 w0 (star R O) W' := by
  have h1 : Run F0 w0 (star emp O) W := h.one.imp fun _ _ h => star_comm h
  obtain ⟨F, e1, -, e2⟩ := h1.take emp_ok ho
  refine e2 R W' ?_
  obtain ⟨F', g1, g2, g3⟩ := hp
  exact ⟨F', g1, g2.mono (fun _ _ h => h.elim), fun i hi => (g3 i hi).elim (fun h => h.elim) .inr⟩
theorem Run.swap (h : Run F0 w0 (star A B) W) : Run F0 w0 (star B A) W := h.imp fun _ _ => star_comm
theorem Run.rot (h : Run F0 w0 (star A (star B C)) W) : Run F0 w0 (star B (star A C)) W := h.imp fun _ _ => star_rot
theorem Run.last (h : Run F0 w0 (star A (star B C)) W) : Run F0 w0 (star C (star A B)) W :=
  (h.imp fun _ _ h => star_mono h (fun _ h => h) (fun _ h => star_comm h)).rot
theorem Run.rot3 (h : Run F0 w0 (star A (star B (star C D))) W) : Run F0 w0 (star C (star A (star B D))) W :=
  (h.imp fun _ _ h => star_mono h (fun _ h => h) (fun _ h => star_rot h)).rot
theorem Run.last3 (h : Run F0 w0 (star A (star B (star C D))) W) : Run F0 w0 (star D (star A (star B C))) W :=
  (h.imp fun _ _ h => star_mono h (fun _ h => h) (fun _ h => star_rot (star_mono h (fun _ h => h) (fun _ h => star_comm h)))).rot
theorem Run.in2 (h : Run F0 w0 (star A (star B C)) W) : Run F0 w0 (star A (star C B)) W := h.imp fun _ _ h => star_mono h (fun _ h => h) (fun _ h => star_comm h)
theorem Run.drop (h : Run F0 w0 (star A B) W) : Run F0 w0 B W := by
  obtain ⟨F, ⟨F1, F2, h1, h2, h3, h4⟩, h5⟩ := h.own
  exact ⟨⟨F2, h2, fun i hi => h5 i ((h4 i).2 (.inr hi))⟩, h.mod⟩
theorem Run.fst (h : Run F0 w0 (star A B) W) : ∃ F, A W F := by
  obtain ⟨F, ⟨F1, F2, h1, h2, h3, h4⟩, h5⟩ := h.own
  exact ⟨F1, h1⟩
theorem Run.get (h : Run F0 w0 A W) : ∃ F, A W F := by
  obtain ⟨F, h1, _⟩ := h.own
  exact ⟨F, h1⟩
theorem Run.cell (h : Run F0 w0 O W) {p : Addr} {u : Value} (hc : w0.cell? p = some u) (hp : ¬ F0 p.block) : W.cell? p = some u := by rw [h.mod.cell (World.block_lt_of_cell? _ _ hc) hp]; exact hc
theorem Run.src (h : Run F0 w0 O W) {A : Option Addr} {n size : Nat} {xs : List Value} (hs : Src w0 A n size xs) (hn : ∀ ad : Addr, A = some ad → ¬ F0 ad.block) : Src W A n size xs := by
  refine ⟨hs.1, hs.2.1, fun h0 => ?_⟩
  obtain ⟨ad, e, hc⟩ := hs.2.2 h0
  exact ⟨ad, e, fun j u hu => h.cell (hc j u hu) (by rw [Addr.add_block]; exact hn ad e)⟩
theorem Run.src0 (h : Run (fun _ => False) w0 O W) {A : Option Addr} {n size : Nat} {xs : List Value} (hs : Src w0 A n size xs) : Src W A n size xs := h.src hs (fun _ _ h => h)
theorem star_assoc {w : World} {F : Nat → Prop} (h : star (star A B) C w F) : star A (star B C) w F := by
  obtain ⟨F1, F2, ⟨F3, F4, h1, h2, h3, h4⟩, h5, h6, h7⟩ := h
  refine ⟨F3, fun i => F4 i ∨ F2 i, h1, ⟨F4, F2, h2, h5, fun i h g => h6 i ((h4 i).2 (.inr h)) g, fun i => Iff.rfl⟩, fun i hi hg => ?_, fun i => ?_⟩
  · rcases hg with hg | hg
    · exact h3 i hi hg
    · exact h6 i ((h4 i).2 (.inl hi)) hg
  · rw [h7, h4, or_assoc]
theorem Run.assoc (h : Run F0 w0 (star (star A B) C) W) : Run F0 w0 (star A (star B C)) W := h.imp fun _ _ => star_assoc
end
/-- A new row of no elements. -/
theorem row_made (w : World) (e : TypeId) (size : Nat) : Post w (fun _ => False) (RowO e size (.slice (some ⟨w.heap.size, 0, none⟩) 0 0) 0 []) (w.alloc (.cells #[] e)) :=
  row_new (World.ownsRow_made w #[] 0 (Nat.le_refl _) (by simp [maxLen]) (by simp)) ((Below.refl _ _).alloc (Nat.le_refl _) _)
theorem Src.take {w : World} {A : Option Addr} {n size k : Nat} {xs : List Value} (h : Src w A n size xs) (hk : k ≤ n) : Src w A k size (xs.take (k * size)) := by
  refine ⟨?_, fun u hu => h.2.1 u (List.mem_of_mem_take hu), fun hn => ?_⟩
  · rw [List.length_take, h.1]; exact Nat.min_eq_left (Nat.mul_le_mul_right _ hk)
  · obtain ⟨ad, e, hc⟩ := h.2.2 (by omega)
    exact ⟨ad, e, fun j u hu => hc j u (by rw [List.getElem?_take] at hu; split at hu; exact hu; cases hu)⟩
theorem run_slice_to {P : Program} {t e : TypeId} {z : Value} {size bytes : Nat} (S : SliceOk P t e z size bytes) (A : Option Addr) (n c k : Nat) (kd : IntKind) (l : Int) (hl : l = k) (h : k ≤ c) (w : World) :
    (Instr.slice t (.slice A n c) none (some (.int kd l)) none).run P w = .ok (.slice A k c) w := by
  obtain ⟨ht, hi, hz, hsz⟩ := S
  obtain ⟨i, hi, hi1, hi2, hi3⟩ := info_parts hi
  subst hl
  have h0 : (0 : Int) ≤ k ∧ (k : Int) ≤ c := by omega
  cases A <;> simp [Instr.slice, run_underlying ht, Instr.sliceBounds, Instr.sliceBound, asIntOf, h, sizeOf, typeInfo, hi, hi2, Addr.add]
theorem row_cap {w : World} {base : Nat} {e : TypeId} {size n c : Nat} {A : Option Addr} {xs : List Value} (h : w.ownsRow base e size (.slice A n c) n xs) : n ≤ c ∧ (A = none → c = 0) := by
  rcases h.2 with ⟨h1, h2⟩ | ⟨g, cap, cur, h1, _, _, h3, _⟩
  · injection h1 with e1 e2 e3; omega
  · injection h1 with e1 e2 e3; subst e3; exact ⟨h3, fun e => by rw [e] at e1; cases e1⟩
theorem set_row_ {w : World} {b i : Nat} {cur : Array Value} {t : TypeId} (v : Value) (h : w.heap[b]? = some (.cells cur t)) : (w.setCell ⟨b, i, none⟩ v).heap[b]? = some (.cells (cur.setIfInBounds i v) t) := by
  rw [setCell_eq_setRow w b i cur t (0, 0) v h]
  exact setRow_heap w b cur _ t (0, 0) h
theorem cell_set {w : World} {F : Nat → Prop} {g : Nat} {cs : Array Value} {t : TypeId} (h : CellO g cs t w F) (i : Nat) (v : Value) : Post w F (CellO g (cs.setIfInBounds i v) t) (w.setCell ⟨g, i, none⟩ v) :=
  ⟨F, ⟨set_row_ v h.1, h.2⟩, (Mod.refl _ _).setCell v (fun _ => (h.2 g).2 rfl), fun i hi => .inl hi⟩
theorem cell_at {w : World} {F : Nat → Prop} {g : Nat} {cs : Array Value} {t : TypeId} (h : CellO g cs t w F) {i : Nat} {v : Value} (hv : cs[i]? = some v) : w.cell? ⟨g, i, none⟩ = some v := by
  simp [World.cell?, h.1, hv]
theorem cell_free {w : World} {F : Nat → Prop} {g : Nat} {cs : Array Value} {t : TypeId} (h : CellO g cs t w F) (i : Nat) : w.frozen? ⟨g, i, none⟩ = false := by
  simp [World.frozen?, h.1]
end Go.CH
