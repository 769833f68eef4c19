/-
  Licence: the story of a book: what its keys hold, and when its licences were revoked.
  Licence: sums over the steps are what the book says.
  LicenceNeverOverspent: the sums.
  LicenceNeverOverspent: the sums, whatever comes in; what the law's walk needs.
-/
import Derived.Test.YtapabbpdfplpoaaM14
import Derived.Test.YtapabbpdfplpoaaM15
set_option linter.unusedSimpArgs false
set_option linter.unusedVariables false
namespace Go.CH.Lic

def upd (nm : ByteArray) (x : StepM) (e : Int) (v : Int × Int) : Int × Int :=
  if x.key ≠ nm then v else if x.k = 5 ∧ e = 0 then (x.un, v.2) else if x.k = 6 ∧ e = 0 then (v.1 - x.un, v.2) else if ((x.k < 0 ∨ 6 < x.k) ∧ e = 0) ∨ (x.k = 5 ∧ e = 22) then (0, 0) else v
def valK (k : KeyM) : Int × Int := (unC k, if k.st = 2 then 0 else 1)
theorem upd_low {nm : ByteArray} {x : StepM} {e : Int} {v : Int × Int} (h0 : 0 ≤ x.k) (h4 : x.k ≤ 4) : upd nm x e v = v := by
  unfold upd
  split
  · rfl
  · rw [if_neg (by omega), if_neg (by omega), if_neg (by omega)]
theorem upd_other {nm : ByteArray} {x : StepM} {e : Int} {v : Int × Int} (h : x.key ≠ nm) : upd nm x e v = v := if_pos h
/-- What a step does to the keys. -/
structure KeyLaw (b b' : BkM) (x : StepM) (e : Int) : Prop where
  old : ∀ j, j < b.ks.length → (kat b' j).nm = (kat b j).nm ∧ (kat b' j).gi = (kat b j).gi ∧ valK (kat b' j) = upd (kat b j).nm x e (valK (kat b j))
  no : ¬ (x.k = 4 ∧ e = 0) → b'.ks.length = b.ks.length
  yes : x.k = 4 ∧ e = 0 → b'.ks.length = b.ks.length + 1 ∧ ∃ i, i < b.gs.length ∧ (gat b i).l.id = x.id ∧ kat b' b.ks.length = ⟨x.key, i, 0, x.un⟩
theorem KeyLaw.keep {b b' : BkM} {x : StepM} {e : Int} (h : b'.ks = b.ks) (h2 : ¬ (x.k = 4 ∧ e = 0)) (hu : ∀ j, j < b.ks.length → upd (kat b j).nm x e (valK (kat b j)) = valK (kat b j)) : KeyLaw b b' x e := by
  have hk : ∀ j, kat b' j = kat b j := fun j => by unfold kat; rw [h]
  exact ⟨fun j hj => by rw [hk]; exact ⟨rfl, rfl, (hu j hj).symm⟩, fun _ => by rw [h], fun h => absurd h h2⟩
theorem grant_ks (b : BkM) (l : LicM) : (grantR b l).2.ks = b.ks := by
  unfold grantR; split; · rfl
  split; · rfl
  split <;> rfl
theorem revoke_ks (b : BkM) (id : ByteArray) (a : Int) : (revokeR b id a).2.ks = b.ks := by
  rcases revoke_cases b id a with ⟨_, h⟩ | ⟨i, _, _, _, h⟩
  · rw [h]
  · rw [h]; rfl
theorem amend_ks (b : BkM) (id : ByteArray) (q u t : Int) : (amendR b id q u t).2.ks = b.ks := by
  unfold amendR
  cases findG b id with
  | none => rfl
  | some i =>
    simp only
    split; · rfl
    split; · rfl
    split <;> rfl
theorem split_ks (b : BkM) (id into : ByteArray) (q u : Int) : (splitR b id into q u).2.ks = b.ks := by
  rcases split_cases b id into q u with ⟨_, h⟩ | ⟨i, _, _, _, _, _, _, _, _, _, h⟩
  · rw [h]
  · rw [h]; rfl
theorem kat_put {b : BkM} {j : Nat} (hj : j < b.ks.length) (k : KeyM) (i : Nat) : kat (putK b j k) i = if i = j then k else kat b i := by
  unfold kat putK
  simp only [List.getD_eq_getElem?_getD, List.getElem?_set]
  by_cases h : j = i
  · subst h; simp [hj]
  · simp [h, show ¬ i = j from fun e => h e.symm]
theorem nm_inj {b : BkM} (h : Inv2 b) {i j : Nat} (hi : i < b.ks.length) (hj : j < b.ks.length) (he : (kat b i).nm = (kat b j).nm) : i = j := by
  have : (b.ks.map (·.nm))[i]'(by simpa using hi) = (b.ks.map (·.nm))[j]'(by simpa using hj) := by
    simp only [List.getElem_map]; rw [← kat_get hi, ← kat_get hj, he]
  exact (List.getElem_inj h.nms).1 this
theorem law_set {b : BkM} (h : Inv2 b) {j0 : Nat} (hj0 : j0 < b.ks.length) {x : StepM} {e : Int} (hx : (kat b j0).nm = x.key) (h4 : ¬ (x.k = 4 ∧ e = 0)) (k' : KeyM) (hk : k'.nm = (kat b j0).nm) (hg : k'.gi = (kat b j0).gi) (hv : valK k' = upd (kat b j0).nm x e (valK (kat b j0))) (b' : BkM) (hb : b'.ks = (putK b j0 k').ks) : KeyLaw b b' x e := by
  have hkat : ∀ j, kat b' j = if j = j0 then k' else kat b j := fun j => by
    have : kat b' j = kat (putK b j0 k') j := by unfold kat; rw [hb]
    rw [this, kat_put hj0]
  refine ⟨fun j hj => ?_, fun _ => by rw [hb, putK_len], fun h => absurd h h4⟩
  rw [hkat]
  by_cases e1 : j = j0
  · subst e1; rw [if_pos rfl]; exact ⟨hk, hg, hv⟩
  · rw [if_neg e1]
    refine ⟨rfl, rfl, (upd_other (fun e2 => e1 (nm_inj h hj hj0 (by rw [hx, e2])))).symm⟩
theorem law_keep_err {b : BkM} {x : StepM} {e : Int} (h0 : e ≠ 0) (h22 : e ≠ 22) : KeyLaw b b x e :=
  KeyLaw.keep rfl (fun h => h0 h.2) fun j _ => by
    unfold upd; split
    · rfl
    · rw [if_neg (fun h => h0 h.2), if_neg (fun h => h0 h.2), if_neg (fun h => h.elim (fun h => h0 h.2) (fun h => h22 h.2))]
theorem law_err {b : BkM} {x : StepM} (e : Int) (h0 : e ≠ 0) (h22 : e ≠ 22) : KeyLaw b b x e := law_keep_err h0 h22
theorem key_law {b : BkM} (h : Inv2 b) (x : StepM) : KeyLaw b (doR b x).2 x (doR b x).1 := by
  unfold doR
  by_cases x0 : x.k = 0
  · rw [if_pos x0]; exact KeyLaw.keep (grant_ks _ _) (by omega) fun j _ => upd_low (by omega) (by omega)
  rw [if_neg x0]
  by_cases x1 : x.k = 1
  · rw [if_pos x1]; exact KeyLaw.keep (revoke_ks _ _ _) (by omega) fun j _ => upd_low (by omega) (by omega)
  rw [if_neg x1]
  by_cases x2 : x.k = 2
  · rw [if_pos x2]; exact KeyLaw.keep (amend_ks _ _ _ _ _) (by omega) fun j _ => upd_low (by omega) (by omega)
  rw [if_neg x2]
  by_cases x3 : x.k = 3
  · rw [if_pos x3]; exact KeyLaw.keep (split_ks _ _ _ _ _) (by omega) fun j _ => upd_low (by omega) (by omega)
  rw [if_neg x3]
  by_cases x4 : x.k = 4
  · rw [if_pos x4]
    unfold reserveR
    split
    · exact (law_err 1 (by decide) (by decide))
    cases hf : findG b x.id with
    | none => exact (law_err 11 (by decide) (by decide))
    | some i =>
      obtain ⟨hi, he, _⟩ := findG_some hf
      simp only
      split
      · exact (law_err 9 (by decide) (by decide))
      split
      · exact (law_err 28 (by decide) (by decide))
      split
      · exact (law_err 12 (by decide) (by decide))
      split
      · exact (law_err 19 (by decide) (by decide))
      refine ⟨fun j hj => ?_, fun h => absurd ⟨x4, rfl⟩ h, fun _ => ⟨by simp [putG], i, hi, he, by simp [kat, putG, List.getD_eq_getElem?_getD]⟩⟩
      have : kat (putG { b with ks := b.ks ++ [⟨x.key, i, 0, x.un⟩] } i { gat b i with su := (gat b i).su + x.un, sn := (gat b i).sn + 1 }) j = kat b j := by
        simp [kat, putG, List.getD_eq_getElem?_getD, List.getElem?_append_left hj]
      rw [this]
      exact ⟨rfl, rfl, (upd_low (by omega) (by omega)).symm⟩
  rw [if_neg x4]
  by_cases x5 : x.k = 5
  · rw [if_pos x5]
    unfold useR
    cases hf : findK b x.key with
    | none => exact (law_err 11 (by decide) (by decide))
    | some j =>
      obtain ⟨hj, he, _⟩ := findK_some hf
      simp only
      split
      · exact (law_err 1 (by decide) (by decide))
      split
      · exact (law_err 12 (by decide) (by decide))
      rename_i hs
      have hs0 : (kat b j).st = 0 := by simp only [ne_eq, Decidable.not_not] at hs; exact hs
      split
      · refine law_set h hj he (by omega) { kat b j with st := 2 } rfl rfl ?_ _ rfl
        unfold upd
        rw [if_neg (by rw [he]; simp), if_neg (by omega), if_neg (by omega), if_pos (.inr ⟨x5, rfl⟩)]
        simp [valK, unC]
      split
      · exact (law_err 19 (by decide) (by decide))
      refine law_set h hj he (by omega) { kat b j with st := 1, un := x.un } rfl rfl ?_ _ rfl
      unfold upd
      rw [if_neg (by rw [he]; simp), if_pos ⟨x5, rfl⟩]
      simp [valK, unC, hs0]
  rw [if_neg x5]
  by_cases x6 : x.k = 6
  · rw [if_pos x6]
    unfold returnR
    cases hf : findK b x.key with
    | none => exact (law_err 11 (by decide) (by decide))
    | some j =>
      obtain ⟨hj, he, _⟩ := findK_some hf
      simp only
      split
      · exact (law_err 1 (by decide) (by decide))
      split
      · exact (law_err 12 (by decide) (by decide))
      rename_i hs
      have hs1 : (kat b j).st = 1 := by simp only [ne_eq, Decidable.not_not] at hs; exact hs
      split
      · exact (law_err 19 (by decide) (by decide))
      refine law_set h hj he (by omega) { kat b j with st := 1, un := (kat b j).un - x.un } rfl rfl ?_ _ rfl
      unfold upd
      rw [if_neg (by rw [he]; simp), if_neg (by omega), if_pos ⟨x6, rfl⟩]
      simp [valK, unC, hs1]
  rw [if_neg x6]
  unfold releaseR
  cases hf : findK b x.key with
  | none => exact (law_err 11 (by decide) (by decide))
  | some j =>
    obtain ⟨hj, he, _⟩ := findK_some hf
    simp only
    split
    · exact (law_err 12 (by decide) (by decide))
    refine law_set h hj he (by omega) { kat b j with st := 2 } rfl rfl ?_ _ rfl
    unfold upd
    rw [if_neg (by rw [he]; simp), if_neg (by omega), if_neg (by omega), if_pos (.inl ⟨by omega, rfl⟩)]
    simp [valK, unC]
/-! Instants of revocation -/
def isRev (x : StepM) (e : Int) (id : ByteArray) : Prop := x.k = 1 ∧ e = 0 ∧ x.id = id
instance (x : StepM) (e : Int) (id : ByteArray) : Decidable (isRev x e id) := by unfold isRev; infer_instance
structure EndLaw (b b' : BkM) (x : StepM) (e : Int) : Prop where
  old : ∀ i, i < b.gs.length → (gat b' i).e = if isRev x e (gat b i).l.id then x.a else (gat b i).e
  neg : ∀ i, i < b.gs.length → isRev x e (gat b i).l.id → (gat b i).e < 0 ∧ 0 ≤ x.a
  new : ∀ i, b.gs.length ≤ i → i < b'.gs.length → (gat b' i).e = -1 ∧ ∀ j, j < b.gs.length → (gat b' i).l.id ≠ (gat b j).l.id
  is : x.k = 1 → e = 0 → ∃ i, i < b.gs.length ∧ (gat b i).l.id = x.id
theorem EndLaw.same {b b' : BkM} {x : StepM} {e : Int} (hx : x.k ≠ 1 ∨ e ≠ 0) (h : ∀ i, i < b.gs.length → (gat b' i).e = (gat b i).e) (hl : b'.gs.length = b.gs.length) : EndLaw b b' x e := by
  have hn : ∀ id, ¬ isRev x e id := fun id hr => by unfold isRev at hr; rcases hx with hx | hx; exact hx hr.1; exact hx hr.2.1
  exact ⟨fun i hi => by rw [if_neg (hn _)]; exact h i hi, fun i hi hr => absurd hr (hn _), fun i h1 h2 => by omega, fun h1 h2 => by rcases hx with hx | hx; exact absurd h1 hx; exact absurd h2 hx⟩
theorem put_e {b : BkM} {i0 : Nat} (hi : i0 < b.gs.length) {g : GrM} (hg : g.e = (gat b i0).e) (i : Nat) : (gat (putG b i0 g) i).e = (gat b i).e := by
  rw [gat_putG hi]; split
  · rename_i e; subst e; exact hg
  · rfl
theorem end_add {b b1 : BkM} {x : StepM} {l : LicM} (hx : x.k ≠ 1) (hl : b1.gs.length = b.gs.length) (he : ∀ i, i < b.gs.length → (gat b1 i).e = (gat b i).e) (hid : ∀ g ∈ b.gs, g.l.id ≠ l.id) (e : Int) : EndLaw b (addM b1 l) x e := by
  have hn : ∀ id, ¬ isRev x e id := fun id hr => hx hr.1
  refine ⟨fun i hi => ?_, fun i hi hr => absurd hr (hn _), fun i h1 h2 => ?_, fun h1 => absurd h1 hx⟩
  · rw [if_neg (hn _), gat_add, if_pos (by rw [hl]; exact hi)]; exact he i hi
  · rw [add_len] at h2
    obtain rfl : i = b.gs.length := by omega
    rw [gat_add, hl, if_neg (Nat.lt_irrefl _), if_pos rfl]
    exact ⟨rfl, fun j hj => fun e2 => hid _ (gat_mem hj) e2.symm⟩
theorem end_law {b : BkM} (h : Inv2 b) (x : StepM) : EndLaw b (doR b x).2 x (doR b x).1 := by
  unfold doR
  by_cases x0 : x.k = 0
  · rw [if_pos x0]
    unfold grantR
    split
    · exact EndLaw.same (.inl (by omega)) (fun _ _ => rfl) rfl
    split
    · exact EndLaw.same (.inl (by omega)) (fun _ _ => rfl) rfl
    split
    · exact EndLaw.same (.inl (by omega)) (fun _ _ => rfl) rfl
    rename_i c d
    exact end_add (by omega) rfl (fun _ _ => rfl) (findG_none (by simpa using c)) _
  rw [if_neg x0]
  by_cases x1 : x.k = 1
  · rw [if_pos x1]
    rcases revoke_cases b x.id x.a with ⟨h1, h2⟩ | ⟨i0, hf, hneg, ha, hr⟩
    · rw [h2]; exact EndLaw.same (.inr h1) (fun _ _ => rfl) rfl
    · obtain ⟨hi, he, _⟩ := findG_some hf
      rw [hr]
      have ha' := inst_iff.1 ha
      refine ⟨fun i hi2 => ?_, fun i hi2 hrv => ?_, fun i h1 h2 => by simp only [putG_len] at h2; omega, fun _ _ => ⟨i0, hi, he⟩⟩
      · simp only
        rw [gat_putG hi]
        by_cases e : i = i0
        · subst e; rw [if_pos rfl, if_pos ⟨x1, rfl, he.symm⟩]
        · rw [if_neg e, if_neg]
          intro hr2
          have : findG b x.id = some i := (findG_iff h).2 ⟨hi2, hr2.2.2.symm⟩
          rw [hf] at this; injection this with this; exact e this.symm
      · have : findG b x.id = some i := (findG_iff h).2 ⟨hi2, hrv.2.2.symm⟩
        rw [hf] at this; injection this with this; subst this
        exact ⟨hneg, ha'.1⟩
  rw [if_neg x1]
  by_cases x2 : x.k = 2
  · rw [if_pos x2]
    unfold amendR
    cases hf : findG b x.id with
    | none => exact EndLaw.same (.inl x1) (fun _ _ => rfl) rfl
    | some i0 =>
      obtain ⟨hi, he, _⟩ := findG_some hf
      simp only
      split
      · exact EndLaw.same (.inl x1) (fun _ _ => rfl) rfl
      split
      · exact EndLaw.same (.inl x1) (fun _ _ => rfl) rfl
      split
      · exact EndLaw.same (.inl x1) (fun _ _ => rfl) rfl
      exact EndLaw.same (.inl x1) (fun i _ => put_e hi (g := { gat b i0 with l := amendL (gat b i0).l x.un x.us x.a }) rfl i) (putG_len _ _ _)
  rw [if_neg x2]
  by_cases x3 : x.k = 3
  · rw [if_pos x3]
    rcases split_cases b x.id x.key x.un x.us with ⟨h1, h2⟩ | ⟨i0, hf, hneg, hnone, _, _, _, _, _, _, hr⟩
    · rw [h2]; exact EndLaw.same (.inl x1) (fun _ _ => rfl) rfl
    · obtain ⟨hi, he, _⟩ := findG_some hf
      rw [hr]
      exact end_add x1 (putG_len _ _ _) (fun i _ => put_e hi (g := { gat b i0 with l := { (gat b i0).l with q := (gat b i0).l.q - x.un, u := (gat b i0).l.u - x.us } }) rfl i) (findG_none hnone) _
  rw [if_neg x3]
  by_cases x4 : x.k = 4
  · rw [if_pos x4]
    unfold reserveR
    split
    · exact EndLaw.same (.inl x1) (fun _ _ => rfl) rfl
    cases hf : findG b x.id with
    | none => exact EndLaw.same (.inl x1) (fun _ _ => rfl) rfl
    | some i0 =>
      obtain ⟨hi, he, _⟩ := findG_some hf
      simp only
      split
      · exact EndLaw.same (.inl x1) (fun _ _ => rfl) rfl
      split
      · exact EndLaw.same (.inl x1) (fun _ _ => rfl) rfl
      split
      · exact EndLaw.same (.inl x1) (fun _ _ => rfl) rfl
      split
      · exact EndLaw.same (.inl x1) (fun _ _ => rfl) rfl
      exact EndLaw.same (.inl x1) (fun i _ => put_e (b := { b with ks := b.ks ++ [⟨x.key, i0, 0, x.un⟩] }) hi (g := { gat b i0 with su := (gat b i0).su + x.un, sn := (gat b i0).sn + 1 }) rfl i) (putG_len _ _ _)
  rw [if_neg x4]
  have hset : ∀ j, j < b.ks.length → ∀ st un e, EndLaw b (setM b j st un) x e := fun j hj st un e =>
    EndLaw.same (.inl x1) (fun i _ => put_e (b := putK b j { kat b j with st := st, un := un }) (h.inv.k _ (kat_mem hj)).1 (g := { gat b (kat b j).gi with su := (gat b (kat b j).gi).su + (un - unC (kat b j)) }) rfl i) (putG_len _ _ _)
  have hrel : ∀ j, j < b.ks.length → ∀ e, EndLaw b (relM b j) x e := fun j hj e =>
    EndLaw.same (.inl x1) (fun i _ => put_e (b := putK b j { kat b j with st := 2 }) (h.inv.k _ (kat_mem hj)).1 (g := { gat b (kat b j).gi with su := (gat b (kat b j).gi).su + (0 - unC (kat b j)), sn := (gat b (kat b j).gi).sn - 1 }) rfl i) (putG_len _ _ _)
  have hno : ∀ e, EndLaw b b x e := fun e => EndLaw.same (.inl x1) (fun _ _ => rfl) rfl
  by_cases x5 : x.k = 5
  · rw [if_pos x5]
    unfold useR
    cases hf : findK b x.key with
    | none => exact hno _
    | some j =>
      have hj := (findK_some hf).1
      simp only
      split; · exact hno _
      split; · exact hno _
      split; · exact hrel j hj _
      split; · exact hno _
      exact hset j hj _ _ _
  rw [if_neg x5]
  by_cases x6 : x.k = 6
  · rw [if_pos x6]
    unfold returnR
    cases hf : findK b x.key with
    | none => exact hno _
    | some j =>
      have hj := (findK_some hf).1
      simp only
      split; · exact hno _
      split; · exact hno _
      split; · exact hno _
      exact hset j hj _ _ _
  rw [if_neg x6]
  unfold releaseR
  cases hf : findK b x.key with
  | none => exact hno _
  | some j =>
    have hj := (findK_some hf).1
    simp only
    split; · exact hno _
    exact hrel j hj _
end Go.CH.Lic
namespace Go.CH.Lic

def bk (xs : List StepM) (m : Nat) : BkM := playM (xs.take m)
def sx (xs : List StepM) (i : Nat) : StepM := xs.getD i default
def er (xs : List StepM) (m : Nat) : Int := (doR (bk xs m) (sx xs m)).1
/-- What the key of step i holds, d steps later. -/
def hvD (xs : List StepM) (i : Nat) : Nat → Int × Int
  | 0 => ((sx xs i).un, 1)
  | d + 1 => upd (sx xs i).key (sx xs (i + 1 + d)) (er xs (i + 1 + d)) (hvD xs i d)
def isRes (xs : List StepM) (i : Nat) : Bool := decide ((sx xs i).k = 4) && decide (er xs i = 0)
def resI (xs : List StepM) (ID : ByteArray) (i : Nat) : Bool := isRes xs i && decide ((sx xs i).id = ID)
def sumA (xs : List StepM) (ID : ByteArray) (n : Nat) : Nat → Int × Int
  | 0 => (0, 0)
  | m + 1 => if resI xs ID m = true then ((sumA xs ID n m).1 + (hvD xs m (n - (m + 1))).1, (sumA xs ID n m).2 + (hvD xs m (n - (m + 1))).2) else sumA xs ID n m
theorem sx_get {xs : List StepM} {i : Nat} (h : i < xs.length) : sx xs i = xs[i] := by simp [sx, List.getD_eq_getElem?_getD, h]
theorem bk_succ {xs : List StepM} {m : Nat} (h : m < xs.length) : bk xs (m + 1) = (doR (bk xs m) (sx xs m)).2 := by
  unfold bk; rw [play_take h, sx_get h]
theorem bk_zero (xs : List StepM) : bk xs 0 = newM := rfl
theorem inv_bk (xs : List StepM) (m : Nat) : Inv2 (bk xs m) := inv2_play _
def keyIx (xs : List StepM) (n : Nat) : List Nat := (List.range n).filter (isRes xs)
theorem keyIx_succ (xs : List StepM) (n : Nat) : keyIx xs (n + 1) = keyIx xs n ++ if isRes xs n = true then [n] else [] := by
  unfold keyIx; rw [List.range_succ, List.filter_append]; congr 1
  by_cases h : isRes xs n = true
  · rw [if_pos h, List.filter_cons_of_pos h]; rfl
  · rw [if_neg h, List.filter_cons_of_neg h]; rfl
theorem keyIx_lt {xs : List StepM} {n i : Nat} (h : i ∈ keyIx xs n) : i < n := List.mem_range.1 (List.mem_filter.1 h).1
/-- What the keys are, after n steps. -/
structure Track (xs : List StepM) (n : Nat) : Prop where
  len : (bk xs n).ks.length = (keyIx xs n).length
  key : ∀ j (h : j < (keyIx xs n).length), (kat (bk xs n) j).nm = (sx xs (keyIx xs n)[j]).key ∧ (gat (bk xs n) (kat (bk xs n) j).gi).l.id = (sx xs (keyIx xs n)[j]).id ∧
    valK (kat (bk xs n) j) = hvD xs (keyIx xs n)[j] (n - ((keyIx xs n)[j] + 1))
theorem track (xs : List StepM) : ∀ n, n ≤ xs.length → Track xs n
  | 0, _ => ⟨rfl, fun j h => by simp [keyIx] at h⟩
  | n + 1, hn => by
    have ih := track xs n (by omega)
    have hI := inv_bk xs n
    have hk := key_law hI (sx xs n)
    have hb := bk_succ (xs := xs) (m := n) (by omega)
    have hids := (others_law hI (sx xs n) 0).2.2.1
    rw [← hb] at hk hids
    have he : (doR (bk xs n) (sx xs n)).1 = er xs n := rfl
    rw [he] at hk
    have hold : ∀ j (h : j < (keyIx xs n).length), (kat (bk xs (n + 1)) j).nm = (sx xs (keyIx xs n)[j]).key ∧ (gat (bk xs (n + 1)) (kat (bk xs (n + 1)) j).gi).l.id = (sx xs (keyIx xs n)[j]).id ∧
        valK (kat (bk xs (n + 1)) j) = hvD xs (keyIx xs n)[j] (n + 1 - ((keyIx xs n)[j] + 1)) := fun j h => by
      obtain ⟨a1, a2, a3⟩ := ih.key j h
      have hj : j < (bk xs n).ks.length := by rw [ih.len]; exact h
      obtain ⟨b1, b2, b3⟩ := hk.old j hj
      have hlt := keyIx_lt (List.getElem_mem h)
      have hgi := (hI.inv.k _ (kat_mem hj)).1
      refine ⟨by rw [b1, a1], by rw [b2, hids _ hgi, a2], ?_⟩
      rw [b3, a3, a1, show n + 1 - ((keyIx xs n)[j] + 1) = (n - ((keyIx xs n)[j] + 1)) + 1 by omega]
      show _ = upd _ (sx xs ((keyIx xs n)[j] + 1 + (n - ((keyIx xs n)[j] + 1)))) (er xs ((keyIx xs n)[j] + 1 + (n - ((keyIx xs n)[j] + 1)))) _
      rw [show (keyIx xs n)[j] + 1 + (n - ((keyIx xs n)[j] + 1)) = n by omega]
    by_cases hr : isRes xs n = true
    · have hr2 : (sx xs n).k = 4 ∧ er xs n = 0 := by unfold isRes at hr; simpa using hr
      obtain ⟨l1, i, hi, hid, hka⟩ := hk.yes hr2
      have hix : keyIx xs (n + 1) = keyIx xs n ++ [n] := by rw [keyIx_succ, if_pos hr]
      refine ⟨by rw [l1, ih.len, hix]; simp, fun j h => ?_⟩
      simp only [hix] at h ⊢
      by_cases hj : j < (keyIx xs n).length
      · simp only [List.getElem_append_left hj]; exact hold j hj
      · have hj2 : j = (keyIx xs n).length := by simp at h; omega
        rw [ih.len] at hka
        subst hj2
        simp only [List.getElem_concat_length]
        rw [hka]
        refine ⟨rfl, ?_, ?_⟩
        · show (gat (bk xs (n + 1)) i).l.id = _
          rw [hids i hi, hid]
        · rw [Nat.sub_self]; simp [valK, unC, hvD]
    · have hr2 : ¬ ((sx xs n).k = 4 ∧ er xs n = 0) := by unfold isRes at hr; simpa using hr
      have hix : keyIx xs (n + 1) = keyIx xs n := by rw [keyIx_succ, if_neg hr]; simp
      refine ⟨by rw [hk.no hr2, ih.len, hix], fun j h => ?_⟩
      simp only [hix] at h ⊢
      exact hold j h
theorem suOf_sum (i : Nat) (l : List KeyM) : suOf i l = (l.map fun k => if k.gi = i then unC k else 0).sum := by
  induction l with
  | nil => rfl
  | cons k l ih => simp only [suOf, ih, List.map_cons, List.sum_cons]
theorem snOf_sum (i : Nat) (l : List KeyM) : snOf i l = (l.map fun k => if k.gi = i then (if k.st = 2 then 0 else 1) else (0 : Int)).sum := by
  induction l with
  | nil => rfl
  | cons k l ih =>
    simp only [snOf, ih, List.map_cons, List.sum_cons]
    congr 1
    by_cases h : k.gi = i <;> by_cases h2 : k.st = 2 <;> simp [h, h2]
theorem sum_filter (p : Nat → Bool) (f : Nat → Int) : ∀ l : List Nat, ((l.filter p).map f).sum = (l.map fun i => if p i = true then f i else 0).sum
  | [] => rfl
  | a :: l => by
    by_cases h : p a = true
    · rw [List.filter_cons_of_pos h]; simp [h, sum_filter p f l]
    · rw [List.filter_cons_of_neg h]; simp [h, sum_filter p f l]
theorem sumA_sum (xs : List StepM) (ID : ByteArray) (n : Nat) : ∀ m, sumA xs ID n m = (((List.range m).map fun i => if resI xs ID i = true then (hvD xs i (n - (i + 1))).1 else 0).sum, ((List.range m).map fun i => if resI xs ID i = true then (hvD xs i (n - (i + 1))).2 else 0).sum)
  | 0 => rfl
  | m + 1 => by
    rw [List.range_succ, List.map_append, List.map_append, List.sum_append, List.sum_append]
    unfold sumA
    rw [sumA_sum xs ID n m]
    by_cases h : resI xs ID m = true
    · simp [h]
    · simp [h]
theorem sums_are {xs : List StepM} {n : Nat} (hn : n ≤ xs.length) {i : Nat} (hi : i < (bk xs n).gs.length) : sumA xs (gat (bk xs n) i).l.id n n = ((gat (bk xs n) i).su, (gat (bk xs n) i).sn) := by
  have hT := track xs n hn
  have hI := inv_bk xs n
  have hiff : ∀ j, j < (bk xs n).ks.length → ((kat (bk xs n) j).gi = i ↔ (gat (bk xs n) (kat (bk xs n) j).gi).l.id = (gat (bk xs n) i).l.id) := fun j hj => by
    have hg := (hI.inv.k _ (kat_mem hj)).1
    constructor
    · intro e; rw [e]
    · intro e
      have h1 := (findG_iff hI).2 ⟨hg, e⟩
      have h2 := (findG_iff hI (i := i)).2 ⟨hi, rfl⟩
      rw [h1] at h2; injection h2
  rw [hI.su i hi, hI.sn i hi, suOf_sum, snOf_sum, sumA_sum]
  have hmap : ∀ (f : KeyM → Int) (g : Nat → Int), (∀ j (h : j < (keyIx xs n).length), f (kat (bk xs n) j) = g (keyIx xs n)[j]) → (bk xs n).ks.map f = (keyIx xs n).map g := fun f g h => by
    refine List.ext_getElem (by simp [hT.len]) fun j h1 h2 => ?_
    simp only [List.getElem_map]
    have hj : j < (bk xs n).ks.length := by simpa using h1
    rw [← kat_get hj]
    exact h j (by simpa using h2)
  have e1 := hmap (fun k => if k.gi = i then unC k else 0) (fun q => if (sx xs q).id = (gat (bk xs n) i).l.id then (hvD xs q (n - (q + 1))).1 else 0) (fun j h => by
    obtain ⟨a1, a2, a3⟩ := hT.key j h
    have hj : j < (bk xs n).ks.length := by rw [hT.len]; exact h
    have := hiff j hj
    rw [a2] at this
    have hv : unC (kat (bk xs n) j) = (hvD xs (keyIx xs n)[j] (n - ((keyIx xs n)[j] + 1))).1 := by rw [← a3]; rfl
    by_cases hc : (kat (bk xs n) j).gi = i
    · simp only [if_pos hc, if_pos (this.1 hc), hv]
    · simp only [if_neg hc, if_neg (fun h => hc (this.2 h))])
  have e2 := hmap (fun k => if k.gi = i then (if k.st = 2 then 0 else 1) else 0) (fun q => if (sx xs q).id = (gat (bk xs n) i).l.id then (hvD xs q (n - (q + 1))).2 else 0) (fun j h => by
    obtain ⟨a1, a2, a3⟩ := hT.key j h
    have hj : j < (bk xs n).ks.length := by rw [hT.len]; exact h
    have := hiff j hj
    rw [a2] at this
    have hv : (if (kat (bk xs n) j).st = 2 then (0 : Int) else 1) = (hvD xs (keyIx xs n)[j] (n - ((keyIx xs n)[j] + 1))).2 := by rw [← a3]; rfl
    by_cases hc : (kat (bk xs n) j).gi = i
    · simp only [if_pos hc, if_pos (this.1 hc), hv]
    · simp only [if_neg hc, if_neg (fun h => hc (this.2 h))])
  rw [e1, e2]
  unfold keyIx
  rw [sum_filter, sum_filter]
  congr 1
  · congr 1
    refine List.map_congr_left fun q _ => ?_
    unfold resI
    by_cases h1 : isRes xs q = true <;> by_cases h2 : (sx xs q).id = (gat (bk xs n) i).l.id <;> simp [h1, h2]
  · congr 1
    refine List.map_congr_left fun q _ => ?_
    unfold resI
    by_cases h1 : isRes xs q = true <;> by_cases h2 : (sx xs q).id = (gat (bk xs n) i).l.id <;> simp [h1, h2]
/-- What is held stays within bounds. -/
theorem hv_num {xs : List StepM} {i d : Nat} (hr : isRes xs i = true) (hd : i + 1 + d ≤ xs.length) : 0 ≤ (hvD xs i d).1 ∧ (hvD xs i d).1 ≤ 1000000000 ∧ 0 ≤ (hvD xs i d).2 ∧ (hvD xs i d).2 ≤ 1 := by
  have hT := track xs (i + 1 + d) hd
  have hI := inv_bk xs (i + 1 + d)
  have hm : i ∈ keyIx xs (i + 1 + d) := List.mem_filter.2 ⟨List.mem_range.2 (by omega), hr⟩
  obtain ⟨j, hj, he⟩ := List.mem_iff_getElem.1 hm
  obtain ⟨_, _, a3⟩ := hT.key j hj
  rw [he, show i + 1 + d - (i + 1) = d by omega] at a3
  have hjk : j < (bk xs (i + 1 + d)).ks.length := by rw [hT.len]; exact hj
  have hk := hI.inv.k _ (kat_mem hjk)
  rw [← a3]
  unfold valK unC
  refine ⟨?_, ?_, ?_, ?_⟩ <;> simp only <;> split <;> omega
/-! Instants -/
theorem ends {xs : List StepM} : ∀ n, n ≤ xs.length → (∀ i, i < (bk xs n).gs.length → ((gat (bk xs n) i).e < 0 → ∀ q, q < n → ¬ isRev (sx xs q) (er xs q) (gat (bk xs n) i).l.id) ∧
      (0 ≤ (gat (bk xs n) i).e → (∃ q, q < n ∧ isRev (sx xs q) (er xs q) (gat (bk xs n) i).l.id) ∧ ∀ q, q < n → isRev (sx xs q) (er xs q) (gat (bk xs n) i).l.id → (sx xs q).a = (gat (bk xs n) i).e)) ∧
    ∀ ID, (∀ i, i < (bk xs n).gs.length → (gat (bk xs n) i).l.id ≠ ID) → ∀ q, q < n → ¬ isRev (sx xs q) (er xs q) ID
  | 0, _ => ⟨fun i hi => by simp [bk_zero, newM] at hi, fun _ _ q hq => by omega⟩
  | n + 1, hn => by
    obtain ⟨ih1, ih2⟩ := ends (xs := xs) n (by omega)
    have hI := inv_bk xs n
    have hL := end_law hI (sx xs n)
    have hb := bk_succ (xs := xs) (m := n) (by omega)
    have hO := others_law hI (sx xs n) 0
    have he : (doR (bk xs n) (sx xs n)).1 = er xs n := rfl
    have hids := hO.2.2.1
    have hlen := hO.2.1
    rw [← hb] at hL hids hlen
    rw [he] at hL
    refine ⟨fun i hi => ?_, fun ID hID q hq hrv => ?_⟩
    · by_cases hold : i < (bk xs n).gs.length
      · obtain ⟨a1, a2⟩ := ih1 i hold
        have h1 := hL.old i hold
        have h2 := hL.neg i hold
        rw [hids i hold]
        by_cases hr : isRev (sx xs n) (er xs n) (gat (bk xs n) i).l.id
        · rw [if_pos hr] at h1
          obtain ⟨h3, h4⟩ := h2 hr
          refine ⟨fun hneg => by omega, fun _ => ⟨⟨n, by omega, hr⟩, fun q hq hrq => ?_⟩⟩
          by_cases hqn : q = n
          · subst hqn; exact h1.symm
          · exact absurd hrq (a1 h3 q (by omega))
        · rw [if_neg hr] at h1
          rw [h1]
          refine ⟨fun hneg q hq hrq => ?_, fun hpos => ?_⟩
          · by_cases hqn : q = n
            · subst hqn; exact hr hrq
            · exact a1 hneg q (by omega) hrq
          · obtain ⟨⟨q0, hq0, hr0⟩, h5⟩ := a2 hpos
            refine ⟨⟨q0, by omega, hr0⟩, fun q hq hrq => ?_⟩
            by_cases hqn : q = n
            · subst hqn; exact absurd hrq hr
            · exact h5 q (by omega) hrq
      · obtain ⟨h1, h2⟩ := hL.new i (by omega) hi
        rw [h1]
        have hno : ∀ q, q < n → ¬ isRev (sx xs q) (er xs q) (gat (bk xs (n + 1)) i).l.id := ih2 _ (fun j hj => fun e => h2 j hj e.symm)
        refine ⟨fun _ q hq hrq => ?_, fun h => by omega⟩
        by_cases hqn : q = n
        · subst hqn
          obtain ⟨j, hj, hje⟩ := hL.is hrq.1 hrq.2.1
          exact h2 j hj (by rw [hje]; exact hrq.2.2.symm)
        · exact hno q (by omega) hrq
    · have hID' : ∀ i, i < (bk xs n).gs.length → (gat (bk xs n) i).l.id ≠ ID := fun i hi => by rw [← hids i hi]; exact hID i (by omega)
      by_cases hqn : q = n
      · subst hqn
        obtain ⟨j, hj, hje⟩ := hL.is hrv.1 hrv.2.1
        exact hID' j hj (by rw [hje]; exact hrv.2.2)
      · exact ih2 ID hID' q (by omega) hrv
/-- In force, as the law reckons it. -/
def forceL (xs : List StepM) (ID : ByteArray) (f t a : Int) : Nat → Bool
  | 0 => decide (f ≤ a) && decide (a < t)
  | m + 1 => forceL xs ID f t a m && (decide ((sx xs m).k ≠ 1) || decide (er xs m ≠ 0) || decide ((sx xs m).id ≠ ID) || decide (a < (sx xs m).a))
theorem forceL_iff (xs : List StepM) (ID : ByteArray) (f t a : Int) : ∀ m, forceL xs ID f t a m = true ↔ (f ≤ a ∧ a < t) ∧ ∀ q, q < m → isRev (sx xs q) (er xs q) ID → a < (sx xs q).a
  | 0 => by simp [forceL]
  | m + 1 => by
    unfold forceL
    rw [Bool.and_eq_true, forceL_iff xs ID f t a m]
    constructor
    · rintro ⟨⟨h1, h2⟩, h3⟩
      refine ⟨h1, fun q hq hr => ?_⟩
      by_cases e : q = m
      · subst e
        obtain ⟨r1, r2, r3⟩ := hr
        simpa [r1, r2, r3] using h3
      · exact h2 q (by omega) hr
    · rintro ⟨h1, h2⟩
      refine ⟨⟨h1, fun q hq hr => h2 q (by omega) hr⟩, ?_⟩
      by_cases hr : isRev (sx xs m) (er xs m) ID
      · simp [h2 m (by omega) hr]
      · unfold isRev at hr
        by_cases a1 : (sx xs m).k = 1
        · by_cases a2 : er xs m = 0
          · by_cases a3 : (sx xs m).id = ID
            · exact absurd ⟨a1, a2, a3⟩ hr
            · simp [a3]
          · simp [a2]
        · simp [a1]
theorem force_is {xs : List StepM} {n : Nat} (hn : n ≤ xs.length) {i : Nat} (hi : i < (bk xs n).gs.length) (a : Int) :
    forceL xs (gat (bk xs n) i).l.id (gat (bk xs n) i).l.f (gat (bk xs n) i).l.t a n = runsG (gat (bk xs n) i) a := by
  obtain ⟨h1, h2⟩ := (ends n hn).1 i hi
  rw [Bool.eq_iff_iff, forceL_iff]
  unfold runsG runsB
  simp only [Bool.and_eq_true, Bool.or_eq_true, decide_eq_true_eq]
  by_cases hneg : (gat (bk xs n) i).e < 0
  · constructor
    · rintro ⟨h3, _⟩; exact ⟨h3, .inl hneg⟩
    · rintro ⟨h3, _⟩; exact ⟨h3, fun q hq hr => absurd hr (h1 hneg q hq)⟩
  · obtain ⟨⟨q0, hq0, hr0⟩, h4⟩ := h2 (by omega)
    constructor
    · rintro ⟨h3, h5⟩
      refine ⟨h3, .inr ?_⟩
      have := h5 q0 hq0 hr0
      rw [h4 q0 hq0 hr0] at this; exact this
    · rintro ⟨h3, h5⟩
      refine ⟨h3, fun q hq hr => ?_⟩
      rw [h4 q hq hr]
      rcases h5 with h5 | h5
      · exact absurd h5 hneg
      · exact h5
end Go.CH.Lic
namespace Go.Proofs.Ytapabbpdfplpoaa
open Go.RowKit Go.CH Go.CH.Lic
open Go.ChangeMaps (setBlock)

def errV (xs : List StepM) (n : Nat) : List Value := (List.range n).map fun m => .int .i64 (er xs m)
theorem errV_get {xs : List StepM} {n m : Nat} (h : m < n) : (errV xs n)[m]? = some (.int .i64 (er xs m)) := by simp [errV, h]
theorem sx_at {l : List ZS} {k : Nat} (h : k < l.length) : sx (stepsM l) k = l[k].x := by
  rw [sx_get (by unfold stepsM; simpa using h)]; simp [stepsM]
def SumRet (W : World) (r : Int × Int) (e : Ending) (W' : World) : Prop := e = .returned (.tuple #[.int .i64 r.1, .int .i64 r.2]) ∧ Below W.heap.size W W'
theorem sumA_num {xs : List StepM} {n : Nat} (hn : n ≤ xs.length) (ID : ByteArray) : ∀ m, m ≤ n → 0 ≤ (sumA xs ID n m).1 ∧ (sumA xs ID n m).1 ≤ m * 1000000000 ∧ 0 ≤ (sumA xs ID n m).2 ∧ (sumA xs ID n m).2 ≤ m
  | 0, _ => by simp [sumA]
  | m + 1, h => by
    obtain ⟨h1, h2, h3, h4⟩ := sumA_num hn ID m (by omega)
    unfold sumA
    by_cases hr : resI xs ID m = true
    · rw [if_pos hr]
      unfold resI at hr
      obtain ⟨b1, b2, b3, b4⟩ := hv_num (d := n - (m + 1)) (Bool.and_eq_true _ _ ▸ hr).1 (by omega)
      refine ⟨?_, ?_, ?_, ?_⟩ <;> simp only <;> omega
    · rw [if_neg hr]; omega
theorem strNe {a b : ByteArray} (h : a ≠ b) : (a == b) = false := by rw [bytes_dec]; exact decide_eq_false h
theorem strEq (a : ByteArray) : (a == a) = true := by rw [bytes_dec]; exact decide_eq_true rfl
section
variable {W : World} {l : List ZS} {n c c' : Nat}

set_option maxRecDepth 100000 in
set_option maxHeartbeats 12800000 in
theorem sums_some {bA oA bE oE : Nat} (hn : n = l.length) (hn25 : n ≤ 25) (hsc : ∀ w', Below W.heap.size W w' → ∀ k (hk : k < l.length), StepC w' bA (oA + k * 13) l[k])
    (hec : ∀ w', Below W.heap.size W w' → ∀ k, k < n → w'.cell? ⟨bE, oE + k, none⟩ = some (.int .i64 (er (stepsM l) k))) (id : ByteArray) :
    Calls Try.prog 58 #[.slice (some ⟨bA, oA, none⟩) n c, .slice (some ⟨bE, oE, none⟩) n c', .string id] W (SumRet W (sumA (stepsM l) id n n)) := by
  have hxl : n ≤ (stepsM l).length := by unfold stepsM; simp [hn]
  have HZ := hide (fun k (hk : k < l.length) => (sx_at hk : sx (stepsM l) k = l[k].x))
  generalize stepsM l = xs at *
  have HXL := hide hxl
  have HSC := hide hsc
  have HEC := hide hec
  have HNL := hide hn
  clear hxl hsc hec hn
  go_enter Try.func58, Try.ntmps58
  go_wp2
  go_loopw [8, 9, 10] (fun u s i wr => ∃ (k : Nat) (su sn : Int), k ≤ n ∧ i = .int .i64 k ∧ u = .int .i64 su ∧ s = .int .i64 sn ∧ sumA xs id n k = (su, sn) ∧ Below W.heap.size W wr) (fun _ _ i _ => n - (intOf i).toNat)
  case atStart => exact ⟨0, 0, 0, Nat.zero_le _, rfl, rfl, rfl, rfl, Below.refl _ _⟩
  case round =>
    obtain ⟨k, su, sn, hk, rfl, rfl, rfl, hsum, hb⟩ := hrel
    have HB := hide hb
    have HNUM := sumA_num HXL.out id k hk
    rw [hsum] at HNUM
    obtain ⟨b1, b2, b3, b4⟩ := HNUM
    simp only at b1 b2 b3 b4
    by_cases hlt : k < n
    · have hkl : k < l.length := by rw [← HNL.out]; exact hlt
      have HD := hide (HSC.out wr HB.out k hkl)
      have e0 := HEC.out wr HB.out k hlt
      have HS := hide (show sumA xs id n (k + 1) = if resI xs id k = true then (su + (hvD xs k (n - (k + 1))).1, sn + (hvD xs k (n - (k + 1))).2) else (su, sn) by
        rw [show sumA xs id n (k + 1) = if resI xs id k = true then ((sumA xs id n k).1 + (hvD xs k (n - (k + 1))).1, (sumA xs id n k).2 + (hvD xs k (n - (k + 1))).2) else sumA xs id n k from rfl, hsum])
      have HZK := hide (HZ.out k hkl)
      have HRI := hide (show resI xs id k = (decide (l[k].x.k = 4) && decide (er xs k = 0) && decide (l[k].x.id = id)) by unfold resI isRes; rw [HZK.out])
      have HU0 := hide (show hvD xs k 0 = (l[k].x.un, 1) by unfold hvD; rw [HZK.out])
      have HUP := hide (fun q (hq : q < l.length) (hkq : k + 1 ≤ q) => (show hvD xs k (q + 1 - (k + 1)) = upd l[k].x.key l[q].x (er xs q) (hvD xs k (q - (k + 1))) by
        rw [show q + 1 - (k + 1) = (q - (k + 1)) + 1 by omega]
        show upd _ (sx xs (k + 1 + (q - (k + 1)))) (er xs (k + 1 + (q - (k + 1)))) _ = _
        rw [show k + 1 + (q - (k + 1)) = q by omega, HZK.out, HZ.out q hq]))
      have HNM := hide (fun (hr : isRes xs k = true) q (h1 : k + 1 ≤ q) (h2 : q ≤ n) => hv_num (d := q - (k + 1)) hr (by have := HXL.out; omega))
      have HIS := hide (show isRes xs k = (decide (l[k].x.k = 4) && decide (er xs k = 0)) by unfold isRes; rw [HZK.out])
      have HR := hide (fun w' (hb : Below W.heap.size W w') => HSC.out w' hb k hkl)
      clear hsum hb HZK
      generalize l[k] = z at *
      clear hkl
      generalize er xs k = ek at *
      obtain ⟨d0, d1, d2, d3, d4, d5, d6, d7, d8, d9, d10, d11, d12⟩ := HD.out
      by_cases t1 : z.x.k = 4
      case neg =>
        have HS2 := hide (show sumA xs id n (k + 1) = (su, sn) by rw [HS.out, HRI.out, decide_eq_false t1]; rfl)
        have t2 : (z.x.k == 4) = false := by simpa using t1
        have t3 : (z.x.k != 4) = true := by simpa using t1
        generalize z.x.k = zk at *
        clear d1 d2 d3 d4 d5 d6 d7 d8 d9 d10 d11 d12
        go_wp2
        go_roundw
        case rel => exact ⟨k + 1, su, sn, by omega, by go_num, rfl, rfl, HS2.out, HB.out⟩
        case measure => simp [intOf]; omega
      case pos =>
      rw [t1] at d0
      by_cases t2 : ek = 0
      case neg =>
        have HS2 := hide (show sumA xs id n (k + 1) = (su, sn) by rw [HS.out, HRI.out, decide_eq_false t2, Bool.and_false]; rfl)
        have t3 : (ek == 0) = false := by simpa using t2
        have t4 : (ek != 0) = true := by simpa using t2
        clear d1 d2 d3 d4 d5 d6 d7 d8 d9 d10 d11 d12
        go_wp2
        go_roundw
        case rel => exact ⟨k + 1, su, sn, by omega, by go_num, rfl, rfl, HS2.out, HB.out⟩
        case measure => simp [intOf]; omega
      case pos =>
      rw [t2] at e0
      by_cases t3 : z.x.id = id
      case neg =>
        have HS2 := hide (show sumA xs id n (k + 1) = (su, sn) by rw [HS.out, HRI.out, decide_eq_false t3, Bool.and_false]; rfl)
        have t5 : (z.x.id.toList == id.toList) = false := by rw [toList_beq]; exact decide_eq_false t3
        generalize z.x.id = zid at *
        clear d1 d2 d3 d4 d5 d6 d7 d9 d10 d11 d12
        go_wp2
        go_roundw
        case rel => exact ⟨k + 1, su, sn, by omega, by go_num, rfl, rfl, HS2.out, HB.out⟩
        case measure => simp [intOf]; omega
      case pos =>
      have HS2 := hide (show sumA xs id n (k + 1) = (su + (hvD xs k (n - (k + 1))).1, sn + (hvD xs k (n - (k + 1))).2) by rw [HS.out, HRI.out, t1, t2, t3]; simp)
      have HN2 := hide (HNM.out (by rw [HIS.out, t1, t2]; rfl))
      rw [t3] at d8
      have t5 : (id.toList == id.toList) = true := by rw [toList_beq]; exact decide_eq_true rfl
      clear HNM HIS HRI HS t1 t2 t3
      go_wp2
      go_loopw [11, 12, 13] (fun h o j wr => ∃ (q : Nat) (hv ov : Int), k + 1 ≤ q ∧ q ≤ n ∧ j = .int .i64 q ∧ h = .int .i64 hv ∧ o = .int .i64 ov ∧ hvD xs k (q - (k + 1)) = (hv, ov) ∧ Below W.heap.size W wr) (fun _ _ j _ => n - (intOf j).toNat)
      case atStart => exact ⟨k + 1, z.x.un, 1, by omega, by omega, by go_num, rfl, rfl, by rw [Nat.sub_self]; exact HU0.out, HB.out⟩
      case round =>
        obtain ⟨q, hv, ov, hq1, hq2, rfl, rfl, rfl, hhv, hb2⟩ := hrel
        clear d0 d1 d2 d3 d4 d5 d6 d7 d8 d9 d10 d11 d12 e0
        have HNQ := HN2.out q hq1 hq2
        rw [hhv] at HNQ
        obtain ⟨n1, n2, n3, n4⟩ := HNQ
        simp only at n1 n2 n3 n4
        by_cases hq : q < n
        · have hql : q < l.length := by rw [← HNL.out]; exact hq
          have HBD := hide (below_drew hb2)
          have HU := hide (HUP.out q hql hq1)
          rw [hhv] at HU
          have hne := HN2.out (q + 1) (by omega) (by omega)
          rw [HU.out] at hne
          have HNE := hide hne
          have HDY := hide (HSC.out _ HBD.out q hql)
          have HDZ := hide (HR.out _ HBD.out)
          have e1 := HEC.out _ HBD.out q hq
          clear hhv hb2 hne HU0
          generalize l[q] = y at *
          generalize er xs q = eq at *
          clear hql
          have z9 := HDZ.out.2.2.2.2.2.2.2.2.2.1
          obtain ⟨d0, -, -, -, -, -, -, -, -, d9, d10, -, -⟩ := HDY.out
          clear HDY HDZ
          by_cases tk : y.x.key = z.x.key
          case neg =>
            have HV := hide (show hvD xs k (q + 1 - (k + 1)) = (hv, ov) by rw [HU.out, upd_other tk])
            have tk2 : (y.x.key.toList == z.x.key.toList) = false := by rw [toList_beq]; exact decide_eq_false tk
            clear tk
            generalize y.x.key = yk at *
            generalize z.x.key = zk at *
            clear d0 d10 e1
            go_wp2_with fail
            refine wp_region_lex (fun w' => w' = wr.drew) (by kernel_rfl) (by kernel_rfl) rfl ?_
            generalize wr.drew = wd at *
            (repeat (first | (refine lex_skip (by rfl) ?_; try simp only [Act.put, List.setIfInBounds_toArray, List.set_cons_zero, List.set_cons_succ]) | (refine lex_read (v := ?_) (by rfl) ?_ ?_; rotate_left; (focus (intro w' hS'; go_simp; (try with_reducible rfl); done)); try simp only [Act.put, List.setIfInBounds_toArray, List.set_cons_zero, List.set_cons_succ])))
            refine lex_nil ?_
            clear d9 z9
            go_wp2
            go_roundw
            case rel => exact ⟨q + 1, hv, ov, by omega, by omega, by go_num, rfl, rfl, HV.out, HBD.out⟩
            case measure => simp [intOf]; omega
          case pos =>
          have HU2 := hide (show hvD xs k (q + 1 - (k + 1)) = if y.x.k = 5 ∧ eq = 0 then (y.x.un, ov) else if y.x.k = 6 ∧ eq = 0 then (hv - y.x.un, ov) else if ((y.x.k < 0 ∨ 6 < y.x.k) ∧ eq = 0) ∨ (y.x.k = 5 ∧ eq = 22) then (0, 0) else (hv, ov) by
            rw [HU.out]; unfold upd; rw [if_neg (fun h => h tk)])
          have HNE2 := hide (show 0 ≤ (hvD xs k (q + 1 - (k + 1))).1 ∧ (hvD xs k (q + 1 - (k + 1))).1 ≤ 1000000000 ∧ 0 ≤ (hvD xs k (q + 1 - (k + 1))).2 ∧ (hvD xs k (q + 1 - (k + 1))).2 ≤ 1 by rw [HU.out]; exact HNE.out)
          have tk2 : (z.x.key.toList == z.x.key.toList) = true := by rw [toList_beq]; exact decide_eq_true rfl
          rw [tk] at d9
          clear tk HU HNE
          generalize z.x.key = zk at *
          generalize hyk : y.x.k = K at *
          generalize hyu : y.x.un = un at *
          clear hyk hyu
          by_cases k5 : K = 5
          case pos =>
            rw [k5] at d0
            by_cases e0 : eq = 0
            case pos =>
              rw [e0] at e1
              have HV := hide (show hvD xs k (q + 1 - (k + 1)) = (un, ov) by rw [HU2.out]; rw [if_pos ⟨k5, e0⟩])
              clear HU2 HNE2
              go_wp2_with fail
              refine wp_region_lex (fun w' => w' = wr.drew) (by kernel_rfl) (by kernel_rfl) rfl ?_
              generalize wr.drew = wd at *
              (repeat (first | (refine lex_skip (by rfl) ?_; try simp only [Act.put, List.setIfInBounds_toArray, List.set_cons_zero, List.set_cons_succ]) | (refine lex_read (v := ?_) (by rfl) ?_ ?_; rotate_left; (focus (intro w' hS'; go_simp; (try with_reducible rfl); done)); try simp only [Act.put, List.setIfInBounds_toArray, List.set_cons_zero, List.set_cons_succ])))
              refine lex_nil ?_
              go_wp2
              go_roundw
              case rel => exact ⟨q + 1, un, ov, by omega, by omega, by go_num, rfl, rfl, HV.out, HBD.out⟩
              case measure => simp [intOf]; omega
            case neg =>
              by_cases e22 : eq = 22
              case pos =>
                rw [e22] at e1
                have HV := hide (show hvD xs k (q + 1 - (k + 1)) = (0, 0) by rw [HU2.out]; rw [if_neg (fun h => e0 h.2), if_neg (fun h => e0 h.2), if_pos (.inr ⟨k5, e22⟩)])
                clear HU2 HNE2
                go_wp2_with fail
                refine wp_region_lex (fun w' => w' = wr.drew) (by kernel_rfl) (by kernel_rfl) rfl ?_
                generalize wr.drew = wd at *
                (repeat (first | (refine lex_skip (by rfl) ?_; try simp only [Act.put, List.setIfInBounds_toArray, List.set_cons_zero, List.set_cons_succ]) | (refine lex_read (v := ?_) (by rfl) ?_ ?_; rotate_left; (focus (intro w' hS'; go_simp; (try with_reducible rfl); done)); try simp only [Act.put, List.setIfInBounds_toArray, List.set_cons_zero, List.set_cons_succ])))
                refine lex_nil ?_
                go_wp2
                go_roundw
                case rel => exact ⟨q + 1, 0, 0, by omega, by omega, by go_num, rfl, rfl, HV.out, HBD.out⟩
                case measure => simp [intOf]; omega
              case neg =>
                have ex0 : (eq == 0) = false := by simpa using e0
                have ex2 : (eq == 22) = false := by simpa using e22
                have HV := hide (show hvD xs k (q + 1 - (k + 1)) = (hv, ov) by rw [HU2.out]; rw [if_neg (fun h => e0 h.2), if_neg (fun h => e0 h.2), if_neg (fun h => h.elim (fun g => e0 g.2) (fun g => e22 g.2))])
                clear HU2 HNE2
                go_wp2_with fail
                refine wp_region_lex (fun w' => w' = wr.drew) (by kernel_rfl) (by kernel_rfl) rfl ?_
                generalize wr.drew = wd at *
                (repeat (first | (refine lex_skip (by rfl) ?_; try simp only [Act.put, List.setIfInBounds_toArray, List.set_cons_zero, List.set_cons_succ]) | (refine lex_read (v := ?_) (by rfl) ?_ ?_; rotate_left; (focus (intro w' hS'; go_simp; (try with_reducible rfl); done)); try simp only [Act.put, List.setIfInBounds_toArray, List.set_cons_zero, List.set_cons_succ])))
                refine lex_nil ?_
                go_wp2
                go_roundw
                case rel => exact ⟨q + 1, hv, ov, by omega, by omega, by go_num, rfl, rfl, HV.out, HBD.out⟩
                case measure => simp [intOf]; omega
          case neg =>
          have kx5 : (K == 5) = false := by simpa using k5
          by_cases k6 : K = 6
          case pos =>
            rw [k6] at d0
            clear kx5
            by_cases e0 : eq = 0
            case pos =>
              rw [e0] at e1
              have HV := hide (show hvD xs k (q + 1 - (k + 1)) = (hv - un, ov) by rw [HU2.out]; rw [if_neg (fun h => k5 h.1), if_pos ⟨k6, e0⟩])
              have hsb : 0 ≤ hv - un ∧ hv - un ≤ 1000000000 := by have := HNE2.out; rw [HV.out] at this; exact ⟨this.1, this.2.1⟩
              clear HU2 HNE2
              go_wp2_with fail
              refine wp_region_lex (fun w' => w' = wr.drew) (by kernel_rfl) (by kernel_rfl) rfl ?_
              generalize wr.drew = wd at *
              (repeat (first | (refine lex_skip (by rfl) ?_; try simp only [Act.put, List.setIfInBounds_toArray, List.set_cons_zero, List.set_cons_succ]) | (refine lex_read (v := ?_) (by rfl) ?_ ?_; rotate_left; (focus (intro w' hS'; go_simp; (try with_reducible rfl); done)); try simp only [Act.put, List.setIfInBounds_toArray, List.set_cons_zero, List.set_cons_succ])))
              refine lex_nil ?_
              go_wp2
              go_roundw
              case rel => exact ⟨q + 1, hv - un, ov, by omega, by omega, by go_num, by go_num, rfl, HV.out, HBD.out⟩
              case measure => simp [intOf]; omega
            case neg =>
              have ex0 : (eq == 0) = false := by simpa using e0
              have HV := hide (show hvD xs k (q + 1 - (k + 1)) = (hv, ov) by rw [HU2.out]; rw [if_neg (fun h => e0 h.2), if_neg (fun h => e0 h.2), if_neg (fun h => h.elim (fun g => e0 g.2) (fun g => k5 g.1))])
              clear HU2 HNE2
              go_wp2_with fail
              refine wp_region_lex (fun w' => w' = wr.drew) (by kernel_rfl) (by kernel_rfl) rfl ?_
              generalize wr.drew = wd at *
              (repeat (first | (refine lex_skip (by rfl) ?_; try simp only [Act.put, List.setIfInBounds_toArray, List.set_cons_zero, List.set_cons_succ]) | (refine lex_read (v := ?_) (by rfl) ?_ ?_; rotate_left; (focus (intro w' hS'; go_simp; (try with_reducible rfl); done)); try simp only [Act.put, List.setIfInBounds_toArray, List.set_cons_zero, List.set_cons_succ])))
              refine lex_nil ?_
              go_wp2
              go_roundw
              case rel => exact ⟨q + 1, hv, ov, by omega, by omega, by go_num, rfl, rfl, HV.out, HBD.out⟩
              case measure => simp [intOf]; omega
          case neg =>
          have kx6 : (K == 6) = false := by simpa using k6
          by_cases kn : K < 0
          case pos =>
            by_cases e0 : eq = 0
            case pos =>
              rw [e0] at e1
              have HV := hide (show hvD xs k (q + 1 - (k + 1)) = (0, 0) by rw [HU2.out]; rw [if_neg (fun h => k5 h.1), if_neg (fun h => k6 h.1), if_pos (.inl ⟨.inl kn, e0⟩)])
              clear HU2 HNE2
              go_wp2_with fail
              refine wp_region_lex (fun w' => w' = wr.drew) (by kernel_rfl) (by kernel_rfl) rfl ?_
              generalize wr.drew = wd at *
              (repeat (first | (refine lex_skip (by rfl) ?_; try simp only [Act.put, List.setIfInBounds_toArray, List.set_cons_zero, List.set_cons_succ]) | (refine lex_read (v := ?_) (by rfl) ?_ ?_; rotate_left; (focus (intro w' hS'; go_simp; (try with_reducible rfl); done)); try simp only [Act.put, List.setIfInBounds_toArray, List.set_cons_zero, List.set_cons_succ])))
              refine lex_nil ?_
              go_wp2
              go_roundw
              case rel => exact ⟨q + 1, 0, 0, by omega, by omega, by go_num, rfl, rfl, HV.out, HBD.out⟩
              case measure => simp [intOf]; omega
            case neg =>
              have ex0 : (eq == 0) = false := by simpa using e0
              have HV := hide (show hvD xs k (q + 1 - (k + 1)) = (hv, ov) by rw [HU2.out]; rw [if_neg (fun h => k5 h.1), if_neg (fun h => k6 h.1), if_neg (fun h => h.elim (fun g => e0 g.2) (fun g => k5 g.1))])
              clear HU2 HNE2
              go_wp2_with fail
              refine wp_region_lex (fun w' => w' = wr.drew) (by kernel_rfl) (by kernel_rfl) rfl ?_
              generalize wr.drew = wd at *
              (repeat (first | (refine lex_skip (by rfl) ?_; try simp only [Act.put, List.setIfInBounds_toArray, List.set_cons_zero, List.set_cons_succ]) | (refine lex_read (v := ?_) (by rfl) ?_ ?_; rotate_left; (focus (intro w' hS'; go_simp; (try with_reducible rfl); done)); try simp only [Act.put, List.setIfInBounds_toArray, List.set_cons_zero, List.set_cons_succ])))
              refine lex_nil ?_
              go_wp2
              go_roundw
              case rel => exact ⟨q + 1, hv, ov, by omega, by omega, by go_num, rfl, rfl, HV.out, HBD.out⟩
              case measure => simp [intOf]; omega
          case neg =>
          by_cases kp : 6 < K
          case pos =>
            by_cases e0 : eq = 0
            case pos =>
              rw [e0] at e1
              have HV := hide (show hvD xs k (q + 1 - (k + 1)) = (0, 0) by rw [HU2.out]; rw [if_neg (fun h => k5 h.1), if_neg (fun h => k6 h.1), if_pos (.inl ⟨.inr kp, e0⟩)])
              clear HU2 HNE2
              go_wp2_with fail
              refine wp_region_lex (fun w' => w' = wr.drew) (by kernel_rfl) (by kernel_rfl) rfl ?_
              generalize wr.drew = wd at *
              (repeat (first | (refine lex_skip (by rfl) ?_; try simp only [Act.put, List.setIfInBounds_toArray, List.set_cons_zero, List.set_cons_succ]) | (refine lex_read (v := ?_) (by rfl) ?_ ?_; rotate_left; (focus (intro w' hS'; go_simp; (try with_reducible rfl); done)); try simp only [Act.put, List.setIfInBounds_toArray, List.set_cons_zero, List.set_cons_succ])))
              refine lex_nil ?_
              go_wp2
              go_roundw
              case rel => exact ⟨q + 1, 0, 0, by omega, by omega, by go_num, rfl, rfl, HV.out, HBD.out⟩
              case measure => simp [intOf]; omega
            case neg =>
              have ex0 : (eq == 0) = false := by simpa using e0
              have HV := hide (show hvD xs k (q + 1 - (k + 1)) = (hv, ov) by rw [HU2.out]; rw [if_neg (fun h => k5 h.1), if_neg (fun h => k6 h.1), if_neg (fun h => h.elim (fun g => e0 g.2) (fun g => k5 g.1))])
              clear HU2 HNE2
              go_wp2_with fail
              refine wp_region_lex (fun w' => w' = wr.drew) (by kernel_rfl) (by kernel_rfl) rfl ?_
              generalize wr.drew = wd at *
              (repeat (first | (refine lex_skip (by rfl) ?_; try simp only [Act.put, List.setIfInBounds_toArray, List.set_cons_zero, List.set_cons_succ]) | (refine lex_read (v := ?_) (by rfl) ?_ ?_; rotate_left; (focus (intro w' hS'; go_simp; (try with_reducible rfl); done)); try simp only [Act.put, List.setIfInBounds_toArray, List.set_cons_zero, List.set_cons_succ])))
              refine lex_nil ?_
              go_wp2
              go_roundw
              case rel => exact ⟨q + 1, hv, ov, by omega, by omega, by go_num, rfl, rfl, HV.out, HBD.out⟩
              case measure => simp [intOf]; omega
          case neg =>
            have HV := hide (show hvD xs k (q + 1 - (k + 1)) = (hv, ov) by rw [HU2.out]; rw [if_neg (fun h => k5 h.1), if_neg (fun h => k6 h.1), if_neg (fun h => h.elim (fun g => g.1.elim kn kp) (fun g => k5 g.1))])
            clear HU2 HNE2
            go_wp2_with fail
            refine wp_region_lex (fun w' => w' = wr.drew) (by kernel_rfl) (by kernel_rfl) rfl ?_
            generalize wr.drew = wd at *
            (repeat (first | (refine lex_skip (by rfl) ?_; try simp only [Act.put, List.setIfInBounds_toArray, List.set_cons_zero, List.set_cons_succ]) | (refine lex_read (v := ?_) (by rfl) ?_ ?_; rotate_left; (focus (intro w' hS'; go_simp; (try with_reducible rfl); done)); try simp only [Act.put, List.setIfInBounds_toArray, List.set_cons_zero, List.set_cons_succ])))
            refine lex_nil ?_
            go_wp2
            go_roundw
            case rel => exact ⟨q + 1, hv, ov, by omega, by omega, by go_num, rfl, rfl, HV.out, HBD.out⟩
            case measure => simp [intOf]; omega
        · have hqs : q = n := by omega
          have HV := hide (show sumA xs id n (k + 1) = (su + hv, sn + ov) by rw [HS2.out, ← hqs, hhv])
          have HBQ := hide hb2
          clear hhv hb2 HS2 hq
          go_wp2
          go_roundw
          case rel => exact ⟨k + 1, su + hv, sn + ov, by omega, by go_num, by go_num, by go_num, HV.out, HBQ.out⟩
          case measure => simp [intOf]; omega
    · have hks : k = n := by omega
      subst hks
      have HSU := hide hsum
      clear hsum hb
      go_wp2
      refine bodyPost_ret_by (results_tmp2 rfl _ _ _) rfl ?_
      exact ⟨by rw [HSU.out]; rfl, HB.out⟩
end
end Go.Proofs.Ytapabbpdfplpoaa
namespace Go.Proofs.Ytapabbpdfplpoaa
open Go.RowKit Go.CH Go.CH.Lic
open Go.ChangeMaps (setBlock)

section
variable {W : World} {l : List ZS} {n c c' : Nat} {A E : Option Addr}
set_option maxRecDepth 100000 in
set_option maxHeartbeats 3200000 in
theorem sums_none (id : ByteArray) : Calls Try.prog 58 #[.slice A 0 c, .slice E 0 c', .string id] W (SumRet W (0, 0)) := by
  go_enter Try.func58, Try.ntmps58
  go_wp2
  go_loop [8, 9, 10] (fun u s i => u = .int .i64 0 ∧ s = .int .i64 0 ∧ i = .int .i64 0) (fun _ _ _ => 0)
  case atStart => exact ⟨rfl, rfl, rfl⟩
  case round =>
    obtain ⟨rfl, rfl, rfl⟩ := hrel
    go_wp2
    refine bodyPost_ret_by (results_tmp2 rfl _ _ _) rfl ?_
    exact ⟨rfl, Below.refl _ _⟩
theorem sums_any (hs : Steps W A n l) (hf : fewB (stepsM l) = true) {F : Nat → Prop} (hE : RowO 25 1 (.slice E n c') n (errV (stepsM l) n) W F) (id : ByteArray) :
    Calls Try.prog 58 #[.slice A n c, .slice E n c', .string id] W (SumRet W (sumA (stepsM l) id n n)) := by
  have hn25 : n ≤ 25 := by rw [← hs.len]; exact few_len hf
  by_cases h0 : n = 0
  · subst h0; exact sums_none id
  · obtain ⟨gE, rfl⟩ := row_addr hE (by omega)
    have hlen := hs.len
    obtain ⟨bA, oA, hA, -⟩ := hs.src.open_ (by omega) (by omega)
    subst hA
    refine sums_some hlen.symm hn25 (fun w' hb k hk => ?_) (fun w' hb k hk => ?_) id
    · obtain ⟨b2, o2, he, hd⟩ := (hs.keep hb).at_ hk
      injection he with he; injection he with e1 e2
      subst e1 e2
      exact hd
    · have hc := row_cell hE (errV_get hk)
      rw [Nat.zero_add]
      exact ((Run.begin W).below emp_ok hb).cell hc (fun h => h)
end
theorem errsOk : SliceOk Try.prog 89 25 (.int .i64 0) 1 8 := ⟨Try.underlying89, by kernel_rfl, by decide, by decide⟩
theorem errV_succ (xs : List StepM) (k : Nat) : errV xs (k + 1) = errV xs k ++ [.int .i64 (er xs k)] := by
  unfold errV; rw [List.range_succ, List.map_append]; rfl
theorem lic_all {zs : List ZL} {b : BkM} (h : zs.map ZL.l = b.gs.map (·.l)) {k : Nat} (hk : k < zs.length) : zs[k].l = (gat b k).l := by
  have hk2 : k < b.gs.length := by have := congrArg List.length h; simp at this; omega
  have h1 : (zs.map ZL.l)[k]? = (b.gs.map (·.l))[k]? := by rw [h]
  rw [List.getElem?_map, List.getElem?_map, List.getElem?_eq_getElem hk, List.getElem?_eq_getElem hk2] at h1
  simp at h1
  rw [h1, gat_get hk2]
section
variable {w0 W : World} {X Y : Own} {p : Nat} {b : BkM}
/-- What the law reads of a licence in the list. -/
def LicC (W : World) (g k : Nat) (l : LicM) : Prop :=
  W.cell? ⟨g, k * 7, none⟩ = some (.string l.id) ∧ W.cell? ⟨g, k * 7 + 3, none⟩ = some (.int .i64 l.q) ∧ W.cell? ⟨g, k * 7 + 4, none⟩ = some (.int .i64 l.u) ∧ W.cell? ⟨g, k * 7 + 5, none⟩ = some (.int .i64 l.f) ∧ W.cell? ⟨g, k * 7 + 6, none⟩ = some (.int .i64 l.t)
theorem licC_of {W : World} {F : Nat → Prop} {m c9 : Nat} {A9 : Option Addr} {zs : List ZL} (hA : ARow lcl low 56 7 (.slice A9 m c9) zs W F) (hm : m = zs.length) {k : Nat} (hk : k < zs.length) : ∃ g, A9 = some ⟨g, 0, none⟩ ∧ LicC W g k zs[k].l := by
  subst hm
  obtain ⟨F1, F2, hr, -⟩ := hA
  obtain ⟨g, rfl⟩ := row_addr hr (by omega)
  have hg : ∀ j v, j < 7 → (lcl zs[k])[j]? = some v → W.cell? ⟨g, k * 7 + j, none⟩ = some v := fun j v hj hv => row_cell hr (by rw [flat_get lcl 7 lcl_len hk j hj]; exact hv)
  exact ⟨g, rfl, hg 0 _ (by omega) rfl, hg 3 _ (by omega) rfl, hg 4 _ (by omega) rfl, hg 5 _ (by omega) rfl, hg 6 _ (by omega) rfl⟩
theorem LicC.keep {w W : World} {g k : Nat} {l : LicM} (h : LicC w g k l) (hb : Below w.heap.size w W) : LicC W g k l :=
  have K := fun ad v (hc : w.cell? ad = some v) => ((Run.begin w).below emp_ok hb).cell hc (fun h => h)
  ⟨K _ _ h.1, K _ _ h.2.1, K _ _ h.2.2.1, K _ _ h.2.2.2.1, K _ _ h.2.2.2.2⟩
/-- The law's list and its errors, beside the book. -/
def NevO (A9 : Option Addr) (m c9 : Nat) (zs : List ZL) (E : Option Addr) (n cE : Nat) (xs : List StepM) : Own := star (ARow lcl low 56 7 (.slice A9 m c9) zs) (RowO 25 1 (.slice E n cE) n (errV xs n))
theorem nevO_ok {A9 : Option Addr} {m c9 : Nat} {zs : List ZL} {E : Option Addr} {n cE : Nat} {xs : List StepM} : (NevO A9 m c9 zs E n cE xs).Ok := star_ok (arow_ok low_ok) row_ok
theorem BSt.licC {A9 E : Option Addr} {m c9 n cE : Nat} {zs : List ZL} {xs : List StepM} (h : BSt w0 (star X (NevO A9 m c9 zs E n cE xs)) p b W) (hm : m = zs.length) {k : Nat} (hk : k < zs.length) : ∃ g, A9 = some ⟨g, 0, none⟩ ∧ LicC W g k zs[k].l := by
  unfold NevO at h
  obtain ⟨F, hA⟩ := (h.run.perm (by ac_rfl : _ = star (ARow lcl low 56 7 (.slice A9 m c9) zs) (star (BkO b p) (star X (RowO 25 1 (.slice E n cE) n (errV xs n)))))).fst
  exact licC_of hA hm hk
theorem BSt.errC {A9 E : Option Addr} {m c9 n cE : Nat} {zs : List ZL} {xs : List StepM} (h : BSt w0 (star X (NevO A9 m c9 zs E n cE xs)) p b W) : ∃ F, RowO 25 1 (.slice E n cE) n (errV xs n) W F := by
  unfold NevO at h
  exact (h.run.perm (by ac_rfl : _ = star (RowO 25 1 (.slice E n cE) n (errV xs n)) (star (BkO b p) (star X (ARow lcl low 56 7 (.slice A9 m c9) zs))))).fst
theorem BSt.errAt {A9 E : Option Addr} {m c9 n cE : Nat} {zs : List ZL} {xs : List StepM} (h : BSt w0 (star X (NevO A9 m c9 zs E n cE xs)) p b W) {k : Nat} (hk : k < n) : ∃ g, E = some ⟨g, 0, none⟩ ∧ W.cell? ⟨g, k, none⟩ = some (.int .i64 (er xs k)) := by
  obtain ⟨F, hE⟩ := h.errC
  obtain ⟨g, rfl⟩ := row_addr hE (by omega)
  exact ⟨g, rfl, row_cell hE (errV_get hk)⟩
end
/-- Left of a licence, and what the law reckons. -/
theorem never_num {xs : List StepM} {n : Nat} (hn : n = xs.length) {k : Nat} (hk : k < (playM xs).gs.length) {su sn : Int} (hs : sumA xs (gat (playM xs) k).l.id n n = (su, sn)) :
    0 ≤ su ∧ 0 ≤ sn ∧ su ≤ (gat (playM xs) k).l.q ∧ sn ≤ (gat (playM xs) k).l.u ∧ (gat (playM xs) k).l.q ≤ 1000000000 ∧ (gat (playM xs) k).l.u ≤ 1000000000 ∧
    ∀ a, inst a = true → leftR (playM xs) (gat (playM xs) k).l.id a = if forceL xs (gat (playM xs) k).l.id (gat (playM xs) k).l.f (gat (playM xs) k).l.t a n = true then ((gat (playM xs) k).l.q - su, (gat (playM xs) k).l.u - sn, 0) else (0, 0, 0) := by
  have hb : bk xs n = playM xs := by unfold bk; rw [hn, List.take_length]
  have hI := inv2_play xs
  rw [← hb] at hk hs hI ⊢
  have h1 := sums_are (xs := xs) (n := n) (by omega) hk
  rw [hs] at h1
  injection h1 with e1 e2
  have h2 := hI.inv.g _ (gat_mem hk)
  have h3 := valid_num h2.1
  refine ⟨by omega, by omega, by omega, by omega, by omega, by omega, fun a ha => ?_⟩
  rw [left_at hI hk ha, force_is (by omega) hk a]
  unfold leftI
  by_cases hr : runsG (gat (bk xs n) k) a = true
  · rw [if_neg (by rw [hr]; simp), if_pos hr, e1, e2]
  · rw [if_pos (by simpa using hr), if_neg hr]
end Go.Proofs.Ytapabbpdfplpoaa
