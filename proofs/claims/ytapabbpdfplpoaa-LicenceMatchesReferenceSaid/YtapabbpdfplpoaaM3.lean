/-
  Licence: the plain model (identifiers, licences, books).
  Things owned, in any order and with any brackets.
  Licence: isName, within.
  Maps whose keys are strings; rows of strings.
  Licence: names.
-/
import Derived.Test.YtapabbpdfplpoaaM1
import Derived.Test.YtapabbpdfplpoaaM2
set_option linter.unusedSimpArgs false
set_option linter.unusedVariables false
namespace Go.CH.Lic
instance lawBytes : LawfulBEq ByteArray where
  eq_of_beq h := (Go.MapKept.bytes_beq _ _).1 h
  rfl := (Go.MapKept.bytes_beq _ _).2 rfl

def letB (n : Nat) : Bool := (decide (97 ≤ n) && decide (n ≤ 122)) || (decide (65 ≤ n) && decide (n ≤ 90))
def restB (n : Nat) : Bool := letB n || decide (n = 95) || (decide (48 ≤ n) && decide (n ≤ 57))
/-- The byte at i. -/
def byt (s : ByteArray) (i : Nat) : Nat := (s.data.toList.getD i 0).toNat
def okAt (s : ByteArray) (i : Nat) : Bool := if i = 0 then letB (byt s i) else restB (byt s i)
def okTo (s : ByteArray) (n : Nat) : Bool := (List.range n).all (okAt s)
def isName (s : ByteArray) : Bool := okTo s s.size && decide (1 ≤ s.size) && decide (s.size ≤ 24)
theorem okTo_succ (s : ByteArray) (n : Nat) : okTo s (n + 1) = (okTo s n && okAt s n) := by
  unfold okTo; rw [List.range_succ, List.all_append]; simp
theorem okTo_zero (s : ByteArray) : okTo s 0 = true := rfl
theorem okTo_false {s : ByteArray} {k n : Nat} (hk : k < n) (h : okAt s k = false) : okTo s n = false := by
  unfold okTo
  rw [List.all_eq_false]
  exact ⟨k, List.mem_range.2 hk, by simp [h]⟩

structure LicM where
  id : ByteArray
  ms : List ByteArray
  ps : List ByteArray
  q : Int
  u : Int
  f : Int
  t : Int
structure GrM where
  l : LicM
  su : Int
  sn : Int
  e : Int
structure KeyM where
  nm : ByteArray
  gi : Nat
  st : Int
  un : Int
structure BkM where
  gs : List GrM
  ks : List KeyM
/-- Different identifiers. -/
def names (l : List ByteArray) : Bool := l.all isName && decide l.Nodup
theorem names_nil : names [] = true := rfl
theorem names_snoc (l : List ByteArray) (s : ByteArray) : names (l ++ [s]) = (names l && isName s && !decide (s ∈ l)) := by
  unfold names
  rw [Bool.eq_iff_iff]
  simp only [List.all_append, List.all_cons, List.all_nil, Bool.and_true, Bool.and_eq_true, decide_eq_true_eq, Bool.not_eq_true', decide_eq_false_iff_not, List.nodup_append, List.nodup_cons, List.not_mem_nil, not_false_eq_true, List.nodup_nil, and_true, List.mem_singleton, forall_eq]
  constructor
  · rintro ⟨⟨a, b⟩, c, _, d⟩
    exact ⟨⟨⟨a, c⟩, b⟩, fun h => d s h rfl⟩
  · rintro ⟨⟨⟨a, c⟩, b⟩, d⟩
    exact ⟨⟨a, b⟩, c, by simp, fun x hx e => d (e ▸ hx)⟩
theorem names_take {l : List ByteArray} {k : Nat} (h : k < l.length) : names (l.take (k + 1)) = (names (l.take k) && isName l[k] && !decide (l[k] ∈ l.take k)) := by
  rw [List.take_succ_eq_append_getElem h, names_snoc]
theorem names_no {l : List ByteArray} {k : Nat} (h : names (l.take k) = false) : names l = false := by
  unfold names at *
  rw [Bool.and_eq_false_iff] at *
  rcases h with h | h
  · left
    rw [List.all_eq_false] at *
    obtain ⟨x, hx, hh⟩ := h
    exact ⟨x, List.mem_of_mem_take hx, hh⟩
  · right
    simp only [decide_eq_false_iff_not] at *
    exact fun hn => h ((List.take_sublist k l).nodup hn)
def within (n m : Int) : Bool := decide (0 ≤ n) && decide (n ≤ m)
def listsOk (l : LicM) : Bool := names l.ms && names l.ps && decide (0 < l.ms.length) && decide (l.ms.length ≤ 12) && decide (l.ps.length ≤ 60)
def valid (l : LicM) : Bool := isName l.id && listsOk l && within l.q 1000000000 && within l.u 1000 && within l.f 144001439 && within l.t 144001439 && decide (l.f < l.t)
instance : Inhabited LicM := ⟨⟨ByteArray.empty, [], [], 0, 0, 0, 0⟩⟩
instance : Inhabited GrM := ⟨⟨default, 0, 0, 0⟩⟩
instance : Inhabited KeyM := ⟨⟨ByteArray.empty, 0, 0, 0⟩⟩
def gat (b : BkM) (i : Nat) : GrM := b.gs.getD i default
def kat (b : BkM) (j : Nat) : KeyM := b.ks.getD j default
def findG (b : BkM) (id : ByteArray) : Option Nat := b.gs.findIdx? (fun g => decide (g.l.id = id))
def findK (b : BkM) (nm : ByteArray) : Option Nat := b.ks.findIdx? (fun k => decide (k.nm = nm))
def putG (b : BkM) (i : Nat) (g : GrM) : BkM := { b with gs := b.gs.set i g }
def putK (b : BkM) (j : Nat) (k : KeyM) : BkM := { b with ks := b.ks.set j k }
def unC (k : KeyM) : Int := if k.st = 2 then 0 else k.un
def runsB (f t e a : Int) : Bool := decide (f ≤ a) && decide (a < t) && (decide (e < 0) || decide (a < e))
def runsG (g : GrM) (a : Int) : Bool := runsB g.l.f g.l.t g.e a
def inst (a : Int) : Bool := within a 144001439
/-- A key takes another state and number of units. -/
def setM (b : BkM) (j : Nat) (st un : Int) : BkM :=
  putG (putK b j { kat b j with st := st, un := un }) (kat b j).gi { gat b (kat b j).gi with su := (gat b (kat b j).gi).su + (un - unC (kat b j)) }
def relM (b : BkM) (j : Nat) : BkM :=
  putG (putK b j { kat b j with st := 2 }) (kat b j).gi { gat b (kat b j).gi with su := (gat b (kat b j).gi).su + (0 - unC (kat b j)), sn := (gat b (kat b j).gi).sn - 1 }
def addM (b : BkM) (l : LicM) : BkM := { b with gs := b.gs ++ [⟨l, 0, 0, -1⟩] }
def newM : BkM := ⟨[], []⟩
/-! The functions of a book: the error, the book that is left. -/
def grantR (b : BkM) (l : LicM) : Int × BkM :=
  if valid l = false then (1, b) else if (findG b l.id).isSome then (9, b) else if 100 ≤ b.gs.length then (28, b) else (0, addM b l)
def revokeR (b : BkM) (id : ByteArray) (a : Int) : Int × BkM := match findG b id with
  | none => (11, b)
  | some i => if inst a = false then (1, b) else if 0 ≤ (gat b i).e then (12, b) else (0, putG b i { gat b i with e := a })
def amendL (l : LicM) (q u t : Int) : LicM := { l with q := q, u := u, t := t }
def amendR (b : BkM) (id : ByteArray) (q u t : Int) : Int × BkM := match findG b id with
  | none => (11, b)
  | some i => if 0 ≤ (gat b i).e then (12, b) else if valid (amendL (gat b i).l q u t) = false then (1, b) else if q < (gat b i).su ∨ u < (gat b i).sn then (19, b) else (0, putG b i { gat b i with l := amendL (gat b i).l q u t })
def splitL (l : LicM) (into : ByteArray) (q u : Int) : LicM := { l with id := into, q := q, u := u }
def splitR (b : BkM) (id into : ByteArray) (q u : Int) : Int × BkM := match findG b id with
  | none => (11, b)
  | some i => if 0 ≤ (gat b i).e then (12, b) else if isName into = false ∨ q < 0 ∨ u < 0 then (1, b) else if (findG b into).isSome then (9, b) else if 100 ≤ b.gs.length then (28, b)
      else if (gat b i).l.q - (gat b i).su < q ∨ (gat b i).l.u - (gat b i).sn < u then (19, b)
      else (0, addM (putG b i { gat b i with l := { (gat b i).l with q := (gat b i).l.q - q, u := (gat b i).l.u - u } }) (splitL (gat b i).l into q u))
def reserveR (b : BkM) (id nm : ByteArray) (un a : Int) : Int × BkM :=
  if isName nm = false ∨ within un 1000000000 = false ∨ inst a = false then (1, b) else match findG b id with
  | none => (11, b)
  | some i => if (findK b nm).isSome then (9, b) else if 1000 ≤ b.ks.length then (28, b) else if runsG (gat b i) a = false then (12, b)
      else if (gat b i).l.q - (gat b i).su < un ∨ (gat b i).l.u - (gat b i).sn < 1 then (19, b)
      else (0, putG { b with ks := b.ks ++ [⟨nm, i, 0, un⟩] } i { gat b i with su := (gat b i).su + un, sn := (gat b i).sn + 1 })
def useR (b : BkM) (nm : ByteArray) (un a : Int) : Int × BkM := match findK b nm with
  | none => (11, b)
  | some j => if un < 0 ∨ inst a = false then (1, b) else if (kat b j).st ≠ 0 then (12, b) else if runsG (gat b (kat b j).gi) a = false then (22, relM b j)
      else if (kat b j).un < un then (19, b) else (0, setM b j 1 un)
def returnR (b : BkM) (nm : ByteArray) (un : Int) : Int × BkM := match findK b nm with
  | none => (11, b)
  | some j => if un < 1 then (1, b) else if (kat b j).st ≠ 1 then (12, b) else if (kat b j).un < un then (19, b) else (0, setM b j 1 ((kat b j).un - un))
def releaseR (b : BkM) (nm : ByteArray) : Int × BkM := match findK b nm with
  | none => (11, b)
  | some j => if (kat b j).st ≠ 0 then (12, b) else (0, relM b j)
/-- What is left: units, uses, the error. -/
def leftR (b : BkM) (id : ByteArray) (a : Int) : Int × Int × Int := match findG b id with
  | none => (0, 0, 11)
  | some i => if inst a = false then (0, 0, 1) else if runsG (gat b i) a = false then (0, 0, 0) else ((gat b i).l.q - (gat b i).su, (gat b i).l.u - (gat b i).sn, 0)

theorem idx_some {α : Type} {p : α → Bool} {l : List α} {i : Nat} (h : l.findIdx? p = some i) : ∃ hi : i < l.length, p l[i] = true ∧ ∀ j (hj : j < i), p (l[j]'(by omega)) = false := by
  obtain ⟨hi, h1, h2⟩ := List.findIdx?_eq_some_iff_getElem.1 h
  exact ⟨hi, h1, fun j hj => by simpa using h2 j hj⟩
theorem findG_some {b : BkM} {id : ByteArray} {i : Nat} (h : findG b id = some i) : i < b.gs.length ∧ (gat b i).l.id = id ∧ b.gs[i]? = some (gat b i) := by
  obtain ⟨hi, h1, _⟩ := idx_some h
  have e : gat b i = b.gs[i] := by simp [gat, List.getD_eq_getElem?_getD, hi]
  exact ⟨hi, by rw [e]; simpa using h1, by rw [e]; exact List.getElem?_eq_getElem hi⟩
theorem findK_some {b : BkM} {nm : ByteArray} {j : Nat} (h : findK b nm = some j) : j < b.ks.length ∧ (kat b j).nm = nm ∧ b.ks[j]? = some (kat b j) := by
  obtain ⟨hi, h1, _⟩ := idx_some h
  have e : kat b j = b.ks[j] := by simp [kat, List.getD_eq_getElem?_getD, hi]
  exact ⟨hi, by rw [e]; simpa using h1, by rw [e]; exact List.getElem?_eq_getElem hi⟩
theorem findG_none {b : BkM} {id : ByteArray} (h : findG b id = none) : ∀ g ∈ b.gs, g.l.id ≠ id := by
  intro g hg
  have := List.findIdx?_eq_none_iff.1 h g hg
  simpa using this
theorem findK_none {b : BkM} {nm : ByteArray} (h : findK b nm = none) : ∀ k ∈ b.ks, k.nm ≠ nm := by
  intro g hg
  have := List.findIdx?_eq_none_iff.1 h g hg
  simpa using this
theorem gat_get {b : BkM} {i : Nat} (h : i < b.gs.length) : gat b i = b.gs[i] := by simp [gat, List.getD_eq_getElem?_getD, h]
theorem kat_get {b : BkM} {j : Nat} (h : j < b.ks.length) : kat b j = b.ks[j] := by simp [kat, List.getD_eq_getElem?_getD, h]
theorem gat_mem {b : BkM} {i : Nat} (h : i < b.gs.length) : gat b i ∈ b.gs := by rw [gat_get h]; exact List.getElem_mem h
theorem kat_mem {b : BkM} {j : Nat} (h : j < b.ks.length) : kat b j ∈ b.ks := by rw [kat_get h]; exact List.getElem_mem h

/-- What stays true of a book (numbers alone). -/
structure Inv (b : BkM) : Prop where
  g : ∀ g ∈ b.gs, valid g.l = true ∧ 0 ≤ g.su ∧ g.su ≤ g.l.q ∧ 0 ≤ g.sn ∧ g.sn ≤ g.l.u ∧ -1 ≤ g.e ∧ g.e ≤ 144001439
  k : ∀ k ∈ b.ks, k.gi < b.gs.length ∧ 0 ≤ k.un ∧ k.un ≤ 1000000000 ∧ (k.st = 0 ∨ k.st = 1 ∨ k.st = 2)
  gn : b.gs.length ≤ 100
  kn : b.ks.length ≤ 1000
theorem valid_num {l : LicM} (h : valid l = true) : 0 ≤ l.q ∧ l.q ≤ 1000000000 ∧ 0 ≤ l.u ∧ l.u ≤ 1000 ∧ 0 ≤ l.f ∧ l.f ≤ 144001439 ∧ 0 ≤ l.t ∧ l.t ≤ 144001439 ∧ l.f < l.t := by
  unfold valid within at h
  simp only [Bool.and_eq_true, decide_eq_true_eq] at h
  omega
theorem valid_lists {l : LicM} (h : valid l = true) : l.ms.length ≤ 12 ∧ l.ps.length ≤ 60 ∧ names l.ms = true ∧ names l.ps = true ∧ isName l.id = true := by
  unfold valid listsOk at h
  simp only [Bool.and_eq_true, decide_eq_true_eq] at h
  exact ⟨by omega, by omega, by simp_all, by simp_all, by simp_all⟩
theorem name_size {s : ByteArray} (h : isName s = true) : s.size ≤ 24 := by
  unfold isName at h; simp only [Bool.and_eq_true, decide_eq_true_eq] at h; exact h.2
theorem names_size {l : List ByteArray} (h : names l = true) : ∀ s ∈ l, s.size ≤ 24 := by
  unfold names at h
  simp only [Bool.and_eq_true, List.all_eq_true] at h
  exact fun s hs => name_size (h.1 s hs)
theorem valid_amend {l : LicM} {q u t : Int} : (amendL l q u t).id = l.id ∧ (amendL l q u t).ms = l.ms ∧ (amendL l q u t).ps = l.ps := ⟨rfl, rfl, rfl⟩
end Go.CH.Lic
namespace Go.CH
open Go.RowKit

theorem star_comm_eq (A B : Own) : star A B = star B A := by
  funext w F; exact propext ⟨star_comm, star_comm⟩
theorem star_assoc_eq (A B C : Own) : star (star A B) C = star A (star B C) := by
  funext w F; exact propext ⟨star_assoc, star_assoc'⟩
instance star_com : Std.Commutative star := ⟨star_comm_eq⟩
instance star_ass : Std.Associative star := ⟨star_assoc_eq⟩
theorem emp_star (A : Own) : star emp A = A := by
  funext w F; exact propext ⟨fun h => star_emp (star_comm h), fun h => star_comm (star_emp' h)⟩
theorem star_emp_eq (A : Own) : star A emp = A := by rw [star_comm_eq, emp_star]
theorem Run.perm {F0 : Nat → Prop} {w0 W : World} {A B : Own} (h : Run F0 w0 A W) (e : A = B) : Run F0 w0 B W := e ▸ h
/-- A call at a part of what is owned, by a law that speaks of the call's own beginning. -/
theorem Run.sub {F0 : Nat → Prop} {w0 W : World} {A B : Own} (h : Run F0 w0 (star A B) W) (ha : A.Ok) (hb : B.Ok) : ∃ F, Run F W A W ∧ ∀ (R : Own) (W' : World), R.Ok → Run F W R W' → Run F0 w0 (star R B) W' := by
  obtain ⟨F, h1, -, h2⟩ := h.take ha hb
  exact ⟨F, Run.start h1, fun R W' hr hp => h2 R W' (hp.post hr)⟩
end Go.CH
namespace Go.Proofs.Ytapabbpdfplpoaa
open Go.RowKit Go.CH Go.CH.Lic
open Go.ChangeMaps (setBlock)

theorem bytN (s : ByteArray) (i : Nat) : s.data.toList.getD i 0 = UInt8.ofNat (byt s i) := by unfold byt; simp
theorem byt_lt (s : ByteArray) (i : Nat) : byt s i < 256 := by unfold byt; exact UInt8.toNat_lt _
theorem okAt_iff (s : ByteArray) (k : Nat) : okAt s k = true ↔ ((97 ≤ byt s k ∧ byt s k ≤ 122) ∨ (65 ≤ byt s k ∧ byt s k ≤ 90)) ∨ (k ≠ 0 ∧ (byt s k = 95 ∨ (48 ≤ byt s k ∧ byt s k ≤ 57))) := by
  unfold okAt restB letB
  by_cases h : k = 0
  · simp [h]
  · simp [h]; omega
theorem byt_at (s : ByteArray) (k : Nat) (h : k < s.size) : byt s k = s[k].toNat := by
  unfold byt
  have h1 : s.data.toList[k]? = some s[k] := by
    rw [Array.getElem?_toList]
    exact Array.getElem?_eq_getElem (xs := s.data) h
  rw [List.getD_eq_getElem?_getD, h1]; rfl
theorem isName_no {s : ByteArray} {k : Nat} (h : k < s.size) (ho : okAt s k = false) : isName s = false := by
  unfold isName; rw [okTo_false h ho]; rfl
theorem size_or (s : ByteArray) : (s.size = 0 ∧ s.toList = [] ∧ (!s.toList.isEmpty) = false) ∨ (1 ≤ s.size ∧ ¬ s.toList = [] ∧ (!s.toList.isEmpty) = true) := by
  have h1 : s.toList.length = s.size := by rw [ByteArray.toList_eq]; simp
  by_cases h : s.toList = []
  · left; rw [h] at h1; exact ⟨h1.symm, h, by rw [h]; rfl⟩
  · right
    refine ⟨?_, h, ?_⟩
    · rcases Nat.eq_zero_or_pos s.size with e | e
      · exact absurd (List.eq_nil_of_length_eq_zero (h1.trans e)) h
      · exact e
    · cases hl : s.toList with
      | nil => exact absurd hl h
      | cons a l => rfl
theorem quiet_bool {w : World} {a b : Bool} (h : a = b) : Quiet w (.bool b) (.returned (.bool a)) w := ⟨by rw [h], rfl⟩
set_option maxHeartbeats 1600000 in
theorem isName_any (s : ByteArray) (w : World) (hs : s.size ≤ maxLen) :
    Calls Try.prog 76 #[.string s] w (Quiet w (.bool (isName s))) := by
  unfold maxLen at hs
  go_enter Try.func76, Try.ntmps76
  go_wp2
  go_loop [2, 3, 4, 5, 8] (fun _ _ _ _ i => ∃ k : Nat, k ≤ s.size ∧ i = .int .i64 k ∧ okTo s k = true) (fun _ _ _ _ i => s.size - (intOf i).toNat)
  case atStart => exact ⟨0, Nat.zero_le _, rfl, rfl⟩
  case round =>
    obtain ⟨k, hk, rfl, hok⟩ := hrel
    have HOK := hide hok
    clear hok
    by_cases hlt : k < s.size
    · have hb := hide (byt_at s k hlt)
      have ho := hide (okAt_iff s k)
      have hno := hide (fun h => isName_no (s := s) hlt h)
      have hsucc := hide (okTo_succ s k)
      have hk0 : k = 0 ∨ ((k : Int) == 0) = false := by
        by_cases e : k = 0
        · exact .inl e
        · right; simp; omega
      rcases hk0 with rfl | hk0
      · go_wp2
        all_goals first
          | (go_ret; refine quiet_bool (hno.out ?_).symm; rw [Bool.eq_false_iff]; intro hx; have := ho.out.1 hx; rw [hb.out] at this; omega)
          | (go_round
             case rel =>
               refine ⟨0 + 1, by omega, by go_num, ?_⟩
               rw [hsucc.out, HOK.out, Bool.true_and]
               refine ho.out.2 ?_
               rw [hb.out]
               first | omega | (exfalso; simp_all; done) | (simp_all; omega)
             case measure => simp [intOf]; omega)
      · go_wp2
        all_goals first
          | (go_ret; refine quiet_bool (hno.out ?_).symm; rw [Bool.eq_false_iff]; intro hx; have := ho.out.1 hx; rw [hb.out] at this; omega)
          | (go_round
             case rel =>
               refine ⟨k + 1, by omega, by go_num, ?_⟩
               rw [hsucc.out, HOK.out, Bool.true_and]
               refine ho.out.2 ?_
               rw [hb.out]
               first | omega | (exfalso; simp_all; done) | (simp_all; omega)
             case measure => simp [intOf]; omega)
    · have hks : k = s.size := by omega
      have HK := hide hks
      clear hks
      have hfin := hide (show isName s = (decide (1 ≤ s.size) && decide (s.size ≤ 24)) by unfold isName; rw [← HK.out, HOK.out, Bool.true_and])
      rcases size_or s with ⟨e0, e1, e2⟩ | ⟨e0, e1, e2⟩
      · have HE := hide e0
        clear e0
        go_wp2
        go_ret
        exact quiet_bool (by rw [hfin.out, HE.out]; rfl)
      · have HE := hide e0
        clear e0
        go_wp2
        go_ret
        exact quiet_bool (by rw [hfin.out, decide_eq_true HE.out, Bool.true_and]; go_num)
theorem within_any (n m : Int) (w : World) : Calls Try.prog 77 #[.int .i64 n, .int .i64 m] w (Quiet w (.bool (within n m))) := by
  by_cases h : 0 ≤ n
  · have hv := hide (show within n m = decide (n ≤ m) by unfold within; rw [decide_eq_true h]; rfl)
    have h' : decide (n ≥ 0) = true := by simpa using h
    go_enter Try.func77, Try.ntmps77
    go_wp2
    go_ret
    exact quiet_bool hv.out.symm
  · have hv := hide (show within n m = false by unfold within; rw [decide_eq_false h]; rfl)
    have h' : decide (n ≥ 0) = false := by simpa using h
    go_enter Try.func77, Try.ntmps77
    go_wp2
    go_ret
    exact quiet_bool hv.out.symm
end Go.Proofs.Ytapabbpdfplpoaa
namespace Go.CH
open Go.RowKit
open Go.ChangeMaps (setBlock)
section
variable {P : Program}
theorem bytes_dec (a b : ByteArray) : (a == b) = decide (a = b) := by
  rw [Bool.eq_iff_iff, Go.MapKept.bytes_beq]; simp
theorem toList_inj {a b : ByteArray} : a.toList = b.toList ↔ a = b := by
  constructor
  · intro h
    rw [ByteArray.toList_eq, ByteArray.toList_eq] at h
    cases a; cases b; simp at h; rw [h]
  · rintro rfl; rfl
theorem toList_beq (a b : ByteArray) : (a.toList == b.toList) = decide (a = b) := by
  rw [Bool.eq_iff_iff, beq_iff_eq, toList_inj]; simp
theorem eqStr {E : TypeId} (hE : P.underlying E = some .string) (a b : ByteArray) (n : Nat) (w : World) :
    (Op.equalIn (n + 1) E (.string a) (.string b)).run P w = .ok (a == b) w := by
  simp [Op.equalIn, run_underlying hE]
theorem checkStr {E : TypeId} (hE : P.underlying E = some .string) (e : Bool) (a : ByteArray) (n : Nat) (w : World) : (Instr.checkKey e (n + 1) E (.string a)).run P w = .ok () w := by
  simp [Instr.checkKey, run_underlying hE]
theorem keyOk_str {K : TypeId} (hK : P.underlying K = some .string) : KeyOk P K Value.string := by
  refine ⟨fun a b w => ?_, fun e a w => checkStr hK e a 9999 w, fun a => ?_, _, hK, fun a b => ?_⟩
  · rw [Op.equal, Op.maxDepth, eqStr hK a b 9999 w, bytes_dec]
  · unfold Instr.sameBits; exact (bytes_dec a a).trans (by simp)
  · right; unfold Instr.sameNow; simp only [bytes_dec]
end
def strs (l : List ByteArray) : List Value := l.map Value.string
theorem strs_one (l : List ByteArray) : ∀ u ∈ strs l, u.oneCell' = true := by
  intro u hu
  obtain ⟨s, _, rfl⟩ := List.mem_map.1 hu
  rfl
theorem strs_len (l : List ByteArray) : (strs l).length = l.length := by simp [strs]
theorem strs_get {l : List ByteArray} {k : Nat} (h : k < l.length) : (strs l)[k]? = some (.string l[k]) := by simp [strs, h]
section
variable {α : Type} [DecidableEq α] {P : Program} {kv : α → Value} {t K E : TypeId}
theorem mapO_put (H : KeyOk P K kv) (ht : P.underlying t = some (.map K E)) {b : Nat} {l : List (α × Value)} {w : World} {F : Nat → Prop} (h : MapO kv b l w F) (k : α) (v : Value) :
    ∃ w', (Instr.mapUpdate t (.map (some b)) (kv k) v).run P w = .ok () w' ∧ Post w F (MapO kv b (mput l k v)) w' := by
  obtain ⟨⟨es, clock, h1, h2⟩, hF⟩ := h
  obtain ⟨es', clock', h3, h4⟩ := run_mapUpdate H ht h2 b k v
  exact ⟨_, h4 w h1, F, ⟨⟨es', clock', heap_setBlock_self h1, h3⟩, hF⟩, (Mod.refl _ _).setBlock _ (fun _ => (hF b).2 rfl), fun i hi => .inl hi⟩
theorem mapO_get {z : Value} (H : KeyOk P K kv) (ht : P.underlying t = some (.map K E)) (hz : ∀ w, (zeroValue E).run P w = .ok z w) {b : Nat} {l : List (α × Value)} {w : World} {F : Nat → Prop} (h : MapO kv b l w F) (k : α) :
    (Instr.lookup t (.map (some b)) (kv k) false).run P w = .ok ((mget l k).getD z) w := by
  obtain ⟨⟨es, clock, h1, h2⟩, hF⟩ := h
  exact run_lookup H ht hz h2 k w h1
omit [DecidableEq α] in
theorem mapO_len {ty : TypeId} (ht : P.underlying t = some (.map K E)) {b : Nat} {l : List (α × Value)} {w : World} {F : Nat → Prop} (h : MapO kv b l w F) :
    (Builtin.len_ #[t] ty #[.map (some b)]).run P w = .ok (.int .i64 l.length) w := run_len_map ht h.1
theorem mput_new_ {l : List (α × Value)} {k : α} {v : Value} (h : k ∉ l.map (·.1)) : mput l k v = l ++ [(k, v)] := by
  cases hf : fnd k l 0 with
  | none => exact (fnd_none hf).2 v
  | some p =>
    obtain ⟨j, u⟩ := p
    obtain ⟨n, h1, h2, h3⟩ := fnd_some hf
    exact absurd (List.mem_map.2 ⟨(k, u), List.mem_of_getElem? h2, rfl⟩) h
theorem mget_none_ {k : α} : ∀ {l : List (α × Value)}, k ∉ l.map (·.1) → mget l k = none
  | [], _ => rfl
  | (a, u) :: l, h => by
    simp only [List.map_cons, List.mem_cons, not_or] at h
    rw [mget_cons, if_neg h.1, mget_none_ h.2]
theorem mget_all {k : α} {v : Value} : ∀ {l : List α}, mget (l.map fun x => (x, v)) k = if k ∈ l then some v else none
  | [] => rfl
  | a :: l => by
    rw [List.map_cons, mget_cons, mget_all]
    by_cases h : k = a
    · simp [h]
    · simp [h]
end
end Go.CH
namespace Go.Proofs.Ytapabbpdfplpoaa
open Go.RowKit Go.CH Go.CH.Lic
open Go.ChangeMaps (setBlock)

theorem keyStr : KeyOk Try.prog 9 Value.string := keyOk_str Try.underlying9
theorem zeroB : ∀ w, (zeroValue 4).run Try.prog w = .ok (.bool false) w := fun w => by kernel_rfl
def seen (l : List ByteArray) : List (ByteArray × Value) := l.map fun x => (x, .bool true)
theorem seen_keys (l : List ByteArray) : (seen l).map (·.1) = l := by unfold seen; simp [Function.comp_def]
theorem seen_get {l : List ByteArray} {b : Nat} {w : World} {F : Nat → Prop} (h : MapO Value.string b (seen l) w F) (s : ByteArray) :
    (Instr.lookup 164 (.map (some b)) (.string s) false).run Try.prog w = .ok (.bool (decide (s ∈ l))) w := by
  rw [mapO_get keyStr Try.underlying164 zeroB h s]
  unfold seen
  rw [mget_all]
  by_cases hs : s ∈ l <;> simp [hs]
theorem bel_bool {w w' : World} {a b : Bool} (h : b = a) (hb : Below w.heap.size w w') : BelowRet w (.bool b) (.returned (.bool a)) w' := ⟨by rw [h], hb⟩
set_option maxHeartbeats 1600000 in
theorem names_any {w : World} {A : Option Addr} {n c : Nat} {l : List ByteArray} (h : Src w A n 1 (strs l)) (hs : ∀ s ∈ l, s.size ≤ maxLen) (hn : n ≤ 1000000) :
    Calls Try.prog 93 #[.slice A n c] w (BelowRet w (.bool (names l))) := by
  have hl : l.length = n := by have := h.1; simpa [strs] using this
  have HA := hide h
  have HS := hide hs
  have hmk : ∀ w : World, (Instr.makeMap 164 none).run Try.prog w = .ok (.map (some w.heap.size)) (w.alloc (.map #[] 0)) := fun w => by kernel_rfl
  have R0 := hide (((Run.begin w).fresh emp_ok (map_new (kv := Value.string) w)).imp fun _ _ h => star_emp h)
  clear h hs
  have hz : w.heap.size < (w.alloc (.map #[] 0)).heap.size := by simp
  obtain ⟨b, hb⟩ : ∃ b, b = w.heap.size := ⟨_, rfl⟩
  rw [← hb] at R0
  have HL := hide hl
  go_enter Try.func93, Try.ntmps93
  go_wp2
  rw [← hb]
  clear hb hl hz
  go_loopw [2, 5, 9] (fun _ _ i wr => ∃ k : Nat, k ≤ n ∧ i = .int .i64 k ∧ names (l.take k) = true ∧ Run (fun _ => False) w (MapO Value.string b (seen (l.take k))) wr) (fun _ _ i _ => n - (intOf i).toNat)
  case atStart => exact ⟨0, Nat.zero_le _, rfl, rfl, R0.out⟩
  case round =>
    obtain ⟨k, hk, rfl, hnm, hR⟩ := hrel
    have hl := HL.out
    by_cases hlt : k < n
    · obtain ⟨bA, o, rfl, hc⟩ := HA.out.open_ (by omega) (by omega)
      have c0 := hR.cell (hc k _ (strs_get (by omega))) (fun h => h)
      have hsz := HS.out (l[k]'(by omega)) (List.getElem_mem _)
      have htk := names_take (l := l) (k := k) (by omega)
      have hno : names (l.take (k + 1)) = false → names l = false := names_no
      have htake : l.take (k + 1) = l.take k ++ [l[k]'(by omega)] := List.take_succ_eq_append_getElem (by omega)
      generalize l[k]'(by omega) = s at *
      rw [hnm, Bool.true_and] at htk
      have KN := hide (isName_any s wr hsz)
      obtain ⟨F, hM⟩ := hR.get
      have hlk := seen_get hM s
      have HNO := hide hno
      have HTK := hide htk
      have HNM := hide hnm
      have HTA := hide htake
      clear hno htk hnm htake hl
      cases hi : isName s with
      | false =>
        rw [hi] at KN HTK
        clear hlk hM hi
        go_wp2_with fail
        refine KN.out.mono ?_
        rintro e w' ⟨rfl, rfl⟩
        go_wp2
        go_ret
        exact bel_bool (HNO.out (by rw [HTK.out]; rfl)) hR.bel
      | true =>
        rw [hi] at KN HTK
        clear hi
        cases hd : decide (s ∈ l.take k) with
        | true =>
          rw [hd] at hlk HTK
          clear hM hd
          go_wp2_with fail
          refine KN.out.mono ?_
          rintro e w' ⟨rfl, rfl⟩
          go_wp2
          go_ret
          exact bel_bool (HNO.out (by rw [HTK.out]; rfl)) hR.bel
        | false =>
          obtain ⟨F2, hM2, back⟩ := hR.all map_ok
          obtain ⟨w2, hup, hpost⟩ := mapO_put keyStr Try.underlying164 hM2 s (.bool true)
          have R2 := hide (back _ _ hpost)
          have hnew : mput (seen (l.take k)) s (.bool true) = seen (l.take (k + 1)) := by
            rw [mput_new_ (by rw [seen_keys]; simpa using hd), HTA.out]
            unfold seen; simp
          rw [hnew] at R2
          rw [hd] at hlk HTK
          clear back hpost hM2 hM hd hnew
          go_wp2_with fail
          refine KN.out.mono ?_
          rintro e w' ⟨rfl, rfl⟩
          go_wp2
          go_roundw
          case rel => exact ⟨k + 1, by omega, by go_num, by rw [HTK.out]; rfl, R2.out⟩
          case measure => simp [intOf]; omega
    · obtain rfl : k = n := by omega
      rw [← hl, List.take_length] at hnm
      have HN := hide hnm
      have HR := hide hR
      clear hnm hR hl
      go_wp2
      go_ret
      exact bel_bool HN.out HR.out.bel
end Go.Proofs.Ytapabbpdfplpoaa
