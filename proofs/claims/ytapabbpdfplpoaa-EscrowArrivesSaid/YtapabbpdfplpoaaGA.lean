/-
  Escrow: operations as data; what stays true of a state under any of them.
-/
import Derived.Test.YtapabbpdfplpoaaGI
set_option linter.unusedSimpArgs false
set_option linter.unusedVariables false
namespace Go.CH.Esc

structure ActG where
  k : Int
  a : Int
  b : Int
  u : Int
  lost : Bool
  again : Bool
def doM (g : GM) (x : ActG) : GM := if x.k = 0 then spendM g x.a x.u else if x.k = 1 then retM g x.a x.u else if x.k = 2 then giveM g x.a x.b x.u else if x.k = 3 then sendM g x.a x.b else if x.k = 4 then delM g x.a x.b x.lost x.again else revM g x.a
def doE (g : GM) (x : ActG) : Int := if x.k = 0 then spendE g x.a x.u else if x.k = 1 then retE g x.a x.u else if x.k = 2 then giveE g x.a x.b x.u else if x.k = 3 then sendE g x.a x.b else if x.k = 4 then 0 else revE g x.a
def doB (g : GM) (x : ActG) : Bool := if x.k = 0 then false else if x.k = 1 then false else if x.k = 2 then false else if x.k = 3 then false else if x.k = 4 then delE g x.a x.b else false
theorem Inv.do {g : GM} {U : Int} (h : Inv g U) (x : ActG) : Inv (doM g x) U := by
  unfold doM
  split
  · exact h.spend _ _
  · split
    · exact h.ret _ _
    · split
      · exact h.give _ _ _
      · split
        · exact h.send _ _
        · split
          · exact h.del _ _ _ _
          · exact h.revoke _
/-- No pair has seen more than n transfers. -/
def HB (g : GM) (n : Nat) : Prop := ∀ k, (g.pr k).H.length ≤ n
theorem HB.mono {g : GM} {n m : Nat} (h : HB g n) (hm : n ≤ m) : HB g m := fun k => Nat.le_trans (h k) hm
theorem HB.setA {g : GM} {n : Nat} (h : HB g n) (r : Int) (a : Acc) : HB (g.setA r a) n := h
theorem HB.setP {g : GM} {n : Nat} (h : HB g n) (k : Int × Int) (p : PrG) (hp : p.H.length ≤ n) : HB (g.setP k p) n := fun x => by
  unfold GM.setP; simp only []; split
  · exact hp
  · exact h x
theorem HB.spend {g : GM} {n : Nat} (h : HB g n) (r k : Int) : HB (spendM g r k) n := by unfold spendM; split; exact h.setA _ _; exact h
theorem HB.ret {g : GM} {n : Nat} (h : HB g n) (r k : Int) : HB (retM g r k) n := by unfold retM; split; exact h.setA _ _; exact h
theorem HB.revoke {g : GM} {n : Nat} (h : HB g n) (r : Int) : HB (revM g r) n := by unfold revM; split; exact h.setA _ _; exact h
theorem HB.give {g : GM} {n : Nat} (h : HB g n) (f t k : Int) : HB (giveM g f t k) (n + 1) := by
  unfold giveM
  split
  · exact (HB.setA (h.mono (Nat.le_succ _)) _ _).setP _ _ (by have := h (f, t); simp; omega)
  · exact h.mono (Nat.le_succ _)
theorem HB.send {g : GM} {n : Nat} (h : HB g n) (f t : Int) : HB (sendM g f t) n := by
  unfold sendM
  split
  · exact h.setP _ _ (h (f, t))
  · exact h
theorem HB.pop {g : GM} {n : Nat} (h : HB g n) (f t : Int) (again : Bool) : HB (popM g f t again) n := by unfold popM; exact h.setP _ _ (h (f, t))
theorem HB.recv {g : GM} {n : Nat} (h : HB g n) (f t : Int) (m : MsgG) : HB (recvM g f t m) n := by
  intro k
  unfold recvM
  simp only [setA_pr, GM.setP]
  repeat' split
  all_goals exact h _
theorem HB.del {g : GM} {n : Nat} (h : HB g n) (f t : Int) (lost again : Bool) : HB (delM g f t lost again) n := by
  unfold delM
  split
  · simp only []
    split
    · exact h.pop _ _ _
    · exact (h.pop _ _ _).recv _ _ _
  · exact h
theorem HB.do {g : GM} {n : Nat} (h : HB g n) (x : ActG) : HB (doM g x) (n + 1) := by
  unfold doM
  have h' := fun {g : GM} (h : HB g n) => h.mono (Nat.le_succ n)
  split
  · exact h' (h.spend _ _)
  · split
    · exact h' (h.ret _ _)
    · split
      · exact h.give _ _ _
      · split
        · exact h' (h.send _ _)
        · split
          · exact h' (h.del _ _ _ _)
          · exact h' (h.revoke _)
theorem HB.new (n : Nat) (u : Int) : HB (newG n u) 0 := fun k => by simp [newG, p0]
/-- The number of replicas stays. -/
theorem len_setA (g : GM) (r : Int) (a : Acc) : (g.setA r a).acc.length = g.acc.length := setA_len g r a
theorem len_do (g : GM) (x : ActG) : (doM g x).acc.length = g.acc.length := by
  unfold doM spendM retM giveM sendM delM revM popM recvM
  simp only []
  repeat' split
  all_goals simp only [GM.setP, GM.setA, List.length_set]
theorem len_new {n : Nat} (h : 1 ≤ n) (u : Int) : (newG n u).acc.length = n := by simp [newG]; omega
/-- Many operations. -/
def doL (g : GM) (l : List ActG) : GM := l.foldl doM g
theorem doL_snoc (g : GM) (l : List ActG) (x : ActG) : doL g (l ++ [x]) = doM (doL g l) x := by simp [doL]
theorem Inv.doL {g : GM} {U : Int} (h : Inv g U) (l : List ActG) : Inv (Esc.doL g l) U := by
  unfold Esc.doL
  induction l generalizing g with
  | nil => exact h
  | cons x l ih => exact ih (h.do x)
theorem HB.doL {g : GM} {n : Nat} (h : HB g n) (l : List ActG) : HB (Esc.doL g l) (n + l.length) := by
  unfold Esc.doL
  induction l generalizing g n with
  | nil => exact h
  | cons x l ih => have := ih (h.do x); rw [List.length_cons]; exact this.mono (by omega)
theorem len_doL (g : GM) (l : List ActG) : (doL g l).acc.length = g.acc.length := by
  unfold doL
  induction l generalizing g with
  | nil => rfl
  | cons x l ih => rw [List.foldl_cons, ih, len_do]
end Go.CH.Esc
