/-
  Escrow: what both implementations do, as plain operations on a state with the whole history of transfers; and what stays true of it.
-/
set_option linter.unusedSimpArgs false
set_option linter.unusedVariables false
namespace Go.CH.Esc

def isum : List Int → Int
  | [] => 0
  | x :: l => x + isum l
theorem isum_append : ∀ (a b : List Int), isum (a ++ b) = isum a + isum b
  | [], b => by simp [isum]
  | x :: a, b => by simp [isum, isum_append a b]; omega
theorem isum_nonneg : ∀ {l : List Int}, (∀ x ∈ l, 0 ≤ x) → 0 ≤ isum l
  | [], _ => by simp [isum]
  | x :: l, h => by have := h x (by simp); have := isum_nonneg (l := l) (fun y hy => h y (by simp [hy])); simp [isum]; omega
theorem isum_set : ∀ (l : List Int) (k : Nat) (v : Int) (hk : k < l.length), isum (l.set k v) = isum l - l[k] + v
  | x :: l, 0, v, _ => by simp [isum]; omega
  | x :: l, k + 1, v, h => by simp [isum, isum_set l k v (by simpa using h)]; omega
theorem isum_mem_le : ∀ {l : List Int} {x : Int}, (∀ y ∈ l, 0 ≤ y) → x ∈ l → x ≤ isum l
  | y :: l, x, h, hx => by
    have h1 := isum_nonneg (l := l) (fun z hz => h z (by simp [hz]))
    rcases List.mem_cons.1 hx with rfl | hx
    · simp [isum]; omega
    · have := isum_mem_le (l := l) (fun z hz => h z (by simp [hz])) hx
      have := h y (by simp)
      simp [isum]; omega
theorem isum_upd {α : Type} [DecidableEq α] : ∀ {l : List α} (hn : l.Nodup) (f : α → Int) (k : α) (v : Int), isum (l.map fun x => if x = k then v else f x) = if k ∈ l then isum (l.map f) - f k + v else isum (l.map f)
  | [], _, f, k, v => by simp [isum]
  | a :: l, hn, f, k, v => by
    rw [List.nodup_cons] at hn
    simp only [List.map_cons, isum, isum_upd hn.2 f k v]
    by_cases h : a = k
    · subst h
      simp [hn.1]; omega
    · have h' : ¬ k = a := fun e => h e.symm
      by_cases hk : k ∈ l
      · simp [h, h', hk]; omega
      · simp [h, h', hk]

structure Acc where
  u : Int
  s : Int
  rev : Bool
instance : Inhabited Acc := ⟨⟨0, 0, false⟩⟩
structure MsgG where
  c : Nat
  up : Nat
  rc : Nat
  rev : Bool
instance : Inhabited MsgG := ⟨⟨0, 0, 0, false⟩⟩
structure PrG where
  H : List Int
  rc : Nat
  conf : Nat
  ms : List MsgG
structure GM where
  acc : List Acc
  pr : Int × Int → PrG
def p0 : PrG := ⟨[], 0, 0, []⟩

def GM.is (g : GM) (r : Int) : Bool := decide (0 ≤ r) && decide (r < g.acc.length)
def GM.pair (g : GM) (f t : Int) : Bool := g.is f && g.is t && !(f == t)
def GM.at_ (g : GM) (r : Int) : Acc := g.acc.getD r.toNat default
def GM.setA (g : GM) (r : Int) (a : Acc) : GM := { g with acc := g.acc.set r.toNat a }
def GM.setP (g : GM) (k : Int × Int) (p : PrG) : GM := { g with pr := fun x => if x = k then p else g.pr x }

def newG (n : Nat) (u : Int) : GM := ⟨⟨u, 0, false⟩ :: List.replicate (n - 1) ⟨0, 0, false⟩, fun _ => p0⟩
def have_ (g : GM) (r : Int) : Int := if g.is r then (g.at_ r).u else 0
def spendE (g : GM) (r k : Int) : Int := if k < 1 ∨ g.is r = false then 1 else if (g.at_ r).rev then 22 else if (g.at_ r).u < k then 19 else 0
def spendM (g : GM) (r k : Int) : GM := if spendE g r k = 0 then g.setA r { g.at_ r with u := (g.at_ r).u - k, s := (g.at_ r).s + k } else g
def retE (g : GM) (r k : Int) : Int := if k < 1 ∨ g.is r = false then 1 else if (g.at_ r).s < k then 19 else 0
def retM (g : GM) (r k : Int) : GM := if retE g r k = 0 then g.setA r { g.at_ r with u := (g.at_ r).u + k, s := (g.at_ r).s - k } else g
def giveE (g : GM) (f t k : Int) : Int := if g.pair f t = false ∨ k < 1 then 1 else if (g.at_ f).u < k then 19 else if 100 ≤ (g.pr (f, t)).H.length - (g.pr (f, t)).conf then 28 else 0
def giveM (g : GM) (f t k : Int) : GM :=
  if giveE g f t k = 0 then (g.setA f { g.at_ f with u := (g.at_ f).u - k }).setP (f, t) { g.pr (f, t) with H := (g.pr (f, t)).H ++ [k] } else g
def sendE (g : GM) (f t : Int) : Int := if g.pair f t = false then 1 else if 100 ≤ (g.pr (f, t)).ms.length then 28 else 0
def sendM (g : GM) (f t : Int) : GM :=
  if sendE g f t = 0 then g.setP (f, t) { g.pr (f, t) with ms := (g.pr (f, t)).ms ++ [⟨(g.pr (f, t)).conf, (g.pr (f, t)).H.length, (g.pr (t, f)).rc, (g.at_ f).rev⟩] } else g
def delE (g : GM) (f t : Int) : Bool := g.pair f t && !(g.pr (f, t)).ms.isEmpty
/-- The message is taken out; if again, it is put at the end. -/
def popM (g : GM) (f t : Int) (again : Bool) : GM :=
  g.setP (f, t) { g.pr (f, t) with ms := (g.pr (f, t)).ms.tail ++ if again then [(g.pr (f, t)).ms.headD default] else [] }
/-- The message m from f is received by t. -/
def recvM (g : GM) (f t : Int) (m : MsgG) : GM :=
  let p := g.pr (f, t)
  let g1 := g.setP (f, t) { p with rc := max p.rc m.up }
  let g2 := g1.setP (t, f) { g1.pr (t, f) with conf := max (g1.pr (t, f)).conf m.rc }
  g2.setA t { g.at_ t with u := (g.at_ t).u + isum ((p.H.take m.up).drop p.rc), rev := (g.at_ t).rev || m.rev }
def delM (g : GM) (f t : Int) (lost again : Bool) : GM :=
  if delE g f t then
    let g1 := popM g f t again
    if lost then g1 else recvM g1 f t ((g.pr (f, t)).ms.headD default)
  else g
def revE (g : GM) (r : Int) : Int := if g.is r then 0 else 1
def revM (g : GM) (r : Int) : GM := if g.is r then g.setA r { g.at_ r with rev := true } else g
def keys (n : Nat) : List (Int × Int) := (List.range n).flatMap fun f : Nat => ((List.range n).filter fun t : Nat => decide (f ≠ t)).map (fun t : Nat => ((f : Int), (t : Int)))
def fly (p : PrG) : Int := isum (p.H.drop p.rc)
def spentG (g : GM) : Int := isum (g.acc.map Acc.s)
def flyG (g : GM) : Int := isum ((keys g.acc.length).map fun k => fly (g.pr k))
def haveG (g : GM) : Int := isum (g.acc.map Acc.u)

theorem mem_keys {n : Nat} {k : Int × Int} : k ∈ keys n ↔ 0 ≤ k.1 ∧ k.1 < n ∧ 0 ≤ k.2 ∧ k.2 < n ∧ k.1 ≠ k.2 := by
  obtain ⟨f, t⟩ := k
  simp only [keys, List.mem_flatMap, List.mem_range, List.mem_map, List.mem_filter, Prod.mk.injEq, decide_eq_true_eq]
  constructor
  · rintro ⟨a, ha, b, ⟨hb, hne⟩, rfl, rfl⟩
    refine ⟨by omega, by omega, by omega, by omega, by omega⟩
  · rintro ⟨h1, h2, h3, h4, h5⟩
    exact ⟨f.toNat, by omega, t.toNat, ⟨by omega, by omega⟩, by omega, by omega⟩
theorem nodup_keys (n : Nat) : (keys n).Nodup := by
  unfold keys List.Nodup
  rw [List.pairwise_flatMap]
  refine ⟨fun a _ => ?_, ?_⟩
  · rw [List.pairwise_map]
    refine List.Pairwise.imp (fun {x y} h e => ?_) (List.Pairwise.filter _ (List.nodup_range (n := n)))
    injection e with _ e; exact h (by omega)
  · refine List.Pairwise.imp (fun {a b} hab x hx y hy e => ?_) (List.nodup_range (n := n))
    obtain ⟨t, _, rfl⟩ := List.mem_map.1 hx
    obtain ⟨t', _, rfl⟩ := List.mem_map.1 hy
    injection e with e _
    exact hab (by omega)
theorem pair_mem {g : GM} {f t : Int} : g.pair f t = true ↔ (f, t) ∈ keys g.acc.length := by
  rw [mem_keys]
  simp [GM.pair, GM.is]
  constructor
  · rintro ⟨⟨⟨h1, h2⟩, h3, h4⟩, h5⟩; exact ⟨h1, h2, h3, h4, h5⟩
  · rintro ⟨h1, h2, h3, h4, h5⟩; exact ⟨⟨⟨h1, h2⟩, h3, h4⟩, h5⟩
end Go.CH.Esc
