/-
  Escrow: both lines of a pair out of the escrow, and back with what a delivery has written; slices.Clone of a part.
-/
import Derived.Test.YtapabbpdfplpoaaE17
import Derived.Test.YtapabbpdfplpoaaAc
import Derived.Test.YtapabbpdfplpoaaGB
set_option linter.unusedSimpArgs false
set_option linter.unusedVariables false
namespace Go.Proofs.Ytapabbpdfplpoaa
open Go.RowKit Go.CH Go.CH.Esc
open Go.ChangeMaps (setBlock)

theorem mem_er {α : Type} [DecidableEq α] {l : List α} (hn : l.Nodup) {a b : α} : a ∈ l.erase b ↔ a ≠ b ∧ a ∈ l := hn.mem_erase_iff
theorem nodup_er {α : Type} [DecidableEq α] {l : List α} (hn : l.Nodup) (b : α) : (l.erase b).Nodup := hn.erase b
theorem src_new_old {w : World} {o : Obj} {A : Option Addr} {n size : Nat} {xs : List Value} (h : Src w A n size xs) (hs : 0 < size) : Src (w.alloc o) A n size xs := by
  refine ⟨h.1, h.2.1, fun hn => ?_⟩
  obtain ⟨ad, e, hc⟩ := h.2.2 hn
  refine ⟨ad, e, fun j u hu => ?_⟩
  have h1 := hc j u hu
  rw [World.cell?_of_block (heap_old (World.block_lt_of_cell? _ _ h1))]; exact h1
/-- A line's transfers. -/
def lts (p : PrG) (A : Option Addr) (c : Nat) : Own := RowO 3 1 (.slice A (p.H.drop p.conf).length c) (p.H.drop p.conf).length (ints (p.H.drop p.conf))
/-- A line's cells. -/
def lce (p : PrG) (g : Nat) (A : Option Addr) (c : Nat) (l : LinS) : Own := CellO g (lcl (.slice A (p.H.drop p.conf).length c) p.H.length p.rc l.B l.zs.length l.d) 109
def lms (l : LinS) : Own := ARow zcl zow 124 4 (.slice l.B l.zs.length l.d) l.zs
def accO (s : EscP) (L : List Acc) : Own := RowO 103 3 (.slice s.A L.length s.c) L.length (L.flatMap accL)
def two (g : GM) (s : EscP) (f t : Int) : Own := bigK (@List.erase (Int × Int) instBEqOfDecidableEq (@List.erase (Int × Int) instBEqOfDecidableEq (keys g.acc.length) (f, t)) (t, f)) fun k => LineO (g.pr k) (s.gp k)
/-- What a delivery leaves alone. -/
def restO (g : GM) (p : Nat) (s : EscP) (f t : Int) (l lb : LinS) : Own :=
  star (lts (g.pr (f, t)) l.A l.c) (star (lms lb) (star (CellO p #[.slice s.A g.acc.length s.c, .map (some s.bm)] 101) (star (MapO (pairV .i64) s.bm (ents g.acc.length s.gp)) (two g s f t))))
theorem restO_ok {g : GM} {p : Nat} {s : EscP} {f t : Int} {l lb : LinS} : (restO g p s f t l lb).Ok := star_ok row_ok (star_ok (arow_ok zow_ok) (star_ok cell_ok (star_ok map_ok (bigK_ok (fun _ => lineO_ok)))))
theorem lineO_eq (p : PrG) (g : Nat) : LineO p g = fun w F => ∃ l : LinS, LineZ p l ∧ star (lce p g l.A l.c l) (star (lts p l.A l.c) (lms l)) w F := rfl
theorem star_ex {ι : Type} {P : ι → Prop} {A : ι → Own} {B : Own} {w : World} {F : Nat → Prop} (h : star (fun w F => ∃ i, P i ∧ A i w F) B w F) : ∃ i, P i ∧ star (A i) B w F := by
  obtain ⟨F1, F2, ⟨i, hi, h1⟩, h2, h3, h4⟩ := h
  exact ⟨i, hi, F1, F2, h1, h2, h3, h4⟩
theorem Run.ex {ι : Type} {P : ι → Prop} {A : ι → Own} {F0 : Nat → Prop} {w0 W : World} (h : Run F0 w0 (fun w F => ∃ i, P i ∧ A i w F) W) : ∃ i, P i ∧ Run F0 w0 (A i) W := by
  obtain ⟨⟨F, ⟨i, hi, h1⟩, h2⟩, h3⟩ := h
  exact ⟨i, hi, ⟨F, h1, h2⟩, h3⟩
theorem two_out {g : GM} {s : EscP} {f t : Int} (hp : g.pair f t = true) : bigK (keys g.acc.length) (fun k => LineO (g.pr k) (s.gp k)) = star (LineO (g.pr (f, t)) (s.gp (f, t))) (star (LineO (g.pr (t, f)) (s.gp (t, f))) (two g s f t)) := by
  have hk := pair_mem.1 hp
  have hk2 : (t, f) ∈ @List.erase (Int × Int) instBEqOfDecidableEq (keys g.acc.length) (f, t) := by
    rw [mem_er (nodup_keys _)]
    exact ⟨swap_ne (pair_is hp).2.2, pair_mem.1 (pair_swap hp)⟩
  funext w F
  refine propext ⟨fun h => star_mono (bigK_out hk h) (fun _ h => h) (fun F h => bigK_out hk2 h), fun h => ?_⟩
  exact bigK_in0 hk (star_mono h (fun _ h => h) (fun F h => bigK_in0 hk2 h))
/-- What has been received. -/
def recM (g : GM) (f t : Int) (rc conf : Nat) (a : Acc) : GM := ((g.setP (f, t) { g.pr (f, t) with rc := rc }).setP (t, f) { g.pr (t, f) with conf := conf }).setA t a
theorem recM_pr {g : GM} {f t : Int} (hne : f ≠ t) (rc conf : Nat) (a : Acc) (x : Int × Int) : (recM g f t rc conf a).pr x = if x = (t, f) then { g.pr (t, f) with conf := conf } else if x = (f, t) then { g.pr (f, t) with rc := rc } else g.pr x := rfl
theorem open2 {F0 : Nat → Prop} {w0 W : World} {g : GM} {p : Nat} {s : EscP} {f t : Int} {Z : Own} (hp : g.pair f t = true) (h : Run F0 w0 (star Z (EscS g p s)) W) :
    ∃ l lb, LineZ (g.pr (f, t)) l ∧ LineZ (g.pr (t, f)) lb ∧ Run F0 w0 (star Z (star (lce (g.pr (f, t)) (s.gp (f, t)) l.A l.c l) (star (lce (g.pr (t, f)) (s.gp (t, f)) lb.A lb.c lb) (star (lts (g.pr (t, f)) lb.A lb.c) (star (accO s g.acc) (star (lms l) (restO g p s f t l lb))))))) W := by
  have e : star Z (EscS g p s) = star (LineO (g.pr (f, t)) (s.gp (f, t))) (star (LineO (g.pr (t, f)) (s.gp (t, f))) (star Z (star (CellO p #[.slice s.A g.acc.length s.c, .map (some s.bm)] 101) (star (accO s g.acc) (star (MapO (pairV .i64) s.bm (ents g.acc.length s.gp)) (two g s f t)))))) := by
    unfold EscS accO
    rw [two_out hp]
    ac_rfl
  have h1 := h.perm e
  obtain ⟨l, hl, h2⟩ := Run.ex (h1.imp fun w F h => star_ex h)
  obtain ⟨lb, hlb, h3⟩ := Run.ex (h2.imp fun w F h => star_ex (star_rot h))
  have h4 : Run F0 w0 (star (star (lce (g.pr (t, f)) (s.gp (t, f)) lb.A lb.c lb) (star (lts (g.pr (t, f)) lb.A lb.c) (lms lb))) (star (star (lce (g.pr (f, t)) (s.gp (f, t)) l.A l.c l) (star (lts (g.pr (f, t)) l.A l.c) (lms l)))
    (star Z (star (CellO p #[.slice s.A g.acc.length s.c, .map (some s.bm)] 101) (star (accO s g.acc) (star (MapO (pairV .i64) s.bm (ents g.acc.length s.gp)) (two g s f t))))))) W := h3
  refine ⟨l, lb, hl, hlb, h4.perm ?_⟩
  unfold restO
  ac_rfl
theorem close2 {F0 : Nat → Prop} {w0 W : World} {g : GM} {p : Nat} {s : EscP} {f t : Int} {l lb : LinS} {rc conf : Nat} {a : Acc} {A : Option Addr} {c : Nat} (hp : g.pair f t = true) (hl : LineZ (g.pr (f, t)) l) (hlb : LineZ (g.pr (t, f)) lb)
    (h : Run F0 w0 (star (lce { g.pr (f, t) with rc := rc } (s.gp (f, t)) l.A l.c l) (star (lce { g.pr (t, f) with conf := conf } (s.gp (t, f)) A c lb) (star (lts { g.pr (t, f) with conf := conf } A c) (star (accO s (g.acc.set t.toNat a)) (star (lms l) (restO g p s f t l lb)))))) W) :
    Run F0 w0 (EscS (recM g f t rc conf a) p s) W := by
  have hne := (pair_is hp).2.2
  have hlen : (recM g f t rc conf a).acc.length = g.acc.length := by unfold recM; rw [setA_len]; rfl
  have hp' : (recM g f t rc conf a).pair f t = true := by unfold GM.pair GM.is; rw [hlen]; exact hp
  have e1 : (recM g f t rc conf a).pr (t, f) = { g.pr (t, f) with conf := conf } := by rw [recM_pr hne, if_pos rfl]
  have e2 : (recM g f t rc conf a).pr (f, t) = { g.pr (f, t) with rc := rc } := by rw [recM_pr hne, if_neg (swap_ne hne).symm, if_pos rfl]
  have e3 : two (recM g f t rc conf a) s f t = two g s f t := by
    unfold two
    rw [hlen]
    refine bigK_congr fun k hk => ?_
    have hn : k ≠ (t, f) ∧ k ≠ (f, t) := by
      have h1 := (mem_er (nodup_er (nodup_keys g.acc.length) (f, t))).1 hk
      have h2 := (mem_er (nodup_keys g.acc.length)).1 h1.2
      exact ⟨h1.1, h2.1⟩
    rw [recM_pr hne, if_neg hn.1, if_neg hn.2]
  have eL : ∀ {q : PrG} {gp : Nat} {y : LinS}, LineZ q y → ∀ w F, star (lce q gp y.A y.c y) (star (lts q y.A y.c) (lms y)) w F → LineO q gp w F := fun hz w F h => ⟨_, hz, h⟩
  have h1 : Run F0 w0 (star (star (lce { g.pr (f, t) with rc := rc } (s.gp (f, t)) l.A l.c l) (star (lts { g.pr (f, t) with rc := rc } l.A l.c) (lms l))) (star (star (lce { g.pr (t, f) with conf := conf } (s.gp (t, f)) A c lb) (star (lts { g.pr (t, f) with conf := conf } A c) (lms lb)))
      (star (CellO p #[.slice s.A g.acc.length s.c, .map (some s.bm)] 101) (star (accO s (g.acc.set t.toNat a)) (star (MapO (pairV .i64) s.bm (ents g.acc.length s.gp)) (two g s f t)))))) W := by
    refine h.perm ?_
    unfold restO
    rw [show lts { g.pr (f, t) with rc := rc } l.A l.c = lts (g.pr (f, t)) l.A l.c from rfl]
    ac_rfl
  have h2 := h1.imp fun w F h => star_mono h (fun F h => eL (q := { g.pr (f, t) with rc := rc }) hl w F h) (fun F h => star_mono h (fun F h => eL (q := { g.pr (t, f) with conf := conf }) (y := { lb with A := A, c := c }) hlb w F h) (fun _ h => h))
  refine h2.perm ?_
  unfold EscS
  rw [two_out hp', e1, e2, e3, hlen]
  unfold accO
  have e4 : (recM g f t rc conf a).acc = g.acc.set t.toNat a := rfl
  rw [e4, List.length_set]
  ac_rfl
/-- u and what flies to it stay within the units. -/
theorem Inv.bndU {g : GM} {U : Int} (h : Inv g U) {f t : Int} (hp : g.pair f t = true) : (g.at_ t).u + fly (g.pr (f, t)) ≤ 1000000000 := by
  obtain ⟨hf, ht, hne⟩ := pair_is hp
  have h2 : (g.at_ t).u ≤ haveG g := isum_mem_le (fun y hy => by obtain ⟨a, ha, rfl⟩ := List.mem_map.1 hy; exact (h.acc a ha).1) (List.mem_map_of_mem (at_mem ht))
  have h5 : 0 ≤ spentG g := isum_nonneg (fun y hy => by obtain ⟨a, ha, rfl⟩ := List.mem_map.1 hy; exact (h.acc a ha).2)
  have h6 : fly (g.pr (f, t)) ≤ flyG g := isum_mem_le (fun y hy => by
    obtain ⟨k, hk, rfl⟩ := List.mem_map.1 hy
    exact fly_nonneg (h.pr k.1 k.2 (pair_mem.2 hk))) (List.mem_map.2 ⟨(f, t), pair_mem.1 hp, rfl⟩)
  have := h.tot
  have := h.U
  omega
set_option maxHeartbeats 1600000 in
set_option maxRecDepth 100000 in
theorem clone_src {w : World} {a : Addr} {n c : Nat} {l : List Int} (h : Src w (some a) n 1 (ints l)) (hn : n ≤ 1000) (hc : n ≤ c) :
    Calls Try.prog 71 #[.slice (some a) n c] w (CloneRet w n l) := by
  have hl : (ints l).length = n := by have := h.1; simpa using this
  have he := fun w => Go.Lib.run_eql_slice_nil (P := Try.prog) w 74 3 (some a) n c 0 0 Try.underlying74
  have R0 := hide ((Run.begin w).fresh emp_ok (row_made w 3 1))
  have hs' := hide (show Src (w.alloc (.cells #[] 3)) (some a) n 1 (ints l) from src_new_old h (by omega))
  clear h hl
  go_enter Try.func71, Try.ntmps71
  go_wp2_with (at_builtin; refine held ?_)
  obtain ⟨F1, hR1, -, bk1⟩ := R0.out.take row_ok emp_ok
  refine Held.mk (wpList_app rfl (.tmp 5) (.tmp 6) rfl intsOk _ 0 (v := .slice (some ⟨w.heap.size, 0, none⟩) 0 0) (n := 0) (xs := []) rfl hR1.1 (A := some a) (m := n) (c := c) (news := ints l) rfl hs'.out (by omega) (by omega) (Nat.zero_le _) ?_)
  intro v4 w4 ho4 hg4 hv4
  have S4 := bk1 _ _ (row_app hR1 ho4 hg4 hv4)
  rw [Nat.zero_add, List.nil_append] at S4
  obtain ⟨A', c', rfl⟩ := own_form ho4
  rw [Nat.zero_add] at *
  have HFIN := hide (S4.swap.drop.post row_ok)
  clear hR1 bk1 ho4 hg4 hv4 S4
  go_wp2
  go_ret
  exact ⟨A', c', rfl, HFIN.out⟩
end Go.Proofs.Ytapabbpdfplpoaa
