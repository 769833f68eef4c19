/-
  Net: the reference: what it holds; pair, cut, New, Waiting.
-/
import Derived.Test.YtolpcjpnjicmkaaNet9
import Derived.Test.YtolpcjpnjicmkaaRun
set_option linter.unusedSimpArgs false
set_option linter.unusedVariables false
namespace Go.Proofs.Ytolpcjpnjicmkaa
open Go.RowKit Go.CH
open Go.ChangeMaps (setBlock)

structure RMsg where
  f : Int
  t : Int
  s : ByteArray
structure RefM where
  n : Int
  L : List RMsg
  G : List (Int × Int)
def msgL (m : RMsg) : List Value := [.int .i64 m.f, .int .i64 m.t, .string m.s]
def msgs (l : List RMsg) : List Value := l.flatMap msgL
def prL (p : Int × Int) : List Value := [.int .i64 p.1, .int .i64 p.2]
def prs (l : List (Int × Int)) : List Value := l.flatMap prL
theorem flat_get {α : Type} (R : α → List Value) (size : Nat) (hR : ∀ x, (R x).length = size) {l : List α} {k : Nat} (h : k < l.length) (j : Nat) (hj : j < size) : (l.flatMap R)[k * size + j]? = (R l[k])[j]? := by
  induction l generalizing k with
  | nil => simp at h
  | cons x l ih =>
    rw [List.flatMap_cons]
    cases k with
    | zero => rw [List.getElem?_append_left (by rw [hR]; omega)]; simp
    | succ k =>
      rw [List.getElem?_append_right (by rw [hR, Nat.succ_mul]; omega), hR, show (k + 1) * size + j - size = k * size + j by rw [Nat.succ_mul]; omega, ih (by simpa using h)]
      simp
theorem flat_one {α : Type} (R : α → List Value) (h : ∀ x, ∀ u ∈ R x, u.oneCell' = true) (l : List α) : ∀ u ∈ l.flatMap R, u.oneCell' = true := by
  intro u hu
  obtain ⟨x, _, hx⟩ := List.mem_flatMap.1 hu
  exact h x u hx
theorem msgs_one (l : List RMsg) : ∀ u ∈ msgs l, u.oneCell' = true := flat_one msgL (fun x u hu => by simp [msgL] at hu; rcases hu with rfl | rfl | rfl <;> rfl) l
theorem prs_one (l : List (Int × Int)) : ∀ u ∈ prs l, u.oneCell' = true := flat_one prL (fun x u hu => by simp [prL] at hu; rcases hu with rfl | rfl <;> rfl) l
def RefO (m : RefM) (p : Nat) : Own := fun w F => ∃ A c B d, star (CellO p #[.int .i64 m.n, .slice A m.L.length c, .slice B m.G.length d] 64) (star (RowO 67 3 (.slice A m.L.length c) m.L.length (msgs m.L)) (RowO 57 2 (.slice B m.G.length d) m.G.length (prs m.G))) w F
theorem refO_ok {m : RefM} {p : Nat} : (RefO m p).Ok :=
  ⟨fun ⟨A, c, B, d, h⟩ => (star_ok cell_ok (star_ok row_ok row_ok)).lt h, fun ⟨A, c, B, d, h⟩ hk => ⟨A, c, B, d, (star_ok cell_ok (star_ok row_ok row_ok)).keep h hk⟩⟩
/-- What can be read of it. -/
structure RefR (w : World) (m : RefM) (p : Nat) (A : Option Addr) (c : Nat) (B : Option Addr) (d : Nat) : Prop where
  c0 : w.cell? ⟨p, 0, none⟩ = some (.int .i64 m.n)
  c1 : w.cell? ⟨p, 1, none⟩ = some (.slice A m.L.length c)
  c2 : w.cell? ⟨p, 2, none⟩ = some (.slice B m.G.length d)
  l : Src w A m.L.length 3 (msgs m.L)
  g : Src w B m.G.length 2 (prs m.G)
theorem RefO.read {m : RefM} {p : Nat} {w : World} {F : Nat → Prop} (h : RefO m p w F) : ∃ A c B d, RefR w m p A c B d := by
  obtain ⟨A, c, B, d, F1, F2, h1, ⟨F3, F4, h2, h3, _, _⟩, _, _⟩ := h
  exact ⟨A, c, B, d, cell_at h1 rfl, cell_at h1 rfl, cell_at h1 rfl, row_src h2 (msgs_one _), row_src h3 (prs_one _)⟩
theorem RefR.below {w w' : World} {m : RefM} {p : Nat} {A : Option Addr} {c : Nat} {B : Option Addr} {d : Nat} (h : RefR w m p A c B d) (hb : Below w.heap.size w w') : RefR w' m p A c B d := by
  have hp := World.block_lt_of_cell? w _ h.c0
  exact ⟨(hb.cell (p := ⟨p, 0, none⟩) hp).trans h.c0, (hb.cell (p := ⟨p, 1, none⟩) hp).trans h.c1, (hb.cell (p := ⟨p, 2, none⟩) hp).trans h.c2, Src.below h.l hb, Src.below h.g hb⟩
theorem RefR.at_ {w : World} {m : RefM} {p : Nat} {A : Option Addr} {c : Nat} {B : Option Addr} {d : Nat} (h : RefR w m p A c B d) {k : Nat} (hk : k < m.L.length) :
    ∃ b o, A = some ⟨b, o, none⟩ ∧ w.cell? ⟨b, o + k * 3, none⟩ = some (.int .i64 m.L[k].f) ∧ w.cell? ⟨b, o + k * 3 + 1, none⟩ = some (.int .i64 m.L[k].t) ∧ w.cell? ⟨b, o + k * 3 + 2, none⟩ = some (.string m.L[k].s) := by
  obtain ⟨b, o, e, hc⟩ := h.l.open_ (by omega) (by omega)
  have h1 := fun j hj u hu => hc _ u ((flat_get msgL 3 (fun _ => rfl) hk j hj).trans hu)
  refine ⟨b, o, e, ?_, ?_, ?_⟩
  · simpa using h1 0 (by omega) _ rfl
  · have := h1 1 (by omega) _ rfl; rwa [← Nat.add_assoc] at this
  · have := h1 2 (by omega) _ rfl; rwa [← Nat.add_assoc] at this
theorem RefR.gat {w : World} {m : RefM} {p : Nat} {A : Option Addr} {c : Nat} {B : Option Addr} {d : Nat} (h : RefR w m p A c B d) {k : Nat} (hk : k < m.G.length) :
    ∃ b o, B = some ⟨b, o, none⟩ ∧ w.cell? ⟨b, o + k * 2, none⟩ = some (.int .i64 m.G[k].1) ∧ w.cell? ⟨b, o + k * 2 + 1, none⟩ = some (.int .i64 m.G[k].2) := by
  obtain ⟨b, o, e, hc⟩ := h.g.open_ (by omega) (by omega)
  have h1 := fun j hj u hu => hc _ u ((flat_get prL 2 (fun _ => rfl) hk j hj).trans hu)
  refine ⟨b, o, e, ?_, ?_⟩
  · simpa using h1 0 (by omega) _ rfl
  · have := h1 1 (by omega) _ rfl; rwa [← Nat.add_assoc] at this

def pairB (n a b : Int) : Bool := decide (0 ≤ a) && decide (a < n) && decide (0 ≤ b) && decide (b < n) && !(a == b)
set_option maxHeartbeats 800000 in
theorem pair_ref {w : World} {n : Int} {p : Nat} (h : w.cell? ⟨p, 0, none⟩ = some (.int .i64 n)) (a b : Int) :
    Calls Try.prog 30 #[.pointer (some ⟨p, 0, none⟩), .int .i64 a, .int .i64 b] w fun e w' => e = .returned (.bool (pairB n a b)) ∧ w = w' := by
  have fin : ∀ x : Bool, x = pairB n a b → Ending.returned (.bool x) = .returned (.bool (pairB n a b)) := fun x hx => by rw [hx]
  have FIN := hide fin; clear fin
  by_cases h1 : 0 ≤ a
  · by_cases h2 : a < n
    · by_cases h3 : 0 ≤ b
      · by_cases h4 : b < n
        · cases h5 : (a == b) with
          | true =>
            have h6 : (a != b) = false := by simp [bne, h5]
            have hx := hide (show false = pairB n a b by unfold pairB; simp [*])
            go_enter Try.func30, Try.ntmps30
            go_wp2
            go_ret
            exact ⟨FIN.out _ hx.out, rfl⟩
          | false =>
            have h6 : (a != b) = true := by simp [bne, h5]
            have hx := hide (show true = pairB n a b by unfold pairB; simp [*])
            go_enter Try.func30, Try.ntmps30
            go_wp2
            go_ret
            exact ⟨FIN.out _ hx.out, rfl⟩
        · skip
          have hx := hide (show false = pairB n a b by unfold pairB; simp [*])
          go_enter Try.func30, Try.ntmps30
          go_wp2
          go_ret
          exact ⟨FIN.out _ hx.out, rfl⟩
      · skip
        have hx := hide (show false = pairB n a b by unfold pairB; simp [*])
        go_enter Try.func30, Try.ntmps30
        go_wp2
        go_ret
        exact ⟨FIN.out _ hx.out, rfl⟩
    · skip
      have hx := hide (show false = pairB n a b by unfold pairB; simp [*])
      go_enter Try.func30, Try.ntmps30
      go_wp2
      go_ret
      exact ⟨FIN.out _ hx.out, rfl⟩
  · skip
    have hx := hide (show false = pairB n a b by unfold pairB; simp [*])
    go_enter Try.func30, Try.ntmps30
    go_wp2
    go_ret
    exact ⟨FIN.out _ hx.out, rfl⟩

def idxG {α : Type} (p : α → Bool) : List α → Int → Int
  | [], _ => -1
  | x :: xs, i => if p x then i else idxG p xs (i+1)
theorem idxG_hit {α : Type} (p : α → Bool) : ∀ (xs : List α) (k : Nat) (i : Int) (hk : k < xs.length), (∀ j (h : j < xs.length), j < k → p xs[j] = false) → p xs[k] = true → idxG p xs i = i + k
  | [], k, i, h, _, _ => by simp at h
  | x :: xs, 0, i, _, _, h => by simp [idxG] at *; simp [h]
  | x :: xs, k+1, i, h, h0, h1 => by
    have hx := h0 0 (by simp) (by omega)
    simp only [List.getElem_cons_zero] at hx
    rw [idxG, if_neg (by simp [hx]), idxG_hit p xs k (i+1) (by simpa using h) (fun j hj hjk => h0 (j+1) (by simpa using hj) (by omega)) (by simpa using h1)]
    push_cast; omega
theorem idxG_miss {α : Type} (p : α → Bool) : ∀ (xs : List α) (i : Int), (∀ j (h : j < xs.length), p xs[j] = false) → idxG p xs i = -1
  | [], i, _ => rfl
  | x :: xs, i, h0 => by
    have hx := h0 0 (by simp)
    simp only [List.getElem_cons_zero] at hx
    rw [idxG, if_neg (by simp [hx]), idxG_miss p xs (i+1) (fun j hj => h0 (j+1) (by simpa using hj))]
def same (a b : Int) (x : Int × Int) : Bool := (x.1 == a && x.2 == b) || (x.1 == b && x.2 == a)
def cutI (G : List (Int × Int)) (a b : Int) : Int := idxG (same a b) G 0
set_option maxRecDepth 100000 in
set_option maxHeartbeats 1600000 in
theorem cut_ref {w : World} {m : RefM} {p : Nat} {A : Option Addr} {c : Nat} {B : Option Addr} {d : Nat} (h : RefR w m p A c B d) (hG : m.G.length ≤ 1000) (a b : Int) :
    Calls Try.prog 34 #[.pointer (some ⟨p, 0, none⟩), .int .i64 a, .int .i64 b] w (BelowRet w (.int .i64 (cutI m.G a b))) := by
  have H := hide h; clear h
  go_enter Try.func34, Try.ntmps34
  go_wp2
  go_loopw [7] (fun i wr => ∃ k : Nat, k ≤ m.G.length ∧ i = .int .i64 k ∧ Below w.heap.size w wr ∧ ∀ j (hj : j < m.G.length), j < k → same a b m.G[j] = false) (fun i _ => m.G.length - (intOf i).toNat)
  case atStart => exact ⟨0, by omega, rfl, Below.refl _ _, fun _ _ h => by omega⟩
  case round =>
    obtain ⟨k, hk, rfl, hb, hn⟩ := hrel
    have HB := hide hb; have HN := hide hn
    have HR := hide (H.out.below hb)
    have c2 := HR.out.c2
    clear hb hn
    by_cases hlt : k < m.G.length
    · obtain ⟨bb, o, rfl, g0, g1⟩ := HR.out.gat hlt
      obtain ⟨⟨x, y⟩, hxy⟩ : ∃ z, m.G[k] = z := ⟨_, rfl⟩
      rw [hxy] at g0 g1
      simp only [] at g0 g1
      have HXY := hide hxy; clear hxy
      have hcut : same a b m.G[k] = true → cutI m.G a b = k := fun h => (idxG_hit _ _ k 0 hlt (fun j hj hjk => HN.out j hj hjk) h).trans (by omega)
      have HCUT := hide hcut; clear hcut
      cases q1 : (x == a) with
      | true =>
        cases q2 : (y == b) with
        | true =>
          have hsm : same a b m.G[k] = true := by rw [HXY.out]; unfold same; simp [*]
          have hs := hide (HCUT.out hsm)
          clear hsm
          go_wp2
          go_ret
          exact ⟨by rw [hs.out]; rfl, HB.out.trans (((Below.refl _ _).alloc (Nat.le_refl _) _).mono HB.out.size)⟩
        | false =>
          cases q3 : (x == b) with
          | true =>
            cases q4 : (y == a) with
            | true =>
              have hsm : same a b m.G[k] = true := by rw [HXY.out]; unfold same; simp [*]
              have hs := hide (HCUT.out hsm)
              clear hsm
              go_wp2
              go_ret
              exact ⟨by rw [hs.out]; rfl, HB.out.trans (((Below.refl _ _).alloc (Nat.le_refl _) _).mono HB.out.size)⟩
            | false =>
              have hsm : same a b m.G[k] = false := by rw [HXY.out]; unfold same; simp [*]
              have hs := hide hsm
              clear hsm
              go_wp2
              go_roundw
              case rel => exact ⟨k + 1, hlt, by go_num, HB.out.trans (((Below.refl _ _).alloc (Nat.le_refl _) _).mono HB.out.size), fun j hj h => (Nat.lt_succ_iff_lt_or_eq.1 h).elim (HN.out j hj) (fun e => by subst e; exact hs.out)⟩
              case measure => simp [intOf]; omega
          | false =>
            have hsm : same a b m.G[k] = false := by rw [HXY.out]; unfold same; simp [*]
            have hs := hide hsm
            clear hsm
            go_wp2
            go_roundw
            case rel => exact ⟨k + 1, hlt, by go_num, HB.out.trans (((Below.refl _ _).alloc (Nat.le_refl _) _).mono HB.out.size), fun j hj h => (Nat.lt_succ_iff_lt_or_eq.1 h).elim (HN.out j hj) (fun e => by subst e; exact hs.out)⟩
            case measure => simp [intOf]; omega
      | false =>
        cases q3 : (x == b) with
        | true =>
          cases q4 : (y == a) with
          | true =>
            have hsm : same a b m.G[k] = true := by rw [HXY.out]; unfold same; simp [*]
            have hs := hide (HCUT.out hsm)
            clear hsm
            go_wp2
            go_ret
            exact ⟨by rw [hs.out]; rfl, HB.out.trans (((Below.refl _ _).alloc (Nat.le_refl _) _).mono HB.out.size)⟩
          | false =>
            have hsm : same a b m.G[k] = false := by rw [HXY.out]; unfold same; simp [*]
            have hs := hide hsm
            clear hsm
            go_wp2
            go_roundw
            case rel => exact ⟨k + 1, hlt, by go_num, HB.out.trans (((Below.refl _ _).alloc (Nat.le_refl _) _).mono HB.out.size), fun j hj h => (Nat.lt_succ_iff_lt_or_eq.1 h).elim (HN.out j hj) (fun e => by subst e; exact hs.out)⟩
            case measure => simp [intOf]; omega
        | false =>
          have hsm : same a b m.G[k] = false := by rw [HXY.out]; unfold same; simp [*]
          have hs := hide hsm
          clear hsm
          go_wp2
          go_roundw
          case rel => exact ⟨k + 1, hlt, by go_num, HB.out.trans (((Below.refl _ _).alloc (Nat.le_refl _) _).mono HB.out.size), fun j hj h => (Nat.lt_succ_iff_lt_or_eq.1 h).elim (HN.out j hj) (fun e => by subst e; exact hs.out)⟩
          case measure => simp [intOf]; omega
    · have hs := hide (show cutI m.G a b = -1 from idxG_miss _ _ 0 (fun j hj => HN.out j hj (by omega)))
      go_wp2
      go_ret
      exact ⟨by rw [hs.out]; rfl, HB.out⟩
end Go.Proofs.Ytolpcjpnjicmkaa
