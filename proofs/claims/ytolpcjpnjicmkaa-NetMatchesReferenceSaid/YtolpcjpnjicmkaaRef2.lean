/-
  Net: the reference: New, Waiting.
-/
import Derived.Test.YtolpcjpnjicmkaaRef1
import Derived.Deep.DeepCutAuto
set_option linter.unusedSimpArgs false
set_option linter.unusedVariables false
namespace Go.Proofs.Ytolpcjpnjicmkaa
open Go.RowKit Go.CH
open Go.ChangeMaps (setBlock)

set_option maxHeartbeats 400000 in
theorem rnew_no (n : Int) (w : World) (h : n < 1 ∨ 8 < n) :
    Calls Try.prog 16 #[.int .i64 n] w fun e w' => e = .returned (.tuple #[.pointer none, .int .i64 1]) ∧ w = w' := by
  rcases h with h | h
  · go_enter Try.func16, Try.ntmps16
    go_wp2
    go_ret2
    exact ⟨rfl, rfl⟩
  · by_cases h' : n < 1
    · omega
    · go_enter Try.func16, Try.ntmps16
      go_wp2
      go_ret2
      exact ⟨rfl, rfl⟩
theorem refO_new (w : World) (n : Int) : Post w (fun _ => False) (RefO ⟨n, [], []⟩ w.heap.size) (w.alloc (.cells #[.int .i64 n, .slice none 0 0, .slice none 0 0] 64)) := by
  obtain ⟨F', h1, h2, h3⟩ := cell_new w #[.int .i64 n, .slice none 0 0, .slice none 0 0] 64
  refine ⟨F', ⟨none, 0, none, 0, F', fun _ => False, h1, ⟨fun _ => False, fun _ => False, row_nil _ _ _, row_nil _ _ _, fun _ h => h.elim, fun i => by simp⟩, fun _ _ h => h, fun i => by simp⟩, h2, h3⟩
set_option maxHeartbeats 400000 in
theorem rnew_yes (n : Int) (w : World) (h1 : 1 ≤ n) (h2 : n ≤ 8) :
    Calls Try.prog 16 #[.int .i64 n] w fun e w' => ∃ p, e = .returned (.tuple #[.pointer (some ⟨p, 0, none⟩), .int .i64 0]) ∧ Post w (fun _ => False) (RefO ⟨n, [], []⟩ p) w' := by
  have hp := hide (refO_new w n)
  go_enter Try.func16, Try.ntmps16
  go_wp2
  go_ret2
  exact ⟨_, rfl, hp.out⟩

def fr (a b : Int) (x : RMsg) : Bool := x.f == a && x.t == b
def rWait (m : RefM) (a b : Int) : List ByteArray := if pairB m.n a b = true then (m.L.filter (fr a b)).map RMsg.s else []
def wsK (l : List RMsg) (a b : Int) (k : Nat) : List ByteArray := ((l.take k).filter (fr a b)).map RMsg.s
theorem wsK_yes {l : List RMsg} {a b : Int} {k : Nat} (hk : k < l.length) (h : fr a b l[k] = true) : wsK l a b (k + 1) = wsK l a b k ++ [l[k].s] := by
  unfold wsK; rw [List.take_succ_eq_append_getElem hk, List.filter_append, List.map_append]; simp [h]
theorem wsK_no {l : List RMsg} {a b : Int} {k : Nat} (hk : k < l.length) (h : fr a b l[k] = false) : wsK l a b (k + 1) = wsK l a b k := by
  unfold wsK; rw [List.take_succ_eq_append_getElem hk, List.filter_append, List.map_append]; simp [h]
theorem wsK_len (l : List RMsg) (a b : Int) (k : Nat) : (wsK l a b k).length ≤ l.length := by
  unfold wsK; rw [List.length_map]
  exact Nat.le_trans (List.length_filter_le _ _) (by rw [List.length_take]; omega)

set_option maxRecDepth 100000 in
set_option maxHeartbeats 800000 in
theorem rwait_no {w : World} {m : RefM} {p : Nat} {A : Option Addr} {c : Nat} {B : Option Addr} {d : Nat} (h : RefR w m p A c B d) (hL : m.L.length ≤ 1000) (a b : Int) (hp : pairB m.n a b = false) :
    Calls Try.prog 19 #[.pointer (some ⟨p, 0, none⟩), .int .i64 a, .int .i64 b] w (ListRet w []) := by
  have c1 := h.c1
  have KP := hide (pair_ref h.c0 a b)
  rw [hp] at KP
  clear h hp
  have hn : w.ownsRow w.heap.size 9 1 (.slice none 0 0) 0 [] := World.ownsRow_nil _ _ _ _
  have HN := hide hn; clear hn
  go_enter Try.func19, Try.ntmps19
  go_wp2
  go_loopw [7, 8] (fun v i wr => i = .int .i64 0 ∧ v = .slice none 0 0 ∧ wr = w) (fun _ i _ => 0)
  case atStart => exact ⟨rfl, rfl, rfl⟩
  case round =>
    obtain ⟨rfl, rfl, rfl⟩ := hrel
    by_cases hlt : 0 < m.L.length
    · go_wp2_with fail
      refine KP.out.mono ?_
      rintro e w1 ⟨rfl, rfl⟩
      go_wp2
      go_ret
      exact ⟨_, rfl, HN.out, Below.refl _ _⟩
    · go_wp2
      go_ret
      exact ⟨_, rfl, HN.out, Below.refl _ _⟩

set_option maxRecDepth 100000 in
set_option maxHeartbeats 1600000 in
theorem rwait_yes {w : World} {m : RefM} {p : Nat} {A : Option Addr} {c : Nat} {B : Option Addr} {d : Nat} (h : RefR w m p A c B d) (hL : m.L.length ≤ 1000) (a b : Int) (hp : pairB m.n a b = true) :
    Calls Try.prog 19 #[.pointer (some ⟨p, 0, none⟩), .int .i64 a, .int .i64 b] w (ListRet w (wsK m.L a b m.L.length)) := by
  have H := hide h; have HP := hide hp; clear h hp
  go_enter Try.func19, Try.ntmps19
  go_wp2
  go_loopw [7, 8] (fun v i wr => ∃ (k : Nat) (A' : Option Addr) (c' : Nat), k ≤ m.L.length ∧ i = .int .i64 k ∧ v = .slice A' (wsK m.L a b k).length c' ∧ wr.ownsRow w.heap.size 9 1 (.slice A' (wsK m.L a b k).length c') (wsK m.L a b k).length (strs (wsK m.L a b k)) ∧ Below w.heap.size w wr) (fun _ i _ => m.L.length - (intOf i).toNat)
  case atStart => exact ⟨0, none, 0, by omega, rfl, rfl, World.ownsRow_nil _ _ _ _, Below.refl _ _⟩
  case round =>
    obtain ⟨k, A', c', hk, rfl, rfl, ho, hb⟩ := hrel
    have HR := hide (H.out.below hb)
    have HB := hide hb; have HO := hide ho
    have c1 := HR.out.c1
    have hwl := wsK_len m.L a b k
    clear hb ho
    by_cases hlt : k < m.L.length
    · obtain ⟨bb, o, rfl, g0, g1, g2⟩ := HR.out.at_ hlt
      have KP := hide (pair_ref HR.out.c0 a b)
      rw [HP.out] at KP
      obtain ⟨⟨x, y, z⟩, hxy⟩ : ∃ z, m.L[k] = z := ⟨_, rfl⟩
      rw [hxy] at g0 g1 g2
      simp only [] at g0 g1 g2
      have HXY := hide hxy; clear hxy
      have hy := fun h => wsK_yes (a := a) (b := b) hlt h
      have hn := fun h => wsK_no (a := a) (b := b) hlt h
      rw [HXY.out] at hy hn
      have HY := hide hy; have HN := hide hn; clear hy hn
      cases q1 : (x == a) with
      | false =>
        have hf := HN.out (by simp [fr, q1])
        have HF := hide hf; clear hf
        go_wp2_with fail
        refine KP.out.mono ?_
        rintro e w1 ⟨rfl, rfl⟩
        go_wp2
        go_roundw
        case rel => exact ⟨k + 1, A', c', hlt, by go_num, by rw [HF.out], by rw [HF.out]; exact HO.out, HB.out⟩
        case measure => simp [intOf]; omega
      | true =>
        cases q2 : (y == b) with
        | false =>
          have hf := HN.out (by simp [fr, q1, q2])
          have HF := hide hf; clear hf
          go_wp2_with fail
          refine KP.out.mono ?_
          rintro e w1 ⟨rfl, rfl⟩
          go_wp2
          go_roundw
          case rel => exact ⟨k + 1, A', c', hlt, by go_num, by rw [HF.out], by rw [HF.out]; exact HO.out, HB.out⟩
          case measure => simp [intOf]; omega
        | true =>
          have hf := HY.out (by simp [fr, q1, q2])
          have HF := hide hf; clear hf
          go_wp2_with fail
          refine KP.out.mono ?_
          rintro e w1 ⟨rfl, rfl⟩
          go_wp2_with (at_builtin; refine held ?_)
          refine Held.mk (wpList_app rfl (.tmp 46) (.tmp 55) rfl strOk _ w.heap.size (v := .slice A' (wsK m.L a b k).length c') (n := (wsK m.L a b k).length) (xs := strs (wsK m.L a b k)) rfl (HO.out.alloc _) (A := some ⟨wr.heap.size, 0, none⟩) (m := 1) (c := 1) (news := [.string z]) rfl (Src.one (heap_new rfl) rfl) (by omega) (by omega) (by have := HB.out.size; simp; omega) ?_)
          intro v4 w4 ho4 hg4 hv4
          have hb4 : Below w.heap.size w w4 := (HB.out.alloc HB.out.size _).grown hg4 (by have := HB.out.size; simp; omega) (fun i hi => (HO.out.lt i hi).1)
          rw [show strs (wsK m.L a b k) ++ [.string z] = strs (wsK m.L a b (k + 1)) by rw [HF.out]; simp [strs], show (wsK m.L a b k).length + 1 = (wsK m.L a b (k + 1)).length by rw [HF.out]; simp] at ho4
          obtain ⟨A4, c4, rfl⟩ := own_form ho4
          have HO4 := hide ho4; have HB4 := hide hb4
          clear ho4 hb4 hg4 hv4
          go_wp2
          go_roundw
          case rel => exact ⟨k + 1, A4, c4, hlt, by go_num, rfl, HO4.out, HB4.out⟩
          case measure => simp [intOf]; omega
    · obtain rfl : k = m.L.length := by omega
      go_wp2
      go_ret
      exact ⟨_, rfl, HO.out, HB.out⟩
theorem rwait_any {w : World} {m : RefM} {p : Nat} {A : Option Addr} {c : Nat} {B : Option Addr} {d : Nat} (h : RefR w m p A c B d) (hL : m.L.length ≤ 1000) (a b : Int) {l : List ByteArray} (hl : rWait m a b = l) :
    Calls Try.prog 19 #[.pointer (some ⟨p, 0, none⟩), .int .i64 a, .int .i64 b] w (ListRet w l) := by
  subst hl
  cases hp : pairB m.n a b with
  | false => simpa [rWait, hp] using rwait_no h hL a b hp
  | true => simpa [rWait, hp, wsK] using rwait_yes h hL a b hp
end Go.Proofs.Ytolpcjpnjicmkaa
