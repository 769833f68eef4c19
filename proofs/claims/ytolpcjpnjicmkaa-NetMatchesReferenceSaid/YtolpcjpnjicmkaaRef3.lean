/-
  Net: the reference: Send.
-/
import Derived.Test.YtolpcjpnjicmkaaRef2
import Derived.Test.YtolpcjpnjicmkaaLey
set_option linter.unusedSimpArgs false
set_option linter.unusedVariables false
namespace Go.Proofs.Ytolpcjpnjicmkaa
open Go.RowKit Go.CH
open Go.ChangeMaps (setBlock)

/-- The three parts of the reference's network. -/
def RefS (m : RefM) (p : Nat) (A : Option Addr) (c : Nat) (B : Option Addr) (d : Nat) : Own :=
  star (CellO p #[.int .i64 m.n, .slice A m.L.length c, .slice B m.G.length d] 64) (star (RowO 67 3 (.slice A m.L.length c) m.L.length (msgs m.L)) (RowO 57 2 (.slice B m.G.length d) m.G.length (prs m.G)))
theorem refS_ok {m : RefM} {p : Nat} {A : Option Addr} {c : Nat} {B : Option Addr} {d : Nat} : (RefS m p A c B d).Ok := star_ok cell_ok (star_ok row_ok row_ok)
theorem RefS.read {m : RefM} {p : Nat} {A : Option Addr} {c : Nat} {B : Option Addr} {d : Nat} {w : World} {F : Nat → Prop} (h : RefS m p A c B d w F) : RefR w m p A c B d := by
  obtain ⟨F1, F2, h1, ⟨F3, F4, h2, h3, _, _⟩, _, _⟩ := h
  exact ⟨cell_at h1 rfl, cell_at h1 rfl, cell_at h1 rfl, row_src h2 (msgs_one _), row_src h3 (prs_one _)⟩
theorem RefS.shut {m : RefM} {p : Nat} {A : Option Addr} {c : Nat} {B : Option Addr} {d : Nat} {w : World} {F : Nat → Prop} (h : RefS m p A c B d w F) : RefO m p w F := ⟨A, c, B, d, h⟩
theorem runRef {F0 : Nat → Prop} {w0 W : World} {m : RefM} {p : Nat} (h : Run F0 w0 (RefO m p) W) : ∃ A c B d, Run F0 w0 (RefS m p A c B d) W := by
  obtain ⟨F, ⟨A, c, B, d, h1⟩, h2⟩ := h.own
  exact ⟨A, c, B, d, ⟨F, h1, h2⟩, h.mod⟩
theorem runRead {F0 : Nat → Prop} {w0 W : World} {m : RefM} {p : Nat} {A : Option Addr} {c : Nat} {B : Option Addr} {d : Nat} (h : Run F0 w0 (RefS m p A c B d) W) : RefR W m p A c B d := by
  obtain ⟨F, h1⟩ := h.get
  exact h1.read
theorem msgOk : SliceOk Try.prog 61 67 (.agg #[.int .i64 0, .int .i64 0, .string ⟨#[]⟩]) 3 32 := ⟨Try.underlying61, by kernel_rfl, rfl, by decide⟩
theorem prOk : SliceOk Try.prog 62 57 (.agg #[.int .i64 0, .int .i64 0]) 2 16 := ⟨Try.underlying62, by kernel_rfl, rfl, by decide⟩
/-- The cells of a new block, as what is appended. -/
theorem Src.block {w : World} {g : Nat} {xs : List Value} {n size : Nat} {t : TypeId} (h : w.heap[g]? = some (.cells xs.toArray t (0, 0))) (hl : xs.length = n * size) (h1 : ∀ u ∈ xs, u.oneCell' = true) : Src w (some ⟨g, 0, none⟩) n size xs :=
  ⟨hl, h1, fun _ => ⟨_, rfl, fun j u hu => by rw [Addr.add_zero_]; simp [World.cell?, h, hu]⟩⟩

def rsendE (m : RefM) (a b : Int) (t : ByteArray) : Int := if pairB m.n a b = false ∨ 20000 < t.size then 1 else if 0 ≤ cutI m.G a b then 29 else if 100 ≤ (rWait m a b).length then 28 else 0
def rsendR (m : RefM) (a b : Int) (t : ByteArray) : RefM := if rsendE m a b t = 0 then { m with L := m.L ++ [⟨a, b, t⟩] } else m
/-- What a method of the reference leaves. -/
def RPost (w : World) (F : Nat → Prop) (v : Value) (m : RefM) (p : Nat) (e : Ending) (w' : World) : Prop := e = .returned v ∧ Post w F (RefO m p) w'

set_option maxRecDepth 100000 in
set_option maxHeartbeats 1600000 in
theorem rsend_any {w : World} {F : Nat → Prop} {m : RefM} {p : Nat} (h : RefO m p w F) (hL : m.L.length ≤ 500) (hG : m.G.length ≤ 500) (a b : Int) (t : ByteArray) :
    Calls Try.prog 26 #[.pointer (some ⟨p, 0, none⟩), .int .i64 a, .int .i64 b, .string t] w (RPost w F (.int .i64 (rsendE m a b t)) (rsendR m a b t) p) := by
  have r0 := Run.start h
  obtain ⟨A, c, B, d, r1⟩ := runRef r0
  have R1 := hide r1
  have KP := hide (pair_ref (runRead r1).c0 a b)
  clear h r0 r1
  cases hp : pairB m.n a b with
  | false =>
    have he := hide (show rsendE m a b t = 1 by simp [rsendE, hp])
    have hr := hide (show rsendR m a b t = m by unfold rsendR; rw [he.out]; rfl)
    rw [hp] at KP; clear hp
    go_enter Try.func26, Try.ntmps26
    go_wp2_with fail
    refine KP.out.mono ?_
    rintro e w1 ⟨rfl, rfl⟩
    go_wp2
    go_ret
    exact ⟨by rw [he.out]; rfl, by rw [hr.out]; exact (R1.out.post refS_ok).imp fun F' h => ⟨h.1.shut, h.2⟩⟩
  | true =>
    rw [hp] at KP
    by_cases ht : 20000 < t.size
    · have he := hide (show rsendE m a b t = 1 by simp [rsendE, ht])
      have hr := hide (show rsendR m a b t = m by unfold rsendR; rw [he.out]; rfl)
      clear hp
      go_enter Try.func26, Try.ntmps26
      go_wp2_with fail
      refine KP.out.mono ?_
      rintro e w1 ⟨rfl, rfl⟩
      go_wp2
      go_ret
      exact ⟨by rw [he.out]; rfl, by rw [hr.out]; exact (R1.out.post refS_ok).imp fun F' h => ⟨h.1.shut, h.2⟩⟩
    · have KC := hide (cut_ref (runRead R1.out) (by omega) a b)
      by_cases hc : 0 ≤ cutI m.G a b
      · have he := hide (show rsendE m a b t = 29 by simp [rsendE, hp, ht, hc])
        have hr := hide (show rsendR m a b t = m by unfold rsendR; rw [he.out]; rfl)
        clear hp
        generalize cutI m.G a b = q at KC hc
        go_enter Try.func26, Try.ntmps26
        go_wp2_with fail
        refine KP.out.mono ?_
        rintro e w1 ⟨rfl, rfl⟩
        go_wp2_with fail
        refine KC.out.mono ?_
        rintro e w1 ⟨rfl, hb1⟩
        have R2 := hide (R1.out.below refS_ok hb1)
        clear hb1
        go_wp2
        go_ret
        exact ⟨by rw [he.out]; rfl, by rw [hr.out]; exact (R2.out.post refS_ok).imp fun F' h => ⟨h.1.shut, h.2⟩⟩
      · obtain ⟨q, hq⟩ : ∃ q, rWait m a b = q := ⟨_, rfl⟩
        have hql : q.length ≤ 500 := by
          rw [← hq]; unfold rWait; rw [if_pos hp, List.length_map]; exact Nat.le_trans (List.length_filter_le _ _) hL
        by_cases hw : 100 ≤ q.length
        · have he := hide (show rsendE m a b t = 28 by simp [rsendE, hp, ht, hc, hq, hw])
          have hr := hide (show rsendR m a b t = m by unfold rsendR; rw [he.out]; rfl)
          have HQ := hide hq
          clear hp hq
          generalize cutI m.G a b = z at KC hc
          go_enter Try.func26, Try.ntmps26
          go_wp2_with fail
          refine KP.out.mono ?_
          rintro e w1 ⟨rfl, rfl⟩
          go_wp2_with fail
          refine KC.out.mono ?_
          rintro e w1 ⟨rfl, hb1⟩
          have R2 := hide (R1.out.below refS_ok hb1)
          have KW := hide (rwait_any (runRead R2.out) (by omega) a b HQ.out)
          clear hb1
          go_wp2_with fail
          refine KW.out.mono ?_
          rintro e w2 ⟨v2, rfl, ho2, hb2⟩
          obtain ⟨A2, c2, rfl⟩ := own_form ho2
          have R3 := hide (R2.out.below refS_ok hb2)
          clear ho2 hb2
          go_wp2
          go_ret
          exact ⟨by rw [he.out]; rfl, by rw [hr.out]; exact (R3.out.post refS_ok).imp fun F' h => ⟨h.1.shut, h.2⟩⟩
        · have he := hide (show rsendE m a b t = 0 by simp [rsendE, hp, ht, hc, hq, hw])
          obtain ⟨L', hL'⟩ : ∃ L', m.L ++ [(⟨a, b, t⟩ : RMsg)] = L' := ⟨_, rfl⟩
          have hr := hide (show rsendR m a b t = { m with L := L' } by rw [← hL']; unfold rsendR; rw [he.out]; rfl)
          have HL' := hide hL'; clear hL'
          have HQ := hide hq
          clear hp hq
          generalize cutI m.G a b = z at KC hc
          go_enter Try.func26, Try.ntmps26
          go_wp2_with fail
          refine KP.out.mono ?_
          rintro e w1 ⟨rfl, rfl⟩
          go_wp2_with fail
          refine KC.out.mono ?_
          rintro e w1 ⟨rfl, hb1⟩
          have R2 := hide (R1.out.below refS_ok hb1)
          have KW := hide (rwait_any (runRead R2.out) (by omega) a b HQ.out)
          clear hb1
          go_wp2_with fail
          refine KW.out.mono ?_
          rintro e w2 ⟨v2, rfl, ho2, hb2⟩
          obtain ⟨A2, c2, rfl⟩ := own_form ho2
          have R3 := hide (R2.out.below refS_ok hb2)
          have g1 := (runRead R3.out).c1
          obtain ⟨FL, hRL, -, hback⟩ := (Run.rot R3.out).take row_ok (star_ok cell_ok row_ok)
          have HRL := hide hRL; have HBK := hide hback
          clear ho2 hb2 hRL hback
          go_wp2_with (at_builtin; refine held ?_)
          refine Held.mk (wpList_app rfl (.tmp 34) (.tmp 39) rfl msgOk _ 0 (v := .slice A m.L.length c) (n := m.L.length) (xs := msgs m.L) rfl (HRL.out.1.alloc _) (A := some ⟨w2.heap.size, 0, none⟩) (m := 1) (c := 1) (news := msgL ⟨a, b, t⟩) rfl (Src.block (heap_new rfl) rfl (by simp [msgL]; exact ⟨rfl, rfl, rfl⟩)) (by omega) (by omega) (Nat.zero_le _) ?_)
          intro v4 w4 ho4 hg4 hv4
          rw [show msgs m.L ++ msgL ⟨a, b, t⟩ = msgs L' by rw [← HL'.out]; simp [msgs], show m.L.length + 1 = L'.length by rw [← HL'.out]; simp] at ho4
          have r4 := HBK.out _ _ (row_app1 HRL.out ho4 hg4 hv4)
          obtain ⟨A4, c4, rfl⟩ := own_form ho4
          obtain ⟨FC, hC, -, hbk⟩ := r4.rot.take cell_ok (star_ok row_ok row_ok)
          have k1 := cell_at hC (i := 1) rfl
          have k2 := cell_free hC 1
          have HFIN := hide (hbk _ _ (cell_set hC 1 (.slice A4 L'.length c4)))
          clear ho4 hg4 hv4 r4 hbk hC g1
          go_wp2
          go_ret
          refine ⟨by rw [he.out]; rfl, ?_⟩
          rw [hr.out]
          exact (HFIN.out.post (star_ok cell_ok (star_ok row_ok row_ok))).imp fun F' h => ⟨⟨A4, c4, B, d, h.1⟩, h.2⟩
end Go.Proofs.Ytolpcjpnjicmkaa
