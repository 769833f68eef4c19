/-
  Escrow: Spend, Return, Revoke.
  Escrow: a line is taken out of the escrow and put back; Give.
  Escrow: Give.
  Escrow: Give, whole.
  The first element of a row is taken out in place: append where there is room, clear of the last element.
  Escrow: slices.Delete of the first message, in memory.
  Escrow: the queue of messages: put, take.
  Escrow: take.
  Escrow: slices.Clone of a row of transfers.
-/
import Derived.Test.YtapabbpdfplpoaaJ3
import Derived.Test.YtapabbpdfplpoaaJ2
import Derived.Lib.SliceRun
set_option linter.unusedSimpArgs false
set_option linter.unusedVariables false
namespace Go.Proofs.Ytapabbpdfplpoaa
open Go.RowKit Go.CH Go.CH.Esc
open Go.ChangeMaps (setBlock)

theorem Inv.bnd {g : GM} {U : Int} (h : Inv g U) {r : Int} (hr : g.is r = true) : (0 ≤ (g.at_ r).u ∧ (g.at_ r).u ≤ 1000000000) ∧ (0 ≤ (g.at_ r).s ∧ (g.at_ r).s ≤ 1000000000) := by
  have h1 := h.at_ hr
  have hm := at_mem hr
  have h2 : (g.at_ r).u ≤ haveG g := isum_mem_le (fun y hy => by obtain ⟨a, ha, rfl⟩ := List.mem_map.1 hy; exact (h.acc a ha).1) (List.mem_map_of_mem hm)
  have h3 : (g.at_ r).s ≤ spentG g := isum_mem_le (fun y hy => by obtain ⟨a, ha, rfl⟩ := List.mem_map.1 hy; exact (h.acc a ha).2) (List.mem_map_of_mem hm)
  have h4 : 0 ≤ haveG g := isum_nonneg (fun y hy => by obtain ⟨a, ha, rfl⟩ := List.mem_map.1 hy; exact (h.acc a ha).1)
  have h5 : 0 ≤ spentG g := isum_nonneg (fun y hy => by obtain ⟨a, ha, rfl⟩ := List.mem_map.1 hy; exact (h.acc a ha).2)
  have h6 : 0 ≤ flyG g := isum_nonneg (fun y hy => by
    obtain ⟨k, hk, rfl⟩ := List.mem_map.1 hy
    have hp : g.pair k.1 k.2 = true := pair_mem.2 hk
    exact fly_nonneg (h.pr k.1 k.2 hp))
  have := h.tot
  have := h.U
  omega
set_option maxHeartbeats 400000 in
theorem spend1 {w : World} {b k : Nat} {v : Bool} (hc : w.cell? ⟨b, k + 2, none⟩ = some (.bool v)) : Calls Try.prog 73 #[.pointer (some ⟨b, k, none⟩)] w (Quiet w (.int .i64 (if v then 22 else 0))) := by
  cases v with
  | true =>
    go_enter Try.func73, Try.ntmps73
    go_wp2_with fail
    go_ret
    exact ⟨rfl, rfl⟩
  | false =>
    go_enter Try.func73, Try.ntmps73
    go_wp2_with fail
    go_ret
    exact ⟨rfl, rfl⟩
set_option maxHeartbeats 400000 in
theorem ret1 {w : World} {b k : Nat} : Calls Try.prog 74 #[.pointer (some ⟨b, k, none⟩)] w (Quiet w (.int .i64 0)) := by
  go_enter Try.func74, Try.ntmps74
  go_wp2_with fail
  go_ret
  exact ⟨rfl, rfl⟩
theorem call73 : ∀ args W, (callFunc 73 args).run Try.prog W = .ok (.enter 73 args) W := fun args W => by kernel_rfl
theorem call74 : ∀ args W, (callFunc 74 args).run Try.prog W = .ok (.enter 74 args) W := fun args W => by kernel_rfl

/-- What change answers for Spend. -/
theorem change_spend {w : World} {F : Nat → Prop} {g : GM} {p : Nat} (h : EscO g p w F) {U : Int} (hI : Inv g U) (r k : Int) (hk : 1 ≤ k ∧ k ≤ 9223372036854775807) :
    Calls Try.prog 72 #[.pointer (some ⟨p, 0, none⟩), .int .i64 r, .int .i64 (-k), .func (.func 73) #[] #[]] w (EPost w F (.int .i64 (spendE g r k)) (spendM g r k) p) := by
  have hk1 : ¬ k < 1 := by omega
  cases hr : g.is r with
  | false =>
    have e1 : spendE g r k = 1 := by simp [spendE, hr]
    have e2 : spendM g r k = g := by simp [spendM, e1]
    rw [e1, e2]
    obtain ⟨s, hS⟩ := h
    have hat := at_any hS.read hI.nb r
    rw [atV_false hr] at hat
    exact (change_no hat _ _).mono (fun e w' hq => EPost.quiet ⟨s, hS⟩ hq)
  | true =>
    have hB := Inv.bnd hI hr
    obtain ⟨s, hS⟩ := h
    have hR := hS.read
    obtain ⟨b, hb⟩ := hR.addr (by have := hI.nb; omega)
    have hat := at_any hR hI.nb r
    rw [atV_true hb hr] at hat
    obtain ⟨cu, cs, cr⟩ := hR.accs b hb r hr
    cases hv : (g.at_ r).rev with
    | true =>
      have e1 : spendE g r k = 22 := by simp [spendE, hr, hv, hk1]
      have e2 : spendM g r k = g := by simp [spendM, e1]
      rw [e1, e2]
      rw [hv] at cr
      exact (change_may hat (-k) 22 (by omega) call73 (by simpa using spend1 cr)).mono (fun e w' hq => EPost.quiet ⟨s, hS⟩ hq)
    | false =>
      rw [hv] at cr
      have hm : Calls Try.prog 73 #[.pointer (some ⟨b, r.toNat * 3, none⟩)] w (Quiet w (.int .i64 0)) := by simpa using spend1 cr
      by_cases hq : (g.at_ r).u < k
      · have e1 : spendE g r k = 19 := by simp [spendE, hr, hv, hk1, hq]
        have e2 : spendM g r k = g := by simp [spendM, e1]
        rw [e1, e2]
        exact (change_quota hat (-k) _ _ call73 hm cu cs hB.1 hB.2 (by omega) (.inl (by omega))).mono (fun e w' hq => EPost.quiet ⟨s, hS⟩ hq)
      · have e1 : spendE g r k = 0 := by simp [spendE, hr, hv, hk1, hq]
        have e2 : spendM g r k = g.setA r { g.at_ r with u := (g.at_ r).u + -k, s := (g.at_ r).s - -k } := by
          simp only [spendM, e1, if_true]; congr 2 <;> omega
        rw [e1, e2]
        refine change_ok ⟨s, hS⟩ hI.nb hr (-k) call73 (fun b hb => ?_) hB.1 hB.2 (by omega) (by omega) (by omega)
        rw [hv] at hb
        simpa using spend1 hb
/-- What change answers for Return. -/
theorem change_ret {w : World} {F : Nat → Prop} {g : GM} {p : Nat} (h : EscO g p w F) {U : Int} (hI : Inv g U) (r k : Int) (hk : 1 ≤ k ∧ k ≤ 9223372036854775807) :
    Calls Try.prog 72 #[.pointer (some ⟨p, 0, none⟩), .int .i64 r, .int .i64 k, .func (.func 74) #[] #[]] w (EPost w F (.int .i64 (retE g r k)) (retM g r k) p) := by
  have hk1 : ¬ k < 1 := by omega
  cases hr : g.is r with
  | false =>
    have e1 : retE g r k = 1 := by simp [retE, hr]
    have e2 : retM g r k = g := by simp [retM, e1]
    rw [e1, e2]
    obtain ⟨s, hS⟩ := h
    have hat := at_any hS.read hI.nb r
    rw [atV_false hr] at hat
    exact (change_no hat _ _).mono (fun e w' hq => EPost.quiet ⟨s, hS⟩ hq)
  | true =>
    have hB := Inv.bnd hI hr
    obtain ⟨s, hS⟩ := h
    have hR := hS.read
    obtain ⟨b, hb⟩ := hR.addr (by have := hI.nb; omega)
    have hat := at_any hR hI.nb r
    rw [atV_true hb hr] at hat
    obtain ⟨cu, cs, cr⟩ := hR.accs b hb r hr
    by_cases hq : (g.at_ r).s < k
    · have e1 : retE g r k = 19 := by simp [retE, hr, hk1, hq]
      have e2 : retM g r k = g := by simp [retM, e1]
      rw [e1, e2]
      exact (change_quota hat k _ _ call74 ret1 cu cs hB.1 hB.2 (by omega) (.inr (by omega))).mono (fun e w' hq => EPost.quiet ⟨s, hS⟩ hq)
    · have e1 : retE g r k = 0 := by simp [retE, hr, hk1, hq]
      have e2 : retM g r k = g.setA r { g.at_ r with u := (g.at_ r).u + k, s := (g.at_ r).s - k } := by
        simp only [retM, e1, if_true]
      rw [e1, e2]
      exact change_ok ⟨s, hS⟩ hI.nb hr k call74 (fun b hb => ret1) hB.1 hB.2 (by omega) (by omega) (by omega)
set_option maxHeartbeats 400000 in
theorem spend_any {w : World} {F : Nat → Prop} {g : GM} {p : Nat} (h : EscO g p w F) {U : Int} (hI : Inv g U) (r k : Int) (hk : -9223372036854775808 ≤ k ∧ k ≤ 9223372036854775807) :
    Calls Try.prog 33 #[.pointer (some ⟨p, 0, none⟩), .int .i64 r, .int .i64 k] w (EPost w F (.int .i64 (spendE g r k)) (spendM g r k) p) := by
  by_cases hk1 : k < 1
  · have e1 : spendE g r k = 1 := by simp [spendE, hk1]
    have e2 : spendM g r k = g := by simp [spendM, e1]
    rw [e1, e2]
    have H := hide h
    clear h hI e1 e2
    go_enter Try.func33, Try.ntmps33
    go_wp2_with fail
    go_ret
    exact EPost.quiet H.out ⟨rfl, rfl⟩
  · have H := hide (change_spend h hI r k (by omega))
    have t1 : IntKind.i64.wrap (-k) = -k := IntWalk.i64_in _ (by omega)
    generalize spendE g r k = e at *
    generalize spendM g r k = g' at *
    clear h hI
    go_enter Try.func33, Try.ntmps33
    go_wp2_with fail
    refine H.out.mono ?_
    rintro e w' ⟨rfl, hP⟩
    go_wp2
    go_ret
    exact ⟨rfl, hP⟩
set_option maxHeartbeats 400000 in
theorem ret_any {w : World} {F : Nat → Prop} {g : GM} {p : Nat} (h : EscO g p w F) {U : Int} (hI : Inv g U) (r k : Int) (hk : -9223372036854775808 ≤ k ∧ k ≤ 9223372036854775807) :
    Calls Try.prog 35 #[.pointer (some ⟨p, 0, none⟩), .int .i64 r, .int .i64 k] w (EPost w F (.int .i64 (retE g r k)) (retM g r k) p) := by
  by_cases hk1 : k < 1
  · have e1 : retE g r k = 1 := by simp [retE, hk1]
    have e2 : retM g r k = g := by simp [retM, e1]
    rw [e1, e2]
    have H := hide h
    clear h hI e1 e2
    go_enter Try.func35, Try.ntmps35
    go_wp2_with fail
    go_ret
    exact EPost.quiet H.out ⟨rfl, rfl⟩
  · have H := hide (change_ret h hI r k (by omega))
    generalize retE g r k = e at *
    generalize retM g r k = g' at *
    clear h hI
    go_enter Try.func35, Try.ntmps35
    go_wp2_with fail
    refine H.out.mono ?_
    rintro e w' ⟨rfl, hP⟩
    go_wp2
    go_ret
    exact ⟨rfl, hP⟩
set_option maxHeartbeats 800000 in
theorem rev_any {w : World} {F : Nat → Prop} {g : GM} {p : Nat} (h : EscO g p w F) {U : Int} (hI : Inv g U) (r : Int) :
    Calls Try.prog 34 #[.pointer (some ⟨p, 0, none⟩), .int .i64 r] w (EPost w F (.int .i64 (revE g r)) (revM g r) p) := by
  cases hr : g.is r with
  | false =>
    have e1 : revE g r = 1 := by simp [revE, hr]
    have e2 : revM g r = g := by simp [revM, hr]
    rw [e1, e2]
    have H := hide h
    obtain ⟨s, hS⟩ := h
    have hat := at_any hS.read hI.nb r
    rw [atV_false hr] at hat
    have KA := hide hat
    clear hat hI e1 e2 hS
    go_enter Try.func34, Try.ntmps34
    go_wp2_with fail
    refine KA.out.mono ?_
    rintro e w' ⟨rfl, rfl⟩
    go_wp2
    go_ret
    exact EPost.quiet H.out ⟨rfl, rfl⟩
  | true =>
    have e1 : revE g r = 0 := by simp [revE, hr]
    have e2 : revM g r = g.setA r { g.at_ r with rev := true } := by simp [revM, hr]
    rw [e1, e2]
    obtain ⟨s, hS⟩ := h
    have hR := hS.read
    obtain ⟨b, hb⟩ := hR.addr (by have := hI.nb; omega)
    have hat := at_any hR hI.nb r
    rw [atV_true hb hr] at hat
    have KA := hide hat
    obtain ⟨_, _, cr⟩ := hR.accs b hb r hr
    obtain ⟨hrun, hz⟩ := esc_acc (Run.start hS) hr hb 2 (by omega) (.bool true) { g.at_ r with rev := true } rfl
    obtain ⟨F', q1, q2, q3⟩ := hrun.post escS_ok
    have HP := hide (show Post w F (EscO (g.setA r { g.at_ r with rev := true }) p) _ from ⟨F', ⟨_, q1⟩, q2, q3⟩)
    generalize (g.at_ r).rev = v at *
    generalize r.toNat * 3 = k at *
    clear hat hI e1 e2 hS hR hrun q1 q2 q3
    go_enter Try.func34, Try.ntmps34
    go_wp2_with fail
    refine KA.out.mono ?_
    rintro e w' ⟨rfl, rfl⟩
    go_wp2
    go_ret
    exact ⟨rfl, HP.out⟩
end Go.Proofs.Ytapabbpdfplpoaa
namespace Go.Proofs.Ytapabbpdfplpoaa
open Go.RowKit Go.CH Go.CH.Esc
open Go.ChangeMaps (setBlock)

/-- All but one line. -/
def EscQ (g : GM) (p : Nat) (s : EscP) (k : Int × Int) : Own :=
  star (CellO p #[.slice s.A g.acc.length s.c, .map (some s.bm)] 101) (star (RowO 103 3 (.slice s.A g.acc.length s.c) g.acc.length (g.acc.flatMap accL))
    (star (MapO (pairV .i64) s.bm (ents g.acc.length s.gp)) (bigK (@List.erase (Int × Int) instBEqOfDecidableEq (keys g.acc.length) k) fun k => LineO (g.pr k) (s.gp k))))
theorem escQ_ok {g : GM} {p : Nat} {s : EscP} {k : Int × Int} : (EscQ g p s k).Ok := star_ok cell_ok (star_ok row_ok (star_ok map_ok (bigK_ok (fun _ => lineO_ok))))
/-- The line in its three parts. -/
def LineQ (p : PrG) (g : Nat) (s : LinS) (O : Own) : Own :=
  star (CellO g #[.slice s.A (p.H.drop p.conf).length s.c, .int .i64 p.H.length, .int .i64 p.rc, .slice s.B s.zs.length s.d] 109)
    (star (RowO 3 1 (.slice s.A (p.H.drop p.conf).length s.c) (p.H.drop p.conf).length (ints (p.H.drop p.conf)))
      (star (ARow zcl zow 124 4 (.slice s.B s.zs.length s.d) s.zs) O))
theorem lineQ_ok {p : PrG} {g : Nat} {s : LinS} {O : Own} (h : O.Ok) : (LineQ p g s O).Ok := star_ok cell_ok (star_ok row_ok (star_ok (arow_ok zow_ok) h))
theorem escQ_out {w : World} {F : Nat → Prop} {g : GM} {p : Nat} {s : EscP} {k : Int × Int} (hk : k ∈ keys g.acc.length) (h : EscS g p s w F) : star (LineO (g.pr k) (s.gp k)) (EscQ g p s k) w F :=
  star_rot (star_mono h (fun _ h => h) (fun F h => star_rot (star_mono h (fun _ h => h) (fun F h => star_rot (star_mono h (fun _ h => h) (fun F h => bigK_out hk h))))))
theorem escQ_in {w : World} {F : Nat → Prop} {g : GM} {p : Nat} {s : EscP} {k : Int × Int} {q : PrG} (hk : k ∈ keys g.acc.length) (h : star (LineO q (s.gp k)) (EscQ g p s k) w F) : EscS (g.setP k q) p s w F := by
  have h1 : star (CellO p #[.slice s.A g.acc.length s.c, .map (some s.bm)] 101) (star (RowO 103 3 (.slice s.A g.acc.length s.c) g.acc.length (g.acc.flatMap accL))
    (star (MapO (pairV .i64) s.bm (ents g.acc.length s.gp)) (star (LineO q (s.gp k)) (bigK (@List.erase (Int × Int) instBEqOfDecidableEq (keys g.acc.length) k) fun k => LineO (g.pr k) (s.gp k))))) w F :=
    star_mono (star_rot h) (fun _ h => h) (fun F h => star_mono (star_rot h) (fun _ h => h) (fun F h => star_rot h))
  refine star_mono h1 (fun _ h => h) (fun F h => star_mono h (fun _ h => h) (fun F h => star_mono h (fun _ h => h) (fun F h => ?_)))
  refine bigK_in (nodup_keys _) (f := fun k => LineO (g.pr k) (s.gp k)) (g := fun x => LineO ((g.setP k q).pr x) (s.gp x)) hk (fun x hx => ?_) ?_
  · simp [GM.setP, hx]
  · have : (g.setP k q).pr k = q := by simp [GM.setP]
    simp only [this]; exact h
theorem esc_line {F0 : Nat → Prop} {w0 W : World} {g : GM} {p : Nat} {s : EscP} (h : Run F0 w0 (EscS g p s) W) {f t : Int} (hp : g.pair f t = true) :
    ∃ l, LineZ (g.pr (f, t)) l ∧ Run F0 w0 (LineQ (g.pr (f, t)) (s.gp (f, t)) l (EscQ g p s (f, t))) W := by
  have hk := pair_mem.1 hp
  obtain ⟨⟨F, ⟨F1, F2, ⟨l, hz, hl⟩, h2, h3, h4⟩, hF⟩, hm⟩ := h.imp (B := star (LineO (g.pr (f, t)) (s.gp (f, t))) (EscQ g p s (f, t))) fun w F h => escQ_out hk h
  have h5 : Run F0 w0 (star (LineS (g.pr (f, t)) (s.gp (f, t)) l) (EscQ g p s (f, t))) W := ⟨⟨F, ⟨F1, F2, hl, h2, h3, h4⟩, hF⟩, hm⟩
  exact ⟨l, hz, h5.imp fun w F h => star_mono (star_assoc h) (fun _ h => h) (fun F h => star_assoc h)⟩
theorem esc_back {F0 : Nat → Prop} {w0 W : World} {g : GM} {p : Nat} {s : EscP} {f t : Int} {q : PrG} {l : LinS} (h : Run F0 w0 (LineQ q (s.gp (f, t)) l (EscQ g p s (f, t))) W) (hz : LineZ q l) (hp : g.pair f t = true) :
    Run F0 w0 (EscS (g.setP (f, t) q) p s) W := by
  have h1 : Run F0 w0 (star (LineS q (s.gp (f, t)) l) (EscQ g p s (f, t))) W := h.imp fun w F h => star_assoc' (star_mono h (fun _ h => h) (fun F h => star_assoc' h))
  refine h1.imp fun w F h => escQ_in (pair_mem.1 hp) (star_mono h (fun F h => ⟨l, hz, h⟩) (fun _ h => h))
end Go.Proofs.Ytapabbpdfplpoaa
namespace Go.Proofs.Ytapabbpdfplpoaa
open Go.RowKit Go.CH Go.CH.Esc
open Go.ChangeMaps (setBlock)

theorem intsOk : SliceOk Try.prog 74 3 (.int .i64 0) 1 8 := ⟨Try.underlying74, by kernel_rfl, rfl, by decide⟩
/-- A line's cells as they are read. -/
theorem line_cells {F0 : Nat → Prop} {w0 W : World} {q : PrG} {gp : Nat} {l : LinS} {O : Own} (h : Run F0 w0 (LineQ q gp l O) W) :
    W.cell? ⟨gp, 0, none⟩ = some (.slice l.A (q.H.drop q.conf).length l.c) ∧ W.cell? ⟨gp, 1, none⟩ = some (.int .i64 q.H.length) ∧ W.cell? ⟨gp, 2, none⟩ = some (.int .i64 q.rc) ∧ W.cell? ⟨gp, 3, none⟩ = some (.slice l.B l.zs.length l.d) := by
  obtain ⟨F, hC⟩ := h.fst
  exact ⟨cell_at hC rfl, cell_at hC rfl, cell_at hC rfl, cell_at hC rfl⟩
theorem drop_snoc {α : Type} (l : List α) (k : Nat) (x : α) (h : k ≤ l.length) : (l ++ [x]).drop k = l.drop k ++ [x] := List.drop_append_of_le_length h
/-- A transfer has been appended: the line's two cells are written. -/
theorem give_run {F0 : Nat → Prop} {w0 W : World} {g : GM} {p : Nat} {s : EscP} {f t : Int} {k : Int} {l : LinS} {A : Option Addr} {c : Nat} {U : Int} (hp : g.pair f t = true) (hk : PrOk (g.pr (f, t)) (g.pr (t, f))) (hz : LineZ (g.pr (f, t)) l)
    (h : Run F0 w0 (star (RowO 3 1 (.slice A (((g.pr (f, t)).H.drop (g.pr (f, t)).conf).length + 1) c) (((g.pr (f, t)).H.drop (g.pr (f, t)).conf).length + 1) (ints ((g.pr (f, t)).H.drop (g.pr (f, t)).conf) ++ [.int .i64 k]))
      (star (CellO (s.gp (f, t)) #[.slice l.A ((g.pr (f, t)).H.drop (g.pr (f, t)).conf).length l.c, .int .i64 (g.pr (f, t)).H.length, .int .i64 (g.pr (f, t)).rc, .slice l.B l.zs.length l.d] 109)
        (star (ARow zcl zow 124 4 (.slice l.B l.zs.length l.d) l.zs) (EscQ g p s (f, t))))) W) :
    (W.frozen? ⟨s.gp (f, t), 0, none⟩ = false ∧ W.frozen? ⟨s.gp (f, t), 1, none⟩ = false) ∧
    Run F0 w0 (EscS (g.setP (f, t) { g.pr (f, t) with H := (g.pr (f, t)).H ++ [k] }) p s)
      ((W.setCell ⟨s.gp (f, t), 0, none⟩ (.slice A (((g.pr (f, t)).H.drop (g.pr (f, t)).conf).length + 1) c)).setCell ⟨s.gp (f, t), 1, none⟩ (.int .i64 ((g.pr (f, t)).H.length + 1))) := by
  have hc : (g.pr (f, t)).conf ≤ (g.pr (f, t)).H.length := Nat.le_trans hk.cr hk.rl
  have hd := drop_snoc _ _ k hc
  obtain ⟨F1, hC, -, bk⟩ := h.rot.take cell_ok (star_ok row_ok (star_ok (arow_ok zow_ok) escQ_ok))
  have z0 := cell_free hC 0
  have z1 := cell_free hC 1
  have S1 := bk _ _ (cell_set hC 0 (.slice A (((g.pr (f, t)).H.drop (g.pr (f, t)).conf).length + 1) c))
  obtain ⟨F2, hC2, -, bk2⟩ := S1.take cell_ok (star_ok row_ok (star_ok (arow_ok zow_ok) escQ_ok))
  have S2 := bk2 _ _ (cell_set hC2 1 (.int .i64 ((g.pr (f, t)).H.length + 1)))
  refine ⟨⟨z0, z1⟩, esc_back (l := { l with A := A, c := c }) (S2.imp fun w F h => ?_) ⟨hz.1, fun z hzz => ?_⟩ hp⟩
  · unfold LineQ
    simp only [hd]
    simpa [ints, hd] using h
  · rw [hz.2 z hzz]
    have hm : z.m ∈ (g.pr (f, t)).ms := by rw [← hz.1]; exact List.mem_map_of_mem hzz
    have := (hk.msg _ hm).2.2.1
    unfold msgT
    rw [List.take_append_of_le_length this]
theorem src_one (w : World) (k : Int) (e : TypeId) : Src (w.alloc (.cells #[.int .i64 k] e)) (some ⟨w.heap.size, 0, none⟩) 1 1 [.int .i64 k] := by
  refine ⟨rfl, fun u hu => by simp at hu; subst hu; rfl, fun _ => ⟨_, rfl, fun j u hu => ?_⟩⟩
  cases j with
  | zero =>
    simp at hu; subst hu
    obtain ⟨F', hC, -⟩ := cell_new w #[.int .i64 k] e
    exact cell_at hC (i := 0) rfl
  | succ j => simp at hu
set_option maxRecDepth 100000 in
set_option maxHeartbeats 1600000 in
theorem give_ok {w : World} {F : Nat → Prop} {g : GM} {p : Nat} (h : EscO g p w F) {U : Int} (hI : Inv g U) {f t : Nat} (hp : g.pair f t = true) (k : Int) (hk : 1 ≤ k) (hu : k ≤ (g.at_ f).u) (hl : (g.pr (f, t)).H.length ≤ 1000000) (hq : (g.pr (f, t)).H.length - (g.pr (f, t)).conf < 100) :
    Calls Try.prog 32 #[.pointer (some ⟨p, 0, none⟩), .int .i64 f, .int .i64 t, .int .i64 k] w (EPost w F (.int .i64 0) ((g.setA f { g.at_ f with u := (g.at_ f).u - k }).setP (f, t) { g.pr (f, t) with H := (g.pr (f, t)).H ++ [k] }) p) := by
  have hr := (pair_is hp).1
  have hfl := (is_lt hr).2
  have hB := Inv.bnd hI hr
  have hPr := hI.pr f t hp
  obtain ⟨s, hS⟩ := h
  have hR := hS.read
  obtain ⟨b, hb⟩ := hR.addr (by have := hI.nb; omega)
  have KL := hide (line_any hR f t)
  rw [lineV, if_pos hp] at KL
  have hc0 := hR.c0
  rw [hb] at hc0
  obtain ⟨cu, -, -⟩ := hR.accs b hb f hr
  obtain ⟨l0, -, hrun0⟩ := esc_line (Run.start hS) hp
  obtain ⟨q0, -, -, -⟩ := line_cells hrun0
  obtain ⟨hrun1, hz1⟩ := esc_acc (Run.start hS) hr hb 0 (by omega) (.int .i64 ((g.at_ f).u - k)) { g.at_ f with u := (g.at_ f).u - k } rfl
  have hp1 : (g.setA f { g.at_ f with u := (g.at_ f).u - k }).pair f t = true := by rw [setA_pair]; exact hp
  obtain ⟨l, hlz, hrun2⟩ := esc_line (hrun1.drew escS_ok) hp1
  rw [setA_pr] at hlz hrun2
  obtain ⟨d0, d1, -, -⟩ := line_cells hrun2
  simp only [Int.toNat_natCast, Nat.add_zero] at cu hrun2 hz1 d0 d1 hfl
  have R2 := hide hrun2
  have HL := hide hlz
  have HP := hide hPr
  have e1 : decide ((g.at_ f).u < k) = false := by simp; omega
  have e2 : decide (k < 1) = false := by simp; omega
  have t1 : IntKind.i64.wrap ((g.at_ f).u - k) = (g.at_ f).u - k := IntWalk.i64_in _ (by omega)
  have t2 : IntKind.i64.wrap (((g.pr (f, t)).H.length : Int) + 1) = ((g.pr (f, t)).H.length : Int) + 1 := IntWalk.i64_in _ (by omega)
  have e3 : decide ((100 : Int) ≤ ((g.pr (f, t)).H.drop (g.pr (f, t)).conf).length) = false := by simp; omega
  have e4 : ¬ ((100 : Int) ≤ ((g.pr (f, t)).H.drop (g.pr (f, t)).conf).length) := by simp; omega
  generalize (g.at_ f).u = u at *
  generalize hN : ((g.pr (f, t)).H.drop (g.pr (f, t)).conf).length = n at *
  generalize hM : (g.pr (f, t)).H.length = m at *
  have HN := hide hN
  have HM := hide hM
  clear hB hPr hS hR hrun0 hrun1 hrun2 hlz hI hq hN hM
  go_enter Try.func32, Try.ntmps32
  go_wp2_with fail
  refine KL.out.mono ?_
  rintro e w' ⟨rfl, rfl⟩
  go_wp2_with fail
  clear q0 hc0 cu hz1
  generalize w.setCell ⟨b, f * 3, none⟩ (.int .i64 (u - k)) = W at *
  refine wp_region_lew [7, 8, 16, 19] [2, 3, 1, 1, 1, 1, 0, 1, 2, 2, 2, 2, 2, 3, 2, 2, 3, 3, 3, 4]
    (fun w' => w'.cell? ⟨s.gp (f, t), 0, none⟩ = some (.slice l.A n l.c) ∧ w'.cell? ⟨s.gp (f, t), 1, none⟩ = some (.int .i64 m)) (fun w' => w'.cell? ⟨s.gp (f, t), 0, none⟩ = some (.slice l.A n l.c) ∧ w'.cell? ⟨s.gp (f, t), 1, none⟩ = some (.int .i64 m))
    (fun w' => w'.cell? ⟨s.gp (f, t), 1, none⟩ = some (.int .i64 m)) (fun _ => True) (fun _ h => h) (fun _ h => h.2) (fun _ _ => trivial) (by kernel_rfl) (by kernel_rfl) (by kernel_rfl) (by kernel_rfl) (by exact ⟨d0, d1⟩) ?_
  (repeat (first | (refine lew_skip (by rfl) (by rfl) ?_; try simp only [Act.put, List.setIfInBounds_toArray, List.set_cons_zero, List.set_cons_succ]) | (refine lew_read0 (v := ?_) (by rfl) (by rfl) ?_ ?_; rotate_left; (focus (intro w' hS'; go_simp; (try with_reducible rfl); done)); try simp only [Act.put, List.setIfInBounds_toArray, List.set_cons_zero, List.set_cons_succ]) | (refine lew_read1 (v := ?_) (by rfl) (by rfl) ?_ ?_; rotate_left; (focus (intro w' hS'; go_simp; (try with_reducible rfl); done)); try simp only [Act.put, List.setIfInBounds_toArray, List.set_cons_zero, List.set_cons_succ]) | (refine lew_read2 (v := ?_) (by rfl) (by rfl) ?_ ?_; rotate_left; (focus (intro w' hS'; go_simp; (try with_reducible rfl); done)); try simp only [Act.put, List.setIfInBounds_toArray, List.set_cons_zero, List.set_cons_succ]) | (refine lew_read3 (v := ?_) (by rfl) (by rfl) ?_ ?_; rotate_left; (focus (intro w' hS'; go_simp; (try with_reducible rfl); done)); try simp only [Act.put, List.setIfInBounds_toArray, List.set_cons_zero, List.set_cons_succ]) | (refine lew_read4 (v := ?_) (by rfl) (by rfl) ?_ ?_; rotate_left; (focus (intro w' hS'; go_simp; (try with_reducible rfl); done)); try simp only [Act.put, List.setIfInBounds_toArray, List.set_cons_zero, List.set_cons_succ])))
  refine lew_chain1 rfl (by rfl) (fun K hK => ?_)
  go_wp2_with fail
  have R3 := hide (show Run F w _ (W.alloc (.cells #[.int .i64 k] 3)).drew from R2.out.below (lineQ_ok escQ_ok) ((Below.refl _ _).alloc (Nat.le_refl _) (.cells #[.int .i64 k] 3)))
  obtain ⟨d2, d3, -, -⟩ := line_cells R3.out
  rw [HN.out] at d2
  rw [HM.out] at d3
  refine hK.out _ _ ⟨d2, d3⟩ ?_
  clear hK
  have HSR := hide (show Src (W.alloc (.cells #[.int .i64 k] 3)).drew (some ⟨W.heap.size, 0, none⟩) 1 1 [.int .i64 k] from src_one W.drew k 3)
  generalize (W.alloc (.cells #[.int .i64 k] 3)).drew = W1 at *
  (repeat (first | (refine lew_skip (by rfl) (by rfl) ?_; try simp only [Act.put, List.setIfInBounds_toArray, List.set_cons_zero, List.set_cons_succ]) | (refine lew_read0 (v := ?_) (by rfl) (by rfl) ?_ ?_; rotate_left; (focus (intro w' hS'; go_simp; (try with_reducible rfl); done)); try simp only [Act.put, List.setIfInBounds_toArray, List.set_cons_zero, List.set_cons_succ]) | (refine lew_read1 (v := ?_) (by rfl) (by rfl) ?_ ?_; rotate_left; (focus (intro w' hS'; go_simp; (try with_reducible rfl); done)); try simp only [Act.put, List.setIfInBounds_toArray, List.set_cons_zero, List.set_cons_succ]) | (refine lew_read2 (v := ?_) (by rfl) (by rfl) ?_ ?_; rotate_left; (focus (intro w' hS'; go_simp; (try with_reducible rfl); done)); try simp only [Act.put, List.setIfInBounds_toArray, List.set_cons_zero, List.set_cons_succ]) | (refine lew_read3 (v := ?_) (by rfl) (by rfl) ?_ ?_; rotate_left; (focus (intro w' hS'; go_simp; (try with_reducible rfl); done)); try simp only [Act.put, List.setIfInBounds_toArray, List.set_cons_zero, List.set_cons_succ]) | (refine lew_read4 (v := ?_) (by rfl) (by rfl) ?_ ?_; rotate_left; (focus (intro w' hS'; go_simp; (try with_reducible rfl); done)); try simp only [Act.put, List.setIfInBounds_toArray, List.set_cons_zero, List.set_cons_succ])))
  refine lew_chain2 rfl (by rfl) (fun K hK => ?_)
  obtain ⟨F3, hR3, -, hbk3⟩ := R3.out.rot.take row_ok (star_ok cell_ok (star_ok (arow_ok zow_ok) escQ_ok))
  rw [HN.out] at hR3
  refine wp_app (.tmp 56) (.tmp 58) rfl intsOk _ 0 (v := .slice l.A n l.c) (n := n) rfl hR3.1 (A := some ⟨W.heap.size, 0, none⟩) (m := 1) (c := 1) (news := [.int .i64 k]) rfl HSR.out (by omega) (by omega) (Nat.zero_le _) ?_
  intro v4 w4 ho4 hg4 hv4
  have S4 := hbk3 _ _ (row_app hR3 ho4 hg4 hv4)
  obtain ⟨A4, c4, rfl⟩ := own_form ho4
  obtain ⟨FC4, hC4⟩ := S4.rot.fst
  have d4 : w4.cell? ⟨s.gp (f, t), 1, none⟩ = some (.int .i64 m) := by rw [← HM.out]; exact cell_at hC4 rfl
  have d5 : w4.cell? ⟨s.gp (f, t), 0, none⟩ = some (.slice l.A n l.c) := by rw [← HN.out]; exact cell_at hC4 rfl
  have G := give_run (W := w4) (A := A4) (c := c4) (g := g.setA f { g.at_ f with u := u - k }) (U := U) hp1 HP.out HL.out (by have S5 := S4; rw [← HN.out] at S5; exact S5)
  simp only [setA_pr, HN.out, HM.out] at G
  obtain ⟨⟨z1, z2⟩, hfin⟩ := G
  have HFIN := hide hfin
  refine hK.out _ _ d4 ?_
  clear hK hR3 hbk3 hg4 ho4 hv4 S4 hC4 hfin
  (repeat (first | (refine lew_skip (by rfl) (by rfl) ?_; try simp only [Act.put, List.setIfInBounds_toArray, List.set_cons_zero, List.set_cons_succ]) | (refine lew_read0 (v := ?_) (by rfl) (by rfl) ?_ ?_; rotate_left; (focus (intro w' hS'; go_simp; (try with_reducible rfl); done)); try simp only [Act.put, List.setIfInBounds_toArray, List.set_cons_zero, List.set_cons_succ]) | (refine lew_read1 (v := ?_) (by rfl) (by rfl) ?_ ?_; rotate_left; (focus (intro w' hS'; go_simp; (try with_reducible rfl); done)); try simp only [Act.put, List.setIfInBounds_toArray, List.set_cons_zero, List.set_cons_succ]) | (refine lew_read2 (v := ?_) (by rfl) (by rfl) ?_ ?_; rotate_left; (focus (intro w' hS'; go_simp; (try with_reducible rfl); done)); try simp only [Act.put, List.setIfInBounds_toArray, List.set_cons_zero, List.set_cons_succ]) | (refine lew_read3 (v := ?_) (by rfl) (by rfl) ?_ ?_; rotate_left; (focus (intro w' hS'; go_simp; (try with_reducible rfl); done)); try simp only [Act.put, List.setIfInBounds_toArray, List.set_cons_zero, List.set_cons_succ]) | (refine lew_read4 (v := ?_) (by rfl) (by rfl) ?_ ?_; rotate_left; (focus (intro w' hS'; go_simp; (try with_reducible rfl); done)); try simp only [Act.put, List.setIfInBounds_toArray, List.set_cons_zero, List.set_cons_succ])))
  refine lew_chain3 rfl (by rfl) (fun K hK => ?_)
  go_wp2_with fail
  refine hK.out _ _ trivial ?_
  clear hK
  (repeat (first | (refine lew_skip (by rfl) (by rfl) ?_; try simp only [Act.put, List.setIfInBounds_toArray, List.set_cons_zero, List.set_cons_succ]) | (refine lew_read0 (v := ?_) (by rfl) (by rfl) ?_ ?_; rotate_left; (focus (intro w' hS'; go_simp; (try with_reducible rfl); done)); try simp only [Act.put, List.setIfInBounds_toArray, List.set_cons_zero, List.set_cons_succ]) | (refine lew_read1 (v := ?_) (by rfl) (by rfl) ?_ ?_; rotate_left; (focus (intro w' hS'; go_simp; (try with_reducible rfl); done)); try simp only [Act.put, List.setIfInBounds_toArray, List.set_cons_zero, List.set_cons_succ]) | (refine lew_read2 (v := ?_) (by rfl) (by rfl) ?_ ?_; rotate_left; (focus (intro w' hS'; go_simp; (try with_reducible rfl); done)); try simp only [Act.put, List.setIfInBounds_toArray, List.set_cons_zero, List.set_cons_succ]) | (refine lew_read3 (v := ?_) (by rfl) (by rfl) ?_ ?_; rotate_left; (focus (intro w' hS'; go_simp; (try with_reducible rfl); done)); try simp only [Act.put, List.setIfInBounds_toArray, List.set_cons_zero, List.set_cons_succ]) | (refine lew_read4 (v := ?_) (by rfl) (by rfl) ?_ ?_; rotate_left; (focus (intro w' hS'; go_simp; (try with_reducible rfl); done)); try simp only [Act.put, List.setIfInBounds_toArray, List.set_cons_zero, List.set_cons_succ])))
  refine lew_chain4 rfl (by rfl) (fun K hK => ?_)
  go_wp2_with fail
  refine hK.out _ _ trivial (lew_nil ?_)
  go_wp2
  go_ret
  obtain ⟨F', q1, q2, q3⟩ := HFIN.out.post escS_ok
  exact ⟨rfl, F', ⟨_, q1⟩, q2, q3⟩
end Go.Proofs.Ytapabbpdfplpoaa
namespace Go.Proofs.Ytapabbpdfplpoaa
open Go.RowKit Go.CH Go.CH.Esc
open Go.ChangeMaps (setBlock)

set_option maxHeartbeats 800000 in
theorem give_any {w : World} {F : Nat → Prop} {g : GM} {p : Nat} (h : EscO g p w F) {U : Int} (hI : Inv g U) (f t k : Int) (hl : (g.pr (f, t)).H.length ≤ 1000000) :
    Calls Try.prog 32 #[.pointer (some ⟨p, 0, none⟩), .int .i64 f, .int .i64 t, .int .i64 k] w (EPost w F (.int .i64 (giveE g f t k)) (giveM g f t k) p) := by
  cases hp : g.pair f t with
  | false =>
    have e1 : giveE g f t k = 1 := by simp [giveE, hp]
    have e2 : giveM g f t k = g := by simp [giveM, e1]
    rw [e1, e2]
    have H := hide h
    obtain ⟨s, hS⟩ := h
    have KL := hide (line_any hS.read f t)
    rw [lineV, if_neg (by simp [hp])] at KL
    clear hI hl e1 e2 hS
    go_enter Try.func32, Try.ntmps32
    go_wp2_with fail
    refine KL.out.mono ?_
    rintro e w' ⟨rfl, rfl⟩
    go_wp2_with fail
    go_ret
    exact EPost.quiet H.out ⟨rfl, rfl⟩
  | true =>
    obtain ⟨hr, ht, -⟩ := pair_is hp
    obtain ⟨f', rfl⟩ : ∃ k : Nat, f = k := ⟨f.toNat, by have := (is_lt hr).1; omega⟩
    obtain ⟨t', rfl⟩ : ∃ k : Nat, t = k := ⟨t.toNat, by have := (is_lt ht).1; omega⟩
    have hfl := (is_lt hr).2
    simp only [Int.toNat_natCast] at hfl
    have H := hide h
    obtain ⟨s, hS⟩ := h
    have hR := hS.read
    obtain ⟨b, hb⟩ := hR.addr (by have := hI.nb; omega)
    have KL := hide (line_any hR f' t')
    rw [lineV, if_pos hp] at KL
    have hc0 := hR.c0
    rw [hb] at hc0
    obtain ⟨cu, -, -⟩ := hR.accs b hb f' hr
    obtain ⟨l0, -, hrun0⟩ := esc_line (Run.start hS) hp
    obtain ⟨q0, -, -, -⟩ := line_cells hrun0
    simp only [Int.toNat_natCast] at cu
    by_cases h1 : k < 1
    · have e1 : giveE g f' t' k = 1 := by simp [giveE, h1]
      have e2 : giveM g f' t' k = g := by simp [giveM, e1]
      rw [e1, e2]
      clear hI hl e1 e2 hS hR hrun0 cu q0
      go_enter Try.func32, Try.ntmps32
      go_wp2_with fail
      refine KL.out.mono ?_
      rintro e w' ⟨rfl, rfl⟩
      go_wp2_with fail
      go_ret
      exact EPost.quiet H.out ⟨rfl, rfl⟩
    · by_cases h2 : (g.at_ f').u < k
      · have e1 : giveE g f' t' k = 19 := by simp [giveE, h1, h2, hp]
        have e2 : giveM g f' t' k = g := by simp [giveM, e1]
        rw [e1, e2]
        generalize (g.at_ f').u = u at *
        clear hI hl e1 e2 hS hR hrun0 q0
        go_enter Try.func32, Try.ntmps32
        go_wp2_with fail
        refine KL.out.mono ?_
        rintro e w' ⟨rfl, rfl⟩
        go_wp2_with fail
        go_ret
        exact EPost.quiet H.out ⟨rfl, rfl⟩
      · by_cases h3 : 100 ≤ (g.pr (f', t')).H.length - (g.pr (f', t')).conf
        · have e1 : giveE g f' t' k = 28 := by simp [giveE, h1, h2, h3, hp]
          have e2 : giveM g f' t' k = g := by simp [giveM, e1]
          rw [e1, e2]
          have h4 : (100 : Int) ≤ ((g.pr (f', t')).H.drop (g.pr (f', t')).conf).length := by rw [List.length_drop]; omega
          clear h3
          generalize (g.at_ f').u = u at *
          generalize ((g.pr (f', t')).H.drop (g.pr (f', t')).conf).length = n at *
          clear hI hl e1 e2 hS hR hrun0
          go_enter Try.func32, Try.ntmps32
          go_wp2_with fail
          refine KL.out.mono ?_
          rintro e w' ⟨rfl, rfl⟩
          go_wp2_with fail
          go_ret
          exact EPost.quiet H.out ⟨rfl, rfl⟩
        · have e1 : giveE g f' t' k = 0 := by simp [giveE, h1, h2, h3, hp]
          have e2 : giveM g f' t' k = (g.setA f' { g.at_ f' with u := (g.at_ f').u - k }).setP (f', t') { g.pr (f', t') with H := (g.pr (f', t')).H ++ [k] } := by simp only [giveM, e1, if_true]
          rw [e1, e2]
          exact give_ok ⟨s, hS⟩ hI hp k (by omega) (by omega) hl (by omega)
end Go.Proofs.Ytapabbpdfplpoaa
namespace Go.CH
open Go.RowKit
section
variable {P : Program}
theorem row_shrink {w : World} {F : Nat → Prop} {e : TypeId} {size n c k : Nat} {A : Option Addr} {xs : List Value} (h : RowO e size (.slice A n c) n xs w F) (hk : k ≤ n) : RowO e size (.slice A k c) k (xs.take (k * size)) w F := by
  obtain ⟨⟨hl, h1⟩, h2⟩ := h
  refine ⟨⟨by rw [List.length_take, hl]; exact Nat.min_eq_left (Nat.mul_le_mul_right _ hk), ?_⟩, fun i => by rw [h2 i]; cases A <;> rfl⟩
  rcases h1 with ⟨hv, hn⟩ | ⟨g, cap, cur, hv, q1, q2, q3, q4, q5, q6⟩
  · injection hv with e1 e2 e3
    subst e1; subst e3
    exact .inl ⟨by congr 1; omega, by omega⟩
  · injection hv with e1 e2 e3
    subst e1; subst e3
    refine .inr ⟨g, _, cur, rfl, q1, q2, by omega, q4, q5, ?_⟩
    rw [← q6, List.take_take, Nat.min_eq_left (Nat.mul_le_mul_right _ hk)]
theorem run_app_room {t e : TypeId} {z : Value} {size bytes : Nat} (S : SliceOk P t e z size bytes) (ty : TypeId) (w : World) (base : Nat) {g c n : Nat} {xs : List Value} (hown : w.ownsRow base e size (.slice (some ⟨g, 0, none⟩) n c) n xs)
    {ad : Addr} {m d : Nat} {news : List Value} (hs : Src w (some ad) m size news) (hroom : n + m ≤ c) (h63 : n + m ≤ 1000000) (hby : bytes ≤ 1000) (hbase : base ≤ w.heap.size) :
    ∃ w', (Builtin.append_ #[t, t] ty #[.slice (some ⟨g, 0, none⟩) n c, .slice (some ad) m d]).run P w = .ok (.slice (some ⟨g, 0, none⟩) (n + m) c) w' ∧ w'.ownsRow base e size (.slice (some ⟨g, 0, none⟩) (n + m) c) (n + m) (xs ++ news) ∧ w.grownBy w' (some g) := by
  obtain ⟨v', w', h1, h2, h3, h4⟩ := run_app S ty w base hown (c := d) hs h63 hby hbase
  obtain ⟨ht, hi, hz, hsz⟩ := S
  obtain ⟨i, hi, hi1, hi2, hi3⟩ := info_parts hi
  rcases hown.2 with ⟨hv, _⟩ | ⟨g', cap, cur, hv, q1, q2, q3, q4, q5, q6⟩
  · cases hv
  · injection hv with e1 e2 e3
    injection e1 with e1
    injection e1 with e1 _ _
    subst e1; subst e3
    have hr := run_append_room (P := P) (ty := ty) w t e i ht hi g n c cur q2 ad m d news (by rw [hi2]; exact hs.1) (hs.cells rfl) hs.2.1 hroom (by rw [hi2, hs.1, q5, ← Nat.add_mul]; exact Nat.mul_le_mul_right _ hroom)
    rw [hr] at h1
    injection h1 with h5 h6
    subst h5; subst h6
    exact ⟨_, hr, h2, h3⟩
theorem run_slice_mid {t e : TypeId} {z : Value} {size bytes : Nat} (S : SliceOk P t e z size bytes) (A : Option Addr) (n c i j : Nat) (k1 k2 : IntKind) (li lj : Int) (hi : li = i) (hj : lj = j) (h1 : i ≤ j) (h2 : j ≤ c) (w : World) :
    (Instr.slice t (.slice A n c) (some (.int k1 li)) (some (.int k2 lj)) none).run P w = .ok (.slice (cutA A c i size) (j - i) (c - i)) w := by
  obtain ⟨ht, hi', hz, hsz⟩ := S
  obtain ⟨f, hi', hi1, hi2, hi3⟩ := info_parts hi'
  subst hi; subst hj
  have h0 : (0 : Int) ≤ i ∧ (i : Int) ≤ j := by omega
  have h3 : (0 : Int) ≤ j ∧ (j : Int) ≤ c := by omega
  simp [Instr.slice, run_underlying ht, Instr.sliceBounds, Instr.sliceBound, asIntOf, h1, h2, sizeOf, typeInfo, hi', hi2, cutA]
theorem run_slice_3 {t e : TypeId} {z : Value} {size bytes : Nat} (S : SliceOk P t e z size bytes) (A : Option Addr) (n c i j m : Nat) (k1 k2 k3 : IntKind) (li lj lm : Int) (hi : li = i) (hj : lj = j) (hm : lm = m) (h1 : i ≤ j) (h2 : j ≤ m) (h3 : m ≤ c) (w : World) :
    (Instr.slice t (.slice A n c) (some (.int k1 li)) (some (.int k2 lj)) (some (.int k3 lm))).run P w = .ok (.slice (cutA A m i size) (j - i) (m - i)) w := by
  obtain ⟨ht, hi', hz, hsz⟩ := S
  obtain ⟨f, hi', hi1, hi2, hi3⟩ := info_parts hi'
  subst hi; subst hj; subst hm
  simp [Instr.slice, run_underlying ht, Instr.sliceBounds, Instr.sliceBound, asIntOf, h1, h2, h3, sizeOf, typeInfo, hi', hi2, cutA]
theorem run_clear_tail {t e : TypeId} {z : Value} {size bytes : Nat} (S : SliceOk P t e z size bytes) (hv : ∀ w, (zeroValue e).run P w = .ok z w) (h1 : ∀ u ∈ z.cells, u.oneCell' = true) (ty : TypeId) {w : World} {F : Nat → Prop} {g c k m d : Nat} {xs : List Value}
    (h : RowO e size (.slice (some ⟨g, 0, none⟩) k c) k xs w F) (hkc : k + m ≤ c) (hm : 0 < m) :
    ∃ w', (Builtin.clear_ #[t] ty #[.slice (some ⟨g, k * size, none⟩) m d]).run P w = .ok (.tuple #[]) w' ∧ Post w F (RowO e size (.slice (some ⟨g, 0, none⟩) k c) k xs) w' := by
  obtain ⟨ht, hi, hz, hsz⟩ := S
  obtain ⟨⟨hl, h2⟩, hF⟩ := h
  rcases h2 with ⟨hv, _⟩ | ⟨g', cap, cur, hv', q1, q2, q3, q4, q5, q6⟩
  · cases hv
  · injection hv' with e1 e2 e3
    injection e1 with e1
    injection e1 with e1 _ _
    subst e1; subst e3
    have hzl : (Builtin.zeroCells z.cells m).toList.length = m * size := by simp [size_zeroCells, hz]
    have hone : ∀ v ∈ (Builtin.zeroCells z.cells m).toList, v.oneCell' = true := fun v hv => by
      simp only [Builtin.zeroCells, Array.toList_map, List.mem_map, Array.toList_range, List.mem_range] at hv
      obtain ⟨a, ha, rfl⟩ := hv
      have hp : 0 < z.cells.size := by rw [hz]; exact hsz
      have hlt : a % z.cells.size < z.cells.size := Nat.mod_lt _ hp
      rw [getElem!_pos z.cells _ hlt]
      exact h1 _ (Array.getElem_mem _)
    have hst := run_storeCells_at P g (k * size) e (Builtin.zeroCells z.cells m).toList 0 cur w q2 (by rw [hzl, q5, Nat.add_zero, ← Nat.add_mul]; exact Nat.mul_le_mul_right _ hkc) hone
    have hkl : k * size ≤ cur.toList.length := by simp [q5]; exact Nat.mul_le_mul_right _ q3
    have e1 : (k + m) * size ≤ c * size := Nat.mul_le_mul_right _ hkc
    have e2 : (k + m) * size = k * size + m * size := Nat.add_mul _ _ _
    have hXl : (cur.toList.take (k * size + 0) ++ (Builtin.zeroCells z.cells m).toList ++ cur.toList.drop (k * size + 0 + (Builtin.zeroCells z.cells m).toList.length)).toArray.size = c * size := by
      simp only [List.size_toArray, List.length_append, List.length_take, List.length_drop, hzl, Array.length_toList, Nat.add_zero]
      omega
    have hXt : (cur.toList.take (k * size + 0) ++ (Builtin.zeroCells z.cells m).toList ++ cur.toList.drop (k * size + 0 + (Builtin.zeroCells z.cells m).toList.length)).toArray.toList.take (k * size) = xs := by
      simp only [Nat.add_zero, List.append_assoc]
      rw [List.take_append_of_le_length (by rw [List.length_take]; omega), List.take_take, Nat.min_self]
      exact q6
    generalize (cur.toList.take (k * size + 0) ++ (Builtin.zeroCells z.cells m).toList ++ cur.toList.drop (k * size + 0 + (Builtin.zeroCells z.cells m).toList.length)).toArray = X at hst hXl hXt
    have hgb : w.grownBy (w.setRow g X) (some g) := ⟨rfl, rfl, rfl, by simp, fun k _ hk => setRow_other w g k _ (fun e => hk (by simp [e]))⟩
    obtain ⟨m', rfl⟩ : ∃ m', m = m' + 1 := ⟨m - 1, by omega⟩
    refine ⟨w.setRow g X, by simp only [Builtin.clear_]; simp [run_underlying ht, hv, hst], ?_⟩
    exact ⟨F, ⟨⟨hl, .inr ⟨g, _, _, rfl, q1, setRow_heap w g cur _ e _ q2, q3, q4, hXl, hXt⟩⟩, hF⟩, Mod.of_grown hgb (fun j hj _ => by injection hj with hj; subst hj; exact (hF _).2 rfl), fun i hi => .inl hi⟩
/-- append in place, at the operation. -/
theorem wp_app_room {o : Oper} {a : Act} {K : Act → World → Prop} {Q : Exit → Act → World → Prop} (s x : Operand) {t : TypeId}
    (ho : o.op = .call { callee := .builtin .append, args := #[s, x], argTypes := #[t, t] })
    {e : TypeId} {z : Value} {size bytes : Nat} (S : SliceOk P t e z size bytes) (w : World) (base : Nat) {g c n : Nat} {xs : List Value} (hsv : a.eval s = .slice (some ⟨g, 0, none⟩) n c) (hown : w.ownsRow base e size (.slice (some ⟨g, 0, none⟩) n c) n xs)
    {ad : Addr} {m d : Nat} {news : List Value} (hx : a.eval x = .slice (some ad) m d) (hs : Src w (some ad) m size news) (hroom : n + m ≤ c) (h63 : n + m ≤ 1000000) (hby : bytes ≤ 1000) (hbase : base ≤ w.heap.size)
    (h : ∀ w', w'.ownsRow base e size (.slice (some ⟨g, 0, none⟩) (n + m) c) (n + m) (xs ++ news) → w.grownBy w' (some g) → K (a.put o.dst (.slice (some ⟨g, 0, none⟩) (n + m) c)) w') : o.wp P a w K Q := by
  obtain ⟨w', hrun, h2, h3⟩ := run_app_room S o.type w base hown (d := d) hs hroom h63 hby hbase
  unfold Oper.wp execOp
  simp only [ho, resolve, invoke, builtin, Sem.run_bind, Sem.run_pure, Result.andThen_ok, List.map_toArray, List.map_cons, List.map_nil, hsv, hx, hrun]
  exact h w' h2 h3
/-- clear, at the operation. -/
theorem wpList_clear {ops : Array Oper} {rest : List Oper} {o : Oper} {a : Act} {Q : Exit → Act → World → Prop} (hgd : o.guard = none) (x : Operand) {t : TypeId}
    (ho : o.op = .call { callee := .builtin .clear, args := #[x], argTypes := #[t] }) {v : Value} {w w' : World} (hx : a.eval x = v)
    (hrun : (Builtin.clear_ #[t] o.type #[v]).run P w = .ok (.tuple #[]) w') (h : wpList P ops Q rest (a.put o.dst (.tuple #[])) w') : wpList P ops Q (o :: rest) a w := by
  refine wpList_plain hgd fun K hK => ?_
  unfold Oper.wp execOp
  simp only [ho, resolve, invoke, builtin, Sem.run_bind, Sem.run_pure, Result.andThen_ok, List.map_toArray, List.map_cons, List.map_nil, hx, hrun]
  exact hK _ _ h
end
end Go.CH
namespace Go.Proofs.Ytapabbpdfplpoaa
open Go.RowKit Go.CH Go.CH.Esc
open Go.ChangeMaps (setBlock)

theorem msgOk : SliceOk Try.prog 105 124 (.agg #[.slice none 0 0, .int .i64 0, .int .i64 0, .bool false]) 4 48 := ⟨Try.underlying105, by kernel_rfl, rfl, by decide⟩
theorem zeroM : ∀ w, (zeroValue 124).run Try.prog w = .ok (.agg #[.slice none 0 0, .int .i64 0, .int .i64 0, .bool false]) w := fun w => by kernel_rfl
set_option maxRecDepth 100000 in
set_option maxHeartbeats 1600000 in
theorem del_any {w : World} {F : Nat → Prop} {g n c : Nat} {xs : List Value} (h : RowO 124 4 (.slice (some ⟨g, 0, none⟩) (n + 1) c) (n + 1) xs w F) (h1 : ∀ u ∈ xs, u.oneCell' = true) (hn : n ≤ 100) :
    Calls Try.prog 102 #[.slice (some ⟨g, 0, none⟩) (n + 1) c, .int .i64 0, .int .i64 1] w
      (fun e w' => e = .returned (.slice (some ⟨g, 0, none⟩) n c) ∧ Post w F (RowO 124 4 (.slice (some ⟨g, 0, none⟩) n c) n (xs.drop 4)) w') := by
  have hc := (row_cap h.1).1
  have hci : (0 : Int) ≤ (n : Int) + 1 ∧ (n : Int) + 1 ≤ (c : Int) := by omega
  have hcj : (1 : Int) ≤ (n : Int) + 1 := by omega
  have R1 := hide ((Run.start h).drew row_ok)
  have hsrc : Src w.drew (cutA (some ⟨g, 0, none⟩) c 1 4) n 4 (xs.drop 4) := by
    obtain ⟨F', hF', -⟩ := R1.out.all row_ok
    exact Src.cut (k := 1) (c := c) (Src.of_own hF'.1 h1) (by omega) hc
  obtain ⟨ad, had⟩ : ∃ ad, cutA (some ⟨g, 0, none⟩) c 1 4 = some ad := by unfold cutA; split <;> exact ⟨_, rfl⟩
  rw [had] at hsrc
  have HSRC := hide hsrc
  have HC := hide hc
  have hA : (if c = 1 then some (⟨g, 0, none⟩ : Addr) else some ⟨g, 4, none⟩) = some ad := by rw [← had, cutA]; split <;> rfl
  clear hsrc hc had h h1
  go_enter Try.func102, Try.ntmps102
  go_wp2_with fail
  refine wp_region_lew [6] [0, 0, 0, 0, 0, 0, 1, 1] (fun _ => True) (fun _ => True) (fun _ => True) (fun _ => True) (fun _ h => h) (fun _ h => h) (fun _ h => h) (by kernel_rfl) (by kernel_rfl) (by kernel_rfl) (by kernel_rfl) trivial ?_
  (repeat (first | (refine lew_skip (by rfl) (by rfl) ?_; try simp only [Act.put, List.setIfInBounds_toArray, List.set_cons_zero, List.set_cons_succ]) | (refine lew_read0 (v := ?_) (by rfl) (by rfl) ?_ ?_; rotate_left; (focus (intro w' hS'; go_simp; (try with_reducible rfl); done)); try simp only [Act.put, List.setIfInBounds_toArray, List.set_cons_zero, List.set_cons_succ]) | (refine lew_read1 (v := ?_) (by rfl) (by rfl) ?_ ?_; rotate_left; (focus (intro w' hS'; go_simp; (try with_reducible rfl); done)); try simp only [Act.put, List.setIfInBounds_toArray, List.set_cons_zero, List.set_cons_succ]) | (refine lew_read2 (v := ?_) (by rfl) (by rfl) ?_ ?_; rotate_left; (focus (intro w' hS'; go_simp; (try with_reducible rfl); done)); try simp only [Act.put, List.setIfInBounds_toArray, List.set_cons_zero, List.set_cons_succ]) | (refine lew_read3 (v := ?_) (by rfl) (by rfl) ?_ ?_; rotate_left; (focus (intro w' hS'; go_simp; (try with_reducible rfl); done)); try simp only [Act.put, List.setIfInBounds_toArray, List.set_cons_zero, List.set_cons_succ]) | (refine lew_read4 (v := ?_) (by rfl) (by rfl) ?_ ?_; rotate_left; (focus (intro w' hS'; go_simp; (try with_reducible rfl); done)); try simp only [Act.put, List.setIfInBounds_toArray, List.set_cons_zero, List.set_cons_succ])))
  refine lew_chain1 rfl (by rfl) (fun K hK => ?_)
  obtain ⟨F1, hR1, hbk1⟩ := R1.out.all row_ok
  have hR1' := row_shrink hR1 (Nat.zero_le (n + 1))
  refine wp_app_room (.tmp 22) (.tmp 25) rfl msgOk _ 0 (g := g) (c := c) (n := 0) (xs := []) rfl hR1'.1 (ad := ad) (m := n) (d := c - 1) (news := xs.drop 4) (by first | rfl | (rw [← hA]; rfl)) HSRC.out (by have := HC.out; omega) (by omega) (by omega) (Nat.zero_le _) ?_
  intro w2 ho2 hg2
  have S2 := hbk1 _ _ (row_app hR1' ho2 hg2 (.inl rfl))
  rw [Nat.zero_add, List.nil_append] at S2
  obtain ⟨F2, hR2, hbk2⟩ := S2.all row_ok
  have hclr := run_clear_tail msgOk zeroM (by intro u hu; simp [Value.cells] at hu; rcases hu with rfl | rfl | rfl | rfl <;> rfl) 0 hR2 (m := 1) (d := c - n) HC.out (by omega)
  obtain ⟨w3, hrun3, hP3⟩ := hclr
  have HFIN := hide ((hbk2 _ _ hP3).post row_ok)
  have hcn : ¬ c = n := by have := HC.out; omega
  have hb0 : (0 : Int) ≤ (n : Int) ∧ (n : Int) ≤ (n : Int) + 1 := by omega
  rw [Nat.zero_add]
  refine hK.out _ _ trivial ?_
  clear hK R1 hR1 hbk1 hR1' ho2 hg2 S2 hR2 hbk2 hP3 HSRC
  (repeat (first | (refine lew_skip (by rfl) (by rfl) ?_; try simp only [Act.put, List.setIfInBounds_toArray, List.set_cons_zero, List.set_cons_succ]) | (refine lew_read0 (v := ?_) (by rfl) (by rfl) ?_ ?_; rotate_left; (focus (intro w' hS'; go_simp; (try with_reducible rfl); done)); try simp only [Act.put, List.setIfInBounds_toArray, List.set_cons_zero, List.set_cons_succ]) | (refine lew_read1 (v := ?_) (by rfl) (by rfl) ?_ ?_; rotate_left; (focus (intro w' hS'; go_simp; (try with_reducible rfl); done)); try simp only [Act.put, List.setIfInBounds_toArray, List.set_cons_zero, List.set_cons_succ]) | (refine lew_read2 (v := ?_) (by rfl) (by rfl) ?_ ?_; rotate_left; (focus (intro w' hS'; go_simp; (try with_reducible rfl); done)); try simp only [Act.put, List.setIfInBounds_toArray, List.set_cons_zero, List.set_cons_succ]) | (refine lew_read3 (v := ?_) (by rfl) (by rfl) ?_ ?_; rotate_left; (focus (intro w' hS'; go_simp; (try with_reducible rfl); done)); try simp only [Act.put, List.setIfInBounds_toArray, List.set_cons_zero, List.set_cons_succ]) | (refine lew_read4 (v := ?_) (by rfl) (by rfl) ?_ ?_; rotate_left; (focus (intro w' hS'; go_simp; (try with_reducible rfl); done)); try simp only [Act.put, List.setIfInBounds_toArray, List.set_cons_zero, List.set_cons_succ])))
  refine lew_nil ?_
  go_wp2
  go_ret
  exact ⟨rfl, HFIN.out⟩
end Go.Proofs.Ytapabbpdfplpoaa
namespace Go.Proofs.Ytapabbpdfplpoaa
open Go.RowKit Go.CH Go.CH.Esc
open Go.ChangeMaps (setBlock)

/-- A line's cells. -/
def lcl (s : Value) (last rc : Int) (B : Option Addr) (n d : Nat) : Array Value := #[s, .int .i64 last, .int .i64 rc, .slice B n d]
theorem zcl_one (z : ZMsg) : ∀ u ∈ zcl z, u.oneCell' = true := by
  intro u hu
  simp [zcl] at hu
  rcases hu with rfl | rfl | rfl | rfl <;> rfl
theorem src_new (w : World) (xs : List Value) (e : TypeId) (h1 : ∀ u ∈ xs, u.oneCell' = true) : Src (w.alloc (.cells xs.toArray e)) (some ⟨w.heap.size, 0, none⟩) 1 xs.length xs := by
  refine ⟨by omega, h1, fun _ => ⟨_, rfl, fun j u hu => ?_⟩⟩
  obtain ⟨F', hC, -⟩ := cell_new w xs.toArray e
  rw [Addr.add_zero_]
  exact cell_at hC (by simpa using hu)
set_option maxRecDepth 100000 in
set_option maxHeartbeats 1600000 in
theorem put_any {w : World} {F : Nat → Prop} {gp n d : Nat} {s : Value} {last rc : Int} {B : Option Addr} {zs : List ZMsg} {z : ZMsg} (hzn : zs.length = n) (hn : n ≤ 100)
    (h : star (CellO gp (lcl s last rc B n d) 109) (star (ARow zcl zow 124 4 (.slice B n d) zs) (zow z)) w F) :
    Calls Try.prog 70 #[.pointer (some ⟨gp, 3, none⟩), .agg (zcl z).toArray] w
      (fun e w' => e = .returned (.tuple #[]) ∧ ∃ B' d', Post w F (star (CellO gp (lcl s last rc B' (n + 1) d') 109) (ARow zcl zow 124 4 (.slice B' (n + 1) d') (zs ++ [z]))) w') := by
  have r0 : Run F w (star (CellO gp (lcl s last rc B n d) 109) (star (RowO 124 4 (.slice B n d) n (zs.flatMap zcl)) (star (zow z) (bigStar (zs.map zow))))) w := by
    refine (Run.start h).imp fun w F h => star_mono h (fun _ h => h) (fun F h => ?_)
    have h2 := star_assoc h
    rw [hzn] at h2
    exact star_mono h2 (fun _ h => h) (fun _ h => star_comm h)
  have ok0 : (star (RowO 124 4 (.slice B n d) n (zs.flatMap zcl)) (star (zow z) (bigStar (zs.map zow)))).Ok := star_ok row_ok (star_ok (zow_ok z) (big_ok (fun A hA => by obtain ⟨z, _, rfl⟩ := List.mem_map.1 hA; exact zow_ok z)))
  have OK0 := hide ok0
  have hone := hide (zcl_one z)
  have R1 := hide (show Run F w _ (w.alloc (.cells (zcl z).toArray 124)).drew from (r0.below (star_ok cell_ok ok0) ((Below.refl _ _).alloc (Nat.le_refl _) _)).drew (star_ok cell_ok ok0))
  obtain ⟨F1, hC1⟩ := R1.out.fst
  have c3 : (w.alloc (.cells (zcl z).toArray 124)).drew.cell? ⟨gp, 3, none⟩ = some (.slice B n d) := cell_at hC1 rfl
  obtain ⟨F2, hC2, -⟩ := cell_new w (zcl z).toArray 124
  have hC3 := cell_ok.keep (w' := (w.alloc (.cells (zcl z).toArray 124)).drew) hC2 (fun _ _ => rfl)
  have b0 : (w.alloc (.cells (zcl z).toArray 124)).drew.cell? ⟨w.heap.size, 0, none⟩ = some (.slice z.A z.ts.length z.c) := cell_at hC3 rfl
  have b1 : (w.alloc (.cells (zcl z).toArray 124)).drew.cell? ⟨w.heap.size, 1, none⟩ = some (.int .i64 z.m.up) := cell_at hC3 rfl
  have b2 : (w.alloc (.cells (zcl z).toArray 124)).drew.cell? ⟨w.heap.size, 2, none⟩ = some (.int .i64 z.m.rc) := cell_at hC3 rfl
  have b3 : (w.alloc (.cells (zcl z).toArray 124)).drew.cell? ⟨w.heap.size, 3, none⟩ = some (.bool z.m.rev) := cell_at hC3 rfl
  clear h r0 ok0 hC1 hC2 hC3
  go_enter Try.func70, Try.ntmps70
  go_wp2_with fail
  generalize w.alloc (.cells (zcl z).toArray 124) = W at *
  refine wp_region_lew [6, 7, 10] [2, 1, 1, 1, 1, 0, 1, 2, 2, 2, 3]
    (fun w' => w'.cell? ⟨gp, 3, none⟩ = some (.slice B n d) ∧ w'.cell? ⟨w.heap.size, 0, none⟩ = some (.slice z.A z.ts.length z.c) ∧ w'.cell? ⟨w.heap.size, 1, none⟩ = some (.int .i64 z.m.up) ∧ w'.cell? ⟨w.heap.size, 2, none⟩ = some (.int .i64 z.m.rc) ∧ w'.cell? ⟨w.heap.size, 3, none⟩ = some (.bool z.m.rev))
    (fun w' => w'.cell? ⟨gp, 3, none⟩ = some (.slice B n d)) (fun _ => True) (fun _ => True) (fun _ h => h.1) (fun _ _ => trivial) (fun _ h => h) (by kernel_rfl) (by kernel_rfl) (by kernel_rfl) (by kernel_rfl) (by exact ⟨c3, b0, b1, b2, b3⟩) ?_
  (repeat (first | (refine lew_skip (by rfl) (by rfl) ?_; try simp only [Act.put, List.setIfInBounds_toArray, List.set_cons_zero, List.set_cons_succ]) | (refine lew_read0 (v := ?_) (by rfl) (by rfl) ?_ ?_; rotate_left; (focus (intro w' hS'; go_simp; (try with_reducible rfl); done)); try simp only [Act.put, List.setIfInBounds_toArray, List.set_cons_zero, List.set_cons_succ]) | (refine lew_read1 (v := ?_) (by rfl) (by rfl) ?_ ?_; rotate_left; (focus (intro w' hS'; go_simp; (try with_reducible rfl); done)); try simp only [Act.put, List.setIfInBounds_toArray, List.set_cons_zero, List.set_cons_succ]) | (refine lew_read2 (v := ?_) (by rfl) (by rfl) ?_ ?_; rotate_left; (focus (intro w' hS'; go_simp; (try with_reducible rfl); done)); try simp only [Act.put, List.setIfInBounds_toArray, List.set_cons_zero, List.set_cons_succ]) | (refine lew_read3 (v := ?_) (by rfl) (by rfl) ?_ ?_; rotate_left; (focus (intro w' hS'; go_simp; (try with_reducible rfl); done)); try simp only [Act.put, List.setIfInBounds_toArray, List.set_cons_zero, List.set_cons_succ]) | (refine lew_read4 (v := ?_) (by rfl) (by rfl) ?_ ?_; rotate_left; (focus (intro w' hS'; go_simp; (try with_reducible rfl); done)); try simp only [Act.put, List.setIfInBounds_toArray, List.set_cons_zero, List.set_cons_succ])))
  refine lew_chain1 rfl (by rfl) (fun K hK => ?_)
  go_wp2_with fail
  have R2 := hide (show Run F w _ (W.alloc (.cells #[.slice z.A z.ts.length z.c, .int .i64 z.m.up, .int .i64 z.m.rc, .bool z.m.rev] 124)).drew from R1.out.below (star_ok cell_ok OK0.out) ((Below.refl _ _).alloc (Nat.le_refl _) _))
  have HSR := hide (show Src (W.alloc (.cells #[.slice z.A z.ts.length z.c, .int .i64 z.m.up, .int .i64 z.m.rc, .bool z.m.rev] 124)).drew (some ⟨W.heap.size, 0, none⟩) 1 4 (zcl z) from src_new W.drew (zcl z) 124 hone.out)
  generalize (W.alloc (.cells #[.slice z.A z.ts.length z.c, .int .i64 z.m.up, .int .i64 z.m.rc, .bool z.m.rev] 124)).drew = W2 at *
  obtain ⟨F3, hC3⟩ := R2.out.fst
  refine hK.out _ _ (cell_at hC3 rfl) ?_
  clear hK hC3 R1 c3 b0 b1 b2 b3
  (repeat (first | (refine lew_skip (by rfl) (by rfl) ?_; try simp only [Act.put, List.setIfInBounds_toArray, List.set_cons_zero, List.set_cons_succ]) | (refine lew_read0 (v := ?_) (by rfl) (by rfl) ?_ ?_; rotate_left; (focus (intro w' hS'; go_simp; (try with_reducible rfl); done)); try simp only [Act.put, List.setIfInBounds_toArray, List.set_cons_zero, List.set_cons_succ]) | (refine lew_read1 (v := ?_) (by rfl) (by rfl) ?_ ?_; rotate_left; (focus (intro w' hS'; go_simp; (try with_reducible rfl); done)); try simp only [Act.put, List.setIfInBounds_toArray, List.set_cons_zero, List.set_cons_succ]) | (refine lew_read2 (v := ?_) (by rfl) (by rfl) ?_ ?_; rotate_left; (focus (intro w' hS'; go_simp; (try with_reducible rfl); done)); try simp only [Act.put, List.setIfInBounds_toArray, List.set_cons_zero, List.set_cons_succ]) | (refine lew_read3 (v := ?_) (by rfl) (by rfl) ?_ ?_; rotate_left; (focus (intro w' hS'; go_simp; (try with_reducible rfl); done)); try simp only [Act.put, List.setIfInBounds_toArray, List.set_cons_zero, List.set_cons_succ]) | (refine lew_read4 (v := ?_) (by rfl) (by rfl) ?_ ?_; rotate_left; (focus (intro w' hS'; go_simp; (try with_reducible rfl); done)); try simp only [Act.put, List.setIfInBounds_toArray, List.set_cons_zero, List.set_cons_succ])))
  refine lew_chain2 rfl (by rfl) (fun K hK => ?_)
  obtain ⟨F4, hR4, -, hbk4⟩ := R2.out.rot.take row_ok (star_ok cell_ok (star_ok (zow_ok z) (big_ok (fun A hA => by obtain ⟨z, _, rfl⟩ := List.mem_map.1 hA; exact zow_ok z))))
  refine wp_app (.tmp 8) (.tmp 10) rfl msgOk _ 0 (v := .slice B n d) (n := n) rfl hR4.1 (A := some ⟨W.heap.size, 0, none⟩) (m := 1) (c := 1) (news := zcl z) rfl HSR.out (by omega) (by omega) (Nat.zero_le _) ?_
  intro v4 w4 ho4 hg4 hv4
  have S4 := hbk4 _ _ (row_app hR4 ho4 hg4 hv4)
  obtain ⟨B', d', rfl⟩ := own_form ho4
  obtain ⟨F5, hC5, -, hbk5⟩ := S4.rot.take cell_ok (star_ok row_ok (star_ok (zow_ok z) (big_ok (fun A hA => by obtain ⟨z, _, rfl⟩ := List.mem_map.1 hA; exact zow_ok z))))
  have d5 : w4.cell? ⟨gp, 3, none⟩ = some (.slice B n d) := cell_at hC5 rfl
  have z5 := cell_free hC5 3
  have S6 : Run F w (star (CellO gp (lcl s last rc B' (n + 1) d') 109) (ARow zcl zow 124 4 (.slice B' (n + 1) d') (zs ++ [z]))) (w4.setCell ⟨gp, 3, none⟩ (.slice B' (n + 1) d')) := by
    refine (hbk5 _ _ (cell_set hC5 3 (.slice B' (n + 1) d'))).imp fun w F h => star_mono h (fun _ h => h) (fun F h => arow_snoc ?_)
    rw [hzn]; exact h
  have HFIN := hide (S6.post (star_ok cell_ok (arow_ok zow_ok)))
  refine hK.out _ _ trivial ?_
  clear hK hR4 hbk4 ho4 hg4 hv4 S4 hC5 hbk5 S6
  (repeat (first | (refine lew_skip (by rfl) (by rfl) ?_; try simp only [Act.put, List.setIfInBounds_toArray, List.set_cons_zero, List.set_cons_succ]) | (refine lew_read0 (v := ?_) (by rfl) (by rfl) ?_ ?_; rotate_left; (focus (intro w' hS'; go_simp; (try with_reducible rfl); done)); try simp only [Act.put, List.setIfInBounds_toArray, List.set_cons_zero, List.set_cons_succ]) | (refine lew_read1 (v := ?_) (by rfl) (by rfl) ?_ ?_; rotate_left; (focus (intro w' hS'; go_simp; (try with_reducible rfl); done)); try simp only [Act.put, List.setIfInBounds_toArray, List.set_cons_zero, List.set_cons_succ]) | (refine lew_read2 (v := ?_) (by rfl) (by rfl) ?_ ?_; rotate_left; (focus (intro w' hS'; go_simp; (try with_reducible rfl); done)); try simp only [Act.put, List.setIfInBounds_toArray, List.set_cons_zero, List.set_cons_succ]) | (refine lew_read3 (v := ?_) (by rfl) (by rfl) ?_ ?_; rotate_left; (focus (intro w' hS'; go_simp; (try with_reducible rfl); done)); try simp only [Act.put, List.setIfInBounds_toArray, List.set_cons_zero, List.set_cons_succ]) | (refine lew_read4 (v := ?_) (by rfl) (by rfl) ?_ ?_; rotate_left; (focus (intro w' hS'; go_simp; (try with_reducible rfl); done)); try simp only [Act.put, List.setIfInBounds_toArray, List.set_cons_zero, List.set_cons_succ])))
  refine lew_chain3 rfl (by rfl) (fun K hK => ?_)
  go_wp2_with fail
  refine hK.out _ _ trivial (lew_nil ?_)
  go_wp2
  refine bodyPost_end (results_none rfl _ _ _) rfl ?_
  exact ⟨rfl, B', d', HFIN.out⟩
end Go.Proofs.Ytapabbpdfplpoaa
namespace Go.Proofs.Ytapabbpdfplpoaa
open Go.RowKit Go.CH Go.CH.Esc
open Go.ChangeMaps (setBlock)

theorem results_row_tmp {fn : Func} {p u : Tmp} {ty : TypeId} (h : fn.results = #[.cell p ty, .tmp u]) {P : Program} (tmps : Array Value) (w : World) (g : Nat) (t : TypeId) (cs : Array Value) (fr : Nat × Nat) {d : Array Field}
    (hp : tmps.getD p undef = .pointer (some ⟨g, 0, none⟩)) (hg : w.heap[g]? = some (.cells cs t fr))
    (hu : P.underlying ty = some (.struct d)) (hi : (P.info? ty).map (·.size) = some cs.size) :
    (results fn tmps).run P w = .ok (.tuple #[.agg cs, tmps.getD u undef]) w := by
  rw [results_cell_tmp h, hp]
  simp [asAddr, run_loadVar_row w g t ty cs fr (.struct d) hg hu rfl hi]
def zeroMsg : Value := .agg #[.slice none 0 0, .int .i64 0, .int .i64 0, .bool false]
set_option maxHeartbeats 1600000 in
theorem take_none {w : World} {gp d : Nat} {B : Option Addr} (h : w.cell? ⟨gp, 3, none⟩ = some (.slice B 0 d)) :
    Calls Try.prog 69 #[.pointer (some ⟨gp, 3, none⟩)] w (BelowRet w (.tuple #[zeroMsg, .bool false])) := by
  have hlt : gp < w.heap.size := World.block_lt_of_cell? _ _ h
  go_enter Try.func69, Try.ntmps69
  go_wp2_with fail
  refine bodyPost_ret_by (results_row_tmp rfl _ _ w.heap.size 124 #[.slice none 0 0, .int .i64 0, .int .i64 0, .bool false] (0, 0) rfl ?_ Try.underlying124 (by kernel_rfl)) rfl ?_
  · rw [heap_old (by simp)]; exact heap_alloc_new w _
  · exact ⟨rfl, ((Below.refl _ _).alloc (Nat.le_refl _) _).alloc (by simp) _⟩
set_option maxRecDepth 100000 in
set_option maxHeartbeats 1600000 in
theorem take_some {w : World} {F : Nat → Prop} {gp n d : Nat} {s : Value} {last rc : Int} {B : Option Addr} {zs : List ZMsg} {z : ZMsg} (hzn : zs.length = n) (hn : n ≤ 100)
    (h : star (CellO gp (lcl s last rc B (n + 1) d) 109) (ARow zcl zow 124 4 (.slice B (n + 1) d) (z :: zs)) w F) :
    Calls Try.prog 69 #[.pointer (some ⟨gp, 3, none⟩)] w
      (fun e w' => e = .returned (.tuple #[.agg (zcl z).toArray, .bool true]) ∧ Post w F (star (CellO gp (lcl s last rc B n d) 109) (star (ARow zcl zow 124 4 (.slice B n d) zs) (zow z))) w') := by
  have R0 := hide (Run.start h)
  obtain ⟨F1, hC1⟩ := R0.out.fst
  obtain ⟨F2, hA2⟩ := R0.out.swap.fst
  have c3 : w.cell? ⟨gp, 3, none⟩ = some (.slice B (n + 1) d) := cell_at hC1 rfl
  have hlt : gp < w.heap.size := World.block_lt_of_cell? _ _ c3
  obtain ⟨Fr, Fb, hr, -⟩ := hA2
  rw [List.length_cons, hzn] at hr
  obtain ⟨g, rfl⟩ := row_addr hr (Nat.succ_pos n)
  have a0 : w.cell? ⟨g, 0, none⟩ = some (.slice z.A z.ts.length z.c) := row_cell hr rfl
  have a1 : w.cell? ⟨g, 1, none⟩ = some (.int .i64 z.m.up) := row_cell hr rfl
  have a2 : w.cell? ⟨g, 2, none⟩ = some (.int .i64 z.m.rc) := row_cell hr rfl
  have a3 : w.cell? ⟨g, 3, none⟩ = some (.bool z.m.rev) := row_cell hr rfl
  have hlg : g < w.heap.size := World.block_lt_of_cell? _ _ a0
  have X0 : Run F w (star (CellO gp (lcl s last rc (some ⟨g, 0, none⟩) (n + 1) d) 109) (star (RowO 124 4 (.slice (some ⟨g, 0, none⟩) (n + 1) d) (n + 1) (zcl z ++ zs.flatMap zcl)) (star (zow z) (bigStar (zs.map zow))))) w := by
    refine (Run.start h).imp fun w F h => star_mono h (fun _ h => h) (fun F h => ?_)
    unfold ARow at h
    rw [List.length_cons, hzn] at h
    exact h
  have okT : (star (zow z) (bigStar (zs.map zow))).Ok := star_ok (zow_ok z) (big_ok (fun A hA => by obtain ⟨z, _, rfl⟩ := List.mem_map.1 hA; exact zow_ok z))
  have X1 := X0.fresh (star_ok cell_ok (star_ok row_ok okT)) (cell_new w #[.slice none 0 0, .int .i64 0, .int .i64 0, .bool false] 124)
  have X2 := X1.fresh (star_ok cell_ok (star_ok cell_ok (star_ok row_ok okT))) (cell_new _ #[.slice z.A z.ts.length z.c, .int .i64 z.m.up, .int .i64 z.m.rc, .bool z.m.rev] 124)
  rw [show (w.alloc (.cells #[.slice none 0 0, .int .i64 0, .int .i64 0, .bool false] 124)).heap.size = w.heap.size + 1 by simp] at X2
  have X3 := X2.imp fun w F h => star_rot (star_mono h (fun _ h => h) (fun F h => star_rot (star_mono h (fun _ h => h) (fun F h => star_rot h))))
  obtain ⟨F3, hR3, -, hbk3⟩ := X3.take row_ok (star_ok cell_ok (star_ok cell_ok (star_ok cell_ok okT)))
  have KD := hide (del_any hR3 (by
    intro u hu
    rcases List.mem_append.1 hu with hu | hu
    · exact zcl_one z u hu
    · obtain ⟨z', _, hu⟩ := List.mem_flatMap.1 hu
      exact zcl_one z' u hu) hn)
  have HBK := hide hbk3
  have OKT := hide okT
  clear h hC1 hr X0 X1 X2 X3 hR3 hbk3 okT R0
  go_enter Try.func69, Try.ntmps69
  go_wp2_with fail
  refine KD.out.mono ?_
  rintro e w3 ⟨rfl, hP3⟩
  have S3 := HBK.out _ _ hP3
  rw [show (zcl z ++ zs.flatMap zcl).drop 4 = zs.flatMap zcl from rfl] at S3
  have OKR : (star (RowO 124 4 (.slice (some ⟨g, 0, none⟩) n d) n (zs.flatMap zcl)) (star (CellO (w.heap.size + 1) #[.slice z.A z.ts.length z.c, .int .i64 z.m.up, .int .i64 z.m.rc, .bool z.m.rev] 124) (star (CellO w.heap.size #[.slice none 0 0, .int .i64 0, .int .i64 0, .bool false] 124) (star (zow z) (bigStar (zs.map zow)))))).Ok :=
    star_ok row_ok (star_ok cell_ok (star_ok cell_ok OKT.out))
  obtain ⟨F4, hC4, -, bk4⟩ := (S3.imp fun w F h => star_rot (star_mono h (fun _ h => h) (fun F h => star_rot (star_mono h (fun _ h => h) (fun F h => star_rot h))))).take cell_ok OKR
  have q3 := cell_at hC4 (i := 3) rfl
  have y3 := cell_free hC4 3
  have S5 := bk4 _ _ (cell_set hC4 3 (.slice (some ⟨g, 0, none⟩) n d))
  obtain ⟨F5, hM5⟩ := S5.rot3.fst
  have m0 := cell_at hM5 (i := 0) rfl
  have m1 := cell_at hM5 (i := 1) rfl
  have m2 := cell_at hM5 (i := 2) rfl
  have m3 := cell_at hM5 (i := 3) rfl
  have S6 := S5.imp fun w F h => star_rot (star_mono h (fun _ h => h) (fun F h => star_rot (star_mono h (fun _ h => h) (fun F h => star_rot h))))
  have OKC : (star (CellO gp (lcl s last rc (some ⟨g, 0, none⟩) n d) 109) (star (RowO 124 4 (.slice (some ⟨g, 0, none⟩) n d) n (zs.flatMap zcl)) (star (CellO (w.heap.size + 1) #[.slice z.A z.ts.length z.c, .int .i64 z.m.up, .int .i64 z.m.rc, .bool z.m.rev] 124) (star (zow z) (bigStar (zs.map zow)))))).Ok :=
    star_ok cell_ok (star_ok row_ok (star_ok cell_ok OKT.out))
  obtain ⟨G0, h0, -, k0⟩ := S6.take cell_ok OKC
  have r0 := cell_at h0 (i := 0) rfl
  have r1 := cell_at h0 (i := 1) rfl
  have r2 := cell_at h0 (i := 2) rfl
  have r3 := cell_at h0 (i := 3) rfl
  have f0 : w3.frozen? ⟨w.heap.size, 0, none⟩ = false := by simpa using cell_free h0 0
  have f1 : w3.frozen? ⟨w.heap.size, 1, none⟩ = false := by simpa using cell_free h0 1
  have f2 : w3.frozen? ⟨w.heap.size, 2, none⟩ = false := by simpa using cell_free h0 2
  have f3 : w3.frozen? ⟨w.heap.size, 3, none⟩ = false := by simpa using cell_free h0 3
  have s0 := k0 _ _ (cell_set h0 0 (.slice z.A z.ts.length z.c))
  obtain ⟨G1, h1, -, k1⟩ := s0.take cell_ok OKC
  have s1 := k1 _ _ (cell_set h1 1 (.int .i64 z.m.up))
  obtain ⟨G2, h2, -, k2⟩ := s1.take cell_ok OKC
  have s2 := k2 _ _ (cell_set h2 2 (.int .i64 z.m.rc))
  obtain ⟨G3, h3, -, k3⟩ := s2.take cell_ok OKC
  have s3 := k3 _ _ (cell_set h3 3 (.bool z.m.rev))
  obtain ⟨G4, h4⟩ := s3.fst
  have HH := hide h4.1
  have S9 : Run F w (star (CellO gp (lcl s last rc (some ⟨g, 0, none⟩) n d) 109) (star (ARow zcl zow 124 4 (.slice (some ⟨g, 0, none⟩) n d) zs) (zow z))) _ := s3.drop.rot3.drop.imp fun w F h => star_mono h (fun _ h => h) (fun F h => star_assoc' (by
    rw [hzn]
    exact star_mono h (fun _ h => h) (fun _ h => star_comm h)))
  have HFIN := hide (S9.post (star_ok cell_ok (star_ok (arow_ok zow_ok) (zow_ok z))))
  clear hP3 S3 OKR hC4 bk4 S5 hM5 S6 KD HBK h0 h1 h2 h3 h4 k0 k1 k2 k3 s0 s1 s2 s3 S9 OKC
  go_wp2_with fail
  exact bodyPost_ret_by (results_row_tmp rfl _ _ w.heap.size 124 #[.slice z.A z.ts.length z.c, .int .i64 z.m.up, .int .i64 z.m.rc, .bool z.m.rev] (0, 0) rfl HH.out Try.underlying124 (by kernel_rfl)) rfl ⟨rfl, HFIN.out⟩
end Go.Proofs.Ytapabbpdfplpoaa
namespace Go.Proofs.Ytapabbpdfplpoaa
open Go.RowKit Go.CH Go.CH.Esc
open Go.ChangeMaps (setBlock)

def CloneRet (w : World) (n : Nat) (l : List Int) (e : Ending) (w' : World) : Prop := ∃ A' c', e = .returned (.slice A' n c') ∧ Post w (fun _ => False) (RowO 3 1 (.slice A' n c') n (ints l)) w'
set_option maxHeartbeats 1600000 in
set_option maxRecDepth 100000 in
theorem clone_any {w : World} {A : Option Addr} {n c : Nat} {l : List Int} (h : w.ownsRow 0 3 1 (.slice A n c) n (ints l)) (hn : n ≤ 1000) :
    Calls Try.prog 71 #[.slice A n c] w (CloneRet w n l) := by
  have hs := hide (Src.of_own h (ints_one l))
  have hcap := row_cap h
  have hl : (ints l).length = n := by have := h.1; simpa using this
  cases A with
  | none =>
    have hc := hcap.2 rfl
    subst hc
    obtain rfl : n = 0 := by omega
    have h0 : ints l = [] := List.eq_nil_of_length_eq_zero hl
    have H0 := hide h0
    have he := fun w => Go.Lib.run_eql_slice_nil (P := Try.prog) w 74 3 none 0 0 0 0 Try.underlying74
    clear h hcap hl hs h0
    go_enter Try.func71, Try.ntmps71
    go_wp2_with fail
    go_ret
    refine ⟨none, 0, rfl, fun _ => False, ?_, Mod.refl _ _, fun i hi => hi.elim⟩
    rw [H0.out]
    exact row_nil _ _ _
  | some a =>
    have he := fun w => Go.Lib.run_eql_slice_nil (P := Try.prog) w 74 3 (some a) n c 0 0 Try.underlying74
    have R0 := hide ((Run.begin w).fresh emp_ok (row_made w 3 1))
    have hs' := hide (Src.of_own (ownsRow_of_block (w' := w.alloc (.cells #[] 3)) h (fun g hg => heap_old (ownsRow_lt h hg))) (ints_one l))
    clear h hcap hl hs
    go_enter Try.func71, Try.ntmps71
    go_wp2_with (at_builtin; refine held ?_)
    obtain ⟨F1, hR1, -, bk1⟩ := R0.out.take row_ok emp_ok
    refine Held.mk (wpList_app rfl (.tmp 5) (.tmp 6) rfl intsOk _ 0 (v := .slice (some ⟨w.heap.size, 0, none⟩) 0 0) (n := 0) (xs := []) rfl hR1.1 (A := some a) (m := n) (c := c) (news := ints l) rfl hs'.out (by omega) (by omega) (Nat.zero_le _) ?_)
    intro v4 w4 ho4 hg4 hv4
    have S4 := bk1 _ _ (row_app hR1 ho4 hg4 hv4)
    rw [Nat.zero_add, List.nil_append] at S4
    obtain ⟨A', c', rfl⟩ := own_form ho4
    rw [Nat.zero_add] at *
    have HFIN := hide (S4.swap.drop.post row_ok)
    clear hR1 bk1 ho4 hg4 hv4 S4
    go_wp2
    go_ret
    exact ⟨A', c', rfl, HFIN.out⟩
end Go.Proofs.Ytapabbpdfplpoaa
