/-
  Escrow: change, Spend, Return, Revoke.
-/
import Derived.Test.YtapabbpdfplpoaaE2
set_option linter.unusedSimpArgs false
set_option linter.unusedVariables false
namespace Go.Proofs.Ytapabbpdfplpoaa
open Go.RowKit Go.CH Go.CH.Esc
open Go.ChangeMaps (setBlock)

/-- What a method of an escrow leaves. -/
def EPost (w : World) (F : Nat → Prop) (v : Value) (g : GM) (p : Nat) (e : Ending) (w' : World) : Prop := e = .returned v ∧ Post w F (EscO g p) w'
theorem EPost.quiet {w : World} {F : Nat → Prop} {g : GM} {p : Nat} (h : EscO g p w F) {v : Value} {e : Ending} {w' : World} (hq : Quiet w v e w') : EPost w F v g p e w' := by
  obtain ⟨h1, rfl⟩ := hq
  exact ⟨h1, F, h, Mod.refl _ _, fun i hi => .inl hi⟩
set_option maxHeartbeats 400000 in
theorem change_no {w : World} {v : Value} {r : Int} (hv : Calls Try.prog 66 #[v, .int .i64 r] w (Quiet w (.pointer none))) (d : Int) (fv : Value) :
    Calls Try.prog 72 #[v, .int .i64 r, .int .i64 d, fv] w (Quiet w (.int .i64 1)) := by
  have H := hide hv; clear hv
  go_enter Try.func72, Try.ntmps72
  go_wp2_with fail
  refine H.out.mono ?_
  rintro e w' ⟨rfl, rfl⟩
  go_wp2
  go_ret
  exact ⟨rfl, rfl⟩
set_option maxHeartbeats 400000 in
theorem change_may {w : World} {v : Value} {r : Int} {b k fm : Nat} (hv : Calls Try.prog 66 #[v, .int .i64 r] w (Quiet w (.pointer (some ⟨b, k, none⟩)))) (d em : Int) (hem : em ≠ 0)
    (hcf : ∀ args W, (callFunc fm args).run Try.prog W = .ok (.enter fm args) W) (hm : Calls Try.prog fm #[.pointer (some ⟨b, k, none⟩)] w (Quiet w (.int .i64 em))) :
    Calls Try.prog 72 #[v, .int .i64 r, .int .i64 d, .func (.func fm) #[] #[]] w (Quiet w (.int .i64 em)) := by
  have H := hide hv; have M := hide hm
  have h1 : (em == 0) = false := by simpa using hem
  have h2 : (em != 0) = true := by simpa using hem
  clear hv hm hem
  go_enter Try.func72, Try.ntmps72
  go_wp2_with fail
  refine H.out.mono ?_
  rintro e w' ⟨rfl, rfl⟩
  go_wp2_with fail
  refine M.out.mono ?_
  rintro e w' ⟨rfl, rfl⟩
  go_wp2
  go_ret
  exact ⟨rfl, rfl⟩
set_option maxHeartbeats 800000 in
theorem change_quota {w : World} {v : Value} {r : Int} {b k fm : Nat} (hv : Calls Try.prog 66 #[v, .int .i64 r] w (Quiet w (.pointer (some ⟨b, k, none⟩)))) (d u s : Int)
    (hcf : ∀ args W, (callFunc fm args).run Try.prog W = .ok (.enter fm args) W) (hm : Calls Try.prog fm #[.pointer (some ⟨b, k, none⟩)] w (Quiet w (.int .i64 0)))
    (cu : w.cell? ⟨b, k, none⟩ = some (.int .i64 u)) (cs : w.cell? ⟨b, k + 1, none⟩ = some (.int .i64 s)) (hu : 0 ≤ u ∧ u ≤ 1000000000) (hs : 0 ≤ s ∧ s ≤ 1000000000) (hd : -9223372036854775807 ≤ d ∧ d ≤ 9223372036854775807)
    (hq : u + d < 0 ∨ s - d < 0) :
    Calls Try.prog 72 #[v, .int .i64 r, .int .i64 d, .func (.func fm) #[] #[]] w (Quiet w (.int .i64 19)) := by
  have H := hide hv; have M := hide hm
  clear hv hm
  by_cases h1 : u + d < 0
  · clear hq
    go_enter Try.func72, Try.ntmps72
    go_wp2_with fail
    refine H.out.mono ?_
    rintro e w' ⟨rfl, rfl⟩
    go_wp2_with fail
    refine M.out.mono ?_
    rintro e w' ⟨rfl, rfl⟩
    go_wp2
    go_ret
    exact ⟨rfl, rfl⟩
  · have h2 : s - d < 0 := by omega
    clear hq
    by_cases h3 : u + d ≤ 9223372036854775807
    · go_enter Try.func72, Try.ntmps72
      go_wp2_with fail
      refine H.out.mono ?_
      rintro e w' ⟨rfl, rfl⟩
      go_wp2_with fail
      refine M.out.mono ?_
      rintro e w' ⟨rfl, rfl⟩
      go_wp2
      go_ret
      exact ⟨rfl, rfl⟩
    · have hw : decide (wrap64 (u + d) < 0) = true := by unfold wrap64; simp only [decide_eq_true_eq]; omega
      clear h1 h2 h3
      go_enter Try.func72, Try.ntmps72
      go_wp2_with fail
      refine H.out.mono ?_
      rintro e w' ⟨rfl, rfl⟩
      go_wp2_with fail
      refine M.out.mono ?_
      rintro e w' ⟨rfl, rfl⟩
      go_wp2
      go_ret
      exact ⟨rfl, rfl⟩
/-- Units and spent are written. -/
theorem esc_two {F0 : Nat → Prop} {w0 W : World} {g : GM} {p : Nat} {s : EscP} (h : Run F0 w0 (EscS g p s) W) {r : Int} (hr : g.is r = true) {b : Nat} (hb : s.A = some ⟨b, 0, none⟩) (u v : Int) :
    (W.frozen? ⟨b, r.toNat * 3, none⟩ = false ∧ (W.setCell ⟨b, r.toNat * 3, none⟩ (.int .i64 u)).frozen? ⟨b, r.toNat * 3 + 1, none⟩ = false) ∧
    Run F0 w0 (EscS (g.setA r { g.at_ r with u := u, s := v }) p s) ((W.setCell ⟨b, r.toNat * 3, none⟩ (.int .i64 u)).setCell ⟨b, r.toNat * 3 + 1, none⟩ (.int .i64 v)) := by
  obtain ⟨h1, h2⟩ := esc_acc h hr hb 0 (by omega) (.int .i64 u) { g.at_ r with u := u } rfl
  have hr' : (g.setA r { g.at_ r with u := u }).is r = true := by rw [setA_is]; exact hr
  obtain ⟨h3, h4⟩ := esc_acc h1 hr' hb 1 (by omega) (.int .i64 v) { g.at_ r with u := u, s := v } (by rw [setA_at hr _ r hr, if_pos rfl]; rfl)
  rw [setA_twice] at h3
  exact ⟨⟨h2, h4⟩, h3⟩
set_option maxRecDepth 100000 in
set_option maxHeartbeats 1600000 in
theorem change_ok {w : World} {F : Nat → Prop} {g : GM} {p : Nat} (h : EscO g p w F) (hn : 1 ≤ g.acc.length ∧ g.acc.length ≤ 8) {r : Int} (hr : g.is r = true) {fm : Nat} (d : Int)
    (hcf : ∀ args W, (callFunc fm args).run Try.prog W = .ok (.enter fm args) W) (hm : ∀ b, w.cell? ⟨b, r.toNat * 3 + 2, none⟩ = some (.bool (g.at_ r).rev) → Calls Try.prog fm #[.pointer (some ⟨b, r.toNat * 3, none⟩)] w (Quiet w (.int .i64 0)))
    (hu : 0 ≤ (g.at_ r).u ∧ (g.at_ r).u ≤ 1000000000) (hs : 0 ≤ (g.at_ r).s ∧ (g.at_ r).s ≤ 1000000000) (hd : -1000000000 ≤ d ∧ d ≤ 1000000000) (h0 : 0 ≤ (g.at_ r).u + d) (h1 : 0 ≤ (g.at_ r).s - d) :
    Calls Try.prog 72 #[.pointer (some ⟨p, 0, none⟩), .int .i64 r, .int .i64 d, .func (.func fm) #[] #[]] w (EPost w F (.int .i64 0) (g.setA r { g.at_ r with u := (g.at_ r).u + d, s := (g.at_ r).s - d }) p) := by
  obtain ⟨s, hS⟩ := h
  have hR := hS.read
  obtain ⟨b, hb⟩ := hR.addr (by omega)
  have KA := hide (at_any hR hn r)
  rw [atV_true hb hr] at KA
  obtain ⟨cu, cs, cr⟩ := hR.accs b hb r hr
  have KM := hide (hm b cr)
  have R1 := hide ((Run.start hS).drew escS_ok)
  obtain ⟨⟨z1, z2⟩, hfin⟩ := esc_two R1.out hr hb ((g.at_ r).u + d) ((g.at_ r).s - d)
  have HFIN := hide hfin
  generalize (g.at_ r).u = u at *
  generalize (g.at_ r).s = v at *
  generalize r.toNat * 3 = k at *
  clear hm hS hR hfin cr
  have t1 : IntKind.i64.wrap (u + d) = u + d := IntWalk.i64_in _ (by omega)
  have t2 : IntKind.i64.wrap (v - d) = v - d := IntWalk.i64_in _ (by omega)
  have z3 : w.frozen? ⟨b, k + 1, none⟩ = false := by simpa using z2
  go_enter Try.func72, Try.ntmps72
  go_wp2_with fail
  refine KA.out.mono ?_
  rintro e w' ⟨rfl, rfl⟩
  go_wp2_with fail
  refine KM.out.mono ?_
  rintro e w' ⟨rfl, rfl⟩
  go_wp2
  refine wp_region_lew [16, 19] [0, 1, 0, 0, 0, 0, 0, 0, 0, 0, 0, 0, 1, 1, 0, 0, 1, 1, 1, 2] (fun w' => w'.cell? ⟨b, k, none⟩ = some (.int .i64 u) ∧ w'.cell? ⟨b, k + 1, none⟩ = some (.int .i64 v)) (fun w' => w'.cell? ⟨b, k + 1, none⟩ = some (.int .i64 v)) (fun _ => True) (fun _ => True) (fun _ h => h.2) (fun _ _ => trivial) (fun _ _ => trivial) (by kernel_rfl) (by kernel_rfl) (by kernel_rfl) (by kernel_rfl) (by exact ⟨cu, cs⟩) ?_
  (repeat (first | (refine lew_skip (by rfl) (by rfl) ?_; try simp only [Act.put, List.setIfInBounds_toArray, List.set_cons_zero, List.set_cons_succ]) | (refine lew_read0 (v := ?_) (by rfl) (by rfl) ?_ ?_; rotate_left; (focus (intro w' hS'; go_simp; (try with_reducible rfl); done)); try simp only [Act.put, List.setIfInBounds_toArray, List.set_cons_zero, List.set_cons_succ]) | (refine lew_read1 (v := ?_) (by rfl) (by rfl) ?_ ?_; rotate_left; (focus (intro w' hS'; go_simp; (try with_reducible rfl); done)); try simp only [Act.put, List.setIfInBounds_toArray, List.set_cons_zero, List.set_cons_succ]) | (refine lew_read2 (v := ?_) (by rfl) (by rfl) ?_ ?_; rotate_left; (focus (intro w' hS'; go_simp; (try with_reducible rfl); done)); try simp only [Act.put, List.setIfInBounds_toArray, List.set_cons_zero, List.set_cons_succ]) | (refine lew_read3 (v := ?_) (by rfl) (by rfl) ?_ ?_; rotate_left; (focus (intro w' hS'; go_simp; (try with_reducible rfl); done)); try simp only [Act.put, List.setIfInBounds_toArray, List.set_cons_zero, List.set_cons_succ]) | (refine lew_read4 (v := ?_) (by rfl) (by rfl) ?_ ?_; rotate_left; (focus (intro w' hS'; go_simp; (try with_reducible rfl); done)); try simp only [Act.put, List.setIfInBounds_toArray, List.set_cons_zero, List.set_cons_succ])))
  refine lew_chain1 rfl (by rfl) (fun K hK => ?_)
  go_wp2_with fail
  have hc : (w.drew.setCell ⟨b, k, none⟩ (.int .i64 (u + d))).cell? ⟨b, k + 1, none⟩ = some (.int .i64 v) := by rw [World.cell?_setCell_other _ _ _ _ (fun e => by injection e with e1 e2; omega)]; exact cs
  refine hK.out _ _ hc ?_
  clear hK
  (repeat (first | (refine lew_skip (by rfl) (by rfl) ?_; try simp only [Act.put, List.setIfInBounds_toArray, List.set_cons_zero, List.set_cons_succ]) | (refine lew_read0 (v := ?_) (by rfl) (by rfl) ?_ ?_; rotate_left; (focus (intro w' hS'; go_simp; (try with_reducible rfl); done)); try simp only [Act.put, List.setIfInBounds_toArray, List.set_cons_zero, List.set_cons_succ]) | (refine lew_read1 (v := ?_) (by rfl) (by rfl) ?_ ?_; rotate_left; (focus (intro w' hS'; go_simp; (try with_reducible rfl); done)); try simp only [Act.put, List.setIfInBounds_toArray, List.set_cons_zero, List.set_cons_succ]) | (refine lew_read2 (v := ?_) (by rfl) (by rfl) ?_ ?_; rotate_left; (focus (intro w' hS'; go_simp; (try with_reducible rfl); done)); try simp only [Act.put, List.setIfInBounds_toArray, List.set_cons_zero, List.set_cons_succ]) | (refine lew_read3 (v := ?_) (by rfl) (by rfl) ?_ ?_; rotate_left; (focus (intro w' hS'; go_simp; (try with_reducible rfl); done)); try simp only [Act.put, List.setIfInBounds_toArray, List.set_cons_zero, List.set_cons_succ]) | (refine lew_read4 (v := ?_) (by rfl) (by rfl) ?_ ?_; rotate_left; (focus (intro w' hS'; go_simp; (try with_reducible rfl); done)); try simp only [Act.put, List.setIfInBounds_toArray, List.set_cons_zero, List.set_cons_succ])))
  refine lew_chain2 rfl (by rfl) (fun K hK => ?_)
  go_wp2_with fail
  refine hK.out _ _ trivial (lew_nil ?_)
  go_wp2
  go_ret
  obtain ⟨F', q1, q2, q3⟩ := HFIN.out.post escS_ok
  exact ⟨rfl, F', ⟨_, q1⟩, q2, q3⟩
end Go.Proofs.Ytapabbpdfplpoaa
