/-
  Escrow: what an escrow is in memory; at, line, Have.
-/
import Derived.Test.YtapabbpdfplpoaaRows
import Derived.Test.YtapabbpdfplpoaaTree
import Derived.Test.YtapabbpdfplpoaaGI
import Derived.Deep.QuietTactic
import Derived.BigQuiet
import Derived.Deep.DeepCutAuto
import Derived.IntWalk
set_option linter.unusedSimpArgs false
set_option linter.unusedVariables false
namespace Go.Proofs.Ytapabbpdfplpoaa
open Go.RowKit Go.CH Go.CH.Esc
open Go.ChangeMaps (setBlock)

/-- The answer v; nothing that was there has turned. -/
def BelowRet (w : World) (v : Value) (e : Ending) (w' : World) : Prop := e = .returned v ∧ Below w.heap.size w w'
def Quiet (w : World) (v : Value) (e : Ending) (w' : World) : Prop := e = .returned v ∧ w = w'
def ints (l : List Int) : List Value := l.map (Value.int .i64)
theorem ints_one (l : List Int) : ∀ u ∈ ints l, u.oneCell' = true := by
  intro u hu
  obtain ⟨s, _, rfl⟩ := List.mem_map.1 hu
  rfl
def accL (a : Acc) : List Value := [.int .i64 a.u, .int .i64 a.s, .bool a.rev]
theorem accL_len (a : Acc) : (accL a).length = 3 := rfl
/-- A message as it lies in the row of a queue. -/
structure ZMsg where
  m : MsgG
  ts : List Int
  A : Option Addr
  c : Nat
def zcl (z : ZMsg) : List Value := [.slice z.A z.ts.length z.c, .int .i64 z.m.up, .int .i64 z.m.rc, .bool z.m.rev]
def zow (z : ZMsg) : Own := RowO 3 1 (.slice z.A z.ts.length z.c) z.ts.length (ints z.ts)
theorem zow_ok (z : ZMsg) : (zow z).Ok := row_ok
theorem zcl_len (z : ZMsg) : (zcl z).length = 4 := rfl
def msgT (H : List Int) (m : MsgG) : List Int := (H.take m.up).drop m.c
/-- The parts of a line. -/
structure LinS where
  A : Option Addr
  c : Nat
  B : Option Addr
  d : Nat
  zs : List ZMsg
def LineS (p : PrG) (g : Nat) (s : LinS) : Own :=
  star (CellO g #[.slice s.A (p.H.drop p.conf).length s.c, .int .i64 p.H.length, .int .i64 p.rc, .slice s.B s.zs.length s.d] 109)
    (star (RowO 3 1 (.slice s.A (p.H.drop p.conf).length s.c) (p.H.drop p.conf).length (ints (p.H.drop p.conf))) (ARow zcl zow 124 4 (.slice s.B s.zs.length s.d) s.zs))
def LineZ (p : PrG) (s : LinS) : Prop := s.zs.map ZMsg.m = p.ms ∧ ∀ z ∈ s.zs, z.ts = msgT p.H z.m
def LineO (p : PrG) (g : Nat) : Own := fun w F => ∃ s, LineZ p s ∧ LineS p g s w F
theorem lineS_ok {p : PrG} {g : Nat} {s : LinS} : (LineS p g s).Ok := star_ok cell_ok (star_ok row_ok (arow_ok zow_ok))
theorem lineO_ok {p : PrG} {g : Nat} : (LineO p g).Ok := ⟨fun ⟨s, _, h⟩ => lineS_ok.lt h, fun ⟨s, hz, h⟩ hk => ⟨s, hz, lineS_ok.keep h hk⟩⟩
/-- The parts of an escrow. -/
structure EscP where
  A : Option Addr
  c : Nat
  bm : Nat
  gp : Int × Int → Nat
def ents (n : Nat) (gp : Int × Int → Nat) : List ((Int × Int) × Value) := (keys n).map fun k => (k, .pointer (some ⟨gp k, 0, none⟩))
def EscS (g : GM) (p : Nat) (s : EscP) : Own :=
  star (CellO p #[.slice s.A g.acc.length s.c, .map (some s.bm)] 101) (star (RowO 103 3 (.slice s.A g.acc.length s.c) g.acc.length (g.acc.flatMap accL))
    (star (MapO (pairV .i64) s.bm (ents g.acc.length s.gp)) (bigK (keys g.acc.length) fun k => LineO (g.pr k) (s.gp k))))
def EscO (g : GM) (p : Nat) : Own := fun w F => ∃ s, EscS g p s w F
theorem escS_ok {g : GM} {p : Nat} {s : EscP} : (EscS g p s).Ok := star_ok cell_ok (star_ok row_ok (star_ok map_ok (bigK_ok (fun _ => lineO_ok))))
theorem escO_ok {g : GM} {p : Nat} : (EscO g p).Ok := ⟨fun ⟨s, h⟩ => escS_ok.lt h, fun ⟨s, h⟩ hk => ⟨s, escS_ok.keep h hk⟩⟩

theorem mget_map {α : Type} [DecidableEq α] (v : α → Value) (k : α) : ∀ (l : List α), mget (l.map fun x => (x, v x)) k = if k ∈ l then some (v k) else none
  | [] => rfl
  | a :: l => by
    rw [List.map_cons, mget_cons, mget_map v k l]
    by_cases h : k = a
    · subst h; simp
    · simp [h]
theorem keyOk : KeyOk Try.prog 110 (pairV .i64) := keyOk_pair Try.underlying110 Try.underlying3 (by kernel_rfl)
theorem zeroP : ∀ w, (zeroValue 104).run Try.prog w = .ok (.pointer none) w := fun w => by kernel_rfl
/-- What is read of an escrow. -/
structure EscR (w : World) (g : GM) (p : Nat) (s : EscP) : Prop where
  c0 : w.cell? ⟨p, 0, none⟩ = some (.slice s.A g.acc.length s.c)
  c1 : w.cell? ⟨p, 1, none⟩ = some (.map (some s.bm))
  look : ∀ f t, (Instr.lookup 99 (.map (some s.bm)) (.agg #[.int .i64 f, .int .i64 t]) false).run Try.prog w = .ok (if g.pair f t = true then .pointer (some ⟨s.gp (f, t), 0, none⟩) else .pointer none) w
  addr : 0 < g.acc.length → ∃ b, s.A = some ⟨b, 0, none⟩
  accs : ∀ b, s.A = some ⟨b, 0, none⟩ → ∀ r, g.is r = true → w.cell? ⟨b, r.toNat * 3, none⟩ = some (.int .i64 (g.at_ r).u) ∧ w.cell? ⟨b, r.toNat * 3 + 1, none⟩ = some (.int .i64 (g.at_ r).s) ∧ w.cell? ⟨b, r.toNat * 3 + 2, none⟩ = some (.bool (g.at_ r).rev)
theorem flat_get {α : Type} (R : α → List Value) (size : Nat) (hR : ∀ x, (R x).length = size) {l : List α} {k : Nat} (h : k < l.length) (j : Nat) (hj : j < size) : (l.flatMap R)[k * size + j]? = (R l[k])[j]? := by
  induction l generalizing k with
  | nil => simp at h
  | cons x l ih =>
    rw [List.flatMap_cons]
    cases k with
    | zero => rw [List.getElem?_append_left (by rw [hR]; omega)]; simp
    | succ k =>
      rw [List.getElem?_append_right (by rw [hR, Nat.succ_mul]; omega), hR, show (k + 1) * size + j - size = k * size + j by rw [Nat.succ_mul]; omega, ih (by simpa using h)]
      simp
theorem accs_get {g : GM} {r : Int} (h : g.is r = true) (j : Nat) (hj : j < 3) : (g.acc.flatMap accL)[r.toNat * 3 + j]? = (accL (g.at_ r))[j]? := by
  rw [at_get h]; exact flat_get accL 3 accL_len (is_lt h).2 j hj
theorem EscS.read {g : GM} {p : Nat} {s : EscP} {w : World} {F : Nat → Prop} (h : EscS g p s w F) : EscR w g p s := by
  obtain ⟨F1, F2, h1, ⟨F3, F4, h2, ⟨F5, F6, h3, h4, _, _⟩, _, _⟩, _, _⟩ := h
  refine ⟨cell_at h1 rfl, cell_at h1 rfl, fun f t => ?_, fun hn => row_addr h2 hn, fun b hb r hr => ?_⟩
  · obtain ⟨⟨es, clock, hblk, hents⟩, _⟩ := h3
    have := run_lookup (P := Try.prog) keyOk Try.underlying99 zeroP hents (f, t) w hblk
    simp only [pairV] at this
    rw [this, ents, mget_map]
    by_cases hp : g.pair f t = true
    · rw [if_pos hp, if_pos (pair_mem.1 hp)]; rfl
    · rw [if_neg hp, if_neg (fun hm => hp (pair_mem.2 hm))]; rfl
  · rw [hb] at h2
    refine ⟨row_cell h2 ?_, row_cell h2 ?_, row_cell h2 ?_⟩
    · have := accs_get hr 0 (by omega); simpa [accL] using this
    · have := accs_get hr 1 (by omega); simpa [accL] using this
    · have := accs_get hr 2 (by omega); simpa [accL] using this
theorem EscR.below {g : GM} {p : Nat} {s : EscP} {w w' : World} {F : Nat → Prop} (h : EscS g p s w F) (hb : Below w.heap.size w w') : EscR w' g p s :=
  (escS_ok.keep h (fun i hi => hb.block i (escS_ok.lt h i hi))).read

set_option maxHeartbeats 400000 in
theorem at_nil (r : Int) (w : World) : Calls Try.prog 66 #[.pointer none, .int .i64 r] w (Quiet w (.pointer none)) := by
  go_enter Try.func66, Try.ntmps66
  go_wp2
  go_ret
  exact ⟨rfl, rfl⟩
def atV (g : GM) (s : EscP) (r : Int) : Value := if g.is r = true then .pointer (s.A.map fun a => ⟨a.block, r.toNat * 3, none⟩) else .pointer none
set_option maxHeartbeats 800000 in
theorem at_any {w : World} {g : GM} {p : Nat} {s : EscP} (h : EscR w g p s) (hn : 1 ≤ g.acc.length ∧ g.acc.length ≤ 8) (r : Int) : Calls Try.prog 66 #[.pointer (some ⟨p, 0, none⟩), .int .i64 r] w (Quiet w (atV g s r)) := by
  obtain ⟨b, hb⟩ := h.addr (by omega)
  have c0 := h.c0
  rw [hb] at c0
  cases hi : g.is r with
  | false =>
    have hv := hide (show atV g s r = .pointer none by simp [atV, hi])
    have hr : r < 0 ∨ (g.acc.length : Int) ≤ r := by simp [GM.is] at hi; omega
    clear hi h hb
    rcases hr with hr | hr
    · go_enter Try.func66, Try.ntmps66
      go_wp2
      go_ret
      exact ⟨by rw [hv.out]; rfl, rfl⟩
    · have hr0 : ¬ r < 0 := by omega
      go_enter Try.func66, Try.ntmps66
      go_wp2
      go_ret
      exact ⟨by rw [hv.out]; rfl, rfl⟩
  | true =>
    have hl := is_lt hi
    obtain ⟨k, rfl⟩ : ∃ k : Nat, r = k := ⟨r.toNat, by omega⟩
    have hv := hide (show atV g s k = .pointer (some ⟨b, k * 3, none⟩) by simp [atV, hi, hb])
    have hk : k < g.acc.length := by simpa using hl.2
    clear hi h hb hl
    go_enter Try.func66, Try.ntmps66
    go_wp2
    go_ret
    exact ⟨by rw [hv.out]; simp, rfl⟩
end Go.Proofs.Ytapabbpdfplpoaa
