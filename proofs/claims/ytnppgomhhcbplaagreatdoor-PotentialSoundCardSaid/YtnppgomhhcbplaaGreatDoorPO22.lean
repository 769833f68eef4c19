/-
  Align: costs.
  Align: Best: what its loop leans on.
-/
import Derived.Test.YtnppgomhhcbplaaGreatDoorPO21
import Derived.Deep.DeepCutAuto
import Derived.Test.YtnppgomhhcbplaaGreatDoorPO16
set_option linter.unusedSimpArgs false
set_option linter.unusedVariables false
namespace Go.Proofs.YtnppgomhhcbplaaGreatDoor
open Go.RowKit Go.CH Go.CH.Scr Go.CH.Pot
open Go.ChangeMaps (setBlock)
attribute [local go_sem] Oper.semAt_some
theorem run_store_fn {P : Program} {w : World} {a : Addr} {m : Mode} (fn : Fn) (first captured : Array Value) : (store a (.func fn first captured) m).run P w = stored P w a (.func fn first captured) m := run_store P w a _ m rfl
attribute [local go_sem] run_store_fn
/-- What costs gives back. -/
def CostsRet (W : Wd) (w : World) (e : Ending) (w' : World) : Prop := ∃ b L, e = .returned (.map (some b)) ∧ Kn W L ∧ st0 ∈ keysL L ∧ Post w (fun _ => False) (StM b L) w'
set_option maxHeartbeats 6400000 in
set_option maxRecDepth 100000 in
theorem costs_any {W : Wd} {x : WA} {w : World} (hP : AwR W x w) (hS : AwS W x) (hg : W.good) (ht : W.tosOk) (hm : MovA W x) : Calls Tryz.prog 39 #[.agg (wordsC W x)] w (CostsRet W w) := by
  have r1 := run_new (Run.begin w) emp_ok (wordsC W x) 89
  have r2 : Run (fun _ => False) w (star (StM (w.heap.size + 1) []) (star (CellO w.heap.size (wordsC W x) 89) emp)) ((w.alloc (.cells (wordsC W x) 89)).alloc (.map #[] 0)) := by
    have := r1.fresh (star_ok cell_ok emp_ok) (map_new (kv := stV) (w.alloc (.cells (wordsC W x) 89)))
    rw [World.size_alloc] at this
    exact this
  have r3 := run_new r2 (star_ok stm_ok (star_ok cell_ok emp_ok)) #[.map (some (w.heap.size + 1))] 92
  have r4 := run_new r3 (star_ok cell_ok (star_ok stm_ok (star_ok cell_ok emp_ok))) #[Value.nilFunc] 131
  have e2 : ((w.alloc (.cells (wordsC W x) 89)).alloc (.map #[] 0)).heap.size = w.heap.size + 1 + 1 := by rw [World.size_alloc, World.size_alloc]
  rw [World.size_alloc, e2] at r4
  have R4 := hide r4
  have KW := hide (fun w9 hR => walk_n (W := W) (x := x) (b := w.heap.size + 1) (bm := w.heap.size + 1 + 1) (bw := w.heap.size) (bf := w.heap.size + 1 + 1 + 1) (F0 := fun _ => False) (w0 := w) (fun W' hm => hP.below (hm.below (fun _ _ h => h))) hS hg ht hm (W.rank st0 + 1) st0 [] emp w9 (Nat.lt_succ_self _) ok0 (Nat.zero_le _) kn_nil emp_ok hR)
  have hmk : ∀ w : World, (Instr.makeMap 92 none).run Tryz.prog w = .ok (.map (some w.heap.size)) (w.alloc (.map #[] 0)) := fun w => by kernel_rfl
  clear r1 r2 r3 r4 e2 hP hS hg ht hm
  unfold wordsC at R4 ⊢
  unfold stV st0 stC at KW
  dsimp only at KW
  go_enter Tryz.func39, Tryz.ntmps39
  go_upto_region 3 with (fail)
  generalize (((w.alloc (.cells #[.slice x.a.L W.l.length x.a.lc, .slice x.a.R x.a.q.length x.a.rc, .slice x.b.L W.m.length x.b.lc, .slice x.b.R x.b.q.length x.b.rc] 89)).alloc (.map #[] 0)).alloc (.cells #[.map (some (w.heap.size + 1))] 92)).alloc (.cells #[Value.nilFunc] 131) = w4 at *
  generalize w.heap.size + 1 + 1 + 1 = bf at *
  generalize w.heap.size + 1 + 1 = bm at *
  generalize w.heap.size + 1 = b at *
  generalize w.heap.size = bw at *
  obtain ⟨F, hF⟩ := R4.out.fst
  have e4 := cell_at (i := 0) hF rfl
  have f4 := cell_free hF 0
  clear hF F
  go_upto_region 4 with (fail)
  have R5 := hide (show Run (fun _ => False) w (star (CellO bf #[fnW bm bw bf] 131) _) (w4.setCell ⟨bf, 0, none⟩ (.func (.func 66) #[] #[.pointer (some ⟨bm, 0, none⟩), .pointer (some ⟨bw, 0, none⟩), .pointer (some ⟨bf, 0, none⟩)])) from run_setc R4.out (star_ok cell_ok (star_ok stm_ok (star_ok cell_ok emp_ok))) 0 (fnW bm bw bf))
  clear R4 e4 f4
  generalize w4.setCell ⟨bf, 0, none⟩ (.func (.func 66) #[] #[.pointer (some ⟨bm, 0, none⟩), .pointer (some ⟨bw, 0, none⟩), .pointer (some ⟨bf, 0, none⟩)]) = w5 at *
  obtain ⟨F, hF⟩ := R5.out.fst
  have e5 := cell_at (i := 0) hF rfl
  unfold fnW at e5
  clear hF F
  have KF := hide (KW.out w5 (R5.out.perm (by unfold WkB wordsC; ac_rfl : _ = star (StM b []) (star (WkB W x b bm bw bf) emp))))
  clear KW R5
  go_wp2_with fail
  refine KF.out.mono ?_
  rintro e9 w9 ⟨L, rfl, hkn, hext, hmem, hR⟩
  have R6 := hide hR
  have HKN := hide hkn
  have HMEM := hide hmem
  obtain ⟨m0, -⟩ := wkb_cells hR.drop
  have HF := hide (show CostsRet W w (.returned (.map (some b))) w9 from ⟨b, L, rfl, hkn, hmem, (hR.swap.drop).post stm_ok⟩)
  clear R6 HKN HMEM hkn hext hmem hR KF
  go_wp2
  go_ret
  exact HF.out
end Go.Proofs.YtnppgomhhcbplaaGreatDoor
namespace Go.Proofs.YtnppgomhhcbplaaGreatDoor
open Go.RowKit Go.CH Go.CH.Scr Go.CH.Pot
open Go.ChangeMaps (setBlock)
/-- Numbers in a row of their own. -/
def IntO (A : Option Addr) (c : Nat) (l : List Int) : CH.Own := RowO 3 1 (.slice A l.length c) l.length (l.map (Value.int .i64))
theorem into_ok {A : Option Addr} {c : Nat} {l : List Int} : (IntO A c l).Ok := row_ok
theorem into_nil (w : World) : IntO none 0 [] w (fun _ => False) := row_nil w 3 1
theorem intOk : SliceOk Tryz.prog 45 3 (.int .i64 0) 1 8 := ⟨Tryz.underlying45, by kernel_rfl, by decide, by decide⟩
theorem int_snoc {A : Option Addr} {c : Nat} {l : List Int} {x : Int} : RowO 3 1 (.slice A (l.length + 1) c) (l.length + 1) (l.map (Value.int .i64) ++ [Value.int .i64 x]) = IntO A c (l ++ [x]) := by
  unfold IntO
  rw [List.map_append, List.length_append, List.length_singleton, List.map_cons, List.map_nil]
theorem wp_int {F0 : Nat → Prop} {w0 W : World} {Y : CH.Own} {o : Oper} {a : Act} {K : Act → World → Prop} {Q : Exit → Act → World → Prop} (s x : Operand)
    (ho : o.op = .call { callee := .builtin .append, args := #[s, x], argTypes := #[45, 45] }) {A : Option Addr} {c n g : Nat} {l : List Int} (p : Int) (hl : l.length = n) (hsv : a.eval s = .slice A n c) (hx : a.eval x = .slice (some ⟨g, 0, none⟩) 1 1) (hn : n ≤ 1000000) (hY : Y.Ok)
    (h : Run F0 w0 (star (IntO A c l) Y) W) (hg : W.cell? ⟨g, 0, none⟩ = some (.int .i64 p))
    (hK : ∀ A' c' w', Run F0 w0 (star (IntO A' c' (l ++ [p])) Y) w' → K (a.put o.dst (.slice A' (n + 1) c')) w') : o.wp Tryz.prog a W K Q := by
  subst hl
  obtain ⟨F7, hR7, -, bk7⟩ := h.take into_ok hY
  have hsrc : Src W (some ⟨g, 0, none⟩) 1 1 [Value.int .i64 p] := by
    refine ⟨rfl, fun u hu => by rw [List.mem_singleton.1 hu]; rfl, fun _ => ⟨_, rfl, fun j u hu => ?_⟩⟩
    cases j with
    | zero =>
      have e : u = .int .i64 p := by simpa using hu.symm
      rw [e]
      exact hg
    | succ j => simp at hu
  refine wp_appX s x ho intOk _ 0 (v := .slice A l.length c) (n := l.length) (xs := l.map (Value.int .i64)) hsv hR7.1 (A := some ⟨g, 0, none⟩) (m := 1) (c := 1) (news := [Value.int .i64 p]) hx hsrc (by unfold maxLen; omega) (by omega) (Nat.zero_le _) ?_
  intro v8 w8 ho8 hg8 hv8
  have S8 := bk7 _ _ (row_app hR7 ho8 hg8 hv8)
  obtain ⟨A8, c8, rfl⟩ := own_form ho8
  rw [int_snoc] at S8
  exact hK A8 c8 w8 S8
theorem bl_cat (a b : ByteArray) : bl (a ++ b) = bl a ++ bl b := by
  obtain ⟨a⟩ := a
  obtain ⟨b⟩ := b
  show (ByteArray.mk a ++ ByteArray.mk b).data.toList = a.toList ++ b.toList
  rw [ByteArray.data_append]
  simp
theorem bs_cat (a b : Bs) : bs (a ++ b) = bs a ++ bs b := bl_inj (by rw [bl_cat, bl_bs, bl_bs, bl_bs])
/-- A derivation as it grows. -/
structure DD where
  A : Option Addr
  ac : Nat
  l : List Int
  B : Option Addr
  bc : Nat
  m : List Int
  f : Bs
def ddC (c : Int) (q : DD) : Array Value := #[.int .i64 c, .slice q.A q.l.length q.ac, .slice q.B q.m.length q.bc, .string (bs q.f)]
/-- What Best owns in its loop. -/
def BsO (W : Wd) (x : WA) (b : Nat) (L : List (St × Int)) (c : Int) (g12 g14 g15 g16 : Nat) (s : St) (q : DD) (Ds : List Nat) : CH.Own :=
  star (CellO g15 (stC s) 95) (star (CellO g16 (ddC c q) 47) (star (IntO q.A q.ac q.l) (star (IntO q.B q.bc q.m) (star (CellO g14 #[.map (some b)] 92) (star (CellO g12 (wordsC W x) 89) (star (StM b L) (marksO Ds)))))))
theorem bso_ok {W : Wd} {x : WA} {b : Nat} {L : List (St × Int)} {c : Int} {g12 g14 g15 g16 : Nat} {s : St} {q : DD} {Ds : List Nat} : (BsO W x b L c g12 g14 g15 g16 s q Ds).Ok :=
  star_ok cell_ok (star_ok cell_ok (star_ok into_ok (star_ok into_ok (star_ok cell_ok (star_ok cell_ok (star_ok stm_ok marks_ok))))))
theorem bso_cells {W : Wd} {x : WA} {b : Nat} {L : List (St × Int)} {c : Int} {g12 g14 g15 g16 : Nat} {s : St} {q : DD} {Ds : List Nat} {F : Nat → Prop} {w1 w : World} {R : CH.Own} (h : Run F w1 (star (BsO W x b L c g12 g14 g15 g16 s q Ds) R) w) :
    (w.cell? ⟨g15, 0, none⟩ = some (.int .i64 s.i) ∧ w.cell? ⟨g15, 1, none⟩ = some (.int .i64 s.j) ∧ w.cell? ⟨g15, 2, none⟩ = some (.string (bs s.a)) ∧ w.cell? ⟨g15, 3, none⟩ = some (.bool s.r)) ∧
    (w.cell? ⟨g16, 0, none⟩ = some (.int .i64 c) ∧ w.cell? ⟨g16, 1, none⟩ = some (.slice q.A q.l.length q.ac) ∧ w.cell? ⟨g16, 2, none⟩ = some (.slice q.B q.m.length q.bc) ∧ w.cell? ⟨g16, 3, none⟩ = some (.string (bs q.f))) ∧
    w.cell? ⟨g14, 0, none⟩ = some (.map (some b)) ∧
    (w.cell? ⟨g12, 0, none⟩ = some (.slice x.a.L W.l.length x.a.lc) ∧ w.cell? ⟨g12, 1, none⟩ = some (.slice x.a.R x.a.q.length x.a.rc) ∧ w.cell? ⟨g12, 2, none⟩ = some (.slice x.b.L W.m.length x.b.lc) ∧ w.cell? ⟨g12, 3, none⟩ = some (.slice x.b.R x.b.q.length x.b.rc)) ∧
    (∃ F', StM b L w F') ∧ (∀ i, w.frozen? ⟨g15, i, none⟩ = false) ∧ (∀ i, w.frozen? ⟨g16, i, none⟩ = false) := by
  obtain ⟨f1, h1⟩ := (h.perm (by unfold BsO; ac_rfl : _ = star (CellO g15 (stC s) 95) (star (star (CellO g16 (ddC c q) 47) (star (IntO q.A q.ac q.l) (star (IntO q.B q.bc q.m) (star (CellO g14 #[.map (some b)] 92) (star (CellO g12 (wordsC W x) 89) (star (StM b L) (marksO Ds))))))) R))).fst
  obtain ⟨f2, h2⟩ := (h.perm (by unfold BsO; ac_rfl : _ = star (CellO g16 (ddC c q) 47) (star (star (CellO g15 (stC s) 95) (star (IntO q.A q.ac q.l) (star (IntO q.B q.bc q.m) (star (CellO g14 #[.map (some b)] 92) (star (CellO g12 (wordsC W x) 89) (star (StM b L) (marksO Ds))))))) R))).fst
  obtain ⟨f3, h3⟩ := (h.perm (by unfold BsO; ac_rfl : _ = star (CellO g14 #[.map (some b)] 92) (star (star (CellO g15 (stC s) 95) (star (IntO q.A q.ac q.l) (star (IntO q.B q.bc q.m) (star (CellO g16 (ddC c q) 47) (star (CellO g12 (wordsC W x) 89) (star (StM b L) (marksO Ds))))))) R))).fst
  obtain ⟨f4, h4⟩ := (h.perm (by unfold BsO; ac_rfl : _ = star (CellO g12 (wordsC W x) 89) (star (star (CellO g15 (stC s) 95) (star (IntO q.A q.ac q.l) (star (IntO q.B q.bc q.m) (star (CellO g16 (ddC c q) 47) (star (CellO g14 #[.map (some b)] 92) (star (StM b L) (marksO Ds))))))) R))).fst
  obtain ⟨f5, h5⟩ := (h.perm (by unfold BsO; ac_rfl : _ = star (StM b L) (star (star (CellO g15 (stC s) 95) (star (IntO q.A q.ac q.l) (star (IntO q.B q.bc q.m) (star (CellO g16 (ddC c q) 47) (star (CellO g14 #[.map (some b)] 92) (star (CellO g12 (wordsC W x) 89) (marksO Ds))))))) R))).fst
  exact ⟨⟨cell_at h1 rfl, cell_at h1 rfl, cell_at h1 rfl, cell_at h1 rfl⟩, ⟨cell_at h2 rfl, cell_at h2 rfl, cell_at h2 rfl, cell_at h2 rfl⟩, cell_at h3 rfl, ⟨cell_at h4 rfl, cell_at h4 rfl, cell_at h4 rfl, cell_at h4 rfl⟩, ⟨f5, h5⟩, fun i => cell_free h1 i, fun i => cell_free h2 i⟩
/-- What is known of the state. -/
structure BsP (W : Wd) (L : List (St × Int)) (s : St) (q : DD) : Prop where
  ok : W.ok s
  a3 : s.a.length ≤ 3
  inL : s ∈ keysL L
  lt : W.dist s < never
  nl : q.l.length + W.rank s ≤ W.rank st0
  nm : q.m.length + W.rank s ≤ W.rank st0
  nf : q.f.length + 1000000 * W.rank s ≤ 1000000 * W.rank st0
/-- A move that is cheapest. -/
def goodM (W : Wd) (s : St) (p : RA × St) : Prop := p.1.r.c + W.dist p.2 = W.dist s
def badI (W : Wd) (x : WA) (s : St) (i : Nat) : Prop := ∀ j (hj : j < (amovR W x s).length), j < i → ¬ goodM W s (amovR W x s)[j]
theorem bad_zero {W : Wd} {x : WA} {s : St} : badI W x s 0 := fun j _ h => absurd h (Nat.not_lt_zero _)
theorem bad_succ {W : Wd} {x : WA} {s : St} {i : Nat} {y : RA × St} (hx : (amovR W x s)[i]? = some y) (h : badI W x s i) (h2 : ¬ goodM W s y) : badI W x s (i + 1) := fun j hj hji => by
  by_cases e : j = i
  · subst e
    rw [List.getElem?_eq_getElem hj] at hx
    injection hx with hx
    rw [hx]; exact h2
  · exact h j hj (by omega)
theorem bad_all {W : Wd} {x : WA} {s : St} (hm : MovA W x) (hs : W.ok s) (hlt : W.dist s < never) (hf : s ≠ W.fin) : ¬ badI W x s (amovR W x s).length := fun h => by
  have e := dist_eq (W := W) hs
  rcases fold_eq (fun x : Int × St => x.1 + W.dist x.2) (W.moves s) (if s = W.fin then 0 else never) with h1 | ⟨p, hp, h1⟩
  · rw [if_neg hf] at h1
    rw [e] at hlt
    rw [if_neg hf] at hlt
    rw [h1] at hlt
    omega
  · rw [← hm s hs] at hp
    obtain ⟨y, hy, rfl⟩ := List.mem_map.1 hp
    obtain ⟨j, hj, rfl⟩ := List.mem_iff_getElem.1 hy
    refine h j hj hj ?_
    unfold goodM
    rw [e]
    exact h1.symm
theorem mova_mem {W : Wd} {x : WA} {s : St} (hm : MovA W x) (hs : W.ok s) {y : RA × St} (hy : y ∈ amovR W x s) : (y.1.r.c, y.2) ∈ W.moves s := by
  rw [← hm s hs]
  exact List.mem_map.2 ⟨y, hy, rfl⟩
theorem kn_val {W : Wd} {L : List (St × Int)} (h : Kn W L) {s : St} (hs : s ∈ keysL L) : (mget (L.map fun p => (p.1, Value.int .i64 p.2)) s).getD (.int .i64 0) = .int .i64 (W.dist s) := by
  obtain ⟨v, hv⟩ := mem_keys.1 hs
  rw [mget_kn h.nd hv, show v = W.dist s from h.val _ hv]; rfl
theorem kn_get {W : Wd} {L : List (St × Int)} (h : Kn W L) {b : Nat} {w : World} {F : Nat → Prop} (hF : StM b L w F) {s : St} (hs : s ∈ keysL L) :
    (Instr.lookup 92 (.map (some b)) (.agg #[.int .i64 s.i, .int .i64 s.j, .string (bs s.a), .bool s.r]) false).run Tryz.prog w = .ok (.int .i64 (W.dist s)) w := by
  have := astm_get hF s false
  rw [kn_val h hs] at this
  exact this
theorem amovR_mem {W : Wd} {x : WA} {s : St} {z : RA × St} (h : z ∈ amovR W x s) : z.1 ∈ (x.at (W.left s)).q := by
  unfold amovR at h
  obtain ⟨y, hy, he⟩ := List.mem_filterMap.1 h
  unfold amvR at he
  obtain ⟨p, -, hp⟩ := Option.map_eq_some_iff.1 he
  rw [← hp]
  exact hy
theorem AwS.f_of {W : Wd} {x : WA} (h : AwS W x) {s : St} {z : RA × St} (hz : z ∈ amovR W x s) : z.1.r.t.length ≤ 1000000 := ((h.at (W.left s)).2.2.2 _ (amovR_mem hz)).2
/-- What is true at the head of the loop. -/
def BsI (F : Nat → Prop) (w1 : World) (W : Wd) (x : WA) (b : Nat) (L : List (St × Int)) (c : Int) (g10 g12 g14 g15 g16 : Nat) (a : Act) (wr : World) : Prop :=
  ∃ (v : Nat → Value) (Ds : List Nat) (s : St) (q : DD) (R : CH.Own), R.Ok ∧ (Run F w1 (star (BsO W x b L c g12 g14 g15 g16 s q Ds) R) wr ∧ BsP W L s q) ∧
    a = { tmps := #[v 0, v 1, v 2, v 3, v 4, v 5, v 6, v 7, v 8, v 9, .pointer (some ⟨g10, 0, none⟩), v 11, .pointer (some ⟨g12, 0, none⟩), v 13, .pointer (some ⟨g14, 0, none⟩), .pointer (some ⟨g15, 0, none⟩), .pointer (some ⟨g16, 0, none⟩), v 17, v 18, v 19, v 20, v 21, v 22, v 23, v 24, v 25, v 26, v 27, v 28, v 29, v 30, v 31, v 32, v 33, v 34, v 35, v 36, v 37, v 38, v 39, v 40, v 41, v 42, v 43, v 44, v 45, v 46, v 47, v 48, v 49, v 50, v 51, v 52, v 53, v 54, v 55, v 56, v 57, v 58, v 59, v 60, v 61, v 62, v 63, v 64, v 65, v 66, v 67, v 68, v 69, v 70, v 71, v 72, v 73, v 74, v 75, v 76, v 77, v 78, v 79, v 80, v 81, v 82, v 83, v 84, v 85, v 86, v 87, v 88], defers := Ds.map markD }
theorem bs_form {g10 g12 g14 g15 g16 : Nat} (tm : Array Value) (h : tm.size = 89) (h10 : tm.getD 10 undef = .pointer (some ⟨g10, 0, none⟩)) (h12 : tm.getD 12 undef = .pointer (some ⟨g12, 0, none⟩)) (h14 : tm.getD 14 undef = .pointer (some ⟨g14, 0, none⟩)) (h15 : tm.getD 15 undef = .pointer (some ⟨g15, 0, none⟩)) (h16 : tm.getD 16 undef = .pointer (some ⟨g16, 0, none⟩)) :
    ∃ v : Nat → Value, tm = #[v 0, v 1, v 2, v 3, v 4, v 5, v 6, v 7, v 8, v 9, .pointer (some ⟨g10, 0, none⟩), v 11, .pointer (some ⟨g12, 0, none⟩), v 13, .pointer (some ⟨g14, 0, none⟩), .pointer (some ⟨g15, 0, none⟩), .pointer (some ⟨g16, 0, none⟩), v 17, v 18, v 19, v 20, v 21, v 22, v 23, v 24, v 25, v 26, v 27, v 28, v 29, v 30, v 31, v 32, v 33, v 34, v 35, v 36, v 37, v 38, v 39, v 40, v 41, v 42, v 43, v 44, v 45, v 46, v 47, v 48, v 49, v 50, v 51, v 52, v 53, v 54, v 55, v 56, v 57, v 58, v 59, v 60, v 61, v 62, v 63, v 64, v 65, v 66, v 67, v 68, v 69, v 70, v 71, v 72, v 73, v 74, v 75, v 76, v 77, v 78, v 79, v 80, v 81, v 82, v 83, v 84, v 85, v 86, v 87, v 88] := by
  have e : tm = #[tm.getD 0 undef, tm.getD 1 undef, tm.getD 2 undef, tm.getD 3 undef, tm.getD 4 undef, tm.getD 5 undef, tm.getD 6 undef, tm.getD 7 undef, tm.getD 8 undef, tm.getD 9 undef, tm.getD 10 undef, tm.getD 11 undef, tm.getD 12 undef, tm.getD 13 undef, tm.getD 14 undef, tm.getD 15 undef, tm.getD 16 undef, tm.getD 17 undef, tm.getD 18 undef, tm.getD 19 undef, tm.getD 20 undef, tm.getD 21 undef, tm.getD 22 undef, tm.getD 23 undef, tm.getD 24 undef, tm.getD 25 undef, tm.getD 26 undef, tm.getD 27 undef, tm.getD 28 undef, tm.getD 29 undef, tm.getD 30 undef, tm.getD 31 undef, tm.getD 32 undef, tm.getD 33 undef, tm.getD 34 undef, tm.getD 35 undef, tm.getD 36 undef, tm.getD 37 undef, tm.getD 38 undef, tm.getD 39 undef, tm.getD 40 undef, tm.getD 41 undef, tm.getD 42 undef, tm.getD 43 undef, tm.getD 44 undef, tm.getD 45 undef, tm.getD 46 undef, tm.getD 47 undef, tm.getD 48 undef, tm.getD 49 undef, tm.getD 50 undef, tm.getD 51 undef, tm.getD 52 undef, tm.getD 53 undef, tm.getD 54 undef, tm.getD 55 undef, tm.getD 56 undef, tm.getD 57 undef, tm.getD 58 undef, tm.getD 59 undef, tm.getD 60 undef, tm.getD 61 undef, tm.getD 62 undef, tm.getD 63 undef, tm.getD 64 undef, tm.getD 65 undef, tm.getD 66 undef, tm.getD 67 undef, tm.getD 68 undef, tm.getD 69 undef, tm.getD 70 undef, tm.getD 71 undef, tm.getD 72 undef, tm.getD 73 undef, tm.getD 74 undef, tm.getD 75 undef, tm.getD 76 undef, tm.getD 77 undef, tm.getD 78 undef, tm.getD 79 undef, tm.getD 80 undef, tm.getD 81 undef, tm.getD 82 undef, tm.getD 83 undef, tm.getD 84 undef, tm.getD 85 undef, tm.getD 86 undef, tm.getD 87 undef, tm.getD 88 undef] := arr_of tm 89 h
  rw [h10, h12, h14, h15, h16] at e
  exact ⟨fun i => tm.getD i undef, e⟩
theorem bs_mk {F : Nat → Prop} {w1 wr : World} {W : Wd} {x : WA} {b : Nat} {L : List (St × Int)} {c : Int} {g10 g12 g14 g15 g16 : Nat} {tm : Array Value} {df : List Deferred} (Ds : List Nat) {s : St} {q : DD} {R : CH.Own} (h : tm.size = 89) (h10 : tm.getD 10 undef = .pointer (some ⟨g10, 0, none⟩)) (h12 : tm.getD 12 undef = .pointer (some ⟨g12, 0, none⟩)) (h14 : tm.getD 14 undef = .pointer (some ⟨g14, 0, none⟩)) (h15 : tm.getD 15 undef = .pointer (some ⟨g15, 0, none⟩)) (h16 : tm.getD 16 undef = .pointer (some ⟨g16, 0, none⟩)) (hd : df = Ds.map markD)
    (hR : R.Ok) (h1 : Run F w1 (star (BsO W x b L c g12 g14 g15 g16 s q Ds) R) wr) (hp : BsP W L s q) : BsI F w1 W x b L c g10 g12 g14 g15 g16 { tmps := tm, defers := df } wr := by
  obtain ⟨v, hv⟩ := bs_form tm h h10 h12 h14 h15 h16
  subst hd
  exact ⟨v, Ds, s, q, R, hR, ⟨h1, hp⟩, by rw [hv]⟩
def rankAt (W : Wd) (g15 : Nat) (w : World) : Nat := match w.cell? ⟨g15, 0, none⟩, w.cell? ⟨g15, 1, none⟩ with
  | some (.int _ i), some (.int _ j) => (W.l.length - i.toNat) + (W.m.length - j.toNat)
  | _, _ => 0
theorem rank_at {W : Wd} {g15 : Nat} {w w1 : World} {F : Nat → Prop} {s : St} {X : CH.Own} (h : Run F w1 (star (CellO g15 (stC s) 95) X) w) : rankAt W g15 w = W.rank s := by
  obtain ⟨c0, c1, -⟩ := run_c4 (h : Run F w1 (star (CellO g15 #[.int .i64 s.i, .int .i64 s.j, .string (bs s.a), .bool s.r] 95) X) w)
  unfold rankAt
  rw [c0, c1]
  rfl
/-- What Best answers. -/
def BestRet (w : World) (T : Tab) (k : Int) (x : Bs) (k2 : Int) (y : Bs) (e : Ending) (w' : World) : Prop :=
  ∃ (d : Dv) (er : Int) (A : Option Addr) (n c : Nat) (B : Option Addr) (m c2 : Nat) (f : Bs), e = .returned (.tuple #[.agg #[.int .i64 d.c, .slice A n c, .slice B m c2, .string (bs f)], .int .i64 er]) ∧ BestP T k x k2 y d er ∧ Below w.heap.size w w'
end Go.Proofs.YtnppgomhhcbplaaGreatDoor
