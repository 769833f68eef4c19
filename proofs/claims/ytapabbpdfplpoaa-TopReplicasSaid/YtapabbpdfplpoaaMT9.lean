/-
  Escrow: Flying.
  Escrow: New.
  Escrow: the state of a law's walk; empty; open.
  Escrow: open; the operations that come in.
  Maps whose keys are strings; rows of strings.
  Licence: names.
-/
import Derived.Test.YtapabbpdfplpoaaMT8
import Derived.Deep.LoopGhost
import Derived.OwnWalk
import Derived.Laws.OwnMore
import Derived.Test.YtapabbpdfplpoaaMT3
import Derived.Test.YtapabbpdfplpoaaMT4
set_option linter.unusedSimpArgs false
set_option linter.unusedVariables false
namespace Go.Proofs.Ytapabbpdfplpoaa
open Go.RowKit Go.CH Go.CH.Esc
open Go.ChangeMaps (setBlock)

theorem IterAt.drew {w : World} {r b : Nat} {es : Array MapEntry} {clock : Nat} {left : List MapEntry} (h : IterAt w r b es clock left) : IterAt w.drew r b es clock left := h
def keyOf : Value → Int × Int
  | .agg #[.int _ f, .int _ t] => (f, t)
  | _ => (0, 0)
theorem keyOf_pair (k : Int × Int) : keyOf (pairV .i64 k) = k := rfl
/-- What flies under an entry. -/
def fv (g : GM) (e : MapEntry) : Int := fly (g.pr (keyOf e.key))
theorem fv_all {g : GM} {gp : Int × Int → Nat} {n : Nat} {es : List MapEntry} (h : es.map (fun e => (e.key, e.val)) = (ents n gp).map (fun p => (pairV .i64 p.1, p.2))) :
    isum (es.map (fv g)) = isum ((keys n).map fun k => fly (g.pr k)) ∧ ∀ e ∈ es, keyOf e.key ∈ keys n ∧ e.val = .pointer (some ⟨gp (keyOf e.key), 0, none⟩) := by
  have h2 : es.map (fun e => (e.key, e.val)) = (keys n).map (fun k => (pairV .i64 k, Value.pointer (some ⟨gp k, 0, none⟩))) := by
    rw [h]; unfold ents; simp
  constructor
  · have h3 := congrArg (List.map fun (q : Value × Value) => fly (g.pr (keyOf q.1))) h2
    simp only [List.map_map] at h3
    have h4 : es.map (fv g) = (keys n).map fun k => fly (g.pr k) := h3
    rw [h4]
  · intro e he
    have h3 : (e.key, e.val) ∈ es.map (fun e => (e.key, e.val)) := List.mem_map.2 ⟨e, he, rfl⟩
    rw [h2] at h3
    obtain ⟨k, hk, he2⟩ := List.mem_map.1 h3
    injection he2 with h5 h6
    rw [← h5, ← h6, keyOf_pair]
    exact ⟨hk, rfl⟩
theorem isum_erase (f : MapEntry → Int) : ∀ (l : List MapEntry) (i : Nat) (hi : i < l.length), isum (l.map f) = f l[i] + isum ((l.eraseIdx i).map f)
  | e :: l, 0, _ => by simp [isum]
  | e :: l, i + 1, h => by simp [isum, isum_erase f l i (by simpa using h)]; omega
theorem run_max0 (w : World) (ty : TypeId) (k : Nat) : (Builtin.max_ #[3, 3] ty #[.int .i64 0, .int .i64 (k : Int)]).run Try.prog w = .ok (.int .i64 (k : Int)) w := by
  rcases Nat.eq_zero_or_pos k with rfl | h
  · simp [Builtin.max_, Builtin.max2]
  · have : (0 : Int) < k := by omega
    simp [Builtin.max_, Builtin.max2, this]
    omega
/-- What is read of a line. -/
structure LnR (w : World) (p : PrG) (gp : Nat) (A : Option Addr) (c : Nat) : Prop where
  k0 : w.cell? ⟨gp, 0, none⟩ = some (.slice A (p.H.drop p.conf).length c)
  k1 : w.cell? ⟨gp, 1, none⟩ = some (.int .i64 p.H.length)
  k2 : w.cell? ⟨gp, 2, none⟩ = some (.int .i64 p.rc)
  ks : Src w A (p.H.drop p.conf).length 1 (ints (p.H.drop p.conf))
  kc : (p.H.drop p.conf).length ≤ c
theorem esc_ln {g : GM} {p : Nat} {s : EscP} {w : World} {F : Nat → Prop} (h : EscS g p s w F) {k : Int × Int} (hk : k ∈ keys g.acc.length) : ∃ A c, LnR w (g.pr k) (s.gp k) A c := by
  obtain ⟨F1, F2, ⟨l, hz, hl⟩, _⟩ := escQ_out hk h
  obtain ⟨F3, F4, h3, ⟨F5, F6, h5, _⟩, _⟩ := hl
  exact ⟨l.A, l.c, cell_at h3 rfl, cell_at h3 rfl, cell_at h3 rfl, row_src h5 (ints_one _), (row_cap h5.1).1⟩
set_option maxRecDepth 100000 in
set_option maxHeartbeats 3200000 in
theorem fly_any {w : World} {F : Nat → Prop} {g : GM} {p : Nat} (h : EscO g p w F) {U : Int} (hI : Inv g U) (hlb : HB g 1000000) : Calls Try.prog 24 #[.pointer (some ⟨p, 0, none⟩)] w (BelowRet w (.int .i64 (flyG g))) := by
  obtain ⟨s, hS⟩ := h
  have hc1 := hS.read.c1
  obtain ⟨F1, F2, h1, ⟨F3, F4, h2, ⟨F5, F6, ⟨⟨es, clock, hblk, hents⟩, -⟩, -, -, -⟩, -, -⟩, -, -⟩ := id hS
  have hpos : ∀ k ∈ keys g.acc.length, 0 ≤ fly (g.pr k) := fun k hk => fly_nonneg (hI.pr k.1 k.2 (pair_mem.2 hk))
  have hle : flyG g ≤ 1000000000 := by
    have h4 : 0 ≤ haveG g := isum_nonneg (fun y hy => by obtain ⟨a, ha, rfl⟩ := List.mem_map.1 hy; exact (hI.acc a ha).1)
    have h6 : 0 ≤ spentG g := isum_nonneg (fun y hy => by obtain ⟨a, ha, rfl⟩ := List.mem_map.1 hy; exact (hI.acc a ha).2)
    have h7 := hI.tot
    have h8 := hI.U
    omega
  have hfv := fv_all (g := g) hents.1
  have HFV := hide hfv.2
  have hsum : isum (es.toList.map (fv g)) = flyG g := hfv.1
  have HP := hide hpos
  have HI := hide hI
  have HLB := hide hlb
  obtain ⟨hrange, hit0⟩ := Go.CH.run_range_map (P := Try.prog) Try.underlying99 hblk
  have HIT := hide hit0
  have HS := hide hS
  have HENT := hide hents
  have HSUM := hide hsum
  have hlt : s.bm < w.heap.size := lt_of_block hblk
  have HBLK := hide hblk
  clear hfv hsum hit0 hS hI hlb hpos hents hblk h1 h2
  go_enter Try.func24, Try.ntmps24
  go_wp2_with fail
  go_loopg [3] (es.size) (fun gk n wr => ∃ (left : List MapEntry) (v : Int), left.length = gk ∧ n = .int .i64 v ∧ v + isum (left.map (fv g)) = flyG g ∧ 0 ≤ v ∧ (∀ e ∈ left, e ∈ es.toList) ∧ IterAt wr w.heap.size s.bm es clock left ∧ Below w.heap.size w wr)
  case atStart => exact ⟨es.toList, 0, by simp, rfl, by rw [HSUM.out]; omega, by omega, fun _ h => h, HIT.out, (Below.refl _ _).alloc (Nat.le_refl _) _⟩
  case round =>
    obtain ⟨left, v, hlen, rfl, hv, hv0, hmem, hit, hbel⟩ := hrel
    have hb2 : wr.heap[s.bm]? = some (.map es clock) := by rw [hbel.block _ hlt]; exact HBLK.out
    rcases Go.CH.run_next_map (P := Try.prog) hit hb2 HENT.out.2.2.2 HENT.out.2.2.1 0 with ⟨hl0, hnx⟩ | ⟨i, hi, w1, hnx, hit1, hm1, hsz1, hen1⟩
    · have hv1 : v = flyG g := by rw [hl0] at hv; simp [isum] at hv; omega
      have HV := hide hv1
      have HBEL := hide hbel
      clear hv1 hv hbel hl0 hmem hit hb2
      go_wp2_with fail
      go_ret
      first | exact ⟨rfl, HBEL.out⟩ | exact ⟨by rw [HV.out]; rfl, HBEL.out⟩
    · have hb1 : Below w.heap.size w w1 := ⟨hm1.os.trans hbel.os, hm1.tape.trans hbel.tape, hm1.output.trans hbel.output, by rw [hsz1]; exact hbel.size, fun j hj => (hm1.block j (by have := hbel.size; omega) (by omega)).trans (hbel.block j hj)⟩
      have hbm1 : w1.heap[s.bm]? = some (.map es clock) := by rw [hb1.block _ hlt]; exact HBLK.out
      have hen := hen1 w1 rfl hbm1
      obtain ⟨hk, hval⟩ := HFV.out _ (hmem _ (List.getElem_mem hi))
      rw [hval] at hnx hen
      obtain ⟨A, c, hln⟩ := esc_ln (escS_ok.keep HS.out (fun i hi => hb1.block i (escS_ok.lt HS.out i hi))) hk
      have hpr : PrOk (g.pr (keyOf left[i].key)) (g.pr ((keyOf left[i].key).2, (keyOf left[i].key).1)) := HI.out.pr _ _ (pair_mem.2 hk)
      have hbig := HLB.out (keyOf left[i].key)
      have hfl := isum_erase (fv g) left i hi
      have hrest : 0 ≤ isum ((left.eraseIdx i).map (fv g)) := isum_nonneg (fun y hy => by
        obtain ⟨e, he, rfl⟩ := List.mem_map.1 hy
        exact HP.out _ (HFV.out _ (hmem e (List.mem_of_mem_eraseIdx he))).1)
      have hfk : fv g left[i] = fly (g.pr (keyOf left[i].key)) := rfl
      have hlen2 : (left.eraseIdx i).length = left.length - 1 := by rw [List.length_eraseIdx, if_pos hi]
      have HM := hide (fun e (he : e ∈ left.eraseIdx i) => hmem e (List.mem_of_mem_eraseIdx he))
      have HIT1 := hide hit1
      have HB1 := hide hb1
      have HV := hide hv
      generalize left[i].key = ky at *
      generalize hgk : keyOf ky = k at *
      have HHI := hide hi
      obtain ⟨k0, k1, k2, ks, kc⟩ := hln
      have hcr := hpr.cr
      have hrl := hpr.rl
      have hpos2 := hpr.pos
      generalize g.pr k = q at *
      obtain ⟨nn, hnn⟩ : ∃ nn, (q.H.drop q.conf).length = nn := ⟨_, rfl⟩
      have hnn2 : nn = q.H.length - q.conf := by rw [← hnn]; simp
      obtain ⟨kk, hkk⟩ : ∃ kk, kk = q.rc - q.conf := ⟨_, rfl⟩
      obtain ⟨m, hm⟩ : ∃ m, m = q.H.length - q.rc := ⟨_, rfl⟩
      rw [hnn] at k0 ks kc
      have hsrc := Src.cut (k := kk) (c := c) ks (by omega) kc
      have hsl := fun w => run_slice_from intsOk A nn c kk .i64 ((kk : Nat) : Int) rfl (by omega) w
      have hdr : (ints (q.H.drop q.conf)).drop (kk * 1) = ints (q.H.drop q.rc) := by
        unfold ints
        rw [Nat.mul_one, ← List.map_drop, List.drop_drop]
        congr 2; omega
      rw [hdr, show nn - kk = m by omega] at hsrc
      rw [show nn - kk = m by omega] at hsl
      have t1 : IntKind.i64.wrap ((q.H.length : Int) - q.rc) = (m : Int) := by rw [IntWalk.i64_in _ (by omega)]; omega
      have t2 : IntKind.i64.wrap ((nn : Int) - m) = (kk : Int) := by rw [IntWalk.i64_in _ (by omega)]; omega
      have hmax := fun w ty => run_max0 w ty kk
      have hfq : fly q = isum (q.H.drop q.rc) := rfl
      have hdl : (q.H.drop q.rc).length = m := by simp; omega
      generalize hLL : q.H.drop q.rc = L at *
      generalize cutA A c kk 1 = A2 at *
      have HSRC := hide hsrc
      have HDL := hide hdl
      have hLp : ∀ x ∈ L, 0 ≤ x := fun x hx => by have := hpos2 x (by rw [← hLL] at hx; exact List.mem_of_mem_drop hx); omega
      have HLP := hide hLp
      have hvb : v + isum L ≤ 1000000000 := by omega
      have HFK := hide (show isum (left.map (fv g)) = isum L + isum ((left.eraseIdx i).map (fv g)) by rw [hfl, hfk, hfq])
      have HL2 := hide hlen2
      have hm6 : m ≤ 1000000 := by omega
      clear hfl hfk hfq hdl hLp hpos2 hsrc hdr hkk hm hnn hnn2 hcr hrl hlen2 hit1 hb1 hv hmem hen1 hm1 hsz1 hbel hit hb2 hval hk hrest hpr hbig ks kc hgk hLL hi hbm1 hle
      generalize (q.H.length : Int) = hl at *
      go_wp2_with fail
      refine wp_region_lex (fun w' => w'.cell? ⟨s.gp k, 0, none⟩ = some (.slice A nn c) ∧ w'.cell? ⟨s.gp k, 1, none⟩ = some (.int .i64 hl) ∧ w'.cell? ⟨s.gp k, 2, none⟩ = some (.int .i64 q.rc)) (by kernel_rfl) (by kernel_rfl) ⟨k0, k1, k2⟩ ?_
      (repeat (first | (refine lex_skip (by rfl) ?_; try simp only [Act.put, List.setIfInBounds_toArray, List.set_cons_zero, List.set_cons_succ]) | (refine lex_read (v := ?_) (by rfl) ?_ ?_; rotate_left; (focus (intro w' hS'; go_simp; (try with_reducible rfl); done)); try simp only [Act.put, List.setIfInBounds_toArray, List.set_cons_zero, List.set_cons_succ])))
      refine lex_nil ?_
      clear t1 t2 hmax hsl k0 k1 k2
      go_wp2_with fail
      have hsr2 : Src w1.drew A2 m 1 (ints L) := HSRC.out
      have HSR2 := hide hsr2
      clear hsr2
      go_loop [3, 41] (fun n i => ∃ j : Nat, j ≤ m ∧ i = .int .i64 j ∧ n = .int .i64 (v + isum (L.take j))) (fun _ i => m - (intOf i).toNat)
      case atStart => exact ⟨0, Nat.zero_le _, rfl, by simp [isum]⟩
      case round =>
        obtain ⟨j, hj, rfl, rfl⟩ := hrel
        by_cases hlt : j < m
        · obtain ⟨b, o, hA2, hcell⟩ := HSR2.out.open_ (by omega) (by omega)
          have hjl : j < L.length := by rw [HDL.out]; exact hlt
          have c0 := hcell j (.int .i64 L[j]) (by simp [ints, hjl])
          have hs := isum_take L j hjl
          have hb1 := isum_take_le HLP.out j
          have hb2 := isum_take_le HLP.out (j + 1)
          have hx : 0 ≤ L[j] := HLP.out _ (List.getElem_mem hjl)
          generalize L[j] = x at *
          have hsum2 : v + isum (L.take j) + x ≤ 1000000000 := by omega
          have hsum1 : 0 ≤ v + isum (L.take j) := by omega
          have HS2 := hide (show v + isum (L.take (j + 1)) = v + isum (L.take j) + x by omega)
          subst hA2
          clear hcell hs hb1 hb2 hjl
          generalize v + isum (L.take j) = v2 at *
          go_wp2
          go_round
          case rel => exact ⟨j + 1, by omega, by go_num, by rw [HS2.out]⟩
          case measure => simp [intOf]; omega
        · have hjm : j = m := by omega
          have hv2 : v + isum (L.take j) = v + isum L := by rw [List.take_of_length_le (by rw [HDL.out]; omega)]
          rw [hv2]
          have hv3 : 0 ≤ v + isum L := by have := isum_nonneg HLP.out; omega
          have HV3 := hide hv3
          clear hv2 hjm hvb hv3
          generalize hve : v + isum L = ve at *
          have HVE := hide hve
          clear hve
          go_wp2_with fail
          go_roundg (left.length - 1)
          case measure => have := HHI.out; omega
          case rel => exact ⟨left.eraseIdx i, ve, HL2.out, rfl, by have h1 := HFK.out; have h2 := HV.out; have h3 := HVE.out; omega, HV3.out, HM.out, IterAt.drew HIT1.out, below_drew HB1.out⟩
end Go.Proofs.Ytapabbpdfplpoaa
namespace Go.Proofs.Ytapabbpdfplpoaa
open Go.RowKit Go.CH Go.CH.Esc
open Go.ChangeMaps (setBlock)

theorem accOk : SliceOk Try.prog 98 103 (.agg #[.int .i64 0, .int .i64 0, .bool false]) 3 24 := ⟨Try.underlying98, by kernel_rfl, rfl, by decide⟩
theorem made_accs (n : Nat) : (madeCells #[Value.int .i64 0, .int .i64 0, .bool false] (n * 3)).toList = (List.replicate n (⟨0, 0, false⟩ : Acc)).flatMap accL := by
    have h : ∀ n : Nat, (List.range (n * 3)).map (fun i => (#[Value.int .i64 0, .int .i64 0, .bool false] : Array Value)[i % 3]!) = (List.replicate n (⟨0, 0, false⟩ : Acc)).flatMap accL := by
      intro n
      induction n with
      | zero => rfl
      | succ n ih =>
        rw [List.replicate_succ', List.flatMap_append, ← ih, show (n + 1) * 3 = n * 3 + 1 + 1 + 1 by omega, List.range_succ, List.range_succ, List.range_succ]
        simp only [List.map_append, List.map_cons, List.map_nil, List.append_assoc, List.flatMap_cons, List.flatMap_nil, List.append_nil]
        rw [show n * 3 % 3 = 0 by omega, show (n * 3 + 1) % 3 = 1 by omega, show (n * 3 + 1 + 1) % 3 = 2 by omega]
        rfl
    rw [← h n]
    simp [madeCells]
theorem wpList_make_acc {w : World} {ops : Array Oper} {rest : List Oper} {o : Oper} {a : Act} {Q : Exit → Act → World → Prop} (hg : o.guard = none) (l c : Operand) (hop : o.op = Op.makeSlice 98 l c) (n : Nat) (hn : n ≤ 1000)
    (hl : a.eval l = .int .i64 n) (hc : a.eval c = .int .i64 n)
    (hK : ∀ w', Post w (fun _ => False) (RowO 103 3 (.slice (some ⟨w.heap.size, 0, none⟩) n n) n ((List.replicate n (⟨0, 0, false⟩ : Acc)).flatMap accL)) w' → wpList Try.prog ops Q rest (a.put o.dst (.slice (some ⟨w.heap.size, 0, none⟩) n n)) w') :
    wpList Try.prog ops Q (o :: rest) a w := by
  obtain ⟨ht, hi, hz, hsz⟩ := accOk
  obtain ⟨i, hi, hi1, hi2, hi3⟩ := info_parts hi
  refine wpList_make_full w hg l c 98 hop w.heap.size 103 i _ 3 ht hi hi1 hi2 .i64 .i64 n n n hl hc rfl rfl (by rw [hi3]; omega) (by simp only [maxLen]; omega) (Nat.le_refl _) (fun w' h1 h2 => ?_)
  refine hK w' (row_new ?_ (Mod.below (F := fun _ => False) (Mod.of_grown h2 (fun k hk => by cases hk)) (fun _ _ h => h)))
  rw [← made_accs]; exact h1

/-! ### The keys, one after the other -/
def rowK (i : Nat) (j : Nat) : List (Int × Int) := ((List.range j).filter fun t : Nat => decide (i ≠ t)).map fun t : Nat => ((i : Int), (t : Int))
def preK (n i j : Nat) : List (Int × Int) := (List.range i).flatMap (fun f => rowK f n) ++ rowK i j
theorem preK_all (n : Nat) : preK n n 0 = keys n := by simp [preK, rowK, keys]
theorem preK_zero (n : Nat) : preK n 0 0 = [] := by simp [preK, rowK]
theorem preK_next (n i : Nat) : preK n i n = preK n (i + 1) 0 := by simp [preK, List.range_succ, rowK]
theorem preK_eq (n i : Nat) : preK n i (i + 1) = preK n i i := by simp [preK, rowK, List.range_succ, List.filter_append]
theorem preK_ne (n i j : Nat) (h : i ≠ j) : preK n i (j + 1) = preK n i j ++ [((i : Int), (j : Int))] := by simp [preK, rowK, List.range_succ, List.filter_append, h]
theorem preK_new (n i j : Nat) : ((i : Int), (j : Int)) ∉ preK n i j := by
  simp only [preK, rowK, List.mem_append, List.mem_flatMap, List.mem_range, List.mem_map, List.mem_filter, Prod.mk.injEq, not_or]
  refine ⟨?_, ?_⟩
  · rintro ⟨a, ha, t, _, h1, _⟩; omega
  · rintro ⟨t, ⟨h1, _⟩, _, h2⟩; omega
theorem mput_new {α : Type} [DecidableEq α] {k : α} {v : Value} : ∀ {l : List (α × Value)}, k ∉ l.map (·.1) → mput l k v = l ++ [(k, v)]
  | [], _ => rfl
  | (a, u) :: l, h => by
    simp only [List.map_cons, List.mem_cons, not_or] at h
    simp only [mput, if_neg h.1, mput_new h.2, List.cons_append]
def entsK (K : List (Int × Int)) (gp : Int × Int → Nat) : List ((Int × Int) × Value) := K.map fun k => (k, .pointer (some ⟨gp k, 0, none⟩))
theorem entsK_new {K : List (Int × Int)} {gp : Int × Int → Nat} {k : Int × Int} (q : Nat) (h : k ∉ K) : mput (entsK K gp) k (.pointer (some ⟨q, 0, none⟩)) = entsK (K ++ [k]) (fun x => if x = k then q else gp x) := by
  rw [mput_new (by unfold entsK; simpa [Function.comp_def] using h)]
  unfold entsK
  rw [List.map_append]
  congr 1
  · refine List.map_congr_left fun x hx => ?_
    have : x ≠ k := fun e => h (e ▸ hx)
    simp [this]
  · simp
theorem bigK_new {K : List (Int × Int)} {gp : Int × Int → Nat} {k : Int × Int} (q : Nat) (h : k ∉ K) : bigK (K ++ [k]) (fun x => LineO p0 ((fun x => if x = k then q else gp x) x)) = star (LineO p0 q) (bigK K fun x => LineO p0 (gp x)) := by
  have h1 : bigK (K ++ [k]) (fun x => LineO p0 ((fun x => if x = k then q else gp x) x)) = star (LineO p0 ((fun x => if x = k then q else gp x) k)) (bigK K fun x => LineO p0 ((fun x => if x = k then q else gp x) x)) := by
    unfold bigK
    rw [List.map_append, List.map_singleton, big_last]
  rw [h1]
  congr 1
  · simp
  · refine bigK_congr fun x hx => ?_
    have : x ≠ k := fun e => h (e ▸ hx)
    simp [this]
theorem star_none {A B : Own} {w : World} {F : Nat → Prop} (ha : A w F) (hb : B w (fun _ => False)) : star A B w F := ⟨F, fun _ => False, ha, hb, fun _ _ h => h, fun i => by simp⟩
theorem line_new (w : World) : Post w (fun _ => False) (LineO p0 w.heap.size) (w.alloc (.cells #[.slice none 0 0, .int .i64 0, .int .i64 0, .slice none 0 0] 109)) := by
  obtain ⟨F', h1, h2, h3⟩ := cell_new w #[.slice none 0 0, .int .i64 0, .int .i64 0, .slice none 0 0] 109
  exact ⟨F', ⟨⟨none, 0, none, 0, []⟩, ⟨rfl, by simp⟩, star_none h1 (star_none (row_nil _ _ _) (arow_nil _ _ _))⟩, h2, h3⟩
theorem map_put {α : Type} [DecidableEq α] {P : Program} {kv : α → Value} {t K E : TypeId} (H : KeyOk P K kv) (ht : P.underlying t = some (.map K E)) {b : Nat} {l : List (α × Value)} {w : World} {F : Nat → Prop} (h : MapO kv b l w F) (k : α) (v : Value) :
    ∃ w', (Instr.mapUpdate t (.map (some b)) (kv k) v).run P w = .ok () w' ∧ Post w F (MapO kv b (mput l k v)) w' := by
  obtain ⟨⟨es, clock, h1, h2⟩, hF⟩ := h
  obtain ⟨es', clock', h3, h4⟩ := run_mapUpdate H ht h2 b k v
  exact ⟨_, h4 w h1, F, ⟨⟨es', clock', heap_setBlock_self h1, h3⟩, hF⟩, (Mod.refl _ _).setBlock _ (fun _ => (hF b).2 rfl), fun i hi => .inl hi⟩
/-- An escrow in the making. -/
def NewO (r : Nat) (u : Int) (p bA bm : Nat) (K : List (Int × Int)) (gp : Int × Int → Nat) : Own :=
  star (CellO p #[.slice (some ⟨bA, 0, none⟩) r r, .map (some bm)] 101) (star (RowO 103 3 (.slice (some ⟨bA, 0, none⟩) r r) r ((newG r u).acc.flatMap accL)) (star (MapO (pairV .i64) bm (entsK K gp)) (bigK K fun k => LineO p0 (gp k))))
theorem newO_ok {r : Nat} {u : Int} {p bA bm : Nat} {K : List (Int × Int)} {gp : Int × Int → Nat} : (NewO r u p bA bm K gp).Ok := star_ok cell_ok (star_ok row_ok (star_ok map_ok (bigK_ok (fun _ => lineO_ok))))
theorem newO_all {r : Nat} (hr : 1 ≤ r) {u : Int} {p bA bm : Nat} {gp : Int × Int → Nat} : NewO r u p bA bm (keys r) gp = EscS (newG r u) p ⟨some ⟨bA, 0, none⟩, r, bm, gp⟩ := by
  unfold NewO EscS
  rw [len_new hr]
  rfl
set_option maxHeartbeats 1600000 in
theorem new_no (r u : Int) (w : World) (h : r < 1 ∨ 8 < r ∨ u < 0 ∨ 1000000000 < u) : Calls Try.prog 18 #[.int .i64 r, .int .i64 u] w (Quiet w (.tuple #[.pointer none, .int .i64 1])) := by
  by_cases h1 : r < 1
  · clear h
    go_enter Try.func18, Try.ntmps18
    go_wp2
    go_ret2
    exact ⟨rfl, rfl⟩
  · by_cases h2 : 8 < r
    · clear h
      go_enter Try.func18, Try.ntmps18
      go_wp2
      go_ret2
      exact ⟨rfl, rfl⟩
    · by_cases h3 : u < 0
      · clear h
        go_enter Try.func18, Try.ntmps18
        go_wp2
        go_ret2
        exact ⟨rfl, rfl⟩
      · have h4 : 1000000000 < u := by omega
        clear h
        go_enter Try.func18, Try.ntmps18
        go_wp2
        go_ret2
        exact ⟨rfl, rfl⟩
def NewRet (w : World) (g : GM) (e : Ending) (w' : World) : Prop := ∃ p, e = .returned (.tuple #[.pointer (some ⟨p, 0, none⟩), .int .i64 0]) ∧ Post w (fun _ => False) (EscO g p) w'
set_option maxRecDepth 100000 in
set_option maxHeartbeats 3200000 in
theorem new_ok (r : Nat) (u : Int) (w : World) (h1 : 1 ≤ r) (h2 : r ≤ 8) (h3 : 0 ≤ u) (h4 : u ≤ 1000000000) : Calls Try.prog 18 #[.int .i64 r, .int .i64 u] w (NewRet w (newG r u)) := by
  have i1 : ¬ ((r : Int) < 1) := by omega
  have i2 : ¬ ((8 : Int) < r) := by omega
  have i3 : ¬ (u < 0) := by omega
  have i4 : ¬ (1000000000 < u) := by omega
  have hmk : ∀ w : World, (Instr.makeMap 99 none).run Try.prog w = .ok (.map (some w.heap.size)) (w.alloc (.map #[] 0)) := fun w => by kernel_rfl
  go_enter Try.func18, Try.ntmps18
  go_wp2_with (refine wpList_make_acc rfl (.tmp 23) (.tmp 23) rfl r (by omega) rfl rfl ?_; refine held ?_)
  refine Held.mk fun w1 hP1 => ?_
  have R1 := (Run.begin w).fresh emp_ok hP1
  generalize hbA : w.heap.size = bA at *
  have R2 := (R1.fresh (star_ok row_ok emp_ok) (map_new (kv := pairV .i64) w1))
  have R3 := R2.fresh (star_ok map_ok (star_ok row_ok emp_ok)) (cell_new (w1.alloc (.map #[] 0)) #[.slice (some ⟨bA, 0, none⟩) r r, .map (some w1.heap.size)] 101)
  have hsz : (w1.alloc (.map #[] 0)).heap.size = w1.heap.size + 1 := by simp
  rw [hsz] at R3
  obtain ⟨FC, hC⟩ := R3.fst
  have c0 := cell_at hC (i := 0) rfl
  obtain ⟨FR, hR⟩ := R3.rot3.fst
  have af := row_free hR 0 (by omega)
  have a0 := row_cell hR (i := 0) (v := .int .i64 0) (by cases r with | zero => omega | succ r => rfl)
  obtain ⟨FA, hA, -, bk⟩ := R3.rot3.take row_ok (star_ok cell_ok (star_ok map_ok emp_ok))
  have hset := row_set hA (i := 0) (by omega) (.int .i64 u)
  have R4 := bk _ _ hset
  have R5 : Run (fun _ => False) w (NewO r u (w1.heap.size + 1) bA w1.heap.size (preK r 0 0) (fun _ => 0)) _ := R4.perm (by
    have e : ((List.replicate r (⟨0, 0, false⟩ : Acc)).flatMap accL).set 0 (.int .i64 u) = (newG r u).acc.flatMap accL := by
      cases r with
      | zero => omega
      | succ r => rfl
    rw [e, preK_zero]
    unfold NewO bigK entsK
    show star _ (star _ (star _ emp)) = star _ (star _ (star _ emp))
    ac_rfl)
  have HR5 := hide R5
  clear R1 R2 R3 hC hR hA hset R4 bk hP1 R5 hbA
  go_wp2_with fail
  generalize hbm : w1.heap.size = bm at *
  generalize hp : bm + 1 = p at *
  clear hbm hp c0 a0 af hsz
  go_loopw [36] (fun i wr => ∃ (k : Nat) (gp : Int × Int → Nat), k ≤ r ∧ i = .int .i64 k ∧ Run (fun _ => False) w (NewO r u p bA bm (preK r k 0) gp) wr) (fun i _ => r - (intOf i).toNat)
  case atStart => exact ⟨0, _, Nat.zero_le _, rfl, HR5.out⟩
  case round =>
    obtain ⟨k, gp, hk, rfl, hr⟩ := hrel
    have HR := hide hr
    clear hr HR5
    by_cases hlt : k < r
    · go_wp2_with fail
      go_loopw [40] (fun i wr => ∃ (j : Nat) (gp : Int × Int → Nat), j ≤ r ∧ i = .int .i64 j ∧ Run (fun _ => False) w (NewO r u p bA bm (preK r k j) gp) wr) (fun i _ => r - (intOf i).toNat)
      case atStart => exact ⟨0, _, Nat.zero_le _, rfl, HR.out⟩
      case round =>
        obtain ⟨j, gp2, hj, rfl, hr2⟩ := hrel
        by_cases hlt2 : j < r
        · by_cases hkj : k = j
          · subst hkj
            rw [← preK_eq] at hr2
            have HR2 := hide hr2
            clear hr2 HR
            go_wp2_with fail
            go_roundw
            case rel => exact ⟨k + 1, gp2, by omega, by go_num, HR2.out⟩
            case measure => simp [intOf]; omega
          · have hkj2 : ¬ ((k : Int) = (j : Int)) := by omega
            have hkj3 : ((k : Int) == (j : Int)) = false := by simpa using hkj2
            have hkj4 : ((k : Int) != (j : Int)) = true := by simpa using hkj2
            have R1 := hr2.fresh newO_ok (line_new wr)
            obtain ⟨F1, hM, -, bk⟩ := (R1.perm (by unfold NewO; ac_rfl : _ = star (MapO (pairV .i64) bm (entsK (preK r k j) gp2)) (star (LineO p0 wr.heap.size) (star (CellO p #[.slice (some ⟨bA, 0, none⟩) r r, .map (some bm)] 101) (star (RowO 103 3 (.slice (some ⟨bA, 0, none⟩) r r) r ((newG r u).acc.flatMap accL)) (bigK (preK r k j) fun k => LineO p0 (gp2 k))))))).take map_ok (star_ok lineO_ok (star_ok cell_ok (star_ok row_ok (bigK_ok (fun _ => lineO_ok)))))
            obtain ⟨w4, hmu, hP⟩ := map_put (P := Try.prog) keyOk Try.underlying99 hM ((k : Int), (j : Int)) (.pointer (some ⟨wr.heap.size, 0, none⟩))
            simp only [pairV] at hmu
            rw [entsK_new _ (preK_new r k j)] at hP
            have R2 := bk _ _ hP
            have R3 : Run (fun _ => False) w (NewO r u p bA bm (preK r k (j + 1)) (fun x => if x = ((k : Int), (j : Int)) then wr.heap.size else gp2 x)) w4 := R2.perm (by
              unfold NewO
              rw [preK_ne r k j hkj, bigK_new wr.heap.size (preK_new r k j)]
              ac_rfl)
            obtain ⟨FC, hC⟩ := hr2.fst
            have c1 := cell_at hC (i := 1) rfl
            have HR3 := hide R3
            generalize (fun x => if x = ((k : Int), (j : Int)) then wr.heap.size else gp2 x) = gp3 at *
            clear hr2 R1 hM bk hP R2 R3 hC HR hkj
            go_wp2_with fail
            go_roundw
            case rel => exact ⟨j + 1, gp3, by omega, by go_num, HR3.out⟩
            case measure => simp [intOf]; omega
        · obtain rfl : j = r := by omega
          rw [preK_next] at hr2
          have HR2 := hide hr2
          clear hr2 HR
          go_wp2_with fail
          go_roundw
          case rel => exact ⟨k + 1, gp2, by omega, by go_num, HR2.out⟩
          case measure => simp [intOf]; omega
    · obtain rfl : k = r := by omega
      have R6 := HR.out
      rw [preK_all, newO_all h1] at R6
      have HP := hide (R6.post escS_ok)
      clear R6 HR
      go_wp2_with fail
      go_ret2
      obtain ⟨F', q1, q2, q3⟩ := HP.out
      exact ⟨p, rfl, F', ⟨_, q1⟩, q2, q3⟩
end Go.Proofs.Ytapabbpdfplpoaa
namespace Go.Proofs.Ytapabbpdfplpoaa
open Go.RowKit Go.CH Go.CH.Esc
open Go.ChangeMaps (setBlock)

/-- The state of a walk that began in w0 and owns X besides the escrow g at p. -/
structure St (U : Int) (n : Nat) (w0 : World) (X : Own) (p : Nat) (g : GM) (W : World) : Prop where
  run : Run (fun _ => False) w0 (star (EscO g p) X) W
  inv : Inv g U
  hb : HB g n
  xo : X.Ok
def StRet (U : Int) (n : Nat) (w0 : World) (X : Own) (p : Nat) (g : GM) (v : Value) (e : Ending) (W : World) : Prop := e = .returned v ∧ St U n w0 X p g W
section
variable {U : Int} {n : Nat} {w0 : World} {X : Own} {p : Nat} {g : GM} {W : World}
theorem St.below (h : St U n w0 X p g W) {W' : World} (hb : Below W.heap.size W W') : St U n w0 X p g W' := ⟨h.run.below (star_ok escO_ok h.xo) hb, h.inv, h.hb, h.xo⟩
theorem St.drew (h : St U n w0 X p g W) : St U n w0 X p g W.drew := h.below (below_drew (Below.refl _ _))
theorem St.bel (h : St U n w0 X p g W) : Below w0.heap.size w0 W := h.run.bel
theorem St.up (h : St U n w0 X p g W) {m : Nat} (hm : n ≤ m) : St U m w0 X p g W := ⟨h.run, h.inv, h.hb.mono hm, h.xo⟩
theorem St.call (h : St U n w0 X p g W) {f : FuncId} {args : Array Value} {v : Value} {g' : GM} {n' : Nat} (hc : ∀ F, EscO g p W F → Calls Try.prog f args W (EPost W F v g' p)) (hi : Inv g' U) (hb : HB g' n') :
    Calls Try.prog f args W (StRet U n' w0 X p g' v) := by
  obtain ⟨F, hA, -, bk⟩ := h.run.take escO_ok h.xo
  refine (hc F hA).mono fun e W' hp => ?_
  obtain ⟨he, hp⟩ := hp
  exact ⟨he, bk _ _ hp, hi, hb, h.xo⟩
theorem St.quiet (h : St U n w0 X p g W) {f : FuncId} {args : Array Value} {v : Value} (hc : ∀ F, EscO g p W F → Calls Try.prog f args W (Quiet W v)) : Calls Try.prog f args W (StRet U n w0 X p g v) := by
  obtain ⟨F, hA, -, bk⟩ := h.run.take escO_ok h.xo
  refine (hc F hA).mono fun e W' hp => ?_
  obtain ⟨he, rfl⟩ := hp
  exact ⟨he, h⟩
theorem St.bret (h : St U n w0 X p g W) {f : FuncId} {args : Array Value} {v : Value} (hc : ∀ F, EscO g p W F → Calls Try.prog f args W (BelowRet W v)) : Calls Try.prog f args W (StRet U n w0 X p g v) := by
  obtain ⟨F, hA, -, bk⟩ := h.run.take escO_ok h.xo
  refine (hc F hA).mono fun e W' hp => ?_
  obtain ⟨he, hb⟩ := hp
  exact ⟨he, h.below hb⟩
theorem st_spend (h : St U n w0 X p g W) (r k : Int) (hk : -9223372036854775808 ≤ k ∧ k ≤ 9223372036854775807) : Calls Try.prog 33 #[.pointer (some ⟨p, 0, none⟩), .int .i64 r, .int .i64 k] W (StRet U n w0 X p (spendM g r k) (.int .i64 (spendE g r k))) :=
  h.call (fun F hA => spend_any hA h.inv r k hk) (h.inv.spend r k) (h.hb.spend r k)
theorem st_ret (h : St U n w0 X p g W) (r k : Int) (hk : -9223372036854775808 ≤ k ∧ k ≤ 9223372036854775807) : Calls Try.prog 35 #[.pointer (some ⟨p, 0, none⟩), .int .i64 r, .int .i64 k] W (StRet U n w0 X p (retM g r k) (.int .i64 (retE g r k))) :=
  h.call (fun F hA => ret_any hA h.inv r k hk) (h.inv.ret r k) (h.hb.ret r k)
theorem st_give (h : St U n w0 X p g W) (hn : n ≤ 1000000) (f t k : Int) : Calls Try.prog 32 #[.pointer (some ⟨p, 0, none⟩), .int .i64 f, .int .i64 t, .int .i64 k] W (StRet U (n + 1) w0 X p (giveM g f t k) (.int .i64 (giveE g f t k))) :=
  h.call (fun F hA => give_any hA h.inv f t k (Nat.le_trans (h.hb _) hn)) (h.inv.give f t k) (h.hb.give f t k)
theorem st_send (h : St U n w0 X p g W) (hn : n ≤ 1000000) (f t : Int) : Calls Try.prog 31 #[.pointer (some ⟨p, 0, none⟩), .int .i64 f, .int .i64 t] W (StRet U n w0 X p (sendM g f t) (.int .i64 (sendE g f t))) :=
  h.call (fun F hA => send_any hA h.inv f t (Nat.le_trans (h.hb _) hn)) (h.inv.send f t) (h.hb.send f t)
theorem st_del (h : St U n w0 X p g W) (hn : n ≤ 1000000) (f t : Int) (lost again : Bool) : Calls Try.prog 29 #[.pointer (some ⟨p, 0, none⟩), .int .i64 f, .int .i64 t, .bool lost, .bool again] W (StRet U n w0 X p (delM g f t lost again) (.bool (delE g f t))) :=
  h.call (fun F hA => del_any_ hA h.inv (h.hb.mono hn) f t lost again) (h.inv.del f t lost again) (h.hb.del f t lost again)
theorem st_rev (h : St U n w0 X p g W) (r : Int) : Calls Try.prog 34 #[.pointer (some ⟨p, 0, none⟩), .int .i64 r] W (StRet U n w0 X p (revM g r) (.int .i64 (revE g r))) :=
  h.call (fun F hA => rev_any hA h.inv r) (h.inv.revoke r) (h.hb.revoke r)
theorem st_have (h : St U n w0 X p g W) (r : Int) : Calls Try.prog 26 #[.pointer (some ⟨p, 0, none⟩), .int .i64 r] W (StRet U n w0 X p g (.int .i64 (have_ g r))) :=
  h.quiet (fun F hA => have_esc hA h.inv r)
theorem st_spent (h : St U n w0 X p g W) : Calls Try.prog 22 #[.pointer (some ⟨p, 0, none⟩)] W (StRet U n w0 X p g (.int .i64 (spentG g))) :=
  h.bret (fun F hA => spent_any hA h.inv)
theorem st_fly (h : St U n w0 X p g W) (hn : n ≤ 1000000) : Calls Try.prog 24 #[.pointer (some ⟨p, 0, none⟩)] W (StRet U n w0 X p g (.int .i64 (flyG g))) :=
  h.bret (fun F hA => fly_any hA h.inv (h.hb.mono hn))
theorem st_do (h : St U n w0 X p g W) (hn : n ≤ 1000000) (x : ActG) (hu : -9223372036854775808 ≤ x.u ∧ x.u ≤ 9223372036854775807) : Calls Try.prog 20 #[.pointer (some ⟨p, 0, none⟩), .agg (actV x)] W (StRet U (n + 1) w0 X p (doM g x) (.tuple #[.int .i64 (doE g x), .bool (doB g x)])) :=
  h.call (fun F hA => do_any hA h.inv (h.hb.mono hn) x hu) (h.inv.do x) (h.hb.do x)
end
/-- A new escrow, in a walk that owns X. -/
theorem st_new {w0 W : World} {X : Own} (hX : X.Ok) (h : Run (fun _ => False) w0 X W) (r : Nat) (u : Int) (h1 : 1 ≤ r) (h2 : r ≤ 8) (h3 : 0 ≤ u) (h4 : u ≤ 1000000000) :
    Calls Try.prog 18 #[.int .i64 r, .int .i64 u] W (fun e W' => ∃ p, e = .returned (.tuple #[.pointer (some ⟨p, 0, none⟩), .int .i64 0]) ∧ St u 0 w0 X p (newG r u) W') := by
  refine (new_ok r u W h1 h2 h3 h4).mono fun e W' hp => ?_
  obtain ⟨p, he, hp⟩ := hp
  exact ⟨p, he, h.fresh hX hp, Inv.new h1 h2 h3 h4, HB.new r u, hX⟩
/-- How many deliveries empty a queue. -/
def emptyN (g : GM) (f t : Int) : Nat := if g.pair f t = true then (g.pr (f, t)).ms.length else 0
theorem emptyM_eq (g : GM) (f t : Int) : emptyM g f t = delN f t (emptyN g f t) g := by
  unfold emptyM emptyN
  split <;> rfl
theorem emptyN_le {g : GM} {U : Int} (h : Inv g U) (f t : Int) : emptyN g f t ≤ 100 := by
  unfold emptyN
  split
  · rename_i hp; exact (h.pr f t hp).msl
  · omega
theorem emptyN_del (g : GM) (f t : Int) (j : Nat) (hj : j ≤ emptyN g f t) : delE (delN f t j g) f t = decide (j < emptyN g f t) := by
  unfold emptyN at *
  by_cases hp : g.pair f t = true
  · rw [if_pos hp] at hj ⊢
    obtain ⟨D, h2, -⟩ := delN_all f t _ g hp rfl j hj
    unfold delE
    rw [D.pair, hp, h2, Bool.true_and]
    by_cases hlt : j < (g.pr (f, t)).ms.length
    · rw [decide_eq_true hlt]
      cases hd : (g.pr (f, t)).ms.drop j with
      | nil => have := congrArg List.length hd; simp at this; omega
      | cons a l => rfl
    · rw [decide_eq_false hlt, List.drop_eq_nil_of_le (by omega)]; rfl
  · rw [if_neg hp] at hj ⊢
    obtain rfl : j = 0 := by omega
    unfold delN delE
    simp [hp]
set_option maxHeartbeats 1600000 in
theorem st_empty {U : Int} {n : Nat} {w0 : World} {X : Own} {p : Nat} {g : GM} {W : World} (h : St U n w0 X p g W) (hn : n ≤ 1000000) (f t : Int) : Calls Try.prog 30 #[.pointer (some ⟨p, 0, none⟩), .int .i64 f, .int .i64 t] W (StRet U n w0 X p (emptyM g f t) (.bool true)) := by
  have hle := emptyN_le h.inv f t
  have H := hide h
  rw [emptyM_eq]
  have HD := hide (fun j hj => emptyN_del g f t j hj)
  generalize emptyN g f t = N at *
  clear h
  go_enter Try.func30, Try.ntmps30
  go_wp2_with fail
  go_loopw [7] (fun i wr => ∃ j : Nat, j ≤ N ∧ i = .int .i64 j ∧ St U n w0 X p (delN f t j g) wr) (fun i _ => 101 - (intOf i).toNat)
  case atStart => exact ⟨0, Nat.zero_le _, rfl, H.out⟩
  case round =>
    obtain ⟨j, hj, rfl, hS⟩ := hrel
    have hd := HD.out j hj
    have KD := hide (st_del hS hn f t false false)
    rw [hd, ← delN_succ] at KD
    clear hS hd H
    have hj1 : (j : Int) ≤ 100 := by omega
    by_cases hlt : j < N
    · rw [decide_eq_true hlt] at KD
      go_wp2_with fail
      refine KD.out.mono ?_
      rintro e w' ⟨rfl, hS⟩
      have HS := hide hS
      clear hS
      go_wp2_with fail
      go_roundw
      case rel => exact ⟨j + 1, by omega, by go_num, HS.out⟩
      case measure => simp [intOf]; omega
    · rw [decide_eq_false hlt] at KD
      obtain rfl : j = N := by omega
      have hE : delE (delN f t j g) f t = false := by rw [HD.out j (Nat.le_refl _)]; simp
      have HE := hide (show delN f t (j + 1) g = delN f t j g by rw [delN_succ]; unfold delM; rw [if_neg (by simp [hE])])
      clear hE
      go_wp2_with fail
      refine KD.out.mono ?_
      rintro e w' ⟨rfl, hS⟩
      rw [HE.out] at hS
      have HS := hide hS
      clear hS
      go_wp2_with fail
      go_ret
      exact ⟨rfl, HS.out⟩
end Go.Proofs.Ytapabbpdfplpoaa
namespace Go.Proofs.Ytapabbpdfplpoaa
open Go.RowKit Go.CH Go.CH.Esc
open Go.ChangeMaps (setBlock)

def actL (x : ActG) : List Value := [.int .i64 x.k, .int .i64 x.a, .int .i64 x.b, .int .i64 x.u, .bool x.lost, .bool x.again]
theorem actL_len (x : ActG) : (actL x).length = 6 := rfl
def actOk (x : ActG) : Prop := (-9223372036854775808 ≤ x.u ∧ x.u ≤ 9223372036854775807) ∧ (-9223372036854775808 ≤ x.a ∧ x.a ≤ 9223372036854775807) ∧ (-9223372036854775808 ≤ x.b ∧ x.b ≤ 9223372036854775807)
/-- The slice holds these operations. -/
structure Acts (w : World) (A : Option Addr) (n : Nat) (l : List ActG) : Prop where
  len : l.length = n
  src : Src w A n 6 (l.flatMap actL)
  ok : ∀ x ∈ l, actOk x
theorem Acts.run {w0 W : World} {A : Option Addr} {n : Nat} {l : List ActG} (h : Acts w0 A n l) {O : Own} (hr : Run (fun _ => False) w0 O W) : Acts W A n l := ⟨h.len, hr.src0 h.src, h.ok⟩
/-- The j-th operation's cells. -/
theorem Acts.at_ {w : World} {A : Option Addr} {n : Nat} {l : List ActG} (h : Acts w A n l) {j : Nat} (hj : j < n) : ∃ b o, A = some ⟨b, o, none⟩ ∧
    w.cell? ⟨b, o + j * 6, none⟩ = some (.int .i64 (l[j]'(by rw [h.len]; exact hj)).k) ∧ w.cell? ⟨b, o + j * 6 + 1, none⟩ = some (.int .i64 (l[j]'(by rw [h.len]; exact hj)).a) ∧ w.cell? ⟨b, o + j * 6 + 2, none⟩ = some (.int .i64 (l[j]'(by rw [h.len]; exact hj)).b) ∧ w.cell? ⟨b, o + j * 6 + 3, none⟩ = some (.int .i64 (l[j]'(by rw [h.len]; exact hj)).u) ∧ w.cell? ⟨b, o + j * 6 + 4, none⟩ = some (.bool (l[j]'(by rw [h.len]; exact hj)).lost) ∧ w.cell? ⟨b, o + j * 6 + 5, none⟩ = some (.bool (l[j]'(by rw [h.len]; exact hj)).again) := by
  obtain ⟨b, o, hA, hc⟩ := h.src.open_ (by omega) (by omega)
  have hjl : j < l.length := by rw [h.len]; exact hj
  have hg := fun i (hi : i < 6) => flat_get actL 6 actL_len hjl i hi
  refine ⟨b, o, hA, ?_, ?_, ?_, ?_, ?_, ?_⟩
  · have := hc (j * 6) _ (by have := hg 0 (by omega); simpa [actL] using this); simpa using this
  · have := hc (j * 6 + 1) _ (by have := hg 1 (by omega); simpa [actL] using this); simpa [Nat.add_assoc] using this
  · have := hc (j * 6 + 2) _ (by have := hg 2 (by omega); simpa [actL] using this); simpa [Nat.add_assoc] using this
  · have := hc (j * 6 + 3) _ (by have := hg 3 (by omega); simpa [actL] using this); simpa [Nat.add_assoc] using this
  · have := hc (j * 6 + 4) _ (by have := hg 4 (by omega); simpa [actL] using this); simpa [Nat.add_assoc] using this
  · have := hc (j * 6 + 5) _ (by have := hg 5 (by omega); simpa [actL] using this); simpa [Nat.add_assoc] using this
theorem doL_next (g : GM) (l : List ActG) (j : Nat) (hj : j < l.length) : doL g (l.take (j + 1)) = doM (doL g (l.take j)) l[j] := by
  rw [List.take_succ_eq_append_getElem hj, doL_snoc]
def OpenRet (w0 : World) (X : Own) (r : Nat) (u : Int) (l : List ActG) (e : Ending) (W : World) : Prop := ∃ p, e = .returned (.tuple #[.pointer (some ⟨p, 0, none⟩), .int .i64 (r : Int)]) ∧ St u 150 w0 X p (doL (newG r u) (l.take 150)) W
set_option maxRecDepth 100000 in
set_option maxHeartbeats 3200000 in
theorem st_open {w0 W : World} {X : Own} (hX : X.Ok) (h : Run (fun _ => False) w0 X W) {raw u : Int} {r : Nat} (hr : 1 + raw % 4 = (r : Int)) (hraw : 0 ≤ raw ∧ raw ≤ 255) (hu : 0 ≤ u ∧ u ≤ 65535) {A : Option Addr} {n c : Nat} {l : List ActG} (hl : Acts w0 A n l) :
    Calls Try.prog 28 #[.int .u8 raw, .int .u16 u, .slice A n c] W (OpenRet w0 X r u l) := by
  have KN := hide (st_new hX h r u (by omega) (by omega) (by omega) (by omega))
  have HL := hide hl
  have hr1 : 0 ≤ raw := hraw.1
  have hr2 : raw ≤ 255 := hraw.2
  have hu1 : 0 ≤ u := hu.1
  have hu2 : u ≤ 65535 := hu.2
  clear hraw hu h hl
  go_enter Try.func28, Try.ntmps28
  go_wp2_with fail
  refine KN.out.mono ?_
  rintro e w1 ⟨p, rfl, hS⟩
  have HS := hide hS
  clear hS KN hr
  go_wp2_with fail
  go_loopw [11] (fun i wr => ∃ j : Nat, j ≤ n ∧ j ≤ 150 ∧ i = .int .i64 j ∧ St u j w0 X p (doL (newG r u) (l.take j)) wr) (fun i _ => n - (intOf i).toNat)
  case atStart => exact ⟨0, Nat.zero_le _, by omega, rfl, HS.out⟩
  case round =>
    obtain ⟨j, hj, hj1, rfl, hS⟩ := hrel
    have HS2 := hide hS
    have hjl := HL.out.len
    by_cases hlt : j < n
    · by_cases hlt2 : j < 150
      · obtain ⟨b, o, rfl, c0, c1, c2, c3, c4, c5⟩ := (HL.out.run hS.run).at_ hlt
        have hnx := doL_next (newG r u) l j (by omega)
        have hok := HL.out.ok (l[j]'(by omega)) (List.getElem_mem _)
        have hi1 : (j : Int) < 150 := by omega
        generalize l[j]'(by omega) = x at *
        have KD := hide (st_do hS (by omega) x hok.1)
        rw [← hnx] at KD
        unfold actV at KD
        generalize x.k = x0 at *
        generalize x.a = x1 at *
        generalize x.b = x2 at *
        generalize x.u = x3 at *
        generalize x.lost = x4 at *
        generalize x.again = x5 at *
        clear hS hnx hok HS hjl
        go_wp2_with fail
        refine KD.out.mono ?_
        rintro e w2 ⟨rfl, hS⟩
        have HS3 := hide hS
        clear hS
        go_wp2_with fail
        go_roundw
        case rel => exact ⟨j + 1, by omega, by omega, by go_num, HS3.out⟩
        case measure => simp [intOf]; omega
      · obtain rfl : j = 150 := by omega
        clear hS HS hjl
        have hi1 : ¬ (((150 : Nat) : Int) < 150) := by omega
        go_wp2_with fail
        go_ret2
        exact ⟨p, rfl, HS2.out⟩
    · obtain rfl : j = n := by omega
      have HE := hide (show l.take j = l.take 150 by rw [List.take_of_length_le (by omega), List.take_of_length_le (by omega)])
      clear hS HS hjl
      go_wp2_with fail
      go_ret2
      refine ⟨p, rfl, ?_⟩
      rw [← HE.out]
      exact HS2.out.up hj1
end Go.Proofs.Ytapabbpdfplpoaa
namespace Go.CH
open Go.RowKit
open Go.ChangeMaps (setBlock)
section
variable {P : Program}
theorem bytes_dec (a b : ByteArray) : (a == b) = decide (a = b) := by
  rw [Bool.eq_iff_iff, Go.MapKept.bytes_beq]; simp
theorem toList_inj {a b : ByteArray} : a.toList = b.toList ↔ a = b := by
  constructor
  · intro h
    rw [ByteArray.toList_eq, ByteArray.toList_eq] at h
    cases a; cases b; simp at h; rw [h]
  · rintro rfl; rfl
theorem toList_beq (a b : ByteArray) : (a.toList == b.toList) = decide (a = b) := by
  rw [Bool.eq_iff_iff, beq_iff_eq, toList_inj]; simp
theorem eqStr {E : TypeId} (hE : P.underlying E = some .string) (a b : ByteArray) (n : Nat) (w : World) :
    (Op.equalIn (n + 1) E (.string a) (.string b)).run P w = .ok (a == b) w := by
  simp [Op.equalIn, run_underlying hE]
theorem checkStr {E : TypeId} (hE : P.underlying E = some .string) (e : Bool) (a : ByteArray) (n : Nat) (w : World) : (Instr.checkKey e (n + 1) E (.string a)).run P w = .ok () w := by
  simp [Instr.checkKey, run_underlying hE]
theorem keyOk_str {K : TypeId} (hK : P.underlying K = some .string) : KeyOk P K Value.string := by
  refine ⟨fun a b w => ?_, fun e a w => checkStr hK e a 9999 w, fun a => ?_, _, hK, fun a b => ?_⟩
  · rw [Op.equal, Op.maxDepth, eqStr hK a b 9999 w, bytes_dec]
  · unfold Instr.sameBits; exact (bytes_dec a a).trans (by simp)
  · right; unfold Instr.sameNow; simp only [bytes_dec]
end
def strs (l : List ByteArray) : List Value := l.map Value.string
theorem strs_one (l : List ByteArray) : ∀ u ∈ strs l, u.oneCell' = true := by
  intro u hu
  obtain ⟨s, _, rfl⟩ := List.mem_map.1 hu
  rfl
theorem strs_len (l : List ByteArray) : (strs l).length = l.length := by simp [strs]
theorem strs_get {l : List ByteArray} {k : Nat} (h : k < l.length) : (strs l)[k]? = some (.string l[k]) := by simp [strs, h]
section
variable {α : Type} [DecidableEq α] {P : Program} {kv : α → Value} {t K E : TypeId}
theorem mapO_put (H : KeyOk P K kv) (ht : P.underlying t = some (.map K E)) {b : Nat} {l : List (α × Value)} {w : World} {F : Nat → Prop} (h : MapO kv b l w F) (k : α) (v : Value) :
    ∃ w', (Instr.mapUpdate t (.map (some b)) (kv k) v).run P w = .ok () w' ∧ Post w F (MapO kv b (mput l k v)) w' := by
  obtain ⟨⟨es, clock, h1, h2⟩, hF⟩ := h
  obtain ⟨es', clock', h3, h4⟩ := run_mapUpdate H ht h2 b k v
  exact ⟨_, h4 w h1, F, ⟨⟨es', clock', heap_setBlock_self h1, h3⟩, hF⟩, (Mod.refl _ _).setBlock _ (fun _ => (hF b).2 rfl), fun i hi => .inl hi⟩
theorem mapO_get {z : Value} (H : KeyOk P K kv) (ht : P.underlying t = some (.map K E)) (hz : ∀ w, (zeroValue E).run P w = .ok z w) {b : Nat} {l : List (α × Value)} {w : World} {F : Nat → Prop} (h : MapO kv b l w F) (k : α) :
    (Instr.lookup t (.map (some b)) (kv k) false).run P w = .ok ((mget l k).getD z) w := by
  obtain ⟨⟨es, clock, h1, h2⟩, hF⟩ := h
  exact run_lookup H ht hz h2 k w h1
omit [DecidableEq α] in
theorem mapO_len {ty : TypeId} (ht : P.underlying t = some (.map K E)) {b : Nat} {l : List (α × Value)} {w : World} {F : Nat → Prop} (h : MapO kv b l w F) :
    (Builtin.len_ #[t] ty #[.map (some b)]).run P w = .ok (.int .i64 l.length) w := run_len_map ht h.1
theorem mput_new_ {l : List (α × Value)} {k : α} {v : Value} (h : k ∉ l.map (·.1)) : mput l k v = l ++ [(k, v)] := by
  cases hf : fnd k l 0 with
  | none => exact (fnd_none hf).2 v
  | some p =>
    obtain ⟨j, u⟩ := p
    obtain ⟨n, h1, h2, h3⟩ := fnd_some hf
    exact absurd (List.mem_map.2 ⟨(k, u), List.mem_of_getElem? h2, rfl⟩) h
theorem mget_none_ {k : α} : ∀ {l : List (α × Value)}, k ∉ l.map (·.1) → mget l k = none
  | [], _ => rfl
  | (a, u) :: l, h => by
    simp only [List.map_cons, List.mem_cons, not_or] at h
    rw [mget_cons, if_neg h.1, mget_none_ h.2]
theorem mget_all {k : α} {v : Value} : ∀ {l : List α}, mget (l.map fun x => (x, v)) k = if k ∈ l then some v else none
  | [] => rfl
  | a :: l => by
    rw [List.map_cons, mget_cons, mget_all]
    by_cases h : k = a
    · simp [h]
    · simp [h]
end
end Go.CH
namespace Go.Proofs.Ytapabbpdfplpoaa
open Go.RowKit Go.CH Go.CH.Lic
open Go.ChangeMaps (setBlock)

theorem keyStr : KeyOk Try.prog 9 Value.string := keyOk_str Try.underlying9
theorem zeroB : ∀ w, (zeroValue 4).run Try.prog w = .ok (.bool false) w := fun w => by kernel_rfl
def seen (l : List ByteArray) : List (ByteArray × Value) := l.map fun x => (x, .bool true)
theorem seen_keys (l : List ByteArray) : (seen l).map (·.1) = l := by unfold seen; simp [Function.comp_def]
theorem seen_get {l : List ByteArray} {b : Nat} {w : World} {F : Nat → Prop} (h : MapO Value.string b (seen l) w F) (s : ByteArray) :
    (Instr.lookup 164 (.map (some b)) (.string s) false).run Try.prog w = .ok (.bool (decide (s ∈ l))) w := by
  rw [mapO_get keyStr Try.underlying164 zeroB h s]
  unfold seen
  rw [mget_all]
  by_cases hs : s ∈ l <;> simp [hs]
theorem bel_bool {w w' : World} {a b : Bool} (h : b = a) (hb : Below w.heap.size w w') : BelowRet w (.bool b) (.returned (.bool a)) w' := ⟨by rw [h], hb⟩
set_option maxHeartbeats 1600000 in
theorem names_any {w : World} {A : Option Addr} {n c : Nat} {l : List ByteArray} (h : Src w A n 1 (strs l)) (hs : ∀ s ∈ l, s.size ≤ maxLen) (hn : n ≤ 1000000) :
    Calls Try.prog 93 #[.slice A n c] w (BelowRet w (.bool (names l))) := by
  have hl : l.length = n := by have := h.1; simpa [strs] using this
  have HA := hide h
  have HS := hide hs
  have hmk : ∀ w : World, (Instr.makeMap 164 none).run Try.prog w = .ok (.map (some w.heap.size)) (w.alloc (.map #[] 0)) := fun w => by kernel_rfl
  have R0 := hide (((Run.begin w).fresh emp_ok (map_new (kv := Value.string) w)).imp fun _ _ h => star_emp h)
  clear h hs
  have hz : w.heap.size < (w.alloc (.map #[] 0)).heap.size := by simp
  obtain ⟨b, hb⟩ : ∃ b, b = w.heap.size := ⟨_, rfl⟩
  rw [← hb] at R0
  have HL := hide hl
  go_enter Try.func93, Try.ntmps93
  go_wp2
  rw [← hb]
  clear hb hl hz
  go_loopw [2, 5, 9] (fun _ _ i wr => ∃ k : Nat, k ≤ n ∧ i = .int .i64 k ∧ names (l.take k) = true ∧ Run (fun _ => False) w (MapO Value.string b (seen (l.take k))) wr) (fun _ _ i _ => n - (intOf i).toNat)
  case atStart => exact ⟨0, Nat.zero_le _, rfl, rfl, R0.out⟩
  case round =>
    obtain ⟨k, hk, rfl, hnm, hR⟩ := hrel
    have hl := HL.out
    by_cases hlt : k < n
    · obtain ⟨bA, o, rfl, hc⟩ := HA.out.open_ (by omega) (by omega)
      have c0 := hR.cell (hc k _ (strs_get (by omega))) (fun h => h)
      have hsz := HS.out (l[k]'(by omega)) (List.getElem_mem _)
      have htk := names_take (l := l) (k := k) (by omega)
      have hno : names (l.take (k + 1)) = false → names l = false := names_no
      have htake : l.take (k + 1) = l.take k ++ [l[k]'(by omega)] := List.take_succ_eq_append_getElem (by omega)
      generalize l[k]'(by omega) = s at *
      rw [hnm, Bool.true_and] at htk
      have KN := hide (isName_any s wr hsz)
      obtain ⟨F, hM⟩ := hR.get
      have hlk := seen_get hM s
      have HNO := hide hno
      have HTK := hide htk
      have HNM := hide hnm
      have HTA := hide htake
      clear hno htk hnm htake hl
      cases hi : isName s with
      | false =>
        rw [hi] at KN HTK
        clear hlk hM hi
        go_wp2_with fail
        refine KN.out.mono ?_
        rintro e w' ⟨rfl, rfl⟩
        go_wp2
        go_ret
        exact bel_bool (HNO.out (by rw [HTK.out]; rfl)) hR.bel
      | true =>
        rw [hi] at KN HTK
        clear hi
        cases hd : decide (s ∈ l.take k) with
        | true =>
          rw [hd] at hlk HTK
          clear hM hd
          go_wp2_with fail
          refine KN.out.mono ?_
          rintro e w' ⟨rfl, rfl⟩
          go_wp2
          go_ret
          exact bel_bool (HNO.out (by rw [HTK.out]; rfl)) hR.bel
        | false =>
          obtain ⟨F2, hM2, back⟩ := hR.all map_ok
          obtain ⟨w2, hup, hpost⟩ := mapO_put keyStr Try.underlying164 hM2 s (.bool true)
          have R2 := hide (back _ _ hpost)
          have hnew : mput (seen (l.take k)) s (.bool true) = seen (l.take (k + 1)) := by
            rw [mput_new_ (by rw [seen_keys]; simpa using hd), HTA.out]
            unfold seen; simp
          rw [hnew] at R2
          rw [hd] at hlk HTK
          clear back hpost hM2 hM hd hnew
          go_wp2_with fail
          refine KN.out.mono ?_
          rintro e w' ⟨rfl, rfl⟩
          go_wp2
          go_roundw
          case rel => exact ⟨k + 1, by omega, by go_num, by rw [HTK.out]; rfl, R2.out⟩
          case measure => simp [intOf]; omega
    · obtain rfl : k = n := by omega
      rw [← hl, List.take_length] at hnm
      have HN := hide hnm
      have HR := hide hR
      clear hnm hR hl
      go_wp2
      go_ret
      exact bel_bool HN.out HR.out.bel
end Go.Proofs.Ytapabbpdfplpoaa
