/-
  Escrow: Flying.
-/
import Derived.Test.YtapabbpdfplpoaaE23
import Derived.Test.YtapabbpdfplpoaaIter
import Derived.Deep.LoopGhost
set_option linter.unusedSimpArgs false
set_option linter.unusedVariables false
namespace Go.Proofs.Ytapabbpdfplpoaa
open Go.RowKit Go.CH Go.CH.Esc
open Go.ChangeMaps (setBlock)

theorem IterAt.drew {w : World} {r b : Nat} {es : Array MapEntry} {clock : Nat} {left : List MapEntry} (h : IterAt w r b es clock left) : IterAt w.drew r b es clock left := h
def keyOf : Value → Int × Int
  | .agg #[.int _ f, .int _ t] => (f, t)
  | _ => (0, 0)
theorem keyOf_pair (k : Int × Int) : keyOf (pairV .i64 k) = k := rfl
/-- What flies under an entry. -/
def fv (g : GM) (e : MapEntry) : Int := fly (g.pr (keyOf e.key))
theorem fv_all {g : GM} {gp : Int × Int → Nat} {n : Nat} {es : List MapEntry} (h : es.map (fun e => (e.key, e.val)) = (ents n gp).map (fun p => (pairV .i64 p.1, p.2))) :
    isum (es.map (fv g)) = isum ((keys n).map fun k => fly (g.pr k)) ∧ ∀ e ∈ es, keyOf e.key ∈ keys n ∧ e.val = .pointer (some ⟨gp (keyOf e.key), 0, none⟩) := by
  have h2 : es.map (fun e => (e.key, e.val)) = (keys n).map (fun k => (pairV .i64 k, Value.pointer (some ⟨gp k, 0, none⟩))) := by
    rw [h]; unfold ents; simp
  constructor
  · have h3 := congrArg (List.map fun (q : Value × Value) => fly (g.pr (keyOf q.1))) h2
    simp only [List.map_map] at h3
    have h4 : es.map (fv g) = (keys n).map fun k => fly (g.pr k) := h3
    rw [h4]
  · intro e he
    have h3 : (e.key, e.val) ∈ es.map (fun e => (e.key, e.val)) := List.mem_map.2 ⟨e, he, rfl⟩
    rw [h2] at h3
    obtain ⟨k, hk, he2⟩ := List.mem_map.1 h3
    injection he2 with h5 h6
    rw [← h5, ← h6, keyOf_pair]
    exact ⟨hk, rfl⟩
theorem isum_erase (f : MapEntry → Int) : ∀ (l : List MapEntry) (i : Nat) (hi : i < l.length), isum (l.map f) = f l[i] + isum ((l.eraseIdx i).map f)
  | e :: l, 0, _ => by simp [isum]
  | e :: l, i + 1, h => by simp [isum, isum_erase f l i (by simpa using h)]; omega
theorem run_max0 (w : World) (ty : TypeId) (k : Nat) : (Builtin.max_ #[3, 3] ty #[.int .i64 0, .int .i64 (k : Int)]).run Try.prog w = .ok (.int .i64 (k : Int)) w := by
  rcases Nat.eq_zero_or_pos k with rfl | h
  · simp [Builtin.max_, Builtin.max2]
  · have : (0 : Int) < k := by omega
    simp [Builtin.max_, Builtin.max2, this]
    omega
/-- What is read of a line. -/
structure LnR (w : World) (p : PrG) (gp : Nat) (A : Option Addr) (c : Nat) : Prop where
  k0 : w.cell? ⟨gp, 0, none⟩ = some (.slice A (p.H.drop p.conf).length c)
  k1 : w.cell? ⟨gp, 1, none⟩ = some (.int .i64 p.H.length)
  k2 : w.cell? ⟨gp, 2, none⟩ = some (.int .i64 p.rc)
  ks : Src w A (p.H.drop p.conf).length 1 (ints (p.H.drop p.conf))
  kc : (p.H.drop p.conf).length ≤ c
theorem esc_ln {g : GM} {p : Nat} {s : EscP} {w : World} {F : Nat → Prop} (h : EscS g p s w F) {k : Int × Int} (hk : k ∈ keys g.acc.length) : ∃ A c, LnR w (g.pr k) (s.gp k) A c := by
  obtain ⟨F1, F2, ⟨l, hz, hl⟩, _⟩ := escQ_out hk h
  obtain ⟨F3, F4, h3, ⟨F5, F6, h5, _⟩, _⟩ := hl
  exact ⟨l.A, l.c, cell_at h3 rfl, cell_at h3 rfl, cell_at h3 rfl, row_src h5 (ints_one _), (row_cap h5.1).1⟩
set_option maxRecDepth 100000 in
set_option maxHeartbeats 3200000 in
theorem fly_any {w : World} {F : Nat → Prop} {g : GM} {p : Nat} (h : EscO g p w F) {U : Int} (hI : Inv g U) (hlb : HB g 1000000) : Calls Try.prog 24 #[.pointer (some ⟨p, 0, none⟩)] w (BelowRet w (.int .i64 (flyG g))) := by
  obtain ⟨s, hS⟩ := h
  have hc1 := hS.read.c1
  obtain ⟨F1, F2, h1, ⟨F3, F4, h2, ⟨F5, F6, ⟨⟨es, clock, hblk, hents⟩, -⟩, -, -, -⟩, -, -⟩, -, -⟩ := id hS
  have hpos : ∀ k ∈ keys g.acc.length, 0 ≤ fly (g.pr k) := fun k hk => fly_nonneg (hI.pr k.1 k.2 (pair_mem.2 hk))
  have hle : flyG g ≤ 1000000000 := by
    have h4 : 0 ≤ haveG g := isum_nonneg (fun y hy => by obtain ⟨a, ha, rfl⟩ := List.mem_map.1 hy; exact (hI.acc a ha).1)
    have h6 : 0 ≤ spentG g := isum_nonneg (fun y hy => by obtain ⟨a, ha, rfl⟩ := List.mem_map.1 hy; exact (hI.acc a ha).2)
    have h7 := hI.tot
    have h8 := hI.U
    omega
  have hfv := fv_all (g := g) hents.1
  have HFV := hide hfv.2
  have hsum : isum (es.toList.map (fv g)) = flyG g := hfv.1
  have HP := hide hpos
  have HI := hide hI
  have HLB := hide hlb
  obtain ⟨hrange, hit0⟩ := Go.CH.run_range_map (P := Try.prog) Try.underlying99 hblk
  have HIT := hide hit0
  have HS := hide hS
  have HENT := hide hents
  have HSUM := hide hsum
  have hlt : s.bm < w.heap.size := lt_of_block hblk
  have HBLK := hide hblk
  clear hfv hsum hit0 hS hI hlb hpos hents hblk h1 h2
  go_enter Try.func24, Try.ntmps24
  go_wp2_with fail
  go_loopg [3] (es.size) (fun gk n wr => ∃ (left : List MapEntry) (v : Int), left.length = gk ∧ n = .int .i64 v ∧ v + isum (left.map (fv g)) = flyG g ∧ 0 ≤ v ∧ (∀ e ∈ left, e ∈ es.toList) ∧ IterAt wr w.heap.size s.bm es clock left ∧ Below w.heap.size w wr)
  case atStart => exact ⟨es.toList, 0, by simp, rfl, by rw [HSUM.out]; omega, by omega, fun _ h => h, HIT.out, (Below.refl _ _).alloc (Nat.le_refl _) _⟩
  case round =>
    obtain ⟨left, v, hlen, rfl, hv, hv0, hmem, hit, hbel⟩ := hrel
    have hb2 : wr.heap[s.bm]? = some (.map es clock) := by rw [hbel.block _ hlt]; exact HBLK.out
    rcases Go.CH.run_next_map (P := Try.prog) hit hb2 HENT.out.2.2.2 HENT.out.2.2.1 0 with ⟨hl0, hnx⟩ | ⟨i, hi, w1, hnx, hit1, hm1, hsz1, hen1⟩
    · have hv1 : v = flyG g := by rw [hl0] at hv; simp [isum] at hv; omega
      have HV := hide hv1
      have HBEL := hide hbel
      clear hv1 hv hbel hl0 hmem hit hb2
      go_wp2_with fail
      go_ret
      first | exact ⟨rfl, HBEL.out⟩ | exact ⟨by rw [HV.out]; rfl, HBEL.out⟩
    · have hb1 : Below w.heap.size w w1 := ⟨hm1.os.trans hbel.os, hm1.tape.trans hbel.tape, hm1.output.trans hbel.output, by rw [hsz1]; exact hbel.size, fun j hj => (hm1.block j (by have := hbel.size; omega) (by omega)).trans (hbel.block j hj)⟩
      have hbm1 : w1.heap[s.bm]? = some (.map es clock) := by rw [hb1.block _ hlt]; exact HBLK.out
      have hen := hen1 w1 rfl hbm1
      obtain ⟨hk, hval⟩ := HFV.out _ (hmem _ (List.getElem_mem hi))
      rw [hval] at hnx hen
      obtain ⟨A, c, hln⟩ := esc_ln (escS_ok.keep HS.out (fun i hi => hb1.block i (escS_ok.lt HS.out i hi))) hk
      have hpr : PrOk (g.pr (keyOf left[i].key)) (g.pr ((keyOf left[i].key).2, (keyOf left[i].key).1)) := HI.out.pr _ _ (pair_mem.2 hk)
      have hbig := HLB.out (keyOf left[i].key)
      have hfl := isum_erase (fv g) left i hi
      have hrest : 0 ≤ isum ((left.eraseIdx i).map (fv g)) := isum_nonneg (fun y hy => by
        obtain ⟨e, he, rfl⟩ := List.mem_map.1 hy
        exact HP.out _ (HFV.out _ (hmem e (List.mem_of_mem_eraseIdx he))).1)
      have hfk : fv g left[i] = fly (g.pr (keyOf left[i].key)) := rfl
      have hlen2 : (left.eraseIdx i).length = left.length - 1 := by rw [List.length_eraseIdx, if_pos hi]
      have HM := hide (fun e (he : e ∈ left.eraseIdx i) => hmem e (List.mem_of_mem_eraseIdx he))
      have HIT1 := hide hit1
      have HB1 := hide hb1
      have HV := hide hv
      generalize left[i].key = ky at *
      generalize hgk : keyOf ky = k at *
      have HHI := hide hi
      obtain ⟨k0, k1, k2, ks, kc⟩ := hln
      have hcr := hpr.cr
      have hrl := hpr.rl
      have hpos2 := hpr.pos
      generalize g.pr k = q at *
      obtain ⟨nn, hnn⟩ : ∃ nn, (q.H.drop q.conf).length = nn := ⟨_, rfl⟩
      have hnn2 : nn = q.H.length - q.conf := by rw [← hnn]; simp
      obtain ⟨kk, hkk⟩ : ∃ kk, kk = q.rc - q.conf := ⟨_, rfl⟩
      obtain ⟨m, hm⟩ : ∃ m, m = q.H.length - q.rc := ⟨_, rfl⟩
      rw [hnn] at k0 ks kc
      have hsrc := Src.cut (k := kk) (c := c) ks (by omega) kc
      have hsl := fun w => run_slice_from intsOk A nn c kk .i64 ((kk : Nat) : Int) rfl (by omega) w
      have hdr : (ints (q.H.drop q.conf)).drop (kk * 1) = ints (q.H.drop q.rc) := by
        unfold ints
        rw [Nat.mul_one, ← List.map_drop, List.drop_drop]
        congr 2; omega
      rw [hdr, show nn - kk = m by omega] at hsrc
      rw [show nn - kk = m by omega] at hsl
      have t1 : IntKind.i64.wrap ((q.H.length : Int) - q.rc) = (m : Int) := by rw [IntWalk.i64_in _ (by omega)]; omega
      have t2 : IntKind.i64.wrap ((nn : Int) - m) = (kk : Int) := by rw [IntWalk.i64_in _ (by omega)]; omega
      have hmax := fun w ty => run_max0 w ty kk
      have hfq : fly q = isum (q.H.drop q.rc) := rfl
      have hdl : (q.H.drop q.rc).length = m := by simp; omega
      generalize hLL : q.H.drop q.rc = L at *
      generalize cutA A c kk 1 = A2 at *
      have HSRC := hide hsrc
      have HDL := hide hdl
      have hLp : ∀ x ∈ L, 0 ≤ x := fun x hx => by have := hpos2 x (by rw [← hLL] at hx; exact List.mem_of_mem_drop hx); omega
      have HLP := hide hLp
      have hvb : v + isum L ≤ 1000000000 := by omega
      have HFK := hide (show isum (left.map (fv g)) = isum L + isum ((left.eraseIdx i).map (fv g)) by rw [hfl, hfk, hfq])
      have HL2 := hide hlen2
      have hm6 : m ≤ 1000000 := by omega
      clear hfl hfk hfq hdl hLp hpos2 hsrc hdr hkk hm hnn hnn2 hcr hrl hlen2 hit1 hb1 hv hmem hen1 hm1 hsz1 hbel hit hb2 hval hk hrest hpr hbig ks kc hgk hLL hi hbm1 hle
      generalize (q.H.length : Int) = hl at *
      go_wp2_with fail
      refine wp_region_lex (fun w' => w'.cell? ⟨s.gp k, 0, none⟩ = some (.slice A nn c) ∧ w'.cell? ⟨s.gp k, 1, none⟩ = some (.int .i64 hl) ∧ w'.cell? ⟨s.gp k, 2, none⟩ = some (.int .i64 q.rc)) (by kernel_rfl) (by kernel_rfl) ⟨k0, k1, k2⟩ ?_
      (repeat (first | (refine lex_skip (by rfl) ?_; try simp only [Act.put, List.setIfInBounds_toArray, List.set_cons_zero, List.set_cons_succ]) | (refine lex_read (v := ?_) (by rfl) ?_ ?_; rotate_left; (focus (intro w' hS'; go_simp; (try with_reducible rfl); done)); try simp only [Act.put, List.setIfInBounds_toArray, List.set_cons_zero, List.set_cons_succ])))
      refine lex_nil ?_
      clear t1 t2 hmax hsl k0 k1 k2
      go_wp2_with fail
      have hsr2 : Src w1.drew A2 m 1 (ints L) := HSRC.out
      have HSR2 := hide hsr2
      clear hsr2
      go_loop [3, 41] (fun n i => ∃ j : Nat, j ≤ m ∧ i = .int .i64 j ∧ n = .int .i64 (v + isum (L.take j))) (fun _ i => m - (intOf i).toNat)
      case atStart => exact ⟨0, Nat.zero_le _, rfl, by simp [isum]⟩
      case round =>
        obtain ⟨j, hj, rfl, rfl⟩ := hrel
        by_cases hlt : j < m
        · obtain ⟨b, o, hA2, hcell⟩ := HSR2.out.open_ (by omega) (by omega)
          have hjl : j < L.length := by rw [HDL.out]; exact hlt
          have c0 := hcell j (.int .i64 L[j]) (by simp [ints, hjl])
          have hs := isum_take L j hjl
          have hb1 := isum_take_le HLP.out j
          have hb2 := isum_take_le HLP.out (j + 1)
          have hx : 0 ≤ L[j] := HLP.out _ (List.getElem_mem hjl)
          generalize L[j] = x at *
          have hsum2 : v + isum (L.take j) + x ≤ 1000000000 := by omega
          have hsum1 : 0 ≤ v + isum (L.take j) := by omega
          have HS2 := hide (show v + isum (L.take (j + 1)) = v + isum (L.take j) + x by omega)
          subst hA2
          clear hcell hs hb1 hb2 hjl
          generalize v + isum (L.take j) = v2 at *
          go_wp2
          go_round
          case rel => exact ⟨j + 1, by omega, by go_num, by rw [HS2.out]⟩
          case measure => simp [intOf]; omega
        · have hjm : j = m := by omega
          have hv2 : v + isum (L.take j) = v + isum L := by rw [List.take_of_length_le (by rw [HDL.out]; omega)]
          rw [hv2]
          have hv3 : 0 ≤ v + isum L := by have := isum_nonneg HLP.out; omega
          have HV3 := hide hv3
          clear hv2 hjm hvb hv3
          generalize hve : v + isum L = ve at *
          have HVE := hide hve
          clear hve
          go_wp2_with fail
          go_roundg (left.length - 1)
          case measure => have := HHI.out; omega
          case rel => exact ⟨left.eraseIdx i, ve, HL2.out, rfl, by have h1 := HFK.out; have h2 := HV.out; have h3 := HVE.out; omega, HV3.out, HM.out, IterAt.drew HIT1.out, below_drew HB1.out⟩
end Go.Proofs.Ytapabbpdfplpoaa
