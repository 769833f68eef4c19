/-
  TopReplicas, walked.
-/
import Derived.Test.YtapabbpdfplpoaaMT13
set_option linter.unusedSimpArgs false
set_option linter.unusedVariables false
namespace Go.Proofs.Ytapabbpdfplpoaa
open Go.RowKit Go.CH Go.CH.Lic Go.CH.Esc Go.CH.Top
open Go.ChangeMaps (setBlock)

/-- What the law's loop keeps. -/
def TopR (U : Int) (N : Nat) (W : World) (p q : Nat) (s i : Value) (wr : World) : Prop :=
  ∃ (j : Nat) (sp : List (Int × Int)) (E : Option Addr) (c : Nat) (g : GM) (b : BkM), j ≤ N ∧ i = .int .i64 j ∧ s = .slice E sp.length c ∧ TS U j W emp p g q b E c sp wr ∧ TIn U g b sp 0 0 ∧ sp.length ≤ j
/-- What the loop keeps in which units are given back. -/
def TopI (U : Int) (n : Nat) (W : World) (Y : Own) (p q : Nat) (g : GM) (E : Option Addr) (c m : Nat) (A K : Int) (rest i : Value) (wr : World) : Prop :=
  ∃ (k : Nat) (sp : List (Int × Int)) (b : BkM) (r : Int), k ≤ m ∧ i = .int .i64 k ∧ rest = .int .i64 r ∧ sp.length = m ∧ 0 ≤ r ∧ r ≤ K ∧ TS U n W Y p g q b E c sp wr ∧ TIn U g b sp A r ∧ (0 < r → ∀ t (ht : t < sp.length), t < k → sp[t].1 = A → sp[t].2 = 0)
theorem top_bk0 {W w2 w3 : World} {U : Int} {p q : Nat} {g : GM} (hS : St U 0 W emp p g w2) (hp : Post w2 (fun _ => False) (BkO newM q) w3) : Run (fun _ => False) W (star (BkO newM q) (star (EscO g p) emp)) w3 :=
  hS.run.fresh (star_ok escO_ok emp_ok) hp
theorem lic_at0 (w : World) (U : Int) : LicAt (w.alloc (.cells #[.string mS] 9)) (licT U) (some ⟨w.heap.size, 0, none⟩) 1 none 0 := by
  refine ⟨⟨by show (1 : Nat) ≤ maxLen; unfold maxLen; omega, Src.one (heap_alloc_new w _) rfl, ⟨rfl, by simp [licT, strs], fun h => absurd h (Nat.lt_irrefl 0)⟩, ?_, by simp [licT], by simp [licT], by simp [licT]⟩, (fun e => by cases e), fun _ => ⟨rfl, rfl⟩⟩
  intro s hs
  simp [licT] at hs; subst hs
  show (1 : Nat) ≤ maxLen; unfold maxLen; omega
theorem top_st0 {W w5 : World} {U : Int} {p q : Nat} {g : GM} {b : BkM} (hi : Esc.Inv g U) (hb : HB g 0) (h2 : Inv2 b) (h : Run (fun _ => False) W (star (BkO b q) (star (EscO g p) emp)) w5) : TS U 0 W emp p g q b none 0 [] w5 := by
  have h1 := h.imp (B := star (star (BkO b q) (star (EscO g p) emp)) (SpO none 0 [])) fun w F hh => ⟨F, fun _ => False, hh, row_nil w _ _, fun _ _ h => h, fun i => by simp⟩
  exact ⟨⟨h1.perm (by ac_rfl), hi, hb, star_ok bkO_ok (star_ok spO_ok emp_ok)⟩, h2, emp_ok⟩
theorem src_newT (w : World) (xs : List Value) (e : TypeId) (h1 : ∀ u ∈ xs, u.oneCell' = true) : Src (w.alloc (.cells xs.toArray e)) (some ⟨w.heap.size, 0, none⟩) 1 xs.length xs := by
  refine ⟨by omega, h1, fun _ => ⟨_, rfl, fun j u hu => ?_⟩⟩
  obtain ⟨F', hC, -⟩ := cell_new w xs.toArray e
  rw [Addr.add_zero_]
  exact cell_at hC (by simpa using hu)
theorem spc_one (x : Sp) : ∀ u ∈ spc x, u.oneCell' = true := by
  intro u hu
  simp [spc] at hu
  rcases hu with rfl | rfl | rfl <;> rfl
theorem dig_size (n : Nat) : (digS n).size ≤ 2 := by
  unfold digS
  split
  · exact (by decide : (1 : Nat) ≤ 2)
  · exact Nat.le_of_eq (by rw [ByteArray.size_append]; rfl)
theorem TS.app {U : Int} {n : Nat} {w0 : World} {Y : Own} {p : Nat} {g : GM} {q : Nat} {b : BkM} {E : Option Addr} {c : Nat} {sp : List (Int × Int)} {x : Int × Int} {W : World}
    (hi : Esc.Inv g U) (hb : HB g n) (h2 : Inv2 b) (hy : Y.Ok) (h : Run (fun _ => False) w0 (star (RowO 63 3 (.slice E (sp.length + 1) c) (sp.length + 1) ((spz sp).flatMap spc ++ spc (keyS sp.length, x))) (star (EscO g p) (star (BkO b q) Y))) W) : TS U n w0 Y p g q b E c (sp ++ [x]) W := by
  have e : RowO 63 3 (.slice E (sp.length + 1) c) (sp.length + 1) ((spz sp).flatMap spc ++ spc (keyS sp.length, x)) = SpO E c (sp ++ [x]) := by
    unfold SpO; rw [spz_snoc, List.flatMap_append, List.length_append]; simp
  rw [e] at h
  exact ⟨⟨h.perm (by ac_rfl), hi, hb, star_ok bkO_ok (star_ok spO_ok hy)⟩, h2, hy⟩
theorem top_bnd {U : Int} {g : GM} (hI : Esc.Inv g U) (r : Int) : 0 ≤ have_ g r ∧ 0 ≤ flyG g := by
  refine ⟨?_, isum_nonneg (fun y hy => ?_)⟩
  · unfold have_; split
    · rename_i h; exact (hI.at_ h).1
    · omega
  · obtain ⟨x, hx, rfl⟩ := List.mem_map.1 hy
    exact fly_nonneg (hI.pr x.1 x.2 (pair_mem.2 hx))
section
variable {W : World} {A : Option Addr} {n c : Nat} {l : List ActG}
set_option maxRecDepth 100000 in
set_option maxHeartbeats 25600000 in
theorem top_any (hs : Acts W A n l) (u : Int) (hu : 0 ≤ u ∧ u ≤ 65535) : Calls Try.prog 10 #[.int .u16 u, .slice A n c] W (BelowRet W (.bool true)) := by
  have KH := hide (shared_any W)
  have HS := hide hs
  have HU := hide hu
  obtain ⟨hu1, hu2⟩ := hu
  obtain ⟨N, hN⟩ : ∃ N, N = min n 80 := ⟨_, rfl⟩
  have HN := hide hN
  have hN80 : N ≤ 80 := by omega
  have hNn : N ≤ n := by omega
  clear hs hN
  go_enter Try.func10, Try.ntmps10
  go_wp2_with fail
  refine KH.out.mono ?_
  rintro e w1 ⟨rfl, hb1⟩
  have KN := hide (st_new emp_ok ((Run.begin W).below emp_ok hb1) 3 u (by omega) (by omega) (by omega) (by omega))
  clear hb1 KH
  go_wp2_with fail
  refine KN.out.mono ?_
  rintro e w2 ⟨p, rfl, hS⟩
  have KB := hide (newb_any w2)
  have SE := hide hS
  clear hS KN
  go_wp2_with fail
  refine KB.out.mono ?_
  rintro e w3 ⟨q, rfl, hp⟩
  have R3 := hide (((top_bk0 SE.out hp)).below (star_ok bkO_ok (star_ok escO_ok emp_ok)) ((Below.refl w3.heap.size w3).alloc (Nat.le_refl _) (.cells #[.string mS] 9)))
  have SI := hide SE.out.inv
  have SHB := hide SE.out.hb
  clear hp KB SE
  obtain ⟨F4, hB4, -, bk4⟩ := R3.out.take bkO_ok (star_ok escO_ok emp_ok)
  have KG := hide (grant_any hB4 (lic_at0 w3 u))
  have HG := hide (show grantR newM (licT u) = (0, addM newM (licT u)) from (top_start (A := 0) HU.out).1)
  rw [HG.out] at KG
  unfold gptr licV licT lS mS at KG
  unfold mS at R3
  unfold gptr
  simp only [List.length_cons, List.length_nil, Nat.zero_add] at KG
  go_wp2_with fail
  refine KG.out.mono ?_
  rintro e w5 ⟨rfl, hp⟩
  have SS := hide (top_st0 (b := addM newM (licT u)) SI.out SHB.out (by
    have := inv2_grant inv2_new (licT u)
    rw [HG.out] at this
    exact this) (bk4 _ _ hp))
  clear hp bk4 hB4 R3 KG SI SHB
  go_wp2
  go_loopw [9, 10, 11, 12, 13, 14, 15] (fun s i _ _ _ _ _ wr => TopR u N W p q s i wr) (fun _ i _ _ _ _ _ _ => N - (intOf i).toNat)
  case atStart => exact ⟨0, [], none, 0, _, _, Nat.zero_le _, rfl, rfl, SS.out, (top_start HU.out).2, Nat.le_refl _⟩
  case round =>
    obtain ⟨j, sp, E, c9, g, b, hj, rfl, rfl, hS, hT, hl⟩ := hrel
    clear SS HG
    have HT := hide hT
    by_cases hlt : j < N
    · have hjn : j < n := by omega
      have hj80 : j < 80 := by omega
      have hsp80 : sp.length < 80 := by omega
      obtain ⟨bA, oA, hA, m0, m1, m2, m3, m4, m5⟩ := (HS.out.run hS.st.run).at_ hjn
      have hok := HS.out.ok _ (List.getElem_mem (by rw [HS.out.len]; exact hjn : j < l.length))
      generalize l[j]'(by rw [HS.out.len]; exact hjn) = x at *
      obtain ⟨xk, xa, xb, xu, xlost, xagain⟩ := x
      obtain ⟨⟨ho1, ho2⟩, -, -⟩ := hok
      simp only at m0 m1 m2 m3 m4 m5 ho1 ho2
      have HSB := hide (hS.box #[.int .i64 xk, .int .i64 xa, .int .i64 xb, .int .i64 xu, .bool xlost, .bool xagain] 58)
      have HA := hide hA
      rw [hA]
      clear hS hT hA
      by_cases k0 : xk = 0
      · subst k0
        by_cases he : spendE g xa xu = 0
        · obtain ⟨b1, b2, e1, e2, hT2⟩ := top_spend (HT.out.zero xa) (by omega) hsp80 he
          have HE1 := hide e1
          have HE2 := hide e2
          have HT2 := hide hT2
          have KS := hide (ts_of HSB.out (st_spend HSB.out.st xa xu ⟨ho1, ho2⟩))
          rw [he] at KS
          clear he e1 e2 hT2 HSB HT
          go_wp2_with fail
          refine KS.out.mono ?_
          rintro e w6 ⟨rfl, hS⟩
          have S6 := hide hS
          have KD := hide (dig_any sp.length hsp80 w6)
          have x1 := hS.cells 1 _ rfl
          have x3 := hS.cells 3 _ rfl
          clear hS KS
          have hds := dig_size sp.length
          have hks : (keyS sp.length).size ≤ maxLen := by have := key_size hsp80; unfold maxLen; omega
          have KR := hide (ts_bk S6.out (inv2_reserve S6.out.inv2 lS (keyS sp.length) xu 0) (fun F hB => reserve_any hB S6.out.inv2.inv lS (keyS sp.length) xu 0 hks))
          simp only [HE1.out] at KR
          have HKY := hide (rfl : keyS sp.length = keyS sp.length)
          unfold keyS lS gptr at KR
          go_wp2_with fail
          refine KD.out.mono ?_
          rintro e w' ⟨rfl, rfl⟩
          clear KD
          go_wp2_with fail
          refine KR.out.mono ?_
          rintro e w7 ⟨rfl, hS⟩
          have S7 := hide hS
          have KU := hide (ts_bk S7.out (inv2_use S7.out.inv2 (keyS sp.length) xu 0) (fun F hB => use_any hB S7.out.inv2.inv (keyS sp.length) xu 0))
          simp only [HE2.out] at KU
          unfold keyS gptr at KU
          clear x1 x3 S6 KR
          have x1 := hS.cells 1 _ rfl
          have x3 := hS.cells 3 _ rfl
          clear hS
          go_wp2_with fail
          refine KU.out.mono ?_
          rintro e w8 ⟨rfl, hS⟩
          have S8 := hide hS
          clear x1 x3 S7 KU
          have x1 := hS.cells 1 _ rfl
          have x3 := hS.cells 3 _ rfl
          clear hS
          have S9 := hide (S8.out.below ((Below.refl w8.heap.size w8).alloc (Nat.le_refl _) (.cells (spc (keyS sp.length, xa, xu)).toArray 63)))
          have HSRC := hide (src_newT w8 (spc (keyS sp.length, xa, xu)) 63 (spc_one _))
          clear S8
          unfold spc keyS at S9 HSRC
          go_wp2_with (at_builtin; refine held ?_)
          obtain ⟨F7, hR7, -, bk7⟩ := (S9.out.st.run.perm (by ac_rfl : _ = star (SpO E c9 sp) (star (EscO (spendM g xa xu) p) (star (BkO b2 q) (star (CellO wr.heap.size #[.int .i64 0, .int .i64 xa, .int .i64 xb, .int .i64 xu, .bool xlost, .bool xagain] 58) emp))))).take row_ok (star_ok escO_ok (star_ok bkO_ok (star_ok cell_ok emp_ok)))
          refine Held.mk (wpList_app rfl (.tmp 89) (.tmp 96) rfl spentsOk _ 0 (v := .slice E sp.length c9) (n := sp.length) (xs := (spz sp).flatMap spc) rfl hR7.1 (A := some ⟨w8.heap.size, 0, none⟩) (m := 1) (c := 1) (news := spc (keyS sp.length, xa, xu)) rfl HSRC.out (by omega) (by omega) (Nat.zero_le _) ?_)
          intro v10 w10 ho8 hg8 hv8
          have S10 := bk7 _ _ (row_app hR7 ho8 hg8 hv8)
          obtain ⟨E8, c8, rfl⟩ := own_form ho8
          have S11 := hide ((TS.app (x := (xa, xu)) S9.out.st.inv S9.out.st.hb S9.out.inv2 (star_ok cell_ok emp_ok) S10).drop emp_ok)
          clear ho8 hg8 hv8 bk7 hR7 S9 S10 HSRC x1 x3
          go_wp2
          go_roundw
          case rel => exact ⟨j + 1, sp ++ [(xa, xu)], E8, c8, spendM g xa xu, b2, by omega, by go_num, by simp, S11.out.up (by omega), HT2.out.zero 0, by simp; omega⟩
          case measure => simp [intOf]; omega
        · have hm : spendM g xa xu = g := by unfold spendM; rw [if_neg he]
          have KS := hide (ts_of HSB.out (st_spend HSB.out.st xa xu ⟨ho1, ho2⟩))
          rw [hm] at KS
          have t1 : (spendE g xa xu != 0) = true := by simpa using he
          generalize spendE g xa xu = ee at *
          clear HSB hm he
          go_wp2_with fail
          refine KS.out.mono ?_
          rintro e w6 ⟨rfl, hS⟩
          have S6 := hide (hS.drop emp_ok)
          clear hS KS
          go_wp2
          go_roundw
          case rel => exact ⟨j + 1, sp, E, c9, g, b, by omega, by go_num, rfl, S6.out.up (by omega), HT.out, by omega⟩
          case measure => simp [intOf]; omega
      by_cases k1 : xk = 1
      · subst k1
        by_cases he : retE g xa xu = 0
        · have hT2 := top_ret0 (HT.out.zero xa) he
          obtain ⟨hx1, -, -⟩ := ret_num he
          have hx2 := ret_le HT.out.gi he
          have HGI := hide (ret_is he)
          have HT2 := hide hT2
          have KS := hide (ts_of HSB.out (st_ret HSB.out.st xa xu ⟨ho1, ho2⟩))
          rw [he] at KS
          clear he hT2 HT HSB
          generalize retM g xa xu = gR at *
          go_wp2_with fail
          refine KS.out.mono ?_
          rintro e w6 ⟨rfl, hS⟩
          have S6 := hide hS
          have x3 := hS.cells 3 _ rfl
          have hbx : wr.heap.size < w6.heap.size := World.block_lt_of_cell? _ _ x3
          clear hS KS
          generalize wr.heap.size = bx at *
          obtain ⟨m, hmm⟩ : ∃ m, m = sp.length := ⟨_, rfl⟩
          have HM := hide hmm
          have hm80 : m < 80 := by omega
          have hmj : m ≤ j := by omega
          rw [← hmm]
          have S7 := hide (show TopI u j W (star (CellO bx #[.int .i64 1, .int .i64 xa, .int .i64 xb, .int .i64 xu, .bool xlost, .bool xagain] 58) emp) p q gR E c9 m xa xu (.int .i64 xu) (.int .i64 0) w6 from ⟨0, sp, b, xu, Nat.zero_le _, rfl, rfl, hmm.symm, by omega, Int.le_refl _, S6.out, HT2.out, fun _ t ht h0 => absurd h0 (Nat.not_lt_zero _)⟩)
          clear HT2 S6 hmm hl hsp80
          go_wp2_with fail
          clear x3
          go_loopw [13, 14, 15] (fun r i _ wr => TopI u j W (star (CellO bx #[.int .i64 1, .int .i64 xa, .int .i64 xb, .int .i64 xu, .bool xlost, .bool xagain] 58) emp) p q gR E c9 m xa xu r i wr) (fun _ i _ _ => m - (intOf i).toNat)
          case atStart => exact S7.out
          case round =>
            obtain ⟨k, sp', b', r, hk, rfl, rfl, hlen, hr0, hr1, hS, hTI, hz⟩ := hrel
            have HZ := hide hz
            have HL := hide hlen
            have HTI := hide hTI
            have HS2 := hide hS
            clear S7 hz hTI hbx
            by_cases hend : k < m ∧ 0 < r
            · obtain ⟨hkm, hr⟩ := hend
              have hk' : k < sp'.length := by omega
              obtain ⟨a9, hE, y0, y1, y2, yf⟩ := hS.spAt hk'
              have S9 := hide (HS2.out.below (below_drew (Below.refl _ _)))
              have z1 : wr.drew.cell? ⟨bx, 1, none⟩ = some (.int .i64 xa) := S9.out.cells 1 _ rfl
              have z2 : wr.drew.cell? ⟨a9, k * 3 + 1, none⟩ = some (.int .i64 sp'[k].1) := y1
              obtain ⟨hv0, hv1⟩ := HTI.out.unit_le HGI.out hk'
              have hv2 : sp'[k].2 ≤ 2000065535 := by omega
              have HE := hide hE
              clear hS hlen hv1
              rw [hE]
              by_cases hrp : sp'[k].1 = xa
              · by_cases hv : sp'[k].2 = 0
                · skip
                  have HZ3 := hide (show 0 < r → ∀ t (ht : t < sp'.length), t < k + 1 → sp'[t].1 = xa → sp'[t].2 = 0 from fun h0 t ht htk e => by
                    by_cases etk : t = k
                    · subst etk
                      exact hv
                    · exact HZ.out h0 t ht (by omega) e)
                  clear HZ HS2 y0 y1 yf
                  generalize sp'[k].1 = rp at *
                  generalize sp'[k].2 = v at *
                  rw [hrp] at z2
                  rw [hv] at y2
                  have t1 : (xa != xa) = false := by simp
                  have tm : min r 0 = 0 := by omega
                  clear hrp hv hE
                  go_wp2_with fail
                  refine wp_region_lex (fun w' => w' = wr.drew) (by kernel_rfl) (by kernel_rfl) rfl ?_
                  generalize wr.drew = wd at *
                  (repeat (first | (refine lex_skip (by rfl) ?_; try simp only [Act.put, List.setIfInBounds_toArray, List.set_cons_zero, List.set_cons_succ]) | (refine lex_read (v := ?_) (by rfl) ?_ ?_; rotate_left; (focus (intro w' hS'; go_simp; (try with_reducible rfl); done)); try simp only [Act.put, List.setIfInBounds_toArray, List.set_cons_zero, List.set_cons_succ])))
                  refine lex_nil ?_
                  go_wp2
                  go_roundw
                  case rel => exact ⟨k + 1, sp', b', r, by omega, by go_num, rfl, HL.out, by omega, by omega, by rw [← HE.out]; exact S9.out, HTI.out, HZ3.out⟩
                  case measure => simp [intOf]; omega
                · have hvp : 0 < sp'[k].2 := by omega
                  by_cases hle : r ≤ sp'[k].2
                  · skip
                    obtain ⟨b3, e3, hT3⟩ := top_ret HTI.out (by rw [HL.out]; omega) hk' hrp (part := r) (by omega) (by omega)
                    have HE3 := hide e3
                    have HT3 := hide hT3
                    have HL3 := hide (show (sp'.set k (xa, sp'[k].2 - r)).length = m by rw [List.length_set, HL.out])
                    have HZ4 := hide (show 0 < r - r → ∀ t (ht : t < (sp'.set k (xa, sp'[k].2 - r)).length), t < k + 1 → (sp'.set k (xa, sp'[k].2 - r))[t].1 = xa → (sp'.set k (xa, sp'[k].2 - r))[t].2 = 0 from fun h0 t ht htk e => by
                      have ht' : t < sp'.length := by rw [List.length_set] at ht; exact ht
                      simp only [List.getElem_set] at e ⊢
                      by_cases etk : k = t
                      · simp only [if_pos etk]; omega
                      · rw [if_neg etk] at e ⊢
                        exact HZ.out (by omega) t ht' (by omega) e)
                    have KR := hide (ts_bk S9.out (inv2_return S9.out.inv2 (keyS k) r) (fun F hB => return_any hB S9.out.inv2.inv (keyS k) r))
                    simp only [HE3.out] at KR
                    have z0 : wr.drew.cell? ⟨a9, k * 3, none⟩ = some (.string (keyS k)) := y0
                    have HFIN := hide (show ∀ W', TS u j W (star (CellO bx #[.int .i64 1, .int .i64 xa, .int .i64 xb, .int .i64 xu, .bool xlost, .bool xagain] 58) emp) p gR q b3 E c9 sp' W' → W'.cell? ⟨a9, k * 3 + 2, none⟩ = some (.int .i64 sp'[k].2) ∧ W'.frozen? ⟨a9, k * 3 + 2, none⟩ = false ∧ TS u j W (star (CellO bx #[.int .i64 1, .int .i64 xa, .int .i64 xb, .int .i64 xu, .bool xlost, .bool xagain] 58) emp) p gR q b3 E c9 (sp'.set k (xa, sp'[k].2 - r)) (W'.setCell ⟨a9, k * 3 + 2, none⟩ (.int .i64 (sp'[k].2 - r))) from fun W' hT => by
                      obtain ⟨a', hE', -, -, q2, qf⟩ := hT.spAt hk'
                      rw [HE.out] at hE'
                      injection hE' with e; injection e with e
                      subst e
                      refine ⟨q2, qf, ?_⟩
                      rw [HE.out] at hT ⊢
                      exact hT.spSet hk' xa _ hrp)
                    have t1 : (xa != xa) = false := by simp
                    have t3 : (r == 0) = false := by simp; omega
                    rw [hrp] at z2
                    unfold gptr at KR
                    have hPr : r ≤ r := by omega
                    have hPv : r ≤ sp'[k].2 := by omega
                    have hP0 : 0 < r := by omega
                    clear e3 hT3 HZ HS2 y0 y1 yf hE HTI S9
                    generalize sp'[k].2 = v at *
                    generalize keyS k = ky at *
                    go_wp2_with fail
                    refine wp_region_lex (fun w' => w' = wr.drew) (by kernel_rfl) (by kernel_rfl) rfl ?_
                    generalize wr.drew = wd at *
                    (repeat (first | (refine lex_skip (by rfl) ?_; try simp only [Act.put, List.setIfInBounds_toArray, List.set_cons_zero, List.set_cons_succ]) | (refine lex_read (v := ?_) (by rfl) ?_ ?_; rotate_left; (focus (intro w' hS'; go_simp; (try with_reducible rfl); done)); try simp only [Act.put, List.setIfInBounds_toArray, List.set_cons_zero, List.set_cons_succ])))
                    refine lex_nil ?_
                    go_wp2_with fail
                    refine KR.out.mono ?_
                    rintro e w10 ⟨rfl, hS⟩
                    obtain ⟨q2, qf, hS2⟩ := HFIN.out _ hS
                    have S12 := hide hS2
                    clear hS hS2 KR z0 z1 z2 HFIN
                    go_wp2
                    go_roundw
                    case rel => exact ⟨k + 1, sp'.set k (xa, v - r), b3, r - r, by omega, by go_num, by go_num, HL3.out, by omega, by omega, by rw [← HE.out]; exact S12.out, HT3.out, HZ4.out⟩
                    case measure => simp [intOf]; omega
                  · obtain ⟨v, hve⟩ : ∃ v, v = sp'[k].2 := ⟨_, rfl⟩
                    obtain ⟨b3, e3, hT3⟩ := top_ret HTI.out (by rw [HL.out]; omega) hk' hrp (part := v) (by omega) (by omega)
                    rw [← hve, Int.sub_self] at hT3
                    have HE3 := hide e3
                    have HT3 := hide hT3
                    have HL3 := hide (show (sp'.set k (xa, 0)).length = m by rw [List.length_set, HL.out])
                    have HZ4 := hide (show 0 < r - v → ∀ t (ht : t < (sp'.set k (xa, 0)).length), t < k + 1 → (sp'.set k (xa, 0))[t].1 = xa → (sp'.set k (xa, 0))[t].2 = 0 from fun h0 t ht htk e => by
                      have ht' : t < sp'.length := by rw [List.length_set] at ht; exact ht
                      simp only [List.getElem_set] at e ⊢
                      by_cases etk : k = t
                      · simp only [if_pos etk]
                      · rw [if_neg etk] at e ⊢
                        exact HZ.out (by omega) t ht' (by omega) e)
                    have KR := hide (ts_bk S9.out (inv2_return S9.out.inv2 (keyS k) v) (fun F hB => return_any hB S9.out.inv2.inv (keyS k) v))
                    simp only [HE3.out] at KR
                    have z0 : wr.drew.cell? ⟨a9, k * 3, none⟩ = some (.string (keyS k)) := y0
                    have HFIN := hide (show ∀ W', TS u j W (star (CellO bx #[.int .i64 1, .int .i64 xa, .int .i64 xb, .int .i64 xu, .bool xlost, .bool xagain] 58) emp) p gR q b3 E c9 sp' W' → W'.cell? ⟨a9, k * 3 + 2, none⟩ = some (.int .i64 v) ∧ W'.frozen? ⟨a9, k * 3 + 2, none⟩ = false ∧ TS u j W (star (CellO bx #[.int .i64 1, .int .i64 xa, .int .i64 xb, .int .i64 xu, .bool xlost, .bool xagain] 58) emp) p gR q b3 E c9 (sp'.set k (xa, 0)) (W'.setCell ⟨a9, k * 3 + 2, none⟩ (.int .i64 0)) from fun W' hT => by
                      obtain ⟨a', hE', -, -, q2, qf⟩ := hT.spAt hk'
                      rw [HE.out] at hE'
                      injection hE' with e; injection e with e
                      subst e
                      rw [← hve] at q2
                      refine ⟨q2, qf, ?_⟩
                      rw [HE.out] at hT ⊢
                      exact hT.spSet hk' xa 0 hrp)
                    have t1 : (xa != xa) = false := by simp
                    rw [← hve] at y2 hle hvp hv0 hv2 hv
                    have t3 : (v == 0) = false := by simp; omega
                    rw [hrp] at z2
                    unfold gptr at KR
                    have hvr : v < r := by omega
                    clear e3 hT3 HZ HS2 y0 y1 yf hE HTI S9 hle hv hve
                    generalize keyS k = ky at *
                    go_wp2_with fail
                    refine wp_region_lex (fun w' => w' = wr.drew) (by kernel_rfl) (by kernel_rfl) rfl ?_
                    generalize wr.drew = wd at *
                    (repeat (first | (refine lex_skip (by rfl) ?_; try simp only [Act.put, List.setIfInBounds_toArray, List.set_cons_zero, List.set_cons_succ]) | (refine lex_read (v := ?_) (by rfl) ?_ ?_; rotate_left; (focus (intro w' hS'; go_simp; (try with_reducible rfl); done)); try simp only [Act.put, List.setIfInBounds_toArray, List.set_cons_zero, List.set_cons_succ])))
                    refine lex_nil ?_
                    go_wp2_with fail
                    refine KR.out.mono ?_
                    rintro e w10 ⟨rfl, hS⟩
                    obtain ⟨q2, qf, hS2⟩ := HFIN.out _ hS
                    have S12 := hide hS2
                    clear hS hS2 KR z0 z1 z2 HFIN
                    go_wp2
                    go_roundw
                    case rel => exact ⟨k + 1, sp'.set k (xa, 0), b3, r - v, by omega, by go_num, by go_num, HL3.out, by omega, by omega, by rw [← HE.out]; exact S12.out, HT3.out, HZ4.out⟩
                    case measure => simp [intOf]; omega
              · skip
                have HZ3 := hide (show 0 < r → ∀ t (ht : t < sp'.length), t < k + 1 → sp'[t].1 = xa → sp'[t].2 = 0 from fun h0 t ht htk e => by
                  by_cases etk : t = k
                  · subst etk
                    exact absurd e hrp
                  · exact HZ.out h0 t ht (by omega) e)
                clear HZ HS2 y0 y1 yf
                generalize sp'[k].1 = rp at *
                generalize sp'[k].2 = v at *
                have t1 : (rp != xa) = true := by simpa using hrp
                clear hrp hE
                go_wp2_with fail
                all_goals
                  refine wp_region_lex (fun w' => w' = wr.drew) (by kernel_rfl) (by kernel_rfl) rfl ?_
                  generalize wr.drew = wd at *
                  (repeat (first | (refine lex_skip (by rfl) ?_; try simp only [Act.put, List.setIfInBounds_toArray, List.set_cons_zero, List.set_cons_succ]) | (refine lex_read (v := ?_) (by rfl) ?_ ?_; rotate_left; (focus (intro w' hS'; go_simp; (try with_reducible rfl); done)); try simp only [Act.put, List.setIfInBounds_toArray, List.set_cons_zero, List.set_cons_succ])))
                  refine lex_nil ?_
                  go_wp2
                  go_roundw
                  case rel => exact ⟨k + 1, sp', b', r, by omega, by go_num, rfl, HL.out, by omega, by omega, by rw [← HE.out]; exact S9.out, HTI.out, HZ3.out⟩
                  case measure => simp [intOf]; omega
            · have hr00 : r = 0 := by
                by_cases h0 : 0 < r
                · have hkm : k = m := by omega
                  have := top_done HTI.out HGI.out (fun t ht => HZ.out h0 t ht (by omega))
                  omega
                · omega
              rw [hr00]
              rw [hr00] at HTI
              clear hr00 hr0 hr1 HZ
              have S8 := hide ((hS.drop emp_ok).up (by omega : j ≤ j + 1))
              clear hS HS2
              have hr02 : ¬ (0 : Int) < 0 := by omega
              by_cases hkm : k < m
              · go_wp2
                go_roundw
                case rel => exact ⟨j + 1, sp', E, c9, gR, b', by omega, by go_num, by rw [HL.out], S8.out, HTI.out.zero 0, by omega⟩
                case measure => simp [intOf]; omega
              · go_wp2
                go_roundw
                case rel => exact ⟨j + 1, sp', E, c9, gR, b', by omega, by go_num, by rw [HL.out], S8.out, HTI.out.zero 0, by omega⟩
                case measure => simp [intOf]; omega
        · have hm : retM g xa xu = g := by unfold retM; rw [if_neg he]
          have KS := hide (ts_of HSB.out (st_ret HSB.out.st xa xu ⟨ho1, ho2⟩))
          rw [hm] at KS
          have t1 : (retE g xa xu != 0) = true := by simpa using he
          generalize retE g xa xu = ee at *
          clear HSB hm he
          go_wp2_with fail
          refine KS.out.mono ?_
          rintro e w6 ⟨rfl, hS⟩
          have S6 := hide (hS.drop emp_ok)
          clear hS KS
          go_wp2
          go_roundw
          case rel => exact ⟨j + 1, sp, E, c9, g, b, by omega, by go_num, rfl, S6.out.up (by omega), HT.out, by omega⟩
          case measure => simp [intOf]; omega
      by_cases k2 : xk = 2
      · subst k2
        have KS := hide (ts_of HSB.out (st_give HSB.out.st (by omega) xa xb xu))
        clear HSB
        go_wp2_with fail
        refine KS.out.mono ?_
        rintro e w6 ⟨rfl, hS⟩
        have S6 := hide (hS.drop emp_ok)
        clear hS KS
        go_wp2
        go_roundw
        case rel => exact ⟨j + 1, sp, E, c9, giveM g xa xb xu, b, by omega, by go_num, rfl, S6.out, top_give HT.out xa xb xu, by omega⟩
        case measure => simp [intOf]; omega
      by_cases k3 : xk = 3
      · subst k3
        have KS := hide ((ts_of HSB.out (st_send HSB.out.st (by omega) xa xb)))
        clear HSB
        go_wp2_with fail
        refine KS.out.mono ?_
        rintro e w6 ⟨rfl, hS⟩
        have S6 := hide (hS.drop emp_ok)
        clear hS KS
        go_wp2
        go_roundw
        case rel => exact ⟨j + 1, sp, E, c9, sendM g xa xb, b, by omega, by go_num, rfl, S6.out.up (by omega), top_send HT.out xa xb, by omega⟩
        case measure => simp [intOf]; omega
      · have t0 : (xk == 0) = false := by simpa using k0
        have t1 : (xk == 1) = false := by simpa using k1
        have t2 : (xk == 2) = false := by simpa using k2
        have t3 : (xk == 3) = false := by simpa using k3
        clear k0 k1 k2 k3
        have KS := hide ((ts_of HSB.out (st_del HSB.out.st (by omega) xa xb xlost xagain)))
        clear HSB
        go_wp2_with fail
        refine KS.out.mono ?_
        rintro e w6 ⟨rfl, hS⟩
        have S6 := hide (hS.drop emp_ok)
        clear hS KS
        go_wp2
        go_roundw
        case rel => exact ⟨j + 1, sp, E, c9, delM g xa xb xlost xagain, b, by omega, by go_num, rfl, S6.out.up (by omega), top_del HT.out xa xb xlost xagain, by omega⟩
        case measure => simp [intOf]; omega
    · have hjN : j = N := by omega
      have HB := hide hS.bel
      have hlb : sp.length ≤ 80 := by omega
      have HSP := hide hS
      have KL := hide (ts_left hS lS 0)
      obtain ⟨hend1, hend2, hend3⟩ := top_end HT.out
      rw [hend1] at KL
      have HE2 := hide hend2
      have HE3 := hide hend3
      clear hend1 hend2 hend3 hS hT
      unfold leftV gptr lS at KL
      by_cases hjn : j < n
      · have hj8 : ¬ j < 80 := by have := HN.out; omega
        clear hjN
        go_wp2_with fail
        refine KL.out.mono ?_
        rintro e w6 ⟨rfl, hS⟩
        have S8 := hide ((hS.box #[.int .i64 (u - all2 sp), .int .i64 (1000 - (sp.length : Int))] 66).below (below_drew (Below.refl _ _)))
        have hb0 := top_bnd S8.out.st.inv 0
        have hb1 := (top_bnd S8.out.st.inv 1).1
        have hb2 := (top_bnd S8.out.st.inv 2).1
        obtain ⟨hb0, hbf⟩ := hb0
        have hall := all2_nonneg sp (fun x hx => (HT.out.pos x hx).2)
        have hh := HE2.out
        have G3 := HE3.out
        have E1 : IntKind.i64.wrap (have_ g 0 + have_ g 1) = have_ g 0 + have_ g 1 := IntWalk.i64_in _ (by omega)
        have E2 : IntKind.i64.wrap (have_ g 0 + have_ g 1 + have_ g 2) = have_ g 0 + have_ g 1 + have_ g 2 := IntWalk.i64_in _ (by omega)
        have E3 : IntKind.i64.wrap (have_ g 0 + have_ g 1 + have_ g 2 + flyG g) = u - all2 sp := by rw [IntWalk.i64_in _ (by omega)]; exact hh
        have E4 : IntKind.i64.wrap (u - spentG g) = u - all2 sp := by rw [G3]; exact IntWalk.i64_in _ (by omega)
        have E6 : IntKind.i64.wrap u = u := IntWalk.i64_in _ (by omega)
        have E5 : IntKind.i64.wrap (1000 - (sp.length : Int)) = 1000 - (sp.length : Int) := IntWalk.i64_in _ (by omega)
        clear hh G3 hb0 hb1 hb2 hbf hall
        have hbx : ∃ bx, bx = w6.heap.size := ⟨_, rfl⟩
        clear hS KL HB
        go_wp2_with fail
        generalize w6.heap.size = bx at *
        refine Go.CHC.wp_region_lex (fun w' => TS u j W (star (CellO bx #[.int .i64 (u - all2 sp), .int .i64 (1000 - (sp.length : Int))] 66) emp) p g q b E c9 sp w') (by kernel_rfl) (by kernel_rfl) S8.out ?_
        (repeat (first | (refine Go.CHC.lex_skip (by rfl) ?_; try simp only [Act.put, List.setIfInBounds_toArray, List.set_cons_zero, List.set_cons_succ]) | (refine Go.CHC.lex_read (v := ?_) (by rfl) ?_ ?_; rotate_left; (focus (intro w' hS'; (try have x0 := hS'.cells 0 _ rfl); (try have x1 := hS'.cells 1 _ rfl); go_simp; (try with_reducible rfl); done)); try simp only [Act.put, List.setIfInBounds_toArray, List.set_cons_zero, List.set_cons_succ])))
        refine Go.CHC.lex_chain rfl (by rfl) (fun K hK => ?_)
        have KC := hide (ts_of S8.out (st_have S8.out.st 0))
        go_wp2_with fail
        refine KC.out.mono ?_
        rintro e v9 ⟨rfl, hS⟩
        refine hK.out _ _ hS ?_
        have S9 := hide hS
        clear hK hS KC S8
        (repeat (first | (refine Go.CHC.lex_skip (by rfl) ?_; try simp only [Act.put, List.setIfInBounds_toArray, List.set_cons_zero, List.set_cons_succ]) | (refine Go.CHC.lex_read (v := ?_) (by rfl) ?_ ?_; rotate_left; (focus (intro w' hS'; (try have x0 := hS'.cells 0 _ rfl); (try have x1 := hS'.cells 1 _ rfl); go_simp; (try with_reducible rfl); done)); try simp only [Act.put, List.setIfInBounds_toArray, List.set_cons_zero, List.set_cons_succ])))
        refine Go.CHC.lex_chain rfl (by rfl) (fun K hK => ?_)
        have KC := hide (ts_of S9.out (st_have S9.out.st 1))
        go_wp2_with fail
        refine KC.out.mono ?_
        rintro e v10 ⟨rfl, hS⟩
        refine hK.out _ _ hS ?_
        have S10 := hide hS
        clear hK hS KC S9
        (repeat (first | (refine Go.CHC.lex_skip (by rfl) ?_; try simp only [Act.put, List.setIfInBounds_toArray, List.set_cons_zero, List.set_cons_succ]) | (refine Go.CHC.lex_read (v := ?_) (by rfl) ?_ ?_; rotate_left; (focus (intro w' hS'; (try have x0 := hS'.cells 0 _ rfl); (try have x1 := hS'.cells 1 _ rfl); go_simp; (try with_reducible rfl); done)); try simp only [Act.put, List.setIfInBounds_toArray, List.set_cons_zero, List.set_cons_succ])))
        refine Go.CHC.lex_chain rfl (by rfl) (fun K hK => ?_)
        have KC := hide (ts_of S10.out (st_have S10.out.st 2))
        go_wp2_with fail
        refine KC.out.mono ?_
        rintro e v11 ⟨rfl, hS⟩
        refine hK.out _ _ hS ?_
        have S11 := hide hS
        clear hK hS KC S10
        (repeat (first | (refine Go.CHC.lex_skip (by rfl) ?_; try simp only [Act.put, List.setIfInBounds_toArray, List.set_cons_zero, List.set_cons_succ]) | (refine Go.CHC.lex_read (v := ?_) (by rfl) ?_ ?_; rotate_left; (focus (intro w' hS'; (try have x0 := hS'.cells 0 _ rfl); (try have x1 := hS'.cells 1 _ rfl); go_simp; (try with_reducible rfl); done)); try simp only [Act.put, List.setIfInBounds_toArray, List.set_cons_zero, List.set_cons_succ])))
        refine Go.CHC.lex_chain rfl (by rfl) (fun K hK => ?_)
        have KC := hide (ts_of S11.out (st_fly S11.out.st (by omega)))
        go_wp2_with fail
        refine KC.out.mono ?_
        rintro e v12 ⟨rfl, hS⟩
        refine hK.out _ _ hS ?_
        have S12 := hide hS
        clear hK hS KC S11
        (repeat (first | (refine Go.CHC.lex_skip (by rfl) ?_; try simp only [Act.put, List.setIfInBounds_toArray, List.set_cons_zero, List.set_cons_succ]) | (refine Go.CHC.lex_read (v := ?_) (by rfl) ?_ ?_; rotate_left; (focus (intro w' hS'; (try have x0 := hS'.cells 0 _ rfl); (try have x1 := hS'.cells 1 _ rfl); go_simp; (try with_reducible rfl); done)); try simp only [Act.put, List.setIfInBounds_toArray, List.set_cons_zero, List.set_cons_succ])))
        refine Go.CHC.lex_chain rfl (by rfl) (fun K hK => ?_)
        have KC := hide (ts_of S12.out (st_spent S12.out.st))
        go_wp2_with fail
        refine KC.out.mono ?_
        rintro e v13 ⟨rfl, hS⟩
        refine hK.out _ _ hS ?_
        have S13 := hide hS
        clear hK hS KC S12
        (repeat (first | (refine Go.CHC.lex_skip (by rfl) ?_; try simp only [Act.put, List.setIfInBounds_toArray, List.set_cons_zero, List.set_cons_succ]) | (refine Go.CHC.lex_read (v := ?_) (by rfl) ?_ ?_; rotate_left; (focus (intro w' hS'; (try have x0 := hS'.cells 0 _ rfl); (try have x1 := hS'.cells 1 _ rfl); go_simp; (try with_reducible rfl); done)); try simp only [Act.put, List.setIfInBounds_toArray, List.set_cons_zero, List.set_cons_succ])))
        refine Go.CHC.lex_nil ?_
        have HBL := hide S13.out.bel
        go_wp2
        go_ret
        exact ⟨rfl, HBL.out⟩
      · clear hjN
        go_wp2_with fail
        refine KL.out.mono ?_
        rintro e w6 ⟨rfl, hS⟩
        have S8 := hide ((hS.box #[.int .i64 (u - all2 sp), .int .i64 (1000 - (sp.length : Int))] 66).below (below_drew (Below.refl _ _)))
        have hb0 := top_bnd S8.out.st.inv 0
        have hb1 := (top_bnd S8.out.st.inv 1).1
        have hb2 := (top_bnd S8.out.st.inv 2).1
        obtain ⟨hb0, hbf⟩ := hb0
        have hall := all2_nonneg sp (fun x hx => (HT.out.pos x hx).2)
        have hh := HE2.out
        have G3 := HE3.out
        have E1 : IntKind.i64.wrap (have_ g 0 + have_ g 1) = have_ g 0 + have_ g 1 := IntWalk.i64_in _ (by omega)
        have E2 : IntKind.i64.wrap (have_ g 0 + have_ g 1 + have_ g 2) = have_ g 0 + have_ g 1 + have_ g 2 := IntWalk.i64_in _ (by omega)
        have E3 : IntKind.i64.wrap (have_ g 0 + have_ g 1 + have_ g 2 + flyG g) = u - all2 sp := by rw [IntWalk.i64_in _ (by omega)]; exact hh
        have E4 : IntKind.i64.wrap (u - spentG g) = u - all2 sp := by rw [G3]; exact IntWalk.i64_in _ (by omega)
        have E6 : IntKind.i64.wrap u = u := IntWalk.i64_in _ (by omega)
        have E5 : IntKind.i64.wrap (1000 - (sp.length : Int)) = 1000 - (sp.length : Int) := IntWalk.i64_in _ (by omega)
        clear hh G3 hb0 hb1 hb2 hbf hall
        have hbx : ∃ bx, bx = w6.heap.size := ⟨_, rfl⟩
        clear hS KL HB
        go_wp2_with fail
        generalize w6.heap.size = bx at *
        refine Go.CHC.wp_region_lex (fun w' => TS u j W (star (CellO bx #[.int .i64 (u - all2 sp), .int .i64 (1000 - (sp.length : Int))] 66) emp) p g q b E c9 sp w') (by kernel_rfl) (by kernel_rfl) S8.out ?_
        (repeat (first | (refine Go.CHC.lex_skip (by rfl) ?_; try simp only [Act.put, List.setIfInBounds_toArray, List.set_cons_zero, List.set_cons_succ]) | (refine Go.CHC.lex_read (v := ?_) (by rfl) ?_ ?_; rotate_left; (focus (intro w' hS'; (try have x0 := hS'.cells 0 _ rfl); (try have x1 := hS'.cells 1 _ rfl); go_simp; (try with_reducible rfl); done)); try simp only [Act.put, List.setIfInBounds_toArray, List.set_cons_zero, List.set_cons_succ])))
        refine Go.CHC.lex_chain rfl (by rfl) (fun K hK => ?_)
        have KC := hide (ts_of S8.out (st_have S8.out.st 0))
        go_wp2_with fail
        refine KC.out.mono ?_
        rintro e v9 ⟨rfl, hS⟩
        refine hK.out _ _ hS ?_
        have S9 := hide hS
        clear hK hS KC S8
        (repeat (first | (refine Go.CHC.lex_skip (by rfl) ?_; try simp only [Act.put, List.setIfInBounds_toArray, List.set_cons_zero, List.set_cons_succ]) | (refine Go.CHC.lex_read (v := ?_) (by rfl) ?_ ?_; rotate_left; (focus (intro w' hS'; (try have x0 := hS'.cells 0 _ rfl); (try have x1 := hS'.cells 1 _ rfl); go_simp; (try with_reducible rfl); done)); try simp only [Act.put, List.setIfInBounds_toArray, List.set_cons_zero, List.set_cons_succ])))
        refine Go.CHC.lex_chain rfl (by rfl) (fun K hK => ?_)
        have KC := hide (ts_of S9.out (st_have S9.out.st 1))
        go_wp2_with fail
        refine KC.out.mono ?_
        rintro e v10 ⟨rfl, hS⟩
        refine hK.out _ _ hS ?_
        have S10 := hide hS
        clear hK hS KC S9
        (repeat (first | (refine Go.CHC.lex_skip (by rfl) ?_; try simp only [Act.put, List.setIfInBounds_toArray, List.set_cons_zero, List.set_cons_succ]) | (refine Go.CHC.lex_read (v := ?_) (by rfl) ?_ ?_; rotate_left; (focus (intro w' hS'; (try have x0 := hS'.cells 0 _ rfl); (try have x1 := hS'.cells 1 _ rfl); go_simp; (try with_reducible rfl); done)); try simp only [Act.put, List.setIfInBounds_toArray, List.set_cons_zero, List.set_cons_succ])))
        refine Go.CHC.lex_chain rfl (by rfl) (fun K hK => ?_)
        have KC := hide (ts_of S10.out (st_have S10.out.st 2))
        go_wp2_with fail
        refine KC.out.mono ?_
        rintro e v11 ⟨rfl, hS⟩
        refine hK.out _ _ hS ?_
        have S11 := hide hS
        clear hK hS KC S10
        (repeat (first | (refine Go.CHC.lex_skip (by rfl) ?_; try simp only [Act.put, List.setIfInBounds_toArray, List.set_cons_zero, List.set_cons_succ]) | (refine Go.CHC.lex_read (v := ?_) (by rfl) ?_ ?_; rotate_left; (focus (intro w' hS'; (try have x0 := hS'.cells 0 _ rfl); (try have x1 := hS'.cells 1 _ rfl); go_simp; (try with_reducible rfl); done)); try simp only [Act.put, List.setIfInBounds_toArray, List.set_cons_zero, List.set_cons_succ])))
        refine Go.CHC.lex_chain rfl (by rfl) (fun K hK => ?_)
        have KC := hide (ts_of S11.out (st_fly S11.out.st (by omega)))
        go_wp2_with fail
        refine KC.out.mono ?_
        rintro e v12 ⟨rfl, hS⟩
        refine hK.out _ _ hS ?_
        have S12 := hide hS
        clear hK hS KC S11
        (repeat (first | (refine Go.CHC.lex_skip (by rfl) ?_; try simp only [Act.put, List.setIfInBounds_toArray, List.set_cons_zero, List.set_cons_succ]) | (refine Go.CHC.lex_read (v := ?_) (by rfl) ?_ ?_; rotate_left; (focus (intro w' hS'; (try have x0 := hS'.cells 0 _ rfl); (try have x1 := hS'.cells 1 _ rfl); go_simp; (try with_reducible rfl); done)); try simp only [Act.put, List.setIfInBounds_toArray, List.set_cons_zero, List.set_cons_succ])))
        refine Go.CHC.lex_chain rfl (by rfl) (fun K hK => ?_)
        have KC := hide (ts_of S12.out (st_spent S12.out.st))
        go_wp2_with fail
        refine KC.out.mono ?_
        rintro e v13 ⟨rfl, hS⟩
        refine hK.out _ _ hS ?_
        have S13 := hide hS
        clear hK hS KC S12
        (repeat (first | (refine Go.CHC.lex_skip (by rfl) ?_; try simp only [Act.put, List.setIfInBounds_toArray, List.set_cons_zero, List.set_cons_succ]) | (refine Go.CHC.lex_read (v := ?_) (by rfl) ?_ ?_; rotate_left; (focus (intro w' hS'; (try have x0 := hS'.cells 0 _ rfl); (try have x1 := hS'.cells 1 _ rfl); go_simp; (try with_reducible rfl); done)); try simp only [Act.put, List.setIfInBounds_toArray, List.set_cons_zero, List.set_cons_succ])))
        refine Go.CHC.lex_nil ?_
        have HBL := hide S13.out.bel
        go_wp2
        go_ret
        exact ⟨rfl, HBL.out⟩
end
end Go.Proofs.Ytapabbpdfplpoaa
