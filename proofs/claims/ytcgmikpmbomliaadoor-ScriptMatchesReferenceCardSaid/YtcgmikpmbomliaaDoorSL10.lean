/-
  Script: Parse.
  Script: small functions of the laws: short, sum, Texts.
  Script: sum, vowel.
  Script: vowel, Few, Same.
  Script: Same.
-/
import Derived.Test.YtcgmikpmbomliaaDoorSL9
import Derived.Test.YtcgmikpmbomliaaDoorSL8
set_option linter.unusedSimpArgs false
set_option linter.unusedVariables false
namespace Go.Proofs.YtcgmikpmbomliaaDoor
open Go.RowKit Go.CH Go.CH.Scr
open Go.ChangeMaps (setBlock)
attribute [local go_sem] Oper.semAt_some
set_option maxRecDepth 100000 in
set_option maxHeartbeats 3200000 in
theorem Parse_any (s : ByteArray) (w : World) (hz : LZ w) :
    Calls Tryd.prog 20 #[.string s] w (ParseRet w (parseN (bl s))) := by
  have HZ := hide hz
  clear hz
  refine (callsIn_wide (n := 8)).1 ?_
  refine callsIn_of_wp_marks Tryd.func20 rfl trivial ?_ rfl
  simp only [Tryd.ntmps20, List.size_toArray, List.length_cons, List.length_nil, Nat.reduceAdd, Nat.reduceSub, Array.replicate_succ, Array.replicate_zero, List.push_toArray, List.append_toArray, List.nil_append, List.cons_append]
  refine (wpIn_wide (n := 8)).2 ?_
  have hmk : ∀ w : World, (Instr.makeMap 56 none).run Tryd.prog w = .ok (.map (some w.heap.size)) (w.alloc (.map #[] 0)) := fun w => by kernel_rfl
  by_cases hlen : (20000 : Int) < (s.size : Int)
  · have S0 := hide (parse_far w 2 (-1))
    have HR := hide (show parseN (bl s) = (⟨0, []⟩, 2, -1) by unfold parseN; rw [if_pos (by rw [bl_len]; omega)]; rfl)
    clear HZ hmk
    go_wp2_with fail
    refine wp_scope_straight ?_
    go_wp2_with fail
    exact parse_fin (g2 := w.heap.size) (g3 := w.heap.size + 1) (g4 := w.heap.size + 1 + 1) (A := none) (c := 0) HR.out S0.out (vst_nil _) (Nat.le_refl _) rfl rfl rfl
  · have S0 := hide (parse_start w)
    go_wp2_with fail
    refine wp_scope_straight ?_
    go_wp2_with fail
    obtain ⟨b, hb⟩ : ∃ b, b = w.heap.size + 1 + 1 + 1 := ⟨_, rfl⟩
    rw [show w.heap.size + 3 = w.heap.size + 1 + 1 + 1 from rfl, ← hb] at S0
    have KT := hide (titles_any ((((w.alloc (.cells #[.int .i64 0, .slice none 0 0] 24)).alloc (.cells #[.int .i64 0] 28)).alloc (.cells #[.int .i64 0] 3)).alloc (.map #[] 0)))
    refine KT.out.mono ?_
    rintro e9 w1 ⟨rfl, hbl⟩
    have S1 := hide (S0.out.below (star_ok map_ok res_ok) hbl)
    clear KT S0 hbl hmk
    rw [← hb]
    clear hb
    generalize w.heap.size = g2 at *
    dsimp only
    go_wp2_with fail
    go_loopw [6, 7, 22] (fun _ _ i wr => ∃ k : Nat, k ≤ 5 ∧ i = .int .i64 k ∧ Run (fun _ => False) w (star (MapO Value.string b (scl.take k)) (ResO g2 (g2 + 1) (g2 + 2))) wr) (fun _ _ i _ => 5 - (intOf i).toNat)
    case atStart => exact ⟨0, Nat.zero_le _, rfl, S1.out⟩
    case round =>
      obtain ⟨k, hk, rfl, hR⟩ := hrel
      clear S1
      by_cases hlt : k < 5
      · obtain ⟨key, hkey⟩ : ∃ key, key = (scl[k]'(by simp [scl]; omega)).1 := ⟨_, rfl⟩
        have hix : ∀ W, (Instr.index 52 (.agg #[.string ⟨#[]⟩, .string (bs plainT), .string (bs casedT), .string (bs abjadT), .string (bs syllabT)]) (.int .i64 (k : Int))).run Tryd.prog W = .ok (.string key) W := fun W => run_idx5 (by
          rw [hkey]
          match k, hlt with
          | 0, _ => exact .inl ⟨rfl, rfl⟩
          | 1, _ => exact .inr (.inl ⟨rfl, rfl⟩)
          | 2, _ => exact .inr (.inr (.inl ⟨rfl, rfl⟩))
          | 3, _ => exact .inr (.inr (.inr (.inl ⟨rfl, rfl⟩)))
          | 4, _ => exact .inr (.inr (.inr (.inr ⟨rfl, rfl⟩)))) W
        have hval : (scl[k]'(by simp [scl]; omega)).2 = .int .i64 (k : Int) := by
          match k, hlt with
          | 0, _ => rfl
          | 1, _ => rfl
          | 2, _ => rfl
          | 3, _ => rfl
          | 4, _ => rfl
        obtain ⟨F2, hM2, -, back⟩ := hR.take map_ok res_ok
        obtain ⟨w2, hup, hpost⟩ := mapO_put keyStr Tryd.underlying56 hM2 key (.int .i64 (k : Int))
        have R2 := back _ _ hpost
        rw [← hval, hkey, scl_put hlt] at R2
        have HR2 := hide R2
        clear hM2 back hpost R2 hval hkey hR
        have hk5 : (k : Int) < 5 := by omega
        go_wp2
        go_roundw
        case rel => exact ⟨k + 1, by omega, by go_num, HR2.out⟩
        case measure => simp [intOf]; omega
      · obtain rfl : k = 5 := by omega
        have hR5 : Run (fun _ => False) w (star (MapO Value.string b scl) (ResO g2 (g2 + 1) (g2 + 2))) wr := hR
        have S5 := hide hR5
        clear hR hR5
        have hz := HZ.out.below S5.out.bel
        obtain ⟨m, hm⟩ := hz.m
        have KC0 := Tryd.strings_Cut s ⟨#[58]⟩ m wr (by omega) hm
        obtain ⟨F5, hM5⟩ := S5.out.fst
        rcases cut_colon (bl s) with ⟨b0, r, h1, h2, h3⟩ | ⟨h2, h3⟩
        · rw [show Lib.cut s.data.toList (⟨#[58]⟩ : ByteArray).data.toList = (b0, r, true) from h3] at KC0
          dsimp only at KC0
          obtain ⟨t0, ht0⟩ : ∃ t0 : ByteArray, t0 = ⟨b0.toArray⟩ := ⟨_, rfl⟩
          rw [← ht0] at KC0
          have KC := hide KC0
          have hlk : ∀ n, (Instr.lookup 56 (.map (some b)) (.string t0) false).run Tryd.prog (wr.drewN n) = .ok (.int .i64 (kOf b0)) (wr.drewN n) := fun n => by
            obtain ⟨F6, hM6⟩ := (S5.out.drewN (star_ok map_ok res_ok) n).fst
            rw [mapO_get keyStr Tryd.underlying56 zeroI hM6 t0, scl_get, ht0]
          have hpc := pre_cut (b := b0) (r := r) h2
          by_cases hk0 : kOf b0 = 0
          · have HRR := hide (show parseN (bl s) = (⟨0, []⟩, 5, 0) by unfold parseN; rw [if_neg (by rw [bl_len]; omega), h1, if_pos (by rw [hpc.1]; exact hk0)]; rfl)
            rw [hk0] at hlk
            clear KC0 hpc hk0 h1 h2 h3 hM5 hm hz ht0
            go_wp2_with fail
            refine KC.out.mono ?_
            rintro e9 w9 ⟨rfl, n, rfl⟩
            have h5 := S5.out.drewN (star_ok map_ok res_ok) n
            have h6 := h5.fresh (star_ok map_ok res_ok) (cell_new (wr.drewN n) #[.int .i64 0, .slice none 0 0] 24)
            have S6 := hide h6
            have hlk2 := hlk n
            clear h5 h6 KC hlk
            generalize wr.drewN n = wd at *
            have h7 := S6.out.perm (by unfold ResO; ac_rfl : _ = star (CellO g2 #[.int .i64 0, .slice none 0 0] 24) (star (CellO (g2 + 2) #[.int .i64 0] 3) (star (CellO (g2 + 1) #[.int .i64 0] 28) (star (CellO wd.heap.size #[.int .i64 0, .slice none 0 0] 24) (MapO Value.string b scl)))))
            obtain ⟨F9, k9⟩ := h7.fst
            have d0 := cell_at (i := 0) k9 rfl
            have d1 := cell_at (i := 1) k9 rfl
            have f0 := cell_free k9 0
            have f1 := cell_free k9 1
            obtain ⟨d3, f3⟩ := get3 h7
            obtain ⟨d4, f4⟩ := get2 h7
            have H7 := hide h7
            clear h7 k9 S6
            dsimp only
            go_wp2_with fail
            exact parse_fin (g2 := g2) (g3 := g2 + 1) (g4 := g2 + 1 + 1) (A := none) (c := 0) HRR.out (res_store (star_ok cell_ok map_ok) (.int .i64 0) (.slice none 0 0) (.int .i64 5) (.int .i64 0) H7.out) (vst_nil _) (Nat.le_refl _) rfl rfl rfl
          · have hn0 : b0.length + 1 ≤ s.size := by
              have h4 := congrArg List.length h1
              rw [bl_len, List.length_append, List.length_cons] at h4
              omega
            have HRR := hide (show parseN (bl s) = done (kOf b0) s.size (read (kOf b0) [] [] 0 (b0.length + 1) ((bl s).drop (b0.length + 1))) by
              unfold parseN
              rw [if_neg (by rw [bl_len]; omega), h1, if_neg (by rw [hpc.1]; exact hk0), hpc.1, hpc.2 hk0, ← h1, bl_len])
            have T0 : (kOf b0 == 0) = false := by simpa using hk0
            have Tsz : t0.size = b0.length := by rw [ht0]; simp [ByteArray.size]
            have HZr := HZ.out.below S5.out.bel
            clear KC0 hpc h1 h2 h3 hM5 hm hz ht0 hk0
            generalize kOf b0 = k at *
            generalize b0.length = n0 at *
            have Tsz2 : (t0.size : Int) = (n0 : Int) := by rw [Tsz]
            go_wp2_with fail
            refine KC.out.mono ?_
            rintro e9 w9 ⟨rfl, n, rfl⟩
            have h5 := S5.out.drewN (star_ok map_ok res_ok) n
            have hlk2 := hlk n
            have S5n := hide (show Run (fun _ => False) w (star (MapO Value.string b scl) (ResO g2 (g2 + 1) (g2 + 1 + 1))) (wr.drewN n) from h5)
            clear h5 KC hlk S5 HZr
            generalize wr.drewN n = wd at *
            clear wr
            dsimp only
            go_wp2_with fail
            refine wp_label ?_
            have H0 := hide (lp_start (k := k) (n0 := n0) S5n.out)
            clear S5n hlk2 T0 Tsz Tsz2
            generalize (wd.alloc (.cells #[.int .i64 k, .slice none 0 0] 24)).alloc (.cells #[.int .i64 ((n0 : Int) + 1)] 3) = W0 at *
            generalize wd.heap.size + 1 = g12 at *
            generalize wd.heap.size = g11 at *
            clear wd
            go_wp2_with fail
            refine wp_loop (LpI w b g2 g11 g12 k s) (fun _ wr => s.size - posOf g12 wr) ?_ ?_
            · exact lp_mk [] rfl rfl rfl rfl rfl rfl rfl rfl H0.out hn0 (Nat.zero_le _) HRR.out
            clear H0 HRR hn0
            rintro a wr ⟨v, Ds, pos, ws, A, c, ⟨hR, hpos, hws, hP⟩, rfl⟩
            have HP := hide hP
            have HPOS := hide (lp_pos hR)
            have hR2 := lp_out hR
            obtain ⟨c12, f12⟩ := hR2.1
            have HR := hide hR2.2
            clear hR hR2 hP
            by_cases hlt : (pos : Int) < (s.size : Int)
            · have hl' : bl (s.extract pos s.size) = (bl s).drop pos := by rw [bl_extract, ← bl_len, List.take_length]
              obtain ⟨l, hl⟩ : ∃ l, l = (bl s).drop pos := ⟨_, rfl⟩
              have hlen2 : l.length = s.size - pos := by rw [hl, List.length_drop, bl_len]
              have HP2 := hide (hl ▸ HP.out)
              have HL := hide hl
              have HL2 := hide (hl'.trans hl.symm)
              have HLEN := hide hlen2
              clear HP hl' hl hlen2
              obtain ⟨⟨n0, m0⟩, ⟨n1, m1⟩⟩ := nm_name HR.out
              have H14 := hide (HR.out.fresh (star_ok nm_ok (star_ok marks_ok cell_ok)) (cell_new wr #[.int .i64 0] 3))
              clear HR
              go_wp2_with fail
              generalize wr.heap.size = g14 at *
              generalize hW3 : wr.alloc (.cells #[.int .i64 0] 3) = W3 at *
              have H15 := hide (H14.out.perm (by ac_rfl : _ = star (NmO b g2 (g2 + 1) (g2 + 1 + 1) g11 k A c ws) (star (CellO g12 #[.int .i64 (pos : Int)] 3) (star (CellO g14 #[.int .i64 0] 3) (marksO Ds)))))
              clear n0 m0 n1 m1 c12 f12 hW3 H14
              obtain ⟨⟨n0, m0⟩, -⟩ := nm_name H15.out
              obtain ⟨c12, f12⟩ := get2 H15.out
              have KL := hide (letters_any k (s.extract pos s.size) W3.drew)
              rw [HL2.out] at KL
              refine wp_region_les [5] [0, 0, 0, 0, 0, 1] (fun w' => w'.cell? ⟨g11, 0, none⟩ = some (.int .i64 k) ∧ w'.cell? ⟨g12, 0, none⟩ = some (.int .i64 (pos : Int))) [] trivial rfl (by kernel_rfl) (by kernel_rfl) (by kernel_rfl) ⟨n0, c12⟩ ?_
              (repeat (first | (refine les_skip (by rfl) (by rfl) ?_; try simp only [Act.put, List.setIfInBounds_toArray, List.set_cons_zero, List.set_cons_succ]) | (refine les_read (v := ?_) (by rfl) (by rfl) ?_ ?_; rotate_left; (focus (intro w' hS'; (try simp only [stL] at hS'); go_simp; (try with_reducible rfl); done)); try simp only [Act.put, List.setIfInBounds_toArray, List.set_cons_zero, List.set_cons_succ])))
              refine les_chain rfl (by rfl) (fun K hK => ?_)
              go_wp2_with fail
              refine KL.out.mono ?_
              rintro e9 w9 ⟨b1, b2, rfl, hp⟩
              have S1 := hide (rg_start (l := l) (g14 := g14) ((((H15.out.drew (star_ok nm_ok (star_ok cell_ok (star_ok cell_ok marks_ok)))).fresh (star_ok nm_ok (star_ok cell_ok (star_ok cell_ok marks_ok))) hp).perm (by ac_rfl : _ = star (Zl k l b1 b2 0) (star (CellO g14 #[.int .i64 0] 3) (star (NmO b g2 (g2 + 1) (g2 + 1 + 1) g11 k A c ws) (star (marksO Ds) (CellO g12 #[.int .i64 (pos : Int)] 3))))))))
              refine hK.out _ _ trivial (les_nil ?_)
              clear hK KL hp
              have hE : ∀ W, Mod (fun _ => False) w W → LZ W := fun W h => HZ.out.below (h.below (fun _ _ h => h))
              go_wp2_with fail
              clear m0 f12 n0 c12
              refine range_law (gf := 36) (lb := #[.pointer (some ⟨b1, 0, none⟩), .pointer (some ⟨b2, 0, none⟩)]) rfl (enters_of Tryd.func36 (by kernel_rfl) rfl) (letters_iter k l b1 b2 (by rw [HLEN.out]; omega)) Zl_ok (fun _ => rfl) hE
                (RgO b g2 (g2 + 1) (g2 + 1 + 1) g11 g12 g14 k l pos Ds A c ws) (RgX g2 (g2 + 1) (g2 + 1 + 1) g12 g14 k l pos Ds ws) rg_ok rgx_ok S1.out
                (fun x => { tmps := #[.string s, v 1, .pointer (some ⟨g2, 0, none⟩), .pointer (some ⟨g2 + 1, 0, none⟩), .pointer (some ⟨g2 + 1 + 1, 0, none⟩), v 5, v 6, v 7, v 8, v 9, v 10, .pointer (some ⟨g11, 0, none⟩), .pointer (some ⟨g12, 0, none⟩), .int .i64 (pos : Int), .pointer (some ⟨g14, 0, none⟩), .string (bs x), v 16, v 17, v 18, v 19, v 20, v 21, v 22, v 23, v 24, v 25, v 26, v 27, v 28, v 29, v 30, v 31, v 32, v 33, v 34, v 35, v 36, v 37, v 38, v 39, v 40, v 41, v 42, v 43, v 44, v 45, v 46, v 47, v 48, v 49, v 50, .int .i64 (pos : Int), .string s, .int .i64 s.size, .bool true, .int .i64 (pos : Int), .pointer (some ⟨g11, 0, none⟩), .int .i64 k, .string s, .int .i64 (pos : Int), .string (s.extract pos s.size), fn36 b1 b2, .string (bs x), v 63, v 64, v 65, v 66, v 67, v 68, v 69, v 70, v 71, v 72, v 73, v 74, v 75, v 76, v 77, v 78, v 79, v 80, v 81, v 82, v 83, v 84, v 85, v 86, v 87, v 88, v 89, v 90, v 91, v 92, v 93, v 94, v 95, v 96, v 97, v 98, v 99, v 100, v 101, v 102, v 103, v 104, v 105, v 106, v 107, v 108, v 109, v 110, v 111], defers := [] }) ?assign ?body ?done ?stop
              case assign =>
                intro lo m x W K hK
                unfold encL
                gi_wp2
                exact hK
              case body =>
                intro lo m i hi R W hR hI
                obtain ⟨hc, h1⟩ := rg_open hI
                obtain ⟨-, ⟨n1, m1⟩⟩ := nm_name h1
                obtain ⟨c12, f12⟩ := get2 h1
                obtain ⟨c14, f14⟩ := get3 h1
                obtain ⟨⟨d0, e0⟩, ⟨d1, e1⟩, ⟨d3, e3⟩, ⟨d4, e4⟩⟩ := nm_res h1
                obtain ⟨ne2, ne3, ne4, ne11⟩ := nm_far h1
                have H1 := hide h1
                have HRk := hide hR
                obtain ⟨q1, q2⟩ := eat_len hi
                have RM := hide (fun h => read_many (o := pos) (ws := ws) hi hc h)
                have hsz : pos + eat k l (i + 1) ≤ s.size := by have := HLEN.out; omega
                have hi12 : i ≤ 12 := by omega
                have Q1 := hide (show pos + eat k l (i + 1) = pos + eat k l i + (bs (ltrs k l).1[i]).size by rw [bs_size]; omega)
                clear hI h1 hR S1 hE q1 q2
                generalize (ltrs k l).1[i] = x at *
                have hsz2 : pos + eat k l i + (bs x).size ≤ s.size := by rw [← Q1.out]; exact hsz
                clear hsz hi
                by_cases h12 : i = 12
                · have HRD := hide (RM.out (.inl h12))
                  have t1 : ((i : Int) == 12) = true := by simp [h12]
                  clear RM hc h12
                  generalize pos + eat k l i = p at *
                  have HX := hide (rg_ret (l := l) (ws := ws) (i := i) HRD.out (nm_err (star_ok cell_ok (star_ok cell_ok (star_ok marks_ok HRk.out))) 2 (p : Int) (H1.out.drew (star_ok nm_ok (star_ok cell_ok (star_ok cell_ok (star_ok marks_ok HRk.out)))))))
                  refine wpIn_block (wpIn_seq ?_)
                  gi_wp2
                  refine region_in_les [2, 3, 4] [0, 2, 1, 2, 3] (fun w' => w'.cell? ⟨g12, 0, none⟩ = some (.int .i64 (p : Int))) [fun w' => w'.cell? ⟨g12, 0, none⟩ = some (.int .i64 (p : Int)), fun w' => w'.cell? ⟨g12, 0, none⟩ = some (.int .i64 (p : Int))] ⟨fun _ h => h, fun _ h => h, trivial⟩ rfl (fun ⟨a, w, h⟩ => h) rfl (by kernel_rfl) (by kernel_rfl) (by kernel_rfl) c12 ?_
                  (repeat (first | (refine les_skip (by rfl) (by rfl) ?_; try simp only [Act.put, List.setIfInBounds_toArray, List.set_cons_zero, List.set_cons_succ]) | (refine les_read (v := ?_) (by rfl) (by rfl) ?_ ?_; rotate_left; (focus (intro w' hS'; (try simp only [stL] at hS'); go_simp; (try with_reducible rfl); done)); try simp only [Act.put, List.setIfInBounds_toArray, List.set_cons_zero, List.set_cons_succ])))
                  refine les_chain rfl (by rfl) (fun K hK => ?_)
                  go_wp2
                  refine hK.out _ _ (cell_far (cell_far c12 ne2) ne2) ?_
                  clear hK
                  (repeat (first | (refine les_skip (by rfl) (by rfl) ?_; try simp only [Act.put, List.setIfInBounds_toArray, List.set_cons_zero, List.set_cons_succ]) | (refine les_read (v := ?_) (by rfl) (by rfl) ?_ ?_; rotate_left; (focus (intro w' hS'; (try simp only [stL] at hS'); go_simp; (try with_reducible rfl); done)); try simp only [Act.put, List.setIfInBounds_toArray, List.set_cons_zero, List.set_cons_succ])))
                  refine les_chain rfl (by rfl) (fun K hK => ?_)
                  go_wp2
                  refine hK.out _ _ (cell_far (cell_far (cell_far c12 ne2) ne2) ne3) ?_
                  clear hK
                  (repeat (first | (refine les_skip (by rfl) (by rfl) ?_; try simp only [Act.put, List.setIfInBounds_toArray, List.set_cons_zero, List.set_cons_succ]) | (refine les_read (v := ?_) (by rfl) (by rfl) ?_ ?_; rotate_left; (focus (intro w' hS'; (try simp only [stL] at hS'); go_simp; (try with_reducible rfl); done)); try simp only [Act.put, List.setIfInBounds_toArray, List.set_cons_zero, List.set_cons_succ])))
                  refine les_chain rfl (by rfl) (fun K hK => ?_)
                  go_wp2
                  refine hK.out _ _ trivial (les_nil ?_)
                  clear hK
                  gi_wp2
                  exact HX.out
                · have t1 : ((i : Int) == 12) = false := by simp; omega
                  by_cases hw6 : ws.length = 6
                  · have HRD := hide (RM.out (.inr hw6))
                    have t2 : ((ws.length : Int) == 6) = true := by simp [hw6]
                    clear RM hc h12
                    generalize pos + eat k l i = p at *
                    have HX := hide (rg_ret (l := l) (ws := ws) (i := i) HRD.out (nm_err (star_ok cell_ok (star_ok cell_ok (star_ok marks_ok HRk.out))) 2 (p : Int) (H1.out.drew (star_ok nm_ok (star_ok cell_ok (star_ok cell_ok (star_ok marks_ok HRk.out)))))))
                    refine wpIn_block (wpIn_seq ?_)
                    gi_wp2
                    refine region_in_les [2, 3, 4] [0, 2, 1, 2, 3] (fun w' => w'.cell? ⟨g12, 0, none⟩ = some (.int .i64 (p : Int))) [fun w' => w'.cell? ⟨g12, 0, none⟩ = some (.int .i64 (p : Int)), fun w' => w'.cell? ⟨g12, 0, none⟩ = some (.int .i64 (p : Int))] ⟨fun _ h => h, fun _ h => h, trivial⟩ rfl (fun ⟨a, w, h⟩ => h) rfl (by kernel_rfl) (by kernel_rfl) (by kernel_rfl) c12 ?_
                    (repeat (first | (refine les_skip (by rfl) (by rfl) ?_; try simp only [Act.put, List.setIfInBounds_toArray, List.set_cons_zero, List.set_cons_succ]) | (refine les_read (v := ?_) (by rfl) (by rfl) ?_ ?_; rotate_left; (focus (intro w' hS'; (try simp only [stL] at hS'); go_simp; (try with_reducible rfl); done)); try simp only [Act.put, List.setIfInBounds_toArray, List.set_cons_zero, List.set_cons_succ])))
                    refine les_chain rfl (by rfl) (fun K hK => ?_)
                    go_wp2
                    refine hK.out _ _ (cell_far (cell_far c12 ne2) ne2) ?_
                    clear hK
                    (repeat (first | (refine les_skip (by rfl) (by rfl) ?_; try simp only [Act.put, List.setIfInBounds_toArray, List.set_cons_zero, List.set_cons_succ]) | (refine les_read (v := ?_) (by rfl) (by rfl) ?_ ?_; rotate_left; (focus (intro w' hS'; (try simp only [stL] at hS'); go_simp; (try with_reducible rfl); done)); try simp only [Act.put, List.setIfInBounds_toArray, List.set_cons_zero, List.set_cons_succ])))
                    refine les_chain rfl (by rfl) (fun K hK => ?_)
                    go_wp2
                    refine hK.out _ _ (cell_far (cell_far (cell_far c12 ne2) ne2) ne3) ?_
                    clear hK
                    (repeat (first | (refine les_skip (by rfl) (by rfl) ?_; try simp only [Act.put, List.setIfInBounds_toArray, List.set_cons_zero, List.set_cons_succ]) | (refine les_read (v := ?_) (by rfl) (by rfl) ?_ ?_; rotate_left; (focus (intro w' hS'; (try simp only [stL] at hS'); go_simp; (try with_reducible rfl); done)); try simp only [Act.put, List.setIfInBounds_toArray, List.set_cons_zero, List.set_cons_succ])))
                    refine les_chain rfl (by rfl) (fun K hK => ?_)
                    go_wp2
                    refine hK.out _ _ trivial (les_nil ?_)
                    clear hK
                    gi_wp2
                    exact HX.out
                  · have t2 : ((ws.length : Int) == 6) = false := by simp; omega
                    clear RM hc
                    generalize pos + eat k l i = p at *
                    have okR : (star (CellO g14 #[.int .i64 (i : Int)] 3) (star (marksO Ds) R)).Ok := star_ok cell_ok (star_ok marks_ok HRk.out)
                    have okR2 : (star (marksO Ds) R).Ok := star_ok marks_ok HRk.out
                    have hd := H1.out.drew (star_ok nm_ok (star_ok cell_ok okR))
                    clear c12 f12 c14 f14
                    obtain ⟨c12, f12⟩ := get2 hd
                    obtain ⟨c14, f14⟩ := get3 hd
                    have h2 := put2 nm_ok okR hd (.int .i64 ((p : Int) + ((bs x).size : Int)))
                    obtain ⟨g14a, g14b⟩ := get3 h2
                    have HG := hide (put3 nm_ok cell_ok okR2 h2 (.int .i64 ((i : Int) + 1)))
                    have w1 : IntKind.i64.wrap ((p : Int) + ((bs x).size : Int)) = (p : Int) + ((bs x).size : Int) := IntWalk.i64_in _ (by omega)
                    have w2 : IntKind.i64.wrap ((i : Int) + 1) = (i : Int) + 1 := IntWalk.i64_in _ (by omega)
                    clear h2 okR okR2 H1 hd
                    refine wpIn_block (wpIn_seq ?_)
                    have c12' : W.cell? ⟨g12, 0, none⟩ = some (.int .i64 (p : Int)) := c12
                    have c14' : W.cell? ⟨g14, 0, none⟩ = some (.int .i64 (i : Int)) := c14
                    gi_wp2
                    refine region_in_les [6, 7] [0, 0, 0, 0, 1, 1, 1, 2] (fun w' => w'.cell? ⟨g12, 0, none⟩ = some (.int .i64 (p : Int)) ∧ w'.cell? ⟨g14, 0, none⟩ = some (.int .i64 (i : Int))) [fun w' => w'.cell? ⟨g14, 0, none⟩ = some (.int .i64 (i : Int))] ⟨fun _ h => h.2, trivial⟩ rfl (fun ⟨a, w, h⟩ => h) rfl (by kernel_rfl) (by kernel_rfl) (by kernel_rfl) ⟨c12, c14⟩ ?_
                    clear c12' c14'
                    generalize W.drew = Wd at *
                    (repeat (first | (refine les_skip (by rfl) (by rfl) ?_; try simp only [Act.put, List.setIfInBounds_toArray, List.set_cons_zero, List.set_cons_succ]) | (refine les_read (v := ?_) (by rfl) (by rfl) ?_ ?_; rotate_left; (focus (intro w' hS'; (try simp only [stL] at hS'); go_simp; (try with_reducible rfl); done)); try simp only [Act.put, List.setIfInBounds_toArray, List.set_cons_zero, List.set_cons_succ])))
                    refine les_chain rfl (by rfl) (fun K hK => ?_)
                    go_wp2
                    refine hK.out _ _ g14a ?_
                    clear hK
                    generalize Wd.setCell ⟨g12, 0, none⟩ (.int .i64 ((p : Int) + ((bs x).size : Int))) = W5 at *
                    (repeat (first | (refine les_skip (by rfl) (by rfl) ?_; try simp only [Act.put, List.setIfInBounds_toArray, List.set_cons_zero, List.set_cons_succ]) | (refine les_read (v := ?_) (by rfl) (by rfl) ?_ ?_; rotate_left; (focus (intro w' hS'; (try simp only [stL] at hS'); go_simp; (try with_reducible rfl); done)); try simp only [Act.put, List.setIfInBounds_toArray, List.set_cons_zero, List.set_cons_succ])))
                    refine les_chain rfl (by rfl) (fun K hK => ?_)
                    go_wp2
                    refine hK.out _ _ trivial (les_nil ?_)
                    clear hK
                    have HG2 := HG.out
                    rw [show (p : Int) + ((bs x).size : Int) = ((p + (bs x).size : Nat) : Int) from rfl, show (i : Int) + 1 = ((i + 1 : Nat) : Int) from rfl] at HG2
                    exact rg_close (q := p + (bs x).size) (.inr ⟨by omega, hw6⟩) Q1.out.symm HG2
              case done =>
                intro D R W hR hI
                obtain ⟨hc, h1⟩ := rg_open hI
                obtain ⟨n, hn⟩ : ∃ n, n = (ltrs k l).1.length := ⟨_, rfl⟩
                have hdr : l.drop (eat k l n) = (bl s).drop (pos + eat k l n) := by rw [HL.out, List.drop_drop]
                have RE := hide (fun h => HP2.out.trans (congrArg (done k s.size) (read_end (o := pos) (ws := ws) hc (by rw [← hn, hdr]; exact h))))
                have RN := hide (fun r h => HP2.out.trans (congrArg (done k s.size) (read_next (o := pos) (ws := ws) (r := r) hc (by rw [← hn, hdr]; exact h))))
                have RO := hide (fun a r h ha => HP2.out.trans (congrArg (done k s.size) (read_other (o := pos) (ws := ws) (a := a) (r := r) hc (by rw [← hn, hdr]; exact h) ha)))
                have hq0 := (eat_ltrs (k := k) (l := l) n (by omega)).2
                rw [← hn] at RE RN RO h1 hc
                have hqs : pos + eat k l n ≤ s.size := by have := HLEN.out; omega
                have HT := hide (show bl (s.extract pos (pos + eat k l n)) = l.take (eat k l n) by rw [bl_extract, HL.out, List.take_drop])
                have hW6 : (close ws (l.take (eat k l n)) n).length ≤ 6 := by
                  unfold close
                  split
                  · exact hws
                  · rw [List.length_append]; simp; omega
                have HW6 := hide hW6
                have hn12 : n ≤ 12 := by omega
                have hc2 : n ≠ 0 → ws.length ≤ 5 := by omega
                have hposq : pos ≤ pos + eat k l n := by omega
                clear hI hdr hq0 hn HLEN HP2 HL HL2 S1 hE hc hW6
                generalize hqq : pos + eat k l n = q at *
                generalize l.take (eat k l n) = tk at *
                have h2 := (h1.perm (by rw [marks_cons]; ac_rfl : _ = star (NmO b g2 (g2 + 1) (g2 + 1 + 1) g11 k A c ws) (star (CellO g12 #[.int .i64 (q : Int)] 3) (star (CellO g14 #[.int .i64 (n : Int)] 3) (star (marksO (D :: Ds)) R)))))
                have okR1 : (star (CellO g14 #[.int .i64 (n : Int)] 3) (star (marksO (D :: Ds)) R)).Ok := star_ok cell_ok (star_ok marks_ok hR)
                have OKR := hide okR1
                have okR : (star (marksO (D :: Ds)) R).Ok := star_ok marks_ok hR
                have OKR2 := hide okR
                obtain ⟨-, ⟨n1, m1⟩⟩ := nm_name h2
                obtain ⟨c12, f12⟩ := get2 h2
                obtain ⟨c14, f14⟩ := get3 h2
                have H2 := hide h2
                clear h1 h2 okR1 okR hqq
                by_cases hn0 : n = 0
                · have t0 : ¬ (0 : Int) < (n : Int) := by omega
                  have hcl : close ws tk n = ws := by unfold close; rw [if_pos hn0]
                  rw [hcl] at RE RN HW6
                  clear hcl hn0 hc2 hn12 HT
                  obtain ⟨X, hX⟩ : ∃ X : CH.Own, X = star (CellO g14 #[.int .i64 (n : Int)] 3) R := ⟨_, rfl⟩
                  have OKX := hide (show X.Ok by rw [hX]; exact star_ok cell_ok hR)
                  have OKT := hide (show (star (marksO (D :: Ds)) X).Ok from star_ok marks_ok OKX.out)
                  have HT2 := hide (H2.out.perm (by rw [hX]; ac_rfl : _ = star (NmO b g2 (g2 + 1) (g2 + 1 + 1) g11 k A c ws) (star (CellO g12 #[.int .i64 (q : Int)] 3) (star (marksO (D :: Ds)) X))))
                  clear hX H2 n1 m1 c12 f12 OKR OKR2
                  generalize ws = ws' at *
                  generalize A = A' at *
                  generalize c = c' at *
                  obtain ⟨⟨d0, e0⟩, ⟨d1, e1⟩, ⟨d3, e3⟩, ⟨d4, e4⟩⟩ := nm_res HT2.out
                  obtain ⟨⟨n0, m0⟩, ⟨n1, m1⟩⟩ := nm_name HT2.out
                  obtain ⟨c12, f12⟩ := get2 HT2.out
                  obtain ⟨ne2, ne3, ne4, ne11⟩ := nm_far HT2.out
                  by_cases hqe : q = s.size
                  · have hqi : (q : Int) = (s.size : Int) := by rw [hqe]
                    have tqe : ((q : Int) == (s.size : Int)) = true := by rw [hqi]; simp
                    have hE := RE.out (by rw [hqe, ← bl_len, List.drop_length])
                    by_cases hw0 : ws' = []
                    · have HE := hide (show parseN (bl s) = (⟨0, []⟩, 6, (s.size : Int)) by rw [hE, hw0]; rfl)
                      have tw0 : ((ws'.length : Int) == 0) = true := by rw [hw0]; rfl
                      have X0 := hide (nm_err (star_ok cell_ok OKT.out) 6 (s.size : Int) HT2.out)
                      clear RE RN RO HW6 hE hw0 HPOS
                      go_wp2_with fail
                      exact leave_err (Ds := D :: Ds) (star_ok cell_ok OKX.out) HE.out (X0.out.perm (by ac_rfl)) rfl rfl rfl
                    · have HE := hide (show parseN (bl s) = (⟨k, ws'⟩, 0, 0) by
                        rw [hE]
                        cases ws' with
                        | nil => exact absurd rfl hw0
                        | cons a l => rfl)
                      have tw0 : ((ws'.length : Int) == 0) = false := by
                        cases ws' with
                        | nil => exact absurd rfl hw0
                        | cons a l => simp; omega
                      have X0 := hide (nm_fin (star_ok cell_ok OKT.out) HT2.out)
                      clear RE RN RO HW6 hE hw0 HPOS
                      go_wp2_with fail
                      exact leave_ok (Ds := D :: Ds) (star_ok cell_ok OKX.out) HE.out (X0.out.perm (by ac_rfl)) rfl rfl rfl
                  · have hqi : (q : Int) < (s.size : Int) := by omega
                    have hql : q < s.size := by omega
                    have tqe : ((q : Int) == (s.size : Int)) = false := by simp; omega
                    obtain ⟨x, hx⟩ : ∃ x : UInt8, s[q] = x := ⟨_, rfl⟩
                    have hdx : (bl s).drop q = x :: (bl s).drop (q + 1) := by
                      rw [List.drop_eq_getElem_cons (by rw [bl_len]; exact hql)]
                      congr 1
                    have hx256 := x.toNat_lt
                    by_cases hx32 : x = 32
                    · have tx : ((x.toNat : Int) == 32) = true := by rw [hx32]; rfl
                      have tx2 : ((x.toNat : Int) != 32) = false := by rw [hx32]; rfl
                      have HN := hide (RN.out _ (by rw [hdx, hx32]))
                      clear RE RN RO hdx hqe hx32 d0 e0 d1 e1 d3 e3 d4 e4 n0 m0 n1 m1
                      have H3 := hide (put2 nm_ok OKT.out HT2.out (.int .i64 ((q : Int) + 1)))
                      clear HT2
                      go_wp2_with fail
                      have h3 : Run (fun _ => False) w (LpO b g2 (g2 + 1) (g2 + 1 + 1) g11 g12 k (D :: Ds) (q + 1) A' c' ws') _ := (H3.out.perm (by unfold LpO; rw [show (q : Int) + 1 = ((q + 1 : Nat) : Int) from rfl]; ac_rfl : _ = star X (LpO b g2 (g2 + 1) (g2 + 1 + 1) g11 g12 k (D :: Ds) (q + 1) A' c' ws'))).drop
                      exact ⟨lp_mk (D :: Ds) rfl rfl rfl rfl rfl rfl rfl rfl h3 hql HW6.out HN.out, by rw [lp_pos h3, HPOS.out]; omega⟩
                    · have tx : ((x.toNat : Int) == 32) = false := by
                        simp only [beq_eq_false_iff_ne, ne_eq]
                        intro e
                        exact hx32 (UInt8.toNat_inj.1 (by have : (32 : UInt8).toNat = 32 := rfl; omega))
                      have tx2 : ((x.toNat : Int) != 32) = true := by unfold bne; rw [tx]; rfl
                      have HE := hide (show parseN (bl s) = (⟨0, []⟩, 3, (q : Int)) by rw [RO.out _ _ hdx hx32]; rfl)
                      have HX := hide (nm_err (star_ok cell_ok OKT.out) 3 (q : Int) (HT2.out.drew (star_ok nm_ok (star_ok cell_ok OKT.out))))
                      clear RE RN RO HW6 hdx hqe hx32 HPOS
                      go_wp2_with fail
                      refine wp_region_les [2, 3, 4] [0, 2, 1, 2, 3] (fun w' => w'.cell? ⟨g12, 0, none⟩ = some (.int .i64 (q : Int))) [fun w' => w'.cell? ⟨g12, 0, none⟩ = some (.int .i64 (q : Int)), fun w' => w'.cell? ⟨g12, 0, none⟩ = some (.int .i64 (q : Int))] ⟨fun _ h => h, fun _ h => h, trivial⟩ rfl (by kernel_rfl) (by kernel_rfl) (by kernel_rfl) c12 ?_
                      (repeat (first | (refine les_skip (by rfl) (by rfl) ?_; try simp only [Act.put, List.setIfInBounds_toArray, List.set_cons_zero, List.set_cons_succ]) | (refine les_read (v := ?_) (by rfl) (by rfl) ?_ ?_; rotate_left; (focus (intro w' hS'; (try simp only [stL] at hS'); go_simp; (try with_reducible rfl); done)); try simp only [Act.put, List.setIfInBounds_toArray, List.set_cons_zero, List.set_cons_succ])))
                      refine les_chain rfl (by rfl) (fun K hK => ?_)
                      go_wp2
                      refine hK.out _ _ (cell_far (cell_far c12 ne2) ne2) ?_
                      clear hK
                      (repeat (first | (refine les_skip (by rfl) (by rfl) ?_; try simp only [Act.put, List.setIfInBounds_toArray, List.set_cons_zero, List.set_cons_succ]) | (refine les_read (v := ?_) (by rfl) (by rfl) ?_ ?_; rotate_left; (focus (intro w' hS'; (try simp only [stL] at hS'); go_simp; (try with_reducible rfl); done)); try simp only [Act.put, List.setIfInBounds_toArray, List.set_cons_zero, List.set_cons_succ])))
                      refine les_chain rfl (by rfl) (fun K hK => ?_)
                      go_wp2
                      refine hK.out _ _ (cell_far (cell_far (cell_far c12 ne2) ne2) ne3) ?_
                      clear hK
                      (repeat (first | (refine les_skip (by rfl) (by rfl) ?_; try simp only [Act.put, List.setIfInBounds_toArray, List.set_cons_zero, List.set_cons_succ]) | (refine les_read (v := ?_) (by rfl) (by rfl) ?_ ?_; rotate_left; (focus (intro w' hS'; (try simp only [stL] at hS'); go_simp; (try with_reducible rfl); done)); try simp only [Act.put, List.setIfInBounds_toArray, List.set_cons_zero, List.set_cons_succ])))
                      refine les_chain rfl (by rfl) (fun K hK => ?_)
                      go_wp2
                      refine hK.out _ _ trivial (les_nil ?_)
                      clear hK
                      go_wp2_with fail
                      exact leave_err (Ds := D :: Ds) (star_ok cell_ok OKX.out) HE.out (HX.out.perm (by ac_rfl)) rfl rfl rfl
                · have t0 : (0 : Int) < (n : Int) := by omega
                  have hcl : close ws tk n = ws ++ [tk] := by unfold close; rw [if_neg hn0]
                  rw [hcl] at RE RN HW6
                  have hw5 := hc2 hn0
                  clear hcl hn0 hc2
                  have okA : (star (CellO g12 #[.int .i64 (q : Int)] 3) (star (CellO g14 #[.int .i64 (n : Int)] 3) (star (marksO (D :: Ds)) R))).Ok := star_ok cell_ok OKR.out
                  have hd := H2.out.drew (star_ok nm_ok okA)
                  have n1' : W.cell? ⟨g11, 1, none⟩ = some (.slice A ws.length c) := n1
                  have c12' : W.cell? ⟨g12, 0, none⟩ = some (.int .i64 (q : Int)) := c12
                  have i1 : (pos : Int) ≤ (q : Int) := by omega
                  have i2 : (q : Int) ≤ (s.size : Int) := by omega
                  obtain ⟨Y, hY⟩ : ∃ Y : CH.Own, Y = star (MapO Value.string b scl) (star (ResO g2 (g2 + 1) (g2 + 1 + 1)) (star (CellO g12 #[.int .i64 (q : Int)] 3) (star (CellO g14 #[.int .i64 (n : Int)] 3) (star (marksO (D :: Ds)) R)))) := ⟨_, rfl⟩
                  have OKY := hide (show Y.Ok by rw [hY]; exact star_ok map_ok (star_ok res_ok okA))
                  have HYE := hide hY
                  have OKY2 := hide (show (star (CellO g11 #[.int .i64 k, .slice A ws.length c] 24) Y).Ok from star_ok cell_ok OKY.out)
                  have HA := hide (hd.perm (by rw [hY]; unfold NmO; ac_rfl : _ = star (StrO A c ws) (star (CellO g11 #[.int .i64 k, .slice A ws.length c] 24) Y)))
                  clear hd hY H2 okA
                  go_wp2_with fail
                  refine wp_region_les [6, 7, 9] [1, 1, 0, 0, 0, 0, 1, 2, 2, 3] (fun w' => w'.cell? ⟨g12, 0, none⟩ = some (.int .i64 (q : Int)) ∧ w'.cell? ⟨g11, 1, none⟩ = some (.slice A ws.length c)) [fun w' => w'.cell? ⟨g11, 1, none⟩ = some (.slice A ws.length c)] ⟨fun _ h => h.2, trivial⟩ rfl (by kernel_rfl) (by kernel_rfl) (by kernel_rfl) ⟨c12', n1'⟩ ?_
                  clear c12 n1 c14 f12 m1 f14 c12' n1'
                  generalize W.drew = Wd at *
                  (repeat (first | (refine les_skip (by rfl) (by rfl) ?_; try simp only [Act.put, List.setIfInBounds_toArray, List.set_cons_zero, List.set_cons_succ]) | (refine les_read (v := ?_) (by rfl) (by rfl) ?_ ?_; rotate_left; (focus (intro w' hS'; (try simp only [stL] at hS'); go_simp; (try with_reducible rfl); done)); try simp only [Act.put, List.setIfInBounds_toArray, List.set_cons_zero, List.set_cons_succ])))
                  refine les_chain rfl (by rfl) (fun K hK => ?_)
                  go_wp2
                  refine hK.out _ _ ?_ ?_
                  · have h9 := HA.out.below (star_ok str_ok OKY2.out) ((Below.refl _ _).alloc (Nat.le_refl _) (.cells #[.string (s.extract pos q)] 9))
                    exact (get1 h9.rot rfl).1
                  clear hK
                  (repeat (first | (refine les_skip (by rfl) (by rfl) ?_; try simp only [Act.put, List.setIfInBounds_toArray, List.set_cons_zero, List.set_cons_succ]) | (refine les_read (v := ?_) (by rfl) (by rfl) ?_ ?_; rotate_left; (focus (intro w' hS'; (try simp only [stL] at hS'); go_simp; (try with_reducible rfl); done)); try simp only [Act.put, List.setIfInBounds_toArray, List.set_cons_zero, List.set_cons_succ])))
                  refine les_chain rfl (by rfl) (fun K hK => ?_)
                  refine app_str1 (.tmp 82) (.tmp 87) rfl rfl rfl rfl (by omega) OKY2.out HA.out ?_
                  intro A' c' w2 hw2
                  rw [HT.out] at hw2
                  obtain ⟨n1, m1⟩ := get1 hw2.rot (i := 1) rfl
                  have HW2 := hide (by
                    obtain ⟨F, hF, -, bk⟩ := hw2.rot.take cell_ok (star_ok str_ok OKY.out)
                    exact bk _ _ (cell_set hF 1 (.slice A' (ws.length + 1) c')))
                  refine hK.out _ _ trivial ?_
                  clear hK HA hw2 HT
                  (repeat (first | (refine les_skip (by rfl) (by rfl) ?_; try simp only [Act.put, List.setIfInBounds_toArray, List.set_cons_zero, List.set_cons_succ]) | (refine les_read (v := ?_) (by rfl) (by rfl) ?_ ?_; rotate_left; (focus (intro w' hS'; (try simp only [stL] at hS'); go_simp; (try with_reducible rfl); done)); try simp only [Act.put, List.setIfInBounds_toArray, List.set_cons_zero, List.set_cons_succ])))
                  refine les_chain rfl (by rfl) (fun K hK => ?_)
                  go_wp2
                  refine hK.out _ _ trivial (les_nil ?_)
                  clear hK
                  have h3 : Run (fun _ => False) w (star (CellO g11 #[.int .i64 k, .slice A' (ws ++ [tk]).length c'] 24) (star (StrO A' c' (ws ++ [tk])) Y)) (w2.setCell ⟨g11, 1, none⟩ (.slice A' (ws.length + 1) c')) := by
                    rw [List.length_append, List.length_singleton]
                    exact HW2.out
                  obtain ⟨X, hX⟩ : ∃ X : CH.Own, X = star (CellO g14 #[.int .i64 (n : Int)] 3) R := ⟨_, rfl⟩
                  have OKX := hide (show X.Ok by rw [hX]; exact star_ok cell_ok hR)
                  have OKT := hide (show (star (marksO (D :: Ds)) X).Ok from star_ok marks_ok OKX.out)
                  have HT2 := hide (h3.perm (by rw [hX, HYE.out]; unfold NmO; ac_rfl : _ = star (NmO b g2 (g2 + 1) (g2 + 1 + 1) g11 k A' c' (ws ++ [tk])) (star (CellO g12 #[.int .i64 (q : Int)] 3) (star (marksO (D :: Ds)) X))))
                  clear hX h3 n1 m1 HW2 OKR OKR2 HYE OKY OKY2
                  generalize w2.setCell ⟨g11, 1, none⟩ (.slice A' (ws.length + 1) c') = W6 at *
                  generalize hwl : ws ++ [tk] = ws' at *
                  clear hwl
                  obtain ⟨⟨d0, e0⟩, ⟨d1, e1⟩, ⟨d3, e3⟩, ⟨d4, e4⟩⟩ := nm_res HT2.out
                  obtain ⟨⟨n0, m0⟩, ⟨n1, m1⟩⟩ := nm_name HT2.out
                  obtain ⟨c12, f12⟩ := get2 HT2.out
                  obtain ⟨ne2, ne3, ne4, ne11⟩ := nm_far HT2.out
                  by_cases hqe : q = s.size
                  · have hqi : (q : Int) = (s.size : Int) := by rw [hqe]
                    have tqe : ((q : Int) == (s.size : Int)) = true := by rw [hqi]; simp
                    have hE := RE.out (by rw [hqe, ← bl_len, List.drop_length])
                    by_cases hw0 : ws' = []
                    · have HE := hide (show parseN (bl s) = (⟨0, []⟩, 6, (s.size : Int)) by rw [hE, hw0]; rfl)
                      have tw0 : ((ws'.length : Int) == 0) = true := by rw [hw0]; rfl
                      have X0 := hide (nm_err (star_ok cell_ok OKT.out) 6 (s.size : Int) HT2.out)
                      clear RE RN RO HW6 hE hw0 HPOS
                      go_wp2_with fail
                      exact leave_err (Ds := D :: Ds) (star_ok cell_ok OKX.out) HE.out (X0.out.perm (by ac_rfl)) rfl rfl rfl
                    · have HE := hide (show parseN (bl s) = (⟨k, ws'⟩, 0, 0) by
                        rw [hE]
                        cases ws' with
                        | nil => exact absurd rfl hw0
                        | cons a l => rfl)
                      have tw0 : ((ws'.length : Int) == 0) = false := by
                        cases ws' with
                        | nil => exact absurd rfl hw0
                        | cons a l => simp; omega
                      have X0 := hide (nm_fin (star_ok cell_ok OKT.out) HT2.out)
                      clear RE RN RO HW6 hE hw0 HPOS
                      go_wp2_with fail
                      exact leave_ok (Ds := D :: Ds) (star_ok cell_ok OKX.out) HE.out (X0.out.perm (by ac_rfl)) rfl rfl rfl
                  · have hqi : (q : Int) < (s.size : Int) := by omega
                    have hql : q < s.size := by omega
                    have tqe : ((q : Int) == (s.size : Int)) = false := by simp; omega
                    obtain ⟨x, hx⟩ : ∃ x : UInt8, s[q] = x := ⟨_, rfl⟩
                    have hdx : (bl s).drop q = x :: (bl s).drop (q + 1) := by
                      rw [List.drop_eq_getElem_cons (by rw [bl_len]; exact hql)]
                      congr 1
                    have hx256 := x.toNat_lt
                    by_cases hx32 : x = 32
                    · have tx : ((x.toNat : Int) == 32) = true := by rw [hx32]; rfl
                      have tx2 : ((x.toNat : Int) != 32) = false := by rw [hx32]; rfl
                      have HN := hide (RN.out _ (by rw [hdx, hx32]))
                      clear RE RN RO hdx hqe hx32 d0 e0 d1 e1 d3 e3 d4 e4 n0 m0 n1 m1
                      have H3 := hide (put2 nm_ok OKT.out HT2.out (.int .i64 ((q : Int) + 1)))
                      clear HT2
                      go_wp2_with fail
                      have h3 : Run (fun _ => False) w (LpO b g2 (g2 + 1) (g2 + 1 + 1) g11 g12 k (D :: Ds) (q + 1) A' c' ws') _ := (H3.out.perm (by unfold LpO; rw [show (q : Int) + 1 = ((q + 1 : Nat) : Int) from rfl]; ac_rfl : _ = star X (LpO b g2 (g2 + 1) (g2 + 1 + 1) g11 g12 k (D :: Ds) (q + 1) A' c' ws'))).drop
                      exact ⟨lp_mk (D :: Ds) rfl rfl rfl rfl rfl rfl rfl rfl h3 hql HW6.out HN.out, by rw [lp_pos h3, HPOS.out]; omega⟩
                    · have tx : ((x.toNat : Int) == 32) = false := by
                        simp only [beq_eq_false_iff_ne, ne_eq]
                        intro e
                        exact hx32 (UInt8.toNat_inj.1 (by have : (32 : UInt8).toNat = 32 := rfl; omega))
                      have tx2 : ((x.toNat : Int) != 32) = true := by unfold bne; rw [tx]; rfl
                      have HE := hide (show parseN (bl s) = (⟨0, []⟩, 3, (q : Int)) by rw [RO.out _ _ hdx hx32]; rfl)
                      have HX := hide (nm_err (star_ok cell_ok OKT.out) 3 (q : Int) (HT2.out.drew (star_ok nm_ok (star_ok cell_ok OKT.out))))
                      clear RE RN RO HW6 hdx hqe hx32 HPOS
                      go_wp2_with fail
                      refine wp_region_les [2, 3, 4] [0, 2, 1, 2, 3] (fun w' => w'.cell? ⟨g12, 0, none⟩ = some (.int .i64 (q : Int))) [fun w' => w'.cell? ⟨g12, 0, none⟩ = some (.int .i64 (q : Int)), fun w' => w'.cell? ⟨g12, 0, none⟩ = some (.int .i64 (q : Int))] ⟨fun _ h => h, fun _ h => h, trivial⟩ rfl (by kernel_rfl) (by kernel_rfl) (by kernel_rfl) c12 ?_
                      (repeat (first | (refine les_skip (by rfl) (by rfl) ?_; try simp only [Act.put, List.setIfInBounds_toArray, List.set_cons_zero, List.set_cons_succ]) | (refine les_read (v := ?_) (by rfl) (by rfl) ?_ ?_; rotate_left; (focus (intro w' hS'; (try simp only [stL] at hS'); go_simp; (try with_reducible rfl); done)); try simp only [Act.put, List.setIfInBounds_toArray, List.set_cons_zero, List.set_cons_succ])))
                      refine les_chain rfl (by rfl) (fun K hK => ?_)
                      go_wp2
                      refine hK.out _ _ (cell_far (cell_far c12 ne2) ne2) ?_
                      clear hK
                      (repeat (first | (refine les_skip (by rfl) (by rfl) ?_; try simp only [Act.put, List.setIfInBounds_toArray, List.set_cons_zero, List.set_cons_succ]) | (refine les_read (v := ?_) (by rfl) (by rfl) ?_ ?_; rotate_left; (focus (intro w' hS'; (try simp only [stL] at hS'); go_simp; (try with_reducible rfl); done)); try simp only [Act.put, List.setIfInBounds_toArray, List.set_cons_zero, List.set_cons_succ])))
                      refine les_chain rfl (by rfl) (fun K hK => ?_)
                      go_wp2
                      refine hK.out _ _ (cell_far (cell_far (cell_far c12 ne2) ne2) ne3) ?_
                      clear hK
                      (repeat (first | (refine les_skip (by rfl) (by rfl) ?_; try simp only [Act.put, List.setIfInBounds_toArray, List.set_cons_zero, List.set_cons_succ]) | (refine les_read (v := ?_) (by rfl) (by rfl) ?_ ?_; rotate_left; (focus (intro w' hS'; (try simp only [stL] at hS'); go_simp; (try with_reducible rfl); done)); try simp only [Act.put, List.setIfInBounds_toArray, List.set_cons_zero, List.set_cons_succ])))
                      refine les_chain rfl (by rfl) (fun K hK => ?_)
                      go_wp2
                      refine hK.out _ _ trivial (les_nil ?_)
                      clear hK
                      go_wp2_with fail
                      exact leave_err (Ds := D :: Ds) (star_ok cell_ok OKX.out) HE.out (HX.out.perm (by ac_rfl)) rfl rfl rfl
              case stop =>
                intro D c0 R W hR hI
                have hI2 : ∃ p : Nat × Nat, read k ws [] 0 pos l = .err 2 (p.1 : Int) ∧ c0 = .ret ∧ Run (fun _ => False) w (star (CellO g2 #[.int .i64 0, .slice none 0 0] 24) (star (CellO (g2 + 1) #[.int .i64 2] 28) (star (CellO (g2 + 1 + 1) #[.int .i64 (p.1 : Int)] 3) (star (marksO (D :: Ds)) (star (CellO g12 #[.int .i64 (p.1 : Int)] 3) (star (CellO g14 #[.int .i64 (p.2 : Int)] 3) R)))))) W := by
                  unfold RgX at hI
                  split at hI
                  · obtain ⟨p, hp⟩ := hI.ex
                    exact ⟨p, hp.pure.1, rfl, hp.pure.2.perm (by rw [marks_cons]; ac_rfl)⟩
                  · exact hI.no.elim
                obtain ⟨⟨p, i⟩, hr, rfl, h1⟩ := hI2
                have HE := hide (show parseN (bl s) = (⟨0, []⟩, 2, (p : Int)) by rw [HP2.out, hr]; rfl)
                have H1 := hide h1
                clear hI h1 hr S1 hE
                go_wp2_with fail
                exact leave_err (Ds := D :: Ds) (star_ok cell_ok (star_ok cell_ok hR)) HE.out H1.out rfl rfl rfl
            · obtain rfl : pos = s.size := by omega
              have hP := HP.out
              rw [show (bl s).drop s.size = [] by rw [← bl_len, List.drop_length], read_nil] at hP
              obtain ⟨⟨n0, m0⟩, ⟨n1, m1⟩⟩ := nm_name HR.out
              obtain ⟨⟨d0, e0⟩, ⟨d1, e1⟩, ⟨d3, e3⟩, ⟨d4, e4⟩⟩ := nm_res HR.out
              by_cases hw0 : ws = []
              · subst hw0
                have HE := hide (show parseN (bl s) = (⟨0, []⟩, 6, (s.size : Int)) by rw [hP]; rfl)
                clear HP hP
                have X0 := hide (nm_err (star_ok marks_ok cell_ok) 6 (s.size : Int) HR.out)
                go_wp2_with fail
                exact leave_err cell_ok HE.out X0.out rfl rfl rfl
              · have HE := hide (show parseN (bl s) = (⟨k, ws⟩, 0, 0) by
                  rw [hP]
                  cases ws with
                  | nil => exact absurd rfl hw0
                  | cons a l => rfl)
                have tw0 : ((ws.length : Int) == 0) = false := by
                  cases ws with
                  | nil => exact absurd rfl hw0
                  | cons a l => simp; omega
                clear HP hP hw0
                have X0 := hide (nm_fin (star_ok marks_ok cell_ok) HR.out)
                go_wp2_with fail
                exact leave_ok cell_ok HE.out X0.out rfl rfl rfl
        · rw [show Lib.cut s.data.toList (⟨#[58]⟩ : ByteArray).data.toList = (bl s, [], false) from h3] at KC0
          dsimp only at KC0
          obtain ⟨t0, ht0⟩ : ∃ t0 : ByteArray, t0 = ⟨(bl s).toArray⟩ := ⟨_, rfl⟩
          rw [← ht0] at KC0
          have KC := hide KC0
          obtain ⟨k0, hk0⟩ : ∃ k0, k0 = kOf (bl s) := ⟨_, rfl⟩
          have hlk : ∀ n, (Instr.lookup 56 (.map (some b)) (.string t0) false).run Tryd.prog (wr.drewN n) = .ok (.int .i64 k0) (wr.drewN n) := fun n => by
            obtain ⟨F6, hM6⟩ := (S5.out.drewN (star_ok map_ok res_ok) n).fst
            rw [mapO_get keyStr Tryd.underlying56 zeroI hM6 t0, scl_get, ht0, hk0]
          have HRR := hide (show parseN (bl s) = (⟨0, []⟩, 5, 0) by unfold parseN; rw [if_neg (by rw [bl_len]; omega), pre_no h2, if_pos rfl]; rfl)
          clear KC0 h2 h3 hM5 hm hz ht0 hk0
          go_wp2_with fail
          refine KC.out.mono ?_
          rintro e9 w9 ⟨rfl, n, rfl⟩
          have h5 := S5.out.drewN (star_ok map_ok res_ok) n
          have h6 := h5.fresh (star_ok map_ok res_ok) (cell_new (wr.drewN n) #[.int .i64 k0, .slice none 0 0] 24)
          have S6 := hide h6
          have hlk2 := hlk n
          clear h5 h6 KC hlk
          generalize wr.drewN n = wd at *
          have h7 := S6.out.perm (by unfold ResO; ac_rfl : _ = star (CellO g2 #[.int .i64 0, .slice none 0 0] 24) (star (CellO (g2 + 2) #[.int .i64 0] 3) (star (CellO (g2 + 1) #[.int .i64 0] 28) (star (CellO wd.heap.size #[.int .i64 k0, .slice none 0 0] 24) (MapO Value.string b scl)))))
          obtain ⟨F9, k9⟩ := h7.fst
          have d0 := cell_at (i := 0) k9 rfl
          have d1 := cell_at (i := 1) k9 rfl
          have f0 := cell_free k9 0
          have f1 := cell_free k9 1
          obtain ⟨d3, f3⟩ := get3 h7
          obtain ⟨d4, f4⟩ := get2 h7
          have H7 := hide h7
          clear h7 k9 S6
          dsimp only
          go_wp2_with fail
          exact parse_fin (g2 := g2) (g3 := g2 + 1) (g4 := g2 + 1 + 1) (A := none) (c := 0) HRR.out (res_store (star_ok cell_ok map_ok) (.int .i64 0) (.slice none 0 0) (.int .i64 5) (.int .i64 0) H7.out) (vst_nil _) (Nat.le_refl _) rfl rfl rfl
end Go.Proofs.YtcgmikpmbomliaaDoor
namespace Go.Proofs.YtcgmikpmbomliaaDoor
open Go.RowKit Go.CH Go.CH.Scr
open Go.ChangeMaps (setBlock)
/-- All texts have at most m bytes. -/
def fewB (m : Nat) (l : List Bs) : Bool := l.all fun x => decide (x.length ≤ m)
theorem few_step {m k : Nat} {l : List Bs} (hk : k < l.length) (h : fewB m (l.take k) = true) (hx : l[k].length ≤ m) : fewB m (l.take (k + 1)) = true := by
  unfold fewB at *
  rw [List.take_succ_eq_append_getElem hk, List.all_append, h]
  simp [hx]
theorem few_no {m k : Nat} {l : List Bs} (hk : k < l.length) (hx : ¬ l[k].length ≤ m) : fewB m l = false := by
  unfold fewB
  rw [List.all_eq_false]
  exact ⟨l[k], List.getElem_mem hk, by simpa using hx⟩
set_option maxHeartbeats 1600000 in
theorem short_any {w : World} {A : Option Addr} {c : Nat} {l : List Bs} (hA : Vst w A l) (hl : l.length ≤ 1000000) :
    Calls Tryd.prog 13 #[.slice A l.length c] w (BelowRet w (.bool (fewB 200 l))) := by
  have HA := hide hA
  obtain ⟨n, hn⟩ : ∃ n, n = l.length := ⟨_, rfl⟩
  rw [← hn] at hl ⊢
  have HN := hide hn
  clear hA hn
  go_enter Tryd.func13, Tryd.ntmps13
  go_wp2
  go_loopw [3] (fun i wr => ∃ k : Nat, k ≤ n ∧ i = .int .i64 k ∧ fewB 200 (l.take k) = true ∧ Below w.heap.size w wr) (fun i _ => n - (intOf i).toNat)
  case atStart => exact ⟨0, Nat.zero_le _, rfl, rfl, Below.refl _ _⟩
  case round =>
    obtain ⟨k, hk, rfl, ht, hb⟩ := hrel
    have HT := hide ht
    have HB := hide hb
    clear ht hb
    by_cases hlt : k < n
    · have hkn : k < l.length := by rw [← HN.out]; exact hlt
      obtain ⟨b, o, rfl, hc⟩ := HA.out.at (by omega)
      have ck := hc _ HB.out k hkn
      have HST := hide (few_step (m := 200) hkn HT.out)
      have HNO := hide (few_no (m := 200) hkn)
      have hsz : (bs l[k]).size = l[k].length := bs_size _
      generalize l[k] = x at *
      obtain ⟨y, hy⟩ : ∃ y, y = bs x := ⟨_, rfl⟩
      rw [← hy] at ck hsz
      clear hy hc hkn
      rw [← hsz] at HST HNO
      clear hsz
      by_cases h2 : (200 : Int) < (y.size : Int)
      · have HF := hide (HNO.out (by omega))
        go_wp2
        go_ret
        exact bel_bool HF.out HB.out
      · have HS := hide (HST.out (by omega))
        go_wp2
        go_roundw
        case rel => exact ⟨k + 1, by omega, by go_num, HS.out, HB.out⟩
        case measure => simp [intOf]; omega
    · obtain rfl : k = n := by omega
      have HF := hide (show fewB 200 l = true by have := HT.out; rw [HN.out, List.take_length] at this; exact this)
      clear HT
      go_wp2
      go_ret
      exact bel_bool HF.out HB.out
theorem tex_step {a b : List Bs} {k : Nat} (h : a.take k = b.take k) (ha : k < a.length) (hb : k < b.length) (he : a[k] = b[k]) : a.take (k + 1) = b.take (k + 1) := by
  rw [List.take_succ_eq_append_getElem ha, List.take_succ_eq_append_getElem hb, h, he]
set_option maxHeartbeats 1600000 in
theorem texts_any {w : World} {A B : Option Addr} {c d : Nat} {a b : List Bs} (hA : Vst w A a) (hB : Vst w B b) (hl : a.length ≤ 1000000) (hm : b.length ≤ 1000000) :
    Calls Tryd.prog 24 #[.slice A a.length c, .slice B b.length d] w (BelowRet w (.bool (decide (a = b)))) := by
  have HA := hide hA
  have HB := hide hB
  obtain ⟨n, hn⟩ : ∃ n, n = a.length := ⟨_, rfl⟩
  obtain ⟨m, hm'⟩ : ∃ m, m = b.length := ⟨_, rfl⟩
  rw [← hn] at hl
  rw [← hm'] at hm
  have HN := hide hn
  have HM := hide hm'
  rw [← hn, ← hm']
  clear hA hB hn hm'
  by_cases hnm : n = m
  · subst hnm
    go_enter Tryd.func24, Tryd.ntmps24
    go_wp2
    go_loopw [5] (fun i wr => ∃ k : Nat, k ≤ n ∧ i = .int .i64 k ∧ a.take k = b.take k ∧ Below w.heap.size w wr) (fun i _ => n - (intOf i).toNat)
    case atStart => exact ⟨0, Nat.zero_le _, rfl, rfl, Below.refl _ _⟩
    case round =>
      obtain ⟨k, hk, rfl, ht, hb⟩ := hrel
      have HT := hide ht
      have HBD := hide (below_drew hb)
      have HBL := hide hb
      clear ht hb
      by_cases hlt : k < n
      · have hka : k < a.length := by rw [← HN.out]; exact hlt
        have hkb : k < b.length := by rw [← HM.out]; exact hlt
        obtain ⟨b1, o1, rfl, hc1⟩ := HA.out.at (by omega)
        obtain ⟨b2, o2, rfl, hc2⟩ := HB.out.at (by omega)
        have c1 := hc1 _ HBD.out k hka
        have c2 := hc2 _ HBD.out k hkb
        have HX := hide (tex_step HT.out hka hkb)
        have HY := hide (show a[k] ≠ b[k] → a ≠ b from fun h e => h (by subst e; rfl))
        generalize a[k] = x at *
        generalize b[k] = y at *
        clear hc1 hc2
        by_cases hxy : x = y
        · have HS := hide (HX.out hxy)
          clear HX
          subst hxy
          go_wp2_with fail
          refine wp_region_lex (fun w' => w' = wr.drew) (by kernel_rfl) (by kernel_rfl) rfl ?_
          generalize wr.drew = wd at *
          (repeat (first | (refine lex_skip (by rfl) ?_; try simp only [Act.put, List.setIfInBounds_toArray, List.set_cons_zero, List.set_cons_succ]) | (refine lex_read (v := ?_) (by rfl) ?_ ?_; rotate_left; (focus (intro w' hS'; go_simp; (try with_reducible rfl); done)); try simp only [Act.put, List.setIfInBounds_toArray, List.set_cons_zero, List.set_cons_succ])))
          refine lex_nil ?_
          go_wp2
          go_roundw
          case rel => exact ⟨k + 1, by omega, by go_num, HS.out, HBD.out⟩
          case measure => simp [intOf]; omega
        · have t1 : (bs x == bs y) = false := by rw [bytes_dec]; simpa using fun h => hxy (bs_inj h)
          have t2 : (bs x != bs y) = true := by rw [bne, t1]; rfl
          have t3 : ((bs x).toList == (bs y).toList) = false := by rw [toList_beq]; simpa using fun h => hxy (bs_inj h)
          have t4 : ¬ (bs x).toList = (bs y).toList := by simpa using t3
          have HF := hide (decide_eq_false (HY.out hxy))
          clear hxy
          go_wp2_with fail
          refine wp_region_lex (fun w' => w' = wr.drew) (by kernel_rfl) (by kernel_rfl) rfl ?_
          generalize wr.drew = wd at *
          (repeat (first | (refine lex_skip (by rfl) ?_; try simp only [Act.put, List.setIfInBounds_toArray, List.set_cons_zero, List.set_cons_succ]) | (refine lex_read (v := ?_) (by rfl) ?_ ?_; rotate_left; (focus (intro w' hS'; go_simp; (try with_reducible rfl); done)); try simp only [Act.put, List.setIfInBounds_toArray, List.set_cons_zero, List.set_cons_succ])))
          refine lex_nil ?_
          go_wp2
          go_ret
          exact bel_bool HF.out HBD.out
      · obtain rfl : k = n := by omega
        have HF := hide (show decide (a = b) = true by
          rw [decide_eq_true_eq]
          have := HT.out
          rw [HN.out, List.take_length, ← HN.out, HM.out, List.take_length] at this
          exact this)
        clear HT
        go_wp2
        go_ret
        exact bel_bool HF.out HBL.out
  · have HF := hide (show decide (a = b) = false by
      rw [decide_eq_false_iff_not]
      intro e
      exact hnm (by rw [HN.out, HM.out, e]))
    have hnm2 : ((n : Int) != (m : Int)) = true := by simp; omega
    go_enter Tryd.func24, Tryd.ntmps24
    go_wp2
    go_ret
    exact bel_bool HF.out (Below.refl _ _)
end Go.Proofs.YtcgmikpmbomliaaDoor
namespace Go.Proofs.YtcgmikpmbomliaaDoor
open Go.RowKit Go.CH Go.CH.Scr
open Go.ChangeMaps (setBlock)
theorem bel_str {w w' : World} {a b : ByteArray} (h : a = b) (hb : Below w.heap.size w w') : BelowRet w (.string b) (.returned (.string a)) w' := ⟨by rw [h], hb⟩
theorem flat_step {l : List Bs} {k : Nat} (hk : k < l.length) : bs (l.take k).flatten ++ bs l[k] = bs (l.take (k + 1)).flatten := by
  refine bl_inj ?_
  rw [List.take_succ_eq_append_getElem hk, List.flatten_append]
  simp [bl, bs]
theorem flat_le {l : List Bs} (k : Nat) : ((l.take k).flatten).length ≤ l.flatten.length := by
  conv => rhs; rw [← List.take_append_drop k l]
  rw [List.flatten_append, List.length_append]
  omega
set_option maxHeartbeats 1600000 in
theorem sum_any {w : World} {A : Option Addr} {c : Nat} {l : List Bs} (hA : Vst w A l) (hl : l.length ≤ 1000000) (hf : l.flatten.length ≤ 1000000) :
    Calls Tryd.prog 26 #[.slice A l.length c] w (BelowRet w (.string (bs l.flatten))) := by
  have HA := hide hA
  have HFL := hide hf
  obtain ⟨n, hn⟩ : ∃ n, n = l.length := ⟨_, rfl⟩
  rw [← hn] at hl ⊢
  have HN := hide hn
  clear hA hn hf
  go_enter Tryd.func26, Tryd.ntmps26
  go_wp2
  go_loopw [3, 4] (fun a i wr => ∃ k : Nat, k ≤ n ∧ i = .int .i64 k ∧ a = .string (bs (l.take k).flatten) ∧ Below w.heap.size w wr) (fun _ i _ => n - (intOf i).toNat)
  case atStart => exact ⟨0, Nat.zero_le _, rfl, rfl, Below.refl _ _⟩
  case round =>
    obtain ⟨k, hk, rfl, rfl, hb⟩ := hrel
    have HB := hide hb
    clear hb
    by_cases hlt : k < n
    · have hkn : k < l.length := by rw [← HN.out]; exact hlt
      obtain ⟨b, o, rfl, hc⟩ := HA.out.at (by omega)
      have ck := hc _ HB.out k hkn
      have HS := hide (flat_step hkn)
      have hs1 : (bs (l.take k).flatten).size ≤ 1000000 := by rw [bs_size]; exact Nat.le_trans (flat_le k) HFL.out
      have hs2 : (bs (l.take k).flatten).size + (bs l[k]).size ≤ 1000000 := by
        rw [← ByteArray.size_append, HS.out, bs_size]; exact Nat.le_trans (flat_le (k + 1)) HFL.out
      have hs3 : ¬ 9223372036854775807 < (bs (l.take k).flatten).size + (bs l[k]).size := by omega
      clear hc
      generalize bs l[k] = x at *
      generalize bs (l.take k).flatten = t at *
      go_wp2
      go_roundw
      case rel => exact ⟨k + 1, by omega, by go_num, by rw [HS.out], HB.out⟩
      case measure => simp [intOf]; omega
    · obtain rfl : k = n := by omega
      have HF := hide (show bs (l.take k).flatten = bs l.flatten by rw [HN.out, List.take_length])
      generalize bs (l.take k).flatten = t at *
      go_wp2
      go_ret
      exact bel_str HF.out HB.out
theorem vow_at (o : Option UInt8) : has vowS o = match o with | none => false | some c => (c == 97 || c == 105 || c == 117 || c == 101 || c == 111) := by
  cases o with
  | none => rfl
  | some c => simp [has, vowS, List.contains_cons, Bool.or_assoc]; rfl
end Go.Proofs.YtcgmikpmbomliaaDoor
namespace Go.Proofs.YtcgmikpmbomliaaDoor
open Go.RowKit Go.CH Go.CH.Scr
open Go.ChangeMaps (setBlock)
theorem u8_eq (c : UInt8) (n : Int) (d : UInt8) (hd : (d.toNat : Int) = n) : ((c.toNat : Int) == n) = (c == d) := by
  rw [Bool.eq_iff_iff, beq_iff_eq, beq_iff_eq]
  constructor
  · intro h; exact UInt8.toNat_inj.1 (by omega)
  · rintro rfl; omega
set_option maxHeartbeats 1600000 in
theorem vowel_any (s : ByteArray) (w : World) (hs : s.size ≤ maxLen) :
    Calls Tryd.prog 27 #[.string s] w (Quiet w (.bool (has vowS (bl s)[0]?))) := by
  by_cases h : 0 < s.size
  · rw [bl_at s 0 h, vow_at]
    obtain ⟨x, hx⟩ : ∃ x : UInt8, s[0] = x := ⟨_, rfl⟩
    rw [hx]
    show Calls Tryd.prog 27 #[.string s] w (Quiet w (.bool (x == 97 || x == 105 || x == 117 || x == 101 || x == 111)))
    have hx256 := x.toNat_lt
    have hi : (0 : Int) < (s.size : Int) := by omega
    have e1 := u8_eq x 97 97 rfl
    have e2 := u8_eq x 105 105 rfl
    have e3 := u8_eq x 117 117 rfl
    have e4 := u8_eq x 101 101 rfl
    have e5 := u8_eq x 111 111 rfl
    cases h1 : (x == 97) with
    | true =>
      rw [h1] at e1
      clear h1
      clear e2
      clear e3
      clear e4
      clear e5
      go_enter Tryd.func27, Tryd.ntmps27
      go_wp2
      go_ret
      exact quiet_bool rfl
    | false =>
      cases h2 : (x == 105) with
      | true =>
        rw [h1] at e1
        rw [h2] at e2
        clear h1
        clear h2
        clear e3
        clear e4
        clear e5
        go_enter Tryd.func27, Tryd.ntmps27
        go_wp2
        go_ret
        exact quiet_bool rfl
      | false =>
        cases h3 : (x == 117) with
        | true =>
          rw [h1] at e1
          rw [h2] at e2
          rw [h3] at e3
          clear h1
          clear h2
          clear h3
          clear e4
          clear e5
          go_enter Tryd.func27, Tryd.ntmps27
          go_wp2
          go_ret
          exact quiet_bool rfl
        | false =>
          cases h4 : (x == 101) with
          | true =>
            rw [h1] at e1
            rw [h2] at e2
            rw [h3] at e3
            rw [h4] at e4
            clear h1
            clear h2
            clear h3
            clear h4
            clear e5
            go_enter Tryd.func27, Tryd.ntmps27
            go_wp2
            go_ret
            exact quiet_bool rfl
          | false =>
            cases h5 : (x == 111) with
            | true =>
              rw [h1] at e1
              rw [h2] at e2
              rw [h3] at e3
              rw [h4] at e4
              rw [h5] at e5
              clear h1
              clear h2
              clear h3
              clear h4
              clear h5
              go_enter Tryd.func27, Tryd.ntmps27
              go_wp2
              go_ret
              exact quiet_bool rfl
            | false =>
              rw [h1] at e1
              rw [h2] at e2
              rw [h3] at e3
              rw [h4] at e4
              rw [h5] at e5
              clear h1
              clear h2
              clear h3
              clear h4
              clear h5
              go_enter Tryd.func27, Tryd.ntmps27
              go_wp2
              go_ret
              exact quiet_bool rfl
  · rw [bl_no s 0 h]
    have hi : ¬ (0 : Int) < (s.size : Int) := by omega
    go_enter Tryd.func27, Tryd.ntmps27
    go_wp2
    go_ret
    exact quiet_bool rfl
end Go.Proofs.YtcgmikpmbomliaaDoor
namespace Go.Proofs.YtcgmikpmbomliaaDoor
open Go.RowKit Go.CH Go.CH.Scr
open Go.ChangeMaps (setBlock)
set_option maxHeartbeats 1600000 in
theorem same_any {w : World} {a b : NameM} {A B : Option Addr} {c d : Nat} (hA : Vst w A a.ws) (hB : Vst w B b.ws) (hl : a.ws.length ≤ 1000000) (hm : b.ws.length ≤ 1000000) :
    Calls Tryd.prog 25 #[nmV a A c, nmV b B d] w (BelowRet w (.bool (decide (a.k = b.k) && decide (a.ws = b.ws)))) := by
  have hb1 : Below w.heap.size w (w.alloc (.cells #[.int .i64 a.k, .slice A a.ws.length c] 24)) := (Below.refl _ w).alloc (Nat.le_refl _) _
  have hb2 := bel_trans hb1 ((Below.refl _ (w.alloc (.cells #[.int .i64 a.k, .slice A a.ws.length c] 24))).alloc (Nat.le_refl _) (.cells #[.int .i64 b.k, .slice B b.ws.length d] 24))
  have KT := hide (texts_any (c := c) (d := d) (hA.below hb2) (hB.below hb2) hl hm)
  have HB2 := hide hb2
  by_cases hk : a.k = b.k
  · have t1 : (a.k == b.k) = true := by simpa using hk
    have HD := hide (show (decide (a.k = b.k) && decide (a.ws = b.ws)) = decide (a.ws = b.ws) by rw [decide_eq_true hk, Bool.true_and])
    unfold nmV
    rw [HD.out]
    clear hA hB hb1 hb2 hk HD
    generalize decide (a.ws = b.ws) = r at *
    generalize a.ws.length = n at *
    generalize b.ws.length = m at *
    generalize a.k = k at *
    generalize b.k = k2 at *
    go_enter Tryd.func25, Tryd.ntmps25
    go_wp2_with fail
    refine KT.out.mono ?_
    rintro e9 w9 ⟨rfl, hb⟩
    have HB := hide (bel_trans HB2.out hb)
    clear KT hb
    go_wp2
    go_ret
    exact ⟨rfl, HB.out⟩
  · have t1 : (a.k == b.k) = false := by simpa using hk
    have HD := hide (show (decide (a.k = b.k) && decide (a.ws = b.ws)) = false by rw [decide_eq_false hk, Bool.false_and])
    unfold nmV
    rw [HD.out]
    clear hA hB hb1 hb2 hk HD KT
    generalize a.ws.length = n at *
    generalize b.ws.length = m at *
    generalize a.k = k at *
    generalize b.k = k2 at *
    go_enter Tryd.func25, Tryd.ntmps25
    go_wp2
    go_ret
    exact ⟨rfl, HB2.out⟩
end Go.Proofs.YtcgmikpmbomliaaDoor
