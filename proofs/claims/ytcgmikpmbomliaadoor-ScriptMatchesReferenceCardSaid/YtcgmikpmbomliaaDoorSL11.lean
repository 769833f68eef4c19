/-
  Script: Few.
  Script: the reference's Letters.
  Script: the reference's Word.
  Script: head, the chapter's examples.
  Script: the reference's Valid, Title.
  Script: the reference's Text, Fold.
  Script: the reference's Fold.
  Script: the law of letters.
-/
import Derived.Test.YtcgmikpmbomliaaDoorSL10
import Derived.Test.YtcgmikpmbomliaaDoorSL9
import Derived.Laws.BytesArg
import Derived.Laws.IdiomStrings
set_option linter.unusedSimpArgs false
set_option linter.unusedVariables false
namespace Go.Proofs.YtcgmikpmbomliaaDoor
open Go.RowKit Go.CH Go.CH.Scr
open Go.ChangeMaps (setBlock)
def fewN (n : NameM) : Bool := fewB 100 (n.ws.take 20) && decide (n.ws.length ≤ 20)
theorem fewN_no {n : NameM} {k : Nat} (hk : k < n.ws.length) (h20 : k < 20) (hx : ¬ n.ws[k].length ≤ 100) : fewN n = false := by
  have h2 : k < (n.ws.take 20).length := by rw [List.length_take]; omega
  have h3 : (n.ws.take 20)[k] = n.ws[k] := List.getElem_take
  unfold fewN
  rw [few_no h2 (by rw [h3]; exact hx)]; rfl
theorem fewN_end {n : NameM} {k : Nat} (h : fewB 100 (n.ws.take k) = true) (hk : k = n.ws.length ∨ k = 20) : fewN n = decide (n.ws.length ≤ 20) := by
  unfold fewN
  have : fewB 100 (n.ws.take 20) = true := by
    rcases hk with rfl | rfl
    · rw [List.take_length] at h
      unfold fewB at *
      rw [List.all_eq_true] at *
      intro x hx
      exact h x (List.mem_of_mem_take hx)
    · exact h
  rw [this, Bool.true_and]
set_option maxHeartbeats 1600000 in
theorem few_any {w : World} {n : NameM} {A : Option Addr} {c : Nat} (hA : Vst w A n.ws) (hl : n.ws.length ≤ 9223372036854775807) :
    Calls Tryd.prog 12 #[nmV n A c] w (BelowRet w (.bool (fewN n))) := by
  have HA := hide hA
  have h0 := (box_cells w n.k A n.ws.length c _ (Below.refl _ _)).1
  have h1 := (box_cells w n.k A n.ws.length c _ (Below.refl _ _)).2
  have HB1 := hide (show Below w.heap.size w (w.alloc (.cells #[.int .i64 n.k, .slice A n.ws.length c] 24)) from (Below.refl _ w).alloc (Nat.le_refl _) _)
  have HC0 := hide (box_cells w n.k A n.ws.length c)
  obtain ⟨N, hN⟩ : ∃ N, N = n.ws.length := ⟨_, rfl⟩
  have HN := hide hN
  rw [← hN] at hl
  unfold nmV
  rw [← hN] at h0 h1 HC0 HB1 ⊢
  clear hA hN
  go_enter Tryd.func12, Tryd.ntmps12
  go_wp2
  generalize w.alloc (.cells #[.int .i64 n.k, .slice A N c] 24) = w1 at *
  go_loopw [3] (fun i wr => ∃ k : Nat, k ≤ N ∧ k ≤ 20 ∧ i = .int .i64 k ∧ fewB 100 (n.ws.take k) = true ∧ Below w1.heap.size w1 wr) (fun i _ => N - (intOf i).toNat)
  case atStart => exact ⟨0, Nat.zero_le _, Nat.zero_le _, rfl, rfl, Below.refl _ _⟩
  case round =>
    obtain ⟨k, hk, hk20, rfl, ht, hb⟩ := hrel
    have HT := hide ht
    have HB := hide hb
    obtain ⟨d0, d1⟩ := HC0.out _ hb
    clear ht hb h0 h1
    by_cases hlt : k < N
    · have hlt2 : (k : Int) < (N : Int) := by omega
      by_cases h20 : (k : Int) < 20
      · have hkn : k < n.ws.length := by rw [← HN.out]; exact hlt
        obtain ⟨b, o, rfl, hc⟩ := HA.out.at (by omega)
        have ck := hc _ (bel_trans HB1.out HB.out) k hkn
        have HST := hide (few_step (m := 100) hkn HT.out)
        have HNO := hide (fewN_no hkn (by omega))
        have hsz : (bs n.ws[k]).size = n.ws[k].length := bs_size _
        generalize n.ws[k] = x at *
        obtain ⟨y, hy⟩ : ∃ y, y = bs x := ⟨_, rfl⟩
        rw [← hy] at ck hsz
        clear hy hc hkn
        rw [← hsz] at HST HNO
        clear hsz
        by_cases h2 : (100 : Int) < (y.size : Int)
        · have HF := hide (HNO.out (by omega))
          go_wp2
          go_ret
          exact bel_bool HF.out (bel_trans HB1.out HB.out)
        · have HS := hide (HST.out (by omega))
          go_wp2
          go_roundw
          case rel => exact ⟨k + 1, by omega, by omega, by go_num, HS.out, HB.out⟩
          case measure => simp [intOf]; omega
      · have HF := hide (fewN_end HT.out (.inr (by omega)))
        have hd : decide (n.ws.length ≤ 20) = decide ((N : Int) ≤ 20) := by rw [← HN.out]; exact decide_eq_decide.2 (by omega)
        rw [hd] at HF
        clear hd HT
        go_wp2
        go_ret
        exact bel_bool HF.out (bel_trans HB1.out HB.out)
    · obtain rfl : k = N := by omega
      have HF := hide (fewN_end HT.out (.inl HN.out))
      have hd : decide (n.ws.length ≤ 20) = decide ((k : Int) ≤ 20) := by rw [← HN.out]; exact decide_eq_decide.2 (by omega)
      rw [hd] at HF
      clear hd HT
      go_wp2
      go_ret
      exact bel_bool HF.out (bel_trans HB1.out HB.out)
end Go.Proofs.YtcgmikpmbomliaaDoor
namespace Go.Proofs.YtcgmikpmbomliaaDoor
open Go.RowKit Go.CH Go.CH.Scr
open Go.ChangeMaps (setBlock)
theorem app_strL {F0 : Nat → Prop} {w0 W : World} {Y : CH.Own} {ops : Array Oper} {rest : List Oper} {o : Oper} {a : Act} {Q : Exit → Act → World → Prop} (hgd : o.guard = none) (s x : Operand)
    (ho : o.op = .call { callee := .builtin .append, args := #[s, x], argTypes := #[22, 22] }) {A : Option Addr} {c n : Nat} {l : List Bs} {i : ByteArray} (hl : l.length = n) (hsv : a.eval s = .slice A n c) (hx : a.eval x = .slice (some ⟨W.heap.size, 0, none⟩) 1 1) (hn : n ≤ 1000000) (hY : Y.Ok)
    (h : Run F0 w0 (star (StrO A c l) Y) W)
    (hK : ∀ A' c' w', Run F0 w0 (star (StrO A' c' (l ++ [bl i])) Y) w' → wpList Tryd.prog ops Q rest (a.put o.dst (.slice A' (n + 1) c')) w') : wpList Tryd.prog ops Q (o :: rest) a (W.alloc (.cells #[.string i] 9)) := by
  subst hl
  obtain ⟨F7, hR7, -, bk7⟩ := (h.below (star_ok str_ok hY) ((Below.refl _ _).alloc (Nat.le_refl _) (.cells #[.string i] 9))).take str_ok hY
  refine wpList_appX hgd s x ho strsOk _ 0 (v := .slice A l.length c) (n := l.length) (xs := strB l) hsv hR7.1 (A := some ⟨W.heap.size, 0, none⟩) (m := 1) (c := 1) (news := [.string i]) hx (src_lit1 W _ 9 rfl) (by unfold maxLen; omega) (by omega) (Nat.zero_le _) ?_
  intro v8 w8 ho8 hg8 hv8
  have S8 := bk7 _ _ (row_app hR7 ho8 hg8 hv8)
  obtain ⟨A8, c8, rfl⟩ := own_form ho8
  rw [show Value.string i = .string (bs (bl i)) by rw [bs_bl], str_snoc] at S8
  exact hK A8 c8 w8 S8
set_option maxHeartbeats 1600000 in
theorem rLetters_any (k : Int) (s : ByteArray) (w : World) (hs : s.size ≤ 1000000) :
    Calls Tryd.prog 15 #[.int .i64 k, .string s] w (LtrsRet w k (bl s)) := by
  obtain ⟨xs, hxs⟩ : ∃ xs, xs = (ltrs k (bl s)).1 := ⟨_, rfl⟩
  have HX := hide hxs
  have S0 := hide (((Run.begin w).fresh emp_ok (⟨fun _ => False, str_nil w, Mod.refl _ _, fun i hi => .inl hi⟩ : Post w (fun _ => False) (StrO none 0 []) w)))
  clear hxs
  go_enter Tryd.func15, Tryd.ntmps15
  go_wp2
  go_loopw [6, 7] (fun v p wr => ∃ (j : Nat) (A : Option Addr) (c : Nat), j ≤ 12 ∧ j ≤ xs.length ∧ v = .slice A j c ∧ p = .int .i64 (eat k (bl s) j : Nat) ∧ Run (fun _ => False) w (star (StrO A c (xs.take j)) emp) wr)
    (fun _ p _ => s.size - (intOf p).toNat)
  case atStart => exact ⟨0, none, 0, Nat.zero_le _, Nat.zero_le _, rfl, rfl, by rw [List.take_zero]; exact S0.out⟩
  case round =>
    obtain ⟨j, A, c, hj, hjx, rfl, rfl, hR⟩ := hrel
    have HR := hide hR
    clear hR S0
    have hej := (eat_ltrs (k := k) (l := bl s) j (by rw [← HX.out]; exact hjx)).2
    rw [bl_len] at hej
    by_cases hlt : (eat k (bl s) j : Int) < (s.size : Int)
    · have KL := hide (rlength_any k s (eat k (bl s) j) wr hs (by omega))
      by_cases hz : len1 k ((bl s).drop (eat k (bl s) j)) = 0
      · have HN := hide (show lettersN k (bl s) = ([], 1) from no_word (fun h => eat_bad (by rw [← HX.out]; exact hjx) (by rw [bl_len]; omega) hz h.1))
        rw [hz] at KL
        clear hz
        generalize eat k (bl s) j = pos at *
        go_wp2_with fail
        refine KL.out.mono ?_
        rintro e9 w9 ⟨rfl, hb⟩
        have HM := hide ((HR.out.below (star_ok str_ok emp_ok) hb).mod)
        clear KL hb
        go_wp2
        refine bodyPost_ret (results_tmp2 rfl _ _ _) rfl ?_
        exact ltrs_err HN.out HM.out
      · have hjx2 : j < (ltrs k (bl s)).1.length := eat_more (by rw [← HX.out]; exact hjx) hz
        by_cases h12 : j = 12
        · have HN := hide (show lettersN k (bl s) = ([], 1) from no_word (by omega))
          have hnz : ((len1 k ((bl s).drop (eat k (bl s) j)) : Nat) : Int) ≠ 0 := by omega
          have tnz : (((len1 k ((bl s).drop (eat k (bl s) j)) : Nat) : Int) == 0) = false := by simpa using hnz
          subst h12
          clear hz hnz hjx2
          generalize len1 k ((bl s).drop (eat k (bl s) 12)) = n1 at *
          generalize eat k (bl s) 12 = pos at *
          go_wp2_with fail
          refine KL.out.mono ?_
          rintro e9 w9 ⟨rfl, hb⟩
          have HM := hide ((HR.out.below (star_ok str_ok emp_ok) hb).mod)
          clear KL hb
          go_wp2
          refine bodyPost_ret (results_tmp2 rfl _ _ _) rfl ?_
          exact ltrs_err HN.out HM.out
        · have tnz : (((len1 k ((bl s).drop (eat k (bl s) j)) : Nat) : Int) == 0) = false := by simpa using hz
          have t12 : ((j : Int) == 12) = false := by simp; omega
          have hle := len1_le (k := k) (l := (bl s).drop (eat k (bl s) j))
          rw [List.length_drop, bl_len] at hle
          have HNX := hide (show xs.take j ++ [bl (s.extract (eat k (bl s) j) (eat k (bl s) j + len1 k ((bl s).drop (eat k (bl s) j))))] = xs.take (j + 1) by
            have hj3 : j < xs.length := by rw [HX.out]; exact hjx2
            rw [List.take_succ_eq_append_getElem hj3, bl_extract]
            have e1 := eat_at hjx2
            have e2 : xs[j] = (ltrs k (bl s)).1[j] := by simp only [HX.out]
            rw [e2, e1, List.take_drop])
          have HEN := hide (show eat k (bl s) (j + 1) = eat k (bl s) j + len1 k ((bl s).drop (eat k (bl s) j)) from rfl)
          have hpos : 0 < len1 k ((bl s).drop (eat k (bl s) j)) := by omega
          have hj2 : (xs.take j).length = j := by rw [List.length_take]; omega
          have HJ2 := hide hj2
          have HJX := hide (show j + 1 ≤ xs.length by rw [HX.out]; exact hjx2)
          clear hz hjx2 hj2 hjx
          generalize len1 k ((bl s).drop (eat k (bl s) j)) = n1 at *
          generalize eat k (bl s) j = pos at *
          go_wp2_with fail
          refine KL.out.mono ?_
          rintro e9 w9 ⟨rfl, hb⟩
          have HR2 := hide (HR.out.below (star_ok str_ok emp_ok) hb)
          clear KL hb HR
          go_wp2_with (at_builtin; refine held ?_)
          refine Held.mk (app_strL rfl (.tmp 24) (.tmp 31) rfl HJ2.out rfl rfl (by omega) emp_ok HR2.out ?_)
          intro A' c' w2 hw2
          rw [HNX.out] at hw2
          have HW2 := hide hw2
          clear hw2 HR2 HNX
          go_wp2
          go_roundw
          case rel => exact ⟨j + 1, A', c', by omega, HJX.out, by go_num, by rw [HEN.out]; go_num, HW2.out⟩
          case measure => simp [intOf]; omega
    · obtain ⟨ej, er⟩ := eat_all (k := k) (l := bl s) (by rw [← HX.out]; exact hjx) (by rw [bl_len]; omega)
      by_cases h0 : j = 0
      · have HN := hide (show lettersN k (bl s) = ([], 1) from no_word (by omega))
        have HM := hide HR.out.mod
        subst h0
        clear ej er
        generalize eat k (bl s) 0 = pos at *
        go_wp2
        refine bodyPost_ret (results_tmp2 rfl _ _ _) rfl ?_
        exact ltrs_err HN.out HM.out
      · have HN := hide (show lettersN k (bl s) = ((ltrs k (bl s)).1, 0) from is_word ⟨er, by omega, by omega⟩)
        have hr2 := HR.out
        rw [HX.out, ej, List.take_length] at hr2
        have HF := hide (ltrs_okR HN.out hr2)
        rw [← ej] at HF
        have h0' : ((j : Int) == 0) = false := by simp; omega
        clear ej er hr2
        generalize eat k (bl s) j = pos at *
        go_wp2
        refine bodyPost_ret (results_tmp2 rfl _ _ _) rfl ?_
        exact HF.out
end Go.Proofs.YtcgmikpmbomliaaDoor
namespace Go.Proofs.YtcgmikpmbomliaaDoor
open Go.RowKit Go.CH Go.CH.Scr
open Go.ChangeMaps (setBlock)
theorem rLetters_b (k : Int) (s : ByteArray) (w : World) (hs : s.size ≤ 1000000) : Calls Tryd.prog 15 #[.int .i64 k, .string s] w (LtrsB w k (bl s)) := by
  refine (rLetters_any k s w hs).mono ?_
  rintro e w' ⟨A, c, rfl, F, h1, h2, h3⟩
  exact ⟨A, c, rfl, h2.below (fun _ _ h => h), vst_of h1⟩
theorem rWord_any (k : Int) (s : ByteArray) (w : World) (hs : s.size ≤ 1000000) : Calls Tryd.prog 31 #[.int .i64 k, .string s] w (BelowRet w (.bool (word k (bl s)))) := by
  have HL := hide (rLetters_b k s w hs)
  cases hw : word k (bl s) with
  | true =>
    have e1 : lettersN k (bl s) = ((ltrs k (bl s)).1, 0) := by unfold lettersN; rw [if_pos hw]
    unfold LtrsB at HL
    simp only [e1] at HL
    clear e1 hw
    go_enter Tryd.func31, Tryd.ntmps31
    go_wp2_with fail
    refine HL.out.mono ?_
    rintro e9 w1 ⟨A, c, rfl, hb, -⟩
    have HB := hide hb
    clear hb HL
    dsimp only
    go_wp2
    go_ret
    exact bel_bool rfl HB.out
  | false =>
    have e1 : lettersN k (bl s) = ([], 1) := by unfold lettersN; rw [if_neg (by rw [hw]; decide)]
    unfold LtrsB at HL
    simp only [e1] at HL
    clear e1 hw
    go_enter Tryd.func31, Tryd.ntmps31
    go_wp2_with fail
    refine HL.out.mono ?_
    rintro e9 w1 ⟨A, c, rfl, hb, -⟩
    have HB := hide hb
    clear hb HL
    dsimp only
    go_wp2
    go_ret
    exact bel_bool rfl HB.out
end Go.Proofs.YtcgmikpmbomliaaDoor
namespace Go.Proofs.YtcgmikpmbomliaaDoor
open Go.RowKit Go.CH Go.CH.Scr
open Go.ChangeMaps (setBlock)
theorem vst_lit (W : World) (l : List Bs) (cs : Array Value) (h : cs = (strB l).toArray) : Vst (W.alloc (.cells cs 9)) (some ⟨W.heap.size, 0, none⟩) l := by
  subst h
  refine ⟨by rw [strB_len, Nat.mul_one], strB_one l, fun _ => ⟨_, rfl, fun j u hu => ?_⟩⟩
  rw [Addr.add_zero_]
  have h := heap_alloc_new W (Obj.cells (strB l).toArray 9)
  simp only [World.cell?, h]
  simpa using hu
def LtrsE (w : World) (n : Nat) (r : List Bs) (x : Int) (e : Ending) (w' : World) : Prop :=
  ∃ A c, e = .returned (.tuple #[.slice A n c, .int .i64 x]) ∧ Below w.heap.size w w' ∧ Vst w' A r
theorem ltr_ex (k : Int) (s : ByteArray) {r : List Bs} {x : Int} {n : Nat} (hr : lettersN k (bl s) = (r, x)) (hn : r.length = n) (hs : s.size ≤ 1000000) (W : World) (hz : LZ W) :
    Calls Tryd.prog 14 #[.int .i64 k, .string s] W (LtrsE W n r x) := by
  have h := Letters_b k s W hs hz
  unfold LtrsB at h
  rw [hr] at h
  subst hn
  exact h
def ParE (w : World) (n : NameM) (m : Nat) (x y : Int) (e : Ending) (w' : World) : Prop :=
  ∃ A c, e = .returned (.tuple #[.agg #[.int .i64 n.k, .slice A m c], .int .i64 x, .int .i64 y]) ∧ Below w.heap.size w w' ∧ Vst w' A n.ws ∧ m ≤ c
theorem par_ex (s : ByteArray) {n : NameM} {x y : Int} {m : Nat} (hr : parseN (bl s) = (n, x, y)) (hn : n.ws.length = m) (W : World) (hz : LZ W) :
    Calls Tryd.prog 20 #[.string s] W (ParE W n m x y) := by
  have h := Parse_any s W hz
  unfold ParseRet nmV at h
  rw [hr] at h
  subst hn
  exact h
theorem fold_ex (k : Int) (s : ByteArray) {t : ByteArray} {x : Int} (hr : foldN k (bl s) = (bl t, x)) (hs : s.size ≤ 1000000) (W : World) (hz : LZ W) :
    Calls Tryd.prog 16 #[.int .i64 k, .string s] W (BelowRet W (.tuple #[.string t, .int .i64 x])) := by
  have h := fold_any k s W hs hz
  rw [hr] at h
  simp only [bs_bl] at h
  exact h
theorem tex_ex {W : World} {A : Option Addr} {c d n m : Nat} {a b : List Bs} {cs : Array Value} (hA : Vst W A a) (hb : cs = (strB b).toArray) (hn : a.length = n) (hm : b.length = m) (h1 : n ≤ 1000000) (h2 : m ≤ 1000000) {r : Bool} (hr : decide (a = b) = r) :
    Calls Tryd.prog 24 #[.slice A n c, .slice (some ⟨W.heap.size, 0, none⟩) m d] (W.alloc (.cells cs 9)) (BelowRet (W.alloc (.cells cs 9)) (.bool r)) := by
  subst hn hm hr
  exact texts_any (hA.below ((Below.refl _ _).alloc (Nat.le_refl _) _)) (vst_lit W b cs hb) h1 h2
theorem txt_ex {W : World} {n : NameM} {A : Option Addr} {c m : Nat} {t : ByteArray} {x : Int} (hA : Vst W A n.ws) (hc : m ≤ c) (hm : n.ws.length = m) (h6 : m ≤ 6) (hw : n.ws.all (fun x => decide (x.length ≤ 100)) = true) (hr : txtN n = (bl t, x)) (hz : LZ W) :
    Calls Tryd.prog 18 #[.agg #[.int .i64 n.k, .slice A m c]] W (BelowRet W (.tuple #[.string t, .int .i64 x])) := by
  subst hm
  have hw2 : ∀ x ∈ n.ws, x.length ≤ 100 := fun x hx => by simpa using List.all_eq_true.1 hw x hx
  have hb := bytes_few hw2
  have h := text_any (n := n) hA hc (by omega) (fun x hx => Nat.le_trans (hw2 x hx) (by omega)) (Nat.le_trans hb (by have := Nat.mul_le_mul_right (100 + 1) h6; omega)) hz
  rw [hr] at h
  simp only [bs_bl] at h
  exact h
set_option maxRecDepth 100000 in
set_option maxHeartbeats 3200000 in
theorem head_any (w : World) (hz : LZ w) : Calls Tryd.prog 11 #[] w (BelowRet w (.bool true)) := by
  have HZ := hide hz
  have K1 := hide (ltr_ex 4 ⟨#[110, 97, 110, 105, 119, 97]⟩ (r := [[110, 97], [110, 105], [119, 97]]) (x := 0) (n := 3) (by decide +kernel) rfl (by decide))
  have K2 := hide (ltr_ex 4 ⟨#[107, 105, 110]⟩ (r := [[107, 105], [110]]) (x := 0) (n := 2) (by decide +kernel) rfl (by decide))
  have K3 := hide (ltr_ex 2 ⟨#[69, 94, 118, 97]⟩ (r := [[69, 94], [118], [97]]) (x := 0) (n := 3) (by decide +kernel) rfl (by decide))
  have K4 := hide (fold_ex 2 ⟨#[69, 94, 118, 97]⟩ (t := ⟨#[101, 94, 118, 97]⟩) (x := 0) (by decide +kernel) (by decide))
  have K5 := hide (ltr_ex 4 ⟨#[115, 116, 97]⟩ (r := []) (x := 1) (n := 0) (by decide +kernel) rfl (by decide))
  have K6 := hide (par_ex ⟨#[99, 97, 115, 101, 100, 58, 32, 65, 110, 110, 97, 32, 32, 77, 97, 114, 105, 97, 32]⟩ (n := ⟨2, [[65, 110, 110, 97], [77, 97, 114, 105, 97]]⟩) (x := 0) (y := 0) (m := 2) (by kernel_rfl) rfl)
  have K7 := hide (par_ex ⟨#[97, 98, 106, 97, 100, 58, 98, 110, 32, 97]⟩ (n := ⟨0, []⟩) (x := 3) (y := 9) (m := 0) (by kernel_rfl) rfl)
  have K8 := hide (par_ex ⟨#[112, 108, 97, 105, 110, 58, 32]⟩ (n := ⟨0, []⟩) (x := 6) (y := 7) (m := 0) (by kernel_rfl) rfl)
  clear hz
  go_enter Tryd.func11, Tryd.ntmps11
  go_wp2_with fail
  refine (K1.out w HZ.out).mono ?_
  rintro e9 w1 ⟨A1, c1, rfl, hb, hv1⟩
  have B1 := hide hb
  have V1 := hide hv1
  clear hb hv1 K1
  go_wp2_with fail
  refine (K2.out w1 (HZ.out.below B1.out)).mono ?_
  rintro e9 w2 ⟨A2, c2, rfl, hb, hv2⟩
  have B2 := hide (bel_trans B1.out hb)
  have V1a := hide (V1.out.below hb)
  have V2 := hide hv2
  clear hb hv2 K2 V1 B1
  go_wp2_with fail
  refine (K3.out w2 (HZ.out.below B2.out)).mono ?_
  rintro e9 w3 ⟨A3, c3, rfl, hb, hv3⟩
  have B3 := hide (bel_trans B2.out hb)
  have V1b := hide (V1a.out.below hb)
  have V2b := hide (V2.out.below hb)
  have V3 := hide hv3
  clear hb hv3 K3 V1a V2 B2
  go_wp2_with fail
  refine (K4.out w3 (HZ.out.below B3.out)).mono ?_
  rintro e9 w4 ⟨rfl, hb⟩
  have B4 := hide (bel_trans B3.out hb)
  have V1c := hide (V1b.out.below hb)
  have V2c := hide (V2b.out.below hb)
  have V3c := hide (V3.out.below hb)
  clear hb K4 V1b V2b V3 B3
  go_wp2_with fail
  refine (K5.out w4 (HZ.out.below B4.out)).mono ?_
  rintro e9 w5 ⟨A5, c5, rfl, hb, -⟩
  have B5 := hide (bel_trans B4.out hb)
  have V1d := hide (V1c.out.below hb)
  have V2d := hide (V2c.out.below hb)
  have V3d := hide (V3c.out.below hb)
  clear hb K5 V1c V2c V3c B4
  go_wp2_with fail
  refine (K6.out w5 (HZ.out.below B5.out)).mono ?_
  rintro e9 w6 ⟨A6, c6, rfl, hb, hv6, hc6⟩
  obtain ⟨w6', hw6⟩ : ∃ W, W = w6.alloc (.cells #[.int .i64 2, .slice A6 2 c6] 24) := ⟨_, rfl⟩
  have hb6 : Below w5.heap.size w5 w6' := by rw [hw6]; exact hb.alloc hb.size _
  have hb66 : Below w6.heap.size w6 w6' := by rw [hw6]; exact (Below.refl _ _).alloc (Nat.le_refl _) _
  have HC6 := hide (fun W (h : Below w6'.heap.size w6' W) => box_cells w6 2 A6 2 c6 W (by rw [← hw6]; exact h))
  have B6 := hide (bel_trans B5.out hb6)
  have V1e := hide (V1d.out.below hb6)
  have V2e := hide (V2d.out.below hb6)
  have V3e := hide (V3d.out.below hb6)
  have V6 := hide (hv6.below hb66)
  clear hb hb6 hb66 hv6 K6 V1d V2d V3d B5
  go_wp2_with fail
  rw [← hw6]
  clear hw6
  generalize w6.heap.size = b6 at *
  clear w6
  refine (K7.out w6' (HZ.out.below B6.out)).mono ?_
  rintro e9 w7 ⟨A7, c7, rfl, hb, -, -⟩
  obtain ⟨w7', hw7⟩ : ∃ W, W = w7.alloc (.cells #[.int .i64 0, .slice A7 0 c7] 24) := ⟨_, rfl⟩
  have hb7 : Below w6'.heap.size w6' w7' := by rw [hw7]; exact hb.alloc hb.size _
  have HC7 := hide (fun W (h : Below w7'.heap.size w7' W) => HC6.out W (bel_trans hb7 h))
  have B7 := hide (bel_trans B6.out hb7)
  have V1f := hide (V1e.out.below hb7)
  have V2f := hide (V2e.out.below hb7)
  have V3f := hide (V3e.out.below hb7)
  have V6f := hide (V6.out.below hb7)
  clear hb hb7 K7 V1e V2e V3e V6 B6 HC6
  go_wp2_with fail
  rw [← hw7]
  clear hw7
  generalize w7.heap.size = b7 at *
  clear w7
  refine (K8.out w7' (HZ.out.below B7.out)).mono ?_
  rintro e9 w8 ⟨A8, c8, rfl, hb, -, -⟩
  obtain ⟨w8', hw8⟩ : ∃ W, W = w8.alloc (.cells #[.int .i64 0, .slice A8 0 c8] 24) := ⟨_, rfl⟩
  have hb8 : Below w7'.heap.size w7' w8' := by rw [hw8]; exact hb.alloc hb.size _
  have HC8 := hide (fun W (h : Below w8'.heap.size w8' W) => HC7.out W (bel_trans hb8 h))
  have B8 := hide (bel_trans B7.out hb8)
  have V1g := hide (V1f.out.below hb8)
  have V2g := hide (V2f.out.below hb8)
  have V3g := hide (V3f.out.below hb8)
  have V6g := hide (V6f.out.below hb8)
  clear hb hb8 K8 V1f V2f V3f V6f B7 HC7
  go_wp2_with fail
  rw [← hw8]
  have hs8 : w8'.heap.size = w8.heap.size + 1 := by rw [hw8, World.size_alloc]
  clear hw8
  generalize w8.heap.size = b8 at *
  clear w8
  have T1 := hide (tex_ex (c := c1) (d := 3) V1g.out (b := [[110, 97], [110, 105], [119, 97]]) (cs := #[.string ⟨#[110, 97]⟩, .string ⟨#[110, 105]⟩, .string ⟨#[119, 97]⟩]) rfl (n := 3) (m := 3) rfl rfl (by omega) (by omega) (r := true) (by decide))
  rw [hs8] at T1
  clear hs8
  refine T1.out.mono ?_
  rintro e9 x1 ⟨rfl, hb⟩
  have hbx : Below w8'.heap.size w8' x1 := bel_trans ((Below.refl _ _).alloc (Nat.le_refl _) _) hb
  have C1 := hide hbx
  clear T1 hb hbx
  go_wp2_with fail
  have T2 := hide (tex_ex (c := c2) (d := 2) (V2g.out.below C1.out) (b := [[107, 105], [110]]) (cs := #[.string ⟨#[107, 105]⟩, .string ⟨#[110]⟩]) rfl (n := 2) (m := 2) rfl rfl (by omega) (by omega) (r := true) (by decide))
  refine T2.out.mono ?_
  rintro e9 x2 ⟨rfl, hb⟩
  have C2 := hide (bel_trans C1.out (bel_trans ((Below.refl _ _).alloc (Nat.le_refl _) _) hb))
  clear T2 hb C1
  go_wp2_with fail
  have T3 := hide (tex_ex (c := c3) (d := 3) (V3g.out.below C2.out) (b := [[69, 94], [118], [97]]) (cs := #[.string ⟨#[69, 94]⟩, .string ⟨#[118]⟩, .string ⟨#[97]⟩]) rfl (n := 3) (m := 3) rfl rfl (by omega) (by omega) (r := true) (by decide))
  refine T3.out.mono ?_
  rintro e9 x3 ⟨rfl, hb⟩
  have C3 := hide (bel_trans C2.out (bel_trans ((Below.refl _ _).alloc (Nat.le_refl _) _) hb))
  have T4 := hide (txt_ex (n := ⟨2, [[65, 110, 110, 97], [77, 97, 114, 105, 97]]⟩) (m := 2) (t := ⟨#[99, 97, 115, 101, 100, 58, 65, 110, 110, 97, 32, 77, 97, 114, 105, 97]⟩) (x := 0) (V6g.out.below C3.out) hc6 rfl (by omega) (by decide) (by decide +kernel) (HZ.out.below (bel_trans B8.out C3.out)))
  obtain ⟨d0, d1⟩ := HC8.out _ C3.out
  clear T3 hb C2
  go_wp2_with fail
  refine T4.out.mono ?_
  rintro e9 x4 ⟨rfl, hb⟩
  have C4 := hide (bel_trans B8.out (bel_trans C3.out hb))
  clear T4 hb C3 d0 d1 B8
  go_wp2
  go_ret
  exact ⟨rfl, C4.out⟩
end Go.Proofs.YtcgmikpmbomliaaDoor
namespace Go.Proofs.YtcgmikpmbomliaaDoor
open Go.RowKit Go.CH Go.CH.Scr
open Go.ChangeMaps (setBlock)
set_option maxHeartbeats 1600000 in
theorem rvalid_any {w : World} {n : NameM} {A : Option Addr} {c : Nat} (hA : Vst w A n.ws) (hl : n.ws.length ≤ 1000000) (hw : ∀ x ∈ n.ws, x.length ≤ 1000000) :
    Calls Tryd.prog 23 #[nmV n A c] w (BelowRet w (.bool (validN n))) := by
  have HA := hide hA
  have HW := hide hw
  have HL := hide (fun (k : Int) (x : Bs) (W : World) (hx : x.length ≤ 1000000) => rWord_any k (bs x) W (by rw [bs_size]; exact hx))
  have h0 := (box_cells w n.k A n.ws.length c _ (Below.refl _ _)).1
  have h1 := (box_cells w n.k A n.ws.length c _ (Below.refl _ _)).2
  have HB1 := hide (show Below w.heap.size w (w.alloc (.cells #[.int .i64 n.k, .slice A n.ws.length c] 24)) from (Below.refl _ w).alloc (Nat.le_refl _) _)
  have HC0 := hide (box_cells w n.k A n.ws.length c)
  obtain ⟨N, hN⟩ : ∃ N, N = n.ws.length := ⟨_, rfl⟩
  have HN := hide hN
  rw [← hN] at hl
  unfold nmV
  rw [← hN] at h0 h1 HC0 HB1 ⊢
  clear hA hN hw
  go_enter Tryd.func23, Tryd.ntmps23
  go_wp2
  generalize w.alloc (.cells #[.int .i64 n.k, .slice A N c] 24) = w1 at *
  go_loopw [3] (fun i wr => ∃ k : Nat, k ≤ N ∧ i = .int .i64 k ∧ (∀ x ∈ n.ws.take k, word n.k x = true) ∧ Below w1.heap.size w1 wr) (fun i _ => N - (intOf i).toNat)
  case atStart => exact ⟨0, Nat.zero_le _, rfl, by simp, Below.refl _ _⟩
  case round =>
    obtain ⟨k, hk, rfl, ht, hb⟩ := hrel
    have HT := hide ht
    have HB := hide hb
    obtain ⟨d0, d1⟩ := HC0.out _ hb
    clear ht hb h0 h1
    by_cases hlt : k < N
    · have hkn : k < n.ws.length := by rw [← HN.out]; exact hlt
      obtain ⟨b, o, rfl, hc⟩ := HA.out.at (by omega)
      have HCK := hide (fun W (h : Below wr.heap.size wr W) => hc W (bel_trans HB1.out (bel_trans HB.out h)) k hkn)
      have HD := hide (fun W (h : Below wr.heap.size wr W) => HC0.out W (bel_trans HB.out h))
      have KL := hide (HL.out n.k n.ws[k] wr.drew (HW.out _ (List.getElem_mem hkn)))
      rw [bl_bs] at KL
      have HNO := hide (valid_no hkn)
      have HST := hide (valid_step hkn HT.out)
      generalize n.ws[k] = x at *
      clear hc hkn
      cases hwx : word n.k x with
      | true =>
        have HS := hide (HST.out hwx)
        rw [hwx] at KL
        clear HNO HST hwx HT HL HW
        go_wp2_with fail
        refine wp_region_lex (fun W => W.cell? ⟨w.heap.size, 0, none⟩ = some (.int .i64 n.k) ∧ W.cell? ⟨w.heap.size, 1, none⟩ = some (.slice (some ⟨b, o, none⟩) N c) ∧ W.cell? ⟨b, o + k, none⟩ = some (.string (bs x))) (by kernel_rfl) (by kernel_rfl) ⟨(HD.out _ (below_drew (Below.refl _ _))).1, (HD.out _ (below_drew (Below.refl _ _))).2, HCK.out _ (below_drew (Below.refl _ _))⟩ ?_
        (repeat (first | (refine lex_skip (by rfl) ?_; try simp only [Act.put, List.setIfInBounds_toArray, List.set_cons_zero, List.set_cons_succ]) | (refine lex_read (v := ?_) (by rfl) ?_ ?_; rotate_left; (focus (intro w' hS'; go_simp; (try with_reducible rfl); done)); try simp only [Act.put, List.setIfInBounds_toArray, List.set_cons_zero, List.set_cons_succ])))
        refine lex_chain (by rfl) (by rfl) (fun K hK => ?_)
        go_wp2_with fail
        refine KL.out.mono ?_
        rintro e9 w2 ⟨rfl, hb⟩
        have HB2 := hide (bel_trans (below_drew (Below.refl _ wr)) hb)
        clear KL hb
        refine hK.out _ _ ⟨(HD.out _ HB2.out).1, (HD.out _ HB2.out).2, HCK.out _ HB2.out⟩ ?_
        clear hK
        (repeat (first | (refine lex_skip (by rfl) ?_; try simp only [Act.put, List.setIfInBounds_toArray, List.set_cons_zero, List.set_cons_succ]) | (refine lex_read (v := ?_) (by rfl) ?_ ?_; rotate_left; (focus (intro w' hS'; go_simp; (try with_reducible rfl); done)); try simp only [Act.put, List.setIfInBounds_toArray, List.set_cons_zero, List.set_cons_succ])))
        refine lex_nil ?_
        go_wp2
        go_roundw
        case rel => exact ⟨k + 1, by omega, by go_num, HS.out, bel_trans HB.out HB2.out⟩
        case measure => simp [intOf]; omega
      | false =>
        have HF := hide (HNO.out (by rw [hwx]; decide))
        rw [hwx] at KL
        clear HNO HST hwx HT HL HW
        go_wp2_with fail
        refine wp_region_lex (fun W => W.cell? ⟨w.heap.size, 0, none⟩ = some (.int .i64 n.k) ∧ W.cell? ⟨w.heap.size, 1, none⟩ = some (.slice (some ⟨b, o, none⟩) N c) ∧ W.cell? ⟨b, o + k, none⟩ = some (.string (bs x))) (by kernel_rfl) (by kernel_rfl) ⟨(HD.out _ (below_drew (Below.refl _ _))).1, (HD.out _ (below_drew (Below.refl _ _))).2, HCK.out _ (below_drew (Below.refl _ _))⟩ ?_
        (repeat (first | (refine lex_skip (by rfl) ?_; try simp only [Act.put, List.setIfInBounds_toArray, List.set_cons_zero, List.set_cons_succ]) | (refine lex_read (v := ?_) (by rfl) ?_ ?_; rotate_left; (focus (intro w' hS'; go_simp; (try with_reducible rfl); done)); try simp only [Act.put, List.setIfInBounds_toArray, List.set_cons_zero, List.set_cons_succ])))
        refine lex_chain (by rfl) (by rfl) (fun K hK => ?_)
        go_wp2_with fail
        refine KL.out.mono ?_
        rintro e9 w2 ⟨rfl, hb⟩
        have HB2 := hide (bel_trans (below_drew (Below.refl _ wr)) hb)
        clear KL hb
        refine hK.out _ _ ⟨(HD.out _ HB2.out).1, (HD.out _ HB2.out).2, HCK.out _ HB2.out⟩ ?_
        clear hK
        (repeat (first | (refine lex_skip (by rfl) ?_; try simp only [Act.put, List.setIfInBounds_toArray, List.set_cons_zero, List.set_cons_succ]) | (refine lex_read (v := ?_) (by rfl) ?_ ?_; rotate_left; (focus (intro w' hS'; go_simp; (try with_reducible rfl); done)); try simp only [Act.put, List.setIfInBounds_toArray, List.set_cons_zero, List.set_cons_succ])))
        refine lex_nil ?_
        go_wp2
        go_ret
        exact bel_bool HF.out (bel_trans HB1.out (bel_trans HB.out HB2.out))
    · obtain rfl : k = N := by omega
      have HF := hide (valid_end (n := n) (by have := HT.out; rw [HN.out, List.take_length] at this; exact this))
      rw [← HN.out] at HF
      clear HT
      by_cases h0 : (1 : Int) ≤ (k : Int)
      · have hd : (decide (0 < k) && decide (k ≤ 6)) = decide ((k : Int) ≤ 6) := by
          rw [decide_eq_true (show 0 < k by omega), Bool.true_and]
          exact decide_eq_decide.2 (by omega)
        rw [hd] at HF
        go_wp2
        go_ret
        exact bel_bool HF.out (bel_trans HB1.out HB.out)
      · have hd : (decide (0 < k) && decide (k ≤ 6)) = false := by
          rw [decide_eq_false (show ¬ 0 < k by omega), Bool.false_and]
        rw [hd] at HF
        go_wp2
        go_ret
        exact bel_bool HF.out (bel_trans HB1.out HB.out)
theorem rtitle_any (k : Int) (w : World) : Calls Tryd.prog 34 #[.int .i64 k] w (BelowRet w (.string (bs (title k ++ [58])))) := by
  by_cases h1 : k = 1
  · subst h1
    have HE := hide (show (⟨#[112, 108, 97, 105, 110, 58]⟩ : ByteArray) = bs (title 1 ++ [58]) from rfl)
    go_enter Tryd.func34, Tryd.ntmps34
    go_wp2
    go_ret
    exact bel_str HE.out (Below.refl _ _)
  by_cases h2 : k = 2
  · subst h2
    have HE := hide (show (⟨#[99, 97, 115, 101, 100, 58]⟩ : ByteArray) = bs (title 2 ++ [58]) from rfl)
    go_enter Tryd.func34, Tryd.ntmps34
    go_wp2
    go_ret
    exact bel_str HE.out (Below.refl _ _)
  by_cases h3 : k = 3
  · subst h3
    have HE := hide (show (⟨#[97, 98, 106, 97, 100, 58]⟩ : ByteArray) = bs (title 3 ++ [58]) from rfl)
    go_enter Tryd.func34, Tryd.ntmps34
    go_wp2
    go_ret
    exact bel_str HE.out (Below.refl _ _)
  have HE := hide (show (⟨#[115, 121, 108, 108, 97, 98, 58]⟩ : ByteArray) = bs (title k ++ [58]) by unfold title; rw [if_neg h1, if_neg h2, if_neg h3]; rfl)
  have t1 : (k == 1) = false := by simpa using h1
  have t2 : (k == 2) = false := by simpa using h2
  have t3 : (k == 3) = false := by simpa using h3
  go_enter Tryd.func34, Tryd.ntmps34
  go_wp2
  go_ret
  exact bel_str HE.out (Below.refl _ _)
end Go.Proofs.YtcgmikpmbomliaaDoor
namespace Go.Proofs.YtcgmikpmbomliaaDoor
open Go.RowKit Go.CH Go.CH.Scr
open Go.ChangeMaps (setBlock)
theorem join_snoc : ∀ (l : List Bs) (x : Bs), l ≠ [] → Scr.join (l ++ [x]) = Scr.join l ++ 32 :: x
  | [], x, h => absurd rfl h
  | [w], x, _ => rfl
  | w :: v :: ws, x, _ => by
    show w ++ 32 :: Scr.join (v :: (ws ++ [x])) = (w ++ 32 :: Scr.join (v :: ws)) ++ 32 :: x
    rw [show v :: (ws ++ [x]) = (v :: ws) ++ [x] from rfl, join_snoc (v :: ws) x (by simp)]
    simp
theorem bytes_take (ws : List Bs) (k : Nat) : Scr.bytes (ws.take k) ≤ Scr.bytes ws := by
  induction ws generalizing k with
  | nil => simp
  | cons x xs ih =>
    cases k with
    | zero => simp [Scr.bytes]
    | succ k => simp [Scr.bytes]; exact ih k
theorem join_le (ws : List Bs) : (Scr.join ws).length ≤ Scr.bytes ws := by
  by_cases h : ws = []
  · subst h; exact Nat.zero_le _
  · have := join_len ws h; omega
/-- The text so far. -/
def txtK (n : NameM) (k : Nat) : ByteArray := bs (title n.k ++ 58 :: Scr.join (n.ws.take k))
theorem txtK_size (n : NameM) (k : Nat) (hb : Scr.bytes n.ws ≤ 10000000) : (txtK n k).size ≤ 10000010 := by
  have h1 := join_le (n.ws.take k)
  have h2 := bytes_take n.ws k
  have h3 := title_len n.k
  unfold txtK
  rw [bs_size]
  simp only [List.length_append, List.length_cons]
  omega
theorem txtK_zero (n : NameM) : bs (title n.k ++ [58]) = txtK n 0 := rfl
theorem txtK_one {n : NameM} (h : 0 < n.ws.length) : txtK n 0 ++ bs n.ws[0] = txtK n 1 := by
  refine bl_inj ?_
  unfold txtK
  have e : n.ws.take 1 = [n.ws[0]] := by
    have := List.take_succ_eq_append_getElem (l := n.ws) (i := 0) h
    simpa using this
  rw [e]
  simp [bl, bs, Scr.join]
theorem txtK_next {n : NameM} {k : Nat} (h : k < n.ws.length) (h0 : 0 < k) : (txtK n k ++ ⟨#[32]⟩) ++ bs n.ws[k] = txtK n (k + 1) := by
  refine bl_inj ?_
  unfold txtK
  rw [List.take_succ_eq_append_getElem h, join_snoc _ _ (by intro e; have := congrArg List.length e; rw [List.length_take, List.length_nil] at this; omega)]
  simp [bl, bs]
theorem txtK_all (n : NameM) : txtK n n.ws.length = bs (textN n) := by unfold txtK; rw [List.take_length]; rfl
theorem bytes_get {ws : List Bs} {k : Nat} (h : k < ws.length) : ws[k].length ≤ Scr.bytes ws := by
  induction ws generalizing k with
  | nil => cases h
  | cons x xs ih =>
    cases k with
    | zero => simp [Scr.bytes]; omega
    | succ k => have := ih (k := k) (by simpa using h); simp [Scr.bytes]; omega
theorem tup_ok {w w' : World} {a b : ByteArray} {x : Bs × Int} (hx : x.2 = 0) (ha : bs x.1 = a) (hb : Below w.heap.size w w') : BelowRet w (.tuple #[.string (bs x.1), .int .i64 x.2]) (.returned (.tuple #[.string a, .int .i64 0])) w' := ⟨by rw [hx, ha], hb⟩
set_option maxRecDepth 100000 in
set_option maxHeartbeats 3200000 in
theorem rtext_any {w : World} {n : NameM} {A : Option Addr} {c : Nat} (hA : Vst w A n.ws) (hl : n.ws.length ≤ 1000000) (hw : ∀ x ∈ n.ws, x.length ≤ 1000000) (hb : Scr.bytes n.ws ≤ 10000000) :
    Calls Tryd.prog 19 #[nmV n A c] w (BelowRet w (.tuple #[.string (bs (txtN n).1), .int .i64 (txtN n).2])) := by
  have HA := hide hA
  have hb1 : Below w.heap.size w (w.alloc (.cells #[.int .i64 n.k, .slice A n.ws.length c] 24)) := (Below.refl _ w).alloc (Nat.le_refl _) _
  have HB1 := hide hb1
  have HC0 := hide (box_cells w n.k A n.ws.length c)
  have KV := hide (rvalid_any (c := c) (hA.below hb1) hl hw)
  obtain ⟨d0, d1⟩ := HC0.out _ (Below.refl _ _)
  by_cases hv : validN n = true
  · have e1 : txtN n = (textN n, 0) := by unfold txtN; rw [if_pos hv]
    have HE := hide e1
    obtain ⟨N, hN⟩ : ∃ N, N = n.ws.length := ⟨_, rfl⟩
    have HN := hide hN
    have HSZ := hide (fun k => txtK_size n k hb)
    have HGET := hide (fun k (h : k < n.ws.length) => show (bs n.ws[k]).size ≤ 10000000 by rw [bs_size]; exact Nat.le_trans (bytes_get h) hb)
    have KT := hide (fun W => rtitle_any n.k W)
    rw [txtK_zero] at KT
    rw [hv] at KV
    unfold nmV at KV ⊢
    rw [← hN] at hl d0 d1 HC0 HB1 KV ⊢
    clear hA hw hb1 hN hv e1 hb
    go_enter Tryd.func19, Tryd.ntmps19
    go_wp2_with fail
    refine KV.out.mono ?_
    rintro e9 w2 ⟨rfl, hb⟩
    have HB2 := hide hb
    obtain ⟨c0, c1⟩ := HC0.out _ hb
    have KT2 := hide (KT.out w2)
    clear KV hb d0 d1 KT
    go_wp2_with fail
    refine KT2.out.mono ?_
    rintro e9 w3 ⟨rfl, hb⟩
    have HB3 := hide (bel_trans HB2.out hb)
    clear KT2 hb HB2 c0 c1
    go_wp2
    go_loopw [4, 5] (fun t i wr => ∃ k : Nat, k ≤ N ∧ i = .int .i64 k ∧ t = .string (txtK n k) ∧ Below (w.alloc (.cells #[.int .i64 n.k, .slice A N c] 24)).heap.size (w.alloc (.cells #[.int .i64 n.k, .slice A N c] 24)) wr) (fun _ i _ => N - (intOf i).toNat)
    case atStart => exact ⟨0, Nat.zero_le _, rfl, rfl, HB3.out⟩
    case round =>
      obtain ⟨k, hk, rfl, rfl, hb⟩ := hrel
      have HB := hide hb
      obtain ⟨d0, d1⟩ := HC0.out _ hb
      clear hb HB3
      by_cases hlt : k < N
      · have hkn : k < n.ws.length := by rw [← HN.out]; exact hlt
        obtain ⟨b, o, rfl, hc⟩ := HA.out.at (by omega)
        have ck := hc _ (bel_trans HB1.out HB.out) k hkn
        have hs1 := HSZ.out k
        have hs2 := HGET.out k hkn
        by_cases h0 : k = 0
        · subst h0
          have HNX := hide (txtK_one hkn)
          simp only [Nat.add_zero] at ck
          generalize bs n.ws[0] = x at *
          generalize txtK n 0 = t0 at *
          have hsum : ¬ 9223372036854775807 < t0.size + x.size := by omega
          clear hc hkn
          go_wp2
          go_roundw
          case rel => exact ⟨1, by omega, by go_num, by rw [HNX.out], HB.out⟩
          case measure => simp [intOf]; omega
        · have HNX := hide (txtK_next hkn (by omega))
          have hk0 : (0 : Int) < (k : Int) := by omega
          generalize bs n.ws[k] = x at *
          generalize txtK n k = t0 at *
          have hsum : ¬ 9223372036854775807 < t0.size + 1 := by omega
          have hsum2 : ¬ 9223372036854775807 < t0.size + 1 + x.size := by omega
          clear hc hkn h0
          go_wp2
          go_roundw
          case rel => exact ⟨k + 1, by omega, by go_num, by rw [HNX.out], HB.out⟩
          case measure => simp [intOf]; omega
      · obtain rfl : k = N := by omega
        have HF := hide (show bs (txtN n).1 = txtK n k by rw [HE.out, HN.out, txtK_all])
        have HF2 := hide (show (txtN n).2 = 0 by rw [HE.out])
        generalize txtK n k = t0 at *
        go_wp2
        refine bodyPost_ret (results_tmp2 rfl _ _ _) rfl ?_
        exact tup_ok (b := t0) HF2.out HF.out (bel_trans HB1.out HB.out)
  · have e1 : txtN n = ([], 1) := by unfold txtN; rw [if_neg hv]
    have hv : validN n = false := by simpa using hv
    rw [hv] at KV
    rw [e1]
    unfold nmV at KV ⊢
    clear hv e1 hA hb1 hw hb
    generalize n.ws.length = N at *
    go_enter Tryd.func19, Tryd.ntmps19
    go_wp2_with fail
    refine KV.out.mono ?_
    rintro e9 w2 ⟨rfl, hb⟩
    have HB := hide hb
    clear KV hb d0 d1
    go_wp2
    refine bodyPost_ret (results_tmp2 rfl _ _ _) rfl ?_
    exact ⟨rfl, bel_trans HB1.out HB.out⟩
end Go.Proofs.YtcgmikpmbomliaaDoor
namespace Go.Proofs.YtcgmikpmbomliaaDoor
open Go.RowKit Go.CH Go.CH.Scr
open Go.ChangeMaps (setBlock)
theorem bytsOk : SliceOk Tryd.prog 51 5 (.int .u8 0) 1 1 := ⟨by kernel_rfl, by kernel_rfl, by decide, by decide⟩
def bytB (l : Bs) : List Value := l.map fun b => .int .u8 b.toNat
theorem bytB_one (l : Bs) : ∀ u ∈ bytB l, u.oneCell' = true := by
  intro u hu
  obtain ⟨b, _, rfl⟩ := List.mem_map.1 hu
  rfl
def BytO (A : Option Addr) (c : Nat) (l : Bs) : CH.Own := RowO 5 1 (.slice A l.length c) l.length (bytB l)
theorem byt_ok {A : Option Addr} {c : Nat} {l : Bs} : (BytO A c l).Ok := row_ok
theorem byt_snoc {A : Option Addr} {c : Nat} {l : Bs} {x : UInt8} : RowO 5 1 (.slice A (l.length + 1) c) (l.length + 1) (bytB l ++ [.int .u8 x.toNat]) = BytO A c (l ++ [x]) := by
  have e : bytB (l ++ [x]) = bytB l ++ [.int .u8 x.toNat] := by simp [bytB]
  unfold BytO
  rw [e, List.length_append, List.length_singleton]
theorem app_byt {F0 : Nat → Prop} {w0 W : World} {Y : CH.Own} {ops : Array Oper} {rest : List Oper} {o : Oper} {a : Act} {Q : Exit → Act → World → Prop} (hgd : o.guard = none) (s x : Operand)
    (ho : o.op = .call { callee := .builtin .append, args := #[s, x], argTypes := #[51, 51] }) {A : Option Addr} {c n : Nat} {l : Bs} {i : UInt8} {v : Value} (hv : v = .int .u8 i.toNat) (hl : l.length = n) (hsv : a.eval s = .slice A n c) (hx : a.eval x = .slice (some ⟨W.heap.size, 0, none⟩) 1 1) (hn : n ≤ 1000000) (hY : Y.Ok)
    (h : Run F0 w0 (star (BytO A c l) Y) W)
    (hK : ∀ A' c' w', Run F0 w0 (star (BytO A' c' (l ++ [i])) Y) w' → wpList Tryd.prog ops Q rest (a.put o.dst (.slice A' (n + 1) c')) w') : wpList Tryd.prog ops Q (o :: rest) a (W.alloc (.cells #[v] 5)) := by
  subst hl hv
  obtain ⟨F7, hR7, -, bk7⟩ := (h.below (star_ok byt_ok hY) ((Below.refl _ _).alloc (Nat.le_refl _) (.cells #[.int .u8 i.toNat] 5))).take byt_ok hY
  refine wpList_appX hgd s x ho bytsOk _ 0 (v := .slice A l.length c) (n := l.length) (xs := bytB l) hsv hR7.1 (A := some ⟨W.heap.size, 0, none⟩) (m := 1) (c := 1) (news := [.int .u8 i.toNat]) hx (src_lit1 W _ 5 rfl) (by unfold maxLen; omega) (by omega) (Nat.zero_le _) ?_
  intro v8 w8 ho8 hg8 hv8
  have S8 := bk7 _ _ (row_app hR7 ho8 hg8 hv8)
  obtain ⟨A8, c8, rfl⟩ := own_form ho8
  rw [byt_snoc] at S8
  exact hK A8 c8 w8 S8
theorem conv_byt {F0 : Nat → Prop} {w0 W : World} {A : Option Addr} {c n : Nat} {l : Bs} (h : Run F0 w0 (star (BytO A c l) emp) W) (hn : l.length = n) :
    (convert 51 9 (.slice A n c)).run Tryd.prog W = .ok (.string (bs l)) W := by
  subst hn
  obtain ⟨F, hF⟩ := h.fst
  have hs := row_src hF (bytB_one l)
  have u51 : Tryd.prog.underlying 51 = some (.slice 5) := bytsOk.1
  have u5 : Tryd.prog.underlying 5 = some (.int .u8) := by kernel_rfl
  cases A with
  | none =>
    have hl : l = [] := by
      rcases Nat.eq_zero_or_pos l.length with h0 | h0
      · exact List.eq_nil_of_length_eq_zero h0
      · obtain ⟨ad, e, _⟩ := hs.2.2 h0
        cases e
    subst hl
    rw [run_convert_bytes_nil W 51 5 u51 u5 _ _ 9 Tryd.underlying9]; rfl
  | some ad =>
    refine run_convert_bytes_back W 51 9 5 ad c l u51 u5 Tryd.underlying9 (fun j hj => ?_)
    exact hs.cells rfl j _ (by unfold bytB; rw [List.getElem?_map, List.getElem?_eq_getElem hj]; rfl)
theorem byt_start (w : World) : Run (fun _ => False) w (star (BytO (some ⟨w.heap.size, 0, none⟩) 0 []) emp) (w.alloc (.cells #[] 5)) :=
  (Run.begin w).fresh emp_ok (row_made w 5 1)
theorem low_up {x : UInt8} (h : 65 ≤ x.toNat ∧ x.toNat ≤ 90) : (x.toNat : Int) + 32 = (low x).toNat := by
  have h1 : (65 : UInt8) ≤ x ∧ x ≤ 90 := ⟨UInt8.le_iff_toNat_le.2 h.1, UInt8.le_iff_toNat_le.2 h.2⟩
  unfold low
  rw [if_pos h1, UInt8.toNat_add]
  show (x.toNat : Int) + 32 = (((x.toNat + 32) % 256 : Nat) : Int)
  rw [Nat.mod_eq_of_lt (by omega)]
  omega
theorem low_same {x : UInt8} (h : ¬ (65 ≤ x.toNat ∧ x.toNat ≤ 90)) : low x = x := by
  unfold low
  rw [if_neg]
  rintro ⟨h1, h2⟩
  exact h ⟨UInt8.le_iff_toNat_le.1 h1, UInt8.le_iff_toNat_le.1 h2⟩
theorem lower_next {l : Bs} {k : Nat} {x : UInt8} (h : l[k]? = some x) : lower (l.take k) ++ [low x] = lower (l.take (k + 1)) := by
  obtain ⟨h1, h2⟩ := List.getElem?_eq_some_iff.1 h
  rw [List.take_succ_eq_append_getElem h1, h2]
  simp [lower]
theorem lower_len (l : Bs) : (lower l).length = l.length := by simp [lower]
set_option maxRecDepth 100000 in
set_option maxHeartbeats 3200000 in
theorem rfold_any (k : Int) (s : ByteArray) (w : World) (hs : s.size ≤ 1000000) :
    Calls Tryd.prog 17 #[.int .i64 k, .string s] w (BelowRet w (.tuple #[.string (bs (foldN k (bl s)).1), .int .i64 (foldN k (bl s)).2])) := by
  have KW := hide (rWord_any k s w hs)
  cases hw : word k (bl s) with
  | false =>
    have e2 : foldN k (bl s) = ([], 1) := by unfold foldN; rw [hw]; rfl
    rw [hw] at KW
    rw [e2]
    clear hw e2
    go_enter Tryd.func17, Tryd.ntmps17
    go_wp2_with fail
    refine KW.out.mono ?_
    rintro e9 w1 ⟨rfl, hb⟩
    have HB := hide hb
    clear KW hb
    go_wp2
    refine bodyPost_ret (results_tmp2 rfl _ _ _) rfl ?_
    exact ⟨rfl, HB.out⟩
  | true =>
    have e2 : foldN k (bl s) = (lower (bl s), 0) := by unfold foldN; rw [hw]; rfl
    have HE := hide e2
    rw [hw] at KW
    clear hw e2
    go_enter Tryd.func17, Tryd.ntmps17
    go_wp2_with fail
    refine KW.out.mono ?_
    rintro e9 w1 ⟨rfl, hb⟩
    have HB := hide hb
    have S0 := hide (byt_start w1)
    clear KW hb
    go_wp2
    generalize w1.alloc (.cells #[] 5) = w2 at *
    go_loopw [6, 7] (fun v i wr => ∃ (j : Nat) (A : Option Addr) (c : Nat), j ≤ s.size ∧ v = .slice A j c ∧ i = .int .i64 (j : Int) ∧ Run (fun _ => False) w1 (star (BytO A c (lower ((bl s).take j))) emp) wr) (fun _ i _ => s.size - (intOf i).toNat)
    case atStart => exact ⟨0, _, 0, Nat.zero_le _, rfl, rfl, by rw [List.take_zero]; exact S0.out⟩
    case round =>
      obtain ⟨j, A, c, hj, rfl, rfl, hR⟩ := hrel
      have HR := hide hR
      clear hR S0
      have hll : (lower ((bl s).take j)).length = j := by rw [lower_len, List.length_take, bl_len]; omega
      have HLL := hide hll
      by_cases hlt : (j : Int) < (s.size : Int)
      · have hpl : j < s.size := by omega
        obtain ⟨x, hx⟩ : ∃ x : UInt8, s[j] = x := ⟨_, rfl⟩
        have HNX := hide (lower_next (show (bl s)[j]? = some x by rw [bl_at s j hpl, hx]))
        have hx256 := x.toNat_lt
        clear hll
        by_cases h1 : (65 : Int) ≤ (x.toNat : Int)
        · by_cases h2 : (x.toNat : Int) ≤ 90
          · have HLO := hide (low_up (x := x) (by omega))
            go_wp2_with (at_builtin; refine held ?_)
            refine Held.mk (app_byt rfl (.tmp 31) (.tmp 33) rfl (i := low x) (by rw [← HLO.out]) HLL.out rfl rfl (by omega) emp_ok HR.out ?_)
            intro A' c' w3 hw3
            rw [HNX.out] at hw3
            have HW3 := hide hw3
            clear hw3 HR HNX HLO
            go_wp2
            go_roundw
            case rel => exact ⟨j + 1, A', c', by omega, rfl, by go_num, HW3.out⟩
            case measure => simp [intOf]; omega
          · have HLO := hide (low_same (x := x) (by omega))
            go_wp2_with (at_builtin; refine held ?_)
            refine Held.mk (app_byt rfl (.tmp 31) (.tmp 33) rfl (i := low x) (by rw [HLO.out]) HLL.out rfl rfl (by omega) emp_ok HR.out ?_)
            intro A' c' w3 hw3
            rw [HNX.out] at hw3
            have HW3 := hide hw3
            clear hw3 HR HNX HLO
            go_wp2
            go_roundw
            case rel => exact ⟨j + 1, A', c', by omega, rfl, by go_num, HW3.out⟩
            case measure => simp [intOf]; omega
        · have HLO := hide (low_same (x := x) (by omega))
          go_wp2_with (at_builtin; refine held ?_)
          refine Held.mk (app_byt rfl (.tmp 31) (.tmp 33) rfl (i := low x) (by rw [HLO.out]) HLL.out rfl rfl (by omega) emp_ok HR.out ?_)
          intro A' c' w3 hw3
          rw [HNX.out] at hw3
          have HW3 := hide hw3
          clear hw3 HR HNX HLO
          go_wp2
          go_roundw
          case rel => exact ⟨j + 1, A', c', by omega, rfl, by go_num, HW3.out⟩
          case measure => simp [intOf]; omega
      · obtain rfl : j = s.size := by omega
        have HF := hide (show foldN k (bl s) = (lower ((bl s).take s.size), 0) by rw [HE.out, ← bl_len, List.take_length])
        have hcv := conv_byt HR.out hll
        have HM := hide (bel_trans HB.out HR.out.bel)
        clear hll HE HR
        generalize lower ((bl s).take s.size) = r at *
        go_wp2
        refine bodyPost_ret (results_tmp2 rfl _ _ _) rfl ?_
        exact ⟨by rw [HF.out]; rfl, HM.out⟩
end Go.Proofs.YtcgmikpmbomliaaDoor
namespace Go.Proofs.YtcgmikpmbomliaaDoor
open Go.RowKit Go.CH Go.CH.Scr
open Go.ChangeMaps (setBlock)
theorem sho_ex {W : World} {l : List Bs} {cs : Array Value} {n : Nat} (h : cs = (strB l).toArray) (hn : l.length = n) (hl : n ≤ 1000000) {r : Bool} (hr : fewB 200 l = r) :
    Calls Tryd.prog 13 #[.slice (some ⟨W.heap.size, 0, none⟩) n n] (W.alloc (.cells cs 9)) (BelowRet (W.alloc (.cells cs 9)) (.bool r)) := by
  subst hn hr
  exact short_any (vst_lit W l cs h) hl
theorem few_one {s : ByteArray} (h : fewB 200 [bl s] = true) : s.size ≤ 200 := by
  rw [← bl_len]
  simpa [fewB] using h
theorem few_two {s t : ByteArray} (h : fewB 200 [bl s, bl t] = true) : s.size ≤ 200 ∧ t.size ≤ 200 := by
  rw [← bl_len, ← bl_len]
  simpa [fewB] using h
theorem bel_new {w w' : World} (o : Obj) (h : Below w.heap.size w w') : Below w.heap.size w (w'.alloc o) := h.alloc h.size o
theorem ltrs_N {k : Int} {l : Bs} (h : word k l = true) : lettersN k l = ((ltrs k l).1, 0) := by unfold lettersN; rw [if_pos h]
theorem ltrs_no {k : Int} {l : Bs} (h : word k l = false) : lettersN k l = ([], 1) := by unfold lettersN; rw [h]; rfl
theorem ltr_get {k : Int} {l : Bs} {i : Nat} (hi : i < (ltrs k l).1.length) : lettersN k (ltrs k l).1[i] = ([(ltrs k l).1[i]], 0) := by
  have h := ltrs_each (k := k) l _ (List.getElem_mem hi)
  rw [ltrs_N (letter_word h), h]
theorem ltr_size {k : Int} {l : Bs} {i : Nat} (hi : i < (ltrs k l).1.length) : (ltrs k l).1[i].length ≤ l.length := by
  have h1 := ltrs_join (k := k) l
  have h2 : (ltrs k l).1[i].length ≤ (ltrs k l).1.flatten.length := (List.sublist_flatten_of_mem (List.getElem_mem hi)).length_le
  have h3 := congrArg List.length h1
  rw [List.length_append] at h3
  omega
set_option maxRecDepth 100000 in
set_option maxHeartbeats 3200000 in
theorem law_letters (k : Int) (s : ByteArray) (w : World) (hz : LZ w) : Calls Tryd.prog 4 #[.int .i64 k, .string s] w (BelowRet w (.bool true)) := by
  have HZ := hide hz
  have KH := hide (head_any w hz)
  have KS := hide (fun (W : World) => sho_ex (W := W) (l := [bl s]) (cs := #[.string s]) (n := 1) (by simp [strB, bs_bl]) rfl (by omega) rfl)
  clear hz
  cases hf : fewB 200 [bl s] with
  | false =>
    rw [hf] at KS
    clear hf
    go_enter Tryd.func4, Tryd.ntmps4
    go_wp2_with fail
    refine KH.out.mono ?_
    rintro e9 w1 ⟨rfl, hb⟩
    have B1 := hide hb
    clear KH hb
    go_wp2_with fail
    refine (KS.out w1).mono ?_
    rintro e9 w2 ⟨rfl, hb⟩
    have B2 := hide (bel_trans (bel_new _ B1.out) hb)
    clear KS hb
    go_wp2
    go_ret
    exact ⟨rfl, B2.out⟩
  | true =>
    have hs := few_one hf
    rw [hf] at KS
    clear hf
    cases hw : word k (bl s) with
    | false =>
      have KL := hide (fun W hz => ltr_ex k s (ltrs_no hw) (n := 0) rfl (by omega) W hz)
      clear hw
      go_enter Tryd.func4, Tryd.ntmps4
      go_wp2_with fail
      refine KH.out.mono ?_
      rintro e9 w1 ⟨rfl, hb⟩
      have B1 := hide hb
      clear KH hb
      go_wp2_with fail
      refine (KS.out w1).mono ?_
      rintro e9 w2 ⟨rfl, hb⟩
      have B2 := hide (bel_trans (bel_new _ B1.out) hb)
      clear KS hb
      go_wp2_with fail
      refine (KL.out w2 (HZ.out.below B2.out)).mono ?_
      rintro e9 w3 ⟨A, c, rfl, hb, -⟩
      have B3 := hide (bel_trans B2.out hb)
      clear KL hb
      go_wp2
      go_ret
      exact ⟨rfl, B3.out⟩
    | true =>
      have hw1 := word_iff.1 hw
      have KL := hide (fun W hz => ltr_ex k s (ltrs_N hw) rfl (by omega) W hz)
      have HJ := hide (show bs (ltrs k (bl s)).1.flatten = s by rw [word_join hw, bs_bl])
      have HFL := hide (show (ltrs k (bl s)).1.flatten.length ≤ 1000000 by rw [word_join hw, bl_len]; omega)
      have HG := hide (fun i (hi : i < (ltrs k (bl s)).1.length) => ltr_get hi)
      have HGS := hide (fun i (hi : i < (ltrs k (bl s)).1.length) => show (bs (ltrs k (bl s)).1[i]).size ≤ 1000000 by rw [bs_size]; have := ltr_size hi; rw [bl_len] at this; omega)
      have h1 : 1 ≤ (ltrs k (bl s)).1.length := hw1.2.1
      have h2 : (ltrs k (bl s)).1.length ≤ 12 := hw1.2.2
      clear hw hw1
      generalize (ltrs k (bl s)).1 = xs at *
      obtain ⟨n, hn⟩ : ∃ n, n = xs.length := ⟨_, rfl⟩
      have HN := hide hn
      rw [← hn] at h1 h2 KL
      clear hn
      have i1 : ¬ (n : Int) < 1 := by omega
      have i2 : ¬ (12 : Int) < (n : Int) := by omega
      go_enter Tryd.func4, Tryd.ntmps4
      go_wp2_with fail
      refine KH.out.mono ?_
      rintro e9 w1 ⟨rfl, hb⟩
      have B1 := hide hb
      clear KH hb
      go_wp2_with fail
      refine (KS.out w1).mono ?_
      rintro e9 w2 ⟨rfl, hb⟩
      have B2 := hide (bel_trans (bel_new _ B1.out) hb)
      clear KS hb
      go_wp2_with fail
      refine (KL.out w2 (HZ.out.below B2.out)).mono ?_
      rintro e9 w3 ⟨A, c, rfl, hb, hv⟩
      have B3 := hide (bel_trans B2.out hb)
      have V3 := hide hv
      have KU := hide (sum_any (c := c) hv (by rw [← HN.out]; omega) HFL.out)
      rw [HJ.out, ← HN.out] at KU
      clear KL hb hv B2
      go_wp2_with fail
      refine KU.out.mono ?_
      rintro e9 w4 ⟨rfl, hb⟩
      have B4 := hide (bel_trans B3.out hb)
      have V4 := hide (V3.out.below hb)
      clear KU hb B3 V3
      go_wp2
      go_loopw [8] (fun i wr => ∃ j : Nat, j ≤ n ∧ i = .int .i64 (j : Int) ∧ Below w4.heap.size w4 wr) (fun i _ => n - (intOf i).toNat)
      case atStart => exact ⟨0, Nat.zero_le _, rfl, Below.refl _ _⟩
      case round =>
        obtain ⟨j, hj, rfl, hb⟩ := hrel
        have B5 := hide (bel_trans B4.out hb)
        have V5 := hide (V4.out.below hb)
        have HB := hide hb
        clear hb
        by_cases hlt : j < n
        · have hjx : j < xs.length := by rw [← HN.out]; exact hlt
          obtain ⟨b, o, rfl, hc⟩ := V5.out.at (by omega)
          have ck := hc _ (Below.refl _ _) j hjx
          have CK := hide (fun W (h : Below wr.heap.size wr W) => hc W h j hjx)
          have KO := hide (ltr_ex k (bs xs[j]) (r := [xs[j]]) (x := 0) (n := 1) (by rw [bl_bs]; exact HG.out j hjx) rfl (HGS.out j hjx) wr (HZ.out.below B5.out))
          clear hc HG HGS
          generalize xs[j] = x at *
          clear hjx
          go_wp2_with fail
          refine KO.out.mono ?_
          rintro e9 w6 ⟨A6, c6, rfl, hb, hv⟩
          have B6 := hide (bel_trans HB.out hb)
          have CK6 := hide (CK.out _ (below_drew hb))
          obtain ⟨b6, o6, rfl, hc6⟩ := hv.at (by show 0 < 1; omega)
          have C6 := hide (show w6.drew.cell? ⟨b6, o6, none⟩ = some (.string (bs x)) from hc6 _ (below_drew (Below.refl _ _)) 0 (by show 0 < 1; omega))
          clear KO hb hv hc6 CK ck
          go_wp2_with fail
          refine wp_region_lex (fun W => W.cell? ⟨b, o + j, none⟩ = some (.string (bs x)) ∧ W.cell? ⟨b6, o6, none⟩ = some (.string (bs x))) (by kernel_rfl) (by kernel_rfl) ⟨CK6.out, C6.out⟩ ?_
          (repeat (first | (refine lex_skip (by rfl) ?_; try simp only [Act.put, List.setIfInBounds_toArray, List.set_cons_zero, List.set_cons_succ]) | (refine lex_read (v := ?_) (by rfl) ?_ ?_; rotate_left; (focus (intro w' hS'; go_simp; (try with_reducible rfl); done)); try simp only [Act.put, List.setIfInBounds_toArray, List.set_cons_zero, List.set_cons_succ])))
          refine lex_nil ?_
          go_wp2
          go_roundw
          case rel => exact ⟨j + 1, by omega, by go_num, below_drew B6.out⟩
          case measure => simp [intOf]; omega
        · go_wp2
          go_ret
          exact ⟨rfl, B5.out⟩
end Go.Proofs.YtcgmikpmbomliaaDoor
