/-
  Script: the length of the letter with which a text begins.
  Script: the reference's 'among'.
  Script: the reference's Length.
  Script: the iterator of letters.
  As Lew, with as many stages as one wants (a list of what is true behind each change).
  append, up to the room that a machine has.
-/
import Derived.Test.YtnppgomhhcbplaaGreatDoorPO6
import Derived.WalkKit
import Derived.OwnWalkIn
import Derived.TacticsInMore
import Derived.LoopNIn
import Derived.LoopIn
import Derived.Test.YtnppgomhhcbplaaGreatDoorPO4
set_option linter.unusedSimpArgs false
set_option linter.unusedVariables false
namespace Go.Proofs.YtnppgomhhcbplaaGreatDoor
open Go.RowKit Go.CH Go.CH.Scr
open Go.ChangeMaps (setBlock)
/-- The library's tables lie in the world. -/
structure LZ (w : World) : Prop where
  c : Lib.CaseVar 1 Lib.caseA w
  t : Lib.Utf8Tabs 2 3 w
  m : ∃ m, w.cell? ⟨0, 0, none⟩ = some (.int .i64 m)
theorem LZ.below {w w' : World} (h : LZ w) (hb : Below w.heap.size w w') : LZ w' := ⟨Lib.CaseVar_below h.c hb, Utf8Tabs_below h.t hb, h.m.imp fun _ h => by rw [hb.cell (World.block_lt_of_cell? _ _ h)]; exact h⟩
theorem len1_at (k : Int) (l : Bs) : len1 k l =
    if k = 1 then (if has smallS l[0]? then 1 else 0)
    else if k = 2 then (if has smallS (l[0]?.map low) then (if has accS l[1]? then 2 else 1) else 0)
    else if k = 3 then (if has abjS l[0]? then 1 else 0)
    else if k = 4 then (if has onsS l[0]? && has vowS l[1]? then 2 else if has vowS l[0]? || has [110] l[0]? then 1 else 0)
    else 0 := by
  cases l with
  | nil => simp [len1, has]
  | cons a t =>
    show lt2 k a t.head? = _
    have e : t.head? = (a :: t)[1]? := by cases t <;> rfl
    rw [e]; rfl
theorem len1_k1 (l : Bs) : len1 1 l = if has smallS l[0]? = true then 1 else 0 := by rw [len1_at]; rfl
theorem len1_k2 (l : Bs) : len1 2 l = if has smallS (l[0]?.map low) = true then (if has accS l[1]? = true then 2 else 1) else 0 := by rw [len1_at]; rfl
theorem len1_k3 (l : Bs) : len1 3 l = if has abjS l[0]? = true then 1 else 0 := by rw [len1_at]; rfl
theorem len1_k4 (l : Bs) : len1 4 l = if (has onsS l[0]? && has vowS l[1]?) = true then 2 else if (has vowS l[0]? || has [110] l[0]?) = true then 1 else 0 := by rw [len1_at]; rfl
theorem len1_k0 {k : Int} (l : Bs) (h1 : ¬ k = 1) (h2 : ¬ k = 2) (h3 : ¬ k = 3) (h4 : ¬ k = 4) : len1 k l = 0 := by rw [len1_at, if_neg h1, if_neg h2, if_neg h3, if_neg h4]
theorem low_lib (c : UInt8) : Lib.lowerB c = low c := by
  have key : ∀ n : Fin 256, Lib.lowerB (UInt8.ofNat n.val) = low (UInt8.ofNat n.val) := by decide +kernel
  have := key ⟨c.toNat, c.toNat_lt⟩
  simpa using this
theorem toLowerA_is (l : Bs) : Lib.toLowerA l = lower l := List.map_congr_left fun c _ => low_lib c
theorem decode_high (c : UInt8) (h : 128 ≤ c.toNat) : Lib.decodeL [c] = (65533, 1) := by
  have key : ∀ n : Fin 256, 128 ≤ n.val → Lib.decodeL [UInt8.ofNat n.val] = (65533, 1) := by decide +kernel
  have := key ⟨c.toNat, c.toNat_lt⟩ h
  simpa using this
theorem lower_err : Lib.toLowerU 65533 = 65533 := by decide +kernel
theorem encode_err : Lib.encodeRune 65533 = [239, 191, 189] := by decide +kernel
theorem has_high (c : UInt8) (h : 128 ≤ c.toNat) : has smallS (some (low c)) = false := by
  have key : ∀ n : Fin 256, 128 ≤ n.val → has smallS (some (low (UInt8.ofNat n.val))) = false := by decide +kernel
  have := key ⟨c.toNat, c.toNat_lt⟩ h
  simpa using this
theorem first_low (l : Bs) (hl : l.length ≤ 1) : has smallS (Lib.toLowerD l)[0]? = has smallS (l[0]?.map low) := by
  match l, hl with
  | [], _ => rfl
  | [c], _ =>
    by_cases hc : c.toNat < 128
    · rw [Lib.toLowerD_ascii [c] (fun b hb => by rw [List.mem_singleton.1 hb]; exact hc), toLowerA_is]; rfl
    · show has smallS (Lib.mapD Lib.toLowerU [c])[0]? = has smallS (some (low c))
      rw [has_high c (by omega), Lib.mapD_step _ _ (by simp), decode_high c (by omega)]
      rw [show (((65533, 1) : Nat × Nat).1 : Int) = 65533 from rfl, lower_err, if_pos (by decide), encode_err]
      rfl
theorem low_len (l : Bs) (hl : l.length ≤ 1) : (Lib.toLowerD l).length ≤ 10 := by
  match l, hl with
  | [], _ => decide
  | [c], _ =>
    by_cases hc : c.toNat < 128
    · rw [Lib.toLowerD_ascii [c] (fun b hb => by rw [List.mem_singleton.1 hb]; exact hc), toLowerA_is]; simp [lower]
    · show (Lib.mapD Lib.toLowerU [c]).length ≤ 10
      rw [Lib.mapD_step _ _ (by simp), decode_high c (by omega)]
      rw [show (((65533, 1) : Nat × Nat).1 : Int) = 65533 from rfl, lower_err, if_pos (by decide), encode_err]
      simp [Lib.mapD, Lib.mapGoD]
theorem bl_extract (s : ByteArray) (a b : Nat) : bl (s.extract a b) = ((bl s).take b).drop a := by
  simp [bl, ByteArray.data_extract, List.drop_take]
def LenRet (w : World) (k : Int) (l : Bs) (e : Ending) (w' : World) : Prop := e = .returned (.int .i64 (len1 k l : Nat)) ∧ Below w.heap.size w w'
theorem len_ret {w w' : World} {k : Int} {l : Bs} {n : Nat} (h : len1 k l = n) (hb : Below w.heap.size w w') : LenRet w k l (.returned (.int .i64 (n : Int))) w' := ⟨by rw [h], hb⟩
theorem len_ret0 {w w' : World} {k : Int} {l : Bs} (h : len1 k l = 0) (hb : Below w.heap.size w w') : LenRet w k l (.returned (.int .i64 0)) w' := ⟨by rw [h]; rfl, hb⟩
theorem len_ret1 {w w' : World} {k : Int} {l : Bs} (h : len1 k l = 1) (hb : Below w.heap.size w w') : LenRet w k l (.returned (.int .i64 1)) w' := ⟨by rw [h]; rfl, hb⟩
theorem len_ret2 {w w' : World} {k : Int} {l : Bs} (h : len1 k l = 2) (hb : Below w.heap.size w w') : LenRet w k l (.returned (.int .i64 2)) w' := ⟨by rw [h]; rfl, hb⟩
set_option maxRecDepth 100000 in
set_option maxHeartbeats 3200000 in
theorem length_any (k : Int) (s : ByteArray) (w : World) (hs : s.size ≤ 1000000) (hz : LZ w) :
    Calls Tryz.prog 105 #[.int .i64 k, .string s] w (LenRet w k (bl s)) := by
  have hs0 : s.size ≤ maxLen := by unfold maxLen; omega
  have HZ := hide hz
  clear hz
  by_cases hk : k = 1
  · subst hk
    have HE := hide (len1_k1 (bl s))
    have K1 := hide (show Calls Tryz.prog 124 #[.string s, .int .i64 0, .string ⟨#[97, 98, 99, 100, 101, 102, 103, 104, 105, 106, 107, 108, 109, 110, 111, 112, 113, 114, 115, 116, 117, 118, 119, 120, 121, 122]⟩] w (Quiet w (.bool (has smallS (bl s)[0]?))) from is_any s _ 0 w hs0)
    cases h1 : has smallS (bl s)[0]? with
    | false =>
      have HL := hide (show len1 1 (bl s) = 0 by rw [HE.out, h1]; rfl)
      rw [h1] at K1
      clear h1 HE
      go_enter Tryz.func105, Tryz.ntmps105
      go_wp2_with fail
      refine K1.out.mono ?_
      rintro e9 w9 ⟨rfl, rfl⟩
      clear K1
      go_wp2
      go_ret
      exact len_ret0 HL.out (Below.refl _ _)
    | true =>
      have HL := hide (show len1 1 (bl s) = 1 by rw [HE.out, h1]; rfl)
      rw [h1] at K1
      clear h1 HE
      go_enter Tryz.func105, Tryz.ntmps105
      go_wp2_with fail
      refine K1.out.mono ?_
      rintro e9 w9 ⟨rfl, rfl⟩
      clear K1
      go_wp2
      go_ret
      exact len_ret1 HL.out (Below.refl _ _)
  have hk1 := hk
  clear hk
  by_cases hk : k = 2
  · subst hk
    have HE := hide (len1_k2 (bl s))
    have K3 := hide (show ∀ W : World, Calls Tryz.prog 124 #[.string s, .int .i64 1, .string ⟨#[39, 96, 94]⟩] W (Quiet W (.bool (has accS (bl s)[1]?))) from fun W => is_any s _ 1 W hs0)
    have HTL := hide (fun (x : ByteArray) (hx : x.size ≤ 1) => Tryz.strings_ToLower_any x w (by omega) HZ.out.c HZ.out.t)
    have HIS := hide (fun (x : ByteArray) (W : World) (hx : x.size ≤ 10) => show Calls Tryz.prog 124 #[.string x, .int .i64 0, .string ⟨#[97, 98, 99, 100, 101, 102, 103, 104, 105, 106, 107, 108, 109, 110, 111, 112, 113, 114, 115, 116, 117, 118, 119, 120, 121, 122]⟩] W (Quiet W (.bool (has smallS (bl x)[0]?))) from is_any x _ 0 W (by unfold maxLen; omega))
    obtain ⟨x, hx⟩ : ∃ x, x = s.extract 0 (min 1 (s.size : Int)).toNat := ⟨_, rfl⟩
    have hxl : (bl x).length ≤ 1 ∧ (bl x)[0]? = (bl s)[0]? := by
      have h1 : bl x = (bl s).take 1 := by
        rw [hx, bl_extract, List.drop_zero]
        have h2 := bl_len s
        by_cases h0 : s.size = 0
        · have e0 : bl s = [] := List.eq_nil_of_length_eq_zero (by omega)
          rw [e0]; simp
        · rw [show (min 1 (s.size : Int)).toNat = 1 by omega]
      rw [h1]
      refine ⟨by rw [List.length_take]; omega, ?_⟩
      cases bl s <;> rfl
    have hxs : x.size ≤ 1 := by rw [← bl_len]; exact hxl.1
    have hyl : (Lib.toLowerD (bl x)).length ≤ 10 := low_len _ hxl.1
    have hfl := first_low (bl x) hxl.1
    rw [hxl.2] at hfl
    have KT0 := HTL.out x hxs
    have KI0 := fun W => HIS.out (bs (Lib.toLowerD (bl x))) W (by rw [bs_size]; exact hyl)
    simp only [bl_bs] at KI0
    rw [hfl] at KI0
    unfold bs at KI0
    generalize Lib.toLowerD (bl x) = y at KT0 KI0
    rw [hx] at KT0
    have KT := hide KT0
    have KI := hide KI0
    clear HTL HIS hxl hxs hyl hfl hx KT0 KI0
    cases h1 : has smallS ((bl s)[0]?.map low) with
    | false =>
      have HL := hide (show len1 2 (bl s) = 0 by rw [HE.out, h1]; rfl)
      rw [h1] at KI
      clear h1 HE K3
      go_enter Tryz.func105, Tryz.ntmps105
      go_wp2_with fail
      refine KT.out.mono ?_
      rintro e9 w1 ⟨rfl, hb⟩
      have HB := hide hb
      have KI2 := hide (KI.out w1)
      clear KT hb KI
      go_wp2_with fail
      refine KI2.out.mono ?_
      rintro e9 w9 ⟨rfl, rfl⟩
      clear KI2
      go_wp2
      go_ret
      exact len_ret0 HL.out HB.out
    | true =>
      rw [h1] at KI
      cases h2 : has accS (bl s)[1]? with
      | false =>
        have HL := hide (show len1 2 (bl s) = 1 by rw [HE.out, h1, h2]; rfl)
        rw [h2] at K3
        clear h1 h2 HE
        go_enter Tryz.func105, Tryz.ntmps105
        go_wp2_with fail
        refine KT.out.mono ?_
        rintro e9 w1 ⟨rfl, hb⟩
        have HB := hide hb
        have KI2 := hide (KI.out w1)
        have K4 := hide (K3.out w1)
        clear KT hb KI K3
        go_wp2_with fail
        refine KI2.out.mono ?_
        rintro e9 w9 ⟨rfl, rfl⟩
        clear KI2
        go_wp2_with fail
        refine K4.out.mono ?_
        rintro e9 w9 ⟨rfl, rfl⟩
        clear K4
        go_wp2
        go_ret
        exact len_ret1 HL.out HB.out
      | true =>
        have HL := hide (show len1 2 (bl s) = 2 by rw [HE.out, h1, h2]; rfl)
        rw [h2] at K3
        clear h1 h2 HE
        go_enter Tryz.func105, Tryz.ntmps105
        go_wp2_with fail
        refine KT.out.mono ?_
        rintro e9 w1 ⟨rfl, hb⟩
        have HB := hide hb
        have KI2 := hide (KI.out w1)
        have K4 := hide (K3.out w1)
        clear KT hb KI K3
        go_wp2_with fail
        refine KI2.out.mono ?_
        rintro e9 w9 ⟨rfl, rfl⟩
        clear KI2
        go_wp2_with fail
        refine K4.out.mono ?_
        rintro e9 w9 ⟨rfl, rfl⟩
        clear K4
        go_wp2
        go_ret
        exact len_ret2 HL.out HB.out
  have hk2 := hk
  clear hk
  by_cases hk : k = 3
  · subst hk
    have HE := hide (len1_k3 (bl s))
    have K1 := hide (show Calls Tryz.prog 124 #[.string s, .int .i64 0, .string ⟨#[98, 100, 102, 103, 104, 106, 107, 108, 109, 110, 112, 113, 114, 115, 116, 119, 120, 121, 122, 39]⟩] w (Quiet w (.bool (has abjS (bl s)[0]?))) from is_any s _ 0 w hs0)
    cases h1 : has abjS (bl s)[0]? with
    | false =>
      have HL := hide (show len1 3 (bl s) = 0 by rw [HE.out, h1]; rfl)
      rw [h1] at K1
      clear h1 HE
      go_enter Tryz.func105, Tryz.ntmps105
      go_wp2_with fail
      refine K1.out.mono ?_
      rintro e9 w9 ⟨rfl, rfl⟩
      clear K1
      go_wp2
      go_ret
      exact len_ret0 HL.out (Below.refl _ _)
    | true =>
      have HL := hide (show len1 3 (bl s) = 1 by rw [HE.out, h1]; rfl)
      rw [h1] at K1
      clear h1 HE
      go_enter Tryz.func105, Tryz.ntmps105
      go_wp2_with fail
      refine K1.out.mono ?_
      rintro e9 w9 ⟨rfl, rfl⟩
      clear K1
      go_wp2
      go_ret
      exact len_ret1 HL.out (Below.refl _ _)
  have hk3 := hk
  clear hk
  by_cases hk : k = 4
  · subst hk
    have HE := hide (len1_k4 (bl s))
    have K1 := hide (show Calls Tryz.prog 124 #[.string s, .int .i64 0, .string ⟨#[107, 115, 116, 110, 104, 109, 121, 114, 119, 103, 122, 100, 98, 112]⟩] w (Quiet w (.bool (has onsS (bl s)[0]?))) from is_any s _ 0 w hs0)
    have K2 := hide (show Calls Tryz.prog 124 #[.string s, .int .i64 1, .string ⟨#[97, 105, 117, 101, 111]⟩] w (Quiet w (.bool (has vowS (bl s)[1]?))) from is_any s _ 1 w hs0)
    have K3 := hide (show Calls Tryz.prog 124 #[.string s, .int .i64 0, .string ⟨#[97, 105, 117, 101, 111]⟩] w (Quiet w (.bool (has vowS (bl s)[0]?))) from is_any s _ 0 w hs0)
    have K4 := hide (show Calls Tryz.prog 124 #[.string s, .int .i64 0, .string ⟨#[110]⟩] w (Quiet w (.bool (has [110] (bl s)[0]?))) from is_any s _ 0 w hs0)
    cases h1 : has onsS (bl s)[0]? with
    | false =>
      rw [h1] at K1
      cases h3 : has vowS (bl s)[0]? with
      | false =>
        rw [h3] at K3
        cases h4 : has [110] (bl s)[0]? with
        | false =>
          have HL := hide (show len1 4 (bl s) = 0 by rw [HE.out, h1, h3, h4]; rfl)
          rw [h4] at K4
          clear HE h1 h3 h4
          go_enter Tryz.func105, Tryz.ntmps105
          go_wp2_with fail
          refine K1.out.mono ?_
          rintro e9 w9 ⟨rfl, rfl⟩
          clear K1
          clear K2
          go_wp2_with fail
          refine K3.out.mono ?_
          rintro e9 w9 ⟨rfl, rfl⟩
          clear K3
          go_wp2_with fail
          refine K4.out.mono ?_
          rintro e9 w9 ⟨rfl, rfl⟩
          clear K4
          go_wp2
          go_ret
          exact len_ret0 HL.out (Below.refl _ _)
        | true =>
          have HL := hide (show len1 4 (bl s) = 1 by rw [HE.out, h1, h3, h4]; rfl)
          rw [h4] at K4
          clear HE h1 h3 h4
          go_enter Tryz.func105, Tryz.ntmps105
          go_wp2_with fail
          refine K1.out.mono ?_
          rintro e9 w9 ⟨rfl, rfl⟩
          clear K1
          clear K2
          go_wp2_with fail
          refine K3.out.mono ?_
          rintro e9 w9 ⟨rfl, rfl⟩
          clear K3
          go_wp2_with fail
          refine K4.out.mono ?_
          rintro e9 w9 ⟨rfl, rfl⟩
          clear K4
          go_wp2
          go_ret
          exact len_ret1 HL.out (Below.refl _ _)
      | true =>
        rw [h3] at K3
        have HL := hide (show len1 4 (bl s) = 1 by rw [HE.out, h1, h3]; rfl)
        clear HE h1 h3 K4
        go_enter Tryz.func105, Tryz.ntmps105
        go_wp2_with fail
        refine K1.out.mono ?_
        rintro e9 w9 ⟨rfl, rfl⟩
        clear K1
        clear K2
        go_wp2_with fail
        refine K3.out.mono ?_
        rintro e9 w9 ⟨rfl, rfl⟩
        clear K3
        go_wp2
        go_ret
        exact len_ret1 HL.out (Below.refl _ _)
    | true =>
      rw [h1] at K1
      cases h2 : has vowS (bl s)[1]? with
      | false =>
        rw [h2] at K2
        cases h3 : has vowS (bl s)[0]? with
        | false =>
          rw [h3] at K3
          cases h4 : has [110] (bl s)[0]? with
          | false =>
            have HL := hide (show len1 4 (bl s) = 0 by rw [HE.out, h1, h2, h3, h4]; rfl)
            rw [h4] at K4
            clear HE h1 h3 h4 h2
            go_enter Tryz.func105, Tryz.ntmps105
            go_wp2_with fail
            refine K1.out.mono ?_
            rintro e9 w9 ⟨rfl, rfl⟩
            clear K1
            go_wp2_with fail
            refine K2.out.mono ?_
            rintro e9 w9 ⟨rfl, rfl⟩
            clear K2
            go_wp2_with fail
            refine K3.out.mono ?_
            rintro e9 w9 ⟨rfl, rfl⟩
            clear K3
            go_wp2_with fail
            refine K4.out.mono ?_
            rintro e9 w9 ⟨rfl, rfl⟩
            clear K4
            go_wp2
            go_ret
            exact len_ret0 HL.out (Below.refl _ _)
          | true =>
            have HL := hide (show len1 4 (bl s) = 1 by rw [HE.out, h1, h2, h3, h4]; rfl)
            rw [h4] at K4
            clear HE h1 h3 h4 h2
            go_enter Tryz.func105, Tryz.ntmps105
            go_wp2_with fail
            refine K1.out.mono ?_
            rintro e9 w9 ⟨rfl, rfl⟩
            clear K1
            go_wp2_with fail
            refine K2.out.mono ?_
            rintro e9 w9 ⟨rfl, rfl⟩
            clear K2
            go_wp2_with fail
            refine K3.out.mono ?_
            rintro e9 w9 ⟨rfl, rfl⟩
            clear K3
            go_wp2_with fail
            refine K4.out.mono ?_
            rintro e9 w9 ⟨rfl, rfl⟩
            clear K4
            go_wp2
            go_ret
            exact len_ret1 HL.out (Below.refl _ _)
        | true =>
          rw [h3] at K3
          have HL := hide (show len1 4 (bl s) = 1 by rw [HE.out, h1, h2, h3]; rfl)
          clear HE h1 h3 K4 h2
          go_enter Tryz.func105, Tryz.ntmps105
          go_wp2_with fail
          refine K1.out.mono ?_
          rintro e9 w9 ⟨rfl, rfl⟩
          clear K1
          go_wp2_with fail
          refine K2.out.mono ?_
          rintro e9 w9 ⟨rfl, rfl⟩
          clear K2
          go_wp2_with fail
          refine K3.out.mono ?_
          rintro e9 w9 ⟨rfl, rfl⟩
          clear K3
          go_wp2
          go_ret
          exact len_ret1 HL.out (Below.refl _ _)
      | true =>
        have HL := hide (show len1 4 (bl s) = 2 by rw [HE.out, h1, h2]; rfl)
        rw [h2] at K2
        clear HE h1 h2 K3 K4
        go_enter Tryz.func105, Tryz.ntmps105
        go_wp2_with fail
        refine K1.out.mono ?_
        rintro e9 w9 ⟨rfl, rfl⟩
        clear K1
        go_wp2_with fail
        refine K2.out.mono ?_
        rintro e9 w9 ⟨rfl, rfl⟩
        clear K2
        go_wp2
        go_ret
        exact len_ret2 HL.out (Below.refl _ _)
  have hk4 := hk
  clear hk
  have HL := hide (show len1 k (bl s) = 0 from len1_k0 _ hk1 hk2 hk3 hk4)
  have t1 : (k == 1) = false := by simpa using hk1
  have t2 : (k == 2) = false := by simpa using hk2
  have t3 : (k == 3) = false := by simpa using hk3
  have t4 : (k == 4) = false := by simpa using hk4
  clear hk1 hk2 hk3 hk4
  go_enter Tryz.func105, Tryz.ntmps105
  go_wp2
  go_ret
  exact len_ret0 HL.out (Below.refl _ _)
end Go.Proofs.YtnppgomhhcbplaaGreatDoor
namespace Go.Proofs.YtnppgomhhcbplaaGreatDoor
open Go.RowKit Go.CH Go.CH.Scr
open Go.ChangeMaps (setBlock)
theorem bel_trans {w w' w'' : World} (h : Below w.heap.size w w') (h' : Below w'.heap.size w' w'') : Below w.heap.size w w'' := h.trans (h'.mono h.size)
theorem bel_bool {w w' : World} {a b : Bool} (h : b = a) (hb : Below w.heap.size w w') : BelowRet w (.bool b) (.returned (.bool a)) w' := ⟨by rw [h], hb⟩
theorem has_at {S : Bs} {x : UInt8} {i : Nat} (h : S[i]? = some x) : has S (some x) = true := has_mem.2 (List.mem_of_getElem? h)
theorem has_step {S : Bs} {x y : UInt8} {i : Nat} (h : S[i]? = some y) (hn : has (S.take i) (some x) = false) (hy : ¬ y = x) : has (S.take (i + 1)) (some x) = false := by
  rw [List.take_add_one, h]
  simp only [has, List.contains_eq_mem, decide_eq_false_iff_not] at hn ⊢
  intro hm
  rcases List.mem_append.1 hm with hm | hm
  · exact hn hm
  · simp at hm; exact hy hm.symm
set_option maxHeartbeats 1600000 in
theorem among_any (s S : ByteArray) (j : Nat) (w : World) (hs : s.size ≤ maxLen) (hS : S.size ≤ 1000) :
    Calls Tryz.prog 113 #[.string s, .int .i64 (j : Int), .string S] w (BelowRet w (.bool (has (bl S) (bl s)[j]?))) := by
  by_cases h : j < s.size
  · rw [bl_at s j h]
    obtain ⟨x, hx⟩ : ∃ x : UInt8, s[j] = x := ⟨_, rfl⟩
    rw [hx]
    have hx256 := x.toNat_lt
    have hi : ¬ (s.size : Int) ≤ (j : Int) := by omega
    have hi2 : (j : Int) < (s.size : Int) := by omega
    go_enter Tryz.func113, Tryz.ntmps113
    go_wp2
    go_loopw [7] (fun i wr => ∃ k : Nat, k ≤ S.size ∧ i = .int .i64 k ∧ has ((bl S).take k) (some x) = false ∧ Below w.heap.size w wr) (fun i _ => S.size - (intOf i).toNat)
    case atStart => exact ⟨0, Nat.zero_le _, rfl, by simp [has], Below.refl _ _⟩
    case round =>
      obtain ⟨k, hk, rfl, ht, hb⟩ := hrel
      have HT := hide ht
      have HBD := hide (below_drew hb)
      have HBL := hide hb
      clear ht hb
      by_cases hlt : k < S.size
      · obtain ⟨y, hy⟩ : ∃ y : UInt8, S[k] = y := ⟨_, rfl⟩
        have HY := hide (show (bl S)[k]? = some y by rw [bl_at S k hlt, hy])
        have hy256 := y.toNat_lt
        have hk2 : (k : Int) < (S.size : Int) := by omega
        by_cases hxy : y = x
        · have HF := hide (has_at (show (bl S)[k]? = some x by rw [HY.out, hxy]))
          subst hxy
          go_wp2_with fail
          refine wp_region_lex (fun w' => w' = wr.drew) (by kernel_rfl) (by kernel_rfl) rfl ?_
          generalize wr.drew = wd at *
          (repeat (first | (refine lex_skip (by rfl) ?_; try simp only [Act.put, List.setIfInBounds_toArray, List.set_cons_zero, List.set_cons_succ]) | (refine lex_read (v := ?_) (by rfl) ?_ ?_; rotate_left; (focus (intro w' hS'; go_simp; (try with_reducible rfl); done)); try simp only [Act.put, List.setIfInBounds_toArray, List.set_cons_zero, List.set_cons_succ])))
          refine lex_nil ?_
          go_wp2
          go_ret
          exact bel_bool HF.out HBD.out
        · have HS := hide (has_step HY.out HT.out hxy)
          have t1 : ((y.toNat : Int) == (x.toNat : Int)) = false := by
            simp only [beq_eq_false_iff_ne, ne_eq]
            intro e
            exact hxy (UInt8.toNat_inj.1 (by omega))
          clear hxy
          go_wp2_with fail
          refine wp_region_lex (fun w' => w' = wr.drew) (by kernel_rfl) (by kernel_rfl) rfl ?_
          generalize wr.drew = wd at *
          (repeat (first | (refine lex_skip (by rfl) ?_; try simp only [Act.put, List.setIfInBounds_toArray, List.set_cons_zero, List.set_cons_succ]) | (refine lex_read (v := ?_) (by rfl) ?_ ?_; rotate_left; (focus (intro w' hS'; go_simp; (try with_reducible rfl); done)); try simp only [Act.put, List.setIfInBounds_toArray, List.set_cons_zero, List.set_cons_succ])))
          refine lex_nil ?_
          go_wp2
          go_roundw
          case rel => exact ⟨k + 1, by omega, by go_num, HS.out, HBD.out⟩
          case measure => simp [intOf]; omega
      · obtain rfl : k = S.size := by omega
        have HF := hide (show has (bl S) (some x) = false by
          have := HT.out
          rw [← bl_len, List.take_length] at this
          exact this)
        clear HT
        go_wp2
        go_ret
        exact bel_bool HF.out HBL.out
  · rw [bl_no s j h]
    have hi : (s.size : Int) ≤ (j : Int) := by omega
    go_enter Tryz.func113, Tryz.ntmps113
    go_wp2
    go_ret
    exact bel_bool rfl (Below.refl _ _)
end Go.Proofs.YtnppgomhhcbplaaGreatDoor
namespace Go.Proofs.YtnppgomhhcbplaaGreatDoor
open Go.RowKit Go.CH Go.CH.Scr
open Go.ChangeMaps (setBlock)
theorem drop_at (l : Bs) (i j : Nat) : (l.drop i)[j]? = l[i + j]? := by rw [List.getElem?_drop]
theorem len1_d1 (l : Bs) (i : Nat) : len1 1 (l.drop i) = if has smallS l[i]? = true then 1 else 0 := by rw [len1_k1, drop_at]; rfl
theorem has_alpha (o : Option UInt8) : has (smallS ++ capS) o = has smallS (o.map low) := by
  cases o with
  | none => rfl
  | some c =>
    have key : ∀ n : Fin 256, has (smallS ++ capS) (some (UInt8.ofNat n.val)) = has smallS (some (low (UInt8.ofNat n.val))) := by decide +kernel
    have := key ⟨c.toNat, c.toNat_lt⟩
    simpa using this
theorem len1_d2 (l : Bs) (i : Nat) : len1 2 (l.drop i) = if has (smallS ++ capS) l[i]? = true then (if has accS l[i + 1]? = true then 2 else 1) else 0 := by rw [len1_k2, drop_at, drop_at, ← has_alpha]; rfl
theorem len1_d3 (l : Bs) (i : Nat) : len1 3 (l.drop i) = if has abjS l[i]? = true then 1 else 0 := by rw [len1_k3, drop_at]; rfl
theorem len1_d4 (l : Bs) (i : Nat) : len1 4 (l.drop i) = if has vowS l[i]? = true then 1 else if (has onsS l[i]? && has vowS l[i + 1]?) = true then 2 else if has [110] l[i]? = true then 1 else 0 := by
  rw [len1_k4, drop_at, drop_at]
  show (if (has onsS l[i]? && has vowS l[i + 1]?) = true then 2 else if (has vowS l[i]? || has [110] l[i]?) = true then 1 else 0) = _
  cases l[i]? with
  | none => rfl
  | some c =>
    cases hv : has vowS (some c) with
    | true => rw [vow_ons hv]; rfl
    | false => simp
theorem among_to (s S : ByteArray) (e : Int) (j : Nat) (he : e = (j : Int)) (w : World) (hs : s.size ≤ maxLen) (hS : S.size ≤ 1000) :
    Calls Tryz.prog 113 #[.string s, .int .i64 e, .string S] w (BelowRet w (.bool (has (bl S) (bl s)[j]?))) := by rw [he]; exact among_any s S j w hs hS
theorem rlen_ret {w w' : World} {l : Bs} {k : Int} {i n : Nat} (h : len1 k (l.drop i) = n) (hb : Below w.heap.size w w') : BelowRet w (.int .i64 (len1 k (l.drop i) : Nat)) (.returned (.int .i64 (n : Int))) w' := ⟨by rw [h], hb⟩
set_option maxRecDepth 100000 in
set_option maxHeartbeats 3200000 in
theorem rlength_any (k : Int) (s : ByteArray) (i : Nat) (w : World) (hs : s.size ≤ 1000000) (hi : i ≤ 1000000) :
    Calls Tryz.prog 90 #[.int .i64 k, .string s, .int .i64 (i : Int)] w (BelowRet w (.int .i64 (len1 k ((bl s).drop i) : Nat))) := by
  have hs0 : s.size ≤ maxLen := by unfold maxLen; omega
  by_cases hk : k = 1
  · subst hk
    have HE := hide (len1_d1 (bl s) i)
    have K1 := hide (fun W => show Calls Tryz.prog 113 #[.string s, .int .i64 (i : Int), .string ⟨#[97, 98, 99, 100, 101, 102, 103, 104, 105, 106, 107, 108, 109, 110, 111, 112, 113, 114, 115, 116, 117, 118, 119, 120, 121, 122]⟩] W (BelowRet W (.bool (has smallS (bl s)[i]?))) from among_to s _ _ (i) (by omega) W hs0 (by decide))
    cases h1 : has smallS (bl s)[i]? with
    | false =>
      have HL := hide (show len1 1 ((bl s).drop i) = 0 by rw [HE.out, h1]; rfl)
      rw [h1] at K1
      clear h1 HE
      go_enter Tryz.func90, Tryz.ntmps90
      have KK := hide (K1.out w)
      clear K1
      go_wp2_with fail
      refine KK.out.mono ?_
      rintro e9 w1 ⟨rfl, hb⟩
      clear KK
      have HB1 := hide hb
      clear hb
      go_wp2
      go_ret
      exact rlen_ret HL.out HB1.out
    | true =>
      have HL := hide (show len1 1 ((bl s).drop i) = 1 by rw [HE.out, h1]; rfl)
      rw [h1] at K1
      clear h1 HE
      go_enter Tryz.func90, Tryz.ntmps90
      have KK := hide (K1.out w)
      clear K1
      go_wp2_with fail
      refine KK.out.mono ?_
      rintro e9 w1 ⟨rfl, hb⟩
      clear KK
      have HB1 := hide hb
      clear hb
      go_wp2
      go_ret
      exact rlen_ret HL.out HB1.out
  have hk1 := hk
  clear hk
  by_cases hk : k = 2
  · subst hk
    have HE := hide (len1_d2 (bl s) i)
    have K1 := hide (fun W => show Calls Tryz.prog 113 #[.string s, .int .i64 (i : Int), .string ⟨#[97, 98, 99, 100, 101, 102, 103, 104, 105, 106, 107, 108, 109, 110, 111, 112, 113, 114, 115, 116, 117, 118, 119, 120, 121, 122, 65, 66, 67, 68, 69, 70, 71, 72, 73, 74, 75, 76, 77, 78, 79, 80, 81, 82, 83, 84, 85, 86, 87, 88, 89, 90]⟩] W (BelowRet W (.bool (has (smallS ++ capS) (bl s)[i]?))) from among_to s _ _ (i) (by omega) W hs0 (by decide))
    have K2 := hide (fun W => show Calls Tryz.prog 113 #[.string s, .int .i64 ((i : Int) + 1), .string ⟨#[39, 96, 94]⟩] W (BelowRet W (.bool (has accS (bl s)[i + 1]?))) from among_to s _ _ (i + 1) (by omega) W hs0 (by decide))
    cases h1 : has (smallS ++ capS) (bl s)[i]? with
    | false =>
      have HL := hide (show len1 2 ((bl s).drop i) = 0 by rw [HE.out, h1]; rfl)
      rw [h1] at K1
      clear h1 HE K2
      go_enter Tryz.func90, Tryz.ntmps90
      have KK := hide (K1.out w)
      clear K1
      go_wp2_with fail
      refine KK.out.mono ?_
      rintro e9 w1 ⟨rfl, hb⟩
      clear KK
      have HB1 := hide hb
      clear hb
      go_wp2
      go_ret
      exact rlen_ret HL.out HB1.out
    | true =>
      rw [h1] at K1
      cases h2 : has accS (bl s)[i + 1]? with
      | false =>
        have HL := hide (show len1 2 ((bl s).drop i) = 1 by rw [HE.out, h1, h2]; rfl)
        rw [h2] at K2
        clear h1 h2 HE
        go_enter Tryz.func90, Tryz.ntmps90
        have KK := hide (K1.out w)
        clear K1
        go_wp2_with fail
        refine KK.out.mono ?_
        rintro e9 w1 ⟨rfl, hb⟩
        clear KK
        have HB1 := hide hb
        clear hb
        have KK := hide (K2.out w1)
        clear K2
        go_wp2_with fail
        refine KK.out.mono ?_
        rintro e9 w2 ⟨rfl, hb⟩
        clear KK
        have HB2 := hide (bel_trans HB1.out hb)
        clear HB1
        clear hb
        go_wp2
        go_ret
        exact rlen_ret HL.out HB2.out
      | true =>
        have HL := hide (show len1 2 ((bl s).drop i) = 2 by rw [HE.out, h1, h2]; rfl)
        rw [h2] at K2
        clear h1 h2 HE
        go_enter Tryz.func90, Tryz.ntmps90
        have KK := hide (K1.out w)
        clear K1
        go_wp2_with fail
        refine KK.out.mono ?_
        rintro e9 w1 ⟨rfl, hb⟩
        clear KK
        have HB1 := hide hb
        clear hb
        have KK := hide (K2.out w1)
        clear K2
        go_wp2_with fail
        refine KK.out.mono ?_
        rintro e9 w2 ⟨rfl, hb⟩
        clear KK
        have HB2 := hide (bel_trans HB1.out hb)
        clear HB1
        clear hb
        go_wp2
        go_ret
        exact rlen_ret HL.out HB2.out
  have hk2 := hk
  clear hk
  by_cases hk : k = 3
  · subst hk
    have HE := hide (len1_d3 (bl s) i)
    have K1 := hide (fun W => show Calls Tryz.prog 113 #[.string s, .int .i64 (i : Int), .string ⟨#[98, 100, 102, 103, 104, 106, 107, 108, 109, 110, 112, 113, 114, 115, 116, 119, 120, 121, 122, 39]⟩] W (BelowRet W (.bool (has abjS (bl s)[i]?))) from among_to s _ _ (i) (by omega) W hs0 (by decide))
    cases h1 : has abjS (bl s)[i]? with
    | false =>
      have HL := hide (show len1 3 ((bl s).drop i) = 0 by rw [HE.out, h1]; rfl)
      rw [h1] at K1
      clear h1 HE
      go_enter Tryz.func90, Tryz.ntmps90
      have KK := hide (K1.out w)
      clear K1
      go_wp2_with fail
      refine KK.out.mono ?_
      rintro e9 w1 ⟨rfl, hb⟩
      clear KK
      have HB1 := hide hb
      clear hb
      go_wp2
      go_ret
      exact rlen_ret HL.out HB1.out
    | true =>
      have HL := hide (show len1 3 ((bl s).drop i) = 1 by rw [HE.out, h1]; rfl)
      rw [h1] at K1
      clear h1 HE
      go_enter Tryz.func90, Tryz.ntmps90
      have KK := hide (K1.out w)
      clear K1
      go_wp2_with fail
      refine KK.out.mono ?_
      rintro e9 w1 ⟨rfl, hb⟩
      clear KK
      have HB1 := hide hb
      clear hb
      go_wp2
      go_ret
      exact rlen_ret HL.out HB1.out
  have hk3 := hk
  clear hk
  by_cases hk : k = 4
  · subst hk
    have HE := hide (len1_d4 (bl s) i)
    have K1 := hide (fun W => show Calls Tryz.prog 113 #[.string s, .int .i64 (i : Int), .string ⟨#[97, 105, 117, 101, 111]⟩] W (BelowRet W (.bool (has vowS (bl s)[i]?))) from among_to s _ _ (i) (by omega) W hs0 (by decide))
    have K2 := hide (fun W => show Calls Tryz.prog 113 #[.string s, .int .i64 (i : Int), .string ⟨#[107, 115, 116, 110, 104, 109, 121, 114, 119, 103, 122, 100, 98, 112]⟩] W (BelowRet W (.bool (has onsS (bl s)[i]?))) from among_to s _ _ (i) (by omega) W hs0 (by decide))
    have K3 := hide (fun W => show Calls Tryz.prog 113 #[.string s, .int .i64 ((i : Int) + 1), .string ⟨#[97, 105, 117, 101, 111]⟩] W (BelowRet W (.bool (has vowS (bl s)[i + 1]?))) from among_to s _ _ (i + 1) (by omega) W hs0 (by decide))
    have K4 := hide (fun W => show Calls Tryz.prog 113 #[.string s, .int .i64 (i : Int), .string ⟨#[110]⟩] W (BelowRet W (.bool (has [110] (bl s)[i]?))) from among_to s _ _ (i) (by omega) W hs0 (by decide))
    cases h1 : has vowS (bl s)[i]? with
    | false =>
      rw [h1] at K1
      cases h2 : has onsS (bl s)[i]? with
      | false =>
        rw [h2] at K2
        cases h4 : has [110] (bl s)[i]? with
        | false =>
          rw [h4] at K4
          have HL := hide (show len1 4 ((bl s).drop i) = 0 by rw [HE.out, h1, h2, h4]; rfl)
          clear h1 h2 h4 HE K3
          go_enter Tryz.func90, Tryz.ntmps90
          have KK := hide (K1.out w)
          clear K1
          go_wp2_with fail
          refine KK.out.mono ?_
          rintro e9 w1 ⟨rfl, hb⟩
          clear KK
          have HB1 := hide hb
          clear hb
          have KK := hide (K2.out w1)
          clear K2
          go_wp2_with fail
          refine KK.out.mono ?_
          rintro e9 w2 ⟨rfl, hb⟩
          clear KK
          have HB2 := hide (bel_trans HB1.out hb)
          clear HB1
          clear hb
          have KK := hide (K4.out w2)
          clear K4
          go_wp2_with fail
          refine KK.out.mono ?_
          rintro e9 w3 ⟨rfl, hb⟩
          clear KK
          have HB3 := hide (bel_trans HB2.out hb)
          clear HB2
          clear hb
          go_wp2
          go_ret
          exact rlen_ret HL.out HB3.out
        | true =>
          rw [h4] at K4
          have HL := hide (show len1 4 ((bl s).drop i) = 1 by rw [HE.out, h1, h2, h4]; rfl)
          clear h1 h2 h4 HE K3
          go_enter Tryz.func90, Tryz.ntmps90
          have KK := hide (K1.out w)
          clear K1
          go_wp2_with fail
          refine KK.out.mono ?_
          rintro e9 w1 ⟨rfl, hb⟩
          clear KK
          have HB1 := hide hb
          clear hb
          have KK := hide (K2.out w1)
          clear K2
          go_wp2_with fail
          refine KK.out.mono ?_
          rintro e9 w2 ⟨rfl, hb⟩
          clear KK
          have HB2 := hide (bel_trans HB1.out hb)
          clear HB1
          clear hb
          have KK := hide (K4.out w2)
          clear K4
          go_wp2_with fail
          refine KK.out.mono ?_
          rintro e9 w3 ⟨rfl, hb⟩
          clear KK
          have HB3 := hide (bel_trans HB2.out hb)
          clear HB2
          clear hb
          go_wp2
          go_ret
          exact rlen_ret HL.out HB3.out
      | true =>
        rw [h2] at K2
        cases h3 : has vowS (bl s)[i + 1]? with
        | false =>
          rw [h3] at K3
          cases h4 : has [110] (bl s)[i]? with
          | false =>
            rw [h4] at K4
            have HL := hide (show len1 4 ((bl s).drop i) = 0 by rw [HE.out, h1, h2, h3, h4]; rfl)
            clear h1 h2 h3 h4 HE 
            go_enter Tryz.func90, Tryz.ntmps90
            have KK := hide (K1.out w)
            clear K1
            go_wp2_with fail
            refine KK.out.mono ?_
            rintro e9 w1 ⟨rfl, hb⟩
            clear KK
            have HB1 := hide hb
            clear hb
            have KK := hide (K2.out w1)
            clear K2
            go_wp2_with fail
            refine KK.out.mono ?_
            rintro e9 w2 ⟨rfl, hb⟩
            clear KK
            have HB2 := hide (bel_trans HB1.out hb)
            clear HB1
            clear hb
            have KK := hide (K3.out w2)
            clear K3
            go_wp2_with fail
            refine KK.out.mono ?_
            rintro e9 w3 ⟨rfl, hb⟩
            clear KK
            have HB3 := hide (bel_trans HB2.out hb)
            clear HB2
            clear hb
            have KK := hide (K4.out w3)
            clear K4
            go_wp2_with fail
            refine KK.out.mono ?_
            rintro e9 w4 ⟨rfl, hb⟩
            clear KK
            have HB4 := hide (bel_trans HB3.out hb)
            clear HB3
            clear hb
            go_wp2
            go_ret
            exact rlen_ret HL.out HB4.out
          | true =>
            rw [h4] at K4
            have HL := hide (show len1 4 ((bl s).drop i) = 1 by rw [HE.out, h1, h2, h3, h4]; rfl)
            clear h1 h2 h3 h4 HE 
            go_enter Tryz.func90, Tryz.ntmps90
            have KK := hide (K1.out w)
            clear K1
            go_wp2_with fail
            refine KK.out.mono ?_
            rintro e9 w1 ⟨rfl, hb⟩
            clear KK
            have HB1 := hide hb
            clear hb
            have KK := hide (K2.out w1)
            clear K2
            go_wp2_with fail
            refine KK.out.mono ?_
            rintro e9 w2 ⟨rfl, hb⟩
            clear KK
            have HB2 := hide (bel_trans HB1.out hb)
            clear HB1
            clear hb
            have KK := hide (K3.out w2)
            clear K3
            go_wp2_with fail
            refine KK.out.mono ?_
            rintro e9 w3 ⟨rfl, hb⟩
            clear KK
            have HB3 := hide (bel_trans HB2.out hb)
            clear HB2
            clear hb
            have KK := hide (K4.out w3)
            clear K4
            go_wp2_with fail
            refine KK.out.mono ?_
            rintro e9 w4 ⟨rfl, hb⟩
            clear KK
            have HB4 := hide (bel_trans HB3.out hb)
            clear HB3
            clear hb
            go_wp2
            go_ret
            exact rlen_ret HL.out HB4.out
        | true =>
          rw [h3] at K3
          have HL := hide (show len1 4 ((bl s).drop i) = 2 by rw [HE.out, h1, h2, h3]; rfl)
          clear h1 h2 h3 HE K4
          go_enter Tryz.func90, Tryz.ntmps90
          have KK := hide (K1.out w)
          clear K1
          go_wp2_with fail
          refine KK.out.mono ?_
          rintro e9 w1 ⟨rfl, hb⟩
          clear KK
          have HB1 := hide hb
          clear hb
          have KK := hide (K2.out w1)
          clear K2
          go_wp2_with fail
          refine KK.out.mono ?_
          rintro e9 w2 ⟨rfl, hb⟩
          clear KK
          have HB2 := hide (bel_trans HB1.out hb)
          clear HB1
          clear hb
          have KK := hide (K3.out w2)
          clear K3
          go_wp2_with fail
          refine KK.out.mono ?_
          rintro e9 w3 ⟨rfl, hb⟩
          clear KK
          have HB3 := hide (bel_trans HB2.out hb)
          clear HB2
          clear hb
          go_wp2
          go_ret
          exact rlen_ret HL.out HB3.out
    | true =>
      rw [h1] at K1
      have HL := hide (show len1 4 ((bl s).drop i) = 1 by rw [HE.out, h1]; rfl)
      clear h1 HE K2 K3 K4
      go_enter Tryz.func90, Tryz.ntmps90
      have KK := hide (K1.out w)
      clear K1
      go_wp2_with fail
      refine KK.out.mono ?_
      rintro e9 w1 ⟨rfl, hb⟩
      clear KK
      have HB1 := hide hb
      clear hb
      go_wp2
      go_ret
      exact rlen_ret HL.out HB1.out
  have hk4 := hk
  clear hk
  have HL := hide (show len1 k ((bl s).drop i) = 0 from len1_k0 _ hk1 hk2 hk3 hk4)
  have t1 : (k == 1) = false := by simpa using hk1
  have t2 : (k == 2) = false := by simpa using hk2
  have t3 : (k == 3) = false := by simpa using hk3
  have t4 : (k == 4) = false := by simpa using hk4
  clear hk1 hk2 hk3 hk4
  go_enter Tryz.func90, Tryz.ntmps90
  go_wp2
  go_ret
  exact rlen_ret HL.out (Below.refl _ _)
end Go.Proofs.YtnppgomhhcbplaaGreatDoor
namespace Go.Proofs.YtnppgomhhcbplaaGreatDoor
open Go.RowKit Go.CH Go.CH.Scr
open Go.ChangeMaps (setBlock)
/-- What is left behind i letters. -/
def rst (k : Int) : Nat → Bs → Bs
  | 0, l => l
  | i + 1, l => (rst k i l).drop (len1 k (rst k i l))
theorem rst_ltrs (k : Int) (l : Bs) : ∀ i, i ≤ (ltrs k l).1.length → ltrs k (rst k i l) = ((ltrs k l).1.drop i, (ltrs k l).2) := by
  intro i
  induction i with
  | zero => intro _; rfl
  | succ i ih =>
    intro hi
    have h := ih (by omega)
    have hd : (ltrs k l).1.drop i = (ltrs k l).1[i] :: (ltrs k l).1.drop (i + 1) := List.drop_eq_getElem_cons (by omega)
    have hn : len1 k (rst k i l) ≠ 0 := fun h0 => by
      rw [ltrs_stop h0, hd] at h
      cases h
    rw [ltrs_step hn, hd] at h
    show ltrs k ((rst k i l).drop (len1 k (rst k i l))) = _
    have h1 := congrArg Prod.fst h
    have h2 := congrArg Prod.snd h
    simp only [List.cons.injEq] at h1 h2
    exact Prod.ext h1.2 h2
theorem rst_at {k : Int} {l : Bs} {i : Nat} (hi : i < (ltrs k l).1.length) : len1 k (rst k i l) ≠ 0 ∧ (ltrs k l).1[i] = (rst k i l).take (len1 k (rst k i l)) := by
  have h := rst_ltrs k l i (by omega)
  have hd : (ltrs k l).1.drop i = (ltrs k l).1[i] :: (ltrs k l).1.drop (i + 1) := List.drop_eq_getElem_cons (by omega)
  have hn : len1 k (rst k i l) ≠ 0 := fun h0 => by
    rw [ltrs_stop h0, hd] at h
    cases h
  refine ⟨hn, ?_⟩
  rw [ltrs_step hn, hd] at h
  have h1 := congrArg Prod.fst h
  simp only [List.cons.injEq] at h1
  exact h1.1.symm
theorem rst_end (k : Int) (l : Bs) : len1 k (rst k (ltrs k l).1.length l) = 0 ∧ rst k (ltrs k l).1.length l = (ltrs k l).2 := by
  have h := rst_ltrs k l _ (Nat.le_refl _)
  rw [List.drop_length] at h
  have hn : len1 k (rst k (ltrs k l).1.length l) = 0 := by
    refine Classical.byContradiction fun hn => ?_
    rw [ltrs_step hn] at h
    cases h
  refine ⟨hn, ?_⟩
  rw [ltrs_stop hn] at h
  exact congrArg Prod.snd h
theorem rst_le (k : Int) (l : Bs) : ∀ i, (rst k i l).length ≤ l.length := by
  intro i
  induction i with
  | zero => exact Nat.le_refl _
  | succ i ih => show ((rst k i l).drop _).length ≤ _; rw [List.length_drop]; omega
/-- The iterator's own boxes: the script, the rest of the text. -/
def Zl (k : Int) (l : Bs) (b1 b2 i : Nat) : Go.CH.Own := star (CellO b1 #[.int .i64 k] 3) (CellO b2 #[.string (bs (rst k i l))] 9)
theorem Zl_ok {k : Int} {l : Bs} {b1 b2 : Nat} (i : Nat) : (Zl k l b1 b2 i).Ok := star_ok cell_ok cell_ok
def encL (x : Bs) : Array Value := #[.string (bs x)]
def leftL (b2 : Nat) (w : World) : Nat := match w.cell? ⟨b2, 0, none⟩ with | some (.string s) => s.size | _ => 0
theorem bs_take (l : Bs) (n : Nat) : bs (l.take n) = (bs l).extract 0 n := bl_inj (by rw [bl_extract, bl_bs, bl_bs, List.drop_zero])
theorem bs_drop (l : Bs) (n : Nat) : bs (l.drop n) = (bs l).extract n (bs l).size := bl_inj (by rw [bl_extract, bl_bs, bl_bs, bs_size, List.take_length])
theorem Zl_cells {k : Int} {l : Bs} {b1 b2 i : Nat} {F0 : Nat → Prop} {w0 W : World} {X : Go.CH.Own} (h : Run F0 w0 (star (Zl k l b1 b2 i) X) W) :
    W.cell? ⟨b1, 0, none⟩ = some (.int .i64 k) ∧ W.cell? ⟨b2, 0, none⟩ = some (.string (bs (rst k i l))) ∧ W.frozen? ⟨b2, 0, none⟩ = false := by
  obtain ⟨F, hF⟩ := (h.assoc).fst
  obtain ⟨F2, hF2⟩ := (h.assoc.rot).fst
  exact ⟨cell_at hF rfl, cell_at hF2 rfl, cell_free hF2 0⟩
theorem Zl_next {k : Int} {l : Bs} {b1 b2 i : Nat} {F0 : Nat → Prop} {w0 W : World} {X : Go.CH.Own} (hX : X.Ok) (h : Run F0 w0 (star (Zl k l b1 b2 i) X) W) :
    Run F0 w0 (star (Zl k l b1 b2 (i + 1)) X) (W.setCell ⟨b2, 0, none⟩ (.string (bs (rst k (i + 1) l)))) := by
  have h1 := h.assoc.rot
  obtain ⟨F, hF, -, bk⟩ := h1.take cell_ok (star_ok cell_ok hX)
  have h2 := bk _ _ (cell_set hF 0 (.string (bs (rst k (i + 1) l))))
  exact (h2.perm (by ac_rfl) : Run F0 w0 (star (star (CellO b1 #[.int .i64 k] 3) (CellO b2 (#[Value.string (bs (rst k i l))].setIfInBounds 0 (.string (bs (rst k (i + 1) l)))) 9)) X) _)
theorem leftL_at {b2 : Nat} {w : World} {s : ByteArray} (h : w.cell? ⟨b2, 0, none⟩ = some (.string s)) : leftL b2 w = s.size := by unfold leftL; rw [h]
set_option maxHeartbeats 3200000 in
theorem letters_iter (k : Int) (l : Bs) (b1 b2 : Nat) (hl : l.length ≤ 1000000) :
    IterK Tryz.prog 104 #[.pointer (some ⟨b1, 0, none⟩), .pointer (some ⟨b2, 0, none⟩)] LZ (Zl k l b1 b2) encL (ltrs k l).1 := by
  intro n lo W F0 w0 X Y okX okY hE h0 hY
  have HY := hide hY
  have HE := hide hE
  have HL := hide (fun (t : ByteArray) (W : World) (ht : t.size ≤ 1000000) (hz : LZ W) => length_any k t W ht hz)
  clear hY hE
  obtain ⟨N, hN⟩ : ∃ N, N = (ltrs k l).1.length := ⟨_, rfl⟩
  refine callsIn_of_wp Tryz.func104 rfl trivial ?_ rfl
  simp only [Tryz.ntmps104, List.size_toArray, List.length_cons, List.length_nil, Nat.reduceAdd, Nat.reduceSub, Array.replicate_succ, Array.replicate_zero, List.push_toArray, List.append_toArray, List.nil_append, List.cons_append]
  obtain ⟨c1, c2, c3⟩ := Zl_cells h0
  have K0 := hide (HL.out (bs (rst k 0 l)) W (by rw [bs_size]; exact hl) (HE.out W h0.mod))
  have H0 := hide h0
  clear h0
  gi_wp2_with (refine ⟨trivial, fun h => (by cases h), ?_⟩; gi_at_call 105; refine (callsIn_wide.2 K0.out).mono ?_; rintro e9 w9 ⟨rfl, hb⟩; clear K0; have H1 := hide (H0.out.below (star_ok (Zl_ok 0) (okX 0)) hb); clear H0 hb c1 c2 c3)
  gi_loopw [4] (fun p wr => ∃ i : Nat, i ≤ N ∧ p = .int .i64 (len1 k (rst k i l) : Nat) ∧ Run F0 w0 (star (Zl k l b1 b2 i) (X i)) wr)
    (fun p wr => leftL b2 wr)
  case atStart => exact ⟨0, Nat.zero_le _, by rw [bl_bs], H1.out⟩
  case round =>
    clear H1
    obtain ⟨i, hi, rfl, hR⟩ := hrel
    have HR := hide hR
    clear hR
    by_cases hlt : i < N
    · have hlt' := hlt
      rw [hN] at hlt'
      obtain ⟨hn, hx⟩ := rst_at hlt'
      have hw := HY.out i hlt' wr HR.out
      rw [hx, encL, bs_take] at hw
      obtain ⟨fn, tmps, assign, body, hy, hround⟩ := hw
      have HRD := hide hround
      obtain ⟨c1, c2, c3⟩ := Zl_cells HR.out
      have HS := hide (show bs (rst k (i + 1) l) = _ from bs_drop (rst k i l) (len1 k (rst k i l)))
      have hle : len1 k (rst k i l) ≤ (bs (rst k i l)).size := by rw [bs_size]; exact len1_le
      have htn : (bs (rst k (i + 1) l)).size ≤ 1000000 := by rw [bs_size]; exact Nat.le_trans (rst_le k l (i + 1)) hl
      have hts : (bs (rst k i l)).size ≤ 1000000 := by rw [bs_size]; exact Nat.le_trans (rst_le k l i) hl
      have hsz : (bs (rst k (i + 1) l)).size + len1 k (rst k i l) = (bs (rst k i l)).size := by
        rw [bs_size, bs_size] at *
        show ((rst k i l).drop _).length + _ = _
        rw [List.length_drop]; omega
      have HA := hide (fun (W' : World) (h : Run F0 w0 (star (Zl k l b1 b2 i) (X (i + 1))) W') => show W'.cell? ⟨b1, 0, none⟩ = some (.int .i64 k) ∧ W'.cell? ⟨b2, 0, none⟩ = some (.string (bs (rst k i l))) ∧ W'.frozen? ⟨b2, 0, none⟩ = false from Zl_cells h)
      have HB := hide (fun (W' : World) (h : Run F0 w0 (star (Zl k l b1 b2 i) (X (i + 1))) W') => show
          Run F0 w0 (star (Zl k l b1 b2 (i + 1)) (X (i + 1))) (W'.setCell ⟨b2, 0, none⟩ (.string ((bs (rst k i l)).extract (len1 k (rst k i l)) (bs (rst k i l)).size))) ∧
          (W'.setCell ⟨b2, 0, none⟩ (.string ((bs (rst k i l)).extract (len1 k (rst k i l)) (bs (rst k i l)).size))).cell? ⟨b1, 0, none⟩ = some (.int .i64 k) ∧
          (W'.setCell ⟨b2, 0, none⟩ (.string ((bs (rst k i l)).extract (len1 k (rst k i l)) (bs (rst k i l)).size))).cell? ⟨b2, 0, none⟩ = some (.string ((bs (rst k i l)).extract (len1 k (rst k i l)) (bs (rst k i l)).size)) ∧
          Calls Tryz.prog 105 #[.int .i64 k, .string ((bs (rst k i l)).extract (len1 k (rst k i l)) (bs (rst k i l)).size)] (W'.setCell ⟨b2, 0, none⟩ (.string ((bs (rst k i l)).extract (len1 k (rst k i l)) (bs (rst k i l)).size)))
            (LenRet (W'.setCell ⟨b2, 0, none⟩ (.string ((bs (rst k i l)).extract (len1 k (rst k i l)) (bs (rst k i l)).size))) k (rst k (i + 1) l)) from by
        have h2 := Zl_next (okX (i + 1)) h
        rw [HS.out] at h2
        obtain ⟨d1, d2, -⟩ := Zl_cells h2
        rw [HS.out] at d2
        refine ⟨h2, d1, d2, ?_⟩
        have h3 := HL.out (bs (rst k (i + 1) l)) _ htn (HE.out _ h2.mod)
        rw [bl_bs, HS.out] at h3
        exact h3)
      have HZ := hide (fun (W' : World) (hb : Run F0 w0 (star (Zl k l b1 b2 (i + 1)) (X (i + 1))) W') => show leftL b2 W' = (bs (rst k (i + 1) l)).size from leftL_at (Zl_cells hb).2.1)
      have HZ0 := hide (show leftL b2 wr = (bs (rst k i l)).size from leftL_at c2)
      have HN2 := hide (fun (W W' : World) (h : Run F0 w0 (star (Zl k l b1 b2 (i + 1)) (X (i + 1))) W) (hb : Below W.heap.size W W') => h.below (star_ok (Zl_ok (i + 1)) (okX (i + 1))) hb)
      clear HS HL HE HY HR hx hN hl hlt'
      have hrel2 : ∀ W', Run F0 w0 (star (Zl k l b1 b2 (i + 1)) (X (i + 1))) W' → ∃ i' : Nat, i' ≤ N ∧ Value.int .i64 (len1 k (rst k (i + 1) l) : Nat) = .int .i64 (len1 k (rst k i' l) : Nat) ∧ Run F0 w0 (star (Zl k l b1 b2 i') (X i')) W' := fun W' h => ⟨i + 1, hlt, rfl, h⟩
      have HREL := hide hrel2
      have hstop : ∀ W', Run F0 w0 (star (Zl k l b1 b2 i) Y) W' → (∃ v, (Ending.returned (.tuple #[])) = .returned v) ∧ (Run F0 w0 (star (Zl k l b1 b2 (ltrs k l).1.length) (X (ltrs k l).1.length)) W' ∨ ∃ i, Run F0 w0 (star (Zl k l b1 b2 i) Y) W') := fun W' h => ⟨⟨_, rfl⟩, .inr ⟨i, h⟩⟩
      have HSTOP := hide hstop
      clear hrel2 hstop
      generalize hsz2 : (bs (rst k (i + 1) l)).size = s2 at *
      generalize ht : bs (rst k i l) = t at *
      generalize hn1 : len1 k (rst k i l) = n1 at *
      clear hsz2 ht hn1
      have hn0 : 0 < n1 := by omega
      clear hn
      gi_wp2
      refine ⟨fun h => (by cases h), ?_⟩
      clear c1 c2 c3 hy
      refine HRD.out.mono ?_
      rintro e W3 (⟨rfl, h3⟩ | ⟨rfl, h3⟩)
      · obtain ⟨h4, d1, d2, K4⟩ := HB.out W3 h3
        obtain ⟨a1, a2, a3⟩ := HA.out W3 h3
        have H4 := hide h4
        have KK := hide K4
        have HZZ := hide (show leftL b2 W3 = t.size from leftL_at a2)
        clear HRD HB HA h3 h4 K4
        gi_wp2_with (refine ⟨trivial, fun h => (by cases h), ?_⟩; gi_at_call 105; refine (callsIn_wide.2 KK.out).mono ?_; rintro e9 w9 ⟨rfl, hb⟩; clear KK)
        have h5 := HN2.out _ _ H4.out hb
        go_roundw
        case rel => exact HREL.out _ h5
        case measure => rw [HZ.out _ h5, HZ0.out]; omega
      · have HR3 := hide (HSTOP.out _ h3)
        clear HRD HB HA h3
        gi_wp2
        go_end0
        exact HR3.out
    · obtain rfl : i = N := by omega
      have hz : len1 k (rst k i l) = 0 := by rw [hN]; exact (rst_end k l).1
      have hend : (∃ v, (Ending.returned (.tuple #[])) = .returned v) ∧ (Run F0 w0 (star (Zl k l b1 b2 (ltrs k l).1.length) (X (ltrs k l).1.length)) wr ∨ ∃ i, Run F0 w0 (star (Zl k l b1 b2 i) Y) wr) := ⟨⟨_, rfl⟩, .inl (by rw [← hN]; exact HR.out)⟩
      have HEND := hide hend
      clear hend
      rw [hz]
      gi_wp2
      refine ⟨fun _ h => (by cases h), ?_⟩
      gi_wp2
      go_end0
      exact HEND.out
end Go.Proofs.YtnppgomhhcbplaaGreatDoor
namespace Go.CH
open Go.RowKit
section
variable {P : Program} {ops : Array Oper} {Ts : List Nat} {St : Nat → World → Prop} {Q : Exit → Act → World → Prop}
/-- The stages. -/
def stL : List (World → Prop) → Nat → World → Prop
  | [], _, _ => True
  | S :: _, 0, w => S w
  | _ :: l, n + 1, w => stL l n w
/-- Each implies the next. -/
def downs : List (World → Prop) → Prop
  | [] => True
  | [_] => True
  | S :: T :: l => (∀ w, S w → T w) ∧ downs (T :: l)
theorem stL_mono : ∀ (l : List (World → Prop)), downs l → ∀ c w, stL l c w → stL l (c + 1) w
  | [], _, _, _, _ => trivial
  | [_], _, 0, _, _ => trivial
  | [_], _, _ + 1, _, _ => trivial
  | S :: T :: l, h, 0, w, hs => h.1 w hs
  | S :: T :: l, h, c + 1, w, hs => stL_mono (T :: l) h.2 c w hs
def wpLes (P : Program) (ops : Array Oper) (St : Nat → World → Prop) (Q : Exit → Act → World → Prop) : List Nat → List Oper → Act → World → Prop
  | _, [], a, w => Q .normal a w
  | [], _ :: _, _, _ => False
  | n :: lv, o :: r, a, w => (chainK o.op = false ∧ ∃ v, YieldsIf P ops (St n) o v a ∧ wpLes P ops St Q lv r (a.put o.dst v) w) ∨
      (chainK o.op = true ∧ Region.wanted o (yielded ops a.tmps) = true ∧ o.wp P a w (fun a' w' => St n w' ∧ wpLes P ops St Q lv r a' w') NoExit)
theorem lw_of_les : ∀ (l : List Oper) (lv : List Nat) (k : Nat) (a : Act) (w : World), (∀ j, l[j]? = ops[k + j]?) → (∀ j, j < l.length → lv[j]? = some (lev ops Ts (k + j))) → wpLes P ops St Q lv l a w → wpLw P ops Ts St Q (List.range' k l.length) a w
  | [], lv, _, _, _, _, _, h => by cases lv <;> exact h
  | o :: l, [], k, a, w, hl, hv, h => h.elim
  | o :: l, n :: lv, k, a, w, hl, hv, h => by
    have h0 : ops[k]? = some o := by simpa using (hl 0).symm
    have hn : n = lev ops Ts k := by have := hv 0 (by simp); simpa using this
    have ei : isChain ops k = chainK o.op := by simp [isChain, h0]
    have ih := fun a w => lw_of_les l lv (k + 1) a w (fun j => by have := hl (j + 1); simpa [Nat.add_assoc, Nat.add_comm 1 j] using this)
      (fun j hj => by have := hv (j + 1) (by simpa using hj); simpa [Nat.add_assoc, Nat.add_comm 1 j] using this)
    simp only [List.length_cons, List.range'_succ]
    unfold wpLw
    simp only [h0]
    unfold lev at hn
    rcases h with ⟨h0, v, h1, h2⟩ | ⟨h1, h2, h3⟩
    · rw [ei, h0] at hn
      have hn : n = lvl ops Ts k := by simpa using hn
      subst hn
      exact .inl ⟨h0, v, h1, ih _ _ h2⟩
    · rw [ei, h1] at hn
      have hn : n = chl Ts k := by simpa using hn
      subst hn
      exact .inr ⟨h1, h2, Oper.wp_mono (fun a' w' hk => ⟨hk.1, ih _ _ hk.2⟩) h3⟩
theorem wp_region_les {id : Nat} {l : List Oper} {a : Act} {w : World} (Ts lv : List Nat) (S0 : World → Prop) (Sl : List (World → Prop)) (hdn : downs (S0 :: Sl)) (hm : P.follows .mixedOrders = true) (hB : lexOk l.toArray = true) (hL : lvOk l.toArray Ts = true) (hlv : levs l.toArray Ts = lv) (hS : S0 w.drew)
    (h : wpLes P l.toArray (stL (S0 :: Sl)) Q lv l a w.drew) : (Code.region id l.toArray true).wp P Q a w := by
  refine wp_region_any hm ?_
  have hu : unl l.toArray (Array.replicate l.toArray.size false) = List.range l.toArray.size := by
    unfold unl
    refine List.filter_eq_self.2 fun i hi => ?_
    have := List.mem_range.1 hi
    simp at this
    simp [this]
  refine wpAny_of_lw (Ts := Ts) (St := stL (S0 :: Sl)) (stL_mono _ hdn) hB hL _ _ _ _ (by rw [hu]; simp) (by simp) ?_ ⟨0, hS, fun i _ _ => by split <;> omega⟩ ?_
  · intro j o ho hl
    have : j < l.length := by have := (Array.getElem?_eq_some_iff.1 ho).1; simpa using this
    simp [this] at hl
  · rw [hu]
    have := lw_of_les (P := P) (ops := l.toArray) (Ts := Ts) (St := stL (S0 :: Sl)) (Q := Q) l lv 0 a w.drew (by simp) (fun j hj => by
      rw [← hlv]; unfold levs; rw [List.getElem?_map, List.getElem?_range (by simpa using hj)]; simp) h
    simpa [List.range_eq_range'] using this
theorem region_in_les {l n : Nat} {a : Act} {w : World} {id : Nat} {r : List Oper} (Ts lv : List Nat) (S0 : World → Prop) (Sl : List (World → Prop)) (hdn : downs (S0 :: Sl)) (hd : r.all noDefer = true) (hout : ¬ LetsOut Q) (hm : P.follows .mixedOrders = true) (hB : lexOk r.toArray = true) (hL : lvOk r.toArray Ts = true) (hlv : levs r.toArray Ts = lv) (hS : S0 w.drew)
    (h : wpLes P r.toArray (stL (S0 :: Sl)) Q lv r a w.drew) : (Code.region id r.toArray true).wpIn (Fence.wide.inRound l) n P Q a w := by
  refine wpIn_region_any hm (anyIn_of hout (all_ops hd) _ _ _ _ ?_)
  have hu : unl r.toArray (Array.replicate r.toArray.size false) = List.range r.toArray.size := by
    unfold unl
    refine List.filter_eq_self.2 fun i hi => ?_
    have := List.mem_range.1 hi
    simp at this
    simp [this]
  refine wpAny_of_lw (Ts := Ts) (St := stL (S0 :: Sl)) (stL_mono _ hdn) hB hL _ _ _ _ (by rw [hu]; simp) (by simp) ?_ ⟨0, hS, fun i _ _ => by split <;> omega⟩ ?_
  · intro j o ho hl
    have : j < r.length := by have := (Array.getElem?_eq_some_iff.1 ho).1; simpa using this
    simp [this] at hl
  · rw [hu]
    have := lw_of_les (P := P) (ops := r.toArray) (Ts := Ts) (St := stL (S0 :: Sl)) (Q := Q) r lv 0 a w.drew (by simp) (fun j hj => by
      rw [← hlv]; unfold levs; rw [List.getElem?_map, List.getElem?_range (by simpa using hj)]; simp) h
    simpa [List.range_eq_range'] using this
section
variable {o : Oper} {r : List Oper} {n : Nat} {lv : List Nat} {a : Act} {w : World}
theorem les_nil (h : Q .normal a w) : wpLes P ops St Q lv [] a w := by cases lv <;> exact h
theorem les_skip (hc : chainK o.op = false) (hw : Region.wanted o (yielded ops a.tmps) = false) (h : wpLes P ops St Q lv r (a.put o.dst undef) w) : wpLes P ops St Q (n :: lv) (o :: r) a w := .inl ⟨hc, undef, .inr ⟨hw, rfl⟩, h⟩
theorem les_read {v : Value} (hc : chainK o.op = false) (hw : Region.wanted o (yielded ops a.tmps) = true) (hv : ∀ w', St n w' → (execOp a.eval o).run P w' = .ok (.value v) w') (h : wpLes P ops St Q lv r (a.put o.dst v) w) : wpLes P ops St Q (n :: lv) (o :: r) a w :=
  .inl ⟨hc, v, .inl ⟨hw, hv⟩, h⟩
theorem les_chain (hc : chainK o.op = true) (hw : Region.wanted o (yielded ops a.tmps) = true) (h : ∀ K : Act → World → Prop, Hid (∀ a' w', St n w' → wpLes P ops St Q lv r a' w' → K a' w') → o.wp P a w K NoExit) : wpLes P ops St Q (n :: lv) (o :: r) a w :=
  .inr ⟨hc, hw, h _ fun _ _ h1 h2 => ⟨h1, h2⟩⟩
end
end
end Go.CH
namespace Go.CH
open Go.RowKit
section
variable {P : Program}
theorem run_appX {t e : TypeId} {z : Value} {size bytes : Nat} (S : SliceOk P t e z size bytes) (ty : TypeId) (w : World) (base : Nat) {v : Value} {n : Nat} {xs : List Value} (hown : w.ownsRow base e size v n xs)
    {A : Option Addr} {m c : Nat} {news : List Value} (hs : Src w A m size news) (h63 : n + m ≤ maxLen) (hb : (n + m) * bytes ≤ 140737488355328) (hbase : base ≤ w.heap.size) :
    ∃ v' w', (Builtin.append_ #[t, t] ty #[v, .slice A m c]).run P w = .ok v' w' ∧ w'.ownsRow base e size v' (n + m) (xs ++ news) ∧ w.grownBy w' v.ownBlock ∧
      (v'.ownBlock = v.ownBlock ∨ v'.ownBlock = some w.heap.size) := by
  obtain ⟨ht, hi, hz, hsz⟩ := S
  obtain ⟨i, hi, hi1, hi2, hi3⟩ := info_parts hi
  cases A with
  | some ad =>
    obtain ⟨v', w', h1, h2, h3, _, h5⟩ := run_append_own_at (P := P) w base t ty e i z size bytes ht hi hi1 hi2 hi3 hz hsz v n xs hown ad m c news hs.1 (hs.cells rfl) hs.2.1 h63 hb hbase
    exact ⟨v', w', h1, h2, h3, h5⟩
  | none =>
    have hm : m = 0 := by
      rcases Nat.eq_zero_or_pos m with h0 | h0
      · exact h0
      · obtain ⟨ad, h, _⟩ := hs.2.2 h0
        cases h
    subst hm
    have hn : news = [] := List.eq_nil_of_length_eq_zero (by simpa using hs.1)
    subst hn
    refine ⟨v, w, ?_, by simpa using hown, ⟨rfl, rfl, rfl, Nat.le_refl _, fun _ _ _ => rfl⟩, .inl rfl⟩
    rcases hown.2 with ⟨rfl, rfl⟩ | ⟨g, cap, cur, rfl, _, _, hnc, _⟩
    · simp [Builtin.append_, run_underlying ht, sizeOf, typeInfo, hi, Builtin.lenOf, Builtin.firstCells]
    · simp [Builtin.append_, run_underlying ht, sizeOf, typeInfo, hi, Builtin.lenOf, Builtin.firstCells, hnc, storeCells]
theorem wp_appX {o : Oper} {a : Act} {K : Act → World → Prop} {Q : Exit → Act → World → Prop} (s x : Operand) {t : TypeId}
    (ho : o.op = .call { callee := .builtin .append, args := #[s, x], argTypes := #[t, t] })
    {e : TypeId} {z : Value} {size bytes : Nat} (S : SliceOk P t e z size bytes) (w : World) (base : Nat) {v : Value} {n : Nat} {xs : List Value} (hsv : a.eval s = v) (hown : w.ownsRow base e size v n xs)
    {A : Option Addr} {m c : Nat} {news : List Value} (hx : a.eval x = .slice A m c) (hs : Src w A m size news) (h63 : n + m ≤ maxLen) (hb : (n + m) * bytes ≤ 140737488355328) (hbase : base ≤ w.heap.size)
    (h : ∀ v' w', w'.ownsRow base e size v' (n + m) (xs ++ news) → w.grownBy w' v.ownBlock → (v'.ownBlock = v.ownBlock ∨ v'.ownBlock = some w.heap.size) → K (a.put o.dst v') w') : o.wp P a w K Q := by
  obtain ⟨v', w', hrun, h2, h3, h4⟩ := run_appX S o.type w base hown (c := c) hs h63 hb hbase
  unfold Oper.wp execOp
  simp only [ho, resolve, invoke, builtin, Sem.run_bind, Sem.run_pure, Result.andThen_ok, List.map_toArray, List.map_cons, List.map_nil, hsv, hx, hrun]
  exact h v' w' h2 h3 h4
theorem wpList_appX {ops : Array Oper} {rest : List Oper} {o : Oper} {a : Act} {Q : Exit → Act → World → Prop} (hgd : o.guard = none) (s x : Operand) {t : TypeId}
    (ho : o.op = .call { callee := .builtin .append, args := #[s, x], argTypes := #[t, t] })
    {e : TypeId} {z : Value} {size bytes : Nat} (S : SliceOk P t e z size bytes) (w : World) (base : Nat) {v : Value} {n : Nat} {xs : List Value} (hsv : a.eval s = v) (hown : w.ownsRow base e size v n xs)
    {A : Option Addr} {m c : Nat} {news : List Value} (hx : a.eval x = .slice A m c) (hs : Src w A m size news) (h63 : n + m ≤ maxLen) (hb : (n + m) * bytes ≤ 140737488355328) (hbase : base ≤ w.heap.size)
    (h : ∀ v' w', w'.ownsRow base e size v' (n + m) (xs ++ news) → w.grownBy w' v.ownBlock → (v'.ownBlock = v.ownBlock ∨ v'.ownBlock = some w.heap.size) → wpList P ops Q rest (a.put o.dst v') w') : wpList P ops Q (o :: rest) a w :=
  wpList_plain hgd fun _ hK => wp_appX s x ho S w base hsv hown hx hs h63 hb hbase fun v' w' h2 h3 h4 => hK _ _ (h v' w' h2 h3 h4)
end
end Go.CH
