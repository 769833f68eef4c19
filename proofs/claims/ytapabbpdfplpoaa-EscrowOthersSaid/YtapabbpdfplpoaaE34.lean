/-
  Escrow: EscrowOthers, walked.
-/
import Derived.Test.YtapabbpdfplpoaaE30
import Derived.Test.YtapabbpdfplpoaaGC
set_option linter.unusedSimpArgs false
set_option linter.unusedVariables false
namespace Go.Proofs.Ytapabbpdfplpoaa
open Go.RowKit Go.CH Go.CH.Esc
open Go.ChangeMaps (setBlock)

/-- Two escrows at once, and Z. -/
structure Two (U : Int) (n : Nat) (w0 : World) (Z : Own) (p : Nat) (g : GM) (q : Nat) (h : GM) (W : World) : Prop where
  run : Run (fun _ => False) w0 (star (EscO g p) (star (EscO h q) Z)) W
  ix : Inv g U
  iy : Inv h U
  bx : HB g n
  hy : HB h n
  zo : Z.Ok
section
variable {U : Int} {n : Nat} {w0 : World} {Z : Own} {p q : Nat} {g h : GM} {W : World}
theorem Two.x (t : Two U n w0 Z p g q h W) : St U n w0 (star (EscO h q) Z) p g W := ⟨t.run, t.ix, t.bx, star_ok escO_ok t.zo⟩
theorem Two.y (t : Two U n w0 Z p g q h W) : St U n w0 (star (EscO g p) Z) q h W := ⟨t.run.rot, t.iy, t.hy, star_ok escO_ok t.zo⟩
theorem Two.up (t : Two U n w0 Z p g q h W) {k : Nat} (hk : n ≤ k) : Two U k w0 Z p g q h W := ⟨t.run, t.ix, t.iy, t.bx.mono hk, t.hy.mono hk, t.zo⟩
theorem Two.box (t : Two U n w0 emp p g q h W) (cs : Array Value) (ty : TypeId) : Two U n w0 (CellO W.heap.size cs ty) p g q h (W.alloc (.cells cs ty)) :=
  ⟨(t.run.fresh (star_ok escO_ok (star_ok escO_ok emp_ok)) (cell_new W cs ty)).perm (by rw [star_emp_eq]; ac_rfl), t.ix, t.iy, t.bx, t.hy, cell_ok⟩
theorem Two.unbox (t : Two U n w0 Z p g q h W) : Two U n w0 emp p g q h W :=
  ⟨((t.run.perm (by ac_rfl : _ = star Z (star (EscO g p) (EscO h q)))).drop).perm (by rw [star_emp_eq]), t.ix, t.iy, t.bx, t.hy, emp_ok⟩
theorem Two.cell {b : Nat} {cs : Array Value} {ty : TypeId} (t : Two U n w0 (CellO b cs ty) p g q h W) {i : Nat} {v : Value} (hv : cs[i]? = some v) : W.cell? ⟨b, i, none⟩ = some v := by
  obtain ⟨F, hC⟩ := (t.run.perm (by ac_rfl : _ = star (CellO b cs ty) (star (EscO g p) (EscO h q)))).fst
  exact cell_at hC hv
def TwoRet (U : Int) (n : Nat) (w0 : World) (Z : Own) (p : Nat) (g : GM) (q : Nat) (h : GM) (v : Value) (e : Ending) (W : World) : Prop := e = .returned v ∧ Two U n w0 Z p g q h W
theorem two_x (t : Two U n w0 Z p g q h W) {f : FuncId} {args : Array Value} {v : Value} {g' : GM} {n' : Nat} (hle : n ≤ n') (hc : St U n w0 (star (EscO h q) Z) p g W → Calls Try.prog f args W (StRet U n' w0 (star (EscO h q) Z) p g' v)) : Calls Try.prog f args W (TwoRet U n' w0 Z p g' q h v) := by
  refine (hc t.x).mono fun e W' hp => ?_
  obtain ⟨he, hs⟩ := hp
  exact ⟨he, hs.run, hs.inv, t.iy, hs.hb, t.hy.mono hle, t.zo⟩
theorem two_y (t : Two U n w0 Z p g q h W) {f : FuncId} {args : Array Value} {v : Value} {h' : GM} {n' : Nat} (hle : n ≤ n') (hc : St U n w0 (star (EscO g p) Z) q h W → Calls Try.prog f args W (StRet U n' w0 (star (EscO g p) Z) q h' v)) : Calls Try.prog f args W (TwoRet U n' w0 Z p g q h' v) := by
  refine (hc t.y).mono fun e W' hp => ?_
  obtain ⟨he, hs⟩ := hp
  exact ⟨he, hs.run.rot, t.ix, hs.inv, t.bx.mono hle, hs.hb, t.zo⟩
end
theorem and_one (x : Int) : (Op.intBits .and .i64 x 1 : Sem Value) = pure (.int .i64 (x % 2)) := by
  have h1 : ((BitVec.ofInt 64 x) &&& (BitVec.ofInt 64 1)).toNat = (x % 2).toNat := by
    rw [BitVec.toNat_and, show (BitVec.ofInt 64 1).toNat = 2 ^ 1 - 1 from rfl, Nat.and_two_pow_sub_one_eq_mod, BitVec.toNat_ofInt]
    have h2 : x % 18446744073709551616 % 2 = x % 2 := by omega
    have h4 : ((2 ^ 64 : Nat) : Int) = 18446744073709551616 := rfl
    rw [h4]
    have h5 : 0 ≤ x % 18446744073709551616 := Int.emod_nonneg _ (by decide)
    generalize x % 18446744073709551616 = y at *
    omega
  have h3 : 0 ≤ x % 2 ∧ x % 2 < 2 := by omega
  show (pure (.int .i64 (IntKind.i64.wrap (((BitVec.ofInt 64 x) &&& (BitVec.ofInt 64 1)).toNat : Int))) : Sem Value) = _
  rw [h1, IntWalk.i64_in _ (by omega)]
  congr 2
  omega
/-- The same operation between 0 and 1, and between 2 and 3. -/
def act01 (x : ActG) : ActG := { x with a := x.a % 2, b := x.b % 2 }
def act23 (x : ActG) : ActG := { x with a := 2 + x.a % 2, b := 2 + x.b % 2 }
theorem act01_in (x : ActG) : ((act01 x).a = 0 ∨ (act01 x).a = 1) ∧ ((act01 x).b = 0 ∨ (act01 x).b = 1) := by
  show (x.a % 2 = 0 ∨ x.a % 2 = 1) ∧ (x.b % 2 = 0 ∨ x.b % 2 = 1); omega
theorem act23_in (x : ActG) : ((act23 x).a = 2 ∨ (act23 x).a = 3) ∧ ((act23 x).b = 2 ∨ (act23 x).b = 3) := by
  show (2 + x.a % 2 = 2 ∨ 2 + x.a % 2 = 3) ∧ (2 + x.b % 2 = 2 ∨ 2 + x.b % 2 = 3); omega
/-- Replica 2 gets half of the units. -/
theorem half_ok {u h : Int} (h1 : 1 ≤ h) (h2 : h ≤ u) : giveE (newG 4 u) 0 2 h = 0 ∧ sendE (giveM (newG 4 u) 0 2 h) 0 2 = 0 ∧ delE (sendM (giveM (newG 4 u) 0 2 h) 0 2) 0 2 = true := by
  have hp : (newG 4 u).pair 0 2 = true := rfl
  have e1 : giveE (newG 4 u) 0 2 h = 0 := giveE_ok hp h1 h2 (by show (0 : Nat) - 0 < 100; decide)
  have e2 := give_eq e1
  have hp2 : (giveM (newG 4 u) 0 2 h).pair 0 2 = true := by rw [e2]; rfl
  have hm : ((giveM (newG 4 u) 0 2 h).pr (0, 2)).ms = [] := by rw [e2]; rfl
  have e3 : sendE (giveM (newG 4 u) 0 2 h) 0 2 = 0 := sendE_ok hp2 (by rw [hm]; decide)
  obtain ⟨s1, s2, s3, s4, s5, s6, s7⟩ := send_dlv e3
  exact ⟨e1, e3, delE_iff.2 ⟨by rw [send_pair]; exact hp2, by rw [s7]; simp⟩⟩

set_option maxRecDepth 100000 in
set_option maxHeartbeats 4000000 in
theorem others_tail : True := trivial
set_option maxRecDepth 100000 in
set_option maxHeartbeats 8000000 in
theorem others_any {W : World} {u : Int} (hu : 0 ≤ u ∧ u ≤ 65535) {A : Option Addr} {n c : Nat} {l : List ActG} (hl : Acts W A n l) {B : Option Addr} {m d : Nat} {r : List ActG} (hm : Acts W B m r) :
    Calls Try.prog 9 #[.int .u16 u, .slice A n c, .slice B m d] W (BelowRet W (.bool true)) := by
  have KH := hide (head_any W)
  have KN := hide (fun w1 (hb : Below W.heap.size W w1) => st_new emp_ok ((Run.begin W).below emp_ok hb) 4 u (by omega) (by omega) (by omega) (by omega))
  have HL := hide hl
  have HM := hide hm
  have hu1 := hu.1
  have hu2 := hu.2
  clear hl hm hu
  go_enter Try.func9, Try.ntmps9
  go_wp2_with fail
  refine KH.out.mono ?_
  rintro e w1 ⟨rfl, hb1⟩
  have K := hide (KN.out w1 hb1)
  clear hb1 KH KN
  go_wp2_with fail
  refine K.out.mono ?_
  rintro e w2 ⟨p, rfl, hS⟩
  have KN := hide (st_new (star_ok escO_ok emp_ok) hS.run 4 u (by omega) (by omega) (by omega) (by omega))
  have HI := hide hS.inv
  have HHB := hide hS.hb
  clear hS K
  go_wp2_with fail
  refine KN.out.mono ?_
  rintro e w3 ⟨q, rfl, hS⟩
  have HT := hide (show Two u 0 W emp p (newG 4 u) q (newG 4 u) w3 from ⟨hS.run.rot, HI.out, hS.inv, HHB.out, hS.hb, emp_ok⟩)
  have HSIM := hide (Sim.refl (x := newG 4 u) (by rfl))
  clear hS KN HI HHB
  have hT := HT.out
  clear HT
  by_cases hh : 0 < u / 2
  · obtain ⟨h1, h2, h3⟩ := half_ok (u := u) (h := u / 2) (by omega) (by omega)
    have H1 := hide h1
    have H2 := hide h2
    have H3 := hide h3
    clear h1 h2 h3
    have K10 := hide (two_x hT (by omega) (fun hS => st_give hS (by omega) 0 2 (u / 2)))
    rw [H1.out] at K10
    clear hT
    go_wp2_with fail
    refine K10.out.mono ?_
    rintro e w10 ⟨rfl, hT⟩
    clear K10
    have K11 := hide (two_x hT (by omega) (fun hS => st_send hS (by omega) 0 2))
    rw [H2.out] at K11
    clear hT
    go_wp2_with fail
    refine K11.out.mono ?_
    rintro e w11 ⟨rfl, hT⟩
    clear K11
    have K12 := hide (two_x hT (by omega) (fun hS => st_del hS (by omega) 0 2 false false))
    rw [H3.out] at K12
    clear hT
    go_wp2_with fail
    refine K12.out.mono ?_
    rintro e w12 ⟨rfl, hT⟩
    clear K12
    have K13 := hide (two_y hT (by omega) (fun hS => st_give hS (by omega) 0 2 (u / 2)))
    rw [H1.out] at K13
    clear hT
    go_wp2_with fail
    refine K13.out.mono ?_
    rintro e w13 ⟨rfl, hT⟩
    clear K13
    have K14 := hide (two_y hT (by omega) (fun hS => st_send hS (by omega) 0 2))
    rw [H2.out] at K14
    clear hT
    go_wp2_with fail
    refine K14.out.mono ?_
    rintro e w14 ⟨rfl, hT⟩
    clear K14
    have K15 := hide (two_y hT (by omega) (fun hS => st_del hS (by omega) 0 2 false false))
    rw [H3.out] at K15
    clear hT
    go_wp2_with fail
    refine K15.out.mono ?_
    rintro e w15 ⟨rfl, hT⟩
    clear K15
    have HSIM := hide (Sim.refl (x := delM (sendM (giveM (newG 4 u) 0 2 (u / 2)) 0 2) 0 2 false false) (by rw [del_len, (send_dlv H2.out).1, give_eq H1.out]; rfl))
    clear H1 H2 H3
    generalize delM (sendM (giveM (newG 4 u) 0 2 (u / 2)) 0 2) 0 2 false false = g0 at *
    have HT := hide hT
    clear hT
    go_wp2_with fail
    go_loopw [13] (fun i wr => ∃ (j : Nat) (gx gy : GM), j ≤ n ∧ j ≤ 150 ∧ i = .int .i64 j ∧ Two u (10 + 3 * j) W emp p gx q gy wr ∧ Sim gx gy) (fun i _ => n - (intOf i).toNat)
    case atStart => exact ⟨0, g0, g0, by omega, by omega, rfl, HT.out.up (by omega), HSIM.out⟩
    case round =>
      obtain ⟨j, gx, gy, hj, hj1, rfl, hT, hs⟩ := hrel
      clear HT HSIM
      by_cases hlt : j < n
      · by_cases hlt2 : j < 150
        · obtain ⟨b, o, rfl, c0, c1, c2, c3, c4, c5⟩ := (HL.out.run hT.run).at_ hlt
          have hok := HL.out.ok (l[j]'(by have := HL.out.len; omega)) (List.getElem_mem _)
          have hi1 : (j : Int) < 150 := by omega
          generalize l[j]'(by have := HL.out.len; omega) = x at *
          have hT2 := hT.box #[.int .i64 x.k, .int .i64 (x.a % 2), .int .i64 (x.b % 2), .int .i64 x.u, .bool x.lost, .bool x.again] 34
          obtain ⟨z1, z2, z3⟩ := hs.do (act01_in x).1 (act01_in x).2
          have Z1 := hide z1
          have Z2 := hide z2
          have Z3 := hide z3
          have an1 := and_one x.a
          have an2 := and_one x.b
          have HOK := hide hok
          have hT := hT2
          clear hs z1 z2 z3 hok hT2
          have K16 := hide (two_x hT (by omega) (fun hS => st_do hS (by omega) (act01 x) HOK.out.1))
          rw [show actV (act01 x) = #[.int .i64 x.k, .int .i64 (x.a % 2), .int .i64 (x.b % 2), .int .i64 x.u, .bool x.lost, .bool x.again] from rfl] at K16
          rw [Z1.out, Z2.out] at K16
          clear hT
          go_wp2_with fail
          refine K16.out.mono ?_
          rintro e w16 ⟨rfl, hT⟩
          clear K16
          have q0 := hT.cell (i := 0) rfl
          have q1 := hT.cell (i := 1) rfl
          have q2 := hT.cell (i := 2) rfl
          have q3 := hT.cell (i := 3) rfl
          have q4 := hT.cell (i := 4) rfl
          have q5 := hT.cell (i := 5) rfl
          clear c0 c1 c2 c3 c4 c5 an1 an2
          have K17 := hide (two_y hT (by omega) (fun hS => st_do hS (by omega) (act01 x) HOK.out.1))
          rw [show actV (act01 x) = #[.int .i64 x.k, .int .i64 (x.a % 2), .int .i64 (x.b % 2), .int .i64 x.u, .bool x.lost, .bool x.again] from rfl] at K17
          clear hT
          go_wp2_with fail
          refine K17.out.mono ?_
          rintro e w17 ⟨rfl, hT⟩
          clear K17
          have hT2 := hT.unbox
          clear hT q0 q1 q2 q3 q4 q5
          generalize doE gy (act01 x) = ev at *
          generalize doB gy (act01 x) = bv at *
          generalize doM gx (act01 x) = gx1 at *
          generalize doM gy (act01 x) = gy1 at *
          clear Z1 Z2 HOK
          have HT2 := hide hT2
          clear hT2
          by_cases hlt3 : j < m
          · obtain ⟨b3, o3, rfl, c0, c1, c2, c3, c4, c5⟩ := (HM.out.run HT2.out.run).at_ hlt3
            have hok := HM.out.ok (r[j]'(by have := HM.out.len; omega)) (List.getElem_mem _)
            generalize r[j]'(by have := HM.out.len; omega) = y at *
            have hT := HT2.out.box #[.int .i64 y.k, .int .i64 (2 + y.a % 2), .int .i64 (2 + y.b % 2), .int .i64 y.u, .bool y.lost, .bool y.again] 34
            have an1 := and_one y.a
            have an2 := and_one y.b
            have HOK := hide hok
            have hb1 : 0 ≤ y.a % 2 := by omega
            have hb2 : y.a % 2 ≤ 1 := by omega
            have hb3 : 0 ≤ y.b % 2 := by omega
            have hb4 : y.b % 2 ≤ 1 := by omega
            have Z4 := hide (Z3.out.other (act23_in y).1 (act23_in y).2)
            clear hok HT2
            have K18 := hide (two_y hT (by omega) (fun hS => st_do hS (by omega) (act23 y) HOK.out.1))
            rw [show actV (act23 y) = #[.int .i64 y.k, .int .i64 (2 + y.a % 2), .int .i64 (2 + y.b % 2), .int .i64 y.u, .bool y.lost, .bool y.again] from rfl] at K18
            clear hT
            go_wp2_with fail
            refine K18.out.mono ?_
            rintro e w18 ⟨rfl, hT⟩
            clear K18
            have HT := hide hT.unbox
            clear hT c0 c1 c2 c3 c4 c5 an1 an2 hb1 hb2 hb3 hb4
            generalize doM gy1 (act23 y) = gy2 at *
            go_wp2_with fail
            go_roundw
            case rel => exact ⟨j + 1, gx1, gy2, by omega, by omega, by go_num, HT.out.up (by omega), Z4.out⟩
            case measure => simp [intOf]; omega
          · go_wp2_with fail
            go_roundw
            case rel => exact ⟨j + 1, gx1, gy1, by omega, by omega, by go_num, HT2.out.up (by omega), Z3.out⟩
            case measure => simp [intOf]; omega
        · obtain rfl : j = 150 := by omega
          have hi1 : ¬ (((150 : Nat) : Int) < 150) := by omega
          have HT3 := hide (hT.up (k := 1000) (by omega))
          have HS3 := hide hs
          clear hT hs
          go_wp2_with fail
          go_loopw [20] (fun i wr => ∃ (k : Nat) (ga gb : GM), k ≤ 2 ∧ i = .int .i64 k ∧ Two u 1000 W emp p ga q gb wr ∧ Sim ga gb) (fun i _ => 2 - (intOf i).toNat)
          case atStart => exact ⟨0, gx, gy, by omega, rfl, HT3.out, HS3.out⟩
          case round =>
            obtain ⟨k, ga, gb, hk, rfl, hT, hs⟩ := hrel
            clear HT3 HS3
            by_cases hk2 : k < 2
            · have hk01 : (k : Int) = 0 ∨ (k : Int) = 1 := by omega
              have z1 := hs.have_ hk01
              obtain ⟨z2, z3⟩ := hs.spend hk01 1
              have Z1 := hide z1
              have Z2 := hide z2
              have Z3 := hide z3
              have hk3 : (k : Int) < 2 := by omega
              clear hs z1 z2 z3 hk01
              have K19 := hide (two_x hT (by omega) (fun hS => st_have hS k))
              rw [Z1.out] at K19
              clear hT
              go_wp2_with fail
              refine K19.out.mono ?_
              rintro e w19 ⟨rfl, hT⟩
              clear K19
              have K20 := hide (two_y hT (by omega) (fun hS => st_have hS k))
              clear hT
              go_wp2_with fail
              refine K20.out.mono ?_
              rintro e w20 ⟨rfl, hT⟩
              clear K20
              have K21 := hide (two_x hT (by omega) (fun hS => st_spend hS k 1 (by omega)))
              rw [Z2.out] at K21
              clear hT
              go_wp2_with fail
              refine K21.out.mono ?_
              rintro e w21 ⟨rfl, hT⟩
              clear K21
              have K22 := hide (two_y hT (by omega) (fun hS => st_spend hS k 1 (by omega)))
              clear hT
              go_wp2_with fail
              refine K22.out.mono ?_
              rintro e w22 ⟨rfl, hT⟩
              clear K22
              have HT3 := hide hT
              clear hT
              generalize spendM ga k 1 = ga1 at *
              generalize spendM gb k 1 = gb1 at *
              generalize have_ gb k = hv at *
              generalize spendE gb k 1 = sv at *
              clear Z1 Z2
              go_wp2_with fail
              go_roundw
              case rel => exact ⟨k + 1, ga1, gb1, by omega, by go_num, HT3.out, Z3.out⟩
              case measure => simp [intOf]; omega
            · have hk3 : ¬ ((k : Int) < 2) := by omega
              have HB := hide hT.run.bel
              clear hT hs
              go_wp2_with fail
              go_ret
              exact ⟨rfl, HB.out⟩
      · obtain rfl : j = n := by omega
        have HT3 := hide (hT.up (k := 1000) (by omega))
        have HS3 := hide hs
        clear hT hs
        go_wp2_with fail
        go_loopw [20] (fun i wr => ∃ (k : Nat) (ga gb : GM), k ≤ 2 ∧ i = .int .i64 k ∧ Two u 1000 W emp p ga q gb wr ∧ Sim ga gb) (fun i _ => 2 - (intOf i).toNat)
        case atStart => exact ⟨0, gx, gy, by omega, rfl, HT3.out, HS3.out⟩
        case round =>
          obtain ⟨k, ga, gb, hk, rfl, hT, hs⟩ := hrel
          clear HT3 HS3
          by_cases hk2 : k < 2
          · have hk01 : (k : Int) = 0 ∨ (k : Int) = 1 := by omega
            have z1 := hs.have_ hk01
            obtain ⟨z2, z3⟩ := hs.spend hk01 1
            have Z1 := hide z1
            have Z2 := hide z2
            have Z3 := hide z3
            have hk3 : (k : Int) < 2 := by omega
            clear hs z1 z2 z3 hk01
            have K23 := hide (two_x hT (by omega) (fun hS => st_have hS k))
            rw [Z1.out] at K23
            clear hT
            go_wp2_with fail
            refine K23.out.mono ?_
            rintro e w23 ⟨rfl, hT⟩
            clear K23
            have K24 := hide (two_y hT (by omega) (fun hS => st_have hS k))
            clear hT
            go_wp2_with fail
            refine K24.out.mono ?_
            rintro e w24 ⟨rfl, hT⟩
            clear K24
            have K25 := hide (two_x hT (by omega) (fun hS => st_spend hS k 1 (by omega)))
            rw [Z2.out] at K25
            clear hT
            go_wp2_with fail
            refine K25.out.mono ?_
            rintro e w25 ⟨rfl, hT⟩
            clear K25
            have K26 := hide (two_y hT (by omega) (fun hS => st_spend hS k 1 (by omega)))
            clear hT
            go_wp2_with fail
            refine K26.out.mono ?_
            rintro e w26 ⟨rfl, hT⟩
            clear K26
            have HT3 := hide hT
            clear hT
            generalize spendM ga k 1 = ga1 at *
            generalize spendM gb k 1 = gb1 at *
            generalize have_ gb k = hv at *
            generalize spendE gb k 1 = sv at *
            clear Z1 Z2
            go_wp2_with fail
            go_roundw
            case rel => exact ⟨k + 1, ga1, gb1, by omega, by go_num, HT3.out, Z3.out⟩
            case measure => simp [intOf]; omega
          · have hk3 : ¬ ((k : Int) < 2) := by omega
            have HB := hide hT.run.bel
            clear hT hs
            go_wp2_with fail
            go_ret
            exact ⟨rfl, HB.out⟩
  · skip
    have HT := hide hT
    clear hT
    go_wp2_with fail
    go_loopw [13] (fun i wr => ∃ (j : Nat) (gx gy : GM), j ≤ n ∧ j ≤ 150 ∧ i = .int .i64 j ∧ Two u (10 + 3 * j) W emp p gx q gy wr ∧ Sim gx gy) (fun i _ => n - (intOf i).toNat)
    case atStart => exact ⟨0, newG 4 u, newG 4 u, by omega, by omega, rfl, HT.out.up (by omega), HSIM.out⟩
    case round =>
      obtain ⟨j, gx, gy, hj, hj1, rfl, hT, hs⟩ := hrel
      clear HT HSIM
      by_cases hlt : j < n
      · by_cases hlt2 : j < 150
        · obtain ⟨b, o, rfl, c0, c1, c2, c3, c4, c5⟩ := (HL.out.run hT.run).at_ hlt
          have hok := HL.out.ok (l[j]'(by have := HL.out.len; omega)) (List.getElem_mem _)
          have hi1 : (j : Int) < 150 := by omega
          generalize l[j]'(by have := HL.out.len; omega) = x at *
          have hT2 := hT.box #[.int .i64 x.k, .int .i64 (x.a % 2), .int .i64 (x.b % 2), .int .i64 x.u, .bool x.lost, .bool x.again] 34
          obtain ⟨z1, z2, z3⟩ := hs.do (act01_in x).1 (act01_in x).2
          have Z1 := hide z1
          have Z2 := hide z2
          have Z3 := hide z3
          have an1 := and_one x.a
          have an2 := and_one x.b
          have HOK := hide hok
          have hT := hT2
          clear hs z1 z2 z3 hok hT2
          have K27 := hide (two_x hT (by omega) (fun hS => st_do hS (by omega) (act01 x) HOK.out.1))
          rw [show actV (act01 x) = #[.int .i64 x.k, .int .i64 (x.a % 2), .int .i64 (x.b % 2), .int .i64 x.u, .bool x.lost, .bool x.again] from rfl] at K27
          rw [Z1.out, Z2.out] at K27
          clear hT
          go_wp2_with fail
          refine K27.out.mono ?_
          rintro e w27 ⟨rfl, hT⟩
          clear K27
          have q0 := hT.cell (i := 0) rfl
          have q1 := hT.cell (i := 1) rfl
          have q2 := hT.cell (i := 2) rfl
          have q3 := hT.cell (i := 3) rfl
          have q4 := hT.cell (i := 4) rfl
          have q5 := hT.cell (i := 5) rfl
          clear c0 c1 c2 c3 c4 c5 an1 an2
          have K28 := hide (two_y hT (by omega) (fun hS => st_do hS (by omega) (act01 x) HOK.out.1))
          rw [show actV (act01 x) = #[.int .i64 x.k, .int .i64 (x.a % 2), .int .i64 (x.b % 2), .int .i64 x.u, .bool x.lost, .bool x.again] from rfl] at K28
          clear hT
          go_wp2_with fail
          refine K28.out.mono ?_
          rintro e w28 ⟨rfl, hT⟩
          clear K28
          have hT2 := hT.unbox
          clear hT q0 q1 q2 q3 q4 q5
          generalize doE gy (act01 x) = ev at *
          generalize doB gy (act01 x) = bv at *
          generalize doM gx (act01 x) = gx1 at *
          generalize doM gy (act01 x) = gy1 at *
          clear Z1 Z2 HOK
          have HT2 := hide hT2
          clear hT2
          by_cases hlt3 : j < m
          · obtain ⟨b3, o3, rfl, c0, c1, c2, c3, c4, c5⟩ := (HM.out.run HT2.out.run).at_ hlt3
            have hok := HM.out.ok (r[j]'(by have := HM.out.len; omega)) (List.getElem_mem _)
            generalize r[j]'(by have := HM.out.len; omega) = y at *
            have hT := HT2.out.box #[.int .i64 y.k, .int .i64 (2 + y.a % 2), .int .i64 (2 + y.b % 2), .int .i64 y.u, .bool y.lost, .bool y.again] 34
            have an1 := and_one y.a
            have an2 := and_one y.b
            have HOK := hide hok
            have hb1 : 0 ≤ y.a % 2 := by omega
            have hb2 : y.a % 2 ≤ 1 := by omega
            have hb3 : 0 ≤ y.b % 2 := by omega
            have hb4 : y.b % 2 ≤ 1 := by omega
            have Z4 := hide (Z3.out.other (act23_in y).1 (act23_in y).2)
            clear hok HT2
            have K29 := hide (two_y hT (by omega) (fun hS => st_do hS (by omega) (act23 y) HOK.out.1))
            rw [show actV (act23 y) = #[.int .i64 y.k, .int .i64 (2 + y.a % 2), .int .i64 (2 + y.b % 2), .int .i64 y.u, .bool y.lost, .bool y.again] from rfl] at K29
            clear hT
            go_wp2_with fail
            refine K29.out.mono ?_
            rintro e w29 ⟨rfl, hT⟩
            clear K29
            have HT := hide hT.unbox
            clear hT c0 c1 c2 c3 c4 c5 an1 an2 hb1 hb2 hb3 hb4
            generalize doM gy1 (act23 y) = gy2 at *
            go_wp2_with fail
            go_roundw
            case rel => exact ⟨j + 1, gx1, gy2, by omega, by omega, by go_num, HT.out.up (by omega), Z4.out⟩
            case measure => simp [intOf]; omega
          · go_wp2_with fail
            go_roundw
            case rel => exact ⟨j + 1, gx1, gy1, by omega, by omega, by go_num, HT2.out.up (by omega), Z3.out⟩
            case measure => simp [intOf]; omega
        · obtain rfl : j = 150 := by omega
          have hi1 : ¬ (((150 : Nat) : Int) < 150) := by omega
          have HT3 := hide (hT.up (k := 1000) (by omega))
          have HS3 := hide hs
          clear hT hs
          go_wp2_with fail
          go_loopw [20] (fun i wr => ∃ (k : Nat) (ga gb : GM), k ≤ 2 ∧ i = .int .i64 k ∧ Two u 1000 W emp p ga q gb wr ∧ Sim ga gb) (fun i _ => 2 - (intOf i).toNat)
          case atStart => exact ⟨0, gx, gy, by omega, rfl, HT3.out, HS3.out⟩
          case round =>
            obtain ⟨k, ga, gb, hk, rfl, hT, hs⟩ := hrel
            clear HT3 HS3
            by_cases hk2 : k < 2
            · have hk01 : (k : Int) = 0 ∨ (k : Int) = 1 := by omega
              have z1 := hs.have_ hk01
              obtain ⟨z2, z3⟩ := hs.spend hk01 1
              have Z1 := hide z1
              have Z2 := hide z2
              have Z3 := hide z3
              have hk3 : (k : Int) < 2 := by omega
              clear hs z1 z2 z3 hk01
              have K30 := hide (two_x hT (by omega) (fun hS => st_have hS k))
              rw [Z1.out] at K30
              clear hT
              go_wp2_with fail
              refine K30.out.mono ?_
              rintro e w30 ⟨rfl, hT⟩
              clear K30
              have K31 := hide (two_y hT (by omega) (fun hS => st_have hS k))
              clear hT
              go_wp2_with fail
              refine K31.out.mono ?_
              rintro e w31 ⟨rfl, hT⟩
              clear K31
              have K32 := hide (two_x hT (by omega) (fun hS => st_spend hS k 1 (by omega)))
              rw [Z2.out] at K32
              clear hT
              go_wp2_with fail
              refine K32.out.mono ?_
              rintro e w32 ⟨rfl, hT⟩
              clear K32
              have K33 := hide (two_y hT (by omega) (fun hS => st_spend hS k 1 (by omega)))
              clear hT
              go_wp2_with fail
              refine K33.out.mono ?_
              rintro e w33 ⟨rfl, hT⟩
              clear K33
              have HT3 := hide hT
              clear hT
              generalize spendM ga k 1 = ga1 at *
              generalize spendM gb k 1 = gb1 at *
              generalize have_ gb k = hv at *
              generalize spendE gb k 1 = sv at *
              clear Z1 Z2
              go_wp2_with fail
              go_roundw
              case rel => exact ⟨k + 1, ga1, gb1, by omega, by go_num, HT3.out, Z3.out⟩
              case measure => simp [intOf]; omega
            · have hk3 : ¬ ((k : Int) < 2) := by omega
              have HB := hide hT.run.bel
              clear hT hs
              go_wp2_with fail
              go_ret
              exact ⟨rfl, HB.out⟩
      · obtain rfl : j = n := by omega
        have HT3 := hide (hT.up (k := 1000) (by omega))
        have HS3 := hide hs
        clear hT hs
        go_wp2_with fail
        go_loopw [20] (fun i wr => ∃ (k : Nat) (ga gb : GM), k ≤ 2 ∧ i = .int .i64 k ∧ Two u 1000 W emp p ga q gb wr ∧ Sim ga gb) (fun i _ => 2 - (intOf i).toNat)
        case atStart => exact ⟨0, gx, gy, by omega, rfl, HT3.out, HS3.out⟩
        case round =>
          obtain ⟨k, ga, gb, hk, rfl, hT, hs⟩ := hrel
          clear HT3 HS3
          by_cases hk2 : k < 2
          · have hk01 : (k : Int) = 0 ∨ (k : Int) = 1 := by omega
            have z1 := hs.have_ hk01
            obtain ⟨z2, z3⟩ := hs.spend hk01 1
            have Z1 := hide z1
            have Z2 := hide z2
            have Z3 := hide z3
            have hk3 : (k : Int) < 2 := by omega
            clear hs z1 z2 z3 hk01
            have K34 := hide (two_x hT (by omega) (fun hS => st_have hS k))
            rw [Z1.out] at K34
            clear hT
            go_wp2_with fail
            refine K34.out.mono ?_
            rintro e w34 ⟨rfl, hT⟩
            clear K34
            have K35 := hide (two_y hT (by omega) (fun hS => st_have hS k))
            clear hT
            go_wp2_with fail
            refine K35.out.mono ?_
            rintro e w35 ⟨rfl, hT⟩
            clear K35
            have K36 := hide (two_x hT (by omega) (fun hS => st_spend hS k 1 (by omega)))
            rw [Z2.out] at K36
            clear hT
            go_wp2_with fail
            refine K36.out.mono ?_
            rintro e w36 ⟨rfl, hT⟩
            clear K36
            have K37 := hide (two_y hT (by omega) (fun hS => st_spend hS k 1 (by omega)))
            clear hT
            go_wp2_with fail
            refine K37.out.mono ?_
            rintro e w37 ⟨rfl, hT⟩
            clear K37
            have HT3 := hide hT
            clear hT
            generalize spendM ga k 1 = ga1 at *
            generalize spendM gb k 1 = gb1 at *
            generalize have_ gb k = hv at *
            generalize spendE gb k 1 = sv at *
            clear Z1 Z2
            go_wp2_with fail
            go_roundw
            case rel => exact ⟨k + 1, ga1, gb1, by omega, by go_num, HT3.out, Z3.out⟩
            case measure => simp [intOf]; omega
          · have hk3 : ¬ ((k : Int) < 2) := by omega
            have HB := hide hT.run.bel
            clear hT hs
            go_wp2_with fail
            go_ret
            exact ⟨rfl, HB.out⟩
end Go.Proofs.Ytapabbpdfplpoaa
