/-
  Escrow: head, the chapter's examples.
-/
import Derived.Test.YtapabbpdfplpoaaE27
set_option linter.unusedSimpArgs false
set_option linter.unusedVariables false
namespace Go.Proofs.Ytapabbpdfplpoaa
open Go.RowKit Go.CH Go.CH.Esc
open Go.ChangeMaps (setBlock)

noncomputable def hg0 : GM := newG 2 10
theorem hv0 : giveE hg0 0 1 4 = 0 := by decide +kernel
noncomputable def hg1 : GM := giveM hg0 0 1 4
theorem hv1 : have_ hg1 0 = 6 := by decide +kernel
theorem hv2 : have_ hg1 1 = 0 := by decide +kernel
theorem hv3 : flyG hg1 = 4 := by decide +kernel
theorem hv4 : spentG hg1 = 0 := by decide +kernel
theorem hv5 : spendE hg1 0 7 = 19 := by decide +kernel
noncomputable def hg2 : GM := spendM hg1 0 7
theorem hv6 : sendE hg2 0 1 = 0 := by decide +kernel
noncomputable def hg3 : GM := sendM hg2 0 1
theorem hv7 : delE hg3 0 1 = true := by decide +kernel
noncomputable def hg4 : GM := delM hg3 0 1 true true
theorem hv8 : have_ hg4 1 = 0 := by decide +kernel
theorem hv9 : delE hg4 0 1 = true := by decide +kernel
noncomputable def hg5 : GM := delM hg4 0 1 false true
theorem hv10 : delE hg5 0 1 = true := by decide +kernel
noncomputable def hg6 : GM := delM hg5 0 1 false false
theorem hv11 : delE hg6 0 1 = false := by decide +kernel
noncomputable def hg7 : GM := delM hg6 0 1 false false
theorem hv12 : have_ hg7 0 = 6 := by decide +kernel
theorem hv13 : have_ hg7 1 = 4 := by decide +kernel
theorem hv14 : flyG hg7 = 0 := by decide +kernel
theorem hv15 : spendE hg7 1 1 = 0 := by decide +kernel
noncomputable def hg8 : GM := spendM hg7 1 1
theorem hv16 : revE hg8 0 = 0 := by decide +kernel
noncomputable def hg9 : GM := revM hg8 0
theorem hv17 : sendE hg9 0 1 = 0 := by decide +kernel
noncomputable def hg10 : GM := sendM hg9 0 1
theorem hv18 : delE hg10 0 1 = true := by decide +kernel
noncomputable def hg11 : GM := delM hg10 0 1 false false
theorem hv19 : spendE hg11 1 1 = 22 := by decide +kernel
noncomputable def hg12 : GM := spendM hg11 1 1
theorem hv20 : retE hg12 1 1 = 0 := by decide +kernel
noncomputable def hg13 : GM := retM hg12 1 1
theorem hv21 : have_ hg13 1 = 4 := by decide +kernel
set_option maxRecDepth 100000 in
set_option maxHeartbeats 4000000 in
theorem head_any (W : World) : Calls Try.prog 17 #[] W (BelowRet W (.bool true)) := by
  have KN := hide (st_new emp_ok (Run.begin W) 2 10 (by omega) (by omega) (by omega) (by omega))
  go_enter Try.func17, Try.ntmps17
  go_wp2_with fail
  refine KN.out.mono ?_
  rintro e v0 ⟨p, rfl, hS⟩
  have S := hide (show St 10 0 W emp p hg0 v0 from hS)
  clear hS KN
  have KN := hide (new_no 9 10 v0 (by omega))
  go_wp2_with fail
  refine KN.out.mono ?_
  rintro e w' ⟨rfl, rfl⟩
  clear KN
  have K0 := hide (st_give S.out (by omega) 0 1 4)
  rw [hv0] at K0
  rw [show giveM hg0 0 1 4 = hg1 from rfl] at K0
  clear S
  go_wp2_with fail
  refine K0.out.mono ?_
  rintro e w0 ⟨rfl, hS⟩
  have S := hide hS
  clear hS K0
  have K1 := hide (st_have S.out 0)
  rw [hv1] at K1
  clear S
  go_wp2_with fail
  refine K1.out.mono ?_
  rintro e w1 ⟨rfl, hS⟩
  have S := hide hS
  clear hS K1
  have K2 := hide (st_have S.out 1)
  rw [hv2] at K2
  clear S
  go_wp2_with fail
  refine K2.out.mono ?_
  rintro e w2 ⟨rfl, hS⟩
  have S := hide hS
  clear hS K2
  have K3 := hide (st_fly S.out (by omega))
  rw [hv3] at K3
  clear S
  go_wp2_with fail
  refine K3.out.mono ?_
  rintro e w3 ⟨rfl, hS⟩
  have S := hide hS
  clear hS K3
  have K4 := hide (st_spent S.out)
  rw [hv4] at K4
  clear S
  go_wp2_with fail
  refine K4.out.mono ?_
  rintro e w4 ⟨rfl, hS⟩
  have S := hide hS
  clear hS K4
  have K5 := hide (st_spend S.out 0 7 (by omega))
  rw [hv5] at K5
  rw [show spendM hg1 0 7 = hg2 from rfl] at K5
  clear S
  go_wp2_with fail
  refine K5.out.mono ?_
  rintro e w5 ⟨rfl, hS⟩
  have S := hide hS
  clear hS K5
  have K6 := hide (st_send S.out (by omega) 0 1)
  rw [hv6] at K6
  rw [show sendM hg2 0 1 = hg3 from rfl] at K6
  clear S
  go_wp2_with fail
  refine K6.out.mono ?_
  rintro e w6 ⟨rfl, hS⟩
  have S := hide hS
  clear hS K6
  have K7 := hide (st_del S.out (by omega) 0 1 true true)
  rw [hv7] at K7
  rw [show delM hg3 0 1 true true = hg4 from rfl] at K7
  clear S
  go_wp2_with fail
  refine K7.out.mono ?_
  rintro e w7 ⟨rfl, hS⟩
  have S := hide hS
  clear hS K7
  have K8 := hide (st_have S.out 1)
  rw [hv8] at K8
  clear S
  go_wp2_with fail
  refine K8.out.mono ?_
  rintro e w8 ⟨rfl, hS⟩
  have S := hide hS
  clear hS K8
  have K9 := hide (st_del S.out (by omega) 0 1 false true)
  rw [hv9] at K9
  rw [show delM hg4 0 1 false true = hg5 from rfl] at K9
  clear S
  go_wp2_with fail
  refine K9.out.mono ?_
  rintro e w9 ⟨rfl, hS⟩
  have S := hide hS
  clear hS K9
  have K10 := hide (st_del S.out (by omega) 0 1 false false)
  rw [hv10] at K10
  rw [show delM hg5 0 1 false false = hg6 from rfl] at K10
  clear S
  go_wp2_with fail
  refine K10.out.mono ?_
  rintro e w10 ⟨rfl, hS⟩
  have S := hide hS
  clear hS K10
  have K11 := hide (st_del S.out (by omega) 0 1 false false)
  rw [hv11] at K11
  rw [show delM hg6 0 1 false false = hg7 from rfl] at K11
  clear S
  go_wp2_with fail
  refine K11.out.mono ?_
  rintro e w11 ⟨rfl, hS⟩
  have S := hide hS
  clear hS K11
  have K12 := hide (st_have S.out 0)
  rw [hv12] at K12
  clear S
  go_wp2_with fail
  refine K12.out.mono ?_
  rintro e w12 ⟨rfl, hS⟩
  have S := hide hS
  clear hS K12
  have K13 := hide (st_have S.out 1)
  rw [hv13] at K13
  clear S
  go_wp2_with fail
  refine K13.out.mono ?_
  rintro e w13 ⟨rfl, hS⟩
  have S := hide hS
  clear hS K13
  have K14 := hide (st_fly S.out (by omega))
  rw [hv14] at K14
  clear S
  go_wp2_with fail
  refine K14.out.mono ?_
  rintro e w14 ⟨rfl, hS⟩
  have S := hide hS
  clear hS K14
  have K15 := hide (st_spend S.out 1 1 (by omega))
  rw [hv15] at K15
  rw [show spendM hg7 1 1 = hg8 from rfl] at K15
  clear S
  go_wp2_with fail
  refine K15.out.mono ?_
  rintro e w15 ⟨rfl, hS⟩
  have S := hide hS
  clear hS K15
  have K16 := hide (st_rev S.out 0)
  rw [hv16] at K16
  rw [show revM hg8 0 = hg9 from rfl] at K16
  clear S
  go_wp2_with fail
  refine K16.out.mono ?_
  rintro e w16 ⟨rfl, hS⟩
  have S := hide hS
  clear hS K16
  have K17 := hide (st_send S.out (by omega) 0 1)
  rw [hv17] at K17
  rw [show sendM hg9 0 1 = hg10 from rfl] at K17
  clear S
  go_wp2_with fail
  refine K17.out.mono ?_
  rintro e w17 ⟨rfl, hS⟩
  have S := hide hS
  clear hS K17
  have K18 := hide (st_del S.out (by omega) 0 1 false false)
  rw [hv18] at K18
  rw [show delM hg10 0 1 false false = hg11 from rfl] at K18
  clear S
  go_wp2_with fail
  refine K18.out.mono ?_
  rintro e w18 ⟨rfl, hS⟩
  have S := hide hS
  clear hS K18
  have K19 := hide (st_spend S.out 1 1 (by omega))
  rw [hv19] at K19
  rw [show spendM hg11 1 1 = hg12 from rfl] at K19
  clear S
  go_wp2_with fail
  refine K19.out.mono ?_
  rintro e w19 ⟨rfl, hS⟩
  have S := hide hS
  clear hS K19
  have K20 := hide (st_ret S.out 1 1 (by omega))
  rw [hv20] at K20
  rw [show retM hg12 1 1 = hg13 from rfl] at K20
  clear S
  go_wp2_with fail
  refine K20.out.mono ?_
  rintro e w20 ⟨rfl, hS⟩
  have S := hide hS
  clear hS K20
  have K21 := hide (st_have S.out 1)
  rw [hv21] at K21
  clear S
  go_wp2_with fail
  refine K21.out.mono ?_
  rintro e w21 ⟨rfl, hS⟩
  have S := hide hS
  clear hS K21
  have N1 := hide (spend_nil (w := w21) 0 1 (by omega))
  have N2 := hide (have_nil 0 w21)
  have N3 := hide (del_nil (w := w21) 0 1 false false)
  have HB := hide S.out.bel
  clear S
  go_wp2_with fail
  refine N1.out.mono ?_
  rintro e w' ⟨rfl, rfl⟩
  go_wp2_with fail
  refine N2.out.mono ?_
  rintro e w' ⟨rfl, rfl⟩
  go_wp2_with fail
  refine N3.out.mono ?_
  rintro e w' ⟨rfl, rfl⟩
  go_wp2_with fail
  go_ret
  exact ⟨rfl, HB.out⟩
end Go.Proofs.Ytapabbpdfplpoaa
