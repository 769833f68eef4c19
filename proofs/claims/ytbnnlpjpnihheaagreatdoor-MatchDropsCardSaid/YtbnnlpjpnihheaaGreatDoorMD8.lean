import Derived.Test.YtbnnlpjpnihheaaGreatDoorMD7
import Derived.Deep.DeepCutAuto
import Derived.Test.YtbnnlpjpnihheaaGreatDoorMD4
set_option linter.unusedSimpArgs false
set_option linter.unusedVariables false
namespace Go.Proofs.YtbnnlpjpnihheaaGreatDoor
open Go.RowKit Go.CH Go.CH.Scr Go.CH.Pot Go.CH.Mtc
open Go.ChangeMaps (setBlock)
attribute [local go_sem] Oper.semAt_some
theorem VrsR.at {w:World} {A:Option Addr} {l:List Vr} (h:VrsR w A l) (hn:0 < l.length):∃ b o,A=some ⟨b,o,none⟩∧∀ w',Below w.heap.size w w'→∀ j (hj:j < l.length),
  w'.cell? ⟨b,o+j*3,none⟩=some (.string (bs l[j].w))∧w'.cell? ⟨b,o+j*3+1,none⟩=some (.int .i64 l[j].e)∧w'.cell? ⟨b,o+j*3+2,none⟩=some (.int .i64 l[j].c):=by
 obtain ⟨b,o,e,hc⟩:=Rst.at (R:=vcells) (fun _=>rfl) (by omega) h hn
 exact ⟨b,o,e,fun w' hb j hj=>⟨hc w' hb j hj 0 _ rfl,hc w' hb j hj 1 _ rfl,hc w' hb j hj 2 _ rfl⟩⟩
set_option maxHeartbeats 16000000 in
set_option maxRecDepth 100000 in
theorem ways_iter {u v:Wrd} {a c:WW} {T:Tab} {t:TA} {b1 b2 b3:Nat} (hu:0 < u.ls.length) (hv:0 < v.ls.length) (hun:u.vs.length≤1000000) (hvn:v.vs.length≤1000000) (huc:∀ x ∈ u.vs,0≤x.c∧x.c≤1000) (hvc:∀ x ∈ v.vs,0≤x.c∧x.c≤1000) (hul:u.ls.length≤1000000) (hvl:v.ls.length≤1000000) :
  IterJ Tryz.prog 93 #[.pointer (some ⟨b1,0,none⟩),.pointer (some ⟨b2,0,none⟩),.pointer (some ⟨b3,0,none⟩)] (ZyR u v a c) (Zy u v a c T t b1 b2 b3) wayE (waysL T.ini u.vs v.vs u.ls v.ls):=by
 intro n lo w F0 w0 X Y okX okY hE h0 hY
 have HY:=hide hY
 have HE:=hide hE
 have OKX:=hide okX
 have HUC:=hide huc
 have HVC:=hide hvc
 clear hY hE okX huc hvc
 obtain ⟨n1,hn1⟩:∃ k,k=u.vs.length:=⟨_,rfl⟩
 obtain ⟨m,hm⟩:∃ k,k=v.vs.length:=⟨_,rfl⟩
 have HN1:=hide hn1
 have HM:=hide hm
 have HWA:=hide (fun (i j:Nat) (hi:i < u.vs.length) (hj:j < v.vs.length)=>(show ∃ h:i*m+j < (waysL T.ini u.vs v.vs u.ls v.ls).length,(waysL T.ini u.vs v.vs u.ls v.ls)[i*m+j]=wayV u.vs[i] v.vs[j] from by rw [hm];exact ways_at hi hj))
 have HW2:=hide (fun (hp:u.ls.length=1)=>(show ∃ h:n1*m < (waysL T.ini u.vs v.vs u.ls v.ls).length,(waysL T.ini u.vs v.vs u.ls v.ls)[n1*m]=waysI 2 T.ini u.ls v.ls from by rw [hn1,hm];exact ways_two hp))
 have HW3:=hide (fun (hq:v.ls.length=1) (k:Nat) (hk:k=n1*m+if u.ls.length=1 then 1 else 0)=>ways_three (ini:=T.ini) (us:=u.vs) (vs:=v.vs) (p:=u.ls) hq (n:=k) (by rw [←hn1,←hm];exact hk))
 have HW4:=hide (fun (hq:v.ls.length≠1) (k:Nat) (hk:k=n1*m+if u.ls.length=1 then 1 else 0)=>ways_none (ini:=T.ini) (us:=u.vs) (vs:=v.vs) (p:=u.ls) hq (n:=k) (by rw [←hn1,←hm];exact hk))
 rw [←hn1] at hun
 rw [←hm] at hvn
 refine callsIn_of_wp Tryz.func93 rfl trivial ?_ rfl
 simp only [Tryz.ntmps93,List.size_toArray,List.length_cons,List.length_nil,Nat.reduceAdd,Nat.reduceSub,Array.replicate_succ,Array.replicate_zero,List.push_toArray,List.append_toArray,List.nil_append,List.cons_append]
 have H0:=hide h0
 obtain ⟨⟨z0,z1,z2⟩,⟨y0,y1,y2⟩,z5⟩:=Zy_cells h0
 rw [←hn1] at z1
 rw [←hm] at y1
 have z0m:X 0=X (0*m):=by rw [Nat.zero_mul]
 have H0':=hide (show Run F0 w0 (star (Zy u v a c T t b1 b2 b3) (X (0*m))) w from z0m ▸ h0)
 clear h0 hn1 hm z0m H0
 gi_wp2
 gi_loopw [13] (fun i wr=>∃ k:Nat,k≤n1∧i=.int .i64 k∧Run F0 w0 (star (Zy u v a c T t b1 b2 b3) (X (k*m))) wr) (fun i _=>n1 - (intOf i).toNat)
 case atStart=>exact ⟨0,Nat.zero_le _,rfl,H0'.out⟩
 case round =>
  obtain ⟨k,hk,rfl,hR⟩:=hrel
  have HR:=hide hR
  clear H0' hR z0 z1 z2 y0 y1 y2 z5
  obtain ⟨⟨z0,z1,z2⟩,⟨y0,y1,y2⟩,z5⟩:=Zy_cells HR.out
  rw [←HN1.out] at z1
  rw [←HM.out] at y1
  by_cases hlt:k < n1
  ·have hkn:k < u.vs.length:=by rw [←HN1.out];exact hlt
   have HP:=hide (HE.out wr HR.out.mod)
   obtain ⟨b,o,hA,hc⟩:=HP.out.u.vs.at (by omega)
   obtain ⟨r0,r1,r2⟩:=hc wr (Below.refl _ _) k hkn
   rw [hA] at z1 ⊢
   clear hc hA
   have hcb:=HUC.out _ (List.getElem_mem hkn)
   have HK1:=hide (show k+1≤n1 from hlt)
   have HWB:=hide (fun (j:Nat) (hj:j < v.vs.length)=>HWA.out k j hkn hj)
   have hkb:(k:Int) < 1000000:=by omega
   generalize u.vs[k]=q at *
   obtain ⟨qw,qe,qc⟩:=q
   dsimp only at r0 r1 r2 hcb
   have h6:=run_new HR.out (star_ok Zy_ok (OKX.out _)) #[.string (bs qw),.int .i64 qe,.int .i64 qc] 60
   have H6:=hide (show Run F0 w0 (star (star (CellO wr.heap.size #[.string (bs qw),.int .i64 qe,.int .i64 qc] 60) (Zy u v a c T t b1 b2 b3)) (X (k*m+0))) _ from h6.perm (by rw [Nat.add_zero];ac_rfl))
   obtain ⟨⟨z0',z1',z2'⟩,⟨y0',y1',y2'⟩,z5'⟩:=Zy_cells h6.drop
   rw [←HM.out] at y1'
   have HVA:=hide (HE.out _ h6.mod)
   clear h6 HR HP hk
   gi_wp2
   generalize wr.alloc (.cells #[.string (bs qw),.int .i64 qe,.int .i64 qc] 60)=w6 at *
   generalize wr.heap.size=g6 at *
   clear z0 z1 z2 y0 y1 y2 z5 r0 r1 r2 z0' z1' z2' y0' y1' y2' z5'
   gi_loopw [20] (fun i wr=>∃ j:Nat,j≤m∧i=.int .i64 j∧Run F0 w0 (star (star (CellO g6 #[.string (bs qw),.int .i64 qe,.int .i64 qc] 60) (Zy u v a c T t b1 b2 b3)) (X (k*m+j))) wr) (fun i _=>m - (intOf i).toNat)
   case atStart=>exact ⟨0,Nat.zero_le _,rfl,H6.out⟩
   case round =>
    clear H6 HVA
    obtain ⟨j,hj,rfl,hR⟩:=hrel
    have HR:=hide hR
    clear hR
    by_cases hjl:j < m
    ·have hjn:j < v.vs.length:=by rw [←HM.out];exact hjl
     have HP:=hide (HE.out _ HR.out.mod)
     obtain ⟨b',o',hA,hc⟩:=HP.out.v.vs.at (by omega)
     obtain ⟨r0,r1,r2⟩:=hc _ (Below.refl _ _) j hjn
     have hcb2:=HVC.out _ (List.getElem_mem hjn)
     have HJ1:=hide (show j+1≤m from hjl)
     have hjb:(j:Int) < 1000000:=by omega
     obtain ⟨hi9,hx9⟩:=HWB.out j hjn
     clear hc
     generalize v.vs[j]=q' at *
     obtain ⟨qw',qe',qc'⟩:=q'
     dsimp only at r0 r1 r2 hcb2
     rw [hA]
     clear hA
     have h8:=run_new HR.out (star_ok (star_ok cell_ok Zy_ok) (OKX.out _)) #[.string (bs qw'),.int .i64 qe',.int .i64 qc'] 60
     obtain ⟨p0,p1,p2⟩:=run_c3 h8
     obtain ⟨x0,x1,x2⟩:=run_c3 (h8.drop.assoc:Run F0 w0 (star (CellO g6 #[.string (bs qw),.int .i64 qe,.int .i64 qc] 60) _) _)
     obtain ⟨x0',x1',x2'⟩:=run_c3 (HR.out.assoc:Run F0 w0 (star (CellO g6 #[.string (bs qw),.int .i64 qe,.int .i64 qc] 60) _) _)
     have hw:=HY.out (star (CellO g6 #[.string (bs qw),.int .i64 qe,.int .i64 qc] 60) (Zy u v a c T t b1 b2 b3)) (star_ok cell_ok Zy_ok) _ hi9 _ h8.drop
     rw [hx9] at hw
     simp only [wayE,wayC,wayV,waysI] at hw
     obtain ⟨fn,tmps,assign,body,hy,hround⟩:=hw
     have HRD:=hide hround
     clear hround hx9 hi9
     have HR8:=hide h8
     clear h8 HR HP hj hjn HWB
     gi_wp2
     try rw [hy]
     refine ⟨fun h=>(by cases h),?_⟩
     refine HRD.out.mono ?_
     rintro e W3 (⟨rfl,h3⟩ | ⟨rfl,h3⟩)
     ·have H9:=hide h3
      clear HRD h3 hy r0 r1 r2 p0 p1 p2 x0 x1 x2 x0' x1' x2' HR8
      gi_wp2
      go_roundw
      case rel=>exact ⟨j+1,HJ1.out,by go_num,H9.out⟩
      case measure=>have:=HJ1.out;simp [intOf];omega
     ·have HE2:=hide (show (∃ v,(Ending.returned (.tuple #[]))=.returned v)∧∃ Z:CH.Own,Z.Ok∧(Run F0 w0 (star Z (X (waysL T.ini u.vs v.vs u.ls v.ls).length)) W3∨Run F0 w0 (star Z Y) W3) from ⟨⟨_,rfl⟩,(star (CellO g6 #[.string (bs qw),.int .i64 qe,.int .i64 qc] 60) (Zy u v a c T t b1 b2 b3)),star_ok cell_ok Zy_ok,.inr h3⟩)
      clear HRD h3 hy r0 r1 r2 p0 p1 p2 x0 x1 x2 x0' x1' x2' HR8
      gi_wp2
      refine bodyPost_ret (results_none rfl _ _ _) rfl ?_
      exact HE2.out
    ·have H9:=hide (show Run F0 w0 (star (Zy u v a c T t b1 b2 b3) (X ((k+1)*m))) wr from by
      have e:j=m:=by omega
      subst e
      rw [Nat.succ_mul]
      exact HR.out.assoc.drop)
     clear HR
     gi_wp2
     go_roundw
     case rel=>exact ⟨k+1,HK1.out,by go_num,H9.out⟩
     case measure=>have:=HK1.out;simp [intOf];omega
  ·have hke:k=n1:=by omega
   subst hke
   have hun1:=HE.out wr HR.out.mod
   clear hk
   by_cases hp:u.ls.length=1
   ·have t1:((u.ls.length:Int) == 1)=true:=by simp [hp]
    obtain ⟨hi9,hx9⟩:=HW2.out hp
    have KI:=hide (initial_any (OKX.out _) HR.out (HE.out _ HR.out.mod) hu hv 2)
    gi_wp2_with fail
    repeat (refine ⟨fun f h=>(by cases h),?_⟩;gi_wp2_with fail)
    refine ⟨trivial,fun h=>(by cases h),?_⟩
    refine (callsIn_wide.2 KI.out).mono ?_
    rintro e9 w7 ⟨rfl,hb⟩
    have H7:=hide (HR.out.below (star_ok Zy_ok (OKX.out _)) hb)
    clear KI HR hb z0 z1 z2 y0 y1 y2 z5
    have hw:=HY.out (Zy u v a c T t b1 b2 b3) Zy_ok _ hi9 _ H7.out
    rw [hx9] at hw
    simp only [wayE,wayC,wayV,waysI] at hw
    obtain ⟨fn,tmps,assign,body,hy,hround⟩:=hw
    have HRD:=hide hround
    clear hround hx9 hi9
    dsimp only
    simp only [wayC,waysI]
    gi_wp2
    try rw [hy]
    refine ⟨fun h=>(by cases h),?_⟩
    refine HRD.out.mono ?_
    rintro e W3 (⟨rfl,h3⟩ | ⟨rfl,h3⟩)
    ·have H9:=hide h3
     clear HRD h3 hy H7
     have HR2:=hide H9.out
     obtain ⟨⟨z0,z1,z2⟩,⟨y0,y1,y2⟩,z5⟩:=Zy_cells HR2.out
     by_cases hq:v.ls.length=1
     ·obtain ⟨⟨hi9,hx9⟩,hen⟩:=HW3.out hq _ (show k*m+1=_ from by rw [if_pos hp])
      have t2:((v.ls.length:Int) == 1)=true:=by simp [hq]
      have KI:=hide (initial_any (OKX.out _) HR2.out (HE.out _ HR2.out.mod) hu hv 3)
      clear HW3 HW4 HW2 HWA
      gi_wp2_with fail
      repeat (refine ⟨fun f h=>(by cases h),?_⟩;gi_wp2_with fail)
      refine ⟨trivial,fun h=>(by cases h),?_⟩
      refine (callsIn_wide.2 KI.out).mono ?_
      rintro e9 w7 ⟨rfl,hb⟩
      have H7:=hide (HR2.out.below (star_ok Zy_ok (OKX.out _)) hb)
      clear KI HR2 hb z0 z1 z2 y0 y1 y2 z5
      have hw:=HY.out (Zy u v a c T t b1 b2 b3) Zy_ok _ hi9 _ H7.out
      rw [hx9] at hw
      simp only [wayE,wayC,wayV,waysI] at hw
      obtain ⟨fn,tmps,assign,body,hy,hround⟩:=hw
      have HRD:=hide hround
      clear hround hx9 hi9
      dsimp only
      simp only [wayC,waysI]
      gi_wp2
      try rw [hy]
      refine ⟨fun h=>(by cases h),?_⟩
      refine HRD.out.mono ?_
      rintro e W3 h3
      have HE2:=hide (show e=.returned (.bool true)∨e=.returned (.bool false) from h3.imp (fun h=>h.1) (fun h=>h.1))
      have HE3:=hide (show (∃ v,(Ending.returned (.tuple #[]))=.returned v)∧∃ Z:CH.Own,Z.Ok∧(Run F0 w0 (star Z (X (waysL T.ini u.vs v.vs u.ls v.ls).length)) W3∨Run F0 w0 (star Z Y) W3) from ⟨⟨_,rfl⟩,(Zy u v a c T t b1 b2 b3),Zy_ok,h3.imp (fun h=>by rw [←hen];exact h.2) (fun h=>h.2)⟩)
      clear HRD h3 hy H7
      rcases HE2.out with rfl | rfl
      ·dsimp only
       rename_i Kq hKq
       refine hKq _ _ ?_
       gi_wp2
       first | refine bodyPost_end (results_none rfl _ _ _) rfl ?_ | refine bodyPost_ret (results_none rfl _ _ _) rfl ?_
       exact HE3.out
      ·dsimp only
       rename_i Kq hKq
       refine hKq _ _ ?_
       gi_wp2
       first | refine bodyPost_end (results_none rfl _ _ _) rfl ?_ | refine bodyPost_ret (results_none rfl _ _ _) rfl ?_
       exact HE3.out
     ·have hen:=HW4.out hq _ (show k*m+1=_ from by rw [if_pos hp])
      have t2:((v.ls.length:Int) == 1)=false:=by simp;omega
      have HE3:=hide (show (∃ v,(Ending.returned (.tuple #[]))=.returned v)∧∃ Z:CH.Own,Z.Ok∧(Run F0 w0 (star Z (X (waysL T.ini u.vs v.vs u.ls v.ls).length)) W3∨Run F0 w0 (star Z Y) W3) from ⟨⟨_,rfl⟩,(Zy u v a c T t b1 b2 b3),Zy_ok,.inl (by rw [←hen];exact HR2.out)⟩)
      clear HW3 HW4 HW2 HWA HR2 hen
      gi_wp2
      repeat (refine ⟨fun f h=>(by cases h),?_⟩;gi_wp2)
      first | refine bodyPost_end (results_none rfl _ _ _) rfl ?_ | refine bodyPost_ret (results_none rfl _ _ _) rfl ?_
      exact HE3.out
    ·have HE2:=hide (show (∃ v,(Ending.returned (.tuple #[]))=.returned v)∧∃ Z:CH.Own,Z.Ok∧(Run F0 w0 (star Z (X (waysL T.ini u.vs v.vs u.ls v.ls).length)) W3∨Run F0 w0 (star Z Y) W3) from ⟨⟨_,rfl⟩,(Zy u v a c T t b1 b2 b3),Zy_ok,.inr h3⟩)
     clear HRD h3 hy H7
     gi_wp2
     refine bodyPost_ret (results_none rfl _ _ _) rfl ?_
     exact HE2.out
   ·have t1:((u.ls.length:Int) == 1)=false:=by simp;omega
    clear z0 z1 z2 y0 y1 y2 z5
    have HR2:=hide HR.out
    obtain ⟨⟨z0,z1,z2⟩,⟨y0,y1,y2⟩,z5⟩:=Zy_cells HR2.out
    by_cases hq:v.ls.length=1
    ·obtain ⟨⟨hi9,hx9⟩,hen⟩:=HW3.out hq _ (show k*m=_ from by rw [if_neg hp];exact (Nat.add_zero _).symm)
     have t2:((v.ls.length:Int) == 1)=true:=by simp [hq]
     have KI:=hide (initial_any (OKX.out _) HR2.out (HE.out _ HR2.out.mod) hu hv 3)
     clear HW3 HW4 HW2 HWA
     gi_wp2_with fail
     repeat (refine ⟨fun f h=>(by cases h),?_⟩;gi_wp2_with fail)
     refine ⟨trivial,fun h=>(by cases h),?_⟩
     refine (callsIn_wide.2 KI.out).mono ?_
     rintro e9 w7 ⟨rfl,hb⟩
     have H7:=hide (HR2.out.below (star_ok Zy_ok (OKX.out _)) hb)
     clear KI HR2 hb z0 z1 z2 y0 y1 y2 z5
     have hw:=HY.out (Zy u v a c T t b1 b2 b3) Zy_ok _ hi9 _ H7.out
     rw [hx9] at hw
     simp only [wayE,wayC,wayV,waysI] at hw
     obtain ⟨fn,tmps,assign,body,hy,hround⟩:=hw
     have HRD:=hide hround
     clear hround hx9 hi9
     dsimp only
     simp only [wayC,waysI]
     gi_wp2
     try rw [hy]
     refine ⟨fun h=>(by cases h),?_⟩
     refine HRD.out.mono ?_
     rintro e W3 h3
     have HE2:=hide (show e=.returned (.bool true)∨e=.returned (.bool false) from h3.imp (fun h=>h.1) (fun h=>h.1))
     have HE3:=hide (show (∃ v,(Ending.returned (.tuple #[]))=.returned v)∧∃ Z:CH.Own,Z.Ok∧(Run F0 w0 (star Z (X (waysL T.ini u.vs v.vs u.ls v.ls).length)) W3∨Run F0 w0 (star Z Y) W3) from ⟨⟨_,rfl⟩,(Zy u v a c T t b1 b2 b3),Zy_ok,h3.imp (fun h=>by rw [←hen];exact h.2) (fun h=>h.2)⟩)
     clear HRD h3 hy H7
     rcases HE2.out with rfl | rfl
     ·dsimp only
      rename_i Kq hKq
      refine hKq _ _ ?_
      gi_wp2
      first | refine bodyPost_end (results_none rfl _ _ _) rfl ?_ | refine bodyPost_ret (results_none rfl _ _ _) rfl ?_
      exact HE3.out
     ·dsimp only
      rename_i Kq hKq
      refine hKq _ _ ?_
      gi_wp2
      first | refine bodyPost_end (results_none rfl _ _ _) rfl ?_ | refine bodyPost_ret (results_none rfl _ _ _) rfl ?_
      exact HE3.out
    ·have hen:=HW4.out hq _ (show k*m=_ from by rw [if_neg hp];exact (Nat.add_zero _).symm)
     have t2:((v.ls.length:Int) == 1)=false:=by simp;omega
     have HE3:=hide (show (∃ v,(Ending.returned (.tuple #[]))=.returned v)∧∃ Z:CH.Own,Z.Ok∧(Run F0 w0 (star Z (X (waysL T.ini u.vs v.vs u.ls v.ls).length)) wr∨Run F0 w0 (star Z Y) wr) from ⟨⟨_,rfl⟩,(Zy u v a c T t b1 b2 b3),Zy_ok,.inl (by rw [←hen];exact HR2.out)⟩)
     clear HW3 HW4 HW2 HWA HR2 hen
     gi_wp2
     repeat (refine ⟨fun f h=>(by cases h),?_⟩;gi_wp2)
     first | refine bodyPost_end (results_none rfl _ _ _) rfl ?_ | refine bodyPost_ret (results_none rfl _ _ _) rfl ?_
     exact HE3.out
end Go.Proofs.YtbnnlpjpnihheaaGreatDoor
namespace Go.Proofs.YtbnnlpjpnihheaaGreatDoor
open Go.RowKit Go.CH Go.CH.Scr Go.CH.Pot
open Go.ChangeMaps (setBlock)

structure WA where
 a:SA
 b:SA
def wordsC (W:Wd) (x:WA):Array Value:=#[.slice x.a.L W.l.length x.a.lc,.slice x.a.R x.a.q.length x.a.rc,.slice x.b.L W.m.length x.b.lc,.slice x.b.R x.b.q.length x.b.rc]

structure AwR (W:Wd) (x:WA) (w:World):Prop where
 l:Vst w x.a.L W.l
 m:Vst w x.b.L W.m
 ra:ArsR w x.a.R x.a.q
 rb:ArsR w x.b.R x.b.q
 fa:∀ y ∈ x.a.q,Vst w y.A y.r.f
 fb:∀ y ∈ x.b.q,Vst w y.A y.r.f
theorem AwR.below {W:Wd} {x:WA} {w w':World} (h:AwR W x w) (hb:Below w.heap.size w w'):AwR W x w' :=
 ⟨h.l.below hb,h.m.below hb,h.ra.below hb,h.rb.below hb,fun y hy=>(h.fa y hy).below hb,fun y hy=>(h.fb y hy).below hb⟩

structure AwS (W:Wd) (x:WA):Prop where
 qa:x.a.q.map (·.r)=sideR W.rs W.ka
 qb:x.b.q.map (·.r)=sideR W.rs W.kb
 na:x.a.q.length≤1000000
 nb:x.b.q.length≤1000000
 la:W.l.length≤x.a.lc
 lb:W.m.length≤x.b.lc
 l6:W.l.length≤1000000
 m6:W.m.length≤1000000
 f6:∀ y ∈ x.a.q,y.r.f.length≤1000000∧y.r.t.length≤1000000
 g6:∀ y ∈ x.b.q,y.r.f.length≤1000000∧y.r.t.length≤1000000
def doneN (W:Wd) (s:St):Bool:=decide (s.i=W.l.length) && (decide (s.j=W.m.length) && decide (s.a=[]))
set_option maxHeartbeats 3200000 in
set_option maxRecDepth 100000 in
theorem done_any {w:World} {W:Wd} {x:WA} {s:St}:Calls Tryz.prog 97 #[.agg (wordsC W x),.agg (stC s)] w (BelowRet w (.bool (doneN W s))):=by
 have h1:=run_new (Run.begin w) emp_ok (wordsC W x) 169
 have h2:=run_new h1 (star_ok cell_ok emp_ok) (stC s) 175
 rw [World.size_alloc] at h2
 have HBR:=hide (fun W O v (h:Run (fun _=>False) w O W)=>(show BelowRet w v (.returned v) W from ⟨rfl,h.mod.below (fun _ _ h=>h)⟩))
 have H2:=hide h2
 obtain ⟨b,hb⟩:∃ b,b=doneN W s:=⟨_,rfl⟩
 have HV:=hide (show b=(decide (s.i=W.l.length) && (decide (s.j=W.m.length) && decide (s.a=[]))) from hb)
 rw [←hb]
 clear h1 h2 hb
 unfold wordsC stC
 unfold wordsC stC at H2
 obtain ⟨si,sj,sa,sr⟩:=s
 dsimp only at HV H2 ⊢
 generalize W.l.length=n1 at *
 generalize W.m.length=n2 at *
 obtain ⟨⟨L,lc,R,rc,q⟩,⟨M,mc,S,sc,p⟩⟩:=x
 dsimp only at H2 ⊢
 generalize q.length=qn at *
 generalize p.length=pn at *
 have HNE:=hide (show sa≠[]→(bs sa).toList.isEmpty=false from fun h=>by rw [List.isEmpty_eq_false_iff];exact fun e=>h (bs_empty.1 e))
 have HEQ:=hide (show sa=[]→(bs sa).toList.isEmpty=true from fun h=>by rw [List.isEmpty_iff];exact bs_empty.2 h)
 by_cases h1:si=n1
 ·have t1:((si:Int) == (n1:Int))=true:=by simp [h1]
  by_cases h2:sj=n2
  ·have t2:((sj:Int) == (n2:Int))=true:=by simp [h2]
   by_cases h3:sa=[]
   ·have t3:=HEQ.out h3
    have HB:=hide (show b=true from by rw [HV.out];simp [h1,h2,h3])
    clear h1 h2 h3 HV HEQ HNE
    go_enter Tryz.func97,Tryz.ntmps97
    go_wp2
    go_ret
    rw [HB.out]
    exact HBR.out _ _ _ H2.out
   ·have t3:=HNE.out h3
    have HB:=hide (show b=false from by rw [HV.out];simp [h3])
    clear h1 h2 h3 HV HEQ HNE
    go_enter Tryz.func97,Tryz.ntmps97
    go_wp2
    go_ret
    rw [HB.out]
    exact HBR.out _ _ _ H2.out
  ·have t2:((sj:Int) == (n2:Int))=false:=by simp;omega
   have HB:=hide (show b=false from by rw [HV.out];simp [h2])
   clear h1 h2 HV HEQ HNE
   go_enter Tryz.func97,Tryz.ntmps97
   go_wp2
   go_ret
   rw [HB.out]
   exact HBR.out _ _ _ H2.out
 ·have t1:((si:Int) == (n1:Int))=false:=by simp;omega
  have HB:=hide (show b=false from by rw [HV.out];simp [h1])
  clear h1 HV HEQ HNE
  go_enter Tryz.func97,Tryz.ntmps97
  go_wp2
  go_ret
  rw [HB.out]
  exact HBR.out _ _ _ H2.out
end Go.Proofs.YtbnnlpjpnihheaaGreatDoor
namespace Go.Proofs.YtbnnlpjpnihheaaGreatDoor
open Go.RowKit Go.CH Go.CH.Scr Go.CH.Pot
open Go.ChangeMaps (setBlock)
theorem from_vst {w:World}:∀ {q:List RA} {F:Nat→Prop},FromO q w F→∀ y ∈ q,Vst w y.A y.r.f
 | [],_,_,y,hy=>by cases hy
 | x :: q,F,⟨f1,f2,h1,h2,_,_⟩,y,hy=>by
  rcases List.mem_cons.1 hy with rfl | hy
  ·exact vst_of h1
  ·exact from_vst h2 y hy
theorem side_get {w:World} {F:Nat→Prop} {l:List Bs} {s:SA} (h:SideO l s w F):Vst w s.L l∧l.length≤s.lc∧ArsR w s.R s.q∧∀ y ∈ s.q,Vst w y.A y.r.f:=by
 obtain ⟨f1,f2,h1,⟨f3,f4,h3,h4,-,-⟩,-,-⟩:=h
 exact ⟨vst_of h1,(row_cap h1.1).1,ars_of h3,from_vst h4⟩
theorem sideN_fst (T:Tab) (k:Int) (x:Bs):(sideN T k x).1=(openN k x).1:=by
 unfold sideN openN
 by_cases h:word k x=true
 ·rw [if_pos h,if_pos h]
 ·rw [if_neg h,if_neg h]
theorem sideR_small {T:Tab} {k:Int} (hr:T.rs.length≤1000000) (hs:∀ R ∈ T.rs,R.f.length≤1000000∧R.t.length≤1000000):(sideR T.rs k).length≤1000000∧∀ r ∈ sideR T.rs k,r.f.length≤1000000∧r.t.length≤1000000:=by
 unfold sideR
 refine ⟨Nat.le_trans (List.length_filterMap_le ..) (by rw [List.length_zipIdx];exact hr),fun r h=>?_⟩
 obtain ⟨⟨R,n⟩,h1,h2⟩:=List.mem_filterMap.1 h
 have hR:=zip_mem _ _ h1
 unfold arOf at h2
 dsimp only at h2 hR
 split at h2
 ·split at h2
  ·rename_i hw
   injection h2 with h2
   subst h2
   exact ⟨Nat.le_trans (word_iff.1 hw).2.2 (by omega),(hs R hR).2⟩
  ·cases h2
 ·cases h2

def WordsRet (w:World) (T:Tab) (k:Int) (x:Bs) (k2:Int) (y:Bs) (e:Ending) (w':World):Prop :=
 ∃ wa:WA,e=.returned (.tuple #[.agg (wordsC (ofW T k x k2 y) wa),.bool (okW T k x k2 y)])∧Below w.heap.size w w'∧(okW T k x k2 y=true→AwR (ofW T k x k2 y) wa w'∧AwS (ofW T k x k2 y) wa)
theorem words_of {w W:World} {T:Tab} {a:TA} {k k2:Int} {x y:Bs} {s1 s2:SA} {Y:CH.Own} (hT:TabR w T a) (hq1:s1.q.map (·.r)=(sideN T k x).2) (hq2:s2.q.map (·.r)=(sideN T k2 y).2)
  (h:Run (fun _=>False) w (star (SideO (sideN T k x).1 s1) (star (SideO (sideN T k2 y).1 s2) Y)) W) (b:Bool) (hb:okW T k x k2 y=b) :
  WordsRet w T k x k2 y (.returned (.tuple #[.agg (wordsC (ofW T k x k2 y) ⟨s1,s2⟩),.bool b])) W:=by
 have hbel:Below w.heap.size w W:=h.mod.below (fun _ _ h=>h)
 refine ⟨⟨s1,s2⟩,by rw [hb],hbel,fun ho=>?_⟩
 obtain ⟨hw1,hw2,-⟩:=okW_iff.1 ho
 obtain ⟨f1,hf1⟩:=h.fst
 obtain ⟨f2,hf2⟩:=h.drop.fst
 obtain ⟨a1,a2,a3,a4⟩:=side_get hf1
 obtain ⟨b1,b2,b3,b4⟩:=side_get hf2
 rw [sideN_fst] at a1 a2 b1 b2
 have e1:(sideN T k x).2=sideR T.rs k:=by unfold sideN;rw [if_pos hw1]
 have e2:(sideN T k2 y).2=sideR T.rs k2:=by unfold sideN;rw [if_pos hw2]
 rw [e1] at hq1
 rw [e2] at hq2
 have n1:=sideR_small (k:=k) hT.lr hT.sr
 have n2:=sideR_small (k:=k2) hT.lr hT.sr
 rw [←hq1] at n1
 rw [←hq2] at n2
 refine ⟨⟨a1,b1,a3,b3,a4,b4⟩,⟨hq1,hq2,by simpa using n1.1,by simpa using n2.1,a2,b2,Nat.le_trans (openN_len k x) (by omega),Nat.le_trans (openN_len k2 y) (by omega),fun z hz=>?_,fun z hz=>?_⟩⟩
 ·exact n1.2 z.r (List.mem_map_of_mem hz)
 ·exact n2.2 z.r (List.mem_map_of_mem hz)
end Go.Proofs.YtbnnlpjpnihheaaGreatDoor
namespace Go.Proofs.YtbnnlpjpnihheaaGreatDoor
open Go.RowKit Go.CH Go.CH.Scr Go.CH.Pot
open Go.ChangeMaps (setBlock)
set_option maxHeartbeats 6400000 in
set_option maxRecDepth 100000 in
theorem open_any {w:World} {T:Tab} {a:TA} (hT:TabR w T a) (hz:LZ w) (k:Int) (x:Bs) (k2:Int) (y:Bs) (hx:x.length≤1000000) (hy:y.length≤1000000) :
  Calls Tryz.prog 95 #[tabV T a,.int .i64 k,.string (bs x),.int .i64 k2,.string (bs y)] w (WordsRet w T k x k2 y):=by
 have HT:=hide hT
 have HZ:=hide hz
 have h1:Run (fun _=>False) w (star (CellO w.heap.size (tabC T a) 25) emp) _:=run_new (Run.begin w) emp_ok (tabC T a) 25
 have K1:=hide (fun W (h:Below w.heap.size w W)=>sideOf_any (hT.below h) (hz.below h) k x hx)
 have K2:=hide (fun W (h:Below w.heap.size w W)=>sideOf_any (hT.below h) (hz.below h) k2 y hy)
 have KV:=hide (fun W (h:Below w.heap.size w W)=>tvalid_any (hT.below h) (hz.below h))
 have HBE:=hide (fun W O (h:Run (fun _=>False) w O W)=>(show Below w.heap.size w W from h.mod.below (fun _ _ h=>h)))
 have H1:=hide h1
 clear hT hz h1
 unfold SideRet at K1 K2
 unfold tabV tabC at K1 K2 KV ⊢
 unfold tabC at H1
 go_enter Tryz.func95,Tryz.ntmps95
 have H2:=hide (show Run (fun _=>False) w (star (CellO (w.heap.size+1) #[.slice none 0 0,.slice none 0 0,.slice none 0 0,.slice none 0 0] 169) (star (CellO w.heap.size #[.slice a.A T.rs.length a.c,.slice a.D T.ds.length a.d,.slice a.E T.es.length a.e,.int .i64 T.drop,.int .i64 T.ord,.int .i64 T.ini] 25) emp)) _ from (by have h2:=run_new H1.out (star_ok cell_ok emp_ok) #[.slice none 0 0,.slice none 0 0,.slice none 0 0,.slice none 0 0] 169;rw [World.size_alloc] at h2;exact h2))
 go_upto_region 1 with (fail)
 clear H1
 generalize hw1:(w.alloc (.cells #[.slice a.A T.rs.length a.c,.slice a.D T.ds.length a.d,.slice a.E T.es.length a.e,.int .i64 T.drop,.int .i64 T.ord,.int .i64 T.ini] 25)).alloc (.cells #[.slice none 0 0,.slice none 0 0,.slice none 0 0,.slice none 0 0] 169)=w1 at *
 clear hw1
 generalize w.heap.size+1=gr at *
 generalize w.heap.size=gt at H2 ⊢
 have OK2:=hide (show (star (CellO gr #[.slice none 0 0,.slice none 0 0,.slice none 0 0,.slice none 0 0] 169) (star (CellO gt #[.slice a.A T.rs.length a.c,.slice a.D T.ds.length a.d,.slice a.E T.es.length a.e,.int .i64 T.drop,.int .i64 T.ord,.int .i64 T.ini] 25) emp)).Ok from star_ok cell_ok (star_ok cell_ok emp_ok))
 have hct:∀ (W:World) (X:CH.Own),Run (fun _=>False) w (star (CellO gt #[.slice a.A T.rs.length a.c,.slice a.D T.ds.length a.d,.slice a.E T.es.length a.e,.int .i64 T.drop,.int .i64 T.ord,.int .i64 T.ini] 25) X) W→W.cell? ⟨gt,0,none⟩=some (.slice a.A T.rs.length a.c)∧W.cell? ⟨gt,1,none⟩=some (.slice a.D T.ds.length a.d)∧W.cell? ⟨gt,2,none⟩=some (.slice a.E T.es.length a.e)∧W.cell? ⟨gt,3,none⟩=some (.int .i64 T.drop)∧W.cell? ⟨gt,4,none⟩=some (.int .i64 T.ord)∧W.cell? ⟨gt,5,none⟩=some (.int .i64 T.ini):=fun W X h=>by
  obtain ⟨f,hf⟩:=h.fst
  exact ⟨cell_at hf rfl,cell_at hf rfl,cell_at hf rfl,cell_at hf rfl,cell_at hf rfl,cell_at hf rfl⟩
 have HCT:=hide hct
 clear hct
 obtain ⟨c0,c1,c2,c3,c4,c5⟩:=HCT.out _ _ H2.out.drop
 go_wp2_with fail
 refine (K1.out _ (HBE.out _ _ H2.out)).mono ?_
 rintro e9 w2 ⟨s1,rfl,hq1,hp⟩
 have HQ1:=hide hq1
 have H3:=hide (H2.out.fresh OK2.out hp)
 clear K1 H2 hp hq1 c0 c1 c2 c3 c4 c5
 obtain ⟨l1,hl1⟩:∃ l,l=(sideN T k x).1:=⟨_,rfl⟩
 have HL1:=hide hl1
 rw [←hl1] at H3 ⊢
 clear hl1
 unfold sideC
 dsimp only
 have H4:=hide (run_new H3.out (star_ok side_ok OK2.out) #[.slice s1.L l1.length s1.lc,.slice s1.R s1.q.length s1.rc] 167)
 clear H3
 go_upto_region 2 with (fail)
 generalize w2.alloc (.cells #[.slice s1.L l1.length s1.lc,.slice s1.R s1.q.length s1.rc] 167)=w3 at *
 generalize w2.heap.size=ga at *
 obtain ⟨c0,c1,c2,c3,c4,c5⟩:=HCT.out _ _ H4.out.drop.drop.drop
 go_wp2_with fail
 refine (K2.out _ (HBE.out _ _ H4.out)).mono ?_
 rintro e9 w4 ⟨s2,rfl,hq2,hp⟩
 have HQ2:=hide hq2
 have H5:=hide (H4.out.fresh (star_ok cell_ok (star_ok side_ok OK2.out)) hp)
 clear K2 H4 hp hq2 c0 c1 c2 c3 c4 c5
 obtain ⟨l2,hl2⟩:∃ l,l=(sideN T k2 y).1:=⟨_,rfl⟩
 have HL2:=hide hl2
 rw [←hl2] at H5 ⊢
 clear hl2
 unfold sideC
 dsimp only
 have H6:=hide (run_new H5.out (star_ok side_ok (star_ok cell_ok (star_ok side_ok OK2.out))) #[.slice s2.L l2.length s2.lc,.slice s2.R s2.q.length s2.rc] 167)
 clear H5
 go_upto_region 3 with (fail)
 generalize w4.alloc (.cells #[.slice s2.L l2.length s2.lc,.slice s2.R s2.q.length s2.rc] 167)=w5 at *
 generalize w4.heap.size=gb at *
 have HFIN0:=hide (fun (W:World) (b:Bool) (hb:okW T k x k2 y=b) (Y:CH.Own) (h:Run (fun _=>False) w (star (SideO l1 s1) (star (SideO l2 s2) Y)) W)=>words_of (a:=a) HT.out HQ1.out HQ2.out (by rw [←HL1.out,←HL2.out];exact h) b hb)
 have hwc:wordsC (ofW T k x k2 y) ⟨s1,s2⟩=#[.slice s1.L l1.length s1.lc,.slice s1.R s1.q.length s1.rc,.slice s2.L l2.length s2.lc,.slice s2.R s2.q.length s2.rc]:=by
  have e1:=HL1.out.trans (sideN_fst T k x)
  have e2:=HL2.out.trans (sideN_fst T k2 y)
  unfold wordsC ofW
  rw [e1,e2]
 have HFIN:=hide (show ∀ (W:World) (r:Array Value) (b:Bool),okW T k x k2 y=b→Run (fun _=>False) w (star (CellO gr r 169) (star (CellO gb #[.slice s2.L l2.length s2.lc,.slice s2.R s2.q.length s2.rc] 167) (star (CellO ga #[.slice s1.L l1.length s1.lc,.slice s1.R s1.q.length s1.rc] 167) (star (CellO gt #[.slice a.A T.rs.length a.c,.slice a.D T.ds.length a.d,.slice a.E T.es.length a.e,.int .i64 T.drop,.int .i64 T.ord,.int .i64 T.ini] 25) (star (SideO l1 s1) (SideO l2 s2)))))) W→WordsRet w T k x k2 y (.returned (.tuple #[.agg #[.slice s1.L l1.length s1.lc,.slice s1.R s1.q.length s1.rc,.slice s2.L l2.length s2.lc,.slice s2.R s2.q.length s2.rc],.bool b])) W from fun W r b hb h=>by
  rw [←hwc]
  exact HFIN0.out W b hb _ (h.perm (by ac_rfl:_=star (SideO l1 s1) (star (SideO l2 s2) (star (CellO gr r 169) (star (CellO gb #[.slice s2.L l2.length s2.lc,.slice s2.R s2.q.length s2.rc] 167) (star (CellO ga #[.slice s1.L l1.length s1.lc,.slice s1.R s1.q.length s1.rc] 167) (CellO gt #[.slice a.A T.rs.length a.c,.slice a.D T.ds.length a.d,.slice a.E T.es.length a.e,.int .i64 T.drop,.int .i64 T.ord,.int .i64 T.ini] 25)))))))
 )
 clear hwc HFIN0
 have OKX:=hide (show (star (CellO gb #[.slice s2.L l2.length s2.lc,.slice s2.R s2.q.length s2.rc] 167) (star (CellO ga #[.slice s1.L l1.length s1.lc,.slice s1.R s1.q.length s1.rc] 167) (star (CellO gt #[.slice a.A T.rs.length a.c,.slice a.D T.ds.length a.d,.slice a.E T.es.length a.e,.int .i64 T.drop,.int .i64 T.ord,.int .i64 T.ini] 25) (star (SideO l1 s1) (SideO l2 s2))))).Ok from star_ok cell_ok (star_ok cell_ok (star_ok cell_ok (star_ok side_ok side_ok))))
 have hSS:∀ (W:World) (r:Array Value),Run (fun _=>False) w (star (CellO gr r 169) (star (CellO gb #[.slice s2.L l2.length s2.lc,.slice s2.R s2.q.length s2.rc] 167) (star (CellO ga #[.slice s1.L l1.length s1.lc,.slice s1.R s1.q.length s1.rc] 167) (star (CellO gt #[.slice a.A T.rs.length a.c,.slice a.D T.ds.length a.d,.slice a.E T.es.length a.e,.int .i64 T.drop,.int .i64 T.ord,.int .i64 T.ini] 25) (star (SideO l1 s1) (SideO l2 s2)))))) W→(fun w':World=>w'.cell? ⟨ga,0,none⟩=some (.slice s1.L l1.length s1.lc)∧w'.cell? ⟨ga,1,none⟩=some (.slice s1.R s1.q.length s1.rc)∧w'.cell? ⟨gb,0,none⟩=some (.slice s2.L l2.length s2.lc)∧w'.cell? ⟨gb,1,none⟩=some (.slice s2.R s2.q.length s2.rc)∧w'.cell? ⟨gt,0,none⟩=some (.slice a.A T.rs.length a.c)∧w'.cell? ⟨gt,1,none⟩=some (.slice a.D T.ds.length a.d)∧w'.cell? ⟨gt,2,none⟩=some (.slice a.E T.es.length a.e)∧w'.cell? ⟨gt,3,none⟩=some (.int .i64 T.drop)∧w'.cell? ⟨gt,4,none⟩=some (.int .i64 T.ord)∧w'.cell? ⟨gt,5,none⟩=some (.int .i64 T.ini)) W:=fun W r h=>by
  obtain ⟨f1,h1⟩:=h.drop.fst
  obtain ⟨f2,h2⟩:=h.drop.drop.fst
  obtain ⟨f3,h3⟩:=h.drop.drop.drop.fst
  exact ⟨cell_at h2 rfl,cell_at h2 rfl,cell_at h1 rfl,cell_at h1 rfl,cell_at h3 rfl,cell_at h3 rfl,cell_at h3 rfl,cell_at h3 rfl,cell_at h3 rfl,cell_at h3 rfl⟩
 have HSS:=hide hSS
 clear hSS
 have H7:=hide ((H6.out.perm (by rw [star_emp_eq];ac_rfl:_=(star (CellO gr #[.slice none 0 0,.slice none 0 0,.slice none 0 0,.slice none 0 0] 169) (star (CellO gb #[.slice s2.L l2.length s2.lc,.slice s2.R s2.q.length s2.rc] 167) (star (CellO ga #[.slice s1.L l1.length s1.lc,.slice s1.R s1.q.length s1.rc] 167) (star (CellO gt #[.slice a.A T.rs.length a.c,.slice a.D T.ds.length a.d,.slice a.E T.es.length a.e,.int .i64 T.drop,.int .i64 T.ord,.int .i64 T.ini] 25) (star (SideO l1 s1) (SideO l2 s2)))))))).drew (star_ok cell_ok OKX.out))
 have hS0:=HSS.out _ _ H7.out
 clear H6
 cases hb1:word k x with
 | false =>
  refine wp_region_lex (fun w':World=>w'.cell? ⟨ga,0,none⟩=some (.slice s1.L l1.length s1.lc)∧w'.cell? ⟨ga,1,none⟩=some (.slice s1.R s1.q.length s1.rc)∧w'.cell? ⟨gb,0,none⟩=some (.slice s2.L l2.length s2.lc)∧w'.cell? ⟨gb,1,none⟩=some (.slice s2.R s2.q.length s2.rc)∧w'.cell? ⟨gt,0,none⟩=some (.slice a.A T.rs.length a.c)∧w'.cell? ⟨gt,1,none⟩=some (.slice a.D T.ds.length a.d)∧w'.cell? ⟨gt,2,none⟩=some (.slice a.E T.es.length a.e)∧w'.cell? ⟨gt,3,none⟩=some (.int .i64 T.drop)∧w'.cell? ⟨gt,4,none⟩=some (.int .i64 T.ord)∧w'.cell? ⟨gt,5,none⟩=some (.int .i64 T.ini)) (by rfl) (by kernel_rfl) hS0 ?_
  clear hS0
  generalize w5.drew=w6 at *
  obtain ⟨r0,r1,r2,r3,rf⟩:=run_c4 H7.out
  (repeat ((first | refine lex_skip (by rfl) ?_ | (refine lex_read (v:=?_) (by rfl) ?_ ?_;rotate_left;(focus (intro w' hS';go_simp;(try with_reducible rfl);done))));try simp only [Act.put,List.setIfInBounds_toArray,List.set_cons_zero,List.set_cons_succ]))
  refine lex_chain rfl (by rfl) (fun K hK=>?_)
  go_wp2_with fail
    
  have H8:=hide (run_setc (run_setc (run_setc (run_setc (H7.out) OKX.out 0 (.slice s1.L l1.length s1.lc)) OKX.out 1 (.slice s1.R s1.q.length s1.rc)) OKX.out 2 (.slice s2.L l2.length s2.lc)) OKX.out 3 (.slice s2.R s2.q.length s2.rc):Run (fun _=>False) w (star (CellO gr #[.slice s1.L l1.length s1.lc,.slice s1.R s1.q.length s1.rc,.slice s2.L l2.length s2.lc,.slice s2.R s2.q.length s2.rc] 169) (star (CellO gb #[.slice s2.L l2.length s2.lc,.slice s2.R s2.q.length s2.rc] 167) (star (CellO ga #[.slice s1.L l1.length s1.lc,.slice s1.R s1.q.length s1.rc] 167) (star (CellO gt #[.slice a.A T.rs.length a.c,.slice a.D T.ds.length a.d,.slice a.E T.es.length a.e,.int .i64 T.drop,.int .i64 T.ord,.int .i64 T.ini] 25) (star (SideO l1 s1) (SideO l2 s2)))))) _)
  clear H7 r0 r1 r2 r3 rf
  generalize ((((w6.setCell ⟨gr,0,none⟩ (.slice s1.L l1.length s1.lc)).setCell ⟨gr,1,none⟩ (.slice s1.R s1.q.length s1.rc)).setCell ⟨gr,2,none⟩ (.slice s2.L l2.length s2.lc)).setCell ⟨gr,3,none⟩ (.slice s2.R s2.q.length s2.rc))=w9 at *
  refine hK.out _ _ (HSS.out _ _ H8.out) ?_
  clear hK
  (repeat ((first | refine lex_skip (by rfl) ?_ | (refine lex_read (v:=?_) (by rfl) ?_ ?_;rotate_left;(focus (intro w' hS';go_simp;(try with_reducible rfl);done))));try simp only [Act.put,List.setIfInBounds_toArray,List.set_cons_zero,List.set_cons_succ]))
  refine lex_nil ?_
  obtain ⟨fr,hfr⟩:=H8.out.fst
  have hblk:=hfr.1
  clear hfr
  go_wp2_with fail
  refine bodyPost_ret (res_cell_tmp rfl _ _ gr 169 #[.slice s1.L l1.length s1.lc,.slice s1.R s1.q.length s1.rc,.slice s2.L l2.length s2.lc,.slice s2.R s2.q.length s2.rc] (0,0) rfl hblk Tryz.underlying169 (by kernel_rfl)) rfl ?_
  clear hblk
  exact HFIN.out _ _ _ (by unfold okW;rw [hb1];rfl) H8.out
 | true =>
  cases hb2:word k2 y with
  | false =>
   refine wp_region_lex (fun w':World=>w'.cell? ⟨ga,0,none⟩=some (.slice s1.L l1.length s1.lc)∧w'.cell? ⟨ga,1,none⟩=some (.slice s1.R s1.q.length s1.rc)∧w'.cell? ⟨gb,0,none⟩=some (.slice s2.L l2.length s2.lc)∧w'.cell? ⟨gb,1,none⟩=some (.slice s2.R s2.q.length s2.rc)∧w'.cell? ⟨gt,0,none⟩=some (.slice a.A T.rs.length a.c)∧w'.cell? ⟨gt,1,none⟩=some (.slice a.D T.ds.length a.d)∧w'.cell? ⟨gt,2,none⟩=some (.slice a.E T.es.length a.e)∧w'.cell? ⟨gt,3,none⟩=some (.int .i64 T.drop)∧w'.cell? ⟨gt,4,none⟩=some (.int .i64 T.ord)∧w'.cell? ⟨gt,5,none⟩=some (.int .i64 T.ini)) (by rfl) (by kernel_rfl) hS0 ?_
   clear hS0
   generalize w5.drew=w6 at *
   obtain ⟨r0,r1,r2,r3,rf⟩:=run_c4 H7.out
   (repeat ((first | refine lex_skip (by rfl) ?_ | (refine lex_read (v:=?_) (by rfl) ?_ ?_;rotate_left;(focus (intro w' hS';go_simp;(try with_reducible rfl);done))));try simp only [Act.put,List.setIfInBounds_toArray,List.set_cons_zero,List.set_cons_succ]))
   refine lex_chain rfl (by rfl) (fun K hK=>?_)
   go_wp2_with fail
      
   have H8:=hide (run_setc (run_setc (run_setc (run_setc (H7.out) OKX.out 0 (.slice s1.L l1.length s1.lc)) OKX.out 1 (.slice s1.R s1.q.length s1.rc)) OKX.out 2 (.slice s2.L l2.length s2.lc)) OKX.out 3 (.slice s2.R s2.q.length s2.rc):Run (fun _=>False) w (star (CellO gr #[.slice s1.L l1.length s1.lc,.slice s1.R s1.q.length s1.rc,.slice s2.L l2.length s2.lc,.slice s2.R s2.q.length s2.rc] 169) (star (CellO gb #[.slice s2.L l2.length s2.lc,.slice s2.R s2.q.length s2.rc] 167) (star (CellO ga #[.slice s1.L l1.length s1.lc,.slice s1.R s1.q.length s1.rc] 167) (star (CellO gt #[.slice a.A T.rs.length a.c,.slice a.D T.ds.length a.d,.slice a.E T.es.length a.e,.int .i64 T.drop,.int .i64 T.ord,.int .i64 T.ini] 25) (star (SideO l1 s1) (SideO l2 s2)))))) _)
   clear H7 r0 r1 r2 r3 rf
   generalize ((((w6.setCell ⟨gr,0,none⟩ (.slice s1.L l1.length s1.lc)).setCell ⟨gr,1,none⟩ (.slice s1.R s1.q.length s1.rc)).setCell ⟨gr,2,none⟩ (.slice s2.L l2.length s2.lc)).setCell ⟨gr,3,none⟩ (.slice s2.R s2.q.length s2.rc))=w9 at *
   refine hK.out _ _ (HSS.out _ _ H8.out) ?_
   clear hK
   (repeat ((first | refine lex_skip (by rfl) ?_ | (refine lex_read (v:=?_) (by rfl) ?_ ?_;rotate_left;(focus (intro w' hS';go_simp;(try with_reducible rfl);done))));try simp only [Act.put,List.setIfInBounds_toArray,List.set_cons_zero,List.set_cons_succ]))
   refine lex_nil ?_
   obtain ⟨fr,hfr⟩:=H8.out.fst
   have hblk:=hfr.1
   clear hfr
   go_wp2_with fail
   refine bodyPost_ret (res_cell_tmp rfl _ _ gr 169 #[.slice s1.L l1.length s1.lc,.slice s1.R s1.q.length s1.rc,.slice s2.L l2.length s2.lc,.slice s2.R s2.q.length s2.rc] (0,0) rfl hblk Tryz.underlying169 (by kernel_rfl)) rfl ?_
   clear hblk
   exact HFIN.out _ _ _ (by unfold okW;rw [hb1,hb2];rfl) H8.out
  | true =>
   refine wp_region_lex (fun w':World=>w'.cell? ⟨ga,0,none⟩=some (.slice s1.L l1.length s1.lc)∧w'.cell? ⟨ga,1,none⟩=some (.slice s1.R s1.q.length s1.rc)∧w'.cell? ⟨gb,0,none⟩=some (.slice s2.L l2.length s2.lc)∧w'.cell? ⟨gb,1,none⟩=some (.slice s2.R s2.q.length s2.rc)∧w'.cell? ⟨gt,0,none⟩=some (.slice a.A T.rs.length a.c)∧w'.cell? ⟨gt,1,none⟩=some (.slice a.D T.ds.length a.d)∧w'.cell? ⟨gt,2,none⟩=some (.slice a.E T.es.length a.e)∧w'.cell? ⟨gt,3,none⟩=some (.int .i64 T.drop)∧w'.cell? ⟨gt,4,none⟩=some (.int .i64 T.ord)∧w'.cell? ⟨gt,5,none⟩=some (.int .i64 T.ini)) (by rfl) (by kernel_rfl) hS0 ?_
   clear hS0
   generalize w5.drew=w6 at *
   obtain ⟨r0,r1,r2,r3,rf⟩:=run_c4 H7.out
   (repeat ((first | refine lex_skip (by rfl) ?_ | (refine lex_read (v:=?_) (by rfl) ?_ ?_;rotate_left;(focus (intro w' hS';go_simp;(try with_reducible rfl);done))));try simp only [Act.put,List.setIfInBounds_toArray,List.set_cons_zero,List.set_cons_succ]))
   refine lex_chain rfl (by rfl) (fun K hK=>?_)
   go_wp2_with fail
      
   refine (KV.out _ (HBE.out _ _ H7.out)).mono ?_
   rintro e9 w7 ⟨rfl,hb⟩
   have H7b:=hide (H7.out.below (star_ok cell_ok OKX.out) hb)
   clear KV H7 hb r0 r1 r2 r3 rf
   dsimp only
   refine hK.out _ _ (HSS.out _ _ H7b.out) ?_
   clear hK
   obtain ⟨r0,r1,r2,r3,rf⟩:=run_c4 H7b.out
   (repeat ((first | refine lex_skip (by rfl) ?_ | (refine lex_read (v:=?_) (by rfl) ?_ ?_;rotate_left;(focus (intro w' hS';go_simp;(try with_reducible rfl);done))));try simp only [Act.put,List.setIfInBounds_toArray,List.set_cons_zero,List.set_cons_succ]))
   refine lex_chain rfl (by rfl) (fun K hK=>?_)
   go_wp2_with fail
      
   have H8:=hide (run_setc (run_setc (run_setc (run_setc (H7b.out) OKX.out 0 (.slice s1.L l1.length s1.lc)) OKX.out 1 (.slice s1.R s1.q.length s1.rc)) OKX.out 2 (.slice s2.L l2.length s2.lc)) OKX.out 3 (.slice s2.R s2.q.length s2.rc):Run (fun _=>False) w (star (CellO gr #[.slice s1.L l1.length s1.lc,.slice s1.R s1.q.length s1.rc,.slice s2.L l2.length s2.lc,.slice s2.R s2.q.length s2.rc] 169) (star (CellO gb #[.slice s2.L l2.length s2.lc,.slice s2.R s2.q.length s2.rc] 167) (star (CellO ga #[.slice s1.L l1.length s1.lc,.slice s1.R s1.q.length s1.rc] 167) (star (CellO gt #[.slice a.A T.rs.length a.c,.slice a.D T.ds.length a.d,.slice a.E T.es.length a.e,.int .i64 T.drop,.int .i64 T.ord,.int .i64 T.ini] 25) (star (SideO l1 s1) (SideO l2 s2)))))) _)
   clear H7b r0 r1 r2 r3 rf
   generalize ((((w7.setCell ⟨gr,0,none⟩ (.slice s1.L l1.length s1.lc)).setCell ⟨gr,1,none⟩ (.slice s1.R s1.q.length s1.rc)).setCell ⟨gr,2,none⟩ (.slice s2.L l2.length s2.lc)).setCell ⟨gr,3,none⟩ (.slice s2.R s2.q.length s2.rc))=w9 at *
   refine hK.out _ _ (HSS.out _ _ H8.out) ?_
   clear hK
   (repeat ((first | refine lex_skip (by rfl) ?_ | (refine lex_read (v:=?_) (by rfl) ?_ ?_;rotate_left;(focus (intro w' hS';go_simp;(try with_reducible rfl);done))));try simp only [Act.put,List.setIfInBounds_toArray,List.set_cons_zero,List.set_cons_succ]))
   refine lex_nil ?_
   obtain ⟨fr,hfr⟩:=H8.out.fst
   have hblk:=hfr.1
   clear hfr
   go_wp2_with fail
   refine bodyPost_ret (res_cell_tmp rfl _ _ gr 169 #[.slice s1.L l1.length s1.lc,.slice s1.R s1.q.length s1.rc,.slice s2.L l2.length s2.lc,.slice s2.R s2.q.length s2.rc] (0,0) rfl hblk Tryz.underlying169 (by kernel_rfl)) rfl ?_
   clear hblk
   exact HFIN.out _ _ _ (by unfold okW;rw [hb1,hb2];rfl) H8.out
end Go.Proofs.YtbnnlpjpnihheaaGreatDoor
namespace Go.Proofs.YtbnnlpjpnihheaaGreatDoor
open Go.RowKit Go.CH Go.CH.Scr Go.CH.Pot
open Go.ChangeMaps (setBlock)

def Zw (W:Wd) (x:WA) (s:St) (b1 b2:Nat):CH.Own:=star (CellO b1 (stC s) 175) (CellO b2 (wordsC W x) 169)
theorem Zw_ok {W:Wd} {x:WA} {s:St} {b1 b2:Nat}:(Zw W x s b1 b2).Ok:=star_ok cell_ok cell_ok

def encA (p:RA × St):Array Value:=#[.agg (acells p.1).toArray,.agg (stC p.2)]

def WA.at (x:WA) (lf:Bool):SA:=if lf then x.a else x.b
def lsA (W:Wd) (lf:Bool):List Bs:=if lf then W.l else W.m
def kA (s:St) (lf:Bool):Nat:=if lf then s.i else s.j
def amvR (W:Wd) (s:St) (y:RA):Option (RA × St):=(W.amv s y.r).map fun p=>(y,p.2)
def amovR (W:Wd) (x:WA) (s:St):List (RA × St):=(x.at (W.left s)).q.filterMap (amvR W s)

def amvs (W:Wd) (x:WA) (s:St) (k:Nat):List (RA × St):=((x.at (W.left s)).q.take k).filterMap (amvR W s)
theorem amovR_eq {W:Wd} {x:WA} {s:St} (h:AwS W x):(amovR W x s).map (fun p=>(p.1.r,p.2))=W.amoves s:=by
 have e:(x.at (W.left s)).q.map (·.r)=sideR W.rs (if W.left s then W.ka else W.kb):=by
  unfold WA.at
  cases W.left s
  ·exact h.qb
  ·exact h.qa
 unfold amovR Wd.amoves
 rw [←e,List.map_filterMap,List.filterMap_map]
 refine fm_congr _ fun y _=>?_
 unfold amvR
 show Option.map _ (Option.map _ (W.amv s y.r))=W.amv s y.r
 rw [Option.map_map]
 unfold Wd.amv
 by_cases h:fitsA (if W.left s then W.l else W.m) y.r (if W.left s then s.i else s.j)=true
 ·rw [if_pos h,Option.map_map];rfl
 ·rw [if_neg h];rfl
section
variable {W:Wd} {x:WA} {s:St} {k:Nat}
theorem amvs_all:amvs W x s (x.at (W.left s)).q.length=amovR W x s:=by unfold amvs amovR;rw [List.take_length]
theorem amvs_none (hk:k < (x.at (W.left s)).q.length) (h:amvR W s (x.at (W.left s)).q[k]=none):amvs W x s (k+1)=amvs W x s k:=by
 unfold amvs
 rw [List.take_succ_eq_append_getElem hk,List.filterMap_append]
 simp [h]
theorem amvs_some (hk:k < (x.at (W.left s)).q.length) {p:RA × St} (h:amvR W s (x.at (W.left s)).q[k]=some p):amvs W x s (k+1)=amvs W x s k ++ [p]:=by
 unfold amvs
 rw [List.take_succ_eq_append_getElem hk,List.filterMap_append]
 simp [h]
theorem amvs_at (hk:k < (x.at (W.left s)).q.length) {p:RA × St} (h:amvR W s (x.at (W.left s)).q[k]=some p):∃ hi:(amvs W x s k).length < (amovR W x s).length,(amovR W x s)[(amvs W x s k).length]=p:=by
 have e:amovR W x s=amvs W x s k ++ p :: ((x.at (W.left s)).q.drop (k+1)).filterMap (amvR W s):=by
  unfold amovR amvs
  conv=>lhs;rw [←List.take_append_drop k (x.at (W.left s)).q,List.drop_eq_getElem_cons hk,List.filterMap_append,List.filterMap_cons_some h]
 refine ⟨by rw [e];simp,?_⟩
 simp only [e]
 rw [List.getElem_append_right (Nat.le_refl _)]
 simp
end

def nextA (s:St) (lf:Bool) (n:Nat) (z:Bs × Bool):St:=if lf then ⟨s.i+n,s.j,z.1,z.2⟩ else ⟨s.i,s.j+n,z.1,z.2⟩
section
variable {W:Wd} {s:St} {y:RA}
theorem amvR_noFit (h:fitsA (lsA W (W.left s)) y.r (kA s (W.left s))=false):amvR W s y=none:=by
 unfold amvR Wd.amv
 unfold lsA kA at h
 rw [if_neg (by rw [h];decide)];rfl
theorem amvR_noAh (h:W.ahA s y.r.t=none):amvR W s y=none:=by
 unfold amvR Wd.amv
 rw [h]
 by_cases h:fitsA (if W.left s then W.l else W.m) y.r (if W.left s then s.i else s.j)=true
 ·rw [if_pos h];rfl
 ·rw [if_neg h];rfl
theorem amvR_yes (h:fitsA (lsA W (W.left s)) y.r (kA s (W.left s))=true) {z:Bs × Bool} (hz:W.ahA s y.r.t=some z):amvR W s y=some (y,nextA s (W.left s) y.r.f.length z):=by
 unfold amvR Wd.amv nextA
 unfold lsA kA at h
 rw [if_pos h,hz];rfl
theorem ahA_1 {q:Bs} (h1:q.isPrefixOf s.a=true):W.ahA s q=some (s.a.drop q.length,s.r && decide (s.a.drop q.length≠[])):=by unfold Wd.ahA;rw [if_pos h1]
theorem ahA_2 {q:Bs} (h1:¬ q.isPrefixOf s.a=true) (h2:s.a.isPrefixOf q=true):W.ahA s q=some (q.drop s.a.length,!W.left s):=by unfold Wd.ahA;rw [if_neg h1,if_pos h2]
theorem ahA_3 {q:Bs} (h1:¬ q.isPrefixOf s.a=true) (h2:¬ s.a.isPrefixOf q=true):W.ahA s q=none:=by unfold Wd.ahA;rw [if_neg h1,if_neg h2]
end
end Go.Proofs.YtbnnlpjpnihheaaGreatDoor
namespace Go.Proofs.YtbnnlpjpnihheaaGreatDoor
open Go.RowKit Go.CH Go.CH.Scr Go.CH.Pot
open Go.ChangeMaps (setBlock)
attribute [local go_sem] Oper.semAt_some

def fnA (b1 b2:Nat):Value:=.func (.func 126) #[] #[.pointer (some ⟨b1,0,none⟩),.pointer (some ⟨b2,0,none⟩)]
theorem amoves_any {W:Wd} {x:WA} {s:St} (w:World) :
  Calls Tryz.prog 98 #[.agg (wordsC W x),.agg (stC s)] w fun e w'=>∃ b1 b2,e=.returned (fnA b1 b2)∧Post w (fun _=>False) (Zw W x s b1 b2) w':=by
 have hp:Post w (fun _=>False) (Zw W x s (w.heap.size+1) w.heap.size) ((w.alloc (.cells (wordsC W x) 169)).alloc (.cells (stC s) 175)):=by
  have h1:=(Run.begin w).fresh emp_ok (cell_new w (wordsC W x) 169)
  have h2:=h1.fresh (star_ok cell_ok emp_ok) (cell_new _ (stC s) 175)
  rw [World.size_alloc] at h2
  have h3:Run (fun _=>False) w (star (Zw W x s (w.heap.size+1) w.heap.size) emp) _:=h2.perm (by unfold Zw;ac_rfl)
  exact (h3.swap.drop).post Zw_ok
 have HP:=hide hp
 clear hp
 unfold wordsC stC
 unfold wordsC stC at HP
 go_enter Tryz.func98,Tryz.ntmps98
 go_wp2
 go_ret
 exact ⟨_,_,rfl,HP.out⟩
end Go.Proofs.YtbnnlpjpnihheaaGreatDoor
namespace Go.Proofs.YtbnnlpjpnihheaaGreatDoor
open Go.RowKit Go.CH Go.CH.Scr Go.CH.Pot
open Go.ChangeMaps (setBlock)
attribute [local go_sem] Oper.semAt_some
theorem ast_flats (s:St):Flats Tryz.prog [⟨ "i",3,0,false, "", "customhouse/align",0⟩,⟨ "j",3,1,false, "", "customhouse/align",8⟩,⟨ "ahead",9,2,false, "", "customhouse/align",16⟩,⟨ "right",4,3,false, "", "customhouse/align",32⟩] (stC s):=by
 intro f hf
 simp only [List.mem_cons,List.mem_nil_iff,or_false] at hf
 rcases hf with rfl | rfl | rfl | rfl
 ·exact ⟨by decide,_,rfl,.int Tryz.underlying3 _⟩
 ·exact ⟨by decide,_,rfl,.int Tryz.underlying3 _⟩
 ·exact ⟨by decide,_,rfl,.str Tryz.underlying9 _⟩
 ·exact ⟨by decide,_,rfl,.bool Tryz.underlying4 _⟩
theorem ast_same (a b:St):sameF [⟨ "i",3,0,false, "", "customhouse/align",0⟩,⟨ "j",3,1,false, "", "customhouse/align",8⟩,⟨ "ahead",9,2,false, "", "customhouse/align",16⟩,⟨ "right",4,3,false, "", "customhouse/align",32⟩] (stC a) (stC b)=decide (a=b):=(rfl:_=sameF [⟨ "i",3,0,false, "", "customhouse/potential",0⟩,⟨ "j",3,1,false, "", "customhouse/potential",8⟩,⟨ "ahead",9,2,false, "", "customhouse/potential",16⟩,⟨ "right",4,3,false, "", "customhouse/potential",32⟩] (stC a) (stC b)).trans (st_same a b)
theorem keyOk_ast:KeyOk Tryz.prog 175 stV:=by
 refine keyOk_struct (cs:=stC) Tryz.underlying175 (by kernel_rfl) ast_flats ast_same (fun a=>?_)
 simp [stC,Instr.sameBits,bs_beq]
theorem astm_get {b:Nat} {L:List (St × Int)} {w:World} {F:Nat→Prop} (h:StM b L w F) (s:St) (ok:Bool) :
  (Instr.lookup 172 (.map (some b)) (.agg #[.int .i64 s.i,.int .i64 s.j,.string (bs s.a),.bool s.r]) ok).run Tryz.prog w=.ok (if ok then .tuple #[(mget (L.map fun p=>(p.1,Value.int .i64 p.2)) s).getD (.int .i64 0),.bool (mget (L.map fun p=>(p.1,Value.int .i64 p.2)) s).isSome] else (mget (L.map fun p=>(p.1,Value.int .i64 p.2)) s).getD (.int .i64 0)) w:=by
 obtain ⟨⟨es,clock,h1,h2⟩,hF⟩:=h
 cases ok
 ·exact run_lookup keyOk_ast Tryz.underlying172 Tryz.zeroValue3 h2 s w h1
 ·exact run_lookup_ok keyOk_ast Tryz.underlying172 Tryz.zeroValue3 h2 s w h1
theorem done_fin {W:Wd} {s:St} (hs:W.ok s):doneN W s=decide (s=W.fin):=by
 obtain ⟨i,j,a,r⟩:=s
 have h3:=hs.2.2
 unfold doneN Wd.fin
 simp only at h3 ⊢
 by_cases h1:i=W.l.length
 ·by_cases h2:j=W.m.length
  ·by_cases ha:a=[]
   ·cases r with
    | false=>simp [h1,h2,ha]
    | true=>exact absurd ha (h3 rfl)
   ·simp [ha]
  ·simp [h2]
 ·simp [h1]

def fnW (bm bw bf:Nat):Value:=.func (.func 125) #[] #[.pointer (some ⟨bm,0,none⟩),.pointer (some ⟨bw,0,none⟩),.pointer (some ⟨bf,0,none⟩)]

def WkB (W:Wd) (x:WA) (b bm bw bf:Nat):CH.Own:=star (CellO bm #[.map (some b)] 172) (star (CellO bw (wordsC W x) 169) (CellO bf #[fnW bm bw bf] 213))
theorem wkb_ok {W:Wd} {x:WA} {b bm bw bf:Nat}:(WkB W x b bm bw bf).Ok:=star_ok cell_ok (star_ok cell_ok cell_ok)

def WkRet (W:Wd) (x:WA) (s:St) (L:List (St × Int)) (F0:Nat→Prop) (w0:World) (b bm bw bf:Nat) (X:CH.Own) (e:Ending) (w':World):Prop :=
 ∃ L',e=.returned (.int .i64 (W.dist s))∧Kn W L'∧Ext W s L L'∧s ∈ keysL L'∧Run F0 w0 (star (StM b L') (star (WkB W x b bm bw bf) X)) w'

def MovA (W:Wd) (x:WA):Prop:=∀ s,W.ok s→(amovR W x s).map (fun p=>(p.1.r.c,p.2))=W.moves s
theorem mova_len {W:Wd} {x:WA} {s:St} (h:MovA W x) (hs:W.ok s):(W.moves s).length=(amovR W x s).length:=by rw [←h s hs,List.length_map]
theorem mova_at {W:Wd} {x:WA} {s:St} (h:MovA W x) (hs:W.ok s) {i:Nat} (hi:i < (amovR W x s).length) (hi2:i < (W.moves s).length):(W.moves s)[i]=((amovR W x s)[i].1.r.c,(amovR W x s)[i].2):=by
 have e:(W.moves s)[i]?=some ((amovR W x s)[i].1.r.c,(amovR W x s)[i].2):=by rw [←h s hs,List.getElem?_map,List.getElem?_eq_getElem hi];rfl
 rw [List.getElem?_eq_getElem hi2] at e
 injection e
theorem wkb_cells {W:Wd} {x:WA} {b bm bw bf:Nat} {F0:Nat→Prop} {w0 w:World} {X:CH.Own} (h:Run F0 w0 (star (WkB W x b bm bw bf) X) w) :
  w.cell? ⟨bm,0,none⟩=some (.map (some b))∧w.cell? ⟨bf,0,none⟩=some (fnW bm bw bf)∧(w.cell? ⟨bw,0,none⟩=some (.slice x.a.L W.l.length x.a.lc)∧w.cell? ⟨bw,1,none⟩=some (.slice x.a.R x.a.q.length x.a.rc)∧w.cell? ⟨bw,2,none⟩=some (.slice x.b.L W.m.length x.b.lc)∧w.cell? ⟨bw,3,none⟩=some (.slice x.b.R x.b.q.length x.b.rc)):=by
 obtain ⟨F,hF⟩:=(h.perm (by unfold WkB;ac_rfl:_=star (CellO bm #[.map (some b)] 172) (star (CellO bw (wordsC W x) 169) (star (CellO bf #[fnW bm bw bf] 213) X)))).fst
 obtain ⟨F2,hF2⟩:=(h.perm (by unfold WkB;ac_rfl:_=star (CellO bw (wordsC W x) 169) (star (CellO bm #[.map (some b)] 172) (star (CellO bf #[fnW bm bw bf] 213) X)))).fst
 obtain ⟨F3,hF3⟩:=(h.perm (by unfold WkB;ac_rfl:_=star (CellO bf #[fnW bm bw bf] 213) (star (CellO bm #[.map (some b)] 172) (star (CellO bw (wordsC W x) 169) X)))).fst
 exact ⟨cell_at hF rfl,cell_at hF3 rfl,cell_at hF2 rfl,cell_at hF2 rfl,cell_at hF2 rfl,cell_at hF2 rfl⟩
end Go.Proofs.YtbnnlpjpnihheaaGreatDoor
