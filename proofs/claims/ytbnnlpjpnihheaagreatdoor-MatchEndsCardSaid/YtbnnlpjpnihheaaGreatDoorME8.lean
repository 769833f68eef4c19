/- A part of the proof: lemmas. -/
import Derived.Test.YtbnnlpjpnihheaaGreatDoorME7
import Derived.Deep.DeepCutAuto
import Derived.Test.YtbnnlpjpnihheaaGreatDoorME4
set_option maxHeartbeats 16000000
set_option maxRecDepth 100000
set_option linter.unusedSimpArgs false
set_option linter.unusedVariables false
namespace Go.Proofs.YtbnnlpjpnihheaaGreatDoor
open Go.RowKit Go.CH Go.CH.Scr Go.CH.dK Go.CH.Mtc
open Go.ChangeMaps (setBlock)
attribute [local go_sem] Oper.semAt_some
theorem BP.at {w:World} {A:Option Addr} {l:List Vr} (h:BP w A l) (hn:0 < l.length):∃ b o,A=some ⟨b,o,none⟩∧∀ w',Below w.heap.size w w'→∀ j (hj:j < l.length),
  w'.cell? ⟨b,o+j*3,none⟩=some (.string (bs l[j].w))∧w'.cell? ⟨b,o+j*3+1,none⟩=some (.int .i64 l[j].e)∧w'.cell? ⟨b,o+j*3+2,none⟩=some (.int .i64 l[j].c):=by
 obtain ⟨b,o,e,hc⟩:=wu.at (R:=jD) (fun _=>rfl) (by omega) h hn;exact ⟨b,o,e,fun w' hb j hj=>⟨hc w' hb j hj 0 _ rfl,hc w' hb j hj 1 _ rfl,hc w' hb j hj 2 _ rfl⟩⟩
theorem Az {u v:uh} {a c:WW} {T:Tab} {t:TA} {b1 b2 b3:Nat} (hu:0 < u.ls.length) (hv:0 < v.ls.length) (hun:u.vs.length≤1000000) (hvn:v.vs.length≤1000000) (huc:∀ x ∈ u.vs,0≤x.c∧x.c≤1000) (hvc:∀ x ∈ v.vs,0≤x.c∧x.c≤1000) (hul:u.ls.length≤1000000) (hvl:v.ls.length≤1000000) :
  M5 Tryz.prog 93 #[.pointer (some ⟨b1,0,none⟩),.pointer (some ⟨b2,0,none⟩),.pointer (some ⟨b3,0,none⟩)] (Tw u v a c) (Zy u v a c T t b1 b2 b3) GH (fA T.ini u.vs v.vs u.ls v.ls):=by
 intro n lo w F0 w0 X Y okX okY hE h0 hY;have HY:=hide hY;have HE:=hide hE;have OKX:=hide okX;have HUC:=hide huc;have HVC:=hide hvc;clear hY hE okX huc hvc;obtain ⟨n1,hn1⟩:∃ k,k=u.vs.length:=⟨_,rfl⟩;obtain ⟨m,hm⟩:∃ k,k=v.vs.length:=⟨_,rfl⟩;have HN1:=hide hn1;have HM:=hide hm;have HWA:=hide (fun (i j:Nat) (hi:i < u.vs.length) (hj:j < v.vs.length)=>(show ∃ h:i*m+j < (fA T.ini u.vs v.vs u.ls v.ls).length,(fA T.ini u.vs v.vs u.ls v.ls)[i*m+j]=vU u.vs[i] v.vs[j] from by rw [hm];exact QV hi hj));have HW2:=hide (fun (hp:u.ls.length=1)=>(show ∃ h:n1*m < (fA T.ini u.vs v.vs u.ls v.ls).length,(fA T.ini u.vs v.vs u.ls v.ls)[n1*m]=iD 2 T.ini u.ls v.ls from by rw [hn1,hm];exact Oj hp));have HW3:=hide (fun (hq:v.ls.length=1) (k:Nat) (hk:k=n1*m+if u.ls.length=1 then 1 else 0)=>GI (ini:=T.ini) (us:=u.vs) (vs:=v.vs) (p:=u.ls) hq (n:=k) (by rw [←hn1,←hm];exact hk));have HW4:=hide (fun (hq:v.ls.length≠1) (k:Nat) (hk:k=n1*m+if u.ls.length=1 then 1 else 0)=>KQ (ini:=T.ini) (us:=u.vs) (vs:=v.vs) (p:=u.ls) hq (n:=k) (by rw [←hn1,←hm];exact hk));rw [←hn1] at hun;rw [←hm] at hvn;refine callsIn_of_wp Tryz.func93 rfl trivial ?_ rfl;simp only [Tryz.ntmps93,List.size_toArray,List.length_cons,List.length_nil,Nat.reduceAdd,Nat.reduceSub,Array.replicate_succ,Array.replicate_zero,List.push_toArray,List.append_toArray,List.nil_append,List.cons_append];have H0:=hide h0;obtain ⟨⟨z0,z1,z2⟩,⟨y0,y1,y2⟩,z5⟩:=mI h0;rw [←hn1] at z1;rw [←hm] at y1;have z0m:X 0=X (0*m):=by rw [Nat.zero_mul]
 have H0':=hide (show Run F0 w0 (star (Zy u v a c T t b1 b2 b3) (X (0*m))) w from z0m ▸ h0);clear h0 hn1 hm z0m H0;gi_wp2;gi_loopw [13] (fun i wr=>∃ k:Nat,k≤n1∧i=.int .i64 k∧Run F0 w0 (star (Zy u v a c T t b1 b2 b3) (X (k*m))) wr) (fun i _=>n1 - (intOf i).toNat)
 case atStart=>exact ⟨0,Nat.zero_le _,rfl,H0'.out⟩
 case round =>
  obtain ⟨k,hk,rfl,hR⟩:=hrel;have HR:=hide hR;clear H0' hR z0 z1 z2 y0 y1 y2 z5;obtain ⟨⟨z0,z1,z2⟩,⟨y0,y1,y2⟩,z5⟩:=mI HR.out;rw [←HN1.out] at z1;rw [←HM.out] at y1;by_cases hlt:k < n1
  ·have hkn:k < u.vs.length:=by rw [←HN1.out];exact hlt
   have HP:=hide (HE.out wr HR.out.mod);obtain ⟨b,o,hA,hc⟩:=HP.out.u.vs.at (by omega);obtain ⟨r0,r1,r2⟩:=hc wr (Below.refl _ _) k hkn;rw [hA] at z1 ⊢;clear hc hA;have hcb:=HUC.out _ (List.getElem_mem hkn);have HK1:=hide (show k+1≤n1 from hlt);have HWB:=hide (fun (j:Nat) (hj:j < v.vs.length)=>HWA.out k j hkn hj);have hkb:(k:Int) < 1000000:=by omega
   generalize u.vs[k]=q at *
   obtain ⟨qw,qe,qc⟩:=q;dsimp only at r0 r1 r2 hcb;have h6:=aG HR.out (aj jf (OKX.out _)) #[.string (bs qw),.int .i64 qe,.int .i64 qc] 60;have H6:=hide (show Run F0 w0 (star (star (au wr.heap.size #[.string (bs qw),.int .i64 qe,.int .i64 qc] 60) (Zy u v a c T t b1 b2 b3)) (X (k*m+0))) _ from h6.perm (by rw [Nat.add_zero];ac_rfl));obtain ⟨⟨z0',z1',z2'⟩,⟨y0',y1',y2'⟩,z5'⟩:=mI h6.drop;rw [←HM.out] at y1';have HVA:=hide (HE.out _ h6.mod);clear h6 HR HP hk;gi_wp2;generalize wr.alloc (.cells #[.string (bs qw),.int .i64 qe,.int .i64 qc] 60)=w6 at *
   generalize wr.heap.size=g6 at *
   clear z0 z1 z2 y0 y1 y2 z5 r0 r1 r2 z0' z1' z2' y0' y1' y2' z5';gi_loopw [20] (fun i wr=>∃ j:Nat,j≤m∧i=.int .i64 j∧Run F0 w0 (star (star (au g6 #[.string (bs qw),.int .i64 qe,.int .i64 qc] 60) (Zy u v a c T t b1 b2 b3)) (X (k*m+j))) wr) (fun i _=>m - (intOf i).toNat)
   case atStart=>exact ⟨0,Nat.zero_le _,rfl,H6.out⟩
   case round =>
    clear H6 HVA;obtain ⟨j,hj,rfl,hR⟩:=hrel;have HR:=hide hR;clear hR;by_cases hjl:j < m
    ·have hjn:j < v.vs.length:=by rw [←HM.out];exact hjl
     have HP:=hide (HE.out _ HR.out.mod);obtain ⟨b',o',hA,hc⟩:=HP.out.v.vs.at (by omega);obtain ⟨r0,r1,r2⟩:=hc _ (Below.refl _ _) j hjn;have hcb2:=HVC.out _ (List.getElem_mem hjn);have HJ1:=hide (show j+1≤m from hjl);have hjb:(j:Int) < 1000000:=by omega
     obtain ⟨hi9,hx9⟩:=HWB.out j hjn;clear hc;generalize v.vs[j]=q' at *
     obtain ⟨qw',qe',qc'⟩:=q';dsimp only at r0 r1 r2 hcb2;rw [hA];clear hA;have h8:=aG HR.out (aj (aj av jf) (OKX.out _)) #[.string (bs qw'),.int .i64 qe',.int .i64 qc'] 60;obtain ⟨p0,p1,p2⟩:=cK h8;obtain ⟨x0,x1,x2⟩:=cK (h8.drop.assoc:Run F0 w0 (star (au g6 #[.string (bs qw),.int .i64 qe,.int .i64 qc] 60) _) _);obtain ⟨x0',x1',x2'⟩:=cK (HR.out.assoc:Run F0 w0 (star (au g6 #[.string (bs qw),.int .i64 qe,.int .i64 qc] 60) _) _);have hw:=HY.out (star (au g6 #[.string (bs qw),.int .i64 qe,.int .i64 qc] 60) (Zy u v a c T t b1 b2 b3)) (aj av jf) _ hi9 _ h8.drop;rw [hx9] at hw;simp only [GH,jk,vU,iD] at hw;obtain ⟨fn,tmps,assign,body,hy,hround⟩:=hw;have HRD:=hide hround;clear hround hx9 hi9;have HR8:=hide h8;clear h8 HR HP hj hjn HWB;gi_wp2
     try rw [hy]
     refine ⟨fun h=>(by cases h),?_⟩;refine HRD.out.mono ?_;rintro e W3 (⟨rfl,h3⟩ | ⟨rfl,h3⟩)
     ·have H9:=hide h3;clear HRD h3 hy r0 r1 r2 p0 p1 p2 x0 x1 x2 x0' x1' x2' HR8;gi_wp2
      go_roundw
      case rel=>exact ⟨j+1,HJ1.out,by go_num,H9.out⟩
      case measure=>have:=HJ1.out;simp [intOf];omega
     ·have HE2:=hide (show (∃ v,(Ending.returned (.tuple #[]))=.returned v)∧∃ Z:CH.Own,Z.Ok∧(Run F0 w0 (star Z (X (fA T.ini u.vs v.vs u.ls v.ls).length)) W3∨Run F0 w0 (star Z Y) W3) from ⟨⟨_,rfl⟩,(star (au g6 #[.string (bs qw),.int .i64 qe,.int .i64 qc] 60) (Zy u v a c T t b1 b2 b3)),aj av jf,.inr h3⟩);clear HRD h3 hy r0 r1 r2 p0 p1 p2 x0 x1 x2 x0' x1' x2' HR8;gi_wp2;refine bodyPost_ret (results_none rfl _ _ _) rfl ?_;exact HE2.out
    ·have H9:=hide (show Run F0 w0 (star (Zy u v a c T t b1 b2 b3) (X ((k+1)*m))) wr from by
      have e:j=m:=by omega
      subst e;rw [Nat.succ_mul]
      exact HR.out.assoc.drop)
     clear HR;gi_wp2
     go_roundw
     case rel=>exact ⟨k+1,HK1.out,by go_num,H9.out⟩
     case measure=>have:=HK1.out;simp [intOf];omega
  ·have hke:k=n1:=by omega
   subst hke;have hun1:=HE.out wr HR.out.mod;clear hk;by_cases hp:u.ls.length=1
   ·have t1:((u.ls.length:Int) == 1)=true:=by simp [hp]
    obtain ⟨hi9,hx9⟩:=HW2.out hp;have KI:=hide (o7 (OKX.out _) HR.out (HE.out _ HR.out.mod) hu hv 2)
    gi_wp2_with fail
    repeat (refine ⟨fun f h=>(by cases h),?_⟩;gi_wp2_with fail)
    refine ⟨trivial,fun h=>(by cases h),?_⟩;refine (callsIn_wide.2 KI.out).mono ?_;rintro e9 w7 ⟨rfl,hb⟩;have H7:=hide (HR.out.below (aj jf (OKX.out _)) hb);clear KI HR hb z0 z1 z2 y0 y1 y2 z5;have hw:=HY.out (Zy u v a c T t b1 b2 b3) jf _ hi9 _ H7.out;rw [hx9] at hw;simp only [GH,jk,vU,iD] at hw;obtain ⟨fn,tmps,assign,body,hy,hround⟩:=hw;have HRD:=hide hround;clear hround hx9 hi9;dsimp only;simp only [jk,iD];gi_wp2
    try rw [hy]
    refine ⟨fun h=>(by cases h),?_⟩;refine HRD.out.mono ?_;rintro e W3 (⟨rfl,h3⟩ | ⟨rfl,h3⟩)
    ·have H9:=hide h3;clear HRD h3 hy H7;have HR2:=hide H9.out;obtain ⟨⟨z0,z1,z2⟩,⟨y0,y1,y2⟩,z5⟩:=mI HR2.out;by_cases hq:v.ls.length=1
     ·obtain ⟨⟨hi9,hx9⟩,hen⟩:=HW3.out hq _ (show k*m+1=_ from by rw [if_pos hp]);have t2:((v.ls.length:Int) == 1)=true:=by simp [hq]
      have KI:=hide (o7 (OKX.out _) HR2.out (HE.out _ HR2.out.mod) hu hv 3);clear HW3 HW4 HW2 HWA
      gi_wp2_with fail
      repeat (refine ⟨fun f h=>(by cases h),?_⟩;gi_wp2_with fail)
      refine ⟨trivial,fun h=>(by cases h),?_⟩;refine (callsIn_wide.2 KI.out).mono ?_;rintro e9 w7 ⟨rfl,hb⟩;have H7:=hide (HR2.out.below (aj jf (OKX.out _)) hb);clear KI HR2 hb z0 z1 z2 y0 y1 y2 z5;have hw:=HY.out (Zy u v a c T t b1 b2 b3) jf _ hi9 _ H7.out;rw [hx9] at hw;simp only [GH,jk,vU,iD] at hw;obtain ⟨fn,tmps,assign,body,hy,hround⟩:=hw;have HRD:=hide hround;clear hround hx9 hi9;dsimp only;simp only [jk,iD];gi_wp2
      try rw [hy]
      refine ⟨fun h=>(by cases h),?_⟩;refine HRD.out.mono ?_;rintro e W3 h3;have HE2:=hide (show e=.returned (.bool true)∨e=.returned (.bool false) from h3.imp (fun h=>h.1) (fun h=>h.1));have HE3:=hide (show (∃ v,(Ending.returned (.tuple #[]))=.returned v)∧∃ Z:CH.Own,Z.Ok∧(Run F0 w0 (star Z (X (fA T.ini u.vs v.vs u.ls v.ls).length)) W3∨Run F0 w0 (star Z Y) W3) from ⟨⟨_,rfl⟩,(Zy u v a c T t b1 b2 b3),jf,h3.imp (fun h=>by rw [←hen];exact h.2) (fun h=>h.2)⟩);clear HRD h3 hy H7;rcases HE2.out with rfl | rfl
      ·dsimp only;rename_i Kq hKq;refine hKq _ _ ?_;gi_wp2
       first | refine bodyPost_end (results_none rfl _ _ _) rfl ?_ | refine bodyPost_ret (results_none rfl _ _ _) rfl ?_
       exact HE3.out
      ·dsimp only;rename_i Kq hKq;refine hKq _ _ ?_;gi_wp2
       first | refine bodyPost_end (results_none rfl _ _ _) rfl ?_ | refine bodyPost_ret (results_none rfl _ _ _) rfl ?_
       exact HE3.out
     ·have hen:=HW4.out hq _ (show k*m+1=_ from by rw [if_pos hp]);have t2:((v.ls.length:Int) == 1)=false:=by simp;omega
      have HE3:=hide (show (∃ v,(Ending.returned (.tuple #[]))=.returned v)∧∃ Z:CH.Own,Z.Ok∧(Run F0 w0 (star Z (X (fA T.ini u.vs v.vs u.ls v.ls).length)) W3∨Run F0 w0 (star Z Y) W3) from ⟨⟨_,rfl⟩,(Zy u v a c T t b1 b2 b3),jf,.inl (by rw [←hen];exact HR2.out)⟩);clear HW3 HW4 HW2 HWA HR2 hen;gi_wp2
      repeat (refine ⟨fun f h=>(by cases h),?_⟩;gi_wp2)
      first | refine bodyPost_end (results_none rfl _ _ _) rfl ?_ | refine bodyPost_ret (results_none rfl _ _ _) rfl ?_
      exact HE3.out
    ·have HE2:=hide (show (∃ v,(Ending.returned (.tuple #[]))=.returned v)∧∃ Z:CH.Own,Z.Ok∧(Run F0 w0 (star Z (X (fA T.ini u.vs v.vs u.ls v.ls).length)) W3∨Run F0 w0 (star Z Y) W3) from ⟨⟨_,rfl⟩,(Zy u v a c T t b1 b2 b3),jf,.inr h3⟩);clear HRD h3 hy H7;gi_wp2;refine bodyPost_ret (results_none rfl _ _ _) rfl ?_;exact HE2.out
   ·have t1:((u.ls.length:Int) == 1)=false:=by simp;omega
    clear z0 z1 z2 y0 y1 y2 z5;have HR2:=hide HR.out;obtain ⟨⟨z0,z1,z2⟩,⟨y0,y1,y2⟩,z5⟩:=mI HR2.out;by_cases hq:v.ls.length=1
    ·obtain ⟨⟨hi9,hx9⟩,hen⟩:=HW3.out hq _ (show k*m=_ from by rw [if_neg hp];exact (Nat.add_zero _).symm);have t2:((v.ls.length:Int) == 1)=true:=by simp [hq]
     have KI:=hide (o7 (OKX.out _) HR2.out (HE.out _ HR2.out.mod) hu hv 3);clear HW3 HW4 HW2 HWA
     gi_wp2_with fail
     repeat (refine ⟨fun f h=>(by cases h),?_⟩;gi_wp2_with fail)
     refine ⟨trivial,fun h=>(by cases h),?_⟩;refine (callsIn_wide.2 KI.out).mono ?_;rintro e9 w7 ⟨rfl,hb⟩;have H7:=hide (HR2.out.below (aj jf (OKX.out _)) hb);clear KI HR2 hb z0 z1 z2 y0 y1 y2 z5;have hw:=HY.out (Zy u v a c T t b1 b2 b3) jf _ hi9 _ H7.out;rw [hx9] at hw;simp only [GH,jk,vU,iD] at hw;obtain ⟨fn,tmps,assign,body,hy,hround⟩:=hw;have HRD:=hide hround;clear hround hx9 hi9;dsimp only;simp only [jk,iD];gi_wp2
     try rw [hy]
     refine ⟨fun h=>(by cases h),?_⟩;refine HRD.out.mono ?_;rintro e W3 h3;have HE2:=hide (show e=.returned (.bool true)∨e=.returned (.bool false) from h3.imp (fun h=>h.1) (fun h=>h.1));have HE3:=hide (show (∃ v,(Ending.returned (.tuple #[]))=.returned v)∧∃ Z:CH.Own,Z.Ok∧(Run F0 w0 (star Z (X (fA T.ini u.vs v.vs u.ls v.ls).length)) W3∨Run F0 w0 (star Z Y) W3) from ⟨⟨_,rfl⟩,(Zy u v a c T t b1 b2 b3),jf,h3.imp (fun h=>by rw [←hen];exact h.2) (fun h=>h.2)⟩);clear HRD h3 hy H7;rcases HE2.out with rfl | rfl
     ·dsimp only;rename_i Kq hKq;refine hKq _ _ ?_;gi_wp2
      first | refine bodyPost_end (results_none rfl _ _ _) rfl ?_ | refine bodyPost_ret (results_none rfl _ _ _) rfl ?_
      exact HE3.out
     ·dsimp only;rename_i Kq hKq;refine hKq _ _ ?_;gi_wp2
      first | refine bodyPost_end (results_none rfl _ _ _) rfl ?_ | refine bodyPost_ret (results_none rfl _ _ _) rfl ?_
      exact HE3.out
    ·have hen:=HW4.out hq _ (show k*m=_ from by rw [if_neg hp];exact (Nat.add_zero _).symm);have t2:((v.ls.length:Int) == 1)=false:=by simp;omega
     have HE3:=hide (show (∃ v,(Ending.returned (.tuple #[]))=.returned v)∧∃ Z:CH.Own,Z.Ok∧(Run F0 w0 (star Z (X (fA T.ini u.vs v.vs u.ls v.ls).length)) wr∨Run F0 w0 (star Z Y) wr) from ⟨⟨_,rfl⟩,(Zy u v a c T t b1 b2 b3),jf,.inl (by rw [←hen];exact HR2.out)⟩);clear HW3 HW4 HW2 HWA HR2 hen;gi_wp2
     repeat (refine ⟨fun f h=>(by cases h),?_⟩;gi_wp2)
     first | refine bodyPost_end (results_none rfl _ _ _) rfl ?_ | refine bodyPost_ret (results_none rfl _ _ _) rfl ?_
     exact HE3.out
end Go.Proofs.YtbnnlpjpnihheaaGreatDoor
namespace Go.Proofs.YtbnnlpjpnihheaaGreatDoor
open Go.RowKit Go.CH Go.CH.Scr Go.CH.dK
open Go.ChangeMaps (setBlock)

structure WA where
 a:SA
 b:SA
def aU (W:Wd) (x:WA):Array Value:=#[.slice x.a.L W.l.length x.a.lc,.slice x.a.R x.a.q.length x.a.rc,.slice x.b.L W.m.length x.b.lc,.slice x.b.R x.b.q.length x.b.rc]

structure OC (W:Wd) (x:WA) (w:World):Prop where
 l:fF w x.a.L W.l
 m:fF w x.b.L W.m
 ra:Fq w x.a.R x.a.q
 rb:Fq w x.b.R x.b.q
 fa:∀ y ∈ x.a.q,fF w y.A y.r.f
 fb:∀ y ∈ x.b.q,fF w y.A y.r.f
theorem OC.below {W:Wd} {x:WA} {w w':World} (h:OC W x w) (hb:Below w.heap.size w w'):OC W x w' :=
 ⟨h.l.below hb,h.m.below hb,h.ra.below hb,h.rb.below hb,fun y hy=>(h.fa y hy).below hb,fun y hy=>(h.fb y hy).below hb⟩

structure OD (W:Wd) (x:WA):Prop where
 qa:x.a.q.map (·.r)=dU W.rs W.ka
 qb:x.b.q.map (·.r)=dU W.rs W.kb
 na:x.a.q.length≤1000000
 nb:x.b.q.length≤1000000
 la:W.l.length≤x.a.lc
 lb:W.m.length≤x.b.lc
 l6:W.l.length≤1000000
 m6:W.m.length≤1000000
 f6:∀ y ∈ x.a.q,y.r.f.length≤1000000∧y.r.t.length≤1000000
 g6:∀ y ∈ x.b.q,y.r.f.length≤1000000∧y.r.t.length≤1000000
def doneN (W:Wd) (s:St):Bool:=decide (s.i=W.l.length) && (decide (s.j=W.m.length) && decide (s.a=[]))
theorem CV {w:World} {W:Wd} {x:WA} {s:St}:Calls Tryz.prog 97 #[.agg (aU W x),.agg (fq s)] w (aP w (.bool (doneN W s))):=by
 have h1:=aG (Run.begin w) aB (aU W x) 169;have h2:=aG h1 (aj av aB) (fq s) 175;rw [World.size_alloc] at h2;have HBR:=hide (fun W O v (h:Run (fun _=>False) w O W)=>(show aP w v (.returned v) W from ⟨rfl,h.mod.below (fun _ _ h=>h)⟩));have H2:=hide h2;obtain ⟨b,hb⟩:∃ b,b=doneN W s:=⟨_,rfl⟩;have HV:=hide (show b=(decide (s.i=W.l.length) && (decide (s.j=W.m.length) && decide (s.a=[]))) from hb);rw [←hb];clear h1 h2 hb;unfold aU fq;unfold aU fq at H2;obtain ⟨si,sj,sa,sr⟩:=s;dsimp only at HV H2 ⊢;generalize W.l.length=n1 at *
 generalize W.m.length=n2 at *
 obtain ⟨⟨L,lc,R,rc,q⟩,⟨M,mc,S,sc,p⟩⟩:=x;dsimp only at H2 ⊢;generalize q.length=qn at *
 generalize p.length=pn at *
 have HNE:=hide (show sa≠[]→(bs sa).toList.isEmpty=false from fun h=>by rw [List.isEmpty_eq_false_iff];exact fun e=>h (iJ.1 e));have HEQ:=hide (show sa=[]→(bs sa).toList.isEmpty=true from fun h=>by rw [List.isEmpty_iff];exact iJ.2 h);by_cases h1:si=n1
 ·have t1:((si:Int) == (n1:Int))=true:=by simp [h1]
  by_cases h2:sj=n2
  ·have t2:((sj:Int) == (n2:Int))=true:=by simp [h2]
   by_cases h3:sa=[]
   ·have t3:=HEQ.out h3;have HB:=hide (show b=true from by rw [HV.out];simp [h1,h2,h3]);clear h1 h2 h3 HV HEQ HNE
    go_enter Tryz.func97,Tryz.ntmps97
    go_wp2;go_ret;rw [HB.out];exact HBR.out _ _ _ H2.out
   ·have t3:=HNE.out h3;have HB:=hide (show b=false from by rw [HV.out];simp [h3]);clear h1 h2 h3 HV HEQ HNE
    go_enter Tryz.func97,Tryz.ntmps97
    go_wp2;go_ret;rw [HB.out];exact HBR.out _ _ _ H2.out
  ·have t2:((sj:Int) == (n2:Int))=false:=by simp;omega
   have HB:=hide (show b=false from by rw [HV.out];simp [h2]);clear h1 h2 HV HEQ HNE
   go_enter Tryz.func97,Tryz.ntmps97
   go_wp2;go_ret;rw [HB.out];exact HBR.out _ _ _ H2.out
 ·have t1:((si:Int) == (n1:Int))=false:=by simp;omega
  have HB:=hide (show b=false from by rw [HV.out];simp [h1]);clear h1 HV HEQ HNE
  go_enter Tryz.func97,Tryz.ntmps97
  go_wp2;go_ret;rw [HB.out];exact HBR.out _ _ _ H2.out
end Go.Proofs.YtbnnlpjpnihheaaGreatDoor
namespace Go.Proofs.YtbnnlpjpnihheaaGreatDoor
open Go.RowKit Go.CH Go.CH.Scr Go.CH.dK
open Go.ChangeMaps (setBlock)
theorem CW {w:World}:∀ {q:List RA} {F:Nat→Prop},jm q w F→∀ y ∈ q,fF w y.A y.r.f
 | [],_,_,y,hy=>by cases hy
 | x :: q,F,⟨f1,f2,h1,h2,_,_⟩,y,hy=>by
  rcases List.mem_cons.1 hy with rfl | hy
  ·exact wU h1
  ·exact CW h2 y hy
theorem CX {w:World} {F:Nat→Prop} {l:List Bs} {s:SA} (h:fP l s w F):fF w s.L l∧l.length≤s.lc∧Fq w s.R s.q∧∀ y ∈ s.q,fF w y.A y.r.f:=by
 obtain ⟨f1,f2,h1,⟨f3,f4,h3,h4,-,-⟩,-,-⟩:=h;exact ⟨wU h1,(Bu h1.1).1,Sc h3,CW h4⟩
theorem uM (T:Tab) (k:Int) (x:Bs):(jo T k x).1=(rV k x).1:=by
 unfold jo rV;by_cases h:word k x=true
 ·rw [if_pos h,if_pos h]
 ·rw [if_neg h,if_neg h]
theorem vB {T:Tab} {k:Int} (hr:T.rs.length≤1000000) (hs:∀ R ∈ T.rs,R.f.length≤1000000∧R.t.length≤1000000):(dU T.rs k).length≤1000000∧∀ r ∈ dU T.rs k,r.f.length≤1000000∧r.t.length≤1000000:=by
 unfold dU;refine ⟨Nat.le_trans (List.length_filterMap_le ..) (by rw [List.length_zipIdx];exact hr),fun r h=>?_⟩;obtain ⟨⟨R,n⟩,h1,h2⟩:=List.mem_filterMap.1 h;have hR:=wo _ _ h1;unfold vS at h2;dsimp only at h2 hR;split at h2
 ·split at h2
  ·rename_i hw;injection h2 with h2
   subst h2;exact ⟨Nat.le_trans (dz.1 hw).2.2 (by omega),(hs R hR).2⟩
  ·cases h2
 ·cases h2

def xH (w:World) (T:Tab) (k:Int) (x:Bs) (k2:Int) (y:Bs) (e:Ending) (w':World):Prop :=
 ∃ wa:WA,e=.returned (.tuple #[.agg (aU (OB T k x k2 y) wa),.bool (okW T k x k2 y)])∧Below w.heap.size w w'∧(okW T k x k2 y=true→OC (OB T k x k2 y) wa w'∧OD (OB T k x k2 y) wa)
theorem Mj {w W:World} {T:Tab} {a:TA} {k k2:Int} {x y:Bs} {s1 s2:SA} {Y:CH.Own} (hT:jJ w T a) (hq1:s1.q.map (·.r)=(jo T k x).2) (hq2:s2.q.map (·.r)=(jo T k2 y).2)
  (h:Run (fun _=>False) w (star (fP (jo T k x).1 s1) (star (fP (jo T k2 y).1 s2) Y)) W) (b:Bool) (hb:okW T k x k2 y=b) :
  xH w T k x k2 y (.returned (.tuple #[.agg (aU (OB T k x k2 y) ⟨s1,s2⟩),.bool b])) W:=by
 have hbel:Below w.heap.size w W:=h.mod.below (fun _ _ h=>h);refine ⟨⟨s1,s2⟩,by rw [hb],hbel,fun ho=>?_⟩;obtain ⟨hw1,hw2,-⟩:=gG.1 ho;obtain ⟨f1,hf1⟩:=h.fst;obtain ⟨f2,hf2⟩:=h.drop.fst;obtain ⟨a1,a2,a3,a4⟩:=CX hf1;obtain ⟨b1,b2,b3,b4⟩:=CX hf2;rw [uM] at a1 a2 b1 b2;have e1:(jo T k x).2=dU T.rs k:=by unfold jo;rw [if_pos hw1]
 have e2:(jo T k2 y).2=dU T.rs k2:=by unfold jo;rw [if_pos hw2]
 rw [e1] at hq1;rw [e2] at hq2;have n1:=vB (k:=k) hT.lr hT.sr;have n2:=vB (k:=k2) hT.lr hT.sr;rw [←hq1] at n1;rw [←hq2] at n2;refine ⟨⟨a1,b1,a3,b3,a4,b4⟩,⟨hq1,hq2,by simpa using n1.1,by simpa using n2.1,a2,b2,Nat.le_trans (uL k x) (by omega),Nat.le_trans (uL k2 y) (by omega),fun z hz=>?_,fun z hz=>?_⟩⟩
 ·exact n1.2 z.r (List.mem_map_of_mem hz)
 ·exact n2.2 z.r (List.mem_map_of_mem hz)
end Go.Proofs.YtbnnlpjpnihheaaGreatDoor
namespace Go.Proofs.YtbnnlpjpnihheaaGreatDoor
open Go.RowKit Go.CH Go.CH.Scr Go.CH.dK
open Go.ChangeMaps (setBlock)
theorem CY {w:World} {T:Tab} {a:TA} (hT:jJ w T a) (hz:LZ w) (k:Int) (x:Bs) (k2:Int) (y:Bs) (hx:x.length≤1000000) (hy:y.length≤1000000) :
  Calls Tryz.prog 95 #[eZ T a,.int .i64 k,.string (bs x),.int .i64 k2,.string (bs y)] w (xH w T k x k2 y):=by
 have HT:=hide hT;have HZ:=hide hz;have h1:Run (fun _=>False) w (star (au w.heap.size (dA T a) 25) emp) _:=aG (Run.begin w) aB (dA T a) 25;have K1:=hide (fun W (h:Below w.heap.size w W)=>xE (hT.below h) (hz.below h) k x hx);have K2:=hide (fun W (h:Below w.heap.size w W)=>xE (hT.below h) (hz.below h) k2 y hy);have KV:=hide (fun W (h:Below w.heap.size w W)=>mU (hT.below h) (hz.below h));have HBE:=hide (fun W O (h:Run (fun _=>False) w O W)=>(show Below w.heap.size w W from h.mod.below (fun _ _ h=>h)));have H1:=hide h1;clear hT hz h1;unfold pU at K1 K2;unfold eZ dA at K1 K2 KV ⊢;unfold dA at H1
 go_enter Tryz.func95,Tryz.ntmps95
 have H2:=hide (show Run (fun _=>False) w (star (au (w.heap.size+1) #[.slice none 0 0,.slice none 0 0,.slice none 0 0,.slice none 0 0] 169) (star (au w.heap.size #[.slice a.A T.rs.length a.c,.slice a.D T.ds.length a.d,.slice a.E T.es.length a.e,.int .i64 T.drop,.int .i64 T.ord,.int .i64 T.ini] 25) emp)) _ from (by have h2:=aG H1.out (aj av aB) #[.slice none 0 0,.slice none 0 0,.slice none 0 0,.slice none 0 0] 169;rw [World.size_alloc] at h2;exact h2));go_upto_region 1 with (fail);clear H1;generalize hw1:(w.alloc (.cells #[.slice a.A T.rs.length a.c,.slice a.D T.ds.length a.d,.slice a.E T.es.length a.e,.int .i64 T.drop,.int .i64 T.ord,.int .i64 T.ini] 25)).alloc (.cells #[.slice none 0 0,.slice none 0 0,.slice none 0 0,.slice none 0 0] 169)=w1 at *
 clear hw1;generalize w.heap.size+1=gr at *
 generalize w.heap.size=gt at H2 ⊢;have OK2:=hide (show (star (au gr #[.slice none 0 0,.slice none 0 0,.slice none 0 0,.slice none 0 0] 169) (star (au gt #[.slice a.A T.rs.length a.c,.slice a.D T.ds.length a.d,.slice a.E T.es.length a.e,.int .i64 T.drop,.int .i64 T.ord,.int .i64 T.ini] 25) emp)).Ok from aj av (aj av aB));have hct:∀ (W:World) (X:CH.Own),Run (fun _=>False) w (star (au gt #[.slice a.A T.rs.length a.c,.slice a.D T.ds.length a.d,.slice a.E T.es.length a.e,.int .i64 T.drop,.int .i64 T.ord,.int .i64 T.ini] 25) X) W→W.cell? ⟨gt,0,none⟩=some (.slice a.A T.rs.length a.c)∧W.cell? ⟨gt,1,none⟩=some (.slice a.D T.ds.length a.d)∧W.cell? ⟨gt,2,none⟩=some (.slice a.E T.es.length a.e)∧W.cell? ⟨gt,3,none⟩=some (.int .i64 T.drop)∧W.cell? ⟨gt,4,none⟩=some (.int .i64 T.ord)∧W.cell? ⟨gt,5,none⟩=some (.int .i64 T.ini):=fun W X h=>by
  obtain ⟨f,hf⟩:=h.fst;exact ⟨ay hf rfl,ay hf rfl,ay hf rfl,ay hf rfl,ay hf rfl,ay hf rfl⟩
 have HCT:=hide hct;clear hct;obtain ⟨c0,c1,c2,c3,c4,c5⟩:=HCT.out _ _ H2.out.drop;go_wp2_with fail;refine (K1.out _ (HBE.out _ _ H2.out)).mono ?_;rintro e9 w2 ⟨s1,rfl,hq1,hp⟩;have HQ1:=hide hq1;have H3:=hide (H2.out.fresh OK2.out hp);clear K1 H2 hp hq1 c0 c1 c2 c3 c4 c5;obtain ⟨l1,hl1⟩:∃ l,l=(jo T k x).1:=⟨_,rfl⟩;have HL1:=hide hl1;rw [←hl1] at H3 ⊢;clear hl1;unfold CR;dsimp only;have H4:=hide (aG H3.out (aj lG OK2.out) #[.slice s1.L l1.length s1.lc,.slice s1.R s1.q.length s1.rc] 167);clear H3;go_upto_region 2 with (fail);generalize w2.alloc (.cells #[.slice s1.L l1.length s1.lc,.slice s1.R s1.q.length s1.rc] 167)=w3 at *
 generalize w2.heap.size=ga at *
 obtain ⟨c0,c1,c2,c3,c4,c5⟩:=HCT.out _ _ H4.out.drop.drop.drop;go_wp2_with fail;refine (K2.out _ (HBE.out _ _ H4.out)).mono ?_;rintro e9 w4 ⟨s2,rfl,hq2,hp⟩;have HQ2:=hide hq2;have H5:=hide (H4.out.fresh (aj av (aj lG OK2.out)) hp);clear K2 H4 hp hq2 c0 c1 c2 c3 c4 c5;obtain ⟨l2,hl2⟩:∃ l,l=(jo T k2 y).1:=⟨_,rfl⟩;have HL2:=hide hl2;rw [←hl2] at H5 ⊢;clear hl2;unfold CR;dsimp only;have H6:=hide (aG H5.out (aj lG (aj av (aj lG OK2.out))) #[.slice s2.L l2.length s2.lc,.slice s2.R s2.q.length s2.rc] 167);clear H5;go_upto_region 3 with (fail);generalize w4.alloc (.cells #[.slice s2.L l2.length s2.lc,.slice s2.R s2.q.length s2.rc] 167)=w5 at *
 generalize w4.heap.size=gb at *
 have HFIN0:=hide (fun (W:World) (b:Bool) (hb:okW T k x k2 y=b) (Y:CH.Own) (h:Run (fun _=>False) w (star (fP l1 s1) (star (fP l2 s2) Y)) W)=>Mj (a:=a) HT.out HQ1.out HQ2.out (by rw [←HL1.out,←HL2.out];exact h) b hb);have hwc:aU (OB T k x k2 y) ⟨s1,s2⟩=#[.slice s1.L l1.length s1.lc,.slice s1.R s1.q.length s1.rc,.slice s2.L l2.length s2.lc,.slice s2.R s2.q.length s2.rc]:=by
  have e1:=HL1.out.trans (uM T k x);have e2:=HL2.out.trans (uM T k2 y);unfold aU OB;rw [e1,e2]
 have HFIN:=hide (show ∀ (W:World) (r:Array Value) (b:Bool),okW T k x k2 y=b→Run (fun _=>False) w (star (au gr r 169) (star (au gb #[.slice s2.L l2.length s2.lc,.slice s2.R s2.q.length s2.rc] 167) (star (au ga #[.slice s1.L l1.length s1.lc,.slice s1.R s1.q.length s1.rc] 167) (star (au gt #[.slice a.A T.rs.length a.c,.slice a.D T.ds.length a.d,.slice a.E T.es.length a.e,.int .i64 T.drop,.int .i64 T.ord,.int .i64 T.ini] 25) (star (fP l1 s1) (fP l2 s2)))))) W→xH w T k x k2 y (.returned (.tuple #[.agg #[.slice s1.L l1.length s1.lc,.slice s1.R s1.q.length s1.rc,.slice s2.L l2.length s2.lc,.slice s2.R s2.q.length s2.rc],.bool b])) W from fun W r b hb h=>by
  rw [←hwc];exact HFIN0.out W b hb _ (h.perm (by ac_rfl:_=star (fP l1 s1) (star (fP l2 s2) (star (au gr r 169) (star (au gb #[.slice s2.L l2.length s2.lc,.slice s2.R s2.q.length s2.rc] 167) (star (au ga #[.slice s1.L l1.length s1.lc,.slice s1.R s1.q.length s1.rc] 167) (au gt #[.slice a.A T.rs.length a.c,.slice a.D T.ds.length a.d,.slice a.E T.es.length a.e,.int .i64 T.drop,.int .i64 T.ord,.int .i64 T.ini] 25)))))))
 )
 clear hwc HFIN0;have OKX:=hide (show (star (au gb #[.slice s2.L l2.length s2.lc,.slice s2.R s2.q.length s2.rc] 167) (star (au ga #[.slice s1.L l1.length s1.lc,.slice s1.R s1.q.length s1.rc] 167) (star (au gt #[.slice a.A T.rs.length a.c,.slice a.D T.ds.length a.d,.slice a.E T.es.length a.e,.int .i64 T.drop,.int .i64 T.ord,.int .i64 T.ini] 25) (star (fP l1 s1) (fP l2 s2))))).Ok from aj av (aj av (aj av (aj lG lG))));have hSS:∀ (W:World) (r:Array Value),Run (fun _=>False) w (star (au gr r 169) (star (au gb #[.slice s2.L l2.length s2.lc,.slice s2.R s2.q.length s2.rc] 167) (star (au ga #[.slice s1.L l1.length s1.lc,.slice s1.R s1.q.length s1.rc] 167) (star (au gt #[.slice a.A T.rs.length a.c,.slice a.D T.ds.length a.d,.slice a.E T.es.length a.e,.int .i64 T.drop,.int .i64 T.ord,.int .i64 T.ini] 25) (star (fP l1 s1) (fP l2 s2)))))) W→(fun w':World=>w'.cell? ⟨ga,0,none⟩=some (.slice s1.L l1.length s1.lc)∧w'.cell? ⟨ga,1,none⟩=some (.slice s1.R s1.q.length s1.rc)∧w'.cell? ⟨gb,0,none⟩=some (.slice s2.L l2.length s2.lc)∧w'.cell? ⟨gb,1,none⟩=some (.slice s2.R s2.q.length s2.rc)∧w'.cell? ⟨gt,0,none⟩=some (.slice a.A T.rs.length a.c)∧w'.cell? ⟨gt,1,none⟩=some (.slice a.D T.ds.length a.d)∧w'.cell? ⟨gt,2,none⟩=some (.slice a.E T.es.length a.e)∧w'.cell? ⟨gt,3,none⟩=some (.int .i64 T.drop)∧w'.cell? ⟨gt,4,none⟩=some (.int .i64 T.ord)∧w'.cell? ⟨gt,5,none⟩=some (.int .i64 T.ini)) W:=fun W r h=>by
  obtain ⟨f1,h1⟩:=h.drop.fst;obtain ⟨f2,h2⟩:=h.drop.drop.fst;obtain ⟨f3,h3⟩:=h.drop.drop.drop.fst;exact ⟨ay h2 rfl,ay h2 rfl,ay h1 rfl,ay h1 rfl,ay h3 rfl,ay h3 rfl,ay h3 rfl,ay h3 rfl,ay h3 rfl,ay h3 rfl⟩
 have HSS:=hide hSS;clear hSS;have H7:=hide ((H6.out.perm (by rw [jQ];ac_rfl:_=(star (au gr #[.slice none 0 0,.slice none 0 0,.slice none 0 0,.slice none 0 0] 169) (star (au gb #[.slice s2.L l2.length s2.lc,.slice s2.R s2.q.length s2.rc] 167) (star (au ga #[.slice s1.L l1.length s1.lc,.slice s1.R s1.q.length s1.rc] 167) (star (au gt #[.slice a.A T.rs.length a.c,.slice a.D T.ds.length a.d,.slice a.E T.es.length a.e,.int .i64 T.drop,.int .i64 T.ord,.int .i64 T.ini] 25) (star (fP l1 s1) (fP l2 s2)))))))).drew (aj av OKX.out));have hS0:=HSS.out _ _ H7.out;clear H6;cases hb1:word k x with
 | false =>
  refine aI (fun w':World=>w'.cell? ⟨ga,0,none⟩=some (.slice s1.L l1.length s1.lc)∧w'.cell? ⟨ga,1,none⟩=some (.slice s1.R s1.q.length s1.rc)∧w'.cell? ⟨gb,0,none⟩=some (.slice s2.L l2.length s2.lc)∧w'.cell? ⟨gb,1,none⟩=some (.slice s2.R s2.q.length s2.rc)∧w'.cell? ⟨gt,0,none⟩=some (.slice a.A T.rs.length a.c)∧w'.cell? ⟨gt,1,none⟩=some (.slice a.D T.ds.length a.d)∧w'.cell? ⟨gt,2,none⟩=some (.slice a.E T.es.length a.e)∧w'.cell? ⟨gt,3,none⟩=some (.int .i64 T.drop)∧w'.cell? ⟨gt,4,none⟩=some (.int .i64 T.ord)∧w'.cell? ⟨gt,5,none⟩=some (.int .i64 T.ini)) (by rfl) (by kernel_rfl) hS0 ?_;clear hS0;generalize w5.drew=w6 at *
  obtain ⟨r0,r1,r2,r3,rf⟩:=cB H7.out
  (repeat ((first | refine aK (by rfl) ?_ | (refine aL (v:=?_) (by rfl) ?_ ?_;rotate_left;(focus (intro w' hS';go_simp;(try with_reducible rfl);done))));try simp only [Act.put,List.setIfInBounds_toArray,List.set_cons_zero,List.set_cons_succ]))
  refine dR rfl (by rfl) (fun K hK=>?_);go_wp2_with fail
    
  have H8:=hide (aH (aH (aH (aH (H7.out) OKX.out 0 (.slice s1.L l1.length s1.lc)) OKX.out 1 (.slice s1.R s1.q.length s1.rc)) OKX.out 2 (.slice s2.L l2.length s2.lc)) OKX.out 3 (.slice s2.R s2.q.length s2.rc):Run (fun _=>False) w (star (au gr #[.slice s1.L l1.length s1.lc,.slice s1.R s1.q.length s1.rc,.slice s2.L l2.length s2.lc,.slice s2.R s2.q.length s2.rc] 169) (star (au gb #[.slice s2.L l2.length s2.lc,.slice s2.R s2.q.length s2.rc] 167) (star (au ga #[.slice s1.L l1.length s1.lc,.slice s1.R s1.q.length s1.rc] 167) (star (au gt #[.slice a.A T.rs.length a.c,.slice a.D T.ds.length a.d,.slice a.E T.es.length a.e,.int .i64 T.drop,.int .i64 T.ord,.int .i64 T.ini] 25) (star (fP l1 s1) (fP l2 s2)))))) _);clear H7 r0 r1 r2 r3 rf;generalize ((((w6.setCell ⟨gr,0,none⟩ (.slice s1.L l1.length s1.lc)).setCell ⟨gr,1,none⟩ (.slice s1.R s1.q.length s1.rc)).setCell ⟨gr,2,none⟩ (.slice s2.L l2.length s2.lc)).setCell ⟨gr,3,none⟩ (.slice s2.R s2.q.length s2.rc))=w9 at *
  refine hK.out _ _ (HSS.out _ _ H8.out) ?_;clear hK
  (repeat ((first | refine aK (by rfl) ?_ | (refine aL (v:=?_) (by rfl) ?_ ?_;rotate_left;(focus (intro w' hS';go_simp;(try with_reducible rfl);done))));try simp only [Act.put,List.setIfInBounds_toArray,List.set_cons_zero,List.set_cons_succ]))
  refine lex_nil ?_;obtain ⟨fr,hfr⟩:=H8.out.fst;have hblk:=hfr.1;clear hfr;go_wp2_with fail;refine bodyPost_ret (bZ rfl _ _ gr 169 #[.slice s1.L l1.length s1.lc,.slice s1.R s1.q.length s1.rc,.slice s2.L l2.length s2.lc,.slice s2.R s2.q.length s2.rc] (0,0) rfl hblk Tryz.underlying169 (by kernel_rfl)) rfl ?_;clear hblk;exact HFIN.out _ _ _ (by unfold okW;rw [hb1];rfl) H8.out
 | true =>
  cases hb2:word k2 y with
  | false =>
   refine aI (fun w':World=>w'.cell? ⟨ga,0,none⟩=some (.slice s1.L l1.length s1.lc)∧w'.cell? ⟨ga,1,none⟩=some (.slice s1.R s1.q.length s1.rc)∧w'.cell? ⟨gb,0,none⟩=some (.slice s2.L l2.length s2.lc)∧w'.cell? ⟨gb,1,none⟩=some (.slice s2.R s2.q.length s2.rc)∧w'.cell? ⟨gt,0,none⟩=some (.slice a.A T.rs.length a.c)∧w'.cell? ⟨gt,1,none⟩=some (.slice a.D T.ds.length a.d)∧w'.cell? ⟨gt,2,none⟩=some (.slice a.E T.es.length a.e)∧w'.cell? ⟨gt,3,none⟩=some (.int .i64 T.drop)∧w'.cell? ⟨gt,4,none⟩=some (.int .i64 T.ord)∧w'.cell? ⟨gt,5,none⟩=some (.int .i64 T.ini)) (by rfl) (by kernel_rfl) hS0 ?_;clear hS0;generalize w5.drew=w6 at *
   obtain ⟨r0,r1,r2,r3,rf⟩:=cB H7.out
   (repeat ((first | refine aK (by rfl) ?_ | (refine aL (v:=?_) (by rfl) ?_ ?_;rotate_left;(focus (intro w' hS';go_simp;(try with_reducible rfl);done))));try simp only [Act.put,List.setIfInBounds_toArray,List.set_cons_zero,List.set_cons_succ]))
   refine dR rfl (by rfl) (fun K hK=>?_);go_wp2_with fail
      
   have H8:=hide (aH (aH (aH (aH (H7.out) OKX.out 0 (.slice s1.L l1.length s1.lc)) OKX.out 1 (.slice s1.R s1.q.length s1.rc)) OKX.out 2 (.slice s2.L l2.length s2.lc)) OKX.out 3 (.slice s2.R s2.q.length s2.rc):Run (fun _=>False) w (star (au gr #[.slice s1.L l1.length s1.lc,.slice s1.R s1.q.length s1.rc,.slice s2.L l2.length s2.lc,.slice s2.R s2.q.length s2.rc] 169) (star (au gb #[.slice s2.L l2.length s2.lc,.slice s2.R s2.q.length s2.rc] 167) (star (au ga #[.slice s1.L l1.length s1.lc,.slice s1.R s1.q.length s1.rc] 167) (star (au gt #[.slice a.A T.rs.length a.c,.slice a.D T.ds.length a.d,.slice a.E T.es.length a.e,.int .i64 T.drop,.int .i64 T.ord,.int .i64 T.ini] 25) (star (fP l1 s1) (fP l2 s2)))))) _);clear H7 r0 r1 r2 r3 rf;generalize ((((w6.setCell ⟨gr,0,none⟩ (.slice s1.L l1.length s1.lc)).setCell ⟨gr,1,none⟩ (.slice s1.R s1.q.length s1.rc)).setCell ⟨gr,2,none⟩ (.slice s2.L l2.length s2.lc)).setCell ⟨gr,3,none⟩ (.slice s2.R s2.q.length s2.rc))=w9 at *
   refine hK.out _ _ (HSS.out _ _ H8.out) ?_;clear hK
   (repeat ((first | refine aK (by rfl) ?_ | (refine aL (v:=?_) (by rfl) ?_ ?_;rotate_left;(focus (intro w' hS';go_simp;(try with_reducible rfl);done))));try simp only [Act.put,List.setIfInBounds_toArray,List.set_cons_zero,List.set_cons_succ]))
   refine lex_nil ?_;obtain ⟨fr,hfr⟩:=H8.out.fst;have hblk:=hfr.1;clear hfr;go_wp2_with fail;refine bodyPost_ret (bZ rfl _ _ gr 169 #[.slice s1.L l1.length s1.lc,.slice s1.R s1.q.length s1.rc,.slice s2.L l2.length s2.lc,.slice s2.R s2.q.length s2.rc] (0,0) rfl hblk Tryz.underlying169 (by kernel_rfl)) rfl ?_;clear hblk;exact HFIN.out _ _ _ (by unfold okW;rw [hb1,hb2];rfl) H8.out
  | true =>
   refine aI (fun w':World=>w'.cell? ⟨ga,0,none⟩=some (.slice s1.L l1.length s1.lc)∧w'.cell? ⟨ga,1,none⟩=some (.slice s1.R s1.q.length s1.rc)∧w'.cell? ⟨gb,0,none⟩=some (.slice s2.L l2.length s2.lc)∧w'.cell? ⟨gb,1,none⟩=some (.slice s2.R s2.q.length s2.rc)∧w'.cell? ⟨gt,0,none⟩=some (.slice a.A T.rs.length a.c)∧w'.cell? ⟨gt,1,none⟩=some (.slice a.D T.ds.length a.d)∧w'.cell? ⟨gt,2,none⟩=some (.slice a.E T.es.length a.e)∧w'.cell? ⟨gt,3,none⟩=some (.int .i64 T.drop)∧w'.cell? ⟨gt,4,none⟩=some (.int .i64 T.ord)∧w'.cell? ⟨gt,5,none⟩=some (.int .i64 T.ini)) (by rfl) (by kernel_rfl) hS0 ?_;clear hS0;generalize w5.drew=w6 at *
   obtain ⟨r0,r1,r2,r3,rf⟩:=cB H7.out
   (repeat ((first | refine aK (by rfl) ?_ | (refine aL (v:=?_) (by rfl) ?_ ?_;rotate_left;(focus (intro w' hS';go_simp;(try with_reducible rfl);done))));try simp only [Act.put,List.setIfInBounds_toArray,List.set_cons_zero,List.set_cons_succ]))
   refine dR rfl (by rfl) (fun K hK=>?_);go_wp2_with fail
      
   refine (KV.out _ (HBE.out _ _ H7.out)).mono ?_;rintro e9 w7 ⟨rfl,hb⟩;have H7b:=hide (H7.out.below (aj av OKX.out) hb);clear KV H7 hb r0 r1 r2 r3 rf;dsimp only;refine hK.out _ _ (HSS.out _ _ H7b.out) ?_;clear hK;obtain ⟨r0,r1,r2,r3,rf⟩:=cB H7b.out
   (repeat ((first | refine aK (by rfl) ?_ | (refine aL (v:=?_) (by rfl) ?_ ?_;rotate_left;(focus (intro w' hS';go_simp;(try with_reducible rfl);done))));try simp only [Act.put,List.setIfInBounds_toArray,List.set_cons_zero,List.set_cons_succ]))
   refine dR rfl (by rfl) (fun K hK=>?_);go_wp2_with fail
      
   have H8:=hide (aH (aH (aH (aH (H7b.out) OKX.out 0 (.slice s1.L l1.length s1.lc)) OKX.out 1 (.slice s1.R s1.q.length s1.rc)) OKX.out 2 (.slice s2.L l2.length s2.lc)) OKX.out 3 (.slice s2.R s2.q.length s2.rc):Run (fun _=>False) w (star (au gr #[.slice s1.L l1.length s1.lc,.slice s1.R s1.q.length s1.rc,.slice s2.L l2.length s2.lc,.slice s2.R s2.q.length s2.rc] 169) (star (au gb #[.slice s2.L l2.length s2.lc,.slice s2.R s2.q.length s2.rc] 167) (star (au ga #[.slice s1.L l1.length s1.lc,.slice s1.R s1.q.length s1.rc] 167) (star (au gt #[.slice a.A T.rs.length a.c,.slice a.D T.ds.length a.d,.slice a.E T.es.length a.e,.int .i64 T.drop,.int .i64 T.ord,.int .i64 T.ini] 25) (star (fP l1 s1) (fP l2 s2)))))) _);clear H7b r0 r1 r2 r3 rf;generalize ((((w7.setCell ⟨gr,0,none⟩ (.slice s1.L l1.length s1.lc)).setCell ⟨gr,1,none⟩ (.slice s1.R s1.q.length s1.rc)).setCell ⟨gr,2,none⟩ (.slice s2.L l2.length s2.lc)).setCell ⟨gr,3,none⟩ (.slice s2.R s2.q.length s2.rc))=w9 at *
   refine hK.out _ _ (HSS.out _ _ H8.out) ?_;clear hK
   (repeat ((first | refine aK (by rfl) ?_ | (refine aL (v:=?_) (by rfl) ?_ ?_;rotate_left;(focus (intro w' hS';go_simp;(try with_reducible rfl);done))));try simp only [Act.put,List.setIfInBounds_toArray,List.set_cons_zero,List.set_cons_succ]))
   refine lex_nil ?_;obtain ⟨fr,hfr⟩:=H8.out.fst;have hblk:=hfr.1;clear hfr;go_wp2_with fail;refine bodyPost_ret (bZ rfl _ _ gr 169 #[.slice s1.L l1.length s1.lc,.slice s1.R s1.q.length s1.rc,.slice s2.L l2.length s2.lc,.slice s2.R s2.q.length s2.rc] (0,0) rfl hblk Tryz.underlying169 (by kernel_rfl)) rfl ?_;clear hblk;exact HFIN.out _ _ _ (by unfold okW;rw [hb1,hb2];rfl) H8.out
end Go.Proofs.YtbnnlpjpnihheaaGreatDoor
namespace Go.Proofs.YtbnnlpjpnihheaaGreatDoor
open Go.RowKit Go.CH Go.CH.Scr Go.CH.dK
open Go.ChangeMaps (setBlock)

def Zw (W:Wd) (x:WA) (s:St) (b1 b2:Nat):CH.Own:=star (au b1 (fq s) 175) (au b2 (aU W x) 169)
theorem jr {W:Wd} {x:WA} {s:St} {b1 b2:Nat}:(Zw W x s b1 b2).Ok:=aj av av

def Fu (p:RA × St):Array Value:=#[.agg (bN p.1).toArray,.agg (fq p.2)]

def WA.at (x:WA) (lf:Bool):SA:=if lf then x.a else x.b
def lsA (W:Wd) (lf:Bool):List Bs:=if lf then W.l else W.m
def kA (s:St) (lf:Bool):Nat:=if lf then s.i else s.j
def rW (W:Wd) (s:St) (y:RA):Option (RA × St):=(W.LP s y.r).map fun p=>(y,p.2)
def bP (W:Wd) (x:WA) (s:St):List (RA × St):=(x.at (W.left s)).q.filterMap (rW W s)

def iU (W:Wd) (x:WA) (s:St) (k:Nat):List (RA × St):=((x.at (W.left s)).q.take k).filterMap (rW W s)
theorem CZ {W:Wd} {x:WA} {s:St} (h:OD W x):(bP W x s).map (fun p=>(p.1.r,p.2))=W.oh s:=by
 have e:(x.at (W.left s)).q.map (·.r)=dU W.rs (if W.left s then W.ka else W.kb):=by
  unfold WA.at;cases W.left s
  ·exact h.qb
  ·exact h.qa
 unfold bP Wd.oh;rw [←e,List.map_filterMap,List.filterMap_map];refine wZ _ fun y _=>?_;unfold rW
 show Option.map _ (Option.map _ (W.LP s y.r))=W.LP s y.r
 rw [Option.map_map];unfold Wd.LP;by_cases h:iY (if W.left s then W.l else W.m) y.r (if W.left s then s.i else s.j)=true
 ·rw [if_pos h,Option.map_map];rfl
 ·rw [if_neg h];rfl
section
variable {W:Wd} {x:WA} {s:St} {k:Nat}
theorem Mk:iU W x s (x.at (W.left s)).q.length=bP W x s:=by unfold iU bP;rw [List.take_length]
theorem zT (hk:k < (x.at (W.left s)).q.length) (h:rW W s (x.at (W.left s)).q[k]=none):iU W x s (k+1)=iU W x s k:=by
 unfold iU;rw [List.take_succ_eq_append_getElem hk,List.filterMap_append];simp [h]
theorem Jz (hk:k < (x.at (W.left s)).q.length) {p:RA × St} (h:rW W s (x.at (W.left s)).q[k]=some p):iU W x s (k+1)=iU W x s k ++ [p]:=by
 unfold iU;rw [List.take_succ_eq_append_getElem hk,List.filterMap_append];simp [h]
theorem Px (hk:k < (x.at (W.left s)).q.length) {p:RA × St} (h:rW W s (x.at (W.left s)).q[k]=some p):∃ hi:(iU W x s k).length < (bP W x s).length,(bP W x s)[(iU W x s k).length]=p:=by
 have e:bP W x s=iU W x s k ++ p :: ((x.at (W.left s)).q.drop (k+1)).filterMap (rW W s):=by
  unfold bP iU
  conv=>lhs;rw [←List.take_append_drop k (x.at (W.left s)).q,List.drop_eq_getElem_cons hk,List.filterMap_append,List.filterMap_cons_some h]
 refine ⟨by rw [e];simp,?_⟩;simp only [e];rw [List.getElem_append_right (Nat.le_refl _)];simp
end

def Ml (s:St) (lf:Bool) (n:Nat) (z:Bs × Bool):St:=if lf then ⟨s.i+n,s.j,z.1,z.2⟩ else ⟨s.i,s.j+n,z.1,z.2⟩
section
variable {W:Wd} {s:St} {y:RA}
theorem Fv (h:iY (lsA W (W.left s)) y.r (kA s (W.left s))=false):rW W s y=none:=by
 unfold rW Wd.LP;unfold lsA kA at h;rw [if_neg (by rw [h];decide)];rfl
theorem JA (h:W.Fb s y.r.t=none):rW W s y=none:=by
 unfold rW Wd.LP;rw [h];by_cases h:iY (if W.left s then W.l else W.m) y.r (if W.left s then s.i else s.j)=true
 ·rw [if_pos h];rfl
 ·rw [if_neg h];rfl
theorem Mq (h:iY (lsA W (W.left s)) y.r (kA s (W.left s))=true) {z:Bs × Bool} (hz:W.Fb s y.r.t=some z):rW W s y=some (y,Ml s (W.left s) y.r.f.length z):=by
 unfold rW Wd.LP Ml;unfold lsA kA at h;rw [if_pos h,hz];rfl
theorem TW {q:Bs} (h1:q.isPrefixOf s.a=true):W.Fb s q=some (s.a.drop q.length,s.r && decide (s.a.drop q.length≠[])):=by unfold Wd.Fb;rw [if_pos h1]
theorem TY {q:Bs} (h1:¬ q.isPrefixOf s.a=true) (h2:s.a.isPrefixOf q=true):W.Fb s q=some (q.drop s.a.length,!W.left s):=by unfold Wd.Fb;rw [if_neg h1,if_pos h2]
theorem T9 {q:Bs} (h1:¬ q.isPrefixOf s.a=true) (h2:¬ s.a.isPrefixOf q=true):W.Fb s q=none:=by unfold Wd.Fb;rw [if_neg h1,if_neg h2]
end
end Go.Proofs.YtbnnlpjpnihheaaGreatDoor
namespace Go.Proofs.YtbnnlpjpnihheaaGreatDoor
open Go.RowKit Go.CH Go.CH.Scr Go.CH.dK
open Go.ChangeMaps (setBlock)
attribute [local go_sem] Oper.semAt_some

def Tz (b1 b2:Nat):Value:=.func (.func 126) #[] #[.pointer (some ⟨b1,0,none⟩),.pointer (some ⟨b2,0,none⟩)]
theorem xI {W:Wd} {x:WA} {s:St} (w:World) :
  Calls Tryz.prog 98 #[.agg (aU W x),.agg (fq s)] w fun e w'=>∃ b1 b2,e=.returned (Tz b1 b2)∧Post w (fun _=>False) (Zw W x s b1 b2) w':=by
 have hp:Post w (fun _=>False) (Zw W x s (w.heap.size+1) w.heap.size) ((w.alloc (.cells (aU W x) 169)).alloc (.cells (fq s) 175)):=by
  have h1:=(Run.begin w).fresh aB (dJ w (aU W x) 169);have h2:=h1.fresh (aj av aB) (dJ _ (fq s) 175);rw [World.size_alloc] at h2;have h3:Run (fun _=>False) w (star (Zw W x s (w.heap.size+1) w.heap.size) emp) _:=h2.perm (by unfold Zw;ac_rfl);exact (h3.swap.drop).post jr
 have HP:=hide hp;clear hp;unfold aU fq;unfold aU fq at HP
 go_enter Tryz.func98,Tryz.ntmps98
 go_wp2;go_ret;exact ⟨_,_,rfl,HP.out⟩
end Go.Proofs.YtbnnlpjpnihheaaGreatDoor
namespace Go.Proofs.YtbnnlpjpnihheaaGreatDoor
open Go.RowKit Go.CH Go.CH.Scr Go.CH.dK
open Go.ChangeMaps (setBlock)
attribute [local go_sem] Oper.semAt_some
theorem JD (s:St):r9 Tryz.prog [⟨ "i",3,0,false, "", "customhouse/align",0⟩,⟨ "j",3,1,false, "", "customhouse/align",8⟩,⟨ "ahead",9,2,false, "", "customhouse/align",16⟩,⟨ "right",4,3,false, "", "customhouse/align",32⟩] (fq s):=by
 intro f hf;simp only [List.mem_cons,List.mem_nil_iff,or_false] at hf;rcases hf with rfl | rfl | rfl | rfl
 ·exact ⟨by decide,_,rfl,.int Tryz.underlying3 _⟩
 ·exact ⟨by decide,_,rfl,.int Tryz.underlying3 _⟩
 ·exact ⟨by decide,_,rfl,.str Tryz.underlying9 _⟩
 ·exact ⟨by decide,_,rfl,.bool Tryz.underlying4 _⟩
theorem Mv (a b:St):l8 [⟨ "i",3,0,false, "", "customhouse/align",0⟩,⟨ "j",3,1,false, "", "customhouse/align",8⟩,⟨ "ahead",9,2,false, "", "customhouse/align",16⟩,⟨ "right",4,3,false, "", "customhouse/align",32⟩] (fq a) (fq b)=decide (a=b):=(rfl:_=l8 [⟨ "i",3,0,false, "", "customhouse/potential",0⟩,⟨ "j",3,1,false, "", "customhouse/potential",8⟩,⟨ "ahead",9,2,false, "", "customhouse/potential",16⟩,⟨ "right",4,3,false, "", "customhouse/potential",32⟩] (fq a) (fq b)).trans (Pn a b)
theorem uN:mg Tryz.prog 175 Ra:=by
 refine su (cs:=fq) Tryz.underlying175 (by kernel_rfl) JD Mv (fun a=>?_);simp [fq,Instr.sameBits,xq]
theorem C8 {b:Nat} {L:List (St × Int)} {w:World} {F:Nat→Prop} (h:j5 b L w F) (s:St) (ok:Bool) :
  (Instr.lookup 172 (.map (some b)) (.agg #[.int .i64 s.i,.int .i64 s.j,.string (bs s.a),.bool s.r]) ok).run Tryz.prog w=.ok (if ok then .tuple #[(mV (L.map fun p=>(p.1,Value.int .i64 p.2)) s).getD (.int .i64 0),.bool (mV (L.map fun p=>(p.1,Value.int .i64 p.2)) s).isSome] else (mV (L.map fun p=>(p.1,Value.int .i64 p.2)) s).getD (.int .i64 0)) w:=by
 obtain ⟨⟨es,clock,h1,h2⟩,hF⟩:=h;cases ok
 ·exact xU uN Tryz.underlying172 Tryz.zeroValue3 h2 s w h1
 ·exact qK uN Tryz.underlying172 Tryz.zeroValue3 h2 s w h1
theorem C9 {W:Wd} {s:St} (hs:W.ok s):doneN W s=decide (s=W.fin):=by
 obtain ⟨i,j,a,r⟩:=s;have h3:=hs.2.2;unfold doneN Wd.fin;simp only at h3 ⊢;by_cases h1:i=W.l.length
 ·by_cases h2:j=W.m.length
  ·by_cases ha:a=[]
   ·cases r with
    | false=>simp [h1,h2,ha]
    | true=>exact absurd ha (h3 rfl)
   ·simp [ha]
  ·simp [h2]
 ·simp [h1]

def Py (bm bw bf:Nat):Value:=.func (.func 125) #[] #[.pointer (some ⟨bm,0,none⟩),.pointer (some ⟨bw,0,none⟩),.pointer (some ⟨bf,0,none⟩)]

def vD (W:Wd) (x:WA) (b bm bw bf:Nat):CH.Own:=star (au bm #[.map (some b)] 172) (star (au bw (aU W x) 169) (au bf #[Py bm bw bf] 213))
theorem oz {W:Wd} {x:WA} {b bm bw bf:Nat}:(vD W x b bm bw bf).Ok:=aj av (aj av av)

def Hw (W:Wd) (x:WA) (s:St) (L:List (St × Int)) (F0:Nat→Prop) (w0:World) (b bm bw bf:Nat) (X:CH.Own) (e:Ending) (w':World):Prop :=
 ∃ L',e=.returned (.int .i64 (W.dist s))∧Kn W L'∧Ext W s L L'∧s ∈ fV L'∧Run F0 w0 (star (j5 b L') (star (vD W x b bm bw bf) X)) w'

def Fx (W:Wd) (x:WA):Prop:=∀ s,W.ok s→(bP W x s).map (fun p=>(p.1.r.c,p.2))=W.moves s
theorem Da {W:Wd} {x:WA} {s:St} (h:Fx W x) (hs:W.ok s):(W.moves s).length=(bP W x s).length:=by rw [←h s hs,List.length_map]
theorem Pz {W:Wd} {x:WA} {s:St} (h:Fx W x) (hs:W.ok s) {i:Nat} (hi:i < (bP W x s).length) (hi2:i < (W.moves s).length):(W.moves s)[i]=((bP W x s)[i].1.r.c,(bP W x s)[i].2):=by
 have e:(W.moves s)[i]?=some ((bP W x s)[i].1.r.c,(bP W x s)[i].2):=by rw [←h s hs,List.getElem?_map,List.getElem?_eq_getElem hi];rfl
 rw [List.getElem?_eq_getElem hi2] at e;injection e
theorem kE {W:Wd} {x:WA} {b bm bw bf:Nat} {F0:Nat→Prop} {w0 w:World} {X:CH.Own} (h:Run F0 w0 (star (vD W x b bm bw bf) X) w) :
  w.cell? ⟨bm,0,none⟩=some (.map (some b))∧w.cell? ⟨bf,0,none⟩=some (Py bm bw bf)∧(w.cell? ⟨bw,0,none⟩=some (.slice x.a.L W.l.length x.a.lc)∧w.cell? ⟨bw,1,none⟩=some (.slice x.a.R x.a.q.length x.a.rc)∧w.cell? ⟨bw,2,none⟩=some (.slice x.b.L W.m.length x.b.lc)∧w.cell? ⟨bw,3,none⟩=some (.slice x.b.R x.b.q.length x.b.rc)):=by
 obtain ⟨F,hF⟩:=(h.perm (by unfold vD;ac_rfl:_=star (au bm #[.map (some b)] 172) (star (au bw (aU W x) 169) (star (au bf #[Py bm bw bf] 213) X)))).fst;obtain ⟨F2,hF2⟩:=(h.perm (by unfold vD;ac_rfl:_=star (au bw (aU W x) 169) (star (au bm #[.map (some b)] 172) (star (au bf #[Py bm bw bf] 213) X)))).fst;obtain ⟨F3,hF3⟩:=(h.perm (by unfold vD;ac_rfl:_=star (au bf #[Py bm bw bf] 213) (star (au bm #[.map (some b)] 172) (star (au bw (aU W x) 169) X)))).fst;exact ⟨ay hF rfl,ay hF3 rfl,ay hF2 rfl,ay hF2 rfl,ay hF2 rfl,ay hF2 rfl⟩
end Go.Proofs.YtbnnlpjpnihheaaGreatDoor
namespace Go.Proofs.YtbnnlpjpnihheaaGreatDoor
open Go.RowKit Go.CH Go.CH.Scr Go.CH.dK
open Go.ChangeMaps (setBlock)
theorem rX {W:Wd} {x:WA} {s:St} {b1 b2:Nat} {F0:Nat→Prop} {w0 w:World} {X:CH.Own} (h:Run F0 w0 (star (Zw W x s b1 b2) X) w) :
  (w.cell? ⟨b1,0,none⟩=some (.int .i64 s.i)∧w.cell? ⟨b1,1,none⟩=some (.int .i64 s.j)∧w.cell? ⟨b1,2,none⟩=some (.string (bs s.a))∧w.cell? ⟨b1,3,none⟩=some (.bool s.r)) ∧
  (w.cell? ⟨b2,0,none⟩=some (.slice x.a.L W.l.length x.a.lc)∧w.cell? ⟨b2,1,none⟩=some (.slice x.a.R x.a.q.length x.a.rc)∧w.cell? ⟨b2,2,none⟩=some (.slice x.b.L W.m.length x.b.lc)∧w.cell? ⟨b2,3,none⟩=some (.slice x.b.R x.b.q.length x.b.rc)):=by
 obtain ⟨F,hF⟩:=(h.assoc).fst;obtain ⟨F2,hF2⟩:=(h.assoc.mh).fst;exact ⟨⟨ay hF rfl,ay hF rfl,ay hF rfl,ay hF rfl⟩,ay hF2 rfl,ay hF2 rfl,ay hF2 rfl,ay hF2 rfl⟩
theorem OC.at {W:Wd} {x:WA} {w:World} (h:OC W x w) (lf:Bool):fF w (x.at lf).L (lsA W lf)∧Fq w (x.at lf).R (x.at lf).q∧∀ y ∈ (x.at lf).q,fF w y.A y.r.f:=by
 cases lf
 ·exact ⟨h.m,h.rb,h.fb⟩
 ·exact ⟨h.l,h.ra,h.fa⟩
theorem OD.at {W:Wd} {x:WA} (h:OD W x) (lf:Bool):(x.at lf).q.length≤1000000∧(lsA W lf).length≤(x.at lf).lc∧(lsA W lf).length≤1000000∧∀ y ∈ (x.at lf).q,y.r.f.length≤1000000∧y.r.t.length≤1000000:=by
 cases lf
 ·exact ⟨h.nb,h.lb,h.m6,h.g6⟩
 ·exact ⟨h.na,h.la,h.l6,h.f6⟩
theorem Ua {W:Wd} {s:St} (h:W.ok s) (lf:Bool):kA s lf≤(lsA W lf).length:=by
 cases lf
 ·exact h.2.1
 ·exact h.1
def iN (s:St) (lf:Bool) (n:Nat):Nat:=if lf then s.i+n else s.i
def jN (s:St) (lf:Bool) (n:Nat):Nat:=if lf then s.j else s.j+n
theorem Mr {s:St} {lf:Bool} {n:Nat} {z:Bs × Bool}:Ml s lf n z=⟨iN s lf n,jN s lf n,z.1,z.2⟩:=by cases lf <;> rfl
section
variable {W:Wd} {x:WA} {s:St} {lf:Bool} {k:Nat}
theorem Fw (hl:W.left s=lf) (hk:k < (x.at lf).q.length) (h:iY (lsA W lf) (x.at lf).q[k].r (kA s lf)=false):iU W x s (k+1)=iU W x s k:=by
 subst hl;exact zT hk (Fv h)
theorem JB (hl:W.left s=lf) (hk:k < (x.at lf).q.length) (h:W.Fb s (x.at lf).q[k].r.t=none):iU W x s (k+1)=iU W x s k:=by
 subst hl;exact zT hk (JA h)
theorem Ms (hl:W.left s=lf) (hk:k < (x.at lf).q.length) (h:iY (lsA W lf) (x.at lf).q[k].r (kA s lf)=true) {z:Bs × Bool} (hz:W.Fb s (x.at lf).q[k].r.t=some z) :
  iU W x s (k+1)=iU W x s k ++ [((x.at lf).q[k],⟨iN s lf (x.at lf).q[k].r.f.length,jN s lf (x.at lf).q[k].r.f.length,z.1,z.2⟩)]∧∃ hi:(iU W x s k).length < (bP W x s).length,(bP W x s)[(iU W x s k).length]=((x.at lf).q[k],⟨iN s lf (x.at lf).q[k].r.f.length,jN s lf (x.at lf).q[k].r.f.length,z.1,z.2⟩):=by
 subst hl;have h1:=Mq h hz;rw [Mr] at h1;exact ⟨Jz hk h1,Px hk h1⟩
theorem JC (hl:W.left s=lf):iU W x s (x.at lf).q.length=bP W x s:=by subst hl;exact Mk
end
theorem vC {W:Wd} {s:St} {x:WA} {b1 b2:Nat} (hs:W.ok s) (hW:OD W x) (ha:s.a.length≤1000000) :
  M5 Tryz.prog 126 #[.pointer (some ⟨b1,0,none⟩),.pointer (some ⟨b2,0,none⟩)] (OC W x) (Zw W x s b1 b2) Fu (bP W x s):=by
 intro n lo w F0 w0 X Y okX okY hE h0 hY;have HY:=hide hY;have HE:=hide hE;have HS:=hide hs;have HW:=hide hW;have H0:=hide h0;clear hY hE hs hW;refine callsIn_of_wp Tryz.func126 rfl trivial ?_ rfl;simp only [Tryz.ntmps126,List.size_toArray,List.length_cons,List.length_nil,Nat.reduceAdd,Nat.reduceSub,Array.replicate_succ,Array.replicate_zero,List.push_toArray,List.append_toArray,List.nil_append,List.cons_append];obtain ⟨⟨c1,c2,c3,c4⟩,d0,d1,d2,d3⟩:=rX h0;clear h0;refine wpIn_seq_k ?_;intro K0 hK0;have cut:∀ (lf:Bool) (g14 g15 g16 g17 g18 g19 g20 g21 g22 g23 g24 g25 g26 g27 g28 g29:Value),W.left s=lf→K0 { tmps:=#[.func (.yield lo) #[] #[],.pointer (some ⟨b1,0,none⟩),.pointer (some ⟨b2,0,none⟩),undef,.bool lf,undef,undef,undef,undef,undef,undef,undef,undef,undef,g14,g15,g16,g17,g18,g19,g20,g21,g22,g23,g24,g25,g26,g27,g28,g29,undef,undef,undef,undef,undef,undef,undef,undef,undef,undef,undef,undef,undef,undef,undef,undef,undef,undef,undef,undef,undef,undef,undef,undef,undef,undef,undef,undef,undef,undef,undef,undef,undef,undef,undef,undef,undef,undef,undef,undef,undef,undef,undef,undef,undef,undef,undef,undef,undef,undef,undef,undef,undef,undef,undef,undef,undef,undef,undef,undef,undef,undef,undef,undef,undef,undef,undef,undef,undef,undef,undef,undef,undef,undef,undef,undef,undef,undef,undef],defers:=[] } w:=by
  intro lf g14 g15 g16 g17 g18 g19 g20 g21 g22 g23 g24 g25 g26 g27 g28 g29 HLF;have HL:=hide HLF;refine hK0 _ _ ?_;clear hK0 K0;have hSW:∀ W',Run F0 w0 (star (Zw W x s b1 b2) (X 0)) W'→(fun w:World=>w.cell? ⟨b1,0,none⟩=some (.int .i64 s.i)∧w.cell? ⟨b1,1,none⟩=some (.int .i64 s.j)∧w.cell? ⟨b2,0,none⟩=some (.slice x.a.L W.l.length x.a.lc)∧w.cell? ⟨b2,1,none⟩=some (.slice x.a.R x.a.q.length x.a.rc)∧w.cell? ⟨b2,2,none⟩=some (.slice x.b.L W.m.length x.b.lc)∧w.cell? ⟨b2,3,none⟩=some (.slice x.b.R x.b.q.length x.b.rc)) W':=fun W' h=>by
   obtain ⟨⟨c1,c2,c3,c4⟩,d0,d1,d2,d3⟩:=rX h;exact ⟨c1,c2,d0,d1,d2,d3⟩
  have HSW:=hide hSW;have H1:=hide (H0.out.drew (aj jr (okX 0)));have hS0:=HSW.out _ H1.out;clear hSW c1 c2 c3 c4 d0 d1 d2 d3;refine wpIn_seq_k ?_;intro K1 hK1;refine wpIn_wide.2 (aI (fun w:World=>w.cell? ⟨b1,0,none⟩=some (.int .i64 s.i)∧w.cell? ⟨b1,1,none⟩=some (.int .i64 s.j)∧w.cell? ⟨b2,0,none⟩=some (.slice x.a.L W.l.length x.a.lc)∧w.cell? ⟨b2,1,none⟩=some (.slice x.a.R x.a.q.length x.a.rc)∧w.cell? ⟨b2,2,none⟩=some (.slice x.b.L W.m.length x.b.lc)∧w.cell? ⟨b2,3,none⟩=some (.slice x.b.R x.b.q.length x.b.rc)) (by kernel_rfl) (by kernel_rfl) hS0 ?_);clear hS0
  (repeat ((first | refine aK (by rfl) ?_ | (refine aL (v:=?_) (by rfl) ?_ ?_;rotate_left;(focus (intro w' hS';go_simp;(try with_reducible rfl);done))));try simp only [Act.put,List.setIfInBounds_toArray,List.set_cons_zero,List.set_cons_succ]))
  refine dR rfl (by rfl) (fun K hK=>?_);go_wp2_with fail;clear H1;have H2:=hide ((aG H0.out (aj jr (okX 0)) #[.slice none 0 0,.slice none 0 0] 167).drew (aj av (aj jr (okX 0))));generalize (w.alloc (.cells #[.slice none 0 0,.slice none 0 0] 167)).drew=w2 at *
  generalize w.heap.size=g5 at *
  refine hK.out _ _ (HSW.out _ H2.out.drop) ?_;clear hK;obtain ⟨f5,hf5⟩:=H2.out.fst;have y0:=ay (i:=0) hf5 rfl;have y1:=ay (i:=1) hf5 rfl;have yf:=aJ hf5;clear hf5
  (repeat ((first | refine aK (by rfl) ?_ | (refine aL (v:=?_) (by rfl) ?_ ?_;rotate_left;(focus (intro w' hS';go_simp;(try with_reducible rfl);done))));try simp only [Act.put,List.setIfInBounds_toArray,List.set_cons_zero,List.set_cons_succ]))
  refine dR rfl (by rfl) (fun K hK=>?_);go_wp2_with fail;have H3:=hide (kQ H2.out (aj jr (okX 0)) (.slice x.b.L W.m.length x.b.lc) (.slice x.b.R x.b.q.length x.b.rc));clear H2 y0 y1 yf;generalize (w2.setCell ⟨g5,0,none⟩ (.slice x.b.L W.m.length x.b.lc)).setCell ⟨g5,1,none⟩ (.slice x.b.R x.b.q.length x.b.rc)=w3 at *
  refine hK.out _ _ (HSW.out _ H3.out.drop) ?_;clear hK
  (repeat ((first | refine aK (by rfl) ?_ | (refine aL (v:=?_) (by rfl) ?_ ?_;rotate_left;(focus (intro w' hS';go_simp;(try with_reducible rfl);done))));try simp only [Act.put,List.setIfInBounds_toArray,List.set_cons_zero,List.set_cons_succ]))
  refine lex_nil ?_;refine hK1 _ _ ?_;clear hK1 K1;gi_step;refine wpIn_seq_k ?_;intro K3 hK3;have cut2:∀ (w:World) (h30 h31 h32 h33 h34 h35 h36 h37 h38:Value),Run F0 w0 (star (au g5 #[.slice (x.at lf).L (lsA W lf).length (x.at lf).lc,.slice (x.at lf).R (x.at lf).q.length (x.at lf).rc] 167) (star (Zw W x s b1 b2) (X 0))) w→K3 { tmps:=#[.func (.yield lo) #[] #[],.pointer (some ⟨b1,0,none⟩),.pointer (some ⟨b2,0,none⟩),undef,.bool lf,.pointer (some ⟨g5,0,none⟩),.int .i64 (kA s lf:Nat),undef,undef,undef,undef,undef,undef,undef,g14,g15,g16,g17,g18,g19,g20,g21,g22,g23,g24,g25,g26,g27,g28,g29,h30,h31,h32,h33,h34,h35,h36,h37,h38,undef,undef,undef,undef,undef,undef,undef,undef,undef,undef,undef,undef,undef,undef,undef,undef,undef,undef,undef,undef,undef,undef,undef,undef,undef,undef,undef,undef,undef,undef,undef,undef,undef,undef,undef,undef,undef,undef,undef,undef,undef,undef,undef,undef,undef,undef,undef,undef,undef,undef,undef,undef,undef,undef,undef,undef,undef,undef,undef,undef,undef,undef,undef,undef,undef,undef,undef,undef,undef,undef],defers:=[] } w:=by
   intro w h30 h31 h32 h33 h34 h35 h36 h37 h38 hR;have HR0:=hide hR;refine hK3 _ _ ?_;clear hK3 K3 hR HSW H0 H3;have HRA:=hide (fun W' (hm:Mod F0 w0 W')=>(HE.out W' hm).at lf);obtain ⟨hq6,hlc,hl6,hf6⟩:=HW.out.at lf;have HQ6:=hide hq6;have HLC:=hide hlc;have HL6:=hide hl6;have HF6:=hide hf6;have HKL:=hide (Ua HS.out lf);have HN1:=hide (fun k hk h=>Fw (x:=x) (k:=k) HL.out hk h);have HN2:=hide (fun k hk h=>JB (x:=x) (k:=k) HL.out hk h);have HY1:=hide (fun k hk h z hz=>Ms (x:=x) (k:=k) HL.out hk h (z:=z) hz);have HAL:=hide (JC (x:=x) HL.out);clear hq6 hlc hl6 hf6;have hsi:(s.i:Int)≤1000000:=by have:=HS.out.1;have:=HW.out.l6;omega
   have hsj:(s.j:Int)≤1000000:=by have:=HS.out.2.1;have:=HW.out.m6;omega
   generalize x.at lf=y at *
   generalize kA s lf=at0 at *
   generalize lsA W lf=ls at *
   obtain ⟨f5,hf5⟩:=HR0.out.fst;have y0:=ay (i:=0) hf5 rfl;have y1:=ay (i:=1) hf5 rfl;clear hf5 f5;gi_wp2;gi_loopw [42] (fun i wr=>∃ k:Nat,k≤y.q.length∧i=.int .i64 k∧Run F0 w0 (star (au g5 #[.slice y.L ls.length y.lc,.slice y.R y.q.length y.rc] 167) (star (Zw W x s b1 b2) (X (iU W x s k).length))) wr) (fun i _=>y.q.length - (intOf i).toNat)
   case atStart=>exact ⟨0,Nat.zero_le _,rfl,HR0.out⟩
   case round =>
    obtain ⟨k,hk,rfl,hR⟩:=hrel;have HR:=hide hR;clear HR0 hR y0 y1;obtain ⟨f5,hf5⟩:=HR.out.fst;have y0:=ay (i:=0) hf5 rfl;have y1:=ay (i:=1) hf5 rfl;clear hf5 f5;by_cases hlt:k < y.q.length
    ·obtain ⟨PL,PR,PF⟩:=HRA.out wr HR.out.mod;obtain ⟨b,o,hA,hc⟩:=wu.at (R:=bN) (fun _=>rfl) (by omega) PR (by omega);have r0:=hc wr (Below.refl _ _) k hlt 0 _ rfl;have r1:=hc wr (Below.refl _ _) k hlt 1 _ rfl;have r2:=hc wr (Below.refl _ _) k hlt 2 _ rfl;have r3:=hc wr (Below.refl _ _) k hlt 3 _ rfl;have HK1:=hide (show k+1≤y.q.length from hlt);have HN1k:=hide (HN1.out k hlt);have HN2k:=hide (HN2.out k hlt);have HYk:=hide (HY1.out k hlt);have HPF:=hide (PF _ (List.getElem_mem hlt));have HF6k:=hide (HF6.out _ (List.getElem_mem hlt));have HPL:=hide PL;have hkb:(k:Int) < 1000000:=by have:=HQ6.out;omega
     clear hc PL PR PF;have okZX:=hide (aj jr (okX (iU W x s k).length):(star (Zw W x s b1 b2) (X (iU W x s k).length)).Ok);generalize y.q[k]=ra at *
     obtain ⟨⟨ix,rc0,rf,rt⟩,rA,rc⟩:=ra;dsimp only at HN1k HN2k HYk HPF HF6k;simp only [Nat.add_zero] at r0;dsimp only at r0 r1 r2 r3;rw [hA]
     iterate 32 (first | go_values | gi_guarded | gi_step | gi_upon)
     have okC:=hide (aj av okZX.out:(star (au g5 #[.slice y.L ls.length y.lc,.slice y.R y.q.length y.rc] 167) (star (Zw W x s b1 b2) (X (iU W x s k).length))).Ok);have H1:=hide (aG HR.out okC.out #[.int .i64 (ix:Nat),.int .i64 rc0,.slice rA rf.length rc,.string (bs rt)] 181);have KF:=hide (CU (w:=wr.alloc (.cells #[.int .i64 (ix:Nat),.int .i64 rc0,.slice rA rf.length rc,.string (bs rt)] 181)) (R:=y.R) (rn:=y.q.length) (rc:=y.rc) (lc:=y.lc) (fc:=rc) (r:=⟨ix,rc0,rf,rt⟩) (HPL.out.below ((Below.refl _ _).alloc (Nat.le_refl _) _)) (HPF.out.below ((Below.refl _ _).alloc (Nat.le_refl _) _)) HKL.out HLC.out HL6.out HF6k.out.1);have HA:=hide hA;clear r0 r1 r2 r3 y0 y1 HPL HPF HR hA;generalize wr.alloc (.cells #[.int .i64 (ix:Nat),.int .i64 rc0,.slice rA rf.length rc,.string (bs rt)] 181)=w1 at *
     generalize wr.heap.size=h8 at *
     obtain ⟨x0,x1,x2,x3,xf⟩:=cB H1.out;obtain ⟨f5,hf5⟩:=H1.out.drop.fst;have y0:=ay (i:=0) hf5 rfl;have y1:=ay (i:=1) hf5 rfl;clear hf5 f5;dsimp only at KF
     gi_wp2_with fail
     refine ⟨trivial,fun h=>(by cases h),?_⟩
     gi_at_call 127
     refine (callsIn_wide.2 KF.out).mono ?_;rintro e9 w9 ⟨rfl,hb9⟩;have H2:=hide (H1.out.below (aj av okC.out) hb9);clear KF hb9 H1 x0 x1 x2 x3 xf y0 y1;dsimp only;by_cases hfit:iY ls ⟨ix,rc0,rf,rt⟩ at0=true
     ·rw [hfit];have HFT:=hide hfit;clear hfit HN1k;obtain ⟨⟨c1,c2,c3,c4⟩,-⟩:=rX H2.out.drop.drop;obtain ⟨x0,x1,x2,x3,xf⟩:=cB H2.out
      iterate 38 (first | go_values | gi_guarded | gi_step | gi_upon)
      have okD:=hide (aj av okC.out:(star (au h8 #[.int .i64 (ix:Nat),.int .i64 rc0,.slice rA rf.length rc,.string (bs rt)] 181) (star (au g5 #[.slice y.L ls.length y.lc,.slice y.R y.q.length y.rc] 167) (star (Zw W x s b1 b2) (X (iU W x s k).length)))).Ok);have H3:=hide (aG H2.out okD.out #[.int .i64 s.i,.int .i64 s.j,.string ⟨#[]⟩,.bool false] 175);clear H2 c1 c2 c3 c4 x0 x1 x2 x3 xf;generalize w9.alloc (.cells #[.int .i64 s.i,.int .i64 s.j,.string ⟨#[]⟩,.bool false] 175)=w3 at *
      generalize w9.heap.size=h9 at *
      gi_step;rename_i Kj hKj Kc hKc;have cut3:∀ (w:World) (v44 v45 v46 v47 v48 v49 v50 v51 v52 v53 v54 v55 v56 v57 v58 v59 v60 v61 v62 v63 v64 v65 v66 v67 v68 v69 v70:Value),Run F0 w0 (star (au h9 #[.int .i64 (iN s lf rf.length:Nat),.int .i64 (jN s lf rf.length:Nat),.string ⟨#[]⟩,.bool false] 175) (star (au h8 #[.int .i64 (ix:Nat),.int .i64 rc0,.slice rA rf.length rc,.string (bs rt)] 181) (star (au g5 #[.slice y.L ls.length y.lc,.slice y.R y.q.length y.rc] 167) (star (Zw W x s b1 b2) (X (iU W x s k).length))))) w→Kj { tmps:=#[.func (.yield lo) #[] #[],.pointer (some ⟨b1,0,none⟩),.pointer (some ⟨b2,0,none⟩),undef,.bool lf,.pointer (some ⟨g5,0,none⟩),.int .i64 (at0:Nat),undef,.pointer (some ⟨h8,0,none⟩),.pointer (some ⟨h9,0,none⟩),u10,u11,u12,u13,g14,g15,g16,g17,g18,g19,g20,g21,g22,g23,g24,g25,g26,g27,g28,g29,h30,h31,h32,h33,h34,h35,h36,h37,h38,.pointer (some ⟨g5,1,none⟩),.slice (some ⟨b,o,none⟩) y.q.length y.rc,.int .i64 (y.q.length:Nat),.int .i64 (k:Nat),.bool true,v44,v45,v46,v47,v48,v49,v50,v51,v52,v53,v54,v55,v56,v57,v58,v59,v60,v61,v62,v63,v64,v65,v66,v67,v68,v69,v70,u71,u72,u73,u74,u75,u76,u77,u78,u79,u80,u81,u82,u83,u84,u85,u86,u87,u88,u89,u90,u91,u92,u93,u94,u95,u96,u97,u98,u99,u100,u101,u102,u103,u104,u105,u106,u107,u108],defers:=[] } w:=by
       intro w v44 v45 v46 v47 v48 v49 v50 v51 v52 v53 v54 v55 v56 v57 v58 v59 v60 v61 v62 v63 v64 v65 v66 v67 v68 v69 v70 hR;have H4:=hide hR;refine hKj _ _ ?_;clear hKj hKc Kc Kj H3 hR hsi hsj;have HYf:=hide (HYk.out HFT.out);clear HYk HFT;generalize iN s lf rf.length=ni at *
       generalize jN s lf rf.length=nj at *
       obtain ⟨⟨c1,c2,c3,c4⟩,-⟩:=rX H4.out.drop.drop.drop;obtain ⟨x0,x1,x2,x3,xf⟩:=cB H4.out.drop;obtain ⟨z0,z1,z2,z3,zf⟩:=cB H4.out;have KC:=hide (xk s.a rt w)
       gi_wp2_with fail
       by_cases h1:rt.isPrefixOf s.a=true
       ·have HZ:=hide (HYf.out _ (TW h1));rw [if_pos h1,h1] at KC;clear h1 HN2k HYf;generalize s.a.drop rt.length=q at *
        cases hr:s.r with
        | false =>
         rw [hr,Bool.false_and] at HZ;rw [hr] at c4;clear hr;refine ⟨trivial,fun h=>(by cases h),?_⟩
         gi_at_call 128
         refine (callsIn_wide.2 KC.out).mono ?_;rintro e10 w10 ⟨rfl,h10⟩;subst w10;clear KC;dsimp only
         iterate 28 (first | go_values | gi_guarded | gi_step | gi_upon)
         refine wpIn_wide.2 ?_;go_wp2;have H7:=hide (aH (aH H4.out okD.out 2 (.string (bs q))) okD.out 3 (.bool false):Run F0 w0 (star (au h9 #[.int .i64 (ni:Nat),.int .i64 (nj:Nat),.string (bs q),.bool false] 175) _) _);clear H4 z0 z1 z2 z3 zf x0 x1 x2 x3 xf c1 c2 c3 c4;generalize (w.setCell ⟨h9,2,none⟩ (.string (bs q))).setCell ⟨h9,3,none⟩ (.bool false)=w7 at *
         obtain ⟨z0,z1,z2,z3,zf⟩:=cB H7.out;obtain ⟨x0,x1,x2,x3,xf⟩:=cB H7.out.drop;obtain ⟨hM,hi,hx⟩:=HZ.out;have HM:=hide hM;have hw:=HY.out (star (au g5 #[.slice y.L ls.length y.lc,.slice y.R y.q.length y.rc] 167) (Zw W x s b1 b2)) (aj av jr) _ hi w7 (H7.out.drop.drop.perm (by ac_rfl));rw [hx] at hw;clear hM HZ;simp only [Fu,fq,bN] at hw;obtain ⟨fn,tmps,assign,body,hy,hround⟩:=hw;have HRD:=hide hround;clear hround hx hi;gi_wp2
         try rw [hy]
         refine ⟨fun h=>(by cases h),?_⟩;refine HRD.out.mono ?_;rintro e W3 (⟨rfl,h3⟩ | ⟨rfl,h3⟩)
         ·have H8:=hide (h3.perm (by ac_rfl:_=star (au g5 #[.slice y.L ls.length y.lc,.slice y.R y.q.length y.rc] 167) (star (Zw W x s b1 b2) (X ((iU W x s k).length+1)))));clear HRD h3 hy H7 z0 z1 z2 z3 zf x0 x1 x2 x3 xf;gi_wp2
          go_roundw
          case rel=>exact ⟨k+1,HK1.out,by go_num,by rw [HM.out,List.length_append,←HA.out];exact H8.out⟩
          case measure=>have:=HK1.out;simp [intOf];omega
         ·have HE2:=hide (show (∃ v,(Ending.returned (.tuple #[]))=.returned v)∧∃ Z:CH.Own,Z.Ok∧(Run F0 w0 (star Z (X (bP W x s).length)) W3∨Run F0 w0 (star Z Y) W3) from ⟨⟨_,rfl⟩,_,aj av jr,.inr h3⟩);clear HRD h3 hy H7 z0 z1 z2 z3 zf x0 x1 x2 x3 xf;gi_wp2;refine bodyPost_ret (results_none rfl _ _ _) rfl ?_;exact HE2.out
        | true =>
         rw [hr,Bool.true_and] at HZ;rw [hr] at c4;clear hr;by_cases hq:q=[]
         ·have e2:(bs q).toList.isEmpty=true:=by rw [List.isEmpty_iff];exact iJ.2 hq
          rw [decide_eq_false (fun h=>h hq)] at HZ;clear hq;refine ⟨trivial,fun h=>(by cases h),?_⟩
          gi_at_call 128
          refine (callsIn_wide.2 KC.out).mono ?_;rintro e10 w10 ⟨rfl,h10⟩;subst w10;clear KC;dsimp only
          iterate 28 (first | go_values | gi_guarded | gi_step | gi_upon)
          refine wpIn_wide.2 ?_;go_wp2;have H7:=hide (aH (aH H4.out okD.out 2 (.string (bs q))) okD.out 3 (.bool false):Run F0 w0 (star (au h9 #[.int .i64 (ni:Nat),.int .i64 (nj:Nat),.string (bs q),.bool false] 175) _) _);clear H4 z0 z1 z2 z3 zf x0 x1 x2 x3 xf c1 c2 c3 c4;generalize (w.setCell ⟨h9,2,none⟩ (.string (bs q))).setCell ⟨h9,3,none⟩ (.bool false)=w7 at *
          obtain ⟨z0,z1,z2,z3,zf⟩:=cB H7.out;obtain ⟨x0,x1,x2,x3,xf⟩:=cB H7.out.drop;obtain ⟨hM,hi,hx⟩:=HZ.out;have HM:=hide hM;have hw:=HY.out (star (au g5 #[.slice y.L ls.length y.lc,.slice y.R y.q.length y.rc] 167) (Zw W x s b1 b2)) (aj av jr) _ hi w7 (H7.out.drop.drop.perm (by ac_rfl));rw [hx] at hw;clear hM HZ;simp only [Fu,fq,bN] at hw;obtain ⟨fn,tmps,assign,body,hy,hround⟩:=hw;have HRD:=hide hround;clear hround hx hi;gi_wp2
          try rw [hy]
          refine ⟨fun h=>(by cases h),?_⟩;refine HRD.out.mono ?_;rintro e W3 (⟨rfl,h3⟩ | ⟨rfl,h3⟩)
          ·have H8:=hide (h3.perm (by ac_rfl:_=star (au g5 #[.slice y.L ls.length y.lc,.slice y.R y.q.length y.rc] 167) (star (Zw W x s b1 b2) (X ((iU W x s k).length+1)))));clear HRD h3 hy H7 z0 z1 z2 z3 zf x0 x1 x2 x3 xf;gi_wp2
           go_roundw
           case rel=>exact ⟨k+1,HK1.out,by go_num,by rw [HM.out,List.length_append,←HA.out];exact H8.out⟩
           case measure=>have:=HK1.out;simp [intOf];omega
          ·have HE2:=hide (show (∃ v,(Ending.returned (.tuple #[]))=.returned v)∧∃ Z:CH.Own,Z.Ok∧(Run F0 w0 (star Z (X (bP W x s).length)) W3∨Run F0 w0 (star Z Y) W3) from ⟨⟨_,rfl⟩,_,aj av jr,.inr h3⟩);clear HRD h3 hy H7 z0 z1 z2 z3 zf x0 x1 x2 x3 xf;gi_wp2;refine bodyPost_ret (results_none rfl _ _ _) rfl ?_;exact HE2.out
         ·have e2:(bs q).toList.isEmpty=false:=by rw [List.isEmpty_eq_false_iff];exact fun h=>hq (iJ.1 h)
          rw [decide_eq_true hq] at HZ;clear hq;refine ⟨trivial,fun h=>(by cases h),?_⟩
          gi_at_call 128
          refine (callsIn_wide.2 KC.out).mono ?_;rintro e10 w10 ⟨rfl,h10⟩;subst w10;clear KC;dsimp only
          iterate 28 (first | go_values | gi_guarded | gi_step | gi_upon)
          refine wpIn_wide.2 ?_;go_wp2;have H7:=hide (aH (aH H4.out okD.out 2 (.string (bs q))) okD.out 3 (.bool true):Run F0 w0 (star (au h9 #[.int .i64 (ni:Nat),.int .i64 (nj:Nat),.string (bs q),.bool true] 175) _) _);clear H4 z0 z1 z2 z3 zf x0 x1 x2 x3 xf c1 c2 c3 c4;generalize (w.setCell ⟨h9,2,none⟩ (.string (bs q))).setCell ⟨h9,3,none⟩ (.bool true)=w7 at *
          obtain ⟨z0,z1,z2,z3,zf⟩:=cB H7.out;obtain ⟨x0,x1,x2,x3,xf⟩:=cB H7.out.drop;obtain ⟨hM,hi,hx⟩:=HZ.out;have HM:=hide hM;have hw:=HY.out (star (au g5 #[.slice y.L ls.length y.lc,.slice y.R y.q.length y.rc] 167) (Zw W x s b1 b2)) (aj av jr) _ hi w7 (H7.out.drop.drop.perm (by ac_rfl));rw [hx] at hw;clear hM HZ;simp only [Fu,fq,bN] at hw;obtain ⟨fn,tmps,assign,body,hy,hround⟩:=hw;have HRD:=hide hround;clear hround hx hi;gi_wp2
          try rw [hy]
          refine ⟨fun h=>(by cases h),?_⟩;refine HRD.out.mono ?_;rintro e W3 (⟨rfl,h3⟩ | ⟨rfl,h3⟩)
          ·have H8:=hide (h3.perm (by ac_rfl:_=star (au g5 #[.slice y.L ls.length y.lc,.slice y.R y.q.length y.rc] 167) (star (Zw W x s b1 b2) (X ((iU W x s k).length+1)))));clear HRD h3 hy H7 z0 z1 z2 z3 zf x0 x1 x2 x3 xf;gi_wp2
           go_roundw
           case rel=>exact ⟨k+1,HK1.out,by go_num,by rw [HM.out,List.length_append,←HA.out];exact H8.out⟩
           case measure=>have:=HK1.out;simp [intOf];omega
          ·have HE2:=hide (show (∃ v,(Ending.returned (.tuple #[]))=.returned v)∧∃ Z:CH.Own,Z.Ok∧(Run F0 w0 (star Z (X (bP W x s).length)) W3∨Run F0 w0 (star Z Y) W3) from ⟨⟨_,rfl⟩,_,aj av jr,.inr h3⟩);clear HRD h3 hy H7 z0 z1 z2 z3 zf x0 x1 x2 x3 xf;gi_wp2;refine bodyPost_ret (results_none rfl _ _ _) rfl ?_;exact HE2.out
       ·by_cases h3:s.a.isPrefixOf rt=true
        ·have HZ:=hide (HYf.out _ (TY h1 h3));rw [HL.out] at HZ;rw [if_neg h1,Bool.eq_false_iff.2 h1] at KC;clear h1 HN2k HYf;refine ⟨trivial,fun h=>(by cases h),?_⟩
         gi_at_call 128
         refine (callsIn_wide.2 KC.out).mono ?_;rintro e10 w10 ⟨rfl,h10⟩;subst w10;clear KC;dsimp only
         gi_wp2_with fail
         have KD:=hide (xk rt s.a w);rw [if_pos h3,h3] at KD;clear h3;generalize rt.drop s.a.length=q at *
         refine ⟨trivial,fun h=>(by cases h),?_⟩
         gi_at_call 128
         refine (callsIn_wide.2 KD.out).mono ?_;rintro e10 w10 ⟨rfl,h10⟩;subst w10;clear KD;dsimp only
         iterate 28 (first | go_values | gi_guarded | gi_step | gi_upon)
         refine wpIn_wide.2 ?_;go_wp2;have H7:=hide (aH (aH H4.out okD.out 2 (.string (bs q))) okD.out 3 (.bool (!lf)):Run F0 w0 (star (au h9 #[.int .i64 (ni:Nat),.int .i64 (nj:Nat),.string (bs q),.bool (!lf)] 175) _) _);clear H4 z0 z1 z2 z3 zf x0 x1 x2 x3 xf c1 c2 c3 c4;generalize (w.setCell ⟨h9,2,none⟩ (.string (bs q))).setCell ⟨h9,3,none⟩ (.bool (!lf))=w7 at *
         obtain ⟨z0,z1,z2,z3,zf⟩:=cB H7.out;obtain ⟨x0,x1,x2,x3,xf⟩:=cB H7.out.drop;obtain ⟨hM,hi,hx⟩:=HZ.out;have HM:=hide hM;have hw:=HY.out (star (au g5 #[.slice y.L ls.length y.lc,.slice y.R y.q.length y.rc] 167) (Zw W x s b1 b2)) (aj av jr) _ hi w7 (H7.out.drop.drop.perm (by ac_rfl));rw [hx] at hw;clear hM HZ;simp only [Fu,fq,bN] at hw;obtain ⟨fn,tmps,assign,body,hy,hround⟩:=hw;have HRD:=hide hround;clear hround hx hi;gi_wp2
         try rw [hy]
         refine ⟨fun h=>(by cases h),?_⟩;refine HRD.out.mono ?_;rintro e W3 (⟨rfl,h3⟩ | ⟨rfl,h3⟩)
         ·have H8:=hide (h3.perm (by ac_rfl:_=star (au g5 #[.slice y.L ls.length y.lc,.slice y.R y.q.length y.rc] 167) (star (Zw W x s b1 b2) (X ((iU W x s k).length+1)))));clear HRD h3 hy H7 z0 z1 z2 z3 zf x0 x1 x2 x3 xf;gi_wp2
          go_roundw
          case rel=>exact ⟨k+1,HK1.out,by go_num,by rw [HM.out,List.length_append,←HA.out];exact H8.out⟩
          case measure=>have:=HK1.out;simp [intOf];omega
         ·have HE2:=hide (show (∃ v,(Ending.returned (.tuple #[]))=.returned v)∧∃ Z:CH.Own,Z.Ok∧(Run F0 w0 (star Z (X (bP W x s).length)) W3∨Run F0 w0 (star Z Y) W3) from ⟨⟨_,rfl⟩,_,aj av jr,.inr h3⟩);clear HRD h3 hy H7 z0 z1 z2 z3 zf x0 x1 x2 x3 xf;gi_wp2;refine bodyPost_ret (results_none rfl _ _ _) rfl ?_;exact HE2.out
        ·have HN0:=hide (HN2k.out (T9 h1 h3));rw [if_neg h1,Bool.eq_false_iff.2 h1] at KC;have KD:=hide (xk rt s.a w);rw [if_neg h3,Bool.eq_false_iff.2 h3] at KD;clear h1 h3 HN2k HYf;refine ⟨trivial,fun h=>(by cases h),?_⟩
         gi_at_call 128
         refine (callsIn_wide.2 KC.out).mono ?_;rintro e10 w10 ⟨rfl,h10⟩;subst w10;clear KC;dsimp only
         gi_wp2_with fail
         refine ⟨trivial,fun h=>(by cases h),?_⟩
         gi_at_call 128
         refine (callsIn_wide.2 KD.out).mono ?_;rintro e10 w10 ⟨rfl,h10⟩;subst w10;clear KD;dsimp only;gi_wp2
         go_roundw
         case rel=>exact ⟨k+1,HK1.out,by go_num,by rw [HN0.out,←HA.out];exact H4.out.drop.drop⟩
         case measure=>have:=HK1.out;simp [intOf];omega
      have HC3:=hide cut3;clear cut3 hKj;have HKc:=hide hKc;clear hKc;obtain ⟨z0,z1,z2,z3,zf⟩:=cB H3.out;obtain ⟨x0,x1,x2,x3,xf⟩:=cB H3.out.drop;have hfl:=HF6k.out.1;refine wpIn_wide.2 ?_;cases lf with
      | false =>
       have eN:((iN s false rf.length:Nat):Int)=(s.i:Int):=rfl;have eM:((jN s false rf.length:Nat):Int)=(s.j:Int)+(rf.length:Int):=by simp [jN]
       rw [eN,eM] at HC3;clear eN eM;go_wp2;refine HKc.out _ _ ?_;refine wpIn_wide.2 ?_;go_wp2;exact HC3.out _ _ _ _ _ _ _ _ _ _ _ _ _ _ _ _ _ _ _ _ _ _ _ _ _ _ _ _ (aH H3.out okD.out 1 _)
      | true =>
       have eN:((iN s true rf.length:Nat):Int)=(s.i:Int)+(rf.length:Int):=by simp [iN]
       have eM:((jN s true rf.length:Nat):Int)=(s.j:Int):=rfl;rw [eN,eM] at HC3;clear eN eM;go_wp2;refine HKc.out _ _ ?_;refine wpIn_wide.2 ?_;go_wp2;exact HC3.out _ _ _ _ _ _ _ _ _ _ _ _ _ _ _ _ _ _ _ _ _ _ _ _ _ _ _ _ (aH H3.out okD.out 0 _)
     ·have HN0:=hide (HN1k.out (Bool.eq_false_iff.2 hfit));rw [Bool.eq_false_iff.2 hfit];clear hfit HN1k;gi_wp2
      go_roundw
      case rel=>exact ⟨k+1,HK1.out,by go_num,by rw [HN0.out,←HA.out];exact H2.out.drop⟩
      case measure=>have:=HK1.out;simp [intOf];omega
    ·obtain rfl:k=y.q.length:=by omega
     have HEND:=hide (show (∃ v,(Ending.returned (.tuple #[]))=.returned v)∧∃ Z:CH.Own,Z.Ok∧(Run F0 w0 (star Z (X (bP W x s).length)) wr∨Run F0 w0 (star Z Y) wr) from ⟨⟨_,rfl⟩,_,aj av jr,.inl (by rw [←HAL.out];exact HR.out.perm (by ac_rfl))⟩);gi_wp2
     go_end0
     exact HEND.out
  have HC2:=hide cut2;clear cut2 hK3;clear HE HY HS HW ha;cases lf with
  | false =>
   clear HL;refine wpIn_wide.2 ?_;go_wp2;exact HC2.out _ _ _ _ _ _ _ _ _ _ H3.out
  | true =>
   clear HL;refine wpIn_wide.2 ?_;go_wp2_with fail;have H4:=hide (H3.out.drew (aj av (aj jr (okX 0))));have hS0:=HSW.out _ H4.out.drop;refine aI (fun w:World=>w.cell? ⟨b1,0,none⟩=some (.int .i64 s.i)∧w.cell? ⟨b1,1,none⟩=some (.int .i64 s.j)∧w.cell? ⟨b2,0,none⟩=some (.slice x.a.L W.l.length x.a.lc)∧w.cell? ⟨b2,1,none⟩=some (.slice x.a.R x.a.q.length x.a.rc)∧w.cell? ⟨b2,2,none⟩=some (.slice x.b.L W.m.length x.b.lc)∧w.cell? ⟨b2,3,none⟩=some (.slice x.b.R x.b.q.length x.b.rc)) (by kernel_rfl) (by kernel_rfl) hS0 ?_;clear hS0 H3;generalize w3.drew=w4 at *
   (repeat ((first | refine aK (by rfl) ?_ | (refine aL (v:=?_) (by rfl) ?_ ?_;rotate_left;(focus (intro w' hS';go_simp;(try with_reducible rfl);done))));try simp only [Act.put,List.setIfInBounds_toArray,List.set_cons_zero,List.set_cons_succ]))
   refine dR rfl (by rfl) (fun K hK=>?_);obtain ⟨f5,hf5⟩:=H4.out.fst;have y0:=ay (i:=0) hf5 rfl;have y1:=ay (i:=1) hf5 rfl;have yf:=aJ hf5;clear hf5;go_wp2_with fail;have H5:=hide (kQ H4.out (aj jr (okX 0)) (.slice x.a.L W.l.length x.a.lc) (.slice x.a.R x.a.q.length x.a.rc));clear H4 y0 y1 yf;generalize (w4.setCell ⟨g5,0,none⟩ (.slice x.a.L W.l.length x.a.lc)).setCell ⟨g5,1,none⟩ (.slice x.a.R x.a.q.length x.a.rc)=w5 at *
   refine hK.out _ _ (HSW.out _ H5.out.drop) ?_;clear hK
   (repeat ((first | refine aK (by rfl) ?_ | (refine aL (v:=?_) (by rfl) ?_ ?_;rotate_left;(focus (intro w' hS';go_simp;(try with_reducible rfl);done))));try simp only [Act.put,List.setIfInBounds_toArray,List.set_cons_zero,List.set_cons_succ]))
   refine lex_nil ?_;exact HC2.out _ _ _ _ _ _ _ _ _ _ H5.out
 have HC:=hide cut;clear cut hK0;cases hr:s.r with
 | true =>
  have hl:W.left s=true:=by unfold Wd.left;rw [hr];rfl
  have HL:=hide hl;rw [hr] at c4;clear hl hr;refine wpIn_wide.2 ?_;go_wp2;exact HC.out true _ _ _ _ _ _ _ _ _ _ _ _ _ _ _ _ HL.out
 | false =>
  rw [hr] at c4;by_cases he:s.a=[]
  ·have he2:(bs s.a).toList.isEmpty=true:=by rw [List.isEmpty_iff];exact iJ.2 he
   by_cases hi:s.i=W.l.length
   ·have hl:W.left s=false:=by unfold Wd.left;rw [hr];simp [hi]
    have HL:=hide hl;have hi2:decide (s.i < W.l.length)=false:=decide_eq_false (by omega);clear hl hi he hr;gi_wp2;exact HC.out false _ _ _ _ _ _ _ _ _ _ _ _ _ _ _ _ HL.out
   ·have hl:W.left s=true:=by unfold Wd.left;rw [hr];simp [hi,he]
    have HL:=hide hl;have hi2:decide (s.i < W.l.length)=true:=decide_eq_true (by have:=HS.out.1;omega);clear hl hi he hr;gi_wp2;exact HC.out true _ _ _ _ _ _ _ _ _ _ _ _ _ _ _ _ HL.out
  ·have he2:(bs s.a).toList.isEmpty=false:=by rw [List.isEmpty_eq_false_iff];exact fun h=>he (iJ.1 h)
   have hl:W.left s=false:=by unfold Wd.left;rw [hr];simp [he]
   have HL:=hide hl;clear hl he hr;gi_wp2;exact HC.out false _ _ _ _ _ _ _ _ _ _ _ _ _ _ _ _ HL.out
end Go.Proofs.YtbnnlpjpnihheaaGreatDoor
