/- A part of the proof: lemmas. -/
import Derived.Test.YtbioiclabmbedaaGreatDoorSI10
set_option maxHeartbeats 16000000
set_option maxRecDepth 100000
set_option linter.all false
namespace Go.CH.dh
open Go.CH.Scr
section
variable {W:Wd} {C:List Pt} {s:St} {bound c:Int}
variable {W':Wd}
theorem Ct  (h:Holds W bound C) (M:W'.l.length=W.l.length) (hm:W'.m.length=W.m.length) (J:∀ s c' s',(c',s') ∈ W'.moves s->∃ c,(c,s') ∈ W.moves s/\c<=c'):Holds W' bound C:=by
 have hf:W'.fin=W.fin:=by unfold Wd.fin;rw[M,hm]
 refine⟨fun p I=>?_,h.2.1,fun p I=>?_,h.2.2.2⟩
 ·have:=h.1 p I;unfold proper at *
  rw[M,hm,hf];exact this
 ·have h1:=h.2.2.1 p I;unfold steps at *
  rw[j8] at *
  rintro⟨c',s'⟩ hx;obtain⟨c,hc,aa⟩:=J _ _ _ hx;have h2:=h1 _ hc;simp only[decide_eq_true_eq] at h2 ⊢;omega
theorem O7  {R:ik} (M:W'.ka=W.ka) (J:W'.kb=W.kb) (I:W'.l=W.l) (h4:W'.m=W.m):W'.mv s R=W.mv s R:=by
 have h:W'.left s=W.left s:=by unfold Wd.left;rw[I]
 have e2:W'.used s R=W.used s R:=by unfold Wd.used;rw[h,M,J,I,h4]
 have e3:W'.ah s R.t=W.ah s R.t:=by unfold Wd.ah;rw[h]
 unfold Wd.mv;rw[h,e2,e3]
end
section
variable {W:Wd} {C C':List Pt} {s s':St} {bound c:Int}
end
end Go.CH.dh
namespace Go.Proofs.YtbioiclabmbedaaGreatDoor
open Go.RowKit Go.CH Go.CH.Scr Go.CH.dh Go.CH.Mtc Go.CH.Sil
open Go.ChangeMaps (setBlock)
theorem Eo {e:WL}:rV e=true↔e.ps.length<=60/\∀ x ∈ e.ps,Ak x=true:=by
 unfold rV;rw[gA,decide_eq_true_eq,j8]
variable {s:SL}{w:World}
theorem wR :bS s=true↔(s.ws.length<=20/\s.U.length<=60/\s.V.length<=60/\s.G.length<=60)/\∀ e ∈ s.ws,rV e=true:=by
 unfold bS;rw[gA,decide_eq_true_eq,j8]
theorem MF  (h:bS s=true) (M:∀ e ∈ s.ws,e.ps.length<=e.c):XZ s:=by
 obtain⟨⟨h1,h2,h3,h4⟩,J⟩:=wR.1 h;refine⟨by omega,fun e I=>?_,by omega,by omega,by omega⟩;obtain⟨g1,g2⟩:=Eo.1 (J e I);refine⟨M e I,by omega,fun x hx=>?_⟩;obtain⟨⟨-,-,-,k1⟩,-,-,-,k2⟩:=tY.1 (g2 x hx);refine⟨by omega,fun p hp=>?_⟩;have:=l7.1 (k2 p hp);omega
theorem GN   (hs:SR w s) (h1:s.ws.length<=maxLen) (h2:∀ e ∈ s.ws,e.ps.length<=maxLen):Calls Tryz.prog 15 #[.agg (jh s)] w (aS w (.bool (bS s))):=by
 have hr:=aH (aI.begin w) aO (jh s) 41;have HB:=au hr.cZ
 have HC:=au (fun W (h:Below (w.alloc (.cells (jh s) 41)).heap.size (w.alloc (.cells (jh s) 41)) W)=>(show (UP W w.heap.size (.slice s.A s.ws.length s.c) (.slice s.u.A s.U.length s.u.c) (.slice s.v.A s.V.length s.v.c) (.slice s.g.A s.G.length s.g.c)) from by
  obtain⟨_,f⟩:=(hr.below aO h).fst
  exact⟨ay f rfl,ay f rfl,ay f rfl,ay f rfl⟩))
 have HS:=au hs;have HM:=au h2;clear hs hr h2;unfold jh at *
 obtain⟨n0,am⟩:∃ n,n=s.ws.length:=⟨_,rfl⟩;obtain⟨r,hr⟩:∃ r,r=bS s:=⟨_,rfl⟩
 have I:=au (show ¬ ((n0<=20/\s.U.length<=60/\s.V.length<=60/\s.G.length<=60)/\∀ e ∈ s.ws,rV e=true)->r=false from fun h=>by
  rw[hr,rk];intro h2;rw[wR,<-am] at h2
  exact h h2)
 have J:=au (show((n0<=20/\s.U.length<=60/\s.V.length<=60/\s.G.length<=60)/\∀ e ∈ s.ws,rV e=true)->r=true from fun h=>by
  rw[hr,wR,<-am]
  exact h)
 rw[<-hr];clear hr;rw[<-am] at HB HC h1 ⊢;have aq:=au am;clear am;generalize s.U.length=n1 at *
 generalize s.V.length=n2 at *
 generalize s.G.length=n3 at *
 go_enter Tryz.func15,Tryz.ntmps15
 go_upto_region 1 with (fail);generalize w.alloc (.cells (ie s.b s.A n0 s.c s.u.A n1 s.u.c s.v.A n2 s.v.c s.g.A n3 s.g.c) 41)=w1 at *
 generalize w.heap.size=g1 at HC ⊢;have af:=au (fun W (h:Below w1.heap.size w1 W)=>HB.o.trans (h.mono HB.o.size));have al:=au (fun W (h:Below w1.heap.size w1 W)=>HS.o.below (af.o W h));have KF:=au (fun W (C:List Pt) (A:eV) (c:Nat) (hC:zH W A C)=>J6 (a:=⟨none,0,none,0,none,0⟩) (c:=c) (⟨qZ,qZ,qZ⟩:wC W L5 ⟨none,0,none,0,none,0⟩) hC);obtain⟨c1,c2,c3,c4⟩:=HC.o w1 (fe _ _);simp only[maxLen] at h1;by_cases h:20<n0
 ·have h':(20:Int)<(n0:Int):=by omega
  have HF:=au (I.o (fun h=>by omega));clear I J HS al KF h;go_wp2;go_ret;exact aK HF.o HB.o
 have k0:=uu h;have a6:¬ (20:Int)<(n0:Int):=by omega
 clear h;by_cases h:60<n1
 ·have h':(60:Int)<(n1:Int):=by omega
  have HF:=au (I.o (fun h=>by omega));clear I J HS al KF h k0;go_wp2;go_ret;exact aK HF.o HB.o
 have k1:=uu h;have a1:¬ (60:Int)<(n1:Int):=by omega
 clear h;by_cases h:60<n2
 ·have h':(60:Int)<(n2:Int):=by omega
  have HF:=au (I.o (fun h=>by omega));clear I J HS al KF h k0 k1;go_wp2;go_ret;exact aK HF.o HB.o
 have k2:=uu h;have a5:¬ (60:Int)<(n2:Int):=by omega
 clear h;by_cases h:60<n3
 ·have h':(60:Int)<(n3:Int):=by omega
  have HF:=au (I.o (fun h=>by omega));clear I J HS al KF h k0 k1 k2;go_wp2;go_ret;exact aK HF.o HB.o
 have k3:=uu h;have a4:¬ (60:Int)<(n3:Int):=by omega
 clear h;have HK:=au (show n0<=20/\n1<=60/\n2<=60/\n3<=60 from⟨k0,k1,k2,k3⟩);clear k0 k1 k2 k3;go_wp2_with fail;clear a6 a1 a5 a4 c1 c2 c3 c4;go_loopw [3,4] (fun i j wr=>∃ k:Nat,i=.int .i64 k/\k<=n0/\(∀ e ∈ s.ws.take k,rV e=true)/\Below w1.heap.size w1 wr) (fun i j _=>n0-(intOf i).toNat)
 case atStart=>exact⟨0,rfl,fw _,iz,fe _ _⟩
 case round=>
  obtain⟨k,rfl,hk,ac,hb⟩:=hrel;have HL:=au ac;have ai:=au hb;clear ac hb;obtain⟨c1,c2,c3,c4⟩:=HC.o wr ai.o;by_cases aD:k<n0
  ·have ak:k<s.ws.length:=by rw[<-aq.o];exact aD
   have ap:=au aD;have a7:(k:Int)<21:=by have:=HK.o.1;omega
   obtain⟨bb,o,ax,hc⟩:=sD.at (R:=mJ) (fun _=>rfl) eL HS.o.ws.row eL;have ag:=au (fun h=>mY (p:=rV) ak HL.o h);have M:=au (show rV s.ws[k]=false->r=false from fun h=>I.o (fun h2=>by have:=h2.2 _ (gv ak);rw[h] at this;cases this));have HE:=au (HM.o _ (gv ak));have HP:=au (fun W (h:Below w1.heap.size w1 W)=>(al.o W h).ws.all _ (gv ak));have HR:=au (fun W (h:Below w1.heap.size w1 W)=>hc W (af.o W h) k ak 3 _ rfl);clear hc J;rw[ax] at c1 HC;clear ax;generalize s.ws[k]=e at *
   have aa:=au (Eo (e:=e));obtain⟨ei,ej,eh,ps,eA,ec⟩:=e;dsimp only at HR HE HP aa;obtain⟨m,hm⟩:∃ m,m=ps.length:=⟨_,rfl⟩;rw[<-hm] at HR HE aa;have aA:=au hm;clear hm;have aw:=HE.o;simp only[maxLen] at aw;have r3:=HR.o wr ai.o;by_cases ju:60<m
   ·have hg:(60:Int)<(m:Int):=by omega
    have HF:=au (M.o (by rw[rk];intro h;have:=(aa.o.1 h).1;omega));have HQ:=au (af.o wr ai.o);clear I M ag aa;go_wp2;go_ret;exact aK HF.o HQ.o
   ·have hg:¬ (60:Int)<(m:Int):=by omega
    have ao:=au (uu ju);clear ju;go_wp2_with fail;clear hg r3 c1 c2 c3 c4 aw;go_loopw [4] (fun j wq=>∃ q:Nat,j=.int .i64 q/\q<=m/\(∀ x ∈ ps.take q,Ak x=true)/\Below w1.heap.size w1 wq) (fun j _=>m-(intOf j).toNat)
    case atStart=>exact⟨0,rfl,fw _,iz,ai.o⟩
    case round=>
     obtain⟨q,rfl,hq,ac,hb⟩:=hrel;have aE:=au ac;have ab:=au hb;clear ac hb;obtain⟨c1,c2,c3,c4⟩:=HC.o wr ab.o;have r3:=HR.o wr ab.o;by_cases az:q<m
     ·have an:q<ps.length:=by rw[<-aA.o];exact az
      have ar:=au az;have a8:(q:Int)<61:=by have:=ao.o;omega
      obtain⟨b2,o2,a3,a0⟩:=sD.at (R:=rT) (fun _=>rfl) eL (HP.o wr ab.o).row eL;have r4:=a0 wr (fe _ _) q an 4 _ rfl;have K:=au (KF.o wr ps[q].p.C ps[q].A ps[q].c ((HP.o wr ab.o).all _ (gv an)));have ae:=au (fun h=>mY (p:=Ak) an aE.o h)
      have ad:=au (show Ak ps[q]=false->r=false from fun h=>M.o (by
       rw[rk];intro h2
       have:=(aa.o.1 h2).2 _ (gv an);rw[h] at this;cases this))
      clear a0;subst a3;generalize ps[q]=x at *
      obtain⟨⟨xk,xl,xr,xh,xC⟩,xA,xc⟩:=x;unfold Ak at ae ad;unfold dV L5 at K;dsimp only[dR,lA] at K ae ad r4;cases hf:Bo ⟨[],[],[],0,0,0⟩ xC with
      | false=>
       rw[hf] at K;have HF:=au (ad.o (by exact hf));clear I M ag aa ae ad hf;go_wp2_with fail;refine K.o.mono ?_;rintro e9 w9 ⟨rfl,hw⟩;have HQ:=au (af.o w9 (ab.o.trans (hw.mono ab.o.size)));clear K hw c1 c2 c3 c4 r3 r4;dsimp only;go_wp2;go_ret;exact aK HF.o HQ.o
      | true=>
       rw[hf] at K;have a2:=au (ae.o (by exact hf));clear I M ag aa ae ad hf;go_wp2_with fail;refine K.o.mono ?_;rintro e9 w9 ⟨rfl,hw⟩;have HQ:=au (ab.o.trans (hw.mono ab.o.size));clear K hw c1 c2 c3 c4 r3 r4;dsimp only;go_wp2_with fail
       go_roundw
       case rel=>exact⟨q+1,by go_num,ar.o,a2.o,HQ.o⟩
       case measure=>have:=ar.o;simp[intOf];omega
     ·obtain rfl:q=m:=by omega
      have HT:=au (ag.o (aa.o.2 ⟨ao.o,by have h:=aE.o;rw[aA.o,ky] at h;exact h⟩));clear I M ag aa;go_wp2_with fail
      go_roundw
      case rel=>exact⟨k+1,by go_num,ap.o,HT.o,ab.o⟩
      case measure=>have:=ap.o;simp[intOf];omega
  ·obtain rfl:k=n0:=by omega
   have HF:=au (J.o ⟨HK.o,by have h:=HL.o;rw[aq.o,ky] at h;exact h⟩);have HQ:=au (af.o wr ai.o);clear I J HL;go_wp2;go_ret;exact aK HF.o HQ.o
open Go.ChangeShapes Go.WideShapes Go.ChangeAt Go.Deep Go.Shelf Go.Lib
section
variable {H:Type} {enc:TypeId × Value→H} {w:World} {base:Nat}
instance:Inhabited PL:=⟨⟨⟨0,0,0,0,[]⟩,none,0⟩⟩
instance:Inhabited WL:=⟨⟨0,0,0,[],none,0⟩⟩
theorem aaw:∀ m cs y,DataW.trod enc Tryz.prog w base (fun _=>true) true m 110 cs=some y->∃ p:Pt,cs=cO p/\True:=by
 intro m cs y h;obtain⟨J,n,I⟩:=nk Tryz.underlying110 eQ eQ h;obtain⟨v0,z0,c0,t0⟩:=I 0 _ rfl;obtain⟨v1,z1,c1,t1⟩:=I 1 _ rfl;obtain⟨v2,z2,c2,t2⟩:=I 2 _ rfl;obtain⟨v3,z3,c3,t3⟩:=I 3 _ rfl;obtain⟨v4,z4,c4,t4⟩:=I 4 _ rfl;obtain⟨x0,M,-,-⟩:=nh Tryz.underlying3 t0;obtain⟨x1,f1,-,-⟩:=nh Tryz.underlying3 t1;obtain⟨x2,f2,-⟩:=CC Tryz.underlying9 t2;obtain⟨x3,f3,-⟩:=DataW.trod_bool Tryz.underlying4 t3;obtain⟨x4,f4,-,-⟩:=nh Tryz.underlying3 t4;injection M with M
 injection f1 with f1
 injection f2 with f2
 injection f3 with f3
 injection f4 with f4
 subst M f1 f2 f3 f4;refine⟨⟨x0,x1,bl x2,x3,x4⟩,?_,trivial⟩;have J:cs.length=5:=J
 match cs,J with
 | [a,b,c,d,e],_=>
  simp at c0 c1 c2 c3 c4;subst c0 c1 c2 c3 c4;unfold cO;rw[sQ]
variable {v:Value}
theorem WV {m:Nat}  {y:DataW H × List MemPlace} (h:DataW.trod enc Tryz.prog w 0 (fun _=>true) true m 56 [v]=some y) :
  ∃ (A:eV) (c:Nat) (l:List Pt),v=.slice A l.length c/\zH w A l:=by
 obtain⟨A,n,c,rfl⟩:=slice_form Tryz.underlying56 h;obtain⟨xs,J,M,h3,h4,h5⟩:=oO (P:=Tryz.prog) (t:=56) (e:=110) (A:=A) (n:=n) (c:=c) (d:=y.1) (ps:=y.2) (size:=5) cO (fun _=>True) Tryz.underlying56 eQ eS aaw (fun R _ u I=>vY [R] u (by simpa using I)) ⟨m,by simpa[Value.cells] using h⟩;subst J;exact⟨A,c,xs,rfl,M⟩
theorem open_ints {m:Nat}  {y:DataW H × List MemPlace} (h:DataW.trod enc Tryz.prog w 0 (fun _=>true) true m 39 [v]=some y) :
  ∃ (A:eV) (c:Nat) (l:List Int),v=.slice A l.length c/\iF w A l:=by
 obtain⟨A,n,c,rfl⟩:=slice_form Tryz.underlying39 h;obtain⟨xs,h1,J,h3,h4,h5⟩:=oO (P:=Tryz.prog) (t:=39) (e:=3) (A:=A) (n:=n) (c:=c) (d:=y.1) (ps:=y.2) (size:=1) (fun x:Int=>[Value.int .i64 x]) (fun _=>True) Tryz.underlying39 eQ eS
  (fun m cs y h=>by obtain⟨x0,M,-,-⟩:=nh Tryz.underlying3 h;exact⟨x0,M,trivial⟩) (fun x _ u I=>by simp at I;subst I;rfl) ⟨m,by simpa[Value.cells] using h⟩
 subst h1;refine⟨A,c,xs,rfl,?_⟩;have e:∀ xs:List Int,xs.flatMap (fun x:Int=>[Value.int .i64 x])=xs.map (Value.int .i64):=fun xs=>by
  induction xs with
  | nil=>rfl
  | cons a l ih=>rw[mN,ih];rfl
 rw[e] at J;exact J
theorem aax:∀ m cs y,DataW.trod enc Tryz.prog w 0 (fun _=>true) true m 58 cs=some y->∃ p:PL,cs=rT p/\zH w p.A p.p.C:=by
 intro m cs y h;obtain⟨J,n,I⟩:=nk Tryz.underlying58 eQ eQ h;obtain⟨v0,z0,c0,t0⟩:=I 0 _ rfl;obtain⟨v1,z1,c1,t1⟩:=I 1 _ rfl;obtain⟨v2,z2,c2,t2⟩:=I 2 _ rfl;obtain⟨v3,z3,c3,t3⟩:=I 3 _ rfl;obtain⟨v4,z4,c4,t4⟩:=I 4 _ rfl;obtain⟨x0,M,-,-⟩:=nh Tryz.underlying3 t0;obtain⟨x1,f1,-,-⟩:=nh Tryz.underlying3 t1;obtain⟨x2,f2,-,-⟩:=nh Tryz.underlying3 t2;obtain⟨x3,f3,-,-⟩:=nh Tryz.underlying3 t3;obtain⟨A,c,l,f4,k4⟩:=WV t4;injection M with M
 injection f1 with f1
 injection f2 with f2
 injection f3 with f3
 subst M f1 f2 f3 f4;refine⟨⟨⟨x0,x1,x2,x3,l⟩,A,c⟩,?_,k4⟩;have J:cs.length=5:=J
 match cs,J with
 | [a,b,c,d,e],_=>
  simp at c0 c1 c2 c3 c4;subst c0 c1 c2 c3 c4;rfl
theorem WX {m:Nat}  {y:DataW H × List MemPlace} (h:DataW.trod enc Tryz.prog w 0 (fun _=>true) true m 53 [v]=some y) :
  ∃ (A:eV) (c:Nat) (l:List PL),v=.slice A l.length c/\QU w A l/\l.length<=c/\c<=maxLen:=by
 obtain⟨A,n,c,rfl⟩:=slice_form Tryz.underlying53 h;obtain⟨xs,h1,h2,I,h4,M⟩:=oO (P:=Tryz.prog) (t:=53) (e:=58) (A:=A) (n:=n) (c:=c) (d:=y.1) (ps:=y.2) (size:=5) rT (fun p=>zH w p.A p.p.C) Tryz.underlying53 eQ eS aax (fun R _ u J=>Ee [R] u (by simpa using J)) ⟨m,by simpa[Value.cells] using h⟩;subst h1;exact⟨A,c,xs,rfl,⟨h2,fun e he=>(I e he).1⟩,h4,M⟩
theorem aay:∀ m cs y,DataW.trod enc Tryz.prog w 0 (fun _=>true) true m 55 cs=some y->∃ p:WL,cs=mJ p/\(QU w p.A p.ps/\p.ps.length<=p.c/\p.c<=maxLen):=by
 intro m cs y h;obtain⟨J,n,I⟩:=nk Tryz.underlying55 eQ eQ h;obtain⟨v0,z0,c0,t0⟩:=I 0 _ rfl;obtain⟨v1,z1,c1,t1⟩:=I 1 _ rfl;obtain⟨v2,z2,c2,t2⟩:=I 2 _ rfl;obtain⟨v3,z3,c3,t3⟩:=I 3 _ rfl;obtain⟨x0,M,-,-⟩:=nh Tryz.underlying3 t0;obtain⟨x1,f1,-,-⟩:=nh Tryz.underlying3 t1;obtain⟨x2,f2,-,-⟩:=nh Tryz.underlying3 t2;obtain⟨A,c,l,f3,k3⟩:=WX t3;injection M with M
 injection f1 with f1
 injection f2 with f2
 subst M f1 f2 f3;refine⟨⟨x0,x1,x2,l,A,c⟩,?_,k3⟩;have J:cs.length=4:=J
 match cs,J with
 | [a,b,c,d],_=>
  simp at c0 c1 c2 c3;subst c0 c1 c2 c3;rfl
theorem WY {m:Nat}  {y:DataW H × List MemPlace} (h:DataW.trod enc Tryz.prog w 0 (fun _=>true) true m 38 [v]=some y) :
  ∃ (A:eV) (c:Nat) (l:List WL),v=.slice A l.length c/\Bi w A l/\(l.length<=maxLen/\∀ e ∈ l,e.ps.length<=maxLen/\e.ps.length<=e.c):=by
 obtain⟨A,n,c,rfl⟩:=slice_form Tryz.underlying38 h;obtain⟨xs,h1,h2,J,h4,h5⟩:=oO (P:=Tryz.prog) (t:=38) (e:=55) (A:=A) (n:=n) (c:=c) (d:=y.1) (ps:=y.2) (size:=4) mJ (fun p=>QU w p.A p.ps/\p.ps.length<=p.c/\p.c<=maxLen) Tryz.underlying38 eQ eS aay (fun R _ u M=>Ef [R] u (by simpa using M)) ⟨m,by simpa[Value.cells] using h⟩;subst h1;exact⟨A,c,xs,rfl,⟨h2,fun e I=>(J e I).1.1⟩,by omega,fun e I=>⟨by have:=(J e I).1.2;omega,(J e I).1.2.1⟩⟩
theorem aeH {cs:List Value} (h:cs.length=5):∃ a b c d e,cs=[a,b,c,d,e]:=by
 match cs,h with
 | [a,b,c,d,e],_=>exact⟨a,b,c,d,e,rfl⟩
def L1 (w:World) (s:SL):Prop:=SR w s/\(s.ws.length<=maxLen/\∀ e ∈ s.ws,e.ps.length<=maxLen/\e.ps.length<=e.c)
theorem WZ {r:Reach} {b0:Nat}  {d:DataW H} {ps:List MemPlace} (ag:Value.okWide Tryz.prog w r b0 41 v) (h:DataW.Trod enc Tryz.prog w 0 (fun _=>true) true 41 v d ps):∃ z:SL,v=.agg (jh z)/\L1 w z:=by
 obtain⟨cs,rfl,an⟩:=okWide_struct Tryz.underlying41 ag;obtain⟨m,hm⟩:=h;obtain⟨xs,n,_,_,hl,af,hf⟩:=FA Tryz.underlying41 hm;have ak:=hl.trans (by kernel_rfl:_=5);obtain⟨a0,a1,a2,a3,J,ha⟩:=aeH ak;have am:xs.length=5:=af;have ex:∀ i (hi:i<5),xs[i]?=some (xs[i]'eL):=fun i hi=>gR eL;have s3:Tryz.prog.cellsOf 3=1:=by kernel_rfl
 have ai:Tryz.prog.cellsOf 38=1:=by kernel_rfl
 have al:Tryz.prog.cellsOf 39=1:=by kernel_rfl
 have t0:=(hf 0 _ rfl).trans (ex 0 eL);have t1:=(hf 1 _ rfl).trans (ex 1 eL);have t2:=(hf 2 _ rfl).trans (ex 2 eL);have t3:=(hf 3 _ rfl).trans (ex 3 eL);have t4:=(hf 4 _ rfl).trans (ex 4 eL);rw[ha] at t0 t1 t2 t3 t4;have ab:DataW.trod enc Tryz.prog w 0 (fun _=>true) true n 3 (([a0,a1,a2,a3,J].drop 0).take (Tryz.prog.cellsOf 3))=some (xs[0]'eL):=t0;have I:DataW.trod enc Tryz.prog w 0 (fun _=>true) true n 38 (([a0,a1,a2,a3,J].drop 1).take (Tryz.prog.cellsOf 38))=some (xs[1]'eL):=t1;have ad:DataW.trod enc Tryz.prog w 0 (fun _=>true) true n 39 (([a0,a1,a2,a3,J].drop 2).take (Tryz.prog.cellsOf 39))=some (xs[2]'eL):=t2;have aa:DataW.trod enc Tryz.prog w 0 (fun _=>true) true n 39 (([a0,a1,a2,a3,J].drop 3).take (Tryz.prog.cellsOf 39))=some (xs[3]'eL):=t3;have M:DataW.trod enc Tryz.prog w 0 (fun _=>true) true n 39 (([a0,a1,a2,a3,J].drop 4).take (Tryz.prog.cellsOf 39))=some (xs[4]'eL):=t4;simp only[s3,ai,al,List.drop,List.take] at ab I ad aa M;obtain⟨x0,f0,-,-⟩:=nh Tryz.underlying3 ab;obtain⟨A,ac,ws,f1,k1,ae⟩:=WY I;obtain⟨B,bc,U,f2,k2⟩:=open_ints ad;obtain⟨C,cc,V,f3,k3⟩:=open_ints aa;obtain⟨D,dc,G,f4,k4⟩:=open_ints M;injection f0 with f0
 subst f0 f1 f2 f3 f4;refine⟨⟨x0,ws,U,V,G,A,ac,⟨B,bc⟩,⟨C,cc⟩,⟨D,dc⟩⟩,?_,⟨⟨k1,k2,k3,k4⟩,ae⟩⟩;have:cs=(ie x0 A ws.length ac B U.length bc C V.length cc D G.length dc):=by
  apply Array.toList_inj.1;simpa[Value.cells] using ha
 rw[this];rfl
end
theorem iX {α:Type} (R:α->List Value) (size:Nat) (h:∀ x,(R x).length=size):∀ (l:List α) (k:Nat),(l.flatMap R).take (k*size)=(l.take k).flatMap R
 | [],k=>by simp
 | x::l,0=>by simp
 | x::l,k+1=>by
  rw[mN,List.take_succ_cons,mN,List.take_append,h,li,Nat.add_sub_cancel,tE (by rw[h];omega),iX R size h l k]
theorem Jj:eB Tryz.prog 22 50 (.agg (mC 0 ⟨#[]⟩ ⟨#[]⟩ 0)) 4 48:=⟨Tryz.underlying22,by kernel_rfl,by decide,by decide⟩
theorem OE (l:List ik):∀ u ∈ l.flatMap gV,u.oneCell'=true:=by
 intro u hu;obtain⟨R,-,hR⟩:=List.mem_flatMap.1 hu;simp[gV] at hR;rcases hR with rfl|rfl|rfl|rfl<;>rfl
def OG (A:eV) (c:Nat) (l:List ik):CH.aT:=aV 50 4 (.slice A l.length c) l.length (l.flatMap gV)
variable {A:eV}{c n:Nat}{l:List ik}{w0 W:World}{F F0:Nat->Prop}{a:Act}{K:Act->World->Prop}{Q:Exit->Act->World->Prop}
theorem X9   :(OG A c l).Ok:=dK
instance {A:eV} {c:Nat} {l:List ik}:(OG A c l).Ok:=X9
theorem Ya      (h:OG A c l w F):lY w A l:=iG h (OE l)
theorem Aj   {Y:CH.aT} {o:Oper}    (s x:Operand)
  (ho:o.op=.call { callee:=.builtin .append,args:=#[s,x],argTypes:=#[22,22] }) {B:eV} {d m:Nat} {r:List ik} (hl:l.length=n) (hr:r.length=m) (hsv:a.eval s=.slice A n c) (hx:a.eval x=.slice B m d) (hn:n+m<=1000000) (hY:Y.Ok)
  (hB:lY W B r) (h:aI F0 w0 (aj (OG A c l) Y) W)
  (hK:∀ A' c' w',aI F0 w0 (aj (OG A' c' (l++r)) Y) w'->K (a.put o.dst (.slice A' (n+m) c')) w'):o.wp Tryz.prog a W K Q:=by
 subst hl hr;obtain⟨F7,I,-,ab⟩:=h.take X9 hY;refine wY s x ho Jj _ 0 (v:=.slice A l.length c) (n:=l.length) (xs:=l.flatMap gV) hsv I.1 (A:=B) (m:=r.length) (c:=d) (news:=r.flatMap gV) hx hB (by unfold maxLen;omega) eL (fw _) ?_;intro v8 w8 J M aa;have S8:=ab _ _ (je I J M aa);obtain⟨A8,c8,rfl⟩:=ig J;rw[<-tW,<-gd] at S8;rw[<-gd] at *
 exact hK A8 c8 w8 S8
end Go.Proofs.YtbioiclabmbedaaGreatDoor
