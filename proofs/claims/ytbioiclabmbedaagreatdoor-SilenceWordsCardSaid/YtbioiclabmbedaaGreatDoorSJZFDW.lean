/- A part of the proof: lemmas. -/
import Derived.Test.YtbioiclabmbedaaGreatDoorSJ10
set_option maxHeartbeats 16000000
set_option maxRecDepth 100000
set_option linter.all false
namespace Go.Proofs.YtbioiclabmbedaaGreatDoor
open Go.RowKit Go.CH Go.CH.Scr Go.CH.dh Go.CH.Mtc Go.CH.Sil
open Go.ChangeMaps (setBlock)
theorem EC{e:WL}:sG e=true↔e.ps.length<=60/\∀ x ∈ e.ps,Ay x=true:=by
 unfold sG;rw[gA,decide_eq_true_eq,j7]
variable{s:SL}{w:World}
theorem wY:bS s=true↔(s.ws.length<=20/\s.U.length<=60/\s.V.length<=60/\s.G.length<=60)/\∀ e ∈ s.ws,sG e=true:=by
 unfold bS;rw[gA,decide_eq_true_eq,j7]
theorem ED(h:bS s=true)(hc:∀ e ∈ s.ws,e.ps.length<=e.c):Ul s:=by
 obtain⟨⟨h1,h2,h3,h4⟩,M⟩:=wY.1 h;refine⟨by omega,fun e I=>?_,by omega,by omega,by omega⟩;obtain⟨g1,g2⟩:=EC.1 (M e I);refine⟨hc e I,by omega,fun x J=>?_⟩;obtain⟨⟨-,-,-,k1⟩,-,-,-,k2⟩:=uo.1 (g2 x J);refine⟨by omega,fun p hp=>?_⟩;have:=mo.1 (k2 p hp);omega
theorem Az(hs:SR w s)(h1:s.ws.length<=maxLen)(h2:∀ e ∈ s.ws,e.ps.length<=maxLen):Calls Tryz.prog 15 #[.agg (jh s)] w (aT w (.bool (bS s))):=by
 have hr:=aH (aI.begin w) aO (jh s) 41;have HB:=au hr.cK
 have HC:=au (fun W (h:Below (w.alloc (.cells (jh s) 41)).heap.size (w.alloc (.cells (jh s) 41)) W)=>(show (Wc W w.heap.size (.slice s.A s.ws.length s.c) (.slice s.u.A s.U.length s.u.c) (.slice s.v.A s.V.length s.v.c) (.slice s.g.A s.G.length s.g.c)) from by
  obtain⟨_,f⟩:=(hr.below aO h).fst
  exact⟨ay f rfl,ay f rfl,ay f rfl,ay f rfl⟩))
 have HS:=au hs;have HM:=au h2;clear hs hr h2;unfold jh at *
 obtain⟨n0,al⟩:∃ n,n=s.ws.length:=⟨_,rfl⟩;obtain⟨r,hr⟩:∃ r,r=bS s:=⟨_,rfl⟩
 have I:=au (show ¬ ((n0<=20/\s.U.length<=60/\s.V.length<=60/\s.G.length<=60)/\∀ e ∈ s.ws,sG e=true)->r=false from fun h=>by
  rw[hr,rB];intro h2;rw[wY,<-al] at h2
  exact h h2)
 have J:=au (show((n0<=20/\s.U.length<=60/\s.V.length<=60/\s.G.length<=60)/\∀ e ∈ s.ws,sG e=true)->r=true from fun h=>by
  rw[hr,wY,<-al]
  exact h)
 rw[<-hr];clear hr;rw[<-al] at HB HC h1 ⊢;have ao:=au al;clear al;generalize s.U.length=n1 at *
 generalize s.V.length=n2 at *
 generalize s.G.length=n3 at *
 go_enter Tryz.func15,Tryz.ntmps15
 go_upto_region 1 with (fail);generalize w.alloc (.cells (fj s.b s.A n0 s.c s.u.A n1 s.u.c s.v.A n2 s.v.c s.g.A n3 s.g.c) 41)=w1 at *
 generalize w.heap.size=g1 at HC ⊢;have ag:=au (fun W (h:Below w1.heap.size w1 W)=>HB.o.trans (h.mono HB.o.size));have af:=au (fun W (h:Below w1.heap.size w1 W)=>HS.o.below (ag.o W h));have KF:=au (fun W (C:List Pt) (A:eV) (c:Nat) (hC:zQ W A C)=>Ko (a:=⟨none,0,none,0,none,0⟩) (c:=c) (⟨rH,rH,rH⟩:vQ W Mz ⟨none,0,none,0,none,0⟩) hC);obtain⟨c1,c2,c3,c4⟩:=HC.o w1 (fe _ _);simp only[maxLen] at h1;by_cases h:20<n0
 ·have h':(20:Int)<(n0:Int):=by omega
  have HF:=au (I.o (fun h=>by omega));clear I J HS af KF h;go_wp2;go_ret;exact aK HF.o HB.o
 have k0:=uC h;have a5:¬ (20:Int)<(n0:Int):=by omega
 clear h;by_cases h:60<n1
 ·have h':(60:Int)<(n1:Int):=by omega
  have HF:=au (I.o (fun h=>by omega));clear I J HS af KF h k0;go_wp2;go_ret;exact aK HF.o HB.o
 have k1:=uC h;have a2:¬ (60:Int)<(n1:Int):=by omega
 clear h;by_cases h:60<n2
 ·have h':(60:Int)<(n2:Int):=by omega
  have HF:=au (I.o (fun h=>by omega));clear I J HS af KF h k0 k1;go_wp2;go_ret;exact aK HF.o HB.o
 have k2:=uC h;have a6:¬ (60:Int)<(n2:Int):=by omega
 clear h;by_cases h:60<n3
 ·have h':(60:Int)<(n3:Int):=by omega
  have HF:=au (I.o (fun h=>by omega));clear I J HS af KF h k0 k1 k2;go_wp2;go_ret;exact aK HF.o HB.o
 have k3:=uC h;have a4:¬ (60:Int)<(n3:Int):=by omega
 clear h;have HK:=au (show n0<=20/\n1<=60/\n2<=60/\n3<=60 from⟨k0,k1,k2,k3⟩);clear k0 k1 k2 k3;go_wp2_with fail;clear a5 a2 a6 a4 c1 c2 c3 c4;go_loopw [3,4] (fun i j wr=>∃ k:Nat,i=.int .i64 k/\k<=n0/\(∀ e ∈ s.ws.take k,sG e=true)/\Below w1.heap.size w1 wr) (fun i j _=>n0-(intOf i).toNat)
 case atStart=>exact⟨0,rfl,fy _,i7,fe _ _⟩
 case round=>
  obtain⟨k,rfl,hk,ac,hb⟩:=hrel;have HL:=au ac;have ak:=au hb;clear ac hb;obtain⟨c1,c2,c3,c4⟩:=HC.o wr ak.o;by_cases ap:k<n0
  ·have am:k<s.ws.length:=by rw[<-ao.o];exact ap
   have aD:=au ap;have a8:(k:Int)<21:=by have:=HK.o.1;omega
   obtain⟨bb,o,aE,hc⟩:=sI.at (R:=mQ) (fun _=>rfl) eL HS.o.ws.row eL;have ai:=au (fun h=>nk (p:=sG) am HL.o h);have M:=au (show sG s.ws[k]=false->r=false from fun h=>I.o (fun h2=>by have:=h2.2 _ (gw am);rw[h] at this;cases this));have HE:=au (HM.o _ (gw am));have HP:=au (fun W (h:Below w1.heap.size w1 W)=>(af.o W h).ws.all _ (gw am));have HR:=au (fun W (h:Below w1.heap.size w1 W)=>hc W (ag.o W h) k am 3 _ rfl);clear hc J;rw[aE] at c1 HC;clear aE;generalize s.ws[k]=e at *
   have ab:=au (EC (e:=e));obtain⟨ei,ej,eh,ps,eA,ec⟩:=e;dsimp only at HR HE HP ab;obtain⟨m,hm⟩:∃ m,m=ps.length:=⟨_,rfl⟩;rw[<-hm] at HR HE ab;have ax:=au hm;clear hm;have a0:=HE.o;simp only[maxLen] at a0;have r3:=HR.o wr ak.o;by_cases jj:60<m
   ·have hg:(60:Int)<(m:Int):=by omega
    have HF:=au (M.o (by rw[rB];intro h;have:=(ab.o.1 h).1;omega));have HQ:=au (ag.o wr ak.o);clear I M ai ab;go_wp2;go_ret;exact aK HF.o HQ.o
   ·have hg:¬ (60:Int)<(m:Int):=by omega
    have ar:=au (uC jj);clear jj;go_wp2_with fail;clear hg r3 c1 c2 c3 c4 a0;go_loopw [4] (fun j wq=>∃ q:Nat,j=.int .i64 q/\q<=m/\(∀ x ∈ ps.take q,Ay x=true)/\Below w1.heap.size w1 wq) (fun j _=>m-(intOf j).toNat)
    case atStart=>exact⟨0,rfl,fy _,i7,ak.o⟩
    case round=>
     obtain⟨q,rfl,hq,ac,hb⟩:=hrel;have aw:=au ac;have aa:=au hb;clear ac hb;obtain⟨c1,c2,c3,c4⟩:=HC.o wr aa.o;have r3:=HR.o wr aa.o;by_cases aA:q<m
     ·have an:q<ps.length:=by rw[<-ax.o];exact aA
      have az:=au aA;have a7:(q:Int)<61:=by have:=ar.o;omega
      obtain⟨b2,o2,a1,aq⟩:=sI.at (R:=sF) (fun _=>rfl) eL (HP.o wr aa.o).row eL;have r4:=aq wr (fe _ _) q an 4 _ rfl;have K:=au (KF.o wr ps[q].p.C ps[q].A ps[q].c ((HP.o wr aa.o).all _ (gw an)));have ae:=au (fun h=>nk (p:=Ay) an aw.o h)
      have ad:=au (show Ay ps[q]=false->r=false from fun h=>M.o (by
       rw[rB];intro h2
       have:=(ab.o.1 h2).2 _ (gw an);rw[h] at this;cases this))
      clear aq;subst a1;generalize ps[q]=x at *
      obtain⟨⟨xk,xl,xr,xh,xC⟩,xA,xc⟩:=x;unfold Ay at ae ad;unfold dI Mz at K;dsimp only[dN,lL] at K ae ad r4;cases hf:BD ⟨[],[],[],0,0,0⟩ xC with
      | false=>
       rw[hf] at K;have HF:=au (ad.o (by exact hf));clear I M ai ab ae ad hf;go_wp2_with fail;refine K.o.mono ?_;rintro e9 w9 ⟨rfl,hw⟩;have HQ:=au (ag.o w9 (aa.o.trans (hw.mono aa.o.size)));clear K hw c1 c2 c3 c4 r3 r4;dsimp only;go_wp2;go_ret;exact aK HF.o HQ.o
      | true=>
       rw[hf] at K;have a3:=au (ae.o (by exact hf));clear I M ai ab ae ad hf;go_wp2_with fail;refine K.o.mono ?_;rintro e9 w9 ⟨rfl,hw⟩;have HQ:=au (aa.o.trans (hw.mono aa.o.size));clear K hw c1 c2 c3 c4 r3 r4;dsimp only;go_wp2_with fail
       go_roundw
       case rel=>exact⟨q+1,by go_num,az.o,a3.o,HQ.o⟩
       case measure=>have:=az.o;simp[intOf];omega
     ·obtain rfl:q=m:=by omega
      have HT:=au (ai.o (ab.o.2 ⟨ar.o,by have h:=aw.o;rw[ax.o,kz] at h;exact h⟩));clear I M ai ab;go_wp2_with fail
      go_roundw
      case rel=>exact⟨k+1,by go_num,aD.o,HT.o,aa.o⟩
      case measure=>have:=aD.o;simp[intOf];omega
  ·obtain rfl:k=n0:=by omega
   have HF:=au (J.o ⟨HK.o,by have h:=HL.o;rw[ao.o,kz] at h;exact h⟩);have HQ:=au (ag.o wr ak.o);clear I J HL;go_wp2;go_ret;exact aK HF.o HQ.o
open Go.ChangeShapes Go.WideShapes Go.ChangeAt Go.Deep Go.Shelf Go.Lib
section
variable{H:Type}{enc:TypeId × Value→H}{w:World}{base:Nat}
instance:Inhabited PL:=⟨⟨⟨0,0,0,0,[]⟩,none,0⟩⟩
instance:Inhabited WL:=⟨⟨0,0,0,[],none,0⟩⟩
theorem aaS:∀ m cs y,DataW.trod enc Tryz.prog w base (fun _=>true) true m 110 cs=some y->∃ p:Pt,cs=dA p/\True:=by
 intro m cs y h;obtain⟨hl,n,I⟩:=nD Tryz.underlying110 eQ eQ h;obtain⟨v0,z0,c0,t0⟩:=I 0 _ rfl;obtain⟨v1,z1,c1,t1⟩:=I 1 _ rfl;obtain⟨v2,z2,c2,t2⟩:=I 2 _ rfl;obtain⟨v3,z3,c3,t3⟩:=I 3 _ rfl;obtain⟨v4,z4,c4,t4⟩:=I 4 _ rfl;obtain⟨x0,M,-,-⟩:=nn Tryz.underlying3 t0;obtain⟨x1,f1,-,-⟩:=nn Tryz.underlying3 t1;obtain⟨x2,J,-⟩:=C0 Tryz.underlying9 t2;obtain⟨x3,f3,-⟩:=DataW.trod_bool Tryz.underlying4 t3;obtain⟨x4,f4,-,-⟩:=nn Tryz.underlying3 t4;injection M with M
 injection f1 with f1
 injection J with J
 injection f3 with f3
 injection f4 with f4
 subst M f1 J f3 f4;refine⟨⟨x0,x1,bl x2,x3,x4⟩,?_,trivial⟩;have hl:cs.length=5:=hl
 match cs,hl with
 | [a,b,c,d,e],_=>
  simp at c0 c1 c2 c3 c4;subst c0 c1 c2 c3 c4;unfold dA;rw[tJ]
variable{v:Value}
theorem Xq{m:Nat}{y:DataW H × List MemPlace}(h:DataW.trod enc Tryz.prog w 0 (fun _=>true) true m 56 [v]=some y):
  ∃ (A:eV) (c:Nat) (l:List Pt),v=.slice A l.length c/\zQ w A l:=by
 obtain⟨A,n,c,rfl⟩:=slice_form Tryz.underlying56 h;obtain⟨xs,I,J,h3,h4,h5⟩:=o8 (P:=Tryz.prog) (t:=56) (e:=110) (A:=A) (n:=n) (c:=c) (d:=y.1) (ps:=y.2) (size:=5) dA (fun _=>True) Tryz.underlying56 eQ eS aaS (fun R _ u M=>wC [R] u (by simpa using M)) ⟨m,by simpa[Value.cells] using h⟩;subst I;exact⟨A,c,xs,rfl,J⟩
theorem open_ints{m:Nat}{y:DataW H × List MemPlace}(h:DataW.trod enc Tryz.prog w 0 (fun _=>true) true m 39 [v]=some y):
  ∃ (A:eV) (c:Nat) (l:List Int),v=.slice A l.length c/\iJ w A l:=by
 obtain⟨A,n,c,rfl⟩:=slice_form Tryz.underlying39 h;obtain⟨xs,M,I,h3,h4,h5⟩:=o8 (P:=Tryz.prog) (t:=39) (e:=3) (A:=A) (n:=n) (c:=c) (d:=y.1) (ps:=y.2) (size:=1) (fun x:Int=>[Value.int .i64 x]) (fun _=>True) Tryz.underlying39 eQ eS
  (fun m cs y h=>by obtain⟨x0,f0,-,-⟩:=nn Tryz.underlying3 h;exact⟨x0,f0,trivial⟩) (fun x _ u J=>by simp at J;subst J;rfl) ⟨m,by simpa[Value.cells] using h⟩
 subst M;refine⟨A,c,xs,rfl,?_⟩;have e:∀ xs:List Int,xs.flatMap (fun x:Int=>[Value.int .i64 x])=xs.map (Value.int .i64):=fun xs=>by
  induction xs with
  | nil=>rfl
  | cons a l ih=>rw[mS,ih];rfl
 rw[e] at I;exact I
theorem aaT:∀ m cs y,DataW.trod enc Tryz.prog w 0 (fun _=>true) true m 58 cs=some y->∃ p:PL,cs=sF p/\zQ w p.A p.p.C:=by
 intro m cs y h;obtain⟨hl,n,I⟩:=nD Tryz.underlying58 eQ eQ h;obtain⟨v0,z0,c0,t0⟩:=I 0 _ rfl;obtain⟨v1,z1,c1,t1⟩:=I 1 _ rfl;obtain⟨v2,z2,c2,t2⟩:=I 2 _ rfl;obtain⟨v3,z3,c3,t3⟩:=I 3 _ rfl;obtain⟨v4,z4,c4,t4⟩:=I 4 _ rfl;obtain⟨x0,M,-,-⟩:=nn Tryz.underlying3 t0;obtain⟨x1,f1,-,-⟩:=nn Tryz.underlying3 t1;obtain⟨x2,J,-,-⟩:=nn Tryz.underlying3 t2;obtain⟨x3,f3,-,-⟩:=nn Tryz.underlying3 t3;obtain⟨A,c,l,f4,k4⟩:=Xq t4;injection M with M
 injection f1 with f1
 injection J with J
 injection f3 with f3
 subst M f1 J f3 f4;refine⟨⟨⟨x0,x1,x2,x3,l⟩,A,c⟩,?_,k4⟩;have hl:cs.length=5:=hl
 match cs,hl with
 | [a,b,c,d,e],_=>
  simp at c0 c1 c2 c3 c4;subst c0 c1 c2 c3 c4;rfl
theorem Xr{m:Nat}{y:DataW H × List MemPlace}(h:DataW.trod enc Tryz.prog w 0 (fun _=>true) true m 53 [v]=some y):
  ∃ (A:eV) (c:Nat) (l:List PL),v=.slice A l.length c/\Rj w A l/\l.length<=c/\c<=maxLen:=by
 obtain⟨A,n,c,rfl⟩:=slice_form Tryz.underlying53 h;obtain⟨xs,I,J,h3,h4,M⟩:=o8 (P:=Tryz.prog) (t:=53) (e:=58) (A:=A) (n:=n) (c:=c) (d:=y.1) (ps:=y.2) (size:=5) sF (fun p=>zQ w p.A p.p.C) Tryz.underlying53 eQ eS aaT (fun R _ u hu=>Et [R] u (by simpa using hu)) ⟨m,by simpa[Value.cells] using h⟩;subst I;exact⟨A,c,xs,rfl,⟨J,fun e he=>(h3 e he).1⟩,h4,M⟩
theorem aaU:∀ m cs y,DataW.trod enc Tryz.prog w 0 (fun _=>true) true m 55 cs=some y->∃ p:WL,cs=mQ p/\(Rj w p.A p.ps/\p.ps.length<=p.c/\p.c<=maxLen):=by
 intro m cs y h;obtain⟨hl,n,I⟩:=nD Tryz.underlying55 eQ eQ h;obtain⟨v0,z0,c0,t0⟩:=I 0 _ rfl;obtain⟨v1,z1,c1,t1⟩:=I 1 _ rfl;obtain⟨v2,z2,c2,t2⟩:=I 2 _ rfl;obtain⟨v3,z3,c3,t3⟩:=I 3 _ rfl;obtain⟨x0,M,-,-⟩:=nn Tryz.underlying3 t0;obtain⟨x1,f1,-,-⟩:=nn Tryz.underlying3 t1;obtain⟨x2,J,-,-⟩:=nn Tryz.underlying3 t2;obtain⟨A,c,l,f3,k3⟩:=Xr t3;injection M with M
 injection f1 with f1
 injection J with J
 subst M f1 J f3;refine⟨⟨x0,x1,x2,l,A,c⟩,?_,k3⟩;have hl:cs.length=4:=hl
 match cs,hl with
 | [a,b,c,d],_=>
  simp at c0 c1 c2 c3;subst c0 c1 c2 c3;rfl
theorem Xt{m:Nat}{y:DataW H × List MemPlace}(h:DataW.trod enc Tryz.prog w 0 (fun _=>true) true m 38 [v]=some y):
  ∃ (A:eV) (c:Nat) (l:List WL),v=.slice A l.length c/\B0 w A l/\(l.length<=maxLen/\∀ e ∈ l,e.ps.length<=maxLen/\e.ps.length<=e.c):=by
 obtain⟨A,n,c,rfl⟩:=slice_form Tryz.underlying38 h;obtain⟨xs,M,h2,J,h4,h5⟩:=o8 (P:=Tryz.prog) (t:=38) (e:=55) (A:=A) (n:=n) (c:=c) (d:=y.1) (ps:=y.2) (size:=4) mQ (fun p=>Rj w p.A p.ps/\p.ps.length<=p.c/\p.c<=maxLen) Tryz.underlying38 eQ eS aaU (fun R _ u hu=>Eu [R] u (by simpa using hu)) ⟨m,by simpa[Value.cells] using h⟩;subst M;exact⟨A,c,xs,rfl,⟨h2,fun e I=>(J e I).1.1⟩,by omega,fun e I=>⟨by have:=(J e I).1.2;omega,(J e I).1.2.1⟩⟩
theorem ae2{cs:List Value}(h:cs.length=5):∃ a b c d e,cs=[a,b,c,d,e]:=by
 match cs,h with
 | [a,b,c,d,e],_=>exact⟨a,b,c,d,e,rfl⟩
def Hj(w:World)(s:SL):Prop:=SR w s/\(s.ws.length<=maxLen/\∀ e ∈ s.ws,e.ps.length<=maxLen/\e.ps.length<=e.c)
theorem OB{r:Reach}{b0:Nat}{d:DataW H}{ps:List MemPlace}(ak:Value.okWide Tryz.prog w r b0 41 v)(h:DataW.Trod enc Tryz.prog w 0 (fun _=>true) true 41 v d ps):∃ z:SL,v=.agg (jh z)/\Hj w z:=by
 obtain⟨cs,rfl,am⟩:=okWide_struct Tryz.underlying41 ak;obtain⟨m,hm⟩:=h;obtain⟨xs,n,_,_,hl,ad,hf⟩:=Gk Tryz.underlying41 hm;have ag:=hl.trans (by kernel_rfl:_=5);obtain⟨a0,a1,a2,a3,a4,ha⟩:=ae2 ag;have al:xs.length=5:=ad;have ex:∀ i (hi:i<5),xs[i]?=some (xs[i]'eL):=fun i hi=>ic eL;have s3:Tryz.prog.cellsOf 3=1:=by kernel_rfl
 have af:Tryz.prog.cellsOf 38=1:=by kernel_rfl
 have ae:Tryz.prog.cellsOf 39=1:=by kernel_rfl
 have t0:=(hf 0 _ rfl).trans (ex 0 eL);have t1:=(hf 1 _ rfl).trans (ex 1 eL);have t2:=(hf 2 _ rfl).trans (ex 2 eL);have t3:=(hf 3 _ rfl).trans (ex 3 eL);have t4:=(hf 4 _ rfl).trans (ex 4 eL);rw[ha] at t0 t1 t2 t3 t4;have M:DataW.trod enc Tryz.prog w 0 (fun _=>true) true n 3 (([a0,a1,a2,a3,a4].drop 0).take (Tryz.prog.cellsOf 3))=some (xs[0]'eL):=t0;have J:DataW.trod enc Tryz.prog w 0 (fun _=>true) true n 38 (([a0,a1,a2,a3,a4].drop 1).take (Tryz.prog.cellsOf 38))=some (xs[1]'eL):=t1;have ab:DataW.trod enc Tryz.prog w 0 (fun _=>true) true n 39 (([a0,a1,a2,a3,a4].drop 2).take (Tryz.prog.cellsOf 39))=some (xs[2]'eL):=t2;have I:DataW.trod enc Tryz.prog w 0 (fun _=>true) true n 39 (([a0,a1,a2,a3,a4].drop 3).take (Tryz.prog.cellsOf 39))=some (xs[3]'eL):=t3;have aa:DataW.trod enc Tryz.prog w 0 (fun _=>true) true n 39 (([a0,a1,a2,a3,a4].drop 4).take (Tryz.prog.cellsOf 39))=some (xs[4]'eL):=t4;simp only[s3,af,ae,List.drop,List.take] at M J ab I aa;obtain⟨x0,f0,-,-⟩:=nn Tryz.underlying3 M;obtain⟨A,ac,ws,f1,k1,ai⟩:=Xt J;obtain⟨B,bc,U,f2,k2⟩:=open_ints ab;obtain⟨C,cc,V,f3,k3⟩:=open_ints I;obtain⟨D,dc,G,f4,k4⟩:=open_ints aa;injection f0 with f0
 subst f0 f1 f2 f3 f4;refine⟨⟨x0,ws,U,V,G,A,ac,⟨B,bc⟩,⟨C,cc⟩,⟨D,dc⟩⟩,?_,⟨⟨k1,k2,k3,k4⟩,ai⟩⟩;have:cs=(fj x0 A ws.length ac B U.length bc C V.length cc D G.length dc):=by
  apply Array.toList_inj.1;simpa[Value.cells] using ha
 rw[this];rfl
end
end Go.Proofs.YtbioiclabmbedaaGreatDoor
