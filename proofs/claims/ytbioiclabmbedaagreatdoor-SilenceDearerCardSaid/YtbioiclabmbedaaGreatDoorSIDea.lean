/- A part of the proof: lemmas. -/
import Derived.Test.YtbioiclabmbedaaGreatDoorSIZFD
set_option maxHeartbeats 16000000
set_option maxRecDepth 100000
set_option linter.all false
namespace Go.CH.dh
open Go.CH.Scr
section
variable {W:Wd} {C:List Pt} {s:St} {bound c:Int}
theorem Y2 {R R':ik} (h1:R'.k=R.k) (h2:R'.f=R.f) (h3:R'.t=R.t):W.mv s R'=(W.mv s R).map fun x=>(R'.c,x.2):=by
 have e2:W.used s R'=W.used s R:=by unfold Wd.used;rw[h1,h2]
 unfold Wd.mv;rw[e2,h3];split
 ·rfl
 ·rw[tt];rfl
theorem Hu {I:List ik} (h:Holds W bound C) (hr:∀ J ∈ I,∃ R ∈ W.rs,J.k=R.k/\J.f=R.f/\J.t=R.t/\R.c<=J.c):Holds { W with rs:=I } bound C:=by
 refine Ct h rfl rfl (fun s c' s' hx=>?_);obtain⟨J,aa,hm⟩:=kK hx;obtain⟨R,hR,h1,h2,h3,h4⟩:=hr J aa;rw[O7 (W:=W) (W':={ W with rs:=I }) rfl rfl rfl rfl,Y2 h1 h2 h3,B4] at hm;obtain⟨⟨c,s2⟩,M,he⟩:=hm;injection he with e1 e2
 have e2:s2=s':=e2;subst e2;refine⟨c,List.mem_filterMap.2 ⟨R,hR,M⟩,?_⟩;obtain⟨rfl,_⟩:=rE M;omega
end
section
variable {W:Wd} {C C':List Pt} {s s':St} {bound c:Int}
end
section
variable {T:eW} {a b:Int} {x y:Bs}
def tK (R:ik) (more:Int):ik:={ R with c:=min 1000 (R.c+more) }
theorem xw (h:bL T=true) (k:Nat) (M:k<T.rs.length) (more:Int) (hm:0<=more):bL { T with rs:=T.rs.set k (tK T.rs[k] more) }=true:=by
 obtain⟨⟨g1,g2,g3⟩,h1,h3⟩:=bW.1 h;obtain⟨k1,k2⟩:=iI.1 h1;have I:(T.rs.set k (tK T.rs[k] more)).map ko=T.rs.map ko:=by
  rw[vt];have:ko (tK T.rs[k] more)=(T.rs.map ko)[k]'(by rw[gh];exact M):=by rw[mA];rfl
  rw[this,N5]
 refine bW.2 ⟨⟨fun e=>?_,by show(T.rs.set k _).length<=80;rw[rq];exact g2,g3⟩,iI.2 ⟨by rw[I];exact k1,fun R J=>?_⟩,h3⟩
 ·have e:T.rs.set k (tK T.rs[k] more)=[]:=e;have:=congrArg List.length e;rw[rq,lA] at this;omega
 ·rcases Hj J with J|rfl
  ·exact k2 R J
  ·obtain⟨f1,f2,f3⟩:=lX.1 (k2 T.rs[k] (gv M));refine lX.2 ⟨f1,f2,?_⟩;have:=eu.1 f3;refine eu.2 ⟨?_,?_⟩
   ·show 0<=min 1000 (T.rs[k].c+more);omega
   ·show min 1000 (T.rs[k].c+more)<=1000;omega
variable {bound:Int}
theorem Hy  {C:List Pt} (h:jl T a x b y bound C) (k:Nat) (J:k<T.rs.length) (more:Int) (hm:0<=more):jl { T with rs:=T.rs.set k (tK T.rs[k] more) } a x b y bound C:=by
 obtain⟨h1,h3⟩:=h;obtain⟨e1,e2,M⟩:=fP.1 h1;refine⟨fP.2 ⟨e1,e2,xw M k J more hm⟩,Hu (W:=bO T a x b y) h3 (fun R I=>?_)⟩;rcases Hj I with I|rfl
 ·exact⟨R,I,rfl,rfl,rfl,ly _⟩
 ·refine⟨T.rs[k],gv J,rfl,rfl,rfl,?_⟩;have:=(eu.1 (lX.1 ((iI.1 (bW.1 M).2.1).2 T.rs[k] (gv J))).2.2)
  show T.rs[k].c<=min 1000 (T.rs[k].c+more)
  omega
end
end Go.CH.dh
namespace Go.CH.bA
section
variable {c c':Nat→Nat→Int} {d e:Nat→Int} {n m:Nat} {bd:Int}
end
end Go.CH.bA
namespace Go.CH.Sil
open Go.CH.Scr Go.CH.dh Go.CH.Mtc
section
variable {T:eW} {k k2:Int} {x y:Bs} {a b:aQ} {bd:Int}
end
end Go.CH.Sil
namespace Go.Proofs.YtbioiclabmbedaaGreatDoor
open Go.CH Go.CH.Scr Go.CH.dh Go.CH.Mtc Go.CH.Sil
open Asn (kB nZ oV mR cF lF wi pX lS qx oW bU bV bK nR)
section
variable {T:eW} {a b:aQ} {bd:Int} {s:Sl}
theorem NJ (h:fG T a b s) (k:Nat) (J:k<T.rs.length) (more:Int) (hm:0<=more):fG { T with rs:=T.rs.set k (tK T.rs[k] more) } a b s:=by
 obtain⟨hv,ha,hb⟩:=dW.1 h.ok;refine⟨dW.2 ⟨xw hv k J more hm,ha,hb⟩,h.b0,h.b1,h.len,fun q hq=>?_,h.fin⟩;have I:=h.ws q hq
 exact⟨I.ri,I.rj,I.rh,I.len,fun m g g'=>by
  obtain⟨k1,k2,k3,M⟩:=I.ps m g g'
  exact⟨k1,k2,k3,Hy M k J more hm⟩⟩
theorem Sn (h:fG T a b s) (more:Int) (hm:0<=more):fG { T with ord:=min 1000 (T.ord+more) } a b s:=by
 obtain⟨M,ha,hb⟩:=dW.1 h.ok;have ho:=eu.1 (bW.1 M).1.2.2.2.1;have J:bL { T with ord:=min 1000 (T.ord+more) }=true:=by
  obtain⟨⟨g1,g2,g3,g4,g5⟩,g6⟩:=bW.1 M;exact bW.2 ⟨⟨g1,g2,g3,eu.2 (by show 0<=min 1000 (T.ord+more)/\min 1000 (T.ord+more)<=1000;omega),g5⟩,g6⟩
 refine⟨dW.2 ⟨J,ha,hb⟩,h.b0,h.b1,h.len,fun q hq=>?_,?_⟩
 ·have I:=h.ws q hq
  exact⟨I.ri,I.rj,I.rh,I.len,fun m g g'=>by
   obtain⟨k1,k2,k3,k4,k5⟩:=I.ps m g g';obtain⟨j1,j2,-⟩:=fP.1 k4
   exact⟨k1,k2,k3,fP.2 ⟨j1,j2,J⟩,k5⟩⟩
 ·obtain⟨x,y,hx,hy,h1,h2⟩:=h.fin;refine⟨x,y,hx,hy,?_,h2⟩
  show s.b<=x+min 1000 (T.ord+more)
  omega
end
open Go.RowKit
open Go.ChangeMaps (setBlock)
variable {w:World}{F:Nat->Prop}{A:eV}{c n g i:Nat}{l:List ik}{v:Value}{T:eW}
theorem aa9      (h:OG A c l w F) (hn:l.length=n) (h0:0<n):∃ g,A=some ⟨g,0,none⟩:=by
 rcases h.1.2 with⟨-,e1⟩|⟨g',cap,cur,e1,-⟩
 ·omega
 ·injection e1 with e2
  exact⟨g',e2⟩
theorem abb      (h:OG (some ⟨g,0,none⟩) c l w F) (I:(l.flatMap gV)[i]?=some v):w.cell? ⟨g,i,none⟩=some v/\w.frozen? ⟨g,i,none⟩=false:=by
 rcases h.1.2 with⟨J,-⟩|⟨g',cap,cur,J,-,M,-,-,-,ht⟩
 ·cases J
 ·injection J with e2 e3 e4
  injection e2 with e2;injection e2 with e2
  subst e2;rw[<-ht,Cs] at I;split at I
  ·rw[tP] at I;simp only[World.cell?,World.frozen?,M];exact⟨by rw[I];rfl,by simp⟩
  ·cases I
theorem DU (l:List ik) (k:Nat) (hk:k<l.length) (v:Int):(l.flatMap gV).set (k*4+3) (.int .i64 v)=(l.set k { l[k] with c:=v }).flatMap gV:=by
 apply vl;intro t;have I:∀ l:List ik,(l.flatMap gV).length=l.length*4:=fun l=>CH.kQ (R:=gV) (size:=4) (fun _=>rfl) l;by_cases ht:t<l.length*4
 ·have h1:t / 4<l.length:=by omega
  have h2:t % 4<4:=by omega
  have h3:t / 4*4+t % 4=t:=by omega
  have M:=jM (R:=gV) (size:=4) (fun _=>rfl) (l:=l) h1 h2;have e2:=jM (R:=gV) (size:=4) (fun _=>rfl) (l:=l.set k { l[k] with c:=v }) (j:=t / 4) (by rw[rq];exact h1) h2;rw[h3] at M e2;rw[e2,List.getElem?_set,I];by_cases J:k=t / 4
  ·subst J;rw[List.getElem_set_self];by_cases h4:t % 4=3
   ·rw[if_pos eL,if_pos eL,h4];rfl
   ·rw[if_neg eL,M];have:t % 4=0\/t % 4=1\/t % 4=2:=by omega
    rcases this with h|h|h<;>rw[h]<;>rfl
  ·rw[if_neg eL,M,List.getElem_set_ne J]
 ·rw[pN (by rw[rq,I];omega),pN (by rw[I,rq];omega)]
theorem Em   {a:TA} (hT:wC w T a) (hz:LZ w) {x:Ev} (hx:fB w x.A x.n.ws) {y:Ev} (hy:fB w y.A y.n.ws) {s:SL} (hs:SR w s) (ci:s.ws.length<=maxLen/\∀ e ∈ s.ws,e.ps.length<=maxLen/\e.ps.length<=e.c) (raw:Nat) (cI:raw<256) (more:Nat) (cz:more<65536) (cH:T.rs.length<=a.c) :
  Calls Tryz.prog 5 #[dV T a,Bg x,Bg y,.agg (jh s),.int .u8 (raw:Nat),.int .u16 (more:Nat)] w (aS w (.bool true)):=by
 have h1:=aH (aI.begin w) aO (fN a.A T.rs.length a.c a.D T.ds.length a.d a.E T.es.length a.e T.drop T.ord T.ini) 25;have h2:=aH h1 aO (fh x.n.k x.A x.n.ws.length x.c) 28;have h3:=aH h2 aO (fh y.n.k y.A y.n.ws.length y.c) 28;have h4:=aH h3 aO (ie s.b s.A s.ws.length s.c s.u.A s.U.length s.u.c s.v.A s.V.length s.v.c s.g.A s.G.length s.g.c) 41;simp only[im] at h4;have co:=au h4.cZ;obtain⟨I,ai,ad,am,ak,ab⟩:=fu h4.drop.drop.drop;obtain⟨af,ag,-⟩:=bY h4.drop.drop;obtain⟨ae,M,-⟩:=bY h4.drop;obtain⟨aa,an,ac,J,al,-⟩:=gu h4;have HC:=au (fun W (h:Below ((((w.alloc (.cells (fN a.A T.rs.length a.c a.D T.ds.length a.d a.E T.es.length a.e T.drop T.ord T.ini) 25)).alloc (.cells (fh x.n.k x.A x.n.ws.length x.c) 28)).alloc (.cells (fh y.n.k y.A y.n.ws.length y.c) 28)).alloc (.cells (ie s.b s.A s.ws.length s.c s.u.A s.U.length s.u.c s.v.A s.V.length s.v.c s.g.A s.G.length s.g.c) 41)).heap.size ((((w.alloc (.cells (fN a.A T.rs.length a.c a.D T.ds.length a.d a.E T.es.length a.e T.drop T.ord T.ini) 25)).alloc (.cells (fh x.n.k x.A x.n.ws.length x.c) 28)).alloc (.cells (fh y.n.k y.A y.n.ws.length y.c) 28)).alloc (.cells (ie s.b s.A s.ws.length s.c s.u.A s.U.length s.u.c s.v.A s.V.length s.v.c s.g.A s.G.length s.g.c) 41)) W)=>(show W.cell? ⟨w.heap.size,0,none⟩=some (.slice a.A T.rs.length a.c)/\W.cell? ⟨w.heap.size,1,none⟩=some (.slice a.D T.ds.length a.d)/\W.cell? ⟨w.heap.size,2,none⟩=some (.slice a.E T.es.length a.e)/\W.cell? ⟨w.heap.size,3,none⟩=some (.int .i64 T.drop)/\W.cell? ⟨w.heap.size,4,none⟩=some (.int .i64 T.ord)/\W.cell? ⟨w.heap.size,5,none⟩=some (.int .i64 T.ini)/\W.cell? ⟨w.heap.size+1,0,none⟩=some (.int .i64 x.n.k)/\W.cell? ⟨w.heap.size+1,1,none⟩=some (.slice x.A x.n.ws.length x.c)/\W.cell? ⟨w.heap.size+1+1,0,none⟩=some (.int .i64 y.n.k)/\W.cell? ⟨w.heap.size+1+1,1,none⟩=some (.slice y.A y.n.ws.length y.c)/\(o6 W (w.heap.size+1+1+1) (.int .i64 s.b) (.slice s.A s.ws.length s.c) (.slice s.u.A s.U.length s.u.c) (.slice s.v.A s.V.length s.v.c) (.slice s.g.A s.G.length s.g.c)) from⟨aG I h,aG ai h,aG ad h,aG am h,aG ak h,aG ab h,aG af h,aG ag h,aG ae h,aG M h,aG aa h,aG an h,aG ac h,aG J h,aG al h⟩));have bv:=au hT;have HZ:=au hz;have be:=au hx;have bf:=au hy;have bh:=au hs;have b0:=au ci;clear hT hz hx hy hs ci h1 h2 h3 h4 I ai ad am ak ab af ag ae M aa an ac J al;have KF:=au (fun W (hb:Below w.heap.size w W)=>ru (ca:=x.c) (cb:=y.c) (bv.o.below hb) (fB.below be.o hb) (fB.below bf.o hb));have KC:=au (fun (hf:rU T x.n y.n=true) W (hb:Below w.heap.size w W) (s:SL) (hs:SR W s) (hz:XZ s)=>iH (ca:=x.c) (cb:=y.c) ((aU hf).1 (bv.o.below hb)) (HZ.o.below hb) (fB.below be.o hb) (fB.below bf.o hb) (by have:=(aU hf).2.2.1.1;omega) (by have:=(aU hf).2.2.1.2;omega) (aU hf).2.2.2.1 (aU hf).2.2.2.2 hs hz);have KH:=au (fun W (hb:Below w.heap.size w W)=>uN W (HZ.o.below hb));unfold dV Bg at *
 try unfold vI at *
 try unfold jh at *
 unfold dR at *
 generalize b2:T.rs.length=n1 at *
 generalize cg:T.ds.length=n2 at *
 generalize ct:T.es.length=n3 at *
 have a5:=au b2;have cj:=au cg;have cr:=au ct;clear b2 cg ct;generalize b6:x.n.ws.length=nx at *
 have cw:=au b6;clear b6;generalize b7:y.n.ws.length=ny at *
 have ch:=au b7;clear b7
 go_enter Tryz.func5,Tryz.ntmps5
 go_upto_region 1 with (fail);generalize (((w.alloc (.cells (fN a.A n1 a.c a.D n2 a.d a.E n3 a.e T.drop T.ord T.ini) 25)).alloc (.cells (fh x.n.k x.A nx x.c) 28)).alloc (.cells (fh y.n.k y.A ny y.c) 28)).alloc (.cells (ie s.b s.A s.ws.length s.c s.u.A s.U.length s.u.c s.v.A s.V.length s.v.c s.g.A s.G.length s.g.c) 41)=w0 at *
 generalize ju:w.heap.size=gt at HC ⊢;clear ju;have ar:=au (fun W (h:Below w0.heap.size w0 W)=>co.o.trans (h.mono co.o.size));have bp:=au (fe w0.heap.size w0);have K:=au (KH.o w0 (ar.o _ bp.o));go_wp2_with fail;refine K.o.mono ?_;rintro e9 w1 ⟨rfl,hb⟩;have a1:=au (aF bp.o hb);clear K bp hb
 try dsimp only
 have K:=au (KF.o w1 (ar.o _ a1.o));cases hf:rU T x.n y.n with
 | false=>
  rw[hf] at K;have HF:=au hf;clear hf;obtain⟨I,ai,ad,am,ak,ab,af,ag,ae,M,aa,an,ac,J,al⟩:=HC.o w1 a1.o;go_wp2_with fail;refine K.o.mono ?_;rintro e9 w2 ⟨rfl,hb⟩;have az:=au (aF a1.o hb);clear K hb a1;clear I ai ad am ak ab af ag ae M aa an ac J al
  try dsimp only
  obtain⟨I,ai,ad,am,ak,ab,af,ag,ae,M,aa,an,ac,J,al⟩:=HC.o w2 az.o;have HE:=au (ar.o _ az.o);go_wp2;go_ret;exact aK rfl HE.o
 | true=>
  rw[hf] at K;have HF:=au hf;clear hf;obtain⟨I,ai,ad,am,ak,ab,af,ag,ae,M,aa,an,ac,J,al⟩:=HC.o w1 a1.o;go_wp2_with fail;refine K.o.mono ?_;rintro e9 w2 ⟨rfl,hb⟩;have az:=au (aF a1.o hb);clear K hb a1;clear I ai ad am ak ab af ag ae M aa an ac J al
  try dsimp only
  have K:=au (GN (bh.o.below (ar.o w2 az.o)) b0.o.1 (fun e he=>(b0.o.2 e he).1));unfold jh at K;cases a2:bS s with
  | false=>
   rw[a2] at K;have ck:=au a2;clear a2;obtain⟨I,ai,ad,am,ak,ab,af,ag,ae,M,aa,an,ac,J,al⟩:=HC.o w2 az.o;go_wp2_with fail;refine K.o.mono ?_;rintro e9 w3 ⟨rfl,hb⟩;have ax:=au (aF az.o hb);clear K hb az;clear I ai ad am ak ab af ag ae M aa an ac J al
   try dsimp only
   obtain⟨I,ai,ad,am,ak,ab,af,ag,ae,M,aa,an,ac,J,al⟩:=HC.o w3 ax.o;have HE:=au (ar.o _ ax.o);go_wp2;go_ret;exact aK rfl HE.o
  | true=>
   rw[a2] at K;have ck:=au a2;clear a2;obtain⟨I,ai,ad,am,ak,ab,af,ag,ae,M,aa,an,ac,J,al⟩:=HC.o w2 az.o;go_wp2_with fail;refine K.o.mono ?_;rintro e9 w3 ⟨rfl,hb⟩;have ax:=au (aF az.o hb);clear K hb az;clear I ai ad am ak ab af ag ae M aa an ac J al
   try dsimp only
   have bw:=au (MF ck.o (fun e he=>(b0.o.2 e he).2));by_cases hr:n1=0
   ·have cm:((n1:Int)==0)=true:=by simp[hr]
    skip
    obtain⟨I,ai,ad,am,ak,ab,af,ag,ae,M,aa,an,ac,J,al⟩:=HC.o w3 ax.o;have HE:=au (ar.o _ ax.o);go_wp2;go_ret;exact aK rfl HE.o
   ·have cm:((n1:Int)==0)=false:=by simp;omega
    have hr:=au hr;have K:=au (KC.o HF.o w3 (ar.o _ ax.o) s (bh.o.below (ar.o _ ax.o)) bw.o);unfold jh at K;obtain⟨I,ai,ad,am,ak,ab,af,ag,ae,M,aa,an,ac,J,al⟩:=HC.o w3 ax.o;go_wp2_with fail;refine K.o.mono ?_;rintro e9 w4 ⟨bz,rfl,hiff,hb⟩;have bi:=au (aF ax.o hb);have HI:=au hiff;clear K hb hiff ax;clear I ai ad am ak ab af ag ae M aa an ac J al
    try dsimp only
    cases bz with
    | false=>
     obtain⟨I,ai,ad,am,ak,ab,af,ag,ae,M,aa,an,ac,J,al⟩:=HC.o w4 bi.o;have HE:=au (ar.o _ bi.o);go_wp2;go_ret;exact aK rfl HE.o
    | true=>
     have bn:=au (HI.o.1 rfl);clear HI;have bm:=au (fun W (h:Below w0.heap.size w0 W)=>bv.o.below (ar.o W h));have cP:=au (show 0<n1 from by have:=hr.o;omega);clear hr cm;have a6:=au (show n1<=60 from by rw[<-a5.o];exact(aU HF.o).2.1.1);have h4:=aH (aI.begin w4) aN (fN a.A n1 a.c a.D n2 a.d a.E n3 a.e T.drop T.ord T.ini) 25;have H4:=au h4;have a8:=au bi.o;clear h4;obtain⟨I,ai,ad,am,ak,ab,af,ag,ae,M,aa,an,ac,J,al⟩:=HC.o w4 bi.o;go_upto_region 5 with (fail);clear I ai ad am ak ab af ag ae M aa an ac J al;generalize w4.alloc (.cells (fN a.A n1 a.c a.D n2 a.d a.E n3 a.e T.drop T.ord T.ini) 25)=v4 at *
     generalize w4.heap.size=a0 at H4 ⊢;have cN:=au (aF a8.o H4.o.cZ);have H6:=au (show aI eR w4 (aj (OG (some ⟨v4.heap.size,0,none⟩) 0 []) (aj (av a0 (fN a.A n1 a.c a.D n2 a.d a.E n3 a.e T.drop T.ord T.ini) 25) bG)) _ from H4.o.fresh aO (Dz v4 50 4));have bu:=au (aF a8.o H6.o.cZ);obtain⟨I,ai,ad,am,ak,ab,af,ag,ae,M,aa,an,ac,J,al⟩:=HC.o _ bu.o;clear ai ad am ak ab af ag ae M aa an ac J al;have a2:=a6.o;go_wp2_with (at_builtin;refine held ?_);have cq:=(bm.o _ bu.o).rs;refine lB.mk (wpList_plain rfl fun K hK=>Aj (.tmp 43) (.tmp 45) rfl (n:=0) (m:=n1) (l:=[]) (r:=T.rs) rfl a5.o rfl rfl (by have:=a6.o;omega) aO cq H6.o fun A9 c9 v7 bc=>hK _ _ ?_);rw[l4] at bc;obtain⟨f7,br⟩:=bc.drop.fst;have q0:=ay (v:=.slice a.A n1 a.c) (i:=0) br rfl;have qf:=aM br 0;have h8:aI eR w4 (aj (av a0 (fN A9 n1 c9 a.D n2 a.d a.E n3 a.e T.drop T.ord T.ini) 25) (aj (OG A9 c9 T.rs) bG)) _:=aJ bc.kN aO 0 (.slice A9 n1 c9);have H8:=au h8;clear bc br h8 H6 bu cq I;go_upto_region 6 with (fail);generalize v7.setCell ⟨a0,0,none⟩ (.slice A9 n1 c9)=v8 at *
     clear q0 qf;have cA:=au (aF a8.o H8.o.cZ);obtain⟨kk,bx⟩:∃ kk:Nat,kk=raw % (n1+1):=⟨_,rfl⟩;have cQ:kk<n1+1:=by rw[bx];exact sn _ eL
     have b8:(raw:Int) % ((n1:Int)+1)=(kk:Int):=by rw[bx];simp
     have cy:((n1:Int)+1==0)=false:=by simp;omega
     have ce:¬ (n1:Int)+1=0:=by omega
     obtain⟨I,ai,ad,am,ak,ab,af,ag,ae,M,aa,an,ac,J,al⟩:=HC.o v8 cA.o;clear ai ad am ak ab af ag ae M aa an ac J al;go_upto_region 7 with (fail);rw[b8];clear b8 bx cy ce;have b9:=au bn.o.ok;by_cases cx:kk<n1
     ·have cG:(kk:Int)<(n1:Int):=by omega
      go_upto_region 8 with (fail);clear I;obtain⟨F9,cp⟩:=H8.o.drop.fst;obtain⟨g9,rfl⟩:=aa9 cp a5.o eL;have ba:kk<T.rs.length:=by rw[a5.o];exact cx
      obtain⟨cc,b1⟩:∃ cc,cc=T.rs[kk].c:=⟨_,rfl⟩;have cD:0<=cc/\cc<=1000:=by
       have hv:=(dW.1 b9.o).1;have h:=(iI.1 (bW.1 hv).2.1).2 T.rs[kk] (gv ba);rw[b1];exact eu.1 (lX.1 h).2.2
      have cv:=au b1;clear b1 cp;have b5:(aj (av a0 (fN (some ⟨g9,0,none⟩) n1 c9 a.D n2 a.d a.E n3 a.e T.drop T.ord T.ini) 25) (aj (OG (some ⟨g9,0,none⟩) c9 T.rs) bG)).Ok:=aB aC aO;have H9:=au (H8.o.drew b5);have b4:(T.rs.flatMap gV)[kk*4+3]?=some (.int .i64 cc):=by rw[jM (R:=gV) (size:=4) (fun _=>rfl) ba eL,cv.o];rfl
      obtain⟨fa,b3⟩:=H9.o.fst;obtain⟨fb,cf⟩:=H9.o.drop.fst;obtain⟨u0,u1⟩:=abb cf b4;have bb:(fun W:World=>W.cell? ⟨a0,0,none⟩=some (.slice (some ⟨g9,0,none⟩) n1 c9)/\W.cell? ⟨g9,kk*4+3,none⟩=some (.int .i64 cc)) _:=⟨ay b3 rfl,u0⟩;have bo:=au bb;have tw:IntKind.i64.wrap (cc+(more:Int))=cc+(more:Int):=kp _ eL;obtain⟨fc,cn,-,bk⟩:=H9.o.kN.take X9 aO;have aE:=bk _ _ (vB cn (i:=kk*4+3) eL (.int .i64 (min 1000 (cc+(more:Int)))));have bj:aV 50 4 (.slice (some ⟨g9,0,none⟩) T.rs.length c9) T.rs.length ((T.rs.flatMap gV).set (kk*4+3) (.int .i64 (min 1000 (cc+(more:Int)))))=OG (some ⟨g9,0,none⟩) c9 (T.rs.set kk (tK T.rs[kk] more)):=by
       unfold OG;rw[DU _ _ ba,rq,cv.o];rfl
      rw[bj] at aE;have a3:=au aE;have aw:=au (aF a8.o aE.cZ);clear b5 b3 cf cn bk aE bj b4 bb H8 H9 u0;refine dZ (fun W:World=>W.cell? ⟨a0,0,none⟩=some (.slice (some ⟨g9,0,none⟩) n1 c9)/\W.cell? ⟨g9,kk*4+3,none⟩=some (.int .i64 cc)) rfl eQ eQ bo.o ?_;have bb:=bo.o;clear bo;generalize v8.drew=v9 at *
      obtain⟨u0,u2⟩:=bb
      (repeat(first|refine bM ?_|refine bN ?_))
      refine jf rfl fY (fun K hK=>?_);go_wp2_with fail;refine hK.o _ _ ?_;clear hK u0 u1 u2 tw;generalize v9.setCell ⟨g9,kk*4+3,none⟩ (.int .i64 (min 1000 (cc+(more:Int))))=a4 at *
      obtain⟨f1,ap⟩:=a3.o.kN.fst;obtain⟨f2,a9⟩:=a3.o.fst;have q0:=ay (v:=.slice (some ⟨g9,0,none⟩) n1 c9) (i:=0) ap rfl;have q1:=ay (v:=.slice a.D n2 a.d) (i:=1) ap rfl;have q2:=ay (v:=.slice a.E n3 a.e) (i:=2) ap rfl;have q3:=ay (v:=.int .i64 T.drop) (i:=3) ap rfl;have q4:=ay (v:=.int .i64 T.ord) (i:=4) ap rfl;have q5:=ay (v:=.int .i64 T.ini) (i:=5) ap rfl;have aA:(T.rs.set kk (tK T.rs[kk] more)).length=n1:=by rw[rq,a5.o]
      have ao:=(aU HF.o).1 (bm.o a4 aw.o);have cd:∀ R ∈ T.rs.set kk (tK T.rs[kk] more),R.f.length<=1000000/\R.t.length<=1000000:=fun R hR=>by
       rcases Hj hR with hR|rfl
       ·exact ao.sr R hR
       ·exact ao.sr T.rs[kk] (gv ba)
      have aD:kr a4 { T with rs:=T.rs.set kk (tK T.rs[kk] more) } ⟨some ⟨g9,0,none⟩,c9,a.D,a.d,a.E,a.e⟩:={ rs:=Ya a9,ds:=ao.ds,es:=ao.es,lr:=by show(T.rs.set kk (tK T.rs[kk] more)).length<=_;have:=a6.o;omega,ld:=ao.ld,le:=ao.le,sr:=cd,sd:=ao.sd,se:=ao.se };clear ap a9 cd;obtain⟨I,ai,ad,am,ak,ab,af,ag,ae,M,aa,an,ac,J,al⟩:=HC.o a4 aw.o;clear I ai ad am ak ab;have aq:=ar.o _ aw.o;have K:=iH (ca:=x.c) (cb:=y.c) aD (HZ.o.below aq) (fB.below be.o aq) (fB.below bf.o aq) (by have:=(aU HF.o).2.2.1.1;omega) (by have:=(aU HF.o).2.2.1.2;omega) (aU HF.o).2.2.2.1 (aU HF.o).2.2.2.2 (bh.o.below aq) bw.o;unfold dV vI jh dR at K;dsimp only at K;rw[aA,cj.o,cr.o,cw.o,ch.o] at K;have a7:=au K;clear K aD ao aA aq;go_wp2_with fail;refine a7.o.mono ?_;rintro e9 cE ⟨bz,rfl,hiff,hb⟩;obtain rfl:bz=true:=hiff.2 (NJ bn.o kk ba more eL);have HE:=au (ar.o _ (aF aw.o hb));clear a7 hiff hb q0 q1 q2 q3 q4 q5 a3 af ag ae M aa an ac J al
      try dsimp only
      go_wp2;go_ret;exact aK rfl HE.o
     ·have cG:¬ (kk:Int)<(n1:Int):=by omega
      have cJ:0<=T.ord/\T.ord<=1000:=eu.1 (bW.1 (dW.1 b9.o).1).1.2.2.2.1;obtain⟨f1,ap⟩:=H8.o.fst;have z0:=ay (v:=.int .i64 T.ord) (i:=4) ap rfl;have zf:=aM ap 4;clear ap;have aE:aI eR w4 (aj (av a0 (fN A9 n1 c9 a.D n2 a.d a.E n3 a.e T.drop (min 1000 (T.ord+(more:Int))) T.ini) 25) (aj (OG A9 c9 T.rs) bG)) _:=aJ H8.o aO 4 (.int .i64 (min 1000 (T.ord+(more:Int))));have a3:=au aE;have aw:=au (aF a8.o aE.cZ);clear aE;go_upto_region 10 with (fail);generalize v8.setCell ⟨a0,4,none⟩ (.int .i64 (min 1000 (T.ord+(more:Int))))=a4 at *
      clear z0 zf I;obtain⟨f1,ap⟩:=a3.o.fst;obtain⟨f2,a9⟩:=a3.o.drop.fst;have q0:=ay (v:=.slice A9 n1 c9) (i:=0) ap rfl;have q1:=ay (v:=.slice a.D n2 a.d) (i:=1) ap rfl;have q2:=ay (v:=.slice a.E n3 a.e) (i:=2) ap rfl;have q3:=ay (v:=.int .i64 T.drop) (i:=3) ap rfl;have q4:=ay (v:=.int .i64 (min 1000 (T.ord+(more:Int)))) (i:=4) ap rfl;have q5:=ay (v:=.int .i64 T.ini) (i:=5) ap rfl;have aA:T.rs.length=n1:=a5.o;have ao:=(aU HF.o).1 (bm.o a4 aw.o);have aD:kr a4 { T with ord:=min 1000 (T.ord+(more:Int)) } ⟨A9,c9,a.D,a.d,a.E,a.e⟩:={ rs:=Ya a9,ds:=ao.ds,es:=ao.es,lr:=ao.lr,ld:=ao.ld,le:=ao.le,sr:=ao.sr,sd:=ao.sd,se:=ao.se };clear ap a9;obtain⟨I,ai,ad,am,ak,ab,af,ag,ae,M,aa,an,ac,J,al⟩:=HC.o a4 aw.o;clear I ai ad am ak ab;have aq:=ar.o _ aw.o;have K:=iH (ca:=x.c) (cb:=y.c) aD (HZ.o.below aq) (fB.below be.o aq) (fB.below bf.o aq) (by have:=(aU HF.o).2.2.1.1;omega) (by have:=(aU HF.o).2.2.1.2;omega) (aU HF.o).2.2.2.1 (aU HF.o).2.2.2.2 (bh.o.below aq) bw.o;unfold dV vI jh dR at K;dsimp only at K;rw[aA,cj.o,cr.o,cw.o,ch.o] at K;have a7:=au K;clear K aD ao aA aq;go_wp2_with fail;refine a7.o.mono ?_;rintro e9 cE ⟨bz,rfl,hiff,hb⟩;obtain rfl:bz=true:=hiff.2 (Sn bn.o more eL);have HE:=au (ar.o _ (aF aw.o hb));clear a7 hiff hb q0 q1 q2 q3 q4 q5 a3 af ag ae M aa an ac J al
      try dsimp only
      go_wp2;go_ret;exact aK rfl HE.o
end Go.Proofs.YtbioiclabmbedaaGreatDoor
