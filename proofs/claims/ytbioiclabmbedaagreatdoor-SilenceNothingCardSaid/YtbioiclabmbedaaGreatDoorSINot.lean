/- A part of the proof: lemmas. -/
import Derived.Test.YtbioiclabmbedaaGreatDoorSI10
set_option maxHeartbeats 16000000
set_option maxRecDepth 100000
set_option linter.all false
namespace Go.CH.bA
section
variable {c c':Nat→Nat→Int} {d e:Nat→Int} {n m:Nat} {bd:Int}
end
end Go.CH.bA
namespace Go.CH.Sil
open Go.CH.Scr Go.CH.dh Go.CH.Mtc
section
variable {T:eW} {k k2:Int} {x y:Bs} {a b:aQ} {bd:Int}
end
end Go.CH.Sil
namespace Go.Proofs.YtbioiclabmbedaaGreatDoor
open Go.CH Go.CH.Scr Go.CH.dh Go.CH.Mtc Go.CH.Sil
open Asn (kB nZ oV mR cF lF wi pX lS qx oW bU bV bK nR)
section
variable {T:eW} {a b:aQ} {bd:Int} {s:Sl}
theorem K7 {f:Int} (h:iJ T a b 0 s f) (h0:f=0):fG T a b s/\∀ k (hk:k<s.ws.length),s.ws[k].h=0/\∀ q (hq:q<s.ws[k].ps.length),s.ws[k].ps[q].h=0/\s.ws[k].ps[q].C=[]:=by
 obtain⟨-,hc,hw⟩:=yh h h0;obtain⟨hv,ha,hb⟩:=dW.1 hc.ok;refine⟨hc,fun k hk=>?_⟩;have hz:=hw k hk;have hl:=hc.len;have hm:0<b.ws.length:=(aZ.1 hb).2.1;have hi:k / b.ws.length<a.ws.length:=xt (by rw[oc];omega);have hj:k % b.ws.length<b.ws.length:=sn _ hm;constructor
 ·have:=wG (a:=a) (b:=b) hv (k / b.ws.length) (k % b.ws.length);rw[hz.rh,FY hc.ok eS hi hj];omega
 ·intro q hq;have M:q<(eU T a.k (wd a (k / b.ws.length)) b.k (wd b (k % b.ws.length))).length:=by rw[<-hz.len];exact hq
  obtain⟨-,-,-,hh,e,I⟩:=hz.ps q M hq;obtain⟨-,w0,-⟩:=yg hv (jq ha hi) (jq hb hj) (gv M);have J:s.ws[k].ps[q].h=0:=by
   rw[hh];unfold pz;split
   ·rename_i d hd;have:=(oq hd).1;omega
   ·rfl
  refine⟨J,?_⟩;rw[J] at I;generalize s.ws[k].ps[q].C=C at I;cases I with
  | arg=>rfl
  | none=>rfl
  | some _ _ _ _ _ g=>
   have e1:max 0 (0-(eU T a.k (wd a (k / b.ws.length)) b.k (wd b (k % b.ws.length)))[q].c)=0:=by omega
   rw[e1] at g;exact Fb g
end
open Go.RowKit
open Go.ChangeMaps (setBlock)
variable {T:eW}{w:World}
theorem aem  {a b:aQ} {s:Sl} {e:Int} (h:iJ T a b 0 s e):e=1\/e=0:=by
 cases h with
 | arg=>exact .inl rfl
 | none g1 g2 g3 g4=>have:=(Iz (.some g1)).1;omega
 | some=>exact .inr rfl
theorem Br   {a:TA} (hT:wC w T a) (hz:LZ w) {x:Ev} (hx:fB w x.A x.n.ws) {y:Ev} (hy:fB w y.A y.n.ws) :
  Calls Tryz.prog 7 #[dV T a,Bg x,Bg y] w (aS w (.bool true)):=by
 have h1:=aH (aI.begin w) aO (fN a.A T.rs.length a.c a.D T.ds.length a.d a.E T.es.length a.e T.drop T.ord T.ini) 25;have h2:=aH h1 aO (fh x.n.k x.A x.n.ws.length x.c) 28;have h3:=aH h2 aO (fh y.n.k y.A y.n.ws.length y.c) 28;simp only[im] at h3;have bm:=au h3.cZ;obtain⟨aa,ae,M,ag,af,J⟩:=fu h3.drop.drop;obtain⟨ac,ad,-⟩:=bY h3.drop;obtain⟨ab,I,-⟩:=bY h3;have HC:=au (fun W (h:Below (((w.alloc (.cells (fN a.A T.rs.length a.c a.D T.ds.length a.d a.E T.es.length a.e T.drop T.ord T.ini) 25)).alloc (.cells (fh x.n.k x.A x.n.ws.length x.c) 28)).alloc (.cells (fh y.n.k y.A y.n.ws.length y.c) 28)).heap.size (((w.alloc (.cells (fN a.A T.rs.length a.c a.D T.ds.length a.d a.E T.es.length a.e T.drop T.ord T.ini) 25)).alloc (.cells (fh x.n.k x.A x.n.ws.length x.c) 28)).alloc (.cells (fh y.n.k y.A y.n.ws.length y.c) 28)) W)=>(show W.cell? ⟨w.heap.size,0,none⟩=some (.slice a.A T.rs.length a.c)/\W.cell? ⟨w.heap.size,1,none⟩=some (.slice a.D T.ds.length a.d)/\W.cell? ⟨w.heap.size,2,none⟩=some (.slice a.E T.es.length a.e)/\W.cell? ⟨w.heap.size,3,none⟩=some (.int .i64 T.drop)/\W.cell? ⟨w.heap.size,4,none⟩=some (.int .i64 T.ord)/\W.cell? ⟨w.heap.size,5,none⟩=some (.int .i64 T.ini)/\W.cell? ⟨w.heap.size+1,0,none⟩=some (.int .i64 x.n.k)/\W.cell? ⟨w.heap.size+1,1,none⟩=some (.slice x.A x.n.ws.length x.c)/\(my W (w.heap.size+1+1) (.int .i64 y.n.k) (.slice y.A y.n.ws.length y.c)) from⟨aG aa h,aG ae h,aG M h,aG ag h,aG af h,aG J h,aG ac h,aG ad h,aG ab h,aG I h⟩));have a1:=au hT;have HZ:=au hz;have aA:=au hx;have aD:=au hy;clear hT hz hx hy  h1 h2 h3 aa ae M ag af J ac ad ab I;have KF:=au (fun W (hb:Below w.heap.size w W)=>ru (ca:=x.c) (cb:=y.c) (a1.o.below hb) (fB.below aA.o hb) (fB.below aD.o hb));have KM:=au (fun (hf:rU T x.n y.n=true) W (hb:Below w.heap.size w W) (bd:Int)=>pq (ca:=x.c) (cb:=y.c) ((aU hf).1 (a1.o.below hb)) (HZ.o.below hb) (fB.below aA.o hb) (fB.below aD.o hb) (by have:=(aU hf).2.2.1.1;omega) (by have:=(aU hf).2.2.1.2;omega) (aU hf).2.2.2.1 (aU hf).2.2.2.2 bd);have KC:=au (fun (hf:rU T x.n y.n=true) W (hb:Below w.heap.size w W) (s:SL) (hs:SR W s) (hz:XZ s)=>iH (ca:=x.c) (cb:=y.c) ((aU hf).1 (a1.o.below hb)) (HZ.o.below hb) (fB.below aA.o hb) (fB.below aD.o hb) (by have:=(aU hf).2.2.1.1;omega) (by have:=(aU hf).2.2.1.2;omega) (aU hf).2.2.2.1 (aU hf).2.2.2.2 hs hz);have KH:=au (fun W (hb:Below w.heap.size w W)=>uN W (HZ.o.below hb));unfold dV Bg at *
 try unfold vI at *
 try unfold jh at *
 unfold dR at *
 generalize a6:T.rs.length=n1 at *
 generalize T.ds.length=n2 at *
 generalize T.es.length=n3 at *
 have cc:=au a6;clear a6;generalize a8:x.n.ws.length=nx at *
 have ce:=au a8;clear a8;generalize a9:y.n.ws.length=ny at *
 have b9:=au a9;clear a9
 go_enter Tryz.func7,Tryz.ntmps7
 go_upto_region 1 with (fail);generalize ((w.alloc (.cells (fN a.A n1 a.c a.D n2 a.d a.E n3 a.e T.drop T.ord T.ini) 25)).alloc (.cells (fh x.n.k x.A nx x.c) 28)).alloc (.cells (fh y.n.k y.A ny y.c) 28)=w0 at *
 generalize ju:w.heap.size=gt at HC ⊢;clear ju;have ai:=au (fun W (h:Below w0.heap.size w0 W)=>bm.o.trans (h.mono bm.o.size));have a0:=au (fe w0.heap.size w0);have K:=au (KH.o w0 (ai.o _ a0.o));go_wp2_with fail;refine K.o.mono ?_;rintro e9 w1 ⟨rfl,hb⟩;have ak:=au (aF a0.o hb);clear K a0 hb
 try dsimp only
 have K:=au (KF.o w1 (ai.o _ ak.o));cases hf:rU T x.n y.n with
 | false=>
  rw[hf] at K;have HF:=au hf;clear hf;obtain⟨aa,ae,M,ag,af,J,ac,ad,ab,I⟩:=HC.o w1 ak.o;go_wp2_with fail;refine K.o.mono ?_;rintro e9 w2 ⟨rfl,hb⟩;have am:=au (aF ak.o hb);clear K hb ak;clear aa ae M ag af J ac ad ab I
  try dsimp only
  obtain⟨aa,ae,M,ag,af,J,ac,ad,ab,I⟩:=HC.o w2 am.o;have HE:=au (ai.o _ am.o);go_wp2;go_ret;exact aK rfl HE.o
 | true=>
  rw[hf] at K;have HF:=au hf;clear hf;obtain⟨aa,ae,M,ag,af,J,ac,ad,ab,I⟩:=HC.o w1 ak.o;go_wp2_with fail;refine K.o.mono ?_;rintro e9 w2 ⟨rfl,hb⟩;have am:=au (aF ak.o hb);clear K hb ak;clear aa ae M ag af J ac ad ab I
  try dsimp only
  have K:=au (KM.o HF.o w2 (ai.o _ am.o) 0);obtain⟨aa,ae,M,ag,af,J,ac,ad,ab,I⟩:=HC.o w2 am.o;go_wp2_with fail;refine K.o.mono ?_;rintro e9 w3 ⟨p,erp,rfl,hm,hp⟩;have bk:=au (aF am.o (dG hp));have bc:=au hm;have bf:=au (vF hp);have a5:=au (vG hp hm (aU HF.o).2.1);unfold jh;clear K am hm hp;clear aa ae M ag af J ac ad ab I
  try dsimp only
  have ax:=au (aF bk.o (bF w3 (.cells (ie p.b p.A p.ws.length p.c p.u.A p.U.length p.u.c p.v.A p.V.length p.v.c p.g.A p.G.length p.g.c) 41)));have h4:=aH (aI.begin w3) aN (ie p.b p.A p.ws.length p.c p.u.A p.U.length p.u.c p.v.A p.V.length p.v.c p.g.A p.G.length p.g.c) 41;obtain⟨c0,c1,c2,c3,c4,-⟩:=gu h4;have Pp:=au (fun W (h:Below (w3.alloc (.cells (ie p.b p.A p.ws.length p.c p.u.A p.U.length p.u.c p.v.A p.V.length p.v.c p.g.A p.G.length p.g.c) 41)).heap.size (w3.alloc (.cells (ie p.b p.A p.ws.length p.c p.u.A p.U.length p.u.c p.v.A p.V.length p.v.c p.g.A p.G.length p.g.c) 41)) W)=>(show (o6 W w3.heap.size (.int .i64 p.b) (.slice p.A p.ws.length p.c) (.slice p.u.A p.U.length p.u.c) (.slice p.v.A p.V.length p.v.c) (.slice p.g.A p.G.length p.g.c)) from⟨aG c0 h,aG c1 h,aG c2 h,aG c3 h,aG c4 h⟩));clear h4 c0 c1 c2 c3 c4 bk;have al:=au (bf.o.below (bF w3 (.cells (ie p.b p.A p.ws.length p.c p.u.A p.U.length p.u.c p.v.A p.V.length p.v.c p.g.A p.G.length p.g.c) 41)));clear bf;go_upto_region 5 with (fail);generalize w3.alloc (.cells (ie p.b p.A p.ws.length p.c p.u.A p.U.length p.u.c p.v.A p.V.length p.v.c p.g.A p.G.length p.g.c) 41)=w4 at *
  generalize w3.heap.size=cd at *
  have aq:=au (fe w4.heap.size w4);rcases aem bc.o with rfl|rfl
  ·skip
   obtain⟨aa,ae,M,ag,af,J,ac,ad,ab,I⟩:=HC.o w4 ax.o;have HE:=au (ai.o _ ax.o);go_wp2;go_ret;exact aK rfl HE.o
  ·have HN:=au (K7 bc.o rfl);have b1:=au (show p.ws.length<=1000000 from a5.o.w0)
   have b3:=au (show ∀ e ∈ p.ws,e.ps.length<=1000000/\e.h=0/\∀ u ∈ e.ps,u.p.h=0/\u.p.C=[] from fun e he=>by
    obtain⟨k,hk,rfl⟩:=zp he;have bo:k<p.m.ws.length:=by show k<(p.ws.map WL.m).length;rw[gh];exact hk
    have h:=HN.o.2 k bo;have e1:p.m.ws[k]=p.ws[k].m:=mA ..;rw[e1] at h;refine⟨(a5.o.w1 _ he).2.1,h.1,fun u hu=>?_⟩;obtain⟨q,hq,rfl⟩:=zp hu;have br:q<p.ws[k].m.ps.length:=by show q<(p.ws[k].ps.map (·.p)).length;rw[gh];exact hq
    have h3:=h.2 q br;have e2:p.ws[k].m.ps[q]=p.ws[k].ps[q].p:=mA ..;rw[e2] at h3
    exact h3)
   obtain⟨n0,a3⟩:∃ n,n=p.ws.length:=⟨_,rfl⟩;rw[<-a3] at Pp;have az:=au a3;clear a3;have b7:=au (show ∀ V,Below w4.heap.size w4 V->Below w0.heap.size w0 V from fun V h=>aF ax.o h);obtain⟨q0,q1,q2,q3,q4⟩:=Pp.o w4 aq.o;have b6:(n0:Int)<=1000000:=by have:=b1.o;rw[<-az.o] at this;omega
   go_wp2_with fail;clear q0 q1 q2 q3 q4;go_loopw [10,11,12] (fun i j z wr=>∃ k:Nat,i=.int .i64 k/\k<=n0/\Below w4.heap.size w4 wr) (fun i j z _=>n0-(intOf i).toNat)
   case atStart=>exact⟨0,rfl,fw _,fe _ _⟩
   case round=>
    obtain⟨k,rfl,hk,hb⟩:=hrel;have ar:=au hb;clear hb;obtain⟨q0,q1,q2,q3,q4⟩:=Pp.o wr (aF aq.o ar.o);by_cases bj:k<n0
    ·have aw:k<p.ws.length:=by rw[<-az.o];exact bj
     have a7:=au bj;have b5:(k:Int)<1000001:=by omega
     obtain⟨bb,o,be,hc⟩:=sD.at (R:=mJ) (fun _=>rfl) eL al.o.ws.row eL;have HE:=au (b3.o _ (gv aw));have HP:=au (fun V (h:Below w4.heap.size w4 V)=>(al.o.below h).ws.all _ (gv aw));have a2:=au (fun V (h:Below w4.heap.size w4 V)=>(show V.cell? ⟨bb,o+k*4+2,none⟩=some (.int .i64 p.ws[k].h)/\V.cell? ⟨bb,o+k*4+3,none⟩=some (.slice p.ws[k].A p.ws[k].ps.length p.ws[k].c) from⟨hc V h k aw 2 _ rfl,hc V h k aw 3 _ rfl⟩));clear hc;rw[be] at q1 Pp;clear be;generalize p.ws[k]=e at *
     obtain⟨ei,ej,eh,ps,eA,ec⟩:=e;dsimp only at a2 HE HP;obtain⟨a4,bx,bi⟩:=HE.o;subst bx;have bv:=au bi;clear bi HE;obtain⟨m,hm⟩:∃ m,m=ps.length:=⟨_,rfl⟩;rw[<-hm] at a2 a4;have bw:=au hm;have bu:=au a4;clear hm a4;go_wp2_with fail;clear q0 q1 q2 q3 q4;go_loopw [11,12] (fun j z wq=>∃ q:Nat,j=.int .i64 q/\q<=m/\Below w4.heap.size w4 wq) (fun j z _=>m-(intOf j).toNat)
     case atStart=>exact⟨0,rfl,fw _,ar.o⟩
     case round=>
      obtain⟨q,rfl,hq,hb⟩:=hrel;have ap:=au hb;clear hb;obtain⟨q0,q1,q2,q3,q4⟩:=Pp.o wr (aF aq.o ap.o);obtain⟨r2,r3⟩:=a2.o wr ap.o;by_cases bh:q<m
      ·have an:q<ps.length:=by rw[<-bw.o];exact bh
       have ba:=au bh;have b8:(q:Int)<1000001:=by have:=bu.o;omega
       obtain⟨b2,o2,b4,ao⟩:=sD.at (R:=rT) (fun _=>rfl) eL (HP.o wr ap.o).row eL;have dd:wr.cell? ⟨b2,o2+q*5,none⟩=some (.int .i64 ps[q].p.kd)/\wr.cell? ⟨b2,o2+q*5+1,none⟩=some (.int .i64 ps[q].p.l)/\wr.cell? ⟨b2,o2+q*5+2,none⟩=some (.int .i64 ps[q].p.r)/\wr.cell? ⟨b2,o2+q*5+3,none⟩=some (.int .i64 ps[q].p.h)/\wr.cell? ⟨b2,o2+q*5+4,none⟩=some (.slice ps[q].A ps[q].p.C.length ps[q].c):=⟨ao wr (fe _ _) q an 0 _ rfl,ao wr (fe _ _) q an 1 _ rfl,ao wr (fe _ _) q an 2 _ rfl,ao wr (fe _ _) q an 3 _ rfl,ao wr (fe _ _) q an 4 _ rfl⟩;obtain⟨d0,d1,d2,d3,d4⟩:=dd;obtain⟨u1,u2⟩:=bv.o _ (gv an);clear ao;subst b4;generalize ps[q]=u at *
       obtain⟨⟨xk,xl,xr,xh,xC⟩,xA,xc⟩:=u;dsimp only at d0 d1 d2 d3 d4 u1 u2;subst u1 u2;rw[lA] at d4;have h4:=aH (aI.begin wr) aO (lL xk xl xr 0 xA 0 xc) 58;have bp:=au (aF ap.o h4.cZ);have bn:=au (gu h4);clear h4;go_upto_region 14 with (fail);generalize wr.alloc (.cells (lL xk xl xr 0 xA 0 xc) 58)=wn at *
       generalize wr.heap.size=gn at bn ⊢;obtain⟨z0,z1,z2,z3,z4,-⟩:=bn.o;clear q0 q1 q2 q3 q4 r2 r3 d0 d1 d2 d3 d4;go_wp2_with fail;clear z0 z1 z2 z3 z4
       go_roundw
       case rel=>exact⟨q+1,by go_num,ba.o,bp.o⟩
       case measure=>have:=ba.o;simp[intOf];omega
      ·obtain rfl:q=m:=by omega
       go_wp2_with fail;clear q0 q1 q2 q3 q4 r2 r3
       go_roundw
       case rel=>exact⟨k+1,by go_num,a7.o,ap.o⟩
       case measure=>have:=a7.o;simp[intOf];omega
    ·obtain rfl:k=n0:=by omega
     have aE:=au (aF ax.o ar.o);have b0:=au (al.o.below ar.o);have K:=au (KC.o HF.o wr (ai.o _ aE.o) p b0.o a5.o);unfold jh at K;rw[<-az.o] at K;obtain⟨aa,ae,M,ag,af,J,ac,ad,ab,I⟩:=HC.o wr aE.o;go_wp2_with fail;refine K.o.mono ?_;rintro e9 wz ⟨bz,rfl,hiff,hb⟩;obtain rfl:bz=true:=hiff.2 HN.o.1;have HE:=au (ai.o _ (aF aE.o hb));clear K hiff hb q0 q1 q2 q3 q4 aa ae M ag af J ac ad ab I
     try dsimp only
     go_wp2;go_ret;exact aK rfl HE.o
end Go.Proofs.YtbioiclabmbedaaGreatDoor
