/- A part of the proof: lemmas. -/
import Derived.Test.YtbioiclabmbedaaGreatDoorSI10
set_option maxHeartbeats 16000000
set_option maxRecDepth 100000
set_option linter.all false
namespace Go.CH.bA
section
variable {c c':Nat→Nat→Int} {d e:Nat→Int} {n m:Nat} {bd:Int}
end
end Go.CH.bA
namespace Go.CH.Sil
open Go.CH.Scr Go.CH.dh Go.CH.Mtc
section
variable {T:eW} {k k2:Int} {x y:Bs} {a b:aQ} {bd:Int}
end
end Go.CH.Sil
namespace Go.Proofs.YtbioiclabmbedaaGreatDoor
open Go.CH Go.CH.Scr Go.CH.dh Go.CH.Mtc Go.CH.Sil
open Asn (kB nZ oV mR cF lF wi pX lS qx oW bU bV bK nR)
section
variable {T:eW} {a b:aQ} {bd:Int} {s:Sl}
theorem lq {m:Mt} {e f:Int} (hm:Bq T a b m e) (J:iJ T a b bd s f) (h0:0<=bd) (h1:bd<=100000) :
  (e≠0->f=1/\s=we)/\(e=0->m.c<bd->f=11/\s=we)/\(e=0->bd<=m.c->f=0/\s.b=bd/\fG T a b s):=by
 have I:=@yh T a b bd s f J;cases hm with
 | arg g=>
  refine⟨fun _=>?_,fun h=>absurd h eS,fun h=>absurd h eS⟩;cases J with
  | arg=>exact⟨rfl,rfl⟩
  | none g'=>rw[g] at g';cases g'
  | some g'=>rw[g] at g';cases g'
 | some g=>
  refine⟨fun h=>absurd rfl h,fun _ M=>?_,fun _ M=>?_⟩
  ·cases J with
   | arg g'=>rw[g] at g';rcases g' with g'|g'|g';cases g';all_goals omega
   | none=>exact⟨rfl,rfl⟩
   | some=>omega
  ·cases J with
   | arg g'=>rw[g] at g';rcases g' with g'|g'|g';cases g';all_goals omega
   | none=>omega
   | some=>exact⟨rfl,(I rfl).1,(I rfl).2.1⟩
end
open Go.RowKit
open Go.ChangeMaps (setBlock)
variable {T:eW}{w:World}
theorem iU  {a b:aQ} {m:Mt} (h:Bq T a b m 0):0<=m.c/\m.c<=12000:=by
 refine⟨(Iz h).1,?_⟩;cases h with
 | some h1=>rw[wH];have:=(QO h1).2.2;omega
theorem Q6 {s:SL} (h:s.m=we):s.ws.length=0/\s.b=0:=by
 refine⟨?_,congrArg Sl.b h⟩;have:s.ws.map WL.m=[]:=congrArg Sl.ws h;simpa using this
theorem Ai   {a:TA} (hT:wC w T a) (hz:LZ w) {x:Ev} (hx:fB w x.A x.n.ws) {y:Ev} (hy:fB w y.A y.n.ws) (raw:Nat) (cm:raw<4294967296) :
  Calls Tryz.prog 3 #[dV T a,Bg x,Bg y,.int .u32 (raw:Nat)] w (aS w (.bool true)):=by
 have h1:=aH (aI.begin w) aO (fN a.A T.rs.length a.c a.D T.ds.length a.d a.E T.es.length a.e T.drop T.ord T.ini) 25;have h2:=aH h1 aO (fh x.n.k x.A x.n.ws.length x.c) 28;have h3:=aH h2 aO (fh y.n.k y.A y.n.ws.length y.c) 28;simp only[im] at h3;have cq:=au h3.cZ;obtain⟨aa,ae,M,ag,af,J⟩:=fu h3.drop.drop;obtain⟨ac,ad,-⟩:=bY h3.drop;obtain⟨ab,I,-⟩:=bY h3;have HC:=au (fun W (h:Below (((w.alloc (.cells (fN a.A T.rs.length a.c a.D T.ds.length a.d a.E T.es.length a.e T.drop T.ord T.ini) 25)).alloc (.cells (fh x.n.k x.A x.n.ws.length x.c) 28)).alloc (.cells (fh y.n.k y.A y.n.ws.length y.c) 28)).heap.size (((w.alloc (.cells (fN a.A T.rs.length a.c a.D T.ds.length a.d a.E T.es.length a.e T.drop T.ord T.ini) 25)).alloc (.cells (fh x.n.k x.A x.n.ws.length x.c) 28)).alloc (.cells (fh y.n.k y.A y.n.ws.length y.c) 28)) W)=>(show W.cell? ⟨w.heap.size,0,none⟩=some (.slice a.A T.rs.length a.c)/\W.cell? ⟨w.heap.size,1,none⟩=some (.slice a.D T.ds.length a.d)/\W.cell? ⟨w.heap.size,2,none⟩=some (.slice a.E T.es.length a.e)/\W.cell? ⟨w.heap.size,3,none⟩=some (.int .i64 T.drop)/\W.cell? ⟨w.heap.size,4,none⟩=some (.int .i64 T.ord)/\W.cell? ⟨w.heap.size,5,none⟩=some (.int .i64 T.ini)/\W.cell? ⟨w.heap.size+1,0,none⟩=some (.int .i64 x.n.k)/\W.cell? ⟨w.heap.size+1,1,none⟩=some (.slice x.A x.n.ws.length x.c)/\(my W (w.heap.size+1+1) (.int .i64 y.n.k) (.slice y.A y.n.ws.length y.c)) from⟨aG aa h,aG ae h,aG M h,aG ag h,aG af h,aG J h,aG ac h,aG ad h,aG ab h,aG I h⟩));have b3:=au hT;have HZ:=au hz;have b0:=au hx;have b1:=au hy;clear hT hz hx hy  h1 h2 h3 aa ae M ag af J ac ad ab I;have KF:=au (fun W (hb:Below w.heap.size w W)=>ru (ca:=x.c) (cb:=y.c) (b3.o.below hb) (fB.below b0.o hb) (fB.below b1.o hb));have KM:=au (fun (hf:rU T x.n y.n=true) W (hb:Below w.heap.size w W) (bd:Int)=>pq (ca:=x.c) (cb:=y.c) ((aU hf).1 (b3.o.below hb)) (HZ.o.below hb) (fB.below b0.o hb) (fB.below b1.o hb) (by have:=(aU hf).2.2.1.1;omega) (by have:=(aU hf).2.2.1.2;omega) (aU hf).2.2.2.1 (aU hf).2.2.2.2 bd);have KC:=au (fun (hf:rU T x.n y.n=true) W (hb:Below w.heap.size w W) (s:SL) (hs:SR W s) (hz:XZ s)=>iH (ca:=x.c) (cb:=y.c) ((aU hf).1 (b3.o.below hb)) (HZ.o.below hb) (fB.below b0.o hb) (fB.below b1.o hb) (by have:=(aU hf).2.2.1.1;omega) (by have:=(aU hf).2.2.1.2;omega) (aU hf).2.2.2.1 (aU hf).2.2.2.2 hs hz);have KB:=au (fun (hf:rU T x.n y.n=true) W (hb:Below w.heap.size w W)=>(D9 (ca:=x.c) (cb:=y.c) ((aU hf).1 (b3.o.below hb)) (HZ.o.below hb) (fB.below b0.o hb) (fB.below b1.o hb) (by have:=(aU hf).2.2.1.1;omega) (by have:=(aU hf).2.2.1.2;omega) (aU hf).2.2.2.1 (aU hf).2.2.2.2).mono fun e w' h=>GA h);have KH:=au (fun W (hb:Below w.heap.size w W)=>uN W (HZ.o.below hb));unfold dV Bg at *
 try unfold vI at *
 try unfold jh at *
 unfold dR at *
 generalize cf:T.rs.length=n1 at *
 generalize T.ds.length=n2 at *
 generalize T.es.length=n3 at *
 have cH:=au cf;clear cf;generalize ch:x.n.ws.length=nx at *
 have cJ:=au ch;clear ch;generalize ci:y.n.ws.length=ny at *
 have cG:=au ci;clear ci
 go_enter Tryz.func3,Tryz.ntmps3
 go_upto_region 1 with (fail);generalize ((w.alloc (.cells (fN a.A n1 a.c a.D n2 a.d a.E n3 a.e T.drop T.ord T.ini) 25)).alloc (.cells (fh x.n.k x.A nx x.c) 28)).alloc (.cells (fh y.n.k y.A ny y.c) 28)=w0 at *
 generalize ju:w.heap.size=gt at HC ⊢;clear ju;have ap:=au (fun W (h:Below w0.heap.size w0 W)=>cq.o.trans (h.mono cq.o.size));have cc:=au (fe w0.heap.size w0);have K:=au (KH.o w0 (ap.o _ cc.o));go_wp2_with fail;refine K.o.mono ?_;rintro e9 w1 ⟨rfl,hb⟩;have bb:=au (aF cc.o hb);clear K cc hb
 try dsimp only
 have K:=au (KF.o w1 (ap.o _ bb.o));cases hf:rU T x.n y.n with
 | false=>
  rw[hf] at K;have HF:=au hf;clear hf;obtain⟨aa,ae,M,ag,af,J,ac,ad,ab,I⟩:=HC.o w1 bb.o;go_wp2_with fail;refine K.o.mono ?_;rintro e9 w2 ⟨rfl,hb⟩;have bi:=au (aF bb.o hb);clear K hb bb;clear aa ae M ag af J ac ad ab I
  try dsimp only
  obtain⟨aa,ae,M,ag,af,J,ac,ad,ab,I⟩:=HC.o w2 bi.o;have HE:=au (ap.o _ bi.o);go_wp2;go_ret;exact aK rfl HE.o
 | true=>
  rw[hf] at K;have HF:=au hf;clear hf;obtain⟨aa,ae,M,ag,af,J,ac,ad,ab,I⟩:=HC.o w1 bb.o;go_wp2_with fail;refine K.o.mono ?_;rintro e9 w2 ⟨rfl,hb⟩;have bi:=au (aF bb.o hb);clear K hb bb;clear aa ae M ag af J ac ad ab I
  try dsimp only
  have co:=au (show 0<=(raw:Int) % 100001/\(raw:Int) % 100001<=100000 from⟨Int.emod_nonneg _ eS,by have:=Int.emod_lt_of_pos (raw:Int) (b:=100001) eS;omega⟩);have K:=au (KB.o HF.o w2 (ap.o _ bi.o));obtain⟨aa,ae,M,ag,af,J,ac,ad,ab,I⟩:=HC.o w2 bi.o;go_wp2_with fail;refine K.o.mono ?_;rintro e9 w3 ⟨v,ev,Av,cv,lv,rfl,hm,-,-,hb⟩;have cp:=au (aF bi.o hb);have ai:=au hm;clear K bi hb hm cm;clear aa ae M ag af J ac ad ab I
  try dsimp only
  have b4:=au (aF cp.o (bF w3 (.cells (jj v.c v.s Av lv.length cv) 34)));have h4:=aH (aI.begin w3) aN (jj v.c v.s Av lv.length cv) 34;obtain⟨c0,c1,c2⟩:=fO h4;have PV:=au (fun W (h:Below (w3.alloc (.cells (jj v.c v.s Av lv.length cv) 34)).heap.size (w3.alloc (.cells (jj v.c v.s Av lv.length cv) 34)) W)=>(show (C4 W w3.heap.size (.int .i64 v.c) (.bool v.s) (.slice Av lv.length cv)) from⟨aG c0 h,aG c1 h,aG c2 h⟩));clear h4 c0 c1 c2 cp;go_upto_region 6 with (fail);generalize w3.alloc (.cells (jj v.c v.s Av lv.length cv) 34)=w4 at *
  generalize w3.heap.size=cE at *
  have b5:=au (fe w4.heap.size w4);have K:=au (KM.o HF.o w4 (ap.o _ b4.o) ((raw:Int) % 100001));obtain⟨aa,ae,M,ag,af,J,ac,ad,ab,I⟩:=HC.o w4 b4.o;go_wp2_with fail;refine K.o.mono ?_;rintro e9 w5 ⟨p,erp,rfl,hm,hp⟩;have ck:=au (aF b4.o (dG hp));have cy:=au hm;have cn:=au (vF hp);have cD:=au (vG hp hm (aU HF.o).2.1);unfold jh;have bk:=au (aF b5.o (dG hp));clear b5;clear K b4 hm hp;clear aa ae M ag af J ac ad ab I
  try dsimp only
  have a5:=au (aF ck.o (bF w5 (.cells (ie p.b p.A p.ws.length p.c p.u.A p.U.length p.u.c p.v.A p.V.length p.v.c p.g.A p.G.length p.g.c) 41)));have h4:=aH (aI.begin w5) aN (ie p.b p.A p.ws.length p.c p.u.A p.U.length p.u.c p.v.A p.V.length p.v.c p.g.A p.G.length p.g.c) 41;obtain⟨c0,c1,c2,c3,c4,-⟩:=gu h4;have Pp:=au (fun W (h:Below (w5.alloc (.cells (ie p.b p.A p.ws.length p.c p.u.A p.U.length p.u.c p.v.A p.V.length p.v.c p.g.A p.G.length p.g.c) 41)).heap.size (w5.alloc (.cells (ie p.b p.A p.ws.length p.c p.u.A p.U.length p.u.c p.v.A p.V.length p.v.c p.g.A p.G.length p.g.c) 41)) W)=>(show (o6 W w5.heap.size (.int .i64 p.b) (.slice p.A p.ws.length p.c) (.slice p.u.A p.U.length p.u.c) (.slice p.v.A p.V.length p.v.c) (.slice p.g.A p.G.length p.g.c)) from⟨aG c0 h,aG c1 h,aG c2 h,aG c3 h,aG c4 h⟩));clear h4 c0 c1 c2 c3 c4 ck;have ak:=au (aF bk.o (bF w5 (.cells (ie p.b p.A p.ws.length p.c p.u.A p.U.length p.u.c p.v.A p.V.length p.v.c p.g.A p.G.length p.g.c) 41)));clear bk;have a3:=au (cn.o.below (bF w5 (.cells (ie p.b p.A p.ws.length p.c p.u.A p.U.length p.u.c p.v.A p.V.length p.v.c p.g.A p.G.length p.g.c) 41)));clear cn;go_upto_region 7 with (fail);generalize w5.alloc (.cells (ie p.b p.A p.ws.length p.c p.u.A p.U.length p.u.c p.v.A p.V.length p.v.c p.g.A p.G.length p.g.c) 41)=w6 at *
  generalize w5.heap.size=cI at *
  have a4:=au (fe w6.heap.size w6);generalize (raw:Int) % 100001=bd at *
  have bm:=au (lq ai.o cy.o co.o.1 co.o.2);have cA:ev=1\/ev=0:=by
   have:=ai.o;cases this with
   | arg=>exact .inl rfl
   | some=>exact .inr rfl
  rcases cA with rfl|rfl
  ·obtain⟨rfl,bp⟩:=bm.o.1 eS;have bo:=(Q6 bp).1;clear bp bm;obtain⟨q0,q1,q2,q3,q4⟩:=Pp.o w6 a4.o;rw[bo] at q1;clear bo;obtain⟨aa,ae,M,ag,af,J,ac,ad,ab,I⟩:=HC.o w6 a5.o;have HE:=au (ap.o _ a5.o);go_wp2;go_ret;exact aK rfl HE.o
  ·by_cases b7:v.c<bd
   ·obtain⟨rfl,bp⟩:=bm.o.2.1 rfl b7;obtain⟨bo,cr⟩:=Q6 bp;clear bp bm;obtain⟨q0,q1,q2,q3,q4⟩:=Pp.o w6 a4.o;rw[bo] at q1;rw[cr] at q0;clear bo cr;obtain⟨v0,v1,v2⟩:=PV.o w6 ak.o;obtain⟨aa,ae,M,ag,af,J,ac,ad,ab,I⟩:=HC.o w6 a5.o;go_upto_region 14 with (fail);clear b7 q0 q1 q2 q3 q4 v0 v1 v2;clear aa ae M ag af J ac ad ab I;obtain⟨v0,v1,v2⟩:=PV.o w6 ak.o;have bf:=(iU ai.o).1;have be:=(iU ai.o).2;have K:=au (KM.o HF.o w6 (ap.o _ a5.o) v.c);obtain⟨aa,ae,M,ag,af,J,ac,ad,ab,I⟩:=HC.o w6 a5.o;go_wp2_with fail;refine K.o.mono ?_;rintro e9 w7 ⟨q,erq,rfl,hm,hp⟩;have bh:=au (aF a5.o (dG hp));have cd:=au hm;have bv:=au (vF hp);have b9:=au (vG hp hm (aU HF.o).2.1);unfold jh;have an:=au (aF ak.o (dG hp));clear ak;have aA:=au (a3.o.below (dG hp));clear a3;have aq:=au (aF a4.o (dG hp));clear a4;clear K a5 hm hp v0 v1 v2 bf be;clear aa ae M ag af J ac ad ab I
    try dsimp only
    have ba:=au (aF bh.o (bF w7 (.cells (ie q.b q.A q.ws.length q.c q.u.A q.U.length q.u.c q.v.A q.V.length q.v.c q.g.A q.G.length q.g.c) 41)));have h4:=aH (aI.begin w7) aN (ie q.b q.A q.ws.length q.c q.u.A q.U.length q.u.c q.v.A q.V.length q.v.c q.g.A q.G.length q.g.c) 41;obtain⟨c0,c1,c2,c3,c4,-⟩:=gu h4;have Pq:=au (fun W (h:Below (w7.alloc (.cells (ie q.b q.A q.ws.length q.c q.u.A q.U.length q.u.c q.v.A q.V.length q.v.c q.g.A q.G.length q.g.c) 41)).heap.size (w7.alloc (.cells (ie q.b q.A q.ws.length q.c q.u.A q.U.length q.u.c q.v.A q.V.length q.v.c q.g.A q.G.length q.g.c) 41)) W)=>(show (o6 W w7.heap.size (.int .i64 q.b) (.slice q.A q.ws.length q.c) (.slice q.u.A q.U.length q.u.c) (.slice q.v.A q.V.length q.v.c) (.slice q.g.A q.G.length q.g.c)) from⟨aG c0 h,aG c1 h,aG c2 h,aG c3 h,aG c4 h⟩));clear h4 c0 c1 c2 c3 c4 bh;have ao:=au (aF an.o (bF w7 (.cells (ie q.b q.A q.ws.length q.c q.u.A q.U.length q.u.c q.v.A q.V.length q.v.c q.g.A q.G.length q.g.c) 41)));clear an;have a2:=au (aA.o.below (bF w7 (.cells (ie q.b q.A q.ws.length q.c q.u.A q.U.length q.u.c q.v.A q.V.length q.v.c q.g.A q.G.length q.g.c) 41)));clear aA;have aw:=au (aF aq.o (bF w7 (.cells (ie q.b q.A q.ws.length q.c q.u.A q.U.length q.u.c q.v.A q.V.length q.v.c q.g.A q.G.length q.g.c) 41)));clear aq;have bn:=au (bv.o.below (bF w7 (.cells (ie q.b q.A q.ws.length q.c q.u.A q.U.length q.u.c q.v.A q.V.length q.v.c q.g.A q.G.length q.g.c) 41)));clear bv;go_upto_region 15 with (fail);generalize w7.alloc (.cells (ie q.b q.A q.ws.length q.c q.u.A q.U.length q.u.c q.v.A q.V.length q.v.c q.g.A q.G.length q.g.c) 41)=w8 at *
    generalize w7.heap.size=cz at *
    have a8:=au (fe w8.heap.size w8);obtain⟨v0,v1,v2⟩:=PV.o w8 ao.o;have bf:=(iU ai.o).1;have be:=(iU ai.o).2;have K:=au (KM.o HF.o w8 (ap.o _ ba.o) (v.c+1));obtain⟨aa,ae,M,ag,af,J,ac,ad,ab,I⟩:=HC.o w8 ba.o;go_wp2_with fail;refine K.o.mono ?_;rintro e9 w9 ⟨r,err,rfl,hm,hp⟩;have bc:=au (aF ba.o (dG hp));have b8:=au hm;unfold jh;have am:=au (aF ao.o (dG hp));clear ao;have aD:=au (a2.o.below (dG hp));clear a2;have ar:=au (aF aw.o (dG hp));clear aw;have a0:=au (bn.o.below (dG hp));clear bn;have bj:=au (aF a8.o (dG hp));clear a8;clear K ba hm hp v0 v1 v2 bf be;clear aa ae M ag af J ac ad ab I
    try dsimp only
    have a6:=au (aF bc.o (bF w9 (.cells (ie r.b r.A r.ws.length r.c r.u.A r.U.length r.u.c r.v.A r.V.length r.v.c r.g.A r.G.length r.g.c) 41)));have h4:=aH (aI.begin w9) aN (ie r.b r.A r.ws.length r.c r.u.A r.U.length r.u.c r.v.A r.V.length r.v.c r.g.A r.G.length r.g.c) 41;obtain⟨c0,c1,c2,c3,c4,-⟩:=gu h4;have Pr:=au (fun W (h:Below (w9.alloc (.cells (ie r.b r.A r.ws.length r.c r.u.A r.U.length r.u.c r.v.A r.V.length r.v.c r.g.A r.G.length r.g.c) 41)).heap.size (w9.alloc (.cells (ie r.b r.A r.ws.length r.c r.u.A r.U.length r.u.c r.v.A r.V.length r.v.c r.g.A r.G.length r.g.c) 41)) W)=>(show (o6 W w9.heap.size (.int .i64 r.b) (.slice r.A r.ws.length r.c) (.slice r.u.A r.U.length r.u.c) (.slice r.v.A r.V.length r.v.c) (.slice r.g.A r.G.length r.g.c)) from⟨aG c0 h,aG c1 h,aG c2 h,aG c3 h,aG c4 h⟩));clear h4 c0 c1 c2 c3 c4 bc;have a1:=au (aF am.o (bF w9 (.cells (ie r.b r.A r.ws.length r.c r.u.A r.U.length r.u.c r.v.A r.V.length r.v.c r.g.A r.G.length r.g.c) 41)));clear am;have a7:=au (aD.o.below (bF w9 (.cells (ie r.b r.A r.ws.length r.c r.u.A r.U.length r.u.c r.v.A r.V.length r.v.c r.g.A r.G.length r.g.c) 41)));clear aD;have aE:=au (aF ar.o (bF w9 (.cells (ie r.b r.A r.ws.length r.c r.u.A r.U.length r.u.c r.v.A r.V.length r.v.c r.g.A r.G.length r.g.c) 41)));clear ar;have az:=au (a0.o.below (bF w9 (.cells (ie r.b r.A r.ws.length r.c r.u.A r.U.length r.u.c r.v.A r.V.length r.v.c r.g.A r.G.length r.g.c) 41)));clear a0;have ax:=au (aF bj.o (bF w9 (.cells (ie r.b r.A r.ws.length r.c r.u.A r.U.length r.u.c r.v.A r.V.length r.v.c r.g.A r.G.length r.g.c) 41)));clear bj;go_upto_region 16 with (fail);generalize w9.alloc (.cells (ie r.b r.A r.ws.length r.c r.u.A r.U.length r.u.c r.v.A r.V.length r.v.c r.g.A r.G.length r.g.c) 41)=al at *
    generalize w9.heap.size=cw at *
    have cg:=au (fe al.heap.size al);have hq:=(lq ai.o cd.o (by have:=(iU ai.o).1;omega) (by have:=(iU ai.o).2;omega)).2.2 rfl (ly _);have hr:=(lq ai.o b8.o (by have:=(iU ai.o).1;omega) (by have:=(iU ai.o).2;omega)).2.1 rfl eL;obtain⟨rfl,-,a9⟩:=hq;obtain⟨rfl,-⟩:=hr;have b6:=au a9;clear a9;have K:=au (KC.o HF.o al (ap.o _ a6.o) q az.o b9.o);unfold jh at K;obtain⟨aa,ae,M,ag,af,J,ac,ad,ab,I⟩:=HC.o al a6.o;obtain⟨q0,q1,q2,q3,q4⟩:=Pq.o al ax.o;go_wp2_with fail;refine K.o.mono ?_;rintro e9 wz ⟨bz,rfl,hiff,hb⟩;obtain rfl:bz=true:=hiff.2 b6.o;have HE:=au (ap.o _ (aF a6.o hb));clear K hiff hb q0 q1 q2 q3 q4;clear aa ae M ag af J ac ad ab I
    try dsimp only
    go_wp2;go_ret;exact aK rfl HE.o
   ·obtain⟨rfl,bx,a9⟩:=bm.o.2.2 rfl eL;have cx:=au a9;have bx:p.b=bd:=bx;clear a9 bm;have K:=au (KC.o HF.o w6 (ap.o _ a5.o) p a3.o cD.o);unfold jh at K;rw[bx] at K;obtain⟨aa,ae,M,ag,af,J,ac,ad,ab,I⟩:=HC.o w6 a5.o;obtain⟨q0,q1,q2,q3,q4⟩:=Pp.o w6 a4.o;obtain⟨v0,v1,v2⟩:=PV.o w6 ak.o;rw[bx] at q0;clear bx;go_wp2_with fail;refine K.o.mono ?_;rintro e9 w7 ⟨bz,rfl,hiff,hb⟩;obtain rfl:bz=true:=hiff.2 cx.o;have bh:=au (aF a5.o hb);have an:=au (aF ak.o hb);clear ak;have aA:=au (a3.o.below hb);clear a3;have aq:=au (aF a4.o hb);clear a4;clear K hiff hb b7 a5 q0 q1 q2 q3 q4 v0 v1 v2;clear aa ae M ag af J ac ad ab I
    try dsimp only
    go_upto_region 14 with (fail);obtain⟨v0,v1,v2⟩:=PV.o w7 an.o;have bf:=(iU ai.o).1;have be:=(iU ai.o).2;have K:=au (KM.o HF.o w7 (ap.o _ bh.o) v.c);obtain⟨aa,ae,M,ag,af,J,ac,ad,ab,I⟩:=HC.o w7 bh.o;go_wp2_with fail;refine K.o.mono ?_;rintro e9 w8 ⟨q,erq,rfl,hm,hp⟩;have ba:=au (aF bh.o (dG hp));have cd:=au hm;have bv:=au (vF hp);have b9:=au (vG hp hm (aU HF.o).2.1);unfold jh;have ao:=au (aF an.o (dG hp));clear an;have a2:=au (aA.o.below (dG hp));clear aA;have aw:=au (aF aq.o (dG hp));clear aq;clear K bh hm hp v0 v1 v2 bf be;clear aa ae M ag af J ac ad ab I
    try dsimp only
    have bc:=au (aF ba.o (bF w8 (.cells (ie q.b q.A q.ws.length q.c q.u.A q.U.length q.u.c q.v.A q.V.length q.v.c q.g.A q.G.length q.g.c) 41)));have h4:=aH (aI.begin w8) aN (ie q.b q.A q.ws.length q.c q.u.A q.U.length q.u.c q.v.A q.V.length q.v.c q.g.A q.G.length q.g.c) 41;obtain⟨c0,c1,c2,c3,c4,-⟩:=gu h4;have Pq:=au (fun W (h:Below (w8.alloc (.cells (ie q.b q.A q.ws.length q.c q.u.A q.U.length q.u.c q.v.A q.V.length q.v.c q.g.A q.G.length q.g.c) 41)).heap.size (w8.alloc (.cells (ie q.b q.A q.ws.length q.c q.u.A q.U.length q.u.c q.v.A q.V.length q.v.c q.g.A q.G.length q.g.c) 41)) W)=>(show (o6 W w8.heap.size (.int .i64 q.b) (.slice q.A q.ws.length q.c) (.slice q.u.A q.U.length q.u.c) (.slice q.v.A q.V.length q.v.c) (.slice q.g.A q.G.length q.g.c)) from⟨aG c0 h,aG c1 h,aG c2 h,aG c3 h,aG c4 h⟩));clear h4 c0 c1 c2 c3 c4 ba;have am:=au (aF ao.o (bF w8 (.cells (ie q.b q.A q.ws.length q.c q.u.A q.U.length q.u.c q.v.A q.V.length q.v.c q.g.A q.G.length q.g.c) 41)));clear ao;have aD:=au (a2.o.below (bF w8 (.cells (ie q.b q.A q.ws.length q.c q.u.A q.U.length q.u.c q.v.A q.V.length q.v.c q.g.A q.G.length q.g.c) 41)));clear a2;have ar:=au (aF aw.o (bF w8 (.cells (ie q.b q.A q.ws.length q.c q.u.A q.U.length q.u.c q.v.A q.V.length q.v.c q.g.A q.G.length q.g.c) 41)));clear aw;have a0:=au (bv.o.below (bF w8 (.cells (ie q.b q.A q.ws.length q.c q.u.A q.U.length q.u.c q.v.A q.V.length q.v.c q.g.A q.G.length q.g.c) 41)));clear bv;go_upto_region 15 with (fail);generalize w8.alloc (.cells (ie q.b q.A q.ws.length q.c q.u.A q.U.length q.u.c q.v.A q.V.length q.v.c q.g.A q.G.length q.g.c) 41)=w9 at *
    generalize w8.heap.size=cz at *
    have a8:=au (fe w9.heap.size w9);obtain⟨v0,v1,v2⟩:=PV.o w9 am.o;have bf:=(iU ai.o).1;have be:=(iU ai.o).2;have K:=au (KM.o HF.o w9 (ap.o _ bc.o) (v.c+1));obtain⟨aa,ae,M,ag,af,J,ac,ad,ab,I⟩:=HC.o w9 bc.o;go_wp2_with fail;refine K.o.mono ?_;rintro e9 al ⟨r,err,rfl,hm,hp⟩;have a6:=au (aF bc.o (dG hp));have b8:=au hm;unfold jh;have a1:=au (aF am.o (dG hp));clear am;have a7:=au (aD.o.below (dG hp));clear aD;have aE:=au (aF ar.o (dG hp));clear ar;have az:=au (a0.o.below (dG hp));clear a0;have ax:=au (aF a8.o (dG hp));clear a8;clear K bc hm hp v0 v1 v2 bf be;clear aa ae M ag af J ac ad ab I
    try dsimp only
    have bu:=au (aF a6.o (bF al (.cells (ie r.b r.A r.ws.length r.c r.u.A r.U.length r.u.c r.v.A r.V.length r.v.c r.g.A r.G.length r.g.c) 41)));have h4:=aH (aI.begin al) aN (ie r.b r.A r.ws.length r.c r.u.A r.U.length r.u.c r.v.A r.V.length r.v.c r.g.A r.G.length r.g.c) 41;obtain⟨c0,c1,c2,c3,c4,-⟩:=gu h4;have Pr:=au (fun W (h:Below (al.alloc (.cells (ie r.b r.A r.ws.length r.c r.u.A r.U.length r.u.c r.v.A r.V.length r.v.c r.g.A r.G.length r.g.c) 41)).heap.size (al.alloc (.cells (ie r.b r.A r.ws.length r.c r.u.A r.U.length r.u.c r.v.A r.V.length r.v.c r.g.A r.G.length r.g.c) 41)) W)=>(show (o6 W al.heap.size (.int .i64 r.b) (.slice r.A r.ws.length r.c) (.slice r.u.A r.U.length r.u.c) (.slice r.v.A r.V.length r.v.c) (.slice r.g.A r.G.length r.g.c)) from⟨aG c0 h,aG c1 h,aG c2 h,aG c3 h,aG c4 h⟩));clear h4 c0 c1 c2 c3 c4 a6;have ce:=au (aF a1.o (bF al (.cells (ie r.b r.A r.ws.length r.c r.u.A r.U.length r.u.c r.v.A r.V.length r.v.c r.g.A r.G.length r.g.c) 41)));clear a1;have ct:=au (a7.o.below (bF al (.cells (ie r.b r.A r.ws.length r.c r.u.A r.U.length r.u.c r.v.A r.V.length r.v.c r.g.A r.G.length r.g.c) 41)));clear a7;have cj:=au (aF aE.o (bF al (.cells (ie r.b r.A r.ws.length r.c r.u.A r.U.length r.u.c r.v.A r.V.length r.v.c r.g.A r.G.length r.g.c) 41)));clear aE;have b2:=au (az.o.below (bF al (.cells (ie r.b r.A r.ws.length r.c r.u.A r.U.length r.u.c r.v.A r.V.length r.v.c r.g.A r.G.length r.g.c) 41)));clear az;have bw:=au (aF ax.o (bF al (.cells (ie r.b r.A r.ws.length r.c r.u.A r.U.length r.u.c r.v.A r.V.length r.v.c r.g.A r.G.length r.g.c) 41)));clear ax;go_upto_region 16 with (fail);generalize al.alloc (.cells (ie r.b r.A r.ws.length r.c r.u.A r.U.length r.u.c r.v.A r.V.length r.v.c r.g.A r.G.length r.g.c) 41)=br at *
    generalize al.heap.size=cw at *
    have cg:=au (fe br.heap.size br);have hq:=(lq ai.o cd.o (by have:=(iU ai.o).1;omega) (by have:=(iU ai.o).2;omega)).2.2 rfl (ly _);have hr:=(lq ai.o b8.o (by have:=(iU ai.o).1;omega) (by have:=(iU ai.o).2;omega)).2.1 rfl eL;obtain⟨rfl,-,a9⟩:=hq;obtain⟨rfl,-⟩:=hr;have b6:=au a9;clear a9;have K:=au (KC.o HF.o br (ap.o _ bu.o) q b2.o b9.o);unfold jh at K;obtain⟨aa,ae,M,ag,af,J,ac,ad,ab,I⟩:=HC.o br bu.o;obtain⟨q0,q1,q2,q3,q4⟩:=Pq.o br bw.o;go_wp2_with fail;refine K.o.mono ?_;rintro e9 wz ⟨bz,rfl,hiff,hb⟩;obtain rfl:bz=true:=hiff.2 b6.o;have HE:=au (ap.o _ (aF bu.o hb));clear K hiff hb q0 q1 q2 q3 q4;clear aa ae M ag af J ac ad ab I
    try dsimp only
    go_wp2;go_ret;exact aK rfl HE.o
end Go.Proofs.YtbioiclabmbedaaGreatDoor
