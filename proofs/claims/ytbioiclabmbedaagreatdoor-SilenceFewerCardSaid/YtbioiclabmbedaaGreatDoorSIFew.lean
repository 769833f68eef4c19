/- A part of the proof: lemmas. -/
import Derived.Test.YtbioiclabmbedaaGreatDoorSIZFD
set_option maxHeartbeats 16000000
set_option maxRecDepth 100000
set_option linter.all false
namespace Go.CH.dh
open Go.CH.Scr
section
variable {W:Wd} {C:List Pt} {s:St} {bound c:Int}
theorem JF {I:List ik} (h:Holds W bound C) (M:∀ R ∈ I,R ∈ W.rs):Holds { W with rs:=I } bound C:=by
 refine Ct h rfl rfl (fun s c' s' hx=>?_);obtain⟨R,J,hm⟩:=kK hx;refine⟨c',?_,ly _⟩;unfold Wd.moves;exact List.mem_filterMap.2 ⟨R,M R J,by rw[<-O7 (W:=W) (W':={ W with rs:=I }) rfl rfl rfl rfl];exact hm⟩
end
section
variable {W:Wd} {C C':List Pt} {s s':St} {bound c:Int}
end
section
variable {T:eW} {a b:Int} {x y:Bs}
theorem Aq (h:bL T=true) (k:Nat) (h2:2<=T.rs.length):bL { T with rs:=T.rs.eraseIdx k }=true:=by
 obtain⟨⟨g1,g2,M⟩,h1,h3⟩:=bW.1 h;obtain⟨k1,k2⟩:=iI.1 h1;have I:List.Sublist (T.rs.eraseIdx k) T.rs:=Hm ..;refine bW.2 ⟨⟨fun e=>?_,kh I.length_le g2,M⟩,iI.2 ⟨(I.map ko).nodup k1,fun R J=>k2 R (I.subset J)⟩,h3⟩;have e:T.rs.eraseIdx k=[]:=e;have:=congrArg List.length e;rw[E7,lA] at this;split at this<;>omega
variable {bound:Int}
theorem JI  {C:List Pt} (h:jl T a x b y bound C) (k:Nat) (h2:2<=T.rs.length):jl { T with rs:=T.rs.eraseIdx k } a x b y bound C:=by
 obtain⟨h1,h3⟩:=h;obtain⟨e1,e2,e3⟩:=fP.1 h1;exact⟨fP.2 ⟨e1,e2,Aq e3 k h2⟩,JF (W:=bO T a x b y) h3 (fun R hR=>(Hm ..).subset hR)⟩
end
end Go.CH.dh
namespace Go.CH.bA
section
variable {c c':Nat→Nat→Int} {d e:Nat→Int} {n m:Nat} {bd:Int}
end
end Go.CH.bA
namespace Go.CH.Sil
open Go.CH.Scr Go.CH.dh Go.CH.Mtc
section
variable {T:eW} {k k2:Int} {x y:Bs} {a b:aQ} {bd:Int}
end
end Go.CH.Sil
namespace Go.Proofs.YtbioiclabmbedaaGreatDoor
open Go.CH Go.CH.Scr Go.CH.dh Go.CH.Mtc Go.CH.Sil
open Asn (kB nZ oV mR cF lF wi pX lS qx oW bU bV bK nR)
section
variable {T:eW} {a b:aQ} {bd:Int} {s:Sl}
theorem Sq (h:fG T a b s) (k:Nat) (J:2<=T.rs.length):fG { T with rs:=T.rs.eraseIdx k } a b s:=by
 obtain⟨hv,ha,hb⟩:=dW.1 h.ok;refine⟨dW.2 ⟨Aq hv k J,ha,hb⟩,h.b0,h.b1,h.len,fun q hq=>?_,h.fin⟩;have I:=h.ws q hq
 exact⟨I.ri,I.rj,I.rh,I.len,fun m g g'=>by
  obtain⟨k1,k2,k3,M⟩:=I.ps m g g'
  exact⟨k1,k2,k3,JI M k J⟩⟩
end
open Go.RowKit
open Go.ChangeMaps (setBlock)
theorem GK {α:Type} (R:α->List Value) (size:Nat) (h:∀ x,(R x).length=size):∀ (l:List α) (k:Nat),(l.flatMap R).drop (k*size)=(l.drop k).flatMap R
 | [],k=>by simp
 | x::l,0=>by simp
 | x::l,k+1=>by
  rw[mN,List.drop_succ_cons,List.drop_append,h,li,Nat.add_sub_cancel,Hk (by rw[h];omega),GK R size h l k];rfl
variable {w:World}{T:eW}
theorem EN   {a:TA} (hT:wC w T a) (hz:LZ w) {x:Ev} (hx:fB w x.A x.n.ws) {y:Ev} (hy:fB w y.A y.n.ws) {s:SL} (hs:SR w s) (b7:s.ws.length<=maxLen/\∀ e ∈ s.ws,e.ps.length<=maxLen/\e.ps.length<=e.c) (raw:Nat) (cr:raw<256) (bx:T.rs.length<=a.c) :
  Calls Tryz.prog 4 #[dV T a,Bg x,Bg y,.agg (jh s),.int .u8 (raw:Nat)] w (aS w (.bool true)):=by
 have h1:=aH (aI.begin w) aO (fN a.A T.rs.length a.c a.D T.ds.length a.d a.E T.es.length a.e T.drop T.ord T.ini) 25;have h2:=aH h1 aO (fh x.n.k x.A x.n.ws.length x.c) 28;have h3:=aH h2 aO (fh y.n.k y.A y.n.ws.length y.c) 28;have h4:=aH h3 aO (ie s.b s.A s.ws.length s.c s.u.A s.U.length s.u.c s.v.A s.V.length s.v.c s.g.A s.G.length s.g.c) 41;simp only[im] at h4;have cd:=au h4.cZ;obtain⟨ad,ai,ac,am,ak,aa⟩:=fu h4.drop.drop.drop;obtain⟨af,ag,-⟩:=bY h4.drop.drop;obtain⟨ae,J,-⟩:=bY h4.drop;obtain⟨M,an,ab,I,al,-⟩:=gu h4;have HC:=au (fun W (h:Below ((((w.alloc (.cells (fN a.A T.rs.length a.c a.D T.ds.length a.d a.E T.es.length a.e T.drop T.ord T.ini) 25)).alloc (.cells (fh x.n.k x.A x.n.ws.length x.c) 28)).alloc (.cells (fh y.n.k y.A y.n.ws.length y.c) 28)).alloc (.cells (ie s.b s.A s.ws.length s.c s.u.A s.U.length s.u.c s.v.A s.V.length s.v.c s.g.A s.G.length s.g.c) 41)).heap.size ((((w.alloc (.cells (fN a.A T.rs.length a.c a.D T.ds.length a.d a.E T.es.length a.e T.drop T.ord T.ini) 25)).alloc (.cells (fh x.n.k x.A x.n.ws.length x.c) 28)).alloc (.cells (fh y.n.k y.A y.n.ws.length y.c) 28)).alloc (.cells (ie s.b s.A s.ws.length s.c s.u.A s.U.length s.u.c s.v.A s.V.length s.v.c s.g.A s.G.length s.g.c) 41)) W)=>(show W.cell? ⟨w.heap.size,0,none⟩=some (.slice a.A T.rs.length a.c)/\W.cell? ⟨w.heap.size,1,none⟩=some (.slice a.D T.ds.length a.d)/\W.cell? ⟨w.heap.size,2,none⟩=some (.slice a.E T.es.length a.e)/\W.cell? ⟨w.heap.size,3,none⟩=some (.int .i64 T.drop)/\W.cell? ⟨w.heap.size,4,none⟩=some (.int .i64 T.ord)/\W.cell? ⟨w.heap.size,5,none⟩=some (.int .i64 T.ini)/\W.cell? ⟨w.heap.size+1,0,none⟩=some (.int .i64 x.n.k)/\W.cell? ⟨w.heap.size+1,1,none⟩=some (.slice x.A x.n.ws.length x.c)/\W.cell? ⟨w.heap.size+1+1,0,none⟩=some (.int .i64 y.n.k)/\W.cell? ⟨w.heap.size+1+1,1,none⟩=some (.slice y.A y.n.ws.length y.c)/\(o6 W (w.heap.size+1+1+1) (.int .i64 s.b) (.slice s.A s.ws.length s.c) (.slice s.u.A s.U.length s.u.c) (.slice s.v.A s.V.length s.v.c) (.slice s.g.A s.G.length s.g.c)) from⟨aG ad h,aG ai h,aG ac h,aG am h,aG ak h,aG aa h,aG af h,aG ag h,aG ae h,aG J h,aG M h,aG an h,aG ab h,aG I h,aG al h⟩));have bo:=au hT;have HZ:=au hz;have be:=au hx;have bf:=au hy;have bi:=au hs;have br:=au b7;clear hT hz hx hy hs b7 h1 h2 h3 h4 ad ai ac am ak aa af ag ae J M an ab I al;have KF:=au (fun W (hb:Below w.heap.size w W)=>ru (ca:=x.c) (cb:=y.c) (bo.o.below hb) (fB.below be.o hb) (fB.below bf.o hb));have KC:=au (fun (hf:rU T x.n y.n=true) W (hb:Below w.heap.size w W) (s:SL) (hs:SR W s) (hz:XZ s)=>iH (ca:=x.c) (cb:=y.c) ((aU hf).1 (bo.o.below hb)) (HZ.o.below hb) (fB.below be.o hb) (fB.below bf.o hb) (by have:=(aU hf).2.2.1.1;omega) (by have:=(aU hf).2.2.1.2;omega) (aU hf).2.2.2.1 (aU hf).2.2.2.2 hs hz);have KH:=au (fun W (hb:Below w.heap.size w W)=>uN W (HZ.o.below hb));unfold dV Bg at *
 try unfold vI at *
 try unfold jh at *
 unfold dR at *
 generalize bu:T.rs.length=n1 at *
 generalize b5:T.ds.length=n2 at *
 generalize cf:T.es.length=n3 at *
 have ap:=au bu;have ck:=au b5;have cp:=au cf;clear bu b5 cf;generalize bw:x.n.ws.length=nx at *
 have cq:=au bw;clear bw;generalize b0:y.n.ws.length=ny at *
 have cj:=au b0;clear b0
 go_enter Tryz.func4,Tryz.ntmps4
 go_upto_region 1 with (fail);generalize (((w.alloc (.cells (fN a.A n1 a.c a.D n2 a.d a.E n3 a.e T.drop T.ord T.ini) 25)).alloc (.cells (fh x.n.k x.A nx x.c) 28)).alloc (.cells (fh y.n.k y.A ny y.c) 28)).alloc (.cells (ie s.b s.A s.ws.length s.c s.u.A s.U.length s.u.c s.v.A s.V.length s.v.c s.g.A s.G.length s.g.c) 41)=w0 at *
 generalize ju:w.heap.size=gt at HC ⊢;clear ju;have ao:=au (fun W (h:Below w0.heap.size w0 W)=>cd.o.trans (h.mono cd.o.size));have bm:=au (fe w0.heap.size w0);have K:=au (KH.o w0 (ao.o _ bm.o));go_wp2_with fail;refine K.o.mono ?_;rintro e9 w1 ⟨rfl,hb⟩;have aA:=au (aF bm.o hb);clear K bm hb
 try dsimp only
 have K:=au (KF.o w1 (ao.o _ aA.o));cases hf:rU T x.n y.n with
 | false=>
  rw[hf] at K;have HF:=au hf;clear hf;obtain⟨ad,ai,ac,am,ak,aa,af,ag,ae,J,M,an,ab,I,al⟩:=HC.o w1 aA.o;go_wp2_with fail;refine K.o.mono ?_;rintro e9 w2 ⟨rfl,hb⟩;have ar:=au (aF aA.o hb);clear K hb aA;clear ad ai ac am ak aa af ag ae J M an ab I al
  try dsimp only
  obtain⟨ad,ai,ac,am,ak,aa,af,ag,ae,J,M,an,ab,I,al⟩:=HC.o w2 ar.o;have HE:=au (ao.o _ ar.o);go_wp2;go_ret;exact aK rfl HE.o
 | true=>
  rw[hf] at K;have HF:=au hf;clear hf;obtain⟨ad,ai,ac,am,ak,aa,af,ag,ae,J,M,an,ab,I,al⟩:=HC.o w1 aA.o;go_wp2_with fail;refine K.o.mono ?_;rintro e9 w2 ⟨rfl,hb⟩;have ar:=au (aF aA.o hb);clear K hb aA;clear ad ai ac am ak aa af ag ae J M an ab I al
  try dsimp only
  have K:=au (GN (bi.o.below (ao.o w2 ar.o)) br.o.1 (fun e he=>(br.o.2 e he).1));unfold jh at K;cases a0:bS s with
  | false=>
   rw[a0] at K;have cc:=au a0;clear a0;obtain⟨ad,ai,ac,am,ak,aa,af,ag,ae,J,M,an,ab,I,al⟩:=HC.o w2 ar.o;go_wp2_with fail;refine K.o.mono ?_;rintro e9 w3 ⟨rfl,hb⟩;have aq:=au (aF ar.o hb);clear K hb ar;clear ad ai ac am ak aa af ag ae J M an ab I al
   try dsimp only
   obtain⟨ad,ai,ac,am,ak,aa,af,ag,ae,J,M,an,ab,I,al⟩:=HC.o w3 aq.o;have HE:=au (ao.o _ aq.o);go_wp2;go_ret;exact aK rfl HE.o
  | true=>
   rw[a0] at K;have cc:=au a0;clear a0;obtain⟨ad,ai,ac,am,ak,aa,af,ag,ae,J,M,an,ab,I,al⟩:=HC.o w2 ar.o;go_wp2_with fail;refine K.o.mono ?_;rintro e9 w3 ⟨rfl,hb⟩;have aq:=au (aF ar.o hb);clear K hb ar;clear ad ai ac am ak aa af ag ae J M an ab I al
   try dsimp only
   have ce:=au (MF cc.o (fun e he=>(br.o.2 e he).2));by_cases hr:n1<2
   ·have cm:(n1:Int)<2:=by omega
    skip
    obtain⟨ad,ai,ac,am,ak,aa,af,ag,ae,J,M,an,ab,I,al⟩:=HC.o w3 aq.o;have HE:=au (ao.o _ aq.o);go_wp2;go_ret;exact aK rfl HE.o
   ·have cm:¬ (n1:Int)<2:=by omega
    have K:=au (KC.o HF.o w3 (ao.o _ aq.o) s (bi.o.below (ao.o _ aq.o)) ce.o);unfold jh at K;obtain⟨ad,ai,ac,am,ak,aa,af,ag,ae,J,M,an,ab,I,al⟩:=HC.o w3 aq.o;go_wp2_with fail;refine K.o.mono ?_;rintro e9 w4 ⟨bz,rfl,hiff,hb⟩;have a2:=au (aF aq.o hb);have HI:=au hiff;clear K hb hiff aq;clear ad ai ac am ak aa af ag ae J M an ab I al
    try dsimp only
    cases bz with
    | false=>
     obtain⟨ad,ai,ac,am,ak,aa,af,ag,ae,J,M,an,ab,I,al⟩:=HC.o w4 a2.o;have HE:=au (ao.o _ a2.o);go_wp2;go_ret;exact aK rfl HE.o
    | true=>
     have ch:=au (HI.o.1 rfl);clear HI;obtain⟨ad,ai,ac,am,ak,aa,af,ag,ae,J,M,an,ab,I,al⟩:=HC.o w4 a2.o;have ci:((n1:Int)==0)=false:=by simp;omega
     have b2:¬ (n1:Int)=0:=by omega
     go_upto_region 6 with (fail);obtain⟨kk,bp⟩:∃ kk:Nat,kk=raw % n1:=⟨_,rfl⟩;have co:kk<n1:=by rw[bp];exact sn _ eL
     have b1:(raw:Int) % (n1:Int)=(kk:Int):=by rw[bp];rfl
     rw[b1];have aE:=au (show n1<=60 from by rw[<-ap.o];exact(aU HF.o).2.1.1);clear b1 bp ci b2;clear ad ai ac am ak aa af ag ae J M an ab I al;have a8:=au (fun W (h:Below w0.heap.size w0 W)=>bo.o.below (ao.o W h));have h4:=aH (aI.begin w4) aN (fN a.A n1 a.c a.D n2 a.d a.E n3 a.e T.drop T.ord T.ini) 25;have h5:=h4.drew aO;have H5:=au h5;have b9:=au (aF a2.o (h5.mod.below (fun _ _ h=>h)));clear h4 h5;have a4:=au a2.o;generalize cn:w4.alloc (.cells (fN a.A n1 a.c a.D n2 a.d a.E n3 a.e T.drop T.ord T.ini) 25)=v4 at *
     generalize w4.heap.size=a9 at H5 ⊢;clear cn;have a1:=au (fun W (h:Below w0.heap.size w0 W)=>(show W.cell? ⟨gt,0,none⟩=some (.slice a.A n1 a.c) from(HC.o W h).1));have b4:=a1.o _ b9.o;have b8:=fun W=>yu Jj a.A n1 a.c kk .i64 (kk:Int) rfl eL W;have cg:=fun W=>jE Jj a.A n1 a.c (kk+1) .i64 ((kk:Int)+1) rfl eL W;have tw:IntKind.i64.wrap ((kk:Int)+1)=(kk:Int)+1:=by have:=aE.o;exact kp _ eL
     refine aR (fun W:World=>W.cell? ⟨gt,0,none⟩=some (.slice a.A n1 a.c)) rfl eQ b4 ?_;clear b4;generalize v4.drew=v5 at *
     refine dD rfl fY (fun K hK=>?_);go_wp2_with fail;have H6:=au (show aI eR w4 (aj (OG (some ⟨v5.heap.size,0,none⟩) 0 []) (aj (av a9 (fN a.A n1 a.c a.D n2 a.d a.E n3 a.e T.drop T.ord T.ini) 25) bG)) _ from H5.o.fresh aO (Dz v5 50 4));have bn:=au (aF a4.o (H6.o.mod.below (fun _ _ h=>h)));refine hK.o _ _ (a1.o _ bn.o) ?_;clear hK H5 b9;generalize v5.alloc (.cells #[] 50)=v6 at *
     generalize v5.heap.size=ct at *
     (repeat(first|refine bM ?_|refine bN ?_))
     refine dD rfl fY (fun K hK=>?_);have a3:=(a8.o v6 bn.o).rs;refine Aj (.tmp 47) (.tmp 51) rfl (n:=0) (m:=kk) (l:=[]) (r:=T.rs.take kk) rfl (by rw[kt,ap.o];omega) rfl rfl (by have:=aE.o;clear tw;omega) aO ?_ H6.o ?_
     ·have h:=Src.take (k:=kk) a3 (by rw[ap.o];omega);rw[iX gV 4 (fun _=>rfl)] at h;unfold lY sD;rw[kt,ap.o,GF eL];exact h
     intro A7 c7 v7 bc;have H7:=au bc;have bh:=au (aF a4.o (bc.mod.below (fun _ _ h=>h)));refine hK.o _ _ (a1.o _ bh.o) ?_;clear hK H6 bn bc a3
     (repeat(first|refine bM ?_|refine bN ?_))
     refine dD rfl fY (fun K hK=>?_);have a3:=(a8.o v7 bh.o).rs;refine Aj (.tmp 52) (.tmp 57) rfl (n:=0+kk) (m:=n1-(kk+1)) (l:=[]++T.rs.take kk) (r:=T.rs.drop (kk+1)) (by rw[gd,kt,ap.o];simp;omega) (by rw[k6,ap.o]) rfl rfl (by have:=aE.o;clear tw;omega) aO ?_ H7.o ?_
     ·have h:=Src.cut (k:=kk+1) (c:=a.c) a3 (by rw[ap.o];omega) (by rw[ap.o];exact bx);rw[GK gV 4 (fun _=>rfl)] at h;unfold lY sD;rw[k6,ap.o];rw[ap.o] at h;exact h
     intro A9 c9 v9 a5;have er:[]++T.rs.take kk++T.rs.drop (kk+1)=T.rs.eraseIdx kk:=by rw[l4,List.eraseIdx_eq_take_drop_succ]
     rw[er] at a5;have H9:=au a5;have bv:=au (aF a4.o (a5.mod.below (fun _ _ h=>h)));refine hK.o _ _ (a1.o _ bv.o) ?_;clear hK H7 bh a5 a3 er
     (repeat(first|refine bM ?_|refine bN ?_))
     obtain⟨f9,ba⟩:=H9.o.drop.fst;have q0:=ay (v:=.slice a.A n1 a.c) (i:=0) ba rfl;have qf:=aM ba 0;have bk:aI eR w4 (aj (av a9 (fN A9 (kk+(n1-(kk+1))) c9 a.D n2 a.d a.E n3 a.e T.drop T.ord T.ini) 25) (aj (OG A9 c9 (T.rs.eraseIdx kk)) bG)) _:=aJ H9.o.kN aO 0 (.slice A9 (kk+(n1-(kk+1))) c9);have bb:=au bk;have az:=au (aF a4.o (bk.mod.below (fun _ _ h=>h)));clear ba bk b8 cg tw;refine dD rfl fY (fun K hK=>?_);go_wp2_with fail;refine hK.o _ _ (a1.o _ az.o) ?_;clear hK H9 bv q0 qf;generalize v9.setCell ⟨a9,0,none⟩ (.slice A9 (kk+(n1-(kk+1))) c9)=bj at *
     (repeat(first|refine bM ?_|refine bN ?_))
     refine lex_nil ?_;obtain⟨f1,aD⟩:=bb.o.fst;obtain⟨f2,b6⟩:=bb.o.drop.fst;have q0:=ay (v:=.slice A9 (kk+(n1-(kk+1))) c9) (i:=0) aD rfl;have q1:=ay (v:=.slice a.D n2 a.d) (i:=1) aD rfl;have q2:=ay (v:=.slice a.E n3 a.e) (i:=2) aD rfl;have q3:=ay (v:=.int .i64 T.drop) (i:=3) aD rfl;have q4:=ay (v:=.int .i64 T.ord) (i:=4) aD rfl;have q5:=ay (v:=.int .i64 T.ini) (i:=5) aD rfl;have a6:(T.rs.eraseIdx kk).length=kk+(n1-(kk+1)):=by rw[E7,ap.o,if_pos co];omega
     have aw:=(aU HF.o).1 (a8.o bj az.o);have a7:kr bj { T with rs:=T.rs.eraseIdx kk } ⟨A9,c9,a.D,a.d,a.E,a.e⟩:={ rs:=Ya b6,ds:=aw.ds,es:=aw.es,lr:=by show(T.rs.eraseIdx kk).length<=_;have:=aE.o;omega,ld:=aw.ld,le:=aw.le,sr:=fun R hR=>aw.sr R ((Hm ..).subset hR),sd:=aw.sd,se:=aw.se };have ax:=ao.o _ az.o;have K:=iH (ca:=x.c) (cb:=y.c) a7 (HZ.o.below ax) (fB.below be.o ax) (fB.below bf.o ax) (by have:=(aU HF.o).2.2.1.1;omega) (by have:=(aU HF.o).2.2.1.2;omega) (aU HF.o).2.2.2.1 (aU HF.o).2.2.2.2 (bi.o.below ax) ce.o;unfold dV vI jh dR at K;dsimp only at K;rw[a6,ck.o,cp.o,cq.o,cj.o] at K;have b3:=au K;clear K a7 aw a6 aD b6 ax;obtain⟨ad,ai,ac,am,ak,aa,af,ag,ae,J,M,an,ab,I,al⟩:=HC.o bj az.o;clear ad ai ac am ak aa;go_wp2_with fail;refine b3.o.mono ?_;rintro e9 cv ⟨bz,rfl,hiff,hb⟩;obtain rfl:bz=true:=hiff.2 (Sq ch.o kk (by rw[ap.o];omega));have HE:=au (ao.o _ (aF az.o hb));clear b3 hiff hb q0 q1 q2 q3 q4 q5 bb af ag ae J M an ab I al
     try dsimp only
     go_wp2;go_ret;exact aK rfl HE.o
end Go.Proofs.YtbioiclabmbedaaGreatDoor
