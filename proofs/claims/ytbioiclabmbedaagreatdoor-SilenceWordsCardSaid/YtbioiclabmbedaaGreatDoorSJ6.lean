/- A part of the proof: lemmas. -/
import Derived.Test.YtbioiclabmbedaaGreatDoorSJ5
set_option maxHeartbeats 16000000
set_option maxRecDepth 100000
set_option linter.all false
namespace Go.Proofs.YtbioiclabmbedaaGreatDoor
open Go.RowKit Go.CH Go.CH.Scr Go.CH.dh
open Go.ChangeMaps (setBlock)
structure RA where
 r:AR
 A:eV
 c:Nat
def dZ(x:RA):List Value:=[.int .i64 (x.r.ix:Nat),.int .i64 x.r.c,.slice x.A x.r.f.length x.c,.string (bs x.r.t)]
theorem Db(l:List RA):∀ u ∈ l.flatMap dZ,u.oneCell'=true:=by
 intro u hu;obtain⟨x,-,hx⟩:=List.mem_flatMap.1 hu;unfold dZ at hx;simp only[np,sb,or_false] at hx;rcases hx with rfl|rfl|rfl|rfl<;>rfl
def kY:List RA->CH.aU
 | []=>bG
 | x::l=>aj (gD x.A x.c x.r.f) (kY l)
theorem u6:∀ {l:List RA},(kY l).Ok
 | []=>aM
 | _::_=>aB iG u6
theorem Gh(x:RA):∀ l:List RA,kY (l++[x])=aj (gD x.A x.c x.r.f) (kY l)
 | []=>rfl
 | y::l=>by
  show aj _ (kY (l++[x]))=aj _ (aj _ (kY l))
  rw[Gh x l];ac_rfl
def sQ(A:eV)(c:Nat)(l:List RA):CH.aU:=aV 177 4 (.slice A l.length c) l.length (l.flatMap dZ)
variable{A:eV}{c n g:Nat}{w w0 W:World}{F F0:Nat->Prop}{a:Act}{Q:Exit->Act->World->Prop}{t:TypeId}{X:CH.aU}{rs:List im}{k:Int}
theorem zV{l:List RA}:(sQ A c l).Ok:=dQ
instance {A:eV} {c:Nat} {l:List RA}:(sQ A c l).Ok:=zV
abbrev Vw(w:World)(A:eV)(l:List RA):Prop:=sI dZ 4 w A l
theorem acG{l:List RA}(h:sQ A c l w F):Vw w A l:=iK h (Db l)
theorem ad4:eO Tryz.prog 161 177 (.agg (km 0 0 none 0 0 ⟨#[]⟩)) 4 56:=⟨Tryz.underlying161,by kernel_rfl,by decide,by decide⟩
theorem Vx{l:List RA}{x:RA}:aV 177 4 (.slice A (l.length+1) c) (l.length+1) (l.flatMap dZ++dZ x)=sQ A c (l++[x]):=by
 unfold sQ;rw[uu,gj,pD,vq]
theorem ZT{Y:CH.aU}{ops:Array Oper}{rest:List Oper}{o:Oper}(M:o.guard=none)(s x:Operand)(ho:o.op=.call { callee:=.builtin .append,args:=#[s,x],argTypes:=#[161,161] }){l:List RA}(p:RA)(hl:l.length=n)(hsv:a.eval s=.slice A n c)(hx:a.eval x=.slice (some ⟨W.heap.size,0,none⟩) 1 1)(hn:n<=1000000)(hY:Y.Ok)(h:aI F0 w0 (aj (sQ A c l) Y) W)(hK:∀ A' c' w',aI F0 w0 (aj (sQ A' c' (l++[p])) Y) w'->wpList Tryz.prog ops Q rest (a.put o.dst (.slice A' (n+1) c')) w'):wpList Tryz.prog ops Q (o::rest) a (W.alloc (.cells (km (p.r.ix:Nat) p.r.c p.A p.r.f.length p.c (bs p.r.t)) 177)):=by
 subst hl;obtain⟨F7,J,-,ac⟩:=(h.below aO ((fe _ _).alloc (fL _) (.cells (km (p.r.ix:Nat) p.r.c p.A p.r.f.length p.c (bs p.r.t)) 177))).take zV hY;refine AB M s x ho ad4 _ 0 (v:=.slice A l.length c) (n:=l.length) (xs:=l.flatMap dZ) hsv J.1 (A:=some ⟨W.heap.size,0,none⟩) (m:=1) (c:=1) (news:=dZ p) hx (og (cs:=(km (p.r.ix:Nat) p.r.c p.A p.r.f.length p.c (bs p.r.t))) (fun u hu=>Db [p] u (by simpa[dZ] using hu))) (by unfold maxLen;omega) eL (fy _) ?_;intro v8 w8 I ab aa;have S8:=ac _ _ (jk J I ab aa);obtain⟨A8,c8,rfl⟩:=iy I;rw[Vx] at S8;exact hK A8 c8 w8 S8
structure SA where
 L:eV
 lc:Nat
 R:eV
 rc:Nat
 q:List RA
def kZ(T:eW)(k:Int)(x:Bs):List Bs × List AR:=if word k x then((aQ k (lower x)).1,ig T.rs k) else([],[])
def Ku(l:List Bs)(s:SA):Array Value:=(fx s.L l.length s.lc s.R s.q.length s.rc)
def iI(l:List Bs)(s:SA):CH.aU:=aj (gD s.L s.lc l) (aj (sQ s.R s.rc s.q) (kY s.q))
theorem rW{l:List Bs}{s:SA}:(iI l s).Ok:=aB iG (aB zV u6)
instance {l:List Bs} {s:SA}:(iI l s).Ok:=rW
def vg(w:World)(T:eW)(k:Int)(x:Bs)(e:Ending)(w':World):Prop:=
 ∃ s:SA,e=.returned (.tuple #[.agg (Ku (kZ T k x).1 s),.bool (word k x)])/\s.q.map (·.r)=(kZ T k x).2/\bT w eR (iI (kZ T k x).1 s) w'
theorem oV{M J:Value}(h:aI F0 w0 (aj (av g #[M,J] t) X) w)(I:X.Ok)(b0 b1:Value):
  aI F0 w0 (aj (av g #[b0,b1] t) X) ((w.setCell ⟨g,0,none⟩ b0).setCell ⟨g,1,none⟩ b1):=by
 have h0:aI F0 w0 (aj (av g #[b0,J] t) X) _:=aJ h I 0 b0;exact aJ h0 I 1 b1
theorem ZU(hn:n<rs.length):(rs.zipIdx.take (n+1)).filterMap (Bz k)=(rs.zipIdx.take n).filterMap (Bz k)++(Bz k (rs[n],n)).toList:=by
 have e:rs.zipIdx.take (n+1)=rs.zipIdx.take n++[(rs[n],n)]:=by
  rw[kq (by rw[xF];exact hn)];simp
 rw[e,sS];cases h:Bz k (rs[n],n)<;>simp[h]
theorem acH(hn:rs.length<=n):(rs.zipIdx.take n).filterMap (Bz k)=ig rs k:=by
 rw[tP (by rw[xF];exact hn)];rfl
variable{T:eW}
theorem Dc{a:TA}(hT:jV w T a)(hz:LZ w)(k:Int)(x:Bs)(hx:x.length<=1000000):
  Calls Tryz.prog 88 #[dI T a,.int .i64 k,.string (bs x)] w (vg w T k x):=by
 have HT:=au hT;have HZ:=au hz;have HX:=au hx;have h1:aI eR w (aj (av w.heap.size (dN T a) 25) bG) _:=aH (aI.begin w) aM (dN T a) 25;have KF:=au (fun W (hz:LZ W)=>tQ k (bs x) W (by rw[cO];exact hx) hz);simp only[iQ] at KF;unfold aT at KF;have H1:=au h1;clear hT hz hx h1;unfold dI dN;unfold dN at H1
 go_enter Tryz.func88,Tryz.ntmps88
 have H2:=au (show aI eR w (aj (av (w.heap.size+1) (fx none 0 0 none 0 0) 163) (aj (av w.heap.size (kl T a) 25) bG)) _ from(by have h2:=aH H1.o aO (fx none 0 0 none 0 0) 163;rw[ik] at h2;exact h2));go_wp2_with fail;clear H1;generalize a7:(w.alloc (.cells (kl T a) 25)).alloc (.cells (fx none 0 0 none 0 0) 163)=w1 at *
 clear a7;generalize w.heap.size+1=gr at *
 generalize w.heap.size=gt at *
 have ad:=au (show(aj (av gr (fx none 0 0 none 0 0) 163) (aj (av gt (kl T a) 25) bG)).Ok from aB aF aO);have am:=au (fun W O (h:aI eR w O W)=>HZ.o.below (h.mod.below (fun _ _ h=>h)));by_cases hw:word k x=true
 ·have e1:iC k x=(lower x,0):=by unfold iC;rw[if_pos hw]
  have e2:bC k (lower x)=((aQ k (lower x)).1,0):=by unfold bC;rw[if_pos (iY hw)]
  have e3:kZ T k x=((aQ k (lower x)).1,ig T.rs k):=by unfold kZ;rw[if_pos hw]
  have az:(gG k x).1=(aQ k (lower x)).1:=by unfold gG;rw[if_pos hw]
  have a4:=au (show(aQ k (lower x)).1.length<=1000000 from by rw[<-az];exact j8 (mh k x) eL);have KL:=au (fun W (hz:LZ W)=>ji k (bs (lower x)) W (by rw[cO];unfold lower;rw[fY];exact HX.o) hz);simp only[iQ] at KL;unfold mR at KL;simp only[e2] at KL;simp only[e1] at KF
  have a2:=au (show ∀ (l:List Bs) (s:SA) W,l=(aQ k (lower x)).1->s.q.map (·.r)=ig T.rs k->bT w eR (iI l s) W->vg w T k x (.returned (.tuple #[.agg (Ku l s),.bool true])) W from fun l s W hl hq hp=>by
   unfold vg;rw[e3,hw];subst hl
   exact⟨s,rfl,hq,hp⟩)
  obtain⟨l,hl⟩:∃ l,l=(aQ k (lower x)).1:=⟨_,rfl⟩;have HL:=au hl;rw[<-hl] at KL a4;clear e1 e2 e3 hw az hl;refine(KF.o _ (am.o _ _ H2.o)).mono ?_;rintro e9 w2 ⟨rfl,hb⟩;have H3:=au (H2.o.below ad.o hb);have aa:=au (KL.o _ (am.o _ _ H3.o));clear KF KL H2 hb;dsimp only;go_wp2_with fail;refine aa.o.mono ?_;rintro e9 w3 ⟨L,lc,rfl,hp⟩;have H4:=au (H3.o.fresh ad.o hp);clear aa H3 hp;dsimp only;obtain⟨n1,ap⟩:∃ n,n=l.length:=⟨_,rfl⟩;have a8:=au ap;rw[<-ap];clear ap;have a9:=au (HT.o.below (H4.o.mod.below (fun _ _ h=>h)));have H5:=au (aH H4.o (aB iG ad.o) (fx L n1 lc none 0 0) 163);clear H4;obtain⟨fr,I⟩:=H5.o.drop.drop.drop.fst;have c0:=ay (i:=0) I rfl;clear I;go_wp2_with fail;clear c0;generalize w3.alloc (.cells (fx L n1 lc none 0 0) 163)=w4 at *
  generalize w3.heap.size=gp at *
  obtain⟨Z,hZ⟩:∃ Z,Z=aj (gD L lc l) (aj (av gr (fx none 0 0 none 0 0) 163) (aj (av gt (kl T a) 25) bG)):=⟨_,rfl⟩;have aE:Z.Ok:=by rw[hZ];exact aB iG ad.o
  have H6:=au (((H5.o.fresh (aB aF (aB iG ad.o)) (⟨fun _=>False,gu _ _ _,Mod.refl _ _,fun i hi=>.inl hi⟩:bT _ eR (sQ none 0 []) _)).perm (by rw[hZ];unfold kY;rw[jC];ac_rfl:_=aj (av gp (fx L n1 lc none 0 0) 163) (aj (sQ none 0 []) (aj (kY []) Z)))));have a5:=au hZ;have aq:=au aE;obtain⟨N,hN⟩:∃ N,N=T.rs.length:=⟨_,rfl⟩;have a3:=au (show N<=1000000 from by rw[hN];exact HT.o.lr);clear H5 hZ aE ad a9;rw[<-hN];have HN:=au hN;clear hN;go_loopw [39] (fun i wr=>∃ (n:Nat) (q:List RA) (A:eV) (c:Nat),n<=N/\q.length<=n/\i=.int .i64 n/\q.map (·.r)=(T.rs.zipIdx.take n).filterMap (Bz k)/\aI eR w (aj (av gp (fx L n1 lc A q.length c) 163) (aj (sQ A c q) (aj (kY q) Z))) wr) (fun i _=>N-(intOf i).toNat)
  case atStart=>exact⟨0,[],none,0,fy _,fy _,rfl,rfl,H6.o⟩
  case round=>
   clear H6;obtain⟨n,q,A,c,hn,aA,rfl,hq,hR⟩:=hrel;have HR:=au hR;have HQ:=au hq;have ak:=au aA;clear hR hq aA;by_cases aw:n<N
   ·have ar:n<T.rs.length:=by rw[<-HN.o];exact aw
    have ae:=au (show n+1<=N from aw);have bc:(n:Int)<1000000:=by have:=a3.o;omega
    obtain⟨b,o,hA,hc⟩:=HT.o.rs.at eL;rw[hA];obtain⟨r0,r1,r2,r3⟩:=hc wr (HR.o.mod.below (fun _ _ h=>h)) n ar;have HA:=au hA;have a1:=au (HT.o.sr _ (gw ar));have J:=au (ZU (k:=k) ar);clear hc hA;have al:∀ R,R=T.rs[n]->Bz k (R,n)=if R.k=k then(if word k R.f=true then some ⟨n,R.c,(aQ k R.f).1,R.t⟩ else none) else none:=fun R _=>rfl
    have al:=au (al _ rfl);rw[al.o] at J;clear al;generalize T.rs[n]=R at *
    obtain⟨Rk,Rf,Rt,Rc⟩:=R;dsimp only at r0 r1 r2 r3 a1 J;have ac:=au (show(aj (av gp (fx L n1 lc A q.length c) 163) (aj (sQ A c q) (aj (kY q) Z))).Ok from aB aF (aB zV (aB u6 aq.o)));have H7:=au (aH HR.o ac.o #[.int .i64 0,.string { data:=#[] },.string { data:=#[] },.int .i64 0] 50);go_upto_region 10 with (fail)
    iterate 13 (first|go_values|go_guarded|go_step)
    clear HR r0 r1 r2 r3;generalize wr.alloc (.cells #[.int .i64 0,.string { data:=#[] },.string { data:=#[] },.int .i64 0] 50)=w5 at *
    generalize wr.heap.size=gq at *
    obtain⟨r0,r1,r2,r3,rf⟩:=bq H7.o;go_upto_region 11 with (fail);have H8:=au (aJ (aJ (aJ (aJ H7.o ac.o 0 (.int .i64 Rk)) ac.o 1 (.string (bs Rf))) ac.o 2 (.string (bs Rt))) ac.o 3 (.int .i64 Rc):aI eR w (aj (av gq (mL Rk (bs Rf) (bs Rt) Rc) 50) (aj (av gp (fx L n1 lc A q.length c) 163) (aj (sQ A c q) (aj (kY q) Z)))) _);clear H7 r0 r1 r2 r3 rf;generalize (((w5.setCell ⟨gq,0,none⟩ (.int .i64 Rk)).setCell ⟨gq,1,none⟩ (.string (bs Rf))).setCell ⟨gq,2,none⟩ (.string (bs Rt))).setCell ⟨gq,3,none⟩ (.int .i64 Rc)=w6 at *
    obtain⟨r0,r1,r2,r3,rf⟩:=bq H8.o;by_cases af:Rk=k
    ·have t1:(Rk != k)=false:=by simp[af]
     rw[if_pos af] at J;have KL:=au (fun W (hz:LZ W)=>ji k (bs Rf) W (by rw[cO];exact a1.o.1) hz);simp only[iQ] at KL;unfold mR at KL;have aa:=au (KL.o _ (am.o _ _ H8.o));clear KL af;cases ag:word k Rf with
     | true=>
      have e2:bC k Rf=((aQ k Rf).1,0):=by unfold bC;rw[if_pos ag]
      rw[if_pos ag] at J;simp only[e2] at aa;have ai:=au (show _=_++[_] from J.o);clear J e2 ag;generalize (aQ k Rf).1=f at *
      go_wp2_with fail;refine aa.o.mono ?_;rintro e9 w7 ⟨F,fc,rfl,hp⟩;have H9:=au (H8.o.fresh (aB aF ac.o) hp);clear aa H8 hp r0 r1 r2 r3 rf t1;dsimp only;obtain⟨r0,r1,r2,r3,rf⟩:=bq H9.o.drop;obtain⟨fp,M⟩:=H9.o.drop.drop.fst;have c1:=ay (i:=1) M rfl;clear M;have ba:=au (show(aj (gD F fc f) (aj (av gq (mL Rk (bs Rf) (bs Rt) Rc) 50) (aj (av gp (fx L n1 lc A q.length c) 163) (aj (kY q) Z)))).Ok from aB iG (aB aF (aB aF (aB u6 aq.o))));have ax:=au (H9.o.perm (by ac_rfl:_=aj (sQ A c q) (aj (gD F fc f) (aj (av gq (mL Rk (bs Rf) (bs Rt) Rc) 50) (aj (av gp (fx L n1 lc A q.length c) 163) (aj (kY q) Z))))));clear H9;go_wp2_with (at_builtin;refine held ?_);refine lO.mk (ZT rfl (.tmp 58) (.tmp 66) rfl ⟨⟨n,Rc,f,Rt⟩,F,fc⟩ rfl rfl gh (by have:=ak.o;omega) ba.o ax.o ?_);intro A' c' w8 a0;have an:=au (a0.perm (by rw[Gh];ac_rfl:_=aj (av gp (fx L n1 lc A q.length c) 163) (aj (sQ A' c' (q++[⟨⟨n,Rc,f,Rt⟩,F,fc⟩])) (aj (kY (q++[⟨⟨n,Rc,f,Rt⟩,F,fc⟩])) (aj (av gq (mL Rk (bs Rf) (bs Rt) Rc) 50) Z)))));clear a0 ax c1 r0 r1 r2 r3 rf;obtain⟨fp,M⟩:=an.o.fst;have c1:=ay (i:=1) M rfl;have cf:=aN M;clear M;go_upto_region 15 with (fail);have bb:=au ((aJ an.o (aB zV (aB u6 (aB aF aq.o))) 1 (.slice A' (q.length+1) c'):aI eR w (aj (av gp (fx L n1 lc A' (q.length+1) c') 163) _) _));clear an c1 cf;generalize w8.setCell ⟨gp,1,none⟩ (.slice A' (q.length+1) c')=w9 at *
      go_wp2
      go_roundw
      case rel=>exact⟨n+1,q++[⟨⟨n,Rc,f,Rt⟩,F,fc⟩],A',c',ae.o,by have:=ak.o;rw[gj,pD];omega,by go_num,by rw[ai.o,kp,HQ.o];rfl,by
       rw[gj,pD]
       exact(bb.o.perm (by ac_rfl:_=aj (av gq (mL Rk (bs Rf) (bs Rt) Rc) 50) (aj (av gp (fx L n1 lc A' (q.length+1) c') 163) (aj (sQ A' c' (q++[⟨⟨n,Rc,f,Rt⟩,F,fc⟩])) (aj (kY (q++[⟨⟨n,Rc,f,Rt⟩,F,fc⟩])) Z))))).drop⟩
      case measure=>have:=ae.o;simp[intOf];omega
     | false=>
      have e2:bC k Rf=([],1):=by unfold bC;rw[if_neg (by rw[ag];decide)]
      rw[if_neg (by rw[ag];decide)] at J;simp only[e2] at aa;have ai:=au (J.o.trans (mT _));clear J e2 ag;go_wp2_with fail;refine aa.o.mono ?_;rintro e9 w7 ⟨F,fc,rfl,hp⟩;have H9:=au (H8.o.fresh (aB aF ac.o) hp);clear aa H8 hp r0 r1 r2 r3 rf t1;dsimp only;go_wp2
      go_roundw
      case rel=>exact⟨n+1,q,A,c,ae.o,by have:=ak.o;omega,by go_num,by rw[ai.o];exact HQ.o,H9.o.drop.drop⟩
      case measure=>have:=ae.o;simp[intOf];omega
    ·have t1:(Rk != k)=true:=by simp[af]
     rw[if_neg af] at J;have ai:=au (J.o.trans (mT _));clear J af;go_wp2
     go_roundw
     case rel=>exact⟨n+1,q,A,c,ae.o,by have:=ak.o;omega,by go_num,by rw[ai.o];exact HQ.o,H8.o.drop⟩
     case measure=>have:=ae.o;simp[intOf];omega
   ·have a6:=au (HQ.o.trans (acH (by rw[<-HN.o];omega)));have H7:=au (HR.o.perm (by rw[a5.o];ac_rfl:_=aj (av gr (fx none 0 0 none 0 0) 163) (aj (av gp (fx L n1 lc A q.length c) 163) (aj (gD L lc l) (aj (sQ A c q) (aj (kY q) (aj (av gt (kl T a) 25) bG)))))));clear HR;obtain⟨fr,I⟩:=H7.o.fst;have r0:=ay (i:=0) I rfl;have r1:=ay (i:=1) I rfl;have rf:=aN I;obtain⟨fp,M⟩:=H7.o.drop.fst;have c0:=ay (i:=0) M rfl;have c1:=ay (i:=1) M rfl;clear I M;go_wp2_with fail;have H8:=au (oV H7.o (aB aF (aB iG (aB zV (aB u6 aO)))) (.slice L n1 lc) (.slice A q.length c));clear H7 r0 r1 rf c0 c1;generalize (wr.setCell ⟨gr,0,none⟩ (.slice L n1 lc)).setCell ⟨gr,1,none⟩ (.slice A q.length c)=w9 at *
    obtain⟨fr,I⟩:=H8.o.fst;have ab:=I.1;clear I;refine bodyPost_ret (cZ rfl _ _ gr 163 (fx L n1 lc A q.length c) (0,0) rfl ab Tryz.underlying163 eQ) rfl ?_;clear ab;have h9:aI eR w (aj (iI l ⟨L,lc,A,c,q⟩) (aj (av gr (fx L n1 lc A q.length c) 163) (aj (av gp (fx L n1 lc A q.length c) 163) (aj (av gt (kl T a) 25) bG)))) w9:=H8.o.perm (by unfold iI;ac_rfl);have ao:=a2.o l ⟨L,lc,A,c,q⟩ w9 HL.o a6.o ((h9.swap.drop).post rW);unfold Ku at ao;rw[<-a8.o] at ao;exact ao
 ·have e1:iC k x=([],1):=by unfold iC;rw[if_neg hw]
  have e2:kZ T k x=([],[]):=by unfold kZ;rw[if_neg hw]
  have e3:word k x=false:=Bool.eq_false_iff.2 hw;simp only[e1] at KF
  have aD:=au (show ∀ W,aI eR w (aj (av gr (fx none 0 0 none 0 0) 163) (aj (av gt (kl T a) 25) bG)) W->vg w T k x (.returned (.tuple #[.agg (fx none 0 0 none 0 0),.bool false])) W from fun W h=>by
   unfold vg;rw[e2,e3];refine⟨⟨none,0,none,0,[]⟩,rfl,rfl,?_⟩;have h1:=(h.fresh aO (⟨fun _=>False,gu _ _ _,Mod.refl _ _,fun i hi=>.inl hi⟩:bT _ eR (sQ none 0 []) _)).fresh aO (⟨fun _=>False,gu _ _ _,Mod.refl _ _,fun i hi=>.inl hi⟩:bT _ eR (gD none 0 []) _);have h2:aI eR w (aj (iI [] ⟨none,0,none,0,[]⟩) (aj (av gr (fx none 0 0 none 0 0) 163) (aj (av gt (kl T a) 25) bG))) W:=h1.perm (by unfold iI kY;simp only[fG];ac_rfl)
   exact(h2.swap.drop).post rW)
  clear e1 e2 e3 hw;refine(KF.o _ (am.o _ _ H2.o)).mono ?_;rintro e9 w2 ⟨rfl,hb⟩;have H3:=au (H2.o.below ad.o hb);clear KF H2 hb;dsimp only;obtain⟨fr,I⟩:=H3.o.fst;have r0:=ay (i:=0) I rfl;have r1:=ay (i:=1) I rfl;have rf:=aN I;clear I;go_wp2_with fail;have H4:=au (oV H3.o aO (.slice none 0 0) (.slice none 0 0));clear H3 r0 r1 rf;generalize (w2.setCell ⟨gr,0,none⟩ (.slice none 0 0)).setCell ⟨gr,1,none⟩ (.slice none 0 0)=w3 at *
  obtain⟨fr,I⟩:=H4.o.fst;have ab:=I.1;clear I;refine bodyPost_ret (cZ rfl _ _ gr 163 (fx none 0 0 none 0 0) (0,0) rfl ab Tryz.underlying163 eQ) rfl ?_;clear ab;exact aD.o _ H4.o
theorem Sf(p q:Bs):(!(@BEq.beq (List UInt8) (@List.instBEq UInt8 instBEqOfDecidableEq) (bs p).toList (bs q).toList))=!decide (p=q):=by
 rw[CI,CI]
 show(!(@BEq.beq (List UInt8) (@List.instBEq UInt8 instBEqOfDecidableEq) p q))=_
 by_cases h:p=q<;>simp[h]
theorem Gi{B:eV}{d:Nat}{C D:List Bs}(hA:fu w A C)(hB:fu w B D)(hl:C.length<=4611686018427387904)(ap:D.length<=4611686018427387904):
  Calls Tryz.prog 83 #[.slice A C.length c,.slice B D.length d] w (aT w (.bool (decide (C=D)))):=by
 have HA:=au hA;have HB:=au hB;obtain⟨n,hn⟩:∃ n,n=C.length:=⟨_,rfl⟩;obtain⟨m,hm⟩:∃ m,m=D.length:=⟨_,rfl⟩;rw[<-hn] at hl ⊢;rw[<-hm] at ap ⊢;have HN:=au hn;have HM:=au hm;clear hA hB hn hm;by_cases ab:n=m
 ·subst ab;obtain⟨b,hb⟩:∃ b,b=decide (C=D):=⟨_,rfl⟩;rw[<-hb];have HV:=au hb;clear hb
  go_enter Tryz.func83,Tryz.ntmps83
  go_wp2_with fail;go_loopw [13] (fun i wr=>∃ k:Nat,k<=n/\i=.int .i64 k/\C.take k=D.take k/\Below w.heap.size w wr) (fun i _=>n-(intOf i).toNat)
  case atStart=>exact⟨0,fy _,rfl,by simp,fe _ _⟩
  case round=>
   obtain⟨k,hk,rfl,af,M⟩:=hrel;have aa:=au af;have ad:=au M;clear af M;by_cases ac:k<n
   ·have ai:k<C.length:=by rw[<-HN.o];exact ac
    have am:k<D.length:=by rw[<-HM.o];exact ac
    have ag:=au ac;obtain⟨b1,o1,rfl,ak⟩:=HA.o.at eL;obtain⟨b2,o2,rfl,ae⟩:=HB.o.at eL;have an:=au (show C[k]=D[k]->C.take (k+1)=D.take (k+1) from fun h=>by rw[kq ai,kq am,aa.o,h]);have aq:=au (show C[k]≠D[k]->b=false from fun h=>by rw[HV.o];exact decide_eq_false (fun e=>h (by simp only[e])));have J:=au (dB ad.o);have al:=And.intro (ak _ J.o k ai) (ae _ J.o k am);clear ak ae;generalize C[k]=p at *
    generalize D[k]=q at *
    go_wp2_with fail;refine aP (fun W=>W.cell? ⟨b1,o1+k,none⟩=some (.string (bs p))/\W.cell? ⟨b2,o2+k,none⟩=some (.string (bs q))) gh eQ al ?_;clear al
    (repeat(first|refine bM ?_|refine bN ?_))
    refine lex_nil ?_;by_cases I:p=q
    ·have t:=(Sf p q).trans (show _=false from by simp[I]);have ao:=au (an.o I);clear I;rw[t];clear t;go_wp2
     go_roundw
     case rel=>exact⟨k+1,ag.o,by go_num,ao.o,J.o⟩
     case measure=>have:=ag.o;simp[intOf];omega
    ·have t:=(Sf p q).trans (show _=true from by simp[I]);have HF:=au (aq.o I);clear I;rw[t];clear t;go_wp2;go_ret;exact aK HF.o J.o
   ·have HF:=au (show b=true from by
     rw[HV.o];have h:=aa.o;have e:k=n:=by omega
     rw[tP (by rw[<-HN.o];omega),tP (by rw[<-HM.o];omega)] at h
     exact decide_eq_true h)
    clear aa;go_wp2;go_ret;exact aK HF.o ad.o
 ·have t:((n:Int) != (m:Int))=true:=by simp;omega
  have hf:decide (C=D)=false:=decide_eq_false (fun e=>ab (by rw[HN.o,HM.o,e]));rw[hf];clear hf ab
  go_enter Tryz.func83,Tryz.ntmps83
  go_wp2;go_ret;exact⟨rfl,fe _ _⟩
variable{e:TypeId}{l:List Bs}{i:Nat}
theorem Df{P:Program}{z:Value}{size bytes:Nat}(S:eO P t e z size bytes)(A:eV)(n c k h:Nat)(kd J:IntKind)(l l2:Int)(hl:l=k)(I:l2=h)(h1:k<=h)(h2:h<=c)(w:World):
  (Instr.slice t (.slice A n c) (some (.int kd l)) (some (.int J l2)) none).run P w=.ok (.slice (oo A c k size) (h-k) (c-k)) w:=by
 obtain⟨ht,hi,hz,ac⟩:=S;obtain⟨i,hi,ab,M,aa⟩:=info_parts hi;subst hl I;have h0:(0:Int)<=k/\(k:Int)<=h:=by omega
 simp[Instr.slice,run_underlying ht,Instr.sliceBounds,Instr.sliceBound,asIntOf,h1,h2,sizeOf,typeInfo,hi,M,oo]
theorem Kv(n:Nat)(h:fu w A l):fu w A (l.take n):=by
 have e:kN (l.take n)=(kN l).take n:=by unfold kN;rw[List.map_take]
 refine⟨by rw[e,kt,h.1,kt];omega,fun u I=>h.2.1 u (by rw[e] at I;exact xv I),fun hn=>?_⟩;obtain⟨M,rfl,J⟩:=h.2.2 (by rw[kt] at hn;omega);refine⟨M,rfl,fun j u I=>J j u ?_⟩;rw[e,CN] at I;split at I
 ·exact I
 ·cases I
theorem Vy{L F R:eV}{lc fc rn rc:Nat}{r:AR}(hL:fu w L l)(hF:fu w F r.f)(hi:i<=l.length)(hc:l.length<=lc)(ao:l.length<=1000000)(am:r.f.length<=1000000):
  Calls Tryz.prog 91 #[.agg (fx L l.length lc R rn rc),.agg (km (r.ix:Nat) r.c F r.f.length fc (bs r.t)),.int .i64 i] w (aT w (.bool (nW l r i))):=by
 obtain⟨ix,c,f,t⟩:=r;dsimp only at hF am ⊢;have ab:nW l ⟨ix,c,f,t⟩ i=(decide (i+f.length<=l.length)&&decide ((l.drop i).take f.length=f)):=rfl;have HV:=au ab;have KE:=au (fun (W:World) (h:Below w.heap.size w W)=>Gi (c:=lc-i) (d:=fc) (Kv f.length (Iu (hL.below h) hi hc)) (hF.below h) (by rw[kt];omega) eL);have h1:=aH (aI.begin w) aM (fx L l.length lc R rn rc) 163;have h2:=aH h1 aO (km (ix:Nat) c F f.length fc (bs t)) 177;rw[ik] at h2;have OK:=au (show(aj (av (w.heap.size+1) (km (ix:Nat) c F f.length fc (bs t)) 177) (aj (av w.heap.size (fx L l.length lc R rn rc) 163) bG)).Ok from aB aF aO);have ak:=au (fun W O (h:aI eR w O W)=>(show Below w.heap.size w W from h.mod.below (fun _ _ h=>h)));have af:=au (fun W O v (h:aI eR w O W)=>(show aT w v (.returned v) W from⟨rfl,h.mod.below (fun _ _ h=>h)⟩));have I:i+f.length<=l.length->∀ W',(Instr.slice 26 (.slice L l.length lc) (some (.int .i64 (i:Int))) (some (.int .i64 ((i:Int)+(f.length:Int)))) none).run Tryz.prog W'=.ok (.slice (oo L lc i 1) f.length (lc-i)) W':=fun h W'=>by
  have:=Df zI L l.length lc i (i+f.length) .i64 .i64 (i:Int) ((i:Int)+(f.length:Int)) rfl eL eL eL W';rw[this];congr 2;omega
 have I:=au I;have aa:=au (show i+f.length<=l.length->((l.drop i).take f.length).length=f.length from fun h=>by rw[kt,k8];omega);have H2:=au h2;obtain⟨b,hb⟩:∃ b,b=nW l ⟨ix,c,f,t⟩ i:=⟨_,rfl⟩;rw[<-hb] at HV ⊢;clear h1 h2 ab hb hL hF;have ap:(i:Int)<=1000000:=by omega
 generalize f.length=fl at *
 generalize l.length=ll at *
 go_enter Tryz.func91,Tryz.ntmps91
 go_wp2_with fail;generalize (w.alloc (.cells (fx L ll lc R rn rc) 163)).alloc (.cells (km (ix:Nat) c F fl fc (bs t)) 177)=w1 at *
 generalize w.heap.size+1=g2 at *
 generalize w.heap.size=g1 at *
 have ac:∀ W,aI eR w (aj (av g2 (km (ix:Nat) c F fl fc (bs t)) 177) (aj (av g1 (fx L ll lc R rn rc) 163) bG)) W->(fun W:World=>W.cell? ⟨g2,2,none⟩=some (.slice F fl fc)/\W.cell? ⟨g1,0,none⟩=some (.slice L ll lc)) W:=fun W h=>by
  obtain⟨f1,ai⟩:=h.fst;obtain⟨f2,al⟩:=h.drop.fst;exact⟨ay ai rfl,ay al rfl⟩
 have ad:=au ac;clear ac;have H3:=au (H2.o.drew OK.o);have M:=ad.o _ H3.o;clear H2;have aq:IntKind.i64.wrap ((i:Int)+(fl:Int))=(i:Int)+(fl:Int):=kj _ eL;by_cases J:i+fl<=ll
 ·have ag:decide ((i:Int)+(fl:Int)<=(ll:Int))=true:=decide_eq_true eL;have an:=I.o J;have ae:=aa.o J;have HB:=au (show b=decide ((l.drop i).take fl=f) from by rw[HV.o,decide_eq_true J,lx]);rw[ae] at KE;clear I aa HV ae;refine aP (fun W:World=>W.cell? ⟨g2,2,none⟩=some (.slice F fl fc)/\W.cell? ⟨g1,0,none⟩=some (.slice L ll lc)) gh eQ M ?_;clear M;generalize w1.drew=w2 at *
  (repeat(first|refine bM ?_|refine bN ?_))
  refine dG rfl gh (fun K hK=>?_);go_wp2_with fail;refine(KE.o _ (ak.o _ _ H3.o)).mono ?_;rintro e9 w3 ⟨rfl,hb⟩;have H4:=au (H3.o.below OK.o hb);clear KE H3 hb;dsimp only;refine hK.o _ _ (ad.o _ H4.o) ?_;clear hK
  (repeat(first|refine bM ?_|refine bN ?_))
  refine lex_nil ?_;rw[<-HB.o];go_wp2;go_ret;exact af.o _ _ _ H4.o
 ·have ag:decide ((i:Int)+(fl:Int)<=(ll:Int))=false:=decide_eq_false eL;have HB:=au (show b=false from by rw[HV.o,decide_eq_false J,qq]);clear I aa HV KE;refine aP (fun W:World=>W.cell? ⟨g2,2,none⟩=some (.slice F fl fc)/\W.cell? ⟨g1,0,none⟩=some (.slice L ll lc)) gh eQ M ?_;clear M;generalize w1.drew=w2 at *
  (repeat(first|refine bM ?_|refine bN ?_))
  refine lex_nil ?_;go_wp2;go_ret;rw[HB.o];exact af.o _ _ _ H3.o
structure WA where
 a:SA
 b:SA
def bJ(W:Wd)(x:WA):Array Value:=(ln x.a.L W.l.length x.a.lc x.a.R x.a.q.length x.a.rc x.b.L W.m.length x.b.lc x.b.R x.b.q.length x.b.rc)
structure YP(W:Wd)(x:WA)(w:World):Prop where
 l:fu w x.a.L W.l
 m:fu w x.b.L W.m
 ra:Vw w x.a.R x.a.q
 rb:Vw w x.b.R x.b.q
 fa:∀ y ∈ x.a.q,fu w y.A y.r.f
 fb:∀ y ∈ x.b.q,fu w y.A y.r.f
variable{W:Wd}{w':World}{s:St}
theorem YP.below{x:WA}(h:YP W x w)(hb:Below w.heap.size w w'):YP W x w':=
 ⟨h.l.below hb,h.m.below hb,h.ra.below hb,h.rb.below hb,fun y hy=>(h.fa y hy).below hb,fun y hy=>(h.fb y hy).below hb⟩
structure YQ(W:Wd)(x:WA):Prop where
 qa:x.a.q.map (·.r)=ig W.rs W.ka
 qb:x.b.q.map (·.r)=ig W.rs W.kb
 na:x.a.q.length<=1000000
 nb:x.b.q.length<=1000000
 la:W.l.length<=x.a.lc
 lb:W.m.length<=x.b.lc
 l6:W.l.length<=1000000
 m6:W.m.length<=1000000
 f6:∀ y ∈ x.a.q,y.r.f.length<=1000000/\y.r.t.length<=1000000
 g6:∀ y ∈ x.b.q,y.r.f.length<=1000000/\y.r.t.length<=1000000
def doneN(W:Wd)(s:St):Bool:=decide (s.i=W.l.length)&&(decide (s.j=W.m.length)&&decide (s.a=[]))
theorem Kw{x:WA}:Calls Tryz.prog 67 #[.agg (bJ W x),.agg (dz s)] w (aT w (.bool (doneN W s))):=by
 have h1:=aH (aI.begin w) aM (bJ W x) 165;have h2:=aH h1 aO (dz s) 171;rw[ik] at h2;have aa:=au (fun W O v (h:aI eR w O W)=>(show aT w v (.returned v) W from⟨rfl,h.mod.below (fun _ _ h=>h)⟩));have H2:=au h2;obtain⟨b,hb⟩:∃ b,b=doneN W s:=⟨_,rfl⟩;have HV:=au (show b=(decide (s.i=W.l.length)&&(decide (s.j=W.m.length)&&decide (s.a=[]))) from hb);rw[<-hb];clear h1 h2 hb;unfold bJ dz;unfold bJ dz at H2;obtain⟨si,sj,sa,sr⟩:=s;dsimp only at HV H2 ⊢;generalize W.l.length=n1 at *
 generalize W.m.length=n2 at *
 obtain⟨⟨L,lc,R,rc,q⟩,⟨M,mc,S,sc,p⟩⟩:=x;dsimp only at H2 ⊢;generalize q.length=qn at *
 generalize p.length=pn at *
 have J:=au (show sa≠[]->(bs sa).toList.isEmpty=false from fun h=>by rw[pN];exact fun e=>h (dD.1 e));have I:=au (show sa=[]->(bs sa).toList.isEmpty=true from fun h=>by rw[sk];exact dD.2 h);by_cases h1:si=n1
 ·have t1:((si:Int)==(n1:Int))=true:=by simp[h1]
  by_cases h2:sj=n2
  ·have t2:((sj:Int)==(n2:Int))=true:=by simp[h2]
   by_cases h3:sa=[]
   ·have t3:=I.o h3;have HB:=au (show b=true from by rw[HV.o];simp[h1,h2,h3]);clear h1 h2 h3 HV I J
    go_enter Tryz.func67,Tryz.ntmps67
    go_wp2;go_ret;rw[HB.o];exact aa.o _ _ _ H2.o
   ·have t3:=J.o h3;have HB:=au (show b=false from by rw[HV.o];simp[h3]);clear h1 h2 h3 HV I J
    go_enter Tryz.func67,Tryz.ntmps67
    go_wp2;go_ret;rw[HB.o];exact aa.o _ _ _ H2.o
  ·have t2:((sj:Int)==(n2:Int))=false:=by simp;omega
   have HB:=au (show b=false from by rw[HV.o];simp[h2]);clear h1 h2 HV I J
   go_enter Tryz.func67,Tryz.ntmps67
   go_wp2;go_ret;rw[HB.o];exact aa.o _ _ _ H2.o
 ·have t1:((si:Int)==(n1:Int))=false:=by simp;omega
  have HB:=au (show b=false from by rw[HV.o];simp[h1]);clear h1 HV I J
  go_enter Tryz.func67,Tryz.ntmps67
  go_wp2;go_ret;rw[HB.o];exact aa.o _ _ _ H2.o
theorem Ky{w:World}:∀ {q:List RA} {F:Nat->Prop},kY q w F->∀ y ∈ q,fu w y.A y.r.f
 | [],_,_,y,hy=>by cases hy
 | x::q,F,⟨f1,f2,h1,h2,_,_⟩,y,hy=>by
  rcases List.mem_cons.1 hy with rfl|hy
  ·exact oN h1
  ·exact Ky h2 y hy
variable{W:World}
theorem Kz{l:List Bs}{s:SA}(h:iI l s w F):fu w s.L l/\l.length<=s.lc/\Vw w s.R s.q/\∀ y ∈ s.q,fu w y.A y.r.f:=by
 obtain⟨f1,f2,h1,⟨f3,f4,h3,h4,-,-⟩,-,-⟩:=h;exact⟨oN h1,(vD h1.1).1,acG h3,Ky h4⟩
theorem zW(T:eW)(k:Int)(x:Bs):(kZ T k x).1=(gG k x).1:=by
 unfold kZ gG;by_cases h:word k x=true
 ·rw[if_pos h,if_pos h]
 ·rw[if_neg h,if_neg h]
theorem AX(M:T.rs.length<=1000000)(hs:∀ R ∈ T.rs,R.f.length<=1000000/\R.t.length<=1000000):(ig T.rs k).length<=1000000/\∀ r ∈ ig T.rs k,r.f.length<=1000000/\r.t.length<=1000000:=by
 unfold ig;refine⟨j8 (zd ..) (by rw[xF];exact M),fun r h=>?_⟩;obtain⟨⟨R,n⟩,h1,I⟩:=List.mem_filterMap.1 h;have J:=Ip _ _ h1;unfold Bz at I;dsimp only at I J;split at I
 ·split at I
  ·rename_i hw;injection I with I
   subst I;exact⟨j8 (eX.1 hw).2.2 eL,(hs R J).2⟩
  ·cases I
 ·cases I
def Dh(w:World)(T:eW)(k:Int)(x:Bs)(k2:Int)(y:Bs)(e:Ending)(w':World):Prop:=
 ∃ wa:WA,e=.returned (.tuple #[.agg (bJ (PI T k x k2 y) wa),.bool (okW T k x k2 y)])/\Below w.heap.size w w'/\(okW T k x k2 y=true->YP (PI T k x k2 y) wa w'/\YQ (PI T k x k2 y) wa)
theorem Vz{a:TA}{k2:Int}{x y:Bs}{s1 s2:SA}{Y:CH.aU}(hT:jV w T a)(J:s1.q.map (·.r)=(kZ T k x).2)(I:s2.q.map (·.r)=(kZ T k2 y).2)(h:aI eR w (aj (iI (kZ T k x).1 s1) (aj (iI (kZ T k2 y).1 s2) Y)) W)(b:Bool)(hb:okW T k x k2 y=b):
  Dh w T k x k2 y (.returned (.tuple #[.agg (bJ (PI T k x k2 y) ⟨s1,s2⟩),.bool b])) W:=by
 have M:Below w.heap.size w W:=h.mod.below (fun _ _ h=>h);refine⟨⟨s1,s2⟩,by rw[hb],M,fun ho=>?_⟩;obtain⟨ad,aa,-⟩:=fV.1 ho;obtain⟨f1,ab⟩:=h.fst;obtain⟨f2,ac⟩:=h.drop.fst;obtain⟨a1,a2,a3,a4⟩:=Kz ab;obtain⟨b1,b2,b3,b4⟩:=Kz ac;rw[zW] at a1 a2 b1 b2;have e1:(kZ T k x).2=ig T.rs k:=by unfold kZ;rw[if_pos ad]
 have e2:(kZ T k2 y).2=ig T.rs k2:=by unfold kZ;rw[if_pos aa]
 rw[e1] at J;rw[e2] at I;have n1:=AX (k:=k) hT.lr hT.sr;have n2:=AX (k:=k2) hT.lr hT.sr;rw[<-J] at n1;rw[<-I] at n2;refine⟨⟨a1,b1,a3,b3,a4,b4⟩,⟨J,I,by simpa using n1.1,by simpa using n2.1,a2,b2,j8 (mh k x) eL,j8 (mh k2 y) eL,fun z hz=>?_,fun z hz=>?_⟩⟩
 ·exact n1.2 z.r (List.mem_map_of_mem hz)
 ·exact n2.2 z.r (List.mem_map_of_mem hz)
theorem VA{a:TA}(hT:jV w T a)(hz:LZ w)(k:Int)(x:Bs)(k2:Int)(y:Bs)(hx:x.length<=1000000)(hy:y.length<=1000000):
  Calls Tryz.prog 65 #[dI T a,.int .i64 k,.string (bs x),.int .i64 k2,.string (bs y)] w (Dh w T k x k2 y):=by
 have HT:=au hT;have HZ:=au hz;have h1:aI eR w (aj (av w.heap.size (dN T a) 25) bG) _:=aH (aI.begin w) aM (dN T a) 25;have K1:=au (fun W (h:Below w.heap.size w W)=>Dc (hT.below h) (hz.below h) k x hx);have K2:=au (fun W (h:Below w.heap.size w W)=>Dc (hT.below h) (hz.below h) k2 y hy);have KV:=au (fun W (h:Below w.heap.size w W)=>mg (hT.below h) (hz.below h));have am:=au (fun W O (h:aI eR w O W)=>(show Below w.heap.size w W from h.mod.below (fun _ _ h=>h)));have H1:=au h1;clear hT hz h1;unfold vg at K1 K2;unfold dI dN at K1 K2 KV ⊢;unfold dN at H1
 go_enter Tryz.func65,Tryz.ntmps65
 have H2:=au (show aI eR w (aj (av (w.heap.size+1) (ln none 0 0 none 0 0 none 0 0 none 0 0) 165) (aj (av w.heap.size (kl T a) 25) bG)) _ from(by have h2:=aH H1.o aO (ln none 0 0 none 0 0 none 0 0 none 0 0) 165;rw[ik] at h2;exact h2));go_upto_region 1 with (fail);clear H1;generalize az:(w.alloc (.cells (kl T a) 25)).alloc (.cells (ln none 0 0 none 0 0 none 0 0 none 0 0) 165)=w1 at *
 clear az;generalize w.heap.size+1=gr at *
 generalize w.heap.size=gt at H2 ⊢;have ai:=au (show(aj (av gr (ln none 0 0 none 0 0 none 0 0 none 0 0) 165) (aj (av gt (kl T a) 25) bG)).Ok from aB aF aO);have aq:∀ (W:World) (X:CH.aU),aI eR w (aj (av gt (kl T a) 25) X) W->(l4 W gt (.slice a.A T.rs.length a.c) (.slice a.D T.ds.length a.d) (.slice a.E T.es.length a.e) (.int .i64 T.drop) (.int .i64 T.ord) (.int .i64 T.ini)):=fun W X h=>by
  obtain⟨f,hf⟩:=h.fst;exact⟨ay hf rfl,ay hf rfl,ay hf rfl,ay hf rfl,ay hf rfl,ay hf rfl⟩
 have ao:=au aq;clear aq;obtain⟨c0,c1,c2,c3,c4,c5⟩:=ao.o _ _ H2.o.drop;go_wp2_with fail;refine(K1.o _ (am.o _ _ H2.o)).mono ?_;rintro e9 w2 ⟨s1,rfl,hq1,hp⟩;have aA:=au hq1;have H3:=au (H2.o.fresh ai.o hp);clear K1 H2 hp hq1 c0 c1 c2 c3 c4 c5;obtain⟨J,al⟩:∃ l,l=(kZ T k x).1:=⟨_,rfl⟩;have an:=au al;rw[<-al] at H3 ⊢;clear al;unfold Ku;dsimp only;have H4:=au (aH H3.o (aB rW ai.o) (fx s1.L J.length s1.lc s1.R s1.q.length s1.rc) 163);clear H3;go_upto_region 2 with (fail);generalize w2.alloc (.cells (fx s1.L J.length s1.lc s1.R s1.q.length s1.rc) 163)=w3 at *
 generalize w2.heap.size=ga at *
 obtain⟨c0,c1,c2,c3,c4,c5⟩:=ao.o _ _ H4.o.drop.drop.drop;go_wp2_with fail;refine(K2.o _ (am.o _ _ H4.o)).mono ?_;rintro e9 w4 ⟨s2,rfl,hq2,hp⟩;have ax:=au hq2;have H5:=au (H4.o.fresh (aB aF (aB rW ai.o)) hp);clear K2 H4 hp hq2 c0 c1 c2 c3 c4 c5;obtain⟨I,ak⟩:∃ l,l=(kZ T k2 y).1:=⟨_,rfl⟩;have ar:=au ak;rw[<-ak] at H5 ⊢;clear ak;unfold Ku;dsimp only;have H6:=au (aH H5.o (aB rW (aB aF (aB rW ai.o))) (fx s2.L I.length s2.lc s2.R s2.q.length s2.rc) 163);clear H5;go_upto_region 3 with (fail);generalize w4.alloc (.cells (fx s2.L I.length s2.lc s2.R s2.q.length s2.rc) 163)=w5 at *
 generalize w4.heap.size=gb at *
 have af:=au (fun (W:World) (b:Bool) (hb:okW T k x k2 y=b) (Y:CH.aU) (h:aI eR w (aj (iI J s1) (aj (iI I s2) Y)) W)=>Vz (a:=a) HT.o aA.o ax.o (by rw[<-an.o,<-ar.o];exact h) b hb);have ap:bJ (PI T k x k2 y) ⟨s1,s2⟩=(ln s1.L J.length s1.lc s1.R s1.q.length s1.rc s2.L I.length s2.lc s2.R s2.q.length s2.rc):=by
  have e1:=an.o.trans (zW T k x);have e2:=ar.o.trans (zW T k2 y);unfold bJ PI;rw[e1,e2]
 have ae:=au (show ∀ (W:World) (r:Array Value) (b:Bool),okW T k x k2 y=b->aI eR w (aj (av gr r 165) (aj (av gb (fx s2.L I.length s2.lc s2.R s2.q.length s2.rc) 163) (aj (av ga (fx s1.L J.length s1.lc s1.R s1.q.length s1.rc) 163) (aj (av gt (kl T a) 25) (aj (iI J s1) (iI I s2)))))) W->Dh w T k x k2 y (.returned (.tuple #[.agg (ln s1.L J.length s1.lc s1.R s1.q.length s1.rc s2.L I.length s2.lc s2.R s2.q.length s2.rc),.bool b])) W from fun W r b hb h=>by
  rw[<-ap];exact af.o W b hb _ (h.perm (by ac_rfl:_=aj (iI J s1) (aj (iI I s2) (aj (av gr r 165) (aj (av gb (fx s2.L I.length s2.lc s2.R s2.q.length s2.rc) 163) (aj (av ga (fx s1.L J.length s1.lc s1.R s1.q.length s1.rc) 163) (av gt (kl T a) 25)))))))
 )
 clear ap af;have M:=au (show(aj (av gb (fx s2.L I.length s2.lc s2.R s2.q.length s2.rc) 163) (aj (av ga (fx s1.L J.length s1.lc s1.R s1.q.length s1.rc) 163) (aj (av gt (kl T a) 25) (aj (iI J s1) (iI I s2))))).Ok from aB aF aO);have aw:∀ (W:World) (r:Array Value),aI eR w (aj (av gr r 165) (aj (av gb (fx s2.L I.length s2.lc s2.R s2.q.length s2.rc) 163) (aj (av ga (fx s1.L J.length s1.lc s1.R s1.q.length s1.rc) 163) (aj (av gt (kl T a) 25) (aj (iI J s1) (iI I s2)))))) W->(fun w':World=>w'.cell? ⟨ga,0,none⟩=some (.slice s1.L J.length s1.lc)/\w'.cell? ⟨ga,1,none⟩=some (.slice s1.R s1.q.length s1.rc)/\w'.cell? ⟨gb,0,none⟩=some (.slice s2.L I.length s2.lc)/\w'.cell? ⟨gb,1,none⟩=some (.slice s2.R s2.q.length s2.rc)/\(l4 w' gt (.slice a.A T.rs.length a.c) (.slice a.D T.ds.length a.d) (.slice a.E T.es.length a.e) (.int .i64 T.drop) (.int .i64 T.ord) (.int .i64 T.ini))) W:=fun W r h=>by
  obtain⟨f1,h1⟩:=h.drop.fst;obtain⟨f2,h2⟩:=h.drop.drop.fst;obtain⟨f3,h3⟩:=h.drop.drop.drop.fst;exact⟨ay h2 rfl,ay h2 rfl,ay h1 rfl,ay h1 rfl,ay h3 rfl,ay h3 rfl,ay h3 rfl,ay h3 rfl,ay h3 rfl,ay h3 rfl⟩
 have ad:=au aw;clear aw;have H7:=au ((H6.o.perm (by rw[fG];ac_rfl:_=(aj (av gr (ln none 0 0 none 0 0 none 0 0 none 0 0) 165) (aj (av gb (fx s2.L I.length s2.lc s2.R s2.q.length s2.rc) 163) (aj (av ga (fx s1.L J.length s1.lc s1.R s1.q.length s1.rc) 163) (aj (av gt (kl T a) 25) (aj (iI J s1) (iI I s2)))))))).drew (aB aF M.o));have ac:=ad.o _ _ H7.o;clear H6;cases fX:word k x with
 | false=>
  refine aP (fun w':World=>w'.cell? ⟨ga,0,none⟩=some (.slice s1.L J.length s1.lc)/\w'.cell? ⟨ga,1,none⟩=some (.slice s1.R s1.q.length s1.rc)/\w'.cell? ⟨gb,0,none⟩=some (.slice s2.L I.length s2.lc)/\w'.cell? ⟨gb,1,none⟩=some (.slice s2.R s2.q.length s2.rc)/\(l4 w' gt (.slice a.A T.rs.length a.c) (.slice a.D T.ds.length a.d) (.slice a.E T.es.length a.e) (.int .i64 T.drop) (.int .i64 T.ord) (.int .i64 T.ini))) gh eQ ac ?_;clear ac;generalize w5.drew=w6 at *
  obtain⟨r0,r1,r2,r3,rf⟩:=bq H7.o
  (repeat(first|refine bM ?_|refine bN ?_))
  refine dG rfl gh (fun K hK=>?_);go_wp2_with fail
  have H8:=au (aJ (aJ (aJ (aJ (H7.o) M.o 0 (.slice s1.L J.length s1.lc)) M.o 1 (.slice s1.R s1.q.length s1.rc)) M.o 2 (.slice s2.L I.length s2.lc)) M.o 3 (.slice s2.R s2.q.length s2.rc):aI eR w (aj (av gr (ln s1.L J.length s1.lc s1.R s1.q.length s1.rc s2.L I.length s2.lc s2.R s2.q.length s2.rc) 165) (aj (av gb (fx s2.L I.length s2.lc s2.R s2.q.length s2.rc) 163) (aj (av ga (fx s1.L J.length s1.lc s1.R s1.q.length s1.rc) 163) (aj (av gt (kl T a) 25) (aj (iI J s1) (iI I s2)))))) _);clear H7 r0 r1 r2 r3 rf;generalize ((((w6.setCell ⟨gr,0,none⟩ (.slice s1.L J.length s1.lc)).setCell ⟨gr,1,none⟩ (.slice s1.R s1.q.length s1.rc)).setCell ⟨gr,2,none⟩ (.slice s2.L I.length s2.lc)).setCell ⟨gr,3,none⟩ (.slice s2.R s2.q.length s2.rc))=w9 at *
  refine hK.o _ _ (ad.o _ _ H8.o) ?_;clear hK
  (repeat(first|refine bM ?_|refine bN ?_))
  refine lex_nil ?_;obtain⟨fr,ab⟩:=H8.o.fst;have aa:=ab.1;clear ab;go_wp2_with fail;refine bodyPost_ret (cZ rfl _ _ gr 165 (ln s1.L J.length s1.lc s1.R s1.q.length s1.rc s2.L I.length s2.lc s2.R s2.q.length s2.rc) (0,0) rfl aa Tryz.underlying165 eQ) rfl ?_;clear aa;exact ae.o _ _ _ (by unfold okW;rw[fX];rfl) H8.o
 | true=>
  cases gE:word k2 y with
  | false=>
   refine aP (fun w':World=>w'.cell? ⟨ga,0,none⟩=some (.slice s1.L J.length s1.lc)/\w'.cell? ⟨ga,1,none⟩=some (.slice s1.R s1.q.length s1.rc)/\w'.cell? ⟨gb,0,none⟩=some (.slice s2.L I.length s2.lc)/\w'.cell? ⟨gb,1,none⟩=some (.slice s2.R s2.q.length s2.rc)/\(l4 w' gt (.slice a.A T.rs.length a.c) (.slice a.D T.ds.length a.d) (.slice a.E T.es.length a.e) (.int .i64 T.drop) (.int .i64 T.ord) (.int .i64 T.ini))) gh eQ ac ?_;clear ac;generalize w5.drew=w6 at *
   obtain⟨r0,r1,r2,r3,rf⟩:=bq H7.o
   (repeat(first|refine bM ?_|refine bN ?_))
   refine dG rfl gh (fun K hK=>?_);go_wp2_with fail
   have H8:=au (aJ (aJ (aJ (aJ (H7.o) M.o 0 (.slice s1.L J.length s1.lc)) M.o 1 (.slice s1.R s1.q.length s1.rc)) M.o 2 (.slice s2.L I.length s2.lc)) M.o 3 (.slice s2.R s2.q.length s2.rc):aI eR w (aj (av gr (ln s1.L J.length s1.lc s1.R s1.q.length s1.rc s2.L I.length s2.lc s2.R s2.q.length s2.rc) 165) (aj (av gb (fx s2.L I.length s2.lc s2.R s2.q.length s2.rc) 163) (aj (av ga (fx s1.L J.length s1.lc s1.R s1.q.length s1.rc) 163) (aj (av gt (kl T a) 25) (aj (iI J s1) (iI I s2)))))) _);clear H7 r0 r1 r2 r3 rf;generalize ((((w6.setCell ⟨gr,0,none⟩ (.slice s1.L J.length s1.lc)).setCell ⟨gr,1,none⟩ (.slice s1.R s1.q.length s1.rc)).setCell ⟨gr,2,none⟩ (.slice s2.L I.length s2.lc)).setCell ⟨gr,3,none⟩ (.slice s2.R s2.q.length s2.rc))=w9 at *
   refine hK.o _ _ (ad.o _ _ H8.o) ?_;clear hK
   (repeat(first|refine bM ?_|refine bN ?_))
   refine lex_nil ?_;obtain⟨fr,ab⟩:=H8.o.fst;have aa:=ab.1;clear ab;go_wp2_with fail;refine bodyPost_ret (cZ rfl _ _ gr 165 (ln s1.L J.length s1.lc s1.R s1.q.length s1.rc s2.L I.length s2.lc s2.R s2.q.length s2.rc) (0,0) rfl aa Tryz.underlying165 eQ) rfl ?_;clear aa;exact ae.o _ _ _ (by unfold okW;rw[fX,gE];rfl) H8.o
  | true=>
   refine aP (fun w':World=>w'.cell? ⟨ga,0,none⟩=some (.slice s1.L J.length s1.lc)/\w'.cell? ⟨ga,1,none⟩=some (.slice s1.R s1.q.length s1.rc)/\w'.cell? ⟨gb,0,none⟩=some (.slice s2.L I.length s2.lc)/\w'.cell? ⟨gb,1,none⟩=some (.slice s2.R s2.q.length s2.rc)/\(l4 w' gt (.slice a.A T.rs.length a.c) (.slice a.D T.ds.length a.d) (.slice a.E T.es.length a.e) (.int .i64 T.drop) (.int .i64 T.ord) (.int .i64 T.ini))) gh eQ ac ?_;clear ac;generalize w5.drew=w6 at *
   obtain⟨r0,r1,r2,r3,rf⟩:=bq H7.o
   (repeat(first|refine bM ?_|refine bN ?_))
   refine dG rfl gh (fun K hK=>?_);go_wp2_with fail
   refine(KV.o _ (am.o _ _ H7.o)).mono ?_;rintro e9 w7 ⟨rfl,hb⟩;have ag:=au (H7.o.below (aB aF M.o) hb);clear KV H7 hb r0 r1 r2 r3 rf;dsimp only;refine hK.o _ _ (ad.o _ _ ag.o) ?_;clear hK;obtain⟨r0,r1,r2,r3,rf⟩:=bq ag.o
   (repeat(first|refine bM ?_|refine bN ?_))
   refine dG rfl gh (fun K hK=>?_);go_wp2_with fail
   have H8:=au (aJ (aJ (aJ (aJ (ag.o) M.o 0 (.slice s1.L J.length s1.lc)) M.o 1 (.slice s1.R s1.q.length s1.rc)) M.o 2 (.slice s2.L I.length s2.lc)) M.o 3 (.slice s2.R s2.q.length s2.rc):aI eR w (aj (av gr (ln s1.L J.length s1.lc s1.R s1.q.length s1.rc s2.L I.length s2.lc s2.R s2.q.length s2.rc) 165) (aj (av gb (fx s2.L I.length s2.lc s2.R s2.q.length s2.rc) 163) (aj (av ga (fx s1.L J.length s1.lc s1.R s1.q.length s1.rc) 163) (aj (av gt (kl T a) 25) (aj (iI J s1) (iI I s2)))))) _);clear ag r0 r1 r2 r3 rf;generalize ((((w7.setCell ⟨gr,0,none⟩ (.slice s1.L J.length s1.lc)).setCell ⟨gr,1,none⟩ (.slice s1.R s1.q.length s1.rc)).setCell ⟨gr,2,none⟩ (.slice s2.L I.length s2.lc)).setCell ⟨gr,3,none⟩ (.slice s2.R s2.q.length s2.rc))=w9 at *
   refine hK.o _ _ (ad.o _ _ H8.o) ?_;clear hK
   (repeat(first|refine bM ?_|refine bN ?_))
   refine lex_nil ?_;obtain⟨fr,ab⟩:=H8.o.fst;have aa:=ab.1;clear ab;go_wp2_with fail;refine bodyPost_ret (cZ rfl _ _ gr 165 (ln s1.L J.length s1.lc s1.R s1.q.length s1.rc s2.L I.length s2.lc s2.R s2.q.length s2.rc) (0,0) rfl aa Tryz.underlying165 eQ) rfl ?_;clear aa;exact ae.o _ _ _ (by unfold okW;rw[fX,gE];rfl) H8.o
def Zw(W:Wd)(x:WA)(s:St)(b1 b2:Nat):CH.aU:=aj (av b1 (dz s) 171) (av b2 (bJ W x) 165)
variable{W:Wd}{p:RA × St}
theorem nX{x:WA}{b1 b2:Nat}:(Zw W x s b1 b2).Ok:=aB aF aF
instance {W:Wd} {x:WA} {s:St} {b1 b2:Nat}:(Zw W x s b1 b2).Ok:=nX
def ND(p:RA × St):Array Value:=#[.agg (dZ p.1).toArray,.agg (dz p.2)]
def WA.at(x:WA)(lf:Bool):SA:=if lf then x.a else x.b
def sC(W:Wd)(lf:Bool):List Bs:=if lf then W.l else W.m
def kA(s:St)(lf:Bool):Nat:=if lf then s.i else s.j
def yg(W:Wd)(s:St)(y:RA):Option (RA × St):=(W.UR s y.r).map fun p=>(y,p.2)
def dJ(W:Wd)(x:WA)(s:St):List (RA × St):=(x.at (W.left s)).q.filterMap (yg W s)
def kD(W:Wd)(x:WA)(s:St)(k:Nat):List (RA × St):=((x.at (W.left s)).q.take k).filterMap (yg W s)
theorem KR{x:WA}(h:YQ W x):(dJ W x s).map (fun p=>(p.1.r,p.2))=W.tY s:=by
 have e:(x.at (W.left s)).q.map (·.r)=ig W.rs (if W.left s then W.ka else W.kb):=by
  unfold WA.at;cases W.left s
  ·exact h.qb
  ·exact h.qa
 unfold dJ Wd.tY;rw[<-e,List.map_filterMap,List.filterMap_map];refine CS _ fun y _=>?_;unfold yg
 show Option.map _ (Option.map _ (W.UR s y.r))=W.UR s y.r
 rw[tE];unfold Wd.UR;by_cases h:nW (if W.left s then W.l else W.m) y.r (if W.left s then s.i else s.j)=true
 ·rw[if_pos h,tE];rfl
 ·rw[if_neg h];rfl
section
variable{W:Wd}{x:WA}{s:St}{k:Nat}
theorem VB:kD W x s (x.at (W.left s)).q.length=dJ W x s:=by unfold kD dJ;rw[kz]
theorem Gj(hk:k<(x.at (W.left s)).q.length)(h:yg W s (x.at (W.left s)).q[k]=none):kD W x s (k+1)=kD W x s k:=by
 unfold kD;rw[kq hk,sS];simp[h]
theorem Sw(hk:k<(x.at (W.left s)).q.length)(h:yg W s (x.at (W.left s)).q[k]=some p):kD W x s (k+1)=kD W x s k++[p]:=by
 unfold kD;rw[kq hk,sS];simp[h]
theorem ZV(I:k<(x.at (W.left s)).q.length)(h:yg W s (x.at (W.left s)).q[k]=some p):∃ hi:(kD W x s k).length<(dJ W x s).length,(dJ W x s)[(kD W x s k).length]=p:=by
 have e:dJ W x s=kD W x s k++p::((x.at (W.left s)).q.drop (k+1)).filterMap (yg W s):=by
  unfold dJ kD
  conv=>lhs;rw[<-ua k (x.at (W.left s)).q,rS I,sS,xt h]
 refine⟨by rw[e];simp,?_⟩;simp only[e];rw[yW (fL _)];simp
end
def VD(s:St)(lf:Bool)(n:Nat)(z:Bs × Bool):St:=if lf then ⟨s.i+n,s.j,z.1,z.2⟩ else ⟨s.i,s.j+n,z.1,z.2⟩
section
variable{W:Wd}{s:St}{y:RA}
theorem NG(h:nW (sC W (W.left s)) y.r (kA s (W.left s))=false):yg W s y=none:=by
 unfold yg Wd.UR;unfold sC kA at h;rw[if_neg (by rw[h];decide)];rfl
theorem Sy(h:W.Nn s y.r.t=none):yg W s y=none:=by
 unfold yg Wd.UR;rw[h];by_cases h:nW (if W.left s then W.l else W.m) y.r (if W.left s then s.i else s.j)=true
 ·rw[if_pos h];rfl
 ·rw[if_neg h];rfl
theorem VE(h:nW (sC W (W.left s)) y.r (kA s (W.left s))=true){z:Bs × Bool}(hz:W.Nn s y.r.t=some z):yg W s y=some (y,VD s (W.left s) y.r.f.length z):=by
 unfold yg Wd.UR VD;unfold sC kA at h;rw[if_pos h,hz];rfl
theorem ad6{q:Bs}(h1:q.isPrefixOf s.a=true):W.Nn s q=some (s.a.drop q.length,s.r&&decide (s.a.drop q.length≠[])):=by unfold Wd.Nn;rw[if_pos h1]
theorem ad7{q:Bs}(h1:¬ q.isPrefixOf s.a=true)(h2:s.a.isPrefixOf q=true):W.Nn s q=some (q.drop s.a.length,!W.left s):=by unfold Wd.Nn;rw[if_neg h1,if_pos h2]
theorem ad8{q:Bs}(h1:¬ q.isPrefixOf s.a=true)(h2:¬ s.a.isPrefixOf q=true):W.Nn s q=none:=by unfold Wd.Nn;rw[if_neg h1,if_neg h2]
end
attribute [local go_sem] nF
def Bm(b1 b2:Nat):Value:=.func (.func 90) #[] (s7 (some ⟨b1,0,none⟩) (some ⟨b2,0,none⟩))
theorem Di{W:Wd}{x:WA}(w:World):
  Calls Tryz.prog 68 #[.agg (bJ W x),.agg (dz s)] w fun e w'=>∃ b1 b2,e=.returned (Bm b1 b2)/\bT w eR (Zw W x s b1 b2) w':=by
 have h:bT w eR (Zw W x s (w.heap.size+1) w.heap.size) ((w.alloc (.cells (bJ W x) 165)).alloc (.cells (dz s) 171)):=by
  have h1:=(aI.begin w).fresh aM (dU w (bJ W x) 165);have I:=h1.fresh aO (dU _ (dz s) 171);rw[ik] at I;have M:aI eR w (aj (Zw W x s (w.heap.size+1) w.heap.size) bG) _:=I.perm (by unfold Zw;ac_rfl);exact(M.swap.drop).post nX
 have J:=au h;clear h;unfold bJ dz;unfold bJ dz at J
 go_enter Tryz.func68,Tryz.ntmps68
 go_wp2;go_ret;exact⟨_,_,rfl,J.o⟩
theorem SC(s:St):ql Tryz.prog [⟨"i",3,0,false, "", "customhouse/align",0⟩,⟨"j",3,1,false, "", "customhouse/align",8⟩,⟨"ahead",9,2,false, "", "customhouse/align",16⟩,⟨"right",4,3,false, "", "customhouse/align",32⟩] (dz s):=by
 intro f h;simp only[np,C3,or_false] at h;rcases h with rfl|rfl|rfl|rfl
 ·exact⟨by decide,_,rfl,.int Tryz.underlying3 _⟩
 ·exact⟨by decide,_,rfl,.int Tryz.underlying3 _⟩
 ·exact⟨by decide,_,rfl,.str Tryz.underlying9 _⟩
 ·exact⟨by decide,_,rfl,.bool Tryz.underlying4 _⟩
theorem VH(a b:St):oW [⟨"i",3,0,false, "", "customhouse/align",0⟩,⟨"j",3,1,false, "", "customhouse/align",8⟩,⟨"ahead",9,2,false, "", "customhouse/align",16⟩,⟨"right",4,3,false, "", "customhouse/align",32⟩] (dz a) (dz b)=decide (a=b):=(rfl:_=oW [⟨"i",3,0,false, "", "customhouse/potential",0⟩,⟨"j",3,1,false, "", "customhouse/potential",8⟩,⟨"ahead",9,2,false, "", "customhouse/potential",16⟩,⟨"right",4,3,false, "", "customhouse/potential",32⟩] (dz a) (dz b)).trans (BR a b)
theorem zX:o7 Tryz.prog 171 sO:=by
 refine rY (cs:=dz) Tryz.underlying171 eQ SC VH (fun a=>?_);simp[dz,Instr.sameBits,zR]
variable{b bm bw bf:Nat}
theorem KY{L:List (St × Int)}(h:jA b L w F)(s:St)(ok:Bool):
  (Instr.lookup 168 (.map (some b)) (.agg (fN s.i s.j (bs s.a) s.r)) ok).run Tryz.prog w=.ok (if ok then .tuple #[(oh (L.map fun p=>(p.1,Value.int .i64 p.2)) s).getD (.int .i64 0),.bool (oh (L.map fun p=>(p.1,Value.int .i64 p.2)) s).isSome] else(oh (L.map fun p=>(p.1,Value.int .i64 p.2)) s).getD (.int .i64 0)) w:=by
 obtain⟨⟨es,I,M,J⟩,hF⟩:=h;cases ok
 ·exact Dt zX Tryz.underlying168 Tryz.zeroValue3 J s w M
 ·exact qE zX Tryz.underlying168 Tryz.zeroValue3 J s w M
theorem KZ(hs:W.ok s):doneN W s=decide (s=W.fin):=by
 obtain⟨i,j,a,r⟩:=s;have J:=hs.2.2;unfold doneN Wd.fin;simp only at J ⊢;by_cases M:i=W.l.length
 ·by_cases I:j=W.m.length
  ·by_cases h:a=[]
   ·cases r with
    | false=>simp[M,I,h]
    | true=>exact absurd h (J rfl)
   ·simp[h]
  ·simp[I]
 ·simp[M]
def ZW(bm bw bf:Nat):Value:=.func (.func 89) #[] (vA (some ⟨bm,0,none⟩) (some ⟨bw,0,none⟩) (some ⟨bf,0,none⟩))
def BX(W:Wd)(x:WA)(b bm bw bf:Nat):CH.aU:=aj (av bm #[.map (some b)] 168) (aj (av bw (bJ W x) 165) (av bf #[ZW bm bw bf] 212))
theorem wJ{x:WA}:(BX W x b bm bw bf).Ok:=aB aF (aB aF aF)
instance {W:Wd} {x:WA} {b bm bw bf:Nat}:(BX W x b bm bw bf).Ok:=wJ
def Qa(W:Wd)(x:WA)(s:St)(L:List (St × Int))(F0:Nat->Prop)(w0:World)(b bm bw bf:Nat)(X:CH.aU)(e:Ending)(w':World):Prop:=
 ∃ L',e=.returned (.int .i64 (W.fw s))/\Kn W L'/\Ext W s L L'/\s ∈ gF L'/\aI F0 w0 (aj (jA b L') (aj (BX W x b bm bw bf) X)) w'
def NI(W:Wd)(x:WA):Prop:=∀ s,W.ok s->(dJ W x s).map (fun p=>(p.1.r.c,p.2))=W.moves s
theorem K5{x:WA}(h:NI W x)(hs:W.ok s):(W.moves s).length=(dJ W x s).length:=by rw[<-h s hs,fY]
theorem ZX{x:WA}(h:NI W x)(J:W.ok s)(hi:i<(dJ W x s).length)(I:i<(W.moves s).length):(W.moves s)[i]=((dJ W x s)[i].1.r.c,(dJ W x s)[i].2):=by
 have e:(W.moves s)[i]?=some ((dJ W x s)[i].1.r.c,(dJ W x s)[i].2):=by rw[<-h s J,lB,ic hi];rfl
 rw[ic I] at e;injection e
theorem oG{x:WA}(h:aI F0 w0 (aj (BX W x b bm bw bf) X) w):
  w.cell? ⟨bm,0,none⟩=some (.map (some b))/\w.cell? ⟨bf,0,none⟩=some (ZW bm bw bf)/\(nz w bw (.slice x.a.L W.l.length x.a.lc) (.slice x.a.R x.a.q.length x.a.rc) (.slice x.b.L W.m.length x.b.lc) (.slice x.b.R x.b.q.length x.b.rc)):=by
 obtain⟨F,M⟩:=(h.perm (by unfold BX;ac_rfl:_=aj (av bm #[.map (some b)] 168) (aj (av bw (bJ W x) 165) (aj (av bf #[ZW bm bw bf] 212) X)))).fst;obtain⟨F2,I⟩:=(h.perm (by unfold BX;ac_rfl:_=aj (av bw (bJ W x) 165) (aj (av bm #[.map (some b)] 168) (aj (av bf #[ZW bm bw bf] 212) X)))).fst;obtain⟨F3,J⟩:=(h.perm (by unfold BX;ac_rfl:_=aj (av bf #[ZW bm bw bf] 212) (aj (av bm #[.map (some b)] 168) (aj (av bw (bJ W x) 165) X)))).fst;exact⟨ay M rfl,ay J rfl,ay I rfl,ay I rfl,ay I rfl,ay I rfl⟩
variable{b1 b2:Nat}{z:Bs × Bool}
theorem yh{x:WA}(h:aI F0 w0 (aj (Zw W x s b1 b2) X) w):
  (nz w b1 (.int .i64 s.i) (.int .i64 s.j) (.string (bs s.a)) (.bool s.r)) /\
  (nz w b2 (.slice x.a.L W.l.length x.a.lc) (.slice x.a.R x.a.q.length x.a.rc) (.slice x.b.L W.m.length x.b.lc) (.slice x.b.R x.b.q.length x.b.rc)):=by
 obtain⟨F,J⟩:=(h.assoc).fst;obtain⟨M,I⟩:=(h.assoc.kQ).fst;exact⟨⟨ay J rfl,ay J rfl,ay J rfl,ay J rfl⟩,ay I rfl,ay I rfl,ay I rfl,ay I rfl⟩
theorem YP.at{x:WA}(h:YP W x w)(lf:Bool):fu w (x.at lf).L (sC W lf)/\Vw w (x.at lf).R (x.at lf).q/\∀ y ∈ (x.at lf).q,fu w y.A y.r.f:=by
 cases lf
 ·exact⟨h.m,h.rb,h.fb⟩
 ·exact⟨h.l,h.ra,h.fa⟩
theorem YQ.at{x:WA}(h:YQ W x)(lf:Bool):(x.at lf).q.length<=1000000/\(sC W lf).length<=(x.at lf).lc/\(sC W lf).length<=1000000/\∀ y ∈ (x.at lf).q,y.r.f.length<=1000000/\y.r.t.length<=1000000:=by
 cases lf
 ·exact⟨h.nb,h.lb,h.m6,h.g6⟩
 ·exact⟨h.na,h.la,h.l6,h.f6⟩
theorem ad9(h:W.ok s)(lf:Bool):kA s lf<=(sC W lf).length:=by
 cases lf
 ·exact h.2.1
 ·exact h.1
def iN(s:St)(lf:Bool)(n:Nat):Nat:=if lf then s.i+n else s.i
def jN(s:St)(lf:Bool)(n:Nat):Nat:=if lf then s.j else s.j+n
theorem VF{lf:Bool}:VD s lf n z=⟨iN s lf n,jN s lf n,z.1,z.2⟩:=by cases lf<;>rfl
section
variable{W:Wd}{x:WA}{s:St}{lf:Bool}{k:Nat}
theorem NH(hl:W.left s=lf)(hk:k<(x.at lf).q.length)(h:nW (sC W lf) (x.at lf).q[k].r (kA s lf)=false):kD W x s (k+1)=kD W x s k:=by
 subst hl;exact Gj hk (NG h)
theorem Sz(hl:W.left s=lf)(hk:k<(x.at lf).q.length)(h:W.Nn s (x.at lf).q[k].r.t=none):kD W x s (k+1)=kD W x s k:=by
 subst hl;exact Gj hk (Sy h)
theorem VG(hl:W.left s=lf)(J:k<(x.at lf).q.length)(h:nW (sC W lf) (x.at lf).q[k].r (kA s lf)=true)(M:W.Nn s (x.at lf).q[k].r.t=some z):
  kD W x s (k+1)=kD W x s k++[((x.at lf).q[k],⟨iN s lf (x.at lf).q[k].r.f.length,jN s lf (x.at lf).q[k].r.f.length,z.1,z.2⟩)]/\∃ hi:(kD W x s k).length<(dJ W x s).length,(dJ W x s)[(kD W x s k).length]=((x.at lf).q[k],⟨iN s lf (x.at lf).q[k].r.f.length,jN s lf (x.at lf).q[k].r.f.length,z.1,z.2⟩):=by
 subst hl;have I:=VE h M;rw[VF] at I;exact⟨Sw J I,ZV J I⟩
theorem SB(hl:W.left s=lf):kD W x s (x.at lf).q.length=dJ W x s:=by subst hl;exact VB
end
theorem AY{x:WA}(hs:W.ok s)(hW:YQ W x)(ha:s.a.length<=1000000):
  Qt Tryz.prog 90 #[.pointer (some ⟨b1,0,none⟩),.pointer (some ⟨b2,0,none⟩)] (YP W x) (Zw W x s b1 b2) ND (dJ W x s):=by
 intro n lo w F0 w0 X Y ag b7 hE h0 hY;have HY:=au hY;have HE:=au hE;have HS:=au hs;have HW:=au hW;have H0:=au h0;clear hY hE hs hW;refine callsIn_of_wp Tryz.func90 rfl trivial ?_ rfl;simp only[Tryz.ntmps90,pZ,jz,lL,Nat.reduceAdd,Nat.reduceSub,re,rk,ry,rq,me,pd];obtain⟨⟨c1,c2,c3,c4⟩,d0,d1,d2,d3⟩:=yh h0;clear h0;refine wpIn_seq_k ?_;intro K0 aA;have cut:∀ (lf:Bool) (g14 g15 g16 g17 g18 g19 g20 g21 g22 g23 g24 g25 g26 g27 g28 g29:Value),W.left s=lf->K0 { tmps:=#[.func (.yield lo) #[] #[],.pointer (some ⟨b1,0,none⟩),.pointer (some ⟨b2,0,none⟩),undef,.bool lf,undef,undef,undef,undef,undef,undef,undef,undef,undef,g14,g15,g16,g17,g18,g19,g20,g21,g22,g23,g24,g25,g26,g27,g28,g29,undef,undef,undef,undef,undef,undef,undef,undef,undef,undef,undef,undef,undef,undef,undef,undef,undef,undef,undef,undef,undef,undef,undef,undef,undef,undef,undef,undef,undef,undef,undef,undef,undef,undef,undef,undef,undef,undef,undef,undef,undef,undef,undef,undef,undef,undef,undef,undef,undef,undef,undef,undef,undef,undef,undef,undef,undef,undef,undef,undef,undef,undef,undef,undef,undef,undef,undef,undef,undef,undef,undef,undef,undef,undef,undef,undef,undef,undef,undef],defers:=[] } w:=by
  intro lf g14 g15 g16 g17 g18 g19 g20 g21 g22 g23 g24 g25 g26 g27 g28 g29 bn;have HL:=au bn;refine aA _ _ ?_;clear aA K0;have a6:∀ W',aI F0 w0 (aj (Zw W x s b1 b2) (X 0)) W'->(fun w:World=>w.cell? ⟨b1,0,none⟩=some (.int .i64 s.i)/\w.cell? ⟨b1,1,none⟩=some (.int .i64 s.j)/\(nz w b2 (.slice x.a.L W.l.length x.a.lc) (.slice x.a.R x.a.q.length x.a.rc) (.slice x.b.L W.m.length x.b.lc) (.slice x.b.R x.b.q.length x.b.rc))) W':=fun W' h=>by
   obtain⟨⟨c1,c2,c3,c4⟩,d0,d1,d2,d3⟩:=yh h;exact⟨c1,c2,d0,d1,d2,d3⟩
  have am:=au a6;have H1:=au (H0.o.drew (aB nX (ag 0)));have aq:=am.o _ H1.o;clear a6 c1 c2 c3 c4 d0 d1 d2 d3;refine wpIn_seq_k ?_;intro K1 bh;refine wpIn_wide.2 (aP (fun w:World=>w.cell? ⟨b1,0,none⟩=some (.int .i64 s.i)/\w.cell? ⟨b1,1,none⟩=some (.int .i64 s.j)/\(nz w b2 (.slice x.a.L W.l.length x.a.lc) (.slice x.a.R x.a.q.length x.a.rc) (.slice x.b.L W.m.length x.b.lc) (.slice x.b.R x.b.q.length x.b.rc))) eQ eQ aq ?_);clear aq
  (repeat(first|refine bM ?_|refine bN ?_))
  refine dG rfl gh (fun K hK=>?_);go_wp2_with fail;clear H1;have H2:=au ((aH H0.o (aB nX (ag 0)) (fx none 0 0 none 0 0) 163).drew (aB aF (aB nX (ag 0))));generalize (w.alloc (.cells (fx none 0 0 none 0 0) 163)).drew=w2 at *
  generalize w.heap.size=g5 at *
  refine hK.o _ _ (am.o _ H2.o.drop) ?_;clear hK;obtain⟨f5,I⟩:=H2.o.fst;have y0:=ay (i:=0) I rfl;have y1:=ay (i:=1) I rfl;have yf:=aN I;clear I
  (repeat(first|refine bM ?_|refine bN ?_))
  refine dG rfl gh (fun K hK=>?_);go_wp2_with fail;have H3:=au (oV H2.o (aB nX (ag 0)) (.slice x.b.L W.m.length x.b.lc) (.slice x.b.R x.b.q.length x.b.rc));clear H2 y0 y1 yf;generalize (w2.setCell ⟨g5,0,none⟩ (.slice x.b.L W.m.length x.b.lc)).setCell ⟨g5,1,none⟩ (.slice x.b.R x.b.q.length x.b.rc)=w3 at *
  refine hK.o _ _ (am.o _ H3.o.drop) ?_;clear hK
  (repeat(first|refine bM ?_|refine bN ?_))
  refine lex_nil ?_;refine bh _ _ ?_;clear bh K1;gi_step;refine wpIn_seq_k ?_;intro K3 a4;have ax:∀ (w:World) (h30 h31 h32 h33 h34 h35 h36 h37 h38:Value),aI F0 w0 (aj (av g5 (fx (x.at lf).L (sC W lf).length (x.at lf).lc (x.at lf).R (x.at lf).q.length (x.at lf).rc) 163) (aj (Zw W x s b1 b2) (X 0))) w->K3 { tmps:=#[.func (.yield lo) #[] #[],.pointer (some ⟨b1,0,none⟩),.pointer (some ⟨b2,0,none⟩),undef,.bool lf,.pointer (some ⟨g5,0,none⟩),.int .i64 (kA s lf:Nat),undef,undef,undef,undef,undef,undef,undef,g14,g15,g16,g17,g18,g19,g20,g21,g22,g23,g24,g25,g26,g27,g28,g29,h30,h31,h32,h33,h34,h35,h36,h37,h38,undef,undef,undef,undef,undef,undef,undef,undef,undef,undef,undef,undef,undef,undef,undef,undef,undef,undef,undef,undef,undef,undef,undef,undef,undef,undef,undef,undef,undef,undef,undef,undef,undef,undef,undef,undef,undef,undef,undef,undef,undef,undef,undef,undef,undef,undef,undef,undef,undef,undef,undef,undef,undef,undef,undef,undef,undef,undef,undef,undef,undef,undef,undef,undef,undef,undef,undef,undef,undef,undef],defers:=[] } w:=by
   intro w h30 h31 h32 h33 h34 h35 h36 h37 h38 hR;have az:=au hR;refine a4 _ _ ?_;clear a4 K3 hR am H0 H3;have b4:=au (fun W' (hm:Mod F0 w0 W')=>(HE.o W' hm).at lf);obtain⟨be,a7,bc,bf⟩:=HW.o.at lf;have bm:=au be;have b3:=au a7;have bk:=au bc;have bv:=au bf;have bw:=au (ad9 HS.o lf);have bu:=au (fun k hk h=>NH (x:=x) (k:=k) HL.o hk h);have b5:=au (fun k hk h=>Sz (x:=x) (k:=k) HL.o hk h);have bo:=au (fun k hk h z hz=>VG (x:=x) (k:=k) HL.o hk h (z:=z) hz);have bx:=au (SB (x:=x) HL.o);clear be a7 bc bf;have b0:(s.i:Int)<=1000000:=by have:=HS.o.1;have:=HW.o.l6;omega
   have bp:(s.j:Int)<=1000000:=by have:=HS.o.2.1;have:=HW.o.m6;omega
   generalize x.at lf=y at *
   generalize kA s lf=a8 at *
   generalize sC W lf=ls at *
   obtain⟨f5,I⟩:=az.o.fst;have y0:=ay (i:=0) I rfl;have y1:=ay (i:=1) I rfl;clear I f5;gi_wp2;gi_loopw [42] (fun i wr=>∃ k:Nat,k<=y.q.length/\i=.int .i64 k/\aI F0 w0 (aj (av g5 (fx y.L ls.length y.lc y.R y.q.length y.rc) 163) (aj (Zw W x s b1 b2) (X (kD W x s k).length))) wr) (fun i _=>y.q.length-(intOf i).toNat)
   case atStart=>exact⟨0,fy _,rfl,az.o⟩
   case round=>
    obtain⟨k,hk,rfl,hR⟩:=hrel;have HR:=au hR;clear az hR y0 y1;obtain⟨f5,I⟩:=HR.o.fst;have y0:=ay (i:=0) I rfl;have y1:=ay (i:=1) I rfl;clear I f5;by_cases ad:k<y.q.length
    ·obtain⟨PL,PR,PF⟩:=b4.o wr HR.o.mod;obtain⟨b,o,hA,hc⟩:=sI.at (R:=dZ) (fun _=>rfl) eL PR eL;have r0:=hc wr (fe _ _) k ad 0 _ rfl;have r1:=hc wr (fe _ _) k ad 1 _ rfl;have r2:=hc wr (fe _ _) k ad 2 _ rfl;have r3:=hc wr (fe _ _) k ad 3 _ rfl;have ab:=au (show k+1<=y.q.length from ad);have al:=au (bu.o k ad);have af:=au (b5.o k ad);have a0:=au (bo.o k ad);have a2:=au (PF _ (gw ad));have ao:=au (bv.o _ (gw ad));have ba:=au PL;have b6:(k:Int)<1000000:=by have:=bm.o;omega
     clear hc PL PR PF;have bi:=au (aB nX (ag (kD W x s k).length):(aj (Zw W x s b1 b2) (X (kD W x s k).length)).Ok);generalize y.q[k]=ra at *
     obtain⟨⟨ix,ai,rf,rt⟩,rA,rc⟩:=ra;dsimp only at al af a0 a2 ao;simp only[pk] at r0;dsimp only at r0 r1 r2 r3;rw[hA]
     iterate 32 (first|go_values|gi_guarded|gi_step|gi_upon)
     have aE:=au (aB aF bi.o:(aj (av g5 (fx y.L ls.length y.lc y.R y.q.length y.rc) 163) (aj (Zw W x s b1 b2) (X (kD W x s k).length))).Ok);have H1:=au (aH HR.o aE.o (km (ix:Nat) ai rA rf.length rc (bs rt)) 177);have KF:=au (Vy (w:=wr.alloc (.cells (km (ix:Nat) ai rA rf.length rc (bs rt)) 177)) (R:=y.R) (rn:=y.q.length) (rc:=y.rc) (lc:=y.lc) (fc:=rc) (r:=⟨ix,ai,rf,rt⟩) (ba.o.below ((fe _ _).alloc (fL _) _)) (a2.o.below ((fe _ _).alloc (fL _) _)) bw.o b3.o bk.o ao.o.1);have HA:=au hA;clear r0 r1 r2 r3 y0 y1 ba a2 HR hA;generalize wr.alloc (.cells (km (ix:Nat) ai rA rf.length rc (bs rt)) 177)=w1 at *
     generalize wr.heap.size=h8 at *
     obtain⟨x0,x1,x2,x3,xf⟩:=bq H1.o;obtain⟨f5,I⟩:=H1.o.drop.fst;have y0:=ay (i:=0) I rfl;have y1:=ay (i:=1) I rfl;clear I f5;dsimp only at KF
     gi_wp2_with fail
     refine⟨trivial,fun h=>(by cases h),?_⟩
     gi_at_call 91
     refine(callsIn_wide.2 KF.o).mono ?_;rintro e9 w9 ⟨rfl,hb9⟩;have H2:=au (H1.o.below (aB aF aE.o) hb9);clear KF hb9 H1 x0 x1 x2 x3 xf y0 y1;dsimp only;by_cases ae:nW ls ⟨ix,ai,rf,rt⟩ a8=true
     ·rw[ae];have a9:=au ae;clear ae al;obtain⟨⟨c1,c2,c3,c4⟩,-⟩:=yh H2.o.drop.drop;obtain⟨x0,x1,x2,x3,xf⟩:=bq H2.o
      iterate 38 (first|go_values|gi_guarded|gi_step|gi_upon)
      have ac:=au (aB aF aE.o:(aj (av h8 (km (ix:Nat) ai rA rf.length rc (bs rt)) 177) (aj (av g5 (fx y.L ls.length y.lc y.R y.q.length y.rc) 163) (aj (Zw W x s b1 b2) (X (kD W x s k).length)))).Ok);have H3:=au (aH H2.o ac.o (fN s.i s.j ⟨#[]⟩ false) 171);clear H2 c1 c2 c3 c4 x0 x1 x2 x3 xf;generalize w9.alloc (.cells (fN s.i s.j ⟨#[]⟩ false) 171)=w3 at *
      generalize w9.heap.size=h9 at *
      gi_step;rename_i Kj a1 Kc a3;have aw:∀ (w:World) (v44 v45 v46 v47 v48 v49 v50 v51 v52 v53 v54 v55 v56 v57 v58 v59 v60 v61 v62 v63 v64 v65 v66 v67 v68 v69 v70:Value),aI F0 w0 (aj (av h9 (fN (iN s lf rf.length:Nat) (jN s lf rf.length:Nat) ⟨#[]⟩ false) 171) (aj (av h8 (km (ix:Nat) ai rA rf.length rc (bs rt)) 177) (aj (av g5 (fx y.L ls.length y.lc y.R y.q.length y.rc) 163) (aj (Zw W x s b1 b2) (X (kD W x s k).length))))) w->Kj { tmps:=#[.func (.yield lo) #[] #[],.pointer (some ⟨b1,0,none⟩),.pointer (some ⟨b2,0,none⟩),undef,.bool lf,.pointer (some ⟨g5,0,none⟩),.int .i64 (a8:Nat),undef,.pointer (some ⟨h8,0,none⟩),.pointer (some ⟨h9,0,none⟩),u10,u11,u12,u13,g14,g15,g16,g17,g18,g19,g20,g21,g22,g23,g24,g25,g26,g27,g28,g29,h30,h31,h32,h33,h34,h35,h36,h37,h38,.pointer (some ⟨g5,1,none⟩),.slice (some ⟨b,o,none⟩) y.q.length y.rc,.int .i64 (y.q.length:Nat),.int .i64 (k:Nat),.bool true,v44,v45,v46,v47,v48,v49,v50,v51,v52,v53,v54,v55,v56,v57,v58,v59,v60,v61,v62,v63,v64,v65,v66,v67,v68,v69,v70,u71,u72,u73,u74,u75,u76,u77,u78,u79,u80,u81,u82,u83,u84,u85,u86,u87,u88,u89,u90,u91,u92,u93,u94,u95,u96,u97,u98,u99,u100,u101,u102,u103,u104,u105,u106,u107,u108],defers:=[] } w:=by
       intro w v44 v45 v46 v47 v48 v49 v50 v51 v52 v53 v54 v55 v56 v57 v58 v59 v60 v61 v62 v63 v64 v65 v66 v67 v68 v69 v70 hR;have H4:=au hR;refine a1 _ _ ?_;clear a1 a3 Kc Kj H3 hR b0 bp;have ap:=au (a0.o a9.o);clear a0 a9;generalize iN s lf rf.length=ni at *
       generalize jN s lf rf.length=nj at *
       obtain⟨⟨c1,c2,c3,c4⟩,-⟩:=yh H4.o.drop.drop.drop;obtain⟨x0,x1,x2,x3,xf⟩:=bq H4.o.drop;obtain⟨z0,z1,z2,z3,zf⟩:=bq H4.o;have KC:=au (kS s.a rt w)
       gi_wp2_with fail
       by_cases h1:rt.isPrefixOf s.a=true
       ·have HZ:=au (ap.o _ (ad6 h1));rw[if_pos h1,h1] at KC;clear h1 af ap;generalize s.a.drop rt.length=q at *
        cases hr:s.r with
        | false=>
         rw[hr,qq] at HZ;rw[hr] at c4;clear hr;refine⟨trivial,fun h=>(by cases h),?_⟩
         gi_at_call 92
         refine(callsIn_wide.2 KC.o).mono ?_;rintro an aa ⟨rfl,h10⟩;subst aa;clear KC;dsimp only
         iterate 28 (first|go_values|gi_guarded|gi_step|gi_upon)
         refine wpIn_wide.2 ?_;go_wp2;have H7:=au (aJ (aJ H4.o ac.o 2 (.string (bs q))) ac.o 3 (.bool false):aI F0 w0 (aj (av h9 (fN (ni:Nat) (nj:Nat) (bs q) false) 171) _) _);clear H4 z0 z1 z2 z3 zf x0 x1 x2 x3 xf c1 c2 c3 c4;generalize (w.setCell ⟨h9,2,none⟩ (.string (bs q))).setCell ⟨h9,3,none⟩ (.bool false)=w7 at *
         obtain⟨z0,z1,z2,z3,zf⟩:=bq H7.o;obtain⟨x0,x1,x2,x3,xf⟩:=bq H7.o.drop;obtain⟨hM,hi,hx⟩:=HZ.o;have HM:=au hM;have hw:=HY.o (aj (av g5 (fx y.L ls.length y.lc y.R y.q.length y.rc) 163) (Zw W x s b1 b2)) aO _ hi w7 (H7.o.drop.drop.perm (by ac_rfl));rw[hx] at hw;clear hM HZ;simp only[ND,dz,dZ] at hw;obtain⟨fn,tmps,assign,body,hy,hround⟩:=hw;have M:=au hround;clear hround hx hi;gi_wp2
         try rw[hy]
         refine⟨fun h=>(by cases h),?_⟩;refine M.o.mono ?_;rintro e W3 (⟨rfl,J⟩|⟨rfl,J⟩)
         ·have H8:=au (J.perm (by ac_rfl:_=aj (av g5 (fx y.L ls.length y.lc y.R y.q.length y.rc) 163) (aj (Zw W x s b1 b2) (X ((kD W x s k).length+1)))));clear M J hy H7 z0 z1 z2 z3 zf x0 x1 x2 x3 xf;gi_wp2
          go_roundw
          case rel=>exact⟨k+1,ab.o,by go_num,by rw[HM.o,gj,<-HA.o];exact H8.o⟩
          case measure=>have:=ab.o;simp[intOf];omega
         ·have ak:=au (show(∃ v,(Ending.returned (.tuple #[]))=.returned v)/\∃ Z:CH.aU,Z.Ok/\(aI F0 w0 (aj Z (X (dJ W x s).length)) W3\/aI F0 w0 (aj Z Y) W3) from⟨⟨_,rfl⟩,_,aB aF nX,.inr J⟩);clear M J hy H7 z0 z1 z2 z3 zf x0 x1 x2 x3 xf;gi_wp2;refine bodyPost_ret (results_none rfl _ _ _) rfl ?_;exact ak.o
        | true=>
         rw[hr,lx] at HZ;rw[hr] at c4;clear hr;by_cases hq:q=[]
         ·have e2:(bs q).toList.isEmpty=true:=by rw[sk];exact dD.2 hq
          rw[decide_eq_false (fun h=>h hq)] at HZ;clear hq;refine⟨trivial,fun h=>(by cases h),?_⟩
          gi_at_call 92
          refine(callsIn_wide.2 KC.o).mono ?_;rintro an aa ⟨rfl,h10⟩;subst aa;clear KC;dsimp only
          iterate 28 (first|go_values|gi_guarded|gi_step|gi_upon)
          refine wpIn_wide.2 ?_;go_wp2;have H7:=au (aJ (aJ H4.o ac.o 2 (.string (bs q))) ac.o 3 (.bool false):aI F0 w0 (aj (av h9 (fN (ni:Nat) (nj:Nat) (bs q) false) 171) _) _);clear H4 z0 z1 z2 z3 zf x0 x1 x2 x3 xf c1 c2 c3 c4;generalize (w.setCell ⟨h9,2,none⟩ (.string (bs q))).setCell ⟨h9,3,none⟩ (.bool false)=w7 at *
          obtain⟨z0,z1,z2,z3,zf⟩:=bq H7.o;obtain⟨x0,x1,x2,x3,xf⟩:=bq H7.o.drop;obtain⟨hM,hi,hx⟩:=HZ.o;have HM:=au hM;have hw:=HY.o (aj (av g5 (fx y.L ls.length y.lc y.R y.q.length y.rc) 163) (Zw W x s b1 b2)) aO _ hi w7 (H7.o.drop.drop.perm (by ac_rfl));rw[hx] at hw;clear hM HZ;simp only[ND,dz,dZ] at hw;obtain⟨fn,tmps,assign,body,hy,hround⟩:=hw;have M:=au hround;clear hround hx hi;gi_wp2
          try rw[hy]
          refine⟨fun h=>(by cases h),?_⟩;refine M.o.mono ?_;rintro e W3 (⟨rfl,J⟩|⟨rfl,J⟩)
          ·have H8:=au (J.perm (by ac_rfl:_=aj (av g5 (fx y.L ls.length y.lc y.R y.q.length y.rc) 163) (aj (Zw W x s b1 b2) (X ((kD W x s k).length+1)))));clear M J hy H7 z0 z1 z2 z3 zf x0 x1 x2 x3 xf;gi_wp2
           go_roundw
           case rel=>exact⟨k+1,ab.o,by go_num,by rw[HM.o,gj,<-HA.o];exact H8.o⟩
           case measure=>have:=ab.o;simp[intOf];omega
          ·have ak:=au (show(∃ v,(Ending.returned (.tuple #[]))=.returned v)/\∃ Z:CH.aU,Z.Ok/\(aI F0 w0 (aj Z (X (dJ W x s).length)) W3\/aI F0 w0 (aj Z Y) W3) from⟨⟨_,rfl⟩,_,aB aF nX,.inr J⟩);clear M J hy H7 z0 z1 z2 z3 zf x0 x1 x2 x3 xf;gi_wp2;refine bodyPost_ret (results_none rfl _ _ _) rfl ?_;exact ak.o
         ·have e2:(bs q).toList.isEmpty=false:=by rw[pN];exact fun h=>hq (dD.1 h)
          rw[decide_eq_true hq] at HZ;clear hq;refine⟨trivial,fun h=>(by cases h),?_⟩
          gi_at_call 92
          refine(callsIn_wide.2 KC.o).mono ?_;rintro an aa ⟨rfl,h10⟩;subst aa;clear KC;dsimp only
          iterate 28 (first|go_values|gi_guarded|gi_step|gi_upon)
          refine wpIn_wide.2 ?_;go_wp2;have H7:=au (aJ (aJ H4.o ac.o 2 (.string (bs q))) ac.o 3 (.bool true):aI F0 w0 (aj (av h9 (fN (ni:Nat) (nj:Nat) (bs q) true) 171) _) _);clear H4 z0 z1 z2 z3 zf x0 x1 x2 x3 xf c1 c2 c3 c4;generalize (w.setCell ⟨h9,2,none⟩ (.string (bs q))).setCell ⟨h9,3,none⟩ (.bool true)=w7 at *
          obtain⟨z0,z1,z2,z3,zf⟩:=bq H7.o;obtain⟨x0,x1,x2,x3,xf⟩:=bq H7.o.drop;obtain⟨hM,hi,hx⟩:=HZ.o;have HM:=au hM;have hw:=HY.o (aj (av g5 (fx y.L ls.length y.lc y.R y.q.length y.rc) 163) (Zw W x s b1 b2)) aO _ hi w7 (H7.o.drop.drop.perm (by ac_rfl));rw[hx] at hw;clear hM HZ;simp only[ND,dz,dZ] at hw;obtain⟨fn,tmps,assign,body,hy,hround⟩:=hw;have M:=au hround;clear hround hx hi;gi_wp2
          try rw[hy]
          refine⟨fun h=>(by cases h),?_⟩;refine M.o.mono ?_;rintro e W3 (⟨rfl,J⟩|⟨rfl,J⟩)
          ·have H8:=au (J.perm (by ac_rfl:_=aj (av g5 (fx y.L ls.length y.lc y.R y.q.length y.rc) 163) (aj (Zw W x s b1 b2) (X ((kD W x s k).length+1)))));clear M J hy H7 z0 z1 z2 z3 zf x0 x1 x2 x3 xf;gi_wp2
           go_roundw
           case rel=>exact⟨k+1,ab.o,by go_num,by rw[HM.o,gj,<-HA.o];exact H8.o⟩
           case measure=>have:=ab.o;simp[intOf];omega
          ·have ak:=au (show(∃ v,(Ending.returned (.tuple #[]))=.returned v)/\∃ Z:CH.aU,Z.Ok/\(aI F0 w0 (aj Z (X (dJ W x s).length)) W3\/aI F0 w0 (aj Z Y) W3) from⟨⟨_,rfl⟩,_,aB aF nX,.inr J⟩);clear M J hy H7 z0 z1 z2 z3 zf x0 x1 x2 x3 xf;gi_wp2;refine bodyPost_ret (results_none rfl _ _ _) rfl ?_;exact ak.o
       ·by_cases J:s.a.isPrefixOf rt=true
        ·have HZ:=au (ap.o _ (ad7 h1 J));rw[HL.o] at HZ;rw[if_neg h1,Bool.eq_false_iff.2 h1] at KC;clear h1 af ap;refine⟨trivial,fun h=>(by cases h),?_⟩
         gi_at_call 92
         refine(callsIn_wide.2 KC.o).mono ?_;rintro an aa ⟨rfl,h10⟩;subst aa;clear KC;dsimp only
         gi_wp2_with fail
         have KD:=au (kS rt s.a w);rw[if_pos J,J] at KD;clear J;generalize rt.drop s.a.length=q at *
         refine⟨trivial,fun h=>(by cases h),?_⟩
         gi_at_call 92
         refine(callsIn_wide.2 KD.o).mono ?_;rintro an aa ⟨rfl,h10⟩;subst aa;clear KD;dsimp only
         iterate 28 (first|go_values|gi_guarded|gi_step|gi_upon)
         refine wpIn_wide.2 ?_;go_wp2;have H7:=au (aJ (aJ H4.o ac.o 2 (.string (bs q))) ac.o 3 (.bool (!lf)):aI F0 w0 (aj (av h9 (fN (ni:Nat) (nj:Nat) (bs q) (!lf)) 171) _) _);clear H4 z0 z1 z2 z3 zf x0 x1 x2 x3 xf c1 c2 c3 c4;generalize (w.setCell ⟨h9,2,none⟩ (.string (bs q))).setCell ⟨h9,3,none⟩ (.bool (!lf))=w7 at *
         obtain⟨z0,z1,z2,z3,zf⟩:=bq H7.o;obtain⟨x0,x1,x2,x3,xf⟩:=bq H7.o.drop;obtain⟨hM,hi,hx⟩:=HZ.o;have HM:=au hM;have hw:=HY.o (aj (av g5 (fx y.L ls.length y.lc y.R y.q.length y.rc) 163) (Zw W x s b1 b2)) aO _ hi w7 (H7.o.drop.drop.perm (by ac_rfl));rw[hx] at hw;clear hM HZ;simp only[ND,dz,dZ] at hw;obtain⟨fn,tmps,assign,body,hy,hround⟩:=hw;have M:=au hround;clear hround hx hi;gi_wp2
         try rw[hy]
         refine⟨fun h=>(by cases h),?_⟩;refine M.o.mono ?_;rintro e W3 (⟨rfl,J⟩|⟨rfl,J⟩)
         ·have H8:=au (J.perm (by ac_rfl:_=aj (av g5 (fx y.L ls.length y.lc y.R y.q.length y.rc) 163) (aj (Zw W x s b1 b2) (X ((kD W x s k).length+1)))));clear M J hy H7 z0 z1 z2 z3 zf x0 x1 x2 x3 xf;gi_wp2
          go_roundw
          case rel=>exact⟨k+1,ab.o,by go_num,by rw[HM.o,gj,<-HA.o];exact H8.o⟩
          case measure=>have:=ab.o;simp[intOf];omega
         ·have ak:=au (show(∃ v,(Ending.returned (.tuple #[]))=.returned v)/\∃ Z:CH.aU,Z.Ok/\(aI F0 w0 (aj Z (X (dJ W x s).length)) W3\/aI F0 w0 (aj Z Y) W3) from⟨⟨_,rfl⟩,_,aB aF nX,.inr J⟩);clear M J hy H7 z0 z1 z2 z3 zf x0 x1 x2 x3 xf;gi_wp2;refine bodyPost_ret (results_none rfl _ _ _) rfl ?_;exact ak.o
        ·have aD:=au (af.o (ad8 h1 J));rw[if_neg h1,Bool.eq_false_iff.2 h1] at KC;have KD:=au (kS rt s.a w);rw[if_neg J,Bool.eq_false_iff.2 J] at KD;clear h1 J af ap;refine⟨trivial,fun h=>(by cases h),?_⟩
         gi_at_call 92
         refine(callsIn_wide.2 KC.o).mono ?_;rintro an aa ⟨rfl,h10⟩;subst aa;clear KC;dsimp only
         gi_wp2_with fail
         refine⟨trivial,fun h=>(by cases h),?_⟩
         gi_at_call 92
         refine(callsIn_wide.2 KD.o).mono ?_;rintro an aa ⟨rfl,h10⟩;subst aa;clear KD;dsimp only;gi_wp2
         go_roundw
         case rel=>exact⟨k+1,ab.o,by go_num,by rw[aD.o,<-HA.o];exact H4.o.drop.drop⟩
         case measure=>have:=ab.o;simp[intOf];omega
      have ar:=au aw;clear aw a1;have bb:=au a3;clear a3;obtain⟨z0,z1,z2,z3,zf⟩:=bq H3.o;obtain⟨x0,x1,x2,x3,xf⟩:=bq H3.o.drop;have b8:=ao.o.1;refine wpIn_wide.2 ?_;cases lf with
      | false=>
       have eN:((iN s false rf.length:Nat):Int)=(s.i:Int):=rfl;have eM:((jN s false rf.length:Nat):Int)=(s.j:Int)+(rf.length:Int):=by simp[jN]
       rw[eN,eM] at ar;clear eN eM;go_wp2;refine bb.o _ _ ?_;refine wpIn_wide.2 ?_;go_wp2;exact ar.o _ _ _ _ _ _ _ _ _ _ _ _ _ _ _ _ _ _ _ _ _ _ _ _ _ _ _ _ (aJ H3.o ac.o 1 _)
      | true=>
       have eN:((iN s true rf.length:Nat):Int)=(s.i:Int)+(rf.length:Int):=by simp[iN]
       have eM:((jN s true rf.length:Nat):Int)=(s.j:Int):=rfl;rw[eN,eM] at ar;clear eN eM;go_wp2;refine bb.o _ _ ?_;refine wpIn_wide.2 ?_;go_wp2;exact ar.o _ _ _ _ _ _ _ _ _ _ _ _ _ _ _ _ _ _ _ _ _ _ _ _ _ _ _ _ (aJ H3.o ac.o 0 _)
     ·have aD:=au (al.o (Bool.eq_false_iff.2 ae));rw[Bool.eq_false_iff.2 ae];clear ae al;gi_wp2
      go_roundw
      case rel=>exact⟨k+1,ab.o,by go_num,by rw[aD.o,<-HA.o];exact H2.o.drop⟩
      case measure=>have:=ab.o;simp[intOf];omega
    ·obtain rfl:k=y.q.length:=by omega
     have bj:=au (show(∃ v,(Ending.returned (.tuple #[]))=.returned v)/\∃ Z:CH.aU,Z.Ok/\(aI F0 w0 (aj Z (X (dJ W x s).length)) wr\/aI F0 w0 (aj Z Y) wr) from⟨⟨_,rfl⟩,_,aB aF nX,.inl (by rw[<-bx.o];exact HR.o.perm (by ac_rfl))⟩);gi_wp2
     go_end0
     exact bj.o
  have a5:=au ax;clear ax a4;clear HE HY HS HW ha;cases lf with
  | false=>
   clear HL;refine wpIn_wide.2 ?_;go_wp2;exact a5.o _ _ _ _ _ _ _ _ _ _ H3.o
  | true=>
   clear HL;refine wpIn_wide.2 ?_;go_wp2_with fail;have H4:=au (H3.o.drew (aB aF (aB nX (ag 0))));have aq:=am.o _ H4.o.drop;refine aP (fun w:World=>w.cell? ⟨b1,0,none⟩=some (.int .i64 s.i)/\w.cell? ⟨b1,1,none⟩=some (.int .i64 s.j)/\(nz w b2 (.slice x.a.L W.l.length x.a.lc) (.slice x.a.R x.a.q.length x.a.rc) (.slice x.b.L W.m.length x.b.lc) (.slice x.b.R x.b.q.length x.b.rc))) eQ eQ aq ?_;clear aq H3;generalize w3.drew=w4 at *
   (repeat(first|refine bM ?_|refine bN ?_))
   refine dG rfl gh (fun K hK=>?_);obtain⟨f5,I⟩:=H4.o.fst;have y0:=ay (i:=0) I rfl;have y1:=ay (i:=1) I rfl;have yf:=aN I;clear I;go_wp2_with fail;have H5:=au (oV H4.o (aB nX (ag 0)) (.slice x.a.L W.l.length x.a.lc) (.slice x.a.R x.a.q.length x.a.rc));clear H4 y0 y1 yf;generalize (w4.setCell ⟨g5,0,none⟩ (.slice x.a.L W.l.length x.a.lc)).setCell ⟨g5,1,none⟩ (.slice x.a.R x.a.q.length x.a.rc)=w5 at *
   refine hK.o _ _ (am.o _ H5.o.drop) ?_;clear hK
   (repeat(first|refine bM ?_|refine bN ?_))
   refine lex_nil ?_;exact a5.o _ _ _ _ _ _ _ _ _ _ H5.o
 have HC:=au cut;clear cut aA;cases hr:s.r with
 | true=>
  have hl:W.left s=true:=by unfold Wd.left;rw[hr];rfl
  have HL:=au hl;rw[hr] at c4;clear hl hr;refine wpIn_wide.2 ?_;go_wp2;exact HC.o true _ _ _ _ _ _ _ _ _ _ _ _ _ _ _ _ HL.o
 | false=>
  rw[hr] at c4;by_cases he:s.a=[]
  ·have bz:(bs s.a).toList.isEmpty=true:=by rw[sk];exact dD.2 he
   by_cases hi:s.i=W.l.length
   ·have hl:W.left s=false:=by unfold Wd.left;rw[hr];simp[hi]
    have HL:=au hl;have br:decide (s.i<W.l.length)=false:=decide_eq_false eL;clear hl hi he hr;gi_wp2;exact HC.o false _ _ _ _ _ _ _ _ _ _ _ _ _ _ _ _ HL.o
   ·have hl:W.left s=true:=by unfold Wd.left;rw[hr];simp[hi,he]
    have HL:=au hl;have br:decide (s.i<W.l.length)=true:=decide_eq_true (by have:=HS.o.1;omega);clear hl hi he hr;gi_wp2;exact HC.o true _ _ _ _ _ _ _ _ _ _ _ _ _ _ _ _ HL.o
  ·have bz:(bs s.a).toList.isEmpty=false:=by rw[pN];exact fun h=>he (dD.1 h)
   have hl:W.left s=false:=by unfold Wd.left;rw[hr];simp[he]
   have HL:=au hl;clear hl he hr;gi_wp2;exact HC.o false _ _ _ _ _ _ _ _ _ _ _ _ _ _ _ _ HL.o
theorem acI{W:Wd}{x:WA}{bm bw bf:Nat}(hE:∀ W',Mod F0 w0 W'->YP W x W')(hW:YQ W x)(hg:W.good)(ht:W.qd)(hm:NI W x):
  ∀ (n:Nat) (s:St) (L:List (St × Int)) (X:CH.aU) (w:World),W.iu s<n->W.ok s->s.a.length<=3->Kn W L->X.Ok->aI F0 w0 (aj (jA b L) (aj (BX W x b bm bw bf) X)) w ->
  Calls Tryz.prog 89 #[sO s,.pointer (some ⟨bm,0,none⟩),.pointer (some ⟨bw,0,none⟩),.pointer (some ⟨bf,0,none⟩)] w (Qa W x s L F0 w0 b bm bw bf X):=by
 intro n
 induction n with
 | zero=>intro s L X w h;exact absurd h (oc _)
 | succ n ih=>
 intro s L X w hn hs ha hk hX hR;have IH:=au ih;have HE:=au hE;have HW:=au hW;have HG:=au hg;have HT:=au ht;have HN:=au hn;have HS:=au hs;have HA:=au ha;have HK:=au hk;have HX:=au hX;have HM:=au hm;have h2:aI F0 w0 (aj (av w.heap.size (dz s) 171) (aj (jA b L) (aj (BX W x b bm bw bf) X))) _:=aH hR aO (dz s) 171;have H2:=au h2;clear ih hE hW hg ht hn hs ha hk h2 hR hm;refine(callsIn_wide (n:=8)).1 ?_;refine callsIn_of_wp_marks Tryz.func89 rfl trivial ?_ rfl;simp only[Tryz.ntmps89,pZ,jz,lL,Nat.reduceAdd,Nat.reduceSub,re,rk,ry,rq,me,pd];refine(wpIn_wide (n:=8)).2 ?_;unfold sO;unfold dz;unfold dz at H2;generalize a4:w.alloc (.cells (fN s.i s.j (bs s.a) s.r) 171)=w2 at *
 iterate 9 (first|go_values|go_guarded|go_step)
 clear a4;generalize w.heap.size=gs at *
 obtain⟨F,hF⟩:=H2.o.fst;have c0:=ay (i:=0) hF rfl;have c1:=ay (i:=1) hF rfl;have c2:=ay (i:=2) hF rfl;have c3:=ay (i:=3) hF rfl;clear hF F;obtain⟨m0,f0,d0,d1,d2,d3⟩:=oG H2.o.drop.drop;obtain⟨F,hF⟩:=H2.o.drop.fst;have ac:=KY hF s true;by_cases ad:s ∈ gF L
 ·obtain⟨v,hv⟩:=mem_keys.1 ad;have be:v=W.fw s:=HK.o.val _ hv;subst be;rw[Iw HK.o.nd hv] at ac;have an:(Instr.lookup 168 (.map (some b)) (.agg (fN s.i s.j (bs s.a) s.r)) true).run Tryz.prog w2=.ok (.tuple (o6 (W.fw s) true)) w2:=ac;have HF:=au (show Qa W x s L F0 w0 b bm bw bf X (.returned (.int .i64 (W.fw s))) w2 from⟨L,rfl,HK.o,Ext.refl,ad,H2.o.drop⟩);clear ac hF hv ad;go_wp2;refine⟨_,results_tmp rfl _ _ _,?_⟩;exact HF.o
 ·rw[PE ad] at ac;have an:(Instr.lookup 168 (.map (some b)) (.agg (fN s.i s.j (bs s.a) s.r)) true).run Tryz.prog w2=.ok (.tuple (o6 0 false)) w2:=ac;have bc:=au ad;clear ac hF ad
  iterate 56 (first|go_values|go_guarded|go_step)
  have H3:=au (aH H2.o aO (fR 1099511627776) 3);clear H2 c0 c1 c2 c3 m0 f0 d0 d1 d2 d3 an;generalize w2.alloc (.cells (fR 1099511627776) 3)=w3 at *
  generalize w2.heap.size=g8 at *
  obtain⟨c0,c1,c2,c3,-⟩:=bq H3.o.drop;obtain⟨m0,f0,d0,d1,d2,d3⟩:=oG H3.o.drop.drop.drop;have KD:=au (Kw (w:=w3) (W:=W) (x:=x) (s:=s));unfold bJ dz at KD;rename_i Kj am;refine wp_seq_k ?_;intro Kc aw;have cut:∀ (w:World) (g18 g19 g20 g21:Value),aI F0 w0 (aj (av g8 (fR (jU W s 0)) 3) (aj (av gs (dz s) 171) (aj (jA b L) (aj (BX W x b bm bw bf) X)))) w->Kj { tmps:=#[.agg (fN s.i s.j (bs s.a) s.r),.pointer (some ⟨bm,0,none⟩),.pointer (some ⟨bw,0,none⟩),.pointer (some ⟨bf,0,none⟩),.pointer (some ⟨gs,0,none⟩),.int .i64 0,.int .i64 0,.bool false,.pointer (some ⟨g8,0,none⟩),undef,undef,.tuple (o6 0 false),.map (some b),.agg (fN s.i s.j (bs s.a) s.r),.tuple (o6 0 false),.int .i64 0,.bool false,.bool false,g18,g19,g20,g21,undef,undef,undef,undef,undef,undef,undef,undef,undef,undef,undef,undef,undef,undef,undef,undef,undef],defers:=[] } w:=by
   intro w g18 g19 g20 g21 hR;have HR:=au hR;refine am _ _ ?_;clear am aw Kc Kj hR H3 KD c0 c1 c2 c3 m0 f0 d0 d1 d2 d3;obtain⟨c0,c1,c2,c3,-⟩:=bq (HR.o.drop:aI F0 w0 (aj (av gs (fN s.i s.j (bs s.a) s.r) 171) _) w);obtain⟨m0,f0,d0,d1,d2,d3⟩:=oG HR.o.drop.drop.drop;have KM:=au (Di (W:=W) (x:=x) (s:=s) w);unfold bJ dz at KM;go_wp2_with fail;refine KM.o.mono ?_;rintro e9 w9 ⟨b1,b2,rfl,hp⟩;have S1:=au (HR.o.fresh aO hp);clear HR KM hp c0 c1 c2 c3 m0 f0 d0 d1 d2 d3;go_wp2_with fail;have ba:=au (AY (W:=W) (s:=s) (x:=x) (b1:=b1) (b2:=b2) HS.o HW.o (j8 HA.o eL));have a5:∀ i,(lW fun L':List (St × Int)=>tu (Ug W s L i L') (aj (av g8 (fR (jU W s i)) 3) (aj (av gs (dz s) 171) (aj (jA b L') (aj (BX W x b bm bw bf) X))))).Ok:=fun i=>bZ fun L'=>gJ (aB aF (aB aF (aB iZ (aB wJ HX.o))));have a1:∀ (i:Nat) (a':Act),(lW fun L':List (St × Int)=>lW fun g9:Nat=>lW fun g10:Nat=>lW fun y:RA × St=>tu (Ug W s L i L'/\(dJ W x s)[i]?=some y/\a'={ tmps:=#[.agg (fN s.i s.j (bs s.a) s.r),.pointer (some ⟨bm,0,none⟩),.pointer (some ⟨bw,0,none⟩),.pointer (some ⟨bf,0,none⟩),.pointer (some ⟨gs,0,none⟩),.int .i64 0,.int .i64 0,.bool false,.pointer (some ⟨g8,0,none⟩),.pointer (some ⟨g9,0,none⟩),.pointer (some ⟨g10,0,none⟩),.tuple (o6 0 false),.map (some b),.agg (fN s.i s.j (bs s.a) s.r),.tuple (o6 0 false),.int .i64 0,.bool false,.bool false,g18,g19,g20,g21,.agg (ln x.a.L W.l.length x.a.lc x.a.R x.a.q.length x.a.rc x.b.L W.m.length x.b.lc x.b.R x.b.q.length x.b.rc),.agg (fN s.i s.j (bs s.a) s.r),Bm b1 b2,.agg (dZ y.1).toArray,.agg (dz y.2),undef,undef,undef,undef,undef,undef,undef,undef,undef,undef,undef,undef],defers:=[] }) (aj (av g10 (dz y.2) 171) (aj (av g9 (dZ y.1).toArray 177) (aj (av g8 (fR (jU W s i)) 3) (aj (av gs (dz s) 171) (aj (jA b L') (aj (BX W x b bm bw bf) X))))))).Ok:=fun i a'=>bZ fun L'=>bZ fun g9=>bZ fun g10=>bZ fun y=>gJ (aB aF (aB aF (aB aF (aB aF (aB iZ (aB wJ HX.o))))));have a2:aI F0 w0 (aj (Zw W x s b1 b2) (lW fun L':List (St × Int)=>tu (Ug W s L 0 L') (aj (av g8 (fR (jU W s 0)) 3) (aj (av gs (dz s) 171) (aj (jA b L') (aj (BX W x b bm bw bf) X)))))) w9:=(aI.nZ L (aI.iT (J4 HK.o) S1.o.swap)).swap;refine pz (gf:=90) (lb:=(s7 (some ⟨b1,0,none⟩) (some ⟨b2,0,none⟩))) rfl (enters_of Tryz.func90 eQ rfl) ba.o nX (fun _=>rfl) HE.o _ (fun _=>wj) a5 _ a1 (fun _=>FV) a2 ?_ ?_ ?_ ?_
   ·intro lo m i hi R W1 K hR hI hK;obtain⟨L',h1⟩:=hI.ex;obtain⟨M,h2⟩:=h1.pure;have ap:(aj (aj (av g8 (fR (jU W s i)) 3) (aj (av gs (dz s) 171) (aj (jA b L') (aj (BX W x b bm bw bf) X)))) R).Ok:=aB (aB aF (aB aF (aB iZ (aB wJ HX.o)))) hR;have h3:=aH h2 ap (dZ (dJ W x s)[i].1).toArray 177;have h4:=aH h3 (aB aF ap) (dz (dJ W x s)[i].2) 171;rw[ik] at h4;have HF:=au (hK { tmps:=#[.agg (fN s.i s.j (bs s.a) s.r),.pointer (some ⟨bm,0,none⟩),.pointer (some ⟨bw,0,none⟩),.pointer (some ⟨bf,0,none⟩),.pointer (some ⟨gs,0,none⟩),.int .i64 0,.int .i64 0,.bool false,.pointer (some ⟨g8,0,none⟩),.pointer (some ⟨W1.heap.size,0,none⟩),.pointer (some ⟨W1.heap.size+1,0,none⟩),.tuple (o6 0 false),.map (some b),.agg (fN s.i s.j (bs s.a) s.r),.tuple (o6 0 false),.int .i64 0,.bool false,.bool false,g18,g19,g20,g21,.agg (ln x.a.L W.l.length x.a.lc x.a.R x.a.q.length x.a.rc x.b.L W.m.length x.b.lc x.b.R x.b.q.length x.b.rc),.agg (fN s.i s.j (bs s.a) s.r),Bm b1 b2,.agg (dZ (dJ W x s)[i].1).toArray,.agg (dz (dJ W x s)[i].2),undef,undef,undef,undef,undef,undef,undef,undef,undef,undef,undef,undef],defers:=[] } _ (aI.nZ L' (aI.nZ W1.heap.size (aI.nZ (W1.heap.size+1) (aI.nZ (dJ W x s)[i] (aI.iT ⟨M,ic hi,rfl⟩ (h4.perm (by ac_rfl))))))));clear hI h1 h2 h3 h4 hK M ap;unfold ND;generalize (dJ W x s)[i]=y at *
    obtain⟨⟨⟨yx,yc,yf,yt⟩,yA,yn⟩,⟨xi,xj,xa,xr⟩⟩:=y;unfold dz dZ;unfold dz dZ at HF;dsimp only at HF;dsimp only;gi_wp2;exact HF.o
   ·intro lo m i hi a' R W1 hR hI;obtain⟨L',h1⟩:=hI.ex;obtain⟨g9,h1⟩:=h1.ex;obtain⟨g10,h1⟩:=h1.ex;obtain⟨y,h1⟩:=h1.ex;obtain⟨⟨M,hx,rfl⟩,h2⟩:=h1.pure;have aA:(dJ W x s)[i]=y:=by rw[ic hi] at hx;injection hx
    have ai:i<(W.moves s).length:=by rw[K5 HM.o HS.o];exact hi
    have ak:(W.moves s)[i]=(y.1.r.c,y.2):=by rw[ZX HM.o HS.o hi ai,aA]
    have aa:(y.1.r.c,y.2) ∈ W.moves s:=by rw[<-ak];exact gw ai
    have af:=fM HS.o aa;have bb:=iH HG.o aa;have ie:=gV HG.o af.1;have ax:=lZ af.1;have bn:=J3 HG.o HS.o i;have bi:=Pv (W:=W) (s:=s) (i:=i);have ae:(aj (av g10 (dz y.2) 171) (aj (av g9 (dZ y.1).toArray 177) (aj (av g8 (fR (jU W s i)) 3) (aj (av gs (dz s) 171) (aj X R))))).Ok:=aB aF (aB aF (aB aF (aB aF (aB HX.o hR))));have h3:=(h2.perm (by ac_rfl):aI F0 w0 (aj (jA b L') (aj (BX W x b bm bw bf) (aj (av g10 (dz y.2) 171) (aj (av g9 (dZ y.1).toArray 177) (aj (av g8 (fR (jU W s i)) 3) (aj (av gs (dz s) 171) (aj X R))))))) W1).drew aO;have KI:=au (IH.o y.2 L' _ W1.drew (by have:=HN.o;have:=af.2;omega) af.1 (wB HT.o HA.o aa) M.kn ae h3);obtain⟨m0,f0,d0,d1,d2,d3⟩:=oG h3.drop;obtain⟨y0,y1,y2,y3,-⟩:=bq (h3.drop.drop:aI F0 w0 (aj (av g10 (fN y.2.i y.2.j (bs y.2.a) y.2.r) 171) _) _);obtain⟨F9,al⟩:=h3.drop.drop.drop.fst;have e9:W1.drew.cell? ⟨g9,1,none⟩=some (.int .i64 y.1.r.c):=ay (i:=1) al rfl;obtain⟨F7,I⟩:=h3.drop.drop.drop.drop.fst;have e7:=ay (i:=0) I rfl;have ao:=au (FJ ai);have ar:=au (fun L'' h1 h2 h3=>J5 (L'':=L'') ai M h1 (by rw[ak];exact h2) (by rw[ak];exact h3));rw[ak] at ao;unfold Qa at KI;have bh:=au ae;have a3:=au hR;clear hI h1 h2 h3 M hx ak aA aa af I al ae hR hi ai;obtain⟨⟨⟨yx,yc,yf,yt⟩,yA,yn⟩,⟨xi,xj,xa,xr⟩⟩:=y;simp only[dZ] at KI bh ao ar bb ie ax e9 y0 y1 y2 y3;generalize W.fw ⟨xi,xj,xa,xr⟩=dd at *
    generalize jU W s i=mm at *
    unfold sO dz at KI;unfold dz dZ;simp only at *
    unfold ZW at f0;refine wpIn_block ?_;refine mV [5,8] [1,1,1,0,0,1,1,1,2] (fun w'=>w'=W1.drew) [fun w'=>w'.cell? ⟨g8,0,none⟩=some (.int .i64 mm)/\w'.cell? ⟨g9,1,none⟩=some (.int .i64 yc)] ⟨fun w h=>by rw[h];exact⟨e7,e9⟩,trivial⟩ rfl (fun⟨a,w,h⟩=>h) rfl eQ eQ eQ rfl ?_;generalize W1.drew=W2 at *
    (repeat(first|refine eT ?_|refine eU ?_))
    refine bB rfl gh (fun K hK=>?_);go_wp2_with fail;refine KI.o.mono ?_;rintro bj w9 ⟨L'',rfl,k1,k2,k3,hR9⟩;have ab:=(hR9.perm (by unfold dz;ac_rfl):aI F0 w0 (aj (av g8 (fR mm) 3) (aj (aj (av gs (dz s) 171) (aj (jA b L'') (aj (BX W x b bm bw bf) X))) (aj (av g10 (fN xi xj (bs xa) xr) 171) (aj (av g9 (km (yx:Nat) yc yA yf.length yn (bs yt)) 177) R)))) w9);have a0:(aj (aj (av gs (dz s) 171) (aj (jA b L'') (aj (BX W x b bm bw bf) X))) (aj (av g10 (fN xi xj (bs xa) xr) 171) (aj (av g9 (km (yx:Nat) yc yA yf.length yn (bs yt)) 177) R))).Ok:=aB (aB aF (aB iZ (aB wJ HX.o))) (aB aF (aB aF a3.o));obtain⟨F7,I⟩:=ab.fst;have q7:=ay (i:=0) I rfl;have p7:=aN I 0;obtain⟨F9,al⟩:=(ab.drop.drop.drop).fst;have q9:w9.cell? ⟨g9,1,none⟩=some (.int .i64 yc):=ay (i:=1) al rfl;have H9:=au (aJ ab a0 0 (.int .i64 (min mm (yc+dd))));have a7:=au (ar.o L'' k1 k2 k3);refine hK.o _ _ ⟨q7,q9⟩ ?_;clear hK KI I al hR9 ab k1 k2 k3 ar a0 y0 y1 y2 y3 e7 e9 d0 d1 d2 d3 m0 f0
    (repeat(first|refine eT ?_|refine eU ?_))
    refine bB rfl gh (fun K hK=>?_);go_wp2;have a6:wrap64 (yc+dd)=yc+dd:=by
     unfold never at ax;exact qk (yc+dd) eL
    rw[a6];refine hK.o _ _ trivial (iV ?_);have J:aI F0 w0 (aj (lW fun L':List (St × Int)=>tu (Ug W s L (i+1) L') (aj (av g8 (fR (jU W s (i+1))) 3) (aj (av gs (dz s) 171) (aj (jA b L') (aj (BX W x b bm bw bf) X))))) R) (w9.setCell ⟨g8,0,none⟩ (.int .i64 (min mm (yc+dd)))):=by
     refine aI.nZ L'' (aI.iT a7.o ?_);rw[ao.o];exact(H9.o.perm (by ac_rfl):aI F0 w0 (aj (av g9 (km (yx:Nat) yc yA yf.length yn (bs yt)) 177) (aj (av g10 (fN xi xj (bs xa) xr) 171) (aj (aj (av g8 (fR (min mm (yc+dd))) 3) (aj (av gs (dz s) 171) (aj (jA b L'') (aj (BX W x b bm bw bf) X)))) R))) _).drop.drop
    exact J
   ·intro D R W1 hR hI;obtain⟨L',h1⟩:=hI.ex;obtain⟨M,h2⟩:=h1.pure;rw[<-K5 HM.o HS.o] at M h2;obtain⟨k1,k2,k3,k4⟩:=Pw M HS.o bc.o;rw[J2 HS.o] at h2;have ae:(aj (aX D (.deferred (some []))) (aj (av g8 (fR (W.fw s)) 3) (aj (av gs (dz s) 171) (aj (BX W x b bm bw bf) (aj X R))))).Ok:=aB bg (aB aF (aB aF (aB wJ (aB HX.o hR))));have h3:=(h2.perm (by ac_rfl):aI F0 w0 (aj (jA b L') (aj (aX D (.deferred (some []))) (aj (av g8 (fR (W.fw s)) 3) (aj (av gs (dz s) 171) (aj (BX W x b bm bw bf) (aj X R)))))) W1);obtain⟨c0,c1,c2,c3,-⟩:=bq (h3.drop.drop.drop:aI F0 w0 (aj (av gs (fN s.i s.j (bs s.a) s.r) 171) _) W1);obtain⟨m0,f0,d0,d1,d2,d3⟩:=oG h3.drop.drop.drop.drop;obtain⟨F7,I⟩:=h3.drop.drop.fst;have e7:=ay (i:=0) I rfl;obtain⟨FM,aE,-,bk⟩:=h3.take iZ ae;obtain⟨w',a8,ag⟩:=ru zX Tryz.underlying168 aE s (.int .i64 (W.fw s));have h4:=bk _ _ ag;have bG:mE (L'.map fun p=>(p.1,Value.int .i64 p.2)) s (.int .i64 (W.fw s))=(L'++[(s,W.fw s)]).map fun p=>(p.1,Value.int .i64 p.2):=by
     rw[rz (by rw[qu];exact k4),kp];rfl
    rw[bG] at h4;have H4:=au (show aI F0 w0 (aj (jA b (L'++[(s,W.fw s)])) _) w' from h4);obtain⟨F8,az⟩:=h4.drop.drop.fst;have e8:=ay (i:=0) az rfl;obtain⟨FD,hD,-,aD⟩:=(H4.o.kQ).take bg (aB iZ (aB aF (aB aF (aB wJ (aB HX.o hR)))));have HD:=au hD.1;have h5:=(aD _ _ (fK hD (.deferred none))).perm (by ac_rfl:_=aj (aj (aX D (.deferred none)) (aj (av g8 (fR (W.fw s)) 3) (aj (av gs (dz s) 171) R))) (aj (jA b (L'++[(s,W.fw s)])) (aj (BX W x b bm bw bf) X)));have HF:=au (show Qa W x s L F0 w0 b bm bw bf X (.returned (.int .i64 (W.fw s))) (w'.putObj D (.deferred none)) from⟨_,rfl,k1,k2,k3,h5.drop⟩);unfold sO dz at a8;clear hI h1 h2 h3 h4 h5 M k1 k2 k3 k4 ae I az aE bk ag bG H4 hD aD hR;go_wp2_with fail;refine⟨by simp,.inl ⟨_,_,rfl,run_takeDeferred HD.o,?_⟩⟩;refine⟨_,results_tmp rfl _ _ _,?_⟩;exact HF.o
   ·intro D c R W1 hR hI;exact hI.no.elim
  have HC:=au cut;clear cut;have bo:=au am;have a9:=au aw;clear am aw;go_wp2_with fail;refine KD.o.mono ?_;rintro e9 w5 ⟨rfl,hb⟩;have H5:=au (H3.o.below aO hb);clear H3 hb KD c0 c1 c2 c3 m0 f0 d0 d1 d2 d3;rw[KZ HS.o];dsimp only
  iterate 2 (first|go_values|go_guarded|go_step)
  refine a9.o _ _ ?_;by_cases J:s=W.fin
  ·rw[decide_eq_true J];have aq:=au (show jU W s 0=0 from by rw[uY,if_pos J]);clear J;obtain⟨F7,I⟩:=H5.o.fst;have e7:=ay (i:=0) I rfl;have f7:=aN I 0;clear I F7;go_wp2;refine HC.o _ _ _ _ _ ?_;rw[aq.o];exact aJ H5.o aO 0 (.int .i64 0)
  ·rw[decide_eq_false J];have aq:=au (show jU W s 0=1099511627776 from by rw[uY,if_neg J];rfl);clear J;go_wp2;refine HC.o _ _ _ _ _ ?_;rw[aq.o];exact H5.o
theorem IC{P:Program}{a:Addr}{m:Mode}(fn:Fn)(first captured:Array Value):(store a (.func fn first captured) m).run P w=stored P w a (.func fn first captured) m:=run_store P w a _ m rfl
attribute [local go_sem] IC
def K6(W:Wd)(w:World)(e:Ending)(w':World):Prop:=∃ b L,e=.returned (.map (some b))/\Kn W L/\gC ∈ gF L/\bT w eR (jA b L) w'
theorem SE{W:Wd}{x:WA}(hP:YP W x w)(hS:YQ W x)(hg:W.good)(ht:W.qd)(hm:NI W x):Calls Tryz.prog 66 #[.agg (bJ W x)] w (K6 W w):=by
 have r1:=aH (aI.begin w) aM (bJ W x) 165;have r2:aI eR w (aj (jA (w.heap.size+1) []) (aj (av w.heap.size (bJ W x) 165) bG)) ((w.alloc (.cells (bJ W x) 165)).alloc (.map #[] 0)):=by
  have:=r1.fresh aO (su (kv:=sO) (w.alloc (.cells (bJ W x) 165)));rw[ik] at this;exact this
 have r3:=aH r2 aO #[.map (some (w.heap.size+1))] 168;have r4:=aH r3 aO #[Value.nilFunc] 212;have e2:((w.alloc (.cells (bJ W x) 165)).alloc (.map #[] 0)).heap.size=w.heap.size+1+1:=by rw[ik,ik]
 rw[ik,e2] at r4;have R4:=au r4;have KW:=au (fun w9 J=>acI (W:=W) (x:=x) (b:=w.heap.size+1) (bm:=w.heap.size+1+1) (bw:=w.heap.size) (bf:=w.heap.size+1+1+1) (F0:=fun _=>False) (w0:=w) (fun W' hm=>hP.below (hm.below (fun _ _ h=>h))) hS hg ht hm (W.iu gC+1) gC [] bG w9 (JS _) oB (fy _) UY aM J);have ab:∀ w:World,(Instr.makeMap 168 none).run Tryz.prog w=.ok (.map (some w.heap.size)) (w.alloc (.map #[] 0)):=fun w=>by kernel_rfl
 clear r1 r2 r3 r4 e2 hP hS hg ht hm;unfold bJ at R4 ⊢;unfold sO gC dz at KW;dsimp only at KW
 go_enter Tryz.func66,Tryz.ntmps66
 go_upto_region 3 with (fail);generalize (((w.alloc (.cells (ln x.a.L W.l.length x.a.lc x.a.R x.a.q.length x.a.rc x.b.L W.m.length x.b.lc x.b.R x.b.q.length x.b.rc) 165)).alloc (.map #[] 0)).alloc (.cells #[.map (some (w.heap.size+1))] 168)).alloc (.cells #[Value.nilFunc] 212)=w4 at *
 generalize w.heap.size+1+1+1=bf at *
 generalize w.heap.size+1+1=bm at *
 generalize w.heap.size+1=b at *
 generalize w.heap.size=bw at *
 obtain⟨F,I⟩:=R4.o.fst;have e4:=ay (i:=0) I rfl;have f4:=aN I 0;clear I F;go_upto_region 4 with (fail);have R5:=au (show aI eR w (aj (av bf #[ZW bm bw bf] 212) _) (w4.setCell ⟨bf,0,none⟩ (.func (.func 89) #[] (vA (some ⟨bm,0,none⟩) (some ⟨bw,0,none⟩) (some ⟨bf,0,none⟩)))) from aJ R4.o aO 0 (ZW bm bw bf));clear R4 e4 f4;generalize w4.setCell ⟨bf,0,none⟩ (.func (.func 89) #[] (vA (some ⟨bm,0,none⟩) (some ⟨bw,0,none⟩) (some ⟨bf,0,none⟩)))=w5 at *
 obtain⟨F,I⟩:=R5.o.fst;have e5:=ay (i:=0) I rfl;unfold ZW at e5;clear I F;have KF:=au (KW.o w5 (R5.o.perm (by unfold BX bJ;ac_rfl:_=aj (jA b []) (aj (BX W x b bm bw bf) bG))));clear KW R5;go_wp2_with fail;refine KF.o.mono ?_;rintro e9 w9 ⟨L,rfl,hkn,hext,hmem,J⟩;have R6:=au J;have aa:=au hkn;have M:=au hmem;obtain⟨m0,-⟩:=oG J.drop;have HF:=au (show K6 W w (.returned (.map (some b))) w9 from⟨b,L,rfl,hkn,hmem,(J.swap.drop).post iZ⟩);clear R6 aa M hkn hext hmem J KF;go_wp2;go_ret;exact HF.o
def bE(A:eV)(c:Nat)(l:List Int):CH.aU:=aV 3 1 (.slice A l.length c) l.length (l.map (Value.int .i64))
variable{g15 J M g10 aa:Nat}{l:List Int}{w1:World}{K:Act->World->Prop}{Ds:List Nat}{f:Bs}{z y:RA × St}
theorem fC:(bE A c l).Ok:=dQ
instance {A:eV} {c:Nat} {l:List Int}:(bE A c l).Ok:=fC
theorem uy(w:World):bE none 0 [] w eR:=gu w 3 1
theorem VI:eO Tryz.prog 39 3 (.int .i64 0) 1 8:=⟨Tryz.underlying39,by kernel_rfl,by decide,by decide⟩
theorem VJ{x:Int}:aV 3 1 (.slice A (l.length+1) c) (l.length+1) (l.map (Value.int .i64)++[Value.int .i64 x])=bE A c (l++[x]):=by
 unfold bE;rw[kp,gj,pD,lk,pL]
theorem NJ{W:World}{Y:CH.aU}{o:Oper}(s x:Operand)(ho:o.op=.call { callee:=.builtin .append,args:=#[s,x],argTypes:=#[39,39] })(p:Int)(hl:l.length=n)(hsv:a.eval s=.slice A n c)(hx:a.eval x=.slice (some ⟨g,0,none⟩) 1 1)(hn:n<=1000000)(hY:Y.Ok)(h:aI F0 w0 (aj (bE A c l) Y) W)(hg:W.cell? ⟨g,0,none⟩=some (.int .i64 p))(hK:∀ A' c' w',aI F0 w0 (aj (bE A' c' (l++[p])) Y) w'->K (a.put o.dst (.slice A' (n+1) c')) w'):o.wp Tryz.prog a W K Q:=by
 subst hl;obtain⟨F7,J,-,ac⟩:=h.take fC hY;have M:Src W (some ⟨g,0,none⟩) 1 1 [Value.int .i64 p]:=by
  refine⟨rfl,fun u hu=>by rw[List.mem_singleton.1 hu];rfl,fun _=>⟨_,rfl,fun j u hu=>?_⟩⟩;cases j with
  | zero=>
   have e:u=.int .i64 p:=by simpa using hu.symm
   rw[e];exact hg
  | succ j=>simp at hu
 refine xG s x ho VI _ 0 (v:=.slice A l.length c) (n:=l.length) (xs:=l.map (Value.int .i64)) hsv J.1 (A:=some ⟨g,0,none⟩) (m:=1) (c:=1) (news:=[Value.int .i64 p]) hx M (by unfold maxLen;omega) eL (fy _) ?_;intro v8 w8 I ab aa;have S8:=ac _ _ (jk J I ab aa);obtain⟨A8,c8,rfl⟩:=iy I;rw[VJ] at S8;exact hK A8 c8 w8 S8
theorem acJ(a b:ByteArray):bl (a++b)=bl a++bl b:=by
 obtain⟨a⟩:=a;obtain⟨b⟩:=b
 show(ByteArray.mk a++ByteArray.mk b).data.toList=a.toList++b.toList
 rw[ByteArray.data_append];simp
theorem acK(a b:Bs):bs (a++b)=bs a++bs b:=Nb (by rw[acJ,iQ,iQ,iQ])
structure DD where
 A:eV
 ac:Nat
 l:List Int
 B:eV
 bc:Nat
 m:List Int
 f:Bs
def EJ(c:Int)(q:DD):Array Value:=(kh c q.A q.l.length q.ac q.B q.m.length q.bc (bs q.f))
def sV(W:Wd)(x:WA)(b:Nat)(L:List (St × Int))(c:Int)(g12 g14 g15 g16:Nat)(s:St)(q:DD)(Ds:List Nat):CH.aU:=
 aj (av g15 (dz s) 171) (aj (av g16 (EJ c q) 60) (aj (bE q.A q.ac q.l) (aj (bE q.B q.bc q.m) (aj (av g14 #[.map (some b)] 168) (aj (av g12 (bJ W x) 165) (aj (jA b L) (dO Ds)))))))
theorem rX{x:WA}{L:List (St × Int)}{c:Int}{g12 g14 g16:Nat}{q:DD}:(sV W x b L c g12 g14 g15 g16 s q Ds).Ok:=
 aB aF (aB aF (aB fC (aB fC (aB aF (aB aF (aB iZ lq))))))
instance {W:Wd} {x:WA} {b:Nat} {L:List (St × Int)} {c:Int} {g12 g14 g15 g16:Nat} {s:St} {q:DD} {Ds:List Nat}:(sV W x b L c g12 g14 g15 g16 s q Ds).Ok:=rX
theorem jQ{x:WA}{L:List (St × Int)}{c:Int}{I:Nat}{q:DD}{R:CH.aU}(h:aI F w1 (aj (sV W x b L c J M g15 I s q Ds) R) w):
  (nz w g15 (.int .i64 s.i) (.int .i64 s.j) (.string (bs s.a)) (.bool s.r)) /\
  (nz w I (.int .i64 c) (.slice q.A q.l.length q.ac) (.slice q.B q.m.length q.bc) (.string (bs q.f))) /\
  w.cell? ⟨M,0,none⟩=some (.map (some b)) /\
  (nz w J (.slice x.a.L W.l.length x.a.lc) (.slice x.a.R x.a.q.length x.a.rc) (.slice x.b.L W.m.length x.b.lc) (.slice x.b.R x.b.q.length x.b.rc)) /\
  (∃ F',jA b L w F')/\(∀ i,w.frozen? ⟨g15,i,none⟩=false)/\(∀ i,w.frozen? ⟨I,i,none⟩=false):=by
 obtain⟨f1,h1⟩:=(h.perm (by unfold sV;ac_rfl:_=aj (av g15 (dz s) 171) (aj (aj (av I (EJ c q) 60) (aj (bE q.A q.ac q.l) (aj (bE q.B q.bc q.m) (aj (av M #[.map (some b)] 168) (aj (av J (bJ W x) 165) (aj (jA b L) (dO Ds))))))) R))).fst;obtain⟨f2,h2⟩:=(h.perm (by unfold sV;ac_rfl:_=aj (av I (EJ c q) 60) (aj (aj (av g15 (dz s) 171) (aj (bE q.A q.ac q.l) (aj (bE q.B q.bc q.m) (aj (av M #[.map (some b)] 168) (aj (av J (bJ W x) 165) (aj (jA b L) (dO Ds))))))) R))).fst;obtain⟨f3,h3⟩:=(h.perm (by unfold sV;ac_rfl:_=aj (av M #[.map (some b)] 168) (aj (aj (av g15 (dz s) 171) (aj (bE q.A q.ac q.l) (aj (bE q.B q.bc q.m) (aj (av I (EJ c q) 60) (aj (av J (bJ W x) 165) (aj (jA b L) (dO Ds))))))) R))).fst;obtain⟨f4,h4⟩:=(h.perm (by unfold sV;ac_rfl:_=aj (av J (bJ W x) 165) (aj (aj (av g15 (dz s) 171) (aj (bE q.A q.ac q.l) (aj (bE q.B q.bc q.m) (aj (av I (EJ c q) 60) (aj (av M #[.map (some b)] 168) (aj (jA b L) (dO Ds))))))) R))).fst;obtain⟨f5,h5⟩:=(h.perm (by unfold sV;ac_rfl:_=aj (jA b L) (aj (aj (av g15 (dz s) 171) (aj (bE q.A q.ac q.l) (aj (bE q.B q.bc q.m) (aj (av I (EJ c q) 60) (aj (av M #[.map (some b)] 168) (aj (av J (bJ W x) 165) (dO Ds))))))) R))).fst;exact⟨⟨ay h1 rfl,ay h1 rfl,ay h1 rfl,ay h1 rfl⟩,⟨ay h2 rfl,ay h2 rfl,ay h2 rfl,ay h2 rfl⟩,ay h3 rfl,⟨ay h4 rfl,ay h4 rfl,ay h4 rfl,ay h4 rfl⟩,⟨f5,h5⟩,fun i=>aN h1 i,fun i=>aN h2 i⟩
def yi(W:Wd)(s:St)(l m:List Int)(f:Bs):Prop:=∃ n,W.iu s<=n/\W.gL (W.iu gC) gC=(l++(W.gL n s).1,m++(W.gL n s).2.1,f++(W.gL n s).2.2)
theorem SF:yi W gC [] [] []:=⟨_,fL _,rfl⟩
theorem ZY{m:List Int}(h:yi W s l m f)(hf:s=W.fin):W.gL (W.iu gC) gC=(l,m,f):=by
 obtain⟨n,-,h⟩:=h;have e:W.gL n s=([],[],[]):=by
  cases n with
  | zero=>rfl
  | succ n=>unfold Wd.gL;rw[if_pos hf]
 rw[e,mT,mT,mT] at h;exact h
theorem VK{s':St}{r:AR}{m:List Int}(h:yi W s l m f)(hf:s≠W.fin)(J:W.pick s=some (r,s'))(hr:W.iu s'<W.iu s):
  (s.i<s'.i->yi W s' (l++[(r.ix:Int)]) m (f++r.t))/\(¬ s.i<s'.i->yi W s' l (m++[(r.ix:Int)]) f):=by
 obtain⟨n,h1,h⟩:=h;obtain⟨n,rfl⟩:∃ M,n=M+1:=⟨n-1,by omega⟩;rw[Wd.gL,if_neg hf,J] at h;simp only at h;constructor
 ·intro I;rw[if_pos I] at h;refine⟨n,by omega,?_⟩;rw[h,ma,ma];rfl
 ·intro I;rw[if_neg I] at h;refine⟨n,by omega,?_⟩;rw[h,ma];rfl
theorem Z4{x:WA}(hS:YQ W x)(I:(dJ W x s)[i]?=some z)(hb:∀ j (h:j<(dJ W x s).length),j<i->¬ (dJ W x s)[j].1.r.c+W.fw (dJ W x s)[j].2=W.fw s)(M:z.1.r.c+W.fw z.2=W.fw s):W.pick s=some (z.1.r,z.2):=by
 unfold Wd.pick;rw[<-KR hS,List.find?_map];have:(dJ W x s).find? ((fun p:AR × St=>decide (p.1.c+W.fw p.2=W.fw s)) ∘ fun p:RA × St=>(p.1.r,p.2))=some z:=by
  rw[NB];obtain⟨hi,J⟩:=List.getElem?_eq_some_iff.1 I;refine⟨decide_eq_true M,i,hi,J,fun j h=>?_⟩;rw[tv];exact decide_eq_false (hb j eL h)
 rw[this];rfl
structure BB(W:Wd)(L:List (St × Int))(s:St)(q:DD):Prop where
 ok:W.ok s
 a3:s.a.length<=3
 inL:s ∈ gF L
 lt:W.fw s<never
 nl:q.l.length+W.iu s<=W.iu gC
 nm:q.m.length+W.iu s<=W.iu gC
 nf:q.f.length+1000000*W.iu s<=1000000*W.iu gC
 bn:yi W s q.l q.m q.f
def K7(W:Wd)(s:St)(p:RA × St):Prop:=p.1.r.c+W.fw p.2=W.fw s
def NK(W:Wd)(x:WA)(s:St)(i:Nat):Prop:=∀ j (hj:j<(dJ W x s).length),j<i->¬ K7 W s (dJ W x s)[j]
theorem VL{x:WA}:NK W x s 0:=fun j _ h=>absurd h (oc _)
theorem VN{x:WA}(hx:(dJ W x s)[i]?=some y)(h:NK W x s i)(h2:¬ K7 W s y):NK W x s (i+1):=fun j hj hji=>by
 by_cases e:j=i
 ·subst e;rw[ic hj] at hx;injection hx with hx
  rw[hx];exact h2
 ·exact h j hj eL
theorem Z5{x:WA}(hm:NI W x)(hs:W.ok s)(I:W.fw s<never)(M:s≠W.fin):¬ NK W x s (dJ W x s).length:=fun h=>by
 have e:=mU (W:=W) hs;rcases fold_eq (fun x:Int × St=>x.1+W.fw x.2) (W.moves s) (if s=W.fin then 0 else never) with h1|⟨p,hp,h1⟩
 ·rw[if_neg M] at h1;rw[e] at I;rw[if_neg M] at I;rw[h1] at I;omega
 ·rw[<-hm s hs] at hp;obtain⟨y,hy,rfl⟩:=List.mem_map.1 hp;obtain⟨j,J,rfl⟩:=List.mem_iff_getElem.1 hy;refine h j J J ?_;unfold K7;rw[e];exact h1.symm
theorem VO{x:WA}(hm:NI W x)(hs:W.ok s)(hy:y ∈ dJ W x s):(y.1.r.c,y.2) ∈ W.moves s:=by
 rw[<-hm s hs];exact List.mem_map.2 ⟨y,hy,rfl⟩
theorem acM{L:List (St × Int)}(h:Kn W L)(hs:s ∈ gF L):(oh (L.map fun p=>(p.1,Value.int .i64 p.2)) s).getD (.int .i64 0)=.int .i64 (W.fw s):=by
 obtain⟨v,hv⟩:=mem_keys.1 hs;rw[Iw h.nd hv,show v=W.fw s from h.val _ hv];rfl
theorem NM{L:List (St × Int)}(h:Kn W L)(hF:jA b L w F)(hs:s ∈ gF L):
  (Instr.lookup 168 (.map (some b)) (.agg (fN s.i s.j (bs s.a) s.r)) false).run Tryz.prog w=.ok (.int .i64 (W.fw s)) w:=by
 have:=KY hF s false;rw[acM h hs] at this;exact this
theorem SG{x:WA}(h:z ∈ dJ W x s):z.1 ∈ (x.at (W.left s)).q:=by
 unfold dJ at h;obtain⟨y,hy,he⟩:=List.mem_filterMap.1 h;unfold yg at he;obtain⟨p,-,hp⟩:=Option.map_eq_some_iff.1 he;rw[<-hp];exact hy
theorem YQ.aeY{x:WA}(h:YQ W x)(hz:z ∈ dJ W x s):z.1.r.t.length<=1000000:=((h.at (W.left s)).2.2.2 _ (SG hz)).2
def Sp(F:Nat->Prop)(w1:World)(W:Wd)(x:WA)(b:Nat)(L:List (St × Int))(c:Int)(g10 I J g15 h:Nat)(a:Act)(wr:World):Prop:=
 ∃ (v:Nat->Value) (Ds:List Nat) (s:St) (q:DD) (R:CH.aU),R.Ok/\(aI F w1 (aj (sV W x b L c I J g15 h s q Ds) R) wr/\BB W L s q) /\
  a={ tmps:=#[v 0,v 1,v 2,v 3,v 4,v 5,v 6,v 7,v 8,v 9,.pointer (some ⟨g10,0,none⟩),v 11,.pointer (some ⟨I,0,none⟩),v 13,.pointer (some ⟨J,0,none⟩),.pointer (some ⟨g15,0,none⟩),.pointer (some ⟨h,0,none⟩),v 17,v 18,v 19,v 20,v 21,v 22,v 23,v 24,v 25,v 26,v 27,v 28,v 29,v 30,v 31,v 32,v 33,v 34,v 35,v 36,v 37,v 38,v 39,v 40,v 41,v 42,v 43,v 44,v 45,v 46,v 47,v 48,v 49,v 50,v 51,v 52,v 53,v 54,v 55,v 56,v 57,v 58,v 59,v 60,v 61,v 62,v 63,v 64,v 65,v 66,v 67,v 68,v 69,v 70,v 71,v 72,v 73,v 74,v 75,v 76,v 77,v 78,v 79,v 80,v 81,v 82,v 83,v 84,v 85,v 86,v 87,v 88],defers:=Ds.map Lf }
theorem Z6(I:Array Value)(h:I.size=89)(ab:I.getD 10 undef=.pointer (some ⟨g10,0,none⟩))(ae:I.getD 12 undef=.pointer (some ⟨M,0,none⟩))(af:I.getD 14 undef=.pointer (some ⟨aa,0,none⟩))(ac:I.getD 15 undef=.pointer (some ⟨g15,0,none⟩))(ad:I.getD 16 undef=.pointer (some ⟨J,0,none⟩)):
  ∃ v:Nat->Value,I=#[v 0,v 1,v 2,v 3,v 4,v 5,v 6,v 7,v 8,v 9,.pointer (some ⟨g10,0,none⟩),v 11,.pointer (some ⟨M,0,none⟩),v 13,.pointer (some ⟨aa,0,none⟩),.pointer (some ⟨g15,0,none⟩),.pointer (some ⟨J,0,none⟩),v 17,v 18,v 19,v 20,v 21,v 22,v 23,v 24,v 25,v 26,v 27,v 28,v 29,v 30,v 31,v 32,v 33,v 34,v 35,v 36,v 37,v 38,v 39,v 40,v 41,v 42,v 43,v 44,v 45,v 46,v 47,v 48,v 49,v 50,v 51,v 52,v 53,v 54,v 55,v 56,v 57,v 58,v 59,v 60,v 61,v 62,v 63,v 64,v 65,v 66,v 67,v 68,v 69,v 70,v 71,v 72,v 73,v 74,v 75,v 76,v 77,v 78,v 79,v 80,v 81,v 82,v 83,v 84,v 85,v 86,v 87,v 88]:=by
 have e:I=#[I.getD 0 undef,I.getD 1 undef,I.getD 2 undef,I.getD 3 undef,I.getD 4 undef,I.getD 5 undef,I.getD 6 undef,I.getD 7 undef,I.getD 8 undef,I.getD 9 undef,I.getD 10 undef,I.getD 11 undef,I.getD 12 undef,I.getD 13 undef,I.getD 14 undef,I.getD 15 undef,I.getD 16 undef,I.getD 17 undef,I.getD 18 undef,I.getD 19 undef,I.getD 20 undef,I.getD 21 undef,I.getD 22 undef,I.getD 23 undef,I.getD 24 undef,I.getD 25 undef,I.getD 26 undef,I.getD 27 undef,I.getD 28 undef,I.getD 29 undef,I.getD 30 undef,I.getD 31 undef,I.getD 32 undef,I.getD 33 undef,I.getD 34 undef,I.getD 35 undef,I.getD 36 undef,I.getD 37 undef,I.getD 38 undef,I.getD 39 undef,I.getD 40 undef,I.getD 41 undef,I.getD 42 undef,I.getD 43 undef,I.getD 44 undef,I.getD 45 undef,I.getD 46 undef,I.getD 47 undef,I.getD 48 undef,I.getD 49 undef,I.getD 50 undef,I.getD 51 undef,I.getD 52 undef,I.getD 53 undef,I.getD 54 undef,I.getD 55 undef,I.getD 56 undef,I.getD 57 undef,I.getD 58 undef,I.getD 59 undef,I.getD 60 undef,I.getD 61 undef,I.getD 62 undef,I.getD 63 undef,I.getD 64 undef,I.getD 65 undef,I.getD 66 undef,I.getD 67 undef,I.getD 68 undef,I.getD 69 undef,I.getD 70 undef,I.getD 71 undef,I.getD 72 undef,I.getD 73 undef,I.getD 74 undef,I.getD 75 undef,I.getD 76 undef,I.getD 77 undef,I.getD 78 undef,I.getD 79 undef,I.getD 80 undef,I.getD 81 undef,I.getD 82 undef,I.getD 83 undef,I.getD 84 undef,I.getD 85 undef,I.getD 86 undef,I.getD 87 undef,I.getD 88 undef]:=V8 I 89 h;rw[ab,ae,af,ac,ad] at e;exact⟨fun i=>I.getD i undef,e⟩
theorem Ss{wr:World}{x:WA}{L:List (St × Int)}{c:Int}{I:Array Value}{df:List Deferred}(Ds:List Nat){q:DD}{R:CH.aU}(h:I.size=89)(ae:I.getD 10 undef=.pointer (some ⟨g10,0,none⟩))(af:I.getD 12 undef=.pointer (some ⟨M,0,none⟩))(ab:I.getD 14 undef=.pointer (some ⟨aa,0,none⟩))(ac:I.getD 15 undef=.pointer (some ⟨g15,0,none⟩))(ad:I.getD 16 undef=.pointer (some ⟨J,0,none⟩))(hd:df=Ds.map Lf)(hR:R.Ok)(h1:aI F w1 (aj (sV W x b L c M aa g15 J s q Ds) R) wr)(hp:BB W L s q):Sp F w1 W x b L c g10 M aa g15 J { tmps:=I,defers:=df } wr:=by
 obtain⟨v,hv⟩:=Z6 I h ae af ab ac ad;subst hd;exact⟨v,Ds,s,q,R,hR,⟨h1,hp⟩,by rw[hv]⟩
def NN(W:Wd)(g15:Nat)(w:World):Nat:=match w.cell? ⟨g15,0,none⟩,w.cell? ⟨g15,1,none⟩ with
 | some (.int _ i),some (.int _ j)=>(W.l.length-i.toNat)+(W.m.length-j.toNat)
 | _,_=>0
theorem Qb(h:aI F w1 (aj (av g15 (dz s) 171) X) w):NN W g15 w=W.iu s:=by
 obtain⟨c0,c1,-⟩:=bq (h:aI F w1 (aj (av g15 (fN s.i s.j (bs s.a) s.r) 171) X) w);unfold NN;rw[c0,c1];rfl
def iJ(w:World)(A:eV)(l:List Int):Prop:=Src w A l.length 1 (l.map (Value.int .i64))
theorem iJ.below(h:iJ w A l)(hb:Below w.heap.size w w'):iJ w' A l:=aZ h hb
theorem K8(l:List Int):∀ u ∈ l.map (Value.int .i64),u.oneCell'=true:=fun u hu=>by obtain⟨x,-,rfl⟩:=List.mem_map.1 hu;rfl
theorem oH(J:Below w.heap.size w w'):bT w eR (aj (bE none 0 []) (bE none 0 [])) w':=by
 have I:=((aI.begin w).below aM J).fresh aM (⟨fun _=>False,uy _,Mod.refl _ _,fun i hi=>.inl hi⟩:bT _ eR (bE none 0 []) _);have h:=I.fresh aO (⟨fun _=>False,uy _,Mod.refl _ _,fun i hi=>.inl hi⟩:bT _ eR (bE none 0 []) _);exact((h.perm (by ac_rfl:_=aj bG (aj (bE none 0 []) (bE none 0 [])))).drop).post aO
theorem Qc(h:bE A c l w F):iJ w A l:=iK h (K8 l)
def qg(w:World)(T:eW)(k:Int)(x:Bs)(k2:Int)(y:Bs)(e:Ending)(w':World):Prop:=
 ∃ (d:Dv) (er:Int) (A:eV) (c:Nat) (B:eV) (c2:Nat),e=.returned (.tuple #[.agg (kh d.c A d.L.length c B d.M.length c2 (bs d.F)),.int .i64 er])/\AP T k x k2 y d er/\bT w eR (aj (bE A c d.L) (bE B c2 d.M)) w'
variable{v:Value}
theorem uz{a0 M J a3:Value}(h:aI F0 w0 (aj (av g #[a0,M,J,a3] t) X) w)(I:X.Ok)(b0 b1 b2 b3:Value):
  aI F0 w0 (aj (av g #[b0,b1,b2,b3] t) X) ((((w.setCell ⟨g,0,none⟩ b0).setCell ⟨g,1,none⟩ b1).setCell ⟨g,2,none⟩ b2).setCell ⟨g,3,none⟩ b3):=by
 have h0:aI F0 w0 (aj (av g #[b0,M,J,a3] t) X) _:=aJ h I 0 b0;have h1:aI F0 w0 (aj (av g #[b0,b1,J,a3] t) X) _:=aJ h0 I 1 b1;have h2:aI F0 w0 (aj (av g #[b0,b1,b2,a3] t) X) _:=aJ h1 I 2 b2;exact aJ h2 I 3 b3
theorem VP{tmps:Array Value}{cs:Array Value}(h:tmps.getD 10 undef=.pointer (some ⟨g,0,none⟩))(M:cs.size=4)(J:av g cs 60 w F)(I:tmps.getD 11 undef=v):(results Tryz.f42 tmps).run Tryz.prog w=.ok (.tuple #[.agg cs,v]) w:=by
 subst I;exact cZ rfl tmps w g 60 cs (0,0) h J.1 Tryz.underlying60 (by rw[M];kernel_rfl)
theorem uD{a:TA}(hT:jV w T a)(hz:LZ w)(k:Int)(x:Bs)(k2:Int)(y:Bs)(hx:x.length<=1000000)(hy:y.length<=1000000):
  Calls Tryz.prog 42 #[dI T a,.int .i64 k,.string (bs x),.int .i64 k2,.string (bs y)] w (qg w T k x k2 y):=by
 have h1:=aH (aI.begin w) aM (dN T a) 25;have h2:=aH h1 aO (kh 0 none 0 0 none 0 0 ⟨#[]⟩) 60;rw[ik] at h2;have H2:=au h2;have ar:=au (show Below w.heap.size w _ from h2.mod.below (fun _ _ h=>h));have KO:=au (VA (hT.below ar.o) (hz.below ar.o) k x k2 y hx hy);clear hT hz h1 h2;unfold dI at KO ⊢;unfold dN at KO H2 ar ⊢;refine(callsIn_wide (n:=8)).1 ?_;refine callsIn_of_wp_marks Tryz.func42 rfl trivial ?_ rfl;simp only[Tryz.ntmps42,pZ,jz,lL,Nat.reduceAdd,Nat.reduceSub,re,rk,ry,rq,me,pd];refine(wpIn_wide (n:=8)).2 ?_;go_wp2_with fail;refine KO.o.mono ?_;rintro e9 w1 ⟨wa,rfl,hb,hok⟩;have H3:=au (H2.o.below aO hb);have al:=au (ar.o.trans (hb.mono ar.o.size));have aE:=au hok;clear KO hb hok H2 ar;obtain⟨W,hW⟩:∃ W,W=PI T k x k2 y:=⟨_,rfl⟩;rw[<-hW] at aE ⊢;have HW:=au hW;clear hW;unfold bJ;generalize ck:okW T k x k2 y=ob at aE ⊢;have ap:=au ck;clear ck;go_upto_region 2 with (fail);have H4:=au (aH H3.o aO (bJ W wa) 165);unfold bJ at H4;have bw:=au (aH (aI.begin w1) aM (ln wa.a.L W.l.length wa.a.lc wa.a.R wa.a.q.length wa.a.rc wa.b.L W.m.length wa.b.lc wa.b.R wa.b.q.length wa.b.rc) 165);have br:=au (show Below w1.heap.size w1 (w1.alloc (.cells (ln wa.a.L W.l.length wa.a.lc wa.a.R wa.a.q.length wa.a.rc wa.b.L W.m.length wa.b.lc wa.b.R wa.b.q.length wa.b.rc) 165)) from(fe _ _).alloc (fL _) _);generalize cv:w1.alloc (.cells (ln wa.a.L W.l.length wa.a.lc wa.a.R wa.a.q.length wa.a.rc wa.b.L W.m.length wa.b.lc wa.b.R wa.b.q.length wa.b.rc) 165)=w3 at *
 clear cv;generalize w1.heap.size=M at H4 bw ⊢;generalize w.heap.size+1=g10 at *
 generalize w.heap.size=g5 at H4 H3 ⊢;cases ob with
 | false=>
  have H5:=au (H4.o.drop.perm (by ac_rfl):aI _ _ (aj (av g10 (kh 0 none 0 0 none 0 0 ⟨#[]⟩) 60) (aj (av g5 (kl T a) 25) bG)) w3);have cJ:=au (al.o.trans (br.o.mono al.o.size));obtain⟨F,hF⟩:=H5.o.fst;have e0:=ay (i:=0) hF rfl;have e1:=ay (i:=1) hF rfl;have e2:=ay (i:=2) hF rfl;have e3:=ay (i:=3) hF rfl;have ef:=aN hF;clear hF F;have H6:=au (uz H5.o aO (.int .i64 0) (.slice none 0 0) (.slice none 0 0) (.string ⟨#[]⟩));have HF:=au (fun W' (hb:Below w.heap.size w W')=>(show qg w T k x k2 y (.returned (.tuple #[.agg (kh 0 none 0 0 none 0 0 ⟨#[]⟩),.int .i64 1])) W' from⟨⟨0,[],[],[]⟩,1,none,0,none,0,rfl,.arg ap.o,oH hb⟩));clear H5 H4 aE al br cJ;go_wp2;obtain⟨F,hF⟩:=H6.o.fst;refine⟨_,VP rfl rfl hF rfl,?_⟩;exact HF.o _ (H6.o.mod.below (fun _ _ h=>h))
 | true=>
  obtain⟨hP,hS⟩:=aE.o rfl;have HS:=au hS;have ax:=au (show W=bO T k x k2 y from HW.o.trans (Nq ap.o))
  have bv:=au (show NI W wa from fun s hs=>by
   have e1:=KR hS (s:=s);have e2:(W.tY s).map (fun p=>(p.1.c,p.2))=W.moves s:=by
    have cb:=hs;rw[ax.o] at cb ⊢;exact zO (fV.1 ap.o).2.2 cb
   rw[<-e2,<-e1,qu];rfl)
  have HG:=au (show W.good/\W.qd by rw[ax.o];exact rR (fV.1 ap.o).2.2);have HE:=au (show ∀ W',Mod eR w1 W'->YP W wa W' from fun W' hm=>hP.below (hm.below (fun _ _ h=>h)));have R1:=au (show aI eR w1 (aj (av M (ln wa.a.L W.l.length wa.a.lc wa.a.R wa.a.q.length wa.a.rc wa.b.L W.m.length wa.b.lc wa.b.R wa.b.q.length wa.b.rc) 165) bG) w3 from bw.o);have KC:=au (SE (W:=W) (x:=wa) (w:=w3) (HE.o _ R1.o.mod) hS HG.o.1 HG.o.2 bv.o);unfold bJ at KC;obtain⟨F,hF⟩:=R1.o.fst;have d0:=ay (i:=0) hF rfl;have d1:=ay (i:=1) hF rfl;have d2:=ay (i:=2) hF rfl;have d3:=ay (i:=3) hF rfl;clear hF F hP hS aE H4 br bw;go_wp2_with fail;refine KC.o.mono ?_;rintro e9 w4 ⟨b,L,rfl,hkn,hst0,hp⟩;have a8:=au hkn;have bk:=au hst0;have r2:=R1.o.fresh aO hp;have R3:=au (aH r2 aO #[.map (some b)] 168);have R4:=au (aH R3.o aO (fN 0 0 ⟨#[]⟩ false) 171);clear hkn hst0 hp r2 KC R1 d0 d1 d2 d3;go_upto_region 6 with (fail);have cj:(w4.alloc (.cells #[.map (some b)] 168)).heap.size=w4.heap.size+1:=ik ..;rw[cj] at R4;clear cj R3;generalize (w4.alloc (.cells #[.map (some b)] 168)).alloc (.cells (fN 0 0 ⟨#[]⟩ false) 171)=w5 at *
  generalize w4.heap.size+1=g15 at *
  generalize w4.heap.size=I at *
  obtain⟨s0,s1,s2,s3,-⟩:=bq R4.o;obtain⟨F,hF⟩:=R4.o.drop.fst;have m0:=ay (i:=0) hF rfl;clear hF F;obtain⟨F,hF⟩:=R4.o.drop.drop.fst;have bz:(Instr.lookup 168 (.map (some b)) (.agg (fN 0 0 ⟨#[]⟩ false)) false).run Tryz.prog w5=.ok (.int .i64 (W.fw gC)) w5:=NM a8.o hF bk.o;clear hF F;have ie:=gV HG.o.1 (oB (W:=W));have ag:=lZ (oB (W:=W));obtain⟨dd,bu⟩:∃ d,d=W.fw gC:=⟨_,rfl⟩;rw[<-bu] at bz ie ag;have aD:=au bu;have cI:=au ie;have ch:=au ag;clear bu;unfold never at ag;by_cases hn:dd=1099511627776
  ·have t1:decide (1099511627776<=dd)=true:=decide_eq_true eL;have H5:=au (H3.o.below aO (R4.o.mod.below (fun _ _ h=>h)));obtain⟨F,hF⟩:=H5.o.fst;have e0:=ay (i:=0) hF rfl;have e1:=ay (i:=1) hF rfl;have e2:=ay (i:=2) hF rfl;have e3:=ay (i:=3) hF rfl;have ef:=aN hF;clear hF F;have H6:=au (uz H5.o aO (.int .i64 0) (.slice none 0 0) (.slice none 0 0) (.string ⟨#[]⟩));have HF:=au (fun W' (hb:Below w.heap.size w W')=>(show qg w T k x k2 y (.returned (.tuple #[.agg (kh 0 none 0 0 none 0 0 ⟨#[]⟩),.int .i64 11])) W' from⟨⟨0,[],[],[]⟩,11,none,0,none,0,rfl,.none ap.o (by rw[<-ax.o,<-aD.o];exact hn),oH hb⟩));clear H5 H3 R4 HE al hn cI ch aD;go_wp2;obtain⟨F,hF⟩:=H6.o.fst;refine⟨_,VP rfl rfl hF rfl,?_⟩;exact HF.o _ (H6.o.mod.below (fun _ _ h=>h))
  ·have t1:decide (1099511627776<=dd)=false:=decide_eq_false eL;have cf:=au (show dd<never by unfold never;omega);have R6:=au (aH R4.o aO (kh dd none 0 0 none 0 0 ⟨#[]⟩) 60);clear hn;go_wp2_with fail;generalize w5.alloc (.cells (kh dd none 0 0 none 0 0 ⟨#[]⟩) 60)=w6 at *
   generalize w5.heap.size=J at *
   have a1:(aj (av J (kh dd none 0 0 none 0 0 ⟨#[]⟩) 60) (aj (av g15 (fN 0 0 ⟨#[]⟩ false) 171) (aj (av I #[.map (some b)] 168) (aj (jA b L) (aj (av M (ln wa.a.L W.l.length wa.a.lc wa.a.R wa.a.q.length wa.a.rc wa.b.L W.m.length wa.b.lc wa.b.R wa.b.q.length wa.b.rc) 165) bG))))).Ok:=aB aF aO;have r7:=R6.o.fresh a1 (⟨fun _=>False,uy _,Mod.refl _ _,fun i hi=>.inl hi⟩:bT _ eR (bE none 0 []) _);have r8:=r7.fresh (aB fC a1) (⟨fun _=>False,uy _,Mod.refl _ _,fun i hi=>.inl hi⟩:bT _ eR (bE none 0 []) _);have R7:=au (show aI eR w1 (aj (sV W wa b L dd M I g15 J gC ⟨none,0,[],none,0,[],[]⟩ []) bG) w6 from r8.one.perm (by unfold sV;show _=aj (aj (av g15 (fN 0 0 ⟨#[]⟩ false) 171) (aj (av J (kh dd none 0 0 none 0 0 ⟨#[]⟩) 60) (aj (bE none 0 []) (aj (bE none 0 []) (aj (av I #[.map (some b)] 168) (aj (av M (ln wa.a.L W.l.length wa.a.lc wa.a.R wa.a.q.length wa.a.rc wa.b.L W.m.length wa.b.lc wa.b.R wa.b.q.length wa.b.rc) 165) (aj (jA b L) bG))))))) bG;ac_rfl));have b4:=au (show BB W L gC ⟨none,0,[],none,0,[],[]⟩ from⟨oB,fy _,bk.o,by rw[<-aD.o];exact cf.o,by simp,by simp,by simp,SF⟩);have a4:=au (show W.iu gC<=1000 by rw[ax.o];exact xM ap.o);clear R4 R6 r7 r8 a1 s0 s1 s2 s3 m0 bz t1 ie ag bk ch;refine wp_loop (Sp eR w1 W wa b L dd g10 M I g15 J) (fun _ w9=>NN W g15 w9) ?_ ?_
   ·exact Ss [] (R:=bG) rfl rfl rfl rfl rfl rfl rfl aM R7.o b4.o
   clear R7 b4;rintro a9 w7 ⟨v,Ds,s,q,R,hRok,⟨hR,hp⟩,rfl⟩;have HR:=au hR;have HP:=au hp;have ae:=au hRok;clear hR hp hRok;have cg:=au (Qb (W:=W) (g15:=g15) (s:=s) HR.o.assoc);obtain⟨⟨s0,s1,s2,s3⟩,-,-,⟨d0,d1,d2,d3⟩,-⟩:=jQ HR.o;have KD:=au (Kw (w:=w7) (W:=W) (x:=wa) (s:=s));unfold bJ dz at KD;go_wp2_with fail;refine KD.o.mono ?_;rintro e9 w8 ⟨rfl,hb⟩;have H8:=au (HR.o.below (aB rX ae.o) hb);clear KD hb HR s0 s1 s2 s3 d0 d1 d2 d3;rw[KZ HP.o.ok];by_cases af:s=W.fin
   ·rw[decide_eq_true af]
    have cq:=au (show(bO T k x k2 y).D3=⟨dd,q.l,q.m,q.f⟩ from by
     have e:=ZY HP.o.bn af;unfold Wd.D3
     rw[<-ax.o,e,aD.o])
    clear af;obtain⟨-,⟨q0,q1,q2,q3⟩,-⟩:=jQ H8.o;have h9:=H3.o.fresh aO (H8.o.post (aB rX ae.o));have bp:=h9.perm (by unfold sV;ac_rfl:_=aj (av g10 (kh 0 none 0 0 none 0 0 ⟨#[]⟩) 60) (aj (dO Ds) (aj (av g5 (kl T a) 25) (aj bG (aj (av g15 (dz s) 171) (aj (av J (EJ dd q) 60) (aj (bE q.A q.ac q.l) (aj (bE q.B q.bc q.m) (aj (av I #[.map (some b)] 168) (aj (av M (bJ W wa) 165) (aj (jA b L) R)))))))))));have bx:(aj (av g5 (kl T a) 25) (aj bG (aj (av g15 (dz s) 171) (aj (av J (EJ dd q) 60) (aj (bE q.A q.ac q.l) (aj (bE q.B q.bc q.m) (aj (av I #[.map (some b)] 168) (aj (av M (bJ W wa) 165) (aj (jA b L) R))))))))).Ok:=aB aF (aB aM (aB aF (aB aF (aB fC (aB fC (aB aF (aB aF (aB iZ ae.o))))))));obtain⟨F,hF⟩:=bp.fst;have e0:=ay (i:=0) hF rfl;have e1:=ay (i:=1) hF rfl;have e2:=ay (i:=2) hF rfl;have e3:=ay (i:=3) hF rfl;have ef:=aN hF;have cR:=au ((uz bp (aB lq bx) (.int .i64 dd) (.slice q.A q.l.length q.ac) (.slice q.B q.m.length q.bc) (.string (bs q.f))).perm (by ac_rfl:_=aj (dO Ds) (aj (av g10 (kh dd q.A q.l.length q.ac q.B q.m.length q.bc (bs q.f)) 60) (aj (av g5 (kl T a) 25) (aj bG (aj (av g15 (dz s) 171) (aj (av J (EJ dd q) 60) (aj (bE q.A q.ac q.l) (aj (bE q.B q.bc q.m) (aj (av I #[.map (some b)] 168) (aj (av M (bJ W wa) 165) (aj (jA b L) R))))))))))));have HF:=au (fun W' (hpp:bT w eR (aj (bE q.A q.ac q.l) (bE q.B q.bc q.m)) W')=>(show qg w T k x k2 y (.returned (.tuple #[.agg (kh dd q.A q.l.length q.ac q.B q.m.length q.bc (bs q.f)),.int .i64 0])) W' from⟨⟨dd,q.l,q.m,q.f⟩,0,q.A,q.ac,q.B,q.bc,rfl,by rw[<-cq.o];exact .some ap.o (by rw[<-ax.o,<-aD.o];exact cf.o),hpp⟩));have cw:=au bx;clear hF F h9 bp bx H8 H3 cg HP;dsimp only;go_wp2_with fail;refine lu (aB aF cw.o) (fun W' hr=>?_) Ds _ cR.o;obtain⟨f,hf⟩:=hr.fst;exact⟨_,VP rfl rfl hf rfl,HF.o _ ((((hr.drop.drop.drop.drop.drop).perm (by ac_rfl:_=aj (aj (av I #[.map (some b)] 168) (aj (av M (bJ W wa) 165) (aj (jA b L) R))) (aj (bE q.A q.ac q.l) (bE q.B q.bc q.m)))).drop).post aO)⟩
   ·rw[decide_eq_false af];have b3:=au af;clear af;obtain⟨⟨s0,s1,s2,s3⟩,-,-,⟨d0,d1,d2,d3⟩,-⟩:=jQ H8.o;have KM:=au (fun w=>Di (W:=W) (x:=wa) (s:=s) w);unfold bJ dz at KM;dsimp only;go_wp2_with fail;refine(KM.o _).mono ?_;rintro e9 w9 ⟨b1,b2,rfl,hp⟩;have S1:=au (H8.o.fresh (aB rX ae.o) hp);clear KM hp H8 s0 s1 s2 s3 d0 d1 d2 d3;dsimp only;go_wp2_with fail;have cz:=au (AY (W:=W) (s:=s) (x:=wa) (b1:=b1) (b2:=b2) HP.o.ok HS.o (j8 HP.o.a3 eL));have bh:(aj (sV W wa b L dd M I g15 J s q Ds) R).Ok:=aB rX ae.o;have ci:=au bh;have co:∀ i,(tu (NK W wa s i) (aj (sV W wa b L dd M I g15 J s q Ds) R)).Ok:=fun i=>gJ bh;have cd:∀ (i:Nat) (a':Act),(lW fun ad:Nat=>lW fun ab:Nat=>lW fun z:RA × St=>tu ((dJ W wa s)[i]?=some z/\NK W wa s i/\a'={ tmps:=#[v 0,v 1,v 2,v 3,v 4,v 5,v 6,v 7,v 8,v 9,.pointer (some ⟨g10,0,none⟩),v 11,.pointer (some ⟨M,0,none⟩),v 13,.pointer (some ⟨I,0,none⟩),.pointer (some ⟨g15,0,none⟩),.pointer (some ⟨J,0,none⟩),.pointer (some ⟨ad,0,none⟩),.pointer (some ⟨ab,0,none⟩),v 19,v 20,v 21,v 22,v 23,v 24,v 25,v 26,v 27,v 28,v 29,v 30,v 31,v 32,v 33,v 34,v 35,v 36,v 37,v 38,v 39,v 40,v 41,v 42,.agg (ln wa.a.L W.l.length wa.a.lc wa.a.R wa.a.q.length wa.a.rc wa.b.L W.m.length wa.b.lc wa.b.R wa.b.q.length wa.b.rc),.agg (fN s.i s.j (bs s.a) s.r),.bool false,.bool true,.agg (ln wa.a.L W.l.length wa.a.lc wa.a.R wa.a.q.length wa.a.rc wa.b.L W.m.length wa.b.lc wa.b.R wa.b.q.length wa.b.rc),.agg (fN s.i s.j (bs s.a) s.r),Bm b1 b2,.agg (dZ z.1).toArray,.agg (dz z.2),v 52,v 53,v 54,v 55,v 56,v 57,v 58,v 59,v 60,v 61,v 62,v 63,v 64,v 65,v 66,v 67,v 68,v 69,v 70,v 71,v 72,v 73,v 74,v 75,v 76,v 77,v 78,v 79,v 80,v 81,v 82,v 83,v 84,v 85,v 86,v 87,v 88],defers:=[] }) (aj (av ab (dz z.2) 171) (aj (av ad (dZ z.1).toArray 177) (aj (sV W wa b L dd M I g15 J s q Ds) R)))).Ok:=fun i a'=>bZ fun ad=>bZ fun ab=>bZ fun z=>gJ (aB aF (aB aF bh));have cn:∀ c:Code,(lW fun s':St=>lW fun q':DD=>tu (c=.exit 2/\BB W L s' q'/\W.iu s'<W.iu s) (aj (sV W wa b L dd M I g15 J s' q' Ds) R)).Ok:=fun c=>bZ fun s'=>bZ fun q'=>gJ (aB rX ae.o);have cm:aI eR w1 (aj (Zw W wa s b1 b2) (tu (NK W wa s 0) (aj (sV W wa b L dd M I g15 J s q Ds) R))) w9:=(aI.iT VL S1.o.swap).swap;clear bh S1;refine pz (gf:=90) (lb:=(s7 (some ⟨b1,0,none⟩) (some ⟨b2,0,none⟩))) rfl (enters_of Tryz.func90 eQ rfl) cz.o nX (fun _=>rfl) HE.o _ (fun c=>lW fun s':St=>lW fun q':DD=>tu (c=.exit 2/\BB W L s' q'/\W.iu s'<W.iu s) (aj (sV W wa b L dd M I g15 J s' q' Ds) R)) co _ cd cn cm ?_ ?_ ?_ ?_
    ·intro lo m i hi R' W1 K hR hI hK;obtain⟨ai,h1⟩:=hI.pure;have h3:=aH h1 (aB ci.o hR) (dZ (dJ W wa s)[i].1).toArray 177;have h4:=aH h3 (aB aF (aB ci.o hR)) (dz (dJ W wa s)[i].2) 171;rw[ik] at h4;have HF:=au (hK { tmps:=#[v 0,v 1,v 2,v 3,v 4,v 5,v 6,v 7,v 8,v 9,.pointer (some ⟨g10,0,none⟩),v 11,.pointer (some ⟨M,0,none⟩),v 13,.pointer (some ⟨I,0,none⟩),.pointer (some ⟨g15,0,none⟩),.pointer (some ⟨J,0,none⟩),.pointer (some ⟨W1.heap.size,0,none⟩),.pointer (some ⟨W1.heap.size+1,0,none⟩),v 19,v 20,v 21,v 22,v 23,v 24,v 25,v 26,v 27,v 28,v 29,v 30,v 31,v 32,v 33,v 34,v 35,v 36,v 37,v 38,v 39,v 40,v 41,v 42,.agg (ln wa.a.L W.l.length wa.a.lc wa.a.R wa.a.q.length wa.a.rc wa.b.L W.m.length wa.b.lc wa.b.R wa.b.q.length wa.b.rc),.agg (fN s.i s.j (bs s.a) s.r),.bool false,.bool true,.agg (ln wa.a.L W.l.length wa.a.lc wa.a.R wa.a.q.length wa.a.rc wa.b.L W.m.length wa.b.lc wa.b.R wa.b.q.length wa.b.rc),.agg (fN s.i s.j (bs s.a) s.r),Bm b1 b2,.agg (dZ (dJ W wa s)[i].1).toArray,.agg (dz (dJ W wa s)[i].2),v 52,v 53,v 54,v 55,v 56,v 57,v 58,v 59,v 60,v 61,v 62,v 63,v 64,v 65,v 66,v 67,v 68,v 69,v 70,v 71,v 72,v 73,v 74,v 75,v 76,v 77,v 78,v 79,v 80,v 81,v 82,v 83,v 84,v 85,v 86,v 87,v 88],defers:=[] } _ (aI.nZ W1.heap.size (aI.nZ (W1.heap.size+1) (aI.nZ (dJ W wa s)[i] (aI.iT ⟨ic hi,ai,rfl⟩ (h4.perm (by ac_rfl)))))));clear hI h1 h3 h4 hK ai;unfold ND;generalize (dJ W wa s)[i]=z at *
     obtain⟨⟨⟨yx,yc,yf,yt⟩,yA,yn⟩,⟨xi,xj,xa,xr⟩⟩:=z;unfold dz dZ;unfold dz dZ at HF;dsimp only at HF;dsimp only;gi_wp2;exact HF.o
    ·intro lo m i hi a' R' W1 hR hI;obtain⟨ad,h1⟩:=hI.ex;obtain⟨ab,h1⟩:=h1.ex;obtain⟨z,h1⟩:=h1.ex;obtain⟨⟨hx,ai,rfl⟩,h2⟩:=h1.pure;have an:z ∈ dJ W wa s:=pT hx;have ak:=VO bv.o HP.o.ok an;have aA:=fM HP.o.ok ak;have ct:=au (fun h=>VN hx ai h);have cP:=au (fun (hg:K7 W s z)=>VK HP.o.bn b3.o (Z4 HS.o hx ai hg) aA.2);have cH:=iH HG.o.1 ak;have ao:z.2 ∈ gF L:=by
      obtain⟨v,hv⟩:=mem_keys.1 HP.o.inL;exact a8.o.cl _ hv _ ak
     have ie:=gV HG.o.1 aA.1;have ag:=lZ aA.1;have cG:=gV HG.o.1 HP.o.ok;have cp:=HP.o.lt;have cx:z.1.r.t.length<=1000000:=(HS.o.aeY an);have cA:=au (show(aj (sV W wa b L dd M I g15 J s q Ds) (aj (av ab (dz z.2) 171) (aj (av ad (dZ z.1).toArray 177) (aj R R')))).Ok from aB rX (aB aF (aB aF (aB ae.o hR))));have H2:=au ((h2.perm (by ac_rfl:_=aj (sV W wa b L dd M I g15 J s q Ds) (aj (av ab (dz z.2) 171) (aj (av ad (dZ z.1).toArray 177) (aj R R'))))).drew cA.o);have hS:∀ W',aI eR w1 (aj (sV W wa b L dd M I g15 J s q Ds) (aj (av ab (dz z.2) 171) (aj (av ad (dZ z.1).toArray 177) (aj R R')))) W'->(W'.cell? ⟨ad,1,none⟩=some (.int .i64 z.1.r.c)/\W'.cell? ⟨I,0,none⟩=some (.map (some b))/\(nz W' ab (.int .i64 z.2.i) (.int .i64 z.2.j) (.string (bs z.2.a)) (.bool z.2.r))/\(nz W' g15 (.int .i64 s.i) (.int .i64 s.j) (.string (bs s.a)) (.bool s.r))/\(Instr.lookup 168 (.map (some b)) (.agg (fN z.2.i z.2.j (bs z.2.a) z.2.r)) false).run Tryz.prog W'=.ok (.int .i64 (W.fw z.2)) W'/\(Instr.lookup 168 (.map (some b)) (.agg (fN s.i s.j (bs s.a) s.r)) false).run Tryz.prog W'=.ok (.int .i64 (W.fw s)) W'):=fun W' h=>by
      obtain⟨⟨s0,s1,s2,s3⟩,-,m0,-,⟨f',b0⟩,-⟩:=jQ h;obtain⟨f1,a5⟩:=h.drop.fst;obtain⟨f2,aa⟩:=h.drop.drop.fst;exact⟨ay (i:=1) aa rfl,m0,⟨ay a5 rfl,ay a5 rfl,ay a5 rfl,ay a5 rfl⟩,⟨s0,s1,s2,s3⟩,NM a8.o b0 ao,NM a8.o b0 HP.o.inL⟩
     have aw:=hS _ H2.o;have az:=au aA;have bi:=au ao;have ce:=au (wB HG.o.2 HP.o.a3 ak);have bf:=au (show K7 W s z↔z.1.r.c+W.fw z.2=W.fw s from qT);have am:=au hR;clear hI h1 h2 hx ai an ak aA ao hS hR hi;obtain⟨⟨⟨yx,yc,yf,yt⟩,yA,yn⟩,⟨xi,xj,xa,xr⟩⟩:=z;unfold dz dZ;dsimp only at aw cH ie ag cx bf bi ce az ⊢;obtain⟨dn,ba⟩:∃ d,d=W.fw { i:=xi,j:=xj,a:=xa,r:=xr }:=⟨_,rfl⟩;obtain⟨ds,a7⟩:∃ d,d=W.fw s:=⟨_,rfl⟩;rw[<-ba,<-a7] at aw bf;rw[<-ba] at ie ag;rw[<-a7] at cG cp;have cE:=au ba;have cN:=au a7;clear ba a7;have t1:IntKind.i64.wrap (yc+dn)=yc+dn:=by
      unfold never at ag;exact kj _ eL
     refine wpIn_block (wpIn_seq (wpIn_seq ?_));by_cases aq:yc+dn=ds
     ·have t2:(yc+dn != ds)=false:=by simp[aq]
      have cr:=au aq;have bm:=au (cP.o (bf.o.2 aq));dsimp only at bm;clear aq;refine mW (fun W':World=>W'.cell? ⟨ad,1,none⟩=some (.int .i64 yc)/\W'.cell? ⟨I,0,none⟩=some (.map (some b))/\(nz W' ab (.int .i64 xi) (.int .i64 xj) (.string (bs xa)) (.bool xr))/\(nz W' g15 (.int .i64 s.i) (.int .i64 s.j) (.string (bs s.a)) (.bool s.r))/\(Instr.lookup 168 (.map (some b)) (.agg (fN xi xj (bs xa) xr)) false).run Tryz.prog W'=.ok (.int .i64 dn) W'/\(Instr.lookup 168 (.map (some b)) (.agg (fN s.i s.j (bs s.a) s.r)) false).run Tryz.prog W'=.ok (.int .i64 ds) W') rfl (fun⟨a,w,h⟩=>h) rfl eQ aw ?_;clear aw;generalize W1.drew=W2 at *
      (repeat(first|refine bM ?_|refine bN ?_))
      refine lex_nil ?_
      iterate 6 gi_step
      refine wpIn_seq_k ?_;intro Kj bb;have H3:=au (H2.o);have oo:∀ (w:World) (y62 y63 y64 y65 y66 y67 y68 y69 y70 y71 y72 y73 y74 y75 y76 y77 y78 y79 y80 y81 y82 y83 y84 y85 y86:Value) (q':DD) (Y:CH.aU),Y.Ok->aI eR w1 (aj (sV W wa b L dd M I g15 J s q' Ds) (aj (av ab (fN xi xj (bs xa) xr) 171) (aj Y (aj R R')))) w->q'.l.length<=q.l.length+1->q'.m.length<=q.m.length+1->q'.f.length<=q.f.length+1000000->yi W ⟨xi,xj,xa,xr⟩ q'.l q'.m q'.f->Kj { tmps:=#[v 0,v 1,v 2,v 3,v 4,v 5,v 6,v 7,v 8,v 9,.pointer (some ⟨g10,0,none⟩),v 11,.pointer (some ⟨M,0,none⟩),v 13,.pointer (some ⟨I,0,none⟩),.pointer (some ⟨g15,0,none⟩),.pointer (some ⟨J,0,none⟩),.pointer (some ⟨ad,0,none⟩),.pointer (some ⟨ab,0,none⟩),v 19,v 20,v 21,v 22,v 23,v 24,v 25,v 26,v 27,v 28,v 29,v 30,v 31,v 32,v 33,v 34,v 35,v 36,v 37,v 38,v 39,v 40,v 41,v 42,.agg (ln wa.a.L W.l.length wa.a.lc wa.a.R wa.a.q.length wa.a.rc wa.b.L W.m.length wa.b.lc wa.b.R wa.b.q.length wa.b.rc),.agg (fN s.i s.j (bs s.a) s.r),.bool false,.bool true,.agg (ln wa.a.L W.l.length wa.a.lc wa.a.R wa.a.q.length wa.a.rc wa.b.L W.m.length wa.b.lc wa.b.R wa.b.q.length wa.b.rc),.agg (fN s.i s.j (bs s.a) s.r),Bm b1 b2,.agg (km (yx:Nat) yc yA yf.length yn (bs yt)),.agg (fN xi xj (bs xa) xr),.pointer (some ⟨ad,1,none⟩),.int .i64 yc,.map (some b),.agg (fN xi xj (bs xa) xr),.int .i64 dn,.int .i64 (yc+dn),.map (some b),.agg (fN s.i s.j (bs s.a) s.r),.int .i64 ds,.bool false,y62,y63,y64,y65,y66,y67,y68,y69,y70,y71,y72,y73,y74,y75,y76,y77,y78,y79,y80,y81,y82,y83,y84,y85,y86,v 87,v 88],defers:=[] } w:=by
       intro w y62 y63 y64 y65 y66 y67 y68 y69 y70 y71 y72 y73 y74 y75 y76 y77 y78 y79 y80 y81 y82 y83 y84 y85 y86 q' Y hY hR h1 h2 h3 ca;have bj:=au (show BB W L ⟨xi,xj,xa,xr⟩ q' from⟨az.o.1,ce.o,bi.o,by have:=HP.o.lt;have:=cr.o;rw[<-cE.o];rw[<-cN.o] at *;omega,by have:=HP.o.nl;have:=az.o.2;omega,by have:=HP.o.nm;have:=az.o.2;omega,by have:=HP.o.nf;have:=az.o.2;omega,ca⟩);have bo:=au az.o.2;refine bb _ _ ?_;clear bb Kj h1 h2 h3 ca H2 H3;have cU:=au hY;have h4:=hR.perm (by unfold sV;ac_rfl:_=aj (av g15 (dz s) 171) (aj (aj (av J (EJ dd q') 60) (aj (bE q'.A q'.ac q'.l) (aj (bE q'.B q'.bc q'.m) (aj (av I #[.map (some b)] 168) (aj (av M (bJ W wa) 165) (aj (jA b L) (dO Ds))))))) (aj (av ab (fN xi xj (bs xa) xr) 171) (aj Y (aj R R')))));have cc:(aj (aj (av J (EJ dd q') 60) (aj (bE q'.A q'.ac q'.l) (aj (bE q'.B q'.bc q'.m) (aj (av I #[.map (some b)] 168) (aj (av M (bJ W wa) 165) (aj (jA b L) (dO Ds))))))) (aj (av ab (fN xi xj (bs xa) xr) 171) (aj Y (aj R R')))).Ok:=aB aO (aB aF (aB hY (aB ae.o am.o)));obtain⟨⟨s0,s1,s2,s3⟩,-,-,-,-,sf,-⟩:=jQ hR;obtain⟨x0,x1,x2,x3,-⟩:=bq (hR.drop:aI _ _ (aj (av ab (fN xi xj (bs xa) xr) 171) _) w);have H5:=au (uz (h4:aI _ _ (aj (av g15 (fN s.i s.j (bs s.a) s.r) 171) _) w) cc (.int .i64 xi) (.int .i64 xj) (.string (bs xa)) (.bool xr));clear h4 hR cc;gi_wp2;refine aI.nZ ⟨xi,xj,xa,xr⟩ (aI.nZ q' (aI.iT ⟨rfl,bj.o,bo.o⟩ ?_));exact(H5.o.perm (by ac_rfl:_=aj (av ab (fN xi xj (bs xa) xr) 171) (aj Y (aj (aj (aj (av g15 (fN xi xj (bs xa) xr) 171) (aj (av J (EJ dd q') 60) (aj (bE q'.A q'.ac q'.l) (aj (bE q'.B q'.bc q'.m) (aj (av I #[.map (some b)] 168) (aj (av M (bJ W wa) 165) (aj (jA b L) (dO Ds)))))))) R) R')))).drop.drop
      have HC:=au oo;clear oo;have cV:=au bb;clear bb;have cy:q.l.length<=1000000:=by have:=HP.o.nl;have:=a4.o;omega
      have cD:q.m.length<=1000000:=by have:=HP.o.nm;have:=a4.o;omega
      have cT:q.f.length<=1000000000:=by have:=HP.o.nf;have:=a4.o;omega
      have cS:¬ 9223372036854775807<(bs q.f).size+(bs yt).size:=by rw[cO,cO];omega
      obtain⟨⟨s0,s1,s2,s3⟩,-⟩:=jQ H3.o;obtain⟨x0,x1,x2,x3,-⟩:=bq (H3.o.drop:aI _ _ (aj (av ab (fN xi xj (bs xa) xr) 171) _) W2);clear H2;by_cases jj:s.i<xi
      ·have t3:decide (s.i<xi)=true:=decide_eq_true jj;have al:=au (bm.o.1 jj);clear jj
       iterate 22 (first|go_values|gi_guarded|gi_step|gi_upon)
       have be:=au (show(aj (sV W wa b L dd M I g15 J s q Ds) (aj (av ab (fN xi xj (bs xa) xr) 171) (aj (av ad (km (yx:Nat) yc yA yf.length yn (bs yt)) 177) (aj R R')))).Ok from aB rX (aB aF (aB aF (aB ae.o am.o))));have H4:=au ((show aI eR w1 (aj (sV W wa b L dd M I g15 J s q Ds) (aj (av ab (fN xi xj (bs xa) xr) 171) (aj (av ad (km (yx:Nat) yc yA yf.length yn (bs yt)) 177) (aj R R')))) W2 from H3.o).drew be.o);clear H3 s0 s1 s2 s3 x0 x1 x2 x3;obtain⟨-,⟨q0,q1,q2,q3⟩,-⟩:=jQ H4.o;obtain⟨f2,aa⟩:=H4.o.drop.drop.fst;have z0:=ay (i:=0) aa rfl;have z3:=ay (i:=3) aa rfl;clear aa f2;refine mV [4,5,12,14] [1,1,0,0,1,2,2,2,3,3,3,2,3,3,4] (fun w'=>w'=W2.drew) [fun w'=>w'.cell? ⟨J,1,none⟩=some (.slice q.A q.l.length q.ac)/\w'.cell? ⟨J,3,none⟩=some (.string (bs q.f))/\w'.cell? ⟨ad,3,none⟩=some (.string (bs yt)),fun w'=>w'.cell? ⟨J,3,none⟩=some (.string (bs q.f))/\w'.cell? ⟨ad,3,none⟩=some (.string (bs yt)),fun w'=>w'.cell? ⟨ad,3,none⟩=some (.string (bs yt))] ⟨fun w h=>by rw[h];exact⟨q1,q3,z3⟩,fun w h=>⟨h.2.1,h.2.2⟩,fun w h=>h.2,trivial⟩ rfl (fun⟨a,w,h⟩=>h) rfl eQ eQ eQ rfl ?_;generalize W2.drew=W3 at *
       (repeat(first|refine eT ?_|refine eU ?_))
       refine bB rfl gh (fun K hK=>?_);go_wp2_with fail;have H5:=au (aH H4.o be.o (fR (yx:Nat)) 3);clear H4 q0 q1 q2 q3 z0 z3;generalize W3.alloc (.cells (fR (yx:Nat)) 3)=W4 at *
       generalize W3.heap.size=gN at *
       obtain⟨-,⟨q0,q1,q2,q3⟩,-⟩:=jQ H5.o.drop;obtain⟨f2,aa⟩:=H5.o.drop.drop.drop.fst;have z3:=ay (i:=3) aa rfl;clear aa f2;refine hK.o _ _ ⟨q1,q3,z3⟩ ?_;clear hK
       (repeat(first|refine eT ?_|refine eU ?_))
       refine bB rfl gh (fun K hK=>?_);obtain⟨f2,aa⟩:=H5.o.fst;have n0:=ay (i:=0) aa rfl;clear aa f2;refine NJ (.tmp 68) (.tmp 71) rfl (A:=q.A) (c:=q.ac) (g:=gN) (l:=q.l) (p:=(yx:Int)) rfl rfl rfl cy (aB aF (aB aF (aB aF (aB fC (aB aF (aB aF (aB iZ (aB lq (aB aF (aB aF (aB ae.o am.o))))))))))) (H5.o.perm (by unfold sV;ac_rfl:_=aj (bE q.A q.ac q.l) (aj (av gN (fR (yx:Nat)) 3) (aj (av g15 (dz s) 171) (aj (av J (EJ dd q) 60) (aj (bE q.B q.bc q.m) (aj (av I #[.map (some b)] 168) (aj (av M (bJ W wa) 165) (aj (jA b L) (aj (dO Ds) (aj (av ab (fN xi xj (bs xa) xr) 171) (aj (av ad (km (yx:Nat) yc yA yf.length yn (bs yt)) 177) (aj R R'))))))))))))) n0 ?_;intro A' c' W5 a0;have h6:=a0.perm (by ac_rfl:_=aj (av J (EJ dd q) 60) (aj (bE A' c' (q.l++[(yx:Int)])) (aj (av gN (fR (yx:Nat)) 3) (aj (av g15 (dz s) 171) (aj (bE q.B q.bc q.m) (aj (av I #[.map (some b)] 168) (aj (av M (bJ W wa) 165) (aj (jA b L) (aj (dO Ds) (aj (av ab (fN xi xj (bs xa) xr) 171) (aj (av ad (km (yx:Nat) yc yA yf.length yn (bs yt)) 177) (aj R R'))))))))))));have H6:=au (show aI eR w1 (aj (av J (kh dd q.A q.l.length q.ac q.B q.m.length q.bc (bs q.f)) 60) (aj (bE A' c' (q.l++[(yx:Int)])) (aj (av gN (fR (yx:Nat)) 3) (aj (av g15 (dz s) 171) (aj (bE q.B q.bc q.m) (aj (av I #[.map (some b)] 168) (aj (av M (bJ W wa) 165) (aj (jA b L) (aj (dO Ds) (aj (av ab (fN xi xj (bs xa) xr) 171) (aj (av ad (km (yx:Nat) yc yA yf.length yn (bs yt)) 177) (aj R R')))))))))))) W5 from h6);have a6:=au (show(aj (bE A' c' (q.l++[(yx:Int)])) (aj (av gN (fR (yx:Nat)) 3) (aj (av g15 (dz s) 171) (aj (bE q.B q.bc q.m) (aj (av I #[.map (some b)] 168) (aj (av M (bJ W wa) 165) (aj (jA b L) (aj (dO Ds) (aj (av ab (fN xi xj (bs xa) xr) 171) (aj (av ad (km (yx:Nat) yc yA yf.length yn (bs yt)) 177) (aj R R'))))))))))).Ok from(aB fC (aB aF (aB aF (aB fC (aB aF (aB aF (aB iZ (aB lq (aB aF (aB aF (aB ae.o am.o))))))))))));obtain⟨f2,aa⟩:=H6.o.fst;have p1:=ay (i:=1) aa rfl;have p3:=ay (i:=3) aa rfl;have pf:=aN aa;clear aa f2;obtain⟨f2,aa⟩:=H6.o.drop.drop.drop.drop.drop.drop.drop.drop.drop.drop.fst;have a2:=ay (i:=3) aa rfl;clear aa f2 h6 a0;refine hK.o _ _ ⟨p3,a2⟩ ?_;clear hK n0 H5 q0 q1 q2 q3 z3
       (repeat(first|refine eT ?_|refine eU ?_))
       refine bB rfl gh (fun K hK=>?_);go_wp2_with fail;have H7:=au (show aI eR w1 (aj (av J (kh dd A' (q.l.length+1) c' q.B q.m.length q.bc (bs q.f)) 60) (aj (bE A' c' (q.l++[(yx:Int)])) (aj (av gN (fR (yx:Nat)) 3) (aj (av g15 (dz s) 171) (aj (bE q.B q.bc q.m) (aj (av I #[.map (some b)] 168) (aj (av M (bJ W wa) 165) (aj (jA b L) (aj (dO Ds) (aj (av ab (fN xi xj (bs xa) xr) 171) (aj (av ad (km (yx:Nat) yc yA yf.length yn (bs yt)) 177) (aj R R')))))))))))) (W5.setCell ⟨J,1,none⟩ (.slice A' (q.l.length+1) c')) from aJ H6.o a6.o 1 (.slice A' (q.l.length+1) c'));clear H6 p1 p3 pf a2;generalize W5.setCell ⟨J,1,none⟩ (.slice A' (q.l.length+1) c')=W6 at *
       obtain⟨f2,aa⟩:=H7.o.fst;have p3:=ay (i:=3) aa rfl;have pf:=aN aa;clear aa f2;obtain⟨f2,aa⟩:=H7.o.drop.drop.drop.drop.drop.drop.drop.drop.drop.drop.fst;have a2:=ay (i:=3) aa rfl;clear aa f2;refine hK.o _ _ a2 ?_;clear hK a2
       (repeat(first|refine eT ?_|refine eU ?_))
       refine bB rfl gh (fun K hK=>?_);go_wp2_with fail;have h8:=aJ H7.o a6.o 3 (.string (bs q.f++bs yt));have e8:EJ dd ⟨A',c',q.l++[(yx:Int)],q.B,q.bc,q.m,q.f++yt⟩=(kh dd A' (q.l.length+1) c' q.B q.m.length q.bc (bs q.f++bs yt)):=by unfold EJ;rw[gj,acK];rfl
       have H8:=au ((show aI eR w1 (aj (av J (EJ dd ⟨A',c',q.l++[(yx:Int)],q.B,q.bc,q.m,q.f++yt⟩) 60) (aj (bE A' c' (q.l++[(yx:Int)])) (aj (av gN (fR (yx:Nat)) 3) (aj (av g15 (dz s) 171) (aj (bE q.B q.bc q.m) (aj (av I #[.map (some b)] 168) (aj (av M (bJ W wa) 165) (aj (jA b L) (aj (dO Ds) (aj (av ab (fN xi xj (bs xa) xr) 171) (aj (av ad (km (yx:Nat) yc yA yf.length yn (bs yt)) 177) (aj R R')))))))))))) _ from by rw[e8];exact h8).perm (by unfold sV;ac_rfl:_=aj (sV W wa b L dd M I g15 J s ⟨A',c',q.l++[(yx:Int)],q.B,q.bc,q.m,q.f++yt⟩ Ds) (aj (av ab (fN xi xj (bs xa) xr) 171) (aj (aj (av gN (fR (yx:Nat)) 3) (av ad (km (yx:Nat) yc yA yf.length yn (bs yt)) 177)) (aj R R')))));clear H7 p3 pf h8 e8;refine hK.o _ _ trivial ?_;clear hK
       (repeat(first|refine eT ?_|refine eU ?_))
       refine iV ?_;exact HC.o _ _ _ _ _ _ _ _ _ _ _ _ _ _ _ _ _ _ _ _ _ _ _ _ _ _ _ _ aO H8.o i7 i7 (by rw[gj];omega) al.o
      ·have t3:decide (s.i<xi)=false:=decide_eq_false jj;have al:=au (bm.o.2 jj);clear jj
       iterate 22 (first|go_values|gi_guarded|gi_step|gi_upon)
       clear s0 s1 s2 s3 x0 x1 x2 x3;have be:=au (show(aj (sV W wa b L dd M I g15 J s q Ds) (aj (av ab (fN xi xj (bs xa) xr) 171) (aj (av ad (km (yx:Nat) yc yA yf.length yn (bs yt)) 177) (aj R R')))).Ok from aB rX (aB aF (aB aF (aB ae.o am.o))));have H4:=au (show aI eR w1 (aj (sV W wa b L dd M I g15 J s q Ds) (aj (av ab (fN xi xj (bs xa) xr) 171) (aj (av ad (km (yx:Nat) yc yA yf.length yn (bs yt)) 177) (aj R R')))) W2 from H3.o);clear H3;obtain⟨-,⟨q0,q1,q2,q3⟩,-⟩:=jQ H4.o;obtain⟨f2,aa⟩:=H4.o.drop.drop.fst;have z0:=ay (i:=0) aa rfl;clear aa f2;refine bR rfl (fun⟨a,w,h⟩=>h) ?_;go_wp2_with (at_builtin;refine held ?_);have H5:=au (aH H4.o be.o (fR (yx:Nat)) 3);clear H4 q0 q1 q2 q3 z0;generalize W2.alloc (.cells (fR (yx:Nat)) 3)=W4 at *
       generalize W2.heap.size=gN at *
       obtain⟨f2,aa⟩:=H5.o.fst;have n0:=ay (i:=0) aa rfl;clear aa f2;refine lO.mk (wpList_plain rfl fun _ hK=>NJ (.tmp 81) (.tmp 84) rfl (A:=q.B) (c:=q.bc) (g:=gN) (l:=q.m) (p:=(yx:Int)) rfl rfl rfl cD (aB aF (aB aF (aB aF (aB fC (aB aF (aB aF (aB iZ (aB lq (aB aF (aB aF (aB ae.o am.o))))))))))) (H5.o.perm (by unfold sV;ac_rfl:_=aj (bE q.B q.bc q.m) (aj (av gN (fR (yx:Nat)) 3) (aj (av g15 (dz s) 171) (aj (av J (EJ dd q) 60) (aj (bE q.A q.ac q.l) (aj (av I #[.map (some b)] 168) (aj (av M (bJ W wa) 165) (aj (jA b L) (aj (dO Ds) (aj (av ab (fN xi xj (bs xa) xr) 171) (aj (av ad (km (yx:Nat) yc yA yf.length yn (bs yt)) 177) (aj R R'))))))))))))) n0 (fun A' c' W5 a0=>hK _ _ ?_));have h6:=a0.perm (by ac_rfl:_=aj (av J (EJ dd q) 60) (aj (bE A' c' (q.m++[(yx:Int)])) (aj (av gN (fR (yx:Nat)) 3) (aj (av g15 (dz s) 171) (aj (bE q.A q.ac q.l) (aj (av I #[.map (some b)] 168) (aj (av M (bJ W wa) 165) (aj (jA b L) (aj (dO Ds) (aj (av ab (fN xi xj (bs xa) xr) 171) (aj (av ad (km (yx:Nat) yc yA yf.length yn (bs yt)) 177) (aj R R'))))))))))));have H6:=au (show aI eR w1 (aj (av J (kh dd q.A q.l.length q.ac q.B q.m.length q.bc (bs q.f)) 60) (aj (bE A' c' (q.m++[(yx:Int)])) (aj (av gN (fR (yx:Nat)) 3) (aj (av g15 (dz s) 171) (aj (bE q.A q.ac q.l) (aj (av I #[.map (some b)] 168) (aj (av M (bJ W wa) 165) (aj (jA b L) (aj (dO Ds) (aj (av ab (fN xi xj (bs xa) xr) 171) (aj (av ad (km (yx:Nat) yc yA yf.length yn (bs yt)) 177) (aj R R')))))))))))) W5 from h6);have a6:=au (show(aj (bE A' c' (q.m++[(yx:Int)])) (aj (av gN (fR (yx:Nat)) 3) (aj (av g15 (dz s) 171) (aj (bE q.A q.ac q.l) (aj (av I #[.map (some b)] 168) (aj (av M (bJ W wa) 165) (aj (jA b L) (aj (dO Ds) (aj (av ab (fN xi xj (bs xa) xr) 171) (aj (av ad (km (yx:Nat) yc yA yf.length yn (bs yt)) 177) (aj R R'))))))))))).Ok from(aB fC (aB aF (aB aF (aB fC (aB aF (aB aF (aB iZ (aB lq (aB aF (aB aF (aB ae.o am.o))))))))))));obtain⟨f2,aa⟩:=H6.o.fst;have p2:=ay (i:=2) aa rfl;have pf:=aN aa;clear aa f2 h6 a0 n0 H5;go_wp2_with fail;have h8:=aJ H6.o a6.o 2 (.slice A' (q.m.length+1) c');have e8:EJ dd ⟨q.A,q.ac,q.l,A',c',q.m++[(yx:Int)],q.f⟩=(kh dd q.A q.l.length q.ac A' (q.m.length+1) c' (bs q.f)):=by unfold EJ;rw[gj];rfl
       have H8:=au ((show aI eR w1 (aj (av J (EJ dd ⟨q.A,q.ac,q.l,A',c',q.m++[(yx:Int)],q.f⟩) 60) (aj (bE A' c' (q.m++[(yx:Int)])) (aj (av gN (fR (yx:Nat)) 3) (aj (av g15 (dz s) 171) (aj (bE q.A q.ac q.l) (aj (av I #[.map (some b)] 168) (aj (av M (bJ W wa) 165) (aj (jA b L) (aj (dO Ds) (aj (av ab (fN xi xj (bs xa) xr) 171) (aj (av ad (km (yx:Nat) yc yA yf.length yn (bs yt)) 177) (aj R R')))))))))))) _ from by rw[e8];exact h8).perm (by unfold sV;dsimp only;ac_rfl:_=aj (sV W wa b L dd M I g15 J s ⟨q.A,q.ac,q.l,A',c',q.m++[(yx:Int)],q.f⟩ Ds) (aj (av ab (fN xi xj (bs xa) xr) 171) (aj (aj (av gN (fR (yx:Nat)) 3) (av ad (km (yx:Nat) yc yA yf.length yn (bs yt)) 177)) (aj R R')))));exact HC.o _ _ _ _ _ _ _ _ _ _ _ _ _ _ _ _ _ _ _ _ _ _ _ _ _ _ _ _ aO H8.o i7 i7 i7 al.o
     ·have t2:(yc+dn != ds)=true:=by simp[aq]
      have cQ:=au (ct.o (fun h=>aq (bf.o.1 h)));clear aq;refine mW (fun W':World=>W'.cell? ⟨ad,1,none⟩=some (.int .i64 yc)/\W'.cell? ⟨I,0,none⟩=some (.map (some b))/\(nz W' ab (.int .i64 xi) (.int .i64 xj) (.string (bs xa)) (.bool xr))/\(nz W' g15 (.int .i64 s.i) (.int .i64 s.j) (.string (bs s.a)) (.bool s.r))/\(Instr.lookup 168 (.map (some b)) (.agg (fN xi xj (bs xa) xr)) false).run Tryz.prog W'=.ok (.int .i64 dn) W'/\(Instr.lookup 168 (.map (some b)) (.agg (fN s.i s.j (bs s.a) s.r)) false).run Tryz.prog W'=.ok (.int .i64 ds) W') rfl (fun⟨a,w,h⟩=>h) rfl eQ aw ?_;clear aw
      (repeat(first|refine bM ?_|refine bN ?_))
      refine lex_nil ?_;gi_wp2;exact aI.iT cQ.o (H2.o.perm (by ac_rfl:_=aj (av ab (dz { i:=xi,j:=xj,a:=xa,r:=xr }) 171) (aj (av ad (dZ ⟨⟨yx,yc,yf,yt⟩,yA,yn⟩).toArray 177) (aj (aj (sV W wa b L dd M I g15 J s q Ds) R) R')))).drop.drop
    ·intro D R' W1 hR hI;obtain⟨ai,-⟩:=hI.pure;exact(Z5 bv.o HP.o.ok HP.o.lt b3.o ai).elim
    ·intro D c9 R' W1 hR hI;obtain⟨s',h1⟩:=hI.ex;obtain⟨q',h1⟩:=h1.ex;obtain⟨⟨rfl,b8,b9⟩,h2⟩:=h1.pure;have b5:=au (show aI eR w1 (aj (sV W wa b L dd M I g15 J s' q' (D::Ds)) (aj R R')) W1 from h2.perm (by unfold sV;rw[wK];ac_rfl));have bj:=au b8;have bo:=au b9;have b7:=au (aB ae.o hR);have b6:=au (Qb (W:=W) (g15:=g15) (s:=s') b5.o.assoc);clear hI h1 h2 b8 b9 hR;go_wp2_with fail;refine⟨Ss (D::Ds) rfl rfl rfl rfl rfl rfl rfl b7.o b5.o bj.o,?_⟩;rw[b6.o,cg.o];exact bo.o
end Go.Proofs.YtbioiclabmbedaaGreatDoor
