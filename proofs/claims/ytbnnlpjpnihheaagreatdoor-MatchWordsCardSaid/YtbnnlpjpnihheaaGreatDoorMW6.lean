/- A part of the proof: lemmas. -/
import Derived.Test.YtbnnlpjpnihheaaGreatDoorMW5
set_option maxHeartbeats 16000000
set_option maxRecDepth 100000
set_option linter.all false
namespace Go.Proofs.YtbnnlpjpnihheaaGreatDoor
open Go.RowKit Go.CH Go.CH.Scr Go.CH.eG
open Go.ChangeMaps (setBlock)
structure RA where
 r:AR
 A:fj
 c:Nat
def cu(x:RA):List Value:=[.int .i64 (x.r.ix:Nat),.int .i64 x.r.c,.slice x.A x.r.f.length x.c,.string (bs x.r.t)]
theorem zV(l:List RA):∀ u ∈ l.flatMap cu,u.oneCell'=true:=by
 intro u hu;obtain⟨x,-,hx⟩:=List.mem_flatMap.1 hu;unfold cu at hx;simp only[YV,YT,or_false] at hx;rcases hx with rfl|rfl|rfl|rfl<;>rfl
def jX:List RA->CH.bq
 | []=>aS
 | x::l=>aj (bO x.A x.c x.r.f) (jX l)
theorem rX:∀ {l:List RA},(jX l).Ok
 | []=>aO
 | _::_=>ay fq rX
theorem Cr(x:RA):∀ l:List RA,jX (l++[x])=aj (bO x.A x.c x.r.f) (jX l)
 | []=>rfl
 | y::l=>by
  show aj _ (jX (l++[x]))=aj _ (aj _ (jX l))
  rw[Cr x l];ac_rfl
def qy(A:fj)(c:Nat)(l:List RA):CH.bq:=aZ 181 4 (.slice A l.length c) l.length (l.flatMap cu)
variable{A:fj}{c n g:Nat}{w w0 W:World}{F F0:Nat->Prop}{ops:Array Oper}{a:Act}{Q:Exit->Act->World->Prop}{l:List Bs}{t:TypeId}{X:CH.bq}{rs:List ib}{k:Int}
theorem wP{l:List RA}:(qy A c l).Ok:=cB
instance {A:fj} {c:Nat} {l:List RA}:(qy A c l).Ok:=wP
abbrev Je(w:World)(A:fj)(l:List RA):Prop:=tH cu 4 w A l
theorem Wt{l:List RA}(h:qy A c l w F):Je w A l:=iG h (zV l)
theorem XF:d9 Tryz.prog 165 181 (.agg (gS 0 0 none 0 0 ⟨#[]⟩)) 4 56:=⟨Tryz.underlying165,by kernel_rfl,by decide,by decide⟩
theorem P5{l:List RA}{x:RA}:aZ 181 4 (.slice A (l.length+1) c) (l.length+1) (l.flatMap cu++cu x)=qy A c (l++[x]):=by
 unfold qy;rw[ZY,Yz,Y1,ZT]
theorem Ue{Y:CH.bq}{rest:List Oper}{o:Oper}(M:o.guard=none)(s x:Operand)(ho:o.op=.call { callee:=.builtin .append,args:=#[s,x],argTypes:=#[165,165] }){l:List RA}(p:RA)(hl:l.length=n)(hsv:a.eval s=.slice A n c)(hx:a.eval x=.slice (some ⟨W.heap.size,0,none⟩) 1 1)(hn:n<=1000000)(hY:Y.Ok)(h:aI F0 w0 (aj (qy A c l) Y) W)(hK:∀ V c' w',aI F0 w0 (aj (qy V c' (l++[p])) Y) w'->wpList Tryz.prog ops Q rest (a.put o.dst (.slice V (n+1) c')) w'):wpList Tryz.prog ops Q (o::rest) a (W.alloc (.cells (gS (p.r.ix:Nat) p.r.c p.A p.r.f.length p.c (bs p.r.t)) 181)):=by
 subst hl;obtain⟨F7,z,-,I⟩:=(h.below aQ ((YC _ _).alloc (YG _) (.cells (gS (p.r.ix:Nat) p.r.c p.A p.r.f.length p.c (bs p.r.t)) 181))).take wP hY;refine nH M s x ho XF _ 0 (v:=.slice A l.length c) (n:=l.length) (xs:=l.flatMap cu) hsv z.1 (A:=some ⟨W.heap.size,0,none⟩) (m:=1) (c:=1) (news:=cu p) hx (lU (cs:=(gS (p.r.ix:Nat) p.r.c p.A p.r.f.length p.c (bs p.r.t))) (fun u hu=>zV [p] u (by simpa[cu] using hu))) (by unfold maxLen;omega) ff (YE _) ?_;intro v8 w8 q J F;have S8:=I _ _ (iy z q J F);obtain⟨A8,c8,rfl⟩:=fV q;rw[P5] at S8;exact hK A8 c8 w8 S8
structure SA where
 L:fj
 lc:Nat
 R:fj
 rc:Nat
 q:List RA
def jY(T:fy)(k:Int)(x:Bs):List Bs × List AR:=if word k x then((aM k (lower x)).1,fK T.rs k) else([],[])
def Fy(l:List Bs)(s:SA):Array Value:=(fL s.L l.length s.lc s.R s.q.length s.rc)
def gU(l:List Bs)(s:SA):CH.bq:=aj (bO s.L s.lc l) (aj (qy s.R s.rc s.q) (jX s.q))
theorem pQ{s:SA}:(gU l s).Ok:=ay fq (ay wP rX)
instance {l:List Bs} {s:SA}:(gU l s).Ok:=pQ
def rY(w:World)(T:fy)(k:Int)(x:Bs)(e:Ending)(w':World):Prop:=
 ∃ s:SA,e=.returned (.tuple #[.agg (Fy (jY T k x).1 s),.bool (word k x)])/\s.q.map (·.r)=(jY T k x).2/\bS w fh (gU (jY T k x).1 s) w'
theorem mH{I q:Value}(h:aI F0 w0 (aj (av g #[I,q] t) X) w)(z:X.Ok)(p b1:Value):
  aI F0 w0 (aj (av g #[p,b1] t) X) ((w.setCell ⟨g,0,none⟩ p).setCell ⟨g,1,none⟩ b1):=by
 have F:aI F0 w0 (aj (av g #[p,q] t) X) _:=aJ h z 0 p;exact aJ F z 1 b1
theorem Uf(hn:n<rs.length):(rs.zipIdx.take (n+1)).filterMap (oF k)=(rs.zipIdx.take n).filterMap (oF k)++(oF k (rs[n],n)).toList:=by
 have e:rs.zipIdx.take (n+1)=rs.zipIdx.take n++[(rs[n],n)]:=by
  rw[YD (by rw[lx];exact hn)];simp
 rw[e,Zh];cases h:oF k (rs[n],n)<;>simp[h]
theorem Wu(hn:rs.length<=n):(rs.zipIdx.take n).filterMap (oF k)=fK rs k:=by
 rw[ZR (by rw[lx];exact hn)];rfl
abbrev _root_.Go.ie(T:fy)(a:TA):Array Value:=fw a.A T.rs.length a.c a.D T.ds.length a.d a.E T.es.length a.e T.drop T.ord T.ini
variable{T:fy}
theorem zW{a:TA}(hT:iR w T a)(hz:LZ w)(k:Int)(x:Bs)(hx:x.length<=1000000):
  Calls Tryz.prog 124 #[eu T a,.int .i64 k,.string (bs x)] w (rY w T k x):=by
 have HT:=au hT;have HZ:=au hz;have HX:=au hx;have h1:aI fh w (aj (av w.heap.size (dh T a) 25) aS) _:=aH (aI.begin w) aO (dh T a) 25;have KF:=au (fun W (hz:LZ W)=>uR k (bs x) W (by rw[bB];exact hx) hz);simp only[fO] at KF;unfold aL at KF;have H1:=au h1;clear hT hz hx h1;unfold eu dh;unfold dh at H1
 go_enter Tryz.func124,Tryz.ntmps124
 have H2:=au (show aI fh w (aj (av (w.heap.size+1) (fL none 0 0 none 0 0) 167) (aj (av w.heap.size (ie T a) 25) aS)) _ from(by have h2:=aH H1.o aQ (fL none 0 0 none 0 0) 167;rw[YN] at h2;exact h2));go_wp2_with fail;clear H1;generalize a4:(w.alloc (.cells (ie T a) 25)).alloc (.cells (fL none 0 0 none 0 0) 167)=w1 at *
 clear a4;generalize w.heap.size+1=gr at *
 generalize w.heap.size=gt at *
 have ab:=au (show(aj (av gr (fL none 0 0 none 0 0) 167) (aj (av gt (ie T a) 25) aS)).Ok from ay aC aQ);have ag:=au (fun W O (h:aI fh w O W)=>HZ.o.below (h.mod.below (fun _ _ h=>h)));by_cases hw:word k x=true
 ·have e1:fE k x=(lower x,0):=by unfold fE;rw[if_pos hw]
  have e2:aU k (lower x)=((aM k (lower x)).1,0):=by unfold aU;rw[if_pos (iA hw)]
  have e3:jY T k x=((aM k (lower x)).1,fK T.rs k):=by unfold jY;rw[if_pos hw]
  have aD:(iq k x).1=(aM k (lower x)).1:=by unfold iq;rw[if_pos hw]
  have a1:=au (show(aM k (lower x)).1.length<=1000000 from by rw[<-aD];exact YQ (wN k x) ff);have KL:=au (fun W (hz:LZ W)=>kV k (bs (lower x)) W (by rw[bB];unfold lower;rw[YI];exact HX.o) hz);simp only[fO] at KL;unfold jT at KL;simp only[e2] at KL;simp only[e1] at KF
  have a7:=au (show ∀ (l:List Bs) (s:SA) W,l=(aM k (lower x)).1->s.q.map (·.r)=fK T.rs k->bS w fh (gU l s) W->rY w T k x (.returned (.tuple #[.agg (Fy l s),.bool true])) W from fun l s W hl hq hp=>by
   unfold rY;rw[e3,hw];subst hl
   exact⟨s,rfl,hq,hp⟩)
  obtain⟨l,hl⟩:∃ l,l=(aM k (lower x)).1:=⟨_,rfl⟩;have HL:=au hl;rw[<-hl] at KL a1;clear e1 e2 e3 hw aD hl;refine(KF.o _ (ag.o _ _ H2.o)).mono ?_;rintro e9 w2 ⟨rfl,hb⟩;have H3:=au (H2.o.below ab.o hb);have J:=au (KL.o _ (ag.o _ _ H3.o));clear KF KL H2 hb;dsimp only;go_wp2_with fail;refine J.o.mono ?_;rintro e9 w3 ⟨L,lc,rfl,hp⟩;have H4:=au (H3.o.fresh ab.o hp);clear J H3 hp;dsimp only;obtain⟨V,ao⟩:∃ n,n=l.length:=⟨_,rfl⟩;have a2:=au ao;rw[<-ao];clear ao;have a5:=au (HT.o.below (H4.o.mod.below (fun _ _ h=>h)));have H5:=au (aH H4.o (ay fq ab.o) (fL L V lc none 0 0) 167);clear H4;obtain⟨fr,p⟩:=H5.o.drop.drop.drop.fst;have c0:=aB (i:=0) p rfl;clear p;go_wp2_with fail;clear c0;generalize w3.alloc (.cells (fL L V lc none 0 0) 167)=w4 at *
  generalize w3.heap.size=gp at *
  obtain⟨Z,hZ⟩:∃ Z,Z=aj (bO L lc l) (aj (av gr (fL none 0 0 none 0 0) 167) (aj (av gt (ie T a) 25) aS)):=⟨_,rfl⟩;have ax:Z.Ok:=by rw[hZ];exact ay fq ab.o
  have H6:=au (((H5.o.fresh (ay aC (ay fq ab.o)) (⟨fun _=>False,fZ _ _ _,Mod.refl _ _,fun i hi=>.inl hi⟩:bS _ fh (qy none 0 []) _)).perm (by rw[hZ];unfold jX;rw[zD];ac_rfl:_=aj (av gp (fL L V lc none 0 0) 167) (aj (qy none 0 []) (aj (jX []) Z)))));have a3:=au hZ;have am:=au ax;obtain⟨N,hN⟩:∃ N,N=T.rs.length:=⟨_,rfl⟩;have a8:=au (show N<=1000000 from by rw[hN];exact HT.o.lr);clear H5 hZ ax ab a5;rw[<-hN];have HN:=au hN;clear hN;go_loopw [39] (fun i wr=>∃ (n:Nat) (q:List RA) (A:fj) (c:Nat),n<=N/\q.length<=n/\i=.int .i64 n/\q.map (·.r)=(T.rs.zipIdx.take n).filterMap (oF k)/\aI fh w (aj (av gp (fL L V lc A q.length c) 167) (aj (qy A c q) (aj (jX q) Z))) wr) (fun i _=>N-(intOf i).toNat)
  case atStart=>exact⟨0,[],none,0,YE _,YE _,rfl,rfl,H6.o⟩
  case round=>
   clear H6;obtain⟨n,q,A,c,hn,aw,rfl,hq,hR⟩:=hrel;have HR:=au hR;have HQ:=au hq;have ai:=au aw;clear hR hq aw;by_cases aq:n<N
   ·have al:n<T.rs.length:=by rw[<-HN.o];exact aq
    have ac:=au (show n+1<=N from aq);have ba:(n:Int)<1000000:=by have:=a8.o;omega
    obtain⟨b,o,hA,hc⟩:=HT.o.rs.at ff;rw[hA];obtain⟨r0,r1,r2,r3⟩:=hc wr (HR.o.mod.below (fun _ _ h=>h)) n al;have HA:=au hA;have aA:=au (HT.o.sr _ (YL al));have z:=au (Uf (k:=k) al);clear hc hA;have ak:∀ R,R=T.rs[n]->oF k (R,n)=if R.k=k then(if word k R.f=true then some ⟨n,R.c,(aM k R.f).1,R.t⟩ else none) else none:=fun R _=>rfl
    have ak:=au (ak _ rfl);rw[ak.o] at z;clear ak;generalize T.rs[n]=R at *
    obtain⟨Rk,Rf,Rt,Rc⟩:=R;dsimp only at r0 r1 r2 r3 aA z;have aa:=au (show(aj (av gp (fL L V lc A q.length c) 167) (aj (qy A c q) (aj (jX q) Z))).Ok from ay aC (ay wP (ay rX am.o)));have H7:=au (aH HR.o aa.o #[.int .i64 0,.string { data:=#[] },.string { data:=#[] },.int .i64 0] 113);go_upto_region 10 with (fail)
    iterate 13 (first|go_values|go_guarded|go_step)
    clear HR r0 r1 r2 r3;generalize wr.alloc (.cells #[.int .i64 0,.string { data:=#[] },.string { data:=#[] },.int .i64 0] 113)=w5 at *
    generalize wr.heap.size=gq at *
    obtain⟨r0,r1,r2,r3,rf⟩:=aY H7.o;go_upto_region 11 with (fail);have H8:=au (aJ (aJ (aJ (aJ H7.o aa.o 0 (.int .i64 Rk)) aa.o 1 (.string (bs Rf))) aa.o 2 (.string (bs Rt))) aa.o 3 (.int .i64 Rc):aI fh w (aj (av gq (gO Rk (bs Rf) (bs Rt) Rc) 113) (aj (av gp (fL L V lc A q.length c) 167) (aj (qy A c q) (aj (jX q) Z)))) _);clear H7 r0 r1 r2 r3 rf;generalize (((w5.setCell ⟨gq,0,none⟩ (.int .i64 Rk)).setCell ⟨gq,1,none⟩ (.string (bs Rf))).setCell ⟨gq,2,none⟩ (.string (bs Rt))).setCell ⟨gq,3,none⟩ (.int .i64 Rc)=w6 at *
    obtain⟨r0,r1,r2,r3,rf⟩:=aY H8.o;by_cases ad:Rk=k
    ·have t1:(Rk != k)=false:=by simp[ad]
     rw[if_pos ad] at z;have KL:=au (fun W (hz:LZ W)=>kV k (bs Rf) W (by rw[bB];exact aA.o.1) hz);simp only[fO] at KL;unfold jT at KL;have J:=au (KL.o _ (ag.o _ _ H8.o));clear KL ad;cases ae:word k Rf with
     | true=>
      have e2:aU k Rf=((aM k Rf).1,0):=by unfold aU;rw[if_pos ae]
      rw[if_pos ae] at z;simp only[e2] at J;have af:=au (show _=_++[_] from z.o);clear z e2 ae;generalize (aM k Rf).1=f at *
      go_wp2_with fail;refine J.o.mono ?_;rintro e9 w7 ⟨F,fc,rfl,hp⟩;have H9:=au (H8.o.fresh (ay aC aa.o) hp);clear J H8 hp r0 r1 r2 r3 rf t1;dsimp only;obtain⟨r0,r1,r2,r3,rf⟩:=aY H9.o.drop;obtain⟨fp,I⟩:=H9.o.drop.drop.fst;have c1:=aB (i:=1) I rfl;clear I;have a0:=au (show(aj (bO F fc f) (aj (av gq (gO Rk (bs Rf) (bs Rt) Rc) 113) (aj (av gp (fL L V lc A q.length c) 167) (aj (jX q) Z)))).Ok from ay fq (ay aC (ay aC (ay rX am.o))));have az:=au (H9.o.perm (by ac_rfl:_=aj (qy A c q) (aj (bO F fc f) (aj (av gq (gO Rk (bs Rf) (bs Rt) Rc) 113) (aj (av gp (fL L V lc A q.length c) 167) (aj (jX q) Z))))));clear H9;go_wp2_with (at_builtin;refine held ?_);refine ia.mk (Ue rfl (.tmp 58) (.tmp 66) rfl ⟨⟨n,Rc,f,Rt⟩,F,fc⟩ rfl rfl ft (by have:=ai.o;omega) a0.o az.o ?_);intro A' c' w8 aE;have an:=au (aE.perm (by rw[Cr];ac_rfl:_=aj (av gp (fL L V lc A q.length c) 167) (aj (qy A' c' (q++[⟨⟨n,Rc,f,Rt⟩,F,fc⟩])) (aj (jX (q++[⟨⟨n,Rc,f,Rt⟩,F,fc⟩])) (aj (av gq (gO Rk (bs Rf) (bs Rt) Rc) 113) Z)))));clear aE az c1 r0 r1 r2 r3 rf;obtain⟨fp,I⟩:=an.o.fst;have c1:=aB (i:=1) I rfl;have cf:=aP I;clear I;go_upto_region 15 with (fail);have a6:=au ((aJ an.o (ay wP (ay rX (ay aC am.o))) 1 (.slice A' (q.length+1) c'):aI fh w (aj (av gp (fL L V lc A' (q.length+1) c') 167) _) _));clear an c1 cf;generalize w8.setCell ⟨gp,1,none⟩ (.slice A' (q.length+1) c')=w9 at *
      go_wp2
      go_roundw
      case rel=>exact⟨n+1,q++[⟨⟨n,Rc,f,Rt⟩,F,fc⟩],A',c',ac.o,by have:=ai.o;rw[Yz,Y1];omega,by go_num,by rw[af.o,YS,HQ.o];rfl,by
       rw[Yz,Y1]
       exact(a6.o.perm (by ac_rfl:_=aj (av gq (gO Rk (bs Rf) (bs Rt) Rc) 113) (aj (av gp (fL L V lc A' (q.length+1) c') 167) (aj (qy A' c' (q++[⟨⟨n,Rc,f,Rt⟩,F,fc⟩])) (aj (jX (q++[⟨⟨n,Rc,f,Rt⟩,F,fc⟩])) Z))))).drop⟩
      case measure=>have:=ac.o;simp[intOf];omega
     | false=>
      have e2:aU k Rf=([],1):=by unfold aU;rw[if_neg (by rw[ae];decide)]
      rw[if_neg (by rw[ae];decide)] at z;simp only[e2] at J;have af:=au (z.o.trans (Y2 _));clear z e2 ae;go_wp2_with fail;refine J.o.mono ?_;rintro e9 w7 ⟨F,fc,rfl,hp⟩;have H9:=au (H8.o.fresh (ay aC aa.o) hp);clear J H8 hp r0 r1 r2 r3 rf t1;dsimp only;go_wp2
      go_roundw
      case rel=>exact⟨n+1,q,A,c,ac.o,by have:=ai.o;omega,by go_num,by rw[af.o];exact HQ.o,H9.o.drop.drop⟩
      case measure=>have:=ac.o;simp[intOf];omega
    ·have t1:(Rk != k)=true:=by simp[ad]
     rw[if_neg ad] at z;have af:=au (z.o.trans (Y2 _));clear z ad;go_wp2
     go_roundw
     case rel=>exact⟨n+1,q,A,c,ac.o,by have:=ai.o;omega,by go_num,by rw[af.o];exact HQ.o,H8.o.drop⟩
     case measure=>have:=ac.o;simp[intOf];omega
   ·have a9:=au (HQ.o.trans (Wu (by rw[<-HN.o];omega)));have H7:=au (HR.o.perm (by rw[a3.o];ac_rfl:_=aj (av gr (fL none 0 0 none 0 0) 167) (aj (av gp (fL L V lc A q.length c) 167) (aj (bO L lc l) (aj (qy A c q) (aj (jX q) (aj (av gt (ie T a) 25) aS)))))));clear HR;obtain⟨fr,p⟩:=H7.o.fst;have r0:=aB (i:=0) p rfl;have r1:=aB (i:=1) p rfl;have rf:=aP p;obtain⟨fp,I⟩:=H7.o.drop.fst;have c0:=aB (i:=0) I rfl;have c1:=aB (i:=1) I rfl;clear p I;go_wp2_with fail;have H8:=au (mH H7.o (ay aC (ay fq (ay wP (ay rX aQ)))) (.slice L V lc) (.slice A q.length c));clear H7 r0 r1 rf c0 c1;generalize (wr.setCell ⟨gr,0,none⟩ (.slice L V lc)).setCell ⟨gr,1,none⟩ (.slice A q.length c)=w9 at *
    obtain⟨fr,p⟩:=H8.o.fst;have M:=p.1;clear p;refine bodyPost_ret (dH rfl _ _ gr 167 (fL L V lc A q.length c) (0,0) rfl M Tryz.underlying167 fi) rfl ?_;clear M;have h9:aI fh w (aj (gU l ⟨L,lc,A,c,q⟩) (aj (av gr (fL L V lc A q.length c) 167) (aj (av gp (fL L V lc A q.length c) 167) (aj (av gt (ie T a) 25) aS)))) w9:=H8.o.perm (by unfold gU;ac_rfl);have ap:=a7.o l ⟨L,lc,A,c,q⟩ w9 HL.o a9.o ((h9.swap.drop).post pQ);unfold Fy at ap;rw[<-a2.o] at ap;exact ap
 ·have e1:fE k x=([],1):=by unfold fE;rw[if_neg hw]
  have e2:jY T k x=([],[]):=by unfold jY;rw[if_neg hw]
  have e3:word k x=false:=Bool.eq_false_iff.2 hw;simp only[e1] at KF
  have ar:=au (show ∀ W,aI fh w (aj (av gr (fL none 0 0 none 0 0) 167) (aj (av gt (ie T a) 25) aS)) W->rY w T k x (.returned (.tuple #[.agg (fL none 0 0 none 0 0),.bool false])) W from fun W h=>by
   unfold rY;rw[e2,e3];refine⟨⟨none,0,none,0,[]⟩,rfl,rfl,?_⟩;have h1:=(h.fresh aQ (⟨fun _=>False,fZ _ _ _,Mod.refl _ _,fun i hi=>.inl hi⟩:bS _ fh (qy none 0 []) _)).fresh aQ (⟨fun _=>False,fZ _ _ _,Mod.refl _ _,fun i hi=>.inl hi⟩:bS _ fh (bO none 0 []) _);have h2:aI fh w (aj (gU [] ⟨none,0,none,0,[]⟩) (aj (av gr (fL none 0 0 none 0 0) 167) (aj (av gt (ie T a) 25) aS))) W:=h1.perm (by unfold gU jX;simp only[kS];ac_rfl)
   exact(h2.swap.drop).post pQ)
  clear e1 e2 e3 hw;refine(KF.o _ (ag.o _ _ H2.o)).mono ?_;rintro e9 w2 ⟨rfl,hb⟩;have H3:=au (H2.o.below ab.o hb);clear KF H2 hb;dsimp only;obtain⟨fr,p⟩:=H3.o.fst;have r0:=aB (i:=0) p rfl;have r1:=aB (i:=1) p rfl;have rf:=aP p;clear p;go_wp2_with fail;have H4:=au (mH H3.o aQ (.slice none 0 0) (.slice none 0 0));clear H3 r0 r1 rf;generalize (w2.setCell ⟨gr,0,none⟩ (.slice none 0 0)).setCell ⟨gr,1,none⟩ (.slice none 0 0)=w3 at *
  obtain⟨fr,p⟩:=H4.o.fst;have M:=p.1;clear p;refine bodyPost_ret (dH rfl _ _ gr 167 (fL none 0 0 none 0 0) (0,0) rfl M Tryz.underlying167 fi) rfl ?_;clear M;exact ar.o _ H4.o
theorem XG(p q:Bs):(!(@BEq.beq (List UInt8) (@List.instBEq UInt8 instBEqOfDecidableEq) (bs p).toList (bs q).toList))=!decide (p=q):=by
 rw[mN,mN]
 show(!(@BEq.beq (List UInt8) (@List.instBEq UInt8 instBEqOfDecidableEq) p q))=_
 by_cases h:p=q<;>simp[h]
theorem Ct{B:fj}{d:Nat}{C D:List Bs}(hA:fM w A C)(hB:fM w B D)(hl:C.length<=4611686018427387904)(am:D.length<=4611686018427387904):
  Calls Tryz.prog 50 #[.slice A C.length c,.slice B D.length d] w (aL w (.bool (decide (C=D)))):=by
 have HA:=au hA;have HB:=au hB;obtain⟨n,hn⟩:∃ n,n=C.length:=⟨_,rfl⟩;obtain⟨m,hm⟩:∃ m,m=D.length:=⟨_,rfl⟩;rw[<-hn] at hl ⊢;rw[<-hm] at am ⊢;have HN:=au hn;have HM:=au hm;clear hA hB hn hm;by_cases J:n=m
 ·subst J;obtain⟨b,hb⟩:∃ b,b=decide (C=D):=⟨_,rfl⟩;rw[<-hb];have HV:=au hb;clear hb
  go_enter Tryz.func50,Tryz.ntmps50
  go_wp2_with fail;go_loopw [13] (fun i wr=>∃ k:Nat,k<=n/\i=.int .i64 k/\C.take k=D.take k/\Below w.heap.size w wr) (fun i _=>n-(intOf i).toNat)
  case atStart=>exact⟨0,YE _,rfl,by simp,YC _ _⟩
  case round=>
   obtain⟨k,hk,rfl,ag,I⟩:=hrel;have V:=au ag;have aa:=au I;clear ag I;by_cases M:k<n
   ·have ad:k<C.length:=by rw[<-HN.o];exact M
    have ai:k<D.length:=by rw[<-HM.o];exact M
    have ac:=au M;obtain⟨b1,o1,rfl,ab⟩:=HA.o.at ff;obtain⟨b2,o2,rfl,ae⟩:=HB.o.at ff;have ak:=au (show C[k]=D[k]->C.take (k+1)=D.take (k+1) from fun h=>by rw[YD ad,YD ai,V.o,h]);have an:=au (show C[k]≠D[k]->b=false from fun h=>by rw[HV.o];exact decide_eq_false (fun e=>h (by simp only[e])));have F:=au (dO aa.o);have af:=And.intro (ab _ F.o k ad) (ae _ F.o k ai);clear ab ae;generalize C[k]=p at *
    generalize D[k]=q at *
    go_wp2_with fail;refine aK (fun W=>W.cell? ⟨b1,o1+k,none⟩=some (.string (bs p))/\W.cell? ⟨b2,o2+k,none⟩=some (.string (bs q))) ft fi af ?_;clear af
    (repeat(first|refine aW ?_|refine aX ?_))
    refine lex_nil ?_;by_cases z:p=q
    ·have t:=(XG p q).trans (show _=false from by simp[z]);have al:=au (ak.o z);clear z;rw[t];clear t;go_wp2
     go_roundw
     case rel=>exact⟨k+1,ac.o,by go_num,al.o,F.o⟩
     case measure=>have:=ac.o;simp[intOf];omega
    ·have t:=(XG p q).trans (show _=true from by simp[z]);have HF:=au (an.o z);clear z;rw[t];clear t;go_wp2;go_ret;exact aN HF.o F.o
   ·have HF:=au (show b=true from by
     rw[HV.o];have h:=V.o;have e:k=n:=by omega
     rw[ZR (by rw[<-HN.o];omega),ZR (by rw[<-HM.o];omega)] at h
     exact decide_eq_true h)
    clear V;go_wp2;go_ret;exact aN HF.o aa.o
 ·have t:((n:Int) != (m:Int))=true:=by simp;omega
  have hf:decide (C=D)=false:=decide_eq_false (fun e=>J (by rw[HN.o,HM.o,e]));rw[hf];clear hf J
  go_enter Tryz.func50,Tryz.ntmps50
  go_wp2;go_ret;exact⟨rfl,YC _ _⟩
variable{e:TypeId}{i:Nat}
theorem zX{P:Program}{z:Value}{size bytes:Nat}(S:d9 P t e z size bytes)(A:fj)(n c k h:Nat)(kd q:IntKind)(l I:Int)(M:l=k)(p:I=h)(h1:k<=h)(h2:h<=c)(w:World):
  (Instr.slice t (.slice A n c) (some (.int kd l)) (some (.int q I)) none).run P w=.ok (.slice (wZ A c k size) (h-k) (c-k)) w:=by
 obtain⟨ht,hi,hz,V⟩:=S;obtain⟨i,hi,J,F,aa⟩:=info_parts hi;subst M p;have h0:(0:Int)<=k/\(k:Int)<=h:=by omega
 simp[Instr.slice,run_underlying ht,Instr.sliceBounds,Instr.sliceBound,asIntOf,h1,h2,sizeOf,typeInfo,hi,F,wZ]
theorem zY(n:Nat)(h:fM w A l):fM w A (l.take n):=by
 have e:mE (l.take n)=(mE l).take n:=by unfold mE;rw[rh]
 refine⟨by rw[e,YU,h.1,YU];omega,fun u p=>h.2.1 u (by rw[e] at p;exact ZC p),fun hn=>?_⟩;obtain⟨q,rfl,z⟩:=h.2.2 (by rw[YU] at hn;omega);refine⟨q,rfl,fun j u p=>z j u ?_⟩;rw[e,pZ] at p;split at p
 ·exact p
 ·cases p
theorem Fz{L F R:fj}{lc fc rn rc:Nat}{r:AR}(hL:fM w L l)(hF:fM w F r.f)(hi:i<=l.length)(hc:l.length<=lc)(am:l.length<=1000000)(ai:r.f.length<=1000000):
  Calls Tryz.prog 127 #[.agg (fL L l.length lc R rn rc),.agg (gS (r.ix:Nat) r.c F r.f.length fc (bs r.t)),.int .i64 i] w (aL w (.bool (jw l r i))):=by
 obtain⟨ix,c,f,t⟩:=r;dsimp only at hF ai ⊢;have ad:jw l ⟨ix,c,f,t⟩ i=(decide (i+f.length<=l.length)&&decide ((l.drop i).take f.length=f)):=rfl;have V:=au ad;have KE:=au (fun (W:World) (h:Below w.heap.size w W)=>Ct (c:=lc-i) (d:=fc) (zY f.length (Lf (hL.below h) hi hc)) (hF.below h) (by rw[YU];omega) ff);have h1:=aH (aI.begin w) aO (fL L l.length lc R rn rc) 167;have h2:=aH h1 aQ (gS (ix:Nat) c F f.length fc (bs t)) 181;rw[YN] at h2;have OK:=au (show(aj (av (w.heap.size+1) (gS (ix:Nat) c F f.length fc (bs t)) 181) (aj (av w.heap.size (fL L l.length lc R rn rc) 167) aS)).Ok from ay aC aQ);have ag:=au (fun W O (h:aI fh w O W)=>(show Below w.heap.size w W from h.mod.below (fun _ _ h=>h)));have M:=au (fun W O v (h:aI fh w O W)=>(show aL w v (.returned v) W from⟨rfl,h.mod.below (fun _ _ h=>h)⟩));have p:i+f.length<=l.length->∀ W',(Instr.slice 26 (.slice L l.length lc) (some (.int .i64 (i:Int))) (some (.int .i64 ((i:Int)+(f.length:Int)))) none).run Tryz.prog W'=.ok (.slice (wZ L lc i 1) f.length (lc-i)) W':=fun h W'=>by
  have:=zX wK L l.length lc i (i+f.length) .i64 .i64 (i:Int) ((i:Int)+(f.length:Int)) rfl ff ff ff W';rw[this];congr 2;omega
 have p:=au p;have J:=au (show i+f.length<=l.length->((l.drop i).take f.length).length=f.length from fun h=>by rw[YU,Y8];omega);have H2:=au h2;obtain⟨b,hb⟩:∃ b,b=jw l ⟨ix,c,f,t⟩ i:=⟨_,rfl⟩;rw[<-hb] at V ⊢;clear h1 h2 ad hb hL hF;have ao:(i:Int)<=1000000:=by omega
 generalize f.length=fl at *
 generalize l.length=I at *
 go_enter Tryz.func127,Tryz.ntmps127
 go_wp2_with fail;generalize (w.alloc (.cells (fL L I lc R rn rc) 167)).alloc (.cells (gS (ix:Nat) c F fl fc (bs t)) 181)=w1 at *
 generalize w.heap.size+1=g2 at *
 generalize w.heap.size=g1 at *
 have aa:∀ W,aI fh w (aj (av g2 (gS (ix:Nat) c F fl fc (bs t)) 181) (aj (av g1 (fL L I lc R rn rc) 167) aS)) W->(fun W:World=>W.cell? ⟨g2,2,none⟩=some (.slice F fl fc)/\W.cell? ⟨g1,0,none⟩=some (.slice L I lc)) W:=fun W h=>by
  obtain⟨f1,ae⟩:=h.fst;obtain⟨f2,af⟩:=h.drop.fst;exact⟨aB ae rfl,aB af rfl⟩
 have ac:=au aa;clear aa;have H3:=au (H2.o.drew OK.o);have q:=ac.o _ H3.o;clear H2;have an:IntKind.i64.wrap ((i:Int)+(fl:Int))=(i:Int)+(fl:Int):=YZ _ ff;by_cases z:i+fl<=I
 ·have ak:decide ((i:Int)+(fl:Int)<=(I:Int))=true:=decide_eq_true ff;have al:=p.o z;have ab:=J.o z;have HB:=au (show b=decide ((l.drop i).take fl=f) from by rw[V.o,decide_eq_true z,ZI]);rw[ab] at KE;clear p J V ab;refine aK (fun W:World=>W.cell? ⟨g2,2,none⟩=some (.slice F fl fc)/\W.cell? ⟨g1,0,none⟩=some (.slice L I lc)) ft fi q ?_;clear q;generalize w1.drew=w2 at *
  (repeat(first|refine aW ?_|refine aX ?_))
  refine bY rfl ft (fun K hK=>?_);go_wp2_with fail;refine(KE.o _ (ag.o _ _ H3.o)).mono ?_;rintro e9 w3 ⟨rfl,hb⟩;have H4:=au (H3.o.below OK.o hb);clear KE H3 hb;dsimp only;refine hK.o _ _ (ac.o _ H4.o) ?_;clear hK
  (repeat(first|refine aW ?_|refine aX ?_))
  refine lex_nil ?_;rw[<-HB.o];go_wp2;go_ret;exact M.o _ _ _ H4.o
 ·have ak:decide ((i:Int)+(fl:Int)<=(I:Int))=false:=decide_eq_false ff;have HB:=au (show b=false from by rw[V.o,decide_eq_false z,k5]);clear p J V KE;refine aK (fun W:World=>W.cell? ⟨g2,2,none⟩=some (.slice F fl fc)/\W.cell? ⟨g1,0,none⟩=some (.slice L I lc)) ft fi q ?_;clear q;generalize w1.drew=w2 at *
  (repeat(first|refine aW ?_|refine aX ?_))
  refine lex_nil ?_;go_wp2;go_ret;rw[HB.o];exact M.o _ _ _ H3.o
structure WA where
 a:SA
 b:SA
def bD(W:Wd)(x:WA):Array Value:=(hJ x.a.L W.l.length x.a.lc x.a.R x.a.q.length x.a.rc x.b.L W.m.length x.b.lc x.b.R x.b.q.length x.b.rc)
structure Tc(W:Wd)(x:WA)(w:World):Prop where
 l:fM w x.a.L W.l
 m:fM w x.b.L W.m
 ra:Je w x.a.R x.a.q
 rb:Je w x.b.R x.b.q
 fa:∀ y ∈ x.a.q,fM w y.A y.r.f
 fb:∀ y ∈ x.b.q,fM w y.A y.r.f
variable{W:Wd}{w':World}
theorem Tc.below{x:WA}(h:Tc W x w)(hb:Below w.heap.size w w'):Tc W x w':=
 ⟨h.l.below hb,h.m.below hb,h.ra.below hb,h.rb.below hb,fun y hy=>(h.fa y hy).below hb,fun y hy=>(h.fb y hy).below hb⟩
structure Td(W:Wd)(x:WA):Prop where
 qa:x.a.q.map (·.r)=fK W.rs W.ka
 qb:x.b.q.map (·.r)=fK W.rs W.kb
 na:x.a.q.length<=1000000
 nb:x.b.q.length<=1000000
 la:W.l.length<=x.a.lc
 lb:W.m.length<=x.b.lc
 l6:W.l.length<=1000000
 m6:W.m.length<=1000000
 f6:∀ y ∈ x.a.q,y.r.f.length<=1000000/\y.r.t.length<=1000000
 g6:∀ y ∈ x.b.q,y.r.f.length<=1000000/\y.r.t.length<=1000000
def doneN(W:Wd)(s:St):Bool:=decide (s.i=W.l.length)&&(decide (s.j=W.m.length)&&decide (s.a=[]))
theorem FE{x:WA}{s:St}:Calls Tryz.prog 97 #[.agg (bD W x),.agg (gG s)] w (aL w (.bool (doneN W s))):=by
 have I:=aH (aI.begin w) aO (bD W x) 169;have J:=aH I aQ (gG s) 175;rw[YN] at J;have V:=au (fun W O v (h:aI fh w O W)=>(show aL w v (.returned v) W from⟨rfl,h.mod.below (fun _ _ h=>h)⟩));have H2:=au J;obtain⟨b,hb⟩:∃ b,b=doneN W s:=⟨_,rfl⟩;have HV:=au (show b=(decide (s.i=W.l.length)&&(decide (s.j=W.m.length)&&decide (s.a=[]))) from hb);rw[<-hb];clear I J hb;unfold bD gG;unfold bD gG at H2;obtain⟨si,sj,sa,sr⟩:=s;dsimp only at HV H2 ⊢;generalize W.l.length=n1 at *
 generalize W.m.length=n2 at *
 obtain⟨⟨L,lc,R,rc,q⟩,⟨M,mc,S,sc,p⟩⟩:=x;dsimp only at H2 ⊢;generalize q.length=qn at *
 generalize p.length=pn at *
 have z:=au (show sa≠[]->(bs sa).toList.isEmpty=false from fun h=>by rw[Zo];exact fun e=>h (dY.1 e));have F:=au (show sa=[]->(bs sa).toList.isEmpty=true from fun h=>by rw[Z9];exact dY.2 h);by_cases I:si=n1
 ·have t1:((si:Int)==(n1:Int))=true:=by simp[I]
  by_cases J:sj=n2
  ·have t2:((sj:Int)==(n2:Int))=true:=by simp[J]
   by_cases h3:sa=[]
   ·have t3:=F.o h3;have HB:=au (show b=true from by rw[HV.o];simp[I,J,h3]);clear I J h3 HV F z
    go_enter Tryz.func97,Tryz.ntmps97
    go_wp2;go_ret;rw[HB.o];exact V.o _ _ _ H2.o
   ·have t3:=z.o h3;have HB:=au (show b=false from by rw[HV.o];simp[h3]);clear I J h3 HV F z
    go_enter Tryz.func97,Tryz.ntmps97
    go_wp2;go_ret;rw[HB.o];exact V.o _ _ _ H2.o
  ·have t2:((sj:Int)==(n2:Int))=false:=by simp;omega
   have HB:=au (show b=false from by rw[HV.o];simp[J]);clear I J HV F z
   go_enter Tryz.func97,Tryz.ntmps97
   go_wp2;go_ret;rw[HB.o];exact V.o _ _ _ H2.o
 ·have t1:((si:Int)==(n1:Int))=false:=by simp;omega
  have HB:=au (show b=false from by rw[HV.o];simp[I]);clear I HV F z
  go_enter Tryz.func97,Tryz.ntmps97
  go_wp2;go_ret;rw[HB.o];exact V.o _ _ _ H2.o
theorem FH{w:World}:∀ {q:List RA} {F:Nat->Prop},jX q w F->∀ y ∈ q,fM w y.A y.r.f
 | [],_,_,y,hy=>by cases hy
 | x::q,F,⟨f1,f2,h1,h2,_,_⟩,y,hy=>by
  rcases List.mem_cons.1 hy with rfl|hy
  ·exact jm h1
  ·exact FH h2 y hy
variable{W:World}
theorem FI{s:SA}(h:gU l s w F):fM w s.L l/\l.length<=s.lc/\Je w s.R s.q/\∀ y ∈ s.q,fM w y.A y.r.f:=by
 obtain⟨f1,f2,h1,⟨f3,f4,h3,h4,-,-⟩,-,-⟩:=h;exact⟨jm h1,(zh h1.1).1,Wt h3,FH h4⟩
theorem wQ(T:fy)(k:Int)(x:Bs):(jY T k x).1=(iq k x).1:=by
 unfold jY iq;by_cases h:word k x=true
 ·rw[if_pos h,if_pos h]
 ·rw[if_neg h,if_neg h]
theorem xV(F:T.rs.length<=1000000)(I:∀ R ∈ T.rs,R.f.length<=1000000/\R.t.length<=1000000):(fK T.rs k).length<=1000000/\∀ r ∈ fK T.rs k,r.f.length<=1000000/\r.t.length<=1000000:=by
 unfold fK;refine⟨YQ (ZJ ..) (by rw[lx];exact F),fun r h=>?_⟩;obtain⟨⟨R,n⟩,z,p⟩:=List.mem_filterMap.1 h;have q:=DW _ _ z;unfold oF at p;dsimp only at p q;split at p
 ·split at p
  ·rename_i J;injection p with p
   subst p;exact⟨YQ (eH.1 J).2.2 ff,(I R q).2⟩
  ·cases p
 ·cases p
def zZ(w:World)(T:fy)(k:Int)(x:Bs)(k2:Int)(y:Bs)(e:Ending)(w':World):Prop:=
 ∃ wa:WA,e=.returned (.tuple #[.agg (bD (Ta T k x k2 y) wa),.bool (okW T k x k2 y)])/\Below w.heap.size w w'/\(okW T k x k2 y=true->Tc (Ta T k x k2 y) wa w'/\Td (Ta T k x k2 y) wa)
theorem P6{a:TA}{k2:Int}{x y:Bs}{M J:SA}{Y:CH.bq}(V:iR w T a)(p:M.q.map (·.r)=(jY T k x).2)(F:J.q.map (·.r)=(jY T k2 y).2)(h:aI fh w (aj (gU (jY T k x).1 M) (aj (gU (jY T k2 y).1 J) Y)) W)(b:Bool)(hb:okW T k x k2 y=b):
  zZ w T k x k2 y (.returned (.tuple #[.agg (bD (Ta T k x k2 y) ⟨M,J⟩),.bool b])) W:=by
 have I:Below w.heap.size w W:=h.mod.below (fun _ _ h=>h);refine⟨⟨M,J⟩,by rw[hb],I,fun ho=>?_⟩;obtain⟨ac,ad,-⟩:=gI.1 ho;obtain⟨f1,aa⟩:=h.fst;obtain⟨f2,ab⟩:=h.drop.fst;obtain⟨a1,a2,a3,a4⟩:=FI aa;obtain⟨b1,b2,b3,b4⟩:=FI ab;rw[wQ] at a1 a2 b1 b2;have e1:(jY T k x).2=fK T.rs k:=by unfold jY;rw[if_pos ac]
 have e2:(jY T k2 y).2=fK T.rs k2:=by unfold jY;rw[if_pos ad]
 rw[e1] at p;rw[e2] at F;have n1:=xV (k:=k) V.lr V.sr;have n2:=xV (k:=k2) V.lr V.sr;rw[<-p] at n1;rw[<-F] at n2;refine⟨⟨a1,b1,a3,b3,a4,b4⟩,⟨p,F,by simpa using n1.1,by simpa using n2.1,a2,b2,YQ (wN k x) ff,YQ (wN k2 y) ff,fun z hz=>?_,fun z hz=>?_⟩⟩
 ·exact n1.2 z.r (pS hz)
 ·exact n2.2 z.r (pS hz)
theorem FJ{a:TA}(hT:iR w T a)(hz:LZ w)(k:Int)(x:Bs)(k2:Int)(y:Bs)(hx:x.length<=1000000)(hy:y.length<=1000000):
  Calls Tryz.prog 95 #[eu T a,.int .i64 k,.string (bs x),.int .i64 k2,.string (bs y)] w (zZ w T k x k2 y):=by
 have HT:=au hT;have HZ:=au hz;have h1:aI fh w (aj (av w.heap.size (dh T a) 25) aS) _:=aH (aI.begin w) aO (dh T a) 25;have K1:=au (fun W (h:Below w.heap.size w W)=>zW (hT.below h) (hz.below h) k x hx);have K2:=au (fun W (h:Below w.heap.size w W)=>zW (hT.below h) (hz.below h) k2 y hy);have KV:=au (fun W (h:Below w.heap.size w W)=>pO (hT.below h) (hz.below h));have ag:=au (fun W O (h:aI fh w O W)=>(show Below w.heap.size w W from h.mod.below (fun _ _ h=>h)));have H1:=au h1;clear hT hz h1;unfold rY at K1 K2;unfold eu dh at K1 K2 KV ⊢;unfold dh at H1
 go_enter Tryz.func95,Tryz.ntmps95
 have H2:=au (show aI fh w (aj (av (w.heap.size+1) (hJ none 0 0 none 0 0 none 0 0 none 0 0) 169) (aj (av w.heap.size (ie T a) 25) aS)) _ from(by have h2:=aH H1.o aQ (hJ none 0 0 none 0 0 none 0 0 none 0 0) 169;rw[YN] at h2;exact h2));go_upto_region 1 with (fail);clear H1;generalize az:(w.alloc (.cells (ie T a) 25)).alloc (.cells (hJ none 0 0 none 0 0 none 0 0 none 0 0) 169)=w1 at *
 clear az;generalize w.heap.size+1=gr at *
 generalize w.heap.size=gt at H2 ⊢;have ae:=au (show(aj (av gr (hJ none 0 0 none 0 0 none 0 0 none 0 0) 169) (aj (av gt (ie T a) 25) aS)).Ok from ay aC aQ);have ao:∀ (W:World) (X:CH.bq),aI fh w (aj (av gt (ie T a) 25) X) W->(iz W gt (.slice a.A T.rs.length a.c) (.slice a.D T.ds.length a.d) (.slice a.E T.es.length a.e) (.int .i64 T.drop) (.int .i64 T.ord) (.int .i64 T.ini)):=fun W X h=>by
  obtain⟨f,hf⟩:=h.fst;exact⟨aB hf rfl,aB hf rfl,aB hf rfl,aB hf rfl,aB hf rfl,aB hf rfl⟩
 have am:=au ao;clear ao;obtain⟨c0,c1,c2,c3,c4,c5⟩:=am.o _ _ H2.o.drop;go_wp2_with fail;refine(K1.o _ (ag.o _ _ H2.o)).mono ?_;rintro e9 w2 ⟨s1,rfl,hq1,hp⟩;have ax:=au hq1;have H3:=au (H2.o.fresh ae.o hp);clear K1 H2 hp hq1 c0 c1 c2 c3 c4 c5;obtain⟨p,al⟩:∃ l,l=(jY T k x).1:=⟨_,rfl⟩;have aw:=au al;rw[<-al] at H3 ⊢;clear al;unfold Fy;dsimp only;have H4:=au (aH H3.o (ay pQ ae.o) (fL s1.L p.length s1.lc s1.R s1.q.length s1.rc) 167);clear H3;go_upto_region 2 with (fail);generalize w2.alloc (.cells (fL s1.L p.length s1.lc s1.R s1.q.length s1.rc) 167)=w3 at *
 generalize w2.heap.size=V at *
 obtain⟨c0,c1,c2,c3,c4,c5⟩:=am.o _ _ H4.o.drop.drop.drop;go_wp2_with fail;refine(K2.o _ (ag.o _ _ H4.o)).mono ?_;rintro e9 w4 ⟨s2,rfl,hq2,hp⟩;have aA:=au hq2;have H5:=au (H4.o.fresh (ay aC (ay pQ ae.o)) hp);clear K2 H4 hp hq2 c0 c1 c2 c3 c4 c5;obtain⟨z,ak⟩:∃ l,l=(jY T k2 y).1:=⟨_,rfl⟩;have aq:=au ak;rw[<-ak] at H5 ⊢;clear ak;unfold Fy;dsimp only;have H6:=au (aH H5.o (ay pQ (ay aC (ay pQ ae.o))) (fL s2.L z.length s2.lc s2.R s2.q.length s2.rc) 167);clear H5;go_upto_region 3 with (fail);generalize w4.alloc (.cells (fL s2.L z.length s2.lc s2.R s2.q.length s2.rc) 167)=w5 at *
 generalize w4.heap.size=M at *
 have ab:=au (fun (W:World) (b:Bool) (hb:okW T k x k2 y=b) (Y:CH.bq) (h:aI fh w (aj (gU p s1) (aj (gU z s2) Y)) W)=>P6 (a:=a) HT.o ax.o aA.o (by rw[<-aw.o,<-aq.o];exact h) b hb);have ar:bD (Ta T k x k2 y) ⟨s1,s2⟩=(hJ s1.L p.length s1.lc s1.R s1.q.length s1.rc s2.L z.length s2.lc s2.R s2.q.length s2.rc):=by
  have e1:=aw.o.trans (wQ T k x);have e2:=aq.o.trans (wQ T k2 y);unfold bD Ta;rw[e1,e2]
 have ac:=au (show ∀ (W:World) (r:Array Value) (b:Bool),okW T k x k2 y=b->aI fh w (aj (av gr r 169) (aj (av M (fL s2.L z.length s2.lc s2.R s2.q.length s2.rc) 167) (aj (av V (fL s1.L p.length s1.lc s1.R s1.q.length s1.rc) 167) (aj (av gt (ie T a) 25) (aj (gU p s1) (gU z s2)))))) W->zZ w T k x k2 y (.returned (.tuple #[.agg (hJ s1.L p.length s1.lc s1.R s1.q.length s1.rc s2.L z.length s2.lc s2.R s2.q.length s2.rc),.bool b])) W from fun W r b hb h=>by
  rw[<-ar];exact ab.o W b hb _ (h.perm (by ac_rfl:_=aj (gU p s1) (aj (gU z s2) (aj (av gr r 169) (aj (av M (fL s2.L z.length s2.lc s2.R s2.q.length s2.rc) 167) (aj (av V (fL s1.L p.length s1.lc s1.R s1.q.length s1.rc) 167) (av gt (ie T a) 25)))))))
 )
 clear ar ab;have F:=au (show(aj (av M (fL s2.L z.length s2.lc s2.R s2.q.length s2.rc) 167) (aj (av V (fL s1.L p.length s1.lc s1.R s1.q.length s1.rc) 167) (aj (av gt (ie T a) 25) (aj (gU p s1) (gU z s2))))).Ok from ay aC aQ);have ap:∀ (W:World) (r:Array Value),aI fh w (aj (av gr r 169) (aj (av M (fL s2.L z.length s2.lc s2.R s2.q.length s2.rc) 167) (aj (av V (fL s1.L p.length s1.lc s1.R s1.q.length s1.rc) 167) (aj (av gt (ie T a) 25) (aj (gU p s1) (gU z s2)))))) W->(fun w':World=>w'.cell? ⟨V,0,none⟩=some (.slice s1.L p.length s1.lc)/\w'.cell? ⟨V,1,none⟩=some (.slice s1.R s1.q.length s1.rc)/\w'.cell? ⟨M,0,none⟩=some (.slice s2.L z.length s2.lc)/\w'.cell? ⟨M,1,none⟩=some (.slice s2.R s2.q.length s2.rc)/\(iz w' gt (.slice a.A T.rs.length a.c) (.slice a.D T.ds.length a.d) (.slice a.E T.es.length a.e) (.int .i64 T.drop) (.int .i64 T.ord) (.int .i64 T.ini))) W:=fun W r h=>by
  obtain⟨f1,h1⟩:=h.drop.fst;obtain⟨f2,h2⟩:=h.drop.drop.fst;obtain⟨f3,h3⟩:=h.drop.drop.drop.fst;exact⟨aB h2 rfl,aB h2 rfl,aB h1 rfl,aB h1 rfl,aB h3 rfl,aB h3 rfl,aB h3 rfl,aB h3 rfl,aB h3 rfl,aB h3 rfl⟩
 have ad:=au ap;clear ap;have H7:=au ((H6.o.perm (by rw[kS];ac_rfl:_=(aj (av gr (hJ none 0 0 none 0 0 none 0 0 none 0 0) 169) (aj (av M (fL s2.L z.length s2.lc s2.R s2.q.length s2.rc) 167) (aj (av V (fL s1.L p.length s1.lc s1.R s1.q.length s1.rc) 167) (aj (av gt (ie T a) 25) (aj (gU p s1) (gU z s2)))))))).drew (ay aC F.o));have aa:=ad.o _ _ H7.o;clear H6;cases ai:word k x with
 | false=>
  refine aK (fun w':World=>w'.cell? ⟨V,0,none⟩=some (.slice s1.L p.length s1.lc)/\w'.cell? ⟨V,1,none⟩=some (.slice s1.R s1.q.length s1.rc)/\w'.cell? ⟨M,0,none⟩=some (.slice s2.L z.length s2.lc)/\w'.cell? ⟨M,1,none⟩=some (.slice s2.R s2.q.length s2.rc)/\(iz w' gt (.slice a.A T.rs.length a.c) (.slice a.D T.ds.length a.d) (.slice a.E T.es.length a.e) (.int .i64 T.drop) (.int .i64 T.ord) (.int .i64 T.ini))) ft fi aa ?_;clear aa;generalize w5.drew=w6 at *
  obtain⟨r0,r1,r2,r3,rf⟩:=aY H7.o
  (repeat(first|refine aW ?_|refine aX ?_))
  refine bY rfl ft (fun K hK=>?_);go_wp2_with fail
  have H8:=au (aJ (aJ (aJ (aJ (H7.o) F.o 0 (.slice s1.L p.length s1.lc)) F.o 1 (.slice s1.R s1.q.length s1.rc)) F.o 2 (.slice s2.L z.length s2.lc)) F.o 3 (.slice s2.R s2.q.length s2.rc):aI fh w (aj (av gr (hJ s1.L p.length s1.lc s1.R s1.q.length s1.rc s2.L z.length s2.lc s2.R s2.q.length s2.rc) 169) (aj (av M (fL s2.L z.length s2.lc s2.R s2.q.length s2.rc) 167) (aj (av V (fL s1.L p.length s1.lc s1.R s1.q.length s1.rc) 167) (aj (av gt (ie T a) 25) (aj (gU p s1) (gU z s2)))))) _);clear H7 r0 r1 r2 r3 rf;generalize ((((w6.setCell ⟨gr,0,none⟩ (.slice s1.L p.length s1.lc)).setCell ⟨gr,1,none⟩ (.slice s1.R s1.q.length s1.rc)).setCell ⟨gr,2,none⟩ (.slice s2.L z.length s2.lc)).setCell ⟨gr,3,none⟩ (.slice s2.R s2.q.length s2.rc))=w9 at *
  refine hK.o _ _ (ad.o _ _ H8.o) ?_;clear hK
  (repeat(first|refine aW ?_|refine aX ?_))
  refine lex_nil ?_;obtain⟨fr,J⟩:=H8.o.fst;have I:=J.1;clear J;go_wp2_with fail;refine bodyPost_ret (dH rfl _ _ gr 169 (hJ s1.L p.length s1.lc s1.R s1.q.length s1.rc s2.L z.length s2.lc s2.R s2.q.length s2.rc) (0,0) rfl I Tryz.underlying169 fi) rfl ?_;clear I;exact ac.o _ _ _ (by unfold okW;rw[ai];rfl) H8.o
 | true=>
  cases an:word k2 y with
  | false=>
   refine aK (fun w':World=>w'.cell? ⟨V,0,none⟩=some (.slice s1.L p.length s1.lc)/\w'.cell? ⟨V,1,none⟩=some (.slice s1.R s1.q.length s1.rc)/\w'.cell? ⟨M,0,none⟩=some (.slice s2.L z.length s2.lc)/\w'.cell? ⟨M,1,none⟩=some (.slice s2.R s2.q.length s2.rc)/\(iz w' gt (.slice a.A T.rs.length a.c) (.slice a.D T.ds.length a.d) (.slice a.E T.es.length a.e) (.int .i64 T.drop) (.int .i64 T.ord) (.int .i64 T.ini))) ft fi aa ?_;clear aa;generalize w5.drew=w6 at *
   obtain⟨r0,r1,r2,r3,rf⟩:=aY H7.o
   (repeat(first|refine aW ?_|refine aX ?_))
   refine bY rfl ft (fun K hK=>?_);go_wp2_with fail
   have H8:=au (aJ (aJ (aJ (aJ (H7.o) F.o 0 (.slice s1.L p.length s1.lc)) F.o 1 (.slice s1.R s1.q.length s1.rc)) F.o 2 (.slice s2.L z.length s2.lc)) F.o 3 (.slice s2.R s2.q.length s2.rc):aI fh w (aj (av gr (hJ s1.L p.length s1.lc s1.R s1.q.length s1.rc s2.L z.length s2.lc s2.R s2.q.length s2.rc) 169) (aj (av M (fL s2.L z.length s2.lc s2.R s2.q.length s2.rc) 167) (aj (av V (fL s1.L p.length s1.lc s1.R s1.q.length s1.rc) 167) (aj (av gt (ie T a) 25) (aj (gU p s1) (gU z s2)))))) _);clear H7 r0 r1 r2 r3 rf;generalize ((((w6.setCell ⟨gr,0,none⟩ (.slice s1.L p.length s1.lc)).setCell ⟨gr,1,none⟩ (.slice s1.R s1.q.length s1.rc)).setCell ⟨gr,2,none⟩ (.slice s2.L z.length s2.lc)).setCell ⟨gr,3,none⟩ (.slice s2.R s2.q.length s2.rc))=w9 at *
   refine hK.o _ _ (ad.o _ _ H8.o) ?_;clear hK
   (repeat(first|refine aW ?_|refine aX ?_))
   refine lex_nil ?_;obtain⟨fr,J⟩:=H8.o.fst;have I:=J.1;clear J;go_wp2_with fail;refine bodyPost_ret (dH rfl _ _ gr 169 (hJ s1.L p.length s1.lc s1.R s1.q.length s1.rc s2.L z.length s2.lc s2.R s2.q.length s2.rc) (0,0) rfl I Tryz.underlying169 fi) rfl ?_;clear I;exact ac.o _ _ _ (by unfold okW;rw[ai,an];rfl) H8.o
  | true=>
   refine aK (fun w':World=>w'.cell? ⟨V,0,none⟩=some (.slice s1.L p.length s1.lc)/\w'.cell? ⟨V,1,none⟩=some (.slice s1.R s1.q.length s1.rc)/\w'.cell? ⟨M,0,none⟩=some (.slice s2.L z.length s2.lc)/\w'.cell? ⟨M,1,none⟩=some (.slice s2.R s2.q.length s2.rc)/\(iz w' gt (.slice a.A T.rs.length a.c) (.slice a.D T.ds.length a.d) (.slice a.E T.es.length a.e) (.int .i64 T.drop) (.int .i64 T.ord) (.int .i64 T.ini))) ft fi aa ?_;clear aa;generalize w5.drew=w6 at *
   obtain⟨r0,r1,r2,r3,rf⟩:=aY H7.o
   (repeat(first|refine aW ?_|refine aX ?_))
   refine bY rfl ft (fun K hK=>?_);go_wp2_with fail
   refine(KV.o _ (ag.o _ _ H7.o)).mono ?_;rintro e9 w7 ⟨rfl,hb⟩;have af:=au (H7.o.below (ay aC F.o) hb);clear KV H7 hb r0 r1 r2 r3 rf;dsimp only;refine hK.o _ _ (ad.o _ _ af.o) ?_;clear hK;obtain⟨r0,r1,r2,r3,rf⟩:=aY af.o
   (repeat(first|refine aW ?_|refine aX ?_))
   refine bY rfl ft (fun K hK=>?_);go_wp2_with fail
   have H8:=au (aJ (aJ (aJ (aJ (af.o) F.o 0 (.slice s1.L p.length s1.lc)) F.o 1 (.slice s1.R s1.q.length s1.rc)) F.o 2 (.slice s2.L z.length s2.lc)) F.o 3 (.slice s2.R s2.q.length s2.rc):aI fh w (aj (av gr (hJ s1.L p.length s1.lc s1.R s1.q.length s1.rc s2.L z.length s2.lc s2.R s2.q.length s2.rc) 169) (aj (av M (fL s2.L z.length s2.lc s2.R s2.q.length s2.rc) 167) (aj (av V (fL s1.L p.length s1.lc s1.R s1.q.length s1.rc) 167) (aj (av gt (ie T a) 25) (aj (gU p s1) (gU z s2)))))) _);clear af r0 r1 r2 r3 rf;generalize ((((w7.setCell ⟨gr,0,none⟩ (.slice s1.L p.length s1.lc)).setCell ⟨gr,1,none⟩ (.slice s1.R s1.q.length s1.rc)).setCell ⟨gr,2,none⟩ (.slice s2.L z.length s2.lc)).setCell ⟨gr,3,none⟩ (.slice s2.R s2.q.length s2.rc))=w9 at *
   refine hK.o _ _ (ad.o _ _ H8.o) ?_;clear hK
   (repeat(first|refine aW ?_|refine aX ?_))
   refine lex_nil ?_;obtain⟨fr,J⟩:=H8.o.fst;have I:=J.1;clear J;go_wp2_with fail;refine bodyPost_ret (dH rfl _ _ gr 169 (hJ s1.L p.length s1.lc s1.R s1.q.length s1.rc s2.L z.length s2.lc s2.R s2.q.length s2.rc) (0,0) rfl I Tryz.underlying169 fi) rfl ?_;clear I;exact ac.o _ _ _ (by unfold okW;rw[ai,an];rfl) H8.o
def Zw(W:Wd)(x:WA)(s:St)(b1 b2:Nat):CH.bq:=aj (av b1 (gG s) 175) (av b2 (bD W x) 169)
variable{W:Wd}{s:St}{p:RA × St}
theorem lN{x:WA}{b1 b2:Nat}:(Zw W x s b1 b2).Ok:=ay aC aC
instance {W:Wd} {x:WA} {s:St} {b1 b2:Nat}:(Zw W x s b1 b2).Ok:=lN
def Jf(p:RA × St):Array Value:=#[.agg (cu p.1).toArray,.agg (gG p.2)]
def WA.at(x:WA)(lf:Bool):SA:=if lf then x.a else x.b
def j8(W:Wd)(lf:Bool):List Bs:=if lf then W.l else W.m
def kA(s:St)(lf:Bool):Nat:=if lf then s.i else s.j
def uU(W:Wd)(s:St)(y:RA):Option (RA × St):=(W.uM s y.r).map fun p=>(y,p.2)
def dx(W:Wd)(x:WA)(s:St):List (RA × St):=(x.at (W.left s)).q.filterMap (uU W s)
def jH(W:Wd)(x:WA)(s:St)(k:Nat):List (RA × St):=((x.at (W.left s)).q.take k).filterMap (uU W s)
theorem FK{x:WA}(h:Td W x):(dx W x s).map (fun p=>(p.1.r,p.2))=W.cK s:=by
 have e:(x.at (W.left s)).q.map (·.r)=fK W.rs (if W.left s then W.ka else W.kb):=by
  unfold WA.at;cases W.left s
  ·exact h.qb
  ·exact h.qa
 unfold dx Wd.cK;rw[<-e,List.map_filterMap,List.filterMap_map];refine zP _ fun y _=>?_;unfold uU
 show Option.map _ (Option.map _ (W.uM s y.r))=W.uM s y.r
 rw[kp];unfold Wd.uM;by_cases h:jw (if W.left s then W.l else W.m) y.r (if W.left s then s.i else s.j)=true
 ·rw[if_pos h,kp];rfl
 ·rw[if_neg h];rfl
section
variable{W:Wd}{x:WA}{s:St}{k:Nat}
theorem P7:jH W x s (x.at (W.left s)).q.length=dx W x s:=by unfold jH dx;rw[YO]
theorem Cu(hk:k<(x.at (W.left s)).q.length)(h:uU W s (x.at (W.left s)).q[k]=none):jH W x s (k+1)=jH W x s k:=by
 unfold jH;rw[YD hk,Zh];simp[h]
theorem Nr(hk:k<(x.at (W.left s)).q.length)(h:uU W s (x.at (W.left s)).q[k]=some p):jH W x s (k+1)=jH W x s k++[p]:=by
 unfold jH;rw[YD hk,Zh];simp[h]
theorem Ug(z:k<(x.at (W.left s)).q.length)(h:uU W s (x.at (W.left s)).q[k]=some p):∃ hi:(jH W x s k).length<(dx W x s).length,(dx W x s)[(jH W x s k).length]=p:=by
 have e:dx W x s=jH W x s k++p::((x.at (W.left s)).q.drop (k+1)).filterMap (uU W s):=by
  unfold dx jH
  conv=>lhs;rw[<-ZK k (x.at (W.left s)).q,Y7 z,Zh,mB h]
 refine⟨by rw[e];simp,?_⟩;simp only[e];rw[rI (YG _)];simp
end
def P8(s:St)(lf:Bool)(n:Nat)(z:Bs × Bool):St:=if lf then ⟨s.i+n,s.j,z.1,z.2⟩ else ⟨s.i,s.j+n,z.1,z.2⟩
section
variable{W:Wd}{s:St}{y:RA}
theorem Jg(h:jw (j8 W (W.left s)) y.r (kA s (W.left s))=false):uU W s y=none:=by
 unfold uU Wd.uM;unfold j8 kA at h;rw[if_neg (by rw[h];decide)];rfl
theorem Ns(h:W.xU s y.r.t=none):uU W s y=none:=by
 unfold uU Wd.uM;rw[h];by_cases h:jw (if W.left s then W.l else W.m) y.r (if W.left s then s.i else s.j)=true
 ·rw[if_pos h];rfl
 ·rw[if_neg h];rfl
theorem P9(h:jw (j8 W (W.left s)) y.r (kA s (W.left s))=true){z:Bs × Bool}(hz:W.xU s y.r.t=some z):uU W s y=some (y,P8 s (W.left s) y.r.f.length z):=by
 unfold uU Wd.uM P8;unfold j8 kA at h;rw[if_pos h,hz];rfl
theorem Ll{q:Bs}(h1:q.isPrefixOf s.a=true):W.xU s q=some (s.a.drop q.length,s.r&&decide (s.a.drop q.length≠[])):=by unfold Wd.xU;rw[if_pos h1]
theorem Lm{q:Bs}(h1:¬ q.isPrefixOf s.a=true)(h2:s.a.isPrefixOf q=true):W.xU s q=some (q.drop s.a.length,!W.left s):=by unfold Wd.xU;rw[if_neg h1,if_pos h2]
theorem Lp{q:Bs}(h1:¬ q.isPrefixOf s.a=true)(h2:¬ s.a.isPrefixOf q=true):W.xU s q=none:=by unfold Wd.xU;rw[if_neg h1,if_neg h2]
end
attribute [local go_sem] Zi
def Xu(b1 b2:Nat):Value:=.func (.func 126) #[] (ln (some ⟨b1,0,none⟩) (some ⟨b2,0,none⟩))
theorem Aa{W:Wd}{x:WA}{s:St}(w:World):
  Calls Tryz.prog 98 #[.agg (bD W x),.agg (gG s)] w fun e w'=>∃ b1 b2,e=.returned (Xu b1 b2)/\bS w fh (Zw W x s b1 b2) w':=by
 have q:bS w fh (Zw W x s (w.heap.size+1) w.heap.size) ((w.alloc (.cells (bD W x) 169)).alloc (.cells (gG s) 175)):=by
  have F:=(aI.begin w).fresh aO (fG w (bD W x) 169);have p:=F.fresh aQ (fG _ (gG s) 175);rw[YN] at p;have z:aI fh w (aj (Zw W x s (w.heap.size+1) w.heap.size) aS) _:=p.perm (by unfold Zw;ac_rfl);exact(z.swap.drop).post lN
 have h:=au q;clear q;unfold bD gG;unfold bD gG at h
 go_enter Tryz.func98,Tryz.ntmps98
 go_wp2;go_ret;exact⟨_,_,rfl,h.o⟩
theorem Nv(s:St):tJ Tryz.prog [⟨"i",3,0,false, "", "customhouse/align",0⟩,⟨"j",3,1,false, "", "customhouse/align",8⟩,⟨"ahead",9,2,false, "", "customhouse/align",16⟩,⟨"right",4,3,false, "", "customhouse/align",32⟩] (gG s):=by
 intro f h;simp only[YV,sx,or_false] at h;rcases h with rfl|rfl|rfl|rfl
 ·exact⟨by decide,_,rfl,.int Tryz.underlying3 _⟩
 ·exact⟨by decide,_,rfl,.int Tryz.underlying3 _⟩
 ·exact⟨by decide,_,rfl,.str Tryz.underlying9 _⟩
 ·exact⟨by decide,_,rfl,.bool Tryz.underlying4 _⟩
theorem Qd(a b:St):mI [⟨"i",3,0,false, "", "customhouse/align",0⟩,⟨"j",3,1,false, "", "customhouse/align",8⟩,⟨"ahead",9,2,false, "", "customhouse/align",16⟩,⟨"right",4,3,false, "", "customhouse/align",32⟩] (gG a) (gG b)=decide (a=b):=(rfl:_=mI [⟨"i",3,0,false, "", "customhouse/potential",0⟩,⟨"j",3,1,false, "", "customhouse/potential",8⟩,⟨"ahead",9,2,false, "", "customhouse/potential",16⟩,⟨"right",4,3,false, "", "customhouse/potential",32⟩] (gG a) (gG b)).trans (Ub a b)
theorem wR:nJ Tryz.prog 175 VD:=by
 refine pV (cs:=gG) Tryz.underlying175 fi Nv Qd (fun a=>?_);simp[gG,Instr.sameBits,tZ]
variable{b bm bw bf:Nat}
theorem FN{L:List (St × Int)}(h:lM b L w F)(s:St)(ok:Bool):
  (Instr.lookup 172 (.map (some b)) (.agg (gl s.i s.j (bs s.a) s.r)) ok).run Tryz.prog w=.ok (if ok then .tuple #[(ny (L.map fun p=>(p.1,Value.int .i64 p.2)) s).getD (.int .i64 0),.bool (ny (L.map fun p=>(p.1,Value.int .i64 p.2)) s).isSome] else(ny (L.map fun p=>(p.1,Value.int .i64 p.2)) s).getD (.int .i64 0)) w:=by
 obtain⟨⟨es,q,I,z⟩,J⟩:=h;cases ok
 ·exact uq wR Tryz.underlying172 Tryz.zeroValue3 z s w I
 ·exact nS wR Tryz.underlying172 Tryz.zeroValue3 z s w I
theorem FP(F:W.ok s):doneN W s=decide (s=W.fin):=by
 obtain⟨i,j,a,r⟩:=s;have p:=F.2.2;unfold doneN Wd.fin;simp only at p ⊢;by_cases q:i=W.l.length
 ·by_cases z:j=W.m.length
  ·by_cases h:a=[]
   ·cases r with
    | false=>simp[q,z,h]
    | true=>exact absurd h (p rfl)
   ·simp[h]
  ·simp[z]
 ·simp[q]
def Uh(bm bw bf:Nat):Value:=.func (.func 125) #[] (mr (some ⟨bm,0,none⟩) (some ⟨bw,0,none⟩) (some ⟨bf,0,none⟩))
def yV(W:Wd)(x:WA)(b bm bw bf:Nat):CH.bq:=aj (av bm #[.map (some b)] 172) (aj (av bw (bD W x) 169) (av bf #[Uh bm bw bf] 213))
theorem uh{x:WA}:(yV W x b bm bw bf).Ok:=ay aC (ay aC aC)
instance {W:Wd} {x:WA} {b bm bw bf:Nat}:(yV W x b bm bw bf).Ok:=uh
def Lr(W:Wd)(x:WA)(s:St)(L:List (St × Int))(F0:Nat->Prop)(w0:World)(b bm bw bf:Nat)(X:CH.bq)(e:Ending)(w':World):Prop:=
 ∃ L',e=.returned (.int .i64 (W.fS s))/\Kn W L'/\Ext W s L L'/\s ∈ fU L'/\aI F0 w0 (aj (lM b L') (aj (yV W x b bm bw bf) X)) w'
def Ji(W:Wd)(x:WA):Prop:=∀ s,W.ok s->(dx W x s).map (fun p=>(p.1.r.c,p.2))=W.moves s
theorem FU{x:WA}(h:Ji W x)(hs:W.ok s):(W.moves s).length=(dx W x s).length:=by rw[<-h s hs,YI]
theorem Ui{x:WA}(h:Ji W x)(hs:W.ok s)(hi:i<(dx W x s).length)(hi2:i<(W.moves s).length):(W.moves s)[i]=((dx W x s)[i].1.r.c,(dx W x s)[i].2):=by
 have e:(W.moves s)[i]?=some ((dx W x s)[i].1.r.c,(dx W x s)[i].2):=by rw[<-h s hs,Y6,YH hi];rfl
 rw[YH hi2] at e;injection e
theorem l7{x:WA}(h:aI F0 w0 (aj (yV W x b bm bw bf) X) w):
  w.cell? ⟨bm,0,none⟩=some (.map (some b))/\w.cell? ⟨bf,0,none⟩=some (Uh bm bw bf)/\(i6 w bw (.slice x.a.L W.l.length x.a.lc) (.slice x.a.R x.a.q.length x.a.rc) (.slice x.b.L W.m.length x.b.lc) (.slice x.b.R x.b.q.length x.b.rc)):=by
 obtain⟨F,I⟩:=(h.perm (by unfold yV;ac_rfl:_=aj (av bm #[.map (some b)] 172) (aj (av bw (bD W x) 169) (aj (av bf #[Uh bm bw bf] 213) X)))).fst;obtain⟨J,p⟩:=(h.perm (by unfold yV;ac_rfl:_=aj (av bw (bD W x) 169) (aj (av bm #[.map (some b)] 172) (aj (av bf #[Uh bm bw bf] 213) X)))).fst;obtain⟨M,z⟩:=(h.perm (by unfold yV;ac_rfl:_=aj (av bf #[Uh bm bw bf] 213) (aj (av bm #[.map (some b)] 172) (aj (av bw (bD W x) 169) X)))).fst;exact⟨aB I rfl,aB z rfl,aB p rfl,aB p rfl,aB p rfl,aB p rfl⟩
variable{b1 b2:Nat}{z:Bs × Bool}
theorem uV{x:WA}(h:aI F0 w0 (aj (Zw W x s b1 b2) X) w):
  (i6 w b1 (.int .i64 s.i) (.int .i64 s.j) (.string (bs s.a)) (.bool s.r)) /\
  (i6 w b2 (.slice x.a.L W.l.length x.a.lc) (.slice x.a.R x.a.q.length x.a.rc) (.slice x.b.L W.m.length x.b.lc) (.slice x.b.R x.b.q.length x.b.rc)):=by
 obtain⟨F,z⟩:=(h.assoc).fst;obtain⟨I,p⟩:=(h.assoc.oM).fst;exact⟨⟨aB z rfl,aB z rfl,aB z rfl,aB z rfl⟩,aB p rfl,aB p rfl,aB p rfl,aB p rfl⟩
theorem Tc.at{x:WA}(h:Tc W x w)(lf:Bool):fM w (x.at lf).L (j8 W lf)/\Je w (x.at lf).R (x.at lf).q/\∀ y ∈ (x.at lf).q,fM w y.A y.r.f:=by
 cases lf
 ·exact⟨h.m,h.rb,h.fb⟩
 ·exact⟨h.l,h.ra,h.fa⟩
theorem Td.at{x:WA}(h:Td W x)(lf:Bool):(x.at lf).q.length<=1000000/\(j8 W lf).length<=(x.at lf).lc/\(j8 W lf).length<=1000000/\∀ y ∈ (x.at lf).q,y.r.f.length<=1000000/\y.r.t.length<=1000000:=by
 cases lf
 ·exact⟨h.nb,h.lb,h.m6,h.g6⟩
 ·exact⟨h.na,h.la,h.l6,h.f6⟩
theorem XH(h:W.ok s)(lf:Bool):kA s lf<=(j8 W lf).length:=by
 cases lf
 ·exact h.2.1
 ·exact h.1
def iN(s:St)(lf:Bool)(n:Nat):Nat:=if lf then s.i+n else s.i
def jN(s:St)(lf:Bool)(n:Nat):Nat:=if lf then s.j else s.j+n
theorem Qa{lf:Bool}:P8 s lf n z=⟨iN s lf n,jN s lf n,z.1,z.2⟩:=by cases lf<;>rfl
section
variable{W:Wd}{x:WA}{s:St}{lf:Bool}{k:Nat}
theorem Jh(hl:W.left s=lf)(hk:k<(x.at lf).q.length)(h:jw (j8 W lf) (x.at lf).q[k].r (kA s lf)=false):jH W x s (k+1)=jH W x s k:=by
 subst hl;exact Cu hk (Jg h)
theorem Nt(hl:W.left s=lf)(hk:k<(x.at lf).q.length)(h:W.xU s (x.at lf).q[k].r.t=none):jH W x s (k+1)=jH W x s k:=by
 subst hl;exact Cu hk (Ns h)
theorem Qb(J:W.left s=lf)(F:k<(x.at lf).q.length)(h:jw (j8 W lf) (x.at lf).q[k].r (kA s lf)=true)(I:W.xU s (x.at lf).q[k].r.t=some z):
  jH W x s (k+1)=jH W x s k++[((x.at lf).q[k],⟨iN s lf (x.at lf).q[k].r.f.length,jN s lf (x.at lf).q[k].r.f.length,z.1,z.2⟩)]/\∃ hi:(jH W x s k).length<(dx W x s).length,(dx W x s)[(jH W x s k).length]=((x.at lf).q[k],⟨iN s lf (x.at lf).q[k].r.f.length,jN s lf (x.at lf).q[k].r.f.length,z.1,z.2⟩):=by
 subst J;have p:=P9 h I;rw[Qa] at p;exact⟨Nr F p,Ug F p⟩
theorem Nu(hl:W.left s=lf):jH W x s (x.at lf).q.length=dx W x s:=by subst hl;exact P7
end
theorem xW{x:WA}(hs:W.ok s)(hW:Td W x)(ha:s.a.length<=1000000):
  QX Tryz.prog 126 #[.pointer (some ⟨b1,0,none⟩),.pointer (some ⟨b2,0,none⟩)] (Tc W x) (Zw W x s b1 b2) Jf (dx W x s):=by
 intro n lo w F0 w0 X Y ae b3 hE h0 hY;have HY:=au hY;have HE:=au hE;have HS:=au hs;have HW:=au hW;have H0:=au h0;clear hY hE hs hW;refine callsIn_of_wp Tryz.func126 rfl trivial ?_ rfl;simp only[Tryz.ntmps126,kz,YR,Zz,Nat.reduceAdd,Nat.reduceSub,ZN,ZO,kB,ZX,Z8,Zq];obtain⟨⟨c1,c2,c3,c4⟩,d0,d1,d2,d3⟩:=uV h0;clear h0;refine wpIn_seq_k ?_;intro K0 aw;have cut:∀ (lf:Bool) (g14 g15 g16 g17 g18 g19 g20 g21 g22 g23 g24 g25 g26 g27 g28 g29:Value),W.left s=lf->K0 { tmps:=#[.func (.yield lo) #[] #[],.pointer (some ⟨b1,0,none⟩),.pointer (some ⟨b2,0,none⟩),undef,.bool lf,undef,undef,undef,undef,undef,undef,undef,undef,undef,g14,g15,g16,g17,g18,g19,g20,g21,g22,g23,g24,g25,g26,g27,g28,g29,undef,undef,undef,undef,undef,undef,undef,undef,undef,undef,undef,undef,undef,undef,undef,undef,undef,undef,undef,undef,undef,undef,undef,undef,undef,undef,undef,undef,undef,undef,undef,undef,undef,undef,undef,undef,undef,undef,undef,undef,undef,undef,undef,undef,undef,undef,undef,undef,undef,undef,undef,undef,undef,undef,undef,undef,undef,undef,undef,undef,undef,undef,undef,undef,undef,undef,undef,undef,undef,undef,undef,undef,undef,undef,undef,undef,undef,undef,undef],defers:=[] } w:=by
  intro lf g14 g15 g16 g17 g18 g19 g20 g21 g22 g23 g24 g25 g26 g27 g28 g29 bx;have HL:=au bx;refine aw _ _ ?_;clear aw K0;have a6:∀ W',aI F0 w0 (aj (Zw W x s b1 b2) (X 0)) W'->(fun w:World=>w.cell? ⟨b1,0,none⟩=some (.int .i64 s.i)/\w.cell? ⟨b1,1,none⟩=some (.int .i64 s.j)/\(i6 w b2 (.slice x.a.L W.l.length x.a.lc) (.slice x.a.R x.a.q.length x.a.rc) (.slice x.b.L W.m.length x.b.lc) (.slice x.b.R x.b.q.length x.b.rc))) W':=fun W' h=>by
   obtain⟨⟨c1,c2,c3,c4⟩,d0,d1,d2,d3⟩:=uV h;exact⟨c1,c2,d0,d1,d2,d3⟩
  have al:=au a6;have H1:=au (H0.o.drew (ay lN (ae 0)));have am:=al.o _ H1.o;clear a6 c1 c2 c3 c4 d0 d1 d2 d3;refine wpIn_seq_k ?_;intro K1 a4;refine wpIn_wide.2 (aK (fun w:World=>w.cell? ⟨b1,0,none⟩=some (.int .i64 s.i)/\w.cell? ⟨b1,1,none⟩=some (.int .i64 s.j)/\(i6 w b2 (.slice x.a.L W.l.length x.a.lc) (.slice x.a.R x.a.q.length x.a.rc) (.slice x.b.L W.m.length x.b.lc) (.slice x.b.R x.b.q.length x.b.rc))) fi fi am ?_);clear am
  (repeat(first|refine aW ?_|refine aX ?_))
  refine bY rfl ft (fun K hK=>?_);go_wp2_with fail;clear H1;have H2:=au ((aH H0.o (ay lN (ae 0)) (fL none 0 0 none 0 0) 167).drew (ay aC (ay lN (ae 0))));generalize (w.alloc (.cells (fL none 0 0 none 0 0) 167)).drew=w2 at *
  generalize w.heap.size=g5 at *
  refine hK.o _ _ (al.o _ H2.o.drop) ?_;clear hK;obtain⟨f5,p⟩:=H2.o.fst;have y0:=aB (i:=0) p rfl;have y1:=aB (i:=1) p rfl;have yf:=aP p;clear p
  (repeat(first|refine aW ?_|refine aX ?_))
  refine bY rfl ft (fun K hK=>?_);go_wp2_with fail;have H3:=au (mH H2.o (ay lN (ae 0)) (.slice x.b.L W.m.length x.b.lc) (.slice x.b.R x.b.q.length x.b.rc));clear H2 y0 y1 yf;generalize (w2.setCell ⟨g5,0,none⟩ (.slice x.b.L W.m.length x.b.lc)).setCell ⟨g5,1,none⟩ (.slice x.b.R x.b.q.length x.b.rc)=w3 at *
  refine hK.o _ _ (al.o _ H3.o.drop) ?_;clear hK
  (repeat(first|refine aW ?_|refine aX ?_))
  refine lex_nil ?_;refine a4 _ _ ?_;clear a4 K1;gi_step;refine wpIn_seq_k ?_;intro K3 aD;have aq:∀ (w:World) (h30 h31 h32 h33 h34 h35 h36 h37 h38:Value),aI F0 w0 (aj (av g5 (fL (x.at lf).L (j8 W lf).length (x.at lf).lc (x.at lf).R (x.at lf).q.length (x.at lf).rc) 167) (aj (Zw W x s b1 b2) (X 0))) w->K3 { tmps:=#[.func (.yield lo) #[] #[],.pointer (some ⟨b1,0,none⟩),.pointer (some ⟨b2,0,none⟩),undef,.bool lf,.pointer (some ⟨g5,0,none⟩),.int .i64 (kA s lf:Nat),undef,undef,undef,undef,undef,undef,undef,g14,g15,g16,g17,g18,g19,g20,g21,g22,g23,g24,g25,g26,g27,g28,g29,h30,h31,h32,h33,h34,h35,h36,h37,h38,undef,undef,undef,undef,undef,undef,undef,undef,undef,undef,undef,undef,undef,undef,undef,undef,undef,undef,undef,undef,undef,undef,undef,undef,undef,undef,undef,undef,undef,undef,undef,undef,undef,undef,undef,undef,undef,undef,undef,undef,undef,undef,undef,undef,undef,undef,undef,undef,undef,undef,undef,undef,undef,undef,undef,undef,undef,undef,undef,undef,undef,undef,undef,undef,undef,undef,undef,undef,undef,undef],defers:=[] } w:=by
   intro w h30 h31 h32 h33 h34 h35 h36 h37 h38 hR;have a0:=au hR;refine aD _ _ ?_;clear aD K3 hR al H0 H3;have bv:=au (fun W' (hm:Mod F0 w0 W')=>(HE.o W' hm).at lf);obtain⟨a3,a9,a8,be⟩:=HW.o.at lf;have bz:=au a3;have bm:=au a9;have bw:=au a8;have bk:=au be;have bf:=au (XH HS.o lf);have bj:=au (fun k hk h=>Jh (x:=x) (k:=k) HL.o hk h);have bn:=au (fun k hk h=>Nt (x:=x) (k:=k) HL.o hk h);have bi:=au (fun k hk h z hz=>Qb (x:=x) (k:=k) HL.o hk h (z:=z) hz);have bh:=au (Nu (x:=x) HL.o);clear a3 a9 a8 be;have bp:(s.i:Int)<=1000000:=by have:=HS.o.1;have:=HW.o.l6;omega
   have br:(s.j:Int)<=1000000:=by have:=HS.o.2.1;have:=HW.o.m6;omega
   generalize x.at lf=y at *
   generalize kA s lf=at0 at *
   generalize j8 W lf=ls at *
   obtain⟨f5,p⟩:=a0.o.fst;have y0:=aB (i:=0) p rfl;have y1:=aB (i:=1) p rfl;clear p f5;gi_wp2;gi_loopw [42] (fun i wr=>∃ k:Nat,k<=y.q.length/\i=.int .i64 k/\aI F0 w0 (aj (av g5 (fL y.L ls.length y.lc y.R y.q.length y.rc) 167) (aj (Zw W x s b1 b2) (X (jH W x s k).length))) wr) (fun i _=>y.q.length-(intOf i).toNat)
   case atStart=>exact⟨0,YE _,rfl,a0.o⟩
   case round=>
    obtain⟨k,hk,rfl,hR⟩:=hrel;have HR:=au hR;clear a0 hR y0 y1;obtain⟨f5,p⟩:=HR.o.fst;have y0:=aB (i:=0) p rfl;have y1:=aB (i:=1) p rfl;clear p f5;by_cases ab:k<y.q.length
    ·obtain⟨PL,PR,PF⟩:=bv.o wr HR.o.mod;obtain⟨b,o,hA,hc⟩:=tH.at (R:=cu) (fun _=>rfl) ff PR ff;have r0:=hc wr (YC _ _) k ab 0 _ rfl;have r1:=hc wr (YC _ _) k ab 1 _ rfl;have r2:=hc wr (YC _ _) k ab 2 _ rfl;have r3:=hc wr (YC _ _) k ab 3 _ rfl;have M:=au (show k+1<=y.q.length from ab);have ai:=au (bj.o k ab);have ad:=au (bn.o k ab);have a1:=au (bi.o k ab);have az:=au (PF _ (YL ab));have ao:=au (bk.o _ (YL ab));have a5:=au PL;have b0:(k:Int)<1000000:=by have:=bz.o;omega
     clear hc PL PR PF;have bb:=au (ay lN (ae (jH W x s k).length):(aj (Zw W x s b1 b2) (X (jH W x s k).length)).Ok);generalize y.q[k]=ra at *
     obtain⟨⟨ix,ag,rf,rt⟩,rA,rc⟩:=ra;dsimp only at ai ad a1 az ao;simp only[ZM] at r0;dsimp only at r0 r1 r2 r3;rw[hA]
     iterate 32 (first|go_values|gi_guarded|gi_step|gi_upon)
     have a2:=au (ay aC bb.o:(aj (av g5 (fL y.L ls.length y.lc y.R y.q.length y.rc) 167) (aj (Zw W x s b1 b2) (X (jH W x s k).length))).Ok);have H1:=au (aH HR.o a2.o (gS (ix:Nat) ag rA rf.length rc (bs rt)) 181);have KF:=au (Fz (w:=wr.alloc (.cells (gS (ix:Nat) ag rA rf.length rc (bs rt)) 181)) (R:=y.R) (rn:=y.q.length) (rc:=y.rc) (lc:=y.lc) (fc:=rc) (r:=⟨ix,ag,rf,rt⟩) (a5.o.below ((YC _ _).alloc (YG _) _)) (az.o.below ((YC _ _).alloc (YG _) _)) bf.o bm.o bw.o ao.o.1);have HA:=au hA;clear r0 r1 r2 r3 y0 y1 a5 az HR hA;generalize wr.alloc (.cells (gS (ix:Nat) ag rA rf.length rc (bs rt)) 181)=w1 at *
     generalize wr.heap.size=h8 at *
     obtain⟨x0,x1,x2,x3,xf⟩:=aY H1.o;obtain⟨f5,p⟩:=H1.o.drop.fst;have y0:=aB (i:=0) p rfl;have y1:=aB (i:=1) p rfl;clear p f5;dsimp only at KF
     gi_wp2_with fail
     refine⟨trivial,fun h=>(by cases h),?_⟩
     gi_at_call 127
     refine(callsIn_wide.2 KF.o).mono ?_;rintro e9 w9 ⟨rfl,hb9⟩;have H2:=au (H1.o.below (ay aC a2.o) hb9);clear KF hb9 H1 x0 x1 x2 x3 xf y0 y1;dsimp only;by_cases ac:jw ls ⟨ix,ag,rf,rt⟩ at0=true
     ·rw[ac];have a7:=au ac;clear ac ai;obtain⟨⟨c1,c2,c3,c4⟩,-⟩:=uV H2.o.drop.drop;obtain⟨x0,x1,x2,x3,xf⟩:=aY H2.o
      iterate 38 (first|go_values|gi_guarded|gi_step|gi_upon)
      have aa:=au (ay aC a2.o:(aj (av h8 (gS (ix:Nat) ag rA rf.length rc (bs rt)) 181) (aj (av g5 (fL y.L ls.length y.lc y.R y.q.length y.rc) 167) (aj (Zw W x s b1 b2) (X (jH W x s k).length)))).Ok);have H3:=au (aH H2.o aa.o (gl s.i s.j ⟨#[]⟩ false) 175);clear H2 c1 c2 c3 c4 x0 x1 x2 x3 xf;generalize w9.alloc (.cells (gl s.i s.j ⟨#[]⟩ false) 175)=w3 at *
      generalize w9.heap.size=h9 at *
      gi_step;rename_i Kj aA Kc ax;have ar:∀ (w:World) (v44 v45 v46 v47 v48 v49 v50 v51 v52 v53 v54 v55 v56 v57 v58 v59 v60 v61 v62 v63 v64 v65 v66 v67 v68 v69 v70:Value),aI F0 w0 (aj (av h9 (gl (iN s lf rf.length:Nat) (jN s lf rf.length:Nat) ⟨#[]⟩ false) 175) (aj (av h8 (gS (ix:Nat) ag rA rf.length rc (bs rt)) 181) (aj (av g5 (fL y.L ls.length y.lc y.R y.q.length y.rc) 167) (aj (Zw W x s b1 b2) (X (jH W x s k).length))))) w->Kj { tmps:=#[.func (.yield lo) #[] #[],.pointer (some ⟨b1,0,none⟩),.pointer (some ⟨b2,0,none⟩),undef,.bool lf,.pointer (some ⟨g5,0,none⟩),.int .i64 (at0:Nat),undef,.pointer (some ⟨h8,0,none⟩),.pointer (some ⟨h9,0,none⟩),u10,u11,u12,u13,g14,g15,g16,g17,g18,g19,g20,g21,g22,g23,g24,g25,g26,g27,g28,g29,h30,h31,h32,h33,h34,h35,h36,h37,h38,.pointer (some ⟨g5,1,none⟩),.slice (some ⟨b,o,none⟩) y.q.length y.rc,.int .i64 (y.q.length:Nat),.int .i64 (k:Nat),.bool true,v44,v45,v46,v47,v48,v49,v50,v51,v52,v53,v54,v55,v56,v57,v58,v59,v60,v61,v62,v63,v64,v65,v66,v67,v68,v69,v70,u71,u72,u73,u74,u75,u76,u77,u78,u79,u80,u81,u82,u83,u84,u85,u86,u87,u88,u89,u90,u91,u92,u93,u94,u95,u96,u97,u98,u99,u100,u101,u102,u103,u104,u105,u106,u107,u108],defers:=[] } w:=by
       intro w v44 v45 v46 v47 v48 v49 v50 v51 v52 v53 v54 v55 v56 v57 v58 v59 v60 v61 v62 v63 v64 v65 v66 v67 v68 v69 v70 hR;have H4:=au hR;refine aA _ _ ?_;clear aA ax Kc Kj H3 hR bp br;have an:=au (a1.o a7.o);clear a1 a7;generalize iN s lf rf.length=ni at *
       generalize jN s lf rf.length=nj at *
       obtain⟨⟨c1,c2,c3,c4⟩,-⟩:=uV H4.o.drop.drop.drop;obtain⟨x0,x1,x2,x3,xf⟩:=aY H4.o.drop;obtain⟨z0,z1,z2,z3,zf⟩:=aY H4.o;have KC:=au (zR s.a rt w)
       gi_wp2_with fail
       by_cases h1:rt.isPrefixOf s.a=true
       ·have HZ:=au (an.o _ (Ll h1));rw[if_pos h1,h1] at KC;clear h1 ad an;generalize s.a.drop rt.length=q at *
        cases hr:s.r with
        | false=>
         rw[hr,k5] at HZ;rw[hr] at c4;clear hr;refine⟨trivial,fun h=>(by cases h),?_⟩
         gi_at_call 128
         refine(callsIn_wide.2 KC.o).mono ?_;rintro ak J ⟨rfl,h10⟩;subst J;clear KC;dsimp only
         iterate 28 (first|go_values|gi_guarded|gi_step|gi_upon)
         refine wpIn_wide.2 ?_;go_wp2;have V:=au (aJ (aJ H4.o aa.o 2 (.string (bs q))) aa.o 3 (.bool false):aI F0 w0 (aj (av h9 (gl (ni:Nat) (nj:Nat) (bs q) false) 175) _) _);clear H4 z0 z1 z2 z3 zf x0 x1 x2 x3 xf c1 c2 c3 c4;generalize (w.setCell ⟨h9,2,none⟩ (.string (bs q))).setCell ⟨h9,3,none⟩ (.bool false)=w7 at *
         obtain⟨z0,z1,z2,z3,zf⟩:=aY V.o;obtain⟨x0,x1,x2,x3,xf⟩:=aY V.o.drop;obtain⟨hM,hi,hx⟩:=HZ.o;have HM:=au hM;have hw:=HY.o (aj (av g5 (fL y.L ls.length y.lc y.R y.q.length y.rc) 167) (Zw W x s b1 b2)) aQ _ hi w7 (V.o.drop.drop.perm (by ac_rfl));rw[hx] at hw;clear hM HZ;simp only[Jf,gG,cu] at hw;obtain⟨fn,tmps,assign,body,hy,hround⟩:=hw;have I:=au hround;clear hround hx hi;gi_wp2
         try rw[hy]
         refine⟨fun h=>(by cases h),?_⟩;refine I.o.mono ?_;rintro e W3 (⟨rfl,F⟩|⟨rfl,F⟩)
         ·have H8:=au (F.perm (by ac_rfl:_=aj (av g5 (fL y.L ls.length y.lc y.R y.q.length y.rc) 167) (aj (Zw W x s b1 b2) (X ((jH W x s k).length+1)))));clear I F hy V z0 z1 z2 z3 zf x0 x1 x2 x3 xf;gi_wp2
          go_roundw
          case rel=>exact⟨k+1,M.o,by go_num,by rw[HM.o,Yz,<-HA.o];exact H8.o⟩
          case measure=>have:=M.o;simp[intOf];omega
         ·have af:=au (show(∃ v,(Ending.returned (.tuple #[]))=.returned v)/\∃ Z:CH.bq,Z.Ok/\(aI F0 w0 (aj Z (X (dx W x s).length)) W3\/aI F0 w0 (aj Z Y) W3) from⟨⟨_,rfl⟩,_,ay aC lN,.inr F⟩);clear I F hy V z0 z1 z2 z3 zf x0 x1 x2 x3 xf;gi_wp2;refine bodyPost_ret (results_none rfl _ _ _) rfl ?_;exact af.o
        | true=>
         rw[hr,ZI] at HZ;rw[hr] at c4;clear hr;by_cases hq:q=[]
         ·have e2:(bs q).toList.isEmpty=true:=by rw[Z9];exact dY.2 hq
          rw[decide_eq_false (fun h=>h hq)] at HZ;clear hq;refine⟨trivial,fun h=>(by cases h),?_⟩
          gi_at_call 128
          refine(callsIn_wide.2 KC.o).mono ?_;rintro ak J ⟨rfl,h10⟩;subst J;clear KC;dsimp only
          iterate 28 (first|go_values|gi_guarded|gi_step|gi_upon)
          refine wpIn_wide.2 ?_;go_wp2;have V:=au (aJ (aJ H4.o aa.o 2 (.string (bs q))) aa.o 3 (.bool false):aI F0 w0 (aj (av h9 (gl (ni:Nat) (nj:Nat) (bs q) false) 175) _) _);clear H4 z0 z1 z2 z3 zf x0 x1 x2 x3 xf c1 c2 c3 c4;generalize (w.setCell ⟨h9,2,none⟩ (.string (bs q))).setCell ⟨h9,3,none⟩ (.bool false)=w7 at *
          obtain⟨z0,z1,z2,z3,zf⟩:=aY V.o;obtain⟨x0,x1,x2,x3,xf⟩:=aY V.o.drop;obtain⟨hM,hi,hx⟩:=HZ.o;have HM:=au hM;have hw:=HY.o (aj (av g5 (fL y.L ls.length y.lc y.R y.q.length y.rc) 167) (Zw W x s b1 b2)) aQ _ hi w7 (V.o.drop.drop.perm (by ac_rfl));rw[hx] at hw;clear hM HZ;simp only[Jf,gG,cu] at hw;obtain⟨fn,tmps,assign,body,hy,hround⟩:=hw;have I:=au hround;clear hround hx hi;gi_wp2
          try rw[hy]
          refine⟨fun h=>(by cases h),?_⟩;refine I.o.mono ?_;rintro e W3 (⟨rfl,F⟩|⟨rfl,F⟩)
          ·have H8:=au (F.perm (by ac_rfl:_=aj (av g5 (fL y.L ls.length y.lc y.R y.q.length y.rc) 167) (aj (Zw W x s b1 b2) (X ((jH W x s k).length+1)))));clear I F hy V z0 z1 z2 z3 zf x0 x1 x2 x3 xf;gi_wp2
           go_roundw
           case rel=>exact⟨k+1,M.o,by go_num,by rw[HM.o,Yz,<-HA.o];exact H8.o⟩
           case measure=>have:=M.o;simp[intOf];omega
          ·have af:=au (show(∃ v,(Ending.returned (.tuple #[]))=.returned v)/\∃ Z:CH.bq,Z.Ok/\(aI F0 w0 (aj Z (X (dx W x s).length)) W3\/aI F0 w0 (aj Z Y) W3) from⟨⟨_,rfl⟩,_,ay aC lN,.inr F⟩);clear I F hy V z0 z1 z2 z3 zf x0 x1 x2 x3 xf;gi_wp2;refine bodyPost_ret (results_none rfl _ _ _) rfl ?_;exact af.o
         ·have e2:(bs q).toList.isEmpty=false:=by rw[Zo];exact fun h=>hq (dY.1 h)
          rw[decide_eq_true hq] at HZ;clear hq;refine⟨trivial,fun h=>(by cases h),?_⟩
          gi_at_call 128
          refine(callsIn_wide.2 KC.o).mono ?_;rintro ak J ⟨rfl,h10⟩;subst J;clear KC;dsimp only
          iterate 28 (first|go_values|gi_guarded|gi_step|gi_upon)
          refine wpIn_wide.2 ?_;go_wp2;have V:=au (aJ (aJ H4.o aa.o 2 (.string (bs q))) aa.o 3 (.bool true):aI F0 w0 (aj (av h9 (gl (ni:Nat) (nj:Nat) (bs q) true) 175) _) _);clear H4 z0 z1 z2 z3 zf x0 x1 x2 x3 xf c1 c2 c3 c4;generalize (w.setCell ⟨h9,2,none⟩ (.string (bs q))).setCell ⟨h9,3,none⟩ (.bool true)=w7 at *
          obtain⟨z0,z1,z2,z3,zf⟩:=aY V.o;obtain⟨x0,x1,x2,x3,xf⟩:=aY V.o.drop;obtain⟨hM,hi,hx⟩:=HZ.o;have HM:=au hM;have hw:=HY.o (aj (av g5 (fL y.L ls.length y.lc y.R y.q.length y.rc) 167) (Zw W x s b1 b2)) aQ _ hi w7 (V.o.drop.drop.perm (by ac_rfl));rw[hx] at hw;clear hM HZ;simp only[Jf,gG,cu] at hw;obtain⟨fn,tmps,assign,body,hy,hround⟩:=hw;have I:=au hround;clear hround hx hi;gi_wp2
          try rw[hy]
          refine⟨fun h=>(by cases h),?_⟩;refine I.o.mono ?_;rintro e W3 (⟨rfl,F⟩|⟨rfl,F⟩)
          ·have H8:=au (F.perm (by ac_rfl:_=aj (av g5 (fL y.L ls.length y.lc y.R y.q.length y.rc) 167) (aj (Zw W x s b1 b2) (X ((jH W x s k).length+1)))));clear I F hy V z0 z1 z2 z3 zf x0 x1 x2 x3 xf;gi_wp2
           go_roundw
           case rel=>exact⟨k+1,M.o,by go_num,by rw[HM.o,Yz,<-HA.o];exact H8.o⟩
           case measure=>have:=M.o;simp[intOf];omega
          ·have af:=au (show(∃ v,(Ending.returned (.tuple #[]))=.returned v)/\∃ Z:CH.bq,Z.Ok/\(aI F0 w0 (aj Z (X (dx W x s).length)) W3\/aI F0 w0 (aj Z Y) W3) from⟨⟨_,rfl⟩,_,ay aC lN,.inr F⟩);clear I F hy V z0 z1 z2 z3 zf x0 x1 x2 x3 xf;gi_wp2;refine bodyPost_ret (results_none rfl _ _ _) rfl ?_;exact af.o
       ·by_cases F:s.a.isPrefixOf rt=true
        ·have HZ:=au (an.o _ (Lm h1 F));rw[HL.o] at HZ;rw[if_neg h1,Bool.eq_false_iff.2 h1] at KC;clear h1 ad an;refine⟨trivial,fun h=>(by cases h),?_⟩
         gi_at_call 128
         refine(callsIn_wide.2 KC.o).mono ?_;rintro ak J ⟨rfl,h10⟩;subst J;clear KC;dsimp only
         gi_wp2_with fail
         have KD:=au (zR rt s.a w);rw[if_pos F,F] at KD;clear F;generalize rt.drop s.a.length=q at *
         refine⟨trivial,fun h=>(by cases h),?_⟩
         gi_at_call 128
         refine(callsIn_wide.2 KD.o).mono ?_;rintro ak J ⟨rfl,h10⟩;subst J;clear KD;dsimp only
         iterate 28 (first|go_values|gi_guarded|gi_step|gi_upon)
         refine wpIn_wide.2 ?_;go_wp2;have V:=au (aJ (aJ H4.o aa.o 2 (.string (bs q))) aa.o 3 (.bool (!lf)):aI F0 w0 (aj (av h9 (gl (ni:Nat) (nj:Nat) (bs q) (!lf)) 175) _) _);clear H4 z0 z1 z2 z3 zf x0 x1 x2 x3 xf c1 c2 c3 c4;generalize (w.setCell ⟨h9,2,none⟩ (.string (bs q))).setCell ⟨h9,3,none⟩ (.bool (!lf))=w7 at *
         obtain⟨z0,z1,z2,z3,zf⟩:=aY V.o;obtain⟨x0,x1,x2,x3,xf⟩:=aY V.o.drop;obtain⟨hM,hi,hx⟩:=HZ.o;have HM:=au hM;have hw:=HY.o (aj (av g5 (fL y.L ls.length y.lc y.R y.q.length y.rc) 167) (Zw W x s b1 b2)) aQ _ hi w7 (V.o.drop.drop.perm (by ac_rfl));rw[hx] at hw;clear hM HZ;simp only[Jf,gG,cu] at hw;obtain⟨fn,tmps,assign,body,hy,hround⟩:=hw;have I:=au hround;clear hround hx hi;gi_wp2
         try rw[hy]
         refine⟨fun h=>(by cases h),?_⟩;refine I.o.mono ?_;rintro e W3 (⟨rfl,F⟩|⟨rfl,F⟩)
         ·have H8:=au (F.perm (by ac_rfl:_=aj (av g5 (fL y.L ls.length y.lc y.R y.q.length y.rc) 167) (aj (Zw W x s b1 b2) (X ((jH W x s k).length+1)))));clear I F hy V z0 z1 z2 z3 zf x0 x1 x2 x3 xf;gi_wp2
          go_roundw
          case rel=>exact⟨k+1,M.o,by go_num,by rw[HM.o,Yz,<-HA.o];exact H8.o⟩
          case measure=>have:=M.o;simp[intOf];omega
         ·have af:=au (show(∃ v,(Ending.returned (.tuple #[]))=.returned v)/\∃ Z:CH.bq,Z.Ok/\(aI F0 w0 (aj Z (X (dx W x s).length)) W3\/aI F0 w0 (aj Z Y) W3) from⟨⟨_,rfl⟩,_,ay aC lN,.inr F⟩);clear I F hy V z0 z1 z2 z3 zf x0 x1 x2 x3 xf;gi_wp2;refine bodyPost_ret (results_none rfl _ _ _) rfl ?_;exact af.o
        ·have aE:=au (ad.o (Lp h1 F));rw[if_neg h1,Bool.eq_false_iff.2 h1] at KC;have KD:=au (zR rt s.a w);rw[if_neg F,Bool.eq_false_iff.2 F] at KD;clear h1 F ad an;refine⟨trivial,fun h=>(by cases h),?_⟩
         gi_at_call 128
         refine(callsIn_wide.2 KC.o).mono ?_;rintro ak J ⟨rfl,h10⟩;subst J;clear KC;dsimp only
         gi_wp2_with fail
         refine⟨trivial,fun h=>(by cases h),?_⟩
         gi_at_call 128
         refine(callsIn_wide.2 KD.o).mono ?_;rintro ak J ⟨rfl,h10⟩;subst J;clear KD;dsimp only;gi_wp2
         go_roundw
         case rel=>exact⟨k+1,M.o,by go_num,by rw[aE.o,<-HA.o];exact H4.o.drop.drop⟩
         case measure=>have:=M.o;simp[intOf];omega
      have ap:=au ar;clear ar aA;have bc:=au ax;clear ax;obtain⟨z0,z1,z2,z3,zf⟩:=aY H3.o;obtain⟨x0,x1,x2,x3,xf⟩:=aY H3.o.drop;have b4:=ao.o.1;refine wpIn_wide.2 ?_;cases lf with
      | false=>
       have eN:((iN s false rf.length:Nat):Int)=(s.i:Int):=rfl;have eM:((jN s false rf.length:Nat):Int)=(s.j:Int)+(rf.length:Int):=by simp[jN]
       rw[eN,eM] at ap;clear eN eM;go_wp2;refine bc.o _ _ ?_;refine wpIn_wide.2 ?_;go_wp2;exact ap.o _ _ _ _ _ _ _ _ _ _ _ _ _ _ _ _ _ _ _ _ _ _ _ _ _ _ _ _ (aJ H3.o aa.o 1 _)
      | true=>
       have eN:((iN s true rf.length:Nat):Int)=(s.i:Int)+(rf.length:Int):=by simp[iN]
       have eM:((jN s true rf.length:Nat):Int)=(s.j:Int):=rfl;rw[eN,eM] at ap;clear eN eM;go_wp2;refine bc.o _ _ ?_;refine wpIn_wide.2 ?_;go_wp2;exact ap.o _ _ _ _ _ _ _ _ _ _ _ _ _ _ _ _ _ _ _ _ _ _ _ _ _ _ _ _ (aJ H3.o aa.o 0 _)
     ·have aE:=au (ai.o (Bool.eq_false_iff.2 ac));rw[Bool.eq_false_iff.2 ac];clear ac ai;gi_wp2
      go_roundw
      case rel=>exact⟨k+1,M.o,by go_num,by rw[aE.o,<-HA.o];exact H2.o.drop⟩
      case measure=>have:=M.o;simp[intOf];omega
    ·obtain rfl:k=y.q.length:=by omega
     have ba:=au (show(∃ v,(Ending.returned (.tuple #[]))=.returned v)/\∃ Z:CH.bq,Z.Ok/\(aI F0 w0 (aj Z (X (dx W x s).length)) wr\/aI F0 w0 (aj Z Y) wr) from⟨⟨_,rfl⟩,_,ay aC lN,.inl (by rw[<-bh.o];exact HR.o.perm (by ac_rfl))⟩);gi_wp2
     go_end0
     exact ba.o
  have bd:=au aq;clear aq aD;clear HE HY HS HW ha;cases lf with
  | false=>
   clear HL;refine wpIn_wide.2 ?_;go_wp2;exact bd.o _ _ _ _ _ _ _ _ _ _ H3.o
  | true=>
   clear HL;refine wpIn_wide.2 ?_;go_wp2_with fail;have H4:=au (H3.o.drew (ay aC (ay lN (ae 0))));have am:=al.o _ H4.o.drop;refine aK (fun w:World=>w.cell? ⟨b1,0,none⟩=some (.int .i64 s.i)/\w.cell? ⟨b1,1,none⟩=some (.int .i64 s.j)/\(i6 w b2 (.slice x.a.L W.l.length x.a.lc) (.slice x.a.R x.a.q.length x.a.rc) (.slice x.b.L W.m.length x.b.lc) (.slice x.b.R x.b.q.length x.b.rc))) fi fi am ?_;clear am H3;generalize w3.drew=w4 at *
   (repeat(first|refine aW ?_|refine aX ?_))
   refine bY rfl ft (fun K hK=>?_);obtain⟨f5,p⟩:=H4.o.fst;have y0:=aB (i:=0) p rfl;have y1:=aB (i:=1) p rfl;have yf:=aP p;clear p;go_wp2_with fail;have H5:=au (mH H4.o (ay lN (ae 0)) (.slice x.a.L W.l.length x.a.lc) (.slice x.a.R x.a.q.length x.a.rc));clear H4 y0 y1 yf;generalize (w4.setCell ⟨g5,0,none⟩ (.slice x.a.L W.l.length x.a.lc)).setCell ⟨g5,1,none⟩ (.slice x.a.R x.a.q.length x.a.rc)=w5 at *
   refine hK.o _ _ (al.o _ H5.o.drop) ?_;clear hK
   (repeat(first|refine aW ?_|refine aX ?_))
   refine lex_nil ?_;exact bd.o _ _ _ _ _ _ _ _ _ _ H5.o
 have HC:=au cut;clear cut aw;cases hr:s.r with
 | true=>
  have hl:W.left s=true:=by unfold Wd.left;rw[hr];rfl
  have HL:=au hl;rw[hr] at c4;clear hl hr;refine wpIn_wide.2 ?_;go_wp2;exact HC.o true _ _ _ _ _ _ _ _ _ _ _ _ _ _ _ _ HL.o
 | false=>
  rw[hr] at c4;by_cases he:s.a=[]
  ·have bu:(bs s.a).toList.isEmpty=true:=by rw[Z9];exact dY.2 he
   by_cases hi:s.i=W.l.length
   ·have hl:W.left s=false:=by unfold Wd.left;rw[hr];simp[hi]
    have HL:=au hl;have bo:decide (s.i<W.l.length)=false:=decide_eq_false ff;clear hl hi he hr;gi_wp2;exact HC.o false _ _ _ _ _ _ _ _ _ _ _ _ _ _ _ _ HL.o
   ·have hl:W.left s=true:=by unfold Wd.left;rw[hr];simp[hi,he]
    have HL:=au hl;have bo:decide (s.i<W.l.length)=true:=decide_eq_true (by have:=HS.o.1;omega);clear hl hi he hr;gi_wp2;exact HC.o true _ _ _ _ _ _ _ _ _ _ _ _ _ _ _ _ HL.o
  ·have bu:(bs s.a).toList.isEmpty=false:=by rw[Zo];exact fun h=>he (dY.1 h)
   have hl:W.left s=false:=by unfold Wd.left;rw[hr];simp[he]
   have HL:=au hl;clear hl he hr;gi_wp2;exact HC.o false _ _ _ _ _ _ _ _ _ _ _ _ _ _ _ _ HL.o
theorem Wv{W:Wd}{x:WA}{bm bw bf:Nat}(hE:∀ W',Mod F0 w0 W'->Tc W x W')(hW:Td W x)(hg:W.good)(ht:W.xR)(hm:Ji W x):
  ∀ (n:Nat) (s:St) (L:List (St × Int)) (X:CH.bq) (w:World),W.gD s<n->W.ok s->s.a.length<=3->Kn W L->X.Ok->aI F0 w0 (aj (lM b L) (aj (yV W x b bm bw bf) X)) w ->
  Calls Tryz.prog 125 #[VD s,.pointer (some ⟨bm,0,none⟩),.pointer (some ⟨bw,0,none⟩),.pointer (some ⟨bf,0,none⟩)] w (Lr W x s L F0 w0 b bm bw bf X):=by
 intro n
 induction n with
 | zero=>intro s L X w h;exact absurd h (Zn _)
 | succ n ih=>
 intro s L X w hn hs ha hk hX hR;have IH:=au ih;have HE:=au hE;have HW:=au hW;have HG:=au hg;have HT:=au ht;have HN:=au hn;have HS:=au hs;have HA:=au ha;have HK:=au hk;have HX:=au hX;have HM:=au hm;have h2:aI F0 w0 (aj (av w.heap.size (gG s) 175) (aj (lM b L) (aj (yV W x b bm bw bf) X))) _:=aH hR aQ (gG s) 175;have H2:=au h2;clear ih hE hW hg ht hn hs ha hk h2 hR hm;refine(callsIn_wide (n:=8)).1 ?_;refine callsIn_of_wp_marks Tryz.func125 rfl trivial ?_ rfl;simp only[Tryz.ntmps125,kz,YR,Zz,Nat.reduceAdd,Nat.reduceSub,ZN,ZO,kB,ZX,Z8,Zq];refine(wpIn_wide (n:=8)).2 ?_;unfold VD;unfold gG;unfold gG at H2;generalize a7:w.alloc (.cells (gl s.i s.j (bs s.a) s.r) 175)=w2 at *
 iterate 9 (first|go_values|go_guarded|go_step)
 clear a7;generalize w.heap.size=V at *
 obtain⟨F,hF⟩:=H2.o.fst;have c0:=aB (i:=0) hF rfl;have c1:=aB (i:=1) hF rfl;have c2:=aB (i:=2) hF rfl;have c3:=aB (i:=3) hF rfl;clear hF F;obtain⟨m0,f0,d0,d1,d2,d3⟩:=l7 H2.o.drop.drop;obtain⟨F,hF⟩:=H2.o.drop.fst;have ac:=FN hF s true;by_cases ad:s ∈ fU L
 ·obtain⟨v,hv⟩:=mem_keys.1 ad;have ba:v=W.fS s:=HK.o.val _ hv;subst ba;rw[DX HK.o.nd hv] at ac;have an:(Instr.lookup 172 (.map (some b)) (.agg (gl s.i s.j (bs s.a) s.r)) true).run Tryz.prog w2=.ok (.tuple (j7 (W.fS s) true)) w2:=ac;have HF:=au (show Lr W x s L F0 w0 b bm bw bf X (.returned (.int .i64 (W.fS s))) w2 from⟨L,rfl,HK.o,Ext.refl,ad,H2.o.drop⟩);clear ac hF hv ad;go_wp2;refine⟨_,results_tmp rfl _ _ _,?_⟩;exact HF.o
 ·rw[Lg ad] at ac;have an:(Instr.lookup 172 (.map (some b)) (.agg (gl s.i s.j (bs s.a) s.r)) true).run Tryz.prog w2=.ok (.tuple (j7 0 false)) w2:=ac;have a4:=au ad;clear ac hF ad
  iterate 56 (first|go_values|go_guarded|go_step)
  have H3:=au (aH H2.o aQ (gb 1099511627776) 3);clear H2 c0 c1 c2 c3 m0 f0 d0 d1 d2 d3 an;generalize w2.alloc (.cells (gb 1099511627776) 3)=w3 at *
  generalize w2.heap.size=g8 at *
  obtain⟨c0,c1,c2,c3,-⟩:=aY H3.o.drop;obtain⟨m0,f0,d0,d1,d2,d3⟩:=l7 H3.o.drop.drop.drop;have KD:=au (FE (w:=w3) (W:=W) (x:=x) (s:=s));unfold bD gG at KD;rename_i Kj am;refine wp_seq_k ?_;intro Kc ao;have cut:∀ (w:World) (g18 g19 g20 g21:Value),aI F0 w0 (aj (av g8 (gb (kK W s 0)) 3) (aj (av V (gG s) 175) (aj (lM b L) (aj (yV W x b bm bw bf) X)))) w->Kj { tmps:=#[.agg (gl s.i s.j (bs s.a) s.r),.pointer (some ⟨bm,0,none⟩),.pointer (some ⟨bw,0,none⟩),.pointer (some ⟨bf,0,none⟩),.pointer (some ⟨V,0,none⟩),.int .i64 0,.int .i64 0,.bool false,.pointer (some ⟨g8,0,none⟩),undef,undef,.tuple (j7 0 false),.map (some b),.agg (gl s.i s.j (bs s.a) s.r),.tuple (j7 0 false),.int .i64 0,.bool false,.bool false,g18,g19,g20,g21,undef,undef,undef,undef,undef,undef,undef,undef,undef,undef,undef,undef,undef,undef,undef,undef,undef],defers:=[] } w:=by
   intro w g18 g19 g20 g21 hR;have HR:=au hR;refine am _ _ ?_;clear am ao Kc Kj hR H3 KD c0 c1 c2 c3 m0 f0 d0 d1 d2 d3;obtain⟨c0,c1,c2,c3,-⟩:=aY (HR.o.drop:aI F0 w0 (aj (av V (gl s.i s.j (bs s.a) s.r) 175) _) w);obtain⟨m0,f0,d0,d1,d2,d3⟩:=l7 HR.o.drop.drop.drop;have KM:=au (Aa (W:=W) (x:=x) (s:=s) w);unfold bD gG at KM;go_wp2_with fail;refine KM.o.mono ?_;rintro e9 w9 ⟨b1,b2,rfl,hp⟩;have S1:=au (HR.o.fresh aQ hp);clear HR KM hp c0 c1 c2 c3 m0 f0 d0 d1 d2 d3;go_wp2_with fail;have a3:=au (xW (W:=W) (s:=s) (x:=x) (b1:=b1) (b2:=b2) HS.o HW.o (YQ HA.o ff));have bb:∀ i,(pG fun L':List (St × Int)=>yU (Ua W s L i L') (aj (av g8 (gb (kK W s i)) 3) (aj (av V (gG s) 175) (aj (lM b L') (aj (yV W x b bm bw bf) X))))).Ok:=fun i=>eO fun L'=>iW (ay aC (ay aC (ay jW (ay uh HX.o))));have aA:∀ (i:Nat) (a':Act),(pG fun L':List (St × Int)=>pG fun g9:Nat=>pG fun M:Nat=>pG fun y:RA × St=>yU (Ua W s L i L'/\(dx W x s)[i]?=some y/\a'={ tmps:=#[.agg (gl s.i s.j (bs s.a) s.r),.pointer (some ⟨bm,0,none⟩),.pointer (some ⟨bw,0,none⟩),.pointer (some ⟨bf,0,none⟩),.pointer (some ⟨V,0,none⟩),.int .i64 0,.int .i64 0,.bool false,.pointer (some ⟨g8,0,none⟩),.pointer (some ⟨g9,0,none⟩),.pointer (some ⟨M,0,none⟩),.tuple (j7 0 false),.map (some b),.agg (gl s.i s.j (bs s.a) s.r),.tuple (j7 0 false),.int .i64 0,.bool false,.bool false,g18,g19,g20,g21,.agg (hJ x.a.L W.l.length x.a.lc x.a.R x.a.q.length x.a.rc x.b.L W.m.length x.b.lc x.b.R x.b.q.length x.b.rc),.agg (gl s.i s.j (bs s.a) s.r),Xu b1 b2,.agg (cu y.1).toArray,.agg (gG y.2),undef,undef,undef,undef,undef,undef,undef,undef,undef,undef,undef,undef],defers:=[] }) (aj (av M (gG y.2) 175) (aj (av g9 (cu y.1).toArray 181) (aj (av g8 (gb (kK W s i)) 3) (aj (av V (gG s) 175) (aj (lM b L') (aj (yV W x b bm bw bf) X))))))).Ok:=fun i a'=>eO fun L'=>eO fun g9=>eO fun M=>eO fun y=>iW (ay aC (ay aC (ay aC (ay aC (ay jW (ay uh HX.o))))));have a6:aI F0 w0 (aj (Zw W x s b1 b2) (pG fun L':List (St × Int)=>yU (Ua W s L 0 L') (aj (av g8 (gb (kK W s 0)) 3) (aj (av V (gG s) 175) (aj (lM b L') (aj (yV W x b bm bw bf) X)))))) w9:=(aI.uf L (aI.kD (Fq HK.o) S1.o.swap)).swap;refine qd (gf:=126) (lb:=(ln (some ⟨b1,0,none⟩) (some ⟨b2,0,none⟩))) rfl (enters_of Tryz.func126 fi rfl) a3.o lN (fun _=>rfl) HE.o _ (fun _=>Xt) bb _ aA (fun _=>Lh) a6 ?_ ?_ ?_ ?_
   ·intro lo m i hi R W1 K hR hI hK;obtain⟨L',h1⟩:=hI.ex;obtain⟨J,h2⟩:=h1.pure;have aq:(aj (aj (av g8 (gb (kK W s i)) 3) (aj (av V (gG s) 175) (aj (lM b L') (aj (yV W x b bm bw bf) X)))) R).Ok:=ay (ay aC (ay aC (ay jW (ay uh HX.o)))) hR;have h3:=aH h2 aq (cu (dx W x s)[i].1).toArray 181;have h4:=aH h3 (ay aC aq) (gG (dx W x s)[i].2) 175;rw[YN] at h4;have HF:=au (hK { tmps:=#[.agg (gl s.i s.j (bs s.a) s.r),.pointer (some ⟨bm,0,none⟩),.pointer (some ⟨bw,0,none⟩),.pointer (some ⟨bf,0,none⟩),.pointer (some ⟨V,0,none⟩),.int .i64 0,.int .i64 0,.bool false,.pointer (some ⟨g8,0,none⟩),.pointer (some ⟨W1.heap.size,0,none⟩),.pointer (some ⟨W1.heap.size+1,0,none⟩),.tuple (j7 0 false),.map (some b),.agg (gl s.i s.j (bs s.a) s.r),.tuple (j7 0 false),.int .i64 0,.bool false,.bool false,g18,g19,g20,g21,.agg (hJ x.a.L W.l.length x.a.lc x.a.R x.a.q.length x.a.rc x.b.L W.m.length x.b.lc x.b.R x.b.q.length x.b.rc),.agg (gl s.i s.j (bs s.a) s.r),Xu b1 b2,.agg (cu (dx W x s)[i].1).toArray,.agg (gG (dx W x s)[i].2),undef,undef,undef,undef,undef,undef,undef,undef,undef,undef,undef,undef],defers:=[] } _ (aI.uf L' (aI.uf W1.heap.size (aI.uf (W1.heap.size+1) (aI.uf (dx W x s)[i] (aI.kD ⟨J,YH hi,rfl⟩ (h4.perm (by ac_rfl))))))));clear hI h1 h2 h3 h4 hK J aq;unfold Jf;generalize (dx W x s)[i]=y at *
    obtain⟨⟨⟨yx,yc,yf,yt⟩,yA,yn⟩,⟨xi,xj,xa,xr⟩⟩:=y;unfold gG cu;unfold gG cu at HF;dsimp only at HF;dsimp only;gi_wp2;exact HF.o
   ·intro lo m i hi a' R W1 hR hI;obtain⟨L',h1⟩:=hI.ex;obtain⟨g9,h1⟩:=h1.ex;obtain⟨M,h1⟩:=h1.ex;obtain⟨y,h1⟩:=h1.ex;obtain⟨⟨J,hx,rfl⟩,h2⟩:=h1.pure;have aD:(dx W x s)[i]=y:=by rw[YH hi] at hx;injection hx
    have ag:i<(W.moves s).length:=by rw[FU HM.o HS.o];exact hi
    have al:(W.moves s)[i]=(y.1.r.c,y.2):=by rw[Ui HM.o HS.o hi ag,aD]
    have ab:(y.1.r.c,y.2) ∈ W.moves s:=by rw[<-al];exact YL ag
    have af:=fF HS.o ab;have a9:=jf HG.o ab;have gC:=gT HG.o af.1;have az:=iT af.1;have bh:=Fp HG.o HS.o i;have bi:=Ld (W:=W) (s:=s) (i:=i);have ae:(aj (av M (gG y.2) 175) (aj (av g9 (cu y.1).toArray 181) (aj (av g8 (gb (kK W s i)) 3) (aj (av V (gG s) 175) (aj X R))))).Ok:=ay aC (ay aC (ay aC (ay aC (ay HX.o hR))));have h3:=(h2.perm (by ac_rfl):aI F0 w0 (aj (lM b L') (aj (yV W x b bm bw bf) (aj (av M (gG y.2) 175) (aj (av g9 (cu y.1).toArray 181) (aj (av g8 (gb (kK W s i)) 3) (aj (av V (gG s) 175) (aj X R))))))) W1).drew aQ;have KI:=au (IH.o y.2 L' _ W1.drew (by have:=HN.o;have:=af.2;omega) af.1 (pF HT.o HA.o ab) J.kn ae h3);obtain⟨m0,f0,d0,d1,d2,d3⟩:=l7 h3.drop;obtain⟨y0,y1,y2,y3,-⟩:=aY (h3.drop.drop:aI F0 w0 (aj (av M (gl y.2.i y.2.j (bs y.2.a) y.2.r) 175) _) _);obtain⟨F9,ak⟩:=h3.drop.drop.drop.fst;have e9:W1.drew.cell? ⟨g9,1,none⟩=some (.int .i64 y.1.r.c):=aB (i:=1) ak rfl;obtain⟨F7,z⟩:=h3.drop.drop.drop.drop.fst;have e7:=aB (i:=0) z rfl;have ar:=au (Cn ag);have aw:=au (fun L'' h1 h2 h3=>Fu (L'':=L'') ag J h1 (by rw[al];exact h2) (by rw[al];exact h3));rw[al] at ar;unfold Lr at KI;have a5:=au ae;have a8:=au hR;clear hI h1 h2 h3 J hx al aD ab af z ak ae hR hi ag;obtain⟨⟨⟨yx,yc,yf,yt⟩,yA,yn⟩,⟨xi,xj,xa,xr⟩⟩:=y;simp only[cu] at KI a5 ar aw a9 gC az e9 y0 y1 y2 y3;generalize W.fS ⟨xi,xj,xa,xr⟩=dd at *
    generalize kK W s i=mm at *
    unfold VD gG at KI;unfold gG cu;simp only at *
    unfold Uh at f0;refine wpIn_block ?_;refine nR [5,8] [1,1,1,0,0,1,1,1,2] (fun w'=>w'=W1.drew) [fun w'=>w'.cell? ⟨g8,0,none⟩=some (.int .i64 mm)/\w'.cell? ⟨g9,1,none⟩=some (.int .i64 yc)] ⟨fun w h=>by rw[h];exact⟨e7,e9⟩,trivial⟩ rfl (fun⟨a,w,h⟩=>h) rfl fi fi fi rfl ?_;generalize W1.drew=W2 at *
    (repeat(first|refine kE ?_|refine kF ?_))
    refine eD rfl ft (fun K hK=>?_);go_wp2_with fail;refine KI.o.mono ?_;rintro bn w9 ⟨L'',rfl,k1,k2,k3,hR9⟩;have aa:=(hR9.perm (by unfold gG;ac_rfl):aI F0 w0 (aj (av g8 (gb mm) 3) (aj (aj (av V (gG s) 175) (aj (lM b L'') (aj (yV W x b bm bw bf) X))) (aj (av M (gl xi xj (bs xa) xr) 175) (aj (av g9 (gS (yx:Nat) yc yA yf.length yn (bs yt)) 181) R)))) w9);have aE:(aj (aj (av V (gG s) 175) (aj (lM b L'') (aj (yV W x b bm bw bf) X))) (aj (av M (gl xi xj (bs xa) xr) 175) (aj (av g9 (gS (yx:Nat) yc yA yf.length yn (bs yt)) 181) R))).Ok:=ay (ay aC (ay jW (ay uh HX.o))) (ay aC (ay aC a8.o));obtain⟨F7,z⟩:=aa.fst;have q7:=aB (i:=0) z rfl;have p7:=aP z 0;obtain⟨F9,ak⟩:=(aa.drop.drop.drop).fst;have q9:w9.cell? ⟨g9,1,none⟩=some (.int .i64 yc):=aB (i:=1) ak rfl;have H9:=au (aJ aa aE 0 (.int .i64 (min mm (yc+dd))));have be:=au (aw.o L'' k1 k2 k3);refine hK.o _ _ ⟨q7,q9⟩ ?_;clear hK KI z ak hR9 aa k1 k2 k3 aw aE y0 y1 y2 y3 e7 e9 d0 d1 d2 d3 m0 f0
    (repeat(first|refine kE ?_|refine kF ?_))
    refine eD rfl ft (fun K hK=>?_);go_wp2;have bd:wrap64 (yc+dd)=yc+dd:=by
     unfold never at az;exact Zr (yc+dd) ff
    rw[bd];refine hK.o _ _ trivial (rZ ?_);have I:aI F0 w0 (aj (pG fun L':List (St × Int)=>yU (Ua W s L (i+1) L') (aj (av g8 (gb (kK W s (i+1))) 3) (aj (av V (gG s) 175) (aj (lM b L') (aj (yV W x b bm bw bf) X))))) R) (w9.setCell ⟨g8,0,none⟩ (.int .i64 (min mm (yc+dd)))):=by
     refine aI.uf L'' (aI.kD be.o ?_);rw[ar.o];exact(H9.o.perm (by ac_rfl):aI F0 w0 (aj (av g9 (gS (yx:Nat) yc yA yf.length yn (bs yt)) 181) (aj (av M (gl xi xj (bs xa) xr) 175) (aj (aj (av g8 (gb (min mm (yc+dd))) 3) (aj (av V (gG s) 175) (aj (lM b L'') (aj (yV W x b bm bw bf) X)))) R))) _).drop.drop
    exact I
   ·intro D R W1 hR hI;obtain⟨L',h1⟩:=hI.ex;obtain⟨J,h2⟩:=h1.pure;rw[<-FU HM.o HS.o] at J h2;obtain⟨k1,k2,k3,k4⟩:=Le J HS.o a4.o;rw[Fj HS.o] at h2;have ae:(aj (bQ D (.deferred (some []))) (aj (av g8 (gb (W.fS s)) 3) (aj (av V (gG s) 175) (aj (yV W x b bm bw bf) (aj X R))))).Ok:=ay bX (ay aC (ay aC (ay uh (ay HX.o hR))));have h3:=(h2.perm (by ac_rfl):aI F0 w0 (aj (lM b L') (aj (bQ D (.deferred (some []))) (aj (av g8 (gb (W.fS s)) 3) (aj (av V (gG s) 175) (aj (yV W x b bm bw bf) (aj X R)))))) W1);obtain⟨c0,c1,c2,c3,-⟩:=aY (h3.drop.drop.drop:aI F0 w0 (aj (av V (gl s.i s.j (bs s.a) s.r) 175) _) W1);obtain⟨m0,f0,d0,d1,d2,d3⟩:=l7 h3.drop.drop.drop.drop;obtain⟨F7,z⟩:=h3.drop.drop.fst;have e7:=aB (i:=0) z rfl;obtain⟨FM,a0,-,bk⟩:=h3.take jW ae;obtain⟨w',a2,ai⟩:=oU wR Tryz.underlying172 a0 s (.int .i64 (W.fS s));have h4:=bk _ _ ai;have aS:lG (L'.map fun p=>(p.1,Value.int .i64 p.2)) s (.int .i64 (W.fS s))=(L'++[(s,W.fS s)]).map fun p=>(p.1,Value.int .i64 p.2):=by
     rw[oV (by rw[lj];exact k4),YS];rfl
    rw[aS] at h4;have H4:=au (show aI F0 w0 (aj (lM b (L'++[(s,W.fS s)])) _) w' from h4);obtain⟨F8,ax⟩:=h4.drop.drop.fst;have e8:=aB (i:=0) ax rfl;obtain⟨FD,hD,-,a1⟩:=(H4.o.oM).take bX (ay jW (ay aC (ay aC (ay uh (ay HX.o hR)))));have HD:=au hD.1;have h5:=(a1 _ _ (ji hD (.deferred none))).perm (by ac_rfl:_=aj (aj (bQ D (.deferred none)) (aj (av g8 (gb (W.fS s)) 3) (aj (av V (gG s) 175) R))) (aj (lM b (L'++[(s,W.fS s)])) (aj (yV W x b bm bw bf) X)));have HF:=au (show Lr W x s L F0 w0 b bm bw bf X (.returned (.int .i64 (W.fS s))) (w'.putObj D (.deferred none)) from⟨_,rfl,k1,k2,k3,h5.drop⟩);unfold VD gG at a2;clear hI h1 h2 h3 h4 h5 J k1 k2 k3 k4 ae z ax a0 bk ai aS H4 hD a1 hR;go_wp2_with fail;refine⟨by simp,.inl ⟨_,_,rfl,run_takeDeferred HD.o,?_⟩⟩;refine⟨_,results_tmp rfl _ _ _,?_⟩;exact HF.o
   ·intro D c R W1 hR hI;exact hI.no.elim
  have HC:=au cut;clear cut;have bj:=au am;have bc:=au ao;clear am ao;go_wp2_with fail;refine KD.o.mono ?_;rintro e9 w5 ⟨rfl,hb⟩;have H5:=au (H3.o.below (ay aC aQ) hb);clear H3 hb KD c0 c1 c2 c3 m0 f0 d0 d1 d2 d3;rw[FP HS.o];dsimp only
  iterate 2 (first|go_values|go_guarded|go_step)
  refine bc.o _ _ ?_;by_cases I:s=W.fin
  ·rw[decide_eq_true I];have ap:=au (show kK W s 0=0 from by rw[wM,if_pos I]);clear I;obtain⟨F7,z⟩:=H5.o.fst;have e7:=aB (i:=0) z rfl;have f7:=aP z 0;clear z F7;go_wp2;refine HC.o _ _ _ _ _ ?_;rw[ap.o];exact aJ H5.o aQ 0 (.int .i64 0)
  ·rw[decide_eq_false I];have ap:=au (show kK W s 0=1099511627776 from by rw[wM,if_neg I];rfl);clear I;go_wp2;refine HC.o _ _ _ _ _ ?_;rw[ap.o];exact H5.o
theorem DY{P:Program}{a:Addr}{m:Mode}(fn:Fn)(first captured:Array Value):(store a (.func fn first captured) m).run P w=stored P w a (.func fn first captured) m:=run_store P w a _ m rfl
attribute [local go_sem] DY
def FV(W:Wd)(w:World)(e:Ending)(w':World):Prop:=∃ b L,e=.returned (.map (some b))/\Kn W L/\gR ∈ fU L/\bS w fh (lM b L) w'
theorem Nw{W:Wd}{x:WA}(hP:Tc W x w)(hS:Td W x)(hg:W.good)(ht:W.xR)(hm:Ji W x):Calls Tryz.prog 96 #[.agg (bD W x)] w (FV W w):=by
 have r1:=aH (aI.begin w) aO (bD W x) 169;have r2:aI fh w (aj (lM (w.heap.size+1) []) (aj (av w.heap.size (bD W x) 169) aS)) ((w.alloc (.cells (bD W x) 169)).alloc (.map #[] 0)):=by
  have:=r1.fresh aQ (lX (kv:=VD) (w.alloc (.cells (bD W x) 169)));rw[YN] at this;exact this
 have r3:=aH r2 aQ #[.map (some (w.heap.size+1))] 172;have V:=aH r3 aQ #[Value.nilFunc] 213;have e2:((w.alloc (.cells (bD W x) 169)).alloc (.map #[] 0)).heap.size=w.heap.size+1+1:=by rw[YN,YN]
 rw[YN,e2] at V;have J:=au V;have M:=au (fun w9 p=>Wv (W:=W) (x:=x) (b:=w.heap.size+1) (bm:=w.heap.size+1+1) (bw:=w.heap.size) (bf:=w.heap.size+1+1+1) (F0:=fun _=>False) (w0:=w) (fun W' hm=>hP.below (hm.below (fun _ _ h=>h))) hS hg ht hm (W.gD gR+1) gR [] aS w9 (sy _) kh (YE _) Ws aO p);have ab:∀ w:World,(Instr.makeMap 172 none).run Tryz.prog w=.ok (.map (some w.heap.size)) (w.alloc (.map #[] 0)):=fun w=>by kernel_rfl
 clear r1 r2 r3 V e2 hP hS hg ht hm;unfold bD at J ⊢;unfold VD gR gG at M;dsimp only at M
 go_enter Tryz.func96,Tryz.ntmps96
 go_upto_region 3 with (fail);generalize (((w.alloc (.cells (hJ x.a.L W.l.length x.a.lc x.a.R x.a.q.length x.a.rc x.b.L W.m.length x.b.lc x.b.R x.b.q.length x.b.rc) 169)).alloc (.map #[] 0)).alloc (.cells #[.map (some (w.heap.size+1))] 172)).alloc (.cells #[Value.nilFunc] 213)=w4 at *
 generalize w.heap.size+1+1+1=bf at *
 generalize w.heap.size+1+1=bm at *
 generalize w.heap.size+1=b at *
 generalize w.heap.size=bw at *
 obtain⟨F,z⟩:=J.o.fst;have e4:=aB (i:=0) z rfl;have f4:=aP z 0;clear z F;go_upto_region 4 with (fail);have R5:=au (show aI fh w (aj (av bf #[Uh bm bw bf] 213) _) (w4.setCell ⟨bf,0,none⟩ (.func (.func 125) #[] (mr (some ⟨bm,0,none⟩) (some ⟨bw,0,none⟩) (some ⟨bf,0,none⟩)))) from aJ J.o aQ 0 (Uh bm bw bf));clear J e4 f4;generalize w4.setCell ⟨bf,0,none⟩ (.func (.func 125) #[] (mr (some ⟨bm,0,none⟩) (some ⟨bw,0,none⟩) (some ⟨bf,0,none⟩)))=w5 at *
 obtain⟨F,z⟩:=R5.o.fst;have e5:=aB (i:=0) z rfl;unfold Uh at e5;clear z F;have KF:=au (M.o w5 (R5.o.perm (by unfold yV bD;ac_rfl:_=aj (lM b []) (aj (yV W x b bm bw bf) aS))));clear M R5;go_wp2_with fail;refine KF.o.mono ?_;rintro e9 w9 ⟨L,rfl,hkn,hext,hmem,p⟩;have R6:=au p;have aa:=au hkn;have I:=au hmem;obtain⟨m0,-⟩:=l7 p.drop;have HF:=au (show FV W w (.returned (.map (some b))) w9 from⟨b,L,rfl,hkn,hmem,(p.swap.drop).post jW⟩);clear R6 aa I hkn hext hmem p KF;go_wp2;go_ret;exact HF.o
def aV(A:fj)(c:Nat)(l:List Int):CH.bq:=aZ 3 1 (.slice A l.length c) l.length (l.map (Value.int .i64))
variable{g15 I:Nat}{l m:List Int}{w1:World}{K:Act->World->Prop}{f:Bs}{z y:RA × St}
theorem bV:(aV A c l).Ok:=cB
instance {A:fj} {c:Nat} {l:List Int}:(aV A c l).Ok:=bV
theorem oH(w:World):aV none 0 [] w fh:=fZ w 3 1
theorem VE:d9 Tryz.prog 40 3 (.int .i64 0) 1 8:=⟨Tryz.underlying40,by kernel_rfl,by decide,by decide⟩
theorem Qe{x:Int}:aZ 3 1 (.slice A (l.length+1) c) (l.length+1) (l.map (Value.int .i64)++[Value.int .i64 x])=aV A c (l++[x]):=by
 unfold aV;rw[YS,Yz,Y1,Zb,Z7]
theorem DZ{W:World}{Y:CH.bq}{o:Oper}(s x:Operand)(ho:o.op=.call { callee:=.builtin .append,args:=#[s,x],argTypes:=#[40,40] })(p:Int)(hl:l.length=n)(hsv:a.eval s=.slice A n c)(hx:a.eval x=.slice (some ⟨g,0,none⟩) 1 1)(hn:n<=1000000)(hY:Y.Ok)(h:aI F0 w0 (aj (aV A c l) Y) W)(hg:W.cell? ⟨g,0,none⟩=some (.int .i64 p))(hK:∀ A' c' w',aI F0 w0 (aj (aV A' c' (l++[p])) Y) w'->K (a.put o.dst (.slice A' (n+1) c')) w'):o.wp Tryz.prog a W K Q:=by
 subst hl;obtain⟨F7,F,-,M⟩:=h.take bV hY;have z:Src W (some ⟨g,0,none⟩) 1 1 [Value.int .i64 p]:=by
  refine⟨rfl,fun u I=>by rw[List.mem_singleton.1 I];rfl,fun _=>⟨_,rfl,fun j u I=>?_⟩⟩;cases j with
  | zero=>
   have e:u=.int .i64 p:=by simpa using I.symm
   rw[e];exact hg
  | succ j=>simp at I
 refine yR s x ho VE _ 0 (v:=.slice A l.length c) (n:=l.length) (xs:=l.map (Value.int .i64)) hsv F.1 (A:=some ⟨g,0,none⟩) (m:=1) (c:=1) (news:=[Value.int .i64 p]) hx z (by unfold maxLen;omega) ff (YE _) ?_;intro v8 w8 q V J;have S8:=M _ _ (iy F q V J);obtain⟨A8,c8,rfl⟩:=fV q;rw[Qe] at S8;exact hK A8 c8 w8 S8
theorem Ww(a b:ByteArray):bl (a++b)=bl a++bl b:=by
 obtain⟨a⟩:=a;obtain⟨b⟩:=b
 show(ByteArray.mk a++ByteArray.mk b).data.toList=a.toList++b.toList
 rw[ByteArray.data_append];simp
theorem D5(a b:Bs):bs (a++b)=bs a++bs b:=DJ (by rw[Ww,fO,fO,fO])
structure DD where
 A:fj
 ac:Nat
 l:List Int
 B:fj
 bc:Nat
 m:List Int
 f:Bs
def BK(c:Int)(q:DD):Array Value:=(fY c q.A q.l.length q.ac q.B q.m.length q.bc (bs q.f))
def qz(W:Wd)(x:WA)(b:Nat)(L:List (St × Int))(c:Int)(g12 g14 g15 g16:Nat)(s:St)(q:DD)(Ds:List Nat):CH.bq:=
 aj (av g15 (gG s) 175) (aj (av g16 (BK c q) 42) (aj (aV q.A q.ac q.l) (aj (aV q.B q.bc q.m) (aj (av g14 #[.map (some b)] 172) (aj (av g12 (bD W x) 169) (aj (lM b L) (fA Ds)))))))
theorem pU{x:WA}{L:List (St × Int)}{c:Int}{g12 g14 g16:Nat}{q:DD}{Ds:List Nat}:(qz W x b L c g12 g14 g15 g16 s q Ds).Ok:=
 ay aC (ay aC (ay bV (ay bV (ay aC (ay aC (ay jW mP))))))
instance {W:Wd} {x:WA} {b:Nat} {L:List (St × Int)} {c:Int} {g12 g14 g15 g16:Nat} {s:St} {q:DD} {Ds:List Nat}:(qz W x b L c g12 g14 g15 g16 s q Ds).Ok:=pU
theorem jg{x:WA}{L:List (St × Int)}{c:Int}{z p:Nat}{q:DD}{J:List Nat}{R:CH.bq}(h:aI F w1 (aj (qz W x b L c I z g15 p s q J) R) w):
  (i6 w g15 (.int .i64 s.i) (.int .i64 s.j) (.string (bs s.a)) (.bool s.r)) /\
  (i6 w p (.int .i64 c) (.slice q.A q.l.length q.ac) (.slice q.B q.m.length q.bc) (.string (bs q.f))) /\
  w.cell? ⟨z,0,none⟩=some (.map (some b)) /\
  (i6 w I (.slice x.a.L W.l.length x.a.lc) (.slice x.a.R x.a.q.length x.a.rc) (.slice x.b.L W.m.length x.b.lc) (.slice x.b.R x.b.q.length x.b.rc)) /\
  (∃ F',lM b L w F')/\(∀ i,w.frozen? ⟨g15,i,none⟩=false)/\(∀ i,w.frozen? ⟨p,i,none⟩=false):=by
 obtain⟨f1,M⟩:=(h.perm (by unfold qz;ac_rfl:_=aj (av g15 (gG s) 175) (aj (aj (av p (BK c q) 42) (aj (aV q.A q.ac q.l) (aj (aV q.B q.bc q.m) (aj (av z #[.map (some b)] 172) (aj (av I (bD W x) 169) (aj (lM b L) (fA J))))))) R))).fst;obtain⟨f2,V⟩:=(h.perm (by unfold qz;ac_rfl:_=aj (av p (BK c q) 42) (aj (aj (av g15 (gG s) 175) (aj (aV q.A q.ac q.l) (aj (aV q.B q.bc q.m) (aj (av z #[.map (some b)] 172) (aj (av I (bD W x) 169) (aj (lM b L) (fA J))))))) R))).fst;obtain⟨f3,h3⟩:=(h.perm (by unfold qz;ac_rfl:_=aj (av z #[.map (some b)] 172) (aj (aj (av g15 (gG s) 175) (aj (aV q.A q.ac q.l) (aj (aV q.B q.bc q.m) (aj (av p (BK c q) 42) (aj (av I (bD W x) 169) (aj (lM b L) (fA J))))))) R))).fst;obtain⟨f4,h4⟩:=(h.perm (by unfold qz;ac_rfl:_=aj (av I (bD W x) 169) (aj (aj (av g15 (gG s) 175) (aj (aV q.A q.ac q.l) (aj (aV q.B q.bc q.m) (aj (av p (BK c q) 42) (aj (av z #[.map (some b)] 172) (aj (lM b L) (fA J))))))) R))).fst;obtain⟨f5,h5⟩:=(h.perm (by unfold qz;ac_rfl:_=aj (lM b L) (aj (aj (av g15 (gG s) 175) (aj (aV q.A q.ac q.l) (aj (aV q.B q.bc q.m) (aj (av p (BK c q) 42) (aj (av z #[.map (some b)] 172) (aj (av I (bD W x) 169) (fA J))))))) R))).fst;exact⟨⟨aB M rfl,aB M rfl,aB M rfl,aB M rfl⟩,⟨aB V rfl,aB V rfl,aB V rfl,aB V rfl⟩,aB h3 rfl,⟨aB h4 rfl,aB h4 rfl,aB h4 rfl,aB h4 rfl⟩,⟨f5,h5⟩,fun i=>aP M i,fun i=>aP V i⟩
def Wx(W:Wd)(s:St)(l m:List Int)(f:Bs):Prop:=∃ n,W.gD s<=n/\W.fT (W.gD gR) gR=(l++(W.fT n s).1,m++(W.fT n s).2.1,f++(W.fT n s).2.2)
theorem Cv:Wx W gR [] [] []:=⟨_,YG _,rfl⟩
theorem Ls(h:Wx W s l m f)(hf:s=W.fin):W.fT (W.gD gR) gR=(l,m,f):=by
 obtain⟨n,-,h⟩:=h;have e:W.fT n s=([],[],[]):=by
  cases n with
  | zero=>rfl
  | succ n=>unfold Wd.fT;rw[if_pos hf]
 rw[e,Y2,Y2,Y2] at h;exact h
theorem FW{s':St}{r:AR}(h:Wx W s l m f)(z:s≠W.fin)(q:W.pick s=some (r,s'))(J:W.gD s'<W.gD s):
  (s.i<s'.i->Wx W s' (l++[(r.ix:Int)]) m (f++r.t))/\(¬ s.i<s'.i->Wx W s' l (m++[(r.ix:Int)]) f):=by
 obtain⟨n,I,h⟩:=h;obtain⟨n,rfl⟩:∃ F,n=F+1:=⟨n-1,by omega⟩;rw[Wd.fT,if_neg z,q] at h;simp only at h;constructor
 ·intro p;rw[if_pos p] at h;refine⟨n,by omega,?_⟩;rw[h,Y3,Y3];rfl
 ·intro p;rw[if_neg p] at h;refine⟨n,by omega,?_⟩;rw[h,Y3];rfl
theorem Uj{x:WA}(I:Td W x)(q:(dx W x s)[i]?=some z)(M:∀ j (h:j<(dx W x s).length),j<i->¬ (dx W x s)[j].1.r.c+W.fS (dx W x s)[j].2=W.fS s)(F:z.1.r.c+W.fS z.2=W.fS s):W.pick s=some (z.1.r,z.2):=by
 unfold Wd.pick;rw[<-FK I,List.find?_map];have:(dx W x s).find? ((fun p:AR × St=>decide (p.1.c+W.fS p.2=W.fS s)) ∘ fun p:RA × St=>(p.1.r,p.2))=some z:=by
  rw[ZU];obtain⟨hi,J⟩:=List.getElem?_eq_some_iff.1 q;refine⟨decide_eq_true F,i,hi,J,fun j h=>?_⟩;rw[Z4];exact decide_eq_false (M j ff h)
 rw[this];rfl
structure Te(W:Wd)(L:List (St × Int))(s:St)(q:DD):Prop where
 ok:W.ok s
 a3:s.a.length<=3
 inL:s ∈ fU L
 lt:W.fS s<never
 nl:q.l.length+W.gD s<=W.gD gR
 nm:q.m.length+W.gD s<=W.gD gR
 nf:q.f.length+1000000*W.gD s<=1000000*W.gD gR
 bn:Wx W s q.l q.m q.f
def FX(W:Wd)(s:St)(p:RA × St):Prop:=p.1.r.c+W.fS p.2=W.fS s
def Jj(W:Wd)(x:WA)(s:St)(i:Nat):Prop:=∀ j (hj:j<(dx W x s).length),j<i->¬ FX W s (dx W x s)[j]
theorem Qg{x:WA}:Jj W x s 0:=fun j _ h=>absurd h (Zn _)
theorem Qh{x:WA}(hx:(dx W x s)[i]?=some y)(h:Jj W x s i)(h2:¬ FX W s y):Jj W x s (i+1):=fun j hj hji=>by
 by_cases e:j=i
 ·subst e;rw[YH hj] at hx;injection hx with hx
  rw[hx];exact h2
 ·exact h j hj ff
theorem Uk{x:WA}(hm:Ji W x)(I:W.ok s)(q:W.fS s<never)(z:s≠W.fin):¬ Jj W x s (dx W x s).length:=fun h=>by
 have e:=jU (W:=W) I;rcases fold_eq (fun x:Int × St=>x.1+W.fS x.2) (W.moves s) (if s=W.fin then 0 else never) with h1|⟨p,hp,h1⟩
 ·rw[if_neg z] at h1;rw[e] at q;rw[if_neg z] at q;rw[h1] at q;omega
 ·rw[<-hm s I] at hp;obtain⟨y,J,rfl⟩:=List.mem_map.1 hp;obtain⟨j,F,rfl⟩:=List.mem_iff_getElem.1 J;refine h j F F ?_;unfold FX;rw[e];exact h1.symm
theorem Qi{x:WA}(hm:Ji W x)(hs:W.ok s)(hy:y ∈ dx W x s):(y.1.r.c,y.2) ∈ W.moves s:=by
 rw[<-hm s hs];exact List.mem_map.2 ⟨y,hy,rfl⟩
theorem Qj{L:List (St × Int)}(h:Kn W L)(hs:s ∈ fU L):(ny (L.map fun p=>(p.1,Value.int .i64 p.2)) s).getD (.int .i64 0)=.int .i64 (W.fS s):=by
 obtain⟨v,hv⟩:=mem_keys.1 hs;rw[DX h.nd hv,show v=W.fS s from h.val _ hv];rfl
theorem Jk{L:List (St × Int)}(h:Kn W L)(hF:lM b L w F)(hs:s ∈ fU L):
  (Instr.lookup 172 (.map (some b)) (.agg (gl s.i s.j (bs s.a) s.r)) false).run Tryz.prog w=.ok (.int .i64 (W.fS s)) w:=by
 have:=FN hF s false;rw[Qj h hs] at this;exact this
theorem Ny{x:WA}(h:z ∈ dx W x s):z.1 ∈ (x.at (W.left s)).q:=by
 unfold dx at h;obtain⟨y,hy,he⟩:=List.mem_filterMap.1 h;unfold uU at he;obtain⟨p,-,hp⟩:=Option.map_eq_some_iff.1 he;rw[<-hp];exact hy
theorem Td.Ym{x:WA}(h:Td W x)(hz:z ∈ dx W x s):z.1.r.t.length<=1000000:=((h.at (W.left s)).2.2.2 _ (Ny hz)).2
def Yu(F:Nat->Prop)(J:World)(W:Wd)(x:WA)(b:Nat)(L:List (St × Int))(c:Int)(I z p g15 h:Nat)(a:Act)(wr:World):Prop:=
 ∃ (v:Nat->Value) (Ds:List Nat) (s:St) (q:DD) (R:CH.bq),R.Ok/\(aI F J (aj (qz W x b L c z p g15 h s q Ds) R) wr/\Te W L s q) /\
  a={ tmps:=#[v 0,v 1,v 2,v 3,v 4,v 5,v 6,v 7,v 8,v 9,.pointer (some ⟨I,0,none⟩),v 11,.pointer (some ⟨z,0,none⟩),v 13,.pointer (some ⟨p,0,none⟩),.pointer (some ⟨g15,0,none⟩),.pointer (some ⟨h,0,none⟩),v 17,v 18,v 19,v 20,v 21,v 22,v 23,v 24,v 25,v 26,v 27,v 28,v 29,v 30,v 31,v 32,v 33,v 34,v 35,v 36,v 37,v 38,v 39,v 40,v 41,v 42,v 43,v 44,v 45,v 46,v 47,v 48,v 49,v 50,v 51,v 52,v 53,v 54,v 55,v 56,v 57,v 58,v 59,v 60,v 61,v 62,v 63,v 64,v 65,v 66,v 67,v 68,v 69,v 70,v 71,v 72,v 73,v 74,v 75,v 76,v 77,v 78,v 79,v 80,v 81,v 82,v 83,v 84,v 85,v 86,v 87,v 88],defers:=Ds.map QG }
theorem Ul{z q F:Nat}(p:Array Value)(h:p.size=89)(V:p.getD 10 undef=.pointer (some ⟨z,0,none⟩))(aa:p.getD 12 undef=.pointer (some ⟨I,0,none⟩))(M:p.getD 14 undef=.pointer (some ⟨q,0,none⟩))(ab:p.getD 15 undef=.pointer (some ⟨g15,0,none⟩))(J:p.getD 16 undef=.pointer (some ⟨F,0,none⟩)):
  ∃ v:Nat->Value,p=#[v 0,v 1,v 2,v 3,v 4,v 5,v 6,v 7,v 8,v 9,.pointer (some ⟨z,0,none⟩),v 11,.pointer (some ⟨I,0,none⟩),v 13,.pointer (some ⟨q,0,none⟩),.pointer (some ⟨g15,0,none⟩),.pointer (some ⟨F,0,none⟩),v 17,v 18,v 19,v 20,v 21,v 22,v 23,v 24,v 25,v 26,v 27,v 28,v 29,v 30,v 31,v 32,v 33,v 34,v 35,v 36,v 37,v 38,v 39,v 40,v 41,v 42,v 43,v 44,v 45,v 46,v 47,v 48,v 49,v 50,v 51,v 52,v 53,v 54,v 55,v 56,v 57,v 58,v 59,v 60,v 61,v 62,v 63,v 64,v 65,v 66,v 67,v 68,v 69,v 70,v 71,v 72,v 73,v 74,v 75,v 76,v 77,v 78,v 79,v 80,v 81,v 82,v 83,v 84,v 85,v 86,v 87,v 88]:=by
 have e:p=#[p.getD 0 undef,p.getD 1 undef,p.getD 2 undef,p.getD 3 undef,p.getD 4 undef,p.getD 5 undef,p.getD 6 undef,p.getD 7 undef,p.getD 8 undef,p.getD 9 undef,p.getD 10 undef,p.getD 11 undef,p.getD 12 undef,p.getD 13 undef,p.getD 14 undef,p.getD 15 undef,p.getD 16 undef,p.getD 17 undef,p.getD 18 undef,p.getD 19 undef,p.getD 20 undef,p.getD 21 undef,p.getD 22 undef,p.getD 23 undef,p.getD 24 undef,p.getD 25 undef,p.getD 26 undef,p.getD 27 undef,p.getD 28 undef,p.getD 29 undef,p.getD 30 undef,p.getD 31 undef,p.getD 32 undef,p.getD 33 undef,p.getD 34 undef,p.getD 35 undef,p.getD 36 undef,p.getD 37 undef,p.getD 38 undef,p.getD 39 undef,p.getD 40 undef,p.getD 41 undef,p.getD 42 undef,p.getD 43 undef,p.getD 44 undef,p.getD 45 undef,p.getD 46 undef,p.getD 47 undef,p.getD 48 undef,p.getD 49 undef,p.getD 50 undef,p.getD 51 undef,p.getD 52 undef,p.getD 53 undef,p.getD 54 undef,p.getD 55 undef,p.getD 56 undef,p.getD 57 undef,p.getD 58 undef,p.getD 59 undef,p.getD 60 undef,p.getD 61 undef,p.getD 62 undef,p.getD 63 undef,p.getD 64 undef,p.getD 65 undef,p.getD 66 undef,p.getD 67 undef,p.getD 68 undef,p.getD 69 undef,p.getD 70 undef,p.getD 71 undef,p.getD 72 undef,p.getD 73 undef,p.getD 74 undef,p.getD 75 undef,p.getD 76 undef,p.getD 77 undef,p.getD 78 undef,p.getD 79 undef,p.getD 80 undef,p.getD 81 undef,p.getD 82 undef,p.getD 83 undef,p.getD 84 undef,p.getD 85 undef,p.getD 86 undef,p.getD 87 undef,p.getD 88 undef]:=WJ p 89 h;rw[V,aa,M,ab,J] at e;exact⟨fun i=>p.getD i undef,e⟩
theorem VF{wr:World}{x:WA}{L:List (St × Int)}{c:Int}{M J z:Nat}{p:Array Value}{df:List Deferred}(Ds:List Nat){q:DD}{R:CH.bq}(h:p.size=89)(aa:p.getD 10 undef=.pointer (some ⟨M,0,none⟩))(ab:p.getD 12 undef=.pointer (some ⟨J,0,none⟩))(V:p.getD 14 undef=.pointer (some ⟨I,0,none⟩))(ad:p.getD 15 undef=.pointer (some ⟨g15,0,none⟩))(ac:p.getD 16 undef=.pointer (some ⟨z,0,none⟩))(hd:df=Ds.map QG)(hR:R.Ok)(h1:aI F w1 (aj (qz W x b L c J I g15 z s q Ds) R) wr)(hp:Te W L s q):Yu F w1 W x b L c M J I g15 z { tmps:=p,defers:=df } wr:=by
 obtain⟨v,hv⟩:=Ul p h aa ab V ad ac;subst hd;exact⟨v,Ds,s,q,R,hR,⟨h1,hp⟩,by rw[hv]⟩
def Jl(W:Wd)(g15:Nat)(w:World):Nat:=match w.cell? ⟨g15,0,none⟩,w.cell? ⟨g15,1,none⟩ with
 | some (.int _ i),some (.int _ j)=>(W.l.length-i.toNat)+(W.m.length-j.toNat)
 | _,_=>0
theorem Lu(h:aI F w1 (aj (av g15 (gG s) 175) X) w):Jl W g15 w=W.gD s:=by
 obtain⟨c0,c1,-⟩:=aY (h:aI F w1 (aj (av g15 (gl s.i s.j (bs s.a) s.r) 175) X) w);unfold Jl;rw[c0,c1];rfl
def iD(w:World)(A:fj)(l:List Int):Prop:=Src w A l.length 1 (l.map (Value.int .i64))
theorem iD.below(h:iD w A l)(hb:Below w.heap.size w w'):iD w' A l:=aT h hb
theorem FY(l:List Int):∀ u ∈ l.map (Value.int .i64),u.oneCell'=true:=fun u hu=>by obtain⟨x,-,rfl⟩:=List.mem_map.1 hu;rfl
theorem iL(q:Below w.heap.size w w'):bS w fh (aj (aV none 0 []) (aV none 0 [])) w':=by
 have p:=((aI.begin w).below aO q).fresh aO (⟨fun _=>False,oH _,Mod.refl _ _,fun i hi=>.inl hi⟩:bS _ fh (aV none 0 []) _);have h:=p.fresh aQ (⟨fun _=>False,oH _,Mod.refl _ _,fun i hi=>.inl hi⟩:bS _ fh (aV none 0 []) _);exact((h.perm (by ac_rfl:_=aj aS (aj (aV none 0 []) (aV none 0 [])))).drop).post aQ
theorem yX(h:aV A c l w F):iD w A l:=iG h (FY l)
def jZ(w:World)(T:fy)(k:Int)(x:Bs)(k2:Int)(y:Bs)(e:Ending)(w':World):Prop:=
 ∃ (d:Dv) (er:Int) (A:fj) (c:Nat) (B:fj) (c2:Nat),e=.returned (.tuple #[.agg (fY d.c A d.L.length c B d.M.length c2 (bs d.F)),.int .i64 er])/\qm T k x k2 y d er/\bS w fh (aj (aV A c d.L) (aV B c2 d.M)) w'
variable{v:Value}
theorem jy{I F z a3:Value}(h:aI F0 w0 (aj (av g #[I,F,z,a3] t) X) w)(q:X.Ok)(p b1 b2 b3:Value):
  aI F0 w0 (aj (av g #[p,b1,b2,b3] t) X) ((((w.setCell ⟨g,0,none⟩ p).setCell ⟨g,1,none⟩ b1).setCell ⟨g,2,none⟩ b2).setCell ⟨g,3,none⟩ b3):=by
 have M:aI F0 w0 (aj (av g #[p,F,z,a3] t) X) _:=aJ h q 0 p;have J:aI F0 w0 (aj (av g #[p,b1,z,a3] t) X) _:=aJ M q 1 b1;have V:aI F0 w0 (aj (av g #[p,b1,b2,a3] t) X) _:=aJ J q 2 b2;exact aJ V q 3 b3
theorem Ql{tmps:Array Value}{cs:Array Value}(h:tmps.getD 10 undef=.pointer (some ⟨g,0,none⟩))(z:cs.size=4)(q:av g cs 42 w F)(p:tmps.getD 11 undef=v):(results Tryz.f56 tmps).run Tryz.prog w=.ok (.tuple #[.agg cs,v]) w:=by
 subst p;exact dH rfl tmps w g 42 cs (0,0) h q.1 Tryz.underlying42 (by rw[z];kernel_rfl)
theorem Ab{a:TA}(hT:iR w T a)(hz:LZ w)(k:Int)(x:Bs)(k2:Int)(y:Bs)(hx:x.length<=1000000)(hy:y.length<=1000000):
  Calls Tryz.prog 56 #[eu T a,.int .i64 k,.string (bs x),.int .i64 k2,.string (bs y)] w (jZ w T k x k2 y):=by
 have h1:=aH (aI.begin w) aO (dh T a) 25;have h2:=aH h1 aQ (fY 0 none 0 0 none 0 0 ⟨#[]⟩) 42;rw[YN] at h2;have H2:=au h2;have aw:=au (show Below w.heap.size w _ from h2.mod.below (fun _ _ h=>h));have KO:=au (FJ (hT.below aw.o) (hz.below aw.o) k x k2 y hx hy);clear hT hz h1 h2;unfold eu at KO ⊢;unfold dh at KO H2 aw ⊢;refine(callsIn_wide (n:=8)).1 ?_;refine callsIn_of_wp_marks Tryz.func56 rfl trivial ?_ rfl;simp only[Tryz.ntmps56,kz,YR,Zz,Nat.reduceAdd,Nat.reduceSub,ZN,ZO,kB,ZX,Z8,Zq];refine(wpIn_wide (n:=8)).2 ?_;go_wp2_with fail;refine KO.o.mono ?_;rintro e9 w1 ⟨wa,rfl,hb,hok⟩;have H3:=au (H2.o.below aQ hb);have af:=au (aw.o.trans (hb.mono aw.o.size));have a1:=au hok;clear KO hb hok H2 aw;obtain⟨W,hW⟩:∃ W,W=Ta T k x k2 y:=⟨_,rfl⟩;rw[<-hW] at a1 ⊢;have HW:=au hW;clear hW;unfold bD;generalize cd:okW T k x k2 y=ob at a1 ⊢;have ap:=au cd;clear cd;go_upto_region 2 with (fail);have H4:=au (aH H3.o aQ (bD W wa) 169);unfold bD at H4;have bk:=au (aH (aI.begin w1) aO (hJ wa.a.L W.l.length wa.a.lc wa.a.R wa.a.q.length wa.a.rc wa.b.L W.m.length wa.b.lc wa.b.R wa.b.q.length wa.b.rc) 169);have bo:=au (show Below w1.heap.size w1 (w1.alloc (.cells (hJ wa.a.L W.l.length wa.a.lc wa.a.R wa.a.q.length wa.a.rc wa.b.L W.m.length wa.b.lc wa.b.R wa.b.q.length wa.b.rc) 169)) from(YC _ _).alloc (YG _) _);generalize cq:w1.alloc (.cells (hJ wa.a.L W.l.length wa.a.lc wa.a.R wa.a.q.length wa.a.rc wa.b.L W.m.length wa.b.lc wa.b.R wa.b.q.length wa.b.rc) 169)=w3 at *
 clear cq;generalize w1.heap.size=M at H4 bk ⊢;generalize w.heap.size+1=ao at *
 generalize w.heap.size=g5 at H4 H3 ⊢;cases ob with
 | false=>
  have H5:=au (H4.o.drop.perm (by ac_rfl):aI _ _ (aj (av ao (fY 0 none 0 0 none 0 0 ⟨#[]⟩) 42) (aj (av g5 (ie T a) 25) aS)) w3);have cC:=au (af.o.trans (bo.o.mono af.o.size));obtain⟨F,hF⟩:=H5.o.fst;have e0:=aB (i:=0) hF rfl;have e1:=aB (i:=1) hF rfl;have e2:=aB (i:=2) hF rfl;have e3:=aB (i:=3) hF rfl;have ef:=aP hF;clear hF F;have H6:=au (jy H5.o aQ (.int .i64 0) (.slice none 0 0) (.slice none 0 0) (.string ⟨#[]⟩));have HF:=au (fun W' (hb:Below w.heap.size w W')=>(show jZ w T k x k2 y (.returned (.tuple #[.agg (fY 0 none 0 0 none 0 0 ⟨#[]⟩),.int .i64 1])) W' from⟨⟨0,[],[],[]⟩,1,none,0,none,0,rfl,.arg ap.o,iL hb⟩));clear H5 H4 a1 af bo cC;go_wp2;obtain⟨F,hF⟩:=H6.o.fst;refine⟨_,Ql rfl rfl hF rfl,?_⟩;exact HF.o _ (H6.o.mod.below (fun _ _ h=>h))
 | true=>
  obtain⟨hP,hS⟩:=a1.o rfl;have HS:=au hS;have ax:=au (show W=bP T k x k2 y from HW.o.trans (PO ap.o))
  have bi:=au (show Ji W wa from fun s hs=>by
   have e1:=FK hS (s:=s);have e2:(W.cK s).map (fun p=>(p.1.c,p.2))=W.moves s:=by
    have b7:=hs;rw[ax.o] at b7 ⊢;exact oG (gI.1 ap.o).2.2 b7
   rw[<-e2,<-e1,lj];rfl)
  have HG:=au (show W.good/\W.xR by rw[ax.o];exact rV (gI.1 ap.o).2.2);have HE:=au (show ∀ W',Mod fh w1 W'->Tc W wa W' from fun W' hm=>hP.below (hm.below (fun _ _ h=>h)));have R1:=au (show aI fh w1 (aj (av M (hJ wa.a.L W.l.length wa.a.lc wa.a.R wa.a.q.length wa.a.rc wa.b.L W.m.length wa.b.lc wa.b.R wa.b.q.length wa.b.rc) 169) aS) w3 from bk.o);have KC:=au (Nw (W:=W) (x:=wa) (w:=w3) (HE.o _ R1.o.mod) hS HG.o.1 HG.o.2 bi.o);unfold bD at KC;obtain⟨F,hF⟩:=R1.o.fst;have d0:=aB (i:=0) hF rfl;have d1:=aB (i:=1) hF rfl;have d2:=aB (i:=2) hF rfl;have d3:=aB (i:=3) hF rfl;clear hF F hP hS a1 H4 bo bk;go_wp2_with fail;refine KC.o.mono ?_;rintro e9 w4 ⟨b,L,rfl,hkn,hst0,hp⟩;have bd:=au hkn;have bj:=au hst0;have r2:=R1.o.fresh aQ hp;have R3:=au (aH r2 aQ #[.map (some b)] 172);have R4:=au (aH R3.o aQ (gl 0 0 ⟨#[]⟩ false) 175);clear hkn hst0 hp r2 KC R1 d0 d1 d2 d3;go_upto_region 6 with (fail);have ci:(w4.alloc (.cells #[.map (some b)] 172)).heap.size=w4.heap.size+1:=YN ..;rw[ci] at R4;clear ci R3;generalize (w4.alloc (.cells #[.map (some b)] 172)).alloc (.cells (gl 0 0 ⟨#[]⟩ false) 175)=w5 at *
  generalize w4.heap.size+1=g15 at *
  generalize w4.heap.size=I at *
  obtain⟨s0,s1,s2,s3,-⟩:=aY R4.o;obtain⟨F,hF⟩:=R4.o.drop.fst;have m0:=aB (i:=0) hF rfl;clear hF F;obtain⟨F,hF⟩:=R4.o.drop.drop.fst;have bx:(Instr.lookup 172 (.map (some b)) (.agg (gl 0 0 ⟨#[]⟩ false)) false).run Tryz.prog w5=.ok (.int .i64 (W.fS gR)) w5:=Jk bd.o hF bj.o;clear hF F;have gC:=gT HG.o.1 (kh (W:=W));have ag:=iT (kh (W:=W));obtain⟨dd,bw⟩:∃ d,d=W.fS gR:=⟨_,rfl⟩;rw[<-bw] at bx gC ag;have aD:=au bw;have cm:=au gC;have cc:=au ag;clear bw;unfold never at ag;by_cases hn:dd=1099511627776
  ·have t1:decide (1099511627776<=dd)=true:=decide_eq_true ff;have H5:=au (H3.o.below aQ (R4.o.mod.below (fun _ _ h=>h)));obtain⟨F,hF⟩:=H5.o.fst;have e0:=aB (i:=0) hF rfl;have e1:=aB (i:=1) hF rfl;have e2:=aB (i:=2) hF rfl;have e3:=aB (i:=3) hF rfl;have ef:=aP hF;clear hF F;have H6:=au (jy H5.o aQ (.int .i64 0) (.slice none 0 0) (.slice none 0 0) (.string ⟨#[]⟩));have HF:=au (fun W' (hb:Below w.heap.size w W')=>(show jZ w T k x k2 y (.returned (.tuple #[.agg (fY 0 none 0 0 none 0 0 ⟨#[]⟩),.int .i64 11])) W' from⟨⟨0,[],[],[]⟩,11,none,0,none,0,rfl,.none ap.o (by rw[<-ax.o,<-aD.o];exact hn),iL hb⟩));clear H5 H3 R4 HE af hn cm cc aD;go_wp2;obtain⟨F,hF⟩:=H6.o.fst;refine⟨_,Ql rfl rfl hF rfl,?_⟩;exact HF.o _ (H6.o.mod.below (fun _ _ h=>h))
  ·have t1:decide (1099511627776<=dd)=false:=decide_eq_false ff;have ch:=au (show dd<never by unfold never;omega);have R6:=au (aH R4.o aQ (fY dd none 0 0 none 0 0 ⟨#[]⟩) 42);clear hn;go_wp2_with fail;generalize w5.alloc (.cells (fY dd none 0 0 none 0 0 ⟨#[]⟩) 42)=w6 at *
   generalize w5.heap.size=J at *
   have a4:(aj (av J (fY dd none 0 0 none 0 0 ⟨#[]⟩) 42) (aj (av g15 (gl 0 0 ⟨#[]⟩ false) 175) (aj (av I #[.map (some b)] 172) (aj (lM b L) (aj (av M (hJ wa.a.L W.l.length wa.a.lc wa.a.R wa.a.q.length wa.a.rc wa.b.L W.m.length wa.b.lc wa.b.R wa.b.q.length wa.b.rc) 169) aS))))).Ok:=ay aC aQ;have r7:=R6.o.fresh a4 (⟨fun _=>False,oH _,Mod.refl _ _,fun i hi=>.inl hi⟩:bS _ fh (aV none 0 []) _);have r8:=r7.fresh (ay bV a4) (⟨fun _=>False,oH _,Mod.refl _ _,fun i hi=>.inl hi⟩:bS _ fh (aV none 0 []) _);have R7:=au (show aI fh w1 (aj (qz W wa b L dd M I g15 J gR ⟨none,0,[],none,0,[],[]⟩ []) aS) w6 from r8.one.perm (by unfold qz;show _=aj (aj (av g15 (gl 0 0 ⟨#[]⟩ false) 175) (aj (av J (fY dd none 0 0 none 0 0 ⟨#[]⟩) 42) (aj (aV none 0 []) (aj (aV none 0 []) (aj (av I #[.map (some b)] 172) (aj (av M (hJ wa.a.L W.l.length wa.a.lc wa.a.R wa.a.q.length wa.a.rc wa.b.L W.m.length wa.b.lc wa.b.R wa.b.q.length wa.b.rc) 169) (aj (lM b L) aS))))))) aS;ac_rfl));have b4:=au (show Te W L gR ⟨none,0,[],none,0,[],[]⟩ from⟨kh,YE _,bj.o,by rw[<-aD.o];exact ch.o,by simp,by simp,by simp,Cv⟩);have a0:=au (show W.gD gR<=1000 by rw[ax.o];exact zQ ap.o);clear R4 R6 r7 r8 a4 s0 s1 s2 s3 m0 bx t1 gC ag bj cc;refine wp_loop (Yu fh w1 W wa b L dd ao M I g15 J) (fun _ w9=>Jl W g15 w9) ?_ ?_
   ·exact VF [] (R:=aS) rfl rfl rfl rfl rfl rfl rfl aO R7.o b4.o
   clear R7 b4;rintro a9 w7 ⟨v,Ds,s,q,R,hRok,⟨hR,hp⟩,rfl⟩;have HR:=au hR;have HP:=au hp;have ad:=au hRok;clear hR hp hRok;have cb:=au (Lu (W:=W) (g15:=g15) (s:=s) HR.o.assoc);obtain⟨⟨s0,s1,s2,s3⟩,-,-,⟨d0,d1,d2,d3⟩,-⟩:=jg HR.o;have KD:=au (FE (w:=w7) (W:=W) (x:=wa) (s:=s));unfold bD gG at KD;go_wp2_with fail;refine KD.o.mono ?_;rintro e9 w8 ⟨rfl,hb⟩;have H8:=au (HR.o.below (ay pU ad.o) hb);clear KD hb HR s0 s1 s2 s3 d0 d1 d2 d3;rw[FP HP.o.ok];by_cases ae:s=W.fin
   ·rw[decide_eq_true ae]
    have cG:=au (show(bP T k x k2 y).mx=⟨dd,q.l,q.m,q.f⟩ from by
     have e:=Ls HP.o.bn ae;unfold Wd.mx
     rw[<-ax.o,e,aD.o])
    clear ae;obtain⟨-,⟨q0,q1,q2,q3⟩,-⟩:=jg H8.o;have h9:=H3.o.fresh aQ (H8.o.post (ay pU ad.o));have bu:=h9.perm (by unfold qz;ac_rfl:_=aj (av ao (fY 0 none 0 0 none 0 0 ⟨#[]⟩) 42) (aj (fA Ds) (aj (av g5 (ie T a) 25) (aj aS (aj (av g15 (gG s) 175) (aj (av J (BK dd q) 42) (aj (aV q.A q.ac q.l) (aj (aV q.B q.bc q.m) (aj (av I #[.map (some b)] 172) (aj (av M (bD W wa) 169) (aj (lM b L) R)))))))))));have bv:(aj (av g5 (ie T a) 25) (aj aS (aj (av g15 (gG s) 175) (aj (av J (BK dd q) 42) (aj (aV q.A q.ac q.l) (aj (aV q.B q.bc q.m) (aj (av I #[.map (some b)] 172) (aj (av M (bD W wa) 169) (aj (lM b L) R))))))))).Ok:=ay aC (ay aO (ay aC (ay aC (ay bV (ay bV (ay aC (ay aC (ay jW ad.o))))))));obtain⟨F,hF⟩:=bu.fst;have e0:=aB (i:=0) hF rfl;have e1:=aB (i:=1) hF rfl;have e2:=aB (i:=2) hF rfl;have e3:=aB (i:=3) hF rfl;have ef:=aP hF;have cx:=au ((jy bu (ay mP bv) (.int .i64 dd) (.slice q.A q.l.length q.ac) (.slice q.B q.m.length q.bc) (.string (bs q.f))).perm (by ac_rfl:_=aj (fA Ds) (aj (av ao (fY dd q.A q.l.length q.ac q.B q.m.length q.bc (bs q.f)) 42) (aj (av g5 (ie T a) 25) (aj aS (aj (av g15 (gG s) 175) (aj (av J (BK dd q) 42) (aj (aV q.A q.ac q.l) (aj (aV q.B q.bc q.m) (aj (av I #[.map (some b)] 172) (aj (av M (bD W wa) 169) (aj (lM b L) R))))))))))));have HF:=au (fun W' (hpp:bS w fh (aj (aV q.A q.ac q.l) (aV q.B q.bc q.m)) W')=>(show jZ w T k x k2 y (.returned (.tuple #[.agg (fY dd q.A q.l.length q.ac q.B q.m.length q.bc (bs q.f)),.int .i64 0])) W' from⟨⟨dd,q.l,q.m,q.f⟩,0,q.A,q.ac,q.B,q.bc,rfl,by rw[<-cG.o];exact .some ap.o (by rw[<-ax.o,<-aD.o];exact ch.o),hpp⟩));have cH:=au bv;clear hF F h9 bu bv H8 H3 cb HP;dsimp only;go_wp2_with fail;refine vg (ay aC cH.o) (fun W' hr=>?_) Ds _ cx.o;obtain⟨f,hf⟩:=hr.fst;exact⟨_,Ql rfl rfl hf rfl,HF.o _ ((((hr.drop.drop.drop.drop.drop).perm (by ac_rfl:_=aj (aj (av I #[.map (some b)] 172) (aj (av M (bD W wa) 169) (aj (lM b L) R))) (aj (aV q.A q.ac q.l) (aV q.B q.bc q.m)))).drop).post aQ)⟩
   ·rw[decide_eq_false ae];have cj:=au ae;clear ae;obtain⟨⟨s0,s1,s2,s3⟩,-,-,⟨d0,d1,d2,d3⟩,-⟩:=jg H8.o;have KM:=au (fun w=>Aa (W:=W) (x:=wa) (s:=s) w);unfold bD gG at KM;dsimp only;go_wp2_with fail;refine(KM.o _).mono ?_;rintro e9 w9 ⟨b1,b2,rfl,hp⟩;have S1:=au (H8.o.fresh (ay pU ad.o) hp);clear KM hp H8 s0 s1 s2 s3 d0 d1 d2 d3;dsimp only;go_wp2_with fail;have ck:=au (xW (W:=W) (s:=s) (x:=wa) (b1:=b1) (b2:=b2) HP.o.ok HS.o (YQ HP.o.a3 ff));have a5:(aj (qz W wa b L dd M I g15 J s q Ds) R).Ok:=ay pU ad.o;have b0:=au a5;have cy:∀ i,(yU (Jj W wa s i) (aj (qz W wa b L dd M I g15 J s q Ds) R)).Ok:=fun i=>iW a5;have b5:∀ (i:Nat) (a':Act),(pG fun ab:Nat=>pG fun aa:Nat=>pG fun z:RA × St=>yU ((dx W wa s)[i]?=some z/\Jj W wa s i/\a'={ tmps:=#[v 0,v 1,v 2,v 3,v 4,v 5,v 6,v 7,v 8,v 9,.pointer (some ⟨ao,0,none⟩),v 11,.pointer (some ⟨M,0,none⟩),v 13,.pointer (some ⟨I,0,none⟩),.pointer (some ⟨g15,0,none⟩),.pointer (some ⟨J,0,none⟩),.pointer (some ⟨ab,0,none⟩),.pointer (some ⟨aa,0,none⟩),v 19,v 20,v 21,v 22,v 23,v 24,v 25,v 26,v 27,v 28,v 29,v 30,v 31,v 32,v 33,v 34,v 35,v 36,v 37,v 38,v 39,v 40,v 41,v 42,.agg (hJ wa.a.L W.l.length wa.a.lc wa.a.R wa.a.q.length wa.a.rc wa.b.L W.m.length wa.b.lc wa.b.R wa.b.q.length wa.b.rc),.agg (gl s.i s.j (bs s.a) s.r),.bool false,.bool true,.agg (hJ wa.a.L W.l.length wa.a.lc wa.a.R wa.a.q.length wa.a.rc wa.b.L W.m.length wa.b.lc wa.b.R wa.b.q.length wa.b.rc),.agg (gl s.i s.j (bs s.a) s.r),Xu b1 b2,.agg (cu z.1).toArray,.agg (gG z.2),v 52,v 53,v 54,v 55,v 56,v 57,v 58,v 59,v 60,v 61,v 62,v 63,v 64,v 65,v 66,v 67,v 68,v 69,v 70,v 71,v 72,v 73,v 74,v 75,v 76,v 77,v 78,v 79,v 80,v 81,v 82,v 83,v 84,v 85,v 86,v 87,v 88],defers:=[] }) (aj (av aa (gG z.2) 175) (aj (av ab (cu z.1).toArray 181) (aj (qz W wa b L dd M I g15 J s q Ds) R)))).Ok:=fun i a'=>eO fun ab=>eO fun aa=>eO fun z=>iW (ay aC (ay aC a5));have cv:∀ c:Code,(pG fun s':St=>pG fun q':DD=>yU (c=.exit 2/\Te W L s' q'/\W.gD s'<W.gD s) (aj (qz W wa b L dd M I g15 J s' q' Ds) R)).Ok:=fun c=>eO fun s'=>eO fun q'=>iW (ay pU ad.o);have cr:aI fh w1 (aj (Zw W wa s b1 b2) (yU (Jj W wa s 0) (aj (qz W wa b L dd M I g15 J s q Ds) R))) w9:=(aI.kD Qg S1.o.swap).swap;clear a5 S1;refine qd (gf:=126) (lb:=(ln (some ⟨b1,0,none⟩) (some ⟨b2,0,none⟩))) rfl (enters_of Tryz.func126 fi rfl) ck.o lN (fun _=>rfl) HE.o _ (fun c=>pG fun s':St=>pG fun q':DD=>yU (c=.exit 2/\Te W L s' q'/\W.gD s'<W.gD s) (aj (qz W wa b L dd M I g15 J s' q' Ds) R)) cy _ b5 cv cr ?_ ?_ ?_ ?_
    ·intro lo m i hi R' W1 K hR hI hK;obtain⟨ai,h1⟩:=hI.pure;have h3:=aH h1 (ay b0.o hR) (cu (dx W wa s)[i].1).toArray 181;have h4:=aH h3 (ay aC (ay b0.o hR)) (gG (dx W wa s)[i].2) 175;rw[YN] at h4;have HF:=au (hK { tmps:=#[v 0,v 1,v 2,v 3,v 4,v 5,v 6,v 7,v 8,v 9,.pointer (some ⟨ao,0,none⟩),v 11,.pointer (some ⟨M,0,none⟩),v 13,.pointer (some ⟨I,0,none⟩),.pointer (some ⟨g15,0,none⟩),.pointer (some ⟨J,0,none⟩),.pointer (some ⟨W1.heap.size,0,none⟩),.pointer (some ⟨W1.heap.size+1,0,none⟩),v 19,v 20,v 21,v 22,v 23,v 24,v 25,v 26,v 27,v 28,v 29,v 30,v 31,v 32,v 33,v 34,v 35,v 36,v 37,v 38,v 39,v 40,v 41,v 42,.agg (hJ wa.a.L W.l.length wa.a.lc wa.a.R wa.a.q.length wa.a.rc wa.b.L W.m.length wa.b.lc wa.b.R wa.b.q.length wa.b.rc),.agg (gl s.i s.j (bs s.a) s.r),.bool false,.bool true,.agg (hJ wa.a.L W.l.length wa.a.lc wa.a.R wa.a.q.length wa.a.rc wa.b.L W.m.length wa.b.lc wa.b.R wa.b.q.length wa.b.rc),.agg (gl s.i s.j (bs s.a) s.r),Xu b1 b2,.agg (cu (dx W wa s)[i].1).toArray,.agg (gG (dx W wa s)[i].2),v 52,v 53,v 54,v 55,v 56,v 57,v 58,v 59,v 60,v 61,v 62,v 63,v 64,v 65,v 66,v 67,v 68,v 69,v 70,v 71,v 72,v 73,v 74,v 75,v 76,v 77,v 78,v 79,v 80,v 81,v 82,v 83,v 84,v 85,v 86,v 87,v 88],defers:=[] } _ (aI.uf W1.heap.size (aI.uf (W1.heap.size+1) (aI.uf (dx W wa s)[i] (aI.kD ⟨YH hi,ai,rfl⟩ (h4.perm (by ac_rfl)))))));clear hI h1 h3 h4 hK ai;unfold Jf;generalize (dx W wa s)[i]=z at *
     obtain⟨⟨⟨yx,yc,yf,yt⟩,yA,yn⟩,⟨xi,xj,xa,xr⟩⟩:=z;unfold gG cu;unfold gG cu at HF;dsimp only at HF;dsimp only;gi_wp2;exact HF.o
    ·intro lo m i hi a' R' W1 hR hI;obtain⟨ab,h1⟩:=hI.ex;obtain⟨aa,h1⟩:=h1.ex;obtain⟨z,h1⟩:=h1.ex;obtain⟨⟨hx,ai,rfl⟩,h2⟩:=h1.pure;have aq:z ∈ dx W wa s:=Za hx;have ak:=Qi bi.o HP.o.ok aq;have aA:=fF HP.o.ok ak;have cz:=au (fun h=>Qh hx ai h);have cD:=au (fun (hg:FX W s z)=>FW HP.o.bn cj.o (Uj HS.o hx ai hg) aA.2);have cw:=jf HG.o.1 ak;have al:z.2 ∈ fU L:=by
      obtain⟨v,hv⟩:=mem_keys.1 HP.o.inL;exact bd.o.cl _ hv _ ak
     have gC:=gT HG.o.1 aA.1;have ag:=iT aA.1;have cJ:=gT HG.o.1 HP.o.ok;have cI:=HP.o.lt;have co:z.1.r.t.length<=1000000:=(HS.o.Ym aq);have cA:=au (show(aj (qz W wa b L dd M I g15 J s q Ds) (aj (av aa (gG z.2) 175) (aj (av ab (cu z.1).toArray 181) (aj R R')))).Ok from ay pU (ay aC (ay aC (ay ad.o hR))));have H2:=au ((h2.perm (by ac_rfl:_=aj (qz W wa b L dd M I g15 J s q Ds) (aj (av aa (gG z.2) 175) (aj (av ab (cu z.1).toArray 181) (aj R R'))))).drew cA.o);have hS:∀ W',aI fh w1 (aj (qz W wa b L dd M I g15 J s q Ds) (aj (av aa (gG z.2) 175) (aj (av ab (cu z.1).toArray 181) (aj R R')))) W'->(W'.cell? ⟨ab,1,none⟩=some (.int .i64 z.1.r.c)/\W'.cell? ⟨I,0,none⟩=some (.map (some b))/\(i6 W' aa (.int .i64 z.2.i) (.int .i64 z.2.j) (.string (bs z.2.a)) (.bool z.2.r))/\(i6 W' g15 (.int .i64 s.i) (.int .i64 s.j) (.string (bs s.a)) (.bool s.r))/\(Instr.lookup 172 (.map (some b)) (.agg (gl z.2.i z.2.j (bs z.2.a) z.2.r)) false).run Tryz.prog W'=.ok (.int .i64 (W.fS z.2)) W'/\(Instr.lookup 172 (.map (some b)) (.agg (gl s.i s.j (bs s.a) s.r)) false).run Tryz.prog W'=.ok (.int .i64 (W.fS s)) W'):=fun W' h=>by
      obtain⟨⟨s0,s1,s2,s3⟩,-,m0,-,⟨f',bz⟩,-⟩:=jg h;obtain⟨f1,a8⟩:=h.drop.fst;obtain⟨f2,V⟩:=h.drop.drop.fst;exact⟨aB (i:=1) V rfl,m0,⟨aB a8 rfl,aB a8 rfl,aB a8 rfl,aB a8 rfl⟩,⟨s0,s1,s2,s3⟩,Jk bd.o bz al,Jk bd.o bz HP.o.inL⟩
     have ar:=hS _ H2.o;have az:=au aA;have bh:=au al;have cg:=au (pF HG.o.2 HP.o.a3 ak);have bb:=au (show FX W s z↔z.1.r.c+W.fS z.2=W.fS s from jq);have am:=au hR;clear hI h1 h2 hx ai aq ak aA al hS hR hi;obtain⟨⟨⟨yx,yc,yf,yt⟩,yA,yn⟩,⟨xi,xj,xa,xr⟩⟩:=z;unfold gG cu;dsimp only at ar cw gC ag co bb bh cg az ⊢;obtain⟨dn,be⟩:∃ d,d=W.fS { i:=xi,j:=xj,a:=xa,r:=xr }:=⟨_,rfl⟩;obtain⟨ds,a6⟩:∃ d,d=W.fS s:=⟨_,rfl⟩;rw[<-be,<-a6] at ar bb;rw[<-be] at gC ag;rw[<-a6] at cJ cI;have cp:=au be;have cN:=au a6;clear be a6;have t1:IntKind.i64.wrap (yc+dn)=yc+dn:=by
      unfold never at ag;exact YZ _ ff
     refine wpIn_block (wpIn_seq (wpIn_seq ?_));by_cases an:yc+dn=ds
     ·have t2:(yc+dn != ds)=false:=by simp[an]
      have cn:=au an;have br:=au (cD.o (bb.o.2 an));dsimp only at br;clear an;refine tN (fun W':World=>W'.cell? ⟨ab,1,none⟩=some (.int .i64 yc)/\W'.cell? ⟨I,0,none⟩=some (.map (some b))/\(i6 W' aa (.int .i64 xi) (.int .i64 xj) (.string (bs xa)) (.bool xr))/\(i6 W' g15 (.int .i64 s.i) (.int .i64 s.j) (.string (bs s.a)) (.bool s.r))/\(Instr.lookup 172 (.map (some b)) (.agg (gl xi xj (bs xa) xr)) false).run Tryz.prog W'=.ok (.int .i64 dn) W'/\(Instr.lookup 172 (.map (some b)) (.agg (gl s.i s.j (bs s.a) s.r)) false).run Tryz.prog W'=.ok (.int .i64 ds) W') rfl (fun⟨a,w,h⟩=>h) rfl fi ar ?_;clear ar;generalize W1.drew=W2 at *
      (repeat(first|refine aW ?_|refine aX ?_))
      refine lex_nil ?_
      iterate 6 gi_step
      refine wpIn_seq_k ?_;intro Kj a7;have H3:=au (H2.o);have wZ:∀ (w:World) (y62 y63 y64 y65 y66 y67 y68 y69 y70 y71 y72 y73 y74 y75 y76 y77 y78 y79 y80 y81 y82 y83 y84 y85 y86:Value) (q':DD) (Y:CH.bq),Y.Ok->aI fh w1 (aj (qz W wa b L dd M I g15 J s q' Ds) (aj (av aa (gl xi xj (bs xa) xr) 175) (aj Y (aj R R')))) w->q'.l.length<=q.l.length+1->q'.m.length<=q.m.length+1->q'.f.length<=q.f.length+1000000->Wx W ⟨xi,xj,xa,xr⟩ q'.l q'.m q'.f->Kj { tmps:=#[v 0,v 1,v 2,v 3,v 4,v 5,v 6,v 7,v 8,v 9,.pointer (some ⟨ao,0,none⟩),v 11,.pointer (some ⟨M,0,none⟩),v 13,.pointer (some ⟨I,0,none⟩),.pointer (some ⟨g15,0,none⟩),.pointer (some ⟨J,0,none⟩),.pointer (some ⟨ab,0,none⟩),.pointer (some ⟨aa,0,none⟩),v 19,v 20,v 21,v 22,v 23,v 24,v 25,v 26,v 27,v 28,v 29,v 30,v 31,v 32,v 33,v 34,v 35,v 36,v 37,v 38,v 39,v 40,v 41,v 42,.agg (hJ wa.a.L W.l.length wa.a.lc wa.a.R wa.a.q.length wa.a.rc wa.b.L W.m.length wa.b.lc wa.b.R wa.b.q.length wa.b.rc),.agg (gl s.i s.j (bs s.a) s.r),.bool false,.bool true,.agg (hJ wa.a.L W.l.length wa.a.lc wa.a.R wa.a.q.length wa.a.rc wa.b.L W.m.length wa.b.lc wa.b.R wa.b.q.length wa.b.rc),.agg (gl s.i s.j (bs s.a) s.r),Xu b1 b2,.agg (gS (yx:Nat) yc yA yf.length yn (bs yt)),.agg (gl xi xj (bs xa) xr),.pointer (some ⟨ab,1,none⟩),.int .i64 yc,.map (some b),.agg (gl xi xj (bs xa) xr),.int .i64 dn,.int .i64 (yc+dn),.map (some b),.agg (gl s.i s.j (bs s.a) s.r),.int .i64 ds,.bool false,y62,y63,y64,y65,y66,y67,y68,y69,y70,y71,y72,y73,y74,y75,y76,y77,y78,y79,y80,y81,y82,y83,y84,y85,y86,v 87,v 88],defers:=[] } w:=by
       intro w y62 y63 y64 y65 y66 y67 y68 y69 y70 y71 y72 y73 y74 y75 y76 y77 y78 y79 y80 y81 y82 y83 y84 y85 y86 q' Y hY hR h1 h2 h3 b9;have bp:=au (show Te W L ⟨xi,xj,xa,xr⟩ q' from⟨az.o.1,cg.o,bh.o,by have:=HP.o.lt;have:=cn.o;rw[<-cp.o];rw[<-cN.o] at *;omega,by have:=HP.o.nl;have:=az.o.2;omega,by have:=HP.o.nm;have:=az.o.2;omega,by have:=HP.o.nf;have:=az.o.2;omega,b9⟩);have bm:=au az.o.2;refine a7 _ _ ?_;clear a7 Kj h1 h2 h3 b9 H2 H3;have cR:=au hY;have h4:=hR.perm (by unfold qz;ac_rfl:_=aj (av g15 (gG s) 175) (aj (aj (av J (BK dd q') 42) (aj (aV q'.A q'.ac q'.l) (aj (aV q'.B q'.bc q'.m) (aj (av I #[.map (some b)] 172) (aj (av M (bD W wa) 169) (aj (lM b L) (fA Ds))))))) (aj (av aa (gl xi xj (bs xa) xr) 175) (aj Y (aj R R')))));have ca:(aj (aj (av J (BK dd q') 42) (aj (aV q'.A q'.ac q'.l) (aj (aV q'.B q'.bc q'.m) (aj (av I #[.map (some b)] 172) (aj (av M (bD W wa) 169) (aj (lM b L) (fA Ds))))))) (aj (av aa (gl xi xj (bs xa) xr) 175) (aj Y (aj R R')))).Ok:=ay aQ (ay aC (ay hY (ay ad.o am.o)));obtain⟨⟨s0,s1,s2,s3⟩,-,-,-,-,sf,-⟩:=jg hR;obtain⟨x0,x1,x2,x3,-⟩:=aY (hR.drop:aI _ _ (aj (av aa (gl xi xj (bs xa) xr) 175) _) w);have H5:=au (jy (h4:aI _ _ (aj (av g15 (gl s.i s.j (bs s.a) s.r) 175) _) w) ca (.int .i64 xi) (.int .i64 xj) (.string (bs xa)) (.bool xr));clear h4 hR ca;gi_wp2;refine aI.uf ⟨xi,xj,xa,xr⟩ (aI.uf q' (aI.kD ⟨rfl,bp.o,bm.o⟩ ?_));exact(H5.o.perm (by ac_rfl:_=aj (av aa (gl xi xj (bs xa) xr) 175) (aj Y (aj (aj (aj (av g15 (gl xi xj (bs xa) xr) 175) (aj (av J (BK dd q') 42) (aj (aV q'.A q'.ac q'.l) (aj (aV q'.B q'.bc q'.m) (aj (av I #[.map (some b)] 172) (aj (av M (bD W wa) 169) (aj (lM b L) (fA Ds)))))))) R) R')))).drop.drop
      have HC:=au wZ;clear wZ;have cQ:=au a7;clear a7;have ct:q.l.length<=1000000:=by have:=HP.o.nl;have:=a0.o;omega
      have cL:q.m.length<=1000000:=by have:=HP.o.nm;have:=a0.o;omega
      have cS:q.f.length<=1000000000:=by have:=HP.o.nf;have:=a0.o;omega
      have cP:¬ 9223372036854775807<(bs q.f).size+(bs yt).size:=by rw[bB,bB];omega
      obtain⟨⟨s0,s1,s2,s3⟩,-⟩:=jg H3.o;obtain⟨x0,x1,x2,x3,-⟩:=aY (H3.o.drop:aI _ _ (aj (av aa (gl xi xj (bs xa) xr) 175) _) W2);clear H2;by_cases i7:s.i<xi
      ·have t3:decide (s.i<xi)=true:=decide_eq_true i7;have af:=au (br.o.1 i7);clear i7
       iterate 22 (first|go_values|gi_guarded|gi_step|gi_upon)
       have ba:=au (show(aj (qz W wa b L dd M I g15 J s q Ds) (aj (av aa (gl xi xj (bs xa) xr) 175) (aj (av ab (gS (yx:Nat) yc yA yf.length yn (bs yt)) 181) (aj R R')))).Ok from ay pU (ay aC (ay aC (ay ad.o am.o))));have H4:=au ((show aI fh w1 (aj (qz W wa b L dd M I g15 J s q Ds) (aj (av aa (gl xi xj (bs xa) xr) 175) (aj (av ab (gS (yx:Nat) yc yA yf.length yn (bs yt)) 181) (aj R R')))) W2 from H3.o).drew ba.o);clear H3 s0 s1 s2 s3 x0 x1 x2 x3;obtain⟨-,⟨q0,q1,q2,q3⟩,-⟩:=jg H4.o;obtain⟨f2,V⟩:=H4.o.drop.drop.fst;have z0:=aB (i:=0) V rfl;have z3:=aB (i:=3) V rfl;clear V f2;refine nR [4,5,12,14] [1,1,0,0,1,2,2,2,3,3,3,2,3,3,4] (fun w'=>w'=W2.drew) [fun w'=>w'.cell? ⟨J,1,none⟩=some (.slice q.A q.l.length q.ac)/\w'.cell? ⟨J,3,none⟩=some (.string (bs q.f))/\w'.cell? ⟨ab,3,none⟩=some (.string (bs yt)),fun w'=>w'.cell? ⟨J,3,none⟩=some (.string (bs q.f))/\w'.cell? ⟨ab,3,none⟩=some (.string (bs yt)),fun w'=>w'.cell? ⟨ab,3,none⟩=some (.string (bs yt))] ⟨fun w h=>by rw[h];exact⟨q1,q3,z3⟩,fun w h=>⟨h.2.1,h.2.2⟩,fun w h=>h.2,trivial⟩ rfl (fun⟨a,w,h⟩=>h) rfl fi fi fi rfl ?_;generalize W2.drew=W3 at *
       (repeat(first|refine kE ?_|refine kF ?_))
       refine eD rfl ft (fun K hK=>?_);go_wp2_with fail;have H5:=au (aH H4.o ba.o (gb (yx:Nat)) 3);clear H4 q0 q1 q2 q3 z0 z3;generalize W3.alloc (.cells (gb (yx:Nat)) 3)=W4 at *
       generalize W3.heap.size=gN at *
       obtain⟨-,⟨q0,q1,q2,q3⟩,-⟩:=jg H5.o.drop;obtain⟨f2,V⟩:=H5.o.drop.drop.drop.fst;have z3:=aB (i:=3) V rfl;clear V f2;refine hK.o _ _ ⟨q1,q3,z3⟩ ?_;clear hK
       (repeat(first|refine kE ?_|refine kF ?_))
       refine eD rfl ft (fun K hK=>?_);obtain⟨f2,V⟩:=H5.o.fst;have n0:=aB (i:=0) V rfl;clear V f2;refine DZ (.tmp 68) (.tmp 71) rfl (A:=q.A) (c:=q.ac) (g:=gN) (l:=q.l) (p:=(yx:Int)) rfl rfl rfl ct (ay aC (ay aC (ay aC (ay bV (ay aC (ay aC (ay jW (ay mP (ay aC (ay aC (ay ad.o am.o))))))))))) (H5.o.perm (by unfold qz;ac_rfl:_=aj (aV q.A q.ac q.l) (aj (av gN (gb (yx:Nat)) 3) (aj (av g15 (gG s) 175) (aj (av J (BK dd q) 42) (aj (aV q.B q.bc q.m) (aj (av I #[.map (some b)] 172) (aj (av M (bD W wa) 169) (aj (lM b L) (aj (fA Ds) (aj (av aa (gl xi xj (bs xa) xr) 175) (aj (av ab (gS (yx:Nat) yc yA yf.length yn (bs yt)) 181) (aj R R'))))))))))))) n0 ?_;intro A' c' W5 a2;have h6:=a2.perm (by ac_rfl:_=aj (av J (BK dd q) 42) (aj (aV A' c' (q.l++[(yx:Int)])) (aj (av gN (gb (yx:Nat)) 3) (aj (av g15 (gG s) 175) (aj (aV q.B q.bc q.m) (aj (av I #[.map (some b)] 172) (aj (av M (bD W wa) 169) (aj (lM b L) (aj (fA Ds) (aj (av aa (gl xi xj (bs xa) xr) 175) (aj (av ab (gS (yx:Nat) yc yA yf.length yn (bs yt)) 181) (aj R R'))))))))))));have H6:=au (show aI fh w1 (aj (av J (fY dd q.A q.l.length q.ac q.B q.m.length q.bc (bs q.f)) 42) (aj (aV A' c' (q.l++[(yx:Int)])) (aj (av gN (gb (yx:Nat)) 3) (aj (av g15 (gG s) 175) (aj (aV q.B q.bc q.m) (aj (av I #[.map (some b)] 172) (aj (av M (bD W wa) 169) (aj (lM b L) (aj (fA Ds) (aj (av aa (gl xi xj (bs xa) xr) 175) (aj (av ab (gS (yx:Nat) yc yA yf.length yn (bs yt)) 181) (aj R R')))))))))))) W5 from h6);have bf:=au (show(aj (aV A' c' (q.l++[(yx:Int)])) (aj (av gN (gb (yx:Nat)) 3) (aj (av g15 (gG s) 175) (aj (aV q.B q.bc q.m) (aj (av I #[.map (some b)] 172) (aj (av M (bD W wa) 169) (aj (lM b L) (aj (fA Ds) (aj (av aa (gl xi xj (bs xa) xr) 175) (aj (av ab (gS (yx:Nat) yc yA yf.length yn (bs yt)) 181) (aj R R'))))))))))).Ok from(ay bV (ay aC (ay aC (ay bV (ay aC (ay aC (ay jW (ay mP (ay aC (ay aC (ay ad.o am.o))))))))))));obtain⟨f2,V⟩:=H6.o.fst;have p1:=aB (i:=1) V rfl;have p3:=aB (i:=3) V rfl;have pf:=aP V;clear V f2;obtain⟨f2,V⟩:=H6.o.drop.drop.drop.drop.drop.drop.drop.drop.drop.drop.fst;have aE:=aB (i:=3) V rfl;clear V f2 h6 a2;refine hK.o _ _ ⟨p3,aE⟩ ?_;clear hK n0 H5 q0 q1 q2 q3 z3
       (repeat(first|refine kE ?_|refine kF ?_))
       refine eD rfl ft (fun K hK=>?_);go_wp2_with fail;have H7:=au (show aI fh w1 (aj (av J (fY dd A' (q.l.length+1) c' q.B q.m.length q.bc (bs q.f)) 42) (aj (aV A' c' (q.l++[(yx:Int)])) (aj (av gN (gb (yx:Nat)) 3) (aj (av g15 (gG s) 175) (aj (aV q.B q.bc q.m) (aj (av I #[.map (some b)] 172) (aj (av M (bD W wa) 169) (aj (lM b L) (aj (fA Ds) (aj (av aa (gl xi xj (bs xa) xr) 175) (aj (av ab (gS (yx:Nat) yc yA yf.length yn (bs yt)) 181) (aj R R')))))))))))) (W5.setCell ⟨J,1,none⟩ (.slice A' (q.l.length+1) c')) from aJ H6.o bf.o 1 (.slice A' (q.l.length+1) c'));clear H6 p1 p3 pf aE;generalize W5.setCell ⟨J,1,none⟩ (.slice A' (q.l.length+1) c')=W6 at *
       obtain⟨f2,V⟩:=H7.o.fst;have p3:=aB (i:=3) V rfl;have pf:=aP V;clear V f2;obtain⟨f2,V⟩:=H7.o.drop.drop.drop.drop.drop.drop.drop.drop.drop.drop.fst;have aE:=aB (i:=3) V rfl;clear V f2;refine hK.o _ _ aE ?_;clear hK aE
       (repeat(first|refine kE ?_|refine kF ?_))
       refine eD rfl ft (fun K hK=>?_);go_wp2_with fail;have h8:=aJ H7.o bf.o 3 (.string (bs q.f++bs yt));have e8:BK dd ⟨A',c',q.l++[(yx:Int)],q.B,q.bc,q.m,q.f++yt⟩=(fY dd A' (q.l.length+1) c' q.B q.m.length q.bc (bs q.f++bs yt)):=by unfold BK;rw[Yz,D5];rfl
       have H8:=au ((show aI fh w1 (aj (av J (BK dd ⟨A',c',q.l++[(yx:Int)],q.B,q.bc,q.m,q.f++yt⟩) 42) (aj (aV A' c' (q.l++[(yx:Int)])) (aj (av gN (gb (yx:Nat)) 3) (aj (av g15 (gG s) 175) (aj (aV q.B q.bc q.m) (aj (av I #[.map (some b)] 172) (aj (av M (bD W wa) 169) (aj (lM b L) (aj (fA Ds) (aj (av aa (gl xi xj (bs xa) xr) 175) (aj (av ab (gS (yx:Nat) yc yA yf.length yn (bs yt)) 181) (aj R R')))))))))))) _ from by rw[e8];exact h8).perm (by unfold qz;ac_rfl:_=aj (qz W wa b L dd M I g15 J s ⟨A',c',q.l++[(yx:Int)],q.B,q.bc,q.m,q.f++yt⟩ Ds) (aj (av aa (gl xi xj (bs xa) xr) 175) (aj (aj (av gN (gb (yx:Nat)) 3) (av ab (gS (yx:Nat) yc yA yf.length yn (bs yt)) 181)) (aj R R')))));clear H7 p3 pf h8 e8;refine hK.o _ _ trivial ?_;clear hK
       (repeat(first|refine kE ?_|refine kF ?_))
       refine rZ ?_;exact HC.o _ _ _ _ _ _ _ _ _ _ _ _ _ _ _ _ _ _ _ _ _ _ _ _ _ _ _ _ aQ H8.o gw gw (by rw[Yz];omega) af.o
      ·have t3:decide (s.i<xi)=false:=decide_eq_false i7;have af:=au (br.o.2 i7);clear i7
       iterate 22 (first|go_values|gi_guarded|gi_step|gi_upon)
       clear s0 s1 s2 s3 x0 x1 x2 x3;have ba:=au (show(aj (qz W wa b L dd M I g15 J s q Ds) (aj (av aa (gl xi xj (bs xa) xr) 175) (aj (av ab (gS (yx:Nat) yc yA yf.length yn (bs yt)) 181) (aj R R')))).Ok from ay pU (ay aC (ay aC (ay ad.o am.o))));have H4:=au (show aI fh w1 (aj (qz W wa b L dd M I g15 J s q Ds) (aj (av aa (gl xi xj (bs xa) xr) 175) (aj (av ab (gS (yx:Nat) yc yA yf.length yn (bs yt)) 181) (aj R R')))) W2 from H3.o);clear H3;obtain⟨-,⟨q0,q1,q2,q3⟩,-⟩:=jg H4.o;obtain⟨f2,V⟩:=H4.o.drop.drop.fst;have z0:=aB (i:=0) V rfl;clear V f2;refine fC rfl (fun⟨a,w,h⟩=>h) ?_;go_wp2_with (at_builtin;refine held ?_);have H5:=au (aH H4.o ba.o (gb (yx:Nat)) 3);clear H4 q0 q1 q2 q3 z0;generalize W2.alloc (.cells (gb (yx:Nat)) 3)=W4 at *
       generalize W2.heap.size=gN at *
       obtain⟨f2,V⟩:=H5.o.fst;have n0:=aB (i:=0) V rfl;clear V f2;refine ia.mk (wpList_plain rfl fun _ hK=>DZ (.tmp 81) (.tmp 84) rfl (A:=q.B) (c:=q.bc) (g:=gN) (l:=q.m) (p:=(yx:Int)) rfl rfl rfl cL (ay aC (ay aC (ay aC (ay bV (ay aC (ay aC (ay jW (ay mP (ay aC (ay aC (ay ad.o am.o))))))))))) (H5.o.perm (by unfold qz;ac_rfl:_=aj (aV q.B q.bc q.m) (aj (av gN (gb (yx:Nat)) 3) (aj (av g15 (gG s) 175) (aj (av J (BK dd q) 42) (aj (aV q.A q.ac q.l) (aj (av I #[.map (some b)] 172) (aj (av M (bD W wa) 169) (aj (lM b L) (aj (fA Ds) (aj (av aa (gl xi xj (bs xa) xr) 175) (aj (av ab (gS (yx:Nat) yc yA yf.length yn (bs yt)) 181) (aj R R'))))))))))))) n0 (fun A' c' W5 a2=>hK _ _ ?_));have h6:=a2.perm (by ac_rfl:_=aj (av J (BK dd q) 42) (aj (aV A' c' (q.m++[(yx:Int)])) (aj (av gN (gb (yx:Nat)) 3) (aj (av g15 (gG s) 175) (aj (aV q.A q.ac q.l) (aj (av I #[.map (some b)] 172) (aj (av M (bD W wa) 169) (aj (lM b L) (aj (fA Ds) (aj (av aa (gl xi xj (bs xa) xr) 175) (aj (av ab (gS (yx:Nat) yc yA yf.length yn (bs yt)) 181) (aj R R'))))))))))));have H6:=au (show aI fh w1 (aj (av J (fY dd q.A q.l.length q.ac q.B q.m.length q.bc (bs q.f)) 42) (aj (aV A' c' (q.m++[(yx:Int)])) (aj (av gN (gb (yx:Nat)) 3) (aj (av g15 (gG s) 175) (aj (aV q.A q.ac q.l) (aj (av I #[.map (some b)] 172) (aj (av M (bD W wa) 169) (aj (lM b L) (aj (fA Ds) (aj (av aa (gl xi xj (bs xa) xr) 175) (aj (av ab (gS (yx:Nat) yc yA yf.length yn (bs yt)) 181) (aj R R')))))))))))) W5 from h6);have bf:=au (show(aj (aV A' c' (q.m++[(yx:Int)])) (aj (av gN (gb (yx:Nat)) 3) (aj (av g15 (gG s) 175) (aj (aV q.A q.ac q.l) (aj (av I #[.map (some b)] 172) (aj (av M (bD W wa) 169) (aj (lM b L) (aj (fA Ds) (aj (av aa (gl xi xj (bs xa) xr) 175) (aj (av ab (gS (yx:Nat) yc yA yf.length yn (bs yt)) 181) (aj R R'))))))))))).Ok from(ay bV (ay aC (ay aC (ay bV (ay aC (ay aC (ay jW (ay mP (ay aC (ay aC (ay ad.o am.o))))))))))));obtain⟨f2,V⟩:=H6.o.fst;have p2:=aB (i:=2) V rfl;have pf:=aP V;clear V f2 h6 a2 n0 H5;go_wp2_with fail;have h8:=aJ H6.o bf.o 2 (.slice A' (q.m.length+1) c');have e8:BK dd ⟨q.A,q.ac,q.l,A',c',q.m++[(yx:Int)],q.f⟩=(fY dd q.A q.l.length q.ac A' (q.m.length+1) c' (bs q.f)):=by unfold BK;rw[Yz];rfl
       have H8:=au ((show aI fh w1 (aj (av J (BK dd ⟨q.A,q.ac,q.l,A',c',q.m++[(yx:Int)],q.f⟩) 42) (aj (aV A' c' (q.m++[(yx:Int)])) (aj (av gN (gb (yx:Nat)) 3) (aj (av g15 (gG s) 175) (aj (aV q.A q.ac q.l) (aj (av I #[.map (some b)] 172) (aj (av M (bD W wa) 169) (aj (lM b L) (aj (fA Ds) (aj (av aa (gl xi xj (bs xa) xr) 175) (aj (av ab (gS (yx:Nat) yc yA yf.length yn (bs yt)) 181) (aj R R')))))))))))) _ from by rw[e8];exact h8).perm (by unfold qz;dsimp only;ac_rfl:_=aj (qz W wa b L dd M I g15 J s ⟨q.A,q.ac,q.l,A',c',q.m++[(yx:Int)],q.f⟩ Ds) (aj (av aa (gl xi xj (bs xa) xr) 175) (aj (aj (av gN (gb (yx:Nat)) 3) (av ab (gS (yx:Nat) yc yA yf.length yn (bs yt)) 181)) (aj R R')))));exact HC.o _ _ _ _ _ _ _ _ _ _ _ _ _ _ _ _ _ _ _ _ _ _ _ _ _ _ _ _ aQ H8.o gw gw gw af.o
     ·have t2:(yc+dn != ds)=true:=by simp[an]
      have cE:=au (cz.o (fun h=>an (bb.o.1 h)));clear an;refine tN (fun W':World=>W'.cell? ⟨ab,1,none⟩=some (.int .i64 yc)/\W'.cell? ⟨I,0,none⟩=some (.map (some b))/\(i6 W' aa (.int .i64 xi) (.int .i64 xj) (.string (bs xa)) (.bool xr))/\(i6 W' g15 (.int .i64 s.i) (.int .i64 s.j) (.string (bs s.a)) (.bool s.r))/\(Instr.lookup 172 (.map (some b)) (.agg (gl xi xj (bs xa) xr)) false).run Tryz.prog W'=.ok (.int .i64 dn) W'/\(Instr.lookup 172 (.map (some b)) (.agg (gl s.i s.j (bs s.a) s.r)) false).run Tryz.prog W'=.ok (.int .i64 ds) W') rfl (fun⟨a,w,h⟩=>h) rfl fi ar ?_;clear ar
      (repeat(first|refine aW ?_|refine aX ?_))
      refine lex_nil ?_;gi_wp2;exact aI.kD cE.o (H2.o.perm (by ac_rfl:_=aj (av aa (gG { i:=xi,j:=xj,a:=xa,r:=xr }) 175) (aj (av ab (cu ⟨⟨yx,yc,yf,yt⟩,yA,yn⟩).toArray 181) (aj (aj (qz W wa b L dd M I g15 J s q Ds) R) R')))).drop.drop
    ·intro D R' W1 hR hI;obtain⟨ai,-⟩:=hI.pure;exact(Uk bi.o HP.o.ok HP.o.lt cj.o ai).elim
    ·intro D c9 R' W1 hR hI;obtain⟨s',h1⟩:=hI.ex;obtain⟨q',h1⟩:=h1.ex;obtain⟨⟨rfl,b8,ce⟩,h2⟩:=h1.pure;have cf:=au (show aI fh w1 (aj (qz W wa b L dd M I g15 J s' q' (D::Ds)) (aj R R')) W1 from h2.perm (by unfold qz;rw[Jz];ac_rfl));have bp:=au b8;have bm:=au ce;have b6:=au (ay ad.o hR);have b3:=au (Lu (W:=W) (g15:=g15) (s:=s') cf.o.assoc);clear hI h1 h2 b8 ce hR;go_wp2_with fail;refine⟨VF (D::Ds) rfl rfl rfl rfl rfl rfl rfl b6.o cf.o bp.o,?_⟩;rw[b3.o,cb.o];exact bm.o
variable{gi:Nat}
theorem Qm{y:RA}(h:w.cell? ⟨gi,0,none⟩=some (.int .i64 k)):
  Calls Tryz.prog 132 #[.agg (cu y).toArray,.pointer (some ⟨gi,0,none⟩)] w (aL w (.bool (decide ((y.r.ix:Int)=k)))):=by
 obtain⟨⟨ix,c,f,t⟩,A,n⟩:=y;have q:=aH (aI.begin w) aO (gS (ix:Nat) c A f.length n (bs t)) 181;have z:=au (show Below w.heap.size w (w.alloc (.cells (gS (ix:Nat) c A f.length n (bs t)) 181)) from q.mod.below (fun _ _ h=>h));have I:(w.alloc (.cells (gS (ix:Nat) c A f.length n (bs t)) 181)).cell? ⟨gi,0,none⟩=some (.int .i64 k):=by rw[z.o.cell (YW _ _ h)];exact h
 clear h;unfold cu;dsimp only;by_cases p:(ix:Int)=k
 ·have F:((ix:Int)==k)=true:=by simp[p]
  rw[decide_eq_true p];clear p q
  go_enter Tryz.func132,Tryz.ntmps132
  go_wp2;go_ret;exact⟨rfl,z.o⟩
 ·have F:((ix:Int)==k)=false:=by simp[p]
  rw[decide_eq_false p];clear p q
  go_enter Tryz.func132,Tryz.ntmps132
  go_wp2;go_ret;exact⟨rfl,z.o⟩
def Tf(q:List RA)(k:Int):Int:=match q.findIdx? (fun y=>decide ((y.r.ix:Int)=k)) with
 | none=>-1
 | some j=>j
theorem Qn{q:List RA}(h:∀ j (hj:j<q.length),(q[j].r.ix:Int)≠k):Tf q k=-1:=by
 unfold Tf
 rw[List.findIdx?_eq_none_iff.2 (fun y hy=>by
  obtain⟨j,hj,rfl⟩:=List.mem_iff_getElem.1 hy
  exact decide_eq_false (h j hj))]
theorem Qo{q:List RA}{j:Nat}(hj:j<q.length)(h1:(q[j].r.ix:Int)=k)(h:∀ i (hi:i<j),(q[i].r.ix:Int)≠k):Tf q k=j:=by
 unfold Tf;rw[List.findIdx?_eq_some_iff_getElem.2 ⟨hj,decide_eq_true h1,fun i hi=>by simpa using h i hi⟩]
theorem Nz(q:List RA)(k:Int):(Tf q k=-1/\(q.map (·.r)).find? (fun r=>decide ((r.ix:Int)=k))=none)\/∃ j,∃ p:j<q.length,Tf q k=j/\(q.map (·.r)).find? (fun r=>decide ((r.ix:Int)=k))=some q[j].r:=by
 cases h:q.findIdx? (fun y=>decide ((y.r.ix:Int)=k)) with
 | none=>
  refine .inl ⟨by unfold Tf;rw[h],?_⟩;rw[nh];intro r J;obtain⟨y,I,rfl⟩:=List.mem_map.1 J;have:=List.findIdx?_eq_none_iff.1 h y I;simpa using this
 | some j=>
  obtain⟨p,F,z⟩:=List.findIdx?_eq_some_iff_getElem.1 h;refine .inr ⟨j,p,by unfold Tf;rw[h],?_⟩;rw[ZU];refine⟨F,j,by simpa using p,by simp,fun i hi=>?_⟩;have:=z i hi;simpa using this
theorem wS{R:fj}{rc:Nat}{q:List RA}(hR:Je w R q)(hq:q.length<=1000000)(h:w.cell? ⟨gi,0,none⟩=some (.int .i64 k)):
  Calls Tryz.prog 131 #[.slice R q.length rc,.func (.func 132) #[] #[.pointer (some ⟨gi,0,none⟩)]] w (aL w (.int .i64 (Tf q k))):=by
 have KI:=au (fun W (hb:Below w.heap.size w W) y=>Qm (w:=W) (y:=y) (gi:=gi) (k:=k) (by rw[hb.cell (YW _ _ h)];exact h));have HR:=au hR;have HQ:=au hq;have ag:=au (YC w.heap.size w);clear hR hq h;obtain⟨N,hN⟩:∃ N,N=q.length:=⟨_,rfl⟩;have HN:=au hN;rw[<-hN];clear hN
 go_enter Tryz.func131,Tryz.ntmps131
 go_wp2_with fail;go_loopw [8] (fun i wr=>∃ j:Nat,j<=N/\i=.int .i64 j/\(∀ i (hi:i<q.length),i<j->(q[i].r.ix:Int)≠k)/\Below w.heap.size w wr) (fun i _=>N-(intOf i).toNat)
 case atStart=>exact⟨0,YE _,rfl,fun i _ h=>absurd h (Zn _),ag.o⟩
 case round=>
  obtain⟨j,hj,rfl,ac,F⟩:=hrel;have p:=au F;have I:=au ac;clear F ac;by_cases ab:j<N
  ·have z:j<q.length:=by rw[<-HN.o];exact ab
   have ad:=au ab;obtain⟨b,o,rfl,V⟩:=tH.at (R:=cu) (fun _=>rfl) ff HR.o ff;have r0:=V wr p.o j z 0 _ rfl;have r1:=V wr p.o j z 1 _ rfl;have r2:=V wr p.o j z 2 _ rfl;have r3:=V wr p.o j z 3 _ rfl;simp only[ZM] at r0;have ak:(j:Int)<1000000:=by have:=HQ.o;omega
   have K1:=au (KI.o wr p.o q[j]);have aa:=au (fun h=>Qo z h (fun i hi=>I.o i ff hi):(q[j].r.ix:Int)=k->_)
   have af:=au (show(q[j].r.ix:Int)≠k->∀ i (hi:i<q.length),i<j+1->(q[i].r.ix:Int)≠k from fun h i hi ai=>by
    by_cases e:i=j
    ·subst e;exact h
    ·exact I.o i hi ff)
   clear V;generalize q[j]=y at *
   obtain⟨⟨ix,c,f,t⟩,A,n⟩:=y;unfold cu at K1;dsimp only at K1 r0 r1 r2 r3 aa af;go_wp2_with fail;refine K1.o.mono ?_;rintro e9 w4 ⟨rfl,hb⟩;have ae:=au (aG p.o hb);clear K1 hb r0 r1 r2 r3;dsimp only;by_cases J:(ix:Int)=k
   ·have M:=au (aa.o J);rw[decide_eq_true J];clear J;go_wp2;go_ret;rw[M.o];exact⟨rfl,ae.o⟩
   ·have M:=au (af.o J);rw[decide_eq_false J];clear J;go_wp2
    go_roundw
    case rel=>exact⟨j+1,ad.o,by go_num,M.o,ae.o⟩
    case measure=>have:=ad.o;simp[intOf];omega
  ·have M:=au (show Tf q k=-1 from Qn (fun i hi=>I.o i hi (by have:=HN.o;omega)));go_wp2;go_ret;rw[M.o];exact⟨rfl,p.o⟩
def Wz(w:World)(l:List Bs)(rs:List AR)(ks:List Int)(e:Ending)(w':World):Prop:=
 ∃ (F:Bs) (c:Int) (ok:Bool),e=.returned (.tuple #[.string (bs F),.int .i64 c,.bool ok])/\(F.length<=1000000000/\0<=c/\c<=1000000000)/\((ok=true->kX l rs ks 0=some (F,c,l.length))/\(ok=false->∀ h c',kX l rs ks 0≠some (h,c',l.length)))/\Below w.heap.size w w'
def F5(l:List Bs)(rs:List AR)(ks:List Int)(j at0:Nat)(F:Bs)(c:Int):Prop:=
 (F.length<=1000000*j/\0<=c/\c<=1000000*j/\at0<=l.length)/\kX l rs ks 0=(kX l rs (ks.drop j) at0).map fun z=>(F++z.1,c+z.2.1,z.2.2)
variable{l:List Bs}{rs:List AR}{ks:List Int}{j at0:Nat}{F:Bs}{c:Int}{r:AR}
theorem NA:F5 l rs ks 0 0 [] 0:=by
 refine⟨⟨by simp,by simp,by simp,YE _⟩,?_⟩;rw[me];cases kX l rs ks 0 with
 | none=>rfl
 | some z=>simp
theorem NC(h:F5 l rs ks j at0 F c)(J:j<ks.length)(q:rs.find? (fun r=>decide ((r.ix:Int)=ks[j]))=some r)(p:jw l r at0=true)(ht:r.t.length<=1000000)(h0:0<=r.c)(h1:r.c<=1000000):F5 l rs ks (j+1) (at0+r.f.length) (F++r.t) (c+r.c):=by
 obtain⟨⟨g1,g2,M,V⟩,I⟩:=h;refine⟨⟨by rw[Yz];omega,by omega,by omega,?_⟩,?_⟩
 ·unfold jw at p;simp only[YF,decide_eq_true_eq] at p;exact p.1
 ·rw[I,Y7 J]
  conv=>lhs;unfold kX
  rw[q];simp only[p,if_true,kp];congr 1;funext z;simp only[Function.comp,Y3,tg]
theorem Qp(h:F5 l rs ks ks.length at0 F c)(he:at0=l.length):kX l rs ks 0=some (F,c,l.length):=by
 rw[h.2,ly];unfold kX;simp[he]
theorem ND(h:F5 l rs ks j at0 F c)(hj:j<ks.length)(hr:rs.find? (fun r=>decide ((r.ix:Int)=ks[j]))=none)(F':Bs)(c':Int):kX l rs ks 0≠some (F',c',l.length):=by
 rw[h.2,Y7 hj];unfold kX;rw[hr];intro e;cases e
theorem Jm(h:F5 l rs ks j at0 F c)(z:j<ks.length)(I:rs.find? (fun r=>decide ((r.ix:Int)=ks[j]))=some r)(q:jw l r at0=false)(p:Bs)(c':Int):kX l rs ks 0≠some (p,c',l.length):=by
 rw[h.2,Y7 z];unfold kX;rw[I];simp only;rw[if_neg (by rw[q];decide)];intro e;cases e
theorem Qq(h:F5 l rs ks ks.length at0 F c)(q:at0≠l.length)(p:Bs)(c':Int):kX l rs ks 0≠some (p,c',l.length):=by
 rw[h.2,ly];unfold kX;simp only[km];intro e;injection e with e
 injection e with e1 e2
 injection e2 with e2 e3
 exact q e3
theorem xX{L R D:fj}{lc rc dc:Nat}{q:List RA}(hL:fM w L l)(hR:Je w R q)(hF:∀ y ∈ q,fM w y.A y.r.f)(hD:Src w D ks.length 1 (ks.map (Value.int .i64)))(a0:l.length<=lc)(aD:l.length<=1000000)(hq:q.length<=1000000)(hf:∀ y ∈ q,y.r.f.length<=1000000/\y.r.t.length<=1000000/\0<=y.r.c/\y.r.c<=1000000)(hk:ks.length<=1000):
  Calls Tryz.prog 108 #[.agg (fL L l.length lc R q.length rc),.slice D ks.length dc] w (Wz w l (q.map (·.r)) ks):=by
 have h1:=aH (aI.begin w) aO (fL L l.length lc R q.length rc) 167;have J:=au (show Below w.heap.size w _ from h1.mod.below (fun _ _ h=>h))
 have aa:=au (fun W (h:Below (w.alloc (.cells (fL L l.length lc R q.length rc) 167)).heap.size (w.alloc (.cells (fL L l.length lc R q.length rc) 167)) W)=>(show (ja W w.heap.size (.slice L l.length lc) (.slice R q.length rc)) from by
  obtain⟨f,hf⟩:=(h1.below aQ h).fst
  exact⟨aB hf rfl,aB hf rfl⟩))
 have HL:=au hL;have HR:=au hR;have HF:=au hF;have HD:=au hD;have a7:=au a0;have a2:=au aD;have HQ:=au hq;have af:=au hf;have HK:=au hk;clear hL hR hF hD a0 aD hq hf hk h1;obtain⟨n,hn⟩:∃ n,n=ks.length:=⟨_,rfl⟩;have HN:=au hn;rw[<-hn];clear hn
 go_enter Tryz.func108,Tryz.ntmps108
 go_wp2_with fail;generalize w.alloc (.cells (fL L l.length lc R q.length rc) 167)=w1 at *
 generalize w.heap.size=g2 at aa ⊢;have be:=au (YC w1.heap.size w1);go_loopw [4,5,7,13] (fun u v a i wr=>∃ (j at0:Nat) (F:Bs) (c:Int),j<=n/\i=.int .i64 j/\u=.string (bs F)/\v=.int .i64 c/\a=.int .i64 at0/\F5 l (q.map (·.r)) ks j at0 F c/\Below w1.heap.size w1 wr) (fun _ _ _ i _=>n-(intOf i).toNat)
 case atStart=>exact⟨0,0,[],0,YE _,rfl,rfl,rfl,rfl,NA,be.o⟩
 case round=>
  obtain⟨j,at0,F,c,hj,rfl,rfl,rfl,rfl,hI,ao⟩:=hrel;have ag:=au ao;have HI:=au hI;clear ao hI;by_cases az:j<n
  ·have an:j<ks.length:=by rw[<-HN.o];exact az
   have a4:=au az;obtain⟨db,bf,rfl,a1⟩:=Src.open_ HD.o ff ff;have k0:wr.cell? ⟨db,bf+j,none⟩=some (.int .i64 ks[j]):=by
    have h1:=a1 j (.int .i64 ks[j]) (by simp[an]);have bb:=aG J.o ag.o;rw[bb.cell (YW _ _ h1)];exact h1
   have bk:(j:Int)<1000000:=by have:=HK.o;omega
   have aA:=au (fun r hr hf ht h0 h1=>NC (r:=r) HI.o an hr hf ht h0 h1);have a8:=au (fun hr=>ND HI.o an hr);have ba:=au (fun r hr hf=>Jm (r:=r) HI.o an hr hf);have aw:=au (Nz q ks[j]);have h4:=aH (aI.begin wr) aO (gb ks[j]) 3;have ai:=au (aG ag.o (h4.mod.below (fun _ _ h=>h)));have K1:=au (wS (w:=wr.alloc (.cells (gb ks[j]) 3)) (rc:=rc) (HR.o.below (aG J.o ai.o)) HQ.o (gi:=wr.heap.size) (k:=ks[j]) (by obtain⟨f,hf⟩:=h4.fst;exact aB (i:=0) hf rfl));have y0:=(aa.o _ ai.o).1;have y1:=(aa.o _ ai.o).2;obtain⟨⟨i1,i2,i3,i4⟩,-⟩:=HI.o;have bm:F.length<=1000000000:=by have:=HK.o;omega
   have bp:c<=1000000000:=by have:=HK.o;omega
   have bn:at0<=1000000:=by have:=a2.o;omega
   have a5:=au i4;have a9:=au i2;clear a1 h4 i1 i3 i4;generalize ks[j]=kk at *
   go_wp2_with fail;refine K1.o.mono ?_;rintro e9 w5 ⟨rfl,hb⟩;have V:=au (aG ai.o hb);clear K1 hb k0 y0 y1;dsimp only;rcases aw.o with⟨ad,ab⟩|⟨p,ac,ad,ab⟩
   ·rw[ad];have aq:=au (a8.o ab);clear ad aw ab;have I:=au (aG V.o ((YC w5.heap.size w5).drew));go_upto_region 6 with (fail);refine aK (fun w'=>w'=w5.drew) fi fi rfl ?_;generalize w5.drew=w6 at *
    (repeat(first|refine aW ?_|refine aX ?_))
    refine lex_nil ?_;go_wp2;refine bodyPost_ret (results_tmp3 rfl _ _ _) rfl ?_;exact⟨[],0,false,rfl,⟨by simp,by simp,by simp⟩,⟨(fun h=>by cases h),fun _=>aq.o⟩,aG J.o I.o⟩
   ·rw[ad];clear ad aw;obtain⟨rb,ro,rfl,ae⟩:=tH.at (R:=cu) (fun _=>rfl) ff HR.o ff
    have al:=au (fun W (h:Below w5.heap.size w5 W)=>(show W.cell? ⟨rb,ro+p*4,none⟩=some (.int .i64 (q[p].r.ix:Nat))/\W.cell? ⟨rb,ro+p*4+1,none⟩=some (.int .i64 q[p].r.c)/\W.cell? ⟨rb,ro+p*4+2,none⟩=some (.slice q[p].A q[p].r.f.length q[p].c)/\W.cell? ⟨rb,ro+p*4+3,none⟩=some (.string (bs q[p].r.t))/\(ja W g2 (.slice L l.length lc) (.slice (some ⟨rb,ro,none⟩) q.length rc)) from by
     have hb:=aG J.o (aG V.o h);have hy:=aa.o W (aG V.o h)
     exact⟨ae W hb p ac 0 _ rfl,ae W hb p ac 1 _ rfl,ae W hb p ac 2 _ rfl,ae W hb p ac 3 _ rfl,hy.1,hy.2⟩))
    have z:=YL ac;have ak:=au (fun hf=>aA.o _ ab hf (af.o _ z).2.1 (af.o _ z).2.2.1 (af.o _ z).2.2.2);have a3:=au (fun hf=>ba.o _ ab hf);have KF:=au (fun W (h:Below w5.heap.size w5 W)=>Fz (w:=W) (R:=some ⟨rb,ro,none⟩) (rn:=q.length) (rc:=rc) (lc:=lc) (fc:=q[p].c) (r:=q[p].r) (i:=at0) (HL.o.below (aG J.o (aG V.o h))) ((HF.o _ z).below (aG J.o (aG V.o h))) a5.o a7.o a2.o (af.o _ z).1);obtain⟨b1,b2,b3,b4⟩:=af.o _ z;have bj:(p:Int)<1000000:=by have:=HQ.o;omega
    have bh:=au ac;clear ae ab z aA HR HF HD HL;generalize q[p]=y at *
    obtain⟨⟨ix,M,rf,rt⟩,rA,rn⟩:=y;dsimp only at al ak a3 KF b1 b2 b3 b4;go_upto_region 6 with (fail);have t1:decide ((p:Int)<0)=false:=decide_eq_false ff;have I:=au ((YC w5.heap.size w5).drew);have ax:=au (al.o _ I.o);refine aK (fun W:World=>W.cell? ⟨rb,ro+p*4,none⟩=some (.int .i64 (ix:Nat))/\W.cell? ⟨rb,ro+p*4+1,none⟩=some (.int .i64 M)/\W.cell? ⟨rb,ro+p*4+2,none⟩=some (.slice rA rf.length rn)/\W.cell? ⟨rb,ro+p*4+3,none⟩=some (.string (bs rt))/\(ja W g2 (.slice L l.length lc) (.slice (some ⟨rb,ro,none⟩) q.length rc))) fi fi ax.o ?_;clear ax;generalize w5.drew=w6 at *
    (repeat(first|refine aW ?_|refine aX ?_))
    refine bY rfl ft (fun K hK=>?_);go_wp2_with fail;refine(KF.o w6 I.o).mono ?_;rintro e9 w7 ⟨rfl,hb⟩;have am:=au (aG I.o hb);refine hK.o _ _ (al.o w7 am.o) ?_;clear hK KF hb I;generalize ap:jw l ⟨ix,M,rf,rt⟩ at0=fb at *
    cases fb with
    | false=>
     have aq:=au (a3.o rfl);clear ak ap
     (repeat(first|refine aW ?_|refine aX ?_))
     refine lex_nil ?_;go_wp2;refine bodyPost_ret (results_tmp3 rfl _ _ _) rfl ?_;exact⟨[],0,false,rfl,⟨by simp,by simp,by simp⟩,⟨(fun h=>by cases h),fun _=>aq.o⟩,aG J.o (aG V.o am.o)⟩
    | true=>
     have bd:=au (ak.o rfl);clear ak ap
     (repeat(first|refine aW ?_|refine aX ?_))
     refine lex_nil ?_;obtain⟨x0,x1,x2,x3,x4,x5⟩:=al.o w7 am.o;have i2:=a9.o;have bi:¬ 9223372036854775807<(bs F).size+(bs rt).size:=by rw[bB,bB];omega
     have bo:p<q.length:=bh.o;go_wp2_with fail
     go_roundw
     case rel=>exact⟨j+1,at0+rf.length,F++rt,c+M,a4.o,by go_num,by rw[D5],rfl,by go_num,bd.o,aG V.o am.o⟩
     case measure=>have:=a4.o;simp[intOf];omega
  ·obtain rfl:j=n:=by omega
   have y0:=(aa.o _ ag.o).1;obtain⟨⟨i1,i2,i3,i4⟩,-⟩:=HI.o;have aE:=au (show F.length<=1000000000/\0<=c/\c<=1000000000 from⟨by have:=HK.o;have:=HN.o;omega,i2,by have:=HK.o;have:=HN.o;omega⟩);have bc:=au (fun h=>Qp (l:=l) (rs:=q.map (·.r)) (ks:=ks) (at0:=at0) (F:=F) (c:=c) (by have:=HI.o;rw[HN.o] at this;exact this) h);have a6:=au (fun h=>Qq (l:=l) (rs:=q.map (·.r)) (ks:=ks) (at0:=at0) (F:=F) (c:=c) (by have:=HI.o;rw[HN.o] at this;exact this) h);have I:=au (aG ag.o ((YC wr.heap.size wr).drew));clear i1 i2 i3 i4;go_upto_region 12 with (fail);refine aK (fun w'=>w'=wr.drew) fi fi rfl ?_;have y0:=(aa.o _ I.o).1;generalize wr.drew=w6 at *
   by_cases he:at0=l.length
   ·have t1:((at0:Int)==(l.length:Int))=true:=by simp[he]
    have ar:=au (bc.o he);clear he
    (repeat(first|refine aW ?_|refine aX ?_))
    refine lex_nil ?_;go_wp2;refine bodyPost_ret (results_tmp3 rfl _ _ _) rfl ?_;exact⟨F,c,true,rfl,aE.o,⟨(fun _=>ar.o),fun h=>by cases h⟩,aG J.o I.o⟩
   ·have t1:((at0:Int)==(l.length:Int))=false:=by simp;omega
    have ar:=au (a6.o he);clear he
    (repeat(first|refine aW ?_|refine aX ?_))
    refine lex_nil ?_;go_wp2;refine bodyPost_ret (results_tmp3 rfl _ _ _) rfl ?_;exact⟨F,c,false,rfl,aE.o,⟨(fun h=>by cases h),fun _=>ar.o⟩,aG J.o I.o⟩
theorem Cw{rs:List ib}{r:AR}(h:r ∈ fK rs k):∃ R ∈ rs,r.c=R.c:=by
 unfold fK at h;obtain⟨⟨R,ix⟩,hp,hr⟩:=List.mem_filterMap.1 h;refine⟨R,DW _ _ hp,?_⟩;unfold oF at hr;simp only at hr;split at hr
 ·split at hr
  ·injection hr with hr;rw[<-hr]
  ·cases hr
 ·cases hr
def XI(w:World)(T:fy)(k:Int)(x:Bs)(k2:Int)(y:Bs)(d:Dv)(e:Ending)(w':World):Prop:=
 ∃ b:Bool,e=.returned (.bool b)/\(b=true↔tX T k x k2 y d)/\Below w.heap.size w w'
theorem Jo{a:TA}(hT:iR w T a)(hz:LZ w)(k:Int)(x:Bs)(k2:Int)(y:Bs)(hx:x.length<=1000000)(hy:y.length<=1000000){d:Dv}{B:fj}{ac bc:Nat}(hA:iD w A d.L)(hB:iD w B d.M)(hl:d.L.length<=1000)(hm:d.M.length<=1000):
  Calls Tryz.prog 71 #[eu T a,.int .i64 k,.string (bs x),.int .i64 k2,.string (bs y),.agg (fY d.c A d.L.length ac B d.M.length bc (bs d.F))] w (XI w T k x k2 y d):=by
 have h1:=aH (aI.begin w) aO (dh T a) 25;have V:=aH h1 aQ (fY d.c A d.L.length ac B d.M.length bc (bs d.F)) 42;rw[YN] at V;have H2:=au V;have I:=au (show Below w.heap.size w _ from V.mod.below (fun _ _ h=>h));have KO:=au (FJ (hT.below I.o) (hz.below I.o) k x k2 y hx hy);have HA:=au hA;have HB:=au hB;have bf:=au hl;have bd:=au hm;clear hT hz h1 V hA hB hl hm;unfold eu at KO ⊢;unfold dh at KO H2 I ⊢;obtain⟨n1,ax⟩:∃ n,n=d.L.length:=⟨_,rfl⟩;obtain⟨n2,az⟩:∃ n,n=d.M.length:=⟨_,rfl⟩;rw[<-ax,<-az] at H2 I KO ⊢;have a9:=au ax;have be:=au az;clear ax az
 go_enter Tryz.func71,Tryz.ntmps71
 go_wp2_with fail;refine KO.o.mono ?_;rintro e9 w1 ⟨wa,rfl,hb,hok⟩;have H3:=au (H2.o.below aQ hb);have ag:=au (I.o.trans (hb.mono I.o.size));have am:=au hok;clear KO hb hok H2 I;obtain⟨W,hW⟩:∃ W,W=Ta T k x k2 y:=⟨_,rfl⟩;rw[<-hW] at am ⊢;have HW:=au hW;clear hW;unfold bD;generalize a4:okW T k x k2 y=ob at am ⊢;have al:=au a4;clear a4;have H4:=au (aH H3.o aQ (bD W wa) 169);unfold bD at H4;dsimp only;cases ob with
 | false=>
  go_wp2;go_ret;exact⟨false,rfl,⟨(fun h=>by cases h),fun h=>by have:=h.1;rw[al.o] at this;cases this⟩,H4.o.mod.below (fun _ _ h=>h)⟩
 | true=>
  obtain⟨hP,J⟩:=am.o rfl;have ai:=au (show W=bP T k x k2 y from HW.o.trans (PO al.o));have hg:W.good:=by rw[ai.o];exact(rV (gI.1 al.o).2.2).1
  have aA:∀ z ∈ wa.a.q,z.r.f.length<=1000000/\z.r.t.length<=1000000/\0<=z.r.c/\z.r.c<=1000000:=fun z hz=>by
   obtain⟨R,hR,e⟩:=Cw (by rw[<-J.qa];exact pS hz:z.r ∈ fK W.rs W.ka);have:=hg R hR;exact⟨(J.f6 z hz).1,(J.f6 z hz).2,by omega,by omega⟩
  have a5:∀ z ∈ wa.b.q,z.r.f.length<=1000000/\z.r.t.length<=1000000/\0<=z.r.c/\z.r.c<=1000000:=fun z hz=>by
   obtain⟨R,hR,e⟩:=Cw (by rw[<-J.qb];exact pS hz:z.r ∈ fK W.rs W.kb);have:=hg R hR;exact⟨(J.g6 z hz).1,(J.g6 z hz).2,by omega,by omega⟩
  have aE:=au (show Below w1.heap.size w1 (w1.alloc (.cells (hJ wa.a.L W.l.length wa.a.lc wa.a.R wa.a.q.length wa.a.rc wa.b.L W.m.length wa.b.lc wa.b.R wa.b.q.length wa.b.rc) 169)) from(YC _ _).alloc (YG _) _);have KA:=au (fun W' (h:Below w1.heap.size w1 W')=>xX (w:=W') (L:=wa.a.L) (R:=wa.a.R) (D:=A) (lc:=wa.a.lc) (rc:=wa.a.rc) (dc:=ac) (hP.l.below h) (hP.ra.below h) (fun z hz=>(hP.fa z hz).below h) (HA.o.below (ag.o.trans (h.mono ag.o.size))) J.la J.l6 J.na aA bf.o);have KB:=au (fun W' (h:Below w1.heap.size w1 W')=>xX (w:=W') (L:=wa.b.L) (R:=wa.b.R) (D:=B) (lc:=wa.b.lc) (rc:=wa.b.rc) (dc:=bc) (hP.m.below h) (hP.rb.below h) (fun z hz=>(hP.fb z hz).below h) (HB.o.below (ag.o.trans (h.mono ag.o.size))) J.lb J.m6 J.nb a5 bd.o);rw[<-a9.o] at KA;rw[<-be.o] at KB;have ar:=au J.qa;have aw:=au J.qb
  have ad:=au (fun W' (h:Below (w1.alloc (.cells (hJ wa.a.L W.l.length wa.a.lc wa.a.R wa.a.q.length wa.a.rc wa.b.L W.m.length wa.b.lc wa.b.R wa.b.q.length wa.b.rc) 169)).heap.size (w1.alloc (.cells (hJ wa.a.L W.l.length wa.a.lc wa.a.R wa.a.q.length wa.a.rc wa.b.L W.m.length wa.b.lc wa.b.R wa.b.q.length wa.b.rc) 169)) W')=>(show(i6 W' w1.heap.size (.slice wa.a.L W.l.length wa.a.lc) (.slice wa.a.R wa.a.q.length wa.a.rc) (.slice wa.b.L W.m.length wa.b.lc) (.slice wa.b.R wa.b.q.length wa.b.rc))/\(i6 W' (w.heap.size+1) (.int .i64 d.c) (.slice A n1 ac) (.slice B n2 bc) (.string (bs d.F)))/\Below w.heap.size w W' from by
   have h5:=H4.o.below aQ h;obtain⟨f1,ak⟩:=h5.fst;obtain⟨f2,af⟩:=h5.drop.fst
   exact⟨⟨aB ak rfl,aB ak rfl,aB ak rfl,aB ak rfl⟩,⟨aB af rfl,aB af rfl,aB af rfl,aB af rfl⟩,h5.mod.below (fun _ _ h=>h)⟩))
  clear hP J aA a5 hg am H3 H4 HA HB;go_upto_region 2 with (fail);generalize ba:w1.alloc (.cells (hJ wa.a.L W.l.length wa.a.lc wa.a.R wa.a.q.length wa.a.rc wa.b.L W.m.length wa.b.lc wa.b.R wa.b.q.length wa.b.rc) 169)=w3 at *
  clear ba;generalize w1.heap.size=bh at ad ⊢;obtain⟨⟨a0,a1,a2,a3⟩,⟨q0,q1,q2,q3⟩,-⟩:=ad.o w3 (YC _ _);have K1:=au (KA.o w3 aE.o);go_wp2_with fail;refine K1.o.mono ?_;rintro e9 w4 ⟨F1,c1,ok1,rfl,⟨g1,g2,g3⟩,hw1,hb⟩;have a8:=au (aG aE.o hb);have aD:=au hb;have ao:=au hw1;clear K1 hw1 hb a0 a1 a2 a3 q0 q1 q2 q3 KA;obtain⟨⟨a0,a1,a2,a3⟩,⟨q0,q1,q2,q3⟩,-⟩:=ad.o w4 aD.o;have K2:=au (KB.o w4 a8.o);dsimp only;go_wp2_with fail;refine K2.o.mono ?_;rintro e9 w5 ⟨F2,c2,ok2,rfl,⟨g4,g5,g6⟩,hw2,hb⟩;have a7:=au (aG aD.o hb);have ap:=au hw2;clear K2 hw2 hb a0 a1 a2 a3 q0 q1 q2 q3 KB;obtain⟨-,⟨q0,q1,q2,q3⟩,a6⟩:=ad.o w5 a7.o;have aa:=au a6;clear a6 ad;dsimp only
  have ab:=au (show tX T k x k2 y d->ok1=true/\ok2=true/\F1=d.F/\F2=d.F/\c1+c2=d.c from by
   rintro⟨-,F,e1,e2,k1,k2,k3,k4⟩;have p:=ai.o;rw[<-p] at k1 k2;have q1:=ao.o;have q2:=ap.o;rw[ar.o] at q1;rw[aw.o] at q2;have p1:ok1=true:=by
    cases ok1 with
    | true=>rfl
    | false=>exact absurd (by subst p;exact k1) (q1.2 rfl _ _)
   have p2:ok2=true:=by
    cases ok2 with
    | true=>rfl
    | false=>exact absurd (by subst p;exact k2) (q2.2 rfl _ _)
   have r1:=q1.1 p1;have r2:=q2.1 p2;have aq:some (F1,c1,W.l.length)=some (F,e1,W.l.length):=r1.symm.trans (by subst p;exact k1);have an:some (F2,c2,W.m.length)=some (F,e2,W.m.length):=r2.symm.trans (by subst p;exact k2);injection aq with aq
   injection an with an
   injection aq with s1 s2
   injection s2 with s2 _
   injection an with s3 s4
   injection s4 with s4 _
   exact⟨p1,p2,by rw[s1,k3],by rw[s3,k3],by rw[s2,s4];exact k4⟩)
  cases ok1 with
  | false=>
   go_wp2;go_ret;exact⟨false,rfl,⟨(fun h=>by cases h),fun h=>by cases (ab.o h).1⟩,aa.o⟩
  | true=>
   cases ok2 with
   | false=>
    go_wp2;go_ret;exact⟨false,rfl,⟨(fun h=>by cases h),fun h=>by cases (ab.o h).2.1⟩,aa.o⟩
   | true=>
    have HR:=au (show F1=d.F->F2=d.F->c1+c2=d.c->tX T k x k2 y d from fun h1 V h3=>by
     have e1:=ao.o.1 rfl;have e2:=ap.o.1 rfl;rw[ar.o,h1] at e1;rw[aw.o,V] at e2;have p:=ai.o;subst p
     exact⟨al.o,d.F,c1,c2,e1,e2,rfl,h3⟩)
    have tw:wrap64 (c1+c2)=c1+c2:=Zr _ ff;clear ao ap ar aw ai;by_cases h1:F1=d.F
    ·have t1:((bs F1).toList==(bs d.F).toList)=true:=by rw[dI];simp[h1]
     by_cases V:F2=d.F
     ·have t2:((bs F2).toList==(bs d.F).toList)=true:=by rw[dI];simp[V]
      by_cases h3:c1+c2=d.c
      ·have t3:(c1+c2==d.c)=true:=by simp[h3]
       have bb:=au (HR.o h1 V h3);clear h1 V h3 HR;go_wp2;go_ret;exact⟨true,rfl,⟨(fun _=>bb.o),fun _=>rfl⟩,aa.o⟩
      ·have t3:(c1+c2==d.c)=false:=by simp[h3]
       have ae:=au (fun h=>h3 (ab.o h).2.2.2.2);clear h1 V h3 HR;go_wp2;go_ret;exact⟨false,rfl,⟨(fun h=>by cases h),fun h=>absurd h ae.o⟩,aa.o⟩
     ·have t2:((bs F2).toList==(bs d.F).toList)=false:=by rw[dI];simpa using fun h=>V (nO h)
      have ae:=au (fun h=>V (ab.o h).2.2.2.1);clear h1 V HR;go_wp2;go_ret;exact⟨false,rfl,⟨(fun h=>by cases h),fun h=>absurd h ae.o⟩,aa.o⟩
    ·have t1:((bs F1).toList==(bs d.F).toList)=false:=by rw[dI];simpa using fun h=>h1 (nO h)
     have ae:=au (fun h=>h1 (ab.o h).2.2.1);clear h1 HR;go_wp2;go_ret;exact⟨false,rfl,⟨(fun h=>by cases h),fun h=>absurd h ae.o⟩,aa.o⟩
end Go.Proofs.YtbnnlpjpnihheaaGreatDoor
