/- A part of the proof: lemmas. -/
import Derived.Test.YtbioiclabmbedaaGreatDoorSI5
set_option maxHeartbeats 16000000
set_option maxRecDepth 100000
set_option linter.all false
namespace Go.Proofs.YtbioiclabmbedaaGreatDoor
open Go.RowKit Go.CH Go.CH.Scr Go.CH.dh
open Go.ChangeMaps (setBlock)
structure RA where
 r:AR
 A:eV
 c:Nat
def dX (x:RA):List Value:=[.int .i64 (x.r.ix:Nat),.int .i64 x.r.c,.slice x.A x.r.f.length x.c,.string (bs x.r.t)]
theorem CS (l:List RA):∀ u ∈ l.flatMap dX,u.oneCell'=true:=by
 intro u hu;obtain⟨x,-,hx⟩:=List.mem_flatMap.1 hu;unfold dX at hx;simp only[pA,vm,or_false] at hx;rcases hx with rfl|rfl|rfl|rfl<;>rfl
def kS:List RA->CH.aT
 | []=>bG
 | x::l=>aj (fZ x.A x.c x.r.f) (kS l)
theorem uT:∀ {l:List RA},(kS l).Ok
 | []=>aN
 | _::_=>aB iC uT
theorem FN (x:RA):∀ l:List RA,kS (l++[x])=aj (fZ x.A x.c x.r.f) (kS l)
 | []=>rfl
 | y::l=>by
  show aj _ (kS (l++[x]))=aj _ (aj _ (kS l))
  rw[FN x l];ac_rfl
def sI (A:eV) (c:Nat) (l:List RA):CH.aT:=aV 177 4 (.slice A l.length c) l.length (l.flatMap dX)
variable {A:eV}{c n g:Nat}{w w0 W:World}{F F0:Nat->Prop}{a:Act}{Q:Exit->Act->World->Prop}{t:TypeId}{X:CH.aT}{rs:List ik}{k:Int}
theorem zL   {l:List RA}:(sI A c l).Ok:=dK
instance {A:eV} {c:Nat} {l:List RA}:(sI A c l).Ok:=zL
abbrev Va (w:World) (A:eV) (l:List RA):Prop:=sD dX 4 w A l
theorem X2     {l:List RA} (h:sI A c l w F):Va w A l:=iG h (CS l)
theorem Ys:eB Tryz.prog 161 177 (.agg (kl 0 0 none 0 0 ⟨#[]⟩)) 4 56:=⟨Tryz.underlying161,by kernel_rfl,by decide,by decide⟩
theorem Vb   {l:List RA} {x:RA}:aV 177 4 (.slice A (l.length+1) c) (l.length+1) (l.flatMap dX++dX x)=sI A c (l++[x]):=by
 unfold sI;rw[tW,gd,pC,vi]
theorem Zr   {Y:CH.aT} {ops:Array Oper} {rest:List Oper} {o:Oper}   (ac:o.guard=none) (s x:Operand)
  (ho:o.op=.call { callee:=.builtin .append,args:=#[s,x],argTypes:=#[161,161] })   {l:List RA} (p:RA) (hl:l.length=n) (hsv:a.eval s=.slice A n c) (hx:a.eval x=.slice (some ⟨W.heap.size,0,none⟩) 1 1) (hn:n<=1000000) (hY:Y.Ok)
  (h:aI F0 w0 (aj (sI A c l) Y) W)
  (hK:∀ A' c' w',aI F0 w0 (aj (sI A' c' (l++[p])) Y) w'->wpList Tryz.prog ops Q rest (a.put o.dst (.slice A' (n+1) c')) w'):wpList Tryz.prog ops Q (o::rest) a (W.alloc (.cells (kl (p.r.ix:Nat) p.r.c p.A p.r.f.length p.c (bs p.r.t)) 177)):=by
 subst hl;obtain⟨F7,I,-,ab⟩:=(h.below aO ((fe _ _).alloc (fy _) (.cells (kl (p.r.ix:Nat) p.r.c p.A p.r.f.length p.c (bs p.r.t)) 177))).take zL hY;refine Am ac s x ho Ys _ 0 (v:=.slice A l.length c) (n:=l.length) (xs:=l.flatMap dX) hsv I.1 (A:=some ⟨W.heap.size,0,none⟩) (m:=1) (c:=1) (news:=dX p) hx (nU (cs:=(kl (p.r.ix:Nat) p.r.c p.A p.r.f.length p.c (bs p.r.t))) (fun u hu=>CS [p] u (by simpa[dX] using hu))) (by unfold maxLen;omega) eL (fw _) ?_;intro v8 w8 J M aa;have S8:=ab _ _ (je I J M aa);obtain⟨A8,c8,rfl⟩:=ig J;rw[Vb] at S8;exact hK A8 c8 w8 S8
structure SA where
 L:eV
 lc:Nat
 R:eV
 rc:Nat
 q:List RA
def kX (T:eW) (k:Int) (x:Bs):List Bs × List AR:=if word k x then((aP k (lower x)).1,gT T.rs k) else([],[])
def J8 (l:List Bs) (s:SA):Array Value:=(fj s.L l.length s.lc s.R s.q.length s.rc)
def iE (l:List Bs) (s:SA):CH.aT:=aj (fZ s.L s.lc l) (aj (sI s.R s.rc s.q) (kS s.q))
theorem rM {l:List Bs} {s:SA}:(iE l s).Ok:=aB iC (aB zL uT)
instance {l:List Bs} {s:SA}:(iE l s).Ok:=rM
def uU (w:World) (T:eW) (k:Int) (x:Bs) (e:Ending) (w':World):Prop:=
 ∃ s:SA,e=.returned (.tuple #[.agg (J8 (kX T k x).1 s),.bool (word k x)])/\s.q.map (·.r)=(kX T k x).2/\bT w eR (iE (kX T k x).1 s) w'
theorem oK      {M J:Value} (h:aI F0 w0 (aj (av g #[M,J] t) X) w) (I:X.Ok) (b0 b1:Value) :
  aI F0 w0 (aj (av g #[b0,b1] t) X) ((w.setCell ⟨g,0,none⟩ b0).setCell ⟨g,1,none⟩ b1):=by
 have h0:aI F0 w0 (aj (av g #[b0,J] t) X) _:=aJ h I 0 b0;exact aJ h0 I 1 b1
theorem Zt    (hn:n<rs.length):(rs.zipIdx.take (n+1)).filterMap (Bj k)=(rs.zipIdx.take n).filterMap (Bj k)++(Bj k (rs[n],n)).toList:=by
 have e:rs.zipIdx.take (n+1)=rs.zipIdx.take n++[(rs[n],n)]:=by
  rw[kq (by rw[xv];exact hn)];simp
 rw[e,sR];cases h:Bj k (rs[n],n)<;>simp[h]
theorem YY    (hn:rs.length<=n):(rs.zipIdx.take n).filterMap (Bj k)=gT rs k:=by
 rw[tE (by rw[xv];exact hn)];rfl
variable {T:eW}
theorem CU   {a:TA} (hT:kr w T a) (hz:LZ w) (k:Int) (x:Bs) (hx:x.length<=1000000) :
  Calls Tryz.prog 88 #[dV T a,.int .i64 k,.string (bs x)] w (uU w T k x):=by
 have HT:=au hT;have HZ:=au hz;have HX:=au hx;have h1:aI eR w (aj (av w.heap.size (dR T a) 25) bG) _:=aH (aI.begin w) aN (dR T a) 25;have KF:=au (fun W (hz:LZ W)=>tF k (bs x) W (by rw[cu];exact hx) hz);simp only[iM] at KF;unfold aS at KF;have H1:=au h1;clear hT hz hx h1;unfold dV dR;unfold dR at H1
 go_enter Tryz.func88,Tryz.ntmps88
 have H2:=au (show aI eR w (aj (av (w.heap.size+1) (fj none 0 0 none 0 0) 163) (aj (av w.heap.size (iu T a) 25) bG)) _ from(by have h2:=aH H1.o aO (fj none 0 0 none 0 0) 163;rw[im] at h2;exact h2));go_wp2_with fail;clear H1;generalize a5:(w.alloc (.cells (iu T a) 25)).alloc (.cells (fj none 0 0 none 0 0) 163)=w1 at *
 clear a5;generalize w.heap.size+1=gr at *
 generalize w.heap.size=gt at *
 have ad:=au (show(aj (av gr (fj none 0 0 none 0 0) 163) (aj (av gt (iu T a) 25) bG)).Ok from aB aC aO);have ak:=au (fun W O (h:aI eR w O W)=>HZ.o.below (h.mod.below (fun _ _ h=>h)));by_cases hw:word k x=true
 ·have e1:iw k x=(lower x,0):=by unfold iw;rw[if_pos hw]
  have e2:bC k (lower x)=((aP k (lower x)).1,0):=by unfold bC;rw[if_pos (iV hw)]
  have e3:kX T k x=((aP k (lower x)).1,gT T.rs k):=by unfold kX;rw[if_pos hw]
  have a0:(gB k x).1=(aP k (lower x)).1:=by unfold gB;rw[if_pos hw]
  have a9:=au (show(aP k (lower x)).1.length<=1000000 from by rw[<-a0];exact kh (l5 k x) eL);have KL:=au (fun W (hz:LZ W)=>jd k (bs (lower x)) W (by rw[cu];unfold lower;rw[gh];exact HX.o) hz);simp only[iM] at KL;unfold mK at KL;simp only[e2] at KL;simp only[e1] at KF
  have a2:=au (show ∀ (l:List Bs) (s:SA) W,l=(aP k (lower x)).1->s.q.map (·.r)=gT T.rs k->bT w eR (iE l s) W->uU w T k x (.returned (.tuple #[.agg (J8 l s),.bool true])) W from fun l s W hl hq hp=>by
   unfold uU;rw[e3,hw];subst hl
   exact⟨s,rfl,hq,hp⟩)
  obtain⟨l,hl⟩:∃ l,l=(aP k (lower x)).1:=⟨_,rfl⟩;have HL:=au hl;rw[<-hl] at KL a9;clear e1 e2 e3 hw a0 hl;refine(KF.o _ (ak.o _ _ H2.o)).mono ?_;rintro e9 w2 ⟨rfl,hb⟩;have H3:=au (H2.o.below ad.o hb);have aa:=au (KL.o _ (ak.o _ _ H3.o));clear KF KL H2 hb;dsimp only;go_wp2_with fail;refine aa.o.mono ?_;rintro e9 w3 ⟨L,lc,rfl,hp⟩;have H4:=au (H3.o.fresh ad.o hp);clear aa H3 hp;dsimp only;obtain⟨n1,an⟩:∃ n,n=l.length:=⟨_,rfl⟩;have a7:=au an;rw[<-an];clear an;have a3:=au (HT.o.below (H4.o.mod.below (fun _ _ h=>h)));have H5:=au (aH H4.o (aB iC ad.o) (fj L n1 lc none 0 0) 163);clear H4;obtain⟨fr,I⟩:=H5.o.drop.drop.drop.fst;have c0:=ay (i:=0) I rfl;clear I;go_wp2_with fail;clear c0;generalize w3.alloc (.cells (fj L n1 lc none 0 0) 163)=w4 at *
  generalize w3.heap.size=gp at *
  obtain⟨Z,hZ⟩:∃ Z,Z=aj (fZ L lc l) (aj (av gr (fj none 0 0 none 0 0) 163) (aj (av gt (iu T a) 25) bG)):=⟨_,rfl⟩;have az:Z.Ok:=by rw[hZ];exact aB iC ad.o
  have H6:=au (((H5.o.fresh (aB aC (aB iC ad.o)) (⟨fun _=>False,fT _ _ _,Mod.refl _ _,fun i hi=>.inl hi⟩:bT _ eR (sI none 0 []) _)).perm (by rw[hZ];unfold kS;rw[jA];ac_rfl:_=aj (av gp (fj L n1 lc none 0 0) 163) (aj (sI none 0 []) (aj (kS []) Z)))));have bb:=au hZ;have ap:=au az;obtain⟨N,hN⟩:∃ N,N=T.rs.length:=⟨_,rfl⟩;have a4:=au (show N<=1000000 from by rw[hN];exact HT.o.lr);clear H5 hZ az ad a3;rw[<-hN];have HN:=au hN;clear hN;go_loopw [39] (fun i wr=>∃ (n:Nat) (q:List RA) (A:eV) (c:Nat),n<=N/\q.length<=n/\i=.int .i64 n/\q.map (·.r)=(T.rs.zipIdx.take n).filterMap (Bj k)/\aI eR w (aj (av gp (fj L n1 lc A q.length c) 163) (aj (sI A c q) (aj (kS q) Z))) wr) (fun i _=>N-(intOf i).toNat)
  case atStart=>exact⟨0,[],none,0,fw _,fw _,rfl,rfl,H6.o⟩
  case round=>
   clear H6;obtain⟨n,q,A,c,hn,a1,rfl,hq,hR⟩:=hrel;have HR:=au hR;have HQ:=au hq;have am:=au a1;clear hR hq a1;by_cases aA:n<N
   ·have ao:n<T.rs.length:=by rw[<-HN.o];exact aA
    have af:=au (show n+1<=N from aA);have bc:(n:Int)<1000000:=by have:=a4.o;omega
    obtain⟨b,o,hA,hc⟩:=HT.o.rs.at eL;rw[hA];obtain⟨r0,r1,r2,r3⟩:=hc wr (HR.o.mod.below (fun _ _ h=>h)) n ao;have HA:=au hA;have aE:=au (HT.o.sr _ (gv ao));have J:=au (Zt (k:=k) ao);clear hc hA;have al:∀ R,R=T.rs[n]->Bj k (R,n)=if R.k=k then(if word k R.f=true then some ⟨n,R.c,(aP k R.f).1,R.t⟩ else none) else none:=fun R _=>rfl
    have al:=au (al _ rfl);rw[al.o] at J;clear al;generalize T.rs[n]=R at *
    obtain⟨Rk,Rf,Rt,Rc⟩:=R;dsimp only at r0 r1 r2 r3 aE J;have ac:=au (show(aj (av gp (fj L n1 lc A q.length c) 163) (aj (sI A c q) (aj (kS q) Z))).Ok from aB aC (aB zL (aB uT ap.o)));have H7:=au (aH HR.o ac.o #[.int .i64 0,.string { data:=#[] },.string { data:=#[] },.int .i64 0] 50);go_upto_region 10 with (fail)
    iterate 13 (first|go_values|go_guarded|go_step)
    clear HR r0 r1 r2 r3;generalize wr.alloc (.cells #[.int .i64 0,.string { data:=#[] },.string { data:=#[] },.int .i64 0] 50)=w5 at *
    generalize wr.heap.size=gq at *
    obtain⟨r0,r1,r2,r3,rf⟩:=bq H7.o;go_upto_region 11 with (fail);have H8:=au (aJ (aJ (aJ (aJ H7.o ac.o 0 (.int .i64 Rk)) ac.o 1 (.string (bs Rf))) ac.o 2 (.string (bs Rt))) ac.o 3 (.int .i64 Rc):aI eR w (aj (av gq (mC Rk (bs Rf) (bs Rt) Rc) 50) (aj (av gp (fj L n1 lc A q.length c) 163) (aj (sI A c q) (aj (kS q) Z)))) _);clear H7 r0 r1 r2 r3 rf;generalize (((w5.setCell ⟨gq,0,none⟩ (.int .i64 Rk)).setCell ⟨gq,1,none⟩ (.string (bs Rf))).setCell ⟨gq,2,none⟩ (.string (bs Rt))).setCell ⟨gq,3,none⟩ (.int .i64 Rc)=w6 at *
    obtain⟨r0,r1,r2,r3,rf⟩:=bq H8.o;by_cases ag:Rk=k
    ·have t1:(Rk != k)=false:=by simp[ag]
     rw[if_pos ag] at J;have KL:=au (fun W (hz:LZ W)=>jd k (bs Rf) W (by rw[cu];exact aE.o.1) hz);simp only[iM] at KL;unfold mK at KL;have aa:=au (KL.o _ (ak.o _ _ H8.o));clear KL ag;cases ae:word k Rf with
     | true=>
      have e2:bC k Rf=((aP k Rf).1,0):=by unfold bC;rw[if_pos ae]
      rw[if_pos ae] at J;simp only[e2] at aa;have ai:=au (show _=_++[_] from J.o);clear J e2 ae;generalize (aP k Rf).1=f at *
      go_wp2_with fail;refine aa.o.mono ?_;rintro e9 w7 ⟨F,fc,rfl,hp⟩;have H9:=au (H8.o.fresh (aB aC ac.o) hp);clear aa H8 hp r0 r1 r2 r3 rf t1;dsimp only;obtain⟨r0,r1,r2,r3,rf⟩:=bq H9.o.drop;obtain⟨fp,M⟩:=H9.o.drop.drop.fst;have c1:=ay (i:=1) M rfl;clear M;have a6:=au (show(aj (fZ F fc f) (aj (av gq (mC Rk (bs Rf) (bs Rt) Rc) 50) (aj (av gp (fj L n1 lc A q.length c) 163) (aj (kS q) Z)))).Ok from aB iC (aB aC (aB aC (aB uT ap.o))));have ax:=au (H9.o.perm (by ac_rfl:_=aj (sI A c q) (aj (fZ F fc f) (aj (av gq (mC Rk (bs Rf) (bs Rt) Rc) 50) (aj (av gp (fj L n1 lc A q.length c) 163) (aj (kS q) Z))))));clear H9;go_wp2_with (at_builtin;refine held ?_);refine lB.mk (Zr rfl (.tmp 58) (.tmp 66) rfl ⟨⟨n,Rc,f,Rt⟩,F,fc⟩ rfl rfl fY (by have:=am.o;omega) a6.o ax.o ?_);intro A' c' w8 aw;have ar:=au (aw.perm (by rw[FN];ac_rfl:_=aj (av gp (fj L n1 lc A q.length c) 163) (aj (sI A' c' (q++[⟨⟨n,Rc,f,Rt⟩,F,fc⟩])) (aj (kS (q++[⟨⟨n,Rc,f,Rt⟩,F,fc⟩])) (aj (av gq (mC Rk (bs Rf) (bs Rt) Rc) 50) Z)))));clear aw ax c1 r0 r1 r2 r3 rf;obtain⟨fp,M⟩:=ar.o.fst;have c1:=ay (i:=1) M rfl;have cf:=aM M;clear M;go_upto_region 15 with (fail);have ba:=au ((aJ ar.o (aB zL (aB uT (aB aC ap.o))) 1 (.slice A' (q.length+1) c'):aI eR w (aj (av gp (fj L n1 lc A' (q.length+1) c') 163) _) _));clear ar c1 cf;generalize w8.setCell ⟨gp,1,none⟩ (.slice A' (q.length+1) c')=w9 at *
      go_wp2
      go_roundw
      case rel=>exact⟨n+1,q++[⟨⟨n,Rc,f,Rt⟩,F,fc⟩],A',c',af.o,by have:=am.o;rw[gd,pC];omega,by go_num,by rw[ai.o,km,HQ.o];rfl,by
       rw[gd,pC]
       exact(ba.o.perm (by ac_rfl:_=aj (av gq (mC Rk (bs Rf) (bs Rt) Rc) 50) (aj (av gp (fj L n1 lc A' (q.length+1) c') 163) (aj (sI A' c' (q++[⟨⟨n,Rc,f,Rt⟩,F,fc⟩])) (aj (kS (q++[⟨⟨n,Rc,f,Rt⟩,F,fc⟩])) Z))))).drop⟩
      case measure=>have:=af.o;simp[intOf];omega
     | false=>
      have e2:bC k Rf=([],1):=by unfold bC;rw[if_neg (by rw[ae];decide)]
      rw[if_neg (by rw[ae];decide)] at J;simp only[e2] at aa;have ai:=au (J.o.trans (mS _));clear J e2 ae;go_wp2_with fail;refine aa.o.mono ?_;rintro e9 w7 ⟨F,fc,rfl,hp⟩;have H9:=au (H8.o.fresh (aB aC ac.o) hp);clear aa H8 hp r0 r1 r2 r3 rf t1;dsimp only;go_wp2
      go_roundw
      case rel=>exact⟨n+1,q,A,c,af.o,by have:=am.o;omega,by go_num,by rw[ai.o];exact HQ.o,H9.o.drop.drop⟩
      case measure=>have:=af.o;simp[intOf];omega
    ·have t1:(Rk != k)=true:=by simp[ag]
     rw[if_neg ag] at J;have ai:=au (J.o.trans (mS _));clear J ag;go_wp2
     go_roundw
     case rel=>exact⟨n+1,q,A,c,af.o,by have:=am.o;omega,by go_num,by rw[ai.o];exact HQ.o,H8.o.drop⟩
     case measure=>have:=af.o;simp[intOf];omega
   ·have a8:=au (HQ.o.trans (YY (by rw[<-HN.o];omega)));have H7:=au (HR.o.perm (by rw[bb.o];ac_rfl:_=aj (av gr (fj none 0 0 none 0 0) 163) (aj (av gp (fj L n1 lc A q.length c) 163) (aj (fZ L lc l) (aj (sI A c q) (aj (kS q) (aj (av gt (iu T a) 25) bG)))))));clear HR;obtain⟨fr,I⟩:=H7.o.fst;have r0:=ay (i:=0) I rfl;have r1:=ay (i:=1) I rfl;have rf:=aM I;obtain⟨fp,M⟩:=H7.o.drop.fst;have c0:=ay (i:=0) M rfl;have c1:=ay (i:=1) M rfl;clear I M;go_wp2_with fail;have H8:=au (oK H7.o (aB aC (aB iC (aB zL (aB uT aO)))) (.slice L n1 lc) (.slice A q.length c));clear H7 r0 r1 rf c0 c1;generalize (wr.setCell ⟨gr,0,none⟩ (.slice L n1 lc)).setCell ⟨gr,1,none⟩ (.slice A q.length c)=w9 at *
    obtain⟨fr,I⟩:=H8.o.fst;have ab:=I.1;clear I;refine bodyPost_ret (dz rfl _ _ gr 163 (fj L n1 lc A q.length c) (0,0) rfl ab Tryz.underlying163 eQ) rfl ?_;clear ab;have h9:aI eR w (aj (iE l ⟨L,lc,A,c,q⟩) (aj (av gr (fj L n1 lc A q.length c) 163) (aj (av gp (fj L n1 lc A q.length c) 163) (aj (av gt (iu T a) 25) bG)))) w9:=H8.o.perm (by unfold iE;ac_rfl);have aq:=a2.o l ⟨L,lc,A,c,q⟩ w9 HL.o a8.o ((h9.swap.drop).post rM);unfold J8 at aq;rw[<-a7.o] at aq;exact aq
 ·have e1:iw k x=([],1):=by unfold iw;rw[if_neg hw]
  have e2:kX T k x=([],[]):=by unfold kX;rw[if_neg hw]
  have e3:word k x=false:=Bool.eq_false_iff.2 hw;simp only[e1] at KF
  have aD:=au (show ∀ W,aI eR w (aj (av gr (fj none 0 0 none 0 0) 163) (aj (av gt (iu T a) 25) bG)) W->uU w T k x (.returned (.tuple #[.agg (fj none 0 0 none 0 0),.bool false])) W from fun W h=>by
   unfold uU;rw[e2,e3];refine⟨⟨none,0,none,0,[]⟩,rfl,rfl,?_⟩;have h1:=(h.fresh aO (⟨fun _=>False,fT _ _ _,Mod.refl _ _,fun i hi=>.inl hi⟩:bT _ eR (sI none 0 []) _)).fresh aO (⟨fun _=>False,fT _ _ _,Mod.refl _ _,fun i hi=>.inl hi⟩:bT _ eR (fZ none 0 []) _);have h2:aI eR w (aj (iE [] ⟨none,0,none,0,[]⟩) (aj (av gr (fj none 0 0 none 0 0) 163) (aj (av gt (iu T a) 25) bG))) W:=h1.perm (by unfold iE kS;simp only[fC];ac_rfl)
   exact(h2.swap.drop).post rM)
  clear e1 e2 e3 hw;refine(KF.o _ (ak.o _ _ H2.o)).mono ?_;rintro e9 w2 ⟨rfl,hb⟩;have H3:=au (H2.o.below ad.o hb);clear KF H2 hb;dsimp only;obtain⟨fr,I⟩:=H3.o.fst;have r0:=ay (i:=0) I rfl;have r1:=ay (i:=1) I rfl;have rf:=aM I;clear I;go_wp2_with fail;have H4:=au (oK H3.o aO (.slice none 0 0) (.slice none 0 0));clear H3 r0 r1 rf;generalize (w2.setCell ⟨gr,0,none⟩ (.slice none 0 0)).setCell ⟨gr,1,none⟩ (.slice none 0 0)=w3 at *
  obtain⟨fr,I⟩:=H4.o.fst;have ab:=I.1;clear I;refine bodyPost_ret (dz rfl _ _ gr 163 (fj none 0 0 none 0 0) (0,0) rfl ab Tryz.underlying163 eQ) rfl ?_;clear ab;exact aD.o _ H4.o
theorem P4 (p q:Bs):(!(@BEq.beq (List UInt8) (@List.instBEq UInt8 instBEqOfDecidableEq) (bs p).toList (bs q).toList))=!decide (p=q):=by
 rw[Cf,Cf]
 show(!(@BEq.beq (List UInt8) (@List.instBEq UInt8 instBEqOfDecidableEq) p q))=_
 by_cases h:p=q<;>simp[h]
theorem FQ  {B:eV} {d:Nat} {C D:List Bs} (hA:fB w A C) (hB:fB w B D) (hl:C.length<=4611686018427387904) (ap:D.length<=4611686018427387904) :
  Calls Tryz.prog 83 #[.slice A C.length c,.slice B D.length d] w (aS w (.bool (decide (C=D)))):=by
 have HA:=au hA;have HB:=au hB;obtain⟨n,hn⟩:∃ n,n=C.length:=⟨_,rfl⟩;obtain⟨m,hm⟩:∃ m,m=D.length:=⟨_,rfl⟩;rw[<-hn] at hl ⊢;rw[<-hm] at ap ⊢;have HN:=au hn;have HM:=au hm;clear hA hB hn hm;by_cases ac:n=m
 ·subst ac;obtain⟨b,hb⟩:∃ b,b=decide (C=D):=⟨_,rfl⟩;rw[<-hb];have HV:=au hb;clear hb
  go_enter Tryz.func83,Tryz.ntmps83
  go_wp2_with fail;go_loopw [13] (fun i wr=>∃ k:Nat,k<=n/\i=.int .i64 k/\C.take k=D.take k/\Below w.heap.size w wr) (fun i _=>n-(intOf i).toNat)
  case atStart=>exact⟨0,fw _,rfl,by simp,fe _ _⟩
  case round=>
   obtain⟨k,hk,rfl,af,M⟩:=hrel;have aa:=au af;have ad:=au M;clear af M;by_cases ab:k<n
   ·have ak:k<C.length:=by rw[<-HN.o];exact ab
    have am:k<D.length:=by rw[<-HM.o];exact ab
    have ag:=au ab;obtain⟨b1,o1,rfl,ae⟩:=HA.o.at eL;obtain⟨b2,o2,rfl,ai⟩:=HB.o.at eL;have an:=au (show C[k]=D[k]->C.take (k+1)=D.take (k+1) from fun h=>by rw[kq ak,kq am,aa.o,h]);have ao:=au (show C[k]≠D[k]->b=false from fun h=>by rw[HV.o];exact decide_eq_false (fun e=>h (by simp only[e])));have J:=au (dF ad.o);have al:=And.intro (ae _ J.o k ak) (ai _ J.o k am);clear ae ai;generalize C[k]=p at *
    generalize D[k]=q at *
    go_wp2_with fail;refine aR (fun W=>W.cell? ⟨b1,o1+k,none⟩=some (.string (bs p))/\W.cell? ⟨b2,o2+k,none⟩=some (.string (bs q))) fY eQ al ?_;clear al
    (repeat(first|refine bM ?_|refine bN ?_))
    refine lex_nil ?_;by_cases I:p=q
    ·have t:=(P4 p q).trans (show _=false from by simp[I]);have aq:=au (an.o I);clear I;rw[t];clear t;go_wp2
     go_roundw
     case rel=>exact⟨k+1,ag.o,by go_num,aq.o,J.o⟩
     case measure=>have:=ag.o;simp[intOf];omega
    ·have t:=(P4 p q).trans (show _=true from by simp[I]);have HF:=au (ao.o I);clear I;rw[t];clear t;go_wp2;go_ret;exact aK HF.o J.o
   ·have HF:=au (show b=true from by
     rw[HV.o];have h:=aa.o;have e:k=n:=by omega
     rw[tE (by rw[<-HN.o];omega),tE (by rw[<-HM.o];omega)] at h
     exact decide_eq_true h)
    clear aa;go_wp2;go_ret;exact aK HF.o ad.o
 ·have t:((n:Int) != (m:Int))=true:=by simp;omega
  have hf:decide (C=D)=false:=decide_eq_false (fun e=>ac (by rw[HN.o,HM.o,e]));rw[hf];clear hf ac
  go_enter Tryz.func83,Tryz.ntmps83
  go_wp2;go_ret;exact⟨rfl,fe _ _⟩
variable {e:TypeId}{l:List Bs}{i:Nat}
theorem CV {P:Program}  {z:Value} {size bytes:Nat} (S:eB P t e z size bytes) (A:eV) (n c k h:Nat) (kd J:IntKind) (l l2:Int) (hl:l=k) (M:l2=h) (h1:k<=h) (h2:h<=c) (w:World) :
  (Instr.slice t (.slice A n c) (some (.int kd l)) (some (.int J l2)) none).run P w=.ok (.slice (nW A c k size) (h-k) (c-k)) w:=by
 obtain⟨ht,hi,hz,ab⟩:=S;obtain⟨i,hi,ac,I,aa⟩:=info_parts hi;subst hl M;have h0:(0:Int)<=k/\(k:Int)<=h:=by omega
 simp[Instr.slice,run_underlying ht,Instr.sliceBounds,Instr.sliceBound,asIntOf,h1,h2,sizeOf,typeInfo,hi,I,nW]
theorem J9    (n:Nat) (h:fB w A l):fB w A (l.take n):=by
 have e:kM (l.take n)=(kM l).take n:=by unfold kM;rw[List.map_take]
 refine⟨by rw[e,kt,h.1,kt];omega,fun u I=>h.2.1 u (by rw[e] at I;exact xn I),fun hn=>?_⟩;obtain⟨M,rfl,J⟩:=h.2.2 (by rw[kt] at hn;omega);refine⟨M,rfl,fun j u I=>J j u ?_⟩;rw[e,Cs] at I;split at I
 ·exact I
 ·cases I
theorem Vd  {L F R:eV} {lc fc rn rc:Nat}  {r:AR}  (hL:fB w L l) (hF:fB w F r.f) (hi:i<=l.length) (hc:l.length<=lc) (an:l.length<=1000000) (am:r.f.length<=1000000) :
  Calls Tryz.prog 91 #[.agg (fj L l.length lc R rn rc),.agg (kl (r.ix:Nat) r.c F r.f.length fc (bs r.t)),.int .i64 i] w (aS w (.bool (nP l r i))):=by
 obtain⟨ix,c,f,t⟩:=r;dsimp only at hF am ⊢;have ac:nP l ⟨ix,c,f,t⟩ i=(decide (i+f.length<=l.length)&&decide ((l.drop i).take f.length=f)):=rfl;have HV:=au ac;have KE:=au (fun (W:World) (h:Below w.heap.size w W)=>FQ (c:=lc-i) (d:=fc) (J9 f.length (Ic (hL.below h) hi hc)) (hF.below h) (by rw[kt];omega) eL);have h1:=aH (aI.begin w) aN (fj L l.length lc R rn rc) 163;have h2:=aH h1 aO (kl (ix:Nat) c F f.length fc (bs t)) 177;rw[im] at h2;have OK:=au (show(aj (av (w.heap.size+1) (kl (ix:Nat) c F f.length fc (bs t)) 177) (aj (av w.heap.size (fj L l.length lc R rn rc) 163) bG)).Ok from aB aC aO);have ak:=au (fun W O (h:aI eR w O W)=>(show Below w.heap.size w W from h.mod.below (fun _ _ h=>h)));have ae:=au (fun W O v (h:aI eR w O W)=>(show aS w v (.returned v) W from⟨rfl,h.mod.below (fun _ _ h=>h)⟩));have I:i+f.length<=l.length->∀ W',(Instr.slice 26 (.slice L l.length lc) (some (.int .i64 (i:Int))) (some (.int .i64 ((i:Int)+(f.length:Int)))) none).run Tryz.prog W'=.ok (.slice (nW L lc i 1) f.length (lc-i)) W':=fun h W'=>by
  have:=CV zq L l.length lc i (i+f.length) .i64 .i64 (i:Int) ((i:Int)+(f.length:Int)) rfl eL eL eL W';rw[this];congr 2;omega
 have I:=au I;have aa:=au (show i+f.length<=l.length->((l.drop i).take f.length).length=f.length from fun h=>by rw[kt,k6];omega);have H2:=au h2;obtain⟨b,hb⟩:∃ b,b=nP l ⟨ix,c,f,t⟩ i:=⟨_,rfl⟩;rw[<-hb] at HV ⊢;clear h1 h2 ac hb hL hF;have ap:(i:Int)<=1000000:=by omega
 generalize f.length=fl at *
 generalize l.length=ll at *
 go_enter Tryz.func91,Tryz.ntmps91
 go_wp2_with fail;generalize (w.alloc (.cells (fj L ll lc R rn rc) 163)).alloc (.cells (kl (ix:Nat) c F fl fc (bs t)) 177)=w1 at *
 generalize w.heap.size+1=g2 at *
 generalize w.heap.size=g1 at *
 have af:∀ W,aI eR w (aj (av g2 (kl (ix:Nat) c F fl fc (bs t)) 177) (aj (av g1 (fj L ll lc R rn rc) 163) bG)) W->(fun W:World=>W.cell? ⟨g2,2,none⟩=some (.slice F fl fc)/\W.cell? ⟨g1,0,none⟩=some (.slice L ll lc)) W:=fun W h=>by
  obtain⟨f1,al⟩:=h.fst;obtain⟨f2,ai⟩:=h.drop.fst;exact⟨ay al rfl,ay ai rfl⟩
 have ab:=au af;clear af;have H3:=au (H2.o.drew OK.o);have M:=ab.o _ H3.o;clear H2;have aq:IntKind.i64.wrap ((i:Int)+(fl:Int))=(i:Int)+(fl:Int):=kp _ eL;by_cases J:i+fl<=ll
 ·have ag:decide ((i:Int)+(fl:Int)<=(ll:Int))=true:=decide_eq_true eL;have ao:=I.o J;have ad:=aa.o J;have HB:=au (show b=decide ((l.drop i).take fl=f) from by rw[HV.o,decide_eq_true J,lx]);rw[ad] at KE;clear I aa HV ad;refine aR (fun W:World=>W.cell? ⟨g2,2,none⟩=some (.slice F fl fc)/\W.cell? ⟨g1,0,none⟩=some (.slice L ll lc)) fY eQ M ?_;clear M;generalize w1.drew=w2 at *
  (repeat(first|refine bM ?_|refine bN ?_))
  refine dD rfl fY (fun K hK=>?_);go_wp2_with fail;refine(KE.o _ (ak.o _ _ H3.o)).mono ?_;rintro e9 w3 ⟨rfl,hb⟩;have H4:=au (H3.o.below OK.o hb);clear KE H3 hb;dsimp only;refine hK.o _ _ (ab.o _ H4.o) ?_;clear hK
  (repeat(first|refine bM ?_|refine bN ?_))
  refine lex_nil ?_;rw[<-HB.o];go_wp2;go_ret;exact ae.o _ _ _ H4.o
 ·have ag:decide ((i:Int)+(fl:Int)<=(ll:Int))=false:=decide_eq_false eL;have HB:=au (show b=false from by rw[HV.o,decide_eq_false J,pZ]);clear I aa HV KE;refine aR (fun W:World=>W.cell? ⟨g2,2,none⟩=some (.slice F fl fc)/\W.cell? ⟨g1,0,none⟩=some (.slice L ll lc)) fY eQ M ?_;clear M;generalize w1.drew=w2 at *
  (repeat(first|refine bM ?_|refine bN ?_))
  refine lex_nil ?_;go_wp2;go_ret;rw[HB.o];exact ae.o _ _ _ H3.o
structure WA where
 a:SA
 b:SA
def bI (W:Wd) (x:WA):Array Value:=(ln x.a.L W.l.length x.a.lc x.a.R x.a.q.length x.a.rc x.b.L W.m.length x.b.lc x.b.R x.b.q.length x.b.rc)
structure Yq (W:Wd) (x:WA) (w:World):Prop where
 l:fB w x.a.L W.l
 m:fB w x.b.L W.m
 ra:Va w x.a.R x.a.q
 rb:Va w x.b.R x.b.q
 fa:∀ y ∈ x.a.q,fB w y.A y.r.f
 fb:∀ y ∈ x.b.q,fB w y.A y.r.f
variable {W:Wd}{w':World}{s:St}
theorem Yq.below  {x:WA}  (h:Yq W x w) (hb:Below w.heap.size w w'):Yq W x w':=
 ⟨h.l.below hb,h.m.below hb,h.ra.below hb,h.rb.below hb,fun y hy=>(h.fa y hy).below hb,fun y hy=>(h.fb y hy).below hb⟩
structure Yr (W:Wd) (x:WA):Prop where
 qa:x.a.q.map (·.r)=gT W.rs W.ka
 qb:x.b.q.map (·.r)=gT W.rs W.kb
 na:x.a.q.length<=1000000
 nb:x.b.q.length<=1000000
 la:W.l.length<=x.a.lc
 lb:W.m.length<=x.b.lc
 l6:W.l.length<=1000000
 m6:W.m.length<=1000000
 f6:∀ y ∈ x.a.q,y.r.f.length<=1000000/\y.r.t.length<=1000000
 g6:∀ y ∈ x.b.q,y.r.f.length<=1000000/\y.r.t.length<=1000000
def doneN (W:Wd) (s:St):Bool:=decide (s.i=W.l.length)&&(decide (s.j=W.m.length)&&decide (s.a=[]))
theorem Ka   {x:WA} :Calls Tryz.prog 67 #[.agg (bI W x),.agg (cK s)] w (aS w (.bool (doneN W s))):=by
 have h1:=aH (aI.begin w) aN (bI W x) 165;have h2:=aH h1 aO (cK s) 171;rw[im] at h2;have aa:=au (fun W O v (h:aI eR w O W)=>(show aS w v (.returned v) W from⟨rfl,h.mod.below (fun _ _ h=>h)⟩));have H2:=au h2;obtain⟨b,hb⟩:∃ b,b=doneN W s:=⟨_,rfl⟩;have HV:=au (show b=(decide (s.i=W.l.length)&&(decide (s.j=W.m.length)&&decide (s.a=[]))) from hb);rw[<-hb];clear h1 h2 hb;unfold bI cK;unfold bI cK at H2;obtain⟨si,sj,sa,sr⟩:=s;dsimp only at HV H2 ⊢;generalize W.l.length=n1 at *
 generalize W.m.length=n2 at *
 obtain⟨⟨L,lc,R,rc,q⟩,⟨M,mc,S,sc,p⟩⟩:=x;dsimp only at H2 ⊢;generalize q.length=qn at *
 generalize p.length=pn at *
 have J:=au (show sa≠[]->(bs sa).toList.isEmpty=false from fun h=>by rw[pM];exact fun e=>h (dA.1 e));have I:=au (show sa=[]->(bs sa).toList.isEmpty=true from fun h=>by rw[rN];exact dA.2 h);by_cases h1:si=n1
 ·have t1:((si:Int)==(n1:Int))=true:=by simp[h1]
  by_cases h2:sj=n2
  ·have t2:((sj:Int)==(n2:Int))=true:=by simp[h2]
   by_cases h3:sa=[]
   ·have t3:=I.o h3;have HB:=au (show b=true from by rw[HV.o];simp[h1,h2,h3]);clear h1 h2 h3 HV I J
    go_enter Tryz.func67,Tryz.ntmps67
    go_wp2;go_ret;rw[HB.o];exact aa.o _ _ _ H2.o
   ·have t3:=J.o h3;have HB:=au (show b=false from by rw[HV.o];simp[h3]);clear h1 h2 h3 HV I J
    go_enter Tryz.func67,Tryz.ntmps67
    go_wp2;go_ret;rw[HB.o];exact aa.o _ _ _ H2.o
  ·have t2:((sj:Int)==(n2:Int))=false:=by simp;omega
   have HB:=au (show b=false from by rw[HV.o];simp[h2]);clear h1 h2 HV I J
   go_enter Tryz.func67,Tryz.ntmps67
   go_wp2;go_ret;rw[HB.o];exact aa.o _ _ _ H2.o
 ·have t1:((si:Int)==(n1:Int))=false:=by simp;omega
  have HB:=au (show b=false from by rw[HV.o];simp[h1]);clear h1 HV I J
  go_enter Tryz.func67,Tryz.ntmps67
  go_wp2;go_ret;rw[HB.o];exact aa.o _ _ _ H2.o
theorem Ke {w:World}:∀ {q:List RA} {F:Nat->Prop},kS q w F->∀ y ∈ q,fB w y.A y.r.f
 | [],_,_,y,hy=>by cases hy
 | x::q,F,⟨f1,f2,h1,h2,_,_⟩,y,hy=>by
  rcases List.mem_cons.1 hy with rfl|hy
  ·exact oF h1
  ·exact Ke h2 y hy
variable {W:World}
theorem Kg   {l:List Bs} {s:SA} (h:iE l s w F):fB w s.L l/\l.length<=s.lc/\Va w s.R s.q/\∀ y ∈ s.q,fB w y.A y.r.f:=by
 obtain⟨f1,f2,h1,⟨f3,f4,h3,h4,-,-⟩,-,-⟩:=h;exact⟨oF h1,(u6 h1.1).1,X2 h3,Ke h4⟩
theorem zM (T:eW) (k:Int) (x:Bs):(kX T k x).1=(gB k x).1:=by
 unfold kX gB;by_cases h:word k x=true
 ·rw[if_pos h,if_pos h]
 ·rw[if_neg h,if_neg h]
theorem Az   (hr:T.rs.length<=1000000) (M:∀ R ∈ T.rs,R.f.length<=1000000/\R.t.length<=1000000):(gT T.rs k).length<=1000000/\∀ r ∈ gT T.rs k,r.f.length<=1000000/\r.t.length<=1000000:=by
 unfold gT;refine⟨kh (yz ..) (by rw[xv];exact hr),fun r h=>?_⟩;obtain⟨⟨R,n⟩,h1,I⟩:=List.mem_filterMap.1 h;have J:=Hz _ _ h1;unfold Bj at I;dsimp only at I J;split at I
 ·split at I
  ·rename_i hw;injection I with I
   subst I;exact⟨kh (eP.1 hw).2.2 eL,(M R J).2⟩
  ·cases I
 ·cases I
def CW (w:World) (T:eW) (k:Int) (x:Bs) (k2:Int) (y:Bs) (e:Ending) (w':World):Prop:=
 ∃ wa:WA,e=.returned (.tuple #[.agg (bI (Pj T k x k2 y) wa),.bool (okW T k x k2 y)])/\Below w.heap.size w w'/\(okW T k x k2 y=true->Yq (Pj T k x k2 y) wa w'/\Yr (Pj T k x k2 y) wa)
theorem Ve   {a:TA} {k2:Int} {x y:Bs} {s1 s2:SA} {Y:CH.aT} (hT:kr w T a) (J:s1.q.map (·.r)=(kX T k x).2) (I:s2.q.map (·.r)=(kX T k2 y).2)
  (h:aI eR w (aj (iE (kX T k x).1 s1) (aj (iE (kX T k2 y).1 s2) Y)) W) (b:Bool) (hb:okW T k x k2 y=b) :
  CW w T k x k2 y (.returned (.tuple #[.agg (bI (Pj T k x k2 y) ⟨s1,s2⟩),.bool b])) W:=by
 have M:Below w.heap.size w W:=h.mod.below (fun _ _ h=>h);refine⟨⟨s1,s2⟩,by rw[hb],M,fun ho=>?_⟩;obtain⟨ac,ab,-⟩:=fP.1 ho;obtain⟨f1,ad⟩:=h.fst;obtain⟨f2,aa⟩:=h.drop.fst;obtain⟨a1,a2,a3,a4⟩:=Kg ad;obtain⟨b1,b2,b3,b4⟩:=Kg aa;rw[zM] at a1 a2 b1 b2;have e1:(kX T k x).2=gT T.rs k:=by unfold kX;rw[if_pos ac]
 have e2:(kX T k2 y).2=gT T.rs k2:=by unfold kX;rw[if_pos ab]
 rw[e1] at J;rw[e2] at I;have n1:=Az (k:=k) hT.lr hT.sr;have n2:=Az (k:=k2) hT.lr hT.sr;rw[<-J] at n1;rw[<-I] at n2;refine⟨⟨a1,b1,a3,b3,a4,b4⟩,⟨J,I,by simpa using n1.1,by simpa using n2.1,a2,b2,kh (l5 k x) eL,kh (l5 k2 y) eL,fun z hz=>?_,fun z hz=>?_⟩⟩
 ·exact n1.2 z.r (List.mem_map_of_mem hz)
 ·exact n2.2 z.r (List.mem_map_of_mem hz)
theorem Vf   {a:TA} (hT:kr w T a) (hz:LZ w) (k:Int) (x:Bs) (k2:Int) (y:Bs) (hx:x.length<=1000000) (hy:y.length<=1000000) :
  Calls Tryz.prog 65 #[dV T a,.int .i64 k,.string (bs x),.int .i64 k2,.string (bs y)] w (CW w T k x k2 y):=by
 have HT:=au hT;have HZ:=au hz;have h1:aI eR w (aj (av w.heap.size (dR T a) 25) bG) _:=aH (aI.begin w) aN (dR T a) 25;have K1:=au (fun W (h:Below w.heap.size w W)=>CU (hT.below h) (hz.below h) k x hx);have K2:=au (fun W (h:Below w.heap.size w W)=>CU (hT.below h) (hz.below h) k2 y hy);have KV:=au (fun W (h:Below w.heap.size w W)=>lZ (hT.below h) (hz.below h));have al:=au (fun W O (h:aI eR w O W)=>(show Below w.heap.size w W from h.mod.below (fun _ _ h=>h)));have H1:=au h1;clear hT hz h1;unfold uU at K1 K2;unfold dV dR at K1 K2 KV ⊢;unfold dR at H1
 go_enter Tryz.func65,Tryz.ntmps65
 have H2:=au (show aI eR w (aj (av (w.heap.size+1) (ln none 0 0 none 0 0 none 0 0 none 0 0) 165) (aj (av w.heap.size (iu T a) 25) bG)) _ from(by have h2:=aH H1.o aO (ln none 0 0 none 0 0 none 0 0 none 0 0) 165;rw[im] at h2;exact h2));go_upto_region 1 with (fail);clear H1;generalize aA:(w.alloc (.cells (iu T a) 25)).alloc (.cells (ln none 0 0 none 0 0 none 0 0 none 0 0) 165)=w1 at *
 clear aA;generalize w.heap.size+1=gr at *
 generalize w.heap.size=gt at H2 ⊢;have ai:=au (show(aj (av gr (ln none 0 0 none 0 0 none 0 0 none 0 0) 165) (aj (av gt (iu T a) 25) bG)).Ok from aB aC aO);have aq:∀ (W:World) (X:CH.aT),aI eR w (aj (av gt (iu T a) 25) X) W->(lR W gt (.slice a.A T.rs.length a.c) (.slice a.D T.ds.length a.d) (.slice a.E T.es.length a.e) (.int .i64 T.drop) (.int .i64 T.ord) (.int .i64 T.ini)):=fun W X h=>by
  obtain⟨f,hf⟩:=h.fst;exact⟨ay hf rfl,ay hf rfl,ay hf rfl,ay hf rfl,ay hf rfl,ay hf rfl⟩
 have ao:=au aq;clear aq;obtain⟨c0,c1,c2,c3,c4,c5⟩:=ao.o _ _ H2.o.drop;go_wp2_with fail;refine(K1.o _ (al.o _ _ H2.o)).mono ?_;rintro e9 w2 ⟨s1,rfl,hq1,hp⟩;have ax:=au hq1;have H3:=au (H2.o.fresh ai.o hp);clear K1 H2 hp hq1 c0 c1 c2 c3 c4 c5;obtain⟨I,am⟩:∃ l,l=(kX T k x).1:=⟨_,rfl⟩;have aw:=au am;rw[<-am] at H3 ⊢;clear am;unfold J8;dsimp only;have H4:=au (aH H3.o (aB rM ai.o) (fj s1.L I.length s1.lc s1.R s1.q.length s1.rc) 163);clear H3;go_upto_region 2 with (fail);generalize w2.alloc (.cells (fj s1.L I.length s1.lc s1.R s1.q.length s1.rc) 163)=w3 at *
 generalize w2.heap.size=ga at *
 obtain⟨c0,c1,c2,c3,c4,c5⟩:=ao.o _ _ H4.o.drop.drop.drop;go_wp2_with fail;refine(K2.o _ (al.o _ _ H4.o)).mono ?_;rintro e9 w4 ⟨s2,rfl,hq2,hp⟩;have az:=au hq2;have H5:=au (H4.o.fresh (aB aC (aB rM ai.o)) hp);clear K2 H4 hp hq2 c0 c1 c2 c3 c4 c5;obtain⟨J,ak⟩:∃ l,l=(kX T k2 y).1:=⟨_,rfl⟩;have ar:=au ak;rw[<-ak] at H5 ⊢;clear ak;unfold J8;dsimp only;have H6:=au (aH H5.o (aB rM (aB aC (aB rM ai.o))) (fj s2.L J.length s2.lc s2.R s2.q.length s2.rc) 163);clear H5;go_upto_region 3 with (fail);generalize w4.alloc (.cells (fj s2.L J.length s2.lc s2.R s2.q.length s2.rc) 163)=w5 at *
 generalize w4.heap.size=gb at *
 have ad:=au (fun (W:World) (b:Bool) (hb:okW T k x k2 y=b) (Y:CH.aT) (h:aI eR w (aj (iE I s1) (aj (iE J s2) Y)) W)=>Ve (a:=a) HT.o ax.o az.o (by rw[<-aw.o,<-ar.o];exact h) b hb);have an:bI (Pj T k x k2 y) ⟨s1,s2⟩=(ln s1.L I.length s1.lc s1.R s1.q.length s1.rc s2.L J.length s2.lc s2.R s2.q.length s2.rc):=by
  have e1:=aw.o.trans (zM T k x);have e2:=ar.o.trans (zM T k2 y);unfold bI Pj;rw[e1,e2]
 have ae:=au (show ∀ (W:World) (r:Array Value) (b:Bool),okW T k x k2 y=b->aI eR w (aj (av gr r 165) (aj (av gb (fj s2.L J.length s2.lc s2.R s2.q.length s2.rc) 163) (aj (av ga (fj s1.L I.length s1.lc s1.R s1.q.length s1.rc) 163) (aj (av gt (iu T a) 25) (aj (iE I s1) (iE J s2)))))) W->CW w T k x k2 y (.returned (.tuple #[.agg (ln s1.L I.length s1.lc s1.R s1.q.length s1.rc s2.L J.length s2.lc s2.R s2.q.length s2.rc),.bool b])) W from fun W r b hb h=>by
  rw[<-an];exact ad.o W b hb _ (h.perm (by ac_rfl:_=aj (iE I s1) (aj (iE J s2) (aj (av gr r 165) (aj (av gb (fj s2.L J.length s2.lc s2.R s2.q.length s2.rc) 163) (aj (av ga (fj s1.L I.length s1.lc s1.R s1.q.length s1.rc) 163) (av gt (iu T a) 25)))))))
 )
 clear an ad;have M:=au (show(aj (av gb (fj s2.L J.length s2.lc s2.R s2.q.length s2.rc) 163) (aj (av ga (fj s1.L I.length s1.lc s1.R s1.q.length s1.rc) 163) (aj (av gt (iu T a) 25) (aj (iE I s1) (iE J s2))))).Ok from aB aC aO);have ap:∀ (W:World) (r:Array Value),aI eR w (aj (av gr r 165) (aj (av gb (fj s2.L J.length s2.lc s2.R s2.q.length s2.rc) 163) (aj (av ga (fj s1.L I.length s1.lc s1.R s1.q.length s1.rc) 163) (aj (av gt (iu T a) 25) (aj (iE I s1) (iE J s2)))))) W->(fun w':World=>w'.cell? ⟨ga,0,none⟩=some (.slice s1.L I.length s1.lc)/\w'.cell? ⟨ga,1,none⟩=some (.slice s1.R s1.q.length s1.rc)/\w'.cell? ⟨gb,0,none⟩=some (.slice s2.L J.length s2.lc)/\w'.cell? ⟨gb,1,none⟩=some (.slice s2.R s2.q.length s2.rc)/\(lR w' gt (.slice a.A T.rs.length a.c) (.slice a.D T.ds.length a.d) (.slice a.E T.es.length a.e) (.int .i64 T.drop) (.int .i64 T.ord) (.int .i64 T.ini))) W:=fun W r h=>by
  obtain⟨f1,h1⟩:=h.drop.fst;obtain⟨f2,h2⟩:=h.drop.drop.fst;obtain⟨f3,h3⟩:=h.drop.drop.drop.fst;exact⟨ay h2 rfl,ay h2 rfl,ay h1 rfl,ay h1 rfl,ay h3 rfl,ay h3 rfl,ay h3 rfl,ay h3 rfl,ay h3 rfl,ay h3 rfl⟩
 have af:=au ap;clear ap;have H7:=au ((H6.o.perm (by rw[fC];ac_rfl:_=(aj (av gr (ln none 0 0 none 0 0 none 0 0 none 0 0) 165) (aj (av gb (fj s2.L J.length s2.lc s2.R s2.q.length s2.rc) 163) (aj (av ga (fj s1.L I.length s1.lc s1.R s1.q.length s1.rc) 163) (aj (av gt (iu T a) 25) (aj (iE I s1) (iE J s2)))))))).drew (aB aC M.o));have ac:=af.o _ _ H7.o;clear H6;cases fW:word k x with
 | false=>
  refine aR (fun w':World=>w'.cell? ⟨ga,0,none⟩=some (.slice s1.L I.length s1.lc)/\w'.cell? ⟨ga,1,none⟩=some (.slice s1.R s1.q.length s1.rc)/\w'.cell? ⟨gb,0,none⟩=some (.slice s2.L J.length s2.lc)/\w'.cell? ⟨gb,1,none⟩=some (.slice s2.R s2.q.length s2.rc)/\(lR w' gt (.slice a.A T.rs.length a.c) (.slice a.D T.ds.length a.d) (.slice a.E T.es.length a.e) (.int .i64 T.drop) (.int .i64 T.ord) (.int .i64 T.ini))) fY eQ ac ?_;clear ac;generalize w5.drew=w6 at *
  obtain⟨r0,r1,r2,r3,rf⟩:=bq H7.o
  (repeat(first|refine bM ?_|refine bN ?_))
  refine dD rfl fY (fun K hK=>?_);go_wp2_with fail
  have H8:=au (aJ (aJ (aJ (aJ (H7.o) M.o 0 (.slice s1.L I.length s1.lc)) M.o 1 (.slice s1.R s1.q.length s1.rc)) M.o 2 (.slice s2.L J.length s2.lc)) M.o 3 (.slice s2.R s2.q.length s2.rc):aI eR w (aj (av gr (ln s1.L I.length s1.lc s1.R s1.q.length s1.rc s2.L J.length s2.lc s2.R s2.q.length s2.rc) 165) (aj (av gb (fj s2.L J.length s2.lc s2.R s2.q.length s2.rc) 163) (aj (av ga (fj s1.L I.length s1.lc s1.R s1.q.length s1.rc) 163) (aj (av gt (iu T a) 25) (aj (iE I s1) (iE J s2)))))) _);clear H7 r0 r1 r2 r3 rf;generalize ((((w6.setCell ⟨gr,0,none⟩ (.slice s1.L I.length s1.lc)).setCell ⟨gr,1,none⟩ (.slice s1.R s1.q.length s1.rc)).setCell ⟨gr,2,none⟩ (.slice s2.L J.length s2.lc)).setCell ⟨gr,3,none⟩ (.slice s2.R s2.q.length s2.rc))=w9 at *
  refine hK.o _ _ (af.o _ _ H8.o) ?_;clear hK
  (repeat(first|refine bM ?_|refine bN ?_))
  refine lex_nil ?_;obtain⟨fr,ab⟩:=H8.o.fst;have aa:=ab.1;clear ab;go_wp2_with fail;refine bodyPost_ret (dz rfl _ _ gr 165 (ln s1.L I.length s1.lc s1.R s1.q.length s1.rc s2.L J.length s2.lc s2.R s2.q.length s2.rc) (0,0) rfl aa Tryz.underlying165 eQ) rfl ?_;clear aa;exact ae.o _ _ _ (by unfold okW;rw[fW];rfl) H8.o
 | true=>
  cases gE:word k2 y with
  | false=>
   refine aR (fun w':World=>w'.cell? ⟨ga,0,none⟩=some (.slice s1.L I.length s1.lc)/\w'.cell? ⟨ga,1,none⟩=some (.slice s1.R s1.q.length s1.rc)/\w'.cell? ⟨gb,0,none⟩=some (.slice s2.L J.length s2.lc)/\w'.cell? ⟨gb,1,none⟩=some (.slice s2.R s2.q.length s2.rc)/\(lR w' gt (.slice a.A T.rs.length a.c) (.slice a.D T.ds.length a.d) (.slice a.E T.es.length a.e) (.int .i64 T.drop) (.int .i64 T.ord) (.int .i64 T.ini))) fY eQ ac ?_;clear ac;generalize w5.drew=w6 at *
   obtain⟨r0,r1,r2,r3,rf⟩:=bq H7.o
   (repeat(first|refine bM ?_|refine bN ?_))
   refine dD rfl fY (fun K hK=>?_);go_wp2_with fail
   have H8:=au (aJ (aJ (aJ (aJ (H7.o) M.o 0 (.slice s1.L I.length s1.lc)) M.o 1 (.slice s1.R s1.q.length s1.rc)) M.o 2 (.slice s2.L J.length s2.lc)) M.o 3 (.slice s2.R s2.q.length s2.rc):aI eR w (aj (av gr (ln s1.L I.length s1.lc s1.R s1.q.length s1.rc s2.L J.length s2.lc s2.R s2.q.length s2.rc) 165) (aj (av gb (fj s2.L J.length s2.lc s2.R s2.q.length s2.rc) 163) (aj (av ga (fj s1.L I.length s1.lc s1.R s1.q.length s1.rc) 163) (aj (av gt (iu T a) 25) (aj (iE I s1) (iE J s2)))))) _);clear H7 r0 r1 r2 r3 rf;generalize ((((w6.setCell ⟨gr,0,none⟩ (.slice s1.L I.length s1.lc)).setCell ⟨gr,1,none⟩ (.slice s1.R s1.q.length s1.rc)).setCell ⟨gr,2,none⟩ (.slice s2.L J.length s2.lc)).setCell ⟨gr,3,none⟩ (.slice s2.R s2.q.length s2.rc))=w9 at *
   refine hK.o _ _ (af.o _ _ H8.o) ?_;clear hK
   (repeat(first|refine bM ?_|refine bN ?_))
   refine lex_nil ?_;obtain⟨fr,ab⟩:=H8.o.fst;have aa:=ab.1;clear ab;go_wp2_with fail;refine bodyPost_ret (dz rfl _ _ gr 165 (ln s1.L I.length s1.lc s1.R s1.q.length s1.rc s2.L J.length s2.lc s2.R s2.q.length s2.rc) (0,0) rfl aa Tryz.underlying165 eQ) rfl ?_;clear aa;exact ae.o _ _ _ (by unfold okW;rw[fW,gE];rfl) H8.o
  | true=>
   refine aR (fun w':World=>w'.cell? ⟨ga,0,none⟩=some (.slice s1.L I.length s1.lc)/\w'.cell? ⟨ga,1,none⟩=some (.slice s1.R s1.q.length s1.rc)/\w'.cell? ⟨gb,0,none⟩=some (.slice s2.L J.length s2.lc)/\w'.cell? ⟨gb,1,none⟩=some (.slice s2.R s2.q.length s2.rc)/\(lR w' gt (.slice a.A T.rs.length a.c) (.slice a.D T.ds.length a.d) (.slice a.E T.es.length a.e) (.int .i64 T.drop) (.int .i64 T.ord) (.int .i64 T.ini))) fY eQ ac ?_;clear ac;generalize w5.drew=w6 at *
   obtain⟨r0,r1,r2,r3,rf⟩:=bq H7.o
   (repeat(first|refine bM ?_|refine bN ?_))
   refine dD rfl fY (fun K hK=>?_);go_wp2_with fail
   refine(KV.o _ (al.o _ _ H7.o)).mono ?_;rintro e9 w7 ⟨rfl,hb⟩;have ag:=au (H7.o.below (aB aC M.o) hb);clear KV H7 hb r0 r1 r2 r3 rf;dsimp only;refine hK.o _ _ (af.o _ _ ag.o) ?_;clear hK;obtain⟨r0,r1,r2,r3,rf⟩:=bq ag.o
   (repeat(first|refine bM ?_|refine bN ?_))
   refine dD rfl fY (fun K hK=>?_);go_wp2_with fail
   have H8:=au (aJ (aJ (aJ (aJ (ag.o) M.o 0 (.slice s1.L I.length s1.lc)) M.o 1 (.slice s1.R s1.q.length s1.rc)) M.o 2 (.slice s2.L J.length s2.lc)) M.o 3 (.slice s2.R s2.q.length s2.rc):aI eR w (aj (av gr (ln s1.L I.length s1.lc s1.R s1.q.length s1.rc s2.L J.length s2.lc s2.R s2.q.length s2.rc) 165) (aj (av gb (fj s2.L J.length s2.lc s2.R s2.q.length s2.rc) 163) (aj (av ga (fj s1.L I.length s1.lc s1.R s1.q.length s1.rc) 163) (aj (av gt (iu T a) 25) (aj (iE I s1) (iE J s2)))))) _);clear ag r0 r1 r2 r3 rf;generalize ((((w7.setCell ⟨gr,0,none⟩ (.slice s1.L I.length s1.lc)).setCell ⟨gr,1,none⟩ (.slice s1.R s1.q.length s1.rc)).setCell ⟨gr,2,none⟩ (.slice s2.L J.length s2.lc)).setCell ⟨gr,3,none⟩ (.slice s2.R s2.q.length s2.rc))=w9 at *
   refine hK.o _ _ (af.o _ _ H8.o) ?_;clear hK
   (repeat(first|refine bM ?_|refine bN ?_))
   refine lex_nil ?_;obtain⟨fr,ab⟩:=H8.o.fst;have aa:=ab.1;clear ab;go_wp2_with fail;refine bodyPost_ret (dz rfl _ _ gr 165 (ln s1.L I.length s1.lc s1.R s1.q.length s1.rc s2.L J.length s2.lc s2.R s2.q.length s2.rc) (0,0) rfl aa Tryz.underlying165 eQ) rfl ?_;clear aa;exact ae.o _ _ _ (by unfold okW;rw[fW,gE];rfl) H8.o
def Zw (W:Wd) (x:WA) (s:St) (b1 b2:Nat):CH.aT:=aj (av b1 (cK s) 171) (av b2 (bI W x) 165)
variable {W:Wd}{p:RA × St}
theorem nQ  {x:WA}  {b1 b2:Nat}:(Zw W x s b1 b2).Ok:=aB aC aC
instance {W:Wd} {x:WA} {s:St} {b1 b2:Nat}:(Zw W x s b1 b2).Ok:=nQ
def Np (p:RA × St):Array Value:=#[.agg (dX p.1).toArray,.agg (cK p.2)]
def WA.at (x:WA) (lf:Bool):SA:=if lf then x.a else x.b
def sB (W:Wd) (lf:Bool):List Bs:=if lf then W.l else W.m
def kA (s:St) (lf:Bool):Nat:=if lf then s.i else s.j
def xR (W:Wd) (s:St) (y:RA):Option (RA × St):=(W.Ut s y.r).map fun p=>(y,p.2)
def dH (W:Wd) (x:WA) (s:St):List (RA × St):=(x.at (W.left s)).q.filterMap (xR W s)
def ku (W:Wd) (x:WA) (s:St) (k:Nat):List (RA × St):=((x.at (W.left s)).q.take k).filterMap (xR W s)
theorem Kh  {x:WA}  (h:Yr W x):(dH W x s).map (fun p=>(p.1.r,p.2))=W.tL s:=by
 have e:(x.at (W.left s)).q.map (·.r)=gT W.rs (if W.left s then W.ka else W.kb):=by
  unfold WA.at;cases W.left s
  ·exact h.qb
  ·exact h.qa
 unfold dH Wd.tL;rw[<-e,List.map_filterMap,List.filterMap_map];refine Cz _ fun y _=>?_;unfold xR
 show Option.map _ (Option.map _ (W.Ut s y.r))=W.Ut s y.r
 rw[tt];unfold Wd.Ut;by_cases h:nP (if W.left s then W.l else W.m) y.r (if W.left s then s.i else s.j)=true
 ·rw[if_pos h,tt];rfl
 ·rw[if_neg h];rfl
section
variable {W:Wd} {x:WA} {s:St} {k:Nat}
theorem Vg:ku W x s (x.at (W.left s)).q.length=dH W x s:=by unfold ku dH;rw[ky]
theorem FU (hk:k<(x.at (W.left s)).q.length) (h:xR W s (x.at (W.left s)).q[k]=none):ku W x s (k+1)=ku W x s k:=by
 unfold ku;rw[kq hk,sR];simp[h]
theorem RS (hk:k<(x.at (W.left s)).q.length)  (h:xR W s (x.at (W.left s)).q[k]=some p):ku W x s (k+1)=ku W x s k++[p]:=by
 unfold ku;rw[kq hk,sR];simp[h]
theorem Zu (I:k<(x.at (W.left s)).q.length)  (h:xR W s (x.at (W.left s)).q[k]=some p):∃ hi:(ku W x s k).length<(dH W x s).length,(dH W x s)[(ku W x s k).length]=p:=by
 have e:dH W x s=ku W x s k++p::((x.at (W.left s)).q.drop (k+1)).filterMap (xR W s):=by
  unfold dH ku
  conv=>lhs;rw[<-tM k (x.at (W.left s)).q,rK I,sR,xm h]
 refine⟨by rw[e];simp,?_⟩;simp only[e];rw[yv (fy _)];simp
end
def Vh (s:St) (lf:Bool) (n:Nat) (z:Bs × Bool):St:=if lf then ⟨s.i+n,s.j,z.1,z.2⟩ else ⟨s.i,s.j+n,z.1,z.2⟩
section
variable {W:Wd} {s:St} {y:RA}
theorem Nq (h:nP (sB W (W.left s)) y.r (kA s (W.left s))=false):xR W s y=none:=by
 unfold xR Wd.Ut;unfold sB kA at h;rw[if_neg (by rw[h];decide)];rfl
theorem RU (h:W.M8 s y.r.t=none):xR W s y=none:=by
 unfold xR Wd.Ut;rw[h];by_cases h:nP (if W.left s then W.l else W.m) y.r (if W.left s then s.i else s.j)=true
 ·rw[if_pos h];rfl
 ·rw[if_neg h];rfl
theorem Vi (h:nP (sB W (W.left s)) y.r (kA s (W.left s))=true) {z:Bs × Bool} (hz:W.M8 s y.r.t=some z):xR W s y=some (y,Vh s (W.left s) y.r.f.length z):=by
 unfold xR Wd.Ut Vh;unfold sB kA at h;rw[if_pos h,hz];rfl
theorem ZD {q:Bs} (h1:q.isPrefixOf s.a=true):W.M8 s q=some (s.a.drop q.length,s.r&&decide (s.a.drop q.length≠[])):=by unfold Wd.M8;rw[if_pos h1]
theorem ZS {q:Bs} (h1:¬ q.isPrefixOf s.a=true) (h2:s.a.isPrefixOf q=true):W.M8 s q=some (q.drop s.a.length,!W.left s):=by unfold Wd.M8;rw[if_neg h1,if_pos h2]
theorem ZZ {q:Bs} (h1:¬ q.isPrefixOf s.a=true) (h2:¬ s.a.isPrefixOf q=true):W.M8 s q=none:=by unfold Wd.M8;rw[if_neg h1,if_neg h2]
end
attribute [local go_sem] nz
def AK (b1 b2:Nat):Value:=.func (.func 90) #[] (sS (some ⟨b1,0,none⟩) (some ⟨b2,0,none⟩))
theorem CX {W:Wd} {x:WA}  (w:World) :
  Calls Tryz.prog 68 #[.agg (bI W x),.agg (cK s)] w fun e w'=>∃ b1 b2,e=.returned (AK b1 b2)/\bT w eR (Zw W x s b1 b2) w':=by
 have J:bT w eR (Zw W x s (w.heap.size+1) w.heap.size) ((w.alloc (.cells (bI W x) 165)).alloc (.cells (cK s) 171)):=by
  have M:=(aI.begin w).fresh aN (dP w (bI W x) 165);have I:=M.fresh aO (dP _ (cK s) 171);rw[im] at I;have h3:aI eR w (aj (Zw W x s (w.heap.size+1) w.heap.size) bG) _:=I.perm (by unfold Zw;ac_rfl);exact(h3.swap.drop).post nQ
 have h:=au J;clear J;unfold bI cK;unfold bI cK at h
 go_enter Tryz.func68,Tryz.ntmps68
 go_wp2;go_ret;exact⟨_,_,rfl,h.o⟩
theorem RZ (s:St):pO Tryz.prog [⟨"i",3,0,false, "", "customhouse/align",0⟩,⟨"j",3,1,false, "", "customhouse/align",8⟩,⟨"ahead",9,2,false, "", "customhouse/align",16⟩,⟨"right",4,3,false, "", "customhouse/align",32⟩] (cK s):=by
 intro f h;simp only[pA,CM,or_false] at h;rcases h with rfl|rfl|rfl|rfl
 ·exact⟨by decide,_,rfl,.int Tryz.underlying3 _⟩
 ·exact⟨by decide,_,rfl,.int Tryz.underlying3 _⟩
 ·exact⟨by decide,_,rfl,.str Tryz.underlying9 _⟩
 ·exact⟨by decide,_,rfl,.bool Tryz.underlying4 _⟩
theorem Vl (a b:St):oL [⟨"i",3,0,false, "", "customhouse/align",0⟩,⟨"j",3,1,false, "", "customhouse/align",8⟩,⟨"ahead",9,2,false, "", "customhouse/align",16⟩,⟨"right",4,3,false, "", "customhouse/align",32⟩] (cK a) (cK b)=decide (a=b):=(rfl:_=oL [⟨"i",3,0,false, "", "customhouse/potential",0⟩,⟨"j",3,1,false, "", "customhouse/potential",8⟩,⟨"ahead",9,2,false, "", "customhouse/potential",16⟩,⟨"right",4,3,false, "", "customhouse/potential",32⟩] (cK a) (cK b)).trans (BF a b)
theorem zN:oN Tryz.prog 171 sF:=by
 refine rP (cs:=cK) Tryz.underlying171 eQ RZ Vl (fun a=>?_);simp[cK,Instr.sameBits,zI]
variable {b bm bw bf:Nat}
theorem Ki  {L:List (St × Int)}   (h:jw b L w F) (s:St) (ok:Bool) :
  (Instr.lookup 168 (.map (some b)) (.agg (fx s.i s.j (bs s.a) s.r)) ok).run Tryz.prog w=.ok (if ok then .tuple #[(nV (L.map fun p=>(p.1,Value.int .i64 p.2)) s).getD (.int .i64 0),.bool (nV (L.map fun p=>(p.1,Value.int .i64 p.2)) s).isSome] else(nV (L.map fun p=>(p.1,Value.int .i64 p.2)) s).getD (.int .i64 0)) w:=by
 obtain⟨⟨es,I,M,J⟩,hF⟩:=h;cases ok
 ·exact Df zN Tryz.underlying168 Tryz.zeroValue3 J s w M
 ·exact qm zN Tryz.underlying168 Tryz.zeroValue3 J s w M
theorem Kk   (hs:W.ok s):doneN W s=decide (s=W.fin):=by
 obtain⟨i,j,a,r⟩:=s;have M:=hs.2.2;unfold doneN Wd.fin;simp only at M ⊢;by_cases J:i=W.l.length
 ·by_cases I:j=W.m.length
  ·by_cases h:a=[]
   ·cases r with
    | false=>simp[J,I,h]
    | true=>exact absurd h (M rfl)
   ·simp[h]
  ·simp[I]
 ·simp[J]
def Zv (bm bw bf:Nat):Value:=.func (.func 89) #[] (vu (some ⟨bm,0,none⟩) (some ⟨bw,0,none⟩) (some ⟨bf,0,none⟩))
def BH (W:Wd) (x:WA) (b bm bw bf:Nat):CH.aT:=aj (av bm #[.map (some b)] 168) (aj (av bw (bI W x) 165) (av bf #[Zv bm bw bf] 212))
theorem wD  {x:WA} :(BH W x b bm bw bf).Ok:=aB aC (aB aC aC)
instance {W:Wd} {x:WA} {b bm bw bf:Nat}:(BH W x b bm bw bf).Ok:=wD
def PI (W:Wd) (x:WA) (s:St) (L:List (St × Int)) (F0:Nat->Prop) (w0:World) (b bm bw bf:Nat) (X:CH.aT) (e:Ending) (w':World):Prop:=
 ∃ L',e=.returned (.int .i64 (W.fi s))/\Kn W L'/\Ext W s L L'/\s ∈ gy L'/\aI F0 w0 (aj (jw b L') (aj (BH W x b bm bw bf) X)) w'
def Ns (W:Wd) (x:WA):Prop:=∀ s,W.ok s->(dH W x s).map (fun p=>(p.1.r.c,p.2))=W.moves s
theorem Kl  {x:WA}  (h:Ns W x) (hs:W.ok s):(W.moves s).length=(dH W x s).length:=by rw[<-h s hs,gh]
theorem Zx  {x:WA}  (h:Ns W x) (J:W.ok s)  (hi:i<(dH W x s).length) (I:i<(W.moves s).length):(W.moves s)[i]=((dH W x s)[i].1.r.c,(dH W x s)[i].2):=by
 have e:(W.moves s)[i]?=some ((dH W x s)[i].1.r.c,(dH W x s)[i].2):=by rw[<-h s J,lz,gR hi];rfl
 rw[gR I] at e;injection e
theorem oo  {x:WA}     (h:aI F0 w0 (aj (BH W x b bm bw bf) X) w) :
  w.cell? ⟨bm,0,none⟩=some (.map (some b))/\w.cell? ⟨bf,0,none⟩=some (Zv bm bw bf)/\(nq w bw (.slice x.a.L W.l.length x.a.lc) (.slice x.a.R x.a.q.length x.a.rc) (.slice x.b.L W.m.length x.b.lc) (.slice x.b.R x.b.q.length x.b.rc)):=by
 obtain⟨F,M⟩:=(h.perm (by unfold BH;ac_rfl:_=aj (av bm #[.map (some b)] 168) (aj (av bw (bI W x) 165) (aj (av bf #[Zv bm bw bf] 212) X)))).fst;obtain⟨F2,I⟩:=(h.perm (by unfold BH;ac_rfl:_=aj (av bw (bI W x) 165) (aj (av bm #[.map (some b)] 168) (aj (av bf #[Zv bm bw bf] 212) X)))).fst;obtain⟨F3,J⟩:=(h.perm (by unfold BH;ac_rfl:_=aj (av bf #[Zv bm bw bf] 212) (aj (av bm #[.map (some b)] 168) (aj (av bw (bI W x) 165) X)))).fst;exact⟨ay M rfl,ay J rfl,ay I rfl,ay I rfl,ay I rfl,ay I rfl⟩
variable {b1 b2:Nat}{z:Bs × Bool}
theorem xS  {x:WA}      (h:aI F0 w0 (aj (Zw W x s b1 b2) X) w) :
  (nq w b1 (.int .i64 s.i) (.int .i64 s.j) (.string (bs s.a)) (.bool s.r)) /\
  (nq w b2 (.slice x.a.L W.l.length x.a.lc) (.slice x.a.R x.a.q.length x.a.rc) (.slice x.b.L W.m.length x.b.lc) (.slice x.b.R x.b.q.length x.b.rc)):=by
 obtain⟨F,J⟩:=(h.assoc).fst;obtain⟨M,I⟩:=(h.assoc.kN).fst;exact⟨⟨ay J rfl,ay J rfl,ay J rfl,ay J rfl⟩,ay I rfl,ay I rfl,ay I rfl,ay I rfl⟩
theorem Yq.at  {x:WA}  (h:Yq W x w) (lf:Bool):fB w (x.at lf).L (sB W lf)/\Va w (x.at lf).R (x.at lf).q/\∀ y ∈ (x.at lf).q,fB w y.A y.r.f:=by
 cases lf
 ·exact⟨h.m,h.rb,h.fb⟩
 ·exact⟨h.l,h.ra,h.fa⟩
theorem Yr.at  {x:WA} (h:Yr W x) (lf:Bool):(x.at lf).q.length<=1000000/\(sB W lf).length<=(x.at lf).lc/\(sB W lf).length<=1000000/\∀ y ∈ (x.at lf).q,y.r.f.length<=1000000/\y.r.t.length<=1000000:=by
 cases lf
 ·exact⟨h.nb,h.lb,h.m6,h.g6⟩
 ·exact⟨h.na,h.la,h.l6,h.f6⟩
theorem Z1   (h:W.ok s) (lf:Bool):kA s lf<=(sB W lf).length:=by
 cases lf
 ·exact h.2.1
 ·exact h.1
def iN (s:St) (lf:Bool) (n:Nat):Nat:=if lf then s.i+n else s.i
def jN (s:St) (lf:Bool) (n:Nat):Nat:=if lf then s.j else s.j+n
theorem Vj  {lf:Bool}  :Vh s lf n z=⟨iN s lf n,jN s lf n,z.1,z.2⟩:=by cases lf<;>rfl
section
variable {W:Wd} {x:WA} {s:St} {lf:Bool} {k:Nat}
theorem Nr (hl:W.left s=lf) (hk:k<(x.at lf).q.length) (h:nP (sB W lf) (x.at lf).q[k].r (kA s lf)=false):ku W x s (k+1)=ku W x s k:=by
 subst hl;exact FU hk (Nq h)
theorem RX (hl:W.left s=lf) (hk:k<(x.at lf).q.length) (h:W.M8 s (x.at lf).q[k].r.t=none):ku W x s (k+1)=ku W x s k:=by
 subst hl;exact FU hk (RU h)
theorem Vk (M:W.left s=lf) (J:k<(x.at lf).q.length) (h:nP (sB W lf) (x.at lf).q[k].r (kA s lf)=true)  (hz:W.M8 s (x.at lf).q[k].r.t=some z) :
  ku W x s (k+1)=ku W x s k++[((x.at lf).q[k],⟨iN s lf (x.at lf).q[k].r.f.length,jN s lf (x.at lf).q[k].r.f.length,z.1,z.2⟩)]/\∃ hi:(ku W x s k).length<(dH W x s).length,(dH W x s)[(ku W x s k).length]=((x.at lf).q[k],⟨iN s lf (x.at lf).q[k].r.f.length,jN s lf (x.at lf).q[k].r.f.length,z.1,z.2⟩):=by
 subst M;have I:=Vi h hz;rw[Vj] at I;exact⟨RS J I,Zu J I⟩
theorem RY (hl:W.left s=lf):ku W x s (x.at lf).q.length=dH W x s:=by subst hl;exact Vg
end
theorem AA   {x:WA}  (hs:W.ok s) (hW:Yr W x) (ha:s.a.length<=1000000) :
  Qf Tryz.prog 90 #[.pointer (some ⟨b1,0,none⟩),.pointer (some ⟨b2,0,none⟩)] (Yq W x) (Zw W x s b1 b2) Np (dH W x s):=by
 intro n lo w F0 w0 X Y ai b8 hE h0 hY;have HY:=au hY;have HE:=au hE;have HS:=au hs;have HW:=au hW;have H0:=au h0;clear hY hE hs hW;refine callsIn_of_wp Tryz.func90 rfl trivial ?_ rfl;simp only[Tryz.ntmps90,pT,j7,lA,Nat.reduceAdd,Nat.reduceSub,qu,qS,re,qT,l4,pd];obtain⟨⟨c1,c2,c3,c4⟩,d0,d1,d2,d3⟩:=xS h0;clear h0;refine wpIn_seq_k ?_;intro K0 a2;have cut:∀ (lf:Bool) (g14 g15 g16 g17 g18 g19 g20 g21 g22 g23 g24 g25 g26 g27 g28 g29:Value),W.left s=lf->K0 { tmps:=#[.func (.yield lo) #[] #[],.pointer (some ⟨b1,0,none⟩),.pointer (some ⟨b2,0,none⟩),undef,.bool lf,undef,undef,undef,undef,undef,undef,undef,undef,undef,g14,g15,g16,g17,g18,g19,g20,g21,g22,g23,g24,g25,g26,g27,g28,g29,undef,undef,undef,undef,undef,undef,undef,undef,undef,undef,undef,undef,undef,undef,undef,undef,undef,undef,undef,undef,undef,undef,undef,undef,undef,undef,undef,undef,undef,undef,undef,undef,undef,undef,undef,undef,undef,undef,undef,undef,undef,undef,undef,undef,undef,undef,undef,undef,undef,undef,undef,undef,undef,undef,undef,undef,undef,undef,undef,undef,undef,undef,undef,undef,undef,undef,undef,undef,undef,undef,undef,undef,undef,undef,undef,undef,undef,undef,undef],defers:=[] } w:=by
  intro lf g14 g15 g16 g17 g18 g19 g20 g21 g22 g23 g24 g25 g26 g27 g28 g29 bo;have HL:=au bo;refine a2 _ _ ?_;clear a2 K0;have a8:∀ W',aI F0 w0 (aj (Zw W x s b1 b2) (X 0)) W'->(fun w:World=>w.cell? ⟨b1,0,none⟩=some (.int .i64 s.i)/\w.cell? ⟨b1,1,none⟩=some (.int .i64 s.j)/\(nq w b2 (.slice x.a.L W.l.length x.a.lc) (.slice x.a.R x.a.q.length x.a.rc) (.slice x.b.L W.m.length x.b.lc) (.slice x.b.R x.b.q.length x.b.rc))) W':=fun W' h=>by
   obtain⟨⟨c1,c2,c3,c4⟩,d0,d1,d2,d3⟩:=xS h;exact⟨c1,c2,d0,d1,d2,d3⟩
  have am:=au a8;have H1:=au (H0.o.drew (aB nQ (ai 0)));have aq:=am.o _ H1.o;clear a8 c1 c2 c3 c4 d0 d1 d2 d3;refine wpIn_seq_k ?_;intro K1 bj;refine wpIn_wide.2 (aR (fun w:World=>w.cell? ⟨b1,0,none⟩=some (.int .i64 s.i)/\w.cell? ⟨b1,1,none⟩=some (.int .i64 s.j)/\(nq w b2 (.slice x.a.L W.l.length x.a.lc) (.slice x.a.R x.a.q.length x.a.rc) (.slice x.b.L W.m.length x.b.lc) (.slice x.b.R x.b.q.length x.b.rc))) eQ eQ aq ?_);clear aq
  (repeat(first|refine bM ?_|refine bN ?_))
  refine dD rfl fY (fun K hK=>?_);go_wp2_with fail;clear H1;have H2:=au ((aH H0.o (aB nQ (ai 0)) (fj none 0 0 none 0 0) 163).drew (aB aC (aB nQ (ai 0))));generalize (w.alloc (.cells (fj none 0 0 none 0 0) 163)).drew=w2 at *
  generalize w.heap.size=g5 at *
  refine hK.o _ _ (am.o _ H2.o.drop) ?_;clear hK;obtain⟨f5,I⟩:=H2.o.fst;have y0:=ay (i:=0) I rfl;have y1:=ay (i:=1) I rfl;have yf:=aM I;clear I
  (repeat(first|refine bM ?_|refine bN ?_))
  refine dD rfl fY (fun K hK=>?_);go_wp2_with fail;have H3:=au (oK H2.o (aB nQ (ai 0)) (.slice x.b.L W.m.length x.b.lc) (.slice x.b.R x.b.q.length x.b.rc));clear H2 y0 y1 yf;generalize (w2.setCell ⟨g5,0,none⟩ (.slice x.b.L W.m.length x.b.lc)).setCell ⟨g5,1,none⟩ (.slice x.b.R x.b.q.length x.b.rc)=w3 at *
  refine hK.o _ _ (am.o _ H3.o.drop) ?_;clear hK
  (repeat(first|refine bM ?_|refine bN ?_))
  refine lex_nil ?_;refine bj _ _ ?_;clear bj K1;gi_step;refine wpIn_seq_k ?_;intro K3 aE;have ax:∀ (w:World) (h30 h31 h32 h33 h34 h35 h36 h37 h38:Value),aI F0 w0 (aj (av g5 (fj (x.at lf).L (sB W lf).length (x.at lf).lc (x.at lf).R (x.at lf).q.length (x.at lf).rc) 163) (aj (Zw W x s b1 b2) (X 0))) w->K3 { tmps:=#[.func (.yield lo) #[] #[],.pointer (some ⟨b1,0,none⟩),.pointer (some ⟨b2,0,none⟩),undef,.bool lf,.pointer (some ⟨g5,0,none⟩),.int .i64 (kA s lf:Nat),undef,undef,undef,undef,undef,undef,undef,g14,g15,g16,g17,g18,g19,g20,g21,g22,g23,g24,g25,g26,g27,g28,g29,h30,h31,h32,h33,h34,h35,h36,h37,h38,undef,undef,undef,undef,undef,undef,undef,undef,undef,undef,undef,undef,undef,undef,undef,undef,undef,undef,undef,undef,undef,undef,undef,undef,undef,undef,undef,undef,undef,undef,undef,undef,undef,undef,undef,undef,undef,undef,undef,undef,undef,undef,undef,undef,undef,undef,undef,undef,undef,undef,undef,undef,undef,undef,undef,undef,undef,undef,undef,undef,undef,undef,undef,undef,undef,undef,undef,undef,undef,undef],defers:=[] } w:=by
   intro w h30 h31 h32 h33 h34 h35 h36 h37 h38 hR;have a1:=au hR;refine aE _ _ ?_;clear aE K3 hR am H0 H3;have br:=au (fun W' (hm:Mod F0 w0 W')=>(HE.o W' hm).at lf);obtain⟨ba,bi,bb,be⟩:=HW.o.at lf;have bk:=au ba;have bx:=au bi;have b5:=au bb;have bp:=au be;have bm:=au (Z1 HS.o lf);have bz:=au (fun k hk h=>Nr (x:=x) (k:=k) HL.o hk h);have bu:=au (fun k hk h=>RX (x:=x) (k:=k) HL.o hk h);have b0:=au (fun k hk h z hz=>Vk (x:=x) (k:=k) HL.o hk h (z:=z) hz);have bn:=au (RY (x:=x) HL.o);clear ba bi bb be;have b4:(s.i:Int)<=1000000:=by have:=HS.o.1;have:=HW.o.l6;omega
   have bw:(s.j:Int)<=1000000:=by have:=HS.o.2.1;have:=HW.o.m6;omega
   generalize x.at lf=y at *
   generalize kA s lf=a7 at *
   generalize sB W lf=ls at *
   obtain⟨f5,I⟩:=a1.o.fst;have y0:=ay (i:=0) I rfl;have y1:=ay (i:=1) I rfl;clear I f5;gi_wp2;gi_loopw [42] (fun i wr=>∃ k:Nat,k<=y.q.length/\i=.int .i64 k/\aI F0 w0 (aj (av g5 (fj y.L ls.length y.lc y.R y.q.length y.rc) 163) (aj (Zw W x s b1 b2) (X (ku W x s k).length))) wr) (fun i _=>y.q.length-(intOf i).toNat)
   case atStart=>exact⟨0,fw _,rfl,a1.o⟩
   case round=>
    obtain⟨k,hk,rfl,hR⟩:=hrel;have HR:=au hR;clear a1 hR y0 y1;obtain⟨f5,I⟩:=HR.o.fst;have y0:=ay (i:=0) I rfl;have y1:=ay (i:=1) I rfl;clear I f5;by_cases ad:k<y.q.length
    ·obtain⟨PL,PR,PF⟩:=br.o wr HR.o.mod;obtain⟨b,o,hA,hc⟩:=sD.at (R:=dX) (fun _=>rfl) eL PR eL;have r0:=hc wr (fe _ _) k ad 0 _ rfl;have r1:=hc wr (fe _ _) k ad 1 _ rfl;have r2:=hc wr (fe _ _) k ad 2 _ rfl;have r3:=hc wr (fe _ _) k ad 3 _ rfl;have ab:=au (show k+1<=y.q.length from ad);have al:=au (bz.o k ad);have af:=au (bu.o k ad);have az:=au (b0.o k ad);have a4:=au (PF _ (gv ad));have ap:=au (bp.o _ (gv ad));have a9:=au PL;have b6:(k:Int)<1000000:=by have:=bk.o;omega
     clear hc PL PR PF;have a5:=au (aB nQ (ai (ku W x s k).length):(aj (Zw W x s b1 b2) (X (ku W x s k).length)).Ok);generalize y.q[k]=ra at *
     obtain⟨⟨ix,ag,rf,rt⟩,rA,rc⟩:=ra;dsimp only at al af az a4 ap;simp only[pk] at r0;dsimp only at r0 r1 r2 r3;rw[hA]
     iterate 32 (first|go_values|gi_guarded|gi_step|gi_upon)
     have aA:=au (aB aC a5.o:(aj (av g5 (fj y.L ls.length y.lc y.R y.q.length y.rc) 163) (aj (Zw W x s b1 b2) (X (ku W x s k).length))).Ok);have H1:=au (aH HR.o aA.o (kl (ix:Nat) ag rA rf.length rc (bs rt)) 177);have KF:=au (Vd (w:=wr.alloc (.cells (kl (ix:Nat) ag rA rf.length rc (bs rt)) 177)) (R:=y.R) (rn:=y.q.length) (rc:=y.rc) (lc:=y.lc) (fc:=rc) (r:=⟨ix,ag,rf,rt⟩) (a9.o.below ((fe _ _).alloc (fy _) _)) (a4.o.below ((fe _ _).alloc (fy _) _)) bm.o bx.o b5.o ap.o.1);have HA:=au hA;clear r0 r1 r2 r3 y0 y1 a9 a4 HR hA;generalize wr.alloc (.cells (kl (ix:Nat) ag rA rf.length rc (bs rt)) 177)=w1 at *
     generalize wr.heap.size=h8 at *
     obtain⟨x0,x1,x2,x3,xf⟩:=bq H1.o;obtain⟨f5,I⟩:=H1.o.drop.fst;have y0:=ay (i:=0) I rfl;have y1:=ay (i:=1) I rfl;clear I f5;dsimp only at KF
     gi_wp2_with fail
     refine⟨trivial,fun h=>(by cases h),?_⟩
     gi_at_call 91
     refine(callsIn_wide.2 KF.o).mono ?_;rintro e9 w9 ⟨rfl,hb9⟩;have H2:=au (H1.o.below (aB aC aA.o) hb9);clear KF hb9 H1 x0 x1 x2 x3 xf y0 y1;dsimp only;by_cases ae:nP ls ⟨ix,ag,rf,rt⟩ a7=true
     ·rw[ae];have bc:=au ae;clear ae al;obtain⟨⟨c1,c2,c3,c4⟩,-⟩:=xS H2.o.drop.drop;obtain⟨x0,x1,x2,x3,xf⟩:=bq H2.o
      iterate 38 (first|go_values|gi_guarded|gi_step|gi_upon)
      have ac:=au (aB aC aA.o:(aj (av h8 (kl (ix:Nat) ag rA rf.length rc (bs rt)) 177) (aj (av g5 (fj y.L ls.length y.lc y.R y.q.length y.rc) 163) (aj (Zw W x s b1 b2) (X (ku W x s k).length)))).Ok);have H3:=au (aH H2.o ac.o (fx s.i s.j ⟨#[]⟩ false) 171);clear H2 c1 c2 c3 c4 x0 x1 x2 x3 xf;generalize w9.alloc (.cells (fx s.i s.j ⟨#[]⟩ false) 171)=w3 at *
      generalize w9.heap.size=h9 at *
      gi_step;rename_i Kj a3 Kc a0;have aw:∀ (w:World) (v44 v45 v46 v47 v48 v49 v50 v51 v52 v53 v54 v55 v56 v57 v58 v59 v60 v61 v62 v63 v64 v65 v66 v67 v68 v69 v70:Value),aI F0 w0 (aj (av h9 (fx (iN s lf rf.length:Nat) (jN s lf rf.length:Nat) ⟨#[]⟩ false) 171) (aj (av h8 (kl (ix:Nat) ag rA rf.length rc (bs rt)) 177) (aj (av g5 (fj y.L ls.length y.lc y.R y.q.length y.rc) 163) (aj (Zw W x s b1 b2) (X (ku W x s k).length))))) w->Kj { tmps:=#[.func (.yield lo) #[] #[],.pointer (some ⟨b1,0,none⟩),.pointer (some ⟨b2,0,none⟩),undef,.bool lf,.pointer (some ⟨g5,0,none⟩),.int .i64 (a7:Nat),undef,.pointer (some ⟨h8,0,none⟩),.pointer (some ⟨h9,0,none⟩),u10,u11,u12,u13,g14,g15,g16,g17,g18,g19,g20,g21,g22,g23,g24,g25,g26,g27,g28,g29,h30,h31,h32,h33,h34,h35,h36,h37,h38,.pointer (some ⟨g5,1,none⟩),.slice (some ⟨b,o,none⟩) y.q.length y.rc,.int .i64 (y.q.length:Nat),.int .i64 (k:Nat),.bool true,v44,v45,v46,v47,v48,v49,v50,v51,v52,v53,v54,v55,v56,v57,v58,v59,v60,v61,v62,v63,v64,v65,v66,v67,v68,v69,v70,u71,u72,u73,u74,u75,u76,u77,u78,u79,u80,u81,u82,u83,u84,u85,u86,u87,u88,u89,u90,u91,u92,u93,u94,u95,u96,u97,u98,u99,u100,u101,u102,u103,u104,u105,u106,u107,u108],defers:=[] } w:=by
       intro w v44 v45 v46 v47 v48 v49 v50 v51 v52 v53 v54 v55 v56 v57 v58 v59 v60 v61 v62 v63 v64 v65 v66 v67 v68 v69 v70 hR;have H4:=au hR;refine a3 _ _ ?_;clear a3 a0 Kc Kj H3 hR b4 bw;have ao:=au (az.o bc.o);clear az bc;generalize iN s lf rf.length=ni at *
       generalize jN s lf rf.length=nj at *
       obtain⟨⟨c1,c2,c3,c4⟩,-⟩:=xS H4.o.drop.drop.drop;obtain⟨x0,x1,x2,x3,xf⟩:=bq H4.o.drop;obtain⟨z0,z1,z2,z3,zf⟩:=bq H4.o;have KC:=au (kP s.a rt w)
       gi_wp2_with fail
       by_cases h1:rt.isPrefixOf s.a=true
       ·have HZ:=au (ao.o _ (ZD h1));rw[if_pos h1,h1] at KC;clear h1 af ao;generalize s.a.drop rt.length=q at *
        cases hr:s.r with
        | false=>
         rw[hr,pZ] at HZ;rw[hr] at c4;clear hr;refine⟨trivial,fun h=>(by cases h),?_⟩
         gi_at_call 92
         refine(callsIn_wide.2 KC.o).mono ?_;rintro an aa ⟨rfl,h10⟩;subst aa;clear KC;dsimp only
         iterate 28 (first|go_values|gi_guarded|gi_step|gi_upon)
         refine wpIn_wide.2 ?_;go_wp2;have H7:=au (aJ (aJ H4.o ac.o 2 (.string (bs q))) ac.o 3 (.bool false):aI F0 w0 (aj (av h9 (fx (ni:Nat) (nj:Nat) (bs q) false) 171) _) _);clear H4 z0 z1 z2 z3 zf x0 x1 x2 x3 xf c1 c2 c3 c4;generalize (w.setCell ⟨h9,2,none⟩ (.string (bs q))).setCell ⟨h9,3,none⟩ (.bool false)=w7 at *
         obtain⟨z0,z1,z2,z3,zf⟩:=bq H7.o;obtain⟨x0,x1,x2,x3,xf⟩:=bq H7.o.drop;obtain⟨hM,hi,hx⟩:=HZ.o;have HM:=au hM;have hw:=HY.o (aj (av g5 (fj y.L ls.length y.lc y.R y.q.length y.rc) 163) (Zw W x s b1 b2)) aO _ hi w7 (H7.o.drop.drop.perm (by ac_rfl));rw[hx] at hw;clear hM HZ;simp only[Np,cK,dX] at hw;obtain⟨fn,tmps,assign,body,hy,hround⟩:=hw;have M:=au hround;clear hround hx hi;gi_wp2
         try rw[hy]
         refine⟨fun h=>(by cases h),?_⟩;refine M.o.mono ?_;rintro e W3 (⟨rfl,J⟩|⟨rfl,J⟩)
         ·have H8:=au (J.perm (by ac_rfl:_=aj (av g5 (fj y.L ls.length y.lc y.R y.q.length y.rc) 163) (aj (Zw W x s b1 b2) (X ((ku W x s k).length+1)))));clear M J hy H7 z0 z1 z2 z3 zf x0 x1 x2 x3 xf;gi_wp2
          go_roundw
          case rel=>exact⟨k+1,ab.o,by go_num,by rw[HM.o,gd,<-HA.o];exact H8.o⟩
          case measure=>have:=ab.o;simp[intOf];omega
         ·have ak:=au (show(∃ v,(Ending.returned (.tuple #[]))=.returned v)/\∃ Z:CH.aT,Z.Ok/\(aI F0 w0 (aj Z (X (dH W x s).length)) W3\/aI F0 w0 (aj Z Y) W3) from⟨⟨_,rfl⟩,_,aB aC nQ,.inr J⟩);clear M J hy H7 z0 z1 z2 z3 zf x0 x1 x2 x3 xf;gi_wp2;refine bodyPost_ret (results_none rfl _ _ _) rfl ?_;exact ak.o
        | true=>
         rw[hr,lx] at HZ;rw[hr] at c4;clear hr;by_cases hq:q=[]
         ·have e2:(bs q).toList.isEmpty=true:=by rw[rN];exact dA.2 hq
          rw[decide_eq_false (fun h=>h hq)] at HZ;clear hq;refine⟨trivial,fun h=>(by cases h),?_⟩
          gi_at_call 92
          refine(callsIn_wide.2 KC.o).mono ?_;rintro an aa ⟨rfl,h10⟩;subst aa;clear KC;dsimp only
          iterate 28 (first|go_values|gi_guarded|gi_step|gi_upon)
          refine wpIn_wide.2 ?_;go_wp2;have H7:=au (aJ (aJ H4.o ac.o 2 (.string (bs q))) ac.o 3 (.bool false):aI F0 w0 (aj (av h9 (fx (ni:Nat) (nj:Nat) (bs q) false) 171) _) _);clear H4 z0 z1 z2 z3 zf x0 x1 x2 x3 xf c1 c2 c3 c4;generalize (w.setCell ⟨h9,2,none⟩ (.string (bs q))).setCell ⟨h9,3,none⟩ (.bool false)=w7 at *
          obtain⟨z0,z1,z2,z3,zf⟩:=bq H7.o;obtain⟨x0,x1,x2,x3,xf⟩:=bq H7.o.drop;obtain⟨hM,hi,hx⟩:=HZ.o;have HM:=au hM;have hw:=HY.o (aj (av g5 (fj y.L ls.length y.lc y.R y.q.length y.rc) 163) (Zw W x s b1 b2)) aO _ hi w7 (H7.o.drop.drop.perm (by ac_rfl));rw[hx] at hw;clear hM HZ;simp only[Np,cK,dX] at hw;obtain⟨fn,tmps,assign,body,hy,hround⟩:=hw;have M:=au hround;clear hround hx hi;gi_wp2
          try rw[hy]
          refine⟨fun h=>(by cases h),?_⟩;refine M.o.mono ?_;rintro e W3 (⟨rfl,J⟩|⟨rfl,J⟩)
          ·have H8:=au (J.perm (by ac_rfl:_=aj (av g5 (fj y.L ls.length y.lc y.R y.q.length y.rc) 163) (aj (Zw W x s b1 b2) (X ((ku W x s k).length+1)))));clear M J hy H7 z0 z1 z2 z3 zf x0 x1 x2 x3 xf;gi_wp2
           go_roundw
           case rel=>exact⟨k+1,ab.o,by go_num,by rw[HM.o,gd,<-HA.o];exact H8.o⟩
           case measure=>have:=ab.o;simp[intOf];omega
          ·have ak:=au (show(∃ v,(Ending.returned (.tuple #[]))=.returned v)/\∃ Z:CH.aT,Z.Ok/\(aI F0 w0 (aj Z (X (dH W x s).length)) W3\/aI F0 w0 (aj Z Y) W3) from⟨⟨_,rfl⟩,_,aB aC nQ,.inr J⟩);clear M J hy H7 z0 z1 z2 z3 zf x0 x1 x2 x3 xf;gi_wp2;refine bodyPost_ret (results_none rfl _ _ _) rfl ?_;exact ak.o
         ·have e2:(bs q).toList.isEmpty=false:=by rw[pM];exact fun h=>hq (dA.1 h)
          rw[decide_eq_true hq] at HZ;clear hq;refine⟨trivial,fun h=>(by cases h),?_⟩
          gi_at_call 92
          refine(callsIn_wide.2 KC.o).mono ?_;rintro an aa ⟨rfl,h10⟩;subst aa;clear KC;dsimp only
          iterate 28 (first|go_values|gi_guarded|gi_step|gi_upon)
          refine wpIn_wide.2 ?_;go_wp2;have H7:=au (aJ (aJ H4.o ac.o 2 (.string (bs q))) ac.o 3 (.bool true):aI F0 w0 (aj (av h9 (fx (ni:Nat) (nj:Nat) (bs q) true) 171) _) _);clear H4 z0 z1 z2 z3 zf x0 x1 x2 x3 xf c1 c2 c3 c4;generalize (w.setCell ⟨h9,2,none⟩ (.string (bs q))).setCell ⟨h9,3,none⟩ (.bool true)=w7 at *
          obtain⟨z0,z1,z2,z3,zf⟩:=bq H7.o;obtain⟨x0,x1,x2,x3,xf⟩:=bq H7.o.drop;obtain⟨hM,hi,hx⟩:=HZ.o;have HM:=au hM;have hw:=HY.o (aj (av g5 (fj y.L ls.length y.lc y.R y.q.length y.rc) 163) (Zw W x s b1 b2)) aO _ hi w7 (H7.o.drop.drop.perm (by ac_rfl));rw[hx] at hw;clear hM HZ;simp only[Np,cK,dX] at hw;obtain⟨fn,tmps,assign,body,hy,hround⟩:=hw;have M:=au hround;clear hround hx hi;gi_wp2
          try rw[hy]
          refine⟨fun h=>(by cases h),?_⟩;refine M.o.mono ?_;rintro e W3 (⟨rfl,J⟩|⟨rfl,J⟩)
          ·have H8:=au (J.perm (by ac_rfl:_=aj (av g5 (fj y.L ls.length y.lc y.R y.q.length y.rc) 163) (aj (Zw W x s b1 b2) (X ((ku W x s k).length+1)))));clear M J hy H7 z0 z1 z2 z3 zf x0 x1 x2 x3 xf;gi_wp2
           go_roundw
           case rel=>exact⟨k+1,ab.o,by go_num,by rw[HM.o,gd,<-HA.o];exact H8.o⟩
           case measure=>have:=ab.o;simp[intOf];omega
          ·have ak:=au (show(∃ v,(Ending.returned (.tuple #[]))=.returned v)/\∃ Z:CH.aT,Z.Ok/\(aI F0 w0 (aj Z (X (dH W x s).length)) W3\/aI F0 w0 (aj Z Y) W3) from⟨⟨_,rfl⟩,_,aB aC nQ,.inr J⟩);clear M J hy H7 z0 z1 z2 z3 zf x0 x1 x2 x3 xf;gi_wp2;refine bodyPost_ret (results_none rfl _ _ _) rfl ?_;exact ak.o
       ·by_cases J:s.a.isPrefixOf rt=true
        ·have HZ:=au (ao.o _ (ZS h1 J));rw[HL.o] at HZ;rw[if_neg h1,Bool.eq_false_iff.2 h1] at KC;clear h1 af ao;refine⟨trivial,fun h=>(by cases h),?_⟩
         gi_at_call 92
         refine(callsIn_wide.2 KC.o).mono ?_;rintro an aa ⟨rfl,h10⟩;subst aa;clear KC;dsimp only
         gi_wp2_with fail
         have KD:=au (kP rt s.a w);rw[if_pos J,J] at KD;clear J;generalize rt.drop s.a.length=q at *
         refine⟨trivial,fun h=>(by cases h),?_⟩
         gi_at_call 92
         refine(callsIn_wide.2 KD.o).mono ?_;rintro an aa ⟨rfl,h10⟩;subst aa;clear KD;dsimp only
         iterate 28 (first|go_values|gi_guarded|gi_step|gi_upon)
         refine wpIn_wide.2 ?_;go_wp2;have H7:=au (aJ (aJ H4.o ac.o 2 (.string (bs q))) ac.o 3 (.bool (!lf)):aI F0 w0 (aj (av h9 (fx (ni:Nat) (nj:Nat) (bs q) (!lf)) 171) _) _);clear H4 z0 z1 z2 z3 zf x0 x1 x2 x3 xf c1 c2 c3 c4;generalize (w.setCell ⟨h9,2,none⟩ (.string (bs q))).setCell ⟨h9,3,none⟩ (.bool (!lf))=w7 at *
         obtain⟨z0,z1,z2,z3,zf⟩:=bq H7.o;obtain⟨x0,x1,x2,x3,xf⟩:=bq H7.o.drop;obtain⟨hM,hi,hx⟩:=HZ.o;have HM:=au hM;have hw:=HY.o (aj (av g5 (fj y.L ls.length y.lc y.R y.q.length y.rc) 163) (Zw W x s b1 b2)) aO _ hi w7 (H7.o.drop.drop.perm (by ac_rfl));rw[hx] at hw;clear hM HZ;simp only[Np,cK,dX] at hw;obtain⟨fn,tmps,assign,body,hy,hround⟩:=hw;have M:=au hround;clear hround hx hi;gi_wp2
         try rw[hy]
         refine⟨fun h=>(by cases h),?_⟩;refine M.o.mono ?_;rintro e W3 (⟨rfl,J⟩|⟨rfl,J⟩)
         ·have H8:=au (J.perm (by ac_rfl:_=aj (av g5 (fj y.L ls.length y.lc y.R y.q.length y.rc) 163) (aj (Zw W x s b1 b2) (X ((ku W x s k).length+1)))));clear M J hy H7 z0 z1 z2 z3 zf x0 x1 x2 x3 xf;gi_wp2
          go_roundw
          case rel=>exact⟨k+1,ab.o,by go_num,by rw[HM.o,gd,<-HA.o];exact H8.o⟩
          case measure=>have:=ab.o;simp[intOf];omega
         ·have ak:=au (show(∃ v,(Ending.returned (.tuple #[]))=.returned v)/\∃ Z:CH.aT,Z.Ok/\(aI F0 w0 (aj Z (X (dH W x s).length)) W3\/aI F0 w0 (aj Z Y) W3) from⟨⟨_,rfl⟩,_,aB aC nQ,.inr J⟩);clear M J hy H7 z0 z1 z2 z3 zf x0 x1 x2 x3 xf;gi_wp2;refine bodyPost_ret (results_none rfl _ _ _) rfl ?_;exact ak.o
        ·have aD:=au (af.o (ZZ h1 J));rw[if_neg h1,Bool.eq_false_iff.2 h1] at KC;have KD:=au (kP rt s.a w);rw[if_neg J,Bool.eq_false_iff.2 J] at KD;clear h1 J af ao;refine⟨trivial,fun h=>(by cases h),?_⟩
         gi_at_call 92
         refine(callsIn_wide.2 KC.o).mono ?_;rintro an aa ⟨rfl,h10⟩;subst aa;clear KC;dsimp only
         gi_wp2_with fail
         refine⟨trivial,fun h=>(by cases h),?_⟩
         gi_at_call 92
         refine(callsIn_wide.2 KD.o).mono ?_;rintro an aa ⟨rfl,h10⟩;subst aa;clear KD;dsimp only;gi_wp2
         go_roundw
         case rel=>exact⟨k+1,ab.o,by go_num,by rw[aD.o,<-HA.o];exact H4.o.drop.drop⟩
         case measure=>have:=ab.o;simp[intOf];omega
      have ar:=au aw;clear aw a3;have a6:=au a0;clear a0;obtain⟨z0,z1,z2,z3,zf⟩:=bq H3.o;obtain⟨x0,x1,x2,x3,xf⟩:=bq H3.o.drop;have b7:=ap.o.1;refine wpIn_wide.2 ?_;cases lf with
      | false=>
       have eN:((iN s false rf.length:Nat):Int)=(s.i:Int):=rfl;have eM:((jN s false rf.length:Nat):Int)=(s.j:Int)+(rf.length:Int):=by simp[jN]
       rw[eN,eM] at ar;clear eN eM;go_wp2;refine a6.o _ _ ?_;refine wpIn_wide.2 ?_;go_wp2;exact ar.o _ _ _ _ _ _ _ _ _ _ _ _ _ _ _ _ _ _ _ _ _ _ _ _ _ _ _ _ (aJ H3.o ac.o 1 _)
      | true=>
       have eN:((iN s true rf.length:Nat):Int)=(s.i:Int)+(rf.length:Int):=by simp[iN]
       have eM:((jN s true rf.length:Nat):Int)=(s.j:Int):=rfl;rw[eN,eM] at ar;clear eN eM;go_wp2;refine a6.o _ _ ?_;refine wpIn_wide.2 ?_;go_wp2;exact ar.o _ _ _ _ _ _ _ _ _ _ _ _ _ _ _ _ _ _ _ _ _ _ _ _ _ _ _ _ (aJ H3.o ac.o 0 _)
     ·have aD:=au (al.o (Bool.eq_false_iff.2 ae));rw[Bool.eq_false_iff.2 ae];clear ae al;gi_wp2
      go_roundw
      case rel=>exact⟨k+1,ab.o,by go_num,by rw[aD.o,<-HA.o];exact H2.o.drop⟩
      case measure=>have:=ab.o;simp[intOf];omega
    ·obtain rfl:k=y.q.length:=by omega
     have bh:=au (show(∃ v,(Ending.returned (.tuple #[]))=.returned v)/\∃ Z:CH.aT,Z.Ok/\(aI F0 w0 (aj Z (X (dH W x s).length)) wr\/aI F0 w0 (aj Z Y) wr) from⟨⟨_,rfl⟩,_,aB aC nQ,.inl (by rw[<-bn.o];exact HR.o.perm (by ac_rfl))⟩);gi_wp2
     go_end0
     exact bh.o
  have bf:=au ax;clear ax aE;clear HE HY HS HW ha;cases lf with
  | false=>
   clear HL;refine wpIn_wide.2 ?_;go_wp2;exact bf.o _ _ _ _ _ _ _ _ _ _ H3.o
  | true=>
   clear HL;refine wpIn_wide.2 ?_;go_wp2_with fail;have H4:=au (H3.o.drew (aB aC (aB nQ (ai 0))));have aq:=am.o _ H4.o.drop;refine aR (fun w:World=>w.cell? ⟨b1,0,none⟩=some (.int .i64 s.i)/\w.cell? ⟨b1,1,none⟩=some (.int .i64 s.j)/\(nq w b2 (.slice x.a.L W.l.length x.a.lc) (.slice x.a.R x.a.q.length x.a.rc) (.slice x.b.L W.m.length x.b.lc) (.slice x.b.R x.b.q.length x.b.rc))) eQ eQ aq ?_;clear aq H3;generalize w3.drew=w4 at *
   (repeat(first|refine bM ?_|refine bN ?_))
   refine dD rfl fY (fun K hK=>?_);obtain⟨f5,I⟩:=H4.o.fst;have y0:=ay (i:=0) I rfl;have y1:=ay (i:=1) I rfl;have yf:=aM I;clear I;go_wp2_with fail;have H5:=au (oK H4.o (aB nQ (ai 0)) (.slice x.a.L W.l.length x.a.lc) (.slice x.a.R x.a.q.length x.a.rc));clear H4 y0 y1 yf;generalize (w4.setCell ⟨g5,0,none⟩ (.slice x.a.L W.l.length x.a.lc)).setCell ⟨g5,1,none⟩ (.slice x.a.R x.a.q.length x.a.rc)=w5 at *
   refine hK.o _ _ (am.o _ H5.o.drop) ?_;clear hK
   (repeat(first|refine bM ?_|refine bN ?_))
   refine lex_nil ?_;exact bf.o _ _ _ _ _ _ _ _ _ _ H5.o
 have HC:=au cut;clear cut a2;cases hr:s.r with
 | true=>
  have hl:W.left s=true:=by unfold Wd.left;rw[hr];rfl
  have HL:=au hl;rw[hr] at c4;clear hl hr;refine wpIn_wide.2 ?_;go_wp2;exact HC.o true _ _ _ _ _ _ _ _ _ _ _ _ _ _ _ _ HL.o
 | false=>
  rw[hr] at c4;by_cases he:s.a=[]
  ·have bv:(bs s.a).toList.isEmpty=true:=by rw[rN];exact dA.2 he
   by_cases hi:s.i=W.l.length
   ·have hl:W.left s=false:=by unfold Wd.left;rw[hr];simp[hi]
    have HL:=au hl;have b3:decide (s.i<W.l.length)=false:=decide_eq_false eL;clear hl hi he hr;gi_wp2;exact HC.o false _ _ _ _ _ _ _ _ _ _ _ _ _ _ _ _ HL.o
   ·have hl:W.left s=true:=by unfold Wd.left;rw[hr];simp[hi,he]
    have HL:=au hl;have b3:decide (s.i<W.l.length)=true:=decide_eq_true (by have:=HS.o.1;omega);clear hl hi he hr;gi_wp2;exact HC.o true _ _ _ _ _ _ _ _ _ _ _ _ _ _ _ _ HL.o
  ·have bv:(bs s.a).toList.isEmpty=false:=by rw[pM];exact fun h=>he (dA.1 h)
   have hl:W.left s=false:=by unfold Wd.left;rw[hr];simp[he]
   have HL:=au hl;clear hl he hr;gi_wp2;exact HC.o false _ _ _ _ _ _ _ _ _ _ _ _ _ _ _ _ HL.o
theorem Z2 {W:Wd} {x:WA} {bm bw bf:Nat}   (hE:∀ W',Mod F0 w0 W'->Yq W x W') (hW:Yr W x) (hg:W.good) (ht:W.pJ) (hm:Ns W x) :
  ∀ (n:Nat) (s:St) (L:List (St × Int)) (X:CH.aT) (w:World),W.il s<n->W.ok s->s.a.length<=3->Kn W L->X.Ok->aI F0 w0 (aj (jw b L) (aj (BH W x b bm bw bf) X)) w ->
  Calls Tryz.prog 89 #[sF s,.pointer (some ⟨bm,0,none⟩),.pointer (some ⟨bw,0,none⟩),.pointer (some ⟨bf,0,none⟩)] w (PI W x s L F0 w0 b bm bw bf X):=by
 intro n
 induction n with
 | zero=>intro s L X w h;exact absurd h (nB _)
 | succ n ih=>
 intro s L X w hn hs ha hk hX hR;have IH:=au ih;have HE:=au hE;have HW:=au hW;have HG:=au hg;have HT:=au ht;have HN:=au hn;have HS:=au hs;have HA:=au ha;have HK:=au hk;have HX:=au hX;have HM:=au hm;have h2:aI F0 w0 (aj (av w.heap.size (cK s) 171) (aj (jw b L) (aj (BH W x b bm bw bf) X))) _:=aH hR aO (cK s) 171;have H2:=au h2;clear ih hE hW hg ht hn hs ha hk h2 hR hm;refine(callsIn_wide (n:=8)).1 ?_;refine callsIn_of_wp_marks Tryz.func89 rfl trivial ?_ rfl;simp only[Tryz.ntmps89,pT,j7,lA,Nat.reduceAdd,Nat.reduceSub,qu,qS,re,qT,l4,pd];refine(wpIn_wide (n:=8)).2 ?_;unfold sF;unfold cK;unfold cK at H2;generalize a2:w.alloc (.cells (fx s.i s.j (bs s.a) s.r) 171)=w2 at *
 iterate 9 (first|go_values|go_guarded|go_step)
 clear a2;generalize w.heap.size=gs at *
 obtain⟨F,hF⟩:=H2.o.fst;have c0:=ay (i:=0) hF rfl;have c1:=ay (i:=1) hF rfl;have c2:=ay (i:=2) hF rfl;have c3:=ay (i:=3) hF rfl;clear hF F;obtain⟨m0,f0,d0,d1,d2,d3⟩:=oo H2.o.drop.drop;obtain⟨F,hF⟩:=H2.o.drop.fst;have ae:=Ki hF s true;by_cases ac:s ∈ gy L
 ·obtain⟨v,hv⟩:=mem_keys.1 ac;have ba:v=W.fi s:=HK.o.val _ hv;subst ba;rw[Ie HK.o.nd hv] at ae;have an:(Instr.lookup 168 (.map (some b)) (.agg (fx s.i s.j (bs s.a) s.r)) true).run Tryz.prog w2=.ok (.tuple (o5 (W.fi s) true)) w2:=ae;have HF:=au (show PI W x s L F0 w0 b bm bw bf X (.returned (.int .i64 (W.fi s))) w2 from⟨L,rfl,HK.o,Ext.refl,ac,H2.o.drop⟩);clear ae hF hv ac;go_wp2;refine⟨_,results_tmp rfl _ _ _,?_⟩;exact HF.o
 ·rw[Pg ac] at ae;have an:(Instr.lookup 168 (.map (some b)) (.agg (fx s.i s.j (bs s.a) s.r)) true).run Tryz.prog w2=.ok (.tuple (o5 0 false)) w2:=ae;have a5:=au ac;clear ae hF ac
  iterate 56 (first|go_values|go_guarded|go_step)
  have H3:=au (aH H2.o aO (fL 1099511627776) 3);clear H2 c0 c1 c2 c3 m0 f0 d0 d1 d2 d3 an;generalize w2.alloc (.cells (fL 1099511627776) 3)=w3 at *
  generalize w2.heap.size=g8 at *
  obtain⟨c0,c1,c2,c3,-⟩:=bq H3.o.drop;obtain⟨m0,f0,d0,d1,d2,d3⟩:=oo H3.o.drop.drop.drop;have KD:=au (Ka (w:=w3) (W:=W) (x:=x) (s:=s));unfold bI cK at KD;rename_i Kj am;refine wp_seq_k ?_;intro Kc ao;have cut:∀ (w:World) (g18 g19 g20 g21:Value),aI F0 w0 (aj (av g8 (fL (jS W s 0)) 3) (aj (av gs (cK s) 171) (aj (jw b L) (aj (BH W x b bm bw bf) X)))) w->Kj { tmps:=#[.agg (fx s.i s.j (bs s.a) s.r),.pointer (some ⟨bm,0,none⟩),.pointer (some ⟨bw,0,none⟩),.pointer (some ⟨bf,0,none⟩),.pointer (some ⟨gs,0,none⟩),.int .i64 0,.int .i64 0,.bool false,.pointer (some ⟨g8,0,none⟩),undef,undef,.tuple (o5 0 false),.map (some b),.agg (fx s.i s.j (bs s.a) s.r),.tuple (o5 0 false),.int .i64 0,.bool false,.bool false,g18,g19,g20,g21,undef,undef,undef,undef,undef,undef,undef,undef,undef,undef,undef,undef,undef,undef,undef,undef,undef],defers:=[] } w:=by
   intro w g18 g19 g20 g21 hR;have HR:=au hR;refine am _ _ ?_;clear am ao Kc Kj hR H3 KD c0 c1 c2 c3 m0 f0 d0 d1 d2 d3;obtain⟨c0,c1,c2,c3,-⟩:=bq (HR.o.drop:aI F0 w0 (aj (av gs (fx s.i s.j (bs s.a) s.r) 171) _) w);obtain⟨m0,f0,d0,d1,d2,d3⟩:=oo HR.o.drop.drop.drop;have KM:=au (CX (W:=W) (x:=x) (s:=s) w);unfold bI cK at KM;go_wp2_with fail;refine KM.o.mono ?_;rintro e9 w9 ⟨b1,b2,rfl,hp⟩;have S1:=au (HR.o.fresh aO hp);clear HR KM hp c0 c1 c2 c3 m0 f0 d0 d1 d2 d3;go_wp2_with fail;have a7:=au (AA (W:=W) (s:=s) (x:=x) (b1:=b1) (b2:=b2) HS.o HW.o (kh HA.o eL));have bh:∀ i,(lQ fun L':List (St × Int)=>sM (TL W s L i L') (aj (av g8 (fL (jS W s i)) 3) (aj (av gs (cK s) 171) (aj (jw b L') (aj (BH W x b bm bw bf) X))))).Ok:=fun i=>bX fun L'=>gG (aB aC (aB aC (aB iW (aB wD HX.o))));have aD:∀ (i:Nat) (a':Act),(lQ fun L':List (St × Int)=>lQ fun g9:Nat=>lQ fun g10:Nat=>lQ fun y:RA × St=>sM (TL W s L i L'/\(dH W x s)[i]?=some y/\a'={ tmps:=#[.agg (fx s.i s.j (bs s.a) s.r),.pointer (some ⟨bm,0,none⟩),.pointer (some ⟨bw,0,none⟩),.pointer (some ⟨bf,0,none⟩),.pointer (some ⟨gs,0,none⟩),.int .i64 0,.int .i64 0,.bool false,.pointer (some ⟨g8,0,none⟩),.pointer (some ⟨g9,0,none⟩),.pointer (some ⟨g10,0,none⟩),.tuple (o5 0 false),.map (some b),.agg (fx s.i s.j (bs s.a) s.r),.tuple (o5 0 false),.int .i64 0,.bool false,.bool false,g18,g19,g20,g21,.agg (ln x.a.L W.l.length x.a.lc x.a.R x.a.q.length x.a.rc x.b.L W.m.length x.b.lc x.b.R x.b.q.length x.b.rc),.agg (fx s.i s.j (bs s.a) s.r),AK b1 b2,.agg (dX y.1).toArray,.agg (cK y.2),undef,undef,undef,undef,undef,undef,undef,undef,undef,undef,undef,undef],defers:=[] }) (aj (av g10 (cK y.2) 171) (aj (av g9 (dX y.1).toArray 177) (aj (av g8 (fL (jS W s i)) 3) (aj (av gs (cK s) 171) (aj (jw b L') (aj (BH W x b bm bw bf) X))))))).Ok:=fun i a'=>bX fun L'=>bX fun g9=>bX fun g10=>bX fun y=>gG (aB aC (aB aC (aB aC (aB aC (aB iW (aB wD HX.o))))));have bb:aI F0 w0 (aj (Zw W x s b1 b2) (lQ fun L':List (St × Int)=>sM (TL W s L 0 L') (aj (av g8 (fL (jS W s 0)) 3) (aj (av gs (cK s) 171) (aj (jw b L') (aj (BH W x b bm bw bf) X)))))) w9:=(aI.nT L (aI.iQ (JN HK.o) S1.o.swap)).swap;refine oQ (gf:=90) (lb:=(sS (some ⟨b1,0,none⟩) (some ⟨b2,0,none⟩))) rfl (enters_of Tryz.func90 eQ rfl) a7.o nQ (fun _=>rfl) HE.o _ (fun _=>vy) bh _ aD (fun _=>Fu) bb ?_ ?_ ?_ ?_
   ·intro lo m i hi R W1 K hR hI hK;obtain⟨L',h1⟩:=hI.ex;obtain⟨M,h2⟩:=h1.pure;have aw:(aj (aj (av g8 (fL (jS W s i)) 3) (aj (av gs (cK s) 171) (aj (jw b L') (aj (BH W x b bm bw bf) X)))) R).Ok:=aB (aB aC (aB aC (aB iW (aB wD HX.o)))) hR;have h3:=aH h2 aw (dX (dH W x s)[i].1).toArray 177;have h4:=aH h3 (aB aC aw) (cK (dH W x s)[i].2) 171;rw[im] at h4;have HF:=au (hK { tmps:=#[.agg (fx s.i s.j (bs s.a) s.r),.pointer (some ⟨bm,0,none⟩),.pointer (some ⟨bw,0,none⟩),.pointer (some ⟨bf,0,none⟩),.pointer (some ⟨gs,0,none⟩),.int .i64 0,.int .i64 0,.bool false,.pointer (some ⟨g8,0,none⟩),.pointer (some ⟨W1.heap.size,0,none⟩),.pointer (some ⟨W1.heap.size+1,0,none⟩),.tuple (o5 0 false),.map (some b),.agg (fx s.i s.j (bs s.a) s.r),.tuple (o5 0 false),.int .i64 0,.bool false,.bool false,g18,g19,g20,g21,.agg (ln x.a.L W.l.length x.a.lc x.a.R x.a.q.length x.a.rc x.b.L W.m.length x.b.lc x.b.R x.b.q.length x.b.rc),.agg (fx s.i s.j (bs s.a) s.r),AK b1 b2,.agg (dX (dH W x s)[i].1).toArray,.agg (cK (dH W x s)[i].2),undef,undef,undef,undef,undef,undef,undef,undef,undef,undef,undef,undef],defers:=[] } _ (aI.nT L' (aI.nT W1.heap.size (aI.nT (W1.heap.size+1) (aI.nT (dH W x s)[i] (aI.iQ ⟨M,gR hi,rfl⟩ (h4.perm (by ac_rfl))))))));clear hI h1 h2 h3 h4 hK M aw;unfold Np;generalize (dH W x s)[i]=y at *
    obtain⟨⟨⟨yx,yc,yf,yt⟩,yA,yn⟩,⟨xi,xj,xa,xr⟩⟩:=y;unfold cK dX;unfold cK dX at HF;dsimp only at HF;dsimp only;gi_wp2;exact HF.o
   ·intro lo m i hi a' R W1 hR hI;obtain⟨L',h1⟩:=hI.ex;obtain⟨g9,h1⟩:=h1.ex;obtain⟨g10,h1⟩:=h1.ex;obtain⟨y,h1⟩:=h1.ex;obtain⟨⟨M,hx,rfl⟩,h2⟩:=h1.pure;have ax:(dH W x s)[i]=y:=by rw[gR hi] at hx;injection hx
    have ak:i<(W.moves s).length:=by rw[Kl HM.o HS.o];exact hi
    have al:(W.moves s)[i]=(y.1.r.c,y.2):=by rw[Zx HM.o HS.o hi ak,ax]
    have ab:(y.1.r.c,y.2) ∈ W.moves s:=by rw[<-al];exact gv ak
    have af:=fI HS.o ab;have a6:=iD HG.o ab;have ic:=gL HG.o af.1;have aA:=lV af.1;have bo:=JM HG.o HS.o i;have bj:=O8 (W:=W) (s:=s) (i:=i);have ad:(aj (av g10 (cK y.2) 171) (aj (av g9 (dX y.1).toArray 177) (aj (av g8 (fL (jS W s i)) 3) (aj (av gs (cK s) 171) (aj X R))))).Ok:=aB aC (aB aC (aB aC (aB aC (aB HX.o hR))));have h3:=(h2.perm (by ac_rfl):aI F0 w0 (aj (jw b L') (aj (BH W x b bm bw bf) (aj (av g10 (cK y.2) 171) (aj (av g9 (dX y.1).toArray 177) (aj (av g8 (fL (jS W s i)) 3) (aj (av gs (cK s) 171) (aj X R))))))) W1).drew aO;have KI:=au (IH.o y.2 L' _ W1.drew (by have:=HN.o;have:=af.2;omega) af.1 (vX HT.o HA.o ab) M.kn ad h3);obtain⟨m0,f0,d0,d1,d2,d3⟩:=oo h3.drop;obtain⟨y0,y1,y2,y3,-⟩:=bq (h3.drop.drop:aI F0 w0 (aj (av g10 (fx y.2.i y.2.j (bs y.2.a) y.2.r) 171) _) _);obtain⟨F9,ai⟩:=h3.drop.drop.drop.fst;have e9:W1.drew.cell? ⟨g9,1,none⟩=some (.int .i64 y.1.r.c):=ay (i:=1) ai rfl;obtain⟨F7,I⟩:=h3.drop.drop.drop.drop.fst;have e7:=ay (i:=0) I rfl;have aq:=au (Fg ak);have ap:=au (fun L'' h1 h2 h3=>JO (L'':=L'') ak M h1 (by rw[al];exact h2) (by rw[al];exact h3));rw[al] at aq;unfold PI at KI;have be:=au ad;have bc:=au hR;clear hI h1 h2 h3 M hx al ax ab af I ai ad hR hi ak;obtain⟨⟨⟨yx,yc,yf,yt⟩,yA,yn⟩,⟨xi,xj,xa,xr⟩⟩:=y;simp only[dX] at KI be aq ap a6 ic aA e9 y0 y1 y2 y3;generalize W.fi ⟨xi,xj,xa,xr⟩=dd at *
    generalize jS W s i=mm at *
    unfold sF cK at KI;unfold cK dX;simp only at *
    unfold Zv at f0;refine wpIn_block ?_;refine mP [5,8] [1,1,1,0,0,1,1,1,2] (fun w'=>w'=W1.drew) [fun w'=>w'.cell? ⟨g8,0,none⟩=some (.int .i64 mm)/\w'.cell? ⟨g9,1,none⟩=some (.int .i64 yc)] ⟨fun w h=>by rw[h];exact⟨e7,e9⟩,trivial⟩ rfl (fun⟨a,w,h⟩=>h) rfl eQ eQ eQ rfl ?_;generalize W1.drew=W2 at *
    (repeat(first|refine eH ?_|refine eO ?_))
    refine bB rfl fY (fun K hK=>?_);go_wp2_with fail;refine KI.o.mono ?_;rintro bi w9 ⟨L'',rfl,k1,k2,k3,hR9⟩;have aa:=(hR9.perm (by unfold cK;ac_rfl):aI F0 w0 (aj (av g8 (fL mm) 3) (aj (aj (av gs (cK s) 171) (aj (jw b L'') (aj (BH W x b bm bw bf) X))) (aj (av g10 (fx xi xj (bs xa) xr) 171) (aj (av g9 (kl (yx:Nat) yc yA yf.length yn (bs yt)) 177) R)))) w9);have az:(aj (aj (av gs (cK s) 171) (aj (jw b L'') (aj (BH W x b bm bw bf) X))) (aj (av g10 (fx xi xj (bs xa) xr) 171) (aj (av g9 (kl (yx:Nat) yc yA yf.length yn (bs yt)) 177) R))).Ok:=aB (aB aC (aB iW (aB wD HX.o))) (aB aC (aB aC bc.o));obtain⟨F7,I⟩:=aa.fst;have q7:=ay (i:=0) I rfl;have p7:=aM I 0;obtain⟨F9,ai⟩:=(aa.drop.drop.drop).fst;have q9:w9.cell? ⟨g9,1,none⟩=some (.int .i64 yc):=ay (i:=1) ai rfl;have H9:=au (aJ aa az 0 (.int .i64 (min mm (yc+dd))));have a4:=au (ap.o L'' k1 k2 k3);refine hK.o _ _ ⟨q7,q9⟩ ?_;clear hK KI I ai hR9 aa k1 k2 k3 ap az y0 y1 y2 y3 e7 e9 d0 d1 d2 d3 m0 f0
    (repeat(first|refine eH ?_|refine eO ?_))
    refine bB rfl fY (fun K hK=>?_);go_wp2;have a8:wrap64 (yc+dd)=yc+dd:=by
     unfold never at aA;exact rL (yc+dd) eL
    rw[a8];refine hK.o _ _ trivial (iT ?_);have J:aI F0 w0 (aj (lQ fun L':List (St × Int)=>sM (TL W s L (i+1) L') (aj (av g8 (fL (jS W s (i+1))) 3) (aj (av gs (cK s) 171) (aj (jw b L') (aj (BH W x b bm bw bf) X))))) R) (w9.setCell ⟨g8,0,none⟩ (.int .i64 (min mm (yc+dd)))):=by
     refine aI.nT L'' (aI.iQ a4.o ?_);rw[aq.o];exact(H9.o.perm (by ac_rfl):aI F0 w0 (aj (av g9 (kl (yx:Nat) yc yA yf.length yn (bs yt)) 177) (aj (av g10 (fx xi xj (bs xa) xr) 171) (aj (aj (av g8 (fL (min mm (yc+dd))) 3) (aj (av gs (cK s) 171) (aj (jw b L'') (aj (BH W x b bm bw bf) X)))) R))) _).drop.drop
    exact J
   ·intro D R W1 hR hI;obtain⟨L',h1⟩:=hI.ex;obtain⟨M,h2⟩:=h1.pure;rw[<-Kl HM.o HS.o] at M h2;obtain⟨k1,k2,k3,k4⟩:=O9 M HS.o a5.o;rw[JL HS.o] at h2;have ad:(aj (aW D (.deferred (some []))) (aj (av g8 (fL (W.fi s)) 3) (aj (av gs (cK s) 171) (aj (BH W x b bm bw bf) (aj X R))))).Ok:=aB bg (aB aC (aB aC (aB wD (aB HX.o hR))));have h3:=(h2.perm (by ac_rfl):aI F0 w0 (aj (jw b L') (aj (aW D (.deferred (some []))) (aj (av g8 (fL (W.fi s)) 3) (aj (av gs (cK s) 171) (aj (BH W x b bm bw bf) (aj X R)))))) W1);obtain⟨c0,c1,c2,c3,-⟩:=bq (h3.drop.drop.drop:aI F0 w0 (aj (av gs (fx s.i s.j (bs s.a) s.r) 171) _) W1);obtain⟨m0,f0,d0,d1,d2,d3⟩:=oo h3.drop.drop.drop.drop;obtain⟨F7,I⟩:=h3.drop.drop.fst;have e7:=ay (i:=0) I rfl;obtain⟨FM,a0,-,bk⟩:=h3.take iW ad;obtain⟨w',a9,ag⟩:=qR zN Tryz.underlying168 a0 s (.int .i64 (W.fi s));have h4:=bk _ _ ag;have bG:mh (L'.map fun p=>(p.1,Value.int .i64 p.2)) s (.int .i64 (W.fi s))=(L'++[(s,W.fi s)]).map fun p=>(p.1,Value.int .i64 p.2):=by
     rw[qU (by rw[qq];exact k4),km];rfl
    rw[bG] at h4;have H4:=au (show aI F0 w0 (aj (jw b (L'++[(s,W.fi s)])) _) w' from h4);obtain⟨F8,aE⟩:=h4.drop.drop.fst;have e8:=ay (i:=0) aE rfl;obtain⟨FD,hD,-,a1⟩:=(H4.o.kN).take bg (aB iW (aB aC (aB aC (aB wD (aB HX.o hR)))));have HD:=au hD.1;have h5:=(a1 _ _ (fH hD (.deferred none))).perm (by ac_rfl:_=aj (aj (aW D (.deferred none)) (aj (av g8 (fL (W.fi s)) 3) (aj (av gs (cK s) 171) R))) (aj (jw b (L'++[(s,W.fi s)])) (aj (BH W x b bm bw bf) X)));have HF:=au (show PI W x s L F0 w0 b bm bw bf X (.returned (.int .i64 (W.fi s))) (w'.putObj D (.deferred none)) from⟨_,rfl,k1,k2,k3,h5.drop⟩);unfold sF cK at a9;clear hI h1 h2 h3 h4 h5 M k1 k2 k3 k4 ad I aE a0 bk ag bG H4 hD a1 hR;go_wp2_with fail;refine⟨by simp,.inl ⟨_,_,rfl,run_takeDeferred HD.o,?_⟩⟩;refine⟨_,results_tmp rfl _ _ _,?_⟩;exact HF.o
   ·intro D c R W1 hR hI;exact hI.no.elim
  have HC:=au cut;clear cut;have bn:=au am;have a3:=au ao;clear am ao;go_wp2_with fail;refine KD.o.mono ?_;rintro e9 w5 ⟨rfl,hb⟩;have H5:=au (H3.o.below aO hb);clear H3 hb KD c0 c1 c2 c3 m0 f0 d0 d1 d2 d3;rw[Kk HS.o];dsimp only
  iterate 2 (first|go_values|go_guarded|go_step)
  refine a3.o _ _ ?_;by_cases J:s=W.fin
  ·rw[decide_eq_true J];have ar:=au (show jS W s 0=0 from by rw[uR,if_pos J]);clear J;obtain⟨F7,I⟩:=H5.o.fst;have e7:=ay (i:=0) I rfl;have f7:=aM I 0;clear I F7;go_wp2;refine HC.o _ _ _ _ _ ?_;rw[ar.o];exact aJ H5.o aO 0 (.int .i64 0)
  ·rw[decide_eq_false J];have ar:=au (show jS W s 0=1099511627776 from by rw[uR,if_neg J];rfl);clear J;go_wp2;refine HC.o _ _ _ _ _ ?_;rw[ar.o];exact H5.o
theorem Ij {P:Program}  {a:Addr} {m:Mode} (fn:Fn) (first captured:Array Value):(store a (.func fn first captured) m).run P w=stored P w a (.func fn first captured) m:=run_store P w a _ m rfl
attribute [local go_sem] Ij
def Km (W:Wd) (w:World) (e:Ending) (w':World):Prop:=∃ b L,e=.returned (.map (some b))/\Kn W L/\gC ∈ gy L/\bT w eR (jw b L) w'
theorem Sb {W:Wd} {x:WA}  (hP:Yq W x w) (hS:Yr W x) (hg:W.good) (ht:W.pJ) (hm:Ns W x):Calls Tryz.prog 66 #[.agg (bI W x)] w (Km W w):=by
 have r1:=aH (aI.begin w) aN (bI W x) 165;have r2:aI eR w (aj (jw (w.heap.size+1) []) (aj (av w.heap.size (bI W x) 165) bG)) ((w.alloc (.cells (bI W x) 165)).alloc (.map #[] 0)):=by
  have:=r1.fresh aO (rR (kv:=sF) (w.alloc (.cells (bI W x) 165)));rw[im] at this;exact this
 have r3:=aH r2 aO #[.map (some (w.heap.size+1))] 168;have r4:=aH r3 aO #[Value.nilFunc] 212;have e2:((w.alloc (.cells (bI W x) 165)).alloc (.map #[] 0)).heap.size=w.heap.size+1+1:=by rw[im,im]
 rw[im,e2] at r4;have R4:=au r4;have KW:=au (fun w9 I=>Z2 (W:=W) (x:=x) (b:=w.heap.size+1) (bm:=w.heap.size+1+1) (bw:=w.heap.size) (bf:=w.heap.size+1+1+1) (F0:=fun _=>False) (w0:=w) (fun W' hm=>hP.below (hm.below (fun _ _ h=>h))) hS hg ht hm (W.il gC+1) gC [] bG w9 (IT _) oA (fw _) Uw aN I);have ab:∀ w:World,(Instr.makeMap 168 none).run Tryz.prog w=.ok (.map (some w.heap.size)) (w.alloc (.map #[] 0)):=fun w=>by kernel_rfl
 clear r1 r2 r3 r4 e2 hP hS hg ht hm;unfold bI at R4 ⊢;unfold sF gC cK at KW;dsimp only at KW
 go_enter Tryz.func66,Tryz.ntmps66
 go_upto_region 3 with (fail);generalize (((w.alloc (.cells (ln x.a.L W.l.length x.a.lc x.a.R x.a.q.length x.a.rc x.b.L W.m.length x.b.lc x.b.R x.b.q.length x.b.rc) 165)).alloc (.map #[] 0)).alloc (.cells #[.map (some (w.heap.size+1))] 168)).alloc (.cells #[Value.nilFunc] 212)=w4 at *
 generalize w.heap.size+1+1+1=bf at *
 generalize w.heap.size+1+1=bm at *
 generalize w.heap.size+1=b at *
 generalize w.heap.size=bw at *
 obtain⟨F,J⟩:=R4.o.fst;have e4:=ay (i:=0) J rfl;have f4:=aM J 0;clear J F;go_upto_region 4 with (fail);have R5:=au (show aI eR w (aj (av bf #[Zv bm bw bf] 212) _) (w4.setCell ⟨bf,0,none⟩ (.func (.func 89) #[] (vu (some ⟨bm,0,none⟩) (some ⟨bw,0,none⟩) (some ⟨bf,0,none⟩)))) from aJ R4.o aO 0 (Zv bm bw bf));clear R4 e4 f4;generalize w4.setCell ⟨bf,0,none⟩ (.func (.func 89) #[] (vu (some ⟨bm,0,none⟩) (some ⟨bw,0,none⟩) (some ⟨bf,0,none⟩)))=w5 at *
 obtain⟨F,J⟩:=R5.o.fst;have e5:=ay (i:=0) J rfl;unfold Zv at e5;clear J F;have KF:=au (KW.o w5 (R5.o.perm (by unfold BH bI;ac_rfl:_=aj (jw b []) (aj (BH W x b bm bw bf) bG))));clear KW R5;go_wp2_with fail;refine KF.o.mono ?_;rintro e9 w9 ⟨L,rfl,hkn,hext,hmem,I⟩;have R6:=au I;have aa:=au hkn;have M:=au hmem;obtain⟨m0,-⟩:=oo I.drop;have HF:=au (show Km W w (.returned (.map (some b))) w9 from⟨b,L,rfl,hkn,hmem,(I.swap.drop).post iW⟩);clear R6 aa M hkn hext hmem I KF;go_wp2;go_ret;exact HF.o
def bE (A:eV) (c:Nat) (l:List Int):CH.aT:=aV 3 1 (.slice A l.length c) l.length (l.map (Value.int .i64))
variable {g15 M J g10 aa:Nat}{l:List Int}{w1:World}{K:Act->World->Prop}{Ds:List Nat}{f:Bs}{z y:RA × St}
theorem fq   :(bE A c l).Ok:=dK
instance {A:eV} {c:Nat} {l:List Int}:(bE A c l).Ok:=fq
theorem uf (w:World):bE none 0 [] w eR:=fT w 3 1
theorem Vm:eB Tryz.prog 39 3 (.int .i64 0) 1 8:=⟨Tryz.underlying39,by kernel_rfl,by decide,by decide⟩
theorem Vn    {x:Int}:aV 3 1 (.slice A (l.length+1) c) (l.length+1) (l.map (Value.int .i64)++[Value.int .i64 x])=bE A c (l++[x]):=by
 unfold bE;rw[km,gd,pC,lk,pH]
theorem Nt  {W:World} {Y:CH.aT} {o:Oper}    (s x:Operand)
  (ho:o.op=.call { callee:=.builtin .append,args:=#[s,x],argTypes:=#[39,39] })    (p:Int) (hl:l.length=n) (hsv:a.eval s=.slice A n c) (hx:a.eval x=.slice (some ⟨g,0,none⟩) 1 1) (hn:n<=1000000) (hY:Y.Ok)
  (h:aI F0 w0 (aj (bE A c l) Y) W) (hg:W.cell? ⟨g,0,none⟩=some (.int .i64 p))
  (hK:∀ A' c' w',aI F0 w0 (aj (bE A' c' (l++[p])) Y) w'->K (a.put o.dst (.slice A' (n+1) c')) w'):o.wp Tryz.prog a W K Q:=by
 subst hl;obtain⟨F7,I,-,ac⟩:=h.take fq hY;have M:Src W (some ⟨g,0,none⟩) 1 1 [Value.int .i64 p]:=by
  refine⟨rfl,fun u hu=>by rw[List.mem_singleton.1 hu];rfl,fun _=>⟨_,rfl,fun j u hu=>?_⟩⟩;cases j with
  | zero=>
   have e:u=.int .i64 p:=by simpa using hu.symm
   rw[e];exact hg
  | succ j=>simp at hu
 refine wY s x ho Vm _ 0 (v:=.slice A l.length c) (n:=l.length) (xs:=l.map (Value.int .i64)) hsv I.1 (A:=some ⟨g,0,none⟩) (m:=1) (c:=1) (news:=[Value.int .i64 p]) hx M (by unfold maxLen;omega) eL (fw _) ?_;intro v8 w8 J aa ab;have S8:=ac _ _ (je I J aa ab);obtain⟨A8,c8,rfl⟩:=ig J;rw[Vn] at S8;exact hK A8 c8 w8 S8
theorem Z3 (a b:ByteArray):bl (a++b)=bl a++bl b:=by
 obtain⟨a⟩:=a;obtain⟨b⟩:=b
 show(ByteArray.mk a++ByteArray.mk b).data.toList=a.toList++b.toList
 rw[ByteArray.data_append];simp
theorem ach (a b:Bs):bs (a++b)=bs a++bs b:=MV (by rw[Z3,iM,iM,iM])
structure DD where
 A:eV
 ac:Nat
 l:List Int
 B:eV
 bc:Nat
 m:List Int
 f:Bs
def Eu (c:Int) (q:DD):Array Value:=(ki c q.A q.l.length q.ac q.B q.m.length q.bc (bs q.f))
def sJ (W:Wd) (x:WA) (b:Nat) (L:List (St × Int)) (c:Int) (g12 g14 g15 g16:Nat) (s:St) (q:DD) (Ds:List Nat):CH.aT:=
 aj (av g15 (cK s) 171) (aj (av g16 (Eu c q) 60) (aj (bE q.A q.ac q.l) (aj (bE q.B q.bc q.m) (aj (av g14 #[.map (some b)] 168) (aj (av g12 (bI W x) 165) (aj (jw b L) (dJ Ds)))))))
theorem rO  {x:WA}  {L:List (St × Int)} {c:Int} {g12 g14 g16:Nat}  {q:DD} :(sJ W x b L c g12 g14 g15 g16 s q Ds).Ok:=
 aB aC (aB aC (aB fq (aB fq (aB aC (aB aC (aB iW kZ))))))
instance {W:Wd} {x:WA} {b:Nat} {L:List (St × Int)} {c:Int} {g12 g14 g15 g16:Nat} {s:St} {q:DD} {Ds:List Nat}:(sJ W x b L c g12 g14 g15 g16 s q Ds).Ok:=rO
theorem jO  {x:WA}  {L:List (St × Int)} {c:Int} {I:Nat}  {q:DD}    {R:CH.aT} (h:aI F w1 (aj (sJ W x b L c M J g15 I s q Ds) R) w) :
  (nq w g15 (.int .i64 s.i) (.int .i64 s.j) (.string (bs s.a)) (.bool s.r)) /\
  (nq w I (.int .i64 c) (.slice q.A q.l.length q.ac) (.slice q.B q.m.length q.bc) (.string (bs q.f))) /\
  w.cell? ⟨J,0,none⟩=some (.map (some b)) /\
  (nq w M (.slice x.a.L W.l.length x.a.lc) (.slice x.a.R x.a.q.length x.a.rc) (.slice x.b.L W.m.length x.b.lc) (.slice x.b.R x.b.q.length x.b.rc)) /\
  (∃ F',jw b L w F')/\(∀ i,w.frozen? ⟨g15,i,none⟩=false)/\(∀ i,w.frozen? ⟨I,i,none⟩=false):=by
 obtain⟨f1,h1⟩:=(h.perm (by unfold sJ;ac_rfl:_=aj (av g15 (cK s) 171) (aj (aj (av I (Eu c q) 60) (aj (bE q.A q.ac q.l) (aj (bE q.B q.bc q.m) (aj (av J #[.map (some b)] 168) (aj (av M (bI W x) 165) (aj (jw b L) (dJ Ds))))))) R))).fst;obtain⟨f2,h2⟩:=(h.perm (by unfold sJ;ac_rfl:_=aj (av I (Eu c q) 60) (aj (aj (av g15 (cK s) 171) (aj (bE q.A q.ac q.l) (aj (bE q.B q.bc q.m) (aj (av J #[.map (some b)] 168) (aj (av M (bI W x) 165) (aj (jw b L) (dJ Ds))))))) R))).fst;obtain⟨f3,h3⟩:=(h.perm (by unfold sJ;ac_rfl:_=aj (av J #[.map (some b)] 168) (aj (aj (av g15 (cK s) 171) (aj (bE q.A q.ac q.l) (aj (bE q.B q.bc q.m) (aj (av I (Eu c q) 60) (aj (av M (bI W x) 165) (aj (jw b L) (dJ Ds))))))) R))).fst;obtain⟨f4,h4⟩:=(h.perm (by unfold sJ;ac_rfl:_=aj (av M (bI W x) 165) (aj (aj (av g15 (cK s) 171) (aj (bE q.A q.ac q.l) (aj (bE q.B q.bc q.m) (aj (av I (Eu c q) 60) (aj (av J #[.map (some b)] 168) (aj (jw b L) (dJ Ds))))))) R))).fst;obtain⟨f5,h5⟩:=(h.perm (by unfold sJ;ac_rfl:_=aj (jw b L) (aj (aj (av g15 (cK s) 171) (aj (bE q.A q.ac q.l) (aj (bE q.B q.bc q.m) (aj (av I (Eu c q) 60) (aj (av J #[.map (some b)] 168) (aj (av M (bI W x) 165) (dJ Ds))))))) R))).fst;exact⟨⟨ay h1 rfl,ay h1 rfl,ay h1 rfl,ay h1 rfl⟩,⟨ay h2 rfl,ay h2 rfl,ay h2 rfl,ay h2 rfl⟩,ay h3 rfl,⟨ay h4 rfl,ay h4 rfl,ay h4 rfl,ay h4 rfl⟩,⟨f5,h5⟩,fun i=>aM h1 i,fun i=>aM h2 i⟩
def ya (W:Wd) (s:St) (l m:List Int) (f:Bs):Prop:=∃ n,W.il s<=n/\W.gI (W.il gC) gC=(l++(W.gI n s).1,m++(W.gI n s).2.1,f++(W.gI n s).2.2)
theorem Sc :ya W gC [] [] []:=⟨_,fy _,rfl⟩
theorem Zz   {m:List Int}  (h:ya W s l m f) (hf:s=W.fin):W.gI (W.il gC) gC=(l,m,f):=by
 obtain⟨n,-,h⟩:=h;have e:W.gI n s=([],[],[]):=by
  cases n with
  | zero=>rfl
  | succ n=>unfold Wd.gI;rw[if_pos hf]
 rw[e,mS,mS,mS] at h;exact h
theorem Vo  {s':St} {r:AR} {m:List Int}  (h:ya W s l m f) (M:s≠W.fin) (hp:W.pick s=some (r,s')) (hr:W.il s'<W.il s) :
  (s.i<s'.i->ya W s' (l++[(r.ix:Int)]) m (f++r.t))/\(¬ s.i<s'.i->ya W s' l (m++[(r.ix:Int)]) f):=by
 obtain⟨n,h1,h⟩:=h;obtain⟨n,rfl⟩:∃ J,n=J+1:=⟨n-1,by omega⟩;rw[Wd.gI,if_neg M,hp] at h;simp only at h;constructor
 ·intro I;rw[if_pos I] at h;refine⟨n,by omega,?_⟩;rw[h,l3,l3];rfl
 ·intro I;rw[if_neg I] at h;refine⟨n,by omega,?_⟩;rw[h,l3];rfl
theorem ZA  {x:WA}    (hS:Yr W x) (hx:(dH W x s)[i]?=some z) (M:∀ j (h:j<(dH W x s).length),j<i->¬ (dH W x s)[j].1.r.c+W.fi (dH W x s)[j].2=W.fi s) (I:z.1.r.c+W.fi z.2=W.fi s):W.pick s=some (z.1.r,z.2):=by
 unfold Wd.pick;rw[<-Kh hS,List.find?_map];have:(dH W x s).find? ((fun p:AR × St=>decide (p.1.c+W.fi p.2=W.fi s)) ∘ fun p:RA × St=>(p.1.r,p.2))=some z:=by
  rw[MD];obtain⟨hi,J⟩:=List.getElem?_eq_some_iff.1 hx;refine⟨decide_eq_true I,i,hi,J,fun j h=>?_⟩;rw[tc];exact decide_eq_false (M j eL h)
 rw[this];rfl
structure AN (W:Wd) (L:List (St × Int)) (s:St) (q:DD):Prop where
 ok:W.ok s
 a3:s.a.length<=3
 inL:s ∈ gy L
 lt:W.fi s<never
 nl:q.l.length+W.il s<=W.il gC
 nm:q.m.length+W.il s<=W.il gC
 nf:q.f.length+1000000*W.il s<=1000000*W.il gC
 bn:ya W s q.l q.m q.f
def Ko (W:Wd) (s:St) (p:RA × St):Prop:=p.1.r.c+W.fi p.2=W.fi s
def Nu (W:Wd) (x:WA) (s:St) (i:Nat):Prop:=∀ j (hj:j<(dH W x s).length),j<i->¬ Ko W s (dH W x s)[j]
theorem Vp  {x:WA} :Nu W x s 0:=fun j _ h=>absurd h (nB _)
theorem Vq  {x:WA}    (hx:(dH W x s)[i]?=some y) (h:Nu W x s i) (h2:¬ Ko W s y):Nu W x s (i+1):=fun j hj hji=>by
 by_cases e:j=i
 ·subst e;rw[gR hj] at hx;injection hx with hx
  rw[hx];exact h2
 ·exact h j hj eL
theorem ZB  {x:WA}  (hm:Ns W x) (J:W.ok s) (I:W.fi s<never) (M:s≠W.fin):¬ Nu W x s (dH W x s).length:=fun h=>by
 have e:=mO (W:=W) J;rcases fold_eq (fun x:Int × St=>x.1+W.fi x.2) (W.moves s) (if s=W.fin then 0 else never) with h1|⟨p,hp,h1⟩
 ·rw[if_neg M] at h1;rw[e] at I;rw[if_neg M] at I;rw[h1] at I;omega
 ·rw[<-hm s J] at hp;obtain⟨y,hy,rfl⟩:=List.mem_map.1 hp;obtain⟨j,hj,rfl⟩:=List.mem_iff_getElem.1 hy;refine h j hj hj ?_;unfold Ko;rw[e];exact h1.symm
theorem Vs  {x:WA}  (hm:Ns W x) (hs:W.ok s)  (hy:y ∈ dH W x s):(y.1.r.c,y.2) ∈ W.moves s:=by
 rw[<-hm s hs];exact List.mem_map.2 ⟨y,hy,rfl⟩
theorem acj  {L:List (St × Int)} (h:Kn W L)  (hs:s ∈ gy L):(nV (L.map fun p=>(p.1,Value.int .i64 p.2)) s).getD (.int .i64 0)=.int .i64 (W.fi s):=by
 obtain⟨v,hv⟩:=mem_keys.1 hs;rw[Ie h.nd hv,show v=W.fi s from h.val _ hv];rfl
theorem Nv  {L:List (St × Int)} (h:Kn W L)    (hF:jw b L w F)  (hs:s ∈ gy L) :
  (Instr.lookup 168 (.map (some b)) (.agg (fx s.i s.j (bs s.a) s.r)) false).run Tryz.prog w=.ok (.int .i64 (W.fi s)) w:=by
 have:=Ki hF s false;rw[acj h hs] at this;exact this
theorem Sd  {x:WA}   (h:z ∈ dH W x s):z.1 ∈ (x.at (W.left s)).q:=by
 unfold dH at h;obtain⟨y,hy,he⟩:=List.mem_filterMap.1 h;unfold xR at he;obtain⟨p,-,hp⟩:=Option.map_eq_some_iff.1 he;rw[<-hp];exact hy
theorem Yr.aeD  {x:WA} (h:Yr W x)   (hz:z ∈ dH W x s):z.1.r.t.length<=1000000:=((h.at (W.left s)).2.2.2 _ (Sd hz)).2
def QP (F:Nat->Prop) (w1:World) (W:Wd) (x:WA) (b:Nat) (L:List (St × Int)) (c:Int) (g10 I J g15 h:Nat) (a:Act) (wr:World):Prop:=
 ∃ (v:Nat->Value) (Ds:List Nat) (s:St) (q:DD) (R:CH.aT),R.Ok/\(aI F w1 (aj (sJ W x b L c I J g15 h s q Ds) R) wr/\AN W L s q) /\
  a={ tmps:=#[v 0,v 1,v 2,v 3,v 4,v 5,v 6,v 7,v 8,v 9,.pointer (some ⟨g10,0,none⟩),v 11,.pointer (some ⟨I,0,none⟩),v 13,.pointer (some ⟨J,0,none⟩),.pointer (some ⟨g15,0,none⟩),.pointer (some ⟨h,0,none⟩),v 17,v 18,v 19,v 20,v 21,v 22,v 23,v 24,v 25,v 26,v 27,v 28,v 29,v 30,v 31,v 32,v 33,v 34,v 35,v 36,v 37,v 38,v 39,v 40,v 41,v 42,v 43,v 44,v 45,v 46,v 47,v 48,v 49,v 50,v 51,v 52,v 53,v 54,v 55,v 56,v 57,v 58,v 59,v 60,v 61,v 62,v 63,v 64,v 65,v 66,v 67,v 68,v 69,v 70,v 71,v 72,v 73,v 74,v 75,v 76,v 77,v 78,v 79,v 80,v 81,v 82,v 83,v 84,v 85,v 86,v 87,v 88],defers:=Ds.map KY }
theorem ZC  (I:Array Value) (h:I.size=89) (ac:I.getD 10 undef=.pointer (some ⟨g10,0,none⟩)) (ad:I.getD 12 undef=.pointer (some ⟨aa,0,none⟩)) (ab:I.getD 14 undef=.pointer (some ⟨J,0,none⟩)) (af:I.getD 15 undef=.pointer (some ⟨g15,0,none⟩)) (ae:I.getD 16 undef=.pointer (some ⟨M,0,none⟩)) :
  ∃ v:Nat->Value,I=#[v 0,v 1,v 2,v 3,v 4,v 5,v 6,v 7,v 8,v 9,.pointer (some ⟨g10,0,none⟩),v 11,.pointer (some ⟨aa,0,none⟩),v 13,.pointer (some ⟨J,0,none⟩),.pointer (some ⟨g15,0,none⟩),.pointer (some ⟨M,0,none⟩),v 17,v 18,v 19,v 20,v 21,v 22,v 23,v 24,v 25,v 26,v 27,v 28,v 29,v 30,v 31,v 32,v 33,v 34,v 35,v 36,v 37,v 38,v 39,v 40,v 41,v 42,v 43,v 44,v 45,v 46,v 47,v 48,v 49,v 50,v 51,v 52,v 53,v 54,v 55,v 56,v 57,v 58,v 59,v 60,v 61,v 62,v 63,v 64,v 65,v 66,v 67,v 68,v 69,v 70,v 71,v 72,v 73,v 74,v 75,v 76,v 77,v 78,v 79,v 80,v 81,v 82,v 83,v 84,v 85,v 86,v 87,v 88]:=by
 have e:I=#[I.getD 0 undef,I.getD 1 undef,I.getD 2 undef,I.getD 3 undef,I.getD 4 undef,I.getD 5 undef,I.getD 6 undef,I.getD 7 undef,I.getD 8 undef,I.getD 9 undef,I.getD 10 undef,I.getD 11 undef,I.getD 12 undef,I.getD 13 undef,I.getD 14 undef,I.getD 15 undef,I.getD 16 undef,I.getD 17 undef,I.getD 18 undef,I.getD 19 undef,I.getD 20 undef,I.getD 21 undef,I.getD 22 undef,I.getD 23 undef,I.getD 24 undef,I.getD 25 undef,I.getD 26 undef,I.getD 27 undef,I.getD 28 undef,I.getD 29 undef,I.getD 30 undef,I.getD 31 undef,I.getD 32 undef,I.getD 33 undef,I.getD 34 undef,I.getD 35 undef,I.getD 36 undef,I.getD 37 undef,I.getD 38 undef,I.getD 39 undef,I.getD 40 undef,I.getD 41 undef,I.getD 42 undef,I.getD 43 undef,I.getD 44 undef,I.getD 45 undef,I.getD 46 undef,I.getD 47 undef,I.getD 48 undef,I.getD 49 undef,I.getD 50 undef,I.getD 51 undef,I.getD 52 undef,I.getD 53 undef,I.getD 54 undef,I.getD 55 undef,I.getD 56 undef,I.getD 57 undef,I.getD 58 undef,I.getD 59 undef,I.getD 60 undef,I.getD 61 undef,I.getD 62 undef,I.getD 63 undef,I.getD 64 undef,I.getD 65 undef,I.getD 66 undef,I.getD 67 undef,I.getD 68 undef,I.getD 69 undef,I.getD 70 undef,I.getD 71 undef,I.getD 72 undef,I.getD 73 undef,I.getD 74 undef,I.getD 75 undef,I.getD 76 undef,I.getD 77 undef,I.getD 78 undef,I.getD 79 undef,I.getD 80 undef,I.getD 81 undef,I.getD 82 undef,I.getD 83 undef,I.getD 84 undef,I.getD 85 undef,I.getD 86 undef,I.getD 87 undef,I.getD 88 undef]:=VI I 89 h;rw[ac,ad,ab,af,ae] at e;exact⟨fun i=>I.getD i undef,e⟩
theorem QQ  {wr:World}  {x:WA}  {L:List (St × Int)} {c:Int}  {I:Array Value} {df:List Deferred} (Ds:List Nat)  {q:DD} {R:CH.aT} (h:I.size=89) (af:I.getD 10 undef=.pointer (some ⟨g10,0,none⟩)) (ab:I.getD 12 undef=.pointer (some ⟨M,0,none⟩)) (ad:I.getD 14 undef=.pointer (some ⟨J,0,none⟩)) (ac:I.getD 15 undef=.pointer (some ⟨g15,0,none⟩)) (ae:I.getD 16 undef=.pointer (some ⟨aa,0,none⟩)) (hd:df=Ds.map KY)
  (hR:R.Ok) (h1:aI F w1 (aj (sJ W x b L c M J g15 aa s q Ds) R) wr) (hp:AN W L s q):QP F w1 W x b L c g10 M J g15 aa { tmps:=I,defers:=df } wr:=by
 obtain⟨v,hv⟩:=ZC I h af ab ad ac ae;subst hd;exact⟨v,Ds,s,q,R,hR,⟨h1,hp⟩,by rw[hv]⟩
def Nw (W:Wd) (g15:Nat) (w:World):Nat:=match w.cell? ⟨g15,0,none⟩,w.cell? ⟨g15,1,none⟩ with
 | some (.int _ i),some (.int _ j)=>(W.l.length-i.toNat)+(W.m.length-j.toNat)
 | _,_=>0
theorem PK       (h:aI F w1 (aj (av g15 (cK s) 171) X) w):Nw W g15 w=W.il s:=by
 obtain⟨c0,c1,-⟩:=bq (h:aI F w1 (aj (av g15 (fx s.i s.j (bs s.a) s.r) 171) X) w);unfold Nw;rw[c0,c1];rfl
def iF (w:World) (A:eV) (l:List Int):Prop:=Src w A l.length 1 (l.map (Value.int .i64))
theorem iF.below    (h:iF w A l) (hb:Below w.heap.size w w'):iF w' A l:=aY h hb
theorem Kt (l:List Int):∀ u ∈ l.map (Value.int .i64),u.oneCell'=true:=fun u hu=>by obtain⟨x,-,rfl⟩:=List.mem_map.1 hu;rfl
theorem zO  (J:Below w.heap.size w w'):bT w eR (aj (bE none 0 []) (bE none 0 [])) w':=by
 have I:=((aI.begin w).below aN J).fresh aN (⟨fun _=>False,uf _,Mod.refl _ _,fun i hi=>.inl hi⟩:bT _ eR (bE none 0 []) _);have h:=I.fresh aO (⟨fun _=>False,uf _,Mod.refl _ _,fun i hi=>.inl hi⟩:bT _ eR (bE none 0 []) _);exact((h.perm (by ac_rfl:_=aj bG (aj (bE none 0 []) (bE none 0 [])))).drop).post aO
theorem PN      (h:bE A c l w F):iF w A l:=iG h (Kt l)
def pK (w:World) (T:eW) (k:Int) (x:Bs) (k2:Int) (y:Bs) (e:Ending) (w':World):Prop:=
 ∃ (d:Dv) (er:Int) (A:eV) (c:Nat) (B:eV) (c2:Nat),e=.returned (.tuple #[.agg (ki d.c A d.L.length c B d.M.length c2 (bs d.F)),.int .i64 er])/\Ar T k x k2 y d er/\bT w eR (aj (bE A c d.L) (bE B c2 d.M)) w'
variable {v:Value}
theorem ug      {a0 M J a3:Value} (h:aI F0 w0 (aj (av g #[a0,M,J,a3] t) X) w) (I:X.Ok) (b0 b1 b2 b3:Value) :
  aI F0 w0 (aj (av g #[b0,b1,b2,b3] t) X) ((((w.setCell ⟨g,0,none⟩ b0).setCell ⟨g,1,none⟩ b1).setCell ⟨g,2,none⟩ b2).setCell ⟨g,3,none⟩ b3):=by
 have h0:aI F0 w0 (aj (av g #[b0,M,J,a3] t) X) _:=aJ h I 0 b0;have h1:aI F0 w0 (aj (av g #[b0,b1,J,a3] t) X) _:=aJ h0 I 1 b1;have h2:aI F0 w0 (aj (av g #[b0,b1,b2,a3] t) X) _:=aJ h1 I 2 b2;exact aJ h2 I 3 b3
theorem Vt {tmps:Array Value}   {cs:Array Value}  (h:tmps.getD 10 undef=.pointer (some ⟨g,0,none⟩)) (J:cs.size=4) (I:av g cs 60 w F)  (M:tmps.getD 11 undef=v):(results Tryz.f42 tmps).run Tryz.prog w=.ok (.tuple #[.agg cs,v]) w:=by
 subst M;exact dz rfl tmps w g 60 cs (0,0) h I.1 Tryz.underlying60 (by rw[J];kernel_rfl)
theorem uh   {a:TA} (hT:kr w T a) (hz:LZ w) (k:Int) (x:Bs) (k2:Int) (y:Bs) (hx:x.length<=1000000) (hy:y.length<=1000000) :
  Calls Tryz.prog 42 #[dV T a,.int .i64 k,.string (bs x),.int .i64 k2,.string (bs y)] w (pK w T k x k2 y):=by
 have h1:=aH (aI.begin w) aN (dR T a) 25;have h2:=aH h1 aO (ki 0 none 0 0 none 0 0 ⟨#[]⟩) 60;rw[im] at h2;have H2:=au h2;have ar:=au (show Below w.heap.size w _ from h2.mod.below (fun _ _ h=>h));have KO:=au (Vf (hT.below ar.o) (hz.below ar.o) k x k2 y hx hy);clear hT hz h1 h2;unfold dV at KO ⊢;unfold dR at KO H2 ar ⊢;refine(callsIn_wide (n:=8)).1 ?_;refine callsIn_of_wp_marks Tryz.func42 rfl trivial ?_ rfl;simp only[Tryz.ntmps42,pT,j7,lA,Nat.reduceAdd,Nat.reduceSub,qu,qS,re,qT,l4,pd];refine(wpIn_wide (n:=8)).2 ?_;go_wp2_with fail;refine KO.o.mono ?_;rintro e9 w1 ⟨wa,rfl,hb,hok⟩;have H3:=au (H2.o.below aO hb);have ag:=au (ar.o.trans (hb.mono ar.o.size));have a1:=au hok;clear KO hb hok H2 ar;obtain⟨W,hW⟩:∃ W,W=Pj T k x k2 y:=⟨_,rfl⟩;rw[<-hW] at a1 ⊢;have HW:=au hW;clear hW;unfold bI;generalize b8:okW T k x k2 y=ob at a1 ⊢;have ao:=au b8;clear b8;go_upto_region 2 with (fail);have H4:=au (aH H3.o aO (bI W wa) 165);unfold bI at H4;have bo:=au (aH (aI.begin w1) aN (ln wa.a.L W.l.length wa.a.lc wa.a.R wa.a.q.length wa.a.rc wa.b.L W.m.length wa.b.lc wa.b.R wa.b.q.length wa.b.rc) 165);have bk:=au (show Below w1.heap.size w1 (w1.alloc (.cells (ln wa.a.L W.l.length wa.a.lc wa.a.R wa.a.q.length wa.a.rc wa.b.L W.m.length wa.b.lc wa.b.R wa.b.q.length wa.b.rc) 165)) from(fe _ _).alloc (fy _) _);generalize cv:w1.alloc (.cells (ln wa.a.L W.l.length wa.a.lc wa.a.R wa.a.q.length wa.a.rc wa.b.L W.m.length wa.b.lc wa.b.R wa.b.q.length wa.b.rc) 165)=w3 at *
 clear cv;generalize w1.heap.size=M at H4 bo ⊢;generalize w.heap.size+1=g10 at *
 generalize w.heap.size=g5 at H4 H3 ⊢;cases ob with
 | false=>
  have H5:=au (H4.o.drop.perm (by ac_rfl):aI _ _ (aj (av g10 (ki 0 none 0 0 none 0 0 ⟨#[]⟩) 60) (aj (av g5 (iu T a) 25) bG)) w3);have ct:=au (ag.o.trans (bk.o.mono ag.o.size));obtain⟨F,hF⟩:=H5.o.fst;have e0:=ay (i:=0) hF rfl;have e1:=ay (i:=1) hF rfl;have e2:=ay (i:=2) hF rfl;have e3:=ay (i:=3) hF rfl;have ef:=aM hF;clear hF F;have H6:=au (ug H5.o aO (.int .i64 0) (.slice none 0 0) (.slice none 0 0) (.string ⟨#[]⟩));have HF:=au (fun W' (hb:Below w.heap.size w W')=>(show pK w T k x k2 y (.returned (.tuple #[.agg (ki 0 none 0 0 none 0 0 ⟨#[]⟩),.int .i64 1])) W' from⟨⟨0,[],[],[]⟩,1,none,0,none,0,rfl,.arg ao.o,zO hb⟩));clear H5 H4 a1 ag bk ct;go_wp2;obtain⟨F,hF⟩:=H6.o.fst;refine⟨_,Vt rfl rfl hF rfl,?_⟩;exact HF.o _ (H6.o.mod.below (fun _ _ h=>h))
 | true=>
  obtain⟨hP,hS⟩:=a1.o rfl;have HS:=au hS;have ax:=au (show W=bO T k x k2 y from HW.o.trans (Na ao.o))
  have bw:=au (show Ns W wa from fun s hs=>by
   have e1:=Kh hS (s:=s);have e2:(W.tL s).map (fun p=>(p.1.c,p.2))=W.moves s:=by
    have cj:=hs;rw[ax.o] at cj ⊢;exact zF (fP.1 ao.o).2.2 cj
   rw[<-e2,<-e1,qq];rfl)
  have HG:=au (show W.good/\W.pJ by rw[ax.o];exact rF (fP.1 ao.o).2.2);have HE:=au (show ∀ W',Mod eR w1 W'->Yq W wa W' from fun W' hm=>hP.below (hm.below (fun _ _ h=>h)));have R1:=au (show aI eR w1 (aj (av M (ln wa.a.L W.l.length wa.a.lc wa.a.R wa.a.q.length wa.a.rc wa.b.L W.m.length wa.b.lc wa.b.R wa.b.q.length wa.b.rc) 165) bG) w3 from bo.o);have KC:=au (Sb (W:=W) (x:=wa) (w:=w3) (HE.o _ R1.o.mod) hS HG.o.1 HG.o.2 bw.o);unfold bI at KC;obtain⟨F,hF⟩:=R1.o.fst;have d0:=ay (i:=0) hF rfl;have d1:=ay (i:=1) hF rfl;have d2:=ay (i:=2) hF rfl;have d3:=ay (i:=3) hF rfl;clear hF F hP hS a1 H4 bk bo;go_wp2_with fail;refine KC.o.mono ?_;rintro e9 w4 ⟨b,L,rfl,hkn,hst0,hp⟩;have a6:=au hkn;have bj:=au hst0;have r2:=R1.o.fresh aO hp;have R3:=au (aH r2 aO #[.map (some b)] 168);have R4:=au (aH R3.o aO (fx 0 0 ⟨#[]⟩ false) 171);clear hkn hst0 hp r2 KC R1 d0 d1 d2 d3;go_upto_region 6 with (fail);have cf:(w4.alloc (.cells #[.map (some b)] 168)).heap.size=w4.heap.size+1:=im ..;rw[cf] at R4;clear cf R3;generalize (w4.alloc (.cells #[.map (some b)] 168)).alloc (.cells (fx 0 0 ⟨#[]⟩ false) 171)=w5 at *
  generalize w4.heap.size+1=g15 at *
  generalize w4.heap.size=I at *
  obtain⟨s0,s1,s2,s3,-⟩:=bq R4.o;obtain⟨F,hF⟩:=R4.o.drop.fst;have m0:=ay (i:=0) hF rfl;clear hF F;obtain⟨F,hF⟩:=R4.o.drop.drop.fst;have ch:(Instr.lookup 168 (.map (some b)) (.agg (fx 0 0 ⟨#[]⟩ false)) false).run Tryz.prog w5=.ok (.int .i64 (W.fi gC)) w5:=Nv a6.o hF bj.o;clear hF F;have ic:=gL HG.o.1 (oA (W:=W));have ai:=lV (oA (W:=W));obtain⟨dd,bm⟩:∃ d,d=W.fi gC:=⟨_,rfl⟩;rw[<-bm] at ch ic ai;have a0:=au bm;have cG:=au ic;have b6:=au ai;clear bm;unfold never at ai;by_cases hn:dd=1099511627776
  ·have t1:decide (1099511627776<=dd)=true:=decide_eq_true eL;have H5:=au (H3.o.below aO (R4.o.mod.below (fun _ _ h=>h)));obtain⟨F,hF⟩:=H5.o.fst;have e0:=ay (i:=0) hF rfl;have e1:=ay (i:=1) hF rfl;have e2:=ay (i:=2) hF rfl;have e3:=ay (i:=3) hF rfl;have ef:=aM hF;clear hF F;have H6:=au (ug H5.o aO (.int .i64 0) (.slice none 0 0) (.slice none 0 0) (.string ⟨#[]⟩));have HF:=au (fun W' (hb:Below w.heap.size w W')=>(show pK w T k x k2 y (.returned (.tuple #[.agg (ki 0 none 0 0 none 0 0 ⟨#[]⟩),.int .i64 11])) W' from⟨⟨0,[],[],[]⟩,11,none,0,none,0,rfl,.none ao.o (by rw[<-ax.o,<-a0.o];exact hn),zO hb⟩));clear H5 H3 R4 HE ag hn cG b6 a0;go_wp2;obtain⟨F,hF⟩:=H6.o.fst;refine⟨_,Vt rfl rfl hF rfl,?_⟩;exact HF.o _ (H6.o.mod.below (fun _ _ h=>h))
  ·have t1:decide (1099511627776<=dd)=false:=decide_eq_false eL;have b3:=au (show dd<never by unfold never;omega);have R6:=au (aH R4.o aO (ki dd none 0 0 none 0 0 ⟨#[]⟩) 60);clear hn;go_wp2_with fail;generalize w5.alloc (.cells (ki dd none 0 0 none 0 0 ⟨#[]⟩) 60)=w6 at *
   generalize w5.heap.size=J at *
   have aA:(aj (av J (ki dd none 0 0 none 0 0 ⟨#[]⟩) 60) (aj (av g15 (fx 0 0 ⟨#[]⟩ false) 171) (aj (av I #[.map (some b)] 168) (aj (jw b L) (aj (av M (ln wa.a.L W.l.length wa.a.lc wa.a.R wa.a.q.length wa.a.rc wa.b.L W.m.length wa.b.lc wa.b.R wa.b.q.length wa.b.rc) 165) bG))))).Ok:=aB aC aO;have r7:=R6.o.fresh aA (⟨fun _=>False,uf _,Mod.refl _ _,fun i hi=>.inl hi⟩:bT _ eR (bE none 0 []) _);have r8:=r7.fresh (aB fq aA) (⟨fun _=>False,uf _,Mod.refl _ _,fun i hi=>.inl hi⟩:bT _ eR (bE none 0 []) _);have R7:=au (show aI eR w1 (aj (sJ W wa b L dd M I g15 J gC ⟨none,0,[],none,0,[],[]⟩ []) bG) w6 from r8.one.perm (by unfold sJ;show _=aj (aj (av g15 (fx 0 0 ⟨#[]⟩ false) 171) (aj (av J (ki dd none 0 0 none 0 0 ⟨#[]⟩) 60) (aj (bE none 0 []) (aj (bE none 0 []) (aj (av I #[.map (some b)] 168) (aj (av M (ln wa.a.L W.l.length wa.a.lc wa.a.R wa.a.q.length wa.a.rc wa.b.L W.m.length wa.b.lc wa.b.R wa.b.q.length wa.b.rc) 165) (aj (jw b L) bG))))))) bG;ac_rfl));have cb:=au (show AN W L gC ⟨none,0,[],none,0,[],[]⟩ from⟨oA,fw _,bj.o,by rw[<-a0.o];exact b3.o,by simp,by simp,by simp,Sc⟩);have a4:=au (show W.il gC<=1000 by rw[ax.o];exact xD ao.o);clear R4 R6 r7 r8 aA s0 s1 s2 s3 m0 ch t1 ic ai bj b6;refine wp_loop (QP eR w1 W wa b L dd g10 M I g15 J) (fun _ w9=>Nw W g15 w9) ?_ ?_
   ·exact QQ [] (R:=bG) rfl rfl rfl rfl rfl rfl rfl aN R7.o cb.o
   clear R7 cb;rintro a9 w7 ⟨v,Ds,s,q,R,hRok,⟨hR,hp⟩,rfl⟩;have HR:=au hR;have HP:=au hp;have ae:=au hRok;clear hR hp hRok;have cc:=au (PK (W:=W) (g15:=g15) (s:=s) HR.o.assoc);obtain⟨⟨s0,s1,s2,s3⟩,-,-,⟨d0,d1,d2,d3⟩,-⟩:=jO HR.o;have KD:=au (Ka (w:=w7) (W:=W) (x:=wa) (s:=s));unfold bI cK at KD;go_wp2_with fail;refine KD.o.mono ?_;rintro e9 w8 ⟨rfl,hb⟩;have H8:=au (HR.o.below (aB rO ae.o) hb);clear KD hb HR s0 s1 s2 s3 d0 d1 d2 d3;rw[Kk HP.o.ok];by_cases af:s=W.fin
   ·rw[decide_eq_true af]
    have cm:=au (show(bO T k x k2 y).Dd=⟨dd,q.l,q.m,q.f⟩ from by
     have e:=Zz HP.o.bn af;unfold Wd.Dd
     rw[<-ax.o,e,a0.o])
    clear af;obtain⟨-,⟨q0,q1,q2,q3⟩,-⟩:=jO H8.o;have h9:=H3.o.fresh aO (H8.o.post (aB rO ae.o));have bu:=h9.perm (by unfold sJ;ac_rfl:_=aj (av g10 (ki 0 none 0 0 none 0 0 ⟨#[]⟩) 60) (aj (dJ Ds) (aj (av g5 (iu T a) 25) (aj bG (aj (av g15 (cK s) 171) (aj (av J (Eu dd q) 60) (aj (bE q.A q.ac q.l) (aj (bE q.B q.bc q.m) (aj (av I #[.map (some b)] 168) (aj (av M (bI W wa) 165) (aj (jw b L) R)))))))))));have br:(aj (av g5 (iu T a) 25) (aj bG (aj (av g15 (cK s) 171) (aj (av J (Eu dd q) 60) (aj (bE q.A q.ac q.l) (aj (bE q.B q.bc q.m) (aj (av I #[.map (some b)] 168) (aj (av M (bI W wa) 165) (aj (jw b L) R))))))))).Ok:=aB aC (aB aN (aB aC (aB aC (aB fq (aB fq (aB aC (aB aC (aB iW ae.o))))))));obtain⟨F,hF⟩:=bu.fst;have e0:=ay (i:=0) hF rfl;have e1:=ay (i:=1) hF rfl;have e2:=ay (i:=2) hF rfl;have e3:=ay (i:=3) hF rfl;have ef:=aM hF;have cq:=au ((ug bu (aB kZ br) (.int .i64 dd) (.slice q.A q.l.length q.ac) (.slice q.B q.m.length q.bc) (.string (bs q.f))).perm (by ac_rfl:_=aj (dJ Ds) (aj (av g10 (ki dd q.A q.l.length q.ac q.B q.m.length q.bc (bs q.f)) 60) (aj (av g5 (iu T a) 25) (aj bG (aj (av g15 (cK s) 171) (aj (av J (Eu dd q) 60) (aj (bE q.A q.ac q.l) (aj (bE q.B q.bc q.m) (aj (av I #[.map (some b)] 168) (aj (av M (bI W wa) 165) (aj (jw b L) R))))))))))));have HF:=au (fun W' (hpp:bT w eR (aj (bE q.A q.ac q.l) (bE q.B q.bc q.m)) W')=>(show pK w T k x k2 y (.returned (.tuple #[.agg (ki dd q.A q.l.length q.ac q.B q.m.length q.bc (bs q.f)),.int .i64 0])) W' from⟨⟨dd,q.l,q.m,q.f⟩,0,q.A,q.ac,q.B,q.bc,rfl,by rw[<-cm.o];exact .some ao.o (by rw[<-ax.o,<-a0.o];exact b3.o),hpp⟩));have cz:=au br;clear hF F h9 bu br H8 H3 cc HP;dsimp only;go_wp2_with fail;refine lg (aB aC cz.o) (fun W' hr=>?_) Ds _ cq.o;obtain⟨f,hf⟩:=hr.fst;exact⟨_,Vt rfl rfl hf rfl,HF.o _ ((((hr.drop.drop.drop.drop.drop).perm (by ac_rfl:_=aj (aj (av I #[.map (some b)] 168) (aj (av M (bI W wa) 165) (aj (jw b L) R))) (aj (bE q.A q.ac q.l) (bE q.B q.bc q.m)))).drop).post aO)⟩
   ·rw[decide_eq_false af];have cg:=au af;clear af;obtain⟨⟨s0,s1,s2,s3⟩,-,-,⟨d0,d1,d2,d3⟩,-⟩:=jO H8.o;have KM:=au (fun w=>CX (W:=W) (x:=wa) (s:=s) w);unfold bI cK at KM;dsimp only;go_wp2_with fail;refine(KM.o _).mono ?_;rintro e9 w9 ⟨b1,b2,rfl,hp⟩;have S1:=au (H8.o.fresh (aB rO ae.o) hp);clear KM hp H8 s0 s1 s2 s3 d0 d1 d2 d3;dsimp only;go_wp2_with fail;have cx:=au (AA (W:=W) (s:=s) (x:=wa) (b1:=b1) (b2:=b2) HP.o.ok HS.o (kh HP.o.a3 eL));have a5:(aj (sJ W wa b L dd M I g15 J s q Ds) R).Ok:=aB rO ae.o;have b5:=au a5;have cR:∀ i,(sM (Nu W wa s i) (aj (sJ W wa b L dd M I g15 J s q Ds) R)).Ok:=fun i=>gG a5;have cd:∀ (i:Nat) (a':Act),(lQ fun ad:Nat=>lQ fun ab:Nat=>lQ fun z:RA × St=>sM ((dH W wa s)[i]?=some z/\Nu W wa s i/\a'={ tmps:=#[v 0,v 1,v 2,v 3,v 4,v 5,v 6,v 7,v 8,v 9,.pointer (some ⟨g10,0,none⟩),v 11,.pointer (some ⟨M,0,none⟩),v 13,.pointer (some ⟨I,0,none⟩),.pointer (some ⟨g15,0,none⟩),.pointer (some ⟨J,0,none⟩),.pointer (some ⟨ad,0,none⟩),.pointer (some ⟨ab,0,none⟩),v 19,v 20,v 21,v 22,v 23,v 24,v 25,v 26,v 27,v 28,v 29,v 30,v 31,v 32,v 33,v 34,v 35,v 36,v 37,v 38,v 39,v 40,v 41,v 42,.agg (ln wa.a.L W.l.length wa.a.lc wa.a.R wa.a.q.length wa.a.rc wa.b.L W.m.length wa.b.lc wa.b.R wa.b.q.length wa.b.rc),.agg (fx s.i s.j (bs s.a) s.r),.bool false,.bool true,.agg (ln wa.a.L W.l.length wa.a.lc wa.a.R wa.a.q.length wa.a.rc wa.b.L W.m.length wa.b.lc wa.b.R wa.b.q.length wa.b.rc),.agg (fx s.i s.j (bs s.a) s.r),AK b1 b2,.agg (dX z.1).toArray,.agg (cK z.2),v 52,v 53,v 54,v 55,v 56,v 57,v 58,v 59,v 60,v 61,v 62,v 63,v 64,v 65,v 66,v 67,v 68,v 69,v 70,v 71,v 72,v 73,v 74,v 75,v 76,v 77,v 78,v 79,v 80,v 81,v 82,v 83,v 84,v 85,v 86,v 87,v 88],defers:=[] }) (aj (av ab (cK z.2) 171) (aj (av ad (dX z.1).toArray 177) (aj (sJ W wa b L dd M I g15 J s q Ds) R)))).Ok:=fun i a'=>bX fun ad=>bX fun ab=>bX fun z=>gG (aB aC (aB aC a5));have cJ:∀ c:Code,(lQ fun s':St=>lQ fun q':DD=>sM (c=.exit 2/\AN W L s' q'/\W.il s'<W.il s) (aj (sJ W wa b L dd M I g15 J s' q' Ds) R)).Ok:=fun c=>bX fun s'=>bX fun q'=>gG (aB rO ae.o);have cD:aI eR w1 (aj (Zw W wa s b1 b2) (sM (Nu W wa s 0) (aj (sJ W wa b L dd M I g15 J s q Ds) R))) w9:=(aI.iQ Vp S1.o.swap).swap;clear a5 S1;refine oQ (gf:=90) (lb:=(sS (some ⟨b1,0,none⟩) (some ⟨b2,0,none⟩))) rfl (enters_of Tryz.func90 eQ rfl) cx.o nQ (fun _=>rfl) HE.o _ (fun c=>lQ fun s':St=>lQ fun q':DD=>sM (c=.exit 2/\AN W L s' q'/\W.il s'<W.il s) (aj (sJ W wa b L dd M I g15 J s' q' Ds) R)) cR _ cd cJ cD ?_ ?_ ?_ ?_
    ·intro lo m i hi R' W1 K hR hI hK;obtain⟨al,h1⟩:=hI.pure;have h3:=aH h1 (aB b5.o hR) (dX (dH W wa s)[i].1).toArray 177;have h4:=aH h3 (aB aC (aB b5.o hR)) (cK (dH W wa s)[i].2) 171;rw[im] at h4;have HF:=au (hK { tmps:=#[v 0,v 1,v 2,v 3,v 4,v 5,v 6,v 7,v 8,v 9,.pointer (some ⟨g10,0,none⟩),v 11,.pointer (some ⟨M,0,none⟩),v 13,.pointer (some ⟨I,0,none⟩),.pointer (some ⟨g15,0,none⟩),.pointer (some ⟨J,0,none⟩),.pointer (some ⟨W1.heap.size,0,none⟩),.pointer (some ⟨W1.heap.size+1,0,none⟩),v 19,v 20,v 21,v 22,v 23,v 24,v 25,v 26,v 27,v 28,v 29,v 30,v 31,v 32,v 33,v 34,v 35,v 36,v 37,v 38,v 39,v 40,v 41,v 42,.agg (ln wa.a.L W.l.length wa.a.lc wa.a.R wa.a.q.length wa.a.rc wa.b.L W.m.length wa.b.lc wa.b.R wa.b.q.length wa.b.rc),.agg (fx s.i s.j (bs s.a) s.r),.bool false,.bool true,.agg (ln wa.a.L W.l.length wa.a.lc wa.a.R wa.a.q.length wa.a.rc wa.b.L W.m.length wa.b.lc wa.b.R wa.b.q.length wa.b.rc),.agg (fx s.i s.j (bs s.a) s.r),AK b1 b2,.agg (dX (dH W wa s)[i].1).toArray,.agg (cK (dH W wa s)[i].2),v 52,v 53,v 54,v 55,v 56,v 57,v 58,v 59,v 60,v 61,v 62,v 63,v 64,v 65,v 66,v 67,v 68,v 69,v 70,v 71,v 72,v 73,v 74,v 75,v 76,v 77,v 78,v 79,v 80,v 81,v 82,v 83,v 84,v 85,v 86,v 87,v 88],defers:=[] } _ (aI.nT W1.heap.size (aI.nT (W1.heap.size+1) (aI.nT (dH W wa s)[i] (aI.iQ ⟨gR hi,al,rfl⟩ (h4.perm (by ac_rfl)))))));clear hI h1 h3 h4 hK al;unfold Np;generalize (dH W wa s)[i]=z at *
     obtain⟨⟨⟨yx,yc,yf,yt⟩,yA,yn⟩,⟨xi,xj,xa,xr⟩⟩:=z;unfold cK dX;unfold cK dX at HF;dsimp only at HF;dsimp only;gi_wp2;exact HF.o
    ·intro lo m i hi a' R' W1 hR hI;obtain⟨ad,h1⟩:=hI.ex;obtain⟨ab,h1⟩:=h1.ex;obtain⟨z,h1⟩:=h1.ex;obtain⟨⟨hx,al,rfl⟩,h2⟩:=h1.pure;have am:z ∈ dH W wa s:=pS hx;have ak:=Vs bw.o HP.o.ok am;have aD:=fI HP.o.ok ak;have cr:=au (fun h=>Vq hx al h);have cI:=au (fun (hg:Ko W s z)=>Vo HP.o.bn cg.o (ZA HS.o hx al hg) aD.2);have co:=iD HG.o.1 ak;have an:z.2 ∈ gy L:=by
      obtain⟨v,hv⟩:=mem_keys.1 HP.o.inL;exact a6.o.cl _ hv _ ak
     have ic:=gL HG.o.1 aD.1;have ai:=lV aD.1;have cp:=gL HG.o.1 HP.o.ok;have cQ:=HP.o.lt;have cE:z.1.r.t.length<=1000000:=(HS.o.aeD am);have cP:=au (show(aj (sJ W wa b L dd M I g15 J s q Ds) (aj (av ab (cK z.2) 171) (aj (av ad (dX z.1).toArray 177) (aj R R')))).Ok from aB rO (aB aC (aB aC (aB ae.o hR))));have H2:=au ((h2.perm (by ac_rfl:_=aj (sJ W wa b L dd M I g15 J s q Ds) (aj (av ab (cK z.2) 171) (aj (av ad (dX z.1).toArray 177) (aj R R'))))).drew cP.o);have hS:∀ W',aI eR w1 (aj (sJ W wa b L dd M I g15 J s q Ds) (aj (av ab (cK z.2) 171) (aj (av ad (dX z.1).toArray 177) (aj R R')))) W'->(W'.cell? ⟨ad,1,none⟩=some (.int .i64 z.1.r.c)/\W'.cell? ⟨I,0,none⟩=some (.map (some b))/\(nq W' ab (.int .i64 z.2.i) (.int .i64 z.2.j) (.string (bs z.2.a)) (.bool z.2.r))/\(nq W' g15 (.int .i64 s.i) (.int .i64 s.j) (.string (bs s.a)) (.bool s.r))/\(Instr.lookup 168 (.map (some b)) (.agg (fx z.2.i z.2.j (bs z.2.a) z.2.r)) false).run Tryz.prog W'=.ok (.int .i64 (W.fi z.2)) W'/\(Instr.lookup 168 (.map (some b)) (.agg (fx s.i s.j (bs s.a) s.r)) false).run Tryz.prog W'=.ok (.int .i64 (W.fi s)) W'):=fun W' h=>by
      obtain⟨⟨s0,s1,s2,s3⟩,-,m0,-,⟨f',ck⟩,-⟩:=jO h;obtain⟨f1,a8⟩:=h.drop.fst;obtain⟨f2,aa⟩:=h.drop.drop.fst;exact⟨ay (i:=1) aa rfl,m0,⟨ay a8 rfl,ay a8 rfl,ay a8 rfl,ay a8 rfl⟩,⟨s0,s1,s2,s3⟩,Nv a6.o ck an,Nv a6.o ck HP.o.inL⟩
     have aw:=hS _ H2.o;have az:=au aD;have bi:=au an;have ci:=au (vX HG.o.2 HP.o.a3 ak);have bf:=au (show Ko W s z↔z.1.r.c+W.fi z.2=W.fi s from qt);have aq:=au hR;clear hI h1 h2 hx al am ak aD an hS hR hi;obtain⟨⟨⟨yx,yc,yf,yt⟩,yA,yn⟩,⟨xi,xj,xa,xr⟩⟩:=z;unfold cK dX;dsimp only at aw co ic ai cE bf bi ci az ⊢;obtain⟨dn,bb⟩:∃ d,d=W.fi { i:=xi,j:=xj,a:=xa,r:=xr }:=⟨_,rfl⟩;obtain⟨ds,a7⟩:∃ d,d=W.fi s:=⟨_,rfl⟩;rw[<-bb,<-a7] at aw bf;rw[<-bb] at ic ai;rw[<-a7] at cp cQ;have cA:=au bb;have cy:=au a7;clear bb a7;have t1:IntKind.i64.wrap (yc+dn)=yc+dn:=by
      unfold never at ai;exact kp _ eL
     refine wpIn_block (wpIn_seq (wpIn_seq ?_));by_cases ap:yc+dn=ds
     ·have t2:(yc+dn != ds)=false:=by simp[ap]
      have cH:=au ap;have bv:=au (cI.o (bf.o.2 ap));dsimp only at bv;clear ap;refine mQ (fun W':World=>W'.cell? ⟨ad,1,none⟩=some (.int .i64 yc)/\W'.cell? ⟨I,0,none⟩=some (.map (some b))/\(nq W' ab (.int .i64 xi) (.int .i64 xj) (.string (bs xa)) (.bool xr))/\(nq W' g15 (.int .i64 s.i) (.int .i64 s.j) (.string (bs s.a)) (.bool s.r))/\(Instr.lookup 168 (.map (some b)) (.agg (fx xi xj (bs xa) xr)) false).run Tryz.prog W'=.ok (.int .i64 dn) W'/\(Instr.lookup 168 (.map (some b)) (.agg (fx s.i s.j (bs s.a) s.r)) false).run Tryz.prog W'=.ok (.int .i64 ds) W') rfl (fun⟨a,w,h⟩=>h) rfl eQ aw ?_;clear aw;generalize W1.drew=W2 at *
      (repeat(first|refine bM ?_|refine bN ?_))
      refine lex_nil ?_
      iterate 6 gi_step
      refine wpIn_seq_k ?_;intro Kj be;have H3:=au (H2.o);have nW:∀ (w:World) (y62 y63 y64 y65 y66 y67 y68 y69 y70 y71 y72 y73 y74 y75 y76 y77 y78 y79 y80 y81 y82 y83 y84 y85 y86:Value) (q':DD) (Y:CH.aT),Y.Ok->aI eR w1 (aj (sJ W wa b L dd M I g15 J s q' Ds) (aj (av ab (fx xi xj (bs xa) xr) 171) (aj Y (aj R R')))) w->q'.l.length<=q.l.length+1->q'.m.length<=q.m.length+1->q'.f.length<=q.f.length+1000000->ya W ⟨xi,xj,xa,xr⟩ q'.l q'.m q'.f->Kj { tmps:=#[v 0,v 1,v 2,v 3,v 4,v 5,v 6,v 7,v 8,v 9,.pointer (some ⟨g10,0,none⟩),v 11,.pointer (some ⟨M,0,none⟩),v 13,.pointer (some ⟨I,0,none⟩),.pointer (some ⟨g15,0,none⟩),.pointer (some ⟨J,0,none⟩),.pointer (some ⟨ad,0,none⟩),.pointer (some ⟨ab,0,none⟩),v 19,v 20,v 21,v 22,v 23,v 24,v 25,v 26,v 27,v 28,v 29,v 30,v 31,v 32,v 33,v 34,v 35,v 36,v 37,v 38,v 39,v 40,v 41,v 42,.agg (ln wa.a.L W.l.length wa.a.lc wa.a.R wa.a.q.length wa.a.rc wa.b.L W.m.length wa.b.lc wa.b.R wa.b.q.length wa.b.rc),.agg (fx s.i s.j (bs s.a) s.r),.bool false,.bool true,.agg (ln wa.a.L W.l.length wa.a.lc wa.a.R wa.a.q.length wa.a.rc wa.b.L W.m.length wa.b.lc wa.b.R wa.b.q.length wa.b.rc),.agg (fx s.i s.j (bs s.a) s.r),AK b1 b2,.agg (kl (yx:Nat) yc yA yf.length yn (bs yt)),.agg (fx xi xj (bs xa) xr),.pointer (some ⟨ad,1,none⟩),.int .i64 yc,.map (some b),.agg (fx xi xj (bs xa) xr),.int .i64 dn,.int .i64 (yc+dn),.map (some b),.agg (fx s.i s.j (bs s.a) s.r),.int .i64 ds,.bool false,y62,y63,y64,y65,y66,y67,y68,y69,y70,y71,y72,y73,y74,y75,y76,y77,y78,y79,y80,y81,y82,y83,y84,y85,y86,v 87,v 88],defers:=[] } w:=by
       intro w y62 y63 y64 y65 y66 y67 y68 y69 y70 y71 y72 y73 y74 y75 y76 y77 y78 y79 y80 y81 y82 y83 y84 y85 y86 q' Y hY hR h1 h2 h3 bz;have bx:=au (show AN W L ⟨xi,xj,xa,xr⟩ q' from⟨az.o.1,ci.o,bi.o,by have:=HP.o.lt;have:=cH.o;rw[<-cA.o];rw[<-cy.o] at *;omega,by have:=HP.o.nl;have:=az.o.2;omega,by have:=HP.o.nm;have:=az.o.2;omega,by have:=HP.o.nf;have:=az.o.2;omega,bz⟩);have bp:=au az.o.2;refine be _ _ ?_;clear be Kj h1 h2 h3 bz H2 H3;have cU:=au hY;have h4:=hR.perm (by unfold sJ;ac_rfl:_=aj (av g15 (cK s) 171) (aj (aj (av J (Eu dd q') 60) (aj (bE q'.A q'.ac q'.l) (aj (bE q'.B q'.bc q'.m) (aj (av I #[.map (some b)] 168) (aj (av M (bI W wa) 165) (aj (jw b L) (dJ Ds))))))) (aj (av ab (fx xi xj (bs xa) xr) 171) (aj Y (aj R R')))));have ca:(aj (aj (av J (Eu dd q') 60) (aj (bE q'.A q'.ac q'.l) (aj (bE q'.B q'.bc q'.m) (aj (av I #[.map (some b)] 168) (aj (av M (bI W wa) 165) (aj (jw b L) (dJ Ds))))))) (aj (av ab (fx xi xj (bs xa) xr) 171) (aj Y (aj R R')))).Ok:=aB aO (aB aC (aB hY (aB ae.o aq.o)));obtain⟨⟨s0,s1,s2,s3⟩,-,-,-,-,sf,-⟩:=jO hR;obtain⟨x0,x1,x2,x3,-⟩:=bq (hR.drop:aI _ _ (aj (av ab (fx xi xj (bs xa) xr) 171) _) w);have H5:=au (ug (h4:aI _ _ (aj (av g15 (fx s.i s.j (bs s.a) s.r) 171) _) w) ca (.int .i64 xi) (.int .i64 xj) (.string (bs xa)) (.bool xr));clear h4 hR ca;gi_wp2;refine aI.nT ⟨xi,xj,xa,xr⟩ (aI.nT q' (aI.iQ ⟨rfl,bx.o,bp.o⟩ ?_));exact(H5.o.perm (by ac_rfl:_=aj (av ab (fx xi xj (bs xa) xr) 171) (aj Y (aj (aj (aj (av g15 (fx xi xj (bs xa) xr) 171) (aj (av J (Eu dd q') 60) (aj (bE q'.A q'.ac q'.l) (aj (bE q'.B q'.bc q'.m) (aj (av I #[.map (some b)] 168) (aj (av M (bI W wa) 165) (aj (jw b L) (dJ Ds)))))))) R) R')))).drop.drop
      have HC:=au nW;clear nW;have cV:=au be;clear be;have cN:q.l.length<=1000000:=by have:=HP.o.nl;have:=a4.o;omega
      have cw:q.m.length<=1000000:=by have:=HP.o.nm;have:=a4.o;omega
      have cT:q.f.length<=1000000000:=by have:=HP.o.nf;have:=a4.o;omega
      have cS:¬ 9223372036854775807<(bs q.f).size+(bs yt).size:=by rw[cu,cu];omega
      obtain⟨⟨s0,s1,s2,s3⟩,-⟩:=jO H3.o;obtain⟨x0,x1,x2,x3,-⟩:=bq (H3.o.drop:aI _ _ (aj (av ab (fx xi xj (bs xa) xr) 171) _) W2);clear H2;by_cases ju:s.i<xi
      ·have t3:decide (s.i<xi)=true:=decide_eq_true ju;have ag:=au (bv.o.1 ju);clear ju
       iterate 22 (first|go_values|gi_guarded|gi_step|gi_upon)
       have ba:=au (show(aj (sJ W wa b L dd M I g15 J s q Ds) (aj (av ab (fx xi xj (bs xa) xr) 171) (aj (av ad (kl (yx:Nat) yc yA yf.length yn (bs yt)) 177) (aj R R')))).Ok from aB rO (aB aC (aB aC (aB ae.o aq.o))));have H4:=au ((show aI eR w1 (aj (sJ W wa b L dd M I g15 J s q Ds) (aj (av ab (fx xi xj (bs xa) xr) 171) (aj (av ad (kl (yx:Nat) yc yA yf.length yn (bs yt)) 177) (aj R R')))) W2 from H3.o).drew ba.o);clear H3 s0 s1 s2 s3 x0 x1 x2 x3;obtain⟨-,⟨q0,q1,q2,q3⟩,-⟩:=jO H4.o;obtain⟨f2,aa⟩:=H4.o.drop.drop.fst;have z0:=ay (i:=0) aa rfl;have z3:=ay (i:=3) aa rfl;clear aa f2;refine mP [4,5,12,14] [1,1,0,0,1,2,2,2,3,3,3,2,3,3,4] (fun w'=>w'=W2.drew) [fun w'=>w'.cell? ⟨J,1,none⟩=some (.slice q.A q.l.length q.ac)/\w'.cell? ⟨J,3,none⟩=some (.string (bs q.f))/\w'.cell? ⟨ad,3,none⟩=some (.string (bs yt)),fun w'=>w'.cell? ⟨J,3,none⟩=some (.string (bs q.f))/\w'.cell? ⟨ad,3,none⟩=some (.string (bs yt)),fun w'=>w'.cell? ⟨ad,3,none⟩=some (.string (bs yt))] ⟨fun w h=>by rw[h];exact⟨q1,q3,z3⟩,fun w h=>⟨h.2.1,h.2.2⟩,fun w h=>h.2,trivial⟩ rfl (fun⟨a,w,h⟩=>h) rfl eQ eQ eQ rfl ?_;generalize W2.drew=W3 at *
       (repeat(first|refine eH ?_|refine eO ?_))
       refine bB rfl fY (fun K hK=>?_);go_wp2_with fail;have H5:=au (aH H4.o ba.o (fL (yx:Nat)) 3);clear H4 q0 q1 q2 q3 z0 z3;generalize W3.alloc (.cells (fL (yx:Nat)) 3)=W4 at *
       generalize W3.heap.size=gN at *
       obtain⟨-,⟨q0,q1,q2,q3⟩,-⟩:=jO H5.o.drop;obtain⟨f2,aa⟩:=H5.o.drop.drop.drop.fst;have z3:=ay (i:=3) aa rfl;clear aa f2;refine hK.o _ _ ⟨q1,q3,z3⟩ ?_;clear hK
       (repeat(first|refine eH ?_|refine eO ?_))
       refine bB rfl fY (fun K hK=>?_);obtain⟨f2,aa⟩:=H5.o.fst;have n0:=ay (i:=0) aa rfl;clear aa f2;refine Nt (.tmp 68) (.tmp 71) rfl (A:=q.A) (c:=q.ac) (g:=gN) (l:=q.l) (p:=(yx:Int)) rfl rfl rfl cN (aB aC (aB aC (aB aC (aB fq (aB aC (aB aC (aB iW (aB kZ (aB aC (aB aC (aB ae.o aq.o))))))))))) (H5.o.perm (by unfold sJ;ac_rfl:_=aj (bE q.A q.ac q.l) (aj (av gN (fL (yx:Nat)) 3) (aj (av g15 (cK s) 171) (aj (av J (Eu dd q) 60) (aj (bE q.B q.bc q.m) (aj (av I #[.map (some b)] 168) (aj (av M (bI W wa) 165) (aj (jw b L) (aj (dJ Ds) (aj (av ab (fx xi xj (bs xa) xr) 171) (aj (av ad (kl (yx:Nat) yc yA yf.length yn (bs yt)) 177) (aj R R'))))))))))))) n0 ?_;intro A' c' W5 a2;have h6:=a2.perm (by ac_rfl:_=aj (av J (Eu dd q) 60) (aj (bE A' c' (q.l++[(yx:Int)])) (aj (av gN (fL (yx:Nat)) 3) (aj (av g15 (cK s) 171) (aj (bE q.B q.bc q.m) (aj (av I #[.map (some b)] 168) (aj (av M (bI W wa) 165) (aj (jw b L) (aj (dJ Ds) (aj (av ab (fx xi xj (bs xa) xr) 171) (aj (av ad (kl (yx:Nat) yc yA yf.length yn (bs yt)) 177) (aj R R'))))))))))));have H6:=au (show aI eR w1 (aj (av J (ki dd q.A q.l.length q.ac q.B q.m.length q.bc (bs q.f)) 60) (aj (bE A' c' (q.l++[(yx:Int)])) (aj (av gN (fL (yx:Nat)) 3) (aj (av g15 (cK s) 171) (aj (bE q.B q.bc q.m) (aj (av I #[.map (some b)] 168) (aj (av M (bI W wa) 165) (aj (jw b L) (aj (dJ Ds) (aj (av ab (fx xi xj (bs xa) xr) 171) (aj (av ad (kl (yx:Nat) yc yA yf.length yn (bs yt)) 177) (aj R R')))))))))))) W5 from h6);have bh:=au (show(aj (bE A' c' (q.l++[(yx:Int)])) (aj (av gN (fL (yx:Nat)) 3) (aj (av g15 (cK s) 171) (aj (bE q.B q.bc q.m) (aj (av I #[.map (some b)] 168) (aj (av M (bI W wa) 165) (aj (jw b L) (aj (dJ Ds) (aj (av ab (fx xi xj (bs xa) xr) 171) (aj (av ad (kl (yx:Nat) yc yA yf.length yn (bs yt)) 177) (aj R R'))))))))))).Ok from(aB fq (aB aC (aB aC (aB fq (aB aC (aB aC (aB iW (aB kZ (aB aC (aB aC (aB ae.o aq.o))))))))))));obtain⟨f2,aa⟩:=H6.o.fst;have p1:=ay (i:=1) aa rfl;have p3:=ay (i:=3) aa rfl;have pf:=aM aa;clear aa f2;obtain⟨f2,aa⟩:=H6.o.drop.drop.drop.drop.drop.drop.drop.drop.drop.drop.fst;have aE:=ay (i:=3) aa rfl;clear aa f2 h6 a2;refine hK.o _ _ ⟨p3,aE⟩ ?_;clear hK n0 H5 q0 q1 q2 q3 z3
       (repeat(first|refine eH ?_|refine eO ?_))
       refine bB rfl fY (fun K hK=>?_);go_wp2_with fail;have H7:=au (show aI eR w1 (aj (av J (ki dd A' (q.l.length+1) c' q.B q.m.length q.bc (bs q.f)) 60) (aj (bE A' c' (q.l++[(yx:Int)])) (aj (av gN (fL (yx:Nat)) 3) (aj (av g15 (cK s) 171) (aj (bE q.B q.bc q.m) (aj (av I #[.map (some b)] 168) (aj (av M (bI W wa) 165) (aj (jw b L) (aj (dJ Ds) (aj (av ab (fx xi xj (bs xa) xr) 171) (aj (av ad (kl (yx:Nat) yc yA yf.length yn (bs yt)) 177) (aj R R')))))))))))) (W5.setCell ⟨J,1,none⟩ (.slice A' (q.l.length+1) c')) from aJ H6.o bh.o 1 (.slice A' (q.l.length+1) c'));clear H6 p1 p3 pf aE;generalize W5.setCell ⟨J,1,none⟩ (.slice A' (q.l.length+1) c')=W6 at *
       obtain⟨f2,aa⟩:=H7.o.fst;have p3:=ay (i:=3) aa rfl;have pf:=aM aa;clear aa f2;obtain⟨f2,aa⟩:=H7.o.drop.drop.drop.drop.drop.drop.drop.drop.drop.drop.fst;have aE:=ay (i:=3) aa rfl;clear aa f2;refine hK.o _ _ aE ?_;clear hK aE
       (repeat(first|refine eH ?_|refine eO ?_))
       refine bB rfl fY (fun K hK=>?_);go_wp2_with fail;have h8:=aJ H7.o bh.o 3 (.string (bs q.f++bs yt));have e8:Eu dd ⟨A',c',q.l++[(yx:Int)],q.B,q.bc,q.m,q.f++yt⟩=(ki dd A' (q.l.length+1) c' q.B q.m.length q.bc (bs q.f++bs yt)):=by unfold Eu;rw[gd,ach];rfl
       have H8:=au ((show aI eR w1 (aj (av J (Eu dd ⟨A',c',q.l++[(yx:Int)],q.B,q.bc,q.m,q.f++yt⟩) 60) (aj (bE A' c' (q.l++[(yx:Int)])) (aj (av gN (fL (yx:Nat)) 3) (aj (av g15 (cK s) 171) (aj (bE q.B q.bc q.m) (aj (av I #[.map (some b)] 168) (aj (av M (bI W wa) 165) (aj (jw b L) (aj (dJ Ds) (aj (av ab (fx xi xj (bs xa) xr) 171) (aj (av ad (kl (yx:Nat) yc yA yf.length yn (bs yt)) 177) (aj R R')))))))))))) _ from by rw[e8];exact h8).perm (by unfold sJ;ac_rfl:_=aj (sJ W wa b L dd M I g15 J s ⟨A',c',q.l++[(yx:Int)],q.B,q.bc,q.m,q.f++yt⟩ Ds) (aj (av ab (fx xi xj (bs xa) xr) 171) (aj (aj (av gN (fL (yx:Nat)) 3) (av ad (kl (yx:Nat) yc yA yf.length yn (bs yt)) 177)) (aj R R')))));clear H7 p3 pf h8 e8;refine hK.o _ _ trivial ?_;clear hK
       (repeat(first|refine eH ?_|refine eO ?_))
       refine iT ?_;exact HC.o _ _ _ _ _ _ _ _ _ _ _ _ _ _ _ _ _ _ _ _ _ _ _ _ _ _ _ _ aO H8.o iz iz (by rw[gd];omega) ag.o
      ·have t3:decide (s.i<xi)=false:=decide_eq_false ju;have ag:=au (bv.o.2 ju);clear ju
       iterate 22 (first|go_values|gi_guarded|gi_step|gi_upon)
       clear s0 s1 s2 s3 x0 x1 x2 x3;have ba:=au (show(aj (sJ W wa b L dd M I g15 J s q Ds) (aj (av ab (fx xi xj (bs xa) xr) 171) (aj (av ad (kl (yx:Nat) yc yA yf.length yn (bs yt)) 177) (aj R R')))).Ok from aB rO (aB aC (aB aC (aB ae.o aq.o))));have H4:=au (show aI eR w1 (aj (sJ W wa b L dd M I g15 J s q Ds) (aj (av ab (fx xi xj (bs xa) xr) 171) (aj (av ad (kl (yx:Nat) yc yA yf.length yn (bs yt)) 177) (aj R R')))) W2 from H3.o);clear H3;obtain⟨-,⟨q0,q1,q2,q3⟩,-⟩:=jO H4.o;obtain⟨f2,aa⟩:=H4.o.drop.drop.fst;have z0:=ay (i:=0) aa rfl;clear aa f2;refine bR rfl (fun⟨a,w,h⟩=>h) ?_;go_wp2_with (at_builtin;refine held ?_);have H5:=au (aH H4.o ba.o (fL (yx:Nat)) 3);clear H4 q0 q1 q2 q3 z0;generalize W2.alloc (.cells (fL (yx:Nat)) 3)=W4 at *
       generalize W2.heap.size=gN at *
       obtain⟨f2,aa⟩:=H5.o.fst;have n0:=ay (i:=0) aa rfl;clear aa f2;refine lB.mk (wpList_plain rfl fun _ hK=>Nt (.tmp 81) (.tmp 84) rfl (A:=q.B) (c:=q.bc) (g:=gN) (l:=q.m) (p:=(yx:Int)) rfl rfl rfl cw (aB aC (aB aC (aB aC (aB fq (aB aC (aB aC (aB iW (aB kZ (aB aC (aB aC (aB ae.o aq.o))))))))))) (H5.o.perm (by unfold sJ;ac_rfl:_=aj (bE q.B q.bc q.m) (aj (av gN (fL (yx:Nat)) 3) (aj (av g15 (cK s) 171) (aj (av J (Eu dd q) 60) (aj (bE q.A q.ac q.l) (aj (av I #[.map (some b)] 168) (aj (av M (bI W wa) 165) (aj (jw b L) (aj (dJ Ds) (aj (av ab (fx xi xj (bs xa) xr) 171) (aj (av ad (kl (yx:Nat) yc yA yf.length yn (bs yt)) 177) (aj R R'))))))))))))) n0 (fun A' c' W5 a2=>hK _ _ ?_));have h6:=a2.perm (by ac_rfl:_=aj (av J (Eu dd q) 60) (aj (bE A' c' (q.m++[(yx:Int)])) (aj (av gN (fL (yx:Nat)) 3) (aj (av g15 (cK s) 171) (aj (bE q.A q.ac q.l) (aj (av I #[.map (some b)] 168) (aj (av M (bI W wa) 165) (aj (jw b L) (aj (dJ Ds) (aj (av ab (fx xi xj (bs xa) xr) 171) (aj (av ad (kl (yx:Nat) yc yA yf.length yn (bs yt)) 177) (aj R R'))))))))))));have H6:=au (show aI eR w1 (aj (av J (ki dd q.A q.l.length q.ac q.B q.m.length q.bc (bs q.f)) 60) (aj (bE A' c' (q.m++[(yx:Int)])) (aj (av gN (fL (yx:Nat)) 3) (aj (av g15 (cK s) 171) (aj (bE q.A q.ac q.l) (aj (av I #[.map (some b)] 168) (aj (av M (bI W wa) 165) (aj (jw b L) (aj (dJ Ds) (aj (av ab (fx xi xj (bs xa) xr) 171) (aj (av ad (kl (yx:Nat) yc yA yf.length yn (bs yt)) 177) (aj R R')))))))))))) W5 from h6);have bh:=au (show(aj (bE A' c' (q.m++[(yx:Int)])) (aj (av gN (fL (yx:Nat)) 3) (aj (av g15 (cK s) 171) (aj (bE q.A q.ac q.l) (aj (av I #[.map (some b)] 168) (aj (av M (bI W wa) 165) (aj (jw b L) (aj (dJ Ds) (aj (av ab (fx xi xj (bs xa) xr) 171) (aj (av ad (kl (yx:Nat) yc yA yf.length yn (bs yt)) 177) (aj R R'))))))))))).Ok from(aB fq (aB aC (aB aC (aB fq (aB aC (aB aC (aB iW (aB kZ (aB aC (aB aC (aB ae.o aq.o))))))))))));obtain⟨f2,aa⟩:=H6.o.fst;have p2:=ay (i:=2) aa rfl;have pf:=aM aa;clear aa f2 h6 a2 n0 H5;go_wp2_with fail;have h8:=aJ H6.o bh.o 2 (.slice A' (q.m.length+1) c');have e8:Eu dd ⟨q.A,q.ac,q.l,A',c',q.m++[(yx:Int)],q.f⟩=(ki dd q.A q.l.length q.ac A' (q.m.length+1) c' (bs q.f)):=by unfold Eu;rw[gd];rfl
       have H8:=au ((show aI eR w1 (aj (av J (Eu dd ⟨q.A,q.ac,q.l,A',c',q.m++[(yx:Int)],q.f⟩) 60) (aj (bE A' c' (q.m++[(yx:Int)])) (aj (av gN (fL (yx:Nat)) 3) (aj (av g15 (cK s) 171) (aj (bE q.A q.ac q.l) (aj (av I #[.map (some b)] 168) (aj (av M (bI W wa) 165) (aj (jw b L) (aj (dJ Ds) (aj (av ab (fx xi xj (bs xa) xr) 171) (aj (av ad (kl (yx:Nat) yc yA yf.length yn (bs yt)) 177) (aj R R')))))))))))) _ from by rw[e8];exact h8).perm (by unfold sJ;dsimp only;ac_rfl:_=aj (sJ W wa b L dd M I g15 J s ⟨q.A,q.ac,q.l,A',c',q.m++[(yx:Int)],q.f⟩ Ds) (aj (av ab (fx xi xj (bs xa) xr) 171) (aj (aj (av gN (fL (yx:Nat)) 3) (av ad (kl (yx:Nat) yc yA yf.length yn (bs yt)) 177)) (aj R R')))));exact HC.o _ _ _ _ _ _ _ _ _ _ _ _ _ _ _ _ _ _ _ _ _ _ _ _ _ _ _ _ aO H8.o iz iz iz ag.o
     ·have t2:(yc+dn != ds)=true:=by simp[ap]
      have cn:=au (cr.o (fun h=>ap (bf.o.1 h)));clear ap;refine mQ (fun W':World=>W'.cell? ⟨ad,1,none⟩=some (.int .i64 yc)/\W'.cell? ⟨I,0,none⟩=some (.map (some b))/\(nq W' ab (.int .i64 xi) (.int .i64 xj) (.string (bs xa)) (.bool xr))/\(nq W' g15 (.int .i64 s.i) (.int .i64 s.j) (.string (bs s.a)) (.bool s.r))/\(Instr.lookup 168 (.map (some b)) (.agg (fx xi xj (bs xa) xr)) false).run Tryz.prog W'=.ok (.int .i64 dn) W'/\(Instr.lookup 168 (.map (some b)) (.agg (fx s.i s.j (bs s.a) s.r)) false).run Tryz.prog W'=.ok (.int .i64 ds) W') rfl (fun⟨a,w,h⟩=>h) rfl eQ aw ?_;clear aw
      (repeat(first|refine bM ?_|refine bN ?_))
      refine lex_nil ?_;gi_wp2;exact aI.iQ cn.o (H2.o.perm (by ac_rfl:_=aj (av ab (cK { i:=xi,j:=xj,a:=xa,r:=xr }) 171) (aj (av ad (dX ⟨⟨yx,yc,yf,yt⟩,yA,yn⟩).toArray 177) (aj (aj (sJ W wa b L dd M I g15 J s q Ds) R) R')))).drop.drop
    ·intro D R' W1 hR hI;obtain⟨al,-⟩:=hI.pure;exact(ZB bw.o HP.o.ok HP.o.lt cg.o al).elim
    ·intro D c9 R' W1 hR hI;obtain⟨s',h1⟩:=hI.ex;obtain⟨q',h1⟩:=h1.ex;obtain⟨⟨rfl,ce,b4⟩,h2⟩:=h1.pure;have b9:=au (show aI eR w1 (aj (sJ W wa b L dd M I g15 J s' q' (D::Ds)) (aj R R')) W1 from h2.perm (by unfold sJ;rw[wE];ac_rfl));have bx:=au ce;have bp:=au b4;have b7:=au (aB ae.o hR);have b0:=au (PK (W:=W) (g15:=g15) (s:=s') b9.o.assoc);clear hI h1 h2 ce b4 hR;go_wp2_with fail;refine⟨QQ (D::Ds) rfl rfl rfl rfl rfl rfl rfl b7.o b9.o bx.o,?_⟩;rw[b0.o,cc.o];exact bp.o
end Go.Proofs.YtbioiclabmbedaaGreatDoor
