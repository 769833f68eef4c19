/- A part of the proof: lemmas. -/
import Derived.Test.YtbioiclabmbedaaGreatDoorSI7
import Derived.Test.YtbioiclabmbedaaGreatDoorSI8
set_option maxHeartbeats 16000000
set_option maxRecDepth 100000
set_option linter.all false
namespace Go.CH.Sil
open Go.CH.Scr Go.CH.dh Go.CH.Mtc
section
variable {V:List Wy} {A B:Wy} {p q:Prop} [Decidable p] [Decidable q]
theorem aec (hp:p):(V++((if p then [A] else [])++(if q then [B] else [])))[V.length]?=some A:=by rw[if_pos hp];simp
theorem aed (hq:q):(V++((if p then [A] else [])++(if q then [B] else [])))[V.length+if p then 1 else 0]?=some B/\(V++((if p then [A] else [])++(if q then [B] else []))).length=(V.length+if p then 1 else 0)+1:=by
 rw[if_pos hq];by_cases hp:p
 ·simp[hp]
 ·simp[hp]
theorem aee (hq:¬ q):(V++((if p then [A] else [])++(if q then [B] else []))).length=V.length+if p then 1 else 0:=by
 rw[if_neg hq];by_cases hp:p<;>simp[hp]
end
section
variable {ini:Int} {us vs:List Vr} {p q:List Bs} {x y:Bs} {i j:Nat}
theorem XH (hi:i<us.length) (hj:j<vs.length):(rZ ini us vs p q x y)[i*vs.length+j]?=some (vK us[i] vs[j]):=by
 have h1:=Go.Proofs.YtbioiclabmbedaaGreatDoor.Ml hi hj;unfold rZ;rw[xe (List.getElem?_eq_some_iff.1 h1).1];exact h1
theorem TH (hp:p.length=1):(rZ ini us vs p q x y)[us.length*vs.length]?=some ⟨2,-1,-1,ini,x,ic q⟩:=by
 rw[<-Go.Proofs.YtbioiclabmbedaaGreatDoor.mH];exact aec hp
theorem Ms (hq:q.length=1):(rZ ini us vs p q x y)[us.length*vs.length+if p.length=1 then 1 else 0]?=some ⟨3,-1,-1,ini,ic p,y⟩/\(rZ ini us vs p q x y).length=(us.length*vs.length+if p.length=1 then 1 else 0)+1:=by
 rw[<-Go.Proofs.YtbioiclabmbedaaGreatDoor.mH];exact aed hq
theorem Oz (hq:q.length≠1):(rZ ini us vs p q x y).length=us.length*vs.length+if p.length=1 then 1 else 0:=by
 rw[<-Go.Proofs.YtbioiclabmbedaaGreatDoor.mH];exact aee hq
end
end Go.CH.Sil
namespace Go.Proofs.YtbioiclabmbedaaGreatDoor
open Go.RowKit Go.CH Go.CH.Scr Go.CH.dh Go.CH.Mtc Go.CH.Sil
open Go.ChangeMaps (setBlock)
attribute [local go_sem] nz
instance {A:eV} {c:Nat} {l:List Vr}:(jV A c l).Ok:=Eb
instance {A:eV} {c:Nat} {l:List Bs}:(fZ A c l).Ok:=iC
def jQ (T:eW) (t:TA) (a b:aQ) (An Bn:eV) (ca cb:Nat):Array Value:=
 (sy t.A T.rs.length t.c t.D T.ds.length t.d t.E T.es.length t.e T.drop T.ord T.ini a.k An a.ws.length ca b.k Bn b.ws.length cb)
structure wy (w:World) (T:eW) (t:TA) (a b:aQ) (An Bn:eV):Prop where
 ft:kr w T t
 fz:LZ w
 fa:fB w An a.ws
 fb:fB w Bn b.ws
 la:a.ws.length<=6
 lb:b.ws.length<=6
 wa:∀ x ∈ a.ws,x.length<=1000000
 wb:∀ x ∈ b.ws,x.length<=1000000
variable {w w' w0:World}{T:eW}{t:TA}{a b:aQ}{An Bn:eV}{ca cb i j:Nat}{F0:Nat->Prop}{X:CH.aT}
theorem wy.below      (h:wy w T t a b An Bn) (hb:Below w.heap.size w w'):wy w' T t a b An Bn:=
 { h with ft:=h.ft.below hb,fz:=h.fz.below hb,fa:=aY h.fa hb,fb:=aY h.fb hb }
def Zs (C:Array Value) (i j b1 b2 b3:Nat):CH.aT:=aj (av b1 C 93) (aj (av b2 (fL i) 3) (av b3 (fL j) 3))
instance {C:Array Value} {i j b1 b2 b3:Nat}:(Zs C i j b1 b2 b3).Ok:=by unfold Zs;exact aO
def Bm (b1 b2 b3:Nat):Value:=.func (.func 72) #[] (vu (some ⟨b1,0,none⟩) (some ⟨b2,0,none⟩) (some ⟨b3,0,none⟩))
theorem GI      (i j:Nat) (w:World) :
  Calls Tryz.prog 49 #[.agg (jQ T t a b An Bn ca cb),.int .i64 (i:Int),.int .i64 (j:Int)] w (fun e w'=>∃ b1 b2 b3,e=.returned (Bm b1 b2 b3)/\bT w eR (Zs (jQ T t a b An Bn ca cb) i j b1 b2 b3) w'):=by
 have I:=aH (aI.begin w) aO (jQ T t a b An Bn ca cb) 93;have J:=aH I aO (fL (i:Int)) 3;have h:=aH J aO (fL (j:Int)) 3;simp only[im] at h;have M:=au (show bT w eR (Zs (jQ T t a b An Bn ca cb) i j w.heap.size (w.heap.size+1) (w.heap.size+1+1)) _ from((h.perm (by unfold Zs;ac_rfl:_=aj bG (Zs (jQ T t a b An Bn ca cb) i j w.heap.size (w.heap.size+1) (w.heap.size+1+1)))).drop).post aO);clear I J h;unfold jQ at M ⊢
 go_enter Tryz.func49,Tryz.ntmps49
 go_wp2;go_ret;exact⟨_,_,_,rfl,M.o⟩
def jI (w:Wy):Array Value:=(np w.kd w.l w.r (bs w.x) (bs w.y) w.c)
def Eh (w:Wy):Array Value:=#[.agg (jI w)]
theorem XI     {b1 b2 b3:Nat}    (h:aI F0 w0 (aj (Zs (jQ T t a b An Bn ca cb) i j b1 b2 b3) X) w) :
  (lR w b1 (.slice t.A T.rs.length t.c) (.slice t.D T.ds.length t.d) (.slice t.E T.es.length t.e) (.int .i64 T.drop) (.int .i64 T.ord) (.int .i64 T.ini)) /\
  (C5 w b1 (.int .i64 a.k) (.slice An a.ws.length ca) (.int .i64 b.k) (.slice Bn b.ws.length cb)) /\
  w.cell? ⟨b2,0,none⟩=some (.int .i64 i)/\w.cell? ⟨b3,0,none⟩=some (.int .i64 j):=by
 unfold Zs jQ at h;obtain⟨f1,I⟩:=h.assoc.fst;obtain⟨f2,M⟩:=(h.assoc.drop.assoc).fst;obtain⟨f3,J⟩:=(h.assoc.drop.assoc).drop.fst;exact⟨⟨ay I rfl,ay I rfl,ay I rfl,ay I rfl,ay I rfl,ay I rfl⟩,⟨ay I rfl,ay I rfl,ay I rfl,ay I rfl⟩,ay M rfl,ay J rfl⟩
variable {b:Nat}
theorem XJ  {o:Nat} {l:List Bs} (h:fB w (some ⟨b,o,none⟩) l) (hn:0<l.length):w.cell? ⟨b,o,none⟩=some (.string (bs (ic l))):=by
 obtain⟨b',o',e,hc⟩:=fB.at h hn;injection e with e
 injection e with e1 e2
 subst e1 e2;have:=hc w (fe _ _) 0 hn;rw[pk] at this;rw[this,Oy hn]
theorem Ei  {t:TA} {a b:aQ} {An Bn:eV} {ca cb b1 b2 b3:Nat} (ax:nK T a b=true) (hi:i<a.ws.length) (hj:j<b.ws.length) :
  Qf Tryz.prog 72 #[.pointer (some ⟨b1,0,none⟩),.pointer (some ⟨b2,0,none⟩),.pointer (some ⟨b3,0,none⟩)] (fun W=>wy W T t a b An Bn) (Zs (jQ T t a b An Bn ca cb) i j b1 b2 b3) Eh (eU T a.k (wd a i) b.k (wd b j)):=by
 intro n lo w F0 w0 X Y bz bx hE h0 hY;obtain⟨hv,ha,hb⟩:=dW.1 ax;have am:=jq ha hi;have al:=jq hb hj;have N0:=hE _ h0.mod;obtain⟨ba,oa,be,az⟩:=fB.at N0.fa eL;obtain⟨bb,ob,bi,ak⟩:=fB.at N0.fb eL;have bc:w.drew.cell? ⟨ba,oa+i,none⟩=some (.string (bs (wd a i))):=by
  have:=az w.drew (dF (fe _ _)) i hi;rw[this];unfold wd;rw[kj,gR hi];rfl
 have bj:w.drew.cell? ⟨bb,ob+j,none⟩=some (.string (bs (wd b j))):=by
  have:=ak w.drew (dF (fe _ _)) j hj;rw[this];unfold wd;rw[kj,gR hj];rfl
 have ap:(wd a i).length<=1000000:=by unfold wd;rw[kj,gR hi];exact N0.wa _ (gv hi)
 have ao:(wd b j).length<=1000000:=by unfold wd;rw[kj,gR hj];exact N0.wb _ (gv hj)
 have bn:=N0.la;have bp:=N0.lb;generalize wd a i=x at *
 generalize wd b j=y at *
 have KV:=au (fun W (hm:Mod F0 w0 W) (k:Int) (s:Bs) (hw:word k s=true) (hs:s.length<=1000000)=>(show Calls Tryz.prog 55 #[dV T t,.int .i64 k,.string (bs s)] W (fun e w'=>∃ A c,e=.returned (.tuple (pB A (eX T k s).length c 0))/\bT W eR (jV A c (eX T k s)) w') from
  (yY (hE W hm).ft (hE W hm).fz k s hs).mono fun e w' h=>by
   have e1:o8 T k s=(eX T k s,0):=by unfold o8;rw[hw,hv];rfl
   unfold wP at h;rw[e1] at h
   exact h))
 have KL:=au (fun W (hm:Mod F0 w0 W) (k:Int) (s:Bs) (hw:word k s=true) (hs:s.length<=1000000)=>(show Calls Tryz.prog 57 #[.int .i64 k,.string (bs s)] W (fun e w'=>∃ A c,e=.returned (.tuple (pB A (raw k s).length c 0))/\bT W eR (fZ A c (raw k s)) w') from
  (jd k (bs s) W (by rw[cu];exact hs) (hE W hm).fz).mono fun e w' h=>by
   have e1:bC k (bl (bs s))=(raw k s,0):=by rw[iM];unfold bC raw;rw[if_pos hw]
   unfold mK at h;rw[e1] at h
   exact h))
 have a9:=au (fun W hm=>KV.o W hm a.k x am ap);have a4:=au (fun W hm=>KV.o W hm b.k y al ao);have a8:=au (fun W hm=>KL.o W hm a.k x am ap);have aE:=au (fun W hm=>KL.o W hm b.k y al ao);have aq:=au (fun u (hu:u ∈ eX T a.k x)=>qN hv hu);have aD:=au (fun u (hu:u ∈ eX T b.k y)=>qN hv hu);have b4:=lJ (k:=a.k) (x:=x) hv;have b0:=lJ (k:=b.k) (x:=y) hv;have bv:1<=(raw a.k x).length/\(raw a.k x).length<=12:=(eP.1 am).2;have b5:1<=(raw b.k y).length/\(raw b.k y).length<=12:=(eP.1 al).2;unfold eU at hY ⊢;clear KV KL hv ha hb am al az ak ap ao ax;generalize eX T a.k x=us at *
 generalize eX T b.k y=vs at *
 generalize raw a.k x=p at *
 generalize raw b.k y=q at *
 generalize ae:rZ T.ini us vs p q x y=xs at *
 have HA:=au (fun r s (hr:r<us.length) (hs:s<vs.length)=>(show xs[r*vs.length+s]?=some (vK us[r] vs[s]) from by rw[<-ae];exact XH hr hs));have H2:=au (fun (hp:p.length=1)=>(show xs[us.length*vs.length]?=some ⟨2,-1,-1,T.ini,x,ic q⟩ from by rw[<-ae];exact TH hp));have H3:=au (fun (hq:q.length=1)=>(show xs[us.length*vs.length+if p.length=1 then 1 else 0]?=some ⟨3,-1,-1,T.ini,ic p,y⟩/\xs.length=(us.length*vs.length+if p.length=1 then 1 else 0)+1 from by rw[<-ae];exact Ms hq));have H4:=au (fun (hq:q.length≠1)=>(show xs.length=us.length*vs.length+if p.length=1 then 1 else 0 from by rw[<-ae];exact Oz hq))
 have HY:=au (fun (z:Wy) (r:Nat) (hr:xs[r]?=some z) (Z:CH.aT) (hZ:Z.Ok) W1 (h:aI F0 w0 (aj Z (X r)) W1)=>(show YieldAt Fence.wide (n-1) Tryz.prog lo (Eh z) W1 fun e W'=>(e=.returned (.bool true)/\aI F0 w0 (aj Z (X (r+1))) W')\/(e=.returned (.bool false)/\aI F0 w0 (aj Z Y) W') from by
  obtain⟨h1,rfl⟩:=List.getElem?_eq_some_iff.1 hr
  exact hY Z hZ r h1 W1 h))
 have HF:=au (fun (Z:CH.aT) (hZ:Z.Ok) W (h:aI F0 w0 (aj Z (X xs.length)) W\/aI F0 w0 (aj Z Y) W)=>(show(∃ v,(Ending.returned (.tuple #[]))=.returned v)/\∃ Z:CH.aT,Z.Ok/\(aI F0 w0 (aj Z (X xs.length)) W\/aI F0 w0 (aj Z Y) W) from⟨⟨_,rfl⟩,Z,hZ,h⟩));have HC:=au (fun W (R:CH.aT) (h:aI F0 w0 (aj (Zs (jQ T t a b An Bn ca cb) i j b1 b2 b3) R) W)=>XI h);clear ae hY hE N0;subst be bi;have HD:=au (h0.drew aO);obtain⟨⟨t0,t1,t2,t3,t4,t5⟩,⟨t6,t7,t8,t9⟩,ti,tj⟩:=HC.o _ _ HD.o;have bo:(i:Int)<(a.ws.length:Int):=by omega
 have bm:(j:Int)<(b.ws.length:Int):=by omega
 generalize hZ:Zs (jQ T t a b (some ⟨ba,oa,none⟩) (some ⟨bb,ob,none⟩) ca cb) i j b1 b2 b3=Z0 at *
 have bh:Z0.Ok:=by rw[<-hZ];exact aO
 clear hZ h0;generalize a.ws.length=na at *
 generalize b.ws.length=nb at *
 refine callsIn_of_wp Tryz.func72 rfl trivial ?_ rfl;simp only[Tryz.ntmps72,pT,j7,lA,Nat.reduceAdd,Nat.reduceSub,qu,qS,re,qT,l4,pd];refine wpIn_seq_k ?_;intro K1 af;refine wpIn_wide.2 (aR (fun w'=>w'=w.drew) eQ eQ rfl ?_);generalize w.drew=w1 at *
 (repeat(first|refine bM ?_|refine bN ?_))
 refine lex_nil ?_;refine af _ _ ?_;clear af K1 bc bj;have K:=au (a9.o w1 HD.o.mod);clear a9
 gi_wp2_with fail
 refine⟨trivial,fun h=>(by cases h),?_⟩;refine(callsIn_wide.2 K.o).mono ?_;rintro e9 w2 ⟨A1,c1,rfl,hp⟩;have H5:=au (HD.o.fresh aO hp);have K2:=au (a4.o w2 H5.o.mod);clear K a4 HD hp t0 t1 t2 t3 t4 t5 t6 t7 t8 t9 ti tj;obtain⟨⟨t0,t1,t2,t3,t4,t5⟩,⟨t6,t7,t8,t9⟩,ti,tj⟩:=HC.o _ _ H5.o.kN;dsimp only
 gi_wp2_with fail
 refine⟨trivial,fun h=>(by cases h),?_⟩;refine(callsIn_wide.2 K2.o).mono ?_;rintro e9 w3 ⟨A2,c2,rfl,hp⟩;have H6:=au ((H5.o.fresh aO hp).perm (by ac_rfl:_=aj (aj (jV A2 c2 vs) (aj (jV A1 c1 us) Z0)) (X 0)));clear K2 H5 hp t0 t1 t2 t3 t4 t5 t6 t7 t8 t9 ti tj;dsimp only
 have HC:=au (fun W (R:CH.aT) (h:aI F0 w0 (aj (aj (jV A2 c2 vs) (aj (jV A1 c1 us) Z0)) R) W)=>(show _/\Tp W A1 us/\Tp W A2 vs from by
  have h1:=HC.o W _ (h.perm (by ac_rfl:_=aj Z0 (aj (jV A2 c2 vs) (aj (jV A1 c1 us) R))));obtain⟨_,f1⟩:=h.assoc.fst;obtain⟨_,f2⟩:=h.assoc.drop.assoc.fst
  exact⟨h1,Ov f2,Ov f1⟩))
 generalize hZ:aj (jV A2 c2 vs) (aj (jV A1 c1 us) Z0)=Z at *
 have okW:Z.Ok:=by rw[<-hZ];exact aO
 clear hZ bh;have H7:=au (show aI F0 w0 (aj Z (X (0*vs.length))) w3 from by rw[sk];exact H6.o);clear H6;gi_wp2;gi_loopw [53] (fun i wr=>∃ k:Nat,k<=us.length/\i=.int .i64 k/\aI F0 w0 (aj Z (X (k*vs.length))) wr) (fun i _=>us.length-(intOf i).toNat)
 case atStart=>exact⟨0,fw _,rfl,H7.o⟩
 case round=>
  obtain⟨k,hk,rfl,hR⟩:=hrel;have HR:=au hR;clear H7 hR;by_cases ag:k<us.length
  ·obtain⟨b,o,hA,hc⟩:=(HC.o _ _ HR.o).2.1.at eL;obtain⟨r0,r1,r2⟩:=hc wr (fe _ _) k ag;rw[hA];have ak:=aq.o _ (gv ag);have a6:=au (show k+1<=us.length from ag);have HB:=au (fun j hj=>HA.o k j ag hj);have bk:(k:Int)<1000000:=by omega
   generalize us[k]=uk at *
   obtain⟨uw,ue,uc⟩:=uk;dsimp only at r0 r1 r2 ak;clear hc hA;have h6:=aH HR.o aO (lO (bs uw) ue uc) 159;have H6:=au (show aI F0 w0 (aj (aj (av wr.heap.size (lO (bs uw) ue uc) 159) Z) (X (k*vs.length+0))) _ from h6.perm (by rw[pk];ac_rfl));clear h6 HR hk;gi_wp2;generalize wr.alloc (.cells (lO (bs uw) ue uc) 159)=w6 at *
   generalize wr.heap.size=g6 at *
   clear r0 r1 r2;gi_loopw [59] (fun i wr=>∃ j:Nat,j<=vs.length/\i=.int .i64 j/\aI F0 w0 (aj (aj (av g6 (lO (bs uw) ue uc) 159) Z) (X (k*vs.length+j))) wr) (fun i _=>vs.length-(intOf i).toNat)
   case atStart=>exact⟨0,fw _,rfl,H6.o⟩
   case round=>
    clear H6;obtain⟨j,hj,rfl,hR⟩:=hrel;have HR:=au hR;clear hR;by_cases ai:j<vs.length
    ·obtain⟨b',o',hA,hc⟩:=(HC.o _ _ (HR.o.assoc.drop:aI F0 w0 (aj Z _) wr)).2.2.at eL;obtain⟨r0,r1,r2⟩:=hc _ (fe _ _) j ai;rw[hA];have a3:=aD.o _ (gv ai);have a1:=au (show j+1<=vs.length from ai);have bw:(j:Int)<1000000:=by omega
     have M:=HB.o j ai;generalize vs[j]=vj at *
     obtain⟨vw,ve,vc⟩:=vj;dsimp only[vK] at r0 r1 r2 a3 M;clear hc hA;have h8:=aH HR.o aO (lO (bs vw) ve vc) 159;obtain⟨p0,p1,p2⟩:=fO h8;obtain⟨x0,x1,x2⟩:=fO (h8.drop.assoc:aI F0 w0 (aj (av g6 (lO (bs uw) ue uc) 159) _) _);obtain⟨a5,a2,ar⟩:=fO (HR.o.assoc:aI F0 w0 (aj (av g6 (lO (bs uw) ue uc) 159) _) _);have hw:=HY.o _ _ M (aj (av g6 (lO (bs uw) ue uc) 159) Z) aO _ h8.drop;simp only[Eh,jI] at hw;obtain⟨fn,tmps,assign,body,hy,hround⟩:=hw;have J:=au hround;have a0:=au h8;clear hround M h8 HR hj HB;gi_wp2
     try rw[hy]
     refine⟨fun h=>(by cases h),?_⟩;refine J.o.mono ?_;rintro e W3 (⟨rfl,h3⟩|⟨rfl,h3⟩)
     ·have H9:=au h3;clear J h3 hy r0 r1 r2 p0 p1 p2 x0 x1 x2 a5 a2 ar a0;gi_wp2
      go_roundw
      case rel=>exact⟨j+1,a1.o,by go_num,H9.o⟩
      case measure=>have:=a1.o;simp[intOf];omega
     ·have ac:=au (HF.o _ aO W3 (.inr h3));clear J h3 hy r0 r1 r2 p0 p1 p2 x0 x1 x2 a5 a2 ar a0;gi_wp2;refine bodyPost_ret (results_none rfl _ _ _) rfl ?_;exact ac.o
    ·have H9:=au (show aI F0 w0 (aj Z (X ((k+1)*vs.length))) wr from by
      have e:j=vs.length:=by omega
      subst e;rw[li]
      exact HR.o.assoc.drop)
     clear HR;gi_wp2
     go_roundw
     case rel=>exact⟨k+1,a6.o,by go_num,H9.o⟩
     case measure=>have:=a6.o;simp[intOf];omega
  ·obtain rfl:k=us.length:=by omega
   have K:=au (a8.o wr HR.o.mod);obtain⟨-,⟨t6,-,t8,-⟩,-,-⟩:=(HC.o _ _ HR.o).1;clear a8 hk ag HA aq aD
   gi_wp2_with fail
   refine⟨trivial,fun h=>(by cases h),?_⟩;refine(callsIn_wide.2 K.o).mono ?_;rintro e9 w4 ⟨A3,c3,rfl,hp⟩;have H9:=au (HR.o.fresh aO hp);have K2:=au (aE.o w4 H9.o.mod);clear K aE HR hp t6 t8;obtain⟨-,⟨t6,-,t8,-⟩,-,-⟩:=(HC.o _ _ (H9.o.drop)).1;dsimp only
   gi_wp2_with fail
   refine⟨trivial,fun h=>(by cases h),?_⟩;refine(callsIn_wide.2 K2.o).mono ?_;rintro e9 w5 ⟨A4,c4,rfl,hp⟩;have aa:=au ((H9.o.fresh aO hp).perm (by ac_rfl:_=aj (aj (fZ A4 c4 q) (aj (fZ A3 c3 p) Z)) (X (us.length*vs.length))));clear K2 H9 hp t6 t8;dsimp only;obtain⟨pb,po,rfl⟩:∃ b o,A3=some ⟨b,o,none⟩:=by
    obtain⟨_,f⟩:=aa.o.assoc.drop.assoc.fst;obtain⟨b,o,e,-⟩:=fB.at (oF f) eL;exact⟨b,o,e⟩
   obtain⟨qb,qo,rfl⟩:∃ b o,A4=some ⟨b,o,none⟩:=by
    obtain⟨_,f⟩:=aa.o.assoc.fst;obtain⟨b,o,e,-⟩:=fB.at (oF f) eL;exact⟨b,o,e⟩
   have HC:=au (fun W (R:CH.aT) (h:aI F0 w0 (aj (aj (fZ (some ⟨qb,qo,none⟩) c4 q) (aj (fZ (some ⟨pb,po,none⟩) c3 p) Z)) R) W)=>(show W.cell? ⟨b1,5,none⟩=some (.int .i64 T.ini)/\W.cell? ⟨pb,po,none⟩=some (.string (bs (ic p)))/\W.cell? ⟨qb,qo,none⟩=some (.string (bs (ic q))) from by
    obtain⟨_,f1⟩:=h.assoc.drop.assoc.fst;obtain⟨_,f2⟩:=h.assoc.fst
    exact⟨(HC.o W _ h.assoc.drop.assoc.drop).1.1.2.2.2.2.2,XJ (oF f1) eL,XJ (oF f2) eL⟩))
   generalize hZ:aj (fZ (some ⟨qb,qo,none⟩) c4 q) (aj (fZ (some ⟨pb,po,none⟩) c3 p) Z)=Y1 at *
   have ad:Y1.Ok:=by rw[<-hZ];exact aO
   clear hZ okW
   iterate 17 gi_step
   rename_i Kj aA;have a7:∀ (W:World) (u2 u3 u4 u7 u8 u9 u10 u11 u12 u13 u14 u16 u18 u19 u20 u21 u22 u23 u24 u25 u26 u27 u28 u29 u30 u31 u32 u33 u34 u35 u36 u37 u38 u39 u40 u41 u42 u43 u44 u45 u46 u47 u48 u49 u50 u51 u52 u53 u54 u55 u56 u57 u58 u59 u60 u61 u62 u63 u64 u65 u66 u67 u68 u69 u70 u71 u72 u73 u74 u75 u76 u77 u78 u79 u80 u81 u82 u83 u84 u85 u86 u87 u88 u89 u90 u91 u92 u93 u94 u95 u96 u97 u98:Value),aI F0 w0 (aj Y1 (X (us.length*vs.length))) W->Kj { tmps:=#[.func (.yield lo) #[] #[],.pointer (some ⟨b1,0,none⟩),u2,u3,u4,.string (bs x),.string (bs y),u7,u8,u9,u10,u11,u12,u13,u14,.slice (some ⟨pb,po,none⟩) p.length c3,u16,.slice (some ⟨qb,qo,none⟩) q.length c4,u18,u19,u20,u21,u22,u23,u24,u25,u26,u27,u28,u29,u30,u31,u32,u33,u34,u35,u36,u37,u38,u39,u40,u41,u42,u43,u44,u45,u46,u47,u48,u49,u50,u51,u52,u53,u54,u55,u56,u57,u58,u59,u60,u61,u62,u63,u64,u65,u66,u67,u68,u69,u70,u71,u72,u73,u74,u75,u76,u77,u78,u79,u80,u81,u82,u83,u84,u85,u86,u87,u88,u89,u90,u91,u92,u93,u94,u95,u96,u97,u98,undef,undef,undef,undef,undef,undef,undef,undef,undef,undef,undef,undef,undef,undef,undef,undef,undef,undef,undef,undef,undef,undef,undef,undef,undef,undef,undef,undef,undef,undef,undef],defers:=[] } W:=by
    intro w5 u2 u3 u4 u7 u8 u9 u10 u11 u12 u13 u14 u16 u18 u19 u20 u21 u22 u23 u24 u25 u26 u27 u28 u29 u30 u31 u32 u33 u34 u35 u36 u37 u38 u39 u40 u41 u42 u43 u44 u45 u46 u47 u48 u49 u50 u51 u52 u53 u54 u55 u56 u57 u58 u59 u60 u61 u62 u63 u64 u65 u66 u67 u68 u69 u70 u71 u72 u73 u74 u75 u76 u77 u78 u79 u80 u81 u82 u83 u84 u85 u86 u87 u88 u89 u90 u91 u92 u93 u94 u95 u96 u97 u98 hR;have aa:=au hR;refine aA _ _ ?_;clear aA Kj hR;refine wpIn_seq_k ?_;intro K1 af;have cut:∀ (W:World) (u2 u3 u4 u7 u8 u9 u10 u11 u12 u13 u14 u16 u18 u19 u20 u21 u22 u23 u24 u25 u26 u27 u28 u29 u30 u31 u32 u33 u34 u35 u36 u37 u38 u39 u40 u41 u42 u43 u44 u45 u46 u47 u48 u49 u50 u51 u52 u53 u54 u55 u56 u57 u58 u59 u60 u61 u62 u63 u64 u65 u66 u67 u68 u69 u70 u71 u72 u73 u74 u75 u76 u77 u78 u79 u80 u81 u82 u83 u84 u85 u86 u87 u88 u89 u90 u91 u92 u93 u94 u95 u96 u97 u98 u99 u100 u101 u102 u103 u104 u105 u106 u107 u108 u109 u110 u111 u112 u113 u114 u115:Value),aI F0 w0 (aj Y1 (X (us.length*vs.length+if p.length=1 then 1 else 0))) W->K1 { tmps:=#[.func (.yield lo) #[] #[],.pointer (some ⟨b1,0,none⟩),u2,u3,u4,.string (bs x),.string (bs y),u7,u8,u9,u10,u11,u12,u13,u14,.slice (some ⟨pb,po,none⟩) p.length c3,u16,.slice (some ⟨qb,qo,none⟩) q.length c4,u18,u19,u20,u21,u22,u23,u24,u25,u26,u27,u28,u29,u30,u31,u32,u33,u34,u35,u36,u37,u38,u39,u40,u41,u42,u43,u44,u45,u46,u47,u48,u49,u50,u51,u52,u53,u54,u55,u56,u57,u58,u59,u60,u61,u62,u63,u64,u65,u66,u67,u68,u69,u70,u71,u72,u73,u74,u75,u76,u77,u78,u79,u80,u81,u82,u83,u84,u85,u86,u87,u88,u89,u90,u91,u92,u93,u94,u95,u96,u97,u98,u99,u100,u101,u102,u103,u104,u105,u106,u107,u108,u109,u110,u111,u112,u113,u114,u115,undef,undef,undef,undef,undef,undef,undef,undef,undef,undef,undef,undef,undef,undef],defers:=[] } W:=by
     intro W u2 u3 u4 u7 u8 u9 u10 u11 u12 u13 u14 u16 u18 u19 u20 u21 u22 u23 u24 u25 u26 u27 u28 u29 u30 u31 u32 u33 u34 u35 u36 u37 u38 u39 u40 u41 u42 u43 u44 u45 u46 u47 u48 u49 u50 u51 u52 u53 u54 u55 u56 u57 u58 u59 u60 u61 u62 u63 u64 u65 u66 u67 u68 u69 u70 u71 u72 u73 u74 u75 u76 u77 u78 u79 u80 u81 u82 u83 u84 u85 u86 u87 u88 u89 u90 u91 u92 u93 u94 u95 u96 u97 u98 u99 u100 u101 u102 u103 u104 u105 u106 u107 u108 u109 u110 u111 u112 u113 u114 u115 hR;have HR:=au hR;refine af _ _ ?_;clear af K1 H2 aa hR;by_cases hq:q.length=1
     ·have t2:((q.length:Int)==1)=true:=by simp[hq]
      obtain⟨M,aw⟩:=H3.o hq;clear hq;have bf:=au aw;clear aw;have br:0<p.length:=by omega
      gi_wp2_with fail
      have I:=au (HR.o.drew aO);refine oP 10 (fun W=>W.cell? ⟨b1,5,none⟩=some (.int .i64 T.ini)/\W.cell? ⟨pb,po,none⟩=some (.string (bs (ic p)))/\W.cell? ⟨qb,qo,none⟩=some (.string (bs (ic q)))) rfl eQ eQ (fun _ _ _ _ h=>h) (HC.o _ _ I.o) ?_;have hw:=HY.o _ _ M Y1 aO _ I.o;simp only[Eh,jI] at hw;obtain⟨fn,tmps,assign,body,hy,hround⟩:=hw;have J:=au hround;clear hround M H3 H4 HY
      (repeat(first|refine VZ ?_|refine V3 ?_))
      refine Qb rfl fY (fun K hK=>?_)
      gi_wp2_with fail
      try rw[hy]
      refine⟨fun h=>(by cases h),?_⟩;refine J.o.mono ?_;rintro e W3 h3;have an:=au (HF.o _ ad W3 (h3.imp (fun h=>by rw[bf.o];exact h.2) (fun h=>h.2)));have ab:=h3.elim (fun h=>HC.o _ _ h.2) (fun h=>HC.o _ _ h.2);have ac:=au (show e=.returned (.bool true)\/e=.returned (.bool false) from h3.imp (fun h=>h.1) (fun h=>h.1));clear J I h3 hy HR;rcases ac.o with rfl|rfl
      all_goals
       dsimp only;refine hK.o _ _ ab ?_;clear hK ab;refine IB ?_;gi_wp2
       first|refine bodyPost_end (results_none rfl _ _ _) rfl ?_|refine bodyPost_ret (results_none rfl _ _ _) rfl ?_
       exact an.o
     ·have t2:((q.length:Int)==1)=false:=by simp;omega
      have an:=au (HF.o _ ad W (.inl (by rw[H4.o hq];exact HR.o)));clear H3 H4 HR;gi_wp2
      first|refine bodyPost_end (results_none rfl _ _ _) rfl ?_|refine bodyPost_ret (results_none rfl _ _ _) rfl ?_
      exact an.o
    by_cases hp:p.length=1
    ·have t1:((p.length:Int)==1)=true:=by simp[hp]
     have M:=H2.o hp;have HP:=au hp;clear hp;have bu:0<q.length:=by omega
     have I:=au (aa.o.drew aO);refine wpIn_seq (oP 14 (fun W=>W.cell? ⟨b1,5,none⟩=some (.int .i64 T.ini)/\W.cell? ⟨pb,po,none⟩=some (.string (bs (ic p)))/\W.cell? ⟨qb,qo,none⟩=some (.string (bs (ic q)))) rfl eQ eQ (fun _ _ _ _ h=>h) (HC.o _ _ I.o) ?_);have hw:=HY.o _ _ M Y1 aO _ I.o;simp only[Eh,jI] at hw;obtain⟨fn,tmps,assign,body,hy,hround⟩:=hw;have J:=au hround;clear hround M H2 H3 H4 HY aa
     (repeat(first|refine VZ ?_|refine V3 ?_))
     refine Qb rfl fY (fun K hK=>?_)
     gi_wp2_with fail
     try rw[hy]
     refine⟨fun h=>(by cases h),?_⟩;refine J.o.mono ?_;rintro e W3 (⟨rfl,h3⟩|⟨rfl,h3⟩)
     ·have H9:=au h3;have ab:=HC.o _ _ h3;clear J I h3 hy;dsimp only;refine hK.o _ _ ab ?_;clear hK ab
      (repeat(first|refine VZ ?_|refine V3 ?_))
      refine IB ?_
      gi_wp2_with fail
      try apply cut
      try rw[if_pos HP.o]
      exact H9.o
     ·have ac:=au (HF.o _ ad W3 (.inr h3));have ab:=HC.o _ _ h3;clear J I h3 hy cut;dsimp only;refine hK.o _ _ ab ?_;clear hK ab
      (repeat(first|refine VZ ?_|refine V3 ?_))
      refine IB ?_;gi_wp2;refine bodyPost_ret (results_none rfl _ _ _) rfl ?_;exact ac.o
    ·have t1:((p.length:Int)==1)=false:=by simp;omega
     have I:=au (aa.o.drew aO);refine wpIn_seq (oP 14 (fun _=>True) rfl eQ eQ (fun _ _ _ _ h=>h) trivial ?_);clear H2 H3 H4 HY aa
     (repeat(first|refine VZ ?_|refine V3 ?_))
     refine IB ?_
     gi_wp2_with fail
     try apply cut
     try rw[if_neg hp]
     exact I.o
   apply a7;exact aa.o
end Go.Proofs.YtbioiclabmbedaaGreatDoor
namespace Go.CH.Sil
open Go.RowKit Go.CH.Scr Go.CH.dh Go.CH.Mtc
structure L3 where
 A:eV
 c:Nat
structure PL where
 p:DG
 A:eV
 c:Nat
def rT (e:PL):List Value:=[.int .i64 e.p.kd,.int .i64 e.p.l,.int .i64 e.p.r,.int .i64 e.p.h,.slice e.A e.p.C.length e.c]
theorem Mr (e:PL):(rT e).length=5:=rfl
structure WL where
 i:Int
 j:Int
 h:Int
 ps:List PL
 A:eV
 c:Nat
def WL.m (e:WL):Wb:=⟨e.i,e.j,e.h,e.ps.map (·.p)⟩
def Jk (e:WL):Array Value:=(js e.i e.j e.h e.A e.ps.length e.c)
def mJ (e:WL):List Value:=[.int .i64 e.i,.int .i64 e.j,.int .i64 e.h,.slice e.A e.ps.length e.c]
theorem XF (e:WL):(mJ e).length=4:=rfl
end Go.CH.Sil
namespace Go.Proofs.YtbioiclabmbedaaGreatDoor
open Go.RowKit Go.CH Go.CH.Scr Go.CH.dh Go.CH.Mtc Go.CH.Sil
open Go.ChangeMaps (setBlock)
structure QU (w:World) (A:eV) (l:List PL):Prop where
 row:sD rT 5 w A l
 all:∀ e ∈ l,zH w e.A e.p.C
variable {w w':World}{A:eV}{c:Nat}{F:Nat->Prop}
theorem QU.below   {l:List PL} (h:QU w A l) (hb:Below w.heap.size w w'):QU w' A l:=⟨sD.below h.row hb,fun e he=>sD.below (h.all e he) hb⟩
structure Bi (w:World) (A:eV) (l:List WL):Prop where
 row:sD mJ 4 w A l
 all:∀ e ∈ l,QU w e.A e.ps
theorem Bi.below   {l:List WL} (h:Bi w A l) (hb:Below w.heap.size w w'):Bi w' A l:=⟨sD.below h.row hb,fun e he=>(h.all e he).below hb⟩
def EE (e:PL):CH.aT:=sG e.A e.c e.p.C
def y7 (A:eV) (c:Nat) (l:List PL):CH.aT:=aj (aV 58 5 (.slice A l.length c) l.length (l.flatMap rT)) (aL (l.map EE))
theorem QV   {l:List PL}:(y7 A c l).Ok:=aB dK (lG fun A hA=>by obtain⟨e,_,rfl⟩:=List.mem_map.1 hA;exact tQ)
instance {A:eV} {c:Nat} {l:List PL}:(y7 A c l).Ok:=QV
def Yw (e:WL):CH.aT:=y7 e.A e.c e.ps
def zi (A:eV) (c:Nat) (l:List WL):CH.aT:=aj (aV 55 4 (.slice A l.length c) l.length (l.flatMap mJ)) (aL (l.map Yw))
theorem XG   {l:List WL}:(zi A c l).Ok:=aB dK (lG fun A hA=>by obtain⟨e,_,rfl⟩:=List.mem_map.1 hA;exact QV)
instance {A:eV} {c:Nat} {l:List WL}:(zi A c l).Ok:=XG
theorem Ee (l:List PL):∀ u ∈ l.flatMap rT,u.oneCell'=true:=by
 intro u hu;obtain⟨e,-,h⟩:=List.mem_flatMap.1 hu;simp only[rT,pA,CM,or_false] at h;rcases h with rfl|rfl|rfl|rfl|rfl<;>rfl
theorem Ef (l:List WL):∀ u ∈ l.flatMap mJ,u.oneCell'=true:=by
 intro u hu;obtain⟨e,-,h⟩:=List.mem_flatMap.1 hu;simp only[mJ,pA,CM,or_false] at h;rcases h with rfl|rfl|rfl|rfl<;>rfl
theorem Jc {α:Type} {O:α->CH.aT} {R:World->α->Prop} (h:∀ w F x,O x w F->R w x) {w:World}:∀ {l:List α} {F:Nat->Prop},aL (l.map O) w F->∀ x ∈ l,R w x
 | [],_,_,x,hx=>by cases hx
 | y::l,F,hb,x,hx=>by
  obtain⟨M,F2,J,I,-,-⟩:=hb;rcases List.mem_cons.1 hx with rfl|hx
  ·exact h _ _ _ J
  ·exact Jc h I x hx
theorem aeb   {C:List Pt}   (h:sG A c C w F):zH w A C:=iG h (vY C)
theorem aeL   {l:List PL}   (h:y7 A c l w F):QU w A l:=by
 obtain⟨F1,F2,h1,h2,-,-⟩:=h;exact⟨iG h1 (Ee l),Jc (R:=fun w (e:PL)=>zH w e.A e.p.C) (fun _ _ _ h=>aeb h) h2⟩
theorem aeM   {l:List WL}   (h:zi A c l w F):Bi w A l:=by
 obtain⟨F1,F2,h1,h2,-,-⟩:=h;exact⟨iG h1 (Ef l),Jc (R:=fun w (e:WL)=>QU w e.A e.ps) (fun _ _ _ h=>aeL h) h2⟩
structure SL where
 b:Int
 ws:List WL
 U:List Int
 V:List Int
 G:List Int
 A:eV
 c:Nat
 u:L3
 v:L3
 g:L3
def SL.m (s:SL):Sl:=⟨s.b,s.ws.map WL.m,s.U,s.V,s.G⟩
def jh (s:SL):Array Value:=(ie s.b s.A s.ws.length s.c s.u.A s.U.length s.u.c s.v.A s.V.length s.v.c s.g.A s.G.length s.g.c)
structure SR (w:World) (s:SL):Prop where
 ws:Bi w s.A s.ws
 u:iF w s.u.A s.U
 v:iF w s.v.A s.V
 g:iF w s.g.A s.G
theorem SR.below  {s:SL} (h:SR w s) (hb:Below w.heap.size w w'):SR w' s:=⟨h.ws.below hb,h.u.below hb,h.v.below hb,h.g.below hb⟩
end Go.Proofs.YtbioiclabmbedaaGreatDoor
namespace Go.CH.Sil
open Go.RowKit Go.CH.Scr Go.CH.dh Go.CH.Mtc
structure Mv (T:eW) (k k2 bd:Int) (ws:List Wy) (i0 j0 n:Nat) (z:WL):Prop where
 ri:z.i=i0
 rj:z.j=j0
 rh:z.h=ED T k k2 bd (ws.take n)
 rl:z.ps.length=n
 rp:∀ m (h:m<ws.length) (h':m<z.ps.length),AB T k k2 bd ws[m] z.ps[m].p
theorem XK (l:List Bs):(ic l).length<=l.flatten.length:=by
 cases l with
 | nil=>exact fw _
 | cons z l=>show z.length<=_;rw[Fs,gd];omega
variable {T:eW}{k k2 bd:Int}{y:Bs}{ws:List Wy}{n i0 c:Nat}{e:PL}{A:eV}
theorem Ah   {x:Bs} {w:Wy} (h:w ∈ eU T k x k2 y) (M:word k x=true) (hy:word k2 y=true):w.x.length<=x.length/\w.y.length<=y.length:=by
 have J:=XK (raw k x);have I:=XK (raw k2 y);rw[show(raw k x).flatten=x from uO M] at J;rw[show(raw k2 y).flatten=y from uO hy] at I;rcases mo.1 h with⟨u,hu,v,hv,rfl⟩|⟨-,rfl⟩|⟨-,rfl⟩
 ·exact⟨Ca hu,Ca hv⟩
 ·exact⟨fy _,I⟩
 ·exact⟨J,fy _⟩
theorem TI   {x:Bs} (I:bL T=true):(eU T k x k2 y).length<=2000:=by
 have M:=lJ (k:=k) (x:=x) I;have J:=lJ (k:=k2) (x:=y) I;have h3:(eX T k x).length*(eX T k2 y).length<=41*41:=tv M J;unfold eU rZ;rw[gd,gd,Go.Proofs.YtbioiclabmbedaaGreatDoor.mH];have h:∀ (p:Prop) [Decidable p] (w:Wy),(if p then [w] else []).length<=1:=fun p _ w=>by split<;>simp
 have:=h ((raw k x).length=1) ⟨2,-1,-1,T.ini,x,ic (raw k2 y)⟩;have:=h ((raw k2 y).length=1) ⟨3,-1,-1,T.ini,ic (raw k x),y⟩;omega
theorem XL    (h0:0<=bd) (hw:∀ w ∈ ws,0<=w.c):0<=ED T k k2 bd ws/\ED T k k2 bd ws<=bd:=by
 unfold ED;obtain⟨J,-,h⟩:=BL (ws.map (pz T k k2 bd)) bd;refine⟨?_,J⟩;rcases h with h|h
 ·omega
 ·obtain⟨w,I,M⟩:=List.mem_map.1 h;rw[<-M];have:=hw w I;unfold pz;split
  ·rename_i d hd;have:=(oq hd).1;omega
  ·exact h0
theorem TJ     (h:n<ws.length):ED T k k2 bd (ws.take (n+1))=min (ED T k k2 bd (ws.take n)) (pz T k k2 bd ws[n]):=by
 unfold ED;rw[kq h,km,IA];rfl
theorem Mv.next    {M:Nat} {z:WL} (h:Mv T k k2 bd ws i0 M n z) (hn:n<ws.length)  (he:AB T k k2 bd ws[n] e.p)   :
  Mv T k k2 bd ws i0 M (n+1) ⟨z.i,z.j,min z.h (pz T k k2 bd ws[n]),z.ps++[e],A,c⟩:=by
 refine⟨h.ri,h.rj,by rw[TJ hn,h.rh],by simp[h.rl],fun m hm J=>?_⟩;by_cases I:m<z.ps.length
 ·show AB T k k2 bd ws[m] (z.ps++[e])[m].p
  rw[NL I];exact h.rp m hm I
 ·have hl:=h.rl;obtain rfl:m=n:=by simp at J;omega
  show AB T k k2 bd ws[m] (z.ps++[e])[m].p
  rw[yv eL];simp[hl];exact he
end Go.CH.Sil
namespace Go.Proofs.YtbioiclabmbedaaGreatDoor
open Go.RowKit Go.CH Go.CH.Scr Go.CH.dh Go.CH.Mtc Go.CH.Sil
open Go.ChangeMaps (setBlock)
attribute [local go_sem] nz
instance {A:eV} {c:Nat} {l:List PL}:(y7 A c l).Ok:=QV
instance {g:Nat} {o:Obj}:(aW g o).Ok:=bg
instance {A:eV} {c:Nat} {l:List Int}:(bE A c l).Ok:=fq
instance {A:eV} {c:Nat} {C:List Pt}:(sG A c C).Ok:=tQ
variable {F0 F:Nat->Prop}{w0 W w:World}{X:CH.aT}{A:eV}{c i0 j0 g n i j:Nat}{e:PL}{T:eW}{k k2 bd:Int}{ws:List Wy}
theorem _root_.Go.CH.aI.nm    (h:aI F0 w0 X W):∃ W',W=W'/\aI F0 w0 X W':=⟨W,rfl,h⟩
theorem ada (w:World):bT w eR (y7 none 0 []) w:=⟨fun _=>False,⟨fun _=>False,fun _=>False,fT w 58 5,fun _ h=>h,fun _ h=>h.elim,fun i=>by simp⟩,Mod.refl _ _,fun i hi=>.inl hi⟩
theorem QW:eB Tryz.prog 53 58 (.agg (lL 0 0 0 0 none 0 0)) 5 56:=⟨Tryz.underlying53,by kernel_rfl,by decide,by decide⟩
instance {l:List PL}:(aL (l.map EE)).Ok:=lG fun A hA=>by obtain ⟨e,_,rfl⟩:=List.mem_map.1 hA;exact tQ
theorem aaY   {l:List PL}    (h:aj (aV 58 5 (.slice A (l.length+1) c) (l.length+1) (l.flatMap rT++rT e)) (aj (sG e.A e.c e.p.C) (aL (l.map EE))) w F):y7 A c (l++[e]) w F:=by
 unfold y7;rw[gd,tW,vi,km];exact bD h (fun _ h=>h) (fun _ h=>yO h)
def SU (w:World) (T:eW) (a b:aQ) (bd:Int) (i j:Nat) (e:Ending) (w':World):Prop:=
 ∃ z:WL,e=.returned (.agg (Jk z))/\Dj T a b bd i j z.m/\bT w eR (y7 z.A z.c z.ps) w'
def vb (T:eW) (k k2 bd:Int) (ws:List Wy) (i0 j0 g:Nat) (X:CH.aT) (n:Nat):CH.aT:=lQ fun z:WL=>sM (Mv T k k2 bd ws i0 j0 n z) (aj (av g (Jk z) 55) (aj (y7 z.A z.c z.ps) X))
theorem XM      (hX:X.Ok) :(vb T k k2 bd ws i0 j0 g X n).Ok:=bX fun _=>gG aO
instance {T:eW} {k k2 bd:Int} {ws:List Wy} {i0 j0 g:Nat} {X:CH.aT} [hX:X.Ok] {n:Nat}:(vb T k k2 bd ws i0 j0 g X n).Ok:=XM hX
theorem XO     {R:CH.aT}   (z:WL) (h1:Mv T k k2 bd ws i0 j0 n z) (h:aI F0 w0 (aj (aj (av g (Jk z) 55) (aj (y7 z.A z.c z.ps) X)) R) W):aI F0 w0 (aj (vb T k k2 bd ws i0 j0 g X n) R) W:=
 aI.nT z (aI.iQ h1 h)
theorem XP    {J I:Nat} {R:CH.aT}   (h:aI F0 w0 (aj (vb T k k2 bd ws J I g X n) R) W):∃ z:WL,Mv T k k2 bd ws J I n z/\aI F0 w0 (aj (av g (Jk z) 55) (aj (y7 z.A z.c z.ps) (aj X R))) W:=by
 obtain⟨z,h⟩:=h.ex;obtain⟨M,h⟩:=h.pure;exact⟨z,M,h.perm (by ac_rfl)⟩
abbrev _root_.Go.oB (T:eW)(t:TA)(a:aQ)(A:eV)(c:Nat)(b:aQ)(B:eV)(d:Nat):Array Value:=sy t.A T.rs.length t.c t.D T.ds.length t.d t.E T.es.length t.e T.drop T.ord T.ini a.k A a.ws.length c b.k B b.ws.length d
theorem OA   {t:TA} {a b:aQ} {An Bn:eV} {ca cb:Nat}  (hN:wy w T t a b An Bn) (a4:nK T a b=true) (hi:i<a.ws.length) (hj:j<b.ws.length) (h0:0<=bd) (br:bd<=100000) :
  Calls Tryz.prog 29 #[.agg (jQ T t a b An Bn ca cb),.int .i64 (i:Int),.int .i64 (j:Int),.int .i64 bd] w (SU w T a b bd i j):=by
 obtain⟨hv,ha,hb⟩:=dW.1 a4;have ax:=jq ha hi;have ao:=jq hb hj;have h1:=aH (aI.begin w) aO (jQ T t a b An Bn ca cb) 93;have h2:=aH h1 aO (fL bd) 3;have h3:=aH h2 aO (js 0 0 0 none 0 0) 55;have h4:=aH h3 aO (js (i:Int) (j:Int) bd none 0 0) 55;simp only[im] at h4;have H4:=au h4;have KW:=au (fun W=>GI (T:=T) (t:=t) (a:=a) (b:=b) (An:=An) (Bn:=Bn) (ca:=ca) (cb:=cb) i j W);have ai:=au (fun b1 b2 b3=>Ei (T:=T) (t:=t) (a:=a) (b:=b) (An:=An) (Bn:=Bn) (ca:=ca) (cb:=cb) (b1:=b1) (b2:=b2) (b3:=b3) a4 hi hj);obtain⟨ws,aa⟩:∃ ws,ws=eU T a.k (wd a i) b.k (wd b j):=⟨_,rfl⟩;rw[<-aa] at ai;have bo:=au aa;have bv:(wd a i).length<=1000000:=by unfold wd;rw[kj,gR hi];exact hN.wa _ (gv hi)
 have bu:(wd b j).length<=1000000:=by unfold wd;rw[kj,gR hj];exact hN.wb _ (gv hj)
 have ab:∀ W,Mod eR w W->Below w.heap.size w W:=fun W hm=>hm.below (fun _ _ h=>h);have ae:∀ z ∈ ws,z.x.length<=1000000/\z.y.length<=1000000:=fun z hz=>by
  have:=Ah (show z ∈ eU T a.k (wd a i) b.k (wd b j) from aa ▸ hz) ax ao;omega
 have KB:=au (fun W (hm:Mod eR w W) (z:Wy) (hz:z ∈ ws)=>uh (hN.ft.below (ab W hm)) (hN.fz.below (ab W hm)) a.k z.x b.k z.y (ae z hz).1 (ae z hz).2);have KM:=au (fun W (hm:Mod eR w W) (z:Wy) (hz:z ∈ ws) (ap:Int)=>UL (hN.ft.below (ab W hm)) (hN.fz.below (ab W hm)) a.k z.x b.k z.y ap (ae z hz).1 (ae z hz).2);have bn:=au (fun (z:Wy) (hz:z ∈ ws)=>(yg hv ax ao (aa ▸ hz)).2)
 have be:=au (fun (n:Nat) (y:WL) (hn:n<=ws.length) (hp:Mv T a.k b.k bd ws i j n y)=>(show 0<=y.h/\y.h<=100000/\y.ps.length<=100000 from by
  have h3:=XL (T:=T) (k:=a.k) (k2:=b.k) (bd:=bd) (ws:=ws.take n) h0 (fun w hw=>(yg hv ax ao (aa ▸ xn hw)).2.1);have h4:=TI (T:=T) (k:=a.k) (x:=wd a i) (k2:=b.k) (y:=wd b j) hv;rw[<-aa] at h4;have:=hp.rh;have:=hp.rl
  omega))
 have bj:=au (fun (z:Wy) (hz:0<=z.c)=>(show 0<=pz T a.k b.k bd z/\pz T a.k b.k bd z<=100000 from by
  unfold pz;split
  ·rename_i d hd;have:=(oq hd).1;omega
  ·omega))
 have ba:=au (fun W (hm:Mod eR w W)=>hN.below (hm.below (fun _ _ h=>h)));clear h1 h2 h3 h4 aa;unfold jQ at H4 KW ai ⊢;refine(callsIn_wide (n:=8)).1 ?_;refine callsIn_of_wp_marks Tryz.func29 rfl trivial ?_ rfl;simp only[Tryz.ntmps29,pT,j7,lA,Nat.reduceAdd,Nat.reduceSub,qu,qS,re,qT,l4,pd];refine(wpIn_wide (n:=8)).2 ?_;go_upto_region 2 with (fail);obtain⟨w5,aA,h5⟩:=H4.o.nm;rw[aA];clear H4 aA;generalize w.heap.size+1+1+1=g9 at *
 generalize w.heap.size+1+1=g8 at *
 generalize w.heap.size+1=g7 at *
 generalize bh:w.heap.size=g4 at h5 ⊢;clear bh;have H5:=au h5;obtain⟨_,f4⟩:=h5.drop.drop.drop.fst;have n0:=ay (i:=0) f4 rfl;have n1:=ay (i:=1) f4 rfl;have n2:=ay (i:=2) f4 rfl;have n3:=ay (i:=3) f4 rfl;have n4:=ay (i:=4) f4 rfl;have n5:=ay (i:=5) f4 rfl;have n6:=ay (i:=6) f4 rfl;have n7:=ay (i:=7) f4 rfl;have n8:=ay (i:=8) f4 rfl;have n9:=ay (i:=9) f4 rfl;have aE:=au (KW.o w5);clear KW h5 f4;go_wp2_with fail;refine aE.o.mono ?_;rintro e9 w6 ⟨b1,b2,b3,rfl,hp⟩;have H6:=au (H5.o.fresh aO hp);clear aE H5 hp n0 n1 n2 n3 n4 n5 n6 n7 n8 n9;dsimp only;go_wp2_with fail;have a6:=au (ai.o b1 b2 b3);clear ai;obtain⟨B,hB⟩:∃ B:CH.aT,B=aj (av g8 (js 0 0 0 none 0 0) 55) (aj (av g7 (fL bd) 3) (aj (av g4 (oB T t a An ca b Bn cb) 93) bG)):=⟨_,rfl⟩;have bp:B.Ok:=by rw[hB];exact aO
 have bb:=au (show aI eR w (aj (Zs (oB T t a An ca b Bn cb) i j b1 b2 b3) (vb T a.k b.k bd ws i j g9 B 0)) w6 from
  (XO ⟨i,j,bd,[],none,0⟩ ⟨rfl,rfl,rfl,rfl,fun _ _ h=>absurd h (nB _)⟩ ((H6.o.fresh aO (ada w6)).perm (by rw[hB];ac_rfl:_=aj (aj (av g9 (js (i:Int) (j:Int) bd none 0 0) 55) (aj (y7 none 0 []) B)) (Zs (oB T t a An ca b Bn cb) i j b1 b2 b3)))).swap)
 have HB:=au (fun W (X:CH.aT) (h:aI eR w (aj B X) W)=>(show W.cell? ⟨g7,0,none⟩=some (.int .i64 bd)/\(lR W g4 (.slice t.A T.rs.length t.c) (.slice t.D T.ds.length t.d) (.slice t.E T.es.length t.e) (.int .i64 T.drop) (.int .i64 T.ord) (.int .i64 T.ini))/\W.cell? ⟨g4,6,none⟩=some (.int .i64 a.k)/\W.cell? ⟨g4,8,none⟩=some (.int .i64 b.k) from by
  rw[hB] at h;obtain⟨_,f7⟩:=h.assoc.drop.assoc.fst;obtain⟨_,f4⟩:=h.assoc.drop.assoc.drop.assoc.fst
  exact⟨ay f7 rfl,⟨ay f4 rfl,ay f4 rfl,ay f4 rfl,ay f4 rfl,ay f4 rfl,ay f4 rfl⟩,ay f4 rfl,ay f4 rfl⟩))
 have bi:=au hB;clear H6 hB;have a1:∀ (n:Nat) (a':Act),((fun n a'=>lQ fun g10:Nat=>lQ fun z:Wy=>sM (ws[n]?=some z/\a'={ tmps:=#[.agg (oB T t a An ca b Bn cb),.int .i64 (i:Int),.int .i64 (j:Int),.int .i64 bd,.pointer (some ⟨g4,0,none⟩),undef,undef,.pointer (some ⟨g7,0,none⟩),.pointer (some ⟨g8,0,none⟩),.pointer (some ⟨g9,0,none⟩),.pointer (some ⟨g10,0,none⟩),undef,undef,undef,undef,undef,.int .i64 (i:Int),.int .i64 (j:Int),.int .i64 bd,.agg (js (i:Int) (j:Int) bd none 0 0),.agg (oB T t a An ca b Bn cb),.int .i64 (i:Int),.int .i64 (j:Int),Bm b1 b2 b3,.agg (jI z),undef,undef,undef,undef,undef,undef,undef,undef,undef,undef,undef,undef,undef,undef,undef,undef,undef,undef,undef,undef,undef,undef,undef,undef,undef,undef,undef,undef,undef,undef,undef,undef,undef,undef,undef,undef,undef,undef,undef,undef,undef,undef,undef,undef,undef,undef,undef,undef,undef,undef,undef,undef,undef,undef,undef,undef,undef,undef,undef,undef,undef,undef,undef,undef,undef,undef,undef,undef,undef,undef],defers:=[] }) (aj (av g10 (jI z) 137) (vb T a.k b.k bd ws i j g9 B n))) n a').Ok:=fun _ _=>bX fun _=>bX fun _=>gG aO;refine oQ (gf:=72) (lb:=(vu (some ⟨b1,0,none⟩) (some ⟨b2,0,none⟩) (some ⟨b3,0,none⟩))) rfl (enters_of Tryz.func72 eQ rfl) a6.o aO (fun _=>rfl) ba.o (fun n=>vb T a.k b.k bd ws i j g9 B n) (fun _=>vy) (fun n=>XM bp) _ a1 (fun _=>Fu) bb.o ?_ ?_ ?_ ?_
 ·intro lo m n hn R' W1 K hR hI hK;have h3:=aH hI aO (jI ws[n]) 137;have HF:=au (hK { tmps:=#[.agg (oB T t a An ca b Bn cb),.int .i64 (i:Int),.int .i64 (j:Int),.int .i64 bd,.pointer (some ⟨g4,0,none⟩),undef,undef,.pointer (some ⟨g7,0,none⟩),.pointer (some ⟨g8,0,none⟩),.pointer (some ⟨g9,0,none⟩),.pointer (some ⟨W1.heap.size,0,none⟩),undef,undef,undef,undef,undef,.int .i64 (i:Int),.int .i64 (j:Int),.int .i64 bd,.agg (js (i:Int) (j:Int) bd none 0 0),.agg (oB T t a An ca b Bn cb),.int .i64 (i:Int),.int .i64 (j:Int),Bm b1 b2 b3,.agg (jI ws[n]),undef,undef,undef,undef,undef,undef,undef,undef,undef,undef,undef,undef,undef,undef,undef,undef,undef,undef,undef,undef,undef,undef,undef,undef,undef,undef,undef,undef,undef,undef,undef,undef,undef,undef,undef,undef,undef,undef,undef,undef,undef,undef,undef,undef,undef,undef,undef,undef,undef,undef,undef,undef,undef,undef,undef,undef,undef,undef,undef,undef,undef,undef,undef,undef,undef,undef,undef,undef,undef,undef],defers:=[] } (W1.alloc (.cells (jI ws[n]) 137)) (aI.nT W1.heap.size (aI.nT ws[n] (aI.iQ ⟨gR hn,rfl⟩ (h3.perm (by ac_rfl))))));clear hI h3 hK;unfold Eh;generalize ws[n]=z at *
  obtain⟨I,zl,zr,zc,zx,zy⟩:=z;unfold jI at HF ⊢;dsimp only at HF ⊢;gi_wp2;exact HF.o
 ·intro lo m n hn a' R' W1 hR hI;obtain⟨g10,h1⟩:=hI.ex;obtain⟨z,h1⟩:=h1.ex;obtain⟨⟨ar,rfl⟩,h2⟩:=h1.pure;have ak:ws[n]=z:=by rw[gR hn] at ar;injection ar
  have am:z ∈ ws:=by rw[<-ak];exact gv hn
  obtain⟨y,J,h3⟩:=XP (h2.perm (by ac_rfl:_=aj (vb T a.k b.k bd ws i j g9 B n) (aj (av g10 (jI z) 137) R')))
  have az:=au (fun (e:PL) (he:AB T a.k b.k bd z e.p) (A:eV) (c:Nat)=>(show Mv T a.k b.k bd ws i j (n+1) ⟨y.i,y.j,min y.h (pz T a.k b.k bd z),y.ps++[e],A,c⟩ from by
   have:=J.next hn (e:=e) (A:=A) (c:=c) (by rw[ak];exact he)
   rw[ak] at this;exact this))
  have bc:0<=y.h/\y.h<=100000/\y.ps.length<=100000:=be.o n y eL J;have H3:=au (h3.perm (by ac_rfl:_=aj (av g10 (jI z) 137) (aj (av g9 (Jk y) 55) (aj B (aj (y7 y.A y.c y.ps) R')))));have a3:=bn.o z am;have al:=au (KB.o W1 H3.o.mod z am);have ag:=au (fun W hm ap=>KM.o W hm z am ap);clear hI h1 h2 h3 ar ak am hn J;obtain⟨I,zl,zr,zc,zx,zy⟩:=z;unfold jI Jk at H3;dsimp only at H3 a3 al ag ⊢;obtain⟨q0,q1,q2,q3,q4,q5⟩:=fu H3.o;obtain⟨x7,⟨t0,t1,t2,t3,t4,t5⟩,t6,t8⟩:=HB.o _ _ H3.o.drop.drop;refine wpIn_block (wpIn_seq (bR rfl (fun⟨a,w,h⟩=>h) ?_));go_wp2_with fail;refine wpIn_seq_k ?_;intro Kj aw;obtain⟨hh,ad⟩:∃ hh,hh=pz T a.k b.k bd ⟨I,zl,zr,zc,zx,zy⟩:=⟨_,rfl⟩;have HH:=au ad;have cut:∀ (W:World) (u12 u13 u24 u25 u26 u27 u28 u29 u30 u31 u32 u33 u34 u35 u36 u37 u38 u39 u40 u41 u42 u43 u44 u45 u46 u47 u48 u49 u50:Value),aI eR w (aj (av g10 (np I zl zr (bs zx) (bs zy) zc) 137) (aj (av g9 (js y.i y.j y.h y.A y.ps.length y.c) 55) (aj B (aj (y7 y.A y.c y.ps) R')))) W->Kj { tmps:=#[.agg (oB T t a An ca b Bn cb),.int .i64 (i:Int),.int .i64 (j:Int),.int .i64 bd,.pointer (some ⟨g4,0,none⟩),undef,undef,.pointer (some ⟨g7,0,none⟩),.pointer (some ⟨g8,0,none⟩),.pointer (some ⟨g9,0,none⟩),.pointer (some ⟨g10,0,none⟩),.int .i64 hh,u12,u13,undef,undef,.int .i64 (i:Int),.int .i64 (j:Int),.int .i64 bd,.agg (js (i:Int) (j:Int) bd none 0 0),.agg (oB T t a An ca b Bn cb),.int .i64 (i:Int),.int .i64 (j:Int),Bm b1 b2 b3,u24,u25,u26,u27,u28,u29,u30,u31,u32,u33,u34,u35,u36,u37,u38,u39,u40,u41,u42,u43,u44,u45,u46,u47,u48,u49,u50,undef,undef,undef,undef,undef,undef,undef,undef,undef,undef,undef,undef,undef,undef,undef,undef,undef,undef,undef,undef,undef,undef,undef,undef,undef,undef,undef,undef,undef,undef,undef,undef,undef,undef,undef,undef,undef,undef,undef,undef,undef,undef,undef,undef],defers:=[] } W:=by
   intro W u12 u13 u24 u25 u26 u27 u28 u29 u30 u31 u32 u33 u34 u35 u36 u37 u38 u39 u40 u41 u42 u43 u44 u45 u46 u47 u48 u49 u50 hR;have HR:=au hR;refine aw _ _ ?_;clear aw Kj hR al H3 q0 q1 q2 q3 q4 q5 x7 t0 t1 t2 t3 t4 t5 t6 t8;have bm:=bj.o ⟨I,zl,zr,zc,zx,zy⟩ a3.1;rw[<-ad] at bm;clear ad;have tw:wrap64 (hh-zc)=hh-zc:=rL _ eL;have a9:=au (ag.o W HR.o.mod (max 0 (hh-zc)));clear ag;obtain⟨q0,q1,q2,q3,q4,q5⟩:=fu HR.o;obtain⟨x7,⟨t0,t1,t2,t3,t4,t5⟩,t6,t8⟩:=HB.o _ _ HR.o.drop.drop;refine wpIn_seq (bR rfl (fun⟨a,w,h⟩=>h) ?_);go_wp2_with fail;refine a9.o.mono ?_;rintro e9 w3 ⟨A3,c3,C,er,rfl,hmk,hp⟩;have a0:=au (show AB T a.k b.k bd ⟨I,zl,zr,zc,zx,zy⟩ ⟨I,zl,zr,hh,C⟩ from⟨rfl,rfl,rfl,HH.o,er,hmk⟩);have H4:=au ((HR.o.fresh aO hp).perm (by ac_rfl:_=aj (av g9 (js y.i y.j y.h y.A y.ps.length y.c) 55) (aj (av g10 (np I zl zr (bs zx) (bs zy) zc) 137) (aj (sG A3 c3 C) (aj B (aj (y7 y.A y.c y.ps) R'))))));clear a9 HR hp hmk q0 q1 q2 q3 q4 q5 x7 t0 t1 t2 t3 t4 t5 t6 t8;dsimp only;go_wp2_with fail;obtain⟨y0,y1,y2,y3,yf⟩:=bq H4.o;have H5:=au (show aI eR w (aj (av g9 (js y.i y.j (min y.h hh) y.A y.ps.length y.c) 55) _) _ from aJ H4.o aO 2 (.int .i64 (min y.h hh)));refine wpIn_seq (bR rfl (fun⟨a,w,h⟩=>h) ?_);go_wp2_with fail;clear H4 y0 y1 y2 y3 yf;generalize w3.setCell ⟨g9,2,none⟩ (.int .i64 (min y.h hh))=w4 at *
   obtain⟨y0,y1,y2,y3,yf⟩:=bq H5.o;obtain⟨q0,q1,q2,q3,q4,q5⟩:=fu H5.o.drop;have bz:=bc.2.2;refine bR rfl (fun⟨a,w,h⟩=>h) ?_;have H6:=au (aH H5.o aO (lL I zl zr hh A3 C.length c3) 58);go_wp2_with (at_builtin;refine held ?_);clear y0 y1 y2 y3 yf q0 q1 q2 q3 q4 q5 H5;generalize w4.alloc (.cells (lL I zl zr hh A3 C.length c3) 58)=w5 at *
   generalize w4.heap.size=af at *
   obtain⟨_,f12⟩:=H6.o.fst;have a5:∀ (j:Nat) u,(rT ⟨⟨I,zl,zr,hh,C⟩,A3,c3⟩)[j]?=some u->w5.cell? ⟨af,j,none⟩=some u:=fun j u hu=>ay f12 (by unfold rT at hu;simpa using hu);refine lB.mk (Bb rfl QW eS (.tmp 78) (.tmp 91) rfl (A:=y.A) (c:=y.c) (n:=y.ps.length) (g:=af) (xs:=y.ps.flatMap rT) (cs:=rT ⟨⟨I,zl,zr,hh,C⟩,A3,c3⟩) rfl rfl eL aO (H6.o.perm (by unfold y7;ac_rfl:_=aj (aV 58 5 (.slice y.A y.ps.length y.c) y.ps.length (y.ps.flatMap rT)) (aj (av g9 (js y.i y.j (min y.h hh) y.A y.ps.length y.c) 55) (aj (aj (av g10 (np I zl zr (bs zx) (bs zy) zc) 137) (av af (lL I zl zr hh A3 C.length c3) 58)) (aj (sG A3 c3 C) (aj (aL (y.ps.map EE)) (aj B R'))))))) rfl (fun u hu=>Ee [⟨⟨I,zl,zr,hh,C⟩,A3,c3⟩] u (by simpa using hu)) a5 ?_);intro A9 c9 w6 a2;have h7:=a2.kN;obtain⟨y0,y1,y2,y3,yf⟩:=bq h7;have h8:aI eR w (aj (av g9 (js y.i y.j (min y.h hh) A9 (y.ps.length+1) c9) 55) _) _:=aJ h7 aO 3 (.slice A9 (y.ps.length+1) c9)
   have HF:=au (show aI eR w (aj (vb T a.k b.k bd ws i j g9 B (n+1)) R') _ from
    XO ⟨y.i,y.j,min y.h hh,y.ps++[⟨⟨I,zl,zr,hh,C⟩,A3,c3⟩],A9,c9⟩ (by rw[HH.o];exact az.o _ (by rw[<-HH.o];exact a0.o) A9 c9)
     (((h8.perm (by ac_rfl:_=aj (aj (av g10 (np I zl zr (bs zx) (bs zy) zc) 137) (av af (lL I zl zr hh A3 C.length c3) 58)) (aj (aj (av g9 (js y.i y.j (min y.h hh) A9 (y.ps.length+1) c9) 55) (aj (aj (aV 58 5 (.slice A9 (y.ps.length+1) c9) (y.ps.length+1) (y.ps.flatMap rT++rT ⟨⟨I,zl,zr,hh,C⟩,A3,c3⟩)) (aj (sG A3 c3 C) (aL (y.ps.map EE)))) B)) R'))).drop).imp fun w F h=>bD h (fun _ h=>bD h (fun _ h=>by unfold Jk;rw[gd];exact h) (fun _ h=>bD h (fun _ h=>aaY h) (fun _ h=>h))) (fun _ h=>h)))
   clear h7 h8 a2 H6 f12 a5 a0 az;go_wp2_with fail;exact HF.o
  clear aw;refine wpIn_seq (bR rfl (fun⟨a,w,h⟩=>h) ?_);go_wp2_with fail;refine al.o.mono ?_;rintro e9 w3 ⟨d,er,A2,c2,B2,d2,rfl,hbp,hp⟩;have aq:=au (Gc hbp);have H4:=au (H3.o.fresh aO hp);clear al H3 hp hbp q0 q1 q2 q3 q4 q5 x7 t0 t1 t2 t3 t4 t5 t6 t8 ag az;dsimp only;have H5:=au (aH H4.o aO (ki d.c A2 d.L.length c2 B2 d.M.length d2 (bs d.F)) 60);clear H4;go_wp2_with fail;generalize w3.alloc (.cells (ki d.c A2 d.L.length c2 B2 d.M.length d2 (bs d.F)) 60)=w4 at *
  generalize w3.heap.size=g11 at *
  rcases aq.o with⟨rfl,ac⟩|⟨aD,ac⟩
  ·have bw:=oq ac;have an:=au (show hh=min bd (d.c+zc) from by rw[HH.o];unfold pz;rw[ac]);clear ac aq ad HH;have tw:wrap64 (d.c+zc)=d.c+zc:=rL _ eL;obtain⟨e0,-⟩:=bq H5.o;obtain⟨-,-,-,-,-,q5⟩:=fu H5.o.drop.drop;have H6:=au (H5.o.drop.drop);clear H5;refine wpIn_seq (bR rfl (fun⟨a,w,h⟩=>h) ?_);go_wp2_with fail
   iterate 2 gi_step
   refine bR rfl (fun⟨a,w,h⟩=>h) ?_;go_wp2_with fail;rw[<-an.o];apply cut;exact H6.o
  ·have t1:(er==0)=false:=by simp[aD]
   have an:=au (show hh=bd from by rw[HH.o];unfold pz;rw[ac]);clear ac aq ad HH aD;have H6:=au (H5.o.drop.drop);clear H5;refine wpIn_seq (bR rfl (fun⟨a,w,h⟩=>h) ?_);go_wp2_with fail;gi_wp2;rw[an.o] at cut;apply cut;exact H6.o
 ·intro D R W1 hR hI;obtain⟨y,J,h3⟩:=XP hI
  have HW:=au (show Dj T a b bd i j y.m from by
   have hl:=J.rl;have hh:=J.rh;rw[ky] at hh;have hq:=bo.o;refine⟨J.ri,J.rj,by show y.h=_;rw[hh,hq];rfl,by show(y.ps.map _).length=_;rw[gh,hl,hq],fun m hm bk=>?_⟩;have a7:m<y.ps.length:=by have:m<(y.ps.map (·.p)).length:=bk;rw[gh] at this;exact this
   have:=J.rp m (by rw[hq];exact hm) a7;simp only[hq] at this;have e:(y.ps.map (fun x=>x.p))[m]'(by rw[gh];exact a7)=y.ps[m].p:=mA ..;rw[<-e] at this
   exact this)
  rw[bi.o] at h3;have H3:=au (h3.perm (by ac_rfl:_=aj (av g8 (js 0 0 0 none 0 0) 55) (aj (av g9 (Jk y) 55) (aj (aW D (.deferred (some []))) (aj (y7 y.A y.c y.ps) (aj R (aj (av g7 (fL bd) 3) (aj (av g4 (oB T t a An ca b Bn cb) 93) bG))))))));clear hI h3 J;unfold Jk at H3;obtain⟨z0,z1,z2,z3,zf⟩:=bq H3.o;obtain⟨y0,y1,y2,y3,-⟩:=bq H3.o.drop;have h4:=ug H3.o aO (.int .i64 y.i) (.int .i64 y.j) (.int .i64 y.h) (.slice y.A y.ps.length y.c);have H4:=au (h4.perm (by ac_rfl:_=aj (aW D (.deferred (some []))) (aj (av g8 (js y.i y.j y.h y.A y.ps.length y.c) 55) (aj (y7 y.A y.c y.ps) (aj (av g9 (js y.i y.j y.h y.A y.ps.length y.c) 55) (aj R (aj (av g7 (fL bd) 3) (aj (av g4 (oB T t a An ca b Bn cb) 93) bG))))))));clear h4;generalize w.heap.size=bx at *
  go_upto_region 11 with (fail);go_wp2_with fail;clear H3 z0 z1 z2 z3 zf y0 y1 y2 y3;generalize World.setCell _ _ _=W4 at *
  obtain⟨FD,hD,-,a8⟩:=H4.o.take bg aO;have HD:=au hD.1;have h8:=a8 _ _ (fH hD (.deferred none));obtain⟨_,f8⟩:=h8.drop.fst;have bf:=au f8.1;have HP:=au (h8.drop.drop.swap.drop.post aO);clear hD a8 h8 f8 H4;refine⟨by simp,.inl ⟨_,_,rfl,run_takeDeferred HD.o,?_⟩⟩;exact⟨_,results_cell_row rfl _ _ g8 55 _ (0,0) _ rfl bf.o Tryz.underlying55 rfl eQ,y,rfl,HW.o,HP.o⟩
 ·intro D c R W1 hR hI;exact hI.no.elim
variable {t:TA}{a b:aQ}{An Bn:eV}{ca cb:Nat}
theorem qY         (h:aI F0 w0 (aj (av g (jQ T t a b An Bn ca cb) 93) X) W) :
  (lR W g (.slice t.A T.rs.length t.c) (.slice t.D T.ds.length t.d) (.slice t.E T.es.length t.e) (.int .i64 T.drop) (.int .i64 T.ord) (.int .i64 T.ini)) /\
  (C5 W g (.int .i64 a.k) (.slice An a.ws.length ca) (.int .i64 b.k) (.slice Bn b.ws.length cb)):=by
 obtain⟨_,f⟩:=h.fst;exact⟨⟨ay f rfl,ay f rfl,ay f rfl,ay f rfl,ay f rfl,ay f rfl⟩,ay f rfl,ay f rfl,ay f rfl,ay f rfl⟩
theorem Bc       (hT:kr w T t) (hz:LZ w) (hA:fB w An a.ws) (hB:fB w Bn b.ws) (aa:a.ws.length<=1000000) (ag:b.ws.length<=1000000) (af:∀ x ∈ a.ws,x.length<=1000000) (ab:∀ x ∈ b.ws,x.length<=1000000) :
  Calls Tryz.prog 28 #[.agg (jQ T t a b An Bn ca cb)] w (aS w (.bool (nK T a b))):=by
 have h1:=aH (aI.begin w) aO (jQ T t a b An Bn ca cb) 93;have KV:=au (fun W (I:Below w.heap.size w W)=>lZ (hT.below I) (hz.below I));have KA:=au (fun W (I:Below w.heap.size w W)=>jJ (n:=a) (c:=ca) (aY hA I) aa af (hz.below I));have KB:=au (fun W (I:Below w.heap.size w W)=>jJ (n:=b) (c:=cb) (aY hB I) ag ab (hz.below I));have ae:nK T a b=(bL T&&(eT a&&eT b)):=rfl;have ad:=au ae;have ac:=au (fun W X (h:aI eR w X W)=>(show Below w.heap.size w W from h.mod.below (fun _ _ h=>h)));obtain⟨w5,M,h5⟩:=h1.nm;obtain⟨⟨t0,t1,t2,t3,t4,t5⟩,t6,t7,t8,t9⟩:=qY h5;have J:=au (ac.o _ _ h5);clear h1 h5 hT hz hA hB aa ag af ab ae ac;unfold jQ at M ⊢;unfold dV dR at KV;unfold vI at KA KB;have HF:=au (fun (x:Bool) W (hx:x=(bL T&&(eT a&&eT b))) (I:Below w.heap.size w W)=>(show aS w (.bool (nK T a b)) (.returned (.bool x)) W from by rw[ad.o,hx];exact⟨rfl,I⟩));have K1:=au (KV.o w5 J.o);clear KV ad
 go_enter Tryz.func28,Tryz.ntmps28
 go_upto_region 1 with (fail)
 try rw[M]
 clear M;cases hv:bL T with
 | false=>
  rw[hv] at K1 HF;clear hv KA KB;go_wp2_with fail;refine K1.o.mono ?_;rintro e9 w6 ⟨rfl,I⟩;have H6:=au (aF J.o I);clear K1 t0 t1 t2 t3 t4 t5 t6 t7 t8 t9 I;dsimp only;go_wp2;go_ret;exact HF.o _ _ rfl H6.o
 | true=>
  rw[hv] at K1 HF;clear hv;go_wp2_with fail;refine K1.o.mono ?_;rintro e9 w6 ⟨rfl,I⟩;have HC:=au (fun W (h:Below w5.heap.size w5 W)=>(show(W.cell? _=_/\W.cell? _=_)/\W.cell? _=_/\W.cell? _=_ from⟨⟨aG t6 h,aG t7 h⟩,aG t8 h,aG t9 h⟩));have H6:=au I;have K2:=au (KA.o w6 (aF J.o I));obtain⟨⟨q6,q7⟩,q8,q9⟩:=HC.o w6 I;clear K1 KA t0 t1 t2 t3 t4 t5 t6 t7 t8 t9 I;dsimp only;cases ha:eT a with
  | false=>
   rw[ha] at K2 HF;clear ha KB;go_wp2_with fail;refine K2.o.mono ?_;rintro e9 w7 ⟨rfl,I⟩;have H7:=au (aF J.o (aF H6.o I));clear K2 q6 q7 q8 q9 I H6;dsimp only;go_wp2;go_ret;exact HF.o _ _ rfl H7.o
  | true=>
   rw[ha] at K2 HF;clear ha;go_wp2_with fail;refine K2.o.mono ?_;rintro e9 w7 ⟨rfl,I⟩;have H7:=au (aF H6.o I);have K3:=au (KB.o w7 (aF J.o H7.o));clear K2 KB q6 q7 q8 q9 I H6;obtain⟨⟨q6,q7⟩,q8,q9⟩:=HC.o w7 H7.o;dsimp only;go_wp2_with fail;refine K3.o.mono ?_;rintro e9 w8 ⟨rfl,I⟩;have H8:=au (aF J.o (aF H7.o I));clear K3 q6 q7 q8 q9 I H7;dsimp only;go_wp2;go_ret;exact HF.o _ _ rfl H8.o
theorem qd    {nm:aQ}   (hT:kr w T t) (hz:LZ w) (hv:bL T=true) (hn:eT nm=true) (hA:fB w A nm.ws) (hw:∀ x ∈ nm.ws,x.length<=1000000) :
  Calls Tryz.prog 30 #[.agg (jQ T t a b An Bn ca cb),vI nm A c] w (fun e w'=>∃ I c',e=.returned (.slice I nm.ws.length c')/\bT w eR (bE I c' (dL T nm)) w'):=by
 obtain⟨ad,ai,al⟩:=aZ.1 hn;have h1:=aH (aI.begin w) aO (jQ T t a b An Bn ca cb) 93;have h2:=aH h1 aO (fh nm.k A nm.ws.length c) 28;rw[im] at h2;obtain⟨b0,o0,rfl,ac⟩:=fB.at hA ai;have ab:=au (fun W X (h:aI eR w X W)=>(show Below w.heap.size w W from h.mod.below (fun _ _ h=>h)))
 have KD:=au (fun W (hb:Below w.heap.size w W) i (hi:i<nm.ws.length)=>(show Calls Tryz.prog 40 #[dV T t,.int .i64 nm.k,.string (bs nm.ws[i])] W (aS W (.tuple (tB (bQ T nm.k nm.ws[i]) 0))) from by
  have h:=yP (hT.below hb) (hz.below hb) nm.k nm.ws[i] (hw _ (gv hi));have e:o7 T nm.k nm.ws[i]=(bQ T nm.k nm.ws[i],0):=by unfold o7;rw[ad _ (gv hi),hv];rfl
  rw[e] at h
  exact h))
 obtain⟨w5,M,h5⟩:=h2.nm;have h6:=(h5.fresh aO (⟨fun _=>False,uf _,Mod.refl _ _,fun i hi=>.inl hi⟩:bT _ eR (bE none 0 []) _));obtain⟨X,hX⟩:∃ X:CH.aT,X=aj (av (w.heap.size+1) (fh nm.k (some ⟨b0,o0,none⟩) nm.ws.length c) 28) (aj (av w.heap.size (jQ T t a b An Bn ca cb) 93) bG):=⟨_,rfl⟩;have am:X.Ok:=by rw[hX];exact aO
 rw[<-hX] at h6
 have HX:=au (fun W (Y:CH.aT) (h:aI eR w (aj Y X) W)=>(show((lR W w.heap.size (.slice t.A T.rs.length t.c) (.slice t.D T.ds.length t.d) (.slice t.E T.es.length t.e) (.int .i64 T.drop) (.int .i64 T.ord) (.int .i64 T.ini))/\(my W (w.heap.size+1) (.int .i64 nm.k) (.slice (some ⟨b0,o0,none⟩) nm.ws.length c)))/\∀ i (hi:i<nm.ws.length),W.cell? ⟨b0,o0+i,none⟩=some (.string (bs nm.ws[i])) from by
  rw[hX] at h;obtain⟨_,f⟩:=h.drop.fst
  exact⟨⟨(qY h.drop.drop).1,ay f rfl,ay f rfl⟩,fun i hi=>ac W (ab.o _ _ h) i hi⟩))
 have H6:=au h6;clear h1 h2 h5 h6 hT hz hv hn hA hw ac hX ad;unfold jQ at M ⊢;unfold vI;unfold dV dR at KD
 go_enter Tryz.func30,Tryz.ntmps30
 go_upto_region 1 with (fail)
 try rw[M]
 clear M;generalize w.heap.size+1=g3 at *
 generalize ae:w.heap.size=g2 at HX ⊢;clear ae;obtain⟨⟨⟨t0,t1,t2,t3,t4,t5⟩,t6,t7⟩,-⟩:=HX.o _ _ H6.o;go_wp2_with fail;clear t0 t1 t2 t3 t4 t5 t6 t7;go_loopw [5,13] (fun s5 aa wr=>∃ (i:Nat) (I:eV) (c':Nat),aa=.int .i64 i/\s5=.slice I i c'/\i<=nm.ws.length/\aI eR w (aj (bE I c' ((nm.ws.take i).map (bQ T nm.k))) X) wr) (fun _ aa _=>nm.ws.length-(intOf aa).toNat)
 case atStart=>exact⟨0,none,0,rfl,rfl,fw _,H6.o⟩
 case round=>
  obtain⟨i,I,c',rfl,rfl,hi,hR⟩:=hrel;have HR:=au hR;clear H6 hR;by_cases J:i<nm.ws.length
  ·have ak:(i:Int)<(nm.ws.length:Int):=by omega
   obtain⟨⟨⟨t0,t1,t2,t3,t4,t5⟩,t6,t7⟩,hc⟩:=HX.o _ _ HR.o;have hx:=hc i J;have K:=au (KD.o wr (ab.o _ _ HR.o) i J);have af:=au (show(nm.ws.take (i+1)).map (bQ T nm.k)=(nm.ws.take i).map (bQ T nm.k)++[bQ T nm.k nm.ws[i]] from by rw[kq J,km];rfl);have ag:=au (show((nm.ws.take i).map (bQ T nm.k)).length=i from by rw[gh,kt];omega);clear hc;generalize nm.ws[i]=x at *
   generalize bQ T nm.k x=dx at *
   go_wp2_with fail;refine K.o.mono ?_;rintro e9 w7 ⟨rfl,hb⟩;have H7:=au (HR.o.below aO hb);clear K HR hb t0 t1 t2 t3 t4 t5 t6 t7 hx;dsimp only;have H8:=au ((aH H7.o aO (fL dx) 3).kN);clear H7;go_wp2_with (at_builtin;refine held ?_);generalize w7.alloc (.cells (fL dx) 3)=w8 at *
   generalize w7.heap.size=g8 at *
   obtain⟨_,f8⟩:=H8.o.drop.fst;have y0:=ay (i:=0) f8 rfl;refine lB.mk (wpList_plain rfl fun _ hK=>Nt (.tmp 26) (.tmp 28) rfl (A:=I) (c:=c') (g:=g8) (l:=(nm.ws.take i).map (bQ T nm.k)) dx ag.o rfl rfl eL aO H8.o y0 (fun A2 c2 w9 h9=>hK _ _ ?_));have H9:=au (show aI eR w (aj (bE A2 c2 ((nm.ws.take (i+1)).map (bQ T nm.k))) X) w9 from by rw[af.o];exact(h9.kN.drop));clear h9 H8 f8 y0;go_wp2_with fail
   go_roundw
   case rel=>exact⟨i+1,A2,c2,by go_num,rfl,J,H9.o⟩
   case measure=>simp[intOf];omega
  ·obtain rfl:i=nm.ws.length:=by omega
   have HP:=au (show bT w eR (bE I c' (dL T nm)) wr from by
    have h:=HR.o;rw[ky] at h
    exact(h.swap.drop).post aO)
   clear HR;go_wp2;go_ret;exact⟨I,c',rfl,HP.o⟩
end Go.Proofs.YtbioiclabmbedaaGreatDoor
namespace Go.CH.Sil
open Go.CH.Scr Go.CH.dh Go.CH.Mtc
def gM (f:Nat->Nat->Int) (m n i j:Nat):List (List Int):=(List.range n).map fun r=>(List.range (if r<i then m else if r=i then j else 0)).map (f r)
section
variable {f:Nat→Nat→Int} {m n i j:Nat}
theorem QX:gM f m n 0 0=List.replicate n []:=by
 unfold gM;have:(fun r=>(List.range (if r<0 then m else if r=0 then 0 else 0)).map (f r))=fun _=>([]:List Int):=by
  funext r;rw[if_neg (nB _),ite_self];rfl
 rw[this,Kf,ua]
theorem Jd:(gM f m n i j).length=n:=by unfold gM;simp
theorem Je {k:Nat} (h:k<(gM f m n i j).length):(gM f m n i j)[k]=(List.range (if k<i then m else if k=i then j else 0)).map (f k):=by simp[gM]
theorem SZ (h:i<(gM f m n i j).length):(gM f m n i j)[i]=(List.range j).map (f i):=by
 rw[Je,if_neg (mn _),if_pos rfl]
theorem XQ:(gM f m n i j).set i ((List.range j).map (f i)++[f i j])=gM f m n i (j+1):=by
 apply Jn
 ·simp[gM]
 ·intro k M J;rw[Jx,Je,Je];by_cases I:i=k
  ·subst I;rw[if_pos rfl,if_neg (mn _),if_pos rfl,vp,km];rfl
  ·rw[if_neg I];by_cases h:k<i
   ·rw[if_pos h,if_pos h]
   ·rw[if_neg h,if_neg h,if_neg (px I),if_neg (px I)]
theorem XR:gM f m n (i+1) 0=gM f m n i m:=by
 unfold gM;refine nt fun k _=>?_;by_cases hk:k<i
 ·rw[if_pos hk,if_pos eL]
 ·rw[if_neg hk];by_cases h2:k=i
  ·rw[if_pos h2,if_pos eL]
  ·rw[if_neg h2,if_neg eL,ite_self]
theorem XT:gM f m n n 0=cL f n m:=by
 unfold gM cL;exact nt fun k hk=>by rw[if_pos (List.mem_range.1 hk)]
end
end Go.CH.Sil
namespace Go.Proofs.YtbioiclabmbedaaGreatDoor
open Go.RowKit Go.CH Go.CH.Scr Go.CH.dh Go.CH.Mtc Go.CH.Sil
open Asn (aX dO fA uy Vec ints cF lF mR oV)
open Go.ChangeMaps (setBlock)
variable {F0 F:Nat->Prop}{w0 w W:World}{g c la lb d e:Nat}{t:TypeId}{X:CH.aT}{M a1 a3 v:Value}{T:eW}{a b:aQ}{bd:Int}{es:List WL}{A B G:eV}{zs:List bZ}{V:List (eV × Nat)}
theorem gu      {a2 J:Value} (h:aI F0 w0 (aj (av g #[M,a1,a2,a3,J] t) X) w) :
  w.cell? ⟨g,0,none⟩=some M/\w.cell? ⟨g,1,none⟩=some a1/\w.cell? ⟨g,2,none⟩=some a2/\w.cell? ⟨g,3,none⟩=some a3/\w.cell? ⟨g,4,none⟩=some J/\∀ i,w.frozen? ⟨g,i,none⟩=false:=by
 obtain⟨F,I⟩:=h.fst;exact⟨ay I rfl,ay I rfl,ay I rfl,ay I rfl,ay I rfl,aM I⟩
theorem uK      {a0 I:Value} (h:aI F0 w0 (aj (av g #[a0,a1,M,a3,I] t) X) w) (J:X.Ok) (b0 b1 b2 b3 b4:Value) :
  aI F0 w0 (aj (av g #[b0,b1,b2,b3,b4] t) X) (((((w.setCell ⟨g,0,none⟩ b0).setCell ⟨g,1,none⟩ b1).setCell ⟨g,2,none⟩ b2).setCell ⟨g,3,none⟩ b3).setCell ⟨g,4,none⟩ b4):=by
 have h0:aI F0 w0 (aj (av g #[b0,a1,M,a3,I] t) X) _:=aJ h J 0 b0;have h1:aI F0 w0 (aj (av g #[b0,b1,M,a3,I] t) X) _:=aJ h0 J 1 b1;have h2:aI F0 w0 (aj (av g #[b0,b1,b2,a3,I] t) X) _:=aJ h1 J 2 b2;have h3:aI F0 w0 (aj (av g #[b0,b1,b2,b3,I] t) X) _:=aJ h2 J 3 b3;exact aJ h3 J 4 b4
theorem Ej {tmps:Array Value}   {cs:Array Value} (h:tmps.getD 8 undef=.pointer (some ⟨g,0,none⟩)) (J:cs.size=5) (I:w.heap[g]?=some (.cells cs 41))  (M:tmps.getD 9 undef=v):(results Tryz.f13 tmps).run Tryz.prog w=.ok (.tuple #[.agg cs,v]) w:=by
 subst M;exact dz rfl tmps w g 41 cs (0,0) h I Tryz.underlying41 (by rw[J];kernel_rfl)
def Yx (s:SL):CH.aT:=aj (zi s.A s.c s.ws) (aj (aX s.u.A s.u.c s.U) (aj (aX s.v.A s.v.c s.V) (aX s.g.A s.g.c s.G)))
instance sl_ok {s:SL}:(Yx s).Ok:=aB XG (aB dO (aB dO dO))
theorem L4 {s:SL}   (h:Yx s w F):SR w s:=by
 obtain⟨_,_,h1,⟨_,_,h2,⟨_,_,h3,h4,-,-⟩,-,-⟩,-,-⟩:=h;exact⟨aeM h1,fA h2,fA h3,fA h4⟩
def El (w:World) (T:eW) (a b:aQ) (bd:Int) (e:Ending) (w':World):Prop:=
 ∃ (s:SL) (er:Int),e=.returned (.tuple #[.agg (jh s),.int .i64 er])/\iJ T a b bd s.m er/\bT w eR (Yx s) w'
def S3:SL:=⟨0,[],[],[],[],none,0,⟨none,0⟩,⟨none,0⟩,⟨none,0⟩⟩
theorem aef (w:World):Yx S3 w eR:=
 have h:∀ {A B:CH.aT},A w eR->B w eR->aj A B w eR:=fun ha hb=>⟨_,_,ha,hb,fun _ h=>h.elim,fun _=>by simp⟩
 h (h (fT _ _ _) (fun _ h=>h)) (h (Asn.lD w) (h (Asn.lD w) (Asn.lD w)))
theorem XU    {er:Int} (h:iJ T a b bd we er) (hb:Below w.heap.size w W):El w T a b bd (.returned (.tuple #[.agg (ie 0 none 0 0 none 0 0 none 0 0 none 0 0),.int .i64 er])) W:=
 ⟨S3,er,rfl,h,fun _=>False,aef W,Mod.of_below hb,fun _ h=>h.elim⟩
structure QY (T:eW) (a b:aQ) (bd:Int) (m n i j:Nat) (es:List WL) (zs:List bZ):Prop where
 len:es.length=i*m+j
 ws:∀ k (h:k<es.length),Dj T a b bd (k / m) (k % m) es[k].m
 mat:zs.map (·.l)=gM (hM T a b bd) m n i j
def Yy (T:eW) (a b:aQ) (bd:Int) (m n g13 go i j:Nat):CH.aT:=lQ fun es:List WL=>lQ fun A:eV=>lQ fun c:Nat=>lQ fun zs:List bZ=>sM (QY T a b bd m n i j es zs) (aj (av g13 (ie bd A es.length c none 0 0 none 0 0 none 0 0) 41) (aj (zi A c es) (fU (some ⟨go,0,none⟩) n zs)))
instance {A:eV} {c:Nat} {l:List WL}:(zi A c l).Ok:=XG
instance {A:eV} {c:Nat} {l:List bZ}:(fU A c l).Ok:=I5
instance {l:List WL}:(aL (l.map Yw)).Ok:=lG fun A hA=>by obtain ⟨e,_,rfl⟩:=List.mem_map.1 hA;exact QV
instance {l:List bZ}:(aL (l.map bZ.ow)).Ok:=lG fun A hA=>by obtain ⟨e,_,rfl⟩:=List.mem_map.1 hA;exact dO
instance {A:eV} {c:Nat} {l:List Int}:(aX A c l).Ok:=dO
instance {T:eW} {a b:aQ} {bd:Int} {m n g13 go i j:Nat}:(Yy T a b bd m n g13 go i j).Ok:=bX fun _=>bX fun _=>bX fun _=>bX fun _=>gG aO
section
variable {F0:Nat→Prop} {w0 W:World} {T:eW} {a b:aQ} {bd:Int} {m n g13 go i j:Nat} {Y:CH.aT}
theorem OB (h:aI F0 w0 (aj (Yy T a b bd m n g13 go i j) Y) W):∃ (es:List WL) (A:eV) (c:Nat) (zs:List bZ),QY T a b bd m n i j es zs/\aI F0 w0 (aj (av g13 (ie bd A es.length c none 0 0 none 0 0 none 0 0) 41) (aj (zi A c es) (aj (fU (some ⟨go,0,none⟩) n zs) Y))) W:=by
 obtain⟨es,h⟩:=h.ex;obtain⟨A,h⟩:=h.ex;obtain⟨c,h⟩:=h.ex;obtain⟨zs,h⟩:=h.ex;obtain⟨I,h⟩:=h.pure;exact⟨es,A,c,zs,I,h.perm (by ac_rfl)⟩
theorem OC     (I:QY T a b bd m n i j es zs) (h:aI F0 w0 (aj (av g13 (ie bd A es.length c none 0 0 none 0 0 none 0 0) 41) (aj (zi A c es) (aj (fU (some ⟨go,0,none⟩) n zs) Y))) W):aI F0 w0 (aj (Yy T a b bd m n g13 go i j) Y) W:=
 aI.nT es (aI.nT A (aI.nT c (aI.nT zs (aI.iQ I (h.perm (by ac_rfl))))))
theorem QY.row   (h:QY T a b bd m n i m es zs):QY T a b bd m n (i+1) 0 es zs:=
 ⟨by rw[h.len,li];omega,h.ws,by rw[h.mat,XR]⟩
theorem aa0 (h:aI F0 w0 (aj (Yy T a b bd m n g13 go i m) Y) W):aI F0 w0 (aj (Yy T a b bd m n g13 go (i+1) 0) Y) W:=by
 obtain⟨es,A,c,zs,hp,h⟩:=OB h;exact OC hp.row h
theorem ade (w:World):bT w eR (zi none 0 []) w:=⟨fun _=>False,⟨fun _=>False,fun _=>False,fT w 55 4,fun _ h=>h,fun _ h=>h.elim,fun i=>by simp⟩,Mod.refl _ _,fun i hi=>.inl hi⟩
theorem aa1   {l:List WL} {e:WL}   (h:aj (aV 55 4 (.slice A (l.length+1) c) (l.length+1) (l.flatMap mJ++mJ e)) (aj (y7 e.A e.c e.ps) (aL (l.map Yw))) w F):zi A c (l++[e]) w F:=by
 unfold zi;rw[gd,tW,vi,km];exact bD h (fun _ h=>h) (fun _ h=>yO h)
theorem aa2 (hY:Y.Ok) (h:aI F0 w0 (aj (aV 39 1 (.slice (some ⟨go,0,none⟩) n n) n (List.replicate n (.slice none 0 0))) (aj (av g13 (ie bd none 0 0 none 0 0 none 0 0 none 0 0) 41) Y)) W):aI F0 w0 (aj (Yy T a b bd m n g13 go 0 0) Y) W:=by
 have J:aI F0 w0 (aj (fU (some ⟨go,0,none⟩) n (List.replicate n ⟨[],none,0⟩)) (aj (av g13 (ie bd none 0 0 none 0 0 none 0 0 none 0 0) 41) Y)) W:=h.imp fun w F M=>bD M (fun _ h=>D7 h) (fun _ h=>h);have I:=J.fresh aO (ade W);refine OC (es:=[]) (A:=none) (c:=0) (zs:=List.replicate n ⟨[],none,0⟩) ⟨by simp,fun k h=>absurd h (nB _),by rw[QX,Fo]⟩ (I.perm (by ac_rfl))
theorem QY.zl   (h:QY T a b bd m n i j es zs):zs.length=n:=by
 have:=congrArg List.length h.mat;rw[gh,Jd] at this;exact this
theorem QY.at   (h:QY T a b bd m n i j es zs) (hi:i<zs.length):zs[i].l=(List.range j).map (hM T a b bd i):=by
 have I:(zs.map (·.l))[i]?=(gM (hM T a b bd) m n i j)[i]?:=by rw[h.mat]
 have hn:i<(gM (hM T a b bd) m n i j).length:=by rw[Jd,<-h.zl];exact hi
 rw[lz,gR hi,gR hn,SZ hn] at I;exact Option.some.inj I
theorem QY.next   {z:WL}   (h:QY T a b bd m n i j es zs) (hi:i<zs.length) (hj:j<m) (M:Dj T a b bd i j z.m):QY T a b bd m n i (j+1) (es++[z]) (zs.set i ⟨zs[i].l++[z.h],A,c⟩):=by
 refine⟨by rw[gd,h.len];rfl,fun k hk=>?_,?_⟩
 ·by_cases J:k<es.length
  ·rw[NL J];exact h.ws k J
  ·have hl:=h.len;have I:k=i*m+j:=by rw[gd,pC] at hk;omega
   rw[yv eL];have e1:k / m=i:=by rw[I,oc,J0 eL,FO hj];omega
   have e2:k % m=j:=by rw[I,oc,J1,Ge hj]
   rw[e1,e2];simpa using M
 ·rw[vt,h.mat,h.at hi];have hh:z.h=hM T a b bd i j:=M.rh;rw[hh];exact XQ
end
theorem aeg:eB Tryz.prog 38 55 (.agg (js 0 0 0 none 0 0)) 4 48:=⟨Tryz.underlying38,by kernel_rfl,by decide,by decide⟩
theorem Mw (x y z:Int) (V:eV) (n c:Nat) (w:World):(Instr.buildSlice 38 1 #[(0,.agg (js x y z V n c))]).run Tryz.prog w=.ok (.slice (some ⟨w.heap.size,0,none⟩) 1 1) (w.alloc (.cells (js x y z V n c) 55)):=by go_simp
theorem adf         (I:la=a.ws.length) (M:lb=b.ws.length) (J:nK T a b=true) (h0:0<=bd) (h1:bd<=100000) (h:uy W A (hL T a b bd) V) (hD:iF W B (dL T a)) (hE:iF W G (dL T b)) (hd:la<=d) :
  Calls Tryz.prog 27 #[.slice A la c,.slice B la d,.slice G lb e] W (fun en w'=>∃ k A1 n1 c1 A2 c2 A3 c3,en=.returned (.tuple #[.agg (gO k A1 n1 c1 A2 (pR (hL T a b bd) (dL T a) (dL T b)).us.length c2 A3 (pR (hL T a b bd) (dL T a) (dL T b)).vs.length c3),.int .i64 0])/\bT W eR (aj (aX A2 c2 (pR (hL T a b bd) (dL T a) (dL T b)).us) (aX A3 c3 (pR (hL T a b bd) (dL T a) (dL T b)).vs)) w'):=by
 subst I M;have hv:mR (hL T a b bd) (dL T a) (dL T b)=true:=NH J fun i hi j hj=>Ir J h0 h1 hi hj;have hl:(hL T a b bd).length=a.ws.length:=by simp[hL,cL]
 have I:(dL T a).length=a.ws.length:=by simp[dL]
 have M:(dL T b).length=b.ws.length:=by simp[dL]
 have hK:=Asn.uh (c:=c) (d:=d) (e:=e) h (by rw[hl];have:=(aZ.1 (dW.1 J).2.1).2.2;simp only[maxLen];omega) hD hE (by rw[I];exact hd);rw[hl,I,M] at hK;refine hK.mono ?_;rintro en w' ⟨v,rfl,hb,hr⟩;rw[if_pos hv] at hr;obtain⟨A1,A2,A3,c1,c2,c3,rfl,-,-,-,hP⟩:=hr;exact⟨_,A1,_,c1,A2,c2,A3,c3,by rw[if_pos hv],hP⟩
theorem adg         (I:la=a.ws.length) (M:lb=b.ws.length) (J:nK T a b=true) (h0:0<=bd) (h1:bd<=100000) (h:uy W A (hL T a b bd) V) (hD:iF W B (dL T a)) (hE:iF W G (dL T b)) :
  Calls Tryz.prog 31 #[.slice A la c,.slice B la d,.slice G lb e] W (fun en w'=>∃ A1 c1,en=.returned (.tuple (pB A1 (oV (hL T a b bd) (dL T a) (dL T b)).length c1 0))/\bT W eR (aX A1 c1 (oV (hL T a b bd) (dL T a) (dL T b))) w'):=by
 subst I M;have hv:mR (hL T a b bd) (dL T a) (dL T b)=true:=NH J fun i hi j hj=>Ir J h0 h1 hi hj;have hl:(hL T a b bd).length=a.ws.length:=by simp[hL,cL]
 have I:(dL T a).length=a.ws.length:=by simp[dL]
 have M:(dL T b).length=b.ws.length:=by simp[dL]
 have hK:=Asn.Tc (c:=c) (d:=d) (e:=e) h (by rw[hl];have:=(aZ.1 (dW.1 J).2.1).2.2;simp only[maxLen];omega) hD hE;rw[hl,I,M] at hK;refine hK.mono ?_;rintro en w' ⟨v,rfl,hb,A1,c1,rfl,hr⟩;exact⟨A1,c1,by unfold Asn.LH;rw[if_pos hv],hr⟩
theorem XV        {A1 A2 A3 A4:eV} {c1 c2 c3 c4:Nat}  (I:la=a.ws.length) (M:lb=b.ws.length) (J:nK T a b=true) (h0:0<=bd) (h1:bd<=100000) (h2:bd<=(fJ T a b).c) (hs:QY T a b bd lb la la 0 es zs)
  (h:aI eR w (aj (zi A1 c1 es) (aj (aj (aX A2 c2 (pR (hL T a b bd) (dL T a) (dL T b)).us) (aX A3 c3 (pR (hL T a b bd) (dL T a) (dL T b)).vs)) (aj (aX A4 c4 (oV (hL T a b bd) (dL T a) (dL T b))) X))) W) :
  El w T a b bd (.returned (.tuple #[.agg (ie bd A1 es.length c1 A2 (pR (hL T a b bd) (dL T a) (dL T b)).us.length c2 A3 (pR (hL T a b bd) (dL T a) (dL T b)).vs.length c3 A4 (oV (hL T a b bd) (dL T a) (dL T b)).length c4),.int .i64 0])) W:=by
 subst I M;refine⟨⟨bd,es,_,_,_,A1,c1,⟨A2,c2⟩,⟨A3,c3⟩,⟨A4,c4⟩⟩,0,rfl,?_,(h.perm (by ac_rfl:_=aj X (aj (zi A1 c1 es) (aj (aX A2 c2 _) (aj (aX A3 c3 _) (aX A4 c4 _)))))).drop.post (sl_ok (s:=⟨bd,es,_,_,_,A1,c1,⟨A2,c2⟩,⟨A3,c3⟩,⟨A4,c4⟩⟩))⟩;have hl:=hs.len;refine iJ.some J h0 h1 h2 (es.map WL.m) (by rw[gh,hl];rfl) fun k hk=>?_;rw[gh] at hk;rw[mA];exact hs.ws k hk
open Asn (aX dO fA uy Vec ints cF lF mR oV jG D3 Wj oU)
variable {a:Act}
theorem TK  {o:Oper} {x:Operand}   (hop:o.op=.fieldAddr 41 x 1) (hx:a.eval x=.pointer (some ⟨g,0,none⟩)):(execOp a.eval o).run Tryz.prog w=.ok (.value (.pointer (some ⟨g,1,none⟩))) w:=by
 unfold execOp;simp only[hop,hx];go_simp
theorem pq   {t:TA} {a b:aQ} {An Bn:eV} {ca cb:Nat} (hT:kr w T t) (hz:LZ w) (hA:fB w An a.ws) (hB:fB w Bn b.ws) (ae:a.ws.length<=1000000) (ag:b.ws.length<=1000000) (a0:∀ x ∈ a.ws,x.length<=1000000) (a2:∀ x ∈ b.ws,x.length<=1000000) (bd:Int) :
  Calls Tryz.prog 13 #[dV T t,vI a An ca,vI b Bn cb,.int .i64 bd] w (El w T a b bd):=by
 have h1:=aH (aI.begin w) aO (dR T t) 25;have h2:=aH h1 aO (fh a.k An a.ws.length ca) 28;have h3:=aH h2 aO (fh b.k Bn b.ws.length cb) 28;have h4:=aH h3 aO (ie 0 none 0 0 none 0 0 none 0 0 none 0 0) 41;have h5:=aH h4 aO (jQ T t a b An Bn ca cb) 93;simp only[im] at h5;have H5:=au h5;have ak:=au (fun W X (h:aI eR w X W)=>(show Below w.heap.size w W from h.mod.below (fun _ _ h=>h)));have KV:=au (fun W (M:Below w.heap.size w W)=>Bc (An:=An) (Bn:=Bn) (ca:=ca) (cb:=cb) (hT.below M) (hz.below M) (aY hA M) (aY hB M) ae ag a0 a2);have KM:=au (fun W (M:Below w.heap.size w W)=>(D9 (ca:=ca) (cb:=cb) (hT.below M) (hz.below M) (aY hA M) (aY hB M) ae ag a0 a2).mono fun e w' h=>GA h);have HN:=au (fun (al:nK T a b=true) W (M:Below w.heap.size w W)=>(show wy W T t a b An Bn from⟨hT.below M,hz.below M,aY hA M,aY hB M,(aZ.1 (dW.1 al).2.1).2.2,(aZ.1 (dW.1 al).2.2).2.2,a0,a2⟩));have HE:=au (fun (er:Int) W (h:iJ T a b bd we er) (M:Below w.heap.size w W)=>XU h M);clear h1 h2 h3 h4 h5 hT hz hA hB ae ag a0 a2;unfold dV vI at *
 unfold dR jQ at *
 go_enter Tryz.func13,Tryz.ntmps13
 go_upto_region 2 with (fail);obtain⟨w5,bj,h5⟩:=H5.o.nm;rw[bj];clear H5 bj;have H5:=au h5;clear h5;generalize w.heap.size+1+1+1+1=g10 at *
 generalize w.heap.size+1+1+1=g8 at *
 generalize w.heap.size+1+1=g6 at *
 generalize w.heap.size+1=g5 at *
 generalize cp:w.heap.size=g4 at H5 ⊢;clear cp;obtain⟨⟨n0,n1,n2,n3,n4,n5⟩,n6,n7,n8,n9⟩:=qY (T:=T) (t:=t) (a:=a) (b:=b) (An:=An) (Bn:=Bn) (ca:=ca) (cb:=cb) H5.o;have K1:=au (KV.o w5 (ak.o _ _ H5.o));clear KV;cases al:nK T a b with
 | false=>
  rw[al] at K1;have ap:=au (fun W M=>HE.o 1 W (.arg (.inl al)) M);clear HE HN al KM;go_wp2_with fail;refine K1.o.mono ?_;rintro e9 w6 ⟨rfl,M⟩;have H6:=au ((H5.o.below aO M).kN);clear K1 H5 M n0 n1 n2 n3 n4 n5 n6 n7 n8 n9;dsimp only;obtain⟨z0,z1,z2,z3,z4,zf⟩:=gu H6.o;have H7:=au (uK H6.o aO (.int .i64 0) (.slice none 0 0) (.slice none 0 0) (.slice none 0 0) (.slice none 0 0));go_wp2;obtain⟨_,f8⟩:=H7.o.fst;refine bodyPost_ret (Ej rfl rfl f8.1 rfl) rfl ?_;exact ap.o _ (ak.o _ _ H7.o)
 | true=>
  rw[al] at K1;have af:=au al;clear al;go_wp2_with fail;refine K1.o.mono ?_;rintro e9 w6 ⟨rfl,M⟩;have H6:=au (H5.o.below aO M);clear K1 H5 M n0 n1 n2 n3 n4 n5 n6 n7 n8 n9;dsimp only;by_cases an:bd<0\/100000<bd
  ·have ap:=au (fun W M=>HE.o 1 W (.arg (.inr an)) M);clear HE HN KM;have H7:=au (H6.o.kN);clear H6;obtain⟨z0,z1,z2,z3,z4,zf⟩:=gu H7.o;have H8:=au (uK H7.o aO (.int .i64 0) (.slice none 0 0) (.slice none 0 0) (.slice none 0 0) (.slice none 0 0));by_cases cW:bd<0
   ·clear an;go_wp2;obtain⟨_,f8⟩:=H8.o.fst;refine bodyPost_ret (Ej rfl rfl f8.1 rfl) rfl ?_;exact ap.o _ (ak.o _ _ H8.o)
   ·have da:100000<bd:=by omega
    clear an;go_wp2;obtain⟨_,f8⟩:=H8.o.fst;refine bodyPost_ret (Ej rfl rfl f8.1 rfl) rfl ?_;exact ap.o _ (ak.o _ _ H8.o)
  ·have g0:0<=bd:=by omega
   have g1:bd<=100000:=by omega
   have cS:¬ bd<0:=by omega
   have cQ:¬ 100000<bd:=by omega
   have HG:=au (show 0<=bd/\bd<=100000 from⟨g0,g1⟩);have K2:=au (KM.o w6 (ak.o _ _ H6.o));clear KM an g0 g1;go_upto_region 4 with (fail);obtain⟨t0,t1,t2,t3,t4,t5⟩:=fu H6.o.drop.drop.drop.drop;obtain⟨s0,s1,-⟩:=bY H6.o.drop.drop.drop;obtain⟨q0,q1,-⟩:=bY H6.o.drop.drop;go_wp2_with fail;refine K2.o.mono ?_;rintro e9 w7 ⟨x,er,A,c,l,rfl,hmp,hl,hmr,M⟩;have H7:=au (H6.o.below aO M);clear K2 H6 M hmr hl t0 t1 t2 t3 t4 t5 s0 s1 q0 q1;have hx:x=fJ T a b/\er=0:=by
    cases hmp with
    | arg h=>rw[af.o] at h;cases h
    | some h=>exact⟨rfl,rfl⟩
   obtain⟨rfl,rfl⟩:=hx;clear hmp;dsimp only;have H8:=au (aH H7.o aO (jj (fJ T a b).c (fJ T a b).s A l.length c) 34);clear H7;go_upto_region 5 with (fail);generalize w7.alloc (.cells (jj (fJ T a b).c (fJ T a b).s A l.length c) 34)=w8 at *
   generalize w7.heap.size=g11 at *
   have HC:=au (show(fJ T a b).c=(fJ T a b).c from rfl);generalize cg:(fJ T a b).c=bc at H8 ⊢;have bf:=au cg;clear cg HC;obtain⟨y0,y1,y2⟩:=fO H8.o;by_cases ar:bc<bd
   ·have ap:=au (fun W M=>HE.o 11 W (.none af.o HG.o.1 HG.o.2 (by rw[bf.o];exact ar)) M);clear HE HN;have H9:=au (H8.o.perm (by ac_rfl:_=aj (av g8 (ie 0 none 0 0 none 0 0 none 0 0 none 0 0) 41) (aj (av g11 _ 34) (aj (av g10 _ 93) (aj (av g6 _ 28) (aj (av g5 _ 28) (aj (av g4 _ 25) bG)))))));clear H8;obtain⟨z0,z1,z2,z3,z4,zf⟩:=gu H9.o;have aq:=au (uK H9.o aO (.int .i64 0) (.slice none 0 0) (.slice none 0 0) (.slice none 0 0) (.slice none 0 0));go_wp2;obtain⟨_,f8⟩:=aq.o.fst;refine bodyPost_ret (Ej rfl rfl f8.1 rfl) rfl ?_;exact ap.o _ (ak.o _ _ aq.o)
   ·have cz:=au (show bd<=(fJ T a b).c from by rw[bf.o];omega);clear HE;go_upto_region 7 with (fail);have H9:=au (aH H8.o aO (ie bd none 0 0 none 0 0 none 0 0 none 0 0) 41);clear H8 y0 y1 y2 ar;go_upto_region 8 with (fail);generalize w8.alloc (.cells (ie bd none 0 0 none 0 0 none 0 0 none 0 0) 41)=w9 at *
    generalize w8.heap.size=g13 at *
    obtain⟨la,ae⟩:∃ la,la=a.ws.length:=⟨_,rfl⟩;obtain⟨lb,ag⟩:∃ lb,lb=b.ws.length:=⟨_,rfl⟩;have HL:=au (show(la=a.ws.length/\lb=b.ws.length)/\la<=6/\lb<=6 from⟨⟨ae,ag⟩,by rw[ae];exact(aZ.1 (dW.1 af.o).2.1).2.2,by rw[ag];exact(aZ.1 (dW.1 af.o).2.2).2.2⟩);rw[<-ae,<-ag] at H9 ⊢
    have KW:=au (fun W (M:Below w.heap.size w W) (i j:Nat) (hi:i<la) (hj:j<lb)=>(show Calls Tryz.prog 29 #[.agg (sy t.A T.rs.length t.c t.D T.ds.length t.d t.E T.es.length t.e T.drop T.ord T.ini a.k An la ca b.k Bn lb cb),.int .i64 (i:Int),.int .i64 (j:Int),.int .i64 bd] W (SU W T a b bd i j) from by
     have:=OA (ca:=ca) (cb:=cb) (HN.o af.o W M) af.o (by rw[<-ae];exact hi) (by rw[<-ag];exact hj) HG.o.1 HG.o.2;unfold jQ at this;rw[<-ae,<-ag] at this
     exact this))
    have KD:=au (fun W (M:Below w.heap.size w W)=>(show Calls Tryz.prog 30 #[.agg (sy t.A T.rs.length t.c t.D T.ds.length t.d t.E T.es.length t.e T.drop T.ord T.ini a.k An la ca b.k Bn lb cb),.agg (fh a.k An la ca)] W _/\Calls Tryz.prog 30 #[.agg (sy t.A T.rs.length t.c t.D T.ds.length t.d t.E T.es.length t.e T.drop T.ord T.ini a.k An la ca b.k Bn lb cb),.agg (fh b.k Bn lb cb)] W _ from by
     have hN:=HN.o af.o W M;have hv:=dW.1 af.o;have k1:=qd (a:=a) (b:=b) (An:=An) (Bn:=Bn) (ca:=ca) (cb:=cb) (c:=ca) hN.ft hN.fz hv.1 hv.2.1 hN.fa hN.wa;have k2:=qd (a:=a) (b:=b) (An:=An) (Bn:=Bn) (ca:=ca) (cb:=cb) (c:=cb) hN.ft hN.fz hv.1 hv.2.2 hN.fb hN.wb;unfold jQ vI at k1 k2;rw[<-ae,<-ag] at k1 k2
     exact⟨k1,k2⟩))
    have cN:la<=6:=HL.o.2.1;have cR:lb<=6:=HL.o.2.2;clear ae ag HN;have aq:=au (H9.o.perm (by ac_rfl:_=aj (av g5 _ 28) (aj (av g6 _ 28) (aj (av g10 _ 93) (aj (av g13 _ 41) (aj (av g11 _ 34) (aj (av g8 _ 41) (aj (av g4 _ 25) bG))))))));clear H9;obtain⟨s0,s1,-⟩:=bY aq.o;go_wp2_with (refine Asn.pW rfl (.tmp 54) rfl la eL (by simp[Act.eval]) ?_;refine held ?_);refine lB.mk fun cU hP=>?_;rw[<-Asn.uF la (.slice none 0 0)] at hP;have bk:=aq.o.fresh aO hP;generalize w9.heap.size=go at *
    clear s0 s1 aq hP;obtain⟨B,hB⟩:∃ B:CH.aT,B=aj (av g5 (fh a.k An la ca) 28) (aj (av g6 (fh b.k Bn lb cb) 28) (aj (av g10 (sy t.A T.rs.length t.c t.D T.ds.length t.d t.E T.es.length t.e T.drop T.ord T.ini a.k An la ca b.k Bn lb cb) 93) (aj (av g11 (jj bc (fJ T a b).s A l.length c) 34) (aj (av g8 (ie 0 none 0 0 none 0 0 none 0 0 none 0 0) 41) (aj (av g4 (iu T t) 25) bG))))):=⟨_,rfl⟩;have cH:B.Ok:=by rw[hB];exact aO
    have cj:=au (aa2 (T:=T) (a:=a) (b:=b) (bd:=bd) (m:=lb) (n:=la) (g13:=g13) (go:=go) cH (bk.perm (by rw[hB];ac_rfl:_=aj (aV 39 1 (.slice (some ⟨go,0,none⟩) la la) la (List.replicate la (.slice none 0 0))) (aj (av g13 (ie bd none 0 0 none 0 0 none 0 0 none 0 0) 41) B))))
    have HB:=au (fun W (X:CH.aT) (h:aI eR w (aj B X) W)=>(show(my W g5 (.int .i64 a.k) (.slice An la ca))/\(my W g6 (.int .i64 b.k) (.slice Bn lb cb))/\(lR W g10 (.slice t.A T.rs.length t.c) (.slice t.D T.ds.length t.d) (.slice t.E T.es.length t.e) (.int .i64 T.drop) (.int .i64 T.ord) (.int .i64 T.ini))/\(C5 W g10 (.int .i64 a.k) (.slice An la ca) (.int .i64 b.k) (.slice Bn lb cb)) from by
     rw[hB] at h;obtain⟨_,f5⟩:=h.assoc.fst;obtain⟨_,f6⟩:=h.assoc.drop.assoc.fst;obtain⟨_,f4⟩:=h.assoc.drop.assoc.drop.assoc.fst
     exact⟨⟨ay f5 rfl,ay f5 rfl⟩,⟨ay f6 rfl,ay f6 rfl⟩,⟨ay f4 rfl,ay f4 rfl,ay f4 rfl,ay f4 rfl,ay f4 rfl,ay f4 rfl⟩,ay f4 rfl,ay f4 rfl,ay f4 rfl,ay f4 rfl⟩))
    have bx:=au hB;clear bk hB bf;go_wp2_with fail;go_loopw [58] (fun kk wr=>∃ i:Nat,kk=.int .i64 i/\i<=la/\aI eR w (aj (Yy T a b bd lb la g13 go i 0) B) wr) (fun kk _=>la-(intOf kk).toNat)
    case atStart=>exact⟨0,rfl,fw _,cj.o⟩
    case round=>
     obtain⟨i,rfl,hi,hR⟩:=hrel;have HR:=au hR;clear cj hR;by_cases ar:i<la
     ·obtain⟨-,⟨-,r1⟩,-⟩:=HB.o _ _ HR.o.swap;go_wp2_with fail;clear r1;go_loopw [64] (fun kk wr=>∃ j:Nat,kk=.int .i64 j/\j<=lb/\aI eR w (aj (Yy T a b bd lb la g13 go i j) B) wr) (fun kk _=>lb-(intOf kk).toNat)
      case atStart=>exact⟨0,rfl,fw _,HR.o⟩
      case round=>
       obtain⟨j,rfl,hj,hR⟩:=hrel;have HR:=au hR;clear hR;by_cases aD:j<lb
       ·obtain⟨⟨r0,r1⟩,⟨r2,r3⟩,⟨c0,c1,c2,c3,c4,c5⟩,c6,c7,c8,c9⟩:=HB.o _ _ HR.o.swap;have K1:=au (KW.o wr (ak.o _ _ HR.o) i j ar aD);go_wp2_with fail;refine K1.o.mono ?_;rintro e9 b8 ⟨z,rfl,hz,hp⟩;have HZ:=au hz;have ck:=au (aH (HR.o.fresh aO hp) aO (Jk z) 55);clear K1 HR hz hp r0 r1 r2 r3 c0 c1 c2 c3 c4 c5 c6 c7 c8 c9;unfold Jk at *
        dsimp only;go_upto_region 16 with (fail);generalize b8.alloc (.cells (js z.i z.j z.h z.A z.ps.length z.c) 55)=bz at *
        generalize b8.heap.size=aa at *
        obtain⟨es,A1,c1,zs,ai,bo⟩:=OB (ck.o.perm (by ac_rfl:_=aj (Yy T a b bd lb la g13 go i j) (aj (av aa (js z.i z.j z.h z.A z.ps.length z.c) 55) (aj (y7 z.A z.c z.ps) B))));have ao:i<zs.length:=by rw[ai.zl];exact ar
        have bn:=au (fun A9 c9=>ai.next (A:=A9) (c:=c9) ao aD HZ.o);have az:=au (show zs[i].l.length=j from by rw[ai.at ao];simp)
        have cA:=au (show es.length<=36 from by
         have:=ai.len;have:i*lb<=5*lb:=xp _ eL
         omega)
        obtain⟨ax,-⟩:=yU ao (bo.perm (by ac_rfl:_=aj (fU (some ⟨go,0,none⟩) la zs) (aj (av g13 (ie bd A1 es.length c1 none 0 0 none 0 0 none 0 0) 41) (aj (zi A1 c1 es) (aj (av aa (js z.i z.j z.h z.A z.ps.length z.c) 55) (aj (y7 z.A z.c z.ps) B))))));have a7:=ai.zl;rw[a7] at ax;have cm:=au a7
        have cG:=au (show(zs.flatMap bZ.cl)[i]?=some (.slice zs[i].A j zs[i].c) from by
         have:=jM (R:=bZ.cl) (size:=1) (fun _=>rfl) ao (i:=0) eL;rw[AI,pk] at this;rw[<-az.o]
         exact this)
        have ce:=au (fun (A9:eV) (c9:Nat) (l9:List Int) (Y:CH.aT) W (h:aI eR w (aj (aX A9 c9 l9) (aj (aV 39 1 (.slice (some ⟨go,0,none⟩) zs.length la) zs.length (zs.flatMap bZ.cl)) Y)) W)=>(show W.cell? ⟨go,i,none⟩=some (.slice zs[i].A j zs[i].c)/\W.frozen? ⟨go,i,none⟩=false from by
         have:=BU ao h;rw[az.o] at this
         exact this))
        have b5:(aj (aL (es.map Yw)) (aj (aL ((zs.eraseIdx i).map bZ.ow)) (aj (y7 z.A z.c z.ps) B))).Ok:=aO;generalize zs[i].A=zA at *
        generalize zs[i].c=zc at *
        generalize zs[i].l=zl at *
        have cD:=au (show aX zA zc zl=(aV 3 1 (.slice zA j zc) j (ints zl)) from by unfold aX;rw[az.o])
        have bh:=au (fun (A2:eV) (c2:Nat) (B2:eV) (d2:Nat) W (h:aI eR w (aj (av g13 (ie bd A2 (es.length+1) c2 none 0 0 none 0 0 none 0 0) 41) (aj (aV 55 4 (.slice A2 (es.length+1) c2) (es.length+1) (es.flatMap mJ++mJ z)) (aj (aV 3 1 (.slice B2 (j+1) d2) (j+1) (ints zl++[.int .i64 z.h])) (aj (av aa (js z.i z.j z.h z.A z.ps.length z.c) 55) (aj (aV 39 1 (.slice (some ⟨go,0,none⟩) la la) la (zs.flatMap bZ.cl)) (aj (aL (es.map Yw)) (aj (aL ((zs.eraseIdx i).map bZ.ow)) (aj (y7 z.A z.c z.ps) B)))))))) W)=>(show(W.cell? ⟨go,i,none⟩=some (.slice zA j zc)/\W.frozen? ⟨go,i,none⟩=false)/\aI eR w (aj (Yy T a b bd lb la g13 go i (j+1)) B) (W.setCell ⟨go,i,none⟩ (.slice B2 (j+1) d2)) from by
         have e1:(aV 3 1 (.slice B2 (j+1) d2) (j+1) (ints zl++[.int .i64 z.h]))=aX B2 d2 (zl++[z.h]):=by unfold aX ints;rw[gd,az.o,km];rfl
         rw[e1] at h;have h1:=h.perm (by rw[cm.o];ac_rfl:_=(aj (aX B2 d2 (zl++[z.h])) (aj (aV 39 1 (.slice (some ⟨go,0,none⟩) zs.length la) zs.length (zs.flatMap bZ.cl)) (aj (aL ((zs.eraseIdx i).map bZ.ow)) (aj (av g13 (ie bd A2 (es.length+1) c2 none 0 0 none 0 0 none 0 0) 41) (aj (aV 55 4 (.slice A2 (es.length+1) c2) (es.length+1) (es.flatMap mJ++mJ z)) (aj (av aa (js z.i z.j z.h z.A z.ps.length z.c) 55) (aj (aL (es.map Yw)) (aj (y7 z.A z.c z.ps) B)))))))));refine⟨ce.o _ _ _ _ _ h1,?_⟩;have h2:=BR ao (n:=j+1) (by rw[gd,az.o];rfl) aO h1;have h3:=h2.perm (by ac_rfl:_=aj (aj (aV 55 4 (.slice A2 (es.length+1) c2) (es.length+1) (es.flatMap mJ++mJ z)) (aj (y7 z.A z.c z.ps) (aL (es.map Yw)))) (aj (av aa (js z.i z.j z.h z.A z.ps.length z.c) 55) (aj (av g13 (ie bd A2 (es.length+1) c2 none 0 0 none 0 0 none 0 0) 41) (aj (fU (some ⟨go,0,none⟩) la (zs.set i ⟨zl++[z.h],B2,d2⟩)) B))));have h4:aI eR w (aj (zi A2 c2 (es++[z])) (aj (av aa (js z.i z.j z.h z.A z.ps.length z.c) 55) (aj (av g13 (ie bd A2 (es.length+1) c2 none 0 0 none 0 0 none 0 0) 41) (aj (fU (some ⟨go,0,none⟩) la (zs.set i ⟨zl++[z.h],B2,d2⟩)) B)))) _:=h3.imp fun w F h=>bD h (fun _ h=>aa1 h) (fun _ h=>h);have h5:=(h4.perm (by ac_rfl:_=aj (av aa (js z.i z.j z.h z.A z.ps.length z.c) 55) (aj (av g13 (ie bd A2 (es.length+1) c2 none 0 0 none 0 0 none 0 0) 41) (aj (zi A2 c2 (es++[z])) (aj (fU (some ⟨go,0,none⟩) la (zs.set i ⟨zl++[z.h],B2,d2⟩)) B))))).drop
         exact OC (bn.o B2 d2) (by rw[gd];exact h5)))
        clear bn ce a7;rw[cD.o] at ax;unfold zi at ax;obtain⟨X,hX⟩:∃ X:CH.aT,X=aj (aL (es.map Yw)) (aj (aL ((zs.eraseIdx i).map bZ.ow)) (aj (y7 z.A z.c z.ps) B)):=⟨_,rfl⟩;rw[<-hX] at b5;have bw:=au ((ax.perm (by rw[hX];ac_rfl:_=aj (aj (aV 55 4 (.slice A1 es.length c1) es.length (es.flatMap mJ)) (aV 3 1 (.slice zA j zc) j (ints zl))) (aj (av g13 (ie bd A1 es.length c1 none 0 0 none 0 0 none 0 0) 41) (aj (av aa (js z.i z.j z.h z.A z.ps.length z.c) 55) (aj (aV 39 1 (.slice (some ⟨go,0,none⟩) la la) la (zs.flatMap bZ.cl)) X))))).drew aO);have cq:=au hX;clear ax hX bo ck ai HR;go_upto_region 16 with (fail);obtain⟨F,hF,am⟩:=bw.o.sub aO aO;have HF:=au hF;have bp:=au am;have be:=au (show ∀ (O:CH.aT) W,aI F bz.drew O W->aI eR w (aj (av g13 (ie bd A1 es.length c1 none 0 0 none 0 0 none 0 0) 41) (aj (av aa (js z.i z.j z.h z.A z.ps.length z.c) 55) (aj (aV 39 1 (.slice (some ⟨go,0,none⟩) la la) la (zs.flatMap bZ.cl)) X))) W from fun O W h=>(am bG W aN ⟨⟨fun _=>False,fun _ h=>h,fun _ h=>h.elim⟩,h.mod⟩).drop);have ac:=au (be.o _ _ hF)
        have cy:=au (fun W (h:aI eR w (aj (av g13 (ie bd A1 es.length c1 none 0 0 none 0 0 none 0 0) 41) (aj (av aa (js z.i z.j z.h z.A z.ps.length z.c) 55) (aj (aV 39 1 (.slice (some ⟨go,0,none⟩) la la) la (zs.flatMap bZ.cl)) X))) W)=>(show W.cell? ⟨go,i,none⟩=some (.slice zA j zc) from by
         obtain⟨_,f⟩:=h.drop.drop.fst
         exact nH f cG.o))
        clear bw hF am;have cP:(i:Int)<(la:Int):=by omega
        refine AP 16 (fun w'=>aI eR w (aj (av g13 (ie bd A1 es.length c1 none 0 0 none 0 0 none 0 0) 41) (aj (av aa (js z.i z.j z.h z.A z.ps.length z.c) 55) (aj (aV 39 1 (.slice (some ⟨go,0,none⟩) la la) la (zs.flatMap bZ.cl)) X))) w') rfl ?_;generalize bz.drew=cY at *
        refine fQ (i:=0) (v:=.slice (some ⟨go,0,none⟩) la la) rfl eQ eQ eQ rfl (fun _ _ _ h=>h) (.inl ⟨rfl,fun w' I=>?_⟩) (fun _=>ac.o) ?_
        ·go_simp
        try simp only[Act.put,lw,lh,k8,ja,i6,i7]
        refine fQ (i:=1) (v:=.int .i64 i) rfl eQ eQ eQ rfl (fun _ _ _ h=>h) (.inl ⟨rfl,fun w' I=>?_⟩) (fun _=>ac.o) ?_
        ·go_simp
        try simp only[Act.put,lw,lh,k8,ja,i6,i7]
        refine fQ (i:=2) (v:=.pointer (some ⟨g13,1,none⟩)) rfl eQ eQ eQ rfl (fun _ _ _ h=>h) (.inl ⟨rfl,fun w' I=>?_⟩) (fun _=>ac.o) ?_
        ·go_simp
        try simp only[Act.put,lw,lh,k8,ja,i6,i7]
        refine nC (i:=3) (v:=.slice A1 es.length c1) rfl eQ eQ eQ eQ (fun _ _ _ h=>h) (.inl ⟨rfl,fun w' I=>?_⟩) ac.o ?_
        ·obtain⟨s0,s1,s2,s3,s4,-⟩:=gu I;clear I;go_simp
        try simp only[Act.put,lw,lh,k8,ja,i6,i7]
        refine nC (i:=4) (v:=.agg (js z.i z.j z.h z.A z.ps.length z.c)) rfl eQ eQ eQ eQ (fun _ _ _ h=>h) (.inl ⟨rfl,fun w' I=>?_⟩) ac.o ?_
        ·obtain⟨s0,s1,s2,s3,-⟩:=bq I.drop;clear I;go_simp
        try simp only[Act.put,lw,lh,k8,ja,i6,i7]
        refine fQ (i:=7) (v:=.slice (some ⟨go,0,none⟩) la la) rfl eQ eQ eQ rfl (fun _ _ _ h=>h) (.inl ⟨rfl,fun w' I=>?_⟩) (fun _=>ac.o) ?_
        ·go_simp
        try simp only[Act.put,lw,lh,k8,ja,i6,i7]
        refine fQ (i:=8) (v:=.int .i64 i) rfl eQ eQ eQ rfl (fun _ _ _ h=>h) (.inl ⟨rfl,fun w' I=>?_⟩) (fun _=>ac.o) ?_
        ·go_simp
        try simp only[Act.put,lw,lh,k8,ja,i6,i7]
        refine fQ (i:=9) (v:=.pointer (some ⟨go,i,none⟩)) rfl eQ eQ eQ rfl (fun _ _ _ h=>h) (.inl ⟨rfl,fun w' I=>?_⟩) (fun _=>ac.o) ?_
        ·go_simp
        try simp only[Act.put,lw,lh,k8,ja,i6,i7]
        refine yj [14] (i:=10) (v:=.slice zA j zc) rfl eQ eQ eQ eQ (fun _ _ _ h=>h) (.inl ⟨rfl,fun w' I=>?_⟩) ac.o ?_
        ·have s0:=cy.o _ I;clear I;go_simp
        try simp only[Act.put,lw,lh,k8,ja,i6,i7]
        refine fQ (i:=11) (v:=.pointer (some ⟨aa,2,none⟩)) rfl eQ eQ eQ rfl (fun _ _ _ h=>h) (.inl ⟨rfl,fun w' I=>?_⟩) (fun _=>ac.o) ?_
        ·go_simp
        try simp only[Act.put,lw,lh,k8,ja,i6,i7]
        refine yj [14,13] (i:=12) (v:=.int .i64 z.h) rfl eQ eQ eQ eQ (fun _ _ _ h=>h) (.inl ⟨rfl,fun w' I=>?_⟩) ac.o ?_
        ·obtain⟨s0,s1,s2,s3,-⟩:=bq I.drop;clear I;go_simp
        try simp only[Act.put,lw,lh,k8,ja,i6,i7]
        refine AZ [5,6,15] [13,14] (TQ 55 4 A1 c1 es.length (es.flatMap mJ) (mJ z) (.pointer (some ⟨g13,1,none⟩))) (TQ 3 1 zA zc j (ints zl) [.int .i64 z.h] undef) 3 eQ IZ IZ aN be.o ?_ ?_ ?_ (HF.o.perm (by rw[fC];rfl))
        ·intro i1 o1 vs us J ad db Z W hZ hR;rcases vs with _|⟨v,_|⟨v2,_|⟨v3,vs⟩⟩⟩
         ·obtain rfl:5=i1:=by simpa using J
          simp only[mj,oE,oS,Option.some.injEq] at ad;subst ad;refine BP hZ hR (fun w=>jG rfl ?_ (Mw _ _ _ _ _ _ w))
          show(fS (fS _ [77,78,87] []) [85,86] us).eval (.tmp 76)=_
          rw[bH 76 [85,86] us _ eS,bH 76 [77,78,87] [] _ eS];rfl
         ·obtain rfl:6=i1:=by simpa using J
          simp only[mj,oE,oS,Option.some.injEq] at ad;subst ad;refine BQ aeg eS (.tmp 75) (.tmp 77) rfl hZ hR ?_ ?_ (by have:=cA.o;omega) rfl (fun y hy=>Ef [z] y (by simpa[mJ] using hy))
          ·show(fS (fS _ [77,78,87] [v]) [85,86] us).eval (.tmp 75)=_
           rw[bH 75 [85,86] us _ eS,bH 75 [77,78,87] [v] _ eS];rfl
          ·show(fS (fS _ [77,78,87] [v]) [85,86] us).eval (.tmp 77)=v
           rw[bH 77 [85,86] us _ eS];exact oU v (show 77<119 by decide)
         ·obtain rfl:15=i1:=by simpa using J
          simp only[mj,oE,oS,Option.some.injEq] at ad;subst ad;obtain⟨A3,hR⟩:=hR.ex;obtain⟨c3,hR⟩:=hR.ex;obtain⟨cI,hR⟩:=hR.pure;refine Asn.oz (v:=.pointer (some ⟨g13,1,none⟩)) (w':=W) (TK rfl ?_) ⟨_,rfl,aI.nT A3 (aI.nT c3 (aI.iQ ⟨cI,rfl⟩ hR))⟩
          show(fS (fS _ [77,78,87] [v,v2]) [85,86] us).eval (.tmp 13)=_
          rw[bH 13 [85,86] us _ eS,bH 13 [77,78,87] [v,v2] _ eS];rfl
         ·simp at J
        ·intro i1 o1 vs us J ad cV Z W hZ hR;rcases us with _|⟨v,_|⟨v2,us⟩⟩
         ·obtain rfl:13=i1:=by simpa using J
          simp only[mj,oE,oS,Option.some.injEq] at ad;subst ad;refine BP hZ hR (fun w=>jG rfl ?_ (uz z.h w))
          show(fS (fS _ [77,78,87] vs) [85,86] []).eval (.tmp 84)=_
          rw[bH 84 [85,86] [] _ eS,bH 84 [77,78,87] vs _ eS];rfl
         ·obtain rfl:14=i1:=by simpa using J
          simp only[mj,oE,oS,Option.some.injEq] at ad;subst ad;refine BQ Vm eS (.tmp 82) (.tmp 85) rfl hZ hR ?_ ?_ eL rfl (fun y hy=>by simp at hy;subst hy;rfl)
          ·show(fS (fS _ [77,78,87] vs) [85,86] [v]).eval (.tmp 82)=_
           rw[bH 82 [85,86] [v] _ eS,bH 82 [77,78,87] vs _ eS];rfl
          ·show(fS (fS _ [77,78,87] vs) [85,86] [v]).eval (.tmp 85)=v
           exact oU v (by rw[oC];show 85<119;decide)
         ·simp at J
        intro vs us W hv hu hR;obtain⟨v1,v2,v3,rfl⟩:=Wj hv;obtain⟨v4,v5,rfl⟩:=D3 hu;obtain⟨A2,c2,B2,d2,rfl,rfl,rfl,-,-,b9⟩:=QF hR;have b3:=bp.o _ _ aO (b9.perm (fC _));clear hR hv hu b9;simp only[dQ,lk,pH,mj,oE,oS,CL,CN,fS,Act.put,ja,i6,i7];have ba:=b3.perm (by rw[cq.o];ac_rfl:_=(aj (av g13 (ie bd A1 es.length c1 none 0 0 none 0 0 none 0 0) 41) (aj (aV 55 4 (.slice A2 (es.length+1) c2) (es.length+1) (es.flatMap mJ++mJ z)) (aj (aV 3 1 (.slice B2 (j+1) d2) (j+1) (ints zl++[.int .i64 z.h])) (aj (av aa (js z.i z.j z.h z.A z.ps.length z.c) 55) (aj (aV 39 1 (.slice (some ⟨go,0,none⟩) la la) la (zs.flatMap bZ.cl)) (aj (aL (es.map Yw)) (aj (aL ((zs.eraseIdx i).map bZ.ow)) (aj (y7 z.A z.c z.ps) B)))))))));obtain⟨s0,s1,s2,s3,s4,sf⟩:=gu ba;have cf:=au (show aI eR w (aj (av g13 (ie bd A2 (es.length+1) c2 none 0 0 none 0 0 none 0 0) 41) (aj (aV 55 4 (.slice A2 (es.length+1) c2) (es.length+1) (es.flatMap mJ++mJ z)) (aj (aV 3 1 (.slice B2 (j+1) d2) (j+1) (ints zl++[.int .i64 z.h])) (aj (av aa (js z.i z.j z.h z.A z.ps.length z.c) 55) (aj (aV 39 1 (.slice (some ⟨go,0,none⟩) la la) la (zs.flatMap bZ.cl)) (aj (aL (es.map Yw)) (aj (aL ((zs.eraseIdx i).map bZ.ow)) (aj (y7 z.A z.c z.ps) B)))))))) _ from aJ ba aO 1 (.slice A2 (es.length+1) c2));clear be ac bp HF b3 ba;refine mq (rs:=[16]) eQ eS (fun i1 J=>?_);obtain rfl:i1=16:=by simpa using J
        refine gH rfl rfl (Ac fun K hK=>?_);clear J;go_wp2_with fail;refine hK.o _ _ ⟨fun h=>by simp at h,?_⟩;clear hK;generalize W.setCell ⟨g13,1,none⟩ (.slice A2 (es.length+1) c2)=W2 at *
        clear s0 s1 s2 s3 s4 sf;obtain⟨⟨s0,s1⟩,a6⟩:=bh.o _ _ _ _ _ cf.o;have ci:=au a6;clear cf a6 bh;refine mq (rs:=[17]) eQ eS (fun i1 J=>?_);obtain rfl:i1=17:=by simpa using J
        refine gH rfl rfl (Ac fun K hK=>?_);clear J;go_wp2_with fail;refine hK.o _ _ ⟨fun h=>by simp at h,?_⟩;clear hK;refine mq (rs:=[18]) eQ eS (fun i1 J=>?_);obtain rfl:i1=18:=by simpa using J
        refine gH rfl rfl (Ac fun K hK=>?_);clear J;go_wp2_with fail;refine hK.o _ _ ⟨fun h=>by simp at h,?_⟩;clear hK;refine AO eQ ?_ _;generalize W2.setCell ⟨go,i,none⟩ (.slice B2 (j+1) d2)=W3 at *
        clear s0 s1;go_wp2_with fail
        go_roundw
        case rel=>exact⟨j+1,by go_num,aD,ci.o⟩
        case measure=>simp[intOf];omega
       ·obtain rfl:j=lb:=by omega
        have cx:=au (aa0 HR.o);clear HR;go_wp2_with fail
        go_roundw
        case rel=>exact⟨i+1,by go_num,ar,cx.o⟩
        case measure=>simp[intOf];omega
     ·obtain rfl:la=i:=by omega
      obtain⟨es,A1,c1,zs,ai,cd⟩:=OB HR.o
      have bb:=au (fun W (Y:CH.aT) (h:aI eR w (aj (fU (some ⟨go,0,none⟩) la zs) Y) W)=>(show ∃ V',uy W (some ⟨go,0,none⟩) (hL T a b bd) V' from by
       obtain⟨F,hF⟩:=h.fst;have b0:=D6 hF;have e:zs.map (·.l)=hL T a b bd:=by rw[ai.mat];unfold hL;rw[<-HL.o.1.1,<-HL.o.1.2];exact XT
       rw[e] at b0
       exact⟨_,b0⟩))
      have b1:=au (fun A2 A3 A4 c2 c3 c4 X W h=>XV (w:=w) (W:=W) (T:=T) (a:=a) (b:=b) (bd:=bd) (A1:=A1) (A2:=A2) (A3:=A3) (A4:=A4) (c1:=c1) (c2:=c2) (c3:=c3) (c4:=c4) (X:=X) HL.o.1.1 HL.o.1.2 af.o HG.o.1 HG.o.2 cz.o ai h);have bu:=au (fun A5 A6 c5 c6 W V' (hm:uy W (some ⟨go,0,none⟩) (hL T a b bd) V') (hD:iF W A5 (dL T a)) (hE:iF W A6 (dL T b)) (hd:la<=c5)=>adf (c:=la) (d:=c5) (e:=c6) HL.o.1.1 HL.o.1.2 af.o HG.o.1 HG.o.2 hm hD hE hd);have cc:=au (fun A5 A6 c5 c6 W V' (hm:uy W (some ⟨go,0,none⟩) (hL T a b bd) V') (hD:iF W A5 (dL T a)) (hE:iF W A6 (dL T b))=>adg (c:=la) (d:=c5) (e:=c6) HL.o.1.1 HL.o.1.2 af.o HG.o.1 HG.o.2 hm hD hE);have cE:=au (show(dL T a).length=la from by rw[HL.o.1.1];simp[dL]);generalize (pR (hL T a b bd) (dL T a) (dL T b)).us=us at *
      generalize (pR (hL T a b bd) (dL T a) (dL T b)).vs=vs at *
      generalize oV (hL T a b bd) (dL T a) (dL T b)=gl at *
      have a3:=au ((cd.perm (by ac_rfl:_=(aj B (aj (fU (some ⟨go,0,none⟩) la zs) (aj (av g13 (ie bd A1 es.length c1 none 0 0 none 0 0 none 0 0) 41) (zi A1 c1 es)))))).drew aO);clear cd ai HR KW;go_upto_region 19 with (fail);have br:=au (KD.o wr.drew (ak.o _ _ a3.o)).1;refine dY [2,5] [0,0,1,1,1,2,2,2] (fun W=>(my W g5 (.int .i64 a.k) (.slice An la ca))/\(my W g6 (.int .i64 b.k) (.slice Bn lb cb))/\(lR W g10 (.slice t.A T.rs.length t.c) (.slice t.D T.ds.length t.d) (.slice t.E T.es.length t.e) (.int .i64 T.drop) (.int .i64 T.ord) (.int .i64 T.ini))/\(C5 W g10 (.int .i64 a.k) (.slice An la ca) (.int .i64 b.k) (.slice Bn lb cb))) [(fun W=>(my W g5 (.int .i64 a.k) (.slice An la ca))/\(my W g6 (.int .i64 b.k) (.slice Bn lb cb))/\(lR W g10 (.slice t.A T.rs.length t.c) (.slice t.D T.ds.length t.d) (.slice t.E T.es.length t.e) (.int .i64 T.drop) (.int .i64 T.ord) (.int .i64 T.ini))/\(C5 W g10 (.int .i64 a.k) (.slice An la ca) (.int .i64 b.k) (.slice Bn lb cb))),(fun _=>True),(fun _=>True)] ⟨(fun _ h=>h),(fun _ _=>trivial),(fun _ h=>h),trivial⟩ eQ eQ eQ eQ (HB.o _ _ a3.o) ?_;generalize wr.drew=cT at *
      (repeat(first|refine eH ?_|refine eO ?_))
      refine bB rfl fY (fun K hK=>?_);go_wp2_with fail;refine br.o.mono ?_;rintro e9 co ⟨A5,c5,rfl,hp⟩;have a1:=au ((a3.o.fresh aO hp).perm (by ac_rfl:_=(aj B (aj (bE A5 c5 (dL T a)) (aj (fU (some ⟨go,0,none⟩) la zs) (aj (av g13 (ie bd A1 es.length c1 none 0 0 none 0 0 none 0 0) 41) (zi A1 c1 es)))))));have b7:=au (KD.o co (ak.o _ _ a1.o)).2;clear br KD a3 hp;dsimp only;refine hK.o _ _ (HB.o _ _ a1.o) ?_;clear hK
      (repeat(first|refine eH ?_|refine eO ?_))
      refine bB rfl fY (fun K hK=>?_);go_wp2_with fail;refine b7.o.mono ?_;rintro e9 ct ⟨A6,c6,rfl,hp⟩;have aA:=au ((a1.o.fresh aO hp).perm (by ac_rfl:_=(aj (fU (some ⟨go,0,none⟩) la zs) (aj (bE A5 c5 (dL T a)) (aj (bE A6 c6 (dL T b)) (aj (av g13 (ie bd A1 es.length c1 none 0 0 none 0 0 none 0 0) 41) (aj (zi A1 c1 es) B)))))));clear b7 a1 hp;dsimp only;refine hK.o _ _ trivial ?_;clear hK
      (repeat(first|refine eH ?_|refine eO ?_))
      refine iT ?_;obtain⟨V9,hm⟩:=bb.o _ _ aA.o;obtain⟨_,f5⟩:=aA.o.drop.fst;obtain⟨_,f6⟩:=aA.o.drop.drop.fst;have b4:=au (bu.o A5 A6 c5 c6 ct V9 hm (fA f5) (fA f6) (by rw[<-cE.o];exact QI f5));clear hm f5 f6 bu;go_wp2_with fail;refine b4.o.mono ?_;rintro e9 bi ⟨k9,A7,n7,c7,A2,c2,A3,c3,rfl,hp⟩;have bm:=au (aH (aA.o.fresh aO hp) aO (gO k9 A7 n7 c7 A2 us.length c2 A3 vs.length c3) 89);clear b4 aA hp;dsimp only;go_upto_region 21 with (fail);generalize bi.alloc (.cells (gO k9 A7 n7 c7 A2 us.length c2 A3 vs.length c3) 89)=cv at *
      generalize bi.heap.size=ab at *
      have aE:=au ((bm.o.perm (by ac_rfl:_=(aj (av g13 (ie bd A1 es.length c1 none 0 0 none 0 0 none 0 0) 41) (aj (av ab (gO k9 A7 n7 c7 A2 us.length c2 A3 vs.length c3) 89) (aj (fU (some ⟨go,0,none⟩) la zs) (aj (bE A5 c5 (dL T a)) (aj (bE A6 c6 (dL T b)) (aj (aj (aX A2 c2 us) (aX A3 c3 vs)) (aj (zi A1 c1 es) B))))))))).drew aO);clear bm
      have a9:=au (fun W (Y X:CH.aT) (h:aI eR w (aj Y (aj (av ab (gO k9 A7 n7 c7 A2 us.length c2 A3 vs.length c3) 89) X)) W)=>(show(fun W=>(nq W ab (.int .i64 k9) (.slice A7 n7 c7) (.slice A2 us.length c2) (.slice A3 vs.length c3))) W from by
       obtain⟨_,f⟩:=h.drop.fst
       exact⟨ay f rfl,ay f rfl,ay f rfl,ay f rfl⟩))
      refine dY [5,7] [0,0,1,1,0,1,1,2] (fun W=>(nq W ab (.int .i64 k9) (.slice A7 n7 c7) (.slice A2 us.length c2) (.slice A3 vs.length c3))) [(fun W=>(nq W ab (.int .i64 k9) (.slice A7 n7 c7) (.slice A2 us.length c2) (.slice A3 vs.length c3))),(fun _=>True),(fun _=>True)] ⟨(fun _ h=>h),(fun _ _=>trivial),(fun _ h=>h),trivial⟩ eQ eQ eQ eQ (a9.o _ _ _ aE.o) ?_;generalize cv.drew=cn at *
      obtain⟨z0,z1,z2,z3,z4,zf⟩:=gu aE.o;have a4:=au (show aI eR w (aj (av g13 (ie bd A1 es.length c1 A2 us.length c2 none 0 0 none 0 0) 41) (aj (av ab (gO k9 A7 n7 c7 A2 us.length c2 A3 vs.length c3) 89) (aj (fU (some ⟨go,0,none⟩) la zs) (aj (bE A5 c5 (dL T a)) (aj (bE A6 c6 (dL T b)) (aj (aj (aX A2 c2 us) (aX A3 c3 vs)) (aj (zi A1 c1 es) B))))))) _ from aJ aE.o aO 2 (.slice A2 us.length c2))
      (repeat(first|refine eH ?_|refine eO ?_))
      refine bB rfl fY (fun K hK=>?_);go_wp2_with fail;refine hK.o _ _ (a9.o _ _ _ a4.o) ?_;clear hK z0 z1 z2 z3 z4 zf aE;generalize cn.setCell ⟨g13,2,none⟩ (.slice A2 us.length c2)=cr at *
      obtain⟨z0,z1,z2,z3,z4,zf⟩:=gu a4.o;have b6:=au (show aI eR w (aj (av g13 (ie bd A1 es.length c1 A2 us.length c2 A3 vs.length c3 none 0 0) 41) (aj (av ab (gO k9 A7 n7 c7 A2 us.length c2 A3 vs.length c3) 89) (aj (fU (some ⟨go,0,none⟩) la zs) (aj (bE A5 c5 (dL T a)) (aj (bE A6 c6 (dL T b)) (aj (aj (aX A2 c2 us) (aX A3 c3 vs)) (aj (zi A1 c1 es) B))))))) _ from aJ a4.o aO 3 (.slice A3 vs.length c3))
      (repeat(first|refine eH ?_|refine eO ?_))
      refine bB rfl fY (fun K hK=>?_);go_wp2_with fail;refine hK.o _ _ trivial ?_;clear hK z0 z1 z2 z3 z4 zf a4;generalize cr.setCell ⟨g13,3,none⟩ (.slice A3 vs.length c3)=cJ at *
      refine iT ?_;have aw:=au (b6.o.perm (by ac_rfl:_=(aj (fU (some ⟨go,0,none⟩) la zs) (aj (bE A5 c5 (dL T a)) (aj (bE A6 c6 (dL T b)) (aj (av ab (gO k9 A7 n7 c7 A2 us.length c2 A3 vs.length c3) 89) (aj (av g13 (ie bd A1 es.length c1 A2 us.length c2 A3 vs.length c3 none 0 0) 41) (aj (aj (aX A2 c2 us) (aX A3 c3 vs)) (aj (zi A1 c1 es) B)))))))));clear b6 a9;obtain⟨V9,hm⟩:=bb.o _ _ aw.o;obtain⟨_,f5⟩:=aw.o.drop.fst;obtain⟨_,f6⟩:=aw.o.drop.drop.fst;have b2:=au (cc.o A5 A6 c5 c6 cJ V9 hm (fA f5) (fA f6));clear hm f5 f6 cc bb;go_wp2_with fail;refine b2.o.mono ?_;rintro e9 cw ⟨A4,c4,rfl,hp⟩;have a8:=au ((aw.o.fresh aO hp).perm (by ac_rfl:_=(aj (av g13 (ie bd A1 es.length c1 A2 us.length c2 A3 vs.length c3 none 0 0) 41) (aj (aX A4 c4 gl) (aj (fU (some ⟨go,0,none⟩) la zs) (aj (bE A5 c5 (dL T a)) (aj (bE A6 c6 (dL T b)) (aj (av ab (gO k9 A7 n7 c7 A2 us.length c2 A3 vs.length c3) 89) (aj (aj (aX A2 c2 us) (aX A3 c3 vs)) (aj (zi A1 c1 es) B))))))))));clear b2 aw hp;dsimp only;obtain⟨z0,z1,z2,z3,z4,zf⟩:=gu a8.o;have ch:=au (show aI eR w (aj (av g13 (ie bd A1 es.length c1 A2 us.length c2 A3 vs.length c3 A4 gl.length c4) 41) (aj (aX A4 c4 gl) (aj (fU (some ⟨go,0,none⟩) la zs) (aj (bE A5 c5 (dL T a)) (aj (bE A6 c6 (dL T b)) (aj (av ab (gO k9 A7 n7 c7 A2 us.length c2 A3 vs.length c3) 89) (aj (aj (aX A2 c2 us) (aX A3 c3 vs)) (aj (zi A1 c1 es) B)))))))) _ from aJ a8.o aO 4 (.slice A4 gl.length c4));go_upto_region 23 with (fail);generalize cw.setCell ⟨g13,4,none⟩ (.slice A4 gl.length c4)=cX at *
      clear z0 z1 z2 z3 z4 zf a8;have a5:=au (ch.o.perm (by rw[bx.o];ac_rfl:_=aj (av g8 (ie 0 none 0 0 none 0 0 none 0 0 none 0 0) 41) (aj (av g13 (ie bd A1 es.length c1 A2 us.length c2 A3 vs.length c3 A4 gl.length c4) 41) (aj (aX A4 c4 gl) (aj (fU (some ⟨go,0,none⟩) la zs) (aj (bE A5 c5 (dL T a)) (aj (bE A6 c6 (dL T b)) (aj (av ab (gO k9 A7 n7 c7 A2 us.length c2 A3 vs.length c3) 89) (aj (aj (aX A2 c2 us) (aX A3 c3 vs)) (aj (zi A1 c1 es) (aj (av g5 (fh a.k An la ca) 28) (aj (av g6 (fh b.k Bn lb cb) 28) (aj (av g10 (sy t.A T.rs.length t.c t.D T.ds.length t.d t.E T.es.length t.e T.drop T.ord T.ini a.k An la ca b.k Bn lb cb) 93) (aj (av g11 (jj bc (fJ T a b).s A l.length c) 34) (aj (av g4 (iu T t) 25) bG)))))))))))))));obtain⟨z0,z1,z2,z3,z4,zf⟩:=gu a5.o;obtain⟨y0,y1,y2,y3,y4,-⟩:=gu a5.o.drop;have bv:=au (uK a5.o aO (.int .i64 bd) (.slice A1 es.length c1) (.slice A2 us.length c2) (.slice A3 vs.length c3) (.slice A4 gl.length c4));clear ch a5 HB bx;go_wp2;obtain⟨_,f8⟩:=bv.o.fst;refine bodyPost_ret (Ej rfl rfl f8.1 rfl) rfl ?_;exact b1.o A2 A3 A4 c2 c3 c4 _ _ (bv.o.perm (by ac_rfl:_=(aj (zi A1 c1 es) (aj (aj (aX A2 c2 us) (aX A3 c3 vs)) (aj (aX A4 c4 gl) (aj (av g8 (ie bd A1 es.length c1 A2 us.length c2 A3 vs.length c3 A4 gl.length c4) 41) (aj (av g13 (ie bd A1 es.length c1 A2 us.length c2 A3 vs.length c3 A4 gl.length c4) 41) (aj (fU (some ⟨go,0,none⟩) la zs) (aj (bE A5 c5 (dL T a)) (aj (bE A6 c6 (dL T b)) (aj (av ab (gO k9 A7 n7 c7 A2 us.length c2 A3 vs.length c3) 89) (aj (av g5 (fh a.k An la ca) 28) (aj (av g6 (fh b.k Bn lb cb) 28) (aj (av g10 (sy t.A T.rs.length t.c t.D T.ds.length t.d t.E T.es.length t.e T.drop T.ord T.ini a.k An la ca b.k Bn lb cb) 93) (aj (av g11 (jj bc (fJ T a b).s A l.length c) 34) (aj (av g4 (iu T t) 25) bG))))))))))))))))
end Go.Proofs.YtbioiclabmbedaaGreatDoor
namespace Go.CH.Sil
open Go.RowKit Go.CH.Scr Go.CH.dh Go.CH.Mtc
def vT (T:eW) (k k2 h:Int) (y:Wy) (p:DG):Prop:=
 (p.kd=y.kd/\p.l=y.l/\p.r=y.r)/\h<=p.h/\p.h<=100000/\jl T k y.x k2 y.y (p.h-y.c) p.C
end Go.CH.Sil
namespace Go.Proofs.YtbioiclabmbedaaGreatDoor
open Go.RowKit Go.CH Go.CH.Scr Go.CH.dh Go.CH.Mtc Go.CH.Sil
open Go.ChangeMaps (setBlock)
attribute [local go_sem] nz
theorem Mx {α:Type} {R:α->List Value} {size:Nat} (h:∀ x,(R x).length=size):∀ (l:List α) (k:Nat),(l.flatMap R).drop (k*size)=(l.drop k).flatMap R
 | l,0=>by simp
 | [],k+1=>by simp
 | x::l,k+1=>by
  rw[mN,List.drop_succ_cons,<-Mx h l k];have e:(k+1)*size=(R x).length+k*size:=by rw[h,li,vr]
  rw[e,List.drop_append];simp
variable {w w0 W:World}{A A':eV}{c g n c' J M i j:Nat}{T:eW}{k k2:Int}{ws:List Wy}{z:WL}{X:CH.aT}{F0:Nat->Prop}{a b:aQ}
theorem aa3 {α:Type} {R:α->List Value} {size:Nat} (hR:∀ x,(R x).length=size)   {l:List α} {k:Nat} (h:sD R size w A l) (hk:k<=l.length) (hc:l.length<=c):sD R size w (nW A c k size) (l.drop k):=by
 unfold sD at h ⊢;have:=Src.cut h hk hc;rw[Mx hR,<-k6] at this;exact this
theorem res32 {tmps:Array Value}   {b:Bool} (h:tmps.getD 8 undef=.pointer (some ⟨g,0,none⟩)) (I:w.cell? ⟨g,0,none⟩=some (.bool b)):(results Tryz.f32 tmps).run Tryz.prog w=.ok (.bool b) w:=by
 have J:tmps[8]?.getD undef=.pointer (some ⟨g,0,none⟩):=by simpa using h
 have M:=tT (P:=Tryz.prog) w g 4 b I Tryz.underlying4;simp only[results,Tryz.results32];simp[j9,Result.andThen,J,asAddr,M]
structure vf (T:eW) (k k2:Int) (ws:List Wy) (w:World) (z:WL) (n:Nat) (A':eV) (c':Nat):Prop where
 le:n<=z.ps.length
 cap:z.ps.length-n<=c'
 rd:QU w A' (z.ps.drop n)
 all:0<=z.h->∀ m (h:m<ws.length) (h':m<z.ps.length),m<n->vT T k k2 z.h ws[m] z.ps[m].p
theorem QU.cut   {l:List PL} {k:Nat} (h:QU w A l) (hk:k<=l.length) (hc:l.length<=c):QU w (nW A c k 5) (l.drop k):=
 ⟨aa3 Mr h.row hk hc,fun e he=>h.all e (zd he)⟩
theorem vf.next         (h:vf T k k2 ws w z n A' c') (hn:n<ws.length) (hl:n<z.ps.length) (hw:0<=z.h->vT T k k2 z.h ws[n] z.ps[n].p):vf T k k2 ws w z (n+1) (nW A' c' 1 5) (c'-1):=by
 have hc:=h.cap;refine⟨hl,by omega,?_,fun M m hm I aa=>?_⟩
 ·have:=h.rd.cut (c:=c') (k:=1) (by rw[k6];omega) (by rw[k6];exact hc);rw[uA] at this;exact this
 ·by_cases J:m<n
  ·exact h.all M m hm I J
  ·obtain rfl:m=n:=by omega
   exact hw M
def wA (T:eW) (k k2:Int) (ws:List Wy) (w:World) (z:WL) (g9 g8:Nat) (X:CH.aT) (n:Nat):CH.aT:=lQ fun A':eV=>lQ fun c':Nat=>sM (vf T k k2 ws w z n A' c') (aj (av g9 (ij A' (z.ps.length-n) c') 53) (aj (av g8 (gj false) 4) X))
instance {T:eW} {k k2:Int} {ws:List Wy} {w:World} {z:WL} {g9 g8:Nat} {X:CH.aT} [hX:X.Ok] {n:Nat}:(wA T k k2 ws w z g9 g8 X n).Ok:=bX fun _=>bX fun _=>gG aO
def S4 (q:Bool->Prop) (g8:Nat) (c:Code):CH.aT:=lQ fun bb:Bool=>sM (c=.ret/\q bb) (av g8 (gj bb) 4)
theorem XW       {R:CH.aT}    (h:aI F0 w0 (aj (wA T k k2 ws w z J M X n) R) W):∃ (I:eV) (c':Nat),vf T k k2 ws w z n I c'/\aI F0 w0 (aj (av J (ij I (z.ps.length-n) c') 53) (aj (av M (gj false) 4) (aj X R))) W:=by
 obtain⟨I,h⟩:=h.ex;obtain⟨c',h⟩:=h.ex;obtain⟨h1,h⟩:=h.pure;exact⟨I,c',h1,h.perm (by ac_rfl)⟩
theorem XY       {R:CH.aT}    {I:eV}  (h1:vf T k k2 ws w z n I c') (h:aI F0 w0 (aj (av J (ij I (z.ps.length-n) c') 53) (aj (av M (gj false) 4) (aj X R))) W):aI F0 w0 (aj (wA T k k2 ws w z J M X n) R) W:=
 aI.nT I (aI.nT c' (aI.iQ h1 (h.perm (by ac_rfl))))
def QZ (w:World) (T:eW) (a b:aQ) (i j:Nat) (z:Wb) (e:Ending) (w':World):Prop:=∃ bb:Bool,e=.returned (.bool bb)/\(bb=true↔Dk T a b i j z)/\Below w.heap.size w w'
theorem adh        (h:vf T a.k b.k (eU T a.k (wd a i) b.k (wd b j)) w z (eU T a.k (wd a i) b.k (wd b j)).length A' c') {bb:Bool} (hb:bb=true↔z.ps.length-(eU T a.k (wd a i) b.k (wd b j)).length=0/\z.i=i/\z.j=j/\0<=z.h):bb=true↔Dk T a b i j z.m:=by
 rw[hb];have hl:=h.le;constructor
 ·rintro⟨h1,h2,h3,h4⟩;refine⟨h2,h3,h4,by show(z.ps.map _).length=_;rw[gh];omega,fun m hm M=>?_⟩;have I:m<z.ps.length:=by have:m<(z.ps.map (·.p)).length:=M;rw[gh] at this;exact this
  have:=h.all h4 m hm I hm;have e:(z.ps.map (fun x=>x.p))[m]'(by rw[gh];exact I)=z.ps[m].p:=mA ..;unfold vT at this;rw[<-e] at this;exact this
 ·intro J;have:=J.len;have h6:(z.ps.map (·.p)).length=_:=this;rw[gh] at h6;exact⟨by omega,J.ri,J.rj,J.rh⟩
theorem aeh     (hn:n<(eU T a.k (wd a i) b.k (wd b j)).length) (h:∀ I:n<z.ps.length,0<=z.h->¬ vT T a.k b.k z.h (eU T a.k (wd a i) b.k (wd b j))[n] z.ps[n].p):¬ Dk T a b i j z.m:=by
 intro J;have h6:(z.ps.map (·.p)).length=_:=J.len;have I:n<z.ps.length:=by rw[gh] at h6;omega
 have M:n<z.m.ps.length:=by show n<(z.ps.map _).length;rw[gh];exact I
 have:=J.ps n hn M;have e:(z.ps.map (fun x=>x.p))[n]'(by rw[gh];exact I)=z.ps[n].p:=mA ..;refine h I J.rh ?_;unfold vT;rw[<-e];exact this
theorem Jf   {t:TA}  {An Bn:eV} {ca cb:Nat} (hN:wy w T t a b An Bn) (a1:nK T a b=true) (hi:i<a.ws.length) (hj:j<b.ws.length)  (hz:QU w z.A z.ps) (aA:z.ps.length<=z.c) (a6:z.ps.length<=1000000) (a5:∀ e ∈ z.ps,e.p.C.length<=1000000/\∀ p ∈ e.p.C,p.a.length<=1000000) :
  Calls Tryz.prog 32 #[.agg (jQ T t a b An Bn ca cb),.int .i64 (i:Int),.int .i64 (j:Int),.agg (Jk z)] w (QZ w T a b i j z.m):=by
 obtain⟨hv,ha,hb⟩:=dW.1 a1;have az:=jq ha hi;have aw:=jq hb hj;have h1:=aH (aI.begin w) aO (jQ T t a b An Bn ca cb) 93;have h2:=aH h1 aO (Jk z) 55;have h3:=aH h2 aO (gj false) 4;have h4:=aH h3 aO (ij z.A z.ps.length z.c) 53;simp only[im] at h4;have H4:=au h4;have KW:=au (fun W=>GI (T:=T) (t:=t) (a:=a) (b:=b) (An:=An) (Bn:=Bn) (ca:=ca) (cb:=cb) i j W);have aE:=au (fun b1 b2 b3=>Ei (T:=T) (t:=t) (a:=a) (b:=b) (An:=An) (Bn:=Bn) (ca:=ca) (cb:=cb) (b1:=b1) (b2:=b2) (b3:=b3) a1 hi hj);have al:=au (fun W X (h:aI eR w X W)=>(show Below w.heap.size w W from h.mod.below (fun _ _ h=>h)));have bc:=au (fun (ws:List Wy)=>(show vf T a.k b.k ws w z 0 z.A z.c from⟨fw _,aA,by rw[xF];exact hz,fun _ m _ _ h=>absurd h (nB _)⟩));have bf:=au (fun (A':eV) (c':Nat) (h:vf T a.k b.k (eU T a.k (wd a i) b.k (wd b j)) w z (eU T a.k (wd a i) b.k (wd b j)).length A' c') (bb:Bool) hb=>adh h (bb:=bb) hb);have bn:=au (fun (n:Nat) hn h=>aeh (T:=T) (a:=a) (b:=b) (z:=z) (i:=i) (j:=j) (n:=n) hn h);have bw:(wd a i).length<=1000000:=by unfold wd;rw[kj,gR hi];exact hN.wa _ (gv hi)
 have br:(wd b j).length<=1000000:=by unfold wd;rw[kj,gR hj];exact hN.wb _ (gv hj)
 have bk:=au (fun (y:Wy) (hy:y ∈ eU T a.k (wd a i) b.k (wd b j))=>(yg hv az aw hy).2);have KC:=au (fun W (hb:Below w.heap.size w W) (y:Wy) (hy:y ∈ eU T a.k (wd a i) b.k (wd b j)) (e:PL) (he:e ∈ z.ps) (bd:Int)=>RI (hN.ft.below hb) (hN.fz.below hb) a.k y.x b.k y.y bd (by have:=Ah hy az aw;omega) (by have:=Ah hy az aw;omega) (B:=e.A) (c:=e.c) (C:=e.p.C) (sD.below (hz.all e he) hb) (a5 e he).1 (a5 e he).2);have bo:=au (fun W (hm:Mod eR w W)=>hN.below (hm.below (fun _ _ h=>h)));have b0:=au a6;generalize eU T a.k (wd a i) b.k (wd b j)=ws at *
 clear h1 h2 h3 h4 hN hz aA a6 a5 bw br hv ha hb az aw a1 hi hj;unfold jQ at H4 KW aE ⊢;unfold Jk at H4 ⊢;refine(callsIn_wide (n:=8)).1 ?_;refine callsIn_of_wp_marks Tryz.func32 rfl trivial ?_ rfl;simp only[Tryz.ntmps32,pT,j7,lA,Nat.reduceAdd,Nat.reduceSub,qu,qS,re,qT,l4,pd];refine(wpIn_wide (n:=8)).2 ?_;go_upto_region 2 with (fail);obtain⟨w5,a8,h5⟩:=H4.o.nm
 try rw[a8]
 clear H4 a8;generalize w.heap.size+1+1+1=g9 at *
 generalize w.heap.size+1+1=g8 at *
 generalize w.heap.size+1=g7 at *
 generalize bv:w.heap.size=g4 at h5 ⊢;clear bv;have H5:=au h5;obtain⟨⟨n0,n1,n2,n3,n4,n5⟩,n6,n7,n8,n9⟩:=qY (T:=T) (t:=t) (a:=a) (b:=b) (An:=An) (Bn:=Bn) (ca:=ca) (cb:=cb) h5.drop.drop.drop;have a9:=au (KW.o w5);clear KW h5;go_wp2_with fail;refine a9.o.mono ?_;rintro e9 w6 ⟨b1,b2,b3,rfl,hp⟩;have H6:=au (H5.o.fresh aO hp);clear a9 H5 hp n0 n1 n2 n3 n4 n5 n6 n7 n8 n9;dsimp only;go_wp2_with fail;have bi:=au (aE.o b1 b2 b3);clear aE;obtain⟨B,hB⟩:∃ B:CH.aT,B=(aj (av g7 (js z.i z.j z.h z.A z.ps.length z.c) 55) (aj (av g4 (oB T t a An ca b Bn cb) 93) bG)):=⟨_,rfl⟩;have b7:B.Ok:=by rw[hB];exact aO
 have bp:=au (show aI eR w (aj (Zs (oB T t a An ca b Bn cb) i j b1 b2 b3) (wA T a.k b.k ws w z g9 g8 B 0)) w6 from
  (XY (bc.o ws) (H6.o.perm (by rw[hB];ac_rfl:_=(aj (av g9 (ij z.A z.ps.length z.c) 53) (aj (av g8 (gj false) 4) (aj B (Zs (oB T t a An ca b Bn cb) i j b1 b2 b3))))))).swap)
 have HB:=au (fun W (X:CH.aT) (h:aI eR w (aj B X) W)=>(show(C4 W g7 (.int .i64 z.i) (.int .i64 z.j) (.int .i64 z.h))/\(lR W g4 (.slice t.A T.rs.length t.c) (.slice t.D T.ds.length t.d) (.slice t.E T.es.length t.e) (.int .i64 T.drop) (.int .i64 T.ord) (.int .i64 T.ini))/\W.cell? ⟨g4,6,none⟩=some (.int .i64 a.k)/\W.cell? ⟨g4,8,none⟩=some (.int .i64 b.k) from by
  rw[hB] at h;obtain⟨_,f7⟩:=h.assoc.fst;obtain⟨_,f4⟩:=h.assoc.drop.assoc.fst
  exact⟨⟨ay f7 rfl,ay f7 rfl,ay f7 rfl⟩,⟨ay f4 rfl,ay f4 rfl,ay f4 rfl,ay f4 rfl,ay f4 rfl,ay f4 rfl⟩,ay f4 rfl,ay f4 rfl⟩))
 have b5:=au hB;clear H6 hB bc;have ap:=au (fun (bb:Bool) W (h:bb=true↔Dk T a b i j z.m) (hb:Below w.heap.size w W)=>(show QZ w T a b i j z.m (.returned (.bool bb)) W from⟨bb,rfl,h,hb⟩));generalize QZ w T a b i j z.m=b6 at *
 generalize Dk T a b i j z.m=RP at *
 have be:∀ (n:Nat) (a':Act),((fun n a'=>lQ fun g10:Nat=>lQ fun y:Wy=>sM (ws[n]?=some y/\a'={ tmps:=#[.agg (oB T t a An ca b Bn cb),.int .i64 (i:Int),.int .i64 (j:Int),.agg (js z.i z.j z.h z.A z.ps.length z.c),.pointer (some ⟨g4,0,none⟩),undef,undef,.pointer (some ⟨g7,0,none⟩),.pointer (some ⟨g8,0,none⟩),.pointer (some ⟨g9,0,none⟩),.pointer (some ⟨g10,0,none⟩),undef,.pointer (some ⟨g7,3,none⟩),.slice z.A z.ps.length z.c,.agg (oB T t a An ca b Bn cb),.int .i64 (i:Int),.int .i64 (j:Int),Bm b1 b2 b3,.agg (jI y),undef,undef,undef,undef,undef,undef,undef,undef,undef,undef,undef,undef,undef,undef,undef,undef,undef,undef,undef,undef,undef,undef,undef,undef,undef,undef,undef,undef,undef,undef,undef,undef,undef,undef,undef,undef,undef,undef,undef,undef,undef,undef,undef,undef,undef,undef,undef,undef,undef,undef,undef,undef,undef,undef,undef,undef,undef,undef,undef,undef,undef,undef,undef,undef,undef,undef,undef,undef,undef,undef,undef,undef,undef],defers:=[] }) (aj (av g10 (jI y) 137) (wA T a.k b.k ws w z g9 g8 B n))) n a').Ok:=fun _ _=>bX fun _=>bX fun _=>gG aO;refine oQ (gf:=72) (lb:=(vu (some ⟨b1,0,none⟩) (some ⟨b2,0,none⟩) (some ⟨b3,0,none⟩))) rfl (enters_of Tryz.func72 eQ rfl) bi.o aO (fun _=>rfl) bo.o (fun n=>wA T a.k b.k ws w z g9 g8 B n) (S4 (fun bb=>bb=true↔RP) g8) (fun n=>aO) _ be (fun _=>bX fun _=>gG aO) bp.o ?_ ?_ ?_ ?_
 ·intro lo m n hn R' W1 K hR hI hK;have h3:=aH hI aO (jI ws[n]) 137;have HF:=au (hK { tmps:=#[.agg (oB T t a An ca b Bn cb),.int .i64 (i:Int),.int .i64 (j:Int),.agg (js z.i z.j z.h z.A z.ps.length z.c),.pointer (some ⟨g4,0,none⟩),undef,undef,.pointer (some ⟨g7,0,none⟩),.pointer (some ⟨g8,0,none⟩),.pointer (some ⟨g9,0,none⟩),.pointer (some ⟨W1.heap.size,0,none⟩),undef,.pointer (some ⟨g7,3,none⟩),.slice z.A z.ps.length z.c,.agg (oB T t a An ca b Bn cb),.int .i64 (i:Int),.int .i64 (j:Int),Bm b1 b2 b3,.agg (jI ws[n]),undef,undef,undef,undef,undef,undef,undef,undef,undef,undef,undef,undef,undef,undef,undef,undef,undef,undef,undef,undef,undef,undef,undef,undef,undef,undef,undef,undef,undef,undef,undef,undef,undef,undef,undef,undef,undef,undef,undef,undef,undef,undef,undef,undef,undef,undef,undef,undef,undef,undef,undef,undef,undef,undef,undef,undef,undef,undef,undef,undef,undef,undef,undef,undef,undef,undef,undef,undef,undef,undef,undef,undef,undef],defers:=[] } (W1.alloc (.cells (jI ws[n]) 137)) (aI.nT W1.heap.size (aI.nT ws[n] (aI.iQ ⟨gR hn,rfl⟩ (h3.perm (by ac_rfl))))));clear hI h3 hK;unfold Eh;generalize ws[n]=y at *
  obtain⟨J,yl,yr,yc,yx,yy⟩:=y;unfold jI at HF ⊢;dsimp only at HF ⊢;gi_wp2;exact HF.o
 ·intro lo m n hn a' R' W1 hR hI;obtain⟨g10,h1⟩:=hI.ex;obtain⟨y,h1⟩:=h1.ex;obtain⟨⟨a2,rfl⟩,h2⟩:=h1.pure;have aq:ws[n]=y:=by rw[gR hn] at a2;injection a2
  have ax:y ∈ ws:=by rw[<-aq];exact gv hn
  obtain⟨A',c',am,h3⟩:=XW (h2.perm (by ac_rfl:_=aj (wA T a.k b.k ws w z g9 g8 B n) (aj (av g10 (jI y) 137) R')));have ar:=au (bn.o n hn);rw[aq] at ar;have H3:=au (h3.perm (by ac_rfl:_=(aj (av g9 (ij A' (z.ps.length-n) c') 53) (aj (av g10 (jI y) 137) (aj B (aj (av g8 (gj false) 4) R'))))))
  have ad:=au (fun (Y:CH.aT) (okY:Y.Ok) W (I:¬ RP) (h:aI eR w (aj Y (aj (av g8 (gj false) 4) R')) W)=>(show(W.cell? ⟨g8,0,none⟩=some (.bool false)/\∀ i,W.frozen? ⟨g8,i,none⟩=false)/\aI eR w (aj (S4 (fun bb=>bb=true↔RP) g8 .ret) R') (W.setCell ⟨g8,0,none⟩ (.bool false)) from by
   have h5:=h.drop;obtain⟨_,f8⟩:=h5.fst;have h6:aI eR w (aj (av g8 (gj false) 4) R') _:=aJ h5 hR 0 (.bool false)
   exact⟨⟨ay f8 rfl,aM f8⟩,aI.nT false (aI.iQ ⟨rfl,(show false=true↔RP from⟨(fun h=>by cases h),fun h=>absurd h I⟩)⟩ h6)⟩))
  obtain⟨_,f9⟩:=H3.o.fst;have q9:=ay (i:=0) f9 rfl;clear hI h1 h2 h3 a2 f9;by_cases hq:z.ps.length-n=0
  ·have I:¬ RP:=ar.o (fun (hl:n<z.ps.length)=>absurd hl eL);obtain⟨⟨x0,xf⟩,hE⟩:=ad.o (aj (av g9 (ij A' (z.ps.length-n) c') 53) (aj (av g10 (jI y) 137) B)) aO W1 I (H3.o.perm (by ac_rfl));have HE:=au hE;rw[hq] at q9;clear hE hq H3 ad ar I am aq ax;refine wpIn_block ?_;refine wpIn_seq_k ?_;intro Kj a4;refine wpIn_seq (bR rfl (fun⟨a,w,h⟩=>h) ?_);go_wp2_with fail;gi_wp2;exact HE.o
  ·have hl:n<z.ps.length:=by omega
   have bm:z.ps[n] ∈ z.ps:=gv hl;have ao:=au (fun (h:0<=z.h->vT T a.k b.k z.h ws[n] z.ps[n].p)=>am.next hn hl h);rw[aq] at ao;obtain⟨b',o',bx,bh⟩:=sD.at Mr eL am.rd.row (by rw[k6];omega);have ak:∀ (k:Nat) u,(rT z.ps[n])[k]?=some u->W1.cell? ⟨b',o'+k,none⟩=some u:=fun k u hu=>by
    have:=bh W1 (al.o _ _ H3.o) 0 (by rw[k6];omega) k u (by rw[List.getElem_drop];simpa using hu);simpa using this
   have bz:=am.cap;have bu:∀ W',(Instr.slice 53 (.slice A' (z.ps.length-n) c') (some (.int .i64 1)) none none).run Tryz.prog W'=.ok (.slice (nW A' c' 1 5) (z.ps.length-n-1) (c'-1)) W':=fun W'=>jE QW A' (z.ps.length-n) c' 1 .i64 1 rfl eL W';have an:=au (fun W hb bd=>KC.o W hb y ax z.ps[n] bm bd);have a7:=bk.o y ax;have M:=au (fun (h:0<=z.h->¬ vT T a.k b.k z.h y z.ps[n].p)=>ar.o (fun _=>h));generalize z.ps[n]=p at *
   have t0:(z.ps.length-n==0)=false:=by simpa using hq
   have bj:(((z.ps.length-n:Nat):Int)==0)=false:=by simp;omega
   subst bx;obtain⟨J,yl,yr,yc,yx,yy⟩:=y;unfold jI at H3;dsimp only at H3 a7 an ao M;have y0:W1.cell? ⟨b',o',none⟩=_:=ak 0 _ rfl;have y1:=ak 1 _ rfl;have y2:=ak 2 _ rfl;have y3:=ak 3 _ rfl;have y4:=ak 4 _ rfl;have ba:z.ps.length-(n+1)=z.ps.length-n-1:=by omega
   have ag:=au (fun W (hw:0<=z.h->vT T a.k b.k z.h ⟨J,yl,yr,yc,yx,yy⟩ p.p) (h:aI eR w (aj (av g9 (ij (nW (some ⟨b',o',none⟩) c' 1 5) (z.ps.length-n-1) (c'-1)) 53) (aj (av g8 (gj false) 4) (aj B R'))) W)=>(show aI eR w (aj (wA T a.k b.k ws w z g9 g8 B (n+1)) R') W from XY (ao.o hw) (by rw[ba];exact h)));clear bh ak am aq ax bm ar ao hn KC bk bf bn hl bz ba;generalize z.ps.length-n=q at *
   generalize nW (some ⟨b',o',none⟩) c' 1 5=A1 at *
   generalize q-1=q1 at *
   generalize c'-1=c1 at *
   refine wpIn_block ?_;refine wpIn_seq_k ?_;intro Kj a4;refine wpIn_seq (bR rfl (fun⟨a,w,h⟩=>h) ?_);go_wp2_with fail
   iterate 4 gi_step
   refine a4 _ _ ?_;clear a4 Kj;have H4:=au (aH H3.o aO (lL p.p.kd p.p.l p.p.r p.p.h p.A p.p.C.length p.c) 58);refine wpIn_seq (bR rfl (fun⟨a,w,h⟩=>h) ?_);go_wp2_with fail;clear q9 y0 y1 y2 y3 y4 H3 t0 bj;generalize W1.alloc (.cells (lL p.p.kd p.p.l p.p.r p.p.h p.A p.p.C.length p.c) 58)=w2 at *
   generalize W1.heap.size=g11 at *
   have h5:=H4.o.perm (by ac_rfl:_=(aj (av g9 (ij (some ⟨b',o',none⟩) q c') 53) (aj (av g11 (lL p.p.kd p.p.l p.p.r p.p.h p.A p.p.C.length p.c) 58) (aj (av g10 (np J yl yr (bs yx) (bs yy) yc) 137) (aj B (aj (av g8 (gj false) 4) R'))))));obtain⟨_,f9⟩:=h5.fst;have q9:=ay (i:=0) f9 rfl;have qf:=aM f9;have H6:=au (show aI eR w (aj (av g9 (ij A1 q1 c1) 53) (aj (av g11 (lL p.p.kd p.p.l p.p.r p.p.h p.A p.p.C.length p.c) 58) (aj (av g10 (np J yl yr (bs yx) (bs yy) yc) 137) (aj B (aj (av g8 (gj false) 4) R'))))) _ from aJ h5 aO 0 (.slice A1 q1 c1));clear H4 h5 f9;refine wpIn_seq (bR rfl (fun⟨a,w,h⟩=>h) ?_);go_wp2_with fail;clear q9 qf bu hq;generalize w2.setCell ⟨g9,0,none⟩ (.slice A1 q1 c1)=w3 at *
   obtain⟨z0,z1,z2,z3,z4,-⟩:=gu H6.o.drop;obtain⟨u0,u1,u2,u3,u4,u5⟩:=fu H6.o.drop.drop;obtain⟨⟨x0,x1,x2⟩,⟨r0,r1,r2,r3,r4,r5⟩,r6,r8⟩:=HB.o _ _ H6.o.drop.drop.drop;by_cases e1:J=p.p.kd
   ·have t1:(J==p.p.kd)=true:=by simp[e1]
    by_cases e2:yl=p.p.l
    ·have t2:(yl==p.p.l)=true:=by simp[e2]
     by_cases e3:yr=p.p.r
     ·have t3:(yr==p.p.r)=true:=by simp[e3]
      by_cases g1:p.p.h<z.h
      ·have I:¬ RP:=M.o (fun h0 hw=>absurd hw.2.1 eL);obtain⟨⟨xx,xf⟩,hE⟩:=ad.o (aj (av g9 (ij A1 q1 c1) 53) (aj (av g11 (lL p.p.kd p.p.l p.p.r p.p.h p.A p.p.C.length p.c) 58) (aj (av g10 (np J yl yr (bs yx) (bs yy) yc) 137) B))) aO w3 I (H6.o.perm (by ac_rfl:_=aj (aj (av g9 (ij A1 q1 c1) 53) (aj (av g11 (lL p.p.kd p.p.l p.p.r p.p.h p.A p.p.C.length p.c) 58) (aj (av g10 (np J yl yr (bs yx) (bs yy) yc) 137) B))) (aj (av g8 (gj false) 4) R')));have HE:=au hE;clear hE I ad M ag an H6;refine wpIn_seq (bR rfl (fun⟨a,w,h⟩=>h) ?_);go_wp2_with fail;gi_wp2;exact HE.o
      ·by_cases g2:100000<p.p.h
       ·have b4:=g2;have I:¬ RP:=M.o (fun h0 hw=>absurd hw.2.2.1 eL);obtain⟨⟨xx,xf⟩,hE⟩:=ad.o (aj (av g9 (ij A1 q1 c1) 53) (aj (av g11 (lL p.p.kd p.p.l p.p.r p.p.h p.A p.p.C.length p.c) 58) (aj (av g10 (np J yl yr (bs yx) (bs yy) yc) 137) B))) aO w3 I (H6.o.perm (by ac_rfl:_=aj (aj (av g9 (ij A1 q1 c1) 53) (aj (av g11 (lL p.p.kd p.p.l p.p.r p.p.h p.A p.p.C.length p.c) 58) (aj (av g10 (np J yl yr (bs yx) (bs yy) yc) 137) B))) (aj (av g8 (gj false) 4) R')));have HE:=au hE;clear hE I ad M ag an H6;refine wpIn_seq (bR rfl (fun⟨a,w,h⟩=>h) ?_);go_wp2_with fail;gi_wp2;exact HE.o
       ·obtain⟨s,hs⟩:∃ s,wrap64 (p.p.h-yc)=s:=⟨_,rfl⟩;have a3:=au (show 0<=z.h->s=p.p.h-yc from fun h0=>by rw[<-hs];exact rL _ eL);have aD:=au (show jl T a.k yx b.k yy s p.p.C->0<=z.h->vT T a.k b.k z.h ⟨J,yl,yr,yc,yx,yy⟩ p.p from fun hc h0=>⟨⟨e1.symm,e2.symm,e3.symm⟩,by omega,by omega,by rw[<-a3.o h0];exact hc⟩);have a0:=au (show ¬ jl T a.k yx b.k yy s p.p.C->0<=z.h->¬ vT T a.k b.k z.h ⟨J,yl,yr,yc,yx,yy⟩ p.p from fun hc h0 hw=>hc (by rw[a3.o h0];exact hw.2.2.2));have K:=au (an.o w3 (al.o _ _ H6.o) s);unfold dV dR at K;clear e1 e2 e3 an a3 a7;refine wpIn_seq (bR rfl (fun⟨a,w,h⟩=>h) ?_);go_wp2_with fail;refine K.o.mono ?_;rintro e9 w4 ⟨bb,rfl,hbb,hb⟩;have H7:=au (H6.o.below aO hb);clear K H6 hb z0 z1 z2 z3 z4 u0 u1 u2 u3 u4 u5 x0 x1 x2 r0 r1 r2 r3 r4 r5 r6 r8 hs;dsimp only;cases bb with
        | true=>
         have HE:=au (ag.o w4 (aD.o (hbb.1 rfl)) ((H7.o.perm (by ac_rfl:_=aj (aj (av g11 (lL p.p.kd p.p.l p.p.r p.p.h p.A p.p.C.length p.c) 58) (av g10 (np J yl yr (bs yx) (bs yy) yc) 137)) (aj (av g9 (ij A1 q1 c1) 53) (aj (av g8 (gj false) 4) (aj B R'))))).drop));clear ag aD a0 hbb ad M H7;go_wp2_with fail;gi_wp2;exact HE.o
        | false=>
         have I:¬ RP:=M.o (a0.o (fun h=>by cases hbb.2 h));obtain⟨⟨xx,xf⟩,hE⟩:=ad.o (aj (av g9 (ij A1 q1 c1) 53) (aj (av g11 (lL p.p.kd p.p.l p.p.r p.p.h p.A p.p.C.length p.c) 58) (aj (av g10 (np J yl yr (bs yx) (bs yy) yc) 137) B))) aO w4 I (H7.o.perm (by ac_rfl:_=aj (aj (av g9 (ij A1 q1 c1) 53) (aj (av g11 (lL p.p.kd p.p.l p.p.r p.p.h p.A p.p.C.length p.c) 58) (aj (av g10 (np J yl yr (bs yx) (bs yy) yc) 137) B))) (aj (av g8 (gj false) 4) R')));have HE:=au hE;clear hE I ad M ag aD a0 hbb H7;go_wp2_with fail;gi_wp2;exact HE.o
     ·have t3:(yr==p.p.r)=false:=by simp[e3]
      have I:¬ RP:=M.o (fun h0 hw=>e3 hw.1.2.2.symm);obtain⟨⟨xx,xf⟩,hE⟩:=ad.o (aj (av g9 (ij A1 q1 c1) 53) (aj (av g11 (lL p.p.kd p.p.l p.p.r p.p.h p.A p.p.C.length p.c) 58) (aj (av g10 (np J yl yr (bs yx) (bs yy) yc) 137) B))) aO w3 I (H6.o.perm (by ac_rfl:_=aj (aj (av g9 (ij A1 q1 c1) 53) (aj (av g11 (lL p.p.kd p.p.l p.p.r p.p.h p.A p.p.C.length p.c) 58) (aj (av g10 (np J yl yr (bs yx) (bs yy) yc) 137) B))) (aj (av g8 (gj false) 4) R')));have HE:=au hE;clear hE I ad M ag an H6;refine wpIn_seq (bR rfl (fun⟨a,w,h⟩=>h) ?_);go_wp2_with fail;gi_wp2;exact HE.o
    ·have t2:(yl==p.p.l)=false:=by simp[e2]
     have I:¬ RP:=M.o (fun h0 hw=>e2 hw.1.2.1.symm);obtain⟨⟨xx,xf⟩,hE⟩:=ad.o (aj (av g9 (ij A1 q1 c1) 53) (aj (av g11 (lL p.p.kd p.p.l p.p.r p.p.h p.A p.p.C.length p.c) 58) (aj (av g10 (np J yl yr (bs yx) (bs yy) yc) 137) B))) aO w3 I (H6.o.perm (by ac_rfl:_=aj (aj (av g9 (ij A1 q1 c1) 53) (aj (av g11 (lL p.p.kd p.p.l p.p.r p.p.h p.A p.p.C.length p.c) 58) (aj (av g10 (np J yl yr (bs yx) (bs yy) yc) 137) B))) (aj (av g8 (gj false) 4) R')));have HE:=au hE;clear hE I ad M ag an H6;refine wpIn_seq (bR rfl (fun⟨a,w,h⟩=>h) ?_);go_wp2_with fail;gi_wp2;exact HE.o
   ·have t1:(J==p.p.kd)=false:=by simp[e1]
    have I:¬ RP:=M.o (fun h0 hw=>e1 hw.1.1.symm);obtain⟨⟨xx,xf⟩,hE⟩:=ad.o (aj (av g9 (ij A1 q1 c1) 53) (aj (av g11 (lL p.p.kd p.p.l p.p.r p.p.h p.A p.p.C.length p.c) 58) (aj (av g10 (np J yl yr (bs yx) (bs yy) yc) 137) B))) aO w3 I (H6.o.perm (by ac_rfl:_=aj (aj (av g9 (ij A1 q1 c1) 53) (aj (av g11 (lL p.p.kd p.p.l p.p.r p.p.h p.A p.p.C.length p.c) 58) (aj (av g10 (np J yl yr (bs yx) (bs yy) yc) 137) B))) (aj (av g8 (gj false) 4) R')));have HE:=au hE;clear hE I ad M ag an H6;refine wpIn_seq (bR rfl (fun⟨a,w,h⟩=>h) ?_);go_wp2_with fail;gi_wp2;exact HE.o
 ·intro D R W1 hR hI;obtain⟨A',c',am,h3⟩:=XW hI;have ai:=au (fun bb hb=>bf.o A' c' am bb hb);have H4:=au (h3.perm (by ac_rfl:_=(aj (av g9 (ij A' (z.ps.length-ws.length) c') 53) (aj B (aj (av g8 (gj false) 4) (aj (aW D (.deferred (some []))) R))))))
  have ac:=au (fun (bb:Bool) (hb:bb=true↔RP)=>(show aI eR w (aj (aW D (.deferred (some []))) (aj (av g8 (gj bb) 4) (aj (av g9 (ij A' (z.ps.length-ws.length) c') 53) (aj B R)))) (W1.setCell ⟨g8,0,none⟩ (.bool bb)) from by
   have h5:=H4.o.perm (by ac_rfl:_=aj (av g8 (gj false) 4) (aj (av g9 (ij A' (z.ps.length-ws.length) c') 53) (aj B (aj (aW D (.deferred (some []))) R))));have h6:aI eR w (aj (av g8 (gj bb) 4) _) _:=aJ h5 aO 0 (.bool bb)
   exact h6.perm (by ac_rfl)))
  obtain⟨_,f9⟩:=H4.o.fst;have q9:=ay (i:=0) f9 rfl;obtain⟨_,f8⟩:=H4.o.drop.drop.fst;have q8:=ay (i:=0) f8 rfl;have qf:=aM f8;obtain⟨⟨x0,x1,x2⟩,-,-⟩:=HB.o _ _ H4.o.drop;clear hI h3 am f9 f8 H4;generalize hq:z.ps.length-ws.length=q at *
  clear hq;by_cases e0:q=0
  ·rw[e0] at q9;by_cases e1:z.i=i
   ·have t1:(z.i==(i:Int))=true:=by simp[e1]
    by_cases e2:z.j=j
    ·have t2:(z.j==(j:Int))=true:=by simp[e2]
     by_cases e3:0<=z.h
     ·have af:=au (ai.o true (by simp[e0,e1,e2,e3]));have ae:=au (ac.o true af.o);clear ac ai;go_wp2_with fail;clear q9 q8 qf x0 x1 x2;generalize W1.setCell ⟨g8,0,none⟩ (.bool true)=W2 at *
      obtain⟨FD,hD,-,aa⟩:=ae.o.take bg aO;have HD:=au hD.1;have h8:=aa _ _ (fH hD (.deferred none));obtain⟨F9,ab⟩:=h8.drop.fst;have HC:=au (ay (i:=0) ab rfl);have HE:=au (ap.o true _ (show true=true↔RP from by simpa using af.o) (al.o _ _ h8));clear ae hD aa h8 ab F9;refine⟨by simp,.inl ⟨_,_,rfl,run_takeDeferred HD.o,?_⟩⟩;exact⟨_,res32 rfl HC.o,HE.o⟩
     ·have af:=au (ai.o false (by simp[e3]));have ae:=au (ac.o false af.o);clear ac ai;go_wp2_with fail;clear q9 q8 qf x0 x1 x2;generalize W1.setCell ⟨g8,0,none⟩ (.bool false)=W2 at *
      obtain⟨FD,hD,-,aa⟩:=ae.o.take bg aO;have HD:=au hD.1;have h8:=aa _ _ (fH hD (.deferred none));obtain⟨F9,ab⟩:=h8.drop.fst;have HC:=au (ay (i:=0) ab rfl);have HE:=au (ap.o false _ (show false=true↔RP from by simpa using af.o) (al.o _ _ h8));clear ae hD aa h8 ab F9;refine⟨by simp,.inl ⟨_,_,rfl,run_takeDeferred HD.o,?_⟩⟩;exact⟨_,res32 rfl HC.o,HE.o⟩
    ·have t2:(z.j==(j:Int))=false:=by simp[e2]
     have af:=au (ai.o false (by simp[e2]));have ae:=au (ac.o false af.o);clear ac ai;go_wp2_with fail;clear q9 q8 qf x0 x1 x2;generalize W1.setCell ⟨g8,0,none⟩ (.bool false)=W2 at *
     obtain⟨FD,hD,-,aa⟩:=ae.o.take bg aO;have HD:=au hD.1;have h8:=aa _ _ (fH hD (.deferred none));obtain⟨F9,ab⟩:=h8.drop.fst;have HC:=au (ay (i:=0) ab rfl);have HE:=au (ap.o false _ (show false=true↔RP from by simpa using af.o) (al.o _ _ h8));clear ae hD aa h8 ab F9;refine⟨by simp,.inl ⟨_,_,rfl,run_takeDeferred HD.o,?_⟩⟩;exact⟨_,res32 rfl HC.o,HE.o⟩
   ·have t1:(z.i==(i:Int))=false:=by simp[e1]
    have af:=au (ai.o false (by simp[e1]));have ae:=au (ac.o false af.o);clear ac ai;go_wp2_with fail;clear q9 q8 qf x0 x1 x2;generalize W1.setCell ⟨g8,0,none⟩ (.bool false)=W2 at *
    obtain⟨FD,hD,-,aa⟩:=ae.o.take bg aO;have HD:=au hD.1;have h8:=aa _ _ (fH hD (.deferred none));obtain⟨F9,ab⟩:=h8.drop.fst;have HC:=au (ay (i:=0) ab rfl);have HE:=au (ap.o false _ (show false=true↔RP from by simpa using af.o) (al.o _ _ h8));clear ae hD aa h8 ab F9;refine⟨by simp,.inl ⟨_,_,rfl,run_takeDeferred HD.o,?_⟩⟩;exact⟨_,res32 rfl HC.o,HE.o⟩
  ·have t0:(q==0)=false:=by simp[e0]
   have bj:((q:Int)==0)=false:=by simp;omega
   have af:=au (ai.o false (by simp[e0]));have ae:=au (ac.o false af.o);clear ac ai;go_wp2_with fail;clear q9 q8 qf x0 x1 x2;generalize W1.setCell ⟨g8,0,none⟩ (.bool false)=W2 at *
   obtain⟨FD,hD,-,aa⟩:=ae.o.take bg aO;have HD:=au hD.1;have h8:=aa _ _ (fH hD (.deferred none));obtain⟨F9,ab⟩:=h8.drop.fst;have HC:=au (ay (i:=0) ab rfl);have HE:=au (ap.o false _ (show false=true↔RP from by simpa using af.o) (al.o _ _ h8));clear ae hD aa h8 ab F9;refine⟨by simp,.inl ⟨_,_,rfl,run_takeDeferred HD.o,?_⟩⟩;exact⟨_,res32 rfl HC.o,HE.o⟩
 ·intro D c R W1 hR hI;obtain⟨bb,hI⟩:=hI.ex;obtain⟨⟨rfl,hb⟩,h3⟩:=hI.pure;have h6:=h3.perm (by ac_rfl:_=aj (aW D (.deferred (some []))) (aj (av g8 (gj bb) 4) R));obtain⟨FD,hD,-,aa⟩:=h6.take bg aO;have HD:=au hD.1;have h8:=aa _ _ (fH hD (.deferred none));obtain⟨F9,ab⟩:=h8.drop.fst;have HC:=au (ay (i:=0) ab rfl);have HE:=au (ap.o bb _ hb (al.o _ _ h8));clear h3 h6 hD aa h8 ab F9 hI hb;go_wp2_with fail;refine⟨by simp,.inl ⟨_,_,rfl,run_takeDeferred HD.o,?_⟩⟩;refine⟨_,res32 rfl HC.o,HE.o⟩
open Asn (aX dO fA uy Vec ints cF lF mR kB nZ)
structure XZ (s:SL):Prop where
 w0:s.ws.length<=1000000
 w1:∀ e ∈ s.ws,e.ps.length<=e.c/\e.ps.length<=1000000/\∀ x ∈ e.ps,x.p.C.length<=1000000/\∀ p ∈ x.p.C,p.a.length<=1000000
 u0:s.U.length<=1000000
 v0:s.V.length<=1000000
 g0:s.G.length<=1000000
structure EV (T:eW) (a b:aQ) (s:SL) (lb la k:Nat) (zs:List bZ):Prop where
 all:∀ q (h:q<s.ws.length),q<k->Dk T a b (q / lb) (q % lb) s.ws[q].m
 mat:zs.map (·.l)=gM (sH s.m lb) lb la (k / lb) (k % lb)
variable {s:SL}{lb la d e:Nat}{B G:eV}{C:List (List Int)}{V:List (eV × Nat)}
theorem EV.next    {k:Nat} {zs:List bZ} (h:EV T a b s lb la k zs) (hk:k<s.ws.length) (hb:0<lb) (hi:k / lb<zs.length) (hw:Dk T a b (k / lb) (k % lb) s.ws[k].m)  :EV T a b s lb la (k+1) (zs.set (k / lb) ⟨zs[k / lb].l++[s.ws[k].h],A,c⟩):=by
 refine⟨fun q hq I=>?_,?_⟩
 ·by_cases J:q<k
  ·exact h.all q hq J
  ·obtain rfl:q=k:=by omega
   exact hw
 ·have hn:k / lb<(gM (sH s.m lb) lb la (k / lb) (k % lb)).length:=by rw[<-h.mat,gh];exact hi
  have M:(zs.map (·.l))[k / lb]?=(gM (sH s.m lb) lb la (k / lb) (k % lb))[k / lb]?:=by rw[h.mat]
  rw[lz,gR hi,gR hn,SZ hn] at M;have h2:zs[k / lb].l=(List.range (k % lb)).map (sH s.m lb (k / lb)):=Option.some.inj M;have h3:s.ws[k].h=sH s.m lb (k / lb) (k % lb):=by
   have e:k / lb*lb+k % lb=k:=by rw[oc];exact Ax k lb
   unfold sH;rw[e]
   show _=((s.ws.map WL.m).getD k LI).h
   rw[kj,lz,gR hk];rfl
  rw[vt,h.mat]
  show(gM (sH s.m lb) lb la (k / lb) (k % lb)).set (k / lb) (zs[k / lb].l++[s.ws[k].h])=_
  rw[h2,h3,XQ];have hm:=sn k hb;by_cases I:k % lb+1<lb
  ·have e1:(k+1) / lb=k / lb:=by
    have e:=Ax k lb;have:=VN (n:=k / lb+1) (i:=k / lb) (m:=lb) (j:=k % lb+1) eL I;rw[show k / lb*lb+(k % lb+1)=k+1 by rw[oc];omega] at this;exact this.2.1
   have e2:(k+1) % lb=k % lb+1:=by
    have e:=Ax k lb;have:=VN (n:=k / lb+1) (i:=k / lb) (m:=lb) (j:=k % lb+1) eL I;rw[show k / lb*lb+(k % lb+1)=k+1 by rw[oc];omega] at this;exact this.2.2
   rw[e1,e2]
  ·have hl:k % lb+1=lb:=by omega
   have e:=Ax k lb;have hd:=VN (n:=k / lb+2) (i:=k / lb+1) (m:=lb) (j:=0) eL hb;rw[show(k / lb+1)*lb+0=k+1 by rw[li,oc];omega] at hd;rw[hd.2.1,hd.2.2,hl,XR]
theorem adi  {D E U W:List Int} {x:Int} {bb:Bool} (h:kB C D E U W=(x,bb)) (hd:D.length<=6) (he:E.length<=6) : -12000000<=x/\x<=12000000:=by
 by_cases J:Asn.IV C D E U W=true/\Asn.nR C D E U W
 ·rw[Asn.Qv J.1 J.2] at h;have hx:=congrArg Prod.fst h;have M:=J.1;unfold Asn.IV Asn.wi at M;simp only[gA,decide_eq_true_eq,j8] at M;obtain⟨⟨⟨⟨-,hu⟩,hw⟩,h1⟩,h2⟩:=M
  have k1:=Asn.wM (f:=lF U) (a:=-1000000) (b:=1000000) (n:=D.length) (fun i hi=>by
   have I:i<U.length:=by omega
   rw[Asn.lS I];exact h1 _ (gv I))
  have k2:=Asn.wM (f:=lF W) (a:=-1000000) (b:=1000000) (n:=E.length) (fun i hi=>by
   have I:i<W.length:=by omega
   rw[Asn.lS I];exact h2 _ (gv I))
  simp only at hx;omega
 ·have h2:kB C D E U W=(0,false):=by unfold Asn.kB;rw[if_neg J]
  rw[h2] at h;have hx:=congrArg Prod.fst h;simp only at hx;omega
theorem aa5    {s:Sl}  {UA WA:eV}  {u v:Nat} (I:la=a.ws.length) (J:lb=b.ws.length) (M:nK T a b=true) (h:uy W A (sL s a b) V) (hD:iF W B (dL T a)) (hE:iF W G (dL T b)) (hU:iF W UA s.U) (hV:iF W WA s.V) :
  Calls Tryz.prog 33 #[.slice A la c,.slice B la d,.slice G lb e,.slice UA s.U.length u,.slice WA s.V.length v] W (Asn.rQ W (kB (sL s a b) (dL T a) (dL T b) s.U s.V)):=by
 subst I J;have hl:(sL s a b).length=a.ws.length:=by simp[sL,cL]
 have I:(dL T a).length=a.ws.length:=by simp[dL]
 have J:(dL T b).length=b.ws.length:=by simp[dL]
 have hK:=Asn.Tf (c:=c) (d:=d) (e:=e) (u:=u) (v:=v) h (by rw[hl];have:=(aZ.1 (dW.1 M).2.1).2.2;simp only[maxLen];omega) hD hE hU hV;rw[hl,I,J] at hK;exact hK
theorem X3    {s:Sl}  {LA:eV}  {cl:Nat} (I:la=a.ws.length) (J:lb=b.ws.length) (M:nK T a b=true) (h:uy W A (sL s a b) V) (hD:iF W B (dL T a)) (hE:iF W G (dL T b)) (hL:iF W LA s.G) (hg:s.G.length<=1000000) :
  Calls Tryz.prog 34 #[.slice A la c,.slice B la d,.slice G lb e,.slice LA s.G.length cl] W (Asn.rQ W (nZ (sL s a b) (dL T a) (dL T b) s.G)):=by
 subst I J;have hl:(sL s a b).length=a.ws.length:=by simp[sL,cL]
 have I:(dL T a).length=a.ws.length:=by simp[dL]
 have J:(dL T b).length=b.ws.length:=by simp[dL]
 have h6:=(aZ.1 (dW.1 M).2.1).2.2;have h7:=(aZ.1 (dW.1 M).2.2).2.2;have hK:=Asn.EK (c:=c) (d:=d) (e:=e) (cl:=cl) h (by rw[hl];simp only[maxLen];omega) hD hE hL hg eL eL;rw[hl,I,J] at hK;exact hK
def Jg (w:World) (T:eW) (a b:aQ) (s:Sl) (e:Ending) (w':World):Prop:=∃ bb:Bool,e=.returned (.bool bb)/\(bb=true↔fG T a b s)/\Below w.heap.size w w'
theorem iH   {t:TA}  {An Bn:eV} {ca cb:Nat} (hT:kr w T t) (hz:LZ w) (hA:fB w An a.ws) (hB:fB w Bn b.ws) (ad:a.ws.length<=1000000) (ae:b.ws.length<=1000000) (a8:∀ x ∈ a.ws,x.length<=1000000) (bf:∀ x ∈ b.ws,x.length<=1000000)  (hs:SR w s) (cc:XZ s) :
  Calls Tryz.prog 14 #[dV T t,vI a An ca,vI b Bn cb,.agg (jh s)] w (Jg w T a b s.m):=by
 have h1:=aH (aI.begin w) aO (dR T t) 25;have h2:=aH h1 aO (fh a.k An a.ws.length ca) 28;have h3:=aH h2 aO (fh b.k Bn b.ws.length cb) 28;have h4:=aH h3 aO (jh s) 41;simp only[im] at h4;have H4:=au h4;have M:=au (fun W X (h:aI eR w X W)=>(show Below w.heap.size w W from h.mod.below (fun _ _ h=>h)));have KV:=au (fun W (I:Below w.heap.size w W)=>Bc (An:=An) (Bn:=Bn) (ca:=ca) (cb:=cb) (hT.below I) (hz.below I) (aY hA I) (aY hB I) ad ae a8 bf);have HN:=au (fun (ai:nK T a b=true) W (I:Below w.heap.size w W)=>(show wy W T t a b An Bn from⟨hT.below I,hz.below I,aY hA I,aY hB I,(aZ.1 (dW.1 ai).2.1).2.2,(aZ.1 (dW.1 ai).2.2).2.2,a8,bf⟩));have al:=au (fun W (I:Below w.heap.size w W)=>hs.below I);have ak:=au cc;have J:=au (fun (ct:¬ fG T a b s.m) W (I:Below w.heap.size w W)=>(show Jg w T a b s.m (.returned (.bool false)) W from⟨false,rfl,⟨(fun h=>by cases h),fun h=>absurd h ct⟩,I⟩));clear h1 h2 h3 h4 hT hz hA hB ad ae a8 bf hs cc;unfold dV vI at *
 unfold dR jQ jh at *
 go_enter Tryz.func14,Tryz.ntmps14
 go_upto_region 1 with (fail);obtain⟨w4,ch,h4⟩:=H4.o.nm;rw[ch];clear H4 ch;generalize w.heap.size+1+1+1=g7 at *
 generalize w.heap.size+1+1=g6 at *
 generalize w.heap.size+1=g5 at *
 generalize cq:w.heap.size=g4 at h4 ⊢;clear cq;obtain⟨t0,t1,t2,t3,t4,t5⟩:=fu h4.drop.drop.drop;obtain⟨s0,s1,-⟩:=bY h4.drop.drop;obtain⟨q0,q1,-⟩:=bY h4.drop;have H5:=au (aH h4 aO (jQ T t a b An Bn ca cb) 93);unfold jQ at H5;clear h4;refine wp_scope_straight ?_;go_upto_region 2 with (fail);generalize w4.alloc (.cells (oB T t a An ca b Bn cb) 93)=w5 at *
 generalize w4.heap.size=g9 at *
 clear t0 t1 t2 t3 t4 t5 s0 s1 q0 q1;obtain⟨⟨n0,n1,n2,n3,n4,n5⟩,n6,n7,n8,n9⟩:=qY (T:=T) (t:=t) (a:=a) (b:=b) (An:=An) (Bn:=Bn) (ca:=ca) (cb:=cb) H5.o;have K1:=au (KV.o w5 (M.o _ _ H5.o));clear KV;cases ai:nK T a b with
 | false=>
  rw[ai] at K1;have am:=au (fun W I=>J.o (fun h=>by have:=h.ok;rw[ai] at this;cases this) W I);clear J HN ai al ak;go_wp2_with fail;refine K1.o.mono ?_;rintro e9 w6 ⟨rfl,I⟩;have H6:=au (H5.o.below aO I);clear K1 H5 I n0 n1 n2 n3 n4 n5 n6 n7 n8 n9;dsimp only;go_wp2
  (try rw[pD]);go_ret
  exact am.o _ (M.o _ _ H6.o)
 | true=>
  rw[ai] at K1;have ab:=au ai;clear ai;go_wp2_with fail;refine K1.o.mono ?_;rintro e9 w6 ⟨rfl,I⟩;have H6:=au (H5.o.below aO I);clear K1 H5 I n0 n1 n2 n3 n4 n5 n6 n7 n8 n9;dsimp only;obtain⟨z0,z1,z2,z3,z4,-⟩:=gu H6.o.drop;obtain⟨q0,q1,-⟩:=bY H6.o.drop.drop;obtain⟨s0,s1,-⟩:=bY H6.o.drop.drop.drop;obtain⟨t0,t1,t2,t3,t4,t5⟩:=fu H6.o.drop.drop.drop.drop;have aD:a.ws.length<=6:=(aZ.1 (dW.1 ab.o).2.1).2.2;have aE:b.ws.length<=6:=(aZ.1 (dW.1 ab.o).2.2).2.2;by_cases e0:s.b<0
  ·have am:=au (fun W I=>J.o (fun h=>by have:0<=s.b:=h.b0;omega) W I);clear J HN al ak;go_wp2
   (try rw[pD]);go_ret
   exact am.o _ (M.o _ _ H6.o)
  ·by_cases e1:100000<s.b
   ·have am:=au (fun W I=>J.o (fun h=>by have:s.b<=100000:=h.b1;omega) W I);clear J HN al ak;go_wp2
    (try rw[pD]);go_ret
    exact am.o _ (M.o _ _ H6.o)
   ·obtain⟨mm,aq⟩:∃ mm,mm=a.ws.length*b.ws.length:=⟨_,rfl⟩;have cH:mm<=36:=by rw[aq];exact tv aD aE
    have tw:wrap64 ((a.ws.length:Int)*(b.ws.length:Int))=(mm:Int):=by
     rw[<-Int.natCast_mul,<-aq];exact rL _ eL
    by_cases e2:s.ws.length=mm
    ·have t6:(mm != mm)=false:=by simp
     have t7:((mm:Int) != (mm:Int))=false:=by simp
     have HG:=au (show 0<=s.b/\s.b<=100000 from⟨by omega,by omega⟩);have b7:0<a.ws.length:=(aZ.1 (dW.1 ab.o).2.1).2.1;have ap:0<b.ws.length:=(aZ.1 (dW.1 ab.o).2.2).2.1;obtain⟨la,ad⟩:∃ la,la=a.ws.length:=⟨_,rfl⟩;obtain⟨lb,ae⟩:∃ lb,lb=b.ws.length:=⟨_,rfl⟩;have HL:=au (show(la=a.ws.length/\lb=b.ws.length)/\s.ws.length=mm/\mm=la*lb from⟨⟨ad,ae⟩,e2,by rw[ad,ae];exact aq⟩)
     have KB:=au (fun W (I:Below w.heap.size w W) (i j:Nat) (hi:i<la) (hj:j<lb) (e:WL) (he:e ∈ s.ws)=>(show Calls Tryz.prog 32 #[.agg (sy t.A T.rs.length t.c t.D T.ds.length t.d t.E T.es.length t.e T.drop T.ord T.ini a.k An la ca b.k Bn lb cb),.int .i64 (i:Int),.int .i64 (j:Int),.agg (Jk e)] W (QZ W T a b i j e.m) from by
      have:=Jf (ca:=ca) (cb:=cb) (z:=e) (HN.o ab.o W I) ab.o (by rw[<-ad];exact hi) (by rw[<-ae];exact hj) ((al.o W I).ws.all e he) (ak.o.w1 e he).1 (ak.o.w1 e he).2.1 (ak.o.w1 e he).2.2;unfold jQ at this;rw[<-ad,<-ae] at this
      exact this))
     have KD:=au (fun W (I:Below w.heap.size w W)=>(show Calls Tryz.prog 30 #[.agg (sy t.A T.rs.length t.c t.D T.ds.length t.d t.E T.es.length t.e T.drop T.ord T.ini a.k An la ca b.k Bn lb cb),.agg (fh a.k An la ca)] W _/\Calls Tryz.prog 30 #[.agg (sy t.A T.rs.length t.c t.D T.ds.length t.d t.E T.es.length t.e T.drop T.ord T.ini a.k An la ca b.k Bn lb cb),.agg (fh b.k Bn lb cb)] W _ from by
      have hN:=HN.o ab.o W I;have hv:=dW.1 ab.o;have k1:=qd (a:=a) (b:=b) (An:=An) (Bn:=Bn) (ca:=ca) (cb:=cb) (c:=ca) hN.ft hN.fz hv.1 hv.2.1 hN.fa hN.wa;have k2:=qd (a:=a) (b:=b) (An:=An) (Bn:=Bn) (ca:=ca) (cb:=cb) (c:=cb) hN.ft hN.fz hv.1 hv.2.2 hN.fb hN.wb;unfold jQ vI at k1 k2;rw[<-ad,<-ae] at k1 k2
      exact⟨k1,k2⟩))
     have cp:=au (fun (hp:0<s.ws.length)=>sD.at XF eL (al.o w (fe _ _)).ws.row hp);rw[e2] at H6 z1 ⊢;clear e2;rw[<-ad,<-ae] at H6 ⊢;rw[<-ad] at s1 tw aD b7;rw[<-ae] at q1 tw aE ap;clear aq ad ae HN;go_upto_region 4 with (fail)
     try rw[tw]
     clear e0 e1 tw t0 t1 t2 t3 t4 t5 q0 q1 t6 t7 z0 z1 z2 z3 z4;go_wp2_with (refine Asn.pW rfl (.tmp 54) rfl la eL (by simp[Act.eval]) ?_;refine held ?_);refine lB.mk fun cv hP=>?_;rw[<-Asn.uF la (.slice none 0 0)] at hP;have bx:=H6.o.fresh aO hP;generalize w6.heap.size=go at *
     clear s0 s1 H6 hP;obtain⟨B,hB⟩:∃ B:CH.aT,B=(aj (av g9 (sy t.A T.rs.length t.c t.D T.ds.length t.d t.E T.es.length t.e T.drop T.ord T.ini a.k An la ca b.k Bn lb cb) 93) (aj (av g7 (ie s.b s.A mm s.c s.u.A s.U.length s.u.c s.v.A s.V.length s.v.c s.g.A s.G.length s.g.c) 41) (aj (av g6 (fh b.k Bn lb cb) 28) (aj (av g5 (fh a.k An la ca) 28) (aj (av g4 (iu T t) 25) bG))))):=⟨_,rfl⟩;have cR:B.Ok:=by rw[hB];exact aO
     have bo:=au (show aI eR w (aj (fU (some ⟨go,0,none⟩) la (List.replicate la ⟨[],none,0⟩)) B) cv from(bx.perm (by rw[hB]:_=aj (aV 39 1 (.slice (some ⟨go,0,none⟩) la la) la (List.replicate la (.slice none 0 0))) B)).imp fun w F hh=>bD hh (fun _ h=>D7 h) (fun _ h=>h))
     have HB:=au (fun W (X:CH.aT) (h:aI eR w (aj X B) W)=>(show(C3 W g9 (.slice t.A T.rs.length t.c) (.slice t.D T.ds.length t.d) (.slice t.E T.es.length t.e) (.int .i64 T.drop) (.int .i64 T.ord) (.int .i64 T.ini) (.int .i64 a.k) (.slice An la ca) (.int .i64 b.k) (.slice Bn lb cb)) /\
       (o6 W g7 (.int .i64 s.b) (.slice s.A mm s.c) (.slice s.u.A s.U.length s.u.c) (.slice s.v.A s.V.length s.v.c) (.slice s.g.A s.G.length s.g.c)) /\
       (my W g6 (.int .i64 b.k) (.slice Bn lb cb))/\(my W g5 (.int .i64 a.k) (.slice An la ca))/\W.cell? ⟨g4,4,none⟩=some (.int .i64 T.ord) from by
      rw[hB] at h;have h:=h.drop;obtain⟨_,f9⟩:=h.fst;obtain⟨_,f7⟩:=h.drop.fst;obtain⟨_,f6⟩:=h.drop.drop.fst;obtain⟨_,f5⟩:=h.drop.drop.drop.fst;obtain⟨_,f4⟩:=h.drop.drop.drop.drop.fst
      exact⟨⟨ay f9 rfl,ay f9 rfl,ay f9 rfl,ay f9 rfl,ay f9 rfl,ay f9 rfl,ay f9 rfl,ay f9 rfl,ay f9 rfl,ay f9 rfl⟩,⟨ay f7 rfl,ay f7 rfl,ay f7 rfl,ay f7 rfl,ay f7 rfl⟩,⟨ay f6 rfl,ay f6 rfl⟩,⟨ay f5 rfl,ay f5 rfl⟩,ay f4 rfl⟩))
     clear bx hB;obtain⟨-,⟨-,r1,-⟩,-⟩:=HB.o _ _ bo.o;go_wp2_with fail;refine wp_label ?_;go_wp2_with fail;clear r1;go_loopw [11,59] (fun cj kk wr=>∃ (k:Nat) (zs:List bZ),cj=.bool true/\kk=.int .i64 k/\k<=mm/\EV T a b s lb la k zs/\aI eR w (aj (fU (some ⟨go,0,none⟩) la zs) B) wr) (fun _ kk _=>mm-(intOf kk).toNat)
     case atStart=>exact⟨0,_,rfl,rfl,fw _,⟨fun q _ h=>absurd h (nB _),by rw[Fo,Nat.zero_div,Nat.zero_mod,QX]⟩,bo.o⟩
     case round=>
      obtain⟨k,zs,rfl,rfl,hk,b5,hR⟩:=hrel;have HR:=au hR;have ac:=au b5;clear bo hR b5;by_cases bi:k<mm
      ·have ar:k<s.ws.length:=by rw[HL.o.2.1];exact bi
       obtain⟨b',o',b4,b8⟩:=cp.o eL;obtain⟨z,hz⟩:∃ z,z=s.ws[k]'ar:=⟨_,rfl⟩;have hm:z ∈ s.ws:=by rw[hz];exact gv ar
       have aA:∀ (q:Nat) u,(mJ z)[q]?=some u->wr.cell? ⟨b',o'+k*4+q,none⟩=some u:=fun q u hu=>b8 wr (M.o _ _ HR.o) k ar q u (by rw[hz] at hu;exact hu);have y0:wr.cell? ⟨b',o'+k*4,none⟩=some (.int .i64 z.i):=aA 0 _ rfl;have y1:=aA 1 _ rfl;have y2:=aA 2 _ rfl;have y3:=aA 3 _ rfl;obtain⟨i,hi⟩:∃ i,i=k / lb:=⟨_,rfl⟩;obtain⟨j,hj⟩:∃ j,j=k % lb:=⟨_,rfl⟩;have cx:i<la:=by rw[hi];exact xt (by rw[oc,<-HL.o.2.2];exact bi)
       have cD:j<lb:=by rw[hj];exact sn k ap
       have a9:=au (show i=k / lb/\j=k % lb from⟨hi,hj⟩);have K1:=au (fun W (I:Below w.heap.size w W)=>KB.o W I i j cx cD z hm);have td:wrap64 ((k:Int) / (lb:Int))=(i:Int):=by
        have e8:(k:Int) / (lb:Int)=(i:Int):=by rw[hi];push_cast;rfl
        rw[e8];exact rL (i:Int) eL
       have ci:IntKind.i64.wrap ((k:Int) / (lb:Int))=(i:Int):=by
        have e8:(k:Int) / (lb:Int)=(i:Int):=by rw[hi];push_cast;rfl
        rw[e8];exact kp (i:Int) eL
       have tm:Int.tmod (k:Int) (lb:Int)=(j:Int):=by rw[hj,Int.tmod_eq_emod_of_nonneg eL];push_cast;rfl
       have tz:((lb:Int)==0)=false:=by simp;omega
       have cG:¬ ((lb:Int)=0):=by omega
       have co:¬ (lb=0):=by omega
       have cn:(lb==0)=false:=by simp;omega
       have cJ:(k:Int)<(mm:Int):=by omega
       clear b8 aA hm hi hj;unfold Jk at K1
       have ba:=au (fun (hw:Dk T a b i j z.m) (aa:i<zs.length) (A9:eV) (c9:Nat)=>(show EV T a b s lb la (k+1) (zs.set i ⟨zs[i].l++[z.h],A9,c9⟩) from by
        have ax:=a9.o;obtain⟨e1,e2⟩:=ax;subst e1 e2 hz
        exact ac.o.next ar ap aa hw))
       have bh:=au (fun (hw:¬ Dk T a b i j z.m)=>(show ¬ fG T a b s.m from fun h=>hw (by
        have ax:=a9.o;obtain⟨e1,e2⟩:=ax;subst e1 e2 hz;have cy:k<s.m.ws.length:=by show k<(s.ws.map WL.m).length;rw[gh];exact ar
        have h3:=h.ws k cy;rw[<-HL.o.1.2] at h3;have e:s.m.ws[k]=s.ws[k].m:=mA ..;rw[e] at h3
        exact h3)))
       have bk:=au (fun (aa:i<zs.length)=>(show zs[i].l.length=j from by
        have ax:=a9.o;have h1:(zs.map (·.l))[i]?=(gM (sH s.m lb) lb la (k / lb) (k % lb))[i]?:=by rw[ac.o.mat]
        have hn:i<(gM (sH s.m lb) lb la (k / lb) (k % lb)).length:=by rw[<-ac.o.mat,gh];exact aa
        rw[lz,gR aa,gR hn] at h1;have h2:=congrArg List.length (Option.some.inj h1);rw[h2];have e3:(gM (sH s.m lb) lb la (k / lb) (k % lb))[i]=(List.range (k % lb)).map (sH s.m lb i):=by rw[Je,ax.1,if_neg (mn _),if_pos rfl]
        rw[e3,gh,ua,ax.2]))
       have aa:i<zs.length:=by
        have h2:=congrArg List.length ac.o.mat;rw[gh,Jd] at h2;omega
       have cf:=au aa;clear hz ar aa;rw[b4];clear b4;have bp:=au (aH HR.o aO (Jk z) 55);unfold Jk at bp;clear HR;go_upto_region 9 with (fail);generalize wr.alloc (.cells (js z.i z.j z.h z.A z.ps.length z.c) 55)=cE at *
       generalize wr.heap.size=g13 at *
       clear y0 y1 y2 y3;have aw:=au ((bp.o.perm (by ac_rfl:_=aj (aj (av g13 (js z.i z.j z.h z.A z.ps.length z.c) 55) (fU (some ⟨go,0,none⟩) la zs)) B)).drew aO);clear bp;obtain⟨-,-,q6,-⟩:=HB.o _ _ aw.o;refine dY [] [0,0,0,0,0,0,0,0,0,0,0,0] (fun W=>(my W g6 (.int .i64 b.k) (.slice Bn lb cb))) [(fun _=>True),(fun _=>True),(fun _=>True)] ⟨(fun _ _=>trivial),(fun _ h=>h),(fun _ h=>h),trivial⟩ eQ eQ eQ eQ q6 ?_;clear q6;generalize cE.drew=cA at *
       (repeat(first|refine eH ?_|refine eO ?_))
       refine iT ?_
       try rw[ci]
       try rw[tm]
       clear td ci tm tz cG co cn;obtain⟨⟨c0,c1,c2,c3,c4,c5,c6,c7,c8,c9⟩,-⟩:=HB.o _ _ aw.o;obtain⟨v0,v1,v2,v3,-⟩:=bq aw.o.assoc;have K2:=au (K1.o cA (M.o _ _ aw.o));clear K1;go_wp2_with fail;refine K2.o.mono ?_;rintro e9 a5 ⟨bb,rfl,hbb,I⟩;have a0:=au (aw.o.below aO I);clear K2 aw I c0 c1 c2 c3 c4 c5 c6 c7 c8 c9 v0 v1 v2 v3;dsimp only;cases bb with
       | false=>
        have HE:=au (J.o (bh.o (fun h=>by cases hbb.2 h)) a5 (M.o _ _ a0.o));clear J bh hbb a0 ba bk;go_wp2_with fail
        (try rw[pD])
        go_ret;exact HE.o
       | true=>
        have bw:=au (hbb.1 rfl);clear hbb bh;go_upto_region 12 with (fail);have aa:=cf.o;have a6:=au (fun A9 c9=>ba.o bw.o aa A9 c9);have bn:=au (bk.o aa);have az:zs.length=la:=by
         have h2:=congrArg List.length ac.o.mat;rw[gh,Jd] at h2;exact h2
        have br:=au az;obtain⟨bj,-⟩:=yU aa (a0.o.perm (by ac_rfl:_=aj (fU (some ⟨go,0,none⟩) la zs) (aj (av g13 (js z.i z.j z.h z.A z.ps.length z.c) 55) B)));rw[az] at bj
        have bm:=au (fun (A9:eV) (c9:Nat) (l9:List Int) (Y:CH.aT) W (h:aI eR w (aj (aX A9 c9 l9) (aj (aV 39 1 (.slice (some ⟨go,0,none⟩) la la) la (zs.flatMap bZ.cl)) Y)) W)=>(show W.cell? ⟨go,i,none⟩=some (.slice zs[i].A j zs[i].c)/\W.frozen? ⟨go,i,none⟩=false from by
         rw[<-az] at h;have:=BU aa (h.perm (by rw[az]:_=_));rw[bn.o] at this
         exact this))
        have bv:=au (fun (A9:eV) (c9:Nat) W (h:aI eR w (aj (aX A9 c9 (zs[i].l++[z.h])) (aj (aV 39 1 (.slice (some ⟨go,0,none⟩) la la) la (zs.flatMap bZ.cl)) (aj (aL ((zs.eraseIdx i).map bZ.ow)) (aj (av g13 (js z.i z.j z.h z.A z.ps.length z.c) 55) B)))) W)=>(show(W.cell? ⟨go,i,none⟩=some (.slice zs[i].A j zs[i].c)/\W.frozen? ⟨go,i,none⟩=false)/\aI eR w (aj (fU (some ⟨go,0,none⟩) la (zs.set i ⟨zs[i].l++[z.h],A9,c9⟩)) B) (W.setCell ⟨go,i,none⟩ (.slice A9 (j+1) c9)) from by
         refine⟨bm.o _ _ _ _ _ h,?_⟩;rw[<-br.o] at h;have h2:=BR aa (n:=j+1) (by rw[gd,bn.o];rfl) aO (h.perm (by rw[br.o]:_=(aj (aX A9 c9 (zs[i].l++[z.h])) (aj (aV 39 1 (.slice (some ⟨go,0,none⟩) zs.length la) zs.length (zs.flatMap bZ.cl)) (aj (aL ((zs.eraseIdx i).map bZ.ow)) (aj (av g13 (js z.i z.j z.h z.A z.ps.length z.c) 55) B))))))
         exact(h2.perm (by ac_rfl:_=aj (av g13 (js z.i z.j z.h z.A z.ps.length z.c) 55) (aj (fU (some ⟨go,0,none⟩) la (zs.set i ⟨zs[i].l++[z.h],A9,c9⟩)) B))).drop))
        have a2:=au (bj.drew aO);obtain⟨cz,-⟩:=bm.o _ _ _ _ _ a2.o;obtain⟨_,f13⟩:=a2.o.drop.drop.drop.fst;have v2:a5.drew.cell? ⟨g13,2,none⟩=some (.int .i64 z.h):=ay f13 rfl;have cI:(i:Int)<(la:Int):=by omega
        clear ba bk cf bj f13 a0 bm;generalize zs[i].A=zA at *
        generalize zs[i].c=zc at *
        generalize zs[i].l=zl at *
        clear aa az;refine dY [8,9,11] [2,2,1,1,1,1,0,0,1,2,2,3] (fun w'=>w'.cell? ⟨go,i,none⟩=some (.slice zA j zc)/\w'.cell? ⟨g13,2,none⟩=some (.int .i64 z.h)) [(fun w'=>w'.cell? ⟨go,i,none⟩=some (.slice zA j zc)),(fun _=>True),(fun _=>True)] ⟨(fun _ h=>h.1),(fun _ _=>trivial),(fun _ h=>h),trivial⟩ eQ eQ eQ eQ (by exact⟨cz,v2⟩) ?_
        (repeat(first|refine eH ?_|refine eO ?_))
        refine bB rfl fY (fun K hK=>?_);go_wp2_with fail;have bu:(a5.drew.alloc (.cells (fL z.h) 3)).cell? ⟨go,i,none⟩=some (.slice zA j zc):=aG (w:=a5.drew) cz ((fe _ _).alloc (fy _) _);refine hK.o _ _ bu ?_;clear hK bu
        (repeat(first|refine eH ?_|refine eO ?_))
        refine bB rfl fY (fun K hK=>?_);refine D8 (.tmp 86) (.tmp 89) rfl (l:=zl) (i:=z.h) bn.o rfl rfl eL aO a2.o ?_;intro A9 c9 an hr;obtain⟨⟨e0,e1⟩,hE⟩:=bv.o A9 c9 an hr;have HE:=au hE;have cr:=au (a6.o A9 c9);refine hK.o _ _ trivial ?_;clear hK hr bv a2 cz v2 hE a6
        (repeat(first|refine eH ?_|refine eO ?_))
        refine bB rfl fY (fun K hK=>?_);go_wp2_with fail;refine hK.o _ _ trivial (iT ?_);clear hK e0 e1;go_wp2_with fail
        go_roundw
        case rel=>exact⟨k+1,_,rfl,by go_num,bi,cr.o,HE.o⟩
        case measure=>simp[intOf];omega
      ·have ce:k=mm:=by omega
       have b9:=au (fun W (Y:CH.aT) (h:aI eR w (aj (fU (some ⟨go,0,none⟩) la zs) Y) W)=>(show ∃ V',uy W (some ⟨go,0,none⟩) (sL s.m a b) V' from by
        obtain⟨F,hF⟩:=h.fst;have b6:=D6 hF;have e:zs.map (·.l)=sL s.m a b:=by
         rw[ac.o.mat,ce,HL.o.2.2,Nat.mul_div_cancel _ ap,Nat.mul_mod_left];unfold sL;rw[<-HL.o.1.1,<-HL.o.1.2];exact XT
        rw[e] at b6
        exact⟨_,b6⟩))
       have HC:=au (fun W (X:CH.aT) (h:aI eR w (aj X B) W)=>(show(fun W=>(C3 W g9 (.slice t.A T.rs.length t.c) (.slice t.D T.ds.length t.d) (.slice t.E T.es.length t.e) (.int .i64 T.drop) (.int .i64 T.ord) (.int .i64 T.ini) (.int .i64 a.k) (.slice An la ca) (.int .i64 b.k) (.slice Bn lb cb))/\(my W g6 (.int .i64 b.k) (.slice Bn lb cb))/\(my W g5 (.int .i64 a.k) (.slice An la ca))) W from by
        obtain⟨h1,-,h3,h4,-⟩:=HB.o W X h
        exact⟨h1,h3,h4⟩))
       have a3:=au (HR.o.drew aO);have cN:¬ ((k:Int)<(mm:Int)):=by omega
       go_upto_region 16 with (fail);have bz:=au (KD.o wr.drew (M.o _ _ a3.o)).1;refine dY [2,5] [0,0,1,1,1,2,2,2] (fun W=>(C3 W g9 (.slice t.A T.rs.length t.c) (.slice t.D T.ds.length t.d) (.slice t.E T.es.length t.e) (.int .i64 T.drop) (.int .i64 T.ord) (.int .i64 T.ini) (.int .i64 a.k) (.slice An la ca) (.int .i64 b.k) (.slice Bn lb cb))/\(my W g6 (.int .i64 b.k) (.slice Bn lb cb))/\(my W g5 (.int .i64 a.k) (.slice An la ca))) [(fun W=>(C3 W g9 (.slice t.A T.rs.length t.c) (.slice t.D T.ds.length t.d) (.slice t.E T.es.length t.e) (.int .i64 T.drop) (.int .i64 T.ord) (.int .i64 T.ini) (.int .i64 a.k) (.slice An la ca) (.int .i64 b.k) (.slice Bn lb cb))/\(my W g6 (.int .i64 b.k) (.slice Bn lb cb))/\(my W g5 (.int .i64 a.k) (.slice An la ca))),(fun _=>True),(fun _=>True)] ⟨(fun _ h=>h),(fun _ _=>trivial),(fun _ h=>h),trivial⟩ eQ eQ eQ eQ (HC.o _ _ a3.o) ?_;generalize wr.drew=cP at *
       (repeat(first|refine eH ?_|refine eO ?_))
       refine bB rfl fY (fun K hK=>?_);go_wp2_with fail;refine bz.o.mono ?_;rintro e9 cm ⟨A5,c5,rfl,hp⟩;have a1:=au ((a3.o.fresh aO hp).perm (by ac_rfl:_=aj (aj (bE A5 c5 (dL T a)) (fU (some ⟨go,0,none⟩) la zs)) B));have cd:=au (KD.o cm (M.o _ _ a1.o)).2;clear bz KD a3 hp;dsimp only;refine hK.o _ _ (HC.o _ _ a1.o) ?_;clear hK
       (repeat(first|refine eH ?_|refine eO ?_))
       refine bB rfl fY (fun K hK=>?_);go_wp2_with fail;refine cd.o.mono ?_;rintro e9 an ⟨A6,c6,rfl,hp⟩;have ao:=au ((a1.o.fresh aO hp).perm (by ac_rfl:_=aj (fU (some ⟨go,0,none⟩) la zs) (aj (aj (bE A5 c5 (dL T a)) (bE A6 c6 (dL T b))) B)));clear cd a1 hp;dsimp only;refine hK.o _ _ trivial ?_;clear hK
       (repeat(first|refine eH ?_|refine eO ?_))
       refine iT ?_;obtain⟨V9,hm⟩:=b9.o _ _ ao.o;obtain⟨_,f5⟩:=ao.o.drop.assoc.fst;obtain⟨_,f6⟩:=ao.o.drop.assoc.drop.fst;have hr:=al.o an (M.o _ _ ao.o);have a7:Calls Tryz.prog 33 #[.slice (some ⟨go,0,none⟩) la la,.slice A5 la c5,.slice A6 lb c6,.slice s.u.A s.U.length s.u.c,.slice s.v.A s.V.length s.v.c] an (Asn.rQ an (kB (sL s.m a b) (dL T a) (dL T b) s.U s.V)):=aa5 (s:=s.m) HL.o.1.1 HL.o.1.2 ab.o hm (fA f5) (fA f6) hr.u hr.v;have be:∀ W,Below an.heap.size an W->Calls Tryz.prog 34 #[.slice (some ⟨go,0,none⟩) la la,.slice A5 la c5,.slice A6 lb c6,.slice s.g.A s.G.length s.g.c] W (Asn.rQ W (nZ (sL s.m a b) (dL T a) (dL T b) s.G)):=fun W I=>X3 (s:=s.m) HL.o.1.1 HL.o.1.2 ab.o (hm.below I) (aY (fA f5) I) (aY (fA f6) I) (aY hr.g I) ak.o.g0;obtain⟨⟨x,b1⟩,hx⟩:∃ r,r=kB (sL s.m a b) (dL T a) (dL T b) s.U s.V:=⟨_,rfl⟩;obtain⟨⟨y,b2⟩,hy⟩:∃ r,r=nZ (sL s.m a b) (dL T a) (dL T b) s.G:=⟨_,rfl⟩;rw[<-hx] at a7;rw[<-hy] at be;have af:=au (show(x,b1)=kB (sL s.m a b) (dL T a) (dL T b) s.m.U s.m.V/\(y,b2)=nZ (sL s.m a b) (dL T a) (dL T b) s.m.G from⟨hx,hy⟩);have cQ:=adi hx.symm (by rw[show(dL T a).length=la from by rw[HL.o.1.1];simp[dL]];exact aD) (by rw[show(dL T b).length=lb from by rw[HL.o.1.2];simp[dL]];exact aE);have K1:=au a7;have K2:=au be;clear a7 be hm f5 f6 hr hx hy b9;obtain⟨-,⟨-,-,p2,p3,p4⟩,-⟩:=HB.o _ _ ao.o.drop;go_wp2_with fail;refine K1.o.mono ?_;rintro e9 ck ⟨rfl,I⟩;have bc:=au (ao.o.below aO I);have K3:=au (K2.o ck I);clear K1 K2 ao I p2 p3 p4;dsimp only;obtain⟨-,⟨-,-,p2,p3,p4⟩,-⟩:=HB.o _ _ bc.o.drop;go_wp2_with fail;refine K3.o.mono ?_;rintro e9 a4 ⟨rfl,I⟩;have ag:=au (bc.o.below aO I);clear K3 bc I p2 p3 p4;dsimp only;obtain⟨-,⟨p0,-⟩,-,-,p4⟩:=HB.o _ _ ag.o.drop;have cg:=eu.1 (bW.1 (dW.1 ab.o).1).1.2.2.2.1;obtain⟨o1,o2⟩:=cg;have tw:wrap64 (x+T.ord)=x+T.ord:=rL _ eL;cases b1 with
       | false=>
        have HE:=au (J.o (fun h=>by obtain⟨x',y',h1,-⟩:=h.fin;rw[<-af.o.1] at h1;cases h1) a4 (M.o _ _ ag.o));clear J af ac ag;go_wp2_with fail
        (try rw[pD])
        go_ret;exact HE.o
       | true=>
        cases b2 with
        | false=>
         have HE:=au (J.o (fun h=>by obtain⟨x',y',-,h1,-⟩:=h.fin;rw[<-af.o.2] at h1;cases h1) a4 (M.o _ _ ag.o));clear J af ac ag;go_wp2_with fail
         (try rw[pD])
         go_ret;exact HE.o
        | true=>
         by_cases cw:s.b<=min (x+T.ord) y
         ·have HP:=au (show fG T a b s.m from by
           have h2:=af.o;refine⟨ab.o,HG.o.1,HG.o.2,?_,fun q hq=>?_,x,y,h2.1.symm,h2.2.symm,?_,?_⟩
           ·show(s.ws.map WL.m).length=_
            rw[gh,HL.o.2.1,HL.o.2.2,HL.o.1.1,HL.o.1.2]
           ·have b3:q<s.ws.length:=by have:q<(s.ws.map WL.m).length:=hq;rw[gh] at this;exact this
            have h3:=ac.o.all q b3 (by rw[ce,<-HL.o.2.1];exact b3);have e:s.m.ws[q]=s.ws[q].m:=mA ..;rw[e,<-HL.o.1.2];exact h3
           ·show s.b<=x+T.ord;omega
           ·show s.b<=y;omega)
          have HE:=au (show Jg w T a b s.m (.returned (.bool true)) a4 from⟨true,rfl,⟨fun _=>HP.o,fun _=>rfl⟩,M.o _ _ ag.o⟩);clear J af ac ag HP;go_wp2_with fail
          (try rw[pD])
          go_ret;exact HE.o
         ·have HE:=au (J.o (fun h=>by obtain⟨x',y',h1,h2,h3,h4⟩:=h.fin;rw[<-af.o.1] at h1;rw[<-af.o.2] at h2;cases h1;cases h2;exact cw (Int.le_min.2 ⟨h3,h4⟩)) a4 (M.o _ _ ag.o));clear J af ac ag;go_wp2_with fail
          (try rw[pD])
          go_ret;exact HE.o
    ·have t6:(s.ws.length != mm)=true:=by simp[e2]
     have t7:((s.ws.length:Int) != (mm:Int))=true:=by simp;omega
     have am:=au (fun W I=>J.o (fun h=>by have:=h.len;have h2:(s.ws.map WL.m).length=_:=this;rw[gh,<-aq] at h2;exact e2 h2) W I);clear J HN al ak aq;go_wp2
     (try rw[pD]);go_ret
     exact am.o _ (M.o _ _ H6.o)
end Go.Proofs.YtbioiclabmbedaaGreatDoor
namespace Go.Proofs.YtbioiclabmbedaaGreatDoor.Sl
open Go.RowKit Go.CH Go.CH.bA
open Asn (aX dO fA uy Vec ints cF lF mR)
open Go.ChangeMaps (setBlock)
variable {a b:List Int}{w:World}{A:eV}{c:Nat}
theorem Qh  {k:Nat} (h:a.take k=b.take k) (ha:k<a.length) (hb:k<b.length) (he:a[k]=b[k]):a.take (k+1)=b.take (k+1):=by
 rw[kq ha,kq hb,h,he]
theorem X4  {B:eV} {d:Nat}  (hA:Vec w A a) (hB:Vec w B b) (hl:a.length<=1000000) :
  Calls Tryz.prog 20 #[.slice A a.length c,.slice B b.length d] w (aS w (.bool (decide (a=b)))):=by
 have HA:=au hA;have HB:=au hB;obtain⟨n,hn⟩:∃ n,n=a.length:=⟨_,rfl⟩;obtain⟨m,hm⟩:∃ m,m=b.length:=⟨_,rfl⟩;rw[<-hn] at hl;have HN:=au hn;have HM:=au hm;rw[<-hn,<-hm];clear hA hB hn hm;by_cases ae:n=m
 ·subst ae
  go_enter Tryz.func20,Tryz.ntmps20
  go_wp2;go_loopw [5] (fun i wr=>∃ k:Nat,k<=n/\i=.int .i64 k/\a.take k=b.take k/\Below w.heap.size w wr) (fun i _=>n-(intOf i).toNat)
  case atStart=>exact⟨0,fw _,rfl,rfl,fe _ _⟩
  case round=>
   obtain⟨k,hk,rfl,ht,hb⟩:=hrel;have HT:=au ht;have J:=au (dF hb);have af:=au hb;clear ht hb;by_cases aa:k<n
   ·have ad:k<a.length:=by rw[<-HN.o];exact aa
    have M:k<b.length:=by rw[<-HM.o];exact aa
    obtain⟨b1,o1,rfl,ab⟩:=HA.o.at eL;obtain⟨b2,o2,rfl,ac⟩:=HB.o.at eL;have c1:=ab _ J.o k ad;have c2:=ac _ J.o k M;have HX:=au (Qh HT.o ad M);have HY:=au (show a[k]≠b[k]->a≠b from fun h e=>h (by subst e;rfl));generalize a[k]=x at *
    generalize b[k]=y at *
    clear ab ac;by_cases I:x=y
    ·have HS:=au (HX.o I);clear HX;subst I;go_wp2_with fail;refine aR (fun w'=>w'=wr.drew) eQ eQ rfl ?_;generalize wr.drew=wd at *
     (repeat(first|refine bM ?_|refine bN ?_))
     refine lex_nil ?_;go_wp2
     go_roundw
     case rel=>exact⟨k+1,by omega,by go_num,HS.o,J.o⟩
     case measure=>simp[intOf];omega
    ·have t1:(x==y)=false:=by simpa using I
     have t2:(x != y)=true:=by simpa using I
     have HF:=au (decide_eq_false (HY.o I));clear I;go_wp2_with fail;refine aR (fun w'=>w'=wr.drew) eQ eQ rfl ?_;generalize wr.drew=wd at *
     (repeat(first|refine bM ?_|refine bN ?_))
     refine lex_nil ?_;go_wp2;go_ret;exact aK HF.o J.o
   ·obtain rfl:k=n:=by omega
    have HF:=au (show decide (a=b)=true by
     rw[decide_eq_true_eq];have:=HT.o;rw[HN.o,ky,<-HN.o,HM.o,ky] at this
     exact this)
    clear HT;go_wp2;go_ret;exact aK HF.o af.o
 ·have HF:=au (show decide (a=b)=false by
   rw[decide_eq_false_iff_not];intro e
   exact ae (by rw[HN.o,HM.o,e]))
  go_enter Tryz.func20,Tryz.ntmps20
  go_wp2;go_ret;exact aK HF.o (fe _ _)
end Go.Proofs.YtbioiclabmbedaaGreatDoor.Sl
