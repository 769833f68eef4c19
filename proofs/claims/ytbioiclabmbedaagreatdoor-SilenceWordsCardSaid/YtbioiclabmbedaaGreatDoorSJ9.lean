/- A part of the proof: lemmas. -/
import Derived.Test.YtbioiclabmbedaaGreatDoorSJ7
import Derived.Test.YtbioiclabmbedaaGreatDoorSJ8
set_option maxHeartbeats 16000000
set_option maxRecDepth 100000
set_option linter.all false
namespace Go.CH.Sil
open Go.CH.Scr Go.CH.dh Go.CH.Mtc
section
variable{V:List Wy}{A B:Wy}{p q:Prop}[Decidable p][Decidable q]
theorem aez(hp:p):(V++((if p then [A] else [])++(if q then [B] else [])))[V.length]?=some A:=by rw[if_pos hp];simp
theorem aeA(hq:q):(V++((if p then [A] else [])++(if q then [B] else [])))[V.length+if p then 1 else 0]?=some B/\(V++((if p then [A] else [])++(if q then [B] else []))).length=(V.length+if p then 1 else 0)+1:=by
 rw[if_pos hq];by_cases hp:p
 ·simp[hp]
 ·simp[hp]
theorem aeB(hq:¬ q):(V++((if p then [A] else [])++(if q then [B] else []))).length=V.length+if p then 1 else 0:=by
 rw[if_neg hq];by_cases hp:p<;>simp[hp]
end
section
variable{ini:Int}{us vs:List Vr}{p q:List Bs}{x y:Bs}{i j:Nat}
theorem X7(hi:i<us.length)(hj:j<vs.length):(sN ini us vs p q x y)[i*vs.length+j]?=some (vR us[i] vs[j]):=by
 have h1:=Go.Proofs.YtbioiclabmbedaaGreatDoor.MH hi hj;unfold sN;rw[xp (List.getElem?_eq_some_iff.1 h1).1];exact h1
theorem Ua(hp:p.length=1):(sN ini us vs p q x y)[us.length*vs.length]?=some ⟨2,-1,-1,ini,x,ie q⟩:=by
 rw[<-Go.Proofs.YtbioiclabmbedaaGreatDoor.mO];exact aez hp
theorem ML(hq:q.length=1):(sN ini us vs p q x y)[us.length*vs.length+if p.length=1 then 1 else 0]?=some ⟨3,-1,-1,ini,ie p,y⟩/\(sN ini us vs p q x y).length=(us.length*vs.length+if p.length=1 then 1 else 0)+1:=by
 rw[<-Go.Proofs.YtbioiclabmbedaaGreatDoor.mO];exact aeA hq
theorem OO(hq:q.length≠1):(sN ini us vs p q x y).length=us.length*vs.length+if p.length=1 then 1 else 0:=by
 rw[<-Go.Proofs.YtbioiclabmbedaaGreatDoor.mO];exact aeB hq
end
end Go.CH.Sil
namespace Go.Proofs.YtbioiclabmbedaaGreatDoor
open Go.RowKit Go.CH Go.CH.Scr Go.CH.dh Go.CH.Mtc Go.CH.Sil
open Go.ChangeMaps (setBlock)
attribute [local go_sem] nF
instance {A:eV} {c:Nat} {l:List Vr}:(jY A c l).Ok:=Em
instance {A:eV} {c:Nat} {l:List Bs}:(gD A c l).Ok:=iG
def jS(T:eW)(t:TA)(a b:aR)(An Bn:eV)(ca cb:Nat):Array Value:=
 (sA t.A T.rs.length t.c t.D T.ds.length t.d t.E T.es.length t.e T.drop T.ord T.ini a.k An a.ws.length ca b.k Bn b.ws.length cb)
structure xm(w:World)(T:eW)(t:TA)(a b:aR)(An Bn:eV):Prop where
 ft:jV w T t
 fz:LZ w
 fa:fu w An a.ws
 fb:fu w Bn b.ws
 la:a.ws.length<=6
 lb:b.ws.length<=6
 wa:∀ x ∈ a.ws,x.length<=1000000
 wb:∀ x ∈ b.ws,x.length<=1000000
variable{w w' w0:World}{T:eW}{t:TA}{a b:aR}{An Bn:eV}{ca cb i j:Nat}{F0:Nat->Prop}{X:CH.aU}
theorem xm.below(h:xm w T t a b An Bn)(hb:Below w.heap.size w w'):xm w' T t a b An Bn:=
 { h with ft:=h.ft.below hb,fz:=h.fz.below hb,fa:=aZ h.fa hb,fb:=aZ h.fb hb }
def Zs(C:Array Value)(i j b1 b2 b3:Nat):CH.aU:=aj (av b1 C 93) (aj (av b2 (fR i) 3) (av b3 (fR j) 3))
instance {C:Array Value} {i j b1 b2 b3:Nat}:(Zs C i j b1 b2 b3).Ok:=by unfold Zs;exact aO
def B3(b1 b2 b3:Nat):Value:=.func (.func 72) #[] (vA (some ⟨b1,0,none⟩) (some ⟨b2,0,none⟩) (some ⟨b3,0,none⟩))
theorem G7(i j:Nat)(w:World):
  Calls Tryz.prog 49 #[.agg (jS T t a b An Bn ca cb),.int .i64 (i:Int),.int .i64 (j:Int)] w (fun e w'=>∃ b1 b2 b3,e=.returned (B3 b1 b2 b3)/\bT w eR (Zs (jS T t a b An Bn ca cb) i j b1 b2 b3) w'):=by
 have I:=aH (aI.begin w) aO (jS T t a b An Bn ca cb) 93;have J:=aH I aO (fR (i:Int)) 3;have h:=aH J aO (fR (j:Int)) 3;simp only[ik] at h;have M:=au (show bT w eR (Zs (jS T t a b An Bn ca cb) i j w.heap.size (w.heap.size+1) (w.heap.size+1+1)) _ from((h.perm (by unfold Zs;ac_rfl:_=aj bG (Zs (jS T t a b An Bn ca cb) i j w.heap.size (w.heap.size+1) (w.heap.size+1+1)))).drop).post aO);clear I J h;unfold jS at M ⊢
 go_enter Tryz.func49,Tryz.ntmps49
 go_wp2;go_ret;exact⟨_,_,_,rfl,M.o⟩
def jK(w:Wy):Array Value:=(nt w.kd w.l w.r (bs w.x) (bs w.y) w.c)
def Ev(w:Wy):Array Value:=#[.agg (jK w)]
theorem X8{b1 b2 b3:Nat}(h:aI F0 w0 (aj (Zs (jS T t a b An Bn ca cb) i j b1 b2 b3) X) w):
  (l4 w b1 (.slice t.A T.rs.length t.c) (.slice t.D T.ds.length t.d) (.slice t.E T.es.length t.e) (.int .i64 T.drop) (.int .i64 T.ord) (.int .i64 T.ini)) /\
  (De w b1 (.int .i64 a.k) (.slice An a.ws.length ca) (.int .i64 b.k) (.slice Bn b.ws.length cb)) /\
  w.cell? ⟨b2,0,none⟩=some (.int .i64 i)/\w.cell? ⟨b3,0,none⟩=some (.int .i64 j):=by
 unfold Zs jS at h;obtain⟨f1,I⟩:=h.assoc.fst;obtain⟨f2,J⟩:=(h.assoc.drop.assoc).fst;obtain⟨f3,M⟩:=(h.assoc.drop.assoc).drop.fst;exact⟨⟨ay I rfl,ay I rfl,ay I rfl,ay I rfl,ay I rfl,ay I rfl⟩,⟨ay I rfl,ay I rfl,ay I rfl,ay I rfl⟩,ay J rfl,ay M rfl⟩
variable{b:Nat}
theorem X9{o:Nat}{l:List Bs}(h:fu w (some ⟨b,o,none⟩) l)(hn:0<l.length):w.cell? ⟨b,o,none⟩=some (.string (bs (ie l))):=by
 obtain⟨b',o',e,hc⟩:=fu.at h hn;injection e with e
 injection e with e1 e2
 subst e1 e2;have:=hc w (fe _ _) 0 hn;rw[pk] at this;rw[this,OM hn]
theorem Ew{t:TA}{a b:aR}{An Bn:eV}{ca cb b1 b2 b3:Nat}(a9:nO T a b=true)(hi:i<a.ws.length)(hj:j<b.ws.length):
  Qt Tryz.prog 72 #[.pointer (some ⟨b1,0,none⟩),.pointer (some ⟨b2,0,none⟩),.pointer (some ⟨b3,0,none⟩)] (fun W=>xm W T t a b An Bn) (Zs (jS T t a b An Bn ca cb) i j b1 b2 b3) Ev (eZ T a.k (wd a i) b.k (wd b j)):=by
 intro n lo w F0 w0 X Y bk bz hE h0 hY;obtain⟨hv,ha,hb⟩:=dP.1 a9;have al:=iW ha hi;have am:=iW hb hj;have N0:=hE _ h0.mod;obtain⟨ba,oa,bi,a2⟩:=fu.at N0.fa eL;obtain⟨bb,ob,bh,ai⟩:=fu.at N0.fb eL;have bc:w.drew.cell? ⟨ba,oa+i,none⟩=some (.string (bs (wd a i))):=by
  have:=a2 w.drew (dB (fe _ _)) i hi;rw[this];unfold wd;rw[ki,ic hi];rfl
 have be:w.drew.cell? ⟨bb,ob+j,none⟩=some (.string (bs (wd b j))):=by
  have:=ai w.drew (dB (fe _ _)) j hj;rw[this];unfold wd;rw[ki,ic hj];rfl
 have ao:(wd a i).length<=1000000:=by unfold wd;rw[ki,ic hi];exact N0.wa _ (gw hi)
 have an:(wd b j).length<=1000000:=by unfold wd;rw[ki,ic hj];exact N0.wb _ (gw hj)
 have bx:=N0.la;have bv:=N0.lb;generalize wd a i=x at *
 generalize wd b j=y at *
 have KV:=au (fun W (hm:Mod F0 w0 W) (k:Int) (s:Bs) (hw:word k s=true) (hs:s.length<=1000000)=>(show Calls Tryz.prog 55 #[dI T t,.int .i64 k,.string (bs s)] W (fun e w'=>∃ A c,e=.returned (.tuple (pC A (fq T k s).length c 0))/\bT W eR (jY A c (fq T k s)) w') from
  (zh (hE W hm).ft (hE W hm).fz k s hs).mono fun e w' h=>by
   have e1:pK T k s=(fq T k s,0):=by unfold pK;rw[hw,hv];rfl
   unfold wV at h;rw[e1] at h
   exact h))
 have KL:=au (fun W (hm:Mod F0 w0 W) (k:Int) (s:Bs) (hw:word k s=true) (hs:s.length<=1000000)=>(show Calls Tryz.prog 57 #[.int .i64 k,.string (bs s)] W (fun e w'=>∃ A c,e=.returned (.tuple (pC A (raw k s).length c 0))/\bT W eR (gD A c (raw k s)) w') from
  (ji k (bs s) W (by rw[cO];exact hs) (hE W hm).fz).mono fun e w' h=>by
   have e1:bC k (bl (bs s))=(raw k s,0):=by rw[iQ];unfold bC raw;rw[if_pos hw]
   unfold mR at h;rw[e1] at h
   exact h))
 have aA:=au (fun W hm=>KV.o W hm a.k x al ao);have a8:=au (fun W hm=>KV.o W hm b.k y am an);have a5:=au (fun W hm=>KL.o W hm a.k x al ao);have az:=au (fun W hm=>KL.o W hm b.k y am an);have aD:=au (fun u (hu:u ∈ fq T a.k x)=>qW hv hu);have ar:=au (fun u (hu:u ∈ fq T b.k y)=>qW hv hu);have br:=lN (k:=a.k) (x:=x) hv;have b5:=lN (k:=b.k) (x:=y) hv;have bo:1<=(raw a.k x).length/\(raw a.k x).length<=12:=(eX.1 al).2;have bw:1<=(raw b.k y).length/\(raw b.k y).length<=12:=(eX.1 am).2;unfold eZ at hY ⊢;clear KV KL hv ha hb al am a2 ai ao an a9;generalize fq T a.k x=us at *
 generalize fq T b.k y=vs at *
 generalize raw a.k x=p at *
 generalize raw b.k y=q at *
 generalize ag:sN T.ini us vs p q x y=xs at *
 have HA:=au (fun r s (hr:r<us.length) (hs:s<vs.length)=>(show xs[r*vs.length+s]?=some (vR us[r] vs[s]) from by rw[<-ag];exact X7 hr hs));have H2:=au (fun (hp:p.length=1)=>(show xs[us.length*vs.length]?=some ⟨2,-1,-1,T.ini,x,ie q⟩ from by rw[<-ag];exact Ua hp));have H3:=au (fun (hq:q.length=1)=>(show xs[us.length*vs.length+if p.length=1 then 1 else 0]?=some ⟨3,-1,-1,T.ini,ie p,y⟩/\xs.length=(us.length*vs.length+if p.length=1 then 1 else 0)+1 from by rw[<-ag];exact ML hq));have H4:=au (fun (hq:q.length≠1)=>(show xs.length=us.length*vs.length+if p.length=1 then 1 else 0 from by rw[<-ag];exact OO hq))
 have HY:=au (fun (z:Wy) (r:Nat) (hr:xs[r]?=some z) (Z:CH.aU) (hZ:Z.Ok) W1 (h:aI F0 w0 (aj Z (X r)) W1)=>(show YieldAt Fence.wide (n-1) Tryz.prog lo (Ev z) W1 fun e W'=>(e=.returned (.bool true)/\aI F0 w0 (aj Z (X (r+1))) W')\/(e=.returned (.bool false)/\aI F0 w0 (aj Z Y) W') from by
  obtain⟨h1,rfl⟩:=List.getElem?_eq_some_iff.1 hr
  exact hY Z hZ r h1 W1 h))
 have HF:=au (fun (Z:CH.aU) (hZ:Z.Ok) W (h:aI F0 w0 (aj Z (X xs.length)) W\/aI F0 w0 (aj Z Y) W)=>(show(∃ v,(Ending.returned (.tuple #[]))=.returned v)/\∃ Z:CH.aU,Z.Ok/\(aI F0 w0 (aj Z (X xs.length)) W\/aI F0 w0 (aj Z Y) W) from⟨⟨_,rfl⟩,Z,hZ,h⟩));have HC:=au (fun W (R:CH.aU) (h:aI F0 w0 (aj (Zs (jS T t a b An Bn ca cb) i j b1 b2 b3) R) W)=>X8 h);clear ag hY hE N0;subst bi bh;have HD:=au (h0.drew aO);obtain⟨⟨t0,t1,t2,t3,t4,t5⟩,⟨t6,t7,t8,t9⟩,ti,tj⟩:=HC.o _ _ HD.o;have bn:(i:Int)<(a.ws.length:Int):=by omega
 have bm:(j:Int)<(b.ws.length:Int):=by omega
 generalize hZ:Zs (jS T t a b (some ⟨ba,oa,none⟩) (some ⟨bb,ob,none⟩) ca cb) i j b1 b2 b3=Z0 at *
 have bf:Z0.Ok:=by rw[<-hZ];exact aO
 clear hZ h0;generalize a.ws.length=na at *
 generalize b.ws.length=nb at *
 refine callsIn_of_wp Tryz.func72 rfl trivial ?_ rfl;simp only[Tryz.ntmps72,pZ,jz,lL,Nat.reduceAdd,Nat.reduceSub,re,rk,ry,rq,me,pd];refine wpIn_seq_k ?_;intro K1 ac;refine wpIn_wide.2 (aP (fun w'=>w'=w.drew) eQ eQ rfl ?_);generalize w.drew=w1 at *
 (repeat(first|refine bM ?_|refine bN ?_))
 refine lex_nil ?_;refine ac _ _ ?_;clear ac K1 bc be;have K:=au (aA.o w1 HD.o.mod);clear aA
 gi_wp2_with fail
 refine⟨trivial,fun h=>(by cases h),?_⟩;refine(callsIn_wide.2 K.o).mono ?_;rintro e9 w2 ⟨A1,c1,rfl,hp⟩;have H5:=au (HD.o.fresh aO hp);have K2:=au (a8.o w2 H5.o.mod);clear K a8 HD hp t0 t1 t2 t3 t4 t5 t6 t7 t8 t9 ti tj;obtain⟨⟨t0,t1,t2,t3,t4,t5⟩,⟨t6,t7,t8,t9⟩,ti,tj⟩:=HC.o _ _ H5.o.kQ;dsimp only
 gi_wp2_with fail
 refine⟨trivial,fun h=>(by cases h),?_⟩;refine(callsIn_wide.2 K2.o).mono ?_;rintro e9 w3 ⟨A2,c2,rfl,hp⟩;have H6:=au ((H5.o.fresh aO hp).perm (by ac_rfl:_=aj (aj (jY A2 c2 vs) (aj (jY A1 c1 us) Z0)) (X 0)));clear K2 H5 hp t0 t1 t2 t3 t4 t5 t6 t7 t8 t9 ti tj;dsimp only
 have HC:=au (fun W (R:CH.aU) (h:aI F0 w0 (aj (aj (jY A2 c2 vs) (aj (jY A1 c1 us) Z0)) R) W)=>(show _/\TP W A1 us/\TP W A2 vs from by
  have h1:=HC.o W _ (h.perm (by ac_rfl:_=aj Z0 (aj (jY A2 c2 vs) (aj (jY A1 c1 us) R))));obtain⟨_,f1⟩:=h.assoc.fst;obtain⟨_,f2⟩:=h.assoc.drop.assoc.fst
  exact⟨h1,OJ f2,OJ f1⟩))
 generalize hZ:aj (jY A2 c2 vs) (aj (jY A1 c1 us) Z0)=Z at *
 have okW:Z.Ok:=by rw[<-hZ];exact aO
 clear hZ bf;have H7:=au (show aI F0 w0 (aj Z (X (0*vs.length))) w3 from by rw[sx];exact H6.o);clear H6;gi_wp2;gi_loopw [53] (fun i wr=>∃ k:Nat,k<=us.length/\i=.int .i64 k/\aI F0 w0 (aj Z (X (k*vs.length))) wr) (fun i _=>us.length-(intOf i).toNat)
 case atStart=>exact⟨0,fy _,rfl,H7.o⟩
 case round=>
  obtain⟨k,hk,rfl,hR⟩:=hrel;have HR:=au hR;clear H7 hR;by_cases ae:k<us.length
  ·obtain⟨b,o,hA,hc⟩:=(HC.o _ _ HR.o).2.1.at eL;obtain⟨r0,r1,r2⟩:=hc wr (fe _ _) k ae;rw[hA];have ai:=aD.o _ (gw ae);have a6:=au (show k+1<=us.length from ae);have HB:=au (fun j hj=>HA.o k j ae hj);have b0:(k:Int)<1000000:=by omega
   generalize us[k]=uk at *
   obtain⟨uw,ue,uc⟩:=uk;dsimp only at r0 r1 r2 ai;clear hc hA;have h6:=aH HR.o aO (l3 (bs uw) ue uc) 159;have H6:=au (show aI F0 w0 (aj (aj (av wr.heap.size (l3 (bs uw) ue uc) 159) Z) (X (k*vs.length+0))) _ from h6.perm (by rw[pk];ac_rfl));clear h6 HR hk;gi_wp2;generalize wr.alloc (.cells (l3 (bs uw) ue uc) 159)=w6 at *
   generalize wr.heap.size=g6 at *
   clear r0 r1 r2;gi_loopw [59] (fun i wr=>∃ j:Nat,j<=vs.length/\i=.int .i64 j/\aI F0 w0 (aj (aj (av g6 (l3 (bs uw) ue uc) 159) Z) (X (k*vs.length+j))) wr) (fun i _=>vs.length-(intOf i).toNat)
   case atStart=>exact⟨0,fy _,rfl,H6.o⟩
   case round=>
    clear H6;obtain⟨j,hj,rfl,hR⟩:=hrel;have HR:=au hR;clear hR;by_cases ak:j<vs.length
    ·obtain⟨b',o',hA,hc⟩:=(HC.o _ _ (HR.o.assoc.drop:aI F0 w0 (aj Z _) wr)).2.2.at eL;obtain⟨r0,r1,r2⟩:=hc _ (fe _ _) j ak;rw[hA];have a7:=ar.o _ (gw ak);have a0:=au (show j+1<=vs.length from ak);have bp:(j:Int)<1000000:=by omega
     have aa:=HB.o j ak;generalize vs[j]=vj at *
     obtain⟨vw,ve,vc⟩:=vj;dsimp only[vR] at r0 r1 r2 a7 aa;clear hc hA;have h8:=aH HR.o aO (l3 (bs vw) ve vc) 159;obtain⟨p0,p1,p2⟩:=fF h8;obtain⟨x0,x1,x2⟩:=fF (h8.drop.assoc:aI F0 w0 (aj (av g6 (l3 (bs uw) ue uc) 159) _) _);obtain⟨a1,aq,aw⟩:=fF (HR.o.assoc:aI F0 w0 (aj (av g6 (l3 (bs uw) ue uc) 159) _) _);have hw:=HY.o _ _ aa (aj (av g6 (l3 (bs uw) ue uc) 159) Z) aO _ h8.drop;simp only[Ev,jK] at hw;obtain⟨fn,tmps,assign,body,hy,hround⟩:=hw;have J:=au hround;have a3:=au h8;clear hround aa h8 HR hj HB;gi_wp2
     try rw[hy]
     refine⟨fun h=>(by cases h),?_⟩;refine J.o.mono ?_;rintro e W3 (⟨rfl,h3⟩|⟨rfl,h3⟩)
     ·have H9:=au h3;clear J h3 hy r0 r1 r2 p0 p1 p2 x0 x1 x2 a1 aq aw a3;gi_wp2
      go_roundw
      case rel=>exact⟨j+1,a0.o,by go_num,H9.o⟩
      case measure=>have:=a0.o;simp[intOf];omega
     ·have ad:=au (HF.o _ aO W3 (.inr h3));clear J h3 hy r0 r1 r2 p0 p1 p2 x0 x1 x2 a1 aq aw a3;gi_wp2;refine bodyPost_ret (results_none rfl _ _ _) rfl ?_;exact ad.o
    ·have H9:=au (show aI F0 w0 (aj Z (X ((k+1)*vs.length))) wr from by
      have e:j=vs.length:=by omega
      subst e;rw[li]
      exact HR.o.assoc.drop)
     clear HR;gi_wp2
     go_roundw
     case rel=>exact⟨k+1,a6.o,by go_num,H9.o⟩
     case measure=>have:=a6.o;simp[intOf];omega
  ·obtain rfl:k=us.length:=by omega
   have K:=au (a5.o wr HR.o.mod);obtain⟨-,⟨t6,-,t8,-⟩,-,-⟩:=(HC.o _ _ HR.o).1;clear a5 hk ae HA aD ar
   gi_wp2_with fail
   refine⟨trivial,fun h=>(by cases h),?_⟩;refine(callsIn_wide.2 K.o).mono ?_;rintro e9 w4 ⟨A3,c3,rfl,hp⟩;have H9:=au (HR.o.fresh aO hp);have K2:=au (az.o w4 H9.o.mod);clear K az HR hp t6 t8;obtain⟨-,⟨t6,-,t8,-⟩,-,-⟩:=(HC.o _ _ (H9.o.drop)).1;dsimp only
   gi_wp2_with fail
   refine⟨trivial,fun h=>(by cases h),?_⟩;refine(callsIn_wide.2 K2.o).mono ?_;rintro e9 w5 ⟨A4,c4,rfl,hp⟩;have M:=au ((H9.o.fresh aO hp).perm (by ac_rfl:_=aj (aj (gD A4 c4 q) (aj (gD A3 c3 p) Z)) (X (us.length*vs.length))));clear K2 H9 hp t6 t8;dsimp only;obtain⟨pb,po,rfl⟩:∃ b o,A3=some ⟨b,o,none⟩:=by
    obtain⟨_,f⟩:=M.o.assoc.drop.assoc.fst;obtain⟨b,o,e,-⟩:=fu.at (oN f) eL;exact⟨b,o,e⟩
   obtain⟨qb,qo,rfl⟩:∃ b o,A4=some ⟨b,o,none⟩:=by
    obtain⟨_,f⟩:=M.o.assoc.fst;obtain⟨b,o,e,-⟩:=fu.at (oN f) eL;exact⟨b,o,e⟩
   have HC:=au (fun W (R:CH.aU) (h:aI F0 w0 (aj (aj (gD (some ⟨qb,qo,none⟩) c4 q) (aj (gD (some ⟨pb,po,none⟩) c3 p) Z)) R) W)=>(show W.cell? ⟨b1,5,none⟩=some (.int .i64 T.ini)/\W.cell? ⟨pb,po,none⟩=some (.string (bs (ie p)))/\W.cell? ⟨qb,qo,none⟩=some (.string (bs (ie q))) from by
    obtain⟨_,f1⟩:=h.assoc.drop.assoc.fst;obtain⟨_,f2⟩:=h.assoc.fst
    exact⟨(HC.o W _ h.assoc.drop.assoc.drop).1.1.2.2.2.2.2,X9 (oN f1) eL,X9 (oN f2) eL⟩))
   generalize hZ:aj (gD (some ⟨qb,qo,none⟩) c4 q) (aj (gD (some ⟨pb,po,none⟩) c3 p) Z)=Y1 at *
   have af:Y1.Ok:=by rw[<-hZ];exact aO
   clear hZ okW
   iterate 17 gi_step
   rename_i Kj aE;have a4:∀ (W:World) (u2 u3 u4 u7 u8 u9 u10 u11 u12 u13 u14 u16 u18 u19 u20 u21 u22 u23 u24 u25 u26 u27 u28 u29 u30 u31 u32 u33 u34 u35 u36 u37 u38 u39 u40 u41 u42 u43 u44 u45 u46 u47 u48 u49 u50 u51 u52 u53 u54 u55 u56 u57 u58 u59 u60 u61 u62 u63 u64 u65 u66 u67 u68 u69 u70 u71 u72 u73 u74 u75 u76 u77 u78 u79 u80 u81 u82 u83 u84 u85 u86 u87 u88 u89 u90 u91 u92 u93 u94 u95 u96 u97 u98:Value),aI F0 w0 (aj Y1 (X (us.length*vs.length))) W->Kj { tmps:=#[.func (.yield lo) #[] #[],.pointer (some ⟨b1,0,none⟩),u2,u3,u4,.string (bs x),.string (bs y),u7,u8,u9,u10,u11,u12,u13,u14,.slice (some ⟨pb,po,none⟩) p.length c3,u16,.slice (some ⟨qb,qo,none⟩) q.length c4,u18,u19,u20,u21,u22,u23,u24,u25,u26,u27,u28,u29,u30,u31,u32,u33,u34,u35,u36,u37,u38,u39,u40,u41,u42,u43,u44,u45,u46,u47,u48,u49,u50,u51,u52,u53,u54,u55,u56,u57,u58,u59,u60,u61,u62,u63,u64,u65,u66,u67,u68,u69,u70,u71,u72,u73,u74,u75,u76,u77,u78,u79,u80,u81,u82,u83,u84,u85,u86,u87,u88,u89,u90,u91,u92,u93,u94,u95,u96,u97,u98,undef,undef,undef,undef,undef,undef,undef,undef,undef,undef,undef,undef,undef,undef,undef,undef,undef,undef,undef,undef,undef,undef,undef,undef,undef,undef,undef,undef,undef,undef,undef],defers:=[] } W:=by
    intro w5 u2 u3 u4 u7 u8 u9 u10 u11 u12 u13 u14 u16 u18 u19 u20 u21 u22 u23 u24 u25 u26 u27 u28 u29 u30 u31 u32 u33 u34 u35 u36 u37 u38 u39 u40 u41 u42 u43 u44 u45 u46 u47 u48 u49 u50 u51 u52 u53 u54 u55 u56 u57 u58 u59 u60 u61 u62 u63 u64 u65 u66 u67 u68 u69 u70 u71 u72 u73 u74 u75 u76 u77 u78 u79 u80 u81 u82 u83 u84 u85 u86 u87 u88 u89 u90 u91 u92 u93 u94 u95 u96 u97 u98 hR;have M:=au hR;refine aE _ _ ?_;clear aE Kj hR;refine wpIn_seq_k ?_;intro K1 ac;have cut:∀ (W:World) (u2 u3 u4 u7 u8 u9 u10 u11 u12 u13 u14 u16 u18 u19 u20 u21 u22 u23 u24 u25 u26 u27 u28 u29 u30 u31 u32 u33 u34 u35 u36 u37 u38 u39 u40 u41 u42 u43 u44 u45 u46 u47 u48 u49 u50 u51 u52 u53 u54 u55 u56 u57 u58 u59 u60 u61 u62 u63 u64 u65 u66 u67 u68 u69 u70 u71 u72 u73 u74 u75 u76 u77 u78 u79 u80 u81 u82 u83 u84 u85 u86 u87 u88 u89 u90 u91 u92 u93 u94 u95 u96 u97 u98 u99 u100 u101 u102 u103 u104 u105 u106 u107 u108 u109 u110 u111 u112 u113 u114 u115:Value),aI F0 w0 (aj Y1 (X (us.length*vs.length+if p.length=1 then 1 else 0))) W->K1 { tmps:=#[.func (.yield lo) #[] #[],.pointer (some ⟨b1,0,none⟩),u2,u3,u4,.string (bs x),.string (bs y),u7,u8,u9,u10,u11,u12,u13,u14,.slice (some ⟨pb,po,none⟩) p.length c3,u16,.slice (some ⟨qb,qo,none⟩) q.length c4,u18,u19,u20,u21,u22,u23,u24,u25,u26,u27,u28,u29,u30,u31,u32,u33,u34,u35,u36,u37,u38,u39,u40,u41,u42,u43,u44,u45,u46,u47,u48,u49,u50,u51,u52,u53,u54,u55,u56,u57,u58,u59,u60,u61,u62,u63,u64,u65,u66,u67,u68,u69,u70,u71,u72,u73,u74,u75,u76,u77,u78,u79,u80,u81,u82,u83,u84,u85,u86,u87,u88,u89,u90,u91,u92,u93,u94,u95,u96,u97,u98,u99,u100,u101,u102,u103,u104,u105,u106,u107,u108,u109,u110,u111,u112,u113,u114,u115,undef,undef,undef,undef,undef,undef,undef,undef,undef,undef,undef,undef,undef,undef],defers:=[] } W:=by
     intro W u2 u3 u4 u7 u8 u9 u10 u11 u12 u13 u14 u16 u18 u19 u20 u21 u22 u23 u24 u25 u26 u27 u28 u29 u30 u31 u32 u33 u34 u35 u36 u37 u38 u39 u40 u41 u42 u43 u44 u45 u46 u47 u48 u49 u50 u51 u52 u53 u54 u55 u56 u57 u58 u59 u60 u61 u62 u63 u64 u65 u66 u67 u68 u69 u70 u71 u72 u73 u74 u75 u76 u77 u78 u79 u80 u81 u82 u83 u84 u85 u86 u87 u88 u89 u90 u91 u92 u93 u94 u95 u96 u97 u98 u99 u100 u101 u102 u103 u104 u105 u106 u107 u108 u109 u110 u111 u112 u113 u114 u115 hR;have HR:=au hR;refine ac _ _ ?_;clear ac K1 H2 M hR;by_cases hq:q.length=1
     ·have t2:((q.length:Int)==1)=true:=by simp[hq]
      obtain⟨aa,ax⟩:=H3.o hq;clear hq;have bj:=au ax;clear ax;have bu:0<p.length:=by omega
      gi_wp2_with fail
      have I:=au (HR.o.drew aO);refine pq 10 (fun W=>W.cell? ⟨b1,5,none⟩=some (.int .i64 T.ini)/\W.cell? ⟨pb,po,none⟩=some (.string (bs (ie p)))/\W.cell? ⟨qb,qo,none⟩=some (.string (bs (ie q)))) rfl eQ eQ (fun _ _ _ _ h=>h) (HC.o _ _ I.o) ?_;have hw:=HY.o _ _ aa Y1 aO _ I.o;simp only[Ev,jK] at hw;obtain⟨fn,tmps,assign,body,hy,hround⟩:=hw;have J:=au hround;clear hround aa H3 H4 HY
      (repeat(first|refine Ww ?_|refine Wx ?_))
      refine Qp rfl gh (fun K hK=>?_)
      gi_wp2_with fail
      try rw[hy]
      refine⟨fun h=>(by cases h),?_⟩;refine J.o.mono ?_;rintro e W3 h3;have ap:=au (HF.o _ af W3 (h3.imp (fun h=>by rw[bj.o];exact h.2) (fun h=>h.2)));have ab:=h3.elim (fun h=>HC.o _ _ h.2) (fun h=>HC.o _ _ h.2);have ad:=au (show e=.returned (.bool true)\/e=.returned (.bool false) from h3.imp (fun h=>h.1) (fun h=>h.1));clear J I h3 hy HR;rcases ad.o with rfl|rfl
      all_goals
       dsimp only;refine hK.o _ _ ab ?_;clear hK ab;refine IY ?_;gi_wp2
       first|refine bodyPost_end (results_none rfl _ _ _) rfl ?_|refine bodyPost_ret (results_none rfl _ _ _) rfl ?_
       exact ap.o
     ·have t2:((q.length:Int)==1)=false:=by simp;omega
      have ap:=au (HF.o _ af W (.inl (by rw[H4.o hq];exact HR.o)));clear H3 H4 HR;gi_wp2
      first|refine bodyPost_end (results_none rfl _ _ _) rfl ?_|refine bodyPost_ret (results_none rfl _ _ _) rfl ?_
      exact ap.o
    by_cases hp:p.length=1
    ·have t1:((p.length:Int)==1)=true:=by simp[hp]
     have aa:=H2.o hp;have HP:=au hp;clear hp;have b4:0<q.length:=by omega
     have I:=au (M.o.drew aO);refine wpIn_seq (pq 14 (fun W=>W.cell? ⟨b1,5,none⟩=some (.int .i64 T.ini)/\W.cell? ⟨pb,po,none⟩=some (.string (bs (ie p)))/\W.cell? ⟨qb,qo,none⟩=some (.string (bs (ie q)))) rfl eQ eQ (fun _ _ _ _ h=>h) (HC.o _ _ I.o) ?_);have hw:=HY.o _ _ aa Y1 aO _ I.o;simp only[Ev,jK] at hw;obtain⟨fn,tmps,assign,body,hy,hround⟩:=hw;have J:=au hround;clear hround aa H2 H3 H4 HY M
     (repeat(first|refine Ww ?_|refine Wx ?_))
     refine Qp rfl gh (fun K hK=>?_)
     gi_wp2_with fail
     try rw[hy]
     refine⟨fun h=>(by cases h),?_⟩;refine J.o.mono ?_;rintro e W3 (⟨rfl,h3⟩|⟨rfl,h3⟩)
     ·have H9:=au h3;have ab:=HC.o _ _ h3;clear J I h3 hy;dsimp only;refine hK.o _ _ ab ?_;clear hK ab
      (repeat(first|refine Ww ?_|refine Wx ?_))
      refine IY ?_
      gi_wp2_with fail
      try apply cut
      try rw[if_pos HP.o]
      exact H9.o
     ·have ad:=au (HF.o _ af W3 (.inr h3));have ab:=HC.o _ _ h3;clear J I h3 hy cut;dsimp only;refine hK.o _ _ ab ?_;clear hK ab
      (repeat(first|refine Ww ?_|refine Wx ?_))
      refine IY ?_;gi_wp2;refine bodyPost_ret (results_none rfl _ _ _) rfl ?_;exact ad.o
    ·have t1:((p.length:Int)==1)=false:=by simp;omega
     have I:=au (M.o.drew aO);refine wpIn_seq (pq 14 (fun _=>True) rfl eQ eQ (fun _ _ _ _ h=>h) trivial ?_);clear H2 H3 H4 HY M
     (repeat(first|refine Ww ?_|refine Wx ?_))
     refine IY ?_
     gi_wp2_with fail
     try apply cut
     try rw[if_neg hp]
     exact I.o
   apply a4;exact M.o
end Go.Proofs.YtbioiclabmbedaaGreatDoor
namespace Go.CH.Sil
open Go.RowKit Go.CH.Scr Go.CH.dh Go.CH.Mtc
structure Mu where
 A:eV
 c:Nat
structure PL where
 p:Eg
 A:eV
 c:Nat
def sF(e:PL):List Value:=[.int .i64 e.p.kd,.int .i64 e.p.l,.int .i64 e.p.r,.int .i64 e.p.h,.slice e.A e.p.C.length e.c]
theorem MJ(e:PL):(sF e).length=5:=rfl
structure WL where
 i:Int
 j:Int
 h:Int
 ps:List PL
 A:eV
 c:Nat
def WL.m(e:WL):Wb:=⟨e.i,e.j,e.h,e.ps.map (·.p)⟩
def Jy(e:WL):Array Value:=(js e.i e.j e.h e.A e.ps.length e.c)
def mQ(e:WL):List Value:=[.int .i64 e.i,.int .i64 e.j,.int .i64 e.h,.slice e.A e.ps.length e.c]
theorem MK(e:WL):(mQ e).length=4:=rfl
end Go.CH.Sil
namespace Go.Proofs.YtbioiclabmbedaaGreatDoor
open Go.RowKit Go.CH Go.CH.Scr Go.CH.dh Go.CH.Mtc Go.CH.Sil
open Go.ChangeMaps (setBlock)
structure Rj(w:World)(A:eV)(l:List PL):Prop where
 row:sI sF 5 w A l
 all:∀ e ∈ l,zQ w e.A e.p.C
variable{w w':World}{A:eV}{c:Nat}{F:Nat->Prop}
theorem Rj.below{l:List PL}(h:Rj w A l)(hb:Below w.heap.size w w'):Rj w' A l:=⟨sI.below h.row hb,fun e he=>sI.below (h.all e he) hb⟩
structure B0(w:World)(A:eV)(l:List WL):Prop where
 row:sI mQ 4 w A l
 all:∀ e ∈ l,Rj w e.A e.ps
theorem B0.below{l:List WL}(h:B0 w A l)(hb:Below w.heap.size w w'):B0 w' A l:=⟨sI.below h.row hb,fun e he=>(h.all e he).below hb⟩
def E2(e:PL):CH.aU:=sP e.A e.c e.p.C
def zo(A:eV)(c:Nat)(l:List PL):CH.aU:=aj (aV 58 5 (.slice A l.length c) l.length (l.flatMap sF)) (aL (l.map E2))
theorem Rl{l:List PL}:(zo A c l).Ok:=aB dQ (lJ fun A hA=>by obtain⟨e,_,rfl⟩:=List.mem_map.1 hA;exact ug)
instance {A:eV} {c:Nat} {l:List PL}:(zo A c l).Ok:=Rl
def YU(e:WL):CH.aU:=zo e.A e.c e.ps
def zD(A:eV)(c:Nat)(l:List WL):CH.aU:=aj (aV 55 4 (.slice A l.length c) l.length (l.flatMap mQ)) (aL (l.map YU))
theorem X6{l:List WL}:(zD A c l).Ok:=aB dQ (lJ fun A hA=>by obtain⟨e,_,rfl⟩:=List.mem_map.1 hA;exact Rl)
instance {A:eV} {c:Nat} {l:List WL}:(zD A c l).Ok:=X6
theorem Et(l:List PL):∀ u ∈ l.flatMap sF,u.oneCell'=true:=by
 intro u hu;obtain⟨e,-,h⟩:=List.mem_flatMap.1 hu;simp only[sF,np,C3,or_false] at h;rcases h with rfl|rfl|rfl|rfl|rfl<;>rfl
theorem Eu(l:List WL):∀ u ∈ l.flatMap mQ,u.oneCell'=true:=by
 intro u hu;obtain⟨e,-,h⟩:=List.mem_flatMap.1 hu;simp only[mQ,np,C3,or_false] at h;rcases h with rfl|rfl|rfl|rfl<;>rfl
theorem Jp{α:Type}{O:α->CH.aU}{R:World->α->Prop}(h:∀ w F x,O x w F->R w x){w:World}:∀ {l:List α} {F:Nat->Prop},aL (l.map O) w F->∀ x ∈ l,R w x
 | [],_,_,x,hx=>by cases hx
 | y::l,F,hb,x,hx=>by
  obtain⟨F1,M,J,I,-,-⟩:=hb;rcases List.mem_cons.1 hx with rfl|hx
  ·exact h _ _ _ J
  ·exact Jp h I x hx
theorem aey{C:List Pt}(h:sP A c C w F):zQ w A C:=iK h (wC C)
theorem ae6{l:List PL}(h:zo A c l w F):Rj w A l:=by
 obtain⟨F1,F2,h1,h2,-,-⟩:=h;exact⟨iK h1 (Et l),Jp (R:=fun w (e:PL)=>zQ w e.A e.p.C) (fun _ _ _ h=>aey h) h2⟩
theorem ae7{l:List WL}(h:zD A c l w F):B0 w A l:=by
 obtain⟨F1,F2,h1,h2,-,-⟩:=h;exact⟨iK h1 (Eu l),Jp (R:=fun w (e:WL)=>Rj w e.A e.ps) (fun _ _ _ h=>ae6 h) h2⟩
structure SL where
 b:Int
 ws:List WL
 U:List Int
 V:List Int
 G:List Int
 A:eV
 c:Nat
 u:Mu
 v:Mu
 g:Mu
def SL.m(s:SL):Sl:=⟨s.b,s.ws.map WL.m,s.U,s.V,s.G⟩
def jh(s:SL):Array Value:=(fj s.b s.A s.ws.length s.c s.u.A s.U.length s.u.c s.v.A s.V.length s.v.c s.g.A s.G.length s.g.c)
structure SR(w:World)(s:SL):Prop where
 ws:B0 w s.A s.ws
 u:iJ w s.u.A s.U
 v:iJ w s.v.A s.V
 g:iJ w s.g.A s.G
theorem SR.below{s:SL}(h:SR w s)(hb:Below w.heap.size w w'):SR w' s:=⟨h.ws.below hb,h.u.below hb,h.v.below hb,h.g.below hb⟩
end Go.Proofs.YtbioiclabmbedaaGreatDoor
namespace Go.CH.Sil
open Go.RowKit Go.CH.Scr Go.CH.dh Go.CH.Mtc
structure MN(T:eW)(k k2 bd:Int)(ws:List Wy)(i0 j0 n:Nat)(z:WL):Prop where
 ri:z.i=i0
 rj:z.j=j0
 rh:z.h=ER T k k2 bd (ws.take n)
 rl:z.ps.length=n
 rp:∀ m (h:m<ws.length) (h':m<z.ps.length),AZ T k k2 bd ws[m] z.ps[m].p
theorem Ya(l:List Bs):(ie l).length<=l.flatten.length:=by
 cases l with
 | nil=>exact fy _
 | cons z l=>show z.length<=_;rw[FO,gj];omega
variable{T:eW}{k k2 bd:Int}{y:Bs}{ws:List Wy}{n j0 c:Nat}{e:PL}{A:eV}
theorem Ar{x:Bs}{w:Wy}(h:w ∈ eZ T k x k2 y)(hx:word k x=true)(hy:word k2 y=true):w.x.length<=x.length/\w.y.length<=y.length:=by
 have J:=Ya (raw k x);have I:=Ya (raw k2 y);rw[show(raw k x).flatten=x from uV hx] at J;rw[show(raw k2 y).flatten=y from uV hy] at I;rcases mF.1 h with⟨u,hu,v,M,rfl⟩|⟨-,rfl⟩|⟨-,rfl⟩
 ·exact⟨Cn hu,Cn M⟩
 ·exact⟨fL _,I⟩
 ·exact⟨J,fL _⟩
theorem Ub{x:Bs}(h:bI T=true):(eZ T k x k2 y).length<=2000:=by
 have M:=lN (k:=k) (x:=x) h;have J:=lN (k:=k2) (x:=y) h;have h3:(fq T k x).length*(fq T k2 y).length<=41*41:=sT M J;unfold eZ sN;rw[gj,gj,Go.Proofs.YtbioiclabmbedaaGreatDoor.mO];have I:∀ (p:Prop) [Decidable p] (w:Wy),(if p then [w] else []).length<=1:=fun p _ w=>by split<;>simp
 have:=I ((raw k x).length=1) ⟨2,-1,-1,T.ini,x,ie (raw k2 y)⟩;have:=I ((raw k2 y).length=1) ⟨3,-1,-1,T.ini,ie (raw k x),y⟩;omega
theorem Yb(M:0<=bd)(hw:∀ w ∈ ws,0<=w.c):0<=ER T k k2 bd ws/\ER T k k2 bd ws<=bd:=by
 unfold ER;obtain⟨h1,-,h⟩:=Cb (ws.map (pR T k k2 bd)) bd;refine⟨?_,h1⟩;rcases h with h|h
 ·omega
 ·obtain⟨w,I,J⟩:=List.mem_map.1 h;rw[<-J];have:=hw w I;unfold pR;split
  ·rename_i d hd;have:=(oI hd).1;omega
  ·exact M
theorem Uc(h:n<ws.length):ER T k k2 bd (ws.take (n+1))=min (ER T k k2 bd (ws.take n)) (pR T k k2 bd ws[n]):=by
 unfold ER;rw[kq h,kp,I3];rfl
theorem MN.next{M:Nat}{z:WL}(h:MN T k k2 bd ws M j0 n z)(hn:n<ws.length)(he:AZ T k k2 bd ws[n] e.p):
  MN T k k2 bd ws M j0 (n+1) ⟨z.i,z.j,min z.h (pR T k k2 bd ws[n]),z.ps++[e],A,c⟩:=by
 refine⟨h.ri,h.rj,by rw[Uc hn,h.rh],by simp[h.rl],fun m hm J=>?_⟩;by_cases I:m<z.ps.length
 ·show AZ T k k2 bd ws[m] (z.ps++[e])[m].p
  rw[O2 I];exact h.rp m hm I
 ·have hl:=h.rl;obtain rfl:m=n:=by simp at J;omega
  show AZ T k k2 bd ws[m] (z.ps++[e])[m].p
  rw[yW eL];simp[hl];exact he
end Go.CH.Sil
namespace Go.Proofs.YtbioiclabmbedaaGreatDoor
open Go.RowKit Go.CH Go.CH.Scr Go.CH.dh Go.CH.Mtc Go.CH.Sil
open Go.ChangeMaps (setBlock)
attribute [local go_sem] nF
instance {A:eV} {c:Nat} {l:List PL}:(zo A c l).Ok:=Rl
instance {g:Nat} {o:Obj}:(aX g o).Ok:=bg
instance {A:eV} {c:Nat} {l:List Int}:(bE A c l).Ok:=fC
instance {A:eV} {c:Nat} {C:List Pt}:(sP A c C).Ok:=ug
variable{F0 F:Nat->Prop}{w0 W w:World}{X:CH.aU}{A:eV}{c i0 j0 g n i j:Nat}{e:PL}{T:eW}{k k2 bd:Int}{ws:List Wy}
theorem _root_.Go.CH.aI.nm(h:aI F0 w0 X W):∃ W',W=W'/\aI F0 w0 X W':=⟨W,rfl,h⟩
theorem ady(w:World):bT w eR (zo none 0 []) w:=⟨fun _=>False,⟨fun _=>False,fun _=>False,gu w 58 5,fun _ h=>h,fun _ h=>h.elim,fun i=>by simp⟩,Mod.refl _ _,fun i hi=>.inl hi⟩
theorem Rm:eO Tryz.prog 53 58 (.agg (lR 0 0 0 0 none 0 0)) 5 56:=⟨Tryz.underlying53,by kernel_rfl,by decide,by decide⟩
instance {l:List PL}:(aL (l.map E2)).Ok:=lJ fun A hA=>by obtain ⟨e,_,rfl⟩:=List.mem_map.1 hA;exact ug
theorem abo{l:List PL}(h:aj (aV 58 5 (.slice A (l.length+1) c) (l.length+1) (l.flatMap sF++sF e)) (aj (sP e.A e.c e.p.C) (aL (l.map E2))) w F):zo A c (l++[e]) w F:=by
 unfold zo;rw[gj,uu,vq,kp];exact bD h (fun _ h=>h) (fun _ h=>yX h)
def Tl(w:World)(T:eW)(a b:aR)(bd:Int)(i j:Nat)(e:Ending)(w':World):Prop:=
 ∃ z:WL,e=.returned (.agg (Jy z))/\Dx T a b bd i j z.m/\bT w eR (zo z.A z.c z.ps) w'
def vm(T:eW)(k k2 bd:Int)(ws:List Wy)(i0 j0 g:Nat)(X:CH.aU)(n:Nat):CH.aU:=lW fun z:WL=>tu (MN T k k2 bd ws i0 j0 n z) (aj (av g (Jy z) 55) (aj (zo z.A z.c z.ps) X))
theorem Yc(hX:X.Ok):(vm T k k2 bd ws i0 j0 g X n).Ok:=bZ fun _=>gJ aO
instance {T:eW} {k k2 bd:Int} {ws:List Wy} {i0 j0 g:Nat} {X:CH.aU} [hX:X.Ok] {n:Nat}:(vm T k k2 bd ws i0 j0 g X n).Ok:=Yc hX
theorem Yd{R:CH.aU}(z:WL)(h1:MN T k k2 bd ws i0 j0 n z)(h:aI F0 w0 (aj (aj (av g (Jy z) 55) (aj (zo z.A z.c z.ps) X)) R) W):aI F0 w0 (aj (vm T k k2 bd ws i0 j0 g X n) R) W:=
 aI.nZ z (aI.iT h1 h)
theorem Ye{I J:Nat}{R:CH.aU}(h:aI F0 w0 (aj (vm T k k2 bd ws I J g X n) R) W):∃ z:WL,MN T k k2 bd ws I J n z/\aI F0 w0 (aj (av g (Jy z) 55) (aj (zo z.A z.c z.ps) (aj X R))) W:=by
 obtain⟨z,h⟩:=h.ex;obtain⟨M,h⟩:=h.pure;exact⟨z,M,h.perm (by ac_rfl)⟩
abbrev _root_.Go.oE(T:eW)(t:TA)(a:aR)(A:eV)(c:Nat)(b:aR)(B:eV)(d:Nat):Array Value:=sA t.A T.rs.length t.c t.D T.ds.length t.d t.E T.es.length t.e T.drop T.ord T.ini a.k A a.ws.length c b.k B b.ws.length d
theorem OP{t:TA}{a b:aR}{An Bn:eV}{ca cb:Nat}(hN:xm w T t a b An Bn)(a8:nO T a b=true)(hi:i<a.ws.length)(hj:j<b.ws.length)(h0:0<=bd)(bv:bd<=100000):
  Calls Tryz.prog 29 #[.agg (jS T t a b An Bn ca cb),.int .i64 (i:Int),.int .i64 (j:Int),.int .i64 bd] w (Tl w T a b bd i j):=by
 obtain⟨hv,ha,hb⟩:=dP.1 a8;have aw:=iW ha hi;have an:=iW hb hj;have h1:=aH (aI.begin w) aO (jS T t a b An Bn ca cb) 93;have h2:=aH h1 aO (fR bd) 3;have h3:=aH h2 aO (js 0 0 0 none 0 0) 55;have h4:=aH h3 aO (js (i:Int) (j:Int) bd none 0 0) 55;simp only[ik] at h4;have H4:=au h4;have KW:=au (fun W=>G7 (T:=T) (t:=t) (a:=a) (b:=b) (An:=An) (Bn:=Bn) (ca:=ca) (cb:=cb) i j W);have ag:=au (fun b1 b2 b3=>Ew (T:=T) (t:=t) (a:=a) (b:=b) (An:=An) (Bn:=Bn) (ca:=ca) (cb:=cb) (b1:=b1) (b2:=b2) (b3:=b3) a8 hi hj);obtain⟨ws,aa⟩:∃ ws,ws=eZ T a.k (wd a i) b.k (wd b j):=⟨_,rfl⟩;rw[<-aa] at ag;have bh:=au aa;have bx:(wd a i).length<=1000000:=by unfold wd;rw[ki,ic hi];exact hN.wa _ (gw hi)
 have bu:(wd b j).length<=1000000:=by unfold wd;rw[ki,ic hj];exact hN.wb _ (gw hj)
 have ab:∀ W,Mod eR w W->Below w.heap.size w W:=fun W hm=>hm.below (fun _ _ h=>h);have af:∀ z ∈ ws,z.x.length<=1000000/\z.y.length<=1000000:=fun z hz=>by
  have:=Ar (show z ∈ eZ T a.k (wd a i) b.k (wd b j) from aa ▸ hz) aw an;omega
 have KB:=au (fun W (hm:Mod eR w W) (z:Wy) (hz:z ∈ ws)=>uD (hN.ft.below (ab W hm)) (hN.fz.below (ab W hm)) a.k z.x b.k z.y (af z hz).1 (af z hz).2);have KM:=au (fun W (hm:Mod eR w W) (z:Wy) (hz:z ∈ ws) (az:Int)=>Va (hN.ft.below (ab W hm)) (hN.fz.below (ab W hm)) a.k z.x b.k z.y az (af z hz).1 (af z hz).2);have bp:=au (fun (z:Wy) (hz:z ∈ ws)=>(yF hv aw an (aa ▸ hz)).2)
 have bj:=au (fun (n:Nat) (y:WL) (hn:n<=ws.length) (hp:MN T a.k b.k bd ws i j n y)=>(show 0<=y.h/\y.h<=100000/\y.ps.length<=100000 from by
  have h3:=Yb (T:=T) (k:=a.k) (k2:=b.k) (bd:=bd) (ws:=ws.take n) h0 (fun w hw=>(yF hv aw an (aa ▸ xv hw)).2.1);have h4:=Ub (T:=T) (k:=a.k) (x:=wd a i) (k2:=b.k) (y:=wd b j) hv;rw[<-aa] at h4;have:=hp.rh;have:=hp.rl
  omega))
 have bb:=au (fun (z:Wy) (hz:0<=z.c)=>(show 0<=pR T a.k b.k bd z/\pR T a.k b.k bd z<=100000 from by
  unfold pR;split
  ·rename_i d hd;have:=(oI hd).1;omega
  ·omega))
 have bk:=au (fun W (hm:Mod eR w W)=>hN.below (hm.below (fun _ _ h=>h)));clear h1 h2 h3 h4 aa;unfold jS at H4 KW ag ⊢;refine(callsIn_wide (n:=8)).1 ?_;refine callsIn_of_wp_marks Tryz.func29 rfl trivial ?_ rfl;simp only[Tryz.ntmps29,pZ,jz,lL,Nat.reduceAdd,Nat.reduceSub,re,rk,ry,rq,me,pd];refine(wpIn_wide (n:=8)).2 ?_;go_upto_region 2 with (fail);obtain⟨w5,a6,h5⟩:=H4.o.nm;rw[a6];clear H4 a6;generalize w.heap.size+1+1+1=g9 at *
 generalize w.heap.size+1+1=g8 at *
 generalize w.heap.size+1=g7 at *
 generalize ba:w.heap.size=g4 at h5 ⊢;clear ba;have H5:=au h5;obtain⟨_,f4⟩:=h5.drop.drop.drop.fst;have n0:=ay (i:=0) f4 rfl;have n1:=ay (i:=1) f4 rfl;have n2:=ay (i:=2) f4 rfl;have n3:=ay (i:=3) f4 rfl;have n4:=ay (i:=4) f4 rfl;have n5:=ay (i:=5) f4 rfl;have n6:=ay (i:=6) f4 rfl;have n7:=ay (i:=7) f4 rfl;have n8:=ay (i:=8) f4 rfl;have n9:=ay (i:=9) f4 rfl;have a1:=au (KW.o w5);clear KW h5 f4;go_wp2_with fail;refine a1.o.mono ?_;rintro e9 w6 ⟨b1,b2,b3,rfl,hp⟩;have H6:=au (H5.o.fresh aO hp);clear a1 H5 hp n0 n1 n2 n3 n4 n5 n6 n7 n8 n9;dsimp only;go_wp2_with fail;have a4:=au (ag.o b1 b2 b3);clear ag;obtain⟨B,hB⟩:∃ B:CH.aU,B=aj (av g8 (js 0 0 0 none 0 0) 55) (aj (av g7 (fR bd) 3) (aj (av g4 (oE T t a An ca b Bn cb) 93) bG)):=⟨_,rfl⟩;have bf:B.Ok:=by rw[hB];exact aO
 have be:=au (show aI eR w (aj (Zs (oE T t a An ca b Bn cb) i j b1 b2 b3) (vm T a.k b.k bd ws i j g9 B 0)) w6 from
  (Yd ⟨i,j,bd,[],none,0⟩ ⟨rfl,rfl,rfl,rfl,fun _ _ h=>absurd h (oc _)⟩ ((H6.o.fresh aO (ady w6)).perm (by rw[hB];ac_rfl:_=aj (aj (av g9 (js (i:Int) (j:Int) bd none 0 0) 55) (aj (zo none 0 []) B)) (Zs (oE T t a An ca b Bn cb) i j b1 b2 b3)))).swap)
 have HB:=au (fun W (X:CH.aU) (h:aI eR w (aj B X) W)=>(show W.cell? ⟨g7,0,none⟩=some (.int .i64 bd)/\(l4 W g4 (.slice t.A T.rs.length t.c) (.slice t.D T.ds.length t.d) (.slice t.E T.es.length t.e) (.int .i64 T.drop) (.int .i64 T.ord) (.int .i64 T.ini))/\W.cell? ⟨g4,6,none⟩=some (.int .i64 a.k)/\W.cell? ⟨g4,8,none⟩=some (.int .i64 b.k) from by
  rw[hB] at h;obtain⟨_,f7⟩:=h.assoc.drop.assoc.fst;obtain⟨_,f4⟩:=h.assoc.drop.assoc.drop.assoc.fst
  exact⟨ay f7 rfl,⟨ay f4 rfl,ay f4 rfl,ay f4 rfl,ay f4 rfl,ay f4 rfl,ay f4 rfl⟩,ay f4 rfl,ay f4 rfl⟩))
 have bn:=au hB;clear H6 hB;have a9:∀ (n:Nat) (a':Act),((fun n a'=>lW fun g10:Nat=>lW fun z:Wy=>tu (ws[n]?=some z/\a'={ tmps:=#[.agg (oE T t a An ca b Bn cb),.int .i64 (i:Int),.int .i64 (j:Int),.int .i64 bd,.pointer (some ⟨g4,0,none⟩),undef,undef,.pointer (some ⟨g7,0,none⟩),.pointer (some ⟨g8,0,none⟩),.pointer (some ⟨g9,0,none⟩),.pointer (some ⟨g10,0,none⟩),undef,undef,undef,undef,undef,.int .i64 (i:Int),.int .i64 (j:Int),.int .i64 bd,.agg (js (i:Int) (j:Int) bd none 0 0),.agg (oE T t a An ca b Bn cb),.int .i64 (i:Int),.int .i64 (j:Int),B3 b1 b2 b3,.agg (jK z),undef,undef,undef,undef,undef,undef,undef,undef,undef,undef,undef,undef,undef,undef,undef,undef,undef,undef,undef,undef,undef,undef,undef,undef,undef,undef,undef,undef,undef,undef,undef,undef,undef,undef,undef,undef,undef,undef,undef,undef,undef,undef,undef,undef,undef,undef,undef,undef,undef,undef,undef,undef,undef,undef,undef,undef,undef,undef,undef,undef,undef,undef,undef,undef,undef,undef,undef,undef,undef,undef],defers:=[] }) (aj (av g10 (jK z) 137) (vm T a.k b.k bd ws i j g9 B n))) n a').Ok:=fun _ _=>bZ fun _=>bZ fun _=>gJ aO;refine pz (gf:=72) (lb:=(vA (some ⟨b1,0,none⟩) (some ⟨b2,0,none⟩) (some ⟨b3,0,none⟩))) rfl (enters_of Tryz.func72 eQ rfl) a4.o aO (fun _=>rfl) bk.o (fun n=>vm T a.k b.k bd ws i j g9 B n) (fun _=>wj) (fun n=>Yc bf) _ a9 (fun _=>FV) be.o ?_ ?_ ?_ ?_
 ·intro lo m n hn R' W1 K hR hI hK;have h3:=aH hI aO (jK ws[n]) 137;have HF:=au (hK { tmps:=#[.agg (oE T t a An ca b Bn cb),.int .i64 (i:Int),.int .i64 (j:Int),.int .i64 bd,.pointer (some ⟨g4,0,none⟩),undef,undef,.pointer (some ⟨g7,0,none⟩),.pointer (some ⟨g8,0,none⟩),.pointer (some ⟨g9,0,none⟩),.pointer (some ⟨W1.heap.size,0,none⟩),undef,undef,undef,undef,undef,.int .i64 (i:Int),.int .i64 (j:Int),.int .i64 bd,.agg (js (i:Int) (j:Int) bd none 0 0),.agg (oE T t a An ca b Bn cb),.int .i64 (i:Int),.int .i64 (j:Int),B3 b1 b2 b3,.agg (jK ws[n]),undef,undef,undef,undef,undef,undef,undef,undef,undef,undef,undef,undef,undef,undef,undef,undef,undef,undef,undef,undef,undef,undef,undef,undef,undef,undef,undef,undef,undef,undef,undef,undef,undef,undef,undef,undef,undef,undef,undef,undef,undef,undef,undef,undef,undef,undef,undef,undef,undef,undef,undef,undef,undef,undef,undef,undef,undef,undef,undef,undef,undef,undef,undef,undef,undef,undef,undef,undef,undef,undef],defers:=[] } (W1.alloc (.cells (jK ws[n]) 137)) (aI.nZ W1.heap.size (aI.nZ ws[n] (aI.iT ⟨ic hn,rfl⟩ (h3.perm (by ac_rfl))))));clear hI h3 hK;unfold Ev;generalize ws[n]=z at *
  obtain⟨I,zl,zr,zc,zx,zy⟩:=z;unfold jK at HF ⊢;dsimp only at HF ⊢;gi_wp2;exact HF.o
 ·intro lo m n hn a' R' W1 hR hI;obtain⟨g10,h1⟩:=hI.ex;obtain⟨z,h1⟩:=h1.ex;obtain⟨⟨aq,rfl⟩,h2⟩:=h1.pure;have al:ws[n]=z:=by rw[ic hn] at aq;injection aq
  have ae:z ∈ ws:=by rw[<-al];exact gw hn
  obtain⟨y,J,h3⟩:=Ye (h2.perm (by ac_rfl:_=aj (vm T a.k b.k bd ws i j g9 B n) (aj (av g10 (jK z) 137) R')))
  have ao:=au (fun (e:PL) (he:AZ T a.k b.k bd z e.p) (A:eV) (c:Nat)=>(show MN T a.k b.k bd ws i j (n+1) ⟨y.i,y.j,min y.h (pR T a.k b.k bd z),y.ps++[e],A,c⟩ from by
   have:=J.next hn (e:=e) (A:=A) (c:=c) (by rw[al];exact he)
   rw[al] at this;exact this))
  have bm:0<=y.h/\y.h<=100000/\y.ps.length<=100000:=bj.o n y eL J;have H3:=au (h3.perm (by ac_rfl:_=aj (av g10 (jK z) 137) (aj (av g9 (Jy y) 55) (aj B (aj (zo y.A y.c y.ps) R')))));have a7:=bp.o z ae;have ai:=au (KB.o W1 H3.o.mod z ae);have am:=au (fun W hm az=>KM.o W hm z ae az);clear hI h1 h2 h3 aq al ae hn J;obtain⟨I,zl,zr,zc,zx,zy⟩:=z;unfold jK Jy at H3;dsimp only at H3 a7 ai am ⊢;obtain⟨q0,q1,q2,q3,q4,q5⟩:=dW H3.o;obtain⟨x7,⟨t0,t1,t2,t3,t4,t5⟩,t6,t8⟩:=HB.o _ _ H3.o.drop.drop;refine wpIn_block (wpIn_seq (bR rfl (fun⟨a,w,h⟩=>h) ?_));go_wp2_with fail;refine wpIn_seq_k ?_;intro Kj ax;obtain⟨hh,ad⟩:∃ hh,hh=pR T a.k b.k bd ⟨I,zl,zr,zc,zx,zy⟩:=⟨_,rfl⟩;have HH:=au ad;have cut:∀ (W:World) (u12 u13 u24 u25 u26 u27 u28 u29 u30 u31 u32 u33 u34 u35 u36 u37 u38 u39 u40 u41 u42 u43 u44 u45 u46 u47 u48 u49 u50:Value),aI eR w (aj (av g10 (nt I zl zr (bs zx) (bs zy) zc) 137) (aj (av g9 (js y.i y.j y.h y.A y.ps.length y.c) 55) (aj B (aj (zo y.A y.c y.ps) R')))) W->Kj { tmps:=#[.agg (oE T t a An ca b Bn cb),.int .i64 (i:Int),.int .i64 (j:Int),.int .i64 bd,.pointer (some ⟨g4,0,none⟩),undef,undef,.pointer (some ⟨g7,0,none⟩),.pointer (some ⟨g8,0,none⟩),.pointer (some ⟨g9,0,none⟩),.pointer (some ⟨g10,0,none⟩),.int .i64 hh,u12,u13,undef,undef,.int .i64 (i:Int),.int .i64 (j:Int),.int .i64 bd,.agg (js (i:Int) (j:Int) bd none 0 0),.agg (oE T t a An ca b Bn cb),.int .i64 (i:Int),.int .i64 (j:Int),B3 b1 b2 b3,u24,u25,u26,u27,u28,u29,u30,u31,u32,u33,u34,u35,u36,u37,u38,u39,u40,u41,u42,u43,u44,u45,u46,u47,u48,u49,u50,undef,undef,undef,undef,undef,undef,undef,undef,undef,undef,undef,undef,undef,undef,undef,undef,undef,undef,undef,undef,undef,undef,undef,undef,undef,undef,undef,undef,undef,undef,undef,undef,undef,undef,undef,undef,undef,undef,undef,undef,undef,undef,undef,undef],defers:=[] } W:=by
   intro W u12 u13 u24 u25 u26 u27 u28 u29 u30 u31 u32 u33 u34 u35 u36 u37 u38 u39 u40 u41 u42 u43 u44 u45 u46 u47 u48 u49 u50 hR;have HR:=au hR;refine ax _ _ ?_;clear ax Kj hR ai H3 q0 q1 q2 q3 q4 q5 x7 t0 t1 t2 t3 t4 t5 t6 t8;have bo:=bb.o ⟨I,zl,zr,zc,zx,zy⟩ a7.1;rw[<-ad] at bo;clear ad;have tw:wrap64 (hh-zc)=hh-zc:=qk _ eL;have aD:=au (am.o W HR.o.mod (max 0 (hh-zc)));clear am;obtain⟨q0,q1,q2,q3,q4,q5⟩:=dW HR.o;obtain⟨x7,⟨t0,t1,t2,t3,t4,t5⟩,t6,t8⟩:=HB.o _ _ HR.o.drop.drop;refine wpIn_seq (bR rfl (fun⟨a,w,h⟩=>h) ?_);go_wp2_with fail;refine aD.o.mono ?_;rintro e9 w3 ⟨A3,c3,C,er,rfl,hmk,hp⟩;have a2:=au (show AZ T a.k b.k bd ⟨I,zl,zr,zc,zx,zy⟩ ⟨I,zl,zr,hh,C⟩ from⟨rfl,rfl,rfl,HH.o,er,hmk⟩);have H4:=au ((HR.o.fresh aO hp).perm (by ac_rfl:_=aj (av g9 (js y.i y.j y.h y.A y.ps.length y.c) 55) (aj (av g10 (nt I zl zr (bs zx) (bs zy) zc) 137) (aj (sP A3 c3 C) (aj B (aj (zo y.A y.c y.ps) R'))))));clear aD HR hp hmk q0 q1 q2 q3 q4 q5 x7 t0 t1 t2 t3 t4 t5 t6 t8;dsimp only;go_wp2_with fail;obtain⟨y0,y1,y2,y3,yf⟩:=bq H4.o;have H5:=au (show aI eR w (aj (av g9 (js y.i y.j (min y.h hh) y.A y.ps.length y.c) 55) _) _ from aJ H4.o aO 2 (.int .i64 (min y.h hh)));refine wpIn_seq (bR rfl (fun⟨a,w,h⟩=>h) ?_);go_wp2_with fail;clear H4 y0 y1 y2 y3 yf;generalize w3.setCell ⟨g9,2,none⟩ (.int .i64 (min y.h hh))=w4 at *
   obtain⟨y0,y1,y2,y3,yf⟩:=bq H5.o;obtain⟨q0,q1,q2,q3,q4,q5⟩:=dW H5.o.drop;have bw:=bm.2.2;refine bR rfl (fun⟨a,w,h⟩=>h) ?_;have H6:=au (aH H5.o aO (lR I zl zr hh A3 C.length c3) 58);go_wp2_with (at_builtin;refine held ?_);clear y0 y1 y2 y3 yf q0 q1 q2 q3 q4 q5 H5;generalize w4.alloc (.cells (lR I zl zr hh A3 C.length c3) 58)=w5 at *
   generalize w4.heap.size=ak at *
   obtain⟨_,f12⟩:=H6.o.fst;have aA:∀ (j:Nat) u,(sF ⟨⟨I,zl,zr,hh,C⟩,A3,c3⟩)[j]?=some u->w5.cell? ⟨ak,j,none⟩=some u:=fun j u hu=>ay f12 (by unfold sF at hu;simpa using hu);refine lO.mk (Br rfl Rm eS (.tmp 78) (.tmp 91) rfl (A:=y.A) (c:=y.c) (n:=y.ps.length) (g:=ak) (xs:=y.ps.flatMap sF) (cs:=sF ⟨⟨I,zl,zr,hh,C⟩,A3,c3⟩) rfl rfl eL aO (H6.o.perm (by unfold zo;ac_rfl:_=aj (aV 58 5 (.slice y.A y.ps.length y.c) y.ps.length (y.ps.flatMap sF)) (aj (av g9 (js y.i y.j (min y.h hh) y.A y.ps.length y.c) 55) (aj (aj (av g10 (nt I zl zr (bs zx) (bs zy) zc) 137) (av ak (lR I zl zr hh A3 C.length c3) 58)) (aj (sP A3 c3 C) (aj (aL (y.ps.map E2)) (aj B R'))))))) rfl (fun u hu=>Et [⟨⟨I,zl,zr,hh,C⟩,A3,c3⟩] u (by simpa using hu)) aA ?_);intro A9 c9 w6 a0;have h7:=a0.kQ;obtain⟨y0,y1,y2,y3,yf⟩:=bq h7;have h8:aI eR w (aj (av g9 (js y.i y.j (min y.h hh) A9 (y.ps.length+1) c9) 55) _) _:=aJ h7 aO 3 (.slice A9 (y.ps.length+1) c9)
   have HF:=au (show aI eR w (aj (vm T a.k b.k bd ws i j g9 B (n+1)) R') _ from
    Yd ⟨y.i,y.j,min y.h hh,y.ps++[⟨⟨I,zl,zr,hh,C⟩,A3,c3⟩],A9,c9⟩ (by rw[HH.o];exact ao.o _ (by rw[<-HH.o];exact a2.o) A9 c9)
     (((h8.perm (by ac_rfl:_=aj (aj (av g10 (nt I zl zr (bs zx) (bs zy) zc) 137) (av ak (lR I zl zr hh A3 C.length c3) 58)) (aj (aj (av g9 (js y.i y.j (min y.h hh) A9 (y.ps.length+1) c9) 55) (aj (aj (aV 58 5 (.slice A9 (y.ps.length+1) c9) (y.ps.length+1) (y.ps.flatMap sF++sF ⟨⟨I,zl,zr,hh,C⟩,A3,c3⟩)) (aj (sP A3 c3 C) (aL (y.ps.map E2)))) B)) R'))).drop).imp fun w F h=>bD h (fun _ h=>bD h (fun _ h=>by unfold Jy;rw[gj];exact h) (fun _ h=>bD h (fun _ h=>abo h) (fun _ h=>h))) (fun _ h=>h)))
   clear h7 h8 a0 H6 f12 aA a2 ao;go_wp2_with fail;exact HF.o
  clear ax;refine wpIn_seq (bR rfl (fun⟨a,w,h⟩=>h) ?_);go_wp2_with fail;refine ai.o.mono ?_;rintro e9 w3 ⟨d,er,A2,c2,B2,d2,rfl,hbp,hp⟩;have ar:=au (Gt hbp);have H4:=au (H3.o.fresh aO hp);clear ai H3 hp hbp q0 q1 q2 q3 q4 q5 x7 t0 t1 t2 t3 t4 t5 t6 t8 am ao;dsimp only;have H5:=au (aH H4.o aO (kh d.c A2 d.L.length c2 B2 d.M.length d2 (bs d.F)) 60);clear H4;go_wp2_with fail;generalize w3.alloc (.cells (kh d.c A2 d.L.length c2 B2 d.M.length d2 (bs d.F)) 60)=w4 at *
  generalize w3.heap.size=g11 at *
  rcases ar.o with⟨rfl,ac⟩|⟨aE,ac⟩
  ·have br:=oI ac;have ap:=au (show hh=min bd (d.c+zc) from by rw[HH.o];unfold pR;rw[ac]);clear ac ar ad HH;have tw:wrap64 (d.c+zc)=d.c+zc:=qk _ eL;obtain⟨e0,-⟩:=bq H5.o;obtain⟨-,-,-,-,-,q5⟩:=dW H5.o.drop.drop;have H6:=au (H5.o.drop.drop);clear H5;refine wpIn_seq (bR rfl (fun⟨a,w,h⟩=>h) ?_);go_wp2_with fail
   iterate 2 gi_step
   refine bR rfl (fun⟨a,w,h⟩=>h) ?_;go_wp2_with fail;rw[<-ap.o];apply cut;exact H6.o
  ·have t1:(er==0)=false:=by simp[aE]
   have ap:=au (show hh=bd from by rw[HH.o];unfold pR;rw[ac]);clear ac ar ad HH aE;have H6:=au (H5.o.drop.drop);clear H5;refine wpIn_seq (bR rfl (fun⟨a,w,h⟩=>h) ?_);go_wp2_with fail;gi_wp2;rw[ap.o] at cut;apply cut;exact H6.o
 ·intro D R W1 hR hI;obtain⟨y,J,h3⟩:=Ye hI
  have HW:=au (show Dx T a b bd i j y.m from by
   have hl:=J.rl;have hh:=J.rh;rw[kz] at hh;have hq:=bh.o;refine⟨J.ri,J.rj,by show y.h=_;rw[hh,hq];rfl,by show(y.ps.map _).length=_;rw[fY,hl,hq],fun m hm bc=>?_⟩;have a3:m<y.ps.length:=by have:m<(y.ps.map (·.p)).length:=bc;rw[fY] at this;exact this
   have:=J.rp m (by rw[hq];exact hm) a3;simp only[hq] at this;have e:(y.ps.map (fun x=>x.p))[m]'(by rw[fY];exact a3)=y.ps[m].p:=mx ..;rw[<-e] at this
   exact this)
  rw[bn.o] at h3;have H3:=au (h3.perm (by ac_rfl:_=aj (av g8 (js 0 0 0 none 0 0) 55) (aj (av g9 (Jy y) 55) (aj (aX D (.deferred (some []))) (aj (zo y.A y.c y.ps) (aj R (aj (av g7 (fR bd) 3) (aj (av g4 (oE T t a An ca b Bn cb) 93) bG))))))));clear hI h3 J;unfold Jy at H3;obtain⟨z0,z1,z2,z3,zf⟩:=bq H3.o;obtain⟨y0,y1,y2,y3,-⟩:=bq H3.o.drop;have h4:=uz H3.o aO (.int .i64 y.i) (.int .i64 y.j) (.int .i64 y.h) (.slice y.A y.ps.length y.c);have H4:=au (h4.perm (by ac_rfl:_=aj (aX D (.deferred (some []))) (aj (av g8 (js y.i y.j y.h y.A y.ps.length y.c) 55) (aj (zo y.A y.c y.ps) (aj (av g9 (js y.i y.j y.h y.A y.ps.length y.c) 55) (aj R (aj (av g7 (fR bd) 3) (aj (av g4 (oE T t a An ca b Bn cb) 93) bG))))))));clear h4;generalize w.heap.size=bz at *
  go_upto_region 11 with (fail);go_wp2_with fail;clear H3 z0 z1 z2 z3 zf y0 y1 y2 y3;generalize World.setCell _ _ _=W4 at *
  obtain⟨FD,hD,-,a5⟩:=H4.o.take bg aO;have HD:=au hD.1;have h8:=a5 _ _ (fK hD (.deferred none));obtain⟨_,f8⟩:=h8.drop.fst;have bi:=au f8.1;have HP:=au (h8.drop.drop.swap.drop.post aO);clear hD a5 h8 f8 H4;refine⟨by simp,.inl ⟨_,_,rfl,run_takeDeferred HD.o,?_⟩⟩;exact⟨_,results_cell_row rfl _ _ g8 55 _ (0,0) _ rfl bi.o Tryz.underlying55 rfl eQ,y,rfl,HW.o,HP.o⟩
 ·intro D c R W1 hR hI;exact hI.no.elim
variable{t:TA}{a b:aR}{An Bn:eV}{ca cb:Nat}
theorem rG(h:aI F0 w0 (aj (av g (jS T t a b An Bn ca cb) 93) X) W):
  (l4 W g (.slice t.A T.rs.length t.c) (.slice t.D T.ds.length t.d) (.slice t.E T.es.length t.e) (.int .i64 T.drop) (.int .i64 T.ord) (.int .i64 T.ini)) /\
  (De W g (.int .i64 a.k) (.slice An a.ws.length ca) (.int .i64 b.k) (.slice Bn b.ws.length cb)):=by
 obtain⟨_,f⟩:=h.fst;exact⟨⟨ay f rfl,ay f rfl,ay f rfl,ay f rfl,ay f rfl,ay f rfl⟩,ay f rfl,ay f rfl,ay f rfl,ay f rfl⟩
theorem Bt(hT:jV w T t)(hz:LZ w)(hA:fu w An a.ws)(hB:fu w Bn b.ws)(aa:a.ws.length<=1000000)(ab:b.ws.length<=1000000)(ac:∀ x ∈ a.ws,x.length<=1000000)(ae:∀ x ∈ b.ws,x.length<=1000000):
  Calls Tryz.prog 28 #[.agg (jS T t a b An Bn ca cb)] w (aT w (.bool (nO T a b))):=by
 have h1:=aH (aI.begin w) aO (jS T t a b An Bn ca cb) 93;have KV:=au (fun W (I:Below w.heap.size w W)=>mg (hT.below I) (hz.below I));have KA:=au (fun W (I:Below w.heap.size w W)=>jL (n:=a) (c:=ca) (aZ hA I) aa ac (hz.below I));have KB:=au (fun W (I:Below w.heap.size w W)=>jL (n:=b) (c:=cb) (aZ hB I) ab ae (hz.below I));have ag:nO T a b=(bI T&&(eY a&&eY b)):=rfl;have ad:=au ag;have af:=au (fun W X (h:aI eR w X W)=>(show Below w.heap.size w W from h.mod.below (fun _ _ h=>h)));obtain⟨w5,M,h5⟩:=h1.nm;obtain⟨⟨t0,t1,t2,t3,t4,t5⟩,t6,t7,t8,t9⟩:=rG h5;have J:=au (af.o _ _ h5);clear h1 h5 hT hz hA hB aa ab ac ae ag af;unfold jS at M ⊢;unfold dI dN at KV;unfold uU at KA KB;have HF:=au (fun (x:Bool) W (hx:x=(bI T&&(eY a&&eY b))) (I:Below w.heap.size w W)=>(show aT w (.bool (nO T a b)) (.returned (.bool x)) W from by rw[ad.o,hx];exact⟨rfl,I⟩));have K1:=au (KV.o w5 J.o);clear KV ad
 go_enter Tryz.func28,Tryz.ntmps28
 go_upto_region 1 with (fail)
 try rw[M]
 clear M;cases hv:bI T with
 | false=>
  rw[hv] at K1 HF;clear hv KA KB;go_wp2_with fail;refine K1.o.mono ?_;rintro e9 w6 ⟨rfl,I⟩;have H6:=au (aC J.o I);clear K1 t0 t1 t2 t3 t4 t5 t6 t7 t8 t9 I;dsimp only;go_wp2;go_ret;exact HF.o _ _ rfl H6.o
 | true=>
  rw[hv] at K1 HF;clear hv;go_wp2_with fail;refine K1.o.mono ?_;rintro e9 w6 ⟨rfl,I⟩;have HC:=au (fun W (h:Below w5.heap.size w5 W)=>(show(W.cell? _=_/\W.cell? _=_)/\W.cell? _=_/\W.cell? _=_ from⟨⟨aG t6 h,aG t7 h⟩,aG t8 h,aG t9 h⟩));have H6:=au I;have K2:=au (KA.o w6 (aC J.o I));obtain⟨⟨q6,q7⟩,q8,q9⟩:=HC.o w6 I;clear K1 KA t0 t1 t2 t3 t4 t5 t6 t7 t8 t9 I;dsimp only;cases ha:eY a with
  | false=>
   rw[ha] at K2 HF;clear ha KB;go_wp2_with fail;refine K2.o.mono ?_;rintro e9 w7 ⟨rfl,I⟩;have H7:=au (aC J.o (aC H6.o I));clear K2 q6 q7 q8 q9 I H6;dsimp only;go_wp2;go_ret;exact HF.o _ _ rfl H7.o
  | true=>
   rw[ha] at K2 HF;clear ha;go_wp2_with fail;refine K2.o.mono ?_;rintro e9 w7 ⟨rfl,I⟩;have H7:=au (aC H6.o I);have K3:=au (KB.o w7 (aC J.o H7.o));clear K2 KB q6 q7 q8 q9 I H6;obtain⟨⟨q6,q7⟩,q8,q9⟩:=HC.o w7 H7.o;dsimp only;go_wp2_with fail;refine K3.o.mono ?_;rintro e9 w8 ⟨rfl,I⟩;have H8:=au (aC J.o (aC H7.o I));clear K3 q6 q7 q8 q9 I H7;dsimp only;go_wp2;go_ret;exact HF.o _ _ rfl H8.o
theorem qB{nm:aR}(hT:jV w T t)(hz:LZ w)(hv:bI T=true)(hn:eY nm=true)(hA:fu w A nm.ws)(hw:∀ x ∈ nm.ws,x.length<=1000000):
  Calls Tryz.prog 30 #[.agg (jS T t a b An Bn ca cb),uU nm A c] w (fun e w'=>∃ I c',e=.returned (.slice I nm.ws.length c')/\bT w eR (bE I c' (dL T nm)) w'):=by
 obtain⟨ad,ag,am⟩:=aW.1 hn;have h1:=aH (aI.begin w) aO (jS T t a b An Bn ca cb) 93;have h2:=aH h1 aO (ff nm.k A nm.ws.length c) 28;rw[ik] at h2;obtain⟨b0,o0,rfl,ac⟩:=fu.at hA ag;have ab:=au (fun W X (h:aI eR w X W)=>(show Below w.heap.size w W from h.mod.below (fun _ _ h=>h)))
 have KD:=au (fun W (hb:Below w.heap.size w W) i (hi:i<nm.ws.length)=>(show Calls Tryz.prog 40 #[dI T t,.int .i64 nm.k,.string (bs nm.ws[i])] W (aT W (.tuple (tM (bQ T nm.k nm.ws[i]) 0))) from by
  have h:=yY (hT.below hb) (hz.below hb) nm.k nm.ws[i] (hw _ (gw hi));have e:pJ T nm.k nm.ws[i]=(bQ T nm.k nm.ws[i],0):=by unfold pJ;rw[ad _ (gw hi),hv];rfl
  rw[e] at h
  exact h))
 obtain⟨w5,aa,h5⟩:=h2.nm;have h6:=(h5.fresh aO (⟨fun _=>False,uy _,Mod.refl _ _,fun i hi=>.inl hi⟩:bT _ eR (bE none 0 []) _));obtain⟨X,hX⟩:∃ X:CH.aU,X=aj (av (w.heap.size+1) (ff nm.k (some ⟨b0,o0,none⟩) nm.ws.length c) 28) (aj (av w.heap.size (jS T t a b An Bn ca cb) 93) bG):=⟨_,rfl⟩;have al:X.Ok:=by rw[hX];exact aO
 rw[<-hX] at h6
 have HX:=au (fun W (Y:CH.aU) (h:aI eR w (aj Y X) W)=>(show((l4 W w.heap.size (.slice t.A T.rs.length t.c) (.slice t.D T.ds.length t.d) (.slice t.E T.es.length t.e) (.int .i64 T.drop) (.int .i64 T.ord) (.int .i64 T.ini))/\(mz W (w.heap.size+1) (.int .i64 nm.k) (.slice (some ⟨b0,o0,none⟩) nm.ws.length c)))/\∀ i (hi:i<nm.ws.length),W.cell? ⟨b0,o0+i,none⟩=some (.string (bs nm.ws[i])) from by
  rw[hX] at h;obtain⟨_,f⟩:=h.drop.fst
  exact⟨⟨(rG h.drop.drop).1,ay f rfl,ay f rfl⟩,fun i hi=>ac W (ab.o _ _ h) i hi⟩))
 have H6:=au h6;clear h1 h2 h5 h6 hT hz hv hn hA hw ac hX ad;unfold jS at aa ⊢;unfold uU;unfold dI dN at KD
 go_enter Tryz.func30,Tryz.ntmps30
 go_upto_region 1 with (fail)
 try rw[aa]
 clear aa;generalize w.heap.size+1=g3 at *
 generalize ai:w.heap.size=g2 at HX ⊢;clear ai;obtain⟨⟨⟨t0,t1,t2,t3,t4,t5⟩,t6,t7⟩,-⟩:=HX.o _ _ H6.o;go_wp2_with fail;clear t0 t1 t2 t3 t4 t5 t6 t7;go_loopw [5,13] (fun s5 M wr=>∃ (i:Nat) (I:eV) (c':Nat),M=.int .i64 i/\s5=.slice I i c'/\i<=nm.ws.length/\aI eR w (aj (bE I c' ((nm.ws.take i).map (bQ T nm.k))) X) wr) (fun _ M _=>nm.ws.length-(intOf M).toNat)
 case atStart=>exact⟨0,none,0,rfl,rfl,fy _,H6.o⟩
 case round=>
  obtain⟨i,I,c',rfl,rfl,hi,hR⟩:=hrel;have HR:=au hR;clear H6 hR;by_cases J:i<nm.ws.length
  ·have ak:(i:Int)<(nm.ws.length:Int):=by omega
   obtain⟨⟨⟨t0,t1,t2,t3,t4,t5⟩,t6,t7⟩,hc⟩:=HX.o _ _ HR.o;have hx:=hc i J;have K:=au (KD.o wr (ab.o _ _ HR.o) i J);have af:=au (show(nm.ws.take (i+1)).map (bQ T nm.k)=(nm.ws.take i).map (bQ T nm.k)++[bQ T nm.k nm.ws[i]] from by rw[kq J,kp];rfl);have ae:=au (show((nm.ws.take i).map (bQ T nm.k)).length=i from by rw[fY,kt];omega);clear hc;generalize nm.ws[i]=x at *
   generalize bQ T nm.k x=dx at *
   go_wp2_with fail;refine K.o.mono ?_;rintro e9 w7 ⟨rfl,hb⟩;have H7:=au (HR.o.below aO hb);clear K HR hb t0 t1 t2 t3 t4 t5 t6 t7 hx;dsimp only;have H8:=au ((aH H7.o aO (fR dx) 3).kQ);clear H7;go_wp2_with (at_builtin;refine held ?_);generalize w7.alloc (.cells (fR dx) 3)=w8 at *
   generalize w7.heap.size=g8 at *
   obtain⟨_,f8⟩:=H8.o.drop.fst;have y0:=ay (i:=0) f8 rfl;refine lO.mk (wpList_plain rfl fun _ hK=>NJ (.tmp 26) (.tmp 28) rfl (A:=I) (c:=c') (g:=g8) (l:=(nm.ws.take i).map (bQ T nm.k)) dx ae.o rfl rfl eL aO H8.o y0 (fun A2 c2 w9 h9=>hK _ _ ?_));have H9:=au (show aI eR w (aj (bE A2 c2 ((nm.ws.take (i+1)).map (bQ T nm.k))) X) w9 from by rw[af.o];exact(h9.kQ.drop));clear h9 H8 f8 y0;go_wp2_with fail
   go_roundw
   case rel=>exact⟨i+1,A2,c2,by go_num,rfl,J,H9.o⟩
   case measure=>simp[intOf];omega
  ·obtain rfl:i=nm.ws.length:=by omega
   have HP:=au (show bT w eR (bE I c' (dL T nm)) wr from by
    have h:=HR.o;rw[kz] at h
    exact(h.swap.drop).post aO)
   clear HR;go_wp2;go_ret;exact⟨I,c',rfl,HP.o⟩
end Go.Proofs.YtbioiclabmbedaaGreatDoor
namespace Go.CH.Sil
open Go.CH.Scr Go.CH.dh Go.CH.Mtc
def gM(f:Nat->Nat->Int)(m n i j:Nat):List (List Int):=(List.range n).map fun r=>(List.range (if r<i then m else if r=i then j else 0)).map (f r)
section
variable{f:Nat→Nat→Int}{m n i j:Nat}
theorem Rn:gM f m n 0 0=List.replicate n []:=by
 unfold gM;have:(fun r=>(List.range (if r<0 then m else if r=0 then 0 else 0)).map (f r))=fun _=>([]:List Int):=by
  funext r;rw[if_neg (oc _),ite_self];rfl
 rw[this,Lw,uv]
theorem Jq:(gM f m n i j).length=n:=by unfold gM;simp
theorem Jr{k:Nat}(h:k<(gM f m n i j).length):(gM f m n i j)[k]=(List.range (if k<i then m else if k=i then j else 0)).map (f k):=by simp[gM]
theorem Tr(h:i<(gM f m n i j).length):(gM f m n i j)[i]=(List.range j).map (f i):=by
 rw[Jr,if_neg (my _),if_pos rfl]
theorem Yf:(gM f m n i j).set i ((List.range j).map (f i)++[f i j])=gM f m n i (j+1):=by
 apply Kf
 ·simp[gM]
 ·intro k M J;rw[Kp,Jr,Jr];by_cases I:i=k
  ·subst I;rw[if_pos rfl,if_neg (my _),if_pos rfl,vu,kp];rfl
  ·rw[if_neg I];by_cases h:k<i
   ·rw[if_pos h,if_pos h]
   ·rw[if_neg h,if_neg h,if_neg (px I),if_neg (px I)]
theorem Yg:gM f m n (i+1) 0=gM f m n i m:=by
 unfold gM;refine nB fun k _=>?_;by_cases hk:k<i
 ·rw[if_pos hk,if_pos eL]
 ·rw[if_neg hk];by_cases h2:k=i
  ·rw[if_pos h2,if_pos eL]
  ·rw[if_neg h2,if_neg eL,ite_self]
theorem Yh:gM f m n n 0=cL f n m:=by
 unfold gM cL;exact nB fun k hk=>by rw[if_pos (List.mem_range.1 hk)]
end
end Go.CH.Sil
namespace Go.Proofs.YtbioiclabmbedaaGreatDoor
open Go.RowKit Go.CH Go.CH.Scr Go.CH.dh Go.CH.Mtc Go.CH.Sil
open Asn (aY dS fE uJ Vec ints cF lF mJ oC)
open Go.ChangeMaps (setBlock)
variable{F0 F:Nat->Prop}{w0 w W:World}{g c la lb d e:Nat}{t:TypeId}{X:CH.aU}{a1 a2 a3 v:Value}{T:eW}{a b:aR}{bd:Int}{es:List WL}{A B G:eV}{zs:List cu}{V:List (eV × Nat)}
theorem fU{J M:Value}(h:aI F0 w0 (aj (av g #[J,a1,a2,a3,M] t) X) w):
  w.cell? ⟨g,0,none⟩=some J/\w.cell? ⟨g,1,none⟩=some a1/\w.cell? ⟨g,2,none⟩=some a2/\w.cell? ⟨g,3,none⟩=some a3/\w.cell? ⟨g,4,none⟩=some M/\∀ i,w.frozen? ⟨g,i,none⟩=false:=by
 obtain⟨F,I⟩:=h.fst;exact⟨ay I rfl,ay I rfl,ay I rfl,ay I rfl,ay I rfl,aN I⟩
theorem uR{a0 I:Value}(h:aI F0 w0 (aj (av g #[a0,a1,a2,a3,I] t) X) w)(J:X.Ok)(b0 b1 b2 b3 M:Value):
  aI F0 w0 (aj (av g #[b0,b1,b2,b3,M] t) X) (((((w.setCell ⟨g,0,none⟩ b0).setCell ⟨g,1,none⟩ b1).setCell ⟨g,2,none⟩ b2).setCell ⟨g,3,none⟩ b3).setCell ⟨g,4,none⟩ M):=by
 have h0:aI F0 w0 (aj (av g #[b0,a1,a2,a3,I] t) X) _:=aJ h J 0 b0;have h1:aI F0 w0 (aj (av g #[b0,b1,a2,a3,I] t) X) _:=aJ h0 J 1 b1;have h2:aI F0 w0 (aj (av g #[b0,b1,b2,a3,I] t) X) _:=aJ h1 J 2 b2;have h3:aI F0 w0 (aj (av g #[b0,b1,b2,b3,I] t) X) _:=aJ h2 J 3 b3;exact aJ h3 J 4 M
theorem Ey{tmps:Array Value}{cs:Array Value}(h:tmps.getD 8 undef=.pointer (some ⟨g,0,none⟩))(M:cs.size=5)(J:w.heap[g]?=some (.cells cs 41))(I:tmps.getD 9 undef=v):(results Tryz.f13 tmps).run Tryz.prog w=.ok (.tuple #[.agg cs,v]) w:=by
 subst I;exact cZ rfl tmps w g 41 cs (0,0) h J Tryz.underlying41 (by rw[M];kernel_rfl)
def YV(s:SL):CH.aU:=aj (zD s.A s.c s.ws) (aj (aY s.u.A s.u.c s.U) (aj (aY s.v.A s.v.c s.V) (aY s.g.A s.g.c s.G)))
instance sl_ok {s:SL}:(YV s).Ok:=aB X6 (aB dS (aB dS dS))
theorem My{s:SL}(h:YV s w F):SR w s:=by
 obtain⟨_,_,h1,⟨_,_,h2,⟨_,_,h3,h4,-,-⟩,-,-⟩,-,-⟩:=h;exact⟨ae7 h1,fE h2,fE h3,fE h4⟩
def Ez(w:World)(T:eW)(a b:aR)(bd:Int)(e:Ending)(w':World):Prop:=
 ∃ (s:SL) (er:Int),e=.returned (.tuple #[.agg (jh s),.int .i64 er])/\iM T a b bd s.m er/\bT w eR (YV s) w'
def TC:SL:=⟨0,[],[],[],[],none,0,⟨none,0⟩,⟨none,0⟩,⟨none,0⟩⟩
theorem aeC(w:World):YV TC w eR:=
 have h:∀ {A B:CH.aU},A w eR->B w eR->aj A B w eR:=fun ha hb=>⟨_,_,ha,hb,fun _ h=>h.elim,fun _=>by simp⟩
 h (h (gu _ _ _) (fun _ h=>h)) (h (Asn.lH w) (h (Asn.lH w) (Asn.lH w)))
theorem Yi{er:Int}(h:iM T a b bd wA er)(hb:Below w.heap.size w W):Ez w T a b bd (.returned (.tuple #[.agg (fj 0 none 0 0 none 0 0 none 0 0 none 0 0),.int .i64 er])) W:=
 ⟨TC,er,rfl,h,fun _=>False,aeC W,Mod.of_below hb,fun _ h=>h.elim⟩
structure Ro(T:eW)(a b:aR)(bd:Int)(m n i j:Nat)(es:List WL)(zs:List cu):Prop where
 len:es.length=i*m+j
 ws:∀ k (h:k<es.length),Dx T a b bd (k / m) (k % m) es[k].m
 mat:zs.map (·.l)=gM (hM T a b bd) m n i j
def YW(T:eW)(a b:aR)(bd:Int)(m n g13 go i j:Nat):CH.aU:=lW fun es:List WL=>lW fun A:eV=>lW fun c:Nat=>lW fun zs:List cu=>tu (Ro T a b bd m n i j es zs) (aj (av g13 (fj bd A es.length c none 0 0 none 0 0 none 0 0) 41) (aj (zD A c es) (gy (some ⟨go,0,none⟩) n zs)))
instance {A:eV} {c:Nat} {l:List WL}:(zD A c l).Ok:=X6
instance {A:eV} {c:Nat} {l:List cu}:(gy A c l).Ok:=Ji
instance {l:List WL}:(aL (l.map YU)).Ok:=lJ fun A hA=>by obtain ⟨e,_,rfl⟩:=List.mem_map.1 hA;exact Rl
instance {l:List cu}:(aL (l.map cu.ow)).Ok:=lJ fun A hA=>by obtain ⟨e,_,rfl⟩:=List.mem_map.1 hA;exact dS
instance {A:eV} {c:Nat} {l:List Int}:(aY A c l).Ok:=dS
instance {T:eW} {a b:aR} {bd:Int} {m n g13 go i j:Nat}:(YW T a b bd m n g13 go i j).Ok:=bZ fun _=>bZ fun _=>bZ fun _=>bZ fun _=>gJ aO
section
variable{F0:Nat→Prop}{w0 W:World}{T:eW}{a b:aR}{bd:Int}{m n g13 go i j:Nat}{Y:CH.aU}
theorem OQ(h:aI F0 w0 (aj (YW T a b bd m n g13 go i j) Y) W):∃ (es:List WL) (A:eV) (c:Nat) (zs:List cu),Ro T a b bd m n i j es zs/\aI F0 w0 (aj (av g13 (fj bd A es.length c none 0 0 none 0 0 none 0 0) 41) (aj (zD A c es) (aj (gy (some ⟨go,0,none⟩) n zs) Y))) W:=by
 obtain⟨es,h⟩:=h.ex;obtain⟨A,h⟩:=h.ex;obtain⟨c,h⟩:=h.ex;obtain⟨zs,h⟩:=h.ex;obtain⟨I,h⟩:=h.pure;exact⟨es,A,c,zs,I,h.perm (by ac_rfl)⟩
theorem OT(I:Ro T a b bd m n i j es zs)(h:aI F0 w0 (aj (av g13 (fj bd A es.length c none 0 0 none 0 0 none 0 0) 41) (aj (zD A c es) (aj (gy (some ⟨go,0,none⟩) n zs) Y))) W):aI F0 w0 (aj (YW T a b bd m n g13 go i j) Y) W:=
 aI.nZ es (aI.nZ A (aI.nZ c (aI.nZ zs (aI.iT I (h.perm (by ac_rfl))))))
theorem Ro.row(h:Ro T a b bd m n i m es zs):Ro T a b bd m n (i+1) 0 es zs:=
 ⟨by rw[h.len,li];omega,h.ws,by rw[h.mat,Yg]⟩
theorem abq(h:aI F0 w0 (aj (YW T a b bd m n g13 go i m) Y) W):aI F0 w0 (aj (YW T a b bd m n g13 go (i+1) 0) Y) W:=by
 obtain⟨es,A,c,zs,hp,h⟩:=OQ h;exact OT hp.row h
theorem adA(w:World):bT w eR (zD none 0 []) w:=⟨fun _=>False,⟨fun _=>False,fun _=>False,gu w 55 4,fun _ h=>h,fun _ h=>h.elim,fun i=>by simp⟩,Mod.refl _ _,fun i hi=>.inl hi⟩
theorem abr{l:List WL}{e:WL}(h:aj (aV 55 4 (.slice A (l.length+1) c) (l.length+1) (l.flatMap mQ++mQ e)) (aj (zo e.A e.c e.ps) (aL (l.map YU))) w F):zD A c (l++[e]) w F:=by
 unfold zD;rw[gj,uu,vq,kp];exact bD h (fun _ h=>h) (fun _ h=>yX h)
theorem abt(hY:Y.Ok)(h:aI F0 w0 (aj (aV 39 1 (.slice (some ⟨go,0,none⟩) n n) n (List.replicate n (.slice none 0 0))) (aj (av g13 (fj bd none 0 0 none 0 0 none 0 0 none 0 0) 41) Y)) W):aI F0 w0 (aj (YW T a b bd m n g13 go 0 0) Y) W:=by
 have M:aI F0 w0 (aj (gy (some ⟨go,0,none⟩) n (List.replicate n ⟨[],none,0⟩)) (aj (av g13 (fj bd none 0 0 none 0 0 none 0 0 none 0 0) 41) Y)) W:=h.imp fun w F J=>bD J (fun _ h=>Eh h) (fun _ h=>h);have I:=M.fresh aO (adA W);refine OT (es:=[]) (A:=none) (c:=0) (zs:=List.replicate n ⟨[],none,0⟩) ⟨by simp,fun k h=>absurd h (oc _),by rw[Rn,FF]⟩ (I.perm (by ac_rfl))
theorem Ro.zl(h:Ro T a b bd m n i j es zs):zs.length=n:=by
 have:=congrArg List.length h.mat;rw[fY,Jq] at this;exact this
theorem Ro.at(h:Ro T a b bd m n i j es zs)(hi:i<zs.length):zs[i].l=(List.range j).map (hM T a b bd i):=by
 have I:(zs.map (·.l))[i]?=(gM (hM T a b bd) m n i j)[i]?:=by rw[h.mat]
 have hn:i<(gM (hM T a b bd) m n i j).length:=by rw[Jq,<-h.zl];exact hi
 rw[lB,ic hi,ic hn,Tr hn] at I;exact Option.some.inj I
theorem Ro.next{z:WL}(h:Ro T a b bd m n i j es zs)(hi:i<zs.length)(M:j<m)(hz:Dx T a b bd i j z.m):Ro T a b bd m n i (j+1) (es++[z]) (zs.set i ⟨zs[i].l++[z.h],A,c⟩):=by
 refine⟨by rw[gj,h.len];rfl,fun k hk=>?_,?_⟩
 ·by_cases I:k<es.length
  ·rw[O2 I];exact h.ws k I
  ·have hl:=h.len;have J:k=i*m+j:=by rw[gj,pD] at hk;omega
   rw[yW eL];have e1:k / m=i:=by rw[J,mC,Ln eL,GB M];omega
   have e2:k % m=j:=by rw[J,mC,Lq,GC M]
   rw[e1,e2];simpa using hz
 ·rw[vz,h.mat,h.at hi];have hh:z.h=hM T a b bd i j:=hz.rh;rw[hh];exact Yf
end
theorem aeD:eO Tryz.prog 38 55 (.agg (js 0 0 0 none 0 0)) 4 48:=⟨Tryz.underlying38,by kernel_rfl,by decide,by decide⟩
theorem MO(x y z:Int)(V:eV)(n c:Nat)(w:World):(Instr.buildSlice 38 1 #[(0,.agg (js x y z V n c))]).run Tryz.prog w=.ok (.slice (some ⟨w.heap.size,0,none⟩) 1 1) (w.alloc (.cells (js x y z V n c) 55)):=by go_simp
theorem adB(I:la=a.ws.length)(J:lb=b.ws.length)(M:nO T a b=true)(h0:0<=bd)(h1:bd<=100000)(h:uJ W A (hL T a b bd) V)(hD:iJ W B (dL T a))(hE:iJ W G (dL T b))(hd:la<=d):
  Calls Tryz.prog 27 #[.slice A la c,.slice B la d,.slice G lb e] W (fun en w'=>∃ k A1 n1 c1 A2 c2 A3 c3,en=.returned (.tuple #[.agg (gR k A1 n1 c1 A2 (qp (hL T a b bd) (dL T a) (dL T b)).us.length c2 A3 (qp (hL T a b bd) (dL T a) (dL T b)).vs.length c3),.int .i64 0])/\bT W eR (aj (aY A2 c2 (qp (hL T a b bd) (dL T a) (dL T b)).us) (aY A3 c3 (qp (hL T a b bd) (dL T a) (dL T b)).vs)) w'):=by
 subst I J;have hv:mJ (hL T a b bd) (dL T a) (dL T b)=true:=NV M fun i hi j hj=>IL M h0 h1 hi hj;have hl:(hL T a b bd).length=a.ws.length:=by simp[hL,cL]
 have I:(dL T a).length=a.ws.length:=by simp[dL]
 have J:(dL T b).length=b.ws.length:=by simp[dL]
 have hK:=Asn.uD (c:=c) (d:=d) (e:=e) h (by rw[hl];have:=(aW.1 (dP.1 M).2.1).2.2;simp only[maxLen];omega) hD hE (by rw[I];exact hd);rw[hl,I,J] at hK;refine hK.mono ?_;rintro en w' ⟨v,rfl,hb,hr⟩;rw[if_pos hv] at hr;obtain⟨A1,A2,A3,c1,c2,c3,rfl,-,-,-,hP⟩:=hr;exact⟨_,A1,_,c1,A2,c2,A3,c3,by rw[if_pos hv],hP⟩
theorem adC(I:la=a.ws.length)(J:lb=b.ws.length)(M:nO T a b=true)(h0:0<=bd)(h1:bd<=100000)(h:uJ W A (hL T a b bd) V)(hD:iJ W B (dL T a))(hE:iJ W G (dL T b)):
  Calls Tryz.prog 31 #[.slice A la c,.slice B la d,.slice G lb e] W (fun en w'=>∃ A1 c1,en=.returned (.tuple (pC A1 (oC (hL T a b bd) (dL T a) (dL T b)).length c1 0))/\bT W eR (aY A1 c1 (oC (hL T a b bd) (dL T a) (dL T b))) w'):=by
 subst I J;have hv:mJ (hL T a b bd) (dL T a) (dL T b)=true:=NV M fun i hi j hj=>IL M h0 h1 hi hj;have hl:(hL T a b bd).length=a.ws.length:=by simp[hL,cL]
 have I:(dL T a).length=a.ws.length:=by simp[dL]
 have J:(dL T b).length=b.ws.length:=by simp[dL]
 have hK:=Asn.TF (c:=c) (d:=d) (e:=e) h (by rw[hl];have:=(aW.1 (dP.1 M).2.1).2.2;simp only[maxLen];omega) hD hE;rw[hl,I,J] at hK;refine hK.mono ?_;rintro en w' ⟨v,rfl,hb,A1,c1,rfl,hr⟩;exact⟨A1,c1,by unfold Asn.L9;rw[if_pos hv],hr⟩
theorem Yj{A1 A2 A3 A4:eV}{c1 c2 c3 c4:Nat}(I:la=a.ws.length)(J:lb=b.ws.length)(M:nO T a b=true)(h0:0<=bd)(h1:bd<=100000)(h2:bd<=(fO T a b).c)(hs:Ro T a b bd lb la la 0 es zs)(h:aI eR w (aj (zD A1 c1 es) (aj (aj (aY A2 c2 (qp (hL T a b bd) (dL T a) (dL T b)).us) (aY A3 c3 (qp (hL T a b bd) (dL T a) (dL T b)).vs)) (aj (aY A4 c4 (oC (hL T a b bd) (dL T a) (dL T b))) X))) W):
  Ez w T a b bd (.returned (.tuple #[.agg (fj bd A1 es.length c1 A2 (qp (hL T a b bd) (dL T a) (dL T b)).us.length c2 A3 (qp (hL T a b bd) (dL T a) (dL T b)).vs.length c3 A4 (oC (hL T a b bd) (dL T a) (dL T b)).length c4),.int .i64 0])) W:=by
 subst I J;refine⟨⟨bd,es,_,_,_,A1,c1,⟨A2,c2⟩,⟨A3,c3⟩,⟨A4,c4⟩⟩,0,rfl,?_,(h.perm (by ac_rfl:_=aj X (aj (zD A1 c1 es) (aj (aY A2 c2 _) (aj (aY A3 c3 _) (aY A4 c4 _)))))).drop.post (sl_ok (s:=⟨bd,es,_,_,_,A1,c1,⟨A2,c2⟩,⟨A3,c3⟩,⟨A4,c4⟩⟩))⟩;have hl:=hs.len;refine iM.some M h0 h1 h2 (es.map WL.m) (by rw[fY,hl];rfl) fun k hk=>?_;rw[fY] at hk;rw[mx];exact hs.ws k hk
open Asn (aY dS fE uJ Vec ints cF lF mJ oC jI Ex WJ pE)
variable{a:Act}
theorem Ud{o:Oper}{x:Operand}(hop:o.op=.fieldAddr 41 x 1)(hx:a.eval x=.pointer (some ⟨g,0,none⟩)):(execOp a.eval o).run Tryz.prog w=.ok (.value (.pointer (some ⟨g,1,none⟩))) w:=by
 unfold execOp;simp only[hop,hx];go_simp
theorem pQ{t:TA}{a b:aR}{An Bn:eV}{ca cb:Nat}(hT:jV w T t)(hz:LZ w)(hA:fu w An a.ws)(hB:fu w Bn b.ws)(ag:a.ws.length<=1000000)(af:b.ws.length<=1000000)(a5:∀ x ∈ a.ws,x.length<=1000000)(a2:∀ x ∈ b.ws,x.length<=1000000)(bd:Int):
  Calls Tryz.prog 13 #[dI T t,uU a An ca,uU b Bn cb,.int .i64 bd] w (Ez w T a b bd):=by
 have h1:=aH (aI.begin w) aO (dN T t) 25;have h2:=aH h1 aO (ff a.k An a.ws.length ca) 28;have h3:=aH h2 aO (ff b.k Bn b.ws.length cb) 28;have h4:=aH h3 aO (fj 0 none 0 0 none 0 0 none 0 0 none 0 0) 41;have h5:=aH h4 aO (jS T t a b An Bn ca cb) 93;simp only[ik] at h5;have H5:=au h5;have ak:=au (fun W X (h:aI eR w X W)=>(show Below w.heap.size w W from h.mod.below (fun _ _ h=>h)));have KV:=au (fun W (J:Below w.heap.size w W)=>Bt (An:=An) (Bn:=Bn) (ca:=ca) (cb:=cb) (hT.below J) (hz.below J) (aZ hA J) (aZ hB J) ag af a5 a2);have KM:=au (fun W (J:Below w.heap.size w W)=>(Ej (ca:=ca) (cb:=cb) (hT.below J) (hz.below J) (aZ hA J) (aZ hB J) ag af a5 a2).mono fun e w' h=>G5 h);have HN:=au (fun (al:nO T a b=true) W (J:Below w.heap.size w W)=>(show xm W T t a b An Bn from⟨hT.below J,hz.below J,aZ hA J,aZ hB J,(aW.1 (dP.1 al).2.1).2.2,(aW.1 (dP.1 al).2.2).2.2,a5,a2⟩));have HE:=au (fun (er:Int) W (h:iM T a b bd wA er) (J:Below w.heap.size w W)=>Yi h J);clear h1 h2 h3 h4 h5 hT hz hA hB ag af a5 a2;unfold dI uU at *
 unfold dN jS at *
 go_enter Tryz.func13,Tryz.ntmps13
 go_upto_region 2 with (fail);obtain⟨w5,b2,h5⟩:=H5.o.nm;rw[b2];clear H5 b2;have H5:=au h5;clear h5;generalize w.heap.size+1+1+1+1=g10 at *
 generalize w.heap.size+1+1+1=g8 at *
 generalize w.heap.size+1+1=g6 at *
 generalize w.heap.size+1=g5 at *
 generalize co:w.heap.size=g4 at H5 ⊢;clear co;obtain⟨⟨n0,n1,n2,n3,n4,n5⟩,n6,n7,n8,n9⟩:=rG (T:=T) (t:=t) (a:=a) (b:=b) (An:=An) (Bn:=Bn) (ca:=ca) (cb:=cb) H5.o;have K1:=au (KV.o w5 (ak.o _ _ H5.o));clear KV;cases al:nO T a b with
 | false=>
  rw[al] at K1;have ap:=au (fun W J=>HE.o 1 W (.arg (.inl al)) J);clear HE HN al KM;go_wp2_with fail;refine K1.o.mono ?_;rintro e9 w6 ⟨rfl,J⟩;have H6:=au ((H5.o.below aO J).kQ);clear K1 H5 J n0 n1 n2 n3 n4 n5 n6 n7 n8 n9;dsimp only;obtain⟨z0,z1,z2,z3,z4,zf⟩:=fU H6.o;have H7:=au (uR H6.o aO (.int .i64 0) (.slice none 0 0) (.slice none 0 0) (.slice none 0 0) (.slice none 0 0));go_wp2;obtain⟨_,f8⟩:=H7.o.fst;refine bodyPost_ret (Ey rfl rfl f8.1 rfl) rfl ?_;exact ap.o _ (ak.o _ _ H7.o)
 | true=>
  rw[al] at K1;have ad:=au al;clear al;go_wp2_with fail;refine K1.o.mono ?_;rintro e9 w6 ⟨rfl,J⟩;have H6:=au (H5.o.below aO J);clear K1 H5 J n0 n1 n2 n3 n4 n5 n6 n7 n8 n9;dsimp only;by_cases an:bd<0\/100000<bd
  ·have ap:=au (fun W J=>HE.o 1 W (.arg (.inr an)) J);clear HE HN KM;have H7:=au (H6.o.kQ);clear H6;obtain⟨z0,z1,z2,z3,z4,zf⟩:=fU H7.o;have H8:=au (uR H7.o aO (.int .i64 0) (.slice none 0 0) (.slice none 0 0) (.slice none 0 0) (.slice none 0 0));by_cases cV:bd<0
   ·clear an;go_wp2;obtain⟨_,f8⟩:=H8.o.fst;refine bodyPost_ret (Ey rfl rfl f8.1 rfl) rfl ?_;exact ap.o _ (ak.o _ _ H8.o)
   ·have cW:100000<bd:=by omega
    clear an;go_wp2;obtain⟨_,f8⟩:=H8.o.fst;refine bodyPost_ret (Ey rfl rfl f8.1 rfl) rfl ?_;exact ap.o _ (ak.o _ _ H8.o)
  ·have g0:0<=bd:=by omega
   have g1:bd<=100000:=by omega
   have cR:¬ bd<0:=by omega
   have cN:¬ 100000<bd:=by omega
   have HG:=au (show 0<=bd/\bd<=100000 from⟨g0,g1⟩);have K2:=au (KM.o w6 (ak.o _ _ H6.o));clear KM an g0 g1;go_upto_region 4 with (fail);obtain⟨t0,t1,t2,t3,t4,t5⟩:=dW H6.o.drop.drop.drop.drop;obtain⟨s0,s1,-⟩:=bW H6.o.drop.drop.drop;obtain⟨q0,q1,-⟩:=bW H6.o.drop.drop;go_wp2_with fail;refine K2.o.mono ?_;rintro e9 w7 ⟨x,er,A,c,l,rfl,hmp,hl,hmr,J⟩;have H7:=au (H6.o.below aO J);clear K2 H6 J hmr hl t0 t1 t2 t3 t4 t5 s0 s1 q0 q1;have hx:x=fO T a b/\er=0:=by
    cases hmp with
    | arg h=>rw[ad.o] at h;cases h
    | some h=>exact⟨rfl,rfl⟩
   obtain⟨rfl,rfl⟩:=hx;clear hmp;dsimp only;have H8:=au (aH H7.o aO (jb (fO T a b).c (fO T a b).s A l.length c) 34);clear H7;go_upto_region 5 with (fail);generalize w7.alloc (.cells (jb (fO T a b).c (fO T a b).s A l.length c) 34)=w8 at *
   generalize w7.heap.size=g11 at *
   have HC:=au (show(fO T a b).c=(fO T a b).c from rfl);generalize b6:(fO T a b).c=bc at H8 ⊢;have bf:=au b6;clear b6 HC;obtain⟨y0,y1,y2⟩:=fF H8.o;by_cases ao:bc<bd
   ·have ap:=au (fun W J=>HE.o 11 W (.none ad.o HG.o.1 HG.o.2 (by rw[bf.o];exact ao)) J);clear HE HN;have H9:=au (H8.o.perm (by ac_rfl:_=aj (av g8 (fj 0 none 0 0 none 0 0 none 0 0 none 0 0) 41) (aj (av g11 _ 34) (aj (av g10 _ 93) (aj (av g6 _ 28) (aj (av g5 _ 28) (aj (av g4 _ 25) bG)))))));clear H8;obtain⟨z0,z1,z2,z3,z4,zf⟩:=fU H9.o;have aq:=au (uR H9.o aO (.int .i64 0) (.slice none 0 0) (.slice none 0 0) (.slice none 0 0) (.slice none 0 0));go_wp2;obtain⟨_,f8⟩:=aq.o.fst;refine bodyPost_ret (Ey rfl rfl f8.1 rfl) rfl ?_;exact ap.o _ (ak.o _ _ aq.o)
   ·have cm:=au (show bd<=(fO T a b).c from by rw[bf.o];omega);clear HE;go_upto_region 7 with (fail);have H9:=au (aH H8.o aO (fj bd none 0 0 none 0 0 none 0 0 none 0 0) 41);clear H8 y0 y1 y2 ao;go_upto_region 8 with (fail);generalize w8.alloc (.cells (fj bd none 0 0 none 0 0 none 0 0 none 0 0) 41)=w9 at *
    generalize w8.heap.size=g13 at *
    obtain⟨la,ag⟩:∃ la,la=a.ws.length:=⟨_,rfl⟩;obtain⟨lb,af⟩:∃ lb,lb=b.ws.length:=⟨_,rfl⟩;have HL:=au (show(la=a.ws.length/\lb=b.ws.length)/\la<=6/\lb<=6 from⟨⟨ag,af⟩,by rw[ag];exact(aW.1 (dP.1 ad.o).2.1).2.2,by rw[af];exact(aW.1 (dP.1 ad.o).2.2).2.2⟩);rw[<-ag,<-af] at H9 ⊢
    have KW:=au (fun W (J:Below w.heap.size w W) (i j:Nat) (hi:i<la) (hj:j<lb)=>(show Calls Tryz.prog 29 #[.agg (sA t.A T.rs.length t.c t.D T.ds.length t.d t.E T.es.length t.e T.drop T.ord T.ini a.k An la ca b.k Bn lb cb),.int .i64 (i:Int),.int .i64 (j:Int),.int .i64 bd] W (Tl W T a b bd i j) from by
     have:=OP (ca:=ca) (cb:=cb) (HN.o ad.o W J) ad.o (by rw[<-ag];exact hi) (by rw[<-af];exact hj) HG.o.1 HG.o.2;unfold jS at this;rw[<-ag,<-af] at this
     exact this))
    have KD:=au (fun W (J:Below w.heap.size w W)=>(show Calls Tryz.prog 30 #[.agg (sA t.A T.rs.length t.c t.D T.ds.length t.d t.E T.es.length t.e T.drop T.ord T.ini a.k An la ca b.k Bn lb cb),.agg (ff a.k An la ca)] W _/\Calls Tryz.prog 30 #[.agg (sA t.A T.rs.length t.c t.D T.ds.length t.d t.E T.es.length t.e T.drop T.ord T.ini a.k An la ca b.k Bn lb cb),.agg (ff b.k Bn lb cb)] W _ from by
     have hN:=HN.o ad.o W J;have hv:=dP.1 ad.o;have k1:=qB (a:=a) (b:=b) (An:=An) (Bn:=Bn) (ca:=ca) (cb:=cb) (c:=ca) hN.ft hN.fz hv.1 hv.2.1 hN.fa hN.wa;have k2:=qB (a:=a) (b:=b) (An:=An) (Bn:=Bn) (ca:=ca) (cb:=cb) (c:=cb) hN.ft hN.fz hv.1 hv.2.2 hN.fb hN.wb;unfold jS uU at k1 k2;rw[<-ag,<-af] at k1 k2
     exact⟨k1,k2⟩))
    have cP:la<=6:=HL.o.2.1;have cS:lb<=6:=HL.o.2.2;clear ag af HN;have aq:=au (H9.o.perm (by ac_rfl:_=aj (av g5 _ 28) (aj (av g6 _ 28) (aj (av g10 _ 93) (aj (av g13 _ 41) (aj (av g11 _ 34) (aj (av g8 _ 41) (aj (av g4 _ 25) bG))))))));clear H9;obtain⟨s0,s1,-⟩:=bW aq.o;go_wp2_with (refine Asn.qz rfl (.tmp 54) rfl la eL (by simp[Act.eval]) ?_;refine held ?_);refine lO.mk fun cY hP=>?_;rw[<-Asn.uN la (.slice none 0 0)] at hP;have b9:=aq.o.fresh aO hP;generalize w9.heap.size=go at *
    clear s0 s1 aq hP;obtain⟨B,hB⟩:∃ B:CH.aU,B=aj (av g5 (ff a.k An la ca) 28) (aj (av g6 (ff b.k Bn lb cb) 28) (aj (av g10 (sA t.A T.rs.length t.c t.D T.ds.length t.d t.E T.es.length t.e T.drop T.ord T.ini a.k An la ca b.k Bn lb cb) 93) (aj (av g11 (jb bc (fO T a b).s A l.length c) 34) (aj (av g8 (fj 0 none 0 0 none 0 0 none 0 0 none 0 0) 41) (aj (av g4 (kl T t) 25) bG))))):=⟨_,rfl⟩;have ct:B.Ok:=by rw[hB];exact aO
    have cf:=au (abt (T:=T) (a:=a) (b:=b) (bd:=bd) (m:=lb) (n:=la) (g13:=g13) (go:=go) ct (b9.perm (by rw[hB];ac_rfl:_=aj (aV 39 1 (.slice (some ⟨go,0,none⟩) la la) la (List.replicate la (.slice none 0 0))) (aj (av g13 (fj bd none 0 0 none 0 0 none 0 0 none 0 0) 41) B))))
    have HB:=au (fun W (X:CH.aU) (h:aI eR w (aj B X) W)=>(show(mz W g5 (.int .i64 a.k) (.slice An la ca))/\(mz W g6 (.int .i64 b.k) (.slice Bn lb cb))/\(l4 W g10 (.slice t.A T.rs.length t.c) (.slice t.D T.ds.length t.d) (.slice t.E T.es.length t.e) (.int .i64 T.drop) (.int .i64 T.ord) (.int .i64 T.ini))/\(De W g10 (.int .i64 a.k) (.slice An la ca) (.int .i64 b.k) (.slice Bn lb cb)) from by
     rw[hB] at h;obtain⟨_,f5⟩:=h.assoc.fst;obtain⟨_,f6⟩:=h.assoc.drop.assoc.fst;obtain⟨_,f4⟩:=h.assoc.drop.assoc.drop.assoc.fst
     exact⟨⟨ay f5 rfl,ay f5 rfl⟩,⟨ay f6 rfl,ay f6 rfl⟩,⟨ay f4 rfl,ay f4 rfl,ay f4 rfl,ay f4 rfl,ay f4 rfl,ay f4 rfl⟩,ay f4 rfl,ay f4 rfl,ay f4 rfl,ay f4 rfl⟩))
    have b0:=au hB;clear b9 hB bf;go_wp2_with fail;go_loopw [58] (fun kk wr=>∃ i:Nat,kk=.int .i64 i/\i<=la/\aI eR w (aj (YW T a b bd lb la g13 go i 0) B) wr) (fun kk _=>la-(intOf kk).toNat)
    case atStart=>exact⟨0,rfl,fy _,cf.o⟩
    case round=>
     obtain⟨i,rfl,hi,hR⟩:=hrel;have HR:=au hR;clear cf hR;by_cases ao:i<la
     ·obtain⟨-,⟨-,r1⟩,-⟩:=HB.o _ _ HR.o.swap;go_wp2_with fail;clear r1;go_loopw [64] (fun kk wr=>∃ j:Nat,kk=.int .i64 j/\j<=lb/\aI eR w (aj (YW T a b bd lb la g13 go i j) B) wr) (fun kk _=>lb-(intOf kk).toNat)
      case atStart=>exact⟨0,rfl,fy _,HR.o⟩
      case round=>
       obtain⟨j,rfl,hj,hR⟩:=hrel;have HR:=au hR;clear hR;by_cases aw:j<lb
       ·obtain⟨⟨r0,r1⟩,⟨r2,r3⟩,⟨c0,c1,c2,c3,c4,c5⟩,c6,c7,c8,c9⟩:=HB.o _ _ HR.o.swap;have K1:=au (KW.o wr (ak.o _ _ HR.o) i j ao aw);go_wp2_with fail;refine K1.o.mono ?_;rintro e9 b4 ⟨z,rfl,hz,hp⟩;have HZ:=au hz;have cg:=au (aH (HR.o.fresh aO hp) aO (Jy z) 55);clear K1 HR hz hp r0 r1 r2 r3 c0 c1 c2 c3 c4 c5 c6 c7 c8 c9;unfold Jy at *
        dsimp only;go_upto_region 16 with (fail);generalize b4.alloc (.cells (js z.i z.j z.h z.A z.ps.length z.c) 55)=b1 at *
        generalize b4.heap.size=aa at *
        obtain⟨es,A1,c1,zs,ai,bj⟩:=OQ (cg.o.perm (by ac_rfl:_=aj (YW T a b bd lb la g13 go i j) (aj (av aa (js z.i z.j z.h z.A z.ps.length z.c) 55) (aj (zo z.A z.c z.ps) B))));have ar:i<zs.length:=by rw[ai.zl];exact ao
        have b7:=au (fun A9 c9=>ai.next (A:=A9) (c:=c9) ar aw HZ.o);have ax:=au (show zs[i].l.length=j from by rw[ai.at ar];simp)
        have cn:=au (show es.length<=36 from by
         have:=ai.len;have:i*lb<=5*lb:=xy _ eL
         omega)
        obtain⟨az,-⟩:=y9 ar (bj.perm (by ac_rfl:_=aj (gy (some ⟨go,0,none⟩) la zs) (aj (av g13 (fj bd A1 es.length c1 none 0 0 none 0 0 none 0 0) 41) (aj (zD A1 c1 es) (aj (av aa (js z.i z.j z.h z.A z.ps.length z.c) 55) (aj (zo z.A z.c z.ps) B))))));have a9:=ai.zl;rw[a9] at az;have cx:=au a9
        have cJ:=au (show(zs.flatMap cu.cl)[i]?=some (.slice zs[i].A j zs[i].c) from by
         have:=jP (R:=cu.cl) (size:=1) (fun _=>rfl) ar (i:=0) eL;rw[Bi,pk] at this;rw[<-ax.o]
         exact this)
        have cc:=au (fun (A9:eV) (c9:Nat) (l9:List Int) (Y:CH.aU) W (h:aI eR w (aj (aY A9 c9 l9) (aj (aV 39 1 (.slice (some ⟨go,0,none⟩) zs.length la) zs.length (zs.flatMap cu.cl)) Y)) W)=>(show W.cell? ⟨go,i,none⟩=some (.slice zs[i].A j zs[i].c)/\W.frozen? ⟨go,i,none⟩=false from by
         have:=Cj ar h;rw[ax.o] at this
         exact this))
        have bo:(aj (aL (es.map YU)) (aj (aL ((zs.eraseIdx i).map cu.ow)) (aj (zo z.A z.c z.ps) B))).Ok:=aO;generalize zs[i].A=zA at *
        generalize zs[i].c=zc at *
        generalize zs[i].l=zl at *
        have cA:=au (show aY zA zc zl=(aV 3 1 (.slice zA j zc) j (ints zl)) from by unfold aY;rw[ax.o])
        have br:=au (fun (A2:eV) (c2:Nat) (B2:eV) (d2:Nat) W (h:aI eR w (aj (av g13 (fj bd A2 (es.length+1) c2 none 0 0 none 0 0 none 0 0) 41) (aj (aV 55 4 (.slice A2 (es.length+1) c2) (es.length+1) (es.flatMap mQ++mQ z)) (aj (aV 3 1 (.slice B2 (j+1) d2) (j+1) (ints zl++[.int .i64 z.h])) (aj (av aa (js z.i z.j z.h z.A z.ps.length z.c) 55) (aj (aV 39 1 (.slice (some ⟨go,0,none⟩) la la) la (zs.flatMap cu.cl)) (aj (aL (es.map YU)) (aj (aL ((zs.eraseIdx i).map cu.ow)) (aj (zo z.A z.c z.ps) B)))))))) W)=>(show(W.cell? ⟨go,i,none⟩=some (.slice zA j zc)/\W.frozen? ⟨go,i,none⟩=false)/\aI eR w (aj (YW T a b bd lb la g13 go i (j+1)) B) (W.setCell ⟨go,i,none⟩ (.slice B2 (j+1) d2)) from by
         have e1:(aV 3 1 (.slice B2 (j+1) d2) (j+1) (ints zl++[.int .i64 z.h]))=aY B2 d2 (zl++[z.h]):=by unfold aY ints;rw[gj,ax.o,kp];rfl
         rw[e1] at h;have h1:=h.perm (by rw[cx.o];ac_rfl:_=(aj (aY B2 d2 (zl++[z.h])) (aj (aV 39 1 (.slice (some ⟨go,0,none⟩) zs.length la) zs.length (zs.flatMap cu.cl)) (aj (aL ((zs.eraseIdx i).map cu.ow)) (aj (av g13 (fj bd A2 (es.length+1) c2 none 0 0 none 0 0 none 0 0) 41) (aj (aV 55 4 (.slice A2 (es.length+1) c2) (es.length+1) (es.flatMap mQ++mQ z)) (aj (av aa (js z.i z.j z.h z.A z.ps.length z.c) 55) (aj (aL (es.map YU)) (aj (zo z.A z.c z.ps) B)))))))));refine⟨cc.o _ _ _ _ _ h1,?_⟩;have h2:=Ci ar (n:=j+1) (by rw[gj,ax.o];rfl) aO h1;have h3:=h2.perm (by ac_rfl:_=aj (aj (aV 55 4 (.slice A2 (es.length+1) c2) (es.length+1) (es.flatMap mQ++mQ z)) (aj (zo z.A z.c z.ps) (aL (es.map YU)))) (aj (av aa (js z.i z.j z.h z.A z.ps.length z.c) 55) (aj (av g13 (fj bd A2 (es.length+1) c2 none 0 0 none 0 0 none 0 0) 41) (aj (gy (some ⟨go,0,none⟩) la (zs.set i ⟨zl++[z.h],B2,d2⟩)) B))));have h4:aI eR w (aj (zD A2 c2 (es++[z])) (aj (av aa (js z.i z.j z.h z.A z.ps.length z.c) 55) (aj (av g13 (fj bd A2 (es.length+1) c2 none 0 0 none 0 0 none 0 0) 41) (aj (gy (some ⟨go,0,none⟩) la (zs.set i ⟨zl++[z.h],B2,d2⟩)) B)))) _:=h3.imp fun w F h=>bD h (fun _ h=>abr h) (fun _ h=>h);have h5:=(h4.perm (by ac_rfl:_=aj (av aa (js z.i z.j z.h z.A z.ps.length z.c) 55) (aj (av g13 (fj bd A2 (es.length+1) c2 none 0 0 none 0 0 none 0 0) 41) (aj (zD A2 c2 (es++[z])) (aj (gy (some ⟨go,0,none⟩) la (zs.set i ⟨zl++[z.h],B2,d2⟩)) B))))).drop
         exact OT (b7.o B2 d2) (by rw[gj];exact h5)))
        clear b7 cc a9;rw[cA.o] at az;unfold zD at az;obtain⟨X,hX⟩:∃ X:CH.aU,X=aj (aL (es.map YU)) (aj (aL ((zs.eraseIdx i).map cu.ow)) (aj (zo z.A z.c z.ps) B)):=⟨_,rfl⟩;rw[<-hX] at bo;have bh:=au ((az.perm (by rw[hX];ac_rfl:_=aj (aj (aV 55 4 (.slice A1 es.length c1) es.length (es.flatMap mQ)) (aV 3 1 (.slice zA j zc) j (ints zl))) (aj (av g13 (fj bd A1 es.length c1 none 0 0 none 0 0 none 0 0) 41) (aj (av aa (js z.i z.j z.h z.A z.ps.length z.c) 55) (aj (aV 39 1 (.slice (some ⟨go,0,none⟩) la la) la (zs.flatMap cu.cl)) X))))).drew aO);have cD:=au hX;clear az hX bj cg ai HR;go_upto_region 16 with (fail);obtain⟨F,hF,am⟩:=bh.o.sub aO aO;have HF:=au hF;have cd:=au am;have be:=au (show ∀ (O:CH.aU) W,aI F b1.drew O W->aI eR w (aj (av g13 (fj bd A1 es.length c1 none 0 0 none 0 0 none 0 0) 41) (aj (av aa (js z.i z.j z.h z.A z.ps.length z.c) 55) (aj (aV 39 1 (.slice (some ⟨go,0,none⟩) la la) la (zs.flatMap cu.cl)) X))) W from fun O W h=>(am bG W aM ⟨⟨fun _=>False,fun _ h=>h,fun _ h=>h.elim⟩,h.mod⟩).drop);have ac:=au (be.o _ _ hF)
        have cq:=au (fun W (h:aI eR w (aj (av g13 (fj bd A1 es.length c1 none 0 0 none 0 0 none 0 0) 41) (aj (av aa (js z.i z.j z.h z.A z.ps.length z.c) 55) (aj (aV 39 1 (.slice (some ⟨go,0,none⟩) la la) la (zs.flatMap cu.cl)) X))) W)=>(show W.cell? ⟨go,i,none⟩=some (.slice zA j zc) from by
         obtain⟨_,f⟩:=h.drop.drop.fst
         exact nL f cJ.o))
        clear bh hF am;have cQ:(i:Int)<(la:Int):=by omega
        refine Bf 16 (fun w'=>aI eR w (aj (av g13 (fj bd A1 es.length c1 none 0 0 none 0 0 none 0 0) 41) (aj (av aa (js z.i z.j z.h z.A z.ps.length z.c) 55) (aj (aV 39 1 (.slice (some ⟨go,0,none⟩) la la) la (zs.flatMap cu.cl)) X))) w') rfl ?_;generalize b1.drew=da at *
        refine fZ (i:=0) (v:=.slice (some ⟨go,0,none⟩) la la) rfl eQ eQ eQ rfl (fun _ _ _ h=>h) (.inl ⟨rfl,fun w' I=>?_⟩) (fun _=>ac.o) ?_
        ·go_simp
        try simp only[Act.put,lw,k6,kO,ja,iz,i6]
        refine fZ (i:=1) (v:=.int .i64 i) rfl eQ eQ eQ rfl (fun _ _ _ h=>h) (.inl ⟨rfl,fun w' I=>?_⟩) (fun _=>ac.o) ?_
        ·go_simp
        try simp only[Act.put,lw,k6,kO,ja,iz,i6]
        refine fZ (i:=2) (v:=.pointer (some ⟨g13,1,none⟩)) rfl eQ eQ eQ rfl (fun _ _ _ h=>h) (.inl ⟨rfl,fun w' I=>?_⟩) (fun _=>ac.o) ?_
        ·go_simp
        try simp only[Act.put,lw,k6,kO,ja,iz,i6]
        refine nG (i:=3) (v:=.slice A1 es.length c1) rfl eQ eQ eQ eQ (fun _ _ _ h=>h) (.inl ⟨rfl,fun w' I=>?_⟩) ac.o ?_
        ·obtain⟨s0,s1,s2,s3,s4,-⟩:=fU I;clear I;go_simp
        try simp only[Act.put,lw,k6,kO,ja,iz,i6]
        refine nG (i:=4) (v:=.agg (js z.i z.j z.h z.A z.ps.length z.c)) rfl eQ eQ eQ eQ (fun _ _ _ h=>h) (.inl ⟨rfl,fun w' I=>?_⟩) ac.o ?_
        ·obtain⟨s0,s1,s2,s3,-⟩:=bq I.drop;clear I;go_simp
        try simp only[Act.put,lw,k6,kO,ja,iz,i6]
        refine fZ (i:=7) (v:=.slice (some ⟨go,0,none⟩) la la) rfl eQ eQ eQ rfl (fun _ _ _ h=>h) (.inl ⟨rfl,fun w' I=>?_⟩) (fun _=>ac.o) ?_
        ·go_simp
        try simp only[Act.put,lw,k6,kO,ja,iz,i6]
        refine fZ (i:=8) (v:=.int .i64 i) rfl eQ eQ eQ rfl (fun _ _ _ h=>h) (.inl ⟨rfl,fun w' I=>?_⟩) (fun _=>ac.o) ?_
        ·go_simp
        try simp only[Act.put,lw,k6,kO,ja,iz,i6]
        refine fZ (i:=9) (v:=.pointer (some ⟨go,i,none⟩)) rfl eQ eQ eQ rfl (fun _ _ _ h=>h) (.inl ⟨rfl,fun w' I=>?_⟩) (fun _=>ac.o) ?_
        ·go_simp
        try simp only[Act.put,lw,k6,kO,ja,iz,i6]
        refine yH [14] (i:=10) (v:=.slice zA j zc) rfl eQ eQ eQ eQ (fun _ _ _ h=>h) (.inl ⟨rfl,fun w' I=>?_⟩) ac.o ?_
        ·have s0:=cq.o _ I;clear I;go_simp
        try simp only[Act.put,lw,k6,kO,ja,iz,i6]
        refine fZ (i:=11) (v:=.pointer (some ⟨aa,2,none⟩)) rfl eQ eQ eQ rfl (fun _ _ _ h=>h) (.inl ⟨rfl,fun w' I=>?_⟩) (fun _=>ac.o) ?_
        ·go_simp
        try simp only[Act.put,lw,k6,kO,ja,iz,i6]
        refine yH [14,13] (i:=12) (v:=.int .i64 z.h) rfl eQ eQ eQ eQ (fun _ _ _ h=>h) (.inl ⟨rfl,fun w' I=>?_⟩) ac.o ?_
        ·obtain⟨s0,s1,s2,s3,-⟩:=bq I.drop;clear I;go_simp
        try simp only[Act.put,lw,k6,kO,ja,iz,i6]
        refine Bp [5,6,15] [13,14] (Uk 55 4 A1 c1 es.length (es.flatMap mQ) (mQ z) (.pointer (some ⟨g13,1,none⟩))) (Uk 3 1 zA zc j (ints zl) [.int .i64 z.h] undef) 3 eQ Jg Jg aM be.o ?_ ?_ ?_ (HF.o.perm (by rw[fG];rfl))
        ·intro i1 o1 vs us M ae cU Z W hZ hR;rcases vs with _|⟨v,_|⟨v2,_|⟨v3,vs⟩⟩⟩
         ·obtain rfl:5=i1:=by simpa using M
          simp only[mr,oS,oT,Option.some.injEq] at ae;subst ae;refine Cg hZ hR (fun w=>jI rfl ?_ (MO _ _ _ _ _ _ w))
          show(fW (fW _ [77,78,87] []) [85,86] us).eval (.tmp 76)=_
          rw[bH 76 [85,86] us _ eS,bH 76 [77,78,87] [] _ eS];rfl
         ·obtain rfl:6=i1:=by simpa using M
          simp only[mr,oS,oT,Option.some.injEq] at ae;subst ae;refine Ch aeD eS (.tmp 75) (.tmp 77) rfl hZ hR ?_ ?_ (by have:=cn.o;omega) rfl (fun y hy=>Eu [z] y (by simpa[mQ] using hy))
          ·show(fW (fW _ [77,78,87] [v]) [85,86] us).eval (.tmp 75)=_
           rw[bH 75 [85,86] us _ eS,bH 75 [77,78,87] [v] _ eS];rfl
          ·show(fW (fW _ [77,78,87] [v]) [85,86] us).eval (.tmp 77)=v
           rw[bH 77 [85,86] us _ eS];exact pE v (show 77<119 by decide)
         ·obtain rfl:15=i1:=by simpa using M
          simp only[mr,oS,oT,Option.some.injEq] at ae;subst ae;obtain⟨A3,hR⟩:=hR.ex;obtain⟨c3,hR⟩:=hR.ex;obtain⟨cr,hR⟩:=hR.pure;refine Asn.oJ (v:=.pointer (some ⟨g13,1,none⟩)) (w':=W) (Ud rfl ?_) ⟨_,rfl,aI.nZ A3 (aI.nZ c3 (aI.iT ⟨cr,rfl⟩ hR))⟩
          show(fW (fW _ [77,78,87] [v,v2]) [85,86] us).eval (.tmp 13)=_
          rw[bH 13 [85,86] us _ eS,bH 13 [77,78,87] [v,v2] _ eS];rfl
         ·simp at M
        ·intro i1 o1 vs us M ae cT Z W hZ hR;rcases us with _|⟨v,_|⟨v2,us⟩⟩
         ·obtain rfl:13=i1:=by simpa using M
          simp only[mr,oS,oT,Option.some.injEq] at ae;subst ae;refine Cg hZ hR (fun w=>jI rfl ?_ (uK z.h w))
          show(fW (fW _ [77,78,87] vs) [85,86] []).eval (.tmp 84)=_
          rw[bH 84 [85,86] [] _ eS,bH 84 [77,78,87] vs _ eS];rfl
         ·obtain rfl:14=i1:=by simpa using M
          simp only[mr,oS,oT,Option.some.injEq] at ae;subst ae;refine Ch VI eS (.tmp 82) (.tmp 85) rfl hZ hR ?_ ?_ eL rfl (fun y hy=>by simp at hy;subst hy;rfl)
          ·show(fW (fW _ [77,78,87] vs) [85,86] [v]).eval (.tmp 82)=_
           rw[bH 82 [85,86] [v] _ eS,bH 82 [77,78,87] vs _ eS];rfl
          ·show(fW (fW _ [77,78,87] vs) [85,86] [v]).eval (.tmp 85)=v
           exact pE v (by rw[oK];show 85<119;decide)
         ·simp at M
        intro vs us W hv hu hR;obtain⟨v1,v2,v3,rfl⟩:=WJ hv;obtain⟨v4,v5,rfl⟩:=Ex hu;obtain⟨A2,c2,B2,d2,rfl,rfl,rfl,-,-,cj⟩:=QW hR;have bm:=cd.o _ _ aO (cj.perm (fG _));clear hR hv hu cj;simp only[dV,lk,pL,mr,oS,oT,C2,C4,fW,Act.put,ja,iz,i6];have a8:=bm.perm (by rw[cD.o];ac_rfl:_=(aj (av g13 (fj bd A1 es.length c1 none 0 0 none 0 0 none 0 0) 41) (aj (aV 55 4 (.slice A2 (es.length+1) c2) (es.length+1) (es.flatMap mQ++mQ z)) (aj (aV 3 1 (.slice B2 (j+1) d2) (j+1) (ints zl++[.int .i64 z.h])) (aj (av aa (js z.i z.j z.h z.A z.ps.length z.c) 55) (aj (aV 39 1 (.slice (some ⟨go,0,none⟩) la la) la (zs.flatMap cu.cl)) (aj (aL (es.map YU)) (aj (aL ((zs.eraseIdx i).map cu.ow)) (aj (zo z.A z.c z.ps) B)))))))));obtain⟨s0,s1,s2,s3,s4,sf⟩:=fU a8;have ck:=au (show aI eR w (aj (av g13 (fj bd A2 (es.length+1) c2 none 0 0 none 0 0 none 0 0) 41) (aj (aV 55 4 (.slice A2 (es.length+1) c2) (es.length+1) (es.flatMap mQ++mQ z)) (aj (aV 3 1 (.slice B2 (j+1) d2) (j+1) (ints zl++[.int .i64 z.h])) (aj (av aa (js z.i z.j z.h z.A z.ps.length z.c) 55) (aj (aV 39 1 (.slice (some ⟨go,0,none⟩) la la) la (zs.flatMap cu.cl)) (aj (aL (es.map YU)) (aj (aL ((zs.eraseIdx i).map cu.ow)) (aj (zo z.A z.c z.ps) B)))))))) _ from aJ a8 aO 1 (.slice A2 (es.length+1) c2));clear be ac cd HF bm a8;refine mG (rs:=[16]) eQ eS (fun i1 M=>?_);obtain rfl:i1=16:=by simpa using M
        refine eB rfl rfl (Am fun K hK=>?_);clear M;go_wp2_with fail;refine hK.o _ _ ⟨fun h=>by simp at h,?_⟩;clear hK;generalize W.setCell ⟨g13,1,none⟩ (.slice A2 (es.length+1) c2)=W2 at *
        clear s0 s1 s2 s3 s4 sf;obtain⟨⟨s0,s1⟩,a6⟩:=br.o _ _ _ _ _ ck.o;have ce:=au a6;clear ck a6 br;refine mG (rs:=[17]) eQ eS (fun i1 M=>?_);obtain rfl:i1=17:=by simpa using M
        refine eB rfl rfl (Am fun K hK=>?_);clear M;go_wp2_with fail;refine hK.o _ _ ⟨fun h=>by simp at h,?_⟩;clear hK;refine mG (rs:=[18]) eQ eS (fun i1 M=>?_);obtain rfl:i1=18:=by simpa using M
        refine eB rfl rfl (Am fun K hK=>?_);clear M;go_wp2_with fail;refine hK.o _ _ ⟨fun h=>by simp at h,?_⟩;clear hK;refine Bc eQ ?_ _;generalize W2.setCell ⟨go,i,none⟩ (.slice B2 (j+1) d2)=W3 at *
        clear s0 s1;go_wp2_with fail
        go_roundw
        case rel=>exact⟨j+1,by go_num,aw,ce.o⟩
        case measure=>simp[intOf];omega
       ·obtain rfl:j=lb:=by omega
        have cp:=au (abq HR.o);clear HR;go_wp2_with fail
        go_roundw
        case rel=>exact⟨i+1,by go_num,ao,cp.o⟩
        case measure=>simp[intOf];omega
     ·obtain rfl:la=i:=by omega
      obtain⟨es,A1,c1,zs,ai,bz⟩:=OQ HR.o
      have bb:=au (fun W (Y:CH.aU) (h:aI eR w (aj (gy (some ⟨go,0,none⟩) la zs) Y) W)=>(show ∃ V',uJ W (some ⟨go,0,none⟩) (hL T a b bd) V' from by
       obtain⟨F,hF⟩:=h.fst;have bx:=Ef hF;have e:zs.map (·.l)=hL T a b bd:=by rw[ai.mat];unfold hL;rw[<-HL.o.1.1,<-HL.o.1.2];exact Yh
       rw[e] at bx
       exact⟨_,bx⟩))
      have b5:=au (fun A2 A3 A4 c2 c3 c4 X W h=>Yj (w:=w) (W:=W) (T:=T) (a:=a) (b:=b) (bd:=bd) (A1:=A1) (A2:=A2) (A3:=A3) (A4:=A4) (c1:=c1) (c2:=c2) (c3:=c3) (c4:=c4) (X:=X) HL.o.1.1 HL.o.1.2 ad.o HG.o.1 HG.o.2 cm.o ai h);have bk:=au (fun A5 A6 c5 c6 W V' (hm:uJ W (some ⟨go,0,none⟩) (hL T a b bd) V') (hD:iJ W A5 (dL T a)) (hE:iJ W A6 (dL T b)) (hd:la<=c5)=>adB (c:=la) (d:=c5) (e:=c6) HL.o.1.1 HL.o.1.2 ad.o HG.o.1 HG.o.2 hm hD hE hd);have bi:=au (fun A5 A6 c5 c6 W V' (hm:uJ W (some ⟨go,0,none⟩) (hL T a b bd) V') (hD:iJ W A5 (dL T a)) (hE:iJ W A6 (dL T b))=>adC (c:=la) (d:=c5) (e:=c6) HL.o.1.1 HL.o.1.2 ad.o HG.o.1 HG.o.2 hm hD hE);have cw:=au (show(dL T a).length=la from by rw[HL.o.1.1];simp[dL]);generalize (qp (hL T a b bd) (dL T a) (dL T b)).us=us at *
      generalize (qp (hL T a b bd) (dL T a) (dL T b)).vs=vs at *
      generalize oC (hL T a b bd) (dL T a) (dL T b)=gl at *
      have a1:=au ((bz.perm (by ac_rfl:_=(aj B (aj (gy (some ⟨go,0,none⟩) la zs) (aj (av g13 (fj bd A1 es.length c1 none 0 0 none 0 0 none 0 0) 41) (zD A1 c1 es)))))).drew aO);clear bz ai HR KW;go_upto_region 19 with (fail);have bw:=au (KD.o wr.drew (ak.o _ _ a1.o)).1;refine eD [2,5] [0,0,1,1,1,2,2,2] (fun W=>(mz W g5 (.int .i64 a.k) (.slice An la ca))/\(mz W g6 (.int .i64 b.k) (.slice Bn lb cb))/\(l4 W g10 (.slice t.A T.rs.length t.c) (.slice t.D T.ds.length t.d) (.slice t.E T.es.length t.e) (.int .i64 T.drop) (.int .i64 T.ord) (.int .i64 T.ini))/\(De W g10 (.int .i64 a.k) (.slice An la ca) (.int .i64 b.k) (.slice Bn lb cb))) [(fun W=>(mz W g5 (.int .i64 a.k) (.slice An la ca))/\(mz W g6 (.int .i64 b.k) (.slice Bn lb cb))/\(l4 W g10 (.slice t.A T.rs.length t.c) (.slice t.D T.ds.length t.d) (.slice t.E T.es.length t.e) (.int .i64 T.drop) (.int .i64 T.ord) (.int .i64 T.ini))/\(De W g10 (.int .i64 a.k) (.slice An la ca) (.int .i64 b.k) (.slice Bn lb cb))),(fun _=>True),(fun _=>True)] ⟨(fun _ h=>h),(fun _ _=>trivial),(fun _ h=>h),trivial⟩ eQ eQ eQ eQ (HB.o _ _ a1.o) ?_;generalize wr.drew=cX at *
      (repeat(first|refine eT ?_|refine eU ?_))
      refine bB rfl gh (fun K hK=>?_);go_wp2_with fail;refine bw.o.mono ?_;rintro e9 cH ⟨A5,c5,rfl,hp⟩;have a3:=au ((a1.o.fresh aO hp).perm (by ac_rfl:_=(aj B (aj (bE A5 c5 (dL T a)) (aj (gy (some ⟨go,0,none⟩) la zs) (aj (av g13 (fj bd A1 es.length c1 none 0 0 none 0 0 none 0 0) 41) (zD A1 c1 es)))))));have bv:=au (KD.o cH (ak.o _ _ a3.o)).2;clear bw KD a1 hp;dsimp only;refine hK.o _ _ (HB.o _ _ a3.o) ?_;clear hK
      (repeat(first|refine eT ?_|refine eU ?_))
      refine bB rfl gh (fun K hK=>?_);go_wp2_with fail;refine bv.o.mono ?_;rintro e9 cG ⟨A6,c6,rfl,hp⟩;have aA:=au ((a3.o.fresh aO hp).perm (by ac_rfl:_=(aj (gy (some ⟨go,0,none⟩) la zs) (aj (bE A5 c5 (dL T a)) (aj (bE A6 c6 (dL T b)) (aj (av g13 (fj bd A1 es.length c1 none 0 0 none 0 0 none 0 0) 41) (aj (zD A1 c1 es) B)))))));clear bv a3 hp;dsimp only;refine hK.o _ _ trivial ?_;clear hK
      (repeat(first|refine eT ?_|refine eU ?_))
      refine iV ?_;obtain⟨V9,hm⟩:=bb.o _ _ aA.o;obtain⟨_,f5⟩:=aA.o.drop.fst;obtain⟨_,f6⟩:=aA.o.drop.drop.fst;have b3:=au (bk.o A5 A6 c5 c6 cG V9 hm (fE f5) (fE f6) (by rw[<-cw.o];exact QZ f5));clear hm f5 f6 bk;go_wp2_with fail;refine b3.o.mono ?_;rintro e9 bu ⟨k9,A7,n7,c7,A2,c2,A3,c3,rfl,hp⟩;have b8:=au (aH (aA.o.fresh aO hp) aO (gR k9 A7 n7 c7 A2 us.length c2 A3 vs.length c3) 89);clear b3 aA hp;dsimp only;go_upto_region 21 with (fail);generalize bu.alloc (.cells (gR k9 A7 n7 c7 A2 us.length c2 A3 vs.length c3) 89)=cI at *
      generalize bu.heap.size=ab at *
      have a4:=au ((b8.o.perm (by ac_rfl:_=(aj (av g13 (fj bd A1 es.length c1 none 0 0 none 0 0 none 0 0) 41) (aj (av ab (gR k9 A7 n7 c7 A2 us.length c2 A3 vs.length c3) 89) (aj (gy (some ⟨go,0,none⟩) la zs) (aj (bE A5 c5 (dL T a)) (aj (bE A6 c6 (dL T b)) (aj (aj (aY A2 c2 us) (aY A3 c3 vs)) (aj (zD A1 c1 es) B))))))))).drew aO);clear b8
      have ba:=au (fun W (Y X:CH.aU) (h:aI eR w (aj Y (aj (av ab (gR k9 A7 n7 c7 A2 us.length c2 A3 vs.length c3) 89) X)) W)=>(show(fun W=>(nz W ab (.int .i64 k9) (.slice A7 n7 c7) (.slice A2 us.length c2) (.slice A3 vs.length c3))) W from by
       obtain⟨_,f⟩:=h.drop.fst
       exact⟨ay f rfl,ay f rfl,ay f rfl,ay f rfl⟩))
      refine eD [5,7] [0,0,1,1,0,1,1,2] (fun W=>(nz W ab (.int .i64 k9) (.slice A7 n7 c7) (.slice A2 us.length c2) (.slice A3 vs.length c3))) [(fun W=>(nz W ab (.int .i64 k9) (.slice A7 n7 c7) (.slice A2 us.length c2) (.slice A3 vs.length c3))),(fun _=>True),(fun _=>True)] ⟨(fun _ h=>h),(fun _ _=>trivial),(fun _ h=>h),trivial⟩ eQ eQ eQ eQ (ba.o _ _ _ a4.o) ?_;generalize cI.drew=cz at *
      obtain⟨z0,z1,z2,z3,z4,zf⟩:=fU a4.o;have a0:=au (show aI eR w (aj (av g13 (fj bd A1 es.length c1 A2 us.length c2 none 0 0 none 0 0) 41) (aj (av ab (gR k9 A7 n7 c7 A2 us.length c2 A3 vs.length c3) 89) (aj (gy (some ⟨go,0,none⟩) la zs) (aj (bE A5 c5 (dL T a)) (aj (bE A6 c6 (dL T b)) (aj (aj (aY A2 c2 us) (aY A3 c3 vs)) (aj (zD A1 c1 es) B))))))) _ from aJ a4.o aO 2 (.slice A2 us.length c2))
      (repeat(first|refine eT ?_|refine eU ?_))
      refine bB rfl gh (fun K hK=>?_);go_wp2_with fail;refine hK.o _ _ (ba.o _ _ _ a0.o) ?_;clear hK z0 z1 z2 z3 z4 zf a4;generalize cz.setCell ⟨g13,2,none⟩ (.slice A2 us.length c2)=cv at *
      obtain⟨z0,z1,z2,z3,z4,zf⟩:=fU a0.o;have ch:=au (show aI eR w (aj (av g13 (fj bd A1 es.length c1 A2 us.length c2 A3 vs.length c3 none 0 0) 41) (aj (av ab (gR k9 A7 n7 c7 A2 us.length c2 A3 vs.length c3) 89) (aj (gy (some ⟨go,0,none⟩) la zs) (aj (bE A5 c5 (dL T a)) (aj (bE A6 c6 (dL T b)) (aj (aj (aY A2 c2 us) (aY A3 c3 vs)) (aj (zD A1 c1 es) B))))))) _ from aJ a0.o aO 3 (.slice A3 vs.length c3))
      (repeat(first|refine eT ?_|refine eU ?_))
      refine bB rfl gh (fun K hK=>?_);go_wp2_with fail;refine hK.o _ _ trivial ?_;clear hK z0 z1 z2 z3 z4 zf a0;generalize cv.setCell ⟨g13,3,none⟩ (.slice A3 vs.length c3)=cE at *
      refine iV ?_;have aD:=au (ch.o.perm (by ac_rfl:_=(aj (gy (some ⟨go,0,none⟩) la zs) (aj (bE A5 c5 (dL T a)) (aj (bE A6 c6 (dL T b)) (aj (av ab (gR k9 A7 n7 c7 A2 us.length c2 A3 vs.length c3) 89) (aj (av g13 (fj bd A1 es.length c1 A2 us.length c2 A3 vs.length c3 none 0 0) 41) (aj (aj (aY A2 c2 us) (aY A3 c3 vs)) (aj (zD A1 c1 es) B)))))))));clear ch ba;obtain⟨V9,hm⟩:=bb.o _ _ aD.o;obtain⟨_,f5⟩:=aD.o.drop.fst;obtain⟨_,f6⟩:=aD.o.drop.drop.fst;have bn:=au (bi.o A5 A6 c5 c6 cE V9 hm (fE f5) (fE f6));clear hm f5 f6 bi bb;go_wp2_with fail;refine bn.o.mono ?_;rintro e9 cy ⟨A4,c4,rfl,hp⟩;have a7:=au ((aD.o.fresh aO hp).perm (by ac_rfl:_=(aj (av g13 (fj bd A1 es.length c1 A2 us.length c2 A3 vs.length c3 none 0 0) 41) (aj (aY A4 c4 gl) (aj (gy (some ⟨go,0,none⟩) la zs) (aj (bE A5 c5 (dL T a)) (aj (bE A6 c6 (dL T b)) (aj (av ab (gR k9 A7 n7 c7 A2 us.length c2 A3 vs.length c3) 89) (aj (aj (aY A2 c2 us) (aY A3 c3 vs)) (aj (zD A1 c1 es) B))))))))));clear bn aD hp;dsimp only;obtain⟨z0,z1,z2,z3,z4,zf⟩:=fU a7.o;have ci:=au (show aI eR w (aj (av g13 (fj bd A1 es.length c1 A2 us.length c2 A3 vs.length c3 A4 gl.length c4) 41) (aj (aY A4 c4 gl) (aj (gy (some ⟨go,0,none⟩) la zs) (aj (bE A5 c5 (dL T a)) (aj (bE A6 c6 (dL T b)) (aj (av ab (gR k9 A7 n7 c7 A2 us.length c2 A3 vs.length c3) 89) (aj (aj (aY A2 c2 us) (aY A3 c3 vs)) (aj (zD A1 c1 es) B)))))))) _ from aJ a7.o aO 4 (.slice A4 gl.length c4));go_upto_region 23 with (fail);generalize cy.setCell ⟨g13,4,none⟩ (.slice A4 gl.length c4)=db at *
      clear z0 z1 z2 z3 z4 zf a7;have aE:=au (ci.o.perm (by rw[b0.o];ac_rfl:_=aj (av g8 (fj 0 none 0 0 none 0 0 none 0 0 none 0 0) 41) (aj (av g13 (fj bd A1 es.length c1 A2 us.length c2 A3 vs.length c3 A4 gl.length c4) 41) (aj (aY A4 c4 gl) (aj (gy (some ⟨go,0,none⟩) la zs) (aj (bE A5 c5 (dL T a)) (aj (bE A6 c6 (dL T b)) (aj (av ab (gR k9 A7 n7 c7 A2 us.length c2 A3 vs.length c3) 89) (aj (aj (aY A2 c2 us) (aY A3 c3 vs)) (aj (zD A1 c1 es) (aj (av g5 (ff a.k An la ca) 28) (aj (av g6 (ff b.k Bn lb cb) 28) (aj (av g10 (sA t.A T.rs.length t.c t.D T.ds.length t.d t.E T.es.length t.e T.drop T.ord T.ini a.k An la ca b.k Bn lb cb) 93) (aj (av g11 (jb bc (fO T a b).s A l.length c) 34) (aj (av g4 (kl T t) 25) bG)))))))))))))));obtain⟨z0,z1,z2,z3,z4,zf⟩:=fU aE.o;obtain⟨y0,y1,y2,y3,y4,-⟩:=fU aE.o.drop;have bp:=au (uR aE.o aO (.int .i64 bd) (.slice A1 es.length c1) (.slice A2 us.length c2) (.slice A3 vs.length c3) (.slice A4 gl.length c4));clear ci aE HB b0;go_wp2;obtain⟨_,f8⟩:=bp.o.fst;refine bodyPost_ret (Ey rfl rfl f8.1 rfl) rfl ?_;exact b5.o A2 A3 A4 c2 c3 c4 _ _ (bp.o.perm (by ac_rfl:_=(aj (zD A1 c1 es) (aj (aj (aY A2 c2 us) (aY A3 c3 vs)) (aj (aY A4 c4 gl) (aj (av g8 (fj bd A1 es.length c1 A2 us.length c2 A3 vs.length c3 A4 gl.length c4) 41) (aj (av g13 (fj bd A1 es.length c1 A2 us.length c2 A3 vs.length c3 A4 gl.length c4) 41) (aj (gy (some ⟨go,0,none⟩) la zs) (aj (bE A5 c5 (dL T a)) (aj (bE A6 c6 (dL T b)) (aj (av ab (gR k9 A7 n7 c7 A2 us.length c2 A3 vs.length c3) 89) (aj (av g5 (ff a.k An la ca) 28) (aj (av g6 (ff b.k Bn lb cb) 28) (aj (av g10 (sA t.A T.rs.length t.c t.D T.ds.length t.d t.E T.es.length t.e T.drop T.ord T.ini a.k An la ca b.k Bn lb cb) 93) (aj (av g11 (jb bc (fO T a b).s A l.length c) 34) (aj (av g4 (kl T t) 25) bG))))))))))))))))
end Go.Proofs.YtbioiclabmbedaaGreatDoor
namespace Go.CH.Sil
open Go.RowKit Go.CH.Scr Go.CH.dh Go.CH.Mtc
def wh(T:eW)(k k2 h:Int)(y:Wy)(p:Eg):Prop:=
 (p.kd=y.kd/\p.l=y.l/\p.r=y.r)/\h<=p.h/\p.h<=100000/\jq T k y.x k2 y.y (p.h-y.c) p.C
end Go.CH.Sil
namespace Go.Proofs.YtbioiclabmbedaaGreatDoor
open Go.RowKit Go.CH Go.CH.Scr Go.CH.dh Go.CH.Mtc Go.CH.Sil
open Go.ChangeMaps (setBlock)
attribute [local go_sem] nF
theorem MP{α:Type}{R:α->List Value}{size:Nat}(h:∀ x,(R x).length=size):∀ (l:List α) (k:Nat),(l.flatMap R).drop (k*size)=(l.drop k).flatMap R
 | l,0=>by simp
 | [],k+1=>by simp
 | x::l,k+1=>by
  rw[mS,List.drop_succ_cons,<-MP h l k];have e:(k+1)*size=(R x).length+k*size:=by rw[h,li,vy]
  rw[e,List.drop_append];simp
variable{w w0 W:World}{A A':eV}{c g n c' M J i j:Nat}{T:eW}{k k2:Int}{ws:List Wy}{z:WL}{X:CH.aU}{F0:Nat->Prop}{a b:aR}
theorem abu{α:Type}{R:α->List Value}{size:Nat}(hR:∀ x,(R x).length=size){l:List α}{k:Nat}(h:sI R size w A l)(hk:k<=l.length)(hc:l.length<=c):sI R size w (oo A c k size) (l.drop k):=by
 unfold sI at h ⊢;have:=Src.cut h hk hc;rw[MP hR,<-k8] at this;exact this
theorem res32{tmps:Array Value}{b:Bool}(h:tmps.getD 8 undef=.pointer (some ⟨g,0,none⟩))(J:w.cell? ⟨g,0,none⟩=some (.bool b)):(results Tryz.f32 tmps).run Tryz.prog w=.ok (.bool b) w:=by
 have I:tmps[8]?.getD undef=.pointer (some ⟨g,0,none⟩):=by simpa using h
 have M:=uh (P:=Tryz.prog) w g 4 b J Tryz.underlying4;simp only[results,Tryz.results32];simp[j9,Result.andThen,I,asAddr,M]
structure vn(T:eW)(k k2:Int)(ws:List Wy)(w:World)(z:WL)(n:Nat)(A':eV)(c':Nat):Prop where
 le:n<=z.ps.length
 cap:z.ps.length-n<=c'
 rd:Rj w A' (z.ps.drop n)
 all:0<=z.h->∀ m (h:m<ws.length) (h':m<z.ps.length),m<n->wh T k k2 z.h ws[m] z.ps[m].p
theorem Rj.cut{l:List PL}{k:Nat}(h:Rj w A l)(hk:k<=l.length)(hc:l.length<=c):Rj w (oo A c k 5) (l.drop k):=
 ⟨abu MJ h.row hk hc,fun e he=>h.all e (zp he)⟩
theorem vn.next(h:vn T k k2 ws w z n A' c')(hn:n<ws.length)(hl:n<z.ps.length)(hw:0<=z.h->wh T k k2 z.h ws[n] z.ps[n].p):vn T k k2 ws w z (n+1) (oo A' c' 1 5) (c'-1):=by
 have hc:=h.cap;refine⟨hl,by omega,?_,fun M m hm I aa=>?_⟩
 ·have:=h.rd.cut (c:=c') (k:=1) (by rw[k8];omega) (by rw[k8];exact hc);rw[vb] at this;exact this
 ·by_cases J:m<n
  ·exact h.all M m hm I J
  ·obtain rfl:m=n:=by omega
   exact hw M
def xn(T:eW)(k k2:Int)(ws:List Wy)(w:World)(z:WL)(g9 g8:Nat)(X:CH.aU)(n:Nat):CH.aU:=lW fun A':eV=>lW fun c':Nat=>tu (vn T k k2 ws w z n A' c') (aj (av g9 (il A' (z.ps.length-n) c') 53) (aj (av g8 (gv false) 4) X))
instance {T:eW} {k k2:Int} {ws:List Wy} {w:World} {z:WL} {g9 g8:Nat} {X:CH.aU} [hX:X.Ok] {n:Nat}:(xn T k k2 ws w z g9 g8 X n).Ok:=bZ fun _=>bZ fun _=>gJ aO
def TE(q:Bool->Prop)(g8:Nat)(c:Code):CH.aU:=lW fun bb:Bool=>tu (c=.ret/\q bb) (av g8 (gv bb) 4)
theorem Yk{R:CH.aU}(h:aI F0 w0 (aj (xn T k k2 ws w z M J X n) R) W):∃ (I:eV) (c':Nat),vn T k k2 ws w z n I c'/\aI F0 w0 (aj (av M (il I (z.ps.length-n) c') 53) (aj (av J (gv false) 4) (aj X R))) W:=by
 obtain⟨I,h⟩:=h.ex;obtain⟨c',h⟩:=h.ex;obtain⟨h1,h⟩:=h.pure;exact⟨I,c',h1,h.perm (by ac_rfl)⟩
theorem Yl{R:CH.aU}{I:eV}(h1:vn T k k2 ws w z n I c')(h:aI F0 w0 (aj (av M (il I (z.ps.length-n) c') 53) (aj (av J (gv false) 4) (aj X R))) W):aI F0 w0 (aj (xn T k k2 ws w z M J X n) R) W:=
 aI.nZ I (aI.nZ c' (aI.iT h1 (h.perm (by ac_rfl))))
def Rp(w:World)(T:eW)(a b:aR)(i j:Nat)(z:Wb)(e:Ending)(w':World):Prop:=∃ bb:Bool,e=.returned (.bool bb)/\(bb=true↔Dy T a b i j z)/\Below w.heap.size w w'
theorem adD(h:vn T a.k b.k (eZ T a.k (wd a i) b.k (wd b j)) w z (eZ T a.k (wd a i) b.k (wd b j)).length A' c'){bb:Bool}(hb:bb=true↔z.ps.length-(eZ T a.k (wd a i) b.k (wd b j)).length=0/\z.i=i/\z.j=j/\0<=z.h):bb=true↔Dy T a b i j z.m:=by
 rw[hb];have hl:=h.le;constructor
 ·rintro⟨h1,h2,h3,h4⟩;refine⟨h2,h3,h4,by show(z.ps.map _).length=_;rw[fY];omega,fun m hm M=>?_⟩;have I:m<z.ps.length:=by have:m<(z.ps.map (·.p)).length:=M;rw[fY] at this;exact this
  have:=h.all h4 m hm I hm;have e:(z.ps.map (fun x=>x.p))[m]'(by rw[fY];exact I)=z.ps[m].p:=mx ..;unfold wh at this;rw[<-e] at this;exact this
 ·intro J;have:=J.len;have h6:(z.ps.map (·.p)).length=_:=this;rw[fY] at h6;exact⟨by omega,J.ri,J.rj,J.rh⟩
theorem aeE(hn:n<(eZ T a.k (wd a i) b.k (wd b j)).length)(h:∀ I:n<z.ps.length,0<=z.h->¬ wh T a.k b.k z.h (eZ T a.k (wd a i) b.k (wd b j))[n] z.ps[n].p):¬ Dy T a b i j z.m:=by
 intro J;have h6:(z.ps.map (·.p)).length=_:=J.len;have I:n<z.ps.length:=by rw[fY] at h6;omega
 have M:n<z.m.ps.length:=by show n<(z.ps.map _).length;rw[fY];exact I
 have:=J.ps n hn M;have e:(z.ps.map (fun x=>x.p))[n]'(by rw[fY];exact I)=z.ps[n].p:=mx ..;refine h I J.rh ?_;unfold wh;rw[<-e];exact this
theorem Js{t:TA}{An Bn:eV}{ca cb:Nat}(hN:xm w T t a b An Bn)(a2:nO T a b=true)(hi:i<a.ws.length)(hj:j<b.ws.length)(hz:Rj w z.A z.ps)(aA:z.ps.length<=z.c)(a8:z.ps.length<=1000000)(aE:∀ e ∈ z.ps,e.p.C.length<=1000000/\∀ p ∈ e.p.C,p.a.length<=1000000):
  Calls Tryz.prog 32 #[.agg (jS T t a b An Bn ca cb),.int .i64 (i:Int),.int .i64 (j:Int),.agg (Jy z)] w (Rp w T a b i j z.m):=by
 obtain⟨hv,ha,hb⟩:=dP.1 a2;have az:=iW ha hi;have ax:=iW hb hj;have h1:=aH (aI.begin w) aO (jS T t a b An Bn ca cb) 93;have h2:=aH h1 aO (Jy z) 55;have h3:=aH h2 aO (gv false) 4;have h4:=aH h3 aO (il z.A z.ps.length z.c) 53;simp only[ik] at h4;have H4:=au h4;have KW:=au (fun W=>G7 (T:=T) (t:=t) (a:=a) (b:=b) (An:=An) (Bn:=Bn) (ca:=ca) (cb:=cb) i j W);have a0:=au (fun b1 b2 b3=>Ew (T:=T) (t:=t) (a:=a) (b:=b) (An:=An) (Bn:=Bn) (ca:=ca) (cb:=cb) (b1:=b1) (b2:=b2) (b3:=b3) a2 hi hj);have al:=au (fun W X (h:aI eR w X W)=>(show Below w.heap.size w W from h.mod.below (fun _ _ h=>h)));have be:=au (fun (ws:List Wy)=>(show vn T a.k b.k ws w z 0 z.A z.c from⟨fy _,aA,by rw[xT];exact hz,fun _ m _ _ h=>absurd h (oc _)⟩));have a9:=au (fun (A':eV) (c':Nat) (h:vn T a.k b.k (eZ T a.k (wd a i) b.k (wd b j)) w z (eZ T a.k (wd a i) b.k (wd b j)).length A' c') (bb:Bool) hb=>adD h (bb:=bb) hb);have bn:=au (fun (n:Nat) hn h=>aeE (T:=T) (a:=a) (b:=b) (z:=z) (i:=i) (j:=j) (n:=n) hn h);have bx:(wd a i).length<=1000000:=by unfold wd;rw[ki,ic hi];exact hN.wa _ (gw hi)
 have bp:(wd b j).length<=1000000:=by unfold wd;rw[ki,ic hj];exact hN.wb _ (gw hj)
 have bk:=au (fun (y:Wy) (hy:y ∈ eZ T a.k (wd a i) b.k (wd b j))=>(yF hv az ax hy).2);have KC:=au (fun W (hb:Below w.heap.size w W) (y:Wy) (hy:y ∈ eZ T a.k (wd a i) b.k (wd b j)) (e:PL) (he:e ∈ z.ps) (bd:Int)=>Sk (hN.ft.below hb) (hN.fz.below hb) a.k y.x b.k y.y bd (by have:=Ar hy az ax;omega) (by have:=Ar hy az ax;omega) (B:=e.A) (c:=e.c) (C:=e.p.C) (sI.below (hz.all e he) hb) (aE e he).1 (aE e he).2);have bw:=au (fun W (hm:Mod eR w W)=>hN.below (hm.below (fun _ _ h=>h)));have b5:=au a8;generalize eZ T a.k (wd a i) b.k (wd b j)=ws at *
 clear h1 h2 h3 h4 hN hz aA a8 aE bx bp hv ha hb az ax a2 hi hj;unfold jS at H4 KW a0 ⊢;unfold Jy at H4 ⊢;refine(callsIn_wide (n:=8)).1 ?_;refine callsIn_of_wp_marks Tryz.func32 rfl trivial ?_ rfl;simp only[Tryz.ntmps32,pZ,jz,lL,Nat.reduceAdd,Nat.reduceSub,re,rk,ry,rq,me,pd];refine(wpIn_wide (n:=8)).2 ?_;go_upto_region 2 with (fail);obtain⟨w5,bi,h5⟩:=H4.o.nm
 try rw[bi]
 clear H4 bi;generalize w.heap.size+1+1+1=g9 at *
 generalize w.heap.size+1+1=g8 at *
 generalize w.heap.size+1=g7 at *
 generalize bo:w.heap.size=g4 at h5 ⊢;clear bo;have H5:=au h5;obtain⟨⟨n0,n1,n2,n3,n4,n5⟩,n6,n7,n8,n9⟩:=rG (T:=T) (t:=t) (a:=a) (b:=b) (An:=An) (Bn:=Bn) (ca:=ca) (cb:=cb) h5.drop.drop.drop;have ba:=au (KW.o w5);clear KW h5;go_wp2_with fail;refine ba.o.mono ?_;rintro e9 w6 ⟨b1,b2,b3,rfl,hp⟩;have H6:=au (H5.o.fresh aO hp);clear ba H5 hp n0 n1 n2 n3 n4 n5 n6 n7 n8 n9;dsimp only;go_wp2_with fail;have bc:=au (a0.o b1 b2 b3);clear a0;obtain⟨B,hB⟩:∃ B:CH.aU,B=(aj (av g7 (js z.i z.j z.h z.A z.ps.length z.c) 55) (aj (av g4 (oE T t a An ca b Bn cb) 93) bG)):=⟨_,rfl⟩;have b4:B.Ok:=by rw[hB];exact aO
 have bu:=au (show aI eR w (aj (Zs (oE T t a An ca b Bn cb) i j b1 b2 b3) (xn T a.k b.k ws w z g9 g8 B 0)) w6 from
  (Yl (be.o ws) (H6.o.perm (by rw[hB];ac_rfl:_=(aj (av g9 (il z.A z.ps.length z.c) 53) (aj (av g8 (gv false) 4) (aj B (Zs (oE T t a An ca b Bn cb) i j b1 b2 b3))))))).swap)
 have HB:=au (fun W (X:CH.aU) (h:aI eR w (aj B X) W)=>(show(Dd W g7 (.int .i64 z.i) (.int .i64 z.j) (.int .i64 z.h))/\(l4 W g4 (.slice t.A T.rs.length t.c) (.slice t.D T.ds.length t.d) (.slice t.E T.es.length t.e) (.int .i64 T.drop) (.int .i64 T.ord) (.int .i64 T.ini))/\W.cell? ⟨g4,6,none⟩=some (.int .i64 a.k)/\W.cell? ⟨g4,8,none⟩=some (.int .i64 b.k) from by
  rw[hB] at h;obtain⟨_,f7⟩:=h.assoc.fst;obtain⟨_,f4⟩:=h.assoc.drop.assoc.fst
  exact⟨⟨ay f7 rfl,ay f7 rfl,ay f7 rfl⟩,⟨ay f4 rfl,ay f4 rfl,ay f4 rfl,ay f4 rfl,ay f4 rfl,ay f4 rfl⟩,ay f4 rfl,ay f4 rfl⟩))
 have b6:=au hB;clear H6 hB be;have ap:=au (fun (bb:Bool) W (h:bb=true↔Dy T a b i j z.m) (hb:Below w.heap.size w W)=>(show Rp w T a b i j z.m (.returned (.bool bb)) W from⟨bb,rfl,h,hb⟩));generalize Rp w T a b i j z.m=b7 at *
 generalize Dy T a b i j z.m=RP at *
 have bj:∀ (n:Nat) (a':Act),((fun n a'=>lW fun g10:Nat=>lW fun y:Wy=>tu (ws[n]?=some y/\a'={ tmps:=#[.agg (oE T t a An ca b Bn cb),.int .i64 (i:Int),.int .i64 (j:Int),.agg (js z.i z.j z.h z.A z.ps.length z.c),.pointer (some ⟨g4,0,none⟩),undef,undef,.pointer (some ⟨g7,0,none⟩),.pointer (some ⟨g8,0,none⟩),.pointer (some ⟨g9,0,none⟩),.pointer (some ⟨g10,0,none⟩),undef,.pointer (some ⟨g7,3,none⟩),.slice z.A z.ps.length z.c,.agg (oE T t a An ca b Bn cb),.int .i64 (i:Int),.int .i64 (j:Int),B3 b1 b2 b3,.agg (jK y),undef,undef,undef,undef,undef,undef,undef,undef,undef,undef,undef,undef,undef,undef,undef,undef,undef,undef,undef,undef,undef,undef,undef,undef,undef,undef,undef,undef,undef,undef,undef,undef,undef,undef,undef,undef,undef,undef,undef,undef,undef,undef,undef,undef,undef,undef,undef,undef,undef,undef,undef,undef,undef,undef,undef,undef,undef,undef,undef,undef,undef,undef,undef,undef,undef,undef,undef,undef,undef,undef,undef,undef,undef],defers:=[] }) (aj (av g10 (jK y) 137) (xn T a.k b.k ws w z g9 g8 B n))) n a').Ok:=fun _ _=>bZ fun _=>bZ fun _=>gJ aO;refine pz (gf:=72) (lb:=(vA (some ⟨b1,0,none⟩) (some ⟨b2,0,none⟩) (some ⟨b3,0,none⟩))) rfl (enters_of Tryz.func72 eQ rfl) bc.o aO (fun _=>rfl) bw.o (fun n=>xn T a.k b.k ws w z g9 g8 B n) (TE (fun bb=>bb=true↔RP) g8) (fun n=>aO) _ bj (fun _=>bZ fun _=>gJ aO) bu.o ?_ ?_ ?_ ?_
 ·intro lo m n hn R' W1 K hR hI hK;have h3:=aH hI aO (jK ws[n]) 137;have HF:=au (hK { tmps:=#[.agg (oE T t a An ca b Bn cb),.int .i64 (i:Int),.int .i64 (j:Int),.agg (js z.i z.j z.h z.A z.ps.length z.c),.pointer (some ⟨g4,0,none⟩),undef,undef,.pointer (some ⟨g7,0,none⟩),.pointer (some ⟨g8,0,none⟩),.pointer (some ⟨g9,0,none⟩),.pointer (some ⟨W1.heap.size,0,none⟩),undef,.pointer (some ⟨g7,3,none⟩),.slice z.A z.ps.length z.c,.agg (oE T t a An ca b Bn cb),.int .i64 (i:Int),.int .i64 (j:Int),B3 b1 b2 b3,.agg (jK ws[n]),undef,undef,undef,undef,undef,undef,undef,undef,undef,undef,undef,undef,undef,undef,undef,undef,undef,undef,undef,undef,undef,undef,undef,undef,undef,undef,undef,undef,undef,undef,undef,undef,undef,undef,undef,undef,undef,undef,undef,undef,undef,undef,undef,undef,undef,undef,undef,undef,undef,undef,undef,undef,undef,undef,undef,undef,undef,undef,undef,undef,undef,undef,undef,undef,undef,undef,undef,undef,undef,undef,undef,undef,undef],defers:=[] } (W1.alloc (.cells (jK ws[n]) 137)) (aI.nZ W1.heap.size (aI.nZ ws[n] (aI.iT ⟨ic hn,rfl⟩ (h3.perm (by ac_rfl))))));clear hI h3 hK;unfold Ev;generalize ws[n]=y at *
  obtain⟨J,yl,yr,yc,yx,yy⟩:=y;unfold jK at HF ⊢;dsimp only at HF ⊢;gi_wp2;exact HF.o
 ·intro lo m n hn a' R' W1 hR hI;obtain⟨g10,h1⟩:=hI.ex;obtain⟨y,h1⟩:=h1.ex;obtain⟨⟨a1,rfl⟩,h2⟩:=h1.pure;have ar:ws[n]=y:=by rw[ic hn] at a1;injection a1
  have aw:y ∈ ws:=by rw[<-ar];exact gw hn
  obtain⟨A',c',an,h3⟩:=Yk (h2.perm (by ac_rfl:_=aj (xn T a.k b.k ws w z g9 g8 B n) (aj (av g10 (jK y) 137) R')));have aq:=au (bn.o n hn);rw[ar] at aq;have H3:=au (h3.perm (by ac_rfl:_=(aj (av g9 (il A' (z.ps.length-n) c') 53) (aj (av g10 (jK y) 137) (aj B (aj (av g8 (gv false) 4) R'))))))
  have ad:=au (fun (Y:CH.aU) (okY:Y.Ok) W (I:¬ RP) (h:aI eR w (aj Y (aj (av g8 (gv false) 4) R')) W)=>(show(W.cell? ⟨g8,0,none⟩=some (.bool false)/\∀ i,W.frozen? ⟨g8,i,none⟩=false)/\aI eR w (aj (TE (fun bb=>bb=true↔RP) g8 .ret) R') (W.setCell ⟨g8,0,none⟩ (.bool false)) from by
   have h5:=h.drop;obtain⟨_,f8⟩:=h5.fst;have h6:aI eR w (aj (av g8 (gv false) 4) R') _:=aJ h5 hR 0 (.bool false)
   exact⟨⟨ay f8 rfl,aN f8⟩,aI.nZ false (aI.iT ⟨rfl,(show false=true↔RP from⟨(fun h=>by cases h),fun h=>absurd h I⟩)⟩ h6)⟩))
  obtain⟨_,f9⟩:=H3.o.fst;have q9:=ay (i:=0) f9 rfl;clear hI h1 h2 h3 a1 f9;by_cases hq:z.ps.length-n=0
  ·have I:¬ RP:=aq.o (fun (hl:n<z.ps.length)=>absurd hl eL);obtain⟨⟨x0,xf⟩,hE⟩:=ad.o (aj (av g9 (il A' (z.ps.length-n) c') 53) (aj (av g10 (jK y) 137) B)) aO W1 I (H3.o.perm (by ac_rfl));have HE:=au hE;rw[hq] at q9;clear hE hq H3 ad aq I an ar aw;refine wpIn_block ?_;refine wpIn_seq_k ?_;intro Kj a3;refine wpIn_seq (bR rfl (fun⟨a,w,h⟩=>h) ?_);go_wp2_with fail;gi_wp2;exact HE.o
  ·have hl:n<z.ps.length:=by omega
   have bh:z.ps[n] ∈ z.ps:=gw hl;have ao:=au (fun (h:0<=z.h->wh T a.k b.k z.h ws[n] z.ps[n].p)=>an.next hn hl h);rw[ar] at ao;obtain⟨b',o',br,a6⟩:=sI.at MJ eL an.rd.row (by rw[k8];omega);have ak:∀ (k:Nat) u,(sF z.ps[n])[k]?=some u->W1.cell? ⟨b',o'+k,none⟩=some u:=fun k u hu=>by
    have:=a6 W1 (al.o _ _ H3.o) 0 (by rw[k8];omega) k u (by rw[List.getElem_drop];simpa using hu);simpa using this
   have bz:=an.cap;have bv:∀ W',(Instr.slice 53 (.slice A' (z.ps.length-n) c') (some (.int .i64 1)) none none).run Tryz.prog W'=.ok (.slice (oo A' c' 1 5) (z.ps.length-n-1) (c'-1)) W':=fun W'=>jG Rm A' (z.ps.length-n) c' 1 .i64 1 rfl eL W';have am:=au (fun W hb bd=>KC.o W hb y aw z.ps[n] bh bd);have a7:=bk.o y aw;have M:=au (fun (h:0<=z.h->¬ wh T a.k b.k z.h y z.ps[n].p)=>aq.o (fun _=>h));generalize z.ps[n]=p at *
   have t0:(z.ps.length-n==0)=false:=by simpa using hq
   have bm:(((z.ps.length-n:Nat):Int)==0)=false:=by simp;omega
   subst br;obtain⟨J,yl,yr,yc,yx,yy⟩:=y;unfold jK at H3;dsimp only at H3 a7 am ao M;have y0:W1.cell? ⟨b',o',none⟩=_:=ak 0 _ rfl;have y1:=ak 1 _ rfl;have y2:=ak 2 _ rfl;have y3:=ak 3 _ rfl;have y4:=ak 4 _ rfl;have bf:z.ps.length-(n+1)=z.ps.length-n-1:=by omega
   have ag:=au (fun W (hw:0<=z.h->wh T a.k b.k z.h ⟨J,yl,yr,yc,yx,yy⟩ p.p) (h:aI eR w (aj (av g9 (il (oo (some ⟨b',o',none⟩) c' 1 5) (z.ps.length-n-1) (c'-1)) 53) (aj (av g8 (gv false) 4) (aj B R'))) W)=>(show aI eR w (aj (xn T a.k b.k ws w z g9 g8 B (n+1)) R') W from Yl (ao.o hw) (by rw[bf];exact h)));clear a6 ak an ar aw bh aq ao hn KC bk a9 bn hl bz bf;generalize z.ps.length-n=q at *
   generalize oo (some ⟨b',o',none⟩) c' 1 5=A1 at *
   generalize q-1=q1 at *
   generalize c'-1=c1 at *
   refine wpIn_block ?_;refine wpIn_seq_k ?_;intro Kj a3;refine wpIn_seq (bR rfl (fun⟨a,w,h⟩=>h) ?_);go_wp2_with fail
   iterate 4 gi_step
   refine a3 _ _ ?_;clear a3 Kj;have H4:=au (aH H3.o aO (lR p.p.kd p.p.l p.p.r p.p.h p.A p.p.C.length p.c) 58);refine wpIn_seq (bR rfl (fun⟨a,w,h⟩=>h) ?_);go_wp2_with fail;clear q9 y0 y1 y2 y3 y4 H3 t0 bm;generalize W1.alloc (.cells (lR p.p.kd p.p.l p.p.r p.p.h p.A p.p.C.length p.c) 58)=w2 at *
   generalize W1.heap.size=g11 at *
   have h5:=H4.o.perm (by ac_rfl:_=(aj (av g9 (il (some ⟨b',o',none⟩) q c') 53) (aj (av g11 (lR p.p.kd p.p.l p.p.r p.p.h p.A p.p.C.length p.c) 58) (aj (av g10 (nt J yl yr (bs yx) (bs yy) yc) 137) (aj B (aj (av g8 (gv false) 4) R'))))));obtain⟨_,f9⟩:=h5.fst;have q9:=ay (i:=0) f9 rfl;have qf:=aN f9;have H6:=au (show aI eR w (aj (av g9 (il A1 q1 c1) 53) (aj (av g11 (lR p.p.kd p.p.l p.p.r p.p.h p.A p.p.C.length p.c) 58) (aj (av g10 (nt J yl yr (bs yx) (bs yy) yc) 137) (aj B (aj (av g8 (gv false) 4) R'))))) _ from aJ h5 aO 0 (.slice A1 q1 c1));clear H4 h5 f9;refine wpIn_seq (bR rfl (fun⟨a,w,h⟩=>h) ?_);go_wp2_with fail;clear q9 qf bv hq;generalize w2.setCell ⟨g9,0,none⟩ (.slice A1 q1 c1)=w3 at *
   obtain⟨z0,z1,z2,z3,z4,-⟩:=fU H6.o.drop;obtain⟨u0,u1,u2,u3,u4,u5⟩:=dW H6.o.drop.drop;obtain⟨⟨x0,x1,x2⟩,⟨r0,r1,r2,r3,r4,r5⟩,r6,r8⟩:=HB.o _ _ H6.o.drop.drop.drop;by_cases e1:J=p.p.kd
   ·have t1:(J==p.p.kd)=true:=by simp[e1]
    by_cases e2:yl=p.p.l
    ·have t2:(yl==p.p.l)=true:=by simp[e2]
     by_cases e3:yr=p.p.r
     ·have t3:(yr==p.p.r)=true:=by simp[e3]
      by_cases g1:p.p.h<z.h
      ·have I:¬ RP:=M.o (fun h0 hw=>absurd hw.2.1 eL);obtain⟨⟨xx,xf⟩,hE⟩:=ad.o (aj (av g9 (il A1 q1 c1) 53) (aj (av g11 (lR p.p.kd p.p.l p.p.r p.p.h p.A p.p.C.length p.c) 58) (aj (av g10 (nt J yl yr (bs yx) (bs yy) yc) 137) B))) aO w3 I (H6.o.perm (by ac_rfl:_=aj (aj (av g9 (il A1 q1 c1) 53) (aj (av g11 (lR p.p.kd p.p.l p.p.r p.p.h p.A p.p.C.length p.c) 58) (aj (av g10 (nt J yl yr (bs yx) (bs yy) yc) 137) B))) (aj (av g8 (gv false) 4) R')));have HE:=au hE;clear hE I ad M ag am H6;refine wpIn_seq (bR rfl (fun⟨a,w,h⟩=>h) ?_);go_wp2_with fail;gi_wp2;exact HE.o
      ·by_cases g2:100000<p.p.h
       ·have b0:=g2;have I:¬ RP:=M.o (fun h0 hw=>absurd hw.2.2.1 eL);obtain⟨⟨xx,xf⟩,hE⟩:=ad.o (aj (av g9 (il A1 q1 c1) 53) (aj (av g11 (lR p.p.kd p.p.l p.p.r p.p.h p.A p.p.C.length p.c) 58) (aj (av g10 (nt J yl yr (bs yx) (bs yy) yc) 137) B))) aO w3 I (H6.o.perm (by ac_rfl:_=aj (aj (av g9 (il A1 q1 c1) 53) (aj (av g11 (lR p.p.kd p.p.l p.p.r p.p.h p.A p.p.C.length p.c) 58) (aj (av g10 (nt J yl yr (bs yx) (bs yy) yc) 137) B))) (aj (av g8 (gv false) 4) R')));have HE:=au hE;clear hE I ad M ag am H6;refine wpIn_seq (bR rfl (fun⟨a,w,h⟩=>h) ?_);go_wp2_with fail;gi_wp2;exact HE.o
       ·obtain⟨s,hs⟩:∃ s,wrap64 (p.p.h-yc)=s:=⟨_,rfl⟩;have a4:=au (show 0<=z.h->s=p.p.h-yc from fun h0=>by rw[<-hs];exact qk _ eL);have a5:=au (show jq T a.k yx b.k yy s p.p.C->0<=z.h->wh T a.k b.k z.h ⟨J,yl,yr,yc,yx,yy⟩ p.p from fun hc h0=>⟨⟨e1.symm,e2.symm,e3.symm⟩,by omega,by omega,by rw[<-a4.o h0];exact hc⟩);have aD:=au (show ¬ jq T a.k yx b.k yy s p.p.C->0<=z.h->¬ wh T a.k b.k z.h ⟨J,yl,yr,yc,yx,yy⟩ p.p from fun hc h0 hw=>hc (by rw[a4.o h0];exact hw.2.2.2));have K:=au (am.o w3 (al.o _ _ H6.o) s);unfold dI dN at K;clear e1 e2 e3 am a4 a7;refine wpIn_seq (bR rfl (fun⟨a,w,h⟩=>h) ?_);go_wp2_with fail;refine K.o.mono ?_;rintro e9 w4 ⟨bb,rfl,hbb,hb⟩;have H7:=au (H6.o.below aO hb);clear K H6 hb z0 z1 z2 z3 z4 u0 u1 u2 u3 u4 u5 x0 x1 x2 r0 r1 r2 r3 r4 r5 r6 r8 hs;dsimp only;cases bb with
        | true=>
         have HE:=au (ag.o w4 (a5.o (hbb.1 rfl)) ((H7.o.perm (by ac_rfl:_=aj (aj (av g11 (lR p.p.kd p.p.l p.p.r p.p.h p.A p.p.C.length p.c) 58) (av g10 (nt J yl yr (bs yx) (bs yy) yc) 137)) (aj (av g9 (il A1 q1 c1) 53) (aj (av g8 (gv false) 4) (aj B R'))))).drop));clear ag a5 aD hbb ad M H7;go_wp2_with fail;gi_wp2;exact HE.o
        | false=>
         have I:¬ RP:=M.o (aD.o (fun h=>by cases hbb.2 h));obtain⟨⟨xx,xf⟩,hE⟩:=ad.o (aj (av g9 (il A1 q1 c1) 53) (aj (av g11 (lR p.p.kd p.p.l p.p.r p.p.h p.A p.p.C.length p.c) 58) (aj (av g10 (nt J yl yr (bs yx) (bs yy) yc) 137) B))) aO w4 I (H7.o.perm (by ac_rfl:_=aj (aj (av g9 (il A1 q1 c1) 53) (aj (av g11 (lR p.p.kd p.p.l p.p.r p.p.h p.A p.p.C.length p.c) 58) (aj (av g10 (nt J yl yr (bs yx) (bs yy) yc) 137) B))) (aj (av g8 (gv false) 4) R')));have HE:=au hE;clear hE I ad M ag a5 aD hbb H7;go_wp2_with fail;gi_wp2;exact HE.o
     ·have t3:(yr==p.p.r)=false:=by simp[e3]
      have I:¬ RP:=M.o (fun h0 hw=>e3 hw.1.2.2.symm);obtain⟨⟨xx,xf⟩,hE⟩:=ad.o (aj (av g9 (il A1 q1 c1) 53) (aj (av g11 (lR p.p.kd p.p.l p.p.r p.p.h p.A p.p.C.length p.c) 58) (aj (av g10 (nt J yl yr (bs yx) (bs yy) yc) 137) B))) aO w3 I (H6.o.perm (by ac_rfl:_=aj (aj (av g9 (il A1 q1 c1) 53) (aj (av g11 (lR p.p.kd p.p.l p.p.r p.p.h p.A p.p.C.length p.c) 58) (aj (av g10 (nt J yl yr (bs yx) (bs yy) yc) 137) B))) (aj (av g8 (gv false) 4) R')));have HE:=au hE;clear hE I ad M ag am H6;refine wpIn_seq (bR rfl (fun⟨a,w,h⟩=>h) ?_);go_wp2_with fail;gi_wp2;exact HE.o
    ·have t2:(yl==p.p.l)=false:=by simp[e2]
     have I:¬ RP:=M.o (fun h0 hw=>e2 hw.1.2.1.symm);obtain⟨⟨xx,xf⟩,hE⟩:=ad.o (aj (av g9 (il A1 q1 c1) 53) (aj (av g11 (lR p.p.kd p.p.l p.p.r p.p.h p.A p.p.C.length p.c) 58) (aj (av g10 (nt J yl yr (bs yx) (bs yy) yc) 137) B))) aO w3 I (H6.o.perm (by ac_rfl:_=aj (aj (av g9 (il A1 q1 c1) 53) (aj (av g11 (lR p.p.kd p.p.l p.p.r p.p.h p.A p.p.C.length p.c) 58) (aj (av g10 (nt J yl yr (bs yx) (bs yy) yc) 137) B))) (aj (av g8 (gv false) 4) R')));have HE:=au hE;clear hE I ad M ag am H6;refine wpIn_seq (bR rfl (fun⟨a,w,h⟩=>h) ?_);go_wp2_with fail;gi_wp2;exact HE.o
   ·have t1:(J==p.p.kd)=false:=by simp[e1]
    have I:¬ RP:=M.o (fun h0 hw=>e1 hw.1.1.symm);obtain⟨⟨xx,xf⟩,hE⟩:=ad.o (aj (av g9 (il A1 q1 c1) 53) (aj (av g11 (lR p.p.kd p.p.l p.p.r p.p.h p.A p.p.C.length p.c) 58) (aj (av g10 (nt J yl yr (bs yx) (bs yy) yc) 137) B))) aO w3 I (H6.o.perm (by ac_rfl:_=aj (aj (av g9 (il A1 q1 c1) 53) (aj (av g11 (lR p.p.kd p.p.l p.p.r p.p.h p.A p.p.C.length p.c) 58) (aj (av g10 (nt J yl yr (bs yx) (bs yy) yc) 137) B))) (aj (av g8 (gv false) 4) R')));have HE:=au hE;clear hE I ad M ag am H6;refine wpIn_seq (bR rfl (fun⟨a,w,h⟩=>h) ?_);go_wp2_with fail;gi_wp2;exact HE.o
 ·intro D R W1 hR hI;obtain⟨A',c',an,h3⟩:=Yk hI;have ai:=au (fun bb hb=>a9.o A' c' an bb hb);have H4:=au (h3.perm (by ac_rfl:_=(aj (av g9 (il A' (z.ps.length-ws.length) c') 53) (aj B (aj (av g8 (gv false) 4) (aj (aX D (.deferred (some []))) R))))))
  have ac:=au (fun (bb:Bool) (hb:bb=true↔RP)=>(show aI eR w (aj (aX D (.deferred (some []))) (aj (av g8 (gv bb) 4) (aj (av g9 (il A' (z.ps.length-ws.length) c') 53) (aj B R)))) (W1.setCell ⟨g8,0,none⟩ (.bool bb)) from by
   have h5:=H4.o.perm (by ac_rfl:_=aj (av g8 (gv false) 4) (aj (av g9 (il A' (z.ps.length-ws.length) c') 53) (aj B (aj (aX D (.deferred (some []))) R))));have h6:aI eR w (aj (av g8 (gv bb) 4) _) _:=aJ h5 aO 0 (.bool bb)
   exact h6.perm (by ac_rfl)))
  obtain⟨_,f9⟩:=H4.o.fst;have q9:=ay (i:=0) f9 rfl;obtain⟨_,f8⟩:=H4.o.drop.drop.fst;have q8:=ay (i:=0) f8 rfl;have qf:=aN f8;obtain⟨⟨x0,x1,x2⟩,-,-⟩:=HB.o _ _ H4.o.drop;clear hI h3 an f9 f8 H4;generalize hq:z.ps.length-ws.length=q at *
  clear hq;by_cases e0:q=0
  ·rw[e0] at q9;by_cases e1:z.i=i
   ·have t1:(z.i==(i:Int))=true:=by simp[e1]
    by_cases e2:z.j=j
    ·have t2:(z.j==(j:Int))=true:=by simp[e2]
     by_cases e3:0<=z.h
     ·have ae:=au (ai.o true (by simp[e0,e1,e2,e3]));have af:=au (ac.o true ae.o);clear ac ai;go_wp2_with fail;clear q9 q8 qf x0 x1 x2;generalize W1.setCell ⟨g8,0,none⟩ (.bool true)=W2 at *
      obtain⟨FD,hD,-,aa⟩:=af.o.take bg aO;have HD:=au hD.1;have h8:=aa _ _ (fK hD (.deferred none));obtain⟨F9,ab⟩:=h8.drop.fst;have HC:=au (ay (i:=0) ab rfl);have HE:=au (ap.o true _ (show true=true↔RP from by simpa using ae.o) (al.o _ _ h8));clear af hD aa h8 ab F9;refine⟨by simp,.inl ⟨_,_,rfl,run_takeDeferred HD.o,?_⟩⟩;exact⟨_,res32 rfl HC.o,HE.o⟩
     ·have ae:=au (ai.o false (by simp[e3]));have af:=au (ac.o false ae.o);clear ac ai;go_wp2_with fail;clear q9 q8 qf x0 x1 x2;generalize W1.setCell ⟨g8,0,none⟩ (.bool false)=W2 at *
      obtain⟨FD,hD,-,aa⟩:=af.o.take bg aO;have HD:=au hD.1;have h8:=aa _ _ (fK hD (.deferred none));obtain⟨F9,ab⟩:=h8.drop.fst;have HC:=au (ay (i:=0) ab rfl);have HE:=au (ap.o false _ (show false=true↔RP from by simpa using ae.o) (al.o _ _ h8));clear af hD aa h8 ab F9;refine⟨by simp,.inl ⟨_,_,rfl,run_takeDeferred HD.o,?_⟩⟩;exact⟨_,res32 rfl HC.o,HE.o⟩
    ·have t2:(z.j==(j:Int))=false:=by simp[e2]
     have ae:=au (ai.o false (by simp[e2]));have af:=au (ac.o false ae.o);clear ac ai;go_wp2_with fail;clear q9 q8 qf x0 x1 x2;generalize W1.setCell ⟨g8,0,none⟩ (.bool false)=W2 at *
     obtain⟨FD,hD,-,aa⟩:=af.o.take bg aO;have HD:=au hD.1;have h8:=aa _ _ (fK hD (.deferred none));obtain⟨F9,ab⟩:=h8.drop.fst;have HC:=au (ay (i:=0) ab rfl);have HE:=au (ap.o false _ (show false=true↔RP from by simpa using ae.o) (al.o _ _ h8));clear af hD aa h8 ab F9;refine⟨by simp,.inl ⟨_,_,rfl,run_takeDeferred HD.o,?_⟩⟩;exact⟨_,res32 rfl HC.o,HE.o⟩
   ·have t1:(z.i==(i:Int))=false:=by simp[e1]
    have ae:=au (ai.o false (by simp[e1]));have af:=au (ac.o false ae.o);clear ac ai;go_wp2_with fail;clear q9 q8 qf x0 x1 x2;generalize W1.setCell ⟨g8,0,none⟩ (.bool false)=W2 at *
    obtain⟨FD,hD,-,aa⟩:=af.o.take bg aO;have HD:=au hD.1;have h8:=aa _ _ (fK hD (.deferred none));obtain⟨F9,ab⟩:=h8.drop.fst;have HC:=au (ay (i:=0) ab rfl);have HE:=au (ap.o false _ (show false=true↔RP from by simpa using ae.o) (al.o _ _ h8));clear af hD aa h8 ab F9;refine⟨by simp,.inl ⟨_,_,rfl,run_takeDeferred HD.o,?_⟩⟩;exact⟨_,res32 rfl HC.o,HE.o⟩
  ·have t0:(q==0)=false:=by simp[e0]
   have bm:((q:Int)==0)=false:=by simp;omega
   have ae:=au (ai.o false (by simp[e0]));have af:=au (ac.o false ae.o);clear ac ai;go_wp2_with fail;clear q9 q8 qf x0 x1 x2;generalize W1.setCell ⟨g8,0,none⟩ (.bool false)=W2 at *
   obtain⟨FD,hD,-,aa⟩:=af.o.take bg aO;have HD:=au hD.1;have h8:=aa _ _ (fK hD (.deferred none));obtain⟨F9,ab⟩:=h8.drop.fst;have HC:=au (ay (i:=0) ab rfl);have HE:=au (ap.o false _ (show false=true↔RP from by simpa using ae.o) (al.o _ _ h8));clear af hD aa h8 ab F9;refine⟨by simp,.inl ⟨_,_,rfl,run_takeDeferred HD.o,?_⟩⟩;exact⟨_,res32 rfl HC.o,HE.o⟩
 ·intro D c R W1 hR hI;obtain⟨bb,hI⟩:=hI.ex;obtain⟨⟨rfl,hb⟩,h3⟩:=hI.pure;have h6:=h3.perm (by ac_rfl:_=aj (aX D (.deferred (some []))) (aj (av g8 (gv bb) 4) R));obtain⟨FD,hD,-,aa⟩:=h6.take bg aO;have HD:=au hD.1;have h8:=aa _ _ (fK hD (.deferred none));obtain⟨F9,ab⟩:=h8.drop.fst;have HC:=au (ay (i:=0) ab rfl);have HE:=au (ap.o bb _ hb (al.o _ _ h8));clear h3 h6 hD aa h8 ab F9 hI hb;go_wp2_with fail;refine⟨by simp,.inl ⟨_,_,rfl,run_takeDeferred HD.o,?_⟩⟩;refine⟨_,res32 rfl HC.o,HE.o⟩
open Asn (aY dS fE uJ Vec ints cF lF mJ kx nT)
structure Ul(s:SL):Prop where
 w0:s.ws.length<=1000000
 w1:∀ e ∈ s.ws,e.ps.length<=e.c/\e.ps.length<=1000000/\∀ x ∈ e.ps,x.p.C.length<=1000000/\∀ p ∈ x.p.C,p.a.length<=1000000
 u0:s.U.length<=1000000
 v0:s.V.length<=1000000
 g0:s.G.length<=1000000
structure E3(T:eW)(a b:aR)(s:SL)(lb la k:Nat)(zs:List cu):Prop where
 all:∀ q (h:q<s.ws.length),q<k->Dy T a b (q / lb) (q % lb) s.ws[q].m
 mat:zs.map (·.l)=gM (sH s.m lb) lb la (k / lb) (k % lb)
variable{s:SL}{lb la d e:Nat}{B G:eV}{C:List (List Int)}{V:List (eV × Nat)}
theorem E3.next{k:Nat}{zs:List cu}(h:E3 T a b s lb la k zs)(hk:k<s.ws.length)(hb:0<lb)(hi:k / lb<zs.length)(hw:Dy T a b (k / lb) (k % lb) s.ws[k].m):E3 T a b s lb la (k+1) (zs.set (k / lb) ⟨zs[k / lb].l++[s.ws[k].h],A,c⟩):=by
 refine⟨fun q hq I=>?_,?_⟩
 ·by_cases J:q<k
  ·exact h.all q hq J
  ·obtain rfl:q=k:=by omega
   exact hw
 ·have hn:k / lb<(gM (sH s.m lb) lb la (k / lb) (k % lb)).length:=by rw[<-h.mat,fY];exact hi
  have M:(zs.map (·.l))[k / lb]?=(gM (sH s.m lb) lb la (k / lb) (k % lb))[k / lb]?:=by rw[h.mat]
  rw[lB,ic hi,ic hn,Tr hn] at M;have h2:zs[k / lb].l=(List.range (k % lb)).map (sH s.m lb (k / lb)):=Option.some.inj M;have h3:s.ws[k].h=sH s.m lb (k / lb) (k % lb):=by
   have e:k / lb*lb+k % lb=k:=by rw[mC];exact AI k lb
   unfold sH;rw[e]
   show _=((s.ws.map WL.m).getD k L2).h
   rw[ki,lB,ic hk];rfl
  rw[vz,h.mat]
  show(gM (sH s.m lb) lb la (k / lb) (k % lb)).set (k / lb) (zs[k / lb].l++[s.ws[k].h])=_
  rw[h2,h3,Yf];have hm:=qS k hb;by_cases I:k % lb+1<lb
  ·have e1:(k+1) / lb=k / lb:=by
    have e:=AI k lb;have:=Wl (n:=k / lb+1) (i:=k / lb) (m:=lb) (j:=k % lb+1) eL I;rw[show k / lb*lb+(k % lb+1)=k+1 by rw[mC];omega] at this;exact this.2.1
   have e2:(k+1) % lb=k % lb+1:=by
    have e:=AI k lb;have:=Wl (n:=k / lb+1) (i:=k / lb) (m:=lb) (j:=k % lb+1) eL I;rw[show k / lb*lb+(k % lb+1)=k+1 by rw[mC];omega] at this;exact this.2.2
   rw[e1,e2]
  ·have hl:k % lb+1=lb:=by omega
   have e:=AI k lb;have hd:=Wl (n:=k / lb+2) (i:=k / lb+1) (m:=lb) (j:=0) eL hb;rw[show(k / lb+1)*lb+0=k+1 by rw[li,mC];omega] at hd;rw[hd.2.1,hd.2.2,hl,Yg]
theorem adE{D E U W:List Int}{x:Int}{bb:Bool}(h:kx C D E U W=(x,bb))(hd:D.length<=6)(he:E.length<=6): -12000000<=x/\x<=12000000:=by
 by_cases J:Asn.Jc C D E U W=true/\Asn.nJ C D E U W
 ·rw[Asn.QJ J.1 J.2] at h;have hx:=congrArg Prod.fst h;have h0:=J.1;unfold Asn.Jc Asn.wi at h0;simp only[gA,decide_eq_true_eq,j7] at h0;obtain⟨⟨⟨⟨-,hu⟩,hw⟩,h1⟩,M⟩:=h0
  have k1:=Asn.wS (f:=lF U) (a:=-1000000) (b:=1000000) (n:=D.length) (fun i hi=>by
   have I:i<U.length:=by omega
   rw[Asn.lI I];exact h1 _ (gw I))
  have k2:=Asn.wS (f:=lF W) (a:=-1000000) (b:=1000000) (n:=E.length) (fun i hi=>by
   have I:i<W.length:=by omega
   rw[Asn.lI I];exact M _ (gw I))
  simp only at hx;omega
 ·have M:kx C D E U W=(0,false):=by unfold Asn.kx;rw[if_neg J]
  rw[M] at h;have hx:=congrArg Prod.fst h;simp only at hx;omega
theorem abw{s:Sl}{UA WA:eV}{u v:Nat}(I:la=a.ws.length)(J:lb=b.ws.length)(M:nO T a b=true)(h:uJ W A (sL s a b) V)(hD:iJ W B (dL T a))(hE:iJ W G (dL T b))(hU:iJ W UA s.U)(hV:iJ W WA s.V):
  Calls Tryz.prog 33 #[.slice A la c,.slice B la d,.slice G lb e,.slice UA s.U.length u,.slice WA s.V.length v] W (Asn.rZ W (kx (sL s a b) (dL T a) (dL T b) s.U s.V)):=by
 subst I J;have hl:(sL s a b).length=a.ws.length:=by simp[sL,cL]
 have I:(dL T a).length=a.ws.length:=by simp[dL]
 have J:(dL T b).length=b.ws.length:=by simp[dL]
 have hK:=Asn.TI (c:=c) (d:=d) (e:=e) (u:=u) (v:=v) h (by rw[hl];have:=(aW.1 (dP.1 M).2.1).2.2;simp only[maxLen];omega) hD hE hU hV;rw[hl,I,J] at hK;exact hK
theorem Ym{s:Sl}{LA:eV}{cl:Nat}(I:la=a.ws.length)(J:lb=b.ws.length)(M:nO T a b=true)(h:uJ W A (sL s a b) V)(hD:iJ W B (dL T a))(hE:iJ W G (dL T b))(hL:iJ W LA s.G)(hg:s.G.length<=1000000):
  Calls Tryz.prog 34 #[.slice A la c,.slice B la d,.slice G lb e,.slice LA s.G.length cl] W (Asn.rZ W (nT (sL s a b) (dL T a) (dL T b) s.G)):=by
 subst I J;have hl:(sL s a b).length=a.ws.length:=by simp[sL,cL]
 have I:(dL T a).length=a.ws.length:=by simp[dL]
 have J:(dL T b).length=b.ws.length:=by simp[dL]
 have h6:=(aW.1 (dP.1 M).2.1).2.2;have h7:=(aW.1 (dP.1 M).2.2).2.2;have hK:=Asn.EY (c:=c) (d:=d) (e:=e) (cl:=cl) h (by rw[hl];simp only[maxLen];omega) hD hE hL hg eL eL;rw[hl,I,J] at hK;exact hK
def Jt(w:World)(T:eW)(a b:aR)(s:Sl)(e:Ending)(w':World):Prop:=∃ bb:Bool,e=.returned (.bool bb)/\(bb=true↔fD T a b s)/\Below w.heap.size w w'
theorem gT{t:TA}{An Bn:eV}{ca cb:Nat}(hT:jV w T t)(hz:LZ w)(hA:fu w An a.ws)(hB:fu w Bn b.ws)(ae:a.ws.length<=1000000)(ad:b.ws.length<=1000000)(bh:∀ x ∈ a.ws,x.length<=1000000)(a9:∀ x ∈ b.ws,x.length<=1000000)(hs:SR w s)(ci:Ul s):
  Calls Tryz.prog 14 #[dI T t,uU a An ca,uU b Bn cb,.agg (jh s)] w (Jt w T a b s.m):=by
 have h1:=aH (aI.begin w) aO (dN T t) 25;have h2:=aH h1 aO (ff a.k An a.ws.length ca) 28;have h3:=aH h2 aO (ff b.k Bn b.ws.length cb) 28;have h4:=aH h3 aO (jh s) 41;simp only[ik] at h4;have H4:=au h4;have M:=au (fun W X (h:aI eR w X W)=>(show Below w.heap.size w W from h.mod.below (fun _ _ h=>h)));have KV:=au (fun W (I:Below w.heap.size w W)=>Bt (An:=An) (Bn:=Bn) (ca:=ca) (cb:=cb) (hT.below I) (hz.below I) (aZ hA I) (aZ hB I) ae ad bh a9);have HN:=au (fun (ai:nO T a b=true) W (I:Below w.heap.size w W)=>(show xm W T t a b An Bn from⟨hT.below I,hz.below I,aZ hA I,aZ hB I,(aW.1 (dP.1 ai).2.1).2.2,(aW.1 (dP.1 ai).2.2).2.2,bh,a9⟩));have al:=au (fun W (I:Below w.heap.size w W)=>hs.below I);have ak:=au ci;have J:=au (fun (cp:¬ fD T a b s.m) W (I:Below w.heap.size w W)=>(show Jt w T a b s.m (.returned (.bool false)) W from⟨false,rfl,⟨(fun h=>by cases h),fun h=>absurd h cp⟩,I⟩));clear h1 h2 h3 h4 hT hz hA hB ae ad bh a9 hs ci;unfold dI uU at *
 unfold dN jS jh at *
 go_enter Tryz.func14,Tryz.ntmps14
 go_upto_region 1 with (fail);obtain⟨w4,ch,h4⟩:=H4.o.nm;rw[ch];clear H4 ch;generalize w.heap.size+1+1+1=g7 at *
 generalize w.heap.size+1+1=g6 at *
 generalize w.heap.size+1=g5 at *
 generalize cj:w.heap.size=g4 at h4 ⊢;clear cj;obtain⟨t0,t1,t2,t3,t4,t5⟩:=dW h4.drop.drop.drop;obtain⟨s0,s1,-⟩:=bW h4.drop.drop;obtain⟨q0,q1,-⟩:=bW h4.drop;have H5:=au (aH h4 aO (jS T t a b An Bn ca cb) 93);unfold jS at H5;clear h4;refine wp_scope_straight ?_;go_upto_region 2 with (fail);generalize w4.alloc (.cells (oE T t a An ca b Bn cb) 93)=w5 at *
 generalize w4.heap.size=g9 at *
 clear t0 t1 t2 t3 t4 t5 s0 s1 q0 q1;obtain⟨⟨n0,n1,n2,n3,n4,n5⟩,n6,n7,n8,n9⟩:=rG (T:=T) (t:=t) (a:=a) (b:=b) (An:=An) (Bn:=Bn) (ca:=ca) (cb:=cb) H5.o;have K1:=au (KV.o w5 (M.o _ _ H5.o));clear KV;cases ai:nO T a b with
 | false=>
  rw[ai] at K1;have an:=au (fun W I=>J.o (fun h=>by have:=h.ok;rw[ai] at this;cases this) W I);clear J HN ai al ak;go_wp2_with fail;refine K1.o.mono ?_;rintro e9 w6 ⟨rfl,I⟩;have H6:=au (H5.o.below aO I);clear K1 H5 I n0 n1 n2 n3 n4 n5 n6 n7 n8 n9;dsimp only;go_wp2
  (try rw[pH]);go_ret
  exact an.o _ (M.o _ _ H6.o)
 | true=>
  rw[ai] at K1;have ab:=au ai;clear ai;go_wp2_with fail;refine K1.o.mono ?_;rintro e9 w6 ⟨rfl,I⟩;have H6:=au (H5.o.below aO I);clear K1 H5 I n0 n1 n2 n3 n4 n5 n6 n7 n8 n9;dsimp only;obtain⟨z0,z1,z2,z3,z4,-⟩:=fU H6.o.drop;obtain⟨q0,q1,-⟩:=bW H6.o.drop.drop;obtain⟨s0,s1,-⟩:=bW H6.o.drop.drop.drop;obtain⟨t0,t1,t2,t3,t4,t5⟩:=dW H6.o.drop.drop.drop.drop;have aD:a.ws.length<=6:=(aW.1 (dP.1 ab.o).2.1).2.2;have aE:b.ws.length<=6:=(aW.1 (dP.1 ab.o).2.2).2.2;by_cases e0:s.b<0
  ·have an:=au (fun W I=>J.o (fun h=>by have:0<=s.b:=h.b0;omega) W I);clear J HN al ak;go_wp2
   (try rw[pH]);go_ret
   exact an.o _ (M.o _ _ H6.o)
  ·by_cases e1:100000<s.b
   ·have an:=au (fun W I=>J.o (fun h=>by have:s.b<=100000:=h.b1;omega) W I);clear J HN al ak;go_wp2
    (try rw[pH]);go_ret
    exact an.o _ (M.o _ _ H6.o)
   ·obtain⟨mm,aq⟩:∃ mm,mm=a.ws.length*b.ws.length:=⟨_,rfl⟩;have cN:mm<=36:=by rw[aq];exact sT aD aE
    have tw:wrap64 ((a.ws.length:Int)*(b.ws.length:Int))=(mm:Int):=by
     rw[<-LF,<-aq];exact qk _ eL
    by_cases e2:s.ws.length=mm
    ·have t6:(mm != mm)=false:=by simp
     have t7:((mm:Int) != (mm:Int))=false:=by simp
     have HG:=au (show 0<=s.b/\s.b<=100000 from⟨by omega,by omega⟩);have ce:0<a.ws.length:=(aW.1 (dP.1 ab.o).2.1).2.1;have ap:0<b.ws.length:=(aW.1 (dP.1 ab.o).2.2).2.1;obtain⟨la,ae⟩:∃ la,la=a.ws.length:=⟨_,rfl⟩;obtain⟨lb,ad⟩:∃ lb,lb=b.ws.length:=⟨_,rfl⟩;have HL:=au (show(la=a.ws.length/\lb=b.ws.length)/\s.ws.length=mm/\mm=la*lb from⟨⟨ae,ad⟩,e2,by rw[ae,ad];exact aq⟩)
     have KB:=au (fun W (I:Below w.heap.size w W) (i j:Nat) (hi:i<la) (hj:j<lb) (e:WL) (he:e ∈ s.ws)=>(show Calls Tryz.prog 32 #[.agg (sA t.A T.rs.length t.c t.D T.ds.length t.d t.E T.es.length t.e T.drop T.ord T.ini a.k An la ca b.k Bn lb cb),.int .i64 (i:Int),.int .i64 (j:Int),.agg (Jy e)] W (Rp W T a b i j e.m) from by
      have:=Js (ca:=ca) (cb:=cb) (z:=e) (HN.o ab.o W I) ab.o (by rw[<-ae];exact hi) (by rw[<-ad];exact hj) ((al.o W I).ws.all e he) (ak.o.w1 e he).1 (ak.o.w1 e he).2.1 (ak.o.w1 e he).2.2;unfold jS at this;rw[<-ae,<-ad] at this
      exact this))
     have KD:=au (fun W (I:Below w.heap.size w W)=>(show Calls Tryz.prog 30 #[.agg (sA t.A T.rs.length t.c t.D T.ds.length t.d t.E T.es.length t.e T.drop T.ord T.ini a.k An la ca b.k Bn lb cb),.agg (ff a.k An la ca)] W _/\Calls Tryz.prog 30 #[.agg (sA t.A T.rs.length t.c t.D T.ds.length t.d t.E T.es.length t.e T.drop T.ord T.ini a.k An la ca b.k Bn lb cb),.agg (ff b.k Bn lb cb)] W _ from by
      have hN:=HN.o ab.o W I;have hv:=dP.1 ab.o;have k1:=qB (a:=a) (b:=b) (An:=An) (Bn:=Bn) (ca:=ca) (cb:=cb) (c:=ca) hN.ft hN.fz hv.1 hv.2.1 hN.fa hN.wa;have k2:=qB (a:=a) (b:=b) (An:=An) (Bn:=Bn) (ca:=ca) (cb:=cb) (c:=cb) hN.ft hN.fz hv.1 hv.2.2 hN.fb hN.wb;unfold jS uU at k1 k2;rw[<-ae,<-ad] at k1 k2
      exact⟨k1,k2⟩))
     have cr:=au (fun (hp:0<s.ws.length)=>sI.at MK eL (al.o w (fe _ _)).ws.row hp);rw[e2] at H6 z1 ⊢;clear e2;rw[<-ae,<-ad] at H6 ⊢;rw[<-ae] at s1 tw aD ce;rw[<-ad] at q1 tw aE ap;clear aq ae ad HN;go_upto_region 4 with (fail)
     try rw[tw]
     clear e0 e1 tw t0 t1 t2 t3 t4 t5 q0 q1 t6 t7 z0 z1 z2 z3 z4;go_wp2_with (refine Asn.qz rfl (.tmp 54) rfl la eL (by simp[Act.eval]) ?_;refine held ?_);refine lO.mk fun cx hP=>?_;rw[<-Asn.uN la (.slice none 0 0)] at hP;have cf:=H6.o.fresh aO hP;generalize w6.heap.size=go at *
     clear s0 s1 H6 hP;obtain⟨B,hB⟩:∃ B:CH.aU,B=(aj (av g9 (sA t.A T.rs.length t.c t.D T.ds.length t.d t.E T.es.length t.e T.drop T.ord T.ini a.k An la ca b.k Bn lb cb) 93) (aj (av g7 (fj s.b s.A mm s.c s.u.A s.U.length s.u.c s.v.A s.V.length s.v.c s.g.A s.G.length s.g.c) 41) (aj (av g6 (ff b.k Bn lb cb) 28) (aj (av g5 (ff a.k An la ca) 28) (aj (av g4 (kl T t) 25) bG))))):=⟨_,rfl⟩;have cQ:B.Ok:=by rw[hB];exact aO
     have bn:=au (show aI eR w (aj (gy (some ⟨go,0,none⟩) la (List.replicate la ⟨[],none,0⟩)) B) cx from(cf.perm (by rw[hB]:_=aj (aV 39 1 (.slice (some ⟨go,0,none⟩) la la) la (List.replicate la (.slice none 0 0))) B)).imp fun w F hh=>bD hh (fun _ h=>Eh h) (fun _ h=>h))
     have HB:=au (fun W (X:CH.aU) (h:aI eR w (aj X B) W)=>(show(C7 W g9 (.slice t.A T.rs.length t.c) (.slice t.D T.ds.length t.d) (.slice t.E T.es.length t.e) (.int .i64 T.drop) (.int .i64 T.ord) (.int .i64 T.ini) (.int .i64 a.k) (.slice An la ca) (.int .i64 b.k) (.slice Bn lb cb)) /\
       (oA W g7 (.int .i64 s.b) (.slice s.A mm s.c) (.slice s.u.A s.U.length s.u.c) (.slice s.v.A s.V.length s.v.c) (.slice s.g.A s.G.length s.g.c)) /\
       (mz W g6 (.int .i64 b.k) (.slice Bn lb cb))/\(mz W g5 (.int .i64 a.k) (.slice An la ca))/\W.cell? ⟨g4,4,none⟩=some (.int .i64 T.ord) from by
      rw[hB] at h;have h:=h.drop;obtain⟨_,f9⟩:=h.fst;obtain⟨_,f7⟩:=h.drop.fst;obtain⟨_,f6⟩:=h.drop.drop.fst;obtain⟨_,f5⟩:=h.drop.drop.drop.fst;obtain⟨_,f4⟩:=h.drop.drop.drop.drop.fst
      exact⟨⟨ay f9 rfl,ay f9 rfl,ay f9 rfl,ay f9 rfl,ay f9 rfl,ay f9 rfl,ay f9 rfl,ay f9 rfl,ay f9 rfl,ay f9 rfl⟩,⟨ay f7 rfl,ay f7 rfl,ay f7 rfl,ay f7 rfl,ay f7 rfl⟩,⟨ay f6 rfl,ay f6 rfl⟩,⟨ay f5 rfl,ay f5 rfl⟩,ay f4 rfl⟩))
     clear cf hB;obtain⟨-,⟨-,r1,-⟩,-⟩:=HB.o _ _ bn.o;go_wp2_with fail;refine wp_label ?_;go_wp2_with fail;clear r1;go_loopw [11,59] (fun cA kk wr=>∃ (k:Nat) (zs:List cu),cA=.bool true/\kk=.int .i64 k/\k<=mm/\E3 T a b s lb la k zs/\aI eR w (aj (gy (some ⟨go,0,none⟩) la zs) B) wr) (fun _ kk _=>mm-(intOf kk).toNat)
     case atStart=>exact⟨0,_,rfl,rfl,fy _,⟨fun q _ h=>absurd h (oc _),by rw[FF,Nat.zero_div,Nat.zero_mod,Rn]⟩,bn.o⟩
     case round=>
      obtain⟨k,zs,rfl,rfl,hk,bz,hR⟩:=hrel;have HR:=au hR;have ac:=au bz;clear bn hR bz;by_cases be:k<mm
      ·have ar:k<s.ws.length:=by rw[HL.o.2.1];exact be
       obtain⟨b',o',b3,br⟩:=cr.o eL;obtain⟨z,hz⟩:∃ z,z=s.ws[k]'ar:=⟨_,rfl⟩;have hm:z ∈ s.ws:=by rw[hz];exact gw ar
       have az:∀ (q:Nat) u,(mQ z)[q]?=some u->wr.cell? ⟨b',o'+k*4+q,none⟩=some u:=fun q u hu=>br wr (M.o _ _ HR.o) k ar q u (by rw[hz] at hu;exact hu);have y0:wr.cell? ⟨b',o'+k*4,none⟩=some (.int .i64 z.i):=az 0 _ rfl;have y1:=az 1 _ rfl;have y2:=az 2 _ rfl;have y3:=az 3 _ rfl;obtain⟨i,hi⟩:∃ i,i=k / lb:=⟨_,rfl⟩;obtain⟨j,hj⟩:∃ j,j=k % lb:=⟨_,rfl⟩;have ck:i<la:=by rw[hi];exact ui (by rw[mC,<-HL.o.2.2];exact be)
       have co:j<lb:=by rw[hj];exact qS k ap
       have bm:=au (show i=k / lb/\j=k % lb from⟨hi,hj⟩);have K1:=au (fun W (I:Below w.heap.size w W)=>KB.o W I i j ck co z hm);have td:wrap64 ((k:Int) / (lb:Int))=(i:Int):=by
        have e8:(k:Int) / (lb:Int)=(i:Int):=by rw[hi];push_cast;rfl
        rw[e8];exact qk (i:Int) eL
       have cd:IntKind.i64.wrap ((k:Int) / (lb:Int))=(i:Int):=by
        have e8:(k:Int) / (lb:Int)=(i:Int):=by rw[hi];push_cast;rfl
        rw[e8];exact kj (i:Int) eL
       have tm:Int.tmod (k:Int) (lb:Int)=(j:Int):=by rw[hj,NO eL];push_cast;rfl
       have tz:((lb:Int)==0)=false:=by simp;omega
       have ct:¬ ((lb:Int)=0):=by omega
       have cv:¬ (lb=0):=by omega
       have cm:(lb==0)=false:=by simp;omega
       have cJ:(k:Int)<(mm:Int):=by omega
       clear br az hm hi hj;unfold Jy at K1
       have bp:=au (fun (hw:Dy T a b i j z.m) (aa:i<zs.length) (A9:eV) (c9:Nat)=>(show E3 T a b s lb la (k+1) (zs.set i ⟨zs[i].l++[z.h],A9,c9⟩) from by
        have aw:=bm.o;obtain⟨e1,e2⟩:=aw;subst e1 e2 hz
        exact ac.o.next ar ap aa hw))
       have bc:=au (fun (hw:¬ Dy T a b i j z.m)=>(show ¬ fD T a b s.m from fun h=>hw (by
        have aw:=bm.o;obtain⟨e1,e2⟩:=aw;subst e1 e2 hz;have cn:k<s.m.ws.length:=by show k<(s.ws.map WL.m).length;rw[fY];exact ar
        have h3:=h.ws k cn;rw[<-HL.o.1.2] at h3;have e:s.m.ws[k]=s.ws[k].m:=mx ..;rw[e] at h3
        exact h3)))
       have bj:=au (fun (aa:i<zs.length)=>(show zs[i].l.length=j from by
        have aw:=bm.o;have h1:(zs.map (·.l))[i]?=(gM (sH s.m lb) lb la (k / lb) (k % lb))[i]?:=by rw[ac.o.mat]
        have hn:i<(gM (sH s.m lb) lb la (k / lb) (k % lb)).length:=by rw[<-ac.o.mat,fY];exact aa
        rw[lB,ic aa,ic hn] at h1;have h2:=congrArg List.length (Option.some.inj h1);rw[h2];have e3:(gM (sH s.m lb) lb la (k / lb) (k % lb))[i]=(List.range (k % lb)).map (sH s.m lb i):=by rw[Jr,aw.1,if_neg (my _),if_pos rfl]
        rw[e3,fY,uv,aw.2]))
       have aa:i<zs.length:=by
        have h2:=congrArg List.length ac.o.mat;rw[fY,Jq] at h2;omega
       have cc:=au aa;clear hz ar aa;rw[b3];clear b3;have bo:=au (aH HR.o aO (Jy z) 55);unfold Jy at bo;clear HR;go_upto_region 9 with (fail);generalize wr.alloc (.cells (js z.i z.j z.h z.A z.ps.length z.c) 55)=cw at *
       generalize wr.heap.size=g13 at *
       clear y0 y1 y2 y3;have ax:=au ((bo.o.perm (by ac_rfl:_=aj (aj (av g13 (js z.i z.j z.h z.A z.ps.length z.c) 55) (gy (some ⟨go,0,none⟩) la zs)) B)).drew aO);clear bo;obtain⟨-,-,q6,-⟩:=HB.o _ _ ax.o;refine eD [] [0,0,0,0,0,0,0,0,0,0,0,0] (fun W=>(mz W g6 (.int .i64 b.k) (.slice Bn lb cb))) [(fun _=>True),(fun _=>True),(fun _=>True)] ⟨(fun _ _=>trivial),(fun _ h=>h),(fun _ h=>h),trivial⟩ eQ eQ eQ eQ q6 ?_;clear q6;generalize cw.drew=cy at *
       (repeat(first|refine eT ?_|refine eU ?_))
       refine iV ?_
       try rw[cd]
       try rw[tm]
       clear td cd tm tz ct cv cm;obtain⟨⟨c0,c1,c2,c3,c4,c5,c6,c7,c8,c9⟩,-⟩:=HB.o _ _ ax.o;obtain⟨v0,v1,v2,v3,-⟩:=bq ax.o.assoc;have K2:=au (K1.o cy (M.o _ _ ax.o));clear K1;go_wp2_with fail;refine K2.o.mono ?_;rintro e9 a1 ⟨bb,rfl,hbb,I⟩;have a3:=au (ax.o.below aO I);clear K2 ax I c0 c1 c2 c3 c4 c5 c6 c7 c8 c9 v0 v1 v2 v3;dsimp only;cases bb with
       | false=>
        have HE:=au (J.o (bc.o (fun h=>by cases hbb.2 h)) a1 (M.o _ _ a3.o));clear J bc hbb a3 bp bj;go_wp2_with fail
        (try rw[pH])
        go_ret;exact HE.o
       | true=>
        have cg:=au (hbb.1 rfl);clear hbb bc;go_upto_region 12 with (fail);have aa:=cc.o;have a6:=au (fun A9 c9=>bp.o cg.o aa A9 c9);have a7:=au (bj.o aa);have aA:zs.length=la:=by
         have h2:=congrArg List.length ac.o.mat;rw[fY,Jq] at h2;exact h2
        have b8:=au aA;obtain⟨bi,-⟩:=y9 aa (a3.o.perm (by ac_rfl:_=aj (gy (some ⟨go,0,none⟩) la zs) (aj (av g13 (js z.i z.j z.h z.A z.ps.length z.c) 55) B)));rw[aA] at bi
        have ba:=au (fun (A9:eV) (c9:Nat) (l9:List Int) (Y:CH.aU) W (h:aI eR w (aj (aY A9 c9 l9) (aj (aV 39 1 (.slice (some ⟨go,0,none⟩) la la) la (zs.flatMap cu.cl)) Y)) W)=>(show W.cell? ⟨go,i,none⟩=some (.slice zs[i].A j zs[i].c)/\W.frozen? ⟨go,i,none⟩=false from by
         rw[<-aA] at h;have:=Cj aa (h.perm (by rw[aA]:_=_));rw[a7.o] at this
         exact this))
        have b4:=au (fun (A9:eV) (c9:Nat) W (h:aI eR w (aj (aY A9 c9 (zs[i].l++[z.h])) (aj (aV 39 1 (.slice (some ⟨go,0,none⟩) la la) la (zs.flatMap cu.cl)) (aj (aL ((zs.eraseIdx i).map cu.ow)) (aj (av g13 (js z.i z.j z.h z.A z.ps.length z.c) 55) B)))) W)=>(show(W.cell? ⟨go,i,none⟩=some (.slice zs[i].A j zs[i].c)/\W.frozen? ⟨go,i,none⟩=false)/\aI eR w (aj (gy (some ⟨go,0,none⟩) la (zs.set i ⟨zs[i].l++[z.h],A9,c9⟩)) B) (W.setCell ⟨go,i,none⟩ (.slice A9 (j+1) c9)) from by
         refine⟨ba.o _ _ _ _ _ h,?_⟩;rw[<-b8.o] at h;have h2:=Ci aa (n:=j+1) (by rw[gj,a7.o];rfl) aO (h.perm (by rw[b8.o]:_=(aj (aY A9 c9 (zs[i].l++[z.h])) (aj (aV 39 1 (.slice (some ⟨go,0,none⟩) zs.length la) zs.length (zs.flatMap cu.cl)) (aj (aL ((zs.eraseIdx i).map cu.ow)) (aj (av g13 (js z.i z.j z.h z.A z.ps.length z.c) 55) B))))))
         exact(h2.perm (by ac_rfl:_=aj (av g13 (js z.i z.j z.h z.A z.ps.length z.c) 55) (aj (gy (some ⟨go,0,none⟩) la (zs.set i ⟨zs[i].l++[z.h],A9,c9⟩)) B))).drop))
        have a0:=au (bi.drew aO);obtain⟨cz,-⟩:=ba.o _ _ _ _ _ a0.o;obtain⟨_,f13⟩:=a0.o.drop.drop.drop.fst;have v2:a1.drew.cell? ⟨g13,2,none⟩=some (.int .i64 z.h):=ay f13 rfl;have cI:(i:Int)<(la:Int):=by omega
        clear bp bj cc bi f13 a3 ba;generalize zs[i].A=zA at *
        generalize zs[i].c=zc at *
        generalize zs[i].l=zl at *
        clear aa aA;refine eD [8,9,11] [2,2,1,1,1,1,0,0,1,2,2,3] (fun w'=>w'.cell? ⟨go,i,none⟩=some (.slice zA j zc)/\w'.cell? ⟨g13,2,none⟩=some (.int .i64 z.h)) [(fun w'=>w'.cell? ⟨go,i,none⟩=some (.slice zA j zc)),(fun _=>True),(fun _=>True)] ⟨(fun _ h=>h.1),(fun _ _=>trivial),(fun _ h=>h),trivial⟩ eQ eQ eQ eQ (by exact⟨cz,v2⟩) ?_
        (repeat(first|refine eT ?_|refine eU ?_))
        refine bB rfl gh (fun K hK=>?_);go_wp2_with fail;have bx:(a1.drew.alloc (.cells (fR z.h) 3)).cell? ⟨go,i,none⟩=some (.slice zA j zc):=aG (w:=a1.drew) cz ((fe _ _).alloc (fL _) _);refine hK.o _ _ bx ?_;clear hK bx
        (repeat(first|refine eT ?_|refine eU ?_))
        refine bB rfl gh (fun K hK=>?_);refine Ei (.tmp 86) (.tmp 89) rfl (l:=zl) (i:=z.h) a7.o rfl rfl eL aO a0.o ?_;intro A9 c9 ao hr;obtain⟨⟨e0,e1⟩,hE⟩:=b4.o A9 c9 ao hr;have HE:=au hE;have cG:=au (a6.o A9 c9);refine hK.o _ _ trivial ?_;clear hK hr b4 a0 cz v2 hE a6
        (repeat(first|refine eT ?_|refine eU ?_))
        refine bB rfl gh (fun K hK=>?_);go_wp2_with fail;refine hK.o _ _ trivial (iV ?_);clear hK e0 e1;go_wp2_with fail
        go_roundw
        case rel=>exact⟨k+1,_,rfl,by go_num,be,cG.o,HE.o⟩
        case measure=>simp[intOf];omega
      ·have b5:k=mm:=by omega
       have bv:=au (fun W (Y:CH.aU) (h:aI eR w (aj (gy (some ⟨go,0,none⟩) la zs) Y) W)=>(show ∃ V',uJ W (some ⟨go,0,none⟩) (sL s.m a b) V' from by
        obtain⟨F,hF⟩:=h.fst;have b9:=Ef hF;have e:zs.map (·.l)=sL s.m a b:=by
         rw[ac.o.mat,b5,HL.o.2.2,Nat.mul_div_cancel _ ap,Nat.mul_mod_left];unfold sL;rw[<-HL.o.1.1,<-HL.o.1.2];exact Yh
        rw[e] at b9
        exact⟨_,b9⟩))
       have HC:=au (fun W (X:CH.aU) (h:aI eR w (aj X B) W)=>(show(fun W=>(C7 W g9 (.slice t.A T.rs.length t.c) (.slice t.D T.ds.length t.d) (.slice t.E T.es.length t.e) (.int .i64 T.drop) (.int .i64 T.ord) (.int .i64 T.ini) (.int .i64 a.k) (.slice An la ca) (.int .i64 b.k) (.slice Bn lb cb))/\(mz W g6 (.int .i64 b.k) (.slice Bn lb cb))/\(mz W g5 (.int .i64 a.k) (.slice An la ca))) W from by
        obtain⟨h1,-,h3,h4,-⟩:=HB.o W X h
        exact⟨h1,h3,h4⟩))
       have a2:=au (HR.o.drew aO);have cH:¬ ((k:Int)<(mm:Int)):=by omega
       go_upto_region 16 with (fail);have b7:=au (KD.o wr.drew (M.o _ _ a2.o)).1;refine eD [2,5] [0,0,1,1,1,2,2,2] (fun W=>(C7 W g9 (.slice t.A T.rs.length t.c) (.slice t.D T.ds.length t.d) (.slice t.E T.es.length t.e) (.int .i64 T.drop) (.int .i64 T.ord) (.int .i64 T.ini) (.int .i64 a.k) (.slice An la ca) (.int .i64 b.k) (.slice Bn lb cb))/\(mz W g6 (.int .i64 b.k) (.slice Bn lb cb))/\(mz W g5 (.int .i64 a.k) (.slice An la ca))) [(fun W=>(C7 W g9 (.slice t.A T.rs.length t.c) (.slice t.D T.ds.length t.d) (.slice t.E T.es.length t.e) (.int .i64 T.drop) (.int .i64 T.ord) (.int .i64 T.ini) (.int .i64 a.k) (.slice An la ca) (.int .i64 b.k) (.slice Bn lb cb))/\(mz W g6 (.int .i64 b.k) (.slice Bn lb cb))/\(mz W g5 (.int .i64 a.k) (.slice An la ca))),(fun _=>True),(fun _=>True)] ⟨(fun _ h=>h),(fun _ _=>trivial),(fun _ h=>h),trivial⟩ eQ eQ eQ eQ (HC.o _ _ a2.o) ?_;generalize wr.drew=cR at *
       (repeat(first|refine eT ?_|refine eU ?_))
       refine bB rfl gh (fun K hK=>?_);go_wp2_with fail;refine b7.o.mono ?_;rintro e9 cD ⟨A5,c5,rfl,hp⟩;have a4:=au ((a2.o.fresh aO hp).perm (by ac_rfl:_=aj (aj (bE A5 c5 (dL T a)) (gy (some ⟨go,0,none⟩) la zs)) B));have b6:=au (KD.o cD (M.o _ _ a4.o)).2;clear b7 KD a2 hp;dsimp only;refine hK.o _ _ (HC.o _ _ a4.o) ?_;clear hK
       (repeat(first|refine eT ?_|refine eU ?_))
       refine bB rfl gh (fun K hK=>?_);go_wp2_with fail;refine b6.o.mono ?_;rintro e9 ao ⟨A6,c6,rfl,hp⟩;have am:=au ((a4.o.fresh aO hp).perm (by ac_rfl:_=aj (gy (some ⟨go,0,none⟩) la zs) (aj (aj (bE A5 c5 (dL T a)) (bE A6 c6 (dL T b))) B)));clear b6 a4 hp;dsimp only;refine hK.o _ _ trivial ?_;clear hK
       (repeat(first|refine eT ?_|refine eU ?_))
       refine iV ?_;obtain⟨V9,hm⟩:=bv.o _ _ am.o;obtain⟨_,f5⟩:=am.o.drop.assoc.fst;obtain⟨_,f6⟩:=am.o.drop.assoc.drop.fst;have hr:=al.o ao (M.o _ _ am.o);have bf:Calls Tryz.prog 33 #[.slice (some ⟨go,0,none⟩) la la,.slice A5 la c5,.slice A6 lb c6,.slice s.u.A s.U.length s.u.c,.slice s.v.A s.V.length s.v.c] ao (Asn.rZ ao (kx (sL s.m a b) (dL T a) (dL T b) s.U s.V)):=abw (s:=s.m) HL.o.1.1 HL.o.1.2 ab.o hm (fE f5) (fE f6) hr.u hr.v;have a8:∀ W,Below ao.heap.size ao W->Calls Tryz.prog 34 #[.slice (some ⟨go,0,none⟩) la la,.slice A5 la c5,.slice A6 lb c6,.slice s.g.A s.G.length s.g.c] W (Asn.rZ W (nT (sL s.m a b) (dL T a) (dL T b) s.G)):=fun W I=>Ym (s:=s.m) HL.o.1.1 HL.o.1.2 ab.o (hm.below I) (aZ (fE f5) I) (aZ (fE f6) I) (aZ hr.g I) ak.o.g0;obtain⟨⟨x,b1⟩,hx⟩:∃ r,r=kx (sL s.m a b) (dL T a) (dL T b) s.U s.V:=⟨_,rfl⟩;obtain⟨⟨y,b2⟩,hy⟩:∃ r,r=nT (sL s.m a b) (dL T a) (dL T b) s.G:=⟨_,rfl⟩;rw[<-hx] at bf;rw[<-hy] at a8;have af:=au (show(x,b1)=kx (sL s.m a b) (dL T a) (dL T b) s.m.U s.m.V/\(y,b2)=nT (sL s.m a b) (dL T a) (dL T b) s.m.G from⟨hx,hy⟩);have cP:=adE hx.symm (by rw[show(dL T a).length=la from by rw[HL.o.1.1];simp[dL]];exact aD) (by rw[show(dL T b).length=lb from by rw[HL.o.1.2];simp[dL]];exact aE);have K1:=au bf;have K2:=au a8;clear bf a8 hm f5 f6 hr hx hy bv;obtain⟨-,⟨-,-,p2,p3,p4⟩,-⟩:=HB.o _ _ am.o.drop;go_wp2_with fail;refine K1.o.mono ?_;rintro e9 cq ⟨rfl,I⟩;have bk:=au (am.o.below aO I);have K3:=au (K2.o cq I);clear K1 K2 am I p2 p3 p4;dsimp only;obtain⟨-,⟨-,-,p2,p3,p4⟩,-⟩:=HB.o _ _ bk.o.drop;go_wp2_with fail;refine K3.o.mono ?_;rintro e9 a5 ⟨rfl,I⟩;have ag:=au (bk.o.below aO I);clear K3 bk I p2 p3 p4;dsimp only;obtain⟨-,⟨p0,-⟩,-,-,p4⟩:=HB.o _ _ ag.o.drop;have bu:=eH.1 (bX.1 (dP.1 ab.o).1).1.2.2.2.1;obtain⟨o1,o2⟩:=bu;have tw:wrap64 (x+T.ord)=x+T.ord:=qk _ eL;cases b1 with
       | false=>
        have HE:=au (J.o (fun h=>by obtain⟨x',y',h1,-⟩:=h.fin;rw[<-af.o.1] at h1;cases h1) a5 (M.o _ _ ag.o));clear J af ac ag;go_wp2_with fail
        (try rw[pH])
        go_ret;exact HE.o
       | true=>
        cases b2 with
        | false=>
         have HE:=au (J.o (fun h=>by obtain⟨x',y',-,h1,-⟩:=h.fin;rw[<-af.o.2] at h1;cases h1) a5 (M.o _ _ ag.o));clear J af ac ag;go_wp2_with fail
         (try rw[pH])
         go_ret;exact HE.o
        | true=>
         by_cases cE:s.b<=min (x+T.ord) y
         ·have HP:=au (show fD T a b s.m from by
           have h2:=af.o;refine⟨ab.o,HG.o.1,HG.o.2,?_,fun q hq=>?_,x,y,h2.1.symm,h2.2.symm,?_,?_⟩
           ·show(s.ws.map WL.m).length=_
            rw[fY,HL.o.2.1,HL.o.2.2,HL.o.1.1,HL.o.1.2]
           ·have bw:q<s.ws.length:=by have:q<(s.ws.map WL.m).length:=hq;rw[fY] at this;exact this
            have h3:=ac.o.all q bw (by rw[b5,<-HL.o.2.1];exact bw);have e:s.m.ws[q]=s.ws[q].m:=mx ..;rw[e,<-HL.o.1.2];exact h3
           ·show s.b<=x+T.ord;omega
           ·show s.b<=y;omega)
          have HE:=au (show Jt w T a b s.m (.returned (.bool true)) a5 from⟨true,rfl,⟨fun _=>HP.o,fun _=>rfl⟩,M.o _ _ ag.o⟩);clear J af ac ag HP;go_wp2_with fail
          (try rw[pH])
          go_ret;exact HE.o
         ·have HE:=au (J.o (fun h=>by obtain⟨x',y',h1,h2,h3,h4⟩:=h.fin;rw[<-af.o.1] at h1;rw[<-af.o.2] at h2;cases h1;cases h2;exact cE (Int.le_min.2 ⟨h3,h4⟩)) a5 (M.o _ _ ag.o));clear J af ac ag;go_wp2_with fail
          (try rw[pH])
          go_ret;exact HE.o
    ·have t6:(s.ws.length != mm)=true:=by simp[e2]
     have t7:((s.ws.length:Int) != (mm:Int))=true:=by simp;omega
     have an:=au (fun W I=>J.o (fun h=>by have:=h.len;have h2:(s.ws.map WL.m).length=_:=this;rw[fY,<-aq] at h2;exact e2 h2) W I);clear J HN al ak aq;go_wp2
     (try rw[pH]);go_ret
     exact an.o _ (M.o _ _ H6.o)
end Go.Proofs.YtbioiclabmbedaaGreatDoor
namespace Go.Proofs.YtbioiclabmbedaaGreatDoor.Sl
open Go.RowKit Go.CH Go.CH.bA
open Asn (aY dS fE uJ Vec ints cF lF mJ)
open Go.ChangeMaps (setBlock)
variable{a b:List Int}{w:World}{A:eV}{c:Nat}
theorem Qv{k:Nat}(h:a.take k=b.take k)(ha:k<a.length)(hb:k<b.length)(he:a[k]=b[k]):a.take (k+1)=b.take (k+1):=by
 rw[kq ha,kq hb,h,he]
theorem Yn{B:eV}{d:Nat}(hA:Vec w A a)(hB:Vec w B b)(hl:a.length<=1000000):
  Calls Tryz.prog 20 #[.slice A a.length c,.slice B b.length d] w (aT w (.bool (decide (a=b)))):=by
 have HA:=au hA;have HB:=au hB;obtain⟨n,hn⟩:∃ n,n=a.length:=⟨_,rfl⟩;obtain⟨m,hm⟩:∃ m,m=b.length:=⟨_,rfl⟩;rw[<-hn] at hl;have HN:=au hn;have HM:=au hm;rw[<-hn,<-hm];clear hA hB hn hm;by_cases ab:n=m
 ·subst ab
  go_enter Tryz.func20,Tryz.ntmps20
  go_wp2;go_loopw [5] (fun i wr=>∃ k:Nat,k<=n/\i=.int .i64 k/\a.take k=b.take k/\Below w.heap.size w wr) (fun i _=>n-(intOf i).toNat)
  case atStart=>exact⟨0,fy _,rfl,rfl,fe _ _⟩
  case round=>
   obtain⟨k,hk,rfl,ht,hb⟩:=hrel;have HT:=au ht;have J:=au (dB hb);have af:=au hb;clear ht hb;by_cases ae:k<n
   ·have ad:k<a.length:=by rw[<-HN.o];exact ae
    have aa:k<b.length:=by rw[<-HM.o];exact ae
    obtain⟨b1,o1,rfl,ac⟩:=HA.o.at eL;obtain⟨b2,o2,rfl,M⟩:=HB.o.at eL;have c1:=ac _ J.o k ad;have c2:=M _ J.o k aa;have HX:=au (Qv HT.o ad aa);have HY:=au (show a[k]≠b[k]->a≠b from fun h e=>h (by subst e;rfl));generalize a[k]=x at *
    generalize b[k]=y at *
    clear ac M;by_cases I:x=y
    ·have HS:=au (HX.o I);clear HX;subst I;go_wp2_with fail;refine aP (fun w'=>w'=wr.drew) eQ eQ rfl ?_;generalize wr.drew=wd at *
     (repeat(first|refine bM ?_|refine bN ?_))
     refine lex_nil ?_;go_wp2
     go_roundw
     case rel=>exact⟨k+1,by omega,by go_num,HS.o,J.o⟩
     case measure=>simp[intOf];omega
    ·have t1:(x==y)=false:=by simpa using I
     have t2:(x != y)=true:=by simpa using I
     have HF:=au (decide_eq_false (HY.o I));clear I;go_wp2_with fail;refine aP (fun w'=>w'=wr.drew) eQ eQ rfl ?_;generalize wr.drew=wd at *
     (repeat(first|refine bM ?_|refine bN ?_))
     refine lex_nil ?_;go_wp2;go_ret;exact aK HF.o J.o
   ·obtain rfl:k=n:=by omega
    have HF:=au (show decide (a=b)=true by
     rw[decide_eq_true_eq];have:=HT.o;rw[HN.o,kz,<-HN.o,HM.o,kz] at this
     exact this)
    clear HT;go_wp2;go_ret;exact aK HF.o af.o
 ·have HF:=au (show decide (a=b)=false by
   rw[decide_eq_false_iff_not];intro e
   exact ab (by rw[HN.o,HM.o,e]))
  go_enter Tryz.func20,Tryz.ntmps20
  go_wp2;go_ret;exact aK HF.o (fe _ _)
end Go.Proofs.YtbioiclabmbedaaGreatDoor.Sl
