/- A part of the proof: lemmas. -/
import Derived.Test.YtbnnlpjpnihheaaGreatDoorMW6
import Derived.Test.YtbnnlpjpnihheaaGreatDoorMW7
set_option maxHeartbeats 16000000
set_option maxRecDepth 100000
set_option linter.all false
namespace Go.Proofs.YtbnnlpjpnihheaaGreatDoor
open Go.RowKit Go.CH Go.CH.Scr Go.CH.eG Go.CH.Mtc
open Go.ChangeMaps (setBlock)
def RG(w:World)(k:Int)(l:Bs)(e:Ending)(w':World):Prop:=
 ∃ A c,e=.returned (.slice A (bg k l).length c)/\Below w.heap.size w w'/\fM w' A (bg k l)/\(bg k l).length<=c
theorem Ep(k:Int)(s:ByteArray)(w:World)(hs:s.size<=1000000)(J:LZ w):Calls Tryz.prog 48 #[.int .i64 k,.string s] w (RG w k (bl s)):=by
 have h:=au (uR k s w hs J);have HZ:=au J;clear J;by_cases p:word k (bl s)=true
 ·have z:fE k (bl s)=(lower (bl s),0):=by unfold fE;rw[if_pos p]
  have e2:aU k (lower (bl s))=((aM k (lower (bl s))).1,0):=by unfold aU;rw[if_pos (iA p)]
  have I:bg k (bl s)=(aM k (lower (bl s))).1:=y8 p;have q:=au (fun W (J:LZ W)=>Co k (bs (lower (bl s))) W (by rw[bB];unfold lower;rw[YI,jG];exact hs) J);simp only[fO] at q;unfold PI at q;simp only[e2] at q;unfold aL at h;simp only[z] at h;unfold RG;rw[I];clear z e2 I p
  go_enter Tryz.func48,Tryz.ntmps48
  go_wp2_with fail;refine h.o.mono ?_;rintro e9 w1 ⟨rfl,hb⟩;have M:=au hb;have F:=au (q.o w1 (HZ.o.below hb));clear h q hb;dsimp only;go_wp2_with fail;refine F.o.mono ?_;rintro e9 w2 ⟨A,c,rfl,hb,hA,hc⟩;have V:=au (aG M.o hb);have HA:=au hA;have HC:=au hc;clear F M hb hA hc;dsimp only;go_wp2;go_ret;exact⟨A,c,rfl,V.o,HA.o,HC.o⟩
 ·have z:fE k (bl s)=([],1):=by unfold fE;rw[if_neg p]
  have I:bg k (bl s)=[]:=by unfold bg;rw[if_neg p]
  unfold aL at h;simp only[z] at h;unfold RG;rw[I];clear z I p
  go_enter Tryz.func48,Tryz.ntmps48
  go_wp2_with fail;refine h.o.mono ?_;rintro e9 w1 ⟨rfl,hb⟩;have M:=au hb;clear h hb;dsimp only;go_wp2;go_ret;exact⟨none,0,rfl,M.o,Src.none_,YG _⟩
theorem yL(k:Int)(x:Bs)(w:World)(hs:x.length<=1000000)(hz:LZ w):Calls Tryz.prog 48 #[.int .i64 k,.string (bs x)] w (RG w k x):=by
 have:=Ep k (bs x) w (by rw[bB];exact hs) hz;rw[fO] at this;exact this
theorem Mr(k:Int)(x:Bs)(w:World)(hs:x.length<=1000000)(hz:LZ w):Calls Tryz.prog 23 #[.int .i64 k,.string (bs x)] w (aL w (.tuple #[.string (bs (fE k x).1),.int .i64 (fE k x).2])):=by
 have:=uR k (bs x) w (by rw[bB];exact hs) hz;rw[fO] at this;exact this
theorem Hz:∀ l:List Bs,Lib.join l []=l.flatten
 | []=>rfl
 | x::l=>by
  rw[Lib.join_cons,qq];congr 1;unfold Lib.joinTail;congr 1;exact(Zu (fun y _=>Z8 y)).trans (List.map_id _)
variable{w:World}{A:fj}{c n:Nat}{l:List Bs}{T:fy}{k:Int}
theorem Ia(hA:fM w A l)(V:l.length<=c)(hl:l.length<=1000000)(hf:l.flatten.length<=1000000000):
  Calls Tryz.prog 49 #[.slice A l.length c,.string ⟨#[]⟩] w (aL w (.string (bs l.flatten))):=by
 by_cases M:0<l.length
 ·obtain⟨b,o,rfl,q⟩:=hA.at M;have J:((l.map bs).map (·.data.toList))=l:=by rw[lj];exact List.map_id'' (fun x=>fO x) _
  have h:=Tryz.strings_Join b o c (l.map bs) ⟨#[]⟩ w (fun j x p=>by
   rw[Y6] at p;cases z:l[j]? with
   | none=>rw[z] at p;cases p
   | some y=>
    rw[z] at p;have p:some (bs y)=some x:=p;injection p with p
    obtain⟨I,F⟩:=List.getElem?_eq_some_iff.1 z
    rw[q w (YC _ _) j I,F,p]) (by have:=q w (YC _ _) 0 M;exact YW _ _ this) (by rw[YI];omega) (by rw[YI];exact V) (by
    rw[J]
    show(Lib.join l []).length<=_
    rw[Hz];omega)
  rw[J,YI] at h;refine h.mono ?_;rintro e w' ⟨rfl,hb⟩;refine⟨?_,hb⟩
  show Ending.returned (.string ⟨(Lib.join l []).toArray⟩)=_
  rw[Hz];rfl
 ·have e:l=[]:=Y0 ff;subst e;refine(Tryz.strings_Join_none A c ⟨#[]⟩ w).mono ?_;rintro e w' ⟨rfl,rfl⟩;exact⟨rfl,YC _ _⟩
def oZ(T:fy)(k:Int)(x:Bs):Int × Int:=if word k x&&bC T then(bH T k x,0) else(0,1)
theorem RH{x:Bs}(hn:n<T.ds.length)(I:∀ j (h:j<T.ds.length),j<n->¬ (T.ds[j].k=k/\T.ds[j].w=lower x))(q:T.ds[n].k=k/\T.ds[n].w=lower x):bH T k x=T.ds[n].c:=by
 unfold bH;have:T.ds.find? (fun d=>decide (d.k=k)&&decide (d.w=lower x))=some T.ds[n]:=by
  rw[ZU];refine⟨by simp[q.1,q.2],n,hn,rfl,fun j F=>?_⟩;have:=I j ff F;simp only[Z4,mL,decide_eq_false_iff_not];by_cases p:T.ds[j].k=k
  ·exact .inr fun z=>this ⟨p,z⟩
  ·exact .inl p
 rw[this]
theorem OH{x:Bs}(q:∀ j (h:j<T.ds.length),¬ (T.ds[j].k=k/\T.ds[j].w=lower x)):bH T k x=T.drop:=by
 unfold bH;have:T.ds.find? (fun d=>decide (d.k=k)&&decide (d.w=lower x))=none:=by
  rw[nh];intro d hd;obtain⟨j,p,rfl⟩:=List.mem_iff_getElem.1 hd;have:=q j p;simp only[YF,decide_eq_true_eq];exact this
 rw[this]
theorem Er{a:TA}(hT:iR w T a)(hz:LZ w)(k:Int)(x:Bs)(hx:x.length<=1000000):
  Calls Tryz.prog 21 #[eu T a,.int .i64 k,.string (bs x)] w (aL w (.tuple (kx (oZ T k x).1 (oZ T k x).2))):=by
 have I:=aH (aI.begin w) aO (dh T a) 25;have p:=au (show Below w.heap.size w _ from I.mod.below (fun _ _ h=>h));have J:=au (Mr k x (w.alloc (.cells (dh T a) 25)) hx (hz.below p.o));have KV:=au (fun W (q:Below w.heap.size w W)=>pO (hT.below q) (hz.below q))
 have z:=au (fun W (h:Below (w.alloc (.cells (dh T a) 25)).heap.size (w.alloc (.cells (dh T a) 25)) W)=>(show (iz W w.heap.size (.slice a.A T.rs.length a.c) (.slice a.D T.ds.length a.d) (.slice a.E T.es.length a.e) (.int .i64 T.drop) (.int .i64 T.ord) (.int .i64 T.ini)) from by
  obtain⟨f,hf⟩:=(I.below aQ h).fst
  exact⟨aB hf rfl,aB hf rfl,aB hf rfl,aB hf rfl,aB hf rfl,aB hf rfl⟩))
 have az:=au hT.ds;have a1:=au hT.ld;have a2:=au (fun (n:Nat) (hn:n<T.ds.length) q hh=>RH (T:=T) (k:=k) (x:=x) hn q hh);have al:=au (fun q=>OH (T:=T) (k:=k) (x:=x) q);clear hT hz I hx;unfold eu at KV ⊢;unfold dh at p J KV z ⊢;generalize T.rs.length=n1 at *
 obtain⟨n2,am⟩:∃ n,n=T.ds.length:=⟨_,rfl⟩;have ap:=au am;rw[<-am] at p J KV z a1 ⊢;clear am;generalize T.es.length=n3 at *
 obtain⟨aA,ac,aD,ad,aE,ae⟩:=a;dsimp only at p J KV z az ⊢;by_cases hw:word k x=true
 ·have e1:fE k x=(lower x,0):=by unfold fE;rw[if_pos hw]
  have a0:=au (show bC T=true->oZ T k x=(bH T k x,0) from fun h=>by unfold oZ;rw[hw,h];rfl);have aw:=au (show bC T=false->oZ T k x=(0,1) from fun h=>by unfold oZ;rw[hw,h];rfl);rw[e1] at J;generalize oZ T k x=dv at *
  unfold aL at J;clear e1 hw
  go_enter Tryz.func21,Tryz.ntmps21
  go_wp2_with fail;refine J.o.mono ?_;rintro e9 w2 ⟨rfl,q⟩;generalize w.alloc (.cells (fw aA n1 ac aD n2 ad aE n3 ae T.drop T.ord T.ini) 25)=w1 at *
  generalize hg:w.heap.size=g3 at z ⊢;clear hg;have ao:=au q;obtain⟨t0,t1,t2,t3,t4,t5⟩:=z.o _ q;have ar:=au (KV.o w2 (aG p.o q));clear J KV q;dsimp only;go_wp2_with fail;refine ar.o.mono ?_;rintro e9 w3 ⟨rfl,q⟩;have aa:=au (aG ao.o q);clear ar ao q t0 t1 t2 t3 t4 t5;dsimp only;cases hv:bC T with
  | false=>
   obtain rfl:=aw.o hv;have HF:=au (aG p.o aa.o);go_wp2;refine bodyPost_ret (results_tmp2 rfl _ _ _) rfl ?_;exact⟨rfl,HF.o⟩
  | true=>
   obtain rfl:=a0.o hv;clear hv aw a0;obtain⟨t0,t1,t2,t3,t4,t5⟩:=z.o _ aa.o;go_wp2_with fail;go_loopw [28] (fun i wr=>∃ n:Nat,i=.int .i64 n/\n<=n2/\(∀ j (h:j<T.ds.length),j<n->¬ (T.ds[j].k=k/\T.ds[j].w=lower x))/\Below w1.heap.size w1 wr) (fun i _=>n2-(intOf i).toNat)
   case atStart=>exact⟨0,rfl,YE _,fun j _ h=>absurd h (Zn _),aa.o⟩
   case round=>
    clear aa t0 t1 t2 t3 t4 t5;obtain⟨n,rfl,hn,hs,ab⟩:=hrel;have F:=au ab;have HS:=au hs;clear ab hs;by_cases an:n<n2
    ·have af:n<T.ds.length:=by rw[<-ap.o];exact an
     obtain⟨b,o,rfl,hc⟩:=jV.at az.o ff;have aq:=aG p.o F.o;obtain⟨c0,c1,c2⟩:=hc _ aq n af;have a4:(n:Int)<1000000:=by have:=a1.o;omega
     have V:=au (show n+1<=n2 from an);have ax:=au (fun hh=>a2.o n af HS.o hh)
     have ak:=au (fun (hh:¬ (T.ds[n].k=k/\T.ds[n].w=lower x))=>(show ∀ j (h:j<T.ds.length),j<n+1->¬ (T.ds[j].k=k/\T.ds[j].w=lower x) from fun j hj a3=>by
      by_cases e:j=n
      ·subst e;exact hh
      ·exact HS.o j hj ff))
     clear hc aq hn HS;generalize T.ds[n]=d at *
     clear af;obtain⟨dk,dw,dc⟩:=d;dsimp only at c0 c1 c2 ax ak;go_upto_region 7 with (fail);have h7:=aH (aI.begin wr) aO (kt dk (bs dw) dc) 104;obtain⟨f7,M⟩:=h7.fst;have d0:=aB (i:=0) M rfl;have d1:=aB (i:=1) M rfl;have d2:=aB (i:=2) M rfl;have ag:=au (aG F.o (h7.mod.below (fun _ _ h=>h)));clear M f7 h7 c0 c1 c2 F;generalize wr.alloc (.cells (kt dk (bs dw) dc) 104)=w7 at *
     generalize wr.heap.size=a5 at *
     by_cases I:dk=k
     ·have k1:(dk==k)=true:=by simp[I]
      by_cases h2:dw=lower x
      ·have k2:((bs dw).toList==(bs (lower x)).toList)=true:=by rw[dI];simp[h2]
       have HF:=au (show aL w (.tuple (kx (bH T k x) 0)) (.returned (.tuple (kx dc 0))) w7 from by rw[ax.o ⟨I,h2⟩];exact⟨rfl,aG p.o ag.o⟩);clear I h2;go_wp2;refine bodyPost_ret (results_tmp2 rfl _ _ _) rfl ?_;exact HF.o
      ·have k2:((bs dw).toList==(bs (lower x)).toList)=false:=by rw[dI];simpa using fun h=>h2 (nO h)
       have ai:=au (ak.o (fun h=>h2 h.2));clear I h2;go_wp2_with fail
       go_roundw
       case rel=>exact⟨n+1,by go_num,V.o,ai.o,ag.o⟩
       case measure=>have:=V.o;simp[intOf];omega
     ·have k1:(dk==k)=false:=by simp[I]
      have ai:=au (ak.o (fun h=>I h.1));clear I;go_wp2_with fail
      go_roundw
      case rel=>exact⟨n+1,by go_num,V.o,ai.o,ag.o⟩
      case measure=>have:=V.o;simp[intOf];omega
    ·obtain⟨t0,t1,t2,t3,t4,t5⟩:=z.o _ F.o;have HF:=au (show aL w (.tuple (kx (bH T k x) 0)) (.returned (.tuple (kx T.drop 0))) wr from by rw[al.o (fun j h=>HS.o j h (by have:=ap.o;omega))];exact⟨rfl,aG p.o F.o⟩);go_wp2;refine bodyPost_ret (results_tmp2 rfl _ _ _) rfl ?_;exact HF.o
 ·have e1:fE k x=([],1):=by unfold fE;rw[if_neg hw]
  have e2:oZ T k x=(0,1):=by unfold oZ;rw[oc] at hw;rw[hw];rfl
  rw[e1] at J;rw[e2];unfold aL at J;clear e1 e2 hw
  go_enter Tryz.func21,Tryz.ntmps21
  go_wp2_with fail;refine J.o.mono ?_;rintro e9 w2 ⟨rfl,q⟩;have HF:=au (aG p.o q);clear J KV q;dsimp only;go_wp2;refine bodyPost_ret (results_tmp2 rfl _ _ _) rfl ?_;exact⟨rfl,HF.o⟩
variable{F0 F:Nat->Prop}{w0 W w':World}{a:Act}{K:Act->World->Prop}{Q:Exit->Act->World->Prop}{t e:TypeId}{g:Nat}{xs:List Value}{l:List Vr}
theorem sS{Y:CH.bq}{o:Oper}{z:Value}{size bytes:Nat}(S:d9 Tryz.prog t e z size bytes)(M:bytes<=1000)(s x:Operand)(ho:o.op=.call { callee:=.builtin .append,args:=#[s,x],argTypes:=#[t,t] }){cs:List Value}(hsv:a.eval s=.slice A n c)(hx:a.eval x=.slice (some ⟨g,0,none⟩) 1 1)(hn:n<=1000000)(hY:Y.Ok)(h:aI F0 w0 (aj (aZ e size (.slice A n c) n xs) Y) W)(h1:cs.length=size)(h2:∀ u ∈ cs,u.oneCell'=true)(hg:∀ (j:Nat) u,cs[j]?=some u->W.cell? ⟨g,j,none⟩=some u)(hK:∀ A' c' w',aI F0 w0 (aj (aZ e size (.slice A' (n+1) c') (n+1) (xs++cs)) Y) w'->K (a.put o.dst (.slice A' (n+1) c')) w'):o.wp Tryz.prog a W K Q:=by
 obtain⟨F7,F,-,J⟩:=h.take cB hY;have q:Src W (some ⟨g,0,none⟩) 1 size cs:=by
  refine⟨by rw[h1];exact(rm _).symm,h2,fun _=>⟨_,rfl,fun j u hu=>?_⟩⟩;have e:(⟨g,0,none⟩:Addr).add j=⟨g,j,none⟩:=by unfold Addr.add;split<;>simp_all
  rw[e];exact hg j u hu
 refine yR s x ho S _ 0 (v:=.slice A n c) (n:=n) (xs:=xs) hsv F.1 (A:=some ⟨g,0,none⟩) (m:=1) (c:=1) (news:=cs) hx q (by unfold maxLen;omega) (by
  have:(n+1)*bytes<=(n+1)*1000:=Nat.mul_le_mul_left _ M
  omega) (YE _) ?_
 intro v8 w8 p V I;have S8:=J _ _ (iy F p V I);obtain⟨A8,c8,rfl⟩:=fV p;exact hK A8 c8 w8 S8
def gZ(v:Vr):List Value:=[.string (bs v.w),.int .i64 v.e,.int .i64 v.c]
theorem uJ(l:List Vr):∀ u ∈ l.flatMap gZ,u.oneCell'=true:=by
 intro u hu;obtain⟨x,-,hx⟩:=List.mem_flatMap.1 hu;unfold gZ at hx;simp only[YV,YT,or_false] at hx;rcases hx with rfl|rfl|rfl<;>rfl
def jS(A:fj)(c:Nat)(l:List Vr):CH.bq:=aZ 60 3 (.slice A l.length c) l.length (l.flatMap gZ)
theorem rM:(jS A c l).Ok:=cB
instance {A:fj} {c:Nat} {l:List Vr}:(jS A c l).Ok:=rM
abbrev Vq(w:World)(A:fj)(l:List Vr):Prop:=tH gZ 3 w A l
theorem Kg(h:jS A c l w F):Vq w A l:=iG h (uJ l)
theorem VU:d9 Tryz.prog 54 60 (.agg (il ⟨#[]⟩ 0 0)) 3 32:=⟨Tryz.underlying54,by kernel_rfl,by decide,by decide⟩
theorem Ir{x:Vr}(hn:l.length=n):aZ 60 3 (.slice A (n+1) c) (n+1) (l.flatMap gZ++gZ x)=jS A c (l++[x]):=by
 subst hn;unfold jS;rw[ZY,Yz,Y1,ZT]
theorem MN{p:Vr}:bS W fh (jS (some ⟨W.heap.size,0,none⟩) 1 [p]) (W.alloc (.cells (gZ p).toArray 60)):=by
 refine sJ ⟨rfl,.inr ⟨W.heap.size,1,(gZ p).toArray,rfl,YG _,heap_alloc_new W _,YG _,by decide,rfl,rfl⟩⟩ ((YC _ _).alloc (YG _) _)
theorem Ez(hb:Below w.heap.size w w'):bS w fh (jS none 0 []) w':=⟨fun _=>False,fZ _ _ _,Mod.of_below hb,fun i hi=>hi.elim⟩
def jE(T:fy)(k:Int)(x:Bs):List Vr × Int:=if word k x&&bC T then(eP T k x,0) else([],1)
def nY(w:World)(T:fy)(k:Int)(x:Bs)(e:Ending)(w':World):Prop:=
 ∃ A c,e=.returned (.tuple (j1 A (jE T k x).1.length c (jE T k x).2))/\bS w fh (jS A c (jE T k x).1) w'
def dz(T:fy)(k:Int)(x:Bs)(n:Nat):List Vr:=⟨(bg k x).flatten,-1,0⟩::(T.es.zipIdx.take n).filterMap (j3 k (bg k x))
theorem sU{x:Bs}:dz T k x 0=[⟨(bg k x).flatten,-1,0⟩]:=by unfold dz;rw[k8];rfl
theorem Iu{x:Bs}(h:T.es.length<=n):dz T k x n=eP T k x:=by
 unfold dz eP;rw[ZR (by rw[lx];exact h)]
theorem Dn{x:Bs}(h:n<T.es.length):dz T k x (n+1)=dz T k x n++(match j3 k (bg k x) (T.es[n],n) with|some v=>[v]|none=>[]):=by
 unfold dz;have q:n<T.es.zipIdx.length:=by rw[lx];exact h
 rw[YD q,Zh,Zq];congr 2;rw[List.getElem_zipIdx,Zx];cases p:j3 k (bg k x) (T.es[n],n) with
 | none=>simp[p]
 | some v=>simp[p]
theorem Iw{x:Bs}:(dz T k x n).length<=n+1:=by
 unfold dz;rw[YR];have h1:=ZJ (j3 k (bg k x)) (T.es.zipIdx.take n);have h2:(T.es.zipIdx.take n).length<=n:=by rw[YU];omega
 omega
theorem wB{x:Bs}:((bg k x).take n).flatten.length<=x.length:=by
 have h:((bg k x).take n).flatten.length<=(bg k x).flatten.length:=by
  have:=ZK n (bg k x)
  conv=>rhs;rw[<-this,mS,Yz]
  omega
 by_cases p:word k x=true
 ·rw[CK p] at h;unfold lower at h;rw[YI] at h;exact h
 ·unfold bg at h ⊢;rw[if_neg p] at h ⊢;simp
variable{m:Nat}{X:CH.bq}{a b c:Value}{l:List Bs}{d:Drop}
theorem bZ{d e f:Value}(h:aI F0 w0 (aj (av g #[a,b,c,d,e,f] t) X) w):(iz w g a b c d e f):=by
 obtain⟨F,hF⟩:=h.fst;exact⟨aB hF rfl,aB hF rfl,aB hF rfl,aB hF rfl,aB hF rfl,aB hF rfl⟩
theorem dZ(h:aI F0 w0 (aj (av g #[a,b,c] t) X) w):(pa w g a b c):=by
 obtain⟨F,hF⟩:=h.fst;exact⟨aB hF rfl,aB hF rfl,aB hF rfl⟩
theorem MO(h1:d.k=k)(hm:m+(bg k d.w).length=l.length)(h0:0<m)(h2:l.drop m=bg k d.w):j3 k l (d,n)=some ⟨(l.take m).flatten,n,d.c⟩:=by
 unfold j3;have e:l.length-(bg k d.w).length=m:=by omega
 simp only[e];rw[if_pos ⟨h1,by omega,h2⟩]
theorem MP(h1:d.k≠k):j3 k l (d,n)=none:=by
 unfold j3;rw[if_neg (fun h=>h1 h.1)]
theorem MQ(h1:¬ (bg k d.w).length<l.length):j3 k l (d,n)=none:=by
 unfold j3;rw[if_neg (fun h=>h1 h.2.1)]
theorem MR(hm:m+(bg k d.w).length=l.length)(h2:¬ l.drop m=bg k d.w):j3 k l (d,n)=none:=by
 unfold j3;have e:l.length-(bg k d.w).length=m:=by omega
 simp only[e];rw[if_neg (fun h=>h2 h.2.2)]
theorem EA{a:TA}(hT:iR w T a)(hz:LZ w)(k:Int)(x:Bs)(hx:x.length<=1000000):
  Calls Tryz.prog 22 #[eu T a,.int .i64 k,.string (bs x)] w (nY w T k x):=by
 have h1:=aH (aI.begin w) aO (dh T a) 25;have H1:=au h1;have KL:=au (yL k x (w.alloc (.cells (dh T a) 25)) hx (hz.below (h1.mod.below (fun _ _ h=>h))));have bu:=au (fun W (z:Below w.heap.size w W) (y:Bs) (hy:y.length<=1000000)=>yL k y W hy (hz.below z));have KV:=au (fun W (z:Below w.heap.size w W)=>pO (hT.below z) (hz.below z));have a7:=au hT.es;have bj:=au hT.le;have bx:=au hT.se;have HX:=au hx;have ag:=au (fun W X (h:aI fh w X W)=>(show Below w.heap.size w W from h.mod.below (fun _ _ h=>h)));clear hT hz h1 hx;unfold eu at KV ⊢;unfold dh at H1 KL KV ⊢;generalize T.rs.length=n1 at *
 generalize T.ds.length=n2 at *
 obtain⟨n3,aq⟩:∃ n,n=T.es.length:=⟨_,rfl⟩;have bb:=au aq;rw[<-aq] at H1 KL KV bj ⊢;clear aq;obtain⟨aA,ac,aD,ad,aE,ae⟩:=a;dsimp only at H1 KL KV a7 ⊢;by_cases hw:word k x=true
 ·have a5:=gV hw
  have bn:=au (show bC T=true->∀ W' A c,bS w fh (jS A c (eP T k x)) W'->nY w T k x (.returned (.tuple (j1 A (eP T k x).length c 0))) W' from fun h W' A c hp=>by
   have e:jE T k x=(eP T k x,0):=by unfold jE;rw[hw,h];rfl
   exact⟨A,c,by rw[e],by rw[e];exact hp⟩)
  have an:=au (show bC T=false->∀ W',Below w.heap.size w W'->nY w T k x (.returned (.tuple (j1 none 0 0 1))) W' from fun h W' z=>by
   have e:jE T k x=([],1):=by unfold jE;rw[hw,h];rfl
   exact⟨none,0,by rw[e];rfl,by rw[e];exact Ez z⟩)
  clear hw
  go_enter Tryz.func22,Tryz.ntmps22
  go_wp2_with fail;refine KL.o.mono ?_;rintro e9 w2 ⟨A,c,rfl,z,hA,hc⟩;have H2:=au (H1.o.below aQ z);have HA:=au hA;have HC:=au hc;clear KL z hA H1;generalize w.heap.size=g3 at H2 ⊢;obtain⟨nl,a2⟩:∃ n,n=(bg k x).length:=⟨_,rfl⟩;have F:=au a2;rw[<-a2] at hc a5 ⊢;clear a2;have t0:((nl:Int)==0)=false:=by simp;omega
  obtain⟨b0,b1,b2,b3,b4,b5⟩:=bZ H2.o;have be:=au (KV.o w2 (ag.o _ _ H2.o));clear KV;dsimp only;go_wp2_with fail;refine be.o.mono ?_;rintro e9 w3 ⟨rfl,z⟩;have H3:=au (H2.o.below aQ z);have a1:=au (aT HA.o z);clear be H2 HA z b0 b1 b2 b3 b4 b5;dsimp only;cases hv:bC T with
  | false=>
   have HF:=au (an.o hv _ (ag.o _ _ H3.o));go_wp2;refine bodyPost_ret (results_tmp2 rfl _ _ _) rfl ?_;exact HF.o
  | true=>
   have b9:=au (bn.o hv);clear hv an bn
   have KJ:=au (show Calls Tryz.prog 49 #[.slice A nl c,.string ⟨#[]⟩] w3 (aL w3 (.string (bs (bg k x).flatten))) from by
    have:=Ia (c:=c) a1.o HC.o (by rw[<-F.o];omega) (by
     have:=wB (k:=k) (x:=x) (n:=(bg k x).length);rw[YO] at this;have:=HX.o
     omega)
    rw[<-F.o] at this
    exact this)
   go_wp2_with fail;refine KJ.o.mono ?_;rintro e9 M ⟨rfl,z⟩;have H4:=au (H3.o.below aQ z);have ba:=au (aT a1.o z);clear KJ H3 a1 z;dsimp only;go_upto_region 5 with (fail);have a6:=au (fun W (h:Below M.heap.size M W)=>bZ (H4.o.below aQ h));have ap:=au (fun W X (h:aI fh M X W)=>(show Below w.heap.size w W from(ag.o _ _ H4.o).trans ((h.mod.below (fun _ _ h=>h)).mono (ag.o _ _ H4.o).size)));have bp:=au (fun W X (h:aI fh M X W)=>(show Below M.heap.size M W from h.mod.below (fun _ _ h=>h)));have a8:=au (fun W X (h:aI fh M X W)=>(show fM W A (bg k x) from aT ba.o (h.mod.below (fun _ _ h=>h))));have b8:=au (fun W A' c' (l:List Vr) (h:aI fh M (aj (jS A' c' l) aS) W)=>(show bS w fh (jS A' c' l) W from((H4.o.fresh aQ (h.swap.drop.post rM)).swap.drop).post rM));have bd:=(aI.begin M).fresh aO (MN (p:=⟨(bg k x).flatten,-1,0⟩));have H5:=au (show aI fh M (aj (jS (some ⟨M.heap.size,0,none⟩) 1 (dz T k x 0)) aS) (M.alloc (.cells (il (bs (bg k x).flatten) (-1) 0) 60)) from by rw[sU];exact bd);have e0:=au (show(1:Nat)=(dz T k x 0).length by rw[sU];rfl);clear bd H4 ba ag;generalize M.alloc (.cells (il (bs (bg k x).flatten) (-1) 0) 60)=w5 at *
   generalize (⟨M.heap.size,0,none⟩:Addr)=a9 at *
   obtain⟨b0,b1,b2,b3,b4,b5⟩:=a6.o _ (bp.o _ _ H5.o);go_wp2_with fail;go_loopw [9,32] (fun v kk wr=>∃ (n:Nat) (A':fj) (c':Nat),kk=.int .i64 n/\n<=n3/\v=.slice A' (dz T k x n).length c'/\aI fh M (aj (jS A' c' (dz T k x n)) aS) wr) (fun _ kk _=>n3-(intOf kk).toNat)
   case atStart=>exact⟨0,_,1,rfl,YE _,by rw[<-e0.o],H5.o⟩
   case round=>
    clear H5 e0 b0 b1 b2 b3 b4 b5;obtain⟨n,A',c',rfl,hn,rfl,hR⟩:=hrel;have HR:=au hR;clear hR;by_cases aa:n<n3
    ·have al:n<T.es.length:=by rw[<-bb.o];exact aa
     obtain⟨b,o,rfl,a4⟩:=jV.at a7.o ff;obtain⟨c0,c1,c2⟩:=a4 _ (ap.o _ _ HR.o) n al;have cg:(n:Int)<1000000:=by have:=bj.o;omega
     have J:=au (show n+1<=n3 from aa);have bf:=au (bx.o _ (YL al));have I:=au (Dn (T:=T) (k:=k) (x:=x) al);have bz:=au (Iw (T:=T) (k:=k) (x:=x) (n:=n));clear a4 hn;generalize T.es[n]=d at *
     clear al;obtain⟨dk,dw,dc⟩:=d;dsimp only at c0 c1 c2 bf;go_upto_region 8 with (fail);have H7:=au (aH HR.o aQ (kt dk (bs dw) dc) 104);clear c0 c1 c2 HR;generalize wr.alloc (.cells (kt dk (bs dw) dc) 104)=w7 at *
     generalize wr.heap.size=ao at *
     obtain⟨d0,d1,d2⟩:=dZ H7.o;by_cases ab:dk=k
     ·have k1:(dk != k)=false:=by simp[ab]
      have KD:=au (bu.o w7 (ap.o _ _ H7.o) dw bf.o);have br:=au ab;clear ab;go_wp2_with fail;refine KD.o.mono ?_;rintro e9 w8 ⟨A2,c2,rfl,z,hA2,hc2⟩;have H8:=au (H7.o.below aQ z);have az:=au hA2;clear KD H7 z hA2 d0 d1 d2;obtain⟨d0,d1,d2⟩:=dZ H8.o;obtain⟨ne,am⟩:∃ n,n=(bg k dw).length:=⟨_,rfl⟩;have ai:=au am;rw[<-am] at hc2 ⊢;have cb:ne<=12:=by
       rw[am];by_cases bh:word k dw=true
       ·exact(gV bh).2
       ·unfold bg;rw[if_neg bh];exact YE _
      clear am;dsimp only;by_cases cf:ne<nl
      ·obtain⟨m,hm⟩:∃ m,m+ne=nl:=⟨nl-ne,by omega⟩;have HM:=au hm;have tw:wrap64 ((nl:Int)-(ne:Int))=(m:Int):=by rw[Zr _ ff];omega
       have t1:decide (0<(m:Int))=true:=decide_eq_true ff;have cd:decide (0<m)=true:=decide_eq_true ff;have bw:0<m:=by omega
       have bv:∀ W',(Instr.slice 26 (.slice A nl c) (some (.int .i64 (m:Int))) none none).run Tryz.prog W'=.ok (.slice (wZ A c m 1) (nl-m) (c-m)) W':=fun W'=>Ao wK A nl c m .i64 (m:Int) rfl ff W'
       have KE:=au (show Calls Tryz.prog 50 #[.slice (wZ A c m 1) (nl-m) (c-m),.slice A2 ne c2] w8 (aL w8 (.bool (decide ((bg k x).drop m=bg k dw)))) from by
        have:=Ct (c:=c-m) (d:=c2) (Lf (a8.o _ _ H8.o) (show m<=(bg k x).length by rw[<-F.o];omega) HC.o) az.o (by rw[Y8,<-F.o];omega) (by rw[<-ai.o];omega);rw[Y8,<-F.o,<-ai.o] at this
        exact this)
       have te:(nl:Int)-(ne:Int)=(m:Int):=by omega
       clear hm tw;go_upto_region 11 with (fail);clear te;go_wp2_with fail;refine KE.o.mono ?_;rintro e9 w9 ⟨rfl,z⟩;have H9:=au (H8.o.below aQ z);clear KE bv H8 az z d0 d1 d2;dsimp only;by_cases af:(bg k x).drop m=bg k dw
       ·rw[decide_eq_true af]
        have q:=au (show dz T k x (n+1)=dz T k x n++[⟨((bg k x).take m).flatten,n,dc⟩] from by
         rw[I.o,MO br.o (by have:=HM.o;have:=F.o;have:=ai.o;dsimp only;omega) bw af])
        have bm:=au (fun W (z:Below w9.heap.size w9 W)=>(show Calls Tryz.prog 49 #[.slice A m c,.string ⟨#[]⟩] W (aL W (.string (bs ((bg k x).take m).flatten))) from by
         have aa:((bg k x).take m).length=m:=by rw[YU,<-F.o];have:=HM.o;omega
         have:=Ia (c:=c) (zY m (aT (a8.o _ _ H9.o) z)) (by rw[aa];have:=HM.o;have:=HC.o;have:=F.o;omega) (by rw[aa];have:=HM.o;omega) (by
          have:=wB (k:=k) (x:=x) (n:=m);have:=HX.o
          omega)
         rw[aa] at this
         exact this))
        have bo:∀ W',(Instr.slice 26 (.slice A nl c) none (some (.int .i64 (m:Int))) none).run Tryz.prog W'=.ok (.slice A m c) W':=fun W'=>vJ wK A nl c m .i64 (m:Int) rfl (by have:=HM.o;omega) W';have a0:=au (H9.o.drew aQ);have b6:(dz T k x n).length<=1000000:=by have:=bz.o;omega
        have bk:=(YC w9.heap.size w9).drew;have a3:=au (bm.o _ bk);clear af I bk;go_upto_region 12 with (fail);refine nQ [4,9,10] [2,0,0,0,1,1,1,1,1,2,3,3] (fun w'=>w'.cell? ⟨ao,2,none⟩=some (.int .i64 dc)) [fun w'=>w'.cell? ⟨ao,2,none⟩=some (.int .i64 dc),fun _=>True,fun _=>True] ⟨fun _ h=>h,fun _ _=>trivial,fun _ _=>trivial,trivial⟩ rfl fi fi fi (dZ a0.o).2.2 ?_;generalize World.drew _=ch at *
        clear H9 bm
        (repeat(first|refine kE ?_|refine kF ?_))
        refine eD rfl ft (fun K hK=>?_);go_wp2_with fail;refine a3.o.mono ?_;rintro e9 bc ⟨rfl,z⟩;have aw:=au (a0.o.below aQ z);clear a3 a0 z bo;dsimp only;refine hK.o _ _ (dZ aw.o).2.2 ?_;clear hK
        (repeat(first|refine kE ?_|refine kF ?_))
        refine eD rfl ft (fun K hK=>?_);go_wp2_with fail;have ar:=au (aH aw.o aQ (il (bs ((bg k x).take m).flatten) (n:Int) dc) 60);clear aw;generalize bc.alloc (.cells (il (bs ((bg k x).take m).flatten) (n:Int) dc) 60)=cc at *
        generalize bc.heap.size=gN at *
        refine hK.o _ _ trivial ?_;clear hK
        (repeat(first|refine kE ?_|refine kF ?_))
        refine eD rfl ft (fun K hK=>?_);obtain⟨p0,p1,p2⟩:=dZ ar.o
        refine sS VU fW (.tmp 59) (.tmp 68) rfl (A:=A') (c:=c') (n:=(dz T k x n).length) (g:=gN) (xs:=(dz T k x n).flatMap gZ) (cs:=gZ ⟨((bg k x).take m).flatten,n,dc⟩) rfl rfl b6 aQ (ar.o.perm (by unfold jS;ac_rfl:_=aj (aZ 60 3 (.slice A' (dz T k x n).length c') (dz T k x n).length ((dz T k x n).flatMap gZ)) (aj (av gN (il (bs ((bg k x).take m).flatten) (n:Int) dc) 60) (aj (av ao (kt dk (bs dw) dc) 104) aS)))) rfl (fun u V=>uJ [⟨((bg k x).take m).flatten,n,dc⟩] u (by simpa[gZ] using V)) (fun j u V=>by
         unfold gZ at V
         match j,V with
         | 0,V=>simp at V;subst V;exact p0
         | 1,V=>simp at V;subst V;exact p1
         | 2,V=>simp at V;subst V;exact p2
         | j+3,V=>simp at V) ?_
        intro A9 c9 ce ak;rw[Ir rfl] at ak;have ca:=au ak;clear ak ar p0 p1 p2;refine hK.o _ _ trivial ?_;clear hK
        (repeat(first|refine kE ?_|refine kF ?_))
        refine rZ ?_;have bi:(dz T k x n).length+1=(dz T k x (n+1)).length:=by rw[q.o,Yz];rfl
        rw[bi];clear bi;go_wp2_with fail
        go_roundw
        case rel=>exact⟨n+1,A9,c9,by go_num,J.o,rfl,by rw[q.o];exact(ca.o.perm (by ac_rfl:_=aj (av gN (il (bs ((bg k x).take m).flatten) (n:Int) dc) 60) (aj (av ao (kt dk (bs dw) dc) 104) (aj (jS A9 c9 (dz T k x n++[⟨((bg k x).take m).flatten,n,dc⟩])) aS)))).drop.drop⟩
        case measure=>have:=J.o;simp[intOf];omega
       ·rw[decide_eq_false af]
        have q:=au (show dz T k x (n+1)=dz T k x n from by
         rw[I.o,MR (by have:=HM.o;have:=F.o;have:=ai.o;dsimp only;omega) af,Y2])
        clear af I;go_wp2_with fail
        go_roundw
        case rel=>exact⟨n+1,A',c',by go_num,J.o,by rw[q.o],by rw[q.o];exact H9.o.drop⟩
        case measure=>have:=J.o;simp[intOf];omega
      ·have tw:wrap64 ((nl:Int)-(ne:Int))=(nl:Int)-(ne:Int):=Zr _ ff;have t1:decide (0<(nl:Int)-(ne:Int))=false:=decide_eq_false ff
       have q:=au (show dz T k x (n+1)=dz T k x n from by
        rw[I.o,MQ (by have:=F.o;have:=ai.o;dsimp only;omega),Y2])
       clear I az;go_wp2_with fail
       go_roundw
       case rel=>exact⟨n+1,A',c',by go_num,J.o,by rw[q.o],by rw[q.o];exact H8.o.drop⟩
       case measure=>have:=J.o;simp[intOf];omega
     ·have k1:(dk != k)=true:=by simp[ab]
      have q:=au (show dz T k x (n+1)=dz T k x n from by
       rw[I.o,MP ab,Y2])
      clear ab I;go_wp2_with fail
      go_roundw
      case rel=>exact⟨n+1,A',c',by go_num,J.o,by rw[q.o],by rw[q.o];exact H7.o.drop⟩
      case measure=>have:=J.o;simp[intOf];omega
    ·have ax:=Iu (T:=T) (k:=k) (x:=x) (n:=n) (by have:=bb.o;omega);have HF:=au (b9.o wr A' c' (by rw[<-ax];exact b8.o _ _ _ _ HR.o));rw[ax];clear ax HR;go_wp2;refine bodyPost_ret (results_tmp2 rfl _ _ _) rfl ?_;exact HF.o
 ·have b7:bg k x=[]:=by unfold bg;rw[if_neg hw]
  have e2:jE T k x=([],1):=by unfold jE;rw[oc] at hw;rw[hw];rfl
  have an:=au (show ∀ W',Below w.heap.size w W'->nY w T k x (.returned (.tuple (j1 none 0 0 1))) W' from fun W' z=>⟨none,0,by rw[e2];rfl,by rw[e2];exact Ez z⟩);unfold RG at KL;rw[b7] at KL;clear e2 hw
  go_enter Tryz.func22,Tryz.ntmps22
  go_wp2_with fail;refine KL.o.mono ?_;rintro e9 w2 ⟨A,c,rfl,z,hA,hc⟩;have HF:=au (ag.o _ _ (H1.o.below aQ z));clear KL KV z hA hc;dsimp only;simp only[Zz];go_wp2;refine bodyPost_ret (results_tmp2 rfl _ _ _) rfl ?_;exact an.o _ HF.o
structure WW where
 V:fj
 vc:Nat
 L:fj
 lc:Nat
structure uK where
 k:Int
 vs:List Vr
 ls:List Bs
def dX(T:fy)(k:Int)(x:Bs):uK:=⟨k,eP T k x,bg k x⟩
def ua:uK:=⟨0,[],[]⟩
def nD(u:uK)(a:WW):Array Value:=(j0 u.k a.V u.vs.length a.vc a.L u.ls.length a.lc)
def qG(u:uK)(a:WW):Value:=.agg (nD u a)
structure jk(w:World)(u:uK)(a:WW):Prop where
 vs:Vq w a.V u.vs
 ls:fM w a.L u.ls
variable{v:Value}
theorem jk.below{u:uK}{a:WW}(h:jk w u a)(hb:Below w.heap.size w w'):jk w' u a:=⟨h.vs.below hb,aT h.ls hb⟩
def ng(T:fy)(k:Int)(x:Bs):uK × Bool:=if word k x&&bC T then(dX T k x,true) else(ua,false)
def Bt(w:World)(T:fy)(k:Int)(x:Bs)(e:Ending)(w':World):Prop:=
 ∃ a:WW,e=.returned (.tuple #[qG (ng T k x).1 a,.bool (ng T k x).2])/\Below w.heap.size w w'/\jk w' (ng T k x).1 a
def nE(u:uK)(a:WW):CH.bq:=aj (jS a.V a.vc u.vs) (bO a.L a.lc u.ls)
theorem wC{u:uK}{a:WW}:(nE u a).Ok:=ay rM fq
instance {u:uK} {a:WW}:(nE u a).Ok:=wC
theorem Sr{u:uK}{a:WW}(h:nE u a w F):jk w u a:=by
 obtain⟨F1,F2,h1,h2,-,-⟩:=h;exact⟨Kg h1,jm h2⟩
theorem Sv(q:Below w.heap.size w w'):bS w fh (aj (jS none 0 []) (bO none 0 [])) w':=by
 have p:=((aI.begin w).below aO q).fresh aO (⟨fun _=>False,fZ _ _ _,Mod.refl _ _,fun i hi=>.inl hi⟩:bS _ fh (jS none 0 []) _);have h:=p.fresh aQ (⟨fun _=>False,fZ _ _ _,Mod.refl _ _,fun i hi=>.inl hi⟩:bS _ fh (bO none 0 []) _);exact((h.perm (by ac_rfl:_=aj aS (aj (jS none 0 []) (bO none 0 [])))).drop).post aQ
def Bu(w:World)(T:fy)(k:Int)(x:Bs)(e:Ending)(w':World):Prop:=
 ∃ a:WW,e=.returned (.tuple #[qG (ng T k x).1 a,.bool (ng T k x).2])/\bS w fh (nE (ng T k x).1 a) w'
theorem VW{tmps:Array Value}{cs:Array Value}(h:tmps.getD 6 undef=.pointer (some ⟨g,0,none⟩))(z:cs.size=3)(q:w.heap[g]?=some (.cells cs 77))(p:tmps.getD 7 undef=v):(results Tryz.f43 tmps).run Tryz.prog w=.ok (.tuple #[.agg cs,v]) w:=by
 subst p;exact dH rfl tmps w g 77 cs (0,0) h q Tryz.underlying77 (by rw[z];kernel_rfl)
theorem Bv{a:TA}(hT:iR w T a)(hz:LZ w)(k:Int)(x:Bs)(hx:x.length<=1000000):
  Calls Tryz.prog 43 #[eu T a,.int .i64 k,.string (bs x)] w (Bu w T k x):=by
 have h1:=aH (aI.begin w) aO (dh T a) 25;have h2:=aH h1 aQ (j0 0 none 0 0 none 0 0) 77;rw[YN] at h2;have H2:=au h2;have ab:=au (fun W X (h:aI fh w X W)=>(show Below w.heap.size w W from h.mod.below (fun _ _ h=>h)));have af:Below w.heap.size w _:=h2.mod.below (fun _ _ h=>h);have F:=au (EA (hT.below af) (hz.below af) k x hx);have KF:=au (fun W (M:Below w.heap.size w W)=>Mr k x W hx (hz.below M));have KL:=au (fun W (M:Below w.heap.size w W)=>kV k (bs (lower x)) W (by rw[bB];unfold lower;rw[YI];exact hx) (hz.below M));simp only[fO] at KL;clear hT hz h1 h2 af hx;unfold eu at F ⊢;unfold dh at H2 F ⊢;generalize T.rs.length=n1 at *
 generalize T.ds.length=n2 at *
 generalize T.es.length=n3 at *
 obtain⟨aA,ac,aD,ad,aE,ae⟩:=a;dsimp only at H2 F ⊢;by_cases q:(word k x&&bC T)=true
 ·have hw:word k x=true:=by rw[YF] at q;exact q.1
  have e1:jE T k x=(eP T k x,0):=by unfold jE;rw[if_pos q]
  have e2:fE k x=(lower x,0):=by unfold fE;rw[if_pos hw]
  have e3:aU k (lower x)=(bg k x,0):=by unfold aU;rw[if_pos (iA hw),y8 hw]
  have HF:=au (show ∀ (W:World) V vc L lc,bS w fh (aj (jS V vc (eP T k x)) (bO L lc (bg k x))) W->Bu w T k x (.returned (.tuple #[.agg (j0 k V (eP T k x).length vc L (bg k x).length lc),.bool true])) W from fun W V vc L lc M=>by
   have e:ng T k x=(dX T k x,true):=by unfold ng;rw[if_pos q]
   exact⟨⟨V,vc,L,lc⟩,by rw[e];rfl,by rw[e];exact M⟩)
  unfold nY at F;rw[e1] at F;unfold aL at KF;simp only[e2] at KF;unfold jT at KL;simp only[e3] at KL;clear e1 e2 e3 hw q
  go_enter Tryz.func43,Tryz.ntmps43
  go_wp2_with fail;refine F.o.mono ?_;rintro e9 w2 ⟨V,vc,rfl,hp⟩;have H3:=au (H2.o.fresh aQ hp);have ag:=au (KF.o w2 (ab.o _ _ H3.o));clear F KF H2 hp;dsimp only;generalize ak:(eP T k x).length=nv at *
  clear ak;go_wp2_with fail;refine ag.o.mono ?_;rintro e9 w3 ⟨rfl,M⟩;have H4:=au (H3.o.below aQ M);have ai:=au (KL.o w3 (ab.o _ _ H4.o));clear ag KL H3 M;dsimp only;go_wp2_with fail;refine ai.o.mono ?_;rintro e9 w4 ⟨L,lc,rfl,hp⟩;have H5:=au ((H4.o.fresh aQ hp).perm (by ac_rfl:_=aj (av (w.heap.size+1) (j0 0 none 0 0 none 0 0) 77) (aj (bO L lc (bg k x)) (aj (jS V vc (eP T k x)) (aj (av w.heap.size (fw aA n1 ac aD n2 ad aE n3 ae T.drop T.ord T.ini) 25) aS)))));clear ai H4 hp;dsimp only;generalize al:(bg k x).length=nl at *
  clear al;obtain⟨f1,p⟩:=H5.o.fst;have c0:=aB (i:=0) p rfl;have c1:=aB (i:=1) p rfl;have c2:=aB (i:=2) p rfl;have cf:=aP p;clear p f1;have I:=aJ H5.o aQ 0 (.int .i64 k);have J:=aJ I aQ 1 (.slice V nv vc);have z:=aJ J aQ 2 (.slice L nl lc);have H6:=au (show aI fh w (aj (av (w.heap.size+1) (j0 k V nv vc L nl lc) 77) (aj (bO L lc (bg k x)) (aj (jS V vc (eP T k x)) (aj (av w.heap.size (fw aA n1 ac aD n2 ad aE n3 ae T.drop T.ord T.ini) 25) aS)))) (((w4.setCell ⟨w.heap.size+1,0,none⟩ (.int .i64 k)).setCell ⟨w.heap.size+1,1,none⟩ (.slice V nv vc)).setCell ⟨w.heap.size+1,2,none⟩ (.slice L nl lc)) from z);clear I J z H5;go_wp2;obtain⟨f2,aa⟩:=H6.o.fst;refine bodyPost_ret (VW rfl rfl aa.1 rfl) rfl ?_;exact HF.o _ _ _ _ _ (((H6.o.perm (by ac_rfl:_=aj (aj (av (w.heap.size+1) (j0 k V nv vc L nl lc) 77) (aj (av w.heap.size (fw aA n1 ac aD n2 ad aE n3 ae T.drop T.ord T.ini) 25) aS)) (aj (jS V vc (eP T k x)) (bO L lc (bg k x))))).drop).post aQ)
 ·have HF:=au (show ∀ (W:World),Below w.heap.size w W->Bu w T k x (.returned (.tuple #[.agg (j0 0 none 0 0 none 0 0),.bool false])) W from fun W M=>by
   have e:ng T k x=(ua,false):=by unfold ng;rw[if_neg q]
   exact⟨⟨none,0,none,0⟩,by rw[e];rfl,by rw[e];exact Sv M⟩)
  have e1:jE T k x=([],1):=by unfold jE;rw[if_neg q]
  unfold nY at F;rw[e1] at F;clear e1 q KF KL
  go_enter Tryz.func43,Tryz.ntmps43
  go_wp2_with fail;refine F.o.mono ?_;rintro e9 w2 ⟨V,vc,rfl,hp⟩;have H3:=au ((H2.o.fresh aQ hp).drop);clear F H2 hp;dsimp only;simp only[Zz];obtain⟨f1,p⟩:=H3.o.fst;have c0:=aB (i:=0) p rfl;have c1:=aB (i:=1) p rfl;have c2:=aB (i:=2) p rfl;have cf:=aP p;clear p f1;have I:=aJ H3.o aQ 0 (.int .i64 0);have J:=aJ I aQ 1 (.slice none 0 0);have z:=aJ J aQ 2 (.slice none 0 0);have H6:=au (show aI fh w (aj (av (w.heap.size+1) (j0 0 none 0 0 none 0 0) 77) (aj (av w.heap.size (fw aA n1 ac aD n2 ad aE n3 ae T.drop T.ord T.ini) 25) aS)) (((w2.setCell ⟨w.heap.size+1,0,none⟩ (.int .i64 0)).setCell ⟨w.heap.size+1,1,none⟩ (.slice none 0 0)).setCell ⟨w.heap.size+1,2,none⟩ (.slice none 0 0)) from z);clear I J z H3;go_wp2;obtain⟨f2,aa⟩:=H6.o.fst;refine bodyPost_ret (VW rfl rfl aa.1 rfl) rfl ?_;exact HF.o _ (ab.o _ _ H6.o)
theorem Bw{a:TA}(hT:iR w T a)(hz:LZ w)(k:Int)(x:Bs)(hx:x.length<=1000000):
  Calls Tryz.prog 43 #[eu T a,.int .i64 k,.string (bs x)] w (Bt w T k x):=
 (Bv hT hz k x hx).mono fun e w' ⟨a,h1,h2⟩=>⟨a,h1,by
  obtain⟨F,h3,h4,-⟩:=h2
  exact⟨h4.below (fun _ _ h=>h),Sr h3⟩⟩
attribute [local go_sem] Zi
def Zy(u v:uK)(a c:WW)(T:fy)(t:TA)(b1 b2 b3:Nat):CH.bq:=aj (av b1 (nD u a) 77) (aj (av b2 (nD v c) 77) (av b3 (dh T t) 25))
variable{u v:uK}{a c:WW}{b1 b2 b3 i:Nat}{us vs:List Vr}{ini:Int}{p:List Bs}
theorem kG{t:TA}:(Zy u v a c T t b1 b2 b3).Ok:=ay aC (ay aC aC)
instance {u v:uK} {a c:WW} {T:fy} {t:TA} {b1 b2 b3:Nat}:(Zy u v a c T t b1 b2 b3).Ok:=kG
def kr(w:Wy):Array Value:=(im 0 0 w.kd w.l w.r w.c 0 none 0 0 none 0 0 ⟨#[]⟩ (bs w.x) (bs w.y))
def Kh(w:Wy):Array Value:=#[.agg (kr w)]
theorem OI{a0 a1 a2 a3 a4 a5 a6 a7 M I q p:Value}(h:aI F0 w0 (aj (av g #[a0,a1,a2,a3,a4,a5,a6,a7,M,I,q,p] t) X) w)(F:X.Ok)(z b1 b2 b3 J b5 b6 b7 b8 b9 V aa:Value):
  aI F0 w0 (aj (av g #[z,b1,b2,b3,J,b5,b6,b7,b8,b9,V,aa] t) X) ((((((((((((w.setCell ⟨g,0,none⟩ z).setCell ⟨g,1,none⟩ b1).setCell ⟨g,2,none⟩ b2).setCell ⟨g,3,none⟩ b3).setCell ⟨g,4,none⟩ J).setCell ⟨g,5,none⟩ b5).setCell ⟨g,6,none⟩ b6).setCell ⟨g,7,none⟩ b7).setCell ⟨g,8,none⟩ b8).setCell ⟨g,9,none⟩ b9).setCell ⟨g,10,none⟩ V).setCell ⟨g,11,none⟩ aa):=by
 have h0:aI F0 w0 (aj (av g #[z,a1,a2,a3,a4,a5,a6,a7,M,I,q,p] t) X) _:=aJ h F 0 z;have h1:aI F0 w0 (aj (av g #[z,b1,a2,a3,a4,a5,a6,a7,M,I,q,p] t) X) _:=aJ h0 F 1 b1;have h2:aI F0 w0 (aj (av g #[z,b1,b2,a3,a4,a5,a6,a7,M,I,q,p] t) X) _:=aJ h1 F 2 b2;have h3:aI F0 w0 (aj (av g #[z,b1,b2,b3,a4,a5,a6,a7,M,I,q,p] t) X) _:=aJ h2 F 3 b3;have h4:aI F0 w0 (aj (av g #[z,b1,b2,b3,J,a5,a6,a7,M,I,q,p] t) X) _:=aJ h3 F 4 J;have h5:aI F0 w0 (aj (av g #[z,b1,b2,b3,J,b5,a6,a7,M,I,q,p] t) X) _:=aJ h4 F 5 b5;have h6:aI F0 w0 (aj (av g #[z,b1,b2,b3,J,b5,b6,a7,M,I,q,p] t) X) _:=aJ h5 F 6 b6;have h7:aI F0 w0 (aj (av g #[z,b1,b2,b3,J,b5,b6,b7,M,I,q,p] t) X) _:=aJ h6 F 7 b7;have h8:aI F0 w0 (aj (av g #[z,b1,b2,b3,J,b5,b6,b7,b8,I,q,p] t) X) _:=aJ h7 F 8 b8;have h9:aI F0 w0 (aj (av g #[z,b1,b2,b3,J,b5,b6,b7,b8,b9,q,p] t) X) _:=aJ h8 F 9 b9;have ab:aI F0 w0 (aj (av g #[z,b1,b2,b3,J,b5,b6,b7,b8,b9,V,p] t) X) _:=aJ h9 F 10 V;exact aJ ab F 11 aa
structure Xq(u v:uK)(a c:WW)(w:World):Prop where
 u:jk w u a
 v:jk w v c
theorem Xq.below(h:Xq u v a c w)(hb:Below w.heap.size w w'):Xq u v a c w':=⟨h.u.below hb,h.v.below hb⟩
theorem o8{t:TA}(h:aI F0 w0 (aj (Zy u v a c T t b1 b2 b3) X) w):
  (pa w b1 (.int .i64 u.k) (.slice a.V u.vs.length a.vc) (.slice a.L u.ls.length a.lc)) /\
  (pa w b2 (.int .i64 v.k) (.slice c.V v.vs.length c.vc) (.slice c.L v.ls.length c.lc))/\w.cell? ⟨b3,5,none⟩=some (.int .i64 T.ini):=by
 obtain⟨F,p⟩:=(h.perm (by unfold Zy;ac_rfl:_=aj (av b1 (nD u a) 77) (aj (av b2 (nD v c) 77) (aj (av b3 (dh T t) 25) X)))).fst;obtain⟨J,q⟩:=(h.perm (by unfold Zy;ac_rfl:_=aj (av b2 (nD v c) 77) (aj (av b1 (nD u a) 77) (aj (av b3 (dh T t) 25) X)))).fst;obtain⟨I,z⟩:=(h.perm (by unfold Zy;ac_rfl:_=aj (av b3 (dh T t) 25) (aj (av b1 (nD u a) 77) (aj (av b2 (nD v c) 77) X)))).fst;exact⟨⟨aB p rfl,aB p rfl,aB p rfl⟩,⟨aB q rfl,aB q rfl,aB q rfl⟩,aB z rfl⟩
theorem xO(us vs:List Vr):(oJ us vs).length=us.length*vs.length:=by
 unfold oJ
 induction us with
 | nil=>simp
 | cons x us ih=>rw[Zm,Yz,YI,ih,YR,jz];omega
theorem Sw:∀ {i j:Nat} (hi:i<us.length) (h:j<vs.length),(oJ us vs)[i*vs.length+j]?=some (uD us[i] vs[j]):=by
 induction us with
 | nil=>intro i j hi;simp at hi
 | cons x us ih=>
  intro i j hi h;have e:oJ (x::us) vs=vs.map (uD x)++oJ us vs:=by unfold oJ;rw[Zm]
  rw[e];cases i with
  | zero=>
   rw[li,Zx,mA (by rw[YI];exact h),Y6,YH h];rfl
  | succ i=>
   rw[pk (by rw[YI,jz];omega),YI];have e2:(i+1)*vs.length+j-vs.length=i*vs.length+j:=by rw[jz];omega
   rw[e2,ih (by simpa using hi) h];rfl
theorem Vs{q:List Bs}{j:Nat}(hi:i<us.length)(I:j<vs.length):∃ h:i*vs.length+j<(gy ini us vs p q).length,(gy ini us vs p q)[i*vs.length+j]=uD us[i] vs[j]:=by
 have z:=Sw hi I;have F:(gy ini us vs p q)[i*vs.length+j]?=some (uD us[i] vs[j]):=by
  unfold gy;rw[mA (List.getElem?_eq_some_iff.1 z).1];exact z
 exact List.getElem?_eq_some_iff.1 F
theorem Sy{q:List Bs}(z:p.length=1):∃ h:us.length*vs.length<(gy ini us vs p q).length,(gy ini us vs p q)[us.length*vs.length]=iH 2 ini p q:=by
 have e:gy ini us vs p q=oJ us vs++(iH 2 ini p q::(if q.length=1 then [iH 3 ini p q] else [])):=by unfold gy;rw[if_pos z];rfl
 have F:=xO us vs;refine⟨by rw[e,Yz,YR];omega,?_⟩;simp only[e];rw[rI ff];simp[F]
theorem Ki{q:List Bs}(hq:q.length=1)(hn:n=us.length*vs.length+if p.length=1 then 1 else 0):(∃ h:n<(gy ini us vs p q).length,(gy ini us vs p q)[n]=iH 3 ini p q)/\n+1=(gy ini us vs p q).length:=by
 have e:gy ini us vs p q=(oJ us vs++(if p.length=1 then [iH 2 ini p q] else []))++[iH 3 ini p q]:=by unfold gy;rw[if_pos hq,Y3]
 have F:=xO us vs;have z:(oJ us vs++(if p.length=1 then [iH 2 ini p q] else [])).length=n:=by
  rw[Yz,F,hn];split<;>rfl
 refine⟨⟨by rw[e,Yz,z];exact sy _,?_⟩,by rw[e,Yz,z];rfl⟩;simp only[e];rw[rI ff];simp[z]
theorem OJ{q:List Bs}(hq:q.length≠1)(hn:n=us.length*vs.length+if p.length=1 then 1 else 0):n=(gy ini us vs p q).length:=by
 unfold gy;rw[Yz,xO,Yz,if_neg hq,hn];split<;>rfl
theorem Sz(h:0<l.length):l[0]=gC l:=by
 cases l with
 | nil=>simp at h
 | cons z l=>rfl
theorem rO{t:TA}(hX:X.Ok)(h:aI F0 w0 (aj (Zy u v a c T t b1 b2 b3) X) w)(hr:Xq u v a c w)(hu:0<u.ls.length)(hv:0<v.ls.length)(kd:Int):
  Calls Tryz.prog 94 #[.int .i64 kd,.pointer (some ⟨b3,0,none⟩),.pointer (some ⟨b1,0,none⟩),.pointer (some ⟨b2,0,none⟩)] w (aL w (.agg (kr (iH kd T.ini u.ls v.ls)))):=by
 obtain⟨z,ou,J,ad⟩:=hr.u.ls.at hu;obtain⟨bv,I,aa,ac⟩:=hr.v.ls.at hv;have HZ:=au (fun W (q:Below w.heap.size w W)=>o8 (h.below aQ q))
 have V:=au (fun W (q:Below w.heap.size w W)=>(show W.cell? ⟨z,ou,none⟩=some (.string (bs (gC u.ls))) from by
  have h1:=ad W q 0 hu;rw[Sz hu] at h1
  exact h1))
 have ab:=au (fun W (q:Below w.heap.size w W)=>(show W.cell? ⟨bv,I,none⟩=some (.string (bs (gC v.ls))) from by
  have h1:=ac W q 0 hv;rw[Sz hv] at h1
  exact h1))
 have r1:aI fh w (aj (av w.heap.size (im 0 0 0 0 0 0 0 none 0 0 none 0 0 ⟨#[]⟩ ⟨#[]⟩ ⟨#[]⟩) 119) aS) _:=aH (aI.begin w) aO _ 119;have R1:=au r1;clear ad ac h hX hr r1;rw[J,aa] at HZ;clear J aa;unfold kr iH;dsimp only;generalize gC u.ls=hx at *
 generalize gC v.ls=hy at *
 have af:(0:Int)<(u.ls.length:Int):=by omega
 have ai:(0:Int)<(v.ls.length:Int):=by omega
 generalize u.ls.length=nu at *
 generalize v.ls.length=nv at *
 go_enter Tryz.func94,Tryz.ntmps94
 go_upto_region 1 with (fail);generalize w.alloc (.cells (im 0 0 0 0 0 0 0 none 0 0 none 0 0 ⟨#[]⟩ ⟨#[]⟩ ⟨#[]⟩) 119)=w1 at *
 have M:=au (fun W X (h:aI fh w X W)=>(show Below w.heap.size w W from h.mod.below (fun _ _ h=>h)));have R2:=au (R1.o.drew aQ);have hS:∀ W,Below w.heap.size w W->W.cell? ⟨b1,2,none⟩=some (.slice (some ⟨z,ou,none⟩) nu a.lc)/\W.cell? ⟨b2,2,none⟩=some (.slice (some ⟨bv,I,none⟩) nv c.lc)/\W.cell? ⟨b3,5,none⟩=some (.int .i64 T.ini)/\W.cell? ⟨z,ou,none⟩=some (.string (bs hx))/\W.cell? ⟨bv,I,none⟩=some (.string (bs hy)):=fun W q=>by
  obtain⟨⟨-,-,z1⟩,⟨-,-,z2⟩,z3⟩:=HZ.o W q;exact⟨z1,z2,z3,V.o W q,ab.o W q⟩
 have F:=hS _ (M.o _ _ R2.o);clear hS R1;refine gu (fun W=>W.cell? ⟨b1,2,none⟩=some (.slice (some ⟨z,ou,none⟩) nu a.lc)/\W.cell? ⟨b2,2,none⟩=some (.slice (some ⟨bv,I,none⟩) nv c.lc)/\W.cell? ⟨b3,5,none⟩=some (.int .i64 T.ini)/\W.cell? ⟨z,ou,none⟩=some (.string (bs hx))/\W.cell? ⟨bv,I,none⟩=some (.string (bs hy))) rfl fi fi F ?_;clear F HZ V ab;generalize w1.drew=w2 at *
 (repeat(first|refine uX ?_|refine uY ?_))
 refine kY rfl ft (fun K hK=>?_);obtain⟨f1,p⟩:=R2.o.fst;have c0:=aB (i:=0) p rfl;have c1:=aB (i:=1) p rfl;have c2:=aB (i:=2) p rfl;have c3:=aB (i:=3) p rfl;have c4:=aB (i:=4) p rfl;have c5:=aB (i:=5) p rfl;have c6:=aB (i:=6) p rfl;have c7:=aB (i:=7) p rfl;have c8:=aB (i:=8) p rfl;have c9:=aB (i:=9) p rfl;have ae:=aB (i:=10) p rfl;have ag:=aB (i:=11) p rfl;have cf:=aP p;clear p f1;have R3:=au (OI R2.o aO (.int .i64 0) (.int .i64 0) (.int .i64 kd) (.int .i64 (-1)) (.int .i64 (-1)) (.int .i64 T.ini) (.int .i64 0) (.slice none 0 0) (.slice none 0 0) (.string ⟨#[]⟩) (.string (bs hx)) (.string (bs hy)));go_wp2;refine hK.o _ _ ?_;clear hK;go_wp2;obtain⟨f,hf⟩:=R3.o.fst;refine bodyPost_ret (results_cell_row rfl _ _ w.heap.size 119 _ (0,0) _ rfl hf.1 Tryz.underlying119 rfl fi) rfl ?_;exact⟨rfl,M.o _ _ R3.o⟩
theorem Vq.at{l:List Vr}(h:Vq w A l)(hn:0<l.length):∃ b o,A=some ⟨b,o,none⟩/\∀ w',Below w.heap.size w w'->∀ j (p:j<l.length),
  w'.cell? ⟨b,o+j*3,none⟩=some (.string (bs l[j].w))/\w'.cell? ⟨b,o+j*3+1,none⟩=some (.int .i64 l[j].e)/\w'.cell? ⟨b,o+j*3+2,none⟩=some (.int .i64 l[j].c):=by
 obtain⟨b,o,e,q⟩:=tH.at (R:=gZ) (fun _=>rfl) ff h hn;exact⟨b,o,e,fun w' z j p=>⟨q w' z j p 0 _ rfl,q w' z j p 1 _ rfl,q w' z j p 2 _ rfl⟩⟩
theorem Dp{u v:uK}{a c:WW}{t:TA}{b1 b2 b3:Nat}(hu:0<u.ls.length)(hv:0<v.ls.length)(bk:u.vs.length<=1000000)(bh:v.vs.length<=1000000)(a3:∀ x ∈ u.vs,0<=x.c/\x.c<=1000)(az:∀ x ∈ v.vs,0<=x.c/\x.c<=1000)(bv:u.ls.length<=1000000)(br:v.ls.length<=1000000):
  QX Tryz.prog 93 #[.pointer (some ⟨b1,0,none⟩),.pointer (some ⟨b2,0,none⟩),.pointer (some ⟨b3,0,none⟩)] (Xq u v a c) (Zy u v a c T t b1 b2 b3) Kh (gy T.ini u.vs v.vs u.ls v.ls):=by
 intro n lo w F0 w0 X Y aw bu hE h0 hY;have HY:=au hY;have HE:=au hE;have aa:=au aw;have a5:=au a3;have a9:=au az;clear hY hE aw a3 az;obtain⟨n1,ad⟩:∃ k,k=u.vs.length:=⟨_,rfl⟩;obtain⟨m,hm⟩:∃ k,k=v.vs.length:=⟨_,rfl⟩;have ap:=au ad;have HM:=au hm;have ai:=au (fun (i j:Nat) (hi:i<u.vs.length) (hj:j<v.vs.length)=>(show ∃ h:i*m+j<(gy T.ini u.vs v.vs u.ls v.ls).length,(gy T.ini u.vs v.vs u.ls v.ls)[i*m+j]=uD u.vs[i] v.vs[j] from by rw[hm];exact Vs hi hj));have ag:=au (fun (hp:u.ls.length=1)=>(show ∃ h:n1*m<(gy T.ini u.vs v.vs u.ls v.ls).length,(gy T.ini u.vs v.vs u.ls v.ls)[n1*m]=iH 2 T.ini u.ls v.ls from by rw[ad,hm];exact Sy hp));have ae:=au (fun (hq:v.ls.length=1) (k:Nat) (hk:k=n1*m+if u.ls.length=1 then 1 else 0)=>Ki (ini:=T.ini) (us:=u.vs) (vs:=v.vs) (p:=u.ls) hq (n:=k) (by rw[<-ad,<-hm];exact hk));have af:=au (fun (hq:v.ls.length≠1) (k:Nat) (hk:k=n1*m+if u.ls.length=1 then 1 else 0)=>OJ (ini:=T.ini) (us:=u.vs) (vs:=v.vs) (p:=u.ls) hq (n:=k) (by rw[<-ad,<-hm];exact hk));rw[<-ad] at bk;rw[<-hm] at bh;refine callsIn_of_wp Tryz.func93 rfl trivial ?_ rfl;simp only[Tryz.ntmps93,kz,YR,Zz,Nat.reduceAdd,Nat.reduceSub,ZN,ZO,kB,ZX,Z8,Zq];have H0:=au h0;obtain⟨⟨z0,z1,z2⟩,⟨y0,y1,y2⟩,z5⟩:=o8 h0;rw[<-ad] at z1;rw[<-hm] at y1;have ar:X 0=X (0*m):=by rw[li]
 have aE:=au (show aI F0 w0 (aj (Zy u v a c T t b1 b2 b3) (X (0*m))) w from ar ▸ h0);clear h0 ad hm ar H0;gi_wp2;gi_loopw [13] (fun i wr=>∃ k:Nat,k<=n1/\i=.int .i64 k/\aI F0 w0 (aj (Zy u v a c T t b1 b2 b3) (X (k*m))) wr) (fun i _=>n1-(intOf i).toNat)
 case atStart=>exact⟨0,YE _,rfl,aE.o⟩
 case round=>
  obtain⟨k,hk,rfl,hR⟩:=hrel;have HR:=au hR;clear aE hR z0 z1 z2 y0 y1 y2 z5;obtain⟨⟨z0,z1,z2⟩,⟨y0,y1,y2⟩,z5⟩:=o8 HR.o;rw[<-ap.o] at z1;rw[<-HM.o] at y1;by_cases an:k<n1
  ·have al:k<u.vs.length:=by rw[<-ap.o];exact an
   have HP:=au (HE.o wr HR.o.mod);obtain⟨b,o,hA,hc⟩:=HP.o.u.vs.at ff;obtain⟨r0,r1,r2⟩:=hc wr (YC _ _) k al;rw[hA] at z1 ⊢;clear hc hA;have be:=a5.o _ (YL al);have am:=au (show k+1<=n1 from an);have aD:=au (fun (j:Nat) (hj:j<v.vs.length)=>ai.o k j al hj);have bp:(k:Int)<1000000:=by omega
   generalize u.vs[k]=q at *
   obtain⟨qw,qe,qc⟩:=q;dsimp only at r0 r1 r2 be;have h6:=aH HR.o (ay kG (aa.o _)) (il (bs qw) qe qc) 60;have H6:=au (show aI F0 w0 (aj (aj (av wr.heap.size (il (bs qw) qe qc) 60) (Zy u v a c T t b1 b2 b3)) (X (k*m+0))) _ from h6.perm (by rw[ZM];ac_rfl));obtain⟨⟨bd,ba,bb⟩,⟨bc,a2,a8⟩,a7⟩:=o8 h6.drop;rw[<-HM.o] at a2;have bm:=au (HE.o _ h6.mod);clear h6 HR HP hk;gi_wp2;generalize wr.alloc (.cells (il (bs qw) qe qc) 60)=w6 at *
   generalize wr.heap.size=g6 at *
   clear z0 z1 z2 y0 y1 y2 z5 r0 r1 r2 bd ba bb bc a2 a8 a7;gi_loopw [20] (fun i wr=>∃ j:Nat,j<=m/\i=.int .i64 j/\aI F0 w0 (aj (aj (av g6 (il (bs qw) qe qc) 60) (Zy u v a c T t b1 b2 b3)) (X (k*m+j))) wr) (fun i _=>m-(intOf i).toNat)
   case atStart=>exact⟨0,YE _,rfl,H6.o⟩
   case round=>
    clear H6 bm;obtain⟨j,hj,rfl,hR⟩:=hrel;have HR:=au hR;clear hR;by_cases a0:j<m
    ·have ak:j<v.vs.length:=by rw[<-HM.o];exact a0
     have HP:=au (HE.o _ HR.o.mod);obtain⟨b',o',hA,hc⟩:=HP.o.v.vs.at ff;obtain⟨r0,r1,r2⟩:=hc _ (YC _ _) j ak;have ax:=a9.o _ (YL ak);have a4:=au (show j+1<=m from a0);have bo:(j:Int)<1000000:=by omega
     obtain⟨I,J⟩:=aD.o j ak;clear hc;generalize v.vs[j]=q' at *
     obtain⟨a6,bi,bj⟩:=q';dsimp only at r0 r1 r2 ax;rw[hA];clear hA;have h8:=aH HR.o (ay aQ (aa.o _)) (il (bs a6) bi bj) 60;obtain⟨p0,p1,p2⟩:=dZ h8;obtain⟨x0,x1,x2⟩:=dZ (h8.drop.assoc:aI F0 w0 (aj (av g6 (il (bs qw) qe qc) 60) _) _);obtain⟨ao,aq,aA⟩:=dZ (HR.o.assoc:aI F0 w0 (aj (av g6 (il (bs qw) qe qc) 60) _) _);have hw:=HY.o (aj (av g6 (il (bs qw) qe qc) 60) (Zy u v a c T t b1 b2 b3)) aQ _ I _ h8.drop;rw[J] at hw;simp only[Kh,kr,uD,iH] at hw;obtain⟨fn,tmps,assign,body,hy,hround⟩:=hw;have F:=au hround;clear hround J I;have a1:=au h8;clear h8 HR HP hj ak aD;gi_wp2
     try rw[hy]
     refine⟨fun h=>(by cases h),?_⟩;refine F.o.mono ?_;rintro e W3 (⟨rfl,h3⟩|⟨rfl,h3⟩)
     ·have H9:=au h3;clear F h3 hy r0 r1 r2 p0 p1 p2 x0 x1 x2 ao aq aA a1;gi_wp2
      go_roundw
      case rel=>exact⟨j+1,a4.o,by go_num,H9.o⟩
      case measure=>have:=a4.o;simp[intOf];omega
     ·have ab:=au (show(∃ v,(Ending.returned (.tuple #[]))=.returned v)/\∃ Z:CH.bq,Z.Ok/\(aI F0 w0 (aj Z (X (gy T.ini u.vs v.vs u.ls v.ls).length)) W3\/aI F0 w0 (aj Z Y) W3) from⟨⟨_,rfl⟩,(aj (av g6 (il (bs qw) qe qc) 60) (Zy u v a c T t b1 b2 b3)),ay aC kG,.inr h3⟩);clear F h3 hy r0 r1 r2 p0 p1 p2 x0 x1 x2 ao aq aA a1;gi_wp2;refine bodyPost_ret (results_none rfl _ _ _) rfl ?_;exact ab.o
    ·have H9:=au (show aI F0 w0 (aj (Zy u v a c T t b1 b2 b3) (X ((k+1)*m))) wr from by
      have e:j=m:=by omega
      subst e;rw[jz]
      exact HR.o.assoc.drop)
     clear HR;gi_wp2
     go_roundw
     case rel=>exact⟨k+1,am.o,by go_num,H9.o⟩
     case measure=>have:=am.o;simp[intOf];omega
  ·have bf:k=n1:=by omega
   subst bf;have bn:=HE.o wr HR.o.mod;clear hk;by_cases hp:u.ls.length=1
   ·have t1:((u.ls.length:Int)==1)=true:=by simp[hp]
    obtain⟨I,J⟩:=ag.o hp;have KI:=au (rO (aa.o _) HR.o (HE.o _ HR.o.mod) hu hv 2)
    gi_wp2_with fail
    repeat(refine⟨fun f h=>(by cases h),?_⟩;gi_wp2_with fail)
    refine⟨trivial,fun h=>(by cases h),?_⟩;refine(callsIn_wide.2 KI.o).mono ?_;rintro e9 w7 ⟨rfl,hb⟩;have H7:=au (HR.o.below (ay kG (aa.o _)) hb);clear KI HR hb z0 z1 z2 y0 y1 y2 z5;have hw:=HY.o (Zy u v a c T t b1 b2 b3) kG _ I _ H7.o;rw[J] at hw;simp only[Kh,kr,uD,iH] at hw;obtain⟨fn,tmps,assign,body,hy,hround⟩:=hw;have F:=au hround;clear hround J I;dsimp only;simp only[kr,iH];gi_wp2
    try rw[hy]
    refine⟨fun h=>(by cases h),?_⟩;refine F.o.mono ?_;rintro e W3 (⟨rfl,h3⟩|⟨rfl,h3⟩)
    ·have H9:=au h3;clear F h3 hy H7;have z:=au H9.o;obtain⟨⟨z0,z1,z2⟩,⟨y0,y1,y2⟩,z5⟩:=o8 z.o;by_cases hq:v.ls.length=1
     ·obtain⟨⟨I,J⟩,M⟩:=ae.o hq _ (show k*m+1=_ from by rw[if_pos hp]);have t2:((v.ls.length:Int)==1)=true:=by simp[hq]
      have KI:=au (rO (aa.o _) z.o (HE.o _ z.o.mod) hu hv 3);clear ae af ag ai
      gi_wp2_with fail
      repeat(refine⟨fun f h=>(by cases h),?_⟩;gi_wp2_with fail)
      refine⟨trivial,fun h=>(by cases h),?_⟩;refine(callsIn_wide.2 KI.o).mono ?_;rintro e9 w7 ⟨rfl,hb⟩;have H7:=au (z.o.below (ay kG (aa.o _)) hb);clear KI z hb z0 z1 z2 y0 y1 y2 z5;have hw:=HY.o (Zy u v a c T t b1 b2 b3) kG _ I _ H7.o;rw[J] at hw;simp only[Kh,kr,uD,iH] at hw;obtain⟨fn,tmps,assign,body,hy,hround⟩:=hw;have F:=au hround;clear hround J I;dsimp only;simp only[kr,iH];gi_wp2
      try rw[hy]
      refine⟨fun h=>(by cases h),?_⟩;refine F.o.mono ?_;rintro e W3 h3;have ab:=au (show e=.returned (.bool true)\/e=.returned (.bool false) from h3.imp (fun h=>h.1) (fun h=>h.1));have V:=au (show(∃ v,(Ending.returned (.tuple #[]))=.returned v)/\∃ Z:CH.bq,Z.Ok/\(aI F0 w0 (aj Z (X (gy T.ini u.vs v.vs u.ls v.ls).length)) W3\/aI F0 w0 (aj Z Y) W3) from⟨⟨_,rfl⟩,(Zy u v a c T t b1 b2 b3),kG,h3.imp (fun h=>by rw[<-M];exact h.2) (fun h=>h.2)⟩);clear F h3 hy H7;rcases ab.o with rfl|rfl
      ·dsimp only;rename_i Kq ac;refine ac _ _ ?_;gi_wp2
       first|refine bodyPost_end (results_none rfl _ _ _) rfl ?_|refine bodyPost_ret (results_none rfl _ _ _) rfl ?_
       exact V.o
      ·dsimp only;rename_i Kq ac;refine ac _ _ ?_;gi_wp2
       first|refine bodyPost_end (results_none rfl _ _ _) rfl ?_|refine bodyPost_ret (results_none rfl _ _ _) rfl ?_
       exact V.o
     ·have M:=af.o hq _ (show k*m+1=_ from by rw[if_pos hp]);have t2:((v.ls.length:Int)==1)=false:=by simp;omega
      have V:=au (show(∃ v,(Ending.returned (.tuple #[]))=.returned v)/\∃ Z:CH.bq,Z.Ok/\(aI F0 w0 (aj Z (X (gy T.ini u.vs v.vs u.ls v.ls).length)) W3\/aI F0 w0 (aj Z Y) W3) from⟨⟨_,rfl⟩,(Zy u v a c T t b1 b2 b3),kG,.inl (by rw[<-M];exact z.o)⟩);clear ae af ag ai z M;gi_wp2
      repeat(refine⟨fun f h=>(by cases h),?_⟩;gi_wp2)
      first|refine bodyPost_end (results_none rfl _ _ _) rfl ?_|refine bodyPost_ret (results_none rfl _ _ _) rfl ?_
      exact V.o
    ·have ab:=au (show(∃ v,(Ending.returned (.tuple #[]))=.returned v)/\∃ Z:CH.bq,Z.Ok/\(aI F0 w0 (aj Z (X (gy T.ini u.vs v.vs u.ls v.ls).length)) W3\/aI F0 w0 (aj Z Y) W3) from⟨⟨_,rfl⟩,(Zy u v a c T t b1 b2 b3),kG,.inr h3⟩);clear F h3 hy H7;gi_wp2;refine bodyPost_ret (results_none rfl _ _ _) rfl ?_;exact ab.o
   ·have t1:((u.ls.length:Int)==1)=false:=by simp;omega
    clear z0 z1 z2 y0 y1 y2 z5;have z:=au HR.o;obtain⟨⟨z0,z1,z2⟩,⟨y0,y1,y2⟩,z5⟩:=o8 z.o;by_cases hq:v.ls.length=1
    ·obtain⟨⟨I,J⟩,M⟩:=ae.o hq _ (show k*m=_ from by rw[if_neg hp];exact(ZM _).symm);have t2:((v.ls.length:Int)==1)=true:=by simp[hq]
     have KI:=au (rO (aa.o _) z.o (HE.o _ z.o.mod) hu hv 3);clear ae af ag ai
     gi_wp2_with fail
     repeat(refine⟨fun f h=>(by cases h),?_⟩;gi_wp2_with fail)
     refine⟨trivial,fun h=>(by cases h),?_⟩;refine(callsIn_wide.2 KI.o).mono ?_;rintro e9 w7 ⟨rfl,hb⟩;have H7:=au (z.o.below (ay kG (aa.o _)) hb);clear KI z hb z0 z1 z2 y0 y1 y2 z5;have hw:=HY.o (Zy u v a c T t b1 b2 b3) kG _ I _ H7.o;rw[J] at hw;simp only[Kh,kr,uD,iH] at hw;obtain⟨fn,tmps,assign,body,hy,hround⟩:=hw;have F:=au hround;clear hround J I;dsimp only;simp only[kr,iH];gi_wp2
     try rw[hy]
     refine⟨fun h=>(by cases h),?_⟩;refine F.o.mono ?_;rintro e W3 h3;have ab:=au (show e=.returned (.bool true)\/e=.returned (.bool false) from h3.imp (fun h=>h.1) (fun h=>h.1));have V:=au (show(∃ v,(Ending.returned (.tuple #[]))=.returned v)/\∃ Z:CH.bq,Z.Ok/\(aI F0 w0 (aj Z (X (gy T.ini u.vs v.vs u.ls v.ls).length)) W3\/aI F0 w0 (aj Z Y) W3) from⟨⟨_,rfl⟩,(Zy u v a c T t b1 b2 b3),kG,h3.imp (fun h=>by rw[<-M];exact h.2) (fun h=>h.2)⟩);clear F h3 hy H7;rcases ab.o with rfl|rfl
     ·dsimp only;rename_i Kq ac;refine ac _ _ ?_;gi_wp2
      first|refine bodyPost_end (results_none rfl _ _ _) rfl ?_|refine bodyPost_ret (results_none rfl _ _ _) rfl ?_
      exact V.o
     ·dsimp only;rename_i Kq ac;refine ac _ _ ?_;gi_wp2
      first|refine bodyPost_end (results_none rfl _ _ _) rfl ?_|refine bodyPost_ret (results_none rfl _ _ _) rfl ?_
      exact V.o
    ·have M:=af.o hq _ (show k*m=_ from by rw[if_neg hp];exact(ZM _).symm);have t2:((v.ls.length:Int)==1)=false:=by simp;omega
     have V:=au (show(∃ v,(Ending.returned (.tuple #[]))=.returned v)/\∃ Z:CH.bq,Z.Ok/\(aI F0 w0 (aj Z (X (gy T.ini u.vs v.vs u.ls v.ls).length)) wr\/aI F0 w0 (aj Z Y) wr) from⟨⟨_,rfl⟩,(Zy u v a c T t b1 b2 b3),kG,.inl (by rw[<-M];exact z.o)⟩);clear ae af ag ai z M;gi_wp2
     repeat(refine⟨fun f h=>(by cases h),?_⟩;gi_wp2)
     first|refine bodyPost_end (results_none rfl _ _ _) rfl ?_|refine bodyPost_ret (results_none rfl _ _ _) rfl ?_
     exact V.o
end Go.Proofs.YtbnnlpjpnihheaaGreatDoor
namespace Go.CH.Mtc
open Go.CH.Scr Go.CH.eG
def iQ(T:fy)(k k2:Int)(ws:List Wy)(i:Nat):List Pr:=(ws.take i).filterMap (nA T k k2)
section
variable{T:fy}{k k2:Int}{ws:List Wy}{i:Nat}
theorem OL:iQ T k k2 ws 0=[]:=by unfold iQ;rw[k8];rfl
variable{y:Bs}{d:Dv}
theorem SB{x:Bs}:first (iQ T k k2 (gJ T k x k2 y) (gJ T k x k2 y).length)=iB T k x k2 y:=by unfold iQ iB jc;rw[YO]
theorem OM(hi:i<ws.length)(h:jl T k ws[i].x k2 ws[i].y=none):iQ T k k2 ws (i+1)=iQ T k k2 ws i:=by
 unfold iQ;rw[YD hi,Zh];have:nA T k k2 ws[i]=none:=by unfold nA;rw[h];rfl
 simp[this]
theorem OO(hi:i<ws.length)(h:jl T k ws[i].x k2 ws[i].y=some d):first (iQ T k k2 ws (i+1))=qQ (first (iQ T k k2 ws i)) ⟨0,0,ws[i].kd,ws[i].l,ws[i].r,ws[i].c+d.c,d⟩:=by
 have e:iQ T k k2 ws (i+1)=iQ T k k2 ws i++[⟨0,0,ws[i].kd,ws[i].l,ws[i].r,ws[i].c+d.c,d⟩]:=by
  unfold iQ;rw[YD hi,Zh];have:nA T k k2 ws[i]=some ⟨0,0,ws[i].kd,ws[i].l,ws[i].r,ws[i].c+d.c,d⟩:=by unfold nA;rw[h];rfl
  simp[this]
 rw[e];unfold first
 rw[rS];rfl
theorem SC{x:Bs}{p:Pr}(h:first (iQ T k k2 (gJ T k x k2 y) i)=some p):p ∈ jc T k x k2 y:=by
 have h1:=(jF h).1;unfold iQ at h1;obtain⟨w,hw,he⟩:=List.mem_filterMap.1 h1;exact List.mem_filterMap.2 ⟨w,ZC hw,he⟩
theorem Dq{x:Bs}(z:Bs)(h:z ∈ bg k x):z.length<=x.length:=by
 by_cases hw:word k x=true
 ·have h1:z.length<=(bg k x).flatten.length:=(List.sublist_flatten_of_mem h).length_le;rw[CK hw] at h1;unfold lower at h1;rw[YI] at h1;exact h1
 ·unfold bg at h;rw[if_neg hw] at h;cases h
theorem sV{x:Bs}:(gC (bg k x)).length<=x.length:=by
 cases h:bg k x with
 | nil=>exact YE _
 | cons z l=>
  show z.length<=_
  exact Dq (k:=k) z (by rw[h];exact Ze ..)
theorem zm{x:Bs}{v:Vr}(h:v ∈ eP T k x):v.w.length<=x.length:=by
 unfold eP at h;rcases List.mem_cons.1 h with rfl|h
 ·have:=Go.Proofs.YtbnnlpjpnihheaaGreatDoor.wB (k:=k) (x:=x) (n:=(bg k x).length);rw[YO] at this;exact this
 ·obtain⟨p,-,q⟩:=List.mem_filterMap.1 h;unfold j3 at q;split at q
  ·injection q with q
   rw[<-q];exact Go.Proofs.YtbnnlpjpnihheaaGreatDoor.wB
  ·cases q
theorem wD{x:Bs}{w:Wy}(h:w ∈ gJ T k x k2 y):w.x.length<=x.length/\w.y.length<=y.length:=by
 rcases mg.1 h with⟨u,hu,v,hv,rfl⟩|⟨-,rfl⟩|⟨-,rfl⟩
 ·exact⟨zm hu,zm hv⟩
 ·exact⟨sV,sV⟩
 ·exact⟨sV,sV⟩
theorem lq{x:Bs}(hv:bC T=true):(eP T k x).length<=41:=by
 unfold eP;rw[YR];have h1:=ZJ (j3 k (bg k x)) T.es.zipIdx;rw[lx] at h1;have h2:=(eU.1 hv).2.2.2;unfold iU at h2;simp only[YF,decide_eq_true_eq] at h2;omega
end
end Go.CH.Mtc
namespace Go.Proofs.YtbnnlpjpnihheaaGreatDoor
open Go.RowKit Go.CH Go.CH.Scr Go.CH.eG Go.CH.Mtc
open Go.ChangeMaps (setBlock)
def XZ(b1 b2 b3:Nat):Value:=.func (.func 93) #[] (mr (some ⟨b1,0,none⟩) (some ⟨b2,0,none⟩) (some ⟨b3,0,none⟩))
variable{T:fy}{A:fj}{d:Dv}
theorem Iy{u v:uK}{a c:WW}{t:TA}(w:World):
  Calls Tryz.prog 55 #[eu T t,qG u a,qG v c] w (fun e w'=>∃ b1 b2 b3,e=.returned (XZ b1 b2 b3)/\bS w fh (Zy u v a c T t b1 b2 b3) w'):=by
 have z:=aH (aI.begin w) aO (dh T t) 25;have q:=aH z aQ (nD u a) 77;have h:=aH q aQ (nD v c) 77;simp only[YN] at h;have p:=au (show bS w fh (Zy u v a c T t (w.heap.size+1) (w.heap.size+1+1) w.heap.size) _ from((h.perm (by unfold Zy;ac_rfl:_=aj aS (Zy u v a c T t (w.heap.size+1) (w.heap.size+1+1) w.heap.size))).drop).post kG);clear z q h;unfold eu qG;unfold dh nD at p ⊢
 go_enter Tryz.func55,Tryz.ntmps55
 go_wp2;go_ret;exact⟨_,_,_,rfl,p.o⟩
def og(p:Pr)(A:fj)(ac:Nat)(B:fj)(bc:Nat):Array Value:=(fX p.i p.j p.kd p.l p.r p.c p.d.c A p.d.L.length ac B p.d.M.length bc (bs p.d.F))
def iP(A:fj)(ac:Nat)(B:fj)(bc:Nat)(d:Dv):CH.bq:=aj (aV A ac d.L) (aV B bc d.M)
theorem nM{B:fj}{ac bc:Nat}:(iP A ac B bc d).Ok:=ay bV bV
instance {A B:fj} {ac bc:Nat} {d:Dv}:(iP A ac B bc d).Ok:=nM
def SE(w:World)(o:Option Pr)(e:Ending)(w':World):Prop:=
 ∃ A ac B bc,e=.returned (.tuple #[.agg (og (o.getD CB) A ac B bc),.bool o.isSome])/\bS w fh (iP A ac B bc (o.getD CB).d) w'
attribute [local go_sem] Zi
theorem pq{P:Program}(w:World)(g:Nat)(ty:TypeId)(b:Bool)(hg:w.cell? ⟨g,0,none⟩=some (.bool b))(hu:P.underlying ty=some .bool):
  (loadVar ty ⟨g,0,none⟩).run P w=.ok (.bool b) w:=by
 unfold loadVar;simp[isAgg,run_underlying hu,Zk,hg]
variable{w w0 W:World}{g g6 i:Nat}{F0:Nat->Prop}{t:TypeId}{X:CH.bq}{V a1 a2 a3 J z a6 M I a0:Value}{k k2:Int}{ws:List Wy}
theorem X0{tmps:Array Value}{p:Nat}{cs:Array Value}{b:Bool}(h:tmps.getD 6 undef=.pointer (some ⟨g,0,none⟩))(q:tmps.getD 7 undef=.pointer (some ⟨p,0,none⟩))(J:cs.size=10)(M:w.heap[g]?=some (.cells cs 44))(I:w.cell? ⟨p,0,none⟩=some (.bool b)):(results Tryz.f30 tmps).run Tryz.prog w=.ok (.tuple #[.agg cs,.bool b]) w:=by
 have z:tmps[6]?.getD undef=.pointer (some ⟨g,0,none⟩):=by simpa using h
 have e2:tmps[7]?.getD undef=.pointer (some ⟨p,0,none⟩):=by simpa using q
 have F:=pq (P:=Tryz.prog) w p 4 b I Tryz.underlying4;have V:=run_loadVar_row (P:=Tryz.prog) w g 44 44 cs (0,0) _ M Tryz.underlying44 rfl (by rw[J];kernel_rfl);simp only[results,Tryz.results30];simp[Zk,Result.andThen,z,e2,asAddr,F,V]
theorem bE{q:Value}(h:aI F0 w0 (aj (av g #[V,a1,a2,a3,J,z,a6,M,q,I] t) X) w):
  (ub w g V a1 a2 a3 J)/\(ui w g z a6 M q I)/\∀ i,w.frozen? ⟨g,i,none⟩=false:=by
 obtain⟨F,p⟩:=h.fst;exact⟨⟨aB p rfl,aB p rfl,aB p rfl,aB p rfl,aB p rfl⟩,⟨aB p rfl,aB p rfl,aB p rfl,aB p rfl,aB p rfl⟩,aP p⟩
theorem wE{a7 q:Value}(h:aI F0 w0 (aj (av g #[a0,a1,a2,a3,V,J,a6,a7,I,M,z,q] t) X) w):
  (iz w g a0 a1 a2 a3 V J)/\(uk w g a6 a7 I M z q)/\∀ i,w.frozen? ⟨g,i,none⟩=false:=by
 obtain⟨F,p⟩:=h.fst;exact⟨⟨aB p rfl,aB p rfl,aB p rfl,aB p rfl,aB p rfl,aB p rfl⟩,⟨aB p rfl,aB p rfl,aB p rfl,aB p rfl,aB p rfl,aB p rfl⟩,aP p⟩
theorem gM{a4 a5 F q:Value}(h:aI F0 w0 (aj (av g #[a0,a1,a2,a3,a4,a5,M,I,F,q] t) X) w)(z:X.Ok)(p b1 b2 b3 J V b6 b7 b8 b9:Value):
  aI F0 w0 (aj (av g #[p,b1,b2,b3,J,V,b6,b7,b8,b9] t) X) ((((((((((w.setCell ⟨g,0,none⟩ p).setCell ⟨g,1,none⟩ b1).setCell ⟨g,2,none⟩ b2).setCell ⟨g,3,none⟩ b3).setCell ⟨g,4,none⟩ J).setCell ⟨g,5,none⟩ V).setCell ⟨g,6,none⟩ b6).setCell ⟨g,7,none⟩ b7).setCell ⟨g,8,none⟩ b8).setCell ⟨g,9,none⟩ b9):=by
 have h0:aI F0 w0 (aj (av g #[p,a1,a2,a3,a4,a5,M,I,F,q] t) X) _:=aJ h z 0 p;have h1:aI F0 w0 (aj (av g #[p,b1,a2,a3,a4,a5,M,I,F,q] t) X) _:=aJ h0 z 1 b1;have h2:aI F0 w0 (aj (av g #[p,b1,b2,a3,a4,a5,M,I,F,q] t) X) _:=aJ h1 z 2 b2;have h3:aI F0 w0 (aj (av g #[p,b1,b2,b3,a4,a5,M,I,F,q] t) X) _:=aJ h2 z 3 b3;have h4:aI F0 w0 (aj (av g #[p,b1,b2,b3,J,a5,M,I,F,q] t) X) _:=aJ h3 z 4 J;have h5:aI F0 w0 (aj (av g #[p,b1,b2,b3,J,V,M,I,F,q] t) X) _:=aJ h4 z 5 V;have h6:aI F0 w0 (aj (av g #[p,b1,b2,b3,J,V,b6,I,F,q] t) X) _:=aJ h5 z 6 b6;have h7:aI F0 w0 (aj (av g #[p,b1,b2,b3,J,V,b6,b7,F,q] t) X) _:=aJ h6 z 7 b7;have h8:aI F0 w0 (aj (av g #[p,b1,b2,b3,J,V,b6,b7,b8,q] t) X) _:=aJ h7 z 8 b8;exact aJ h8 z 9 b9
def SF(T:fy)(k k2:Int)(ws:List Wy)(g6 h:Nat)(X:CH.bq)(i:Nat):CH.bq:=
 pG fun p:Pr=>pG fun f:Bool=>pG fun A:fj=>pG fun ac:Nat=>pG fun B:fj=>pG fun bc:Nat=>yU (first (iQ T k k2 ws i)=(if f then some p else none)/\(f=false->p=CB)) (aj (av g6 (og p A ac B bc) 44) (aj (av h (gE f) 4) (aj (iP A ac B bc p.d) X)))
theorem EB{g7:Nat}(hX:X.Ok):(SF T k k2 ws g6 g7 X i).Ok:=eO fun _=>eO fun _=>eO fun _=>eO fun _=>eO fun _=>eO fun _=>iW (ay aC (ay aC (ay nM hX)))
instance {T:fy} {k k2:Int} {ws:List Wy} {g6 g7 i:Nat} {X:CH.bq} [hX:X.Ok]:(SF T k k2 ws g6 g7 X i).Ok:=EB hX
theorem Bz{q:Nat}{R:CH.bq}{p:Pr}{f:Bool}{B:fj}{ac bc:Nat}(z:first (iQ T k k2 ws i)=(if f then some p else none))(F:f=false->p=CB)(h:aI F0 w0 (aj (aj (av g6 (og p A ac B bc) 44) (aj (av q (gE f) 4) (aj (iP A ac B bc p.d) X))) R) W):aI F0 w0 (aj (SF T k k2 ws g6 q X i) R) W:=
 aI.uf p (aI.uf f (aI.uf A (aI.uf ac (aI.uf B (aI.uf bc (aI.kD ⟨z,F⟩ h))))))
theorem SG{q:Nat}{R:CH.bq}(h:aI F0 w0 (aj (SF T k k2 ws g6 q X i) R) W):∃ (p:Pr) (f:Bool) (A:fj) (ac:Nat) (B:fj) (bc:Nat),first (iQ T k k2 ws i)=(if f then some p else none)/\(f=false->p=CB)/\aI F0 w0 (aj (aj (av g6 (og p A ac B bc) 44) (aj (av q (gE f) 4) (aj (iP A ac B bc p.d) X))) R) W:=by
 obtain⟨p,h⟩:=h.ex;obtain⟨f,h⟩:=h.ex;obtain⟨A,h⟩:=h.ex;obtain⟨ac,h⟩:=h.ex;obtain⟨B,h⟩:=h.ex;obtain⟨bc,h⟩:=h.ex;obtain⟨⟨z,F⟩,h⟩:=h.pure;exact⟨p,f,A,ac,B,bc,z,F,h⟩
abbrev _root_.Go.fx(u:uK)(a:WW):Array Value:=j0 u.k a.V u.vs.length a.vc a.L u.ls.length a.lc
abbrev _root_.Go.gx(p:Pr)(A:fj)(c:Nat)(B:fj)(d:Nat):Array Value:=fX p.i p.j p.kd p.l p.r p.c p.d.c A p.d.L.length c B p.d.M.length d (bs p.d.F)
theorem wF{ta:TA}(hT:iR w T ta)(hz:LZ w){x y:Bs}(hx:x.length<=1000000)(hy:y.length<=1000000)(b4:okW T k x k2 y=true){a c:WW}(hu:jk w (dX T k x) a)(hv:jk w (dX T k2 y) c):
  Calls Tryz.prog 30 #[eu T ta,qG (dX T k x) a,qG (dX T k2 y) c] w (SE w (iB T k x k2 y)):=by
 obtain⟨br,bv,ai⟩:=gI.1 b4;have h1:=aH (aI.begin w) aO (dh T ta) 25;have h2:=aH h1 (ay aC aO) (nD (dX T k x) a) 77;have h3:=aH h2 (ay aC (ay aC aO)) (nD (dX T k2 y) c) 77;have h4:=aH h3 (ay aC (ay aC (ay aC aO))) (fX 0 0 0 0 0 0 0 none 0 0 none 0 0 ⟨#[]⟩) 44;have h5:=aH h4 (ay aC (ay aC (ay aC (ay aC aO)))) (gE false) 4;simp only[YN] at h5;have H5:=au h5;have cv:=au (fun W X (h:aI fh w X W)=>(show Below w.heap.size w W from h.mod.below (fun _ _ h=>h)));have b0:=au (fun b1 b2 b3=>Dp (u:=dX T k x) (v:=dX T k2 y) (a:=a) (c:=c) (T:=T) (t:=ta) (b1:=b1) (b2:=b2) (b3:=b3) (gV br).1 (gV bv).1 (YQ (lq ai) ff) (YQ (lq ai) ff) (fun z hz=>kZ ai hz) (fun z hz=>kZ ai hz) (YQ (gV br).2 ff) (YQ (gV bv).2 ff));have cm:=au (fun W (hm:Mod fh w W)=>(show Xq (dX T k x) (dX T k2 y) a c W from⟨hu.below (hm.below (fun _ _ h=>h)),hv.below (hm.below (fun _ _ h=>h))⟩));have cj:=au (show gy T.ini (dX T k x).vs (dX T k2 y).vs (dX T k x).ls (dX T k2 y).ls=gJ T k x k2 y from rfl);have KB:=au (fun W (hb:Below w.heap.size w W) (z:Wy) (a4:z ∈ gJ T k x k2 y)=>Ab (hT.below hb) (hz.below hb) k z.x k2 z.y (YQ (wD a4).1 hx) (YQ (wD a4).2 hy));have KW:=au (fun W=>Iy (u:=dX T k x) (v:=dX T k2 y) (a:=a) (c:=c) (T:=T) (t:=ta) W);have cx:=au (fun (z:Wy) (a4:z ∈ gJ T k x k2 y)=>vC ai a4);have HK:=au (show(dX T k x).k=k/\(dX T k2 y).k=k2 from⟨rfl,rfl⟩);have cg:=au (SB (T:=T) (k:=k) (k2:=k2) (x:=x) (y:=y));have ck:=au (fun i p h=>CG ai (SC (T:=T) (k:=k) (k2:=k2) (x:=x) (y:=y) (i:=i) (p:=p) h));clear hT hz hx hy b4 hu hv br bv ai h1 h2 h3 h4 h5;generalize iB T k x k2 y=bz at *
 generalize gJ T k x k2 y=ws at *
 generalize dX T k x=u at *
 generalize dX T k2 y=v at *
 unfold qG eu at *
 unfold nD dh at *
 generalize T.rs.length=n1 at *
 generalize T.ds.length=n2 at *
 generalize T.es.length=n3 at *
 obtain⟨aA,ac,V,ad,aE,ae⟩:=ta;dsimp only at H5 KB ⊢;refine(callsIn_wide (n:=8)).1 ?_;refine callsIn_of_wp_marks Tryz.func30 rfl trivial ?_ rfl;simp only[Tryz.ntmps30,kz,YR,Zz,Nat.reduceAdd,Nat.reduceSub,ZN,ZO,kB,ZX,Z8,Zq];refine(wpIn_wide (n:=8)).2 ?_;go_upto_region 1 with (fail);generalize (((((w.alloc (.cells (fw aA n1 ac V n2 ad aE n3 ae T.drop T.ord T.ini) 25)).alloc (.cells (fx u a) 77)).alloc (.cells (fx v c) 77)).alloc (.cells (fX 0 0 0 0 0 0 0 none 0 0 none 0 0 ⟨#[]⟩) 44)).alloc (.cells (gE false) 4))=w5 at *
 generalize w.heap.size+1+1+1+1=J at *
 generalize w.heap.size+1+1+1=g6 at *
 generalize w.heap.size+1+1=g5 at *
 generalize w.heap.size+1=g4 at *
 generalize ci:w.heap.size=g3 at H5 ⊢;clear ci;have ab:=au (ay aC (ay aC (ay aC aO)):((aj (av g5 (fx v c) 77) (aj (av g4 (fx u a) 77) (aj (av g3 (fw aA n1 ac V n2 ad aE n3 ae T.drop T.ord T.ini) 25) aS)))).Ok);obtain⟨t0,t1,t2,t3,t4,t5⟩:=bZ H5.o.drop.drop.drop.drop;obtain⟨u0,u1,u2⟩:=dZ H5.o.drop.drop.drop;obtain⟨v0,v1,v2⟩:=dZ H5.o.drop.drop;have b6:=au (KW.o w5);clear KW;go_wp2_with fail;refine b6.o.mono ?_;rintro e9 w6 ⟨b1,b2,b3,rfl,hp⟩;have b7:=au (ay aC (ay aC ab.o):(aj (av J (gE false) 4) (aj (av g6 (fX 0 0 0 0 0 0 0 none 0 0 none 0 0 ⟨#[]⟩) 44) (aj (av g5 (fx v c) 77) (aj (av g4 (fx u a) 77) (aj (av g3 (fw aA n1 ac V n2 ad aE n3 ae T.drop T.ord T.ini) 25) aS))))).Ok);have H6:=au (H5.o.fresh b7.o hp);clear b6 H5 hp t0 t1 t2 t3 t4 t5 u0 u1 u2 v0 v1 v2;dsimp only;go_wp2_with fail;have bm:=au (b0.o b1 b2 b3);rw[cj.o] at bm;clear b0;have h7:=H6.o.fresh (ay kG b7.o) (iL (YC w6.heap.size w6));have h8:aI fh w (aj (aj (av g6 (fX 0 0 0 0 0 0 0 none 0 0 none 0 0 ⟨#[]⟩) 44) (aj (av J (gE false) 4) (aj (iP none 0 none 0 LC) (aj (av g5 (fx v c) 77) (aj (av g4 (fx u a) 77) (aj (av g3 (fw aA n1 ac V n2 ad aE n3 ae T.drop T.ord T.ini) 25) aS)))))) (Zy u v a c T ⟨aA,ac,V,ad,aE,ae⟩ b1 b2 b3)) w6:=h7.perm (by unfold iP LC;ac_rfl);have a7:=(Bz (T:=T) (k:=k) (k2:=k2) (ws:=ws) (i:=0) (p:=CB) (f:=false) (by rw[OL];rfl) (fun _=>rfl) h8).swap;have ch:=au a7;clear h7 h8 a7 H6;have b8:∀ (i:Nat) (a':Act),(pG fun g8:Nat=>pG fun z:Wy=>yU (ws[i]?=some z/\a'={ tmps:=#[.agg (fw aA n1 ac V n2 ad aE n3 ae T.drop T.ord T.ini),.agg (fx u a),.agg (fx v c),.pointer (some ⟨g3,0,none⟩),.pointer (some ⟨g4,0,none⟩),.pointer (some ⟨g5,0,none⟩),.pointer (some ⟨g6,0,none⟩),.pointer (some ⟨J,0,none⟩),.pointer (some ⟨g8,0,none⟩),undef,undef,.agg (fw aA n1 ac V n2 ad aE n3 ae T.drop T.ord T.ini),.agg (fx u a),.agg (fx v c),XZ b1 b2 b3,.agg (kr z),undef,undef,undef,undef,undef,undef,undef,undef,undef,undef,undef,undef,undef,undef,undef,undef,undef,undef,undef,undef,undef,undef,undef,undef,undef,undef,undef,undef,undef,undef,undef,undef,undef,undef,undef,undef,undef,undef,undef,undef],defers:=[] }) (aj (av g8 (kr z) 119) (SF T k k2 ws g6 J (aj (av g5 (fx v c) 77) (aj (av g4 (fx u a) 77) (aj (av g3 (fw aA n1 ac V n2 ad aE n3 ae T.drop T.ord T.ini) 25) aS))) i))).Ok:=fun i a'=>eO fun g8=>eO fun z=>iW (ay aC (EB ab.o));refine qd (gf:=93) (lb:=(mr (some ⟨b1,0,none⟩) (some ⟨b2,0,none⟩) (some ⟨b3,0,none⟩))) rfl (enters_of Tryz.func93 fi rfl) bm.o kG (fun _=>rfl) cm.o (fun i=>SF T k k2 ws g6 J (aj (av g5 (fx v c) 77) (aj (av g4 (fx u a) 77) (aj (av g3 (fw aA n1 ac V n2 ad aE n3 ae T.drop T.ord T.ini) 25) aS))) i) (fun _=>Xt) (fun i=>EB ab.o) _ b8 (fun _=>Lh) ch.o ?_ ?_ ?_ ?_
 ·intro lo m i hi R' W1 K hR hI hK;have h3:=aH hI (ay (EB ab.o) hR) (kr ws[i]) 119;have HF:=au (hK { tmps:=#[.agg (fw aA n1 ac V n2 ad aE n3 ae T.drop T.ord T.ini),.agg (fx u a),.agg (fx v c),.pointer (some ⟨g3,0,none⟩),.pointer (some ⟨g4,0,none⟩),.pointer (some ⟨g5,0,none⟩),.pointer (some ⟨g6,0,none⟩),.pointer (some ⟨J,0,none⟩),.pointer (some ⟨W1.heap.size,0,none⟩),undef,undef,.agg (fw aA n1 ac V n2 ad aE n3 ae T.drop T.ord T.ini),.agg (fx u a),.agg (fx v c),XZ b1 b2 b3,.agg (kr ws[i]),undef,undef,undef,undef,undef,undef,undef,undef,undef,undef,undef,undef,undef,undef,undef,undef,undef,undef,undef,undef,undef,undef,undef,undef,undef,undef,undef,undef,undef,undef,undef,undef,undef,undef,undef,undef,undef,undef,undef,undef],defers:=[] } _ (aI.uf W1.heap.size (aI.uf ws[i] (aI.kD ⟨YH hi,rfl⟩ (h3.perm (by ac_rfl))))));clear hI h3 hK;unfold Kh;generalize ws[i]=z at *
  obtain⟨I,zl,zr,zc,zx,zy⟩:=z;unfold kr;unfold kr at HF;dsimp only at HF;dsimp only;gi_wp2;exact HF.o
 ·intro lo m i hi a' R' W1 hR hI;obtain⟨g8,h1⟩:=hI.ex;obtain⟨z,h1⟩:=h1.ex;obtain⟨⟨bu,rfl⟩,h2⟩:=h1.pure;have a8:ws[i]=z:=by rw[YH hi] at bu;injection bu
  have a4:z ∈ ws:=by rw[<-a8];exact YL hi
  have bh:=au (show jl T k z.x k2 z.y=none->iQ T k k2 ws (i+1)=iQ T k k2 ws i from fun h=>OM hi (by rw[a8];exact h))
  have bf:=au (show ∀ d,jl T k z.x k2 z.y=some d->first (iQ T k k2 ws (i+1))=qQ (first (iQ T k k2 ws i)) ⟨0,0,z.kd,z.l,z.r,z.c+d.c,d⟩ from fun d h=>by
   have:=OO (T:=T) (k:=k) (k2:=k2) hi (d:=d) (by rw[a8];exact h);rw[a8] at this
   exact this)
  obtain⟨p,f,A,pc,B,qc,a9,a6,h3⟩:=SG (h2.perm (by ac_rfl:_=aj (SF T k k2 ws g6 J (aj (av g5 (fx v c) 77) (aj (av g4 (fx u a) 77) (aj (av g3 (fw aA n1 ac V n2 ad aE n3 ae T.drop T.ord T.ini) 25) aS))) i) (aj (av g8 (kr z) 119) R')));have bx:=au a9;have bn:=au a6;have bp:=au hR;have H3:=au (h3.perm (by ac_rfl:_=(aj (av g8 (kr z) 119) (aj (av g6 (og p A pc B qc) 44) (aj (av J (gE f) 4) (aj (av g3 (fw aA n1 ac V n2 ad aE n3 ae T.drop T.ord T.ini) 25) (aj (av g4 (fx u a) 77) (aj (av g5 (fx v c) 77) (aj (iP A pc B qc p.d) (aj R' aS))))))))));have bj:=au (ay aC (ay aC (ay aC (ay aC (ay aC (ay aC (ay nM (ay hR aO))))))):((aj (av g8 (kr z) 119) (aj (av g6 (og p A pc B qc) 44) (aj (av J (gE f) 4) (aj (av g3 (fw aA n1 ac V n2 ad aE n3 ae T.drop T.ord T.ini) 25) (aj (av g4 (fx u a) 77) (aj (av g5 (fx v c) 77) (aj (iP A pc B qc p.d) (aj R' aS))))))))).Ok);have cw:=cx.o z a4;have cy:=au (fun q h=>ck.o i q h);have bi:=au (KB.o W1 (cv.o _ _ H3.o) z a4);rw[<-HK.o.1,<-HK.o.2] at bi;clear hI h1 h2 h3 bu a8 a4 hi a9 a6 hR;obtain⟨I,zl,zr,zc,zx,zy⟩:=z;unfold kr at H3 bj ⊢;dsimp only at H3 bj cw bi bh bf ⊢;obtain⟨⟨ax,aw,ar,a1,ap,ao⟩,⟨a2,aq,az,am,ag,af⟩,wf⟩:=wE H3.o;obtain⟨t0,t1,t2,t3,t4,t5⟩:=bZ H3.o.drop.drop.drop;obtain⟨u0,u1,u2⟩:=dZ H3.o.drop.drop.drop.drop;obtain⟨v0,v1,v2⟩:=dZ H3.o.drop.drop.drop.drop.drop;refine wpIn_block (wpIn_seq (fC rfl (fun⟨a,w,h⟩=>h) ?_));go_wp2_with fail;refine bi.o.mono ?_;rintro e9 w3 ⟨d,er,A2,c2,B2,d2,rfl,hbp,hp⟩;rw[HK.o.1,HK.o.2] at hbp;have bo:=au (sF hbp);have H4:=au (H3.o.fresh bj.o hp);clear bi H3 hp hbp ax aw ar a1 ap ao a2 aq az am ag af wf t0 t1 t2 t3 t4 t5 u0 u1 u2 v0 v1 v2;dsimp only;go_wp2_with fail;have cp:=au (ay (ay bV bV) bj.o:(aj (aj (aV A2 c2 d.L) (aV B2 d2 d.M)) (aj (av g8 (im 0 0 I zl zr zc 0 none 0 0 none 0 0 ⟨#[]⟩ (bs zx) (bs zy)) 119) (aj (av g6 (og p A pc B qc) 44) (aj (av J (gE f) 4) (aj (av g3 (fw aA n1 ac V n2 ad aE n3 ae T.drop T.ord T.ini) 25) (aj (av g4 (fx u a) 77) (aj (av g5 (fx v c) 77) (aj (iP A pc B qc p.d) (aj R' aS))))))))).Ok);have H5:=au (aH H4.o cp.o (fY d.c A2 d.L.length c2 B2 d.M.length d2 (bs d.F)) 42);clear H4;generalize w3.alloc (.cells (fY d.c A2 d.L.length c2 B2 d.M.length d2 (bs d.F)) 42)=w4 at *
  generalize w3.heap.size=g9 at *
  rcases bo.o with⟨rfl,a5⟩|⟨ca,a5⟩
  ·have cC:=oK a5;have bw:=au (bf.o d a5);clear a5 bo bh bf;refine wpIn_seq (wpIn_seq (fC rfl (fun⟨a,w,h⟩=>h) ?_));go_wp2_with fail
   iterate 5 gi_step
   have H6:=au (H5.o.perm (by ac_rfl:_=aj (av g8 (im 0 0 I zl zr zc 0 none 0 0 none 0 0 ⟨#[]⟩ (bs zx) (bs zy)) 119) (aj (av g9 (fY d.c A2 d.L.length c2 B2 d.M.length d2 (bs d.F)) 42) (aj (aj (aV A2 c2 d.L) (aV B2 d2 d.M)) (aj (av g6 (og p A pc B qc) 44) (aj (av J (gE f) 4) (aj (av g3 (fw aA n1 ac V n2 ad aE n3 ae T.drop T.ord T.ini) 25) (aj (av g4 (fx u a) 77) (aj (av g5 (fx v c) 77) (aj (iP A pc B qc p.d) (aj R' aS)))))))))));have al:=au (ay aC (ay (ay bV bV) (ay aC (ay aC (ay aC (ay aC (ay aC (ay nM (ay bp.o aO)))))))):(aj (av g9 (fY d.c A2 d.L.length c2 B2 d.M.length d2 (bs d.F)) 42) (aj (aj (aV A2 c2 d.L) (aV B2 d2 d.M)) (aj (av g6 (og p A pc B qc) 44) (aj (av J (gE f) 4) (aj (av g3 (fw aA n1 ac V n2 ad aE n3 ae T.drop T.ord T.ini) 25) (aj (av g4 (fx u a) 77) (aj (av g5 (fx v c) 77) (aj (iP A pc B qc p.d) (aj R' aS))))))))).Ok);clear H5;obtain⟨e0,e1,e2,e3,-⟩:=aY H6.o.drop;obtain⟨⟨ax,aw,ar,a1,ap,ao⟩,⟨a2,aq,az,am,ag,af⟩,wf⟩:=wE H6.o;refine wpIn_seq (fC rfl (fun⟨a,w,h⟩=>h) ?_);go_wp2_with fail;have cd:aI fh w (aj (av g8 (im 0 0 I zl zr zc d.c none 0 0 none 0 0 ⟨#[]⟩ (bs zx) (bs zy)) 119) (aj (av g9 (fY d.c A2 d.L.length c2 B2 d.M.length d2 (bs d.F)) 42) (aj (aj (aV A2 c2 d.L) (aV B2 d2 d.M)) (aj (av g6 (og p A pc B qc) 44) (aj (av J (gE f) 4) (aj (av g3 (fw aA n1 ac V n2 ad aE n3 ae T.drop T.ord T.ini) 25) (aj (av g4 (fx u a) 77) (aj (av g5 (fx v c) 77) (aj (iP A pc B qc p.d) (aj R' aS)))))))))) _:=aJ H6.o al.o 6 (.int .i64 d.c);have cc:aI fh w (aj (av g8 (im 0 0 I zl zr zc d.c A2 d.L.length c2 none 0 0 ⟨#[]⟩ (bs zx) (bs zy)) 119) (aj (av g9 (fY d.c A2 d.L.length c2 B2 d.M.length d2 (bs d.F)) 42) (aj (aj (aV A2 c2 d.L) (aV B2 d2 d.M)) (aj (av g6 (og p A pc B qc) 44) (aj (av J (gE f) 4) (aj (av g3 (fw aA n1 ac V n2 ad aE n3 ae T.drop T.ord T.ini) 25) (aj (av g4 (fx u a) 77) (aj (av g5 (fx v c) 77) (aj (iP A pc B qc p.d) (aj R' aS)))))))))) _:=aJ cd al.o 7 (.slice A2 d.L.length c2);have b9:aI fh w (aj (av g8 (im 0 0 I zl zr zc d.c A2 d.L.length c2 B2 d.M.length d2 ⟨#[]⟩ (bs zx) (bs zy)) 119) (aj (av g9 (fY d.c A2 d.L.length c2 B2 d.M.length d2 (bs d.F)) 42) (aj (aj (aV A2 c2 d.L) (aV B2 d2 d.M)) (aj (av g6 (og p A pc B qc) 44) (aj (av J (gE f) 4) (aj (av g3 (fw aA n1 ac V n2 ad aE n3 ae T.drop T.ord T.ini) 25) (aj (av g4 (fx u a) 77) (aj (av g5 (fx v c) 77) (aj (iP A pc B qc p.d) (aj R' aS)))))))))) _:=aJ cc al.o 8 (.slice B2 d.M.length d2);have H7:=au (show aI fh w (aj (av g8 (im 0 0 I zl zr zc d.c A2 d.L.length c2 B2 d.M.length d2 (bs d.F) (bs zx) (bs zy)) 119) (aj (av g9 (fY d.c A2 d.L.length c2 B2 d.M.length d2 (bs d.F)) 42) (aj (aj (aV A2 c2 d.L) (aV B2 d2 d.M)) (aj (av g6 (og p A pc B qc) 44) (aj (av J (gE f) 4) (aj (av g3 (fw aA n1 ac V n2 ad aE n3 ae T.drop T.ord T.ini) 25) (aj (av g4 (fx u a) 77) (aj (av g5 (fx v c) 77) (aj (iP A pc B qc p.d) (aj R' aS)))))))))) ((((w4.setCell ⟨g8,6,none⟩ (.int .i64 d.c)).setCell ⟨g8,7,none⟩ (.slice A2 d.L.length c2)).setCell ⟨g8,8,none⟩ (.slice B2 d.M.length d2)).setCell ⟨g8,9,none⟩ (.string (bs d.F))) from aJ b9 al.o 9 (.string (bs d.F)));clear cd cc b9 H6 e0 e1 e2 e3 ax aw ar a1 ap ao a2 aq az am ag af wf;generalize (((w4.setCell ⟨g8,6,none⟩ (.int .i64 d.c)).setCell ⟨g8,7,none⟩ (.slice A2 d.L.length c2)).setCell ⟨g8,8,none⟩ (.slice B2 d.M.length d2)).setCell ⟨g8,9,none⟩ (.string (bs d.F))=w7 at *
   obtain⟨e0,e1,e2,e3,-⟩:=aY H7.o.drop;obtain⟨⟨ax,aw,ar,a1,ap,ao⟩,⟨a2,aq,az,am,ag,af⟩,wf⟩:=wE H7.o;have tw:wrap64 (zc+d.c)=zc+d.c:=Zr _ ff;refine wpIn_seq (fC rfl (fun⟨a,w,h⟩=>h) ?_);go_wp2_with fail;have H8:=au (show aI fh w (aj (av g8 (im 0 0 I zl zr (zc+d.c) d.c A2 d.L.length c2 B2 d.M.length d2 (bs d.F) (bs zx) (bs zy)) 119) (aj (av g9 (fY d.c A2 d.L.length c2 B2 d.M.length d2 (bs d.F)) 42) (aj (aj (aV A2 c2 d.L) (aV B2 d2 d.M)) (aj (av g6 (og p A pc B qc) 44) (aj (av J (gE f) 4) (aj (av g3 (fw aA n1 ac V n2 ad aE n3 ae T.drop T.ord T.ini) 25) (aj (av g4 (fx u a) 77) (aj (av g5 (fx v c) 77) (aj (iP A pc B qc p.d) (aj R' aS)))))))))) (w7.setCell ⟨g8,5,none⟩ (.int .i64 (zc+d.c))) from aJ H7.o al.o 5 (.int .i64 (zc+d.c)));clear H7 tw e0 e1 e2 e3 ax aw ar a1 ap ao a2 aq az am ag af wf;generalize w7.setCell ⟨g8,5,none⟩ (.int .i64 (zc+d.c))=w8 at *
   obtain⟨⟨ax,aw,ar,a1,ap,ao⟩,⟨a2,aq,az,am,ag,af⟩,wf⟩:=wE H8.o;obtain⟨⟨p0,p1,p2,p3,p4⟩,⟨p5,p6,p7,p8,p9⟩,pf⟩:=bE H8.o.drop.drop.drop;obtain⟨FB,aa⟩:=H8.o.drop.drop.drop.drop.fst;have q0:=aB (i:=0) aa rfl;have qf:=aP aa;clear aa FB;unfold og at H8 al;have a7:∀ wz,aI fh w (aj (av g8 (im 0 0 I zl zr (zc+d.c) d.c A2 d.L.length c2 B2 d.M.length d2 (bs d.F) (bs zx) (bs zy)) 119) (aj (av g9 (fY d.c A2 d.L.length c2 B2 d.M.length d2 (bs d.F)) 42) (aj (aj (aV A2 c2 d.L) (aV B2 d2 d.M)) (aj (av g6 (gx p A pc B qc) 44) (aj (av J (gE f) 4) (aj (av g3 (fw aA n1 ac V n2 ad aE n3 ae T.drop T.ord T.ini) 25) (aj (av g4 (fx u a) 77) (aj (av g5 (fx v c) 77) (aj (iP A pc B qc p.d) (aj R' aS)))))))))) wz->aI fh w (aj (av J (gE f) 4) (aj (av g6 (fX 0 0 I zl zr (zc+d.c) d.c A2 d.L.length c2 B2 d.M.length d2 (bs d.F)) 44) (aj (aj (aV A2 c2 d.L) (aV B2 d2 d.M)) (aj (aj (av g8 (im 0 0 I zl zr (zc+d.c) d.c A2 d.L.length c2 B2 d.M.length d2 (bs d.F) (bs zx) (bs zy)) 119) (aj (av g9 (fY d.c A2 d.L.length c2 B2 d.M.length d2 (bs d.F)) 42) (iP A pc B qc p.d))) (aj R' (aj (av g5 (fx v c) 77) (aj (av g4 (fx u a) 77) (aj (av g3 (fw aA n1 ac V n2 ad aE n3 ae T.drop T.ord T.ini) 25) aS)))))))) ((((((((((wz.setCell ⟨g6,0,none⟩ (.int .i64 0)).setCell ⟨g6,1,none⟩ (.int .i64 0)).setCell ⟨g6,2,none⟩ (.int .i64 I)).setCell ⟨g6,3,none⟩ (.int .i64 zl)).setCell ⟨g6,4,none⟩ (.int .i64 zr)).setCell ⟨g6,5,none⟩ (.int .i64 (zc+d.c))).setCell ⟨g6,6,none⟩ (.int .i64 d.c)).setCell ⟨g6,7,none⟩ (.slice A2 d.L.length c2)).setCell ⟨g6,8,none⟩ (.slice B2 d.M.length d2)).setCell ⟨g6,9,none⟩ (.string (bs d.F))):=fun wz hz=>by
    have h1:=hz.perm (by ac_rfl:_=aj (av g6 (gx p A pc B qc) 44) (aj (av J (gE f) 4) (aj (aj (aV A2 c2 d.L) (aV B2 d2 d.M)) (aj (aj (av g8 (im 0 0 I zl zr (zc+d.c) d.c A2 d.L.length c2 B2 d.M.length d2 (bs d.F) (bs zx) (bs zy)) 119) (aj (av g9 (fY d.c A2 d.L.length c2 B2 d.M.length d2 (bs d.F)) 42) (iP A pc B qc p.d))) (aj R' (aj (av g5 (fx v c) 77) (aj (av g4 (fx u a) 77) (aj (av g3 (fw aA n1 ac V n2 ad aE n3 ae T.drop T.ord T.ini) 25) aS))))))));have co:(aj (av J (gE f) 4) (aj (aj (aV A2 c2 d.L) (aV B2 d2 d.M)) (aj (aj (av g8 (im 0 0 I zl zr (zc+d.c) d.c A2 d.L.length c2 B2 d.M.length d2 (bs d.F) (bs zx) (bs zy)) 119) (aj (av g9 (fY d.c A2 d.L.length c2 B2 d.M.length d2 (bs d.F)) 42) (iP A pc B qc p.d))) (aj R' (aj (av g5 (fx v c) 77) (aj (av g4 (fx u a) 77) (aj (av g3 (fw aA n1 ac V n2 ad aE n3 ae T.drop T.ord T.ini) 25) aS))))))).Ok:=ay aC (ay (ay bV bV) (ay (ay aC (ay aC nM)) (ay bp.o ab.o)));have h2:=gM h1 co (.int .i64 0) (.int .i64 0) (.int .i64 I) (.int .i64 zl) (.int .i64 zr) (.int .i64 (zc+d.c)) (.int .i64 d.c) (.slice A2 d.L.length c2) (.slice B2 d.M.length d2) (.string (bs d.F));exact h2.perm (by ac_rfl)
   have bb:(aj (av g6 (fX 0 0 I zl zr (zc+d.c) d.c A2 d.L.length c2 B2 d.M.length d2 (bs d.F)) 44) (aj (aj (aV A2 c2 d.L) (aV B2 d2 d.M)) (aj (aj (av g8 (im 0 0 I zl zr (zc+d.c) d.c A2 d.L.length c2 B2 d.M.length d2 (bs d.F) (bs zx) (bs zy)) 119) (aj (av g9 (fY d.c A2 d.L.length c2 B2 d.M.length d2 (bs d.F)) 42) (iP A pc B qc p.d))) (aj R' (aj (av g5 (fx v c) 77) (aj (av g4 (fx u a) 77) (aj (av g3 (fw aA n1 ac V n2 ad aE n3 ae T.drop T.ord T.ini) 25) aS))))))).Ok:=ay aC (ay (ay bV bV) (ay (ay aC (ay aC nM)) (ay bp.o ab.o)));have an:=au a7;clear a7;cases f with
   | false=>
    have a3:first (iQ T k k2 ws (i+1))=(if true then some (⟨0,0,I,zl,zr,zc+d.c,d⟩:Pr) else none):=by rw[bw.o,bx.o];rfl
    have HN:=au a3;have H9:=au (an.o _ H8.o);have ba:=au bb;clear an H8 al a3 bb;refine wpIn_seq (fC rfl (fun⟨a,w,h⟩=>h) ?_);go_wp2_with fail
    iterate 2 gi_step
    refine fC rfl (fun⟨a,w,h⟩=>h) ?_
    iterate 8 go_step
    generalize ((((((((((w8.setCell ⟨g6,0,none⟩ (.int .i64 0)).setCell ⟨g6,1,none⟩ (.int .i64 0)).setCell ⟨g6,2,none⟩ (.int .i64 I)).setCell ⟨g6,3,none⟩ (.int .i64 zl)).setCell ⟨g6,4,none⟩ (.int .i64 zr)).setCell ⟨g6,5,none⟩ (.int .i64 (zc+d.c))).setCell ⟨g6,6,none⟩ (.int .i64 d.c)).setCell ⟨g6,7,none⟩ (.slice A2 d.L.length c2)).setCell ⟨g6,8,none⟩ (.slice B2 d.M.length d2)).setCell ⟨g6,9,none⟩ (.string (bs d.F)))=w9 at *
    obtain⟨FB,aa⟩:=H9.o.fst;have r0:=aB (i:=0) aa rfl;have rf:=aP aa;have hA:aI fh w (aj (av J (gE true) 4) _) _:=aJ H9.o ba.o 0 (.bool true);have a0:=(hA.perm (by ac_rfl:_=aj (aj (av g8 (im 0 0 I zl zr (zc+d.c) d.c A2 d.L.length c2 B2 d.M.length d2 (bs d.F) (bs zx) (bs zy)) 119) (aj (av g9 (fY d.c A2 d.L.length c2 B2 d.M.length d2 (bs d.F)) 42) (iP A pc B qc p.d))) (aj (aj (av g6 (fX 0 0 I zl zr (zc+d.c) d.c A2 d.L.length c2 B2 d.M.length d2 (bs d.F)) 44) (aj (av J (gE true) 4) (aj (aj (aV A2 c2 d.L) (aV B2 d2 d.M)) (aj (av g5 (fx v c) 77) (aj (av g4 (fx u a) 77) (aj (av g3 (fw aA n1 ac V n2 ad aE n3 ae T.drop T.ord T.ini) 25) aS)))))) R'))).drop;have HF:=au (show aI fh w (aj (SF T k k2 ws g6 J (aj (av g5 (fx v c) 77) (aj (av g4 (fx u a) 77) (aj (av g3 (fw aA n1 ac V n2 ad aE n3 ae T.drop T.ord T.ini) 25) aS))) (i+1)) R') (w9.setCell ⟨J,0,none⟩ (.bool true)) from Bz (p:=⟨0,0,I,zl,zr,zc+d.c,d⟩) (f:=true) (A:=A2) (ac:=c2) (B:=B2) (bc:=d2) HN.o (fun h=>by cases h) a0);clear hA a0 H9 ba HN aa FB;clear ax aw ar a1 ap ao a2 aq az am ag af wf p0 p1 p2 p3 p4 p5 p6 p7 p8 p9 pf q0 qf;go_wp2_with fail;exact HF.o
   | true=>
    have ak:=bx.o;simp only[if_true] at ak;have cD:=cy.o p ak;by_cases be:zc+d.c<p.c
    ·have t1:decide (zc+d.c<p.c)=true:=decide_eq_true be;have a3:first (iQ T k k2 ws (i+1))=(if true then some (⟨0,0,I,zl,zr,zc+d.c,d⟩:Pr) else none):=by rw[bw.o,ak];simp[qQ,be]
     have HN:=au a3;have H9:=au (an.o _ H8.o);have ba:=au bb;clear an H8 al a3 bb ak;refine wpIn_seq (fC rfl (fun⟨a,w,h⟩=>h) ?_);go_wp2_with fail
     iterate 2 gi_step
     refine fC rfl (fun⟨a,w,h⟩=>h) ?_
     iterate 8 go_step
     generalize ((((((((((w8.setCell ⟨g6,0,none⟩ (.int .i64 0)).setCell ⟨g6,1,none⟩ (.int .i64 0)).setCell ⟨g6,2,none⟩ (.int .i64 I)).setCell ⟨g6,3,none⟩ (.int .i64 zl)).setCell ⟨g6,4,none⟩ (.int .i64 zr)).setCell ⟨g6,5,none⟩ (.int .i64 (zc+d.c))).setCell ⟨g6,6,none⟩ (.int .i64 d.c)).setCell ⟨g6,7,none⟩ (.slice A2 d.L.length c2)).setCell ⟨g6,8,none⟩ (.slice B2 d.M.length d2)).setCell ⟨g6,9,none⟩ (.string (bs d.F)))=w9 at *
     obtain⟨FB,aa⟩:=H9.o.fst;have r0:=aB (i:=0) aa rfl;have rf:=aP aa;have hA:aI fh w (aj (av J (gE true) 4) _) _:=aJ H9.o ba.o 0 (.bool true);have a0:=(hA.perm (by ac_rfl:_=aj (aj (av g8 (im 0 0 I zl zr (zc+d.c) d.c A2 d.L.length c2 B2 d.M.length d2 (bs d.F) (bs zx) (bs zy)) 119) (aj (av g9 (fY d.c A2 d.L.length c2 B2 d.M.length d2 (bs d.F)) 42) (iP A pc B qc p.d))) (aj (aj (av g6 (fX 0 0 I zl zr (zc+d.c) d.c A2 d.L.length c2 B2 d.M.length d2 (bs d.F)) 44) (aj (av J (gE true) 4) (aj (aj (aV A2 c2 d.L) (aV B2 d2 d.M)) (aj (av g5 (fx v c) 77) (aj (av g4 (fx u a) 77) (aj (av g3 (fw aA n1 ac V n2 ad aE n3 ae T.drop T.ord T.ini) 25) aS)))))) R'))).drop;have HF:=au (show aI fh w (aj (SF T k k2 ws g6 J (aj (av g5 (fx v c) 77) (aj (av g4 (fx u a) 77) (aj (av g3 (fw aA n1 ac V n2 ad aE n3 ae T.drop T.ord T.ini) 25) aS))) (i+1)) R') (w9.setCell ⟨J,0,none⟩ (.bool true)) from Bz (p:=⟨0,0,I,zl,zr,zc+d.c,d⟩) (f:=true) (A:=A2) (ac:=c2) (B:=B2) (bc:=d2) HN.o (fun h=>by cases h) a0);clear hA a0 H9 ba HN aa FB;clear ax aw ar a1 ap ao a2 aq az am ag af wf p0 p1 p2 p3 p4 p5 p6 p7 p8 p9 pf q0 qf;go_wp2_with fail;exact HF.o
    ·have t1:decide (zc+d.c<p.c)=false:=decide_eq_false be;have a3:first (iQ T k k2 ws (i+1))=(if true then some p else none):=by rw[bw.o,ak];simp[qQ,be]
     have a0:=(H8.o.perm (by ac_rfl:_=aj (aj (av g8 (im 0 0 I zl zr (zc+d.c) d.c A2 d.L.length c2 B2 d.M.length d2 (bs d.F) (bs zx) (bs zy)) 119) (aj (av g9 (fY d.c A2 d.L.length c2 B2 d.M.length d2 (bs d.F)) 42) (aj (aV A2 c2 d.L) (aV B2 d2 d.M)))) (aj (aj (av g6 (gx p A pc B qc) 44) (aj (av J (gE true) 4) (aj (iP A pc B qc p.d) (aj (av g5 (fx v c) 77) (aj (av g4 (fx u a) 77) (aj (av g3 (fw aA n1 ac V n2 ad aE n3 ae T.drop T.ord T.ini) 25) aS)))))) R'))).drop;have HF:=au (show aI fh w (aj (SF T k k2 ws g6 J (aj (av g5 (fx v c) 77) (aj (av g4 (fx u a) 77) (aj (av g3 (fw aA n1 ac V n2 ad aE n3 ae T.drop T.ord T.ini) 25) aS))) (i+1)) R') w8 from Bz (p:=p) (f:=true) (A:=A) (ac:=pc) (B:=B) (bc:=qc) a3 (fun h=>by cases h) a0);clear an H8 al a3 bb ak a0;refine wpIn_seq (fC rfl (fun⟨a,w,h⟩=>h) ?_);go_wp2_with fail;gi_wp2;exact HF.o
  ·have t1:(er != 0)=true:=by simp[ca]
   have HF:=au (show aI fh w (aj (SF T k k2 ws g6 J (aj (av g5 (fx v c) 77) (aj (av g4 (fx u a) 77) (aj (av g3 (fw aA n1 ac V n2 ad aE n3 ae T.drop T.ord T.ini) 25) aS))) (i+1)) R') w4 from Bz (by rw[bh.o a5];exact bx.o) bn.o (H5.o.drop.drop.drop.perm (by ac_rfl)));clear bo a5 ca bh bf H5;refine wpIn_seq (wpIn_seq (fC rfl (fun⟨a,w,h⟩=>h) ?_));go_wp2_with fail;gi_wp2;exact HF.o
 ·intro D R W1 hR hI;obtain⟨p,f,A,pc,B,qc,a9,a6,h3⟩:=SG hI;have cn:=au (show bz=(if f then some p else none) from cg.o.symm.trans a9);have bn:=au a6;have H3:=au (h3.perm (by ac_rfl:_=aj (av g6 (og p A pc B qc) 44) (aj (av J (gE f) 4) (aj (iP A pc B qc p.d) (aj (bQ D (.deferred (some []))) (aj R (aj (av g5 (fx v c) 77) (aj (av g4 (fx u a) 77) (aj (av g3 (fw aA n1 ac V n2 ad aE n3 ae T.drop T.ord T.ini) 25) aS)))))))));have bk:=au (ay aC (ay aC (ay nM (ay bX (ay hR ab.o)))):(aj (av g6 (og p A pc B qc) 44) (aj (av J (gE f) 4) (aj (iP A pc B qc p.d) (aj (bQ D (.deferred (some []))) (aj R (aj (av g5 (fx v c) 77) (aj (av g4 (fx u a) 77) (aj (av g3 (fw aA n1 ac V n2 ad aE n3 ae T.drop T.ord T.ini) 25) aS)))))))).Ok);have ce:=au (ay nM (ay bX (ay hR ab.o)):(aj (iP A pc B qc p.d) (aj (bQ D (.deferred (some []))) (aj R (aj (av g5 (fx v c) 77) (aj (av g4 (fx u a) 77) (aj (av g3 (fw aA n1 ac V n2 ad aE n3 ae T.drop T.ord T.ini) 25) aS)))))).Ok);have cz:=au (show ∀ X Y:CH.bq,∀ F0 w0 W,aI F0 w0 (aj X (aj Y (aj R (aj (av g5 (fx v c) 77) (aj (av g4 (fx u a) 77) (aj (av g3 (fw aA n1 ac V n2 ad aE n3 ae T.drop T.ord T.ini) 25) aS)))))) W->aI F0 w0 (aj (aj R (aj (av g5 (fx v c) 77) (aj (av g4 (fx u a) 77) (aj (av g3 (fw aA n1 ac V n2 ad aE n3 ae T.drop T.ord T.ini) 25) aS)))) (aj X Y)) W from fun X Y F0 w0 W h=>h.perm (by ac_rfl));have cr:=au (ay hR ab.o:(aj R (aj (av g5 (fx v c) 77) (aj (av g4 (fx u a) 77) (aj (av g3 (fw aA n1 ac V n2 ad aE n3 ae T.drop T.ord T.ini) 25) aS)))).Ok);generalize (aj R (aj (av g5 (fx v c) 77) (aj (av g4 (fx u a) 77) (aj (av g3 (fw aA n1 ac V n2 ad aE n3 ae T.drop T.ord T.ini) 25) aS))))=RB at *
  clear hI h3 a9 a6 cg;unfold og at H3 bk;generalize w.heap.size=cA at *
  go_upto_region 9 with (fail);have H4:=au (H3.o.drew bk.o);clear H3;refine nQ [2,3] [0,1,1,2] (fun w'=>aI fh w (aj (av g6 (gx p A pc B qc) 44) (aj (av J (gE f) 4) (aj (iP A pc B qc p.d) (aj (bQ D (.deferred (some []))) RB)))) w') [fun w'=>aI fh w (aj (av g6 (gx p A pc B qc) 44) (aj (av J (gE f) 4) (aj (iP A pc B qc p.d) (aj (bQ D (.deferred (some []))) RB)))) w',fun w'=>aI fh w (aj (av g6 (gx p A pc B qc) 44) (aj (av J (gE f) 4) (aj (iP A pc B qc p.d) (aj (bQ D (.deferred (some []))) RB)))) w'] ⟨fun _ h=>h,fun _ h=>h,trivial⟩ rfl fi fi fi H4.o ?_;generalize W1.drew=W2 at *
  refine Af (v:=.agg (gx p A pc B qc)) ft ft (fun w' bd=>?_) ?_
  ·obtain⟨⟨p0,p1,p2,p3,p4⟩,⟨p5,p6,p7,p8,p9⟩,pf⟩:=bE (show aI fh w (aj (av g6 (gx p A pc B qc) 44) (aj (av J (gE f) 4) (aj (iP A pc B qc p.d) (aj (bQ D (.deferred (some []))) RB)))) w' from bd);clear bd bk;go_simp
  refine Af (v:=.bool f) ft ft (fun w' bd=>?_) ?_
  ·obtain⟨FB,aa⟩:=(show aI fh w (aj (av g6 (gx p A pc B qc) 44) (aj (av J (gE f) 4) (aj (iP A pc B qc p.d) (aj (bQ D (.deferred (some []))) RB)))) w' from bd).drop.fst;have q0:=aB (i:=0) aa rfl;clear bd bk;go_simp
  simp only[Act.put,Yy,YA,YB];refine eD rfl ft (fun K hK=>?_);obtain⟨⟨p0,p1,p2,p3,p4⟩,⟨p5,p6,p7,p8,p9⟩,pf⟩:=bE H4.o;go_wp2_with fail;have H5:=au (show aI fh w (aj (av g6 (gx p A pc B qc) 44) (aj (av J (gE f) 4) (aj (iP A pc B qc p.d) (aj (bQ D (.deferred (some []))) RB)))) ((((((((((W2.setCell ⟨g6,0,none⟩ (.int .i64 p.i)).setCell ⟨g6,1,none⟩ (.int .i64 p.j)).setCell ⟨g6,2,none⟩ (.int .i64 p.kd)).setCell ⟨g6,3,none⟩ (.int .i64 p.l)).setCell ⟨g6,4,none⟩ (.int .i64 p.r)).setCell ⟨g6,5,none⟩ (.int .i64 p.c)).setCell ⟨g6,6,none⟩ (.int .i64 p.d.c)).setCell ⟨g6,7,none⟩ (.slice A p.d.L.length pc)).setCell ⟨g6,8,none⟩ (.slice B p.d.M.length qc)).setCell ⟨g6,9,none⟩ (.string (bs p.d.F))) from gM H4.o (ay aC ce.o) (.int .i64 p.i) (.int .i64 p.j) (.int .i64 p.kd) (.int .i64 p.l) (.int .i64 p.r) (.int .i64 p.c) (.int .i64 p.d.c) (.slice A p.d.L.length pc) (.slice B p.d.M.length qc) (.string (bs p.d.F)));refine hK.o _ _ H5.o ?_;clear hK H4 p0 p1 p2 p3 p4 p5 p6 p7 p8 p9 pf;generalize ((((((((((W2.setCell ⟨g6,0,none⟩ (.int .i64 p.i)).setCell ⟨g6,1,none⟩ (.int .i64 p.j)).setCell ⟨g6,2,none⟩ (.int .i64 p.kd)).setCell ⟨g6,3,none⟩ (.int .i64 p.l)).setCell ⟨g6,4,none⟩ (.int .i64 p.r)).setCell ⟨g6,5,none⟩ (.int .i64 p.c)).setCell ⟨g6,6,none⟩ (.int .i64 p.d.c)).setCell ⟨g6,7,none⟩ (.slice A p.d.L.length pc)).setCell ⟨g6,8,none⟩ (.slice B p.d.M.length qc)).setCell ⟨g6,9,none⟩ (.string (bs p.d.F)))=W3 at *
  refine eD rfl ft (fun K hK=>?_);have h5:=H5.o.perm (by ac_rfl:_=aj (av J (gE f) 4) (aj (av g6 (gx p A pc B qc) 44) (aj (iP A pc B qc p.d) (aj (bQ D (.deferred (some []))) RB))));obtain⟨FB,aa⟩:=h5.fst;have q0:=aB (i:=0) aa rfl;have qf:=aP aa;go_wp2_with fail;have h6:aI fh w (aj (av J (gE f) 4) _) _:=aJ h5 (ay aC ce.o) 0 (.bool f);have H6:=au (h6.perm (by ac_rfl:_=(aj (av g6 (gx p A pc B qc) 44) (aj (av J (gE f) 4) (aj (iP A pc B qc p.d) (aj (bQ D (.deferred (some []))) RB))))));refine hK.o _ _ H6.o ?_;clear hK h5 h6 FB aa q0 qf H5;generalize W3.setCell _ _=W4 at *
  refine rZ ?_;have h7:=H6.o.perm (by ac_rfl:_=aj (bQ D (.deferred (some []))) (aj (av g6 (gx p A pc B qc) 44) (aj (av J (gE f) 4) (aj (iP A pc B qc p.d) RB))));obtain⟨FD,hD,-,cf⟩:=h7.take bX (ay aC (ay aC (ay nM cr.o)));have HD:=au hD.1;have h8:=cf _ _ (ji hD (.deferred none));have HP:=au ((h8.drop.drop.drop.perm (by ac_rfl:_=aj RB (iP A pc B qc p.d))).drop.post nM);obtain⟨F6,cb⟩:=h8.drop.fst;obtain⟨F7,b5⟩:=h8.drop.drop.fst;have ct:=au cb.1;have cq:=au (aB (i:=0) b5 rfl);have e1:bz.getD CB=p/\bz.isSome=f:=by
   rw[cn.o];cases f with
   | false=>exact⟨(bn.o rfl).symm,rfl⟩
   | true=>exact⟨rfl,rfl⟩
  have HE:=au e1;clear h7 hD cf h8 cb b5 F6 F7 FD e1 H6;go_wp2_with fail;refine⟨by simp,.inl ⟨_,_,rfl,run_takeDeferred HD.o,?_⟩⟩;refine⟨_,X0 rfl rfl rfl ct.o cq.o,A,pc,B,qc,?_,?_⟩
  ·rw[HE.o.1,HE.o.2];rfl
  ·rw[HE.o.1];exact HP.o
 ·intro D c R W1 hR hI;exact hI.no.elim
def nN(w:World)(T:fy)(k:Int)(x:Bs)(k2:Int)(y:Bs)(e:Ending)(w':World):Prop:=
 ∃ p er A ac B bc,e=.returned (.tuple #[.agg (og p A ac B bc),.int .i64 er])/\tK T k x k2 y p er/\bS w fh (iP A ac B bc p.d) w'
theorem MS(T:fy)(k:Int)(x:Bs):∃ u b,ng T k x=(u,b)/\b=(word k x&&bC T)/\(b=true->u=dX T k x):=by
 by_cases h:(word k x&&bC T)=true
 ·exact⟨_,_,by unfold ng;rw[if_pos h],h.symm,fun _=>rfl⟩
 ·exact⟨_,_,by unfold ng;rw[if_neg h],by simpa using h,fun h=>by cases h⟩
variable{v:Value}
theorem MU{tmps:Array Value}{cs:Array Value}(h:tmps.getD 10 undef=.pointer (some ⟨g,0,none⟩))(z:cs.size=10)(q:w.heap[g]?=some (.cells cs 44))(p:tmps.getD 11 undef=v):(results Tryz.f18 tmps).run Tryz.prog w=.ok (.tuple #[.agg cs,v]) w:=by
 subst p;exact dH rfl tmps w g 44 cs (0,0) h q Tryz.underlying44 (by rw[z];kernel_rfl)
theorem BA{a:TA}(hT:iR w T a)(hz:LZ w)(k:Int)(x:Bs)(k2:Int)(y:Bs)(hx:x.length<=1000000)(hy:y.length<=1000000):
  Calls Tryz.prog 18 #[eu T a,.int .i64 k,.string (bs x),.int .i64 k2,.string (bs y)] w (nN w T k x k2 y):=by
 have h1:=aH (aI.begin w) aO (dh T a) 25;have h2:=aH h1 aQ (fX 0 0 0 0 0 0 0 none 0 0 none 0 0 ⟨#[]⟩) 44;rw[YN] at h2;have H2:=au h2;have af:=au (fun W X (h:aI fh w X W)=>(show Below w.heap.size w W from h.mod.below (fun _ _ h=>h)));have a5:=au (fun W (z:Below w.heap.size w W)=>Bw (hT.below z) (hz.below z) k x hx);have a9:=au (fun W (z:Below w.heap.size w W)=>Bw (hT.below z) (hz.below z) k2 y hy);obtain⟨u1,b1,q1,a6,bd⟩:=MS T k x;obtain⟨V,b2,q2,a7,bc⟩:=MS T k2 y;have KC:=au (fun (bf:okW T k x k2 y=true) W (z:Below w.heap.size w W) (I J:WW) h1 h2=>wF (hT.below z) (hz.below z) hx hy bf (a:=I) (c:=J) h1 h2);have ap:=au (show okW T k x k2 y=(b1&&b2) from by rw[a6,a7];unfold okW;cases word k x<;>cases word k2 y<;>cases bC T<;>rfl);have aw:=au bd;have a3:=au bc;have ak:=au (fun W z=>(a5.o W z).mono fun e w' (h:Bt W T k x e w')=>(show ∃ a:WW,e=.returned (.tuple #[qG u1 a,.bool b1])/\Below W.heap.size W w'/\jk w' u1 a from by unfold Bt at h;rw[q1] at h;exact h));have ai:=au (fun W z=>(a9.o W z).mono fun e w' (h:Bt W T k2 y e w')=>(show ∃ a:WW,e=.returned (.tuple #[qG V a,.bool b2])/\Below W.heap.size W w'/\jk w' V a from by unfold Bt at h;rw[q2] at h;exact h));clear hT hz hx hy h1 h2 a5 a9 q1 a6 bd q2 a7 bc;unfold qG nD at ak ai;unfold qG nD at KC;unfold eu at *
 unfold dh at *
 generalize T.rs.length=n1 at *
 generalize T.ds.length=n2 at *
 generalize T.es.length=n3 at *
 obtain⟨aA,ac,aD,ad,aE,ae⟩:=a;dsimp only at H2 KC ak ai ⊢;generalize az:(w.alloc (.cells (fw aA n1 ac aD n2 ad aE n3 ae T.drop T.ord T.ini) 25)).alloc (.cells (fX 0 0 0 0 0 0 0 none 0 0 none 0 0 ⟨#[]⟩) 44)=w2 at H2;generalize ax:w.heap.size+1=g1 at H2;by_cases ao:(b1&&b2)=true
 ·rw[YF] at ao;obtain⟨rfl,rfl⟩:=ao;obtain rfl:=aw.o rfl;obtain rfl:=a3.o rfl;have a4:=au (KC.o ap.o)
  have ba:=au (show ∀ o,o=iB T k x k2 y->tK T k x k2 y (o.getD CB) (if o.isSome then 0 else 11) from fun o ho=>by
   cases o with
   | none=>exact .none ap.o ho.symm
   | some p=>exact .some ap.o ho.symm)
  clear KC ap aw a3;generalize dX T k x=u1 at *
  generalize dX T k2 y=V at *
  go_enter Tryz.func18,Tryz.ntmps18
  go_upto_region 1 with (fail);clear az ax;obtain⟨t0,t1,t2,t3,t4,t5⟩:=bZ H2.o.drop;have KA:=au (ak.o w2 (af.o _ _ H2.o));clear ak;go_wp2_with fail;refine KA.o.mono ?_;rintro e9 w3 ⟨I,rfl,z,hR⟩;have H3:=au (H2.o.below aQ z);have al:=au (fun W (h:Below w3.heap.size w3 W)=>hR.below h);clear KA z hR t0 t1 t2 t3 t4 t5 H2;have H4:=au (aH H3.o aQ (fx u1 I) 77);dsimp only;go_upto_region 2 with (fail);have aa:=au (show Below w3.heap.size w3 (w3.alloc (.cells (fx u1 I) 77))/\w3.heap.size<=(w3.alloc (.cells (fx u1 I) 77)).heap.size from⟨(YC _ _).alloc (YG _) _,by simp⟩);generalize w3.alloc (.cells (fx u1 I) 77)=w4 at *
  clear H3;generalize w3.heap.size=g3 at *
  obtain⟨t0,t1,t2,t3,t4,t5⟩:=bZ H4.o.drop.drop;have KB:=au (ai.o w4 (af.o _ _ H4.o));clear ai;go_wp2_with fail;refine KB.o.mono ?_;rintro e9 w5 ⟨J,rfl,z,hR⟩;have H5:=au (H4.o.below aQ z);have ab:=au (show jk w5 u1 I/\jk w5 V J from⟨al.o _ (aa.o.1.trans (z.mono aa.o.2)),hR⟩);clear KB z hR al aa t0 t1 t2 t3 t4 t5 H4;have H6:=au (aH H5.o aQ (fx V J) 77);have an:=au (show jk (w5.alloc (.cells (fx V J) 77)) u1 I/\jk (w5.alloc (.cells (fx V J) 77)) V J from⟨ab.o.1.below ((YC _ _).alloc (YG _) _),ab.o.2.below ((YC _ _).alloc (YG _) _)⟩);dsimp only;go_upto_region 3 with (fail);generalize w5.alloc (.cells (fx V J) 77)=w6 at *
  generalize w5.heap.size=g5 at *
  clear H5 ab;generalize iB T k x k2 y=o at *
  have bb:=au (a4.o _ (af.o _ _ H6.o) _ _ an.o.1 an.o.2);clear a4 an;have aq:=au (ba.o o rfl);clear ba;obtain⟨t0,t1,t2,t3,t4,t5⟩:=bZ H6.o.drop.drop.drop;obtain⟨v0,v1,v2⟩:=dZ H6.o;obtain⟨u0,bh,be⟩:=dZ H6.o.drop;go_wp2_with fail;refine bb.o.mono ?_;rintro e9 w7 ⟨A,pc,B,qc,rfl,hp⟩;have H7:=au (H6.o.fresh aQ hp);clear bb H6 hp t0 t1 t2 t3 t4 t5 u0 bh be v0 v1 v2;obtain⟨p,ar⟩:∃ p,p=o.getD CB:=⟨_,rfl⟩;rw[<-ar] at H7 aq;have bi:=au (show o.isSome=false->p=CB from fun h=>by cases o with|none=>exact ar|some q=>cases h);unfold og;rw[<-ar];generalize o.isSome=f at *
  clear ar;have H8:=au (aH H7.o aQ (gx p A pc B qc) 44);clear H7;dsimp only;go_upto_region 6 with (fail);generalize w7.alloc (.cells (gx p A pc B qc) 44)=w8 at *
  generalize w7.heap.size=g7 at *
  have h8:=H8.o.perm (by ac_rfl:_=aj (av g1 (fX 0 0 0 0 0 0 0 none 0 0 none 0 0 ⟨#[]⟩) 44) (aj (av g7 (gx p A pc B qc) 44) (aj (iP A pc B qc p.d) (aj (av g5 (fx V J) 77) (aj (av g3 (fx u1 I) 77) (aj (av w.heap.size (fw aA n1 ac aD n2 ad aE n3 ae T.drop T.ord T.ini) 25) aS))))));have ag:(aj (av g7 (gx p A pc B qc) 44) (aj (iP A pc B qc p.d) (aj (av g5 (fx V J) 77) (aj (av g3 (fx u1 I) 77) (aj (av w.heap.size (fw aA n1 ac aD n2 ad aE n3 ae T.drop T.ord T.ini) 25) aS))))).Ok:=ay aC aQ;have H9:=au (gM h8 ag (.int .i64 0) (.int .i64 0) (.int .i64 0) (.int .i64 0) (.int .i64 0) (.int .i64 0) (.int .i64 0) (.slice none 0 0) (.slice none 0 0) (.string ⟨#[]⟩));have a0:=au (gM h8 ag (.int .i64 p.i) (.int .i64 p.j) (.int .i64 p.kd) (.int .i64 p.l) (.int .i64 p.r) (.int .i64 p.c) (.int .i64 p.d.c) (.slice A p.d.L.length pc) (.slice B p.d.M.length qc) (.string (bs p.d.F)));obtain⟨⟨z0,z1,z2,z3,z4⟩,⟨z5,z6,z7,z8,z9⟩,zf⟩:=bE h8;obtain⟨⟨p0,p1,p2,p3,p4⟩,⟨p5,p6,p7,p8,p9⟩,pf⟩:=bE h8.drop;clear h8 ag;cases f with
  | false=>
   have HF:=au (show ∀ W,aI fh w (aj (av g1 (fX 0 0 0 0 0 0 0 none 0 0 none 0 0 ⟨#[]⟩) 44) (aj (av g7 (gx p A pc B qc) 44) (aj (iP A pc B qc p.d) (aj (av g5 (fx V J) 77) (aj (av g3 (fx u1 I) 77) (aj (av w.heap.size (fw aA n1 ac aD n2 ad aE n3 ae T.drop T.ord T.ini) 25) aS)))))) W->nN w T k x k2 y (.returned (.tuple #[.agg (fX 0 0 0 0 0 0 0 none 0 0 none 0 0 ⟨#[]⟩),.int .i64 11])) W from fun W h=>⟨CB,11,none,0,none,0,rfl,by have h1:=aq.o;rw[bi.o rfl] at h1;exact h1,iL (af.o _ _ h)⟩);clear a0;go_wp2;obtain⟨f2,am⟩:=H9.o.fst;refine bodyPost_ret (MU rfl rfl am.1 rfl) rfl ?_;exact HF.o _ H9.o
  | true=>
   have HF:=au (show ∀ W,aI fh w (aj (av g1 (gx p A pc B qc) 44) (aj (av g7 (gx p A pc B qc) 44) (aj (iP A pc B qc p.d) (aj (av g5 (fx V J) 77) (aj (av g3 (fx u1 I) 77) (aj (av w.heap.size (fw aA n1 ac aD n2 ad aE n3 ae T.drop T.ord T.ini) 25) aS)))))) W->nN w T k x k2 y (.returned (.tuple #[.agg (gx p A pc B qc),.int .i64 0])) W from fun W h=>⟨p,0,A,pc,B,qc,rfl,aq.o,((h.drop.drop.perm (by ac_rfl:_=aj (aj (av g5 (fx V J) 77) (aj (av g3 (fx u1 I) 77) (aj (av w.heap.size (fw aA n1 ac aD n2 ad aE n3 ae T.drop T.ord T.ini) 25) aS))) (iP A pc B qc p.d))).drop).post nM⟩);clear H9;go_wp2;obtain⟨f2,am⟩:=a0.o.fst;refine bodyPost_ret (MU rfl rfl am.1 rfl) rfl ?_;exact HF.o _ a0.o
 ·have bj:b1=false\/(b1=true/\b2=false):=by cases b1<;>cases b2<;>simp_all
  have a8:=au (show tK T k x k2 y CB 1 from .arg (by rw[ap.o];simpa using ao));clear ao aw a3 ap KC;rcases bj with rfl|⟨rfl,rfl⟩
  ·go_enter Tryz.func18,Tryz.ntmps18
   go_upto_region 1 with (fail);clear az ax;obtain⟨t0,t1,t2,t3,t4,t5⟩:=bZ H2.o.drop;have KA:=au (ak.o w2 (af.o _ _ H2.o));clear ak;go_wp2_with fail;refine KA.o.mono ?_;rintro e9 w3 ⟨I,rfl,z,hR⟩;have H3:=au (H2.o.below aQ z);have al:=au (fun W (h:Below w3.heap.size w3 W)=>hR.below h);clear KA z hR t0 t1 t2 t3 t4 t5 H2;have H4:=au (aH H3.o aQ (fx u1 I) 77);dsimp only;go_upto_region 2 with (fail);have aa:=au (show Below w3.heap.size w3 (w3.alloc (.cells (fx u1 I) 77))/\w3.heap.size<=(w3.alloc (.cells (fx u1 I) 77)).heap.size from⟨(YC _ _).alloc (YG _) _,by simp⟩);generalize w3.alloc (.cells (fx u1 I) 77)=w4 at *
   clear H3;generalize w3.heap.size=g3 at *
   obtain⟨t0,t1,t2,t3,t4,t5⟩:=bZ H4.o.drop.drop;have KB:=au (ai.o w4 (af.o _ _ H4.o));clear ai;go_wp2_with fail;refine KB.o.mono ?_;rintro e9 w5 ⟨J,rfl,z,hR⟩;have H5:=au (H4.o.below aQ z);have ab:=au (show jk w5 u1 I/\jk w5 V J from⟨al.o _ (aa.o.1.trans (z.mono aa.o.2)),hR⟩);clear KB z hR al aa t0 t1 t2 t3 t4 t5 H4;have H6:=au (aH H5.o aQ (fx V J) 77);have an:=au (show jk (w5.alloc (.cells (fx V J) 77)) u1 I/\jk (w5.alloc (.cells (fx V J) 77)) V J from⟨ab.o.1.below ((YC _ _).alloc (YG _) _),ab.o.2.below ((YC _ _).alloc (YG _) _)⟩);dsimp only;go_upto_region 3 with (fail);generalize w5.alloc (.cells (fx V J) 77)=w6 at *
   generalize w5.heap.size=g5 at *
   clear H5 ab;have h8:=H6.o.perm (by ac_rfl:_=aj (av g1 (fX 0 0 0 0 0 0 0 none 0 0 none 0 0 ⟨#[]⟩) 44) (aj (av g5 (fx V J) 77) (aj (av g3 (fx u1 I) 77) (aj (av w.heap.size (fw aA n1 ac aD n2 ad aE n3 ae T.drop T.ord T.ini) 25) aS))));have ag:(aj (av g5 (fx V J) 77) (aj (av g3 (fx u1 I) 77) (aj (av w.heap.size (fw aA n1 ac aD n2 ad aE n3 ae T.drop T.ord T.ini) 25) aS))).Ok:=ay aC aQ;have H9:=au (gM h8 ag (.int .i64 0) (.int .i64 0) (.int .i64 0) (.int .i64 0) (.int .i64 0) (.int .i64 0) (.int .i64 0) (.slice none 0 0) (.slice none 0 0) (.string ⟨#[]⟩));obtain⟨⟨z0,z1,z2,z3,z4⟩,⟨z5,z6,z7,z8,z9⟩,zf⟩:=bE h8;clear h8 ag an;go_wp2;obtain⟨f2,am⟩:=H9.o.fst;refine bodyPost_ret (MU rfl rfl am.1 rfl) rfl ?_;exact⟨CB,1,none,0,none,0,rfl,a8.o,iL (af.o _ _ H9.o)⟩
  ·go_enter Tryz.func18,Tryz.ntmps18
   go_upto_region 1 with (fail);clear az ax;obtain⟨t0,t1,t2,t3,t4,t5⟩:=bZ H2.o.drop;have KA:=au (ak.o w2 (af.o _ _ H2.o));clear ak;go_wp2_with fail;refine KA.o.mono ?_;rintro e9 w3 ⟨I,rfl,z,hR⟩;have H3:=au (H2.o.below aQ z);have al:=au (fun W (h:Below w3.heap.size w3 W)=>hR.below h);clear KA z hR t0 t1 t2 t3 t4 t5 H2;have H4:=au (aH H3.o aQ (fx u1 I) 77);dsimp only;go_upto_region 2 with (fail);have aa:=au (show Below w3.heap.size w3 (w3.alloc (.cells (fx u1 I) 77))/\w3.heap.size<=(w3.alloc (.cells (fx u1 I) 77)).heap.size from⟨(YC _ _).alloc (YG _) _,by simp⟩);generalize w3.alloc (.cells (fx u1 I) 77)=w4 at *
   clear H3;generalize w3.heap.size=g3 at *
   obtain⟨t0,t1,t2,t3,t4,t5⟩:=bZ H4.o.drop.drop;have KB:=au (ai.o w4 (af.o _ _ H4.o));clear ai;go_wp2_with fail;refine KB.o.mono ?_;rintro e9 w5 ⟨J,rfl,z,hR⟩;have H5:=au (H4.o.below aQ z);have ab:=au (show jk w5 u1 I/\jk w5 V J from⟨al.o _ (aa.o.1.trans (z.mono aa.o.2)),hR⟩);clear KB z hR al aa t0 t1 t2 t3 t4 t5 H4;have H6:=au (aH H5.o aQ (fx V J) 77);have an:=au (show jk (w5.alloc (.cells (fx V J) 77)) u1 I/\jk (w5.alloc (.cells (fx V J) 77)) V J from⟨ab.o.1.below ((YC _ _).alloc (YG _) _),ab.o.2.below ((YC _ _).alloc (YG _) _)⟩);dsimp only;go_upto_region 3 with (fail);generalize w5.alloc (.cells (fx V J) 77)=w6 at *
   generalize w5.heap.size=g5 at *
   clear H5 ab;have h8:=H6.o.perm (by ac_rfl:_=aj (av g1 (fX 0 0 0 0 0 0 0 none 0 0 none 0 0 ⟨#[]⟩) 44) (aj (av g5 (fx V J) 77) (aj (av g3 (fx u1 I) 77) (aj (av w.heap.size (fw aA n1 ac aD n2 ad aE n3 ae T.drop T.ord T.ini) 25) aS))));have ag:(aj (av g5 (fx V J) 77) (aj (av g3 (fx u1 I) 77) (aj (av w.heap.size (fw aA n1 ac aD n2 ad aE n3 ae T.drop T.ord T.ini) 25) aS))).Ok:=ay aC aQ;have H9:=au (gM h8 ag (.int .i64 0) (.int .i64 0) (.int .i64 0) (.int .i64 0) (.int .i64 0) (.int .i64 0) (.int .i64 0) (.slice none 0 0) (.slice none 0 0) (.string ⟨#[]⟩));obtain⟨⟨z0,z1,z2,z3,z4⟩,⟨z5,z6,z7,z8,z9⟩,zf⟩:=bE h8;clear h8 ag an;go_wp2;obtain⟨f2,am⟩:=H9.o.fst;refine bodyPost_ret (MU rfl rfl am.1 rfl) rfl ?_;exact⟨CB,1,none,0,none,0,rfl,a8.o,iL (af.o _ _ H9.o)⟩
open Asn (mV tr WR vN)
def fH(p:uK × WW):List Value:=[.int .i64 p.1.k,.slice p.2.V p.1.vs.length p.2.vc,.slice p.2.L p.1.ls.length p.2.lc]
theorem Bj(l:List (uK × WW)):∀ u ∈ l.flatMap fH,u.oneCell'=true:=by
 intro u hu;obtain⟨x,-,hx⟩:=List.mem_flatMap.1 hu;unfold fH at hx;simp only[YV,YT,or_false] at hx;rcases hx with rfl|rfl|rfl<;>rfl
def lY:List (uK × WW)->CH.bq
 | []=>aS
 | p::l=>aj (nE p.1 p.2) (lY l)
theorem vV:∀ {l:List (uK × WW)},(lY l).Ok
 | []=>aO
 | p::l=>ay wC vV
theorem Db(p:uK × WW):∀ l:List (uK × WW),lY (l++[p])=aj (lY l) (nE p.1 p.2)
 | []=>by show aj (nE p.1 p.2) aS=aj aS (nE p.1 p.2);rw[pz]
 | q::l=>by show aj (nE q.1 q.2) (lY (l++[p]))=aj (aj (nE q.1 q.2) (lY l)) (nE p.1 p.2);rw[Db p l];ac_rfl
theorem RI{w:World}:∀ {l:List (uK × WW)} {F:Nat->Prop},lY l w F->∀ p ∈ l,jk w p.1 p.2
 | [],_,_,_,hp=>by cases hp
 | q::l,F,h,p,hp=>by
  obtain⟨F1,F2,h1,h2,-,-⟩:=h;rcases List.mem_cons.1 hp with rfl|hp
  ·exact Sr h1
  ·exact RI h2 p hp
theorem Vd:d9 Tryz.prog 69 77 (.agg (j0 0 none 0 0 none 0 0)) 3 56:=⟨Tryz.underlying69,by kernel_rfl,by decide,by decide⟩
structure xJ(w:World)(T:fy)(n:bI)(l:List (uK × WW))(A B:fj):Prop where
 eq:l.map (·.1)=n.ws.map (dX T n.k)
 row:tH fH 3 w A l
 dr:iD w B (n.ws.map (bH T n.k))
 all:∀ p ∈ l,jk w p.1 p.2
variable{w':World}{sz c n:Nat}{e:TypeId}{xs:List Value}{a:Act}{Q:Exit->Act->World->Prop}
theorem xJ.below{n:bI}{l:List (uK × WW)}{B:fj}(h:xJ w T n l A B)(hb:Below w.heap.size w w'):xJ w' T n l A B:=
 ⟨h.eq,aT h.row hb,h.dr.below hb,fun p hp=>(h.all p hp).below hb⟩
def nX(w:World)(T:fy)(n:bI)(e:Ending)(w':World):Prop:=
 if bC T&&eZ n then
  ∃ l A c B d,e=.returned (.tuple #[.agg (fL A n.ws.length c B n.ws.length d),.bool true])/\Below w.heap.size w w'/\xJ w' T n l A B/\n.ws.length<=c/\n.ws.length<=d
 else e=.returned (.tuple #[.agg (fL none 0 0 none 0 0),.bool false])/\Below w.heap.size w w'
theorem RJ{tmps:Array Value}{cs:Array Value}(h:tmps.getD 4 undef=.pointer (some ⟨g,0,none⟩))(z:cs.size=2)(q:w.heap[g]?=some (.cells cs 71))(p:tmps.getD 5 undef=v):(results Tryz.f29 tmps).run Tryz.prog w=.ok (.tuple #[.agg cs,v]) w:=by
 subst p;exact dH rfl tmps w g 71 cs (0,0) h q Tryz.underlying71 (by rw[z];kernel_rfl)
theorem cZ{a b:Value}(h:aI F0 w0 (aj (av g #[a,b] t) X) w):w.cell? ⟨g,0,none⟩=some a/\w.cell? ⟨g,1,none⟩=some b/\∀ i,w.frozen? ⟨g,i,none⟩=false:=by
 obtain⟨F,hF⟩:=h.fst;exact⟨aB hF rfl,aB hF rfl,aP hF⟩
def Tn(e:TypeId)(h:Nat)(A:fj)(c n:Nat)(xs cs:List Value)(q:Value):List Value->CH.bq
 | []=>aZ e h (.slice A n c) n xs
 | [v]=>pG fun g:Nat=>yU (v=.slice (some ⟨g,0,none⟩) 1 1) (aj (av g cs.toArray e) (aZ e h (.slice A n c) n xs))
 | [_,v]=>pG fun A2:fj=>pG fun c2:Nat=>yU (v=.slice A2 (n+1) c2/\n+1<=c2) (aZ e h (.slice A2 (n+1) c2) (n+1) (xs++cs))
 | [_,v,p]=>pG fun A2:fj=>pG fun c2:Nat=>yU ((v=.slice A2 (n+1) c2/\n+1<=c2)/\p=q) (aZ e h (.slice A2 (n+1) c2) (n+1) (xs++cs))
 | _=>aS
theorem RL{cs:List Value}{q:Value}:∀ vs,(Tn e sz A c n xs cs q vs).Ok
 | []=>cB
 | [_]=>eO fun _=>iW aQ
 | [_,_]=>eO fun _=>eO fun _=>iW cB
 | [_,_,_]=>eO fun _=>eO fun _=>iW cB
 | _::_::_::_::_=>aO
theorem Ib(k:Int)(V:fj)(a b:Nat)(L:fj)(d e:Nat)(w:World):(Instr.buildSlice 69 1 #[(0,.agg (j0 k V a b L d e))]).run Tryz.prog w=.ok (.slice (some ⟨w.heap.size,0,none⟩) 1 1) (w.alloc (.cells (j0 k V a b L d e) 77)):=by go_simp
theorem yF(x:Int)(w:World):(Instr.buildSlice 40 1 #[(0,.int .i64 x)]).run Tryz.prog w=.ok (.slice (some ⟨w.heap.size,0,none⟩) 1 1) (w.alloc (.cells (gb x) 3)):=by go_simp
theorem J7{P:Program}{o:Oper}{bS:Act->World->Prop}(h:∀ K:Act->World->Prop,Hid (∀ a' w',bS a' w'->K a' w')->o.wp P a W K Q):o.wp P a W bS Q:=h bS (au fun _ _ h=>h)
theorem oP:∀ (ds:List Nat) (vs:List Value) (a:Act),(gd a ds vs).tmps.size=a.tmps.size
 | [],_,_=>by simp[gd]
 | _::_,[],_=>rfl
 | d::ds,v::vs,a=>by
  simp only[gd];rw[oP ds vs];simp[Act.put]
theorem Ve{o:Oper}{x:Operand}(hop:o.op=.fieldAddr 71 x 0)(hx:a.eval x=.pointer (some ⟨g,0,none⟩)):(execOp a.eval o).run Tryz.prog w=.ok (.value (.pointer (some ⟨g,0,none⟩))) w:=by
 unfold execOp;simp only[hop,hx];go_simp
section
variable{w0 W:World}{F0:Nat→Prop}{Z:CH.bq}{ops:Array Oper}{a:Act}{Q:Exit→Act→World→Prop}{A B:fj}{c d n:Nat}{xs cs:List Value}
theorem Ms{o:Oper}{z:Nat}{q:Value}(F:Z.Ok)(h:aI F0 w0 (aj (Tn e z A c n xs cs q []) Z) W)(p:∀ w:World,(execOp a.eval o).run Tryz.prog w=.ok (.value (.slice (some ⟨w.heap.size,0,none⟩) 1 1)) (w.alloc (.cells cs.toArray e))):
  o.wp Tryz.prog a W (fun I w'=>∃ v,I=a.put o.dst v/\aI F0 w0 (aj (Tn e z A c n xs cs q ([]++[v])) Z) w') Q:=by
 unfold Oper.wp;rw[p W];exact⟨_,rfl,aI.uf W.heap.size (aI.kD rfl ((aH h (show bq.Ok _ from ay cB F) cs.toArray e).perm (by show _=aj (aj (av W.heap.size cs.toArray e) (aZ e z (.slice A n c) n xs)) Z;unfold Tn;ac_rfl)))⟩
theorem Mv{o:Oper}{z:Value}{p bytes:Nat}{q:Value}(S:d9 Tryz.prog t e z p bytes)(J:bytes<=1000)(s x:Operand)(ho:o.op=.call { callee:=.builtin .append,args:=#[s,x],argTypes:=#[t,t] })(hZ:Z.Ok)(h:aI F0 w0 (aj (Tn e p A c n xs cs q [v]) Z) W)(hs:a.eval s=.slice A n c)(hx:a.eval x=v)(hn:n<=1000000)(h1:cs.length=p)(h2:∀ u ∈ cs,u.oneCell'=true):
  o.wp Tryz.prog a W (fun a' w'=>∃ V,a'=a.put o.dst V/\aI F0 w0 (aj (Tn e p A c n xs cs q ([v]++[V])) Z) w') Q:=by
 obtain⟨g,h0⟩:=h.ex;obtain⟨rfl,h3⟩:=h0.pure;have h4:=h3.perm (by ac_rfl:_=aj (aZ e p (.slice A n c) n xs) (aj (av g cs.toArray e) Z));obtain⟨F,hF⟩:=h4.drop.fst;refine sS S J s x ho (A:=A) (c:=c) (n:=n) (g:=g) (xs:=xs) (cs:=cs) hs hx hn aQ h4 h1 h2 (fun j y hu=>aB hF (by rw[Y5];exact hu)) ?_;intro A2 c2 w' M;obtain⟨FR,I⟩:=M.fst;exact⟨_,rfl,aI.uf A2 (aI.uf c2 (aI.kD ⟨rfl,(zh I.1).1⟩ M.oM.drop))⟩
theorem Vf{e':TypeId}{F:Nat}{q q':Value}{A':fj}{c' n':Nat}{z cs':List Value}{v1 v2 v3 u1 u2:Value}{R:CH.bq}(h:aI F0 w0 (aj (Tn e sz A c n xs cs q [v1,v2,v3]) (aj (Tn e' F A' c' n' z cs' q' [u1,u2]) R)) W):
  ∃ J c2 I p,v2=.slice J (n+1) c2/\v3=q/\u2=.slice I (n'+1) p/\n+1<=c2/\n'+1<=p/\aI F0 w0 (aj (aj (aZ e sz (.slice J (n+1) c2) (n+1) (xs++cs)) (aZ e' F (.slice I (n'+1) p) (n'+1) (z++cs'))) R) W:=by
 obtain⟨J,M⟩:=h.ex;obtain⟨c2,M⟩:=M.ex;obtain⟨⟨⟨rfl,k1⟩,rfl⟩,h2⟩:=M.pure;obtain⟨I,V⟩:=h2.oM.ex;obtain⟨p,V⟩:=V.ex;obtain⟨⟨rfl,k2⟩,h4⟩:=V.pure;exact⟨J,c2,I,p,rfl,rfl,rfl,k1,k2,h4.perm (by ac_rfl)⟩
end
theorem kM{a:TA}(hT:iR w T a)(hz:LZ w){n:bI}{An:fj}{cn:Nat}(hA:fM w An n.ws)(hl:n.ws.length<=1000000)(hw:∀ x ∈ n.ws,x.length<=1000000):
  Calls Tryz.prog 29 #[eu T a,ED n An cn] w (nX w T n):=by
 have h0:=aH (aI.begin w) aO (dh T a) 25;have h1:=aH h0 aQ (gj n.k An n.ws.length cn) 28;have h2:=aH h1 aQ (fL none 0 0 none 0 0) 71;simp only[YN] at h2;have H2:=au h2;have ab:=au (fun W X (h:aI fh w X W)=>(show Below w.heap.size w W from h.mod.below (fun _ _ h=>h)));have KV:=au (fun W (p:Below w.heap.size w W)=>pO (hT.below p) (hz.below p));have KN:=au (fun W (p:Below w.heap.size w W)=>rT (n:=n) (c:=cn) (aT hA p) hl hw (hz.below p));have KW:=au (fun W (p:Below w.heap.size w W) x (hx:x ∈ n.ws)=>Bv (hT.below p) (hz.below p) n.k x (hw x hx));have KD:=au (fun W (p:Below w.heap.size w W) x (hx:x ∈ n.ws)=>Er (hT.below p) (hz.below p) n.k x (hw x hx));have HA:=au hA;clear hT hz hA hl hw h0 h1 h2;unfold eu ED at *
 unfold dh at *
 generalize T.rs.length=n1 at *
 generalize T.ds.length=n2 at *
 generalize T.es.length=n3 at *
 obtain⟨m,hm⟩:∃ m,m=n.ws.length:=⟨_,rfl⟩;have HM:=au hm;obtain⟨aA,ac,aD,ad,aE,ae⟩:=a;dsimp only at H2 KV KN KW KD ⊢;rw[<-hm] at H2 KN ⊢;clear hm;generalize a5:((w.alloc (.cells (fw aA n1 ac aD n2 ad aE n3 ae T.drop T.ord T.ini) 25)).alloc (.cells (gj n.k An m cn) 28)).alloc (.cells (fL none 0 0 none 0 0) 71)=w2 at H2;generalize a3:w.heap.size+1=g1 at H2;generalize az:g1+1=g2 at H2;cases aa:bC T with
 | false=>
  have ax:=au (show ∀ W,Below w.heap.size w W->nX w T n (.returned (.tuple #[.agg (fL none 0 0 none 0 0),.bool false])) W from fun W p=>by unfold nX;rw[aa];exact⟨rfl,p⟩);rw[aa] at KV;clear KN KW KD HA aa
  go_enter Tryz.func29,Tryz.ntmps29
  go_upto_region 1 with (fail);clear a5 a3 az;obtain⟨t0,t1,t2,t3,t4,t5⟩:=bZ H2.o.drop.drop;obtain⟨J,I,z⟩:=cZ H2.o.drop;obtain⟨r0,r1,rf⟩:=cZ H2.o;have ai:=au (KV.o w2 (ab.o _ _ H2.o));clear KV;go_wp2_with fail;refine ai.o.mono ?_;rintro e9 w3 ⟨rfl,p⟩;have M:=au (H2.o.below aQ p);clear ai H2 p t0 t1 t2 t3 t4 t5 J I z r0 r1 rf;obtain⟨t0,t1,t2,t3,t4,t5⟩:=bZ M.o.drop.drop;obtain⟨J,I,z⟩:=cZ M.o.drop;obtain⟨r0,r1,rf⟩:=cZ M.o;dsimp only;go_wp2;have H5:=au (mH M.o aQ (.slice none 0 0) (.slice none 0 0));obtain⟨f2,am⟩:=H5.o.fst;refine bodyPost_ret (RJ rfl rfl am.1 rfl) rfl ?_;exact ax.o _ (ab.o _ _ H5.o)
 | true=>
  cases ag:eZ n with
  | false=>
   have ax:=au (show ∀ W,Below w.heap.size w W->nX w T n (.returned (.tuple #[.agg (fL none 0 0 none 0 0),.bool false])) W from fun W p=>by unfold nX;rw[aa,ag];exact⟨rfl,p⟩);rw[aa] at KV;rw[ag] at KN;clear KW KD HA aa ag
   go_enter Tryz.func29,Tryz.ntmps29
   go_upto_region 1 with (fail);clear a5 a3 az;obtain⟨t0,t1,t2,t3,t4,t5⟩:=bZ H2.o.drop.drop;obtain⟨J,I,z⟩:=cZ H2.o.drop;obtain⟨r0,r1,rf⟩:=cZ H2.o;have ai:=au (KV.o w2 (ab.o _ _ H2.o));clear KV;go_wp2_with fail;refine ai.o.mono ?_;rintro e9 w3 ⟨rfl,p⟩;have M:=au (H2.o.below aQ p);clear ai H2 p t0 t1 t2 t3 t4 t5 J I z r0 r1 rf;obtain⟨t0,t1,t2,t3,t4,t5⟩:=bZ M.o.drop.drop;obtain⟨J,I,z⟩:=cZ M.o.drop;obtain⟨r0,r1,rf⟩:=cZ M.o;dsimp only;have an:=au (KN.o w3 (ab.o _ _ M.o));clear KN;go_wp2_with fail;refine an.o.mono ?_;rintro e9 w4 ⟨rfl,p⟩;have H4:=au (M.o.below aQ p);clear an M p t0 t1 t2 t3 t4 t5 J I z r0 r1 rf;obtain⟨t0,t1,t2,t3,t4,t5⟩:=bZ H4.o.drop.drop;obtain⟨J,I,z⟩:=cZ H4.o.drop;obtain⟨r0,r1,rf⟩:=cZ H4.o;have M:=H4;clear H4;dsimp only;go_wp2;have H5:=au (mH M.o aQ (.slice none 0 0) (.slice none 0 0));obtain⟨f2,am⟩:=H5.o.fst;refine bodyPost_ret (RJ rfl rfl am.1 rfl) rfl ?_;exact ax.o _ (ab.o _ _ H5.o)
  | true=>
   have bb:=au (show ∀ W l A c B d,Below w.heap.size w W->xJ W T n l A B->m<=c->m<=d->nX w T n (.returned (.tuple #[.agg (fL A m c B m d),.bool true])) W from fun W l A c B d p hr hc hd=>by unfold nX;rw[aa,ag];rw[HM.o] at hc hd ⊢;exact⟨l,A,c,B,d,rfl,p,hr,hc,hd⟩)
   have a4:=au (show ∀ x ∈ n.ws,ng T n.k x=(dX T n.k x,true)/\oZ T n.k x=(bH T n.k x,0) from fun x hx=>by
    have h1:=(bR.1 ag).1 x hx;unfold ng oZ;rw[h1,aa]
    exact⟨rfl,rfl⟩)
   have ao:=au (show m<=6 from by rw[HM.o];exact(bR.1 ag).2.2);rw[aa] at KV;rw[ag] at KN;clear aa ag
   have bo:=au (fun W p x hx=>(KW.o W p x hx).mono fun e w' (h:Bu W T n.k x e w')=>(show ∃ a:WW,e=.returned (.tuple #[qG (dX T n.k x) a,.bool true])/\bS W fh (nE (dX T n.k x) a) w' from by
    unfold Bu at h;rw[(a4.o x hx).1] at h
    exact h))
   have bf:=au (fun W p x hx=>(KD.o W p x hx).mono fun e w' (h:aL W (.tuple (kx (oZ T n.k x).1 (oZ T n.k x).2)) e w')=>(show aL W (.tuple (kx (bH T n.k x) 0)) e w' from by
    rw[(a4.o x hx).2] at h
    exact h))
   clear KW KD a4
   go_enter Tryz.func29,Tryz.ntmps29
   go_upto_region 1 with (fail);clear a5 a3 az;obtain⟨t0,t1,t2,t3,t4,t5⟩:=bZ H2.o.drop.drop;obtain⟨J,I,z⟩:=cZ H2.o.drop;obtain⟨r0,r1,rf⟩:=cZ H2.o;have ai:=au (KV.o w2 (ab.o _ _ H2.o));clear KV;go_wp2_with fail;refine ai.o.mono ?_;rintro e9 w3 ⟨rfl,p⟩;have M:=au (H2.o.below aQ p);clear ai H2 p t0 t1 t2 t3 t4 t5 J I z r0 r1 rf;obtain⟨t0,t1,t2,t3,t4,t5⟩:=bZ M.o.drop.drop;obtain⟨J,I,z⟩:=cZ M.o.drop;obtain⟨r0,r1,rf⟩:=cZ M.o;dsimp only;have an:=au (KN.o w3 (ab.o _ _ M.o));clear KN;go_wp2_with fail;refine an.o.mono ?_;rintro e9 w4 ⟨rfl,p⟩;have H4:=au (M.o.below aQ p);clear an M p t0 t1 t2 t3 t4 t5 J I z r0 r1 rf;obtain⟨t0,t1,t2,t3,t4,t5⟩:=bZ H4.o.drop.drop;obtain⟨J,I,z⟩:=cZ H4.o.drop;obtain⟨r0,r1,rf⟩:=cZ H4.o;have M:=H4;clear H4;dsimp only;have H5:=au (aH M.o aQ (fL none 0 0 none 0 0) 71);go_upto_region 4 with (fail);generalize w4.alloc (.cells (fL none 0 0 none 0 0) 71)=w5 at *
   generalize w4.heap.size=g3 at *
   clear M t0 t1 t2 t3 t4 t5 J I z r0 r1 rf;obtain⟨J,I,z⟩:=cZ H5.o.drop.drop;have h6:aI fh w (aj (av g3 (fL none 0 0 none 0 0) 71) (aj (aZ 77 3 (.slice none 0 0) 0 []) (aj (aZ 3 1 (.slice none 0 0) 0 []) (aj (lY []) (aj (av g2 (fL none 0 0 none 0 0) 71) (aj (av g1 (gj n.k An m cn) 28) (aj (av w.heap.size (fw aA n1 ac aD n2 ad aE n3 ae T.drop T.ord T.ini) 25) aS))))))) w5:=(((H5.o.fresh (ay aC aQ) (⟨fun _=>False,fZ _ 77 3,Mod.refl _ _,fun i hi=>.inl hi⟩:bS w5 fh (aZ 77 3 (.slice none 0 0) 0 []) w5)).fresh (ay cB (ay aC aQ)) (⟨fun _=>False,fZ _ 3 1,Mod.refl _ _,fun i hi=>.inl hi⟩:bS w5 fh (aZ 3 1 (.slice none 0 0) 0 []) w5)).fresh (ay cB (ay cB (ay aC aQ))) (⟨fun _=>False,fun _ h=>h,Mod.refl _ _,fun i hi=>.inl hi⟩:bS w5 fh aS w5)).perm (by ac_rfl);have H6:=au h6;clear h6;go_wp2_with fail;go_loopw [25] (fun kk wr=>∃ (i:Nat) (l:List (uK × WW)) (A:fj) (c:Nat) (B:fj) (d:Nat),kk=.int .i64 i/\i<=m/\l.map (·.1)=(n.ws.take i).map (dX T n.k)/\i<=c/\i<=d/\aI fh w (aj (av g3 (fL A i c B i d) 71) (aj (aZ 77 3 (.slice A i c) i (l.flatMap fH)) (aj (aZ 3 1 (.slice B i d) i (((n.ws.take i).map (bH T n.k)).map (Value.int .i64))) (aj (lY l) (aj (av g2 (fL none 0 0 none 0 0) 71) (aj (av g1 (gj n.k An m cn) 28) (aj (av w.heap.size (fw aA n1 ac aD n2 ad aE n3 ae T.drop T.ord T.ini) 25) aS))))))) wr) (fun kk _=>m-(intOf kk).toNat)
   case atStart=>exact⟨0,[],none,0,none,0,rfl,YE _,rfl,YG _,YG _,H6.o⟩
   case round=>
    clear H5 H6 J I z;obtain⟨i,l,A,c,B,d,rfl,hi,bm,a9,bu,hR⟩:=hrel;have HR:=au hR;have ar:=au bm;have b2:=au a9;have b0:=au bu;clear hR bm a9 bu;by_cases a7:i<m
    ·have aq:i<n.ws.length:=by rw[<-HM.o];exact a7
     obtain⟨b,o,rfl,hc⟩:=HA.o.at (by have:=ao.o;omega);have ck:=hc _ (ab.o _ _ HR.o) i aq;have a1:n.ws[i] ∈ n.ws:=YL aq;have ap:=au (bo.o wr (ab.o _ _ HR.o) _ a1);have ba:=au (fun W p=>bf.o W p _ a1);have bv:=au (show n.ws.take (i+1)=n.ws.take i++[n.ws[i]] from YD aq);clear bo bf a1;generalize n.ws[i]=x at *
     clear hc aq;obtain⟨u,hu⟩:∃ u,u=dX T n.k x:=⟨_,rfl⟩;rw[<-hu] at ap;have HU:=au hu;clear hu;unfold qG nD at ap;obtain⟨t0,t1,t2,t3,t4,t5⟩:=bZ HR.o.drop.drop.drop.drop.drop.drop;obtain⟨J,I,z⟩:=cZ HR.o.drop.drop.drop.drop.drop;have br:=au (ay aC (ay cB (ay cB (ay vV aQ))):((aj (av g3 (fL A i c B i d) 71) (aj (aZ 77 3 (.slice A i c) i (l.flatMap fH)) (aj (aZ 3 1 (.slice B i d) i (((n.ws.take i).map (bH T n.k)).map (Value.int .i64))) (aj (lY l) (aj (av g2 (fL none 0 0 none 0 0) 71) (aj (av g1 (gj n.k (some ⟨b,o,none⟩) m cn) 28) (aj (av w.heap.size (fw aA n1 ac aD n2 ad aE n3 ae T.drop T.ord T.ini) 25) aS)))))))).Ok);go_wp2_with fail;refine ap.o.mono ?_;rintro e9 w6 ⟨wa,rfl,hp⟩;have H7:=au (HR.o.fresh br.o hp);have b1:=au (ay wC br.o:(aj (nE u wa) (aj (av g3 (fL A i c B i d) 71) (aj (aZ 77 3 (.slice A i c) i (l.flatMap fH)) (aj (aZ 3 1 (.slice B i d) i (((n.ws.take i).map (bH T n.k)).map (Value.int .i64))) (aj (lY l) (aj (av g2 (fL none 0 0 none 0 0) 71) (aj (av g1 (gj n.k (some ⟨b,o,none⟩) m cn) 28) (aj (av w.heap.size (fw aA n1 ac aD n2 ad aE n3 ae T.drop T.ord T.ini) 25) aS)))))))).Ok);have H8:=au (aH H7.o b1.o (fx u wa) 77);clear ap HR hp ck t0 t1 t2 t3 t4 t5 J I z H7;dsimp only;go_upto_region 8 with (fail);generalize w6.alloc (.cells (fx u wa) 77)=w7 at *
     generalize w6.heap.size=g9 at *
     obtain⟨t0,t1,t2,t3,t4,t5⟩:=bZ H8.o.drop.drop.drop.drop.drop.drop.drop.drop;obtain⟨J,I,z⟩:=cZ H8.o.drop.drop.drop.drop.drop.drop.drop;have bj:=au (ba.o w7 (ab.o _ _ H8.o));clear ba;have bz:=au (ay aC b1.o:(aj (av g9 (fx u wa) 77) (aj (nE u wa) (aj (av g3 (fL A i c B i d) 71) (aj (aZ 77 3 (.slice A i c) i (l.flatMap fH)) (aj (aZ 3 1 (.slice B i d) i (((n.ws.take i).map (bH T n.k)).map (Value.int .i64))) (aj (lY l) (aj (av g2 (fL none 0 0 none 0 0) 71) (aj (av g1 (gj n.k (some ⟨b,o,none⟩) m cn) 28) (aj (av w.heap.size (fw aA n1 ac aD n2 ad aE n3 ae T.drop T.ord T.ini) 25) aS))))))))).Ok);go_wp2_with fail;refine bj.o.mono ?_;rintro e9 w8 ⟨rfl,p⟩;have H9:=au (H8.o.below bz.o p);clear bj H8 p t0 t1 t2 t3 t4 t5 J I z;dsimp only;go_upto_region 9 with (fail);have bp:=au (H9.o.drew bz.o);clear H9;have bw:=bp.o.perm (by ac_rfl:_=aj (aj (aZ 77 3 (.slice A i c) i (l.flatMap fH)) (aZ 3 1 (.slice B i d) i (((n.ws.take i).map (bH T n.k)).map (Value.int .i64)))) (aj (av g3 (fL A i c B i d) 71) (aj (av g9 (fx u wa) 77) (aj (nE u wa) (aj (lY l) (aj (av g2 (fL none 0 0 none 0 0) 71) (aj (av g1 (gj n.k (some ⟨b,o,none⟩) m cn) 28) (aj (av w.heap.size (fw aA n1 ac aD n2 ad aE n3 ae T.drop T.ord T.ini) 25) aS))))))));have b6:=au (ay aC (ay aC (ay wC (ay vV aQ))):((aj (av g3 (fL A i c B i d) 71) (aj (av g9 (fx u wa) 77) (aj (nE u wa) (aj (lY l) (aj (av g2 (fL none 0 0 none 0 0) 71) (aj (av g1 (gj n.k (some ⟨b,o,none⟩) m cn) 28) (aj (av w.heap.size (fw aA n1 ac aD n2 ad aE n3 ae T.drop T.ord T.ini) 25) aS)))))))).Ok);clear bp;go_upto_region 9 with (fail);obtain⟨F,hF,al⟩:=bw.sub aQ b6.o;have HF:=au hF;have be:=au al;have a0:=au (show ∀ (O:CH.bq) W,aI F w8.drew O W->aI fh w (aj (av g3 (fL A i c B i d) 71) (aj (av g9 (fx u wa) 77) (aj (nE u wa) (aj (lY l) (aj (av g2 (fL none 0 0 none 0 0) 71) (aj (av g1 (gj n.k (some ⟨b,o,none⟩) m cn) 28) (aj (av w.heap.size (fw aA n1 ac aD n2 ad aE n3 ae T.drop T.ord T.ini) 25) aS))))))) W from fun O W h=>(al aS W aO ⟨⟨fun _=>False,fun _ h=>h,fun _ h=>h.elim⟩,h.mod⟩).drop);have ak:=au (a0.o _ _ hF);clear bw hF al;refine Gi 11 (fun w'=>aI fh w (aj (av g3 (fL A i c B i d) 71) (aj (av g9 (fx u wa) 77) (aj (nE u wa) (aj (lY l) (aj (av g2 (fL none 0 0 none 0 0) 71) (aj (av g1 (gj n.k (some ⟨b,o,none⟩) m cn) 28) (aj (av w.heap.size (fw aA n1 ac aD n2 ad aE n3 ae T.drop T.ord T.ini) 25) aS))))))) w') rfl ?_;generalize w8.drew=w9 at *
     refine pY (i:=0) (v:=.pointer (some ⟨g3,0,none⟩)) rfl fi fi fi rfl (fun _ _ _ h=>h) (.inl ⟨rfl,fun w' af=>?_⟩) (fun _=>ak.o) ?_
     ·go_simp
     try simp only[Act.put,YM,YJ,YK,Yy,YA,YB]
     refine qP (i:=1) (v:=.slice A i c) rfl fi fi fi fi (fun _ _ _ h=>h) (.inl ⟨rfl,fun w' af=>?_⟩) ak.o ?_
     ·obtain⟨J,I,z⟩:=cZ af;clear af;go_simp
     try simp only[Act.put,YM,YJ,YK,Yy,YA,YB]
     refine qP (i:=2) (v:=.agg (fx u wa)) rfl fi fi fi fi (fun _ _ _ h=>h) (.inl ⟨rfl,fun w' af=>?_⟩) ak.o ?_
     ·obtain⟨q0,q1,q2⟩:=dZ af.drop;clear af;go_simp
     try simp only[Act.put,YM,YJ,YK,Yy,YA,YB]
     refine pY (i:=5) (v:=.pointer (some ⟨g3,1,none⟩)) rfl fi fi fi rfl (fun _ _ _ h=>h) (.inl ⟨rfl,fun w' af=>?_⟩) (fun _=>ak.o) ?_
     ·go_simp
     try simp only[Act.put,YM,YJ,YK,Yy,YA,YB]
     refine qP (i:=6) (v:=.slice B i d) rfl fi fi fi fi (fun _ _ _ h=>h) (.inl ⟨rfl,fun w' af=>?_⟩) ak.o ?_
     ·obtain⟨J,I,z⟩:=cZ af;clear af;go_simp
     try simp only[Act.put,YM,YJ,YK,Yy,YA,YB]
     refine pY (i:=7) (v:=.int .i64 (bH T n.k x)) rfl fi fi fi rfl (fun _ _ _ h=>h) (.inl ⟨rfl,fun w' af=>?_⟩) (fun _=>ak.o) ?_
     ·go_simp
     try simp only[Act.put,YM,YJ,YK,Yy,YA,YB]
     refine Hy [3,4,10] [8,9] (Tn 77 3 A c i (l.flatMap fH) (fH (u,wa)) (.pointer (some ⟨g3,0,none⟩))) (Tn 3 1 B d i (((n.ws.take i).map (bH T n.k)).map (Value.int .i64)) [.int .i64 (bH T n.k x)] undef) 3 fi RL RL aO a0.o ?_ ?_ ?_ (HF.o.perm (by rw[kS];rfl))
     ·intro i1 o1 vs us q V cd Z W hZ hR;rcases vs with _|⟨v,_|⟨v2,_|⟨v3,vs⟩⟩⟩
      ·obtain rfl:3=i1:=by simpa using q
       simp only[Y5,Zc,Zd,Option.some.injEq] at V;subst V;refine Ms hZ hR (fun w=>mV rfl ?_ (Ib _ _ _ _ _ _ _ w))
       show(gd (gd _ [48,49,55] []) [53,54] us).eval (.tmp 47)=_
       rw[dD 47 [53,54] us _ fW,dD 47 [48,49,55] [] _ fW];rfl
      ·obtain rfl:4=i1:=by simpa using q
       simp only[Y5,Zc,Zd,Option.some.injEq] at V;subst V;refine Mv Vd fW (.tmp 46) (.tmp 48) rfl hZ hR ?_ ?_ (by have:=ao.o;omega) rfl (fun y hy=>Bj [(u,wa)] y (by simpa[fH] using hy))
       ·show(gd (gd _ [48,49,55] [v]) [53,54] us).eval (.tmp 46)=_
        rw[dD 46 [53,54] us _ fW,dD 46 [48,49,55] [v] _ fW];rfl
       ·show(gd (gd _ [48,49,55] [v]) [53,54] us).eval (.tmp 48)=v
        rw[dD 48 [53,54] us _ fW];exact vN v (show 48<59 by decide)
      ·obtain rfl:10=i1:=by simpa using q
       simp only[Y5,Zc,Zd,Option.some.injEq] at V;subst V;obtain⟨A3,hR⟩:=hR.ex;obtain⟨c3,hR⟩:=hR.ex;obtain⟨b8,hR⟩:=hR.pure;refine Asn.oO (v:=.pointer (some ⟨g3,0,none⟩)) (w':=W) (Ve rfl ?_) ⟨_,rfl,aI.uf A3 (aI.uf c3 (aI.kD ⟨b8,rfl⟩ hR))⟩
       show(gd (gd _ [48,49,55] [v,v2]) [53,54] us).eval (.tmp 6)=_
       rw[dD 6 [53,54] us _ fW,dD 6 [48,49,55] [v,v2] _ fW];rfl
      ·simp at q
     ·intro i1 o1 vs us q V aa Z W hZ hR;rcases us with _|⟨v,_|⟨v2,us⟩⟩
      ·obtain rfl:8=i1:=by simpa using q
       simp only[Y5,Zc,Zd,Option.some.injEq] at V;subst V;refine Ms hZ hR (fun w=>mV rfl ?_ (yF (bH T n.k x) w))
       show(gd (gd _ [48,49,55] vs) [53,54] []).eval (.tmp 52)=_
       rw[dD 52 [53,54] [] _ fW,dD 52 [48,49,55] vs _ fW];rfl
      ·obtain rfl:9=i1:=by simpa using q
       simp only[Y5,Zc,Zd,Option.some.injEq] at V;subst V;refine Mv VE fW (.tmp 51) (.tmp 53) rfl hZ hR ?_ ?_ (by have:=ao.o;omega) rfl (fun y hy=>by simp at hy;subst hy;rfl)
       ·show(gd (gd _ [48,49,55] vs) [53,54] [v]).eval (.tmp 51)=_
        rw[dD 51 [53,54] [v] _ fW,dD 51 [48,49,55] vs _ fW];rfl
       ·show(gd (gd _ [48,49,55] vs) [53,54] [v]).eval (.tmp 53)=v
        exact vN v (by rw[oP];show 53<59;decide)
      ·simp at q
     intro vs us W hv hu hR;obtain⟨v1,v2,v3,rfl⟩:=WR hv;obtain⟨v4,v5,rfl⟩:=tr hu;obtain⟨A2,c2,B2,d2,rfl,rfl,rfl,a8,bk,bc⟩:=Vf hR;have bh:=au (be.o _ _ aQ (bc.perm (kS _)));have b9:=au a8;have b4:=au bk;clear hR hv hu bc a8 bk;simp only[dK,Zb,Z7,Y5,Zc,Zd,qt,qu,gd,Act.put,Yy,YA,YB];have a6:=bh.o.perm (by ac_rfl:_=aj (av g3 (fL A i c B i d) 71) (aj (aZ 77 3 (.slice A2 (i+1) c2) (i+1) (l.flatMap fH++fH (u,wa))) (aj (aZ 3 1 (.slice B2 (i+1) d2) (i+1) ((((n.ws.take i).map (bH T n.k)).map (Value.int .i64))++[.int .i64 (bH T n.k x)])) (aj (av g9 (fx u wa) 77) (aj (nE u wa) (aj (lY l) (aj (av g2 (fL none 0 0 none 0 0) 71) (aj (av g1 (gj n.k (some ⟨b,o,none⟩) m cn) 28) (aj (av w.heap.size (fw aA n1 ac aD n2 ad aE n3 ae T.drop T.ord T.ini) 25) aS)))))))));have aw:=au (ay cB (ay cB (ay aC (ay wC (ay vV aQ)))):((aj (aZ 77 3 (.slice A2 (i+1) c2) (i+1) (l.flatMap fH++fH (u,wa))) (aj (aZ 3 1 (.slice B2 (i+1) d2) (i+1) ((((n.ws.take i).map (bH T n.k)).map (Value.int .i64))++[.int .i64 (bH T n.k x)])) (aj (av g9 (fx u wa) 77) (aj (nE u wa) (aj (lY l) (aj (av g2 (fL none 0 0 none 0 0) 71) (aj (av g1 (gj n.k (some ⟨b,o,none⟩) m cn) 28) (aj (av w.heap.size (fw aA n1 ac aD n2 ad aE n3 ae T.drop T.ord T.ini) 25) aS))))))))).Ok);have bx:aI fh w (aj (av g3 (fL A2 (i+1) c2 B i d) 71) (aj (aZ 77 3 (.slice A2 (i+1) c2) (i+1) (l.flatMap fH++fH (u,wa))) (aj (aZ 3 1 (.slice B2 (i+1) d2) (i+1) ((((n.ws.take i).map (bH T n.k)).map (Value.int .i64))++[.int .i64 (bH T n.k x)])) (aj (av g9 (fx u wa) 77) (aj (nE u wa) (aj (lY l) (aj (av g2 (fL none 0 0 none 0 0) 71) (aj (av g1 (gj n.k (some ⟨b,o,none⟩) m cn) 28) (aj (av w.heap.size (fw aA n1 ac aD n2 ad aE n3 ae T.drop T.ord T.ini) 25) aS))))))))) _:=aJ a6 aw.o 0 (.slice A2 (i+1) c2);have a2:=au bx;obtain⟨J,I,z⟩:=cZ a6;clear a0 ak be HF bh a6 bx;refine uz (rs:=[11]) fi fW (fun i1 q=>?_);obtain rfl:i1=11:=by simpa using q
     refine bA rfl rfl (J7 fun K hK=>?_);clear q;go_wp2_with fail;refine hK.o _ _ ⟨fun h=>by simp at h,?_⟩;clear hK;generalize W.setCell ⟨g3,0,none⟩ (.slice A2 (i+1) c2)=W2 at *
     clear J I z;obtain⟨J,I,z⟩:=cZ a2.o;have bd:aI fh w (aj (av g3 (fL A2 (i+1) c2 B2 (i+1) d2) 71) (aj (aZ 77 3 (.slice A2 (i+1) c2) (i+1) (l.flatMap fH++fH (u,wa))) (aj (aZ 3 1 (.slice B2 (i+1) d2) (i+1) ((((n.ws.take i).map (bH T n.k)).map (Value.int .i64))++[.int .i64 (bH T n.k x)])) (aj (av g9 (fx u wa) 77) (aj (nE u wa) (aj (lY l) (aj (av g2 (fL none 0 0 none 0 0) 71) (aj (av g1 (gj n.k (some ⟨b,o,none⟩) m cn) 28) (aj (av w.heap.size (fw aA n1 ac aD n2 ad aE n3 ae T.drop T.ord T.ini) 25) aS))))))))) _:=aJ a2.o aw.o 1 (.slice B2 (i+1) d2);have cb:=au bd;clear a2 bd;refine uz (rs:=[12]) fi fW (fun i1 q=>?_);obtain rfl:i1=12:=by simpa using q
     refine bA rfl rfl (J7 fun K hK=>?_);clear q;go_wp2_with fail;refine hK.o _ _ ⟨fun h=>by simp at h,?_⟩;clear hK;refine uz (rs:=[13]) fi fW (fun i1 q=>?_);obtain rfl:i1=13:=by simpa using q
     refine bA rfl rfl (J7 fun K hK=>?_);clear q;go_wp2_with fail;refine hK.o _ _ ⟨fun h=>by simp at h,?_⟩;clear hK;refine Gh fi ?_ _;generalize W2.setCell ⟨g3,1,none⟩ (.slice B2 (i+1) d2)=W3 at *
     clear J I z;have cc:(i:Int)<1000000:=by have:=ao.o;omega
     go_wp2_with fail
     go_roundw
     case rel=>exact⟨i+1,l++[(u,wa)],A2,c2,B2,d2,by go_num,a7,by rw[YS,ar.o,bv.o,YS,HU.o];rfl,b9.o,b4.o,(cb.o.perm (by
      have e1:(((n.ws.take (i+1)).map (bH T n.k)).map (Value.int .i64))=(((n.ws.take i).map (bH T n.k)).map (Value.int .i64))++[.int .i64 (bH T n.k x)]:=by rw[bv.o,YS,YS];rfl
      have e2:(l++[(u,wa)]).flatMap fH=l.flatMap fH++fH (u,wa):=by rw[ZY,ZT]
      rw[e1,e2,Db]
      ac_rfl:_=aj (av g9 (fx u wa) 77) (aj (av g3 (fL A2 (i+1) c2 B2 (i+1) d2) 71) (aj (aZ 77 3 (.slice A2 (i+1) c2) (i+1) ((l++[(u,wa)]).flatMap fH)) (aj (aZ 3 1 (.slice B2 (i+1) d2) (i+1) (((n.ws.take (i+1)).map (bH T n.k)).map (Value.int .i64))) (aj (lY (l++[(u,wa)])) (aj (av g2 (fL none 0 0 none 0 0) 71) (aj (av g1 (gj n.k (some ⟨b,o,none⟩) m cn) 28) (aj (av w.heap.size (fw aA n1 ac aD n2 ad aE n3 ae T.drop T.ord T.ini) 25) aS))))))))).drop⟩
     case measure=>simp[intOf];omega
    ·obtain rfl:i=m:=by omega
     have h1:=HR.o.perm (by ac_rfl:_=aj (av g2 (fL none 0 0 none 0 0) 71) (aj (av g3 (fL A i c B i d) 71) (aj (aZ 77 3 (.slice A i c) i (l.flatMap fH)) (aj (aZ 3 1 (.slice B i d) i (((n.ws.take i).map (bH T n.k)).map (Value.int .i64))) (aj (lY l) (aj (av g1 (gj n.k An i cn) 28) (aj (av w.heap.size (fw aA n1 ac aD n2 ad aE n3 ae T.drop T.ord T.ini) 25) aS)))))));have bi:(aj (av g3 (fL A i c B i d) 71) (aj (aZ 77 3 (.slice A i c) i (l.flatMap fH)) (aj (aZ 3 1 (.slice B i d) i (((n.ws.take i).map (bH T n.k)).map (Value.int .i64))) (aj (lY l) (aj (av g1 (gj n.k An i cn) 28) (aj (av w.heap.size (fw aA n1 ac aD n2 ad aE n3 ae T.drop T.ord T.ini) 25) aS)))))).Ok:=ay aC (ay cB (ay cB (ay vV aQ)));obtain⟨r0,r1,rf⟩:=cZ h1;obtain⟨J,I,z⟩:=cZ h1.drop;have h2:=mH h1 bi (.slice A i c) (.slice B i d);have bn:=au h2
     have HF:=au (fun W (h:aI fh w (aj (av g2 (fL A i c B i d) 71) (aj (av g3 (fL A i c B i d) 71) (aj (aZ 77 3 (.slice A i c) i (l.flatMap fH)) (aj (aZ 3 1 (.slice B i d) i (((n.ws.take i).map (bH T n.k)).map (Value.int .i64))) (aj (lY l) (aj (av g1 (gj n.k An i cn) 28) (aj (av w.heap.size (fw aA n1 ac aD n2 ad aE n3 ae T.drop T.ord T.ini) 25) aS))))))) W)=>(show nX w T n (.returned (.tuple #[.agg (fL A i c B i d),.bool true])) W from by
      have ht:n.ws.take i=n.ws:=by rw[HM.o,YO]
      have b3:l.length=i:=by
       have:=congrArg List.length ar.o;rw[YI,YI,ht,<-HM.o] at this;exact this
      obtain⟨F1,b5⟩:=h.drop.drop.fst;obtain⟨F2,ca⟩:=h.drop.drop.drop.fst;obtain⟨F3,b7⟩:=h.drop.drop.drop.drop.fst;refine bb.o _ l A c B d (ab.o _ _ h) ⟨by rw[ar.o,ht],?_,?_,RI b7⟩ b2.o b0.o
      ·have:=iG b5 (Bj l);unfold tH;rw[b3];exact this
      ·have:=iG ca (FY _);rw[ht] at this;unfold iD;rw[YI,<-HM.o]
       exact this))
     clear h1 h2 bi HR ar b2 b0;go_wp2;obtain⟨f2,am⟩:=bn.o.fst;refine bodyPost_ret (RJ rfl rfl am.1 rfl) rfl ?_;exact HF.o _ bn.o
end Go.Proofs.YtbnnlpjpnihheaaGreatDoor
namespace Go.CH.Mtc
open Go.CH.Scr Go.CH.eG
def picks{α:Type}(f:Int->Int->Option α):Nat->List Int->List α
 | _,[]=>[]
 | i,j::l=>(f i j).toList++picks f (i+1) l
theorem Bl{α:Type}(f:Int->Int->Option α)(x:Int):∀ (l:List Int) (i:Nat),picks f i (l++[x])=picks f i l++(f ((i+l.length:Nat):Int) x).toList
 | [],i=>by simp[picks]
 | y::l,i=>by
  show(f i y).toList++picks f (i+1) (l++[x])=((f i y).toList++picks f (i+1) l)++_
  rw[Bl f x l (i+1),Y3,YR,show i+1+l.length=i+(l.length+1) by omega]
end Go.CH.Mtc
namespace Go.Proofs.YtbnnlpjpnihheaaGreatDoor
open Go.RowKit Go.CH Go.CH.Scr Go.CH.eG Go.CH.Mtc
open Asn (mV)
open Go.ChangeMaps (setBlock)
structure PA where
 A:fj
 ac:Nat
 B:fj
 bc:Nat
def XU(e:Pr × PA):Array Value:=og e.1 e.2.A e.2.ac e.2.B e.2.bc
def mY(e:Pr × PA):List Value:=[.int .i64 e.1.i,.int .i64 e.1.j,.int .i64 e.1.kd,.int .i64 e.1.l,.int .i64 e.1.r,.int .i64 e.1.c,.int .i64 e.1.d.c,.slice e.2.A e.1.d.L.length e.2.ac,.slice e.2.B e.1.d.M.length e.2.bc,.string (bs e.1.d.F)]
theorem sN(l:List (Pr × PA)):∀ u ∈ l.flatMap mY,u.oneCell'=true:=by
 intro u hu;obtain⟨x,-,hx⟩:=List.mem_flatMap.1 hu;unfold mY at hx;simp only[YV,YT,or_false] at hx;rcases hx with rfl|rfl|rfl|rfl|rfl|rfl|rfl|rfl|rfl|rfl<;>rfl
theorem vW:d9 Tryz.prog 29 44 (.agg (fX 0 0 0 0 0 0 0 none 0 0 none 0 0 ⟨#[]⟩)) 10 120:=⟨Tryz.underlying29,by kernel_rfl,by decide,by decide⟩
def XV(o:Option (Pr × PA)):Value:=match o with
 | some e=>.agg (XU e)
 | none=>.agg (fX 0 0 0 0 0 0 0 none 0 0 none 0 0 ⟨#[]⟩)
def o7(A:fj)(c:Nat)(l:List (Pr × PA)):CH.bq:=aZ 44 10 (.slice A l.length c) l.length (l.flatMap mY)
variable{A:fj}{c n g b:Nat}{ops:Array Oper}{F0:Nat->Prop}{w0 W w:World}{a:Act}{Q:Exit->Act->World->Prop}{t e:TypeId}{xs:List Value}
theorem Bo{l:List (Pr × PA)}:(o7 A c l).Ok:=cB
instance {A:fj} {c:Nat} {l:List (Pr × PA)}:(o7 A c l).Ok:=Bo
theorem rF{rest:List Oper}{Y:CH.bq}{o:Oper}{z:Value}{size bytes:Nat}(F:o.guard=none)(S:d9 Tryz.prog t e z size bytes)(q:bytes<=1000)(s x:Operand)(J:o.op=.call { callee:=.builtin .append,args:=#[s,x],argTypes:=#[t,t] }){cs:List Value}(hsv:a.eval s=.slice A n c)(hx:a.eval x=.slice (some ⟨g,0,none⟩) 1 1)(hn:n<=1000000)(hY:Y.Ok)(h:aI F0 w0 (aj (aZ e size (.slice A n c) n xs) Y) W)(h1:cs.length=size)(h2:∀ u ∈ cs,u.oneCell'=true)(hg:∀ (j:Nat) u,cs[j]?=some u->W.cell? ⟨g,j,none⟩=some u)(hK:∀ p c' w',aI F0 w0 (aj (aZ e size (.slice p (n+1) c') (n+1) (xs++cs)) Y) w'->wpList Tryz.prog ops Q rest (a.put o.dst (.slice p (n+1) c')) w'):wpList Tryz.prog ops Q (o::rest) a W:=
 wpList_plain F fun _ M=>sS S q s x J hsv hx hn hY h h1 h2 hg fun p c' w' I=>M _ _ (hK p c' w' I)
def Ic(w:World)(f:Int->Int->Option (Pr × PA))(cs:List Int)(k:Int)(sw:Bool)(e:Ending)(w':World):Prop:=
 ∃ A c,e=.returned (.agg (gn k sw A (picks f 0 cs).length c))/\bS w fh (o7 A c (picks f 0 cs)) w'
theorem Dc{f:Int->Int->Option (Pr × PA)}{gm:Nat}{C:fj}{cc:Nat}{cs:List Int}(hC:iD w C cs)(hl:cs.length<=1000)(hg:w.cell? ⟨gm,0,none⟩=some (.map (some b)))(hm:∀ W,Below w.heap.size w W->∀ i j:Int,(Instr.lookup 74 (.map (some b)) (.agg (kx i j)) true).run Tryz.prog W=.ok (.tuple #[XV (f i j),.bool (f i j).isSome]) W)(k:Int)(sw:Bool):
  Calls Tryz.prog 31 #[.slice C cs.length cc,.int .i64 k,.bool sw,.pointer (some ⟨gm,0,none⟩)] w (Ic w f cs k sw):=by
 have h1:=aH (aI.begin w) aO (gn 0 false none 0 0) 31;have h2:=aH h1 aQ (gn k sw none 0 0) 31;simp only[YN] at h2;have ag:=au (fun W X (h:aI fh w X W)=>(show Below w.heap.size w W from h.mod.below (fun _ _ h=>h)));have h3:aI fh w (aj (av (w.heap.size+1) (gn k sw none 0 ((0:Nat))) 31) (aj (o7 none 0 []) (aj (av w.heap.size (gn 0 false none 0 0) 31) aS))) _:=
  ((h2.fresh aQ (⟨fun _=>False,fZ _ 44 10,Mod.refl _ _,fun i hi=>.inl hi⟩:bS _ fh (o7 none 0 []) _)).perm (by ac_rfl))
 have H3:=au h3;have HG:=au (fun W (hb:Below w.heap.size w W)=>(show W.cell? ⟨gm,0,none⟩=some (.map (some b)) from by rw[hb.cell (YW _ _ hg)];exact hg));have HM:=au hm;have HC:=au hC;clear h1 h2 h3 hg hm hC;obtain⟨n,hn⟩:∃ n,n=cs.length:=⟨_,rfl⟩;have HN:=au hn;rw[<-hn] at hl ⊢;clear hn
 go_enter Tryz.func31,Tryz.ntmps31
 go_upto_region 3 with (fail);generalize (w.alloc (.cells (gn 0 false none 0 0) 31)).alloc (.cells (gn k sw none 0 0) 31)=w2 at *
 generalize aw:w.heap.size+1=g8 at *
 clear aw;go_wp2_with fail;go_loopw [18] (fun kk wr=>∃ (i q:Nat) (A:fj) (c:Nat),kk=.int .i64 i/\i<=n/\q=(picks f 0 (cs.take i)).length/\q<=i/\aI fh w (aj (av g8 (gn k sw A q c) 31) (aj (aZ 44 10 (.slice A q c) q ((picks f 0 (cs.take i)).flatMap mY)) (aj (av w.heap.size (gn 0 false none 0 0) 31) aS))) wr) (fun kk _=>n-(intOf kk).toNat)
 case atStart=>exact⟨0,0,none,0,rfl,YE _,rfl,YG _,H3.o⟩
 case round=>
  clear H3;obtain⟨i,q,A,c,rfl,hi,hq,az,hR⟩:=hrel;have V:=au hR;have HQ:=au hq;clear hR hq;by_cases ae:i<n
  ·have af:i<cs.length:=by rw[<-HN.o];exact ae
   obtain⟨bb,o,rfl,hc⟩:=Asn.Vec.at HC.o ff;have ck:=hc wr (ag.o _ _ V.o) i af
   have J:=au (show picks f 0 (cs.take (i+1))=picks f 0 (cs.take i)++(f (i:Int) cs[i]).toList from by
    rw[YD af,Bl,YU,Nat.min_eq_left ff,Zx])
   generalize cs[i]=x at *
   clear hc af;have cg:=HG.o wr (ag.o _ _ V.o);have cm:=HM.o wr (ag.o _ _ V.o) (i:Int) x;have ax:(i:Int)<1000000:=by omega
   cases hf:f (i:Int) x with
   | none=>
    rw[hf] at cm J;unfold XV at cm;simp only[Option.isSome_none] at cm;have z:=au (show picks f 0 (cs.take (i+1))=picks f 0 (cs.take i) from by rw[J.o];exact Y2 _);have H4:=au (aH V.o aQ (fX 0 0 0 0 0 0 0 none 0 0 none 0 0 ⟨#[]⟩) 44);clear hf J V;go_upto_region 6 with (fail);generalize wr.alloc (.cells (fX 0 0 0 0 0 0 0 none 0 0 none 0 0 ⟨#[]⟩) 44)=w4 at *
    clear ck cg cm;go_wp2_with fail
    go_roundw
    case rel=>exact⟨i+1,q,A,c,by go_num,ae,by rw[z.o];exact HQ.o,by omega,by rw[z.o];exact H4.o.drop⟩
    case measure=>simp[intOf];omega
   | some e=>
    rw[hf] at cm J;unfold XV at cm;simp only[Option.isSome_some] at cm;have z:=au (show picks f 0 (cs.take (i+1))=picks f 0 (cs.take i)++[e] from J.o);unfold XU og at cm;have H4:=au (aH V.o aQ (fX e.1.i e.1.j e.1.kd e.1.l e.1.r e.1.c e.1.d.c e.2.A e.1.d.L.length e.2.ac e.2.B e.1.d.M.length e.2.bc (bs e.1.d.F)) 44);clear hf J V;go_upto_region 6 with (fail);generalize wr.alloc (.cells (fX e.1.i e.1.j e.1.kd e.1.l e.1.r e.1.c e.1.d.c e.2.A e.1.d.L.length e.2.ac e.2.B e.1.d.M.length e.2.bc (bs e.1.d.F)) 44)=w4 at *
    generalize wr.heap.size=ab at *
    clear ck cg cm;go_upto_region 7 with (fail);obtain⟨⟨p0,p1,p2,p3,p4⟩,⟨p5,p6,p7,p8,p9⟩,pf⟩:=bE H4.o;obtain⟨m0,m1,m2⟩:=dZ H4.o.drop;have H5:=au (aH H4.o aQ (fX e.1.i e.1.j e.1.kd e.1.l e.1.r e.1.c e.1.d.c e.2.A e.1.d.L.length e.2.ac e.2.B e.1.d.M.length e.2.bc (bs e.1.d.F)) 44);have aq:q<=1000000:=by omega
    clear H4;go_wp2_with (at_builtin;refine held ?_);clear p0 p1 p2 p3 p4 p5 p6 p7 p8 p9 pf m0 m1 m2;generalize w4.alloc (.cells (fX e.1.i e.1.j e.1.kd e.1.l e.1.r e.1.c e.1.d.c e.2.A e.1.d.L.length e.2.ac e.2.B e.1.d.M.length e.2.bc (bs e.1.d.F)) 44)=w5 at *
    generalize w4.heap.size=I at *
    obtain⟨ar,ad⟩:=H5.o.fst;have al:∀ (j:Nat) u,(mY e)[j]?=some u->w5.cell? ⟨I,j,none⟩=some u:=fun j u hu=>aB ad (by unfold mY at hu;simpa using hu);refine ia.mk (rF rfl vW fW (.tmp 33) (.tmp 35) rfl (A:=A) (c:=c) (n:=q) (g:=I) (xs:=(picks f 0 (cs.take i)).flatMap mY) (cs:=mY e) rfl rfl aq aQ (H5.o.perm (by ac_rfl:_=aj (aZ 44 10 (.slice A q c) q ((picks f 0 (cs.take i)).flatMap mY)) (aj (av I (fX e.1.i e.1.j e.1.kd e.1.l e.1.r e.1.c e.1.d.c e.2.A e.1.d.L.length e.2.ac e.2.B e.1.d.M.length e.2.bc (bs e.1.d.F)) 44) (aj (av ab (fX e.1.i e.1.j e.1.kd e.1.l e.1.r e.1.c e.1.d.c e.2.A e.1.d.L.length e.2.ac e.2.B e.1.d.M.length e.2.bc (bs e.1.d.F)) 44) (aj (av g8 (gn k sw A q c) 31) (aj (av w.heap.size (gn 0 false none 0 0) 31) aS)))))) rfl (fun y hy=>sN [e] y (by simpa using hy)) al ?_);intro A9 c9 w6 an;have h7:=an.perm (by ac_rfl:_=aj (av g8 (gn k sw A q c) 31) (aj (aZ 44 10 (.slice A9 (q+1) c9) (q+1) ((picks f 0 (cs.take i)).flatMap mY++mY e)) (aj (av w.heap.size (gn 0 false none 0 0) 31) (aj (av I (fX e.1.i e.1.j e.1.kd e.1.l e.1.r e.1.c e.1.d.c e.2.A e.1.d.L.length e.2.ac e.2.B e.1.d.M.length e.2.bc (bs e.1.d.F)) 44) (aj (av ab (fX e.1.i e.1.j e.1.kd e.1.l e.1.r e.1.c e.1.d.c e.2.A e.1.d.L.length e.2.ac e.2.B e.1.d.M.length e.2.bc (bs e.1.d.F)) 44) aS)))));have ao:(aj (aZ 44 10 (.slice A9 (q+1) c9) (q+1) ((picks f 0 (cs.take i)).flatMap mY++mY e)) (aj (av w.heap.size (gn 0 false none 0 0) 31) (aj (av I (fX e.1.i e.1.j e.1.kd e.1.l e.1.r e.1.c e.1.d.c e.2.A e.1.d.L.length e.2.ac e.2.B e.1.d.M.length e.2.bc (bs e.1.d.F)) 44) (aj (av ab (fX e.1.i e.1.j e.1.kd e.1.l e.1.r e.1.c e.1.d.c e.2.A e.1.d.L.length e.2.ac e.2.B e.1.d.M.length e.2.bc (bs e.1.d.F)) 44) aS)))).Ok:=ay cB aQ;obtain⟨m0,m1,m2⟩:=dZ h7;obtain⟨F8,p⟩:=h7.fst;have mf:=aP p;have h8:aI fh w (aj (av g8 (gn k sw A9 (q+1) c9) 31) _) _:=aJ h7 ao 2 (.slice A9 (q+1) c9);have H8:=au ((h8.perm (by ac_rfl:_=aj (aj (av I (fX e.1.i e.1.j e.1.kd e.1.l e.1.r e.1.c e.1.d.c e.2.A e.1.d.L.length e.2.ac e.2.B e.1.d.M.length e.2.bc (bs e.1.d.F)) 44) (av ab (fX e.1.i e.1.j e.1.kd e.1.l e.1.r e.1.c e.1.d.c e.2.A e.1.d.L.length e.2.ac e.2.B e.1.d.M.length e.2.bc (bs e.1.d.F)) 44)) (aj (av g8 (gn k sw A9 (q+1) c9) 31) (aj (aZ 44 10 (.slice A9 (q+1) c9) (q+1) ((picks f 0 (cs.take i)).flatMap mY++mY e)) (aj (av w.heap.size (gn 0 false none 0 0) 31) aS))))).drop);clear h7 h8 ao an p F8 H5 ar ad al;go_wp2_with fail
    go_roundw
    case rel=>exact⟨i+1,q+1,A9,c9,by go_num,ae,by rw[z.o,Yz,<-HQ.o];rfl,by omega,by rw[z.o,ZY,ZT];exact H8.o⟩
    case measure=>simp[intOf];omega
  ·obtain rfl:i=n:=by omega
   have ht:cs.take i=cs:=by rw[HN.o,YO]
   rw[ht] at HQ V;clear ht;have h1:=V.o.perm (by ac_rfl:_=aj (av w.heap.size (gn 0 false none 0 0) 31) (aj (av g8 (gn k sw A q c) 31) (aj (aZ 44 10 (.slice A q c) q ((picks f 0 cs).flatMap mY)) aS)));have aa:(aj (av g8 (gn k sw A q c) 31) (aj (aZ 44 10 (.slice A q c) q ((picks f 0 cs).flatMap mY)) aS)).Ok:=ay aC aQ;obtain⟨m0,m1,m2⟩:=dZ h1.drop;obtain⟨F8,p⟩:=h1.fst;have z0:=aB (i:=0) p rfl;have z1:=aB (i:=1) p rfl;have z2:=aB (i:=2) p rfl;have zf:=aP p;have am:aI fh w (aj (av w.heap.size (gn k false none 0 0) 31) _) _:=aJ h1 aa 0 (.int .i64 k);have ai:aI fh w (aj (av w.heap.size (gn k sw none 0 0) 31) _) _:=aJ am aa 1 (.bool sw);have ak:aI fh w (aj (av w.heap.size (gn k sw A q c) 31) _) _:=aJ ai aa 2 (.slice A q c);have H9:=au ak
   have HF:=au (fun W (h:aI fh w (aj (av w.heap.size (gn k sw A q c) 31) (aj (av g8 (gn k sw A q c) 31) (aj (aZ 44 10 (.slice A q c) q ((picks f 0 cs).flatMap mY)) aS))) W)=>(show Ic w f cs k sw (.returned (.agg (gn k sw A q c))) W from by
    refine⟨A,c,by rw[HQ.o],?_⟩;unfold o7;rw[<-HQ.o]
    exact(h.drop.drop.perm (kS _)).post cB))
   clear h1 am ai ak aa V F8 p;go_wp2;obtain⟨f2,ap⟩:=H9.o.fst;refine bodyPost_ret (results_cell_row rfl _ _ w.heap.size 31 _ (0,0) _ rfl ap.1 Tryz.underlying31 rfl fi) rfl ?_;exact HF.o _ H9.o
end Go.Proofs.YtbnnlpjpnihheaaGreatDoor
namespace Go.CH.bF
section
variable{c c':Nat→Nat→Int}{d d' e e':Nat→Int}{n m:Nat}
variable{k:Nat}
theorem find_congr{p q:Nat->Bool}(h:∀ j,j<k->p j=q j):(List.range k).find? p=(List.range k).find? q:=by
 have:∀ l:List Nat,(∀ j ∈ l,p j=q j)->l.find? p=l.find? q:=by
  intro l
  induction l with
  | nil=>intro _;rfl
  | cons x l ih=>
   intro F;rw[tc,tc,F x (Ze ..),ih fun j z=>F j (Zj _ z)]
 exact this _ fun j z=>h j (List.mem_range.1 z)
theorem vX(q:∀ i,i<n->∀ j,j<m->c i j=c' i j)(hd:∀ i,i<n->d i=d' i)(h:∀ j,j<m->e j=e' j):∀ (k:Nat) (U:Nat->Bool),k<=n->L c d e n m k U=L c' d' e' n m k U
 | 0,U,_=>bJ fun j p=>by rw[h j p]
 | k+1,U,hk=>by
  unfold L;rw[hd _ ff,vX q hd h k U ff];exact BU (fun j p=>by rw[q _ ff j p,vX q hd h k _ ff]) (fun _ _=>rfl)
theorem Bp(h:∀ i,i<n->∀ j,j<m->c i j=c' i j)(hd:∀ i,i<n->d i=d' i)(p:∀ j,j<m->e j=e' j):∀ (k:Nat) (U:Nat->Bool),k<=n->gr c d e n m k U=gr c' d' e' n m k U
 | 0,U,_=>rfl
 | k+1,U,hk=>by
  have q:(List.range m).find? (fun j=>!U j&&decide (c (n-(k+1)) j+L c d e n m k (ins U j)=L c d e n m (k+1) U))=(List.range m).find? (fun j=>!U j&&decide (c' (n-(k+1)) j+L c' d' e' n m k (ins U j)=L c' d' e' n m (k+1) U)):=find_congr fun j z=>by
   rw[h _ ff j z,vX h hd p k _ ff,vX h hd p (k+1) _ hk]
  unfold gr;rw[q];split
  ·rw[Bp h hd p k _ ff]
  ·rw[Bp h hd p k _ ff]
theorem Df(he:∀ j,j<m->e j=e' j):∀ b,b<=m->Tt e m b=Tt e' m b
 | 0,_=>rfl
 | b+1,hb=>by unfold Tt;rw[he _ ff,Df he b ff]
theorem Dh{i:Nat}{f g:Nat->Int}(hc:∀ j,j<m->c i j=c' i j)(hd:d i=d' i)(he:∀ j,j<m->e j=e' j)(hf:∀ b,b<=m->f b=g b):∀ b,b<=m->Xr c d e m i f b=Xr c' d' e' m i g b
 | 0,_=>by unfold Xr;rw[hd,hf 0 ff]
 | b+1,hb=>by unfold Xr;rw[hd,hf _ hb,he _ ff,Dh hc hd he hf b ff,hc _ ff,hf b ff]
theorem vY(hc:∀ i,i<n->∀ j,j<m->c i j=c' i j)(hd:∀ i,i<n->d i=d' i)(he:∀ j,j<m->e j=e' j):∀ (a b:Nat),a<=n->b<=m->GR c d e n m a b=GR c' d' e' n m a b
 | 0,b,_,hb=>Df he b hb
 | a+1,b,ha,hb=>by
  unfold GR;exact Dh (fun j hj=>hc _ ff j hj) (hd _ ff) he (fun b hb=>vY hc hd he a b ff hb) b hb
theorem xK(p:∀ i,i<n->∀ j,j<m->c i j=c' i j)(hd:∀ i,i<n->d i=d' i)(h:∀ j,j<m->e j=e' j):∀ (a b:Nat),a<=n->b<=m->uL c d e n m a b=uL c' d' e' n m a b
 | 0,b,_,hb=>rfl
 | a+1,b,ha,hb=>by
  have q:(List.range b).find? (fun t=>decide (sg t (fun x=>e (m-b+x))+c (n-(a+1)) (m-b+t)+GR c d e n m a (b-(t+1))=GR c d e n m (a+1) b))=(List.range b).find? (fun t=>decide (sg t (fun x=>e' (m-b+x))+c' (n-(a+1)) (m-b+t)+GR c' d' e' n m a (b-(t+1))=GR c' d' e' n m (a+1) b)):=find_congr fun t F=>by
   rw[bJ (fun x z=>h (m-b+x) ff),p _ ff _ ff,vY p hd h a _ ff ff,vY p hd h (a+1) b ha hb]
  unfold uL;rw[q];split
  ·rw[xK p hd h a _ ff ff]
  ·rw[xK p hd h a _ ff hb]
end
end Go.CH.bF
namespace Go.CH.Mtc
open Go.CH.Scr Go.CH.eG
def Di(T:fy)(a b:bI)(m i j:Nat):List Pr:=(List.range i).flatMap (fun r=>(List.range m).map (yZ T a b r))++(List.range j).map (yZ T a b i)
def uI(T:fy)(a b:bI)(m n i j:Nat):List (List Int):=(List.range n).map fun r=>(List.range (if r<i then m else if r=i then j else 0)).map fun s=>cM T a b r s
section
variable{T:fy}{a b:bI}{m n i j:Nat}
theorem Vg:Di T a b m i (j+1)=Di T a b m i j++[yZ T a b i j]:=by unfold Di;rw[oy,YS,<-Y3];rfl
theorem Vh:Di T a b m (i+1) 0=Di T a b m i m:=by unfold Di;rw[oy,ZY,ZT];simp
variable{p:Pr}{y:Int}{k:Nat}
theorem Mw(h:p ∈ Di T a b m i j):∃ r s,p=yZ T a b r s/\((r<i/\s<m)\/(r=i/\s<j)):=by
 unfold Di at h;rcases List.mem_append.1 h with h|h
 ·obtain⟨r,z,h⟩:=List.mem_flatMap.1 h;obtain⟨s,q,rfl⟩:=List.mem_map.1 h;exact⟨r,s,rfl,.inl ⟨List.mem_range.1 z,List.mem_range.1 q⟩⟩
 ·obtain⟨s,q,rfl⟩:=List.mem_map.1 h;exact⟨i,s,rfl,.inr ⟨rfl,List.mem_range.1 q⟩⟩
theorem Xg{r s:Nat}(hr:r<i)(hs:s<m):yZ T a b r s ∈ Di T a b m i j:=List.mem_append.2 (.inl (List.mem_flatMap.2 ⟨r,List.mem_range.2 hr,List.mem_map.2 ⟨s,List.mem_range.2 hs,rfl⟩⟩))
def Yd(E:List Pr)(x y:Int):Option Pr:=E.find? fun p=>decide (p.i=x)&&decide (p.j=y)
theorem Vi{x:Int}(I:0<=x)(hn:x<n):Yd (Di T a b m n 0) x y=if 0<=y/\y<m then some (yZ T a b x.toNat y.toNat) else none:=by
 unfold Yd;cases q:(Di T a b m n 0).find? fun p=>decide (p.i=x)&&decide (p.j=y) with
 | none=>
  split
  ·rename_i J;have h:=List.find?_eq_none.1 q _ (Xg (T:=T) (a:=a) (b:=b) (j:=0) (show x.toNat<n by omega) (show y.toNat<m by omega));exact absurd (by simp only[JH,JI,YF,decide_eq_true_eq];omega) h
  ·rfl
 | some p=>
  have h:=lR q;have z:=Zf q;obtain⟨r,s,rfl,F⟩:=Mw z;simp only[JH,JI,YF,decide_eq_true_eq] at h;rw[if_pos ff,show x.toNat=r by omega,show y.toNat=s by omega]
theorem RN:uI T a b m n 0 0=List.replicate n []:=by
 unfold uI;have:(fun r=>(List.range (if r<0 then m else if r=0 then 0 else 0)).map fun s=>cM T a b r s)=fun _=>([]:List Int):=by
  funext r;rw[if_neg (Zn _),ite_self];rfl
 rw[this,List.map_const',sb]
theorem kg:(uI T a b m n i j).length=n:=by unfold uI;simp
theorem vZ(h:k<(uI T a b m n i j).length):(uI T a b m n i j)[k]=(List.range (if k<i then m else if k=i then j else 0)).map fun s=>cM T a b k s:=by
 simp[uI]
theorem RO(hi:i<n)(h:i<(uI T a b m n i j).length):(uI T a b m n i j)[i]=(List.range j).map fun s=>cM T a b i s:=by
 rw[vZ,if_neg (Zt _),if_pos rfl]
theorem Vj(hi:i<n):(uI T a b m n i j).set i ((List.range j).map (fun s=>cM T a b i s)++[cM T a b i j])=uI T a b m n i (j+1):=by
 apply List.ext_getElem
 ·simp[uI]
 ·intro k z q;rw[List.getElem_set,vZ,vZ];by_cases p:i=k
  ·subst p;rw[if_pos rfl,if_neg (Zt _),if_pos rfl,oy,YS];rfl
  ·rw[if_neg p];by_cases h:k<i
   ·rw[if_pos h,if_pos h]
   ·rw[if_neg h,if_neg h,if_neg (kl p),if_neg (kl p)]
theorem Vk:uI T a b m n (i+1) 0=uI T a b m n i m:=by
 unfold uI;refine Zu fun k _=>?_;by_cases hk:k<i
 ·rw[if_pos hk,if_pos ff]
 ·rw[if_neg hk];by_cases h2:k=i
  ·rw[if_pos h2,if_pos ff]
  ·rw[if_neg h2,if_neg ff,ite_self]
end
end Go.CH.Mtc
namespace Go.Proofs.YtbnnlpjpnihheaaGreatDoor
open Go.RowKit Go.CH Go.CH.Scr Go.CH.eG Go.CH.Mtc
open Asn (bM eT lW BL Vec ints cF lF qE AY yI)
open Go.ChangeMaps (setBlock)
structure fI where
 l:List Int
 A:fj
 c:Nat
def fI.cl(z:fI):List Value:=[.slice z.A z.l.length z.c]
def fI.ow(z:fI):CH.bq:=bM z.A z.c z.l
def lZ(A:fj)(c:Nat)(zs:List fI):CH.bq:=J5 fI.cl fI.ow 40 1 (.slice A zs.length c) zs
variable{A:fj}{c n g m mb go i j d:Nat}{w W w':World}{F:Nat->Prop}{e:TypeId}{xs:List Value}{l:List Int}{T:fy}{b:bI}{p:Pr}{a:Act}{K:Act->World->Prop}{Q:Exit->Act->World->Prop}{y:Int}
theorem Mx{zs:List fI}:(lZ A c zs).Ok:=Ml fun _=>eT
instance {A:fj} {c:Nat} {zs:List fI}:(lZ A c zs).Ok:=Mx
theorem Vl{size:Nat}(h:aZ e size (.slice A n c) n xs w F):n<=c:=by
 rcases h.1.2 with⟨h1,h2⟩|⟨g,cap,cur,h1,_,_,h2,_⟩
 ·omega
 ·injection h1 with _ _ h3;omega
theorem Vm(h:bM A c l w F):l.length<=c:=Vl h
theorem RQ{zs:List fI}(h:lZ A c zs w F):BL w A (zs.map (·.l)) (zs.map fun z=>(z.A,z.c)):=by
 refine⟨by simp,?_,?_⟩
 ·obtain⟨F1,F2,I,_⟩:=h
  have h2:=iG I (by
   intro u J;rw[sB] at J;obtain⟨z,_,M⟩:=J
   simp[fI.cl] at M;subst M;rfl)
  have e:(zs.map fun z=>(z.A,z.c)).mapIdx (fun i x=>Value.slice x.1 ((zs.map (·.l)).getD i []).length x.2)=zs.flatMap fI.cl:=by
   have V:zs.flatMap fI.cl=zs.map (fun z=>Value.slice z.A z.l.length z.c):=by
    have:∀ l:List fI,l.flatMap fI.cl=l.map (fun z=>Value.slice z.A z.l.length z.c):=fun l=>by induction l with
     | nil=>rfl
     | cons a l ih=>simp[fI.cl] at ih ⊢;exact ih
    exact this zs
   rw[V];apply nB;intro i;rw[pP,Y6,Y6];cases p:zs[i]? with
   | none=>rfl
   | some x=>simp[YP,p]
  rw[e,YI];exact h2
 ·intro i hi x p;have q:i<zs.length:=by simpa using hi
  rw[Y6,YH q] at p;simp at p;subst p;rw[ZA];have h3:=Hw q h;obtain⟨F1,F2,I,_⟩:=h3;exact⟨lW I,Vm I⟩
theorem MB{O:CH.bq}{w:World}(h:O w fh):∀ n:Nat,aR (List.replicate n O) w fh
 | 0=>fun _ h=>h
 | n+1=>⟨fun _=>False,fun _=>False,h,MB h n,fun _ h=>h.elim,fun i=>by simp⟩
theorem RS:∀ n:Nat,(List.replicate n (⟨[],none,0⟩:fI)).flatMap fI.cl=List.replicate n (.slice none 0 0)
 | 0=>rfl
 | n+1=>by rw[List.replicate_succ,Zm,List.replicate_succ,RS n];rfl
theorem RU(h:aZ 40 1 (.slice (some ⟨g,0,none⟩) n n) n (List.replicate n (.slice none 0 0)) w F):lZ (some ⟨g,0,none⟩) n (List.replicate n ⟨[],none,0⟩) w F:=by
 unfold lZ J5;rw[List.length_replicate,List.map_replicate];refine⟨F,fun _=>False,?_,MB (Asn.vL w) n,fun _ _ h=>h,fun i=>by simp⟩;rw[RS];exact h
def nC(e:Pr × PA):CH.bq:=iP e.2.A e.2.ac e.2.B e.2.bc e.1.d
theorem Es{E:List (Pr × PA)}:(aR (E.map nC)).Ok:=rE (fun A hA=>by obtain⟨e,_,rfl⟩:=List.mem_map.1 hA;exact nM)
instance {E:List (Pr × PA)}:(aR (E.map nC)).Ok:=Es
def kC(e:Pr × PA):(Int × Int) × Value:=((e.1.i,e.1.j),.agg (XU e))
theorem J8:nJ Tryz.prog 80 (fP .i64):=Jv Tryz.underlying80 Tryz.underlying3 fi
def BI(T:fy)(a b:bI)(m n mb go i j:Nat):CH.bq:=pG fun E:List (Pr × PA)=>pG fun zs:List fI=>yU (E.map (·.1)=Di T a b m i j/\zs.map (·.l)=uI T a b m n i j) (aj (iE (fP .i64) mb (E.map kC)) (aj (lZ (some ⟨go,0,none⟩) n zs) (aR (E.map nC))))
theorem XW{a:bI}:(BI T a b m n mb go i j).Ok:=eO fun _=>eO fun _=>iW (ay map_ok (ay Mx Es))
instance {T:fy} {a b:bI} {m n mb go i j:Nat}:(BI T a b m n mb go i j).Ok:=XW
section
variable{T:fy}{a b:bI}{m n mb go i j:Nat}{F0:Nat→Prop}{w0 W:World}{Y:CH.bq}
theorem MC(h:aI F0 w0 (aj (BI T a b m n mb go i j) Y) W):∃ (E:List (Pr × PA)) (zs:List fI),E.map (·.1)=Di T a b m i j/\zs.map (·.l)=uI T a b m n i j/\aI F0 w0 (aj (aj (iE (fP .i64) mb (E.map kC)) (aj (lZ (some ⟨go,0,none⟩) n zs) (aR (E.map nC)))) Y) W:=by
 obtain⟨E,h⟩:=h.ex;obtain⟨zs,h⟩:=h.ex;obtain⟨⟨q,p⟩,h⟩:=h.pure;exact⟨E,zs,q,p,h⟩
theorem RX{E:List (Pr × PA)}{zs:List fI}(h1:E.map (·.1)=Di T a b m i j)(h2:zs.map (·.l)=uI T a b m n i j)(h:aI F0 w0 (aj (aj (iE (fP .i64) mb (E.map kC)) (aj (lZ (some ⟨go,0,none⟩) n zs) (aR (E.map nC)))) Y) W):aI F0 w0 (aj (BI T a b m n mb go i j) Y) W:=
 aI.uf E (aI.uf zs (aI.kD ⟨h1,h2⟩ h))
theorem Xh(h:aI F0 w0 (aj (BI T a b m n mb go i m) Y) W):aI F0 w0 (aj (BI T a b m n mb go (i+1) 0) Y) W:=by
 obtain⟨E,zs,h1,h2,h⟩:=MC h;exact RX (by rw[Vh];exact h1) (by rw[Vk];exact h2) h
theorem Xi(h:aI F0 w0 (aj (aZ 40 1 (.slice (some ⟨go,0,none⟩) n n) n (List.replicate n (.slice none 0 0))) (aj (iE (fP .i64) mb []) Y)) W):aI F0 w0 (aj (BI T a b m n mb go 0 0) Y) W:=by
 have p:aI F0 w0 (aj (lZ (some ⟨go,0,none⟩) n (List.replicate n ⟨[],none,0⟩)) (aj (iE (fP .i64) mb []) (aj (aR []) Y))) W:=(h.imp fun w F h=>bK h (fun _ h=>RU h) (fun _ h=>h)).perm (by show _=aj _ (aj _ (aj aS Y));rw[zD]);refine RX (E:=[]) (zs:=List.replicate n ⟨[],none,0⟩) rfl (by rw[RN,List.map_replicate]) (p.perm ?_)
 show _=aj (aj (iE (fP .i64) mb []) (aj _ (aR []))) Y
 ac_rfl
theorem Vn{E:List (Pr × PA)}(h:E.map (·.1)=Di T a b m i j):((i:Int),(j:Int)) ∉ (E.map kC).map (·.1):=by
 rw[lj];intro hm;obtain⟨e,F,p⟩:=List.mem_map.1 hm;have z:e.1 ∈ Di T a b m i j:=by rw[<-h];exact List.mem_map.2 ⟨e,F,rfl⟩
 obtain⟨r,s,q,I⟩:=Mw z;simp only[Function.comp,kC,q,JH,JI,Prod.mk.injEq] at p;omega
end
section
variable{F0:Nat→Prop}{w0 W:World}{R Y:CH.bq}
theorem Ie{zs:List fI}(hi:i<zs.length)(h:aI F0 w0 (aj (lZ (some ⟨go,0,none⟩) c zs) R) W):
  aI F0 w0 (aj (bM zs[i].A zs[i].c zs[i].l) (aj (aZ 40 1 (.slice (some ⟨go,0,none⟩) zs.length c) zs.length (zs.flatMap fI.cl)) (aj (aR ((zs.eraseIdx i).map fI.ow)) R))) W/\W.cell? ⟨go,i,none⟩=some (.slice zs[i].A zs[i].l.length zs[i].c)/\W.frozen? ⟨go,i,none⟩=false:=by
 have p:aI F0 w0 (aj (bM zs[i].A zs[i].c zs[i].l) (aj (aZ 40 1 (.slice (some ⟨go,0,none⟩) zs.length c) zs.length (zs.flatMap fI.cl)) (aj (aR ((zs.eraseIdx i).map fI.ow)) R))) W:=(h.imp fun w F I=>bK I (fun F h=>Hw hi h) (fun _ h=>h)).perm (by show aj (aj (bM zs[i].A zs[i].c zs[i].l) (aj (aZ 40 1 (.slice (some ⟨go,0,none⟩) zs.length c) zs.length (zs.flatMap fI.cl)) (aR ((zs.eraseIdx i).map fI.ow)))) R=_;ac_rfl);obtain⟨F,q⟩:=p.drop.fst;have z:(zs.flatMap fI.cl)[i]?=some (.slice zs[i].A zs[i].l.length zs[i].c):=by
  have:=rW (R:=fI.cl) (size:=1) (fun _=>rfl) hi (i:=0) ff;rw[o3,ZM] at this;exact this
 exact⟨p,mX q z,oW q i ff⟩
theorem ME{zs:List fI}(hi:i<zs.length)(I:l.length=n)(hR:R.Ok)(h:aI F0 w0 (aj (bM A d l) (aj (aZ 40 1 (.slice (some ⟨go,0,none⟩) zs.length c) zs.length (zs.flatMap fI.cl)) (aj (aR ((zs.eraseIdx i).map fI.ow)) R))) W):
  aI F0 w0 (aj (lZ (some ⟨go,0,none⟩) c (zs.set i ⟨l,A,d⟩)) R) (W.setCell ⟨go,i,none⟩ (.slice A n d)):=by
 subst I;have M:(aR ((zs.eraseIdx i).map fI.ow)).Ok:=rE (fun A J=>by obtain⟨z,_,rfl⟩:=List.mem_map.1 J;exact eT);obtain⟨F,hF,-,p⟩:=h.oM.take cB aQ;have q:=p _ _ (vU hF (i:=i) ff (.slice A l.length d));have e:(zs.flatMap fI.cl).set i (.slice A l.length d)=(zs.set i ⟨l,A,d⟩).flatMap fI.cl:=by
  have:=RF fI.cl 1 (fun _=>rfl) hi (j:=0) ff (v:=.slice A l.length d) (x:=⟨l,A,d⟩) rfl;rw[o3,ZM] at this;exact this
 rw[e] at q;have V:aI F0 w0 (aj (aj (fI.ow ⟨l,A,d⟩) (aj (aZ 40 1 (.slice (some ⟨go,0,none⟩) zs.length c) zs.length ((zs.set i ⟨l,A,d⟩).flatMap fI.cl)) (aR ((zs.eraseIdx i).map fI.ow)))) R) _:=q.perm (by show aj _ (aj (bM A d l) _)=aj (aj (bM A d l) _) _;ac_rfl);refine V.imp fun w F hh=>bK hh (fun F h=>?_) (fun _ h=>h);unfold lZ;rw[l3];exact Vb hi h
theorem MF{zs:List fI}(hi:i<zs.length)(h:aI F0 w0 (aj (bM A d l) (aj (aZ 40 1 (.slice (some ⟨go,0,none⟩) zs.length c) zs.length (zs.flatMap fI.cl)) R)) W):
  W.cell? ⟨go,i,none⟩=some (.slice zs[i].A zs[i].l.length zs[i].c)/\W.frozen? ⟨go,i,none⟩=false:=by
 obtain⟨F,p⟩:=h.drop.fst;have q:(zs.flatMap fI.cl)[i]?=some (.slice zs[i].A zs[i].l.length zs[i].c):=by
  have:=rW (R:=fI.cl) (size:=1) (fun _=>rfl) hi (i:=0) ff;rw[o3,ZM] at this;exact this
 exact⟨mX p q,oW p i ff⟩
theorem MG{a:bI}{E:List (Pr × PA)}{zs:List fI}{B A9:fj}{pc qc c9:Nat}{q:Int}{z:List Int}(I:yZ T a b i j=p)(V:p.c=q)(hE:E.map (·.1)=Di T a b m i j)(J:zs.map (·.l)=uI T a b m n i j)(hi:i<n)(M:z=(List.range j).map fun s=>cM T a b i s)(h:aI F0 w0 (aj (lZ (some ⟨go,0,none⟩) n (zs.set i ⟨z++[q],A9,c9⟩)) (aj (iE (fP .i64) mb (lG (E.map kC) ((i:Int),(j:Int)) (.agg (og p A pc B qc)))) (aj (aR (E.map nC)) (aj (iP A pc B qc p.d) Y)))) W):aI F0 w0 (aj (BI T a b m n mb go i (j+1)) Y) W:=by
 have hc:cM T a b i j=q:=by unfold cM;rw[I,V]
 have hk:lG (E.map kC) ((i:Int),(j:Int)) (.agg (og p A pc B qc))=(E++[(p,PA.mk A pc B qc)]).map kC:=by
  rw[oV (Vn hE),YS];have h1:p.i=i:=by rw[<-I,JH]
  have h2:p.j=j:=by rw[<-I,JI]
  show _=_++[((p.i,p.j),Value.agg (og p A pc B qc))]
  rw[h1,h2]
 rw[hk] at h;refine RX (E:=E++[(p,PA.mk A pc B qc)]) (zs:=zs.set i ⟨z++[q],A9,c9⟩) (by rw[YS,hE,Vg,I];rfl) (by rw[oT,J,<-Vj hi,M,hc]) ?_;have h3:aI F0 w0 (aj (aj (nC (p,PA.mk A pc B qc)) (aR (E.map nC))) (aj (lZ (some ⟨go,0,none⟩) n (zs.set i ⟨z++[q],A9,c9⟩)) (aj (iE (fP .i64) mb ((E++[(p,PA.mk A pc B qc)]).map kC)) Y))) W:=h.perm (by show _=aj (aj (iP A pc B qc p.d) (aR (E.map nC))) _;ac_rfl);have h4:aI F0 w0 (aj (aR ((E++[(p,PA.mk A pc B qc)]).map nC)) (aj (lZ (some ⟨go,0,none⟩) n (zs.set i ⟨z++[q],A9,c9⟩)) (aj (iE (fP .i64) mb ((E++[(p,PA.mk A pc B qc)]).map kC)) Y))) W:=h3.imp fun w F hh=>bK hh (fun F h=>by rw[YS];exact Bf h) (fun _ h=>h);exact h4.perm (by ac_rfl)
theorem Ig{o:Oper}(s x:Operand)(V:o.op=.call { callee:=.builtin .append,args:=#[s,x],argTypes:=#[40,40] }){i:Int}(hl:l.length=n)(hsv:a.eval s=.slice A n c)(hx:a.eval x=.slice (some ⟨W.heap.size,0,none⟩) 1 1)(hn:n<=1000)(hY:Y.Ok)(h:aI F0 w0 (aj (bM A c l) Y) W)(hK:∀ J c' w',aI F0 w0 (aj (bM J c' (l++[i])) Y) w'->K (a.put o.dst (.slice J (n+1) c')) w'):o.wp Tryz.prog a (W.alloc (.cells (gb i) 3)) K Q:=by
 subst hl;obtain⟨F7,q,-,F⟩:=(h.below aQ ((YC _ _).alloc (YG _) (.cells (gb i) 3))).take eT hY;refine Qz s x V Asn.mW _ 0 (v:=.slice A l.length c) (n:=l.length) (xs:=ints l) hsv q.1 (A:=some ⟨W.heap.size,0,none⟩) (m:=1) (c:=1) (news:=[.int .i64 i]) hx (Asn.lU W i) ff fW (YE _) ?_;intro v8 w8 p I z;have M:=F _ _ (iy q p I z);obtain⟨A8,c8,rfl⟩:=fV p;rw[Asn.vK] at M;exact hK A8 c8 w8 M
end
def eF(E:List (Pr × PA))(x y:Int):Option (Pr × PA):=E.find? fun e=>decide (e.1.i=x)&&decide (e.1.j=y)
theorem Xj(E:List (Pr × PA))(x y:Int):(eF E x y).map (·.1)=Yd (E.map (·.1)) x y:=by
 unfold eF Yd;rw[List.find?_map];rfl
theorem RY(x y:Int):∀ E:List (Pr × PA),ny (E.map kC) (x,y)=(eF E x y).map fun e=>.agg (XU e)
 | []=>rfl
 | e::E=>by
  rw[Zb]
  show ny (((e.1.i,e.1.j),Value.agg (XU e))::E.map kC) (x,y)=_
  rw[su];unfold eF;rw[tc];by_cases h:(x,y)=(e.1.i,e.1.j)
  ·rw[if_pos h];injection h with h1 p
   subst h1 p;simp
  ·rw[if_neg h];have p:(decide (e.1.i=x)&&decide (e.1.j=y))=false:=by
    rw[mL];by_cases q:e.1.i=x
    ·right;refine decide_eq_false fun z=>h ?_;rw[q,z]
    ·left;exact decide_eq_false q
   rw[p];exact RY x y E
theorem Xk{E:List (Pr × PA)}{x:Int}{e:Pr × PA}(h:eF E x y=some e):e ∈ E:=Zf h
theorem Xl(w:World):(zeroValue 44).run Tryz.prog w=.ok (.agg (fX 0 0 0 0 0 0 0 none 0 0 none 0 0 ⟨#[]⟩)) w:=by kernel_rfl
theorem Xm{E:List (Pr × PA)}(h:iE (fP .i64) mb (E.map kC) W F)(x y:Int):
  (Instr.lookup 74 (.map (some mb)) (.agg (kx x y)) true).run Tryz.prog W=.ok (.tuple #[XV (eF E x y),.bool (eF E x y).isSome]) W:=by
 obtain⟨⟨es,q,J,I⟩,M⟩:=h;have p:=nS J8 Tryz.underlying74 Xl I (x,y) W J;rw[RY] at p;unfold XV;cases z:eF E x y with
 | none=>rw[z] at p;exact p
 | some e=>rw[z] at p;exact p
theorem Dj{T:fy}{a b:bI}{n:Nat}{E:List (Pr × PA)}(F:E.map (·.1)=Di T a b b.ws.length n 0):∀ (l:List Int) (i:Nat),i+l.length<=n->(picks (eF E) i l).map (·.1)=fD T a b i l
 | [],i,_=>rfl
 | j::l,i,h=>by
  have p:=Xj E i j;rw[F,Vi ff (by simp at h;omega)] at p
  show((eF E i j).toList++picks (eF E) (i+1) l).map (·.1)=_
  rw[YS,Dj F l (i+1) (by simp at h;omega)];rw[fD];split
  ·rename_i z;rw[if_pos z] at p;cases q:eF E i j with
   | none=>rw[q] at p;cases p
   | some e=>rw[q] at p;injection p with p;simp[p]
  ·rename_i z;rw[if_neg z] at p;cases q:eF E i j with
   | none=>rfl
   | some e=>rw[q] at p;cases p
theorem Dk{E:List (Pr × PA)}{e:Pr × PA}:∀ (l:List Int) (i:Nat),e ∈ picks (eF E) i l->e ∈ E
 | [],i,h=>by cases h
 | j::l,i,h=>by
  rcases List.mem_append.1 h with h|h
  ·cases p:eF E i j with
   | none=>rw[p] at h;cases h
   | some e'=>
    rw[p] at h;simp at h;subst h;exact Xk p
  ·exact Dk l (i+1) h
theorem Xn{E:List (Pr × PA)}:∀ {F:Nat->Prop},aR (E.map nC) w F->∀ e ∈ E,iD w e.2.A e.1.d.L/\iD w e.2.B e.1.d.M:=by
 induction E with
 | nil=>intro F _ e p;cases p
 | cons x E ih=>
  intro F h e p;obtain⟨F1,F2,z,q,-,-⟩:=h;rcases List.mem_cons.1 p with rfl|p
  ·obtain⟨F3,V,I,J,-,-⟩:=z;exact⟨yX I,yX J⟩
  ·exact ih q e p
structure RZ(w:World)(A:fj)(l:List (Pr × PA)):Prop where
 row:tH mY 10 w A l
 all:∀ e ∈ l,iD w e.2.A e.1.d.L/\iD w e.2.B e.1.d.M
theorem RZ.below{l:List (Pr × PA)}(h:RZ w A l)(hb:Below w.heap.size w w'):RZ w' A l:=⟨aT h.row hb,fun e he=>⟨(h.all e he).1.below hb,(h.all e he).2.below hb⟩⟩
def Tp(A:fj)(c:Nat)(l:List (Pr × PA)):CH.bq:=pG fun E:List (Pr × PA)=>yU (∀ e ∈ l,e ∈ E) (aj (o7 A c l) (aR (E.map nC)))
theorem Sb{l:List (Pr × PA)}:(Tp A c l).Ok:=eO fun _=>iW (ay Bo Es)
instance {A:fj} {c:Nat} {l:List (Pr × PA)}:(Tp A c l).Ok:=Sb
theorem XY{l:List (Pr × PA)}(h:Tp A c l w F):RZ w A l:=by
 obtain⟨E,hE,F1,F2,h1,h2,-,-⟩:=h;exact⟨iG h1 (sN _),fun e he=>Xn h2 e (hE e he)⟩
theorem Vo(w:World):Tp none 0 [] w fh:=⟨[],(fun e he=>by cases he),fun _=>False,fun _=>False,fZ w 44 10,fun _ h=>h,fun _ h=>h.elim,fun i=>by simp⟩
def Et(w:World)(T:fy)(a b:bI)(e:Ending)(w':World):Prop:=
 ∃ (x:Mt) (er:Int) (A:fj) (c:Nat) (l:List (Pr × PA)),e=.returned (.tuple #[.agg (gn x.c x.s A l.length c),.int .i64 er])/\QH T a b x er/\l.map (·.1)=x.ps/\bS w fh (Tp A c l) w'
end Go.Proofs.YtbnnlpjpnihheaaGreatDoor
namespace Go.CH.Mtc
open Go.CH.Scr Go.CH.eG
section
variable{T:fy}{a b:bI}
theorem sP:qD T a b=true↔bC T=true/\eZ a=true/\eZ b=true:=by unfold qD;rw[YF,YF]
variable{n:Nat}{k:Int}
theorem BS{f:Nat->Int}(h:∀ i,f i<=k):bF.sg n f<=n*k:=by
 induction n with
 | zero=>simp[bF.sg]
 | succ n ih=>
  have h1:=h n;rw[bF.dN,ma,ml];omega
theorem Vp(h:qD T a b=true):0<=mU T a b/\mU T a b<=12000/\nT T a b<=12000:=by
 obtain⟨p,ha,hb⟩:=sP.1 h;have h1:=(bR.1 ha).2.2;have h2:=(bR.1 hb).2.2;have h3:=Ur (QH.some h);have h4:bF.sg a.ws.length (dM T a)<=a.ws.length*1000:=BS fun i=>(qV p i).2;have h5:bF.sg b.ws.length (dM T b)<=b.ws.length*1000:=BS fun i=>(qV p i).2;have hn:∀ P,bF.bF a.ws.length b.ws.length P->0<=bF.cost (cM T a b) (dM T a) (dM T b) a.ws.length b.ws.length P:=fun P hP=>by
  unfold bF.cost
  have h2:=bF.rQ (n:=a.ws.length) (f:=fun i=>if P i<b.ws.length then cM T a b i (P i) else dM T a i) (fun i hi=>by
   split
   ·exact(JE p _ _).1
   ·exact(qV p _).1)
  have h3:=bF.rQ (n:=b.ws.length) (f:=fun j=>if bF.used P a.ws.length j then 0 else dM T b j) (fun j F=>by
   split
   ·exact ZB _
   ·exact(qV p _).1)
  omega
 have M:bF.bF a.ws.length b.ws.length (fun _=>b.ws.length):=⟨fun _ _=>YG _,fun i j hi F _ h=>absurd h (Zt _)⟩;have q:bF.zu a.ws.length b.ws.length (fun _=>b.ws.length):=fun i j _ _ h=>absurd h (Zt _);have h6:=(vD (T:=T) (a:=a) (b:=b)).low _ M q;have I:bF.cost (cM T a b) (dM T a) (dM T b) a.ws.length b.ws.length (fun _=>b.ws.length)=bF.sg a.ws.length (dM T a)+bF.sg b.ws.length (dM T b):=by
  unfold bF.cost;congr 1
  ·exact bF.bJ fun i _=>if_neg (Zt _)
  ·refine bF.bJ fun j F=>if_neg ?_;rw[oc,bF.oo];intro i _ e;omega
 obtain⟨V,z,J⟩:=(y7 (T:=T) (a:=a) (b:=b)).has;have h8:=hn V z;have h9:=Uq (T:=T) (a:=a) (b:=b);rw[I] at h6;omega
theorem Ih:(qR T a b).length=a.ws.length:=Gl.len
theorem Ii:(tF T a b).length=a.ws.length:=Gm.1.len
end
end Go.CH.Mtc
namespace Go.Proofs.YtbnnlpjpnihheaaGreatDoor
open Go.RowKit Go.CH Go.CH.Scr Go.CH.eG Go.CH.Mtc
open Asn (bM eT lW BL Vec ints cF lF qE AY yI)
open Go.ChangeMaps (setBlock)
section
variable{T:fy}{a b:bI}
variable{i la lb c d e:Nat}{W w:World}{A B G:fj}{V:List (fj × Nat)}{k:Int}{X:CH.bq}
theorem Eu{j:Nat}(hi:i<a.ws.length)(hj:j<b.ws.length):cF (uI T a b b.ws.length a.ws.length a.ws.length 0) i j=cM T a b i j:=by
 rw[AY (by rw[kg];exact hi),vZ,if_pos hi];unfold lF;rw[YP,Y6,mT hj];rfl
theorem ko(n:bI)(hi:i<n.ws.length):lF (n.ws.map (bH T n.k)) i=dM T n i:=by
 unfold lF dM wd;rw[YP,YP,Y6,YH hi];rfl
theorem VQ(h:qD T a b=true):qE (uI T a b b.ws.length a.ws.length a.ws.length 0) (a.ws.map (bH T a.k)) (b.ws.map (bH T b.k))=true:=by
 obtain⟨z,M,V⟩:=sP.1 h;have I:=(bR.1 M).2.2;have F:=(bR.1 V).2.2;have hd:∀ n:bI,Asn.wi (n.ws.map (bH T n.k)) 0 10000=true:=fun n=>by
  unfold Asn.wi;rw[YX];intro x p;obtain⟨y,-,rfl⟩:=List.mem_map.1 p;have:=mh z n.k y;rw[YF,decide_eq_true_eq,decide_eq_true_eq];omega
 unfold qE;simp only[YF,decide_eq_true_eq,YX];refine⟨⟨⟨⟨⟨by rw[kg,YI],by rw[YI];exact I⟩,by rw[YI];exact F⟩,hd a⟩,hd b⟩,fun r J=>?_⟩;obtain⟨k,q,rfl⟩:=List.getElem_of_mem J;rw[vZ,if_pos (by rw[kg] at q;exact q)];refine⟨by simp,?_⟩;unfold Asn.wi;rw[YX];intro x p;obtain⟨s,-,rfl⟩:=List.mem_map.1 p;have:=JE (a:=a) (b:=b) z k s;rw[YF,decide_eq_true_eq,decide_eq_true_eq];exact this
theorem Yq(F:la=a.ws.length)(J:lb=b.ws.length)(q:qD T a b=true)(h:BL W A (uI T a b lb la la 0) V)(hD:iD W B (a.ws.map (bH T a.k)))(hE:iD W G (b.ws.map (bH T b.k))):
  Calls Tryz.prog 32 #[.slice A la c,.slice B la d,.slice G lb e] W (fun M w'=>∃ A1 z,M=.returned (.tuple #[.slice A1 (tF T a b).length z,.int .i64 (nT T a b),.int .i64 0])/\Below W.heap.size W w'/\iD w' A1 (tF T a b)):=by
 subst F J;have h1:=Asn.He (c:=c) (d:=d) (e:=e) h (by rw[kg];have:=(bR.1 (sP.1 q).2.1).2.2;simp only[maxLen];omega) (D:=a.ws.map (bH T a.k)) (E:=b.ws.map (bH T b.k)) hD hE;rw[kg,YI,YI] at h1;refine h1.mono ?_;rintro M w' ⟨v,rfl,hb,A1,z,rfl,hr⟩;have I:=VQ q;have e1:Asn.nT (uI T a b b.ws.length a.ws.length a.ws.length 0) (a.ws.map (bH T a.k)) (b.ws.map (bH T b.k))=nT T a b:=by
  unfold Asn.nT nT;rw[if_pos I,YI,YI];exact bF.vY (fun i hi j p=>Eu hi p) (fun i hi=>ko a hi) (fun j p=>ko b p) _ _ (YG _) (YG _)
 have e2:Asn.tF (uI T a b b.ws.length a.ws.length a.ws.length 0) (a.ws.map (bH T a.k)) (b.ws.map (bH T b.k))=tF T a b:=by
  unfold Asn.tF tF;rw[if_pos I,YI,YI];exact bF.xK (fun i hi j p=>Eu hi p) (fun i hi=>ko a hi) (fun j p=>ko b p) _ _ (YG _) (YG _)
 rw[e2] at hr;exact⟨A1,z,by rw[e1,e2];unfold Asn.UZ;rw[if_pos I],hb,hr⟩
theorem anyM(I:la=a.ws.length)(aa:lb=b.ws.length)(z:qD T a b=true)(h:BL W A (uI T a b lb la la 0) V)(hD:iD W B (a.ws.map (bH T a.k)))(hE:iD W G (b.ws.map (bH T b.k)))(hd:la<=d):
  Calls Tryz.prog 33 #[.slice A la c,.slice B la d,.slice G lb e] W (fun en w'=>∃ A1 F M n2 c2 A3 n3 J,en=.returned (.tuple #[.agg (gA (mU T a b) A1 (qR T a b).length F M n2 c2 A3 n3 J),.int .i64 0])/\Below W.heap.size W w'/\iD w' A1 (qR T a b)):=by
 subst I aa;have h1:=Asn.Ab (c:=c) (d:=d) (e:=e) h (by rw[kg];have:=(bR.1 (sP.1 z).2.1).2.2;simp only[maxLen];omega) (D:=a.ws.map (bH T a.k)) (E:=b.ws.map (bH T b.k)) hD hE (by rw[YI];exact hd);rw[kg,YI,YI] at h1;refine h1.mono ?_;have hv:=VQ z;rintro en w' ⟨v,rfl,hb,q⟩;rw[if_pos hv] at q;obtain⟨A1,M,A3,F,c2,J,rfl,q,-,-⟩:=q;have e1:(Asn.iI (uI T a b b.ws.length a.ws.length a.ws.length 0) (a.ws.map (bH T a.k)) (b.ws.map (bH T b.k))).k=mU T a b:=by
  unfold Asn.iI mU bF.lJ;simp only[YI];exact bF.vX (fun i hi j p=>Eu hi p) (fun i hi=>ko a hi) (fun j p=>ko b p) _ _ (YG _)
 have e2:(Asn.iI (uI T a b b.ws.length a.ws.length a.ws.length 0) (a.ws.map (bH T a.k)) (b.ws.map (bH T b.k))).ps=qR T a b:=by
  unfold Asn.iI qR bF.SY;simp only[YI];exact bF.Bp (fun i hi j p=>Eu hi p) (fun i hi=>ko a hi) (fun j p=>ko b p) _ _ (YG _)
 rw[e2] at q;exact⟨A1,F,M,_,c2,A3,_,J,by rw[e1,e2,if_pos hv],hb,q⟩
theorem MI{E:List (Pr × PA)}{cs:List Int}{sw:Bool}{Z:CH.bq}(p:qD T a b=true)(J:E.map (·.1)=Di T a b b.ws.length a.ws.length 0)(hl:cs.length<=a.ws.length)(q:iI T a b=⟨k,sw,fD T a b 0 cs⟩)(h:aI fh w (aj Z (aj (o7 A c (picks (eF E) 0 cs)) (aj (aR (E.map nC)) X))) W):Et w T a b (.returned (.tuple #[.agg (gn k sw A (picks (eF E) 0 cs).length c),.int .i64 0])) W:=by
 have z:=(h.perm (by ac_rfl:_=aj (aj Z X) (aj (o7 A c (picks (eF E) 0 cs)) (aR (E.map nC))))).drop;have M:aI fh w (Tp A c (picks (eF E) 0 cs)) W:=z.imp fun w F V=>⟨E,fun e I=>Dk cs 0 I,V⟩;exact⟨iI T a b,0,A,c,picks (eF E) 0 cs,by rw[q],.some p,by rw[q];exact Dj J cs 0 ff,M.post Sb⟩
end
variable{w W w' w0:World}{v:Value}{T:fy}{n a b:bI}{g i:Nat}{F0:Nat->Prop}{t:TypeId}{X:CH.bq}{A:fj}
theorem aF{p:Addr}(h:w.cell? p=some v)(hb:Below w.heap.size w W):W.cell? p=some v:=by rw[hb.cell (YW _ _ h)];exact h
theorem sO{e:Ending}(h:nX w T n e w'):∃ (A:fj) (p c:Nat) (B:fj) (q d:Nat) (o:Bool),e=.returned (.tuple #[.agg (fL A p c B q d),.bool o])/\Below w.heap.size w w'/\o=(bC T&&eZ n)/\(o=true->p=n.ws.length/\q=n.ws.length/\p<=c/\q<=d/\∃ l,xJ w' T n l A B):=by
 unfold nX at h;split at h
 ·rename_i z;obtain⟨l,A,c,B,d,rfl,F,I,J,M⟩:=h;exact⟨A,_,c,B,_,d,true,rfl,F,z.symm,fun _=>⟨rfl,rfl,J,M,l,I⟩⟩
 ·rename_i z;obtain⟨rfl,F⟩:=h;exact⟨none,0,0,none,0,0,false,rfl,F,by simpa using z,fun h=>by cases h⟩
theorem MH{tmps:Array Value}{cs:Array Value}(h:tmps.getD 6 undef=.pointer (some ⟨g,0,none⟩))(z:cs.size=3)(q:w.heap[g]?=some (.cells cs 31))(p:tmps.getD 7 undef=v):(results Tryz.f13 tmps).run Tryz.prog w=.ok (.tuple #[.agg cs,v]) w:=by
 subst p;exact dH rfl tmps w g 31 cs (0,0) h q Tryz.underlying31 (by rw[z];kernel_rfl)
theorem rG{J F q:Value}(h:aI F0 w0 (aj (av g #[J,F,q] t) X) w)(z:X.Ok)(p b1 b2:Value):
  aI F0 w0 (aj (av g #[p,b1,b2] t) X) (((w.setCell ⟨g,0,none⟩ p).setCell ⟨g,1,none⟩ b1).setCell ⟨g,2,none⟩ b2):=by
 have I:aI F0 w0 (aj (av g #[p,F,q] t) X) _:=aJ h z 0 p;have M:aI F0 w0 (aj (av g #[p,b1,q] t) X) _:=aJ I z 1 b1;exact aJ M z 2 b2
theorem lI(h:i<n.ws.length):wd n i ∈ n.ws:=by
 unfold wd;rw[YP,YH h];exact YL h
theorem xL{l:List (uK × WW)}{B:fj}(h:xJ w T n l A B)(hi:i<n.ws.length):
  ∃ (u:WW) (b o:Nat),A=some ⟨b,o,none⟩/\∀ W,Below w.heap.size w W->jk W (dX T n.k (wd n i)) u/\W.cell? ⟨b,o+i*3,none⟩=some (.int .i64 (dX T n.k (wd n i)).k)/\W.cell? ⟨b,o+i*3+1,none⟩=some (.slice u.V (dX T n.k (wd n i)).vs.length u.vc)/\W.cell? ⟨b,o+i*3+2,none⟩=some (.slice u.L (dX T n.k (wd n i)).ls.length u.lc):=by
 have J:l.length=n.ws.length:=by have:=congrArg List.length h.eq;simpa using this
 obtain⟨b,o,F,z⟩:=tH.at (R:=fH) (fun _=>rfl) ff h.row ff;have I:(l[i]'ff).1=dX T n.k (wd n i):=by
  have p:(l.map (·.1))[i]?=(n.ws.map (dX T n.k))[i]?:=by rw[h.eq]
  rw[Y6,Y6,YH (show i<l.length by omega),YH hi] at p;injection p with p
  unfold wd;rw[YP,YH hi];exact p
 refine⟨(l[i]'ff).2,b,o,F,fun W q=>?_⟩;rw[<-I];exact⟨(h.all _ (YL _)).below q,z W q i ff 0 _ rfl,z W q i ff 1 _ rfl,z W q i ff 2 _ rfl⟩
theorem Sc(h:qD T a b=false)(hb:Below w.heap.size w W):Et w T a b (.returned (.tuple #[.agg (gn 0 false none 0 0),.int .i64 1])) W:=
 ⟨Yv,1,none,0,[],rfl,.arg h,rfl,fun _=>False,Vo W,Mod.of_below hb,fun _ h=>h.elim⟩
abbrev _root_.Go.ju(i j:Int)(p:Pr)(A:fj)(c:Nat)(B:fj)(d:Nat):Array Value:=fX i j p.kd p.l p.r p.c p.d.c A p.d.L.length c B p.d.M.length d (bs p.d.F)
theorem J9{ta:TA}(hT:iR w T ta)(hz:LZ w){An Bn:fj}{ca cb:Nat}(hA:fM w An a.ws)(hB:fM w Bn b.ws)(bh:a.ws.length<=1000000)(be:b.ws.length<=1000000)(co:∀ x ∈ a.ws,x.length<=1000000)(cq:∀ x ∈ b.ws,x.length<=1000000):
  Calls Tryz.prog 13 #[eu T ta,ED a An ca,ED b Bn cb] w (Et w T a b):=by
 have h1:=aH (aI.begin w) aO (dh T ta) 25;have h2:=aH h1 aQ (gj a.k An a.ws.length ca) 28;have h3:=aH h2 aQ (gj b.k Bn b.ws.length cb) 28;have h4:=aH h3 aQ (gn 0 false none 0 0) 31;simp only[YN] at h4;have H4:=au h4;have b9:=au (fun W X (h:aI fh w X W)=>(show Below w.heap.size w W from h.mod.below (fun _ _ h=>h)));have KA:=au (fun W (J:Below w.heap.size w W)=>(kM (n:=a) (cn:=ca) (hT.below J) (hz.below J) (aT hA J) bh co).mono fun e w' h=>sO h);have KB:=au (fun W (J:Below w.heap.size w W)=>(kM (n:=b) (cn:=cb) (hT.below J) (hz.below J) (aT hB J) be cq).mono fun e w' h=>sO h);have cP:=au (fun (ar:bC T=true) (bd:eZ a=true) (hv3:eZ b=true) W (J:Below w.heap.size w W) (i j:Nat) (hi:i<a.ws.length) (hj:j<b.ws.length) (u v:WW) (hu:jk W (dX T a.k (wd a i)) u) (hv:jk W (dX T b.k (wd b j)) v)=>wF (hT.below J) (hz.below J) (co _ (lI hi)) (cq _ (lI hj)) (gI.2 ⟨(bR.1 bd).1 _ (lI hi),(bR.1 hv3).1 _ (lI hj),ar⟩) hu hv);have el:=au (fun W (J:Below w.heap.size w W)=>(show iR W T ta/\LZ W from⟨hT.below J,hz.below J⟩));have eo:=au co;have ej:=au cq;clear hT hz hA hB bh be co cq h1 h2 h3 h4;unfold eu ED at *
 unfold dh at *
 generalize T.rs.length=n1 at *
 generalize T.ds.length=n2 at *
 generalize T.es.length=n3 at *
 obtain⟨la,bh⟩:∃ la,la=a.ws.length:=⟨_,rfl⟩;obtain⟨lb,be⟩:∃ lb,lb=b.ws.length:=⟨_,rfl⟩;have a3:=au bh;have bf:=au be;rw[<-bh] at H4 KA ⊢;rw[<-be] at H4 KB ⊢;clear bh be;obtain⟨aA,ac,aD,ad,aE,ae⟩:=ta;dsimp only at H4 KA KB cP ⊢;generalize d3:(((w.alloc (.cells (fw aA n1 ac aD n2 ad aE n3 ae T.drop T.ord T.ini) 25)).alloc (.cells (gj a.k An la ca) 28)).alloc (.cells (gj b.k Bn lb cb) 28)).alloc (.cells (gn 0 false none 0 0) 31)=w4 at H4;generalize dB:w.heap.size+1=g4 at H4;generalize dF:g4+1=g5 at H4;generalize ea:g5+1=g6 at H4
 go_enter Tryz.func13,Tryz.ntmps13
 go_upto_region 1 with (fail);clear d3 dB dF ea;obtain⟨t0,t1,t2,t3,t4,t5⟩:=bZ H4.o.drop.drop.drop;obtain⟨s0,s1,sf⟩:=cZ H4.o.drop.drop;have dm:=au (KA.o w4 (b9.o _ _ H4.o));clear KA;go_wp2_with fail;refine dm.o.mono ?_;rintro e9 w5 ⟨xA,n,xc,xB,p,xd,o1,rfl,J,hov,hR⟩;have H5:=au (H4.o.below aQ J);have bm:=au hov;have cj:=au hR;clear dm J hov hR t0 t1 t2 t3 t4 t5 s0 s1 sf H4;have H6:=au (aH H5.o aQ (fL xA n xc xB p xd) 71);have cC:=au (show Below w5.heap.size w5 (w5.alloc (.cells (fL xA n xc xB p xd) 71)) from(YC _ _).alloc (YG _) _);dsimp only;go_upto_region 2 with (fail);generalize w5.alloc (.cells (fL xA n xc xB p xd) 71)=w6 at *
 clear H5;generalize dg:w5.heap.size=g8 at *
 have dl:=au dg;clear dg;obtain⟨t0,t1,t2,t3,t4,t5⟩:=bZ H6.o.drop.drop.drop.drop;obtain⟨s0,s1,sf⟩:=cZ H6.o.drop.drop;have cU:=au (KB.o w6 (b9.o _ _ H6.o));clear KB;go_wp2_with fail;refine cU.o.mono ?_;rintro e9 w7 ⟨yA,m,yc,yB,q,yd,o2,rfl,J,hov,hR⟩;have H7:=au (H6.o.below aQ J);have ao:=au hov;have cp:=au hR;have cE:=au (show Below w5.heap.size w5 w7 from by rw[dl.o];exact cC.o.trans (J.mono (YQ (o0 dl.o.symm) cC.o.size)));clear cU J hov hR t0 t1 t2 t3 t4 t5 s0 s1 sf H6 cC;have H8:=au (aH H7.o aQ (fL yA m yc yB q yd) 71);have d7:=au (show Below w7.heap.size w7 (w7.alloc (.cells (fL yA m yc yB q yd) 71))/\w5.heap.size<=w7.heap.size from⟨(YC _ _).alloc (YG _) _,cE.o.size⟩);dsimp only;go_upto_region 3 with (fail);generalize w7.alloc (.cells (fL yA m yc yB q yd) 71)=I at *
 clear H7;generalize dp:w7.heap.size=b5 at *
 have dL:=au dp;clear dp;cases o1 with
 | false=>
  have cJ:=au (fun W J=>Sc (w:=w) (W:=W) (T:=T) (a:=a) (b:=b) (by unfold qD;rw[<-mj,<-bm.o];rfl) J);obtain⟨z0,z1,z2⟩:=dZ H8.o.drop.drop;obtain⟨F6,ai⟩:=H8.o.drop.drop.fst;have zf:=aP ai;have h9:=rG (H8.o.perm (by ac_rfl:_=(aj (av g6 (gn 0 false none 0 0) 31) (aj (av b5 (fL yA m yc yB q yd) 71) (aj (av g8 (fL xA n xc xB p xd) 71) (aj (av g5 (gj b.k Bn lb cb) 28) (aj (av g4 (gj a.k An la ca) 28) (aj (av w.heap.size (fw aA n1 ac aD n2 ad aE n3 ae T.drop T.ord T.ini) 25) aS)))))))) aQ (.int .i64 0) (.bool false) (.slice none 0 0);have H9:=au h9;clear h9 ai F6 H8 cj cp bm ao;go_wp2;obtain⟨f2,a8⟩:=H9.o.fst;refine bodyPost_ret (MH rfl rfl a8.1 rfl) rfl ?_;exact cJ.o _ (b9.o _ _ H9.o)
 | true=>
  cases o2 with
  | false=>
   have cJ:=au (fun W J=>Sc (w:=w) (W:=W) (T:=T) (a:=a) (b:=b) (by unfold qD;rw[tj (eZ a),<-mj,<-ao.o];rfl) J);obtain⟨z0,z1,z2⟩:=dZ H8.o.drop.drop;obtain⟨F6,ai⟩:=H8.o.drop.drop.fst;have zf:=aP ai;have h9:=rG (H8.o.perm (by ac_rfl:_=(aj (av g6 (gn 0 false none 0 0) 31) (aj (av b5 (fL yA m yc yB q yd) 71) (aj (av g8 (fL xA n xc xB p xd) 71) (aj (av g5 (gj b.k Bn lb cb) 28) (aj (av g4 (gj a.k An la ca) 28) (aj (av w.heap.size (fw aA n1 ac aD n2 ad aE n3 ae T.drop T.ord T.ini) 25) aS)))))))) aQ (.int .i64 0) (.bool false) (.slice none 0 0);have H9:=au h9;clear h9 ai F6 H8 cj cp bm ao;go_wp2;obtain⟨f2,a8⟩:=H9.o.fst;refine bodyPost_ret (MH rfl rfl a8.1 rfl) rfl ?_;exact cJ.o _ (b9.o _ _ H9.o)
  | true=>
   obtain⟨hn,hp,en,eg,l1,a5⟩:=cj.o rfl;obtain⟨hm,hq,em,ek,l2,cS⟩:=cp.o rfl;obtain rfl:la=n:=hn.symm;obtain rfl:la=p:=hp.symm;obtain rfl:lb=m:=hm.symm;obtain rfl:lb=q:=hq.symm;have ar:bC T=true/\eZ a=true:=by have h1:=bm.o;rw[eq_comm,YF] at h1;exact h1
   have bd:eZ b=true:=by have h1:=ao.o;rw[eq_comm,YF] at h1;exact h1.2
   have bv:=au (show qD T a b=true from by unfold qD;rw[ar.1,ar.2,bd];rfl);have b4:Below w7.heap.size w7 I:=by rw[dL.o];exact d7.o.1
   have dE:=au ar.1;have d6:=au (bR.1 ar.2);have ec:=au (bR.1 bd);have eh:la<=6:=by rw[a3.o];exact d6.o.2.2
   have ei:lb<=6:=by rw[bf.o];exact ec.o.2.2
   have HN:=au (fun W (J:Below I.heap.size I W)=>(show xJ W T a l1 xA xB/\xJ W T b l2 yA yB from by
    have h7:Below w7.heap.size w7 W:=b4.trans (J.mono b4.size)
    exact⟨a5.below (cE.o.trans (h7.mono cE.o.size)),cS.below h7⟩))
   have d4:=au (fun i (hi:i<la)=>xL (HN.o I (YC _ _)).1 (i:=i) (by rw[<-a3.o];exact hi));have du:=au (fun i (hi:i<lb)=>xL (HN.o I (YC _ _)).2 (i:=i) (by rw[<-bf.o];exact hi));have de:Below w.heap.size w I:=b9.o _ _ H8.o;have KC:=au (fun W (J:Below I.heap.size I W) (i j:Nat) (hi:i<la) (hj:j<lb) (u v:WW) hu hv=>cP.o ar.1 ar.2 bd W (de.trans (J.mono de.size)) i j (by rw[<-a3.o];exact hi) (by rw[<-bf.o];exact hj) u v hu hv);clear cP;obtain⟨t0,t1,t2,t3,t4,t5⟩:=bZ H8.o.drop.drop.drop.drop.drop;obtain⟨x0,x1,-⟩:=cZ H8.o.drop;obtain⟨y0,y1,-⟩:=cZ H8.o;have ax:=au (fun W (J:Below I.heap.size I W)=>(show(iz W w.heap.size (.slice aA n1 ac) (.slice aD n2 ad) (.slice aE n3 ae) (.int .i64 T.drop) (.int .i64 T.ord) (.int .i64 T.ini))/\(ja W g8 (.slice xA la xc) (.slice xB la xd))/\(ja W b5 (.slice yA lb yc) (.slice yB lb yd)) from⟨⟨aF t0 J,aF t1 J,aF t2 J,aF t3 J,aF t4 J,aF t5 J⟩,⟨aF x0 J,aF x1 J⟩,aF y0 J,aF y1 J⟩));clear t0 t1 t2 t3 t4 t5 x0 x1 y0 y1 a5 cS ar bd b4 hn hp hm hq cj cp bm ao;have ef:∀ w:World,(Instr.makeMap 74 none).run Tryz.prog w=.ok (.map (some w.heap.size)) (w.alloc (.map #[] 0)):=fun w=>by kernel_rfl
   have cQ:=aH ((aI.begin I).fresh aO (lX (kv:=fP .i64) I)) aQ #[.map (some I.heap.size)] 74;simp only[YN] at cQ;have ct:=au cQ;clear cQ;go_upto_region 6 with (fail);generalize (I.alloc (.map #[] 0)).alloc (.cells #[.map (some I.heap.size)] 74)=df at *
   obtain⟨⟨t0,t1,t2,t3,t4,t5⟩,⟨x0,x1⟩,y0,y1⟩:=ax.o df ct.o.bN;clear ef;go_wp2_with (refine Asn.yH rfl (.tmp 48) rfl la ff (by simp[Act.eval]) ?_;refine held ?_);refine ia.mk fun dw hP=>?_;rw[<-Asn.AZ la (.slice none 0 0)] at hP;have c7:=ct.o.fresh aQ hP;generalize df.heap.size=go at *
   have cr:=au (Xi (T:=T) (a:=a) (b:=b) (m:=lb) (c7.perm (by ac_rfl:_=aj (aZ 40 1 (.slice (some ⟨go,0,none⟩) la la) la (List.replicate la (.slice none 0 0))) (aj (iE (fP .i64) I.heap.size []) (aj (av (I.heap.size+1) #[.map (some I.heap.size)] 74) aS)))));clear c7 hP ct t0 t1 t2 t3 t4 t5 x0 x1 y0 y1;obtain⟨⟨t0,t1,t2,t3,t4,t5⟩,⟨x0,x1⟩,y0,y1⟩:=ax.o dw cr.o.bN;go_wp2_with fail;clear t0 t1 t2 t3 t4 t5 x0 x1 y0 y1;go_loopw [53] (fun kk wr=>∃ i:Nat,kk=.int .i64 i/\i<=la/\aI fh I (aj (BI T a b lb la I.heap.size go i 0) (aj (av (I.heap.size+1) #[.map (some I.heap.size)] 74) aS)) wr) (fun kk _=>la-(intOf kk).toNat)
   case atStart=>exact⟨0,rfl,YE _,cr.o⟩
   case round=>
    obtain⟨i,rfl,hi,hR⟩:=hrel;have HR:=au hR;clear cr hR;obtain⟨⟨t0,t1,t2,t3,t4,t5⟩,⟨x0,x1⟩,y0,y1⟩:=ax.o wr HR.o.bN;by_cases ab:i<la
    ·obtain⟨u,xb,xo,dy,cg⟩:=d4.o i ab;have KI:=au (fun W J j hj v hu hv=>KC.o W J i j ab hj u v hu hv);obtain⟨uw,cW⟩:∃ uw,uw=dX T a.k (wd a i):=⟨_,rfl⟩;rw[<-cW] at cg KI;have d8:=au cg;obtain⟨-,c0,c1,c2⟩:=cg wr HR.o.bN;have cA:=au (aH HR.o aQ (fx uw u) 77);clear cg cW;subst dy;unfold qG nD at KI;go_upto_region 10 with (fail);generalize wr.alloc (.cells (fx uw u) 77)=dC at *
     generalize wr.heap.size=g15 at *
     clear c0 c1 c2 t0 t1 t2 t3 t4 t5 x0 x1 y0 y1 HR;obtain⟨⟨t0,t1,t2,t3,t4,t5⟩,⟨x0,x1⟩,y0,y1⟩:=ax.o dC cA.o.bN;have c6:=au (cA.o.perm (by ac_rfl:_=aj (BI T a b lb la I.heap.size go i 0) (aj (av g15 (fx uw u) 77) (aj (av (I.heap.size+1) #[.map (some I.heap.size)] 74) aS))));clear cA;go_wp2_with fail;clear t0 t1 t2 t3 t4 t5 x0 x1 y0 y1;go_loopw [61] (fun kk wr=>∃ j:Nat,kk=.int .i64 j/\j<=lb/\aI fh I (aj (BI T a b lb la I.heap.size go i j) (aj (av g15 (fx uw u) 77) (aj (av (I.heap.size+1) #[.map (some I.heap.size)] 74) aS))) wr) (fun kk _=>lb-(intOf kk).toNat)
     case atStart=>exact⟨0,rfl,YE _,c6.o⟩
     case round=>
      obtain⟨j,rfl,hj,hR⟩:=hrel;have HR:=au hR;clear c6 hR;obtain⟨⟨t0,t1,t2,t3,t4,t5⟩,⟨x0,x1⟩,y0,y1⟩:=ax.o _ HR.o.bN;by_cases bc:j<lb
      ·obtain⟨v,yb,yo,d5,cm⟩:=du.o j bc;obtain⟨vw,dc⟩:∃ vw,vw=dX T b.k (wd b j):=⟨_,rfl⟩;have KJ:=au (fun W J hu hv=>KI.o W J j bc v hu hv);rw[<-dc] at cm KJ;obtain⟨-,d0,d1,d2⟩:=cm _ HR.o.bN;have ed:=au (fun W J=>(cm W J).1);have a1:=au (aH HR.o aQ (fx vw v) 77);clear cm dc;subst d5;go_upto_region 13 with (fail);generalize wr.alloc (.cells (fx vw v) 77)=ci at *
       generalize wr.heap.size=aa at *
       clear d0 d1 d2 t0 t1 t2 t3 t4 t5 x0 x1 y0 y1 HR;obtain⟨⟨t0,t1,t2,t3,t4,t5⟩,⟨x0,x1⟩,y0,y1⟩:=ax.o ci a1.o.bN;obtain⟨u0,u1,u2⟩:=dZ a1.o.drop.drop;obtain⟨v0,v1,v2⟩:=dZ a1.o;have c8:=au (KJ.o ci a1.o.bN (d8.o ci a1.o.bN).1 (ed.o ci a1.o.bN));clear KJ;go_wp2_with fail;refine c8.o.mono ?_;rintro e9 ch ⟨A,pc,B,qc,rfl,hp⟩;have az:=au (a1.o.fresh aQ hp);clear c8 a1 hp t0 t1 t2 t3 t4 t5 x0 x1 y0 y1 u0 u1 u2 v0 v1 v2;have a6:=au (fun D=>(ay nM aQ:(aj (iP A pc B qc D) (aj (av aa (fx vw v) 77) (aj (BI T a b lb la I.heap.size go i j) (aj (av g15 (fx uw u) 77) (aj (av (I.heap.size+1) #[.map (some I.heap.size)] 74) aS))))).Ok));unfold og;cases ho:iB T a.k (wd a i) b.k (wd b j) with
       | none=>
        have HP:=au (show yZ T a b i j=⟨i,j,0,0,0,100000,LC⟩ from by unfold yZ;rw[ho]);rw[ho] at az;dsimp only[Option.getD_none,Option.isSome_none,CB,LC,Zz] at az ⊢;clear ho;have ba:=au (aH az.o (a6.o _) (fX 0 0 0 0 0 0 0 A 0 pc B 0 qc (bs [])) 44);clear az;go_upto_region 14 with (fail);generalize ch.alloc (.cells (fX 0 0 0 0 0 0 0 A 0 pc B 0 qc (bs [])) 44)=cw at *
        generalize ch.heap.size=V at *
        obtain⟨⟨p0,p1,p2,p3,p4⟩,⟨p5,p6,p7,p8,p9⟩,pf⟩:=bE ba.o;have bx:aI fh I (aj (av V (fX 0 0 0 0 0 100000 0 A 0 pc B 0 qc (bs [])) 44) _) _:=aJ ba.o (a6.o _) 5 (.int .i64 100000);have cd:aI fh I (aj (av V (fX (i:Int) 0 0 0 0 100000 0 A 0 pc B 0 qc (bs [])) 44) _) _:=aJ bx (a6.o _) 0 (.int .i64 (i:Int));have dd:aI fh I (aj (av V (fX (i:Int) (j:Int) 0 0 0 100000 0 A 0 pc B 0 qc (bs [])) 44) _) _:=aJ cd (a6.o _) 1 (.int .i64 (j:Int));have cf:=au (dd);clear bx cd dd;clear ba;go_upto_region 17 with (fail);generalize ((cw.setCell ⟨V,5,none⟩ (.int .i64 100000)).setCell ⟨V,0,none⟩ (.int .i64 (i:Int))).setCell ⟨V,1,none⟩ (.int .i64 (j:Int))=dT at *
        clear p0 p1 p2 p3 p4 p5 p6 p7 p8 p9 pf;obtain⟨E,zs,hE,af,bk⟩:=MC (cf.o.perm (by ac_rfl:_=aj (BI T a b lb la I.heap.size go i j) (aj (av V (fX (i:Int) (j:Int) 0 0 0 100000 0 A 0 pc B 0 qc (bs [])) 44) (aj (iP A pc B qc LC) (aj (av aa (fx vw v) 77) (aj (av g15 (fx uw u) 77) (aj (av (I.heap.size+1) #[.map (some I.heap.size)] 74) aS)))))));have am:=bk.perm (by ac_rfl:_=aj (iE (fP .i64) I.heap.size (E.map kC)) (aj (av (I.heap.size+1) #[.map (some I.heap.size)] 74) (aj (av V (fX (i:Int) (j:Int) 0 0 0 100000 0 A 0 pc B 0 qc (bs [])) 44) (aj (lZ (some ⟨go,0,none⟩) la zs) (aj (aR (E.map nC)) (aj (iP A pc B qc LC) (aj (av aa (fx vw v) 77) (aj (av g15 (fx uw u) 77) aS))))))));obtain⟨p0,p1,p2,p3,p4⟩:=(bE am.drop.drop).1;obtain⟨p5,p6,p7,p8,p9⟩:=(bE am.drop.drop).2.1;obtain⟨FG,a2⟩:=am.drop.fst;have m0:=aB (i:=0) a2 rfl;obtain⟨FM,aq,-,a4⟩:=am.take map_ok aQ;obtain⟨bu,bi,ag⟩:=oU J8 Tryz.underlying74 aq ((i:Int),(j:Int)) (.agg (fX (i:Int) (j:Int) 0 0 0 100000 0 A 0 pc B 0 qc (bs [])));have a9:=a4 _ _ ag;dsimp only[fP] at bi;have cG:zs.length=la:=by have:=congrArg List.length af;rw[YI,kg] at this;exact this
        have an:i<zs.length:=by omega
        have bb:=au (show zs[i].l=(List.range j).map (fun s=>cM T a b i s) from by
         have h1:(zs.map (·.l))[i]?=(uI T a b lb la i j)[i]?:=by rw[af]
         rw[Y6,YH an,YH (show i<(uI T a b lb la i j).length by rw[kg];exact ab)] at h1;injection h1 with h1
         exact h1.trans (RO ab _))
        obtain⟨bj,cz,fz⟩:=Ie an (a9.perm (by ac_rfl:_=aj (lZ (some ⟨go,0,none⟩) la zs) (aj (iE (fP .i64) I.heap.size (lG (E.map kC) ((i:Int),(j:Int)) (.agg (fX (i:Int) (j:Int) 0 0 0 100000 0 A 0 pc B 0 qc (bs []))))) (aj (av (I.heap.size+1) #[.map (some I.heap.size)] 74) (aj (av V (fX (i:Int) (j:Int) 0 0 0 100000 0 A 0 pc B 0 qc (bs [])) 44) (aj (aR (E.map nC)) (aj (iP A pc B qc LC) (aj (av aa (fx vw v) 77) (aj (av g15 (fx uw u) 77) aS)))))))));have q5:=(bE a9.drop.drop).2.1.1;have dq:(aR ((zs.eraseIdx i).map fI.ow)).Ok:=rE (fun A hA=>by obtain⟨z,_,rfl⟩:=List.mem_map.1 hA;exact eT);have b8:=au (bj.drew (ay eT aQ));have aw:=au (show zs[i].l.length=j from by rw[bb.o];simp);rw[aw.o] at cz
        have bz:=au (fun (cv:Int) (A9:fj) (c9:Nat) W (hcv:(⟨i,j,0,0,0,100000,LC⟩:Pr).c=cv) (h:aI fh I (aj (bM A9 c9 (zs[i].l++[cv])) (aj (aZ 40 1 (.slice (some ⟨go,0,none⟩) zs.length la) zs.length (zs.flatMap fI.cl)) (aj (aR ((zs.eraseIdx i).map fI.ow)) (aj (iE (fP .i64) I.heap.size (lG (E.map kC) ((i:Int),(j:Int)) (.agg (fX (i:Int) (j:Int) 0 0 0 100000 0 A 0 pc B 0 qc (bs []))))) (aj (av (I.heap.size+1) #[.map (some I.heap.size)] 74) (aj (av V (fX (i:Int) (j:Int) 0 0 0 100000 0 A 0 pc B 0 qc (bs [])) 44) (aj (aR (E.map nC)) (aj (iP A pc B qc LC) (aj (av aa (fx vw v) 77) (aj (av g15 (fx uw u) 77) aS)))))))))) W)=>(show aI fh I (aj (BI T a b lb la I.heap.size go i (j+1)) (aj (av g15 (fx uw u) 77) (aj (av (I.heap.size+1) #[.map (some I.heap.size)] 74) aS))) (W.setCell ⟨go,i,none⟩ (.slice A9 (j+1) c9)) from by
         have k1:=ME an (n:=j+1) (by rw[Yz,aw.o];rfl) aQ h;have k2:=MG (p:=⟨i,j,0,0,0,100000,LC⟩) (Y:=aj (av (I.heap.size+1) #[.map (some I.heap.size)] 74) (aj (av V (fX (i:Int) (j:Int) 0 0 0 100000 0 A 0 pc B 0 qc (bs [])) 44) (aj (av aa (fx vw v) 77) (aj (av g15 (fx uw u) 77) aS)))) HP.o hcv hE af ab bb.o (A:=A) (pc:=pc) (B:=B) (qc:=qc) (A9:=A9) (c9:=c9) (k1.perm (by show _=aj _ (aj (iE (fP .i64) I.heap.size (lG (E.map kC) ((i:Int),(j:Int)) (.agg (fX (i:Int) (j:Int) 0 0 0 100000 0 A 0 pc B 0 qc (bs []))))) (aj _ (aj (iP A pc B qc LC) _)));ac_rfl))
         exact(k2.perm (by ac_rfl:_=aj (aj (av V (fX (i:Int) (j:Int) 0 0 0 100000 0 A 0 pc B 0 qc (bs [])) 44) (av aa (fx vw v) 77)) (aj (BI T a b lb la I.heap.size go i (j+1)) (aj (av g15 (fx uw u) 77) (aj (av (I.heap.size+1) #[.map (some I.heap.size)] 74) aS))))).drop))
        have br:=au (fun (cv:Int) (A9:fj) (c9:Nat) W (h:aI fh I (aj (bM A9 c9 (zs[i].l++[cv])) (aj (aZ 40 1 (.slice (some ⟨go,0,none⟩) zs.length la) zs.length (zs.flatMap fI.cl)) (aj (aR ((zs.eraseIdx i).map fI.ow)) (aj (iE (fP .i64) I.heap.size (lG (E.map kC) ((i:Int),(j:Int)) (.agg (fX (i:Int) (j:Int) 0 0 0 100000 0 A 0 pc B 0 qc (bs []))))) (aj (av (I.heap.size+1) #[.map (some I.heap.size)] 74) (aj (av V (fX (i:Int) (j:Int) 0 0 0 100000 0 A 0 pc B 0 qc (bs [])) 44) (aj (aR (E.map nC)) (aj (iP A pc B qc LC) (aj (av aa (fx vw v) 77) (aj (av g15 (fx uw u) 77) aS)))))))))) W)=>MF an h);generalize zs[i].A=zA at *
        generalize zs[i].c=zc at *
        generalize zs[i].l=zl at *
        clear hE af a2 aq ag a4 bk am a9 bj cf cG an fz FG FM bb;go_upto_region 18 with (fail);clear bi m0 p0 p1 p2 p3 p4 p5 p6 p7 p8 p9;refine gW [8,9,11] [2,2,1,1,1,1,0,0,1,2,2,3] (fun w'=>w'.cell? ⟨go,i,none⟩=some (.slice zA j zc)/\w'.cell? ⟨V,5,none⟩=some (.int .i64 100000)) (fun w'=>w'.cell? ⟨go,i,none⟩=some (.slice zA j zc)) (fun _=>True) (fun _=>True) (fun _ h=>h.1) (fun _ _=>trivial) (fun _ h=>h) fi fi fi fi (by exact⟨cz,q5⟩) ?_
        (repeat((first|refine fu ft ft ?_|((first|refine dR (v:=?_) ft ft ?_ ?_|refine dS (v:=?_) ft ft ?_ ?_|refine dU (v:=?_) ft ft ?_ ?_|refine dV (v:=?_) ft ft ?_ ?_|refine dW (v:=?_) ft ft ?_ ?_);rotate_left;(focus(intro w' bo;go_simp;(try with_reducible rfl);done))));try simp only[Act.put,Yy,YA,YB]))
        refine jI rfl ft (fun K hK=>?_);go_wp2_with fail;have bw:(bu.drew.alloc (.cells (gb 100000) 3)).cell? ⟨go,i,none⟩=some (.slice zA j zc):=aF (w:=bu.drew) cz ((YC _ _).alloc (YG _) _);refine hK.o _ _ bw ?_;clear hK bw
        (repeat((first|refine fu ft ft ?_|((first|refine dR (v:=?_) ft ft ?_ ?_|refine dS (v:=?_) ft ft ?_ ?_|refine dU (v:=?_) ft ft ?_ ?_|refine dV (v:=?_) ft ft ?_ ?_|refine dW (v:=?_) ft ft ?_ ?_);rotate_left;(focus(intro w' bo;go_simp;(try with_reducible rfl);done))));try simp only[Act.put,Yy,YA,YB]))
        refine jJ rfl ft (fun K hK=>?_);refine Ig (.tmp 90) (.tmp 93) rfl (l:=zl) (i:=100000) aw.o rfl rfl ff aQ b8.o ?_;intro A9 c9 bp hr;have HE:=au (bz.o _ A9 c9 bp rfl hr);obtain⟨e0,e1⟩:=br.o _ A9 c9 bp hr;rw[aw.o] at e0;refine hK.o _ _ trivial ?_;clear hK hr bz br b8 cz q5
        (repeat((first|refine fu ft ft ?_|((first|refine dR (v:=?_) ft ft ?_ ?_|refine dS (v:=?_) ft ft ?_ ?_|refine dU (v:=?_) ft ft ?_ ?_|refine dV (v:=?_) ft ft ?_ ?_|refine dW (v:=?_) ft ft ?_ ?_);rotate_left;(focus(intro w' bo;go_simp;(try with_reducible rfl);done))));try simp only[Act.put,Yy,YA,YB]))
        refine mJ rfl ft (fun K hK=>?_);go_wp2_with fail;refine hK.o _ _ trivial (pW ?_);clear hK e0 e1;go_wp2_with fail
        go_roundw
        case rel=>exact⟨j+1,by go_num,bc,HE.o⟩
        case measure=>simp[intOf];omega
       | some p=>
        have HP:=au (show yZ T a b i j=⟨i,j,p.kd,p.l,p.r,p.c,p.d⟩ from by unfold yZ;rw[ho]);rw[ho] at az;dsimp only[qu,Option.isSome_some] at az ⊢;clear ho;have ba:=au (aH az.o (a6.o _) (gx p A pc B qc) 44);clear az;go_upto_region 14 with (fail);generalize ch.alloc (.cells (gx p A pc B qc) 44)=cw at *
        generalize ch.heap.size=V at *
        obtain⟨⟨p0,p1,p2,p3,p4⟩,⟨p5,p6,p7,p8,p9⟩,pf⟩:=bE ba.o;have bx:aI fh I (aj (av V (fX (i:Int) p.j p.kd p.l p.r p.c p.d.c A p.d.L.length pc B p.d.M.length qc (bs p.d.F)) 44) _) _:=aJ ba.o (a6.o _) 0 (.int .i64 (i:Int));have cd:aI fh I (aj (av V (ju i j p A pc B qc) 44) _) _:=aJ bx (a6.o _) 1 (.int .i64 (j:Int));have cf:=au (cd);clear bx cd;clear ba;go_upto_region 17 with (fail);generalize (cw.setCell ⟨V,0,none⟩ (.int .i64 (i:Int))).setCell ⟨V,1,none⟩ (.int .i64 (j:Int))=dT at *
        clear p0 p1 p2 p3 p4 p5 p6 p7 p8 p9 pf;obtain⟨E,zs,hE,af,bk⟩:=MC (cf.o.perm (by ac_rfl:_=aj (BI T a b lb la I.heap.size go i j) (aj (av V (ju i j p A pc B qc) 44) (aj (iP A pc B qc p.d) (aj (av aa (fx vw v) 77) (aj (av g15 (fx uw u) 77) (aj (av (I.heap.size+1) #[.map (some I.heap.size)] 74) aS)))))));have am:=bk.perm (by ac_rfl:_=aj (iE (fP .i64) I.heap.size (E.map kC)) (aj (av (I.heap.size+1) #[.map (some I.heap.size)] 74) (aj (av V (ju i j p A pc B qc) 44) (aj (lZ (some ⟨go,0,none⟩) la zs) (aj (aR (E.map nC)) (aj (iP A pc B qc p.d) (aj (av aa (fx vw v) 77) (aj (av g15 (fx uw u) 77) aS))))))));obtain⟨p0,p1,p2,p3,p4⟩:=(bE am.drop.drop).1;obtain⟨p5,p6,p7,p8,p9⟩:=(bE am.drop.drop).2.1;obtain⟨FG,a2⟩:=am.drop.fst;have m0:=aB (i:=0) a2 rfl;obtain⟨FM,aq,-,a4⟩:=am.take map_ok aQ;obtain⟨bu,bi,ag⟩:=oU J8 Tryz.underlying74 aq ((i:Int),(j:Int)) (.agg (ju i j p A pc B qc));have a9:=a4 _ _ ag;dsimp only[fP] at bi;have cG:zs.length=la:=by have:=congrArg List.length af;rw[YI,kg] at this;exact this
        have an:i<zs.length:=by omega
        have bb:=au (show zs[i].l=(List.range j).map (fun s=>cM T a b i s) from by
         have h1:(zs.map (·.l))[i]?=(uI T a b lb la i j)[i]?:=by rw[af]
         rw[Y6,YH an,YH (show i<(uI T a b lb la i j).length by rw[kg];exact ab)] at h1;injection h1 with h1
         exact h1.trans (RO ab _))
        obtain⟨bj,cz,fz⟩:=Ie an (a9.perm (by ac_rfl:_=aj (lZ (some ⟨go,0,none⟩) la zs) (aj (iE (fP .i64) I.heap.size (lG (E.map kC) ((i:Int),(j:Int)) (.agg (ju i j p A pc B qc)))) (aj (av (I.heap.size+1) #[.map (some I.heap.size)] 74) (aj (av V (ju i j p A pc B qc) 44) (aj (aR (E.map nC)) (aj (iP A pc B qc p.d) (aj (av aa (fx vw v) 77) (aj (av g15 (fx uw u) 77) aS)))))))));have q5:=(bE a9.drop.drop).2.1.1;have dq:(aR ((zs.eraseIdx i).map fI.ow)).Ok:=rE (fun A hA=>by obtain⟨z,_,rfl⟩:=List.mem_map.1 hA;exact eT);have b8:=au (bj.drew (ay eT aQ));have aw:=au (show zs[i].l.length=j from by rw[bb.o];simp);rw[aw.o] at cz
        have bz:=au (fun (cv:Int) (A9:fj) (c9:Nat) W (hcv:(⟨i,j,p.kd,p.l,p.r,p.c,p.d⟩:Pr).c=cv) (h:aI fh I (aj (bM A9 c9 (zs[i].l++[cv])) (aj (aZ 40 1 (.slice (some ⟨go,0,none⟩) zs.length la) zs.length (zs.flatMap fI.cl)) (aj (aR ((zs.eraseIdx i).map fI.ow)) (aj (iE (fP .i64) I.heap.size (lG (E.map kC) ((i:Int),(j:Int)) (.agg (ju i j p A pc B qc)))) (aj (av (I.heap.size+1) #[.map (some I.heap.size)] 74) (aj (av V (ju i j p A pc B qc) 44) (aj (aR (E.map nC)) (aj (iP A pc B qc p.d) (aj (av aa (fx vw v) 77) (aj (av g15 (fx uw u) 77) aS)))))))))) W)=>(show aI fh I (aj (BI T a b lb la I.heap.size go i (j+1)) (aj (av g15 (fx uw u) 77) (aj (av (I.heap.size+1) #[.map (some I.heap.size)] 74) aS))) (W.setCell ⟨go,i,none⟩ (.slice A9 (j+1) c9)) from by
         have k1:=ME an (n:=j+1) (by rw[Yz,aw.o];rfl) aQ h;have k2:=MG (p:=⟨i,j,p.kd,p.l,p.r,p.c,p.d⟩) (Y:=aj (av (I.heap.size+1) #[.map (some I.heap.size)] 74) (aj (av V (ju i j p A pc B qc) 44) (aj (av aa (fx vw v) 77) (aj (av g15 (fx uw u) 77) aS)))) HP.o hcv hE af ab bb.o (A:=A) (pc:=pc) (B:=B) (qc:=qc) (A9:=A9) (c9:=c9) (k1.perm (by show _=aj _ (aj (iE (fP .i64) I.heap.size (lG (E.map kC) ((i:Int),(j:Int)) (.agg (ju i j p A pc B qc)))) (aj _ (aj (iP A pc B qc p.d) _)));ac_rfl))
         exact(k2.perm (by ac_rfl:_=aj (aj (av V (ju i j p A pc B qc) 44) (av aa (fx vw v) 77)) (aj (BI T a b lb la I.heap.size go i (j+1)) (aj (av g15 (fx uw u) 77) (aj (av (I.heap.size+1) #[.map (some I.heap.size)] 74) aS))))).drop))
        have br:=au (fun (cv:Int) (A9:fj) (c9:Nat) W (h:aI fh I (aj (bM A9 c9 (zs[i].l++[cv])) (aj (aZ 40 1 (.slice (some ⟨go,0,none⟩) zs.length la) zs.length (zs.flatMap fI.cl)) (aj (aR ((zs.eraseIdx i).map fI.ow)) (aj (iE (fP .i64) I.heap.size (lG (E.map kC) ((i:Int),(j:Int)) (.agg (ju i j p A pc B qc)))) (aj (av (I.heap.size+1) #[.map (some I.heap.size)] 74) (aj (av V (ju i j p A pc B qc) 44) (aj (aR (E.map nC)) (aj (iP A pc B qc p.d) (aj (av aa (fx vw v) 77) (aj (av g15 (fx uw u) 77) aS)))))))))) W)=>MF an h);generalize zs[i].A=zA at *
        generalize zs[i].c=zc at *
        generalize zs[i].l=zl at *
        clear hE af a2 aq ag a4 bk am a9 bj cf cG an fz FG FM bb;go_upto_region 18 with (fail);clear bi m0 p0 p1 p2 p3 p4 p5 p6 p7 p8 p9;refine gW [8,9,11] [2,2,1,1,1,1,0,0,1,2,2,3] (fun w'=>w'.cell? ⟨go,i,none⟩=some (.slice zA j zc)/\w'.cell? ⟨V,5,none⟩=some (.int .i64 p.c)) (fun w'=>w'.cell? ⟨go,i,none⟩=some (.slice zA j zc)) (fun _=>True) (fun _=>True) (fun _ h=>h.1) (fun _ _=>trivial) (fun _ h=>h) fi fi fi fi (by exact⟨cz,q5⟩) ?_
        (repeat((first|refine fu ft ft ?_|((first|refine dR (v:=?_) ft ft ?_ ?_|refine dS (v:=?_) ft ft ?_ ?_|refine dU (v:=?_) ft ft ?_ ?_|refine dV (v:=?_) ft ft ?_ ?_|refine dW (v:=?_) ft ft ?_ ?_);rotate_left;(focus(intro w' bo;go_simp;(try with_reducible rfl);done))));try simp only[Act.put,Yy,YA,YB]))
        refine jI rfl ft (fun K hK=>?_);go_wp2_with fail;have bw:(bu.drew.alloc (.cells (gb p.c) 3)).cell? ⟨go,i,none⟩=some (.slice zA j zc):=aF (w:=bu.drew) cz ((YC _ _).alloc (YG _) _);refine hK.o _ _ bw ?_;clear hK bw
        (repeat((first|refine fu ft ft ?_|((first|refine dR (v:=?_) ft ft ?_ ?_|refine dS (v:=?_) ft ft ?_ ?_|refine dU (v:=?_) ft ft ?_ ?_|refine dV (v:=?_) ft ft ?_ ?_|refine dW (v:=?_) ft ft ?_ ?_);rotate_left;(focus(intro w' bo;go_simp;(try with_reducible rfl);done))));try simp only[Act.put,Yy,YA,YB]))
        refine jJ rfl ft (fun K hK=>?_);refine Ig (.tmp 90) (.tmp 93) rfl (l:=zl) (i:=p.c) aw.o rfl rfl ff aQ b8.o ?_;intro A9 c9 bp hr;have HE:=au (bz.o _ A9 c9 bp rfl hr);obtain⟨e0,e1⟩:=br.o _ A9 c9 bp hr;rw[aw.o] at e0;refine hK.o _ _ trivial ?_;clear hK hr bz br b8 cz q5
        (repeat((first|refine fu ft ft ?_|((first|refine dR (v:=?_) ft ft ?_ ?_|refine dS (v:=?_) ft ft ?_ ?_|refine dU (v:=?_) ft ft ?_ ?_|refine dV (v:=?_) ft ft ?_ ?_|refine dW (v:=?_) ft ft ?_ ?_);rotate_left;(focus(intro w' bo;go_simp;(try with_reducible rfl);done))));try simp only[Act.put,Yy,YA,YB]))
        refine mJ rfl ft (fun K hK=>?_);go_wp2_with fail;refine hK.o _ _ trivial (pW ?_);clear hK e0 e1;go_wp2_with fail
        go_roundw
        case rel=>exact⟨j+1,by go_num,bc,HE.o⟩
        case measure=>simp[intOf];omega
      ·obtain rfl:j=lb:=by omega
       have dt:=au (Xh HR.o);clear HR;go_wp2_with fail
       go_roundw
       case rel=>exact⟨i+1,by go_num,ab,((dt.o.perm (by ac_rfl:_=aj (av g15 (fx uw u) 77) (aj (BI T a b j la I.heap.size go (i+1) 0) (aj (av (I.heap.size+1) #[.map (some I.heap.size)] 74) aS)))).drop)⟩
       case measure=>simp[intOf];omega
    ·obtain rfl:la=i:=by omega
     obtain⟨E,zs,hE,af,cT⟩:=MC HR.o;have cD:=cT.perm (by ac_rfl:_=(aj (lZ (some ⟨go,0,none⟩) la zs) (aj (iE (fP .i64) I.heap.size (E.map kC)) (aj (aR (E.map nC)) (aj (av (I.heap.size+1) #[.map (some I.heap.size)] 74) aS)))));obtain⟨FZ,db⟩:=cD.fst;have hM:=RQ db;rw[af] at hM;have a5:=HN.o _ HR.o.bN;have KO:=au (Yq (c:=la) (d:=xd) (e:=yd) a3.o bf.o bv.o hM a5.1.dr a5.2.dr);have KM:=au (fun W (J:Below wr.heap.size wr W)=>anyM (c:=la) (d:=xd) (e:=yd) a3.o bf.o bv.o (hM.below J) (a5.1.dr.below J) (a5.2.dr.below J) eg);have dk:=au (show E.map (·.1)=Di T a b b.ws.length a.ws.length 0 from by rw[hE,a3.o,bf.o]);have da:=au cD;clear cT cD db FZ hM a5 hE af HR;go_wp2_with fail;refine KO.o.mono ?_;rintro e9 di ⟨A1,c1,rfl,J,hr1⟩;have cx:=au (da.o.below aQ J);have HO:=au hr1;have cY:=au (KM.o di J);clear KO KM da J hr1 t0 t1 t2 t3 t4 t5 x0 x1 y0 y1;obtain⟨⟨t0,t1,t2,t3,t4,t5⟩,⟨x0,x1⟩,y0,y1⟩:=ax.o di cx.o.bN;go_wp2_with fail;refine cY.o.mono ?_;rintro e9 a7 ⟨A2,c2,A3,n5,c3,A4,n6,c4,rfl,J,hr2⟩;have cX:=au (cx.o.below aQ J);have cL:Below a7.heap.size a7 (a7.alloc (.cells (gA (mU T a b) A2 (qR T a b).length c2 A3 n5 c3 A4 n6 c4) 85)):=(YC _ _).alloc (YG _) _;have ao:=au (show iD (a7.alloc (.cells (gA (mU T a b) A2 (qR T a b).length c2 A3 n5 c3 A4 n6 c4) 85)) A1 (tF T a b)/\iD (a7.alloc (.cells (gA (mU T a b) A2 (qR T a b).length c2 A3 n5 c3 A4 n6 c4) 85)) A2 (qR T a b) from⟨(HO.o.below J).below cL,hr2.below cL⟩);have a0:=au (aH cX.o aQ (gA (mU T a b) A2 (qR T a b).length c2 A3 n5 c3 A4 n6 c4) 85);clear cY cx HO J hr2 cL cX t0 t1 t2 t3 t4 t5 x0 x1 y0 y1;go_upto_region 24 with (fail);generalize a7.alloc (.cells (gA (mU T a b) A2 (qR T a b).length c2 A3 n5 c3 A4 n6 c4) 85)=b7 at *
     generalize a7.heap.size=ck at *
     obtain⟨⟨t0,t1,t2,t3,t4,t5⟩,⟨x0,x1⟩,y0,y1⟩:=ax.o b7 a0.o.bN;obtain⟨b0,b1,b2,b3,-⟩:=aY a0.o;obtain⟨FG,a2⟩:=(a0.o.perm (by ac_rfl:_=aj (av (I.heap.size+1) #[.map (some I.heap.size)] 74) (aj (av ck (gA (mU T a b) A2 (qR T a b).length c2 A3 n5 c3 A4 n6 c4) 85) (aj (lZ (some ⟨go,0,none⟩) la zs) (aj (iE (fP .i64) I.heap.size (E.map kC)) (aj (aR (E.map nC)) aS)))))).fst;have cN:=aB (i:=0) a2 rfl;obtain⟨FM,aq⟩:=(a0.o.perm (by ac_rfl:_=aj (iE (fP .i64) I.heap.size (E.map kC)) (aj (av (I.heap.size+1) #[.map (some I.heap.size)] 74) (aj (av ck (gA (mU T a b) A2 (qR T a b).length c2 A3 n5 c3 A4 n6 c4) 85) (aj (lZ (some ⟨go,0,none⟩) la zs) (aj (aR (E.map nC)) aS)))))).fst;have cH:=au (fun W (J:Below b7.heap.size b7 W) (x y:Int)=>Xm (map_ok.keep aq (fun i hi=>J.block i (map_ok.lt aq i hi))) x y);have cy:=au (Dc (w:=b7) (f:=eF E) (cc:=c2) ao.o.2 (by rw[Ih,<-a3.o];omega) cN cH.o (mU T a b+T.ord) true);have cI:=au (Dc (w:=b7) (f:=eF E) (cc:=c1) ao.o.1 (by rw[Ii,<-a3.o];omega) cN cH.o (nT T a b) false);have cR:=eY.1 (eU.1 dE.o).1.2.2.2.1;obtain⟨k1,k2,k3⟩:=Vp bv.o;have ee:=au (Ih (T:=T) (a:=a) (b:=b));have dA:=au (Ii (T:=T) (a:=a) (b:=b));have dj:=au (show iI T a b=if mU T a b+T.ord<nT T a b then ⟨mU T a b+T.ord,true,fD T a b 0 (qR T a b)⟩ else ⟨nT T a b,false,fD T a b 0 (tF T a b)⟩ from rfl);generalize mU T a b=ak at *
     generalize nT T a b=cV at *
     generalize qR T a b=al at *
     generalize tF T a b=ol at *
     clear cN aq FM a2 FG cH ao;obtain⟨o1,o2⟩:=cR;by_cases ab:ak+T.ord<cV
     ·have HX:=au (dj.o.trans (if_pos ab));clear cI;go_wp2_with fail;refine cy.o.mono ?_;rintro e9 eb ⟨A5,c5,rfl,hp⟩;have ce:=a0.o.fresh aQ hp;have b6:=H8.o.fresh aQ (ce.post (ay Bo aQ));have ap:=b6.perm (by ac_rfl:_=aj (av g6 (gn 0 false none 0 0) 31) (aj (o7 A5 c5 (picks (eF E) 0 al)) (aj (aR (E.map nC)) (aj (av ck (gA ak A2 al.length c2 A3 n5 c3 A4 n6 c4) 85) (aj (lZ (some ⟨go,0,none⟩) la zs) (aj (iE (fP .i64) I.heap.size (E.map kC)) (aj (av (I.heap.size+1) #[.map (some I.heap.size)] 74) (aj (av b5 (fL yA lb yc yB lb yd) 71) (aj (av g8 (fL xA la xc xB la xd) 71) (aj (av g5 (gj b.k Bn lb cb) 28) (aj (av g4 (gj a.k An la ca) 28) (aj (av w.heap.size (fw aA n1 ac aD n2 ad aE n3 ae T.drop T.ord T.ini) 25) (aj aS aS)))))))))))));obtain⟨z0,z1,z2⟩:=dZ ap;obtain⟨F6,ai⟩:=ap.fst;have zf:=aP ai;have bn:=au (rG ap aQ (.int .i64 (ak+T.ord)) (.bool true) (.slice A5 (picks (eF E) 0 al).length c5));clear ce b6 ap hp cy a0 H8 ai F6 t0 t1 t2 t3 t4 t5 x0 x1 y0 y1 b0 b1 b2 b3;go_wp2;obtain⟨f2,a8⟩:=bn.o.fst;refine bodyPost_ret (MH rfl rfl a8.1 rfl) rfl ?_;exact MI bv.o dk.o (o0 ee.o) HX.o bn.o
     ·have HX:=au (dj.o.trans (if_neg ab));clear cy;go_wp2_with fail;refine cI.o.mono ?_;rintro e9 eb ⟨A5,c5,rfl,hp⟩;have ce:=a0.o.fresh aQ hp;have b6:=H8.o.fresh aQ (ce.post (ay Bo aQ));have ap:=b6.perm (by ac_rfl:_=aj (av g6 (gn 0 false none 0 0) 31) (aj (o7 A5 c5 (picks (eF E) 0 ol)) (aj (aR (E.map nC)) (aj (av ck (gA ak A2 al.length c2 A3 n5 c3 A4 n6 c4) 85) (aj (lZ (some ⟨go,0,none⟩) la zs) (aj (iE (fP .i64) I.heap.size (E.map kC)) (aj (av (I.heap.size+1) #[.map (some I.heap.size)] 74) (aj (av b5 (fL yA lb yc yB lb yd) 71) (aj (av g8 (fL xA la xc xB la xd) 71) (aj (av g5 (gj b.k Bn lb cb) 28) (aj (av g4 (gj a.k An la ca) 28) (aj (av w.heap.size (fw aA n1 ac aD n2 ad aE n3 ae T.drop T.ord T.ini) 25) (aj aS aS)))))))))))));obtain⟨z0,z1,z2⟩:=dZ ap;obtain⟨F6,ai⟩:=ap.fst;have zf:=aP ai;have bn:=au (rG ap aQ (.int .i64 (cV)) (.bool false) (.slice A5 (picks (eF E) 0 ol).length c5));clear ce b6 ap hp cI a0 H8 ai F6 t0 t1 t2 t3 t4 t5 x0 x1 y0 y1 b0 b1 b2 b3;go_wp2;obtain⟨f2,a8⟩:=bn.o.fst;refine bodyPost_ret (MH rfl rfl a8.1 rfl) rfl ?_;exact MI bv.o dk.o (o0 dA.o) HX.o bn.o
end Go.Proofs.YtbnnlpjpnihheaaGreatDoor
namespace Go.CH.Mtc
open Go.CH.Scr Go.CH.eG
def wh(p:Pr)(z:Wy):Bool:=decide (z.kd=p.kd)&&(decide (z.l=p.l)&&decide (z.r=p.r))
variable{T:fy}{k k2:Int}{y:Bs}{p:Pr}{i:Nat}
theorem Ka{x:Bs}(h:∀ z ∈ gJ T k x k2 y,wh p z=false):¬ nU T k x k2 y p:=by
 rintro⟨w,h1,-⟩;have h2:=h w (Zf h1);have h3:=lR h1;unfold wh at h2;rw[h2] at h3;cases h3
theorem Sd{x:Bs}(hi:i<(gJ T k x k2 y).length)(h:∀ z ∈ (gJ T k x k2 y).take i,wh p z=false)(M:wh p (gJ T k x k2 y)[i]=true):nU T k x k2 y p↔p.c=(gJ T k x k2 y)[i].c+p.d.c/\tX T k (gJ T k x k2 y)[i].x k2 (gJ T k x k2 y)[i].y p.d:=by
 have J:(gJ T k x k2 y).find? (fun w=>decide (w.kd=p.kd)&&(decide (w.l=p.l)&&decide (w.r=p.r)))=some (gJ T k x k2 y)[i]:=by
  rw[ZU];refine⟨M,i,hi,rfl,fun j V=>?_⟩;have:=h (gJ T k x k2 y)[j] (List.mem_take_iff_getElem.2 ⟨j,by omega,rfl⟩);unfold wh at this;rw[this];rfl
 unfold nU;constructor
 ·rintro⟨w,q,F,I⟩;rw[J] at q;injection q with q
  subst q;exact⟨F,I⟩
 ·rintro⟨F,I⟩;exact⟨_,J,F,I⟩
theorem Bq{T:fy}(q:bC T=true){k:Int}{l:List Bs}:∀ (ks:List Int) (i:Nat) {F:Bs} {c:Int} {e:Nat},i<=l.length->kX l (fK T.rs k) ks i=some (F,c,e)->ks.length+i<=e/\e<=l.length/\0<=c/\c<=ks.length*1000
 | [],i,F,c,e,hi,h=>by
  unfold kX at h;injection h with h
  injection h with h1 h2
  injection h2 with h2 h3
  subst h2 h3;simp[hi]
 | x::ks,i,F,c,e,hi,h=>by
  unfold kX at h;split at h
  ·cases h
  ·rename_i r I;split at h
   ·rename_i p;rw[py] at h;obtain⟨z,V,J⟩:=h;obtain⟨zF,zc,ze⟩:=z;injection J with h1 h2
    injection h2 with h2 h3
    unfold jw at p;rw[YF,decide_eq_true_eq] at p;obtain⟨a1,a2,a3,a4⟩:=Bq q ks (i+r.f.length) p.1 V;have hm:=Zf I;have b1:=Gj hm;obtain⟨R,b2,-,-,b3⟩:=vE hm;have M:R ∈ T.rs:=Za (List.mem_zipIdx_iff_getElem?.1 b2);have b5:=eY.1 (rU.1 ((iV.1 (eU.1 q).2.1).2 R M)).2.2;have b6:r.c=R.c:=by rw[b3]
    simp only at h2 h3;rw[YR];refine⟨by omega,by omega,by omega,?_⟩;rw[ma,ml];omega
   ·cases h
theorem mZ{x:Bs}{d:Dv}(h:tX T k x k2 y d):0<=d.c/\d.c<=24000/\d.L.length<=12/\d.M.length<=12:=by
 obtain⟨p,F,c1,c2,V,h2,-,I⟩:=h;obtain⟨J,e2,q⟩:=gI.1 p;have z:=(eH.1 (iA J)).2.2;have l2:=(eH.1 (iA e2)).2.2;obtain⟨a1,a2,a3,a4⟩:=Bq q d.L 0 (YE _) V;obtain⟨b1,b2,b3,b4⟩:=Bq q d.M 0 (YE _) h2;have ab:(bP T k x k2 y).l.length<=12:=z;have aa:(bP T k x k2 y).m.length<=12:=l2;rw[<-I];omega
end Go.CH.Mtc
namespace Go.Proofs.YtbnnlpjpnihheaaGreatDoor
open Go.RowKit Go.CH Go.CH.Scr Go.CH.eG Go.CH.Mtc
open Go.ChangeMaps (setBlock)
attribute [local go_sem] Zi
variable{w:World}{g g8 i:Nat}{ws:List Wy}{p:Pr}{X:CH.bq}{T:fy}{k k2:Int}{y:Bs}{A:fj}
theorem VR{tmps:Array Value}{b:Bool}(h:tmps.getD 8 undef=.pointer (some ⟨g,0,none⟩))(z:w.cell? ⟨g,0,none⟩=some (.bool b)):(results Tryz.f39 tmps).run Tryz.prog w=.ok (.bool b) w:=by
 have p:tmps[8]?.getD undef=.pointer (some ⟨g,0,none⟩):=by simpa using h
 have q:=pq (P:=Tryz.prog) w g 4 b z Tryz.underlying4;simp only[results,Tryz.results39];simp[Zk,Result.andThen,p,asAddr,q]
def Xo(ws:List Wy)(p:Pr)(g8:Nat)(X:CH.bq)(i:Nat):CH.bq:=yU (∀ z ∈ ws.take i,wh p z=false) (aj (av g8 (gE false) 4) X)
def Ye(q:Bool->Prop)(g8:Nat)(c:Code):CH.bq:=pG fun b:Bool=>yU (c=.ret/\q b) (av g8 (gE b) 4)
theorem Ev(hX:X.Ok):(Xo ws p g8 X i).Ok:=iW (ay aC hX)
instance {ws:List Wy} {p:Pr} {g8 i:Nat} {X:CH.bq} [hX:X.Ok]:(Xo ws p g8 X i).Ok:=Ev hX
theorem Sg{q:Bool->Prop}{c:Code}:(Ye q g8 c).Ok:=eO fun _=>iW aC
instance {q:Bool→Prop} {g8:Nat} {c:Code}:(Ye q g8 c).Ok:=Sg
theorem Si(hi:i<ws.length)(h:∀ z ∈ ws.take i,wh p z=false)(hz:wh p ws[i]=false):∀ z ∈ ws.take (i+1),wh p z=false:=by
 intro z hm;rw[YD hi] at hm;rcases List.mem_append.1 hm with hm|hm
 ·exact h z hm
 ·rw[qk] at hm;rw[hm];exact hz
def Ke(w:World)(T:fy)(k:Int)(x:Bs)(k2:Int)(y:Bs)(p:Pr)(e:Ending)(w':World):Prop:=∃ b:Bool,e=.returned (.bool b)/\(b=true↔nU T k x k2 y p)/\Below w.heap.size w w'
theorem Dl{ta:TA}(hT:iR w T ta)(hz:LZ w){x:Bs}(hx:x.length<=1000000)(hy:y.length<=1000000)(a8:okW T k x k2 y=true){a c:WW}(hu:jk w (dX T k x) a)(hv:jk w (dX T k2 y) c){B:fj}{pc qc:Nat}(hA:iD w A p.d.L)(hB:iD w B p.d.M)(hl:p.d.L.length<=1000)(hm:p.d.M.length<=1000):
  Calls Tryz.prog 39 #[eu T ta,qG (dX T k x) a,qG (dX T k2 y) c,.agg (og p A pc B qc)] w (Ke w T k x k2 y p):=by
 obtain⟨a1,a4,F⟩:=gI.1 a8;have h1:=aH (aI.begin w) aO (dh T ta) 25;have h2:=aH h1 aQ (nD (dX T k x) a) 77;have h3:=aH h2 aQ (nD (dX T k2 y) c) 77;have h4:=aH h3 aQ (og p A pc B qc) 44;have h5:=aH h4 aQ (gE false) 4;simp only[YN] at h5;have H5:=au h5;have a6:=au (fun W X (h:aI fh w X W)=>(show Below w.heap.size w W from h.mod.below (fun _ _ h=>h)));have a7:=au (fun b1 b2 b3=>Dp (u:=dX T k x) (v:=dX T k2 y) (a:=a) (c:=c) (T:=T) (t:=ta) (b1:=b1) (b2:=b2) (b3:=b3) (gV a1).1 (gV a4).1 (YQ (lq F) ff) (YQ (lq F) ff) (fun z hz=>kZ F hz) (fun z hz=>kZ F hz) (YQ (gV a1).2 ff) (YQ (gV a4).2 ff));have bo:=au (fun W (hm:Mod fh w W)=>(show Xq (dX T k x) (dX T k2 y) a c W from⟨hu.below (hm.below (fun _ _ h=>h)),hv.below (hm.below (fun _ _ h=>h))⟩));have bk:=au (show gy T.ini (dX T k x).vs (dX T k2 y).vs (dX T k x).ls (dX T k2 y).ls=gJ T k x k2 y from rfl);have KB:=au (fun W (hb:Below w.heap.size w W) (z:Wy) (af:z ∈ gJ T k x k2 y)=>Jo (hT.below hb) (hz.below hb) k z.x k2 z.y (YQ (wD af).1 hx) (YQ (wD af).2 hy) (d:=p.d) (ac:=pc) (bc:=qc) (hA.below hb) (hB.below hb) hl hm);have KW:=au (fun W=>Iy (u:=dX T k x) (v:=dX T k2 y) (a:=a) (c:=c) (T:=T) (t:=ta) W);have b6:=au (fun (z:Wy) (af:z ∈ gJ T k x k2 y)=>vC F af);have HK:=au (show(dX T k x).k=k/\(dX T k2 y).k=k2 from⟨rfl,rfl⟩);have bj:=au (fun h=>Ka (T:=T) (k:=k) (k2:=k2) (x:=x) (y:=y) (p:=p) h);have bx:=au (fun i hi h hz=>Sd (T:=T) (k:=k) (k2:=k2) (x:=x) (y:=y) (p:=p) (i:=i) hi h hz);have ax:=au (fun W (b:Bool) (h1:b=true↔nU T k x k2 y p) (hb:Below w.heap.size w W)=>(show Ke w T k x k2 y p (.returned (.bool b)) W from⟨b,rfl,h1,hb⟩));generalize Ke w T k x k2 y p=b9 at *
 clear hT hz hx hy a8 hu hv a1 a4 F h1 h2 h3 h4 h5 hA hB hl hm;generalize nU T k x k2 y p=RP at *
 generalize gJ T k x k2 y=ws at *
 generalize dX T k x=u at *
 generalize dX T k2 y=v at *
 unfold qG eu og at *
 unfold nD dh at *
 generalize T.rs.length=n1 at *
 generalize T.ds.length=n2 at *
 generalize T.es.length=n3 at *
 obtain⟨aA,ac,aD,ad,J,V⟩:=ta;dsimp only at H5 KB ⊢;refine(callsIn_wide (n:=8)).1 ?_;refine callsIn_of_wp_marks Tryz.func39 rfl trivial ?_ rfl;simp only[Tryz.ntmps39,kz,YR,Zz,Nat.reduceAdd,Nat.reduceSub,ZN,ZO,kB,ZX,Z8,Zq];refine(wpIn_wide (n:=8)).2 ?_;go_upto_region 1 with (fail);generalize ((((w.alloc (.cells (fw aA n1 ac aD n2 ad J n3 V T.drop T.ord T.ini) 25)).alloc (.cells (fx u a) 77)).alloc (.cells (fx v c) 77)).alloc (.cells (gx p A pc B qc) 44)).alloc (.cells (gE false) 4)=w5 at *
 generalize w.heap.size+1+1+1+1=I at *
 generalize w.heap.size+1+1+1=g7 at *
 generalize w.heap.size+1+1=g6 at *
 generalize w.heap.size+1=g5 at *
 generalize b5:w.heap.size=g4 at H5 ⊢;clear b5;obtain⟨t0,t1,t2,t3,t4,t5⟩:=bZ H5.o.drop.drop.drop.drop;obtain⟨u0,u1,u2⟩:=dZ H5.o.drop.drop.drop;obtain⟨v0,v1,v2⟩:=dZ H5.o.drop.drop;have ba:=au (KW.o w5);clear KW;go_wp2_with fail;refine ba.o.mono ?_;rintro e9 w6 ⟨b1,b2,b3,rfl,hp⟩;have H6:=au (H5.o.fresh aQ hp);clear ba H5 hp t0 t1 t2 t3 t4 t5 u0 u1 u2 v0 v1 v2;dsimp only;go_wp2_with fail;have az:=au (a7.o b1 b2 b3);rw[bk.o] at az;clear a7;have h8:aI fh w (aj (Xo ws p I (aj (av g7 (gx p A pc B qc) 44) (aj (av g6 (fx v c) 77) (aj (av g5 (fx u a) 77) (aj (av g4 (fw aA n1 ac aD n2 ad J n3 V T.drop T.ord T.ini) 25) aS)))) 0) (Zy u v a c T ⟨aA,ac,aD,ad,J,V⟩ b1 b2 b3)) w6:=aI.kD (fun z hz=>by rw[k8] at hz;cases hz) (H6.o.perm (by ac_rfl));have bh:=au h8.swap;clear h8 H6;have be:∀ (i:Nat) (a':Act),(pG fun g9:Nat=>pG fun z:Wy=>yU (ws[i]?=some z/\a'={ tmps:=#[.agg (fw aA n1 ac aD n2 ad J n3 V T.drop T.ord T.ini),.agg (fx u a),.agg (fx v c),.agg (gx p A pc B qc),.pointer (some ⟨g4,0,none⟩),.pointer (some ⟨g5,0,none⟩),.pointer (some ⟨g6,0,none⟩),.pointer (some ⟨g7,0,none⟩),.pointer (some ⟨I,0,none⟩),.pointer (some ⟨g9,0,none⟩),.agg (fw aA n1 ac aD n2 ad J n3 V T.drop T.ord T.ini),.agg (fx u a),.agg (fx v c),XZ b1 b2 b3,.agg (kr z),undef,undef,undef,undef,undef,undef,undef,undef,undef,undef,undef,undef,undef,undef,undef,undef,undef,undef,undef,undef,undef,undef,undef,undef,undef,undef,undef,undef,undef,undef,undef,undef,undef,undef,undef,undef,undef,undef,undef,undef,undef,undef,undef,undef,undef,undef],defers:=[] }) (aj (av g9 (kr z) 119) (Xo ws p I (aj (av g7 (gx p A pc B qc) 44) (aj (av g6 (fx v c) 77) (aj (av g5 (fx u a) 77) (aj (av g4 (fw aA n1 ac aD n2 ad J n3 V T.drop T.ord T.ini) 25) aS)))) i))).Ok:=fun i a'=>eO fun g9=>eO fun z=>iW (ay aC (Ev aQ));refine qd (gf:=93) (lb:=(mr (some ⟨b1,0,none⟩) (some ⟨b2,0,none⟩) (some ⟨b3,0,none⟩))) rfl (enters_of Tryz.func93 fi rfl) az.o kG (fun _=>rfl) bo.o (fun i=>Xo ws p I (aj (av g7 (gx p A pc B qc) 44) (aj (av g6 (fx v c) 77) (aj (av g5 (fx u a) 77) (aj (av g4 (fw aA n1 ac aD n2 ad J n3 V T.drop T.ord T.ini) 25) aS)))) i) (Ye (fun b=>b=true↔RP) I) (fun i=>Ev aQ) _ be (fun _=>Sg) bh.o ?_ ?_ ?_ ?_
 ·intro lo m i hi R' W1 K hR hI hK;have h3:=aH hI (ay (Ev aQ) hR) (kr ws[i]) 119;have HF:=au (hK { tmps:=#[.agg (fw aA n1 ac aD n2 ad J n3 V T.drop T.ord T.ini),.agg (fx u a),.agg (fx v c),.agg (gx p A pc B qc),.pointer (some ⟨g4,0,none⟩),.pointer (some ⟨g5,0,none⟩),.pointer (some ⟨g6,0,none⟩),.pointer (some ⟨g7,0,none⟩),.pointer (some ⟨I,0,none⟩),.pointer (some ⟨W1.heap.size,0,none⟩),.agg (fw aA n1 ac aD n2 ad J n3 V T.drop T.ord T.ini),.agg (fx u a),.agg (fx v c),XZ b1 b2 b3,.agg (kr ws[i]),undef,undef,undef,undef,undef,undef,undef,undef,undef,undef,undef,undef,undef,undef,undef,undef,undef,undef,undef,undef,undef,undef,undef,undef,undef,undef,undef,undef,undef,undef,undef,undef,undef,undef,undef,undef,undef,undef,undef,undef,undef,undef,undef,undef,undef,undef],defers:=[] } _ (aI.uf W1.heap.size (aI.uf ws[i] (aI.kD ⟨YH hi,rfl⟩ (h3.perm (by ac_rfl))))));clear hI h3 hK;unfold Kh;generalize ws[i]=z at *
  obtain⟨ai,zl,zr,zc,zx,zy⟩:=z;unfold kr;unfold kr at HF;dsimp only at HF;dsimp only;gi_wp2;exact HF.o
 ·intro lo m i hi a' R' W1 hR hI;obtain⟨g9,h1⟩:=hI.ex;obtain⟨z,h1⟩:=h1.ex;obtain⟨⟨a2,rfl⟩,h2⟩:=h1.pure;have an:ws[i]=z:=by rw[YH hi] at a2;injection a2
  have af:z ∈ ws:=by rw[<-an];exact YL hi
  obtain⟨ag,h3⟩:=(h2.perm (by ac_rfl:_=aj (Xo ws p I (aj (av g7 (gx p A pc B qc) 44) (aj (av g6 (fx v c) 77) (aj (av g5 (fx u a) 77) (aj (av g4 (fw aA n1 ac aD n2 ad J n3 V T.drop T.ord T.ini) 25) aS)))) i) (aj (av g9 (kr z) 119) R'))).pure;have aa:=au (fun hz=>Si hi ag (by rw[an];exact hz));have q:=au (fun hz=>by have:=bx.o i hi ag (by rw[an];exact hz);rw[an] at this;exact this);have bm:=au hR;have H3:=au (h3.perm (by ac_rfl:_=(aj (av g9 (kr z) 119) (aj (av I (gE false) 4) (aj (av g7 (gx p A pc B qc) 44) (aj (av g6 (fx v c) 77) (aj (av g5 (fx u a) 77) (aj (av g4 (fw aA n1 ac aD n2 ad J n3 V T.drop T.ord T.ini) 25) (aj R' aS)))))))));have b4:=b6.o z af;have aw:=au (KB.o W1 (a6.o _ _ H3.o) z af);rw[<-HK.o.1,<-HK.o.2] at aw;clear hI h1 h2 h3 a2 an af hi ag hR;obtain⟨ai,zl,zr,zc,zx,zy⟩:=z;unfold kr at H3 ⊢;dsimp only at H3 b4 aw aa q ⊢;obtain⟨⟨bv,bu,br,bz,bn,ca⟩,⟨b0,bp,bw,bi,b8,b7⟩,wf⟩:=wE H3.o;obtain⟨⟨p0,p1,p2,p3,p4⟩,⟨p5,p6,p7,p8,p9⟩,pf⟩:=bE H3.o.drop.drop;have ar:=au (fun (hn:∀ z ∈ ws.take (i+1),wh p z=false)=>(show aI fh w (aj (Xo ws p I (aj (av g7 (gx p A pc B qc) 44) (aj (av g6 (fx v c) 77) (aj (av g5 (fx u a) 77) (aj (av g4 (fw aA n1 ac aD n2 ad J n3 V T.drop T.ord T.ini) 25) aS)))) (i+1)) R') W1 from aI.kD hn (H3.o.drop.perm (by ac_rfl:_=aj (aj (av I (gE false) 4) (aj (av g7 (gx p A pc B qc) 44) (aj (av g6 (fx v c) 77) (aj (av g5 (fx u a) 77) (aj (av g4 (fw aA n1 ac aD n2 ad J n3 V T.drop T.ord T.ini) 25) aS))))) R'))));by_cases al:ai=p.kd
  ·have t1:(ai==p.kd)=true:=by simp[al]
   by_cases am:zl=p.l
   ·have t2:(zl==p.l)=true:=by simp[am]
    by_cases ao:zr=p.r
    ·have t3:(zr==p.r)=true:=by simp[ao]
     have HY:=au (q.o (by unfold wh;simp[al,am,ao]));clear al am ao q aa ar;refine wpIn_block (wpIn_seq (fC rfl (fun⟨a,w,h⟩=>h) ?_));go_wp2_with fail
     iterate 2 gi_step
     clear bv bu br bz bn b0 bp bw bi p0 p1 p2 p3 p4 t1 t2 t3;have H4:=au (H3.o.perm (by ac_rfl:_=aj (av I (gE false) 4) (aj (av g9 (im 0 0 ai zl zr zc 0 none 0 0 none 0 0 ⟨#[]⟩ (bs zx) (bs zy)) 119) (aj (aj (av g7 (gx p A pc B qc) 44) (aj (av g6 (fx v c) 77) (aj (av g5 (fx u a) 77) (aj (av g4 (fw aA n1 ac aD n2 ad J n3 V T.drop T.ord T.ini) 25) aS)))) R'))));have a5:=au (ay aC (ay aQ bm.o):(aj (av g9 (im 0 0 ai zl zr zc 0 none 0 0 none 0 0 ⟨#[]⟩ (bs zx) (bs zy)) 119) (aj (aj (av g7 (gx p A pc B qc) 44) (aj (av g6 (fx v c) 77) (aj (av g5 (fx u a) 77) (aj (av g4 (fw aA n1 ac aD n2 ad J n3 V T.drop T.ord T.ini) 25) aS)))) R')).Ok);obtain⟨t0,t1,t2,t3,t4,t5⟩:=bZ H3.o.drop.drop.drop.drop.drop;obtain⟨u0,u1,u2⟩:=dZ H3.o.drop.drop.drop.drop;obtain⟨v0,v1,v2⟩:=dZ H3.o.drop.drop.drop;obtain⟨s,hs⟩:∃ s,wrap64 (zc+p.d.c)=s:=⟨_,rfl⟩;have bd:=au (show 0<=p.d.c->p.d.c<=100000->s=zc+p.d.c from fun h1 h2=>by rw[<-hs];exact Zr _ ff);have hF:∀ (b:Bool) W,Below W1.heap.size W1 W->aI fh w (aj (Ye (fun b=>b=true↔RP) I .ret) R') (W.setCell ⟨I,0,none⟩ (.bool b))\/¬ (b=true↔RP):=fun b W hb=>by
      by_cases hq:b=true↔RP
      ·have h5:aI fh w (aj (av I (gE b) 4) _) _:=aJ (H4.o.below (ay aC a5.o) hb) a5.o 0 (.bool b);exact .inl (aI.uf b (aI.kD ⟨rfl,hq⟩ ((h5.perm (by ac_rfl:_=aj (aj (av g9 (im 0 0 ai zl zr zc 0 none 0 0 none 0 0 ⟨#[]⟩ (bs zx) (bs zy)) 119) (aj (av g7 (gx p A pc B qc) 44) (aj (av g6 (fx v c) 77) (aj (av g5 (fx u a) 77) (aj (av g4 (fw aA n1 ac aD n2 ad J n3 V T.drop T.ord T.ini) 25) aS))))) (aj (av I (gE b) 4) R'))).drop)))
      ·exact .inr hq
     have bf:=au hF;clear hF;refine wpIn_seq (fC rfl (fun⟨a,w,h⟩=>h) ?_);obtain⟨FB,a3⟩:=H4.o.fst;have q0:=aB (i:=0) a3 rfl;have qf:=aP a3;by_cases ak:p.c=s
     ·have t6:(p.c==s)=true:=by simp[ak]
      go_wp2_with fail;refine aw.o.mono ?_;rintro e9 w2 ⟨bb,rfl,hbb,hb⟩;have H5:=au (H4.o.below (ay aC a5.o) hb);obtain⟨FC,a9⟩:=H5.o.fst;have r0:=aB (i:=0) a9 rfl;have rf:=aP a9;clear q0 qf a3 FB aw;have ab:bb=true↔RP:=by
       rw[HK.o.1,HK.o.2] at hbb;rw[hbb,HY.o];constructor
       ·intro h;obtain⟨c1,c2,-,-⟩:=mZ h;exact⟨by rw[ak,bd.o c1 ff],h⟩
       ·exact fun h=>h.2
      have HE:=au ((bf.o bb w2 hb).resolve_right (fun h=>h ab));clear ab hbb ak;go_wp2_with fail;gi_wp2;exact HE.o
     ·have t6:(p.c==s)=false:=by simp[ak]
      have ab:false=true↔RP:=by
       constructor
       ·intro h;cases h
       ·intro h;obtain⟨h1,h2⟩:=HY.o.1 h;obtain⟨c1,c2,-,-⟩:=mZ h2;exact absurd (by rw[h1,bd.o c1 ff]) ak
      have HE:=au ((bf.o false W1 (YC _ _)).resolve_right (fun h=>h ab));clear ab ak;go_wp2_with fail;gi_wp2;exact HE.o
    ·have t3:(zr==p.r)=false:=by simp[ao]
     have HN:=au (aa.o (by unfold wh;simp[ao]));clear q aa;refine wpIn_block (wpIn_seq (fC rfl (fun⟨a,w,h⟩=>h) ?_));go_wp2_with fail;gi_wp2;exact ar.o HN.o
   ·have t2:(zl==p.l)=false:=by simp[am]
    have HN:=au (aa.o (by unfold wh;simp[am]));clear q aa;refine wpIn_block (wpIn_seq (fC rfl (fun⟨a,w,h⟩=>h) ?_));go_wp2_with fail;gi_wp2;exact ar.o HN.o
  ·have t1:(ai==p.kd)=false:=by simp[al]
   have HN:=au (aa.o (by unfold wh;simp[al]));clear q aa;refine wpIn_block (wpIn_seq (fC rfl (fun⟨a,w,h⟩=>h) ?_));go_wp2_with fail;gi_wp2;exact ar.o HN.o
 ·intro D R W1 hR hI;obtain⟨ag,h3⟩:=hI.pure;rw[YO] at ag;have HN:=au (bj.o ag);have h4:=h3.perm (by ac_rfl:_=aj (av I (gE false) 4) (aj (aj (av g7 (gx p A pc B qc) 44) (aj (av g6 (fx v c) 77) (aj (av g5 (fx u a) 77) (aj (av g4 (fw aA n1 ac aD n2 ad J n3 V T.drop T.ord T.ini) 25) aS)))) (aj (bQ D (.deferred (some []))) R)));obtain⟨F8,a0⟩:=h4.fst;have q0:=aB (i:=0) a0 rfl;have qf:=aP a0;have h5:aI fh w (aj (av I (gE false) 4) _) _:=aJ h4 aQ 0 (.bool false);have h6:=h5.perm (by ac_rfl:_=aj (bQ D (.deferred (some []))) (aj (av I (gE false) 4) (aj (aj (av g7 (gx p A pc B qc) 44) (aj (av g6 (fx v c) 77) (aj (av g5 (fx u a) 77) (aj (av g4 (fw aA n1 ac aD n2 ad J n3 V T.drop T.ord T.ini) 25) aS)))) R)));obtain⟨FD,hD,-,aq⟩:=h6.take bX (ay aC (ay aQ hR));have HD:=au hD.1;have h8:=aq _ _ (ji hD (.deferred none));obtain⟨F9,ap⟩:=h8.drop.fst;have HC:=au (aB (i:=0) ap rfl);have HE:=au (ax.o _ false ⟨(fun h=>by cases h),fun h=>absurd h HN.o⟩ (a6.o _ _ h8));clear ag h3 h4 h5 h6 a0 F8 hD aq h8 ap F9 hI;go_wp2_with fail;refine⟨by simp,.inl ⟨_,_,rfl,run_takeDeferred HD.o,?_⟩⟩;refine⟨_,VR rfl HC.o,HE.o⟩
 ·intro D c R W1 hR hI;obtain⟨b,hI⟩:=hI.ex;obtain⟨⟨rfl,hb⟩,h3⟩:=hI.pure;have h6:=h3.perm (by ac_rfl:_=aj (bQ D (.deferred (some []))) (aj (av I (gE b) 4) R));obtain⟨FD,hD,-,aq⟩:=h6.take bX aQ;have HD:=au hD.1;have h8:=aq _ _ (ji hD (.deferred none));obtain⟨F9,ap⟩:=h8.drop.fst;have HC:=au (aB (i:=0) ap rfl);have HE:=au (ax.o _ b hb (a6.o _ _ h8));clear h3 h6 hD aq h8 ap F9 hI hb;go_wp2_with fail;refine⟨by simp,.inl ⟨_,_,rfl,run_takeDeferred HD.o,?_⟩⟩;refine⟨_,VR rfl HC.o,HE.o⟩
end Go.Proofs.YtbnnlpjpnihheaaGreatDoor
namespace Go.CH.Mtc
open Go.CH.Scr Go.CH.eG
def Tq(ds:List Int)(us:List Int)(i:Nat):Int:=bF.sg i fun r=>if(r:Int) ∈ us then 0 else ds.getD r 0
theorem Ij(ds us:List Int):Tq ds us 0=0:=rfl
theorem Ik(ds us:List Int)(i:Nat):Tq ds us (i+1)=Tq ds us i+if(i:Int) ∈ us then 0 else ds.getD i 0:=rfl
theorem sQ{ds us:List Int}(h:∀ d ∈ ds,0<=d/\d<=1000):∀ i,0<=Tq ds us i/\Tq ds us i<=i*1000
 | 0=>by rw[Ij];simp
 | i+1=>by
  have q:=sQ (us:=us) h i;have p:0<=ds.getD i 0/\ds.getD i 0<=1000:=by
   rw[YP];cases hd:ds[i]? with
   | none=>simp
   | some x=>exact h x (Za hd)
  rw[Ik,ma,ml];split<;>omega
variable{T:fy}{us:List Int}
theorem wm{n:bI}:Tq (n.ws.map (bH T n.k)) us n.ws.length=j5 T n us:=by
 refine bF.bJ fun i hi=>?_;have:(n.ws.map (bH T n.k)).getD i 0=dM T n i:=Go.Proofs.YtbnnlpjpnihheaaGreatDoor.ko n hi;rw[this]
end Go.CH.Mtc
namespace Go.Proofs.YtbnnlpjpnihheaaGreatDoor
open Go.RowKit Go.CH Go.CH.Scr Go.CH.eG Go.CH.Mtc
open Go.ChangeMaps (setBlock)
theorem Sj:nJ Tryz.prog 3 (Value.int .i64):=by
 refine⟨fun a b w=>?_,fun e a w=>?_,fun a=>?_,_,Tryz.underlying3,fun a b=>.inr ?_⟩
 ·rw[Op.equal,Op.maxDepth,Lv (.int Tryz.underlying3 a) (.int Tryz.underlying3 b) 9999 w]
  show Result.ok (a==b) w=_
  rw[show(a==b)=decide (a=b) from by rw[ZH];simp]
 ·exact Ad (.int Tryz.underlying3 a) e 9999 w
 ·unfold Instr.sameBits;simp
 ·unfold Instr.sameNow;simp only[];exact congrArg some (by rw[ZH];simp)
def kN(b:Nat)(us:List Int):CH.bq:=iE (Value.int .i64) b (us.map fun x=>(x,.bool true))
variable{b g:Nat}{us:List Int}{w:World}{F:Nat->Prop}
theorem Dm:(kN b us).Ok:=map_ok
instance {b:Nat} {us:List Int}:(kN b us).Ok:=Dm
theorem Sk(h:kN b us w F)(x:Int):(Instr.lookup 92 (.map (some b)) (.int .i64 x) false).run Tryz.prog w=.ok (.bool (decide (x ∈ us))) w:=by
 have q:=Hq Sj Tryz.underlying92 Tryz.zeroValue4 h x;rw[Bc] at q;rw[q];by_cases p:x ∈ us
 ·rw[if_pos p,decide_eq_true p];rfl
 ·rw[if_neg p,decide_eq_false p];rfl
theorem Ew(h:kN b us w F){x:Int}(z:x ∉ us):∃ w',(Instr.mapUpdate 92 (.map (some b)) (.int .i64 x) (.bool true)).run Tryz.prog w=.ok () w'/\bS w F (kN b (us++[x])) w':=by
 obtain⟨w',q,p⟩:=oU Sj Tryz.underlying92 h x (.bool true);have e:lG (us.map fun x=>(x,Value.bool true)) x (.bool true)=(us++[x]).map fun x=>(x,Value.bool true):=by
  rw[oV (by rw[lj];simpa[Function.comp_def] using z),YS];rfl
 rw[e] at p;exact⟨w',q,p⟩
theorem wo{p:Int}{ds:List Int}{B:fj}{bc:Nat}(h:aj (av g (gb p) 3) (kN b us) w F)(hD:∀ W,Mod F w W->iD W B ds)(hn:ds.length<=1000)(hd:∀ d ∈ ds,0<=d/\d<=1000)(h0:0<=p)(h1:p<=1000000000):
  Calls Tryz.prog 40 #[.slice B ds.length bc,.map (some b),.pointer (some ⟨g,0,none⟩)] w (fun e w'=>(∃ v,e=.returned v)/\bS w F (aj (av g (gb (p+Tq ds us ds.length)) 3) (kN b us)) w'):=by
 have H0:=au (aI.start h);have HD:=au hD;have HB:=au (fun i=>sQ (us:=us) hd i);have HS:=au (fun i=>Ik ds us i);have ad:=au (fun i (hi:i<ds.length)=>(show ds.getD i 0=ds[i]/\0<=ds[i]/\ds[i]<=1000 from⟨by rw[YP,YH hi];rfl,hd _ (YL hi)⟩));obtain⟨n,I⟩:∃ n,n=ds.length:=⟨_,rfl⟩;have HN:=au I;rw[<-I] at hn ⊢;clear h hD hd I
 go_enter Tryz.func40,Tryz.ntmps40
 go_wp2;go_loopw [9] (fun kk wr=>∃ i:Nat,kk=.int .i64 i/\i<=n/\aI F w (aj (av g (gb (p+Tq ds us i)) 3) (kN b us)) wr) (fun kk _=>n-(intOf kk).toNat)
 case atStart=>exact⟨0,rfl,YE _,by rw[Ij,lh];exact H0.o⟩
 case round=>
  obtain⟨i,rfl,hi,hR⟩:=hrel;have z:=au hR;clear hR H0;by_cases M:i<n
  ·have J:i<ds.length:=by rw[<-HN.o];exact M
   obtain⟨b0,o,rfl,hc⟩:=Asn.Vec.at (HD.o wr z.o.mod) ff;have ck:=hc wr (YC _ _) i J;obtain⟨e1,e2,e3⟩:=ad.o i J;have hS:=HS.o i;rw[e1] at hS;have hB:=HB.o i;obtain⟨F1,q⟩:=z.o.fst;have q0:=aB (i:=0) q rfl;have qf:=aP q;obtain⟨F2,V⟩:=z.o.swap.fst;have hl:=Sk V (i:Int);generalize ds[i]=x at *
   clear hc e1 J;generalize ac:Tq ds us i=r0 at *
   generalize aa:Tq ds us (i+1)=r1 at *
   have ab:=au aa;clear ac aa;by_cases hm:(i:Int) ∈ us
   ·rw[if_pos hm] at hS;rw[decide_eq_true hm] at hl;have HE:=au (show aI F w (aj (av g (gb (p+r1)) 3) (kN b us)) wr from by rw[hS,lh];exact z.o);clear hS hB hm q V F1 F2 z;go_wp2
    go_roundw
    case rel=>exact⟨i+1,by go_num,M,by rw[ab.o];exact HE.o⟩
    case measure=>simp[intOf];omega
   ·rw[if_neg hm] at hS;rw[decide_eq_false hm] at hl;have hq:(i:Int)*1000<=1000000:=by omega
    have tw:wrap64 (p+r0+x)=p+r1:=by rw[Zr _ ff];omega
    have HE:=au (show aI F w (aj (av g (gb (p+r1)) 3) (kN b us)) (wr.setCell ⟨g,0,none⟩ (.int .i64 (p+r1))) from aJ z.o Dm 0 (.int .i64 (p+r1)));clear hS hB hm q V F1 F2 z e2 e3 hq;go_wp2
    go_roundw
    case rel=>exact⟨i+1,by go_num,M,by rw[ab.o];exact HE.o⟩
    case measure=>simp[intOf];omega
  ·obtain rfl:n=i:=by omega
   have HE:=au (z.o.post aQ);clear z;go_wp2;refine bodyPost_end (results_none rfl _ _ _) rfl ?_;exact⟨⟨_,rfl⟩,HE.o⟩
end Go.Proofs.YtbnnlpjpnihheaaGreatDoor
namespace Go.CH.Mtc
open Go.CH.Scr Go.CH.eG
def wu(ps:List Pr)(i:Nat):Int:=match (ps.take i).getLast? with|some p=>p.i|none=>-1
def Il(ps:List Pr)(i:Nat):Int:=match (ps.take i).getLast? with|some p=>p.j|none=>-1
def PK(T:fy)(a b:bI)(s:Bool)(ps:List Pr)(i:Nat):Prop:=j4 T a b s (wu ps i) (Il ps i) ((ps.take i).map (·.j)).reverse (ps.drop i)
section
variable{T:fy}{a b:bI}{s:Bool}{ps:List Pr}{i:Nat}
theorem rH(hi:i<ps.length):wu ps (i+1)=ps[i].i/\Il ps (i+1)=ps[i].j:=by
 unfold wu Il;rw[YD hi,List.getLast?_append];exact⟨rfl,rfl⟩
theorem MJ:PK T a b s ps 0↔j4 T a b s (-1) (-1) [] ps:=jq
theorem Sm:PK T a b s ps ps.length:=by
 unfold PK;rw[ly]
 trivial
theorem MK(hi:i<ps.length):PK T a b s ps i↔wu ps i<ps[i].i/\ps[i].i<a.ws.length/\0<=ps[i].j/\ps[i].j<b.ws.length/\ps[i].j ∉ (ps.take i).map (·.j)/\(s=true\/Il ps i<=ps[i].j)/\nU T a.k (wd a ps[i].i.toNat) b.k (wd b ps[i].j.toNat) ps[i]/\PK T a b s ps (i+1):=by
 have e:PK T a b s ps (i+1)=j4 T a b s ps[i].i ps[i].j (ps[i].j::((ps.take i).map (·.j)).reverse) (ps.drop (i+1)):=by
  unfold PK;rw[(rH hi).1,(rH hi).2,YD hi,YS,List.reverse_append];rfl
 rw[e];unfold PK;rw[Y7 hi];rw[j4,List.mem_reverse]
variable{k:Int}
theorem Br(hv:bC T=true){k2:Int}{x y:Bs}{p:Pr}(h:nU T k x k2 y p):0<=p.c/\p.c<=26000:=by
 obtain⟨w,h1,h2,h3⟩:=h;obtain⟨c1,c2,-,-⟩:=mZ h3;have:=vC hv (Zf h1);omega
theorem Im(hi:i<ps.length):((ps.take (i+1)).map (·.c)).sum=((ps.take i).map (·.c)).sum+ps[i].c:=by
 rw[YD hi,YS,List.sum_append];simp
theorem rJ{β:Type}(f:Pr->β)(hi:i<ps.length):(ps.take (i+1)).map f=(ps.take i).map f++[f ps[i]]:=by
 rw[YD hi,YS];rfl
def Xp(ps:List Pr)(i:Nat):Prop:=-1<=wu ps i/\∀ x ∈ (ps.take i).map (·.i),x<=wu ps i
theorem Ip:Xp ps 0:=⟨ZB _,fun x hx=>by rw[k8] at hx;cases hx⟩
theorem Iq(hi:i<ps.length)(h:Xp ps i)(hp:wu ps i<ps[i].i):Xp ps (i+1):=by
 unfold Xp;rw[(rH hi).1,rJ _ hi];refine⟨by have:=h.1;omega,fun x hx=>?_⟩;rcases List.mem_append.1 hx with hx|hx
 ·have:=h.2 x hx;omega
 ·rw[qk] at hx;rw[hx];exact ZB _
theorem ML(h:Xp ps i){x:Int}(hx:wu ps i<x):x ∉ (ps.take i).map (·.i):=fun hm=>by have:=h.2 x hm;omega
end
end Go.CH.Mtc
namespace Go.Proofs.YtbnnlpjpnihheaaGreatDoor
open Go.RowKit Go.CH Go.CH.Scr Go.CH.eG Go.CH.Mtc
open Go.ChangeMaps (setBlock)
def xM(w:World)(T:fy)(a b:bI)(m:Mt)(e:Ending)(w':World):Prop:=∃ o:Bool,e=.returned (.bool o)/\(o=true↔qU T a b m)/\Below w.heap.size w w'
variable{w W w0:World}{T:fy}{A:fj}{b:Nat}{F0:Nat->Prop}{X:CH.bq}
theorem Ey{a b:bI}{m:Mt}(h:qD T a b=false)(hb:Below w.heap.size w W):xM w T a b m (.returned (.bool false)) W:=
 ⟨false,rfl,⟨(fun h=>by cases h),fun h2=>by have h3:=h2.1;rw[h] at h3;cases h3⟩,hb⟩
theorem RZ.at{l:List (Pr × PA)}(h:RZ w A l)(hn:0<l.length):∃ b o,A=some ⟨b,o,none⟩/\∀ W,Below w.heap.size w W->∀ j (hj:j<l.length) i u,(mY l[j])[i]?=some u->W.cell? ⟨b,o+j*10+i,none⟩=some u:=
 tH.at (R:=mY) (fun _=>rfl) ff h.row hn
theorem VT{us:List Int}(h:aI F0 w0 (aj (kN b us) X) W)(x:Int):(Instr.lookup 92 (.map (some b)) (.int .i64 x) false).run Tryz.prog W=.ok (.bool (decide (x ∈ us))) W:=by
 obtain⟨F,hF⟩:=h.fst;exact Sk hF x
theorem Sq{ta:TA}(hT:iR w T ta)(hz:LZ w){a b:bI}{An Bn Am:fj}{ca cb cm:Nat}(hA:fM w An a.ws)(hB:fM w Bn b.ws)(a6:a.ws.length<=1000000)(a5:b.ws.length<=1000000)(cv:∀ x ∈ a.ws,x.length<=1000000)(cL:∀ x ∈ b.ws,x.length<=1000000){mc:Int}{l:List (Pr × PA)}(hM:RZ w Am l)(et:l.length<=1000)(cI:∀ e ∈ l,e.1.d.L.length<=1000/\e.1.d.M.length<=1000):
  Calls Tryz.prog 16 #[eu T ta,ED a An ca,ED b Bn cb,.agg (gn mc true Am l.length cm)] w (xM w T a b ⟨mc,true,l.map (·.1)⟩):=by
 have h1:=aH (aI.begin w) aO (dh T ta) 25;have h2:=aH h1 aQ (gj a.k An a.ws.length ca) 28;have h3:=aH h2 aQ (gj b.k Bn b.ws.length cb) 28;have h4:=aH h3 aQ (gn mc true Am l.length cm) 31;simp only[YN] at h4;have H4:=au h4;have bh:=au (fun W X (h:aI fh w X W)=>(show Below w.heap.size w W from h.mod.below (fun _ _ h=>h)));have KA:=au (fun W (J:Below w.heap.size w W)=>(kM (n:=a) (cn:=ca) (hT.below J) (hz.below J) (aT hA J) a6 cv).mono fun e w' h=>sO h);have KB:=au (fun W (J:Below w.heap.size w W)=>(kM (n:=b) (cn:=cb) (hT.below J) (hz.below J) (aT hB J) a5 cL).mono fun e w' h=>sO h);have b4:=au (fun (ao:bC T=true) (a4:eZ a=true) (hv3:eZ b=true) W (J:Below w.heap.size w W) (i j:Nat) (hi:i<a.ws.length) (hj:j<b.ws.length) (u v:WW) (hu:jk W (dX T a.k (wd a i)) u) (hv:jk W (dX T b.k (wd b j)) v) (k:Nat) (hk:k<l.length)=>Dl (hT.below J) (hz.below J) (cv _ (lI hi)) (cL _ (lI hj)) (gI.2 ⟨(bR.1 a4).1 _ (lI hi),(bR.1 hv3).1 _ (lI hj),ao⟩) hu hv (p:=l[k].1) (pc:=l[k].2.ac) (qc:=l[k].2.bc) (hM.below J |>.all _ (YL hk)).1 ((hM.below J).all _ (YL hk)).2 (cI _ (YL hk)).1 (cI _ (YL hk)).2);have dm:=au (fun W (J:Below w.heap.size w W)=>hM.below J);clear hT hz hA hB a6 a5 cv cL h1 h2 h3 h4 hM cI;unfold eu ED at *
 unfold dh at *
 generalize T.rs.length=n1 at *
 generalize T.ds.length=n2 at *
 generalize T.es.length=n3 at *
 obtain⟨la,a6⟩:∃ la,la=a.ws.length:=⟨_,rfl⟩;obtain⟨lb,a5⟩:∃ lb,lb=b.ws.length:=⟨_,rfl⟩;obtain⟨nm,cj⟩:∃ nm,nm=l.length:=⟨_,rfl⟩;have aq:=au a6;have ar:=au a5;have cQ:=au cj;rw[<-a6] at H4 KA ⊢;rw[<-a5] at H4 KB ⊢;rw[<-cj] at H4 et ⊢;clear a6 a5 cj;obtain⟨aA,ac,aD,ad,aE,ae⟩:=ta;dsimp only at H4 KA KB b4 ⊢;generalize ej:(((w.alloc (.cells (fw aA n1 ac aD n2 ad aE n3 ae T.drop T.ord T.ini) 25)).alloc (.cells (gj a.k An la ca) 28)).alloc (.cells (gj b.k Bn lb cb) 28)).alloc (.cells (gn mc true Am nm cm) 31)=w4 at H4;generalize eg:w.heap.size+1=g5 at H4;generalize ew:g5+1=g6 at H4;generalize d8:g6+1=g7 at H4
 go_enter Tryz.func16,Tryz.ntmps16
 go_upto_region 1 with (fail);clear ej eg ew d8;obtain⟨t0,t1,t2,t3,t4,t5⟩:=bZ H4.o.drop.drop.drop;obtain⟨s0,s1,sf⟩:=cZ H4.o.drop.drop;have dL:=au (KA.o w4 (bh.o _ _ H4.o));clear KA;go_wp2_with fail;refine dL.o.mono ?_;rintro e9 w5 ⟨xA,n,xc,xB,p,xd,o1,rfl,J,hov,hR⟩;have H5:=au (H4.o.below aQ J);have b8:=au hov;have cW:=au hR;clear dL J hov hR t0 t1 t2 t3 t4 t5 s0 s1 sf H4;have H6:=au (aH H5.o aQ (fL xA n xc xB p xd) 71);have co:=au (show Below w5.heap.size w5 (w5.alloc (.cells (fL xA n xc xB p xd) 71)) from(YC _ _).alloc (YG _) _);dsimp only;go_upto_region 2 with (fail);generalize w5.alloc (.cells (fL xA n xc xB p xd) 71)=w6 at *
 clear H5;generalize dA:w5.heap.size=g9 at *
 have dF:=au dA;clear dA;obtain⟨t0,t1,t2,t3,t4,t5⟩:=bZ H6.o.drop.drop.drop.drop;obtain⟨s0,s1,sf⟩:=cZ H6.o.drop.drop;have cV:=au (KB.o w6 (bh.o _ _ H6.o));clear KB;go_wp2_with fail;refine cV.o.mono ?_;rintro e9 w7 ⟨yA,m,yc,yB,q,yd,o2,rfl,J,hov,hR⟩;have H7:=au (H6.o.below aQ J);have b6:=au hov;have dB:=au hR;have cy:=au (show Below w5.heap.size w5 w7 from by rw[dF.o];exact co.o.trans (J.mono (YQ (o0 dF.o.symm) co.o.size)));clear cV J hov hR t0 t1 t2 t3 t4 t5 s0 s1 sf H6 co;have H8:=au (aH H7.o aQ (fL yA m yc yB q yd) 71);have ep:=au (show Below w7.heap.size w7 (w7.alloc (.cells (fL yA m yc yB q yd) 71))/\w5.heap.size<=w7.heap.size from⟨(YC _ _).alloc (YG _) _,cy.o.size⟩);dsimp only;go_upto_region 3 with (fail);generalize w7.alloc (.cells (fL yA m yc yB q yd) 71)=w8 at *
 clear H7;generalize d0:w7.heap.size=ax at *
 have eh:=au d0;clear d0;cases o1 with
 | false=>
  have cE:=au (fun W J=>Ey (w:=w) (W:=W) (T:=T) (a:=a) (b:=b) (m:=⟨mc,true,l.map (·.1)⟩) (by unfold qD;rw[<-mj,<-b8.o];rfl) J);go_wp2;go_ret;exact cE.o _ (bh.o _ _ H8.o)
 | true=>
  cases o2 with
  | false=>
   have cE:=au (fun W J=>Ey (w:=w) (W:=W) (T:=T) (a:=a) (b:=b) (m:=⟨mc,true,l.map (·.1)⟩) (by unfold qD;rw[tj (eZ a),<-mj,<-b6.o];rfl) J);go_wp2;go_ret;exact cE.o _ (bh.o _ _ H8.o)
  | true=>
   obtain⟨hn,hp,fa,fb,l1,dy⟩:=cW.o rfl;obtain⟨hm,hq,e8,e7,l2,cP⟩:=dB.o rfl;obtain rfl:la=n:=hn.symm;obtain rfl:la=p:=hp.symm;obtain rfl:lb=m:=hm.symm;obtain rfl:lb=q:=hq.symm;have ao:bC T=true/\eZ a=true:=by have h1:=b8.o;rw[eq_comm,YF] at h1;exact h1
   have a4:eZ b=true:=by have h1:=b6.o;rw[eq_comm,YF] at h1;exact h1.2
   have ei:=au (show qD T a b=true from by unfold qD;rw[ao.1,ao.2,a4];rfl);have ba:Below w7.heap.size w7 w8:=by rw[eh.o];exact ep.o.1
   have bj:=au ao.1;have eW:la<=6:=by rw[aq.o];exact(bR.1 ao.2).2.2
   have e0:lb<=6:=by rw[ar.o];exact(bR.1 a4).2.2
   have HN:=au (fun W (J:Below w8.heap.size w8 W)=>(show xJ W T a l1 xA xB/\xJ W T b l2 yA yB from by
    have h7:Below w7.heap.size w7 W:=ba.trans (J.mono ba.size)
    exact⟨dy.below (cy.o.trans (h7.mono cy.o.size)),cP.below h7⟩))
   have ek:=au (fun i (hi:i<la)=>xL (HN.o w8 (YC _ _)).1 (i:=i) (by rw[<-aq.o];exact hi));have d5:=au (fun i (hi:i<lb)=>xL (HN.o w8 (YC _ _)).2 (i:=i) (by rw[<-ar.o];exact hi));have cx:Below w.heap.size w w8:=bh.o _ _ H8.o;have HB:=au (fun W (J:Below w8.heap.size w8 W)=>cx.trans (J.mono cx.size));have KR:=au (fun W (J:Below w8.heap.size w8 W) (i j:Nat) (hi:i<la) (hj:j<lb) (u v:WW) hu hv (k:Nat) (hk:k<l.length)=>b4.o ao.1 ao.2 a4 W (HB.o W J) i j (by rw[<-aq.o];exact hi) (by rw[<-ar.o];exact hj) u v hu hv k hk);have dw:=au (dm.o w8 cx);obtain⟨t0,t1,t2,t3,t4,t5⟩:=bZ H8.o.drop.drop.drop.drop.drop;obtain⟨m0,m1,m2⟩:=dZ H8.o.drop.drop;obtain⟨x0,x1,-⟩:=cZ H8.o.drop;obtain⟨y0,y1,-⟩:=cZ H8.o;have al:=au (fun W (J:Below w8.heap.size w8 W)=>(show W.cell? ⟨w.heap.size,0,none⟩=some (.slice aA n1 ac)/\W.cell? ⟨w.heap.size,1,none⟩=some (.slice aD n2 ad)/\W.cell? ⟨w.heap.size,2,none⟩=some (.slice aE n3 ae)/\W.cell? ⟨w.heap.size,3,none⟩=some (.int .i64 T.drop)/\W.cell? ⟨w.heap.size,4,none⟩=some (.int .i64 T.ord)/\W.cell? ⟨w.heap.size,5,none⟩=some (.int .i64 T.ini)/\W.cell? ⟨g7,0,none⟩=some (.int .i64 mc)/\W.cell? ⟨g7,1,none⟩=some (.bool true)/\W.cell? ⟨g7,2,none⟩=some (.slice Am nm cm)/\W.cell? ⟨g9,0,none⟩=some (.slice xA la xc)/\W.cell? ⟨g9,1,none⟩=some (.slice xB la xd)/\(ja W ax (.slice yA lb yc) (.slice yB lb yd)) from⟨aF t0 J,aF t1 J,aF t2 J,aF t3 J,aF t4 J,aF t5 J,aF m0 J,aF m1 J,aF m2 J,aF x0 J,aF x1 J,aF y0 J,aF y1 J⟩));obtain⟨ps,bp⟩:∃ ps,ps=l.map (·.1):=⟨_,rfl⟩;have eE:=au bp;have dE:ps.length=nm:=by rw[bp,YI];exact cQ.o.symm
   have cr:=au dE
   have dg:=au (show qU T a b ⟨mc,true,l.map (·.1)⟩↔PK T a b true ps 0/\mc=T.ord+(ps.map (·.c)).sum+j5 T a (ps.map (·.i))+j5 T b (ps.map (·.j)) from by
    rw[<-bp];unfold qU vB;rw[MJ]
    simp[ei.o])
   have ag:=au (fun W (o:Bool) (h1:o=true↔PK T a b true ps 0/\mc=T.ord+(ps.map (·.c)).sum+j5 T a (ps.map (·.i))+j5 T b (ps.map (·.j))) (J:Below w8.heap.size w8 W)=>(show xM w T a b ⟨mc,true,l.map (·.1)⟩ (.returned (.bool o)) W from⟨o,rfl,h1.trans dg.o.symm,HB.o W J⟩));have bv:=eY.1 (eU.1 bj.o).1.2.2.2.1;clear dy cP ao a4 ba hn hp hm hq cW dB b8 b6 dE bp dm dg b4;have eQ:∀ w:World,(Instr.makeMap 92 none).run Tryz.prog w=.ok (.map (some w.heap.size)) (w.alloc (.map #[] 0)):=fun w=>by kernel_rfl
   have cR:=aH (aI.begin w8) aO (gb 0) 3;have bf:=au cR;clear cR t0 t1 t2 t3 t4 t5 m0 m1 m2 x0 x1 y0 y1;go_upto_region 6 with (fail);generalize dt:w8.heap.size=af at bf ⊢;generalize w8.alloc (.cells (gb 0) 3)=dj at *
   obtain⟨t0,t1,t2,t3,t4,t5,m0,m1,m2,x0,x1,y0,y1⟩:=al.o dj bf.o.bN;obtain⟨FQ,an⟩:=bf.o.fst;have q0:=aB (i:=0) an rfl;have qf:=aP an;have cU:=au (show aI fh w8 (aj (av af (gb (T.ord)) 3) aS) _ from aJ bf.o aO 0 (.int .i64 T.ord));clear bf an FQ dt;go_upto_region 8 with (fail);generalize dj.setCell ⟨af,0,none⟩ (.int .i64 T.ord)=w9 at *
   clear q0 qf;have ci:=(cU.o.fresh aQ (lX (kv:=Value.int .i64) w9)).fresh aQ (lX (kv:=Value.int .i64) (w9.alloc (.map #[] 0)));simp only[YN] at ci;have b7:=au (ci.perm (by show _=aj _ (aj (iE (Value.int .i64) _ []) (aj (iE (Value.int .i64) _ []) aS));ac_rfl:_=aj (av af (gb (T.ord)) 3) (aj (kN w9.heap.size []) (aj (kN (w9.heap.size+1) []) aS))));clear ci cU t0 t1 t2 t3 t4 t5 m0 m1 m2 x0 x1 y0 y1 H8;go_upto_region 9 with (fail);generalize (w9.alloc (.map #[] 0)).alloc (.map #[] 0)=eI at *
   generalize w9.heap.size=ab at *
   clear eQ;obtain⟨t0,t1,t2,t3,t4,t5,m0,m1,m2,x0,x1,y0,y1⟩:=al.o eI b7.o.bN;go_wp2_with fail;clear t0 t1 t2 t3 t4 t5 m0 m1 m2 x0 x1 y0 y1;go_loopw [14,15,48] (fun a7 cw kk wr=>∃ i:Nat,a7=.int .i64 (wu ps i)/\cw=.int .i64 (Il ps i)/\kk=.int .i64 i/\i<=nm/\(PK T a b true ps 0↔PK T a b true ps i)/\Xp ps i/\0<=((ps.take i).map (·.c)).sum/\((ps.take i).map (·.c)).sum<=26000*(i:Int)/\aI fh w8 (aj (av af (gb (T.ord+((ps.take i).map (·.c)).sum)) 3) (aj (kN ab ((ps.take i).map (·.i))) (aj (kN (ab+1) ((ps.take i).map (·.j))) aS))) wr) (fun _ _ kk _=>nm-(intOf kk).toNat)
   case atStart=>exact⟨0,rfl,rfl,rfl,YE _,jq,Ip,ZB _,ZB _,by show aI _ _ (aj (av af (gb (T.ord+0)) 3) _) _;rw[lh];exact b7.o⟩
   case round=>
    obtain⟨i,rfl,rfl,rfl,hi,hI,hL,eS,eC,hR⟩:=hrel;have HR:=au hR;have HI:=au hI;have HL:=au hL;clear b7 hR hI hL;obtain⟨t0,t1,t2,t3,t4,t5,m0,m1,m2,x0,x1,y0,y1⟩:=al.o wr HR.o.bN;have d1:(i:Int)<=1000:=by omega
    by_cases cq:i<nm
    ·have cD:i<l.length:=by rw[<-cQ.o];exact cq
     have aw:i<ps.length:=by rw[cr.o];exact cq
     obtain⟨mb,mo,ez,hc⟩:=dw.o.at ff;have be:=au (fun W J i' j' eL d6 u v hu hv=>KR.o W J i' j' eL d6 u v hu hv i cD);obtain⟨x,hx⟩:∃ x,x=l[i]:=⟨_,rfl⟩;have cY:ps[i]=x.1:=by
      have h1:=eE.o;subst h1;rw[ZA,hx]
     have ak:=au (MK (T:=T) (a:=a) (b:=b) (s:=true) aw);have bo:=au (rH aw);have bn:=au (fun h=>Iq aw HL.o h);have da:=au (show -1<=wu ps i from HL.o.1);have de:=au (fun x h=>ML HL.o (x:=x) h);have bd:=au (Im aw);have b9:=au (rJ (fun p:Pr=>p.i) aw);have cA:=au (rJ (fun p:Pr=>p.j) aw);have am:∀ W,Below w8.heap.size w8 W->∀ k u,(mY x)[k]?=some u->W.cell? ⟨mb,mo+i*10+k,none⟩=some u:=fun W J k u hu=>hc W J i cD k u (by rw[<-hx];exact hu);rw[cY] at ak bo bn bd b9 cA;rw[<-hx] at be;clear cY hx hc cD aw HL;subst ez;obtain⟨⟨pI,pJ,pK,pL,pR,pC,pD⟩,⟨eA,pc,eB,qc⟩⟩:=x;dsimp only at ak bo bn bd b9 cA be;have c0:=am wr HR.o.bN 0 _ rfl;have c1:=am wr HR.o.bN 1 _ rfl;have c2:=am wr HR.o.bN 2 _ rfl;have c3:=am wr HR.o.bN 3 _ rfl;have c4:=am wr HR.o.bN 4 _ rfl;have c5:=am wr HR.o.bN 5 _ rfl;have c6:=am wr HR.o.bN 6 _ rfl;have c7:=am wr HR.o.bN 7 _ rfl;have c8:=am wr HR.o.bN 8 _ rfl;have c9:=am wr HR.o.bN 9 _ rfl;dsimp only at c0 c1 c2 c3 c4 c5 c6 c7 c8 c9;rw[ZM] at c0;clear am;unfold og at be;dsimp only at be;generalize eJ:wu ps i=a7 at *
     generalize el:Il ps i=cw at *
     generalize d3:(ps.take i).map (·.i)=lf at *
     generalize ee:(ps.take i).map (·.j)=rt at *
     generalize eK:((ps.take i).map (·.c)).sum=sm at *
     clear eJ el d3 ee eK;have aa:=au (aH HR.o aQ (fX pI pJ pK pL pR pC pD.c eA pD.L.length pc eB pD.M.length qc (bs pD.F)) 44);have cz:=au (fun W (h:aI fh w8 (aj (av wr.heap.size (fX pI pJ pK pL pR pC pD.c eA pD.L.length pc eB pD.M.length qc (bs pD.F)) 44) (aj (av af (gb (T.ord+sm)) 3) (aj (kN ab lf) (aj (kN (ab+1) rt) aS)))) W) (x:Int)=>VT (h.perm (by ac_rfl:_=aj (kN (ab+1) rt) (aj (av wr.heap.size (fX pI pJ pK pL pR pC pD.c eA pD.L.length pc eB pD.M.length qc (bs pD.F)) 44) (aj (av af (gb (T.ord+sm)) 3) (aj (kN ab lf) aS))))) x);by_cases dT:pI<=a7
     ·have HX:=au (show ¬ PK T a b true ps 0 from fun h:PK T a b true ps 0=>by
       obtain⟨q1,q2,q3,q4,q5,q6,-,-⟩:=ak.o.1 (HI.o.1 h)
       omega)
      have er:decide (pI<=a7)=true:=decide_eq_true dT;go_upto_region 12 with (fail);generalize wr.alloc (.cells (fX pI pJ pK pL pR pC pD.c eA pD.L.length pc eB pD.M.length qc (bs pD.F)) 44)=I at *
      generalize wr.heap.size=z at *
      clear t0 t1 t2 t3 t4 t5 m0 m1 m2 x0 x1 y0 y1 c0 c1 c2 c3 c4 c5 c6 c7 c8 c9 HR;obtain⟨t0,t1,t2,t3,t4,t5,m0,m1,m2,x0,x1,y0,y1⟩:=al.o I aa.o.bN;obtain⟨⟨p0,p1,p2,p3,p4⟩,⟨p5,p6,p7,p8,p9⟩,pf⟩:=bE aa.o
      refine aK (fun w'=>w'.cell? ⟨z,0,none⟩=some (.int .i64 pI)/\w'.cell? ⟨z,1,none⟩=some (.int .i64 pJ)/\w'.cell? ⟨z,2,none⟩=some (.int .i64 pK)/\w'.cell? ⟨z,3,none⟩=some (.int .i64 pL)/\w'.cell? ⟨z,4,none⟩=some (.int .i64 pR)/\w'.cell? ⟨z,5,none⟩=some (.int .i64 pC)/\w'.cell? ⟨z,6,none⟩=some (.int .i64 pD.c)/\w'.cell? ⟨z,7,none⟩=some (.slice eA pD.L.length pc)/\w'.cell? ⟨z,8,none⟩=some (.slice eB pD.M.length qc)/\w'.cell? ⟨z,9,none⟩=some (.string (bs pD.F))/\w'.cell? ⟨g9,0,none⟩=some (.slice xA la xc)/\w'.cell? ⟨ax,0,none⟩=some (.slice yA lb yc)/\w'.cell? ⟨g7,1,none⟩=some (.bool true)) fi fi (by exact⟨p0,p1,p2,p3,p4,p5,p6,p7,p8,p9,x0,y0,m1⟩) ?_
      (repeat(first|refine aW ?_|refine aX ?_))
      refine lex_nil ?_;clear t0 t1 t2 t3 t4 t5 m0 m1 m2 x0 x1 y0 y1 p0 p1 p2 p3 p4 p5 p6 p7 p8 p9;go_wp2;go_ret;exact ag.o _ false ⟨(fun h=>by cases h),fun h=>absurd h.1 HX.o⟩ (by exact(aa.o.bN).drew)
     ·have er:decide (pI<=a7)=false:=decide_eq_false dT;have eR:0<=pI:=by have:=(da.o);omega
      by_cases d4:(la:Int)<=pI
      ·have HX:=au (show ¬ PK T a b true ps 0 from fun h:PK T a b true ps 0=>by
        obtain⟨q1,q2,q3,q4,q5,q6,-,-⟩:=ak.o.1 (HI.o.1 h)
        rw[<-aq.o] at q2;omega)
       have ec:decide ((la:Int)<=pI)=true:=decide_eq_true d4;go_upto_region 12 with (fail);generalize wr.alloc (.cells (fX pI pJ pK pL pR pC pD.c eA pD.L.length pc eB pD.M.length qc (bs pD.F)) 44)=I at *
       generalize wr.heap.size=z at *
       clear t0 t1 t2 t3 t4 t5 m0 m1 m2 x0 x1 y0 y1 c0 c1 c2 c3 c4 c5 c6 c7 c8 c9 HR;obtain⟨t0,t1,t2,t3,t4,t5,m0,m1,m2,x0,x1,y0,y1⟩:=al.o I aa.o.bN;obtain⟨⟨p0,p1,p2,p3,p4⟩,⟨p5,p6,p7,p8,p9⟩,pf⟩:=bE aa.o
       refine aK (fun w'=>w'.cell? ⟨z,0,none⟩=some (.int .i64 pI)/\w'.cell? ⟨z,1,none⟩=some (.int .i64 pJ)/\w'.cell? ⟨z,2,none⟩=some (.int .i64 pK)/\w'.cell? ⟨z,3,none⟩=some (.int .i64 pL)/\w'.cell? ⟨z,4,none⟩=some (.int .i64 pR)/\w'.cell? ⟨z,5,none⟩=some (.int .i64 pC)/\w'.cell? ⟨z,6,none⟩=some (.int .i64 pD.c)/\w'.cell? ⟨z,7,none⟩=some (.slice eA pD.L.length pc)/\w'.cell? ⟨z,8,none⟩=some (.slice eB pD.M.length qc)/\w'.cell? ⟨z,9,none⟩=some (.string (bs pD.F))/\w'.cell? ⟨g9,0,none⟩=some (.slice xA la xc)/\w'.cell? ⟨ax,0,none⟩=some (.slice yA lb yc)/\w'.cell? ⟨g7,1,none⟩=some (.bool true)) fi fi (by exact⟨p0,p1,p2,p3,p4,p5,p6,p7,p8,p9,x0,y0,m1⟩) ?_
       (repeat(first|refine aW ?_|refine aX ?_))
       refine lex_nil ?_;clear t0 t1 t2 t3 t4 t5 m0 m1 m2 x0 x1 y0 y1 p0 p1 p2 p3 p4 p5 p6 p7 p8 p9;go_wp2;go_ret;exact ag.o _ false ⟨(fun h=>by cases h),fun h=>absurd h.1 HX.o⟩ (by exact(aa.o.bN).drew)
      ·obtain⟨i2,rfl⟩:=px eR;have df:i2<la:=by omega
       have ec:decide (la<=i2)=false:=decide_eq_false ff;have eV:decide ((la:Int)<=(i2:Int))=false:=decide_eq_false ff;by_cases cd:pJ<0
       ·have HX:=au (show ¬ PK T a b true ps 0 from fun h:PK T a b true ps 0=>by
         obtain⟨q1,q2,q3,q4,q5,q6,-,-⟩:=ak.o.1 (HI.o.1 h)
         omega)
        have ea:decide (pJ<0)=true:=decide_eq_true cd;go_upto_region 12 with (fail);generalize wr.alloc (.cells (fX (i2:Int) pJ pK pL pR pC pD.c eA pD.L.length pc eB pD.M.length qc (bs pD.F)) 44)=I at *
        generalize wr.heap.size=z at *
        clear t0 t1 t2 t3 t4 t5 m0 m1 m2 x0 x1 y0 y1 c0 c1 c2 c3 c4 c5 c6 c7 c8 c9 HR;obtain⟨t0,t1,t2,t3,t4,t5,m0,m1,m2,x0,x1,y0,y1⟩:=al.o I aa.o.bN;obtain⟨⟨p0,p1,p2,p3,p4⟩,⟨p5,p6,p7,p8,p9⟩,pf⟩:=bE aa.o
        refine aK (fun w'=>w'.cell? ⟨z,0,none⟩=some (.int .i64 (i2:Int))/\w'.cell? ⟨z,1,none⟩=some (.int .i64 pJ)/\w'.cell? ⟨z,2,none⟩=some (.int .i64 pK)/\w'.cell? ⟨z,3,none⟩=some (.int .i64 pL)/\w'.cell? ⟨z,4,none⟩=some (.int .i64 pR)/\w'.cell? ⟨z,5,none⟩=some (.int .i64 pC)/\w'.cell? ⟨z,6,none⟩=some (.int .i64 pD.c)/\w'.cell? ⟨z,7,none⟩=some (.slice eA pD.L.length pc)/\w'.cell? ⟨z,8,none⟩=some (.slice eB pD.M.length qc)/\w'.cell? ⟨z,9,none⟩=some (.string (bs pD.F))/\w'.cell? ⟨g9,0,none⟩=some (.slice xA la xc)/\w'.cell? ⟨ax,0,none⟩=some (.slice yA lb yc)/\w'.cell? ⟨g7,1,none⟩=some (.bool true)) fi fi (by exact⟨p0,p1,p2,p3,p4,p5,p6,p7,p8,p9,x0,y0,m1⟩) ?_
        (repeat(first|refine aW ?_|refine aX ?_))
        refine lex_nil ?_;clear t0 t1 t2 t3 t4 t5 m0 m1 m2 x0 x1 y0 y1 p0 p1 p2 p3 p4 p5 p6 p7 p8 p9;go_wp2;go_ret;exact ag.o _ false ⟨(fun h=>by cases h),fun h=>absurd h.1 HX.o⟩ (by exact(aa.o.bN).drew)
       ·have ea:decide (pJ<0)=false:=decide_eq_false cd;by_cases ev:(lb:Int)<=pJ
        ·have HX:=au (show ¬ PK T a b true ps 0 from fun h:PK T a b true ps 0=>by
          obtain⟨q1,q2,q3,q4,q5,q6,-,-⟩:=ak.o.1 (HI.o.1 h)
          rw[<-ar.o] at q4;omega)
         have eo:decide ((lb:Int)<=pJ)=true:=decide_eq_true ev;go_upto_region 12 with (fail);generalize wr.alloc (.cells (fX (i2:Int) pJ pK pL pR pC pD.c eA pD.L.length pc eB pD.M.length qc (bs pD.F)) 44)=I at *
         generalize wr.heap.size=z at *
         clear t0 t1 t2 t3 t4 t5 m0 m1 m2 x0 x1 y0 y1 c0 c1 c2 c3 c4 c5 c6 c7 c8 c9 HR;obtain⟨t0,t1,t2,t3,t4,t5,m0,m1,m2,x0,x1,y0,y1⟩:=al.o I aa.o.bN;obtain⟨⟨p0,p1,p2,p3,p4⟩,⟨p5,p6,p7,p8,p9⟩,pf⟩:=bE aa.o
         refine aK (fun w'=>w'.cell? ⟨z,0,none⟩=some (.int .i64 (i2:Int))/\w'.cell? ⟨z,1,none⟩=some (.int .i64 pJ)/\w'.cell? ⟨z,2,none⟩=some (.int .i64 pK)/\w'.cell? ⟨z,3,none⟩=some (.int .i64 pL)/\w'.cell? ⟨z,4,none⟩=some (.int .i64 pR)/\w'.cell? ⟨z,5,none⟩=some (.int .i64 pC)/\w'.cell? ⟨z,6,none⟩=some (.int .i64 pD.c)/\w'.cell? ⟨z,7,none⟩=some (.slice eA pD.L.length pc)/\w'.cell? ⟨z,8,none⟩=some (.slice eB pD.M.length qc)/\w'.cell? ⟨z,9,none⟩=some (.string (bs pD.F))/\w'.cell? ⟨g9,0,none⟩=some (.slice xA la xc)/\w'.cell? ⟨ax,0,none⟩=some (.slice yA lb yc)/\w'.cell? ⟨g7,1,none⟩=some (.bool true)) fi fi (by exact⟨p0,p1,p2,p3,p4,p5,p6,p7,p8,p9,x0,y0,m1⟩) ?_
         (repeat(first|refine aW ?_|refine aX ?_))
         refine lex_nil ?_;clear t0 t1 t2 t3 t4 t5 m0 m1 m2 x0 x1 y0 y1 p0 p1 p2 p3 p4 p5 p6 p7 p8 p9;go_wp2;go_ret;exact ag.o _ false ⟨(fun h=>by cases h),fun h=>absurd h.1 HX.o⟩ (by exact(aa.o.bN).drew)
        ·obtain⟨j2,rfl⟩:=px (Int.not_lt.1 cd);have cN:j2<lb:=by omega
         have eo:decide (lb<=j2)=false:=decide_eq_false ff;have e4:decide ((lb:Int)<=(j2:Int))=false:=decide_eq_false ff;by_cases hm:(j2:Int) ∈ rt
         ·have HX:=au (show ¬ PK T a b true ps 0 from fun h:PK T a b true ps 0=>by
           obtain⟨q1,q2,q3,q4,q5,q6,-,-⟩:=ak.o.1 (HI.o.1 h)
           exact q5 hm)
          go_upto_region 12 with (fail);generalize wr.alloc (.cells (fX (i2:Int) (j2:Int) pK pL pR pC pD.c eA pD.L.length pc eB pD.M.length qc (bs pD.F)) 44)=I at *
          generalize wr.heap.size=z at *
          clear t0 t1 t2 t3 t4 t5 m0 m1 m2 x0 x1 y0 y1 c0 c1 c2 c3 c4 c5 c6 c7 c8 c9 HR;obtain⟨t0,t1,t2,t3,t4,t5,m0,m1,m2,x0,x1,y0,y1⟩:=al.o I aa.o.bN;obtain⟨⟨p0,p1,p2,p3,p4⟩,⟨p5,p6,p7,p8,p9⟩,pf⟩:=bE aa.o
          have lk:=cz.o I.drew (aa.o.drew (ay aC aQ)) ((j2:Int));rw[decide_eq_true hm] at lk;refine aK (fun w'=>w'.cell? ⟨z,0,none⟩=some (.int .i64 (i2:Int))/\w'.cell? ⟨z,1,none⟩=some (.int .i64 (j2:Int))/\w'.cell? ⟨z,2,none⟩=some (.int .i64 pK)/\w'.cell? ⟨z,3,none⟩=some (.int .i64 pL)/\w'.cell? ⟨z,4,none⟩=some (.int .i64 pR)/\w'.cell? ⟨z,5,none⟩=some (.int .i64 pC)/\w'.cell? ⟨z,6,none⟩=some (.int .i64 pD.c)/\w'.cell? ⟨z,7,none⟩=some (.slice eA pD.L.length pc)/\w'.cell? ⟨z,8,none⟩=some (.slice eB pD.M.length qc)/\w'.cell? ⟨z,9,none⟩=some (.string (bs pD.F))/\w'.cell? ⟨g9,0,none⟩=some (.slice xA la xc)/\w'.cell? ⟨ax,0,none⟩=some (.slice yA lb yc)/\w'.cell? ⟨g7,1,none⟩=some (.bool true)/\(Instr.lookup 92 (.map (some (ab+1))) (.int .i64 ((j2:Int))) false).run Tryz.prog w'=.ok (.bool true) w') fi fi (by exact⟨p0,p1,p2,p3,p4,p5,p6,p7,p8,p9,x0,y0,m1,lk⟩) ?_
          (repeat(first|refine aW ?_|refine aX ?_))
          refine lex_nil ?_;clear t0 t1 t2 t3 t4 t5 m0 m1 m2 x0 x1 y0 y1 p0 p1 p2 p3 p4 p5 p6 p7 p8 p9 lk;go_wp2;go_ret;exact ag.o _ false ⟨(fun h=>by cases h),fun h=>absurd h.1 HX.o⟩ (by exact(aa.o.bN).drew)
         ·have eq:=au (show true=true\/cw<=(j2:Int) from .inl rfl);go_upto_region 12 with (fail);generalize wr.alloc (.cells (fX (i2:Int) (j2:Int) pK pL pR pC pD.c eA pD.L.length pc eB pD.M.length qc (bs pD.F)) 44)=I at *
          generalize wr.heap.size=z at *
          clear t0 t1 t2 t3 t4 t5 m0 m1 m2 x0 x1 y0 y1 c0 c1 c2 c3 c4 c5 c6 c7 c8 c9 HR;obtain⟨t0,t1,t2,t3,t4,t5,m0,m1,m2,x0,x1,y0,y1⟩:=al.o I aa.o.bN;obtain⟨⟨p0,p1,p2,p3,p4⟩,⟨p5,p6,p7,p8,p9⟩,pf⟩:=bE aa.o;obtain⟨u,xb,xo,d7,b5⟩:=ek.o i2 df;obtain⟨v,yb,yo,em,ch⟩:=d5.o j2 cN;obtain⟨uw,bk⟩:∃ uw,uw=dX T a.k (wd a i2):=⟨_,rfl⟩;obtain⟨vw,br⟩:∃ vw,vw=dX T b.k (wd b j2):=⟨_,rfl⟩;rw[<-bk] at b5;rw[<-br] at ch;obtain⟨bw,a0,a1,a2⟩:=b5 I aa.o.bN;obtain⟨bz,b0,b1,b2⟩:=ch I aa.o.bN;have ce:=au (be.o I.drew (aa.o.bN.drew) i2 j2 df cN u v (by rw[<-bk];exact bw.below (dO (YC _ _))) (by rw[<-br];exact bz.below (dO (YC _ _))));rw[<-bk,<-br] at ce;clear b5 ch bk br bw bz;subst d7;subst em;have lk:=cz.o I.drew (aa.o.drew (ay aC aQ)) ((j2:Int));rw[decide_eq_false hm] at lk;refine aK (fun w'=>w'.cell? ⟨z,0,none⟩=some (.int .i64 (i2:Int))/\w'.cell? ⟨z,1,none⟩=some (.int .i64 (j2:Int))/\w'.cell? ⟨z,2,none⟩=some (.int .i64 pK)/\w'.cell? ⟨z,3,none⟩=some (.int .i64 pL)/\w'.cell? ⟨z,4,none⟩=some (.int .i64 pR)/\w'.cell? ⟨z,5,none⟩=some (.int .i64 pC)/\w'.cell? ⟨z,6,none⟩=some (.int .i64 pD.c)/\w'.cell? ⟨z,7,none⟩=some (.slice eA pD.L.length pc)/\w'.cell? ⟨z,8,none⟩=some (.slice eB pD.M.length qc)/\w'.cell? ⟨z,9,none⟩=some (.string (bs pD.F))/\w'.cell? ⟨g9,0,none⟩=some (.slice (some ⟨xb,xo,none⟩) la xc)/\w'.cell? ⟨ax,0,none⟩=some (.slice (some ⟨yb,yo,none⟩) lb yc)/\w'.cell? ⟨g7,1,none⟩=some (.bool true)/\w'.cell? ⟨w.heap.size,0,none⟩=some (.slice aA n1 ac)/\w'.cell? ⟨w.heap.size,1,none⟩=some (.slice aD n2 ad)/\w'.cell? ⟨w.heap.size,2,none⟩=some (.slice aE n3 ae)/\w'.cell? ⟨w.heap.size,3,none⟩=some (.int .i64 T.drop)/\w'.cell? ⟨w.heap.size,4,none⟩=some (.int .i64 T.ord)/\w'.cell? ⟨w.heap.size,5,none⟩=some (.int .i64 T.ini)/\w'.cell? ⟨xb,xo+i2*3,none⟩=some (.int .i64 uw.k)/\w'.cell? ⟨xb,xo+i2*3+1,none⟩=some (.slice u.V uw.vs.length u.vc)/\w'.cell? ⟨xb,xo+i2*3+2,none⟩=some (.slice u.L uw.ls.length u.lc)/\w'.cell? ⟨yb,yo+j2*3,none⟩=some (.int .i64 vw.k)/\w'.cell? ⟨yb,yo+j2*3+1,none⟩=some (.slice v.V vw.vs.length v.vc)/\w'.cell? ⟨yb,yo+j2*3+2,none⟩=some (.slice v.L vw.ls.length v.lc)/\(Instr.lookup 92 (.map (some (ab+1))) (.int .i64 ((j2:Int))) false).run Tryz.prog w'=.ok (.bool false) w') fi fi (by exact⟨p0,p1,p2,p3,p4,p5,p6,p7,p8,p9,x0,y0,m1,t0,t1,t2,t3,t4,t5,a0,a1,a2,b0,b1,b2,lk⟩) ?_
          (repeat(first|refine aW ?_|refine aX ?_))
          refine bY rfl ft (fun K hK=>?_);go_wp2_with fail;refine ce.o.mono ?_;rintro e9 dC ⟨bb,rfl,hbb,J⟩;have bu:=au ((aa.o.drew (ay aC aQ)).below (ay aC aQ) J);have ck:=cz.o dC bu.o (j2:Int);rw[decide_eq_false hm] at ck;have q0:=aF (w:=I.drew) p0 J;have q1:=aF (w:=I.drew) p1 J;have q5:=aF (w:=I.drew) p5 J;rw[ZL,ZL] at ak;refine hK.o _ _ (by exact⟨aF (w:=I.drew) p0 J,aF (w:=I.drew) p1 J,aF (w:=I.drew) p2 J,aF (w:=I.drew) p3 J,aF (w:=I.drew) p4 J,aF (w:=I.drew) p5 J,aF (w:=I.drew) p6 J,aF (w:=I.drew) p7 J,aF (w:=I.drew) p8 J,aF (w:=I.drew) p9 J,aF (w:=I.drew) x0 J,aF (w:=I.drew) y0 J,aF (w:=I.drew) m1 J,aF (w:=I.drew) t0 J,aF (w:=I.drew) t1 J,aF (w:=I.drew) t2 J,aF (w:=I.drew) t3 J,aF (w:=I.drew) t4 J,aF (w:=I.drew) t5 J,aF (w:=I.drew) a0 J,aF (w:=I.drew) a1 J,aF (w:=I.drew) a2 J,aF (w:=I.drew) b0 J,aF (w:=I.drew) b1 J,aF (w:=I.drew) b2 J,ck⟩) ?_;clear hK ce aa J lk ck a0 a1 a2 b0 b1 b2 t0 t1 t2 t3 t4 t5 m0 m1 m2 x0 x1 y0 y1 p0 p1 p2 p3 p4 p5 p6 p7 p8 p9;cases bb with
          | false=>
           have HX:=au (show ¬ PK T a b true ps 0 from fun h=>by
            obtain⟨-,-,-,-,-,-,k7,-⟩:=ak.o.1 (HI.o.1 h)
            cases hbb.2 k7)
           clear hbb q0 q1 q5
           (repeat(first|refine aW ?_|refine aX ?_))
           refine lex_nil ?_;go_wp2;go_ret;exact ag.o _ false ⟨(fun h=>by cases h),fun h=>absurd h.1 HX.o⟩ bu.o.bN
          | true=>
           have cg:=hbb.1 rfl;have ey:=au (show PK T a b true ps 0↔PK T a b true ps (i+1) from HI.o.trans ⟨fun h=>(ak.o.1 h).2.2.2.2.2.2.2,fun h=>ak.o.2 ⟨by omega,by rw[<-aq.o];omega,by omega,by rw[<-ar.o];omega,hm,eq.o,cg,h⟩⟩);obtain⟨c1,c2⟩:=Br bj.o cg;dsimp only at c1 c2;have eM:=au (de.o (i2:Int) ff);have dl:=au (bn.o ff);have eN:=au hm;clear hbb cg hm ak HI de bn
           (repeat(first|refine aW ?_|refine aX ?_))
           refine lex_nil ?_;go_upto_region 14 with (fail);refine aK (fun w'=>(ja w' z (.int .i64 (i2:Int)) (.int .i64 (j2:Int)))) fi fi (by exact⟨q0,q1⟩) ?_
           (repeat(first|refine aW ?_|refine aX ?_))
           refine lex_nil ?_;go_upto_region 15 with (fail);have dk:=au (show aI fh w8 (aj (kN ab lf) (aj (kN (ab+1) rt) (aj (av z (fX (i2:Int) (j2:Int) pK pL pR pC pD.c eA pD.L.length pc eB pD.M.length qc (bs pD.F)) 44) (aj (av af (gb (T.ord+sm)) 3) aS)))) dC.drew.drew from((bu.o.drew (ay aC aQ)).drew (ay aC aQ)).perm (by ac_rfl));obtain⟨F1,dc,-,ai⟩:=dk.o.take Dm aQ;obtain⟨e6,d2,a9⟩:=Ew dc eM.o;have cf:=au ((ai _ _ a9).perm (by ac_rfl:_=aj (kN (ab+1) rt) (aj (kN ab (lf++[(i2:Int)])) (aj (av z (fX (i2:Int) (j2:Int) pK pL pR pC pD.c eA pD.L.length pc eB pD.M.length qc (bs pD.F)) 44) (aj (av af (gb (T.ord+sm)) 3) aS)))));obtain⟨F2,ap,-,bi⟩:=cf.o.take Dm aQ;obtain⟨ef,du,az⟩:=Ew ap eN.o;have bm:=au ((bi _ _ az).perm (by ac_rfl:_=aj (av af (gb (T.ord+sm)) 3) (aj (av z (fX (i2:Int) (j2:Int) pK pL pR pC pD.c eA pD.L.length pc eB pD.M.length qc (bs pD.F)) 44) (aj (kN ab (lf++[(i2:Int)])) (aj (kN (ab+1) (rt++[(j2:Int)])) aS)))));have z1:=(bE cf.o.drop.drop).1.2.1;clear dc ai a9 F1 ap bi az F2 bu dk cf;refine gW [6,7] [0,0,0,1,1,1,1,2] (fun w'=>(ja w' z (.int .i64 (i2:Int)) (.int .i64 (j2:Int)))) (fun w'=>w'.cell? ⟨z,1,none⟩=some (.int .i64 (j2:Int))) (fun _=>True) (fun _=>True) (fun _ h=>h.2) (fun _ _=>trivial) (fun _ h=>h) fi fi fi fi (by exact⟨q0,q1⟩) ?_
           (repeat((first|refine fu ft ft ?_|((first|refine dR (v:=?_) ft ft ?_ ?_|refine dS (v:=?_) ft ft ?_ ?_|refine dU (v:=?_) ft ft ?_ ?_|refine dV (v:=?_) ft ft ?_ ?_|refine dW (v:=?_) ft ft ?_ ?_);rotate_left;(focus(intro w' ed;go_simp;(try with_reducible rfl);done))));try simp only[Act.put,Yy,YA,YB]))
           refine jI rfl ft (fun K hK=>?_);go_wp2_with fail;refine hK.o _ _ z1 ?_;clear hK z1 d2
           (repeat((first|refine fu ft ft ?_|((first|refine dR (v:=?_) ft ft ?_ ?_|refine dS (v:=?_) ft ft ?_ ?_|refine dU (v:=?_) ft ft ?_ ?_|refine dV (v:=?_) ft ft ?_ ?_|refine dW (v:=?_) ft ft ?_ ?_);rotate_left;(focus(intro w' ed;go_simp;(try with_reducible rfl);done))));try simp only[Act.put,Yy,YA,YB]))
           refine jJ rfl ft (fun K hK=>?_);go_wp2_with fail;refine hK.o _ _ trivial (pW ?_);clear hK du q0 q1 q5;go_upto_region 16 with (fail);obtain⟨FQ,an⟩:=bm.o.fst;have e5:=aB (i:=0) an rfl;have yf:=aP an;have y5:=(bE bm.o.drop).2.1.1;have HE:=au (show aI fh w8 (aj (av af (gb (T.ord+(sm+pC))) 3) (aj (av z (fX (i2:Int) (j2:Int) pK pL pR pC pD.c eA pD.L.length pc eB pD.M.length qc (bs pD.F)) 44) (aj (kN ab (lf++[(i2:Int)])) (aj (kN (ab+1) (rt++[(j2:Int)])) aS)))) (ef.setCell ⟨af,0,none⟩ (.int .i64 (T.ord+(sm+pC)))) from aJ bm.o aQ 0 (.int .i64 (T.ord+(sm+pC))));obtain⟨o1,o2⟩:=bv;have tw:wrap64 (T.ord+sm+pC)=T.ord+(sm+pC):=by rw[Zr _ ff];omega
           clear an FQ bm;go_wp2_with fail
           go_roundw
           case rel=>exact⟨i+1,by rw[bo.o.1],by rw[bo.o.2],by go_num,cq,ey.o,dl.o,by rw[bd.o];omega,by rw[bd.o];omega,by rw[bd.o,b9.o,cA.o];have h9:=HE.o.oM.drop;rw[<-tg] at h9 ⊢;exact h9⟩
           case measure=>simp[intOf];omega
    ·obtain rfl:nm=i:=by omega
     have dd:(ps.take nm).map (·.c)=ps.map (·.c)/\(ps.take nm).map (·.i)=ps.map (·.i)/\(ps.take nm).map (·.j)=ps.map (·.j):=by
      rw[<-cr.o,YO];exact⟨rfl,rfl,rfl⟩
     obtain⟨e1,e2,e3⟩:=dd;rw[e1] at eS eC HR;rw[e2,e3] at HR;have en:=au (show PK T a b true ps 0 from HI.o.2 (by rw[<-cr.o];exact Sm));clear e1 e2 e3 HI HL;have cJ:=wm (T:=T) (n:=a) (us:=ps.map (·.i));have cG:=wm (T:=T) (n:=b) (us:=ps.map (·.j));have cH:∀ d ∈ a.ws.map (bH T a.k),0<=d/\d<=1000:=fun d hd=>by obtain⟨y,-,rfl⟩:=List.mem_map.1 hd;exact mh bj.o _ _
     have cc:∀ d ∈ b.ws.map (bH T b.k),0<=d/\d<=1000:=fun d hd=>by obtain⟨y,-,rfl⟩:=List.mem_map.1 hd;exact mh bj.o _ _
     have cT:=sQ (us:=ps.map (·.i)) cH a.ws.length;have cX:=sQ (us:=ps.map (·.j)) cc b.ws.length;rw[cJ] at cT;rw[cG] at cX;rw[<-aq.o] at cT;rw[<-ar.o] at cX;obtain⟨o1,o2⟩:=bv;have cp:=au (fun (c0:Int) W F (h:aj (av af (gb c0) 3) (kN ab (ps.map (·.i))) W F) hD h0 h1=>wo (bc:=xd) h (ds:=a.ws.map (bH T a.k)) (B:=xB) hD (by rw[YI,<-aq.o];omega) cH h0 h1);have b3:=au (fun (c0:Int) W F (h:aj (av af (gb c0) 3) (kN (ab+1) (ps.map (·.j))) W F) hD h0 h1=>wo (bc:=yd) h (ds:=b.ws.map (bH T b.k)) (B:=yB) hD (by rw[YI,<-ar.o];omega) cc h0 h1);rw[YI,cJ,<-aq.o] at cp;rw[YI,cG,<-ar.o] at b3;clear cJ cG cH cc;generalize j5 T a (ps.map (·.i))=ra at *
     generalize j5 T b (ps.map (·.j))=rb at *
     generalize (ps.map (·.c)).sum=sm at *
     generalize ps.map (·.i)=lf at *
     generalize ps.map (·.j)=rt at *
     have dp:=au (fun (W0 W:World) (F:Nat->Prop) (h0:Below w8.heap.size w8 W0) (hF:∀ i,F i->w8.heap.size<=i) (hm:Mod F W0 W)=>(show iD W xB (a.ws.map (bH T a.k))/\iD W yB (b.ws.map (bH T b.k)) from by
      have J:Below w8.heap.size w8 W:=((Mod.of_below (F:=fun _=>False) h0).trans (G:=fun i=>w8.heap.size<=i) hm (fun _ _ h=>h.elim) (fun i hi h=>hF i h)).below (fun i hi h=>by omega)
      exact⟨(HN.o W J).1.dr,(HN.o W J).2.dr⟩))
     have cS:=HR.o.perm (by ac_rfl:_=aj (aj (av af (gb (T.ord+sm)) 3) (kN ab lf)) (aj (kN (ab+1) rt) aS));obtain⟨F,hF,ap,ai⟩:=cS.take aQ aQ;have dq:=au (cp.o (T.ord+sm) wr F hF (fun W hm=>(dp.o wr W F HR.o.bN (fun i h=>(ap i h).resolve_left (fun h=>h)) hm).1) ff ff);have db:=au ai;clear cS hF ap ai cp HR;go_wp2_with fail;refine dq.o.mono ?_;rintro e9 cC ⟨⟨v9,rfl⟩,hp⟩;have ct:=(db.o _ _ hp).perm (by ac_rfl:_=aj (aj (av af (gb (T.ord+sm+ra)) 3) (kN (ab+1) rt)) (aj (kN ab lf) aS));have a8:=au ct;obtain⟨F,hF,ap,ai⟩:=ct.take aQ aQ;have di:=au (b3.o (T.ord+sm+ra) cC F hF (fun W hm=>(dp.o cC W F a8.o.bN (fun i h=>(ap i h).resolve_left (fun h=>h)) hm).2) ff ff);have bx:=au ai;clear ct hF ap ai b3 db hp dq t0 t1 t2 t3 t4 t5 m0 m1 m2 x0 x1 y0 y1;obtain⟨t0,t1,t2,t3,t4,t5,m0,m1,m2,x0,x1,y0,y1⟩:=al.o cC a8.o.bN;clear a8;go_wp2_with fail;refine di.o.mono ?_;rintro e9 eb ⟨⟨v8,rfl⟩,hp⟩;have a3:=au (bx.o _ _ hp);clear bx hp di t0 t1 t2 t3 t4 t5 m0 m1 m2 x0 x1 y0 y1;obtain⟨t0,t1,t2,t3,t4,t5,m0,m1,m2,x0,x1,y0,y1⟩:=al.o eb a3.o.bN;obtain⟨FQ,an⟩:=(a3.o.perm (kP _ _ _)).fst;have q0:=aB (i:=0) an rfl;clear an FQ;by_cases hm:T.ord+sm+ra+rb=mc
     ·have tq:(T.ord+sm+ra+rb==mc)=true:=by rw[beq_iff_eq];exact hm
      have HX:=au (show PK T a b true ps 0/\mc=T.ord+sm+ra+rb from⟨en.o,hm.symm⟩);clear hm;go_wp2;go_ret;exact ag.o _ true ⟨fun _=>HX.o,fun _=>rfl⟩ a3.o.bN
     ·have tq:(T.ord+sm+ra+rb==mc)=false:=by rw[beq_eq_false_iff_ne];exact hm
      have HX:=au (fun (h:PK T a b true ps 0/\mc=T.ord+sm+ra+rb)=>hm h.2.symm);clear hm;go_wp2;go_ret;exact ag.o _ false ⟨(fun h=>by cases h),fun h=>absurd h HX.o⟩ a3.o.bN
theorem Sn{ta:TA}(hT:iR w T ta)(hz:LZ w){a b:bI}{An Bn Am:fj}{ca cb cm:Nat}(hA:fM w An a.ws)(hB:fM w Bn b.ws)(a7:a.ws.length<=1000000)(a5:b.ws.length<=1000000)(cy:∀ x ∈ a.ws,x.length<=1000000)(cN:∀ x ∈ b.ws,x.length<=1000000){mc:Int}{l:List (Pr × PA)}(hM:RZ w Am l)(ew:l.length<=1000)(cJ:∀ e ∈ l,e.1.d.L.length<=1000/\e.1.d.M.length<=1000):
  Calls Tryz.prog 16 #[eu T ta,ED a An ca,ED b Bn cb,.agg (gn mc false Am l.length cm)] w (xM w T a b ⟨mc,false,l.map (·.1)⟩):=by
 have h1:=aH (aI.begin w) aO (dh T ta) 25;have h2:=aH h1 aQ (gj a.k An a.ws.length ca) 28;have h3:=aH h2 aQ (gj b.k Bn b.ws.length cb) 28;have h4:=aH h3 aQ (gn mc false Am l.length cm) 31;simp only[YN] at h4;have H4:=au h4;have bj:=au (fun W X (h:aI fh w X W)=>(show Below w.heap.size w W from h.mod.below (fun _ _ h=>h)));have KA:=au (fun W (J:Below w.heap.size w W)=>(kM (n:=a) (cn:=ca) (hT.below J) (hz.below J) (aT hA J) a7 cy).mono fun e w' h=>sO h);have KB:=au (fun W (J:Below w.heap.size w W)=>(kM (n:=b) (cn:=cb) (hT.below J) (hz.below J) (aT hB J) a5 cN).mono fun e w' h=>sO h);have b6:=au (fun (ao:bC T=true) (a4:eZ a=true) (hv3:eZ b=true) W (J:Below w.heap.size w W) (i j:Nat) (hi:i<a.ws.length) (hj:j<b.ws.length) (u v:WW) (hu:jk W (dX T a.k (wd a i)) u) (hv:jk W (dX T b.k (wd b j)) v) (k:Nat) (hk:k<l.length)=>Dl (hT.below J) (hz.below J) (cy _ (lI hi)) (cN _ (lI hj)) (gI.2 ⟨(bR.1 a4).1 _ (lI hi),(bR.1 hv3).1 _ (lI hj),ao⟩) hu hv (p:=l[k].1) (pc:=l[k].2.ac) (qc:=l[k].2.bc) (hM.below J |>.all _ (YL hk)).1 ((hM.below J).all _ (YL hk)).2 (cJ _ (YL hk)).1 (cJ _ (YL hk)).2);have dp:=au (fun W (J:Below w.heap.size w W)=>hM.below J);clear hT hz hA hB a7 a5 cy cN h1 h2 h3 h4 hM cJ;unfold eu ED at *
 unfold dh at *
 generalize T.rs.length=n1 at *
 generalize T.ds.length=n2 at *
 generalize T.es.length=n3 at *
 obtain⟨la,a7⟩:∃ la,la=a.ws.length:=⟨_,rfl⟩;obtain⟨lb,a5⟩:∃ lb,lb=b.ws.length:=⟨_,rfl⟩;obtain⟨nm,cp⟩:∃ nm,nm=l.length:=⟨_,rfl⟩;have aq:=au a7;have ar:=au a5;have cR:=au cp;rw[<-a7] at H4 KA ⊢;rw[<-a5] at H4 KB ⊢;rw[<-cp] at H4 ew ⊢;clear a7 a5 cp;obtain⟨aA,ac,aD,ad,aE,ae⟩:=ta;dsimp only at H4 KA KB b6 ⊢;generalize el:(((w.alloc (.cells (fw aA n1 ac aD n2 ad aE n3 ae T.drop T.ord T.ini) 25)).alloc (.cells (gj a.k An la ca) 28)).alloc (.cells (gj b.k Bn lb cb) 28)).alloc (.cells (gn mc false Am nm cm) 31)=w4 at H4;generalize ei:w.heap.size+1=g5 at H4;generalize ez:g5+1=g6 at H4;generalize ea:g6+1=g7 at H4
 go_enter Tryz.func16,Tryz.ntmps16
 go_upto_region 1 with (fail);clear el ei ez ea;obtain⟨t0,t1,t2,t3,t4,t5⟩:=bZ H4.o.drop.drop.drop;obtain⟨s0,s1,sf⟩:=cZ H4.o.drop.drop;have dT:=au (KA.o w4 (bj.o _ _ H4.o));clear KA;go_wp2_with fail;refine dT.o.mono ?_;rintro e9 w5 ⟨xA,n,xc,xB,p,xd,o1,rfl,J,hov,hR⟩;have H5:=au (H4.o.below aQ J);have cc:=au hov;have cX:=au hR;clear dT J hov hR t0 t1 t2 t3 t4 t5 s0 s1 sf H4;have H6:=au (aH H5.o aQ (fL xA n xc xB p xd) 71);have cr:=au (show Below w5.heap.size w5 (w5.alloc (.cells (fL xA n xc xB p xd) 71)) from(YC _ _).alloc (YG _) _);dsimp only;go_upto_region 2 with (fail);generalize w5.alloc (.cells (fL xA n xc xB p xd) 71)=w6 at *
 clear H5;generalize dB:w5.heap.size=g9 at *
 have dL:=au dB;clear dB;obtain⟨t0,t1,t2,t3,t4,t5⟩:=bZ H6.o.drop.drop.drop.drop;obtain⟨s0,s1,sf⟩:=cZ H6.o.drop.drop;have cW:=au (KB.o w6 (bj.o _ _ H6.o));clear KB;go_wp2_with fail;refine cW.o.mono ?_;rintro e9 w7 ⟨yA,m,yc,yB,q,yd,o2,rfl,J,hov,hR⟩;have H7:=au (H6.o.below aQ J);have b8:=au hov;have dC:=au hR;have cA:=au (show Below w5.heap.size w5 w7 from by rw[dL.o];exact cr.o.trans (J.mono (YQ (o0 dL.o.symm) cr.o.size)));clear cW J hov hR t0 t1 t2 t3 t4 t5 s0 s1 sf H6 cr;have H8:=au (aH H7.o aQ (fL yA m yc yB q yd) 71);have er:=au (show Below w7.heap.size w7 (w7.alloc (.cells (fL yA m yc yB q yd) 71))/\w5.heap.size<=w7.heap.size from⟨(YC _ _).alloc (YG _) _,cA.o.size⟩);dsimp only;go_upto_region 3 with (fail);generalize w7.alloc (.cells (fL yA m yc yB q yd) 71)=w8 at *
 clear H7;generalize d1:w7.heap.size=aw at *
 have ej:=au d1;clear d1;cases o1 with
 | false=>
  have cG:=au (fun W J=>Ey (w:=w) (W:=W) (T:=T) (a:=a) (b:=b) (m:=⟨mc,false,l.map (·.1)⟩) (by unfold qD;rw[<-mj,<-cc.o];rfl) J);go_wp2;go_ret;exact cG.o _ (bj.o _ _ H8.o)
 | true=>
  cases o2 with
  | false=>
   have cG:=au (fun W J=>Ey (w:=w) (W:=W) (T:=T) (a:=a) (b:=b) (m:=⟨mc,false,l.map (·.1)⟩) (by unfold qD;rw[tj (eZ a),<-mj,<-b8.o];rfl) J);go_wp2;go_ret;exact cG.o _ (bj.o _ _ H8.o)
  | true=>
   obtain⟨hn,hp,fc,fe,l1,dA⟩:=cX.o rfl;obtain⟨hm,hq,fb,fa,l2,cQ⟩:=dC.o rfl;obtain rfl:la=n:=hn.symm;obtain rfl:la=p:=hp.symm;obtain rfl:lb=m:=hm.symm;obtain rfl:lb=q:=hq.symm;have ao:bC T=true/\eZ a=true:=by have h1:=cc.o;rw[eq_comm,YF] at h1;exact h1
   have a4:eZ b=true:=by have h1:=b8.o;rw[eq_comm,YF] at h1;exact h1.2
   have ek:=au (show qD T a b=true from by unfold qD;rw[ao.1,ao.2,a4];rfl);have be:Below w7.heap.size w7 w8:=by rw[ej.o];exact er.o.1
   have bm:=au ao.1;have e4:la<=6:=by rw[aq.o];exact(bR.1 ao.2).2.2
   have e5:lb<=6:=by rw[ar.o];exact(bR.1 a4).2.2
   have HN:=au (fun W (J:Below w8.heap.size w8 W)=>(show xJ W T a l1 xA xB/\xJ W T b l2 yA yB from by
    have h7:Below w7.heap.size w7 W:=be.trans (J.mono be.size)
    exact⟨dA.below (cA.o.trans (h7.mono cA.o.size)),cQ.below h7⟩))
   have em:=au (fun i (hi:i<la)=>xL (HN.o w8 (YC _ _)).1 (i:=i) (by rw[<-aq.o];exact hi));have d6:=au (fun i (hi:i<lb)=>xL (HN.o w8 (YC _ _)).2 (i:=i) (by rw[<-ar.o];exact hi));have cz:Below w.heap.size w w8:=bj.o _ _ H8.o;have HB:=au (fun W (J:Below w8.heap.size w8 W)=>cz.trans (J.mono cz.size));have KR:=au (fun W (J:Below w8.heap.size w8 W) (i j:Nat) (hi:i<la) (hj:j<lb) (u v:WW) hu hv (k:Nat) (hk:k<l.length)=>b6.o ao.1 ao.2 a4 W (HB.o W J) i j (by rw[<-aq.o];exact hi) (by rw[<-ar.o];exact hj) u v hu hv k hk);have dy:=au (dp.o w8 cz);obtain⟨t0,t1,t2,t3,t4,t5⟩:=bZ H8.o.drop.drop.drop.drop.drop;obtain⟨m0,m1,m2⟩:=dZ H8.o.drop.drop;obtain⟨x0,x1,-⟩:=cZ H8.o.drop;obtain⟨y0,y1,-⟩:=cZ H8.o;have al:=au (fun W (J:Below w8.heap.size w8 W)=>(show W.cell? ⟨w.heap.size,0,none⟩=some (.slice aA n1 ac)/\W.cell? ⟨w.heap.size,1,none⟩=some (.slice aD n2 ad)/\W.cell? ⟨w.heap.size,2,none⟩=some (.slice aE n3 ae)/\W.cell? ⟨w.heap.size,3,none⟩=some (.int .i64 T.drop)/\W.cell? ⟨w.heap.size,4,none⟩=some (.int .i64 T.ord)/\W.cell? ⟨w.heap.size,5,none⟩=some (.int .i64 T.ini)/\W.cell? ⟨g7,0,none⟩=some (.int .i64 mc)/\W.cell? ⟨g7,1,none⟩=some (.bool false)/\W.cell? ⟨g7,2,none⟩=some (.slice Am nm cm)/\W.cell? ⟨g9,0,none⟩=some (.slice xA la xc)/\W.cell? ⟨g9,1,none⟩=some (.slice xB la xd)/\(ja W aw (.slice yA lb yc) (.slice yB lb yd)) from⟨aF t0 J,aF t1 J,aF t2 J,aF t3 J,aF t4 J,aF t5 J,aF m0 J,aF m1 J,aF m2 J,aF x0 J,aF x1 J,aF y0 J,aF y1 J⟩));obtain⟨ps,br⟩:∃ ps,ps=l.map (·.1):=⟨_,rfl⟩;have eJ:=au br;have dF:ps.length=nm:=by rw[br,YI];exact cR.o.symm
   have cw:=au dF
   have dj:=au (show qU T a b ⟨mc,false,l.map (·.1)⟩↔PK T a b false ps 0/\mc=(0:Int)+(ps.map (·.c)).sum+j5 T a (ps.map (·.i))+j5 T b (ps.map (·.j)) from by
    rw[<-br];unfold qU vB;rw[MJ]
    simp[ek.o])
   have ag:=au (fun W (o:Bool) (h1:o=true↔PK T a b false ps 0/\mc=(0:Int)+(ps.map (·.c)).sum+j5 T a (ps.map (·.i))+j5 T b (ps.map (·.j))) (J:Below w8.heap.size w8 W)=>(show xM w T a b ⟨mc,false,l.map (·.1)⟩ (.returned (.bool o)) W from⟨o,rfl,h1.trans dj.o.symm,HB.o W J⟩));have bx:=eY.1 (eU.1 bm.o).1.2.2.2.1;clear dA cQ ao a4 be hn hp hm hq cX dC cc b8 dF br dp dj b6;have eS:∀ w:World,(Instr.makeMap 92 none).run Tryz.prog w=.ok (.map (some w.heap.size)) (w.alloc (.map #[] 0)):=fun w=>by kernel_rfl
   have cS:=aH (aI.begin w8) aO (gb 0) 3;have bi:=au cS;clear cS t0 t1 t2 t3 t4 t5 m0 m1 m2 x0 x1 y0 y1;go_upto_region 6 with (fail);generalize du:w8.heap.size=af at bi ⊢;generalize w8.alloc (.cells (gb 0) 3)=ci at *
   obtain⟨t0,t1,t2,t3,t4,t5,m0,m1,m2,x0,x1,y0,y1⟩:=al.o ci bi.o.bN;obtain⟨FQ,an⟩:=bi.o.fst;have q0:=aB (i:=0) an rfl;have qf:=aP an;have cV:=au (show aI fh w8 (aj (av af (gb (0:Int)) 3) aS) ci from bi.o);clear bi an FQ du;go_upto_region 8 with (fail);generalize ci=w9 at *
   clear q0 qf;have co:=(cV.o.fresh aQ (lX (kv:=Value.int .i64) w9)).fresh aQ (lX (kv:=Value.int .i64) (w9.alloc (.map #[] 0)));simp only[YN] at co;have b9:=au (co.perm (by show _=aj _ (aj (iE (Value.int .i64) _ []) (aj (iE (Value.int .i64) _ []) aS));ac_rfl:_=aj (av af (gb ((0:Int))) 3) (aj (kN w9.heap.size []) (aj (kN (w9.heap.size+1) []) aS))));clear co cV t0 t1 t2 t3 t4 t5 m0 m1 m2 x0 x1 y0 y1 H8;go_upto_region 9 with (fail);generalize (w9.alloc (.map #[] 0)).alloc (.map #[] 0)=eK at *
   generalize w9.heap.size=ab at *
   clear eS;obtain⟨t0,t1,t2,t3,t4,t5,m0,m1,m2,x0,x1,y0,y1⟩:=al.o eK b9.o.bN;go_wp2_with fail;clear t0 t1 t2 t3 t4 t5 m0 m1 m2 x0 x1 y0 y1;go_loopw [14,15,48] (fun a8 a6 kk wr=>∃ i:Nat,a8=.int .i64 (wu ps i)/\a6=.int .i64 (Il ps i)/\kk=.int .i64 i/\i<=nm/\(PK T a b false ps 0↔PK T a b false ps i)/\Xp ps i/\0<=((ps.take i).map (·.c)).sum/\((ps.take i).map (·.c)).sum<=26000*(i:Int)/\aI fh w8 (aj (av af (gb ((0:Int)+((ps.take i).map (·.c)).sum)) 3) (aj (kN ab ((ps.take i).map (·.i))) (aj (kN (ab+1) ((ps.take i).map (·.j))) aS))) wr) (fun _ _ kk _=>nm-(intOf kk).toNat)
   case atStart=>exact⟨0,rfl,rfl,rfl,YE _,jq,Ip,ZB _,ZB _,by show aI _ _ (aj (av af (gb ((0:Int)+0)) 3) _) _;rw[lh];exact b9.o⟩
   case round=>
    obtain⟨i,rfl,rfl,rfl,hi,hI,hL,eW,eI,hR⟩:=hrel;have HR:=au hR;have HI:=au hI;have HL:=au hL;clear b9 hR hI hL;obtain⟨t0,t1,t2,t3,t4,t5,m0,m1,m2,x0,x1,y0,y1⟩:=al.o wr HR.o.bN;have d2:(i:Int)<=1000:=by omega
    by_cases cv:i<nm
    ·have cE:i<l.length:=by rw[<-cR.o];exact cv
     have ax:i<ps.length:=by rw[cw.o];exact cv
     obtain⟨mb,mo,eE,hc⟩:=dy.o.at ff;have bh:=au (fun W J i' j' eN d7 u v hu hv=>KR.o W J i' j' eN d7 u v hu hv i cE);obtain⟨x,hx⟩:∃ x,x=l[i]:=⟨_,rfl⟩;have da:ps[i]=x.1:=by
      have h1:=eJ.o;subst h1;rw[ZA,hx]
     have ai:=au (MK (T:=T) (a:=a) (b:=b) (s:=false) ax);have bp:=au (rH ax);have bo:=au (fun h=>Iq ax HL.o h);have db:=au (show -1<=wu ps i from HL.o.1);have dg:=au (fun x h=>ML HL.o (x:=x) h);have bf:=au (Im ax);have cd:=au (rJ (fun p:Pr=>p.i) ax);have cC:=au (rJ (fun p:Pr=>p.j) ax);have am:∀ W,Below w8.heap.size w8 W->∀ k u,(mY x)[k]?=some u->W.cell? ⟨mb,mo+i*10+k,none⟩=some u:=fun W J k u hu=>hc W J i cE k u (by rw[<-hx];exact hu);rw[da] at ai bp bo bf cd cC;rw[<-hx] at bh;clear da hx hc cE ax HL;subst eE;obtain⟨⟨pI,pJ,pK,pL,pR,pC,pD⟩,⟨eA,pc,eB,qc⟩⟩:=x;dsimp only at ai bp bo bf cd cC bh;have c0:=am wr HR.o.bN 0 _ rfl;have c1:=am wr HR.o.bN 1 _ rfl;have c2:=am wr HR.o.bN 2 _ rfl;have c3:=am wr HR.o.bN 3 _ rfl;have c4:=am wr HR.o.bN 4 _ rfl;have c5:=am wr HR.o.bN 5 _ rfl;have c6:=am wr HR.o.bN 6 _ rfl;have c7:=am wr HR.o.bN 7 _ rfl;have c8:=am wr HR.o.bN 8 _ rfl;have c9:=am wr HR.o.bN 9 _ rfl;dsimp only at c0 c1 c2 c3 c4 c5 c6 c7 c8 c9;rw[ZM] at c0;clear am;unfold og at bh;dsimp only at bh;generalize eL:wu ps i=a8 at *
     generalize en:Il ps i=a6 at *
     generalize d4:(ps.take i).map (·.i)=lf at *
     generalize eg:(ps.take i).map (·.j)=rt at *
     generalize eM:((ps.take i).map (·.c)).sum=sm at *
     clear eL en d4 eg eM;have aa:=au (aH HR.o aQ (fX pI pJ pK pL pR pC pD.c eA pD.L.length pc eB pD.M.length qc (bs pD.F)) 44);have bv:=au (fun W (h:aI fh w8 (aj (av wr.heap.size (fX pI pJ pK pL pR pC pD.c eA pD.L.length pc eB pD.M.length qc (bs pD.F)) 44) (aj (av af (gb ((0:Int)+sm)) 3) (aj (kN ab lf) (aj (kN (ab+1) rt) aS)))) W) (x:Int)=>VT (h.perm (by ac_rfl:_=aj (kN (ab+1) rt) (aj (av wr.heap.size (fX pI pJ pK pL pR pC pD.c eA pD.L.length pc eB pD.M.length qc (bs pD.F)) 44) (aj (av af (gb ((0:Int)+sm)) 3) (aj (kN ab lf) aS))))) x);by_cases d0:pI<=a8
     ·have HX:=au (show ¬ PK T a b false ps 0 from fun h:PK T a b false ps 0=>by
       obtain⟨q1,q2,q3,q4,q5,q6,-,-⟩:=ai.o.1 (HI.o.1 h)
       omega)
      have ev:decide (pI<=a8)=true:=decide_eq_true d0;go_upto_region 12 with (fail);generalize wr.alloc (.cells (fX pI pJ pK pL pR pC pD.c eA pD.L.length pc eB pD.M.length qc (bs pD.F)) 44)=I at *
      generalize wr.heap.size=z at *
      clear t0 t1 t2 t3 t4 t5 m0 m1 m2 x0 x1 y0 y1 c0 c1 c2 c3 c4 c5 c6 c7 c8 c9 HR;obtain⟨t0,t1,t2,t3,t4,t5,m0,m1,m2,x0,x1,y0,y1⟩:=al.o I aa.o.bN;obtain⟨⟨p0,p1,p2,p3,p4⟩,⟨p5,p6,p7,p8,p9⟩,pf⟩:=bE aa.o
      refine aK (fun w'=>w'.cell? ⟨z,0,none⟩=some (.int .i64 pI)/\w'.cell? ⟨z,1,none⟩=some (.int .i64 pJ)/\w'.cell? ⟨z,2,none⟩=some (.int .i64 pK)/\w'.cell? ⟨z,3,none⟩=some (.int .i64 pL)/\w'.cell? ⟨z,4,none⟩=some (.int .i64 pR)/\w'.cell? ⟨z,5,none⟩=some (.int .i64 pC)/\w'.cell? ⟨z,6,none⟩=some (.int .i64 pD.c)/\w'.cell? ⟨z,7,none⟩=some (.slice eA pD.L.length pc)/\w'.cell? ⟨z,8,none⟩=some (.slice eB pD.M.length qc)/\w'.cell? ⟨z,9,none⟩=some (.string (bs pD.F))/\w'.cell? ⟨g9,0,none⟩=some (.slice xA la xc)/\w'.cell? ⟨aw,0,none⟩=some (.slice yA lb yc)/\w'.cell? ⟨g7,1,none⟩=some (.bool false)) fi fi (by exact⟨p0,p1,p2,p3,p4,p5,p6,p7,p8,p9,x0,y0,m1⟩) ?_
      (repeat(first|refine aW ?_|refine aX ?_))
      refine lex_nil ?_;clear t0 t1 t2 t3 t4 t5 m0 m1 m2 x0 x1 y0 y1 p0 p1 p2 p3 p4 p5 p6 p7 p8 p9;go_wp2;go_ret;exact ag.o _ false ⟨(fun h=>by cases h),fun h=>absurd h.1 HX.o⟩ (by exact(aa.o.bN).drew)
     ·have ev:decide (pI<=a8)=false:=decide_eq_false d0;have eV:0<=pI:=by have:=(db.o);omega
      by_cases d5:(la:Int)<=pI
      ·have HX:=au (show ¬ PK T a b false ps 0 from fun h:PK T a b false ps 0=>by
        obtain⟨q1,q2,q3,q4,q5,q6,-,-⟩:=ai.o.1 (HI.o.1 h)
        rw[<-aq.o] at q2;omega)
       have ed:decide ((la:Int)<=pI)=true:=decide_eq_true d5;go_upto_region 12 with (fail);generalize wr.alloc (.cells (fX pI pJ pK pL pR pC pD.c eA pD.L.length pc eB pD.M.length qc (bs pD.F)) 44)=I at *
       generalize wr.heap.size=z at *
       clear t0 t1 t2 t3 t4 t5 m0 m1 m2 x0 x1 y0 y1 c0 c1 c2 c3 c4 c5 c6 c7 c8 c9 HR;obtain⟨t0,t1,t2,t3,t4,t5,m0,m1,m2,x0,x1,y0,y1⟩:=al.o I aa.o.bN;obtain⟨⟨p0,p1,p2,p3,p4⟩,⟨p5,p6,p7,p8,p9⟩,pf⟩:=bE aa.o
       refine aK (fun w'=>w'.cell? ⟨z,0,none⟩=some (.int .i64 pI)/\w'.cell? ⟨z,1,none⟩=some (.int .i64 pJ)/\w'.cell? ⟨z,2,none⟩=some (.int .i64 pK)/\w'.cell? ⟨z,3,none⟩=some (.int .i64 pL)/\w'.cell? ⟨z,4,none⟩=some (.int .i64 pR)/\w'.cell? ⟨z,5,none⟩=some (.int .i64 pC)/\w'.cell? ⟨z,6,none⟩=some (.int .i64 pD.c)/\w'.cell? ⟨z,7,none⟩=some (.slice eA pD.L.length pc)/\w'.cell? ⟨z,8,none⟩=some (.slice eB pD.M.length qc)/\w'.cell? ⟨z,9,none⟩=some (.string (bs pD.F))/\w'.cell? ⟨g9,0,none⟩=some (.slice xA la xc)/\w'.cell? ⟨aw,0,none⟩=some (.slice yA lb yc)/\w'.cell? ⟨g7,1,none⟩=some (.bool false)) fi fi (by exact⟨p0,p1,p2,p3,p4,p5,p6,p7,p8,p9,x0,y0,m1⟩) ?_
       (repeat(first|refine aW ?_|refine aX ?_))
       refine lex_nil ?_;clear t0 t1 t2 t3 t4 t5 m0 m1 m2 x0 x1 y0 y1 p0 p1 p2 p3 p4 p5 p6 p7 p8 p9;go_wp2;go_ret;exact ag.o _ false ⟨(fun h=>by cases h),fun h=>absurd h.1 HX.o⟩ (by exact(aa.o.bN).drew)
      ·obtain⟨i2,rfl⟩:=px eV;have di:i2<la:=by omega
       have ed:decide (la<=i2)=false:=decide_eq_false ff;have e0:decide ((la:Int)<=(i2:Int))=false:=decide_eq_false ff;by_cases cf:pJ<0
       ·have HX:=au (show ¬ PK T a b false ps 0 from fun h:PK T a b false ps 0=>by
         obtain⟨q1,q2,q3,q4,q5,q6,-,-⟩:=ai.o.1 (HI.o.1 h)
         omega)
        have eb:decide (pJ<0)=true:=decide_eq_true cf;go_upto_region 12 with (fail);generalize wr.alloc (.cells (fX (i2:Int) pJ pK pL pR pC pD.c eA pD.L.length pc eB pD.M.length qc (bs pD.F)) 44)=I at *
        generalize wr.heap.size=z at *
        clear t0 t1 t2 t3 t4 t5 m0 m1 m2 x0 x1 y0 y1 c0 c1 c2 c3 c4 c5 c6 c7 c8 c9 HR;obtain⟨t0,t1,t2,t3,t4,t5,m0,m1,m2,x0,x1,y0,y1⟩:=al.o I aa.o.bN;obtain⟨⟨p0,p1,p2,p3,p4⟩,⟨p5,p6,p7,p8,p9⟩,pf⟩:=bE aa.o
        refine aK (fun w'=>w'.cell? ⟨z,0,none⟩=some (.int .i64 (i2:Int))/\w'.cell? ⟨z,1,none⟩=some (.int .i64 pJ)/\w'.cell? ⟨z,2,none⟩=some (.int .i64 pK)/\w'.cell? ⟨z,3,none⟩=some (.int .i64 pL)/\w'.cell? ⟨z,4,none⟩=some (.int .i64 pR)/\w'.cell? ⟨z,5,none⟩=some (.int .i64 pC)/\w'.cell? ⟨z,6,none⟩=some (.int .i64 pD.c)/\w'.cell? ⟨z,7,none⟩=some (.slice eA pD.L.length pc)/\w'.cell? ⟨z,8,none⟩=some (.slice eB pD.M.length qc)/\w'.cell? ⟨z,9,none⟩=some (.string (bs pD.F))/\w'.cell? ⟨g9,0,none⟩=some (.slice xA la xc)/\w'.cell? ⟨aw,0,none⟩=some (.slice yA lb yc)/\w'.cell? ⟨g7,1,none⟩=some (.bool false)) fi fi (by exact⟨p0,p1,p2,p3,p4,p5,p6,p7,p8,p9,x0,y0,m1⟩) ?_
        (repeat(first|refine aW ?_|refine aX ?_))
        refine lex_nil ?_;clear t0 t1 t2 t3 t4 t5 m0 m1 m2 x0 x1 y0 y1 p0 p1 p2 p3 p4 p5 p6 p7 p8 p9;go_wp2;go_ret;exact ag.o _ false ⟨(fun h=>by cases h),fun h=>absurd h.1 HX.o⟩ (by exact(aa.o.bN).drew)
       ·have eb:decide (pJ<0)=false:=decide_eq_false cf;by_cases ey:(lb:Int)<=pJ
        ·have HX:=au (show ¬ PK T a b false ps 0 from fun h:PK T a b false ps 0=>by
          obtain⟨q1,q2,q3,q4,q5,q6,-,-⟩:=ai.o.1 (HI.o.1 h)
          rw[<-ar.o] at q4;omega)
         have eq:decide ((lb:Int)<=pJ)=true:=decide_eq_true ey;go_upto_region 12 with (fail);generalize wr.alloc (.cells (fX (i2:Int) pJ pK pL pR pC pD.c eA pD.L.length pc eB pD.M.length qc (bs pD.F)) 44)=I at *
         generalize wr.heap.size=z at *
         clear t0 t1 t2 t3 t4 t5 m0 m1 m2 x0 x1 y0 y1 c0 c1 c2 c3 c4 c5 c6 c7 c8 c9 HR;obtain⟨t0,t1,t2,t3,t4,t5,m0,m1,m2,x0,x1,y0,y1⟩:=al.o I aa.o.bN;obtain⟨⟨p0,p1,p2,p3,p4⟩,⟨p5,p6,p7,p8,p9⟩,pf⟩:=bE aa.o
         refine aK (fun w'=>w'.cell? ⟨z,0,none⟩=some (.int .i64 (i2:Int))/\w'.cell? ⟨z,1,none⟩=some (.int .i64 pJ)/\w'.cell? ⟨z,2,none⟩=some (.int .i64 pK)/\w'.cell? ⟨z,3,none⟩=some (.int .i64 pL)/\w'.cell? ⟨z,4,none⟩=some (.int .i64 pR)/\w'.cell? ⟨z,5,none⟩=some (.int .i64 pC)/\w'.cell? ⟨z,6,none⟩=some (.int .i64 pD.c)/\w'.cell? ⟨z,7,none⟩=some (.slice eA pD.L.length pc)/\w'.cell? ⟨z,8,none⟩=some (.slice eB pD.M.length qc)/\w'.cell? ⟨z,9,none⟩=some (.string (bs pD.F))/\w'.cell? ⟨g9,0,none⟩=some (.slice xA la xc)/\w'.cell? ⟨aw,0,none⟩=some (.slice yA lb yc)/\w'.cell? ⟨g7,1,none⟩=some (.bool false)) fi fi (by exact⟨p0,p1,p2,p3,p4,p5,p6,p7,p8,p9,x0,y0,m1⟩) ?_
         (repeat(first|refine aW ?_|refine aX ?_))
         refine lex_nil ?_;clear t0 t1 t2 t3 t4 t5 m0 m1 m2 x0 x1 y0 y1 p0 p1 p2 p3 p4 p5 p6 p7 p8 p9;go_wp2;go_ret;exact ag.o _ false ⟨(fun h=>by cases h),fun h=>absurd h.1 HX.o⟩ (by exact(aa.o.bN).drew)
        ·obtain⟨j2,rfl⟩:=px (Int.not_lt.1 cf);have cP:j2<lb:=by omega
         have eq:decide (lb<=j2)=false:=decide_eq_false ff;have e6:decide ((lb:Int)<=(j2:Int))=false:=decide_eq_false ff;by_cases hm:(j2:Int) ∈ rt
         ·have HX:=au (show ¬ PK T a b false ps 0 from fun h:PK T a b false ps 0=>by
           obtain⟨q1,q2,q3,q4,q5,q6,-,-⟩:=ai.o.1 (HI.o.1 h)
           exact q5 hm)
          go_upto_region 12 with (fail);generalize wr.alloc (.cells (fX (i2:Int) (j2:Int) pK pL pR pC pD.c eA pD.L.length pc eB pD.M.length qc (bs pD.F)) 44)=I at *
          generalize wr.heap.size=z at *
          clear t0 t1 t2 t3 t4 t5 m0 m1 m2 x0 x1 y0 y1 c0 c1 c2 c3 c4 c5 c6 c7 c8 c9 HR;obtain⟨t0,t1,t2,t3,t4,t5,m0,m1,m2,x0,x1,y0,y1⟩:=al.o I aa.o.bN;obtain⟨⟨p0,p1,p2,p3,p4⟩,⟨p5,p6,p7,p8,p9⟩,pf⟩:=bE aa.o
          have lk:=bv.o I.drew (aa.o.drew (ay aC aQ)) ((j2:Int));rw[decide_eq_true hm] at lk;refine aK (fun w'=>w'.cell? ⟨z,0,none⟩=some (.int .i64 (i2:Int))/\w'.cell? ⟨z,1,none⟩=some (.int .i64 (j2:Int))/\w'.cell? ⟨z,2,none⟩=some (.int .i64 pK)/\w'.cell? ⟨z,3,none⟩=some (.int .i64 pL)/\w'.cell? ⟨z,4,none⟩=some (.int .i64 pR)/\w'.cell? ⟨z,5,none⟩=some (.int .i64 pC)/\w'.cell? ⟨z,6,none⟩=some (.int .i64 pD.c)/\w'.cell? ⟨z,7,none⟩=some (.slice eA pD.L.length pc)/\w'.cell? ⟨z,8,none⟩=some (.slice eB pD.M.length qc)/\w'.cell? ⟨z,9,none⟩=some (.string (bs pD.F))/\w'.cell? ⟨g9,0,none⟩=some (.slice xA la xc)/\w'.cell? ⟨aw,0,none⟩=some (.slice yA lb yc)/\w'.cell? ⟨g7,1,none⟩=some (.bool false)/\(Instr.lookup 92 (.map (some (ab+1))) (.int .i64 ((j2:Int))) false).run Tryz.prog w'=.ok (.bool true) w') fi fi (by exact⟨p0,p1,p2,p3,p4,p5,p6,p7,p8,p9,x0,y0,m1,lk⟩) ?_
          (repeat(first|refine aW ?_|refine aX ?_))
          refine lex_nil ?_;clear t0 t1 t2 t3 t4 t5 m0 m1 m2 x0 x1 y0 y1 p0 p1 p2 p3 p4 p5 p6 p7 p8 p9 lk;go_wp2;go_ret;exact ag.o _ false ⟨(fun h=>by cases h),fun h=>absurd h.1 HX.o⟩ (by exact(aa.o.bN).drew)
         ·by_cases dd:(j2:Int)<a6
          ·have HX:=au (show ¬ PK T a b false ps 0 from fun h:PK T a b false ps 0=>by
            obtain⟨q1,q2,q3,q4,q5,q6,-,-⟩:=ai.o.1 (HI.o.1 h);rcases q6 with q6|q6
            ·cases q6
            ·omega)
           have ee:decide ((j2:Int)<a6)=true:=decide_eq_true dd;go_upto_region 12 with (fail);generalize wr.alloc (.cells (fX (i2:Int) (j2:Int) pK pL pR pC pD.c eA pD.L.length pc eB pD.M.length qc (bs pD.F)) 44)=I at *
           generalize wr.heap.size=z at *
           clear t0 t1 t2 t3 t4 t5 m0 m1 m2 x0 x1 y0 y1 c0 c1 c2 c3 c4 c5 c6 c7 c8 c9 HR;obtain⟨t0,t1,t2,t3,t4,t5,m0,m1,m2,x0,x1,y0,y1⟩:=al.o I aa.o.bN;obtain⟨⟨p0,p1,p2,p3,p4⟩,⟨p5,p6,p7,p8,p9⟩,pf⟩:=bE aa.o
           have lk:=bv.o I.drew (aa.o.drew (ay aC aQ)) ((j2:Int));rw[decide_eq_false hm] at lk;refine aK (fun w'=>w'.cell? ⟨z,0,none⟩=some (.int .i64 (i2:Int))/\w'.cell? ⟨z,1,none⟩=some (.int .i64 (j2:Int))/\w'.cell? ⟨z,2,none⟩=some (.int .i64 pK)/\w'.cell? ⟨z,3,none⟩=some (.int .i64 pL)/\w'.cell? ⟨z,4,none⟩=some (.int .i64 pR)/\w'.cell? ⟨z,5,none⟩=some (.int .i64 pC)/\w'.cell? ⟨z,6,none⟩=some (.int .i64 pD.c)/\w'.cell? ⟨z,7,none⟩=some (.slice eA pD.L.length pc)/\w'.cell? ⟨z,8,none⟩=some (.slice eB pD.M.length qc)/\w'.cell? ⟨z,9,none⟩=some (.string (bs pD.F))/\w'.cell? ⟨g9,0,none⟩=some (.slice xA la xc)/\w'.cell? ⟨aw,0,none⟩=some (.slice yA lb yc)/\w'.cell? ⟨g7,1,none⟩=some (.bool false)/\(Instr.lookup 92 (.map (some (ab+1))) (.int .i64 ((j2:Int))) false).run Tryz.prog w'=.ok (.bool false) w') fi fi (by exact⟨p0,p1,p2,p3,p4,p5,p6,p7,p8,p9,x0,y0,m1,lk⟩) ?_
           (repeat(first|refine aW ?_|refine aX ?_))
           refine lex_nil ?_;clear t0 t1 t2 t3 t4 t5 m0 m1 m2 x0 x1 y0 y1 p0 p1 p2 p3 p4 p5 p6 p7 p8 p9 lk;go_wp2;go_ret;exact ag.o _ false ⟨(fun h=>by cases h),fun h=>absurd h.1 HX.o⟩ (by exact(aa.o.bN).drew)
          ·have ee:decide ((j2:Int)<a6)=false:=decide_eq_false dd;have et:=au (show false=true\/a6<=(j2:Int) from .inr ff);go_upto_region 12 with (fail);generalize wr.alloc (.cells (fX (i2:Int) (j2:Int) pK pL pR pC pD.c eA pD.L.length pc eB pD.M.length qc (bs pD.F)) 44)=I at *
           generalize wr.heap.size=z at *
           clear t0 t1 t2 t3 t4 t5 m0 m1 m2 x0 x1 y0 y1 c0 c1 c2 c3 c4 c5 c6 c7 c8 c9 HR;obtain⟨t0,t1,t2,t3,t4,t5,m0,m1,m2,x0,x1,y0,y1⟩:=al.o I aa.o.bN;obtain⟨⟨p0,p1,p2,p3,p4⟩,⟨p5,p6,p7,p8,p9⟩,pf⟩:=bE aa.o;obtain⟨u,xb,xo,d8,b7⟩:=em.o i2 di;obtain⟨v,yb,yo,eo,ck⟩:=d6.o j2 cP;obtain⟨uw,bn⟩:∃ uw,uw=dX T a.k (wd a i2):=⟨_,rfl⟩;obtain⟨vw,bu⟩:∃ vw,vw=dX T b.k (wd b j2):=⟨_,rfl⟩;rw[<-bn] at b7;rw[<-bu] at ck;obtain⟨bz,a0,a1,a2⟩:=b7 I aa.o.bN;obtain⟨b4,b0,b1,b2⟩:=ck I aa.o.bN;have cg:=au (bh.o I.drew (aa.o.bN.drew) i2 j2 di cP u v (by rw[<-bn];exact bz.below (dO (YC _ _))) (by rw[<-bu];exact b4.below (dO (YC _ _))));rw[<-bn,<-bu] at cg;clear b7 ck bn bu bz b4;subst d8;subst eo;have lk:=bv.o I.drew (aa.o.drew (ay aC aQ)) ((j2:Int));rw[decide_eq_false hm] at lk;refine aK (fun w'=>w'.cell? ⟨z,0,none⟩=some (.int .i64 (i2:Int))/\w'.cell? ⟨z,1,none⟩=some (.int .i64 (j2:Int))/\w'.cell? ⟨z,2,none⟩=some (.int .i64 pK)/\w'.cell? ⟨z,3,none⟩=some (.int .i64 pL)/\w'.cell? ⟨z,4,none⟩=some (.int .i64 pR)/\w'.cell? ⟨z,5,none⟩=some (.int .i64 pC)/\w'.cell? ⟨z,6,none⟩=some (.int .i64 pD.c)/\w'.cell? ⟨z,7,none⟩=some (.slice eA pD.L.length pc)/\w'.cell? ⟨z,8,none⟩=some (.slice eB pD.M.length qc)/\w'.cell? ⟨z,9,none⟩=some (.string (bs pD.F))/\w'.cell? ⟨g9,0,none⟩=some (.slice (some ⟨xb,xo,none⟩) la xc)/\w'.cell? ⟨aw,0,none⟩=some (.slice (some ⟨yb,yo,none⟩) lb yc)/\w'.cell? ⟨g7,1,none⟩=some (.bool false)/\w'.cell? ⟨w.heap.size,0,none⟩=some (.slice aA n1 ac)/\w'.cell? ⟨w.heap.size,1,none⟩=some (.slice aD n2 ad)/\w'.cell? ⟨w.heap.size,2,none⟩=some (.slice aE n3 ae)/\w'.cell? ⟨w.heap.size,3,none⟩=some (.int .i64 T.drop)/\w'.cell? ⟨w.heap.size,4,none⟩=some (.int .i64 T.ord)/\w'.cell? ⟨w.heap.size,5,none⟩=some (.int .i64 T.ini)/\w'.cell? ⟨xb,xo+i2*3,none⟩=some (.int .i64 uw.k)/\w'.cell? ⟨xb,xo+i2*3+1,none⟩=some (.slice u.V uw.vs.length u.vc)/\w'.cell? ⟨xb,xo+i2*3+2,none⟩=some (.slice u.L uw.ls.length u.lc)/\w'.cell? ⟨yb,yo+j2*3,none⟩=some (.int .i64 vw.k)/\w'.cell? ⟨yb,yo+j2*3+1,none⟩=some (.slice v.V vw.vs.length v.vc)/\w'.cell? ⟨yb,yo+j2*3+2,none⟩=some (.slice v.L vw.ls.length v.lc)/\(Instr.lookup 92 (.map (some (ab+1))) (.int .i64 ((j2:Int))) false).run Tryz.prog w'=.ok (.bool false) w') fi fi (by exact⟨p0,p1,p2,p3,p4,p5,p6,p7,p8,p9,x0,y0,m1,t0,t1,t2,t3,t4,t5,a0,a1,a2,b0,b1,b2,lk⟩) ?_
           (repeat(first|refine aW ?_|refine aX ?_))
           refine bY rfl ft (fun K hK=>?_);go_wp2_with fail;refine cg.o.mono ?_;rintro e9 dE ⟨bb,rfl,hbb,J⟩;have bw:=au ((aa.o.drew (ay aC aQ)).below (ay aC aQ) J);have cq:=bv.o dE bw.o (j2:Int);rw[decide_eq_false hm] at cq;have q0:=aF (w:=I.drew) p0 J;have q1:=aF (w:=I.drew) p1 J;have q5:=aF (w:=I.drew) p5 J;rw[ZL,ZL] at ai;refine hK.o _ _ (by exact⟨aF (w:=I.drew) p0 J,aF (w:=I.drew) p1 J,aF (w:=I.drew) p2 J,aF (w:=I.drew) p3 J,aF (w:=I.drew) p4 J,aF (w:=I.drew) p5 J,aF (w:=I.drew) p6 J,aF (w:=I.drew) p7 J,aF (w:=I.drew) p8 J,aF (w:=I.drew) p9 J,aF (w:=I.drew) x0 J,aF (w:=I.drew) y0 J,aF (w:=I.drew) m1 J,aF (w:=I.drew) t0 J,aF (w:=I.drew) t1 J,aF (w:=I.drew) t2 J,aF (w:=I.drew) t3 J,aF (w:=I.drew) t4 J,aF (w:=I.drew) t5 J,aF (w:=I.drew) a0 J,aF (w:=I.drew) a1 J,aF (w:=I.drew) a2 J,aF (w:=I.drew) b0 J,aF (w:=I.drew) b1 J,aF (w:=I.drew) b2 J,cq⟩) ?_;clear hK cg aa J lk cq a0 a1 a2 b0 b1 b2 t0 t1 t2 t3 t4 t5 m0 m1 m2 x0 x1 y0 y1 p0 p1 p2 p3 p4 p5 p6 p7 p8 p9;cases bb with
           | false=>
            have HX:=au (show ¬ PK T a b false ps 0 from fun h=>by
             obtain⟨-,-,-,-,-,-,k7,-⟩:=ai.o.1 (HI.o.1 h)
             cases hbb.2 k7)
            clear hbb q0 q1 q5
            (repeat(first|refine aW ?_|refine aX ?_))
            refine lex_nil ?_;go_wp2;go_ret;exact ag.o _ false ⟨(fun h=>by cases h),fun h=>absurd h.1 HX.o⟩ bw.o.bN
           | true=>
            have cj:=hbb.1 rfl;have eC:=au (show PK T a b false ps 0↔PK T a b false ps (i+1) from HI.o.trans ⟨fun h=>(ai.o.1 h).2.2.2.2.2.2.2,fun h=>ai.o.2 ⟨by omega,by rw[<-aq.o];omega,by omega,by rw[<-ar.o];omega,hm,et.o,cj,h⟩⟩);obtain⟨c1,c2⟩:=Br bm.o cj;dsimp only at c1 c2;have eQ:=au (dg.o (i2:Int) ff);have dm:=au (bo.o ff);have eR:=au hm;clear hbb cj hm ai HI dg bo
            (repeat(first|refine aW ?_|refine aX ?_))
            refine lex_nil ?_;go_upto_region 14 with (fail);refine aK (fun w'=>(ja w' z (.int .i64 (i2:Int)) (.int .i64 (j2:Int)))) fi fi (by exact⟨q0,q1⟩) ?_
            (repeat(first|refine aW ?_|refine aX ?_))
            refine lex_nil ?_;go_upto_region 15 with (fail);have dl:=au (show aI fh w8 (aj (kN ab lf) (aj (kN (ab+1) rt) (aj (av z (fX (i2:Int) (j2:Int) pK pL pR pC pD.c eA pD.L.length pc eB pD.M.length qc (bs pD.F)) 44) (aj (av af (gb ((0:Int)+sm)) 3) aS)))) dE.drew.drew from((bw.o.drew (ay aC aQ)).drew (ay aC aQ)).perm (by ac_rfl));obtain⟨F1,de,-,ak⟩:=dl.o.take Dm aQ;obtain⟨e8,d3,bd⟩:=Ew de eQ.o;have ch:=au ((ak _ _ bd).perm (by ac_rfl:_=aj (kN (ab+1) rt) (aj (kN ab (lf++[(i2:Int)])) (aj (av z (fX (i2:Int) (j2:Int) pK pL pR pC pD.c eA pD.L.length pc eB pD.M.length qc (bs pD.F)) 44) (aj (av af (gb ((0:Int)+sm)) 3) aS)))));obtain⟨F2,ap,-,bk⟩:=ch.o.take Dm aQ;obtain⟨eh,dw,az⟩:=Ew ap eR.o;have ba:=au ((bk _ _ az).perm (by ac_rfl:_=aj (av af (gb ((0:Int)+sm)) 3) (aj (av z (fX (i2:Int) (j2:Int) pK pL pR pC pD.c eA pD.L.length pc eB pD.M.length qc (bs pD.F)) 44) (aj (kN ab (lf++[(i2:Int)])) (aj (kN (ab+1) (rt++[(j2:Int)])) aS)))));have z1:=(bE ch.o.drop.drop).1.2.1;clear de ak bd F1 ap bk az F2 bw dl ch;refine gW [6,7] [0,0,0,1,1,1,1,2] (fun w'=>(ja w' z (.int .i64 (i2:Int)) (.int .i64 (j2:Int)))) (fun w'=>w'.cell? ⟨z,1,none⟩=some (.int .i64 (j2:Int))) (fun _=>True) (fun _=>True) (fun _ h=>h.2) (fun _ _=>trivial) (fun _ h=>h) fi fi fi fi (by exact⟨q0,q1⟩) ?_
            (repeat((first|refine fu ft ft ?_|((first|refine dR (v:=?_) ft ft ?_ ?_|refine dS (v:=?_) ft ft ?_ ?_|refine dU (v:=?_) ft ft ?_ ?_|refine dV (v:=?_) ft ft ?_ ?_|refine dW (v:=?_) ft ft ?_ ?_);rotate_left;(focus(intro w' ef;go_simp;(try with_reducible rfl);done))));try simp only[Act.put,Yy,YA,YB]))
            refine jI rfl ft (fun K hK=>?_);go_wp2_with fail;refine hK.o _ _ z1 ?_;clear hK z1 d3
            (repeat((first|refine fu ft ft ?_|((first|refine dR (v:=?_) ft ft ?_ ?_|refine dS (v:=?_) ft ft ?_ ?_|refine dU (v:=?_) ft ft ?_ ?_|refine dV (v:=?_) ft ft ?_ ?_|refine dW (v:=?_) ft ft ?_ ?_);rotate_left;(focus(intro w' ef;go_simp;(try with_reducible rfl);done))));try simp only[Act.put,Yy,YA,YB]))
            refine jJ rfl ft (fun K hK=>?_);go_wp2_with fail;refine hK.o _ _ trivial (pW ?_);clear hK dw q0 q1 q5;go_upto_region 16 with (fail);obtain⟨FQ,an⟩:=ba.o.fst;have e7:=aB (i:=0) an rfl;have yf:=aP an;have y5:=(bE ba.o.drop).2.1.1;have HE:=au (show aI fh w8 (aj (av af (gb ((0:Int)+(sm+pC))) 3) (aj (av z (fX (i2:Int) (j2:Int) pK pL pR pC pD.c eA pD.L.length pc eB pD.M.length qc (bs pD.F)) 44) (aj (kN ab (lf++[(i2:Int)])) (aj (kN (ab+1) (rt++[(j2:Int)])) aS)))) (eh.setCell ⟨af,0,none⟩ (.int .i64 ((0:Int)+(sm+pC)))) from aJ ba.o aQ 0 (.int .i64 ((0:Int)+(sm+pC))));obtain⟨o1,o2⟩:=bx;have tw:wrap64 ((0:Int)+sm+pC)=(0:Int)+(sm+pC):=by rw[Zr _ ff];omega
            have fd:wrap64 (sm+pC)=sm+pC:=Zr _ ff;simp only[kj] at tw ba HE;clear tw;clear an FQ ba;go_wp2_with fail
            go_roundw
            case rel=>exact⟨i+1,by rw[bp.o.1],by rw[bp.o.2],by go_num,cv,eC.o,dm.o,by rw[bf.o];omega,by rw[bf.o];omega,by rw[bf.o,cd.o,cC.o];rw[kj];exact HE.o.oM.drop⟩
            case measure=>simp[intOf];omega
    ·obtain rfl:nm=i:=by omega
     have df:(ps.take nm).map (·.c)=ps.map (·.c)/\(ps.take nm).map (·.i)=ps.map (·.i)/\(ps.take nm).map (·.j)=ps.map (·.j):=by
      rw[<-cw.o,YO];exact⟨rfl,rfl,rfl⟩
     obtain⟨e1,e2,e3⟩:=df;rw[e1] at eW eI HR;rw[e2,e3] at HR;have ep:=au (show PK T a b false ps 0 from HI.o.2 (by rw[<-cw.o];exact Sm));clear e1 e2 e3 HI HL;have cL:=wm (T:=T) (n:=a) (us:=ps.map (·.i));have cH:=wm (T:=T) (n:=b) (us:=ps.map (·.j));have cI:∀ d ∈ a.ws.map (bH T a.k),0<=d/\d<=1000:=fun d hd=>by obtain⟨y,-,rfl⟩:=List.mem_map.1 hd;exact mh bm.o _ _
     have ce:∀ d ∈ b.ws.map (bH T b.k),0<=d/\d<=1000:=fun d hd=>by obtain⟨y,-,rfl⟩:=List.mem_map.1 hd;exact mh bm.o _ _
     have cU:=sQ (us:=ps.map (·.i)) cI a.ws.length;have cY:=sQ (us:=ps.map (·.j)) ce b.ws.length;rw[cL] at cU;rw[cH] at cY;rw[<-aq.o] at cU;rw[<-ar.o] at cY;obtain⟨o1,o2⟩:=bx;have ct:=au (fun (c0:Int) W F (h:aj (av af (gb c0) 3) (kN ab (ps.map (·.i))) W F) hD h0 h1=>wo (bc:=xd) h (ds:=a.ws.map (bH T a.k)) (B:=xB) hD (by rw[YI,<-aq.o];omega) cI h0 h1);have b5:=au (fun (c0:Int) W F (h:aj (av af (gb c0) 3) (kN (ab+1) (ps.map (·.j))) W F) hD h0 h1=>wo (bc:=yd) h (ds:=b.ws.map (bH T b.k)) (B:=yB) hD (by rw[YI,<-ar.o];omega) ce h0 h1);rw[YI,cL,<-aq.o] at ct;rw[YI,cH,<-ar.o] at b5;clear cL cH cI ce;generalize j5 T a (ps.map (·.i))=ra at *
     generalize j5 T b (ps.map (·.j))=rb at *
     generalize (ps.map (·.c)).sum=sm at *
     generalize ps.map (·.i)=lf at *
     generalize ps.map (·.j)=rt at *
     have dq:=au (fun (W0 W:World) (F:Nat->Prop) (h0:Below w8.heap.size w8 W0) (hF:∀ i,F i->w8.heap.size<=i) (hm:Mod F W0 W)=>(show iD W xB (a.ws.map (bH T a.k))/\iD W yB (b.ws.map (bH T b.k)) from by
      have J:Below w8.heap.size w8 W:=((Mod.of_below (F:=fun _=>False) h0).trans (G:=fun i=>w8.heap.size<=i) hm (fun _ _ h=>h.elim) (fun i hi h=>hF i h)).below (fun i hi h=>by omega)
      exact⟨(HN.o W J).1.dr,(HN.o W J).2.dr⟩))
     have cT:=HR.o.perm (by ac_rfl:_=aj (aj (av af (gb ((0:Int)+sm)) 3) (kN ab lf)) (aj (kN (ab+1) rt) aS));obtain⟨F,hF,ap,ak⟩:=cT.take aQ aQ;have dt:=au (ct.o ((0:Int)+sm) wr F hF (fun W hm=>(dq.o wr W F HR.o.bN (fun i h=>(ap i h).resolve_left (fun h=>h)) hm).1) ff ff);have dc:=au ak;clear cT hF ap ak ct HR;go_wp2_with fail;refine dt.o.mono ?_;rintro e9 cD ⟨⟨v9,rfl⟩,hp⟩;have cx:=(dc.o _ _ hp).perm (by ac_rfl:_=aj (aj (av af (gb ((0:Int)+sm+ra)) 3) (kN (ab+1) rt)) (aj (kN ab lf) aS));have a9:=au cx;obtain⟨F,hF,ap,ak⟩:=cx.take aQ aQ;have dk:=au (b5.o ((0:Int)+sm+ra) cD F hF (fun W hm=>(dq.o cD W F a9.o.bN (fun i h=>(ap i h).resolve_left (fun h=>h)) hm).2) ff ff);have b3:=au ak;clear cx hF ap ak b5 dc hp dt t0 t1 t2 t3 t4 t5 m0 m1 m2 x0 x1 y0 y1;obtain⟨t0,t1,t2,t3,t4,t5,m0,m1,m2,x0,x1,y0,y1⟩:=al.o cD a9.o.bN;clear a9;go_wp2_with fail;refine dk.o.mono ?_;rintro e9 ec ⟨⟨v8,rfl⟩,hp⟩;have a3:=au (b3.o _ _ hp);clear b3 hp dk t0 t1 t2 t3 t4 t5 m0 m1 m2 x0 x1 y0 y1;obtain⟨t0,t1,t2,t3,t4,t5,m0,m1,m2,x0,x1,y0,y1⟩:=al.o ec a3.o.bN;obtain⟨FQ,an⟩:=(a3.o.perm (kP _ _ _)).fst;have q0:=aB (i:=0) an rfl;clear an FQ;by_cases hm:(0:Int)+sm+ra+rb=mc
     ·have tq:((0:Int)+sm+ra+rb==mc)=true:=by rw[beq_iff_eq];exact hm
      have HX:=au (show PK T a b false ps 0/\mc=(0:Int)+sm+ra+rb from⟨ep.o,hm.symm⟩);simp only[kj] at tq;clear hm;go_wp2;go_ret;exact ag.o _ true ⟨fun _=>HX.o,fun _=>rfl⟩ a3.o.bN
     ·have tq:((0:Int)+sm+ra+rb==mc)=false:=by rw[beq_eq_false_iff_ne];exact hm
      have HX:=au (fun (h:PK T a b false ps 0/\mc=(0:Int)+sm+ra+rb)=>hm h.2.symm);simp only[kj] at tq;clear hm;go_wp2;go_ret;exact ag.o _ false ⟨(fun h=>by cases h),fun h=>absurd h HX.o⟩ a3.o.bN
end Go.Proofs.YtbnnlpjpnihheaaGreatDoor
