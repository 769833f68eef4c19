/- A part of the proof: lemmas. -/
import Derived.Test.YtbioiclabmbedaaGreatDoorSI6
import Derived.Test.YtbioiclabmbedaaGreatDoorSI3
set_option maxHeartbeats 16000000
set_option maxRecDepth 100000
set_option linter.all false
namespace Go.Proofs.YtbioiclabmbedaaGreatDoor
open Go.RowKit Go.CH Go.CH.Scr Go.CH.dh Go.CH.Mtc
open Go.ChangeMaps (setBlock)
def Xf (w:World) (k:Int) (l:Bs) (e:Ending) (w':World):Prop:=
 ∃ A c,e=.returned (.slice A (bP k l).length c)/\Below w.heap.size w w'/\fB w' A (bP k l)/\(bP k l).length<=c
theorem IX (k:Int) (s:ByteArray) (w:World) (hs:s.size<=1000000) (J:LZ w):Calls Tryz.prog 81 #[.int .i64 k,.string s] w (Xf w k (bl s)):=by
 have h:=au (tF k s w hs J);have HZ:=au J;clear J;by_cases I:word k (bl s)=true
 ·have e1:iw k (bl s)=(lower (bl s),0):=by unfold iw;rw[if_pos I]
  have e2:bC k (lower (bl s))=((aP k (lower (bl s))).1,0):=by unfold bC;rw[if_pos (iV I)]
  have M:bP k (bl s)=(aP k (lower (bl s))).1:=uX I;have KL:=au (fun W (J:LZ W)=>Fh k (bs (lower (bl s))) W (by rw[cu];unfold lower;rw[gh,qg];exact hs) J);simp only[iM] at KL;unfold Uy at KL;simp only[e2] at KL;unfold aS at h;simp only[e1] at h;unfold Xf;rw[M];clear e1 e2 M I
  go_enter Tryz.func81,Tryz.ntmps81
  go_wp2_with fail;refine h.o.mono ?_;rintro e9 w1 ⟨rfl,hb⟩;have HB:=au hb;have aa:=au (KL.o w1 (HZ.o.below hb));clear h KL hb;dsimp only;go_wp2_with fail;refine aa.o.mono ?_;rintro e9 w2 ⟨A,c,rfl,hb,hA,hc⟩;have ab:=au (aF HB.o hb);have HA:=au hA;have HC:=au hc;clear aa HB hb hA hc;dsimp only;go_wp2;go_ret;exact⟨A,c,rfl,ab.o,HA.o,HC.o⟩
 ·have e1:iw k (bl s)=([],1):=by unfold iw;rw[if_neg I]
  have M:bP k (bl s)=[]:=by unfold bP;rw[if_neg I]
  unfold aS at h;simp only[e1] at h;unfold Xf;rw[M];clear e1 M I
  go_enter Tryz.func81,Tryz.ntmps81
  go_wp2_with fail;refine h.o.mono ?_;rintro e9 w1 ⟨rfl,hb⟩;have HB:=au hb;clear h hb;dsimp only;go_wp2;go_ret;exact⟨none,0,rfl,HB.o,Src.none_,fy _⟩
theorem Ba (k:Int) (x:Bs) (w:World) (hs:x.length<=1000000) (hz:LZ w):Calls Tryz.prog 81 #[.int .i64 k,.string (bs x)] w (Xf w k x):=by
 have:=IX k (bs x) w (by rw[cu];exact hs) hz;rw[iM] at this;exact this
theorem QE (k:Int) (x:Bs) (w:World) (hs:x.length<=1000000) (hz:LZ w):Calls Tryz.prog 56 #[.int .i64 k,.string (bs x)] w (aS w (.tuple #[.string (bs (iw k x).1),.int .i64 (iw k x).2])):=by
 have:=tF k (bs x) w (by rw[cu];exact hs) hz;rw[iM] at this;exact this
theorem Mf:∀ l:List Bs,Lib.join l []=l.flatten
 | []=>rfl
 | x::l=>by
  rw[Lib.join_cons,Fs];congr 1;unfold Lib.joinTail;congr 1;exact(nt (fun y _=>l4 y)).trans (AH _)
variable {w:World}{A:eV}{c n:Nat}{T:eW}{k:Int}
theorem Mg    {l:List Bs} (hA:fB w A l) (hc:l.length<=c) (hl:l.length<=1000000) (hf:l.flatten.length<=1000000000) :
  Calls Tryz.prog 82 #[.slice A l.length c,.string ⟨#[]⟩] w (aS w (.string (bs l.flatten))):=by
 by_cases h0:0<l.length
 ·obtain⟨b,o,rfl,J⟩:=hA.at h0;have e1:((l.map bs).map (·.data.toList))=l:=by rw[qq];exact List.map_id'' (fun x=>iM x) _
  have h:=Tryz.strings_Join b o c (l.map bs) ⟨#[]⟩ w (fun j x I=>by
   rw[lz] at I;cases hj:l[j]? with
   | none=>rw[hj] at I;cases I
   | some y=>
    rw[hj] at I;have I:some (bs y)=some x:=I;injection I with I
    obtain⟨aa,M⟩:=List.getElem?_eq_some_iff.1 hj
    rw[J w (fe _ _) j aa,M,I]) (by have:=J w (fe _ _) 0 h0;exact py _ _ this) (by rw[gh];omega) (by rw[gh];exact hc) (by
    rw[e1]
    show(Lib.join l []).length<=_
    rw[Mf];omega)
  rw[e1,gh] at h;refine h.mono ?_;rintro e w' ⟨rfl,hb⟩;refine⟨?_,hb⟩
  show Ending.returned (.string ⟨(Lib.join l []).toArray⟩)=_
  rw[Mf];rfl
 ·have e:l=[]:=sC eL;subst e;refine(Tryz.strings_Join_none A c ⟨#[]⟩ w).mono ?_;rintro e w' ⟨rfl,rfl⟩;exact⟨rfl,fe _ _⟩
def o7 (T:eW) (k:Int) (x:Bs):Int × Int:=if word k x&&bL T then(bQ T k x,0) else(0,1)
theorem Xg   {x:Bs}  (hn:n<T.ds.length) (hb:∀ j (h:j<T.ds.length),j<n->¬ (T.ds[j].k=k/\T.ds[j].w=lower x)) (I:T.ds[n].k=k/\T.ds[n].w=lower x):bQ T k x=T.ds[n].c:=by
 unfold bQ;have:T.ds.find? (fun d=>decide (d.k=k)&&decide (d.w=lower x))=some T.ds[n]:=by
  rw[MD];refine⟨by simp[I.1,I.2],n,hn,rfl,fun j hj=>?_⟩;have:=hb j eL hj;simp only[tc,B7,decide_eq_false_iff_not];by_cases J:T.ds[j].k=k
  ·exact .inr fun M=>this ⟨J,M⟩
  ·exact .inl J
 rw[this]
theorem Tn   {x:Bs} (I:∀ j (h:j<T.ds.length),¬ (T.ds[j].k=k/\T.ds[j].w=lower x)):bQ T k x=T.drop:=by
 unfold bQ;have:T.ds.find? (fun d=>decide (d.k=k)&&decide (d.w=lower x))=none:=by
  rw[Cp];intro d hd;obtain⟨j,J,rfl⟩:=List.mem_iff_getElem.1 hd;have:=I j J;simp only[gA,decide_eq_true_eq];exact this
 rw[this]
theorem yP   {a:TA} (hT:kr w T a) (hz:LZ w) (k:Int) (x:Bs) (hx:x.length<=1000000) :
  Calls Tryz.prog 40 #[dV T a,.int .i64 k,.string (bs x)] w (aS w (.tuple (tB (o7 T k x).1 (o7 T k x).2))):=by
 have h1:=aH (aI.begin w) aN (dR T a) 25;have I:=au (show Below w.heap.size w _ from h1.mod.below (fun _ _ h=>h));have KF:=au (QE k x (w.alloc (.cells (dR T a) 25)) hx (hz.below I.o));have KV:=au (fun W (J:Below w.heap.size w W)=>lZ (hT.below J) (hz.below J))
 have M:=au (fun W (h:Below (w.alloc (.cells (dR T a) 25)).heap.size (w.alloc (.cells (dR T a) 25)) W)=>(show (lR W w.heap.size (.slice a.A T.rs.length a.c) (.slice a.D T.ds.length a.d) (.slice a.E T.es.length a.e) (.int .i64 T.drop) (.int .i64 T.ord) (.int .i64 T.ini)) from by
  obtain⟨f,hf⟩:=(h1.below aO h).fst
  exact⟨ay hf rfl,ay hf rfl,ay hf rfl,ay hf rfl,ay hf rfl,ay hf rfl⟩))
 have ax:=au hT.ds;have az:=au hT.ld;have a0:=au (fun (n:Nat) (hn:n<T.ds.length) J hh=>Xg (T:=T) (k:=k) (x:=x) hn J hh);have ap:=au (fun J=>Tn (T:=T) (k:=k) (x:=x) J);clear hT hz h1 hx;unfold dV at KV ⊢;unfold dR at I KF KV M ⊢;generalize T.rs.length=n1 at *
 obtain⟨n2,am⟩:∃ n,n=T.ds.length:=⟨_,rfl⟩;have a3:=au am;rw[<-am] at I KF KV M az ⊢;clear am;generalize T.es.length=n3 at *
 obtain⟨aA,ac,aD,ad,aE,ae⟩:=a;dsimp only at I KF KV M ax ⊢;by_cases hw:word k x=true
 ·have e1:iw k x=(lower x,0):=by unfold iw;rw[if_pos hw]
  have aq:=au (show bL T=true->o7 T k x=(bQ T k x,0) from fun h=>by unfold o7;rw[hw,h];rfl);have a5:=au (show bL T=false->o7 T k x=(0,1) from fun h=>by unfold o7;rw[hw,h];rfl);rw[e1] at KF;generalize o7 T k x=dv at *
  unfold aS at KF;clear e1 hw
  go_enter Tryz.func40,Tryz.ntmps40
  go_wp2_with fail;refine KF.o.mono ?_;rintro e9 w2 ⟨rfl,J⟩;generalize w.alloc (.cells (fN aA n1 ac aD n2 ad aE n3 ae T.drop T.ord T.ini) 25)=w1 at *
  generalize hg:w.heap.size=g3 at M ⊢;clear hg;have ar:=au J;obtain⟨t0,t1,t2,t3,t4,t5⟩:=M.o _ J;have a4:=au (KV.o w2 (aF I.o J));clear KF KV J;dsimp only;go_wp2_with fail;refine a4.o.mono ?_;rintro e9 w3 ⟨rfl,J⟩;have ab:=au (aF ar.o J);clear a4 ar J t0 t1 t2 t3 t4 t5;dsimp only;cases hv:bL T with
  | false=>
   obtain rfl:=a5.o hv;have HF:=au (aF I.o ab.o);go_wp2;refine bodyPost_ret (results_tmp2 rfl _ _ _) rfl ?_;exact⟨rfl,HF.o⟩
  | true=>
   obtain rfl:=aq.o hv;clear hv a5 aq;obtain⟨t0,t1,t2,t3,t4,t5⟩:=M.o _ ab.o;go_wp2_with fail;go_loopw [28] (fun i wr=>∃ n:Nat,i=.int .i64 n/\n<=n2/\(∀ j (h:j<T.ds.length),j<n->¬ (T.ds[j].k=k/\T.ds[j].w=lower x))/\Below w1.heap.size w1 wr) (fun i _=>n2-(intOf i).toNat)
   case atStart=>exact⟨0,rfl,fw _,fun j _ h=>absurd h (nB _),ab.o⟩
   case round=>
    clear ab t0 t1 t2 t3 t4 t5;obtain⟨n,rfl,hn,hs,ai⟩:=hrel;have aa:=au ai;have HS:=au hs;clear ai hs;by_cases a1:n<n2
    ·have ao:n<T.ds.length:=by rw[<-a3.o];exact a1
     obtain⟨b,o,rfl,hc⟩:=nL.at ax.o eL;have aw:=aF I.o aa.o;obtain⟨c0,c1,c2⟩:=hc _ aw n ao;have a7:(n:Int)<1000000:=by have:=az.o;omega
     have af:=au (show n+1<=n2 from a1);have a2:=au (fun hh=>a0.o n ao HS.o hh)
     have ak:=au (fun (hh:¬ (T.ds[n].k=k/\T.ds[n].w=lower x))=>(show ∀ j (h:j<T.ds.length),j<n+1->¬ (T.ds[j].k=k/\T.ds[j].w=lower x) from fun j hj a6=>by
      by_cases e:j=n
      ·subst e;exact hh
      ·exact HS.o j hj eL))
     clear hc aw hn HS;generalize T.ds[n]=d at *
     clear ao;obtain⟨dk,dw,dc⟩:=d;dsimp only at c0 c1 c2 a2 ak;go_upto_region 7 with (fail);have h7:=aH (aI.begin wr) aN (va dk (bs dw) dc) 108;obtain⟨f7,ag⟩:=h7.fst;have d0:=ay (i:=0) ag rfl;have d1:=ay (i:=1) ag rfl;have d2:=ay (i:=2) ag rfl;have an:=au (aF aa.o (h7.mod.below (fun _ _ h=>h)));clear ag f7 h7 c0 c1 c2 aa;generalize wr.alloc (.cells (va dk (bs dw) dc) 108)=w7 at *
     generalize wr.heap.size=g11 at *
     by_cases h1:dk=k
     ·have k1:(dk==k)=true:=by simp[h1]
      by_cases h2:dw=lower x
      ·have k2:((bs dw).toList==(bs (lower x)).toList)=true:=by rw[wN];simp[h2]
       have HF:=au (show aS w (.tuple (tB (bQ T k x) 0)) (.returned (.tuple (tB dc 0))) w7 from by rw[a2.o ⟨h1,h2⟩];exact⟨rfl,aF I.o an.o⟩);clear h1 h2;go_wp2;refine bodyPost_ret (results_tmp2 rfl _ _ _) rfl ?_;exact HF.o
      ·have k2:((bs dw).toList==(bs (lower x)).toList)=false:=by rw[wN];simpa using fun h=>h2 (T9 h)
       have al:=au (ak.o (fun h=>h2 h.2));clear h1 h2;go_wp2_with fail
       go_roundw
       case rel=>exact⟨n+1,by go_num,af.o,al.o,an.o⟩
       case measure=>have:=af.o;simp[intOf];omega
     ·have k1:(dk==k)=false:=by simp[h1]
      have al:=au (ak.o (fun h=>h1 h.1));clear h1;go_wp2_with fail
      go_roundw
      case rel=>exact⟨n+1,by go_num,af.o,al.o,an.o⟩
      case measure=>have:=af.o;simp[intOf];omega
    ·obtain⟨t0,t1,t2,t3,t4,t5⟩:=M.o _ aa.o;have HF:=au (show aS w (.tuple (tB (bQ T k x) 0)) (.returned (.tuple (tB T.drop 0))) wr from by rw[ap.o (fun j h=>HS.o j h (by have:=a3.o;omega))];exact⟨rfl,aF I.o aa.o⟩);go_wp2;refine bodyPost_ret (results_tmp2 rfl _ _ _) rfl ?_;exact HF.o
 ·have e1:iw k x=([],1):=by unfold iw;rw[if_neg hw]
  have e2:o7 T k x=(0,1):=by unfold o7;rw[CI] at hw;rw[hw];rfl
  rw[e1] at KF;rw[e2];unfold aS at KF;clear e1 e2 hw
  go_enter Tryz.func40,Tryz.ntmps40
  go_wp2_with fail;refine KF.o.mono ?_;rintro e9 w2 ⟨rfl,J⟩;have HF:=au (aF I.o J);clear KF KV J;dsimp only;go_wp2;refine bodyPost_ret (results_tmp2 rfl _ _ _) rfl ?_;exact⟨rfl,HF.o⟩
variable {F0 F:Nat->Prop}{w0 W w':World}{a:Act}{K:Act->World->Prop}{Q:Exit->Act->World->Prop}{t e:TypeId}{g:Nat}{xs:List Value}{l:List Vr}
theorem I9   {Y:CH.aT} {o:Oper}     {z:Value} {size bytes:Nat} (S:eB Tryz.prog t e z size bytes) (aa:bytes<=1000) (s x:Operand)
  (ho:o.op=.call { callee:=.builtin .append,args:=#[s,x],argTypes:=#[t,t] })   {cs:List Value} (hsv:a.eval s=.slice A n c) (hx:a.eval x=.slice (some ⟨g,0,none⟩) 1 1) (hn:n<=1000000) (hY:Y.Ok)
  (h:aI F0 w0 (aj (aV e size (.slice A n c) n xs) Y) W) (h1:cs.length=size) (h2:∀ u ∈ cs,u.oneCell'=true) (hg:∀ (j:Nat) u,cs[j]?=some u->W.cell? ⟨g,j,none⟩=some u)
  (hK:∀ A' c' w',aI F0 w0 (aj (aV e size (.slice A' (n+1) c') (n+1) (xs++cs)) Y) w'->K (a.put o.dst (.slice A' (n+1) c')) w'):o.wp Tryz.prog a W K Q:=by
 obtain⟨F7,I,-,ad⟩:=h.take dK hY;have M:Src W (some ⟨g,0,none⟩) 1 size cs:=by
  refine⟨by rw[h1];exact(Nat.one_mul _).symm,h2,fun _=>⟨_,rfl,fun j u hu=>?_⟩⟩;have e:(⟨g,0,none⟩:Addr).add j=⟨g,j,none⟩:=by unfold Addr.add;split<;>simp_all
  rw[e];exact hg j u hu
 refine wY s x ho S _ 0 (v:=.slice A n c) (n:=n) (xs:=xs) hsv I.1 (A:=some ⟨g,0,none⟩) (m:=1) (c:=1) (news:=cs) hx M (by unfold maxLen;omega) (by
  have:(n+1)*bytes<=(n+1)*1000:=Nat.mul_le_mul_left _ aa
  omega) (fw _) ?_
 intro v8 w8 J ab ac;have S8:=ad _ _ (je I J ab ac);obtain⟨A8,c8,rfl⟩:=ig J;exact hK A8 c8 w8 S8
def lI (v:Vr):List Value:=[.string (bs v.w),.int .i64 v.e,.int .i64 v.c]
theorem Ea (l:List Vr):∀ u ∈ l.flatMap lI,u.oneCell'=true:=by
 intro u hu;obtain⟨x,-,hx⟩:=List.mem_flatMap.1 hu;unfold lI at hx;simp only[pA,vm,or_false] at hx;rcases hx with rfl|rfl|rfl<;>rfl
def jV (A:eV) (c:Nat) (l:List Vr):CH.aT:=aV 159 3 (.slice A l.length c) l.length (l.flatMap lI)
theorem Eb   :(jV A c l).Ok:=dK
instance {A:eV} {c:Nat} {l:List Vr}:(jV A c l).Ok:=Eb
abbrev Tp (w:World) (A:eV) (l:List Vr):Prop:=sD lI 3 w A l
theorem Ov      (h:jV A c l w F):Tp w A l:=iG h (Ea l)
theorem ad8:eB Tryz.prog 79 159 (.agg (lO ⟨#[]⟩ 0 0)) 3 32:=⟨Tryz.underlying79,by kernel_rfl,by decide,by decide⟩
theorem Xu    {x:Vr} (hn:l.length=n):aV 159 3 (.slice A (n+1) c) (n+1) (l.flatMap lI++lI x)=jV A c (l++[x]):=by
 subst hn;unfold jV;rw[tW,gd,pC,vi]
theorem aaS  {p:Vr}:bT W eR (jV (some ⟨W.heap.size,0,none⟩) 1 [p]) (W.alloc (.cells (lI p).toArray 159)):=by
 refine vv ⟨rfl,.inr ⟨W.heap.size,1,(lI p).toArray,rfl,fy _,heap_alloc_new W _,fy _,by decide,rfl,rfl⟩⟩ ((fe _ _).alloc (fy _) _)
theorem QT  (hb:Below w.heap.size w w'):bT w eR (jV none 0 []) w':=⟨fun _=>False,fT _ _ _,Mod.of_below hb,fun i hi=>hi.elim⟩
def o8 (T:eW) (k:Int) (x:Bs):List Vr × Int:=if word k x&&bL T then(eX T k x,0) else([],1)
def wP (w:World) (T:eW) (k:Int) (x:Bs) (e:Ending) (w':World):Prop:=
 ∃ A c,e=.returned (.tuple (pB A (o8 T k x).1.length c (o8 T k x).2))/\bT w eR (jV A c (o8 T k x).1) w'
def iB (T:eW) (k:Int) (x:Bs) (n:Nat):List Vr:=⟨(bP k x).flatten,-1,0⟩::(T.es.zipIdx.take n).filterMap (j3 k (bP k x))
theorem GD   {x:Bs}:iB T k x 0=[⟨(bP k x).flatten,-1,0⟩]:=by unfold iB;rw[List.take_zero];rfl
theorem Xv   {x:Bs}  (h:T.es.length<=n):iB T k x n=eX T k x:=by
 unfold iB eX;rw[tE (by rw[xv];exact h)]
theorem Tq   {x:Bs}  (h:n<T.es.length):iB T k x (n+1)=iB T k x n++(match j3 k (bP k x) (T.es[n],n) with|some v=>[v]|none=>[]):=by
 unfold iB;have J:n<T.es.zipIdx.length:=by rw[xv];exact h
 rw[kq J,sR,pd];congr 2;rw[List.getElem_zipIdx,mB];cases I:j3 k (bP k x) (T.es[n],n) with
 | none=>simp[I]
 | some v=>simp[I]
theorem Xw   {x:Bs} :(iB T k x n).length<=n+1:=by
 unfold iB;rw[j7];have h1:=yz (j3 k (bP k x)) (T.es.zipIdx.take n);have h2:(T.es.zipIdx.take n).length<=n:=by rw[kt];omega
 omega
theorem yX  {x:Bs} :((bP k x).take n).flatten.length<=x.length:=by
 have h:((bP k x).take n).flatten.length<=(bP k x).flatten.length:=by
  have:=tM n (bP k x)
  conv=>rhs;rw[<-this,zj,gd]
  omega
 by_cases I:word k x=true
 ·rw[uY I] at h;unfold lower at h;rw[gh] at h;exact h
 ·unfold bP at h ⊢;rw[if_neg I] at h ⊢;simp
variable {X:CH.aT}{a b c:Value}{l:List Bs}{d:Drop}
theorem fu      {d e f:Value} (h:aI F0 w0 (aj (av g #[a,b,c,d,e,f] t) X) w):(lR w g a b c d e f):=by
 obtain⟨F,hF⟩:=h.fst;exact⟨ay hF rfl,ay hF rfl,ay hF rfl,ay hF rfl,ay hF rfl,ay hF rfl⟩
theorem fO       (h:aI F0 w0 (aj (av g #[a,b,c] t) X) w):(C4 w g a b c):=by
 obtain⟨F,hF⟩:=h.fst;exact⟨ay hF rfl,ay hF rfl,ay hF rfl⟩
theorem aaT    {m:Nat} (h1:d.k=k) (hm:m+(bP k d.w).length=l.length) (h0:0<m) (h2:l.drop m=bP k d.w):j3 k l (d,n)=some ⟨(l.take m).flatten,n,d.c⟩:=by
 unfold j3;have e:l.length-(bP k d.w).length=m:=by omega
 simp only[e];rw[if_pos ⟨h1,by omega,h2⟩]
theorem aaU     (h1:d.k≠k):j3 k l (d,n)=none:=by
 unfold j3;rw[if_neg (fun h=>h1 h.1)]
theorem aaV     (h1:¬ (bP k d.w).length<l.length):j3 k l (d,n)=none:=by
 unfold j3;rw[if_neg (fun h=>h1 h.2.1)]
theorem aaW    {m:Nat} (hm:m+(bP k d.w).length=l.length) (h2:¬ l.drop m=bP k d.w):j3 k l (d,n)=none:=by
 unfold j3;have e:l.length-(bP k d.w).length=m:=by omega
 simp only[e];rw[if_neg (fun h=>h2 h.2.2)]
theorem yY   {a:TA} (hT:kr w T a) (hz:LZ w) (k:Int) (x:Bs) (hx:x.length<=1000000) :
  Calls Tryz.prog 55 #[dV T a,.int .i64 k,.string (bs x)] w (wP w T k x):=by
 have h1:=aH (aI.begin w) aN (dR T a) 25;have H1:=au h1;have KL:=au (Ba k x (w.alloc (.cells (dR T a) 25)) hx (hz.below (h1.mod.below (fun _ _ h=>h))));have ca:=au (fun W (J:Below w.heap.size w W) (y:Bs) (hy:y.length<=1000000)=>Ba k y W hy (hz.below J));have KV:=au (fun W (J:Below w.heap.size w W)=>lZ (hT.below J) (hz.below J));have bh:=au hT.es;have bj:=au hT.le;have b9:=au hT.se;have HX:=au hx;have af:=au (fun W X (h:aI eR w X W)=>(show Below w.heap.size w W from h.mod.below (fun _ _ h=>h)));clear hT hz h1 hx;unfold dV at KV ⊢;unfold dR at H1 KL KV ⊢;generalize T.rs.length=n1 at *
 generalize T.ds.length=n2 at *
 obtain⟨n3,a1⟩:∃ n,n=T.es.length:=⟨_,rfl⟩;have bm:=au a1;rw[<-a1] at H1 KL KV bj ⊢;clear a1;obtain⟨aA,ac,aD,ad,aE,ae⟩:=a;dsimp only at H1 KL KV bh ⊢;by_cases hw:word k x=true
 ·have a8:=nE hw
  have a7:=au (show bL T=true->∀ W' A c,bT w eR (jV A c (eX T k x)) W'->wP w T k x (.returned (.tuple (pB A (eX T k x).length c 0))) W' from fun h W' A c hp=>by
   have e:o8 T k x=(eX T k x,0):=by unfold o8;rw[hw,h];rfl
   exact⟨A,c,by rw[e],by rw[e];exact hp⟩)
  have ap:=au (show bL T=false->∀ W',Below w.heap.size w W'->wP w T k x (.returned (.tuple (pB none 0 0 1))) W' from fun h W' J=>by
   have e:o8 T k x=([],1):=by unfold o8;rw[hw,h];rfl
   exact⟨none,0,by rw[e];rfl,by rw[e];exact QT J⟩)
  clear hw
  go_enter Tryz.func55,Tryz.ntmps55
  go_wp2_with fail;refine KL.o.mono ?_;rintro e9 w2 ⟨A,c,rfl,J,hA,hc⟩;have H2:=au (H1.o.below aO J);have HA:=au hA;have HC:=au hc;clear KL J hA H1;generalize w.heap.size=g3 at H2 ⊢;obtain⟨nl,az⟩:∃ n,n=(bP k x).length:=⟨_,rfl⟩;have M:=au az;rw[<-az] at hc a8 ⊢;clear az;have t0:((nl:Int)==0)=false:=by simp;omega
  obtain⟨b0,b1,b2,b3,b4,b5⟩:=fu H2.o;have bf:=au (KV.o w2 (af.o _ _ H2.o));clear KV;dsimp only;go_wp2_with fail;refine bf.o.mono ?_;rintro e9 w3 ⟨rfl,J⟩;have H3:=au (H2.o.below aO J);have a3:=au (aY HA.o J);clear bf H2 HA J b0 b1 b2 b3 b4 b5;dsimp only;cases hv:bL T with
  | false=>
   have HF:=au (ap.o hv _ (af.o _ _ H3.o));go_wp2;refine bodyPost_ret (results_tmp2 rfl _ _ _) rfl ?_;exact HF.o
  | true=>
   have b8:=au (a7.o hv);clear hv ap a7
   have KJ:=au (show Calls Tryz.prog 82 #[.slice A nl c,.string ⟨#[]⟩] w3 (aS w3 (.string (bs (bP k x).flatten))) from by
    have:=Mg (c:=c) a3.o HC.o (by rw[<-M.o];omega) (by
     have:=yX (k:=k) (x:=x) (n:=(bP k x).length);rw[ky] at this;have:=HX.o
     omega)
    rw[<-M.o] at this
    exact this)
   go_wp2_with fail;refine KJ.o.mono ?_;rintro e9 w4 ⟨rfl,J⟩;have H4:=au (H3.o.below aO J);have bn:=au (aY a3.o J);clear KJ H3 a3 J;dsimp only;go_upto_region 5 with (fail);have a4:=au (fun W (h:Below w4.heap.size w4 W)=>fu (H4.o.below aO h));have aq:=au (fun W X (h:aI eR w4 X W)=>(show Below w.heap.size w W from(af.o _ _ H4.o).trans ((h.mod.below (fun _ _ h=>h)).mono (af.o _ _ H4.o).size)));have bv:=au (fun W X (h:aI eR w4 X W)=>(show Below w4.heap.size w4 W from h.mod.below (fun _ _ h=>h)));have a6:=au (fun W X (h:aI eR w4 X W)=>(show fB W A (bP k x) from aY bn.o (h.mod.below (fun _ _ h=>h))));have bu:=au (fun W A' c' (l:List Vr) (h:aI eR w4 (aj (jV A' c' l) bG) W)=>(show bT w eR (jV A' c' l) W from((H4.o.fresh aO (h.swap.drop.post Eb)).swap.drop).post Eb));have be:=(aI.begin w4).fresh aN (aaS (p:=⟨(bP k x).flatten,-1,0⟩));have H5:=au (show aI eR w4 (aj (jV (some ⟨w4.heap.size,0,none⟩) 1 (iB T k x 0)) bG) (w4.alloc (.cells (lO (bs (bP k x).flatten) (-1) 0) 159)) from by rw[GD];exact be);have e0:=au (show(1:Nat)=(iB T k x 0).length by rw[GD];rfl);clear be H4 bn af;generalize w4.alloc (.cells (lO (bs (bP k x).flatten) (-1) 0) 159)=w5 at *
   generalize (⟨w4.heap.size,0,none⟩:Addr)=a9 at *
   obtain⟨b0,b1,b2,b3,b4,b5⟩:=a4.o _ (bv.o _ _ H5.o);go_wp2_with fail;go_loopw [9,32] (fun v kk wr=>∃ (n:Nat) (A':eV) (c':Nat),kk=.int .i64 n/\n<=n3/\v=.slice A' (iB T k x n).length c'/\aI eR w4 (aj (jV A' c' (iB T k x n)) bG) wr) (fun _ kk _=>n3-(intOf kk).toNat)
   case atStart=>exact⟨0,_,1,rfl,fw _,by rw[<-e0.o],H5.o⟩
   case round=>
    clear H5 e0 b0 b1 b2 b3 b4 b5;obtain⟨n,A',c',rfl,hn,rfl,hR⟩:=hrel;have HR:=au hR;clear hR;by_cases ai:n<n3
    ·have ao:n<T.es.length:=by rw[<-bm.o];exact ai
     obtain⟨b,o,rfl,bp⟩:=nL.at bh.o eL;obtain⟨c0,c1,c2⟩:=bp _ (aq.o _ _ HR.o) n ao;have ci:(n:Int)<1000000:=by have:=bj.o;omega
     have ab:=au (show n+1<=n3 from ai);have bc:=au (b9.o _ (gv ao));have aa:=au (Tq (T:=T) (k:=k) (x:=x) ao);have bw:=au (Xw (T:=T) (k:=k) (x:=x) (n:=n));clear bp hn;generalize T.es[n]=d at *
     clear ao;obtain⟨dk,dw,dc⟩:=d;dsimp only at c0 c1 c2 bc;go_upto_region 8 with (fail);have H7:=au (aH HR.o aO (va dk (bs dw) dc) 108);clear c0 c1 c2 HR;generalize wr.alloc (.cells (va dk (bs dw) dc) 108)=w7 at *
     generalize wr.heap.size=g11 at *
     obtain⟨d0,d1,d2⟩:=fO H7.o;by_cases ag:dk=k
     ·have k1:(dk != k)=false:=by simp[ag]
      have KD:=au (ca.o w7 (aq.o _ _ H7.o) dw bc.o);have b7:=au ag;clear ag;go_wp2_with fail;refine KD.o.mono ?_;rintro e9 w8 ⟨A2,c2,rfl,J,hA2,hc2⟩;have H8:=au (H7.o.below aO J);have aw:=au hA2;clear KD H7 J hA2 d0 d1 d2;obtain⟨d0,d1,d2⟩:=fO H8.o;obtain⟨ne,an⟩:∃ n,n=(bP k dw).length:=⟨_,rfl⟩;have al:=au an;rw[<-an] at hc2 ⊢;have cd:ne<=12:=by
       rw[an];by_cases bk:word k dw=true
       ·exact(nE bk).2
       ·unfold bP;rw[if_neg bk];exact fw _
      clear an;dsimp only;by_cases ce:ne<nl
      ·obtain⟨m,hm⟩:∃ m,m+ne=nl:=⟨nl-ne,by omega⟩;have HM:=au hm;have tw:wrap64 ((nl:Int)-(ne:Int))=(m:Int):=by rw[rL _ eL];omega
       have t1:decide (0<(m:Int))=true:=decide_eq_true eL;have cf:decide (0<m)=true:=decide_eq_true eL;have cb:0<m:=by omega
       have bx:∀ W',(Instr.slice 26 (.slice A nl c) (some (.int .i64 (m:Int))) none none).run Tryz.prog W'=.ok (.slice (nW A c m 1) (nl-m) (c-m)) W':=fun W'=>jE zq A nl c m .i64 (m:Int) rfl eL W'
       have KE:=au (show Calls Tryz.prog 83 #[.slice (nW A c m 1) (nl-m) (c-m),.slice A2 ne c2] w8 (aS w8 (.bool (decide ((bP k x).drop m=bP k dw)))) from by
        have:=FQ (c:=c-m) (d:=c2) (Ic (a6.o _ _ H8.o) (show m<=(bP k x).length by rw[<-M.o];omega) HC.o) aw.o (by rw[k6,<-M.o];omega) (by rw[<-al.o];omega);rw[k6,<-M.o,<-al.o] at this
        exact this)
       have te:(nl:Int)-(ne:Int)=(m:Int):=by omega
       clear hm tw;go_upto_region 11 with (fail);clear te;go_wp2_with fail;refine KE.o.mono ?_;rintro e9 w9 ⟨rfl,J⟩;have H9:=au (H8.o.below aO J);clear KE bx H8 aw J d0 d1 d2;dsimp only;by_cases ak:(bP k x).drop m=bP k dw
       ·rw[decide_eq_true ak]
        have I:=au (show iB T k x (n+1)=iB T k x n++[⟨((bP k x).take m).flatten,n,dc⟩] from by
         rw[aa.o,aaT b7.o (by have:=HM.o;have:=M.o;have:=al.o;dsimp only;omega) cb ak])
        have ba:=au (fun W (J:Below w9.heap.size w9 W)=>(show Calls Tryz.prog 82 #[.slice A m c,.string ⟨#[]⟩] W (aS W (.string (bs ((bP k x).take m).flatten))) from by
         have ai:((bP k x).take m).length=m:=by rw[kt,<-M.o];have:=HM.o;omega
         have:=Mg (c:=c) (J9 m (aY (a6.o _ _ H9.o) J)) (by rw[ai];have:=HM.o;have:=HC.o;have:=M.o;omega) (by rw[ai];have:=HM.o;omega) (by
          have:=yX (k:=k) (x:=x) (n:=m);have:=HX.o
          omega)
         rw[ai] at this
         exact this))
        have bi:∀ W',(Instr.slice 26 (.slice A nl c) none (some (.int .i64 (m:Int))) none).run Tryz.prog W'=.ok (.slice A m c) W':=fun W'=>yu zq A nl c m .i64 (m:Int) rfl (by have:=HM.o;omega) W';have ar:=au (H9.o.drew aO);have bz:(iB T k x n).length<=1000000:=by have:=bw.o;omega
        have bo:=(fe w9.heap.size w9).drew;have br:=au (ba.o _ bo);clear ak aa bo;go_upto_region 12 with (fail);refine dY [4,9,10] [2,0,0,0,1,1,1,1,1,2,3,3] (fun w'=>w'.cell? ⟨g11,2,none⟩=some (.int .i64 dc)) [fun w'=>w'.cell? ⟨g11,2,none⟩=some (.int .i64 dc),fun _=>True,fun _=>True] ⟨fun _ h=>h,fun _ _=>trivial,fun _ _=>trivial,trivial⟩ rfl eQ eQ eQ (fO ar.o).2.2 ?_;generalize World.drew _=cg at *
        clear H9 ba
        (repeat(first|refine eH ?_|refine eO ?_))
        refine bB rfl fY (fun K hK=>?_);go_wp2_with fail;refine br.o.mono ?_;rintro e9 bb ⟨rfl,J⟩;have a0:=au (ar.o.below aO J);clear br ar J bi;dsimp only;refine hK.o _ _ (fO a0.o).2.2 ?_;clear hK
        (repeat(first|refine eH ?_|refine eO ?_))
        refine bB rfl fY (fun K hK=>?_);go_wp2_with fail;have a2:=au (aH a0.o aO (lO (bs ((bP k x).take m).flatten) (n:Int) dc) 159);clear a0;generalize bb.alloc (.cells (lO (bs ((bP k x).take m).flatten) (n:Int) dc) 159)=cj at *
        generalize bb.heap.size=gN at *
        refine hK.o _ _ trivial ?_;clear hK
        (repeat(first|refine eH ?_|refine eO ?_))
        refine bB rfl fY (fun K hK=>?_);obtain⟨p0,p1,p2⟩:=fO a2.o
        refine I9 ad8 eS (.tmp 59) (.tmp 68) rfl (A:=A') (c:=c') (n:=(iB T k x n).length) (g:=gN) (xs:=(iB T k x n).flatMap lI) (cs:=lI ⟨((bP k x).take m).flatten,n,dc⟩) rfl rfl bz aO (a2.o.perm (by unfold jV;ac_rfl:_=aj (aV 159 3 (.slice A' (iB T k x n).length c') (iB T k x n).length ((iB T k x n).flatMap lI)) (aj (av gN (lO (bs ((bP k x).take m).flatten) (n:Int) dc) 159) (aj (av g11 (va dk (bs dw) dc) 108) bG)))) rfl (fun u hu=>Ea [⟨((bP k x).take m).flatten,n,dc⟩] u (by simpa[lI] using hu)) (fun j u hu=>by
         unfold lI at hu
         match j,hu with
         | 0,hu=>simp at hu;subst hu;exact p0
         | 1,hu=>simp at hu;subst hu;exact p1
         | 2,hu=>simp at hu;subst hu;exact p2
         | j+3,hu=>simp at hu) ?_
        intro A9 c9 ch am;rw[Xu rfl] at am;have cc:=au am;clear am a2 p0 p1 p2;refine hK.o _ _ trivial ?_;clear hK
        (repeat(first|refine eH ?_|refine eO ?_))
        refine iT ?_;have a5:(iB T k x n).length+1=(iB T k x (n+1)).length:=by rw[I.o,gd];rfl
        rw[a5];clear a5;go_wp2_with fail
        go_roundw
        case rel=>exact⟨n+1,A9,c9,by go_num,ab.o,rfl,by rw[I.o];exact(cc.o.perm (by ac_rfl:_=aj (av gN (lO (bs ((bP k x).take m).flatten) (n:Int) dc) 159) (aj (av g11 (va dk (bs dw) dc) 108) (aj (jV A9 c9 (iB T k x n++[⟨((bP k x).take m).flatten,n,dc⟩])) bG)))).drop.drop⟩
        case measure=>have:=ab.o;simp[intOf];omega
       ·rw[decide_eq_false ak]
        have I:=au (show iB T k x (n+1)=iB T k x n from by
         rw[aa.o,aaW (by have:=HM.o;have:=M.o;have:=al.o;dsimp only;omega) ak,mS])
        clear ak aa;go_wp2_with fail
        go_roundw
        case rel=>exact⟨n+1,A',c',by go_num,ab.o,by rw[I.o],by rw[I.o];exact H9.o.drop⟩
        case measure=>have:=ab.o;simp[intOf];omega
      ·have tw:wrap64 ((nl:Int)-(ne:Int))=(nl:Int)-(ne:Int):=rL _ eL;have t1:decide (0<(nl:Int)-(ne:Int))=false:=decide_eq_false eL
       have I:=au (show iB T k x (n+1)=iB T k x n from by
        rw[aa.o,aaV (by have:=M.o;have:=al.o;dsimp only;omega),mS])
       clear aa aw;go_wp2_with fail
       go_roundw
       case rel=>exact⟨n+1,A',c',by go_num,ab.o,by rw[I.o],by rw[I.o];exact H8.o.drop⟩
       case measure=>have:=ab.o;simp[intOf];omega
     ·have k1:(dk != k)=true:=by simp[ag]
      have I:=au (show iB T k x (n+1)=iB T k x n from by
       rw[aa.o,aaU ag,mS])
      clear ag aa;go_wp2_with fail
      go_roundw
      case rel=>exact⟨n+1,A',c',by go_num,ab.o,by rw[I.o],by rw[I.o];exact H7.o.drop⟩
      case measure=>have:=ab.o;simp[intOf];omega
    ·have ax:=Xv (T:=T) (k:=k) (x:=x) (n:=n) (by have:=bm.o;omega);have HF:=au (b8.o wr A' c' (by rw[<-ax];exact bu.o _ _ _ _ HR.o));rw[ax];clear ax HR;go_wp2;refine bodyPost_ret (results_tmp2 rfl _ _ _) rfl ?_;exact HF.o
 ·have b6:bP k x=[]:=by unfold bP;rw[if_neg hw]
  have e2:o8 T k x=([],1):=by unfold o8;rw[CI] at hw;rw[hw];rfl
  have ap:=au (show ∀ W',Below w.heap.size w W'->wP w T k x (.returned (.tuple (pB none 0 0 1))) W' from fun W' J=>⟨none,0,by rw[e2];rfl,by rw[e2];exact QT J⟩);unfold Xf at KL;rw[b6] at KL;clear e2 hw
  go_enter Tryz.func55,Tryz.ntmps55
  go_wp2_with fail;refine KL.o.mono ?_;rintro e9 w2 ⟨A,c,rfl,J,hA,hc⟩;have HF:=au (af.o _ _ (H1.o.below aO J));clear KL KV J hA hc;dsimp only;simp only[lA];go_wp2;refine bodyPost_ret (results_tmp2 rfl _ _ _) rfl ?_;exact ap.o _ HF.o
structure WW where
 V:eV
 vc:Nat
 L:eV
 lc:Nat
structure wQ where
 k:Int
 vs:List Vr
 ls:List Bs
def jg (T:eW) (k:Int) (x:Bs):wQ:=⟨k,eX T k x,bP k x⟩
def SO:wQ:=⟨0,[],[]⟩
def uI (u:wQ) (a:WW):Array Value:=(sx u.k a.V u.vs.length a.vc a.L u.ls.length a.lc)
def EM (u:wQ) (a:WW):Value:=.agg (uI u a)
structure Af (w:World) (u:wQ) (a:WW):Prop where
 vs:Tp w a.V u.vs
 ls:fB w a.L u.ls
variable {v:Value}
theorem Af.below  {u:wQ} {a:WW} (h:Af w u a) (hb:Below w.heap.size w w'):Af w' u a:=⟨h.vs.below hb,aY h.ls hb⟩
def yZ (T:eW) (k:Int) (x:Bs):wQ × Bool:=if word k x&&bL T then(jg T k x,true) else(SO,false)
def pF (u:wQ) (a:WW):CH.aT:=aj (jV a.V a.vc u.vs) (fZ a.L a.lc u.ls)
theorem y5 {u:wQ} {a:WW}:(pF u a).Ok:=aB Eb iC
instance {u:wQ} {a:WW}:(pF u a).Ok:=y5
theorem ac9   {u:wQ} {a:WW} (h:pF u a w F):Af w u a:=by
 obtain⟨F1,F2,h1,h2,-,-⟩:=h;exact⟨Ov h1,oF h2⟩
theorem Xx  (J:Below w.heap.size w w'):bT w eR (aj (jV none 0 []) (fZ none 0 [])) w':=by
 have I:=((aI.begin w).below aN J).fresh aN (⟨fun _=>False,fT _ _ _,Mod.refl _ _,fun i hi=>.inl hi⟩:bT _ eR (jV none 0 []) _);have h:=I.fresh aO (⟨fun _=>False,fT _ _ _,Mod.refl _ _,fun i hi=>.inl hi⟩:bT _ eR (fZ none 0 []) _);exact((h.perm (by ac_rfl:_=aj bG (aj (jV none 0 []) (fZ none 0 [])))).drop).post aO
def Ec (w:World) (T:eW) (k:Int) (x:Bs) (e:Ending) (w':World):Prop:=
 ∃ a:WW,e=.returned (.tuple #[EM (yZ T k x).1 a,.bool (yZ T k x).2])/\bT w eR (pF (yZ T k x).1 a) w'
theorem SP {tmps:Array Value}   {cs:Array Value} (h:tmps.getD 6 undef=.pointer (some ⟨g,0,none⟩)) (J:cs.size=3) (I:w.heap[g]?=some (.cells cs 81))  (M:tmps.getD 7 undef=v):(results Tryz.f35 tmps).run Tryz.prog w=.ok (.tuple #[.agg cs,v]) w:=by
 subst M;exact dz rfl tmps w g 81 cs (0,0) h I Tryz.underlying81 (by rw[J];kernel_rfl)
theorem Ow   {a:TA} (hT:kr w T a) (hz:LZ w) (k:Int) (x:Bs) (hx:x.length<=1000000) :
  Calls Tryz.prog 35 #[dV T a,.int .i64 k,.string (bs x)] w (Ec w T k x):=by
 have h1:=aH (aI.begin w) aN (dR T a) 25;have h2:=aH h1 aO (sx 0 none 0 0 none 0 0) 81;rw[im] at h2;have H2:=au h2;have ag:=au (fun W X (h:aI eR w X W)=>(show Below w.heap.size w W from h.mod.below (fun _ _ h=>h)));have ai:Below w.heap.size w _:=h2.mod.below (fun _ _ h=>h);have KV:=au (yY (hT.below ai) (hz.below ai) k x hx);have KF:=au (fun W (hb:Below w.heap.size w W)=>QE k x W hx (hz.below hb));have KL:=au (fun W (hb:Below w.heap.size w W)=>jd k (bs (lower x)) W (by rw[cu];unfold lower;rw[gh];exact hx) (hz.below hb));simp only[iM] at KL;clear hT hz h1 h2 ai hx;unfold dV at KV ⊢;unfold dR at H2 KV ⊢;generalize T.rs.length=n1 at *
 generalize T.ds.length=n2 at *
 generalize T.es.length=n3 at *
 obtain⟨aA,ac,aD,ad,aE,ae⟩:=a;dsimp only at H2 KV ⊢;by_cases J:(word k x&&bL T)=true
 ·have hw:word k x=true:=by rw[gA] at J;exact J.1
  have e1:o8 T k x=(eX T k x,0):=by unfold o8;rw[if_pos J]
  have e2:iw k x=(lower x,0):=by unfold iw;rw[if_pos hw]
  have e3:bC k (lower x)=(bP k x,0):=by unfold bC;rw[if_pos (iV hw),uX hw]
  have HF:=au (show ∀ (W:World) V vc L lc,bT w eR (aj (jV V vc (eX T k x)) (fZ L lc (bP k x))) W->Ec w T k x (.returned (.tuple #[.agg (sx k V (eX T k x).length vc L (bP k x).length lc),.bool true])) W from fun W V vc L lc hb=>by
   have e:yZ T k x=(jg T k x,true):=by unfold yZ;rw[if_pos J]
   exact⟨⟨V,vc,L,lc⟩,by rw[e];rfl,by rw[e];exact hb⟩)
  unfold wP at KV;rw[e1] at KV;unfold aS at KF;simp only[e2] at KF;unfold mK at KL;simp only[e3] at KL;clear e1 e2 e3 hw J
  go_enter Tryz.func35,Tryz.ntmps35
  go_wp2_with fail;refine KV.o.mono ?_;rintro e9 w2 ⟨V,vc,rfl,hp⟩;have H3:=au (H2.o.fresh aO hp);have ak:=au (KF.o w2 (ag.o _ _ H3.o));clear KV KF H2 hp;dsimp only;generalize an:(eX T k x).length=nv at *
  clear an;go_wp2_with fail;refine ak.o.mono ?_;rintro e9 w3 ⟨rfl,hb⟩;have H4:=au (H3.o.below aO hb);have al:=au (KL.o w3 (ag.o _ _ H4.o));clear ak KL H3 hb;dsimp only;go_wp2_with fail;refine al.o.mono ?_;rintro e9 w4 ⟨L,lc,rfl,hp⟩;have H5:=au ((H4.o.fresh aO hp).perm (by ac_rfl:_=aj (av (w.heap.size+1) (sx 0 none 0 0 none 0 0) 81) (aj (fZ L lc (bP k x)) (aj (jV V vc (eX T k x)) (aj (av w.heap.size (fN aA n1 ac aD n2 ad aE n3 ae T.drop T.ord T.ini) 25) bG)))));clear al H4 hp;dsimp only;generalize am:(bP k x).length=nl at *
  clear am;obtain⟨f1,I⟩:=H5.o.fst;have c0:=ay (i:=0) I rfl;have c1:=ay (i:=1) I rfl;have c2:=ay (i:=2) I rfl;have cf:=aM I;clear I f1;have ab:=aJ H5.o aO 0 (.int .i64 k);have M:=aJ ab aO 1 (.slice V nv vc);have aa:=aJ M aO 2 (.slice L nl lc);have H6:=au (show aI eR w (aj (av (w.heap.size+1) (sx k V nv vc L nl lc) 81) (aj (fZ L lc (bP k x)) (aj (jV V vc (eX T k x)) (aj (av w.heap.size (fN aA n1 ac aD n2 ad aE n3 ae T.drop T.ord T.ini) 25) bG)))) (((w4.setCell ⟨w.heap.size+1,0,none⟩ (.int .i64 k)).setCell ⟨w.heap.size+1,1,none⟩ (.slice V nv vc)).setCell ⟨w.heap.size+1,2,none⟩ (.slice L nl lc)) from aa);clear ab M aa H5;go_wp2;obtain⟨f2,af⟩:=H6.o.fst;refine bodyPost_ret (SP rfl rfl af.1 rfl) rfl ?_;exact HF.o _ _ _ _ _ (((H6.o.perm (by ac_rfl:_=aj (aj (av (w.heap.size+1) (sx k V nv vc L nl lc) 81) (aj (av w.heap.size (fN aA n1 ac aD n2 ad aE n3 ae T.drop T.ord T.ini) 25) bG)) (aj (jV V vc (eX T k x)) (fZ L lc (bP k x))))).drop).post aO)
 ·have HF:=au (show ∀ (W:World),Below w.heap.size w W->Ec w T k x (.returned (.tuple #[.agg (sx 0 none 0 0 none 0 0),.bool false])) W from fun W hb=>by
   have e:yZ T k x=(SO,false):=by unfold yZ;rw[if_neg J]
   exact⟨⟨none,0,none,0⟩,by rw[e];rfl,by rw[e];exact Xx hb⟩)
  have e1:o8 T k x=([],1):=by unfold o8;rw[if_neg J]
  unfold wP at KV;rw[e1] at KV;clear e1 J KF KL
  go_enter Tryz.func35,Tryz.ntmps35
  go_wp2_with fail;refine KV.o.mono ?_;rintro e9 w2 ⟨V,vc,rfl,hp⟩;have H3:=au ((H2.o.fresh aO hp).drop);clear KV H2 hp;dsimp only;simp only[lA];obtain⟨f1,I⟩:=H3.o.fst;have c0:=ay (i:=0) I rfl;have c1:=ay (i:=1) I rfl;have c2:=ay (i:=2) I rfl;have cf:=aM I;clear I f1;have ab:=aJ H3.o aO 0 (.int .i64 0);have M:=aJ ab aO 1 (.slice none 0 0);have aa:=aJ M aO 2 (.slice none 0 0);have H6:=au (show aI eR w (aj (av (w.heap.size+1) (sx 0 none 0 0 none 0 0) 81) (aj (av w.heap.size (fN aA n1 ac aD n2 ad aE n3 ae T.drop T.ord T.ini) 25) bG)) (((w2.setCell ⟨w.heap.size+1,0,none⟩ (.int .i64 0)).setCell ⟨w.heap.size+1,1,none⟩ (.slice none 0 0)).setCell ⟨w.heap.size+1,2,none⟩ (.slice none 0 0)) from aa);clear ab M aa H3;go_wp2;obtain⟨f2,af⟩:=H6.o.fst;refine bodyPost_ret (SP rfl rfl af.1 rfl) rfl ?_;exact HF.o _ (ag.o _ _ H6.o)
attribute [local go_sem] nz
def Zy (u v:wQ) (a c:WW) (T:eW) (t:TA) (b1 b2 b3:Nat):CH.aT:=aj (av b1 (uI u a) 81) (aj (av b2 (uI v c) 81) (av b3 (dR T t) 25))
variable {u v:wQ}{a c:WW}{b1 b2 b3 i j:Nat}{us vs:List Vr}{ini:Int}{p:List Bs}
theorem nJ    {t:TA} :(Zy u v a c T t b1 b2 b3).Ok:=aB aC (aB aC aC)
instance {u v:wQ} {a c:WW} {T:eW} {t:TA} {b1 b2 b3:Nat}:(Zy u v a c T t b1 b2 b3).Ok:=nJ
def qW (w:Wy):Array Value:=(oT 0 0 w.kd w.l w.r w.c 0 none 0 0 none 0 0 ⟨#[]⟩ (bs w.x) (bs w.y))
def Tt (w:Wy):Array Value:=#[.agg (qW w)]
theorem Tv      {a0 a1 a2 a3 a4 a5 a6 a7 a8 a9 J I:Value} (h:aI F0 w0 (aj (av g #[a0,a1,a2,a3,a4,a5,a6,a7,a8,a9,J,I] t) X) w) (M:X.Ok) (b0 b1 b2 b3 b4 b5 b6 b7 b8 b9 aa ab:Value) :
  aI F0 w0 (aj (av g #[b0,b1,b2,b3,b4,b5,b6,b7,b8,b9,aa,ab] t) X) ((((((((((((w.setCell ⟨g,0,none⟩ b0).setCell ⟨g,1,none⟩ b1).setCell ⟨g,2,none⟩ b2).setCell ⟨g,3,none⟩ b3).setCell ⟨g,4,none⟩ b4).setCell ⟨g,5,none⟩ b5).setCell ⟨g,6,none⟩ b6).setCell ⟨g,7,none⟩ b7).setCell ⟨g,8,none⟩ b8).setCell ⟨g,9,none⟩ b9).setCell ⟨g,10,none⟩ aa).setCell ⟨g,11,none⟩ ab):=by
 have h0:aI F0 w0 (aj (av g #[b0,a1,a2,a3,a4,a5,a6,a7,a8,a9,J,I] t) X) _:=aJ h M 0 b0;have h1:aI F0 w0 (aj (av g #[b0,b1,a2,a3,a4,a5,a6,a7,a8,a9,J,I] t) X) _:=aJ h0 M 1 b1;have h2:aI F0 w0 (aj (av g #[b0,b1,b2,a3,a4,a5,a6,a7,a8,a9,J,I] t) X) _:=aJ h1 M 2 b2;have h3:aI F0 w0 (aj (av g #[b0,b1,b2,b3,a4,a5,a6,a7,a8,a9,J,I] t) X) _:=aJ h2 M 3 b3;have h4:aI F0 w0 (aj (av g #[b0,b1,b2,b3,b4,a5,a6,a7,a8,a9,J,I] t) X) _:=aJ h3 M 4 b4;have h5:aI F0 w0 (aj (av g #[b0,b1,b2,b3,b4,b5,a6,a7,a8,a9,J,I] t) X) _:=aJ h4 M 5 b5;have h6:aI F0 w0 (aj (av g #[b0,b1,b2,b3,b4,b5,b6,a7,a8,a9,J,I] t) X) _:=aJ h5 M 6 b6;have h7:aI F0 w0 (aj (av g #[b0,b1,b2,b3,b4,b5,b6,b7,a8,a9,J,I] t) X) _:=aJ h6 M 7 b7;have h8:aI F0 w0 (aj (av g #[b0,b1,b2,b3,b4,b5,b6,b7,b8,a9,J,I] t) X) _:=aJ h7 M 8 b8;have h9:aI F0 w0 (aj (av g #[b0,b1,b2,b3,b4,b5,b6,b7,b8,b9,J,I] t) X) _:=aJ h8 M 9 b9;have ac:aI F0 w0 (aj (av g #[b0,b1,b2,b3,b4,b5,b6,b7,b8,b9,aa,I] t) X) _:=aJ h9 M 10 aa;exact aJ ac M 11 ab
structure Be (u v:wQ) (a c:WW) (w:World):Prop where
 u:Af w u a
 v:Af w v c
theorem Be.below    (h:Be u v a c w) (hb:Below w.heap.size w w'):Be u v a c w':=⟨h.u.below hb,h.v.below hb⟩
theorem qX    {t:TA}     (h:aI F0 w0 (aj (Zy u v a c T t b1 b2 b3) X) w) :
  (C4 w b1 (.int .i64 u.k) (.slice a.V u.vs.length a.vc) (.slice a.L u.ls.length a.lc)) /\
  (C4 w b2 (.int .i64 v.k) (.slice c.V v.vs.length c.vc) (.slice c.L v.ls.length c.lc))/\w.cell? ⟨b3,5,none⟩=some (.int .i64 T.ini):=by
 obtain⟨f1,I⟩:=(h.perm (by unfold Zy;ac_rfl:_=aj (av b1 (uI u a) 81) (aj (av b2 (uI v c) 81) (aj (av b3 (dR T t) 25) X)))).fst;obtain⟨f2,J⟩:=(h.perm (by unfold Zy;ac_rfl:_=aj (av b2 (uI v c) 81) (aj (av b1 (uI u a) 81) (aj (av b3 (dR T t) 25) X)))).fst;obtain⟨f3,M⟩:=(h.perm (by unfold Zy;ac_rfl:_=aj (av b3 (dR T t) 25) (aj (av b1 (uI u a) 81) (aj (av b2 (uI v c) 81) X)))).fst;exact⟨⟨ay I rfl,ay I rfl,ay I rfl⟩,⟨ay J rfl,ay J rfl,ay J rfl⟩,ay M rfl⟩
theorem mH (us vs:List Vr):(pU us vs).length=us.length*vs.length:=by
 unfold pU
 induction us with
 | nil=>simp
 | cons x us ih=>rw[mN,gd,gh,ih,j7,li];omega
theorem Ml :∀ {i j:Nat} (hi:i<us.length) (h:j<vs.length),(pU us vs)[i*vs.length+j]?=some (vK us[i] vs[j]):=by
 induction us with
 | nil=>intro i j hi;simp at hi
 | cons x us ih=>
  intro i j hi h;have e:pU (x::us) vs=vs.map (vK x)++pU us vs:=by unfold pU;rw[mN]
  rw[e];cases i with
  | zero=>
   rw[sk,mB,xe (by rw[gh];exact h),lz,gR h];rfl
  | succ i=>
   rw[BW (by rw[gh,li];omega),gh];have I:(i+1)*vs.length+j-vs.length=i*vs.length+j:=by rw[li];omega
   rw[I,ih (by simpa using hi) h];rfl
theorem aaX   {q:List Bs}  (hi:i<us.length) (M:j<vs.length):∃ h:i*vs.length+j<(iA ini us vs p q).length,(iA ini us vs p q)[i*vs.length+j]=vK us[i] vs[j]:=by
 have I:=Ml hi M;have J:(iA ini us vs p q)[i*vs.length+j]?=some (vK us[i] vs[j]):=by
  unfold iA;rw[xe (List.getElem?_eq_some_iff.1 I).1];exact I
 exact List.getElem?_eq_some_iff.1 J
theorem Xy   {q:List Bs} (J:p.length=1):∃ h:us.length*vs.length<(iA ini us vs p q).length,(iA ini us vs p q)[us.length*vs.length]=jF 2 ini p q:=by
 have e:iA ini us vs p q=pU us vs++(jF 2 ini p q::(if q.length=1 then [jF 3 ini p q] else [])):=by unfold iA;rw[if_pos J];rfl
 have I:=mH us vs;refine⟨by rw[e,gd,j7];omega,?_⟩;simp only[e];rw[yv eL];simp[I]
theorem Ox   {q:List Bs} (hq:q.length=1)  (hn:n=us.length*vs.length+if p.length=1 then 1 else 0):(∃ h:n<(iA ini us vs p q).length,(iA ini us vs p q)[n]=jF 3 ini p q)/\n+1=(iA ini us vs p q).length:=by
 have e:iA ini us vs p q=(pU us vs++(if p.length=1 then [jF 2 ini p q] else []))++[jF 3 ini p q]:=by unfold iA;rw[if_pos hq,l3]
 have J:=mH us vs;have I:(pU us vs++(if p.length=1 then [jF 2 ini p q] else [])).length=n:=by
  rw[gd,J,hn];split<;>rfl
 refine⟨⟨by rw[e,gd,I];exact IT _,?_⟩,by rw[e,gd,I];rfl⟩;simp only[e];rw[yv eL];simp[I]
theorem Tw   {q:List Bs} (hq:q.length≠1)  (hn:n=us.length*vs.length+if p.length=1 then 1 else 0):n=(iA ini us vs p q).length:=by
 unfold iA;rw[gd,mH,gd,if_neg hq,hn];split<;>rfl
theorem Oy {l:List Bs} (h:0<l.length):l[0]=ic l:=by
 cases l with
 | nil=>simp at h
 | cons z l=>rfl
theorem uJ    {t:TA}     (hX:X.Ok) (h:aI F0 w0 (aj (Zy u v a c T t b1 b2 b3) X) w) (hr:Be u v a c w) (hu:0<u.ls.length) (hv:0<v.ls.length) (kd:Int) :
  Calls Tryz.prog 64 #[.int .i64 kd,.pointer (some ⟨b3,0,none⟩),.pointer (some ⟨b1,0,none⟩),.pointer (some ⟨b2,0,none⟩)] w (aS w (.agg (qW (jF kd T.ini u.ls v.ls)))):=by
 obtain⟨bu,ou,ac,ad⟩:=hr.u.ls.at hu;obtain⟨bv,ov,ab,ae⟩:=hr.v.ls.at hv;have HZ:=au (fun W (J:Below w.heap.size w W)=>qX (h.below aO J))
 have M:=au (fun W (J:Below w.heap.size w W)=>(show W.cell? ⟨bu,ou,none⟩=some (.string (bs (ic u.ls))) from by
  have h1:=ad W J 0 hu;rw[Oy hu] at h1
  exact h1))
 have ag:=au (fun W (J:Below w.heap.size w W)=>(show W.cell? ⟨bv,ov,none⟩=some (.string (bs (ic v.ls))) from by
  have h1:=ae W J 0 hv;rw[Oy hv] at h1
  exact h1))
 have r1:aI eR w (aj (av w.heap.size (oT 0 0 0 0 0 0 0 none 0 0 none 0 0 ⟨#[]⟩ ⟨#[]⟩ ⟨#[]⟩) 119) bG) _:=aH (aI.begin w) aN _ 119;have R1:=au r1;clear ad ae h hX hr r1;rw[ac,ab] at HZ;clear ac ab;unfold qW jF;dsimp only;generalize ic u.ls=hx at *
 generalize ic v.ls=hy at *
 have al:(0:Int)<(u.ls.length:Int):=by omega
 have ai:(0:Int)<(v.ls.length:Int):=by omega
 generalize u.ls.length=nu at *
 generalize v.ls.length=nv at *
 go_enter Tryz.func64,Tryz.ntmps64
 go_upto_region 1 with (fail);generalize w.alloc (.cells (oT 0 0 0 0 0 0 0 none 0 0 none 0 0 ⟨#[]⟩ ⟨#[]⟩ ⟨#[]⟩) 119)=w1 at *
 have aa:=au (fun W X (h:aI eR w X W)=>(show Below w.heap.size w W from h.mod.below (fun _ _ h=>h)));have R2:=au (R1.o.drew aO);have hS:∀ W,Below w.heap.size w W->W.cell? ⟨b1,2,none⟩=some (.slice (some ⟨bu,ou,none⟩) nu a.lc)/\W.cell? ⟨b2,2,none⟩=some (.slice (some ⟨bv,ov,none⟩) nv c.lc)/\W.cell? ⟨b3,5,none⟩=some (.int .i64 T.ini)/\W.cell? ⟨bu,ou,none⟩=some (.string (bs hx))/\W.cell? ⟨bv,ov,none⟩=some (.string (bs hy)):=fun W J=>by
  obtain⟨⟨-,-,z1⟩,⟨-,-,z2⟩,z3⟩:=HZ.o W J;exact⟨z1,z2,z3,M.o W J,ag.o W J⟩
 have af:=hS _ (aa.o _ _ R2.o);clear hS R1;refine dZ (fun W=>W.cell? ⟨b1,2,none⟩=some (.slice (some ⟨bu,ou,none⟩) nu a.lc)/\W.cell? ⟨b2,2,none⟩=some (.slice (some ⟨bv,ov,none⟩) nv c.lc)/\W.cell? ⟨b3,5,none⟩=some (.int .i64 T.ini)/\W.cell? ⟨bu,ou,none⟩=some (.string (bs hx))/\W.cell? ⟨bv,ov,none⟩=some (.string (bs hy))) rfl eQ eQ af ?_;clear af HZ M ag;generalize w1.drew=w2 at *
 (repeat(first|refine bM ?_|refine bN ?_))
 refine jf rfl fY (fun K hK=>?_);obtain⟨f1,I⟩:=R2.o.fst;have c0:=ay (i:=0) I rfl;have c1:=ay (i:=1) I rfl;have c2:=ay (i:=2) I rfl;have c3:=ay (i:=3) I rfl;have c4:=ay (i:=4) I rfl;have c5:=ay (i:=5) I rfl;have c6:=ay (i:=6) I rfl;have c7:=ay (i:=7) I rfl;have c8:=ay (i:=8) I rfl;have c9:=ay (i:=9) I rfl;have ak:=ay (i:=10) I rfl;have am:=ay (i:=11) I rfl;have cf:=aM I;clear I f1;have R3:=au (Tv R2.o aN (.int .i64 0) (.int .i64 0) (.int .i64 kd) (.int .i64 (-1)) (.int .i64 (-1)) (.int .i64 T.ini) (.int .i64 0) (.slice none 0 0) (.slice none 0 0) (.string ⟨#[]⟩) (.string (bs hx)) (.string (bs hy)));go_wp2;refine hK.o _ _ ?_;clear hK;go_wp2;obtain⟨f,hf⟩:=R3.o.fst;refine bodyPost_ret (results_cell_row rfl _ _ w.heap.size 119 _ (0,0) _ rfl hf.1 Tryz.underlying119 rfl eQ) rfl ?_;exact⟨rfl,aa.o _ _ R3.o⟩
theorem Tp.at   {l:List Vr} (h:Tp w A l) (hn:0<l.length):∃ b o,A=some ⟨b,o,none⟩/\∀ w',Below w.heap.size w w'->∀ j (I:j<l.length),
  w'.cell? ⟨b,o+j*3,none⟩=some (.string (bs l[j].w))/\w'.cell? ⟨b,o+j*3+1,none⟩=some (.int .i64 l[j].e)/\w'.cell? ⟨b,o+j*3+2,none⟩=some (.int .i64 l[j].c):=by
 obtain⟨b,o,e,J⟩:=sD.at (R:=lI) (fun _=>rfl) eL h hn;exact⟨b,o,e,fun w' M j I=>⟨J w' M j I 0 _ rfl,J w' M j I 1 _ rfl,J w' M j I 2 _ rfl⟩⟩
theorem Tx {u v:wQ} {a c:WW}  {t:TA} {b1 b2 b3:Nat} (hu:0<u.ls.length) (hv:0<v.ls.length) (bh:u.vs.length<=1000000) (bp:v.vs.length<=1000000) (az:∀ x ∈ u.vs,0<=x.c/\x.c<=1000) (a7:∀ x ∈ v.vs,0<=x.c/\x.c<=1000) (bx:u.ls.length<=1000000) (bw:v.ls.length<=1000000) :
  Qf Tryz.prog 63 #[.pointer (some ⟨b1,0,none⟩),.pointer (some ⟨b2,0,none⟩),.pointer (some ⟨b3,0,none⟩)] (Be u v a c) (Zy u v a c T t b1 b2 b3) Tt (iA T.ini u.vs v.vs u.ls v.ls):=by
 intro n lo w F0 w0 X Y a5 b0 hE h0 hY;have HY:=au hY;have HE:=au hE;have ad:=au a5;have a9:=au az;have bn:=au a7;clear hY hE a5 az a7;obtain⟨n1,ae⟩:∃ k,k=u.vs.length:=⟨_,rfl⟩;obtain⟨m,hm⟩:∃ k,k=v.vs.length:=⟨_,rfl⟩;have a0:=au ae;have HM:=au hm;have am:=au (fun (i j:Nat) (hi:i<u.vs.length) (hj:j<v.vs.length)=>(show ∃ h:i*m+j<(iA T.ini u.vs v.vs u.ls v.ls).length,(iA T.ini u.vs v.vs u.ls v.ls)[i*m+j]=vK u.vs[i] v.vs[j] from by rw[hm];exact aaX hi hj));have al:=au (fun (hp:u.ls.length=1)=>(show ∃ h:n1*m<(iA T.ini u.vs v.vs u.ls v.ls).length,(iA T.ini u.vs v.vs u.ls v.ls)[n1*m]=jF 2 T.ini u.ls v.ls from by rw[ae,hm];exact Xy hp));have ai:=au (fun (hq:v.ls.length=1) (k:Nat) (hk:k=n1*m+if u.ls.length=1 then 1 else 0)=>Ox (ini:=T.ini) (us:=u.vs) (vs:=v.vs) (p:=u.ls) hq (n:=k) (by rw[<-ae,<-hm];exact hk));have ak:=au (fun (hq:v.ls.length≠1) (k:Nat) (hk:k=n1*m+if u.ls.length=1 then 1 else 0)=>Tw (ini:=T.ini) (us:=u.vs) (vs:=v.vs) (p:=u.ls) hq (n:=k) (by rw[<-ae,<-hm];exact hk));rw[<-ae] at bh;rw[<-hm] at bp;refine callsIn_of_wp Tryz.func63 rfl trivial ?_ rfl;simp only[Tryz.ntmps63,pT,j7,lA,Nat.reduceAdd,Nat.reduceSub,qu,qS,re,qT,l4,pd];have H0:=au h0;obtain⟨⟨z0,z1,z2⟩,⟨y0,y1,y2⟩,z5⟩:=qX h0;rw[<-ae] at z1;rw[<-hm] at y1;have ar:X 0=X (0*m):=by rw[sk]
 have a1:=au (show aI F0 w0 (aj (Zy u v a c T t b1 b2 b3) (X (0*m))) w from ar ▸ h0);clear h0 ae hm ar H0;gi_wp2;gi_loopw [13] (fun i wr=>∃ k:Nat,k<=n1/\i=.int .i64 k/\aI F0 w0 (aj (Zy u v a c T t b1 b2 b3) (X (k*m))) wr) (fun i _=>n1-(intOf i).toNat)
 case atStart=>exact⟨0,fw _,rfl,a1.o⟩
 case round=>
  obtain⟨k,hk,rfl,hR⟩:=hrel;have HR:=au hR;clear a1 hR z0 z1 z2 y0 y1 y2 z5;obtain⟨⟨z0,z1,z2⟩,⟨y0,y1,y2⟩,z5⟩:=qX HR.o;rw[<-a0.o] at z1;rw[<-HM.o] at y1;by_cases aE:k<n1
  ·have ao:k<u.vs.length:=by rw[<-a0.o];exact aE
   have HP:=au (HE.o wr HR.o.mod);obtain⟨b,o,hA,hc⟩:=HP.o.u.vs.at eL;obtain⟨r0,r1,r2⟩:=hc wr (fe _ _) k ao;rw[hA] at z1 ⊢;clear hc hA;have ba:=a9.o _ (gv ao);have aD:=au (show k+1<=n1 from aE);have a4:=au (fun (j:Nat) (hj:j<v.vs.length)=>am.o k j ao hj);have bv:(k:Int)<1000000:=by omega
   generalize u.vs[k]=q at *
   obtain⟨qw,qe,qc⟩:=q;dsimp only at r0 r1 r2 ba;have h6:=aH HR.o (aB nJ (ad.o _)) (lO (bs qw) qe qc) 159;have H6:=au (show aI F0 w0 (aj (aj (av wr.heap.size (lO (bs qw) qe qc) 159) (Zy u v a c T t b1 b2 b3)) (X (k*m+0))) _ from h6.perm (by rw[pk];ac_rfl));obtain⟨⟨bo,a8,be⟩,⟨bf,a2,bi⟩,bk⟩:=qX h6.drop;rw[<-HM.o] at a2;have bm:=au (HE.o _ h6.mod);clear h6 HR HP hk;gi_wp2;generalize wr.alloc (.cells (lO (bs qw) qe qc) 159)=w6 at *
   generalize wr.heap.size=g6 at *
   clear z0 z1 z2 y0 y1 y2 z5 r0 r1 r2 bo a8 be bf a2 bi bk;gi_loopw [20] (fun i wr=>∃ j:Nat,j<=m/\i=.int .i64 j/\aI F0 w0 (aj (aj (av g6 (lO (bs qw) qe qc) 159) (Zy u v a c T t b1 b2 b3)) (X (k*m+j))) wr) (fun i _=>m-(intOf i).toNat)
   case atStart=>exact⟨0,fw _,rfl,H6.o⟩
   case round=>
    clear H6 bm;obtain⟨j,hj,rfl,hR⟩:=hrel;have HR:=au hR;clear hR;by_cases a3:j<m
    ·have an:j<v.vs.length:=by rw[<-HM.o];exact a3
     have HP:=au (HE.o _ HR.o.mod);obtain⟨b',o',hA,hc⟩:=HP.o.v.vs.at eL;obtain⟨r0,r1,r2⟩:=hc _ (fe _ _) j an;have ax:=bn.o _ (gv an);have a6:=au (show j+1<=m from a3);have bz:(j:Int)<1000000:=by omega
     obtain⟨aa,M⟩:=a4.o j an;clear hc;generalize v.vs[j]=q' at *
     obtain⟨bj,br,bc⟩:=q';dsimp only at r0 r1 r2 ax;rw[hA];clear hA;have h8:=aH HR.o (aB aO (ad.o _)) (lO (bs bj) br bc) 159;obtain⟨p0,p1,p2⟩:=fO h8;obtain⟨x0,x1,x2⟩:=fO (h8.drop.assoc:aI F0 w0 (aj (av g6 (lO (bs qw) qe qc) 159) _) _);obtain⟨ap,aq,aw⟩:=fO (HR.o.assoc:aI F0 w0 (aj (av g6 (lO (bs qw) qe qc) 159) _) _);have hw:=HY.o (aj (av g6 (lO (bs qw) qe qc) 159) (Zy u v a c T t b1 b2 b3)) aO _ aa _ h8.drop;rw[M] at hw;simp only[Tt,qW,vK,jF] at hw;obtain⟨fn,tmps,assign,body,hy,hround⟩:=hw;have J:=au hround;clear hround M aa;have aA:=au h8;clear h8 HR HP hj an a4;gi_wp2
     try rw[hy]
     refine⟨fun h=>(by cases h),?_⟩;refine J.o.mono ?_;rintro e W3 (⟨rfl,h3⟩|⟨rfl,h3⟩)
     ·have H9:=au h3;clear J h3 hy r0 r1 r2 p0 p1 p2 x0 x1 x2 ap aq aw aA;gi_wp2
      go_roundw
      case rel=>exact⟨j+1,a6.o,by go_num,H9.o⟩
      case measure=>have:=a6.o;simp[intOf];omega
     ·have ag:=au (show(∃ v,(Ending.returned (.tuple #[]))=.returned v)/\∃ Z:CH.aT,Z.Ok/\(aI F0 w0 (aj Z (X (iA T.ini u.vs v.vs u.ls v.ls).length)) W3\/aI F0 w0 (aj Z Y) W3) from⟨⟨_,rfl⟩,(aj (av g6 (lO (bs qw) qe qc) 159) (Zy u v a c T t b1 b2 b3)),aB aC nJ,.inr h3⟩);clear J h3 hy r0 r1 r2 p0 p1 p2 x0 x1 x2 ap aq aw aA;gi_wp2;refine bodyPost_ret (results_none rfl _ _ _) rfl ?_;exact ag.o
    ·have H9:=au (show aI F0 w0 (aj (Zy u v a c T t b1 b2 b3) (X ((k+1)*m))) wr from by
      have e:j=m:=by omega
      subst e;rw[li]
      exact HR.o.assoc.drop)
     clear HR;gi_wp2
     go_roundw
     case rel=>exact⟨k+1,aD.o,by go_num,H9.o⟩
     case measure=>have:=aD.o;simp[intOf];omega
  ·have bb:k=n1:=by omega
   subst bb;have bu:=HE.o wr HR.o.mod;clear hk;by_cases hp:u.ls.length=1
   ·have t1:((u.ls.length:Int)==1)=true:=by simp[hp]
    obtain⟨aa,M⟩:=al.o hp;have KI:=au (uJ (ad.o _) HR.o (HE.o _ HR.o.mod) hu hv 2)
    gi_wp2_with fail
    repeat(refine⟨fun f h=>(by cases h),?_⟩;gi_wp2_with fail)
    refine⟨trivial,fun h=>(by cases h),?_⟩;refine(callsIn_wide.2 KI.o).mono ?_;rintro e9 w7 ⟨rfl,hb⟩;have H7:=au (HR.o.below (aB nJ (ad.o _)) hb);clear KI HR hb z0 z1 z2 y0 y1 y2 z5;have hw:=HY.o (Zy u v a c T t b1 b2 b3) nJ _ aa _ H7.o;rw[M] at hw;simp only[Tt,qW,vK,jF] at hw;obtain⟨fn,tmps,assign,body,hy,hround⟩:=hw;have J:=au hround;clear hround M aa;dsimp only;simp only[qW,jF];gi_wp2
    try rw[hy]
    refine⟨fun h=>(by cases h),?_⟩;refine J.o.mono ?_;rintro e W3 (⟨rfl,h3⟩|⟨rfl,h3⟩)
    ·have H9:=au h3;clear J h3 hy H7;have I:=au H9.o;obtain⟨⟨z0,z1,z2⟩,⟨y0,y1,y2⟩,z5⟩:=qX I.o;by_cases hq:v.ls.length=1
     ·obtain⟨⟨aa,M⟩,ab⟩:=ai.o hq _ (show k*m+1=_ from by rw[if_pos hp]);have t2:((v.ls.length:Int)==1)=true:=by simp[hq]
      have KI:=au (uJ (ad.o _) I.o (HE.o _ I.o.mod) hu hv 3);clear ai ak al am
      gi_wp2_with fail
      repeat(refine⟨fun f h=>(by cases h),?_⟩;gi_wp2_with fail)
      refine⟨trivial,fun h=>(by cases h),?_⟩;refine(callsIn_wide.2 KI.o).mono ?_;rintro e9 w7 ⟨rfl,hb⟩;have H7:=au (I.o.below (aB nJ (ad.o _)) hb);clear KI I hb z0 z1 z2 y0 y1 y2 z5;have hw:=HY.o (Zy u v a c T t b1 b2 b3) nJ _ aa _ H7.o;rw[M] at hw;simp only[Tt,qW,vK,jF] at hw;obtain⟨fn,tmps,assign,body,hy,hround⟩:=hw;have J:=au hround;clear hround M aa;dsimp only;simp only[qW,jF];gi_wp2
      try rw[hy]
      refine⟨fun h=>(by cases h),?_⟩;refine J.o.mono ?_;rintro e W3 h3;have ag:=au (show e=.returned (.bool true)\/e=.returned (.bool false) from h3.imp (fun h=>h.1) (fun h=>h.1));have ac:=au (show(∃ v,(Ending.returned (.tuple #[]))=.returned v)/\∃ Z:CH.aT,Z.Ok/\(aI F0 w0 (aj Z (X (iA T.ini u.vs v.vs u.ls v.ls).length)) W3\/aI F0 w0 (aj Z Y) W3) from⟨⟨_,rfl⟩,(Zy u v a c T t b1 b2 b3),nJ,h3.imp (fun h=>by rw[<-ab];exact h.2) (fun h=>h.2)⟩);clear J h3 hy H7;rcases ag.o with rfl|rfl
      ·dsimp only;rename_i Kq af;refine af _ _ ?_;gi_wp2
       first|refine bodyPost_end (results_none rfl _ _ _) rfl ?_|refine bodyPost_ret (results_none rfl _ _ _) rfl ?_
       exact ac.o
      ·dsimp only;rename_i Kq af;refine af _ _ ?_;gi_wp2
       first|refine bodyPost_end (results_none rfl _ _ _) rfl ?_|refine bodyPost_ret (results_none rfl _ _ _) rfl ?_
       exact ac.o
     ·have ab:=ak.o hq _ (show k*m+1=_ from by rw[if_pos hp]);have t2:((v.ls.length:Int)==1)=false:=by simp;omega
      have ac:=au (show(∃ v,(Ending.returned (.tuple #[]))=.returned v)/\∃ Z:CH.aT,Z.Ok/\(aI F0 w0 (aj Z (X (iA T.ini u.vs v.vs u.ls v.ls).length)) W3\/aI F0 w0 (aj Z Y) W3) from⟨⟨_,rfl⟩,(Zy u v a c T t b1 b2 b3),nJ,.inl (by rw[<-ab];exact I.o)⟩);clear ai ak al am I ab;gi_wp2
      repeat(refine⟨fun f h=>(by cases h),?_⟩;gi_wp2)
      first|refine bodyPost_end (results_none rfl _ _ _) rfl ?_|refine bodyPost_ret (results_none rfl _ _ _) rfl ?_
      exact ac.o
    ·have ag:=au (show(∃ v,(Ending.returned (.tuple #[]))=.returned v)/\∃ Z:CH.aT,Z.Ok/\(aI F0 w0 (aj Z (X (iA T.ini u.vs v.vs u.ls v.ls).length)) W3\/aI F0 w0 (aj Z Y) W3) from⟨⟨_,rfl⟩,(Zy u v a c T t b1 b2 b3),nJ,.inr h3⟩);clear J h3 hy H7;gi_wp2;refine bodyPost_ret (results_none rfl _ _ _) rfl ?_;exact ag.o
   ·have t1:((u.ls.length:Int)==1)=false:=by simp;omega
    clear z0 z1 z2 y0 y1 y2 z5;have I:=au HR.o;obtain⟨⟨z0,z1,z2⟩,⟨y0,y1,y2⟩,z5⟩:=qX I.o;by_cases hq:v.ls.length=1
    ·obtain⟨⟨aa,M⟩,ab⟩:=ai.o hq _ (show k*m=_ from by rw[if_neg hp];exact(pk _).symm);have t2:((v.ls.length:Int)==1)=true:=by simp[hq]
     have KI:=au (uJ (ad.o _) I.o (HE.o _ I.o.mod) hu hv 3);clear ai ak al am
     gi_wp2_with fail
     repeat(refine⟨fun f h=>(by cases h),?_⟩;gi_wp2_with fail)
     refine⟨trivial,fun h=>(by cases h),?_⟩;refine(callsIn_wide.2 KI.o).mono ?_;rintro e9 w7 ⟨rfl,hb⟩;have H7:=au (I.o.below (aB nJ (ad.o _)) hb);clear KI I hb z0 z1 z2 y0 y1 y2 z5;have hw:=HY.o (Zy u v a c T t b1 b2 b3) nJ _ aa _ H7.o;rw[M] at hw;simp only[Tt,qW,vK,jF] at hw;obtain⟨fn,tmps,assign,body,hy,hround⟩:=hw;have J:=au hround;clear hround M aa;dsimp only;simp only[qW,jF];gi_wp2
     try rw[hy]
     refine⟨fun h=>(by cases h),?_⟩;refine J.o.mono ?_;rintro e W3 h3;have ag:=au (show e=.returned (.bool true)\/e=.returned (.bool false) from h3.imp (fun h=>h.1) (fun h=>h.1));have ac:=au (show(∃ v,(Ending.returned (.tuple #[]))=.returned v)/\∃ Z:CH.aT,Z.Ok/\(aI F0 w0 (aj Z (X (iA T.ini u.vs v.vs u.ls v.ls).length)) W3\/aI F0 w0 (aj Z Y) W3) from⟨⟨_,rfl⟩,(Zy u v a c T t b1 b2 b3),nJ,h3.imp (fun h=>by rw[<-ab];exact h.2) (fun h=>h.2)⟩);clear J h3 hy H7;rcases ag.o with rfl|rfl
     ·dsimp only;rename_i Kq af;refine af _ _ ?_;gi_wp2
      first|refine bodyPost_end (results_none rfl _ _ _) rfl ?_|refine bodyPost_ret (results_none rfl _ _ _) rfl ?_
      exact ac.o
     ·dsimp only;rename_i Kq af;refine af _ _ ?_;gi_wp2
      first|refine bodyPost_end (results_none rfl _ _ _) rfl ?_|refine bodyPost_ret (results_none rfl _ _ _) rfl ?_
      exact ac.o
    ·have ab:=ak.o hq _ (show k*m=_ from by rw[if_neg hp];exact(pk _).symm);have t2:((v.ls.length:Int)==1)=false:=by simp;omega
     have ac:=au (show(∃ v,(Ending.returned (.tuple #[]))=.returned v)/\∃ Z:CH.aT,Z.Ok/\(aI F0 w0 (aj Z (X (iA T.ini u.vs v.vs u.ls v.ls).length)) wr\/aI F0 w0 (aj Z Y) wr) from⟨⟨_,rfl⟩,(Zy u v a c T t b1 b2 b3),nJ,.inl (by rw[<-ab];exact I.o)⟩);clear ai ak al am I ab;gi_wp2
     repeat(refine⟨fun f h=>(by cases h),?_⟩;gi_wp2)
     first|refine bodyPost_end (results_none rfl _ _ _) rfl ?_|refine bodyPost_ret (results_none rfl _ _ _) rfl ?_
     exact ac.o
end Go.Proofs.YtbioiclabmbedaaGreatDoor
namespace Go.CH.Mtc
open Go.CH.Scr Go.CH.dh
def jr (T:eW) (k k2:Int) (ws:List Wy) (i:Nat):List Pr:=(ws.take i).filterMap (NM T k k2)
section
variable {T:eW} {k k2:Int} {ws:List Wy} {i:Nat}
theorem Tz:jr T k k2 ws 0=[]:=by unfold jr;rw[List.take_zero];rfl
variable {y:Bs}{d:Dv}
theorem Xz {x:Bs}:first (jr T k k2 (lu T k x k2 y) (lu T k x k2 y).length)=iL T k x k2 y:=by unfold jr iL nN;rw[ky]
theorem TD (hi:i<ws.length) (h:eZ T k ws[i].x k2 ws[i].y=none):jr T k k2 ws (i+1)=jr T k k2 ws i:=by
 unfold jr;rw[kq hi,sR];have:NM T k k2 ws[i]=none:=by unfold NM;rw[h];rfl
 simp[this]
theorem TF (hi:i<ws.length)  (h:eZ T k ws[i].x k2 ws[i].y=some d):first (jr T k k2 ws (i+1))=vS (first (jr T k k2 ws i)) ⟨0,0,ws[i].kd,ws[i].l,ws[i].r,ws[i].c+d.c,d⟩:=by
 have e:jr T k k2 ws (i+1)=jr T k k2 ws i++[⟨0,0,ws[i].kd,ws[i].l,ws[i].r,ws[i].c+d.c,d⟩]:=by
  unfold jr;rw[kq hi,sR];have:NM T k k2 ws[i]=some ⟨0,0,ws[i].kd,ws[i].l,ws[i].r,ws[i].c+d.c,d⟩:=by unfold NM;rw[h];rfl
  simp[this]
 rw[e];unfold first
 rw[IA];rfl
theorem XA {x:Bs} {p:Pr} (h:first (jr T k k2 (lu T k x k2 y) i)=some p):p ∈ nN T k x k2 y:=by
 have h1:=(eG h).1;unfold jr at h1;obtain⟨w,hw,he⟩:=List.mem_filterMap.1 h1;exact List.mem_filterMap.2 ⟨w,xn hw,he⟩
theorem TG {x:Bs} (z:Bs) (h:z ∈ bP k x):z.length<=x.length:=by
 by_cases hw:word k x=true
 ·have h1:z.length<=(bP k x).flatten.length:=(MM h).length_le;rw[uY hw] at h1;unfold lower at h1;rw[gh] at h1;exact h1
 ·unfold bP at h;rw[if_neg hw] at h;cases h
theorem BZ {x:Bs}:(ic (bP k x)).length<=x.length:=by
 cases h:bP k x with
 | nil=>exact fw _
 | cons z l=>
  show z.length<=_
  exact TG (k:=k) z (by rw[h];exact mz ..)
theorem Ca {x:Bs} {v:Vr} (h:v ∈ eX T k x):v.w.length<=x.length:=by
 unfold eX at h;rcases List.mem_cons.1 h with rfl|h
 ·have:=Go.Proofs.YtbioiclabmbedaaGreatDoor.yX (k:=k) (x:=x) (n:=(bP k x).length);rw[ky] at this;exact this
 ·obtain⟨p,-,I⟩:=List.mem_filterMap.1 h;unfold j3 at I;split at I
  ·injection I with I
   rw[<-I];exact Go.Proofs.YtbioiclabmbedaaGreatDoor.yX
  ·cases I
theorem Mq {x:Bs} {w:Wy} (h:w ∈ lu T k x k2 y):w.x.length<=x.length/\w.y.length<=y.length:=by
 rcases gD.1 h with⟨u,hu,v,hv,rfl⟩|⟨-,rfl⟩|⟨-,rfl⟩
 ·exact⟨Ca hu,Ca hv⟩
 ·exact⟨BZ,BZ⟩
 ·exact⟨BZ,BZ⟩
theorem lJ {x:Bs} (hv:bL T=true):(eX T k x).length<=41:=by
 unfold eX;rw[j7];have h1:=yz (j3 k (bP k x)) T.es.zipIdx;rw[xv] at h1;have h2:=(bW.1 hv).2.2.2;unfold jR at h2;simp only[gA,decide_eq_true_eq] at h2;omega
end
end Go.CH.Mtc
namespace Go.Proofs.YtbioiclabmbedaaGreatDoor
open Go.RowKit Go.CH Go.CH.Scr Go.CH.dh Go.CH.Mtc
open Go.ChangeMaps (setBlock)
def L2 (b1 b2 b3:Nat):Value:=.func (.func 63) #[] (vu (some ⟨b1,0,none⟩) (some ⟨b2,0,none⟩) (some ⟨b3,0,none⟩))
variable {T:eW}{A:eV}{d:Dv}
theorem XB {u v:wQ} {a c:WW}  {t:TA} (w:World) :
  Calls Tryz.prog 41 #[dV T t,EM u a,EM v c] w (fun e w'=>∃ b1 b2 b3,e=.returned (L2 b1 b2 b3)/\bT w eR (Zy u v a c T t b1 b2 b3) w'):=by
 have J:=aH (aI.begin w) aN (dR T t) 25;have I:=aH J aO (uI u a) 81;have h:=aH I aO (uI v c) 81;simp only[im] at h;have M:=au (show bT w eR (Zy u v a c T t (w.heap.size+1) (w.heap.size+1+1) w.heap.size) _ from((h.perm (by unfold Zy;ac_rfl:_=aj bG (Zy u v a c T t (w.heap.size+1) (w.heap.size+1+1) w.heap.size))).drop).post nJ);clear J I h;unfold dV EM;unfold dR uI at M ⊢
 go_enter Tryz.func41,Tryz.ntmps41
 go_wp2;go_ret;exact⟨_,_,_,rfl,M.o⟩
def Cb (p:Pr) (A:eV) (ac:Nat) (B:eV) (bc:Nat):Array Value:=(jb p.i p.j p.kd p.l p.r p.c p.d.c A p.d.L.length ac B p.d.M.length bc (bs p.d.F))
def mI (A:eV) (ac:Nat) (B:eV) (bc:Nat) (d:Dv):CH.aT:=aj (bE A ac d.L) (bE B bc d.M)
theorem su {B:eV} {ac bc:Nat} :(mI A ac B bc d).Ok:=aB fq fq
instance {A B:eV} {ac bc:Nat} {d:Dv}:(mI A ac B bc d).Ok:=su
def XC (w:World) (o:Option Pr) (e:Ending) (w':World):Prop:=
 ∃ A ac B bc,e=.returned (.tuple #[.agg (Cb (o.getD wj) A ac B bc),.bool o.isSome])/\bT w eR (mI A ac B bc (o.getD wj).d) w'
attribute [local go_sem] nz
theorem Ag {P:Program} (w:World) (g:Nat) (ty:TypeId) (b:Bool) (hg:w.cell? ⟨g,0,none⟩=some (.bool b)) (hu:P.underlying ty=some .bool) :
  (loadVar ty ⟨g,0,none⟩).run P w=.ok (.bool b) w:=by
 unfold loadVar;simp[isAgg,run_underlying hu,j9,hg]
variable {w w0 W:World}{g I g6 i:Nat}{F0:Nat->Prop}{t:TypeId}{X:CH.aT}{a0 a1 a2 a3 J a5 a6 a7 M a9 a4:Value}{k k2:Int}{ws:List Wy}
theorem ad9 {tmps:Array Value}   {cs:Array Value} {b:Bool} (h:tmps.getD 6 undef=.pointer (some ⟨g,0,none⟩)) (h':tmps.getD 7 undef=.pointer (some ⟨I,0,none⟩)) (hs:cs.size=10) (hg:w.heap[g]?=some (.cells cs 62)) (J:w.cell? ⟨I,0,none⟩=some (.bool b)):(results Tryz.f24 tmps).run Tryz.prog w=.ok (.tuple #[.agg cs,.bool b]) w:=by
 have M:tmps[6]?.getD undef=.pointer (some ⟨g,0,none⟩):=by simpa using h
 have e2:tmps[7]?.getD undef=.pointer (some ⟨I,0,none⟩):=by simpa using h'
 have r1:=Ag (P:=Tryz.prog) w I 4 b J Tryz.underlying4;have r2:=run_loadVar_row (P:=Tryz.prog) w g 62 62 cs (0,0) _ hg Tryz.underlying62 rfl (by rw[hs];kernel_rfl);simp only[results,Tryz.results24];simp[j9,Result.andThen,M,e2,asAddr,r1,r2]
theorem kg       (h:aI F0 w0 (aj (av g #[a0,a1,a2,a3,J,a5,a6,a7,M,a9] t) X) w) :
  (o6 w g a0 a1 a2 a3 J)/\(UB w g a5 a6 a7 M a9)/\∀ i,w.frozen? ⟨g,i,none⟩=false:=by
 obtain⟨F,I⟩:=h.fst;exact⟨⟨ay I rfl,ay I rfl,ay I rfl,ay I rfl,ay I rfl⟩,⟨ay I rfl,ay I rfl,ay I rfl,ay I rfl,ay I rfl⟩,aM I⟩
theorem Cc      {a8:Value} (h:aI F0 w0 (aj (av g #[a0,a1,a2,a3,a4,a5,a6,a7,a8,a9,J,M] t) X) w) :
  (lR w g a0 a1 a2 a3 a4 a5)/\(UI w g a6 a7 a8 a9 J M)/\∀ i,w.frozen? ⟨g,i,none⟩=false:=by
 obtain⟨F,I⟩:=h.fst;exact⟨⟨ay I rfl,ay I rfl,ay I rfl,ay I rfl,ay I rfl,ay I rfl⟩,⟨ay I rfl,ay I rfl,ay I rfl,ay I rfl,ay I rfl,ay I rfl⟩,aM I⟩
theorem GH       (h:aI F0 w0 (aj (av g #[a0,a1,a2,a3,a4,a5,a6,a7,M,J] t) X) w) (I:X.Ok) (b0 b1 b2 b3 b4 b5 b6 b7 b8 b9:Value) :
  aI F0 w0 (aj (av g #[b0,b1,b2,b3,b4,b5,b6,b7,b8,b9] t) X) ((((((((((w.setCell ⟨g,0,none⟩ b0).setCell ⟨g,1,none⟩ b1).setCell ⟨g,2,none⟩ b2).setCell ⟨g,3,none⟩ b3).setCell ⟨g,4,none⟩ b4).setCell ⟨g,5,none⟩ b5).setCell ⟨g,6,none⟩ b6).setCell ⟨g,7,none⟩ b7).setCell ⟨g,8,none⟩ b8).setCell ⟨g,9,none⟩ b9):=by
 have h0:aI F0 w0 (aj (av g #[b0,a1,a2,a3,a4,a5,a6,a7,M,J] t) X) _:=aJ h I 0 b0;have h1:aI F0 w0 (aj (av g #[b0,b1,a2,a3,a4,a5,a6,a7,M,J] t) X) _:=aJ h0 I 1 b1;have h2:aI F0 w0 (aj (av g #[b0,b1,b2,a3,a4,a5,a6,a7,M,J] t) X) _:=aJ h1 I 2 b2;have h3:aI F0 w0 (aj (av g #[b0,b1,b2,b3,a4,a5,a6,a7,M,J] t) X) _:=aJ h2 I 3 b3;have h4:aI F0 w0 (aj (av g #[b0,b1,b2,b3,b4,a5,a6,a7,M,J] t) X) _:=aJ h3 I 4 b4;have h5:aI F0 w0 (aj (av g #[b0,b1,b2,b3,b4,b5,a6,a7,M,J] t) X) _:=aJ h4 I 5 b5;have h6:aI F0 w0 (aj (av g #[b0,b1,b2,b3,b4,b5,b6,a7,M,J] t) X) _:=aJ h5 I 6 b6;have h7:aI F0 w0 (aj (av g #[b0,b1,b2,b3,b4,b5,b6,b7,M,J] t) X) _:=aJ h6 I 7 b7;have h8:aI F0 w0 (aj (av g #[b0,b1,b2,b3,b4,b5,b6,b7,b8,J] t) X) _:=aJ h7 I 8 b8;exact aJ h8 I 9 b9
def XD (T:eW) (k k2:Int) (ws:List Wy) (g6 h:Nat) (X:CH.aT) (i:Nat):CH.aT:=
 lQ fun p:Pr=>lQ fun f:Bool=>lQ fun A:eV=>lQ fun ac:Nat=>lQ fun B:eV=>lQ fun bc:Nat=>sM (first (jr T k k2 ws i)=(if f then some p else none)/\(f=false->p=wj)) (aj (av g6 (Cb p A ac B bc) 62) (aj (av h (gj f) 4) (aj (mI A ac B bc p.d) X)))
theorem Ja    {g7:Nat}  (hX:X.Ok):(XD T k k2 ws g6 g7 X i).Ok:=bX fun _=>bX fun _=>bX fun _=>bX fun _=>bX fun _=>bX fun _=>gG (aB aC (aB aC (aB su hX)))
instance {T:eW} {k k2:Int} {ws:List Wy} {g6 g7 i:Nat} {X:CH.aT} [hX:X.Ok]:(XD T k k2 ws g6 g7 X i).Ok:=Ja hX
theorem Ed     {R:CH.aT}   {p:Pr} {f:Bool} {B:eV} {ac bc:Nat} (J:first (jr T k k2 ws i)=(if f then some p else none)) (M:f=false->p=wj) (h:aI F0 w0 (aj (aj (av g6 (Cb p A ac B bc) 62) (aj (av I (gj f) 4) (aj (mI A ac B bc p.d) X))) R) W):aI F0 w0 (aj (XD T k k2 ws g6 I X i) R) W:=
 aI.nT p (aI.nT f (aI.nT A (aI.nT ac (aI.nT B (aI.nT bc (aI.iQ ⟨J,M⟩ h))))))
theorem XE     {R:CH.aT}   (h:aI F0 w0 (aj (XD T k k2 ws g6 I X i) R) W):∃ (p:Pr) (f:Bool) (A:eV) (ac:Nat) (B:eV) (bc:Nat),first (jr T k k2 ws i)=(if f then some p else none)/\(f=false->p=wj)/\aI F0 w0 (aj (aj (av g6 (Cb p A ac B bc) 62) (aj (av I (gj f) 4) (aj (mI A ac B bc p.d) X))) R) W:=by
 obtain⟨p,h⟩:=h.ex;obtain⟨f,h⟩:=h.ex;obtain⟨A,h⟩:=h.ex;obtain⟨ac,h⟩:=h.ex;obtain⟨B,h⟩:=h.ex;obtain⟨bc,h⟩:=h.ex;obtain⟨⟨J,M⟩,h⟩:=h.pure;exact⟨p,f,A,ac,B,bc,J,M,h⟩
abbrev _root_.Go.ff (u:wQ)(a:WW):Array Value:=sx u.k a.V u.vs.length a.vc a.L u.ls.length a.lc
abbrev _root_.Go.pL (p:Pr)(A:eV)(c:Nat)(B:eV)(d:Nat):Array Value:=jb p.i p.j p.kd p.l p.r p.c p.d.c A p.d.L.length c B p.d.M.length d (bs p.d.F)
theorem Jb   {ta:TA} (hT:kr w T ta) (hz:LZ w)  {x y:Bs} (hx:x.length<=1000000) (hy:y.length<=1000000) (cb:okW T k x k2 y=true) {a c:WW} (hu:Af w (jg T k x) a) (hv:Af w (jg T k2 y) c) :
  Calls Tryz.prog 24 #[dV T ta,EM (jg T k x) a,EM (jg T k2 y) c] w (XC w (iL T k x k2 y)):=by
 obtain⟨br,b0,ai⟩:=fP.1 cb;have h1:=aH (aI.begin w) aN (dR T ta) 25;have h2:=aH h1 (aB aC aN) (uI (jg T k x) a) 81;have h3:=aH h2 (aB aC (aB aC aN)) (uI (jg T k2 y) c) 81;have h4:=aH h3 (aB aC (aB aC (aB aC aN))) (jb 0 0 0 0 0 0 0 none 0 0 none 0 0 ⟨#[]⟩) 62;have h5:=aH h4 (aB aC (aB aC (aB aC (aB aC aN)))) (gj false) 4;simp only[im] at h5;have H5:=au h5;have cm:=au (fun W X (h:aI eR w X W)=>(show Below w.heap.size w W from h.mod.below (fun _ _ h=>h)));have b8:=au (fun b1 b2 b3=>Tx (u:=jg T k x) (v:=jg T k2 y) (a:=a) (c:=c) (T:=T) (t:=ta) (b1:=b1) (b2:=b2) (b3:=b3) (nE br).1 (nE b0).1 (kh (lJ ai) eL) (kh (lJ ai) eL) (fun z hz=>qN ai hz) (fun z hz=>qN ai hz) (kh (nE br).2 eL) (kh (nE b0).2 eL));have ci:=au (fun W (hm:Mod eR w W)=>(show Be (jg T k x) (jg T k2 y) a c W from⟨hu.below (hm.below (fun _ _ h=>h)),hv.below (hm.below (fun _ _ h=>h))⟩));have cx:=au (show iA T.ini (jg T k x).vs (jg T k2 y).vs (jg T k x).ls (jg T k2 y).ls=lu T k x k2 y from rfl);have KB:=au (fun W (hb:Below w.heap.size w W) (z:Wy) (ax:z ∈ lu T k x k2 y)=>uh (hT.below hb) (hz.below hb) k z.x k2 z.y (kh (Mq ax).1 hx) (kh (Mq ax).2 hy));have KW:=au (fun W=>XB (u:=jg T k x) (v:=jg T k2 y) (a:=a) (c:=c) (T:=T) (t:=ta) W);have cv:=au (fun (z:Wy) (ax:z ∈ lu T k x k2 y)=>Dq ai ax);have HK:=au (show(jg T k x).k=k/\(jg T k2 y).k=k2 from⟨rfl,rfl⟩);have ce:=au (Xz (T:=T) (k:=k) (k2:=k2) (x:=x) (y:=y));have ct:=au (fun i p h=>Gg ai (XA (T:=T) (k:=k) (k2:=k2) (x:=x) (y:=y) (i:=i) (p:=p) h));clear hT hz hx hy cb hu hv br b0 ai h1 h2 h3 h4 h5;generalize iL T k x k2 y=bo at *
 generalize lu T k x k2 y=ws at *
 generalize jg T k x=u at *
 generalize jg T k2 y=v at *
 unfold EM dV at *
 unfold uI dR at *
 generalize T.rs.length=n1 at *
 generalize T.ds.length=n2 at *
 generalize T.es.length=n3 at *
 obtain⟨aA,ac,aD,ad,aE,ae⟩:=ta;dsimp only at H5 KB ⊢;refine(callsIn_wide (n:=8)).1 ?_;refine callsIn_of_wp_marks Tryz.func24 rfl trivial ?_ rfl;simp only[Tryz.ntmps24,pT,j7,lA,Nat.reduceAdd,Nat.reduceSub,qu,qS,re,qT,l4,pd];refine(wpIn_wide (n:=8)).2 ?_;go_upto_region 1 with (fail);generalize (((((w.alloc (.cells (fN aA n1 ac aD n2 ad aE n3 ae T.drop T.ord T.ini) 25)).alloc (.cells (ff u a) 81)).alloc (.cells (ff v c) 81)).alloc (.cells (jb 0 0 0 0 0 0 0 none 0 0 none 0 0 ⟨#[]⟩) 62)).alloc (.cells (gj false) 4))=w5 at *
 generalize w.heap.size+1+1+1+1=J at *
 generalize w.heap.size+1+1+1=g6 at *
 generalize w.heap.size+1+1=g5 at *
 generalize w.heap.size+1=g4 at *
 generalize cz:w.heap.size=g3 at H5 ⊢;clear cz;have ab:=au (aB aC (aB aC (aB aC aN)):((aj (av g5 (ff v c) 81) (aj (av g4 (ff u a) 81) (aj (av g3 (fN aA n1 ac aD n2 ad aE n3 ae T.drop T.ord T.ini) 25) bG)))).Ok);obtain⟨t0,t1,t2,t3,t4,t5⟩:=fu H5.o.drop.drop.drop.drop;obtain⟨u0,u1,u2⟩:=fO H5.o.drop.drop.drop;obtain⟨v0,v1,v2⟩:=fO H5.o.drop.drop;have b7:=au (KW.o w5);clear KW;go_wp2_with fail;refine b7.o.mono ?_;rintro e9 w6 ⟨b1,b2,b3,rfl,hp⟩;have cc:=au (aB aC (aB aC ab.o):(aj (av J (gj false) 4) (aj (av g6 (jb 0 0 0 0 0 0 0 none 0 0 none 0 0 ⟨#[]⟩) 62) (aj (av g5 (ff v c) 81) (aj (av g4 (ff u a) 81) (aj (av g3 (fN aA n1 ac aD n2 ad aE n3 ae T.drop T.ord T.ini) 25) bG))))).Ok);have H6:=au (H5.o.fresh cc.o hp);clear b7 H5 hp t0 t1 t2 t3 t4 t5 u0 u1 u2 v0 v1 v2;dsimp only;go_wp2_with fail;have bn:=au (b8.o b1 b2 b3);rw[cx.o] at bn;clear b8;have h7:=H6.o.fresh (aB nJ cc.o) (zO (fe w6.heap.size w6));have h8:aI eR w (aj (aj (av g6 (jb 0 0 0 0 0 0 0 none 0 0 none 0 0 ⟨#[]⟩) 62) (aj (av J (gj false) 4) (aj (mI none 0 none 0 P8) (aj (av g5 (ff v c) 81) (aj (av g4 (ff u a) 81) (aj (av g3 (fN aA n1 ac aD n2 ad aE n3 ae T.drop T.ord T.ini) 25) bG)))))) (Zy u v a c T ⟨aA,ac,aD,ad,aE,ae⟩ b1 b2 b3)) w6:=h7.perm (by unfold mI P8;ac_rfl);have a9:=(Ed (T:=T) (k:=k) (k2:=k2) (ws:=ws) (i:=0) (p:=wj) (f:=false) (by rw[Tz];rfl) (fun _=>rfl) h8).swap;have cn:=au a9;clear h7 h8 a9 H6;have b9:∀ (i:Nat) (a':Act),(lQ fun g8:Nat=>lQ fun z:Wy=>sM (ws[i]?=some z/\a'={ tmps:=#[.agg (fN aA n1 ac aD n2 ad aE n3 ae T.drop T.ord T.ini),.agg (ff u a),.agg (ff v c),.pointer (some ⟨g3,0,none⟩),.pointer (some ⟨g4,0,none⟩),.pointer (some ⟨g5,0,none⟩),.pointer (some ⟨g6,0,none⟩),.pointer (some ⟨J,0,none⟩),.pointer (some ⟨g8,0,none⟩),undef,undef,.agg (fN aA n1 ac aD n2 ad aE n3 ae T.drop T.ord T.ini),.agg (ff u a),.agg (ff v c),L2 b1 b2 b3,.agg (qW z),undef,undef,undef,undef,undef,undef,undef,undef,undef,undef,undef,undef,undef,undef,undef,undef,undef,undef,undef,undef,undef,undef,undef,undef,undef,undef,undef,undef,undef,undef,undef,undef,undef,undef,undef,undef,undef,undef,undef,undef],defers:=[] }) (aj (av g8 (qW z) 119) (XD T k k2 ws g6 J (aj (av g5 (ff v c) 81) (aj (av g4 (ff u a) 81) (aj (av g3 (fN aA n1 ac aD n2 ad aE n3 ae T.drop T.ord T.ini) 25) bG))) i))).Ok:=fun i a'=>bX fun g8=>bX fun z=>gG (aB aC (Ja ab.o));refine oQ (gf:=63) (lb:=(vu (some ⟨b1,0,none⟩) (some ⟨b2,0,none⟩) (some ⟨b3,0,none⟩))) rfl (enters_of Tryz.func63 eQ rfl) bn.o nJ (fun _=>rfl) ci.o (fun i=>XD T k k2 ws g6 J (aj (av g5 (ff v c) 81) (aj (av g4 (ff u a) 81) (aj (av g3 (fN aA n1 ac aD n2 ad aE n3 ae T.drop T.ord T.ini) 25) bG))) i) (fun _=>vy) (fun i=>Ja ab.o) _ b9 (fun _=>Fu) cn.o ?_ ?_ ?_ ?_
 ·intro lo m i hi R' W1 K hR hI hK;have h3:=aH hI (aB (Ja ab.o) hR) (qW ws[i]) 119;have HF:=au (hK { tmps:=#[.agg (fN aA n1 ac aD n2 ad aE n3 ae T.drop T.ord T.ini),.agg (ff u a),.agg (ff v c),.pointer (some ⟨g3,0,none⟩),.pointer (some ⟨g4,0,none⟩),.pointer (some ⟨g5,0,none⟩),.pointer (some ⟨g6,0,none⟩),.pointer (some ⟨J,0,none⟩),.pointer (some ⟨W1.heap.size,0,none⟩),undef,undef,.agg (fN aA n1 ac aD n2 ad aE n3 ae T.drop T.ord T.ini),.agg (ff u a),.agg (ff v c),L2 b1 b2 b3,.agg (qW ws[i]),undef,undef,undef,undef,undef,undef,undef,undef,undef,undef,undef,undef,undef,undef,undef,undef,undef,undef,undef,undef,undef,undef,undef,undef,undef,undef,undef,undef,undef,undef,undef,undef,undef,undef,undef,undef,undef,undef,undef,undef],defers:=[] } _ (aI.nT W1.heap.size (aI.nT ws[i] (aI.iQ ⟨gR hi,rfl⟩ (h3.perm (by ac_rfl))))));clear hI h3 hK;unfold Tt;generalize ws[i]=z at *
  obtain⟨I,zl,zr,zc,zx,zy⟩:=z;unfold qW;unfold qW at HF;dsimp only at HF;dsimp only;gi_wp2;exact HF.o
 ·intro lo m i hi a' R' W1 hR hI;obtain⟨g8,h1⟩:=hI.ex;obtain⟨z,h1⟩:=h1.ex;obtain⟨⟨bx,rfl⟩,h2⟩:=h1.pure;have ba:ws[i]=z:=by rw[gR hi] at bx;injection bx
  have ax:z ∈ ws:=by rw[<-ba];exact gv hi
  have bf:=au (show eZ T k z.x k2 z.y=none->jr T k k2 ws (i+1)=jr T k k2 ws i from fun h=>TD hi (by rw[ba];exact h))
  have bm:=au (show ∀ d,eZ T k z.x k2 z.y=some d->first (jr T k k2 ws (i+1))=vS (first (jr T k k2 ws i)) ⟨0,0,z.kd,z.l,z.r,z.c+d.c,d⟩ from fun d h=>by
   have:=TF (T:=T) (k:=k) (k2:=k2) hi (d:=d) (by rw[ba];exact h);rw[ba] at this
   exact this)
  obtain⟨p,f,A,pc,B,qc,a7,a8,h3⟩:=XE (h2.perm (by ac_rfl:_=aj (XD T k k2 ws g6 J (aj (av g5 (ff v c) 81) (aj (av g4 (ff u a) 81) (aj (av g3 (fN aA n1 ac aD n2 ad aE n3 ae T.drop T.ord T.ini) 25) bG))) i) (aj (av g8 (qW z) 119) R')));have bp:=au a7;have bu:=au a8;have bz:=au hR;have H3:=au (h3.perm (by ac_rfl:_=(aj (av g8 (qW z) 119) (aj (av g6 (Cb p A pc B qc) 62) (aj (av J (gj f) 4) (aj (av g3 (fN aA n1 ac aD n2 ad aE n3 ae T.drop T.ord T.ini) 25) (aj (av g4 (ff u a) 81) (aj (av g5 (ff v c) 81) (aj (mI A pc B qc p.d) (aj R' bG))))))))));have bk:=au (aB aC (aB aC (aB aC (aB aC (aB aC (aB aC (aB su (aB hR aN))))))):((aj (av g8 (qW z) 119) (aj (av g6 (Cb p A pc B qc) 62) (aj (av J (gj f) 4) (aj (av g3 (fN aA n1 ac aD n2 ad aE n3 ae T.drop T.ord T.ini) 25) (aj (av g4 (ff u a) 81) (aj (av g5 (ff v c) 81) (aj (mI A pc B qc p.d) (aj R' bG))))))))).Ok);have cq:=cv.o z ax;have cj:=au (fun q h=>ct.o i q h);have bj:=au (KB.o W1 (cm.o _ _ H3.o) z ax);rw[<-HK.o.1,<-HK.o.2] at bj;clear hI h1 h2 h3 bx ba ax hi a7 a8 hR;obtain⟨I,zl,zr,zc,zx,zy⟩:=z;unfold qW at H3 bk ⊢;dsimp only at H3 bk cq bj bf bm ⊢;obtain⟨⟨a3,a0,az,am,ap,ar⟩,⟨a2,aq,a1,an,af,ag⟩,wf⟩:=Cc H3.o;obtain⟨t0,t1,t2,t3,t4,t5⟩:=fu H3.o.drop.drop.drop;obtain⟨u0,u1,u2⟩:=fO H3.o.drop.drop.drop.drop;obtain⟨v0,v1,v2⟩:=fO H3.o.drop.drop.drop.drop.drop;refine wpIn_block (wpIn_seq (bR rfl (fun⟨a,w,h⟩=>h) ?_));go_wp2_with fail;refine bj.o.mono ?_;rintro e9 w3 ⟨d,er,A2,c2,B2,d2,rfl,hbp,hp⟩;rw[HK.o.1,HK.o.2] at hbp;have bw:=au (Gc hbp);have H4:=au (H3.o.fresh bk.o hp);clear bj H3 hp hbp a3 a0 az am ap ar a2 aq a1 an af ag wf t0 t1 t2 t3 t4 t5 u0 u1 u2 v0 v1 v2;dsimp only;go_wp2_with fail;have cy:=au (aB (aB fq fq) bk.o:(aj (aj (bE A2 c2 d.L) (bE B2 d2 d.M)) (aj (av g8 (oT 0 0 I zl zr zc 0 none 0 0 none 0 0 ⟨#[]⟩ (bs zx) (bs zy)) 119) (aj (av g6 (Cb p A pc B qc) 62) (aj (av J (gj f) 4) (aj (av g3 (fN aA n1 ac aD n2 ad aE n3 ae T.drop T.ord T.ini) 25) (aj (av g4 (ff u a) 81) (aj (av g5 (ff v c) 81) (aj (mI A pc B qc p.d) (aj R' bG))))))))).Ok);have H5:=au (aH H4.o cy.o (ki d.c A2 d.L.length c2 B2 d.M.length d2 (bs d.F)) 60);clear H4;generalize w3.alloc (.cells (ki d.c A2 d.L.length c2 B2 d.M.length d2 (bs d.F)) 60)=w4 at *
  generalize w3.heap.size=g9 at *
  rcases bw.o with⟨rfl,a5⟩|⟨b5,a5⟩
  ·have cD:=oq a5;have bv:=au (bm.o d a5);clear a5 bw bf bm;refine wpIn_seq (wpIn_seq (bR rfl (fun⟨a,w,h⟩=>h) ?_));go_wp2_with fail
   iterate 5 gi_step
   have H6:=au (H5.o.perm (by ac_rfl:_=aj (av g8 (oT 0 0 I zl zr zc 0 none 0 0 none 0 0 ⟨#[]⟩ (bs zx) (bs zy)) 119) (aj (av g9 (ki d.c A2 d.L.length c2 B2 d.M.length d2 (bs d.F)) 60) (aj (aj (bE A2 c2 d.L) (bE B2 d2 d.M)) (aj (av g6 (Cb p A pc B qc) 62) (aj (av J (gj f) 4) (aj (av g3 (fN aA n1 ac aD n2 ad aE n3 ae T.drop T.ord T.ini) 25) (aj (av g4 (ff u a) 81) (aj (av g5 (ff v c) 81) (aj (mI A pc B qc p.d) (aj R' bG)))))))))));have al:=au (aB aC (aB (aB fq fq) (aB aC (aB aC (aB aC (aB aC (aB aC (aB su (aB bz.o aN)))))))):(aj (av g9 (ki d.c A2 d.L.length c2 B2 d.M.length d2 (bs d.F)) 60) (aj (aj (bE A2 c2 d.L) (bE B2 d2 d.M)) (aj (av g6 (Cb p A pc B qc) 62) (aj (av J (gj f) 4) (aj (av g3 (fN aA n1 ac aD n2 ad aE n3 ae T.drop T.ord T.ini) 25) (aj (av g4 (ff u a) 81) (aj (av g5 (ff v c) 81) (aj (mI A pc B qc p.d) (aj R' bG))))))))).Ok);clear H5;obtain⟨e0,e1,e2,e3,-⟩:=bq H6.o.drop;obtain⟨⟨a3,a0,az,am,ap,ar⟩,⟨a2,aq,a1,an,af,ag⟩,wf⟩:=Cc H6.o;refine wpIn_seq (bR rfl (fun⟨a,w,h⟩=>h) ?_);go_wp2_with fail;have b6:aI eR w (aj (av g8 (oT 0 0 I zl zr zc d.c none 0 0 none 0 0 ⟨#[]⟩ (bs zx) (bs zy)) 119) (aj (av g9 (ki d.c A2 d.L.length c2 B2 d.M.length d2 (bs d.F)) 60) (aj (aj (bE A2 c2 d.L) (bE B2 d2 d.M)) (aj (av g6 (Cb p A pc B qc) 62) (aj (av J (gj f) 4) (aj (av g3 (fN aA n1 ac aD n2 ad aE n3 ae T.drop T.ord T.ini) 25) (aj (av g4 (ff u a) 81) (aj (av g5 (ff v c) 81) (aj (mI A pc B qc p.d) (aj R' bG)))))))))) _:=aJ H6.o al.o 6 (.int .i64 d.c);have ca:aI eR w (aj (av g8 (oT 0 0 I zl zr zc d.c A2 d.L.length c2 none 0 0 ⟨#[]⟩ (bs zx) (bs zy)) 119) (aj (av g9 (ki d.c A2 d.L.length c2 B2 d.M.length d2 (bs d.F)) 60) (aj (aj (bE A2 c2 d.L) (bE B2 d2 d.M)) (aj (av g6 (Cb p A pc B qc) 62) (aj (av J (gj f) 4) (aj (av g3 (fN aA n1 ac aD n2 ad aE n3 ae T.drop T.ord T.ini) 25) (aj (av g4 (ff u a) 81) (aj (av g5 (ff v c) 81) (aj (mI A pc B qc p.d) (aj R' bG)))))))))) _:=aJ b6 al.o 7 (.slice A2 d.L.length c2);have ch:aI eR w (aj (av g8 (oT 0 0 I zl zr zc d.c A2 d.L.length c2 B2 d.M.length d2 ⟨#[]⟩ (bs zx) (bs zy)) 119) (aj (av g9 (ki d.c A2 d.L.length c2 B2 d.M.length d2 (bs d.F)) 60) (aj (aj (bE A2 c2 d.L) (bE B2 d2 d.M)) (aj (av g6 (Cb p A pc B qc) 62) (aj (av J (gj f) 4) (aj (av g3 (fN aA n1 ac aD n2 ad aE n3 ae T.drop T.ord T.ini) 25) (aj (av g4 (ff u a) 81) (aj (av g5 (ff v c) 81) (aj (mI A pc B qc p.d) (aj R' bG)))))))))) _:=aJ ca al.o 8 (.slice B2 d.M.length d2);have H7:=au (show aI eR w (aj (av g8 (oT 0 0 I zl zr zc d.c A2 d.L.length c2 B2 d.M.length d2 (bs d.F) (bs zx) (bs zy)) 119) (aj (av g9 (ki d.c A2 d.L.length c2 B2 d.M.length d2 (bs d.F)) 60) (aj (aj (bE A2 c2 d.L) (bE B2 d2 d.M)) (aj (av g6 (Cb p A pc B qc) 62) (aj (av J (gj f) 4) (aj (av g3 (fN aA n1 ac aD n2 ad aE n3 ae T.drop T.ord T.ini) 25) (aj (av g4 (ff u a) 81) (aj (av g5 (ff v c) 81) (aj (mI A pc B qc p.d) (aj R' bG)))))))))) ((((w4.setCell ⟨g8,6,none⟩ (.int .i64 d.c)).setCell ⟨g8,7,none⟩ (.slice A2 d.L.length c2)).setCell ⟨g8,8,none⟩ (.slice B2 d.M.length d2)).setCell ⟨g8,9,none⟩ (.string (bs d.F))) from aJ ch al.o 9 (.string (bs d.F)));clear b6 ca ch H6 e0 e1 e2 e3 a3 a0 az am ap ar a2 aq a1 an af ag wf;generalize (((w4.setCell ⟨g8,6,none⟩ (.int .i64 d.c)).setCell ⟨g8,7,none⟩ (.slice A2 d.L.length c2)).setCell ⟨g8,8,none⟩ (.slice B2 d.M.length d2)).setCell ⟨g8,9,none⟩ (.string (bs d.F))=w7 at *
   obtain⟨e0,e1,e2,e3,-⟩:=bq H7.o.drop;obtain⟨⟨a3,a0,az,am,ap,ar⟩,⟨a2,aq,a1,an,af,ag⟩,wf⟩:=Cc H7.o;have tw:wrap64 (zc+d.c)=zc+d.c:=rL _ eL;refine wpIn_seq (bR rfl (fun⟨a,w,h⟩=>h) ?_);go_wp2_with fail;have H8:=au (show aI eR w (aj (av g8 (oT 0 0 I zl zr (zc+d.c) d.c A2 d.L.length c2 B2 d.M.length d2 (bs d.F) (bs zx) (bs zy)) 119) (aj (av g9 (ki d.c A2 d.L.length c2 B2 d.M.length d2 (bs d.F)) 60) (aj (aj (bE A2 c2 d.L) (bE B2 d2 d.M)) (aj (av g6 (Cb p A pc B qc) 62) (aj (av J (gj f) 4) (aj (av g3 (fN aA n1 ac aD n2 ad aE n3 ae T.drop T.ord T.ini) 25) (aj (av g4 (ff u a) 81) (aj (av g5 (ff v c) 81) (aj (mI A pc B qc p.d) (aj R' bG)))))))))) (w7.setCell ⟨g8,5,none⟩ (.int .i64 (zc+d.c))) from aJ H7.o al.o 5 (.int .i64 (zc+d.c)));clear H7 tw e0 e1 e2 e3 a3 a0 az am ap ar a2 aq a1 an af ag wf;generalize w7.setCell ⟨g8,5,none⟩ (.int .i64 (zc+d.c))=w8 at *
   obtain⟨⟨a3,a0,az,am,ap,ar⟩,⟨a2,aq,a1,an,af,ag⟩,wf⟩:=Cc H8.o;obtain⟨⟨p0,p1,p2,p3,p4⟩,⟨p5,p6,p7,p8,p9⟩,pf⟩:=kg H8.o.drop.drop.drop;obtain⟨FB,aa⟩:=H8.o.drop.drop.drop.drop.fst;have q0:=ay (i:=0) aa rfl;have qf:=aM aa;clear aa FB;unfold Cb at H8 al;have a9:∀ wz,aI eR w (aj (av g8 (oT 0 0 I zl zr (zc+d.c) d.c A2 d.L.length c2 B2 d.M.length d2 (bs d.F) (bs zx) (bs zy)) 119) (aj (av g9 (ki d.c A2 d.L.length c2 B2 d.M.length d2 (bs d.F)) 60) (aj (aj (bE A2 c2 d.L) (bE B2 d2 d.M)) (aj (av g6 (pL p A pc B qc) 62) (aj (av J (gj f) 4) (aj (av g3 (fN aA n1 ac aD n2 ad aE n3 ae T.drop T.ord T.ini) 25) (aj (av g4 (ff u a) 81) (aj (av g5 (ff v c) 81) (aj (mI A pc B qc p.d) (aj R' bG)))))))))) wz->aI eR w (aj (av J (gj f) 4) (aj (av g6 (jb 0 0 I zl zr (zc+d.c) d.c A2 d.L.length c2 B2 d.M.length d2 (bs d.F)) 62) (aj (aj (bE A2 c2 d.L) (bE B2 d2 d.M)) (aj (aj (av g8 (oT 0 0 I zl zr (zc+d.c) d.c A2 d.L.length c2 B2 d.M.length d2 (bs d.F) (bs zx) (bs zy)) 119) (aj (av g9 (ki d.c A2 d.L.length c2 B2 d.M.length d2 (bs d.F)) 60) (mI A pc B qc p.d))) (aj R' (aj (av g5 (ff v c) 81) (aj (av g4 (ff u a) 81) (aj (av g3 (fN aA n1 ac aD n2 ad aE n3 ae T.drop T.ord T.ini) 25) bG)))))))) ((((((((((wz.setCell ⟨g6,0,none⟩ (.int .i64 0)).setCell ⟨g6,1,none⟩ (.int .i64 0)).setCell ⟨g6,2,none⟩ (.int .i64 I)).setCell ⟨g6,3,none⟩ (.int .i64 zl)).setCell ⟨g6,4,none⟩ (.int .i64 zr)).setCell ⟨g6,5,none⟩ (.int .i64 (zc+d.c))).setCell ⟨g6,6,none⟩ (.int .i64 d.c)).setCell ⟨g6,7,none⟩ (.slice A2 d.L.length c2)).setCell ⟨g6,8,none⟩ (.slice B2 d.M.length d2)).setCell ⟨g6,9,none⟩ (.string (bs d.F))):=fun wz hz=>by
    have h1:=hz.perm (by ac_rfl:_=aj (av g6 (pL p A pc B qc) 62) (aj (av J (gj f) 4) (aj (aj (bE A2 c2 d.L) (bE B2 d2 d.M)) (aj (aj (av g8 (oT 0 0 I zl zr (zc+d.c) d.c A2 d.L.length c2 B2 d.M.length d2 (bs d.F) (bs zx) (bs zy)) 119) (aj (av g9 (ki d.c A2 d.L.length c2 B2 d.M.length d2 (bs d.F)) 60) (mI A pc B qc p.d))) (aj R' (aj (av g5 (ff v c) 81) (aj (av g4 (ff u a) 81) (aj (av g3 (fN aA n1 ac aD n2 ad aE n3 ae T.drop T.ord T.ini) 25) bG))))))));have cr:(aj (av J (gj f) 4) (aj (aj (bE A2 c2 d.L) (bE B2 d2 d.M)) (aj (aj (av g8 (oT 0 0 I zl zr (zc+d.c) d.c A2 d.L.length c2 B2 d.M.length d2 (bs d.F) (bs zx) (bs zy)) 119) (aj (av g9 (ki d.c A2 d.L.length c2 B2 d.M.length d2 (bs d.F)) 60) (mI A pc B qc p.d))) (aj R' (aj (av g5 (ff v c) 81) (aj (av g4 (ff u a) 81) (aj (av g3 (fN aA n1 ac aD n2 ad aE n3 ae T.drop T.ord T.ini) 25) bG))))))).Ok:=aB aC (aB (aB fq fq) (aB (aB aC (aB aC su)) (aB bz.o ab.o)));have h2:=GH h1 cr (.int .i64 0) (.int .i64 0) (.int .i64 I) (.int .i64 zl) (.int .i64 zr) (.int .i64 (zc+d.c)) (.int .i64 d.c) (.slice A2 d.L.length c2) (.slice B2 d.M.length d2) (.string (bs d.F));exact h2.perm (by ac_rfl)
   have bb:(aj (av g6 (jb 0 0 I zl zr (zc+d.c) d.c A2 d.L.length c2 B2 d.M.length d2 (bs d.F)) 62) (aj (aj (bE A2 c2 d.L) (bE B2 d2 d.M)) (aj (aj (av g8 (oT 0 0 I zl zr (zc+d.c) d.c A2 d.L.length c2 B2 d.M.length d2 (bs d.F) (bs zx) (bs zy)) 119) (aj (av g9 (ki d.c A2 d.L.length c2 B2 d.M.length d2 (bs d.F)) 60) (mI A pc B qc p.d))) (aj R' (aj (av g5 (ff v c) 81) (aj (av g4 (ff u a) 81) (aj (av g3 (fN aA n1 ac aD n2 ad aE n3 ae T.drop T.ord T.ini) 25) bG))))))).Ok:=aB aC (aB (aB fq fq) (aB (aB aC (aB aC su)) (aB bz.o ab.o)));have ao:=au a9;clear a9;cases f with
   | false=>
    have a4:first (jr T k k2 ws (i+1))=(if true then some (⟨0,0,I,zl,zr,zc+d.c,d⟩:Pr) else none):=by rw[bv.o,bp.o];rfl
    have HN:=au a4;have H9:=au (ao.o _ H8.o);have a6:=au bb;clear ao H8 al a4 bb;refine wpIn_seq (bR rfl (fun⟨a,w,h⟩=>h) ?_);go_wp2_with fail
    iterate 2 gi_step
    refine bR rfl (fun⟨a,w,h⟩=>h) ?_
    iterate 8 go_step
    generalize ((((((((((w8.setCell ⟨g6,0,none⟩ (.int .i64 0)).setCell ⟨g6,1,none⟩ (.int .i64 0)).setCell ⟨g6,2,none⟩ (.int .i64 I)).setCell ⟨g6,3,none⟩ (.int .i64 zl)).setCell ⟨g6,4,none⟩ (.int .i64 zr)).setCell ⟨g6,5,none⟩ (.int .i64 (zc+d.c))).setCell ⟨g6,6,none⟩ (.int .i64 d.c)).setCell ⟨g6,7,none⟩ (.slice A2 d.L.length c2)).setCell ⟨g6,8,none⟩ (.slice B2 d.M.length d2)).setCell ⟨g6,9,none⟩ (.string (bs d.F)))=w9 at *
    obtain⟨FB,aa⟩:=H9.o.fst;have r0:=ay (i:=0) aa rfl;have rf:=aM aa;have hA:aI eR w (aj (av J (gj true) 4) _) _:=aJ H9.o a6.o 0 (.bool true);have aw:=(hA.perm (by ac_rfl:_=aj (aj (av g8 (oT 0 0 I zl zr (zc+d.c) d.c A2 d.L.length c2 B2 d.M.length d2 (bs d.F) (bs zx) (bs zy)) 119) (aj (av g9 (ki d.c A2 d.L.length c2 B2 d.M.length d2 (bs d.F)) 60) (mI A pc B qc p.d))) (aj (aj (av g6 (jb 0 0 I zl zr (zc+d.c) d.c A2 d.L.length c2 B2 d.M.length d2 (bs d.F)) 62) (aj (av J (gj true) 4) (aj (aj (bE A2 c2 d.L) (bE B2 d2 d.M)) (aj (av g5 (ff v c) 81) (aj (av g4 (ff u a) 81) (aj (av g3 (fN aA n1 ac aD n2 ad aE n3 ae T.drop T.ord T.ini) 25) bG)))))) R'))).drop;have HF:=au (show aI eR w (aj (XD T k k2 ws g6 J (aj (av g5 (ff v c) 81) (aj (av g4 (ff u a) 81) (aj (av g3 (fN aA n1 ac aD n2 ad aE n3 ae T.drop T.ord T.ini) 25) bG))) (i+1)) R') (w9.setCell ⟨J,0,none⟩ (.bool true)) from Ed (p:=⟨0,0,I,zl,zr,zc+d.c,d⟩) (f:=true) (A:=A2) (ac:=c2) (B:=B2) (bc:=d2) HN.o (fun h=>by cases h) aw);clear hA aw H9 a6 HN aa FB;clear a3 a0 az am ap ar a2 aq a1 an af ag wf p0 p1 p2 p3 p4 p5 p6 p7 p8 p9 pf q0 qf;go_wp2_with fail;exact HF.o
   | true=>
    have ak:=bp.o;simp only[if_true] at ak;have cG:=cj.o p ak;by_cases bi:zc+d.c<p.c
    ·have t1:decide (zc+d.c<p.c)=true:=decide_eq_true bi;have a4:first (jr T k k2 ws (i+1))=(if true then some (⟨0,0,I,zl,zr,zc+d.c,d⟩:Pr) else none):=by rw[bv.o,ak];simp[vS,bi]
     have HN:=au a4;have H9:=au (ao.o _ H8.o);have a6:=au bb;clear ao H8 al a4 bb ak;refine wpIn_seq (bR rfl (fun⟨a,w,h⟩=>h) ?_);go_wp2_with fail
     iterate 2 gi_step
     refine bR rfl (fun⟨a,w,h⟩=>h) ?_
     iterate 8 go_step
     generalize ((((((((((w8.setCell ⟨g6,0,none⟩ (.int .i64 0)).setCell ⟨g6,1,none⟩ (.int .i64 0)).setCell ⟨g6,2,none⟩ (.int .i64 I)).setCell ⟨g6,3,none⟩ (.int .i64 zl)).setCell ⟨g6,4,none⟩ (.int .i64 zr)).setCell ⟨g6,5,none⟩ (.int .i64 (zc+d.c))).setCell ⟨g6,6,none⟩ (.int .i64 d.c)).setCell ⟨g6,7,none⟩ (.slice A2 d.L.length c2)).setCell ⟨g6,8,none⟩ (.slice B2 d.M.length d2)).setCell ⟨g6,9,none⟩ (.string (bs d.F)))=w9 at *
     obtain⟨FB,aa⟩:=H9.o.fst;have r0:=ay (i:=0) aa rfl;have rf:=aM aa;have hA:aI eR w (aj (av J (gj true) 4) _) _:=aJ H9.o a6.o 0 (.bool true);have aw:=(hA.perm (by ac_rfl:_=aj (aj (av g8 (oT 0 0 I zl zr (zc+d.c) d.c A2 d.L.length c2 B2 d.M.length d2 (bs d.F) (bs zx) (bs zy)) 119) (aj (av g9 (ki d.c A2 d.L.length c2 B2 d.M.length d2 (bs d.F)) 60) (mI A pc B qc p.d))) (aj (aj (av g6 (jb 0 0 I zl zr (zc+d.c) d.c A2 d.L.length c2 B2 d.M.length d2 (bs d.F)) 62) (aj (av J (gj true) 4) (aj (aj (bE A2 c2 d.L) (bE B2 d2 d.M)) (aj (av g5 (ff v c) 81) (aj (av g4 (ff u a) 81) (aj (av g3 (fN aA n1 ac aD n2 ad aE n3 ae T.drop T.ord T.ini) 25) bG)))))) R'))).drop;have HF:=au (show aI eR w (aj (XD T k k2 ws g6 J (aj (av g5 (ff v c) 81) (aj (av g4 (ff u a) 81) (aj (av g3 (fN aA n1 ac aD n2 ad aE n3 ae T.drop T.ord T.ini) 25) bG))) (i+1)) R') (w9.setCell ⟨J,0,none⟩ (.bool true)) from Ed (p:=⟨0,0,I,zl,zr,zc+d.c,d⟩) (f:=true) (A:=A2) (ac:=c2) (B:=B2) (bc:=d2) HN.o (fun h=>by cases h) aw);clear hA aw H9 a6 HN aa FB;clear a3 a0 az am ap ar a2 aq a1 an af ag wf p0 p1 p2 p3 p4 p5 p6 p7 p8 p9 pf q0 qf;go_wp2_with fail;exact HF.o
    ·have t1:decide (zc+d.c<p.c)=false:=decide_eq_false bi;have a4:first (jr T k k2 ws (i+1))=(if true then some p else none):=by rw[bv.o,ak];simp[vS,bi]
     have aw:=(H8.o.perm (by ac_rfl:_=aj (aj (av g8 (oT 0 0 I zl zr (zc+d.c) d.c A2 d.L.length c2 B2 d.M.length d2 (bs d.F) (bs zx) (bs zy)) 119) (aj (av g9 (ki d.c A2 d.L.length c2 B2 d.M.length d2 (bs d.F)) 60) (aj (bE A2 c2 d.L) (bE B2 d2 d.M)))) (aj (aj (av g6 (pL p A pc B qc) 62) (aj (av J (gj true) 4) (aj (mI A pc B qc p.d) (aj (av g5 (ff v c) 81) (aj (av g4 (ff u a) 81) (aj (av g3 (fN aA n1 ac aD n2 ad aE n3 ae T.drop T.ord T.ini) 25) bG)))))) R'))).drop;have HF:=au (show aI eR w (aj (XD T k k2 ws g6 J (aj (av g5 (ff v c) 81) (aj (av g4 (ff u a) 81) (aj (av g3 (fN aA n1 ac aD n2 ad aE n3 ae T.drop T.ord T.ini) 25) bG))) (i+1)) R') w8 from Ed (p:=p) (f:=true) (A:=A) (ac:=pc) (B:=B) (bc:=qc) a4 (fun h=>by cases h) aw);clear ao H8 al a4 bb ak aw;refine wpIn_seq (bR rfl (fun⟨a,w,h⟩=>h) ?_);go_wp2_with fail;gi_wp2;exact HF.o
  ·have t1:(er != 0)=true:=by simp[b5]
   have HF:=au (show aI eR w (aj (XD T k k2 ws g6 J (aj (av g5 (ff v c) 81) (aj (av g4 (ff u a) 81) (aj (av g3 (fN aA n1 ac aD n2 ad aE n3 ae T.drop T.ord T.ini) 25) bG))) (i+1)) R') w4 from Ed (by rw[bf.o a5];exact bp.o) bu.o (H5.o.drop.drop.drop.perm (by ac_rfl)));clear bw a5 b5 bf bm H5;refine wpIn_seq (wpIn_seq (bR rfl (fun⟨a,w,h⟩=>h) ?_));go_wp2_with fail;gi_wp2;exact HF.o
 ·intro D R W1 hR hI;obtain⟨p,f,A,pc,B,qc,a7,a8,h3⟩:=XE hI;have cp:=au (show bo=(if f then some p else none) from ce.o.symm.trans a7);have bu:=au a8;have H3:=au (h3.perm (by ac_rfl:_=aj (av g6 (Cb p A pc B qc) 62) (aj (av J (gj f) 4) (aj (mI A pc B qc p.d) (aj (aW D (.deferred (some []))) (aj R (aj (av g5 (ff v c) 81) (aj (av g4 (ff u a) 81) (aj (av g3 (fN aA n1 ac aD n2 ad aE n3 ae T.drop T.ord T.ini) 25) bG)))))))));have bh:=au (aB aC (aB aC (aB su (aB bg (aB hR ab.o)))):(aj (av g6 (Cb p A pc B qc) 62) (aj (av J (gj f) 4) (aj (mI A pc B qc p.d) (aj (aW D (.deferred (some []))) (aj R (aj (av g5 (ff v c) 81) (aj (av g4 (ff u a) 81) (aj (av g3 (fN aA n1 ac aD n2 ad aE n3 ae T.drop T.ord T.ini) 25) bG)))))))).Ok);have cd:=au (aB su (aB bg (aB hR ab.o)):(aj (mI A pc B qc p.d) (aj (aW D (.deferred (some []))) (aj R (aj (av g5 (ff v c) 81) (aj (av g4 (ff u a) 81) (aj (av g3 (fN aA n1 ac aD n2 ad aE n3 ae T.drop T.ord T.ini) 25) bG)))))).Ok);have cA:=au (show ∀ X Y:CH.aT,∀ F0 w0 W,aI F0 w0 (aj X (aj Y (aj R (aj (av g5 (ff v c) 81) (aj (av g4 (ff u a) 81) (aj (av g3 (fN aA n1 ac aD n2 ad aE n3 ae T.drop T.ord T.ini) 25) bG)))))) W->aI F0 w0 (aj (aj R (aj (av g5 (ff v c) 81) (aj (av g4 (ff u a) 81) (aj (av g3 (fN aA n1 ac aD n2 ad aE n3 ae T.drop T.ord T.ini) 25) bG)))) (aj X Y)) W from fun X Y F0 w0 W h=>h.perm (by ac_rfl));have ck:=au (aB hR ab.o:(aj R (aj (av g5 (ff v c) 81) (aj (av g4 (ff u a) 81) (aj (av g3 (fN aA n1 ac aD n2 ad aE n3 ae T.drop T.ord T.ini) 25) bG)))).Ok);generalize (aj R (aj (av g5 (ff v c) 81) (aj (av g4 (ff u a) 81) (aj (av g3 (fN aA n1 ac aD n2 ad aE n3 ae T.drop T.ord T.ini) 25) bG))))=RB at *
  clear hI h3 a7 a8 ce;unfold Cb at H3 bh;generalize w.heap.size=cE at *
  go_upto_region 9 with (fail);have H4:=au (H3.o.drew bh.o);clear H3;refine dY [2,3] [0,1,1,2] (fun w'=>aI eR w (aj (av g6 (pL p A pc B qc) 62) (aj (av J (gj f) 4) (aj (mI A pc B qc p.d) (aj (aW D (.deferred (some []))) RB)))) w') [fun w'=>aI eR w (aj (av g6 (pL p A pc B qc) 62) (aj (av J (gj f) 4) (aj (mI A pc B qc p.d) (aj (aW D (.deferred (some []))) RB)))) w',fun w'=>aI eR w (aj (av g6 (pL p A pc B qc) 62) (aj (av J (gj f) 4) (aj (mI A pc B qc p.d) (aj (aW D (.deferred (some []))) RB)))) w'] ⟨fun _ h=>h,fun _ h=>h,trivial⟩ rfl eQ eQ eQ H4.o ?_;generalize W1.drew=W2 at *
  refine C9 (v:=.agg (pL p A pc B qc)) fY (fun w' be=>?_) ?_
  ·obtain⟨⟨p0,p1,p2,p3,p4⟩,⟨p5,p6,p7,p8,p9⟩,pf⟩:=kg (show aI eR w (aj (av g6 (pL p A pc B qc) 62) (aj (av J (gj f) 4) (aj (mI A pc B qc p.d) (aj (aW D (.deferred (some []))) RB)))) w' from be);clear be bh;go_simp
  refine C9 (v:=.bool f) fY (fun w' be=>?_) ?_
  ·obtain⟨FB,aa⟩:=(show aI eR w (aj (av g6 (pL p A pc B qc) 62) (aj (av J (gj f) 4) (aj (mI A pc B qc p.d) (aj (aW D (.deferred (some []))) RB)))) w' from be).drop.fst;have q0:=ay (i:=0) aa rfl;clear be bh;go_simp
  simp only[Act.put,ja,i6,i7];refine bB rfl fY (fun K hK=>?_);obtain⟨⟨p0,p1,p2,p3,p4⟩,⟨p5,p6,p7,p8,p9⟩,pf⟩:=kg H4.o;go_wp2_with fail;have H5:=au (show aI eR w (aj (av g6 (pL p A pc B qc) 62) (aj (av J (gj f) 4) (aj (mI A pc B qc p.d) (aj (aW D (.deferred (some []))) RB)))) ((((((((((W2.setCell ⟨g6,0,none⟩ (.int .i64 p.i)).setCell ⟨g6,1,none⟩ (.int .i64 p.j)).setCell ⟨g6,2,none⟩ (.int .i64 p.kd)).setCell ⟨g6,3,none⟩ (.int .i64 p.l)).setCell ⟨g6,4,none⟩ (.int .i64 p.r)).setCell ⟨g6,5,none⟩ (.int .i64 p.c)).setCell ⟨g6,6,none⟩ (.int .i64 p.d.c)).setCell ⟨g6,7,none⟩ (.slice A p.d.L.length pc)).setCell ⟨g6,8,none⟩ (.slice B p.d.M.length qc)).setCell ⟨g6,9,none⟩ (.string (bs p.d.F))) from GH H4.o (aB aC cd.o) (.int .i64 p.i) (.int .i64 p.j) (.int .i64 p.kd) (.int .i64 p.l) (.int .i64 p.r) (.int .i64 p.c) (.int .i64 p.d.c) (.slice A p.d.L.length pc) (.slice B p.d.M.length qc) (.string (bs p.d.F)));refine hK.o _ _ H5.o ?_;clear hK H4 p0 p1 p2 p3 p4 p5 p6 p7 p8 p9 pf;generalize ((((((((((W2.setCell ⟨g6,0,none⟩ (.int .i64 p.i)).setCell ⟨g6,1,none⟩ (.int .i64 p.j)).setCell ⟨g6,2,none⟩ (.int .i64 p.kd)).setCell ⟨g6,3,none⟩ (.int .i64 p.l)).setCell ⟨g6,4,none⟩ (.int .i64 p.r)).setCell ⟨g6,5,none⟩ (.int .i64 p.c)).setCell ⟨g6,6,none⟩ (.int .i64 p.d.c)).setCell ⟨g6,7,none⟩ (.slice A p.d.L.length pc)).setCell ⟨g6,8,none⟩ (.slice B p.d.M.length qc)).setCell ⟨g6,9,none⟩ (.string (bs p.d.F)))=W3 at *
  refine bB rfl fY (fun K hK=>?_);have h5:=H5.o.perm (by ac_rfl:_=aj (av J (gj f) 4) (aj (av g6 (pL p A pc B qc) 62) (aj (mI A pc B qc p.d) (aj (aW D (.deferred (some []))) RB))));obtain⟨FB,aa⟩:=h5.fst;have q0:=ay (i:=0) aa rfl;have qf:=aM aa;go_wp2_with fail;have h6:aI eR w (aj (av J (gj f) 4) _) _:=aJ h5 (aB aC cd.o) 0 (.bool f);have H6:=au (h6.perm (by ac_rfl:_=(aj (av g6 (pL p A pc B qc) 62) (aj (av J (gj f) 4) (aj (mI A pc B qc p.d) (aj (aW D (.deferred (some []))) RB))))));refine hK.o _ _ H6.o ?_;clear hK h5 h6 FB aa q0 qf H5;generalize W3.setCell _ _=W4 at *
  refine iT ?_;have h7:=H6.o.perm (by ac_rfl:_=aj (aW D (.deferred (some []))) (aj (av g6 (pL p A pc B qc) 62) (aj (av J (gj f) 4) (aj (mI A pc B qc p.d) RB))));obtain⟨FD,hD,-,cg⟩:=h7.take bg (aB aC (aB aC (aB su ck.o)));have HD:=au hD.1;have h8:=cg _ _ (fH hD (.deferred none));have HP:=au ((h8.drop.drop.drop.perm (by ac_rfl:_=aj RB (mI A pc B qc p.d))).drop.post su);obtain⟨F6,cf⟩:=h8.drop.fst;obtain⟨F7,b4⟩:=h8.drop.drop.fst;have cw:=au cf.1;have co:=au (ay (i:=0) b4 rfl);have e1:bo.getD wj=p/\bo.isSome=f:=by
   rw[cp.o];cases f with
   | false=>exact⟨(bu.o rfl).symm,rfl⟩
   | true=>exact⟨rfl,rfl⟩
  have HE:=au e1;clear h7 hD cg h8 cf b4 F6 F7 FD e1 H6;go_wp2_with fail;refine⟨by simp,.inl ⟨_,_,rfl,run_takeDeferred HD.o,?_⟩⟩;refine⟨_,ad9 rfl rfl rfl cw.o co.o,A,pc,B,qc,?_,?_⟩
  ·rw[HE.o.1,HE.o.2];rfl
  ·rw[HE.o.1];exact HP.o
 ·intro D c R W1 hR hI;exact hI.no.elim
open Asn (jG D3 Wj oU)
def fM (p:wQ × WW):List Value:=[.int .i64 p.1.k,.slice p.2.V p.1.vs.length p.2.vc,.slice p.2.L p.1.ls.length p.2.lc]
theorem DW (l:List (wQ × WW)):∀ u ∈ l.flatMap fM,u.oneCell'=true:=by
 intro u hu;obtain⟨x,-,hx⟩:=List.mem_flatMap.1 hu;unfold fM at hx;simp only[pA,vm,or_false] at hx;rcases hx with rfl|rfl|rfl<;>rfl
def og:List (wQ × WW)->CH.aT
 | []=>bG
 | p::l=>aj (pF p.1 p.2) (og l)
theorem yQ:∀ {l:List (wQ × WW)},(og l).Ok
 | []=>aN
 | p::l=>aB y5 yQ
theorem Gt (p:wQ × WW):∀ l:List (wQ × WW),og (l++[p])=aj (og l) (pF p.1 p.2)
 | []=>by show aj (pF p.1 p.2) bG=aj bG (pF p.1 p.2);rw[rC]
 | q::l=>by show aj (pF q.1 q.2) (og (l++[p]))=aj (aj (pF q.1 q.2) (og l)) (pF p.1 p.2);rw[Gt p l];ac_rfl
theorem Xh {w:World}:∀ {l:List (wQ × WW)} {F:Nat->Prop},og l w F->∀ p ∈ l,Af w p.1 p.2
 | [],_,_,_,hp=>by cases hp
 | q::l,F,h,p,hp=>by
  obtain⟨F1,F2,h1,h2,-,-⟩:=h;rcases List.mem_cons.1 hp with rfl|hp
  ·exact ac9 h1
  ·exact Xh h2 p hp
theorem aaI:eB Tryz.prog 72 81 (.agg (sx 0 none 0 0 none 0 0)) 3 56:=⟨Tryz.underlying72,by kernel_rfl,by decide,by decide⟩
structure IY (w:World) (T:eW) (n:aQ) (l:List (wQ × WW)) (A B:eV):Prop where
 eq:l.map (·.1)=n.ws.map (jg T n.k)
 row:sD fM 3 w A l
 dr:iF w B (n.ws.map (bQ T n.k))
 all:∀ p ∈ l,Af w p.1 p.2
variable {w':World}{sz c n:Nat}{v:Value}{e:TypeId}{xs:List Value}{a:Act}{Q:Exit->Act->World->Prop}
theorem IY.below   {n:aQ} {l:List (wQ × WW)} {B:eV} (h:IY w T n l A B) (hb:Below w.heap.size w w'):IY w' T n l A B:=
 ⟨h.eq,aY h.row hb,h.dr.below hb,fun p hp=>(h.all p hp).below hb⟩
def qA (w:World) (T:eW) (n:aQ) (e:Ending) (w':World):Prop:=
 if bL T&&eT n then
  ∃ l A c B d,e=.returned (.tuple #[.agg (fj A n.ws.length c B n.ws.length d),.bool true])/\Below w.heap.size w w'/\IY w' T n l A B/\n.ws.length<=c/\n.ws.length<=d
 else e=.returned (.tuple #[.agg (fj none 0 0 none 0 0),.bool false])/\Below w.heap.size w w'
theorem Xi {tmps:Array Value}   {cs:Array Value} (h:tmps.getD 4 undef=.pointer (some ⟨g,0,none⟩)) (J:cs.size=2) (I:w.heap[g]?=some (.cells cs 74))  (M:tmps.getD 5 undef=v):(results Tryz.f23 tmps).run Tryz.prog w=.ok (.tuple #[.agg cs,v]) w:=by
 subst M;exact dz rfl tmps w g 74 cs (0,0) h I Tryz.underlying74 (by rw[J];kernel_rfl)
theorem bY      {a b:Value} (h:aI F0 w0 (aj (av g #[a,b] t) X) w):w.cell? ⟨g,0,none⟩=some a/\w.cell? ⟨g,1,none⟩=some b/\∀ i,w.frozen? ⟨g,i,none⟩=false:=by
 obtain⟨F,hF⟩:=h.fst;exact⟨ay hF rfl,ay hF rfl,aM hF⟩
def TQ (e:TypeId) (sz:Nat) (A:eV) (c n:Nat) (xs cs:List Value) (q:Value):List Value->CH.aT
 | []=>aV e sz (.slice A n c) n xs
 | [v]=>lQ fun g:Nat=>sM (v=.slice (some ⟨g,0,none⟩) 1 1) (aj (av g cs.toArray e) (aV e sz (.slice A n c) n xs))
 | [_,v]=>lQ fun A2:eV=>lQ fun c2:Nat=>sM (v=.slice A2 (n+1) c2/\n+1<=c2) (aV e sz (.slice A2 (n+1) c2) (n+1) (xs++cs))
 | [_,v,p]=>lQ fun A2:eV=>lQ fun c2:Nat=>sM ((v=.slice A2 (n+1) c2/\n+1<=c2)/\p=q) (aV e sz (.slice A2 (n+1) c2) (n+1) (xs++cs))
 | _=>bG
theorem IZ     {cs:List Value} {q:Value}:∀ vs,(TQ e sz A c n xs cs q vs).Ok
 | []=>dK
 | [_]=>bX fun _=>gG aO
 | [_,_]=>bX fun _=>bX fun _=>gG dK
 | [_,_,_]=>bX fun _=>bX fun _=>gG dK
 | _::_::_::_::_=>aN
theorem Mh (k:Int) (V:eV) (a b:Nat) (L:eV) (d e:Nat) (w:World):(Instr.buildSlice 72 1 #[(0,.agg (sx k V a b L d e))]).run Tryz.prog w=.ok (.slice (some ⟨w.heap.size,0,none⟩) 1 1) (w.alloc (.cells (sx k V a b L d e) 81)):=by go_simp
theorem uz (x:Int) (w:World):(Instr.buildSlice 39 1 #[(0,.int .i64 x)]).run Tryz.prog w=.ok (.slice (some ⟨w.heap.size,0,none⟩) 1 1) (w.alloc (.cells (fL x) 3)):=by go_simp
theorem Ac {P:Program} {o:Oper}   {bT:Act->World->Prop}  (h:∀ K:Act->World->Prop,Hid (∀ a' w',bT a' w'->K a' w')->o.wp P a W K Q):o.wp P a W bT Q:=h bT (au fun _ _ h=>h)
theorem oC:∀ (ds:List Nat) (vs:List Value) (a:Act),(fS a ds vs).tmps.size=a.tmps.size
 | [],_,_=>by simp[fS]
 | _::_,[],_=>rfl
 | d::ds,v::vs,a=>by
  simp only[fS];rw[oC ds vs];simp[Act.put]
theorem aaJ  {o:Oper} {x:Operand}   (hop:o.op=.fieldAddr 74 x 0) (hx:a.eval x=.pointer (some ⟨g,0,none⟩)):(execOp a.eval o).run Tryz.prog w=.ok (.value (.pointer (some ⟨g,0,none⟩))) w:=by
 unfold execOp;simp only[hop,hx];go_simp
section
variable {w0 W:World} {F0:Nat→Prop} {Z:CH.aT} {ops:Array Oper} {a:Act} {Q:Exit→Act→World→Prop} {A B:eV} {c d n:Nat} {xs cs:List Value}
theorem BP {o:Oper}   {q:Value} (M:Z.Ok) (h:aI F0 w0 (aj (TQ e sz A c n xs cs q []) Z) W)
  (I:∀ w:World,(execOp a.eval o).run Tryz.prog w=.ok (.value (.slice (some ⟨w.heap.size,0,none⟩) 1 1)) (w.alloc (.cells cs.toArray e))) :
  o.wp Tryz.prog a W (fun J w'=>∃ v,J=a.put o.dst v/\aI F0 w0 (aj (TQ e sz A c n xs cs q ([]++[v])) Z) w') Q:=by
 unfold Oper.wp;rw[I W];exact⟨_,rfl,aI.nT W.heap.size (aI.iQ rfl ((aH h (show aT.Ok _ from aB dK M) cs.toArray e).perm (by show _=aj (aj (av W.heap.size cs.toArray e) (aV e sz (.slice A n c) n xs)) Z;unfold TQ;ac_rfl)))⟩
theorem BQ {o:Oper}  {z:Value} {bytes:Nat} {q:Value} (S:eB Tryz.prog t e z sz bytes) (J:bytes<=1000) (s x:Operand) (ho:o.op=.call { callee:=.builtin .append,args:=#[s,x],argTypes:=#[t,t] }) (hZ:Z.Ok) (h:aI F0 w0 (aj (TQ e sz A c n xs cs q [v]) Z) W)
  (hs:a.eval s=.slice A n c) (hx:a.eval x=v) (hn:n<=1000000) (h1:cs.length=sz) (h2:∀ u ∈ cs,u.oneCell'=true) :
  o.wp Tryz.prog a W (fun a' w'=>∃ v',a'=a.put o.dst v'/\aI F0 w0 (aj (TQ e sz A c n xs cs q ([v]++[v'])) Z) w') Q:=by
 obtain⟨g,h0⟩:=h.ex;obtain⟨rfl,h3⟩:=h0.pure;have h4:=h3.perm (by ac_rfl:_=aj (aV e sz (.slice A n c) n xs) (aj (av g cs.toArray e) Z));obtain⟨F,hF⟩:=h4.drop.fst;refine I9 S J s x ho (A:=A) (c:=c) (n:=n) (g:=g) (xs:=xs) (cs:=cs) hs hx hn aO h4 h1 h2 (fun j y hu=>ay hF (by rw[mj];exact hu)) ?_;intro A2 c2 w' M;obtain⟨FR,I⟩:=M.fst;exact⟨_,rfl,aI.nT A2 (aI.nT c2 (aI.iQ ⟨rfl,(u6 I.1).1⟩ M.kN.drop))⟩
theorem QF {e':TypeId} {J:Nat} {q q':Value} {A':eV} {c' n':Nat} {I cs':List Value} {v1 v2 v3 u1 u2:Value} {R:CH.aT} (h:aI F0 w0 (aj (TQ e sz A c n xs cs q [v1,v2,v3]) (aj (TQ e' J A' c' n' I cs' q' [u1,u2]) R)) W) :
  ∃ A2 c2 B2 M,v2=.slice A2 (n+1) c2/\v3=q/\u2=.slice B2 (n'+1) M/\n+1<=c2/\n'+1<=M/\aI F0 w0 (aj (aj (aV e sz (.slice A2 (n+1) c2) (n+1) (xs++cs)) (aV e' J (.slice B2 (n'+1) M) (n'+1) (I++cs'))) R) W:=by
 obtain⟨A2,h1⟩:=h.ex;obtain⟨c2,h1⟩:=h1.ex;obtain⟨⟨⟨rfl,k1⟩,rfl⟩,h2⟩:=h1.pure;obtain⟨B2,h3⟩:=h2.kN.ex;obtain⟨M,h3⟩:=h3.ex;obtain⟨⟨rfl,k2⟩,h4⟩:=h3.pure;exact⟨A2,c2,B2,M,rfl,rfl,rfl,k1,k2,h4.perm (by ac_rfl)⟩
end
theorem DX   {a:TA} (hT:kr w T a) (hz:LZ w) {n:aQ} {An:eV} {cn:Nat} (hA:fB w An n.ws) (hl:n.ws.length<=1000000) (hw:∀ x ∈ n.ws,x.length<=1000000) :
  Calls Tryz.prog 23 #[dV T a,vI n An cn] w (qA w T n):=by
 have h0:=aH (aI.begin w) aN (dR T a) 25;have h1:=aH h0 aO (fh n.k An n.ws.length cn) 28;have h2:=aH h1 aO (fj none 0 0 none 0 0) 74;simp only[im] at h2;have H2:=au h2;have aa:=au (fun W X (h:aI eR w X W)=>(show Below w.heap.size w W from h.mod.below (fun _ _ h=>h)));have KV:=au (fun W (I:Below w.heap.size w W)=>lZ (hT.below I) (hz.below I));have KN:=au (fun W (I:Below w.heap.size w W)=>jJ (n:=n) (c:=cn) (aY hA I) hl hw (hz.below I));have KW:=au (fun W (I:Below w.heap.size w W) x (hx:x ∈ n.ws)=>Ow (hT.below I) (hz.below I) n.k x (hw x hx));have KD:=au (fun W (I:Below w.heap.size w W) x (hx:x ∈ n.ws)=>yP (hT.below I) (hz.below I) n.k x (hw x hx));have HA:=au hA;clear hT hz hA hl hw h0 h1 h2;unfold dV vI at *
 unfold dR at *
 generalize T.rs.length=n1 at *
 generalize T.ds.length=n2 at *
 generalize T.es.length=n3 at *
 obtain⟨m,hm⟩:∃ m,m=n.ws.length:=⟨_,rfl⟩;have HM:=au hm;obtain⟨aA,ac,aD,ad,aE,ae⟩:=a;dsimp only at H2 KV KN KW KD ⊢;rw[<-hm] at H2 KN ⊢;clear hm;generalize a5:((w.alloc (.cells (fN aA n1 ac aD n2 ad aE n3 ae T.drop T.ord T.ini) 25)).alloc (.cells (fh n.k An m cn) 28)).alloc (.cells (fj none 0 0 none 0 0) 74)=w2 at H2;generalize az:w.heap.size+1=g1 at H2;generalize a3:g1+1=g2 at H2;cases af:bL T with
 | false=>
  have a7:=au (show ∀ W,Below w.heap.size w W->qA w T n (.returned (.tuple #[.agg (fj none 0 0 none 0 0),.bool false])) W from fun W I=>by unfold qA;rw[af];exact⟨rfl,I⟩);rw[af] at KV;clear KN KW KD HA af
  go_enter Tryz.func23,Tryz.ntmps23
  go_upto_region 1 with (fail);clear a5 az a3;obtain⟨t0,t1,t2,t3,t4,t5⟩:=fu H2.o.drop.drop;obtain⟨s0,s1,M⟩:=bY H2.o.drop;obtain⟨r0,r1,rf⟩:=bY H2.o;have ak:=au (KV.o w2 (aa.o _ _ H2.o));clear KV;go_wp2_with fail;refine ak.o.mono ?_;rintro e9 w3 ⟨rfl,I⟩;have H3:=au (H2.o.below aO I);clear ak H2 I t0 t1 t2 t3 t4 t5 s0 s1 M r0 r1 rf;obtain⟨t0,t1,t2,t3,t4,t5⟩:=fu H3.o.drop.drop;obtain⟨s0,s1,M⟩:=bY H3.o.drop;obtain⟨r0,r1,rf⟩:=bY H3.o;dsimp only;go_wp2;have H5:=au (oK H3.o aO (.slice none 0 0) (.slice none 0 0));obtain⟨f2,ao⟩:=H5.o.fst;refine bodyPost_ret (Xi rfl rfl ao.1 rfl) rfl ?_;exact a7.o _ (aa.o _ _ H5.o)
 | true=>
  cases ai:eT n with
  | false=>
   have a7:=au (show ∀ W,Below w.heap.size w W->qA w T n (.returned (.tuple #[.agg (fj none 0 0 none 0 0),.bool false])) W from fun W I=>by unfold qA;rw[af,ai];exact⟨rfl,I⟩);rw[af] at KV;rw[ai] at KN;clear KW KD HA af ai
   go_enter Tryz.func23,Tryz.ntmps23
   go_upto_region 1 with (fail);clear a5 az a3;obtain⟨t0,t1,t2,t3,t4,t5⟩:=fu H2.o.drop.drop;obtain⟨s0,s1,M⟩:=bY H2.o.drop;obtain⟨r0,r1,rf⟩:=bY H2.o;have ak:=au (KV.o w2 (aa.o _ _ H2.o));clear KV;go_wp2_with fail;refine ak.o.mono ?_;rintro e9 w3 ⟨rfl,I⟩;have H3:=au (H2.o.below aO I);clear ak H2 I t0 t1 t2 t3 t4 t5 s0 s1 M r0 r1 rf;obtain⟨t0,t1,t2,t3,t4,t5⟩:=fu H3.o.drop.drop;obtain⟨s0,s1,M⟩:=bY H3.o.drop;obtain⟨r0,r1,rf⟩:=bY H3.o;dsimp only;have an:=au (KN.o w3 (aa.o _ _ H3.o));clear KN;go_wp2_with fail;refine an.o.mono ?_;rintro e9 w4 ⟨rfl,I⟩;have H4:=au (H3.o.below aO I);clear an H3 I t0 t1 t2 t3 t4 t5 s0 s1 M r0 r1 rf;obtain⟨t0,t1,t2,t3,t4,t5⟩:=fu H4.o.drop.drop;obtain⟨s0,s1,M⟩:=bY H4.o.drop;obtain⟨r0,r1,rf⟩:=bY H4.o;have H3:=H4;clear H4;dsimp only;go_wp2;have H5:=au (oK H3.o aO (.slice none 0 0) (.slice none 0 0));obtain⟨f2,ao⟩:=H5.o.fst;refine bodyPost_ret (Xi rfl rfl ao.1 rfl) rfl ?_;exact a7.o _ (aa.o _ _ H5.o)
  | true=>
   have bf:=au (show ∀ W l A c B d,Below w.heap.size w W->IY W T n l A B->m<=c->m<=d->qA w T n (.returned (.tuple #[.agg (fj A m c B m d),.bool true])) W from fun W l A c B d I hr hc hd=>by unfold qA;rw[af,ai];rw[HM.o] at hc hd ⊢;exact⟨l,A,c,B,d,rfl,I,hr,hc,hd⟩)
   have a1:=au (show ∀ x ∈ n.ws,yZ T n.k x=(jg T n.k x,true)/\o7 T n.k x=(bQ T n.k x,0) from fun x hx=>by
    have h1:=(aZ.1 ai).1 x hx;unfold yZ o7;rw[h1,af]
    exact⟨rfl,rfl⟩)
   have ar:=au (show m<=6 from by rw[HM.o];exact(aZ.1 ai).2.2);rw[af] at KV;rw[ai] at KN;clear af ai
   have be:=au (fun W I x hx=>(KW.o W I x hx).mono fun e w' (h:Ec W T n.k x e w')=>(show ∃ a:WW,e=.returned (.tuple #[EM (jg T n.k x) a,.bool true])/\bT W eR (pF (jg T n.k x) a) w' from by
    unfold Ec at h;rw[(a1.o x hx).1] at h
    exact h))
   have ba:=au (fun W I x hx=>(KD.o W I x hx).mono fun e w' (h:aS W (.tuple (tB (o7 T n.k x).1 (o7 T n.k x).2)) e w')=>(show aS W (.tuple (tB (bQ T n.k x) 0)) e w' from by
    rw[(a1.o x hx).2] at h
    exact h))
   clear KW KD a1
   go_enter Tryz.func23,Tryz.ntmps23
   go_upto_region 1 with (fail);clear a5 az a3;obtain⟨t0,t1,t2,t3,t4,t5⟩:=fu H2.o.drop.drop;obtain⟨s0,s1,M⟩:=bY H2.o.drop;obtain⟨r0,r1,rf⟩:=bY H2.o;have ak:=au (KV.o w2 (aa.o _ _ H2.o));clear KV;go_wp2_with fail;refine ak.o.mono ?_;rintro e9 w3 ⟨rfl,I⟩;have H3:=au (H2.o.below aO I);clear ak H2 I t0 t1 t2 t3 t4 t5 s0 s1 M r0 r1 rf;obtain⟨t0,t1,t2,t3,t4,t5⟩:=fu H3.o.drop.drop;obtain⟨s0,s1,M⟩:=bY H3.o.drop;obtain⟨r0,r1,rf⟩:=bY H3.o;dsimp only;have an:=au (KN.o w3 (aa.o _ _ H3.o));clear KN;go_wp2_with fail;refine an.o.mono ?_;rintro e9 w4 ⟨rfl,I⟩;have H4:=au (H3.o.below aO I);clear an H3 I t0 t1 t2 t3 t4 t5 s0 s1 M r0 r1 rf;obtain⟨t0,t1,t2,t3,t4,t5⟩:=fu H4.o.drop.drop;obtain⟨s0,s1,M⟩:=bY H4.o.drop;obtain⟨r0,r1,rf⟩:=bY H4.o;have H3:=H4;clear H4;dsimp only;have H5:=au (aH H3.o aO (fj none 0 0 none 0 0) 74);go_upto_region 4 with (fail);generalize w4.alloc (.cells (fj none 0 0 none 0 0) 74)=w5 at *
   generalize w4.heap.size=g3 at *
   clear H3 t0 t1 t2 t3 t4 t5 s0 s1 M r0 r1 rf;obtain⟨s0,s1,M⟩:=bY H5.o.drop.drop;have h6:aI eR w (aj (av g3 (fj none 0 0 none 0 0) 74) (aj (aV 81 3 (.slice none 0 0) 0 []) (aj (aV 3 1 (.slice none 0 0) 0 []) (aj (og []) (aj (av g2 (fj none 0 0 none 0 0) 74) (aj (av g1 (fh n.k An m cn) 28) (aj (av w.heap.size (fN aA n1 ac aD n2 ad aE n3 ae T.drop T.ord T.ini) 25) bG))))))) w5:=(((H5.o.fresh aO (⟨fun _=>False,fT _ 81 3,Mod.refl _ _,fun i hi=>.inl hi⟩:bT w5 eR (aV 81 3 (.slice none 0 0) 0 []) w5)).fresh aO (⟨fun _=>False,fT _ 3 1,Mod.refl _ _,fun i hi=>.inl hi⟩:bT w5 eR (aV 3 1 (.slice none 0 0) 0 []) w5)).fresh aO (⟨fun _=>False,fun _ h=>h,Mod.refl _ _,fun i hi=>.inl hi⟩:bT w5 eR bG w5)).perm (by ac_rfl);have H6:=au h6;clear h6;go_wp2_with fail;go_loopw [25] (fun kk wr=>∃ (i:Nat) (l:List (wQ × WW)) (A:eV) (c:Nat) (B:eV) (d:Nat),kk=.int .i64 i/\i<=m/\l.map (·.1)=(n.ws.take i).map (jg T n.k)/\i<=c/\i<=d/\aI eR w (aj (av g3 (fj A i c B i d) 74) (aj (aV 81 3 (.slice A i c) i (l.flatMap fM)) (aj (aV 3 1 (.slice B i d) i (((n.ws.take i).map (bQ T n.k)).map (Value.int .i64))) (aj (og l) (aj (av g2 (fj none 0 0 none 0 0) 74) (aj (av g1 (fh n.k An m cn) 28) (aj (av w.heap.size (fN aA n1 ac aD n2 ad aE n3 ae T.drop T.ord T.ini) 25) bG))))))) wr) (fun kk _=>m-(intOf kk).toNat)
   case atStart=>exact⟨0,[],none,0,none,0,rfl,fw _,rfl,fy _,fy _,H6.o⟩
   case round=>
    clear H5 H6 s0 s1 M;obtain⟨i,l,A,c,B,d,rfl,hi,bb,br,bk,hR⟩:=hrel;have HR:=au hR;have aw:=au bb;have bp:=au br;have bc:=au bk;clear hR bb br bk;by_cases bn:i<m
    ·have ap:i<n.ws.length:=by rw[<-HM.o];exact bn
     obtain⟨b,o,rfl,hc⟩:=HA.o.at (by have:=ar.o;omega);have ck:=hc _ (aa.o _ _ HR.o) i ap;have a2:n.ws[i] ∈ n.ws:=gv ap;have aq:=au (be.o wr (aa.o _ _ HR.o) _ a2);have bx:=au (fun W I=>ba.o W I _ a2);have bw:=au (show n.ws.take (i+1)=n.ws.take i++[n.ws[i]] from kq ap);clear be ba a2;generalize n.ws[i]=x at *
     clear hc ap;obtain⟨u,hu⟩:∃ u,u=jg T n.k x:=⟨_,rfl⟩;rw[<-hu] at aq;have HU:=au hu;clear hu;unfold EM uI at aq;obtain⟨t0,t1,t2,t3,t4,t5⟩:=fu HR.o.drop.drop.drop.drop.drop.drop;obtain⟨s0,s1,M⟩:=bY HR.o.drop.drop.drop.drop.drop;have bi:=au (aB aC (aB dK (aB dK (aB yQ aO))):((aj (av g3 (fj A i c B i d) 74) (aj (aV 81 3 (.slice A i c) i (l.flatMap fM)) (aj (aV 3 1 (.slice B i d) i (((n.ws.take i).map (bQ T n.k)).map (Value.int .i64))) (aj (og l) (aj (av g2 (fj none 0 0 none 0 0) 74) (aj (av g1 (fh n.k (some ⟨b,o,none⟩) m cn) 28) (aj (av w.heap.size (fN aA n1 ac aD n2 ad aE n3 ae T.drop T.ord T.ini) 25) bG)))))))).Ok);go_wp2_with fail;refine aq.o.mono ?_;rintro e9 w6 ⟨wa,rfl,hp⟩;have H7:=au (HR.o.fresh bi.o hp);have b1:=au (aB y5 bi.o:(aj (pF u wa) (aj (av g3 (fj A i c B i d) 74) (aj (aV 81 3 (.slice A i c) i (l.flatMap fM)) (aj (aV 3 1 (.slice B i d) i (((n.ws.take i).map (bQ T n.k)).map (Value.int .i64))) (aj (og l) (aj (av g2 (fj none 0 0 none 0 0) 74) (aj (av g1 (fh n.k (some ⟨b,o,none⟩) m cn) 28) (aj (av w.heap.size (fN aA n1 ac aD n2 ad aE n3 ae T.drop T.ord T.ini) 25) bG)))))))).Ok);have H8:=au (aH H7.o b1.o (ff u wa) 81);clear aq HR hp ck t0 t1 t2 t3 t4 t5 s0 s1 M H7;dsimp only;go_upto_region 8 with (fail);generalize w6.alloc (.cells (ff u wa) 81)=w7 at *
     generalize w6.heap.size=g9 at *
     obtain⟨t0,t1,t2,t3,t4,t5⟩:=fu H8.o.drop.drop.drop.drop.drop.drop.drop.drop;obtain⟨s0,s1,M⟩:=bY H8.o.drop.drop.drop.drop.drop.drop.drop;have a8:=au (bx.o w7 (aa.o _ _ H8.o));clear bx;have bu:=au (aB aC b1.o:(aj (av g9 (ff u wa) 81) (aj (pF u wa) (aj (av g3 (fj A i c B i d) 74) (aj (aV 81 3 (.slice A i c) i (l.flatMap fM)) (aj (aV 3 1 (.slice B i d) i (((n.ws.take i).map (bQ T n.k)).map (Value.int .i64))) (aj (og l) (aj (av g2 (fj none 0 0 none 0 0) 74) (aj (av g1 (fh n.k (some ⟨b,o,none⟩) m cn) 28) (aj (av w.heap.size (fN aA n1 ac aD n2 ad aE n3 ae T.drop T.ord T.ini) 25) bG))))))))).Ok);go_wp2_with fail;refine a8.o.mono ?_;rintro e9 w8 ⟨rfl,I⟩;have H9:=au (H8.o.below bu.o I);clear a8 H8 I t0 t1 t2 t3 t4 t5 s0 s1 M;dsimp only;go_upto_region 9 with (fail);have bj:=au (H9.o.drew bu.o);clear H9;have bv:=bj.o.perm (by ac_rfl:_=aj (aj (aV 81 3 (.slice A i c) i (l.flatMap fM)) (aV 3 1 (.slice B i d) i (((n.ws.take i).map (bQ T n.k)).map (Value.int .i64)))) (aj (av g3 (fj A i c B i d) 74) (aj (av g9 (ff u wa) 81) (aj (pF u wa) (aj (og l) (aj (av g2 (fj none 0 0 none 0 0) 74) (aj (av g1 (fh n.k (some ⟨b,o,none⟩) m cn) 28) (aj (av w.heap.size (fN aA n1 ac aD n2 ad aE n3 ae T.drop T.ord T.ini) 25) bG))))))));have ca:=au (aB aC (aB aC (aB y5 (aB yQ aO))):((aj (av g3 (fj A i c B i d) 74) (aj (av g9 (ff u wa) 81) (aj (pF u wa) (aj (og l) (aj (av g2 (fj none 0 0 none 0 0) 74) (aj (av g1 (fh n.k (some ⟨b,o,none⟩) m cn) 28) (aj (av w.heap.size (fN aA n1 ac aD n2 ad aE n3 ae T.drop T.ord T.ini) 25) bG)))))))).Ok);clear bj;go_upto_region 9 with (fail);obtain⟨F,hF,am⟩:=bv.sub aO ca.o;have HF:=au hF;have bh:=au am;have a4:=au (show ∀ (O:CH.aT) W,aI F w8.drew O W->aI eR w (aj (av g3 (fj A i c B i d) 74) (aj (av g9 (ff u wa) 81) (aj (pF u wa) (aj (og l) (aj (av g2 (fj none 0 0 none 0 0) 74) (aj (av g1 (fh n.k (some ⟨b,o,none⟩) m cn) 28) (aj (av w.heap.size (fN aA n1 ac aD n2 ad aE n3 ae T.drop T.ord T.ini) 25) bG))))))) W from fun O W h=>(am bG W aN ⟨⟨fun _=>False,fun _ h=>h,fun _ h=>h.elim⟩,h.mod⟩).drop);have al:=au (a4.o _ _ hF);clear bv hF am;refine AP 11 (fun w'=>aI eR w (aj (av g3 (fj A i c B i d) 74) (aj (av g9 (ff u wa) 81) (aj (pF u wa) (aj (og l) (aj (av g2 (fj none 0 0 none 0 0) 74) (aj (av g1 (fh n.k (some ⟨b,o,none⟩) m cn) 28) (aj (av w.heap.size (fN aA n1 ac aD n2 ad aE n3 ae T.drop T.ord T.ini) 25) bG))))))) w') rfl ?_;generalize w8.drew=w9 at *
     refine fQ (i:=0) (v:=.pointer (some ⟨g3,0,none⟩)) rfl eQ eQ eQ rfl (fun _ _ _ h=>h) (.inl ⟨rfl,fun w' ag=>?_⟩) (fun _=>al.o) ?_
     ·go_simp
     try simp only[Act.put,lw,lh,k8,ja,i6,i7]
     refine nC (i:=1) (v:=.slice A i c) rfl eQ eQ eQ eQ (fun _ _ _ h=>h) (.inl ⟨rfl,fun w' ag=>?_⟩) al.o ?_
     ·obtain⟨s0,s1,M⟩:=bY ag;clear ag;go_simp
     try simp only[Act.put,lw,lh,k8,ja,i6,i7]
     refine nC (i:=2) (v:=.agg (ff u wa)) rfl eQ eQ eQ eQ (fun _ _ _ h=>h) (.inl ⟨rfl,fun w' ag=>?_⟩) al.o ?_
     ·obtain⟨q0,q1,q2⟩:=fO ag.drop;clear ag;go_simp
     try simp only[Act.put,lw,lh,k8,ja,i6,i7]
     refine fQ (i:=5) (v:=.pointer (some ⟨g3,1,none⟩)) rfl eQ eQ eQ rfl (fun _ _ _ h=>h) (.inl ⟨rfl,fun w' ag=>?_⟩) (fun _=>al.o) ?_
     ·go_simp
     try simp only[Act.put,lw,lh,k8,ja,i6,i7]
     refine nC (i:=6) (v:=.slice B i d) rfl eQ eQ eQ eQ (fun _ _ _ h=>h) (.inl ⟨rfl,fun w' ag=>?_⟩) al.o ?_
     ·obtain⟨s0,s1,M⟩:=bY ag;clear ag;go_simp
     try simp only[Act.put,lw,lh,k8,ja,i6,i7]
     refine fQ (i:=7) (v:=.int .i64 (bQ T n.k x)) rfl eQ eQ eQ rfl (fun _ _ _ h=>h) (.inl ⟨rfl,fun w' ag=>?_⟩) (fun _=>al.o) ?_
     ·go_simp
     try simp only[Act.put,lw,lh,k8,ja,i6,i7]
     refine AZ [3,4,10] [8,9] (TQ 81 3 A c i (l.flatMap fM) (fM (u,wa)) (.pointer (some ⟨g3,0,none⟩))) (TQ 3 1 B d i (((n.ws.take i).map (bQ T n.k)).map (Value.int .i64)) [.int .i64 (bQ T n.k x)] undef) 3 eQ IZ IZ aN a4.o ?_ ?_ ?_ (HF.o.perm (by rw[fC];rfl))
     ·intro i1 o1 vs us J ab ce Z W hZ hR;rcases vs with _|⟨v,_|⟨v2,_|⟨v3,vs⟩⟩⟩
      ·obtain rfl:3=i1:=by simpa using J
       simp only[mj,oE,oS,Option.some.injEq] at ab;subst ab;refine BP hZ hR (fun w=>jG rfl ?_ (Mh _ _ _ _ _ _ _ w))
       show(fS (fS _ [48,49,55] []) [53,54] us).eval (.tmp 47)=_
       rw[bH 47 [53,54] us _ eS,bH 47 [48,49,55] [] _ eS];rfl
      ·obtain rfl:4=i1:=by simpa using J
       simp only[mj,oE,oS,Option.some.injEq] at ab;subst ab;refine BQ aaI eS (.tmp 46) (.tmp 48) rfl hZ hR ?_ ?_ (by have:=ar.o;omega) rfl (fun y hy=>DW [(u,wa)] y (by simpa[fM] using hy))
       ·show(fS (fS _ [48,49,55] [v]) [53,54] us).eval (.tmp 46)=_
        rw[bH 46 [53,54] us _ eS,bH 46 [48,49,55] [v] _ eS];rfl
       ·show(fS (fS _ [48,49,55] [v]) [53,54] us).eval (.tmp 48)=v
        rw[bH 48 [53,54] us _ eS];exact oU v (show 48<59 by decide)
      ·obtain rfl:10=i1:=by simpa using J
       simp only[mj,oE,oS,Option.some.injEq] at ab;subst ab;obtain⟨A3,hR⟩:=hR.ex;obtain⟨c3,hR⟩:=hR.ex;obtain⟨cd,hR⟩:=hR.pure;refine Asn.oz (v:=.pointer (some ⟨g3,0,none⟩)) (w':=W) (aaJ rfl ?_) ⟨_,rfl,aI.nT A3 (aI.nT c3 (aI.iQ ⟨cd,rfl⟩ hR))⟩
       show(fS (fS _ [48,49,55] [v,v2]) [53,54] us).eval (.tmp 6)=_
       rw[bH 6 [53,54] us _ eS,bH 6 [48,49,55] [v,v2] _ eS];rfl
      ·simp at J
     ·intro i1 o1 vs us J ab af Z W hZ hR;rcases us with _|⟨v,_|⟨v2,us⟩⟩
      ·obtain rfl:8=i1:=by simpa using J
       simp only[mj,oE,oS,Option.some.injEq] at ab;subst ab;refine BP hZ hR (fun w=>jG rfl ?_ (uz (bQ T n.k x) w))
       show(fS (fS _ [48,49,55] vs) [53,54] []).eval (.tmp 52)=_
       rw[bH 52 [53,54] [] _ eS,bH 52 [48,49,55] vs _ eS];rfl
      ·obtain rfl:9=i1:=by simpa using J
       simp only[mj,oE,oS,Option.some.injEq] at ab;subst ab;refine BQ Vm eS (.tmp 51) (.tmp 53) rfl hZ hR ?_ ?_ (by have:=ar.o;omega) rfl (fun y hy=>by simp at hy;subst hy;rfl)
       ·show(fS (fS _ [48,49,55] vs) [53,54] [v]).eval (.tmp 51)=_
        rw[bH 51 [53,54] [v] _ eS,bH 51 [48,49,55] vs _ eS];rfl
       ·show(fS (fS _ [48,49,55] vs) [53,54] [v]).eval (.tmp 53)=v
        exact oU v (by rw[oC];show 53<59;decide)
      ·simp at J
     intro vs us W hv hu hR;obtain⟨v1,v2,v3,rfl⟩:=Wj hv;obtain⟨v4,v5,rfl⟩:=D3 hu;obtain⟨A2,c2,B2,d2,rfl,rfl,rfl,b3,b0,b2⟩:=QF hR;have bz:=au (bh.o _ _ aO (b2.perm (fC _)));have b9:=au b3;have cb:=au b0;clear hR hv hu b2 b3 b0;simp only[dQ,lk,pH,mj,oE,oS,CL,CN,fS,Act.put,ja,i6,i7];have a0:=bz.o.perm (by ac_rfl:_=aj (av g3 (fj A i c B i d) 74) (aj (aV 81 3 (.slice A2 (i+1) c2) (i+1) (l.flatMap fM++fM (u,wa))) (aj (aV 3 1 (.slice B2 (i+1) d2) (i+1) ((((n.ws.take i).map (bQ T n.k)).map (Value.int .i64))++[.int .i64 (bQ T n.k x)])) (aj (av g9 (ff u wa) 81) (aj (pF u wa) (aj (og l) (aj (av g2 (fj none 0 0 none 0 0) 74) (aj (av g1 (fh n.k (some ⟨b,o,none⟩) m cn) 28) (aj (av w.heap.size (fN aA n1 ac aD n2 ad aE n3 ae T.drop T.ord T.ini) 25) bG)))))))));have ax:=au (aB dK (aB dK (aB aC (aB y5 (aB yQ aO)))):((aj (aV 81 3 (.slice A2 (i+1) c2) (i+1) (l.flatMap fM++fM (u,wa))) (aj (aV 3 1 (.slice B2 (i+1) d2) (i+1) ((((n.ws.take i).map (bQ T n.k)).map (Value.int .i64))++[.int .i64 (bQ T n.k x)])) (aj (av g9 (ff u wa) 81) (aj (pF u wa) (aj (og l) (aj (av g2 (fj none 0 0 none 0 0) 74) (aj (av g1 (fh n.k (some ⟨b,o,none⟩) m cn) 28) (aj (av w.heap.size (fN aA n1 ac aD n2 ad aE n3 ae T.drop T.ord T.ini) 25) bG))))))))).Ok);have a9:aI eR w (aj (av g3 (fj A2 (i+1) c2 B i d) 74) (aj (aV 81 3 (.slice A2 (i+1) c2) (i+1) (l.flatMap fM++fM (u,wa))) (aj (aV 3 1 (.slice B2 (i+1) d2) (i+1) ((((n.ws.take i).map (bQ T n.k)).map (Value.int .i64))++[.int .i64 (bQ T n.k x)])) (aj (av g9 (ff u wa) 81) (aj (pF u wa) (aj (og l) (aj (av g2 (fj none 0 0 none 0 0) 74) (aj (av g1 (fh n.k (some ⟨b,o,none⟩) m cn) 28) (aj (av w.heap.size (fN aA n1 ac aD n2 ad aE n3 ae T.drop T.ord T.ini) 25) bG))))))))) _:=aJ a0 ax.o 0 (.slice A2 (i+1) c2);have a6:=au a9;obtain⟨s0,s1,M⟩:=bY a0;clear a4 al bh HF bz a0 a9;refine mq (rs:=[11]) eQ eS (fun i1 J=>?_);obtain rfl:i1=11:=by simpa using J
     refine gH rfl rfl (Ac fun K hK=>?_);clear J;go_wp2_with fail;refine hK.o _ _ ⟨fun h=>by simp at h,?_⟩;clear hK;generalize W.setCell ⟨g3,0,none⟩ (.slice A2 (i+1) c2)=W2 at *
     clear s0 s1 M;obtain⟨s0,s1,M⟩:=bY a6.o;have bo:aI eR w (aj (av g3 (fj A2 (i+1) c2 B2 (i+1) d2) 74) (aj (aV 81 3 (.slice A2 (i+1) c2) (i+1) (l.flatMap fM++fM (u,wa))) (aj (aV 3 1 (.slice B2 (i+1) d2) (i+1) ((((n.ws.take i).map (bQ T n.k)).map (Value.int .i64))++[.int .i64 (bQ T n.k x)])) (aj (av g9 (ff u wa) 81) (aj (pF u wa) (aj (og l) (aj (av g2 (fj none 0 0 none 0 0) 74) (aj (av g1 (fh n.k (some ⟨b,o,none⟩) m cn) 28) (aj (av w.heap.size (fN aA n1 ac aD n2 ad aE n3 ae T.drop T.ord T.ini) 25) bG))))))))) _:=aJ a6.o ax.o 1 (.slice B2 (i+1) d2);have cc:=au bo;clear a6 bo;refine mq (rs:=[12]) eQ eS (fun i1 J=>?_);obtain rfl:i1=12:=by simpa using J
     refine gH rfl rfl (Ac fun K hK=>?_);clear J;go_wp2_with fail;refine hK.o _ _ ⟨fun h=>by simp at h,?_⟩;clear hK;refine mq (rs:=[13]) eQ eS (fun i1 J=>?_);obtain rfl:i1=13:=by simpa using J
     refine gH rfl rfl (Ac fun K hK=>?_);clear J;go_wp2_with fail;refine hK.o _ _ ⟨fun h=>by simp at h,?_⟩;clear hK;refine AO eQ ?_ _;generalize W2.setCell ⟨g3,1,none⟩ (.slice B2 (i+1) d2)=W3 at *
     clear s0 s1 M;have cf:(i:Int)<1000000:=by have:=ar.o;omega
     go_wp2_with fail
     go_roundw
     case rel=>exact⟨i+1,l++[(u,wa)],A2,c2,B2,d2,by go_num,bn,by rw[km,aw.o,bw.o,km,HU.o];rfl,b9.o,cb.o,(cc.o.perm (by
      have e1:(((n.ws.take (i+1)).map (bQ T n.k)).map (Value.int .i64))=(((n.ws.take i).map (bQ T n.k)).map (Value.int .i64))++[.int .i64 (bQ T n.k x)]:=by rw[bw.o,km,km];rfl
      have e2:(l++[(u,wa)]).flatMap fM=l.flatMap fM++fM (u,wa):=by rw[tW,vi]
      rw[e1,e2,Gt]
      ac_rfl:_=aj (av g9 (ff u wa) 81) (aj (av g3 (fj A2 (i+1) c2 B2 (i+1) d2) 74) (aj (aV 81 3 (.slice A2 (i+1) c2) (i+1) ((l++[(u,wa)]).flatMap fM)) (aj (aV 3 1 (.slice B2 (i+1) d2) (i+1) (((n.ws.take (i+1)).map (bQ T n.k)).map (Value.int .i64))) (aj (og (l++[(u,wa)])) (aj (av g2 (fj none 0 0 none 0 0) 74) (aj (av g1 (fh n.k (some ⟨b,o,none⟩) m cn) 28) (aj (av w.heap.size (fN aA n1 ac aD n2 ad aE n3 ae T.drop T.ord T.ini) 25) bG))))))))).drop⟩
     case measure=>simp[intOf];omega
    ·obtain rfl:i=m:=by omega
     have h1:=HR.o.perm (by ac_rfl:_=aj (av g2 (fj none 0 0 none 0 0) 74) (aj (av g3 (fj A i c B i d) 74) (aj (aV 81 3 (.slice A i c) i (l.flatMap fM)) (aj (aV 3 1 (.slice B i d) i (((n.ws.take i).map (bQ T n.k)).map (Value.int .i64))) (aj (og l) (aj (av g1 (fh n.k An i cn) 28) (aj (av w.heap.size (fN aA n1 ac aD n2 ad aE n3 ae T.drop T.ord T.ini) 25) bG)))))));have b4:(aj (av g3 (fj A i c B i d) 74) (aj (aV 81 3 (.slice A i c) i (l.flatMap fM)) (aj (aV 3 1 (.slice B i d) i (((n.ws.take i).map (bQ T n.k)).map (Value.int .i64))) (aj (og l) (aj (av g1 (fh n.k An i cn) 28) (aj (av w.heap.size (fN aA n1 ac aD n2 ad aE n3 ae T.drop T.ord T.ini) 25) bG)))))).Ok:=aB aC (aB dK (aB dK (aB yQ aO)));obtain⟨r0,r1,rf⟩:=bY h1;obtain⟨s0,s1,M⟩:=bY h1.drop;have h2:=oK h1 b4 (.slice A i c) (.slice B i d);have bm:=au h2
     have HF:=au (fun W (h:aI eR w (aj (av g2 (fj A i c B i d) 74) (aj (av g3 (fj A i c B i d) 74) (aj (aV 81 3 (.slice A i c) i (l.flatMap fM)) (aj (aV 3 1 (.slice B i d) i (((n.ws.take i).map (bQ T n.k)).map (Value.int .i64))) (aj (og l) (aj (av g1 (fh n.k An i cn) 28) (aj (av w.heap.size (fN aA n1 ac aD n2 ad aE n3 ae T.drop T.ord T.ini) 25) bG))))))) W)=>(show qA w T n (.returned (.tuple #[.agg (fj A i c B i d),.bool true])) W from by
      have ht:n.ws.take i=n.ws:=by rw[HM.o,ky]
      have b5:l.length=i:=by
       have:=congrArg List.length aw.o;rw[gh,gh,ht,<-HM.o] at this;exact this
      obtain⟨F1,b6⟩:=h.drop.drop.fst;obtain⟨F2,b7⟩:=h.drop.drop.drop.fst;obtain⟨F3,b8⟩:=h.drop.drop.drop.drop.fst;refine bf.o _ l A c B d (aa.o _ _ h) ⟨by rw[aw.o,ht],?_,?_,Xh b8⟩ bp.o bc.o
      ·have:=iG b6 (DW l);unfold sD;rw[b5];exact this
      ·have:=iG b7 (Kt _);rw[ht] at this;unfold iF;rw[gh,<-HM.o]
       exact this))
     clear h1 h2 b4 HR aw bp bc;go_wp2;obtain⟨f2,ao⟩:=bm.o.fst;refine bodyPost_ret (Xi rfl rfl ao.1 rfl) rfl ?_;exact HF.o _ bm.o
end Go.Proofs.YtbioiclabmbedaaGreatDoor
namespace Go.CH.Mtc
open Go.CH.Scr Go.CH.dh
def picks {α:Type} (f:Int->Int->Option α):Nat->List Int->List α
 | _,[]=>[]
 | i,j::l=>(f i j).toList++picks f (i+1) l
theorem DY {α:Type} (f:Int->Int->Option α) (x:Int):∀ (l:List Int) (i:Nat),picks f i (l++[x])=picks f i l++(f ((i+l.length:Nat):Int) x).toList
 | [],i=>by simp[picks]
 | y::l,i=>by
  show(f i y).toList++picks f (i+1) (l++[x])=((f i y).toList++picks f (i+1) l)++_
  rw[DY f x l (i+1),l3,j7,show i+1+l.length=i+(l.length+1) by omega]
end Go.CH.Mtc
namespace Go.Proofs.YtbioiclabmbedaaGreatDoor
open Go.RowKit Go.CH Go.CH.Scr Go.CH.dh Go.CH.Mtc
open Asn (jG)
open Go.ChangeMaps (setBlock)
structure pE where
 A:eV
 ac:Nat
 B:eV
 bc:Nat
def Eg (e:Pr × pE):Array Value:=Cb e.1 e.2.A e.2.ac e.2.B e.2.bc
def I4 (e:Pr × pE):List Value:=[.int .i64 e.1.i,.int .i64 e.1.j,.int .i64 e.1.kd,.int .i64 e.1.l,.int .i64 e.1.r,.int .i64 e.1.c,.int .i64 e.1.d.c,.slice e.2.A e.1.d.L.length e.2.ac,.slice e.2.B e.1.d.M.length e.2.bc,.string (bs e.1.d.F)]
theorem QG (l:List (Pr × pE)):∀ u ∈ l.flatMap I4,u.oneCell'=true:=by
 intro u hu;obtain⟨x,-,hx⟩:=List.mem_flatMap.1 hu;unfold I4 at hx;simp only[pA,vm,or_false] at hx;rcases hx with rfl|rfl|rfl|rfl|rfl|rfl|rfl|rfl|rfl|rfl<;>rfl
theorem Xj:eB Tryz.prog 32 62 (.agg (jb 0 0 0 0 0 0 0 none 0 0 none 0 0 ⟨#[]⟩)) 10 120:=⟨Tryz.underlying32,by kernel_rfl,by decide,by decide⟩
def Ek (o:Option (Pr × pE)):Value:=match o with
 | some e=>.agg (Eg e)
 | none=>.agg (jb 0 0 0 0 0 0 0 none 0 0 none 0 0 ⟨#[]⟩)
def DZ (A:eV) (c:Nat) (l:List (Pr × pE)):CH.aT:=aV 62 10 (.slice A l.length c) l.length (l.flatMap I4)
variable {A:eV}{c n g b:Nat}{F0:Nat->Prop}{w0 W w:World}{a:Act}{Q:Exit->Act->World->Prop}{t e:TypeId}{xs:List Value}
theorem Xk   {l:List (Pr × pE)}:(DZ A c l).Ok:=dK
instance {A:eV} {c:Nat} {l:List (Pr × pE)}:(DZ A c l).Ok:=Xk
theorem Bb {ops:Array Oper} {rest:List Oper}   {Y:CH.aT} {o:Oper}    {z:Value} {size bytes:Nat} (M:o.guard=none) (S:eB Tryz.prog t e z size bytes) (J:bytes<=1000) (s x:Operand)
  (ho:o.op=.call { callee:=.builtin .append,args:=#[s,x],argTypes:=#[t,t] })   {cs:List Value} (hsv:a.eval s=.slice A n c) (hx:a.eval x=.slice (some ⟨g,0,none⟩) 1 1) (hn:n<=1000000) (hY:Y.Ok)
  (h:aI F0 w0 (aj (aV e size (.slice A n c) n xs) Y) W) (h1:cs.length=size) (h2:∀ u ∈ cs,u.oneCell'=true) (hg:∀ (j:Nat) u,cs[j]?=some u->W.cell? ⟨g,j,none⟩=some u)
  (hK:∀ I c' w',aI F0 w0 (aj (aV e size (.slice I (n+1) c') (n+1) (xs++cs)) Y) w'->wpList Tryz.prog ops Q rest (a.put o.dst (.slice I (n+1) c')) w'):wpList Tryz.prog ops Q (o::rest) a W:=
 wpList_plain M fun _ hk=>I9 S J s x ho hsv hx hn hY h h1 h2 hg fun I c' w' hr=>hk _ _ (hK I c' w' hr)
def Mi (w:World) (f:Int->Int->Option (Pr × pE)) (cs:List Int) (k:Int) (sw:Bool) (e:Ending) (w':World):Prop:=
 ∃ A c,e=.returned (.agg (jj k sw A (picks f 0 cs).length c))/\bT w eR (DZ A c (picks f 0 cs)) w'
theorem Gu  {f:Int->Int->Option (Pr × pE)} {gm:Nat} {C:eV} {cc:Nat} {cs:List Int} (hC:iF w C cs) (hl:cs.length<=1000) (hg:w.cell? ⟨gm,0,none⟩=some (.map (some b)))
  (hm:∀ W,Below w.heap.size w W->∀ i j:Int,(Instr.lookup 77 (.map (some b)) (.agg (tB i j)) true).run Tryz.prog W=.ok (.tuple #[Ek (f i j),.bool (f i j).isSome]) W) (k:Int) (I:Bool) :
  Calls Tryz.prog 25 #[.slice C cs.length cc,.int .i64 k,.bool I,.pointer (some ⟨gm,0,none⟩)] w (Mi w f cs k I):=by
 have h1:=aH (aI.begin w) aN (jj 0 false none 0 0) 34;have h2:=aH h1 aO (jj k I none 0 0) 34;simp only[im] at h2;have ag:=au (fun W X (h:aI eR w X W)=>(show Below w.heap.size w W from h.mod.below (fun _ _ h=>h)));have h3:aI eR w (aj (av (w.heap.size+1) (jj k I none 0 ((0:Nat))) 34) (aj (DZ none 0 []) (aj (av w.heap.size (jj 0 false none 0 0) 34) bG))) _:=
  ((h2.fresh aO (⟨fun _=>False,fT _ 62 10,Mod.refl _ _,fun i hi=>.inl hi⟩:bT _ eR (DZ none 0 []) _)).perm (by ac_rfl))
 have H3:=au h3;have HG:=au (fun W (hb:Below w.heap.size w W)=>(show W.cell? ⟨gm,0,none⟩=some (.map (some b)) from by rw[hb.cell (py _ _ hg)];exact hg));have HM:=au hm;have HC:=au hC;clear h1 h2 h3 hg hm hC;obtain⟨n,hn⟩:∃ n,n=cs.length:=⟨_,rfl⟩;have HN:=au hn;rw[<-hn] at hl ⊢;clear hn
 go_enter Tryz.func25,Tryz.ntmps25
 go_upto_region 3 with (fail);generalize (w.alloc (.cells (jj 0 false none 0 0) 34)).alloc (.cells (jj k I none 0 0) 34)=w2 at *
 generalize aw:w.heap.size+1=g8 at *
 clear aw;go_wp2_with fail;go_loopw [18] (fun kk wr=>∃ (i q:Nat) (A:eV) (c:Nat),kk=.int .i64 i/\i<=n/\q=(picks f 0 (cs.take i)).length/\q<=i/\aI eR w (aj (av g8 (jj k I A q c) 34) (aj (aV 62 10 (.slice A q c) q ((picks f 0 (cs.take i)).flatMap I4)) (aj (av w.heap.size (jj 0 false none 0 0) 34) bG))) wr) (fun kk _=>n-(intOf kk).toNat)
 case atStart=>exact⟨0,0,none,0,rfl,fw _,rfl,fy _,H3.o⟩
 case round=>
  clear H3;obtain⟨i,q,A,c,rfl,hi,hq,aA,hR⟩:=hrel;have HR:=au hR;have HQ:=au hq;clear hR hq;by_cases ak:i<n
  ·have ai:i<cs.length:=by rw[<-HN.o];exact ak
   obtain⟨bb,o,rfl,hc⟩:=Asn.Vec.at HC.o eL;have ck:=hc wr (ag.o _ _ HR.o) i ai
   have ad:=au (show picks f 0 (cs.take (i+1))=picks f 0 (cs.take i)++(f (i:Int) cs[i]).toList from by
    rw[kq ai,DY,kt,GF eL,mB])
   generalize cs[i]=x at *
   clear hc ai;have cg:=HG.o wr (ag.o _ _ HR.o);have cm:=HM.o wr (ag.o _ _ HR.o) (i:Int) x;have aD:(i:Int)<1000000:=by omega
   cases hf:f (i:Int) x with
   | none=>
    rw[hf] at cm ad;unfold Ek at cm;simp only[Option.isSome_none] at cm;have aa:=au (show picks f 0 (cs.take (i+1))=picks f 0 (cs.take i) from by rw[ad.o];exact mS _);have H4:=au (aH HR.o aO (jb 0 0 0 0 0 0 0 none 0 0 none 0 0 ⟨#[]⟩) 62);clear hf ad HR;go_upto_region 6 with (fail);generalize wr.alloc (.cells (jb 0 0 0 0 0 0 0 none 0 0 none 0 0 ⟨#[]⟩) 62)=w4 at *
    clear ck cg cm;go_wp2_with fail
    go_roundw
    case rel=>exact⟨i+1,q,A,c,by go_num,ak,by rw[aa.o];exact HQ.o,by omega,by rw[aa.o];exact H4.o.drop⟩
    case measure=>simp[intOf];omega
   | some e=>
    rw[hf] at cm ad;unfold Ek at cm;simp only[Option.isSome_some] at cm;have aa:=au (show picks f 0 (cs.take (i+1))=picks f 0 (cs.take i)++[e] from ad.o);unfold Eg Cb at cm;have H4:=au (aH HR.o aO (jb e.1.i e.1.j e.1.kd e.1.l e.1.r e.1.c e.1.d.c e.2.A e.1.d.L.length e.2.ac e.2.B e.1.d.M.length e.2.bc (bs e.1.d.F)) 62);clear hf ad HR;go_upto_region 6 with (fail);generalize wr.alloc (.cells (jb e.1.i e.1.j e.1.kd e.1.l e.1.r e.1.c e.1.d.c e.2.A e.1.d.L.length e.2.ac e.2.B e.1.d.M.length e.2.bc (bs e.1.d.F)) 62)=w4 at *
    generalize wr.heap.size=g11 at *
    clear ck cg cm;go_upto_region 7 with (fail);obtain⟨⟨p0,p1,p2,p3,p4⟩,⟨p5,p6,p7,p8,p9⟩,pf⟩:=kg H4.o;obtain⟨m0,m1,m2⟩:=fO H4.o.drop;have H5:=au (aH H4.o aO (jb e.1.i e.1.j e.1.kd e.1.l e.1.r e.1.c e.1.d.c e.2.A e.1.d.L.length e.2.ac e.2.B e.1.d.M.length e.2.bc (bs e.1.d.F)) 62);have ax:q<=1000000:=by omega
    clear H4;go_wp2_with (at_builtin;refine held ?_);clear p0 p1 p2 p3 p4 p5 p6 p7 p8 p9 pf m0 m1 m2;generalize w4.alloc (.cells (jb e.1.i e.1.j e.1.kd e.1.l e.1.r e.1.c e.1.d.c e.2.A e.1.d.L.length e.2.ac e.2.B e.1.d.M.length e.2.bc (bs e.1.d.F)) 62)=w5 at *
    generalize w4.heap.size=ab at *
    obtain⟨ar,af⟩:=H5.o.fst;have ao:∀ (j:Nat) u,(I4 e)[j]?=some u->w5.cell? ⟨ab,j,none⟩=some u:=fun j u hu=>ay af (by unfold I4 at hu;simpa using hu);refine lB.mk (Bb rfl Xj eS (.tmp 33) (.tmp 35) rfl (A:=A) (c:=c) (n:=q) (g:=ab) (xs:=(picks f 0 (cs.take i)).flatMap I4) (cs:=I4 e) rfl rfl ax aO (H5.o.perm (by ac_rfl:_=aj (aV 62 10 (.slice A q c) q ((picks f 0 (cs.take i)).flatMap I4)) (aj (av ab (jb e.1.i e.1.j e.1.kd e.1.l e.1.r e.1.c e.1.d.c e.2.A e.1.d.L.length e.2.ac e.2.B e.1.d.M.length e.2.bc (bs e.1.d.F)) 62) (aj (av g11 (jb e.1.i e.1.j e.1.kd e.1.l e.1.r e.1.c e.1.d.c e.2.A e.1.d.L.length e.2.ac e.2.B e.1.d.M.length e.2.bc (bs e.1.d.F)) 62) (aj (av g8 (jj k I A q c) 34) (aj (av w.heap.size (jj 0 false none 0 0) 34) bG)))))) rfl (fun y hy=>QG [e] y (by simpa using hy)) ao ?_);intro A9 c9 w6 an;have h7:=an.perm (by ac_rfl:_=aj (av g8 (jj k I A q c) 34) (aj (aV 62 10 (.slice A9 (q+1) c9) (q+1) ((picks f 0 (cs.take i)).flatMap I4++I4 e)) (aj (av w.heap.size (jj 0 false none 0 0) 34) (aj (av ab (jb e.1.i e.1.j e.1.kd e.1.l e.1.r e.1.c e.1.d.c e.2.A e.1.d.L.length e.2.ac e.2.B e.1.d.M.length e.2.bc (bs e.1.d.F)) 62) (aj (av g11 (jb e.1.i e.1.j e.1.kd e.1.l e.1.r e.1.c e.1.d.c e.2.A e.1.d.L.length e.2.ac e.2.B e.1.d.M.length e.2.bc (bs e.1.d.F)) 62) bG)))));have ap:(aj (aV 62 10 (.slice A9 (q+1) c9) (q+1) ((picks f 0 (cs.take i)).flatMap I4++I4 e)) (aj (av w.heap.size (jj 0 false none 0 0) 34) (aj (av ab (jb e.1.i e.1.j e.1.kd e.1.l e.1.r e.1.c e.1.d.c e.2.A e.1.d.L.length e.2.ac e.2.B e.1.d.M.length e.2.bc (bs e.1.d.F)) 62) (aj (av g11 (jb e.1.i e.1.j e.1.kd e.1.l e.1.r e.1.c e.1.d.c e.2.A e.1.d.L.length e.2.ac e.2.B e.1.d.M.length e.2.bc (bs e.1.d.F)) 62) bG)))).Ok:=aB dK aO;obtain⟨m0,m1,m2⟩:=fO h7;obtain⟨F8,J⟩:=h7.fst;have mf:=aM J;have h8:aI eR w (aj (av g8 (jj k I A9 (q+1) c9) 34) _) _:=aJ h7 ap 2 (.slice A9 (q+1) c9);have H8:=au ((h8.perm (by ac_rfl:_=aj (aj (av ab (jb e.1.i e.1.j e.1.kd e.1.l e.1.r e.1.c e.1.d.c e.2.A e.1.d.L.length e.2.ac e.2.B e.1.d.M.length e.2.bc (bs e.1.d.F)) 62) (av g11 (jb e.1.i e.1.j e.1.kd e.1.l e.1.r e.1.c e.1.d.c e.2.A e.1.d.L.length e.2.ac e.2.B e.1.d.M.length e.2.bc (bs e.1.d.F)) 62)) (aj (av g8 (jj k I A9 (q+1) c9) 34) (aj (aV 62 10 (.slice A9 (q+1) c9) (q+1) ((picks f 0 (cs.take i)).flatMap I4++I4 e)) (aj (av w.heap.size (jj 0 false none 0 0) 34) bG))))).drop);clear h7 h8 ap an J F8 H5 ar af ao;go_wp2_with fail
    go_roundw
    case rel=>exact⟨i+1,q+1,A9,c9,by go_num,ak,by rw[aa.o,gd,<-HQ.o];rfl,by omega,by rw[aa.o,tW,vi];exact H8.o⟩
    case measure=>simp[intOf];omega
  ·obtain rfl:i=n:=by omega
   have ht:cs.take i=cs:=by rw[HN.o,ky]
   rw[ht] at HQ HR;clear ht;have h1:=HR.o.perm (by ac_rfl:_=aj (av w.heap.size (jj 0 false none 0 0) 34) (aj (av g8 (jj k I A q c) 34) (aj (aV 62 10 (.slice A q c) q ((picks f 0 cs).flatMap I4)) bG)));have ae:(aj (av g8 (jj k I A q c) 34) (aj (aV 62 10 (.slice A q c) q ((picks f 0 cs).flatMap I4)) bG)).Ok:=aB aC aO;obtain⟨m0,m1,m2⟩:=fO h1.drop;obtain⟨F8,J⟩:=h1.fst;have z0:=ay (i:=0) J rfl;have z1:=ay (i:=1) J rfl;have z2:=ay (i:=2) J rfl;have zf:=aM J;have am:aI eR w (aj (av w.heap.size (jj k false none 0 0) 34) _) _:=aJ h1 ae 0 (.int .i64 k);have aq:aI eR w (aj (av w.heap.size (jj k I none 0 0) 34) _) _:=aJ am ae 1 (.bool I);have al:aI eR w (aj (av w.heap.size (jj k I A q c) 34) _) _:=aJ aq ae 2 (.slice A q c);have H9:=au al
   have HF:=au (fun W (h:aI eR w (aj (av w.heap.size (jj k I A q c) 34) (aj (av g8 (jj k I A q c) 34) (aj (aV 62 10 (.slice A q c) q ((picks f 0 cs).flatMap I4)) bG))) W)=>(show Mi w f cs k I (.returned (.agg (jj k I A q c))) W from by
    refine⟨A,c,by rw[HQ.o],?_⟩;unfold DZ;rw[<-HQ.o]
    exact(h.drop.drop.perm (fC _)).post dK))
   clear h1 am aq al ae HR F8 J;go_wp2;obtain⟨f2,az⟩:=H9.o.fst;refine bodyPost_ret (results_cell_row rfl _ _ w.heap.size 34 _ (0,0) _ rfl az.1 Tryz.underlying34 rfl eQ) rfl ?_;exact HF.o _ H9.o
end Go.Proofs.YtbioiclabmbedaaGreatDoor
namespace Go.CH.bA
section
variable {c c':Nat→Nat→Int} {d d' e e':Nat→Int} {n m:Nat}
variable {k:Nat}
theorem find_congr {p q:Nat->Bool}  (h:∀ j,j<k->p j=q j):(List.range k).find? p=(List.range k).find? q:=by
 have:∀ l:List Nat,(∀ j ∈ l,p j=q j)->l.find? p=l.find? q:=by
  intro l
  induction l with
  | nil=>intro _;rfl
  | cons x l ih=>
   intro J;rw[Gr,Gr,J x (mz ..),ih fun j I=>J j (pP _ I)]
 exact this _ fun j I=>h j (List.mem_range.1 I)
theorem yR (h:∀ i,i<n->∀ j,j<m->c i j=c' i j) (hd:∀ i,i<n->d i=d' i) (I:∀ j,j<m->e j=e' j):∀ (k:Nat) (U:Nat->Bool),k<=n->L c d e n m k U=L c' d' e' n m k U
 | 0,U,_=>bJ fun j J=>by rw[I j J]
 | k+1,U,hk=>by
  unfold L;rw[hd _ eL,yR h hd I k U eL];exact EP (fun j J=>by rw[h _ eL j J,yR h hd I k _ eL]) (fun _ _=>rfl)
theorem D5 (h:∀ i,i<n->∀ j,j<m->c i j=c' i j) (hd:∀ i,i<n->d i=d' i) (I:∀ j,j<m->e j=e' j):∀ (k:Nat) (U:Nat->Bool),k<=n->gr c d e n m k U=gr c' d' e' n m k U
 | 0,U,_=>rfl
 | k+1,U,hk=>by
  have J:(List.range m).find? (fun j=>!U j&&decide (c (n-(k+1)) j+L c d e n m k (ins U j)=L c d e n m (k+1) U))=(List.range m).find? (fun j=>!U j&&decide (c' (n-(k+1)) j+L c' d' e' n m k (ins U j)=L c' d' e' n m (k+1) U)):=find_congr fun j M=>by
   rw[h _ eL j M,yR h hd I k _ eL,yR h hd I (k+1) _ hk]
  unfold gr;rw[J];split
  ·rw[D5 h hd I k _ eL]
  ·rw[D5 h hd I k _ eL]
theorem Gv (he:∀ j,j<m->e j=e' j):∀ b,b<=m->YB e m b=YB e' m b
 | 0,_=>rfl
 | b+1,hb=>by unfold YB;rw[he _ eL,Gv he b eL]
theorem Gw {i:Nat} {f g:Nat->Int} (hc:∀ j,j<m->c i j=c' i j) (hd:d i=d' i) (he:∀ j,j<m->e j=e' j) (hf:∀ b,b<=m->f b=g b):∀ b,b<=m->yq c d e m i f b=yq c' d' e' m i g b
 | 0,_=>by unfold yq;rw[hd,hf 0 eL]
 | b+1,hb=>by unfold yq;rw[hd,hf _ hb,he _ eL,Gw hc hd he hf b eL,hc _ eL,hf b eL]
theorem yS (hc:∀ i,i<n->∀ j,j<m->c i j=c' i j) (hd:∀ i,i<n->d i=d' i) (he:∀ j,j<m->e j=e' j):∀ (a b:Nat),a<=n->b<=m->GR c d e n m a b=GR c' d' e' n m a b
 | 0,b,_,hb=>Gv he b hb
 | a+1,b,ha,hb=>by
  unfold GR;exact Gw (fun j hj=>hc _ eL j hj) (hd _ eL) he (fun b hb=>yS hc hd he a b eL hb) b hb
theorem Ad (h:∀ i,i<n->∀ j,j<m->c i j=c' i j) (hd:∀ i,i<n->d i=d' i) (I:∀ j,j<m->e j=e' j):∀ (a b:Nat),a<=n->b<=m->wS c d e n m a b=wS c' d' e' n m a b
 | 0,b,_,hb=>rfl
 | a+1,b,ha,hb=>by
  have J:(List.range b).find? (fun t=>decide (sg t (fun x=>e (m-b+x))+c (n-(a+1)) (m-b+t)+GR c d e n m a (b-(t+1))=GR c d e n m (a+1) b))=(List.range b).find? (fun t=>decide (sg t (fun x=>e' (m-b+x))+c' (n-(a+1)) (m-b+t)+GR c' d' e' n m a (b-(t+1))=GR c' d' e' n m (a+1) b)):=find_congr fun t M=>by
   rw[bJ (fun x hx=>I (m-b+x) eL),h _ eL _ eL,yS h hd I a _ eL eL,yS h hd I (a+1) b ha hb]
  unfold wS;rw[J];split
  ·rw[Ad h hd I a _ eL eL]
  ·rw[Ad h hd I a _ eL hb]
end
end Go.CH.bA
namespace Go.CH.Mtc
open Go.CH.Scr Go.CH.dh
def Gx (T:eW) (a b:aQ) (m i j:Nat):List Pr:=(List.range i).flatMap (fun r=>(List.range m).map (BM T a b r))++(List.range j).map (BM T a b i)
def wO (T:eW) (a b:aQ) (m n i j:Nat):List (List Int):=(List.range n).map fun r=>(List.range (if r<i then m else if r=i then j else 0)).map fun s=>cM T a b r s
section
variable {T:eW} {a b:aQ} {m n i j:Nat}
theorem aaK:Gx T a b m i (j+1)=Gx T a b m i j++[BM T a b i j]:=by unfold Gx;rw[vp,km,<-l3];rfl
theorem aaL:Gx T a b m (i+1) 0=Gx T a b m i m:=by unfold Gx;rw[vp,tW,vi];simp
variable {p:Pr}{y:Int}{k:Nat}
theorem QH  (h:p ∈ Gx T a b m i j):∃ r s,p=BM T a b r s/\((r<i/\s<m)\/(r=i/\s<j)):=by
 unfold Gx at h;rcases List.mem_append.1 h with h|h
 ·obtain⟨r,J,h⟩:=List.mem_flatMap.1 h;obtain⟨s,I,rfl⟩:=List.mem_map.1 h;exact⟨r,s,rfl,.inl ⟨List.mem_range.1 J,List.mem_range.1 I⟩⟩
 ·obtain⟨s,I,rfl⟩:=List.mem_map.1 h;exact⟨i,s,rfl,.inr ⟨rfl,List.mem_range.1 I⟩⟩
theorem ac1 {r s:Nat} (hr:r<i) (hs:s<m):BM T a b r s ∈ Gx T a b m i j:=List.mem_append.2 (.inl (List.mem_flatMap.2 ⟨r,List.mem_range.2 hr,List.mem_map.2 ⟨s,List.mem_range.2 hs,rfl⟩⟩))
def G4 (E:List Pr) (x y:Int):Option Pr:=E.find? fun p=>decide (p.i=x)&&decide (p.j=y)
theorem aaM {x:Int} (hx:0<=x) (hn:x<n):G4 (Gx T a b m n 0) x y=if 0<=y/\y<m then some (BM T a b x.toNat y.toNat) else none:=by
 unfold G4;cases I:(Gx T a b m n 0).find? fun p=>decide (p.i=x)&&decide (p.j=y) with
 | none=>
  split
  ·rename_i M;have h:=List.find?_eq_none.1 I _ (ac1 (T:=T) (a:=a) (b:=b) (j:=0) (show x.toNat<n by omega) (show y.toNat<m by omega));exact absurd (by simp only[NT,NU,gA,decide_eq_true_eq];omega) h
  ·rfl
 | some p=>
  have h:=z6 I;have J:=s7 I;obtain⟨r,s,rfl,h3⟩:=QH J;simp only[NT,NU,gA,decide_eq_true_eq] at h;rw[if_pos eL,show x.toNat=r by omega,show y.toNat=s by omega]
theorem Xl:wO T a b m n 0 0=List.replicate n []:=by
 unfold wO;have:(fun r=>(List.range (if r<0 then m else if r=0 then 0 else 0)).map fun s=>cM T a b r s)=fun _=>([]:List Int):=by
  funext r;rw[if_neg (nB _),ite_self];rfl
 rw[this,Kf,ua]
theorem lH:(wO T a b m n i j).length=n:=by unfold wO;simp
theorem yT  (h:k<(wO T a b m n i j).length):(wO T a b m n i j)[k]=(List.range (if k<i then m else if k=i then j else 0)).map fun s=>cM T a b k s:=by
 simp[wO]
theorem Xm (hi:i<n) (h:i<(wO T a b m n i j).length):(wO T a b m n i j)[i]=(List.range j).map fun s=>cM T a b i s:=by
 rw[yT,if_neg (mn _),if_pos rfl]
theorem aaN (hi:i<n):(wO T a b m n i j).set i ((List.range j).map (fun s=>cM T a b i s)++[cM T a b i j])=wO T a b m n i (j+1):=by
 apply Jn
 ·simp[wO]
 ·intro k M J;rw[Jx,yT,yT];by_cases I:i=k
  ·subst I;rw[if_pos rfl,if_neg (mn _),if_pos rfl,vp,km];rfl
  ·rw[if_neg I];by_cases h:k<i
   ·rw[if_pos h,if_pos h]
   ·rw[if_neg h,if_neg h,if_neg (px I),if_neg (px I)]
theorem aaO:wO T a b m n (i+1) 0=wO T a b m n i m:=by
 unfold wO;refine nt fun k _=>?_;by_cases hk:k<i
 ·rw[if_pos hk,if_pos eL]
 ·rw[if_neg hk];by_cases h2:k=i
  ·rw[if_pos h2,if_pos eL]
  ·rw[if_neg h2,if_neg eL,ite_self]
end
end Go.CH.Mtc
namespace Go.Proofs.YtbioiclabmbedaaGreatDoor
open Go.RowKit Go.CH Go.CH.Scr Go.CH.dh Go.CH.Mtc
open Asn (aX dO fA uy Vec ints cF lF mR pX lS)
open Go.ChangeMaps (setBlock)
structure bZ where
 l:List Int
 A:eV
 c:Nat
def bZ.cl (z:bZ):List Value:=[.slice z.A z.l.length z.c]
def bZ.ow (z:bZ):CH.aT:=aX z.A z.c z.l
def fU (A:eV) (c:Nat) (zs:List bZ):CH.aT:=Oo bZ.cl bZ.ow 39 1 (.slice A zs.length c) zs
variable {A:eV}{c n g mb go i j d:Nat}{w W w':World}{F:Nat->Prop}{e:TypeId}{xs:List Value}{l:List Int}{T:eW}{b:aQ}{p:Pr}{a:Act}{K:Act->World->Prop}{Q:Exit->Act->World->Prop}{y:Int}
theorem I5   {zs:List bZ}:(fU A c zs).Ok:=QC fun _=>dO
instance {A:eV} {c:Nat} {zs:List bZ}:(fU A c zs).Ok:=I5
theorem aaP    {size:Nat}   (h:aV e size (.slice A n c) n xs w F):n<=c:=by
 rcases h.1.2 with⟨h1,h2⟩|⟨g,cap,cur,h1,_,_,h2,_⟩
 ·omega
 ·injection h1 with _ _ h3;omega
theorem QI      (h:aX A c l w F):l.length<=c:=aaP h
theorem D6     {zs:List bZ} (h:fU A c zs w F):uy w A (zs.map (·.l)) (zs.map fun z=>(z.A,z.c)):=by
 refine⟨by simp,?_,?_⟩
 ·obtain⟨F1,F2,M,_⟩:=h
  have h2:=iG M (by
   intro u hu;rw[FF] at hu;obtain⟨z,_,hz⟩:=hu
   simp[bZ.cl] at hz;subst hz;rfl)
  have e:(zs.map fun z=>(z.A,z.c)).mapIdx (fun i x=>Value.slice x.1 ((zs.map (·.l)).getD i []).length x.2)=zs.flatMap bZ.cl:=by
   have e1:zs.flatMap bZ.cl=zs.map (fun z=>Value.slice z.A z.l.length z.c):=by
    have:∀ l:List bZ,l.flatMap bZ.cl=l.map (fun z=>Value.slice z.A z.l.length z.c):=fun l=>by induction l with
     | nil=>rfl
     | cons a l ih=>simp[bZ.cl] at ih ⊢;exact ih
    exact this zs
   rw[e1];apply vl;intro i;rw[Cd,lz,lz];cases J:zs[i]? with
   | none=>rfl
   | some x=>simp[kj,J]
  rw[e,gh];exact h2
 ·intro i hi x J;have I:i<zs.length:=by simpa using hi
  rw[lz,gR I] at J;simp at J;subst J;rw[mA];have h3:=Me I h;obtain⟨F1,F2,M,_⟩:=h3;exact⟨fA M,QI M⟩
theorem QJ {O:CH.aT} {w:World} (h:O w eR):∀ n:Nat,aL (List.replicate n O) w eR
 | 0=>fun _ h=>h
 | n+1=>⟨fun _=>False,fun _=>False,h,QJ h n,fun _ h=>h.elim,fun i=>by simp⟩
theorem Xn:∀ n:Nat,(List.replicate n (⟨[],none,0⟩:bZ)).flatMap bZ.cl=List.replicate n (.slice none 0 0)
 | 0=>rfl
 | n+1=>by rw[List.replicate_succ,mN,List.replicate_succ,Xn n];rfl
theorem D7    (h:aV 39 1 (.slice (some ⟨g,0,none⟩) n n) n (List.replicate n (.slice none 0 0)) w F):fU (some ⟨g,0,none⟩) n (List.replicate n ⟨[],none,0⟩) w F:=by
 unfold fU Oo;rw[List.length_replicate,Fo];refine⟨F,fun _=>False,?_,QJ (Asn.lD w) n,fun _ _ h=>h,fun i=>by simp⟩;rw[Xn];exact h
def Ae (e:Pr × pE):CH.aT:=mI e.2.A e.2.ac e.2.B e.2.bc e.1.d
theorem Ot {E:List (Pr × pE)}:(aL (E.map Ae)).Ok:=lG (fun A hA=>by obtain⟨e,_,rfl⟩:=List.mem_map.1 hA;exact su)
instance {E:List (Pr × pE)}:(aL (E.map Ae)).Ok:=Ot
def lM (e:Pr × pE):(Int × Int) × Value:=((e.1.i,e.1.j),.agg (Eg e))
theorem Ou:oN Tryz.prog 84 (CH.eD .i64):=NG Tryz.underlying84 Tryz.underlying3 eQ
def BI (T:eW) (a b:aQ) (m n mb go i j:Nat):CH.aT:=lQ fun E:List (Pr × pE)=>lQ fun zs:List bZ=>sM (E.map (·.1)=Gx T a b m i j/\zs.map (·.l)=wO T a b m n i j) (aj (jo (CH.eD .i64) mb (E.map lM)) (aj (fU (some ⟨go,0,none⟩) n zs) (aL (E.map Ae))))
theorem ad5  {a:aQ} {m:Nat}:(BI T a b m n mb go i j).Ok:=bX fun _=>bX fun _=>gG (aB map_ok (aB I5 Ot))
instance {T:eW} {a b:aQ} {m n mb go i j:Nat}:(BI T a b m n mb go i j).Ok:=ad5
section
variable {T:eW} {a b:aQ} {m n mb go i j:Nat} {F0:Nat→Prop} {w0 W:World} {Y:CH.aT}
theorem QK (h:aI F0 w0 (aj (BI T a b m n mb go i j) Y) W):∃ (E:List (Pr × pE)) (zs:List bZ),E.map (·.1)=Gx T a b m i j/\zs.map (·.l)=wO T a b m n i j/\aI F0 w0 (aj (aj (jo (CH.eD .i64) mb (E.map lM)) (aj (fU (some ⟨go,0,none⟩) n zs) (aL (E.map Ae)))) Y) W:=by
 obtain⟨E,h⟩:=h.ex;obtain⟨zs,h⟩:=h.ex;obtain⟨⟨J,I⟩,h⟩:=h.pure;exact⟨E,zs,J,I,h⟩
theorem Xo {E:List (Pr × pE)} {zs:List bZ} (J:E.map (·.1)=Gx T a b m i j) (I:zs.map (·.l)=wO T a b m n i j) (h:aI F0 w0 (aj (aj (jo (CH.eD .i64) mb (E.map lM)) (aj (fU (some ⟨go,0,none⟩) n zs) (aL (E.map Ae)))) Y) W):aI F0 w0 (aj (BI T a b m n mb go i j) Y) W:=
 aI.nT E (aI.nT zs (aI.iQ ⟨J,I⟩ h))
theorem ac2 (h:aI F0 w0 (aj (BI T a b m n mb go i m) Y) W):aI F0 w0 (aj (BI T a b m n mb go (i+1) 0) Y) W:=by
 obtain⟨E,zs,h1,h2,h⟩:=QK h;exact Xo (by rw[aaL];exact h1) (by rw[aaO];exact h2) h
theorem ac3 (h:aI F0 w0 (aj (aV 39 1 (.slice (some ⟨go,0,none⟩) n n) n (List.replicate n (.slice none 0 0))) (aj (jo (CH.eD .i64) mb []) Y)) W):aI F0 w0 (aj (BI T a b m n mb go 0 0) Y) W:=by
 have I:aI F0 w0 (aj (fU (some ⟨go,0,none⟩) n (List.replicate n ⟨[],none,0⟩)) (aj (jo (CH.eD .i64) mb []) (aj (aL []) Y))) W:=(h.imp fun w F h=>bD h (fun _ h=>D7 h) (fun _ h=>h)).perm (by show _=aj _ (aj _ (aj bG Y));rw[jA]);refine Xo (E:=[]) (zs:=List.replicate n ⟨[],none,0⟩) rfl (by rw[Xl,Fo]) (I.perm ?_)
 show _=aj (aj (jo (CH.eD .i64) mb []) (aj _ (aL []))) Y
 ac_rfl
theorem aaQ {E:List (Pr × pE)} (h:E.map (·.1)=Gx T a b m i j):((i:Int),(j:Int)) ∉ (E.map lM).map (·.1):=by
 rw[qq];intro hm;obtain⟨e,M,hk⟩:=List.mem_map.1 hm;have J:e.1 ∈ Gx T a b m i j:=by rw[<-h];exact List.mem_map.2 ⟨e,M,rfl⟩
 obtain⟨r,s,I,h3⟩:=QH J;simp only[Function.comp,lM,I,NT,NU,Prod.mk.injEq] at hk;omega
end
section
variable {F0:Nat→Prop} {w0 W:World} {R Y:CH.aT}
theorem yU  {zs:List bZ} (hi:i<zs.length) (h:aI F0 w0 (aj (fU (some ⟨go,0,none⟩) c zs) R) W) :
  aI F0 w0 (aj (aX zs[i].A zs[i].c zs[i].l) (aj (aV 39 1 (.slice (some ⟨go,0,none⟩) zs.length c) zs.length (zs.flatMap bZ.cl)) (aj (aL ((zs.eraseIdx i).map bZ.ow)) R))) W/\W.cell? ⟨go,i,none⟩=some (.slice zs[i].A zs[i].l.length zs[i].c)/\W.frozen? ⟨go,i,none⟩=false:=by
 have I:aI F0 w0 (aj (aX zs[i].A zs[i].c zs[i].l) (aj (aV 39 1 (.slice (some ⟨go,0,none⟩) zs.length c) zs.length (zs.flatMap bZ.cl)) (aj (aL ((zs.eraseIdx i).map bZ.ow)) R))) W:=(h.imp fun w F M=>bD M (fun F h=>Me hi h) (fun _ h=>h)).perm (by show aj (aj (aX zs[i].A zs[i].c zs[i].l) (aj (aV 39 1 (.slice (some ⟨go,0,none⟩) zs.length c) zs.length (zs.flatMap bZ.cl)) (aL ((zs.eraseIdx i).map bZ.ow)))) R=_;ac_rfl);obtain⟨F,J⟩:=I.drop.fst;have hx:(zs.flatMap bZ.cl)[i]?=some (.slice zs[i].A zs[i].l.length zs[i].c):=by
  have:=jM (R:=bZ.cl) (size:=1) (fun _=>rfl) hi (i:=0) eL;rw[AI,pk] at this;exact this
 exact⟨I,nH J hx,qV J i eL⟩
theorem BR  {zs:List bZ} (hi:i<zs.length)    (hl:l.length=n) (hR:R.Ok) (h:aI F0 w0 (aj (aX A d l) (aj (aV 39 1 (.slice (some ⟨go,0,none⟩) zs.length c) zs.length (zs.flatMap bZ.cl)) (aj (aL ((zs.eraseIdx i).map bZ.ow)) R))) W) :
  aI F0 w0 (aj (fU (some ⟨go,0,none⟩) c (zs.set i ⟨l,A,d⟩)) R) (W.setCell ⟨go,i,none⟩ (.slice A n d)):=by
 subst hl;have aa:(aL ((zs.eraseIdx i).map bZ.ow)).Ok:=lG (fun A M=>by obtain⟨z,_,rfl⟩:=List.mem_map.1 M;exact dO);obtain⟨F,hF,-,I⟩:=h.kN.take dK aO;have J:=I _ _ (vB hF (i:=i) eL (.slice A l.length d));have e:(zs.flatMap bZ.cl).set i (.slice A l.length d)=(zs.set i ⟨l,A,d⟩).flatMap bZ.cl:=by
  have:=DU bZ.cl 1 (fun _=>rfl) hi (j:=0) eL (v:=.slice A l.length d) (x:=⟨l,A,d⟩) rfl;rw[AI,pk] at this;exact this
 rw[e] at J;have h2:aI F0 w0 (aj (aj (bZ.ow ⟨l,A,d⟩) (aj (aV 39 1 (.slice (some ⟨go,0,none⟩) zs.length c) zs.length ((zs.set i ⟨l,A,d⟩).flatMap bZ.cl)) (aL ((zs.eraseIdx i).map bZ.ow)))) R) _:=J.perm (by show aj _ (aj (aX A d l) _)=aj (aj (aX A d l) _) _;ac_rfl);refine h2.imp fun w F hh=>bD hh (fun F h=>?_) (fun _ h=>h);unfold fU;rw[rq];exact aaH hi h
theorem BU  {zs:List bZ} (hi:i<zs.length)    (h:aI F0 w0 (aj (aX A d l) (aj (aV 39 1 (.slice (some ⟨go,0,none⟩) zs.length c) zs.length (zs.flatMap bZ.cl)) R)) W) :
  W.cell? ⟨go,i,none⟩=some (.slice zs[i].A zs[i].l.length zs[i].c)/\W.frozen? ⟨go,i,none⟩=false:=by
 obtain⟨F,I⟩:=h.drop.fst;have J:(zs.flatMap bZ.cl)[i]?=some (.slice zs[i].A zs[i].l.length zs[i].c):=by
  have:=jM (R:=bZ.cl) (size:=1) (fun _=>rfl) hi (i:=0) eL;rw[AI,pk] at this;exact this
 exact⟨nH I J,qV I i eL⟩
theorem QL  {a:aQ} {m:Nat} {E:List (Pr × pE)} {zs:List bZ} {B A9:eV} {pc qc c9:Nat}  {I:Int} {zl:List Int} (J:BM T a b i j=p) (ab:p.c=I) (hE:E.map (·.1)=Gx T a b m i j) (aa:zs.map (·.l)=wO T a b m n i j) (hi:i<n) (M:zl=(List.range j).map fun s=>cM T a b i s)
  (h:aI F0 w0 (aj (fU (some ⟨go,0,none⟩) n (zs.set i ⟨zl++[I],A9,c9⟩)) (aj (jo (CH.eD .i64) mb (mh (E.map lM) ((i:Int),(j:Int)) (.agg (Cb p A pc B qc)))) (aj (aL (E.map Ae)) (aj (mI A pc B qc p.d) Y)))) W):aI F0 w0 (aj (BI T a b m n mb go i (j+1)) Y) W:=by
 have hc:cM T a b i j=I:=by unfold cM;rw[J,ab]
 have hk:mh (E.map lM) ((i:Int),(j:Int)) (.agg (Cb p A pc B qc))=(E++[(p,pE.mk A pc B qc)]).map lM:=by
  rw[qU (aaQ hE),km];have h1:p.i=i:=by rw[<-J,NT]
  have h2:p.j=j:=by rw[<-J,NU]
  show _=_++[((p.i,p.j),Value.agg (Cb p A pc B qc))]
  rw[h1,h2]
 rw[hk] at h;refine Xo (E:=E++[(p,pE.mk A pc B qc)]) (zs:=zs.set i ⟨zl++[I],A9,c9⟩) (by rw[km,hE,aaK,J];rfl) (by rw[vt,aa,<-aaN hi,M,hc]) ?_;have h3:aI F0 w0 (aj (aj (Ae (p,pE.mk A pc B qc)) (aL (E.map Ae))) (aj (fU (some ⟨go,0,none⟩) n (zs.set i ⟨zl++[I],A9,c9⟩)) (aj (jo (CH.eD .i64) mb ((E++[(p,pE.mk A pc B qc)]).map lM)) Y))) W:=h.perm (by show _=aj (aj (mI A pc B qc p.d) (aL (E.map Ae))) _;ac_rfl);have h4:aI F0 w0 (aj (aL ((E++[(p,pE.mk A pc B qc)]).map Ae)) (aj (fU (some ⟨go,0,none⟩) n (zs.set i ⟨zl++[I],A9,c9⟩)) (aj (jo (CH.eD .i64) mb ((E++[(p,pE.mk A pc B qc)]).map lM)) Y))) W:=h3.imp fun w F hh=>bD hh (fun F h=>by rw[km];exact yO h) (fun _ h=>h);exact h4.perm (by ac_rfl)
theorem D8 {o:Oper}    (s x:Operand)
  (ho:o.op=.call { callee:=.builtin .append,args:=#[s,x],argTypes:=#[39,39] })    {i:Int} (hl:l.length=n) (hsv:a.eval s=.slice A n c) (hx:a.eval x=.slice (some ⟨W.heap.size,0,none⟩) 1 1) (hn:n<=1000) (hY:Y.Ok)
  (h:aI F0 w0 (aj (aX A c l) Y) W)
  (hK:∀ A' c' w',aI F0 w0 (aj (aX A' c' (l++[i])) Y) w'->K (a.put o.dst (.slice A' (n+1) c')) w'):o.wp Tryz.prog a (W.alloc (.cells (fL i) 3)) K Q:=by
 subst hl;obtain⟨F7,I,-,ab⟩:=(h.below aO ((fe _ _).alloc (fy _) (.cells (fL i) 3))).take dO hY;refine VH s x ho Asn.oZ _ 0 (v:=.slice A l.length c) (n:=l.length) (xs:=ints l) hsv I.1 (A:=some ⟨W.heap.size,0,none⟩) (m:=1) (c:=1) (news:=[.int .i64 i]) hx (Asn.nU W i) eL eS (fw _) ?_;intro v8 w8 J M aa;have S8:=ab _ _ (je I J M aa);obtain⟨A8,c8,rfl⟩:=ig J;rw[Asn.yC] at S8;exact hK A8 c8 w8 S8
end
def eF (E:List (Pr × pE)) (x y:Int):Option (Pr × pE):=E.find? fun e=>decide (e.1.i=x)&&decide (e.1.j=y)
theorem ac4 (E:List (Pr × pE)) (x y:Int):(eF E x y).map (·.1)=G4 (E.map (·.1)) x y:=by
 unfold eF G4;rw[List.find?_map];rfl
theorem Xp (x y:Int):∀ E:List (Pr × pE),nV (E.map lM) (x,y)=(eF E x y).map fun e=>.agg (Eg e)
 | []=>rfl
 | e::E=>by
  rw[lk]
  show nV (((e.1.i,e.1.j),Value.agg (Eg e))::E.map lM) (x,y)=_
  rw[qL];unfold eF;rw[Gr];by_cases h:(x,y)=(e.1.i,e.1.j)
  ·rw[if_pos h];injection h with h1 I
   subst h1 I;simp
  ·rw[if_neg h];have I:(decide (e.1.i=x)&&decide (e.1.j=y))=false:=by
    rw[B7];by_cases J:e.1.i=x
    ·right;refine decide_eq_false fun M=>h ?_;rw[J,M]
    ·left;exact decide_eq_false J
   rw[I];exact Xp x y E
theorem ac5 {E:List (Pr × pE)} {x:Int} {e:Pr × pE} (h:eF E x y=some e):e ∈ E:=s7 h
theorem ac6 (w:World):(zeroValue 62).run Tryz.prog w=.ok (.agg (jb 0 0 0 0 0 0 0 none 0 0 none 0 0 ⟨#[]⟩)) w:=by kernel_rfl
theorem ac7 {E:List (Pr × pE)}    (h:jo (CH.eD .i64) mb (E.map lM) W F) (x y:Int) :
  (Instr.lookup 77 (.map (some mb)) (.agg (tB x y)) true).run Tryz.prog W=.ok (.tuple #[Ek (eF E x y),.bool (eF E x y).isSome]) W:=by
 obtain⟨⟨es,J,h1,h2⟩,hF⟩:=h;have I:=qm Ou Tryz.underlying77 ac6 h2 (x,y) W h1;rw[Xp] at I;unfold Ek;cases M:eF E x y with
 | none=>rw[M] at I;exact I
 | some e=>rw[M] at I;exact I
theorem Gy {T:eW} {a b:aQ} {n:Nat} {E:List (Pr × pE)} (hE:E.map (·.1)=Gx T a b b.ws.length n 0):∀ (l:List Int) (i:Nat),i+l.length<=n->(picks (eF E) i l).map (·.1)=fE T a b i l
 | [],i,_=>rfl
 | j::l,i,h=>by
  have I:=ac4 E i j;rw[hE,aaM eL (by simp at h;omega)] at I
  show((eF E i j).toList++picks (eF E) (i+1) l).map (·.1)=_
  rw[km,Gy hE l (i+1) (by simp at h;omega)];rw[fE];split
  ·rename_i M;rw[if_pos M] at I;cases J:eF E i j with
   | none=>rw[J] at I;cases I
   | some e=>rw[J] at I;injection I with I;simp[I]
  ·rename_i M;rw[if_neg M] at I;cases J:eF E i j with
   | none=>rfl
   | some e=>rw[J] at I;cases I
theorem Gz {E:List (Pr × pE)} {e:Pr × pE}:∀ (l:List Int) (i:Nat),e ∈ picks (eF E) i l->e ∈ E
 | [],i,h=>by cases h
 | j::l,i,h=>by
  rcases List.mem_append.1 h with h|h
  ·cases I:eF E i j with
   | none=>rw[I] at h;cases h
   | some e'=>
    rw[I] at h;simp at h;subst h;exact ac5 I
  ·exact Gz l (i+1) h
theorem ac8 {E:List (Pr × pE)} :∀ {F:Nat->Prop},aL (E.map Ae) w F->∀ e ∈ E,iF w e.2.A e.1.d.L/\iF w e.2.B e.1.d.M:=by
 induction E with
 | nil=>intro F _ e I;cases I
 | cons x E ih=>
  intro F h e I;obtain⟨F1,F2,h1,J,-,-⟩:=h;rcases List.mem_cons.1 I with rfl|I
  ·obtain⟨F3,F4,h3,h4,-,-⟩:=h1;exact⟨PN h3,PN h4⟩
  ·exact ih J e I
structure Ex (w:World) (A:eV) (l:List (Pr × pE)):Prop where
 row:sD I4 10 w A l
 all:∀ e ∈ l,iF w e.2.A e.1.d.L/\iF w e.2.B e.1.d.M
theorem Ex.below   {l:List (Pr × pE)} (h:Ex w A l) (hb:Below w.heap.size w w'):Ex w' A l:=⟨aY h.row hb,fun e he=>⟨(h.all e he).1.below hb,(h.all e he).2.below hb⟩⟩
def A0 (A:eV) (c:Nat) (l:List (Pr × pE)):CH.aT:=lQ fun E:List (Pr × pE)=>sM (∀ e ∈ l,e ∈ E) (aj (DZ A c l) (aL (E.map Ae)))
theorem Xq   {l:List (Pr × pE)}:(A0 A c l).Ok:=bX fun _=>gG (aB Xk Ot)
instance {A:eV} {c:Nat} {l:List (Pr × pE)}:(A0 A c l).Ok:=Xq
theorem ad7   {l:List (Pr × pE)}   (h:A0 A c l w F):Ex w A l:=by
 obtain⟨E,hE,F1,F2,h1,h2,-,-⟩:=h;exact⟨iG h1 (QG _),fun e he=>ac8 h2 e (hE e he)⟩
theorem aaR (w:World):A0 none 0 [] w eR:=⟨[],(fun e he=>by cases he),fun _=>False,fun _=>False,fT w 62 10,fun _ h=>h,fun _ h=>h.elim,fun i=>by simp⟩
def I6 (w:World) (T:eW) (a b:aQ) (e:Ending) (w':World):Prop:=
 ∃ (x:Mt) (er:Int) (A:eV) (c:Nat) (l:List (Pr × pE)),e=.returned (.tuple #[.agg (jj x.c x.s A l.length c),.int .i64 er])/\Bq T a b x er/\l.map (·.1)=x.ps/\bT w eR (A0 A c l) w'
theorem GA   {a:aQ} {e:Ending}  (h:I6 w T a b e w') :
  ∃ (x:Mt) (I:Int) (A:eV) (c:Nat) (l:List (Pr × pE)),e=.returned (.tuple #[.agg (jj x.c x.s A l.length c),.int .i64 I])/\Bq T a b x I/\l.map (·.1)=x.ps/\Ex w' A l/\Below w.heap.size w w':=by
 obtain⟨x,I,A,c,l,h1,h2,J,F,h4,M,-⟩:=h;exact⟨x,I,A,c,l,h1,h2,J,ad7 h4,M.below (fun _ _ h=>h)⟩
end Go.Proofs.YtbioiclabmbedaaGreatDoor
namespace Go.CH.Mtc
open Go.CH.Scr Go.CH.dh
section
variable {T:eW} {a b:aQ}
theorem BX:nK T a b=true↔bL T=true/\eT a=true/\eT b=true:=by unfold nK;rw[gA,gA]
variable {n:Nat}{f:Nat->Int}{k:Int}
theorem wU    (h:∀ i,f i<=k):bA.sg n f<=n*k:=by
 induction n with
 | zero=>simp[bA.sg]
 | succ n ih=>
  have h1:=h n;rw[bA.dI,rS,G1];omega
theorem QO (h:nK T a b=true):0<=nD T a b/\nD T a b<=12000/\jP T a b<=12000:=by
 obtain⟨I,ha,hb⟩:=BX.1 h;have h1:=(aZ.1 ha).2.2;have h2:=(aZ.1 hb).2.2;have h3:=Iz (Bq.some h);have h4:bA.sg a.ws.length (dM T a)<=a.ws.length*1000:=wU fun i=>(mE I i).2;have h5:bA.sg b.ws.length (dM T b)<=b.ws.length*1000:=wU fun i=>(mE I i).2;have hn:∀ P,bA.bA a.ws.length b.ws.length P->0<=bA.cost (cM T a b) (dM T a) (dM T b) a.ws.length b.ws.length P:=fun P hP=>by
  unfold bA.cost
  have h2:=bA.qB (n:=a.ws.length) (f:=fun i=>if P i<b.ws.length then cM T a b i (P i) else dM T a i) (fun i hi=>by
   split
   ·exact(wG I _ _).1
   ·exact(mE I _).1)
  have h3:=bA.qB (n:=b.ws.length) (f:=fun j=>if bA.used P a.ws.length j then 0 else dM T b j) (fun j hj=>by
   split
   ·exact ly _
   ·exact(mE I _).1)
  omega
 have hA:bA.bA a.ws.length b.ws.length (fun _=>b.ws.length):=⟨fun _ _=>fy _,fun i j hi hj _ h=>absurd h (mn _)⟩;have M:bA.sP a.ws.length b.ws.length (fun _=>b.ws.length):=fun i j _ _ h=>absurd h (mn _);have h6:=(nX (T:=T) (a:=a) (b:=b)).low _ hA M;have h7:bA.cost (cM T a b) (dM T a) (dM T b) a.ws.length b.ws.length (fun _=>b.ws.length)=bA.sg a.ws.length (dM T a)+bA.sg b.ws.length (dM T b):=by
  unfold bA.cost;congr 1
  ·exact bA.bJ fun i _=>if_neg (mn _)
  ·refine bA.bJ fun j hj=>if_neg ?_;rw[CI,bA.mV];intro i _ e;omega
 obtain⟨P',J,aa⟩:=(pV (T:=T) (a:=a) (b:=b)).has;have h8:=hn P' J;have h9:=ZQ (T:=T) (a:=a) (b:=b);rw[h7] at h6;omega
theorem Mj:(uo T a b).length=a.ws.length:=Lb.len
theorem Mk:(vL T a b).length=a.ws.length:=Lc.1.len
end
end Go.CH.Mtc
namespace Go.Proofs.YtbioiclabmbedaaGreatDoor
open Go.RowKit Go.CH Go.CH.Scr Go.CH.dh Go.CH.Mtc
open Asn (aX dO fA uy Vec ints cF lF mR pX lS)
open Go.ChangeMaps (setBlock)
section
variable {T:eW} {a b:aQ}
variable {i j la lb c d e:Nat}{W w:World}{A B G:eV}{V:List (eV × Nat)}{k:Int}{X:CH.aT}
theorem I8  (hi:i<a.ws.length) (hj:j<b.ws.length):cF (wO T a b b.ws.length a.ws.length a.ws.length 0) i j=cM T a b i j:=by
 rw[pX (by rw[lH];exact hi),yT,if_pos hi];unfold lF;rw[kj,lz,Cl hj];rfl
theorem nI (n:aQ)  (hi:i<n.ws.length):lF (n.ws.map (bQ T n.k)) i=dM T n i:=by
 unfold lF dM wd;rw[kj,kj,lz,gR hi];rfl
theorem SJ (h:nK T a b=true):mR (wO T a b b.ws.length a.ws.length a.ws.length 0) (a.ws.map (bQ T a.k)) (b.ws.map (bQ T b.k))=true:=by
 obtain⟨M,ha,hb⟩:=BX.1 h;have h1:=(aZ.1 ha).2.2;have h2:=(aZ.1 hb).2.2;have hd:∀ n:aQ,Asn.wi (n.ws.map (bQ T n.k)) 0 10000=true:=fun n=>by
  unfold Asn.wi;rw[j8];intro x I;obtain⟨y,-,rfl⟩:=List.mem_map.1 I;have:=Gf M n.k y;rw[gA,decide_eq_true_eq,decide_eq_true_eq];omega
 unfold mR;simp only[gA,decide_eq_true_eq,j8];refine⟨⟨⟨⟨⟨by rw[lH,gh],by rw[gh];exact h1⟩,by rw[gh];exact h2⟩,hd a⟩,hd b⟩,fun r hr=>?_⟩;obtain⟨k,J,rfl⟩:=zp hr;rw[yT,if_pos (by rw[lH] at J;exact J)];refine⟨by simp,?_⟩;unfold Asn.wi;rw[j8];intro x I;obtain⟨s,-,rfl⟩:=List.mem_map.1 I;have:=wG (a:=a) (b:=b) M k s;rw[gA,decide_eq_true_eq,decide_eq_true_eq];exact this
theorem aeI      (M:la=a.ws.length) (aa:lb=b.ws.length) (J:nK T a b=true) (h:uy W A (wO T a b lb la la 0) V) (hD:iF W B (a.ws.map (bQ T a.k))) (hE:iF W G (b.ws.map (bQ T b.k))) :
  Calls Tryz.prog 26 #[.slice A la c,.slice B la d,.slice G lb e] W (fun en w'=>∃ A1 c1,en=.returned (.tuple #[.slice A1 (vL T a b).length c1,.int .i64 (jP T a b),.int .i64 0])/\Below W.heap.size W w'/\iF w' A1 (vL T a b)):=by
 subst M aa;have h1:=Asn.LJ (c:=c) (d:=d) (e:=e) h (by rw[lH];have:=(aZ.1 (BX.1 J).2.1).2.2;simp only[maxLen];omega) (D:=a.ws.map (bQ T a.k)) (E:=b.ws.map (bQ T b.k)) hD hE;rw[lH,gh,gh] at h1;refine h1.mono ?_;rintro en w' ⟨v,rfl,hb,A1,c1,rfl,hr⟩;have hv:=SJ J;have e1:Asn.jP (wO T a b b.ws.length a.ws.length a.ws.length 0) (a.ws.map (bQ T a.k)) (b.ws.map (bQ T b.k))=jP T a b:=by
  unfold Asn.jP jP;rw[if_pos hv,gh,gh];exact bA.yS (fun i hi j I=>I8 hi I) (fun i hi=>nI a hi) (fun j I=>nI b I) _ _ (fy _) (fy _)
 have e2:Asn.vL (wO T a b b.ws.length a.ws.length a.ws.length 0) (a.ws.map (bQ T a.k)) (b.ws.map (bQ T b.k))=vL T a b:=by
  unfold Asn.vL vL;rw[if_pos hv,gh,gh];exact bA.Ad (fun i hi j I=>I8 hi I) (fun i hi=>nI a hi) (fun j I=>nI b I) _ _ (fy _) (fy _)
 rw[e2] at hr;exact⟨A1,c1,by rw[e1,e2];unfold Asn.LH;rw[if_pos hv],hb,hr⟩
theorem anyM      (aa:la=a.ws.length) (ab:lb=b.ws.length) (M:nK T a b=true) (h:uy W A (wO T a b lb la la 0) V) (hD:iF W B (a.ws.map (bQ T a.k))) (hE:iF W G (b.ws.map (bQ T b.k))) (hd:la<=d) :
  Calls Tryz.prog 27 #[.slice A la c,.slice B la d,.slice G lb e] W (fun en w'=>∃ A1 c1 A2 n2 c2 A3 n3 c3,en=.returned (.tuple #[.agg (gO (nD T a b) A1 (uo T a b).length c1 A2 n2 c2 A3 n3 c3),.int .i64 0])/\Below W.heap.size W w'/\iF w' A1 (uo T a b)):=by
 subst aa ab;have h1:=Asn.uh (c:=c) (d:=d) (e:=e) h (by rw[lH];have:=(aZ.1 (BX.1 M).2.1).2.2;simp only[maxLen];omega) (D:=a.ws.map (bQ T a.k)) (E:=b.ws.map (bQ T b.k)) hD hE (by rw[gh];exact hd);rw[lH,gh,gh] at h1;refine h1.mono ?_;have hv:=SJ M;rintro en w' ⟨v,rfl,hb,J⟩;rw[if_pos hv] at J;obtain⟨A1,A2,A3,c1,c2,c3,rfl,J,-,-⟩:=J;have e1:(Asn.fJ (wO T a b b.ws.length a.ws.length a.ws.length 0) (a.ws.map (bQ T a.k)) (b.ws.map (bQ T b.k))).k=nD T a b:=by
  unfold Asn.fJ nD bA.mW;simp only[gh];exact bA.yR (fun i hi j I=>I8 hi I) (fun i hi=>nI a hi) (fun j I=>nI b I) _ _ (fy _)
 have e2:(Asn.fJ (wO T a b b.ws.length a.ws.length a.ws.length 0) (a.ws.map (bQ T a.k)) (b.ws.map (bQ T b.k))).ps=uo T a b:=by
  unfold Asn.fJ uo bA.Yp;simp only[gh];exact bA.D5 (fun i hi j I=>I8 hi I) (fun i hi=>nI a hi) (fun j I=>nI b I) _ _ (fy _)
 rw[e2] at J;exact⟨A1,c1,A2,_,c2,A3,_,c3,by rw[e1,e2,if_pos hv],hb,J⟩
theorem QS  {E:List (Pr × pE)} {cs:List Int}    {M:Bool} {Z:CH.aT} (I:nK T a b=true) (hE:E.map (·.1)=Gx T a b b.ws.length a.ws.length 0) (hl:cs.length<=a.ws.length) (J:fJ T a b=⟨k,M,fE T a b 0 cs⟩)
  (h:aI eR w (aj Z (aj (DZ A c (picks (eF E) 0 cs)) (aj (aL (E.map Ae)) X))) W):I6 w T a b (.returned (.tuple #[.agg (jj k M A (picks (eF E) 0 cs).length c),.int .i64 0])) W:=by
 have h1:=(h.perm (by ac_rfl:_=aj (aj Z X) (aj (DZ A c (picks (eF E) 0 cs)) (aL (E.map Ae))))).drop;have h2:aI eR w (A0 A c (picks (eF E) 0 cs)) W:=h1.imp fun w F hh=>⟨E,fun e he=>Gz cs 0 he,hh⟩;exact⟨fJ T a b,0,A,c,picks (eF E) 0 cs,by rw[J],.some I,by rw[J];exact Gy hE cs 0 eL,h2.post Xq⟩
end
variable {w W w' w0:World}{v:Value}{T:eW}{n a b:aQ}{g i:Nat}{F0:Nat->Prop}{t:TypeId}{X:CH.aT}{A:eV}
theorem aG  {p:Addr}  (h:w.cell? p=some v) (hb:Below w.heap.size w W):W.cell? p=some v:=by rw[hb.cell (py _ _ h)];exact h
theorem QM    {e:Ending} (h:qA w T n e w'):∃ (A:eV) (p c:Nat) (B:eV) (q d:Nat) (o:Bool),e=.returned (.tuple #[.agg (fj A p c B q d),.bool o])/\Below w.heap.size w w'/\o=(bL T&&eT n)/\(o=true->p=n.ws.length/\q=n.ws.length/\p<=c/\q<=d/\∃ l,IY w' T n l A B):=by
 unfold qA at h;split at h
 ·rename_i I;obtain⟨l,A,c,B,d,rfl,J,M,h1,h2⟩:=h;exact⟨A,_,c,B,_,d,true,rfl,J,I.symm,fun _=>⟨rfl,rfl,h1,h2,l,M⟩⟩
 ·rename_i I;obtain⟨rfl,J⟩:=h;exact⟨none,0,0,none,0,0,false,rfl,J,by simpa using I,fun h=>by cases h⟩
theorem QN {tmps:Array Value}   {cs:Array Value} (h:tmps.getD 6 undef=.pointer (some ⟨g,0,none⟩)) (J:cs.size=3) (I:w.heap[g]?=some (.cells cs 34))  (M:tmps.getD 7 undef=v):(results Tryz.f12 tmps).run Tryz.prog w=.ok (.tuple #[.agg cs,v]) w:=by
 subst M;exact dz rfl tmps w g 34 cs (0,0) h I Tryz.underlying34 (by rw[J];kernel_rfl)
theorem yV      {a0 M J:Value} (h:aI F0 w0 (aj (av g #[a0,M,J] t) X) w) (I:X.Ok) (b0 b1 b2:Value) :
  aI F0 w0 (aj (av g #[b0,b1,b2] t) X) (((w.setCell ⟨g,0,none⟩ b0).setCell ⟨g,1,none⟩ b1).setCell ⟨g,2,none⟩ b2):=by
 have h0:aI F0 w0 (aj (av g #[b0,M,J] t) X) _:=aJ h I 0 b0;have h1:aI F0 w0 (aj (av g #[b0,b1,J] t) X) _:=aJ h0 I 1 b1;exact aJ h1 I 2 b2
theorem I7   (h:i<n.ws.length):wd n i ∈ n.ws:=by
 unfold wd;rw[kj,gR h];exact gv h
theorem Xr    {l:List (wQ × WW)} {B:eV} (h:IY w T n l A B)  (hi:i<n.ws.length) :
  ∃ (u:WW) (b o:Nat),A=some ⟨b,o,none⟩/\∀ W,Below w.heap.size w W->Af W (jg T n.k (wd n i)) u/\W.cell? ⟨b,o+i*3,none⟩=some (.int .i64 (jg T n.k (wd n i)).k)/\W.cell? ⟨b,o+i*3+1,none⟩=some (.slice u.V (jg T n.k (wd n i)).vs.length u.vc)/\W.cell? ⟨b,o+i*3+2,none⟩=some (.slice u.L (jg T n.k (wd n i)).ls.length u.lc):=by
 have hl:l.length=n.ws.length:=by have:=congrArg List.length h.eq;simpa using this
 obtain⟨b,o,hA,M⟩:=sD.at (R:=fM) (fun _=>rfl) eL h.row eL;have he:(l[i]'eL).1=jg T n.k (wd n i):=by
  have I:(l.map (·.1))[i]?=(n.ws.map (jg T n.k))[i]?:=by rw[h.eq]
  rw[lz,lz,gR (show i<l.length by omega),gR hi] at I;injection I with I
  unfold wd;rw[kj,gR hi];exact I
 refine⟨(l[i]'eL).2,b,o,hA,fun W J=>?_⟩;rw[<-he];exact⟨(h.all _ (gv _)).below J,M W J i eL 0 _ rfl,M W J i eL 1 _ rfl,M W J i eL 2 _ rfl⟩
theorem Xt    (h:nK T a b=false) (hb:Below w.heap.size w W):I6 w T a b (.returned (.tuple #[.agg (jj 0 false none 0 0),.int .i64 1])) W:=
 ⟨Re,1,none,0,[],rfl,.arg h,rfl,fun _=>False,aaR W,Mod.of_below hb,fun _ h=>h.elim⟩
abbrev _root_.Go.rI (i j:Int)(p:Pr)(A:eV)(c:Nat)(B:eV)(d:Nat):Array Value:=jb i j p.kd p.l p.r p.c p.d.c A p.d.L.length c B p.d.M.length d (bs p.d.F)
theorem D9   {ta:TA} (hT:kr w T ta) (hz:LZ w)  {An Bn:eV} {ca cb:Nat} (hA:fB w An a.ws) (hB:fB w Bn b.ws) (bj:a.ws.length<=1000000) (bi:b.ws.length<=1000000) (cj:∀ x ∈ a.ws,x.length<=1000000) (cg:∀ x ∈ b.ws,x.length<=1000000) :
  Calls Tryz.prog 12 #[dV T ta,vI a An ca,vI b Bn cb] w (I6 w T a b):=by
 have h1:=aH (aI.begin w) aN (dR T ta) 25;have h2:=aH h1 aO (fh a.k An a.ws.length ca) 28;have h3:=aH h2 aO (fh b.k Bn b.ws.length cb) 28;have h4:=aH h3 aO (jj 0 false none 0 0) 34;simp only[im] at h4;have H4:=au h4;have bu:=au (fun W X (h:aI eR w X W)=>(show Below w.heap.size w W from h.mod.below (fun _ _ h=>h)));have KA:=au (fun W (J:Below w.heap.size w W)=>(DX (n:=a) (cn:=ca) (hT.below J) (hz.below J) (aY hA J) bj cj).mono fun e w' h=>QM h);have KB:=au (fun W (J:Below w.heap.size w W)=>(DX (n:=b) (cn:=cb) (hT.below J) (hz.below J) (aY hB J) bi cg).mono fun e w' h=>QM h);have cR:=au (fun (ar:bL T=true) (bf:eT a=true) (hv3:eT b=true) W (J:Below w.heap.size w W) (i j:Nat) (hi:i<a.ws.length) (hj:j<b.ws.length) (u v:WW) (hu:Af W (jg T a.k (wd a i)) u) (hv:Af W (jg T b.k (wd b j)) v)=>Jb (hT.below J) (hz.below J) (cj _ (I7 hi)) (cg _ (I7 hj)) (fP.2 ⟨(aZ.1 bf).1 _ (I7 hi),(aZ.1 hv3).1 _ (I7 hj),ar⟩) hu hv);have en:=au (fun W (J:Below w.heap.size w W)=>(show kr W T ta/\LZ W from⟨hT.below J,hz.below J⟩));have er:=au cj;have eq:=au cg;clear hT hz hA hB bj bi cj cg h1 h2 h3 h4;unfold dV vI at *
 unfold dR at *
 generalize T.rs.length=n1 at *
 generalize T.ds.length=n2 at *
 generalize T.es.length=n3 at *
 obtain⟨la,bj⟩:∃ la,la=a.ws.length:=⟨_,rfl⟩;obtain⟨lb,bi⟩:∃ lb,lb=b.ws.length:=⟨_,rfl⟩;have a6:=au bj;have bh:=au bi;rw[<-bj] at H4 KA ⊢;rw[<-bi] at H4 KB ⊢;clear bj bi;obtain⟨aA,ac,aD,ad,aE,ae⟩:=ta;dsimp only at H4 KA KB cR ⊢;generalize ej:(((w.alloc (.cells (fN aA n1 ac aD n2 ad aE n3 ae T.drop T.ord T.ini) 25)).alloc (.cells (fh a.k An la ca) 28)).alloc (.cells (fh b.k Bn lb cb) 28)).alloc (.cells (jj 0 false none 0 0) 34)=w4 at H4;generalize dw:w.heap.size+1=g4 at H4;generalize dt:g4+1=g5 at H4;generalize eb:g5+1=g6 at H4
 go_enter Tryz.func12,Tryz.ntmps12
 go_upto_region 1 with (fail);clear ej dw dt eb;obtain⟨t0,t1,t2,t3,t4,t5⟩:=fu H4.o.drop.drop.drop;obtain⟨s0,s1,sf⟩:=bY H4.o.drop.drop;have dl:=au (KA.o w4 (bu.o _ _ H4.o));clear KA;go_wp2_with fail;refine dl.o.mono ?_;rintro e9 w5 ⟨xA,n,xc,xB,p,xd,o1,rfl,J,hov,hR⟩;have H5:=au (H4.o.below aO J);have cd:=au hov;have ck:=au hR;clear dl J hov hR t0 t1 t2 t3 t4 t5 s0 s1 sf H4;have H6:=au (aH H5.o aO (fj xA n xc xB p xd) 74);have cy:=au (show Below w5.heap.size w5 (w5.alloc (.cells (fj xA n xc xB p xd) 74)) from(fe _ _).alloc (fy _) _);dsimp only;go_upto_region 2 with (fail);generalize w5.alloc (.cells (fj xA n xc xB p xd) 74)=w6 at *
 clear H5;generalize dk:w5.heap.size=g8 at *
 have c8:=au dk;clear dk;obtain⟨t0,t1,t2,t3,t4,t5⟩:=fu H6.o.drop.drop.drop.drop;obtain⟨s0,s1,sf⟩:=bY H6.o.drop.drop;have cX:=au (KB.o w6 (bu.o _ _ H6.o));clear KB;go_wp2_with fail;refine cX.o.mono ?_;rintro e9 w7 ⟨yA,m,yc,yB,q,yd,o2,rfl,J,hov,hR⟩;have H7:=au (H6.o.below aO J);have aq:=au hov;have cp:=au hR;have cP:=au (show Below w5.heap.size w5 w7 from by rw[c8.o];exact cy.o.trans (J.mono (kh (Lq c8.o.symm) cy.o.size)));clear cX J hov hR t0 t1 t2 t3 t4 t5 s0 s1 sf H6 cy;have H8:=au (aH H7.o aO (fj yA m yc yB q yd) 74);have eg:=au (show Below w7.heap.size w7 (w7.alloc (.cells (fj yA m yc yB q yd) 74))/\w5.heap.size<=w7.heap.size from⟨(fe _ _).alloc (fy _) _,cP.o.size⟩);dsimp only;go_upto_region 3 with (fail);generalize w7.alloc (.cells (fj yA m yc yB q yd) 74)=I at *
 clear H7;generalize c6:w7.heap.size=g10 at *
 have d6:=au c6;clear c6;cases o1 with
 | false=>
  have cA:=au (fun W J=>Xt (w:=w) (W:=W) (T:=T) (a:=a) (b:=b) (by unfold nK;rw[<-Bool.and_assoc,<-cd.o];rfl) J);obtain⟨z0,z1,z2⟩:=fO H8.o.drop.drop;obtain⟨F6,ao⟩:=H8.o.drop.drop.fst;have zf:=aM ao;have h9:=yV (H8.o.perm (by ac_rfl:_=(aj (av g6 (jj 0 false none 0 0) 34) (aj (av g10 (fj yA m yc yB q yd) 74) (aj (av g8 (fj xA n xc xB p xd) 74) (aj (av g5 (fh b.k Bn lb cb) 28) (aj (av g4 (fh a.k An la ca) 28) (aj (av w.heap.size (fN aA n1 ac aD n2 ad aE n3 ae T.drop T.ord T.ini) 25) bG)))))))) aO (.int .i64 0) (.bool false) (.slice none 0 0);have H9:=au h9;clear h9 ao F6 H8 ck cp cd aq;go_wp2;obtain⟨f2,a9⟩:=H9.o.fst;refine bodyPost_ret (QN rfl rfl a9.1 rfl) rfl ?_;exact cA.o _ (bu.o _ _ H9.o)
 | true=>
  cases o2 with
  | false=>
   have cA:=au (fun W J=>Xt (w:=w) (W:=W) (T:=T) (a:=a) (b:=b) (by unfold nK;rw[Bool.and_comm (eT a),<-Bool.and_assoc,<-aq.o];rfl) J);obtain⟨z0,z1,z2⟩:=fO H8.o.drop.drop;obtain⟨F6,ao⟩:=H8.o.drop.drop.fst;have zf:=aM ao;have h9:=yV (H8.o.perm (by ac_rfl:_=(aj (av g6 (jj 0 false none 0 0) 34) (aj (av g10 (fj yA m yc yB q yd) 74) (aj (av g8 (fj xA n xc xB p xd) 74) (aj (av g5 (fh b.k Bn lb cb) 28) (aj (av g4 (fh a.k An la ca) 28) (aj (av w.heap.size (fN aA n1 ac aD n2 ad aE n3 ae T.drop T.ord T.ini) 25) bG)))))))) aO (.int .i64 0) (.bool false) (.slice none 0 0);have H9:=au h9;clear h9 ao F6 H8 ck cp cd aq;go_wp2;obtain⟨f2,a9⟩:=H9.o.fst;refine bodyPost_ret (QN rfl rfl a9.1 rfl) rfl ?_;exact cA.o _ (bu.o _ _ H9.o)
  | true=>
   obtain⟨hn,hp,eo,d5,l1,a4⟩:=ck.o rfl;obtain⟨hm,hq,ep,em,l2,cW⟩:=cp.o rfl;obtain rfl:la=n:=hn.symm;obtain rfl:la=p:=hp.symm;obtain rfl:lb=m:=hm.symm;obtain rfl:lb=q:=hq.symm;have ar:bL T=true/\eT a=true:=by have h1:=cd.o;rw[eq_comm,gA] at h1;exact h1
   have bf:eT b=true:=by have h1:=aq.o;rw[eq_comm,gA] at h1;exact h1.2
   have b7:=au (show nK T a b=true from by unfold nK;rw[ar.1,ar.2,bf];rfl);have cf:Below w7.heap.size w7 I:=by rw[d6.o];exact eg.o.1
   have ef:=au ar.1;have d8:=au (aZ.1 ar.2);have du:=au (aZ.1 bf);have el:la<=6:=by rw[a6.o];exact d8.o.2.2
   have ek:lb<=6:=by rw[bh.o];exact du.o.2.2
   have HN:=au (fun W (J:Below I.heap.size I W)=>(show IY W T a l1 xA xB/\IY W T b l2 yA yB from by
    have h7:Below w7.heap.size w7 W:=cf.trans (J.mono cf.size)
    exact⟨a4.below (cP.o.trans (h7.mono cP.o.size)),cW.below h7⟩))
   have dx:=au (fun i (hi:i<la)=>Xr (HN.o I (fe _ _)).1 (i:=i) (by rw[<-a6.o];exact hi));have d7:=au (fun i (hi:i<lb)=>Xr (HN.o I (fe _ _)).2 (i:=i) (by rw[<-bh.o];exact hi));have dp:Below w.heap.size w I:=bu.o _ _ H8.o;have KC:=au (fun W (J:Below I.heap.size I W) (i j:Nat) (hi:i<la) (hj:j<lb) (u v:WW) hu hv=>cR.o ar.1 ar.2 bf W (dp.trans (J.mono dp.size)) i j (by rw[<-a6.o];exact hi) (by rw[<-bh.o];exact hj) u v hu hv);clear cR;obtain⟨t0,t1,t2,t3,t4,t5⟩:=fu H8.o.drop.drop.drop.drop.drop;obtain⟨x0,x1,-⟩:=bY H8.o.drop;obtain⟨y0,y1,-⟩:=bY H8.o;have az:=au (fun W (J:Below I.heap.size I W)=>(show(lR W w.heap.size (.slice aA n1 ac) (.slice aD n2 ad) (.slice aE n3 ae) (.int .i64 T.drop) (.int .i64 T.ord) (.int .i64 T.ini))/\(my W g8 (.slice xA la xc) (.slice xB la xd))/\(my W g10 (.slice yA lb yc) (.slice yB lb yd)) from⟨⟨aG t0 J,aG t1 J,aG t2 J,aG t3 J,aG t4 J,aG t5 J⟩,⟨aG x0 J,aG x1 J⟩,aG y0 J,aG y1 J⟩));clear t0 t1 t2 t3 t4 t5 x0 x1 y0 y1 a4 cW ar bf cf hn hp hm hq ck cp cd aq;have dC:∀ w:World,(Instr.makeMap 77 none).run Tryz.prog w=.ok (.map (some w.heap.size)) (w.alloc (.map #[] 0)):=fun w=>by kernel_rfl
   have cE:=aH ((aI.begin I).fresh aN (rR (kv:=CH.eD .i64) I)) aO #[.map (some I.heap.size)] 77;simp only[im] at cE;have cx:=au cE;clear cE;go_upto_region 6 with (fail);generalize (I.alloc (.map #[] 0)).alloc (.cells #[.map (some I.heap.size)] 77)=da at *
   obtain⟨⟨t0,t1,t2,t3,t4,t5⟩,⟨x0,x1⟩,y0,y1⟩:=az.o da cx.o.cZ;clear dC;go_wp2_with (refine Asn.pW rfl (.tmp 48) rfl la eL (by simp[Act.eval]) ?_;refine held ?_);refine lB.mk fun dy hP=>?_;rw[<-Asn.uF la (.slice none 0 0)] at hP;have dm:=cx.o.fresh aO hP;generalize da.heap.size=go at *
   have cJ:=au (ac3 (T:=T) (a:=a) (b:=b) (m:=lb) (dm.perm (by ac_rfl:_=aj (aV 39 1 (.slice (some ⟨go,0,none⟩) la la) la (List.replicate la (.slice none 0 0))) (aj (jo (CH.eD .i64) I.heap.size []) (aj (av (I.heap.size+1) #[.map (some I.heap.size)] 77) bG)))));clear dm hP cx t0 t1 t2 t3 t4 t5 x0 x1 y0 y1;obtain⟨⟨t0,t1,t2,t3,t4,t5⟩,⟨x0,x1⟩,y0,y1⟩:=az.o dy cJ.o.cZ;go_wp2_with fail;clear t0 t1 t2 t3 t4 t5 x0 x1 y0 y1;go_loopw [53] (fun kk wr=>∃ i:Nat,kk=.int .i64 i/\i<=la/\aI eR I (aj (BI T a b lb la I.heap.size go i 0) (aj (av (I.heap.size+1) #[.map (some I.heap.size)] 77) bG)) wr) (fun kk _=>la-(intOf kk).toNat)
   case atStart=>exact⟨0,rfl,fw _,cJ.o⟩
   case round=>
    obtain⟨i,rfl,hi,hR⟩:=hrel;have HR:=au hR;clear cJ hR;obtain⟨⟨t0,t1,t2,t3,t4,t5⟩,⟨x0,x1⟩,y0,y1⟩:=az.o wr HR.o.cZ;by_cases ag:i<la
    ·obtain⟨u,xb,xo,dT,ci⟩:=dx.o i ag;have KI:=au (fun W J j hj v hu hv=>KC.o W J i j ag hj u v hu hv);obtain⟨uw,cU⟩:∃ uw,uw=jg T a.k (wd a i):=⟨_,rfl⟩;rw[<-cU] at ci KI;have ea:=au ci;obtain⟨-,c0,c1,c2⟩:=ci wr HR.o.cZ;have cr:=au (aH HR.o aO (ff uw u) 81);clear ci cU;subst dT;unfold EM uI at KI;go_upto_region 10 with (fail);generalize wr.alloc (.cells (ff uw u) 81)=eh at *
     generalize wr.heap.size=g15 at *
     clear c0 c1 c2 t0 t1 t2 t3 t4 t5 x0 x1 y0 y1 HR;obtain⟨⟨t0,t1,t2,t3,t4,t5⟩,⟨x0,x1⟩,y0,y1⟩:=az.o eh cr.o.cZ;have dc:=au (cr.o.perm (by ac_rfl:_=aj (BI T a b lb la I.heap.size go i 0) (aj (av g15 (ff uw u) 81) (aj (av (I.heap.size+1) #[.map (some I.heap.size)] 77) bG))));clear cr;go_wp2_with fail;clear t0 t1 t2 t3 t4 t5 x0 x1 y0 y1;go_loopw [61] (fun kk wr=>∃ j:Nat,kk=.int .i64 j/\j<=lb/\aI eR I (aj (BI T a b lb la I.heap.size go i j) (aj (av g15 (ff uw u) 81) (aj (av (I.heap.size+1) #[.map (some I.heap.size)] 77) bG))) wr) (fun kk _=>lb-(intOf kk).toNat)
     case atStart=>exact⟨0,rfl,fw _,dc.o⟩
     case round=>
      obtain⟨j,rfl,hj,hR⟩:=hrel;have HR:=au hR;clear dc hR;obtain⟨⟨t0,t1,t2,t3,t4,t5⟩,⟨x0,x1⟩,y0,y1⟩:=az.o _ HR.o.cZ;by_cases be:j<lb
      ·obtain⟨v,yb,yo,ed,cq⟩:=d7.o j be;obtain⟨vw,cY⟩:∃ vw,vw=jg T b.k (wd b j):=⟨_,rfl⟩;have KJ:=au (fun W J hu hv=>KI.o W J j be v hu hv);rw[<-cY] at cq KJ;obtain⟨-,d0,d1,d2⟩:=cq _ HR.o.cZ;have d4:=au (fun W J=>(cq W J).1);have a2:=au (aH HR.o aO (ff vw v) 81);clear cq cY;subst ed;go_upto_region 13 with (fail);generalize wr.alloc (.cells (ff vw v) 81)=ch at *
       generalize wr.heap.size=ab at *
       clear d0 d1 d2 t0 t1 t2 t3 t4 t5 x0 x1 y0 y1 HR;obtain⟨⟨t0,t1,t2,t3,t4,t5⟩,⟨x0,x1⟩,y0,y1⟩:=az.o ch a2.o.cZ;obtain⟨u0,u1,u2⟩:=fO a2.o.drop.drop;obtain⟨v0,v1,v2⟩:=fO a2.o;have dd:=au (KJ.o ch a2.o.cZ (ea.o ch a2.o.cZ).1 (d4.o ch a2.o.cZ));clear KJ;go_wp2_with fail;refine dd.o.mono ?_;rintro e9 co ⟨A,pc,B,qc,rfl,hp⟩;have a5:=au (a2.o.fresh aO hp);clear dd a2 hp t0 t1 t2 t3 t4 t5 x0 x1 y0 y1 u0 u1 u2 v0 v1 v2;have a8:=au (fun D=>(aB su aO:(aj (mI A pc B qc D) (aj (av ab (ff vw v) 81) (aj (BI T a b lb la I.heap.size go i j) (aj (av g15 (ff uw u) 81) (aj (av (I.heap.size+1) #[.map (some I.heap.size)] 77) bG))))).Ok));unfold Cb;cases ho:iL T a.k (wd a i) b.k (wd b j) with
       | none=>
        have HP:=au (show BM T a b i j=⟨i,j,0,0,0,100000,P8⟩ from by unfold BM;rw[ho]);rw[ho] at a5;dsimp only[Option.getD_none,Option.isSome_none,wj,P8,lA] at a5 ⊢;clear ho;have bc:=au (aH a5.o (a8.o _) (jb 0 0 0 0 0 0 0 A 0 pc B 0 qc (bs [])) 62);clear a5;go_upto_region 14 with (fail);generalize co.alloc (.cells (jb 0 0 0 0 0 0 0 A 0 pc B 0 qc (bs [])) 62)=ct at *
        generalize co.heap.size=aa at *
        obtain⟨⟨p0,p1,p2,p3,p4⟩,⟨p5,p6,p7,p8,p9⟩,pf⟩:=kg bc.o;have bn:aI eR I (aj (av aa (jb 0 0 0 0 0 100000 0 A 0 pc B 0 qc (bs [])) 62) _) _:=aJ bc.o (a8.o _) 5 (.int .i64 100000);have br:aI eR I (aj (av aa (jb (i:Int) 0 0 0 0 100000 0 A 0 pc B 0 qc (bs [])) 62) _) _:=aJ bn (a8.o _) 0 (.int .i64 (i:Int));have dq:aI eR I (aj (av aa (jb (i:Int) (j:Int) 0 0 0 100000 0 A 0 pc B 0 qc (bs [])) 62) _) _:=aJ br (a8.o _) 1 (.int .i64 (j:Int));have bm:=au (dq);clear bn br dq;clear bc;go_upto_region 17 with (fail);generalize ((ct.setCell ⟨aa,5,none⟩ (.int .i64 100000)).setCell ⟨aa,0,none⟩ (.int .i64 (i:Int))).setCell ⟨aa,1,none⟩ (.int .i64 (j:Int))=ec at *
        clear p0 p1 p2 p3 p4 p5 p6 p7 p8 p9 pf;obtain⟨E,zs,hE,af,b4⟩:=QK (bm.o.perm (by ac_rfl:_=aj (BI T a b lb la I.heap.size go i j) (aj (av aa (jb (i:Int) (j:Int) 0 0 0 100000 0 A 0 pc B 0 qc (bs [])) 62) (aj (mI A pc B qc P8) (aj (av ab (ff vw v) 81) (aj (av g15 (ff uw u) 81) (aj (av (I.heap.size+1) #[.map (some I.heap.size)] 77) bG)))))));have am:=b4.perm (by ac_rfl:_=aj (jo (CH.eD .i64) I.heap.size (E.map lM)) (aj (av (I.heap.size+1) #[.map (some I.heap.size)] 77) (aj (av aa (jb (i:Int) (j:Int) 0 0 0 100000 0 A 0 pc B 0 qc (bs [])) 62) (aj (fU (some ⟨go,0,none⟩) la zs) (aj (aL (E.map Ae)) (aj (mI A pc B qc P8) (aj (av ab (ff vw v) 81) (aj (av g15 (ff uw u) 81) bG))))))));obtain⟨p0,p1,p2,p3,p4⟩:=(kg am.drop.drop).1;obtain⟨p5,p6,p7,p8,p9⟩:=(kg am.drop.drop).2.1;obtain⟨FG,a3⟩:=am.drop.fst;have m0:=ay (i:=0) a3 rfl;obtain⟨FM,ax,-,a0⟩:=am.take map_ok aO;obtain⟨b8,ce,an⟩:=qR Ou Tryz.underlying77 ax ((i:Int),(j:Int)) (.agg (jb (i:Int) (j:Int) 0 0 0 100000 0 A 0 pc B 0 qc (bs [])));have bb:=a0 _ _ an;dsimp only[CH.eD] at ce;have cw:zs.length=la:=by have:=congrArg List.length af;rw[gh,lH] at this;exact this
        have ai:i<zs.length:=by omega
        have a7:=au (show zs[i].l=(List.range j).map (fun s=>cM T a b i s) from by
         have h1:(zs.map (·.l))[i]?=(wO T a b lb la i j)[i]?:=by rw[af]
         rw[lz,gR ai,gR (show i<(wO T a b lb la i j).length by rw[lH];exact ag)] at h1;injection h1 with h1
         exact h1.trans (Xm ag _))
        obtain⟨bv,cz,fz⟩:=yU ai (bb.perm (by ac_rfl:_=aj (fU (some ⟨go,0,none⟩) la zs) (aj (jo (CH.eD .i64) I.heap.size (mh (E.map lM) ((i:Int),(j:Int)) (.agg (jb (i:Int) (j:Int) 0 0 0 100000 0 A 0 pc B 0 qc (bs []))))) (aj (av (I.heap.size+1) #[.map (some I.heap.size)] 77) (aj (av aa (jb (i:Int) (j:Int) 0 0 0 100000 0 A 0 pc B 0 qc (bs [])) 62) (aj (aL (E.map Ae)) (aj (mI A pc B qc P8) (aj (av ab (ff vw v) 81) (aj (av g15 (ff uw u) 81) bG)))))))));have q5:=(kg bb.drop.drop).2.1.1;have d3:(aL ((zs.eraseIdx i).map bZ.ow)).Ok:=lG (fun A hA=>by obtain⟨z,_,rfl⟩:=List.mem_map.1 hA;exact dO);have b5:=au (bv.drew aO);have ap:=au (show zs[i].l.length=j from by rw[a7.o];simp);rw[ap.o] at cz
        have bk:=au (fun (cv:Int) (A9:eV) (c9:Nat) W (hcv:(⟨i,j,0,0,0,100000,P8⟩:Pr).c=cv) (h:aI eR I (aj (aX A9 c9 (zs[i].l++[cv])) (aj (aV 39 1 (.slice (some ⟨go,0,none⟩) zs.length la) zs.length (zs.flatMap bZ.cl)) (aj (aL ((zs.eraseIdx i).map bZ.ow)) (aj (jo (CH.eD .i64) I.heap.size (mh (E.map lM) ((i:Int),(j:Int)) (.agg (jb (i:Int) (j:Int) 0 0 0 100000 0 A 0 pc B 0 qc (bs []))))) (aj (av (I.heap.size+1) #[.map (some I.heap.size)] 77) (aj (av aa (jb (i:Int) (j:Int) 0 0 0 100000 0 A 0 pc B 0 qc (bs [])) 62) (aj (aL (E.map Ae)) (aj (mI A pc B qc P8) (aj (av ab (ff vw v) 81) (aj (av g15 (ff uw u) 81) bG)))))))))) W)=>(show aI eR I (aj (BI T a b lb la I.heap.size go i (j+1)) (aj (av g15 (ff uw u) 81) (aj (av (I.heap.size+1) #[.map (some I.heap.size)] 77) bG))) (W.setCell ⟨go,i,none⟩ (.slice A9 (j+1) c9)) from by
         have k1:=BR ai (n:=j+1) (by rw[gd,ap.o];rfl) aO h;have k2:=QL (p:=⟨i,j,0,0,0,100000,P8⟩) (Y:=aj (av (I.heap.size+1) #[.map (some I.heap.size)] 77) (aj (av aa (jb (i:Int) (j:Int) 0 0 0 100000 0 A 0 pc B 0 qc (bs [])) 62) (aj (av ab (ff vw v) 81) (aj (av g15 (ff uw u) 81) bG)))) HP.o hcv hE af ag a7.o (A:=A) (pc:=pc) (B:=B) (qc:=qc) (A9:=A9) (c9:=c9) (k1.perm (by show _=aj _ (aj (jo (CH.eD .i64) I.heap.size (mh (E.map lM) ((i:Int),(j:Int)) (.agg (jb (i:Int) (j:Int) 0 0 0 100000 0 A 0 pc B 0 qc (bs []))))) (aj _ (aj (mI A pc B qc P8) _)));ac_rfl))
         exact(k2.perm (by ac_rfl:_=aj (aj (av aa (jb (i:Int) (j:Int) 0 0 0 100000 0 A 0 pc B 0 qc (bs [])) 62) (av ab (ff vw v) 81)) (aj (BI T a b lb la I.heap.size go i (j+1)) (aj (av g15 (ff uw u) 81) (aj (av (I.heap.size+1) #[.map (some I.heap.size)] 77) bG))))).drop))
        have bo:=au (fun (cv:Int) (A9:eV) (c9:Nat) W (h:aI eR I (aj (aX A9 c9 (zs[i].l++[cv])) (aj (aV 39 1 (.slice (some ⟨go,0,none⟩) zs.length la) zs.length (zs.flatMap bZ.cl)) (aj (aL ((zs.eraseIdx i).map bZ.ow)) (aj (jo (CH.eD .i64) I.heap.size (mh (E.map lM) ((i:Int),(j:Int)) (.agg (jb (i:Int) (j:Int) 0 0 0 100000 0 A 0 pc B 0 qc (bs []))))) (aj (av (I.heap.size+1) #[.map (some I.heap.size)] 77) (aj (av aa (jb (i:Int) (j:Int) 0 0 0 100000 0 A 0 pc B 0 qc (bs [])) 62) (aj (aL (E.map Ae)) (aj (mI A pc B qc P8) (aj (av ab (ff vw v) 81) (aj (av g15 (ff uw u) 81) bG)))))))))) W)=>BU ai h);generalize zs[i].A=zA at *
        generalize zs[i].c=zc at *
        generalize zs[i].l=zl at *
        clear hE af a3 ax an a0 b4 am bb bv bm cw ai fz FG FM a7;go_upto_region 18 with (fail);clear ce m0 p0 p1 p2 p3 p4 p5 p6 p7 p8 p9;refine dY [8,9,11] [2,2,1,1,1,1,0,0,1,2,2,3] (fun w'=>w'.cell? ⟨go,i,none⟩=some (.slice zA j zc)/\w'.cell? ⟨aa,5,none⟩=some (.int .i64 100000)) [(fun w'=>w'.cell? ⟨go,i,none⟩=some (.slice zA j zc)),(fun _=>True),(fun _=>True)] ⟨(fun _ h=>h.1),(fun _ _=>trivial),(fun _ h=>h),trivial⟩ eQ eQ eQ eQ (by exact⟨cz,q5⟩) ?_
        (repeat(first|refine eH ?_|refine eO ?_))
        refine bB rfl fY (fun K hK=>?_);go_wp2_with fail;have b9:(b8.drew.alloc (.cells (fL 100000) 3)).cell? ⟨go,i,none⟩=some (.slice zA j zc):=aG (w:=b8.drew) cz ((fe _ _).alloc (fy _) _);refine hK.o _ _ b9 ?_;clear hK b9
        (repeat(first|refine eH ?_|refine eO ?_))
        refine bB rfl fY (fun K hK=>?_);refine D8 (.tmp 90) (.tmp 93) rfl (l:=zl) (i:=100000) ap.o rfl rfl eL aO b5.o ?_;intro A9 c9 bz hr;have HE:=au (bk.o _ A9 c9 bz rfl hr);obtain⟨e0,e1⟩:=bo.o _ A9 c9 bz hr;rw[ap.o] at e0;refine hK.o _ _ trivial ?_;clear hK hr bk bo b5 cz q5
        (repeat(first|refine eH ?_|refine eO ?_))
        refine bB rfl fY (fun K hK=>?_);go_wp2_with fail;refine hK.o _ _ trivial (iT ?_);clear hK e0 e1;go_wp2_with fail
        go_roundw
        case rel=>exact⟨j+1,by go_num,be,HE.o⟩
        case measure=>simp[intOf];omega
       | some p=>
        have HP:=au (show BM T a b i j=⟨i,j,p.kd,p.l,p.r,p.c,p.d⟩ from by unfold BM;rw[ho]);rw[ho] at a5;dsimp only[CN,Option.isSome_some] at a5 ⊢;clear ho;have bc:=au (aH a5.o (a8.o _) (pL p A pc B qc) 62);clear a5;go_upto_region 14 with (fail);generalize co.alloc (.cells (pL p A pc B qc) 62)=ct at *
        generalize co.heap.size=aa at *
        obtain⟨⟨p0,p1,p2,p3,p4⟩,⟨p5,p6,p7,p8,p9⟩,pf⟩:=kg bc.o;have bn:aI eR I (aj (av aa (jb (i:Int) p.j p.kd p.l p.r p.c p.d.c A p.d.L.length pc B p.d.M.length qc (bs p.d.F)) 62) _) _:=aJ bc.o (a8.o _) 0 (.int .i64 (i:Int));have br:aI eR I (aj (av aa (rI i j p A pc B qc) 62) _) _:=aJ bn (a8.o _) 1 (.int .i64 (j:Int));have bm:=au (br);clear bn br;clear bc;go_upto_region 17 with (fail);generalize (ct.setCell ⟨aa,0,none⟩ (.int .i64 (i:Int))).setCell ⟨aa,1,none⟩ (.int .i64 (j:Int))=ec at *
        clear p0 p1 p2 p3 p4 p5 p6 p7 p8 p9 pf;obtain⟨E,zs,hE,af,b4⟩:=QK (bm.o.perm (by ac_rfl:_=aj (BI T a b lb la I.heap.size go i j) (aj (av aa (rI i j p A pc B qc) 62) (aj (mI A pc B qc p.d) (aj (av ab (ff vw v) 81) (aj (av g15 (ff uw u) 81) (aj (av (I.heap.size+1) #[.map (some I.heap.size)] 77) bG)))))));have am:=b4.perm (by ac_rfl:_=aj (jo (CH.eD .i64) I.heap.size (E.map lM)) (aj (av (I.heap.size+1) #[.map (some I.heap.size)] 77) (aj (av aa (rI i j p A pc B qc) 62) (aj (fU (some ⟨go,0,none⟩) la zs) (aj (aL (E.map Ae)) (aj (mI A pc B qc p.d) (aj (av ab (ff vw v) 81) (aj (av g15 (ff uw u) 81) bG))))))));obtain⟨p0,p1,p2,p3,p4⟩:=(kg am.drop.drop).1;obtain⟨p5,p6,p7,p8,p9⟩:=(kg am.drop.drop).2.1;obtain⟨FG,a3⟩:=am.drop.fst;have m0:=ay (i:=0) a3 rfl;obtain⟨FM,ax,-,a0⟩:=am.take map_ok aO;obtain⟨b8,ce,an⟩:=qR Ou Tryz.underlying77 ax ((i:Int),(j:Int)) (.agg (rI i j p A pc B qc));have bb:=a0 _ _ an;dsimp only[CH.eD] at ce;have cw:zs.length=la:=by have:=congrArg List.length af;rw[gh,lH] at this;exact this
        have ai:i<zs.length:=by omega
        have a7:=au (show zs[i].l=(List.range j).map (fun s=>cM T a b i s) from by
         have h1:(zs.map (·.l))[i]?=(wO T a b lb la i j)[i]?:=by rw[af]
         rw[lz,gR ai,gR (show i<(wO T a b lb la i j).length by rw[lH];exact ag)] at h1;injection h1 with h1
         exact h1.trans (Xm ag _))
        obtain⟨bv,cz,fz⟩:=yU ai (bb.perm (by ac_rfl:_=aj (fU (some ⟨go,0,none⟩) la zs) (aj (jo (CH.eD .i64) I.heap.size (mh (E.map lM) ((i:Int),(j:Int)) (.agg (rI i j p A pc B qc)))) (aj (av (I.heap.size+1) #[.map (some I.heap.size)] 77) (aj (av aa (rI i j p A pc B qc) 62) (aj (aL (E.map Ae)) (aj (mI A pc B qc p.d) (aj (av ab (ff vw v) 81) (aj (av g15 (ff uw u) 81) bG)))))))));have q5:=(kg bb.drop.drop).2.1.1;have d3:(aL ((zs.eraseIdx i).map bZ.ow)).Ok:=lG (fun A hA=>by obtain⟨z,_,rfl⟩:=List.mem_map.1 hA;exact dO);have b5:=au (bv.drew aO);have ap:=au (show zs[i].l.length=j from by rw[a7.o];simp);rw[ap.o] at cz
        have bk:=au (fun (cv:Int) (A9:eV) (c9:Nat) W (hcv:(⟨i,j,p.kd,p.l,p.r,p.c,p.d⟩:Pr).c=cv) (h:aI eR I (aj (aX A9 c9 (zs[i].l++[cv])) (aj (aV 39 1 (.slice (some ⟨go,0,none⟩) zs.length la) zs.length (zs.flatMap bZ.cl)) (aj (aL ((zs.eraseIdx i).map bZ.ow)) (aj (jo (CH.eD .i64) I.heap.size (mh (E.map lM) ((i:Int),(j:Int)) (.agg (rI i j p A pc B qc)))) (aj (av (I.heap.size+1) #[.map (some I.heap.size)] 77) (aj (av aa (rI i j p A pc B qc) 62) (aj (aL (E.map Ae)) (aj (mI A pc B qc p.d) (aj (av ab (ff vw v) 81) (aj (av g15 (ff uw u) 81) bG)))))))))) W)=>(show aI eR I (aj (BI T a b lb la I.heap.size go i (j+1)) (aj (av g15 (ff uw u) 81) (aj (av (I.heap.size+1) #[.map (some I.heap.size)] 77) bG))) (W.setCell ⟨go,i,none⟩ (.slice A9 (j+1) c9)) from by
         have k1:=BR ai (n:=j+1) (by rw[gd,ap.o];rfl) aO h;have k2:=QL (p:=⟨i,j,p.kd,p.l,p.r,p.c,p.d⟩) (Y:=aj (av (I.heap.size+1) #[.map (some I.heap.size)] 77) (aj (av aa (rI i j p A pc B qc) 62) (aj (av ab (ff vw v) 81) (aj (av g15 (ff uw u) 81) bG)))) HP.o hcv hE af ag a7.o (A:=A) (pc:=pc) (B:=B) (qc:=qc) (A9:=A9) (c9:=c9) (k1.perm (by show _=aj _ (aj (jo (CH.eD .i64) I.heap.size (mh (E.map lM) ((i:Int),(j:Int)) (.agg (rI i j p A pc B qc)))) (aj _ (aj (mI A pc B qc p.d) _)));ac_rfl))
         exact(k2.perm (by ac_rfl:_=aj (aj (av aa (rI i j p A pc B qc) 62) (av ab (ff vw v) 81)) (aj (BI T a b lb la I.heap.size go i (j+1)) (aj (av g15 (ff uw u) 81) (aj (av (I.heap.size+1) #[.map (some I.heap.size)] 77) bG))))).drop))
        have bo:=au (fun (cv:Int) (A9:eV) (c9:Nat) W (h:aI eR I (aj (aX A9 c9 (zs[i].l++[cv])) (aj (aV 39 1 (.slice (some ⟨go,0,none⟩) zs.length la) zs.length (zs.flatMap bZ.cl)) (aj (aL ((zs.eraseIdx i).map bZ.ow)) (aj (jo (CH.eD .i64) I.heap.size (mh (E.map lM) ((i:Int),(j:Int)) (.agg (rI i j p A pc B qc)))) (aj (av (I.heap.size+1) #[.map (some I.heap.size)] 77) (aj (av aa (rI i j p A pc B qc) 62) (aj (aL (E.map Ae)) (aj (mI A pc B qc p.d) (aj (av ab (ff vw v) 81) (aj (av g15 (ff uw u) 81) bG)))))))))) W)=>BU ai h);generalize zs[i].A=zA at *
        generalize zs[i].c=zc at *
        generalize zs[i].l=zl at *
        clear hE af a3 ax an a0 b4 am bb bv bm cw ai fz FG FM a7;go_upto_region 18 with (fail);clear ce m0 p0 p1 p2 p3 p4 p5 p6 p7 p8 p9;refine dY [8,9,11] [2,2,1,1,1,1,0,0,1,2,2,3] (fun w'=>w'.cell? ⟨go,i,none⟩=some (.slice zA j zc)/\w'.cell? ⟨aa,5,none⟩=some (.int .i64 p.c)) [(fun w'=>w'.cell? ⟨go,i,none⟩=some (.slice zA j zc)),(fun _=>True),(fun _=>True)] ⟨(fun _ h=>h.1),(fun _ _=>trivial),(fun _ h=>h),trivial⟩ eQ eQ eQ eQ (by exact⟨cz,q5⟩) ?_
        (repeat(first|refine eH ?_|refine eO ?_))
        refine bB rfl fY (fun K hK=>?_);go_wp2_with fail;have b9:(b8.drew.alloc (.cells (fL p.c) 3)).cell? ⟨go,i,none⟩=some (.slice zA j zc):=aG (w:=b8.drew) cz ((fe _ _).alloc (fy _) _);refine hK.o _ _ b9 ?_;clear hK b9
        (repeat(first|refine eH ?_|refine eO ?_))
        refine bB rfl fY (fun K hK=>?_);refine D8 (.tmp 90) (.tmp 93) rfl (l:=zl) (i:=p.c) ap.o rfl rfl eL aO b5.o ?_;intro A9 c9 bz hr;have HE:=au (bk.o _ A9 c9 bz rfl hr);obtain⟨e0,e1⟩:=bo.o _ A9 c9 bz hr;rw[ap.o] at e0;refine hK.o _ _ trivial ?_;clear hK hr bk bo b5 cz q5
        (repeat(first|refine eH ?_|refine eO ?_))
        refine bB rfl fY (fun K hK=>?_);go_wp2_with fail;refine hK.o _ _ trivial (iT ?_);clear hK e0 e1;go_wp2_with fail
        go_roundw
        case rel=>exact⟨j+1,by go_num,be,HE.o⟩
        case measure=>simp[intOf];omega
      ·obtain rfl:j=lb:=by omega
       have ei:=au (ac2 HR.o);clear HR;go_wp2_with fail
       go_roundw
       case rel=>exact⟨i+1,by go_num,ag,((ei.o.perm (by ac_rfl:_=aj (av g15 (ff uw u) 81) (aj (BI T a b j la I.heap.size go (i+1) 0) (aj (av (I.heap.size+1) #[.map (some I.heap.size)] 77) bG)))).drop)⟩
       case measure=>simp[intOf];omega
    ·obtain rfl:la=i:=by omega
     obtain⟨E,zs,hE,af,db⟩:=QK HR.o;have cQ:=db.perm (by ac_rfl:_=(aj (fU (some ⟨go,0,none⟩) la zs) (aj (jo (CH.eD .i64) I.heap.size (E.map lM)) (aj (aL (E.map Ae)) (aj (av (I.heap.size+1) #[.map (some I.heap.size)] 77) bG)))));obtain⟨FZ,cT⟩:=cQ.fst;have hM:=D6 cT;rw[af] at hM;have a4:=HN.o _ HR.o.cZ;have KO:=au (aeI (c:=la) (d:=xd) (e:=yd) a6.o bh.o b7.o hM a4.1.dr a4.2.dr);have KM:=au (fun W (J:Below wr.heap.size wr W)=>anyM (c:=la) (d:=xd) (e:=yd) a6.o bh.o b7.o (hM.below J) (a4.1.dr.below J) (a4.2.dr.below J) d5);have dj:=au (show E.map (·.1)=Gx T a b b.ws.length a.ws.length 0 from by rw[hE,a6.o,bh.o]);have di:=au cQ;clear db cQ cT FZ hM a4 hE af HR;go_wp2_with fail;refine KO.o.mono ?_;rintro e9 cS ⟨A1,c1,rfl,J,hr1⟩;have cI:=au (di.o.below aO J);have HO:=au hr1;have c7:=au (KM.o cS J);clear KO KM di J hr1 t0 t1 t2 t3 t4 t5 x0 x1 y0 y1;obtain⟨⟨t0,t1,t2,t3,t4,t5⟩,⟨x0,x1⟩,y0,y1⟩:=az.o cS cI.o.cZ;go_wp2_with fail;refine c7.o.mono ?_;rintro e9 ba ⟨A2,c2,A3,n5,c3,A4,n6,c4,rfl,J,hr2⟩;have de:=au (cI.o.below aO J);have gE:Below ba.heap.size ba (ba.alloc (.cells (gO (nD T a b) A2 (uo T a b).length c2 A3 n5 c3 A4 n6 c4) 89)):=(fe _ _).alloc (fy _) _;have aq:=au (show iF (ba.alloc (.cells (gO (nD T a b) A2 (uo T a b).length c2 A3 n5 c3 A4 n6 c4) 89)) A1 (vL T a b)/\iF (ba.alloc (.cells (gO (nD T a b) A2 (uo T a b).length c2 A3 n5 c3 A4 n6 c4) 89)) A2 (uo T a b) from⟨(HO.o.below J).below gE,hr2.below gE⟩);have a1:=au (aH de.o aO (gO (nD T a b) A2 (uo T a b).length c2 A3 n5 c3 A4 n6 c4) 89);clear c7 cI HO J hr2 gE de t0 t1 t2 t3 t4 t5 x0 x1 y0 y1;go_upto_region 24 with (fail);generalize ba.alloc (.cells (gO (nD T a b) A2 (uo T a b).length c2 A3 n5 c3 A4 n6 c4) 89)=bp at *
     generalize ba.heap.size=cm at *
     obtain⟨⟨t0,t1,t2,t3,t4,t5⟩,⟨x0,x1⟩,y0,y1⟩:=az.o bp a1.o.cZ;obtain⟨b0,b1,b2,b3,-⟩:=bq a1.o;obtain⟨FG,a3⟩:=(a1.o.perm (by ac_rfl:_=aj (av (I.heap.size+1) #[.map (some I.heap.size)] 77) (aj (av cm (gO (nD T a b) A2 (uo T a b).length c2 A3 n5 c3 A4 n6 c4) 89) (aj (fU (some ⟨go,0,none⟩) la zs) (aj (jo (CH.eD .i64) I.heap.size (E.map lM)) (aj (aL (E.map Ae)) bG)))))).fst;have cH:=ay (i:=0) a3 rfl;obtain⟨FM,ax⟩:=(a1.o.perm (by ac_rfl:_=aj (jo (CH.eD .i64) I.heap.size (E.map lM)) (aj (av (I.heap.size+1) #[.map (some I.heap.size)] 77) (aj (av cm (gO (nD T a b) A2 (uo T a b).length c2 A3 n5 c3 A4 n6 c4) 89) (aj (fU (some ⟨go,0,none⟩) la zs) (aj (aL (E.map Ae)) bG)))))).fst;have cD:=au (fun W (J:Below bp.heap.size bp W) (x y:Int)=>ac7 (map_ok.keep ax (fun i hi=>J.block i (map_ok.lt ax i hi))) x y);have cN:=au (Gu (w:=bp) (f:=eF E) (cc:=c2) aq.o.2 (by rw[Mj,<-a6.o];omega) cH cD.o (nD T a b+T.ord) true);have cG:=au (Gu (w:=bp) (f:=eF E) (cc:=c1) aq.o.1 (by rw[Mk,<-a6.o];omega) cH cD.o (jP T a b) false);have dg:=eu.1 (bW.1 ef.o).1.2.2.2.1;obtain⟨k1,k2,k3⟩:=QO b7.o;have d9:=au (Mj (T:=T) (a:=a) (b:=b));have dE:=au (Mk (T:=T) (a:=a) (b:=b));have cV:=au (show fJ T a b=if nD T a b+T.ord<jP T a b then ⟨nD T a b+T.ord,true,fE T a b 0 (uo T a b)⟩ else ⟨jP T a b,false,fE T a b 0 (vL T a b)⟩ from rfl);generalize nD T a b=ak at *
     generalize jP T a b=df at *
     generalize uo T a b=al at *
     generalize vL T a b=ol at *
     clear cH ax FM a3 FG cD aq;obtain⟨o1,o2⟩:=dg;by_cases ag:ak+T.ord<df
     ·have HX:=au (cV.o.trans (if_pos ag));clear cG;go_wp2_with fail;refine cN.o.mono ?_;rintro e9 ee ⟨A5,c5,rfl,hp⟩;have bx:=a1.o.fresh aO hp;have b6:=H8.o.fresh aO (bx.post aO);have aw:=b6.perm (by ac_rfl:_=aj (av g6 (jj 0 false none 0 0) 34) (aj (DZ A5 c5 (picks (eF E) 0 al)) (aj (aL (E.map Ae)) (aj (av cm (gO ak A2 al.length c2 A3 n5 c3 A4 n6 c4) 89) (aj (fU (some ⟨go,0,none⟩) la zs) (aj (jo (CH.eD .i64) I.heap.size (E.map lM)) (aj (av (I.heap.size+1) #[.map (some I.heap.size)] 77) (aj (av g10 (fj yA lb yc yB lb yd) 74) (aj (av g8 (fj xA la xc xB la xd) 74) (aj (av g5 (fh b.k Bn lb cb) 28) (aj (av g4 (fh a.k An la ca) 28) (aj (av w.heap.size (fN aA n1 ac aD n2 ad aE n3 ae T.drop T.ord T.ini) 25) (aj bG bG)))))))))))));obtain⟨z0,z1,z2⟩:=fO aw;obtain⟨F6,ao⟩:=aw.fst;have zf:=aM ao;have bw:=au (yV aw aO (.int .i64 (ak+T.ord)) (.bool true) (.slice A5 (picks (eF E) 0 al).length c5));clear bx b6 aw hp cN a1 H8 ao F6 t0 t1 t2 t3 t4 t5 x0 x1 y0 y1 b0 b1 b2 b3;go_wp2;obtain⟨f2,a9⟩:=bw.o.fst;refine bodyPost_ret (QN rfl rfl a9.1 rfl) rfl ?_;exact QS b7.o dj.o (Lq d9.o) HX.o bw.o
     ·have HX:=au (cV.o.trans (if_neg ag));clear cN;go_wp2_with fail;refine cG.o.mono ?_;rintro e9 ee ⟨A5,c5,rfl,hp⟩;have bx:=a1.o.fresh aO hp;have b6:=H8.o.fresh aO (bx.post aO);have aw:=b6.perm (by ac_rfl:_=aj (av g6 (jj 0 false none 0 0) 34) (aj (DZ A5 c5 (picks (eF E) 0 ol)) (aj (aL (E.map Ae)) (aj (av cm (gO ak A2 al.length c2 A3 n5 c3 A4 n6 c4) 89) (aj (fU (some ⟨go,0,none⟩) la zs) (aj (jo (CH.eD .i64) I.heap.size (E.map lM)) (aj (av (I.heap.size+1) #[.map (some I.heap.size)] 77) (aj (av g10 (fj yA lb yc yB lb yd) 74) (aj (av g8 (fj xA la xc xB la xd) 74) (aj (av g5 (fh b.k Bn lb cb) 28) (aj (av g4 (fh a.k An la ca) 28) (aj (av w.heap.size (fN aA n1 ac aD n2 ad aE n3 ae T.drop T.ord T.ini) 25) (aj bG bG)))))))))))));obtain⟨z0,z1,z2⟩:=fO aw;obtain⟨F6,ao⟩:=aw.fst;have zf:=aM ao;have bw:=au (yV aw aO (.int .i64 (df)) (.bool false) (.slice A5 (picks (eF E) 0 ol).length c5));clear bx b6 aw hp cG a1 H8 ao F6 t0 t1 t2 t3 t4 t5 x0 x1 y0 y1 b0 b1 b2 b3;go_wp2;obtain⟨f2,a9⟩:=bw.o.fst;refine bodyPost_ret (QN rfl rfl a9.1 rfl) rfl ?_;exact QS b7.o dj.o (Lq dE.o) HX.o bw.o
end Go.Proofs.YtbioiclabmbedaaGreatDoor
