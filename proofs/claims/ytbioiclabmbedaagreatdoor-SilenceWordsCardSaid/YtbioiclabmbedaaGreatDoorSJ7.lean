/- A part of the proof: lemmas. -/
import Derived.Test.YtbioiclabmbedaaGreatDoorSJ6
import Derived.Test.YtbioiclabmbedaaGreatDoorSJ3
set_option maxHeartbeats 16000000
set_option maxRecDepth 100000
set_option linter.all false
namespace Go.Proofs.YtbioiclabmbedaaGreatDoor
open Go.RowKit Go.CH Go.CH.Scr Go.CH.dh Go.CH.Mtc
open Go.ChangeMaps (setBlock)
def Xz(w:World)(k:Int)(l:Bs)(e:Ending)(w':World):Prop:=
 ∃ A c,e=.returned (.slice A (bP k l).length c)/\Below w.heap.size w w'/\fu w' A (bP k l)/\(bP k l).length<=c
theorem Je(k:Int)(s:ByteArray)(w:World)(hs:s.size<=1000000)(hz:LZ w):Calls Tryz.prog 81 #[.int .i64 k,.string s] w (Xz w k (bl s)):=by
 have h:=au (tQ k s w hs hz);have HZ:=au hz;clear hz;by_cases I:word k (bl s)=true
 ·have J:iC k (bl s)=(lower (bl s),0):=by unfold iC;rw[if_pos I]
  have e2:bC k (lower (bl s))=((aQ k (lower (bl s))).1,0):=by unfold bC;rw[if_pos (iY I)]
  have e3:bP k (bl s)=(aQ k (lower (bl s))).1:=vv I;have M:=au (fun W (hz:LZ W)=>FK k (bs (lower (bl s))) W (by rw[cO];unfold lower;rw[fY,qC];exact hs) hz);simp only[iQ] at M;unfold U0 at M;simp only[e2] at M;unfold aT at h;simp only[J] at h;unfold Xz;rw[e3];clear J e2 e3 I
  go_enter Tryz.func81,Tryz.ntmps81
  go_wp2_with fail;refine h.o.mono ?_;rintro e9 w1 ⟨rfl,hb⟩;have HB:=au hb;have aa:=au (M.o w1 (HZ.o.below hb));clear h M hb;dsimp only;go_wp2_with fail;refine aa.o.mono ?_;rintro e9 w2 ⟨A,c,rfl,hb,hA,hc⟩;have ab:=au (aC HB.o hb);have HA:=au hA;have HC:=au hc;clear aa HB hb hA hc;dsimp only;go_wp2;go_ret;exact⟨A,c,rfl,ab.o,HA.o,HC.o⟩
 ·have J:iC k (bl s)=([],1):=by unfold iC;rw[if_neg I]
  have e3:bP k (bl s)=[]:=by unfold bP;rw[if_neg I]
  unfold aT at h;simp only[J] at h;unfold Xz;rw[e3];clear J e3 I
  go_enter Tryz.func81,Tryz.ntmps81
  go_wp2_with fail;refine h.o.mono ?_;rintro e9 w1 ⟨rfl,hb⟩;have HB:=au hb;clear h hb;dsimp only;go_wp2;go_ret;exact⟨none,0,rfl,HB.o,Src.none_,fL _⟩
theorem Bq(k:Int)(x:Bs)(w:World)(hs:x.length<=1000000)(hz:LZ w):Calls Tryz.prog 81 #[.int .i64 k,.string (bs x)] w (Xz w k x):=by
 have:=Je k (bs x) w (by rw[cO];exact hs) hz;rw[iQ] at this;exact this
theorem QV(k:Int)(x:Bs)(w:World)(hs:x.length<=1000000)(hz:LZ w):Calls Tryz.prog 56 #[.int .i64 k,.string (bs x)] w (aT w (.tuple #[.string (bs (iC k x).1),.int .i64 (iC k x).2])):=by
 have:=tQ k (bs x) w (by rw[cO];exact hs) hz;rw[iQ] at this;exact this
theorem Mx:∀ l:List Bs,Lib.join l []=l.flatten
 | []=>rfl
 | x::l=>by
  rw[Lib.join_cons,FO];congr 1;unfold Lib.joinTail;congr 1;exact(nB (fun y _=>me y)).trans (Be _)
variable{w:World}{A:eV}{c n:Nat}{T:eW}{k:Int}
theorem MB{l:List Bs}(hA:fu w A l)(hc:l.length<=c)(hl:l.length<=1000000)(hf:l.flatten.length<=1000000000):
  Calls Tryz.prog 82 #[.slice A l.length c,.string ⟨#[]⟩] w (aT w (.string (bs l.flatten))):=by
 by_cases h0:0<l.length
 ·obtain⟨b,o,rfl,J⟩:=hA.at h0;have e1:((l.map bs).map (·.data.toList))=l:=by rw[qu];exact List.map_id'' (fun x=>iQ x) _
  have h:=Tryz.strings_Join b o c (l.map bs) ⟨#[]⟩ w (fun j x I=>by
   rw[lB] at I;cases M:l[j]? with
   | none=>rw[M] at I;cases I
   | some y=>
    rw[M] at I;have I:some (bs y)=some x:=I;injection I with I
    obtain⟨aa,ab⟩:=List.getElem?_eq_some_iff.1 M
    rw[J w (fe _ _) j aa,ab,I]) (by have:=J w (fe _ _) 0 h0;exact py _ _ this) (by rw[fY];omega) (by rw[fY];exact hc) (by
    rw[e1]
    show(Lib.join l []).length<=_
    rw[Mx];omega)
  rw[e1,fY] at h;refine h.mono ?_;rintro e w' ⟨rfl,hb⟩;refine⟨?_,hb⟩
  show Ending.returned (.string ⟨(Lib.join l []).toArray⟩)=_
  rw[Mx];rfl
 ·have e:l=[]:=sE eL;subst e;refine(Tryz.strings_Join_none A c ⟨#[]⟩ w).mono ?_;rintro e w' ⟨rfl,rfl⟩;exact⟨rfl,fe _ _⟩
def pJ(T:eW)(k:Int)(x:Bs):Int × Int:=if word k x&&bI T then(bQ T k x,0) else(0,1)
theorem XA{x:Bs}(hn:n<T.ds.length)(hb:∀ j (h:j<T.ds.length),j<n->¬ (T.ds[j].k=k/\T.ds[j].w=lower x))(I:T.ds[n].k=k/\T.ds[n].w=lower x):bQ T k x=T.ds[n].c:=by
 unfold bQ;have:T.ds.find? (fun d=>decide (d.k=k)&&decide (d.w=lower x))=some T.ds[n]:=by
  rw[NB];refine⟨by simp[I.1,I.2],n,hn,rfl,fun j M=>?_⟩;have:=hb j eL M;simp only[tv,Cp,decide_eq_false_iff_not];by_cases J:T.ds[j].k=k
  ·exact .inr fun h2=>this ⟨J,h2⟩
  ·exact .inl J
 rw[this]
theorem TN{x:Bs}(J:∀ j (h:j<T.ds.length),¬ (T.ds[j].k=k/\T.ds[j].w=lower x)):bQ T k x=T.drop:=by
 unfold bQ;have:T.ds.find? (fun d=>decide (d.k=k)&&decide (d.w=lower x))=none:=by
  rw[CM];intro d hd;obtain⟨j,I,rfl⟩:=List.mem_iff_getElem.1 hd;have:=J j I;simp only[gA,decide_eq_true_eq];exact this
 rw[this]
theorem yY{a:TA}(hT:jV w T a)(hz:LZ w)(k:Int)(x:Bs)(hx:x.length<=1000000):
  Calls Tryz.prog 40 #[dI T a,.int .i64 k,.string (bs x)] w (aT w (.tuple (tM (pJ T k x).1 (pJ T k x).2))):=by
 have h1:=aH (aI.begin w) aM (dN T a) 25;have I:=au (show Below w.heap.size w _ from h1.mod.below (fun _ _ h=>h));have KF:=au (QV k x (w.alloc (.cells (dN T a) 25)) hx (hz.below I.o));have KV:=au (fun W (J:Below w.heap.size w W)=>mg (hT.below J) (hz.below J))
 have M:=au (fun W (h:Below (w.alloc (.cells (dN T a) 25)).heap.size (w.alloc (.cells (dN T a) 25)) W)=>(show (l4 W w.heap.size (.slice a.A T.rs.length a.c) (.slice a.D T.ds.length a.d) (.slice a.E T.es.length a.e) (.int .i64 T.drop) (.int .i64 T.ord) (.int .i64 T.ini)) from by
  obtain⟨f,hf⟩:=(h1.below aO h).fst
  exact⟨ay hf rfl,ay hf rfl,ay hf rfl,ay hf rfl,ay hf rfl,ay hf rfl⟩))
 have a4:=au hT.ds;have aw:=au hT.ld;have a3:=au (fun (n:Nat) (hn:n<T.ds.length) J hh=>XA (T:=T) (k:=k) (x:=x) hn J hh);have ak:=au (fun J=>TN (T:=T) (k:=k) (x:=x) J);clear hT hz h1 hx;unfold dI at KV ⊢;unfold dN at I KF KV M ⊢;generalize T.rs.length=n1 at *
 obtain⟨n2,al⟩:∃ n,n=T.ds.length:=⟨_,rfl⟩;have a5:=au al;rw[<-al] at I KF KV M aw ⊢;clear al;generalize T.es.length=n3 at *
 obtain⟨aA,ac,aD,ad,aE,ae⟩:=a;dsimp only at I KF KV M a4 ⊢;by_cases hw:word k x=true
 ·have e1:iC k x=(lower x,0):=by unfold iC;rw[if_pos hw]
  have ar:=au (show bI T=true->pJ T k x=(bQ T k x,0) from fun h=>by unfold pJ;rw[hw,h];rfl);have ax:=au (show bI T=false->pJ T k x=(0,1) from fun h=>by unfold pJ;rw[hw,h];rfl);rw[e1] at KF;generalize pJ T k x=dv at *
  unfold aT at KF;clear e1 hw
  go_enter Tryz.func40,Tryz.ntmps40
  go_wp2_with fail;refine KF.o.mono ?_;rintro e9 w2 ⟨rfl,J⟩;generalize w.alloc (.cells (fh aA n1 ac aD n2 ad aE n3 ae T.drop T.ord T.ini) 25)=w1 at *
  generalize hg:w.heap.size=g3 at M ⊢;clear hg;have az:=au J;obtain⟨t0,t1,t2,t3,t4,t5⟩:=M.o _ J;have a1:=au (KV.o w2 (aC I.o J));clear KF KV J;dsimp only;go_wp2_with fail;refine a1.o.mono ?_;rintro e9 w3 ⟨rfl,J⟩;have ag:=au (aC az.o J);clear a1 az J t0 t1 t2 t3 t4 t5;dsimp only;cases hv:bI T with
  | false=>
   obtain rfl:=ax.o hv;have HF:=au (aC I.o ag.o);go_wp2;refine bodyPost_ret (results_tmp2 rfl _ _ _) rfl ?_;exact⟨rfl,HF.o⟩
  | true=>
   obtain rfl:=ar.o hv;clear hv ax ar;obtain⟨t0,t1,t2,t3,t4,t5⟩:=M.o _ ag.o;go_wp2_with fail;go_loopw [28] (fun i wr=>∃ n:Nat,i=.int .i64 n/\n<=n2/\(∀ j (h:j<T.ds.length),j<n->¬ (T.ds[j].k=k/\T.ds[j].w=lower x))/\Below w1.heap.size w1 wr) (fun i _=>n2-(intOf i).toNat)
   case atStart=>exact⟨0,rfl,fy _,fun j _ h=>absurd h (oc _),ag.o⟩
   case round=>
    clear ag t0 t1 t2 t3 t4 t5;obtain⟨n,rfl,hn,hs,ai⟩:=hrel;have aa:=au ai;have HS:=au hs;clear ai hs;by_cases a0:n<n2
    ·have am:n<T.ds.length:=by rw[<-a5.o];exact a0
     obtain⟨b,o,rfl,hc⟩:=nP.at a4.o eL;have a2:=aC I.o aa.o;obtain⟨c0,c1,c2⟩:=hc _ a2 n am;have a7:(n:Int)<1000000:=by have:=aw.o;omega
     have ab:=au (show n+1<=n2 from a0);have aq:=au (fun hh=>a3.o n am HS.o hh)
     have an:=au (fun (hh:¬ (T.ds[n].k=k/\T.ds[n].w=lower x))=>(show ∀ j (h:j<T.ds.length),j<n+1->¬ (T.ds[j].k=k/\T.ds[j].w=lower x) from fun j hj a6=>by
      by_cases e:j=n
      ·subst e;exact hh
      ·exact HS.o j hj eL))
     clear hc a2 hn HS;generalize T.ds[n]=d at *
     clear am;obtain⟨dk,dw,dc⟩:=d;dsimp only at c0 c1 c2 aq an;go_upto_region 7 with (fail);have h7:=aH (aI.begin wr) aM (vi dk (bs dw) dc) 108;obtain⟨f7,af⟩:=h7.fst;have d0:=ay (i:=0) af rfl;have d1:=ay (i:=1) af rfl;have d2:=ay (i:=2) af rfl;have ao:=au (aC aa.o (h7.mod.below (fun _ _ h=>h)));clear af f7 h7 c0 c1 c2 aa;generalize wr.alloc (.cells (vi dk (bs dw) dc) 108)=w7 at *
     generalize wr.heap.size=g11 at *
     by_cases h1:dk=k
     ·have k1:(dk==k)=true:=by simp[h1]
      by_cases h2:dw=lower x
      ·have k2:((bs dw).toList==(bs (lower x)).toList)=true:=by rw[wT];simp[h2]
       have HF:=au (show aT w (.tuple (tM (bQ T k x) 0)) (.returned (.tuple (tM dc 0))) w7 from by rw[aq.o ⟨h1,h2⟩];exact⟨rfl,aC I.o ao.o⟩);clear h1 h2;go_wp2;refine bodyPost_ret (results_tmp2 rfl _ _ _) rfl ?_;exact HF.o
      ·have k2:((bs dw).toList==(bs (lower x)).toList)=false:=by rw[wT];simpa using fun h=>h2 (Uu h)
       have ap:=au (an.o (fun h=>h2 h.2));clear h1 h2;go_wp2_with fail
       go_roundw
       case rel=>exact⟨n+1,by go_num,ab.o,ap.o,ao.o⟩
       case measure=>have:=ab.o;simp[intOf];omega
     ·have k1:(dk==k)=false:=by simp[h1]
      have ap:=au (an.o (fun h=>h1 h.1));clear h1;go_wp2_with fail
      go_roundw
      case rel=>exact⟨n+1,by go_num,ab.o,ap.o,ao.o⟩
      case measure=>have:=ab.o;simp[intOf];omega
    ·obtain⟨t0,t1,t2,t3,t4,t5⟩:=M.o _ aa.o;have HF:=au (show aT w (.tuple (tM (bQ T k x) 0)) (.returned (.tuple (tM T.drop 0))) wr from by rw[ak.o (fun j h=>HS.o j h (by have:=a5.o;omega))];exact⟨rfl,aC I.o aa.o⟩);go_wp2;refine bodyPost_ret (results_tmp2 rfl _ _ _) rfl ?_;exact HF.o
 ·have e1:iC k x=([],1):=by unfold iC;rw[if_neg hw]
  have e2:pJ T k x=(0,1):=by unfold pJ;rw[C1] at hw;rw[hw];rfl
  rw[e1] at KF;rw[e2];unfold aT at KF;clear e1 e2 hw
  go_enter Tryz.func40,Tryz.ntmps40
  go_wp2_with fail;refine KF.o.mono ?_;rintro e9 w2 ⟨rfl,J⟩;have HF:=au (aC I.o J);clear KF KV J;dsimp only;go_wp2;refine bodyPost_ret (results_tmp2 rfl _ _ _) rfl ?_;exact⟨rfl,HF.o⟩
variable{F0 F:Nat->Prop}{w0 W w':World}{a:Act}{K:Act->World->Prop}{Q:Exit->Act->World->Prop}{t e:TypeId}{g:Nat}{xs:List Value}{l:List Vr}
theorem Jm{Y:CH.aU}{o:Oper}{z:Value}{size bytes:Nat}(S:eO Tryz.prog t e z size bytes)(ac:bytes<=1000)(s x:Operand)(ho:o.op=.call { callee:=.builtin .append,args:=#[s,x],argTypes:=#[t,t] }){cs:List Value}(hsv:a.eval s=.slice A n c)(hx:a.eval x=.slice (some ⟨g,0,none⟩) 1 1)(hn:n<=1000000)(hY:Y.Ok)(h:aI F0 w0 (aj (aV e size (.slice A n c) n xs) Y) W)(h1:cs.length=size)(h2:∀ u ∈ cs,u.oneCell'=true)(hg:∀ (j:Nat) u,cs[j]?=some u->W.cell? ⟨g,j,none⟩=some u)(hK:∀ A' c' w',aI F0 w0 (aj (aV e size (.slice A' (n+1) c') (n+1) (xs++cs)) Y) w'->K (a.put o.dst (.slice A' (n+1) c')) w'):o.wp Tryz.prog a W K Q:=by
 obtain⟨F7,J,-,ad⟩:=h.take dQ hY;have M:Src W (some ⟨g,0,none⟩) 1 size cs:=by
  refine⟨by rw[h1];exact(Nat.one_mul _).symm,h2,fun _=>⟨_,rfl,fun j u hu=>?_⟩⟩;have e:(⟨g,0,none⟩:Addr).add j=⟨g,j,none⟩:=by unfold Addr.add;split<;>simp_all
  rw[e];exact hg j u hu
 refine xG s x ho S _ 0 (v:=.slice A n c) (n:=n) (xs:=xs) hsv J.1 (A:=some ⟨g,0,none⟩) (m:=1) (c:=1) (news:=cs) hx M (by unfold maxLen;omega) (by
  have:(n+1)*bytes<=(n+1)*1000:=Nat.mul_le_mul_left _ ac
  omega) (fy _) ?_
 intro v8 w8 I ab aa;have S8:=ad _ _ (jk J I ab aa);obtain⟨A8,c8,rfl⟩:=iy I;exact hK A8 c8 w8 S8
def lM(v:Vr):List Value:=[.string (bs v.w),.int .i64 v.e,.int .i64 v.c]
theorem El(l:List Vr):∀ u ∈ l.flatMap lM,u.oneCell'=true:=by
 intro u hu;obtain⟨x,-,hx⟩:=List.mem_flatMap.1 hu;unfold lM at hx;simp only[np,sb,or_false] at hx;rcases hx with rfl|rfl|rfl<;>rfl
def jY(A:eV)(c:Nat)(l:List Vr):CH.aU:=aV 159 3 (.slice A l.length c) l.length (l.flatMap lM)
theorem Em:(jY A c l).Ok:=dQ
instance {A:eV} {c:Nat} {l:List Vr}:(jY A c l).Ok:=Em
abbrev TP(w:World)(A:eV)(l:List Vr):Prop:=sI lM 3 w A l
theorem OJ(h:jY A c l w F):TP w A l:=iK h (El l)
theorem aev:eO Tryz.prog 79 159 (.agg (l3 ⟨#[]⟩ 0 0)) 3 32:=⟨Tryz.underlying79,by kernel_rfl,by decide,by decide⟩
theorem XO{x:Vr}(hn:l.length=n):aV 159 3 (.slice A (n+1) c) (n+1) (l.flatMap lM++lM x)=jY A c (l++[x]):=by
 subst hn;unfold jY;rw[uu,gj,pD,vq]
theorem abh{p:Vr}:bT W eR (jY (some ⟨W.heap.size,0,none⟩) 1 [p]) (W.alloc (.cells (lM p).toArray 159)):=by
 refine vH ⟨rfl,.inr ⟨W.heap.size,1,(lM p).toArray,rfl,fL _,heap_alloc_new W _,fL _,by decide,rfl,rfl⟩⟩ ((fe _ _).alloc (fL _) _)
theorem Rb(hb:Below w.heap.size w w'):bT w eR (jY none 0 []) w':=⟨fun _=>False,gu _ _ _,Mod.of_below hb,fun i hi=>hi.elim⟩
def pK(T:eW)(k:Int)(x:Bs):List Vr × Int:=if word k x&&bI T then(fq T k x,0) else([],1)
def wV(w:World)(T:eW)(k:Int)(x:Bs)(e:Ending)(w':World):Prop:=
 ∃ A c,e=.returned (.tuple (pC A (pK T k x).1.length c (pK T k x).2))/\bT w eR (jY A c (pK T k x).1) w'
def iF(T:eW)(k:Int)(x:Bs)(n:Nat):List Vr:=⟨(bP k x).flatten,-1,0⟩::(T.es.zipIdx.take n).filterMap (j6 k (bP k x))
theorem G6{x:Bs}:iF T k x 0=[⟨(bP k x).flatten,-1,0⟩]:=by unfold iF;rw[List.take_zero];rfl
theorem XP{x:Bs}(h:T.es.length<=n):iF T k x n=fq T k x:=by
 unfold iF fq;rw[tP (by rw[xF];exact h)]
theorem TQ{x:Bs}(h:n<T.es.length):iF T k x (n+1)=iF T k x n++(match j6 k (bP k x) (T.es[n],n) with|some v=>[v]|none=>[]):=by
 unfold iF;have J:n<T.es.zipIdx.length:=by rw[xF];exact h
 rw[kq J,sS,pd];congr 2;rw[List.getElem_zipIdx,mB];cases I:j6 k (bP k x) (T.es[n],n) with
 | none=>simp[I]
 | some v=>simp[I]
theorem XQ{x:Bs}:(iF T k x n).length<=n+1:=by
 unfold iF;rw[jz];have h1:=zd (j6 k (bP k x)) (T.es.zipIdx.take n);have h2:(T.es.zipIdx.take n).length<=n:=by rw[kt];omega
 omega
theorem ze{x:Bs}:((bP k x).take n).flatten.length<=x.length:=by
 have h:((bP k x).take n).flatten.length<=(bP k x).flatten.length:=by
  have:=ua n (bP k x)
  conv=>rhs;rw[<-this,zz,gj]
  omega
 by_cases I:word k x=true
 ·rw[vB I] at h;unfold lower at h;rw[fY] at h;exact h
 ·unfold bP at h ⊢;rw[if_neg I] at h ⊢;simp
variable{X:CH.aU}{a b c:Value}{l:List Bs}{d:Drop}
theorem dW{d e f:Value}(h:aI F0 w0 (aj (av g #[a,b,c,d,e,f] t) X) w):(l4 w g a b c d e f):=by
 obtain⟨F,hF⟩:=h.fst;exact⟨ay hF rfl,ay hF rfl,ay hF rfl,ay hF rfl,ay hF rfl,ay hF rfl⟩
theorem fF(h:aI F0 w0 (aj (av g #[a,b,c] t) X) w):(Dd w g a b c):=by
 obtain⟨F,hF⟩:=h.fst;exact⟨ay hF rfl,ay hF rfl,ay hF rfl⟩
theorem abj{m:Nat}(h1:d.k=k)(hm:m+(bP k d.w).length=l.length)(h0:0<m)(h2:l.drop m=bP k d.w):j6 k l (d,n)=some ⟨(l.take m).flatten,n,d.c⟩:=by
 unfold j6;have e:l.length-(bP k d.w).length=m:=by omega
 simp only[e];rw[if_pos ⟨h1,by omega,h2⟩]
theorem abk(h1:d.k≠k):j6 k l (d,n)=none:=by
 unfold j6;rw[if_neg (fun h=>h1 h.1)]
theorem abl(h1:¬ (bP k d.w).length<l.length):j6 k l (d,n)=none:=by
 unfold j6;rw[if_neg (fun h=>h1 h.2.1)]
theorem abm{m:Nat}(hm:m+(bP k d.w).length=l.length)(h2:¬ l.drop m=bP k d.w):j6 k l (d,n)=none:=by
 unfold j6;have e:l.length-(bP k d.w).length=m:=by omega
 simp only[e];rw[if_neg (fun h=>h2 h.2.2)]
theorem zh{a:TA}(hT:jV w T a)(hz:LZ w)(k:Int)(x:Bs)(hx:x.length<=1000000):
  Calls Tryz.prog 55 #[dI T a,.int .i64 k,.string (bs x)] w (wV w T k x):=by
 have h1:=aH (aI.begin w) aM (dN T a) 25;have H1:=au h1;have KL:=au (Bq k x (w.alloc (.cells (dN T a) 25)) hx (hz.below (h1.mod.below (fun _ _ h=>h))));have b9:=au (fun W (J:Below w.heap.size w W) (y:Bs) (hy:y.length<=1000000)=>Bq k y W hy (hz.below J));have KV:=au (fun W (J:Below w.heap.size w W)=>mg (hT.below J) (hz.below J));have ba:=au hT.es;have a4:=au hT.le;have ca:=au hT.se;have HX:=au hx;have af:=au (fun W X (h:aI eR w X W)=>(show Below w.heap.size w W from h.mod.below (fun _ _ h=>h)));clear hT hz h1 hx;unfold dI at KV ⊢;unfold dN at H1 KL KV ⊢;generalize T.rs.length=n1 at *
 generalize T.ds.length=n2 at *
 obtain⟨n3,ax⟩:∃ n,n=T.es.length:=⟨_,rfl⟩;have a7:=au ax;rw[<-ax] at H1 KL KV a4 ⊢;clear ax;obtain⟨aA,ac,aD,ad,aE,ae⟩:=a;dsimp only at H1 KL KV ba ⊢;by_cases hw:word k x=true
 ·have bh:=nI hw
  have a8:=au (show bI T=true->∀ W' A c,bT w eR (jY A c (fq T k x)) W'->wV w T k x (.returned (.tuple (pC A (fq T k x).length c 0))) W' from fun h W' A c hp=>by
   have e:pK T k x=(fq T k x,0):=by unfold pK;rw[hw,h];rfl
   exact⟨A,c,by rw[e],by rw[e];exact hp⟩)
  have ao:=au (show bI T=false->∀ W',Below w.heap.size w W'->wV w T k x (.returned (.tuple (pC none 0 0 1))) W' from fun h W' J=>by
   have e:pK T k x=([],1):=by unfold pK;rw[hw,h];rfl
   exact⟨none,0,by rw[e];rfl,by rw[e];exact Rb J⟩)
  clear hw
  go_enter Tryz.func55,Tryz.ntmps55
  go_wp2_with fail;refine KL.o.mono ?_;rintro e9 w2 ⟨A,c,rfl,J,hA,hc⟩;have H2:=au (H1.o.below aO J);have HA:=au hA;have HC:=au hc;clear KL J hA H1;generalize w.heap.size=g3 at H2 ⊢;obtain⟨nl,az⟩:∃ n,n=(bP k x).length:=⟨_,rfl⟩;have M:=au az;rw[<-az] at hc bh ⊢;clear az;have t0:((nl:Int)==0)=false:=by simp;omega
  obtain⟨b0,b1,b2,b3,b4,b5⟩:=dW H2.o;have bk:=au (KV.o w2 (af.o _ _ H2.o));clear KV;dsimp only;go_wp2_with fail;refine bk.o.mono ?_;rintro e9 w3 ⟨rfl,J⟩;have H3:=au (H2.o.below aO J);have a1:=au (aZ HA.o J);clear bk H2 HA J b0 b1 b2 b3 b4 b5;dsimp only;cases hv:bI T with
  | false=>
   have HF:=au (ao.o hv _ (af.o _ _ H3.o));go_wp2;refine bodyPost_ret (results_tmp2 rfl _ _ _) rfl ?_;exact HF.o
  | true=>
   have cc:=au (a8.o hv);clear hv ao a8
   have KJ:=au (show Calls Tryz.prog 82 #[.slice A nl c,.string ⟨#[]⟩] w3 (aT w3 (.string (bs (bP k x).flatten))) from by
    have:=MB (c:=c) a1.o HC.o (by rw[<-M.o];omega) (by
     have:=ze (k:=k) (x:=x) (n:=(bP k x).length);rw[kz] at this;have:=HX.o
     omega)
    rw[<-M.o] at this
    exact this)
   go_wp2_with fail;refine KJ.o.mono ?_;rintro e9 w4 ⟨rfl,J⟩;have H4:=au (H3.o.below aO J);have bi:=au (aZ a1.o J);clear KJ H3 a1 J;dsimp only;go_upto_region 5 with (fail);have bo:=au (fun W (h:Below w4.heap.size w4 W)=>dW (H4.o.below aO h));have aq:=au (fun W X (h:aI eR w4 X W)=>(show Below w.heap.size w W from(af.o _ _ H4.o).trans ((h.mod.below (fun _ _ h=>h)).mono (af.o _ _ H4.o).size)));have b8:=au (fun W X (h:aI eR w4 X W)=>(show Below w4.heap.size w4 W from h.mod.below (fun _ _ h=>h)));have bf:=au (fun W X (h:aI eR w4 X W)=>(show fu W A (bP k x) from aZ bi.o (h.mod.below (fun _ _ h=>h))));have bv:=au (fun W A' c' (l:List Vr) (h:aI eR w4 (aj (jY A' c' l) bG) W)=>(show bT w eR (jY A' c' l) W from((H4.o.fresh aO (h.swap.drop.post Em)).swap.drop).post Em));have br:=(aI.begin w4).fresh aM (abh (p:=⟨(bP k x).flatten,-1,0⟩));have H5:=au (show aI eR w4 (aj (jY (some ⟨w4.heap.size,0,none⟩) 1 (iF T k x 0)) bG) (w4.alloc (.cells (l3 (bs (bP k x).flatten) (-1) 0) 159)) from by rw[G6];exact br);have e0:=au (show(1:Nat)=(iF T k x 0).length by rw[G6];rfl);clear br H4 bi af;generalize w4.alloc (.cells (l3 (bs (bP k x).flatten) (-1) 0) 159)=w5 at *
   generalize (⟨w4.heap.size,0,none⟩:Addr)=a9 at *
   obtain⟨b0,b1,b2,b3,b4,b5⟩:=bo.o _ (b8.o _ _ H5.o);go_wp2_with fail;go_loopw [9,32] (fun v kk wr=>∃ (n:Nat) (A':eV) (c':Nat),kk=.int .i64 n/\n<=n3/\v=.slice A' (iF T k x n).length c'/\aI eR w4 (aj (jY A' c' (iF T k x n)) bG) wr) (fun _ kk _=>n3-(intOf kk).toNat)
   case atStart=>exact⟨0,_,1,rfl,fy _,by rw[<-e0.o],H5.o⟩
   case round=>
    clear H5 e0 b0 b1 b2 b3 b4 b5;obtain⟨n,A',c',rfl,hn,rfl,hR⟩:=hrel;have HR:=au hR;clear hR;by_cases ag:n<n3
    ·have ap:n<T.es.length:=by rw[<-a7.o];exact ag
     obtain⟨b,o,rfl,bc⟩:=nP.at ba.o eL;obtain⟨c0,c1,c2⟩:=bc _ (aq.o _ _ HR.o) n ap;have cg:(n:Int)<1000000:=by have:=a4.o;omega
     have ab:=au (show n+1<=n3 from ag);have bn:=au (ca.o _ (gw ap));have aa:=au (TQ (T:=T) (k:=k) (x:=x) ap);have bx:=au (XQ (T:=T) (k:=k) (x:=x) (n:=n));clear bc hn;generalize T.es[n]=d at *
     clear ap;obtain⟨dk,dw,dc⟩:=d;dsimp only at c0 c1 c2 bn;go_upto_region 8 with (fail);have H7:=au (aH HR.o aO (vi dk (bs dw) dc) 108);clear c0 c1 c2 HR;generalize wr.alloc (.cells (vi dk (bs dw) dc) 108)=w7 at *
     generalize wr.heap.size=g11 at *
     obtain⟨d0,d1,d2⟩:=fF H7.o;by_cases ak:dk=k
     ·have k1:(dk != k)=false:=by simp[ak]
      have KD:=au (b9.o w7 (aq.o _ _ H7.o) dw bn.o);have bz:=au ak;clear ak;go_wp2_with fail;refine KD.o.mono ?_;rintro e9 w8 ⟨A2,c2,rfl,J,hA2,hc2⟩;have H8:=au (H7.o.below aO J);have a3:=au hA2;clear KD H7 J hA2 d0 d1 d2;obtain⟨d0,d1,d2⟩:=fF H8.o;obtain⟨ne,an⟩:∃ n,n=(bP k dw).length:=⟨_,rfl⟩;have am:=au an;rw[<-an] at hc2 ⊢;have cd:ne<=12:=by
       rw[an];by_cases bp:word k dw=true
       ·exact(nI bp).2
       ·unfold bP;rw[if_neg bp];exact fy _
      clear an;dsimp only;by_cases ce:ne<nl
      ·obtain⟨m,hm⟩:∃ m,m+ne=nl:=⟨nl-ne,by omega⟩;have HM:=au hm;have tw:wrap64 ((nl:Int)-(ne:Int))=(m:Int):=by rw[qk _ eL];omega
       have t1:decide (0<(m:Int))=true:=decide_eq_true eL;have cj:decide (0<m)=true:=decide_eq_true eL;have b7:0<m:=by omega
       have bw:∀ W',(Instr.slice 26 (.slice A nl c) (some (.int .i64 (m:Int))) none none).run Tryz.prog W'=.ok (.slice (oo A c m 1) (nl-m) (c-m)) W':=fun W'=>jG zI A nl c m .i64 (m:Int) rfl eL W'
       have KE:=au (show Calls Tryz.prog 83 #[.slice (oo A c m 1) (nl-m) (c-m),.slice A2 ne c2] w8 (aT w8 (.bool (decide ((bP k x).drop m=bP k dw)))) from by
        have:=Gi (c:=c-m) (d:=c2) (Iu (bf.o _ _ H8.o) (show m<=(bP k x).length by rw[<-M.o];omega) HC.o) a3.o (by rw[k8,<-M.o];omega) (by rw[<-am.o];omega);rw[k8,<-M.o,<-am.o] at this
        exact this)
       have te:(nl:Int)-(ne:Int)=(m:Int):=by omega
       clear hm tw;go_upto_region 11 with (fail);clear te;go_wp2_with fail;refine KE.o.mono ?_;rintro e9 w9 ⟨rfl,J⟩;have H9:=au (H8.o.below aO J);clear KE bw H8 a3 J d0 d1 d2;dsimp only;by_cases ai:(bP k x).drop m=bP k dw
       ·rw[decide_eq_true ai]
        have I:=au (show iF T k x (n+1)=iF T k x n++[⟨((bP k x).take m).flatten,n,dc⟩] from by
         rw[aa.o,abj bz.o (by have:=HM.o;have:=M.o;have:=am.o;dsimp only;omega) b7 ai])
        have bb:=au (fun W (J:Below w9.heap.size w9 W)=>(show Calls Tryz.prog 82 #[.slice A m c,.string ⟨#[]⟩] W (aT W (.string (bs ((bP k x).take m).flatten))) from by
         have ag:((bP k x).take m).length=m:=by rw[kt,<-M.o];have:=HM.o;omega
         have:=MB (c:=c) (Kv m (aZ (bf.o _ _ H9.o) J)) (by rw[ag];have:=HM.o;have:=HC.o;have:=M.o;omega) (by rw[ag];have:=HM.o;omega) (by
          have:=ze (k:=k) (x:=x) (n:=m);have:=HX.o
          omega)
         rw[ag] at this
         exact this))
        have bj:∀ W',(Instr.slice 26 (.slice A nl c) none (some (.int .i64 (m:Int))) none).run Tryz.prog W'=.ok (.slice A m c) W':=fun W'=>yI zI A nl c m .i64 (m:Int) rfl (by have:=HM.o;omega) W';have aw:=au (H9.o.drew aO);have bu:(iF T k x n).length<=1000000:=by have:=bx.o;omega
        have be:=(fe w9.heap.size w9).drew;have a5:=au (bb.o _ be);clear ai aa be;go_upto_region 12 with (fail);refine eD [4,9,10] [2,0,0,0,1,1,1,1,1,2,3,3] (fun w'=>w'.cell? ⟨g11,2,none⟩=some (.int .i64 dc)) [fun w'=>w'.cell? ⟨g11,2,none⟩=some (.int .i64 dc),fun _=>True,fun _=>True] ⟨fun _ h=>h,fun _ _=>trivial,fun _ _=>trivial,trivial⟩ rfl eQ eQ eQ (fF aw.o).2.2 ?_;generalize World.drew _=cf at *
        clear H9 bb
        (repeat(first|refine eT ?_|refine eU ?_))
        refine bB rfl gh (fun K hK=>?_);go_wp2_with fail;refine a5.o.mono ?_;rintro e9 bm ⟨rfl,J⟩;have ar:=au (aw.o.below aO J);clear a5 aw J bj;dsimp only;refine hK.o _ _ (fF ar.o).2.2 ?_;clear hK
        (repeat(first|refine eT ?_|refine eU ?_))
        refine bB rfl gh (fun K hK=>?_);go_wp2_with fail;have a2:=au (aH ar.o aO (l3 (bs ((bP k x).take m).flatten) (n:Int) dc) 159);clear ar;generalize bm.alloc (.cells (l3 (bs ((bP k x).take m).flatten) (n:Int) dc) 159)=ci at *
        generalize bm.heap.size=gN at *
        refine hK.o _ _ trivial ?_;clear hK
        (repeat(first|refine eT ?_|refine eU ?_))
        refine bB rfl gh (fun K hK=>?_);obtain⟨p0,p1,p2⟩:=fF a2.o
        refine Jm aev eS (.tmp 59) (.tmp 68) rfl (A:=A') (c:=c') (n:=(iF T k x n).length) (g:=gN) (xs:=(iF T k x n).flatMap lM) (cs:=lM ⟨((bP k x).take m).flatten,n,dc⟩) rfl rfl bu aO (a2.o.perm (by unfold jY;ac_rfl:_=aj (aV 159 3 (.slice A' (iF T k x n).length c') (iF T k x n).length ((iF T k x n).flatMap lM)) (aj (av gN (l3 (bs ((bP k x).take m).flatten) (n:Int) dc) 159) (aj (av g11 (vi dk (bs dw) dc) 108) bG)))) rfl (fun u hu=>El [⟨((bP k x).take m).flatten,n,dc⟩] u (by simpa[lM] using hu)) (fun j u hu=>by
         unfold lM at hu
         match j,hu with
         | 0,hu=>simp at hu;subst hu;exact p0
         | 1,hu=>simp at hu;subst hu;exact p1
         | 2,hu=>simp at hu;subst hu;exact p2
         | j+3,hu=>simp at hu) ?_
        intro A9 c9 ch al;rw[XO rfl] at al;have cb:=au al;clear al a2 p0 p1 p2;refine hK.o _ _ trivial ?_;clear hK
        (repeat(first|refine eT ?_|refine eU ?_))
        refine iV ?_;have a6:(iF T k x n).length+1=(iF T k x (n+1)).length:=by rw[I.o,gj];rfl
        rw[a6];clear a6;go_wp2_with fail
        go_roundw
        case rel=>exact⟨n+1,A9,c9,by go_num,ab.o,rfl,by rw[I.o];exact(cb.o.perm (by ac_rfl:_=aj (av gN (l3 (bs ((bP k x).take m).flatten) (n:Int) dc) 159) (aj (av g11 (vi dk (bs dw) dc) 108) (aj (jY A9 c9 (iF T k x n++[⟨((bP k x).take m).flatten,n,dc⟩])) bG)))).drop.drop⟩
        case measure=>have:=ab.o;simp[intOf];omega
       ·rw[decide_eq_false ai]
        have I:=au (show iF T k x (n+1)=iF T k x n from by
         rw[aa.o,abm (by have:=HM.o;have:=M.o;have:=am.o;dsimp only;omega) ai,mT])
        clear ai aa;go_wp2_with fail
        go_roundw
        case rel=>exact⟨n+1,A',c',by go_num,ab.o,by rw[I.o],by rw[I.o];exact H9.o.drop⟩
        case measure=>have:=ab.o;simp[intOf];omega
      ·have tw:wrap64 ((nl:Int)-(ne:Int))=(nl:Int)-(ne:Int):=qk _ eL;have t1:decide (0<(nl:Int)-(ne:Int))=false:=decide_eq_false eL
       have I:=au (show iF T k x (n+1)=iF T k x n from by
        rw[aa.o,abl (by have:=M.o;have:=am.o;dsimp only;omega),mT])
       clear aa a3;go_wp2_with fail
       go_roundw
       case rel=>exact⟨n+1,A',c',by go_num,ab.o,by rw[I.o],by rw[I.o];exact H8.o.drop⟩
       case measure=>have:=ab.o;simp[intOf];omega
     ·have k1:(dk != k)=true:=by simp[ak]
      have I:=au (show iF T k x (n+1)=iF T k x n from by
       rw[aa.o,abk ak,mT])
      clear ak aa;go_wp2_with fail
      go_roundw
      case rel=>exact⟨n+1,A',c',by go_num,ab.o,by rw[I.o],by rw[I.o];exact H7.o.drop⟩
      case measure=>have:=ab.o;simp[intOf];omega
    ·have a0:=XP (T:=T) (k:=k) (x:=x) (n:=n) (by have:=a7.o;omega);have HF:=au (cc.o wr A' c' (by rw[<-a0];exact bv.o _ _ _ _ HR.o));rw[a0];clear a0 HR;go_wp2;refine bodyPost_ret (results_tmp2 rfl _ _ _) rfl ?_;exact HF.o
 ·have b6:bP k x=[]:=by unfold bP;rw[if_neg hw]
  have e2:pK T k x=([],1):=by unfold pK;rw[C1] at hw;rw[hw];rfl
  have ao:=au (show ∀ W',Below w.heap.size w W'->wV w T k x (.returned (.tuple (pC none 0 0 1))) W' from fun W' J=>⟨none,0,by rw[e2];rfl,by rw[e2];exact Rb J⟩);unfold Xz at KL;rw[b6] at KL;clear e2 hw
  go_enter Tryz.func55,Tryz.ntmps55
  go_wp2_with fail;refine KL.o.mono ?_;rintro e9 w2 ⟨A,c,rfl,J,hA,hc⟩;have HF:=au (af.o _ _ (H1.o.below aO J));clear KL KV J hA hc;dsimp only;simp only[lL];go_wp2;refine bodyPost_ret (results_tmp2 rfl _ _ _) rfl ?_;exact ao.o _ HF.o
structure WW where
 V:eV
 vc:Nat
 L:eV
 lc:Nat
structure wW where
 k:Int
 vs:List Vr
 ls:List Bs
def jf(T:eW)(k:Int)(x:Bs):wW:=⟨k,fq T k x,bP k x⟩
def S7:wW:=⟨0,[],[]⟩
def sD(u:wW)(a:WW):Array Value:=(ij u.k a.V u.vs.length a.vc a.L u.ls.length a.lc)
def wX(u:wW)(a:WW):Value:=.agg (sD u a)
structure lT(w:World)(u:wW)(a:WW):Prop where
 vs:TP w a.V u.vs
 ls:fu w a.L u.ls
variable{v:Value}
theorem lT.below{u:wW}{a:WW}(h:lT w u a)(hb:Below w.heap.size w w'):lT w' u a:=⟨h.vs.below hb,aZ h.ls hb⟩
def pO(T:eW)(k:Int)(x:Bs):wW × Bool:=if word k x&&bI T then(jf T k x,true) else(S7,false)
def pV(u:wW)(a:WW):CH.aU:=aj (jY a.V a.vc u.vs) (gD a.L a.lc u.ls)
theorem zi{u:wW}{a:WW}:(pV u a).Ok:=aB Em iG
instance {u:wW} {a:WW}:(pV u a).Ok:=zi
theorem XR{u:wW}{a:WW}(h:pV u a w F):lT w u a:=by
 obtain⟨F1,F2,h1,h2,-,-⟩:=h;exact⟨OJ h1,oN h2⟩
theorem XT(J:Below w.heap.size w w'):bT w eR (aj (jY none 0 []) (gD none 0 [])) w':=by
 have I:=((aI.begin w).below aM J).fresh aM (⟨fun _=>False,gu _ _ _,Mod.refl _ _,fun i hi=>.inl hi⟩:bT _ eR (jY none 0 []) _);have h:=I.fresh aO (⟨fun _=>False,gu _ _ _,Mod.refl _ _,fun i hi=>.inl hi⟩:bT _ eR (gD none 0 []) _);exact((h.perm (by ac_rfl:_=aj bG (aj (jY none 0 []) (gD none 0 [])))).drop).post aO
def En(w:World)(T:eW)(k:Int)(x:Bs)(e:Ending)(w':World):Prop:=
 ∃ a:WW,e=.returned (.tuple #[wX (pO T k x).1 a,.bool (pO T k x).2])/\bT w eR (pV (pO T k x).1 a) w'
theorem Tb{tmps:Array Value}{cs:Array Value}(h:tmps.getD 6 undef=.pointer (some ⟨g,0,none⟩))(M:cs.size=3)(J:w.heap[g]?=some (.cells cs 81))(I:tmps.getD 7 undef=v):(results Tryz.f35 tmps).run Tryz.prog w=.ok (.tuple #[.agg cs,v]) w:=by
 subst I;exact cZ rfl tmps w g 81 cs (0,0) h J Tryz.underlying81 (by rw[M];kernel_rfl)
theorem Eo{a:TA}(hT:jV w T a)(hz:LZ w)(k:Int)(x:Bs)(hx:x.length<=1000000):
  Calls Tryz.prog 35 #[dI T a,.int .i64 k,.string (bs x)] w (En w T k x):=by
 have h1:=aH (aI.begin w) aM (dN T a) 25;have h2:=aH h1 aO (ij 0 none 0 0 none 0 0) 81;rw[ik] at h2;have H2:=au h2;have ag:=au (fun W X (h:aI eR w X W)=>(show Below w.heap.size w W from h.mod.below (fun _ _ h=>h)));have af:Below w.heap.size w _:=h2.mod.below (fun _ _ h=>h);have KV:=au (zh (hT.below af) (hz.below af) k x hx);have KF:=au (fun W (hb:Below w.heap.size w W)=>QV k x W hx (hz.below hb));have KL:=au (fun W (hb:Below w.heap.size w W)=>ji k (bs (lower x)) W (by rw[cO];unfold lower;rw[fY];exact hx) (hz.below hb));simp only[iQ] at KL;clear hT hz h1 h2 af hx;unfold dI at KV ⊢;unfold dN at H2 KV ⊢;generalize T.rs.length=n1 at *
 generalize T.ds.length=n2 at *
 generalize T.es.length=n3 at *
 obtain⟨aA,ac,aD,ad,aE,ae⟩:=a;dsimp only at H2 KV ⊢;by_cases J:(word k x&&bI T)=true
 ·have hw:word k x=true:=by rw[gA] at J;exact J.1
  have e1:pK T k x=(fq T k x,0):=by unfold pK;rw[if_pos J]
  have e2:iC k x=(lower x,0):=by unfold iC;rw[if_pos hw]
  have e3:bC k (lower x)=(bP k x,0):=by unfold bC;rw[if_pos (iY hw),vv hw]
  have HF:=au (show ∀ (W:World) V vc L lc,bT w eR (aj (jY V vc (fq T k x)) (gD L lc (bP k x))) W->En w T k x (.returned (.tuple #[.agg (ij k V (fq T k x).length vc L (bP k x).length lc),.bool true])) W from fun W V vc L lc hb=>by
   have e:pO T k x=(jf T k x,true):=by unfold pO;rw[if_pos J]
   exact⟨⟨V,vc,L,lc⟩,by rw[e];rfl,by rw[e];exact hb⟩)
  unfold wV at KV;rw[e1] at KV;unfold aT at KF;simp only[e2] at KF;unfold mR at KL;simp only[e3] at KL;clear e1 e2 e3 hw J
  go_enter Tryz.func35,Tryz.ntmps35
  go_wp2_with fail;refine KV.o.mono ?_;rintro e9 w2 ⟨V,vc,rfl,hp⟩;have H3:=au (H2.o.fresh aO hp);have ak:=au (KF.o w2 (ag.o _ _ H3.o));clear KV KF H2 hp;dsimp only;generalize am:(fq T k x).length=nv at *
  clear am;go_wp2_with fail;refine ak.o.mono ?_;rintro e9 w3 ⟨rfl,hb⟩;have H4:=au (H3.o.below aO hb);have al:=au (KL.o w3 (ag.o _ _ H4.o));clear ak KL H3 hb;dsimp only;go_wp2_with fail;refine al.o.mono ?_;rintro e9 w4 ⟨L,lc,rfl,hp⟩;have H5:=au ((H4.o.fresh aO hp).perm (by ac_rfl:_=aj (av (w.heap.size+1) (ij 0 none 0 0 none 0 0) 81) (aj (gD L lc (bP k x)) (aj (jY V vc (fq T k x)) (aj (av w.heap.size (fh aA n1 ac aD n2 ad aE n3 ae T.drop T.ord T.ini) 25) bG)))));clear al H4 hp;dsimp only;generalize an:(bP k x).length=nl at *
  clear an;obtain⟨f1,I⟩:=H5.o.fst;have c0:=ay (i:=0) I rfl;have c1:=ay (i:=1) I rfl;have c2:=ay (i:=2) I rfl;have cf:=aN I;clear I f1;have M:=aJ H5.o aO 0 (.int .i64 k);have ab:=aJ M aO 1 (.slice V nv vc);have aa:=aJ ab aO 2 (.slice L nl lc);have H6:=au (show aI eR w (aj (av (w.heap.size+1) (ij k V nv vc L nl lc) 81) (aj (gD L lc (bP k x)) (aj (jY V vc (fq T k x)) (aj (av w.heap.size (fh aA n1 ac aD n2 ad aE n3 ae T.drop T.ord T.ini) 25) bG)))) (((w4.setCell ⟨w.heap.size+1,0,none⟩ (.int .i64 k)).setCell ⟨w.heap.size+1,1,none⟩ (.slice V nv vc)).setCell ⟨w.heap.size+1,2,none⟩ (.slice L nl lc)) from aa);clear M ab aa H5;go_wp2;obtain⟨f2,ai⟩:=H6.o.fst;refine bodyPost_ret (Tb rfl rfl ai.1 rfl) rfl ?_;exact HF.o _ _ _ _ _ (((H6.o.perm (by ac_rfl:_=aj (aj (av (w.heap.size+1) (ij k V nv vc L nl lc) 81) (aj (av w.heap.size (fh aA n1 ac aD n2 ad aE n3 ae T.drop T.ord T.ini) 25) bG)) (aj (jY V vc (fq T k x)) (gD L lc (bP k x))))).drop).post aO)
 ·have HF:=au (show ∀ (W:World),Below w.heap.size w W->En w T k x (.returned (.tuple #[.agg (ij 0 none 0 0 none 0 0),.bool false])) W from fun W hb=>by
   have e:pO T k x=(S7,false):=by unfold pO;rw[if_neg J]
   exact⟨⟨none,0,none,0⟩,by rw[e];rfl,by rw[e];exact XT hb⟩)
  have e1:pK T k x=([],1):=by unfold pK;rw[if_neg J]
  unfold wV at KV;rw[e1] at KV;clear e1 J KF KL
  go_enter Tryz.func35,Tryz.ntmps35
  go_wp2_with fail;refine KV.o.mono ?_;rintro e9 w2 ⟨V,vc,rfl,hp⟩;have H3:=au ((H2.o.fresh aO hp).drop);clear KV H2 hp;dsimp only;simp only[lL];obtain⟨f1,I⟩:=H3.o.fst;have c0:=ay (i:=0) I rfl;have c1:=ay (i:=1) I rfl;have c2:=ay (i:=2) I rfl;have cf:=aN I;clear I f1;have M:=aJ H3.o aO 0 (.int .i64 0);have ab:=aJ M aO 1 (.slice none 0 0);have aa:=aJ ab aO 2 (.slice none 0 0);have H6:=au (show aI eR w (aj (av (w.heap.size+1) (ij 0 none 0 0 none 0 0) 81) (aj (av w.heap.size (fh aA n1 ac aD n2 ad aE n3 ae T.drop T.ord T.ini) 25) bG)) (((w2.setCell ⟨w.heap.size+1,0,none⟩ (.int .i64 0)).setCell ⟨w.heap.size+1,1,none⟩ (.slice none 0 0)).setCell ⟨w.heap.size+1,2,none⟩ (.slice none 0 0)) from aa);clear M ab aa H3;go_wp2;obtain⟨f2,ai⟩:=H6.o.fst;refine bodyPost_ret (Tb rfl rfl ai.1 rfl) rfl ?_;exact HF.o _ (ag.o _ _ H6.o)
attribute [local go_sem] nF
def Zy(u v:wW)(a c:WW)(T:eW)(t:TA)(b1 b2 b3:Nat):CH.aU:=aj (av b1 (sD u a) 81) (aj (av b2 (sD v c) 81) (av b3 (dN T t) 25))
variable{u v:wW}{a c:WW}{b1 b2 b3 i j:Nat}{us vs:List Vr}{ini:Int}{p:List Bs}
theorem nN{t:TA}:(Zy u v a c T t b1 b2 b3).Ok:=aB aF (aB aF aF)
instance {u v:wW} {a c:WW} {T:eW} {t:TA} {b1 b2 b3:Nat}:(Zy u v a c T t b1 b2 b3).Ok:=nN
def rD(w:Wy):Array Value:=(o5 0 0 w.kd w.l w.r w.c 0 none 0 0 none 0 0 ⟨#[]⟩ (bs w.x) (bs w.y))
def TR(w:Wy):Array Value:=#[.agg (rD w)]
theorem TS{a0 a1 a2 a3 a4 a5 a6 a7 a8 a9 J I:Value}(h:aI F0 w0 (aj (av g #[a0,a1,a2,a3,a4,a5,a6,a7,a8,a9,J,I] t) X) w)(M:X.Ok)(b0 b1 b2 b3 b4 b5 b6 b7 b8 b9 aa ab:Value):
  aI F0 w0 (aj (av g #[b0,b1,b2,b3,b4,b5,b6,b7,b8,b9,aa,ab] t) X) ((((((((((((w.setCell ⟨g,0,none⟩ b0).setCell ⟨g,1,none⟩ b1).setCell ⟨g,2,none⟩ b2).setCell ⟨g,3,none⟩ b3).setCell ⟨g,4,none⟩ b4).setCell ⟨g,5,none⟩ b5).setCell ⟨g,6,none⟩ b6).setCell ⟨g,7,none⟩ b7).setCell ⟨g,8,none⟩ b8).setCell ⟨g,9,none⟩ b9).setCell ⟨g,10,none⟩ aa).setCell ⟨g,11,none⟩ ab):=by
 have h0:aI F0 w0 (aj (av g #[b0,a1,a2,a3,a4,a5,a6,a7,a8,a9,J,I] t) X) _:=aJ h M 0 b0;have h1:aI F0 w0 (aj (av g #[b0,b1,a2,a3,a4,a5,a6,a7,a8,a9,J,I] t) X) _:=aJ h0 M 1 b1;have h2:aI F0 w0 (aj (av g #[b0,b1,b2,a3,a4,a5,a6,a7,a8,a9,J,I] t) X) _:=aJ h1 M 2 b2;have h3:aI F0 w0 (aj (av g #[b0,b1,b2,b3,a4,a5,a6,a7,a8,a9,J,I] t) X) _:=aJ h2 M 3 b3;have h4:aI F0 w0 (aj (av g #[b0,b1,b2,b3,b4,a5,a6,a7,a8,a9,J,I] t) X) _:=aJ h3 M 4 b4;have h5:aI F0 w0 (aj (av g #[b0,b1,b2,b3,b4,b5,a6,a7,a8,a9,J,I] t) X) _:=aJ h4 M 5 b5;have h6:aI F0 w0 (aj (av g #[b0,b1,b2,b3,b4,b5,b6,a7,a8,a9,J,I] t) X) _:=aJ h5 M 6 b6;have h7:aI F0 w0 (aj (av g #[b0,b1,b2,b3,b4,b5,b6,b7,a8,a9,J,I] t) X) _:=aJ h6 M 7 b7;have h8:aI F0 w0 (aj (av g #[b0,b1,b2,b3,b4,b5,b6,b7,b8,a9,J,I] t) X) _:=aJ h7 M 8 b8;have h9:aI F0 w0 (aj (av g #[b0,b1,b2,b3,b4,b5,b6,b7,b8,b9,J,I] t) X) _:=aJ h8 M 9 b9;have ac:aI F0 w0 (aj (av g #[b0,b1,b2,b3,b4,b5,b6,b7,b8,b9,aa,I] t) X) _:=aJ h9 M 10 aa;exact aJ ac M 11 ab
structure BW(u v:wW)(a c:WW)(w:World):Prop where
 u:lT w u a
 v:lT w v c
theorem BW.below(h:BW u v a c w)(hb:Below w.heap.size w w'):BW u v a c w':=⟨h.u.below hb,h.v.below hb⟩
theorem rE{t:TA}(h:aI F0 w0 (aj (Zy u v a c T t b1 b2 b3) X) w):
  (Dd w b1 (.int .i64 u.k) (.slice a.V u.vs.length a.vc) (.slice a.L u.ls.length a.lc)) /\
  (Dd w b2 (.int .i64 v.k) (.slice c.V v.vs.length c.vc) (.slice c.L v.ls.length c.lc))/\w.cell? ⟨b3,5,none⟩=some (.int .i64 T.ini):=by
 obtain⟨f1,I⟩:=(h.perm (by unfold Zy;ac_rfl:_=aj (av b1 (sD u a) 81) (aj (av b2 (sD v c) 81) (aj (av b3 (dN T t) 25) X)))).fst;obtain⟨f2,J⟩:=(h.perm (by unfold Zy;ac_rfl:_=aj (av b2 (sD v c) 81) (aj (av b1 (sD u a) 81) (aj (av b3 (dN T t) 25) X)))).fst;obtain⟨f3,M⟩:=(h.perm (by unfold Zy;ac_rfl:_=aj (av b3 (dN T t) 25) (aj (av b1 (sD u a) 81) (aj (av b2 (sD v c) 81) X)))).fst;exact⟨⟨ay I rfl,ay I rfl,ay I rfl⟩,⟨ay J rfl,ay J rfl,ay J rfl⟩,ay M rfl⟩
theorem mO(us vs:List Vr):(qx us vs).length=us.length*vs.length:=by
 unfold qx
 induction us with
 | nil=>simp
 | cons x us ih=>rw[mS,gj,fY,ih,jz,li];omega
theorem MH:∀ {i j:Nat} (hi:i<us.length) (h:j<vs.length),(qx us vs)[i*vs.length+j]?=some (vR us[i] vs[j]):=by
 induction us with
 | nil=>intro i j hi;simp at hi
 | cons x us ih=>
  intro i j hi h;have e:qx (x::us) vs=vs.map (vR x)++qx us vs:=by unfold qx;rw[mS]
  rw[e];cases i with
  | zero=>
   rw[sx,mB,xp (by rw[fY];exact h),lB,ic h];rfl
  | succ i=>
   rw[B9 (by rw[fY,li];omega),fY];have I:(i+1)*vs.length+j-vs.length=i*vs.length+j:=by rw[li];omega
   rw[I,ih (by simpa using hi) h];rfl
theorem abn{q:List Bs}(hi:i<us.length)(J:j<vs.length):∃ h:i*vs.length+j<(iE ini us vs p q).length,(iE ini us vs p q)[i*vs.length+j]=vR us[i] vs[j]:=by
 have I:=MH hi J;have M:(iE ini us vs p q)[i*vs.length+j]?=some (vR us[i] vs[j]):=by
  unfold iE;rw[xp (List.getElem?_eq_some_iff.1 I).1];exact I
 exact List.getElem?_eq_some_iff.1 M
theorem XU{q:List Bs}(I:p.length=1):∃ h:us.length*vs.length<(iE ini us vs p q).length,(iE ini us vs p q)[us.length*vs.length]=jH 2 ini p q:=by
 have e:iE ini us vs p q=qx us vs++(jH 2 ini p q::(if q.length=1 then [jH 3 ini p q] else [])):=by unfold iE;rw[if_pos I];rfl
 have J:=mO us vs;refine⟨by rw[e,gj,jz];omega,?_⟩;simp only[e];rw[yW eL];simp[J]
theorem OL{q:List Bs}(hq:q.length=1)(hn:n=us.length*vs.length+if p.length=1 then 1 else 0):(∃ h:n<(iE ini us vs p q).length,(iE ini us vs p q)[n]=jH 3 ini p q)/\n+1=(iE ini us vs p q).length:=by
 have e:iE ini us vs p q=(qx us vs++(if p.length=1 then [jH 2 ini p q] else []))++[jH 3 ini p q]:=by unfold iE;rw[if_pos hq,ma]
 have J:=mO us vs;have I:(qx us vs++(if p.length=1 then [jH 2 ini p q] else [])).length=n:=by
  rw[gj,J,hn];split<;>rfl
 refine⟨⟨by rw[e,gj,I];exact JS _,?_⟩,by rw[e,gj,I];rfl⟩;simp only[e];rw[yW eL];simp[I]
theorem TT{q:List Bs}(hq:q.length≠1)(hn:n=us.length*vs.length+if p.length=1 then 1 else 0):n=(iE ini us vs p q).length:=by
 unfold iE;rw[gj,mO,gj,if_neg hq,hn];split<;>rfl
theorem OM{l:List Bs}(h:0<l.length):l[0]=ie l:=by
 cases l with
 | nil=>simp at h
 | cons z l=>rfl
theorem uQ{t:TA}(hX:X.Ok)(h:aI F0 w0 (aj (Zy u v a c T t b1 b2 b3) X) w)(hr:BW u v a c w)(hu:0<u.ls.length)(hv:0<v.ls.length)(kd:Int):
  Calls Tryz.prog 64 #[.int .i64 kd,.pointer (some ⟨b3,0,none⟩),.pointer (some ⟨b1,0,none⟩),.pointer (some ⟨b2,0,none⟩)] w (aT w (.agg (rD (jH kd T.ini u.ls v.ls)))):=by
 obtain⟨bu,ou,M,aa⟩:=hr.u.ls.at hu;obtain⟨bv,ov,ag,ac⟩:=hr.v.ls.at hv;have HZ:=au (fun W (J:Below w.heap.size w W)=>rE (h.below aO J))
 have af:=au (fun W (J:Below w.heap.size w W)=>(show W.cell? ⟨bu,ou,none⟩=some (.string (bs (ie u.ls))) from by
  have h1:=aa W J 0 hu;rw[OM hu] at h1
  exact h1))
 have ab:=au (fun W (J:Below w.heap.size w W)=>(show W.cell? ⟨bv,ov,none⟩=some (.string (bs (ie v.ls))) from by
  have h1:=ac W J 0 hv;rw[OM hv] at h1
  exact h1))
 have r1:aI eR w (aj (av w.heap.size (o5 0 0 0 0 0 0 0 none 0 0 none 0 0 ⟨#[]⟩ ⟨#[]⟩ ⟨#[]⟩) 119) bG) _:=aH (aI.begin w) aM _ 119;have R1:=au r1;clear aa ac h hX hr r1;rw[M,ag] at HZ;clear M ag;unfold rD jH;dsimp only;generalize ie u.ls=hx at *
 generalize ie v.ls=hy at *
 have ak:(0:Int)<(u.ls.length:Int):=by omega
 have al:(0:Int)<(v.ls.length:Int):=by omega
 generalize u.ls.length=nu at *
 generalize v.ls.length=nv at *
 go_enter Tryz.func64,Tryz.ntmps64
 go_upto_region 1 with (fail);generalize w.alloc (.cells (o5 0 0 0 0 0 0 0 none 0 0 none 0 0 ⟨#[]⟩ ⟨#[]⟩ ⟨#[]⟩) 119)=w1 at *
 have ae:=au (fun W X (h:aI eR w X W)=>(show Below w.heap.size w W from h.mod.below (fun _ _ h=>h)));have R2:=au (R1.o.drew aO);have hS:∀ W,Below w.heap.size w W->W.cell? ⟨b1,2,none⟩=some (.slice (some ⟨bu,ou,none⟩) nu a.lc)/\W.cell? ⟨b2,2,none⟩=some (.slice (some ⟨bv,ov,none⟩) nv c.lc)/\W.cell? ⟨b3,5,none⟩=some (.int .i64 T.ini)/\W.cell? ⟨bu,ou,none⟩=some (.string (bs hx))/\W.cell? ⟨bv,ov,none⟩=some (.string (bs hy)):=fun W J=>by
  obtain⟨⟨-,-,z1⟩,⟨-,-,z2⟩,z3⟩:=HZ.o W J;exact⟨z1,z2,z3,af.o W J,ab.o W J⟩
 have ad:=hS _ (ae.o _ _ R2.o);clear hS R1;refine eG (fun W=>W.cell? ⟨b1,2,none⟩=some (.slice (some ⟨bu,ou,none⟩) nu a.lc)/\W.cell? ⟨b2,2,none⟩=some (.slice (some ⟨bv,ov,none⟩) nv c.lc)/\W.cell? ⟨b3,5,none⟩=some (.int .i64 T.ini)/\W.cell? ⟨bu,ou,none⟩=some (.string (bs hx))/\W.cell? ⟨bv,ov,none⟩=some (.string (bs hy))) rfl eQ eQ ad ?_;clear ad HZ af ab;generalize w1.drew=w2 at *
 (repeat(first|refine bM ?_|refine bN ?_))
 refine jl rfl gh (fun K hK=>?_);obtain⟨f1,I⟩:=R2.o.fst;have c0:=ay (i:=0) I rfl;have c1:=ay (i:=1) I rfl;have c2:=ay (i:=2) I rfl;have c3:=ay (i:=3) I rfl;have c4:=ay (i:=4) I rfl;have c5:=ay (i:=5) I rfl;have c6:=ay (i:=6) I rfl;have c7:=ay (i:=7) I rfl;have c8:=ay (i:=8) I rfl;have c9:=ay (i:=9) I rfl;have ai:=ay (i:=10) I rfl;have am:=ay (i:=11) I rfl;have cf:=aN I;clear I f1;have R3:=au (TS R2.o aM (.int .i64 0) (.int .i64 0) (.int .i64 kd) (.int .i64 (-1)) (.int .i64 (-1)) (.int .i64 T.ini) (.int .i64 0) (.slice none 0 0) (.slice none 0 0) (.string ⟨#[]⟩) (.string (bs hx)) (.string (bs hy)));go_wp2;refine hK.o _ _ ?_;clear hK;go_wp2;obtain⟨f,hf⟩:=R3.o.fst;refine bodyPost_ret (results_cell_row rfl _ _ w.heap.size 119 _ (0,0) _ rfl hf.1 Tryz.underlying119 rfl eQ) rfl ?_;exact⟨rfl,ae.o _ _ R3.o⟩
theorem TP.at{l:List Vr}(h:TP w A l)(hn:0<l.length):∃ b o,A=some ⟨b,o,none⟩/\∀ w',Below w.heap.size w w'->∀ j (I:j<l.length),
  w'.cell? ⟨b,o+j*3,none⟩=some (.string (bs l[j].w))/\w'.cell? ⟨b,o+j*3+1,none⟩=some (.int .i64 l[j].e)/\w'.cell? ⟨b,o+j*3+2,none⟩=some (.int .i64 l[j].c):=by
 obtain⟨b,o,e,J⟩:=sI.at (R:=lM) (fun _=>rfl) eL h hn;exact⟨b,o,e,fun w' M j I=>⟨J w' M j I 0 _ rfl,J w' M j I 1 _ rfl,J w' M j I 2 _ rfl⟩⟩
theorem TU{u v:wW}{a c:WW}{t:TA}{b1 b2 b3:Nat}(hu:0<u.ls.length)(hv:0<v.ls.length)(br:u.vs.length<=1000000)(be:v.vs.length<=1000000)(a6:∀ x ∈ u.vs,0<=x.c/\x.c<=1000)(ax:∀ x ∈ v.vs,0<=x.c/\x.c<=1000)(bx:u.ls.length<=1000000)(bw:v.ls.length<=1000000):
  Qt Tryz.prog 63 #[.pointer (some ⟨b1,0,none⟩),.pointer (some ⟨b2,0,none⟩),.pointer (some ⟨b3,0,none⟩)] (BW u v a c) (Zy u v a c T t b1 b2 b3) TR (iE T.ini u.vs v.vs u.ls v.ls):=by
 intro n lo w F0 w0 X Y aq b0 hE h0 hY;have HY:=au hY;have HE:=au hE;have ad:=au aq;have bi:=au a6;have bb:=au ax;clear hY hE aq a6 ax;obtain⟨n1,af⟩:∃ k,k=u.vs.length:=⟨_,rfl⟩;obtain⟨m,hm⟩:∃ k,k=v.vs.length:=⟨_,rfl⟩;have aE:=au af;have HM:=au hm;have am:=au (fun (i j:Nat) (hi:i<u.vs.length) (hj:j<v.vs.length)=>(show ∃ h:i*m+j<(iE T.ini u.vs v.vs u.ls v.ls).length,(iE T.ini u.vs v.vs u.ls v.ls)[i*m+j]=vR u.vs[i] v.vs[j] from by rw[hm];exact abn hi hj));have al:=au (fun (hp:u.ls.length=1)=>(show ∃ h:n1*m<(iE T.ini u.vs v.vs u.ls v.ls).length,(iE T.ini u.vs v.vs u.ls v.ls)[n1*m]=jH 2 T.ini u.ls v.ls from by rw[af,hm];exact XU hp));have ai:=au (fun (hq:v.ls.length=1) (k:Nat) (hk:k=n1*m+if u.ls.length=1 then 1 else 0)=>OL (ini:=T.ini) (us:=u.vs) (vs:=v.vs) (p:=u.ls) hq (n:=k) (by rw[<-af,<-hm];exact hk));have ak:=au (fun (hq:v.ls.length≠1) (k:Nat) (hk:k=n1*m+if u.ls.length=1 then 1 else 0)=>TT (ini:=T.ini) (us:=u.vs) (vs:=v.vs) (p:=u.ls) hq (n:=k) (by rw[<-af,<-hm];exact hk));rw[<-af] at br;rw[<-hm] at be;refine callsIn_of_wp Tryz.func63 rfl trivial ?_ rfl;simp only[Tryz.ntmps63,pZ,jz,lL,Nat.reduceAdd,Nat.reduceSub,re,rk,ry,rq,me,pd];have H0:=au h0;obtain⟨⟨z0,z1,z2⟩,⟨y0,y1,y2⟩,z5⟩:=rE h0;rw[<-af] at z1;rw[<-hm] at y1;have a3:X 0=X (0*m):=by rw[sx]
 have a2:=au (show aI F0 w0 (aj (Zy u v a c T t b1 b2 b3) (X (0*m))) w from a3 ▸ h0);clear h0 af hm a3 H0;gi_wp2;gi_loopw [13] (fun i wr=>∃ k:Nat,k<=n1/\i=.int .i64 k/\aI F0 w0 (aj (Zy u v a c T t b1 b2 b3) (X (k*m))) wr) (fun i _=>n1-(intOf i).toNat)
 case atStart=>exact⟨0,fy _,rfl,a2.o⟩
 case round=>
  obtain⟨k,hk,rfl,hR⟩:=hrel;have HR:=au hR;clear a2 hR z0 z1 z2 y0 y1 y2 z5;obtain⟨⟨z0,z1,z2⟩,⟨y0,y1,y2⟩,z5⟩:=rE HR.o;rw[<-aE.o] at z1;rw[<-HM.o] at y1;by_cases a0:k<n1
  ·have ao:k<u.vs.length:=by rw[<-aE.o];exact a0
   have HP:=au (HE.o wr HR.o.mod);obtain⟨b,o,hA,hc⟩:=HP.o.u.vs.at eL;obtain⟨r0,r1,r2⟩:=hc wr (fe _ _) k ao;rw[hA] at z1 ⊢;clear hc hA;have bm:=bi.o _ (gw ao);have aA:=au (show k+1<=n1 from a0);have a4:=au (fun (j:Nat) (hj:j<v.vs.length)=>am.o k j ao hj);have bv:(k:Int)<1000000:=by omega
   generalize u.vs[k]=q at *
   obtain⟨qw,qe,qc⟩:=q;dsimp only at r0 r1 r2 bm;have h6:=aH HR.o (aB nN (ad.o _)) (l3 (bs qw) qe qc) 159;have H6:=au (show aI F0 w0 (aj (aj (av wr.heap.size (l3 (bs qw) qe qc) 159) (Zy u v a c T t b1 b2 b3)) (X (k*m+0))) _ from h6.perm (by rw[pk];ac_rfl));obtain⟨⟨bo,a9,ba⟩,⟨bn,a7,bj⟩,bf⟩:=rE h6.drop;rw[<-HM.o] at a7;have bk:=au (HE.o _ h6.mod);clear h6 HR HP hk;gi_wp2;generalize wr.alloc (.cells (l3 (bs qw) qe qc) 159)=w6 at *
   generalize wr.heap.size=g6 at *
   clear z0 z1 z2 y0 y1 y2 z5 r0 r1 r2 bo a9 ba bn a7 bj bf;gi_loopw [20] (fun i wr=>∃ j:Nat,j<=m/\i=.int .i64 j/\aI F0 w0 (aj (aj (av g6 (l3 (bs qw) qe qc) 159) (Zy u v a c T t b1 b2 b3)) (X (k*m+j))) wr) (fun i _=>m-(intOf i).toNat)
   case atStart=>exact⟨0,fy _,rfl,H6.o⟩
   case round=>
    clear H6 bk;obtain⟨j,hj,rfl,hR⟩:=hrel;have HR:=au hR;clear hR;by_cases aw:j<m
    ·have an:j<v.vs.length:=by rw[<-HM.o];exact aw
     have HP:=au (HE.o _ HR.o.mod);obtain⟨b',o',hA,hc⟩:=HP.o.v.vs.at eL;obtain⟨r0,r1,r2⟩:=hc _ (fe _ _) j an;have a1:=bb.o _ (gw an);have aD:=au (show j+1<=m from aw);have bz:(j:Int)<1000000:=by omega
     obtain⟨M,aa⟩:=a4.o j an;clear hc;generalize v.vs[j]=q' at *
     obtain⟨a8,bc,bp⟩:=q';dsimp only at r0 r1 r2 a1;rw[hA];clear hA;have h8:=aH HR.o (aB aO (ad.o _)) (l3 (bs a8) bc bp) 159;obtain⟨p0,p1,p2⟩:=fF h8;obtain⟨x0,x1,x2⟩:=fF (h8.drop.assoc:aI F0 w0 (aj (av g6 (l3 (bs qw) qe qc) 159) _) _);obtain⟨a5,ar,az⟩:=fF (HR.o.assoc:aI F0 w0 (aj (av g6 (l3 (bs qw) qe qc) 159) _) _);have hw:=HY.o (aj (av g6 (l3 (bs qw) qe qc) 159) (Zy u v a c T t b1 b2 b3)) aO _ M _ h8.drop;rw[aa] at hw;simp only[TR,rD,vR,jH] at hw;obtain⟨fn,tmps,assign,body,hy,hround⟩:=hw;have J:=au hround;clear hround aa M;have ap:=au h8;clear h8 HR HP hj an a4;gi_wp2
     try rw[hy]
     refine⟨fun h=>(by cases h),?_⟩;refine J.o.mono ?_;rintro e W3 (⟨rfl,h3⟩|⟨rfl,h3⟩)
     ·have H9:=au h3;clear J h3 hy r0 r1 r2 p0 p1 p2 x0 x1 x2 a5 ar az ap;gi_wp2
      go_roundw
      case rel=>exact⟨j+1,aD.o,by go_num,H9.o⟩
      case measure=>have:=aD.o;simp[intOf];omega
     ·have ag:=au (show(∃ v,(Ending.returned (.tuple #[]))=.returned v)/\∃ Z:CH.aU,Z.Ok/\(aI F0 w0 (aj Z (X (iE T.ini u.vs v.vs u.ls v.ls).length)) W3\/aI F0 w0 (aj Z Y) W3) from⟨⟨_,rfl⟩,(aj (av g6 (l3 (bs qw) qe qc) 159) (Zy u v a c T t b1 b2 b3)),aB aF nN,.inr h3⟩);clear J h3 hy r0 r1 r2 p0 p1 p2 x0 x1 x2 a5 ar az ap;gi_wp2;refine bodyPost_ret (results_none rfl _ _ _) rfl ?_;exact ag.o
    ·have H9:=au (show aI F0 w0 (aj (Zy u v a c T t b1 b2 b3) (X ((k+1)*m))) wr from by
      have e:j=m:=by omega
      subst e;rw[li]
      exact HR.o.assoc.drop)
     clear HR;gi_wp2
     go_roundw
     case rel=>exact⟨k+1,aA.o,by go_num,H9.o⟩
     case measure=>have:=aA.o;simp[intOf];omega
  ·have bh:k=n1:=by omega
   subst bh;have bu:=HE.o wr HR.o.mod;clear hk;by_cases hp:u.ls.length=1
   ·have t1:((u.ls.length:Int)==1)=true:=by simp[hp]
    obtain⟨M,aa⟩:=al.o hp;have KI:=au (uQ (ad.o _) HR.o (HE.o _ HR.o.mod) hu hv 2)
    gi_wp2_with fail
    repeat(refine⟨fun f h=>(by cases h),?_⟩;gi_wp2_with fail)
    refine⟨trivial,fun h=>(by cases h),?_⟩;refine(callsIn_wide.2 KI.o).mono ?_;rintro e9 w7 ⟨rfl,hb⟩;have H7:=au (HR.o.below (aB nN (ad.o _)) hb);clear KI HR hb z0 z1 z2 y0 y1 y2 z5;have hw:=HY.o (Zy u v a c T t b1 b2 b3) nN _ M _ H7.o;rw[aa] at hw;simp only[TR,rD,vR,jH] at hw;obtain⟨fn,tmps,assign,body,hy,hround⟩:=hw;have J:=au hround;clear hround aa M;dsimp only;simp only[rD,jH];gi_wp2
    try rw[hy]
    refine⟨fun h=>(by cases h),?_⟩;refine J.o.mono ?_;rintro e W3 (⟨rfl,h3⟩|⟨rfl,h3⟩)
    ·have H9:=au h3;clear J h3 hy H7;have I:=au H9.o;obtain⟨⟨z0,z1,z2⟩,⟨y0,y1,y2⟩,z5⟩:=rE I.o;by_cases hq:v.ls.length=1
     ·obtain⟨⟨M,aa⟩,ab⟩:=ai.o hq _ (show k*m+1=_ from by rw[if_pos hp]);have t2:((v.ls.length:Int)==1)=true:=by simp[hq]
      have KI:=au (uQ (ad.o _) I.o (HE.o _ I.o.mod) hu hv 3);clear ai ak al am
      gi_wp2_with fail
      repeat(refine⟨fun f h=>(by cases h),?_⟩;gi_wp2_with fail)
      refine⟨trivial,fun h=>(by cases h),?_⟩;refine(callsIn_wide.2 KI.o).mono ?_;rintro e9 w7 ⟨rfl,hb⟩;have H7:=au (I.o.below (aB nN (ad.o _)) hb);clear KI I hb z0 z1 z2 y0 y1 y2 z5;have hw:=HY.o (Zy u v a c T t b1 b2 b3) nN _ M _ H7.o;rw[aa] at hw;simp only[TR,rD,vR,jH] at hw;obtain⟨fn,tmps,assign,body,hy,hround⟩:=hw;have J:=au hround;clear hround aa M;dsimp only;simp only[rD,jH];gi_wp2
      try rw[hy]
      refine⟨fun h=>(by cases h),?_⟩;refine J.o.mono ?_;rintro e W3 h3;have ag:=au (show e=.returned (.bool true)\/e=.returned (.bool false) from h3.imp (fun h=>h.1) (fun h=>h.1));have ac:=au (show(∃ v,(Ending.returned (.tuple #[]))=.returned v)/\∃ Z:CH.aU,Z.Ok/\(aI F0 w0 (aj Z (X (iE T.ini u.vs v.vs u.ls v.ls).length)) W3\/aI F0 w0 (aj Z Y) W3) from⟨⟨_,rfl⟩,(Zy u v a c T t b1 b2 b3),nN,h3.imp (fun h=>by rw[<-ab];exact h.2) (fun h=>h.2)⟩);clear J h3 hy H7;rcases ag.o with rfl|rfl
      ·dsimp only;rename_i Kq ae;refine ae _ _ ?_;gi_wp2
       first|refine bodyPost_end (results_none rfl _ _ _) rfl ?_|refine bodyPost_ret (results_none rfl _ _ _) rfl ?_
       exact ac.o
      ·dsimp only;rename_i Kq ae;refine ae _ _ ?_;gi_wp2
       first|refine bodyPost_end (results_none rfl _ _ _) rfl ?_|refine bodyPost_ret (results_none rfl _ _ _) rfl ?_
       exact ac.o
     ·have ab:=ak.o hq _ (show k*m+1=_ from by rw[if_pos hp]);have t2:((v.ls.length:Int)==1)=false:=by simp;omega
      have ac:=au (show(∃ v,(Ending.returned (.tuple #[]))=.returned v)/\∃ Z:CH.aU,Z.Ok/\(aI F0 w0 (aj Z (X (iE T.ini u.vs v.vs u.ls v.ls).length)) W3\/aI F0 w0 (aj Z Y) W3) from⟨⟨_,rfl⟩,(Zy u v a c T t b1 b2 b3),nN,.inl (by rw[<-ab];exact I.o)⟩);clear ai ak al am I ab;gi_wp2
      repeat(refine⟨fun f h=>(by cases h),?_⟩;gi_wp2)
      first|refine bodyPost_end (results_none rfl _ _ _) rfl ?_|refine bodyPost_ret (results_none rfl _ _ _) rfl ?_
      exact ac.o
    ·have ag:=au (show(∃ v,(Ending.returned (.tuple #[]))=.returned v)/\∃ Z:CH.aU,Z.Ok/\(aI F0 w0 (aj Z (X (iE T.ini u.vs v.vs u.ls v.ls).length)) W3\/aI F0 w0 (aj Z Y) W3) from⟨⟨_,rfl⟩,(Zy u v a c T t b1 b2 b3),nN,.inr h3⟩);clear J h3 hy H7;gi_wp2;refine bodyPost_ret (results_none rfl _ _ _) rfl ?_;exact ag.o
   ·have t1:((u.ls.length:Int)==1)=false:=by simp;omega
    clear z0 z1 z2 y0 y1 y2 z5;have I:=au HR.o;obtain⟨⟨z0,z1,z2⟩,⟨y0,y1,y2⟩,z5⟩:=rE I.o;by_cases hq:v.ls.length=1
    ·obtain⟨⟨M,aa⟩,ab⟩:=ai.o hq _ (show k*m=_ from by rw[if_neg hp];exact(pk _).symm);have t2:((v.ls.length:Int)==1)=true:=by simp[hq]
     have KI:=au (uQ (ad.o _) I.o (HE.o _ I.o.mod) hu hv 3);clear ai ak al am
     gi_wp2_with fail
     repeat(refine⟨fun f h=>(by cases h),?_⟩;gi_wp2_with fail)
     refine⟨trivial,fun h=>(by cases h),?_⟩;refine(callsIn_wide.2 KI.o).mono ?_;rintro e9 w7 ⟨rfl,hb⟩;have H7:=au (I.o.below (aB nN (ad.o _)) hb);clear KI I hb z0 z1 z2 y0 y1 y2 z5;have hw:=HY.o (Zy u v a c T t b1 b2 b3) nN _ M _ H7.o;rw[aa] at hw;simp only[TR,rD,vR,jH] at hw;obtain⟨fn,tmps,assign,body,hy,hround⟩:=hw;have J:=au hround;clear hround aa M;dsimp only;simp only[rD,jH];gi_wp2
     try rw[hy]
     refine⟨fun h=>(by cases h),?_⟩;refine J.o.mono ?_;rintro e W3 h3;have ag:=au (show e=.returned (.bool true)\/e=.returned (.bool false) from h3.imp (fun h=>h.1) (fun h=>h.1));have ac:=au (show(∃ v,(Ending.returned (.tuple #[]))=.returned v)/\∃ Z:CH.aU,Z.Ok/\(aI F0 w0 (aj Z (X (iE T.ini u.vs v.vs u.ls v.ls).length)) W3\/aI F0 w0 (aj Z Y) W3) from⟨⟨_,rfl⟩,(Zy u v a c T t b1 b2 b3),nN,h3.imp (fun h=>by rw[<-ab];exact h.2) (fun h=>h.2)⟩);clear J h3 hy H7;rcases ag.o with rfl|rfl
     ·dsimp only;rename_i Kq ae;refine ae _ _ ?_;gi_wp2
      first|refine bodyPost_end (results_none rfl _ _ _) rfl ?_|refine bodyPost_ret (results_none rfl _ _ _) rfl ?_
      exact ac.o
     ·dsimp only;rename_i Kq ae;refine ae _ _ ?_;gi_wp2
      first|refine bodyPost_end (results_none rfl _ _ _) rfl ?_|refine bodyPost_ret (results_none rfl _ _ _) rfl ?_
      exact ac.o
    ·have ab:=ak.o hq _ (show k*m=_ from by rw[if_neg hp];exact(pk _).symm);have t2:((v.ls.length:Int)==1)=false:=by simp;omega
     have ac:=au (show(∃ v,(Ending.returned (.tuple #[]))=.returned v)/\∃ Z:CH.aU,Z.Ok/\(aI F0 w0 (aj Z (X (iE T.ini u.vs v.vs u.ls v.ls).length)) wr\/aI F0 w0 (aj Z Y) wr) from⟨⟨_,rfl⟩,(Zy u v a c T t b1 b2 b3),nN,.inl (by rw[<-ab];exact I.o)⟩);clear ai ak al am I ab;gi_wp2
     repeat(refine⟨fun f h=>(by cases h),?_⟩;gi_wp2)
     first|refine bodyPost_end (results_none rfl _ _ _) rfl ?_|refine bodyPost_ret (results_none rfl _ _ _) rfl ?_
     exact ac.o
end Go.Proofs.YtbioiclabmbedaaGreatDoor
namespace Go.CH.Mtc
open Go.CH.Scr Go.CH.dh
def jw(T:eW)(k k2:Int)(ws:List Wy)(i:Nat):List Pr:=(ws.take i).filterMap (N7 T k k2)
section
variable{T:eW}{k k2:Int}{ws:List Wy}{i:Nat}
theorem TV:jw T k k2 ws 0=[]:=by unfold jw;rw[List.take_zero];rfl
variable{y:Bs}{d:Dv}
theorem XV{x:Bs}:first (jw T k k2 (lD T k x k2 y) (lD T k x k2 y).length)=gK T k x k2 y:=by unfold jw gK nR;rw[kz]
theorem TW(hi:i<ws.length)(h:fB T k ws[i].x k2 ws[i].y=none):jw T k k2 ws (i+1)=jw T k k2 ws i:=by
 unfold jw;rw[kq hi,sS];have:N7 T k k2 ws[i]=none:=by unfold N7;rw[h];rfl
 simp[this]
theorem TY(hi:i<ws.length)(h:fB T k ws[i].x k2 ws[i].y=some d):first (jw T k k2 ws (i+1))=vZ (first (jw T k k2 ws i)) ⟨0,0,ws[i].kd,ws[i].l,ws[i].r,ws[i].c+d.c,d⟩:=by
 have e:jw T k k2 ws (i+1)=jw T k k2 ws i++[⟨0,0,ws[i].kd,ws[i].l,ws[i].r,ws[i].c+d.c,d⟩]:=by
  unfold jw;rw[kq hi,sS];have:N7 T k k2 ws[i]=some ⟨0,0,ws[i].kd,ws[i].l,ws[i].r,ws[i].c+d.c,d⟩:=by unfold N7;rw[h];rfl
  simp[this]
 rw[e];unfold first
 rw[I3];rfl
theorem XW{x:Bs}{p:Pr}(h:first (jw T k k2 (lD T k x k2 y) i)=some p):p ∈ nR T k x k2 y:=by
 have h1:=(eu h).1;unfold jw at h1;obtain⟨w,hw,he⟩:=List.mem_filterMap.1 h1;exact List.mem_filterMap.2 ⟨w,xv hw,he⟩
theorem T9{x:Bs}(z:Bs)(h:z ∈ bP k x):z.length<=x.length:=by
 by_cases hw:word k x=true
 ·have h1:z.length<=(bP k x).flatten.length:=(NF h).length_le;rw[vB hw] at h1;unfold lower at h1;rw[fY] at h1;exact h1
 ·unfold bP at h;rw[if_neg hw] at h;cases h
theorem Cm{x:Bs}:(ie (bP k x)).length<=x.length:=by
 cases h:bP k x with
 | nil=>exact fy _
 | cons z l=>
  show z.length<=_
  exact T9 (k:=k) z (by rw[h];exact mA ..)
theorem Cn{x:Bs}{v:Vr}(h:v ∈ fq T k x):v.w.length<=x.length:=by
 unfold fq at h;rcases List.mem_cons.1 h with rfl|h
 ·have:=Go.Proofs.YtbioiclabmbedaaGreatDoor.ze (k:=k) (x:=x) (n:=(bP k x).length);rw[kz] at this;exact this
 ·obtain⟨p,-,I⟩:=List.mem_filterMap.1 h;unfold j6 at I;split at I
  ·injection I with I
   rw[<-I];exact Go.Proofs.YtbioiclabmbedaaGreatDoor.ze
  ·cases I
theorem MI{x:Bs}{w:Wy}(h:w ∈ lD T k x k2 y):w.x.length<=x.length/\w.y.length<=y.length:=by
 rcases gH.1 h with⟨u,hu,v,hv,rfl⟩|⟨-,rfl⟩|⟨-,rfl⟩
 ·exact⟨Cn hu,Cn hv⟩
 ·exact⟨Cm,Cm⟩
 ·exact⟨Cm,Cm⟩
theorem lN{x:Bs}(hv:bI T=true):(fq T k x).length<=41:=by
 unfold fq;rw[jz];have h1:=zd (j6 k (bP k x)) T.es.zipIdx;rw[xF] at h1;have h2:=(bX.1 hv).2.2.2;unfold jT at h2;simp only[gA,decide_eq_true_eq] at h2;omega
end
end Go.CH.Mtc
namespace Go.Proofs.YtbioiclabmbedaaGreatDoor
open Go.RowKit Go.CH Go.CH.Scr Go.CH.dh Go.CH.Mtc
open Go.ChangeMaps (setBlock)
def Mp(b1 b2 b3:Nat):Value:=.func (.func 63) #[] (vA (some ⟨b1,0,none⟩) (some ⟨b2,0,none⟩) (some ⟨b3,0,none⟩))
variable{T:eW}{A:eV}{d:Dv}
theorem XY{u v:wW}{a c:WW}{t:TA}(w:World):
  Calls Tryz.prog 41 #[dI T t,wX u a,wX v c] w (fun e w'=>∃ b1 b2 b3,e=.returned (Mp b1 b2 b3)/\bT w eR (Zy u v a c T t b1 b2 b3) w'):=by
 have M:=aH (aI.begin w) aM (dN T t) 25;have I:=aH M aO (sD u a) 81;have h:=aH I aO (sD v c) 81;simp only[ik] at h;have J:=au (show bT w eR (Zy u v a c T t (w.heap.size+1) (w.heap.size+1+1) w.heap.size) _ from((h.perm (by unfold Zy;ac_rfl:_=aj bG (Zy u v a c T t (w.heap.size+1) (w.heap.size+1+1) w.heap.size))).drop).post nN);clear M I h;unfold dI wX;unfold dN sD at J ⊢
 go_enter Tryz.func41,Tryz.ntmps41
 go_wp2;go_ret;exact⟨_,_,_,rfl,J.o⟩
def zk(p:Pr)(A:eV)(ac:Nat)(B:eV)(bc:Nat):Array Value:=(gO p.i p.j p.kd p.l p.r p.c p.d.c A p.d.L.length ac B p.d.M.length bc (bs p.d.F))
def kP(A:eV)(ac:Nat)(B:eV)(bc:Nat)(d:Dv):CH.aU:=aj (bE A ac d.L) (bE B bc d.M)
theorem rF{B:eV}{ac bc:Nat}:(kP A ac B bc d).Ok:=aB fC fC
instance {A B:eV} {ac bc:Nat} {d:Dv}:(kP A ac B bc d).Ok:=rF
def XZ(w:World)(o:Option Pr)(e:Ending)(w':World):Prop:=
 ∃ A ac B bc,e=.returned (.tuple #[.agg (zk (o.getD Lp) A ac B bc),.bool o.isSome])/\bT w eR (kP A ac B bc (o.getD Lp).d) w'
attribute [local go_sem] nF
theorem Aq{P:Program}(w:World)(g:Nat)(ty:TypeId)(b:Bool)(hg:w.cell? ⟨g,0,none⟩=some (.bool b))(hu:P.underlying ty=some .bool):
  (loadVar ty ⟨g,0,none⟩).run P w=.ok (.bool b) w:=by
 unfold loadVar;simp[isAgg,run_underlying hu,j9,hg]
variable{w w0 W:World}{g I g6 i:Nat}{F0:Nat->Prop}{t:TypeId}{X:CH.aU}{a0 a1 a2 a3 a4 a5 J M a8 a9 a6 a7:Value}{k k2:Int}{ws:List Wy}
theorem aew{tmps:Array Value}{cs:Array Value}{b:Bool}(h:tmps.getD 6 undef=.pointer (some ⟨g,0,none⟩))(h':tmps.getD 7 undef=.pointer (some ⟨I,0,none⟩))(hs:cs.size=10)(hg:w.heap[g]?=some (.cells cs 62))(hc:w.cell? ⟨I,0,none⟩=some (.bool b)):(results Tryz.f24 tmps).run Tryz.prog w=.ok (.tuple #[.agg cs,.bool b]) w:=by
 have J:tmps[6]?.getD undef=.pointer (some ⟨g,0,none⟩):=by simpa using h
 have M:tmps[7]?.getD undef=.pointer (some ⟨I,0,none⟩):=by simpa using h'
 have r1:=Aq (P:=Tryz.prog) w I 4 b hc Tryz.underlying4;have r2:=run_loadVar_row (P:=Tryz.prog) w g 62 62 cs (0,0) _ hg Tryz.underlying62 rfl (by rw[hs];kernel_rfl);simp only[results,Tryz.results24];simp[j9,Result.andThen,J,M,asAddr,r1,r2]
theorem iB(h:aI F0 w0 (aj (av g #[a0,a1,a2,a3,a4,a5,J,M,a8,a9] t) X) w):
  (oA w g a0 a1 a2 a3 a4)/\(VS w g a5 J M a8 a9)/\∀ i,w.frozen? ⟨g,i,none⟩=false:=by
 obtain⟨F,I⟩:=h.fst;exact⟨⟨ay I rfl,ay I rfl,ay I rfl,ay I rfl,ay I rfl⟩,⟨ay I rfl,ay I rfl,ay I rfl,ay I rfl,ay I rfl⟩,aN I⟩
theorem Co(h:aI F0 w0 (aj (av g #[a0,a1,a2,a3,a4,a5,a6,a7,a8,a9,J,M] t) X) w):
  (l4 w g a0 a1 a2 a3 a4 a5)/\(VV w g a6 a7 a8 a9 J M)/\∀ i,w.frozen? ⟨g,i,none⟩=false:=by
 obtain⟨F,I⟩:=h.fst;exact⟨⟨ay I rfl,ay I rfl,ay I rfl,ay I rfl,ay I rfl,ay I rfl⟩,⟨ay I rfl,ay I rfl,ay I rfl,ay I rfl,ay I rfl,ay I rfl⟩,aN I⟩
theorem mP(h:aI F0 w0 (aj (av g #[a0,a1,a2,a3,a4,a5,a6,a7,M,J] t) X) w)(I:X.Ok)(b0 b1 b2 b3 b4 b5 b6 b7 b8 b9:Value):
  aI F0 w0 (aj (av g #[b0,b1,b2,b3,b4,b5,b6,b7,b8,b9] t) X) ((((((((((w.setCell ⟨g,0,none⟩ b0).setCell ⟨g,1,none⟩ b1).setCell ⟨g,2,none⟩ b2).setCell ⟨g,3,none⟩ b3).setCell ⟨g,4,none⟩ b4).setCell ⟨g,5,none⟩ b5).setCell ⟨g,6,none⟩ b6).setCell ⟨g,7,none⟩ b7).setCell ⟨g,8,none⟩ b8).setCell ⟨g,9,none⟩ b9):=by
 have h0:aI F0 w0 (aj (av g #[b0,a1,a2,a3,a4,a5,a6,a7,M,J] t) X) _:=aJ h I 0 b0;have h1:aI F0 w0 (aj (av g #[b0,b1,a2,a3,a4,a5,a6,a7,M,J] t) X) _:=aJ h0 I 1 b1;have h2:aI F0 w0 (aj (av g #[b0,b1,b2,a3,a4,a5,a6,a7,M,J] t) X) _:=aJ h1 I 2 b2;have h3:aI F0 w0 (aj (av g #[b0,b1,b2,b3,a4,a5,a6,a7,M,J] t) X) _:=aJ h2 I 3 b3;have h4:aI F0 w0 (aj (av g #[b0,b1,b2,b3,b4,a5,a6,a7,M,J] t) X) _:=aJ h3 I 4 b4;have h5:aI F0 w0 (aj (av g #[b0,b1,b2,b3,b4,b5,a6,a7,M,J] t) X) _:=aJ h4 I 5 b5;have h6:aI F0 w0 (aj (av g #[b0,b1,b2,b3,b4,b5,b6,a7,M,J] t) X) _:=aJ h5 I 6 b6;have h7:aI F0 w0 (aj (av g #[b0,b1,b2,b3,b4,b5,b6,b7,M,J] t) X) _:=aJ h6 I 7 b7;have h8:aI F0 w0 (aj (av g #[b0,b1,b2,b3,b4,b5,b6,b7,b8,J] t) X) _:=aJ h7 I 8 b8;exact aJ h8 I 9 b9
def X3(T:eW)(k k2:Int)(ws:List Wy)(g6 h:Nat)(X:CH.aU)(i:Nat):CH.aU:=
 lW fun p:Pr=>lW fun f:Bool=>lW fun A:eV=>lW fun ac:Nat=>lW fun B:eV=>lW fun bc:Nat=>tu (first (jw T k k2 ws i)=(if f then some p else none)/\(f=false->p=Lp)) (aj (av g6 (zk p A ac B bc) 62) (aj (av h (gv f) 4) (aj (kP A ac B bc p.d) X)))
theorem Jo{g7:Nat}(hX:X.Ok):(X3 T k k2 ws g6 g7 X i).Ok:=bZ fun _=>bZ fun _=>bZ fun _=>bZ fun _=>bZ fun _=>bZ fun _=>gJ (aB aF (aB aF (aB rF hX)))
instance {T:eW} {k k2:Int} {ws:List Wy} {g6 g7 i:Nat} {X:CH.aU} [hX:X.Ok]:(X3 T k k2 ws g6 g7 X i).Ok:=Jo hX
theorem Es{R:CH.aU}{p:Pr}{f:Bool}{B:eV}{ac bc:Nat}(J:first (jw T k k2 ws i)=(if f then some p else none))(M:f=false->p=Lp)(h:aI F0 w0 (aj (aj (av g6 (zk p A ac B bc) 62) (aj (av I (gv f) 4) (aj (kP A ac B bc p.d) X))) R) W):aI F0 w0 (aj (X3 T k k2 ws g6 I X i) R) W:=
 aI.nZ p (aI.nZ f (aI.nZ A (aI.nZ ac (aI.nZ B (aI.nZ bc (aI.iT ⟨J,M⟩ h))))))
theorem X4{R:CH.aU}(h:aI F0 w0 (aj (X3 T k k2 ws g6 I X i) R) W):∃ (p:Pr) (f:Bool) (A:eV) (ac:Nat) (B:eV) (bc:Nat),first (jw T k k2 ws i)=(if f then some p else none)/\(f=false->p=Lp)/\aI F0 w0 (aj (aj (av g6 (zk p A ac B bc) 62) (aj (av I (gv f) 4) (aj (kP A ac B bc p.d) X))) R) W:=by
 obtain⟨p,h⟩:=h.ex;obtain⟨f,h⟩:=h.ex;obtain⟨A,h⟩:=h.ex;obtain⟨ac,h⟩:=h.ex;obtain⟨B,h⟩:=h.ex;obtain⟨bc,h⟩:=h.ex;obtain⟨⟨J,M⟩,h⟩:=h.pure;exact⟨p,f,A,ac,B,bc,J,M,h⟩
abbrev _root_.Go.fi(u:wW)(a:WW):Array Value:=ij u.k a.V u.vs.length a.vc a.L u.ls.length a.lc
abbrev _root_.Go.pM(p:Pr)(A:eV)(c:Nat)(B:eV)(d:Nat):Array Value:=gO p.i p.j p.kd p.l p.r p.c p.d.c A p.d.L.length c B p.d.M.length d (bs p.d.F)
theorem zm{ta:TA}(hT:jV w T ta)(hz:LZ w){x y:Bs}(hx:x.length<=1000000)(hy:y.length<=1000000)(ce:okW T k x k2 y=true){a c:WW}(hu:lT w (jf T k x) a)(hv:lT w (jf T k2 y) c):
  Calls Tryz.prog 24 #[dI T ta,wX (jf T k x) a,wX (jf T k2 y) c] w (XZ w (gK T k x k2 y)):=by
 obtain⟨bu,bz,ai⟩:=fV.1 ce;have h1:=aH (aI.begin w) aM (dN T ta) 25;have h2:=aH h1 (aB aF aM) (sD (jf T k x) a) 81;have h3:=aH h2 (aB aF (aB aF aM)) (sD (jf T k2 y) c) 81;have h4:=aH h3 (aB aF (aB aF (aB aF aM))) (gO 0 0 0 0 0 0 0 none 0 0 none 0 0 ⟨#[]⟩) 62;have h5:=aH h4 (aB aF (aB aF (aB aF (aB aF aM)))) (gv false) 4;simp only[ik] at h5;have H5:=au h5;have cj:=au (fun W X (h:aI eR w X W)=>(show Below w.heap.size w W from h.mod.below (fun _ _ h=>h)));have cd:=au (fun b1 b2 b3=>TU (u:=jf T k x) (v:=jf T k2 y) (a:=a) (c:=c) (T:=T) (t:=ta) (b1:=b1) (b2:=b2) (b3:=b3) (nI bu).1 (nI bz).1 (j8 (lN ai) eL) (j8 (lN ai) eL) (fun z hz=>qW ai hz) (fun z hz=>qW ai hz) (j8 (nI bu).2 eL) (j8 (nI bz).2 eL));have co:=au (fun W (hm:Mod eR w W)=>(show BW (jf T k x) (jf T k2 y) a c W from⟨hu.below (hm.below (fun _ _ h=>h)),hv.below (hm.below (fun _ _ h=>h))⟩));have cn:=au (show iE T.ini (jf T k x).vs (jf T k2 y).vs (jf T k x).ls (jf T k2 y).ls=lD T k x k2 y from rfl);have KB:=au (fun W (hb:Below w.heap.size w W) (z:Wy) (an:z ∈ lD T k x k2 y)=>uD (hT.below hb) (hz.below hb) k z.x k2 z.y (j8 (MI an).1 hx) (j8 (MI an).2 hy));have KW:=au (fun W=>XY (u:=jf T k x) (v:=jf T k2 y) (a:=a) (c:=c) (T:=T) (t:=ta) W);have cy:=au (fun (z:Wy) (an:z ∈ lD T k x k2 y)=>DI ai an);have HK:=au (show(jf T k x).k=k/\(jf T k2 y).k=k2 from⟨rfl,rfl⟩);have b9:=au (XV (T:=T) (k:=k) (k2:=k2) (x:=x) (y:=y));have cp:=au (fun i p h=>Gw ai (XW (T:=T) (k:=k) (k2:=k2) (x:=x) (y:=y) (i:=i) (p:=p) h));clear hT hz hx hy ce hu hv bu bz ai h1 h2 h3 h4 h5;generalize gK T k x k2 y=br at *
 generalize lD T k x k2 y=ws at *
 generalize jf T k x=u at *
 generalize jf T k2 y=v at *
 unfold wX dI at *
 unfold sD dN at *
 generalize T.rs.length=n1 at *
 generalize T.ds.length=n2 at *
 generalize T.es.length=n3 at *
 obtain⟨aA,ac,aD,ad,aE,ae⟩:=ta;dsimp only at H5 KB ⊢;refine(callsIn_wide (n:=8)).1 ?_;refine callsIn_of_wp_marks Tryz.func24 rfl trivial ?_ rfl;simp only[Tryz.ntmps24,pZ,jz,lL,Nat.reduceAdd,Nat.reduceSub,re,rk,ry,rq,me,pd];refine(wpIn_wide (n:=8)).2 ?_;go_upto_region 1 with (fail);generalize (((((w.alloc (.cells (fh aA n1 ac aD n2 ad aE n3 ae T.drop T.ord T.ini) 25)).alloc (.cells (fi u a) 81)).alloc (.cells (fi v c) 81)).alloc (.cells (gO 0 0 0 0 0 0 0 none 0 0 none 0 0 ⟨#[]⟩) 62)).alloc (.cells (gv false) 4))=w5 at *
 generalize w.heap.size+1+1+1+1=J at *
 generalize w.heap.size+1+1+1=g6 at *
 generalize w.heap.size+1+1=g5 at *
 generalize w.heap.size+1=g4 at *
 generalize cz:w.heap.size=g3 at H5 ⊢;clear cz;have ab:=au (aB aF (aB aF (aB aF aM)):((aj (av g5 (fi v c) 81) (aj (av g4 (fi u a) 81) (aj (av g3 (fh aA n1 ac aD n2 ad aE n3 ae T.drop T.ord T.ini) 25) bG)))).Ok);obtain⟨t0,t1,t2,t3,t4,t5⟩:=dW H5.o.drop.drop.drop.drop;obtain⟨u0,u1,u2⟩:=fF H5.o.drop.drop.drop;obtain⟨v0,v1,v2⟩:=fF H5.o.drop.drop;have b8:=au (KW.o w5);clear KW;go_wp2_with fail;refine b8.o.mono ?_;rintro e9 w6 ⟨b1,b2,b3,rfl,hp⟩;have b7:=au (aB aF (aB aF ab.o):(aj (av J (gv false) 4) (aj (av g6 (gO 0 0 0 0 0 0 0 none 0 0 none 0 0 ⟨#[]⟩) 62) (aj (av g5 (fi v c) 81) (aj (av g4 (fi u a) 81) (aj (av g3 (fh aA n1 ac aD n2 ad aE n3 ae T.drop T.ord T.ini) 25) bG))))).Ok);have H6:=au (H5.o.fresh b7.o hp);clear b8 H5 hp t0 t1 t2 t3 t4 t5 u0 u1 u2 v0 v1 v2;dsimp only;go_wp2_with fail;have bn:=au (cd.o b1 b2 b3);rw[cn.o] at bn;clear cd;have h7:=H6.o.fresh (aB nN b7.o) (oH (fe w6.heap.size w6));have h8:aI eR w (aj (aj (av g6 (gO 0 0 0 0 0 0 0 none 0 0 none 0 0 ⟨#[]⟩) 62) (aj (av J (gv false) 4) (aj (kP none 0 none 0 Qm) (aj (av g5 (fi v c) 81) (aj (av g4 (fi u a) 81) (aj (av g3 (fh aA n1 ac aD n2 ad aE n3 ae T.drop T.ord T.ini) 25) bG)))))) (Zy u v a c T ⟨aA,ac,aD,ad,aE,ae⟩ b1 b2 b3)) w6:=h7.perm (by unfold kP Qm;ac_rfl);have a7:=(Es (T:=T) (k:=k) (k2:=k2) (ws:=ws) (i:=0) (p:=Lp) (f:=false) (by rw[TV];rfl) (fun _=>rfl) h8).swap;have cm:=au a7;clear h7 h8 a7 H6;have cg:∀ (i:Nat) (a':Act),(lW fun g8:Nat=>lW fun z:Wy=>tu (ws[i]?=some z/\a'={ tmps:=#[.agg (fh aA n1 ac aD n2 ad aE n3 ae T.drop T.ord T.ini),.agg (fi u a),.agg (fi v c),.pointer (some ⟨g3,0,none⟩),.pointer (some ⟨g4,0,none⟩),.pointer (some ⟨g5,0,none⟩),.pointer (some ⟨g6,0,none⟩),.pointer (some ⟨J,0,none⟩),.pointer (some ⟨g8,0,none⟩),undef,undef,.agg (fh aA n1 ac aD n2 ad aE n3 ae T.drop T.ord T.ini),.agg (fi u a),.agg (fi v c),Mp b1 b2 b3,.agg (rD z),undef,undef,undef,undef,undef,undef,undef,undef,undef,undef,undef,undef,undef,undef,undef,undef,undef,undef,undef,undef,undef,undef,undef,undef,undef,undef,undef,undef,undef,undef,undef,undef,undef,undef,undef,undef,undef,undef,undef,undef],defers:=[] }) (aj (av g8 (rD z) 119) (X3 T k k2 ws g6 J (aj (av g5 (fi v c) 81) (aj (av g4 (fi u a) 81) (aj (av g3 (fh aA n1 ac aD n2 ad aE n3 ae T.drop T.ord T.ini) 25) bG))) i))).Ok:=fun i a'=>bZ fun g8=>bZ fun z=>gJ (aB aF (Jo ab.o));refine pz (gf:=63) (lb:=(vA (some ⟨b1,0,none⟩) (some ⟨b2,0,none⟩) (some ⟨b3,0,none⟩))) rfl (enters_of Tryz.func63 eQ rfl) bn.o nN (fun _=>rfl) co.o (fun i=>X3 T k k2 ws g6 J (aj (av g5 (fi v c) 81) (aj (av g4 (fi u a) 81) (aj (av g3 (fh aA n1 ac aD n2 ad aE n3 ae T.drop T.ord T.ini) 25) bG))) i) (fun _=>wj) (fun i=>Jo ab.o) _ cg (fun _=>FV) cm.o ?_ ?_ ?_ ?_
 ·intro lo m i hi R' W1 K hR hI hK;have h3:=aH hI (aB (Jo ab.o) hR) (rD ws[i]) 119;have HF:=au (hK { tmps:=#[.agg (fh aA n1 ac aD n2 ad aE n3 ae T.drop T.ord T.ini),.agg (fi u a),.agg (fi v c),.pointer (some ⟨g3,0,none⟩),.pointer (some ⟨g4,0,none⟩),.pointer (some ⟨g5,0,none⟩),.pointer (some ⟨g6,0,none⟩),.pointer (some ⟨J,0,none⟩),.pointer (some ⟨W1.heap.size,0,none⟩),undef,undef,.agg (fh aA n1 ac aD n2 ad aE n3 ae T.drop T.ord T.ini),.agg (fi u a),.agg (fi v c),Mp b1 b2 b3,.agg (rD ws[i]),undef,undef,undef,undef,undef,undef,undef,undef,undef,undef,undef,undef,undef,undef,undef,undef,undef,undef,undef,undef,undef,undef,undef,undef,undef,undef,undef,undef,undef,undef,undef,undef,undef,undef,undef,undef,undef,undef,undef,undef],defers:=[] } _ (aI.nZ W1.heap.size (aI.nZ ws[i] (aI.iT ⟨ic hi,rfl⟩ (h3.perm (by ac_rfl))))));clear hI h3 hK;unfold TR;generalize ws[i]=z at *
  obtain⟨I,zl,zr,zc,zx,zy⟩:=z;unfold rD;unfold rD at HF;dsimp only at HF;dsimp only;gi_wp2;exact HF.o
 ·intro lo m i hi a' R' W1 hR hI;obtain⟨g8,h1⟩:=hI.ex;obtain⟨z,h1⟩:=h1.ex;obtain⟨⟨bw,rfl⟩,h2⟩:=h1.pure;have bb:ws[i]=z:=by rw[ic hi] at bw;injection bw
  have an:z ∈ ws:=by rw[<-bb];exact gw hi
  have bi:=au (show fB T k z.x k2 z.y=none->jw T k k2 ws (i+1)=jw T k k2 ws i from fun h=>TW hi (by rw[bb];exact h))
  have bk:=au (show ∀ d,fB T k z.x k2 z.y=some d->first (jw T k k2 ws (i+1))=vZ (first (jw T k k2 ws i)) ⟨0,0,z.kd,z.l,z.r,z.c+d.c,d⟩ from fun d h=>by
   have:=TY (T:=T) (k:=k) (k2:=k2) hi (d:=d) (by rw[bb];exact h);rw[bb] at this
   exact this)
  obtain⟨p,f,A,pc,B,qc,a6,a8,h3⟩:=X4 (h2.perm (by ac_rfl:_=aj (X3 T k k2 ws g6 J (aj (av g5 (fi v c) 81) (aj (av g4 (fi u a) 81) (aj (av g3 (fh aA n1 ac aD n2 ad aE n3 ae T.drop T.ord T.ini) 25) bG))) i) (aj (av g8 (rD z) 119) R')));have b0:=au a6;have bv:=au a8;have bp:=au hR;have H3:=au (h3.perm (by ac_rfl:_=(aj (av g8 (rD z) 119) (aj (av g6 (zk p A pc B qc) 62) (aj (av J (gv f) 4) (aj (av g3 (fh aA n1 ac aD n2 ad aE n3 ae T.drop T.ord T.ini) 25) (aj (av g4 (fi u a) 81) (aj (av g5 (fi v c) 81) (aj (kP A pc B qc p.d) (aj R' bG))))))))));have bf:=au (aB aF (aB aF (aB aF (aB aF (aB aF (aB aF (aB rF (aB hR aM))))))):((aj (av g8 (rD z) 119) (aj (av g6 (zk p A pc B qc) 62) (aj (av J (gv f) 4) (aj (av g3 (fh aA n1 ac aD n2 ad aE n3 ae T.drop T.ord T.ini) 25) (aj (av g4 (fi u a) 81) (aj (av g5 (fi v c) 81) (aj (kP A pc B qc p.d) (aj R' bG))))))))).Ok);have cr:=cy.o z an;have cv:=au (fun q h=>cp.o i q h);have bj:=au (KB.o W1 (cj.o _ _ H3.o) z an);rw[<-HK.o.1,<-HK.o.2] at bj;clear hI h1 h2 h3 bw bb an hi a6 a8 hR;obtain⟨I,zl,zr,zc,zx,zy⟩:=z;unfold rD at H3 bf ⊢;dsimp only at H3 bf cr bj bi bk ⊢;obtain⟨⟨a2,ax,az,a3,ar,ap⟩,⟨a0,aw,aq,a1,ag,af⟩,wf⟩:=Co H3.o;obtain⟨t0,t1,t2,t3,t4,t5⟩:=dW H3.o.drop.drop.drop;obtain⟨u0,u1,u2⟩:=fF H3.o.drop.drop.drop.drop;obtain⟨v0,v1,v2⟩:=fF H3.o.drop.drop.drop.drop.drop;refine wpIn_block (wpIn_seq (bR rfl (fun⟨a,w,h⟩=>h) ?_));go_wp2_with fail;refine bj.o.mono ?_;rintro e9 w3 ⟨d,er,A2,c2,B2,d2,rfl,hbp,hp⟩;rw[HK.o.1,HK.o.2] at hbp;have bx:=au (Gt hbp);have H4:=au (H3.o.fresh bf.o hp);clear bj H3 hp hbp a2 ax az a3 ar ap a0 aw aq a1 ag af wf t0 t1 t2 t3 t4 t5 u0 u1 u2 v0 v1 v2;dsimp only;go_wp2_with fail;have ck:=au (aB (aB fC fC) bf.o:(aj (aj (bE A2 c2 d.L) (bE B2 d2 d.M)) (aj (av g8 (o5 0 0 I zl zr zc 0 none 0 0 none 0 0 ⟨#[]⟩ (bs zx) (bs zy)) 119) (aj (av g6 (zk p A pc B qc) 62) (aj (av J (gv f) 4) (aj (av g3 (fh aA n1 ac aD n2 ad aE n3 ae T.drop T.ord T.ini) 25) (aj (av g4 (fi u a) 81) (aj (av g5 (fi v c) 81) (aj (kP A pc B qc p.d) (aj R' bG))))))))).Ok);have H5:=au (aH H4.o ck.o (kh d.c A2 d.L.length c2 B2 d.M.length d2 (bs d.F)) 60);clear H4;generalize w3.alloc (.cells (kh d.c A2 d.L.length c2 B2 d.M.length d2 (bs d.F)) 60)=w4 at *
  generalize w3.heap.size=g9 at *
  rcases bx.o with⟨rfl,a5⟩|⟨b5,a5⟩
  ·have cA:=oI a5;have bo:=au (bk.o d a5);clear a5 bx bi bk;refine wpIn_seq (wpIn_seq (bR rfl (fun⟨a,w,h⟩=>h) ?_));go_wp2_with fail
   iterate 5 gi_step
   have H6:=au (H5.o.perm (by ac_rfl:_=aj (av g8 (o5 0 0 I zl zr zc 0 none 0 0 none 0 0 ⟨#[]⟩ (bs zx) (bs zy)) 119) (aj (av g9 (kh d.c A2 d.L.length c2 B2 d.M.length d2 (bs d.F)) 60) (aj (aj (bE A2 c2 d.L) (bE B2 d2 d.M)) (aj (av g6 (zk p A pc B qc) 62) (aj (av J (gv f) 4) (aj (av g3 (fh aA n1 ac aD n2 ad aE n3 ae T.drop T.ord T.ini) 25) (aj (av g4 (fi u a) 81) (aj (av g5 (fi v c) 81) (aj (kP A pc B qc p.d) (aj R' bG)))))))))));have al:=au (aB aF (aB (aB fC fC) (aB aF (aB aF (aB aF (aB aF (aB aF (aB rF (aB bp.o aM)))))))):(aj (av g9 (kh d.c A2 d.L.length c2 B2 d.M.length d2 (bs d.F)) 60) (aj (aj (bE A2 c2 d.L) (bE B2 d2 d.M)) (aj (av g6 (zk p A pc B qc) 62) (aj (av J (gv f) 4) (aj (av g3 (fh aA n1 ac aD n2 ad aE n3 ae T.drop T.ord T.ini) 25) (aj (av g4 (fi u a) 81) (aj (av g5 (fi v c) 81) (aj (kP A pc B qc p.d) (aj R' bG))))))))).Ok);clear H5;obtain⟨e0,e1,e2,e3,-⟩:=bq H6.o.drop;obtain⟨⟨a2,ax,az,a3,ar,ap⟩,⟨a0,aw,aq,a1,ag,af⟩,wf⟩:=Co H6.o;refine wpIn_seq (bR rfl (fun⟨a,w,h⟩=>h) ?_);go_wp2_with fail;have cf:aI eR w (aj (av g8 (o5 0 0 I zl zr zc d.c none 0 0 none 0 0 ⟨#[]⟩ (bs zx) (bs zy)) 119) (aj (av g9 (kh d.c A2 d.L.length c2 B2 d.M.length d2 (bs d.F)) 60) (aj (aj (bE A2 c2 d.L) (bE B2 d2 d.M)) (aj (av g6 (zk p A pc B qc) 62) (aj (av J (gv f) 4) (aj (av g3 (fh aA n1 ac aD n2 ad aE n3 ae T.drop T.ord T.ini) 25) (aj (av g4 (fi u a) 81) (aj (av g5 (fi v c) 81) (aj (kP A pc B qc p.d) (aj R' bG)))))))))) _:=aJ H6.o al.o 6 (.int .i64 d.c);have b4:aI eR w (aj (av g8 (o5 0 0 I zl zr zc d.c A2 d.L.length c2 none 0 0 ⟨#[]⟩ (bs zx) (bs zy)) 119) (aj (av g9 (kh d.c A2 d.L.length c2 B2 d.M.length d2 (bs d.F)) 60) (aj (aj (bE A2 c2 d.L) (bE B2 d2 d.M)) (aj (av g6 (zk p A pc B qc) 62) (aj (av J (gv f) 4) (aj (av g3 (fh aA n1 ac aD n2 ad aE n3 ae T.drop T.ord T.ini) 25) (aj (av g4 (fi u a) 81) (aj (av g5 (fi v c) 81) (aj (kP A pc B qc p.d) (aj R' bG)))))))))) _:=aJ cf al.o 7 (.slice A2 d.L.length c2);have b6:aI eR w (aj (av g8 (o5 0 0 I zl zr zc d.c A2 d.L.length c2 B2 d.M.length d2 ⟨#[]⟩ (bs zx) (bs zy)) 119) (aj (av g9 (kh d.c A2 d.L.length c2 B2 d.M.length d2 (bs d.F)) 60) (aj (aj (bE A2 c2 d.L) (bE B2 d2 d.M)) (aj (av g6 (zk p A pc B qc) 62) (aj (av J (gv f) 4) (aj (av g3 (fh aA n1 ac aD n2 ad aE n3 ae T.drop T.ord T.ini) 25) (aj (av g4 (fi u a) 81) (aj (av g5 (fi v c) 81) (aj (kP A pc B qc p.d) (aj R' bG)))))))))) _:=aJ b4 al.o 8 (.slice B2 d.M.length d2);have H7:=au (show aI eR w (aj (av g8 (o5 0 0 I zl zr zc d.c A2 d.L.length c2 B2 d.M.length d2 (bs d.F) (bs zx) (bs zy)) 119) (aj (av g9 (kh d.c A2 d.L.length c2 B2 d.M.length d2 (bs d.F)) 60) (aj (aj (bE A2 c2 d.L) (bE B2 d2 d.M)) (aj (av g6 (zk p A pc B qc) 62) (aj (av J (gv f) 4) (aj (av g3 (fh aA n1 ac aD n2 ad aE n3 ae T.drop T.ord T.ini) 25) (aj (av g4 (fi u a) 81) (aj (av g5 (fi v c) 81) (aj (kP A pc B qc p.d) (aj R' bG)))))))))) ((((w4.setCell ⟨g8,6,none⟩ (.int .i64 d.c)).setCell ⟨g8,7,none⟩ (.slice A2 d.L.length c2)).setCell ⟨g8,8,none⟩ (.slice B2 d.M.length d2)).setCell ⟨g8,9,none⟩ (.string (bs d.F))) from aJ b6 al.o 9 (.string (bs d.F)));clear cf b4 b6 H6 e0 e1 e2 e3 a2 ax az a3 ar ap a0 aw aq a1 ag af wf;generalize (((w4.setCell ⟨g8,6,none⟩ (.int .i64 d.c)).setCell ⟨g8,7,none⟩ (.slice A2 d.L.length c2)).setCell ⟨g8,8,none⟩ (.slice B2 d.M.length d2)).setCell ⟨g8,9,none⟩ (.string (bs d.F))=w7 at *
   obtain⟨e0,e1,e2,e3,-⟩:=bq H7.o.drop;obtain⟨⟨a2,ax,az,a3,ar,ap⟩,⟨a0,aw,aq,a1,ag,af⟩,wf⟩:=Co H7.o;have tw:wrap64 (zc+d.c)=zc+d.c:=qk _ eL;refine wpIn_seq (bR rfl (fun⟨a,w,h⟩=>h) ?_);go_wp2_with fail;have H8:=au (show aI eR w (aj (av g8 (o5 0 0 I zl zr (zc+d.c) d.c A2 d.L.length c2 B2 d.M.length d2 (bs d.F) (bs zx) (bs zy)) 119) (aj (av g9 (kh d.c A2 d.L.length c2 B2 d.M.length d2 (bs d.F)) 60) (aj (aj (bE A2 c2 d.L) (bE B2 d2 d.M)) (aj (av g6 (zk p A pc B qc) 62) (aj (av J (gv f) 4) (aj (av g3 (fh aA n1 ac aD n2 ad aE n3 ae T.drop T.ord T.ini) 25) (aj (av g4 (fi u a) 81) (aj (av g5 (fi v c) 81) (aj (kP A pc B qc p.d) (aj R' bG)))))))))) (w7.setCell ⟨g8,5,none⟩ (.int .i64 (zc+d.c))) from aJ H7.o al.o 5 (.int .i64 (zc+d.c)));clear H7 tw e0 e1 e2 e3 a2 ax az a3 ar ap a0 aw aq a1 ag af wf;generalize w7.setCell ⟨g8,5,none⟩ (.int .i64 (zc+d.c))=w8 at *
   obtain⟨⟨a2,ax,az,a3,ar,ap⟩,⟨a0,aw,aq,a1,ag,af⟩,wf⟩:=Co H8.o;obtain⟨⟨p0,p1,p2,p3,p4⟩,⟨p5,p6,p7,p8,p9⟩,pf⟩:=iB H8.o.drop.drop.drop;obtain⟨FB,aa⟩:=H8.o.drop.drop.drop.drop.fst;have q0:=ay (i:=0) aa rfl;have qf:=aN aa;clear aa FB;unfold zk at H8 al;have a7:∀ wz,aI eR w (aj (av g8 (o5 0 0 I zl zr (zc+d.c) d.c A2 d.L.length c2 B2 d.M.length d2 (bs d.F) (bs zx) (bs zy)) 119) (aj (av g9 (kh d.c A2 d.L.length c2 B2 d.M.length d2 (bs d.F)) 60) (aj (aj (bE A2 c2 d.L) (bE B2 d2 d.M)) (aj (av g6 (pM p A pc B qc) 62) (aj (av J (gv f) 4) (aj (av g3 (fh aA n1 ac aD n2 ad aE n3 ae T.drop T.ord T.ini) 25) (aj (av g4 (fi u a) 81) (aj (av g5 (fi v c) 81) (aj (kP A pc B qc p.d) (aj R' bG)))))))))) wz->aI eR w (aj (av J (gv f) 4) (aj (av g6 (gO 0 0 I zl zr (zc+d.c) d.c A2 d.L.length c2 B2 d.M.length d2 (bs d.F)) 62) (aj (aj (bE A2 c2 d.L) (bE B2 d2 d.M)) (aj (aj (av g8 (o5 0 0 I zl zr (zc+d.c) d.c A2 d.L.length c2 B2 d.M.length d2 (bs d.F) (bs zx) (bs zy)) 119) (aj (av g9 (kh d.c A2 d.L.length c2 B2 d.M.length d2 (bs d.F)) 60) (kP A pc B qc p.d))) (aj R' (aj (av g5 (fi v c) 81) (aj (av g4 (fi u a) 81) (aj (av g3 (fh aA n1 ac aD n2 ad aE n3 ae T.drop T.ord T.ini) 25) bG)))))))) ((((((((((wz.setCell ⟨g6,0,none⟩ (.int .i64 0)).setCell ⟨g6,1,none⟩ (.int .i64 0)).setCell ⟨g6,2,none⟩ (.int .i64 I)).setCell ⟨g6,3,none⟩ (.int .i64 zl)).setCell ⟨g6,4,none⟩ (.int .i64 zr)).setCell ⟨g6,5,none⟩ (.int .i64 (zc+d.c))).setCell ⟨g6,6,none⟩ (.int .i64 d.c)).setCell ⟨g6,7,none⟩ (.slice A2 d.L.length c2)).setCell ⟨g6,8,none⟩ (.slice B2 d.M.length d2)).setCell ⟨g6,9,none⟩ (.string (bs d.F))):=fun wz hz=>by
    have h1:=hz.perm (by ac_rfl:_=aj (av g6 (pM p A pc B qc) 62) (aj (av J (gv f) 4) (aj (aj (bE A2 c2 d.L) (bE B2 d2 d.M)) (aj (aj (av g8 (o5 0 0 I zl zr (zc+d.c) d.c A2 d.L.length c2 B2 d.M.length d2 (bs d.F) (bs zx) (bs zy)) 119) (aj (av g9 (kh d.c A2 d.L.length c2 B2 d.M.length d2 (bs d.F)) 60) (kP A pc B qc p.d))) (aj R' (aj (av g5 (fi v c) 81) (aj (av g4 (fi u a) 81) (aj (av g3 (fh aA n1 ac aD n2 ad aE n3 ae T.drop T.ord T.ini) 25) bG))))))));have ct:(aj (av J (gv f) 4) (aj (aj (bE A2 c2 d.L) (bE B2 d2 d.M)) (aj (aj (av g8 (o5 0 0 I zl zr (zc+d.c) d.c A2 d.L.length c2 B2 d.M.length d2 (bs d.F) (bs zx) (bs zy)) 119) (aj (av g9 (kh d.c A2 d.L.length c2 B2 d.M.length d2 (bs d.F)) 60) (kP A pc B qc p.d))) (aj R' (aj (av g5 (fi v c) 81) (aj (av g4 (fi u a) 81) (aj (av g3 (fh aA n1 ac aD n2 ad aE n3 ae T.drop T.ord T.ini) 25) bG))))))).Ok:=aB aF (aB (aB fC fC) (aB (aB aF (aB aF rF)) (aB bp.o ab.o)));have h2:=mP h1 ct (.int .i64 0) (.int .i64 0) (.int .i64 I) (.int .i64 zl) (.int .i64 zr) (.int .i64 (zc+d.c)) (.int .i64 d.c) (.slice A2 d.L.length c2) (.slice B2 d.M.length d2) (.string (bs d.F));exact h2.perm (by ac_rfl)
   have ba:(aj (av g6 (gO 0 0 I zl zr (zc+d.c) d.c A2 d.L.length c2 B2 d.M.length d2 (bs d.F)) 62) (aj (aj (bE A2 c2 d.L) (bE B2 d2 d.M)) (aj (aj (av g8 (o5 0 0 I zl zr (zc+d.c) d.c A2 d.L.length c2 B2 d.M.length d2 (bs d.F) (bs zx) (bs zy)) 119) (aj (av g9 (kh d.c A2 d.L.length c2 B2 d.M.length d2 (bs d.F)) 60) (kP A pc B qc p.d))) (aj R' (aj (av g5 (fi v c) 81) (aj (av g4 (fi u a) 81) (aj (av g3 (fh aA n1 ac aD n2 ad aE n3 ae T.drop T.ord T.ini) 25) bG))))))).Ok:=aB aF (aB (aB fC fC) (aB (aB aF (aB aF rF)) (aB bp.o ab.o)));have a4:=au a7;clear a7;cases f with
   | false=>
    have am:first (jw T k k2 ws (i+1))=(if true then some (⟨0,0,I,zl,zr,zc+d.c,d⟩:Pr) else none):=by rw[bo.o,b0.o];rfl
    have HN:=au am;have H9:=au (a4.o _ H8.o);have a9:=au ba;clear a4 H8 al am ba;refine wpIn_seq (bR rfl (fun⟨a,w,h⟩=>h) ?_);go_wp2_with fail
    iterate 2 gi_step
    refine bR rfl (fun⟨a,w,h⟩=>h) ?_
    iterate 8 go_step
    generalize ((((((((((w8.setCell ⟨g6,0,none⟩ (.int .i64 0)).setCell ⟨g6,1,none⟩ (.int .i64 0)).setCell ⟨g6,2,none⟩ (.int .i64 I)).setCell ⟨g6,3,none⟩ (.int .i64 zl)).setCell ⟨g6,4,none⟩ (.int .i64 zr)).setCell ⟨g6,5,none⟩ (.int .i64 (zc+d.c))).setCell ⟨g6,6,none⟩ (.int .i64 d.c)).setCell ⟨g6,7,none⟩ (.slice A2 d.L.length c2)).setCell ⟨g6,8,none⟩ (.slice B2 d.M.length d2)).setCell ⟨g6,9,none⟩ (.string (bs d.F)))=w9 at *
    obtain⟨FB,aa⟩:=H9.o.fst;have r0:=ay (i:=0) aa rfl;have rf:=aN aa;have hA:aI eR w (aj (av J (gv true) 4) _) _:=aJ H9.o a9.o 0 (.bool true);have ao:=(hA.perm (by ac_rfl:_=aj (aj (av g8 (o5 0 0 I zl zr (zc+d.c) d.c A2 d.L.length c2 B2 d.M.length d2 (bs d.F) (bs zx) (bs zy)) 119) (aj (av g9 (kh d.c A2 d.L.length c2 B2 d.M.length d2 (bs d.F)) 60) (kP A pc B qc p.d))) (aj (aj (av g6 (gO 0 0 I zl zr (zc+d.c) d.c A2 d.L.length c2 B2 d.M.length d2 (bs d.F)) 62) (aj (av J (gv true) 4) (aj (aj (bE A2 c2 d.L) (bE B2 d2 d.M)) (aj (av g5 (fi v c) 81) (aj (av g4 (fi u a) 81) (aj (av g3 (fh aA n1 ac aD n2 ad aE n3 ae T.drop T.ord T.ini) 25) bG)))))) R'))).drop;have HF:=au (show aI eR w (aj (X3 T k k2 ws g6 J (aj (av g5 (fi v c) 81) (aj (av g4 (fi u a) 81) (aj (av g3 (fh aA n1 ac aD n2 ad aE n3 ae T.drop T.ord T.ini) 25) bG))) (i+1)) R') (w9.setCell ⟨J,0,none⟩ (.bool true)) from Es (p:=⟨0,0,I,zl,zr,zc+d.c,d⟩) (f:=true) (A:=A2) (ac:=c2) (B:=B2) (bc:=d2) HN.o (fun h=>by cases h) ao);clear hA ao H9 a9 HN aa FB;clear a2 ax az a3 ar ap a0 aw aq a1 ag af wf p0 p1 p2 p3 p4 p5 p6 p7 p8 p9 pf q0 qf;go_wp2_with fail;exact HF.o
   | true=>
    have ak:=b0.o;simp only[if_true] at ak;have cE:=cv.o p ak;by_cases bh:zc+d.c<p.c
    ·have t1:decide (zc+d.c<p.c)=true:=decide_eq_true bh;have am:first (jw T k k2 ws (i+1))=(if true then some (⟨0,0,I,zl,zr,zc+d.c,d⟩:Pr) else none):=by rw[bo.o,ak];simp[vZ,bh]
     have HN:=au am;have H9:=au (a4.o _ H8.o);have a9:=au ba;clear a4 H8 al am ba ak;refine wpIn_seq (bR rfl (fun⟨a,w,h⟩=>h) ?_);go_wp2_with fail
     iterate 2 gi_step
     refine bR rfl (fun⟨a,w,h⟩=>h) ?_
     iterate 8 go_step
     generalize ((((((((((w8.setCell ⟨g6,0,none⟩ (.int .i64 0)).setCell ⟨g6,1,none⟩ (.int .i64 0)).setCell ⟨g6,2,none⟩ (.int .i64 I)).setCell ⟨g6,3,none⟩ (.int .i64 zl)).setCell ⟨g6,4,none⟩ (.int .i64 zr)).setCell ⟨g6,5,none⟩ (.int .i64 (zc+d.c))).setCell ⟨g6,6,none⟩ (.int .i64 d.c)).setCell ⟨g6,7,none⟩ (.slice A2 d.L.length c2)).setCell ⟨g6,8,none⟩ (.slice B2 d.M.length d2)).setCell ⟨g6,9,none⟩ (.string (bs d.F)))=w9 at *
     obtain⟨FB,aa⟩:=H9.o.fst;have r0:=ay (i:=0) aa rfl;have rf:=aN aa;have hA:aI eR w (aj (av J (gv true) 4) _) _:=aJ H9.o a9.o 0 (.bool true);have ao:=(hA.perm (by ac_rfl:_=aj (aj (av g8 (o5 0 0 I zl zr (zc+d.c) d.c A2 d.L.length c2 B2 d.M.length d2 (bs d.F) (bs zx) (bs zy)) 119) (aj (av g9 (kh d.c A2 d.L.length c2 B2 d.M.length d2 (bs d.F)) 60) (kP A pc B qc p.d))) (aj (aj (av g6 (gO 0 0 I zl zr (zc+d.c) d.c A2 d.L.length c2 B2 d.M.length d2 (bs d.F)) 62) (aj (av J (gv true) 4) (aj (aj (bE A2 c2 d.L) (bE B2 d2 d.M)) (aj (av g5 (fi v c) 81) (aj (av g4 (fi u a) 81) (aj (av g3 (fh aA n1 ac aD n2 ad aE n3 ae T.drop T.ord T.ini) 25) bG)))))) R'))).drop;have HF:=au (show aI eR w (aj (X3 T k k2 ws g6 J (aj (av g5 (fi v c) 81) (aj (av g4 (fi u a) 81) (aj (av g3 (fh aA n1 ac aD n2 ad aE n3 ae T.drop T.ord T.ini) 25) bG))) (i+1)) R') (w9.setCell ⟨J,0,none⟩ (.bool true)) from Es (p:=⟨0,0,I,zl,zr,zc+d.c,d⟩) (f:=true) (A:=A2) (ac:=c2) (B:=B2) (bc:=d2) HN.o (fun h=>by cases h) ao);clear hA ao H9 a9 HN aa FB;clear a2 ax az a3 ar ap a0 aw aq a1 ag af wf p0 p1 p2 p3 p4 p5 p6 p7 p8 p9 pf q0 qf;go_wp2_with fail;exact HF.o
    ·have t1:decide (zc+d.c<p.c)=false:=decide_eq_false bh;have am:first (jw T k k2 ws (i+1))=(if true then some p else none):=by rw[bo.o,ak];simp[vZ,bh]
     have ao:=(H8.o.perm (by ac_rfl:_=aj (aj (av g8 (o5 0 0 I zl zr (zc+d.c) d.c A2 d.L.length c2 B2 d.M.length d2 (bs d.F) (bs zx) (bs zy)) 119) (aj (av g9 (kh d.c A2 d.L.length c2 B2 d.M.length d2 (bs d.F)) 60) (aj (bE A2 c2 d.L) (bE B2 d2 d.M)))) (aj (aj (av g6 (pM p A pc B qc) 62) (aj (av J (gv true) 4) (aj (kP A pc B qc p.d) (aj (av g5 (fi v c) 81) (aj (av g4 (fi u a) 81) (aj (av g3 (fh aA n1 ac aD n2 ad aE n3 ae T.drop T.ord T.ini) 25) bG)))))) R'))).drop;have HF:=au (show aI eR w (aj (X3 T k k2 ws g6 J (aj (av g5 (fi v c) 81) (aj (av g4 (fi u a) 81) (aj (av g3 (fh aA n1 ac aD n2 ad aE n3 ae T.drop T.ord T.ini) 25) bG))) (i+1)) R') w8 from Es (p:=p) (f:=true) (A:=A) (ac:=pc) (B:=B) (bc:=qc) am (fun h=>by cases h) ao);clear a4 H8 al am ba ak ao;refine wpIn_seq (bR rfl (fun⟨a,w,h⟩=>h) ?_);go_wp2_with fail;gi_wp2;exact HF.o
  ·have t1:(er != 0)=true:=by simp[b5]
   have HF:=au (show aI eR w (aj (X3 T k k2 ws g6 J (aj (av g5 (fi v c) 81) (aj (av g4 (fi u a) 81) (aj (av g3 (fh aA n1 ac aD n2 ad aE n3 ae T.drop T.ord T.ini) 25) bG))) (i+1)) R') w4 from Es (by rw[bi.o a5];exact b0.o) bv.o (H5.o.drop.drop.drop.perm (by ac_rfl)));clear bx a5 b5 bi bk H5;refine wpIn_seq (wpIn_seq (bR rfl (fun⟨a,w,h⟩=>h) ?_));go_wp2_with fail;gi_wp2;exact HF.o
 ·intro D R W1 hR hI;obtain⟨p,f,A,pc,B,qc,a6,a8,h3⟩:=X4 hI;have cq:=au (show br=(if f then some p else none) from b9.o.symm.trans a6);have bv:=au a8;have H3:=au (h3.perm (by ac_rfl:_=aj (av g6 (zk p A pc B qc) 62) (aj (av J (gv f) 4) (aj (kP A pc B qc p.d) (aj (aX D (.deferred (some []))) (aj R (aj (av g5 (fi v c) 81) (aj (av g4 (fi u a) 81) (aj (av g3 (fh aA n1 ac aD n2 ad aE n3 ae T.drop T.ord T.ini) 25) bG)))))))));have bm:=au (aB aF (aB aF (aB rF (aB bg (aB hR ab.o)))):(aj (av g6 (zk p A pc B qc) 62) (aj (av J (gv f) 4) (aj (kP A pc B qc p.d) (aj (aX D (.deferred (some []))) (aj R (aj (av g5 (fi v c) 81) (aj (av g4 (fi u a) 81) (aj (av g3 (fh aA n1 ac aD n2 ad aE n3 ae T.drop T.ord T.ini) 25) bG)))))))).Ok);have ch:=au (aB rF (aB bg (aB hR ab.o)):(aj (kP A pc B qc p.d) (aj (aX D (.deferred (some []))) (aj R (aj (av g5 (fi v c) 81) (aj (av g4 (fi u a) 81) (aj (av g3 (fh aA n1 ac aD n2 ad aE n3 ae T.drop T.ord T.ini) 25) bG)))))).Ok);have cD:=au (show ∀ X Y:CH.aU,∀ F0 w0 W,aI F0 w0 (aj X (aj Y (aj R (aj (av g5 (fi v c) 81) (aj (av g4 (fi u a) 81) (aj (av g3 (fh aA n1 ac aD n2 ad aE n3 ae T.drop T.ord T.ini) 25) bG)))))) W->aI F0 w0 (aj (aj R (aj (av g5 (fi v c) 81) (aj (av g4 (fi u a) 81) (aj (av g3 (fh aA n1 ac aD n2 ad aE n3 ae T.drop T.ord T.ini) 25) bG)))) (aj X Y)) W from fun X Y F0 w0 W h=>h.perm (by ac_rfl));have cw:=au (aB hR ab.o:(aj R (aj (av g5 (fi v c) 81) (aj (av g4 (fi u a) 81) (aj (av g3 (fh aA n1 ac aD n2 ad aE n3 ae T.drop T.ord T.ini) 25) bG)))).Ok);generalize (aj R (aj (av g5 (fi v c) 81) (aj (av g4 (fi u a) 81) (aj (av g3 (fh aA n1 ac aD n2 ad aE n3 ae T.drop T.ord T.ini) 25) bG))))=RB at *
  clear hI h3 a6 a8 b9;unfold zk at H3 bm;generalize w.heap.size=cG at *
  go_upto_region 9 with (fail);have H4:=au (H3.o.drew bm.o);clear H3;refine eD [2,3] [0,1,1,2] (fun w'=>aI eR w (aj (av g6 (pM p A pc B qc) 62) (aj (av J (gv f) 4) (aj (kP A pc B qc p.d) (aj (aX D (.deferred (some []))) RB)))) w') [fun w'=>aI eR w (aj (av g6 (pM p A pc B qc) 62) (aj (av J (gv f) 4) (aj (kP A pc B qc p.d) (aj (aX D (.deferred (some []))) RB)))) w',fun w'=>aI eR w (aj (av g6 (pM p A pc B qc) 62) (aj (av J (gv f) 4) (aj (kP A pc B qc p.d) (aj (aX D (.deferred (some []))) RB)))) w'] ⟨fun _ h=>h,fun _ h=>h,trivial⟩ rfl eQ eQ eQ H4.o ?_;generalize W1.drew=W2 at *
  refine Dm (v:=.agg (pM p A pc B qc)) gh (fun w' be=>?_) ?_
  ·obtain⟨⟨p0,p1,p2,p3,p4⟩,⟨p5,p6,p7,p8,p9⟩,pf⟩:=iB (show aI eR w (aj (av g6 (pM p A pc B qc) 62) (aj (av J (gv f) 4) (aj (kP A pc B qc p.d) (aj (aX D (.deferred (some []))) RB)))) w' from be);clear be bm;go_simp
  refine Dm (v:=.bool f) gh (fun w' be=>?_) ?_
  ·obtain⟨FB,aa⟩:=(show aI eR w (aj (av g6 (pM p A pc B qc) 62) (aj (av J (gv f) 4) (aj (kP A pc B qc p.d) (aj (aX D (.deferred (some []))) RB)))) w' from be).drop.fst;have q0:=ay (i:=0) aa rfl;clear be bm;go_simp
  simp only[Act.put,ja,iz,i6];refine bB rfl gh (fun K hK=>?_);obtain⟨⟨p0,p1,p2,p3,p4⟩,⟨p5,p6,p7,p8,p9⟩,pf⟩:=iB H4.o;go_wp2_with fail;have H5:=au (show aI eR w (aj (av g6 (pM p A pc B qc) 62) (aj (av J (gv f) 4) (aj (kP A pc B qc p.d) (aj (aX D (.deferred (some []))) RB)))) ((((((((((W2.setCell ⟨g6,0,none⟩ (.int .i64 p.i)).setCell ⟨g6,1,none⟩ (.int .i64 p.j)).setCell ⟨g6,2,none⟩ (.int .i64 p.kd)).setCell ⟨g6,3,none⟩ (.int .i64 p.l)).setCell ⟨g6,4,none⟩ (.int .i64 p.r)).setCell ⟨g6,5,none⟩ (.int .i64 p.c)).setCell ⟨g6,6,none⟩ (.int .i64 p.d.c)).setCell ⟨g6,7,none⟩ (.slice A p.d.L.length pc)).setCell ⟨g6,8,none⟩ (.slice B p.d.M.length qc)).setCell ⟨g6,9,none⟩ (.string (bs p.d.F))) from mP H4.o (aB aF ch.o) (.int .i64 p.i) (.int .i64 p.j) (.int .i64 p.kd) (.int .i64 p.l) (.int .i64 p.r) (.int .i64 p.c) (.int .i64 p.d.c) (.slice A p.d.L.length pc) (.slice B p.d.M.length qc) (.string (bs p.d.F)));refine hK.o _ _ H5.o ?_;clear hK H4 p0 p1 p2 p3 p4 p5 p6 p7 p8 p9 pf;generalize ((((((((((W2.setCell ⟨g6,0,none⟩ (.int .i64 p.i)).setCell ⟨g6,1,none⟩ (.int .i64 p.j)).setCell ⟨g6,2,none⟩ (.int .i64 p.kd)).setCell ⟨g6,3,none⟩ (.int .i64 p.l)).setCell ⟨g6,4,none⟩ (.int .i64 p.r)).setCell ⟨g6,5,none⟩ (.int .i64 p.c)).setCell ⟨g6,6,none⟩ (.int .i64 p.d.c)).setCell ⟨g6,7,none⟩ (.slice A p.d.L.length pc)).setCell ⟨g6,8,none⟩ (.slice B p.d.M.length qc)).setCell ⟨g6,9,none⟩ (.string (bs p.d.F)))=W3 at *
  refine bB rfl gh (fun K hK=>?_);have h5:=H5.o.perm (by ac_rfl:_=aj (av J (gv f) 4) (aj (av g6 (pM p A pc B qc) 62) (aj (kP A pc B qc p.d) (aj (aX D (.deferred (some []))) RB))));obtain⟨FB,aa⟩:=h5.fst;have q0:=ay (i:=0) aa rfl;have qf:=aN aa;go_wp2_with fail;have h6:aI eR w (aj (av J (gv f) 4) _) _:=aJ h5 (aB aF ch.o) 0 (.bool f);have H6:=au (h6.perm (by ac_rfl:_=(aj (av g6 (pM p A pc B qc) 62) (aj (av J (gv f) 4) (aj (kP A pc B qc p.d) (aj (aX D (.deferred (some []))) RB))))));refine hK.o _ _ H6.o ?_;clear hK h5 h6 FB aa q0 qf H5;generalize W3.setCell _ _=W4 at *
  refine iV ?_;have h7:=H6.o.perm (by ac_rfl:_=aj (aX D (.deferred (some []))) (aj (av g6 (pM p A pc B qc) 62) (aj (av J (gv f) 4) (aj (kP A pc B qc p.d) RB))));obtain⟨FD,hD,-,ca⟩:=h7.take bg (aB aF (aB aF (aB rF cw.o)));have HD:=au hD.1;have h8:=ca _ _ (fK hD (.deferred none));have HP:=au ((h8.drop.drop.drop.perm (by ac_rfl:_=aj RB (kP A pc B qc p.d))).drop.post rF);obtain⟨F6,cc⟩:=h8.drop.fst;obtain⟨F7,cb⟩:=h8.drop.drop.fst;have ci:=au cc.1;have cx:=au (ay (i:=0) cb rfl);have e1:br.getD Lp=p/\br.isSome=f:=by
   rw[cq.o];cases f with
   | false=>exact⟨(bv.o rfl).symm,rfl⟩
   | true=>exact⟨rfl,rfl⟩
  have HE:=au e1;clear h7 hD ca h8 cc cb F6 F7 FD e1 H6;go_wp2_with fail;refine⟨by simp,.inl ⟨_,_,rfl,run_takeDeferred HD.o,?_⟩⟩;refine⟨_,aew rfl rfl rfl ci.o cx.o,A,pc,B,qc,?_,?_⟩
  ·rw[HE.o.1,HE.o.2];rfl
  ·rw[HE.o.1];exact HP.o
 ·intro D c R W1 hR hI;exact hI.no.elim
open Asn (jI Ex WJ pE)
def fT(p:wW × WW):List Value:=[.int .i64 p.1.k,.slice p.2.V p.1.vs.length p.2.vc,.slice p.2.L p.1.ls.length p.2.lc]
theorem Ea(l:List (wW × WW)):∀ u ∈ l.flatMap fT,u.oneCell'=true:=by
 intro u hu;obtain⟨x,-,hx⟩:=List.mem_flatMap.1 hu;unfold fT at hx;simp only[np,sb,or_false] at hx;rcases hx with rfl|rfl|rfl<;>rfl
def oD:List (wW × WW)->CH.aU
 | []=>bG
 | p::l=>aj (pV p.1 p.2) (oD l)
theorem yZ:∀ {l:List (wW × WW)},(oD l).Ok
 | []=>aM
 | p::l=>aB zi yZ
theorem GN(p:wW × WW):∀ l:List (wW × WW),oD (l++[p])=aj (oD l) (pV p.1 p.2)
 | []=>by show aj (pV p.1 p.2) bG=aj bG (pV p.1 p.2);rw[rO]
 | q::l=>by show aj (pV q.1 q.2) (oD (l++[p]))=aj (aj (pV q.1 q.2) (oD l)) (pV p.1 p.2);rw[GN p l];ac_rfl
theorem XB{w:World}:∀ {l:List (wW × WW)} {F:Nat->Prop},oD l w F->∀ p ∈ l,lT w p.1 p.2
 | [],_,_,_,hp=>by cases hp
 | q::l,F,h,p,hp=>by
  obtain⟨F1,F2,h1,h2,-,-⟩:=h;rcases List.mem_cons.1 hp with rfl|hp
  ·exact XR h1
  ·exact XB h2 p hp
theorem aa5:eO Tryz.prog 72 81 (.agg (ij 0 none 0 0 none 0 0)) 3 56:=⟨Tryz.underlying72,by kernel_rfl,by decide,by decide⟩
structure Jf(w:World)(T:eW)(n:aR)(l:List (wW × WW))(A B:eV):Prop where
 eq:l.map (·.1)=n.ws.map (jf T n.k)
 row:sI fT 3 w A l
 dr:iJ w B (n.ws.map (bQ T n.k))
 all:∀ p ∈ l,lT w p.1 p.2
variable{w':World}{sz c n:Nat}{v:Value}{e:TypeId}{xs:List Value}{a:Act}{Q:Exit->Act->World->Prop}
theorem Jf.below{n:aR}{l:List (wW × WW)}{B:eV}(h:Jf w T n l A B)(hb:Below w.heap.size w w'):Jf w' T n l A B:=
 ⟨h.eq,aZ h.row hb,h.dr.below hb,fun p hp=>(h.all p hp).below hb⟩
def qH(w:World)(T:eW)(n:aR)(e:Ending)(w':World):Prop:=
 if bI T&&eY n then
  ∃ l A c B d,e=.returned (.tuple #[.agg (fx A n.ws.length c B n.ws.length d),.bool true])/\Below w.heap.size w w'/\Jf w' T n l A B/\n.ws.length<=c/\n.ws.length<=d
 else e=.returned (.tuple #[.agg (fx none 0 0 none 0 0),.bool false])/\Below w.heap.size w w'
theorem XC{tmps:Array Value}{cs:Array Value}(h:tmps.getD 4 undef=.pointer (some ⟨g,0,none⟩))(M:cs.size=2)(J:w.heap[g]?=some (.cells cs 74))(I:tmps.getD 5 undef=v):(results Tryz.f23 tmps).run Tryz.prog w=.ok (.tuple #[.agg cs,v]) w:=by
 subst I;exact cZ rfl tmps w g 74 cs (0,0) h J Tryz.underlying74 (by rw[M];kernel_rfl)
theorem bW{a b:Value}(h:aI F0 w0 (aj (av g #[a,b] t) X) w):w.cell? ⟨g,0,none⟩=some a/\w.cell? ⟨g,1,none⟩=some b/\∀ i,w.frozen? ⟨g,i,none⟩=false:=by
 obtain⟨F,hF⟩:=h.fst;exact⟨ay hF rfl,ay hF rfl,aN hF⟩
def Uk(e:TypeId)(sz:Nat)(A:eV)(c n:Nat)(xs cs:List Value)(q:Value):List Value->CH.aU
 | []=>aV e sz (.slice A n c) n xs
 | [v]=>lW fun g:Nat=>tu (v=.slice (some ⟨g,0,none⟩) 1 1) (aj (av g cs.toArray e) (aV e sz (.slice A n c) n xs))
 | [_,v]=>lW fun A2:eV=>lW fun c2:Nat=>tu (v=.slice A2 (n+1) c2/\n+1<=c2) (aV e sz (.slice A2 (n+1) c2) (n+1) (xs++cs))
 | [_,v,p]=>lW fun A2:eV=>lW fun c2:Nat=>tu ((v=.slice A2 (n+1) c2/\n+1<=c2)/\p=q) (aV e sz (.slice A2 (n+1) c2) (n+1) (xs++cs))
 | _=>bG
theorem Jg{cs:List Value}{q:Value}:∀ vs,(Uk e sz A c n xs cs q vs).Ok
 | []=>dQ
 | [_]=>bZ fun _=>gJ aO
 | [_,_]=>bZ fun _=>bZ fun _=>gJ dQ
 | [_,_,_]=>bZ fun _=>bZ fun _=>gJ dQ
 | _::_::_::_::_=>aM
theorem MC(k:Int)(V:eV)(a b:Nat)(L:eV)(d e:Nat)(w:World):(Instr.buildSlice 72 1 #[(0,.agg (ij k V a b L d e))]).run Tryz.prog w=.ok (.slice (some ⟨w.heap.size,0,none⟩) 1 1) (w.alloc (.cells (ij k V a b L d e) 81)):=by go_simp
theorem uK(x:Int)(w:World):(Instr.buildSlice 39 1 #[(0,.int .i64 x)]).run Tryz.prog w=.ok (.slice (some ⟨w.heap.size,0,none⟩) 1 1) (w.alloc (.cells (fR x) 3)):=by go_simp
theorem Am{P:Program}{o:Oper}{bT:Act->World->Prop}(h:∀ K:Act->World->Prop,Hid (∀ a' w',bT a' w'->K a' w')->o.wp P a W K Q):o.wp P a W bT Q:=h bT (au fun _ _ h=>h)
theorem oK:∀ (ds:List Nat) (vs:List Value) (a:Act),(fW a ds vs).tmps.size=a.tmps.size
 | [],_,_=>by simp[fW]
 | _::_,[],_=>rfl
 | d::ds,v::vs,a=>by
  simp only[fW];rw[oK ds vs];simp[Act.put]
theorem aa6{o:Oper}{x:Operand}(hop:o.op=.fieldAddr 74 x 0)(hx:a.eval x=.pointer (some ⟨g,0,none⟩)):(execOp a.eval o).run Tryz.prog w=.ok (.value (.pointer (some ⟨g,0,none⟩))) w:=by
 unfold execOp;simp only[hop,hx];go_simp
section
variable{w0 W:World}{F0:Nat→Prop}{Z:CH.aU}{ops:Array Oper}{a:Act}{Q:Exit→Act→World→Prop}{A B:eV}{c d n:Nat}{xs cs:List Value}
theorem Cg{o:Oper}{q:Value}(M:Z.Ok)(h:aI F0 w0 (aj (Uk e sz A c n xs cs q []) Z) W)(I:∀ w:World,(execOp a.eval o).run Tryz.prog w=.ok (.value (.slice (some ⟨w.heap.size,0,none⟩) 1 1)) (w.alloc (.cells cs.toArray e))):
  o.wp Tryz.prog a W (fun J w'=>∃ v,J=a.put o.dst v/\aI F0 w0 (aj (Uk e sz A c n xs cs q ([]++[v])) Z) w') Q:=by
 unfold Oper.wp;rw[I W];exact⟨_,rfl,aI.nZ W.heap.size (aI.iT rfl ((aH h (show aU.Ok _ from aB dQ M) cs.toArray e).perm (by show _=aj (aj (av W.heap.size cs.toArray e) (aV e sz (.slice A n c) n xs)) Z;unfold Uk;ac_rfl)))⟩
theorem Ch{o:Oper}{z:Value}{bytes:Nat}{q:Value}(S:eO Tryz.prog t e z sz bytes)(J:bytes<=1000)(s x:Operand)(ho:o.op=.call { callee:=.builtin .append,args:=#[s,x],argTypes:=#[t,t] })(hZ:Z.Ok)(h:aI F0 w0 (aj (Uk e sz A c n xs cs q [v]) Z) W)(hs:a.eval s=.slice A n c)(hx:a.eval x=v)(hn:n<=1000000)(h1:cs.length=sz)(h2:∀ u ∈ cs,u.oneCell'=true):
  o.wp Tryz.prog a W (fun a' w'=>∃ v',a'=a.put o.dst v'/\aI F0 w0 (aj (Uk e sz A c n xs cs q ([v]++[v'])) Z) w') Q:=by
 obtain⟨g,h0⟩:=h.ex;obtain⟨rfl,h3⟩:=h0.pure;have h4:=h3.perm (by ac_rfl:_=aj (aV e sz (.slice A n c) n xs) (aj (av g cs.toArray e) Z));obtain⟨F,hF⟩:=h4.drop.fst;refine Jm S J s x ho (A:=A) (c:=c) (n:=n) (g:=g) (xs:=xs) (cs:=cs) hs hx hn aO h4 h1 h2 (fun j y hu=>ay hF (by rw[mr];exact hu)) ?_;intro A2 c2 w' M;obtain⟨FR,I⟩:=M.fst;exact⟨_,rfl,aI.nZ A2 (aI.nZ c2 (aI.iT ⟨rfl,(vD I.1).1⟩ M.kQ.drop))⟩
theorem QW{e':TypeId}{M:Nat}{q q':Value}{A':eV}{c' n':Nat}{J cs':List Value}{v1 v2 v3 u1 u2:Value}{R:CH.aU}(h:aI F0 w0 (aj (Uk e sz A c n xs cs q [v1,v2,v3]) (aj (Uk e' M A' c' n' J cs' q' [u1,u2]) R)) W):
  ∃ A2 c2 B2 I,v2=.slice A2 (n+1) c2/\v3=q/\u2=.slice B2 (n'+1) I/\n+1<=c2/\n'+1<=I/\aI F0 w0 (aj (aj (aV e sz (.slice A2 (n+1) c2) (n+1) (xs++cs)) (aV e' M (.slice B2 (n'+1) I) (n'+1) (J++cs'))) R) W:=by
 obtain⟨A2,h1⟩:=h.ex;obtain⟨c2,h1⟩:=h1.ex;obtain⟨⟨⟨rfl,k1⟩,rfl⟩,h2⟩:=h1.pure;obtain⟨B2,h3⟩:=h2.kQ.ex;obtain⟨I,h3⟩:=h3.ex;obtain⟨⟨rfl,k2⟩,h4⟩:=h3.pure;exact⟨A2,c2,B2,I,rfl,rfl,rfl,k1,k2,h4.perm (by ac_rfl)⟩
end
theorem Eb{a:TA}(hT:jV w T a)(hz:LZ w){n:aR}{An:eV}{cn:Nat}(hA:fu w An n.ws)(hl:n.ws.length<=1000000)(hw:∀ x ∈ n.ws,x.length<=1000000):
  Calls Tryz.prog 23 #[dI T a,uU n An cn] w (qH w T n):=by
 have h0:=aH (aI.begin w) aM (dN T a) 25;have h1:=aH h0 aO (ff n.k An n.ws.length cn) 28;have h2:=aH h1 aO (fx none 0 0 none 0 0) 74;simp only[ik] at h2;have H2:=au h2;have aa:=au (fun W X (h:aI eR w X W)=>(show Below w.heap.size w W from h.mod.below (fun _ _ h=>h)));have KV:=au (fun W (I:Below w.heap.size w W)=>mg (hT.below I) (hz.below I));have KN:=au (fun W (I:Below w.heap.size w W)=>jL (n:=n) (c:=cn) (aZ hA I) hl hw (hz.below I));have KW:=au (fun W (I:Below w.heap.size w W) x (hx:x ∈ n.ws)=>Eo (hT.below I) (hz.below I) n.k x (hw x hx));have KD:=au (fun W (I:Below w.heap.size w W) x (hx:x ∈ n.ws)=>yY (hT.below I) (hz.below I) n.k x (hw x hx));have HA:=au hA;clear hT hz hA hl hw h0 h1 h2;unfold dI uU at *
 unfold dN at *
 generalize T.rs.length=n1 at *
 generalize T.ds.length=n2 at *
 generalize T.es.length=n3 at *
 obtain⟨m,hm⟩:∃ m,m=n.ws.length:=⟨_,rfl⟩;have HM:=au hm;obtain⟨aA,ac,aD,ad,aE,ae⟩:=a;dsimp only at H2 KV KN KW KD ⊢;rw[<-hm] at H2 KN ⊢;clear hm;generalize a5:((w.alloc (.cells (fh aA n1 ac aD n2 ad aE n3 ae T.drop T.ord T.ini) 25)).alloc (.cells (ff n.k An m cn) 28)).alloc (.cells (fx none 0 0 none 0 0) 74)=w2 at H2;generalize az:w.heap.size+1=g1 at H2;generalize a3:g1+1=g2 at H2;cases af:bI T with
 | false=>
  have a7:=au (show ∀ W,Below w.heap.size w W->qH w T n (.returned (.tuple #[.agg (fx none 0 0 none 0 0),.bool false])) W from fun W I=>by unfold qH;rw[af];exact⟨rfl,I⟩);rw[af] at KV;clear KN KW KD HA af
  go_enter Tryz.func23,Tryz.ntmps23
  go_upto_region 1 with (fail);clear a5 az a3;obtain⟨t0,t1,t2,t3,t4,t5⟩:=dW H2.o.drop.drop;obtain⟨s0,s1,M⟩:=bW H2.o.drop;obtain⟨r0,r1,rf⟩:=bW H2.o;have ai:=au (KV.o w2 (aa.o _ _ H2.o));clear KV;go_wp2_with fail;refine ai.o.mono ?_;rintro e9 w3 ⟨rfl,I⟩;have H3:=au (H2.o.below aO I);clear ai H2 I t0 t1 t2 t3 t4 t5 s0 s1 M r0 r1 rf;obtain⟨t0,t1,t2,t3,t4,t5⟩:=dW H3.o.drop.drop;obtain⟨s0,s1,M⟩:=bW H3.o.drop;obtain⟨r0,r1,rf⟩:=bW H3.o;dsimp only;go_wp2;have H5:=au (oV H3.o aO (.slice none 0 0) (.slice none 0 0));obtain⟨f2,an⟩:=H5.o.fst;refine bodyPost_ret (XC rfl rfl an.1 rfl) rfl ?_;exact a7.o _ (aa.o _ _ H5.o)
 | true=>
  cases ak:eY n with
  | false=>
   have a7:=au (show ∀ W,Below w.heap.size w W->qH w T n (.returned (.tuple #[.agg (fx none 0 0 none 0 0),.bool false])) W from fun W I=>by unfold qH;rw[af,ak];exact⟨rfl,I⟩);rw[af] at KV;rw[ak] at KN;clear KW KD HA af ak
   go_enter Tryz.func23,Tryz.ntmps23
   go_upto_region 1 with (fail);clear a5 az a3;obtain⟨t0,t1,t2,t3,t4,t5⟩:=dW H2.o.drop.drop;obtain⟨s0,s1,M⟩:=bW H2.o.drop;obtain⟨r0,r1,rf⟩:=bW H2.o;have ai:=au (KV.o w2 (aa.o _ _ H2.o));clear KV;go_wp2_with fail;refine ai.o.mono ?_;rintro e9 w3 ⟨rfl,I⟩;have H3:=au (H2.o.below aO I);clear ai H2 I t0 t1 t2 t3 t4 t5 s0 s1 M r0 r1 rf;obtain⟨t0,t1,t2,t3,t4,t5⟩:=dW H3.o.drop.drop;obtain⟨s0,s1,M⟩:=bW H3.o.drop;obtain⟨r0,r1,rf⟩:=bW H3.o;dsimp only;have ao:=au (KN.o w3 (aa.o _ _ H3.o));clear KN;go_wp2_with fail;refine ao.o.mono ?_;rintro e9 w4 ⟨rfl,I⟩;have H4:=au (H3.o.below aO I);clear ao H3 I t0 t1 t2 t3 t4 t5 s0 s1 M r0 r1 rf;obtain⟨t0,t1,t2,t3,t4,t5⟩:=dW H4.o.drop.drop;obtain⟨s0,s1,M⟩:=bW H4.o.drop;obtain⟨r0,r1,rf⟩:=bW H4.o;have H3:=H4;clear H4;dsimp only;go_wp2;have H5:=au (oV H3.o aO (.slice none 0 0) (.slice none 0 0));obtain⟨f2,an⟩:=H5.o.fst;refine bodyPost_ret (XC rfl rfl an.1 rfl) rfl ?_;exact a7.o _ (aa.o _ _ H5.o)
  | true=>
   have b3:=au (show ∀ W l A c B d,Below w.heap.size w W->Jf W T n l A B->m<=c->m<=d->qH w T n (.returned (.tuple #[.agg (fx A m c B m d),.bool true])) W from fun W l A c B d I hr hc hd=>by unfold qH;rw[af,ak];rw[HM.o] at hc hd ⊢;exact⟨l,A,c,B,d,rfl,I,hr,hc,hd⟩)
   have a1:=au (show ∀ x ∈ n.ws,pO T n.k x=(jf T n.k x,true)/\pJ T n.k x=(bQ T n.k x,0) from fun x hx=>by
    have h1:=(aW.1 ak).1 x hx;unfold pO pJ;rw[h1,af]
    exact⟨rfl,rfl⟩)
   have ar:=au (show m<=6 from by rw[HM.o];exact(aW.1 ak).2.2);rw[af] at KV;rw[ak] at KN;clear af ak
   have bz:=au (fun W I x hx=>(KW.o W I x hx).mono fun e w' (h:En W T n.k x e w')=>(show ∃ a:WW,e=.returned (.tuple #[wX (jf T n.k x) a,.bool true])/\bT W eR (pV (jf T n.k x) a) w' from by
    unfold En at h;rw[(a1.o x hx).1] at h
    exact h))
   have ba:=au (fun W I x hx=>(KD.o W I x hx).mono fun e w' (h:aT W (.tuple (tM (pJ T n.k x).1 (pJ T n.k x).2)) e w')=>(show aT W (.tuple (tM (bQ T n.k x) 0)) e w' from by
    rw[(a1.o x hx).2] at h
    exact h))
   clear KW KD a1
   go_enter Tryz.func23,Tryz.ntmps23
   go_upto_region 1 with (fail);clear a5 az a3;obtain⟨t0,t1,t2,t3,t4,t5⟩:=dW H2.o.drop.drop;obtain⟨s0,s1,M⟩:=bW H2.o.drop;obtain⟨r0,r1,rf⟩:=bW H2.o;have ai:=au (KV.o w2 (aa.o _ _ H2.o));clear KV;go_wp2_with fail;refine ai.o.mono ?_;rintro e9 w3 ⟨rfl,I⟩;have H3:=au (H2.o.below aO I);clear ai H2 I t0 t1 t2 t3 t4 t5 s0 s1 M r0 r1 rf;obtain⟨t0,t1,t2,t3,t4,t5⟩:=dW H3.o.drop.drop;obtain⟨s0,s1,M⟩:=bW H3.o.drop;obtain⟨r0,r1,rf⟩:=bW H3.o;dsimp only;have ao:=au (KN.o w3 (aa.o _ _ H3.o));clear KN;go_wp2_with fail;refine ao.o.mono ?_;rintro e9 w4 ⟨rfl,I⟩;have H4:=au (H3.o.below aO I);clear ao H3 I t0 t1 t2 t3 t4 t5 s0 s1 M r0 r1 rf;obtain⟨t0,t1,t2,t3,t4,t5⟩:=dW H4.o.drop.drop;obtain⟨s0,s1,M⟩:=bW H4.o.drop;obtain⟨r0,r1,rf⟩:=bW H4.o;have H3:=H4;clear H4;dsimp only;have H5:=au (aH H3.o aO (fx none 0 0 none 0 0) 74);go_upto_region 4 with (fail);generalize w4.alloc (.cells (fx none 0 0 none 0 0) 74)=w5 at *
   generalize w4.heap.size=g3 at *
   clear H3 t0 t1 t2 t3 t4 t5 s0 s1 M r0 r1 rf;obtain⟨s0,s1,M⟩:=bW H5.o.drop.drop;have h6:aI eR w (aj (av g3 (fx none 0 0 none 0 0) 74) (aj (aV 81 3 (.slice none 0 0) 0 []) (aj (aV 3 1 (.slice none 0 0) 0 []) (aj (oD []) (aj (av g2 (fx none 0 0 none 0 0) 74) (aj (av g1 (ff n.k An m cn) 28) (aj (av w.heap.size (fh aA n1 ac aD n2 ad aE n3 ae T.drop T.ord T.ini) 25) bG))))))) w5:=(((H5.o.fresh aO (⟨fun _=>False,gu _ 81 3,Mod.refl _ _,fun i hi=>.inl hi⟩:bT w5 eR (aV 81 3 (.slice none 0 0) 0 []) w5)).fresh aO (⟨fun _=>False,gu _ 3 1,Mod.refl _ _,fun i hi=>.inl hi⟩:bT w5 eR (aV 3 1 (.slice none 0 0) 0 []) w5)).fresh aO (⟨fun _=>False,fun _ h=>h,Mod.refl _ _,fun i hi=>.inl hi⟩:bT w5 eR bG w5)).perm (by ac_rfl);have H6:=au h6;clear h6;go_wp2_with fail;go_loopw [25] (fun kk wr=>∃ (i:Nat) (l:List (wW × WW)) (A:eV) (c:Nat) (B:eV) (d:Nat),kk=.int .i64 i/\i<=m/\l.map (·.1)=(n.ws.take i).map (jf T n.k)/\i<=c/\i<=d/\aI eR w (aj (av g3 (fx A i c B i d) 74) (aj (aV 81 3 (.slice A i c) i (l.flatMap fT)) (aj (aV 3 1 (.slice B i d) i (((n.ws.take i).map (bQ T n.k)).map (Value.int .i64))) (aj (oD l) (aj (av g2 (fx none 0 0 none 0 0) 74) (aj (av g1 (ff n.k An m cn) 28) (aj (av w.heap.size (fh aA n1 ac aD n2 ad aE n3 ae T.drop T.ord T.ini) 25) bG))))))) wr) (fun kk _=>m-(intOf kk).toNat)
   case atStart=>exact⟨0,[],none,0,none,0,rfl,fy _,rfl,fL _,fL _,H6.o⟩
   case round=>
    clear H5 H6 s0 s1 M;obtain⟨i,l,A,c,B,d,rfl,hi,a8,bf,bp,hR⟩:=hrel;have HR:=au hR;have ap:=au a8;have bu:=au bf;have bc:=au bp;clear hR a8 bf bp;by_cases bm:i<m
    ·have aw:i<n.ws.length:=by rw[<-HM.o];exact bm
     obtain⟨b,o,rfl,hc⟩:=HA.o.at (by have:=ar.o;omega);have ck:=hc _ (aa.o _ _ HR.o) i aw;have a6:n.ws[i] ∈ n.ws:=gw aw;have aq:=au (bz.o wr (aa.o _ _ HR.o) _ a6);have bh:=au (fun W I=>ba.o W I _ a6);have be:=au (show n.ws.take (i+1)=n.ws.take i++[n.ws[i]] from kq aw);clear bz ba a6;generalize n.ws[i]=x at *
     clear hc aw;obtain⟨u,hu⟩:∃ u,u=jf T n.k x:=⟨_,rfl⟩;rw[<-hu] at aq;have HU:=au hu;clear hu;unfold wX sD at aq;obtain⟨t0,t1,t2,t3,t4,t5⟩:=dW HR.o.drop.drop.drop.drop.drop.drop;obtain⟨s0,s1,M⟩:=bW HR.o.drop.drop.drop.drop.drop;have bv:=au (aB aF (aB dQ (aB dQ (aB yZ aO))):((aj (av g3 (fx A i c B i d) 74) (aj (aV 81 3 (.slice A i c) i (l.flatMap fT)) (aj (aV 3 1 (.slice B i d) i (((n.ws.take i).map (bQ T n.k)).map (Value.int .i64))) (aj (oD l) (aj (av g2 (fx none 0 0 none 0 0) 74) (aj (av g1 (ff n.k (some ⟨b,o,none⟩) m cn) 28) (aj (av w.heap.size (fh aA n1 ac aD n2 ad aE n3 ae T.drop T.ord T.ini) 25) bG)))))))).Ok);go_wp2_with fail;refine aq.o.mono ?_;rintro e9 w6 ⟨wa,rfl,hp⟩;have H7:=au (HR.o.fresh bv.o hp);have bi:=au (aB zi bv.o:(aj (pV u wa) (aj (av g3 (fx A i c B i d) 74) (aj (aV 81 3 (.slice A i c) i (l.flatMap fT)) (aj (aV 3 1 (.slice B i d) i (((n.ws.take i).map (bQ T n.k)).map (Value.int .i64))) (aj (oD l) (aj (av g2 (fx none 0 0 none 0 0) 74) (aj (av g1 (ff n.k (some ⟨b,o,none⟩) m cn) 28) (aj (av w.heap.size (fh aA n1 ac aD n2 ad aE n3 ae T.drop T.ord T.ini) 25) bG)))))))).Ok);have H8:=au (aH H7.o bi.o (fi u wa) 81);clear aq HR hp ck t0 t1 t2 t3 t4 t5 s0 s1 M H7;dsimp only;go_upto_region 8 with (fail);generalize w6.alloc (.cells (fi u wa) 81)=w7 at *
     generalize w6.heap.size=g9 at *
     obtain⟨t0,t1,t2,t3,t4,t5⟩:=dW H8.o.drop.drop.drop.drop.drop.drop.drop.drop;obtain⟨s0,s1,M⟩:=bW H8.o.drop.drop.drop.drop.drop.drop.drop;have bw:=au (bh.o w7 (aa.o _ _ H8.o));clear bh;have b0:=au (aB aF bi.o:(aj (av g9 (fi u wa) 81) (aj (pV u wa) (aj (av g3 (fx A i c B i d) 74) (aj (aV 81 3 (.slice A i c) i (l.flatMap fT)) (aj (aV 3 1 (.slice B i d) i (((n.ws.take i).map (bQ T n.k)).map (Value.int .i64))) (aj (oD l) (aj (av g2 (fx none 0 0 none 0 0) 74) (aj (av g1 (ff n.k (some ⟨b,o,none⟩) m cn) 28) (aj (av w.heap.size (fh aA n1 ac aD n2 ad aE n3 ae T.drop T.ord T.ini) 25) bG))))))))).Ok);go_wp2_with fail;refine bw.o.mono ?_;rintro e9 w8 ⟨rfl,I⟩;have H9:=au (H8.o.below b0.o I);clear bw H8 I t0 t1 t2 t3 t4 t5 s0 s1 M;dsimp only;go_upto_region 9 with (fail);have bo:=au (H9.o.drew b0.o);clear H9;have bj:=bo.o.perm (by ac_rfl:_=aj (aj (aV 81 3 (.slice A i c) i (l.flatMap fT)) (aV 3 1 (.slice B i d) i (((n.ws.take i).map (bQ T n.k)).map (Value.int .i64)))) (aj (av g3 (fx A i c B i d) 74) (aj (av g9 (fi u wa) 81) (aj (pV u wa) (aj (oD l) (aj (av g2 (fx none 0 0 none 0 0) 74) (aj (av g1 (ff n.k (some ⟨b,o,none⟩) m cn) 28) (aj (av w.heap.size (fh aA n1 ac aD n2 ad aE n3 ae T.drop T.ord T.ini) 25) bG))))))));have b9:=au (aB aF (aB aF (aB zi (aB yZ aO))):((aj (av g3 (fx A i c B i d) 74) (aj (av g9 (fi u wa) 81) (aj (pV u wa) (aj (oD l) (aj (av g2 (fx none 0 0 none 0 0) 74) (aj (av g1 (ff n.k (some ⟨b,o,none⟩) m cn) 28) (aj (av w.heap.size (fh aA n1 ac aD n2 ad aE n3 ae T.drop T.ord T.ini) 25) bG)))))))).Ok);clear bo;go_upto_region 9 with (fail);obtain⟨F,hF,al⟩:=bj.sub aO b9.o;have HF:=au hF;have bx:=au al;have a0:=au (show ∀ (O:CH.aU) W,aI F w8.drew O W->aI eR w (aj (av g3 (fx A i c B i d) 74) (aj (av g9 (fi u wa) 81) (aj (pV u wa) (aj (oD l) (aj (av g2 (fx none 0 0 none 0 0) 74) (aj (av g1 (ff n.k (some ⟨b,o,none⟩) m cn) 28) (aj (av w.heap.size (fh aA n1 ac aD n2 ad aE n3 ae T.drop T.ord T.ini) 25) bG))))))) W from fun O W h=>(al bG W aM ⟨⟨fun _=>False,fun _ h=>h,fun _ h=>h.elim⟩,h.mod⟩).drop);have am:=au (a0.o _ _ hF);clear bj hF al;refine Bf 11 (fun w'=>aI eR w (aj (av g3 (fx A i c B i d) 74) (aj (av g9 (fi u wa) 81) (aj (pV u wa) (aj (oD l) (aj (av g2 (fx none 0 0 none 0 0) 74) (aj (av g1 (ff n.k (some ⟨b,o,none⟩) m cn) 28) (aj (av w.heap.size (fh aA n1 ac aD n2 ad aE n3 ae T.drop T.ord T.ini) 25) bG))))))) w') rfl ?_;generalize w8.drew=w9 at *
     refine fZ (i:=0) (v:=.pointer (some ⟨g3,0,none⟩)) rfl eQ eQ eQ rfl (fun _ _ _ h=>h) (.inl ⟨rfl,fun w' ag=>?_⟩) (fun _=>am.o) ?_
     ·go_simp
     try simp only[Act.put,lw,k6,kO,ja,iz,i6]
     refine nG (i:=1) (v:=.slice A i c) rfl eQ eQ eQ eQ (fun _ _ _ h=>h) (.inl ⟨rfl,fun w' ag=>?_⟩) am.o ?_
     ·obtain⟨s0,s1,M⟩:=bW ag;clear ag;go_simp
     try simp only[Act.put,lw,k6,kO,ja,iz,i6]
     refine nG (i:=2) (v:=.agg (fi u wa)) rfl eQ eQ eQ eQ (fun _ _ _ h=>h) (.inl ⟨rfl,fun w' ag=>?_⟩) am.o ?_
     ·obtain⟨q0,q1,q2⟩:=fF ag.drop;clear ag;go_simp
     try simp only[Act.put,lw,k6,kO,ja,iz,i6]
     refine fZ (i:=5) (v:=.pointer (some ⟨g3,1,none⟩)) rfl eQ eQ eQ rfl (fun _ _ _ h=>h) (.inl ⟨rfl,fun w' ag=>?_⟩) (fun _=>am.o) ?_
     ·go_simp
     try simp only[Act.put,lw,k6,kO,ja,iz,i6]
     refine nG (i:=6) (v:=.slice B i d) rfl eQ eQ eQ eQ (fun _ _ _ h=>h) (.inl ⟨rfl,fun w' ag=>?_⟩) am.o ?_
     ·obtain⟨s0,s1,M⟩:=bW ag;clear ag;go_simp
     try simp only[Act.put,lw,k6,kO,ja,iz,i6]
     refine fZ (i:=7) (v:=.int .i64 (bQ T n.k x)) rfl eQ eQ eQ rfl (fun _ _ _ h=>h) (.inl ⟨rfl,fun w' ag=>?_⟩) (fun _=>am.o) ?_
     ·go_simp
     try simp only[Act.put,lw,k6,kO,ja,iz,i6]
     refine Bp [3,4,10] [8,9] (Uk 81 3 A c i (l.flatMap fT) (fT (u,wa)) (.pointer (some ⟨g3,0,none⟩))) (Uk 3 1 B d i (((n.ws.take i).map (bQ T n.k)).map (Value.int .i64)) [.int .i64 (bQ T n.k x)] undef) 3 eQ Jg Jg aM a0.o ?_ ?_ ?_ (HF.o.perm (by rw[fG];rfl))
     ·intro i1 o1 vs us J ab ce Z W hZ hR;rcases vs with _|⟨v,_|⟨v2,_|⟨v3,vs⟩⟩⟩
      ·obtain rfl:3=i1:=by simpa using J
       simp only[mr,oS,oT,Option.some.injEq] at ab;subst ab;refine Cg hZ hR (fun w=>jI rfl ?_ (MC _ _ _ _ _ _ _ w))
       show(fW (fW _ [48,49,55] []) [53,54] us).eval (.tmp 47)=_
       rw[bH 47 [53,54] us _ eS,bH 47 [48,49,55] [] _ eS];rfl
      ·obtain rfl:4=i1:=by simpa using J
       simp only[mr,oS,oT,Option.some.injEq] at ab;subst ab;refine Ch aa5 eS (.tmp 46) (.tmp 48) rfl hZ hR ?_ ?_ (by have:=ar.o;omega) rfl (fun y hy=>Ea [(u,wa)] y (by simpa[fT] using hy))
       ·show(fW (fW _ [48,49,55] [v]) [53,54] us).eval (.tmp 46)=_
        rw[bH 46 [53,54] us _ eS,bH 46 [48,49,55] [v] _ eS];rfl
       ·show(fW (fW _ [48,49,55] [v]) [53,54] us).eval (.tmp 48)=v
        rw[bH 48 [53,54] us _ eS];exact pE v (show 48<59 by decide)
      ·obtain rfl:10=i1:=by simpa using J
       simp only[mr,oS,oT,Option.some.injEq] at ab;subst ab;obtain⟨A3,hR⟩:=hR.ex;obtain⟨c3,hR⟩:=hR.ex;obtain⟨b8,hR⟩:=hR.pure;refine Asn.oJ (v:=.pointer (some ⟨g3,0,none⟩)) (w':=W) (aa6 rfl ?_) ⟨_,rfl,aI.nZ A3 (aI.nZ c3 (aI.iT ⟨b8,rfl⟩ hR))⟩
       show(fW (fW _ [48,49,55] [v,v2]) [53,54] us).eval (.tmp 6)=_
       rw[bH 6 [53,54] us _ eS,bH 6 [48,49,55] [v,v2] _ eS];rfl
      ·simp at J
     ·intro i1 o1 vs us J ab af Z W hZ hR;rcases us with _|⟨v,_|⟨v2,us⟩⟩
      ·obtain rfl:8=i1:=by simpa using J
       simp only[mr,oS,oT,Option.some.injEq] at ab;subst ab;refine Cg hZ hR (fun w=>jI rfl ?_ (uK (bQ T n.k x) w))
       show(fW (fW _ [48,49,55] vs) [53,54] []).eval (.tmp 52)=_
       rw[bH 52 [53,54] [] _ eS,bH 52 [48,49,55] vs _ eS];rfl
      ·obtain rfl:9=i1:=by simpa using J
       simp only[mr,oS,oT,Option.some.injEq] at ab;subst ab;refine Ch VI eS (.tmp 51) (.tmp 53) rfl hZ hR ?_ ?_ (by have:=ar.o;omega) rfl (fun y hy=>by simp at hy;subst hy;rfl)
       ·show(fW (fW _ [48,49,55] vs) [53,54] [v]).eval (.tmp 51)=_
        rw[bH 51 [53,54] [v] _ eS,bH 51 [48,49,55] vs _ eS];rfl
       ·show(fW (fW _ [48,49,55] vs) [53,54] [v]).eval (.tmp 53)=v
        exact pE v (by rw[oK];show 53<59;decide)
      ·simp at J
     intro vs us W hv hu hR;obtain⟨v1,v2,v3,rfl⟩:=WJ hv;obtain⟨v4,v5,rfl⟩:=Ex hu;obtain⟨A2,c2,B2,d2,rfl,rfl,rfl,br,bn,b1⟩:=QW hR;have bb:=au (bx.o _ _ aO (b1.perm (fG _)));have b5:=au br;have ca:=au bn;clear hR hv hu b1 br bn;simp only[dV,lk,pL,mr,oS,oT,C2,C4,fW,Act.put,ja,iz,i6];have a2:=bb.o.perm (by ac_rfl:_=aj (av g3 (fx A i c B i d) 74) (aj (aV 81 3 (.slice A2 (i+1) c2) (i+1) (l.flatMap fT++fT (u,wa))) (aj (aV 3 1 (.slice B2 (i+1) d2) (i+1) ((((n.ws.take i).map (bQ T n.k)).map (Value.int .i64))++[.int .i64 (bQ T n.k x)])) (aj (av g9 (fi u wa) 81) (aj (pV u wa) (aj (oD l) (aj (av g2 (fx none 0 0 none 0 0) 74) (aj (av g1 (ff n.k (some ⟨b,o,none⟩) m cn) 28) (aj (av w.heap.size (fh aA n1 ac aD n2 ad aE n3 ae T.drop T.ord T.ini) 25) bG)))))))));have ax:=au (aB dQ (aB dQ (aB aF (aB zi (aB yZ aO)))):((aj (aV 81 3 (.slice A2 (i+1) c2) (i+1) (l.flatMap fT++fT (u,wa))) (aj (aV 3 1 (.slice B2 (i+1) d2) (i+1) ((((n.ws.take i).map (bQ T n.k)).map (Value.int .i64))++[.int .i64 (bQ T n.k x)])) (aj (av g9 (fi u wa) 81) (aj (pV u wa) (aj (oD l) (aj (av g2 (fx none 0 0 none 0 0) 74) (aj (av g1 (ff n.k (some ⟨b,o,none⟩) m cn) 28) (aj (av w.heap.size (fh aA n1 ac aD n2 ad aE n3 ae T.drop T.ord T.ini) 25) bG))))))))).Ok);have b2:aI eR w (aj (av g3 (fx A2 (i+1) c2 B i d) 74) (aj (aV 81 3 (.slice A2 (i+1) c2) (i+1) (l.flatMap fT++fT (u,wa))) (aj (aV 3 1 (.slice B2 (i+1) d2) (i+1) ((((n.ws.take i).map (bQ T n.k)).map (Value.int .i64))++[.int .i64 (bQ T n.k x)])) (aj (av g9 (fi u wa) 81) (aj (pV u wa) (aj (oD l) (aj (av g2 (fx none 0 0 none 0 0) 74) (aj (av g1 (ff n.k (some ⟨b,o,none⟩) m cn) 28) (aj (av w.heap.size (fh aA n1 ac aD n2 ad aE n3 ae T.drop T.ord T.ini) 25) bG))))))))) _:=aJ a2 ax.o 0 (.slice A2 (i+1) c2);have a4:=au b2;obtain⟨s0,s1,M⟩:=bW a2;clear a0 am bx HF bb a2 b2;refine mG (rs:=[11]) eQ eS (fun i1 J=>?_);obtain rfl:i1=11:=by simpa using J
     refine eB rfl rfl (Am fun K hK=>?_);clear J;go_wp2_with fail;refine hK.o _ _ ⟨fun h=>by simp at h,?_⟩;clear hK;generalize W.setCell ⟨g3,0,none⟩ (.slice A2 (i+1) c2)=W2 at *
     clear s0 s1 M;obtain⟨s0,s1,M⟩:=bW a4.o;have b4:aI eR w (aj (av g3 (fx A2 (i+1) c2 B2 (i+1) d2) 74) (aj (aV 81 3 (.slice A2 (i+1) c2) (i+1) (l.flatMap fT++fT (u,wa))) (aj (aV 3 1 (.slice B2 (i+1) d2) (i+1) ((((n.ws.take i).map (bQ T n.k)).map (Value.int .i64))++[.int .i64 (bQ T n.k x)])) (aj (av g9 (fi u wa) 81) (aj (pV u wa) (aj (oD l) (aj (av g2 (fx none 0 0 none 0 0) 74) (aj (av g1 (ff n.k (some ⟨b,o,none⟩) m cn) 28) (aj (av w.heap.size (fh aA n1 ac aD n2 ad aE n3 ae T.drop T.ord T.ini) 25) bG))))))))) _:=aJ a4.o ax.o 1 (.slice B2 (i+1) d2);have cd:=au b4;clear a4 b4;refine mG (rs:=[12]) eQ eS (fun i1 J=>?_);obtain rfl:i1=12:=by simpa using J
     refine eB rfl rfl (Am fun K hK=>?_);clear J;go_wp2_with fail;refine hK.o _ _ ⟨fun h=>by simp at h,?_⟩;clear hK;refine mG (rs:=[13]) eQ eS (fun i1 J=>?_);obtain rfl:i1=13:=by simpa using J
     refine eB rfl rfl (Am fun K hK=>?_);clear J;go_wp2_with fail;refine hK.o _ _ ⟨fun h=>by simp at h,?_⟩;clear hK;refine Bc eQ ?_ _;generalize W2.setCell ⟨g3,1,none⟩ (.slice B2 (i+1) d2)=W3 at *
     clear s0 s1 M;have cf:(i:Int)<1000000:=by have:=ar.o;omega
     go_wp2_with fail
     go_roundw
     case rel=>exact⟨i+1,l++[(u,wa)],A2,c2,B2,d2,by go_num,bm,by rw[kp,ap.o,be.o,kp,HU.o];rfl,b5.o,ca.o,(cd.o.perm (by
      have e1:(((n.ws.take (i+1)).map (bQ T n.k)).map (Value.int .i64))=(((n.ws.take i).map (bQ T n.k)).map (Value.int .i64))++[.int .i64 (bQ T n.k x)]:=by rw[be.o,kp,kp];rfl
      have e2:(l++[(u,wa)]).flatMap fT=l.flatMap fT++fT (u,wa):=by rw[uu,vq]
      rw[e1,e2,GN]
      ac_rfl:_=aj (av g9 (fi u wa) 81) (aj (av g3 (fx A2 (i+1) c2 B2 (i+1) d2) 74) (aj (aV 81 3 (.slice A2 (i+1) c2) (i+1) ((l++[(u,wa)]).flatMap fT)) (aj (aV 3 1 (.slice B2 (i+1) d2) (i+1) (((n.ws.take (i+1)).map (bQ T n.k)).map (Value.int .i64))) (aj (oD (l++[(u,wa)])) (aj (av g2 (fx none 0 0 none 0 0) 74) (aj (av g1 (ff n.k (some ⟨b,o,none⟩) m cn) 28) (aj (av w.heap.size (fh aA n1 ac aD n2 ad aE n3 ae T.drop T.ord T.ini) 25) bG))))))))).drop⟩
     case measure=>simp[intOf];omega
    ·obtain rfl:i=m:=by omega
     have h1:=HR.o.perm (by ac_rfl:_=aj (av g2 (fx none 0 0 none 0 0) 74) (aj (av g3 (fx A i c B i d) 74) (aj (aV 81 3 (.slice A i c) i (l.flatMap fT)) (aj (aV 3 1 (.slice B i d) i (((n.ws.take i).map (bQ T n.k)).map (Value.int .i64))) (aj (oD l) (aj (av g1 (ff n.k An i cn) 28) (aj (av w.heap.size (fh aA n1 ac aD n2 ad aE n3 ae T.drop T.ord T.ini) 25) bG)))))));have bk:(aj (av g3 (fx A i c B i d) 74) (aj (aV 81 3 (.slice A i c) i (l.flatMap fT)) (aj (aV 3 1 (.slice B i d) i (((n.ws.take i).map (bQ T n.k)).map (Value.int .i64))) (aj (oD l) (aj (av g1 (ff n.k An i cn) 28) (aj (av w.heap.size (fh aA n1 ac aD n2 ad aE n3 ae T.drop T.ord T.ini) 25) bG)))))).Ok:=aB aF (aB dQ (aB dQ (aB yZ aO)));obtain⟨r0,r1,rf⟩:=bW h1;obtain⟨s0,s1,M⟩:=bW h1.drop;have h2:=oV h1 bk (.slice A i c) (.slice B i d);have a9:=au h2
     have HF:=au (fun W (h:aI eR w (aj (av g2 (fx A i c B i d) 74) (aj (av g3 (fx A i c B i d) 74) (aj (aV 81 3 (.slice A i c) i (l.flatMap fT)) (aj (aV 3 1 (.slice B i d) i (((n.ws.take i).map (bQ T n.k)).map (Value.int .i64))) (aj (oD l) (aj (av g1 (ff n.k An i cn) 28) (aj (av w.heap.size (fh aA n1 ac aD n2 ad aE n3 ae T.drop T.ord T.ini) 25) bG))))))) W)=>(show qH w T n (.returned (.tuple #[.agg (fx A i c B i d),.bool true])) W from by
      have ht:n.ws.take i=n.ws:=by rw[HM.o,kz]
      have b6:l.length=i:=by
       have:=congrArg List.length ap.o;rw[fY,fY,ht,<-HM.o] at this;exact this
      obtain⟨F1,cb⟩:=h.drop.drop.fst;obtain⟨F2,cc⟩:=h.drop.drop.drop.fst;obtain⟨F3,b7⟩:=h.drop.drop.drop.drop.fst;refine b3.o _ l A c B d (aa.o _ _ h) ⟨by rw[ap.o,ht],?_,?_,XB b7⟩ bu.o bc.o
      ·have:=iK cb (Ea l);unfold sI;rw[b6];exact this
      ·have:=iK cc (K8 _);rw[ht] at this;unfold iJ;rw[fY,<-HM.o]
       exact this))
     clear h1 h2 bk HR ap bu bc;go_wp2;obtain⟨f2,an⟩:=a9.o.fst;refine bodyPost_ret (XC rfl rfl an.1 rfl) rfl ?_;exact HF.o _ a9.o
end Go.Proofs.YtbioiclabmbedaaGreatDoor
namespace Go.CH.Mtc
open Go.CH.Scr Go.CH.dh
def picks{α:Type}(f:Int->Int->Option α):Nat->List Int->List α
 | _,[]=>[]
 | i,j::l=>(f i j).toList++picks f (i+1) l
theorem Ec{α:Type}(f:Int->Int->Option α)(x:Int):∀ (l:List Int) (i:Nat),picks f i (l++[x])=picks f i l++(f ((i+l.length:Nat):Int) x).toList
 | [],i=>by simp[picks]
 | y::l,i=>by
  show(f i y).toList++picks f (i+1) (l++[x])=((f i y).toList++picks f (i+1) l)++_
  rw[Ec f x l (i+1),ma,jz,show i+1+l.length=i+(l.length+1) by omega]
end Go.CH.Mtc
namespace Go.Proofs.YtbioiclabmbedaaGreatDoor
open Go.RowKit Go.CH Go.CH.Scr Go.CH.dh Go.CH.Mtc
open Asn (jI)
open Go.ChangeMaps (setBlock)
structure pU where
 A:eV
 ac:Nat
 B:eV
 bc:Nat
def EV(e:Pr × pU):Array Value:=zk e.1 e.2.A e.2.ac e.2.B e.2.bc
def Jh(e:Pr × pU):List Value:=[.int .i64 e.1.i,.int .i64 e.1.j,.int .i64 e.1.kd,.int .i64 e.1.l,.int .i64 e.1.r,.int .i64 e.1.c,.int .i64 e.1.d.c,.slice e.2.A e.1.d.L.length e.2.ac,.slice e.2.B e.1.d.M.length e.2.bc,.string (bs e.1.d.F)]
theorem QX(l:List (Pr × pU)):∀ u ∈ l.flatMap Jh,u.oneCell'=true:=by
 intro u hu;obtain⟨x,-,hx⟩:=List.mem_flatMap.1 hu;unfold Jh at hx;simp only[np,sb,or_false] at hx;rcases hx with rfl|rfl|rfl|rfl|rfl|rfl|rfl|rfl|rfl|rfl<;>rfl
theorem XD:eO Tryz.prog 32 62 (.agg (gO 0 0 0 0 0 0 0 none 0 0 none 0 0 ⟨#[]⟩)) 10 120:=⟨Tryz.underlying32,by kernel_rfl,by decide,by decide⟩
def E0(o:Option (Pr × pU)):Value:=match o with
 | some e=>.agg (EV e)
 | none=>.agg (gO 0 0 0 0 0 0 0 none 0 0 none 0 0 ⟨#[]⟩)
def Ed(A:eV)(c:Nat)(l:List (Pr × pU)):CH.aU:=aV 62 10 (.slice A l.length c) l.length (l.flatMap Jh)
variable{A:eV}{c n g b:Nat}{F0:Nat->Prop}{w0 W w:World}{a:Act}{Q:Exit->Act->World->Prop}{t e:TypeId}{xs:List Value}
theorem XE{l:List (Pr × pU)}:(Ed A c l).Ok:=dQ
instance {A:eV} {c:Nat} {l:List (Pr × pU)}:(Ed A c l).Ok:=XE
theorem Br{ops:Array Oper}{rest:List Oper}{Y:CH.aU}{o:Oper}{z:Value}{size bytes:Nat}(J:o.guard=none)(S:eO Tryz.prog t e z size bytes)(M:bytes<=1000)(s x:Operand)(ho:o.op=.call { callee:=.builtin .append,args:=#[s,x],argTypes:=#[t,t] }){cs:List Value}(hsv:a.eval s=.slice A n c)(hx:a.eval x=.slice (some ⟨g,0,none⟩) 1 1)(hn:n<=1000000)(hY:Y.Ok)(h:aI F0 w0 (aj (aV e size (.slice A n c) n xs) Y) W)(h1:cs.length=size)(h2:∀ u ∈ cs,u.oneCell'=true)(hg:∀ (j:Nat) u,cs[j]?=some u->W.cell? ⟨g,j,none⟩=some u)(hK:∀ I c' w',aI F0 w0 (aj (aV e size (.slice I (n+1) c') (n+1) (xs++cs)) Y) w'->wpList Tryz.prog ops Q rest (a.put o.dst (.slice I (n+1) c')) w'):wpList Tryz.prog ops Q (o::rest) a W:=
 wpList_plain J fun _ hk=>Jm S M s x ho hsv hx hn hY h h1 h2 hg fun I c' w' hr=>hk _ _ (hK I c' w' hr)
def ME(w:World)(f:Int->Int->Option (Pr × pU))(cs:List Int)(k:Int)(sw:Bool)(e:Ending)(w':World):Prop:=
 ∃ A c,e=.returned (.agg (jb k sw A (picks f 0 cs).length c))/\bT w eR (Ed A c (picks f 0 cs)) w'
theorem GQ{f:Int->Int->Option (Pr × pU)}{gm:Nat}{C:eV}{cc:Nat}{cs:List Int}(hC:iJ w C cs)(hl:cs.length<=1000)(hg:w.cell? ⟨gm,0,none⟩=some (.map (some b)))(hm:∀ W,Below w.heap.size w W->∀ i j:Int,(Instr.lookup 77 (.map (some b)) (.agg (tM i j)) true).run Tryz.prog W=.ok (.tuple #[E0 (f i j),.bool (f i j).isSome]) W)(k:Int)(I:Bool):
  Calls Tryz.prog 25 #[.slice C cs.length cc,.int .i64 k,.bool I,.pointer (some ⟨gm,0,none⟩)] w (ME w f cs k I):=by
 have h1:=aH (aI.begin w) aM (jb 0 false none 0 0) 34;have h2:=aH h1 aO (jb k I none 0 0) 34;simp only[ik] at h2;have ag:=au (fun W X (h:aI eR w X W)=>(show Below w.heap.size w W from h.mod.below (fun _ _ h=>h)));have h3:aI eR w (aj (av (w.heap.size+1) (jb k I none 0 ((0:Nat))) 34) (aj (Ed none 0 []) (aj (av w.heap.size (jb 0 false none 0 0) 34) bG))) _:=
  ((h2.fresh aO (⟨fun _=>False,gu _ 62 10,Mod.refl _ _,fun i hi=>.inl hi⟩:bT _ eR (Ed none 0 []) _)).perm (by ac_rfl))
 have H3:=au h3;have HG:=au (fun W (hb:Below w.heap.size w W)=>(show W.cell? ⟨gm,0,none⟩=some (.map (some b)) from by rw[hb.cell (py _ _ hg)];exact hg));have HM:=au hm;have HC:=au hC;clear h1 h2 h3 hg hm hC;obtain⟨n,hn⟩:∃ n,n=cs.length:=⟨_,rfl⟩;have HN:=au hn;rw[<-hn] at hl ⊢;clear hn
 go_enter Tryz.func25,Tryz.ntmps25
 go_upto_region 3 with (fail);generalize (w.alloc (.cells (jb 0 false none 0 0) 34)).alloc (.cells (jb k I none 0 0) 34)=w2 at *
 generalize aw:w.heap.size+1=g8 at *
 clear aw;go_wp2_with fail;go_loopw [18] (fun kk wr=>∃ (i q:Nat) (A:eV) (c:Nat),kk=.int .i64 i/\i<=n/\q=(picks f 0 (cs.take i)).length/\q<=i/\aI eR w (aj (av g8 (jb k I A q c) 34) (aj (aV 62 10 (.slice A q c) q ((picks f 0 (cs.take i)).flatMap Jh)) (aj (av w.heap.size (jb 0 false none 0 0) 34) bG))) wr) (fun kk _=>n-(intOf kk).toNat)
 case atStart=>exact⟨0,0,none,0,rfl,fy _,rfl,fL _,H3.o⟩
 case round=>
  clear H3;obtain⟨i,q,A,c,rfl,hi,hq,aA,hR⟩:=hrel;have HR:=au hR;have HQ:=au hq;clear hR hq;by_cases ai:i<n
  ·have ak:i<cs.length:=by rw[<-HN.o];exact ai
   obtain⟨bb,o,rfl,hc⟩:=Asn.Vec.at HC.o eL;have ck:=hc wr (ag.o _ _ HR.o) i ak
   have ab:=au (show picks f 0 (cs.take (i+1))=picks f 0 (cs.take i)++(f (i:Int) cs[i]).toList from by
    rw[kq ak,Ec,kt,G1 eL,mB])
   generalize cs[i]=x at *
   clear hc ak;have cg:=HG.o wr (ag.o _ _ HR.o);have cm:=HM.o wr (ag.o _ _ HR.o) (i:Int) x;have aD:(i:Int)<1000000:=by omega
   cases hf:f (i:Int) x with
   | none=>
    rw[hf] at cm ab;unfold E0 at cm;simp only[Option.isSome_none] at cm;have aa:=au (show picks f 0 (cs.take (i+1))=picks f 0 (cs.take i) from by rw[ab.o];exact mT _);have H4:=au (aH HR.o aO (gO 0 0 0 0 0 0 0 none 0 0 none 0 0 ⟨#[]⟩) 62);clear hf ab HR;go_upto_region 6 with (fail);generalize wr.alloc (.cells (gO 0 0 0 0 0 0 0 none 0 0 none 0 0 ⟨#[]⟩) 62)=w4 at *
    clear ck cg cm;go_wp2_with fail
    go_roundw
    case rel=>exact⟨i+1,q,A,c,by go_num,ai,by rw[aa.o];exact HQ.o,by omega,by rw[aa.o];exact H4.o.drop⟩
    case measure=>simp[intOf];omega
   | some e=>
    rw[hf] at cm ab;unfold E0 at cm;simp only[Option.isSome_some] at cm;have aa:=au (show picks f 0 (cs.take (i+1))=picks f 0 (cs.take i)++[e] from ab.o);unfold EV zk at cm;have H4:=au (aH HR.o aO (gO e.1.i e.1.j e.1.kd e.1.l e.1.r e.1.c e.1.d.c e.2.A e.1.d.L.length e.2.ac e.2.B e.1.d.M.length e.2.bc (bs e.1.d.F)) 62);clear hf ab HR;go_upto_region 6 with (fail);generalize wr.alloc (.cells (gO e.1.i e.1.j e.1.kd e.1.l e.1.r e.1.c e.1.d.c e.2.A e.1.d.L.length e.2.ac e.2.B e.1.d.M.length e.2.bc (bs e.1.d.F)) 62)=w4 at *
    generalize wr.heap.size=g11 at *
    clear ck cg cm;go_upto_region 7 with (fail);obtain⟨⟨p0,p1,p2,p3,p4⟩,⟨p5,p6,p7,p8,p9⟩,pf⟩:=iB H4.o;obtain⟨m0,m1,m2⟩:=fF H4.o.drop;have H5:=au (aH H4.o aO (gO e.1.i e.1.j e.1.kd e.1.l e.1.r e.1.c e.1.d.c e.2.A e.1.d.L.length e.2.ac e.2.B e.1.d.M.length e.2.bc (bs e.1.d.F)) 62);have ax:q<=1000000:=by omega
    clear H4;go_wp2_with (at_builtin;refine held ?_);clear p0 p1 p2 p3 p4 p5 p6 p7 p8 p9 pf m0 m1 m2;generalize w4.alloc (.cells (gO e.1.i e.1.j e.1.kd e.1.l e.1.r e.1.c e.1.d.c e.2.A e.1.d.L.length e.2.ac e.2.B e.1.d.M.length e.2.bc (bs e.1.d.F)) 62)=w5 at *
    generalize w4.heap.size=ad at *
    obtain⟨az,af⟩:=H5.o.fst;have al:∀ (j:Nat) u,(Jh e)[j]?=some u->w5.cell? ⟨ad,j,none⟩=some u:=fun j u hu=>ay af (by unfold Jh at hu;simpa using hu);refine lO.mk (Br rfl XD eS (.tmp 33) (.tmp 35) rfl (A:=A) (c:=c) (n:=q) (g:=ad) (xs:=(picks f 0 (cs.take i)).flatMap Jh) (cs:=Jh e) rfl rfl ax aO (H5.o.perm (by ac_rfl:_=aj (aV 62 10 (.slice A q c) q ((picks f 0 (cs.take i)).flatMap Jh)) (aj (av ad (gO e.1.i e.1.j e.1.kd e.1.l e.1.r e.1.c e.1.d.c e.2.A e.1.d.L.length e.2.ac e.2.B e.1.d.M.length e.2.bc (bs e.1.d.F)) 62) (aj (av g11 (gO e.1.i e.1.j e.1.kd e.1.l e.1.r e.1.c e.1.d.c e.2.A e.1.d.L.length e.2.ac e.2.B e.1.d.M.length e.2.bc (bs e.1.d.F)) 62) (aj (av g8 (jb k I A q c) 34) (aj (av w.heap.size (jb 0 false none 0 0) 34) bG)))))) rfl (fun y hy=>QX [e] y (by simpa using hy)) al ?_);intro A9 c9 w6 an;have h7:=an.perm (by ac_rfl:_=aj (av g8 (jb k I A q c) 34) (aj (aV 62 10 (.slice A9 (q+1) c9) (q+1) ((picks f 0 (cs.take i)).flatMap Jh++Jh e)) (aj (av w.heap.size (jb 0 false none 0 0) 34) (aj (av ad (gO e.1.i e.1.j e.1.kd e.1.l e.1.r e.1.c e.1.d.c e.2.A e.1.d.L.length e.2.ac e.2.B e.1.d.M.length e.2.bc (bs e.1.d.F)) 62) (aj (av g11 (gO e.1.i e.1.j e.1.kd e.1.l e.1.r e.1.c e.1.d.c e.2.A e.1.d.L.length e.2.ac e.2.B e.1.d.M.length e.2.bc (bs e.1.d.F)) 62) bG)))));have aq:(aj (aV 62 10 (.slice A9 (q+1) c9) (q+1) ((picks f 0 (cs.take i)).flatMap Jh++Jh e)) (aj (av w.heap.size (jb 0 false none 0 0) 34) (aj (av ad (gO e.1.i e.1.j e.1.kd e.1.l e.1.r e.1.c e.1.d.c e.2.A e.1.d.L.length e.2.ac e.2.B e.1.d.M.length e.2.bc (bs e.1.d.F)) 62) (aj (av g11 (gO e.1.i e.1.j e.1.kd e.1.l e.1.r e.1.c e.1.d.c e.2.A e.1.d.L.length e.2.ac e.2.B e.1.d.M.length e.2.bc (bs e.1.d.F)) 62) bG)))).Ok:=aB dQ aO;obtain⟨m0,m1,m2⟩:=fF h7;obtain⟨F8,J⟩:=h7.fst;have mf:=aN J;have h8:aI eR w (aj (av g8 (jb k I A9 (q+1) c9) 34) _) _:=aJ h7 aq 2 (.slice A9 (q+1) c9);have H8:=au ((h8.perm (by ac_rfl:_=aj (aj (av ad (gO e.1.i e.1.j e.1.kd e.1.l e.1.r e.1.c e.1.d.c e.2.A e.1.d.L.length e.2.ac e.2.B e.1.d.M.length e.2.bc (bs e.1.d.F)) 62) (av g11 (gO e.1.i e.1.j e.1.kd e.1.l e.1.r e.1.c e.1.d.c e.2.A e.1.d.L.length e.2.ac e.2.B e.1.d.M.length e.2.bc (bs e.1.d.F)) 62)) (aj (av g8 (jb k I A9 (q+1) c9) 34) (aj (aV 62 10 (.slice A9 (q+1) c9) (q+1) ((picks f 0 (cs.take i)).flatMap Jh++Jh e)) (aj (av w.heap.size (jb 0 false none 0 0) 34) bG))))).drop);clear h7 h8 aq an J F8 H5 az af al;go_wp2_with fail
    go_roundw
    case rel=>exact⟨i+1,q+1,A9,c9,by go_num,ai,by rw[aa.o,gj,<-HQ.o];rfl,by omega,by rw[aa.o,uu,vq];exact H8.o⟩
    case measure=>simp[intOf];omega
  ·obtain rfl:i=n:=by omega
   have ht:cs.take i=cs:=by rw[HN.o,kz]
   rw[ht] at HQ HR;clear ht;have h1:=HR.o.perm (by ac_rfl:_=aj (av w.heap.size (jb 0 false none 0 0) 34) (aj (av g8 (jb k I A q c) 34) (aj (aV 62 10 (.slice A q c) q ((picks f 0 cs).flatMap Jh)) bG)));have ae:(aj (av g8 (jb k I A q c) 34) (aj (aV 62 10 (.slice A q c) q ((picks f 0 cs).flatMap Jh)) bG)).Ok:=aB aF aO;obtain⟨m0,m1,m2⟩:=fF h1.drop;obtain⟨F8,J⟩:=h1.fst;have z0:=ay (i:=0) J rfl;have z1:=ay (i:=1) J rfl;have z2:=ay (i:=2) J rfl;have zf:=aN J;have ao:aI eR w (aj (av w.heap.size (jb k false none 0 0) 34) _) _:=aJ h1 ae 0 (.int .i64 k);have am:aI eR w (aj (av w.heap.size (jb k I none 0 0) 34) _) _:=aJ ao ae 1 (.bool I);have ap:aI eR w (aj (av w.heap.size (jb k I A q c) 34) _) _:=aJ am ae 2 (.slice A q c);have H9:=au ap
   have HF:=au (fun W (h:aI eR w (aj (av w.heap.size (jb k I A q c) 34) (aj (av g8 (jb k I A q c) 34) (aj (aV 62 10 (.slice A q c) q ((picks f 0 cs).flatMap Jh)) bG))) W)=>(show ME w f cs k I (.returned (.agg (jb k I A q c))) W from by
    refine⟨A,c,by rw[HQ.o],?_⟩;unfold Ed;rw[<-HQ.o]
    exact(h.drop.drop.perm (fG _)).post dQ))
   clear h1 ao am ap ae HR F8 J;go_wp2;obtain⟨f2,ar⟩:=H9.o.fst;refine bodyPost_ret (results_cell_row rfl _ _ w.heap.size 34 _ (0,0) _ rfl ar.1 Tryz.underlying34 rfl eQ) rfl ?_;exact HF.o _ H9.o
end Go.Proofs.YtbioiclabmbedaaGreatDoor
namespace Go.CH.bA
section
variable{c c':Nat→Nat→Int}{d d' e e':Nat→Int}{n m:Nat}
variable{k:Nat}
theorem find_congr{p q:Nat->Bool}(h:∀ j,j<k->p j=q j):(List.range k).find? p=(List.range k).find? q:=by
 have:∀ l:List Nat,(∀ j ∈ l,p j=q j)->l.find? p=l.find? q:=by
  intro l
  induction l with
  | nil=>intro _;rfl
  | cons x l ih=>
   intro J;rw[GG,GG,J x (mA ..),ih fun j I=>J j (pS _ I)]
 exact this _ fun j I=>h j (List.mem_range.1 I)
theorem y5(I:∀ i,i<n->∀ j,j<m->c i j=c' i j)(hd:∀ i,i<n->d i=d' i)(J:∀ j,j<m->e j=e' j):∀ (k:Nat) (U:Nat->Bool),k<=n->L c d e n m k U=L c' d' e' n m k U
 | 0,U,_=>bL fun j h=>by rw[J j h]
 | k+1,U,hk=>by
  unfold L;rw[hd _ eL,y5 I hd J k U eL];exact Fb (fun j h=>by rw[I _ eL j h,y5 I hd J k _ eL]) (fun _ _=>rfl)
theorem Ee(h:∀ i,i<n->∀ j,j<m->c i j=c' i j)(hd:∀ i,i<n->d i=d' i)(I:∀ j,j<m->e j=e' j):∀ (k:Nat) (U:Nat->Bool),k<=n->gr c d e n m k U=gr c' d' e' n m k U
 | 0,U,_=>rfl
 | k+1,U,hk=>by
  have M:(List.range m).find? (fun j=>!U j&&decide (c (n-(k+1)) j+L c d e n m k (ins U j)=L c d e n m (k+1) U))=(List.range m).find? (fun j=>!U j&&decide (c' (n-(k+1)) j+L c' d' e' n m k (ins U j)=L c' d' e' n m (k+1) U)):=find_congr fun j J=>by
   rw[h _ eL j J,y5 h hd I k _ eL,y5 h hd I (k+1) _ hk]
  unfold gr;rw[M];split
  ·rw[Ee h hd I k _ eL]
  ·rw[Ee h hd I k _ eL]
theorem GU(he:∀ j,j<m->e j=e' j):∀ b,b<=m->Y0 e m b=Y0 e' m b
 | 0,_=>rfl
 | b+1,hb=>by unfold Y0;rw[he _ eL,GU he b eL]
theorem GV{i:Nat}{f g:Nat->Int}(hc:∀ j,j<m->c i j=c' i j)(hd:d i=d' i)(he:∀ j,j<m->e j=e' j)(hf:∀ b,b<=m->f b=g b):∀ b,b<=m->yz c d e m i f b=yz c' d' e' m i g b
 | 0,_=>by unfold yz;rw[hd,hf 0 eL]
 | b+1,hb=>by unfold yz;rw[hd,hf _ hb,he _ eL,GV hc hd he hf b eL,hc _ eL,hf b eL]
theorem y7(hc:∀ i,i<n->∀ j,j<m->c i j=c' i j)(hd:∀ i,i<n->d i=d' i)(he:∀ j,j<m->e j=e' j):∀ (a b:Nat),a<=n->b<=m->GR c d e n m a b=GR c' d' e' n m a b
 | 0,b,_,hb=>GU he b hb
 | a+1,b,ha,hb=>by
  unfold GR;exact GV (fun j hj=>hc _ eL j hj) (hd _ eL) he (fun b hb=>y7 hc hd he a b eL hb) b hb
theorem Ao(h:∀ i,i<n->∀ j,j<m->c i j=c' i j)(hd:∀ i,i<n->d i=d' i)(I:∀ j,j<m->e j=e' j):∀ (a b:Nat),a<=n->b<=m->xg c d e n m a b=xg c' d' e' n m a b
 | 0,b,_,hb=>rfl
 | a+1,b,ha,hb=>by
  have J:(List.range b).find? (fun t=>decide (sg t (fun x=>e (m-b+x))+c (n-(a+1)) (m-b+t)+GR c d e n m a (b-(t+1))=GR c d e n m (a+1) b))=(List.range b).find? (fun t=>decide (sg t (fun x=>e' (m-b+x))+c' (n-(a+1)) (m-b+t)+GR c' d' e' n m a (b-(t+1))=GR c' d' e' n m (a+1) b)):=find_congr fun t ht=>by
   rw[bL (fun x M=>I (m-b+x) eL),h _ eL _ eL,y7 h hd I a _ eL eL,y7 h hd I (a+1) b ha hb]
  unfold xg;rw[J];split
  ·rw[Ao h hd I a _ eL eL]
  ·rw[Ao h hd I a _ eL hb]
end
end Go.CH.bA
namespace Go.CH.Mtc
open Go.CH.Scr Go.CH.dh
def GX(T:eW)(a b:aR)(m i j:Nat):List Pr:=(List.range i).flatMap (fun r=>(List.range m).map (Cc T a b r))++(List.range j).map (Cc T a b i)
def wU(T:eW)(a b:aR)(m n i j:Nat):List (List Int):=(List.range n).map fun r=>(List.range (if r<i then m else if r=i then j else 0)).map fun s=>cM T a b r s
section
variable{T:eW}{a b:aR}{m n i j:Nat}
theorem aa7:GX T a b m i (j+1)=GX T a b m i j++[Cc T a b i j]:=by unfold GX;rw[vu,kp,<-ma];rfl
theorem aa8:GX T a b m (i+1) 0=GX T a b m i m:=by unfold GX;rw[vu,uu,vq];simp
variable{p:Pr}{y:Int}{k:Nat}
theorem QY(h:p ∈ GX T a b m i j):∃ r s,p=Cc T a b r s/\((r<i/\s<m)\/(r=i/\s<j)):=by
 unfold GX at h;rcases List.mem_append.1 h with h|h
 ·obtain⟨r,J,h⟩:=List.mem_flatMap.1 h;obtain⟨s,I,rfl⟩:=List.mem_map.1 h;exact⟨r,s,rfl,.inl ⟨List.mem_range.1 J,List.mem_range.1 I⟩⟩
 ·obtain⟨s,I,rfl⟩:=List.mem_map.1 h;exact⟨i,s,rfl,.inr ⟨rfl,List.mem_range.1 I⟩⟩
theorem adq{r s:Nat}(hr:r<i)(hs:s<m):Cc T a b r s ∈ GX T a b m i j:=List.mem_append.2 (.inl (List.mem_flatMap.2 ⟨r,List.mem_range.2 hr,List.mem_map.2 ⟨s,List.mem_range.2 hs,rfl⟩⟩))
def Hk(E:List Pr)(x y:Int):Option Pr:=E.find? fun p=>decide (p.i=x)&&decide (p.j=y)
theorem aa9{x:Int}(M:0<=x)(hn:x<n):Hk (GX T a b m n 0) x y=if 0<=y/\y<m then some (Cc T a b x.toNat y.toNat) else none:=by
 unfold Hk;cases h:(GX T a b m n 0).find? fun p=>decide (p.i=x)&&decide (p.j=y) with
 | none=>
  split
  ·rename_i hy;have I:=List.find?_eq_none.1 h _ (adq (T:=T) (a:=a) (b:=b) (j:=0) (show x.toNat<n by omega) (show y.toNat<m by omega));exact absurd (by simp only[Od,Oe,gA,decide_eq_true_eq];omega) I
  ·rfl
 | some p=>
  have I:=AG h;have J:=tg h;obtain⟨r,s,rfl,h3⟩:=QY J;simp only[Od,Oe,gA,decide_eq_true_eq] at I;rw[if_pos eL,show x.toNat=r by omega,show y.toNat=s by omega]
theorem XF:wU T a b m n 0 0=List.replicate n []:=by
 unfold wU;have:(fun r=>(List.range (if r<0 then m else if r=0 then 0 else 0)).map fun s=>cM T a b r s)=fun _=>([]:List Int):=by
  funext r;rw[if_neg (oc _),ite_self];rfl
 rw[this,Lw,uv]
theorem lK:(wU T a b m n i j).length=n:=by unfold wU;simp
theorem y8(h:k<(wU T a b m n i j).length):(wU T a b m n i j)[k]=(List.range (if k<i then m else if k=i then j else 0)).map fun s=>cM T a b k s:=by
 simp[wU]
theorem XG(hi:i<n)(h:i<(wU T a b m n i j).length):(wU T a b m n i j)[i]=(List.range j).map fun s=>cM T a b i s:=by
 rw[y8,if_neg (my _),if_pos rfl]
theorem abb(hi:i<n):(wU T a b m n i j).set i ((List.range j).map (fun s=>cM T a b i s)++[cM T a b i j])=wU T a b m n i (j+1):=by
 apply Kf
 ·simp[wU]
 ·intro k M J;rw[Kp,y8,y8];by_cases I:i=k
  ·subst I;rw[if_pos rfl,if_neg (my _),if_pos rfl,vu,kp];rfl
  ·rw[if_neg I];by_cases h:k<i
   ·rw[if_pos h,if_pos h]
   ·rw[if_neg h,if_neg h,if_neg (px I),if_neg (px I)]
theorem abd:wU T a b m n (i+1) 0=wU T a b m n i m:=by
 unfold wU;refine nB fun k _=>?_;by_cases hk:k<i
 ·rw[if_pos hk,if_pos eL]
 ·rw[if_neg hk];by_cases h2:k=i
  ·rw[if_pos h2,if_pos eL]
  ·rw[if_neg h2,if_neg eL,ite_self]
end
end Go.CH.Mtc
namespace Go.Proofs.YtbioiclabmbedaaGreatDoor
open Go.RowKit Go.CH Go.CH.Scr Go.CH.dh Go.CH.Mtc
open Asn (aY dS fE uJ Vec ints cF lF mJ pG lI)
open Go.ChangeMaps (setBlock)
structure cu where
 l:List Int
 A:eV
 c:Nat
def cu.cl(z:cu):List Value:=[.slice z.A z.l.length z.c]
def cu.ow(z:cu):CH.aU:=aY z.A z.c z.l
def gy(A:eV)(c:Nat)(zs:List cu):CH.aU:=OE cu.cl cu.ow 39 1 (.slice A zs.length c) zs
variable{A:eV}{c n g mb go i j d:Nat}{w W w':World}{F:Nat->Prop}{e:TypeId}{xs:List Value}{l:List Int}{T:eW}{b:aR}{p:Pr}{a:Act}{K:Act->World->Prop}{Q:Exit->Act->World->Prop}{y:Int}
theorem Ji{zs:List cu}:(gy A c zs).Ok:=QT fun _=>dS
instance {A:eV} {c:Nat} {zs:List cu}:(gy A c zs).Ok:=Ji
theorem abe{size:Nat}(h:aV e size (.slice A n c) n xs w F):n<=c:=by
 rcases h.1.2 with⟨h1,h2⟩|⟨g,cap,cur,h1,_,_,h2,_⟩
 ·omega
 ·injection h1 with _ _ h3;omega
theorem QZ(h:aY A c l w F):l.length<=c:=abe h
theorem Ef{zs:List cu}(h:gy A c zs w F):uJ w A (zs.map (·.l)) (zs.map fun z=>(z.A,z.c)):=by
 refine⟨by simp,?_,?_⟩
 ·obtain⟨F1,F2,M,_⟩:=h
  have h2:=iK M (by
   intro u hu;rw[Gr] at hu;obtain⟨z,_,hz⟩:=hu
   simp[cu.cl] at hz;subst hz;rfl)
  have e:(zs.map fun z=>(z.A,z.c)).mapIdx (fun i x=>Value.slice x.1 ((zs.map (·.l)).getD i []).length x.2)=zs.flatMap cu.cl:=by
   have e1:zs.flatMap cu.cl=zs.map (fun z=>Value.slice z.A z.l.length z.c):=by
    have:∀ l:List cu,l.flatMap cu.cl=l.map (fun z=>Value.slice z.A z.l.length z.c):=fun l=>by induction l with
     | nil=>rfl
     | cons a l ih=>simp[cu.cl] at ih ⊢;exact ih
    exact this zs
   rw[e1];apply vr;intro i;rw[CC,lB,lB];cases I:zs[i]? with
   | none=>rfl
   | some x=>simp[ki,I]
  rw[e,fY];exact h2
 ·intro i hi x I;have J:i<zs.length:=by simpa using hi
  rw[lB,ic J] at I;simp at I;subst I;rw[mx];have h3:=Mw J h;obtain⟨F1,F2,M,_⟩:=h3;exact⟨fE M,QZ M⟩
theorem Q0{O:CH.aU}{w:World}(h:O w eR):∀ n:Nat,aL (List.replicate n O) w eR
 | 0=>fun _ h=>h
 | n+1=>⟨fun _=>False,fun _=>False,h,Q0 h n,fun _ h=>h.elim,fun i=>by simp⟩
theorem XH:∀ n:Nat,(List.replicate n (⟨[],none,0⟩:cu)).flatMap cu.cl=List.replicate n (.slice none 0 0)
 | 0=>rfl
 | n+1=>by rw[List.replicate_succ,mS,List.replicate_succ,XH n];rfl
theorem Eh(h:aV 39 1 (.slice (some ⟨g,0,none⟩) n n) n (List.replicate n (.slice none 0 0)) w F):gy (some ⟨g,0,none⟩) n (List.replicate n ⟨[],none,0⟩) w F:=by
 unfold gy OE;rw[List.length_replicate,FF];refine⟨F,fun _=>False,?_,Q0 (Asn.lH w) n,fun _ _ h=>h,fun i=>by simp⟩;rw[XH];exact h
def Ap(e:Pr × pU):CH.aU:=kP e.2.A e.2.ac e.2.B e.2.bc e.1.d
theorem OH{E:List (Pr × pU)}:(aL (E.map Ap)).Ok:=lJ (fun A hA=>by obtain⟨e,_,rfl⟩:=List.mem_map.1 hA;exact rF)
instance {E:List (Pr × pU)}:(aL (E.map Ap)).Ok:=OH
def lS(e:Pr × pU):(Int × Int) × Value:=((e.1.i,e.1.j),.agg (EV e))
theorem OI:o7 Tryz.prog 84 (CH.eP .i64):=NU Tryz.underlying84 Tryz.underlying3 eQ
def BI(T:eW)(a b:aR)(m n mb go i j:Nat):CH.aU:=lW fun E:List (Pr × pU)=>lW fun zs:List cu=>tu (E.map (·.1)=GX T a b m i j/\zs.map (·.l)=wU T a b m n i j) (aj (jv (CH.eP .i64) mb (E.map lS)) (aj (gy (some ⟨go,0,none⟩) n zs) (aL (E.map Ap))))
theorem aer{a:aR}{m:Nat}:(BI T a b m n mb go i j).Ok:=bZ fun _=>bZ fun _=>gJ (aB map_ok (aB Ji OH))
instance {T:eW} {a b:aR} {m n mb go i j:Nat}:(BI T a b m n mb go i j).Ok:=aer
section
variable{T:eW}{a b:aR}{m n mb go i j:Nat}{F0:Nat→Prop}{w0 W:World}{Y:CH.aU}
theorem Q5(h:aI F0 w0 (aj (BI T a b m n mb go i j) Y) W):∃ (E:List (Pr × pU)) (zs:List cu),E.map (·.1)=GX T a b m i j/\zs.map (·.l)=wU T a b m n i j/\aI F0 w0 (aj (aj (jv (CH.eP .i64) mb (E.map lS)) (aj (gy (some ⟨go,0,none⟩) n zs) (aL (E.map Ap)))) Y) W:=by
 obtain⟨E,h⟩:=h.ex;obtain⟨zs,h⟩:=h.ex;obtain⟨⟨J,I⟩,h⟩:=h.pure;exact⟨E,zs,J,I,h⟩
theorem XI{E:List (Pr × pU)}{zs:List cu}(I:E.map (·.1)=GX T a b m i j)(J:zs.map (·.l)=wU T a b m n i j)(h:aI F0 w0 (aj (aj (jv (CH.eP .i64) mb (E.map lS)) (aj (gy (some ⟨go,0,none⟩) n zs) (aL (E.map Ap)))) Y) W):aI F0 w0 (aj (BI T a b m n mb go i j) Y) W:=
 aI.nZ E (aI.nZ zs (aI.iT ⟨I,J⟩ h))
theorem adr(h:aI F0 w0 (aj (BI T a b m n mb go i m) Y) W):aI F0 w0 (aj (BI T a b m n mb go (i+1) 0) Y) W:=by
 obtain⟨E,zs,h1,h2,h⟩:=Q5 h;exact XI (by rw[aa8];exact h1) (by rw[abd];exact h2) h
theorem ads(h:aI F0 w0 (aj (aV 39 1 (.slice (some ⟨go,0,none⟩) n n) n (List.replicate n (.slice none 0 0))) (aj (jv (CH.eP .i64) mb []) Y)) W):aI F0 w0 (aj (BI T a b m n mb go 0 0) Y) W:=by
 have I:aI F0 w0 (aj (gy (some ⟨go,0,none⟩) n (List.replicate n ⟨[],none,0⟩)) (aj (jv (CH.eP .i64) mb []) (aj (aL []) Y))) W:=(h.imp fun w F h=>bD h (fun _ h=>Eh h) (fun _ h=>h)).perm (by show _=aj _ (aj _ (aj bG Y));rw[jC]);refine XI (E:=[]) (zs:=List.replicate n ⟨[],none,0⟩) rfl (by rw[XF,FF]) (I.perm ?_)
 show _=aj (aj (jv (CH.eP .i64) mb []) (aj _ (aL []))) Y
 ac_rfl
theorem abf{E:List (Pr × pU)}(h:E.map (·.1)=GX T a b m i j):((i:Int),(j:Int)) ∉ (E.map lS).map (·.1):=by
 rw[qu];intro hm;obtain⟨e,J,I⟩:=List.mem_map.1 hm;have h1:e.1 ∈ GX T a b m i j:=by rw[<-h];exact List.mem_map.2 ⟨e,J,rfl⟩
 obtain⟨r,s,M,h3⟩:=QY h1;simp only[Function.comp,lS,M,Od,Oe,Prod.mk.injEq] at I;omega
end
section
variable{F0:Nat→Prop}{w0 W:World}{R Y:CH.aU}
theorem y9{zs:List cu}(hi:i<zs.length)(h:aI F0 w0 (aj (gy (some ⟨go,0,none⟩) c zs) R) W):
  aI F0 w0 (aj (aY zs[i].A zs[i].c zs[i].l) (aj (aV 39 1 (.slice (some ⟨go,0,none⟩) zs.length c) zs.length (zs.flatMap cu.cl)) (aj (aL ((zs.eraseIdx i).map cu.ow)) R))) W/\W.cell? ⟨go,i,none⟩=some (.slice zs[i].A zs[i].l.length zs[i].c)/\W.frozen? ⟨go,i,none⟩=false:=by
 have J:aI F0 w0 (aj (aY zs[i].A zs[i].c zs[i].l) (aj (aV 39 1 (.slice (some ⟨go,0,none⟩) zs.length c) zs.length (zs.flatMap cu.cl)) (aj (aL ((zs.eraseIdx i).map cu.ow)) R))) W:=(h.imp fun w F hh=>bD hh (fun F h=>Mw hi h) (fun _ h=>h)).perm (by show aj (aj (aY zs[i].A zs[i].c zs[i].l) (aj (aV 39 1 (.slice (some ⟨go,0,none⟩) zs.length c) zs.length (zs.flatMap cu.cl)) (aL ((zs.eraseIdx i).map cu.ow)))) R=_;ac_rfl);obtain⟨F,I⟩:=J.drop.fst;have M:(zs.flatMap cu.cl)[i]?=some (.slice zs[i].A zs[i].l.length zs[i].c):=by
  have:=jP (R:=cu.cl) (size:=1) (fun _=>rfl) hi (i:=0) eL;rw[Bi,pk] at this;exact this
 exact⟨J,nL I M,rC I i eL⟩
theorem Ci{zs:List cu}(hi:i<zs.length)(hl:l.length=n)(hR:R.Ok)(h:aI F0 w0 (aj (aY A d l) (aj (aV 39 1 (.slice (some ⟨go,0,none⟩) zs.length c) zs.length (zs.flatMap cu.cl)) (aj (aL ((zs.eraseIdx i).map cu.ow)) R))) W):
  aI F0 w0 (aj (gy (some ⟨go,0,none⟩) c (zs.set i ⟨l,A,d⟩)) R) (W.setCell ⟨go,i,none⟩ (.slice A n d)):=by
 subst hl;have aa:(aL ((zs.eraseIdx i).map cu.ow)).Ok:=lJ (fun A hA=>by obtain⟨z,_,rfl⟩:=List.mem_map.1 hA;exact dS);obtain⟨F,hF,-,I⟩:=h.kQ.take dQ aO;have J:=I _ _ (vI hF (i:=i) eL (.slice A l.length d));have e:(zs.flatMap cu.cl).set i (.slice A l.length d)=(zs.set i ⟨l,A,d⟩).flatMap cu.cl:=by
  have:=D8 cu.cl 1 (fun _=>rfl) hi (j:=0) eL (v:=.slice A l.length d) (x:=⟨l,A,d⟩) rfl;rw[Bi,pk] at this;exact this
 rw[e] at J;have M:aI F0 w0 (aj (aj (cu.ow ⟨l,A,d⟩) (aj (aV 39 1 (.slice (some ⟨go,0,none⟩) zs.length c) zs.length ((zs.set i ⟨l,A,d⟩).flatMap cu.cl)) (aL ((zs.eraseIdx i).map cu.ow)))) R) _:=J.perm (by show aj _ (aj (aY A d l) _)=aj (aj (aY A d l) _) _;ac_rfl);refine M.imp fun w F hh=>bD hh (fun F h=>?_) (fun _ h=>h);unfold gy;rw[rI];exact aa4 hi h
theorem Cj{zs:List cu}(hi:i<zs.length)(h:aI F0 w0 (aj (aY A d l) (aj (aV 39 1 (.slice (some ⟨go,0,none⟩) zs.length c) zs.length (zs.flatMap cu.cl)) R)) W):
  W.cell? ⟨go,i,none⟩=some (.slice zs[i].A zs[i].l.length zs[i].c)/\W.frozen? ⟨go,i,none⟩=false:=by
 obtain⟨F,I⟩:=h.drop.fst;have J:(zs.flatMap cu.cl)[i]?=some (.slice zs[i].A zs[i].l.length zs[i].c):=by
  have:=jP (R:=cu.cl) (size:=1) (fun _=>rfl) hi (i:=0) eL;rw[Bi,pk] at this;exact this
 exact⟨nL I J,rC I i eL⟩
theorem Q6{a:aR}{m:Nat}{E:List (Pr × pU)}{zs:List cu}{B A9:eV}{pc qc c9:Nat}{I:Int}{zl:List Int}(J:Cc T a b i j=p)(aa:p.c=I)(hE:E.map (·.1)=GX T a b m i j)(M:zs.map (·.l)=wU T a b m n i j)(hi:i<n)(ab:zl=(List.range j).map fun s=>cM T a b i s)(h:aI F0 w0 (aj (gy (some ⟨go,0,none⟩) n (zs.set i ⟨zl++[I],A9,c9⟩)) (aj (jv (CH.eP .i64) mb (mE (E.map lS) ((i:Int),(j:Int)) (.agg (zk p A pc B qc)))) (aj (aL (E.map Ap)) (aj (kP A pc B qc p.d) Y)))) W):aI F0 w0 (aj (BI T a b m n mb go i (j+1)) Y) W:=by
 have hc:cM T a b i j=I:=by unfold cM;rw[J,aa]
 have hk:mE (E.map lS) ((i:Int),(j:Int)) (.agg (zk p A pc B qc))=(E++[(p,pU.mk A pc B qc)]).map lS:=by
  rw[rz (abf hE),kp];have h1:p.i=i:=by rw[<-J,Od]
  have h2:p.j=j:=by rw[<-J,Oe]
  show _=_++[((p.i,p.j),Value.agg (zk p A pc B qc))]
  rw[h1,h2]
 rw[hk] at h;refine XI (E:=E++[(p,pU.mk A pc B qc)]) (zs:=zs.set i ⟨zl++[I],A9,c9⟩) (by rw[kp,hE,aa7,J];rfl) (by rw[vz,M,<-abb hi,ab,hc]) ?_;have h3:aI F0 w0 (aj (aj (Ap (p,pU.mk A pc B qc)) (aL (E.map Ap))) (aj (gy (some ⟨go,0,none⟩) n (zs.set i ⟨zl++[I],A9,c9⟩)) (aj (jv (CH.eP .i64) mb ((E++[(p,pU.mk A pc B qc)]).map lS)) Y))) W:=h.perm (by show _=aj (aj (kP A pc B qc p.d) (aL (E.map Ap))) _;ac_rfl);have h4:aI F0 w0 (aj (aL ((E++[(p,pU.mk A pc B qc)]).map Ap)) (aj (gy (some ⟨go,0,none⟩) n (zs.set i ⟨zl++[I],A9,c9⟩)) (aj (jv (CH.eP .i64) mb ((E++[(p,pU.mk A pc B qc)]).map lS)) Y))) W:=h3.imp fun w F hh=>bD hh (fun F h=>by rw[kp];exact yX h) (fun _ h=>h);exact h4.perm (by ac_rfl)
theorem Ei{o:Oper}(s x:Operand)(ho:o.op=.call { callee:=.builtin .append,args:=#[s,x],argTypes:=#[39,39] }){i:Int}(hl:l.length=n)(hsv:a.eval s=.slice A n c)(hx:a.eval x=.slice (some ⟨W.heap.size,0,none⟩) 1 1)(hn:n<=1000)(hY:Y.Ok)(h:aI F0 w0 (aj (aY A c l) Y) W)(hK:∀ A' c' w',aI F0 w0 (aj (aY A' c' (l++[i])) Y) w'->K (a.put o.dst (.slice A' (n+1) c')) w'):o.wp Tryz.prog a (W.alloc (.cells (fR i) 3)) K Q:=by
 subst hl;obtain⟨F7,J,-,ab⟩:=(h.below aO ((fe _ _).alloc (fL _) (.cells (fR i) 3))).take dS hY;refine V7 s x ho Asn.pI _ 0 (v:=.slice A l.length c) (n:=l.length) (xs:=ints l) hsv J.1 (A:=some ⟨W.heap.size,0,none⟩) (m:=1) (c:=1) (news:=[.int .i64 i]) hx (Asn.og W i) eL eS (fy _) ?_;intro v8 w8 I aa M;have S8:=ab _ _ (jk J I aa M);obtain⟨A8,c8,rfl⟩:=iy I;rw[Asn.yK] at S8;exact hK A8 c8 w8 S8
end
def eF(E:List (Pr × pU))(x y:Int):Option (Pr × pU):=E.find? fun e=>decide (e.1.i=x)&&decide (e.1.j=y)
theorem adt(E:List (Pr × pU))(x y:Int):(eF E x y).map (·.1)=Hk (E.map (·.1)) x y:=by
 unfold eF Hk;rw[List.find?_map];rfl
theorem XJ(x y:Int):∀ E:List (Pr × pU),oh (E.map lS) (x,y)=(eF E x y).map fun e=>.agg (EV e)
 | []=>rfl
 | e::E=>by
  rw[lk]
  show oh (((e.1.i,e.1.j),Value.agg (EV e))::E.map lS) (x,y)=_
  rw[qU];unfold eF;rw[GG];by_cases h:(x,y)=(e.1.i,e.1.j)
  ·rw[if_pos h];injection h with h1 I
   subst h1 I;simp
  ·rw[if_neg h];have I:(decide (e.1.i=x)&&decide (e.1.j=y))=false:=by
    rw[Cp];by_cases J:e.1.i=x
    ·right;refine decide_eq_false fun M=>h ?_;rw[J,M]
    ·left;exact decide_eq_false J
   rw[I];exact XJ x y E
theorem adu{E:List (Pr × pU)}{x:Int}{e:Pr × pU}(h:eF E x y=some e):e ∈ E:=tg h
theorem adv(w:World):(zeroValue 62).run Tryz.prog w=.ok (.agg (gO 0 0 0 0 0 0 0 none 0 0 none 0 0 ⟨#[]⟩)) w:=by kernel_rfl
theorem adw{E:List (Pr × pU)}(h:jv (CH.eP .i64) mb (E.map lS) W F)(x y:Int):
  (Instr.lookup 77 (.map (some mb)) (.agg (tM x y)) true).run Tryz.prog W=.ok (.tuple #[E0 (eF E x y),.bool (eF E x y).isSome]) W:=by
 obtain⟨⟨es,J,h1,h2⟩,hF⟩:=h;have I:=qE OI Tryz.underlying77 adv h2 (x,y) W h1;rw[XJ] at I;unfold E0;cases M:eF E x y with
 | none=>rw[M] at I;exact I
 | some e=>rw[M] at I;exact I
theorem GY{T:eW}{a b:aR}{n:Nat}{E:List (Pr × pU)}(hE:E.map (·.1)=GX T a b b.ws.length n 0):∀ (l:List Int) (i:Nat),i+l.length<=n->(picks (eF E) i l).map (·.1)=fI T a b i l
 | [],i,_=>rfl
 | j::l,i,h=>by
  have I:=adt E i j;rw[hE,aa9 eL (by simp at h;omega)] at I
  show((eF E i j).toList++picks (eF E) (i+1) l).map (·.1)=_
  rw[kp,GY hE l (i+1) (by simp at h;omega)];rw[fI];split
  ·rename_i M;rw[if_pos M] at I;cases J:eF E i j with
   | none=>rw[J] at I;cases I
   | some e=>rw[J] at I;injection I with I;simp[I]
  ·rename_i M;rw[if_neg M] at I;cases J:eF E i j with
   | none=>rfl
   | some e=>rw[J] at I;cases I
theorem GZ{E:List (Pr × pU)}{e:Pr × pU}:∀ (l:List Int) (i:Nat),e ∈ picks (eF E) i l->e ∈ E
 | [],i,h=>by cases h
 | j::l,i,h=>by
  rcases List.mem_append.1 h with h|h
  ·cases I:eF E i j with
   | none=>rw[I] at h;cases h
   | some e'=>
    rw[I] at h;simp at h;subst h;exact adu I
  ·exact GZ l (i+1) h
theorem adx{E:List (Pr × pU)}:∀ {F:Nat->Prop},aL (E.map Ap) w F->∀ e ∈ E,iJ w e.2.A e.1.d.L/\iJ w e.2.B e.1.d.M:=by
 induction E with
 | nil=>intro F _ e I;cases I
 | cons x E ih=>
  intro F h e I;obtain⟨F1,F2,h1,J,-,-⟩:=h;rcases List.mem_cons.1 I with rfl|I
  ·obtain⟨F3,F4,h3,h4,-,-⟩:=h1;exact⟨Qc h3,Qc h4⟩
  ·exact ih J e I
structure E1(w:World)(A:eV)(l:List (Pr × pU)):Prop where
 row:sI Jh 10 w A l
 all:∀ e ∈ l,iJ w e.2.A e.1.d.L/\iJ w e.2.B e.1.d.M
theorem E1.below{l:List (Pr × pU)}(h:E1 w A l)(hb:Below w.heap.size w w'):E1 w' A l:=⟨aZ h.row hb,fun e he=>⟨(h.all e he).1.below hb,(h.all e he).2.below hb⟩⟩
def BV(A:eV)(c:Nat)(l:List (Pr × pU)):CH.aU:=lW fun E:List (Pr × pU)=>tu (∀ e ∈ l,e ∈ E) (aj (Ed A c l) (aL (E.map Ap)))
theorem XK{l:List (Pr × pU)}:(BV A c l).Ok:=bZ fun _=>gJ (aB XE OH)
instance {A:eV} {c:Nat} {l:List (Pr × pU)}:(BV A c l).Ok:=XK
theorem aeu{l:List (Pr × pU)}(h:BV A c l w F):E1 w A l:=by
 obtain⟨E,hE,F1,F2,h1,h2,-,-⟩:=h;exact⟨iK h1 (QX _),fun e he=>adx h2 e (hE e he)⟩
theorem abg(w:World):BV none 0 [] w eR:=⟨[],(fun e he=>by cases he),fun _=>False,fun _=>False,gu w 62 10,fun _ h=>h,fun _ h=>h.elim,fun i=>by simp⟩
def Jj(w:World)(T:eW)(a b:aR)(e:Ending)(w':World):Prop:=
 ∃ (x:Mt) (er:Int) (A:eV) (c:Nat) (l:List (Pr × pU)),e=.returned (.tuple #[.agg (jb x.c x.s A l.length c),.int .i64 er])/\BG T a b x er/\l.map (·.1)=x.ps/\bT w eR (BV A c l) w'
theorem G5{a:aR}{e:Ending}(h:Jj w T a b e w'):
  ∃ (x:Mt) (I:Int) (A:eV) (c:Nat) (l:List (Pr × pU)),e=.returned (.tuple #[.agg (jb x.c x.s A l.length c),.int .i64 I])/\BG T a b x I/\l.map (·.1)=x.ps/\E1 w' A l/\Below w.heap.size w w':=by
 obtain⟨x,I,A,c,l,J,M,h3,F,h4,h5,-⟩:=h;exact⟨x,I,A,c,l,J,M,h3,aeu h4,h5.below (fun _ _ h=>h)⟩
end Go.Proofs.YtbioiclabmbedaaGreatDoor
namespace Go.CH.Mtc
open Go.CH.Scr Go.CH.dh
section
variable{T:eW}{a b:aR}
theorem Ck:nO T a b=true↔bI T=true/\eY a=true/\eY b=true:=by unfold nO;rw[gA,gA]
variable{n:Nat}{f:Nat->Int}{k:Int}
theorem xu(h:∀ i,f i<=k):bA.sg n f<=n*k:=by
 induction n with
 | zero=>simp[bA.sg]
 | succ n ih=>
  have h1:=h n;rw[bA.dK,sl,Hb];omega
theorem Q9(h:nO T a b=true):0<=nH T a b/\nH T a b<=12000/\jR T a b<=12000:=by
 obtain⟨I,ha,hb⟩:=Ck.1 h;have h1:=(aW.1 ha).2.2;have h2:=(aW.1 hb).2.2;have h3:=IW (BG.some h);have h4:bA.sg a.ws.length (dM T a)<=a.ws.length*1000:=xu fun i=>(mI I i).2;have h5:bA.sg b.ws.length (dM T b)<=b.ws.length*1000:=xu fun i=>(mI I i).2;have hn:∀ P,bA.bA a.ws.length b.ws.length P->0<=bA.cost (cM T a b) (dM T a) (dM T b) a.ws.length b.ws.length P:=fun P hP=>by
  unfold bA.cost
  have h2:=bA.qI (n:=a.ws.length) (f:=fun i=>if P i<b.ws.length then cM T a b i (P i) else dM T a i) (fun i hi=>by
   split
   ·exact(wM I _ _).1
   ·exact(mI I _).1)
  have h3:=bA.qI (n:=b.ws.length) (f:=fun j=>if bA.used P a.ws.length j then 0 else dM T b j) (fun j hj=>by
   split
   ·exact lz _
   ·exact(mI I _).1)
  omega
 have hA:bA.bA a.ws.length b.ws.length (fun _=>b.ws.length):=⟨fun _ _=>fL _,fun i j hi hj _ h=>absurd h (my _)⟩;have M:bA.tH a.ws.length b.ws.length (fun _=>b.ws.length):=fun i j _ _ h=>absurd h (my _);have h6:=(oq (T:=T) (a:=a) (b:=b)).low _ hA M;have h7:bA.cost (cM T a b) (dM T a) (dM T b) a.ws.length b.ws.length (fun _=>b.ws.length)=bA.sg a.ws.length (dM T a)+bA.sg b.ws.length (dM T b):=by
  unfold bA.cost;congr 1
  ·exact bA.bL fun i _=>if_neg (my _)
  ·refine bA.bL fun j hj=>if_neg ?_;rw[C1,bA.mY];intro i _ e;omega
 obtain⟨P',J,aa⟩:=(qy (T:=T) (a:=a) (b:=b)).has;have h8:=hn P' J;have h9:=aak (T:=T) (a:=a) (b:=b);rw[h7] at h6;omega
theorem MF:(uG T a b).length=a.ws.length:=Ls.len
theorem MG:(vS T a b).length=a.ws.length:=Lu.1.len
end
end Go.CH.Mtc
namespace Go.Proofs.YtbioiclabmbedaaGreatDoor
open Go.RowKit Go.CH Go.CH.Scr Go.CH.dh Go.CH.Mtc
open Asn (aY dS fE uJ Vec ints cF lF mJ pG lI)
open Go.ChangeMaps (setBlock)
section
variable{T:eW}{a b:aR}
variable{i j la lb c d e:Nat}{W w:World}{A B G:eV}{V:List (eV × Nat)}{k:Int}{X:CH.aU}
theorem Jl(hi:i<a.ws.length)(hj:j<b.ws.length):cF (wU T a b b.ws.length a.ws.length a.ws.length 0) i j=cM T a b i j:=by
 rw[pG (by rw[lK];exact hi),y8,if_pos hi];unfold lF;rw[ki,lB,CL hj];rfl
theorem nM(n:aR)(hi:i<n.ws.length):lF (n.ws.map (bQ T n.k)) i=dM T n i:=by
 unfold lF dM wd;rw[ki,ki,lB,ic hi];rfl
theorem S6(h:nO T a b=true):mJ (wU T a b b.ws.length a.ws.length a.ws.length 0) (a.ws.map (bQ T a.k)) (b.ws.map (bQ T b.k))=true:=by
 obtain⟨J,ha,hb⟩:=Ck.1 h;have h1:=(aW.1 ha).2.2;have h2:=(aW.1 hb).2.2;have hd:∀ n:aR,Asn.wi (n.ws.map (bQ T n.k)) 0 10000=true:=fun n=>by
  unfold Asn.wi;rw[j7];intro x I;obtain⟨y,-,rfl⟩:=List.mem_map.1 I;have:=Gv J n.k y;rw[gA,decide_eq_true_eq,decide_eq_true_eq];omega
 unfold mJ;simp only[gA,decide_eq_true_eq,j7];refine⟨⟨⟨⟨⟨by rw[lK,fY],by rw[fY];exact h1⟩,by rw[fY];exact h2⟩,hd a⟩,hd b⟩,fun r hr=>?_⟩;obtain⟨k,M,rfl⟩:=zE hr;rw[y8,if_pos (by rw[lK] at M;exact M)];refine⟨by simp,?_⟩;unfold Asn.wi;rw[j7];intro x I;obtain⟨s,-,rfl⟩:=List.mem_map.1 I;have:=wM (a:=a) (b:=b) J k s;rw[gA,decide_eq_true_eq,decide_eq_true_eq];exact this
theorem ae3(M:la=a.ws.length)(aa:lb=b.ws.length)(J:nO T a b=true)(h:uJ W A (wU T a b lb la la 0) V)(hD:iJ W B (a.ws.map (bQ T a.k)))(hE:iJ W G (b.ws.map (bQ T b.k))):
  Calls Tryz.prog 26 #[.slice A la c,.slice B la d,.slice G lb e] W (fun en w'=>∃ A1 c1,en=.returned (.tuple #[.slice A1 (vS T a b).length c1,.int .i64 (jR T a b),.int .i64 0])/\Below W.heap.size W w'/\iJ w' A1 (vS T a b)):=by
 subst M aa;have h1:=Asn.Ma (c:=c) (d:=d) (e:=e) h (by rw[lK];have:=(aW.1 (Ck.1 J).2.1).2.2;simp only[maxLen];omega) (D:=a.ws.map (bQ T a.k)) (E:=b.ws.map (bQ T b.k)) hD hE;rw[lK,fY,fY] at h1;refine h1.mono ?_;rintro en w' ⟨v,rfl,hb,A1,c1,rfl,hr⟩;have hv:=S6 J;have e1:Asn.jR (wU T a b b.ws.length a.ws.length a.ws.length 0) (a.ws.map (bQ T a.k)) (b.ws.map (bQ T b.k))=jR T a b:=by
  unfold Asn.jR jR;rw[if_pos hv,fY,fY];exact bA.y7 (fun i hi j I=>Jl hi I) (fun i hi=>nM a hi) (fun j I=>nM b I) _ _ (fL _) (fL _)
 have e2:Asn.vS (wU T a b b.ws.length a.ws.length a.ws.length 0) (a.ws.map (bQ T a.k)) (b.ws.map (bQ T b.k))=vS T a b:=by
  unfold Asn.vS vS;rw[if_pos hv,fY,fY];exact bA.Ao (fun i hi j I=>Jl hi I) (fun i hi=>nM a hi) (fun j I=>nM b I) _ _ (fL _) (fL _)
 rw[e2] at hr;exact⟨A1,c1,by rw[e1,e2];unfold Asn.L9;rw[if_pos hv],hb,hr⟩
theorem anyM(aa:la=a.ws.length)(ab:lb=b.ws.length)(M:nO T a b=true)(h:uJ W A (wU T a b lb la la 0) V)(hD:iJ W B (a.ws.map (bQ T a.k)))(hE:iJ W G (b.ws.map (bQ T b.k)))(hd:la<=d):
  Calls Tryz.prog 27 #[.slice A la c,.slice B la d,.slice G lb e] W (fun en w'=>∃ A1 c1 A2 n2 c2 A3 n3 c3,en=.returned (.tuple #[.agg (gR (nH T a b) A1 (uG T a b).length c1 A2 n2 c2 A3 n3 c3),.int .i64 0])/\Below W.heap.size W w'/\iJ w' A1 (uG T a b)):=by
 subst aa ab;have h1:=Asn.uD (c:=c) (d:=d) (e:=e) h (by rw[lK];have:=(aW.1 (Ck.1 M).2.1).2.2;simp only[maxLen];omega) (D:=a.ws.map (bQ T a.k)) (E:=b.ws.map (bQ T b.k)) hD hE (by rw[fY];exact hd);rw[lK,fY,fY] at h1;refine h1.mono ?_;have hv:=S6 M;rintro en w' ⟨v,rfl,hb,J⟩;rw[if_pos hv] at J;obtain⟨A1,A2,A3,c1,c2,c3,rfl,J,-,-⟩:=J;have e1:(Asn.fO (wU T a b b.ws.length a.ws.length a.ws.length 0) (a.ws.map (bQ T a.k)) (b.ws.map (bQ T b.k))).k=nH T a b:=by
  unfold Asn.fO nH bA.mZ;simp only[fY];exact bA.y5 (fun i hi j I=>Jl hi I) (fun i hi=>nM a hi) (fun j I=>nM b I) _ _ (fL _)
 have e2:(Asn.fO (wU T a b b.ws.length a.ws.length a.ws.length 0) (a.ws.map (bQ T a.k)) (b.ws.map (bQ T b.k))).ps=uG T a b:=by
  unfold Asn.fO uG bA.YO;simp only[fY];exact bA.Ee (fun i hi j I=>Jl hi I) (fun i hi=>nM a hi) (fun j I=>nM b I) _ _ (fL _)
 rw[e2] at J;exact⟨A1,c1,A2,_,c2,A3,_,c3,by rw[e1,e2,if_pos hv],hb,J⟩
theorem Ra{E:List (Pr × pU)}{cs:List Int}{M:Bool}{Z:CH.aU}(I:nO T a b=true)(hE:E.map (·.1)=GX T a b b.ws.length a.ws.length 0)(hl:cs.length<=a.ws.length)(J:fO T a b=⟨k,M,fI T a b 0 cs⟩)(h:aI eR w (aj Z (aj (Ed A c (picks (eF E) 0 cs)) (aj (aL (E.map Ap)) X))) W):Jj w T a b (.returned (.tuple #[.agg (jb k M A (picks (eF E) 0 cs).length c),.int .i64 0])) W:=by
 have h1:=(h.perm (by ac_rfl:_=aj (aj Z X) (aj (Ed A c (picks (eF E) 0 cs)) (aL (E.map Ap))))).drop;have h2:aI eR w (BV A c (picks (eF E) 0 cs)) W:=h1.imp fun w F hh=>⟨E,fun e he=>GZ cs 0 he,hh⟩;exact⟨fO T a b,0,A,c,picks (eF E) 0 cs,by rw[J],.some I,by rw[J];exact GY hE cs 0 eL,h2.post XK⟩
end
variable{w W w' w0:World}{v:Value}{T:eW}{n a b:aR}{g i:Nat}{F0:Nat->Prop}{t:TypeId}{X:CH.aU}{A:eV}
theorem aG{p:Addr}(h:w.cell? p=some v)(hb:Below w.heap.size w W):W.cell? p=some v:=by rw[hb.cell (py _ _ h)];exact h
theorem Q7{e:Ending}(h:qH w T n e w'):∃ (A:eV) (p c:Nat) (B:eV) (q d:Nat) (o:Bool),e=.returned (.tuple #[.agg (fx A p c B q d),.bool o])/\Below w.heap.size w w'/\o=(bI T&&eY n)/\(o=true->p=n.ws.length/\q=n.ws.length/\p<=c/\q<=d/\∃ l,Jf w' T n l A B):=by
 unfold qH at h;split at h
 ·rename_i I;obtain⟨l,A,c,B,d,rfl,J,M,h1,h2⟩:=h;exact⟨A,_,c,B,_,d,true,rfl,J,I.symm,fun _=>⟨rfl,rfl,h1,h2,l,M⟩⟩
 ·rename_i I;obtain⟨rfl,J⟩:=h;exact⟨none,0,0,none,0,0,false,rfl,J,by simpa using I,fun h=>by cases h⟩
theorem Q8{tmps:Array Value}{cs:Array Value}(h:tmps.getD 6 undef=.pointer (some ⟨g,0,none⟩))(M:cs.size=3)(J:w.heap[g]?=some (.cells cs 34))(I:tmps.getD 7 undef=v):(results Tryz.f12 tmps).run Tryz.prog w=.ok (.tuple #[.agg cs,v]) w:=by
 subst I;exact cZ rfl tmps w g 34 cs (0,0) h J Tryz.underlying34 (by rw[M];kernel_rfl)
theorem za{a0 M J:Value}(h:aI F0 w0 (aj (av g #[a0,M,J] t) X) w)(I:X.Ok)(b0 b1 b2:Value):
  aI F0 w0 (aj (av g #[b0,b1,b2] t) X) (((w.setCell ⟨g,0,none⟩ b0).setCell ⟨g,1,none⟩ b1).setCell ⟨g,2,none⟩ b2):=by
 have h0:aI F0 w0 (aj (av g #[b0,M,J] t) X) _:=aJ h I 0 b0;have h1:aI F0 w0 (aj (av g #[b0,b1,J] t) X) _:=aJ h0 I 1 b1;exact aJ h1 I 2 b2
theorem Jk(h:i<n.ws.length):wd n i ∈ n.ws:=by
 unfold wd;rw[ki,ic h];exact gw h
theorem XL{l:List (wW × WW)}{B:eV}(h:Jf w T n l A B)(hi:i<n.ws.length):
  ∃ (u:WW) (b o:Nat),A=some ⟨b,o,none⟩/\∀ W,Below w.heap.size w W->lT W (jf T n.k (wd n i)) u/\W.cell? ⟨b,o+i*3,none⟩=some (.int .i64 (jf T n.k (wd n i)).k)/\W.cell? ⟨b,o+i*3+1,none⟩=some (.slice u.V (jf T n.k (wd n i)).vs.length u.vc)/\W.cell? ⟨b,o+i*3+2,none⟩=some (.slice u.L (jf T n.k (wd n i)).ls.length u.lc):=by
 have hl:l.length=n.ws.length:=by have:=congrArg List.length h.eq;simpa using this
 obtain⟨b,o,hA,M⟩:=sI.at (R:=fT) (fun _=>rfl) eL h.row eL;have he:(l[i]'eL).1=jf T n.k (wd n i):=by
  have I:(l.map (·.1))[i]?=(n.ws.map (jf T n.k))[i]?:=by rw[h.eq]
  rw[lB,lB,ic (show i<l.length by omega),ic hi] at I;injection I with I
  unfold wd;rw[ki,ic hi];exact I
 refine⟨(l[i]'eL).2,b,o,hA,fun W J=>?_⟩;rw[<-he];exact⟨(h.all _ (gw _)).below J,M W J i eL 0 _ rfl,M W J i eL 1 _ rfl,M W J i eL 2 _ rfl⟩
theorem XM(h:nO T a b=false)(hb:Below w.heap.size w W):Jj w T a b (.returned (.tuple #[.agg (jb 0 false none 0 0),.int .i64 1])) W:=
 ⟨SD,1,none,0,[],rfl,.arg h,rfl,fun _=>False,abg W,Mod.of_below hb,fun _ h=>h.elim⟩
abbrev _root_.Go.rN(i j:Int)(p:Pr)(A:eV)(c:Nat)(B:eV)(d:Nat):Array Value:=gO i j p.kd p.l p.r p.c p.d.c A p.d.L.length c B p.d.M.length d (bs p.d.F)
theorem Ej{ta:TA}(hT:jV w T ta)(hz:LZ w){An Bn:eV}{ca cb:Nat}(hA:fu w An a.ws)(hB:fu w Bn b.ws)(bi:a.ws.length<=1000000)(bf:b.ws.length<=1000000)(cp:∀ x ∈ a.ws,x.length<=1000000)(ch:∀ x ∈ b.ws,x.length<=1000000):
  Calls Tryz.prog 12 #[dI T ta,uU a An ca,uU b Bn cb] w (Jj w T a b):=by
 have h1:=aH (aI.begin w) aM (dN T ta) 25;have h2:=aH h1 aO (ff a.k An a.ws.length ca) 28;have h3:=aH h2 aO (ff b.k Bn b.ws.length cb) 28;have h4:=aH h3 aO (jb 0 false none 0 0) 34;simp only[ik] at h4;have H4:=au h4;have br:=au (fun W X (h:aI eR w X W)=>(show Below w.heap.size w W from h.mod.below (fun _ _ h=>h)));have KA:=au (fun W (J:Below w.heap.size w W)=>(Eb (n:=a) (cn:=ca) (hT.below J) (hz.below J) (aZ hA J) bi cp).mono fun e w' h=>Q7 h);have KB:=au (fun W (J:Below w.heap.size w W)=>(Eb (n:=b) (cn:=cb) (hT.below J) (hz.below J) (aZ hB J) bf ch).mono fun e w' h=>Q7 h);have cG:=au (fun (ap:bI T=true) (bh:eY a=true) (hv3:eY b=true) W (J:Below w.heap.size w W) (i j:Nat) (hi:i<a.ws.length) (hj:j<b.ws.length) (u v:WW) (hu:lT W (jf T a.k (wd a i)) u) (hv:lT W (jf T b.k (wd b j)) v)=>zm (hT.below J) (hz.below J) (cp _ (Jk hi)) (ch _ (Jk hj)) (fV.2 ⟨(aW.1 bh).1 _ (Jk hi),(aW.1 hv3).1 _ (Jk hj),ap⟩) hu hv);have en:=au (fun W (J:Below w.heap.size w W)=>(show jV W T ta/\LZ W from⟨hT.below J,hz.below J⟩));have em:=au cp;have eo:=au ch;clear hT hz hA hB bi bf cp ch h1 h2 h3 h4;unfold dI uU at *
 unfold dN at *
 generalize T.rs.length=n1 at *
 generalize T.ds.length=n2 at *
 generalize T.es.length=n3 at *
 obtain⟨la,bi⟩:∃ la,la=a.ws.length:=⟨_,rfl⟩;obtain⟨lb,bf⟩:∃ lb,lb=b.ws.length:=⟨_,rfl⟩;have a5:=au bi;have bj:=au bf;rw[<-bi] at H4 KA ⊢;rw[<-bf] at H4 KB ⊢;clear bi bf;obtain⟨aA,ac,aD,ad,aE,ae⟩:=ta;dsimp only at H4 KA KB cG ⊢;generalize d6:(((w.alloc (.cells (fh aA n1 ac aD n2 ad aE n3 ae T.drop T.ord T.ini) 25)).alloc (.cells (ff a.k An la ca) 28)).alloc (.cells (ff b.k Bn lb cb) 28)).alloc (.cells (jb 0 false none 0 0) 34)=w4 at H4;generalize d7:w.heap.size+1=g4 at H4;generalize eg:g4+1=g5 at H4;generalize ei:g5+1=g6 at H4
 go_enter Tryz.func12,Tryz.ntmps12
 go_upto_region 1 with (fail);clear d6 d7 eg ei;obtain⟨t0,t1,t2,t3,t4,t5⟩:=dW H4.o.drop.drop.drop;obtain⟨s0,s1,sf⟩:=bW H4.o.drop.drop;have dl:=au (KA.o w4 (br.o _ _ H4.o));clear KA;go_wp2_with fail;refine dl.o.mono ?_;rintro e9 w5 ⟨xA,n,xc,xB,p,xd,o1,rfl,J,hov,hR⟩;have H5:=au (H4.o.below aO J);have b4:=au hov;have cq:=au hR;clear dl J hov hR t0 t1 t2 t3 t4 t5 s0 s1 sf H4;have H6:=au (aH H5.o aO (fx xA n xc xB p xd) 74);have cJ:=au (show Below w5.heap.size w5 (w5.alloc (.cells (fx xA n xc xB p xd) 74)) from(fe _ _).alloc (fL _) _);dsimp only;go_upto_region 2 with (fail);generalize w5.alloc (.cells (fx xA n xc xB p xd) 74)=w6 at *
 clear H5;generalize df:w5.heap.size=g8 at *
 have dk:=au df;clear df;obtain⟨t0,t1,t2,t3,t4,t5⟩:=dW H6.o.drop.drop.drop.drop;obtain⟨s0,s1,sf⟩:=bW H6.o.drop.drop;have db:=au (KB.o w6 (br.o _ _ H6.o));clear KB;go_wp2_with fail;refine db.o.mono ?_;rintro e9 w7 ⟨yA,m,yc,yB,q,yd,o2,rfl,J,hov,hR⟩;have H7:=au (H6.o.below aO J);have aq:=au hov;have ck:=au hR;have cD:=au (show Below w5.heap.size w5 w7 from by rw[dk.o];exact cJ.o.trans (J.mono (j8 (LO dk.o.symm) cJ.o.size)));clear db J hov hR t0 t1 t2 t3 t4 t5 s0 s1 sf H6 cJ;have H8:=au (aH H7.o aO (fx yA m yc yB q yd) 74);have dC:=au (show Below w7.heap.size w7 (w7.alloc (.cells (fx yA m yc yB q yd) 74))/\w5.heap.size<=w7.heap.size from⟨(fe _ _).alloc (fL _) _,cD.o.size⟩);dsimp only;go_upto_region 3 with (fail);generalize w7.alloc (.cells (fx yA m yc yB q yd) 74)=I at *
 clear H7;generalize c6:w7.heap.size=g10 at *
 have dy:=au c6;clear c6;cases o1 with
 | false=>
  have cR:=au (fun W J=>XM (w:=w) (W:=W) (T:=T) (a:=a) (b:=b) (by unfold nO;rw[<-Bool.and_assoc,<-b4.o];rfl) J);obtain⟨z0,z1,z2⟩:=fF H8.o.drop.drop;obtain⟨F6,am⟩:=H8.o.drop.drop.fst;have zf:=aN am;have h9:=za (H8.o.perm (by ac_rfl:_=(aj (av g6 (jb 0 false none 0 0) 34) (aj (av g10 (fx yA m yc yB q yd) 74) (aj (av g8 (fx xA n xc xB p xd) 74) (aj (av g5 (ff b.k Bn lb cb) 28) (aj (av g4 (ff a.k An la ca) 28) (aj (av w.heap.size (fh aA n1 ac aD n2 ad aE n3 ae T.drop T.ord T.ini) 25) bG)))))))) aO (.int .i64 0) (.bool false) (.slice none 0 0);have H9:=au h9;clear h9 am F6 H8 cq ck b4 aq;go_wp2;obtain⟨f2,bb⟩:=H9.o.fst;refine bodyPost_ret (Q8 rfl rfl bb.1 rfl) rfl ?_;exact cR.o _ (br.o _ _ H9.o)
 | true=>
  cases o2 with
  | false=>
   have cR:=au (fun W J=>XM (w:=w) (W:=W) (T:=T) (a:=a) (b:=b) (by unfold nO;rw[Bool.and_comm (eY a),<-Bool.and_assoc,<-aq.o];rfl) J);obtain⟨z0,z1,z2⟩:=fF H8.o.drop.drop;obtain⟨F6,am⟩:=H8.o.drop.drop.fst;have zf:=aN am;have h9:=za (H8.o.perm (by ac_rfl:_=(aj (av g6 (jb 0 false none 0 0) 34) (aj (av g10 (fx yA m yc yB q yd) 74) (aj (av g8 (fx xA n xc xB p xd) 74) (aj (av g5 (ff b.k Bn lb cb) 28) (aj (av g4 (ff a.k An la ca) 28) (aj (av w.heap.size (fh aA n1 ac aD n2 ad aE n3 ae T.drop T.ord T.ini) 25) bG)))))))) aO (.int .i64 0) (.bool false) (.slice none 0 0);have H9:=au h9;clear h9 am F6 H8 cq ck b4 aq;go_wp2;obtain⟨f2,bb⟩:=H9.o.fst;refine bodyPost_ret (Q8 rfl rfl bb.1 rfl) rfl ?_;exact cR.o _ (br.o _ _ H9.o)
  | true=>
   obtain⟨hn,hp,eq,du,l1,a2⟩:=cq.o rfl;obtain⟨hm,hq,ep,er,l2,di⟩:=ck.o rfl;obtain rfl:la=n:=hn.symm;obtain rfl:la=p:=hp.symm;obtain rfl:lb=m:=hm.symm;obtain rfl:lb=q:=hq.symm;have ap:bI T=true/\eY a=true:=by have h1:=b4.o;rw[eq_comm,gA] at h1;exact h1
   have bh:eY b=true:=by have h1:=aq.o;rw[eq_comm,gA] at h1;exact h1.2
   have bw:=au (show nO T a b=true from by unfold nO;rw[ap.1,ap.2,bh];rfl);have b5:Below w7.heap.size w7 I:=by rw[dy.o];exact dC.o.1
   have d9:=au ap.1;have ea:=au (aW.1 ap.2);have eh:=au (aW.1 bh);have ek:la<=6:=by rw[a5.o];exact ea.o.2.2
   have el:lb<=6:=by rw[bj.o];exact eh.o.2.2
   have HN:=au (fun W (J:Below I.heap.size I W)=>(show Jf W T a l1 xA xB/\Jf W T b l2 yA yB from by
    have h7:Below w7.heap.size w7 W:=b5.trans (J.mono b5.size)
    exact⟨a2.below (cD.o.trans (h7.mono cD.o.size)),di.below h7⟩))
   have d4:=au (fun i (hi:i<la)=>XL (HN.o I (fe _ _)).1 (i:=i) (by rw[<-a5.o];exact hi));have ed:=au (fun i (hi:i<lb)=>XL (HN.o I (fe _ _)).2 (i:=i) (by rw[<-bj.o];exact hi));have dc:Below w.heap.size w I:=br.o _ _ H8.o;have KC:=au (fun W (J:Below I.heap.size I W) (i j:Nat) (hi:i<la) (hj:j<lb) (u v:WW) hu hv=>cG.o ap.1 ap.2 bh W (dc.trans (J.mono dc.size)) i j (by rw[<-a5.o];exact hi) (by rw[<-bj.o];exact hj) u v hu hv);clear cG;obtain⟨t0,t1,t2,t3,t4,t5⟩:=dW H8.o.drop.drop.drop.drop.drop;obtain⟨x0,x1,-⟩:=bW H8.o.drop;obtain⟨y0,y1,-⟩:=bW H8.o;have a1:=au (fun W (J:Below I.heap.size I W)=>(show(l4 W w.heap.size (.slice aA n1 ac) (.slice aD n2 ad) (.slice aE n3 ae) (.int .i64 T.drop) (.int .i64 T.ord) (.int .i64 T.ini))/\(mz W g8 (.slice xA la xc) (.slice xB la xd))/\(mz W g10 (.slice yA lb yc) (.slice yB lb yd)) from⟨⟨aG t0 J,aG t1 J,aG t2 J,aG t3 J,aG t4 J,aG t5 J⟩,⟨aG x0 J,aG x1 J⟩,aG y0 J,aG y1 J⟩));clear t0 t1 t2 t3 t4 t5 x0 x1 y0 y1 a2 di ap bh b5 hn hp hm hq cq ck b4 aq;have ec:∀ w:World,(Instr.makeMap 77 none).run Tryz.prog w=.ok (.map (some w.heap.size)) (w.alloc (.map #[] 0)):=fun w=>by kernel_rfl
   have cA:=aH ((aI.begin I).fresh aM (su (kv:=CH.eP .i64) I)) aO #[.map (some I.heap.size)] 77;simp only[ik] at cA;have cx:=au cA;clear cA;go_upto_region 6 with (fail);generalize (I.alloc (.map #[] 0)).alloc (.cells #[.map (some I.heap.size)] 77)=da at *
   obtain⟨⟨t0,t1,t2,t3,t4,t5⟩,⟨x0,x1⟩,y0,y1⟩:=a1.o da cx.o.cK;clear ec;go_wp2_with (refine Asn.qz rfl (.tmp 48) rfl la eL (by simp[Act.eval]) ?_;refine held ?_);refine lO.mk fun dE hP=>?_;rw[<-Asn.uN la (.slice none 0 0)] at hP;have dm:=cx.o.fresh aO hP;generalize da.heap.size=go at *
   have cE:=au (ads (T:=T) (a:=a) (b:=b) (m:=lb) (dm.perm (by ac_rfl:_=aj (aV 39 1 (.slice (some ⟨go,0,none⟩) la la) la (List.replicate la (.slice none 0 0))) (aj (jv (CH.eP .i64) I.heap.size []) (aj (av (I.heap.size+1) #[.map (some I.heap.size)] 77) bG)))));clear dm hP cx t0 t1 t2 t3 t4 t5 x0 x1 y0 y1;obtain⟨⟨t0,t1,t2,t3,t4,t5⟩,⟨x0,x1⟩,y0,y1⟩:=a1.o dE cE.o.cK;go_wp2_with fail;clear t0 t1 t2 t3 t4 t5 x0 x1 y0 y1;go_loopw [53] (fun kk wr=>∃ i:Nat,kk=.int .i64 i/\i<=la/\aI eR I (aj (BI T a b lb la I.heap.size go i 0) (aj (av (I.heap.size+1) #[.map (some I.heap.size)] 77) bG)) wr) (fun kk _=>la-(intOf kk).toNat)
   case atStart=>exact⟨0,rfl,fy _,cE.o⟩
   case round=>
    obtain⟨i,rfl,hi,hR⟩:=hrel;have HR:=au hR;clear cE hR;obtain⟨⟨t0,t1,t2,t3,t4,t5⟩,⟨x0,x1⟩,y0,y1⟩:=a1.o wr HR.o.cK;by_cases ag:i<la
    ·obtain⟨u,xb,xo,d5,cg⟩:=d4.o i ag;have KI:=au (fun W J j hj v hu hv=>KC.o W J i j ag hj u v hu hv);obtain⟨uw,cT⟩:∃ uw,uw=jf T a.k (wd a i):=⟨_,rfl⟩;rw[<-cT] at cg KI;have dt:=au cg;obtain⟨-,c0,c1,c2⟩:=cg wr HR.o.cK;have cQ:=au (aH HR.o aO (fi uw u) 81);clear cg cT;subst d5;unfold wX sD at KI;go_upto_region 10 with (fail);generalize wr.alloc (.cells (fi uw u) 81)=dT at *
     generalize wr.heap.size=g15 at *
     clear c0 c1 c2 t0 t1 t2 t3 t4 t5 x0 x1 y0 y1 HR;obtain⟨⟨t0,t1,t2,t3,t4,t5⟩,⟨x0,x1⟩,y0,y1⟩:=a1.o dT cQ.o.cK;have c8:=au (cQ.o.perm (by ac_rfl:_=aj (BI T a b lb la I.heap.size go i 0) (aj (av g15 (fi uw u) 81) (aj (av (I.heap.size+1) #[.map (some I.heap.size)] 77) bG))));clear cQ;go_wp2_with fail;clear t0 t1 t2 t3 t4 t5 x0 x1 y0 y1;go_loopw [61] (fun kk wr=>∃ j:Nat,kk=.int .i64 j/\j<=lb/\aI eR I (aj (BI T a b lb la I.heap.size go i j) (aj (av g15 (fi uw u) 81) (aj (av (I.heap.size+1) #[.map (some I.heap.size)] 77) bG))) wr) (fun kk _=>lb-(intOf kk).toNat)
     case atStart=>exact⟨0,rfl,fy _,c8.o⟩
     case round=>
      obtain⟨j,rfl,hj,hR⟩:=hrel;have HR:=au hR;clear c8 hR;obtain⟨⟨t0,t1,t2,t3,t4,t5⟩,⟨x0,x1⟩,y0,y1⟩:=a1.o _ HR.o.cK;by_cases be:j<lb
      ·obtain⟨v,yb,yo,eb,co⟩:=ed.o j be;obtain⟨vw,de⟩:∃ vw,vw=jf T b.k (wd b j):=⟨_,rfl⟩;have KJ:=au (fun W J hu hv=>KI.o W J j be v hu hv);rw[<-de] at co KJ;obtain⟨-,d0,d1,d2⟩:=co _ HR.o.cK;have ee:=au (fun W J=>(co W J).1);have az:=au (aH HR.o aO (fi vw v) 81);clear co de;subst eb;go_upto_region 13 with (fail);generalize wr.alloc (.cells (fi vw v) 81)=cj at *
       generalize wr.heap.size=ab at *
       clear d0 d1 d2 t0 t1 t2 t3 t4 t5 x0 x1 y0 y1 HR;obtain⟨⟨t0,t1,t2,t3,t4,t5⟩,⟨x0,x1⟩,y0,y1⟩:=a1.o cj az.o.cK;obtain⟨u0,u1,u2⟩:=fF az.o.drop.drop;obtain⟨v0,v1,v2⟩:=fF az.o;have dg:=au (KJ.o cj az.o.cK (dt.o cj az.o.cK).1 (ee.o cj az.o.cK));clear KJ;go_wp2_with fail;refine dg.o.mono ?_;rintro e9 ci ⟨A,pc,B,qc,rfl,hp⟩;have a0:=au (az.o.fresh aO hp);clear dg az hp t0 t1 t2 t3 t4 t5 x0 x1 y0 y1 u0 u1 u2 v0 v1 v2;have ba:=au (fun D=>(aB rF aO:(aj (kP A pc B qc D) (aj (av ab (fi vw v) 81) (aj (BI T a b lb la I.heap.size go i j) (aj (av g15 (fi uw u) 81) (aj (av (I.heap.size+1) #[.map (some I.heap.size)] 77) bG))))).Ok));unfold zk;cases ho:gK T a.k (wd a i) b.k (wd b j) with
       | none=>
        have HP:=au (show Cc T a b i j=⟨i,j,0,0,0,100000,Qm⟩ from by unfold Cc;rw[ho]);rw[ho] at a0;dsimp only[Option.getD_none,Option.isSome_none,Lp,Qm,lL] at a0 ⊢;clear ho;have bc:=au (aH a0.o (ba.o _) (gO 0 0 0 0 0 0 0 A 0 pc B 0 qc (bs [])) 62);clear a0;go_upto_region 14 with (fail);generalize ci.alloc (.cells (gO 0 0 0 0 0 0 0 A 0 pc B 0 qc (bs [])) 62)=cw at *
        generalize ci.heap.size=aa at *
        obtain⟨⟨p0,p1,p2,p3,p4⟩,⟨p5,p6,p7,p8,p9⟩,pf⟩:=iB bc.o;have cf:aI eR I (aj (av aa (gO 0 0 0 0 0 100000 0 A 0 pc B 0 qc (bs [])) 62) _) _:=aJ bc.o (ba.o _) 5 (.int .i64 100000);have bo:aI eR I (aj (av aa (gO (i:Int) 0 0 0 0 100000 0 A 0 pc B 0 qc (bs [])) 62) _) _:=aJ cf (ba.o _) 0 (.int .i64 (i:Int));have cW:aI eR I (aj (av aa (gO (i:Int) (j:Int) 0 0 0 100000 0 A 0 pc B 0 qc (bs [])) 62) _) _:=aJ bo (ba.o _) 1 (.int .i64 (j:Int));have b6:=au (cW);clear cf bo cW;clear bc;go_upto_region 17 with (fail);generalize ((cw.setCell ⟨aa,5,none⟩ (.int .i64 100000)).setCell ⟨aa,0,none⟩ (.int .i64 (i:Int))).setCell ⟨aa,1,none⟩ (.int .i64 (j:Int))=d3 at *
        clear p0 p1 p2 p3 p4 p5 p6 p7 p8 p9 pf;obtain⟨E,zs,hE,af,cd⟩:=Q5 (b6.o.perm (by ac_rfl:_=aj (BI T a b lb la I.heap.size go i j) (aj (av aa (gO (i:Int) (j:Int) 0 0 0 100000 0 A 0 pc B 0 qc (bs [])) 62) (aj (kP A pc B qc Qm) (aj (av ab (fi vw v) 81) (aj (av g15 (fi uw u) 81) (aj (av (I.heap.size+1) #[.map (some I.heap.size)] 77) bG)))))));have ai:=cd.perm (by ac_rfl:_=aj (jv (CH.eP .i64) I.heap.size (E.map lS)) (aj (av (I.heap.size+1) #[.map (some I.heap.size)] 77) (aj (av aa (gO (i:Int) (j:Int) 0 0 0 100000 0 A 0 pc B 0 qc (bs [])) 62) (aj (gy (some ⟨go,0,none⟩) la zs) (aj (aL (E.map Ap)) (aj (kP A pc B qc Qm) (aj (av ab (fi vw v) 81) (aj (av g15 (fi uw u) 81) bG))))))));obtain⟨p0,p1,p2,p3,p4⟩:=(iB ai.drop.drop).1;obtain⟨p5,p6,p7,p8,p9⟩:=(iB ai.drop.drop).2.1;obtain⟨FG,a4⟩:=ai.drop.fst;have m0:=ay (i:=0) a4 rfl;obtain⟨FM,aw,-,a3⟩:=ai.take map_ok aO;obtain⟨ce,bv,an⟩:=ru OI Tryz.underlying77 aw ((i:Int),(j:Int)) (.agg (gO (i:Int) (j:Int) 0 0 0 100000 0 A 0 pc B 0 qc (bs [])));have a9:=a3 _ _ an;dsimp only[CH.eP] at bv;have ct:zs.length=la:=by have:=congrArg List.length af;rw[fY,lK] at this;exact this
        have ao:i<zs.length:=by omega
        have a7:=au (show zs[i].l=(List.range j).map (fun s=>cM T a b i s) from by
         have h1:(zs.map (·.l))[i]?=(wU T a b lb la i j)[i]?:=by rw[af]
         rw[lB,ic ao,ic (show i<(wU T a b lb la i j).length by rw[lK];exact ag)] at h1;injection h1 with h1
         exact h1.trans (XG ag _))
        obtain⟨bn,cz,fz⟩:=y9 ao (a9.perm (by ac_rfl:_=aj (gy (some ⟨go,0,none⟩) la zs) (aj (jv (CH.eP .i64) I.heap.size (mE (E.map lS) ((i:Int),(j:Int)) (.agg (gO (i:Int) (j:Int) 0 0 0 100000 0 A 0 pc B 0 qc (bs []))))) (aj (av (I.heap.size+1) #[.map (some I.heap.size)] 77) (aj (av aa (gO (i:Int) (j:Int) 0 0 0 100000 0 A 0 pc B 0 qc (bs [])) 62) (aj (aL (E.map Ap)) (aj (kP A pc B qc Qm) (aj (av ab (fi vw v) 81) (aj (av g15 (fi uw u) 81) bG)))))))));have q5:=(iB a9.drop.drop).2.1.1;have ej:(aL ((zs.eraseIdx i).map cu.ow)).Ok:=lJ (fun A hA=>by obtain⟨z,_,rfl⟩:=List.mem_map.1 hA;exact dS);have bm:=au (bn.drew aO);have ar:=au (show zs[i].l.length=j from by rw[a7.o];simp);rw[ar.o] at cz
        have b8:=au (fun (cv:Int) (A9:eV) (c9:Nat) W (hcv:(⟨i,j,0,0,0,100000,Qm⟩:Pr).c=cv) (h:aI eR I (aj (aY A9 c9 (zs[i].l++[cv])) (aj (aV 39 1 (.slice (some ⟨go,0,none⟩) zs.length la) zs.length (zs.flatMap cu.cl)) (aj (aL ((zs.eraseIdx i).map cu.ow)) (aj (jv (CH.eP .i64) I.heap.size (mE (E.map lS) ((i:Int),(j:Int)) (.agg (gO (i:Int) (j:Int) 0 0 0 100000 0 A 0 pc B 0 qc (bs []))))) (aj (av (I.heap.size+1) #[.map (some I.heap.size)] 77) (aj (av aa (gO (i:Int) (j:Int) 0 0 0 100000 0 A 0 pc B 0 qc (bs [])) 62) (aj (aL (E.map Ap)) (aj (kP A pc B qc Qm) (aj (av ab (fi vw v) 81) (aj (av g15 (fi uw u) 81) bG)))))))))) W)=>(show aI eR I (aj (BI T a b lb la I.heap.size go i (j+1)) (aj (av g15 (fi uw u) 81) (aj (av (I.heap.size+1) #[.map (some I.heap.size)] 77) bG))) (W.setCell ⟨go,i,none⟩ (.slice A9 (j+1) c9)) from by
         have k1:=Ci ao (n:=j+1) (by rw[gj,ar.o];rfl) aO h;have k2:=Q6 (p:=⟨i,j,0,0,0,100000,Qm⟩) (Y:=aj (av (I.heap.size+1) #[.map (some I.heap.size)] 77) (aj (av aa (gO (i:Int) (j:Int) 0 0 0 100000 0 A 0 pc B 0 qc (bs [])) 62) (aj (av ab (fi vw v) 81) (aj (av g15 (fi uw u) 81) bG)))) HP.o hcv hE af ag a7.o (A:=A) (pc:=pc) (B:=B) (qc:=qc) (A9:=A9) (c9:=c9) (k1.perm (by show _=aj _ (aj (jv (CH.eP .i64) I.heap.size (mE (E.map lS) ((i:Int),(j:Int)) (.agg (gO (i:Int) (j:Int) 0 0 0 100000 0 A 0 pc B 0 qc (bs []))))) (aj _ (aj (kP A pc B qc Qm) _)));ac_rfl))
         exact(k2.perm (by ac_rfl:_=aj (aj (av aa (gO (i:Int) (j:Int) 0 0 0 100000 0 A 0 pc B 0 qc (bs [])) 62) (av ab (fi vw v) 81)) (aj (BI T a b lb la I.heap.size go i (j+1)) (aj (av g15 (fi uw u) 81) (aj (av (I.heap.size+1) #[.map (some I.heap.size)] 77) bG))))).drop))
        have b9:=au (fun (cv:Int) (A9:eV) (c9:Nat) W (h:aI eR I (aj (aY A9 c9 (zs[i].l++[cv])) (aj (aV 39 1 (.slice (some ⟨go,0,none⟩) zs.length la) zs.length (zs.flatMap cu.cl)) (aj (aL ((zs.eraseIdx i).map cu.ow)) (aj (jv (CH.eP .i64) I.heap.size (mE (E.map lS) ((i:Int),(j:Int)) (.agg (gO (i:Int) (j:Int) 0 0 0 100000 0 A 0 pc B 0 qc (bs []))))) (aj (av (I.heap.size+1) #[.map (some I.heap.size)] 77) (aj (av aa (gO (i:Int) (j:Int) 0 0 0 100000 0 A 0 pc B 0 qc (bs [])) 62) (aj (aL (E.map Ap)) (aj (kP A pc B qc Qm) (aj (av ab (fi vw v) 81) (aj (av g15 (fi uw u) 81) bG)))))))))) W)=>Cj ao h);generalize zs[i].A=zA at *
        generalize zs[i].c=zc at *
        generalize zs[i].l=zl at *
        clear hE af a4 aw an a3 cd ai a9 bn b6 ct ao fz FG FM a7;go_upto_region 18 with (fail);clear bv m0 p0 p1 p2 p3 p4 p5 p6 p7 p8 p9;refine eD [8,9,11] [2,2,1,1,1,1,0,0,1,2,2,3] (fun w'=>w'.cell? ⟨go,i,none⟩=some (.slice zA j zc)/\w'.cell? ⟨aa,5,none⟩=some (.int .i64 100000)) [(fun w'=>w'.cell? ⟨go,i,none⟩=some (.slice zA j zc)),(fun _=>True),(fun _=>True)] ⟨(fun _ h=>h.1),(fun _ _=>trivial),(fun _ h=>h),trivial⟩ eQ eQ eQ eQ (by exact⟨cz,q5⟩) ?_
        (repeat(first|refine eT ?_|refine eU ?_))
        refine bB rfl gh (fun K hK=>?_);go_wp2_with fail;have bk:(ce.drew.alloc (.cells (fR 100000) 3)).cell? ⟨go,i,none⟩=some (.slice zA j zc):=aG (w:=ce.drew) cz ((fe _ _).alloc (fL _) _);refine hK.o _ _ bk ?_;clear hK bk
        (repeat(first|refine eT ?_|refine eU ?_))
        refine bB rfl gh (fun K hK=>?_);refine Ei (.tmp 90) (.tmp 93) rfl (l:=zl) (i:=100000) ar.o rfl rfl eL aO bm.o ?_;intro A9 c9 bp hr;have HE:=au (b8.o _ A9 c9 bp rfl hr);obtain⟨e0,e1⟩:=b9.o _ A9 c9 bp hr;rw[ar.o] at e0;refine hK.o _ _ trivial ?_;clear hK hr b8 b9 bm cz q5
        (repeat(first|refine eT ?_|refine eU ?_))
        refine bB rfl gh (fun K hK=>?_);go_wp2_with fail;refine hK.o _ _ trivial (iV ?_);clear hK e0 e1;go_wp2_with fail
        go_roundw
        case rel=>exact⟨j+1,by go_num,be,HE.o⟩
        case measure=>simp[intOf];omega
       | some p=>
        have HP:=au (show Cc T a b i j=⟨i,j,p.kd,p.l,p.r,p.c,p.d⟩ from by unfold Cc;rw[ho]);rw[ho] at a0;dsimp only[C4,Option.isSome_some] at a0 ⊢;clear ho;have bc:=au (aH a0.o (ba.o _) (pM p A pc B qc) 62);clear a0;go_upto_region 14 with (fail);generalize ci.alloc (.cells (pM p A pc B qc) 62)=cw at *
        generalize ci.heap.size=aa at *
        obtain⟨⟨p0,p1,p2,p3,p4⟩,⟨p5,p6,p7,p8,p9⟩,pf⟩:=iB bc.o;have cf:aI eR I (aj (av aa (gO (i:Int) p.j p.kd p.l p.r p.c p.d.c A p.d.L.length pc B p.d.M.length qc (bs p.d.F)) 62) _) _:=aJ bc.o (ba.o _) 0 (.int .i64 (i:Int));have bo:aI eR I (aj (av aa (rN i j p A pc B qc) 62) _) _:=aJ cf (ba.o _) 1 (.int .i64 (j:Int));have b6:=au (bo);clear cf bo;clear bc;go_upto_region 17 with (fail);generalize (cw.setCell ⟨aa,0,none⟩ (.int .i64 (i:Int))).setCell ⟨aa,1,none⟩ (.int .i64 (j:Int))=d3 at *
        clear p0 p1 p2 p3 p4 p5 p6 p7 p8 p9 pf;obtain⟨E,zs,hE,af,cd⟩:=Q5 (b6.o.perm (by ac_rfl:_=aj (BI T a b lb la I.heap.size go i j) (aj (av aa (rN i j p A pc B qc) 62) (aj (kP A pc B qc p.d) (aj (av ab (fi vw v) 81) (aj (av g15 (fi uw u) 81) (aj (av (I.heap.size+1) #[.map (some I.heap.size)] 77) bG)))))));have ai:=cd.perm (by ac_rfl:_=aj (jv (CH.eP .i64) I.heap.size (E.map lS)) (aj (av (I.heap.size+1) #[.map (some I.heap.size)] 77) (aj (av aa (rN i j p A pc B qc) 62) (aj (gy (some ⟨go,0,none⟩) la zs) (aj (aL (E.map Ap)) (aj (kP A pc B qc p.d) (aj (av ab (fi vw v) 81) (aj (av g15 (fi uw u) 81) bG))))))));obtain⟨p0,p1,p2,p3,p4⟩:=(iB ai.drop.drop).1;obtain⟨p5,p6,p7,p8,p9⟩:=(iB ai.drop.drop).2.1;obtain⟨FG,a4⟩:=ai.drop.fst;have m0:=ay (i:=0) a4 rfl;obtain⟨FM,aw,-,a3⟩:=ai.take map_ok aO;obtain⟨ce,bv,an⟩:=ru OI Tryz.underlying77 aw ((i:Int),(j:Int)) (.agg (rN i j p A pc B qc));have a9:=a3 _ _ an;dsimp only[CH.eP] at bv;have ct:zs.length=la:=by have:=congrArg List.length af;rw[fY,lK] at this;exact this
        have ao:i<zs.length:=by omega
        have a7:=au (show zs[i].l=(List.range j).map (fun s=>cM T a b i s) from by
         have h1:(zs.map (·.l))[i]?=(wU T a b lb la i j)[i]?:=by rw[af]
         rw[lB,ic ao,ic (show i<(wU T a b lb la i j).length by rw[lK];exact ag)] at h1;injection h1 with h1
         exact h1.trans (XG ag _))
        obtain⟨bn,cz,fz⟩:=y9 ao (a9.perm (by ac_rfl:_=aj (gy (some ⟨go,0,none⟩) la zs) (aj (jv (CH.eP .i64) I.heap.size (mE (E.map lS) ((i:Int),(j:Int)) (.agg (rN i j p A pc B qc)))) (aj (av (I.heap.size+1) #[.map (some I.heap.size)] 77) (aj (av aa (rN i j p A pc B qc) 62) (aj (aL (E.map Ap)) (aj (kP A pc B qc p.d) (aj (av ab (fi vw v) 81) (aj (av g15 (fi uw u) 81) bG)))))))));have q5:=(iB a9.drop.drop).2.1.1;have ej:(aL ((zs.eraseIdx i).map cu.ow)).Ok:=lJ (fun A hA=>by obtain⟨z,_,rfl⟩:=List.mem_map.1 hA;exact dS);have bm:=au (bn.drew aO);have ar:=au (show zs[i].l.length=j from by rw[a7.o];simp);rw[ar.o] at cz
        have b8:=au (fun (cv:Int) (A9:eV) (c9:Nat) W (hcv:(⟨i,j,p.kd,p.l,p.r,p.c,p.d⟩:Pr).c=cv) (h:aI eR I (aj (aY A9 c9 (zs[i].l++[cv])) (aj (aV 39 1 (.slice (some ⟨go,0,none⟩) zs.length la) zs.length (zs.flatMap cu.cl)) (aj (aL ((zs.eraseIdx i).map cu.ow)) (aj (jv (CH.eP .i64) I.heap.size (mE (E.map lS) ((i:Int),(j:Int)) (.agg (rN i j p A pc B qc)))) (aj (av (I.heap.size+1) #[.map (some I.heap.size)] 77) (aj (av aa (rN i j p A pc B qc) 62) (aj (aL (E.map Ap)) (aj (kP A pc B qc p.d) (aj (av ab (fi vw v) 81) (aj (av g15 (fi uw u) 81) bG)))))))))) W)=>(show aI eR I (aj (BI T a b lb la I.heap.size go i (j+1)) (aj (av g15 (fi uw u) 81) (aj (av (I.heap.size+1) #[.map (some I.heap.size)] 77) bG))) (W.setCell ⟨go,i,none⟩ (.slice A9 (j+1) c9)) from by
         have k1:=Ci ao (n:=j+1) (by rw[gj,ar.o];rfl) aO h;have k2:=Q6 (p:=⟨i,j,p.kd,p.l,p.r,p.c,p.d⟩) (Y:=aj (av (I.heap.size+1) #[.map (some I.heap.size)] 77) (aj (av aa (rN i j p A pc B qc) 62) (aj (av ab (fi vw v) 81) (aj (av g15 (fi uw u) 81) bG)))) HP.o hcv hE af ag a7.o (A:=A) (pc:=pc) (B:=B) (qc:=qc) (A9:=A9) (c9:=c9) (k1.perm (by show _=aj _ (aj (jv (CH.eP .i64) I.heap.size (mE (E.map lS) ((i:Int),(j:Int)) (.agg (rN i j p A pc B qc)))) (aj _ (aj (kP A pc B qc p.d) _)));ac_rfl))
         exact(k2.perm (by ac_rfl:_=aj (aj (av aa (rN i j p A pc B qc) 62) (av ab (fi vw v) 81)) (aj (BI T a b lb la I.heap.size go i (j+1)) (aj (av g15 (fi uw u) 81) (aj (av (I.heap.size+1) #[.map (some I.heap.size)] 77) bG))))).drop))
        have b9:=au (fun (cv:Int) (A9:eV) (c9:Nat) W (h:aI eR I (aj (aY A9 c9 (zs[i].l++[cv])) (aj (aV 39 1 (.slice (some ⟨go,0,none⟩) zs.length la) zs.length (zs.flatMap cu.cl)) (aj (aL ((zs.eraseIdx i).map cu.ow)) (aj (jv (CH.eP .i64) I.heap.size (mE (E.map lS) ((i:Int),(j:Int)) (.agg (rN i j p A pc B qc)))) (aj (av (I.heap.size+1) #[.map (some I.heap.size)] 77) (aj (av aa (rN i j p A pc B qc) 62) (aj (aL (E.map Ap)) (aj (kP A pc B qc p.d) (aj (av ab (fi vw v) 81) (aj (av g15 (fi uw u) 81) bG)))))))))) W)=>Cj ao h);generalize zs[i].A=zA at *
        generalize zs[i].c=zc at *
        generalize zs[i].l=zl at *
        clear hE af a4 aw an a3 cd ai a9 bn b6 ct ao fz FG FM a7;go_upto_region 18 with (fail);clear bv m0 p0 p1 p2 p3 p4 p5 p6 p7 p8 p9;refine eD [8,9,11] [2,2,1,1,1,1,0,0,1,2,2,3] (fun w'=>w'.cell? ⟨go,i,none⟩=some (.slice zA j zc)/\w'.cell? ⟨aa,5,none⟩=some (.int .i64 p.c)) [(fun w'=>w'.cell? ⟨go,i,none⟩=some (.slice zA j zc)),(fun _=>True),(fun _=>True)] ⟨(fun _ h=>h.1),(fun _ _=>trivial),(fun _ h=>h),trivial⟩ eQ eQ eQ eQ (by exact⟨cz,q5⟩) ?_
        (repeat(first|refine eT ?_|refine eU ?_))
        refine bB rfl gh (fun K hK=>?_);go_wp2_with fail;have bk:(ce.drew.alloc (.cells (fR p.c) 3)).cell? ⟨go,i,none⟩=some (.slice zA j zc):=aG (w:=ce.drew) cz ((fe _ _).alloc (fL _) _);refine hK.o _ _ bk ?_;clear hK bk
        (repeat(first|refine eT ?_|refine eU ?_))
        refine bB rfl gh (fun K hK=>?_);refine Ei (.tmp 90) (.tmp 93) rfl (l:=zl) (i:=p.c) ar.o rfl rfl eL aO bm.o ?_;intro A9 c9 bp hr;have HE:=au (b8.o _ A9 c9 bp rfl hr);obtain⟨e0,e1⟩:=b9.o _ A9 c9 bp hr;rw[ar.o] at e0;refine hK.o _ _ trivial ?_;clear hK hr b8 b9 bm cz q5
        (repeat(first|refine eT ?_|refine eU ?_))
        refine bB rfl gh (fun K hK=>?_);go_wp2_with fail;refine hK.o _ _ trivial (iV ?_);clear hK e0 e1;go_wp2_with fail
        go_roundw
        case rel=>exact⟨j+1,by go_num,be,HE.o⟩
        case measure=>simp[intOf];omega
      ·obtain rfl:j=lb:=by omega
       have d8:=au (adr HR.o);clear HR;go_wp2_with fail
       go_roundw
       case rel=>exact⟨i+1,by go_num,ag,((d8.o.perm (by ac_rfl:_=aj (av g15 (fi uw u) 81) (aj (BI T a b j la I.heap.size go (i+1) 0) (aj (av (I.heap.size+1) #[.map (some I.heap.size)] 77) bG)))).drop)⟩
       case measure=>simp[intOf];omega
    ·obtain rfl:la=i:=by omega
     obtain⟨E,zs,hE,af,dj⟩:=Q5 HR.o;have cr:=dj.perm (by ac_rfl:_=(aj (gy (some ⟨go,0,none⟩) la zs) (aj (jv (CH.eP .i64) I.heap.size (E.map lS)) (aj (aL (E.map Ap)) (aj (av (I.heap.size+1) #[.map (some I.heap.size)] 77) bG)))));obtain⟨FZ,cS⟩:=cr.fst;have hM:=Ef cS;rw[af] at hM;have a2:=HN.o _ HR.o.cK;have KO:=au (ae3 (c:=la) (d:=xd) (e:=yd) a5.o bj.o bw.o hM a2.1.dr a2.2.dr);have KM:=au (fun W (J:Below wr.heap.size wr W)=>anyM (c:=la) (d:=xd) (e:=yd) a5.o bj.o bw.o (hM.below J) (a2.1.dr.below J) (a2.2.dr.below J) du);have cU:=au (show E.map (·.1)=GX T a b b.ws.length a.ws.length 0 from by rw[hE,a5.o,bj.o]);have cX:=au cr;clear dj cr cS FZ hM a2 hE af HR;go_wp2_with fail;refine KO.o.mono ?_;rintro e9 dp ⟨A1,c1,rfl,J,hr1⟩;have cN:=au (cX.o.below aO J);have HO:=au hr1;have dq:=au (KM.o dp J);clear KO KM cX J hr1 t0 t1 t2 t3 t4 t5 x0 x1 y0 y1;obtain⟨⟨t0,t1,t2,t3,t4,t5⟩,⟨x0,x1⟩,y0,y1⟩:=a1.o dp cN.o.cK;go_wp2_with fail;refine dq.o.mono ?_;rintro e9 a8 ⟨A2,c2,A3,n5,c3,A4,n6,c4,rfl,J,hr2⟩;have c7:=au (cN.o.below aO J);have gE:Below a8.heap.size a8 (a8.alloc (.cells (gR (nH T a b) A2 (uG T a b).length c2 A3 n5 c3 A4 n6 c4) 89)):=(fe _ _).alloc (fL _) _;have aq:=au (show iJ (a8.alloc (.cells (gR (nH T a b) A2 (uG T a b).length c2 A3 n5 c3 A4 n6 c4) 89)) A1 (vS T a b)/\iJ (a8.alloc (.cells (gR (nH T a b) A2 (uG T a b).length c2 A3 n5 c3 A4 n6 c4) 89)) A2 (uG T a b) from⟨(HO.o.below J).below gE,hr2.below gE⟩);have a6:=au (aH c7.o aO (gR (nH T a b) A2 (uG T a b).length c2 A3 n5 c3 A4 n6 c4) 89);clear dq cN HO J hr2 gE c7 t0 t1 t2 t3 t4 t5 x0 x1 y0 y1;go_upto_region 24 with (fail);generalize a8.alloc (.cells (gR (nH T a b) A2 (uG T a b).length c2 A3 n5 c3 A4 n6 c4) 89)=b7 at *
     generalize a8.heap.size=cm at *
     obtain⟨⟨t0,t1,t2,t3,t4,t5⟩,⟨x0,x1⟩,y0,y1⟩:=a1.o b7 a6.o.cK;obtain⟨b0,b1,b2,b3,-⟩:=bq a6.o;obtain⟨FG,a4⟩:=(a6.o.perm (by ac_rfl:_=aj (av (I.heap.size+1) #[.map (some I.heap.size)] 77) (aj (av cm (gR (nH T a b) A2 (uG T a b).length c2 A3 n5 c3 A4 n6 c4) 89) (aj (gy (some ⟨go,0,none⟩) la zs) (aj (jv (CH.eP .i64) I.heap.size (E.map lS)) (aj (aL (E.map Ap)) bG)))))).fst;have cy:=ay (i:=0) a4 rfl;obtain⟨FM,aw⟩:=(a6.o.perm (by ac_rfl:_=aj (jv (CH.eP .i64) I.heap.size (E.map lS)) (aj (av (I.heap.size+1) #[.map (some I.heap.size)] 77) (aj (av cm (gR (nH T a b) A2 (uG T a b).length c2 A3 n5 c3 A4 n6 c4) 89) (aj (gy (some ⟨go,0,none⟩) la zs) (aj (aL (E.map Ap)) bG)))))).fst;have cI:=au (fun W (J:Below b7.heap.size b7 W) (x y:Int)=>adw (map_ok.keep aw (fun i hi=>J.block i (map_ok.lt aw i hi))) x y);have cH:=au (GQ (w:=b7) (f:=eF E) (cc:=c2) aq.o.2 (by rw[MF,<-a5.o];omega) cy cI.o (nH T a b+T.ord) true);have cP:=au (GQ (w:=b7) (f:=eF E) (cc:=c1) aq.o.1 (by rw[MG,<-a5.o];omega) cy cI.o (jR T a b) false);have dd:=eH.1 (bX.1 d9.o).1.2.2.2.1;obtain⟨k1,k2,k3⟩:=Q9 bw.o;have dx:=au (MF (T:=T) (a:=a) (b:=b));have dw:=au (MG (T:=T) (a:=a) (b:=b));have cV:=au (show fO T a b=if nH T a b+T.ord<jR T a b then ⟨nH T a b+T.ord,true,fI T a b 0 (uG T a b)⟩ else ⟨jR T a b,false,fI T a b 0 (vS T a b)⟩ from rfl);generalize nH T a b=ak at *
     generalize jR T a b=cY at *
     generalize uG T a b=al at *
     generalize vS T a b=ol at *
     clear cy aw FM a4 FG cI aq;obtain⟨o1,o2⟩:=dd;by_cases ag:ak+T.ord<cY
     ·have HX:=au (cV.o.trans (if_pos ag));clear cP;go_wp2_with fail;refine cH.o.mono ?_;rintro e9 ef ⟨A5,c5,rfl,hp⟩;have bz:=a6.o.fresh aO hp;have bx:=H8.o.fresh aO (bz.post aO);have ax:=bx.perm (by ac_rfl:_=aj (av g6 (jb 0 false none 0 0) 34) (aj (Ed A5 c5 (picks (eF E) 0 al)) (aj (aL (E.map Ap)) (aj (av cm (gR ak A2 al.length c2 A3 n5 c3 A4 n6 c4) 89) (aj (gy (some ⟨go,0,none⟩) la zs) (aj (jv (CH.eP .i64) I.heap.size (E.map lS)) (aj (av (I.heap.size+1) #[.map (some I.heap.size)] 77) (aj (av g10 (fx yA lb yc yB lb yd) 74) (aj (av g8 (fx xA la xc xB la xd) 74) (aj (av g5 (ff b.k Bn lb cb) 28) (aj (av g4 (ff a.k An la ca) 28) (aj (av w.heap.size (fh aA n1 ac aD n2 ad aE n3 ae T.drop T.ord T.ini) 25) (aj bG bG)))))))))))));obtain⟨z0,z1,z2⟩:=fF ax;obtain⟨F6,am⟩:=ax.fst;have zf:=aN am;have bu:=au (za ax aO (.int .i64 (ak+T.ord)) (.bool true) (.slice A5 (picks (eF E) 0 al).length c5));clear bz bx ax hp cH a6 H8 am F6 t0 t1 t2 t3 t4 t5 x0 x1 y0 y1 b0 b1 b2 b3;go_wp2;obtain⟨f2,bb⟩:=bu.o.fst;refine bodyPost_ret (Q8 rfl rfl bb.1 rfl) rfl ?_;exact Ra bw.o cU.o (LO dx.o) HX.o bu.o
     ·have HX:=au (cV.o.trans (if_neg ag));clear cH;go_wp2_with fail;refine cP.o.mono ?_;rintro e9 ef ⟨A5,c5,rfl,hp⟩;have bz:=a6.o.fresh aO hp;have bx:=H8.o.fresh aO (bz.post aO);have ax:=bx.perm (by ac_rfl:_=aj (av g6 (jb 0 false none 0 0) 34) (aj (Ed A5 c5 (picks (eF E) 0 ol)) (aj (aL (E.map Ap)) (aj (av cm (gR ak A2 al.length c2 A3 n5 c3 A4 n6 c4) 89) (aj (gy (some ⟨go,0,none⟩) la zs) (aj (jv (CH.eP .i64) I.heap.size (E.map lS)) (aj (av (I.heap.size+1) #[.map (some I.heap.size)] 77) (aj (av g10 (fx yA lb yc yB lb yd) 74) (aj (av g8 (fx xA la xc xB la xd) 74) (aj (av g5 (ff b.k Bn lb cb) 28) (aj (av g4 (ff a.k An la ca) 28) (aj (av w.heap.size (fh aA n1 ac aD n2 ad aE n3 ae T.drop T.ord T.ini) 25) (aj bG bG)))))))))))));obtain⟨z0,z1,z2⟩:=fF ax;obtain⟨F6,am⟩:=ax.fst;have zf:=aN am;have bu:=au (za ax aO (.int .i64 (cY)) (.bool false) (.slice A5 (picks (eF E) 0 ol).length c5));clear bz bx ax hp cP a6 H8 am F6 t0 t1 t2 t3 t4 t5 x0 x1 y0 y1 b0 b1 b2 b3;go_wp2;obtain⟨f2,bb⟩:=bu.o.fst;refine bodyPost_ret (Q8 rfl rfl bb.1 rfl) rfl ?_;exact Ra bw.o cU.o (LO dw.o) HX.o bu.o
end Go.Proofs.YtbioiclabmbedaaGreatDoor
