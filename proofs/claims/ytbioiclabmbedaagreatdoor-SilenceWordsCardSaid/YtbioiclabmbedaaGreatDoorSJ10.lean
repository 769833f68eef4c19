/- A part of the proof: lemmas. -/
import Derived.Test.YtbioiclabmbedaaGreatDoorSJ9
import Derived.Test.YtbioiclabmbedaaGreatDoorRows
import Derived.PinnedBridge
import Derived.HandedShaped
import Derived.LaidMore
import Derived.Lay
import Derived.SevenTiedAt
import Derived.OpenShut
import Derived.ShutString
set_option maxHeartbeats 16000000
set_option maxRecDepth 100000
set_option linter.all false
namespace Go.Proofs.YtbioiclabmbedaaGreatDoor
open Go.CH Go.CH.Scr Go.CH.dh Go.CH.Mtc Go.CH.Sil
open Asn (kx nT oC mJ cF lF wi)
def iA:eW:=⟨[⟨1,[97],[97],0⟩,⟨1,[98],[98],0⟩],[],[],5,1,2⟩
def Ju:aR:=⟨1,[[97]]⟩
def OU:aR:=⟨1,[[98]]⟩
def Hm:aR:=⟨1,[[97],[98]]⟩
def Hn:aR:=⟨1,[[98],[97]]⟩
def MQ(a b:aR)(c:Int):Bool:=nO iA a b&&decide ((fO iA a b).c=c)
variable{a b:aR}{c bd e:Int}{s:Sl}
theorem uS(h:MQ a b c=true):nO iA a b=true/\(fO iA a b).c=c:=by
 unfold MQ at h;rw[gA,decide_eq_true_eq] at h;exact h
theorem MR:MQ Ju OU 10=true:=by decide +kernel
theorem TX:MQ Hm Hn 1=true:=by decide +kernel
theorem aeG:MQ Ju Ju 0=true:=by decide +kernel
theorem T2:cM iA Ju OU 0 0=100000:=by decide +kernel
theorem aeH:(eZ iA 1 [97] 1 [98]).length=3:=by decide +kernel
theorem aeI:hL iA Ju OU 10=[[10]]:=by
 have e:hM iA Ju OU 10 0 0=10:=by rw[Gp (uS MR).1 eS eS eS,T2];decide
 show [[hM iA Ju OU 10 0 0]]=[[10]]
 rw[e]
theorem abz:(qp [[10]] [5] [5]).us=[5]/\(qp [[10]] [5] [5]).vs=[5]/\oC [[10]] [5] [5]=[10,5,5,0]:=by decide +kernel
theorem ae8:dL iA Ju=[5]:=by decide
theorem ae9:dL iA OU=[5]:=by decide
theorem Rq(h:MQ a b c=true)(h0:0<=bd)(h1:bd<=100000)(h2:c<bd)(hs:iM iA a b bd s e):e=11:=by
 obtain⟨k1,k2⟩:=uS h;cases hs with
 | arg g=>rw[k1] at g;rcases g with g|g|g;cases g;all_goals omega
 | none=>rfl
 | some g1 g2 g3 g4=>omega
theorem MS(h:MQ a b c=true)(h0:0<=bd)(h1:bd<=100000)(h2:bd<=c)(J:iM iA a b bd s e):
  e=0/\s.ws.length=a.ws.length*b.ws.length/\fD iA a b s:=by
 obtain⟨M,k2⟩:=uS h;have:e=0:=by
  cases J with
  | arg g=>rw[M] at g;rcases g with g|g|g;cases g;all_goals omega
  | none g1 g2 g3 g4=>omega
  | some=>rfl
 have I:=(yG J this).2.1;exact⟨this,I.len,I⟩
theorem G8(h:MQ a b c=true)(hb:c<s.b):¬ fD iA a b s:=fun hs=>by
 have:=NW hs;rw[(uS h).2] at this;omega
theorem Yo(hG:0<lF s.G (s.G.length-1)):¬ fD iA a b s:=fun hs=>by
 obtain⟨x,y,-,h2,-⟩:=hs.fin;rw[Asn.I9] at h2
 ·injection h2 with h2 h3;cases h3
 ·unfold Asn.yR;rw[Cp];exact .inr (decide_eq_false eL)
theorem adF(M:iM iA Ju OU 10 s e):(e=0/\s.b=10/\s.U=[5]/\s.V=[5]/\s.G=[10,5,5,0])/\(∃ z,s.ws=[z]/\z.h=10/\z.ps.length=3)/\fD iA Ju OU s:=by
 obtain⟨J,I,h3⟩:=MS MR eS eS eS M;refine⟨?_,?_,h3⟩
 ·cases M with
  | arg g=>cases J
  | none=>cases J
  | some g1 g2 g3 g4 ws hl hw=>
   rw[aeI,ae8,ae9];exact⟨rfl,rfl,abz⟩
 ·obtain⟨z,hz⟩:∃ z,s.ws=[z]:=List.length_eq_one_iff.1 I;have h4:=(yG M J).2.2 0 (by rw[I];decide);have e0:s.ws[0]'(by rw[I];decide)=z:=by simp[hz]
  rw[e0] at h4;refine⟨z,hz,?_,?_⟩
  ·rw[h4.rh]
   show hM iA Ju OU 10 0 0=10
   rw[Gp (uS MR).1 eS eS eS,T2];decide
  ·rw[h4.len];exact aeH
open Go.RowKit
variable{w:World}{T:eW}{k:Int}{e:TypeId}{n c:Nat}{A:eV}{xs:List Value}{F:Nat->Prop}
theorem rH{size:Nat}:Src w none 0 size []:=⟨by simp,fun u hu=>(by cases hu),fun h=>absurd h (my _)⟩
theorem lN{x:Bs}:(fq T k x).length<=1+T.es.length:=by
 unfold fq;rw[jz];have:=zd (j6 k (bP k x)) T.es.zipIdx;rw[xF] at this;omega
theorem Yp{α β:Type}{f:α->List β}{n:Nat}(h:∀ x,(f x).length=n):∀ l:List α,(l.flatMap f).length=l.length*n
 | []=>by simp
 | x::l=>by rw[mS,gj,h,Yp h l,jz,li];omega
theorem Yq{k2:Int}{x y:Bs}(h:T.es.length<=60):(eZ T k x k2 y).length<=4000:=by
 have h1:=lN (T:=T) (k:=k) (x:=x);have M:=lN (T:=T) (k:=k2) (x:=y);unfold eZ sN qx;rw[gj,gj,Yp (n:=(fq T k2 y).length) (fun u=>by rw[fY])];have h3:(fq T k x).length*(fq T k2 y).length<=61*61:=sT eL eL;have I:∀ (p:Prop) [Decidable p] (z:Wy),(if p then [z] else []).length<=1:=fun p _ z=>by split<;>simp
 have J:=I ((raw k x).length=1) ⟨2,-1,-1,T.ini,x,ie (raw k2 y)⟩;have h6:=I ((raw k2 y).length=1) ⟨3,-1,-1,T.ini,ie (raw k x),y⟩;omega
theorem Yr{size:Nat}(h:aV e size (.slice A n c) n xs w F):n<=c:=by
 exact(vD h.1).1
theorem Rs{α:Type}{O:α->CH.aU}{w:World}:∀ {l:List α} {F:Nat->Prop},aL (l.map O) w F->∀ x ∈ l,∃ F',O x w F'
 | [],_,_,x,hx=>by cases hx
 | y::l,F,hb,x,hx=>by
  obtain⟨F1,F2,h1,h2,-,-⟩:=hb;rcases List.mem_cons.1 hx with rfl|hx
  ·exact⟨_,h1⟩
  ·exact Rs h2 x hx
theorem Jv{a b:aR}{bd er:Int}{s:SL}(h:iM T a b bd s.m er)(hO:YV s w F)(hr:T.rs.length<=60)(he:T.es.length<=60):Ul s:=by
 by_cases h0:er=0
 ·obtain⟨-,hk,hw⟩:=yG h h0;obtain⟨hv,ha,hb⟩:=dP.1 hk.ok;have ab:=(aW.1 ha).2.2;have ac:=(aW.1 hb).2.2;have hl:s.ws.length=a.ws.length*b.ws.length:=by rw[<-hk.len];show _=(s.ws.map WL.m).length;rw[fY]
  have ak:a.ws.length*b.ws.length<=6*6:=sT ab ac;obtain⟨x,y,h1,h2,-⟩:=hk.fin;have hU:s.U.length=a.ws.length/\s.V.length=b.ws.length:=by
   have:=Asn.Xi h1;obtain⟨-,g1,g2,-⟩:=this;rw[jr] at g1 g2;exact⟨g1,g2⟩
  have hG:s.G.length=(a.ws.length+1)*(b.ws.length+1):=by
   cases hg:Asn.yR (sL s.m a b) (dL T a) (dL T b) s.m.G with
   | false=>rw[Asn.I9 hg] at h2;injection h2 with _ h2;cases h2
   | true=>
    unfold Asn.yR at hg;simp only[gA,decide_eq_true_eq] at hg;have:=hg.1.1.2;rw[jr,jr] at this;exact this
  have ag:(a.ws.length+1)*(b.ws.length+1)<=7*7:=sT eL eL;refine⟨by omega,fun e J=>?_,by omega,by omega,by omega⟩;obtain⟨F1,_,g1,-,-,-⟩:=hO;obtain⟨_,_,-,g2,-,-⟩:=g1;obtain⟨F3,_,_,g3,-,-,-⟩:=Rs g2 e J;have aa:=Yr g3;obtain⟨k,ae,rfl⟩:=zE J;have af:k<s.m.ws.length:=by show k<(s.ws.map WL.m).length;rw[fY];exact ae
  have I:=hw k af;have e1:s.m.ws[k]=s.ws[k].m:=mx ..;rw[e1] at I;have ai:s.ws[k].ps.length<=4000:=by
   have:=I.len;have M:s.ws[k].m.ps.length=s.ws[k].ps.length:=fY ..;rw[<-M,this];exact Yq he
  refine⟨aa,by omega,fun x hx=>?_⟩;obtain⟨m,hm,rfl⟩:=zE hx;have M:s.ws[k].m.ps.length=s.ws[k].ps.length:=fY ..;have hp:=I.ps m (by rw[<-I.len,M];exact hm) (by rw[M];exact hm);have e3:s.ws[k].m.ps[m]'(by rw[M];exact hm)=s.ws[k].ps[m].p:=mx ..;rw[e3] at hp;obtain⟨-,-,-,-,e9,ad⟩:=hp;exact VU ad hr
 ·have hn:s.m=wA:=by
   generalize s.m=m at h;cases h with
   | arg=>rfl
   | none=>rfl
   | some=>exact absurd rfl h0
  have k1:s.ws=[]:=by have:s.ws.map WL.m=[]:=congrArg Sl.ws hn;simpa using this
  have k2:s.U=[]:=congrArg Sl.U hn;have k3:s.V=[]:=congrArg Sl.V hn;have k4:s.G=[]:=congrArg Sl.G hn;exact⟨by rw[k1];simp,(fun e he=>by rw[k1] at he;cases he),by rw[k2];simp,by rw[k3];simp,by rw[k4];simp⟩
open Go.ChangeMaps (setBlock)
def pW(T:eW)(a b:aR):Bool:=(a.ws.take 3).all dF&&((b.ws.take 3).all dF&&(BD T []&&(decide (T.es.length<=6)&&(decide (a.ws.length<=3)&&decide (b.ws.length<=3)))))
variable{k:Nat}
theorem EB:pW T a b=true↔(∀ s ∈ a.ws.take 3,dF s=true)/\(∀ s ∈ b.ws.take 3,dF s=true)/\BD T []=true/\T.es.length<=6/\a.ws.length<=3/\b.ws.length<=3:=by
 unfold pW;simp only[gA,decide_eq_true_eq,j7]
theorem zq{α:Type}{l:List α}(h:k=min l.length 3):l.take 3=l.take k:=by
 subst h;by_cases h:l.length<=3
 ·rw[G1 h,kz,tP h]
 ·rw[Nat.min_eq_right eL]
theorem He{α:Type}{l:List α}(hk:k<l.length)(h3:k<3):l[k] ∈ l.take 3:=by
 have h:k<(l.take 3).length:=by rw[kt];omega
 have e:(l.take 3)[k]=l[k]:=AE;rw[<-e];exact gw h
theorem oL{t:TA}{An Bn:eV}{ca cb:Nat}(hT:vQ w T t)(hA:fu w An a.ws)(hB:fu w Bn b.ws):
  Calls Tryz.prog 11 #[dI T t,uU a An ca,uU b Bn cb] w (aT w (.bool (pW T a b))):=by
 have h1:=aH (aI.begin w) aO (dN T t) 25;have h2:=aH h1 aO (ff a.k An a.ws.length ca) 28;have h3:=aH h2 aO (ff b.k Bn b.ws.length cb) 28;simp only[ik] at h3;have HB:=au h3.cK
 have HC:=au (fun W (h:Below (((w.alloc (.cells (dN T t) 25)).alloc (.cells (ff a.k An a.ws.length ca) 28)).alloc (.cells (ff b.k Bn b.ws.length cb) 28)).heap.size (((w.alloc (.cells (dN T t) 25)).alloc (.cells (ff a.k An a.ws.length ca) 28)).alloc (.cells (ff b.k Bn b.ws.length cb) 28)) W)=>(show W.cell? ⟨w.heap.size,0,none⟩=some (.slice t.A T.rs.length t.c)/\W.cell? ⟨w.heap.size,1,none⟩=some (.slice t.D T.ds.length t.d)/\W.cell? ⟨w.heap.size,2,none⟩=some (.slice t.E T.es.length t.e)/\W.cell? ⟨w.heap.size,3,none⟩=some (.int .i64 T.drop)/\W.cell? ⟨w.heap.size,4,none⟩=some (.int .i64 T.ord)/\W.cell? ⟨w.heap.size,5,none⟩=some (.int .i64 T.ini)/\W.cell? ⟨w.heap.size+1,1,none⟩=some (.slice An a.ws.length ca)/\W.cell? ⟨w.heap.size+1+1,1,none⟩=some (.slice Bn b.ws.length cb) from by
  have h4:=h3.below aO h;obtain⟨_,f1⟩:=h4.drop.drop.fst;obtain⟨_,f2⟩:=h4.drop.fst;obtain⟨_,f3⟩:=h4.fst
  exact⟨ay f1 rfl,ay f1 rfl,ay f1 rfl,ay f1 rfl,ay f1 rfl,ay f1 rfl,ay f2 rfl,ay f3 rfl⟩))
 have KF:=au (fun W (hb:Below w.heap.size w W)=>Ko (B:=none) (C:=[]) (c:=0) (hT.below hb) rH);have KS:=au (fun s W=>Gf s W);have HA:=au hA;have HV:=au hB;clear hT hA hB h1 h2 h3;unfold dI uU at *
 unfold dN at *
 generalize T.rs.length=n1 at *
 generalize T.ds.length=n2 at *
 generalize ao:T.es.length=n3 at *
 generalize ai:a.ws.length=na at *
 generalize ag:b.ws.length=nb at *
 obtain⟨r,hr⟩:∃ r,r=pW T a b:=⟨_,rfl⟩;rw[<-hr];have HR:=au hr
 have J:=au (show ¬ ((∀ s ∈ a.ws.take 3,dF s=true)/\(∀ s ∈ b.ws.take 3,dF s=true)/\BD T []=true/\n3<=6/\na<=3/\nb<=3)->r=false from fun h=>by
  rw[hr,rB];intro h2;rw[EB,ao,ai,ag] at h2
  exact h h2)
 have I:=au (show((∀ s ∈ a.ws.take 3,dF s=true)/\(∀ s ∈ b.ws.take 3,dF s=true)/\BD T []=true/\n3<=6/\na<=3/\nb<=3)->r=true from fun h=>by
  rw[hr,EB,ao,ai,ag]
  exact h)
 have al:=au ai;have ak:=au ag;clear hr ao ai ag
 go_enter Tryz.func11,Tryz.ntmps11
 go_upto_region 1 with (fail);generalize ((w.alloc (.cells (fh t.A n1 t.c t.D n2 t.d t.E n3 t.e T.drop T.ord T.ini) 25)).alloc (.cells (ff a.k An na ca) 28)).alloc (.cells (ff b.k Bn nb cb) 28)=w1 at *
 generalize w.heap.size=gt at HC ⊢;obtain⟨t0,t1,t2,t3,t4,t5,a1,b1⟩:=HC.o w1 (fe _ _);rename_i K2 ar K1 a0;have oo:(∀ s ∈ a.ws.take 3,dF s=true)->∀ x6 x7 x9 x10 x11 x12 x13 x14 x15 x16 x17 x18 x19 x20 x21 x22 x23 x24 x25 x26:Value,K2 { tmps:=#[.agg (fh t.A n1 t.c t.D n2 t.d t.E n3 t.e T.drop T.ord T.ini),.agg (ff a.k An na ca),.agg (ff b.k Bn nb cb),.pointer (some ⟨gt,0,none⟩),.pointer (some ⟨gt+1,0,none⟩),.pointer (some ⟨gt+1+1,0,none⟩),x6,x7,undef,x9,x10,x11,x12,x13,x14,x15,x16,x17,x18,x19,x20,x21,x22,x23,x24,x25,x26,undef,undef,undef,undef,undef,undef,undef,undef,undef,undef,undef,undef,undef,undef,undef,undef,undef,undef,undef,undef,undef,undef,undef,undef,undef,undef,undef,undef,undef,undef,undef,undef,undef,undef,undef,undef,undef,undef],defers:=[] } w1:=by
  intro h1 x6 x7 x9 x10 x11 x12 x13 x14 x15 x16 x17 x18 x19 x20 x21 x22 x23 x24 x25 x26;refine ar _ _ ?_;go_upto_region 6 with (fail);rename_i K3 aw K4 aE;have ap:(∀ s ∈ b.ws.take 3,dF s=true)->∀ x6 x7 x8 x9 x10 x11 x12 x13 x14 x15 x16 x17 x18 x19 x20 x21 x22 x23 x24 x25 x26 x27 x28 x29 x30 x31 x32 x33 x34 x35 x36 x37 x38 x39 x40 x41 x42 x43 x44:Value,K3 { tmps:=#[.agg (fh t.A n1 t.c t.D n2 t.d t.E n3 t.e T.drop T.ord T.ini),.agg (ff a.k An na ca),.agg (ff b.k Bn nb cb),.pointer (some ⟨gt,0,none⟩),.pointer (some ⟨gt+1,0,none⟩),.pointer (some ⟨gt+1+1,0,none⟩),x6,x7,x8,x9,x10,x11,x12,x13,x14,x15,x16,x17,x18,x19,x20,x21,x22,x23,x24,x25,x26,x27,x28,x29,x30,x31,x32,x33,x34,x35,x36,x37,x38,x39,x40,x41,x42,x43,x44,undef,undef,undef,undef,undef,undef,undef,undef,undef,undef,undef,undef,undef,undef,undef,undef,undef,undef,undef,undef],defers:=[] } w1:=by
   intro h2 x6 x7 x8 x9 x10 x11 x12 x13 x14 x15 x16 x17 x18 x19 x20 x21 x22 x23 x24 x25 x26 x27 x28 x29 x30 x31 x32 x33 x34 x35 x36 x37 x38 x39 x40 x41 x42 x43 x44;refine aw _ _ ?_;have K:=au (KF.o w1 HB.o);cases hf:BD T [] with
   | false=>
    rw[hf] at K;have HF:=au (J.o (fun h=>by rw[h.2.2.1] at hf;cases hf));clear hf;clear J I HR;go_wp2_with fail;refine K.o.mono ?_;rintro e9 w9 ⟨rfl,hw⟩;have HE:=au (HB.o.trans (hw.mono HB.o.size));have aa:=au (HC.o w9 hw);clear K hw t0 t1 t2 t3 t4 t5 a1 b1;obtain⟨t0,t1,t2,t3,t4,t5,a1,b1⟩:=aa.o;dsimp only;go_wp2;go_ret;exact aK HF.o HE.o
   | true=>
    rw[hf] at K;by_cases h6:n3<=6
    ·have az:(n3:Int)<=6:=by omega
     by_cases ha:na<=3
     ·have aA:(na:Int)<=3:=by omega
      by_cases hb:nb<=3
      ·have aD:(nb:Int)<=3:=by omega
       have HF:=au (I.o ⟨h1,h2,hf,h6,ha,hb⟩);clear hf;clear J I HR;go_wp2_with fail;refine K.o.mono ?_;rintro e9 w9 ⟨rfl,hw⟩;have HE:=au (HB.o.trans (hw.mono HB.o.size));have aa:=au (HC.o w9 hw);clear K hw t0 t1 t2 t3 t4 t5 a1 b1;obtain⟨t0,t1,t2,t3,t4,t5,a1,b1⟩:=aa.o;dsimp only;go_wp2;go_ret;exact aK HF.o HE.o
      ·have aD:¬ (nb:Int)<=3:=by omega
       have HF:=au (J.o (fun h=>hb h.2.2.2.2.2));clear hf;clear J I HR;go_wp2_with fail;refine K.o.mono ?_;rintro e9 w9 ⟨rfl,hw⟩;have HE:=au (HB.o.trans (hw.mono HB.o.size));have aa:=au (HC.o w9 hw);clear K hw t0 t1 t2 t3 t4 t5 a1 b1;obtain⟨t0,t1,t2,t3,t4,t5,a1,b1⟩:=aa.o;dsimp only;go_wp2;go_ret;exact aK (HF.o.trans (decide_eq_false eL).symm) HE.o
     ·have aA:¬ (na:Int)<=3:=by omega
      have HF:=au (J.o (fun h=>ha h.2.2.2.2.1));clear hf;clear J I HR;go_wp2_with fail;refine K.o.mono ?_;rintro e9 w9 ⟨rfl,hw⟩;have HE:=au (HB.o.trans (hw.mono HB.o.size));have aa:=au (HC.o w9 hw);clear K hw t0 t1 t2 t3 t4 t5 a1 b1;obtain⟨t0,t1,t2,t3,t4,t5,a1,b1⟩:=aa.o;dsimp only;go_wp2;go_ret;exact aK HF.o HE.o
    ·have az:¬ (n3:Int)<=6:=by omega
     have HF:=au (J.o (fun h=>h6 h.2.2.2.1));clear hf;clear J I HR;go_wp2_with fail;refine K.o.mono ?_;rintro e9 w9 ⟨rfl,hw⟩;have HE:=au (HB.o.trans (hw.mono HB.o.size));have aa:=au (HC.o w9 hw);clear K hw t0 t1 t2 t3 t4 t5 a1 b1;obtain⟨t0,t1,t2,t3,t4,t5,a1,b1⟩:=aa.o;dsimp only;go_wp2;go_ret;exact aK HF.o HE.o
  clear aw
  go_wp2_with fail
  go_loop [8] (fun i=>∃ k:Nat,k<=min nb 3/\i=.int .i64 k/\∀ s ∈ b.ws.take k,dF s=true) (fun i=>3-(intOf i).toNat)
  case atStart=>exact⟨0,fy _,rfl,by simp⟩
  case round=>
   obtain⟨k,hk,rfl,ab⟩:=hrel;have HL:=au ab;clear ab;by_cases ad:k<nb
   ·by_cases h3:k<3
    ·have ae:k<b.ws.length:=by rw[ak.o];exact ad
     have an:(k:Int)<3:=by omega
     have af:=au h3;have ax:(k:Int)<1000001:=by omega
     obtain⟨bb,o,rfl,hc⟩:=fu.at HV.o eL;have r0:=hc w1 HB.o k ae;have ac:=au (fun h=>nk (p:=dF) ae HL.o h);have M:=au (show dF b.ws[k]=false->r=false from fun h=>J.o (fun h2=>by have:=h2.2.1 _ (He ae h3);rw[h] at this;cases this));clear hc ap;generalize b.ws[k]=z at *
     have K:=au (KS.o z w1);cases hs:dF z with
     | false=>
      rw[hs] at K;have HF:=au (M.o hs);clear ac M HL J I HR;go_wp2_with fail;refine K.o.mono ?_;rintro e9 w9 ⟨rfl,hw⟩;subst w9;clear K;dsimp only;go_wp2;go_ret;exact aK HF.o HB.o
     | true=>
      rw[hs] at K;have am:=au (ac.o hs);clear ac M HL J I HR;go_wp2_with fail;refine K.o.mono ?_;rintro e9 w9 ⟨rfl,hw⟩;subst w9;clear K;dsimp only;go_wp2
      go_round
      case rel=>exact⟨k+1,by have:=af.o;omega,by go_num,am.o⟩
      case measure=>have:=af.o;simp[intOf];omega
    ·have an:¬ (k:Int)<3:=by omega
     have HQ:=au (show ∀ s ∈ b.ws.take 3,dF s=true from by rw[zq (k:=k) (by rw[ak.o];omega)];exact HL.o);clear HL h3 ad J I HR;go_wp2
     all_goals exact HQ.o
   ·have HQ:=au (show ∀ s ∈ b.ws.take 3,dF s=true from by rw[zq (k:=k) (by rw[ak.o];omega)];exact HL.o);have aq:¬ (k:Int)<(nb:Int):=by omega
    clear HL ad J I HR;go_wp2
    all_goals exact HQ.o
 clear ar
 go_wp2_with fail
 go_loop [7] (fun i=>∃ k:Nat,k<=min na 3/\i=.int .i64 k/\∀ s ∈ a.ws.take k,dF s=true) (fun i=>3-(intOf i).toNat)
 case atStart=>exact⟨0,fy _,rfl,by simp⟩
 case round=>
  obtain⟨k,hk,rfl,ab⟩:=hrel;have HL:=au ab;clear ab;by_cases ad:k<na
  ·by_cases h3:k<3
   ·have ae:k<a.ws.length:=by rw[al.o];exact ad
    have an:(k:Int)<3:=by omega
    have af:=au h3;have ax:(k:Int)<1000001:=by omega
    obtain⟨bb,o,rfl,hc⟩:=fu.at HA.o eL;have r0:=hc w1 HB.o k ae;have ac:=au (fun h=>nk (p:=dF) ae HL.o h);have M:=au (show dF a.ws[k]=false->r=false from fun h=>J.o (fun h2=>by have:=h2.1 _ (He ae h3);rw[h] at this;cases this));clear hc oo;generalize a.ws[k]=z at *
    have K:=au (KS.o z w1);cases hs:dF z with
    | false=>
     rw[hs] at K;have HF:=au (M.o hs);clear ac M HL J I HR;go_wp2_with fail;refine K.o.mono ?_;rintro e9 w9 ⟨rfl,hw⟩;subst w9;clear K;dsimp only;go_wp2;go_ret;exact aK HF.o HB.o
    | true=>
     rw[hs] at K;have am:=au (ac.o hs);clear ac M HL J I HR;go_wp2_with fail;refine K.o.mono ?_;rintro e9 w9 ⟨rfl,hw⟩;subst w9;clear K;dsimp only;go_wp2
     go_round
     case rel=>exact⟨k+1,by have:=af.o;omega,by go_num,am.o⟩
     case measure=>have:=af.o;simp[intOf];omega
   ·have an:¬ (k:Int)<3:=by omega
    have HQ:=au (show ∀ s ∈ a.ws.take 3,dF s=true from by rw[zq (k:=k) (by rw[al.o];omega)];exact HL.o);clear HL h3 ad J I HR;go_wp2
    all_goals exact HQ.o
  ·have HQ:=au (show ∀ s ∈ a.ws.take 3,dF s=true from by rw[zq (k:=k) (by rw[al.o];omega)];exact HL.o);have aq:¬ (k:Int)<(na:Int):=by omega
   clear HL ad J I HR;go_wp2
   all_goals exact HQ.o
def Mz:eW:=⟨[],[],[],0,0,0⟩
def Ay(x:PL):Bool:=BD Mz x.p.C
def sG(e:WL):Bool:=decide (e.ps.length<=60)&&e.ps.all Ay
def bS(s:SL):Bool:=decide (s.ws.length<=20/\s.U.length<=60/\s.V.length<=60/\s.G.length<=60)&&s.ws.all sG
variable{W w':World}{t:TypeId}
theorem MU{cs:Array Value}{size:Nat}(hn:cs.size=n*size)(h:∀ u ∈ cs.toList,u.oneCell'=true):Src (W.alloc (.cells cs t)) (some ⟨W.heap.size,0,none⟩) n size cs.toList:=by
 refine⟨by simp[hn],h,fun _=>⟨_,rfl,fun j u I=>?_⟩⟩;rw[ub] at I;have e:(⟨W.heap.size,0,none⟩:Addr).add j=⟨W.heap.size,j,none⟩:=by unfold Addr.add;split<;>simp_all
 rw[e];simp only[World.cell?,heap_alloc_new W _];rw[I];rfl
theorem OY(w:World):Calls Tryz.prog 18 #[] w (fun e w'=>∃ a:TA,e=.returned (dI iA a)/\Below w.heap.size w w'/\jV w' iA a):=by
 have h1:aI eR w (aj (av w.heap.size (fh (some ⟨w.heap.size+1,0,none⟩) 2 2 none 0 0 none 0 0 5 1 2) 25) bG) _:=aH (aI.begin w) aM _ 25;have M:l8 _ _ iA.rs:=MU (W:=w.alloc (.cells (fh (some ⟨w.heap.size+1,0,none⟩) 2 2 none 0 0 none 0 0 5 1 2) 25)) (cs:=#[.int .i64 1,.string { data:=#[97] },.string { data:=#[97] },.int .i64 0,.int .i64 1,.string { data:=#[98] },.string { data:=#[98] },.int .i64 0]) (t:=50) (n:=2) (size:=4) rfl eS;have J:=aH h1 aO #[.int .i64 1,.string { data:=#[97] },.string { data:=#[97] },.int .i64 0,.int .i64 1,.string { data:=#[98] },.string { data:=#[98] },.int .i64 0] 50;simp only[ik] at J M;obtain⟨f,hf⟩:=J.drop.fst;have I:=hf.1;have HB:=au (J.mod.below (fun _ _ h=>h));have HR:=au M;clear h1 J M hf
 go_enter Tryz.func18,Tryz.ntmps18
 go_wp2_with fail;refine bodyPost_ret (results_cell_row rfl _ _ w.heap.size 25 (fh (some ⟨w.heap.size+1,0,none⟩) 2 2 none 0 0 none 0 0 5 1 2) (0,0) (.struct _) rfl I Tryz.underlying25 rfl eQ) rfl ?_;refine⟨⟨some ⟨w.heap.size+1,0,none⟩,2,none,0,none,0⟩,rfl,HB.o,?_⟩;refine { rs:=HR.o,ds:=rH,es:=rH,lr:=by decide,ld:=by decide,le:=by decide,sr:=fun R hR=>?_,sd:=fun d hd=>(by cases hd),se:=fun d hd=>(by cases hd) };have:∀ R ∈ iA.rs,R.f.length<=1000000/\R.t.length<=1000000:=by decide
 exact this R hR
theorem EF(A:eV)(n c:Nat)(w:World):Calls Tryz.prog 19 #[.slice A n c] w (fun e w'=>e=.returned (.agg (ff 1 A n c))/\Below w.heap.size w w'):=by
 have h1:=aH (aI.begin w) aM (ff 0 none 0 0) 28;obtain⟨z0,z1,zf⟩:=bW h1;have I:aI eR w (aj (av w.heap.size (ff 1 none 0 0) 28) bG) _:=aJ h1 aM 0 (.int .i64 1);have M:aI eR w (aj (av w.heap.size (ff 1 A n c) 28) bG) _:=aJ I aM 1 (.slice A n c);have J:=au M;clear I M
 go_enter Tryz.func19,Tryz.ntmps19
 go_upto_region 1 with (fail);generalize hw:w.alloc (.cells (ff 0 none 0 0) 28)=w1 at *
 clear hw;go_wp2;obtain⟨f2,h⟩:=J.o.fst;refine bodyPost_ret (results_cell_row rfl _ _ w.heap.size 28 _ (0,0) (.struct _) rfl h.1 Tryz.underlying28 rfl eQ) rfl ?_;exact⟨rfl,J.o.cK⟩
theorem dH{R:CH.aU}(h:bT w eR R w'):Below w.heap.size w w':=by
 obtain⟨F,h1,h2,h3⟩:=h;exact h2.below (fun _ _ h=>h)
theorem bF(W:World)(o:Obj):Below W.heap.size W (W.alloc o):=(fe _ _).alloc (fL _) _
def kK:Value->Nat
 | .slice (some p) _ _=>p.block
 | .pointer (some p)=>p.block
 | _=>0
def Hp:Value->Array Value
 | .agg a=>a
 | _=>#[]
def E4(T:eW)(a b:aR)(bd:Int)(v:Value):CH.aU:=fun w F=>∃ (s:SL) (er:Int),v=.tuple #[.agg (jh s),.int .i64 er]/\iM T a b bd s.m er/\YV s w F
instance slx_ok {T:eW} {a b:aR} {bd:Int} {v:Value}:(E4 T a b bd v).Ok where
 lt:=fun⟨_,_,_,_,h⟩=>sl_ok.lt h
 keep:=fun⟨s,er,h1,h2,h3⟩ hk=>⟨s,er,h1,h2,sl_ok.keep h3 hk⟩
variable{a:Act}{v u:Value}{ta:TA}{g i:Nat}{p:eV}{W' w0:World}{xs:Array (Nat × Operand)}{l:List Oper}{F:List (Op × Option Tmp × Option (Nat × Bool))}{F0:Nat->Prop}{X:CH.aU}{Q:Exit->Act->World->Prop}
theorem jg{t:Nat}(h:a.tmps[t]?=some v):a.eval (.tmp t)=v:=by
 show a.tmps.getD t undef=v
 rw[Array.getD_eq_getD_getElem?,h];rfl
def Yz(ta:TA)(n m:Nat)(j:Nat)(vs:Nat->Value):Prop:=match j with
 | 0=>vs 0=dI iA ta
 | 1=>vs 1=.slice (some ⟨kK (vs 1),0,none⟩) n n
 | 2=>vs 2=.agg #[.int .i64 1,vs 1]
 | 3=>vs 3=.slice (some ⟨kK (vs 3),0,none⟩) m m
 | 4=>vs 4=.agg #[.int .i64 1,vs 3]
 | 5=>∃ s h,vs 5=.tuple #[.agg (jh s),.int .i64 h]
 | 6=>vs 6=vs 5
 | 7=>∀ s h,vs 5=.tuple #[.agg (jh s),.int .i64 h]->vs 7=.agg (jh s)
 | 8=>∀ s h,vs 5=.tuple #[.agg (jh s),.int .i64 h]->vs 8=.int .i64 h
 | 9=>vs 9=.pointer (some ⟨kK (vs 9),0,none⟩)
 | 11=>vs 11=vs 8
 | _=>True
def zS:Array Value:=(fj 0 none 0 0 none 0 0 none 0 0 none 0 0)
def yq(a b:aR)(bd:Int)(j:Nat)(vs:Nat->Value):CH.aU:=match j with
 | 1=>av (kK (vs 1)) (kN a.ws).toArray 9
 | 3=>av (kK (vs 3)) (kN b.ws).toArray 9
 | 5=>E4 iA a b bd (vs 5)
 | 9=>av (kK (vs 9)) zS 41
 | 10=>av (kK (vs 9)) (Hp (vs 7)) 41
 | _=>bG
instance mkR_ok {a b:aR} {bd:Int} {j:Nat} {vs:Nat→Value}:(yq a b bd j vs).Ok:=by
 unfold yq;split<;>exact aO
def MA:List (List Nat):=[[],[],[],[],[],[1,3],[],[],[],[],[9]]
theorem aeL{m:Nat}{a:aR}{p:Nat->Nat->Prop}(h2:p 2 1)(h4:p 4 3)(h6:p 6 5)(h7:p 7 5)(h8:p 8 5)(M:p 10 9/\p 10 7)(aa:p 11 8)(j:Nat)(vs J:Nat->Value)(h:∀ k,k=j\/(k<j/\p j k)->vs k=J k):(Yz ta n m j vs->Yz ta n m j J)/\yq a b bd j vs=yq a b bd j J:=by
 have e:=h j (.inl rfl);have I:=fun k hk hp=>h k (.inr ⟨hk,hp⟩)
 match j with
 | 0|1|3|5|9=>exact⟨fun g=>by unfold Yz at *;rw[<-e];exact g,by simp only[yq,e]⟩
 | 2=>exact⟨fun g=>by unfold Yz at *;rw[<-e,<-I 1 eS h2];exact g,rfl⟩
 | 4=>exact⟨fun g=>by unfold Yz at *;rw[<-e,<-I 3 eS h4];exact g,rfl⟩
 | 6=>exact⟨fun g=>by unfold Yz at *;rw[<-e,<-I 5 eS h6];exact g,rfl⟩
 | 7=>exact⟨fun g=>by unfold Yz at *;rw[<-e,<-I 5 eS h7];exact g,rfl⟩
 | 8=>exact⟨fun g=>by unfold Yz at *;rw[<-e,<-I 5 eS h8];exact g,rfl⟩
 | 10=>exact⟨fun _=>trivial,by simp only[yq,I 9 eS M.1,I 7 eS M.2]⟩
 | 11=>exact⟨fun g=>by unfold Yz at *;rw[<-e,<-I 8 eS aa];exact g,rfl⟩
 | k+12=>exact⟨fun _=>trivial,rfl⟩
section
variable{ops:Array Oper}{o:Oper}{a:Act}{W:World}{Z:Value→World→Prop}
theorem jy(h:o.guard=none):Region.wanted o (yielded ops a.tmps)=true:=by unfold Region.wanted;rw[h]
theorem fH{d:Tmp}{b:Bool}(h:o.guard=some (g,b))(hd:iD ops g=some d)(hv:a.tmps[d]?=some (.bool b)):Region.wanted o (yielded ops a.tmps)=true:=by
 unfold Region.wanted yielded;unfold iD at hd;simp[h,hd,hv]
theorem oF{x:Operand}(hw:Region.wanted o (yielded ops a.tmps)=true)(ho:o.op=.move x\/o.op=.assign x)(hx:a.eval x=v)(hz:Z v W):EI Tryz.prog ops o a W Z:=
 AV hw (by rcases ho with ho|ho<;>(unfold execOp;rw[ho];simp only[hx];rfl)) hz
theorem zu{f:FuncId}{xs:Array Operand}{J:Array TypeId}{vs:Array Value}(M:∀ vs W,(callFunc f vs).run Tryz.prog W=.ok (.enter f vs) W)(hw:Region.wanted o (yielded ops a.tmps)=true)(ho:o.op=.call { callee:=.value (.func f),args:=xs,argTypes:=J })(hx:xs.map a.eval=vs)(hz:Calls Tryz.prog f vs W fun e I=>∃ v,e=.returned v/\Z v I):EI Tryz.prog ops o a W Z:=by
 refine g_call hw (f:=f) (args:=vs) ?_ hz;unfold execOp;rw[ho];simp only[resolve,hx];have e:a.eval (.func f)=.func (.func f) #[] #[]:=rfl;rw[e];have h:=M vs W;simp[Deferred.ofValue,invoke];exact h
theorem MD(vs:Array Value)(W:World):(callFunc 19 vs).run Tryz.prog W=.ok (.enter 19 vs) W:=by go_simp
theorem f13(vs:Array Value)(W:World):(callFunc 13 vs).run Tryz.prog W=.ok (.enter 13 vs) W:=by go_simp
theorem lQ{x:Operand}(hl:(Instr.loadAt t (.pointer p)).run Tryz.prog W=.ok v W)(M:Region.wanted o (yielded ops a.tmps)=true)(I:o.op=.load t x)(h:a.eval x=.pointer p)(J:Z v W):EI Tryz.prog ops o a W Z:=by
 refine AV M (v:=v) (w':=W) ?_ J;unfold execOp;rw[I];simp only[h];simp only[j9,hl,kB,ky]
theorem YA{x y:Operand}(hl:(Instr.storeAt t (.pointer p) v).run Tryz.prog W=.ok () W')(M:Region.wanted o (yielded ops a.tmps)=true)(I:o.op=.store t x y)(h:a.eval x=.pointer p)(hy:a.eval y=v)(J:Z undef W'):EI Tryz.prog ops o a W Z:=by
 refine acF M (w':=W') ?_ J;unfold execOp;rw[I];simp only[h,hy];simp only[j9,hl,kB,ky]
theorem YB{ys:Array (Nat × Value)}(hl:(Instr.buildSlice t n ys).run Tryz.prog W=.ok v W')(M:Region.wanted o (yielded ops a.tmps)=true)(I:o.op=.buildSlice t n xs)(h:(xs.map fun (i,x)=>(i,a.eval x))=ys)(J:Z v W'):EI Tryz.prog ops o a W Z:=by
 refine AV M (v:=v) (w':=W') ?_ J;unfold execOp;rw[I];simp only[h];simp only[j9,hl,kB,ky]
theorem abE{x:Operand}(hw:Region.wanted o (yielded ops a.tmps)=true)(ho:o.op=.extract x 0)(hx:a.eval x=.tuple #[u,v])(hz:Z u W):EI Tryz.prog ops o a W Z:=
 AV hw (by unfold execOp;rw[ho];simp only[hx];go_simp) hz
theorem abF{x:Operand}(hw:Region.wanted o (yielded ops a.tmps)=true)(ho:o.op=.extract x 1)(hx:a.eval x=.tuple #[u,v])(hz:Z v W):EI Tryz.prog ops o a W Z:=
 AV hw (by unfold execOp;rw[ho];simp only[hx];go_simp) hz
theorem YC(hw:Region.wanted o (yielded ops a.tmps)=true)(ho:o.op=.alloc 41)(hz:Z (.pointer (some ⟨W.heap.size,0,none⟩)) (W.alloc (.cells zS 41))):EI Tryz.prog ops o a W Z:=
 AV hw (by unfold execOp;rw[ho];go_simp;rfl) hz
end
def YX(o:Oper):Op × Option Tmp × Option (Nat × Bool):=(o.op,o.dst,o.guard)
theorem YD(h:l.map YX=F){o:Oper}(hi:l.toArray[i]?=some o):F[i]?=some (YX o):=by
 rw[<-h,lB];have:l[i]?=some o:=by simpa using hi
 rw[this];rfl
theorem Rw(h:l.map YX=F)(i:Nat):iD l.toArray i=(F[i]?).bind (·.2.1):=by
 rw[<-h,lB];unfold iD;cases hl:l[i]? with
 | none=>simp[hl]
 | some o=>simp[hl,YX]
def Bu(f:FuncId)(xs:Array Operand)(ts:Array TypeId):Op:=.call { callee:=.value (.func f),args:=xs,argTypes:=ts }
def mkF(t1 M d1 J d3 d4 d5 I d7 d8 d9 h:Tmp)(n m:Nat)(xs ys:Array (Nat × Operand))(bd:Int):List (Op × Option Tmp × Option (Nat × Bool)):=
 [(.load 25 (.tmp t1),some M,none),(.buildSlice 26 n xs,some d1,none),(Bu 19 #[.tmp d1] #[26],some J,none),(.buildSlice 26 m ys,some d3,none),(Bu 19 #[.tmp d3] #[26],some d4,none),
  (Bu 13 #[.tmp M,.tmp J,.tmp d4,.const (.int .i64 bd)] #[25,28,28,3],some d5,none),(.move (.tmp d5),some I,none),(.extract (.tmp I) 0,some d7,none),(.extract (.tmp I) 1,some d8,none),(.alloc 41,some d9,none),(.store 41 (.tmp d9) (.tmp d7),none,none),(.assign (.tmp d8),some h,none)]
def Hs:Array Nat:=#[0,0,2,0,14,31,63,127,127,0,767,2047]
theorem Rx{k:Nat}{t:Tmp}(h:(F[k]?).bind (·.2.1)=some t):t ∈ F.filterMap (·.2.1):=by
 obtain⟨x,hx,hg⟩:=Option.bind_eq_some_iff.1 h;exact List.mem_filterMap.2 ⟨x,pT hx,hg⟩
theorem zw{l:List Bs}{F:Nat->Prop}(h:av g (kN l).toArray 9 W F):fu W (some ⟨g,0,none⟩) l:=by
 refine⟨by simp[kN],fun u I=>?_,fun _=>⟨_,rfl,fun j u I=>?_⟩⟩
 ·unfold kN at I;obtain⟨s,-,rfl⟩:=List.mem_map.1 I;rfl
 ·have e:(⟨g,0,none⟩:Addr).add j=⟨g,j,none⟩:=by unfold Addr.add;split<;>simp_all
  rw[e];exact ay h (by rw[mr];exact I)
theorem T3{u' v':Value}(h:Value.tuple #[u,v]=.tuple #[u',v']):u=u'/\v=v':=by simpa using h
theorem YE{a:aR}{Y:CH.aU}(h:aI F0 w0 (aj (E4 T a b bd v) Y) W):∃ s I,v=.tuple #[.agg (jh s),.int .i64 I]/\iM T a b bd s.m I/\aI F0 w0 (aj (YV s) Y) W:=by
 obtain⟨⟨F,⟨F1,J,⟨s,I,h1,h2,h3⟩,h4,h5,M⟩,h7⟩,hm⟩:=h;exact⟨s,I,h1,h2,⟨F,⟨F1,J,h3,h4,h5,M⟩,h7⟩,hm⟩
theorem YG(I:X.Ok)(h:aI F0 w0 (aj (av g zS 41) X) W)(s:SL):∃ W',(Instr.storeAt 41 (.pointer (some ⟨g,0,none⟩)) (.agg (jh s))).run Tryz.prog W=.ok () W'/\aI F0 w0 (aj (av g (jh s) 41) X) W':=by
 obtain⟨z0,z1,z2,z3,M,J⟩:=fU h;refine⟨_,?_,uR h I (.int .i64 s.b) (.slice s.A s.ws.length s.c) (.slice s.u.A s.U.length s.u.c) (.slice s.v.A s.V.length s.v.c) (.slice s.g.A s.G.length s.g.c)⟩;unfold jh;go_simp
theorem vL{id:Nat}{a0:Act}{g1:Nat}{a:aR}{t1 d0 d1 d2 d3 d4 d5 d6 d7 d8 d9 ac:Tmp}{ys:Array (Nat × Operand)}(hm:Tryz.prog.follows .mixedOrders=true)(hF:l.map YX=mkF t1 d0 d1 d2 d3 d4 d5 d6 d7 d8 d9 ac a.ws.length b.ws.length xs ys bd)(af:Region.before l.toArray=Hs)(aq:IB l.toArray MA a0.tmps.size=true)(ht:a0.tmps[t1]?=some (.pointer (some ⟨g1,0,none⟩)))(ae:t1 ∉ [d0,d1,d2,d3,d4,d5,d6,d7,d8,d9,ac])(ka:a.k=1)(kb:b.k=1)(am:∀ x ∈ a.ws,x.length<=1000000)(ag:∀ x ∈ b.ws,x.length<=1000000)(aw:a.ws.length<=1000000)(al:b.ws.length<=1000000)(hz:LZ w)(hT:jV w iA ta)(ap:∀ W,Below w.heap.size w W->(Instr.loadAt 25 (.pointer (some ⟨g1,0,none⟩))).run Tryz.prog W=.ok (dI iA ta) W)(ar:∀ (c:Act) W,(Instr.buildSlice 26 a.ws.length (xs.map fun (i,x)=>(i,c.eval x))).run Tryz.prog W=.ok (.slice (some ⟨W.heap.size,0,none⟩) a.ws.length a.ws.length) (W.alloc (.cells (kN a.ws).toArray 9)))(ao:∀ (c:Act) W,(Instr.buildSlice 26 b.ws.length (ys.map fun (i,x)=>(i,c.eval x))).run Tryz.prog W=.ok (.slice (some ⟨W.heap.size,0,none⟩) b.ws.length b.ws.length) (W.alloc (.cells (kN b.ws).toArray 9)))(fin:∀ (vs:Nat->Value) (s:SL) (M:Int) (A B:Value) (g:Nat) (W:World),vs 0=dI iA ta->vs 1=A->vs 2=.agg #[.int .i64 1,A]->vs 3=B->vs 4=.agg #[.int .i64 1,B]->vs 5=.tuple #[.agg (jh s),.int .i64 M]->vs 6=.tuple #[.agg (jh s),.int .i64 M]->vs 7=.agg (jh s)->vs 8=.int .i64 M->vs 9=.pointer (some ⟨g,0,none⟩)->vs 11=.int .i64 M ->
   iM iA a b bd s.m M->aI eR w.drew (aj (YV s) (aj (av g (jh s) 41) bG)) W->Q .normal (oU l 0 vs a0) W):(Code.region id l.toArray true).wp Tryz.prog Q a0 w:=by
 have hp:∀ i j,Uh l.toArray i j↔(Hs.getD i 0).testBit j=true:=fun i j=>by unfold Uh;rw[af]
 have J:=fun i=>Rw hF i;refine uq (F0:=fun _=>False) (w0:=w.drew) (X0:=bG) MA (Yz ta a.ws.length b.ws.length) (yq a b bd) hm aq
  (fun j vs ak h=>aeL (p:=Uh l.toArray) ((hp _ _).2 eS) ((hp _ _).2 eS) ((hp _ _).2 eS) ((hp _ _).2 eS) ((hp _ _).2 eS) ⟨(hp _ _).2 eS,(hp _ _).2 eS⟩ ((hp _ _).2 eS) j vs ak h)
  aM (fun _ _=>aO) (aI.begin w.drew) ?_ ?_
 ·intro i o hi L c vs W X hX hL hs hH hr;have I:=YD hF hi;have on:∀ k d,k<i->(Hs.getD i 0).testBit k=true->iD l.toArray k=some d->c.eval (.tmp d)=vs k:=fun k d hk hb hd=>jg (hs.on k d (hL k ((hp _ _).2 hb) hk) hd);have hh:∀ k,k<i->(Hs.getD i 0).testBit k=true->Yz ta a.ws.length b.ws.length k vs:=fun k hk hb=>hH k (hL k ((hp _ _).2 hb) hk);have cK:Below w.heap.size w W:=(dB (fe _ _)).trans (hr.cK.mono (fL _))
  match i,I,on,hh with
  | 0,I,on,hh=>
   injection I with I;injection I with h1 h2;injection h2 with h2 h3
   have e:c.eval (.tmp t1)=.pointer (some ⟨g1,0,none⟩):=jg ((hs.off t1 (fun k hk hd=>by
    rw[J] at hd
    exact ae (Rx hd))).trans ht)
   refine lQ (ap W cK) (jy h3.symm) h1.symm e ⟨fA,?_⟩;exact hr
  | 1,I,on,hh=>
   injection I with I;injection I with h1 h2;injection h2 with h2 h3
   refine YB (ar c W) (jy h3.symm) h1.symm rfl ⟨?_,?_⟩
   ·show upd vs 1 _ 1=_
    rw[fA];rfl
   ·show aI _ _ (aj (av (kK (upd vs 1 _ 1)) _ 9) X) _
    rw[fA];exact aH (hr.perm (jC X)) hX _ 9
  | 2,I,on,hh=>
   injection I with I;injection I with h1 h2;injection h2 with h2 h3
   have e:=on 1 d1 eS eS (by rw[J];rfl);have g:=hh 1 eS eS;have g:vs 1=.slice (some ⟨kK (vs 1),0,none⟩) _ _:=g;refine zu (vs:=#[vs 1]) MD (jy h3.symm) h1.symm (by simp[e]) ?_;rw[g];refine(EF _ _ _ W).mono ?_;rintro e9 w' ⟨rfl,hb⟩;refine⟨_,rfl,?_,hr.below (show aU.Ok _ from aB aM hX) hb⟩
   show upd vs 2 _ 2=.agg #[_,upd vs 2 _ 1]
   rw[fA,upd_ne eS];exact congrArg (fun v=>Value.agg #[.int .i64 1,v]) g.symm
  | 3,I,on,hh=>
   injection I with I;injection I with h1 h2;injection h2 with h2 h3
   refine YB (ao c W) (jy h3.symm) h1.symm rfl ⟨?_,?_⟩
   ·show upd vs 3 _ 3=_
    rw[fA];rfl
   ·show aI _ _ (aj (av (kK (upd vs 3 _ 3)) _ 9) X) _
    rw[fA];exact aH (hr.perm (jC X)) hX _ 9
  | 4,I,on,hh=>
   injection I with I;injection I with h1 h2;injection h2 with h2 h3
   have e:=on 3 d3 eS eS (by rw[J];rfl);have g:vs 3=.slice (some ⟨kK (vs 3),0,none⟩) _ _:=hh 3 eS eS;refine zu (vs:=#[vs 3]) MD (jy h3.symm) h1.symm (by simp[e]) ?_;rw[g];refine(EF _ _ _ W).mono ?_;rintro e9 w' ⟨rfl,hb⟩;refine⟨_,rfl,?_,hr.below (show aU.Ok _ from aB aM hX) hb⟩
   show upd vs 4 _ 4=.agg #[_,upd vs 4 _ 3]
   rw[fA,upd_ne eS];exact congrArg (fun v=>Value.agg #[.int .i64 1,v]) g.symm
  | 5,I,on,hh=>
   injection I with I;injection I with h1 h2;injection h2 with h2 h3
   have e0:=on 0 d0 eS eS (by rw[J];rfl);have e2:=on 2 d2 eS eS (by rw[J];rfl);have e4:=on 4 d4 eS eS (by rw[J];rfl);have g0:vs 0=_:=hh 0 eS eS;have g1:vs 1=.slice (some ⟨kK (vs 1),0,none⟩) _ _:=hh 1 eS eS;have g2:vs 2=.agg #[.int .i64 1,vs 1]:=hh 2 eS eS;have g3:vs 3=.slice (some ⟨kK (vs 3),0,none⟩) _ _:=hh 3 eS eS;have g4:vs 4=.agg #[.int .i64 1,vs 3]:=hh 4 eS eS;have aa:aI eR w.drew (aj (aj (av (kK (vs 1)) (kN a.ws).toArray 9) (aj (av (kK (vs 3)) (kN b.ws).toArray 9) bG)) X) W:=hr;obtain⟨_,f1⟩:=aa.assoc.fst;obtain⟨_,f3⟩:=aa.assoc.drop.assoc.fst
   refine zu (vs:=#[dI iA ta,uU a (some ⟨kK (vs 1),0,none⟩) a.ws.length,uU b (some ⟨kK (vs 3),0,none⟩) b.ws.length,.int .i64 bd]) f13 (jy h3.symm) h1.symm (by
    simp[e0,e2,e4,g0,uU,ka,kb]
    exact⟨g2.trans (congrArg (fun v=>Value.agg #[.int .i64 1,v]) g1),g4.trans (congrArg (fun v=>Value.agg #[.int .i64 1,v]) g3),rfl⟩) ?_
   refine(pQ (hT.below cK) (hz.below cK) (zw f1) (zw f3) aw al am ag bd).mono ?_;rintro e9 w' ⟨s,M,rfl,ab,hp⟩;refine⟨_,rfl,⟨s,M,fA⟩,?_⟩;exact(aa.drop.fresh hX hp).imp fun _ _ h=>bD h (fun _ h=>⟨s,M,fA,ab,h⟩) (fun _ h=>h)
  | 6,I,on,hh=>
   injection I with I;injection I with h1 h2;injection h2 with h2 h3
   refine oF (jy h3.symm) (.inl h1.symm) (on 5 d5 eS eS (by rw[J];rfl)) ⟨?_,hr⟩
   show upd vs 6 _ 6=upd vs 6 _ 5
   rw[fA,upd_ne eS]
  | 7,I,on,hh=>
   injection I with I;injection I with h1 h2;injection h2 with h2 h3
   obtain⟨s,M,g5⟩:=(hh 5 eS eS:∃ s M,vs 5=.tuple #[.agg (jh s),.int .i64 M]);have g6:vs 6=vs 5:=hh 6 eS eS;refine abE (jy h3.symm) h1.symm ((on 6 d6 eS eS (by rw[J];rfl)).trans (g6.trans g5)) ⟨?_,hr⟩;intro s' ax h;rw[upd_ne eS,g5] at h;rw[fA];exact(T3 h).1
  | 8,I,on,hh=>
   injection I with I;injection I with h1 h2;injection h2 with h2 h3
   obtain⟨s,M,g5⟩:=(hh 5 eS eS:∃ s M,vs 5=.tuple #[.agg (jh s),.int .i64 M]);have g6:vs 6=vs 5:=hh 6 eS eS;refine abF (jy h3.symm) h1.symm ((on 6 d6 eS eS (by rw[J];rfl)).trans (g6.trans g5)) ⟨?_,hr⟩;intro s' ax h;rw[upd_ne eS,g5] at h;rw[fA];exact(T3 h).2
  | 9,I,on,hh=>
   injection I with I;injection I with h1 h2;injection h2 with h2 h3
   refine YC (jy h3.symm) h1.symm ⟨?_,?_⟩
   ·show upd vs 9 _ 9=_
    rw[fA];rfl
   ·show aI _ _ (aj (av (kK (upd vs 9 _ 9)) zS 41) X) _
    rw[fA];exact aH (hr.perm (jC X)) hX zS 41
  | 10,I,on,hh=>
   injection I with I;injection I with h1 h2;injection h2 with h2 h3
   obtain⟨s,M,g5⟩:=(hh 5 eS eS:∃ s M,vs 5=.tuple #[.agg (jh s),.int .i64 M]);have g7:=(hh 7 eS eS:∀ s M,vs 5=.tuple #[.agg (jh s),.int .i64 M]->vs 7=.agg (jh s)) s M g5;have g9:vs 9=.pointer (some ⟨kK (vs 9),0,none⟩):=hh 9 eS eS
   have aa:aI eR w.drew (aj (av (kK (vs 9)) zS 41) X) W:=hr.perm (by
    show aj (aj _ bG) X=_
    rw[fG];rfl)
   obtain⟨W',k1,k2⟩:=YG hX aa s;refine YA k1 (jy h3.symm) h1.symm ((on 9 d9 eS eS (by rw[J];rfl)).trans g9) ((on 7 d7 eS eS (by rw[J];rfl)).trans g7) ⟨trivial,?_⟩
   show aI _ _ (aj (av (kK (upd vs 10 _ 9)) (Hp (upd vs 10 _ 7)) 41) X) _
   rw[upd_ne eS,upd_ne eS,g7];exact k2
  | 11,I,on,hh=>
   injection I with I;injection I with h1 h2;injection h2 with h2 h3
   refine oF (jy h3.symm) (.inr h1.symm) (on 8 d8 eS eS (by rw[J];rfl)) ⟨?_,hr⟩
   show upd vs 11 _ 11=upd vs 11 _ 8
   rw[fA,upd_ne eS]
  | k+12,I,on,hh=>cases I
 ·intro vs W hH hr;have hn:l.length=12:=by rw[<-fY (f:=YX),hF];rfl
  have ai:jW l.toArray MA (fun _=>true)=[0,2,4,5,6,7,8,10,11]:=by
   unfold jW;rw[show l.toArray.size=12 by simpa using hn];decide
  rw[ai] at hr
  have an:aI eR w.drew (aj (E4 iA a b bd (vs 5)) (aj (av (kK (vs 9)) (Hp (vs 7)) 41) bG)) W:=hr.perm (by
   show aj (aj bG (aj bG (aj bG (aj (E4 iA a b bd (vs 5)) (aj bG (aj bG (aj bG (aj (av (kK (vs 9)) (Hp (vs 7)) 41) (aj bG bG))))))))) bG=_
   simp only[jC,fG])
  obtain⟨s,M,g5,ab,ad⟩:=YE an;have g6:vs 6=vs 5:=hH 6 eL;have g7:=(hH 7 eL:∀ s M,vs 5=.tuple #[.agg (jh s),.int .i64 M]->vs 7=.agg (jh s)) s M g5;have g8:=(hH 8 eL:∀ s M,vs 5=.tuple #[.agg (jh s),.int .i64 M]->vs 8=.int .i64 M) s M g5;have g11:vs 11=vs 8:=hH 11 eL;rw[g7] at ad;exact fin vs s M (vs 1) (vs 3) (kK (vs 9)) W (hH 0 eL) rfl (hH 2 eL) rfl (hH 4 eL) g5 (g6.trans g5) g7 g8 (hH 9 eL) (g11.trans g8) ab ad
section
variable{ops:Array Oper}{o:Oper}{a:Act}{W:World}{Z:Value→World→Prop}
theorem zB{x y z:Operand}(hw:Region.wanted o (yielded ops a.tmps)=true)(ho:o.op=.pick x y z)(hx:a.eval x=.bool true)(hy:a.eval y=v)(hz:Z v W):EI Tryz.prog ops o a W Z:=
 AV hw (by unfold execOp;rw[ho];simp only[hx,hy];go_simp) hz
theorem OZ{x:Operand}{b:Bool}(hw:Region.wanted o (yielded ops a.tmps)=true)(ho:o.op=.unOp .not 4 x)(hx:a.eval x=.bool b)(hz:Z (.bool !b) W):EI Tryz.prog ops o a W Z:=
 AV hw (by unfold execOp;rw[ho];simp only[hx];go_simp) hz
theorem f14(vs:Array Value)(W:World):(callFunc 14 vs).run Tryz.prog W=.ok (.enter 14 vs) W:=by go_simp
end
inductive Kd
 | val (v:Value)
 | bs (l:List Bs)
 | nm (k:Nat)
def kH(kd:List Kd)(j:Nat)(vs:Nat->Value):Prop:=match kd[j]? with
 | some (.val v)=>vs j=v
 | some (.bs l)=>vs j=.slice (some ⟨kK (vs j),0,none⟩) l.length l.length
 | some (.nm k)=>vs j=.agg #[.int .i64 1,vs k]
 | none=>True
def kR(kd:List Kd)(j:Nat)(vs:Nat->Value):CH.aU:=match kd[j]? with
 | some (.bs l)=>av (kK (vs j)) (kN l).toArray 9
 | _=>bG
instance kR_ok {kd:List Kd} {j:Nat} {vs:Nat→Value}:(kR kd j vs).Ok:=by
 unfold kR;split<;>exact aO
theorem afb{kd:List Kd}{p:Nat->Nat->Prop}(hn:∀ j k,kd[j]?=some (.nm k)->k<j/\p j k)(j:Nat)(vs I:Nat->Value)(h:∀ k,k=j\/(k<j/\p j k)->vs k=I k):(kH kd j vs->kH kd j I)/\kR kd j vs=kR kd j I:=by
 have e:=h j (.inl rfl);unfold kH kR;cases J:kd[j]? with
 | none=>exact⟨fun g=>g,rfl⟩
 | some x=>
  cases x with
  | val v=>exact⟨fun g=>by simp only at g ⊢;rw[<-e];exact g,rfl⟩
  | bs l=>exact⟨fun g=>by simp only at g ⊢;rw[<-e];exact g,by simp only[e]⟩
  | nm k=>exact⟨fun g=>by simp only at g ⊢;rw[<-e,<-h k (.inr (hn j k J))];exact g,rfl⟩
variable{p:Op}{d:Option Tmp}{g:Option (Nat × Bool)}
theorem dX{o:Oper}(h:F[i]?=some (YX o))(h2:F[i]?=some (p,d,g)):o.op=p:=by
 rw[h] at h2;injection h2 with h2;injection h2
def E6(g s n m:Nat)(xs ys:Array (Nat × Operand))(p:Tmp):List (Op × Option Tmp × Option (Nat × Bool)):=
 [(.load 25 (.tmp 1),some s,some (g,true)),(.buildSlice 26 n xs,some (s+1),some (g,true)),(Bu 19 #[.tmp (s+1)] #[26],some (s+2),some (g,true)),(.buildSlice 26 m ys,some (s+3),some (g,true)),(Bu 19 #[.tmp (s+3)] #[26],some (s+4),some (g,true)),(.load 41 (.tmp p),some (s+5),some (g,true)),(Bu 14 #[.tmp s,.tmp (s+2),.tmp (s+4),.tmp (s+5)] #[25,28,28,41],some (s+6),some (g,true))]
def E7(j:Nat)(l m:List Bs)(t S:Value)(b:Bool):List Kd:=[.val t,.bs l,.nm (j+1),.bs m,.nm (j+3),.val S,.val (.bool b)]
def xA:Array (Nat × Operand):=#[(0,.const (.string { data:=#[97] }))]
def xB:Array (Nat × Operand):=#[(0,.const (.string { data:=#[98] }))]
def T4:Array (Nat × Operand):=#[(0,.const (.string { data:=#[97] })),(1,.const (.string { data:=#[98] }))]
def T5:Array (Nat × Operand):=#[(0,.const (.string { data:=#[98] })),(1,.const (.string { data:=#[97] }))]
def cF:List (Op × Option Tmp × Option (Nat × Bool)):=
 [(.move (.tmp 12),some 119,none),(.move (.tmp 119),some 120,none)]++E6 1 121 1 1 xA xB 2++[(.pick (.tmp 120) (.tmp 127) (.const (.bool false)),some 128,none),(.move (.tmp 128),some 129,none)] ++
 E6 10 130 1 1 xA xB 10++[(.unOp .not 4 (.tmp 136),some 137,some (10,true)),(.pick (.tmp 129) (.tmp 137) (.const (.bool false)),some 138,none),(.move (.tmp 138),some 139,none)] ++
 E6 20 140 1 1 xA xB 11++[(.unOp .not 4 (.tmp 146),some 147,some (20,true)),(.pick (.tmp 139) (.tmp 147) (.const (.bool false)),some 148,none),(.move (.tmp 148),some 149,none)] ++
 E6 30 150 2 2 T4 T5 6++[(.pick (.tmp 149) (.tmp 156) (.const (.bool false)),some 157,none),(.move (.tmp 157),some 158,none)] ++
 E6 39 159 1 1 xA xA 2++[(.unOp .not 4 (.tmp 165),some 166,some (39,true)),(.pick (.tmp 158) (.tmp 166) (.const (.bool false)),some 167,none),(.assign (.tmp 167),some 0,none)]
def kT:Kd:=.val (.bool true)
def T6(t S S1 S2 U:Value):List Kd:=
 [kT,kT]++E7 2 [[97]] [[98]] t S true++[kT,kT]++E7 11 [[97]] [[98]] t S1 false++[kT,kT,kT]++E7 21 [[97]] [[98]] t S2 false++[kT,kT,kT]++E7 31 [[97],[98]] [[98],[97]] t U true++[kT,kT]++E7 40 [[97]] [[97]] t S false++[kT,kT,kT]
def cC:List (List Nat):=(List.range 50).map fun i=>if i=8\/i=17\/i=27\/i=37\/i=46 then [i-5,i-3] else []
theorem dY{o:Oper}(h:F[i]?=some (YX o))(h2:F[i]?=some (p,d,g)):o.guard=g:=by
 rw[h] at h2;injection h2 with h2;injection h2 with h2 h3;injection h3
def cB:Array Nat:=#[0,1,3,3,11,3,59,3,255,511,1023,2047,2047,6143,2047,30719,2047,131071,262143,524287,1048575,2097151,2097151,6291455,2097151,31457279,2097151,134217727,268435455,536870911,1073741823,2147483647,2147483647,6442450943,2147483647,32212254719,2147483647,137438953471,274877906943,549755813887,1099511627775,1099511627775,3298534883327,1099511627775,16492674416639,1099511627775,70368744177663,140737488355327,281474976710655,562949953421311]
def yv(w:World)(ta:TA)(l m:List Bs)(S:SL)(b:Bool):Prop:=∀ W A B,Below w.heap.size w W->fu W A l->fu W B m->Calls Tryz.prog 14 #[dI iA ta,.agg (ff 1 A l.length l.length),.agg (ff 1 B m.length m.length),.agg (jh S)] W (aT W (.bool b))
def YH(n:Nat)(xs:Array (Nat × Operand))(l:List Bs):Prop:=∀ (c:Act) W,(Instr.buildSlice 26 n (xs.map fun (i,x)=>(i,c.eval x))).run Tryz.prog W=.ok (.slice (some ⟨W.heap.size,0,none⟩) l.length l.length) (W.alloc (.cells (kN l).toArray 9))
theorem O0:YH 1 xA [[97]]:=fun c W=>by go_simp;rfl
theorem YI:YH 1 xB [[98]]:=fun c W=>by go_simp;rfl
theorem YJ:YH 2 T4 [[97],[98]]:=fun c W=>by go_simp;rfl
theorem YK:YH 2 T5 [[98],[97]]:=fun c W=>by go_simp;rfl
theorem O1{id:Nat}{l:List Oper}{a0:Act}{ta:TA}{g1 g2 g6 g10 g11:Nat}{S S1 S2 U:SL}(hm:Tryz.prog.follows .mixedOrders=true)(hF:l.map YX=cF)(ao:Region.before l.toArray=cB)(ax:IB l.toArray cC a0.tmps.size=true)(az:a0.tmps[12]?=some (.bool true))(t1:a0.tmps[1]?=some (.pointer (some ⟨g1,0,none⟩)))(t2:a0.tmps[2]?=some (.pointer (some ⟨g2,0,none⟩)))(t6:a0.tmps[6]?=some (.pointer (some ⟨g6,0,none⟩)))(ar:a0.tmps[10]?=some (.pointer (some ⟨g10,0,none⟩)))(am:a0.tmps[11]?=some (.pointer (some ⟨g11,0,none⟩)))(ab:∀ W,Below w.heap.size w W->(Instr.loadAt 25 (.pointer (some ⟨g1,0,none⟩))).run Tryz.prog W=.ok (dI iA ta) W)(ae:∀ W,Below w.heap.size w W->(Instr.loadAt 41 (.pointer (some ⟨g2,0,none⟩))).run Tryz.prog W=.ok (.agg (jh S)) W)(ai:∀ W,Below w.heap.size w W->(Instr.loadAt 41 (.pointer (some ⟨g10,0,none⟩))).run Tryz.prog W=.ok (.agg (jh S1)) W)(ak:∀ W,Below w.heap.size w W->(Instr.loadAt 41 (.pointer (some ⟨g11,0,none⟩))).run Tryz.prog W=.ok (.agg (jh S2)) W)(aw:∀ W,Below w.heap.size w W->(Instr.loadAt 41 (.pointer (some ⟨g6,0,none⟩))).run Tryz.prog W=.ok (.agg (jh U)) W)(c1:yv w ta [[97]] [[98]] S true)(c2:yv w ta [[97]] [[98]] S1 false)(c3:yv w ta [[97]] [[98]] S2 false)(c4:yv w ta [[97],[98]] [[98],[97]] U true)(c5:yv w ta [[97]] [[97]] S false)(fin:∀ (vs:Nat->Value) (W:World),vs 49=.bool true->Below w.heap.size w W->Q .normal (oU l 0 vs a0) W):(Code.region id l.toArray true).wp Tryz.prog Q a0 w:=by
 obtain⟨kd,ad⟩:∃ kd,kd=T6 (dI iA ta) (.agg (jh S)) (.agg (jh S1)) (.agg (jh S2)) (.agg (jh U)):=⟨_,rfl⟩;have hp:∀ i j,Uh l.toArray i j↔(cB.getD i 0).testBit j=true:=fun i j=>by unfold Uh;rw[ao]
 have I:=fun i=>Rw hF i;have ag:Below w.heap.size w w.drew:=dB (fe _ _);refine uq (F0:=fun _=>False) (w0:=w.drew) (X0:=bG) cC (kH kd) (kR kd) hm ax
  (fun j vs aq h=>afb (p:=Uh l.toArray) (fun j k hk=>?_) j vs aq h) aM (fun _ _=>aO) (aI.begin w.drew) ?_ ?_
 ·rw[ad] at hk;have af:j<50:=by
   by_cases h:j<50
   ·exact h
   ·rw[pP (by show 50<=j;omega)] at hk;cases hk
  have al:((List.range 50).all fun j=>match (T6 (dI iA ta) (.agg (jh S)) (.agg (jh S1)) (.agg (jh S2)) (.agg (jh U)))[j]? with
   | some (.nm k)=>decide (k<j)&&(cB.getD j 0).testBit k
   | _=>true)=true:=by kernel_rfl
  have h2:=List.all_eq_true.1 al j (List.mem_range.2 af);simp only[hk,gA,decide_eq_true_eq] at h2;exact⟨h2.1,(hp _ _).2 h2.2⟩
 ·intro i o hi L c vs W X hX hL hs hH hr;have J:=YD hF hi;have on:∀ k d,(cB.getD i 0).testBit k=true->k<i->iD l.toArray k=some d->c.tmps[d]?=some (vs k):=fun k d hb hk hd=>hs.on k d (hL k ((hp _ _).2 hb) hk) hd;have hh:∀ k,(cB.getD i 0).testBit k=true->k<i->kH kd k vs:=fun k hb hk=>hH k (hL k ((hp _ _).2 hb) hk);have M:∀ k d v,(cB.getD i 0).testBit k=true->k<i->(cF[k]?).bind (·.2.1)=some d->kd[k]?=some (.val v)->c.tmps[d]?=some v:=fun k d v hb hk hd hv=>by
   have:=hh k hb hk;unfold kH at this;rw[hv] at this;rw[on k d hb hk ((I k).trans hd),this]
  have cK:Below w.heap.size w W:=ag.trans (hr.cK.mono (fL _))
  have off:∀ t v,t ∉ cF.filterMap (·.2.1)->a0.tmps[t]?=some v->c.eval (.tmp t)=v:=fun t v ht hv=>jg ((hs.off t (fun k hk hd=>by
   rw[I] at hd
   exact ht (Rx hd))).trans hv)
  have zv:∀ v,kd[i]?=some (.val v)->qQ cC i=[]->kH kd i (upd vs i v)/\aI eR w.drew (aj (kR kd i (upd vs i v)) X) W:=fun v hv hc=>by
   unfold kH kR;rw[hv];rw[hc] at hr;exact⟨fA,hr⟩
  have zb:∀ (n:Nat) (xs:Array (Nat × Operand)) (m:List Bs),kd[i]?=some (.bs m)->qQ cC i=[]->YH n xs m->Region.wanted o (yielded l.toArray c.tmps)=true->o.op=.buildSlice 26 n xs->EI Tryz.prog l.toArray o c W fun v W'=>kH kd i (upd vs i v)/\aI eR w.drew (aj (kR kd i (upd vs i v)) X) W':=fun n xs m hv hc hb hw aa=>by
   refine YB (hb c W) hw aa rfl ?_;unfold kH kR;rw[hv];rw[hc] at hr;simp only[fA];exact⟨rfl,aH (hr.perm (jC X)) hX _ 9⟩
  have bk:∀ k (m:List Bs),(cB.getD i 0).testBit k=true->k<i->kd[k]?=some (.bs m)->vs k=.slice (some ⟨kK (vs k),0,none⟩) m.length m.length:=fun k m hb hk hv=>by
   have:=hh k hb hk;unfold kH at this;rw[hv] at this;exact this
  have zn:∀ k d (m:List Bs),(cB.getD i 0).testBit k=true->k<i->(cF[k]?).bind (·.2.1)=some d->kd[k]?=some (.bs m)->kd[i]?=some (.nm k)->qQ cC i=[]->Region.wanted o (yielded l.toArray c.tmps)=true->o.op=Bu 19 #[.tmp d] #[26]->EI Tryz.prog l.toArray o c W fun v W'=>kH kd i (upd vs i v)/\aI eR w.drew (aj (kR kd i (upd vs i v)) X) W':=fun k d m hb hk hd hv ap hc hw aa=>by
   have g:=bk k m hb hk hv;have e:=jg (on k d hb hk ((I k).trans hd));refine zu (vs:=#[vs k]) MD hw aa (by simp[e]) ?_;rw[g];refine(EF _ _ _ W).mono ?_;rintro e9 w' ⟨rfl,hbl⟩;rw[hc] at hr;refine⟨_,rfl,?_⟩;unfold kH kR;rw[ap];have an:k≠i:=by omega
   simp only[fA,upd_ne an];exact⟨congrArg (fun v=>Value.agg #[.int .i64 1,v]) g.symm,hr.below (show aU.Ok _ from aB aM hX) hbl⟩
  have zc:∀ s1 s2 s3 s4 (n m:List Bs) (S:SL) (b:Bool),yv w ta n m S b->qQ cC i=[i-5,i-3]->kd[i]?=some (.val (.bool b))->kd[i-6]?=some (.val (dI iA ta))->kd[i-5]?=some (.bs n)->kd[i-4]?=some (.nm (i-5))->kd[i-3]?=some (.bs m)->kd[i-2]?=some (.nm (i-3))->kd[i-1]?=some (.val (.agg (jh S))) ->
    (∀ k,k<6->(cB.getD i 0).testBit (i-6+k)=true)->6<=i->(cF[i-6]?).bind (·.2.1)=some s1->(cF[i-4]?).bind (·.2.1)=some s2->(cF[i-2]?).bind (·.2.1)=some s3->(cF[i-1]?).bind (·.2.1)=some s4->Region.wanted o (yielded l.toArray c.tmps)=true->o.op=Bu 14 #[.tmp s1,.tmp s2,.tmp s3,.tmp s4] #[25,28,28,41] ->
    EI Tryz.prog l.toArray o c W fun v W'=>kH kd i (upd vs i v)/\aI eR w.drew (aj (kR kd i (upd vs i v)) X) W':=fun s1 s2 s3 s4 n m S b hC hc hk k0 k1 k2 k3 k4 k5 hb h6 e1 e2 e3 e4 hw aa=>by
   have q0:=hb 0 eS;have q1:(cB.getD i 0).testBit (i-5)=true:=by have:=hb 1 eS;rwa [show i-6+1=i-5 by omega] at this
   have q2:(cB.getD i 0).testBit (i-4)=true:=by have:=hb 2 eS;rwa [show i-6+2=i-4 by omega] at this
   have q3:(cB.getD i 0).testBit (i-3)=true:=by have:=hb 3 eS;rwa [show i-6+3=i-3 by omega] at this
   have q4:(cB.getD i 0).testBit (i-2)=true:=by have:=hb 4 eS;rwa [show i-6+4=i-2 by omega] at this
   have q5:(cB.getD i 0).testBit (i-1)=true:=by have:=hb 5 eS;rwa [show i-6+5=i-1 by omega] at this
   have v1:=jg (M (i-6) s1 _ q0 eL e1 k0);have v2:=jg (on (i-4) s2 q2 eL ((I _).trans e2));have v3:=jg (on (i-2) s3 q4 eL ((I _).trans e3));have v4:=jg (M (i-1) s4 _ q5 eL e4 k5);have g1:=bk (i-5) n q1 eL k1;have g3:=bk (i-3) m q3 eL k3;have n2:=hh (i-4) q2 eL;have n4:=hh (i-2) q4 eL;unfold kH at n2 n4;rw[k2] at n2;rw[k4] at n4;rw[hc] at hr;have ac:aI eR w.drew (aj (aj (kR kd (i-5) vs) (aj (kR kd (i-3) vs) bG)) X) W:=hr;have r1:kR kd (i-5) vs=av (kK (vs (i-5))) (kN n).toArray 9:=by unfold kR;rw[k1]
   have r3:kR kd (i-3) vs=av (kK (vs (i-3))) (kN m).toArray 9:=by unfold kR;rw[k3]
   rw[r1,r3] at ac;obtain⟨_,f1⟩:=ac.assoc.fst;obtain⟨_,f3⟩:=ac.assoc.drop.assoc.fst
   refine zu (vs:=#[dI iA ta,.agg (ff 1 (some ⟨kK (vs (i-5)),0,none⟩) n.length n.length),.agg (ff 1 (some ⟨kK (vs (i-3)),0,none⟩) m.length m.length),.agg (jh S)]) f14 hw aa (by
    simp[v1,v2,v3,v4]
    exact⟨n2.trans (congrArg (fun v=>Value.agg #[.int .i64 1,v]) g1),n4.trans (congrArg (fun v=>Value.agg #[.int .i64 1,v]) g3)⟩) ?_
   refine(hC W _ _ cK (zw f1) (zw f3)).mono ?_;rintro e9 w' ⟨rfl,hbl⟩;refine⟨_,rfl,?_⟩;unfold kH kR;rw[hk];exact⟨fA,(ac.drop.below hX hbl).perm (jC X).symm⟩
  subst ad;have af:i<50:=(List.getElem?_eq_some_iff.1 J).1;clear hh bk on;rcases (by omega:i=0\/i=1\/i=2\/i=3\/i=4\/i=5\/i=6\/i=7\/i=8\/i=9\/i=10\/i=11\/i=12\/i=13\/i=14\/i=15\/i=16\/i=17\/i=18\/i=19\/i=20\/i=21\/i=22\/i=23\/i=24\/i=25\/i=26\/i=27\/i=28\/i=29\/i=30\/i=31\/i=32\/i=33\/i=34\/i=35\/i=36\/i=37\/i=38\/i=39\/i=40\/i=41\/i=42\/i=43\/i=44\/i=45\/i=46\/i=47\/i=48\/i=49) with rfl|rfl|rfl|rfl|rfl|rfl|rfl|rfl|rfl|rfl|rfl|rfl|rfl|rfl|rfl|rfl|rfl|rfl|rfl|rfl|rfl|rfl|rfl|rfl|rfl|rfl|rfl|rfl|rfl|rfl|rfl|rfl|rfl|rfl|rfl|rfl|rfl|rfl|rfl|rfl|rfl|rfl|rfl|rfl|rfl|rfl|rfl|rfl|rfl|rfl
  ·exact oF (jy (dY J rfl)) (.inl (dX J rfl)) (off 12 _ eS az) (zv _ rfl rfl)
  ·exact oF (jy (dY J rfl)) (.inl (dX J rfl)) (jg (M 0 _ _ eS eS rfl rfl)) (zv _ rfl rfl)
  ·exact lQ (ab W cK) (fH (dY J rfl) ((I 1).trans rfl) (M 1 _ _ eS eS rfl rfl)) (dX J rfl) (off 1 _ eS t1) (zv _ rfl rfl)
  ·exact zb _ _ _ rfl rfl O0 (fH (dY J rfl) ((I 1).trans rfl) (M 1 _ _ eS eS rfl rfl)) (dX J rfl)
  ·exact zn 3 _ _ eS eS rfl rfl rfl rfl (fH (dY J rfl) ((I 1).trans rfl) (M 1 _ _ eS eS rfl rfl)) (dX J rfl)
  ·exact zb _ _ _ rfl rfl YI (fH (dY J rfl) ((I 1).trans rfl) (M 1 _ _ eS eS rfl rfl)) (dX J rfl)
  ·exact zn 5 _ _ eS eS rfl rfl rfl rfl (fH (dY J rfl) ((I 1).trans rfl) (M 1 _ _ eS eS rfl rfl)) (dX J rfl)
  ·exact lQ (ae W cK) (fH (dY J rfl) ((I 1).trans rfl) (M 1 _ _ eS eS rfl rfl)) (dX J rfl) (off 2 _ eS t2) (zv _ rfl rfl)
  ·exact zc _ _ _ _ _ _ _ _ c1 rfl rfl rfl rfl rfl rfl rfl rfl eS eS rfl rfl rfl rfl (fH (dY J rfl) ((I 1).trans rfl) (M 1 _ _ eS eS rfl rfl)) (dX J rfl)
  ·exact zB (jy (dY J rfl)) (dX J rfl) (jg (M 1 _ _ eS eS rfl rfl)) (jg (M 8 _ _ eS eS rfl rfl)) (zv _ rfl rfl)
  ·exact oF (jy (dY J rfl)) (.inl (dX J rfl)) (jg (M 9 _ _ eS eS rfl rfl)) (zv _ rfl rfl)
  ·exact lQ (ab W cK) (fH (dY J rfl) ((I 10).trans rfl) (M 10 _ _ eS eS rfl rfl)) (dX J rfl) (off 1 _ eS t1) (zv _ rfl rfl)
  ·exact zb _ _ _ rfl rfl O0 (fH (dY J rfl) ((I 10).trans rfl) (M 10 _ _ eS eS rfl rfl)) (dX J rfl)
  ·exact zn 12 _ _ eS eS rfl rfl rfl rfl (fH (dY J rfl) ((I 10).trans rfl) (M 10 _ _ eS eS rfl rfl)) (dX J rfl)
  ·exact zb _ _ _ rfl rfl YI (fH (dY J rfl) ((I 10).trans rfl) (M 10 _ _ eS eS rfl rfl)) (dX J rfl)
  ·exact zn 14 _ _ eS eS rfl rfl rfl rfl (fH (dY J rfl) ((I 10).trans rfl) (M 10 _ _ eS eS rfl rfl)) (dX J rfl)
  ·exact lQ (ai W cK) (fH (dY J rfl) ((I 10).trans rfl) (M 10 _ _ eS eS rfl rfl)) (dX J rfl) (off 10 _ eS ar) (zv _ rfl rfl)
  ·exact zc _ _ _ _ _ _ _ _ c2 rfl rfl rfl rfl rfl rfl rfl rfl eS eS rfl rfl rfl rfl (fH (dY J rfl) ((I 10).trans rfl) (M 10 _ _ eS eS rfl rfl)) (dX J rfl)
  ·exact OZ (fH (dY J rfl) ((I 10).trans rfl) (M 10 _ _ eS eS rfl rfl)) (dX J rfl) (jg (M 17 _ _ eS eS rfl rfl)) (zv _ rfl rfl)
  ·exact zB (jy (dY J rfl)) (dX J rfl) (jg (M 10 _ _ eS eS rfl rfl)) (jg (M 18 _ _ eS eS rfl rfl)) (zv _ rfl rfl)
  ·exact oF (jy (dY J rfl)) (.inl (dX J rfl)) (jg (M 19 _ _ eS eS rfl rfl)) (zv _ rfl rfl)
  ·exact lQ (ab W cK) (fH (dY J rfl) ((I 20).trans rfl) (M 20 _ _ eS eS rfl rfl)) (dX J rfl) (off 1 _ eS t1) (zv _ rfl rfl)
  ·exact zb _ _ _ rfl rfl O0 (fH (dY J rfl) ((I 20).trans rfl) (M 20 _ _ eS eS rfl rfl)) (dX J rfl)
  ·exact zn 22 _ _ eS eS rfl rfl rfl rfl (fH (dY J rfl) ((I 20).trans rfl) (M 20 _ _ eS eS rfl rfl)) (dX J rfl)
  ·exact zb _ _ _ rfl rfl YI (fH (dY J rfl) ((I 20).trans rfl) (M 20 _ _ eS eS rfl rfl)) (dX J rfl)
  ·exact zn 24 _ _ eS eS rfl rfl rfl rfl (fH (dY J rfl) ((I 20).trans rfl) (M 20 _ _ eS eS rfl rfl)) (dX J rfl)
  ·exact lQ (ak W cK) (fH (dY J rfl) ((I 20).trans rfl) (M 20 _ _ eS eS rfl rfl)) (dX J rfl) (off 11 _ eS am) (zv _ rfl rfl)
  ·exact zc _ _ _ _ _ _ _ _ c3 rfl rfl rfl rfl rfl rfl rfl rfl eS eS rfl rfl rfl rfl (fH (dY J rfl) ((I 20).trans rfl) (M 20 _ _ eS eS rfl rfl)) (dX J rfl)
  ·exact OZ (fH (dY J rfl) ((I 20).trans rfl) (M 20 _ _ eS eS rfl rfl)) (dX J rfl) (jg (M 27 _ _ eS eS rfl rfl)) (zv _ rfl rfl)
  ·exact zB (jy (dY J rfl)) (dX J rfl) (jg (M 20 _ _ eS eS rfl rfl)) (jg (M 28 _ _ eS eS rfl rfl)) (zv _ rfl rfl)
  ·exact oF (jy (dY J rfl)) (.inl (dX J rfl)) (jg (M 29 _ _ eS eS rfl rfl)) (zv _ rfl rfl)
  ·exact lQ (ab W cK) (fH (dY J rfl) ((I 30).trans rfl) (M 30 _ _ eS eS rfl rfl)) (dX J rfl) (off 1 _ eS t1) (zv _ rfl rfl)
  ·exact zb _ _ _ rfl rfl YJ (fH (dY J rfl) ((I 30).trans rfl) (M 30 _ _ eS eS rfl rfl)) (dX J rfl)
  ·exact zn 32 _ _ eS eS rfl rfl rfl rfl (fH (dY J rfl) ((I 30).trans rfl) (M 30 _ _ eS eS rfl rfl)) (dX J rfl)
  ·exact zb _ _ _ rfl rfl YK (fH (dY J rfl) ((I 30).trans rfl) (M 30 _ _ eS eS rfl rfl)) (dX J rfl)
  ·exact zn 34 _ _ eS eS rfl rfl rfl rfl (fH (dY J rfl) ((I 30).trans rfl) (M 30 _ _ eS eS rfl rfl)) (dX J rfl)
  ·exact lQ (aw W cK) (fH (dY J rfl) ((I 30).trans rfl) (M 30 _ _ eS eS rfl rfl)) (dX J rfl) (off 6 _ eS t6) (zv _ rfl rfl)
  ·exact zc _ _ _ _ _ _ _ _ c4 rfl rfl rfl rfl rfl rfl rfl rfl eS eS rfl rfl rfl rfl (fH (dY J rfl) ((I 30).trans rfl) (M 30 _ _ eS eS rfl rfl)) (dX J rfl)
  ·exact zB (jy (dY J rfl)) (dX J rfl) (jg (M 30 _ _ eS eS rfl rfl)) (jg (M 37 _ _ eS eS rfl rfl)) (zv _ rfl rfl)
  ·exact oF (jy (dY J rfl)) (.inl (dX J rfl)) (jg (M 38 _ _ eS eS rfl rfl)) (zv _ rfl rfl)
  ·exact lQ (ab W cK) (fH (dY J rfl) ((I 39).trans rfl) (M 39 _ _ eS eS rfl rfl)) (dX J rfl) (off 1 _ eS t1) (zv _ rfl rfl)
  ·exact zb _ _ _ rfl rfl O0 (fH (dY J rfl) ((I 39).trans rfl) (M 39 _ _ eS eS rfl rfl)) (dX J rfl)
  ·exact zn 41 _ _ eS eS rfl rfl rfl rfl (fH (dY J rfl) ((I 39).trans rfl) (M 39 _ _ eS eS rfl rfl)) (dX J rfl)
  ·exact zb _ _ _ rfl rfl O0 (fH (dY J rfl) ((I 39).trans rfl) (M 39 _ _ eS eS rfl rfl)) (dX J rfl)
  ·exact zn 43 _ _ eS eS rfl rfl rfl rfl (fH (dY J rfl) ((I 39).trans rfl) (M 39 _ _ eS eS rfl rfl)) (dX J rfl)
  ·exact lQ (ae W cK) (fH (dY J rfl) ((I 39).trans rfl) (M 39 _ _ eS eS rfl rfl)) (dX J rfl) (off 2 _ eS t2) (zv _ rfl rfl)
  ·exact zc _ _ _ _ _ _ _ _ c5 rfl rfl rfl rfl rfl rfl rfl rfl eS eS rfl rfl rfl rfl (fH (dY J rfl) ((I 39).trans rfl) (M 39 _ _ eS eS rfl rfl)) (dX J rfl)
  ·exact OZ (fH (dY J rfl) ((I 39).trans rfl) (M 39 _ _ eS eS rfl rfl)) (dX J rfl) (jg (M 46 _ _ eS eS rfl rfl)) (zv _ rfl rfl)
  ·exact zB (jy (dY J rfl)) (dX J rfl) (jg (M 39 _ _ eS eS rfl rfl)) (jg (M 47 _ _ eS eS rfl rfl)) (zv _ rfl rfl)
  ·exact oF (jy (dY J rfl)) (.inr (dX J rfl)) (jg (M 48 _ _ eS eS rfl rfl)) (zv _ rfl rfl)
 ·intro vs W hH hr;have hn:l.length=50:=by rw[<-fY (f:=YX),hF];rfl
  have h:=hH 49 eL;unfold kH at h;rw[ad] at h;exact fin vs W h (ag.trans (hr.cK.mono (fL _)))
def Fa(W:World)(g:Nat)(s:SL):Prop:=(oA W g (.int .i64 s.b) (.slice s.A s.ws.length s.c) (.slice s.u.A s.U.length s.u.c) (.slice s.v.A s.V.length s.v.c) (.slice s.g.A s.G.length s.g.c))
variable{g:Nat}{s:SL}{F:Nat->Prop}{l:List Int}
theorem Fa.below{W':World}(h:Fa W g s)(hb:Below W.heap.size W W'):Fa W' g s:=⟨aG h.1 hb,aG h.2.1 hb,aG h.2.2.1 hb,aG h.2.2.2.1 hb,aG h.2.2.2.2 hb⟩
theorem YL(h:av g (jh s) 41 W F):Fa W g s:=⟨ay h rfl,ay h rfl,ay h rfl,ay h rfl,ay h rfl⟩
theorem zC(h:Fa W g s):(Instr.loadAt 41 (.pointer (some ⟨g,0,none⟩))).run Tryz.prog W=.ok (.agg (jh s)) W:=by
 obtain⟨z0,z1,z2,z3,z4⟩:=h;unfold jh;go_simp
theorem aeP(h:∃ z,s.m.ws=[z]/\z.h=10/\z.ps.length=3):∃ e,s.ws=[e]/\e.h=10/\e.ps.length=3:=by
 obtain⟨z,h1,M,h3⟩:=h;have I:s.ws.map WL.m=[z]:=h1;cases J:s.ws with
 | nil=>rw[J] at I;cases I
 | cons e l=>
  rw[J] at I;cases l with
  | nil=>
   rw[lk,pL] at I;injection I with I
   subst I;exact⟨e,rfl,M,by rw[<-h3];exact(fY ..).symm⟩
  | cons e2 l=>rw[lk,lk] at I;injection I with _ I;cases I
theorem YM(W:World)(l:List Int):iJ (W.alloc (.cells (l.map (Value.int .i64)).toArray 3)) (some ⟨W.heap.size,0,none⟩) l:=
 MU (cs:=(l.map (Value.int .i64)).toArray) i7 (fun u hu=>by
  obtain⟨x,-,rfl⟩:=List.mem_map.1 (by simpa using hu:u ∈ l.map (Value.int .i64))
  rfl)
theorem ints_at(h:iJ W A l)(I:l.length<=1000000):Calls Tryz.prog 20 #[.slice A l.length c,.slice (some ⟨W.heap.size,0,none⟩) l.length l.length] (W.alloc (.cells (l.map (Value.int .i64)).toArray 3)) (aT W (.bool true)):=by
 refine(Sl.Yn (c:=c) (d:=l.length) (h.below (bF W _)) (YM W l) I).mono ?_;rintro e w' ⟨rfl,hb⟩;exact⟨by rw[decide_eq_true rfl],aC (bF W _) hb⟩
theorem YN(h:av g (l.map (Value.int .i64)).toArray 3 W F):iJ W (some ⟨g,0,none⟩) l:=by
 refine⟨by simp,fun u I=>?_,fun _=>⟨_,rfl,fun j u I=>?_⟩⟩
 ·obtain⟨x,-,rfl⟩:=List.mem_map.1 I;rfl
 ·have e:(⟨g,0,none⟩:Addr).add j=⟨g,j,none⟩:=by unfold Addr.add;split<;>simp_all
  rw[e];exact ay h (by rw[mr];exact I)
theorem EG{ta:TA}{a b:aR}{r:Bool}(hT:∀ W,Below w.heap.size w W->jV W iA ta)(hz:LZ w)(hs:∀ W,Below w.heap.size w W->SR W s)(ab:Ul s)(ka:a.k=1)(kb:b.k=1)(M:∀ x ∈ a.ws,x.length<=1000000)(aa:∀ x ∈ b.ws,x.length<=1000000)(I:a.ws.length<=1000000)(J:b.ws.length<=1000000)(hr:r=true↔fD iA a b s.m):yv w ta a.ws b.ws s r:=by
 intro W A B hb hA hB;have h:=gT (ca:=a.ws.length) (cb:=b.ws.length) (hT W hb) (hz.below hb) hA hB I J M aa (hs W hb) ab;unfold uU at h;rw[ka,kb] at h;refine h.mono ?_;rintro e w' ⟨q,rfl,hq,hbl⟩;refine⟨?_,hbl⟩;have:q=r:=by rw[tB,hq,hr]
 rw[this]
def T7(W:World)(g:Nat)(a:TA):Prop:=(l4 W g (.slice a.A 2 a.c) (.slice a.D 0 a.d) (.slice a.E 0 a.e) (.int .i64 5) (.int .i64 1) (.int .i64 2))
theorem uT{a:TA}(h:T7 W g a):(Instr.loadAt 25 (.pointer (some ⟨g,0,none⟩))).run Tryz.prog W=.ok (dI iA a) W:=by
 obtain⟨z0,z1,z2,z3,z4,z5⟩:=h
 show _=Result.ok (Value.agg (fh a.A 2 a.c a.D 0 a.d a.E 0 a.e 5 1 2)) W
 go_simp
theorem rJ(w:World)(hz:LZ w):Calls Tryz.prog 10 #[] w (aT w (.bool true)):=by
 have HZ:=au hz;clear hz
 go_enter Tryz.func10,Tryz.ntmps10
 go_wp2_with fail;refine(OY w).mono ?_;rintro e9 w1 ⟨ta,rfl,hb,hT⟩;have h1:=aH (aI.begin w1) aO (dN iA ta) 25;have bn:=au (aC hb h1.cK);have HT:=au (hT.below h1.cK)
 have HC:=au (fun W (h:Below (w1.alloc (.cells (dN iA ta) 25)).heap.size (w1.alloc (.cells (dN iA ta) 25)) W)=>(show T7 W w1.heap.size ta from by
  obtain⟨_,f⟩:=(h1.below aO h).fst
  exact⟨ay f rfl,ay f rfl,ay f rfl,ay f rfl,ay f rfl,ay f rfl⟩))
 clear hb hT h1;rw[show dI iA ta=.agg (fh ta.A 2 ta.c ta.D 0 ta.d ta.E 0 ta.e 5 1 2) from rfl];dsimp only;go_upto_region 2 with (fail);rw[show dN iA ta=(fh ta.A 2 ta.c ta.D 0 ta.d ta.E 0 ta.e 5 1 2) from rfl] at *
 generalize w1.alloc (.cells (fh ta.A 2 ta.c ta.D 0 ta.d ta.E 0 ta.e 5 1 2) 25)=w2 at *
 generalize w1.heap.size=g1 at HC ⊢;clear w1;have ag:=au (fun W (h:Below w2.heap.size w2 W)=>(aC bn.o h:Below w.heap.size w W));have aq:=au (fe w2.heap.size w2);refine vL (ta:=ta) (g1:=g1) (a:=Ju) (b:=OU) (bd:=10) eQ rfl eQ eQ rfl eS rfl rfl eS eS eS eS (HZ.o.below (ag.o _ aq.o)) (HT.o.below aq.o) (fun W h=>uT (HC.o W (aC aq.o h))) O0 YI ?_;rintro vs I er A B gS w3 e0 e1 e2 e3 e4 e5 e6 e7 e8 e9 af aa hr;have ax:=au (aC (dB aq.o) hr.cK)
 have bh:=au (fun W (h:Below w3.heap.size w3 W)=>(show Fa W gS I from by
  obtain⟨_,f⟩:=(hr.below aO h).drop.fst
  exact YL f))
 have a3:=au (fun W (h:Below w3.heap.size w3 W)=>(show SR W I from by
  obtain⟨_,f⟩:=(hr.below aO h).fst
  exact My f))
 have ad:=au (show Ul I from by
  obtain⟨_,f⟩:=hr.fst
  exact Jv aa f eS eS)
 have a4:=au (adF aa);obtain rfl:er=0:=a4.o.1.1;have ab:=au (fe w3.heap.size w3);clear hr aa aq;simp only[oU,Act.put,ja,iz,i6,Nat.reduceAdd];rw[e9,af];clear e0 e1 e2 e3 e4 e5 e6 e7 e8 e9 af
 try dsimp only
 go_upto_region 3 with (fail);refine vL (ta:=ta) (g1:=g1) (a:=Ju) (b:=OU) (bd:=11) eQ rfl eQ eQ rfl eS rfl rfl eS eS eS eS (HZ.o.below (ag.o _ ax.o)) (HT.o.below ax.o) (fun W h=>uT (HC.o W (aC ax.o h))) O0 YI ?_;rintro vs sX er A B gX w4 e0 e1 e2 e3 e4 e5 e6 e7 e8 e9 af aa hr;have ar:=au (aC (dB ax.o) hr.cK);obtain rfl:er=11:=Rq MR eS eS eS aa;have ac:=au (aC ab.o (aC (dB (fe _ _)) hr.cK));clear ab;have ab:=ac;clear ac;clear hr aa ax;simp only[oU,Act.put,ja,iz,i6,Nat.reduceAdd];rw[e9,af];clear e0 e1 e2 e3 e4 e5 e6 e7 e8 e9 af
 try dsimp only
 go_upto_region 4 with (fail);refine vL (ta:=ta) (g1:=g1) (a:=Hm) (b:=Hn) (bd:=1) eQ rfl eQ eQ rfl eS rfl rfl eS eS eS eS (HZ.o.below (ag.o _ ar.o)) (HT.o.below ar.o) (fun W h=>uT (HC.o W (aC ar.o h))) YJ YK ?_;rintro vs sU er A B gU w5 e0 e1 e2 e3 e4 e5 e6 e7 e8 e9 af aa hr;have aw:=au (aC (dB ar.o) hr.cK)
 have a7:=au (fun W (h:Below w5.heap.size w5 W)=>(show Fa W gU sU from by
  obtain⟨_,f⟩:=(hr.below aO h).drop.fst
  exact YL f))
 have bj:=au (fun W (h:Below w5.heap.size w5 W)=>(show SR W sU from by
  obtain⟨_,f⟩:=(hr.below aO h).fst
  exact My f))
 have bo:=au (show Ul sU from by
  obtain⟨_,f⟩:=hr.fst
  exact Jv aa f eS eS)
 have a0:=au (MS TX eS eS eS aa);obtain rfl:er=0:=a0.o.1;have ac:=au (aC ab.o (aC (dB (fe _ _)) hr.cK));clear ab;have ab:=ac;clear ac;have an:=au (fe w5.heap.size w5);clear hr aa ar;simp only[oU,Act.put,ja,iz,i6,Nat.reduceAdd];rw[e9,af];clear e0 e1 e2 e3 e4 e5 e6 e7 e8 e9 af
 try dsimp only
 go_upto_region 5 with (fail);refine vL (ta:=ta) (g1:=g1) (a:=Hm) (b:=Hn) (bd:=2) eQ rfl eQ eQ rfl eS rfl rfl eS eS eS eS (HZ.o.below (ag.o _ aw.o)) (HT.o.below aw.o) (fun W h=>uT (HC.o W (aC aw.o h))) YJ YK ?_;rintro vs sY er A B gY w6 e0 e1 e2 e3 e4 e5 e6 e7 e8 e9 af aa hr;have bm:=au (aC (dB aw.o) hr.cK);obtain rfl:er=11:=Rq TX eS eS eS aa;have ac:=au (aC ab.o (aC (dB (fe _ _)) hr.cK));clear ab;have ab:=ac;clear ac;have aE:=au (aC an.o (aC (dB (fe _ _)) hr.cK));clear an;have an:=aE;clear aE;clear hr aa aw;simp only[oU,Act.put,ja,iz,i6,Nat.reduceAdd];rw[e9,af];clear e0 e1 e2 e3 e4 e5 e6 e7 e8 e9 af
 try dsimp only
 obtain⟨⟨-,kb,kU,kV,kG⟩,kW,kC⟩:=a4.o;obtain⟨e,al,be,ba⟩:=aeP kW;have bp:=au (show fD iA Ju OU I.m from kC);have a1:=au (show I.b=10 from kb);have a9:sU.ws.length=4:=(fY ..).symm.trans a0.o.2.1;have hV:∀ W,Below w6.heap.size w6 W->W.cell? ⟨gS,0,none⟩=some (.int .i64 10)/\W.cell? ⟨gS,1,none⟩=some (.slice I.A 1 I.c)/\W.cell? ⟨gS,2,none⟩=some (.slice I.u.A 1 I.u.c)/\W.cell? ⟨gS,3,none⟩=some (.slice I.v.A 1 I.v.c)/\W.cell? ⟨gS,4,none⟩=some (.slice I.g.A 4 I.g.c)/\W.cell? ⟨gU,1,none⟩=some (.slice sU.A 4 sU.c):=fun W h=>by
  have g:=bh.o W (aC ab.o h);have g2:=a7.o W (aC an.o h);have e1:I.U=[5]:=kU;have e2:I.V=[5]:=kV;have e3:I.G=[10,5,5,0]:=kG;unfold Fa at g g2;rw[a1.o,al,e1,e2,e3] at g;rw[a9] at g2;exact⟨g.1,g.2.1,g.2.2.1,g.2.2.2.1,g.2.2.2.2,g2.2.1⟩
 have am:=au hV;have hR:∃ bb o,I.A=some ⟨bb,o,none⟩/\∀ W,Below w6.heap.size w6 W->W.cell? ⟨bb,o+2,none⟩=some (.int .i64 10)/\W.cell? ⟨bb,o+3,none⟩=some (.slice e.A 3 e.c):=by
  have g:=(a3.o w6 ab.o).ws;obtain⟨bb,o,hB,hc⟩:=sI.at (R:=mQ) (fun _=>rfl) eS g.row (by simp[al]);refine⟨bb,o,hB,fun W h=>?_⟩;have k2:=hc W h 0 (by simp[al]) 2 _ rfl;have k3:=hc W h 0 (by simp[al]) 3 _ rfl;simp only[al,kO,be,ba,sx,pk] at k2 k3;exact⟨k2,k3⟩
 obtain⟨bb,o,hA,hR⟩:=hR;have az:=au hR;rw[hA] at am;obtain⟨v0,v1,v2,v3,v4,u1⟩:=am.o w6 (fe _ _);obtain⟨r2,r3⟩:=az.o w6 (fe _ _);have a8:=au (show I.ws.length=1/\I.U.length=1/\I.V.length=1/\I.G.length=4/\I.A=some ⟨bb,o,none⟩ from⟨by rw[al];rfl,congrArg List.length kU,congrArg List.length kV,congrArg List.length kG,hA⟩)
 have a5:=au (fun W (h:Below w6.heap.size w6 W)=>(show iJ W I.u.A [5]/\iJ W I.v.A [5]/\iJ W I.g.A [10,5,5,0] from by
  have g:=a3.o W (aC ab.o h);have e1:I.U=[5]:=kU;have e2:I.V=[5]:=kV;have e3:I.G=[10,5,5,0]:=kG
  exact⟨e1 ▸ g.u,e2 ▸ g.v,e3 ▸ g.g⟩))
 clear hV hR kb kU kV kG kW kC al be ba a9 a4 hA;go_upto_region 8 with (fail);have h8:=aH (aI.begin w6) aO (fj 10 (some ⟨bb,o,none⟩) 1 I.c I.u.A 1 I.u.c I.v.A 1 I.v.c I.g.A 4 I.g.c) 41;have bk:=au h8.cK;clear r2 r3 u1;go_upto_region 9 with (fail);generalize w6.alloc (.cells (fj 10 (some ⟨bb,o,none⟩) 1 I.c I.u.A 1 I.u.c I.v.A 1 I.v.c I.g.A 4 I.g.c) 41)=w7 at *
 generalize w6.heap.size=g10 at h8 ⊢;obtain⟨z0,z1,z2,z3,z4,zf⟩:=fU h8;have h9:aI eR w6 (aj (av g10 (fj 11 (some ⟨bb,o,none⟩) 1 I.c I.u.A 1 I.u.c I.v.A 1 I.v.c I.g.A 4 I.g.c) 41) bG) _:=aJ h8 aO 0 (.int .i64 11);clear v0 v1 v2 v3 v4 h8 bk;have H9:=au h9;clear h9;go_upto_region 10 with (fail);generalize w7.setCell ⟨g10,0,none⟩ (.int .i64 11)=w8 at *
 clear z0 z1 z2 z3 z4 zf w7;obtain⟨v0,v1,v2,v3,v4,-⟩:=am.o w8 H9.o.cK;have a2:=aH H9.o aO (fj 10 (some ⟨bb,o,none⟩) 1 I.c I.u.A 1 I.u.c I.v.A 1 I.v.c I.g.A 4 I.g.c) 41
 go_upto_region 11 with (fail);generalize w8.alloc (.cells (fj 10 (some ⟨bb,o,none⟩) 1 I.c I.u.A 1 I.u.c I.v.A 1 I.v.c I.g.A 4 I.g.c) 41)=w9 at *
 generalize w8.heap.size=g11 at a2 ⊢;have bc:=aH a2 aO (ya 10 5 5 1) 3;have a6:=bc.kQ;obtain⟨z0,z1,z2,z3,z4,zf⟩:=fU a6;have bf:aI eR w6 (aj (av g11 (fj 10 (some ⟨bb,o,none⟩) 1 I.c I.u.A 1 I.u.c I.v.A 1 I.v.c (some ⟨w9.heap.size,0,none⟩) 4 4) 41) (aj (av w9.heap.size (ya 10 5 5 1) 3) (aj (av g10 (fj 11 (some ⟨bb,o,none⟩) 1 I.c I.u.A 1 I.u.c I.v.A 1 I.v.c I.g.A 4 I.g.c) 41) bG))) _:=aJ a6 aO 4 (.slice (some ⟨w9.heap.size,0,none⟩) 4 4);have M:=au bf;clear a2 bc a6 bf v0 v1 v2 v3 v4 H9;go_upto_region 12 with (fail);generalize (w9.alloc (.cells (ya 10 5 5 1) 3)).setCell ⟨g11,4,none⟩ (.slice (some ⟨w9.heap.size,0,none⟩) 4 4)=ao at *
 generalize w9.heap.size=gq at *
 clear z0 z1 z2 z3 z4 zf w8 w9;have J:=au (fe ao.heap.size ao);obtain⟨v0,v1,v2,v3,v4,-⟩:=am.o ao (aC M.o.cK J.o);obtain⟨r2,r3⟩:=az.o ao (aC M.o.cK J.o);have K:=au (ints_at (W:=ao) (l:=[5]) (c:=I.u.c) (a5.o ao (aC M.o.cK J.o)).1 eS)
 (try dsimp only[jz,lL] at K)
 go_wp2_with fail;refine K.o.mono ?_;rintro e9 aD ⟨rfl,hb⟩;have ak:=au (aC J.o hb);clear K hb J v0 v1 v2 v3 v4 r2 r3;have J:=ak;clear ak;dsimp only;obtain⟨v0,v1,v2,v3,v4,-⟩:=am.o aD (aC M.o.cK J.o);obtain⟨r2,r3⟩:=az.o aD (aC M.o.cK J.o);have K:=au (ints_at (W:=aD) (l:=[5]) (c:=I.v.c) (a5.o aD (aC M.o.cK J.o)).2.1 eS)
 (try dsimp only[jz,lL] at K)
 go_wp2_with fail;refine K.o.mono ?_;rintro e9 aA ⟨rfl,hb⟩;have ak:=au (aC J.o hb);clear K hb J v0 v1 v2 v3 v4 r2 r3;have J:=ak;clear ak;dsimp only;obtain⟨v0,v1,v2,v3,v4,-⟩:=am.o aA (aC M.o.cK J.o);obtain⟨r2,r3⟩:=az.o aA (aC M.o.cK J.o);have K:=au (ints_at (W:=aA) (l:=[10,5,5,0]) (c:=I.g.c) (a5.o aA (aC M.o.cK J.o)).2.2 eS)
 (try dsimp only[jz,lL] at K)
 go_wp2_with fail;refine K.o.mono ?_;rintro e9 ae ⟨rfl,hb⟩;have ak:=au (aC J.o hb);clear K hb J v0 v1 v2 v3 v4 r2 r3;have J:=ak;clear ak;dsimp only;obtain⟨v0,v1,v2,v3,v4,-⟩:=am.o ae (aC M.o.cK J.o);go_upto_region 13 with (fail);clear v0 v1 v2 v3 v4;have B6:=fun W (h:Below ae.heap.size ae W)=>(aC (aC M.o.cK J.o) h:Below w6.heap.size w6 W);have BS:=fun W (h:Below ae.heap.size ae W)=>aC ab.o (B6 W h);have B2:=fun W (h:Below ae.heap.size ae W)=>aC bm.o (B6 W h);have BN:=fun W (h:Below ae.heap.size ae W)=>aC J.o h;have HL:=a8.o;have ap:=fun W h=>HT.o.below (B2 W h);have ai:=fun W h=>a3.o W (BS W h);have S2:∀ W,Below ae.heap.size ae W->SR W { I with G:=[10,5,5,1],g:=⟨some ⟨gq,0,none⟩,4⟩ }:=fun W h=>by
  have g:=ai W h;obtain⟨_,f⟩:=(M.o.below aO (BN W h)).drop.fst;exact⟨g.ws,g.u,g.v,YN f⟩
 refine O1 (ta:=ta) (g1:=g1) (g2:=gS) (g6:=gU) (g10:=g10) (g11:=g11) (S:=I) (S1:={ I with b:=11 }) (S2:={ I with G:=[10,5,5,1],g:=⟨some ⟨gq,0,none⟩,4⟩ }) (U:=sU) eQ rfl eQ eQ rfl rfl rfl rfl rfl rfl
  (fun W h=>uT (HC.o W (B2 W h))) (fun W h=>zC (bh.o W (BS W h))) (fun W h=>zC ?_) (fun W h=>zC ?_) (fun W h=>zC (a7.o W (aC an.o (B6 W h))))
  (EG (a:=Ju) (b:=OU) ap (HZ.o.below (ag.o _ (B2 _ (fe _ _)))) ai ad.o rfl rfl eS eS eS eS ⟨fun _=>bp.o,fun _=>rfl⟩)
  (EG (a:=Ju) (b:=OU) ap (HZ.o.below (ag.o _ (B2 _ (fe _ _)))) (fun W h=>⟨(ai W h).ws,(ai W h).u,(ai W h).v,(ai W h).g⟩) ⟨ad.o.w0,ad.o.w1,ad.o.u0,ad.o.v0,ad.o.g0⟩ rfl rfl eS eS eS eS ⟨fun h=>(by cases h),fun h=>absurd h (G8 MR (show(10:Int)<11 by decide))⟩)
  (EG (a:=Ju) (b:=OU) ap (HZ.o.below (ag.o _ (B2 _ (fe _ _)))) S2 ⟨ad.o.w0,ad.o.w1,ad.o.u0,ad.o.v0,(show 4<=1000000 by decide)⟩ rfl rfl eS eS eS eS ⟨fun h=>(by cases h),fun h=>absurd h (Yo (show(0:Int)<Asn.lF [10,5,5,1] 3 by decide))⟩)
  (EG (a:=Hm) (b:=Hn) ap (HZ.o.below (ag.o _ (B2 _ (fe _ _)))) (fun W h=>bj.o W (aC an.o (B6 W h))) bo.o rfl rfl eS eS eS eS ⟨fun _=>a0.o.2.2,fun _=>rfl⟩)
  (EG (a:=Ju) (b:=Ju) ap (HZ.o.below (ag.o _ (B2 _ (fe _ _)))) ai ad.o rfl rfl eS eS eS eS ⟨fun h=>(by cases h),fun h=>absurd h (G8 aeG (show(0:Int)<I.b by rw[a1.o];decide))⟩) ?_
 ·obtain⟨_,f⟩:=(M.o.below aO (BN W h)).drop.drop.fst;unfold Fa;dsimp only;rw[HL.1,HL.2.1,HL.2.2.1,HL.2.2.2.1,HL.2.2.2.2];exact⟨ay f rfl,ay f rfl,ay f rfl,ay f rfl,ay f rfl⟩
 ·obtain⟨_,f⟩:=(M.o.below aO (BN W h)).fst;unfold Fa;dsimp only;rw[a1.o,HL.1,HL.2.1,HL.2.2.1,HL.2.2.2.2];exact⟨ay f rfl,ay f rfl,ay f rfl,ay f rfl,ay f rfl⟩
 ·intro vs W bi hb;have HE:=au (ag.o W (B2 W hb));clear B6 BS B2 BN HL ap ai S2;simp only[oU,Act.put,ja,iz,i6,Nat.reduceAdd];rw[bi]
  try dsimp only
  go_wp2;go_ret;exact aK rfl HE.o
structure Bv where
 n:aR
 A:eV
 c:Nat
def wZ(z:Bv):Value:=.agg (ff z.n.k z.A z.n.ws.length z.c)
variable{a:aR}
theorem aS(h:pW T a b=true):(∀ {w:World} {t:TA},vQ w T t->jV w T t)/\(T.rs.length<=60/\T.es.length<=60)/\(a.ws.length<=3/\b.ws.length<=3)/\(∀ s ∈ a.ws,s.length<=1000000)/\∀ s ∈ b.ws,s.length<=1000000:=by
 obtain⟨h1,M,h3,h4,J,h6⟩:=EB.1 h;rw[tP J] at h1;rw[tP h6] at M;exact⟨fun hT=>hT.Se h3,⟨(uo.1 h3).1.1,by omega⟩,⟨J,h6⟩,fun s I=>by have:=mo.1 (h1 s I);omega,fun s I=>by have:=mo.1 (M s I);omega⟩
theorem vM(h:bT w eR (YV s) W):SR W s:=by
 obtain⟨F,h1,-,-⟩:=h;exact My h1
theorem vN{bd er:Int}(h:bT w eR (YV s) W)(hm:iM T a b bd s.m er)(hr:T.rs.length<=60/\T.es.length<=60):Ul s:=by
 obtain⟨F,h1,-,-⟩:=h;exact Jv hm h1 hr.1 hr.2
open Go.ChangeShapes Go.WideShapes Go.ChangeAt Go.Deep Go.Shelf Go.Lib
theorem aem:CaseExtra Tryz.prog Tryz.uP:={ n13:=by kernel_rfl,y13:=by kernel_rfl,c21:=by kernel_rfl,c51:=by kernel_rfl,c206:=by kernel_rfl,c208:=by kernel_rfl }
theorem u8X:U8Extra Tryz.prog Tryz.uO:={ n3:=by kernel_rfl,n4:=by kernel_rfl,y3:=by kernel_rfl,y4:=by kernel_rfl,c5:=by kernel_rfl,c119:=by kernel_rfl,c138:=by kernel_rfl }
theorem adl:Lays.n274 Tryz.prog Tryz.uP:={ Tryz.aa3 with }
theorem adn:Lays.n260 Tryz.prog Tryz.uO:={ Tryz.aa2 with }
def QN:List (String × DataW Unit):=[("unicode/utf8.acceptRanges",Rows.laid_unicode_utf8_acceptRanges),("unicode.CaseRanges",Rows.laid_unicode_CaseRanges),("unicode/utf8.first",Rows.laid_unicode_utf8_first)]
variable{r:Reach}{b0:Nat}{ps:List MemPlace}
theorem GL(h:laidMetH Tryz.prog QN w)(hs:w.ShapedOpen Tryz.prog):LZ w:=by
 rw[MakeChecks.laidMetH_plain _ _ _ eQ] at h;have M:=laidMet.reads h (n:= "unicode/utf8.acceptRanges") (d:=Rows.laid_unicode_utf8_acceptRanges) (by simp[QN]);have I:=laidMet.reads h (n:= "unicode.CaseRanges") (d:=Rows.laid_unicode_CaseRanges) (by simp[QN]);have J:=laidMet.reads h (n:= "unicode/utf8.first") (d:=Rows.laid_unicode_utf8_first) (by simp[QN]);rw[show(Rows.laid_unicode_CaseRanges:DataW Unit)=caseData from Pinned.caseRanges_eq] at I;rw[show(Rows.laid_unicode_utf8_first:DataW Unit)=firstData from Pinned.utf8First_eq] at J;rw[show(Rows.laid_unicode_utf8_acceptRanges:DataW Unit)=acceptData by kernel_rfl] at M;exact⟨caseVar_of_reads adl eQ aem I,utf8Tabs_of_reads adn u8X J M,Go.Proofs.cell_of_shapedOpen_int (P:=Tryz.prog) (zero:=(fR 0)) (t:=3) hs (of_decide_eq_true eQ) eQ rfl eQ eQ Tryz.underlying3⟩
theorem fQ{H:Type}{enc:TypeId × Value->H}{a:Assume}{C:Checked}{os:Os}{f:FuncId}{fn:Func}{s:ChangeSpec}{ab:List PathCond}{apart fresh h J:Bool}{X:World->Array Value->Prop}(hX:∀ (w w':World) (args:Array Value),w.heap=w'.heap->X w args->X w' args)(own:ownKnob C.prog.godebug=none)(aa:os.Started)(ac:C.prog.inits.idxOf? f=none)(ai:C.prog.funcs[f]?=some fn)(M:∃ (w:World) (tape:Tape) (i:Input),w.os=os/\(w.forCall tape i).Shaped C.prog/\i.vars=[]/\Input.okWide C.prog (w.forCall tape i) .any w.heap.size f i /\
   ((s.pre enc C.prog fn ab apart (w.forCall tape i).memory i.args/\X (w.forCall tape i).memory i.args)/\sizedMet enc C.prog fn (OpenSpec.ofChange s) apart (w.forCall tape i).memory i.args)/\a.holds C.prog (lone (Frame.enter C.prog f i.args .normal) [] (w.forCall tape i)))(I:∀ (W:World) (base:Nat) (args:Array Value) (ds gs:List (DataW H)) (before:List MemPlace),
   (∀ (j:Nat) t v,fn.params[j]?=some t->args[j]?=some v->Value.okWide C.prog W .any base t v) ->
   DataW.Whole enc C.prog fn.params.toList s.vars apart W args.toList ds gs before ->
   X W args->W.ShapedOpen C.prog ->
   Calls C.prog f args W fun e W'=>∃ v,e=.returned v/\s.post enc C.prog fn apart fresh h J W args v W'):
  ReturnsInHanded a C os f .any (fun w args=>(s.pre enc C.prog fn ab apart w args/\X w args)/\sizedMet enc C.prog fn (OpenSpec.ofChange s) apart w args) (s.post enc C.prog fn apart fresh h J):=by
 refine returnsInHanded_of_calls own aa ac M ?_;intro w tape i _ al _ an af ag;obtain⟨_,_,_,ak,ad,_,_,_,_,ae⟩:=an;have e:ak=fn:=Option.some.inj (ad.symm.trans ai);subst e;obtain⟨⟨⟨ds,gs,before,hw,hc⟩,hx⟩,hz⟩:=af;have am:=DataW.Whole.of_heap (w':=w.forCall tape i) gh hw;refine(I (w.forCall tape i) w.heap.size i.args ds gs before ae am (hX _ _ _ gh hx) al).mono fun e W' ⟨v,he,hp⟩=>?_;subst he;exact ChangeSpec.post_blind hp
section
variable{H:Type}{enc:TypeId × Value→H}{w:World}{base:Nat}
instance:Inhabited im:=⟨⟨0,[],[],0⟩⟩
instance:Inhabited Drop:=⟨⟨0,[],0⟩⟩
theorem TJ:∀ m cs y,DataW.trod enc Tryz.prog w base (fun _=>true) true m 50 cs=some y->∃ R:im,cs=iq R/\True:=by
 intro m cs y h;obtain⟨hl,n,I⟩:=nD Tryz.underlying50 eQ eQ h;obtain⟨v0,z0,c0,t0⟩:=I 0 _ rfl;obtain⟨v1,z1,c1,t1⟩:=I 1 _ rfl;obtain⟨v2,z2,c2,t2⟩:=I 2 _ rfl;obtain⟨v3,z3,c3,t3⟩:=I 3 _ rfl;obtain⟨x0,M,-,-⟩:=nn Tryz.underlying3 t0;obtain⟨x1,f1,-⟩:=C0 Tryz.underlying9 t1;obtain⟨x2,J,-⟩:=C0 Tryz.underlying9 t2;obtain⟨x3,f3,-,-⟩:=nn Tryz.underlying3 t3;injection M with M
 injection f1 with f1
 injection J with J
 injection f3 with f3
 subst M f1 J f3;refine⟨⟨x0,bl x1,bl x2,x3⟩,?_,trivial⟩;have hl:cs.length=4:=hl
 match cs,hl with
 | [a,b,c,d],_=>
  simp at c0 c1 c2 c3;subst c0 c1 c2 c3;unfold iq;rw[tJ,tJ]
theorem TK:∀ m cs y,DataW.trod enc Tryz.prog w base (fun _=>true) true m 108 cs=some y->∃ d:Drop,cs=zP d/\True:=by
 intro m cs y h;obtain⟨M,n,hf⟩:=nD Tryz.underlying108 eQ eQ h;obtain⟨v0,z0,c0,t0⟩:=hf 0 _ rfl;obtain⟨v1,z1,c1,t1⟩:=hf 1 _ rfl;obtain⟨v2,z2,c2,t2⟩:=hf 2 _ rfl;obtain⟨x0,J,-,-⟩:=nn Tryz.underlying3 t0;obtain⟨x1,f1,-⟩:=C0 Tryz.underlying9 t1;obtain⟨x2,I,-,-⟩:=nn Tryz.underlying3 t2;injection J with J
 injection f1 with f1
 injection I with I
 subst J f1 I;refine⟨⟨x0,bl x1,x2⟩,?_,trivial⟩;have M:cs.length=3:=M
 match cs,M with
 | [a,b,c],_=>
  simp at c0 c1 c2;subst c0 c1 c2;unfold zP;rw[tJ]
theorem slice_form{m:Nat}{y:DataW H × List MemPlace}(M:Tryz.prog.underlying t=some (.slice e))(h:DataW.trod enc Tryz.prog w 0 (fun _=>true) true m t [v]=some y):∃ A n c,v=.slice A n c:=by
 rcases open_slice M h with⟨J,_⟩|⟨a,len,cap,_,_,_,_,I,_⟩
 ·injection J with J
  exact⟨none,0,0,J⟩
 ·injection I with I
  exact⟨some a,len,cap,I⟩
theorem Oy{m:Nat}{y:DataW H × List MemPlace}(h:DataW.trod enc Tryz.prog w 0 (fun _=>true) true m 22 [v]=some y):
  ∃ (A:eV) (c:Nat) (l:List im),v=.slice A l.length c/\l8 w A l/\l.length<=c:=by
 obtain⟨A,n,c,rfl⟩:=slice_form Tryz.underlying22 h;obtain⟨xs,J,M,h3,h4,h5⟩:=o8 (P:=Tryz.prog) (t:=22) (e:=50) (A:=A) (n:=n) (c:=c) (d:=y.1) (ps:=y.2) (size:=4) iq (fun _=>True) Tryz.underlying22 eQ eS TJ (fun R _ u I=>by simp[iq] at I;rcases I with rfl|rfl|rfl|rfl<;>rfl) ⟨m,by simpa[Value.cells] using h⟩;subst J;exact⟨A,c,xs,rfl,M,h4⟩
theorem D5{m:Nat}{y:DataW H × List MemPlace}(h:DataW.trod enc Tryz.prog w 0 (fun _=>true) true m 23 [v]=some y):
  ∃ (A:eV) (c:Nat) (l:List Drop),v=.slice A l.length c/\nP w A l/\l.length<=c:=by
 obtain⟨A,n,c,rfl⟩:=slice_form Tryz.underlying23 h;obtain⟨xs,J,M,h3,h4,h5⟩:=o8 (P:=Tryz.prog) (t:=23) (e:=108) (A:=A) (n:=n) (c:=c) (d:=y.1) (ps:=y.2) (size:=3) zP (fun _=>True) Tryz.underlying23 eQ eS TK (fun R _ u I=>by simp[zP] at I;rcases I with rfl|rfl|rfl<;>rfl) ⟨m,by simpa[Value.cells] using h⟩;subst J;exact⟨A,c,xs,rfl,M,h4⟩
theorem ae1{cs:List Value}(h:cs.length=6):∃ a b c d e f,cs=[a,b,c,d,e,f]:=by
 match cs,h with
 | [a,b,c,d,e,f],_=>exact⟨a,b,c,d,e,f,rfl⟩
structure TZ where
 T:eW
 a:TA
def Oz(w:World)(z:TZ):Prop:=vQ w z.T z.a/\z.T.rs.length<=z.a.c
theorem Ak{d:DataW H}(ao:Value.okWide Tryz.prog w r b0 25 v)(h:DataW.Trod enc Tryz.prog w 0 (fun _=>true) true 25 v d ps):∃ z:TZ,v=dI z.T z.a/\Oz w z:=by
 obtain⟨cs,rfl,aq⟩:=okWide_struct Tryz.underlying25 ao;obtain⟨m,hm⟩:=h;obtain⟨xs,n,_,_,hl,ai,hf⟩:=Gk Tryz.underlying25 hm;have ak:=hl.trans (by kernel_rfl:_=6);obtain⟨a0,J,a2,a3,I,M,ha⟩:=ae1 ak;have ap:xs.length=6:=ai;have ex:∀ i (hi:i<6),xs[i]?=some (xs[i]'eL):=fun i hi=>ic eL;have s3:Tryz.prog.cellsOf 3=1:=by kernel_rfl
 have al:Tryz.prog.cellsOf 22=1:=by kernel_rfl
 have am:Tryz.prog.cellsOf 23=1:=by kernel_rfl
 have t0:=(hf 0 _ rfl).trans (ex 0 eL);have t1:=(hf 1 _ rfl).trans (ex 1 eL);have t2:=(hf 2 _ rfl).trans (ex 2 eL);have t3:=(hf 3 _ rfl).trans (ex 3 eL);have t4:=(hf 4 _ rfl).trans (ex 4 eL);have t5:=(hf 5 _ rfl).trans (ex 5 eL);rw[ha] at t0 t1 t2 t3 t4 t5;have ad:DataW.trod enc Tryz.prog w 0 (fun _=>true) true n 22 (([a0,J,a2,a3,I,M].drop 0).take (Tryz.prog.cellsOf 22))=some (xs[0]'eL):=t0;have ab:DataW.trod enc Tryz.prog w 0 (fun _=>true) true n 23 (([a0,J,a2,a3,I,M].drop 1).take (Tryz.prog.cellsOf 23))=some (xs[1]'eL):=t1;have ag:DataW.trod enc Tryz.prog w 0 (fun _=>true) true n 23 (([a0,J,a2,a3,I,M].drop 2).take (Tryz.prog.cellsOf 23))=some (xs[2]'eL):=t2;have aa:DataW.trod enc Tryz.prog w 0 (fun _=>true) true n 3 (([a0,J,a2,a3,I,M].drop 3).take (Tryz.prog.cellsOf 3))=some (xs[3]'eL):=t3;have af:DataW.trod enc Tryz.prog w 0 (fun _=>true) true n 3 (([a0,J,a2,a3,I,M].drop 4).take (Tryz.prog.cellsOf 3))=some (xs[4]'eL):=t4;have ae:DataW.trod enc Tryz.prog w 0 (fun _=>true) true n 3 (([a0,J,a2,a3,I,M].drop 5).take (Tryz.prog.cellsOf 3))=some (xs[5]'eL):=t5;simp only[s3,al,am,List.drop,List.take] at ad ab ag aa af ae;obtain⟨A,ac,rs,f0,k0,an⟩:=Oy ad;obtain⟨D,dc,ds,f1,k1,-⟩:=D5 ab;obtain⟨E,ec,es,f2,k2,-⟩:=D5 ag;obtain⟨x3,f3,-,-⟩:=nn Tryz.underlying3 aa;obtain⟨x4,f4,-,-⟩:=nn Tryz.underlying3 af;obtain⟨x5,f5,-,-⟩:=nn Tryz.underlying3 ae;injection f3 with f3
 injection f4 with f4
 injection f5 with f5
 subst f0 f1 f2 f3 f4 f5;refine⟨⟨⟨rs,ds,es,x3,x4,x5⟩,⟨A,ac,D,dc,E,ec⟩⟩,?_,⟨k0,k1,k2⟩,an⟩;have:cs=(fh A rs.length ac D ds.length dc E es.length ec x3 x4 x5):=by
  apply Array.toList_inj.1;simpa[Value.cells] using ha
 rw[this];rfl
theorem Xo(l:List Bs):(l.map bs).flatMap (fun x:ByteArray=>[Value.string x])=kN l:=by
 induction l with
 | nil=>rfl
 | cons a l ih=>
  rw[lk,mS,ih];rfl
theorem Xp:∀ m cs y,DataW.trod enc Tryz.prog w 0 (fun _=>true) true m 9 cs=some y->∃ x:ByteArray,cs=[.string x]/\True:=by
 intro m cs y h;obtain⟨s,h1,_⟩:=C0 Tryz.underlying9 h;exact⟨s,h1,trivial⟩
theorem ado(l:List ByteArray):(l.map bl).map bs=l:=by
 rw[qu];have:(bs ∘ bl)=id:=by funext x;exact tJ x
 rw[this,Be]
theorem OA{m:Nat}{y:DataW H × List MemPlace}(h:DataW.trod enc Tryz.prog w 0 (fun _=>true) true m 26 [v]=some y):
  ∃ (A:eV) (c:Nat) (l:List Bs),v=.slice A l.length c/\fu w A l:=by
 obtain⟨A,n,c,rfl⟩:=slice_form Tryz.underlying26 h;obtain⟨xs,J,M,h3,h4,h5⟩:=o8 (P:=Tryz.prog) (t:=26) (e:=9) (A:=A) (n:=n) (c:=c) (d:=y.1) (ps:=y.2) (size:=1) (fun x:ByteArray=>[Value.string x]) (fun _=>True) Tryz.underlying26 eQ eS Xp (fun x _ u I=>by simp at I;subst I;rfl) ⟨m,by simpa[Value.cells] using h⟩;subst J;refine⟨A,c,xs.map bl,by rw[fY],?_⟩;unfold fu;rw[fY,<-Xo,ado];exact M
theorem aen{cs:List Value}(h:cs.length=2):∃ a b,cs=[a,b]:=by
 match cs,h with
 | [a,b],_=>exact⟨a,b,rfl⟩
theorem nV{d:DataW H}(ab:Value.okWide Tryz.prog w r b0 28 v)(h:DataW.Trod enc Tryz.prog w 0 (fun _=>true) true 28 v d ps):∃ z:Bv,v=wZ z/\fu w z.A z.n.ws:=by
 obtain⟨cs,rfl,ae⟩:=okWide_struct Tryz.underlying28 ab;obtain⟨m,hm⟩:=h;obtain⟨xs,n,_,_,hl,M,hf⟩:=Gk Tryz.underlying28 hm;have aa:=hl.trans (by kernel_rfl:_=2);obtain⟨a0,a1,ha⟩:=aen aa;have ad:xs.length=2:=M;have e0:xs[0]?=some (xs[0]'eL):=ic eL;have e1:xs[1]?=some (xs[1]'eL):=ic eL;have s3:Tryz.prog.cellsOf 3=1:=by kernel_rfl
 have ac:Tryz.prog.cellsOf 26=1:=by kernel_rfl
 have t0:=(hf 0 _ rfl).trans e0;have t1:=(hf 1 _ rfl).trans e1;rw[ha] at t0 t1;have J:DataW.trod enc Tryz.prog w 0 (fun _=>true) true n 3 (([a0,a1].drop 0).take (Tryz.prog.cellsOf 3))=some (xs[0]'eL):=t0;have I:DataW.trod enc Tryz.prog w 0 (fun _=>true) true n 26 (([a0,a1].drop 1).take (Tryz.prog.cellsOf 26))=some (xs[1]'eL):=t1;simp only[s3,ac,List.drop,List.take] at J I;obtain⟨x0,f0,-,g0⟩:=nn Tryz.underlying3 J;injection f0 with f0
 obtain⟨A,c,l,f1,k1⟩:=OA I;subst f0 f1;refine⟨⟨⟨x0,l⟩,A,c⟩,?_,k1⟩;have:cs=(ff x0 A l.length c):=by
  apply Array.toList_inj.1;simpa[Value.cells] using ha
 rw[this];rfl
end
end Go.Proofs.YtbioiclabmbedaaGreatDoor
