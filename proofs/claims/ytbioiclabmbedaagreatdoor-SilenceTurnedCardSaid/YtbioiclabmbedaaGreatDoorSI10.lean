/- A part of the proof: lemmas. -/
import Derived.Test.YtbioiclabmbedaaGreatDoorSI9
import Derived.Test.YtbioiclabmbedaaGreatDoorRows
import Derived.PinnedBridge
import Derived.HandedShaped
import Derived.LaidMore
import Derived.Lay
import Derived.SevenTiedAt
import Derived.OpenShut
import Derived.ShutString
set_option maxHeartbeats 16000000
set_option maxRecDepth 100000
set_option linter.all false
namespace Go.Proofs.YtbioiclabmbedaaGreatDoor
open Go.CH Go.CH.Scr Go.CH.dh Go.CH.Mtc Go.CH.Sil
open Asn (kB nZ oV mR cF lF wi)
def iq:eW:=⟨[⟨1,[97],[97],0⟩,⟨1,[98],[98],0⟩],[],[],5,1,2⟩
def Jh:aQ:=⟨1,[[97]]⟩
def OD:aQ:=⟨1,[[98]]⟩
def Ha:aQ:=⟨1,[[97],[98]]⟩
def Hb:aQ:=⟨1,[[98],[97]]⟩
def MB (a b:aQ) (c:Int):Bool:=nK iq a b&&decide ((fJ iq a b).c=c)
variable {a b:aQ}{c bd e:Int}{s:Sl}
theorem uL   (h:MB a b c=true):nK iq a b=true/\(fJ iq a b).c=c:=by
 unfold MB at h;rw[gA,decide_eq_true_eq] at h;exact h
theorem MC:MB Jh OD 10=true:=by decide +kernel
theorem S5:MB Ha Hb 1=true:=by decide +kernel
theorem aej:MB Jh Jh 0=true:=by decide +kernel
theorem S6:cM iq Jh OD 0 0=100000:=by decide +kernel
theorem aek:(eU iq 1 [97] 1 [98]).length=3:=by decide +kernel
theorem ael:hL iq Jh OD 10=[[10]]:=by
 have e:hM iq Jh OD 10 0 0=10:=by rw[FY (uL MC).1 eS eS eS,S6];decide
 show [[hM iq Jh OD 10 0 0]]=[[10]]
 rw[e]
theorem aa8:(pR [[10]] [5] [5]).us=[5]/\(pR [[10]] [5] [5]).vs=[5]/\oV [[10]] [5] [5]=[10,5,5,0]:=by decide +kernel
theorem aeN:dL iq Jh=[5]:=by decide
theorem aeO:dL iq OD=[5]:=by decide
theorem Q0   (h:MB a b c=true) (h0:0<=bd) (h1:bd<=100000) (h2:c<bd)   (hs:iJ iq a b bd s e):e=11:=by
 obtain⟨k1,k2⟩:=uL h;cases hs with
 | arg g=>rw[k1] at g;rcases g with g|g|g;cases g;all_goals omega
 | none=>rfl
 | some g1 g2 g3 g4=>omega
theorem ME   (h:MB a b c=true) (h0:0<=bd) (h1:bd<=100000) (h2:bd<=c)   (I:iJ iq a b bd s e) :
  e=0/\s.ws.length=a.ws.length*b.ws.length/\fG iq a b s:=by
 obtain⟨M,k2⟩:=uL h;have:e=0:=by
  cases I with
  | arg g=>rw[M] at g;rcases g with g|g|g;cases g;all_goals omega
  | none g1 g2 g3 g4=>omega
  | some=>rfl
 have J:=(yh I this).2.1;exact⟨this,J.len,J⟩
theorem GJ   (h:MB a b c=true)  (hb:c<s.b):¬ fG iq a b s:=fun hs=>by
 have:=NI hs;rw[(uL h).2] at this;omega
theorem X5   (hG:0<lF s.G (s.G.length-1)):¬ fG iq a b s:=fun hs=>by
 obtain⟨x,y,-,h2,-⟩:=hs.fin;rw[Asn.IL] at h2
 ·injection h2 with h2 h3;cases h3
 ·unfold Asn.yJ;rw[B7];exact .inr (decide_eq_false eL)
theorem adj   (J:iJ iq Jh OD 10 s e):(e=0/\s.b=10/\s.U=[5]/\s.V=[5]/\s.G=[10,5,5,0])/\(∃ z,s.ws=[z]/\z.h=10/\z.ps.length=3)/\fG iq Jh OD s:=by
 obtain⟨M,I,h3⟩:=ME MC eS eS eS J;refine⟨?_,?_,h3⟩
 ·cases J with
  | arg g=>cases M
  | none=>cases M
  | some g1 g2 g3 g4 ws hl hw=>
   rw[ael,aeN,aeO];exact⟨rfl,rfl,aa8⟩
 ·obtain⟨z,hz⟩:∃ z,s.ws=[z]:=List.length_eq_one_iff.1 I;have h4:=(yh J M).2.2 0 (by rw[I];decide);have e0:s.ws[0]'(by rw[I];decide)=z:=by simp[hz]
  rw[e0] at h4;refine⟨z,hz,?_,?_⟩
  ·rw[h4.rh]
   show hM iq Jh OD 10 0 0=10
   rw[FY (uL MC).1 eS eS eS,S6];decide
  ·rw[h4.len];exact aek
open Go.RowKit
variable {w:World}{T:eW}{k:Int}{e:TypeId}{n c:Nat}{A:eV}{xs:List Value}{F:Nat->Prop}
theorem qZ  {size:Nat}:Src w none 0 size []:=⟨by simp,fun u hu=>(by cases hu),fun h=>absurd h (mn _)⟩
theorem lJ   {x:Bs}:(eX T k x).length<=1+T.es.length:=by
 unfold eX;rw[j7];have:=yz (j3 k (bP k x)) T.es.zipIdx;rw[xv] at this;omega
theorem X6 {α β:Type} {f:α->List β} {n:Nat} (h:∀ x,(f x).length=n):∀ l:List α,(l.flatMap f).length=l.length*n
 | []=>by simp
 | x::l=>by rw[mN,gd,h,X6 h l,j7,li];omega
theorem X7  {k2:Int} {x y:Bs} (h:T.es.length<=60):(eU T k x k2 y).length<=4000:=by
 have h1:=lJ (T:=T) (k:=k) (x:=x);have M:=lJ (T:=T) (k:=k2) (x:=y);unfold eU rZ pU;rw[gd,gd,X6 (n:=(eX T k2 y).length) (fun u=>by rw[gh])];have h3:(eX T k x).length*(eX T k2 y).length<=61*61:=tv eL eL;have I:∀ (p:Prop) [Decidable p] (z:Wy),(if p then [z] else []).length<=1:=fun p _ z=>by split<;>simp
 have J:=I ((raw k x).length=1) ⟨2,-1,-1,T.ini,x,ic (raw k2 y)⟩;have h6:=I ((raw k2 y).length=1) ⟨3,-1,-1,T.ini,ic (raw k x),y⟩;omega
theorem X8  {size:Nat}     (h:aV e size (.slice A n c) n xs w F):n<=c:=by
 exact(u6 h.1).1
theorem Q5 {α:Type} {O:α->CH.aT} {w:World}:∀ {l:List α} {F:Nat->Prop},aL (l.map O) w F->∀ x ∈ l,∃ F',O x w F'
 | [],_,_,x,hx=>by cases hx
 | y::l,F,hb,x,hx=>by
  obtain⟨F1,F2,h1,h2,-,-⟩:=hb;rcases List.mem_cons.1 hx with rfl|hx
  ·exact⟨_,h1⟩
  ·exact Q5 h2 x hx
theorem Ji  {a b:aQ} {bd er:Int} {s:SL}   (h:iJ T a b bd s.m er) (hO:Yx s w F) (hr:T.rs.length<=60) (he:T.es.length<=60):XZ s:=by
 by_cases h0:er=0
 ·obtain⟨-,hk,hw⟩:=yh h h0;obtain⟨hv,ha,hb⟩:=dW.1 hk.ok;have ae:=(aZ.1 ha).2.2;have ad:=(aZ.1 hb).2.2;have hl:s.ws.length=a.ws.length*b.ws.length:=by rw[<-hk.len];show _=(s.ws.map WL.m).length;rw[gh]
  have ai:a.ws.length*b.ws.length<=6*6:=tv ae ad;obtain⟨x,y,h1,h2,-⟩:=hk.fin;have hU:s.U.length=a.ws.length/\s.V.length=b.ws.length:=by
   have:=Asn.WK h1;obtain⟨-,g1,g2,-⟩:=this;rw[jm] at g1 g2;exact⟨g1,g2⟩
  have hG:s.G.length=(a.ws.length+1)*(b.ws.length+1):=by
   cases hg:Asn.yJ (sL s.m a b) (dL T a) (dL T b) s.m.G with
   | false=>rw[Asn.IL hg] at h2;injection h2 with _ h2;cases h2
   | true=>
    unfold Asn.yJ at hg;simp only[gA,decide_eq_true_eq] at hg;have:=hg.1.1.2;rw[jm,jm] at this;exact this
  have ag:(a.ws.length+1)*(b.ws.length+1)<=7*7:=tv eL eL;refine⟨by omega,fun e M=>?_,by omega,by omega,by omega⟩;obtain⟨F1,_,g1,-,-,-⟩:=hO;obtain⟨_,_,-,g2,-,-⟩:=g1;obtain⟨F3,_,_,g3,-,-,-⟩:=Q5 g2 e M;have aa:=X8 g3;obtain⟨k,af,rfl⟩:=zp M;have ac:k<s.m.ws.length:=by show k<(s.ws.map WL.m).length;rw[gh];exact af
  have I:=hw k ac;have e1:s.m.ws[k]=s.ws[k].m:=mA ..;rw[e1] at I;have ak:s.ws[k].ps.length<=4000:=by
   have:=I.len;have J:s.ws[k].m.ps.length=s.ws[k].ps.length:=gh ..;rw[<-J,this];exact X7 he
  refine⟨aa,by omega,fun x hx=>?_⟩;obtain⟨m,hm,rfl⟩:=zp hx;have J:s.ws[k].m.ps.length=s.ws[k].ps.length:=gh ..;have hp:=I.ps m (by rw[<-I.len,J];exact hm) (by rw[J];exact hm);have e3:s.ws[k].m.ps[m]'(by rw[J];exact hm)=s.ws[k].ps[m].p:=mA ..;rw[e3] at hp;obtain⟨-,-,-,-,e9,ab⟩:=hp;exact Vx ab hr
 ·have hn:s.m=we:=by
   generalize s.m=m at h;cases h with
   | arg=>rfl
   | none=>rfl
   | some=>exact absurd rfl h0
  have k1:s.ws=[]:=by have:s.ws.map WL.m=[]:=congrArg Sl.ws hn;simpa using this
  have k2:s.U=[]:=congrArg Sl.U hn;have k3:s.V=[]:=congrArg Sl.V hn;have k4:s.G=[]:=congrArg Sl.G hn;exact⟨by rw[k1];simp,(fun e he=>by rw[k1] at he;cases he),by rw[k2];simp,by rw[k3];simp,by rw[k4];simp⟩
open Go.ChangeMaps (setBlock)
def rU (T:eW) (a b:aQ):Bool:=(a.ws.take 3).all dB&&((b.ws.take 3).all dB&&(Bo T []&&(decide (T.es.length<=6)&&(decide (a.ws.length<=3)&&decide (b.ws.length<=3)))))
variable {k:Nat}
theorem En  :rU T a b=true↔(∀ s ∈ a.ws.take 3,dB s=true)/\(∀ s ∈ b.ws.take 3,dB s=true)/\Bo T []=true/\T.es.length<=6/\a.ws.length<=3/\b.ws.length<=3:=by
 unfold rU;simp only[gA,decide_eq_true_eq,j8]
theorem y8 {α:Type} {l:List α}  (h:k=min l.length 3):l.take 3=l.take k:=by
 subst h;by_cases h:l.length<=3
 ·rw[GF h,ky,tE h]
 ·rw[Nat.min_eq_right eL]
theorem GL {α:Type} {l:List α}  (hk:k<l.length) (h3:k<3):l[k] ∈ l.take 3:=by
 have h:k<(l.take 3).length:=by rw[kt];omega
 have e:(l.take 3)[k]=l[k]:=zz;rw[<-e];exact gv h
theorem ru   {t:TA}  {An Bn:eV} {ca cb:Nat} (hT:wC w T t) (hA:fB w An a.ws) (hB:fB w Bn b.ws) :
  Calls Tryz.prog 11 #[dV T t,vI a An ca,vI b Bn cb] w (aS w (.bool (rU T a b))):=by
 have h1:=aH (aI.begin w) aO (dR T t) 25;have h2:=aH h1 aO (fh a.k An a.ws.length ca) 28;have h3:=aH h2 aO (fh b.k Bn b.ws.length cb) 28;simp only[im] at h3;have HB:=au h3.cZ
 have HC:=au (fun W (h:Below (((w.alloc (.cells (dR T t) 25)).alloc (.cells (fh a.k An a.ws.length ca) 28)).alloc (.cells (fh b.k Bn b.ws.length cb) 28)).heap.size (((w.alloc (.cells (dR T t) 25)).alloc (.cells (fh a.k An a.ws.length ca) 28)).alloc (.cells (fh b.k Bn b.ws.length cb) 28)) W)=>(show W.cell? ⟨w.heap.size,0,none⟩=some (.slice t.A T.rs.length t.c)/\W.cell? ⟨w.heap.size,1,none⟩=some (.slice t.D T.ds.length t.d)/\W.cell? ⟨w.heap.size,2,none⟩=some (.slice t.E T.es.length t.e)/\W.cell? ⟨w.heap.size,3,none⟩=some (.int .i64 T.drop)/\W.cell? ⟨w.heap.size,4,none⟩=some (.int .i64 T.ord)/\W.cell? ⟨w.heap.size,5,none⟩=some (.int .i64 T.ini)/\W.cell? ⟨w.heap.size+1,1,none⟩=some (.slice An a.ws.length ca)/\W.cell? ⟨w.heap.size+1+1,1,none⟩=some (.slice Bn b.ws.length cb) from by
  have h4:=h3.below aO h;obtain⟨_,f1⟩:=h4.drop.drop.fst;obtain⟨_,f2⟩:=h4.drop.fst;obtain⟨_,f3⟩:=h4.fst
  exact⟨ay f1 rfl,ay f1 rfl,ay f1 rfl,ay f1 rfl,ay f1 rfl,ay f1 rfl,ay f2 rfl,ay f3 rfl⟩))
 have KF:=au (fun W (hb:Below w.heap.size w W)=>J6 (B:=none) (C:=[]) (c:=0) (hT.below hb) qZ);have KS:=au (fun s W=>FJ s W);have HA:=au hA;have HV:=au hB;clear hT hA hB h1 h2 h3;unfold dV vI at *
 unfold dR at *
 generalize T.rs.length=n1 at *
 generalize T.ds.length=n2 at *
 generalize ao:T.es.length=n3 at *
 generalize ag:a.ws.length=na at *
 generalize ai:b.ws.length=nb at *
 obtain⟨r,hr⟩:∃ r,r=rU T a b:=⟨_,rfl⟩;rw[<-hr];have HR:=au hr
 have J:=au (show ¬ ((∀ s ∈ a.ws.take 3,dB s=true)/\(∀ s ∈ b.ws.take 3,dB s=true)/\Bo T []=true/\n3<=6/\na<=3/\nb<=3)->r=false from fun h=>by
  rw[hr,rk];intro h2;rw[En,ao,ag,ai] at h2
  exact h h2)
 have I:=au (show((∀ s ∈ a.ws.take 3,dB s=true)/\(∀ s ∈ b.ws.take 3,dB s=true)/\Bo T []=true/\n3<=6/\na<=3/\nb<=3)->r=true from fun h=>by
  rw[hr,En,ao,ag,ai]
  exact h)
 have an:=au ag;have am:=au ai;clear hr ao ag ai
 go_enter Tryz.func11,Tryz.ntmps11
 go_upto_region 1 with (fail);generalize ((w.alloc (.cells (fN t.A n1 t.c t.D n2 t.d t.E n3 t.e T.drop T.ord T.ini) 25)).alloc (.cells (fh a.k An na ca) 28)).alloc (.cells (fh b.k Bn nb cb) 28)=w1 at *
 generalize w.heap.size=gt at HC ⊢;obtain⟨t0,t1,t2,t3,t4,t5,a1,b1⟩:=HC.o w1 (fe _ _);rename_i K2 ar K1 a0;have nW:(∀ s ∈ a.ws.take 3,dB s=true)->∀ x6 x7 x9 x10 x11 x12 x13 x14 x15 x16 x17 x18 x19 x20 x21 x22 x23 x24 x25 x26:Value,K2 { tmps:=#[.agg (fN t.A n1 t.c t.D n2 t.d t.E n3 t.e T.drop T.ord T.ini),.agg (fh a.k An na ca),.agg (fh b.k Bn nb cb),.pointer (some ⟨gt,0,none⟩),.pointer (some ⟨gt+1,0,none⟩),.pointer (some ⟨gt+1+1,0,none⟩),x6,x7,undef,x9,x10,x11,x12,x13,x14,x15,x16,x17,x18,x19,x20,x21,x22,x23,x24,x25,x26,undef,undef,undef,undef,undef,undef,undef,undef,undef,undef,undef,undef,undef,undef,undef,undef,undef,undef,undef,undef,undef,undef,undef,undef,undef,undef,undef,undef,undef,undef,undef,undef,undef,undef,undef,undef,undef,undef],defers:=[] } w1:=by
  intro h1 x6 x7 x9 x10 x11 x12 x13 x14 x15 x16 x17 x18 x19 x20 x21 x22 x23 x24 x25 x26;refine ar _ _ ?_;go_upto_region 6 with (fail);rename_i K3 aq K4 aE;have ap:(∀ s ∈ b.ws.take 3,dB s=true)->∀ x6 x7 x8 x9 x10 x11 x12 x13 x14 x15 x16 x17 x18 x19 x20 x21 x22 x23 x24 x25 x26 x27 x28 x29 x30 x31 x32 x33 x34 x35 x36 x37 x38 x39 x40 x41 x42 x43 x44:Value,K3 { tmps:=#[.agg (fN t.A n1 t.c t.D n2 t.d t.E n3 t.e T.drop T.ord T.ini),.agg (fh a.k An na ca),.agg (fh b.k Bn nb cb),.pointer (some ⟨gt,0,none⟩),.pointer (some ⟨gt+1,0,none⟩),.pointer (some ⟨gt+1+1,0,none⟩),x6,x7,x8,x9,x10,x11,x12,x13,x14,x15,x16,x17,x18,x19,x20,x21,x22,x23,x24,x25,x26,x27,x28,x29,x30,x31,x32,x33,x34,x35,x36,x37,x38,x39,x40,x41,x42,x43,x44,undef,undef,undef,undef,undef,undef,undef,undef,undef,undef,undef,undef,undef,undef,undef,undef,undef,undef,undef,undef],defers:=[] } w1:=by
   intro h2 x6 x7 x8 x9 x10 x11 x12 x13 x14 x15 x16 x17 x18 x19 x20 x21 x22 x23 x24 x25 x26 x27 x28 x29 x30 x31 x32 x33 x34 x35 x36 x37 x38 x39 x40 x41 x42 x43 x44;refine aq _ _ ?_;have K:=au (KF.o w1 HB.o);cases hf:Bo T [] with
   | false=>
    rw[hf] at K;have HF:=au (J.o (fun h=>by rw[h.2.2.1] at hf;cases hf));clear hf;clear J I HR;go_wp2_with fail;refine K.o.mono ?_;rintro e9 w9 ⟨rfl,hw⟩;have HE:=au (HB.o.trans (hw.mono HB.o.size));have aa:=au (HC.o w9 hw);clear K hw t0 t1 t2 t3 t4 t5 a1 b1;obtain⟨t0,t1,t2,t3,t4,t5,a1,b1⟩:=aa.o;dsimp only;go_wp2;go_ret;exact aK HF.o HE.o
   | true=>
    rw[hf] at K;by_cases h6:n3<=6
    ·have aA:(n3:Int)<=6:=by omega
     by_cases ha:na<=3
     ·have az:(na:Int)<=3:=by omega
      by_cases hb:nb<=3
      ·have aD:(nb:Int)<=3:=by omega
       have HF:=au (I.o ⟨h1,h2,hf,h6,ha,hb⟩);clear hf;clear J I HR;go_wp2_with fail;refine K.o.mono ?_;rintro e9 w9 ⟨rfl,hw⟩;have HE:=au (HB.o.trans (hw.mono HB.o.size));have aa:=au (HC.o w9 hw);clear K hw t0 t1 t2 t3 t4 t5 a1 b1;obtain⟨t0,t1,t2,t3,t4,t5,a1,b1⟩:=aa.o;dsimp only;go_wp2;go_ret;exact aK HF.o HE.o
      ·have aD:¬ (nb:Int)<=3:=by omega
       have HF:=au (J.o (fun h=>hb h.2.2.2.2.2));clear hf;clear J I HR;go_wp2_with fail;refine K.o.mono ?_;rintro e9 w9 ⟨rfl,hw⟩;have HE:=au (HB.o.trans (hw.mono HB.o.size));have aa:=au (HC.o w9 hw);clear K hw t0 t1 t2 t3 t4 t5 a1 b1;obtain⟨t0,t1,t2,t3,t4,t5,a1,b1⟩:=aa.o;dsimp only;go_wp2;go_ret;exact aK (HF.o.trans (decide_eq_false eL).symm) HE.o
     ·have az:¬ (na:Int)<=3:=by omega
      have HF:=au (J.o (fun h=>ha h.2.2.2.2.1));clear hf;clear J I HR;go_wp2_with fail;refine K.o.mono ?_;rintro e9 w9 ⟨rfl,hw⟩;have HE:=au (HB.o.trans (hw.mono HB.o.size));have aa:=au (HC.o w9 hw);clear K hw t0 t1 t2 t3 t4 t5 a1 b1;obtain⟨t0,t1,t2,t3,t4,t5,a1,b1⟩:=aa.o;dsimp only;go_wp2;go_ret;exact aK HF.o HE.o
    ·have aA:¬ (n3:Int)<=6:=by omega
     have HF:=au (J.o (fun h=>h6 h.2.2.2.1));clear hf;clear J I HR;go_wp2_with fail;refine K.o.mono ?_;rintro e9 w9 ⟨rfl,hw⟩;have HE:=au (HB.o.trans (hw.mono HB.o.size));have aa:=au (HC.o w9 hw);clear K hw t0 t1 t2 t3 t4 t5 a1 b1;obtain⟨t0,t1,t2,t3,t4,t5,a1,b1⟩:=aa.o;dsimp only;go_wp2;go_ret;exact aK HF.o HE.o
  clear aq
  go_wp2_with fail
  go_loop [8] (fun i=>∃ k:Nat,k<=min nb 3/\i=.int .i64 k/\∀ s ∈ b.ws.take k,dB s=true) (fun i=>3-(intOf i).toNat)
  case atStart=>exact⟨0,fw _,rfl,by simp⟩
  case round=>
   obtain⟨k,hk,rfl,ab⟩:=hrel;have HL:=au ab;clear ab;by_cases ae:k<nb
   ·by_cases h3:k<3
    ·have ad:k<b.ws.length:=by rw[am.o];exact ae
     have al:(k:Int)<3:=by omega
     have af:=au h3;have ax:(k:Int)<1000001:=by omega
     obtain⟨bb,o,rfl,hc⟩:=fB.at HV.o eL;have r0:=hc w1 HB.o k ad;have ac:=au (fun h=>mY (p:=dB) ad HL.o h);have M:=au (show dB b.ws[k]=false->r=false from fun h=>J.o (fun h2=>by have:=h2.2.1 _ (GL ad h3);rw[h] at this;cases this));clear hc ap;generalize b.ws[k]=z at *
     have K:=au (KS.o z w1);cases hs:dB z with
     | false=>
      rw[hs] at K;have HF:=au (M.o hs);clear ac M HL J I HR;go_wp2_with fail;refine K.o.mono ?_;rintro e9 w9 ⟨rfl,hw⟩;subst w9;clear K;dsimp only;go_wp2;go_ret;exact aK HF.o HB.o
     | true=>
      rw[hs] at K;have ak:=au (ac.o hs);clear ac M HL J I HR;go_wp2_with fail;refine K.o.mono ?_;rintro e9 w9 ⟨rfl,hw⟩;subst w9;clear K;dsimp only;go_wp2
      go_round
      case rel=>exact⟨k+1,by have:=af.o;omega,by go_num,ak.o⟩
      case measure=>have:=af.o;simp[intOf];omega
    ·have al:¬ (k:Int)<3:=by omega
     have HQ:=au (show ∀ s ∈ b.ws.take 3,dB s=true from by rw[y8 (k:=k) (by rw[am.o];omega)];exact HL.o);clear HL h3 ae J I HR;go_wp2
     all_goals exact HQ.o
   ·have HQ:=au (show ∀ s ∈ b.ws.take 3,dB s=true from by rw[y8 (k:=k) (by rw[am.o];omega)];exact HL.o);have aw:¬ (k:Int)<(nb:Int):=by omega
    clear HL ae J I HR;go_wp2
    all_goals exact HQ.o
 clear ar
 go_wp2_with fail
 go_loop [7] (fun i=>∃ k:Nat,k<=min na 3/\i=.int .i64 k/\∀ s ∈ a.ws.take k,dB s=true) (fun i=>3-(intOf i).toNat)
 case atStart=>exact⟨0,fw _,rfl,by simp⟩
 case round=>
  obtain⟨k,hk,rfl,ab⟩:=hrel;have HL:=au ab;clear ab;by_cases ae:k<na
  ·by_cases h3:k<3
   ·have ad:k<a.ws.length:=by rw[an.o];exact ae
    have al:(k:Int)<3:=by omega
    have af:=au h3;have ax:(k:Int)<1000001:=by omega
    obtain⟨bb,o,rfl,hc⟩:=fB.at HA.o eL;have r0:=hc w1 HB.o k ad;have ac:=au (fun h=>mY (p:=dB) ad HL.o h);have M:=au (show dB a.ws[k]=false->r=false from fun h=>J.o (fun h2=>by have:=h2.1 _ (GL ad h3);rw[h] at this;cases this));clear hc nW;generalize a.ws[k]=z at *
    have K:=au (KS.o z w1);cases hs:dB z with
    | false=>
     rw[hs] at K;have HF:=au (M.o hs);clear ac M HL J I HR;go_wp2_with fail;refine K.o.mono ?_;rintro e9 w9 ⟨rfl,hw⟩;subst w9;clear K;dsimp only;go_wp2;go_ret;exact aK HF.o HB.o
    | true=>
     rw[hs] at K;have ak:=au (ac.o hs);clear ac M HL J I HR;go_wp2_with fail;refine K.o.mono ?_;rintro e9 w9 ⟨rfl,hw⟩;subst w9;clear K;dsimp only;go_wp2
     go_round
     case rel=>exact⟨k+1,by have:=af.o;omega,by go_num,ak.o⟩
     case measure=>have:=af.o;simp[intOf];omega
   ·have al:¬ (k:Int)<3:=by omega
    have HQ:=au (show ∀ s ∈ a.ws.take 3,dB s=true from by rw[y8 (k:=k) (by rw[an.o];omega)];exact HL.o);clear HL h3 ae J I HR;go_wp2
    all_goals exact HQ.o
  ·have HQ:=au (show ∀ s ∈ a.ws.take 3,dB s=true from by rw[y8 (k:=k) (by rw[an.o];omega)];exact HL.o);have aw:¬ (k:Int)<(na:Int):=by omega
   clear HL ae J I HR;go_wp2
   all_goals exact HQ.o
def L5:eW:=⟨[],[],[],0,0,0⟩
def Ak (x:PL):Bool:=Bo L5 x.p.C
def rV (e:WL):Bool:=decide (e.ps.length<=60)&&e.ps.all Ak
def bS (s:SL):Bool:=decide (s.ws.length<=20/\s.U.length<=60/\s.V.length<=60/\s.G.length<=60)&&s.ws.all rV
variable {W w':World}{t:TypeId}
theorem MG  {cs:Array Value}  {size:Nat} (hn:cs.size=n*size) (h:∀ u ∈ cs.toList,u.oneCell'=true):Src (W.alloc (.cells cs t)) (some ⟨W.heap.size,0,none⟩) n size cs.toList:=by
 refine⟨by simp[hn],h,fun _=>⟨_,rfl,fun j u I=>?_⟩⟩;rw[tP] at I;have e:(⟨W.heap.size,0,none⟩:Addr).add j=⟨W.heap.size,j,none⟩:=by unfold Addr.add;split<;>simp_all
 rw[e];simp only[World.cell?,heap_alloc_new W _];rw[I];rfl
theorem OH (w:World):Calls Tryz.prog 18 #[] w (fun e w'=>∃ a:TA,e=.returned (dV iq a)/\Below w.heap.size w w'/\kr w' iq a):=by
 have h1:aI eR w (aj (av w.heap.size (fN (some ⟨w.heap.size+1,0,none⟩) 2 2 none 0 0 none 0 0 5 1 2) 25) bG) _:=aH (aI.begin w) aN _ 25;have M:lY _ _ iq.rs:=MG (W:=w.alloc (.cells (fN (some ⟨w.heap.size+1,0,none⟩) 2 2 none 0 0 none 0 0 5 1 2) 25)) (cs:=#[.int .i64 1,.string { data:=#[97] },.string { data:=#[97] },.int .i64 0,.int .i64 1,.string { data:=#[98] },.string { data:=#[98] },.int .i64 0]) (t:=50) (n:=2) (size:=4) rfl eS;have J:=aH h1 aO #[.int .i64 1,.string { data:=#[97] },.string { data:=#[97] },.int .i64 0,.int .i64 1,.string { data:=#[98] },.string { data:=#[98] },.int .i64 0] 50;simp only[im] at J M;obtain⟨f,hf⟩:=J.drop.fst;have I:=hf.1;have HB:=au (J.mod.below (fun _ _ h=>h));have HR:=au M;clear h1 J M hf
 go_enter Tryz.func18,Tryz.ntmps18
 go_wp2_with fail;refine bodyPost_ret (results_cell_row rfl _ _ w.heap.size 25 (fN (some ⟨w.heap.size+1,0,none⟩) 2 2 none 0 0 none 0 0 5 1 2) (0,0) (.struct _) rfl I Tryz.underlying25 rfl eQ) rfl ?_;refine⟨⟨some ⟨w.heap.size+1,0,none⟩,2,none,0,none,0⟩,rfl,HB.o,?_⟩;refine { rs:=HR.o,ds:=qZ,es:=qZ,lr:=by decide,ld:=by decide,le:=by decide,sr:=fun R hR=>?_,sd:=fun d hd=>(by cases hd),se:=fun d hd=>(by cases hd) };have:∀ R ∈ iq.rs,R.f.length<=1000000/\R.t.length<=1000000:=by decide
 exact this R hR
theorem Ep (A:eV) (n c:Nat) (w:World):Calls Tryz.prog 19 #[.slice A n c] w (fun e w'=>e=.returned (.agg (fh 1 A n c))/\Below w.heap.size w w'):=by
 have J:=aH (aI.begin w) aN (fh 0 none 0 0) 28;obtain⟨z0,z1,zf⟩:=bY J;have I:aI eR w (aj (av w.heap.size (fh 1 none 0 0) 28) bG) _:=aJ J aN 0 (.int .i64 1);have h3:aI eR w (aj (av w.heap.size (fh 1 A n c) 28) bG) _:=aJ I aN 1 (.slice A n c);have M:=au h3;clear I h3
 go_enter Tryz.func19,Tryz.ntmps19
 go_upto_region 1 with (fail);generalize hw:w.alloc (.cells (fh 0 none 0 0) 28)=w1 at *
 clear hw;go_wp2;obtain⟨f2,h⟩:=M.o.fst;refine bodyPost_ret (results_cell_row rfl _ _ w.heap.size 28 _ (0,0) (.struct _) rfl h.1 Tryz.underlying28 rfl eQ) rfl ?_;exact⟨rfl,M.o.cZ⟩
theorem dG  {R:CH.aT} (h:bT w eR R w'):Below w.heap.size w w':=by
 obtain⟨F,h1,h2,h3⟩:=h;exact h2.below (fun _ _ h=>h)
theorem bF (W:World) (o:Obj):Below W.heap.size W (W.alloc o):=(fe _ _).alloc (fy _) _
def kJ:Value->Nat
 | .slice (some p) _ _=>p.block
 | .pointer (some p)=>p.block
 | _=>0
def Hc:Value->Array Value
 | .agg a=>a
 | _=>#[]
def E0 (T:eW) (a b:aQ) (bd:Int) (v:Value):CH.aT:=fun w F=>∃ (s:SL) (er:Int),v=.tuple #[.agg (jh s),.int .i64 er]/\iJ T a b bd s.m er/\Yx s w F
instance slx_ok {T:eW} {a b:aQ} {bd:Int} {v:Value}:(E0 T a b bd v).Ok where
 lt:=fun⟨_,_,_,_,h⟩=>sl_ok.lt h
 keep:=fun⟨s,er,h1,h2,h3⟩ hk=>⟨s,er,h1,h2,sl_ok.keep h3 hk⟩
variable {a:Act}{v u:Value}{ta:TA}{g i:Nat}{p:eV}{W' w0:World}{xs:Array (Nat × Operand)}{l:List Oper}{F:List (Op × Option Tmp × Option (Nat × Bool))}{F0:Nat->Prop}{X:CH.aT}{Q:Exit->Act->World->Prop}
theorem jc  {t:Nat}  (h:a.tmps[t]?=some v):a.eval (.tmp t)=v:=by
 show a.tmps.getD t undef=v
 rw[Array.getD_eq_getD_getElem?,h];rfl
def Yb (ta:TA) (n m:Nat) (j:Nat) (vs:Nat->Value):Prop:=match j with
 | 0=>vs 0=dV iq ta
 | 1=>vs 1=.slice (some ⟨kJ (vs 1),0,none⟩) n n
 | 2=>vs 2=.agg #[.int .i64 1,vs 1]
 | 3=>vs 3=.slice (some ⟨kJ (vs 3),0,none⟩) m m
 | 4=>vs 4=.agg #[.int .i64 1,vs 3]
 | 5=>∃ s h,vs 5=.tuple #[.agg (jh s),.int .i64 h]
 | 6=>vs 6=vs 5
 | 7=>∀ s h,vs 5=.tuple #[.agg (jh s),.int .i64 h]->vs 7=.agg (jh s)
 | 8=>∀ s h,vs 5=.tuple #[.agg (jh s),.int .i64 h]->vs 8=.int .i64 h
 | 9=>vs 9=.pointer (some ⟨kJ (vs 9),0,none⟩)
 | 11=>vs 11=vs 8
 | _=>True
def zS:Array Value:=(ie 0 none 0 0 none 0 0 none 0 0 none 0 0)
def ym (a b:aQ) (bd:Int) (j:Nat) (vs:Nat->Value):CH.aT:=match j with
 | 1=>av (kJ (vs 1)) (kM a.ws).toArray 9
 | 3=>av (kJ (vs 3)) (kM b.ws).toArray 9
 | 5=>E0 iq a b bd (vs 5)
 | 9=>av (kJ (vs 9)) zS 41
 | 10=>av (kJ (vs 9)) (Hc (vs 7)) 41
 | _=>bG
instance mkR_ok {a b:aQ} {bd:Int} {j:Nat} {vs:Nat→Value}:(ym a b bd j vs).Ok:=by
 unfold ym;split<;>exact aO
def Mb:List (List Nat):=[[],[],[],[],[],[1,3],[],[],[],[],[9]]
theorem aeo  {m:Nat} {a:aQ}  {p:Nat->Nat->Prop} (h2:p 2 1) (h4:p 4 3) (h6:p 6 5) (h7:p 7 5) (h8:p 8 5) (M:p 10 9/\p 10 7) (aa:p 11 8) (j:Nat) (vs J:Nat->Value) (h:∀ k,k=j\/(k<j/\p j k)->vs k=J k):(Yb ta n m j vs->Yb ta n m j J)/\ym a b bd j vs=ym a b bd j J:=by
 have e:=h j (.inl rfl);have I:=fun k hk hp=>h k (.inr ⟨hk,hp⟩)
 match j with
 | 0|1|3|5|9=>exact⟨fun g=>by unfold Yb at *;rw[<-e];exact g,by simp only[ym,e]⟩
 | 2=>exact⟨fun g=>by unfold Yb at *;rw[<-e,<-I 1 eS h2];exact g,rfl⟩
 | 4=>exact⟨fun g=>by unfold Yb at *;rw[<-e,<-I 3 eS h4];exact g,rfl⟩
 | 6=>exact⟨fun g=>by unfold Yb at *;rw[<-e,<-I 5 eS h6];exact g,rfl⟩
 | 7=>exact⟨fun g=>by unfold Yb at *;rw[<-e,<-I 5 eS h7];exact g,rfl⟩
 | 8=>exact⟨fun g=>by unfold Yb at *;rw[<-e,<-I 5 eS h8];exact g,rfl⟩
 | 10=>exact⟨fun _=>trivial,by simp only[ym,I 9 eS M.1,I 7 eS M.2]⟩
 | 11=>exact⟨fun g=>by unfold Yb at *;rw[<-e,<-I 8 eS aa];exact g,rfl⟩
 | k+12=>exact⟨fun _=>trivial,rfl⟩
section
variable {ops:Array Oper} {o:Oper} {a:Act} {W:World} {Z:Value→World→Prop}
theorem jv (h:o.guard=none):Region.wanted o (yielded ops a.tmps)=true:=by unfold Region.wanted;rw[h]
theorem fD  {d:Tmp} {b:Bool} (h:o.guard=some (g,b)) (hd:iy ops g=some d) (hv:a.tmps[d]?=some (.bool b)):Region.wanted o (yielded ops a.tmps)=true:=by
 unfold Region.wanted yielded;unfold iy at hd;simp[h,hd,hv]
theorem oh {x:Operand}  (hw:Region.wanted o (yielded ops a.tmps)=true) (ho:o.op=.move x\/o.op=.assign x) (hx:a.eval x=v) (hz:Z v W):Et Tryz.prog ops o a W Z:=
 Ay hw (by rcases ho with ho|ho<;>(unfold execOp;rw[ho];simp only[hx];rfl)) hz
theorem y9 {f:FuncId} {xs:Array Operand} {J:Array TypeId} {vs:Array Value} (M:∀ vs W,(callFunc f vs).run Tryz.prog W=.ok (.enter f vs) W) (hw:Region.wanted o (yielded ops a.tmps)=true) (ho:o.op=.call { callee:=.value (.func f),args:=xs,argTypes:=J }) (hx:xs.map a.eval=vs) (hz:Calls Tryz.prog f vs W fun e I=>∃ v,e=.returned v/\Z v I):Et Tryz.prog ops o a W Z:=by
 refine g_call hw (f:=f) (args:=vs) ?_ hz;unfold execOp;rw[ho];simp only[resolve,hx];have e:a.eval (.func f)=.func (.func f) #[] #[]:=rfl;rw[e];have h:=M vs W;simp[Deferred.ofValue,invoke];exact h
theorem Mm (vs:Array Value) (W:World):(callFunc 19 vs).run Tryz.prog W=.ok (.enter 19 vs) W:=by go_simp
theorem f13 (vs:Array Value) (W:World):(callFunc 13 vs).run Tryz.prog W=.ok (.enter 13 vs) W:=by go_simp
theorem lK {x:Operand}    (h:(Instr.loadAt t (.pointer p)).run Tryz.prog W=.ok v W) (J:Region.wanted o (yielded ops a.tmps)=true) (M:o.op=.load t x) (hx:a.eval x=.pointer p) (I:Z v W):Et Tryz.prog ops o a W Z:=by
 refine Ay J (v:=v) (w':=W) ?_ I;unfold execOp;rw[M];simp only[hx];simp only[j9,h,kz,kx]
theorem Yc {x y:Operand}     (h:(Instr.storeAt t (.pointer p) v).run Tryz.prog W=.ok () W') (M:Region.wanted o (yielded ops a.tmps)=true) (ho:o.op=.store t x y) (hx:a.eval x=.pointer p) (J:a.eval y=v) (I:Z undef W'):Et Tryz.prog ops o a W Z:=by
 refine XX M (w':=W') ?_ I;unfold execOp;rw[ho];simp only[hx,J];simp only[j9,h,kz,kx]
theorem Yd    {ys:Array (Nat × Value)}   (h:(Instr.buildSlice t n ys).run Tryz.prog W=.ok v W') (J:Region.wanted o (yielded ops a.tmps)=true) (M:o.op=.buildSlice t n xs) (hx:(xs.map fun (i,x)=>(i,a.eval x))=ys) (I:Z v W'):Et Tryz.prog ops o a W Z:=by
 refine Ay J (v:=v) (w':=W') ?_ I;unfold execOp;rw[M];simp only[hx];simp only[j9,h,kz,kx]
theorem abe {x:Operand}  (hw:Region.wanted o (yielded ops a.tmps)=true) (ho:o.op=.extract x 0) (hx:a.eval x=.tuple #[u,v]) (hz:Z u W):Et Tryz.prog ops o a W Z:=
 Ay hw (by unfold execOp;rw[ho];simp only[hx];go_simp) hz
theorem abf {x:Operand}  (hw:Region.wanted o (yielded ops a.tmps)=true) (ho:o.op=.extract x 1) (hx:a.eval x=.tuple #[u,v]) (hz:Z v W):Et Tryz.prog ops o a W Z:=
 Ay hw (by unfold execOp;rw[ho];simp only[hx];go_simp) hz
theorem Ye (hw:Region.wanted o (yielded ops a.tmps)=true) (ho:o.op=.alloc 41) (hz:Z (.pointer (some ⟨W.heap.size,0,none⟩)) (W.alloc (.cells zS 41))):Et Tryz.prog ops o a W Z:=
 Ay hw (by unfold execOp;rw[ho];go_simp;rfl) hz
end
def Yz (o:Oper):Op × Option Tmp × Option (Nat × Bool):=(o.op,o.dst,o.guard)
theorem Yf   (h:l.map Yz=F)  {o:Oper} (hi:l.toArray[i]?=some o):F[i]?=some (Yz o):=by
 rw[<-h,lz];have:l[i]?=some o:=by simpa using hi
 rw[this];rfl
theorem Q7   (h:l.map Yz=F) (i:Nat):iy l.toArray i=(F[i]?).bind (·.2.1):=by
 rw[<-h,lz];unfold iy;cases hl:l[i]? with
 | none=>simp[hl]
 | some o=>simp[hl,Yz]
def Bf (f:FuncId) (xs:Array Operand) (ts:Array TypeId):Op:=.call { callee:=.value (.func f),args:=xs,argTypes:=ts }
def mkF (t1 M d1 d2 J d4 d5 I d7 d8 d9 h:Tmp) (n m:Nat) (xs ys:Array (Nat × Operand)) (bd:Int):List (Op × Option Tmp × Option (Nat × Bool)):=
 [(.load 25 (.tmp t1),some M,none),(.buildSlice 26 n xs,some d1,none),(Bf 19 #[.tmp d1] #[26],some d2,none),(.buildSlice 26 m ys,some J,none),(Bf 19 #[.tmp J] #[26],some d4,none),
  (Bf 13 #[.tmp M,.tmp d2,.tmp d4,.const (.int .i64 bd)] #[25,28,28,3],some d5,none),(.move (.tmp d5),some I,none),(.extract (.tmp I) 0,some d7,none),(.extract (.tmp I) 1,some d8,none),(.alloc 41,some d9,none),(.store 41 (.tmp d9) (.tmp d7),none,none),(.assign (.tmp d8),some h,none)]
def Hd:Array Nat:=#[0,0,2,0,14,31,63,127,127,0,767,2047]
theorem Q8  {k:Nat} {t:Tmp} (h:(F[k]?).bind (·.2.1)=some t):t ∈ F.filterMap (·.2.1):=by
 obtain⟨x,hx,hg⟩:=Option.bind_eq_some_iff.1 h;exact List.mem_filterMap.2 ⟨x,pS hx,hg⟩
theorem za  {l:List Bs}  {F:Nat->Prop} (h:av g (kM l).toArray 9 W F):fB W (some ⟨g,0,none⟩) l:=by
 refine⟨by simp[kM],fun u I=>?_,fun _=>⟨_,rfl,fun j u I=>?_⟩⟩
 ·unfold kM at I;obtain⟨s,-,rfl⟩:=List.mem_map.1 I;rfl
 ·have e:(⟨g,0,none⟩:Addr).add j=⟨g,j,none⟩:=by unfold Addr.add;split<;>simp_all
  rw[e];exact ay h (by rw[mj];exact I)
theorem S7 {u' v':Value} (h:Value.tuple #[u,v]=.tuple #[u',v']):u=u'/\v=v':=by simpa using h
theorem Yg    {a:aQ}   {Y:CH.aT} (h:aI F0 w0 (aj (E0 T a b bd v) Y) W):∃ s I,v=.tuple #[.agg (jh s),.int .i64 I]/\iJ T a b bd s.m I/\aI F0 w0 (aj (Yx s) Y) W:=by
 obtain⟨⟨F,⟨F1,F2,⟨s,I,h1,h2,J⟩,h4,M,h6⟩,h7⟩,hm⟩:=h;exact⟨s,I,h1,h2,⟨F,⟨F1,F2,J,h4,M,h6⟩,h7⟩,hm⟩
theorem Yh     (I:X.Ok) (h:aI F0 w0 (aj (av g zS 41) X) W) (s:SL):∃ W',(Instr.storeAt 41 (.pointer (some ⟨g,0,none⟩)) (.agg (jh s))).run Tryz.prog W=.ok () W'/\aI F0 w0 (aj (av g (jh s) 41) X) W':=by
 obtain⟨M,z1,z2,z3,J,zf⟩:=gu h;refine⟨_,?_,uK h I (.int .i64 s.b) (.slice s.A s.ws.length s.c) (.slice s.u.A s.U.length s.u.c) (.slice s.v.A s.V.length s.v.c) (.slice s.g.A s.G.length s.g.c)⟩;unfold jh;go_simp
theorem vE {id:Nat}  {a0:Act}    {g1:Nat} {a:aQ}  {t1 d0 d1 d2 d3 d4 d5 d6 d7 d8 d9 ac:Tmp} {ys:Array (Nat × Operand)} (hm:Tryz.prog.follows .mixedOrders=true)
  (hF:l.map Yz=mkF t1 d0 d1 d2 d3 d4 d5 d6 d7 d8 d9 ac a.ws.length b.ws.length xs ys bd) (al:Region.before l.toArray=Hd) (ar:Ii l.toArray Mb a0.tmps.size=true)
  (ht:a0.tmps[t1]?=some (.pointer (some ⟨g1,0,none⟩))) (ap:t1 ∉ [d0,d1,d2,d3,d4,d5,d6,d7,d8,d9,ac])
  (ka:a.k=1) (kb:b.k=1) (ag:∀ x ∈ a.ws,x.length<=1000000) (am:∀ x ∈ b.ws,x.length<=1000000) (ak:a.ws.length<=1000000) (ax:b.ws.length<=1000000)
  (hz:LZ w) (hT:kr w iq ta) (an:∀ W,Below w.heap.size w W->(Instr.loadAt 25 (.pointer (some ⟨g1,0,none⟩))).run Tryz.prog W=.ok (dV iq ta) W)
  (af:∀ (c:Act) W,(Instr.buildSlice 26 a.ws.length (xs.map fun (i,x)=>(i,c.eval x))).run Tryz.prog W=.ok (.slice (some ⟨W.heap.size,0,none⟩) a.ws.length a.ws.length) (W.alloc (.cells (kM a.ws).toArray 9)))
  (ao:∀ (c:Act) W,(Instr.buildSlice 26 b.ws.length (ys.map fun (i,x)=>(i,c.eval x))).run Tryz.prog W=.ok (.slice (some ⟨W.heap.size,0,none⟩) b.ws.length b.ws.length) (W.alloc (.cells (kM b.ws).toArray 9)))
  (fin:∀ (vs:Nat->Value) (s:SL) (M:Int) (A B:Value) (g:Nat) (W:World),vs 0=dV iq ta->vs 1=A->vs 2=.agg #[.int .i64 1,A]->vs 3=B->vs 4=.agg #[.int .i64 1,B]->vs 5=.tuple #[.agg (jh s),.int .i64 M]->vs 6=.tuple #[.agg (jh s),.int .i64 M]->vs 7=.agg (jh s)->vs 8=.int .i64 M->vs 9=.pointer (some ⟨g,0,none⟩)->vs 11=.int .i64 M ->
   iJ iq a b bd s.m M->aI eR w.drew (aj (Yx s) (aj (av g (jh s) 41) bG)) W->Q .normal (oJ l 0 vs a0) W):(Code.region id l.toArray true).wp Tryz.prog Q a0 w:=by
 have hp:∀ i j,TM l.toArray i j↔(Hd.getD i 0).testBit j=true:=fun i j=>by unfold TM;rw[al]
 have J:=fun i=>Q7 hF i;refine tZ (F0:=fun _=>False) (w0:=w.drew) (X0:=bG) Mb (Yb ta a.ws.length b.ws.length) (ym a b bd) hm ar
  (fun j vs aw h=>aeo (p:=TM l.toArray) ((hp _ _).2 eS) ((hp _ _).2 eS) ((hp _ _).2 eS) ((hp _ _).2 eS) ((hp _ _).2 eS) ⟨(hp _ _).2 eS,(hp _ _).2 eS⟩ ((hp _ _).2 eS) j vs aw h)
  aN (fun _ _=>aO) (aI.begin w.drew) ?_ ?_
 ·intro i o hi L c vs W X hX hL hs hH hr;have I:=Yf hF hi;have on:∀ k d,k<i->(Hd.getD i 0).testBit k=true->iy l.toArray k=some d->c.eval (.tmp d)=vs k:=fun k d hk hb hd=>jc (hs.on k d (hL k ((hp _ _).2 hb) hk) hd);have hh:∀ k,k<i->(Hd.getD i 0).testBit k=true->Yb ta a.ws.length b.ws.length k vs:=fun k hk hb=>hH k (hL k ((hp _ _).2 hb) hk);have cZ:Below w.heap.size w W:=(dF (fe _ _)).trans (hr.cZ.mono (fy _))
  match i,I,on,hh with
  | 0,I,on,hh=>
   injection I with I;injection I with h1 h2;injection h2 with h2 h3
   have e:c.eval (.tmp t1)=.pointer (some ⟨g1,0,none⟩):=jc ((hs.off t1 (fun k hk hd=>by
    rw[J] at hd
    exact ap (Q8 hd))).trans ht)
   refine lK (an W cZ) (jv h3.symm) h1.symm e ⟨eY,?_⟩;exact hr
  | 1,I,on,hh=>
   injection I with I;injection I with h1 h2;injection h2 with h2 h3
   refine Yd (af c W) (jv h3.symm) h1.symm rfl ⟨?_,?_⟩
   ·show upd vs 1 _ 1=_
    rw[eY];rfl
   ·show aI _ _ (aj (av (kJ (upd vs 1 _ 1)) _ 9) X) _
    rw[eY];exact aH (hr.perm (jA X)) hX _ 9
  | 2,I,on,hh=>
   injection I with I;injection I with h1 h2;injection h2 with h2 h3
   have e:=on 1 d1 eS eS (by rw[J];rfl);have g:=hh 1 eS eS;have g:vs 1=.slice (some ⟨kJ (vs 1),0,none⟩) _ _:=g;refine y9 (vs:=#[vs 1]) Mm (jv h3.symm) h1.symm (by simp[e]) ?_;rw[g];refine(Ep _ _ _ W).mono ?_;rintro e9 w' ⟨rfl,hb⟩;refine⟨_,rfl,?_,hr.below (show aT.Ok _ from aB aN hX) hb⟩
   show upd vs 2 _ 2=.agg #[_,upd vs 2 _ 1]
   rw[eY,upd_ne eS];exact congrArg (fun v=>Value.agg #[.int .i64 1,v]) g.symm
  | 3,I,on,hh=>
   injection I with I;injection I with h1 h2;injection h2 with h2 h3
   refine Yd (ao c W) (jv h3.symm) h1.symm rfl ⟨?_,?_⟩
   ·show upd vs 3 _ 3=_
    rw[eY];rfl
   ·show aI _ _ (aj (av (kJ (upd vs 3 _ 3)) _ 9) X) _
    rw[eY];exact aH (hr.perm (jA X)) hX _ 9
  | 4,I,on,hh=>
   injection I with I;injection I with h1 h2;injection h2 with h2 h3
   have e:=on 3 d3 eS eS (by rw[J];rfl);have g:vs 3=.slice (some ⟨kJ (vs 3),0,none⟩) _ _:=hh 3 eS eS;refine y9 (vs:=#[vs 3]) Mm (jv h3.symm) h1.symm (by simp[e]) ?_;rw[g];refine(Ep _ _ _ W).mono ?_;rintro e9 w' ⟨rfl,hb⟩;refine⟨_,rfl,?_,hr.below (show aT.Ok _ from aB aN hX) hb⟩
   show upd vs 4 _ 4=.agg #[_,upd vs 4 _ 3]
   rw[eY,upd_ne eS];exact congrArg (fun v=>Value.agg #[.int .i64 1,v]) g.symm
  | 5,I,on,hh=>
   injection I with I;injection I with h1 h2;injection h2 with h2 h3
   have e0:=on 0 d0 eS eS (by rw[J];rfl);have e2:=on 2 d2 eS eS (by rw[J];rfl);have e4:=on 4 d4 eS eS (by rw[J];rfl);have g0:vs 0=_:=hh 0 eS eS;have g1:vs 1=.slice (some ⟨kJ (vs 1),0,none⟩) _ _:=hh 1 eS eS;have g2:vs 2=.agg #[.int .i64 1,vs 1]:=hh 2 eS eS;have g3:vs 3=.slice (some ⟨kJ (vs 3),0,none⟩) _ _:=hh 3 eS eS;have g4:vs 4=.agg #[.int .i64 1,vs 3]:=hh 4 eS eS;have aa:aI eR w.drew (aj (aj (av (kJ (vs 1)) (kM a.ws).toArray 9) (aj (av (kJ (vs 3)) (kM b.ws).toArray 9) bG)) X) W:=hr;obtain⟨_,f1⟩:=aa.assoc.fst;obtain⟨_,f3⟩:=aa.assoc.drop.assoc.fst
   refine y9 (vs:=#[dV iq ta,vI a (some ⟨kJ (vs 1),0,none⟩) a.ws.length,vI b (some ⟨kJ (vs 3),0,none⟩) b.ws.length,.int .i64 bd]) f13 (jv h3.symm) h1.symm (by
    simp[e0,e2,e4,g0,vI,ka,kb]
    exact⟨g2.trans (congrArg (fun v=>Value.agg #[.int .i64 1,v]) g1),g4.trans (congrArg (fun v=>Value.agg #[.int .i64 1,v]) g3),rfl⟩) ?_
   refine(pq (hT.below cZ) (hz.below cZ) (za f1) (za f3) ak ax ag am bd).mono ?_;rintro e9 w' ⟨s,M,rfl,ab,hp⟩;refine⟨_,rfl,⟨s,M,eY⟩,?_⟩;exact(aa.drop.fresh hX hp).imp fun _ _ h=>bD h (fun _ h=>⟨s,M,eY,ab,h⟩) (fun _ h=>h)
  | 6,I,on,hh=>
   injection I with I;injection I with h1 h2;injection h2 with h2 h3
   refine oh (jv h3.symm) (.inl h1.symm) (on 5 d5 eS eS (by rw[J];rfl)) ⟨?_,hr⟩
   show upd vs 6 _ 6=upd vs 6 _ 5
   rw[eY,upd_ne eS]
  | 7,I,on,hh=>
   injection I with I;injection I with h1 h2;injection h2 with h2 h3
   obtain⟨s,M,g5⟩:=(hh 5 eS eS:∃ s M,vs 5=.tuple #[.agg (jh s),.int .i64 M]);have g6:vs 6=vs 5:=hh 6 eS eS;refine abe (jv h3.symm) h1.symm ((on 6 d6 eS eS (by rw[J];rfl)).trans (g6.trans g5)) ⟨?_,hr⟩;intro s' aq h;rw[upd_ne eS,g5] at h;rw[eY];exact(S7 h).1
  | 8,I,on,hh=>
   injection I with I;injection I with h1 h2;injection h2 with h2 h3
   obtain⟨s,M,g5⟩:=(hh 5 eS eS:∃ s M,vs 5=.tuple #[.agg (jh s),.int .i64 M]);have g6:vs 6=vs 5:=hh 6 eS eS;refine abf (jv h3.symm) h1.symm ((on 6 d6 eS eS (by rw[J];rfl)).trans (g6.trans g5)) ⟨?_,hr⟩;intro s' aq h;rw[upd_ne eS,g5] at h;rw[eY];exact(S7 h).2
  | 9,I,on,hh=>
   injection I with I;injection I with h1 h2;injection h2 with h2 h3
   refine Ye (jv h3.symm) h1.symm ⟨?_,?_⟩
   ·show upd vs 9 _ 9=_
    rw[eY];rfl
   ·show aI _ _ (aj (av (kJ (upd vs 9 _ 9)) zS 41) X) _
    rw[eY];exact aH (hr.perm (jA X)) hX zS 41
  | 10,I,on,hh=>
   injection I with I;injection I with h1 h2;injection h2 with h2 h3
   obtain⟨s,M,g5⟩:=(hh 5 eS eS:∃ s M,vs 5=.tuple #[.agg (jh s),.int .i64 M]);have g7:=(hh 7 eS eS:∀ s M,vs 5=.tuple #[.agg (jh s),.int .i64 M]->vs 7=.agg (jh s)) s M g5;have g9:vs 9=.pointer (some ⟨kJ (vs 9),0,none⟩):=hh 9 eS eS
   have aa:aI eR w.drew (aj (av (kJ (vs 9)) zS 41) X) W:=hr.perm (by
    show aj (aj _ bG) X=_
    rw[fC];rfl)
   obtain⟨W',k1,k2⟩:=Yh hX aa s;refine Yc k1 (jv h3.symm) h1.symm ((on 9 d9 eS eS (by rw[J];rfl)).trans g9) ((on 7 d7 eS eS (by rw[J];rfl)).trans g7) ⟨trivial,?_⟩
   show aI _ _ (aj (av (kJ (upd vs 10 _ 9)) (Hc (upd vs 10 _ 7)) 41) X) _
   rw[upd_ne eS,upd_ne eS,g7];exact k2
  | 11,I,on,hh=>
   injection I with I;injection I with h1 h2;injection h2 with h2 h3
   refine oh (jv h3.symm) (.inr h1.symm) (on 8 d8 eS eS (by rw[J];rfl)) ⟨?_,hr⟩
   show upd vs 11 _ 11=upd vs 11 _ 8
   rw[eY,upd_ne eS]
  | k+12,I,on,hh=>cases I
 ·intro vs W hH hr;have hn:l.length=12:=by rw[<-gh (f:=Yz),hF];rfl
  have ae:jT l.toArray Mb (fun _=>true)=[0,2,4,5,6,7,8,10,11]:=by
   unfold jT;rw[show l.toArray.size=12 by simpa using hn];decide
  rw[ae] at hr
  have ai:aI eR w.drew (aj (E0 iq a b bd (vs 5)) (aj (av (kJ (vs 9)) (Hc (vs 7)) 41) bG)) W:=hr.perm (by
   show aj (aj bG (aj bG (aj bG (aj (E0 iq a b bd (vs 5)) (aj bG (aj bG (aj bG (aj (av (kJ (vs 9)) (Hc (vs 7)) 41) (aj bG bG))))))))) bG=_
   simp only[jA,fC])
  obtain⟨s,M,g5,ab,ad⟩:=Yg ai;have g6:vs 6=vs 5:=hH 6 eL;have g7:=(hH 7 eL:∀ s M,vs 5=.tuple #[.agg (jh s),.int .i64 M]->vs 7=.agg (jh s)) s M g5;have g8:=(hH 8 eL:∀ s M,vs 5=.tuple #[.agg (jh s),.int .i64 M]->vs 8=.int .i64 M) s M g5;have g11:vs 11=vs 8:=hH 11 eL;rw[g7] at ad;exact fin vs s M (vs 1) (vs 3) (kJ (vs 9)) W (hH 0 eL) rfl (hH 2 eL) rfl (hH 4 eL) g5 (g6.trans g5) g7 g8 (hH 9 eL) (g11.trans g8) ab ad
section
variable {ops:Array Oper} {o:Oper} {a:Act} {W:World} {Z:Value→World→Prop}
theorem ze {x y z:Operand}  (hw:Region.wanted o (yielded ops a.tmps)=true) (ho:o.op=.pick x y z) (hx:a.eval x=.bool true) (hy:a.eval y=v) (hz:Z v W):Et Tryz.prog ops o a W Z:=
 Ay hw (by unfold execOp;rw[ho];simp only[hx,hy];go_simp) hz
theorem OI {x:Operand} {b:Bool} (hw:Region.wanted o (yielded ops a.tmps)=true) (ho:o.op=.unOp .not 4 x) (hx:a.eval x=.bool b) (hz:Z (.bool !b) W):Et Tryz.prog ops o a W Z:=
 Ay hw (by unfold execOp;rw[ho];simp only[hx];go_simp) hz
theorem f14 (vs:Array Value) (W:World):(callFunc 14 vs).run Tryz.prog W=.ok (.enter 14 vs) W:=by go_simp
end
inductive Kd
 | val (v:Value)
 | bs (l:List Bs)
 | nm (k:Nat)
def kH (kd:List Kd) (j:Nat) (vs:Nat->Value):Prop:=match kd[j]? with
 | some (.val v)=>vs j=v
 | some (.bs l)=>vs j=.slice (some ⟨kJ (vs j),0,none⟩) l.length l.length
 | some (.nm k)=>vs j=.agg #[.int .i64 1,vs k]
 | none=>True
def kR (kd:List Kd) (j:Nat) (vs:Nat->Value):CH.aT:=match kd[j]? with
 | some (.bs l)=>av (kJ (vs j)) (kM l).toArray 9
 | _=>bG
instance kR_ok {kd:List Kd} {j:Nat} {vs:Nat→Value}:(kR kd j vs).Ok:=by
 unfold kR;split<;>exact aO
theorem aeQ {kd:List Kd} {p:Nat->Nat->Prop} (hn:∀ j k,kd[j]?=some (.nm k)->k<j/\p j k) (j:Nat) (vs I:Nat->Value) (h:∀ k,k=j\/(k<j/\p j k)->vs k=I k):(kH kd j vs->kH kd j I)/\kR kd j vs=kR kd j I:=by
 have e:=h j (.inl rfl);unfold kH kR;cases J:kd[j]? with
 | none=>exact⟨fun g=>g,rfl⟩
 | some x=>
  cases x with
  | val v=>exact⟨fun g=>by simp only at g ⊢;rw[<-e];exact g,rfl⟩
  | bs l=>exact⟨fun g=>by simp only at g ⊢;rw[<-e];exact g,by simp only[e]⟩
  | nm k=>exact⟨fun g=>by simp only at g ⊢;rw[<-e,<-h k (.inr (hn j k J))];exact g,rfl⟩
variable {p:Op}{d:Option Tmp}{g:Option (Nat × Bool)}
theorem dS   {o:Oper}    (h:F[i]?=some (Yz o)) (h2:F[i]?=some (p,d,g)):o.op=p:=by
 rw[h] at h2;injection h2 with h2;injection h2
def E1 (g s n m:Nat) (xs ys:Array (Nat × Operand)) (p:Tmp):List (Op × Option Tmp × Option (Nat × Bool)):=
 [(.load 25 (.tmp 1),some s,some (g,true)),(.buildSlice 26 n xs,some (s+1),some (g,true)),(Bf 19 #[.tmp (s+1)] #[26],some (s+2),some (g,true)),(.buildSlice 26 m ys,some (s+3),some (g,true)),(Bf 19 #[.tmp (s+3)] #[26],some (s+4),some (g,true)),(.load 41 (.tmp p),some (s+5),some (g,true)),(Bf 14 #[.tmp s,.tmp (s+2),.tmp (s+4),.tmp (s+5)] #[25,28,28,41],some (s+6),some (g,true))]
def E2 (j:Nat) (l m:List Bs) (t S:Value) (b:Bool):List Kd:=[.val t,.bs l,.nm (j+1),.bs m,.nm (j+3),.val S,.val (.bool b)]
def xA:Array (Nat × Operand):=#[(0,.const (.string { data:=#[97] }))]
def xB:Array (Nat × Operand):=#[(0,.const (.string { data:=#[98] }))]
def Tb:Array (Nat × Operand):=#[(0,.const (.string { data:=#[97] })),(1,.const (.string { data:=#[98] }))]
def Tl:Array (Nat × Operand):=#[(0,.const (.string { data:=#[98] })),(1,.const (.string { data:=#[97] }))]
def cF:List (Op × Option Tmp × Option (Nat × Bool)):=
 [(.move (.tmp 12),some 119,none),(.move (.tmp 119),some 120,none)]++E1 1 121 1 1 xA xB 2++[(.pick (.tmp 120) (.tmp 127) (.const (.bool false)),some 128,none),(.move (.tmp 128),some 129,none)] ++
 E1 10 130 1 1 xA xB 10++[(.unOp .not 4 (.tmp 136),some 137,some (10,true)),(.pick (.tmp 129) (.tmp 137) (.const (.bool false)),some 138,none),(.move (.tmp 138),some 139,none)] ++
 E1 20 140 1 1 xA xB 11++[(.unOp .not 4 (.tmp 146),some 147,some (20,true)),(.pick (.tmp 139) (.tmp 147) (.const (.bool false)),some 148,none),(.move (.tmp 148),some 149,none)] ++
 E1 30 150 2 2 Tb Tl 6++[(.pick (.tmp 149) (.tmp 156) (.const (.bool false)),some 157,none),(.move (.tmp 157),some 158,none)] ++
 E1 39 159 1 1 xA xA 2++[(.unOp .not 4 (.tmp 165),some 166,some (39,true)),(.pick (.tmp 158) (.tmp 166) (.const (.bool false)),some 167,none),(.assign (.tmp 167),some 0,none)]
def kT:Kd:=.val (.bool true)
def Tr (t S S1 S2 U:Value):List Kd:=
 [kT,kT]++E2 2 [[97]] [[98]] t S true++[kT,kT]++E2 11 [[97]] [[98]] t S1 false++[kT,kT,kT]++E2 21 [[97]] [[98]] t S2 false++[kT,kT,kT]++E2 31 [[97],[98]] [[98],[97]] t U true++[kT,kT]++E2 40 [[97]] [[97]] t S false++[kT,kT,kT]
def cC:List (List Nat):=(List.range 50).map fun i=>if i=8\/i=17\/i=27\/i=37\/i=46 then [i-5,i-3] else []
theorem dU   {o:Oper}    (h:F[i]?=some (Yz o)) (h2:F[i]?=some (p,d,g)):o.guard=g:=by
 rw[h] at h2;injection h2 with h2;injection h2 with h2 h3;injection h3
def cB:Array Nat:=#[0,1,3,3,11,3,59,3,255,511,1023,2047,2047,6143,2047,30719,2047,131071,262143,524287,1048575,2097151,2097151,6291455,2097151,31457279,2097151,134217727,268435455,536870911,1073741823,2147483647,2147483647,6442450943,2147483647,32212254719,2147483647,137438953471,274877906943,549755813887,1099511627775,1099511627775,3298534883327,1099511627775,16492674416639,1099511627775,70368744177663,140737488355327,281474976710655,562949953421311]
def yp (w:World) (ta:TA) (l m:List Bs) (S:SL) (b:Bool):Prop:=∀ W A B,Below w.heap.size w W->fB W A l->fB W B m->Calls Tryz.prog 14 #[dV iq ta,.agg (fh 1 A l.length l.length),.agg (fh 1 B m.length m.length),.agg (jh S)] W (aS W (.bool b))
def Yi (n:Nat) (xs:Array (Nat × Operand)) (l:List Bs):Prop:=∀ (c:Act) W,(Instr.buildSlice 26 n (xs.map fun (i,x)=>(i,c.eval x))).run Tryz.prog W=.ok (.slice (some ⟨W.heap.size,0,none⟩) l.length l.length) (W.alloc (.cells (kM l).toArray 9))
theorem OJ:Yi 1 xA [[97]]:=fun c W=>by go_simp;rfl
theorem Yj:Yi 1 xB [[98]]:=fun c W=>by go_simp;rfl
theorem Yk:Yi 2 Tb [[97],[98]]:=fun c W=>by go_simp;rfl
theorem Yl:Yi 2 Tl [[98],[97]]:=fun c W=>by go_simp;rfl
theorem OL {id:Nat} {l:List Oper} {a0:Act}   {ta:TA} {g1 g2 g6 g10 g11:Nat} {S S1 S2 U:SL} (hm:Tryz.prog.follows .mixedOrders=true)
  (hF:l.map Yz=cF) (ao:Region.before l.toArray=cB) (aq:Ii l.toArray cC a0.tmps.size=true)
  (az:a0.tmps[12]?=some (.bool true)) (t1:a0.tmps[1]?=some (.pointer (some ⟨g1,0,none⟩))) (t2:a0.tmps[2]?=some (.pointer (some ⟨g2,0,none⟩))) (t6:a0.tmps[6]?=some (.pointer (some ⟨g6,0,none⟩))) (an:a0.tmps[10]?=some (.pointer (some ⟨g10,0,none⟩))) (aw:a0.tmps[11]?=some (.pointer (some ⟨g11,0,none⟩)))
  (ab:∀ W,Below w.heap.size w W->(Instr.loadAt 25 (.pointer (some ⟨g1,0,none⟩))).run Tryz.prog W=.ok (dV iq ta) W)
  (af:∀ W,Below w.heap.size w W->(Instr.loadAt 41 (.pointer (some ⟨g2,0,none⟩))).run Tryz.prog W=.ok (.agg (jh S)) W)
  (al:∀ W,Below w.heap.size w W->(Instr.loadAt 41 (.pointer (some ⟨g10,0,none⟩))).run Tryz.prog W=.ok (.agg (jh S1)) W)
  (ak:∀ W,Below w.heap.size w W->(Instr.loadAt 41 (.pointer (some ⟨g11,0,none⟩))).run Tryz.prog W=.ok (.agg (jh S2)) W)
  (ap:∀ W,Below w.heap.size w W->(Instr.loadAt 41 (.pointer (some ⟨g6,0,none⟩))).run Tryz.prog W=.ok (.agg (jh U)) W)
  (c1:yp w ta [[97]] [[98]] S true) (c2:yp w ta [[97]] [[98]] S1 false) (c3:yp w ta [[97]] [[98]] S2 false) (c4:yp w ta [[97],[98]] [[98],[97]] U true) (c5:yp w ta [[97]] [[97]] S false)
  (fin:∀ (vs:Nat->Value) (W:World),vs 49=.bool true->Below w.heap.size w W->Q .normal (oJ l 0 vs a0) W):(Code.region id l.toArray true).wp Tryz.prog Q a0 w:=by
 obtain⟨kd,ad⟩:∃ kd,kd=Tr (dV iq ta) (.agg (jh S)) (.agg (jh S1)) (.agg (jh S2)) (.agg (jh U)):=⟨_,rfl⟩;have hp:∀ i j,TM l.toArray i j↔(cB.getD i 0).testBit j=true:=fun i j=>by unfold TM;rw[ao]
 have I:=fun i=>Q7 hF i;have ai:Below w.heap.size w w.drew:=dF (fe _ _);refine tZ (F0:=fun _=>False) (w0:=w.drew) (X0:=bG) cC (kH kd) (kR kd) hm aq
  (fun j vs ar h=>aeQ (p:=TM l.toArray) (fun j k hk=>?_) j vs ar h) aN (fun _ _=>aO) (aI.begin w.drew) ?_ ?_
 ·rw[ad] at hk;have ag:j<50:=by
   by_cases h:j<50
   ·exact h
   ·rw[pN (by show 50<=j;omega)] at hk;cases hk
  have ae:((List.range 50).all fun j=>match (Tr (dV iq ta) (.agg (jh S)) (.agg (jh S1)) (.agg (jh S2)) (.agg (jh U)))[j]? with
   | some (.nm k)=>decide (k<j)&&(cB.getD j 0).testBit k
   | _=>true)=true:=by kernel_rfl
  have h2:=List.all_eq_true.1 ae j (List.mem_range.2 ag);simp only[hk,gA,decide_eq_true_eq] at h2;exact⟨h2.1,(hp _ _).2 h2.2⟩
 ·intro i o hi L c vs W X hX hL hs hH hr;have J:=Yf hF hi;have on:∀ k d,(cB.getD i 0).testBit k=true->k<i->iy l.toArray k=some d->c.tmps[d]?=some (vs k):=fun k d hb hk hd=>hs.on k d (hL k ((hp _ _).2 hb) hk) hd;have hh:∀ k,(cB.getD i 0).testBit k=true->k<i->kH kd k vs:=fun k hb hk=>hH k (hL k ((hp _ _).2 hb) hk);have M:∀ k d v,(cB.getD i 0).testBit k=true->k<i->(cF[k]?).bind (·.2.1)=some d->kd[k]?=some (.val v)->c.tmps[d]?=some v:=fun k d v hb hk hd hv=>by
   have:=hh k hb hk;unfold kH at this;rw[hv] at this;rw[on k d hb hk ((I k).trans hd),this]
  have cZ:Below w.heap.size w W:=ai.trans (hr.cZ.mono (fy _))
  have off:∀ t v,t ∉ cF.filterMap (·.2.1)->a0.tmps[t]?=some v->c.eval (.tmp t)=v:=fun t v ht hv=>jc ((hs.off t (fun k hk hd=>by
   rw[I] at hd
   exact ht (Q8 hd))).trans hv)
  have zv:∀ v,kd[i]?=some (.val v)->qJ cC i=[]->kH kd i (upd vs i v)/\aI eR w.drew (aj (kR kd i (upd vs i v)) X) W:=fun v hv hc=>by
   unfold kH kR;rw[hv];rw[hc] at hr;exact⟨eY,hr⟩
  have zb:∀ (n:Nat) (xs:Array (Nat × Operand)) (m:List Bs),kd[i]?=some (.bs m)->qJ cC i=[]->Yi n xs m->Region.wanted o (yielded l.toArray c.tmps)=true->o.op=.buildSlice 26 n xs->Et Tryz.prog l.toArray o c W fun v W'=>kH kd i (upd vs i v)/\aI eR w.drew (aj (kR kd i (upd vs i v)) X) W':=fun n xs m hv hc hb hw aa=>by
   refine Yd (hb c W) hw aa rfl ?_;unfold kH kR;rw[hv];rw[hc] at hr;simp only[eY];exact⟨rfl,aH (hr.perm (jA X)) hX _ 9⟩
  have bk:∀ k (m:List Bs),(cB.getD i 0).testBit k=true->k<i->kd[k]?=some (.bs m)->vs k=.slice (some ⟨kJ (vs k),0,none⟩) m.length m.length:=fun k m hb hk hv=>by
   have:=hh k hb hk;unfold kH at this;rw[hv] at this;exact this
  have zn:∀ k d (m:List Bs),(cB.getD i 0).testBit k=true->k<i->(cF[k]?).bind (·.2.1)=some d->kd[k]?=some (.bs m)->kd[i]?=some (.nm k)->qJ cC i=[]->Region.wanted o (yielded l.toArray c.tmps)=true->o.op=Bf 19 #[.tmp d] #[26]->Et Tryz.prog l.toArray o c W fun v W'=>kH kd i (upd vs i v)/\aI eR w.drew (aj (kR kd i (upd vs i v)) X) W':=fun k d m hb hk hd hv ax hc hw aa=>by
   have g:=bk k m hb hk hv;have e:=jc (on k d hb hk ((I k).trans hd));refine y9 (vs:=#[vs k]) Mm hw aa (by simp[e]) ?_;rw[g];refine(Ep _ _ _ W).mono ?_;rintro e9 w' ⟨rfl,hbl⟩;rw[hc] at hr;refine⟨_,rfl,?_⟩;unfold kH kR;rw[ax];have am:k≠i:=by omega
   simp only[eY,upd_ne am];exact⟨congrArg (fun v=>Value.agg #[.int .i64 1,v]) g.symm,hr.below (show aT.Ok _ from aB aN hX) hbl⟩
  have zc:∀ s1 s2 s3 s4 (n m:List Bs) (S:SL) (b:Bool),yp w ta n m S b->qJ cC i=[i-5,i-3]->kd[i]?=some (.val (.bool b))->kd[i-6]?=some (.val (dV iq ta))->kd[i-5]?=some (.bs n)->kd[i-4]?=some (.nm (i-5))->kd[i-3]?=some (.bs m)->kd[i-2]?=some (.nm (i-3))->kd[i-1]?=some (.val (.agg (jh S))) ->
    (∀ k,k<6->(cB.getD i 0).testBit (i-6+k)=true)->6<=i->(cF[i-6]?).bind (·.2.1)=some s1->(cF[i-4]?).bind (·.2.1)=some s2->(cF[i-2]?).bind (·.2.1)=some s3->(cF[i-1]?).bind (·.2.1)=some s4->Region.wanted o (yielded l.toArray c.tmps)=true->o.op=Bf 14 #[.tmp s1,.tmp s2,.tmp s3,.tmp s4] #[25,28,28,41] ->
    Et Tryz.prog l.toArray o c W fun v W'=>kH kd i (upd vs i v)/\aI eR w.drew (aj (kR kd i (upd vs i v)) X) W':=fun s1 s2 s3 s4 n m S b hC hc hk k0 k1 k2 k3 k4 k5 hb h6 e1 e2 e3 e4 hw aa=>by
   have q0:=hb 0 eS;have q1:(cB.getD i 0).testBit (i-5)=true:=by have:=hb 1 eS;rwa [show i-6+1=i-5 by omega] at this
   have q2:(cB.getD i 0).testBit (i-4)=true:=by have:=hb 2 eS;rwa [show i-6+2=i-4 by omega] at this
   have q3:(cB.getD i 0).testBit (i-3)=true:=by have:=hb 3 eS;rwa [show i-6+3=i-3 by omega] at this
   have q4:(cB.getD i 0).testBit (i-2)=true:=by have:=hb 4 eS;rwa [show i-6+4=i-2 by omega] at this
   have q5:(cB.getD i 0).testBit (i-1)=true:=by have:=hb 5 eS;rwa [show i-6+5=i-1 by omega] at this
   have v1:=jc (M (i-6) s1 _ q0 eL e1 k0);have v2:=jc (on (i-4) s2 q2 eL ((I _).trans e2));have v3:=jc (on (i-2) s3 q4 eL ((I _).trans e3));have v4:=jc (M (i-1) s4 _ q5 eL e4 k5);have g1:=bk (i-5) n q1 eL k1;have g3:=bk (i-3) m q3 eL k3;have n2:=hh (i-4) q2 eL;have n4:=hh (i-2) q4 eL;unfold kH at n2 n4;rw[k2] at n2;rw[k4] at n4;rw[hc] at hr;have ac:aI eR w.drew (aj (aj (kR kd (i-5) vs) (aj (kR kd (i-3) vs) bG)) X) W:=hr;have r1:kR kd (i-5) vs=av (kJ (vs (i-5))) (kM n).toArray 9:=by unfold kR;rw[k1]
   have r3:kR kd (i-3) vs=av (kJ (vs (i-3))) (kM m).toArray 9:=by unfold kR;rw[k3]
   rw[r1,r3] at ac;obtain⟨_,f1⟩:=ac.assoc.fst;obtain⟨_,f3⟩:=ac.assoc.drop.assoc.fst
   refine y9 (vs:=#[dV iq ta,.agg (fh 1 (some ⟨kJ (vs (i-5)),0,none⟩) n.length n.length),.agg (fh 1 (some ⟨kJ (vs (i-3)),0,none⟩) m.length m.length),.agg (jh S)]) f14 hw aa (by
    simp[v1,v2,v3,v4]
    exact⟨n2.trans (congrArg (fun v=>Value.agg #[.int .i64 1,v]) g1),n4.trans (congrArg (fun v=>Value.agg #[.int .i64 1,v]) g3)⟩) ?_
   refine(hC W _ _ cZ (za f1) (za f3)).mono ?_;rintro e9 w' ⟨rfl,hbl⟩;refine⟨_,rfl,?_⟩;unfold kH kR;rw[hk];exact⟨eY,(ac.drop.below hX hbl).perm (jA X).symm⟩
  subst ad;have ag:i<50:=(List.getElem?_eq_some_iff.1 J).1;clear hh bk on;rcases (by omega:i=0\/i=1\/i=2\/i=3\/i=4\/i=5\/i=6\/i=7\/i=8\/i=9\/i=10\/i=11\/i=12\/i=13\/i=14\/i=15\/i=16\/i=17\/i=18\/i=19\/i=20\/i=21\/i=22\/i=23\/i=24\/i=25\/i=26\/i=27\/i=28\/i=29\/i=30\/i=31\/i=32\/i=33\/i=34\/i=35\/i=36\/i=37\/i=38\/i=39\/i=40\/i=41\/i=42\/i=43\/i=44\/i=45\/i=46\/i=47\/i=48\/i=49) with rfl|rfl|rfl|rfl|rfl|rfl|rfl|rfl|rfl|rfl|rfl|rfl|rfl|rfl|rfl|rfl|rfl|rfl|rfl|rfl|rfl|rfl|rfl|rfl|rfl|rfl|rfl|rfl|rfl|rfl|rfl|rfl|rfl|rfl|rfl|rfl|rfl|rfl|rfl|rfl|rfl|rfl|rfl|rfl|rfl|rfl|rfl|rfl|rfl|rfl
  ·exact oh (jv (dU J rfl)) (.inl (dS J rfl)) (off 12 _ eS az) (zv _ rfl rfl)
  ·exact oh (jv (dU J rfl)) (.inl (dS J rfl)) (jc (M 0 _ _ eS eS rfl rfl)) (zv _ rfl rfl)
  ·exact lK (ab W cZ) (fD (dU J rfl) ((I 1).trans rfl) (M 1 _ _ eS eS rfl rfl)) (dS J rfl) (off 1 _ eS t1) (zv _ rfl rfl)
  ·exact zb _ _ _ rfl rfl OJ (fD (dU J rfl) ((I 1).trans rfl) (M 1 _ _ eS eS rfl rfl)) (dS J rfl)
  ·exact zn 3 _ _ eS eS rfl rfl rfl rfl (fD (dU J rfl) ((I 1).trans rfl) (M 1 _ _ eS eS rfl rfl)) (dS J rfl)
  ·exact zb _ _ _ rfl rfl Yj (fD (dU J rfl) ((I 1).trans rfl) (M 1 _ _ eS eS rfl rfl)) (dS J rfl)
  ·exact zn 5 _ _ eS eS rfl rfl rfl rfl (fD (dU J rfl) ((I 1).trans rfl) (M 1 _ _ eS eS rfl rfl)) (dS J rfl)
  ·exact lK (af W cZ) (fD (dU J rfl) ((I 1).trans rfl) (M 1 _ _ eS eS rfl rfl)) (dS J rfl) (off 2 _ eS t2) (zv _ rfl rfl)
  ·exact zc _ _ _ _ _ _ _ _ c1 rfl rfl rfl rfl rfl rfl rfl rfl eS eS rfl rfl rfl rfl (fD (dU J rfl) ((I 1).trans rfl) (M 1 _ _ eS eS rfl rfl)) (dS J rfl)
  ·exact ze (jv (dU J rfl)) (dS J rfl) (jc (M 1 _ _ eS eS rfl rfl)) (jc (M 8 _ _ eS eS rfl rfl)) (zv _ rfl rfl)
  ·exact oh (jv (dU J rfl)) (.inl (dS J rfl)) (jc (M 9 _ _ eS eS rfl rfl)) (zv _ rfl rfl)
  ·exact lK (ab W cZ) (fD (dU J rfl) ((I 10).trans rfl) (M 10 _ _ eS eS rfl rfl)) (dS J rfl) (off 1 _ eS t1) (zv _ rfl rfl)
  ·exact zb _ _ _ rfl rfl OJ (fD (dU J rfl) ((I 10).trans rfl) (M 10 _ _ eS eS rfl rfl)) (dS J rfl)
  ·exact zn 12 _ _ eS eS rfl rfl rfl rfl (fD (dU J rfl) ((I 10).trans rfl) (M 10 _ _ eS eS rfl rfl)) (dS J rfl)
  ·exact zb _ _ _ rfl rfl Yj (fD (dU J rfl) ((I 10).trans rfl) (M 10 _ _ eS eS rfl rfl)) (dS J rfl)
  ·exact zn 14 _ _ eS eS rfl rfl rfl rfl (fD (dU J rfl) ((I 10).trans rfl) (M 10 _ _ eS eS rfl rfl)) (dS J rfl)
  ·exact lK (al W cZ) (fD (dU J rfl) ((I 10).trans rfl) (M 10 _ _ eS eS rfl rfl)) (dS J rfl) (off 10 _ eS an) (zv _ rfl rfl)
  ·exact zc _ _ _ _ _ _ _ _ c2 rfl rfl rfl rfl rfl rfl rfl rfl eS eS rfl rfl rfl rfl (fD (dU J rfl) ((I 10).trans rfl) (M 10 _ _ eS eS rfl rfl)) (dS J rfl)
  ·exact OI (fD (dU J rfl) ((I 10).trans rfl) (M 10 _ _ eS eS rfl rfl)) (dS J rfl) (jc (M 17 _ _ eS eS rfl rfl)) (zv _ rfl rfl)
  ·exact ze (jv (dU J rfl)) (dS J rfl) (jc (M 10 _ _ eS eS rfl rfl)) (jc (M 18 _ _ eS eS rfl rfl)) (zv _ rfl rfl)
  ·exact oh (jv (dU J rfl)) (.inl (dS J rfl)) (jc (M 19 _ _ eS eS rfl rfl)) (zv _ rfl rfl)
  ·exact lK (ab W cZ) (fD (dU J rfl) ((I 20).trans rfl) (M 20 _ _ eS eS rfl rfl)) (dS J rfl) (off 1 _ eS t1) (zv _ rfl rfl)
  ·exact zb _ _ _ rfl rfl OJ (fD (dU J rfl) ((I 20).trans rfl) (M 20 _ _ eS eS rfl rfl)) (dS J rfl)
  ·exact zn 22 _ _ eS eS rfl rfl rfl rfl (fD (dU J rfl) ((I 20).trans rfl) (M 20 _ _ eS eS rfl rfl)) (dS J rfl)
  ·exact zb _ _ _ rfl rfl Yj (fD (dU J rfl) ((I 20).trans rfl) (M 20 _ _ eS eS rfl rfl)) (dS J rfl)
  ·exact zn 24 _ _ eS eS rfl rfl rfl rfl (fD (dU J rfl) ((I 20).trans rfl) (M 20 _ _ eS eS rfl rfl)) (dS J rfl)
  ·exact lK (ak W cZ) (fD (dU J rfl) ((I 20).trans rfl) (M 20 _ _ eS eS rfl rfl)) (dS J rfl) (off 11 _ eS aw) (zv _ rfl rfl)
  ·exact zc _ _ _ _ _ _ _ _ c3 rfl rfl rfl rfl rfl rfl rfl rfl eS eS rfl rfl rfl rfl (fD (dU J rfl) ((I 20).trans rfl) (M 20 _ _ eS eS rfl rfl)) (dS J rfl)
  ·exact OI (fD (dU J rfl) ((I 20).trans rfl) (M 20 _ _ eS eS rfl rfl)) (dS J rfl) (jc (M 27 _ _ eS eS rfl rfl)) (zv _ rfl rfl)
  ·exact ze (jv (dU J rfl)) (dS J rfl) (jc (M 20 _ _ eS eS rfl rfl)) (jc (M 28 _ _ eS eS rfl rfl)) (zv _ rfl rfl)
  ·exact oh (jv (dU J rfl)) (.inl (dS J rfl)) (jc (M 29 _ _ eS eS rfl rfl)) (zv _ rfl rfl)
  ·exact lK (ab W cZ) (fD (dU J rfl) ((I 30).trans rfl) (M 30 _ _ eS eS rfl rfl)) (dS J rfl) (off 1 _ eS t1) (zv _ rfl rfl)
  ·exact zb _ _ _ rfl rfl Yk (fD (dU J rfl) ((I 30).trans rfl) (M 30 _ _ eS eS rfl rfl)) (dS J rfl)
  ·exact zn 32 _ _ eS eS rfl rfl rfl rfl (fD (dU J rfl) ((I 30).trans rfl) (M 30 _ _ eS eS rfl rfl)) (dS J rfl)
  ·exact zb _ _ _ rfl rfl Yl (fD (dU J rfl) ((I 30).trans rfl) (M 30 _ _ eS eS rfl rfl)) (dS J rfl)
  ·exact zn 34 _ _ eS eS rfl rfl rfl rfl (fD (dU J rfl) ((I 30).trans rfl) (M 30 _ _ eS eS rfl rfl)) (dS J rfl)
  ·exact lK (ap W cZ) (fD (dU J rfl) ((I 30).trans rfl) (M 30 _ _ eS eS rfl rfl)) (dS J rfl) (off 6 _ eS t6) (zv _ rfl rfl)
  ·exact zc _ _ _ _ _ _ _ _ c4 rfl rfl rfl rfl rfl rfl rfl rfl eS eS rfl rfl rfl rfl (fD (dU J rfl) ((I 30).trans rfl) (M 30 _ _ eS eS rfl rfl)) (dS J rfl)
  ·exact ze (jv (dU J rfl)) (dS J rfl) (jc (M 30 _ _ eS eS rfl rfl)) (jc (M 37 _ _ eS eS rfl rfl)) (zv _ rfl rfl)
  ·exact oh (jv (dU J rfl)) (.inl (dS J rfl)) (jc (M 38 _ _ eS eS rfl rfl)) (zv _ rfl rfl)
  ·exact lK (ab W cZ) (fD (dU J rfl) ((I 39).trans rfl) (M 39 _ _ eS eS rfl rfl)) (dS J rfl) (off 1 _ eS t1) (zv _ rfl rfl)
  ·exact zb _ _ _ rfl rfl OJ (fD (dU J rfl) ((I 39).trans rfl) (M 39 _ _ eS eS rfl rfl)) (dS J rfl)
  ·exact zn 41 _ _ eS eS rfl rfl rfl rfl (fD (dU J rfl) ((I 39).trans rfl) (M 39 _ _ eS eS rfl rfl)) (dS J rfl)
  ·exact zb _ _ _ rfl rfl OJ (fD (dU J rfl) ((I 39).trans rfl) (M 39 _ _ eS eS rfl rfl)) (dS J rfl)
  ·exact zn 43 _ _ eS eS rfl rfl rfl rfl (fD (dU J rfl) ((I 39).trans rfl) (M 39 _ _ eS eS rfl rfl)) (dS J rfl)
  ·exact lK (af W cZ) (fD (dU J rfl) ((I 39).trans rfl) (M 39 _ _ eS eS rfl rfl)) (dS J rfl) (off 2 _ eS t2) (zv _ rfl rfl)
  ·exact zc _ _ _ _ _ _ _ _ c5 rfl rfl rfl rfl rfl rfl rfl rfl eS eS rfl rfl rfl rfl (fD (dU J rfl) ((I 39).trans rfl) (M 39 _ _ eS eS rfl rfl)) (dS J rfl)
  ·exact OI (fD (dU J rfl) ((I 39).trans rfl) (M 39 _ _ eS eS rfl rfl)) (dS J rfl) (jc (M 46 _ _ eS eS rfl rfl)) (zv _ rfl rfl)
  ·exact ze (jv (dU J rfl)) (dS J rfl) (jc (M 39 _ _ eS eS rfl rfl)) (jc (M 47 _ _ eS eS rfl rfl)) (zv _ rfl rfl)
  ·exact oh (jv (dU J rfl)) (.inr (dS J rfl)) (jc (M 48 _ _ eS eS rfl rfl)) (zv _ rfl rfl)
 ·intro vs W hH hr;have hn:l.length=50:=by rw[<-gh (f:=Yz),hF];rfl
  have h:=hH 49 eL;unfold kH at h;rw[ad] at h;exact fin vs W h (ai.trans (hr.cZ.mono (fy _)))
def EO (W:World) (g:Nat) (s:SL):Prop:=(o6 W g (.int .i64 s.b) (.slice s.A s.ws.length s.c) (.slice s.u.A s.U.length s.u.c) (.slice s.v.A s.V.length s.v.c) (.slice s.g.A s.G.length s.g.c))
variable {g:Nat}{s:SL}{F:Nat->Prop}{l:List Int}
theorem EO.below {W':World}   (h:EO W g s) (hb:Below W.heap.size W W'):EO W' g s:=⟨aG h.1 hb,aG h.2.1 hb,aG h.2.2.1 hb,aG h.2.2.2.1 hb,aG h.2.2.2.2 hb⟩
theorem Ym     (h:av g (jh s) 41 W F):EO W g s:=⟨ay h rfl,ay h rfl,ay h rfl,ay h rfl,ay h rfl⟩
theorem zh    (h:EO W g s):(Instr.loadAt 41 (.pointer (some ⟨g,0,none⟩))).run Tryz.prog W=.ok (.agg (jh s)) W:=by
 obtain⟨z0,z1,z2,z3,z4⟩:=h;unfold jh;go_simp
theorem aeu  (h:∃ z,s.m.ws=[z]/\z.h=10/\z.ps.length=3):∃ e,s.ws=[e]/\e.h=10/\e.ps.length=3:=by
 obtain⟨z,h1,M,h3⟩:=h;have I:s.ws.map WL.m=[z]:=h1;cases J:s.ws with
 | nil=>rw[J] at I;cases I
 | cons e l=>
  rw[J] at I;cases l with
  | nil=>
   rw[lk,pH] at I;injection I with I
   subst I;exact⟨e,rfl,M,by rw[<-h3];exact(gh ..).symm⟩
  | cons e2 l=>rw[lk,lk] at I;injection I with _ I;cases I
theorem Yn (W:World) (l:List Int):iF (W.alloc (.cells (l.map (Value.int .i64)).toArray 3)) (some ⟨W.heap.size,0,none⟩) l:=
 MG (cs:=(l.map (Value.int .i64)).toArray) iz (fun u hu=>by
  obtain⟨x,-,rfl⟩:=List.mem_map.1 (by simpa using hu:u ∈ l.map (Value.int .i64))
  rfl)
theorem ints_at     (h:iF W A l) (I:l.length<=1000000):Calls Tryz.prog 20 #[.slice A l.length c,.slice (some ⟨W.heap.size,0,none⟩) l.length l.length] (W.alloc (.cells (l.map (Value.int .i64)).toArray 3)) (aS W (.bool true)):=by
 refine(Sl.X4 (c:=c) (d:=l.length) (h.below (bF W _)) (Yn W l) I).mono ?_;rintro e w' ⟨rfl,hb⟩;exact⟨by rw[decide_eq_true rfl],aF (bF W _) hb⟩
theorem Yo     (h:av g (l.map (Value.int .i64)).toArray 3 W F):iF W (some ⟨g,0,none⟩) l:=by
 refine⟨by simp,fun u I=>?_,fun _=>⟨_,rfl,fun j u I=>?_⟩⟩
 ·obtain⟨x,-,rfl⟩:=List.mem_map.1 I;rfl
 ·have e:(⟨g,0,none⟩:Addr).add j=⟨g,j,none⟩:=by unfold Addr.add;split<;>simp_all
  rw[e];exact ay h (by rw[mj];exact I)
theorem Er  {ta:TA} {a b:aQ}  {r:Bool} (hT:∀ W,Below w.heap.size w W->kr W iq ta) (hz:LZ w) (hs:∀ W,Below w.heap.size w W->SR W s) (J:XZ s) (ka:a.k=1) (kb:b.k=1) (aa:∀ x ∈ a.ws,x.length<=1000000) (M:∀ x ∈ b.ws,x.length<=1000000) (I:a.ws.length<=1000000) (ab:b.ws.length<=1000000)
  (hr:r=true↔fG iq a b s.m):yp w ta a.ws b.ws s r:=by
 intro W A B hb hA hB;have h:=iH (ca:=a.ws.length) (cb:=b.ws.length) (hT W hb) (hz.below hb) hA hB I ab aa M (hs W hb) J;unfold vI at h;rw[ka,kb] at h;refine h.mono ?_;rintro e w' ⟨q,rfl,hq,hbl⟩;refine⟨?_,hbl⟩;have:q=r:=by rw[tg,hq,hr]
 rw[this]
def TC (W:World) (g:Nat) (a:TA):Prop:=(lR W g (.slice a.A 2 a.c) (.slice a.D 0 a.d) (.slice a.E 0 a.e) (.int .i64 5) (.int .i64 1) (.int .i64 2))
theorem uM   {a:TA} (h:TC W g a):(Instr.loadAt 25 (.pointer (some ⟨g,0,none⟩))).run Tryz.prog W=.ok (dV iq a) W:=by
 obtain⟨z0,z1,z2,z3,z4,z5⟩:=h
 show _=Result.ok (Value.agg (fN a.A 2 a.c a.D 0 a.d a.E 0 a.e 5 1 2)) W
 go_simp
theorem uN (w:World) (hz:LZ w):Calls Tryz.prog 10 #[] w (aS w (.bool true)):=by
 have HZ:=au hz;clear hz
 go_enter Tryz.func10,Tryz.ntmps10
 go_wp2_with fail;refine(OH w).mono ?_;rintro e9 w1 ⟨ta,rfl,hb,hT⟩;have h1:=aH (aI.begin w1) aO (dR iq ta) 25;have bn:=au (aF hb h1.cZ);have HT:=au (hT.below h1.cZ)
 have HC:=au (fun W (h:Below (w1.alloc (.cells (dR iq ta) 25)).heap.size (w1.alloc (.cells (dR iq ta) 25)) W)=>(show TC W w1.heap.size ta from by
  obtain⟨_,f⟩:=(h1.below aO h).fst
  exact⟨ay f rfl,ay f rfl,ay f rfl,ay f rfl,ay f rfl,ay f rfl⟩))
 clear hb hT h1;rw[show dV iq ta=.agg (fN ta.A 2 ta.c ta.D 0 ta.d ta.E 0 ta.e 5 1 2) from rfl];dsimp only;go_upto_region 2 with (fail);rw[show dR iq ta=(fN ta.A 2 ta.c ta.D 0 ta.d ta.E 0 ta.e 5 1 2) from rfl] at *
 generalize w1.alloc (.cells (fN ta.A 2 ta.c ta.D 0 ta.d ta.E 0 ta.e 5 1 2) 25)=w2 at *
 generalize w1.heap.size=g1 at HC ⊢;clear w1;have ag:=au (fun W (h:Below w2.heap.size w2 W)=>(aF bn.o h:Below w.heap.size w W));have ax:=au (fe w2.heap.size w2);refine vE (ta:=ta) (g1:=g1) (a:=Jh) (b:=OD) (bd:=10) eQ rfl eQ eQ rfl eS rfl rfl eS eS eS eS (HZ.o.below (ag.o _ ax.o)) (HT.o.below ax.o) (fun W h=>uM (HC.o W (aF ax.o h))) OJ Yj ?_;rintro vs I er A B gS w3 e0 e1 e2 e3 e4 e5 e6 e7 e8 e9 ad ab hr;have ar:=au (aF (dF ax.o) hr.cZ)
 have a8:=au (fun W (h:Below w3.heap.size w3 W)=>(show EO W gS I from by
  obtain⟨_,f⟩:=(hr.below aO h).drop.fst
  exact Ym f))
 have a3:=au (fun W (h:Below w3.heap.size w3 W)=>(show SR W I from by
  obtain⟨_,f⟩:=(hr.below aO h).fst
  exact L4 f))
 have ae:=au (show XZ I from by
  obtain⟨_,f⟩:=hr.fst
  exact Ji ab f eS eS)
 have a2:=au (adj ab);obtain rfl:er=0:=a2.o.1.1;have aa:=au (fe w3.heap.size w3);clear hr ab ax;simp only[oJ,Act.put,ja,i6,i7,Nat.reduceAdd];rw[e9,ad];clear e0 e1 e2 e3 e4 e5 e6 e7 e8 e9 ad
 try dsimp only
 go_upto_region 3 with (fail);refine vE (ta:=ta) (g1:=g1) (a:=Jh) (b:=OD) (bd:=11) eQ rfl eQ eQ rfl eS rfl rfl eS eS eS eS (HZ.o.below (ag.o _ ar.o)) (HT.o.below ar.o) (fun W h=>uM (HC.o W (aF ar.o h))) OJ Yj ?_;rintro vs sX er A B gX w4 e0 e1 e2 e3 e4 e5 e6 e7 e8 e9 ad ab hr;have aw:=au (aF (dF ar.o) hr.cZ);obtain rfl:er=11:=Q0 MC eS eS eS ab;have ac:=au (aF aa.o (aF (dF (fe _ _)) hr.cZ));clear aa;have aa:=ac;clear ac;clear hr ab ar;simp only[oJ,Act.put,ja,i6,i7,Nat.reduceAdd];rw[e9,ad];clear e0 e1 e2 e3 e4 e5 e6 e7 e8 e9 ad
 try dsimp only
 go_upto_region 4 with (fail);refine vE (ta:=ta) (g1:=g1) (a:=Ha) (b:=Hb) (bd:=1) eQ rfl eQ eQ rfl eS rfl rfl eS eS eS eS (HZ.o.below (ag.o _ aw.o)) (HT.o.below aw.o) (fun W h=>uM (HC.o W (aF aw.o h))) Yk Yl ?_;rintro vs sU er A B gU w5 e0 e1 e2 e3 e4 e5 e6 e7 e8 e9 ad ab hr;have aq:=au (aF (dF aw.o) hr.cZ)
 have be:=au (fun W (h:Below w5.heap.size w5 W)=>(show EO W gU sU from by
  obtain⟨_,f⟩:=(hr.below aO h).drop.fst
  exact Ym f))
 have bo:=au (fun W (h:Below w5.heap.size w5 W)=>(show SR W sU from by
  obtain⟨_,f⟩:=(hr.below aO h).fst
  exact L4 f))
 have bi:=au (show XZ sU from by
  obtain⟨_,f⟩:=hr.fst
  exact Ji ab f eS eS)
 have a6:=au (ME S5 eS eS eS ab);obtain rfl:er=0:=a6.o.1;have ac:=au (aF aa.o (aF (dF (fe _ _)) hr.cZ));clear aa;have aa:=ac;clear ac;have ao:=au (fe w5.heap.size w5);clear hr ab aw;simp only[oJ,Act.put,ja,i6,i7,Nat.reduceAdd];rw[e9,ad];clear e0 e1 e2 e3 e4 e5 e6 e7 e8 e9 ad
 try dsimp only
 go_upto_region 5 with (fail);refine vE (ta:=ta) (g1:=g1) (a:=Ha) (b:=Hb) (bd:=2) eQ rfl eQ eQ rfl eS rfl rfl eS eS eS eS (HZ.o.below (ag.o _ aq.o)) (HT.o.below aq.o) (fun W h=>uM (HC.o W (aF aq.o h))) Yk Yl ?_;rintro vs sY er A B gY w6 e0 e1 e2 e3 e4 e5 e6 e7 e8 e9 ad ab hr;have bp:=au (aF (dF aq.o) hr.cZ);obtain rfl:er=11:=Q0 S5 eS eS eS ab;have ac:=au (aF aa.o (aF (dF (fe _ _)) hr.cZ));clear aa;have aa:=ac;clear ac;have aE:=au (aF ao.o (aF (dF (fe _ _)) hr.cZ));clear ao;have ao:=aE;clear aE;clear hr ab aq;simp only[oJ,Act.put,ja,i6,i7,Nat.reduceAdd];rw[e9,ad];clear e0 e1 e2 e3 e4 e5 e6 e7 e8 e9 ad
 try dsimp only
 obtain⟨⟨-,kb,kU,kV,kG⟩,kW,kC⟩:=a2.o;obtain⟨e,al,bf,a9⟩:=aeu kW;have bk:=au (show fG iq Jh OD I.m from kC);have a5:=au (show I.b=10 from kb);have ba:sU.ws.length=4:=(gh ..).symm.trans a6.o.2.1;have hV:∀ W,Below w6.heap.size w6 W->W.cell? ⟨gS,0,none⟩=some (.int .i64 10)/\W.cell? ⟨gS,1,none⟩=some (.slice I.A 1 I.c)/\W.cell? ⟨gS,2,none⟩=some (.slice I.u.A 1 I.u.c)/\W.cell? ⟨gS,3,none⟩=some (.slice I.v.A 1 I.v.c)/\W.cell? ⟨gS,4,none⟩=some (.slice I.g.A 4 I.g.c)/\W.cell? ⟨gU,1,none⟩=some (.slice sU.A 4 sU.c):=fun W h=>by
  have g:=a8.o W (aF aa.o h);have g2:=be.o W (aF ao.o h);have e1:I.U=[5]:=kU;have e2:I.V=[5]:=kV;have e3:I.G=[10,5,5,0]:=kG;unfold EO at g g2;rw[a5.o,al,e1,e2,e3] at g;rw[ba] at g2;exact⟨g.1,g.2.1,g.2.2.1,g.2.2.2.1,g.2.2.2.2,g2.2.1⟩
 have am:=au hV;have hR:∃ bb o,I.A=some ⟨bb,o,none⟩/\∀ W,Below w6.heap.size w6 W->W.cell? ⟨bb,o+2,none⟩=some (.int .i64 10)/\W.cell? ⟨bb,o+3,none⟩=some (.slice e.A 3 e.c):=by
  have g:=(a3.o w6 aa.o).ws;obtain⟨bb,o,hB,hc⟩:=sD.at (R:=mJ) (fun _=>rfl) eS g.row (by simp[al]);refine⟨bb,o,hB,fun W h=>?_⟩;have k2:=hc W h 0 (by simp[al]) 2 _ rfl;have k3:=hc W h 0 (by simp[al]) 3 _ rfl;simp only[al,k8,bf,a9,sk,pk] at k2 k3;exact⟨k2,k3⟩
 obtain⟨bb,o,hA,hR⟩:=hR;have aA:=au hR;rw[hA] at am;obtain⟨v0,v1,v2,v3,v4,u1⟩:=am.o w6 (fe _ _);obtain⟨r2,r3⟩:=aA.o w6 (fe _ _);have bh:=au (show I.ws.length=1/\I.U.length=1/\I.V.length=1/\I.G.length=4/\I.A=some ⟨bb,o,none⟩ from⟨by rw[al];rfl,congrArg List.length kU,congrArg List.length kV,congrArg List.length kG,hA⟩)
 have a1:=au (fun W (h:Below w6.heap.size w6 W)=>(show iF W I.u.A [5]/\iF W I.v.A [5]/\iF W I.g.A [10,5,5,0] from by
  have g:=a3.o W (aF aa.o h);have e1:I.U=[5]:=kU;have e2:I.V=[5]:=kV;have e3:I.G=[10,5,5,0]:=kG
  exact⟨e1 ▸ g.u,e2 ▸ g.v,e3 ▸ g.g⟩))
 clear hV hR kb kU kV kG kW kC al bf a9 ba a2 hA;go_upto_region 8 with (fail);have h8:=aH (aI.begin w6) aO (ie 10 (some ⟨bb,o,none⟩) 1 I.c I.u.A 1 I.u.c I.v.A 1 I.v.c I.g.A 4 I.g.c) 41;have bm:=au h8.cZ;clear r2 r3 u1;go_upto_region 9 with (fail);generalize w6.alloc (.cells (ie 10 (some ⟨bb,o,none⟩) 1 I.c I.u.A 1 I.u.c I.v.A 1 I.v.c I.g.A 4 I.g.c) 41)=w7 at *
 generalize w6.heap.size=g10 at h8 ⊢;obtain⟨z0,z1,z2,z3,z4,zf⟩:=gu h8;have h9:aI eR w6 (aj (av g10 (ie 11 (some ⟨bb,o,none⟩) 1 I.c I.u.A 1 I.u.c I.v.A 1 I.v.c I.g.A 4 I.g.c) 41) bG) _:=aJ h8 aO 0 (.int .i64 11);clear v0 v1 v2 v3 v4 h8 bm;have H9:=au h9;clear h9;go_upto_region 10 with (fail);generalize w7.setCell ⟨g10,0,none⟩ (.int .i64 11)=w8 at *
 clear z0 z1 z2 z3 z4 zf w7;obtain⟨v0,v1,v2,v3,v4,-⟩:=am.o w8 H9.o.cZ;have a4:=aH H9.o aO (ie 10 (some ⟨bb,o,none⟩) 1 I.c I.u.A 1 I.u.c I.v.A 1 I.v.c I.g.A 4 I.g.c) 41
 go_upto_region 11 with (fail);generalize w8.alloc (.cells (ie 10 (some ⟨bb,o,none⟩) 1 I.c I.u.A 1 I.u.c I.v.A 1 I.v.c I.g.A 4 I.g.c) 41)=w9 at *
 generalize w8.heap.size=g11 at a4 ⊢;have a7:=aH a4 aO (xN 10 5 5 1) 3;have a0:=a7.kN;obtain⟨z0,z1,z2,z3,z4,zf⟩:=gu a0;have bc:aI eR w6 (aj (av g11 (ie 10 (some ⟨bb,o,none⟩) 1 I.c I.u.A 1 I.u.c I.v.A 1 I.v.c (some ⟨w9.heap.size,0,none⟩) 4 4) 41) (aj (av w9.heap.size (xN 10 5 5 1) 3) (aj (av g10 (ie 11 (some ⟨bb,o,none⟩) 1 I.c I.u.A 1 I.u.c I.v.A 1 I.v.c I.g.A 4 I.g.c) 41) bG))) _:=aJ a0 aO 4 (.slice (some ⟨w9.heap.size,0,none⟩) 4 4);have M:=au bc;clear a4 a7 a0 bc v0 v1 v2 v3 v4 H9;go_upto_region 12 with (fail);generalize (w9.alloc (.cells (xN 10 5 5 1) 3)).setCell ⟨g11,4,none⟩ (.slice (some ⟨w9.heap.size,0,none⟩) 4 4)=an at *
 generalize w9.heap.size=gq at *
 clear z0 z1 z2 z3 z4 zf w8 w9;have J:=au (fe an.heap.size an);obtain⟨v0,v1,v2,v3,v4,-⟩:=am.o an (aF M.o.cZ J.o);obtain⟨r2,r3⟩:=aA.o an (aF M.o.cZ J.o);have K:=au (ints_at (W:=an) (l:=[5]) (c:=I.u.c) (a1.o an (aF M.o.cZ J.o)).1 eS);(try dsimp only[j7,lA] at K);go_wp2_with fail;refine K.o.mono ?_;rintro e9 az ⟨rfl,hb⟩;have ai:=au (aF J.o hb);clear K hb J v0 v1 v2 v3 v4 r2 r3;have J:=ai;clear ai;dsimp only;obtain⟨v0,v1,v2,v3,v4,-⟩:=am.o az (aF M.o.cZ J.o);obtain⟨r2,r3⟩:=aA.o az (aF M.o.cZ J.o);have K:=au (ints_at (W:=az) (l:=[5]) (c:=I.v.c) (a1.o az (aF M.o.cZ J.o)).2.1 eS);(try dsimp only[j7,lA] at K);go_wp2_with fail;refine K.o.mono ?_;rintro e9 aD ⟨rfl,hb⟩;have ai:=au (aF J.o hb);clear K hb J v0 v1 v2 v3 v4 r2 r3;have J:=ai;clear ai;dsimp only;obtain⟨v0,v1,v2,v3,v4,-⟩:=am.o aD (aF M.o.cZ J.o);obtain⟨r2,r3⟩:=aA.o aD (aF M.o.cZ J.o);have K:=au (ints_at (W:=aD) (l:=[10,5,5,0]) (c:=I.g.c) (a1.o aD (aF M.o.cZ J.o)).2.2 eS);(try dsimp only[j7,lA] at K);go_wp2_with fail;refine K.o.mono ?_;rintro e9 af ⟨rfl,hb⟩;have ai:=au (aF J.o hb);clear K hb J v0 v1 v2 v3 v4 r2 r3;have J:=ai;clear ai;dsimp only;obtain⟨v0,v1,v2,v3,v4,-⟩:=am.o af (aF M.o.cZ J.o);go_upto_region 13 with (fail);clear v0 v1 v2 v3 v4;have B6:=fun W (h:Below af.heap.size af W)=>(aF (aF M.o.cZ J.o) h:Below w6.heap.size w6 W);have BS:=fun W (h:Below af.heap.size af W)=>aF aa.o (B6 W h);have B2:=fun W (h:Below af.heap.size af W)=>aF bp.o (B6 W h);have BN:=fun W (h:Below af.heap.size af W)=>aF J.o h;have HL:=bh.o;have ap:=fun W h=>HT.o.below (B2 W h);have ak:=fun W h=>a3.o W (BS W h);have S2:∀ W,Below af.heap.size af W->SR W { I with G:=[10,5,5,1],g:=⟨some ⟨gq,0,none⟩,4⟩ }:=fun W h=>by
  have g:=ak W h;obtain⟨_,f⟩:=(M.o.below aO (BN W h)).drop.fst;exact⟨g.ws,g.u,g.v,Yo f⟩
 refine OL (ta:=ta) (g1:=g1) (g2:=gS) (g6:=gU) (g10:=g10) (g11:=g11) (S:=I) (S1:={ I with b:=11 }) (S2:={ I with G:=[10,5,5,1],g:=⟨some ⟨gq,0,none⟩,4⟩ }) (U:=sU) eQ rfl eQ eQ rfl rfl rfl rfl rfl rfl
  (fun W h=>uM (HC.o W (B2 W h))) (fun W h=>zh (a8.o W (BS W h))) (fun W h=>zh ?_) (fun W h=>zh ?_) (fun W h=>zh (be.o W (aF ao.o (B6 W h))))
  (Er (a:=Jh) (b:=OD) ap (HZ.o.below (ag.o _ (B2 _ (fe _ _)))) ak ae.o rfl rfl eS eS eS eS ⟨fun _=>bk.o,fun _=>rfl⟩)
  (Er (a:=Jh) (b:=OD) ap (HZ.o.below (ag.o _ (B2 _ (fe _ _)))) (fun W h=>⟨(ak W h).ws,(ak W h).u,(ak W h).v,(ak W h).g⟩) ⟨ae.o.w0,ae.o.w1,ae.o.u0,ae.o.v0,ae.o.g0⟩ rfl rfl eS eS eS eS ⟨fun h=>(by cases h),fun h=>absurd h (GJ MC (show(10:Int)<11 by decide))⟩)
  (Er (a:=Jh) (b:=OD) ap (HZ.o.below (ag.o _ (B2 _ (fe _ _)))) S2 ⟨ae.o.w0,ae.o.w1,ae.o.u0,ae.o.v0,(show 4<=1000000 by decide)⟩ rfl rfl eS eS eS eS ⟨fun h=>(by cases h),fun h=>absurd h (X5 (show(0:Int)<Asn.lF [10,5,5,1] 3 by decide))⟩)
  (Er (a:=Ha) (b:=Hb) ap (HZ.o.below (ag.o _ (B2 _ (fe _ _)))) (fun W h=>bo.o W (aF ao.o (B6 W h))) bi.o rfl rfl eS eS eS eS ⟨fun _=>a6.o.2.2,fun _=>rfl⟩)
  (Er (a:=Jh) (b:=Jh) ap (HZ.o.below (ag.o _ (B2 _ (fe _ _)))) ak ae.o rfl rfl eS eS eS eS ⟨fun h=>(by cases h),fun h=>absurd h (GJ aej (show(0:Int)<I.b by rw[a5.o];decide))⟩) ?_
 ·obtain⟨_,f⟩:=(M.o.below aO (BN W h)).drop.drop.fst;unfold EO;dsimp only;rw[HL.1,HL.2.1,HL.2.2.1,HL.2.2.2.1,HL.2.2.2.2];exact⟨ay f rfl,ay f rfl,ay f rfl,ay f rfl,ay f rfl⟩
 ·obtain⟨_,f⟩:=(M.o.below aO (BN W h)).fst;unfold EO;dsimp only;rw[a5.o,HL.1,HL.2.1,HL.2.2.1,HL.2.2.2.2];exact⟨ay f rfl,ay f rfl,ay f rfl,ay f rfl,ay f rfl⟩
 ·intro vs W bj hb;have HE:=au (ag.o W (B2 W hb));clear B6 BS B2 BN HL ap ak S2;simp only[oJ,Act.put,ja,i6,i7,Nat.reduceAdd];rw[bj]
  try dsimp only
  go_wp2;go_ret;exact aK rfl HE.o
structure Ev where
 n:aQ
 A:eV
 c:Nat
def Bg (z:Ev):Value:=.agg (fh z.n.k z.A z.n.ws.length z.c)
variable {a:aQ}
theorem aU   (h:rU T a b=true):(∀ {w:World} {t:TA},wC w T t->kr w T t)/\(T.rs.length<=60/\T.es.length<=60)/\(a.ws.length<=3/\b.ws.length<=3)/\(∀ s ∈ a.ws,s.length<=1000000)/\∀ s ∈ b.ws,s.length<=1000000:=by
 obtain⟨h1,M,h3,h4,J,h6⟩:=En.1 h;rw[tE J] at h1;rw[tE h6] at M;exact⟨fun hT=>hT.P3 h3,⟨(tY.1 h3).1.1,by omega⟩,⟨J,h6⟩,fun s I=>by have:=l7.1 (h1 s I);omega,fun s I=>by have:=l7.1 (M s I);omega⟩
theorem vF   (h:bT w eR (Yx s) W):SR W s:=by
 obtain⟨F,h1,-,-⟩:=h;exact L4 h1
theorem vG   {bd er:Int}   (h:bT w eR (Yx s) W) (hm:iJ T a b bd s.m er) (hr:T.rs.length<=60/\T.es.length<=60):XZ s:=by
 obtain⟨F,h1,-,-⟩:=h;exact Ji hm h1 hr.1 hr.2
open Go.ChangeShapes Go.WideShapes Go.ChangeAt Go.Deep Go.Shelf Go.Lib
theorem ad1:CaseExtra Tryz.prog Tryz.uH:={ n13:=by kernel_rfl,y13:=by kernel_rfl,c21:=by kernel_rfl,c51:=by kernel_rfl,c206:=by kernel_rfl,c208:=by kernel_rfl }
theorem u8X:U8Extra Tryz.prog Tryz.uG:={ n3:=by kernel_rfl,n4:=by kernel_rfl,y3:=by kernel_rfl,y4:=by kernel_rfl,c5:=by kernel_rfl,c119:=by kernel_rfl,c138:=by kernel_rfl }
theorem acW:Lays.n274 Tryz.prog Tryz.uH:={ Tryz.aaG with }
theorem acX:Lays.n260 Tryz.prog Tryz.uG:={ Tryz.aaF with }
def Qz:List (String × DataW Unit):=[("unicode/utf8.acceptRanges",Rows.laid_unicode_utf8_acceptRanges),("unicode.CaseRanges",Rows.laid_unicode_CaseRanges),("unicode/utf8.first",Rows.laid_unicode_utf8_first)]
variable {r:Reach}{b0:Nat}{ps:List MemPlace}
theorem LV  (h:laidMetH Tryz.prog Qz w) (hs:w.ShapedOpen Tryz.prog):LZ w:=by
 rw[MakeChecks.laidMetH_plain _ _ _ eQ] at h;have J:=laidMet.reads h (n:= "unicode/utf8.acceptRanges") (d:=Rows.laid_unicode_utf8_acceptRanges) (by simp[Qz]);have I:=laidMet.reads h (n:= "unicode.CaseRanges") (d:=Rows.laid_unicode_CaseRanges) (by simp[Qz]);have M:=laidMet.reads h (n:= "unicode/utf8.first") (d:=Rows.laid_unicode_utf8_first) (by simp[Qz]);rw[show(Rows.laid_unicode_CaseRanges:DataW Unit)=caseData from Pinned.caseRanges_eq] at I;rw[show(Rows.laid_unicode_utf8_first:DataW Unit)=firstData from Pinned.utf8First_eq] at M;rw[show(Rows.laid_unicode_utf8_acceptRanges:DataW Unit)=acceptData by kernel_rfl] at J;exact⟨caseVar_of_reads acW eQ ad1 I,utf8Tabs_of_reads acX u8X M J,Go.Proofs.cell_of_shapedOpen_int (P:=Tryz.prog) (zero:=(fL 0)) (t:=3) hs (of_decide_eq_true eQ) eQ rfl eQ eQ Tryz.underlying3⟩
theorem gZ {H:Type} {enc:TypeId × Value->H} {a:Assume} {C:Checked} {os:Os} {f:FuncId} {fn:Func} {s:ChangeSpec} {J:List PathCond} {apart fresh h aa:Bool} {X:World->Array Value->Prop}
  (hX:∀ (w w':World) (args:Array Value),w.heap=w'.heap->X w args->X w' args)
  (own:ownKnob C.prog.godebug=none) (ab:os.Started) (ac:C.prog.inits.idxOf? f=none) (am:C.prog.funcs[f]?=some fn)
  (M:∃ (w:World) (tape:Tape) (i:Input),w.os=os/\(w.forCall tape i).Shaped C.prog/\i.vars=[]/\Input.okWide C.prog (w.forCall tape i) .any w.heap.size f i /\
   ((s.pre enc C.prog fn J apart (w.forCall tape i).memory i.args/\X (w.forCall tape i).memory i.args)/\sizedMet enc C.prog fn (OpenSpec.ofChange s) apart (w.forCall tape i).memory i.args)/\a.holds C.prog (lone (Frame.enter C.prog f i.args .normal) [] (w.forCall tape i)))
  (I:∀ (W:World) (base:Nat) (args:Array Value) (ds gs:List (DataW H)) (before:List MemPlace),
   (∀ (j:Nat) t v,fn.params[j]?=some t->args[j]?=some v->Value.okWide C.prog W .any base t v) ->
   DataW.Whole enc C.prog fn.params.toList s.vars apart W args.toList ds gs before ->
   X W args->W.ShapedOpen C.prog ->
   Calls C.prog f args W fun e W'=>∃ v,e=.returned v/\s.post enc C.prog fn apart fresh h aa W args v W') :
  ReturnsInHanded a C os f .any (fun w args=>(s.pre enc C.prog fn J apart w args/\X w args)/\sizedMet enc C.prog fn (OpenSpec.ofChange s) apart w args) (s.post enc C.prog fn apart fresh h aa):=by
 refine returnsInHanded_of_calls own ab ac M ?_;intro w tape i _ an _ al ae ag;obtain⟨_,_,_,ai,ad,_,_,_,_,af⟩:=al;have e:ai=fn:=Option.some.inj (ad.symm.trans am);subst e;obtain⟨⟨⟨ds,gs,before,hw,hc⟩,hx⟩,hz⟩:=ae;have ak:=DataW.Whole.of_heap (w':=w.forCall tape i) fY hw;refine(I (w.forCall tape i) w.heap.size i.args ds gs before af ak (hX _ _ _ fY hx) an).mono fun e W' ⟨v,he,hp⟩=>?_;subst he;exact ChangeSpec.post_blind hp
section
variable {H:Type} {enc:TypeId × Value→H} {w:World} {base:Nat}
instance:Inhabited ik:=⟨⟨0,[],[],0⟩⟩
instance:Inhabited Drop:=⟨⟨0,[],0⟩⟩
theorem Tg:∀ m cs y,DataW.trod enc Tryz.prog w base (fun _=>true) true m 50 cs=some y->∃ R:ik,cs=gV R/\True:=by
 intro m cs y h;obtain⟨J,n,I⟩:=nk Tryz.underlying50 eQ eQ h;obtain⟨v0,z0,c0,t0⟩:=I 0 _ rfl;obtain⟨v1,z1,c1,t1⟩:=I 1 _ rfl;obtain⟨v2,z2,c2,t2⟩:=I 2 _ rfl;obtain⟨v3,z3,c3,t3⟩:=I 3 _ rfl;obtain⟨x0,M,-,-⟩:=nh Tryz.underlying3 t0;obtain⟨x1,f1,-⟩:=CC Tryz.underlying9 t1;obtain⟨x2,f2,-⟩:=CC Tryz.underlying9 t2;obtain⟨x3,f3,-,-⟩:=nh Tryz.underlying3 t3;injection M with M
 injection f1 with f1
 injection f2 with f2
 injection f3 with f3
 subst M f1 f2 f3;refine⟨⟨x0,bl x1,bl x2,x3⟩,?_,trivial⟩;have J:cs.length=4:=J
 match cs,J with
 | [a,b,c,d],_=>
  simp at c0 c1 c2 c3;subst c0 c1 c2 c3;unfold gV;rw[sQ,sQ]
theorem Ti:∀ m cs y,DataW.trod enc Tryz.prog w base (fun _=>true) true m 108 cs=some y->∃ d:Drop,cs=zG d/\True:=by
 intro m cs y h;obtain⟨I,n,hf⟩:=nk Tryz.underlying108 eQ eQ h;obtain⟨v0,z0,c0,t0⟩:=hf 0 _ rfl;obtain⟨v1,z1,c1,t1⟩:=hf 1 _ rfl;obtain⟨v2,z2,c2,t2⟩:=hf 2 _ rfl;obtain⟨x0,J,-,-⟩:=nh Tryz.underlying3 t0;obtain⟨x1,M,-⟩:=CC Tryz.underlying9 t1;obtain⟨x2,f2,-,-⟩:=nh Tryz.underlying3 t2;injection J with J
 injection M with M
 injection f2 with f2
 subst J M f2;refine⟨⟨x0,bl x1,x2⟩,?_,trivial⟩;have I:cs.length=3:=I
 match cs,I with
 | [a,b,c],_=>
  simp at c0 c1 c2;subst c0 c1 c2;unfold zG;rw[sQ]
theorem slice_form  {m:Nat}  {y:DataW H × List MemPlace} (M:Tryz.prog.underlying t=some (.slice e)) (h:DataW.trod enc Tryz.prog w 0 (fun _=>true) true m t [v]=some y):∃ A n c,v=.slice A n c:=by
 rcases open_slice M h with⟨I,_⟩|⟨a,len,cap,_,_,_,_,J,_⟩
 ·injection I with I
  exact⟨none,0,0,I⟩
 ·injection J with J
  exact⟨some a,len,cap,J⟩
theorem Oi {m:Nat}  {y:DataW H × List MemPlace} (h:DataW.trod enc Tryz.prog w 0 (fun _=>true) true m 22 [v]=some y) :
  ∃ (A:eV) (c:Nat) (l:List ik),v=.slice A l.length c/\lY w A l/\l.length<=c:=by
 obtain⟨A,n,c,rfl⟩:=slice_form Tryz.underlying22 h;obtain⟨xs,J,M,h3,h4,h5⟩:=oO (P:=Tryz.prog) (t:=22) (e:=50) (A:=A) (n:=n) (c:=c) (d:=y.1) (ps:=y.2) (size:=4) gV (fun _=>True) Tryz.underlying22 eQ eS Tg (fun R _ u I=>by simp[gV] at I;rcases I with rfl|rfl|rfl|rfl<;>rfl) ⟨m,by simpa[Value.cells] using h⟩;subst J;exact⟨A,c,xs,rfl,M,h4⟩
theorem DL {m:Nat}  {y:DataW H × List MemPlace} (h:DataW.trod enc Tryz.prog w 0 (fun _=>true) true m 23 [v]=some y) :
  ∃ (A:eV) (c:Nat) (l:List Drop),v=.slice A l.length c/\nL w A l/\l.length<=c:=by
 obtain⟨A,n,c,rfl⟩:=slice_form Tryz.underlying23 h;obtain⟨xs,J,M,h3,h4,h5⟩:=oO (P:=Tryz.prog) (t:=23) (e:=108) (A:=A) (n:=n) (c:=c) (d:=y.1) (ps:=y.2) (size:=3) zG (fun _=>True) Tryz.underlying23 eQ eS Ti (fun R _ u I=>by simp[zG] at I;rcases I with rfl|rfl|rfl<;>rfl) ⟨m,by simpa[Value.cells] using h⟩;subst J;exact⟨A,c,xs,rfl,M,h4⟩
theorem aeG {cs:List Value} (h:cs.length=6):∃ a b c d e f,cs=[a,b,c,d,e,f]:=by
 match cs,h with
 | [a,b,c,d,e,f],_=>exact⟨a,b,c,d,e,f,rfl⟩
structure TZ where
 T:eW
 a:TA
def Tj (w:World) (z:TZ):Prop:=wC w z.T z.a/\z.T.rs.length<=z.a.c
theorem DN    {d:DataW H}  (ak:Value.okWide Tryz.prog w r b0 25 v) (h:DataW.Trod enc Tryz.prog w 0 (fun _=>true) true 25 v d ps):∃ z:TZ,v=dV z.T z.a/\Tj w z:=by
 obtain⟨cs,rfl,aq⟩:=okWide_struct Tryz.underlying25 ak;obtain⟨m,hm⟩:=h;obtain⟨xs,n,_,_,hl,ai,hf⟩:=FA Tryz.underlying25 hm;have am:=hl.trans (by kernel_rfl:_=6);obtain⟨J,a1,a2,a3,I,M,ha⟩:=aeG am;have ap:xs.length=6:=ai;have ex:∀ i (hi:i<6),xs[i]?=some (xs[i]'eL):=fun i hi=>gR eL;have s3:Tryz.prog.cellsOf 3=1:=by kernel_rfl
 have an:Tryz.prog.cellsOf 22=1:=by kernel_rfl
 have al:Tryz.prog.cellsOf 23=1:=by kernel_rfl
 have t0:=(hf 0 _ rfl).trans (ex 0 eL);have t1:=(hf 1 _ rfl).trans (ex 1 eL);have t2:=(hf 2 _ rfl).trans (ex 2 eL);have t3:=(hf 3 _ rfl).trans (ex 3 eL);have t4:=(hf 4 _ rfl).trans (ex 4 eL);have t5:=(hf 5 _ rfl).trans (ex 5 eL);rw[ha] at t0 t1 t2 t3 t4 t5;have ae:DataW.trod enc Tryz.prog w 0 (fun _=>true) true n 22 (([J,a1,a2,a3,I,M].drop 0).take (Tryz.prog.cellsOf 22))=some (xs[0]'eL):=t0;have aa:DataW.trod enc Tryz.prog w 0 (fun _=>true) true n 23 (([J,a1,a2,a3,I,M].drop 1).take (Tryz.prog.cellsOf 23))=some (xs[1]'eL):=t1;have ag:DataW.trod enc Tryz.prog w 0 (fun _=>true) true n 23 (([J,a1,a2,a3,I,M].drop 2).take (Tryz.prog.cellsOf 23))=some (xs[2]'eL):=t2;have ad:DataW.trod enc Tryz.prog w 0 (fun _=>true) true n 3 (([J,a1,a2,a3,I,M].drop 3).take (Tryz.prog.cellsOf 3))=some (xs[3]'eL):=t3;have ab:DataW.trod enc Tryz.prog w 0 (fun _=>true) true n 3 (([J,a1,a2,a3,I,M].drop 4).take (Tryz.prog.cellsOf 3))=some (xs[4]'eL):=t4;have af:DataW.trod enc Tryz.prog w 0 (fun _=>true) true n 3 (([J,a1,a2,a3,I,M].drop 5).take (Tryz.prog.cellsOf 3))=some (xs[5]'eL):=t5;simp only[s3,an,al,List.drop,List.take] at ae aa ag ad ab af;obtain⟨A,ac,rs,f0,k0,ao⟩:=Oi ae;obtain⟨D,dc,ds,f1,k1,-⟩:=DL aa;obtain⟨E,ec,es,f2,k2,-⟩:=DL ag;obtain⟨x3,f3,-,-⟩:=nh Tryz.underlying3 ad;obtain⟨x4,f4,-,-⟩:=nh Tryz.underlying3 ab;obtain⟨x5,f5,-,-⟩:=nh Tryz.underlying3 af;injection f3 with f3
 injection f4 with f4
 injection f5 with f5
 subst f0 f1 f2 f3 f4 f5;refine⟨⟨⟨rs,ds,es,x3,x4,x5⟩,⟨A,ac,D,dc,E,ec⟩⟩,?_,⟨k0,k1,k2⟩,ao⟩;have:cs=(fN A rs.length ac D ds.length dc E es.length ec x3 x4 x5):=by
  apply Array.toList_inj.1;simpa[Value.cells] using ha
 rw[this];rfl
theorem WT (l:List Bs):(l.map bs).flatMap (fun x:ByteArray=>[Value.string x])=kM l:=by
 induction l with
 | nil=>rfl
 | cons a l ih=>
  rw[lk,mN,ih];rfl
theorem WU:∀ m cs y,DataW.trod enc Tryz.prog w 0 (fun _=>true) true m 9 cs=some y->∃ x:ByteArray,cs=[.string x]/\True:=by
 intro m cs y h;obtain⟨s,h1,_⟩:=CC Tryz.underlying9 h;exact⟨s,h1,trivial⟩
theorem acY (l:List ByteArray):(l.map bl).map bs=l:=by
 rw[qq];have:(bs ∘ bl)=id:=by funext x;exact sQ x
 rw[this,AH]
theorem Oj {m:Nat}  {y:DataW H × List MemPlace} (h:DataW.trod enc Tryz.prog w 0 (fun _=>true) true m 26 [v]=some y) :
  ∃ (A:eV) (c:Nat) (l:List Bs),v=.slice A l.length c/\fB w A l:=by
 obtain⟨A,n,c,rfl⟩:=slice_form Tryz.underlying26 h;obtain⟨xs,J,M,h3,h4,h5⟩:=oO (P:=Tryz.prog) (t:=26) (e:=9) (A:=A) (n:=n) (c:=c) (d:=y.1) (ps:=y.2) (size:=1) (fun x:ByteArray=>[Value.string x]) (fun _=>True) Tryz.underlying26 eQ eS WU (fun x _ u I=>by simp at I;subst I;rfl) ⟨m,by simpa[Value.cells] using h⟩;subst J;refine⟨A,c,xs.map bl,by rw[gh],?_⟩;unfold fB;rw[gh,<-WT,acY];exact M
theorem ad2 {cs:List Value} (h:cs.length=2):∃ a b,cs=[a,b]:=by
 match cs,h with
 | [a,b],_=>exact⟨a,b,rfl⟩
theorem qz    {d:DataW H}  (ab:Value.okWide Tryz.prog w r b0 28 v) (h:DataW.Trod enc Tryz.prog w 0 (fun _=>true) true 28 v d ps):∃ z:Ev,v=Bg z/\fB w z.A z.n.ws:=by
 obtain⟨cs,rfl,af⟩:=okWide_struct Tryz.underlying28 ab;obtain⟨m,hm⟩:=h;obtain⟨xs,n,_,_,hl,aa,hf⟩:=FA Tryz.underlying28 hm;have ac:=hl.trans (by kernel_rfl:_=2);obtain⟨a0,a1,ha⟩:=ad2 ac;have ae:xs.length=2:=aa;have e0:xs[0]?=some (xs[0]'eL):=gR eL;have e1:xs[1]?=some (xs[1]'eL):=gR eL;have s3:Tryz.prog.cellsOf 3=1:=by kernel_rfl
 have ad:Tryz.prog.cellsOf 26=1:=by kernel_rfl
 have t0:=(hf 0 _ rfl).trans e0;have t1:=(hf 1 _ rfl).trans e1;rw[ha] at t0 t1;have J:DataW.trod enc Tryz.prog w 0 (fun _=>true) true n 3 (([a0,a1].drop 0).take (Tryz.prog.cellsOf 3))=some (xs[0]'eL):=t0;have I:DataW.trod enc Tryz.prog w 0 (fun _=>true) true n 26 (([a0,a1].drop 1).take (Tryz.prog.cellsOf 26))=some (xs[1]'eL):=t1;simp only[s3,ad,List.drop,List.take] at J I;obtain⟨x0,M,-,g0⟩:=nh Tryz.underlying3 J;injection M with M
 obtain⟨A,c,l,f1,k1⟩:=Oj I;subst M f1;refine⟨⟨⟨x0,l⟩,A,c⟩,?_,k1⟩;have:cs=(fh x0 A l.length c):=by
  apply Array.toList_inj.1;simpa[Value.cells] using ha
 rw[this];rfl
end
end Go.Proofs.YtbioiclabmbedaaGreatDoor
