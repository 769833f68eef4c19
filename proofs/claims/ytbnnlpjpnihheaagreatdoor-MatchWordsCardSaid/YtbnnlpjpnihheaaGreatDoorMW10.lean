/- A part of the proof: lemmas. -/
import Derived.Test.YtbnnlpjpnihheaaGreatDoorRows
import Derived.Test.YtbnnlpjpnihheaaGreatDoorMW9
import Derived.PinnedBridge
import Derived.HandedShaped
import Derived.LaidMore
import Derived.Lay
import Derived.SevenTiedAt
import Derived.OpenShut
import Derived.ShutString
set_option maxHeartbeats 16000000
set_option maxRecDepth 100000
set_option linter.all false
namespace Go.Proofs.YtbnnlpjpnihheaaGreatDoor
open Go.RowKit Go.CH Go.CH.Scr Go.CH.eG Go.CH.Mtc
open Go.ChangeMaps (setBlock)
def leB(n:Nat)(s:Bs):Bool:=decide (s.length<=n)
def SH(R:ib):Bool:=leB 12 R.f&&leB 12 R.t
def EH(d:Drop):Bool:=leB 60 d.w
def yN(T:fy)(ws:List Bs):Bool:=decide (T.rs.length<=80)&&(decide (T.ds.length<=40)&&(decide (T.es.length<=40)&&(T.rs.all SH&&(T.ds.all EH&&(T.es.all EH&&ws.all (leB 30))))))
variable{n c:Nat}{s:Bs}{T:fy}{ws:List Bs}{w w':World}{a:TA}
theorem sW:leB n s=true↔s.length<=n:=by unfold leB;rw[decide_eq_true_eq]
theorem wG:yN T ws=true↔(T.rs.length<=80/\T.ds.length<=40/\T.es.length<=40)/\(∀ R ∈ T.rs,SH R=true)/\(∀ d ∈ T.ds,EH d=true)/\(∀ d ∈ T.es,EH d=true)/\∀ s ∈ ws,leB 30 s=true:=by
 unfold yN;simp only[YF,decide_eq_true_eq,YX,and_assoc]
structure BD(w:World)(T:fy)(a:TA):Prop where
 rs:lD w a.A T.rs
 ds:jV w a.D T.ds
 es:jV w a.E T.es
theorem BD.below(h:BD w T a)(hb:Below w.heap.size w w'):BD w' T a:=⟨h.rs.below hb,h.ds.below hb,h.es.below hb⟩
theorem BD.t8(h:BD w T a)(z:yN T ws=true):iR w T a:=by
 obtain⟨⟨V,M,J⟩,p,I,q,g4⟩:=wG.1 z;refine { rs:=h.rs,ds:=h.ds,es:=h.es,lr:=by omega,ld:=by omega,le:=by omega,sr:=fun R F=>?_,sd:=fun d hd=>?_,se:=fun d hd=>?_ }
 ·have:=p R F;unfold SH at this;rw[YF,sW,sW] at this;exact⟨by omega,by omega⟩
 ·have:=sW.1 (I d hd);omega
 ·have:=sW.1 (q d hd);omega
theorem rP{α:Type}{p:α->Bool}{l:List α}{k:Nat}(hk:k<l.length)(h:∀ x ∈ l.take k,p x=true)(h2:p l[k]=true):∀ x ∈ l.take (k+1),p x=true:=by
 intro x hx;rw[YD hk] at hx;rcases List.mem_append.1 hx with hx|hx
 ·exact h x hx
 ·rw[List.mem_singleton.1 hx];exact h2
theorem BF(h:leB n s=false):(n:Int)<((bs s).size:Int):=by
 unfold leB at h;have:=of_decide_eq_false h;rw[bB];omega
theorem wH(h:leB n s=true):¬ (n:Int)<((bs s).size:Int):=by
 have:=sW.1 h;rw[bB];omega
theorem SI{B:fj}(hT:BD w T a)(hC:fM w B ws)(hn:ws.length<=1000000):Calls Tryz.prog 53 #[eu T a,.slice B ws.length c] w (aL w (.bool (yN T ws))):=by
 obtain⟨A,ac,D,dc,E,ec⟩:=a;have HT:=au hT;have HC:=au hC;have h1:aI fh w (aj (av w.heap.size (dh T ⟨A,ac,D,dc,E,ec⟩) 25) aS) _:=aH (aI.begin w) aO _ 25;have HB:=au (h1.mod.below (fun _ _ h=>h));obtain⟨F,hF⟩:=h1.fst;obtain⟨n1,an⟩:∃ n,n=T.rs.length:=⟨_,rfl⟩;obtain⟨n2,ap⟩:∃ n,n=T.ds.length:=⟨_,rfl⟩;obtain⟨n3,al⟩:∃ n,n=T.es.length:=⟨_,rfl⟩;obtain⟨n4,ao⟩:∃ n,n=ws.length:=⟨_,rfl⟩;have c0:=aB (v:=.slice A T.rs.length ac) (i:=0) hF rfl;have c1:=aB (v:=.slice D T.ds.length dc) (i:=1) hF rfl;have c2:=aB (v:=.slice E T.es.length ec) (i:=2) hF rfl;have af:=au an;have ag:=au ap;have ai:=au al;have aq:=au ao;clear hT hC h1 hF;unfold eu dh;unfold dh at HB c0 c1 c2;dsimp only at HB c0 c1 c2 ⊢;rw[<-an,<-ap,<-al] at HB c0 c1 c2 ⊢;rw[<-ao] at hn ⊢;clear an ap al ao;obtain⟨b,hb⟩:∃ b,b=yN T ws:=⟨_,rfl⟩;rw[<-hb];have HV:=au hb
 have ab:=au (show ¬ ((n1<=80/\n2<=40/\n3<=40)/\(∀ R ∈ T.rs,SH R=true)/\(∀ d ∈ T.ds,EH d=true)/\(∀ d ∈ T.es,EH d=true)/\∀ s ∈ ws,leB 30 s=true)->b=false from fun h=>by
  rw[hb,Y4];intro h2;rw[wG,<-af.o,<-ag.o,<-ai.o] at h2
  exact h h2)
 clear hb
 go_enter Tryz.func53,Tryz.ntmps53
 go_upto_region 1 with (fail);generalize w.alloc (.cells (fw A n1 ac D n2 dc E n3 ec T.drop T.ord T.ini) 25)=w1 at *
 generalize w.heap.size=gt at c0 c1 c2 ⊢;by_cases h1:80<n1
 ·have az:(80:Int)<(n1:Int):=by omega
  have HF:=au (ab.o (fun h=>by omega));clear ab HV h1;go_wp2;go_ret;exact aN HF.o HB.o
 have k1:=sE h1;have az:¬ (80:Int)<(n1:Int):=by omega
 clear h1;by_cases h2:40<n2
 ·have ar:(40:Int)<(n2:Int):=by omega
  have HF:=au (ab.o (fun h=>by omega));clear ab HV h2 k1;go_wp2;go_ret;exact aN HF.o HB.o
 have k2:=sE h2;have ar:¬ (40:Int)<(n2:Int):=by omega
 clear h2;by_cases h3:40<n3
 ·have aA:(40:Int)<(n3:Int):=by omega
  have HF:=au (ab.o (fun h=>by omega));clear ab HV h3 k1 k2;go_wp2;go_ret;exact aN HF.o HB.o
 have k3:=sE h3;have aA:¬ (40:Int)<(n3:Int):=by omega
 clear h3;go_wp2_with fail
 go_loop [5] (fun i=>∃ k:Nat,k<=n1/\i=.int .i64 k/\∀ x ∈ T.rs.take k,SH x=true) (fun i=>n1-(intOf i).toNat)
 case atStart=>exact⟨0,YE _,rfl,by simp⟩
 case round=>
  obtain⟨k,hk,rfl,J⟩:=hrel;have HA:=au J;clear J;by_cases V:k<n1
  ·have aa:k<T.rs.length:=by rw[<-af.o];exact V
   have ad:=au V;have am:(k:Int)<1000001:=by omega
   obtain⟨bb,o,rfl,hc⟩:=lD.at HT.o.rs ff;obtain⟨r0,r1,r2,r3⟩:=hc w1 HB.o k aa;have M:=au (fun h=>rP (p:=SH) aa HA.o h);have q:=au (show SH T.rs[k]=false->b=false from fun h=>ab.o (fun h2=>by have:=h2.2.1 _ (YL aa);rw[h] at this;cases this));clear hc;generalize T.rs[k]=z at *
   cases I:leB 12 z.f with
   | false=>
    have h4:(12:Int)<((bs z.f).size:Int):=BF I;have HF:=au (q.o (by unfold SH;rw[I];rfl));clear M q HA;go_wp2;go_ret;exact aN HF.o HB.o
   | true=>
    have h4:¬ (12:Int)<((bs z.f).size:Int):=wH I;cases ak:leB 12 z.t with
    | false=>
     have h5:(12:Int)<((bs z.t).size:Int):=BF ak;have HF:=au (q.o (by unfold SH;rw[I,ak];rfl));clear M q HA;go_wp2;go_ret;exact aN HF.o HB.o
    | true=>
     have h5:¬ (12:Int)<((bs z.t).size:Int):=wH ak;have ae:=au (M.o (by unfold SH;rw[I,ak];rfl));clear M q HA;go_wp2
     go_round
     case rel=>exact⟨k+1,ad.o,by go_num,ae.o⟩
     case measure=>have:=ad.o;simp[intOf];omega
  ·obtain rfl:k=n1:=by omega
   have aD:=au (show ∀ x ∈ T.rs,SH x=true from by have h:=HA.o;rw[af.o,YO] at h;exact h);clear HA V;go_wp2_with fail
   go_loop [6] (fun i=>∃ k:Nat,k<=n2/\i=.int .i64 k/\∀ x ∈ T.ds.take k,EH x=true) (fun i=>n2-(intOf i).toNat)
   case atStart=>exact⟨0,YE _,rfl,by simp⟩
   case round=>
    obtain⟨k,hk,rfl,J⟩:=hrel;have HA:=au J;clear J;by_cases V:k<n2
    ·have aa:k<T.ds.length:=by rw[<-ag.o];exact V
     have ad:=au V;have am:(k:Int)<1000001:=by omega
     obtain⟨bb,o,rfl,hc⟩:=jV.at HT.o.ds ff;obtain⟨r0,r1,r2⟩:=hc w1 HB.o k aa;have M:=au (fun h=>rP (p:=EH) aa HA.o h);have q:=au (show EH T.ds[k]=false->b=false from fun h=>ab.o (fun h2=>by have:=h2.2.2.1 _ (YL aa);rw[h] at this;cases this));clear hc;generalize T.ds[k]=z at *
     cases I:leB 60 (z.w) with
     | false=>
      have h4:(60:Int)<((bs (z.w)).size:Int):=BF I;have HF:=au (q.o (by unfold EH;rw[I]));clear M q HA;go_wp2;go_ret;exact aN HF.o HB.o
     | true=>
      have h4:¬ (60:Int)<((bs (z.w)).size:Int):=wH I;have ae:=au (M.o (by unfold EH;rw[I]));clear M q HA;go_wp2
      go_round
      case rel=>exact⟨k+1,ad.o,by go_num,ae.o⟩
      case measure=>have:=ad.o;simp[intOf];omega
    ·obtain rfl:k=n2:=by omega
     have ax:=au (show ∀ x ∈ T.ds,EH x=true from by have h:=HA.o;rw[ag.o,YO] at h;exact h);clear HA V;go_wp2_with fail
     go_loop [7] (fun i=>∃ k:Nat,k<=n3/\i=.int .i64 k/\∀ x ∈ T.es.take k,EH x=true) (fun i=>n3-(intOf i).toNat)
     case atStart=>exact⟨0,YE _,rfl,by simp⟩
     case round=>
      obtain⟨k,hk,rfl,J⟩:=hrel;have HA:=au J;clear J;by_cases V:k<n3
      ·have aa:k<T.es.length:=by rw[<-ai.o];exact V
       have ad:=au V;have am:(k:Int)<1000001:=by omega
       obtain⟨bb,o,rfl,hc⟩:=jV.at HT.o.es ff;obtain⟨r0,r1,r2⟩:=hc w1 HB.o k aa;have M:=au (fun h=>rP (p:=EH) aa HA.o h);have q:=au (show EH T.es[k]=false->b=false from fun h=>ab.o (fun h2=>by have:=h2.2.2.2.1 _ (YL aa);rw[h] at this;cases this));clear hc;generalize T.es[k]=z at *
       cases I:leB 60 (z.w) with
       | false=>
        have h4:(60:Int)<((bs (z.w)).size:Int):=BF I;have HF:=au (q.o (by unfold EH;rw[I]));clear M q HA;go_wp2;go_ret;exact aN HF.o HB.o
       | true=>
        have h4:¬ (60:Int)<((bs (z.w)).size:Int):=wH I;have ae:=au (M.o (by unfold EH;rw[I]));clear M q HA;go_wp2
        go_round
        case rel=>exact⟨k+1,ad.o,by go_num,ae.o⟩
        case measure=>have:=ad.o;simp[intOf];omega
      ·obtain rfl:k=n3:=by omega
       have aE:=au (show ∀ x ∈ T.es,EH x=true from by have h:=HA.o;rw[ai.o,YO] at h;exact h);clear HA V;go_wp2_with fail
       go_loop [8] (fun i=>∃ k:Nat,k<=n4/\i=.int .i64 k/\∀ x ∈ ws.take k,leB 30 x=true) (fun i=>n4-(intOf i).toNat)
       case atStart=>exact⟨0,YE _,rfl,by simp⟩
       case round=>
        obtain⟨k,hk,rfl,J⟩:=hrel;have HA:=au J;clear J;by_cases V:k<n4
        ·have aa:k<ws.length:=by rw[<-aq.o];exact V
         have ad:=au V;have am:(k:Int)<1000001:=by omega
         obtain⟨bb,o,rfl,hc⟩:=fM.at HC.o ff;have r0:=hc w1 HB.o k aa;have M:=au (fun h=>rP (p:=leB 30) aa HA.o h);have q:=au (show(leB 30) ws[k]=false->b=false from fun h=>ab.o (fun h2=>by have:=h2.2.2.2.2 _ (YL aa);rw[h] at this;cases this));clear hc;generalize ws[k]=z at *
         cases I:leB 30 (z) with
         | false=>
          have h4:(30:Int)<((bs (z)).size:Int):=BF I;have HF:=au (q.o (by exact I));clear M q HA;go_wp2;go_ret;exact aN HF.o HB.o
         | true=>
          have h4:¬ (30:Int)<((bs (z)).size:Int):=wH I;have ae:=au (M.o (by exact I));clear M q HA;go_wp2
          go_round
          case rel=>exact⟨k+1,ad.o,by go_num,ae.o⟩
          case measure=>have:=ad.o;simp[intOf];omega
        ·obtain rfl:k=n4:=by omega
         have aw:=au (show ∀ x ∈ ws,leB 30 x=true from by have h:=HA.o;rw[aq.o,YO] at h;exact h);clear HA V
         have HF:=au (show b=true from by
          rw[HV.o,wG,<-af.o,<-ag.o,<-ai.o]
          exact⟨⟨k1,k2,k3⟩,aD.o,ax.o,aE.o,aw.o⟩)
         clear ab HV;go_wp2;go_ret;exact aN HF.o HB.o
structure IJ where
 n:bI
 A:fj
 c:Nat
def Xv(z:IJ):List Value:=[.int .i64 z.n.k,.slice z.A z.n.ws.length z.c]
structure Kk(w:World)(A:fj)(l:List IJ):Prop where
 row:tH Xv 2 w A l
 all:∀ z ∈ l,fM w z.A z.n.ws
variable{A B:fj}
theorem Kk.below{l:List IJ}(h:Kk w A l)(hb:Below w.heap.size w w'):Kk w' A l:=⟨aT h.row hb,fun z hz=>aT (h.all z hz) hb⟩
def VX(T:fy)(z:IJ):Bool:=decide (z.n.ws.length<=3)&&yN T z.n.ws
def EC(T:fy)(l:List IJ):Bool:=yN T []&&l.all (VX T)
theorem BG{l:List IJ}:EC T l=true↔yN T []=true/\∀ z ∈ l,VX T z=true:=by
 unfold EC;rw[YF,YX]
theorem MV{z:IJ}:VX T z=true↔z.n.ws.length<=3/\yN T z.n.ws=true:=by
 unfold VX;rw[YF,decide_eq_true_eq]
theorem OP{l:List IJ}(hT:BD w T a)(hC:Kk w B l)(hn:l.length<=1000000):Calls Tryz.prog 28 #[eu T a,.int .i64 3,.slice B l.length c] w (aL w (.bool (EC T l))):=by
 have HT:=au hT;have HC:=au hC;have h1:aI fh w (aj (av w.heap.size (dh T a) 25) aS) _:=aH (aI.begin w) aO _ 25;have HB:=au (h1.mod.below (fun _ _ h=>h))
 have aa:=au (fun W (h:Below (w.alloc (.cells (dh T a) 25)).heap.size (w.alloc (.cells (dh T a) 25)) W)=>(show (iz W w.heap.size (.slice a.A T.rs.length a.c) (.slice a.D T.ds.length a.d) (.slice a.E T.es.length a.e) (.int .i64 T.drop) (.int .i64 T.ord) (.int .i64 T.ini)) from by
  obtain⟨f,hf⟩:=(h1.below aQ h).fst
  exact⟨aB hf rfl,aB hf rfl,aB hf rfl,aB hf rfl,aB hf rfl,aB hf rfl⟩))
 have KF:=au (fun W (F:Below w.heap.size w W) (ws:List Bs) (B:fj) (c:Nat) (hv:fM W B ws) (hn:ws.length<=1000000)=>SI (c:=c) (hT.below F) hv hn);clear hT hC h1;unfold eu at KF ⊢;unfold dh at HB aa KF ⊢;generalize T.rs.length=n1 at *
 generalize T.ds.length=n2 at *
 generalize T.es.length=n3 at *
 obtain⟨n4,ak⟩:∃ n,n=l.length:=⟨_,rfl⟩;have ao:=au ak;rw[<-ak] at hn ⊢;clear ak;obtain⟨b,F⟩:∃ b,b=EC T l:=⟨_,rfl⟩;rw[<-F];have HV:=au F
 have J:=au (show ¬ (yN T []=true/\∀ z ∈ l,VX T z=true)->b=false from fun h=>by
  rw[F,Y4];intro h2
  exact h (BG.1 h2))
 clear F
 go_enter Tryz.func28,Tryz.ntmps28
 go_upto_region 1 with (fail);generalize w.alloc (.cells (fw a.A n1 a.c a.D n2 a.d a.E n3 a.e T.drop T.ord T.ini) 25)=w1 at *
 generalize w.heap.size=gt at aa ⊢;have ad:=au (fun W (h:Below w1.heap.size w1 W)=>HB.o.trans (h.mono HB.o.size));obtain⟨t0,t1,t2,t3,t4,t5⟩:=aa.o w1 (YC _ _);have K0:=au (KF.o w1 HB.o [] none 0 Src.none_ (YE _));rw[Zz] at K0;cases I:yN T [] with
 | false=>
  rw[I] at K0;have HF:=au (J.o (fun h=>by rw[h.1] at I;cases I));clear I J HV KF;go_wp2_with fail;refine K0.o.mono ?_;rintro e9 w2 ⟨rfl,F⟩;have HE:=au (ad.o w2 F);clear K0 F t0 t1 t2 t3 t4 t5;go_wp2;go_ret;exact aN HF.o HE.o
 | true=>
  rw[I] at K0;have az:=au I;clear I;go_wp2_with fail;refine K0.o.mono ?_;rintro e9 w2 ⟨rfl,F⟩;have am:=au F;clear K0 F t0 t1 t2 t3 t4 t5;dsimp only;go_wp2_with fail;go_loopw [7] (fun i wr=>∃ k:Nat,i=.int .i64 k/\k<=n4/\(∀ x ∈ l.take k,VX T x=true)/\Below w1.heap.size w1 wr) (fun i _=>n4-(intOf i).toNat)
  case atStart=>exact⟨0,rfl,YE _,gw,am.o⟩
  case round=>
   obtain⟨k,rfl,hk,ag,aq⟩:=hrel;have HA:=au ag;have M:=au aq;clear ag aq am;by_cases al:k<n4
   ·have ab:k<l.length:=by rw[<-ao.o];exact al
    have ar:=au al;have aD:(k:Int)<1000001:=by omega
    obtain⟨bb,o,aA,hc⟩:=tH.at (R:=Xv) (fun _=>rfl) ff HC.o.row ff;have V:=au (fun h=>rP (p:=VX T) ab HA.o h);have q:=au (show VX T l[k]=false->b=false from fun h=>J.o (fun h2=>by have:=h2.2 _ (YL ab);rw[h] at this;cases this));have ac:=ad.o wr.drew M.o.drew;have KZ:=au (fun (aw:l[k].n.ws.length<=1000000)=>KF.o wr.drew ac l[k].n.ws l[k].A l[k].c (aT (HC.o.all _ (YL ab)) ac) aw);have r0:=hc wr.drew ac k ab 0 _ rfl;have r1:=hc wr.drew ac k ab 1 _ rfl;have HR:=au (fun W (F:Below wr.drew.heap.size wr.drew W)=>(show W.cell? ⟨bb,o+k*2,none⟩=some (.int .i64 l[k].n.k)/\W.cell? ⟨bb,o+k*2+1,none⟩=some (.slice l[k].A l[k].n.ws.length l[k].c) from⟨aF r0 F,aF r1 F⟩));clear hc r0 r1 ac;subst aA;obtain⟨z,hz⟩:∃ z,z=l[k]:=⟨_,rfl⟩;rw[<-hz] at V q KZ HR;clear hz;obtain⟨⟨zk,zw⟩,zA,zc⟩:=z;dsimp only at KZ HR;have ae:=au (MV (T:=T) (z:=⟨⟨zk,zw⟩,zA,zc⟩));dsimp only at ae;obtain⟨nz,an⟩:∃ nz,nz=zw.length:=⟨_,rfl⟩;rw[<-an] at ae KZ HR;clear an;obtain⟨r0,r1⟩:=HR.o _ (YC _ _);obtain⟨t0,t1,t2,t3,t4,t5⟩:=aa.o wr.drew M.o.drew;go_upto_region 6 with (fail);by_cases i7:3<nz
    ·have hg:(3:Int)<(nz:Int):=by omega
     have HF:=au (q.o (by rw[Y4];intro h;have:=(ae.o.1 h).1;omega));have HE:=au (ad.o wr.drew M.o.drew);refine aK (fun w'=>w'.cell? ⟨bb,o+k*2+1,none⟩=some (.slice zA nz zc)/\(iz w' gt (.slice a.A n1 a.c) (.slice a.D n2 a.d) (.slice a.E n3 a.e) (.int .i64 T.drop) (.int .i64 T.ord) (.int .i64 T.ini))) fi fi (by exact⟨r1,t0,t1,t2,t3,t4,t5⟩) ?_;clear r0 r1 t0 t1 t2 t3 t4 t5 J HV V q
     (repeat(first|refine aW ?_|refine aX ?_))
     refine lex_nil ?_;go_wp2;go_ret;exact aN HF.o HE.o
    ·have hg:¬ (3:Int)<(nz:Int):=by omega
     have ap:=au (KZ.o ff);refine aK (fun w'=>w'.cell? ⟨bb,o+k*2+1,none⟩=some (.slice zA nz zc)/\(iz w' gt (.slice a.A n1 a.c) (.slice a.D n2 a.d) (.slice a.E n3 a.e) (.int .i64 T.drop) (.int .i64 T.ord) (.int .i64 T.ini))) fi fi (by exact⟨r1,t0,t1,t2,t3,t4,t5⟩) ?_;clear r0 r1 t0 t1 t2 t3 t4 t5 KZ
     (repeat(first|refine aW ?_|refine aX ?_))
     refine bY rfl ft (fun K hK=>?_);go_wp2_with fail;refine ap.o.mono ?_;rintro e9 w3 ⟨rfl,F⟩;obtain⟨-,r1⟩:=HR.o w3 F;have ai:=au (M.o.drew.trans (F.mono M.o.drew.size));obtain⟨t0,t1,t2,t3,t4,t5⟩:=aa.o w3 ai.o;refine hK.o _ _ (by exact⟨r1,t0,t1,t2,t3,t4,t5⟩) ?_;clear hK F r1 t0 t1 t2 t3 t4 t5 ap;cases af:yN T zw with
     | false=>
      have HF:=au (q.o (by rw[Y4];intro h;have:=(ae.o.1 h).2;rw[af] at this;cases this));have HE:=au (ad.o w3 ai.o);clear J HV V q af
      (repeat(first|refine aW ?_|refine aX ?_))
      refine lex_nil ?_;go_wp2;go_ret;exact aN HF.o HE.o
     | true=>
      have ax:=au (V.o (ae.o.2 ⟨by omega,af⟩));clear V q af
      (repeat(first|refine aW ?_|refine aX ?_))
      refine lex_nil ?_;go_wp2_with fail
      go_roundw
      case rel=>exact⟨k+1,by go_num,ar.o,ax.o,ai.o⟩
      case measure=>have:=ar.o;simp[intOf];omega
   ·obtain rfl:k=n4:=by omega
    have HF:=au (show b=true from by
     rw[HV.o,BG];refine⟨az.o,?_⟩;have h:=HA.o;rw[ao.o,YO] at h
     exact h)
    have HE:=au (ad.o wr M.o);clear J HV HA;go_wp2;go_ret;exact aN HF.o HE.o
theorem Vt{l:List IJ}(hT:BD w T a)(hC:Kk w B l)(hn:l.length<=1000000):Calls Tryz.prog 11 #[eu T a,.slice B l.length c] w (aL w (.bool (EC T l))):=by
 have z:aI fh w (aj (av w.heap.size (dh T a) 25) aS) _:=aH (aI.begin w) aO _ 25;have p:=au (z.mod.below (fun _ _ h=>h));have I:=au (OP (c:=c) (hT.below p.o) (hC.below p.o) hn);have q:=au (fun W (h:Below (w.alloc (.cells (dh T a) 25)).heap.size (w.alloc (.cells (dh T a) 25)) W)=>p.o.trans (h.mono p.o.size));obtain⟨t0,M,F,t3,J,V⟩:=bZ z;clear hT hC z;unfold eu at *
 unfold dh at *
 generalize T.rs.length=n1 at *
 generalize T.ds.length=n2 at *
 generalize T.es.length=n3 at *
 generalize l.length=n4 at *
 go_enter Tryz.func11,Tryz.ntmps11
 go_upto_region 1 with (fail);generalize w.alloc (.cells (fw a.A n1 a.c a.D n2 a.d a.E n3 a.e T.drop T.ord T.ini) 25)=w1 at *
 generalize w.heap.size=gt at t0 M F t3 J V ⊢;go_wp2_with fail;refine I.o.mono ?_;rintro e9 w2 ⟨rfl,hb⟩;have HE:=au (q.o w2 hb);clear I hb t0 M F t3 J V;go_wp2;go_ret;exact aN rfl HE.o
end Go.Proofs.YtbnnlpjpnihheaaGreatDoor
namespace Go.CH.Mtc
open Go.CH.Scr Go.CH.eG
def l4:List Bs:=[[97],[110],[107],[105]]
def ku:fy:=⟨l4.map fun x=>⟨1,x,x,0⟩,[⟨1,[97,108],0⟩],[⟨1,[107,105],2⟩],5,1,3⟩
end Go.CH.Mtc
namespace Go.Proofs.YtbnnlpjpnihheaaGreatDoor
open Go.RowKit Go.CH Go.CH.Scr Go.CH.eG Go.CH.Mtc
open Go.ChangeMaps (setBlock)
theorem SN:d9 Tryz.prog 22 113 (.agg (gO 0 ⟨#[]⟩ ⟨#[]⟩ 0)) 4 48:=⟨Tryz.underlying22,by kernel_rfl,by decide,by decide⟩
theorem SQ(l:List ib):∀ u ∈ l.flatMap eX,u.oneCell'=true:=by
 intro u hu;obtain⟨x,-,hx⟩:=List.mem_flatMap.1 hu;unfold eX at hx;simp only[YV,YT,or_false] at hx;rcases hx with rfl|rfl|rfl|rfl<;>rfl
variable{w w0:World}{F F0:Nat->Prop}{g:Nat}{t:TypeId}{X:CH.bq}
theorem Dr{cs:Array Value}(h:av g cs t w F)(z:∀ u ∈ cs.toList,u.oneCell'=true):Src w (some ⟨g,0,none⟩) 1 cs.size cs.toList:=by
 refine⟨by rw[Array.length_toList,rm],z,fun _=>⟨_,rfl,fun j u I=>?_⟩⟩;have q:cs[j]?=some u:=by rw[<-tP];exact I
 have p:=aB h q;have e:(⟨g,0,none⟩:Addr).add j=⟨g,j,none⟩:=by unfold Addr.add;split<;>simp_all
 rw[e];exact p
theorem SS{a0 V J a3 F q:Value}(h:aI F0 w0 (aj (av g #[a0,V,J,a3,F,q] t) X) w)(z:X.Ok)(p b1 b2 b3 I M:Value):
  aI F0 w0 (aj (av g #[p,b1,b2,b3,I,M] t) X) ((((((w.setCell ⟨g,0,none⟩ p).setCell ⟨g,1,none⟩ b1).setCell ⟨g,2,none⟩ b2).setCell ⟨g,3,none⟩ b3).setCell ⟨g,4,none⟩ I).setCell ⟨g,5,none⟩ M):=by
 have h0:aI F0 w0 (aj (av g #[p,V,J,a3,F,q] t) X) _:=aJ h z 0 p;have h1:aI F0 w0 (aj (av g #[p,b1,J,a3,F,q] t) X) _:=aJ h0 z 1 b1;have h2:aI F0 w0 (aj (av g #[p,b1,b2,a3,F,q] t) X) _:=aJ h1 z 2 b2;have h3:aI F0 w0 (aj (av g #[p,b1,b2,b3,F,q] t) X) _:=aJ h2 z 3 b3;have h4:aI F0 w0 (aj (av g #[p,b1,b2,b3,I,q] t) X) _:=aJ h3 z 4 I;exact aJ h4 z 5 M
def Vu(i:Nat):Bs:=l4.getD i []
theorem lu(w:World):Calls Tryz.prog 27 #[] w (fun e w'=>∃ a:TA,e=.returned (eu ku a)/\Below w.heap.size w w'/\iR w' ku a):=by
 have h1:=aH (aI.begin w) aO (fw none 0 0 none 0 0 none 0 0 0 0 0) 25;have h2:=aH h1 aQ #[.int .i64 1,.string { data:=#[97,108] },.int .i64 0] 104;have h3:=aH h2 aQ #[.int .i64 1,.string { data:=#[107,105] },.int .i64 2] 104;simp only[YN] at h3;obtain⟨q,M⟩:∃ g,g=w.heap.size+1:=⟨_,rfl⟩;obtain⟨z,V⟩:∃ g,g=q+1:=⟨_,rfl⟩;rw[<-M,<-V] at h3;have h4:=aH h3 aQ (fw none 0 0 (some ⟨q,0,none⟩) 1 1 (some ⟨z,0,none⟩) 1 1 5 1 3) 25;have h5:=aH h4 aQ #[.string { data:=#[97] },.string { data:=#[110] },.string { data:=#[107] },.string { data:=#[105] }] 9;simp only[YN] at h5;rw[<-M,<-V] at h5;have H5:=au h5;clear h1 h2 h3 h4 h5;have e1:=M.symm;have e2:=V.symm;obtain⟨F,ae⟩:∃ g,z+1=g:=⟨_,rfl⟩;obtain⟨gL,ai⟩:∃ g,F+1=g:=⟨_,rfl⟩;rw[ae,ai] at H5;clear M V
 go_enter Tryz.func27,Tryz.ntmps27
 go_upto_region 3 with (fail);generalize ((((w.alloc (.cells (fw none 0 0 none 0 0 none 0 0 0 0 0) 25)).alloc (.cells #[.int .i64 1,.string { data:=#[97,108] },.int .i64 0] 104)).alloc (.cells #[.int .i64 1,.string { data:=#[107,105] },.int .i64 2] 104)).alloc (.cells (fw none 0 0 (some ⟨q,0,none⟩) 1 1 (some ⟨z,0,none⟩) 1 1 5 1 3) 25)).alloc (.cells #[.string { data:=#[97] },.string { data:=#[110] },.string { data:=#[107] },.string { data:=#[105] }] 9)=w5 at *
 clear e1 e2 ae ai;have h6:=(H5.o.fresh aQ (⟨fun _=>False,fZ _ 113 4,Mod.refl _ _,fun i hi=>.inl hi⟩:bS w5 fh (aZ 113 4 (.slice none 0 0) 0 []) w5)).perm (by ac_rfl:_=aj (av F (fw none 0 0 (some ⟨q,0,none⟩) 1 1 (some ⟨z,0,none⟩) 1 1 5 1 3) 25) (aj (aZ 113 4 (.slice none 0 0) 0 []) (aj (av gL #[.string { data:=#[97] },.string { data:=#[110] },.string { data:=#[107] },.string { data:=#[105] }] 9) (aj (av z #[.int .i64 1,.string { data:=#[107,105] },.int .i64 2] 104) (aj (av q #[.int .i64 1,.string { data:=#[97,108] },.int .i64 0] 104) (aj (av w.heap.size (fw none 0 0 none 0 0 none 0 0 0 0 0) 25) aS))))));have H6:=au h6;clear h6 H5;go_wp2_with fail;go_loopw [3] (fun kk wr=>∃ (i:Nat) (A:fj) (c:Nat),kk=.int .i64 i/\i<=4/\aI fh w (aj (av F (fw A i c (some ⟨q,0,none⟩) 1 1 (some ⟨z,0,none⟩) 1 1 5 1 3) 25) (aj (aZ 113 4 (.slice A i c) i ((ku.rs.take i).flatMap eX)) (aj (av gL #[.string { data:=#[97] },.string { data:=#[110] },.string { data:=#[107] },.string { data:=#[105] }] 9) (aj (av z #[.int .i64 1,.string { data:=#[107,105] },.int .i64 2] 104) (aj (av q #[.int .i64 1,.string { data:=#[97,108] },.int .i64 0] 104) (aj (av w.heap.size (fw none 0 0 none 0 0 none 0 0 0 0 0) 25) aS)))))) wr) (fun kk _=>4-(intOf kk).toNat)
 case atStart=>exact⟨0,none,0,rfl,YE _,H6.o⟩
 case round=>
  obtain⟨i,A,c,rfl,hi,hR⟩:=hrel;have HR:=au hR;clear H6 hR;by_cases an:i<4
  ·have aq:=au (show(ku.rs.take (i+1)).flatMap eX=(ku.rs.take i).flatMap eX++eX ⟨1,Vu i,Vu i,0⟩ from by
    have:i=0\/i=1\/i=2\/i=3:=by omega
    rcases this with rfl|rfl|rfl|rfl<;>rfl)
   obtain⟨FL,I⟩:=HR.o.drop.drop.fst;have hs:wr.cell? ⟨gL,i,none⟩=some (.string (bs (Vu i))):=by
    have:i=0\/i=1\/i=2\/i=3:=by omega
    rcases this with rfl|rfl|rfl|rfl
    ·exact aB I rfl
    ·exact aB I rfl
    ·exact aB I rfl
    ·exact aB I rfl
   generalize Vu i=x at *
   obtain⟨F1,p⟩:=HR.o.fst;have t0:=aB (i:=0) p rfl;have H7:=au (HR.o.drew aQ);clear I FL p F1 HR;go_wp2_with fail;have aw:(i:Int)<4:=by omega
   refine gW [11,12,14] [1,1,0,0,0,0,0,0,0,0,0,1,2,2,3] (fun w'=>w'.cell? ⟨F,0,none⟩=some (.slice A i c)/\w'.cell? ⟨gL,i,none⟩=some (.string (bs x))) (fun w'=>w'.cell? ⟨F,0,none⟩=some (.slice A i c)) (fun _=>True) (fun _=>True) (fun _ h=>h.1) (fun _ _=>trivial) (fun _ h=>h) fi fi fi fi (by exact⟨t0,hs⟩) ?_
   (repeat((first|refine fu ft ft ?_|((first|refine dR (v:=?_) ft ft ?_ ?_|refine dS (v:=?_) ft ft ?_ ?_|refine dU (v:=?_) ft ft ?_ ?_|refine dV (v:=?_) ft ft ?_ ?_|refine dW (v:=?_) ft ft ?_ ?_);rotate_left;(focus(intro w' al;go_simp;(try with_reducible rfl);done))));try simp only[Act.put,Yy,YA,YB]))
   refine jI rfl ft (fun K hK=>?_);go_wp2_with fail;have h8:=aH H7.o aQ (gO 1 (bs x) (bs x) 0) 113;have J:=au (h8.perm (by ac_rfl:_=aj (aZ 113 4 (.slice A i c) i ((ku.rs.take i).flatMap eX)) (aj (av F (fw A i c (some ⟨q,0,none⟩) 1 1 (some ⟨z,0,none⟩) 1 1 5 1 3) 25) (aj (av wr.drew.heap.size (gO 1 (bs x) (bs x) 0) 113) (aj (av gL #[.string { data:=#[97] },.string { data:=#[110] },.string { data:=#[107] },.string { data:=#[105] }] 9) (aj (av z #[.int .i64 1,.string { data:=#[107,105] },.int .i64 2] 104) (aj (av q #[.int .i64 1,.string { data:=#[97,108] },.int .i64 0] 104) (aj (av w.heap.size (fw none 0 0 none 0 0 none 0 0 0 0 0) 25) aS))))))));obtain⟨F1,p⟩:=J.o.drop.fst;have aa:=aB (i:=0) p rfl;obtain⟨ao,ab⟩:=J.o.drop.drop.fst;have af:∀ (j:Nat) u,(eX ⟨1,x,x,0⟩)[j]?=some u->_=some u:=fun j u hu=>aB ab (by unfold eX at hu;simpa using hu);refine hK.o _ _ aa ?_;clear hK t0 hs h8 H7 p F1 aa
   (repeat((first|refine fu ft ft ?_|((first|refine dR (v:=?_) ft ft ?_ ?_|refine dS (v:=?_) ft ft ?_ ?_|refine dU (v:=?_) ft ft ?_ ?_|refine dV (v:=?_) ft ft ?_ ?_|refine dW (v:=?_) ft ft ?_ ?_);rotate_left;(focus(intro w' al;go_simp;(try with_reducible rfl);done))));try simp only[Act.put,Yy,YA,YB]))
   refine jJ rfl ft (fun K hK=>?_);refine sS SN fW (.tmp 17) (.tmp 27) rfl (A:=A) (c:=c) (n:=i) (xs:=(ku.rs.take i).flatMap eX) (cs:=eX ⟨1,x,x,0⟩) rfl rfl ff aQ J.o rfl (fun u hu=>SQ [⟨1,x,x,0⟩] u (by simpa using hu)) af ?_;intro A9 c9 w6 ag;have h9:=ag.perm (by ac_rfl:_=aj (av F (fw A i c (some ⟨q,0,none⟩) 1 1 (some ⟨z,0,none⟩) 1 1 5 1 3) 25) (aj (aZ 113 4 (.slice A9 (i+1) c9) (i+1) ((ku.rs.take i).flatMap eX++eX ⟨1,x,x,0⟩)) (aj (av wr.drew.heap.size (gO 1 (bs x) (bs x) 0) 113) (aj (av gL #[.string { data:=#[97] },.string { data:=#[110] },.string { data:=#[107] },.string { data:=#[105] }] 9) (aj (av z #[.int .i64 1,.string { data:=#[107,105] },.int .i64 2] 104) (aj (av q #[.int .i64 1,.string { data:=#[97,108] },.int .i64 0] 104) (aj (av w.heap.size (fw none 0 0 none 0 0 none 0 0 0 0 0) 25) aS)))))));obtain⟨F1,p⟩:=h9.fst;have aa:=aB (i:=0) p rfl;have tf:=aP p;have ak:aI fh w (aj (av F (fw A9 (i+1) c9 (some ⟨q,0,none⟩) 1 1 (some ⟨z,0,none⟩) 1 1 5 1 3) 25) _) _:=aJ h9 (ay cB (ay aC aQ)) 0 (.slice A9 (i+1) c9);have HE:=au ((ak.perm (by ac_rfl:_=aj (av wr.drew.heap.size (gO 1 (bs x) (bs x) 0) 113) (aj (av F (fw A9 (i+1) c9 (some ⟨q,0,none⟩) 1 1 (some ⟨z,0,none⟩) 1 1 5 1 3) 25) (aj (aZ 113 4 (.slice A9 (i+1) c9) (i+1) ((ku.rs.take i).flatMap eX++eX ⟨1,x,x,0⟩)) (aj (av gL #[.string { data:=#[97] },.string { data:=#[110] },.string { data:=#[107] },.string { data:=#[105] }] 9) (aj (av z #[.int .i64 1,.string { data:=#[107,105] },.int .i64 2] 104) (aj (av q #[.int .i64 1,.string { data:=#[97,108] },.int .i64 0] 104) (aj (av w.heap.size (fw none 0 0 none 0 0 none 0 0 0 0 0) 25) aS)))))))).drop);refine hK.o _ _ trivial ?_;clear hK ag h9 ak p F1 af ab ao J
   (repeat((first|refine fu ft ft ?_|((first|refine dR (v:=?_) ft ft ?_ ?_|refine dS (v:=?_) ft ft ?_ ?_|refine dU (v:=?_) ft ft ?_ ?_|refine dV (v:=?_) ft ft ?_ ?_|refine dW (v:=?_) ft ft ?_ ?_);rotate_left;(focus(intro w' al;go_simp;(try with_reducible rfl);done))));try simp only[Act.put,Yy,YA,YB]))
   refine mJ rfl ft (fun K hK=>?_);go_wp2_with fail;refine hK.o _ _ trivial (pW ?_);clear hK aa tf;go_wp2_with fail
   go_roundw
   case rel=>exact⟨i+1,A9,c9,by go_num,an,by rw[aq.o];exact HE.o⟩
   case measure=>simp[intOf];omega
  ·obtain rfl:i=4:=by omega
   have h7:=HR.o.perm (by ac_rfl:_=aj (av w.heap.size (fw none 0 0 none 0 0 none 0 0 0 0 0) 25) (aj (av F (fw A 4 c (some ⟨q,0,none⟩) 1 1 (some ⟨z,0,none⟩) 1 1 5 1 3) 25) (aj (aZ 113 4 (.slice A 4 c) 4 ((ku.rs.take 4).flatMap eX)) (aj (av gL #[.string { data:=#[97] },.string { data:=#[110] },.string { data:=#[107] },.string { data:=#[105] }] 9) (aj (av z #[.int .i64 1,.string { data:=#[107,105] },.int .i64 2] 104) (aj (av q #[.int .i64 1,.string { data:=#[97,108] },.int .i64 0] 104) aS))))));have ac:(aj (av F (fw A 4 c (some ⟨q,0,none⟩) 1 1 (some ⟨z,0,none⟩) 1 1 5 1 3) 25) (aj (aZ 113 4 (.slice A 4 c) 4 ((ku.rs.take 4).flatMap eX)) (aj (av gL #[.string { data:=#[97] },.string { data:=#[110] },.string { data:=#[107] },.string { data:=#[105] }] 9) (aj (av z #[.int .i64 1,.string { data:=#[107,105] },.int .i64 2] 104) (aj (av q #[.int .i64 1,.string { data:=#[97,108] },.int .i64 0] 104) aS))))).Ok:=ay aC aQ;obtain⟨t0,t1,t2,t3,t4,t5⟩:=bZ h7.drop;obtain⟨z0,z1,z2,z3,z4,z5⟩:=bZ h7;obtain⟨FZ,ad⟩:=h7.fst;have zf:=aP ad;have h8:=SS h7 ac (.slice A 4 c) (.slice (some ⟨q,0,none⟩) 1 1) (.slice (some ⟨z,0,none⟩) 1 1) (.int .i64 5) (.int .i64 1) (.int .i64 3);have J:=au h8;clear ad FZ h7 h8 HR ac;go_wp2;obtain⟨f2,am⟩:=J.o.fst;refine bodyPost_ret (results_cell_row rfl _ _ w.heap.size 25 (fw A 4 c (some ⟨q,0,none⟩) 1 1 (some ⟨z,0,none⟩) 1 1 5 1 3) (0,0) (.struct _) rfl am.1 Tryz.underlying25 rfl fi) rfl ?_;obtain⟨F1,p⟩:=J.o.drop.drop.fst;obtain⟨F2,ar⟩:=J.o.drop.drop.drop.drop.fst;obtain⟨F3,ap⟩:=J.o.drop.drop.drop.drop.drop.fst;refine⟨⟨A,c,some ⟨q,0,none⟩,1,some ⟨z,0,none⟩,1⟩,rfl,J.o.bN,?_⟩;refine { rs:=iG p (SQ _),ds:=Dr ap fW,es:=Dr ar fW,lr:=by decide,ld:=by decide,le:=by decide,sr:=?_,sd:=?_,se:=?_ }<;>decide
end Go.Proofs.YtbnnlpjpnihheaaGreatDoor
namespace Go.CH.Mtc
open Go.CH.Scr Go.CH.eG
def Iz(a b:bI)(c:Int)(p:Nat)(s:Bool):Bool:=qD ku a b&&(decide ((iI ku a b).c=c)&&(decide ((iI ku a b).ps.length=p)&&decide ((iI ku a b).s=s)))
def nZ:bI:=⟨1,[[97,110,110,97]]⟩
def Vv:bI:=⟨1,[[97,110,110,97],[107,97,105]]⟩
def X3:bI:=⟨1,[[107,97,105],[97,110,110,97]]⟩
def VY:bI:=⟨1,[[97,108],[97,110,110,97]]⟩
def SV:bI:=⟨1,[[97],[107,97,105]]⟩
def IB:bI:=⟨1,[[97,110,110,97,107,105]]⟩
def VZ:bI:=⟨1,[[107,97,105]]⟩
theorem X4:Iz nZ nZ 0 1 false=true:=by decide +kernel
theorem X5:Iz Vv X3 1 2 true=true:=by decide +kernel
theorem X6:Iz VY nZ 0 1 false=true:=by decide +kernel
theorem X7:Iz SV Vv 3 2 false=true:=by decide +kernel
theorem X8:Iz IB nZ 2 1 false=true:=by decide +kernel
theorem X9:Iz nZ VZ 10 0 false=true:=by decide +kernel
theorem Ya:(iB ku 1 [97] 1 [97,110,110,97]).map (fun p=>(p.kd,p.c))=some (2,3):=by decide +kernel
theorem Yb:(iB ku 1 [97,110,110,97] 1 [107,97,105]).isNone=true:=by decide +kernel
theorem Dt{T:fy}{a b:bI}{s:Bool}:∀ (l:List Pr) (last before:Int) (rs:List Int),j4 T a b s last before rs l->∀ p ∈ l,p.d.L.length<=12/\p.d.M.length<=12
 | [],_,_,_,_,p,hp=>by cases hp
 | q::l,last,before,rs,h,p,hp=>by
  rw[j4] at h;obtain⟨-,-,-,-,-,-,I,F⟩:=h;rcases List.mem_cons.1 hp with rfl|hp
  ·obtain⟨w,-,-,z⟩:=I;exact(mZ z).2.2
  ·exact Dt l _ _ _ F p hp
variable{T:fy}{b:bI}{m:Mt}
theorem OQ{a:bI}(h:qU T a b m):∀ p ∈ m.ps,p.d.L.length<=12/\p.d.M.length<=12:=Dt _ _ _ _ h.2.1
theorem yM{T:fy}{a b:bI}{s:Bool}:∀ (l:List Pr) (last before:Int) (rs:List Int),-1<=last->j4 T a b s last before rs l->(l.length:Int)<=a.ws.length-(last+1)\/l=[]
 | [],_,_,_,_,_=>.inr rfl
 | q::l,last,before,rs,hl,h=>by
  rw[j4] at h;obtain⟨F,z,-,-,-,-,-,p⟩:=h;left;rcases yM l _ _ _ ff p with h9|h9
  ·rw[YR];omega
  ·rw[h9,YR];simp;omega
theorem IC{a:bI}(h:qU T a b m):m.ps.length<=6:=by
 have h1:=(bR.1 (by have:=h.1;unfold qD at this;rw[YF,YF] at this;exact this.2.1:eZ a=true)).2.2;rcases yM _ _ _ _ ff h.2.1 with h2|h2
 ·omega
 ·rw[h2];simp
end Go.CH.Mtc
namespace Go.Proofs.YtbnnlpjpnihheaaGreatDoor
open Go.RowKit Go.CH Go.CH.Scr Go.CH.eG Go.CH.Mtc
open Go.ChangeMaps (setBlock)
theorem gP(A:fj)(n c:Nat)(w:World):Calls Tryz.prog 26 #[.slice A n c] w (fun e w'=>e=.returned (.agg (gj 1 A n c))/\Below w.heap.size w w'):=by
 have F:=aH (aI.begin w) aO (gj 0 none 0 0) 28;obtain⟨J,z1,V⟩:=cZ F;have z:aI fh w (aj (av w.heap.size (gj 1 none 0 0) 28) aS) _:=aJ F aO 0 (.int .i64 1);have q:aI fh w (aj (av w.heap.size (gj 1 A n c) 28) aS) _:=aJ z aO 1 (.slice A n c);have p:=au q;clear z q
 go_enter Tryz.func26,Tryz.ntmps26
 go_upto_region 1 with (fail);generalize I:w.alloc (.cells (gj 0 none 0 0) 28)=M at *
 clear I;go_wp2;obtain⟨f2,h⟩:=p.o.fst;refine bodyPost_ret (results_cell_row rfl _ _ w.heap.size 28 _ (0,0) (.struct _) rfl h.1 Tryz.underlying28 rfl fi) rfl ?_;exact⟨rfl,p.o.bN⟩
variable{ops:Array Oper}{Q:Exit->Act->World->Prop}{fuel2 ca cb:Nat}{a:Act}{w:World}{T:fy}{b:bI}{An:fj}
theorem tail_at{P:Program}{S:World->Prop}{h:Nat}{ls ls2:Array Bool}(I:Act->World->Act->Prop)(q:(∀ W' p,I a W' p->wpAnyH P .any ops Q S fuel2 ls2 p W')->wpAnyH P .any ops Q S h ls a w)(z:∀ W' p,I a W' p->wpAnyH P .any ops Q S fuel2 ls2 p W'):wpAnyH P .any ops Q S h ls a w:=q z
theorem Vw{ta:TA}(hT:iR w T ta)(hz:LZ w){a:bI}{V Am:fj}{cm:Nat}(hA:fM w An a.ws)(hB:fM w V b.ws)(h:a.ws.length<=1000000)(I:b.ws.length<=1000000)(p:∀ x ∈ a.ws,x.length<=1000000)(z:∀ x ∈ b.ws,x.length<=1000000){mc:Int}{sw:Bool}{l:List (Pr × PA)}(J:RZ w Am l)(q:l.length<=1000)(F:∀ e ∈ l,e.1.d.L.length<=1000/\e.1.d.M.length<=1000):
  Calls Tryz.prog 16 #[eu T ta,ED a An ca,ED b V cb,.agg (gn mc sw Am l.length cm)] w (xM w T a b ⟨mc,sw,l.map (·.1)⟩):=by
 cases sw with
 | false=>exact Sn hT hz hA hB h I p z J q F
 | true=>exact Sq hT hz hA hB h I p z J q F
theorem jR(hz:LZ w){a:bI}{Bn:fj}(hA:fM w An a.ws)(hB:fM w Bn b.ws)(am:∀ x ∈ a.ws,x.length<=1000000)(aq:∀ x ∈ b.ws,x.length<=1000000){c:Int}{p:Nat}{s:Bool}(hk:Iz a b c p s=true):
  Calls Tryz.prog 25 #[ED a An ca,ED b Bn cb,.int .i64 c,.int .i64 (p:Int),.bool s] w (aL w (.bool true)):=by
 have J:qD ku a b=true/\(iI ku a b).c=c/\(iI ku a b).ps.length=p/\(iI ku a b).s=s:=by
  unfold Iz at hk;rw[YF,YF,YF,decide_eq_true_eq,decide_eq_true_eq,decide_eq_true_eq] at hk;exact hk
 have HK:=au J;have ap:a.ws.length<=1000000:=by have:=(bR.1 (sP.1 J.1).2.1).2.2;omega
 have al:b.ws.length<=1000000:=by have:=(bR.1 (sP.1 J.1).2.2).2.2;omega
 have h1:=aH (aI.begin w) aO (gj a.k An a.ws.length ca) 28;have h2:=aH h1 aQ (gj b.k Bn b.ws.length cb) 28;simp only[YN] at h2;have HB:=au h2.bN;obtain⟨a0,a1,-⟩:=cZ h2.drop;obtain⟨b0,b1,-⟩:=cZ h2;have V:=au (fun W (h:Below ((w.alloc (.cells (gj a.k An a.ws.length ca) 28)).alloc (.cells (gj b.k Bn b.ws.length cb) 28)).heap.size ((w.alloc (.cells (gj a.k An a.ws.length ca) 28)).alloc (.cells (gj b.k Bn b.ws.length cb) 28)) W)=>(show W.cell? ⟨w.heap.size,0,none⟩=some (.int .i64 a.k)/\W.cell? ⟨w.heap.size,1,none⟩=some (.slice An a.ws.length ca)/\(W.cell? ⟨w.heap.size+1,0,none⟩=some (.int .i64 b.k)/\W.cell? ⟨w.heap.size+1,1,none⟩=some (.slice Bn b.ws.length cb)) from⟨aF a0 h,aF a1 h,aF b0 h,aF b1 h⟩))
 have KB:=au (fun W (z:Below w.heap.size w W) (ta:TA) (hT:iR W ku ta)=>(J9 (ta:=ta) hT (hz.below z) (ca:=ca) (cb:=cb) (aT hA z) (aT hB z) ap al am aq).mono fun e w' (h:Et W ku a b e w')=>(show ∃ (A:fj) (c':Nat) (l:List (Pr × PA)),e=.returned (.tuple #[.agg (gn c s A p c'),.int .i64 0])/\l.length=p/\l.map (·.1)=(iI ku a b).ps/\bS W fh (Tp A c' l) w' from by
  obtain⟨x,er,A,c',l,h1,h2,h3,h4⟩:=h;cases h2 with
  | arg h5=>rw[J.1] at h5;cases h5
  | some h5=>
   have h6:l.length=p:=by rw[<-J.2.2.1,<-h3,YI]
   exact⟨A,c',l,by rw[h1,J.2.1,J.2.2.2,h6],h6,h3,h4⟩))
 have KC:=au (fun W (z:Below w.heap.size w W) (ta:TA) (hT:iR W ku ta) (A:fj) (c':Nat) (l:List (Pr × PA)) (hM:RZ W A l) (hl:l.map (·.1)=(iI ku a b).ps) (hlp:l.length=p)=>(show Calls Tryz.prog 16 #[eu ku ta,.agg (gj a.k An a.ws.length ca),.agg (gj b.k Bn b.ws.length cb),.agg (gn c s A p c')] W (fun e w'=>e=.returned (.bool true)/\Below W.heap.size W w') from by
  have hr:=kR J.1;have h9:∀ e ∈ l,e.1.d.L.length<=1000/\e.1.d.M.length<=1000:=fun e he=>by
   have:=OQ hr e.1 (by rw[<-hl];exact List.mem_map.2 ⟨e,he,rfl⟩);omega
  have ak:l.length<=1000:=by
   have:=IC hr;rw[<-hl,YI] at this;omega
  rw[<-hlp];refine(Vw (ta:=ta) hT (hz.below z) (ca:=ca) (cb:=cb) (aT hA z) (aT hB z) ap al am aq (mc:=c) (sw:=s) (cm:=c') hM ak h9).mono ?_;rintro e w' ⟨o,rfl,h11,h12⟩;have aA:o=true:=h11.2 (by rw[hl,<-J.2.1,<-J.2.2.2];exact hr)
  exact⟨by rw[aA],h12⟩))
 clear hz hA hB am aq hk J ap al h1 h2 a0 a1 b0 b1;unfold ED at *
 generalize a.ws.length=la at *
 generalize b.ws.length=lb at *
 go_enter Tryz.func25,Tryz.ntmps25
 go_upto_region 1 with (fail);generalize (w.alloc (.cells (gj a.k An la ca) 28)).alloc (.cells (gj b.k Bn lb cb) 28)=w2 at *
 generalize hg:w.heap.size=g5 at V ⊢;clear hg;have ag:=au (fun W (h:Below w2.heap.size w2 W)=>HB.o.trans (h.mono HB.o.size));have ax:=V.o w2.drew (dO (YC _ _));refine wp_region_held (S:=fun w'=>w'.cell? ⟨g5,0,none⟩=some (.int .i64 a.k)/\w'.cell? ⟨g5,1,none⟩=some (.slice An la ca)/\(w'.cell? ⟨g5+1,0,none⟩=some (.int .i64 b.k)/\w'.cell? ⟨g5+1,1,none⟩=some (.slice Bn lb cb))) fi (show wpAnyH _ _ _ _ _ _ _ _ w2.drew from ?_);refine wpAnyH_take (i:=1) (v:=.agg (gj a.k An la ca)) rfl fi fi fi (fun _ _ _ h=>h) (.inl ⟨rfl,fun w' I=>?_⟩) ax ?_
 ·obtain⟨s0,s1,s2,s3⟩:=I;go_simp
 try simp only[Act.put,YM,YJ,YK,Yy,YA,YB]
 refine wpAnyH_take (i:=2) (v:=.agg (gj b.k Bn lb cb)) rfl fi fi fi (fun _ _ _ h=>h) (.inl ⟨rfl,fun w' I=>?_⟩) ax ?_
 ·obtain⟨s0,s1,s2,s3⟩:=I;go_simp
 try simp only[Act.put,YM,YJ,YK,Yy,YA,YB]
 refine tail_at (fuel2:=2) (ls2:=#[true,true,true,true,true,true,true,true,false,false]) (fun a0 W' a'=>∃ (ta:TA) (A:fj) (c' g:Nat) (l:List (Pr × PA)),a'=(((((a0.put (some 14) (eu ku ta)).put (some 17) (.tuple #[.agg (gn c s A p c'),.int .i64 0])).put (some 13) (.tuple #[.agg (gn c s A p c'),.int .i64 0])).put (some 18) (.agg (gn c s A p c'))).put (some 19) (.int .i64 0)).put (some 11) (.pointer (some ⟨g,0,none⟩)) /\
   Hid (l.length=p/\l.map (·.1)=(iI ku a b).ps/\aI fh w2 (aj (av g (gn 0 false none 0 0) 31) (aj (Tp A c' l) aS)) W')) (fun af=>?g1) ?g2
 case g1=>
  refine wpAnyH_all (rs:=[0,7]) fi fW (fun i hi=>?_);simp only[YV,YT,or_false] at hi;rcases hi with rfl|rfl
  ·refine bA rfl rfl ?_;go_wp2_with fail;refine(lu w2.drew).mono ?_;rintro e9 w3 ⟨ta,rfl,z,hT⟩;have H3:=au ((aI.begin w2).below aO ((dO (YC _ _)).trans z));have aw:=au hT;clear z hT
   try simp only[Act.put,YM,YJ,YK,Yy,YA,YB]
   refine⟨V.o w3 H3.o.bN,?_⟩;refine wpAnyH_all (rs:=[3,7]) fi fW (fun i hi=>?_);simp only[YV,YT,or_false] at hi;rcases hi with rfl|rfl
   ·refine bA rfl rfl ?_;go_wp2_with fail;refine(KB.o w3 (ag.o _ H3.o.bN) ta aw.o).mono ?_;rintro e9 w4 ⟨A,c',l,rfl,ab,aa,hp⟩;have H4:=au (H3.o.fresh aO hp);clear hp
    try simp only[Act.put,YM,YJ,YK,Yy,YA,YB]
    refine⟨V.o w4 H4.o.bN,?_⟩;have q:=V.o w4 H4.o.bN;refine wpAnyH_take (i:=4) (v:=.tuple #[.agg (gn c s A p c'),.int .i64 0]) rfl fi fi fi (fun _ _ _ h=>h) (.inl ⟨rfl,fun w' I=>?_⟩) q ?_
    ·go_simp
    try simp only[Act.put,YM,YJ,YK,Yy,YA,YB]
    refine wpAnyH_take (i:=5) (v:=.agg (gn c s A p c')) rfl fi fi fi (fun _ _ _ h=>h) (.inl ⟨rfl,fun w' I=>?_⟩) q ?_
    ·go_simp
    try simp only[Act.put,YM,YJ,YK,Yy,YA,YB]
    refine wpAnyH_take (i:=6) (v:=.int .i64 0) rfl fi fi fi (fun _ _ _ h=>h) (.inl ⟨rfl,fun w' I=>?_⟩) q ?_
    ·go_simp
    try simp only[Act.put,YM,YJ,YK,Yy,YA,YB]
    refine wpAnyH_all (rs:=[7]) fi fW (fun i hi=>?_);simp only[YV,YT,or_false] at hi;subst hi;refine bA rfl rfl ?_;go_wp2_with fail
    try simp only[Act.put,YM,YJ,YK,Yy,YA,YB]
    have H5:=au (aH H4.o aQ (gn 0 false none 0 0) 31);refine⟨V.o _ H5.o.bN,?_⟩;refine af _ _ ⟨ta,A,c',w4.heap.size,l,?_,au ⟨ab,aa,H5.o⟩⟩;simp only[Act.put,Yy,YA,YB]
   ·refine bA rfl rfl ?_;go_wp2_with fail;have H4:=au (aH H3.o aO (gn 0 false none 0 0) 31);have an:=au (aw.o.below ((YC _ _).alloc (YG _) _:Below w3.heap.size w3 (w3.alloc (.cells (gn 0 false none 0 0) 31))))
    try simp only[Act.put,YM,YJ,YK,Yy,YA,YB]
    refine⟨V.o _ H4.o.bN,?_⟩;generalize w3.alloc (.cells (gn 0 false none 0 0) 31)=w4 at *
    generalize w3.heap.size=ai at *
    refine wpAnyH_all (rs:=[3]) fi fW (fun i hi=>?_);simp only[YV,YT,or_false] at hi;subst hi;refine bA rfl rfl ?_;go_wp2_with fail;refine(KB.o w4 (ag.o _ H4.o.bN) ta an.o).mono ?_;rintro e9 w5 ⟨A,c',l,rfl,ab,aa,hp⟩;have H5:=au ((H4.o.fresh aQ hp).perm (by ac_rfl:_=aj (av ai (gn 0 false none 0 0) 31) (aj (Tp A c' l) aS)));clear hp
    try simp only[Act.put,YM,YJ,YK,Yy,YA,YB]
    refine⟨V.o _ H5.o.bN,?_⟩;have q:=V.o w5 H5.o.bN;refine wpAnyH_take (i:=4) (v:=.tuple #[.agg (gn c s A p c'),.int .i64 0]) rfl fi fi fi (fun _ _ _ h=>h) (.inl ⟨rfl,fun w' I=>?_⟩) q ?_
    ·go_simp
    try simp only[Act.put,YM,YJ,YK,Yy,YA,YB]
    refine wpAnyH_take (i:=5) (v:=.agg (gn c s A p c')) rfl fi fi fi (fun _ _ _ h=>h) (.inl ⟨rfl,fun w' I=>?_⟩) q ?_
    ·go_simp
    try simp only[Act.put,YM,YJ,YK,Yy,YA,YB]
    refine wpAnyH_take (i:=6) (v:=.int .i64 0) rfl fi fi fi (fun _ _ _ h=>h) (.inl ⟨rfl,fun w' I=>?_⟩) q ?_
    ·go_simp
    try simp only[Act.put,YM,YJ,YK,Yy,YA,YB]
    refine af _ _ ⟨ta,A,c',ai,l,?_,au ⟨ab,aa,H5.o⟩⟩;simp only[Act.put,Yy,YA,YB]
  ·refine bA rfl rfl ?_;go_wp2_with fail;have H3:=au ((aH (aI.begin w2) aO (gn 0 false none 0 0) 31).drew aQ)
   try simp only[Act.put,YM,YJ,YK,Yy,YA,YB]
   refine⟨V.o (w2.alloc (.cells (gn 0 false none 0 0) 31)).drew H3.o.bN,?_⟩;generalize aD:(w2.alloc (.cells (gn 0 false none 0 0) 31)).drew=w3 at *
   generalize w2.heap.size=ai at H3 ⊢;refine wpAnyH_all (rs:=[0]) fi fW (fun i hi=>?_);simp only[YV,YT,or_false] at hi;subst hi;refine bA rfl rfl ?_;go_wp2_with fail;refine(lu _).mono ?_;rintro e9 w4 ⟨ta,rfl,z,hT⟩;have H4:=au (H3.o.below aQ z);have an:=au hT;clear z hT H3
   try simp only[Act.put,YM,YJ,YK,Yy,YA,YB]
   refine⟨V.o w4 H4.o.bN,?_⟩;refine wpAnyH_all (rs:=[3]) fi fW (fun i hi=>?_);simp only[YV,YT,or_false] at hi;subst hi;refine bA rfl rfl ?_;go_wp2_with fail;refine(KB.o w4 (ag.o _ H4.o.bN) ta an.o).mono ?_;rintro e9 w5 ⟨A,c',l,rfl,ab,aa,hp⟩;have H5:=au ((H4.o.fresh aQ hp).perm (by ac_rfl:_=aj (av ai (gn 0 false none 0 0) 31) (aj (Tp A c' l) aS)));clear hp
   try simp only[Act.put,YM,YJ,YK,Yy,YA,YB]
   refine⟨V.o _ H5.o.bN,?_⟩;have q:=V.o w5 H5.o.bN;refine wpAnyH_take (i:=4) (v:=.tuple #[.agg (gn c s A p c'),.int .i64 0]) rfl fi fi fi (fun _ _ _ h=>h) (.inl ⟨rfl,fun w' I=>?_⟩) q ?_
   ·go_simp
   try simp only[Act.put,YM,YJ,YK,Yy,YA,YB]
   refine wpAnyH_take (i:=5) (v:=.agg (gn c s A p c')) rfl fi fi fi (fun _ _ _ h=>h) (.inl ⟨rfl,fun w' I=>?_⟩) q ?_
   ·go_simp
   try simp only[Act.put,YM,YJ,YK,Yy,YA,YB]
   refine wpAnyH_take (i:=6) (v:=.int .i64 0) rfl fi fi fi (fun _ _ _ h=>h) (.inl ⟨rfl,fun w' I=>?_⟩) q ?_
   ·go_simp
   try simp only[Act.put,YM,YJ,YK,Yy,YA,YB]
   refine af _ _ ⟨ta,A,c',ai,l,?_,au ⟨ab,aa,H5.o⟩⟩;simp only[Act.put,Yy,YA,YB]
 case g2=>
  rintro W' a' ⟨ta,A,c',g,l,rfl,hH⟩;obtain⟨ab,aa,h9⟩:=hH.o;have H9:=au h9;obtain⟨z0,z1,z2⟩:=dZ h9;obtain⟨FZ,ar⟩:=h9.fst;have zf:=aP ar;have ak:=rG h9 aQ (.int .i64 c) (.bool s) (.slice A p c');have ad:=au ak;clear hH h9 ak ar FZ H9
  try simp only[Act.put,YM,YJ,YK,Yy,YA,YB]
  have q:=V.o _ ad.o.bN;refine wpAnyH_all (rs:=[8]) fi fW (fun i hi=>?_);simp only[YV,YT,or_false] at hi;subst hi;refine bA rfl rfl ?_;go_wp2_with fail;generalize ((W'.setCell ⟨g,0,none⟩ (.int .i64 c)).setCell ⟨g,1,none⟩ (.bool s)).setCell ⟨g,2,none⟩ (.slice A p c')=w5 at *
  clear z0 z1 z2 zf
  try simp only[Act.put,YM,YJ,YK,Yy,YA,YB]
  refine wpAnyH_take (i:=9) (v:=.int .i64 0) rfl fi fi fi (fun _ _ _ h=>h) (.inl ⟨rfl,fun w' I=>?_⟩) q ?_
  ·go_simp
  try simp only[Act.put,YM,YJ,YK,Yy,YA,YB]
  refine wpAnyH_done fi ?_ _;clear q
  try dsimp only
  obtain⟨q0,q1,q2⟩:=dZ ad.o
  have HM:=au (show ∀ W,Below w5.heap.size w5 W->RZ W A l from fun W z=>by
   obtain⟨F,hF⟩:=ad.o.drop.fst
   exact(XY hF).below z)
  have HQ:=au (fun W (z:Below w5.heap.size w5 W)=>(show (pa W g (.int .i64 c) (.bool s) (.slice A p c')) from⟨aF q0 z,aF q1 z,aF q2 z⟩));have ae:=au (fun W (z:Below w5.heap.size w5 W)=>ad.o.bN.trans (z.mono ad.o.bN.size));clear q0 q1 q2 ad;go_upto_region 2 with (fail);obtain⟨n0,n1,n2,n3⟩:=V.o _ (ae.o _ (dO (YC _ _)));obtain⟨q0,q1,q2⟩:=HQ.o _ (dO (YC _ _));refine aK (fun w'=>(w'.cell? ⟨g5,0,none⟩=some (.int .i64 a.k)/\w'.cell? ⟨g5,1,none⟩=some (.slice An la ca)/\(w'.cell? ⟨g5+1,0,none⟩=some (.int .i64 b.k)/\w'.cell? ⟨g5+1,1,none⟩=some (.slice Bn lb cb)))/\(pa w' g (.int .i64 c) (.bool s) (.slice A p c'))) fi fi (by exact⟨⟨n0,n1,n2,n3⟩,q0,q1,q2⟩) ?_;clear n0 n1 n2 n3 q0 q1 q2
  (repeat(first|refine aW ?_|refine aX ?_))
  refine bY rfl ft (fun K hK=>?_);go_wp2_with fail;refine(lu _).mono ?_;rintro e9 w6 ⟨tb,rfl,z,hT⟩;have ac:=au ((dO (YC w5.heap.size w5)).trans z);have az:=au hT;refine hK.o _ _ (by exact⟨V.o _ (ae.o _ ac.o),HQ.o _ ac.o⟩) ?_;clear hK z hT
  (repeat(first|refine aW ?_|refine aX ?_))
  refine bY rfl ft (fun K hK=>?_);go_wp2_with fail;refine(KC.o w6 (ag.o _ (ae.o _ ac.o)) tb az.o A c' l (HM.o _ ac.o) aa ab).mono ?_;rintro e9 w7 ⟨rfl,z⟩;have ao:=au (ac.o.trans (z.mono ac.o.size));refine hK.o _ _ (by exact⟨V.o _ (ae.o _ ao.o),HQ.o _ ao.o⟩) ?_;clear hK z
  (repeat(first|refine aW ?_|refine aX ?_))
  refine lex_nil ?_;have HE:=au (ag.o _ (ae.o _ ao.o));clear ab aa;go_wp2;go_ret;exact aN rfl HE.o
theorem iK(W:World)(l:List Bs):fM (W.alloc (.cells (mE l).toArray 9)) (some ⟨W.heap.size,0,none⟩) l:=by
 refine⟨by simp[mE],fun u h=>?_,fun _=>⟨_,rfl,fun j u h=>?_⟩⟩
 ·unfold mE at h;obtain⟨s,-,rfl⟩:=List.mem_map.1 h;rfl
 ·have e:(⟨W.heap.size,0,none⟩:Addr).add j=⟨W.heap.size,j,none⟩:=by unfold Addr.add;split<;>simp_all
  rw[e];have p:(W.alloc (.cells (mE l).toArray 9)).heap[W.heap.size]?=some (.cells (mE l).toArray 9 (0,0)):=heap_alloc_new W _;simp only[World.cell?,p]
  show(mE l).toArray[j]?=some u
  rw[Y5];exact h
variable{w':World}
theorem BJ{R:CH.bq}(h:bS w fh R w'):Below w.heap.size w w':=by
 obtain⟨F,h1,h2,h3⟩:=h;exact h2.below (fun _ _ h=>h)
theorem bT(W:World)(o:Obj):Below W.heap.size W (W.alloc o):=(YC _ _).alloc (YG _) _
theorem SX(w:World)(hz:LZ w):Calls Tryz.prog 10 #[] w (aL w (.bool true)):=by
 have HZ:=au hz;clear hz;have b9:=au (YC w.heap.size w)
 go_enter Tryz.func10,Tryz.ntmps10
 have J:fM (w.alloc (.cells #[.string { data:=#[97,110,110,97] }] 9)) (some ⟨w.heap.size,0,none⟩) [[97,110,110,97]]:=iK w [[97,110,110,97]];have I:=au J;have z:=au (bT w (.cells #[.string { data:=#[97,110,110,97] }] 9));clear J;go_wp2_with fail;refine(gP _ _ _ _).mono ?_;rintro V w1 ⟨rfl,hb⟩;have bx:=au (aG (aG b9.o z.o) hb);have bn:=au (fM.below I.o hb);clear I z hb b9;obtain⟨g1,bz⟩:∃ g,g=w.heap.size:=⟨_,rfl⟩;rw[<-bz] at bn ⊢;clear bz
 try dsimp only
 have J:fM (w1.alloc (.cells #[.string { data:=#[97,110,110,97] }] 9)) (some ⟨w1.heap.size,0,none⟩) [[97,110,110,97]]:=iK w1 [[97,110,110,97]];have I:=au J;have z:=au (bT w1 (.cells #[.string { data:=#[97,110,110,97] }] 9));clear J;go_wp2_with fail;refine(gP _ _ _ _).mono ?_;rintro V w2 ⟨rfl,hb⟩;have be:=au (aG (aG bx.o z.o) hb);have bm:=au (fM.below I.o hb);have az:=au (fM.below (fM.below bn.o z.o) hb);clear bn;clear I z hb bx;obtain⟨g2,bw⟩:∃ g,g=w1.heap.size:=⟨_,rfl⟩;rw[<-bw] at bm ⊢;clear bw
 try dsimp only
 have K:=au (show Calls Tryz.prog 25 #[.agg (gj 1 (some ⟨g1,0,none⟩) 1 1),.agg (gj 1 (some ⟨g2,0,none⟩) 1 1),.int .i64 0,.int .i64 1,.bool false] w2 (aL w2 (.bool true)) from jR (HZ.o.below be.o) (a:=nZ) (b:=nZ) (ca:=1) (cb:=1) az.o bm.o fW fW X4);clear az bm;go_wp2_with fail;refine K.o.mono ?_;rintro V w3 ⟨rfl,hb⟩;have b6:=au (aG be.o hb);clear K hb be
 try dsimp only
 have J:fM (w3.alloc (.cells #[.string { data:=#[97,110,110,97] },.string { data:=#[107,97,105] }] 9)) (some ⟨w3.heap.size,0,none⟩) [[97,110,110,97],[107,97,105]]:=iK w3 [[97,110,110,97],[107,97,105]];have I:=au J;have z:=au (bT w3 (.cells #[.string { data:=#[97,110,110,97] },.string { data:=#[107,97,105] }] 9));clear J;go_wp2_with fail;refine(gP _ _ _ _).mono ?_;rintro V w4 ⟨rfl,hb⟩;have bv:=au (aG (aG b6.o z.o) hb);have bi:=au (fM.below I.o hb);clear I z hb b6;obtain⟨g4,cf⟩:∃ g,g=w3.heap.size:=⟨_,rfl⟩;rw[<-cf] at bi ⊢;clear cf
 try dsimp only
 have J:fM (w4.alloc (.cells #[.string { data:=#[107,97,105] },.string { data:=#[97,110,110,97] }] 9)) (some ⟨w4.heap.size,0,none⟩) [[107,97,105],[97,110,110,97]]:=iK w4 [[107,97,105],[97,110,110,97]];have I:=au J;have z:=au (bT w4 (.cells #[.string { data:=#[107,97,105] },.string { data:=#[97,110,110,97] }] 9));clear J;go_wp2_with fail;refine(gP _ _ _ _).mono ?_;rintro V w5 ⟨rfl,hb⟩;have bj:=au (aG (aG bv.o z.o) hb);have bh:=au (fM.below I.o hb);have aD:=au (fM.below (fM.below bi.o z.o) hb);clear bi;clear I z hb bv;obtain⟨g5,b0⟩:∃ g,g=w4.heap.size:=⟨_,rfl⟩;rw[<-b0] at bh ⊢;clear b0
 try dsimp only
 have K:=au (show Calls Tryz.prog 25 #[.agg (gj 1 (some ⟨g4,0,none⟩) 2 2),.agg (gj 1 (some ⟨g5,0,none⟩) 2 2),.int .i64 1,.int .i64 2,.bool true] w5 (aL w5 (.bool true)) from jR (HZ.o.below bj.o) (a:=Vv) (b:=X3) (ca:=2) (cb:=2) aD.o bh.o fW fW X5);clear aD bh;go_wp2_with fail;refine K.o.mono ?_;rintro V w6 ⟨rfl,hb⟩;have br:=au (aG bj.o hb);clear K hb bj
 try dsimp only
 have J:fM (w6.alloc (.cells #[.string { data:=#[97,108] },.string { data:=#[97,110,110,97] }] 9)) (some ⟨w6.heap.size,0,none⟩) [[97,108],[97,110,110,97]]:=iK w6 [[97,108],[97,110,110,97]];have I:=au J;have z:=au (bT w6 (.cells #[.string { data:=#[97,108] },.string { data:=#[97,110,110,97] }] 9));clear J;go_wp2_with fail;refine(gP _ _ _ _).mono ?_;rintro V w7 ⟨rfl,hb⟩;have b5:=au (aG (aG br.o z.o) hb);have bd:=au (fM.below I.o hb);clear I z hb br;obtain⟨g7,b3⟩:∃ g,g=w6.heap.size:=⟨_,rfl⟩;rw[<-b3] at bd ⊢;clear b3
 try dsimp only
 have J:fM (w7.alloc (.cells #[.string { data:=#[97,110,110,97] }] 9)) (some ⟨w7.heap.size,0,none⟩) [[97,110,110,97]]:=iK w7 [[97,110,110,97]];have I:=au J;have z:=au (bT w7 (.cells #[.string { data:=#[97,110,110,97] }] 9));clear J;go_wp2_with fail;refine(gP _ _ _ _).mono ?_;rintro V w8 ⟨rfl,hb⟩;have bo:=au (aG (aG b5.o z.o) hb);have bf:=au (fM.below I.o hb);have ap:=au (fM.below (fM.below bd.o z.o) hb);clear bd;clear I z hb b5;obtain⟨g8,b7⟩:∃ g,g=w7.heap.size:=⟨_,rfl⟩;rw[<-b7] at bf ⊢;clear b7
 try dsimp only
 have K:=au (show Calls Tryz.prog 25 #[.agg (gj 1 (some ⟨g7,0,none⟩) 2 2),.agg (gj 1 (some ⟨g8,0,none⟩) 1 1),.int .i64 0,.int .i64 1,.bool false] w8 (aL w8 (.bool true)) from jR (HZ.o.below bo.o) (a:=VY) (b:=nZ) (ca:=2) (cb:=1) ap.o bf.o fW fW X6);clear ap bf;go_wp2_with fail;refine K.o.mono ?_;rintro V w9 ⟨rfl,hb⟩;have ce:=au (aG bo.o hb);clear K hb bo
 try dsimp only
 have J:fM (w9.alloc (.cells #[.string { data:=#[97] },.string { data:=#[107,97,105] }] 9)) (some ⟨w9.heap.size,0,none⟩) [[97],[107,97,105]]:=iK w9 [[97],[107,97,105]];have I:=au J;have z:=au (bT w9 (.cells #[.string { data:=#[97] },.string { data:=#[107,97,105] }] 9));clear J;go_wp2_with fail;refine(gP _ _ _ _).mono ?_;rintro V aq ⟨rfl,hb⟩;have aE:=au (aG (aG ce.o z.o) hb);have al:=au (fM.below I.o hb);clear I z hb ce;obtain⟨cm,a8⟩:∃ g,g=w9.heap.size:=⟨_,rfl⟩;rw[<-a8] at al ⊢;clear a8
 try dsimp only
 have J:fM (aq.alloc (.cells #[.string { data:=#[97,110,110,97] },.string { data:=#[107,97,105] }] 9)) (some ⟨aq.heap.size,0,none⟩) [[97,110,110,97],[107,97,105]]:=iK aq [[97,110,110,97],[107,97,105]];have I:=au J;have z:=au (bT aq (.cells #[.string { data:=#[97,110,110,97] },.string { data:=#[107,97,105] }] 9));clear J;go_wp2_with fail;refine(gP _ _ _ _).mono ?_;rintro V b1 ⟨rfl,hb⟩;have ax:=au (aG (aG aE.o z.o) hb);have ak:=au (fM.below I.o hb);have ab:=au (fM.below (fM.below al.o z.o) hb);clear al;clear I z hb aE;obtain⟨cp,a0⟩:∃ g,g=aq.heap.size:=⟨_,rfl⟩;rw[<-a0] at ak ⊢;clear a0
 try dsimp only
 have K:=au (show Calls Tryz.prog 25 #[.agg (gj 1 (some ⟨cm,0,none⟩) 2 2),.agg (gj 1 (some ⟨cp,0,none⟩) 2 2),.int .i64 3,.int .i64 2,.bool false] b1 (aL b1 (.bool true)) from jR (HZ.o.below ax.o) (a:=SV) (b:=Vv) (ca:=2) (cb:=2) ab.o ak.o fW fW X7);clear ab ak;go_wp2_with fail;refine K.o.mono ?_;rintro V ag ⟨rfl,hb⟩;have a1:=au (aG ax.o hb);clear K hb ax
 try dsimp only
 have J:fM (ag.alloc (.cells #[.string { data:=#[97,110,110,97,107,105] }] 9)) (some ⟨ag.heap.size,0,none⟩) [[97,110,110,97,107,105]]:=iK ag [[97,110,110,97,107,105]];have I:=au J;have z:=au (bT ag (.cells #[.string { data:=#[97,110,110,97,107,105] }] 9));clear J;go_wp2_with fail;refine(gP _ _ _ _).mono ?_;rintro V an ⟨rfl,hb⟩;have a6:=au (aG (aG a1.o z.o) hb);have ao:=au (fM.below I.o hb);clear I z hb a1;obtain⟨ci,a3⟩:∃ g,g=ag.heap.size:=⟨_,rfl⟩;rw[<-a3] at ao ⊢;clear a3
 try dsimp only
 have J:fM (an.alloc (.cells #[.string { data:=#[97,110,110,97] }] 9)) (some ⟨an.heap.size,0,none⟩) [[97,110,110,97]]:=iK an [[97,110,110,97]];have I:=au J;have z:=au (bT an (.cells #[.string { data:=#[97,110,110,97] }] 9));clear J;go_wp2_with fail;refine(gP _ _ _ _).mono ?_;rintro V bu ⟨rfl,hb⟩;have ae:=au (aG (aG a6.o z.o) hb);have am:=au (fM.below I.o hb);have ad:=au (fM.below (fM.below ao.o z.o) hb);clear ao;clear I z hb a6;obtain⟨co,a7⟩:∃ g,g=an.heap.size:=⟨_,rfl⟩;rw[<-a7] at am ⊢;clear a7
 try dsimp only
 have K:=au (show Calls Tryz.prog 25 #[.agg (gj 1 (some ⟨ci,0,none⟩) 1 1),.agg (gj 1 (some ⟨co,0,none⟩) 1 1),.int .i64 2,.int .i64 1,.bool false] bu (aL bu (.bool true)) from jR (HZ.o.below ae.o) (a:=IB) (b:=nZ) (ca:=1) (cb:=1) ad.o am.o fW fW X8);clear ad am;go_wp2_with fail;refine K.o.mono ?_;rintro V ai ⟨rfl,hb⟩;have a9:=au (aG ae.o hb);clear K hb ae
 try dsimp only
 have J:fM (ai.alloc (.cells #[.string { data:=#[97,110,110,97] }] 9)) (some ⟨ai.heap.size,0,none⟩) [[97,110,110,97]]:=iK ai [[97,110,110,97]];have I:=au J;have z:=au (bT ai (.cells #[.string { data:=#[97,110,110,97] }] 9));clear J;go_wp2_with fail;refine(gP _ _ _ _).mono ?_;rintro V aw ⟨rfl,hb⟩;have a2:=au (aG (aG a9.o z.o) hb);have ar:=au (fM.below I.o hb);clear I z hb a9;obtain⟨cj,a4⟩:∃ g,g=ai.heap.size:=⟨_,rfl⟩;rw[<-a4] at ar ⊢;clear a4
 try dsimp only
 have J:fM (aw.alloc (.cells #[.string { data:=#[107,97,105] }] 9)) (some ⟨aw.heap.size,0,none⟩) [[107,97,105]]:=iK aw [[107,97,105]];have I:=au J;have z:=au (bT aw (.cells #[.string { data:=#[107,97,105] }] 9));clear J;go_wp2_with fail;refine(gP _ _ _ _).mono ?_;rintro V b4 ⟨rfl,hb⟩;have aA:=au (aG (aG a2.o z.o) hb);have af:=au (fM.below I.o hb);have aa:=au (fM.below (fM.below ar.o z.o) hb);clear ar;clear I z hb a2;obtain⟨ck,ba⟩:∃ g,g=aw.heap.size:=⟨_,rfl⟩;rw[<-ba] at af ⊢;clear ba
 try dsimp only
 have K:=au (show Calls Tryz.prog 25 #[.agg (gj 1 (some ⟨cj,0,none⟩) 1 1),.agg (gj 1 (some ⟨ck,0,none⟩) 1 1),.int .i64 10,.int .i64 0,.bool false] b4 (aL b4 (.bool true)) from jR (HZ.o.below aA.o) (a:=nZ) (b:=VZ) (ca:=1) (cb:=1) aa.o af.o fW fW X9);clear aa af;go_wp2_with fail;refine K.o.mono ?_;rintro V cq ⟨rfl,hb⟩;have a5:=au (aG aA.o hb);clear K hb aA
 try dsimp only
 go_wp2_with fail;refine(lu _).mono ?_;rintro V v1 ⟨t1,rfl,hb,hT⟩;have bb:=au (aG a5.o hb);have K:=au (BA hT (HZ.o.below bb.o) 1 [97] 1 [97,110,110,97] fW fW);clear hb hT a5
 try dsimp only
 go_wp2_with fail;refine K.o.mono ?_;rintro V v2 ⟨p,er,A,ac,B,bc,rfl,hw,hp⟩;have h1:er=0/\p.kd=2/\p.c=3:=by
  have h7:=Ya;cases hw with
  | arg h=>exact absurd h fW
  | none h h2=>rw[h2] at h7;cases h7
  | some h h2=>
   rw[h2] at h7;injection h7 with h7
   injection h7 with h8 h9
   exact⟨rfl,h8,h9⟩
 obtain⟨rfl,h2,h3⟩:=h1;have b8:=au (aG bb.o (BJ hp));clear K hw hp bb;unfold og;rw[h2,h3];clear h2 h3;have h4:=aH (aI.begin v2) aO (fX p.i p.j 2 p.l p.r 3 p.d.c A p.d.L.length ac B p.d.M.length bc (bs p.d.F)) 44;have cc:=au (aG b8.o h4.bN);obtain⟨⟨p0,p1,p2,p3,p4⟩,⟨p5,p6,p7,p8,p9⟩,pf⟩:=bE h4;have ch:=au (fun W (h:Below (v2.alloc (.cells (fX p.i p.j 2 p.l p.r 3 p.d.c A p.d.L.length ac B p.d.M.length bc (bs p.d.F)) 44)).heap.size (v2.alloc (.cells (fX p.i p.j 2 p.l p.r 3 p.d.c A p.d.L.length ac B p.d.M.length bc (bs p.d.F)) 44)) W)=>(show W.cell? ⟨v2.heap.size,2,none⟩=some (.int .i64 2)/\W.cell? ⟨v2.heap.size,5,none⟩=some (.int .i64 3) from⟨aF p2 h,aF p5 h⟩));clear p0 p1 p2 p3 p4 p5 p6 p7 p8 p9 pf h4 b8
 try dsimp only
 go_upto_region 4 with (fail);generalize v2.alloc (.cells (fX p.i p.j 2 p.l p.r 3 p.d.c A p.d.L.length ac B p.d.M.length bc (bs p.d.F)) 44)=v3 at *
 generalize v2.heap.size=gp at *
 go_wp2_with fail;refine(lu _).mono ?_;rintro V v4 ⟨t2,rfl,hb,hT⟩;have bk:=au (aG cc.o hb);have b2:=au hb;have K:=au (BA hT (HZ.o.below bk.o) 1 [97,110,110,97] 1 [107,97,105] fW fW);clear hb hT
 try dsimp only
 go_wp2_with fail;refine K.o.mono ?_;rintro V v5 ⟨q,er,A2,ac2,B2,bc2,rfl,hw,hp⟩;have h1:er=11:=by
  have h8:=Yb;cases hw with
  | arg h=>exact absurd h fW
  | none h h2=>rfl
  | some h h2=>rw[h2] at h8;cases h8
 obtain rfl:=h1;have cd:=au (aG bk.o (BJ hp));have bp:=au (aG b2.o (BJ hp));clear K hw hp bk cc b2;unfold og;have cn:=au (aG cd.o (bT v5 (.cells (gx q A2 ac2 B2 bc2) 44)));have cg:=au (aG bp.o (bT v5 (.cells (gx q A2 ac2 B2 bc2) 44)));clear cd bp
 try dsimp only
 go_upto_region 5 with (fail);generalize v5.alloc (.cells (gx q A2 ac2 B2 bc2) 44)=v6 at *
 obtain⟨p2,p5⟩:=ch.o v6 cg.o;go_wp2;go_ret;exact aN rfl cn.o
variable{W:World}{t:TypeId}
theorem MW{cs:Array Value}(n size:Nat)(xs:List Value)(p:xs.toArray=cs)(q:xs.length=n*size)(h:∀ u ∈ xs,u.oneCell'=true):Src (W.alloc (.cells cs t)) (some ⟨W.heap.size,0,none⟩) n size xs:=by
 refine⟨q,h,fun _=>⟨_,rfl,fun j u z=>?_⟩⟩;have e:(⟨W.heap.size,0,none⟩:Addr).add j=⟨W.heap.size,j,none⟩:=by unfold Addr.add;split<;>simp_all
 rw[e];have h:(W.alloc (.cells cs t)).heap[W.heap.size]?=some (.cells cs t (0,0)):=heap_alloc_new W _;simp only[World.cell?,h]
 show cs[j]?=some u
 rw[<-p,Y5];exact z
theorem Vx(l:List IJ):∀ u ∈ l.flatMap Xv,u.oneCell'=true:=by
 intro u hu;obtain⟨x,-,hx⟩:=List.mem_flatMap.1 hu;unfold Xv at hx;simp only[YV,YT,or_false] at hx;rcases hx with rfl|rfl<;>rfl
theorem OT{cs:Array Value}(l:List IJ)(hx:(l.flatMap Xv).toArray=cs)(h:∀ z ∈ l,fM W z.A z.n.ws):Kk (W.alloc (.cells cs 28)) (some ⟨W.heap.size,0,none⟩) l:=
 ⟨MW l.length 2 _ hx (Rz (R:=Xv) (size:=2) (fun _=>rfl) l) (Vx l),fun z hz=>(h z hz).below (bT W _)⟩
theorem Kl{l:List IJ}(h:EC T l=true):(∀ {w:World} {a:TA},BD w T a->iR w T a)/\∀ z ∈ l,z.n.ws.length<=3/\∀ s ∈ z.n.ws,s.length<=30:=by
 obtain⟨h1,h2⟩:=BG.1 h;refine⟨fun hT=>hT.t8 h1,fun z hz=>?_⟩;obtain⟨h3,h4⟩:=MV.1 (h2 z hz);exact⟨h3,fun s hs=>sW.1 ((wG.1 h4).2.2.2.2 s hs)⟩
open Go.ChangeShapes Go.WideShapes Go.ChangeAt Go.Deep Go.Shelf Go.Lib
theorem XQ:CaseExtra Tryz.prog Tryz.rD:={ n13:=by kernel_rfl,y13:=by kernel_rfl,c21:=by kernel_rfl,c51:=by kernel_rfl,c206:=by kernel_rfl,c208:=by kernel_rfl }
theorem Yx:U8Extra Tryz.prog Tryz.rC:={ n3:=by kernel_rfl,n4:=by kernel_rfl,y3:=by kernel_rfl,y4:=by kernel_rfl,c5:=by kernel_rfl,c119:=by kernel_rfl,c138:=by kernel_rfl }
theorem Xd:Lays.n274 Tryz.prog Tryz.rD:={ Tryz.Va with }
theorem Xe:Lays.n260 Tryz.prog Tryz.rC:={ Tryz.U9 with }
def Mj:List (String × DataW Unit):=[("unicode/utf8.acceptRanges",Rows.laid_unicode_utf8_acceptRanges),("unicode.CaseRanges",Rows.laid_unicode_CaseRanges),("unicode/utf8.first",Rows.laid_unicode_utf8_first)]
variable{e:TypeId}{m:Nat}{v:Value}
theorem XR(h:laidMetH Tryz.prog Mj w)(F:w.ShapedOpen Tryz.prog):LZ w:=by
 rw[MakeChecks.laidMetH_plain _ _ _ fi] at h;have z:=laidMet.reads h (n:= "unicode/utf8.acceptRanges") (d:=Rows.laid_unicode_utf8_acceptRanges) (by simp[Mj]);have q:=laidMet.reads h (n:= "unicode.CaseRanges") (d:=Rows.laid_unicode_CaseRanges) (by simp[Mj]);have p:=laidMet.reads h (n:= "unicode/utf8.first") (d:=Rows.laid_unicode_utf8_first) (by simp[Mj]);rw[show(Rows.laid_unicode_CaseRanges:DataW Unit)=caseData from Pinned.caseRanges_eq] at q;rw[show(Rows.laid_unicode_utf8_first:DataW Unit)=firstData from Pinned.utf8First_eq] at p;rw[show(Rows.laid_unicode_utf8_acceptRanges:DataW Unit)=acceptData by kernel_rfl] at z;exact⟨caseVar_of_reads Xd fi XQ q,utf8Tabs_of_reads Xe Yx p z,Go.Proofs.cell_of_shapedOpen_int (P:=Tryz.prog) (zero:=(gb 0)) (t:=3) F (of_decide_eq_true fi) fi rfl fi fi Tryz.underlying3⟩
theorem uH{H:Type}{enc:TypeId × Value->H}{a:Assume}{C:Checked}{os:Os}{f:FuncId}{fn:Func}{s:ChangeSpec}{q:List PathCond}{apart fresh h F:Bool}{X:World->Array Value->Prop}(hX:∀ (w w':World) (args:Array Value),w.heap=w'.heap->X w args->X w' args)(own:ownKnob C.prog.godebug=none)(I:os.Started)(J:C.prog.inits.idxOf? f=none)(ag:C.prog.funcs[f]?=some fn)(z:∃ (w:World) (tape:Tape) (i:Input),w.os=os/\(w.forCall tape i).Shaped C.prog/\i.vars=[]/\Input.okWide C.prog (w.forCall tape i) .any w.heap.size f i /\
   ((s.pre enc C.prog fn q apart (w.forCall tape i).memory i.args/\X (w.forCall tape i).memory i.args)/\sizedMet enc C.prog fn (OpenSpec.ofChange s) apart (w.forCall tape i).memory i.args)/\a.holds C.prog (lone (Frame.enter C.prog f i.args .normal) [] (w.forCall tape i)))(p:∀ (W:World) (base:Nat) (args:Array Value) (ds gs:List (DataW H)) (before:List MemPlace),
   (∀ (j:Nat) t v,fn.params[j]?=some t->args[j]?=some v->Value.okWide C.prog W .any base t v) ->
   DataW.Whole enc C.prog fn.params.toList s.vars apart W args.toList ds gs before ->
   X W args->W.ShapedOpen C.prog ->
   Calls C.prog f args W fun e W'=>∃ v,e=.returned v/\s.post enc C.prog fn apart fresh h F W args v W'):
  ReturnsInHanded a C os f .any (fun w args=>(s.pre enc C.prog fn q apart w args/\X w args)/\sizedMet enc C.prog fn (OpenSpec.ofChange s) apart w args) (s.post enc C.prog fn apart fresh h F):=by
 refine returnsInHanded_of_calls own I J z ?_;intro w tape i _ ae _ af V ab;obtain⟨_,_,_,ac,aa,_,_,_,_,M⟩:=af;have e:ac=fn:=Option.some.inj (aa.symm.trans ag);subst e;obtain⟨⟨⟨ds,gs,before,hw,hc⟩,hx⟩,hz⟩:=V;have ad:=DataW.Whole.of_heap (w':=w.forCall tape i) ft hw;refine(p (w.forCall tape i) w.heap.size i.args ds gs before M ad (hX _ _ _ ft hx) ae).mono fun e W' ⟨v,he,hp⟩=>?_;subst he;exact ChangeSpec.post_blind hp
section
variable{H:Type}{enc:TypeId × Value→H}{w:World}{base:Nat}
instance:Inhabited ib:=⟨⟨0,[],[],0⟩⟩
instance:Inhabited Drop:=⟨⟨0,[],0⟩⟩
theorem OC:∀ m cs y,DataW.trod enc Tryz.prog w base (fun _=>true) true m 113 cs=some y->∃ R:ib,cs=eX R/\True:=by
 intro m cs y h;obtain⟨q,n,p⟩:=yh Tryz.underlying113 fi fi h;obtain⟨v0,z0,V,t0⟩:=p 0 _ rfl;obtain⟨v1,z1,M,t1⟩:=p 1 _ rfl;obtain⟨v2,z2,c2,t2⟩:=p 2 _ rfl;obtain⟨v3,z3,c3,t3⟩:=p 3 _ rfl;obtain⟨x0,z,-,-⟩:=lA Tryz.underlying3 t0;obtain⟨x1,F,-⟩:=sl Tryz.underlying9 t1;obtain⟨x2,J,-⟩:=sl Tryz.underlying9 t2;obtain⟨x3,I,-,-⟩:=lA Tryz.underlying3 t3;injection z with z
 injection F with F
 injection J with J
 injection I with I
 subst z F J I;refine⟨⟨x0,bl x1,bl x2,x3⟩,?_,trivial⟩;have q:cs.length=4:=q
 match cs,q with
 | [a,b,c,d],_=>
  simp at V M c2 c3;subst V M c2 c3;unfold eX;rw[qh,qh]
theorem OD:∀ m cs y,DataW.trod enc Tryz.prog w base (fun _=>true) true m 104 cs=some y->∃ d:Drop,cs=tY d/\True:=by
 intro m cs y h;obtain⟨p,n,z⟩:=yh Tryz.underlying104 fi fi h;obtain⟨v0,z0,M,t0⟩:=z 0 _ rfl;obtain⟨v1,z1,J,t1⟩:=z 1 _ rfl;obtain⟨v2,z2,c2,V⟩:=z 2 _ rfl;obtain⟨x0,q,-,-⟩:=lA Tryz.underlying3 t0;obtain⟨x1,F,-⟩:=sl Tryz.underlying9 t1;obtain⟨x2,I,-,-⟩:=lA Tryz.underlying3 V;injection q with q
 injection F with F
 injection I with I
 subst q F I;refine⟨⟨x0,bl x1,x2⟩,?_,trivial⟩;have p:cs.length=3:=p
 match cs,p with
 | [a,b,c],_=>
  simp at M J c2;subst M J c2;unfold tY;rw[qh]
theorem slice_form{y:DataW H × List MemPlace}(z:Tryz.prog.underlying t=some (.slice e))(h:DataW.trod enc Tryz.prog w 0 (fun _=>true) true m t [v]=some y):∃ A n c,v=.slice A n c:=by
 rcases open_slice z h with⟨p,_⟩|⟨a,len,cap,_,_,_,_,q,_⟩
 ·injection p with p
  exact⟨none,0,0,p⟩
 ·injection q with q
  exact⟨some a,len,cap,q⟩
theorem J4{y:DataW H × List MemPlace}(h:DataW.trod enc Tryz.prog w 0 (fun _=>true) true m 22 [v]=some y):
  ∃ (A:fj) (c:Nat) (l:List ib),v=.slice A l.length c/\lD w A l/\l.length<=c:=by
 obtain⟨A,n,c,rfl⟩:=slice_form Tryz.underlying22 h;obtain⟨xs,z,F,J,q,I⟩:=Gg (P:=Tryz.prog) (t:=22) (e:=113) (A:=A) (n:=n) (c:=c) (d:=y.1) (ps:=y.2) (size:=4) eX (fun _=>True) Tryz.underlying22 fi fW OC (fun R _ u p=>by simp[eX] at p;rcases p with rfl|rfl|rfl|rfl<;>rfl) ⟨m,by simpa[Value.cells] using h⟩;subst z;exact⟨A,c,xs,rfl,F,q⟩
theorem Ba{y:DataW H × List MemPlace}(h:DataW.trod enc Tryz.prog w 0 (fun _=>true) true m 23 [v]=some y):
  ∃ (A:fj) (c:Nat) (l:List Drop),v=.slice A l.length c/\jV w A l/\l.length<=c:=by
 obtain⟨A,n,c,rfl⟩:=slice_form Tryz.underlying23 h;obtain⟨xs,z,F,J,q,I⟩:=Gg (P:=Tryz.prog) (t:=23) (e:=104) (A:=A) (n:=n) (c:=c) (d:=y.1) (ps:=y.2) (size:=3) tY (fun _=>True) Tryz.underlying23 fi fW OD (fun R _ u p=>by simp[tY] at p;rcases p with rfl|rfl|rfl<;>rfl) ⟨m,by simpa[Value.cells] using h⟩;subst z;exact⟨A,c,xs,rfl,F,q⟩
theorem Yp{cs:List Value}(h:cs.length=6):∃ a b c d e f,cs=[a,b,c,d,e,f]:=by
 match cs,h with
 | [a,b,c,d,e,f],_=>exact⟨a,b,c,d,e,f,rfl⟩
structure TZ where
 T:fy
 a:TA
def XT(w:World)(z:TZ):Prop:=BD w z.T z.a/\z.T.rs.length<=z.a.c
theorem Xf{r:Reach}{b0:Nat}{d:DataW H}{ps:List MemPlace}(am:Value.okWide Tryz.prog w r b0 25 v)(h:DataW.Trod enc Tryz.prog w 0 (fun _=>true) true 25 v d ps):∃ z:TZ,v=eu z.T z.a/\XT w z:=by
 obtain⟨cs,rfl,ap⟩:=okWide_struct Tryz.underlying25 am;obtain⟨m,hm⟩:=h;obtain⟨xs,n,_,_,hl,an,q⟩:=DataW.trod_struct Tryz.underlying25 hm;have ag:=hl.trans (by kernel_rfl:_=6);obtain⟨I,J,M,a3,F,p,ha⟩:=Yp ag;have ao:xs.length=6:=an;have ex:∀ i (hi:i<6),xs[i]?=some (xs[i]'ff):=fun i hi=>YH ff;have s3:Tryz.prog.cellsOf 3=1:=by kernel_rfl
 have al:Tryz.prog.cellsOf 22=1:=by kernel_rfl
 have ai:Tryz.prog.cellsOf 23=1:=by kernel_rfl
 have t0:=(q 0 _ rfl).trans (ex 0 ff);have t1:=(q 1 _ rfl).trans (ex 1 ff);have t2:=(q 2 _ rfl).trans (ex 2 ff);have t3:=(q 3 _ rfl).trans (ex 3 ff);have t4:=(q 4 _ rfl).trans (ex 4 ff);have t5:=(q 5 _ rfl).trans (ex 5 ff);rw[ha] at t0 t1 t2 t3 t4 t5;have ab:DataW.trod enc Tryz.prog w 0 (fun _=>true) true n 22 (([I,J,M,a3,F,p].drop 0).take (Tryz.prog.cellsOf 22))=some (xs[0]'ff):=t0;have aa:DataW.trod enc Tryz.prog w 0 (fun _=>true) true n 23 (([I,J,M,a3,F,p].drop 1).take (Tryz.prog.cellsOf 23))=some (xs[1]'ff):=t1;have V:DataW.trod enc Tryz.prog w 0 (fun _=>true) true n 23 (([I,J,M,a3,F,p].drop 2).take (Tryz.prog.cellsOf 23))=some (xs[2]'ff):=t2;have ad:DataW.trod enc Tryz.prog w 0 (fun _=>true) true n 3 (([I,J,M,a3,F,p].drop 3).take (Tryz.prog.cellsOf 3))=some (xs[3]'ff):=t3;have af:DataW.trod enc Tryz.prog w 0 (fun _=>true) true n 3 (([I,J,M,a3,F,p].drop 4).take (Tryz.prog.cellsOf 3))=some (xs[4]'ff):=t4;have ae:DataW.trod enc Tryz.prog w 0 (fun _=>true) true n 3 (([I,J,M,a3,F,p].drop 5).take (Tryz.prog.cellsOf 3))=some (xs[5]'ff):=t5;simp only[s3,al,ai,List.drop,List.take] at ab aa V ad af ae;obtain⟨A,ac,rs,f0,k0,ak⟩:=J4 ab;obtain⟨D,dc,ds,f1,k1,-⟩:=Ba aa;obtain⟨E,ec,es,f2,k2,-⟩:=Ba V;obtain⟨x3,f3,-,-⟩:=lA Tryz.underlying3 ad;obtain⟨x4,f4,-,-⟩:=lA Tryz.underlying3 af;obtain⟨x5,f5,-,-⟩:=lA Tryz.underlying3 ae;injection f3 with f3
 injection f4 with f4
 injection f5 with f5
 subst f0 f1 f2 f3 f4 f5;refine⟨⟨⟨rs,ds,es,x3,x4,x5⟩,⟨A,ac,D,dc,E,ec⟩⟩,?_,⟨k0,k1,k2⟩,ak⟩;have:cs=(fw A rs.length ac D ds.length dc E es.length ec x3 x4 x5):=by
  apply Array.toList_inj.1;simpa[Value.cells] using ha
 rw[this];rfl
instance:Inhabited (Pr × PA):=⟨(CB,⟨none,0,none,0⟩)⟩
end
variable{k k2 e:Int}{y:Bs}{p:Pr}
theorem BH{x:Bs}{e:Ending}(h:nN w T k x k2 y e w'):
  ∃ p q A ac B bc,e=.returned (.tuple #[.agg (og p A ac B bc),.int .i64 q])/\tK T k x k2 y p q/\(iD w' A p.d.L/\iD w' B p.d.M)/\Below w.heap.size w w':=by
 obtain⟨p,q,A,ac,B,bc,V,h2,F,⟨F1,F2,J,z,-,-⟩,I,-⟩:=h;exact⟨p,q,A,ac,B,bc,V,h2,⟨yX J,yX z⟩,I.below (fun _ _ h=>h)⟩
theorem SK{x:Bs}{q:Pr}{f:Int}(h:tK T k x k2 y p e)(g:tK T k x k2 y q f):p=q/\e=f:=by
 cases h with
 | arg h=>cases g with
  | arg g=>exact⟨rfl,rfl⟩
  | none g _=>rw[h] at g;cases g
  | some g _=>rw[h] at g;cases g
 | none h h2=>cases g with
  | arg g=>rw[h] at g;cases g
  | none _ _=>exact⟨rfl,rfl⟩
  | some _ g2=>rw[h2] at g2;cases g2
 | some h h2=>cases g with
  | arg g=>rw[h] at g;cases g
  | none _ g2=>rw[h2] at g2;cases g2
  | some _ g2=>rw[h2] at g2;injection g2 with g2;exact⟨g2,rfl⟩
theorem SL{x:Bs}(h:tK T k x k2 y p e):p.d.L.length<=1000000/\p.d.M.length<=1000000:=by
 cases h with
 | arg h=>exact⟨YE _,YE _⟩
 | none h h2=>exact⟨YE _,YE _⟩
 | some h h2=>
  obtain⟨w,-,d,hd,rfl⟩:=xw.1 (jF h2).1;have h:=mZ (Ar hd);dsimp only;omega
theorem BR{a:TA}(hT:BD w T a)(hz:LZ w)(k:Int)(s:Bs)(k2:Int)(y:Bs):
  Calls Tryz.prog 4 #[eu T a,.int .i64 k,.string (bs s),.int .i64 k2,.string (bs y)] w (aL w (.bool true)):=by
 have h1:=aH (aI.begin w) aO (fw a.A T.rs.length a.c a.D T.ds.length a.d a.E T.es.length a.e T.drop T.ord T.ini) 25;have a7:=au h1.bN;obtain⟨ac,ab,aa,J,V,I⟩:=bZ h1;have HC:=au (fun W (h:Below (w.alloc (.cells (fw a.A T.rs.length a.c a.D T.ds.length a.d a.E T.es.length a.e T.drop T.ord T.ini) 25)).heap.size (w.alloc (.cells (fw a.A T.rs.length a.c a.D T.ds.length a.d a.E T.es.length a.e T.drop T.ord T.ini) 25)) W)=>(show (iz W w.heap.size (.slice a.A T.rs.length a.c) (.slice a.D T.ds.length a.d) (.slice a.E T.es.length a.e) (.int .i64 T.drop) (.int .i64 T.ord) (.int .i64 T.ini)) from⟨aF ac h,aF ab h,aF aa h,aF J h,aF V h,aF I h⟩));have a0:=au hT;have HZ:=au hz;clear hT hz h1 ac ab aa J V I;have KF:=au (fun W (hb:Below w.heap.size w W) (B:fj) (c:Nat) (mz:IJ) (hl:Kk W B [mz])=>Vt (c:=c) (a0.o.below hb) hl gw);have KW:=au (fun (mz:IJ) (hf:EC T [mz]=true) W (hb:Below w.heap.size w W) (hx:s.length<=1000000) (hy:y.length<=1000000)=>(BA ((Kl hf).1 (a0.o.below hb)) (HZ.o.below hb) k s k2 y hx hy).mono fun e w' h=>BH h);have KR:=au (fun (mz:IJ) (hf:EC T [mz]=true) W (hb:Below w.heap.size w W) (hx:s.length<=1000000) (hy:y.length<=1000000)=>(Oa ((Kl hf).1 (a0.o.below hb)) k s k2 y hx hy).mono fun e w' h=>BH h);have KH:=au (fun W (hb:Below w.heap.size w W)=>SX W (HZ.o.below hb));unfold eu at *
 unfold dh at *
 generalize T.rs.length=n1 at *
 generalize T.ds.length=n2 at *
 generalize T.es.length=n3 at *
 go_enter Tryz.func4,Tryz.ntmps4
 go_upto_region 1 with (fail);generalize w.alloc (.cells (fw a.A n1 a.c a.D n2 a.d a.E n3 a.e T.drop T.ord T.ini) 25)=w0 at *
 generalize i7:w.heap.size=gt at HC ⊢;clear i7;have ai:=au (fun W (h:Below w0.heap.size w0 W)=>a7.o.trans (h.mono a7.o.size));have ax:=au (YC w0.heap.size w0);have K:=au (KH.o w0 (ai.o _ ax.o));go_wp2_with fail;refine K.o.mono ?_;rintro e9 w1 ⟨rfl,hb⟩;have aE:=au (aG ax.o hb);clear K ax hb
 try dsimp only
 go_upto_region 2 with (fail);obtain⟨ac,ab,aa,J,V,I⟩:=HC.o w1 aE.o
 have hv:=MW (W:=w1) (cs:=#[.string (bs s),.string (bs y)]) (t:=9) 2 1 [.string (bs s),.string (bs y)] rfl rfl (fun u hu=>by
  simp only[YV,YT,or_false] at hu
  rcases hu with rfl|rfl<;>rfl)
 obtain⟨mz,aq,az,a2⟩:∃ mz:IJ,mz.n=⟨0,[s,y]⟩/\mz.A=some ⟨w1.heap.size,0,none⟩/\mz.c=2:=⟨⟨⟨0,[s,y]⟩,some ⟨w1.heap.size,0,none⟩,2⟩,rfl,rfl,rfl⟩
 have hl:=OT (W:=w1.alloc (.cells #[.string (bs s),.string (bs y)] 9)) (cs:=(gj 0 (some ⟨w1.heap.size,0,none⟩) 2 2)) [mz] (by
  show([Value.int .i64 mz.n.k,.slice mz.A mz.n.ws.length mz.c]:List Value).toArray=_
  rw[aq,az,a2];rfl) (fun z hz=>by
  simp only[YV,YT,or_false] at hz;rcases hz with rfl;rw[az,aq]
  exact hv)
 have a5:=aG aE.o (bT w1 (.cells #[.string (bs s),.string (bs y)] 9));have aA:=aG a5 (bT (w1.alloc (.cells #[.string (bs s),.string (bs y)] 9)) (.cells (gj 0 (some ⟨w1.heap.size,0,none⟩) 2 2) 28));have K0:=KF.o _ (ai.o _ aA) _ 1 mz hl;rw[YN] at K0;have K:=au K0;clear K0;have ao:=au aA;have a9:=au aq;clear hl hv a5 aA aE aq az a2;cases hf:EC T [mz] with
 | false=>
  rw[hf] at K;have HF:=au hf;clear hf;go_wp2_with fail;refine K.o.mono ?_;rintro e9 w4 ⟨rfl,hb⟩;have ae:=au (aG ao.o hb);clear K hb ao;clear ac ab aa J V I
  try dsimp only
  obtain⟨ac,ab,aa,J,V,I⟩:=HC.o w4 ae.o;have HE:=au (ai.o _ ae.o);go_wp2;go_ret;exact aN rfl HE.o
 | true=>
  rw[hf] at K;have HF:=au hf;clear hf;go_wp2_with fail;refine K.o.mono ?_;rintro e9 w4 ⟨rfl,hb⟩;have ae:=au (aG ao.o hb);clear K hb ao;clear ac ab aa J V I
  try dsimp only
  have ap:=au (show s.length<=1000000/\y.length<=1000000 from by
   have h:=((Kl HF.o).2 mz gw).2;rw[a9.o] at h;have h1:=h s gw;have h2:=h y gw
   omega)
  clear KF;have K:=au (KW.o mz HF.o w4 (ai.o _ ae.o) ap.o.1 ap.o.2);obtain⟨ac,ab,aa,J,V,I⟩:=HC.o w4 ae.o;go_wp2_with fail;refine K.o.mono ?_;rintro e9 w5 ⟨p,pe,pA,pac,pB,pbc,rfl,hwp,hli,hb⟩;have a1:=au (aG ae.o hb);have a8:=au hwp;have aD:=au hli;clear hwp hli;unfold og;clear K ae hb;clear ac ab aa J V I
  try dsimp only
  have am:=au (aG a1.o (bT w5 (.cells (gx p pA pac pB pbc) 44)));have h4:=aH (aI.begin w5) aO (gx p pA pac pB pbc) 44;obtain⟨⟨c0,c1,c2,c3,c4⟩,⟨c5,c6,c7,c8,c9⟩,-⟩:=bE h4;have Pp:=au (fun W (h:Below (w5.alloc (.cells (gx p pA pac pB pbc) 44)).heap.size (w5.alloc (.cells (gx p pA pac pB pbc) 44)) W)=>(show (t7 W w5.heap.size (.int .i64 p.i) (.int .i64 p.j) (.int .i64 p.kd) (.int .i64 p.l) (.int .i64 p.r) (.int .i64 p.c) (.int .i64 p.d.c) (.slice pA p.d.L.length pac) (.slice pB p.d.M.length pbc) (.string (bs p.d.F))) from⟨aF c0 h,aF c1 h,aF c2 h,aF c3 h,aF c4 h,aF c5 h,aF c6 h,aF c7 h,aF c8 h,aF c9 h⟩));clear h4 c0 c1 c2 c3 c4 c5 c6 c7 c8 c9 a1;have ad:=au ((⟨aT aD.o.1 (bT w5 (.cells (gx p pA pac pB pbc) 44)),aT aD.o.2 (bT w5 (.cells (gx p pA pac pB pbc) 44))⟩:_/\_));clear aD;go_upto_region 5 with (fail);generalize w5.alloc (.cells (gx p pA pac pB pbc) 44)=w6 at *
  generalize w5.heap.size=be at *
  have ar:=au (YC w6.heap.size w6);have K:=au (KR.o mz HF.o w6 (ai.o _ am.o) ap.o.1 ap.o.2);obtain⟨ac,ab,aa,J,V,I⟩:=HC.o w6 am.o;go_wp2_with fail;refine K.o.mono ?_;rintro e9 w7 ⟨q,qe,qA,qac,qB,qbc,rfl,hwp,hli,hb⟩;have a3:=au (aG am.o hb);have bb:=au hwp;have aw:=au hli;clear hwp hli;unfold og;have af:=au ((⟨aT ad.o.1 hb,aT ad.o.2 hb⟩:_/\_));clear ad;have ag:=au (aG ar.o hb);clear ar;clear K am hb;clear ac ab aa J V I
  try dsimp only
  have ba:=au (aG a3.o (bT w7 (.cells (gx q qA qac qB qbc) 44)));have h4:=aH (aI.begin w7) aO (gx q qA qac qB qbc) 44;obtain⟨⟨c0,c1,c2,c3,c4⟩,⟨c5,c6,c7,c8,c9⟩,-⟩:=bE h4;have Pq:=au (fun W (h:Below (w7.alloc (.cells (gx q qA qac qB qbc) 44)).heap.size (w7.alloc (.cells (gx q qA qac qB qbc) 44)) W)=>(show (t7 W w7.heap.size (.int .i64 q.i) (.int .i64 q.j) (.int .i64 q.kd) (.int .i64 q.l) (.int .i64 q.r) (.int .i64 q.c) (.int .i64 q.d.c) (.slice qA q.d.L.length qac) (.slice qB q.d.M.length qbc) (.string (bs q.d.F))) from⟨aF c0 h,aF c1 h,aF c2 h,aF c3 h,aF c4 h,aF c5 h,aF c6 h,aF c7 h,aF c8 h,aF c9 h⟩));clear h4 c0 c1 c2 c3 c4 c5 c6 c7 c8 c9 a3;have al:=au ((⟨aT af.o.1 (bT w7 (.cells (gx q qA qac qB qbc) 44)),aT af.o.2 (bT w7 (.cells (gx q qA qac qB qbc) 44))⟩:_/\_));clear af;have an:=au (aG ag.o (bT w7 (.cells (gx q qA qac qB qbc) 44)));clear ag;have ak:=au ((⟨aT aw.o.1 (bT w7 (.cells (gx q qA qac qB qbc) 44)),aT aw.o.2 (bT w7 (.cells (gx q qA qac qB qbc) 44))⟩:_/\_));clear aw;go_upto_region 6 with (fail);generalize w7.alloc (.cells (gx q qA qac qB qbc) 44)=w8 at *
  generalize w7.heap.size=bd at *
  have a4:=au (YC w8.heap.size w8);obtain⟨rfl,rfl⟩:=SK a8.o bb.o;have a6:=au (SL a8.o);obtain⟨p0,p1,p2,p3,p4,p5,p6,p7,p8,p9⟩:=Pp.o w8 an.o;obtain⟨q0,q1,q2,q3,q4,q5,q6,q7,q8,q9⟩:=Pq.o w8 a4.o;have K:=au (Ee (c:=pac) (c2:=qac) (e:=pbc) (e2:=qbc) al.o.1 ak.o.1 al.o.2 ak.o.2 a6.o.1 a6.o.2);unfold og at K;have tE:(pe==pe)=true:=by simp
  go_wp2_with fail;refine K.o.mono ?_;rintro e9 bc ⟨rfl,hb⟩;have HE:=au (ai.o _ (aG ba.o hb));clear hb K tE
  try dsimp only
  go_wp2;go_ret;exact aN rfl HE.o
end Go.Proofs.YtbnnlpjpnihheaaGreatDoor
