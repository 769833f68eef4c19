/- A part of the proof: lemmas. -/
import Derived.Test.YtbioiclabmbedaaGreatDoorSI10
set_option maxHeartbeats 16000000
set_option maxRecDepth 100000
set_option linter.all false
namespace Go.CH.dh
open Go.CH.Scr
variable {W:Wd} {s s' t:St} {R:ik} {c d:Int} {n:Nat}
theorem E9 (hs:W.ok s) (h:Pa W s c t) (ht:t=W.fin) (hg:W.good):W.fi s<=c:=by
 induction h with
 | nil s=>rw[ht,xu hg];exact ly _
 | cons hm _ ih=>
  have h1:=zw hs hm;have h2:=ih (fI hs hm).1 ht;omega
section
variable {W:Wd} {s s':St} {c d:Int}
theorem Us:Y3 W gC c↔Y3 W.swap gC c:=by
 constructor
 ·rintro⟨L,M,F,G,c1,c2,h1,h2,rfl,h3⟩;exact⟨M,L,G,F,c2,c1,h2,h1,by omega,h3.symm⟩
 ·rintro⟨L,M,F,G,c1,c2,h1,h2,rfl,h3⟩;exact⟨M,L,G,F,c2,c1,h2,h1,by omega,h3.symm⟩
theorem Y4 {W':Wd} {s':St} (hg:W.good) (J:W'.good) (hl:W.l.length+W.m.length<=1000) (aa:W'.l.length+W'.m.length<=1000) (hs:W.ok s) (I:W'.ok s') (h:∀ c,Y3 W s c↔Y3 W' s' c):W.fi s=W'.fi s':=by
 rcases qF hg hl _ s hs (fy _) with⟨h1,_⟩|⟨h1,h2⟩
 ·have h3:=(oH I).2 ((h _).1 ((oH hs).1 h1));have h4:=E9 I h3 rfl J;rcases qF J aa _ s' I (fy _) with⟨M,_⟩|⟨_,h6⟩
  ·have h6:=(oH hs).2 ((h _).2 ((oH I).1 M));have h7:=E9 hs h6 rfl hg;omega
  ·exact absurd h3 (h6 _)
 ·rcases qF J aa _ s' I (fy _) with⟨M,_⟩|⟨M,_⟩
  ·exact absurd ((oH hs).2 ((h _).2 ((oH I).1 M))) (h2 _)
  ·rw[h1,M]
theorem Rs (hg:W.good) (hl:W.l.length+W.m.length<=1000):W.fi gC=W.swap.fi gC:=
 Y4 hg hg hl (by show W.m.length+W.l.length<=1000;omega) oA oA (fun _=>Us)
end
end Go.CH.dh
namespace Go.CH.bA
section
variable {c:Nat→Nat→Int} {d e:Nat→Int} {n m:Nat}
end
section
variable {c c':Nat→Nat→Int} {d e d' e':Nat→Int} {n m n' m':Nat} {B:Int}
variable {v v':Int}{P:Nat->Nat}{j i:Nat}
theorem OV  (h:Cj c d e n m v) (h':Cj c' d' e' n' m' v') (f:∀ P,bA n m P->sP n m P->∃ P',bA n' m' P'/\sP n' m' P'/\cost c' d' e' n' m' P'<=cost c d e n m P+B):v'<=v+B:=by
 obtain⟨P,h1,h1',h2⟩:=h.has;obtain⟨P',h3,h3',h4⟩:=f P h1 h1';have:=h'.low P' h3 h3';omega
def ET (n:Nat) (P:Nat->Nat):Nat->Nat:=fun j=>((List.range n).find? (fun i=>P i==j)).getD n
theorem pI   (h:ET n P j<n):P (ET n P j)=j:=by
 unfold ET at *
 cases e:(List.range n).find? (fun i=>P i==j) with
 | none=>rw[e] at h;simp at h
 | some i=>have:=(eG e).2.1;simpa using this
theorem T8  :ET n P j<=n:=by
 unfold ET;cases e:(List.range n).find? (fun i=>P i==j) with
 | none=>simp
 | some i=>have:=(eG e).1;simp;omega
theorem OW   (h:¬ ET n P j<n):used P n j=false:=by
 unfold ET at h;cases e:(List.range n).find? (fun i=>P i==j) with
 | none=>
  have:=lT e;exact mV.2 fun i hi he=>by have:=this i hi;simp at this;exact this he
 | some i=>rw[e] at h;have:=(eG e).1;simp at h;omega
theorem Mu  (hP:bA n m P)  (hi:i<n) (hm:P i<m):ET n P (P i)=i:=by
 have h1:ET n P (P i)<n:=by
  refine Nat.lt_of_not_le fun h=>?_;have:=OW (n:=n) (P:=P) (j:=P i) eL;exact mV.1 this i hi rfl
 exact hP.inj _ _ h1 hi (pI h1) (by rw[pI h1];exact hm)
theorem G9  (hP:bA n m P):bA m n (ET n P):=
 ⟨fun j _=>T8,fun i j hi hj he hm=>by have h1:=pI (n:=n) (P:=P) (j:=i) hm;have h2:=pI (n:=n) (P:=P) (j:=j) eL;rw[he] at h1;exact h1.symm.trans h2⟩
theorem YG  (hP:bA n m P)  (hi:i<n):used (ET n P) m i=decide (P i<m):=by
 rw[tg,mU,decide_eq_true_eq];constructor
 ·rintro⟨j,hj,he⟩;have:=pI (n:=n) (P:=P) (j:=j) eL;rw[he] at this;omega
 ·intro h;exact⟨P i,h,Mu hP hi h⟩
theorem Bw  (I:bA n m P):cost (fun j i=>c i j) e d m n (ET n P)=cost c d e n m P:=by
 unfold cost;have M:=BB I (fun j=>c (ET n P j) j);have J:sg n (fun i=>if P i<m then c i (P i) else d i)=sg n (fun i=>if P i<m then c (ET n P (P i)) (P i) else 0)+sg n (fun i=>if used (ET n P) m i then 0 else d i):=by
  rw[<-rz];refine bJ fun i hi=>?_;rw[YG I hi];by_cases h:P i<m
  ·simp[h,Mu I hi h]
  ·simp[h]
 have h3:sg m (fun j=>if ET n P j<n then c (ET n P j) j else e j)=sg m (fun j=>if used P n j then c (ET n P j) j else 0)+sg m (fun j=>if used P n j then 0 else e j):=by
  rw[<-rz];refine bJ fun j hj=>?_;by_cases h:ET n P j<n
  ·rw[mU.2 ⟨_,h,pI h⟩];simp[h]
  ·rw[OW h];simp[h]
 rw[J,h3,M];omega
theorem OX  (hP:bA n m P) (h:sP n m P):sP m n (ET n P):=by
 intro i j hij hj hi' hj';have h1:=pI hi';have h2:=pI hj';refine Nat.lt_of_not_le fun hle=>?_;rcases Nat.lt_or_eq_of_le hle with hlt|he
 ·have:=h _ _ hlt hi' eL eL;omega
 ·rw[he] at h2;omega
theorem GU.tr  (h:GU c d e n m v) (h':GU (fun j i=>c i j) e d m n v'):v'=v:=by
 have h1:=G8 (B:=0) h h' fun P hP=>⟨_,G9 hP,by rw[Bw hP];omega⟩;have h2:=G8 (B:=0) h' h fun P hP=>⟨_,G9 hP,by rw[<-Bw hP];exact Kx (AF _).symm⟩;omega
theorem Cj.tr  (h:Cj c d e n m v) (h':Cj (fun j i=>c i j) e d m n v'):v'=v:=by
 have h1:=OV (B:=0) h h' fun P hP hM=>⟨_,G9 hP,OX hP hM,by rw[Bw hP];omega⟩;have h2:=OV (B:=0) h' h fun P hP hM=>⟨_,G9 hP,OX hP hM,by rw[<-Bw hP];exact Kx (AF _).symm⟩;omega
end
end Go.CH.bA
namespace Go.CH.Mtc
open Go.CH.Scr Go.CH.dh
section
variable {T:eW} {k k2:Int} {x y:Bs} {a b:aQ}
theorem VQ:okW T k x k2 y=okW T k2 y k x:=by
 unfold okW;cases word k x<;>cases word k2 y<;>rfl
theorem NN {d:Dv} (h:eZ T k x k2 y=some d):∃ d',eZ T k2 y k x=some d'/\d'.c=d.c:=by
 unfold eZ at h;split at h
 ·rename_i I;injection h with h
  have e:(bO T k x k2 y).fi gC=(bO T k2 y k x).fi gC:=Rs (xE I.1) (xD I.1);refine⟨(bO T k2 y k x).Dd,?_,?_⟩
  ·unfold eZ;rw[if_pos ⟨by rw[<-VQ];exact I.1,by rw[<-e];exact I.2⟩]
  ·rw[<-h];exact e.symm
 ·cases h
theorem Sv {w:Wy} (h:w ∈ lu T k x k2 y):∃ w' ∈ lu T k2 y k x,w'.c=w.c/\w'.x=w.y/\w'.y=w.x:=by
 rcases gD.1 h with⟨u,M,v,J,rfl⟩|⟨I,rfl⟩|⟨I,rfl⟩
 ·exact⟨vK v u,gD.2 (.inl ⟨v,J,u,M,rfl⟩),Int.add_comm _ _,rfl,rfl⟩
 ·exact⟨jF 3 T.ini (bP k2 y) (bP k x),gD.2 (.inr (.inr ⟨I,rfl⟩)),rfl,rfl,rfl⟩
 ·exact⟨jF 2 T.ini (bP k2 y) (bP k x),gD.2 (.inr (.inl ⟨I,rfl⟩)),rfl,rfl,rfl⟩
theorem wI {p:Pr} (h:p ∈ nN T k x k2 y):∃ q ∈ nN T k2 y k x,q.c=p.c:=by
 obtain⟨w,hw,d,hd,rfl⟩:=mD.1 h;obtain⟨w',hw',e1,e2,e3⟩:=Sv hw;obtain⟨d',hd',e4⟩:=NN hd;exact⟨_,mD.2 ⟨w',hw',d',by rw[e2,e3];exact hd',rfl⟩,by show w'.c+d'.c=w.c+d.c;rw[e1,e4]⟩
theorem NP:(iL T k x k2 y).map (·.c)=(iL T k2 y k x).map (·.c):=by
 unfold iL;cases J:first (nN T k x k2 y) with
 | none=>
  cases I:first (nN T k2 y k x) with
  | none=>rfl
  | some q=>
   obtain⟨p,M,-⟩:=wI (eG I).1;rw[lT.1 J] at M;cases M
 | some p=>
  obtain⟨q,hq,e⟩:=wI (eG J).1;obtain⟨q',I,h3,h4⟩:=La hq;obtain⟨p',h,e'⟩:=wI h3;have h5:=(eG J).2 p' h;rw[I]
  show some p.c=some q'.c
  rw[show p.c=q'.c by omega]
variable {i j:Nat}
theorem P9 :cM T a b i j=cM T b a j i:=by rw[Gd,Gd,NP]
theorem EH {m m':Mt} {e e':Int} (h:Bq T a b m e) (I:Bq T b a m' e'):e=e'/\m.c=m'.c:=by
 have J:nK T a b=nK T b a:=by unfold nK;cases eT a<;>cases eT b<;>rfl
 cases h with
 | arg h1=>
  cases I with
  | arg=>exact⟨rfl,rfl⟩
  | some h2=>rw[J,h2] at h1;cases h1
 | some h1=>
  cases I with
  | arg h2=>rw[J,h2] at h1;cases h1
  | some _=>
   refine⟨rfl,?_⟩;rw[wH,wH];have M:nD T b a=nD T a b:=pV.tr (pV.congr (fun i _ j _=>P9) (fun _ _=>rfl) (fun _ _=>rfl));have e2:jP T b a=jP T a b:=nX.tr (nX.congr (fun i _ j _=>P9) (fun _ _=>rfl) (fun _ _=>rfl));rw[M,e2]
end
end Go.CH.Mtc
namespace Go.CH.bA
section
variable {c c':Nat→Nat→Int} {d e:Nat→Int} {n m:Nat} {bd:Int}
end
end Go.CH.bA
namespace Go.CH.Sil
open Go.CH.Scr Go.CH.dh Go.CH.Mtc
section
variable {T:eW} {k k2:Int} {x y:Bs} {a b:aQ} {bd:Int}
end
end Go.CH.Sil
namespace Go.Proofs.YtbioiclabmbedaaGreatDoor
open Go.CH Go.CH.Scr Go.CH.dh Go.CH.Mtc Go.CH.Sil
open Asn (kB nZ oV mR cF lF wi pX lS qx oW bU bV bK nR)
section
variable {T:eW} {a b:aQ} {bd:Int} {s:Sl}
theorem NK {s':Sl} {e e':Int} (h:iJ T a b bd s e) (J:iJ T b a bd s' e'):e=e':=by
 have I:nK T b a=nK T a b:=by unfold nK;cases eT a<;>cases eT b<;>rfl
 have M:nK T a b=true->(fJ T a b).c=(fJ T b a).c:=fun g=>(EH (Bq.some g) (Bq.some (by rw[I];exact g))).2;cases h with
 | arg g=>cases J with
  | arg=>rfl
  | none g1=>rw[I] at g1;rw[g1] at g;rcases g with g|g|g;cases g;all_goals omega
  | some g1=>rw[I] at g1;rw[g1] at g;rcases g with g|g|g;cases g;all_goals omega
 | none g0=>cases J with
  | arg g=>rw[I,g0] at g;rcases g with g|g|g;cases g;all_goals omega
  | none=>rfl
  | some=>have:=M g0;omega
 | some g0=>cases J with
  | arg g=>rw[I,g0] at g;rcases g with g|g|g;cases g;all_goals omega
  | none=>have:=M g0;omega
  | some=>rfl
end
open Go.RowKit
open Go.ChangeMaps (setBlock)
variable {w:World}{T:eW}
theorem Es   {a:TA} (hT:wC w T a) (hz:LZ w) {x:Ev} (hx:fB w x.A x.n.ws) {y:Ev} (hy:fB w y.A y.n.ws) (bd:Int) :
  Calls Tryz.prog 6 #[dV T a,Bg x,Bg y,.int .i64 bd] w (aS w (.bool true)):=by
 have h1:=aH (aI.begin w) aO (fN a.A T.rs.length a.c a.D T.ds.length a.d a.E T.es.length a.e T.drop T.ord T.ini) 25;have h2:=aH h1 aO (fh x.n.k x.A x.n.ws.length x.c) 28;have h3:=aH h2 aO (fh y.n.k y.A y.n.ws.length y.c) 28;simp only[im] at h3;have a4:=au h3.cZ;obtain⟨aa,ae,M,ag,af,J⟩:=fu h3.drop.drop;obtain⟨ac,ad,-⟩:=bY h3.drop;obtain⟨ab,I,-⟩:=bY h3;have HC:=au (fun W (h:Below (((w.alloc (.cells (fN a.A T.rs.length a.c a.D T.ds.length a.d a.E T.es.length a.e T.drop T.ord T.ini) 25)).alloc (.cells (fh x.n.k x.A x.n.ws.length x.c) 28)).alloc (.cells (fh y.n.k y.A y.n.ws.length y.c) 28)).heap.size (((w.alloc (.cells (fN a.A T.rs.length a.c a.D T.ds.length a.d a.E T.es.length a.e T.drop T.ord T.ini) 25)).alloc (.cells (fh x.n.k x.A x.n.ws.length x.c) 28)).alloc (.cells (fh y.n.k y.A y.n.ws.length y.c) 28)) W)=>(show W.cell? ⟨w.heap.size,0,none⟩=some (.slice a.A T.rs.length a.c)/\W.cell? ⟨w.heap.size,1,none⟩=some (.slice a.D T.ds.length a.d)/\W.cell? ⟨w.heap.size,2,none⟩=some (.slice a.E T.es.length a.e)/\W.cell? ⟨w.heap.size,3,none⟩=some (.int .i64 T.drop)/\W.cell? ⟨w.heap.size,4,none⟩=some (.int .i64 T.ord)/\W.cell? ⟨w.heap.size,5,none⟩=some (.int .i64 T.ini)/\W.cell? ⟨w.heap.size+1,0,none⟩=some (.int .i64 x.n.k)/\W.cell? ⟨w.heap.size+1,1,none⟩=some (.slice x.A x.n.ws.length x.c)/\(my W (w.heap.size+1+1) (.int .i64 y.n.k) (.slice y.A y.n.ws.length y.c)) from⟨aG aa h,aG ae h,aG M h,aG ag h,aG af h,aG J h,aG ac h,aG ad h,aG ab h,aG I h⟩));have az:=au hT;have HZ:=au hz;have ar:=au hx;have aw:=au hy;clear hT hz hx hy  h1 h2 h3 aa ae M ag af J ac ad ab I;have KF:=au (fun W (hb:Below w.heap.size w W)=>ru (ca:=x.c) (cb:=y.c) (az.o.below hb) (fB.below ar.o hb) (fB.below aw.o hb));have KM:=au (fun (hf:rU T x.n y.n=true) W (hb:Below w.heap.size w W) (bd:Int)=>pq (ca:=x.c) (cb:=y.c) ((aU hf).1 (az.o.below hb)) (HZ.o.below hb) (fB.below ar.o hb) (fB.below aw.o hb) (by have:=(aU hf).2.2.1.1;omega) (by have:=(aU hf).2.2.1.2;omega) (aU hf).2.2.2.1 (aU hf).2.2.2.2 bd);have KN:=au (fun (hf:rU T x.n y.n=true) W (hb:Below w.heap.size w W) (bd:Int)=>pq (ca:=y.c) (cb:=x.c) ((aU hf).1 (az.o.below hb)) (HZ.o.below hb) (fB.below aw.o hb) (fB.below ar.o hb) (by have:=(aU hf).2.2.1.2;omega) (by have:=(aU hf).2.2.1.1;omega) (aU hf).2.2.2.2 (aU hf).2.2.2.1 bd);have KH:=au (fun W (hb:Below w.heap.size w W)=>uN W (HZ.o.below hb));unfold dV Bg at *
 try unfold vI at *
 try unfold jh at *
 unfold dR at *
 generalize aA:T.rs.length=n1 at *
 generalize T.ds.length=n2 at *
 generalize T.es.length=n3 at *
 have be:=au aA;clear aA;generalize aD:x.n.ws.length=nx at *
 have bk:=au aD;clear aD;generalize aE:y.n.ws.length=ny at *
 have bc:=au aE;clear aE
 go_enter Tryz.func6,Tryz.ntmps6
 go_upto_region 1 with (fail);generalize ((w.alloc (.cells (fN a.A n1 a.c a.D n2 a.d a.E n3 a.e T.drop T.ord T.ini) 25)).alloc (.cells (fh x.n.k x.A nx x.c) 28)).alloc (.cells (fh y.n.k y.A ny y.c) 28)=w0 at *
 generalize ju:w.heap.size=gt at HC ⊢;clear ju;have am:=au (fun W (h:Below w0.heap.size w0 W)=>a4.o.trans (h.mono a4.o.size));have ax:=au (fe w0.heap.size w0);have K:=au (KH.o w0 (am.o _ ax.o));go_wp2_with fail;refine K.o.mono ?_;rintro e9 w1 ⟨rfl,hb⟩;have ai:=au (aF ax.o hb);clear K ax hb
 try dsimp only
 have K:=au (KF.o w1 (am.o _ ai.o));cases hf:rU T x.n y.n with
 | false=>
  rw[hf] at K;have HF:=au hf;clear hf;obtain⟨aa,ae,M,ag,af,J,ac,ad,ab,I⟩:=HC.o w1 ai.o;go_wp2_with fail;refine K.o.mono ?_;rintro e9 w2 ⟨rfl,hb⟩;have ak:=au (aF ai.o hb);clear K hb ai;clear aa ae M ag af J ac ad ab I
  try dsimp only
  obtain⟨aa,ae,M,ag,af,J,ac,ad,ab,I⟩:=HC.o w2 ak.o;have HE:=au (am.o _ ak.o);go_wp2;go_ret;exact aK rfl HE.o
 | true=>
  rw[hf] at K;have HF:=au hf;clear hf;obtain⟨aa,ae,M,ag,af,J,ac,ad,ab,I⟩:=HC.o w1 ai.o;go_wp2_with fail;refine K.o.mono ?_;rintro e9 w2 ⟨rfl,hb⟩;have ak:=au (aF ai.o hb);clear K hb ai;clear aa ae M ag af J ac ad ab I
  try dsimp only
  have K:=au (KM.o HF.o w2 (am.o _ ak.o) bd);obtain⟨aa,ae,M,ag,af,J,ac,ad,ab,I⟩:=HC.o w2 ak.o;go_wp2_with fail;refine K.o.mono ?_;rintro e9 w3 ⟨p,erp,rfl,hm,hp⟩;have a2:=au (aF ak.o (dG hp));have a7:=au hm;have a1:=au (vF hp);have bj:=au (vG hp hm (aU HF.o).2.1);unfold jh;clear K ak hm hp;clear aa ae M ag af J ac ad ab I
  try dsimp only
  have ap:=au (aF a2.o (bF w3 (.cells (ie p.b p.A p.ws.length p.c p.u.A p.U.length p.u.c p.v.A p.V.length p.v.c p.g.A p.G.length p.g.c) 41)));have h4:=aH (aI.begin w3) aN (ie p.b p.A p.ws.length p.c p.u.A p.U.length p.u.c p.v.A p.V.length p.v.c p.g.A p.G.length p.g.c) 41;obtain⟨c0,c1,c2,c3,c4,-⟩:=gu h4;have Pp:=au (fun W (h:Below (w3.alloc (.cells (ie p.b p.A p.ws.length p.c p.u.A p.U.length p.u.c p.v.A p.V.length p.v.c p.g.A p.G.length p.g.c) 41)).heap.size (w3.alloc (.cells (ie p.b p.A p.ws.length p.c p.u.A p.U.length p.u.c p.v.A p.V.length p.v.c p.g.A p.G.length p.g.c) 41)) W)=>(show (o6 W w3.heap.size (.int .i64 p.b) (.slice p.A p.ws.length p.c) (.slice p.u.A p.U.length p.u.c) (.slice p.v.A p.V.length p.v.c) (.slice p.g.A p.G.length p.g.c)) from⟨aG c0 h,aG c1 h,aG c2 h,aG c3 h,aG c4 h⟩));clear h4 c0 c1 c2 c3 c4 a2;have an:=au (a1.o.below (bF w3 (.cells (ie p.b p.A p.ws.length p.c p.u.A p.U.length p.u.c p.v.A p.V.length p.v.c p.g.A p.G.length p.g.c) 41)));clear a1;go_upto_region 5 with (fail);generalize w3.alloc (.cells (ie p.b p.A p.ws.length p.c p.u.A p.U.length p.u.c p.v.A p.V.length p.v.c p.g.A p.G.length p.g.c) 41)=w4 at *
  generalize w3.heap.size=bh at *
  have aq:=au (fe w4.heap.size w4);have K:=au (KN.o HF.o w4 (am.o _ ap.o) bd);obtain⟨aa,ae,M,ag,af,J,ac,ad,ab,I⟩:=HC.o w4 ap.o;go_wp2_with fail;refine K.o.mono ?_;rintro e9 w5 ⟨q,erq,rfl,hm,hp⟩;have a0:=au (aF ap.o (dG hp));have ba:=au hm;have a3:=au (vF hp);have bf:=au (vG hp hm (aU HF.o).2.1);unfold jh;have ao:=au (an.o.below (dG hp));clear an;have al:=au (aF aq.o (dG hp));clear aq;clear K ap hm hp;clear aa ae M ag af J ac ad ab I
  try dsimp only
  have a5:=au (aF a0.o (bF w5 (.cells (ie q.b q.A q.ws.length q.c q.u.A q.U.length q.u.c q.v.A q.V.length q.v.c q.g.A q.G.length q.g.c) 41)));have h4:=aH (aI.begin w5) aN (ie q.b q.A q.ws.length q.c q.u.A q.U.length q.u.c q.v.A q.V.length q.v.c q.g.A q.G.length q.g.c) 41;obtain⟨c0,c1,c2,c3,c4,-⟩:=gu h4;have Pq:=au (fun W (h:Below (w5.alloc (.cells (ie q.b q.A q.ws.length q.c q.u.A q.U.length q.u.c q.v.A q.V.length q.v.c q.g.A q.G.length q.g.c) 41)).heap.size (w5.alloc (.cells (ie q.b q.A q.ws.length q.c q.u.A q.U.length q.u.c q.v.A q.V.length q.v.c q.g.A q.G.length q.g.c) 41)) W)=>(show (o6 W w5.heap.size (.int .i64 q.b) (.slice q.A q.ws.length q.c) (.slice q.u.A q.U.length q.u.c) (.slice q.v.A q.V.length q.v.c) (.slice q.g.A q.G.length q.g.c)) from⟨aG c0 h,aG c1 h,aG c2 h,aG c3 h,aG c4 h⟩));clear h4 c0 c1 c2 c3 c4 a0;have a8:=au (ao.o.below (bF w5 (.cells (ie q.b q.A q.ws.length q.c q.u.A q.U.length q.u.c q.v.A q.V.length q.v.c q.g.A q.G.length q.g.c) 41)));clear ao;have a6:=au (aF al.o (bF w5 (.cells (ie q.b q.A q.ws.length q.c q.u.A q.U.length q.u.c q.v.A q.V.length q.v.c q.g.A q.G.length q.g.c) 41)));clear al;have a9:=au (a3.o.below (bF w5 (.cells (ie q.b q.A q.ws.length q.c q.u.A q.U.length q.u.c q.v.A q.V.length q.v.c q.g.A q.G.length q.g.c) 41)));clear a3;go_upto_region 6 with (fail);generalize w5.alloc (.cells (ie q.b q.A q.ws.length q.c q.u.A q.U.length q.u.c q.v.A q.V.length q.v.c q.g.A q.G.length q.g.c) 41)=w6 at *
  generalize w5.heap.size=bi at *
  have bb:=au (fe w6.heap.size w6);obtain rfl:erp=erq:=NK a7.o ba.o;have te:(erp==erp)=true:=by simp
  obtain⟨aa,ae,M,ag,af,J,ac,ad,ab,I⟩:=HC.o w6 a5.o;have HE:=au (am.o _ a5.o);go_wp2;go_ret;exact aK rfl HE.o
end Go.Proofs.YtbioiclabmbedaaGreatDoor
