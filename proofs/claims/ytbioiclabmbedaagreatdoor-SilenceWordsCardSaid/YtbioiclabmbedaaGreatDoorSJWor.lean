/- A part of the proof: lemmas. -/
import Derived.Test.YtbioiclabmbedaaGreatDoorSJZFDW
set_option maxHeartbeats 16000000
set_option maxRecDepth 100000
set_option linter.all false
namespace Go.CH.Mtc
open Go.CH.Scr Go.CH.dh
inductive uH(T:eW)(k:Int)(x:Bs)(k2:Int)(y:Bs):Pr->Int->Prop
 | arg (h:okW T k x k2 y=false):uH T k x k2 y Lp 1
 | none (h:okW T k x k2 y=true) (h2:gK T k x k2 y=none):uH T k x k2 y Lp 11
 | some {p:Pr} (h:okW T k x k2 y=true) (h2:gK T k x k2 y=some p):uH T k x k2 y p 0
end Go.CH.Mtc
namespace Go.CH.bA
section
variable{c c':Nat→Nat→Int}{d e:Nat→Int}{n m:Nat}{bd:Int}
end
end Go.CH.bA
namespace Go.CH.Sil
open Go.CH.Scr Go.CH.dh Go.CH.Mtc
section
variable{T:eW}{k k2:Int}{x y:Bs}{a b:aR}{bd:Int}
end
end Go.CH.Sil
namespace Go.Proofs.YtbioiclabmbedaaGreatDoor
open Go.CH Go.CH.Scr Go.CH.dh Go.CH.Mtc Go.CH.Sil
open Asn (kx nT oC mJ cF lF wi pG lI pF nU bU bV bK nJ)
section
variable{T:eW}{a b:aR}{bd:Int}{s:Sl}
theorem SX(h:fD T a b s){k:Nat}(I:k<s.ws.length){p:Pr}{e:Int}(hw:uH T a.k (wd a (k / b.ws.length)) b.k (wd b (k % b.ws.length)) p e):
  (e=11\/e=0/\s.ws[k].h<=p.c)/\s.ws[k].i=(k / b.ws.length:Nat)/\s.ws[k].j=(k % b.ws.length:Nat):=by
 obtain⟨g1,g2,g3⟩:=Qk h I;obtain⟨hv,ha,J⟩:=dP.1 h.ok;have hl:=h.len;have hm:0<b.ws.length:=(aW.1 J).2.1;have hi:k / b.ws.length<a.ws.length:=ui (by rw[mC];omega);have M:k % b.ws.length<b.ws.length:=qS _ hm;refine⟨?_,(h.ws k I).ri,(h.ws k I).rj⟩;cases hw with
 | arg g=>rw[IX (iW ha hi) (iW J M) hv] at g;cases g
 | none=>exact .inl rfl
 | some g g'=>exact .inr ⟨rfl,g3 _ (eu g').1⟩
end
open Go.RowKit
open Go.ChangeMaps (setBlock)
def Ep(w:World)(T:eW)(k:Int)(x:Bs)(e:Ending)(w':World):Prop:=
 ∃ a:WW,e=.returned (.tuple #[wX (pO T k x).1 a,.bool (pO T k x).2])/\Below w.heap.size w w'/\lT w' (pO T k x).1 a
variable{w:World}{T:eW}
theorem Er{a:TA}(hT:jV w T a)(hz:LZ w)(k:Int)(x:Bs)(hx:x.length<=1000000):
  Calls Tryz.prog 35 #[dI T a,.int .i64 k,.string (bs x)] w (Ep w T k x):=
 (Eo hT hz k x hx).mono fun e w' ⟨a,h1,h2⟩=>⟨a,h1,by
  obtain⟨F,h3,h4,-⟩:=h2
  exact⟨h4.below (fun _ _ h=>h),XR h3⟩⟩
def Cq(w:World)(T:eW)(k:Int)(x:Bs)(k2:Int)(y:Bs)(e:Ending)(w':World):Prop:=
 ∃ p er A ac B bc,e=.returned (.tuple #[.agg (zk p A ac B bc),.int .i64 er])/\uH T k x k2 y p er/\bT w eR (kP A ac B bc p.d) w'
theorem Rh(T:eW)(k:Int)(x:Bs):∃ u b,pO T k x=(u,b)/\b=(word k x&&bI T)/\(b=true->u=jf T k x):=by
 by_cases h:(word k x&&bI T)=true
 ·exact⟨_,_,by unfold pO;rw[if_pos h],h.symm,fun _=>rfl⟩
 ·exact⟨_,_,by unfold pO;rw[if_neg h],by simpa using h,fun h=>by cases h⟩
variable{g:Nat}{v:Value}
theorem Ri{tmps:Array Value}{cs:Array Value}(h:tmps.getD 10 undef=.pointer (some ⟨g,0,none⟩))(M:cs.size=10)(J:w.heap[g]?=some (.cells cs 62))(I:tmps.getD 11 undef=v):(results Tryz.f16 tmps).run Tryz.prog w=.ok (.tuple #[.agg cs,v]) w:=by
 subst I;exact cZ rfl tmps w g 62 cs (0,0) h J Tryz.underlying62 (by rw[M];kernel_rfl)
theorem X5{a:TA}(hT:jV w T a)(hz:LZ w)(k:Int)(x:Bs)(k2:Int)(y:Bs)(hx:x.length<=1000000)(hy:y.length<=1000000):
  Calls Tryz.prog 16 #[dI T a,.int .i64 k,.string (bs x),.int .i64 k2,.string (bs y)] w (Cq w T k x k2 y):=by
 have h1:=aH (aI.begin w) aM (dN T a) 25;have h2:=aH h1 aO (gO 0 0 0 0 0 0 0 none 0 0 none 0 0 ⟨#[]⟩) 62;rw[ik] at h2;have H2:=au h2;have af:=au (fun W X (h:aI eR w X W)=>(show Below w.heap.size w W from h.mod.below (fun _ _ h=>h)));have a8:=au (fun W (hb:Below w.heap.size w W)=>Er (hT.below hb) (hz.below hb) k x hx);have a4:=au (fun W (hb:Below w.heap.size w W)=>Er (hT.below hb) (hz.below hb) k2 y hy);obtain⟨u1,b1,q1,a6,a9⟩:=Rh T k x;obtain⟨u2,b2,q2,bc,a7⟩:=Rh T k2 y;have KC:=au (fun (bi:okW T k x k2 y=true) W (hb:Below w.heap.size w W) (I J:WW) h1 h2=>zm (hT.below hb) (hz.below hb) hx hy bi (a:=I) (c:=J) h1 h2);have ap:=au (show okW T k x k2 y=(b1&&b2) from by rw[a6,bc];unfold okW;cases word k x<;>cases word k2 y<;>cases bI T<;>rfl);have a0:=au a9;have ax:=au a7;have ak:=au (fun W hb=>(a8.o W hb).mono fun e w' (h:Ep W T k x e w')=>(show ∃ a:WW,e=.returned (.tuple #[wX u1 a,.bool b1])/\Below W.heap.size W w'/\lT w' u1 a from by unfold Ep at h;rw[q1] at h;exact h));have ai:=au (fun W hb=>(a4.o W hb).mono fun e w' (h:Ep W T k2 y e w')=>(show ∃ a:WW,e=.returned (.tuple #[wX u2 a,.bool b2])/\Below W.heap.size W w'/\lT w' u2 a from by unfold Ep at h;rw[q2] at h;exact h));clear hT hz hx hy h1 h2 a8 a4 q1 a6 a9 q2 bc a7;unfold wX sD at ak ai;unfold wX sD at KC;unfold dI at *
 unfold dN at *
 generalize T.rs.length=n1 at *
 generalize T.ds.length=n2 at *
 generalize T.es.length=n3 at *
 obtain⟨aA,ac,aD,ad,aE,ae⟩:=a;dsimp only at H2 KC ak ai ⊢;generalize a3:(w.alloc (.cells (fh aA n1 ac aD n2 ad aE n3 ae T.drop T.ord T.ini) 25)).alloc (.cells (gO 0 0 0 0 0 0 0 none 0 0 none 0 0 ⟨#[]⟩) 62)=w2 at H2;generalize aw:w.heap.size+1=g1 at H2;by_cases ao:(b1&&b2)=true
 ·rw[gA] at ao;obtain⟨rfl,rfl⟩:=ao;obtain rfl:=a0.o rfl;obtain rfl:=ax.o rfl;have bb:=au (KC.o ap.o)
  have ba:=au (show ∀ o,o=gK T k x k2 y->uH T k x k2 y (o.getD Lp) (if o.isSome then 0 else 11) from fun o ho=>by
   cases o with
   | none=>exact .none ap.o ho.symm
   | some p=>exact .some ap.o ho.symm)
  clear KC ap a0 ax;generalize jf T k x=u1 at *
  generalize jf T k2 y=u2 at *
  go_enter Tryz.func16,Tryz.ntmps16
  go_upto_region 1 with (fail);clear a3 aw;obtain⟨t0,t1,t2,t3,t4,t5⟩:=dW H2.o.drop;have KA:=au (ak.o w2 (af.o _ _ H2.o));clear ak;go_wp2_with fail;refine KA.o.mono ?_;rintro e9 w3 ⟨I,rfl,hb,hR⟩;have H3:=au (H2.o.below aO hb);have al:=au (fun W (h:Below w3.heap.size w3 W)=>hR.below h);clear KA hb hR t0 t1 t2 t3 t4 t5 H2;have H4:=au (aH H3.o aO (ij u1.k I.V u1.vs.length I.vc I.L u1.ls.length I.lc) 81);dsimp only;go_upto_region 2 with (fail);have ab:=au (show Below w3.heap.size w3 (w3.alloc (.cells (ij u1.k I.V u1.vs.length I.vc I.L u1.ls.length I.lc) 81))/\w3.heap.size<=(w3.alloc (.cells (ij u1.k I.V u1.vs.length I.vc I.L u1.ls.length I.lc) 81)).heap.size from⟨(fe _ _).alloc (fL _) _,by simp⟩);generalize w3.alloc (.cells (ij u1.k I.V u1.vs.length I.vc I.L u1.ls.length I.lc) 81)=w4 at *
  clear H3;generalize w3.heap.size=g3 at *
  obtain⟨t0,t1,t2,t3,t4,t5⟩:=dW H4.o.drop.drop;have KB:=au (ai.o w4 (af.o _ _ H4.o));clear ai;go_wp2_with fail;refine KB.o.mono ?_;rintro e9 w5 ⟨J,rfl,hb,hR⟩;have H5:=au (H4.o.below aO hb);have aa:=au (show lT w5 u1 I/\lT w5 u2 J from⟨al.o _ (ab.o.1.trans (hb.mono ab.o.2)),hR⟩);clear KB hb hR al ab t0 t1 t2 t3 t4 t5 H4;have H6:=au (aH H5.o aO (ij u2.k J.V u2.vs.length J.vc J.L u2.ls.length J.lc) 81);have am:=au (show lT (w5.alloc (.cells (ij u2.k J.V u2.vs.length J.vc J.L u2.ls.length J.lc) 81)) u1 I/\lT (w5.alloc (.cells (ij u2.k J.V u2.vs.length J.vc J.L u2.ls.length J.lc) 81)) u2 J from⟨aa.o.1.below ((fe _ _).alloc (fL _) _),aa.o.2.below ((fe _ _).alloc (fL _) _)⟩);dsimp only;go_upto_region 3 with (fail);generalize w5.alloc (.cells (ij u2.k J.V u2.vs.length J.vc J.L u2.ls.length J.lc) 81)=w6 at *
  generalize w5.heap.size=g5 at *
  clear H5 aa;generalize gK T k x k2 y=o at *
  have a5:=au (bb.o _ (af.o _ _ H6.o) _ _ am.o.1 am.o.2);clear bb am;have aq:=au (ba.o o rfl);clear ba;obtain⟨t0,t1,t2,t3,t4,t5⟩:=dW H6.o.drop.drop.drop;obtain⟨v0,v1,v2⟩:=fF H6.o;obtain⟨u0,bh,bk⟩:=fF H6.o.drop;go_wp2_with fail;refine a5.o.mono ?_;rintro e9 w7 ⟨A,pc,B,qc,rfl,hp⟩;have H7:=au (H6.o.fresh aO hp);clear a5 H6 hp t0 t1 t2 t3 t4 t5 u0 bh bk v0 v1 v2;obtain⟨p,ar⟩:∃ p,p=o.getD Lp:=⟨_,rfl⟩;rw[<-ar] at H7 aq;have bj:=au (show o.isSome=false->p=Lp from fun h=>by cases o with|none=>exact ar|some q=>cases h);unfold zk;rw[<-ar];generalize o.isSome=f at *
  clear ar;have H8:=au (aH H7.o aO (gO p.i p.j p.kd p.l p.r p.c p.d.c A p.d.L.length pc B p.d.M.length qc (bs p.d.F)) 62);clear H7;dsimp only;go_upto_region 6 with (fail);generalize w7.alloc (.cells (gO p.i p.j p.kd p.l p.r p.c p.d.c A p.d.L.length pc B p.d.M.length qc (bs p.d.F)) 62)=w8 at *
  generalize w7.heap.size=g7 at *
  have h8:=H8.o.perm (by ac_rfl:_=aj (av g1 (gO 0 0 0 0 0 0 0 none 0 0 none 0 0 ⟨#[]⟩) 62) (aj (av g7 (gO p.i p.j p.kd p.l p.r p.c p.d.c A p.d.L.length pc B p.d.M.length qc (bs p.d.F)) 62) (aj (kP A pc B qc p.d) (aj (av g5 (ij u2.k J.V u2.vs.length J.vc J.L u2.ls.length J.lc) 81) (aj (av g3 (ij u1.k I.V u1.vs.length I.vc I.L u1.ls.length I.lc) 81) (aj (av w.heap.size (fh aA n1 ac aD n2 ad aE n3 ae T.drop T.ord T.ini) 25) bG))))));have ag:(aj (av g7 (gO p.i p.j p.kd p.l p.r p.c p.d.c A p.d.L.length pc B p.d.M.length qc (bs p.d.F)) 62) (aj (kP A pc B qc p.d) (aj (av g5 (ij u2.k J.V u2.vs.length J.vc J.L u2.ls.length J.lc) 81) (aj (av g3 (ij u1.k I.V u1.vs.length I.vc I.L u1.ls.length I.lc) 81) (aj (av w.heap.size (fh aA n1 ac aD n2 ad aE n3 ae T.drop T.ord T.ini) 25) bG))))).Ok:=aB aF aO;have H9:=au (mP h8 ag (.int .i64 0) (.int .i64 0) (.int .i64 0) (.int .i64 0) (.int .i64 0) (.int .i64 0) (.int .i64 0) (.slice none 0 0) (.slice none 0 0) (.string ⟨#[]⟩));have az:=au (mP h8 ag (.int .i64 p.i) (.int .i64 p.j) (.int .i64 p.kd) (.int .i64 p.l) (.int .i64 p.r) (.int .i64 p.c) (.int .i64 p.d.c) (.slice A p.d.L.length pc) (.slice B p.d.M.length qc) (.string (bs p.d.F)));obtain⟨⟨z0,z1,z2,z3,z4⟩,⟨z5,z6,z7,z8,z9⟩,zf⟩:=iB h8;obtain⟨⟨p0,p1,p2,p3,p4⟩,⟨p5,p6,p7,p8,p9⟩,pf⟩:=iB h8.drop;clear h8 ag;cases f with
  | false=>
   have HF:=au (show ∀ W,aI eR w (aj (av g1 (gO 0 0 0 0 0 0 0 none 0 0 none 0 0 ⟨#[]⟩) 62) (aj (av g7 (gO p.i p.j p.kd p.l p.r p.c p.d.c A p.d.L.length pc B p.d.M.length qc (bs p.d.F)) 62) (aj (kP A pc B qc p.d) (aj (av g5 (ij u2.k J.V u2.vs.length J.vc J.L u2.ls.length J.lc) 81) (aj (av g3 (ij u1.k I.V u1.vs.length I.vc I.L u1.ls.length I.lc) 81) (aj (av w.heap.size (fh aA n1 ac aD n2 ad aE n3 ae T.drop T.ord T.ini) 25) bG)))))) W->Cq w T k x k2 y (.returned (.tuple #[.agg (gO 0 0 0 0 0 0 0 none 0 0 none 0 0 ⟨#[]⟩),.int .i64 11])) W from fun W h=>⟨Lp,11,none,0,none,0,rfl,by have h1:=aq.o;rw[bj.o rfl] at h1;exact h1,oH (af.o _ _ h)⟩);clear az;go_wp2;obtain⟨f2,an⟩:=H9.o.fst;refine bodyPost_ret (Ri rfl rfl an.1 rfl) rfl ?_;exact HF.o _ H9.o
  | true=>
   have HF:=au (show ∀ W,aI eR w (aj (av g1 (gO p.i p.j p.kd p.l p.r p.c p.d.c A p.d.L.length pc B p.d.M.length qc (bs p.d.F)) 62) (aj (av g7 (gO p.i p.j p.kd p.l p.r p.c p.d.c A p.d.L.length pc B p.d.M.length qc (bs p.d.F)) 62) (aj (kP A pc B qc p.d) (aj (av g5 (ij u2.k J.V u2.vs.length J.vc J.L u2.ls.length J.lc) 81) (aj (av g3 (ij u1.k I.V u1.vs.length I.vc I.L u1.ls.length I.lc) 81) (aj (av w.heap.size (fh aA n1 ac aD n2 ad aE n3 ae T.drop T.ord T.ini) 25) bG)))))) W->Cq w T k x k2 y (.returned (.tuple #[.agg (gO p.i p.j p.kd p.l p.r p.c p.d.c A p.d.L.length pc B p.d.M.length qc (bs p.d.F)),.int .i64 0])) W from fun W h=>⟨p,0,A,pc,B,qc,rfl,aq.o,((h.drop.drop.perm (by ac_rfl:_=aj (aj (av g5 (ij u2.k J.V u2.vs.length J.vc J.L u2.ls.length J.lc) 81) (aj (av g3 (ij u1.k I.V u1.vs.length I.vc I.L u1.ls.length I.lc) 81) (aj (av w.heap.size (fh aA n1 ac aD n2 ad aE n3 ae T.drop T.ord T.ini) 25) bG))) (kP A pc B qc p.d))).drop).post rF⟩);clear H9;go_wp2;obtain⟨f2,an⟩:=az.o.fst;refine bodyPost_ret (Ri rfl rfl an.1 rfl) rfl ?_;exact HF.o _ az.o
 ·have bf:b1=false\/(b1=true/\b2=false):=by cases b1<;>cases b2<;>simp_all
  have be:=au (show uH T k x k2 y Lp 1 from .arg (by rw[ap.o];simpa using ao));clear ao a0 ax ap KC;rcases bf with rfl|⟨rfl,rfl⟩
  ·go_enter Tryz.func16,Tryz.ntmps16
   go_upto_region 1 with (fail);clear a3 aw;obtain⟨t0,t1,t2,t3,t4,t5⟩:=dW H2.o.drop;have KA:=au (ak.o w2 (af.o _ _ H2.o));clear ak;go_wp2_with fail;refine KA.o.mono ?_;rintro e9 w3 ⟨I,rfl,hb,hR⟩;have H3:=au (H2.o.below aO hb);have al:=au (fun W (h:Below w3.heap.size w3 W)=>hR.below h);clear KA hb hR t0 t1 t2 t3 t4 t5 H2;have H4:=au (aH H3.o aO (ij u1.k I.V u1.vs.length I.vc I.L u1.ls.length I.lc) 81);dsimp only;go_upto_region 2 with (fail);have ab:=au (show Below w3.heap.size w3 (w3.alloc (.cells (ij u1.k I.V u1.vs.length I.vc I.L u1.ls.length I.lc) 81))/\w3.heap.size<=(w3.alloc (.cells (ij u1.k I.V u1.vs.length I.vc I.L u1.ls.length I.lc) 81)).heap.size from⟨(fe _ _).alloc (fL _) _,by simp⟩);generalize w3.alloc (.cells (ij u1.k I.V u1.vs.length I.vc I.L u1.ls.length I.lc) 81)=w4 at *
   clear H3;generalize w3.heap.size=g3 at *
   obtain⟨t0,t1,t2,t3,t4,t5⟩:=dW H4.o.drop.drop;have KB:=au (ai.o w4 (af.o _ _ H4.o));clear ai;go_wp2_with fail;refine KB.o.mono ?_;rintro e9 w5 ⟨J,rfl,hb,hR⟩;have H5:=au (H4.o.below aO hb);have aa:=au (show lT w5 u1 I/\lT w5 u2 J from⟨al.o _ (ab.o.1.trans (hb.mono ab.o.2)),hR⟩);clear KB hb hR al ab t0 t1 t2 t3 t4 t5 H4;have H6:=au (aH H5.o aO (ij u2.k J.V u2.vs.length J.vc J.L u2.ls.length J.lc) 81);have am:=au (show lT (w5.alloc (.cells (ij u2.k J.V u2.vs.length J.vc J.L u2.ls.length J.lc) 81)) u1 I/\lT (w5.alloc (.cells (ij u2.k J.V u2.vs.length J.vc J.L u2.ls.length J.lc) 81)) u2 J from⟨aa.o.1.below ((fe _ _).alloc (fL _) _),aa.o.2.below ((fe _ _).alloc (fL _) _)⟩);dsimp only;go_upto_region 3 with (fail);generalize w5.alloc (.cells (ij u2.k J.V u2.vs.length J.vc J.L u2.ls.length J.lc) 81)=w6 at *
   generalize w5.heap.size=g5 at *
   clear H5 aa;have h8:=H6.o.perm (by ac_rfl:_=aj (av g1 (gO 0 0 0 0 0 0 0 none 0 0 none 0 0 ⟨#[]⟩) 62) (aj (av g5 (ij u2.k J.V u2.vs.length J.vc J.L u2.ls.length J.lc) 81) (aj (av g3 (ij u1.k I.V u1.vs.length I.vc I.L u1.ls.length I.lc) 81) (aj (av w.heap.size (fh aA n1 ac aD n2 ad aE n3 ae T.drop T.ord T.ini) 25) bG))));have ag:(aj (av g5 (ij u2.k J.V u2.vs.length J.vc J.L u2.ls.length J.lc) 81) (aj (av g3 (ij u1.k I.V u1.vs.length I.vc I.L u1.ls.length I.lc) 81) (aj (av w.heap.size (fh aA n1 ac aD n2 ad aE n3 ae T.drop T.ord T.ini) 25) bG))).Ok:=aB aF aO;have H9:=au (mP h8 ag (.int .i64 0) (.int .i64 0) (.int .i64 0) (.int .i64 0) (.int .i64 0) (.int .i64 0) (.int .i64 0) (.slice none 0 0) (.slice none 0 0) (.string ⟨#[]⟩));obtain⟨⟨z0,z1,z2,z3,z4⟩,⟨z5,z6,z7,z8,z9⟩,zf⟩:=iB h8;clear h8 ag am;go_wp2;obtain⟨f2,an⟩:=H9.o.fst;refine bodyPost_ret (Ri rfl rfl an.1 rfl) rfl ?_;exact⟨Lp,1,none,0,none,0,rfl,be.o,oH (af.o _ _ H9.o)⟩
  ·go_enter Tryz.func16,Tryz.ntmps16
   go_upto_region 1 with (fail);clear a3 aw;obtain⟨t0,t1,t2,t3,t4,t5⟩:=dW H2.o.drop;have KA:=au (ak.o w2 (af.o _ _ H2.o));clear ak;go_wp2_with fail;refine KA.o.mono ?_;rintro e9 w3 ⟨I,rfl,hb,hR⟩;have H3:=au (H2.o.below aO hb);have al:=au (fun W (h:Below w3.heap.size w3 W)=>hR.below h);clear KA hb hR t0 t1 t2 t3 t4 t5 H2;have H4:=au (aH H3.o aO (ij u1.k I.V u1.vs.length I.vc I.L u1.ls.length I.lc) 81);dsimp only;go_upto_region 2 with (fail);have ab:=au (show Below w3.heap.size w3 (w3.alloc (.cells (ij u1.k I.V u1.vs.length I.vc I.L u1.ls.length I.lc) 81))/\w3.heap.size<=(w3.alloc (.cells (ij u1.k I.V u1.vs.length I.vc I.L u1.ls.length I.lc) 81)).heap.size from⟨(fe _ _).alloc (fL _) _,by simp⟩);generalize w3.alloc (.cells (ij u1.k I.V u1.vs.length I.vc I.L u1.ls.length I.lc) 81)=w4 at *
   clear H3;generalize w3.heap.size=g3 at *
   obtain⟨t0,t1,t2,t3,t4,t5⟩:=dW H4.o.drop.drop;have KB:=au (ai.o w4 (af.o _ _ H4.o));clear ai;go_wp2_with fail;refine KB.o.mono ?_;rintro e9 w5 ⟨J,rfl,hb,hR⟩;have H5:=au (H4.o.below aO hb);have aa:=au (show lT w5 u1 I/\lT w5 u2 J from⟨al.o _ (ab.o.1.trans (hb.mono ab.o.2)),hR⟩);clear KB hb hR al ab t0 t1 t2 t3 t4 t5 H4;have H6:=au (aH H5.o aO (ij u2.k J.V u2.vs.length J.vc J.L u2.ls.length J.lc) 81);have am:=au (show lT (w5.alloc (.cells (ij u2.k J.V u2.vs.length J.vc J.L u2.ls.length J.lc) 81)) u1 I/\lT (w5.alloc (.cells (ij u2.k J.V u2.vs.length J.vc J.L u2.ls.length J.lc) 81)) u2 J from⟨aa.o.1.below ((fe _ _).alloc (fL _) _),aa.o.2.below ((fe _ _).alloc (fL _) _)⟩);dsimp only;go_upto_region 3 with (fail);generalize w5.alloc (.cells (ij u2.k J.V u2.vs.length J.vc J.L u2.ls.length J.lc) 81)=w6 at *
   generalize w5.heap.size=g5 at *
   clear H5 aa;have h8:=H6.o.perm (by ac_rfl:_=aj (av g1 (gO 0 0 0 0 0 0 0 none 0 0 none 0 0 ⟨#[]⟩) 62) (aj (av g5 (ij u2.k J.V u2.vs.length J.vc J.L u2.ls.length J.lc) 81) (aj (av g3 (ij u1.k I.V u1.vs.length I.vc I.L u1.ls.length I.lc) 81) (aj (av w.heap.size (fh aA n1 ac aD n2 ad aE n3 ae T.drop T.ord T.ini) 25) bG))));have ag:(aj (av g5 (ij u2.k J.V u2.vs.length J.vc J.L u2.ls.length J.lc) 81) (aj (av g3 (ij u1.k I.V u1.vs.length I.vc I.L u1.ls.length I.lc) 81) (aj (av w.heap.size (fh aA n1 ac aD n2 ad aE n3 ae T.drop T.ord T.ini) 25) bG))).Ok:=aB aF aO;have H9:=au (mP h8 ag (.int .i64 0) (.int .i64 0) (.int .i64 0) (.int .i64 0) (.int .i64 0) (.int .i64 0) (.int .i64 0) (.slice none 0 0) (.slice none 0 0) (.string ⟨#[]⟩));obtain⟨⟨z0,z1,z2,z3,z4⟩,⟨z5,z6,z7,z8,z9⟩,zf⟩:=iB h8;clear h8 ag am;go_wp2;obtain⟨f2,an⟩:=H9.o.fst;refine bodyPost_ret (Ri rfl rfl an.1 rfl) rfl ?_;exact⟨Lp,1,none,0,none,0,rfl,be.o,oH (af.o _ _ H9.o)⟩
variable{i fuel2 j:Nat}{ops:Array Oper}{Q:Exit->Act->World->Prop}{S:World->Prop}{a:Act}{w':World}{k:Int}
theorem Ue(h:i<=100):IntKind.i64.wrap (i:Int)=i:=kj _ eL
theorem Uf(h:i<=100):wrap64 (i:Int)=i:=qk _ eL
section
variable{α:Type}(a b:α)(l:List α)(n:Nat)
theorem Yv(h:n<l.toArray.size):l.toArray[n]'h=l[n]'(by simpa using h):=lw h
theorem tc(h:n+1<(a::l).length):(a::l)[n+1]'h=l[n]'(by simpa using h):=k6 ..
theorem tf(h:0<(a::l).length):(a::l)[0]'h=a:=kO ..
theorem Yw:l.toArray.setIfInBounds n a=(l.set n a).toArray:=ja ..
theorem Yx:(a::l).set 0 b=b::l:=iz ..
theorem Yy:(a::l).set (n+1) b=a::l.set n b:=i6 ..
end
theorem abC{P:Program}{h:Nat}{ls ls2:Array Bool}(I:Act->World->Act->Prop)(M:∀ W' J,I a W' J->wpAnyH P .any ops Q S fuel2 ls2 J W')(h1:(∀ W' J,I a W' J->wpAnyH P .any ops Q S fuel2 ls2 J W')->wpAnyH P .any ops Q S h ls a w):wpAnyH P .any ops Q S h ls a w:=h1 M
theorem E8{J:Nat}{I:Array Bool}{b:Act}{M:Oper}(i:Nat)(hS:S w)(h:wpAnyH Tryz.prog .any ops Q S J (I.setIfInBounds i true) b w)(hi:ops[i]?=some M:=by rfl)(hs:Region.noSelect ops=true:=by kernel_rfl)(hf:Region.free .any ops I i=true:=by kernel_rfl)(hr:(Region.ready .any ops I).contains i=true:=by kernel_rfl)(hQ:∀ c a w,Q (.panic c) (a.put M.dst v) w->Q (.panic c) a w:=by exact fun _ _ _ h=>h)(hw:Region.wanted M (yielded ops a.tmps)=true:=by rfl)(hv:∀ w',S w'->(execOp a.eval M).run Tryz.prog w'=.ok (.value v) w':=by(intro w' aa;go_simp;(try with_reducible rfl);done))(hb:a.put M.dst v=b:=by(first|(simp only[Act.put,Yv,tc,tf,Yw,Yx,Yy];done)|(simp only[Act.put,Yv,tc,tf,Yw,Yx,Yy];rfl)|rfl)):wpAnyH Tryz.prog .any ops Q S (J+1) I a w:=wpAnyH_take hi hs hf hr hQ (.inl ⟨hw,hv⟩) hS (hb ▸ h)
theorem Rv{a:aR}(h:j<a.ws.length):a.ws[j]=wd a j:=by
 unfold wd;rw[ki,ic h];rfl
theorem OX{x:Bs}{k2:Int}{y:Bs}{e:Ending}(h:Cq w T k x k2 y e w'):
  ∃ p I A ac B bc,e=.returned (.tuple #[.agg (zk p A ac B bc),.int .i64 I])/\uH T k x k2 y p I/\Below w.heap.size w w':=by
 obtain⟨p,I,A,ac,B,bc,J,M,F,h4,h5,-⟩:=h;exact⟨p,I,A,ac,B,bc,J,M,h5.below (fun _ _ h=>h)⟩
theorem E9{a:TA}(hT:vQ w T a)(hz:LZ w){x:Bv}(hx:fu w x.A x.n.ws){y:Bv}(hy:fu w y.A y.n.ws){s:SL}(hs:SR w s)(cf:s.ws.length<=maxLen/\∀ e ∈ s.ws,e.ps.length<=maxLen/\e.ps.length<=e.c):
  Calls Tryz.prog 8 #[dI T a,wZ x,wZ y,.agg (jh s)] w (aT w (.bool true)):=by
 have h1:=aH (aI.begin w) aO (fh a.A T.rs.length a.c a.D T.ds.length a.d a.E T.es.length a.e T.drop T.ord T.ini) 25;have h2:=aH h1 aO (ff x.n.k x.A x.n.ws.length x.c) 28;have h3:=aH h2 aO (ff y.n.k y.A y.n.ws.length y.c) 28;have h4:=aH h3 aO (fj s.b s.A s.ws.length s.c s.u.A s.U.length s.u.c s.v.A s.V.length s.v.c s.g.A s.G.length s.g.c) 41;simp only[ik] at h4;have cy:=au h4.cK;obtain⟨ai,af,ak,ad,aa,ag⟩:=dW h4.drop.drop.drop;obtain⟨ac,ab,-⟩:=bW h4.drop.drop;obtain⟨ae,I,-⟩:=bW h4.drop;obtain⟨am,J,ao,al,an,-⟩:=fU h4;have HC:=au (fun W (h:Below ((((w.alloc (.cells (fh a.A T.rs.length a.c a.D T.ds.length a.d a.E T.es.length a.e T.drop T.ord T.ini) 25)).alloc (.cells (ff x.n.k x.A x.n.ws.length x.c) 28)).alloc (.cells (ff y.n.k y.A y.n.ws.length y.c) 28)).alloc (.cells (fj s.b s.A s.ws.length s.c s.u.A s.U.length s.u.c s.v.A s.V.length s.v.c s.g.A s.G.length s.g.c) 41)).heap.size ((((w.alloc (.cells (fh a.A T.rs.length a.c a.D T.ds.length a.d a.E T.es.length a.e T.drop T.ord T.ini) 25)).alloc (.cells (ff x.n.k x.A x.n.ws.length x.c) 28)).alloc (.cells (ff y.n.k y.A y.n.ws.length y.c) 28)).alloc (.cells (fj s.b s.A s.ws.length s.c s.u.A s.U.length s.u.c s.v.A s.V.length s.v.c s.g.A s.G.length s.g.c) 41)) W)=>(show W.cell? ⟨w.heap.size,0,none⟩=some (.slice a.A T.rs.length a.c)/\W.cell? ⟨w.heap.size,1,none⟩=some (.slice a.D T.ds.length a.d)/\W.cell? ⟨w.heap.size,2,none⟩=some (.slice a.E T.es.length a.e)/\W.cell? ⟨w.heap.size,3,none⟩=some (.int .i64 T.drop)/\W.cell? ⟨w.heap.size,4,none⟩=some (.int .i64 T.ord)/\W.cell? ⟨w.heap.size,5,none⟩=some (.int .i64 T.ini)/\W.cell? ⟨w.heap.size+1,0,none⟩=some (.int .i64 x.n.k)/\W.cell? ⟨w.heap.size+1,1,none⟩=some (.slice x.A x.n.ws.length x.c)/\W.cell? ⟨w.heap.size+1+1,0,none⟩=some (.int .i64 y.n.k)/\W.cell? ⟨w.heap.size+1+1,1,none⟩=some (.slice y.A y.n.ws.length y.c)/\(oA W (w.heap.size+1+1+1) (.int .i64 s.b) (.slice s.A s.ws.length s.c) (.slice s.u.A s.U.length s.u.c) (.slice s.v.A s.V.length s.v.c) (.slice s.g.A s.G.length s.g.c)) from⟨aG ai h,aG af h,aG ak h,aG ad h,aG aa h,aG ag h,aG ac h,aG ab h,aG ae h,aG I h,aG am h,aG J h,aG ao h,aG al h,aG an h⟩));have b4:=au hT;have HZ:=au hz;have b0:=au hx;have b6:=au hy;have cc:=au hs;have b5:=au cf;clear hT hz hx hy hs cf h1 h2 h3 h4 ai af ak ad aa ag ac ab ae I am J ao al an;have KF:=au (fun W (hb:Below w.heap.size w W)=>oL (ca:=x.c) (cb:=y.c) (b4.o.below hb) (fu.below b0.o hb) (fu.below b6.o hb));have KC:=au (fun (hf:pW T x.n y.n=true) W (hb:Below w.heap.size w W) (s:SL) (hs:SR W s) (hz:Ul s)=>gT (ca:=x.c) (cb:=y.c) ((aS hf).1 (b4.o.below hb)) (HZ.o.below hb) (fu.below b0.o hb) (fu.below b6.o hb) (by have:=(aS hf).2.2.1.1;omega) (by have:=(aS hf).2.2.1.2;omega) (aS hf).2.2.2.1 (aS hf).2.2.2.2 hs hz);have KW:=au (fun (hf:pW T x.n y.n=true) W (hb:Below w.heap.size w W) (u v:Bs) (hu:u.length<=1000000) (hv:v.length<=1000000)=>(X5 ((aS hf).1 (b4.o.below hb)) (HZ.o.below hb) x.n.k u y.n.k v hu hv).mono fun e w' h=>OX h);have KH:=au (fun W (hb:Below w.heap.size w W)=>rJ W (HZ.o.below hb));unfold dI wZ at *
 try unfold uU at *
 try unfold jh at *
 unfold dN at *
 generalize ct:T.rs.length=n1 at *
 generalize cm:T.ds.length=n2 at *
 generalize co:T.es.length=n3 at *
 have c8:=au ct;have da:=au cm;have c6:=au co;clear ct cm co;generalize ci:x.n.ws.length=nx at *
 have a6:=au ci;clear ci;generalize bi:y.n.ws.length=ny at *
 have az:=au bi;clear bi
 go_enter Tryz.func8,Tryz.ntmps8
 go_upto_region 1 with (fail);generalize (((w.alloc (.cells (fh a.A n1 a.c a.D n2 a.d a.E n3 a.e T.drop T.ord T.ini) 25)).alloc (.cells (ff x.n.k x.A nx x.c) 28)).alloc (.cells (ff y.n.k y.A ny y.c) 28)).alloc (.cells (fj s.b s.A s.ws.length s.c s.u.A s.U.length s.u.c s.v.A s.V.length s.v.c s.g.A s.G.length s.g.c) 41)=w0 at *
 generalize jj:w.heap.size=gt at HC ⊢;clear jj;have aq:=au (fun W (h:Below w0.heap.size w0 W)=>cy.o.trans (h.mono cy.o.size));have b9:=au (fe w0.heap.size w0);have K:=au (KH.o w0 (aq.o _ b9.o));go_wp2_with fail;refine K.o.mono ?_;rintro e9 w1 ⟨rfl,hb⟩;have a4:=au (aC b9.o hb);clear K b9 hb
 try dsimp only
 have K:=au (KF.o w1 (aq.o _ a4.o));cases hf:pW T x.n y.n with
 | false=>
  rw[hf] at K;have HF:=au hf;clear hf;obtain⟨ai,af,ak,ad,aa,ag,ac,ab,ae,I,am,J,ao,al,an⟩:=HC.o w1 a4.o;go_wp2_with fail;refine K.o.mono ?_;rintro e9 w2 ⟨rfl,hb⟩;have ax:=au (aC a4.o hb);clear K hb a4;clear ai af ak ad aa ag ac ab ae I am J ao al an
  try dsimp only
  obtain⟨ai,af,ak,ad,aa,ag,ac,ab,ae,I,am,J,ao,al,an⟩:=HC.o w2 ax.o;have HE:=au (aq.o _ ax.o);go_wp2;go_ret;exact aK rfl HE.o
 | true=>
  rw[hf] at K;have HF:=au hf;clear hf;obtain⟨ai,af,ak,ad,aa,ag,ac,ab,ae,I,am,J,ao,al,an⟩:=HC.o w1 a4.o;go_wp2_with fail;refine K.o.mono ?_;rintro e9 w2 ⟨rfl,hb⟩;have ax:=au (aC a4.o hb);clear K hb a4;clear ai af ak ad aa ag ac ab ae I am J ao al an
  try dsimp only
  have K:=au (Az (cc.o.below (aq.o w2 ax.o)) b5.o.1 (fun e he=>(b5.o.2 e he).1));unfold jh at K;cases a8:bS s with
  | false=>
   rw[a8] at K;have cD:=au a8;clear a8;obtain⟨ai,af,ak,ad,aa,ag,ac,ab,ae,I,am,J,ao,al,an⟩:=HC.o w2 ax.o;go_wp2_with fail;refine K.o.mono ?_;rintro e9 w3 ⟨rfl,hb⟩;have aD:=au (aC ax.o hb);clear K hb ax;clear ai af ak ad aa ag ac ab ae I am J ao al an
   try dsimp only
   obtain⟨ai,af,ak,ad,aa,ag,ac,ab,ae,I,am,J,ao,al,an⟩:=HC.o w3 aD.o;have HE:=au (aq.o _ aD.o);go_wp2;go_ret;exact aK rfl HE.o
  | true=>
   rw[a8] at K;have cD:=au a8;clear a8;obtain⟨ai,af,ak,ad,aa,ag,ac,ab,ae,I,am,J,ao,al,an⟩:=HC.o w2 ax.o;go_wp2_with fail;refine K.o.mono ?_;rintro e9 w3 ⟨rfl,hb⟩;have aD:=au (aC ax.o hb);clear K hb ax;clear ai af ak ad aa ag ac ab ae I am J ao al an
   try dsimp only
   have cW:=au (ED cD.o (fun e he=>(b5.o.2 e he).2));have K:=au (KC.o HF.o w3 (aq.o _ aD.o) s (cc.o.below (aq.o _ aD.o)) cW.o);unfold jh at K;obtain⟨ai,af,ak,ad,aa,ag,ac,ab,ae,I,am,J,ao,al,an⟩:=HC.o w3 aD.o;go_wp2_with fail;refine K.o.mono ?_;rintro e9 w4 ⟨bz,rfl,hiff,hb⟩;have br:=au (aC aD.o hb);have HI:=au hiff;clear K hb hiff aD;clear ai af ak ad aa ag ac ab ae I am J ao al an
   try dsimp only
   cases bz with
   | false=>
    obtain⟨ai,af,ak,ad,aa,ag,ac,ab,ae,I,am,J,ao,al,an⟩:=HC.o w4 br.o;have HE:=au (aq.o _ br.o);go_wp2;go_ret;exact aK rfl HE.o
   | true=>
    have b2:=au (HI.o.1 rfl);clear HI
    have a7:=au (show s.ws.length=nx*ny from by
     have h:=b2.o.len;have e:s.m.ws.length=s.ws.length:=fY ..;rw[e,a6.o,az.o] at h
     exact h)
    have b1:=au (show nx<=100/\ny<=100 from by have h1:=(aS HF.o).2.2.1;rw[a6.o,az.o] at h1;omega)
    have bh:=au (show 0<nx/\0<ny from by
     have hv:=dP.1 b2.o.ok
     exact⟨by rw[<-a6.o];exact(aW.1 hv.2.1).2.1,by rw[<-az.o];exact(aW.1 hv.2.2).2.1⟩)
    obtain⟨bx,ox,cA,cq⟩:=fu.at b0.o (by rw[a6.o];exact bh.o.1);obtain⟨bY,oY,cw,cg⟩:=fu.at b6.o (by rw[az.o];exact bh.o.2);have bu:nx*ny<=100*100:=sT b1.o.1 b1.o.2;have bm:0<nx*ny:=Ha bh.o.1 bh.o.2;have tl:IntKind.i64.wrap ((nx:Int)*(ny:Int))=((s.ws.length:Nat):Int):=by rw[a7.o,<-LF];exact kj _ eL
    have cJ:wrap64 ((nx:Int)*(ny:Int))=((s.ws.length:Nat):Int):=by rw[a7.o,<-LF];exact qk _ eL
    obtain⟨aE,a3,cr,bo⟩:=sI.at MK eL cc.o.ws.row (by rw[a7.o];exact bm);have cd:=au (show s.ws.length<=10000 from by rw[a7.o];exact bu)
    have cI:=au (fun V (hb:Below w.heap.size w V) (i:Nat) (hi:i<nx)=>(show V.cell? ⟨bx,ox+i,none⟩=some (.string (bs (wd x.n i))) from by
     have ar:i<x.n.ws.length:=by rw[a6.o];exact hi
     rw[cq V hb i ar,Rv ar]))
    have c2:=au (fun V (hb:Below w.heap.size w V) (i:Nat) (hi:i<ny)=>(show V.cell? ⟨bY,oY+i,none⟩=some (.string (bs (wd y.n i))) from by
     have ar:i<y.n.ws.length:=by rw[az.o];exact hi
     rw[cg V hb i ar,Rv ar]))
    have cQ:=au (fun V (hb:Below w.heap.size w V) (i:Nat) (hi:i<s.ws.length)=>(show V.cell? ⟨aE,a3+i*4,none⟩=some (.int .i64 s.ws[i].i)/\V.cell? ⟨aE,a3+i*4+1,none⟩=some (.int .i64 s.ws[i].j)/\V.cell? ⟨aE,a3+i*4+2,none⟩=some (.int .i64 s.ws[i].h) from
     ⟨bo V hb i hi 0 _ rfl,bo V hb i hi 1 _ rfl,bo V hb i hi 2 _ rfl⟩))
    have cG:=au (fun (i:Nat) (hi:i<s.ws.length) (p:Pr) (e:Int) (hw:uH T x.n.k (wd x.n (i / ny)) y.n.k (wd y.n (i % ny)) p e)=>(show(e=11\/e=0/\s.ws[i].h<=p.c)/\s.ws[i].i=((i / ny:Nat):Int)/\s.ws[i].j=((i % ny:Nat):Int) from by
     have ar:i<s.m.ws.length:=by show i<(s.ws.map WL.m).length;rw[fY];exact hi
     have h:=SX b2.o ar (by rw[az.o];exact hw);have e:s.m.ws[i]=s.ws[i].m:=mx ..;rw[e,az.o] at h
     exact h))
    have cE:=au (fun (i:Nat) (hi:i<nx)=>(show(wd x.n i).length<=1000000 from by
     have ar:i<x.n.ws.length:=by rw[a6.o];exact hi
     rw[<-Rv ar];exact(aS HF.o).2.2.2.1 _ (gw ar)))
    have cP:=au (fun (i:Nat) (hi:i<ny)=>(show(wd y.n i).length<=1000000 from by
     have ar:i<y.n.ws.length:=by rw[az.o];exact hi
     rw[<-Rv ar];exact(aS HF.o).2.2.2.2 _ (gw ar)))
    clear cq cg bo bm;rw[cA,cw,cr] at HC;clear cA cw cr;clear bu;obtain⟨ai,af,ak,ad,aa,ag,ac,ab,ae,I,am,J,ao,al,an⟩:=HC.o w4 br.o;go_wp2_with fail;clear ai af ak ad aa ag ac ab ae I am J ao al an;clear tl cJ;generalize ce:s.ws.length=mm at HC a7 cd ⊢;have cV:=au ce;clear ce;have ck:=au (fun V (h:Below w4.heap.size w4 V)=>aC br.o h);go_loopw [10] (fun i wr=>∃ k:Nat,k<=mm/\i=.int .i64 k/\Below w4.heap.size w4 wr) (fun i _=>mm-(intOf i).toNat)
    case atStart=>exact⟨0,fy _,rfl,fe _ _⟩
    case round=>
     obtain⟨k,hk,rfl,hR⟩:=hrel;have HR:=au hR;clear hR;by_cases b7:k<mm
     case pos=>
      have b3:k<s.ws.length:=by rw[cV.o];exact b7
      obtain⟨i,hi⟩:∃ i,i=k / ny:=⟨_,rfl⟩;obtain⟨j,hj⟩:∃ j,j=k % ny:=⟨_,rfl⟩;have bi:=bh.o.2;have cn:=b1.o;have bb:i<nx:=by rw[hi];exact ui (by rw[mC,<-a7.o];exact b7)
      have bp:j<ny:=by rw[hj];exact qS k bi
      have cj:=cd.o
      have ch:=au (fun (p:Pr) (e:Int) (hw:uH T x.n.k (wd x.n i) y.n.k (wd y.n j) p e)=>(show(e=11\/e=0/\s.ws[k].h<=p.c)/\s.ws[k].i=(i:Int)/\s.ws[k].j=(j:Int) from by
       rw[hi,hj] at hw ⊢
       exact cG.o k b3 p e hw))
      have cX:=au (fun V (hb:Below w.heap.size w V)=>cQ.o V hb k b3);have cT:=au (fun V (hb:Below w.heap.size w V)=>cI.o V hb i bb);have c0:=au (fun V (hb:Below w.heap.size w V)=>c2.o V hb j bp);have hu:=cE.o i bb;have hv:=cP.o j bp;have bw:i<=100:=j8 (AW bb) cn.1;have td:wrap64 ((k:Int) / (ny:Int))=(i:Int):=by
       have e8:(k:Int) / (ny:Int)=(i:Int):=by rw[hi];push_cast;rfl
       rw[e8];exact Uf bw
      have cp:IntKind.i64.wrap ((k:Int) / (ny:Int))=(i:Int):=by
       have e8:(k:Int) / (ny:Int)=(i:Int):=by rw[hi];push_cast;rfl
       rw[e8];exact Ue bw
      have tm:Int.tmod (k:Int) (ny:Int)=(j:Int):=by rw[hj,NO eL];push_cast;rfl
      have tz:((ny:Int)==0)=false:=by simp;omega
      have cS:¬ ((ny:Int)=0):=by omega
      have cU:¬ (ny=0):=by omega
      have cH:(ny==0)=false:=by simp;omega
      have c3:(k:Int)<(mm:Int):=by omega
      have HU:=au hu;have HV:=au hv;have cx:=au (show i<nx/\j<ny from⟨bb,bp⟩);have cR:=au (show k+1<=mm from b7);generalize s.ws[k]=z at *
      generalize wd x.n i=u at *
      generalize wd y.n j=v at *
      clear bw hu hv bb bp hi hj b3 cj cn bi;have a5:=au (ck.o _ HR.o);obtain⟨ai,af,ak,ad,aa,ag,ac,ab,ae,I,am,J,ao,al,an⟩:=HC.o wr a5.o;go_upto_region 9 with (fail);clear ai af ak ad aa ag ac ab ae I am J ao al an;obtain⟨ai,af,ak,ad,aa,ag,ac,ab,ae,I,am,J,ao,al,an⟩:=HC.o wr a5.o;refine aP (fun W=>W.cell? ⟨gt+1+1,1,none⟩=some (.slice (some ⟨bY,oY,none⟩) ny y.c)) eQ eQ (show wr.drew.cell? _=_ from I) ?_;clear ai af ak ad aa ag ac ab ae I am J ao al an;have cY:=au HR.o.drew;have aw:=au a5.o.drew;generalize wr.drew=v1 at *
      (repeat(first|refine bM ?_|refine bN ?_))
      refine lex_nil ?_
      try rw[cp]
      try rw[tm]
      clear td cp tm tz cS cU cH a5 HR;have cv:=au (fe v1.heap.size v1);have c7:(i:Int)<(nx:Int):=by have:=cx.o.1;omega
      have c9:(j:Int)<(ny:Int):=by have:=cx.o.2;omega
      go_upto_region 10 with (fail);obtain⟨C,hC⟩:∃ C:World->Prop,C=fun w'=>w'.cell? ⟨gt,0,none⟩=some (.slice a.A n1 a.c)/\w'.cell? ⟨gt,1,none⟩=some (.slice a.D n2 a.d)/\w'.cell? ⟨gt,2,none⟩=some (.slice a.E n3 a.e)/\w'.cell? ⟨gt,3,none⟩=some (.int .i64 T.drop)/\w'.cell? ⟨gt,4,none⟩=some (.int .i64 T.ord)/\w'.cell? ⟨gt,5,none⟩=some (.int .i64 T.ini)/\w'.cell? ⟨gt+1,0,none⟩=some (.int .i64 x.n.k)/\w'.cell? ⟨gt+1,1,none⟩=some (.slice (some ⟨bx,ox,none⟩) nx x.c)/\w'.cell? ⟨gt+1+1,0,none⟩=some (.int .i64 y.n.k)/\w'.cell? ⟨gt+1+1,1,none⟩=some (.slice (some ⟨bY,oY,none⟩) ny y.c)/\w'.cell? ⟨bx,ox+i,none⟩=some (.string (bs u))/\w'.cell? ⟨bY,oY+j,none⟩=some (.string (bs v)):=⟨_,rfl⟩
      have a1:=au (fun V (O:CH.aU) (h:aI eR v1 O V)=>(show C V from by
       rw[hC];have hq:=aC aw.o h.cK;obtain⟨ai,af,ak,ad,aa,ag,ac,ab,ae,I,-⟩:=HC.o V hq
       exact⟨ai,af,ak,ad,aa,ag,ac,ab,ae,I,cT.o V (aq.o V hq),c0.o V (aq.o V hq)⟩))
      have ba:=au ((aI.begin v1).drew aM);have ap:=a1.o _ _ ba.o;refine wp_region_held (S:=C) eQ (show wpAnyH _ _ _ _ _ _ _ _ v1.drew from ?_);generalize v1.drew=V0 at *
      subst hC;refine E8 0 ap ?_;refine E8 1 ap ?_;refine E8 2 ap ?_;refine E8 3 ap ?_;refine E8 4 ap ?_;refine E8 5 ap ?_;refine E8 6 ap ?_;refine E8 7 ap ?_;refine E8 8 ap ?_;refine E8 9 ap ?_;refine E8 10 ap ?_;refine E8 11 ap ?_;refine E8 12 ap ?_;refine E8 13 ap ?_;refine E8 14 ap ?_;clear ap;refine abC (fuel2:=2) (ls2:=#[true,true,true,true,true,true,true,true,true,true,true,true,true,true,true,true,true,true,true,true,false,false]) (fun a0 W' a'=>∃ (p:Pr) (pe:Int) (pA:eV) (pac:Nat) (pB:eV) (pbc:Nat) (g:Nat),a'=(((((a0.put (some 79) (.tuple #[.agg (gO p.i p.j p.kd p.l p.r p.c p.d.c pA p.d.L.length pac pB p.d.M.length pbc (bs p.d.F)),.int .i64 pe])).put (some 63) (.tuple #[.agg (gO p.i p.j p.kd p.l p.r p.c p.d.c pA p.d.L.length pac pB p.d.M.length pbc (bs p.d.F)),.int .i64 pe])).put (some 80) (.agg (gO p.i p.j p.kd p.l p.r p.c p.d.c pA p.d.L.length pac pB p.d.M.length pbc (bs p.d.F)))).put (some 81) (.int .i64 pe)).put (some 13) (.pointer (some ⟨g,0,none⟩)))/\Hid (uH T x.n.k u y.n.k v p pe/\aI eR v1 (aj (av g (gO 0 0 0 0 0 0 0 none 0 0 none 0 0 ⟨#[]⟩) 62) bG) W')) ?_ (fun bv=>?_);rotate_left;refine wpAnyH_all (rs:=[15,19]) eQ eS (fun i hi=>?_);simp only[np,sb,or_false] at hi;rcases hi with rfl|rfl
      ·refine eB rfl rfl ?_;go_wp2_with fail;refine(KW.o HF.o V0 (aq.o _ (aC aw.o ba.o.cK)) u v HU.o HV.o).mono ?_;rintro e9 V2 ⟨p,pe,pA,pac,pB,pbc,rfl,aA,hb⟩;unfold zk;have be:=au (ba.o.below aM hb);have b8:=au aA;clear aA hb
       try simp only[Act.put,Yv,tc,tf,Yw,Yx,Yy]
       have ap:=a1.o _ _ be.o;refine⟨ap,?_⟩;refine E8 16 ap ?_;refine E8 17 ap ?_;refine E8 18 ap ?_;clear ap;refine wpAnyH_all (rs:=[19]) eQ eS (fun i hi=>?_);simp only[np,sb,or_false] at hi;subst hi;refine eB rfl rfl ?_;go_wp2_with fail;have cz:=au (aH be.o aM (gO 0 0 0 0 0 0 0 none 0 0 none 0 0 ⟨#[]⟩) 62)
       try simp only[Act.put,Yv,tc,tf,Yw,Yx,Yy]
       refine⟨a1.o _ _ cz.o,?_⟩;refine bv _ _ ⟨p,pe,pA,pac,pB,pbc,V2.heap.size,?_,au ⟨b8.o,cz.o⟩⟩;simp only[Act.put,Yv,tc,tf,Yw,Yx,Yy]
      ·refine eB rfl rfl ?_;go_wp2_with fail;have bj:=au (aH ba.o aM (gO 0 0 0 0 0 0 0 none 0 0 none 0 0 ⟨#[]⟩) 62)
       try simp only[Act.put,Yv,tc,tf,Yw,Yx,Yy]
       refine⟨a1.o _ _ bj.o,?_⟩;generalize V0.alloc (.cells (gO 0 0 0 0 0 0 0 none 0 0 none 0 0 ⟨#[]⟩) 62)=V1 at *
       generalize V0.heap.size=g at *
       refine wpAnyH_all (rs:=[15]) eQ eS (fun i hi=>?_);simp only[np,sb,or_false] at hi;subst hi;refine eB rfl rfl ?_;go_wp2_with fail;refine(KW.o HF.o V1 (aq.o _ (aC aw.o bj.o.cK)) u v HU.o HV.o).mono ?_;rintro e9 V2 ⟨p,pe,pA,pac,pB,pbc,rfl,aA,hb⟩;unfold zk;have be:=au (bj.o.below aO hb);have b8:=au aA;clear aA hb
       try simp only[Act.put,Yv,tc,tf,Yw,Yx,Yy]
       have ap:=a1.o _ _ be.o;refine⟨ap,?_⟩;refine E8 16 ap ?_;refine E8 17 ap ?_;refine E8 18 ap ?_;clear ap;refine bv _ _ ⟨p,pe,pA,pac,pB,pbc,g,?_,au ⟨b8.o,be.o⟩⟩;simp only[Act.put,Yv,tc,tf,Yw,Yx,Yy]
      rintro V a9 ⟨p,pe,pA,pac,pB,pbc,gp,rfl,hH⟩;obtain⟨aA,h9⟩:=hH.o;have c1:=au aA;obtain⟨⟨z0,z1,z2,z3,z4⟩,⟨z5,z6,z7,z8,z9⟩,zf⟩:=iB h9;have bk:=au (mP h9 aM (.int .i64 p.i) (.int .i64 p.j) (.int .i64 p.kd) (.int .i64 p.l) (.int .i64 p.r) (.int .i64 p.c) (.int .i64 p.d.c) (.slice pA p.d.L.length pac) (.slice pB p.d.M.length pbc) (.string (bs p.d.F)));clear hH aA h9
      try simp only[Act.put,Yv,tc,tf,Yw,Yx,Yy]
      have ap:=a1.o _ _ bk.o;refine wpAnyH_all (rs:=[20]) eQ eS (fun i hi=>?_);simp only[np,sb,or_false] at hi;subst hi;refine eB rfl rfl ?_;go_wp2_with fail;generalize (((((((((V.setCell ⟨gp,0,none⟩ (.int .i64 p.i)).setCell ⟨gp,1,none⟩ (.int .i64 p.j)).setCell ⟨gp,2,none⟩ (.int .i64 p.kd)).setCell ⟨gp,3,none⟩ (.int .i64 p.l)).setCell ⟨gp,4,none⟩ (.int .i64 p.r)).setCell ⟨gp,5,none⟩ (.int .i64 p.c)).setCell ⟨gp,6,none⟩ (.int .i64 p.d.c)).setCell ⟨gp,7,none⟩ (.slice pA p.d.L.length pac)).setCell ⟨gp,8,none⟩ (.slice pB p.d.M.length pbc)).setCell ⟨gp,9,none⟩ (.string (bs p.d.F))=a2 at *
      clear z0 z1 z2 z3 z4 z5 z6 z7 z8 z9 zf
      try simp only[Act.put,Yv,tc,tf,Yw,Yx,Yy]
      refine wpAnyH_take (i:=21) (v:=.int .i64 pe) rfl eQ eQ eQ (fun _ _ _ h=>h) (.inl ⟨rfl,fun w' db=>by go_simp⟩) ap ?_
      try simp only[Act.put,Yv,tc,tf,Yw,Yx,Yy]
      refine wpAnyH_done eQ ?_ _;clear ap
      try dsimp only
      obtain⟨⟨q0,q1,q2,q3,q4⟩,⟨q5,q6,q7,q8,q9⟩,-⟩:=iB bk.o;have cN:=au (fun W (h:Below a2.heap.size a2 W)=>(show (Wa W gp (.int .i64 p.kd) (.int .i64 p.l) (.int .i64 p.r) (.int .i64 p.c)) from⟨aG q2 h,aG q3 h,aG q4 h,aG q5 h⟩));have c5:=au (fe a2.heap.size a2);have bf:=au (aC cv.o bk.o.cK);clear cv;have bn:=au (aC aw.o bk.o.cK);clear q0 q1 q2 q3 q4 q5 q6 q7 q8 q9 bk a1 ba aw;go_upto_region 11 with (fail);have h5:=ch.o _ _ c1.o;rcases h5 with⟨h5|⟨h5,h6⟩,h7,h8⟩
      case' inl=>have t1:(pe != 11)=false:=by simp[h5]
      case' inr=>
       have t1:(pe != 11)=true:=by simp[h5]
       have t2:(pe != 0)=false:=by simp[h5]
       have t3:¬ p.c<z.h:=by omega
       clear h6
      all_goals
       clear h5;have t4:(z.i != (i:Int))=false:=by simp[h7]
       have t5:(z.j != (j:Int))=false:=by simp[h8]
       clear h7 h8;obtain⟨-,-,-,-,-,-,-,-,-,-,-,J,-,-,-⟩:=HC.o a2.drew (bn.o.drew);obtain⟨z0,z1,z2⟩:=cX.o a2.drew (aq.o _ (bn.o.drew));obtain⟨-,-,-,p5⟩:=cN.o a2.drew (dB (fe _ _));refine aP (fun w'=>w'.cell? ⟨gp,5,none⟩=some (.int .i64 p.c)/\w'.cell? ⟨gt+1+1+1,1,none⟩=some (.slice (some ⟨aE,a3,none⟩) mm s.c)/\w'.cell? ⟨aE,a3+k*4,none⟩=some (.int .i64 z.i)/\w'.cell? ⟨aE,a3+k*4+1,none⟩=some (.int .i64 z.j)/\w'.cell? ⟨aE,a3+k*4+2,none⟩=some (.int .i64 z.h)) eQ eQ (by exact⟨p5,J,z0,z1,z2⟩) ?_;clear p5 J z0 z1 z2
       (repeat(first|refine bM ?_|refine bN ?_))
       refine lex_nil ?_;have cj:(mm:Int)<=10000:=by have:=cd.o;omega
       go_wp2_with fail
       go_roundw
       case rel=>exact⟨k+1,cR.o,by go_num,(aC cY.o bf.o).drew⟩
       case measure=>(simp[intOf]<;>omega)
     case neg=>
      have c4:¬ (k:Int)<(mm:Int):=by omega
      have bc:=au (ck.o _ HR.o);obtain⟨ai,af,ak,ad,aa,ag,ac,ab,ae,I,am,J,ao,al,an⟩:=HC.o wr bc.o;have HE:=au (aq.o _ bc.o);go_wp2;go_ret;exact aK rfl HE.o
end Go.Proofs.YtbioiclabmbedaaGreatDoor
