/- A part of the proof: lemmas. -/
import Derived.Test.YtbnnlpjpnihheaaGreatDoorME8
import Derived.Test.YtbnnlpjpnihheaaGreatDoorME7
import Derived.Test.YtbnnlpjpnihheaaGreatDoorME3
import Derived.Deep.DeepCutAuto
import Derived.Test.YtbnnlpjpnihheaaGreatDoorME2
import Derived.Test.YtbnnlpjpnihheaaGreatDoorME5
set_option maxHeartbeats 16000000
set_option maxRecDepth 100000
set_option linter.unusedSimpArgs false
set_option linter.unusedVariables false
namespace Go.Proofs.YtbnnlpjpnihheaaGreatDoor
open Go.RowKit Go.CH Go.CH.Scr Go.CH.dK
open Go.ChangeMaps (setBlock)
attribute [local go_sem] Oper.semAt_some
theorem Sg {W:Wd} {x:WA} {b bm bw bf:Nat} {F0:Nat→Prop} {w0:World} (hE:∀ W',Mod F0 w0 W'→OC W x W') (hW:OD W x) (hg:W.good) (ht:W.Cy) (hm:Fx W x) :
  ∀ (n:Nat) (s:St) (L:List (St × Int)) (X:CH.Own) (w:World),W.rank s < n→W.ok s→s.a.length≤3→Kn W L→X.Ok→Run F0 w0 (star (j5 b L) (star (vD W x b bm bw bf) X)) w →
  Calls Tryz.prog 125 #[Ra s,.pointer (some ⟨bm,0,none⟩),.pointer (some ⟨bw,0,none⟩),.pointer (some ⟨bf,0,none⟩)] w (Hw W x s L F0 w0 b bm bw bf X):=by
 intro n
 induction n with
 | zero=>intro s L X w h;exact absurd h (Nat.not_lt_zero _)
 | succ n ih =>
 intro s L X w hn hs ha hk hX hR;have IH:=hide ih;have HE:=hide hE;have HW:=hide hW;have HG:=hide hg;have HT:=hide ht;have HN:=hide hn;have HS:=hide hs;have HA:=hide ha;have HK:=hide hk;have HX:=hide hX;have HM:=hide hm;have okB:=hide (aj fu (aj oz hX):(star (j5 b L) (star (vD W x b bm bw bf) X)).Ok);have h2:Run F0 w0 (star (au w.heap.size (fq s) 175) (star (j5 b L) (star (vD W x b bm bw bf) X))) _:=aG hR okB.out (fq s) 175;have H2:=hide h2;clear ih hE hW hg ht hn hs ha hk h2 hR hm;refine (callsIn_wide (n:=8)).1 ?_;refine callsIn_of_wp_marks Tryz.func125 rfl trivial ?_ rfl;simp only [Tryz.ntmps125,List.size_toArray,List.length_cons,List.length_nil,Nat.reduceAdd,Nat.reduceSub,Array.replicate_succ,Array.replicate_zero,List.push_toArray,List.append_toArray,List.nil_append,List.cons_append];refine (wpIn_wide (n:=8)).2 ?_;unfold Ra;unfold fq;unfold fq at H2;generalize hW2:w.alloc (.cells #[.int .i64 s.i,.int .i64 s.j,.string (bs s.a),.bool s.r] 175)=w2 at *
 iterate 9 (first | go_values | go_guarded | go_step)
 clear hW2;generalize w.heap.size=gs at *
 obtain ⟨F,hF⟩:=H2.out.fst;have c0:=ay (i:=0) hF rfl;have c1:=ay (i:=1) hF rfl;have c2:=ay (i:=2) hF rfl;have c3:=ay (i:=3) hF rfl;clear hF F;obtain ⟨m0,f0,d0,d1,d2,d3⟩:=kE H2.out.drop.drop;obtain ⟨F,hF⟩:=H2.out.drop.fst;have hlk:=C8 hF s true;by_cases hin:s ∈ fV L
 ·obtain ⟨v,hv⟩:=mem_keys.1 hin;have hv2:v=W.dist s:=HK.out.val _ hv;subst hv2;rw [Hr HK.out.nd hv] at hlk;have hlk2:(Instr.lookup 172 (.map (some b)) (.agg #[.int .i64 s.i,.int .i64 s.j,.string (bs s.a),.bool s.r]) true).run Tryz.prog w2=.ok (.tuple #[.int .i64 (W.dist s),.bool true]) w2:=hlk;have HF:=hide (show Hw W x s L F0 w0 b bm bw bf X (.returned (.int .i64 (W.dist s))) w2 from ⟨L,rfl,HK.out,Ext.refl,hin,H2.out.drop⟩);clear hlk hF hv hin;go_wp2;refine ⟨_,results_tmp rfl _ _ _,?_⟩;exact HF.out
 ·rw [Po hin] at hlk;have hlk2:(Instr.lookup 172 (.map (some b)) (.agg #[.int .i64 s.i,.int .i64 s.j,.string (bs s.a),.bool s.r]) true).run Tryz.prog w2=.ok (.tuple #[.int .i64 0,.bool false]) w2:=hlk;have HIN:=hide hin;clear hlk hF hin
  iterate 56 (first | go_values | go_guarded | go_step)
  have okC:=hide (aj av okB.out:(star (au gs #[.int .i64 s.i,.int .i64 s.j,.string (bs s.a),.bool s.r] 175) (star (j5 b L) (star (vD W x b bm bw bf) X))).Ok);have H3:=hide (aG H2.out okC.out #[.int .i64 1099511627776] 3);clear H2 c0 c1 c2 c3 m0 f0 d0 d1 d2 d3 hlk2;generalize w2.alloc (.cells #[.int .i64 1099511627776] 3)=w3 at *
  generalize w2.heap.size=g8 at *
  obtain ⟨c0,c1,c2,c3,-⟩:=cB H3.out.drop;obtain ⟨m0,f0,d0,d1,d2,d3⟩:=kE H3.out.drop.drop.drop;have KD:=hide (CV (w:=w3) (W:=W) (x:=x) (s:=s));unfold aU fq at KD;rename_i Kj hKj;refine wp_seq_k ?_;intro Kc hKc;have cut:∀ (w:World) (g18 g19 g20 g21:Value),Run F0 w0 (star (au g8 #[.int .i64 (kN W s 0)] 3) (star (au gs (fq s) 175) (star (j5 b L) (star (vD W x b bm bw bf) X)))) w→Kj { tmps:=#[.agg #[.int .i64 s.i,.int .i64 s.j,.string (bs s.a),.bool s.r],.pointer (some ⟨bm,0,none⟩),.pointer (some ⟨bw,0,none⟩),.pointer (some ⟨bf,0,none⟩),.pointer (some ⟨gs,0,none⟩),.int .i64 0,.int .i64 0,.bool false,.pointer (some ⟨g8,0,none⟩),undef,undef,.tuple #[.int .i64 0,.bool false],.map (some b),.agg #[.int .i64 s.i,.int .i64 s.j,.string (bs s.a),.bool s.r],.tuple #[.int .i64 0,.bool false],.int .i64 0,.bool false,.bool false,g18,g19,g20,g21,undef,undef,undef,undef,undef,undef,undef,undef,undef,undef,undef,undef,undef,undef,undef,undef,undef],defers:=[] } w:=by
   intro w g18 g19 g20 g21 hR;have HR:=hide hR;refine hKj _ _ ?_;clear hKj hKc Kc Kj hR H3 KD c0 c1 c2 c3 m0 f0 d0 d1 d2 d3;have okO:=hide (aj av okC.out:(star (au g8 #[.int .i64 (kN W s 0)] 3) (star (au gs #[.int .i64 s.i,.int .i64 s.j,.string (bs s.a),.bool s.r] 175) (star (j5 b L) (star (vD W x b bm bw bf) X)))).Ok);obtain ⟨c0,c1,c2,c3,-⟩:=cB (HR.out.drop:Run F0 w0 (star (au gs #[.int .i64 s.i,.int .i64 s.j,.string (bs s.a),.bool s.r] 175) _) w);obtain ⟨m0,f0,d0,d1,d2,d3⟩:=kE HR.out.drop.drop.drop;have KM:=hide (xI (W:=W) (x:=x) (s:=s) w);unfold aU fq at KM;go_wp2_with fail;refine KM.out.mono ?_;rintro e9 w9 ⟨b1,b2,rfl,hp⟩;have S1:=hide (HR.out.fresh okO.out hp);clear HR KM hp c0 c1 c2 c3 m0 f0 d0 d1 d2 d3;go_wp2_with fail;have HIT:=hide (vC (W:=W) (s:=s) (x:=x) (b1:=b1) (b2:=b2) HS.out HW.out (Nat.le_trans HA.out (by omega)));have okI:∀ i,(nE fun L':List (St × Int)=>xw (Q9 W s L i L') (star (au g8 #[.int .i64 (kN W s i)] 3) (star (au gs (fq s) 175) (star (j5 b L') (star (vD W x b bm bw bf) X))))).Ok:=fun i=>cO fun L'=>iE (aj av (aj av (aj fu (aj oz HX.out))));have okI2:∀ (i:Nat) (a':Act),(nE fun L':List (St × Int)=>nE fun g9:Nat=>nE fun g10:Nat=>nE fun y:RA × St=>xw (Q9 W s L i L'∧(bP W x s)[i]?=some y∧a'={ tmps:=#[.agg #[.int .i64 s.i,.int .i64 s.j,.string (bs s.a),.bool s.r],.pointer (some ⟨bm,0,none⟩),.pointer (some ⟨bw,0,none⟩),.pointer (some ⟨bf,0,none⟩),.pointer (some ⟨gs,0,none⟩),.int .i64 0,.int .i64 0,.bool false,.pointer (some ⟨g8,0,none⟩),.pointer (some ⟨g9,0,none⟩),.pointer (some ⟨g10,0,none⟩),.tuple #[.int .i64 0,.bool false],.map (some b),.agg #[.int .i64 s.i,.int .i64 s.j,.string (bs s.a),.bool s.r],.tuple #[.int .i64 0,.bool false],.int .i64 0,.bool false,.bool false,g18,g19,g20,g21,.agg #[.slice x.a.L W.l.length x.a.lc,.slice x.a.R x.a.q.length x.a.rc,.slice x.b.L W.m.length x.b.lc,.slice x.b.R x.b.q.length x.b.rc],.agg #[.int .i64 s.i,.int .i64 s.j,.string (bs s.a),.bool s.r],Tz b1 b2,.agg (bN y.1).toArray,.agg (fq y.2),undef,undef,undef,undef,undef,undef,undef,undef,undef,undef,undef,undef],defers:=[] }) (star (au g10 (fq y.2) 175) (star (au g9 (bN y.1).toArray 181) (star (au g8 #[.int .i64 (kN W s i)] 3) (star (au gs (fq s) 175) (star (j5 b L') (star (vD W x b bm bw bf) X))))))).Ok:=fun i a'=>cO fun L'=>cO fun g9=>cO fun g10=>cO fun y=>iE (aj av (aj av (aj av (aj av (aj fu (aj oz HX.out))))));have hst:Run F0 w0 (star (Zw W x s b1 b2) (nE fun L':List (St × Int)=>xw (Q9 W s L 0 L') (star (au g8 #[.int .i64 (kN W s 0)] 3) (star (au gs (fq s) 175) (star (j5 b L') (star (vD W x b bm bw bf) X)))))) w9:=(Run.qW L (Run.jF (LX HK.out) S1.out.swap)).swap;refine mZ (gf:=126) (lb:=#[.pointer (some ⟨b1,0,none⟩),.pointer (some ⟨b2,0,none⟩)]) rfl (enters_of Tryz.func126 (by kernel_rfl) rfl) HIT.out jr (fun _=>rfl) HE.out _ (fun _=>TT) okI _ okI2 (fun _=>Ma) hst ?_ ?_ ?_ ?_
   ·intro lo m i hi R W1 K hR hI hK;obtain ⟨L',h1⟩:=hI.ex;obtain ⟨hkn,h2⟩:=h1.pure;have ok2:(star (star (au g8 #[.int .i64 (kN W s i)] 3) (star (au gs (fq s) 175) (star (j5 b L') (star (vD W x b bm bw bf) X)))) R).Ok:=aj (aj av (aj av (aj fu (aj oz HX.out)))) hR;have h3:=aG h2 ok2 (bN (bP W x s)[i].1).toArray 181;have h4:=aG h3 (aj av ok2) (fq (bP W x s)[i].2) 175;rw [World.size_alloc] at h4;have HF:=hide (hK { tmps:=#[.agg #[.int .i64 s.i,.int .i64 s.j,.string (bs s.a),.bool s.r],.pointer (some ⟨bm,0,none⟩),.pointer (some ⟨bw,0,none⟩),.pointer (some ⟨bf,0,none⟩),.pointer (some ⟨gs,0,none⟩),.int .i64 0,.int .i64 0,.bool false,.pointer (some ⟨g8,0,none⟩),.pointer (some ⟨W1.heap.size,0,none⟩),.pointer (some ⟨W1.heap.size+1,0,none⟩),.tuple #[.int .i64 0,.bool false],.map (some b),.agg #[.int .i64 s.i,.int .i64 s.j,.string (bs s.a),.bool s.r],.tuple #[.int .i64 0,.bool false],.int .i64 0,.bool false,.bool false,g18,g19,g20,g21,.agg #[.slice x.a.L W.l.length x.a.lc,.slice x.a.R x.a.q.length x.a.rc,.slice x.b.L W.m.length x.b.lc,.slice x.b.R x.b.q.length x.b.rc],.agg #[.int .i64 s.i,.int .i64 s.j,.string (bs s.a),.bool s.r],Tz b1 b2,.agg (bN (bP W x s)[i].1).toArray,.agg (fq (bP W x s)[i].2),undef,undef,undef,undef,undef,undef,undef,undef,undef,undef,undef,undef],defers:=[] } _ (Run.qW L' (Run.qW W1.heap.size (Run.qW (W1.heap.size+1) (Run.qW (bP W x s)[i] (Run.jF ⟨hkn,List.getElem?_eq_getElem hi,rfl⟩ (h4.perm (by ac_rfl))))))));clear hI h1 h2 h3 h4 hK hkn ok2;unfold Fu;generalize (bP W x s)[i]=y at *
    obtain ⟨⟨⟨yx,yc,yf,yt⟩,yA,yn⟩,⟨xi,xj,xa,xr⟩⟩:=y;unfold fq bN;unfold fq bN at HF;dsimp only at HF;dsimp only;gi_wp2;exact HF.out
   ·intro lo m i hi a' R W1 hR hI;obtain ⟨L',h1⟩:=hI.ex;obtain ⟨g9,h1⟩:=h1.ex;obtain ⟨g10,h1⟩:=h1.ex;obtain ⟨y,h1⟩:=h1.ex;obtain ⟨⟨hkn,hx,rfl⟩,h2⟩:=h1.pure;have hye:(bP W x s)[i]=y:=by rw [List.getElem?_eq_getElem hi] at hx;injection hx
    have hi2:i < (W.moves s).length:=by rw [Da HM.out HS.out];exact hi
    have hxe:(W.moves s)[i]=(y.1.r.c,y.2):=by rw [Pz HM.out HS.out hi hi2,hye]
    have hmem:(y.1.r.c,y.2) ∈ W.moves s:=by rw [←hxe];exact List.getElem_mem hi2
    have hmo:=dS HS.out hmem;have hgc:=jI HG.out hmem;have hd0:=iX HG.out hmo.1;have hd1:=mR hmo.1;have hm0:=LW HG.out HS.out i;have hm1:=Pk (W:=W) (s:=s) (i:=i);have okY:(star (au g10 (fq y.2) 175) (star (au g9 (bN y.1).toArray 181) (star (au g8 #[.int .i64 (kN W s i)] 3) (star (au gs (fq s) 175) (star X R))))).Ok:=aj av (aj av (aj av (aj av (aj HX.out hR))));have h3:=(h2.perm (by ac_rfl):Run F0 w0 (star (j5 b L') (star (vD W x b bm bw bf) (star (au g10 (fq y.2) 175) (star (au g9 (bN y.1).toArray 181) (star (au g8 #[.int .i64 (kN W s i)] 3) (star (au gs (fq s) 175) (star X R))))))) W1).drew (aj fu (aj oz okY));have KI:=hide (IH.out y.2 L' _ W1.drew (by have:=HN.out;have:=hmo.2;omega) hmo.1 (xu HT.out HA.out hmem) hkn.kn okY h3);obtain ⟨m0,f0,d0,d1,d2,d3⟩:=kE h3.drop;obtain ⟨y0,y1,y2,y3,-⟩:=cB (h3.drop.drop:Run F0 w0 (star (au g10 #[.int .i64 y.2.i,.int .i64 y.2.j,.string (bs y.2.a),.bool y.2.r] 175) _) _);obtain ⟨F9,hF9⟩:=h3.drop.drop.drop.fst;have e9:W1.drew.cell? ⟨g9,1,none⟩=some (.int .i64 y.1.r.c):=ay (i:=1) hF9 rfl;obtain ⟨F7,hF7⟩:=h3.drop.drop.drop.drop.fst;have e7:=ay (i:=0) hF7 rfl;have HSU:=hide (Jt hi2);have HKS:=hide (fun L'' h1 h2 h3=>LY (L'':=L'') hi2 hkn h1 (by rw [hxe];exact h2) (by rw [hxe];exact h3));rw [hxe] at HSU;unfold Hw at KI;have HOY:=hide okY;have HRR:=hide hR;clear hI h1 h2 h3 hkn hx hxe hye hmem hmo hF7 hF9 okY hR hi hi2;obtain ⟨⟨⟨yx,yc,yf,yt⟩,yA,yn⟩,⟨xi,xj,xa,xr⟩⟩:=y;simp only [bN] at KI HOY HSU HKS hgc hd0 hd1 e9 y0 y1 y2 y3;generalize W.dist ⟨xi,xj,xa,xr⟩=dd at *
    generalize kN W s i=mm at *
    unfold Ra fq at KI;unfold fq bN;simp only at *
    unfold Py at f0;refine wpIn_block ?_;refine lQ [5,8] [1,1,1,0,0,1,1,1,2] (fun w'=>w'=W1.drew) [fun w'=>w'.cell? ⟨g8,0,none⟩=some (.int .i64 mm)∧w'.cell? ⟨g9,1,none⟩=some (.int .i64 yc)] ⟨fun w h=>by rw [h];exact ⟨e7,e9⟩,trivial⟩ rfl (fun ⟨a,w,h⟩=>h) rfl (by kernel_rfl) (by kernel_rfl) (by kernel_rfl) rfl ?_;generalize W1.drew=W2 at *
    (repeat (first | (refine fG (by rfl) (by rfl) ?_;try simp only [Act.put,List.setIfInBounds_toArray,List.set_cons_zero,List.set_cons_succ]) | (refine dW (v:=?_) (by rfl) (by rfl) ?_ ?_;rotate_left;(focus (intro w' hS';(try simp only [xM] at hS');go_simp;(try with_reducible rfl);done));try simp only [Act.put,List.setIfInBounds_toArray,List.set_cons_zero,List.set_cons_succ])))
    refine dO rfl (by rfl) (fun K hK=>?_);go_wp2_with fail;refine KI.out.mono ?_;rintro e9' w9 ⟨L'',rfl,k1,k2,k3,hR9⟩;have hR9':=(hR9.perm (by unfold fq;ac_rfl):Run F0 w0 (star (au g8 #[.int .i64 mm] 3) (star (star (au gs (fq s) 175) (star (j5 b L'') (star (vD W x b bm bw bf) X))) (star (au g10 #[.int .i64 xi,.int .i64 xj,.string (bs xa),.bool xr] 175) (star (au g9 #[.int .i64 (yx:Nat),.int .i64 yc,.slice yA yf.length yn,.string (bs yt)] 181) R)))) w9);have okZ:(star (star (au gs (fq s) 175) (star (j5 b L'') (star (vD W x b bm bw bf) X))) (star (au g10 #[.int .i64 xi,.int .i64 xj,.string (bs xa),.bool xr] 175) (star (au g9 #[.int .i64 (yx:Nat),.int .i64 yc,.slice yA yf.length yn,.string (bs yt)] 181) R))).Ok:=aj (aj av (aj fu (aj oz HX.out))) (aj av (aj av HRR.out));obtain ⟨F7,hF7⟩:=hR9'.fst;have q7:=ay (i:=0) hF7 rfl;have p7:=aJ hF7 0;obtain ⟨F9,hF9⟩:=(hR9'.drop.drop.drop).fst;have q9:w9.cell? ⟨g9,1,none⟩=some (.int .i64 yc):=ay (i:=1) hF9 rfl;have H9:=hide (aH hR9' okZ 0 (.int .i64 (min mm (yc+dd))));have HK2:=hide (HKS.out L'' k1 k2 k3);refine hK.out _ _ ⟨q7,q9⟩ ?_;clear hK KI hF7 hF9 hR9 hR9' k1 k2 k3 HKS okZ y0 y1 y2 y3 e7 e9 d0 d1 d2 d3 m0 f0
    (repeat (first | (refine fG (by rfl) (by rfl) ?_;try simp only [Act.put,List.setIfInBounds_toArray,List.set_cons_zero,List.set_cons_succ]) | (refine dW (v:=?_) (by rfl) (by rfl) ?_ ?_;rotate_left;(focus (intro w' hS';(try simp only [xM] at hS');go_simp;(try with_reducible rfl);done));try simp only [Act.put,List.setIfInBounds_toArray,List.set_cons_zero,List.set_cons_succ])))
    refine dO rfl (by rfl) (fun K hK=>?_);go_wp2;have hwr:wrap64 (yc+dd)=yc+dd:=by
     unfold never at hd1;exact IntWalk.wrap64_in (yc+dd) (by omega)
    rw [hwr];refine hK.out _ _ trivial (sD ?_);have hfin:Run F0 w0 (star (nE fun L':List (St × Int)=>xw (Q9 W s L (i+1) L') (star (au g8 #[.int .i64 (kN W s (i+1))] 3) (star (au gs (fq s) 175) (star (j5 b L') (star (vD W x b bm bw bf) X))))) R) (w9.setCell ⟨g8,0,none⟩ (.int .i64 (min mm (yc+dd)))):=by
     refine Run.qW L'' (Run.jF HK2.out ?_);rw [HSU.out];exact (H9.out.perm (by ac_rfl):Run F0 w0 (star (au g9 #[.int .i64 (yx:Nat),.int .i64 yc,.slice yA yf.length yn,.string (bs yt)] 181) (star (au g10 #[.int .i64 xi,.int .i64 xj,.string (bs xa),.bool xr] 175) (star (star (au g8 #[.int .i64 (min mm (yc+dd))] 3) (star (au gs (fq s) 175) (star (j5 b L'') (star (vD W x b bm bw bf) X)))) R))) _).drop.drop
    exact hfin
   ·intro D R W1 hR hI;obtain ⟨L',h1⟩:=hI.ex;obtain ⟨hkn,h2⟩:=h1.pure;rw [←Da HM.out HS.out] at hkn h2;obtain ⟨k1,k2,k3,k4⟩:=Pm hkn HS.out HIN.out;rw [LV HS.out] at h2;have okY:(star (bE D (.deferred (some []))) (star (au g8 #[.int .i64 (W.dist s)] 3) (star (au gs (fq s) 175) (star (vD W x b bm bw bf) (star X R))))).Ok:=aj bH (aj av (aj av (aj oz (aj HX.out hR))));have h3:=(h2.perm (by ac_rfl):Run F0 w0 (star (j5 b L') (star (bE D (.deferred (some []))) (star (au g8 #[.int .i64 (W.dist s)] 3) (star (au gs (fq s) 175) (star (vD W x b bm bw bf) (star X R)))))) W1);obtain ⟨c0,c1,c2,c3,-⟩:=cB (h3.drop.drop.drop:Run F0 w0 (star (au gs #[.int .i64 s.i,.int .i64 s.j,.string (bs s.a),.bool s.r] 175) _) W1);obtain ⟨m0,f0,d0,d1,d2,d3⟩:=kE h3.drop.drop.drop.drop;obtain ⟨F7,hF7⟩:=h3.drop.drop.fst;have e7:=ay (i:=0) hF7 rfl;obtain ⟨FM,hFM,-,bk⟩:=h3.take fu okY;obtain ⟨w',hup,hpost⟩:=oQ uN Tryz.underlying172 hFM s (.int .i64 (W.dist s));have h4:=bk _ _ hpost;have emp:jW (L'.map fun p=>(p.1,Value.int .i64 p.2)) s (.int .i64 (W.dist s))=(L' ++ [(s,W.dist s)]).map fun p=>(p.1,Value.int .i64 p.2):=by
     rw [qh (by rw [List.map_map];exact k4),List.map_append];rfl
    rw [emp] at h4;have H4:=hide (show Run F0 w0 (star (j5 b (L' ++ [(s,W.dist s)])) _) w' from h4);obtain ⟨F8,hF8⟩:=h4.drop.drop.fst;have e8:=ay (i:=0) hF8 rfl;obtain ⟨FD,hD,-,bk2⟩:=(H4.out.mh).take bH (aj fu (aj av (aj av (aj oz (aj HX.out hR)))));have HD:=hide hD.1;have h5:=(bk2 _ _ (iy hD (.deferred none))).perm (by ac_rfl:_=star (star (bE D (.deferred none)) (star (au g8 #[.int .i64 (W.dist s)] 3) (star (au gs (fq s) 175) R))) (star (j5 b (L' ++ [(s,W.dist s)])) (star (vD W x b bm bw bf) X)));have HF:=hide (show Hw W x s L F0 w0 b bm bw bf X (.returned (.int .i64 (W.dist s))) (w'.putObj D (.deferred none)) from ⟨_,rfl,k1,k2,k3,h5.drop⟩);unfold Ra fq at hup;clear hI h1 h2 h3 h4 h5 hkn k1 k2 k3 k4 okY hF7 hF8 hFM bk hpost emp H4 hD bk2 hR;go_wp2_with fail;refine ⟨by simp,.inl ⟨_,_,rfl,run_takeDeferred HD.out,?_⟩⟩;refine ⟨_,results_tmp rfl _ _ _,?_⟩;exact HF.out
   ·intro D c R W1 hR hI;exact hI.no.elim
  have HC:=hide cut;clear cut;have HKj:=hide hKj;have HKc:=hide hKc;clear hKj hKc;go_wp2_with fail;refine KD.out.mono ?_;rintro e9 w5 ⟨rfl,hb⟩;have H5:=hide (H3.out.below (aj av okC.out) hb);clear H3 hb KD c0 c1 c2 c3 m0 f0 d0 d1 d2 d3;rw [C9 HS.out];dsimp only
  iterate 2 (first | go_values | go_guarded | go_step)
  refine HKc.out _ _ ?_;by_cases hfin:s=W.fin
  ·rw [decide_eq_true hfin];have HM0:=hide (show kN W s 0=0 from by rw [zO,if_pos hfin]);clear hfin;obtain ⟨F7,hF7⟩:=H5.out.fst;have e7:=ay (i:=0) hF7 rfl;have f7:=aJ hF7 0;clear hF7 F7;go_wp2;refine HC.out _ _ _ _ _ ?_;rw [HM0.out];exact aH H5.out okC.out 0 (.int .i64 0)
  ·rw [decide_eq_false hfin];have HM0:=hide (show kN W s 0=1099511627776 from by rw [zO,if_neg hfin];rfl);clear hfin;go_wp2;refine HC.out _ _ _ _ _ ?_;rw [HM0.out];exact H5.out
end Go.Proofs.YtbnnlpjpnihheaaGreatDoor
namespace Go.Proofs.YtbnnlpjpnihheaaGreatDoor
open Go.RowKit Go.CH Go.CH.Scr Go.CH.dK
open Go.ChangeMaps (setBlock)
attribute [local go_sem] Oper.semAt_some
theorem Bo {P:Program} {w:World} {a:Addr} {m:Mode} (fn:Fn) (first captured:Array Value):(store a (.func fn first captured) m).run P w=stored P w a (.func fn first captured) m:=run_store P w a _ m rfl
attribute [local go_sem] Bo

def Db (W:Wd) (w:World) (e:Ending) (w':World):Prop:=∃ b L,e=.returned (.map (some b))∧Kn W L∧st0 ∈ fV L∧Post w (fun _=>False) (j5 b L) w'
theorem JE {W:Wd} {x:WA} {w:World} (hP:OC W x w) (hS:OD W x) (hg:W.good) (ht:W.Cy) (hm:Fx W x):Calls Tryz.prog 96 #[.agg (aU W x)] w (Db W w):=by
 have r1:=aG (Run.begin w) aB (aU W x) 169;have r2:Run (fun _=>False) w (star (j5 (w.heap.size+1) []) (star (au w.heap.size (aU W x) 169) emp)) ((w.alloc (.cells (aU W x) 169)).alloc (.map #[] 0)):=by
  have:=r1.fresh (aj av aB) (lK (kv:=Ra) (w.alloc (.cells (aU W x) 169)));rw [World.size_alloc] at this;exact this
 have r3:=aG r2 (aj fu (aj av aB)) #[.map (some (w.heap.size+1))] 172;have r4:=aG r3 (aj av (aj fu (aj av aB))) #[Value.nilFunc] 213;have e2:((w.alloc (.cells (aU W x) 169)).alloc (.map #[] 0)).heap.size=w.heap.size+1+1:=by rw [World.size_alloc,World.size_alloc]
 rw [World.size_alloc,e2] at r4;have R4:=hide r4;have KW:=hide (fun w9 hR=>Sg (W:=W) (x:=x) (b:=w.heap.size+1) (bm:=w.heap.size+1+1) (bw:=w.heap.size) (bf:=w.heap.size+1+1+1) (F0:=fun _=>False) (w0:=w) (fun W' hm=>hP.below (hm.below (fun _ _ h=>h))) hS hg ht hm (W.rank st0+1) st0 [] emp w9 (Nat.lt_succ_self _) ok0 (Nat.zero_le _) Sb aB hR);have hmk:∀ w:World,(Instr.makeMap 172 none).run Tryz.prog w=.ok (.map (some w.heap.size)) (w.alloc (.map #[] 0)):=fun w=>by kernel_rfl
 clear r1 r2 r3 r4 e2 hP hS hg ht hm;unfold aU at R4 ⊢;unfold Ra st0 fq at KW;dsimp only at KW
 go_enter Tryz.func96,Tryz.ntmps96
 go_upto_region 3 with (fail);generalize (((w.alloc (.cells #[.slice x.a.L W.l.length x.a.lc,.slice x.a.R x.a.q.length x.a.rc,.slice x.b.L W.m.length x.b.lc,.slice x.b.R x.b.q.length x.b.rc] 169)).alloc (.map #[] 0)).alloc (.cells #[.map (some (w.heap.size+1))] 172)).alloc (.cells #[Value.nilFunc] 213)=w4 at *
 generalize w.heap.size+1+1+1=bf at *
 generalize w.heap.size+1+1=bm at *
 generalize w.heap.size+1=b at *
 generalize w.heap.size=bw at *
 obtain ⟨F,hF⟩:=R4.out.fst;have e4:=ay (i:=0) hF rfl;have f4:=aJ hF 0;clear hF F;go_upto_region 4 with (fail);have R5:=hide (show Run (fun _=>False) w (star (au bf #[Py bm bw bf] 213) _) (w4.setCell ⟨bf,0,none⟩ (.func (.func 125) #[] #[.pointer (some ⟨bm,0,none⟩),.pointer (some ⟨bw,0,none⟩),.pointer (some ⟨bf,0,none⟩)])) from aH R4.out (aj av (aj fu (aj av aB))) 0 (Py bm bw bf));clear R4 e4 f4;generalize w4.setCell ⟨bf,0,none⟩ (.func (.func 125) #[] #[.pointer (some ⟨bm,0,none⟩),.pointer (some ⟨bw,0,none⟩),.pointer (some ⟨bf,0,none⟩)])=w5 at *
 obtain ⟨F,hF⟩:=R5.out.fst;have e5:=ay (i:=0) hF rfl;unfold Py at e5;clear hF F;have KF:=hide (KW.out w5 (R5.out.perm (by unfold vD aU;ac_rfl:_=star (j5 b []) (star (vD W x b bm bw bf) emp))));clear KW R5;go_wp2_with fail;refine KF.out.mono ?_;rintro e9 w9 ⟨L,rfl,hkn,hext,hmem,hR⟩;have R6:=hide hR;have HKN:=hide hkn;have HMEM:=hide hmem;obtain ⟨m0,-⟩:=kE hR.drop;have HF:=hide (show Db W w (.returned (.map (some b))) w9 from ⟨b,L,rfl,hkn,hmem,(hR.swap.drop).post fu⟩);clear R6 HKN HMEM hkn hext hmem hR KF;go_wp2;go_ret;exact HF.out
end Go.Proofs.YtbnnlpjpnihheaaGreatDoor
namespace Go.CH
open Go.RowKit
def MR (D:Nat):Deferred:={ target:=.collected D,args:=#[] }
def dG (Ds:List Nat):Own:=aN (Ds.map fun D=>bE D (.deferred (some [])))
theorem jX {Ds:List Nat}:(dG Ds).Ok:=oU (fun A hA=>by obtain ⟨z,_,rfl⟩:=List.mem_map.1 hA;exact bH)
theorem FX (D:Nat) (Ds:List Nat):dG (D :: Ds)=star (bE D (.deferred (some []))) (dG Ds):=rfl
theorem sK {P:Program} {fn:Func} {tmps:Array Value} {R:Ending→World→Prop} {n:Nat} {F0:Nat→Prop} {w0:World} {X:Own} (hX:X.Ok)
  (hbase:∀ W,Run F0 w0 X W→∃ v,(results fn tmps).run P W=.ok v W∧R (.returned v) W):∀ (Ds:List Nat) (W:World),Run F0 w0 (star (dG Ds) X) W→LeavesInM Fence.wide n P fn tmps R (Ds.map MR) .returning W
 | [],W,h=>hbase W h.drop
 | D :: Ds,W,h=>by
  have h1:Run F0 w0 (star (bE D (.deferred (some []))) (star (dG Ds) X)) W:=h.perm (by unfold dG;rw [List.map_cons];show star (star _ _) _=_;ac_rfl);obtain ⟨F,hD,-,bk⟩:=h1.take bH (aj jX hX);refine ⟨by simp,.inl ⟨_,_,rfl,run_takeDeferred hD.1,?_⟩⟩;exact sK hX hbase Ds _ (bk _ _ (iy hD (.deferred none))).drop
theorem Sy (tm:Array Value) (n:Nat) (h:tm.size=n):tm=((List.range n).map fun i=>tm.getD i undef).toArray:=by
 refine Array.ext (by simp [h]) fun i h1 h2=>?_;simp [h1]
end Go.CH
namespace Go.Proofs.YtbnnlpjpnihheaaGreatDoor
open Go.RowKit Go.CH Go.CH.Scr Go.CH.dK
open Go.ChangeMaps (setBlock)

def bC (A:Option Addr) (c:Nat) (l:List Int):CH.Own:=aS 3 1 (.slice A l.length c) l.length (l.map (Value.int .i64))
theorem bU {A:Option Addr} {c:Nat} {l:List Int}:(bC A c l).Ok:=bA
theorem rY (w:World):bC none 0 [] w (fun _=>False):=fH w 3 1
theorem Rb:dh Tryz.prog 40 3 (.int .i64 0) 1 8:=⟨Tryz.underlying40,by kernel_rfl,by decide,by decide⟩
theorem Mw {A:Option Addr} {c:Nat} {l:List Int} {x:Int}:aS 3 1 (.slice A (l.length+1) c) (l.length+1) (l.map (Value.int .i64) ++ [Value.int .i64 x])=bC A c (l ++ [x]):=by
 unfold bC;rw [List.map_append,List.length_append,List.length_singleton,List.map_cons,List.map_nil]
theorem Mx {F0:Nat→Prop} {w0 W:World} {Y:CH.Own} {o:Oper} {a:Act} {K:Act→World→Prop} {Q:Exit→Act→World→Prop} (s x:Operand)
  (ho:o.op=.call { callee:=.builtin .append,args:=#[s,x],argTypes:=#[40,40] }) {A:Option Addr} {c n g:Nat} {l:List Int} (p:Int) (hl:l.length=n) (hsv:a.eval s=.slice A n c) (hx:a.eval x=.slice (some ⟨g,0,none⟩) 1 1) (hn:n≤1000000) (hY:Y.Ok)
  (h:Run F0 w0 (star (bC A c l) Y) W) (hg:W.cell? ⟨g,0,none⟩=some (.int .i64 p))
  (hK:∀ A' c' w',Run F0 w0 (star (bC A' c' (l ++ [p])) Y) w'→K (a.put o.dst (.slice A' (n+1) c')) w'):o.wp Tryz.prog a W K Q:=by
 subst hl;obtain ⟨F7,hR7,-,bk7⟩:=h.take bU hY;have hsrc:Src W (some ⟨g,0,none⟩) 1 1 [Value.int .i64 p]:=by
  refine ⟨rfl,fun u hu=>by rw [List.mem_singleton.1 hu];rfl,fun _=>⟨_,rfl,fun j u hu=>?_⟩⟩;cases j with
  | zero =>
   have e:u=.int .i64 p:=by simpa using hu.symm
   rw [e];exact hg
  | succ j=>simp at hu
 refine wh s x ho Rb _ 0 (v:=.slice A l.length c) (n:=l.length) (xs:=l.map (Value.int .i64)) hsv hR7.1 (A:=some ⟨g,0,none⟩) (m:=1) (c:=1) (news:=[Value.int .i64 p]) hx hsrc (by unfold maxLen;omega) (by omega) (Nat.zero_le _) ?_;intro v8 w8 ho8 hg8 hv8;have S8:=bk7 _ _ (iA hR7 ho8 hg8 hv8);obtain ⟨A8,c8,rfl⟩:=gy ho8;rw [Mw] at S8;exact hK A8 c8 w8 S8
theorem Si (a b:ByteArray):bl (a ++ b)=bl a ++ bl b:=by
 obtain ⟨a⟩:=a;obtain ⟨b⟩:=b
 show (ByteArray.mk a ++ ByteArray.mk b).data.toList=a.toList ++ b.toList
 rw [ByteArray.data_append];simp
theorem MB (a b:Bs):bs (a ++ b)=bs a ++ bs b:=ET (by rw [Si,gQ,gQ,gQ])

structure DD where
 A:Option Addr
 ac:Nat
 l:List Int
 B:Option Addr
 bc:Nat
 m:List Int
 f:Bs
def y9 (c:Int) (q:DD):Array Value:=#[.int .i64 c,.slice q.A q.l.length q.ac,.slice q.B q.m.length q.bc,.string (bs q.f)]

def nQ (W:Wd) (x:WA) (b:Nat) (L:List (St × Int)) (c:Int) (g12 g14 g15 g16:Nat) (s:St) (q:DD) (Ds:List Nat):CH.Own :=
 star (au g15 (fq s) 175) (star (au g16 (y9 c q) 42) (star (bC q.A q.ac q.l) (star (bC q.B q.bc q.m) (star (au g14 #[.map (some b)] 172) (star (au g12 (aU W x) 169) (star (j5 b L) (dG Ds)))))))
theorem oC {W:Wd} {x:WA} {b:Nat} {L:List (St × Int)} {c:Int} {g12 g14 g15 g16:Nat} {s:St} {q:DD} {Ds:List Nat}:(nQ W x b L c g12 g14 g15 g16 s q Ds).Ok :=
 aj av (aj av (aj bU (aj bU (aj av (aj av (aj fu jX))))))
theorem iw {W:Wd} {x:WA} {b:Nat} {L:List (St × Int)} {c:Int} {g12 g14 g15 g16:Nat} {s:St} {q:DD} {Ds:List Nat} {F:Nat→Prop} {w1 w:World} {R:CH.Own} (h:Run F w1 (star (nQ W x b L c g12 g14 g15 g16 s q Ds) R) w) :
  (w.cell? ⟨g15,0,none⟩=some (.int .i64 s.i)∧w.cell? ⟨g15,1,none⟩=some (.int .i64 s.j)∧w.cell? ⟨g15,2,none⟩=some (.string (bs s.a))∧w.cell? ⟨g15,3,none⟩=some (.bool s.r)) ∧
  (w.cell? ⟨g16,0,none⟩=some (.int .i64 c)∧w.cell? ⟨g16,1,none⟩=some (.slice q.A q.l.length q.ac)∧w.cell? ⟨g16,2,none⟩=some (.slice q.B q.m.length q.bc)∧w.cell? ⟨g16,3,none⟩=some (.string (bs q.f))) ∧
  w.cell? ⟨g14,0,none⟩=some (.map (some b)) ∧
  (w.cell? ⟨g12,0,none⟩=some (.slice x.a.L W.l.length x.a.lc)∧w.cell? ⟨g12,1,none⟩=some (.slice x.a.R x.a.q.length x.a.rc)∧w.cell? ⟨g12,2,none⟩=some (.slice x.b.L W.m.length x.b.lc)∧w.cell? ⟨g12,3,none⟩=some (.slice x.b.R x.b.q.length x.b.rc)) ∧
  (∃ F',j5 b L w F')∧(∀ i,w.frozen? ⟨g15,i,none⟩=false)∧(∀ i,w.frozen? ⟨g16,i,none⟩=false):=by
 obtain ⟨f1,h1⟩:=(h.perm (by unfold nQ;ac_rfl:_=star (au g15 (fq s) 175) (star (star (au g16 (y9 c q) 42) (star (bC q.A q.ac q.l) (star (bC q.B q.bc q.m) (star (au g14 #[.map (some b)] 172) (star (au g12 (aU W x) 169) (star (j5 b L) (dG Ds))))))) R))).fst;obtain ⟨f2,h2⟩:=(h.perm (by unfold nQ;ac_rfl:_=star (au g16 (y9 c q) 42) (star (star (au g15 (fq s) 175) (star (bC q.A q.ac q.l) (star (bC q.B q.bc q.m) (star (au g14 #[.map (some b)] 172) (star (au g12 (aU W x) 169) (star (j5 b L) (dG Ds))))))) R))).fst;obtain ⟨f3,h3⟩:=(h.perm (by unfold nQ;ac_rfl:_=star (au g14 #[.map (some b)] 172) (star (star (au g15 (fq s) 175) (star (bC q.A q.ac q.l) (star (bC q.B q.bc q.m) (star (au g16 (y9 c q) 42) (star (au g12 (aU W x) 169) (star (j5 b L) (dG Ds))))))) R))).fst;obtain ⟨f4,h4⟩:=(h.perm (by unfold nQ;ac_rfl:_=star (au g12 (aU W x) 169) (star (star (au g15 (fq s) 175) (star (bC q.A q.ac q.l) (star (bC q.B q.bc q.m) (star (au g16 (y9 c q) 42) (star (au g14 #[.map (some b)] 172) (star (j5 b L) (dG Ds))))))) R))).fst;obtain ⟨f5,h5⟩:=(h.perm (by unfold nQ;ac_rfl:_=star (j5 b L) (star (star (au g15 (fq s) 175) (star (bC q.A q.ac q.l) (star (bC q.B q.bc q.m) (star (au g16 (y9 c q) 42) (star (au g14 #[.map (some b)] 172) (star (au g12 (aU W x) 169) (dG Ds))))))) R))).fst;exact ⟨⟨ay h1 rfl,ay h1 rfl,ay h1 rfl,ay h1 rfl⟩,⟨ay h2 rfl,ay h2 rfl,ay h2 rfl,ay h2 rfl⟩,ay h3 rfl,⟨ay h4 rfl,ay h4 rfl,ay h4 rfl,ay h4 rfl⟩,⟨f5,h5⟩,fun i=>aJ h1 i,fun i=>aJ h2 i⟩

def Sj (W:Wd) (s:St) (l m:List Int) (f:Bs):Prop:=∃ n,W.rank s≤n∧W.dV (W.rank st0) st0=(l ++ (W.dV n s).1,m ++ (W.dV n s).2.1,f ++ (W.dV n s).2.2)
theorem JF {W:Wd}:Sj W st0 [] [] []:=⟨_,Nat.le_refl _,rfl⟩
theorem PD {W:Wd} {s:St} {l m:List Int} {f:Bs} (h:Sj W s l m f) (hf:s=W.fin):W.dV (W.rank st0) st0=(l,m,f):=by
 obtain ⟨n,-,h⟩:=h;have e:W.dV n s=([],[],[]):=by
  cases n with
  | zero=>rfl
  | succ n=>unfold Wd.dV;rw [if_pos hf]
 rw [e,List.append_nil,List.append_nil,List.append_nil] at h;exact h
theorem MC {W:Wd} {s s':St} {r:AR} {l m:List Int} {f:Bs} (h:Sj W s l m f) (hf:s≠W.fin) (hp:W.pick s=some (r,s')) (hr:W.rank s' < W.rank s) :
  (s.i < s'.i→Sj W s' (l ++ [(r.ix:Int)]) m (f ++ r.t))∧(¬ s.i < s'.i→Sj W s' l (m ++ [(r.ix:Int)]) f):=by
 obtain ⟨n,h1,h⟩:=h;obtain ⟨n,rfl⟩:∃ n0,n=n0+1:=⟨n - 1,by omega⟩;rw [Wd.dV,if_neg hf,hp] at h;simp only at h;constructor
 ·intro hlt;rw [if_pos hlt] at h;refine ⟨n,by omega,?_⟩;rw [h,List.append_assoc,List.append_assoc];rfl
 ·intro hlt;rw [if_neg hlt] at h;refine ⟨n,by omega,?_⟩;rw [h,List.append_assoc];rfl
theorem PE {W:Wd} {x:WA} {s:St} {i:Nat} {z:RA × St} (hS:OD W x) (hx:(bP W x s)[i]?=some z) (hb:∀ j (hj:j < (bP W x s).length),j < i→¬ (bP W x s)[j].1.r.c+W.dist (bP W x s)[j].2=W.dist s) (hg:z.1.r.c+W.dist z.2=W.dist s):W.pick s=some (z.1.r,z.2):=by
 unfold Wd.pick;rw [←CZ hS,List.find?_map];have:(bP W x s).find? ((fun p:AR × St=>decide (p.1.c+W.dist p.2=W.dist s)) ∘ fun p:RA × St=>(p.1.r,p.2))=some z:=by
  rw [List.find?_eq_some_iff_getElem];obtain ⟨hi,he⟩:=List.getElem?_eq_some_iff.1 hx;refine ⟨decide_eq_true hg,i,hi,he,fun j hj=>?_⟩;rw [Bool.not_eq_true'];exact decide_eq_false (hb j (by omega) hj)
 rw [this];rfl

structure TD (W:Wd) (L:List (St × Int)) (s:St) (q:DD):Prop where
 ok:W.ok s
 a3:s.a.length≤3
 inL:s ∈ fV L
 lt:W.dist s < never
 nl:q.l.length+W.rank s≤W.rank st0
 nm:q.m.length+W.rank s≤W.rank st0
 nf:q.f.length+1000000*W.rank s≤1000000*W.rank st0
 bn:Sj W s q.l q.m q.f

def Dc (W:Wd) (s:St) (p:RA × St):Prop:=p.1.r.c+W.dist p.2=W.dist s
def Fy (W:Wd) (x:WA) (s:St) (i:Nat):Prop:=∀ j (hj:j < (bP W x s).length),j < i→¬ Dc W s (bP W x s)[j]
theorem ME {W:Wd} {x:WA} {s:St}:Fy W x s 0:=fun j _ h=>absurd h (Nat.not_lt_zero _)
theorem MF {W:Wd} {x:WA} {s:St} {i:Nat} {y:RA × St} (hx:(bP W x s)[i]?=some y) (h:Fy W x s i) (h2:¬ Dc W s y):Fy W x s (i+1):=fun j hj hji=>by
 by_cases e:j=i
 ·subst e;rw [List.getElem?_eq_getElem hj] at hx;injection hx with hx
  rw [hx];exact h2
 ·exact h j hj (by omega)
theorem PG {W:Wd} {x:WA} {s:St} (hm:Fx W x) (hs:W.ok s) (hlt:W.dist s < never) (hf:s≠W.fin):¬ Fy W x s (bP W x s).length:=fun h=>by
 have e:=jO (W:=W) hs;rcases fold_eq (fun x:Int × St=>x.1+W.dist x.2) (W.moves s) (if s=W.fin then 0 else never) with h1 | ⟨p,hp,h1⟩
 ·rw [if_neg hf] at h1;rw [e] at hlt;rw [if_neg hf] at hlt;rw [h1] at hlt;omega
 ·rw [←hm s hs] at hp;obtain ⟨y,hy,rfl⟩:=List.mem_map.1 hp;obtain ⟨j,hj,rfl⟩:=List.mem_iff_getElem.1 hy;refine h j hj hj ?_;unfold Dc;rw [e];exact h1.symm
theorem MG {W:Wd} {x:WA} {s:St} (hm:Fx W x) (hs:W.ok s) {y:RA × St} (hy:y ∈ bP W x s):(y.1.r.c,y.2) ∈ W.moves s:=by
 rw [←hm s hs];exact List.mem_map.2 ⟨y,hy,rfl⟩
theorem Sk {W:Wd} {L:List (St × Int)} (h:Kn W L) {s:St} (hs:s ∈ fV L):(mV (L.map fun p=>(p.1,Value.int .i64 p.2)) s).getD (.int .i64 0)=.int .i64 (W.dist s):=by
 obtain ⟨v,hv⟩:=mem_keys.1 hs;rw [Hr h.nd hv,show v=W.dist s from h.val _ hv];rfl
theorem Fz {W:Wd} {L:List (St × Int)} (h:Kn W L) {b:Nat} {w:World} {F:Nat→Prop} (hF:j5 b L w F) {s:St} (hs:s ∈ fV L) :
  (Instr.lookup 172 (.map (some b)) (.agg #[.int .i64 s.i,.int .i64 s.j,.string (bs s.a),.bool s.r]) false).run Tryz.prog w=.ok (.int .i64 (W.dist s)) w:=by
 have:=C8 hF s false;rw [Sk h hs] at this;exact this
theorem JG {W:Wd} {x:WA} {s:St} {z:RA × St} (h:z ∈ bP W x s):z.1 ∈ (x.at (W.left s)).q:=by
 unfold bP at h;obtain ⟨y,hy,he⟩:=List.mem_filterMap.1 h;unfold rW at he;obtain ⟨p,-,hp⟩:=Option.map_eq_some_iff.1 he;rw [←hp];exact hy
theorem OD.UL {W:Wd} {x:WA} (h:OD W x) {s:St} {z:RA × St} (hz:z ∈ bP W x s):z.1.r.t.length≤1000000:=((h.at (W.left s)).2.2.2 _ (JG hz)).2

def UZ (F:Nat→Prop) (w1:World) (W:Wd) (x:WA) (b:Nat) (L:List (St × Int)) (c:Int) (g10 g12 g14 g15 g16:Nat) (a:Act) (wr:World):Prop :=
 ∃ (v:Nat→Value) (Ds:List Nat) (s:St) (q:DD) (R:CH.Own),R.Ok∧(Run F w1 (star (nQ W x b L c g12 g14 g15 g16 s q Ds) R) wr∧TD W L s q) ∧
  a={ tmps:=#[v 0,v 1,v 2,v 3,v 4,v 5,v 6,v 7,v 8,v 9,.pointer (some ⟨g10,0,none⟩),v 11,.pointer (some ⟨g12,0,none⟩),v 13,.pointer (some ⟨g14,0,none⟩),.pointer (some ⟨g15,0,none⟩),.pointer (some ⟨g16,0,none⟩),v 17,v 18,v 19,v 20,v 21,v 22,v 23,v 24,v 25,v 26,v 27,v 28,v 29,v 30,v 31,v 32,v 33,v 34,v 35,v 36,v 37,v 38,v 39,v 40,v 41,v 42,v 43,v 44,v 45,v 46,v 47,v 48,v 49,v 50,v 51,v 52,v 53,v 54,v 55,v 56,v 57,v 58,v 59,v 60,v 61,v 62,v 63,v 64,v 65,v 66,v 67,v 68,v 69,v 70,v 71,v 72,v 73,v 74,v 75,v 76,v 77,v 78,v 79,v 80,v 81,v 82,v 83,v 84,v 85,v 86,v 87,v 88],defers:=Ds.map MR }
theorem PI {g10 g12 g14 g15 g16:Nat} (tm:Array Value) (h:tm.size=89) (h10:tm.getD 10 undef=.pointer (some ⟨g10,0,none⟩)) (h12:tm.getD 12 undef=.pointer (some ⟨g12,0,none⟩)) (h14:tm.getD 14 undef=.pointer (some ⟨g14,0,none⟩)) (h15:tm.getD 15 undef=.pointer (some ⟨g15,0,none⟩)) (h16:tm.getD 16 undef=.pointer (some ⟨g16,0,none⟩)) :
  ∃ v:Nat→Value,tm=#[v 0,v 1,v 2,v 3,v 4,v 5,v 6,v 7,v 8,v 9,.pointer (some ⟨g10,0,none⟩),v 11,.pointer (some ⟨g12,0,none⟩),v 13,.pointer (some ⟨g14,0,none⟩),.pointer (some ⟨g15,0,none⟩),.pointer (some ⟨g16,0,none⟩),v 17,v 18,v 19,v 20,v 21,v 22,v 23,v 24,v 25,v 26,v 27,v 28,v 29,v 30,v 31,v 32,v 33,v 34,v 35,v 36,v 37,v 38,v 39,v 40,v 41,v 42,v 43,v 44,v 45,v 46,v 47,v 48,v 49,v 50,v 51,v 52,v 53,v 54,v 55,v 56,v 57,v 58,v 59,v 60,v 61,v 62,v 63,v 64,v 65,v 66,v 67,v 68,v 69,v 70,v 71,v 72,v 73,v 74,v 75,v 76,v 77,v 78,v 79,v 80,v 81,v 82,v 83,v 84,v 85,v 86,v 87,v 88]:=by
 have e:tm=#[tm.getD 0 undef,tm.getD 1 undef,tm.getD 2 undef,tm.getD 3 undef,tm.getD 4 undef,tm.getD 5 undef,tm.getD 6 undef,tm.getD 7 undef,tm.getD 8 undef,tm.getD 9 undef,tm.getD 10 undef,tm.getD 11 undef,tm.getD 12 undef,tm.getD 13 undef,tm.getD 14 undef,tm.getD 15 undef,tm.getD 16 undef,tm.getD 17 undef,tm.getD 18 undef,tm.getD 19 undef,tm.getD 20 undef,tm.getD 21 undef,tm.getD 22 undef,tm.getD 23 undef,tm.getD 24 undef,tm.getD 25 undef,tm.getD 26 undef,tm.getD 27 undef,tm.getD 28 undef,tm.getD 29 undef,tm.getD 30 undef,tm.getD 31 undef,tm.getD 32 undef,tm.getD 33 undef,tm.getD 34 undef,tm.getD 35 undef,tm.getD 36 undef,tm.getD 37 undef,tm.getD 38 undef,tm.getD 39 undef,tm.getD 40 undef,tm.getD 41 undef,tm.getD 42 undef,tm.getD 43 undef,tm.getD 44 undef,tm.getD 45 undef,tm.getD 46 undef,tm.getD 47 undef,tm.getD 48 undef,tm.getD 49 undef,tm.getD 50 undef,tm.getD 51 undef,tm.getD 52 undef,tm.getD 53 undef,tm.getD 54 undef,tm.getD 55 undef,tm.getD 56 undef,tm.getD 57 undef,tm.getD 58 undef,tm.getD 59 undef,tm.getD 60 undef,tm.getD 61 undef,tm.getD 62 undef,tm.getD 63 undef,tm.getD 64 undef,tm.getD 65 undef,tm.getD 66 undef,tm.getD 67 undef,tm.getD 68 undef,tm.getD 69 undef,tm.getD 70 undef,tm.getD 71 undef,tm.getD 72 undef,tm.getD 73 undef,tm.getD 74 undef,tm.getD 75 undef,tm.getD 76 undef,tm.getD 77 undef,tm.getD 78 undef,tm.getD 79 undef,tm.getD 80 undef,tm.getD 81 undef,tm.getD 82 undef,tm.getD 83 undef,tm.getD 84 undef,tm.getD 85 undef,tm.getD 86 undef,tm.getD 87 undef,tm.getD 88 undef]:=Sy tm 89 h;rw [h10,h12,h14,h15,h16] at e;exact ⟨fun i=>tm.getD i undef,e⟩
theorem Rh {F:Nat→Prop} {w1 wr:World} {W:Wd} {x:WA} {b:Nat} {L:List (St × Int)} {c:Int} {g10 g12 g14 g15 g16:Nat} {tm:Array Value} {df:List Deferred} (Ds:List Nat) {s:St} {q:DD} {R:CH.Own} (h:tm.size=89) (h10:tm.getD 10 undef=.pointer (some ⟨g10,0,none⟩)) (h12:tm.getD 12 undef=.pointer (some ⟨g12,0,none⟩)) (h14:tm.getD 14 undef=.pointer (some ⟨g14,0,none⟩)) (h15:tm.getD 15 undef=.pointer (some ⟨g15,0,none⟩)) (h16:tm.getD 16 undef=.pointer (some ⟨g16,0,none⟩)) (hd:df=Ds.map MR)
  (hR:R.Ok) (h1:Run F w1 (star (nQ W x b L c g12 g14 g15 g16 s q Ds) R) wr) (hp:TD W L s q):UZ F w1 W x b L c g10 g12 g14 g15 g16 { tmps:=tm,defers:=df } wr:=by
 obtain ⟨v,hv⟩:=PI tm h h10 h12 h14 h15 h16;subst hd;exact ⟨v,Ds,s,q,R,hR,⟨h1,hp⟩,by rw [hv]⟩
def FE (W:Wd) (g15:Nat) (w:World):Nat:=match w.cell? ⟨g15,0,none⟩,w.cell? ⟨g15,1,none⟩ with
 | some (.int _ i),some (.int _ j)=>(W.l.length - i.toNat)+(W.m.length - j.toNat)
 | _,_=>0
theorem Hy {W:Wd} {g15:Nat} {w w1:World} {F:Nat→Prop} {s:St} {X:CH.Own} (h:Run F w1 (star (au g15 (fq s) 175) X) w):FE W g15 w=W.rank s:=by
 obtain ⟨c0,c1,-⟩:=cB (h:Run F w1 (star (au g15 #[.int .i64 s.i,.int .i64 s.j,.string (bs s.a),.bool s.r] 175) X) w);unfold FE;rw [c0,c1];rfl
def jE (w:World) (A:Option Addr) (l:List Int):Prop:=Src w A l.length 1 (l.map (Value.int .i64))
theorem jE.below {w w':World} {A:Option Addr} {l:List Int} (h:jE w A l) (hb:Below w.heap.size w w'):jE w' A l:=aR h hb
theorem Df (l:List Int):∀ u ∈ l.map (Value.int .i64),u.oneCell'=true:=fun u hu=>by obtain ⟨x,-,rfl⟩:=List.mem_map.1 hu;rfl
theorem kF {w w':World} (hb:Below w.heap.size w w'):Post w (fun _=>False) (star (bC none 0 []) (bC none 0 [])) w':=by
 have h1:=((Run.begin w).below aB hb).fresh aB (⟨fun _=>False,rY _,Mod.refl _ _,fun i hi=>.inl hi⟩:Post _ (fun _=>False) (bC none 0 []) _);have h2:=h1.fresh (aj bU aB) (⟨fun _=>False,rY _,Mod.refl _ _,fun i hi=>.inl hi⟩:Post _ (fun _=>False) (bC none 0 []) _);exact ((h2.perm (by ac_rfl:_=star emp (star (bC none 0 []) (bC none 0 [])))).drop).post (aj bU bU)
theorem Hz {w:World} {F:Nat→Prop} {A:Option Addr} {c:Nat} {l:List Int} (h:bC A c l w F):jE w A l:=iT h (Df l)

def lH (w:World) (T:Tab) (k:Int) (x:Bs) (k2:Int) (y:Bs) (e:Ending) (w':World):Prop :=
 ∃ (d:Dv) (er:Int) (A:Option Addr) (c:Nat) (B:Option Addr) (c2:Nat),e=.returned (.tuple #[.agg #[.int .i64 d.c,.slice A d.L.length c,.slice B d.M.length c2,.string (bs d.F)],.int .i64 er])∧xg T k x k2 y d er∧Post w (fun _=>False) (star (bC A c d.L) (bC B c2 d.M)) w'
end Go.Proofs.YtbnnlpjpnihheaaGreatDoor
