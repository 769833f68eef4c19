/- A part of the proof: lemmas. -/
import Derived.Test.YtbnnlpjpnihheaaGreatDoorME8
import Derived.Test.YtbnnlpjpnihheaaGreatDoorME10
import Derived.Deep.DeepCutAuto
import Derived.Test.YtbnnlpjpnihheaaGreatDoorME11
import Derived.Test.YtbnnlpjpnihheaaGreatDoorME6
import Derived.Test.YtbnnlpjpnihheaaGreatDoorME16
set_option maxHeartbeats 16000000
set_option maxRecDepth 100000
set_option linter.unusedSimpArgs false
set_option linter.unusedVariables false
namespace Go.Proofs.YtbnnlpjpnihheaaGreatDoor
open Go.RowKit Go.CH Go.CH.Scr Go.CH.dK
open Go.ChangeMaps (setBlock)
theorem MI {w:World} {y:RA} {gi:Nat} {k:Int} (h:w.cell? ⟨gi,0,none⟩=some (.int .i64 k)) :
  Calls Tryz.prog 132 #[.agg (bN y).toArray,.pointer (some ⟨gi,0,none⟩)] w (aP w (.bool (decide ((y.r.ix:Int)=k)))):=by
 obtain ⟨⟨ix,c,f,t⟩,A,n⟩:=y;have h1:=aG (Run.begin w) aB #[.int .i64 (ix:Nat),.int .i64 c,.slice A f.length n,.string (bs t)] 181;have HB:=hide (show Below w.heap.size w (w.alloc (.cells #[.int .i64 (ix:Nat),.int .i64 c,.slice A f.length n,.string (bs t)] 181)) from h1.mod.below (fun _ _ h=>h));have q0:(w.alloc (.cells #[.int .i64 (ix:Nat),.int .i64 c,.slice A f.length n,.string (bs t)] 181)).cell? ⟨gi,0,none⟩=some (.int .i64 k):=by rw [HB.out.cell (World.block_lt_of_cell? _ _ h)];exact h
 clear h;unfold bN;dsimp only;by_cases hk:(ix:Int)=k
 ·have t1:((ix:Int) == k)=true:=by simp [hk]
  rw [decide_eq_true hk];clear hk h1
  go_enter Tryz.func132,Tryz.ntmps132
  go_wp2;go_ret;exact ⟨rfl,HB.out⟩
 ·have t1:((ix:Int) == k)=false:=by simp [hk]
  rw [decide_eq_false hk];clear hk h1
  go_enter Tryz.func132,Tryz.ntmps132
  go_wp2;go_ret;exact ⟨rfl,HB.out⟩

def OE (q:List RA) (k:Int):Int:=match q.findIdx? (fun y=>decide ((y.r.ix:Int)=k)) with
 | none => -1
 | some j=>j
theorem MJ {q:List RA} {k:Int} (h:∀ j (hj:j < q.length),(q[j].r.ix:Int)≠k):OE q k = -1:=by
 unfold OE
 rw [List.findIdx?_eq_none_iff.2 (fun y hy=>by
  obtain ⟨j,hj,rfl⟩:=List.mem_iff_getElem.1 hy
  exact decide_eq_false (h j hj))]
theorem MK {q:List RA} {k:Int} {j:Nat} (hj:j < q.length) (h1:(q[j].r.ix:Int)=k) (h:∀ i (hi:i < j),(q[i].r.ix:Int)≠k):OE q k=j:=by
 unfold OE;rw [List.findIdx?_eq_some_iff_getElem.2 ⟨hj,decide_eq_true h1,fun i hi=>by simpa using h i hi⟩]
theorem JH (q:List RA) (k:Int):(OE q k = -1∧(q.map (·.r)).find? (fun r=>decide ((r.ix:Int)=k))=none)∨∃ j,∃ hj:j < q.length,OE q k=j∧(q.map (·.r)).find? (fun r=>decide ((r.ix:Int)=k))=some q[j].r:=by
 cases hf:q.findIdx? (fun y=>decide ((y.r.ix:Int)=k)) with
 | none =>
  refine .inl ⟨by unfold OE;rw [hf],?_⟩;rw [List.find?_eq_none];intro r hr;obtain ⟨y,hy,rfl⟩:=List.mem_map.1 hr;have:=List.findIdx?_eq_none_iff.1 hf y hy;simpa using this
 | some j =>
  obtain ⟨hj,h1,h2⟩:=List.findIdx?_eq_some_iff_getElem.1 hf;refine .inr ⟨j,hj,by unfold OE;rw [hf],?_⟩;rw [List.find?_eq_some_iff_getElem];refine ⟨h1,j,by simpa using hj,by simp,fun i hi=>?_⟩;have:=h2 i hi;simpa using this
theorem uO {w:World} {R:Option Addr} {rc:Nat} {q:List RA} {gi:Nat} {k:Int} (hR:Fq w R q) (hq:q.length≤1000000) (h:w.cell? ⟨gi,0,none⟩=some (.int .i64 k)) :
  Calls Tryz.prog 131 #[.slice R q.length rc,.func (.func 132) #[] #[.pointer (some ⟨gi,0,none⟩)]] w (aP w (.int .i64 (OE q k))):=by
 have KI:=hide (fun W (hb:Below w.heap.size w W) y=>MI (w:=W) (y:=y) (gi:=gi) (k:=k) (by rw [hb.cell (World.block_lt_of_cell? _ _ h)];exact h));have HR:=hide hR;have HQ:=hide hq;have HB0:=hide (Below.refl w.heap.size w);clear hR hq h;obtain ⟨N,hN⟩:∃ N,N=q.length:=⟨_,rfl⟩;have HN:=hide hN;rw [←hN];clear hN
 go_enter Tryz.func131,Tryz.ntmps131
 go_wp2_with fail;go_loopw [8] (fun i wr=>∃ j:Nat,j≤N∧i=.int .i64 j∧(∀ i (hi:i < q.length),i < j→(q[i].r.ix:Int)≠k)∧Below w.heap.size w wr) (fun i _=>N - (intOf i).toNat)
 case atStart=>exact ⟨0,Nat.zero_le _,rfl,fun i _ h=>absurd h (Nat.not_lt_zero _),HB0.out⟩
 case round =>
  obtain ⟨j,hj,rfl,hno,hbel⟩:=hrel;have HBE:=hide hbel;have HNO:=hide hno;clear hbel hno;by_cases hlt:j < N
  ·have hjq:j < q.length:=by rw [←HN.out];exact hlt
   have HLT:=hide hlt;obtain ⟨b,o,rfl,hc⟩:=wu.at (R:=bN) (fun _=>rfl) (by omega) HR.out (by omega);have r0:=hc wr HBE.out j hjq 0 _ rfl;have r1:=hc wr HBE.out j hjq 1 _ rfl;have r2:=hc wr HBE.out j hjq 2 _ rfl;have r3:=hc wr HBE.out j hjq 3 _ rfl;simp only [Nat.add_zero] at r0;have hjb:(j:Int) < 1000000:=by have:=HQ.out;omega
   have K1:=hide (KI.out wr HBE.out q[j]);have HYS:=hide (fun h=>MK hjq h (fun i hi=>HNO.out i (by omega) hi):(q[j].r.ix:Int)=k→_)
   have HNS:=hide (show (q[j].r.ix:Int)≠k→∀ i (hi:i < q.length),i < j+1→(q[i].r.ix:Int)≠k from fun h i hi hij=>by
    by_cases e:i=j
    ·subst e;exact h
    ·exact HNO.out i hi (by omega))
   clear hc;generalize q[j]=y at *
   obtain ⟨⟨ix,c,f,t⟩,A,n⟩:=y;unfold bN at K1;dsimp only at K1 r0 r1 r2 r3 HYS HNS;go_wp2_with fail;refine K1.out.mono ?_;rintro e9 w4 ⟨rfl,hb⟩;have HB4:=hide (aC HBE.out hb);clear K1 hb r0 r1 r2 r3;dsimp only;by_cases hk:(ix:Int)=k
   ·have HV:=hide (HYS.out hk);rw [decide_eq_true hk];clear hk;go_wp2;go_ret;rw [HV.out];exact ⟨rfl,HB4.out⟩
   ·have HV:=hide (HNS.out hk);rw [decide_eq_false hk];clear hk;go_wp2
    go_roundw
    case rel=>exact ⟨j+1,HLT.out,by go_num,HV.out,HB4.out⟩
    case measure=>have:=HLT.out;simp [intOf];omega
  ·have HV:=hide (show OE q k = -1 from MJ (fun i hi=>HNO.out i hi (by have:=HN.out;omega)));go_wp2;go_ret;rw [HV.out];exact ⟨rfl,HBE.out⟩
end Go.Proofs.YtbnnlpjpnihheaaGreatDoor
namespace Go.Proofs.YtbnnlpjpnihheaaGreatDoor
open Go.RowKit Go.CH Go.CH.Scr Go.CH.dK
open Go.ChangeMaps (setBlock)

def Sm (w:World) (l:List Bs) (rs:List AR) (ks:List Int) (e:Ending) (w':World):Prop :=
 ∃ (F:Bs) (c:Int) (ok:Bool),e=.returned (.tuple #[.string (bs F),.int .i64 c,.bool ok])∧(F.length≤1000000000∧0≤c∧c≤1000000000)∧((ok=true→jT l rs ks 0=some (F,c,l.length))∧(ok=false→∀ F' c',jT l rs ks 0≠some (F',c',l.length)))∧Below w.heap.size w w'

def Dh (l:List Bs) (rs:List AR) (ks:List Int) (j at0:Nat) (F:Bs) (c:Int):Prop :=
 (F.length≤1000000*j∧0≤c∧c≤1000000*j∧at0≤l.length)∧jT l rs ks 0=(jT l rs (ks.drop j) at0).map fun z=>(F ++ z.1,c+z.2.1,z.2.2)
theorem JI {l:List Bs} {rs:List AR} {ks:List Int}:Dh l rs ks 0 0 [] 0:=by
 refine ⟨⟨by simp,by simp,by simp,Nat.zero_le _⟩,?_⟩;rw [List.drop_zero];cases jT l rs ks 0 with
 | none=>rfl
 | some z=>simp
theorem JJ {l:List Bs} {rs:List AR} {ks:List Int} {j at0:Nat} {F:Bs} {c:Int} {r:AR} (h:Dh l rs ks j at0 F c) (hj:j < ks.length) (hr:rs.find? (fun r=>decide ((r.ix:Int)=ks[j]))=some r) (hf:iY l r at0=true)
  (ht:r.t.length≤1000000) (h0:0≤r.c) (h1:r.c≤1000000):Dh l rs ks (j+1) (at0+r.f.length) (F ++ r.t) (c+r.c):=by
 obtain ⟨⟨g1,g2,g3,g4⟩,g5⟩:=h;refine ⟨⟨by rw [List.length_append];omega,by omega,by omega,?_⟩,?_⟩
 ·unfold iY at hf;simp only [Bool.and_eq_true,decide_eq_true_eq] at hf;exact hf.1
 ·rw [g5,List.drop_eq_getElem_cons hj]
  conv=>lhs;unfold jT
  rw [hr];simp only [hf,if_true,Option.map_map];congr 1;funext z;simp only [Function.comp,List.append_assoc,Int.add_assoc]
theorem ML {l:List Bs} {rs:List AR} {ks:List Int} {at0:Nat} {F:Bs} {c:Int} (h:Dh l rs ks ks.length at0 F c) (he:at0=l.length):jT l rs ks 0=some (F,c,l.length):=by
 rw [h.2,List.drop_length];unfold jT;simp [he]
theorem JK {l:List Bs} {rs:List AR} {ks:List Int} {j at0:Nat} {F:Bs} {c:Int} (h:Dh l rs ks j at0 F c) (hj:j < ks.length) (hr:rs.find? (fun r=>decide ((r.ix:Int)=ks[j]))=none) (F':Bs) (c':Int):jT l rs ks 0≠some (F',c',l.length):=by
 rw [h.2,List.drop_eq_getElem_cons hj];unfold jT;rw [hr];intro e;cases e
theorem FH {l:List Bs} {rs:List AR} {ks:List Int} {j at0:Nat} {F:Bs} {c:Int} {r:AR} (h:Dh l rs ks j at0 F c) (hj:j < ks.length) (hr:rs.find? (fun r=>decide ((r.ix:Int)=ks[j]))=some r) (hf:iY l r at0=false) (F':Bs) (c':Int):jT l rs ks 0≠some (F',c',l.length):=by
 rw [h.2,List.drop_eq_getElem_cons hj];unfold jT;rw [hr];simp only;rw [if_neg (by rw [hf];decide)];intro e;cases e
theorem MN {l:List Bs} {rs:List AR} {ks:List Int} {at0:Nat} {F:Bs} {c:Int} (h:Dh l rs ks ks.length at0 F c) (he:at0≠l.length) (F':Bs) (c':Int):jT l rs ks 0≠some (F',c',l.length):=by
 rw [h.2,List.drop_length];unfold jT;simp only [Option.map_some];intro e;injection e with e
 injection e with e1 e2
 injection e2 with e2 e3
 exact he e3
theorem vE {w:World} {l:List Bs} {L R D:Option Addr} {lc rc dc:Nat} {q:List RA} {ks:List Int} (hL:fF w L l) (hR:Fq w R q) (hF:∀ y ∈ q,fF w y.A y.r.f) (hD:Src w D ks.length 1 (ks.map (Value.int .i64)))
  (hll:l.length≤lc) (hl6:l.length≤1000000) (hq:q.length≤1000000) (hf:∀ y ∈ q,y.r.f.length≤1000000∧y.r.t.length≤1000000∧0≤y.r.c∧y.r.c≤1000000) (hk:ks.length≤1000) :
  Calls Tryz.prog 108 #[.agg #[.slice L l.length lc,.slice R q.length rc],.slice D ks.length dc] w (Sm w l (q.map (·.r)) ks):=by
 have h1:=aG (Run.begin w) aB #[.slice L l.length lc,.slice R q.length rc] 167;have HB1:=hide (show Below w.heap.size w _ from h1.mod.below (fun _ _ h=>h))
 have HBX:=hide (fun W (h:Below (w.alloc (.cells #[.slice L l.length lc,.slice R q.length rc] 167)).heap.size (w.alloc (.cells #[.slice L l.length lc,.slice R q.length rc] 167)) W)=>(show W.cell? ⟨w.heap.size,0,none⟩=some (.slice L l.length lc)∧W.cell? ⟨w.heap.size,1,none⟩=some (.slice R q.length rc) from by
  obtain ⟨f,hf⟩:=(h1.below (aj av aB) h).fst
  exact ⟨ay hf rfl,ay hf rfl⟩))
 have HL:=hide hL;have HR:=hide hR;have HF:=hide hF;have HD:=hide hD;have HLL:=hide hll;have HL6:=hide hl6;have HQ:=hide hq;have HFF:=hide hf;have HK:=hide hk;clear hL hR hF hD hll hl6 hq hf hk h1;obtain ⟨n,hn⟩:∃ n,n=ks.length:=⟨_,rfl⟩;have HN:=hide hn;rw [←hn];clear hn
 go_enter Tryz.func108,Tryz.ntmps108
 go_wp2_with fail;generalize w.alloc (.cells #[.slice L l.length lc,.slice R q.length rc] 167)=w1 at *
 generalize w.heap.size=g2 at HBX ⊢;have HB0:=hide (Below.refl w1.heap.size w1);go_loopw [4,5,7,13] (fun u v a i wr=>∃ (j at0:Nat) (F:Bs) (c:Int),j≤n∧i=.int .i64 j∧u=.string (bs F)∧v=.int .i64 c∧a=.int .i64 at0∧Dh l (q.map (·.r)) ks j at0 F c∧Below w1.heap.size w1 wr) (fun _ _ _ i _=>n - (intOf i).toNat)
 case atStart=>exact ⟨0,0,[],0,Nat.zero_le _,rfl,rfl,rfl,rfl,JI,HB0.out⟩
 case round =>
  obtain ⟨j,at0,F,c,hj,rfl,rfl,rfl,rfl,hI,hbel⟩:=hrel;have HBE:=hide hbel;have HI:=hide hI;clear hbel hI;by_cases hlt:j < n
  ·have hjk:j < ks.length:=by rw [←HN.out];exact hlt
   have HLT:=hide hlt;obtain ⟨db,dof,rfl,hdc⟩:=Src.open_ HD.out (by omega) (by omega);have k0:wr.cell? ⟨db,dof+j,none⟩=some (.int .i64 ks[j]):=by
    have h1:=hdc j (.int .i64 ks[j]) (by simp [hjk]);have hbw:=aC HB1.out HBE.out;rw [hbw.cell (World.block_lt_of_cell? _ _ h1)];exact h1
   have hjb:(j:Int) < 1000000:=by have:=HK.out;omega
   have HWS:=hide (fun r hr hf ht h0 h1=>JJ (r:=r) HI.out hjk hr hf ht h0 h1);have HWN:=hide (fun hr=>JK HI.out hjk hr);have HWU:=hide (fun r hr hf=>FH (r:=r) HI.out hjk hr hf);have HIX:=hide (JH q ks[j]);have h4:=aG (Run.begin wr) aB #[.int .i64 ks[j]] 3;have HB4:=hide (aC HBE.out (h4.mod.below (fun _ _ h=>h)));have K1:=hide (uO (w:=wr.alloc (.cells #[.int .i64 ks[j]] 3)) (rc:=rc) (HR.out.below (aC HB1.out HB4.out)) HQ.out (gi:=wr.heap.size) (k:=ks[j]) (by obtain ⟨f,hf⟩:=h4.fst;exact ay (i:=0) hf rfl));have y0:=(HBX.out _ HB4.out).1;have y1:=(HBX.out _ HB4.out).2;obtain ⟨⟨i1,i2,i3,i4⟩,-⟩:=HI.out;have hF1:F.length≤1000000000:=by have:=HK.out;omega
   have hc1:c≤1000000000:=by have:=HK.out;omega
   have ha1:at0≤1000000:=by have:=HL6.out;omega
   have HI4:=hide i4;have HI2:=hide i2;clear hdc h4 i1 i3 i4;generalize ks[j]=kk at *
   go_wp2_with fail;refine K1.out.mono ?_;rintro e9 w5 ⟨rfl,hb⟩;have HB5:=hide (aC HB4.out hb);clear K1 hb k0 y0 y1;dsimp only;rcases HIX.out with ⟨hix,hfd⟩ | ⟨jq,hjq,hix,hfd⟩
   ·rw [hix];have HNO:=hide (HWN.out hfd);clear hix HIX hfd;have HBD:=hide (aC HB5.out ((Below.refl w5.heap.size w5).drew));go_upto_region 6 with (fail);refine aI (fun w'=>w'=w5.drew) (by kernel_rfl) (by kernel_rfl) rfl ?_;generalize w5.drew=w6 at *
    (repeat ((first | refine aK (by rfl) ?_ | (refine aL (v:=?_) (by rfl) ?_ ?_;rotate_left;(focus (intro w' hS';go_simp;(try with_reducible rfl);done))));try simp only [Act.put,List.setIfInBounds_toArray,List.set_cons_zero,List.set_cons_succ]))
    refine lex_nil ?_;go_wp2;refine bodyPost_ret (results_tmp3 rfl _ _ _) rfl ?_;exact ⟨[],0,false,rfl,⟨by simp,by simp,by simp⟩,⟨(fun h=>by cases h),fun _=>HNO.out⟩,aC HB1.out HBD.out⟩
   ·rw [hix];clear hix HIX;obtain ⟨rb,ro,rfl,hrc⟩:=wu.at (R:=bN) (fun _=>rfl) (by omega) HR.out (by omega)
    have HRC:=hide (fun W (h:Below w5.heap.size w5 W)=>(show W.cell? ⟨rb,ro+jq*4,none⟩=some (.int .i64 (q[jq].r.ix:Nat))∧W.cell? ⟨rb,ro+jq*4+1,none⟩=some (.int .i64 q[jq].r.c)∧W.cell? ⟨rb,ro+jq*4+2,none⟩=some (.slice q[jq].A q[jq].r.f.length q[jq].c)∧W.cell? ⟨rb,ro+jq*4+3,none⟩=some (.string (bs q[jq].r.t))∧W.cell? ⟨g2,0,none⟩=some (.slice L l.length lc)∧W.cell? ⟨g2,1,none⟩=some (.slice (some ⟨rb,ro,none⟩) q.length rc) from by
     have hb:=aC HB1.out (aC HB5.out h);have hy:=HBX.out W (aC HB5.out h)
     exact ⟨hrc W hb jq hjq 0 _ rfl,hrc W hb jq hjq 1 _ rfl,hrc W hb jq hjq 2 _ rfl,hrc W hb jq hjq 3 _ rfl,hy.1,hy.2⟩))
    have hmem:=List.getElem_mem hjq;have HW1:=hide (fun hf=>HWS.out _ hfd hf (HFF.out _ hmem).2.1 (HFF.out _ hmem).2.2.1 (HFF.out _ hmem).2.2.2);have HU1:=hide (fun hf=>HWU.out _ hfd hf);have KF:=hide (fun W (h:Below w5.heap.size w5 W)=>CU (w:=W) (R:=some ⟨rb,ro,none⟩) (rn:=q.length) (rc:=rc) (lc:=lc) (fc:=q[jq].c) (r:=q[jq].r) (i:=at0) (HL.out.below (aC HB1.out (aC HB5.out h))) ((HF.out _ hmem).below (aC HB1.out (aC HB5.out h))) HI4.out HLL.out HL6.out (HFF.out _ hmem).1);obtain ⟨b1,b2,b3,b4⟩:=HFF.out _ hmem;have hjqb:(jq:Int) < 1000000:=by have:=HQ.out;omega
    have HJQ:=hide hjq;clear hrc hfd hmem HWS HR HF HD HL;generalize q[jq]=y at *
    obtain ⟨⟨ix,rcost,rf,rt⟩,rA,rn⟩:=y;dsimp only at HRC HW1 HU1 KF b1 b2 b3 b4;go_upto_region 6 with (fail);have t1:decide ((jq:Int) < 0)=false:=decide_eq_false (by omega);have HBD:=hide ((Below.refl w5.heap.size w5).drew);have HS0:=hide (HRC.out _ HBD.out);refine aI (fun W:World=>W.cell? ⟨rb,ro+jq*4,none⟩=some (.int .i64 (ix:Nat))∧W.cell? ⟨rb,ro+jq*4+1,none⟩=some (.int .i64 rcost)∧W.cell? ⟨rb,ro+jq*4+2,none⟩=some (.slice rA rf.length rn)∧W.cell? ⟨rb,ro+jq*4+3,none⟩=some (.string (bs rt))∧W.cell? ⟨g2,0,none⟩=some (.slice L l.length lc)∧W.cell? ⟨g2,1,none⟩=some (.slice (some ⟨rb,ro,none⟩) q.length rc)) (by kernel_rfl) (by kernel_rfl) HS0.out ?_;clear HS0;generalize w5.drew=w6 at *
    (repeat ((first | refine aK (by rfl) ?_ | (refine aL (v:=?_) (by rfl) ?_ ?_;rotate_left;(focus (intro w' hS';go_simp;(try with_reducible rfl);done))));try simp only [Act.put,List.setIfInBounds_toArray,List.set_cons_zero,List.set_cons_succ]))
    refine dR rfl (by rfl) (fun K hK=>?_);go_wp2_with fail;refine (KF.out w6 HBD.out).mono ?_;rintro e9 w7 ⟨rfl,hb⟩;have HB7:=hide (aC HBD.out hb);refine hK.out _ _ (HRC.out w7 HB7.out) ?_;clear hK KF hb HBD;generalize hfit:iY l ⟨ix,rcost,rf,rt⟩ at0=fb at *
    cases fb with
    | false =>
     have HNO:=hide (HU1.out rfl);clear HW1 hfit
     (repeat ((first | refine aK (by rfl) ?_ | (refine aL (v:=?_) (by rfl) ?_ ?_;rotate_left;(focus (intro w' hS';go_simp;(try with_reducible rfl);done))));try simp only [Act.put,List.setIfInBounds_toArray,List.set_cons_zero,List.set_cons_succ]))
     refine lex_nil ?_;go_wp2;refine bodyPost_ret (results_tmp3 rfl _ _ _) rfl ?_;exact ⟨[],0,false,rfl,⟨by simp,by simp,by simp⟩,⟨(fun h=>by cases h),fun _=>HNO.out⟩,aC HB1.out (aC HB5.out HB7.out)⟩
    | true =>
     have HI9:=hide (HW1.out rfl);clear HW1 hfit
     (repeat ((first | refine aK (by rfl) ?_ | (refine aL (v:=?_) (by rfl) ?_ ?_;rotate_left;(focus (intro w' hS';go_simp;(try with_reducible rfl);done))));try simp only [Act.put,List.setIfInBounds_toArray,List.set_cons_zero,List.set_cons_succ]))
     refine lex_nil ?_;obtain ⟨x0,x1,x2,x3,x4,x5⟩:=HRC.out w7 HB7.out;have i2:=HI2.out;have hsum:¬ 9223372036854775807 < (bs F).size+(bs rt).size:=by rw [bX,bX];omega
     have hjl:jq < q.length:=HJQ.out;go_wp2_with fail
     go_roundw
     case rel=>exact ⟨j+1,at0+rf.length,F ++ rt,c+rcost,HLT.out,by go_num,by rw [MB],rfl,by go_num,HI9.out,aC HB5.out HB7.out⟩
     case measure=>have:=HLT.out;simp [intOf];omega
  ·obtain rfl:j=n:=by omega
   have y0:=(HBX.out _ HBE.out).1;obtain ⟨⟨i1,i2,i3,i4⟩,-⟩:=HI.out;have HFC:=hide (show F.length≤1000000000∧0≤c∧c≤1000000000 from ⟨by have:=HK.out;have:=HN.out;omega,i2,by have:=HK.out;have:=HN.out;omega⟩);have HEN:=hide (fun h=>ML (l:=l) (rs:=q.map (·.r)) (ks:=ks) (at0:=at0) (F:=F) (c:=c) (by have:=HI.out;rw [HN.out] at this;exact this) h);have HEO:=hide (fun h=>MN (l:=l) (rs:=q.map (·.r)) (ks:=ks) (at0:=at0) (F:=F) (c:=c) (by have:=HI.out;rw [HN.out] at this;exact this) h);have HBD:=hide (aC HBE.out ((Below.refl wr.heap.size wr).drew));clear i1 i2 i3 i4;go_upto_region 12 with (fail);refine aI (fun w'=>w'=wr.drew) (by kernel_rfl) (by kernel_rfl) rfl ?_;have y0:=(HBX.out _ HBD.out).1;generalize wr.drew=w6 at *
   by_cases he:at0=l.length
   ·have t1:((at0:Int) == (l.length:Int))=true:=by simp [he]
    have HE9:=hide (HEN.out he);clear he
    (repeat ((first | refine aK (by rfl) ?_ | (refine aL (v:=?_) (by rfl) ?_ ?_;rotate_left;(focus (intro w' hS';go_simp;(try with_reducible rfl);done))));try simp only [Act.put,List.setIfInBounds_toArray,List.set_cons_zero,List.set_cons_succ]))
    refine lex_nil ?_;go_wp2;refine bodyPost_ret (results_tmp3 rfl _ _ _) rfl ?_;exact ⟨F,c,true,rfl,HFC.out,⟨(fun _=>HE9.out),fun h=>by cases h⟩,aC HB1.out HBD.out⟩
   ·have t1:((at0:Int) == (l.length:Int))=false:=by simp;omega
    have HE9:=hide (HEO.out he);clear he
    (repeat ((first | refine aK (by rfl) ?_ | (refine aL (v:=?_) (by rfl) ?_ ?_;rotate_left;(focus (intro w' hS';go_simp;(try with_reducible rfl);done))));try simp only [Act.put,List.setIfInBounds_toArray,List.set_cons_zero,List.set_cons_succ]))
    refine lex_nil ?_;go_wp2;refine bodyPost_ret (results_tmp3 rfl _ _ _) rfl ?_;exact ⟨F,c,false,rfl,HFC.out,⟨(fun h=>by cases h),fun _=>HE9.out⟩,aC HB1.out HBD.out⟩
end Go.Proofs.YtbnnlpjpnihheaaGreatDoor
namespace Go.Proofs.YtbnnlpjpnihheaaGreatDoor
open Go.RowKit Go.CH Go.CH.Scr Go.CH.dK
open Go.ChangeMaps (setBlock)
theorem zU {rs:List Rule} {k:Int} {r:AR} (h:r ∈ dU rs k):∃ R ∈ rs,r.c=R.c:=by
 unfold dU at h;obtain ⟨⟨R,ix⟩,hp,hr⟩:=List.mem_filterMap.1 h;refine ⟨R,wo _ _ hp,?_⟩;unfold vS at hr;simp only at hr;split at hr
 ·split at hr
  ·injection hr with hr;rw [←hr]
  ·cases hr
 ·cases hr

def Ub (w:World) (T:Tab) (k:Int) (x:Bs) (k2:Int) (y:Bs) (d:Dv) (e:Ending) (w':World):Prop :=
 ∃ b:Bool,e=.returned (.bool b)∧(b=true↔qU T k x k2 y d)∧Below w.heap.size w w'
theorem FI {w:World} {T:Tab} {a:TA} (hT:jJ w T a) (hz:LZ w) (k:Int) (x:Bs) (k2:Int) (y:Bs) (hx:x.length≤1000000) (hy:y.length≤1000000) {d:Dv} {A B:Option Addr} {ac bc:Nat} (hA:jE w A d.L) (hB:jE w B d.M) (hl:d.L.length≤1000) (hm:d.M.length≤1000) :
  Calls Tryz.prog 71 #[eZ T a,.int .i64 k,.string (bs x),.int .i64 k2,.string (bs y),.agg #[.int .i64 d.c,.slice A d.L.length ac,.slice B d.M.length bc,.string (bs d.F)]] w (Ub w T k x k2 y d):=by
 have h1:=aG (Run.begin w) aB (dA T a) 25;have h2:=aG h1 (aj av aB) #[.int .i64 d.c,.slice A d.L.length ac,.slice B d.M.length bc,.string (bs d.F)] 42;rw [World.size_alloc] at h2;have H2:=hide h2;have HB2:=hide (show Below w.heap.size w _ from h2.mod.below (fun _ _ h=>h));have KO:=hide (CY (hT.below HB2.out) (hz.below HB2.out) k x k2 y hx hy);have HA:=hide hA;have HB:=hide hB;have HNL:=hide hl;have HNM:=hide hm;clear hT hz h1 h2 hA hB hl hm;unfold eZ at KO ⊢;unfold dA at KO H2 HB2 ⊢;obtain ⟨n1,hn1⟩:∃ n,n=d.L.length:=⟨_,rfl⟩;obtain ⟨n2,hn2⟩:∃ n,n=d.M.length:=⟨_,rfl⟩;rw [←hn1,←hn2] at H2 HB2 KO ⊢;have HN1:=hide hn1;have HN2:=hide hn2;clear hn1 hn2
 go_enter Tryz.func71,Tryz.ntmps71
 go_wp2_with fail;refine KO.out.mono ?_;rintro e9 w1 ⟨wa,rfl,hb,hok⟩;have H3:=hide (H2.out.below (aj av (aj av aB)) hb);have HB1:=hide (HB2.out.trans (hb.mono HB2.out.size));have HOK:=hide hok;clear KO hb hok H2 HB2;obtain ⟨W,hW⟩:∃ W,W=OB T k x k2 y:=⟨_,rfl⟩;rw [←hW] at HOK ⊢;have HW:=hide hW;clear hW;unfold aU;generalize hob:okW T k x k2 y=ob at HOK ⊢;have HOB:=hide hob;clear hob;have H4:=hide (aG H3.out (aj av (aj av aB)) (aU W wa) 169);unfold aU at H4;dsimp only;cases ob with
 | false =>
  go_wp2;go_ret;exact ⟨false,rfl,⟨(fun h=>by cases h),fun h=>by have:=h.1;rw [HOB.out] at this;cases this⟩,H4.out.mod.below (fun _ _ h=>h)⟩
 | true =>
  obtain ⟨hP,hS⟩:=HOK.out rfl;have HWe:=hide (show W=bJ T k x k2 y from HW.out.trans (Mc HOB.out));have hg:W.good:=by rw [HWe.out];exact (wm (gG.1 HOB.out).2.2).1
  have hca:∀ z ∈ wa.a.q,z.r.f.length≤1000000∧z.r.t.length≤1000000∧0≤z.r.c∧z.r.c≤1000000:=fun z hz=>by
   obtain ⟨R,hR,e⟩:=zU (by rw [←hS.qa];exact List.mem_map_of_mem hz:z.r ∈ dU W.rs W.ka);have:=hg R hR;exact ⟨(hS.f6 z hz).1,(hS.f6 z hz).2,by omega,by omega⟩
  have hcb:∀ z ∈ wa.b.q,z.r.f.length≤1000000∧z.r.t.length≤1000000∧0≤z.r.c∧z.r.c≤1000000:=fun z hz=>by
   obtain ⟨R,hR,e⟩:=zU (by rw [←hS.qb];exact List.mem_map_of_mem hz:z.r ∈ dU W.rs W.kb);have:=hg R hR;exact ⟨(hS.g6 z hz).1,(hS.g6 z hz).2,by omega,by omega⟩
  have HB3:=hide (show Below w1.heap.size w1 (w1.alloc (.cells #[.slice wa.a.L W.l.length wa.a.lc,.slice wa.a.R wa.a.q.length wa.a.rc,.slice wa.b.L W.m.length wa.b.lc,.slice wa.b.R wa.b.q.length wa.b.rc] 169)) from (Below.refl _ _).alloc (Nat.le_refl _) _);have KA:=hide (fun W' (h:Below w1.heap.size w1 W')=>vE (w:=W') (L:=wa.a.L) (R:=wa.a.R) (D:=A) (lc:=wa.a.lc) (rc:=wa.a.rc) (dc:=ac) (hP.l.below h) (hP.ra.below h) (fun z hz=>(hP.fa z hz).below h) (HA.out.below (HB1.out.trans (h.mono HB1.out.size))) hS.la hS.l6 hS.na hca HNL.out);have KB:=hide (fun W' (h:Below w1.heap.size w1 W')=>vE (w:=W') (L:=wa.b.L) (R:=wa.b.R) (D:=B) (lc:=wa.b.lc) (rc:=wa.b.rc) (dc:=bc) (hP.m.below h) (hP.rb.below h) (fun z hz=>(hP.fb z hz).below h) (HB.out.below (HB1.out.trans (h.mono HB1.out.size))) hS.lb hS.m6 hS.nb hcb HNM.out);rw [←HN1.out] at KA;rw [←HN2.out] at KB;have HQA:=hide hS.qa;have HQB:=hide hS.qb
  have HC4:=hide (fun W' (h:Below (w1.alloc (.cells #[.slice wa.a.L W.l.length wa.a.lc,.slice wa.a.R wa.a.q.length wa.a.rc,.slice wa.b.L W.m.length wa.b.lc,.slice wa.b.R wa.b.q.length wa.b.rc] 169)).heap.size (w1.alloc (.cells #[.slice wa.a.L W.l.length wa.a.lc,.slice wa.a.R wa.a.q.length wa.a.rc,.slice wa.b.L W.m.length wa.b.lc,.slice wa.b.R wa.b.q.length wa.b.rc] 169)) W')=>(show (W'.cell? ⟨w1.heap.size,0,none⟩=some (.slice wa.a.L W.l.length wa.a.lc)∧W'.cell? ⟨w1.heap.size,1,none⟩=some (.slice wa.a.R wa.a.q.length wa.a.rc)∧W'.cell? ⟨w1.heap.size,2,none⟩=some (.slice wa.b.L W.m.length wa.b.lc)∧W'.cell? ⟨w1.heap.size,3,none⟩=some (.slice wa.b.R wa.b.q.length wa.b.rc))∧(W'.cell? ⟨w.heap.size+1,0,none⟩=some (.int .i64 d.c)∧W'.cell? ⟨w.heap.size+1,1,none⟩=some (.slice A n1 ac)∧W'.cell? ⟨w.heap.size+1,2,none⟩=some (.slice B n2 bc)∧W'.cell? ⟨w.heap.size+1,3,none⟩=some (.string (bs d.F)))∧Below w.heap.size w W' from by
   have h5:=H4.out.below (aj av (aj av (aj av aB))) h;obtain ⟨f1,hf1⟩:=h5.fst;obtain ⟨f2,hf2⟩:=h5.drop.fst
   exact ⟨⟨ay hf1 rfl,ay hf1 rfl,ay hf1 rfl,ay hf1 rfl⟩,⟨ay hf2 rfl,ay hf2 rfl,ay hf2 rfl,ay hf2 rfl⟩,h5.mod.below (fun _ _ h=>h)⟩))
  clear hP hS hca hcb hg HOK H3 H4 HA HB;go_upto_region 2 with (fail);generalize hw3:w1.alloc (.cells #[.slice wa.a.L W.l.length wa.a.lc,.slice wa.a.R wa.a.q.length wa.a.rc,.slice wa.b.L W.m.length wa.b.lc,.slice wa.b.R wa.b.q.length wa.b.rc] 169)=w3 at *
  clear hw3;generalize w1.heap.size=g12 at HC4 ⊢;obtain ⟨⟨a0,a1,a2,a3⟩,⟨q0,q1,q2,q3⟩,-⟩:=HC4.out w3 (Below.refl _ _);have K1:=hide (KA.out w3 HB3.out);go_wp2_with fail;refine K1.out.mono ?_;rintro e9 w4 ⟨F1,c1,ok1,rfl,⟨g1,g2,g3⟩,hw1,hb⟩;have HB4:=hide (aC HB3.out hb);have HD4:=hide hb;have HW1:=hide hw1;clear K1 hw1 hb a0 a1 a2 a3 q0 q1 q2 q3 KA;obtain ⟨⟨a0,a1,a2,a3⟩,⟨q0,q1,q2,q3⟩,-⟩:=HC4.out w4 HD4.out;have K2:=hide (KB.out w4 HB4.out);dsimp only;go_wp2_with fail;refine K2.out.mono ?_;rintro e9 w5 ⟨F2,c2,ok2,rfl,⟨g4,g5,g6⟩,hw2,hb⟩;have HD5:=hide (aC HD4.out hb);have HW2:=hide hw2;clear K2 hw2 hb a0 a1 a2 a3 q0 q1 q2 q3 KB;obtain ⟨-,⟨q0,q1,q2,q3⟩,hbe⟩:=HC4.out w5 HD5.out;have HBE:=hide hbe;clear hbe HC4;dsimp only
  have HRI:=hide (show qU T k x k2 y d→ok1=true∧ok2=true∧F1=d.F∧F2=d.F∧c1+c2=d.c from by
   rintro ⟨-,F,e1,e2,k1,k2,k3,k4⟩;have hWe:=HWe.out;rw [←hWe] at k1 k2;have q1:=HW1.out;have q2:=HW2.out;rw [HQA.out] at q1;rw [HQB.out] at q2;have p1:ok1=true:=by
    cases ok1 with
    | true=>rfl
    | false=>exact absurd (by subst hWe;exact k1) (q1.2 rfl _ _)
   have p2:ok2=true:=by
    cases ok2 with
    | true=>rfl
    | false=>exact absurd (by subst hWe;exact k2) (q2.2 rfl _ _)
   have r1:=q1.1 p1;have r2:=q2.1 p2;have r1':some (F1,c1,W.l.length)=some (F,e1,W.l.length):=r1.symm.trans (by subst hWe;exact k1);have r2':some (F2,c2,W.m.length)=some (F,e2,W.m.length):=r2.symm.trans (by subst hWe;exact k2);injection r1' with r1'
   injection r2' with r2'
   injection r1' with s1 s2
   injection s2 with s2 _
   injection r2' with s3 s4
   injection s4 with s4 _
   exact ⟨p1,p2,by rw [s1,k3],by rw [s3,k3],by rw [s2,s4];exact k4⟩)
  cases ok1 with
  | false =>
   go_wp2;go_ret;exact ⟨false,rfl,⟨(fun h=>by cases h),fun h=>by cases (HRI.out h).1⟩,HBE.out⟩
  | true =>
   cases ok2 with
   | false =>
    go_wp2;go_ret;exact ⟨false,rfl,⟨(fun h=>by cases h),fun h=>by cases (HRI.out h).2.1⟩,HBE.out⟩
   | true =>
    have HR:=hide (show F1=d.F→F2=d.F→c1+c2=d.c→qU T k x k2 y d from fun h1 h2 h3=>by
     have e1:=HW1.out.1 rfl;have e2:=HW2.out.1 rfl;rw [HQA.out,h1] at e1;rw [HQB.out,h2] at e2;have hWe:=HWe.out;subst hWe
     exact ⟨HOB.out,d.F,c1,c2,e1,e2,rfl,h3⟩)
    have tw:wrap64 (c1+c2)=c1+c2:=IntWalk.wrap64_in _ (by omega);clear HW1 HW2 HQA HQB HWe;by_cases h1:F1=d.F
    ·have t1:((bs F1).toList == (bs d.F).toList)=true:=by rw [iW];simp [h1]
     by_cases h2:F2=d.F
     ·have t2:((bs F2).toList == (bs d.F).toList)=true:=by rw [iW];simp [h2]
      by_cases h3:c1+c2=d.c
      ·have t3:(c1+c2 == d.c)=true:=by simp [h3]
       have HRR:=hide (HR.out h1 h2 h3);clear h1 h2 h3 HR;go_wp2;go_ret;exact ⟨true,rfl,⟨(fun _=>HRR.out),fun _=>rfl⟩,HBE.out⟩
      ·have t3:(c1+c2 == d.c)=false:=by simp [h3]
       have HXX:=hide (fun h=>h3 (HRI.out h).2.2.2.2);clear h1 h2 h3 HR;go_wp2;go_ret;exact ⟨false,rfl,⟨(fun h=>by cases h),fun h=>absurd h HXX.out⟩,HBE.out⟩
     ·have t2:((bs F2).toList == (bs d.F).toList)=false:=by rw [iW];simpa using fun h=>h2 (AZ h)
      have HXX:=hide (fun h=>h2 (HRI.out h).2.2.2.1);clear h1 h2 HR;go_wp2;go_ret;exact ⟨false,rfl,⟨(fun h=>by cases h),fun h=>absurd h HXX.out⟩,HBE.out⟩
    ·have t1:((bs F1).toList == (bs d.F).toList)=false:=by rw [iW];simpa using fun h=>h1 (AZ h)
     have HXX:=hide (fun h=>h1 (HRI.out h).2.2.1);clear h1 HR;go_wp2;go_ret;exact ⟨false,rfl,⟨(fun h=>by cases h),fun h=>absurd h HXX.out⟩,HBE.out⟩
end Go.Proofs.YtbnnlpjpnihheaaGreatDoor
namespace Go.CH.Mtc
open Go.CH.Scr Go.CH.dK

def tX (p:Pr) (z:Wy):Bool:=decide (z.kd=p.kd) && (decide (z.l=p.l) && decide (z.r=p.r))
theorem Gz {T:Tab} {k k2:Int} {x y:Bs} {p:Pr} (h:∀ z ∈ fB T k x k2 y,tX p z=false):¬ lT T k x k2 y p:=by
 rintro ⟨w,h1,-⟩;have h2:=h w (List.mem_of_find?_eq_some h1);have h3:=List.find?_some h1;unfold tX at h2;rw [h2] at h3;cases h3
theorem NZ {T:Tab} {k k2:Int} {x y:Bs} {p:Pr} {i:Nat} (hi:i < (fB T k x k2 y).length) (h:∀ z ∈ (fB T k x k2 y).take i,tX p z=false) (hz:tX p (fB T k x k2 y)[i]=true):lT T k x k2 y p↔p.c=(fB T k x k2 y)[i].c+p.d.c∧qU T k (fB T k x k2 y)[i].x k2 (fB T k x k2 y)[i].y p.d:=by
 have h1:(fB T k x k2 y).find? (fun w=>decide (w.kd=p.kd) && (decide (w.l=p.l) && decide (w.r=p.r)))=some (fB T k x k2 y)[i]:=by
  rw [List.find?_eq_some_iff_getElem];refine ⟨hz,i,hi,rfl,fun j hj=>?_⟩;have:=h (fB T k x k2 y)[j] (List.mem_take_iff_getElem.2 ⟨j,by omega,rfl⟩);unfold tX at this;rw [this];rfl
 unfold lT;constructor
 ·rintro ⟨w,h2,h3,h4⟩;rw [h1] at h2;injection h2 with h2
  subst h2;exact ⟨h3,h4⟩
 ·rintro ⟨h3,h4⟩;exact ⟨_,h1,h3,h4⟩
theorem yP {T:Tab} (hv:aX T=true) {k:Int} {l:List Bs}:∀ (ks:List Int) (i:Nat) {F:Bs} {c:Int} {e:Nat},i≤l.length→jT l (dU T.rs k) ks i=some (F,c,e)→ks.length+i≤e∧e≤l.length∧0≤c∧c≤ks.length*1000
 | [],i,F,c,e,hi,h=>by
  unfold jT at h;injection h with h
  injection h with h1 h2
  injection h2 with h2 h3
  subst h2 h3;simp [hi]
 | x :: ks,i,F,c,e,hi,h=>by
  unfold jT at h;split at h
  ·cases h
  ·rename_i r hr;split at h
   ·rename_i hf;rw [Option.map_eq_some_iff] at h;obtain ⟨z,hz,he⟩:=h;obtain ⟨zF,zc,ze⟩:=z;injection he with h1 h2
    injection h2 with h2 h3
    unfold iY at hf;rw [Bool.and_eq_true,decide_eq_true_eq] at hf;obtain ⟨a1,a2,a3,a4⟩:=yP hv ks (i+r.f.length) hf.1 hz;have hm:=List.mem_of_find?_eq_some hr;have b1:=Dp hm;obtain ⟨R,b2,-,-,b3⟩:=sQ hm;have b4:R ∈ T.rs:=List.mem_of_getElem? (List.mem_zipIdx_iff_getElem?.1 b2);have b5:=dN.1 (pG.1 ((kM.1 (bY.1 hv).2.1).2 R b4)).2.2;have b6:r.c=R.c:=by rw [b3]
    simp only at h2 h3;rw [List.length_cons];refine ⟨by omega,by omega,by omega,?_⟩;rw [Int.natCast_add,Int.add_mul];omega
   ·cases h

theorem ny {T:Tab} {k k2:Int} {x y:Bs} {d:Dv} (h:qU T k x k2 y d):0≤d.c∧d.c≤24000∧d.L.length≤12∧d.M.length≤12:=by
 obtain ⟨hok,F,c1,c2,h1,h2,-,h4⟩:=h;obtain ⟨e1,e2,e3⟩:=gG.1 hok;have l1:=(dz.1 (fU e1)).2.2;have l2:=(dz.1 (fU e2)).2.2;obtain ⟨a1,a2,a3,a4⟩:=yP e3 d.L 0 (Nat.zero_le _) h1;obtain ⟨b1,b2,b3,b4⟩:=yP e3 d.M 0 (Nat.zero_le _) h2;have l1':(bJ T k x k2 y).l.length≤12:=l1;have l2':(bJ T k x k2 y).m.length≤12:=l2;rw [←h4];omega
end Go.CH.Mtc
namespace Go.Proofs.YtbnnlpjpnihheaaGreatDoor
open Go.RowKit Go.CH Go.CH.Scr Go.CH.dK Go.CH.Mtc
open Go.ChangeMaps (setBlock)
attribute [local go_sem] Oper.semAt_some
theorem Rv {tmps:Array Value} {w:World} {g:Nat} {b:Bool} (h:tmps.getD 8 undef=.pointer (some ⟨g,0,none⟩)) (hc:w.cell? ⟨g,0,none⟩=some (.bool b)):(results Tryz.f39 tmps).run Tryz.prog w=.ok (.bool b) w:=by
 have e1:tmps[8]?.getD undef=.pointer (some ⟨g,0,none⟩):=by simpa using h
 have r1:=mJ (P:=Tryz.prog) w g 4 b hc Tryz.underlying4;simp only [results,Tryz.results39];simp [Sem.run_bind,Result.andThen,e1,asAddr,r1]

def TF (ws:List Wy) (p:Pr) (g8:Nat) (X:CH.Own) (i:Nat):CH.Own:=xw (∀ z ∈ ws.take i,tX p z=false) (star (au g8 #[.bool false] 4) X)

def UU (q:Bool→Prop) (g8:Nat) (c:Code):CH.Own:=nE fun b:Bool=>xw (c=.ret∧q b) (au g8 #[.bool b] 4)
theorem GA {ws:List Wy} {p:Pr} {g8 i:Nat} {X:CH.Own} (hX:X.Ok):(TF ws p g8 X i).Ok:=iE (aj av hX)
theorem Tt {q:Bool→Prop} {g8:Nat} {c:Code}:(UU q g8 c).Ok:=cO fun _=>iE av
theorem N7 {ws:List Wy} {p:Pr} {i:Nat} (hi:i < ws.length) (h:∀ z ∈ ws.take i,tX p z=false) (hz:tX p ws[i]=false):∀ z ∈ ws.take (i+1),tX p z=false:=by
 intro z hm;rw [List.take_succ_eq_append_getElem hi] at hm;rcases List.mem_append.1 hm with hm | hm
 ·exact h z hm
 ·rw [List.mem_singleton] at hm;rw [hm];exact hz

def GD (w:World) (T:Tab) (k:Int) (x:Bs) (k2:Int) (y:Bs) (p:Pr) (e:Ending) (w':World):Prop:=∃ b:Bool,e=.returned (.bool b)∧(b=true↔lT T k x k2 y p)∧Below w.heap.size w w'
theorem Aw {w:World} {T:Tab} {ta:TA} (hT:jJ w T ta) (hz:LZ w) {k k2:Int} {x y:Bs} (hx:x.length≤1000000) (hy:y.length≤1000000) (hok:okW T k x k2 y=true) {a c:WW} (hu:iB w (cu T k x) a) (hv:iB w (cu T k2 y) c) {p:Pr} {A B:Option Addr} {pc qc:Nat} (hA:jE w A p.d.L) (hB:jE w B p.d.M) (hl:p.d.L.length≤1000) (hm:p.d.M.length≤1000) :
  Calls Tryz.prog 39 #[eZ T ta,nP (cu T k x) a,nP (cu T k2 y) c,.agg (lX p A pc B qc)] w (GD w T k x k2 y p):=by
 obtain ⟨hw1,hw2,hval⟩:=gG.1 hok;have h1:=aG (Run.begin w) aB (dA T ta) 25;have h2:=aG h1 (aj av aB) (lu (cu T k x) a) 77;have h3:=aG h2 (aj av (aj av aB)) (lu (cu T k2 y) c) 77;have h4:=aG h3 (aj av (aj av (aj av aB))) (lX p A pc B qc) 44;have h5:=aG h4 (aj av (aj av (aj av (aj av aB)))) #[.bool false] 4;simp only [World.size_alloc] at h5;have H5:=hide h5;have HBW:=hide (fun W X (h:Run (fun _=>False) w X W)=>(show Below w.heap.size w W from h.mod.below (fun _ _ h=>h)));have HIT:=hide (fun b1 b2 b3=>Az (u:=cu T k x) (v:=cu T k2 y) (a:=a) (c:=c) (T:=T) (t:=ta) (b1:=b1) (b2:=b2) (b3:=b3) (dI hw1).1 (dI hw2).1 (Nat.le_trans (um hval) (by omega)) (Nat.le_trans (um hval) (by omega)) (fun z hz=>jZ hval hz) (fun z hz=>jZ hval hz) (Nat.le_trans (dI hw1).2 (by omega)) (Nat.le_trans (dI hw2).2 (by omega)));have HEE:=hide (fun W (hm:Mod (fun _=>False) w W)=>(show Tw (cu T k x) (cu T k2 y) a c W from ⟨hu.below (hm.below (fun _ _ h=>h)),hv.below (hm.below (fun _ _ h=>h))⟩));have HWS:=hide (show fA T.ini (cu T k x).vs (cu T k2 y).vs (cu T k x).ls (cu T k2 y).ls=fB T k x k2 y from rfl);have KB:=hide (fun W (hb:Below w.heap.size w W) (z:Wy) (hzm:z ∈ fB T k x k2 y)=>FI (hT.below hb) (hz.below hb) k z.x k2 z.y (Nat.le_trans (uj hzm).1 hx) (Nat.le_trans (uj hzm).2 hy) (d:=p.d) (ac:=pc) (bc:=qc) (hA.below hb) (hB.below hb) hl hm);have KW:=hide (fun W=>EA (u:=cu T k x) (v:=cu T k2 y) (a:=a) (c:=c) (T:=T) (t:=ta) W);have HVW:=hide (fun (z:Wy) (hzm:z ∈ fB T k x k2 y)=>sO hval hzm);have HK:=hide (show (cu T k x).k=k∧(cu T k2 y).k=k2 from ⟨rfl,rfl⟩);have HRN:=hide (fun h=>Gz (T:=T) (k:=k) (k2:=k2) (x:=x) (y:=y) (p:=p) h);have HRA:=hide (fun i hi h hz=>NZ (T:=T) (k:=k) (k2:=k2) (x:=x) (y:=y) (p:=p) (i:=i) hi h hz);have HRET:=hide (fun W (b:Bool) (h1:b=true↔lT T k x k2 y p) (hb:Below w.heap.size w W)=>(show GD w T k x k2 y p (.returned (.bool b)) W from ⟨b,rfl,h1,hb⟩));generalize GD w T k x k2 y p=RET at *
 clear hT hz hx hy hok hu hv hw1 hw2 hval h1 h2 h3 h4 h5 hA hB hl hm;generalize lT T k x k2 y p=RP at *
 generalize fB T k x k2 y=ws at *
 generalize cu T k x=u at *
 generalize cu T k2 y=v at *
 unfold nP eZ lX at *
 unfold lu dA at *
 generalize T.rs.length=n1 at *
 generalize T.ds.length=n2 at *
 generalize T.es.length=n3 at *
 obtain ⟨aA,ac,aD,ad,aE,ae⟩:=ta;dsimp only at H5 KB ⊢;refine (callsIn_wide (n:=8)).1 ?_;refine callsIn_of_wp_marks Tryz.func39 rfl trivial ?_ rfl;simp only [Tryz.ntmps39,List.size_toArray,List.length_cons,List.length_nil,Nat.reduceAdd,Nat.reduceSub,Array.replicate_succ,Array.replicate_zero,List.push_toArray,List.append_toArray,List.nil_append,List.cons_append];refine (wpIn_wide (n:=8)).2 ?_;go_upto_region 1 with (fail);generalize ((((w.alloc (.cells #[.slice aA n1 ac,.slice aD n2 ad,.slice aE n3 ae,.int .i64 T.drop,.int .i64 T.ord,.int .i64 T.ini] 25)).alloc (.cells #[.int .i64 u.k,.slice a.V u.vs.length a.vc,.slice a.L u.ls.length a.lc] 77)).alloc (.cells #[.int .i64 v.k,.slice c.V v.vs.length c.vc,.slice c.L v.ls.length c.lc] 77)).alloc (.cells #[.int .i64 p.i,.int .i64 p.j,.int .i64 p.kd,.int .i64 p.l,.int .i64 p.r,.int .i64 p.c,.int .i64 p.d.c,.slice A p.d.L.length pc,.slice B p.d.M.length qc,.string (bs p.d.F)] 44)).alloc (.cells #[.bool false] 4)=w5 at *
 generalize w.heap.size+1+1+1+1=g8 at *
 generalize w.heap.size+1+1+1=g7 at *
 generalize w.heap.size+1+1=g6 at *
 generalize w.heap.size+1=g5 at *
 generalize hg4:w.heap.size=g4 at H5 ⊢;clear hg4;have okBX:=hide (aj av (aj av (aj av (aj av aB))):((star (au g7 #[.int .i64 p.i,.int .i64 p.j,.int .i64 p.kd,.int .i64 p.l,.int .i64 p.r,.int .i64 p.c,.int .i64 p.d.c,.slice A p.d.L.length pc,.slice B p.d.M.length qc,.string (bs p.d.F)] 44) (star (au g6 #[.int .i64 v.k,.slice c.V v.vs.length c.vc,.slice c.L v.ls.length c.lc] 77) (star (au g5 #[.int .i64 u.k,.slice a.V u.vs.length a.vc,.slice a.L u.ls.length a.lc] 77) (star (au g4 #[.slice aA n1 ac,.slice aD n2 ad,.slice aE n3 ae,.int .i64 T.drop,.int .i64 T.ord,.int .i64 T.ini] 25) emp))))).Ok);obtain ⟨t0,t1,t2,t3,t4,t5⟩:=bW H5.out.drop.drop.drop.drop;obtain ⟨u0,u1,u2⟩:=cK H5.out.drop.drop.drop;obtain ⟨v0,v1,v2⟩:=cK H5.out.drop.drop;have KW2:=hide (KW.out w5);clear KW;go_wp2_with fail;refine KW2.out.mono ?_;rintro e9 w6 ⟨b1,b2,b3,rfl,hp⟩;have ok5:=hide (aj av okBX.out:(star (au g8 #[.bool false] 4) (star (au g7 #[.int .i64 p.i,.int .i64 p.j,.int .i64 p.kd,.int .i64 p.l,.int .i64 p.r,.int .i64 p.c,.int .i64 p.d.c,.slice A p.d.L.length pc,.slice B p.d.M.length qc,.string (bs p.d.F)] 44) (star (au g6 #[.int .i64 v.k,.slice c.V v.vs.length c.vc,.slice c.L v.ls.length c.lc] 77) (star (au g5 #[.int .i64 u.k,.slice a.V u.vs.length a.vc,.slice a.L u.ls.length a.lc] 77) (star (au g4 #[.slice aA n1 ac,.slice aD n2 ad,.slice aE n3 ae,.int .i64 T.drop,.int .i64 T.ord,.int .i64 T.ini] 25) emp))))).Ok);have H6:=hide (H5.out.fresh ok5.out hp);clear KW2 H5 hp t0 t1 t2 t3 t4 t5 u0 u1 u2 v0 v1 v2;dsimp only;go_wp2_with fail;have HIT2:=hide (HIT.out b1 b2 b3);rw [HWS.out] at HIT2;clear HIT;have h8:Run (fun _=>False) w (star (TF ws p g8 (star (au g7 #[.int .i64 p.i,.int .i64 p.j,.int .i64 p.kd,.int .i64 p.l,.int .i64 p.r,.int .i64 p.c,.int .i64 p.d.c,.slice A p.d.L.length pc,.slice B p.d.M.length qc,.string (bs p.d.F)] 44) (star (au g6 #[.int .i64 v.k,.slice c.V v.vs.length c.vc,.slice c.L v.ls.length c.lc] 77) (star (au g5 #[.int .i64 u.k,.slice a.V u.vs.length a.vc,.slice a.L u.ls.length a.lc] 77) (star (au g4 #[.slice aA n1 ac,.slice aD n2 ad,.slice aE n3 ae,.int .i64 T.drop,.int .i64 T.ord,.int .i64 T.ini] 25) emp)))) 0) (Zy u v a c T ⟨aA,ac,aD,ad,aE,ae⟩ b1 b2 b3)) w6:=Run.jF (fun z hz=>by rw [List.take_zero] at hz;cases hz) (H6.out.perm (by ac_rfl));have HST:=hide h8.swap;clear h8 H6;have okI2:∀ (i:Nat) (a':Act),(nE fun g9:Nat=>nE fun z:Wy=>xw (ws[i]?=some z∧a'={ tmps:=#[.agg #[.slice aA n1 ac,.slice aD n2 ad,.slice aE n3 ae,.int .i64 T.drop,.int .i64 T.ord,.int .i64 T.ini],.agg #[.int .i64 u.k,.slice a.V u.vs.length a.vc,.slice a.L u.ls.length a.lc],.agg #[.int .i64 v.k,.slice c.V v.vs.length c.vc,.slice c.L v.ls.length c.lc],.agg #[.int .i64 p.i,.int .i64 p.j,.int .i64 p.kd,.int .i64 p.l,.int .i64 p.r,.int .i64 p.c,.int .i64 p.d.c,.slice A p.d.L.length pc,.slice B p.d.M.length qc,.string (bs p.d.F)],.pointer (some ⟨g4,0,none⟩),.pointer (some ⟨g5,0,none⟩),.pointer (some ⟨g6,0,none⟩),.pointer (some ⟨g7,0,none⟩),.pointer (some ⟨g8,0,none⟩),.pointer (some ⟨g9,0,none⟩),.agg #[.slice aA n1 ac,.slice aD n2 ad,.slice aE n3 ae,.int .i64 T.drop,.int .i64 T.ord,.int .i64 T.ini],.agg #[.int .i64 u.k,.slice a.V u.vs.length a.vc,.slice a.L u.ls.length a.lc],.agg #[.int .i64 v.k,.slice c.V v.vs.length c.vc,.slice c.L v.ls.length c.lc],Uq b1 b2 b3,.agg (jk z),undef,undef,undef,undef,undef,undef,undef,undef,undef,undef,undef,undef,undef,undef,undef,undef,undef,undef,undef,undef,undef,undef,undef,undef,undef,undef,undef,undef,undef,undef,undef,undef,undef,undef,undef,undef,undef,undef,undef,undef,undef,undef,undef,undef,undef,undef],defers:=[] }) (star (au g9 (jk z) 119) (TF ws p g8 (star (au g7 #[.int .i64 p.i,.int .i64 p.j,.int .i64 p.kd,.int .i64 p.l,.int .i64 p.r,.int .i64 p.c,.int .i64 p.d.c,.slice A p.d.L.length pc,.slice B p.d.M.length qc,.string (bs p.d.F)] 44) (star (au g6 #[.int .i64 v.k,.slice c.V v.vs.length c.vc,.slice c.L v.ls.length c.lc] 77) (star (au g5 #[.int .i64 u.k,.slice a.V u.vs.length a.vc,.slice a.L u.ls.length a.lc] 77) (star (au g4 #[.slice aA n1 ac,.slice aD n2 ad,.slice aE n3 ae,.int .i64 T.drop,.int .i64 T.ord,.int .i64 T.ini] 25) emp)))) i))).Ok:=fun i a'=>cO fun g9=>cO fun z=>iE (aj av (GA okBX.out));refine mZ (gf:=93) (lb:=#[.pointer (some ⟨b1,0,none⟩),.pointer (some ⟨b2,0,none⟩),.pointer (some ⟨b3,0,none⟩)]) rfl (enters_of Tryz.func93 (by kernel_rfl) rfl) HIT2.out jf (fun _=>rfl) HEE.out (fun i=>TF ws p g8 (star (au g7 #[.int .i64 p.i,.int .i64 p.j,.int .i64 p.kd,.int .i64 p.l,.int .i64 p.r,.int .i64 p.c,.int .i64 p.d.c,.slice A p.d.L.length pc,.slice B p.d.M.length qc,.string (bs p.d.F)] 44) (star (au g6 #[.int .i64 v.k,.slice c.V v.vs.length c.vc,.slice c.L v.ls.length c.lc] 77) (star (au g5 #[.int .i64 u.k,.slice a.V u.vs.length a.vc,.slice a.L u.ls.length a.lc] 77) (star (au g4 #[.slice aA n1 ac,.slice aD n2 ad,.slice aE n3 ae,.int .i64 T.drop,.int .i64 T.ord,.int .i64 T.ini] 25) emp)))) i) (UU (fun b=>b=true↔RP) g8) (fun i=>GA okBX.out) _ okI2 (fun _=>Tt) HST.out ?_ ?_ ?_ ?_
 ·intro lo m i hi R' W1 K hR hI hK;have h3:=aG hI (aj (GA okBX.out) hR) (jk ws[i]) 119;have HF:=hide (hK { tmps:=#[.agg #[.slice aA n1 ac,.slice aD n2 ad,.slice aE n3 ae,.int .i64 T.drop,.int .i64 T.ord,.int .i64 T.ini],.agg #[.int .i64 u.k,.slice a.V u.vs.length a.vc,.slice a.L u.ls.length a.lc],.agg #[.int .i64 v.k,.slice c.V v.vs.length c.vc,.slice c.L v.ls.length c.lc],.agg #[.int .i64 p.i,.int .i64 p.j,.int .i64 p.kd,.int .i64 p.l,.int .i64 p.r,.int .i64 p.c,.int .i64 p.d.c,.slice A p.d.L.length pc,.slice B p.d.M.length qc,.string (bs p.d.F)],.pointer (some ⟨g4,0,none⟩),.pointer (some ⟨g5,0,none⟩),.pointer (some ⟨g6,0,none⟩),.pointer (some ⟨g7,0,none⟩),.pointer (some ⟨g8,0,none⟩),.pointer (some ⟨W1.heap.size,0,none⟩),.agg #[.slice aA n1 ac,.slice aD n2 ad,.slice aE n3 ae,.int .i64 T.drop,.int .i64 T.ord,.int .i64 T.ini],.agg #[.int .i64 u.k,.slice a.V u.vs.length a.vc,.slice a.L u.ls.length a.lc],.agg #[.int .i64 v.k,.slice c.V v.vs.length c.vc,.slice c.L v.ls.length c.lc],Uq b1 b2 b3,.agg (jk ws[i]),undef,undef,undef,undef,undef,undef,undef,undef,undef,undef,undef,undef,undef,undef,undef,undef,undef,undef,undef,undef,undef,undef,undef,undef,undef,undef,undef,undef,undef,undef,undef,undef,undef,undef,undef,undef,undef,undef,undef,undef,undef,undef,undef,undef,undef,undef],defers:=[] } _ (Run.qW W1.heap.size (Run.qW ws[i] (Run.jF ⟨List.getElem?_eq_getElem hi,rfl⟩ (h3.perm (by ac_rfl))))));clear hI h3 hK;unfold GH;generalize ws[i]=z at *
  obtain ⟨zkd,zl,zr,zc,zx,zy⟩:=z;unfold jk;unfold jk at HF;dsimp only at HF;dsimp only;gi_wp2;exact HF.out
 ·intro lo m i hi a' R' W1 hR hI;obtain ⟨g9,h1⟩:=hI.ex;obtain ⟨z,h1⟩:=h1.ex;obtain ⟨⟨hxz,rfl⟩,h2⟩:=h1.pure;have hze:ws[i]=z:=by rw [List.getElem?_eq_getElem hi] at hxz;injection hxz
  have hzm:z ∈ ws:=by rw [←hze];exact List.getElem_mem hi
  obtain ⟨hno,h3⟩:=(h2.perm (by ac_rfl:_=star (TF ws p g8 (star (au g7 #[.int .i64 p.i,.int .i64 p.j,.int .i64 p.kd,.int .i64 p.l,.int .i64 p.r,.int .i64 p.c,.int .i64 p.d.c,.slice A p.d.L.length pc,.slice B p.d.M.length qc,.string (bs p.d.F)] 44) (star (au g6 #[.int .i64 v.k,.slice c.V v.vs.length c.vc,.slice c.L v.ls.length c.lc] 77) (star (au g5 #[.int .i64 u.k,.slice a.V u.vs.length a.vc,.slice a.L u.ls.length a.lc] 77) (star (au g4 #[.slice aA n1 ac,.slice aD n2 ad,.slice aE n3 ae,.int .i64 T.drop,.int .i64 T.ord,.int .i64 T.ini] 25) emp)))) i) (star (au g9 (jk z) 119) R'))).pure;have HNO:=hide (fun hz=>N7 hi hno (by rw [hze];exact hz));have HYES:=hide (fun hz=>by have:=HRA.out i hi hno (by rw [hze];exact hz);rw [hze] at this;exact this);have HRR:=hide hR;have H3:=hide (h3.perm (by ac_rfl:_=(star (au g9 (jk z) 119) (star (au g8 #[.bool false] 4) (star (au g7 #[.int .i64 p.i,.int .i64 p.j,.int .i64 p.kd,.int .i64 p.l,.int .i64 p.r,.int .i64 p.c,.int .i64 p.d.c,.slice A p.d.L.length pc,.slice B p.d.M.length qc,.string (bs p.d.F)] 44) (star (au g6 #[.int .i64 v.k,.slice c.V v.vs.length c.vc,.slice c.L v.ls.length c.lc] 77) (star (au g5 #[.int .i64 u.k,.slice a.V u.vs.length a.vc,.slice a.L u.ls.length a.lc] 77) (star (au g4 #[.slice aA n1 ac,.slice aD n2 ad,.slice aE n3 ae,.int .i64 T.drop,.int .i64 T.ord,.int .i64 T.ini] 25) (star R' emp)))))))));have okS:=hide (aj av (aj av (aj av (aj av (aj av (aj av (aj hR aB)))))):((star (au g9 (jk z) 119) (star (au g8 #[.bool false] 4) (star (au g7 #[.int .i64 p.i,.int .i64 p.j,.int .i64 p.kd,.int .i64 p.l,.int .i64 p.r,.int .i64 p.c,.int .i64 p.d.c,.slice A p.d.L.length pc,.slice B p.d.M.length qc,.string (bs p.d.F)] 44) (star (au g6 #[.int .i64 v.k,.slice c.V v.vs.length c.vc,.slice c.L v.ls.length c.lc] 77) (star (au g5 #[.int .i64 u.k,.slice a.V u.vs.length a.vc,.slice a.L u.ls.length a.lc] 77) (star (au g4 #[.slice aA n1 ac,.slice aD n2 ad,.slice aE n3 ae,.int .i64 T.drop,.int .i64 T.ord,.int .i64 T.ini] 25) (star R' emp)))))))).Ok);have hcz:=HVW.out z hzm;have KB2:=hide (KB.out W1 (HBW.out _ _ H3.out) z hzm);rw [←HK.out.1,←HK.out.2] at KB2;clear hI h1 h2 h3 hxz hze hzm hi hno hR;obtain ⟨zkd,zl,zr,zc,zx,zy⟩:=z;unfold jk at H3 okS ⊢;dsimp only at H3 okS hcz KB2 HNO HYES ⊢;obtain ⟨⟨w0',w1',w2',w3',w4',w5'⟩,⟨w6',w7',w8',w9',w10',w11'⟩,wf⟩:=uo H3.out;obtain ⟨⟨p0,p1,p2,p3,p4⟩,⟨p5,p6,p7,p8,p9⟩,pf⟩:=bg H3.out.drop.drop;have HGO:=hide (fun (hn:∀ z ∈ ws.take (i+1),tX p z=false)=>(show Run (fun _=>False) w (star (TF ws p g8 (star (au g7 #[.int .i64 p.i,.int .i64 p.j,.int .i64 p.kd,.int .i64 p.l,.int .i64 p.r,.int .i64 p.c,.int .i64 p.d.c,.slice A p.d.L.length pc,.slice B p.d.M.length qc,.string (bs p.d.F)] 44) (star (au g6 #[.int .i64 v.k,.slice c.V v.vs.length c.vc,.slice c.L v.ls.length c.lc] 77) (star (au g5 #[.int .i64 u.k,.slice a.V u.vs.length a.vc,.slice a.L u.ls.length a.lc] 77) (star (au g4 #[.slice aA n1 ac,.slice aD n2 ad,.slice aE n3 ae,.int .i64 T.drop,.int .i64 T.ord,.int .i64 T.ini] 25) emp)))) (i+1)) R') W1 from Run.jF hn (H3.out.drop.perm (by ac_rfl:_=star (star (au g8 #[.bool false] 4) (star (au g7 #[.int .i64 p.i,.int .i64 p.j,.int .i64 p.kd,.int .i64 p.l,.int .i64 p.r,.int .i64 p.c,.int .i64 p.d.c,.slice A p.d.L.length pc,.slice B p.d.M.length qc,.string (bs p.d.F)] 44) (star (au g6 #[.int .i64 v.k,.slice c.V v.vs.length c.vc,.slice c.L v.ls.length c.lc] 77) (star (au g5 #[.int .i64 u.k,.slice a.V u.vs.length a.vc,.slice a.L u.ls.length a.lc] 77) (star (au g4 #[.slice aA n1 ac,.slice aD n2 ad,.slice aE n3 ae,.int .i64 T.drop,.int .i64 T.ord,.int .i64 T.ini] 25) emp))))) R'))));by_cases hk1:zkd=p.kd
  ·have t1:(zkd == p.kd)=true:=by simp [hk1]
   by_cases hk2:zl=p.l
   ·have t2:(zl == p.l)=true:=by simp [hk2]
    by_cases hk3:zr=p.r
    ·have t3:(zr == p.r)=true:=by simp [hk3]
     have HY:=hide (HYES.out (by unfold tX;simp [hk1,hk2,hk3]));clear hk1 hk2 hk3 HYES HNO HGO;refine wpIn_block (wpIn_seq (dB rfl (fun ⟨a,w,h⟩=>h) ?_));go_wp2_with fail
     iterate 2 gi_step
     clear w0' w1' w2' w3' w4' w6' w7' w8' w9' p0 p1 p2 p3 p4 t1 t2 t3;have H4:=hide (H3.out.perm (by ac_rfl:_=star (au g8 #[.bool false] 4) (star (au g9 #[.int .i64 0,.int .i64 0,.int .i64 zkd,.int .i64 zl,.int .i64 zr,.int .i64 zc,.int .i64 0,.slice none 0 0,.slice none 0 0,.string ⟨#[]⟩,.string (bs zx),.string (bs zy)] 119) (star (star (au g7 #[.int .i64 p.i,.int .i64 p.j,.int .i64 p.kd,.int .i64 p.l,.int .i64 p.r,.int .i64 p.c,.int .i64 p.d.c,.slice A p.d.L.length pc,.slice B p.d.M.length qc,.string (bs p.d.F)] 44) (star (au g6 #[.int .i64 v.k,.slice c.V v.vs.length c.vc,.slice c.L v.ls.length c.lc] 77) (star (au g5 #[.int .i64 u.k,.slice a.V u.vs.length a.vc,.slice a.L u.ls.length a.lc] 77) (star (au g4 #[.slice aA n1 ac,.slice aD n2 ad,.slice aE n3 ae,.int .i64 T.drop,.int .i64 T.ord,.int .i64 T.ini] 25) emp)))) R'))));have okR:=hide (aj av (aj okBX.out HRR.out):(star (au g9 #[.int .i64 0,.int .i64 0,.int .i64 zkd,.int .i64 zl,.int .i64 zr,.int .i64 zc,.int .i64 0,.slice none 0 0,.slice none 0 0,.string ⟨#[]⟩,.string (bs zx),.string (bs zy)] 119) (star (star (au g7 #[.int .i64 p.i,.int .i64 p.j,.int .i64 p.kd,.int .i64 p.l,.int .i64 p.r,.int .i64 p.c,.int .i64 p.d.c,.slice A p.d.L.length pc,.slice B p.d.M.length qc,.string (bs p.d.F)] 44) (star (au g6 #[.int .i64 v.k,.slice c.V v.vs.length c.vc,.slice c.L v.ls.length c.lc] 77) (star (au g5 #[.int .i64 u.k,.slice a.V u.vs.length a.vc,.slice a.L u.ls.length a.lc] 77) (star (au g4 #[.slice aA n1 ac,.slice aD n2 ad,.slice aE n3 ae,.int .i64 T.drop,.int .i64 T.ord,.int .i64 T.ini] 25) emp)))) R')).Ok);obtain ⟨t0,t1,t2,t3,t4,t5⟩:=bW H3.out.drop.drop.drop.drop.drop;obtain ⟨u0,u1,u2⟩:=cK H3.out.drop.drop.drop.drop;obtain ⟨v0,v1,v2⟩:=cK H3.out.drop.drop.drop;obtain ⟨s,hs⟩:∃ s,wrap64 (zc+p.d.c)=s:=⟨_,rfl⟩;have HSE:=hide (show 0≤p.d.c→p.d.c≤100000→s=zc+p.d.c from fun h1 h2=>by rw [←hs];exact IntWalk.wrap64_in _ (by omega));have hF:∀ (b:Bool) W,Below W1.heap.size W1 W→Run (fun _=>False) w (star (UU (fun b=>b=true↔RP) g8 .ret) R') (W.setCell ⟨g8,0,none⟩ (.bool b))∨¬ (b=true↔RP):=fun b W hb=>by
      by_cases hq:b=true↔RP
      ·have h5:Run (fun _=>False) w (star (au g8 #[.bool b] 4) _) _:=aH (H4.out.below (aj av okR.out) hb) okR.out 0 (.bool b);exact .inl (Run.qW b (Run.jF ⟨rfl,hq⟩ ((h5.perm (by ac_rfl:_=star (star (au g9 #[.int .i64 0,.int .i64 0,.int .i64 zkd,.int .i64 zl,.int .i64 zr,.int .i64 zc,.int .i64 0,.slice none 0 0,.slice none 0 0,.string ⟨#[]⟩,.string (bs zx),.string (bs zy)] 119) (star (au g7 #[.int .i64 p.i,.int .i64 p.j,.int .i64 p.kd,.int .i64 p.l,.int .i64 p.r,.int .i64 p.c,.int .i64 p.d.c,.slice A p.d.L.length pc,.slice B p.d.M.length qc,.string (bs p.d.F)] 44) (star (au g6 #[.int .i64 v.k,.slice c.V v.vs.length c.vc,.slice c.L v.ls.length c.lc] 77) (star (au g5 #[.int .i64 u.k,.slice a.V u.vs.length a.vc,.slice a.L u.ls.length a.lc] 77) (star (au g4 #[.slice aA n1 ac,.slice aD n2 ad,.slice aE n3 ae,.int .i64 T.drop,.int .i64 T.ord,.int .i64 T.ini] 25) emp))))) (star (au g8 #[.bool b] 4) R'))).drop)))
      ·exact .inr hq
     have HFF:=hide hF;clear hF;refine wpIn_seq (dB rfl (fun ⟨a,w,h⟩=>h) ?_);obtain ⟨FB,hFB⟩:=H4.out.fst;have q0:=ay (i:=0) hFB rfl;have qf:=aJ hFB;by_cases hps:p.c=s
     ·have t6:(p.c == s)=true:=by simp [hps]
      go_wp2_with fail;refine KB2.out.mono ?_;rintro e9 w2 ⟨bb,rfl,hbb,hb⟩;have H5:=hide (H4.out.below (aj av okR.out) hb);obtain ⟨FC,hFC⟩:=H5.out.fst;have r0:=ay (i:=0) hFC rfl;have rf:=aJ hFC;clear q0 qf hFB FB KB2;have hiff:bb=true↔RP:=by
       rw [HK.out.1,HK.out.2] at hbb;rw [hbb,HY.out];constructor
       ·intro h;obtain ⟨c1,c2,-,-⟩:=ny h;exact ⟨by rw [hps,HSE.out c1 (by omega)],h⟩
       ·exact fun h=>h.2
      have HE:=hide ((HFF.out bb w2 hb).resolve_right (fun h=>h hiff));clear hiff hbb hps;go_wp2_with fail;gi_wp2;exact HE.out
     ·have t6:(p.c == s)=false:=by simp [hps]
      have hiff:false=true↔RP:=by
       constructor
       ·intro h;cases h
       ·intro h;obtain ⟨h1,h2⟩:=HY.out.1 h;obtain ⟨c1,c2,-,-⟩:=ny h2;exact absurd (by rw [h1,HSE.out c1 (by omega)]) hps
      have HE:=hide ((HFF.out false W1 (Below.refl _ _)).resolve_right (fun h=>h hiff));clear hiff hps;go_wp2_with fail;gi_wp2;exact HE.out
    ·have t3:(zr == p.r)=false:=by simp [hk3]
     have HN:=hide (HNO.out (by unfold tX;simp [hk3]));clear HYES HNO;refine wpIn_block (wpIn_seq (dB rfl (fun ⟨a,w,h⟩=>h) ?_));go_wp2_with fail;gi_wp2;exact HGO.out HN.out
   ·have t2:(zl == p.l)=false:=by simp [hk2]
    have HN:=hide (HNO.out (by unfold tX;simp [hk2]));clear HYES HNO;refine wpIn_block (wpIn_seq (dB rfl (fun ⟨a,w,h⟩=>h) ?_));go_wp2_with fail;gi_wp2;exact HGO.out HN.out
  ·have t1:(zkd == p.kd)=false:=by simp [hk1]
   have HN:=hide (HNO.out (by unfold tX;simp [hk1]));clear HYES HNO;refine wpIn_block (wpIn_seq (dB rfl (fun ⟨a,w,h⟩=>h) ?_));go_wp2_with fail;gi_wp2;exact HGO.out HN.out
 ·intro D R W1 hR hI;obtain ⟨hno,h3⟩:=hI.pure;rw [List.take_length] at hno;have HN:=hide (HRN.out hno);have h4:=h3.perm (by ac_rfl:_=star (au g8 #[.bool false] 4) (star (star (au g7 #[.int .i64 p.i,.int .i64 p.j,.int .i64 p.kd,.int .i64 p.l,.int .i64 p.r,.int .i64 p.c,.int .i64 p.d.c,.slice A p.d.L.length pc,.slice B p.d.M.length qc,.string (bs p.d.F)] 44) (star (au g6 #[.int .i64 v.k,.slice c.V v.vs.length c.vc,.slice c.L v.ls.length c.lc] 77) (star (au g5 #[.int .i64 u.k,.slice a.V u.vs.length a.vc,.slice a.L u.ls.length a.lc] 77) (star (au g4 #[.slice aA n1 ac,.slice aD n2 ad,.slice aE n3 ae,.int .i64 T.drop,.int .i64 T.ord,.int .i64 T.ini] 25) emp)))) (star (bE D (.deferred (some []))) R)));have okR:=hide (aj okBX.out (aj bH hR):(star (star (au g7 #[.int .i64 p.i,.int .i64 p.j,.int .i64 p.kd,.int .i64 p.l,.int .i64 p.r,.int .i64 p.c,.int .i64 p.d.c,.slice A p.d.L.length pc,.slice B p.d.M.length qc,.string (bs p.d.F)] 44) (star (au g6 #[.int .i64 v.k,.slice c.V v.vs.length c.vc,.slice c.L v.ls.length c.lc] 77) (star (au g5 #[.int .i64 u.k,.slice a.V u.vs.length a.vc,.slice a.L u.ls.length a.lc] 77) (star (au g4 #[.slice aA n1 ac,.slice aD n2 ad,.slice aE n3 ae,.int .i64 T.drop,.int .i64 T.ord,.int .i64 T.ini] 25) emp)))) (star (bE D (.deferred (some []))) R)).Ok);obtain ⟨F8,hF8⟩:=h4.fst;have q0:=ay (i:=0) hF8 rfl;have qf:=aJ hF8;have h5:Run (fun _=>False) w (star (au g8 #[.bool false] 4) _) _:=aH h4 okR.out 0 (.bool false);have h6:=h5.perm (by ac_rfl:_=star (bE D (.deferred (some []))) (star (au g8 #[.bool false] 4) (star (star (au g7 #[.int .i64 p.i,.int .i64 p.j,.int .i64 p.kd,.int .i64 p.l,.int .i64 p.r,.int .i64 p.c,.int .i64 p.d.c,.slice A p.d.L.length pc,.slice B p.d.M.length qc,.string (bs p.d.F)] 44) (star (au g6 #[.int .i64 v.k,.slice c.V v.vs.length c.vc,.slice c.L v.ls.length c.lc] 77) (star (au g5 #[.int .i64 u.k,.slice a.V u.vs.length a.vc,.slice a.L u.ls.length a.lc] 77) (star (au g4 #[.slice aA n1 ac,.slice aD n2 ad,.slice aE n3 ae,.int .i64 T.drop,.int .i64 T.ord,.int .i64 T.ini] 25) emp)))) R)));obtain ⟨FD,hD,-,bk2⟩:=h6.take bH (aj av (aj okBX.out hR));have HD:=hide hD.1;have h8:=bk2 _ _ (iy hD (.deferred none));obtain ⟨F9,hF9⟩:=h8.drop.fst;have HC:=hide (ay (i:=0) hF9 rfl);have HE:=hide (HRET.out _ false ⟨(fun h=>by cases h),fun h=>absurd h HN.out⟩ (HBW.out _ _ h8));clear hno h3 h4 h5 h6 hF8 F8 hD bk2 h8 hF9 F9 hI;go_wp2_with fail;refine ⟨by simp,.inl ⟨_,_,rfl,run_takeDeferred HD.out,?_⟩⟩;refine ⟨_,Rv rfl HC.out,HE.out⟩
 ·intro D c R W1 hR hI;obtain ⟨b,hI⟩:=hI.ex;obtain ⟨⟨rfl,hb⟩,h3⟩:=hI.pure;have h6:=h3.perm (by ac_rfl:_=star (bE D (.deferred (some []))) (star (au g8 #[.bool b] 4) R));obtain ⟨FD,hD,-,bk2⟩:=h6.take bH (aj av hR);have HD:=hide hD.1;have h8:=bk2 _ _ (iy hD (.deferred none));obtain ⟨F9,hF9⟩:=h8.drop.fst;have HC:=hide (ay (i:=0) hF9 rfl);have HE:=hide (HRET.out _ b hb (HBW.out _ _ h8));clear h3 h6 hD bk2 h8 hF9 F9 hI hb;go_wp2_with fail;refine ⟨by simp,.inl ⟨_,_,rfl,run_takeDeferred HD.out,?_⟩⟩;refine ⟨_,Rv rfl HC.out,HE.out⟩
end Go.Proofs.YtbnnlpjpnihheaaGreatDoor
namespace Go.CH.Mtc
open Go.CH.Scr Go.CH.dK

def OP (ds:List Int) (us:List Int) (i:Nat):Int:=aY.sg i fun r=>if (r:Int) ∈ us then 0 else ds.getD r 0
theorem Er (ds us:List Int):OP ds us 0=0:=rfl
theorem Es (ds us:List Int) (i:Nat):OP ds us (i+1)=OP ds us i+if (i:Int) ∈ us then 0 else ds.getD i 0:=rfl
theorem qx {ds us:List Int} (h:∀ d ∈ ds,0≤d∧d≤1000):∀ i,0≤OP ds us i∧OP ds us i≤i*1000
 | 0=>by rw [Er];simp
 | i+1=>by
  have h1:=qx (us:=us) h i;have h2:0≤ds.getD i 0∧ds.getD i 0≤1000:=by
   rw [List.getD_eq_getElem?_getD];cases hd:ds[i]? with
   | none=>simp
   | some x=>exact h x (List.mem_of_getElem? hd)
  rw [Es,Int.natCast_add,Int.add_mul];split <;> omega
theorem tY {T:Tab} {n:bq} {us:List Int}:OP (n.ws.map (aZ T n.k)) us n.ws.length=jy T n us:=by
 refine aY.bB fun i hi=>?_;have:(n.ws.map (aZ T n.k)).getD i 0=dM T n i:=Go.Proofs.YtbnnlpjpnihheaaGreatDoor.jC n hi;rw [this]
end Go.CH.Mtc
namespace Go.Proofs.YtbnnlpjpnihheaaGreatDoor
open Go.RowKit Go.CH Go.CH.Scr Go.CH.dK Go.CH.Mtc
open Go.ChangeMaps (setBlock)
theorem N8:mg Tryz.prog 3 (Value.int .i64):=by
 refine ⟨fun a b w=>?_,fun e a w=>?_,fun a=>?_,_,Tryz.underlying3,fun a b=>.inr ?_⟩
 ·rw [Op.equal,Op.maxDepth,Ia (.int Tryz.underlying3 a) (.int Tryz.underlying3 b) 9999 w]
  show Result.ok (a == b) w=_
  rw [show (a == b)=decide (a=b) from by rw [Bool.eq_iff_iff];simp]
 ·exact xL (.int Tryz.underlying3 a) e 9999 w
 ·unfold Instr.sameBits;simp
 ·unfold Instr.sameNow;simp only [];exact congrArg some (by rw [Bool.eq_iff_iff];simp)

def iG (b:Nat) (us:List Int):CH.Own:=fQ (Value.int .i64) b (us.map fun x=>(x,.bool true))
theorem gB {b:Nat} {us:List Int}:(iG b us).Ok:=map_ok
theorem N9 {b:Nat} {us:List Int} {w:World} {F:Nat→Prop} (h:iG b us w F) (x:Int):(Instr.lookup 92 (.map (some b)) (.int .i64 x) false).run Tryz.prog w=.ok (.bool (decide (x ∈ us))) w:=by
 have h1:=D8 N8 Tryz.underlying92 Tryz.zeroValue4 h x;rw [yI] at h1;rw [h1];by_cases hx:x ∈ us
 ·rw [if_pos hx,decide_eq_true hx];rfl
 ·rw [if_neg hx,decide_eq_false hx];rfl
theorem BN {b:Nat} {us:List Int} {w:World} {F:Nat→Prop} (h:iG b us w F) {x:Int} (hx:x ∉ us):∃ w',(Instr.mapUpdate 92 (.map (some b)) (.int .i64 x) (.bool true)).run Tryz.prog w=.ok () w'∧Post w F (iG b (us ++ [x])) w':=by
 obtain ⟨w',h1,h2⟩:=oQ N8 Tryz.underlying92 h x (.bool true);have e:jW (us.map fun x=>(x,Value.bool true)) x (.bool true)=(us ++ [x]).map fun x=>(x,Value.bool true):=by
  rw [qh (by rw [List.map_map];simpa [Function.comp_def] using hx),List.map_append];rfl
 rw [e] at h2;exact ⟨w',h1,h2⟩
theorem tZ {w:World} {F:Nat→Prop} {g b:Nat} {c0:Int} {us ds:List Int} {B:Option Addr} {bc:Nat} (h:star (au g #[.int .i64 c0] 3) (iG b us) w F) (hD:∀ W,Mod F w W→jE W B ds) (hn:ds.length≤1000) (hd:∀ d ∈ ds,0≤d∧d≤1000) (h0:0≤c0) (h1:c0≤1000000000) :
  Calls Tryz.prog 40 #[.slice B ds.length bc,.map (some b),.pointer (some ⟨g,0,none⟩)] w (fun e w'=>(∃ v,e=.returned v)∧Post w F (star (au g #[.int .i64 (c0+OP ds us ds.length)] 3) (iG b us)) w'):=by
 have H0:=hide (Run.start h);have HD:=hide hD;have HB:=hide (fun i=>qx (us:=us) hd i);have HS:=hide (fun i=>Es ds us i);have HGE:=hide (fun i (hi:i < ds.length)=>(show ds.getD i 0=ds[i]∧0≤ds[i]∧ds[i]≤1000 from ⟨by rw [List.getD_eq_getElem?_getD,List.getElem?_eq_getElem hi];rfl,hd _ (List.getElem_mem hi)⟩));obtain ⟨n,hnn⟩:∃ n,n=ds.length:=⟨_,rfl⟩;have HN:=hide hnn;rw [←hnn] at hn ⊢;clear h hD hd hnn
 go_enter Tryz.func40,Tryz.ntmps40
 go_wp2;go_loopw [9] (fun kk wr=>∃ i:Nat,kk=.int .i64 i∧i≤n∧Run F w (star (au g #[.int .i64 (c0+OP ds us i)] 3) (iG b us)) wr) (fun kk _=>n - (intOf kk).toNat)
 case atStart=>exact ⟨0,rfl,Nat.zero_le _,by rw [Er,Int.add_zero];exact H0.out⟩
 case round =>
  obtain ⟨i,rfl,hi,hR⟩:=hrel;have HR:=hide hR;clear hR H0;by_cases hlt:i < n
  ·have hil:i < ds.length:=by rw [←HN.out];exact hlt
   obtain ⟨b0,o,rfl,hc⟩:=Asn.Vec.at (HD.out wr HR.out.mod) (by omega);have ck:=hc wr (Below.refl _ _) i hil;obtain ⟨e1,e2,e3⟩:=HGE.out i hil;have hS:=HS.out i;rw [e1] at hS;have hB:=HB.out i;obtain ⟨F1,hF1⟩:=HR.out.fst;have q0:=ay (i:=0) hF1 rfl;have qf:=aJ hF1;obtain ⟨F2,hF2⟩:=HR.out.swap.fst;have hl:=N9 hF2 (i:Int);generalize ds[i]=x at *
   clear hc e1 hil;generalize hr0:OP ds us i=r0 at *
   generalize hr1:OP ds us (i+1)=r1 at *
   have HR1:=hide hr1;clear hr0 hr1;by_cases hm:(i:Int) ∈ us
   ·rw [if_pos hm] at hS;rw [decide_eq_true hm] at hl;have HE:=hide (show Run F w (star (au g #[.int .i64 (c0+r1)] 3) (iG b us)) wr from by rw [hS,Int.add_zero];exact HR.out);clear hS hB hm hF1 hF2 F1 F2 HR;go_wp2
    go_roundw
    case rel=>exact ⟨i+1,by go_num,hlt,by rw [HR1.out];exact HE.out⟩
    case measure=>simp [intOf];omega
   ·rw [if_neg hm] at hS;rw [decide_eq_false hm] at hl;have hq:(i:Int)*1000≤1000000:=by omega
    have tw:wrap64 (c0+r0+x)=c0+r1:=by rw [IntWalk.wrap64_in _ (by omega)];omega
    have HE:=hide (show Run F w (star (au g #[.int .i64 (c0+r1)] 3) (iG b us)) (wr.setCell ⟨g,0,none⟩ (.int .i64 (c0+r1))) from aH HR.out gB 0 (.int .i64 (c0+r1)));clear hS hB hm hF1 hF2 F1 F2 HR e2 e3 hq;go_wp2
    go_roundw
    case rel=>exact ⟨i+1,by go_num,hlt,by rw [HR1.out];exact HE.out⟩
    case measure=>simp [intOf];omega
  ·obtain rfl:n=i:=by omega
   have HE:=hide (HR.out.post (aj av gB));clear HR;go_wp2;refine bodyPost_end (results_none rfl _ _ _) rfl ?_;exact ⟨⟨_,rfl⟩,HE.out⟩
end Go.Proofs.YtbnnlpjpnihheaaGreatDoor
namespace Go.CH.Mtc
open Go.CH.Scr Go.CH.dK

def uf (ps:List Pr) (i:Nat):Int:=match (ps.take i).getLast? with | some p=>p.i | none => -1
def Et (ps:List Pr) (i:Nat):Int:=match (ps.take i).getLast? with | some p=>p.j | none => -1

def PK (T:Tab) (a b:bq) (s:Bool) (ps:List Pr) (i:Nat):Prop:=jw T a b s (uf ps i) (Et ps i) ((ps.take i).map (·.j)).reverse (ps.drop i)
section
variable {T:Tab} {a b:bq} {s:Bool} {ps:List Pr} {i:Nat}
theorem oW (hi:i < ps.length):uf ps (i+1)=ps[i].i∧Et ps (i+1)=ps[i].j:=by
 unfold uf Et;rw [List.take_succ_eq_append_getElem hi,List.getLast?_append];exact ⟨rfl,rfl⟩
theorem I5:PK T a b s ps 0↔jw T a b s (-1) (-1) [] ps:=Iff.rfl
theorem Oa:PK T a b s ps ps.length:=by
 unfold PK;rw [List.drop_length]
 trivial
theorem I6 (hi:i < ps.length):PK T a b s ps i↔uf ps i < ps[i].i∧ps[i].i < a.ws.length∧0≤ps[i].j∧ps[i].j < b.ws.length∧ps[i].j ∉ (ps.take i).map (·.j)∧(s=true∨Et ps i≤ps[i].j)∧lT T a.k (wd a ps[i].i.toNat) b.k (wd b ps[i].j.toNat) ps[i]∧PK T a b s ps (i+1):=by
 have e:PK T a b s ps (i+1)=jw T a b s ps[i].i ps[i].j (ps[i].j :: ((ps.take i).map (·.j)).reverse) (ps.drop (i+1)):=by
  unfold PK;rw [(oW hi).1,(oW hi).2,List.take_succ_eq_append_getElem hi,List.map_append,List.reverse_append];rfl
 rw [e];unfold PK;rw [List.drop_eq_getElem_cons hi];rw [jw,List.mem_reverse]
theorem yQ (hv:aX T=true) {k k2:Int} {x y:Bs} {p:Pr} (h:lT T k x k2 y p):0≤p.c∧p.c≤26000:=by
 obtain ⟨w,h1,h2,h3⟩:=h;obtain ⟨c1,c2,-,-⟩:=ny h3;have:=sO hv (List.mem_of_find?_eq_some h1);omega
theorem Eu (hi:i < ps.length):((ps.take (i+1)).map (·.c)).sum=((ps.take i).map (·.c)).sum+ps[i].c:=by
 rw [List.take_succ_eq_append_getElem hi,List.map_append,List.sum_append];simp
theorem oZ {β:Type} (f:Pr→β) (hi:i < ps.length):(ps.take (i+1)).map f=(ps.take i).map f ++ [f ps[i]]:=by
 rw [List.take_succ_eq_append_getElem hi,List.map_append];rfl

def Tv (ps:List Pr) (i:Nat):Prop := -1≤uf ps i∧∀ x ∈ (ps.take i).map (·.i),x≤uf ps i
theorem Ev:Tv ps 0:=⟨Int.le_refl _,fun x hx=>by rw [List.take_zero] at hx;cases hx⟩
theorem Ew (hi:i < ps.length) (h:Tv ps i) (hp:uf ps i < ps[i].i):Tv ps (i+1):=by
 unfold Tv;rw [(oW hi).1,oZ _ hi];refine ⟨by have:=h.1;omega,fun x hx=>?_⟩;rcases List.mem_append.1 hx with hx | hx
 ·have:=h.2 x hx;omega
 ·rw [List.mem_singleton] at hx;rw [hx];exact Int.le_refl _
theorem I7 (h:Tv ps i) {x:Int} (hx:uf ps i < x):x ∉ (ps.take i).map (·.i):=fun hm=>by have:=h.2 x hm;omega
end
end Go.CH.Mtc
namespace Go.Proofs.YtbnnlpjpnihheaaGreatDoor
open Go.RowKit Go.CH Go.CH.Scr Go.CH.dK Go.CH.Mtc
open Go.ChangeMaps (setBlock)

def vg (w:World) (T:Tab) (a b:bq) (m:Mt) (e:Ending) (w':World):Prop:=∃ o:Bool,e=.returned (.bool o)∧(o=true↔oJ T a b m)∧Below w.heap.size w w'
theorem BO {w W:World} {T:Tab} {a b:bq} {m:Mt} (h:nM T a b=false) (hb:Below w.heap.size w W):vg w T a b m (.returned (.bool false)) W :=
 ⟨false,rfl,⟨(fun h=>by cases h),fun h2=>by have h3:=h2.1;rw [h] at h3;cases h3⟩,hb⟩

theorem NW.at {w:World} {A:Option Addr} {l:List (Pr × PA)} (h:NW w A l) (hn:0 < l.length):∃ b o,A=some ⟨b,o,none⟩∧∀ W,Below w.heap.size w W→∀ j (hj:j < l.length) i u,(vQ l[j])[i]?=some u→W.cell? ⟨b,o+j*10+i,none⟩=some u :=
 wu.at (R:=vQ) (fun _=>rfl) (by omega) h.row hn
theorem Rw {b:Nat} {us:List Int} {F0:Nat→Prop} {w0 W:World} {X:CH.Own} (h:Run F0 w0 (star (iG b us) X) W) (x:Int):(Instr.lookup 92 (.map (some b)) (.int .i64 x) false).run Tryz.prog W=.ok (.bool (decide (x ∈ us))) W:=by
 obtain ⟨F,hF⟩:=h.fst;exact N9 hF x
end Go.Proofs.YtbnnlpjpnihheaaGreatDoor
