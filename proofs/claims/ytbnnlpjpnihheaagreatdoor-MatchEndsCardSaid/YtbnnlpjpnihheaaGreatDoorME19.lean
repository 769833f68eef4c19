/- A part of the proof: lemmas. -/
import Derived.Test.YtbnnlpjpnihheaaGreatDoorME17
import Derived.Test.YtbnnlpjpnihheaaGreatDoorME18
set_option maxHeartbeats 16000000
set_option maxRecDepth 100000
set_option linter.unusedSimpArgs false
set_option linter.unusedVariables false
namespace Go.Proofs.YtbnnlpjpnihheaaGreatDoor
open Go.RowKit Go.CH Go.CH.Scr Go.CH.dK Go.CH.Mtc
open Go.ChangeMaps (setBlock)
theorem Ob {w:World} {T:Tab} {ta:TA} (hT:jJ w T ta) (hz:LZ w) {a b:bq} {An Bn Am:Option Addr} {ca cb cm:Nat} (hA:fF w An a.ws) (hB:fF w Bn b.ws) (hla:a.ws.length≤1000000) (hlb:b.ws.length≤1000000) (hwa:∀ x ∈ a.ws,x.length≤1000000) (hwb:∀ x ∈ b.ws,x.length≤1000000) {mc:Int} {l:List (Pr × PA)} (hM:NW w Am l) (hln:l.length≤1000) (hlm:∀ e ∈ l,e.1.d.L.length≤1000∧e.1.d.M.length≤1000) :
  Calls Tryz.prog 16 #[eZ T ta,BS a An ca,BS b Bn cb,.agg #[.int .i64 mc,.bool false,.slice Am l.length cm]] w (vg w T a b ⟨mc,false,l.map (·.1)⟩):=by
 have h1:=aG (Run.begin w) aB (dA T ta) 25;have h2:=aG h1 (aj av aB) #[.int .i64 a.k,.slice An a.ws.length ca] 28;have h3:=aG h2 (aj av (aj av aB)) #[.int .i64 b.k,.slice Bn b.ws.length cb] 28;have h4:=aG h3 (aj av (aj av (aj av aB))) #[.int .i64 mc,.bool false,.slice Am l.length cm] 31;simp only [World.size_alloc] at h4;have H4:=hide h4;have HBW:=hide (fun W X (h:Run (fun _=>False) w X W)=>(show Below w.heap.size w W from h.mod.below (fun _ _ h=>h)));have KA:=hide (fun W (hb:Below w.heap.size w W)=>(jL (n:=a) (cn:=ca) (hT.below hb) (hz.below hb) (aR hA hb) hla hwa).mono fun e w' h=>qo h);have KB:=hide (fun W (hb:Below w.heap.size w W)=>(jL (n:=b) (cn:=cb) (hT.below hb) (hz.below hb) (aR hB hb) hlb hwb).mono fun e w' h=>qo h);have KR0:=hide (fun (hv1:aX T=true) (hv2:dx a=true) (hv3:dx b=true) W (hb:Below w.heap.size w W) (i j:Nat) (hi:i < a.ws.length) (hj:j < b.ws.length) (u v:WW) (hu:iB W (cu T a.k (wd a i)) u) (hv:iB W (cu T b.k (wd b j)) v) (k:Nat) (hk:k < l.length)=>Aw (hT.below hb) (hz.below hb) (hwa _ (ko hi)) (hwb _ (ko hj)) (gG.2 ⟨(bG.1 hv2).1 _ (ko hi),(bG.1 hv3).1 _ (ko hj),hv1⟩) hu hv (p:=l[k].1) (pc:=l[k].2.ac) (qc:=l[k].2.bc) (hM.below hb |>.all _ (List.getElem_mem hk)).1 ((hM.below hb).all _ (List.getElem_mem hk)).2 (hlm _ (List.getElem_mem hk)).1 (hlm _ (List.getElem_mem hk)).2);have HMR:=hide (fun W (hb:Below w.heap.size w W)=>hM.below hb);clear hT hz hA hB hla hlb hwa hwb h1 h2 h3 h4 hM hlm;unfold eZ BS at *
 unfold dA at *
 generalize T.rs.length=n1 at *
 generalize T.ds.length=n2 at *
 generalize T.es.length=n3 at *
 obtain ⟨la,hla⟩:∃ la,la=a.ws.length:=⟨_,rfl⟩;obtain ⟨lb,hlb⟩:∃ lb,lb=b.ws.length:=⟨_,rfl⟩;obtain ⟨nm,hnm⟩:∃ nm,nm=l.length:=⟨_,rfl⟩;have HLA:=hide hla;have HLB:=hide hlb;have HNM:=hide hnm;rw [←hla] at H4 KA ⊢;rw [←hlb] at H4 KB ⊢;rw [←hnm] at H4 hln ⊢;clear hla hlb hnm;obtain ⟨aA,ac,aD,ad,aE,ae⟩:=ta;dsimp only at H4 KA KB KR0 ⊢;generalize hw4:(((w.alloc (.cells #[.slice aA n1 ac,.slice aD n2 ad,.slice aE n3 ae,.int .i64 T.drop,.int .i64 T.ord,.int .i64 T.ini] 25)).alloc (.cells #[.int .i64 a.k,.slice An la ca] 28)).alloc (.cells #[.int .i64 b.k,.slice Bn lb cb] 28)).alloc (.cells #[.int .i64 mc,.bool false,.slice Am nm cm] 31)=w4 at H4;generalize hg5:w.heap.size+1=g5 at H4;generalize hg6:g5+1=g6 at H4;generalize hg7:g6+1=g7 at H4
 go_enter Tryz.func16,Tryz.ntmps16
 go_upto_region 1 with (fail);clear hw4 hg5 hg6 hg7;have ok4:=hide ((aj av (aj av (aj av (aj av aB)))):(star (au g7 #[.int .i64 mc,.bool false,.slice Am nm cm] 31) (star (au g6 #[.int .i64 b.k,.slice Bn lb cb] 28) (star (au g5 #[.int .i64 a.k,.slice An la ca] 28) (star (au w.heap.size #[.slice aA n1 ac,.slice aD n2 ad,.slice aE n3 ae,.int .i64 T.drop,.int .i64 T.ord,.int .i64 T.ini] 25) emp)))).Ok);obtain ⟨t0,t1,t2,t3,t4,t5⟩:=bW H4.out.drop.drop.drop;obtain ⟨s0,s1,sf⟩:=bO H4.out.drop.drop;have KA2:=hide (KA.out w4 (HBW.out _ _ H4.out));clear KA;go_wp2_with fail;refine KA2.out.mono ?_;rintro e9 w5 ⟨xA,n,xc,xB,p,xd,o1,rfl,hb,hov,hR⟩;have H5:=hide (H4.out.below ok4.out hb);have HO1:=hide hov;have HR1:=hide hR;clear KA2 hb hov hR t0 t1 t2 t3 t4 t5 s0 s1 sf H4;have H6:=hide (aG H5.out ok4.out #[.slice xA n xc,.slice xB p xd] 71);have ok5:=hide ((aj av (aj av (aj av (aj av (aj av aB))))):((star (au w5.heap.size #[.slice xA n xc,.slice xB p xd] 71) (star (au g7 #[.int .i64 mc,.bool false,.slice Am nm cm] 31) (star (au g6 #[.int .i64 b.k,.slice Bn lb cb] 28) (star (au g5 #[.int .i64 a.k,.slice An la ca] 28) (star (au w.heap.size #[.slice aA n1 ac,.slice aD n2 ad,.slice aE n3 ae,.int .i64 T.drop,.int .i64 T.ord,.int .i64 T.ini] 25) emp)))))).Ok);have HB6:=hide (show Below w5.heap.size w5 (w5.alloc (.cells #[.slice xA n xc,.slice xB p xd] 71)) from (Below.refl _ _).alloc (Nat.le_refl _) _);dsimp only;go_upto_region 2 with (fail);generalize w5.alloc (.cells #[.slice xA n xc,.slice xB p xd] 71)=w6 at *
 clear H5;generalize hw5:w5.heap.size=g9 at *
 have HW5:=hide hw5;clear hw5;obtain ⟨t0,t1,t2,t3,t4,t5⟩:=bW H6.out.drop.drop.drop.drop;obtain ⟨s0,s1,sf⟩:=bO H6.out.drop.drop;have KB2:=hide (KB.out w6 (HBW.out _ _ H6.out));clear KB;go_wp2_with fail;refine KB2.out.mono ?_;rintro e9 w7 ⟨yA,m,yc,yB,q,yd,o2,rfl,hb,hov,hR⟩;have H7:=hide (H6.out.below ok5.out hb);have HO2:=hide hov;have HR2:=hide hR;have HB7:=hide (show Below w5.heap.size w5 w7 from by rw [HW5.out];exact HB6.out.trans (hb.mono (Nat.le_trans (Nat.le_of_eq HW5.out.symm) HB6.out.size)));clear KB2 hb hov hR t0 t1 t2 t3 t4 t5 s0 s1 sf H6 HB6;have H8:=hide (aG H7.out ok5.out #[.slice yA m yc,.slice yB q yd] 71);have ok6:=hide ((aj av (aj av (aj av (aj av (aj av (aj av aB)))))):((star (au w7.heap.size #[.slice yA m yc,.slice yB q yd] 71) (star (au g9 #[.slice xA n xc,.slice xB p xd] 71) (star (au g7 #[.int .i64 mc,.bool false,.slice Am nm cm] 31) (star (au g6 #[.int .i64 b.k,.slice Bn lb cb] 28) (star (au g5 #[.int .i64 a.k,.slice An la ca] 28) (star (au w.heap.size #[.slice aA n1 ac,.slice aD n2 ad,.slice aE n3 ae,.int .i64 T.drop,.int .i64 T.ord,.int .i64 T.ini] 25) emp))))))).Ok);have HB8:=hide (show Below w7.heap.size w7 (w7.alloc (.cells #[.slice yA m yc,.slice yB q yd] 71))∧w5.heap.size≤w7.heap.size from ⟨(Below.refl _ _).alloc (Nat.le_refl _) _,HB7.out.size⟩);dsimp only;go_upto_region 3 with (fail);generalize w7.alloc (.cells #[.slice yA m yc,.slice yB q yd] 71)=w8 at *
 clear H7;generalize hw7:w7.heap.size=g11 at *
 have HW7:=hide hw7;clear hw7;cases o1 with
 | false =>
  have HNO:=hide (fun W hb=>BO (w:=w) (W:=W) (T:=T) (a:=a) (b:=b) (m:=⟨mc,false,l.map (·.1)⟩) (by unfold nM;rw [←Bool.and_assoc,←HO1.out];rfl) hb);go_wp2;go_ret;exact HNO.out _ (HBW.out _ _ H8.out)
 | true =>
  cases o2 with
  | false =>
   have HNO:=hide (fun W hb=>BO (w:=w) (W:=W) (T:=T) (a:=a) (b:=b) (m:=⟨mc,false,l.map (·.1)⟩) (by unfold nM;rw [Bool.and_comm (dx a),←Bool.and_assoc,←HO2.out];rfl) hb);go_wp2;go_ret;exact HNO.out _ (HBW.out _ _ H8.out)
  | true =>
   obtain ⟨hn,hp,hnc,hpd,l1,hN1⟩:=HR1.out rfl;obtain ⟨hm,hq,hmc,hqd,l2,hN2⟩:=HR2.out rfl;obtain rfl:la=n:=hn.symm;obtain rfl:la=p:=hp.symm;obtain rfl:lb=m:=hm.symm;obtain rfl:lb=q:=hq.symm;have hv1:aX T=true∧dx a=true:=by have h1:=HO1.out;rw [eq_comm,Bool.and_eq_true] at h1;exact h1
   have hv2:dx b=true:=by have h1:=HO2.out;rw [eq_comm,Bool.and_eq_true] at h1;exact h1.2
   have HOM:=hide (show nM T a b=true from by unfold nM;rw [hv1.1,hv1.2,hv2];rfl);have hb78:Below w7.heap.size w7 w8:=by rw [HW7.out];exact HB8.out.1
   have HVT:=hide hv1.1;have hla6:la≤6:=by rw [HLA.out];exact (bG.1 hv1.2).2.2
   have hlb6:lb≤6:=by rw [HLB.out];exact (bG.1 hv2).2.2
   have HN:=hide (fun W (hb:Below w8.heap.size w8 W)=>(show uZ W T a l1 xA xB∧uZ W T b l2 yA yB from by
    have h7:Below w7.heap.size w7 W:=hb78.trans (hb.mono hb78.size)
    exact ⟨hN1.below (HB7.out.trans (h7.mono HB7.out.size)),hN2.below h7⟩))
   have HXA:=hide (fun i (hi:i < la)=>u7 (HN.out w8 (Below.refl _ _)).1 (i:=i) (by rw [←HLA.out];exact hi));have HYA:=hide (fun i (hi:i < lb)=>u7 (HN.out w8 (Below.refl _ _)).2 (i:=i) (by rw [←HLB.out];exact hi));have hb8:Below w.heap.size w w8:=HBW.out _ _ H8.out;have HB:=hide (fun W (hb:Below w8.heap.size w8 W)=>hb8.trans (hb.mono hb8.size));have KR:=hide (fun W (hb:Below w8.heap.size w8 W) (i j:Nat) (hi:i < la) (hj:j < lb) (u v:WW) hu hv (k:Nat) (hk:k < l.length)=>KR0.out hv1.1 hv1.2 hv2 W (HB.out W hb) i j (by rw [←HLA.out];exact hi) (by rw [←HLB.out];exact hj) u v hu hv k hk);have HMR8:=hide (HMR.out w8 hb8);obtain ⟨t0,t1,t2,t3,t4,t5⟩:=bW H8.out.drop.drop.drop.drop.drop;obtain ⟨m0,m1,m2⟩:=cK H8.out.drop.drop;obtain ⟨x0,x1,-⟩:=bO H8.out.drop;obtain ⟨y0,y1,-⟩:=bO H8.out;have HCL:=hide (fun W (hb:Below w8.heap.size w8 W)=>(show W.cell? ⟨w.heap.size,0,none⟩=some (.slice aA n1 ac)∧W.cell? ⟨w.heap.size,1,none⟩=some (.slice aD n2 ad)∧W.cell? ⟨w.heap.size,2,none⟩=some (.slice aE n3 ae)∧W.cell? ⟨w.heap.size,3,none⟩=some (.int .i64 T.drop)∧W.cell? ⟨w.heap.size,4,none⟩=some (.int .i64 T.ord)∧W.cell? ⟨w.heap.size,5,none⟩=some (.int .i64 T.ini)∧W.cell? ⟨g7,0,none⟩=some (.int .i64 mc)∧W.cell? ⟨g7,1,none⟩=some (.bool false)∧W.cell? ⟨g7,2,none⟩=some (.slice Am nm cm)∧W.cell? ⟨g9,0,none⟩=some (.slice xA la xc)∧W.cell? ⟨g9,1,none⟩=some (.slice xB la xd)∧W.cell? ⟨g11,0,none⟩=some (.slice yA lb yc)∧W.cell? ⟨g11,1,none⟩=some (.slice yB lb yd) from ⟨aF t0 hb,aF t1 hb,aF t2 hb,aF t3 hb,aF t4 hb,aF t5 hb,aF m0 hb,aF m1 hb,aF m2 hb,aF x0 hb,aF x1 hb,aF y0 hb,aF y1 hb⟩));obtain ⟨ps,hps⟩:∃ ps,ps=l.map (·.1):=⟨_,rfl⟩;have HPS:=hide hps;have hpl:ps.length=nm:=by rw [hps,List.length_map];exact HNM.out.symm
   have HPL:=hide hpl
   have HRM:=hide (show oJ T a b ⟨mc,false,l.map (·.1)⟩↔PK T a b false ps 0∧mc=(0:Int)+(ps.map (·.c)).sum+jy T a (ps.map (·.i))+jy T b (ps.map (·.j)) from by
    rw [←hps];unfold oJ sN;rw [I5]
    simp [HOM.out])
   have HRET:=hide (fun W (o:Bool) (h1:o=true↔PK T a b false ps 0∧mc=(0:Int)+(ps.map (·.c)).sum+jy T a (ps.map (·.i))+jy T b (ps.map (·.j))) (hb:Below w8.heap.size w8 W)=>(show vg w T a b ⟨mc,false,l.map (·.1)⟩ (.returned (.bool o)) W from ⟨o,rfl,h1.trans HRM.out.symm,HB.out W hb⟩));have hord:=dN.1 (bY.1 HVT.out).1.2.2.2.1;clear hN1 hN2 hv1 hv2 hb78 hn hp hm hq HR1 HR2 HO1 HO2 hpl hps HMR HRM KR0;have hmk:∀ w:World,(Instr.makeMap 92 none).run Tryz.prog w=.ok (.map (some w.heap.size)) (w.alloc (.map #[] 0)):=fun w=>by kernel_rfl
   have h20:=aG (Run.begin w8) aB #[.int .i64 0] 3;have H20:=hide h20;clear h20 t0 t1 t2 t3 t4 t5 m0 m1 m2 x0 x1 y0 y1;go_upto_region 6 with (fail);generalize hg13:w8.heap.size=g13 at H20 ⊢;generalize w8.alloc (.cells #[.int .i64 0] 3)=w85 at *
   obtain ⟨t0,t1,t2,t3,t4,t5,m0,m1,m2,x0,x1,y0,y1⟩:=HCL.out w85 H20.out.bI;obtain ⟨FQ,hFQ⟩:=H20.out.fst;have q0:=ay (i:=0) hFQ rfl;have qf:=aJ hFQ;have H21:=hide (show Run (fun _=>False) w8 (star (au g13 #[.int .i64 (0:Int)] 3) emp) w85 from H20.out);clear H20 hFQ FQ hg13;go_upto_region 8 with (fail);generalize w85=w9 at *
   clear q0 qf;have h22:=(H21.out.fresh (aj av aB) (lK (kv:=Value.int .i64) w9)).fresh (aj map_ok (aj av aB)) (lK (kv:=Value.int .i64) (w9.alloc (.map #[] 0)));simp only [World.size_alloc] at h22;have H22:=hide (h22.perm (by show _=star _ (star (fQ (Value.int .i64) _ []) (star (fQ (Value.int .i64) _ []) emp));ac_rfl:_=star (au g13 #[.int .i64 ((0:Int))] 3) (star (iG w9.heap.size []) (star (iG (w9.heap.size+1) []) emp))));clear h22 H21 t0 t1 t2 t3 t4 t5 m0 m1 m2 x0 x1 y0 y1 H8;go_upto_region 9 with (fail);generalize (w9.alloc (.map #[] 0)).alloc (.map #[] 0)=w10 at *
   generalize w9.heap.size=g14 at *
   clear hmk;obtain ⟨t0,t1,t2,t3,t4,t5,m0,m1,m2,x0,x1,y0,y1⟩:=HCL.out w10 H22.out.bI;go_wp2_with fail;clear t0 t1 t2 t3 t4 t5 m0 m1 m2 x0 x1 y0 y1;go_loopw [14,15,48] (fun lst bef kk wr=>∃ i:Nat,lst=.int .i64 (uf ps i)∧bef=.int .i64 (Et ps i)∧kk=.int .i64 i∧i≤nm∧(PK T a b false ps 0↔PK T a b false ps i)∧Tv ps i∧0≤((ps.take i).map (·.c)).sum∧((ps.take i).map (·.c)).sum≤26000*(i:Int)∧Run (fun _=>False) w8 (star (au g13 #[.int .i64 ((0:Int)+((ps.take i).map (·.c)).sum)] 3) (star (iG g14 ((ps.take i).map (·.i))) (star (iG (g14+1) ((ps.take i).map (·.j))) emp))) wr) (fun _ _ kk _=>nm - (intOf kk).toNat)
   case atStart=>exact ⟨0,rfl,rfl,rfl,Nat.zero_le _,Iff.rfl,Ev,Int.le_refl _,Int.le_refl _,by show Run _ _ (star (au g13 #[.int .i64 ((0:Int)+0)] 3) _) _;rw [Int.add_zero];exact H22.out⟩
   case round =>
    obtain ⟨i,rfl,rfl,rfl,hi,hI,hL,hs1,hs2,hR⟩:=hrel;have HR:=hide hR;have HI:=hide hI;have HL:=hide hL;clear H22 hR hI hL;obtain ⟨t0,t1,t2,t3,t4,t5,m0,m1,m2,x0,x1,y0,y1⟩:=HCL.out wr HR.out.bI;have hi1000:(i:Int)≤1000:=by omega
    by_cases hlt:i < nm
    ·have hil:i < l.length:=by rw [←HNM.out];exact hlt
     have hip:i < ps.length:=by rw [HPL.out];exact hlt
     obtain ⟨mb,mo,hAm,hc⟩:=HMR8.out.at (by omega);have KRX:=hide (fun W hb i' j' hi' hj' u v hu hv=>KR.out W hb i' j' hi' hj' u v hu hv i hil);obtain ⟨x,hx⟩:∃ x,x=l[i]:=⟨_,rfl⟩;have hpx:ps[i]=x.1:=by
      have h1:=HPS.out;subst h1;rw [List.getElem_map,hx]
     have HNX:=hide (I6 (T:=T) (a:=a) (b:=b) (s:=false) hip);have HLN:=hide (oW hip);have HLE:=hide (fun h=>Ew hip HL.out h);have HLE0:=hide (show -1≤uf ps i from HL.out.1);have HLW:=hide (fun x h=>I7 HL.out (x:=x) h);have HSU:=hide (Eu hip);have HMI:=hide (oZ (fun p:Pr=>p.i) hip);have HMJ:=hide (oZ (fun p:Pr=>p.j) hip);have hce:∀ W,Below w8.heap.size w8 W→∀ k u,(vQ x)[k]?=some u→W.cell? ⟨mb,mo+i*10+k,none⟩=some u:=fun W hb k u hu=>hc W hb i hil k u (by rw [←hx];exact hu);rw [hpx] at HNX HLN HLE HSU HMI HMJ;rw [←hx] at KRX;clear hpx hx hc hil hip HL;subst hAm;obtain ⟨⟨pI,pJ,pK,pL,pR,pC,pD⟩,⟨eA,pc,eB,qc⟩⟩:=x;dsimp only at HNX HLN HLE HSU HMI HMJ KRX;have c0:=hce wr HR.out.bI 0 _ rfl;have c1:=hce wr HR.out.bI 1 _ rfl;have c2:=hce wr HR.out.bI 2 _ rfl;have c3:=hce wr HR.out.bI 3 _ rfl;have c4:=hce wr HR.out.bI 4 _ rfl;have c5:=hce wr HR.out.bI 5 _ rfl;have c6:=hce wr HR.out.bI 6 _ rfl;have c7:=hce wr HR.out.bI 7 _ rfl;have c8:=hce wr HR.out.bI 8 _ rfl;have c9:=hce wr HR.out.bI 9 _ rfl;dsimp only at c0 c1 c2 c3 c4 c5 c6 c7 c8 c9;rw [Nat.add_zero] at c0;clear hce;unfold lX at KRX;dsimp only at KRX;generalize hLS:uf ps i=lst at *
     generalize hBF:Et ps i=bef at *
     generalize hlf:(ps.take i).map (·.i)=lf at *
     generalize hrt:(ps.take i).map (·.j)=rt at *
     generalize hsm:((ps.take i).map (·.c)).sum=sm at *
     clear hLS hBF hlf hrt hsm;have okR:=hide (aj av (aj gB (aj gB aB)):(star (au g13 #[.int .i64 ((0:Int)+sm)] 3) (star (iG g14 lf) (star (iG (g14+1) rt) emp))).Ok);have H12:=hide (aG HR.out okR.out #[.int .i64 pI,.int .i64 pJ,.int .i64 pK,.int .i64 pL,.int .i64 pR,.int .i64 pC,.int .i64 pD.c,.slice eA pD.L.length pc,.slice eB pD.M.length qc,.string (bs pD.F)] 44);have HLK:=hide (fun W (h:Run (fun _=>False) w8 (star (au wr.heap.size #[.int .i64 pI,.int .i64 pJ,.int .i64 pK,.int .i64 pL,.int .i64 pR,.int .i64 pC,.int .i64 pD.c,.slice eA pD.L.length pc,.slice eB pD.M.length qc,.string (bs pD.F)] 44) (star (au g13 #[.int .i64 ((0:Int)+sm)] 3) (star (iG g14 lf) (star (iG (g14+1) rt) emp)))) W) (x:Int)=>Rw (h.perm (by ac_rfl:_=star (iG (g14+1) rt) (star (au wr.heap.size #[.int .i64 pI,.int .i64 pJ,.int .i64 pK,.int .i64 pL,.int .i64 pR,.int .i64 pC,.int .i64 pD.c,.slice eA pD.L.length pc,.slice eB pD.M.length qc,.string (bs pD.F)] 44) (star (au g13 #[.int .i64 ((0:Int)+sm)] 3) (star (iG g14 lf) emp))))) x);by_cases hc1:pI≤lst
     ·have HX:=hide (show ¬ PK T a b false ps 0 from fun h:PK T a b false ps 0=>by
       obtain ⟨q1,q2,q3,q4,q5,q6,-,-⟩:=HNX.out.1 (HI.out.1 h)
       omega)
      have tt1:decide (pI≤lst)=true:=decide_eq_true hc1;go_upto_region 12 with (fail);generalize wr.alloc (.cells #[.int .i64 pI,.int .i64 pJ,.int .i64 pK,.int .i64 pL,.int .i64 pR,.int .i64 pC,.int .i64 pD.c,.slice eA pD.L.length pc,.slice eB pD.M.length qc,.string (bs pD.F)] 44)=w12 at *
      generalize wr.heap.size=g19 at *
      clear t0 t1 t2 t3 t4 t5 m0 m1 m2 x0 x1 y0 y1 c0 c1 c2 c3 c4 c5 c6 c7 c8 c9 HR;obtain ⟨t0,t1,t2,t3,t4,t5,m0,m1,m2,x0,x1,y0,y1⟩:=HCL.out w12 H12.out.bI;obtain ⟨⟨p0,p1,p2,p3,p4⟩,⟨p5,p6,p7,p8,p9⟩,pf⟩:=bg H12.out

      refine aI (fun w'=>w'.cell? ⟨g19,0,none⟩=some (.int .i64 pI)∧w'.cell? ⟨g19,1,none⟩=some (.int .i64 pJ)∧w'.cell? ⟨g19,2,none⟩=some (.int .i64 pK)∧w'.cell? ⟨g19,3,none⟩=some (.int .i64 pL)∧w'.cell? ⟨g19,4,none⟩=some (.int .i64 pR)∧w'.cell? ⟨g19,5,none⟩=some (.int .i64 pC)∧w'.cell? ⟨g19,6,none⟩=some (.int .i64 pD.c)∧w'.cell? ⟨g19,7,none⟩=some (.slice eA pD.L.length pc)∧w'.cell? ⟨g19,8,none⟩=some (.slice eB pD.M.length qc)∧w'.cell? ⟨g19,9,none⟩=some (.string (bs pD.F))∧w'.cell? ⟨g9,0,none⟩=some (.slice xA la xc)∧w'.cell? ⟨g11,0,none⟩=some (.slice yA lb yc)∧w'.cell? ⟨g7,1,none⟩=some (.bool false)) (by kernel_rfl) (by kernel_rfl) (by exact ⟨p0,p1,p2,p3,p4,p5,p6,p7,p8,p9,x0,y0,m1⟩) ?_
      (repeat ((first | refine aK (by rfl) ?_ | (refine aL (v:=?_) (by rfl) ?_ ?_;rotate_left;(focus (intro w' hS';go_simp;(try with_reducible rfl);done))));try simp only [Act.put,List.setIfInBounds_toArray,List.set_cons_zero,List.set_cons_succ]))
      refine lex_nil ?_;clear t0 t1 t2 t3 t4 t5 m0 m1 m2 x0 x1 y0 y1 p0 p1 p2 p3 p4 p5 p6 p7 p8 p9;go_wp2;go_ret;exact HRET.out _ false ⟨(fun h=>by cases h),fun h=>absurd h.1 HX.out⟩ (by exact (H12.out.bI).drew)
     ·have tt1:decide (pI≤lst)=false:=decide_eq_false hc1;have hpi:0≤pI:=by have:=(HLE0.out);omega
      by_cases hc2:(la:Int)≤pI
      ·have HX:=hide (show ¬ PK T a b false ps 0 from fun h:PK T a b false ps 0=>by
        obtain ⟨q1,q2,q3,q4,q5,q6,-,-⟩:=HNX.out.1 (HI.out.1 h)
        rw [←HLA.out] at q2;omega)
       have tt2:decide ((la:Int)≤pI)=true:=decide_eq_true hc2;go_upto_region 12 with (fail);generalize wr.alloc (.cells #[.int .i64 pI,.int .i64 pJ,.int .i64 pK,.int .i64 pL,.int .i64 pR,.int .i64 pC,.int .i64 pD.c,.slice eA pD.L.length pc,.slice eB pD.M.length qc,.string (bs pD.F)] 44)=w12 at *
       generalize wr.heap.size=g19 at *
       clear t0 t1 t2 t3 t4 t5 m0 m1 m2 x0 x1 y0 y1 c0 c1 c2 c3 c4 c5 c6 c7 c8 c9 HR;obtain ⟨t0,t1,t2,t3,t4,t5,m0,m1,m2,x0,x1,y0,y1⟩:=HCL.out w12 H12.out.bI;obtain ⟨⟨p0,p1,p2,p3,p4⟩,⟨p5,p6,p7,p8,p9⟩,pf⟩:=bg H12.out

       refine aI (fun w'=>w'.cell? ⟨g19,0,none⟩=some (.int .i64 pI)∧w'.cell? ⟨g19,1,none⟩=some (.int .i64 pJ)∧w'.cell? ⟨g19,2,none⟩=some (.int .i64 pK)∧w'.cell? ⟨g19,3,none⟩=some (.int .i64 pL)∧w'.cell? ⟨g19,4,none⟩=some (.int .i64 pR)∧w'.cell? ⟨g19,5,none⟩=some (.int .i64 pC)∧w'.cell? ⟨g19,6,none⟩=some (.int .i64 pD.c)∧w'.cell? ⟨g19,7,none⟩=some (.slice eA pD.L.length pc)∧w'.cell? ⟨g19,8,none⟩=some (.slice eB pD.M.length qc)∧w'.cell? ⟨g19,9,none⟩=some (.string (bs pD.F))∧w'.cell? ⟨g9,0,none⟩=some (.slice xA la xc)∧w'.cell? ⟨g11,0,none⟩=some (.slice yA lb yc)∧w'.cell? ⟨g7,1,none⟩=some (.bool false)) (by kernel_rfl) (by kernel_rfl) (by exact ⟨p0,p1,p2,p3,p4,p5,p6,p7,p8,p9,x0,y0,m1⟩) ?_
       (repeat ((first | refine aK (by rfl) ?_ | (refine aL (v:=?_) (by rfl) ?_ ?_;rotate_left;(focus (intro w' hS';go_simp;(try with_reducible rfl);done))));try simp only [Act.put,List.setIfInBounds_toArray,List.set_cons_zero,List.set_cons_succ]))
       refine lex_nil ?_;clear t0 t1 t2 t3 t4 t5 m0 m1 m2 x0 x1 y0 y1 p0 p1 p2 p3 p4 p5 p6 p7 p8 p9;go_wp2;go_ret;exact HRET.out _ false ⟨(fun h=>by cases h),fun h=>absurd h.1 HX.out⟩ (by exact (H12.out.bI).drew)
      ·obtain ⟨i2,rfl⟩:=Int.eq_ofNat_of_zero_le hpi;have hi2:i2 < la:=by omega
       have tt2:decide (la≤i2)=false:=decide_eq_false (by omega);have tt2':decide ((la:Int)≤(i2:Int))=false:=decide_eq_false (by omega);by_cases hc3:pJ < 0
       ·have HX:=hide (show ¬ PK T a b false ps 0 from fun h:PK T a b false ps 0=>by
         obtain ⟨q1,q2,q3,q4,q5,q6,-,-⟩:=HNX.out.1 (HI.out.1 h)
         omega)
        have tt3:decide (pJ < 0)=true:=decide_eq_true hc3;go_upto_region 12 with (fail);generalize wr.alloc (.cells #[.int .i64 (i2:Int),.int .i64 pJ,.int .i64 pK,.int .i64 pL,.int .i64 pR,.int .i64 pC,.int .i64 pD.c,.slice eA pD.L.length pc,.slice eB pD.M.length qc,.string (bs pD.F)] 44)=w12 at *
        generalize wr.heap.size=g19 at *
        clear t0 t1 t2 t3 t4 t5 m0 m1 m2 x0 x1 y0 y1 c0 c1 c2 c3 c4 c5 c6 c7 c8 c9 HR;obtain ⟨t0,t1,t2,t3,t4,t5,m0,m1,m2,x0,x1,y0,y1⟩:=HCL.out w12 H12.out.bI;obtain ⟨⟨p0,p1,p2,p3,p4⟩,⟨p5,p6,p7,p8,p9⟩,pf⟩:=bg H12.out

        refine aI (fun w'=>w'.cell? ⟨g19,0,none⟩=some (.int .i64 (i2:Int))∧w'.cell? ⟨g19,1,none⟩=some (.int .i64 pJ)∧w'.cell? ⟨g19,2,none⟩=some (.int .i64 pK)∧w'.cell? ⟨g19,3,none⟩=some (.int .i64 pL)∧w'.cell? ⟨g19,4,none⟩=some (.int .i64 pR)∧w'.cell? ⟨g19,5,none⟩=some (.int .i64 pC)∧w'.cell? ⟨g19,6,none⟩=some (.int .i64 pD.c)∧w'.cell? ⟨g19,7,none⟩=some (.slice eA pD.L.length pc)∧w'.cell? ⟨g19,8,none⟩=some (.slice eB pD.M.length qc)∧w'.cell? ⟨g19,9,none⟩=some (.string (bs pD.F))∧w'.cell? ⟨g9,0,none⟩=some (.slice xA la xc)∧w'.cell? ⟨g11,0,none⟩=some (.slice yA lb yc)∧w'.cell? ⟨g7,1,none⟩=some (.bool false)) (by kernel_rfl) (by kernel_rfl) (by exact ⟨p0,p1,p2,p3,p4,p5,p6,p7,p8,p9,x0,y0,m1⟩) ?_
        (repeat ((first | refine aK (by rfl) ?_ | (refine aL (v:=?_) (by rfl) ?_ ?_;rotate_left;(focus (intro w' hS';go_simp;(try with_reducible rfl);done))));try simp only [Act.put,List.setIfInBounds_toArray,List.set_cons_zero,List.set_cons_succ]))
        refine lex_nil ?_;clear t0 t1 t2 t3 t4 t5 m0 m1 m2 x0 x1 y0 y1 p0 p1 p2 p3 p4 p5 p6 p7 p8 p9;go_wp2;go_ret;exact HRET.out _ false ⟨(fun h=>by cases h),fun h=>absurd h.1 HX.out⟩ (by exact (H12.out.bI).drew)
       ·have tt3:decide (pJ < 0)=false:=decide_eq_false hc3;by_cases hc4:(lb:Int)≤pJ
        ·have HX:=hide (show ¬ PK T a b false ps 0 from fun h:PK T a b false ps 0=>by
          obtain ⟨q1,q2,q3,q4,q5,q6,-,-⟩:=HNX.out.1 (HI.out.1 h)
          rw [←HLB.out] at q4;omega)
         have tt4:decide ((lb:Int)≤pJ)=true:=decide_eq_true hc4;go_upto_region 12 with (fail);generalize wr.alloc (.cells #[.int .i64 (i2:Int),.int .i64 pJ,.int .i64 pK,.int .i64 pL,.int .i64 pR,.int .i64 pC,.int .i64 pD.c,.slice eA pD.L.length pc,.slice eB pD.M.length qc,.string (bs pD.F)] 44)=w12 at *
         generalize wr.heap.size=g19 at *
         clear t0 t1 t2 t3 t4 t5 m0 m1 m2 x0 x1 y0 y1 c0 c1 c2 c3 c4 c5 c6 c7 c8 c9 HR;obtain ⟨t0,t1,t2,t3,t4,t5,m0,m1,m2,x0,x1,y0,y1⟩:=HCL.out w12 H12.out.bI;obtain ⟨⟨p0,p1,p2,p3,p4⟩,⟨p5,p6,p7,p8,p9⟩,pf⟩:=bg H12.out

         refine aI (fun w'=>w'.cell? ⟨g19,0,none⟩=some (.int .i64 (i2:Int))∧w'.cell? ⟨g19,1,none⟩=some (.int .i64 pJ)∧w'.cell? ⟨g19,2,none⟩=some (.int .i64 pK)∧w'.cell? ⟨g19,3,none⟩=some (.int .i64 pL)∧w'.cell? ⟨g19,4,none⟩=some (.int .i64 pR)∧w'.cell? ⟨g19,5,none⟩=some (.int .i64 pC)∧w'.cell? ⟨g19,6,none⟩=some (.int .i64 pD.c)∧w'.cell? ⟨g19,7,none⟩=some (.slice eA pD.L.length pc)∧w'.cell? ⟨g19,8,none⟩=some (.slice eB pD.M.length qc)∧w'.cell? ⟨g19,9,none⟩=some (.string (bs pD.F))∧w'.cell? ⟨g9,0,none⟩=some (.slice xA la xc)∧w'.cell? ⟨g11,0,none⟩=some (.slice yA lb yc)∧w'.cell? ⟨g7,1,none⟩=some (.bool false)) (by kernel_rfl) (by kernel_rfl) (by exact ⟨p0,p1,p2,p3,p4,p5,p6,p7,p8,p9,x0,y0,m1⟩) ?_
         (repeat ((first | refine aK (by rfl) ?_ | (refine aL (v:=?_) (by rfl) ?_ ?_;rotate_left;(focus (intro w' hS';go_simp;(try with_reducible rfl);done))));try simp only [Act.put,List.setIfInBounds_toArray,List.set_cons_zero,List.set_cons_succ]))
         refine lex_nil ?_;clear t0 t1 t2 t3 t4 t5 m0 m1 m2 x0 x1 y0 y1 p0 p1 p2 p3 p4 p5 p6 p7 p8 p9;go_wp2;go_ret;exact HRET.out _ false ⟨(fun h=>by cases h),fun h=>absurd h.1 HX.out⟩ (by exact (H12.out.bI).drew)
        ·obtain ⟨j2,rfl⟩:=Int.eq_ofNat_of_zero_le (Int.not_lt.1 hc3);have hj2:j2 < lb:=by omega
         have tt4:decide (lb≤j2)=false:=decide_eq_false (by omega);have tt4':decide ((lb:Int)≤(j2:Int))=false:=decide_eq_false (by omega);by_cases hm:(j2:Int) ∈ rt
         ·have HX:=hide (show ¬ PK T a b false ps 0 from fun h:PK T a b false ps 0=>by
           obtain ⟨q1,q2,q3,q4,q5,q6,-,-⟩:=HNX.out.1 (HI.out.1 h)
           exact q5 hm)
          go_upto_region 12 with (fail);generalize wr.alloc (.cells #[.int .i64 (i2:Int),.int .i64 (j2:Int),.int .i64 pK,.int .i64 pL,.int .i64 pR,.int .i64 pC,.int .i64 pD.c,.slice eA pD.L.length pc,.slice eB pD.M.length qc,.string (bs pD.F)] 44)=w12 at *
          generalize wr.heap.size=g19 at *
          clear t0 t1 t2 t3 t4 t5 m0 m1 m2 x0 x1 y0 y1 c0 c1 c2 c3 c4 c5 c6 c7 c8 c9 HR;obtain ⟨t0,t1,t2,t3,t4,t5,m0,m1,m2,x0,x1,y0,y1⟩:=HCL.out w12 H12.out.bI;obtain ⟨⟨p0,p1,p2,p3,p4⟩,⟨p5,p6,p7,p8,p9⟩,pf⟩:=bg H12.out

          have lk:=HLK.out w12.drew (H12.out.drew (aj av okR.out)) ((j2:Int));rw [decide_eq_true hm] at lk;refine aI (fun w'=>w'.cell? ⟨g19,0,none⟩=some (.int .i64 (i2:Int))∧w'.cell? ⟨g19,1,none⟩=some (.int .i64 (j2:Int))∧w'.cell? ⟨g19,2,none⟩=some (.int .i64 pK)∧w'.cell? ⟨g19,3,none⟩=some (.int .i64 pL)∧w'.cell? ⟨g19,4,none⟩=some (.int .i64 pR)∧w'.cell? ⟨g19,5,none⟩=some (.int .i64 pC)∧w'.cell? ⟨g19,6,none⟩=some (.int .i64 pD.c)∧w'.cell? ⟨g19,7,none⟩=some (.slice eA pD.L.length pc)∧w'.cell? ⟨g19,8,none⟩=some (.slice eB pD.M.length qc)∧w'.cell? ⟨g19,9,none⟩=some (.string (bs pD.F))∧w'.cell? ⟨g9,0,none⟩=some (.slice xA la xc)∧w'.cell? ⟨g11,0,none⟩=some (.slice yA lb yc)∧w'.cell? ⟨g7,1,none⟩=some (.bool false)∧(Instr.lookup 92 (.map (some (g14+1))) (.int .i64 ((j2:Int))) false).run Tryz.prog w'=.ok (.bool true) w') (by kernel_rfl) (by kernel_rfl) (by exact ⟨p0,p1,p2,p3,p4,p5,p6,p7,p8,p9,x0,y0,m1,lk⟩) ?_
          (repeat ((first | refine aK (by rfl) ?_ | (refine aL (v:=?_) (by rfl) ?_ ?_;rotate_left;(focus (intro w' hS';go_simp;(try with_reducible rfl);done))));try simp only [Act.put,List.setIfInBounds_toArray,List.set_cons_zero,List.set_cons_succ]))
          refine lex_nil ?_;clear t0 t1 t2 t3 t4 t5 m0 m1 m2 x0 x1 y0 y1 p0 p1 p2 p3 p4 p5 p6 p7 p8 p9 lk;go_wp2;go_ret;exact HRET.out _ false ⟨(fun h=>by cases h),fun h=>absurd h.1 HX.out⟩ (by exact (H12.out.bI).drew)
         ·by_cases hc6:(j2:Int) < bef
          ·have HX:=hide (show ¬ PK T a b false ps 0 from fun h:PK T a b false ps 0=>by
            obtain ⟨q1,q2,q3,q4,q5,q6,-,-⟩:=HNX.out.1 (HI.out.1 h);rcases q6 with q6 | q6
            ·cases q6
            ·omega)
           have tt6:decide ((j2:Int) < bef)=true:=decide_eq_true hc6;go_upto_region 12 with (fail);generalize wr.alloc (.cells #[.int .i64 (i2:Int),.int .i64 (j2:Int),.int .i64 pK,.int .i64 pL,.int .i64 pR,.int .i64 pC,.int .i64 pD.c,.slice eA pD.L.length pc,.slice eB pD.M.length qc,.string (bs pD.F)] 44)=w12 at *
           generalize wr.heap.size=g19 at *
           clear t0 t1 t2 t3 t4 t5 m0 m1 m2 x0 x1 y0 y1 c0 c1 c2 c3 c4 c5 c6 c7 c8 c9 HR;obtain ⟨t0,t1,t2,t3,t4,t5,m0,m1,m2,x0,x1,y0,y1⟩:=HCL.out w12 H12.out.bI;obtain ⟨⟨p0,p1,p2,p3,p4⟩,⟨p5,p6,p7,p8,p9⟩,pf⟩:=bg H12.out

           have lk:=HLK.out w12.drew (H12.out.drew (aj av okR.out)) ((j2:Int));rw [decide_eq_false hm] at lk;refine aI (fun w'=>w'.cell? ⟨g19,0,none⟩=some (.int .i64 (i2:Int))∧w'.cell? ⟨g19,1,none⟩=some (.int .i64 (j2:Int))∧w'.cell? ⟨g19,2,none⟩=some (.int .i64 pK)∧w'.cell? ⟨g19,3,none⟩=some (.int .i64 pL)∧w'.cell? ⟨g19,4,none⟩=some (.int .i64 pR)∧w'.cell? ⟨g19,5,none⟩=some (.int .i64 pC)∧w'.cell? ⟨g19,6,none⟩=some (.int .i64 pD.c)∧w'.cell? ⟨g19,7,none⟩=some (.slice eA pD.L.length pc)∧w'.cell? ⟨g19,8,none⟩=some (.slice eB pD.M.length qc)∧w'.cell? ⟨g19,9,none⟩=some (.string (bs pD.F))∧w'.cell? ⟨g9,0,none⟩=some (.slice xA la xc)∧w'.cell? ⟨g11,0,none⟩=some (.slice yA lb yc)∧w'.cell? ⟨g7,1,none⟩=some (.bool false)∧(Instr.lookup 92 (.map (some (g14+1))) (.int .i64 ((j2:Int))) false).run Tryz.prog w'=.ok (.bool false) w') (by kernel_rfl) (by kernel_rfl) (by exact ⟨p0,p1,p2,p3,p4,p5,p6,p7,p8,p9,x0,y0,m1,lk⟩) ?_
           (repeat ((first | refine aK (by rfl) ?_ | (refine aL (v:=?_) (by rfl) ?_ ?_;rotate_left;(focus (intro w' hS';go_simp;(try with_reducible rfl);done))));try simp only [Act.put,List.setIfInBounds_toArray,List.set_cons_zero,List.set_cons_succ]))
           refine lex_nil ?_;clear t0 t1 t2 t3 t4 t5 m0 m1 m2 x0 x1 y0 y1 p0 p1 p2 p3 p4 p5 p6 p7 p8 p9 lk;go_wp2;go_ret;exact HRET.out _ false ⟨(fun h=>by cases h),fun h=>absurd h.1 HX.out⟩ (by exact (H12.out.bI).drew)
          ·have tt6:decide ((j2:Int) < bef)=false:=decide_eq_false hc6;have HQ6:=hide (show false=true∨bef≤(j2:Int) from .inr (by omega));go_upto_region 12 with (fail);generalize wr.alloc (.cells #[.int .i64 (i2:Int),.int .i64 (j2:Int),.int .i64 pK,.int .i64 pL,.int .i64 pR,.int .i64 pC,.int .i64 pD.c,.slice eA pD.L.length pc,.slice eB pD.M.length qc,.string (bs pD.F)] 44)=w12 at *
           generalize wr.heap.size=g19 at *
           clear t0 t1 t2 t3 t4 t5 m0 m1 m2 x0 x1 y0 y1 c0 c1 c2 c3 c4 c5 c6 c7 c8 c9 HR;obtain ⟨t0,t1,t2,t3,t4,t5,m0,m1,m2,x0,x1,y0,y1⟩:=HCL.out w12 H12.out.bI;obtain ⟨⟨p0,p1,p2,p3,p4⟩,⟨p5,p6,p7,p8,p9⟩,pf⟩:=bg H12.out;obtain ⟨u,xb,xo,hxA,hxw⟩:=HXA.out i2 hi2;obtain ⟨v,yb,yo,hyA,hyw⟩:=HYA.out j2 hj2;obtain ⟨uw,huw⟩:∃ uw,uw=cu T a.k (wd a i2):=⟨_,rfl⟩;obtain ⟨vw,hvw⟩:∃ vw,vw=cu T b.k (wd b j2):=⟨_,rfl⟩;rw [←huw] at hxw;rw [←hvw] at hyw;obtain ⟨hu12,a0,a1,a2⟩:=hxw w12 H12.out.bI;obtain ⟨hv12,b0,b1,b2⟩:=hyw w12 H12.out.bI;have KR3:=hide (KRX.out w12.drew (H12.out.bI.drew) i2 j2 hi2 hj2 u v (by rw [←huw];exact hu12.below (aV (Below.refl _ _))) (by rw [←hvw];exact hv12.below (aV (Below.refl _ _))));rw [←huw,←hvw] at KR3;clear hxw hyw huw hvw hu12 hv12;subst hxA;subst hyA;have lk:=HLK.out w12.drew (H12.out.drew (aj av okR.out)) ((j2:Int));rw [decide_eq_false hm] at lk;refine aI (fun w'=>w'.cell? ⟨g19,0,none⟩=some (.int .i64 (i2:Int))∧w'.cell? ⟨g19,1,none⟩=some (.int .i64 (j2:Int))∧w'.cell? ⟨g19,2,none⟩=some (.int .i64 pK)∧w'.cell? ⟨g19,3,none⟩=some (.int .i64 pL)∧w'.cell? ⟨g19,4,none⟩=some (.int .i64 pR)∧w'.cell? ⟨g19,5,none⟩=some (.int .i64 pC)∧w'.cell? ⟨g19,6,none⟩=some (.int .i64 pD.c)∧w'.cell? ⟨g19,7,none⟩=some (.slice eA pD.L.length pc)∧w'.cell? ⟨g19,8,none⟩=some (.slice eB pD.M.length qc)∧w'.cell? ⟨g19,9,none⟩=some (.string (bs pD.F))∧w'.cell? ⟨g9,0,none⟩=some (.slice (some ⟨xb,xo,none⟩) la xc)∧w'.cell? ⟨g11,0,none⟩=some (.slice (some ⟨yb,yo,none⟩) lb yc)∧w'.cell? ⟨g7,1,none⟩=some (.bool false)∧w'.cell? ⟨w.heap.size,0,none⟩=some (.slice aA n1 ac)∧w'.cell? ⟨w.heap.size,1,none⟩=some (.slice aD n2 ad)∧w'.cell? ⟨w.heap.size,2,none⟩=some (.slice aE n3 ae)∧w'.cell? ⟨w.heap.size,3,none⟩=some (.int .i64 T.drop)∧w'.cell? ⟨w.heap.size,4,none⟩=some (.int .i64 T.ord)∧w'.cell? ⟨w.heap.size,5,none⟩=some (.int .i64 T.ini)∧w'.cell? ⟨xb,xo+i2*3,none⟩=some (.int .i64 uw.k)∧w'.cell? ⟨xb,xo+i2*3+1,none⟩=some (.slice u.V uw.vs.length u.vc)∧w'.cell? ⟨xb,xo+i2*3+2,none⟩=some (.slice u.L uw.ls.length u.lc)∧w'.cell? ⟨yb,yo+j2*3,none⟩=some (.int .i64 vw.k)∧w'.cell? ⟨yb,yo+j2*3+1,none⟩=some (.slice v.V vw.vs.length v.vc)∧w'.cell? ⟨yb,yo+j2*3+2,none⟩=some (.slice v.L vw.ls.length v.lc)∧(Instr.lookup 92 (.map (some (g14+1))) (.int .i64 ((j2:Int))) false).run Tryz.prog w'=.ok (.bool false) w') (by kernel_rfl) (by kernel_rfl) (by exact ⟨p0,p1,p2,p3,p4,p5,p6,p7,p8,p9,x0,y0,m1,t0,t1,t2,t3,t4,t5,a0,a1,a2,b0,b1,b2,lk⟩) ?_
           (repeat ((first | refine aK (by rfl) ?_ | (refine aL (v:=?_) (by rfl) ?_ ?_;rotate_left;(focus (intro w' hS';go_simp;(try with_reducible rfl);done))));try simp only [Act.put,List.setIfInBounds_toArray,List.set_cons_zero,List.set_cons_succ]))
           refine dR rfl (by rfl) (fun K hK=>?_);go_wp2_with fail;refine KR3.out.mono ?_;rintro e9 w13 ⟨bb,rfl,hbb,hb⟩;have H13:=hide ((H12.out.drew (aj av okR.out)).below (aj av okR.out) hb);have lk2:=HLK.out w13 H13.out (j2:Int);rw [decide_eq_false hm] at lk2;have q0:=aF (w:=w12.drew) p0 hb;have q1:=aF (w:=w12.drew) p1 hb;have q5:=aF (w:=w12.drew) p5 hb;rw [Int.toNat_natCast,Int.toNat_natCast] at HNX;refine hK.out _ _ (by exact ⟨aF (w:=w12.drew) p0 hb,aF (w:=w12.drew) p1 hb,aF (w:=w12.drew) p2 hb,aF (w:=w12.drew) p3 hb,aF (w:=w12.drew) p4 hb,aF (w:=w12.drew) p5 hb,aF (w:=w12.drew) p6 hb,aF (w:=w12.drew) p7 hb,aF (w:=w12.drew) p8 hb,aF (w:=w12.drew) p9 hb,aF (w:=w12.drew) x0 hb,aF (w:=w12.drew) y0 hb,aF (w:=w12.drew) m1 hb,aF (w:=w12.drew) t0 hb,aF (w:=w12.drew) t1 hb,aF (w:=w12.drew) t2 hb,aF (w:=w12.drew) t3 hb,aF (w:=w12.drew) t4 hb,aF (w:=w12.drew) t5 hb,aF (w:=w12.drew) a0 hb,aF (w:=w12.drew) a1 hb,aF (w:=w12.drew) a2 hb,aF (w:=w12.drew) b0 hb,aF (w:=w12.drew) b1 hb,aF (w:=w12.drew) b2 hb,lk2⟩) ?_;clear hK KR3 H12 hb lk lk2 a0 a1 a2 b0 b1 b2 t0 t1 t2 t3 t4 t5 m0 m1 m2 x0 x1 y0 y1 p0 p1 p2 p3 p4 p5 p6 p7 p8 p9;cases bb with
           | false =>
            have HX:=hide (show ¬ PK T a b false ps 0 from fun h=>by
             obtain ⟨-,-,-,-,-,-,k7,-⟩:=HNX.out.1 (HI.out.1 h)
             cases hbb.2 k7)
            clear hbb q0 q1 q5
            (repeat ((first | refine aK (by rfl) ?_ | (refine aL (v:=?_) (by rfl) ?_ ?_;rotate_left;(focus (intro w' hS';go_simp;(try with_reducible rfl);done))));try simp only [Act.put,List.setIfInBounds_toArray,List.set_cons_zero,List.set_cons_succ]))
            refine lex_nil ?_;go_wp2;go_ret;exact HRET.out _ false ⟨(fun h=>by cases h),fun h=>absurd h.1 HX.out⟩ H13.out.bI
           | true =>
            have hrp:=hbb.1 rfl;have HI2:=hide (show PK T a b false ps 0↔PK T a b false ps (i+1) from HI.out.trans ⟨fun h=>(HNX.out.1 h).2.2.2.2.2.2.2,fun h=>HNX.out.2 ⟨by omega,by rw [←HLA.out];omega,by omega,by rw [←HLB.out];omega,hm,HQ6.out,hrp,h⟩⟩);obtain ⟨c1,c2⟩:=yQ HVT.out hrp;dsimp only at c1 c2;have HNI:=hide (HLW.out (i2:Int) (by omega));have HLE2:=hide (HLE.out (by omega));have HMN:=hide hm;clear hbb hrp hm HNX HI HLW HLE
            (repeat ((first | refine aK (by rfl) ?_ | (refine aL (v:=?_) (by rfl) ?_ ?_;rotate_left;(focus (intro w' hS';go_simp;(try with_reducible rfl);done))));try simp only [Act.put,List.setIfInBounds_toArray,List.set_cons_zero,List.set_cons_succ]))
            refine lex_nil ?_;go_upto_region 14 with (fail);refine aI (fun w'=>w'.cell? ⟨g19,0,none⟩=some (.int .i64 (i2:Int))∧w'.cell? ⟨g19,1,none⟩=some (.int .i64 (j2:Int))) (by kernel_rfl) (by kernel_rfl) (by exact ⟨q0,q1⟩) ?_
            (repeat ((first | refine aK (by rfl) ?_ | (refine aL (v:=?_) (by rfl) ?_ ?_;rotate_left;(focus (intro w' hS';go_simp;(try with_reducible rfl);done))));try simp only [Act.put,List.setIfInBounds_toArray,List.set_cons_zero,List.set_cons_succ]))
            refine lex_nil ?_;go_upto_region 15 with (fail);have H14:=hide (show Run (fun _=>False) w8 (star (iG g14 lf) (star (iG (g14+1) rt) (star (au g19 #[.int .i64 (i2:Int),.int .i64 (j2:Int),.int .i64 pK,.int .i64 pL,.int .i64 pR,.int .i64 pC,.int .i64 pD.c,.slice eA pD.L.length pc,.slice eB pD.M.length qc,.string (bs pD.F)] 44) (star (au g13 #[.int .i64 ((0:Int)+sm)] 3) emp)))) w13.drew.drew from ((H13.out.drew (aj av okR.out)).drew (aj av okR.out)).perm (by ac_rfl));have okT:=hide (aj gB (aj av (aj av aB)):(star (iG (g14+1) rt) (star (au g19 #[.int .i64 (i2:Int),.int .i64 (j2:Int),.int .i64 pK,.int .i64 pL,.int .i64 pR,.int .i64 pC,.int .i64 pD.c,.slice eA pD.L.length pc,.slice eB pD.M.length qc,.string (bs pD.F)] 44) (star (au g13 #[.int .i64 ((0:Int)+sm)] 3) emp))).Ok);have okU:=hide (aj gB (aj av (aj av aB)):(star (iG g14 (lf ++ [(i2:Int)])) (star (au g19 #[.int .i64 (i2:Int),.int .i64 (j2:Int),.int .i64 pK,.int .i64 pL,.int .i64 pR,.int .i64 pC,.int .i64 pD.c,.slice eA pD.L.length pc,.slice eB pD.M.length qc,.string (bs pD.F)] 44) (star (au g13 #[.int .i64 ((0:Int)+sm)] 3) emp))).Ok);obtain ⟨F1,hF1,-,back⟩:=H14.out.take gB okT.out;obtain ⟨w14,hup,hpost⟩:=BN hF1 HNI.out;have H15:=hide ((back _ _ hpost).perm (by ac_rfl:_=star (iG (g14+1) rt) (star (iG g14 (lf ++ [(i2:Int)])) (star (au g19 #[.int .i64 (i2:Int),.int .i64 (j2:Int),.int .i64 pK,.int .i64 pL,.int .i64 pR,.int .i64 pC,.int .i64 pD.c,.slice eA pD.L.length pc,.slice eB pD.M.length qc,.string (bs pD.F)] 44) (star (au g13 #[.int .i64 ((0:Int)+sm)] 3) emp)))));obtain ⟨F2,hF2,-,back2⟩:=H15.out.take gB okU.out;obtain ⟨w15,hup2,hpost2⟩:=BN hF2 HMN.out;have H16:=hide ((back2 _ _ hpost2).perm (by ac_rfl:_=star (au g13 #[.int .i64 ((0:Int)+sm)] 3) (star (au g19 #[.int .i64 (i2:Int),.int .i64 (j2:Int),.int .i64 pK,.int .i64 pL,.int .i64 pR,.int .i64 pC,.int .i64 pD.c,.slice eA pD.L.length pc,.slice eB pD.M.length qc,.string (bs pD.F)] 44) (star (iG g14 (lf ++ [(i2:Int)])) (star (iG (g14+1) (rt ++ [(j2:Int)])) emp)))));have z1:=(bg H15.out.drop.drop).1.2.1;clear hF1 back hpost F1 hF2 back2 hpost2 F2 H13 H14 H15;refine iK [6,7] [0,0,0,1,1,1,1,2] (fun w'=>w'.cell? ⟨g19,0,none⟩=some (.int .i64 (i2:Int))∧w'.cell? ⟨g19,1,none⟩=some (.int .i64 (j2:Int))) (fun w'=>w'.cell? ⟨g19,1,none⟩=some (.int .i64 (j2:Int))) (fun _=>True) (fun _=>True) (fun _ h=>h.2) (fun _ _=>trivial) (fun _ h=>h) (by kernel_rfl) (by kernel_rfl) (by kernel_rfl) (by kernel_rfl) (by exact ⟨q0,q1⟩) ?_
            (repeat ((first | refine fZ (by rfl) (by rfl) ?_ | ((first | refine eO (v:=?_) (by rfl) (by rfl) ?_ ?_ | refine eP (v:=?_) (by rfl) (by rfl) ?_ ?_ | refine eT (v:=?_) (by rfl) (by rfl) ?_ ?_ | refine eU (v:=?_) (by rfl) (by rfl) ?_ ?_ | refine eX (v:=?_) (by rfl) (by rfl) ?_ ?_);rotate_left;(focus (intro w' hS';go_simp;(try with_reducible rfl);done))));try simp only [Act.put,List.setIfInBounds_toArray,List.set_cons_zero,List.set_cons_succ]))
            refine kR rfl (by rfl) (fun K hK=>?_);go_wp2_with fail;refine hK.out _ _ z1 ?_;clear hK z1 hup
            (repeat ((first | refine fZ (by rfl) (by rfl) ?_ | ((first | refine eO (v:=?_) (by rfl) (by rfl) ?_ ?_ | refine eP (v:=?_) (by rfl) (by rfl) ?_ ?_ | refine eT (v:=?_) (by rfl) (by rfl) ?_ ?_ | refine eU (v:=?_) (by rfl) (by rfl) ?_ ?_ | refine eX (v:=?_) (by rfl) (by rfl) ?_ ?_);rotate_left;(focus (intro w' hS';go_simp;(try with_reducible rfl);done))));try simp only [Act.put,List.setIfInBounds_toArray,List.set_cons_zero,List.set_cons_succ]))
            refine kS rfl (by rfl) (fun K hK=>?_);go_wp2_with fail;refine hK.out _ _ trivial (sF ?_);clear hK hup2 q0 q1 q5;go_upto_region 16 with (fail);obtain ⟨FQ,hFQ⟩:=H16.out.fst;have y0':=ay (i:=0) hFQ rfl;have yf:=aJ hFQ;have y5:=(bg H16.out.drop).2.1.1;have okV:=hide (aj av (aj gB (aj gB aB)):(star (au g19 #[.int .i64 (i2:Int),.int .i64 (j2:Int),.int .i64 pK,.int .i64 pL,.int .i64 pR,.int .i64 pC,.int .i64 pD.c,.slice eA pD.L.length pc,.slice eB pD.M.length qc,.string (bs pD.F)] 44) (star (iG g14 (lf ++ [(i2:Int)])) (star (iG (g14+1) (rt ++ [(j2:Int)])) emp))).Ok);have HE:=hide (show Run (fun _=>False) w8 (star (au g13 #[.int .i64 ((0:Int)+(sm+pC))] 3) (star (au g19 #[.int .i64 (i2:Int),.int .i64 (j2:Int),.int .i64 pK,.int .i64 pL,.int .i64 pR,.int .i64 pC,.int .i64 pD.c,.slice eA pD.L.length pc,.slice eB pD.M.length qc,.string (bs pD.F)] 44) (star (iG g14 (lf ++ [(i2:Int)])) (star (iG (g14+1) (rt ++ [(j2:Int)])) emp)))) (w15.setCell ⟨g13,0,none⟩ (.int .i64 ((0:Int)+(sm+pC)))) from aH H16.out okV.out 0 (.int .i64 ((0:Int)+(sm+pC))));obtain ⟨o1,o2⟩:=hord;have tw:wrap64 ((0:Int)+sm+pC)=(0:Int)+(sm+pC):=by rw [IntWalk.wrap64_in _ (by omega)];omega
            have tw2:wrap64 (sm+pC)=sm+pC:=IntWalk.wrap64_in _ (by omega);simp only [Int.zero_add] at tw H16 HE;clear tw;clear hFQ FQ H16;go_wp2_with fail
            go_roundw
            case rel=>exact ⟨i+1,by rw [HLN.out.1],by rw [HLN.out.2],by go_num,hlt,HI2.out,HLE2.out,by rw [HSU.out];omega,by rw [HSU.out];omega,by rw [HSU.out,HMI.out,HMJ.out];rw [Int.zero_add];exact HE.out.mh.drop⟩
            case measure=>simp [intOf];omega
    ·obtain rfl:nm=i:=by omega
     have hsum:(ps.take nm).map (·.c)=ps.map (·.c)∧(ps.take nm).map (·.i)=ps.map (·.i)∧(ps.take nm).map (·.j)=ps.map (·.j):=by
      rw [←HPL.out,List.take_length];exact ⟨rfl,rfl,rfl⟩
     obtain ⟨e1,e2,e3⟩:=hsum;rw [e1] at hs1 hs2 HR;rw [e2,e3] at HR;have HPT:=hide (show PK T a b false ps 0 from HI.out.2 (by rw [←HPL.out];exact Oa));clear e1 e2 e3 HI HL;have hA1:=tY (T:=T) (n:=a) (us:=ps.map (·.i));have hB1:=tY (T:=T) (n:=b) (us:=ps.map (·.j));have hdA:∀ d ∈ a.ws.map (aZ T a.k),0≤d∧d≤1000:=fun d hd=>by obtain ⟨y,-,rfl⟩:=List.mem_map.1 hd;exact kI HVT.out _ _
     have hdB:∀ d ∈ b.ws.map (aZ T b.k),0≤d∧d≤1000:=fun d hd=>by obtain ⟨y,-,rfl⟩:=List.mem_map.1 hd;exact kI HVT.out _ _
     have hA2:=qx (us:=ps.map (·.i)) hdA a.ws.length;have hB2:=qx (us:=ps.map (·.j)) hdB b.ws.length;rw [hA1] at hA2;rw [hB1] at hB2;rw [←HLA.out] at hA2;rw [←HLB.out] at hB2;obtain ⟨o1,o2⟩:=hord;have KDA:=hide (fun (c0:Int) W F (h:star (au g13 #[.int .i64 c0] 3) (iG g14 (ps.map (·.i))) W F) hD h0 h1=>tZ (bc:=xd) h (ds:=a.ws.map (aZ T a.k)) (B:=xB) hD (by rw [List.length_map,←HLA.out];omega) hdA h0 h1);have KDB:=hide (fun (c0:Int) W F (h:star (au g13 #[.int .i64 c0] 3) (iG (g14+1) (ps.map (·.j))) W F) hD h0 h1=>tZ (bc:=yd) h (ds:=b.ws.map (aZ T b.k)) (B:=yB) hD (by rw [List.length_map,←HLB.out];omega) hdB h0 h1);rw [List.length_map,hA1,←HLA.out] at KDA;rw [List.length_map,hB1,←HLB.out] at KDB;clear hA1 hB1 hdA hdB;generalize jy T a (ps.map (·.i))=ra at *
     generalize jy T b (ps.map (·.j))=rb at *
     generalize (ps.map (·.c)).sum=sm at *
     generalize ps.map (·.i)=lf at *
     generalize ps.map (·.j)=rt at *
     have HDN:=hide (fun (W0 W:World) (F:Nat→Prop) (h0:Below w8.heap.size w8 W0) (hF:∀ i,F i→w8.heap.size≤i) (hm:Mod F W0 W)=>(show jE W xB (a.ws.map (aZ T a.k))∧jE W yB (b.ws.map (aZ T b.k)) from by
      have hb:Below w8.heap.size w8 W:=((Mod.of_below (F:=fun _=>False) h0).trans (G:=fun i=>w8.heap.size≤i) hm (fun _ _ h=>h.elim) (fun i hi h=>hF i h)).below (fun i hi h=>by omega)
      exact ⟨(HN.out W hb).1.dr,(HN.out W hb).2.dr⟩))
     have h30:=HR.out.perm (by ac_rfl:_=star (star (au g13 #[.int .i64 ((0:Int)+sm)] 3) (iG g14 lf)) (star (iG (g14+1) rt) emp));obtain ⟨F,hF,hF2,back⟩:=h30.take (aj av gB) (aj gB aB);have KA9:=hide (KDA.out ((0:Int)+sm) wr F hF (fun W hm=>(HDN.out wr W F HR.out.bI (fun i h=>(hF2 i h).resolve_left (fun h=>h)) hm).1) (by omega) (by omega));have HBK:=hide back;clear h30 hF hF2 back KDA HR;go_wp2_with fail;refine KA9.out.mono ?_;rintro e9 w31 ⟨⟨v9,rfl⟩,hp⟩;have h31:=(HBK.out _ _ hp).perm (by ac_rfl:_=star (star (au g13 #[.int .i64 ((0:Int)+sm+ra)] 3) (iG (g14+1) rt)) (star (iG g14 lf) emp));have HR31:=hide h31;obtain ⟨F,hF,hF2,back⟩:=h31.take (aj av gB) (aj gB aB);have KB9:=hide (KDB.out ((0:Int)+sm+ra) w31 F hF (fun W hm=>(HDN.out w31 W F HR31.out.bI (fun i h=>(hF2 i h).resolve_left (fun h=>h)) hm).2) (by omega) (by omega));have HBK2:=hide back;clear h31 hF hF2 back KDB HBK hp KA9 t0 t1 t2 t3 t4 t5 m0 m1 m2 x0 x1 y0 y1;obtain ⟨t0,t1,t2,t3,t4,t5,m0,m1,m2,x0,x1,y0,y1⟩:=HCL.out w31 HR31.out.bI;clear HR31;go_wp2_with fail;refine KB9.out.mono ?_;rintro e9 w32 ⟨⟨v8,rfl⟩,hp⟩;have HR32:=hide (HBK2.out _ _ hp);clear HBK2 hp KB9 t0 t1 t2 t3 t4 t5 m0 m1 m2 x0 x1 y0 y1;obtain ⟨t0,t1,t2,t3,t4,t5,m0,m1,m2,x0,x1,y0,y1⟩:=HCL.out w32 HR32.out.bI;obtain ⟨FQ,hFQ⟩:=(HR32.out.perm (lM _ _ _)).fst;have q0:=ay (i:=0) hFQ rfl;clear hFQ FQ;by_cases hm:(0:Int)+sm+ra+rb=mc
     ·have tq:((0:Int)+sm+ra+rb == mc)=true:=by rw [beq_iff_eq];exact hm
      have HX:=hide (show PK T a b false ps 0∧mc=(0:Int)+sm+ra+rb from ⟨HPT.out,hm.symm⟩);simp only [Int.zero_add] at tq;clear hm;go_wp2;go_ret;exact HRET.out _ true ⟨fun _=>HX.out,fun _=>rfl⟩ HR32.out.bI
     ·have tq:((0:Int)+sm+ra+rb == mc)=false:=by rw [beq_eq_false_iff_ne];exact hm
      have HX:=hide (fun (h:PK T a b false ps 0∧mc=(0:Int)+sm+ra+rb)=>hm h.2.symm);simp only [Int.zero_add] at tq;clear hm;go_wp2;go_ret;exact HRET.out _ false ⟨(fun h=>by cases h),fun h=>absurd h HX.out⟩ HR32.out.bI
end Go.Proofs.YtbnnlpjpnihheaaGreatDoor
namespace Go.Proofs.YtbnnlpjpnihheaaGreatDoor
open Go.RowKit Go.CH Go.CH.Scr Go.CH.dK Go.CH.Mtc
open Go.ChangeMaps (setBlock)
def leB (n:Nat) (s:Bs):Bool:=decide (s.length≤n)
def Ot (R:Rule):Bool:=leB 12 R.f && leB 12 R.t
def BZ (d:Drop):Bool:=leB 60 d.w
def vW (T:Tab) (ws:List Bs):Bool:=decide (T.rs.length≤80) && (decide (T.ds.length≤40) && (decide (T.es.length≤40) && (T.rs.all Ot && (T.ds.all BZ && (T.es.all BZ && ws.all (leB 30))))))
theorem qy {n:Nat} {s:Bs}:leB n s=true↔s.length≤n:=by unfold leB;rw [decide_eq_true_eq]
theorem o8 {T:Tab} {ws:List Bs}:vW T ws=true↔(T.rs.length≤80∧T.ds.length≤40∧T.es.length≤40)∧(∀ R ∈ T.rs,Ot R=true)∧(∀ d ∈ T.ds,BZ d=true)∧(∀ d ∈ T.es,BZ d=true)∧∀ s ∈ ws,leB 30 s=true:=by
 unfold vW;simp only [Bool.and_eq_true,decide_eq_true_eq,List.all_eq_true,and_assoc]

structure yZ (w:World) (T:Tab) (a:TA):Prop where
 rs:qV w a.A T.rs
 ds:j6 w a.D T.ds
 es:j6 w a.E T.es
theorem yZ.below {w w':World} {T:Tab} {a:TA} (h:yZ w T a) (hb:Below w.heap.size w w'):yZ w' T a:=⟨h.rs.below hb,h.ds.below hb,h.es.below hb⟩
theorem yZ.few {w:World} {T:Tab} {a:TA} {ws:List Bs} (h:yZ w T a) (hf:vW T ws=true):jJ w T a:=by
 obtain ⟨⟨h1,h2,h3⟩,g1,g2,g3,g4⟩:=o8.1 hf;refine { rs:=h.rs,ds:=h.ds,es:=h.es,lr:=by omega,ld:=by omega,le:=by omega,sr:=fun R hR=>?_,sd:=fun d hd=>?_,se:=fun d hd=>?_ }
 ·have:=g1 R hR;unfold Ot at this;rw [Bool.and_eq_true,qy,qy] at this;exact ⟨by omega,by omega⟩
 ·have:=qy.1 (g2 d hd);omega
 ·have:=qy.1 (g3 d hd);omega
theorem pq {α:Type} {p:α→Bool} {l:List α} {k:Nat} (hk:k < l.length) (h:∀ x ∈ l.take k,p x=true) (h2:p l[k]=true):∀ x ∈ l.take (k+1),p x=true:=by
 intro x hx;rw [List.take_succ_eq_append_getElem hk] at hx;rcases List.mem_append.1 hx with hx | hx
 ·exact h x hx
 ·rw [List.mem_singleton.1 hx];exact h2
theorem y7 {n:Nat} {s:Bs} (h:leB n s=false):(n:Int) < ((bs s).size:Int):=by
 unfold leB at h;have:=of_decide_eq_false h;rw [bX];omega
theorem uy {n:Nat} {s:Bs} (h:leB n s=true):¬ (n:Int) < ((bs s).size:Int):=by
 have:=qy.1 h;rw [bX];omega
theorem Ou {w:World} {T:Tab} {a:TA} {B:Option Addr} {c:Nat} {ws:List Bs} (hT:yZ w T a) (hC:fF w B ws) (hn:ws.length≤1000000):Calls Tryz.prog 53 #[eZ T a,.slice B ws.length c] w (aP w (.bool (vW T ws))):=by
 obtain ⟨A,ac,D,dc,E,ec⟩:=a;have HT:=hide hT;have HC:=hide hC;have h1:Run (fun _=>False) w (star (au w.heap.size (dA T ⟨A,ac,D,dc,E,ec⟩) 25) emp) _:=aG (Run.begin w) aB _ 25;have HB:=hide (h1.mod.below (fun _ _ h=>h));obtain ⟨F,hF⟩:=h1.fst;obtain ⟨n1,hn1⟩:∃ n,n=T.rs.length:=⟨_,rfl⟩;obtain ⟨n2,hn2⟩:∃ n,n=T.ds.length:=⟨_,rfl⟩;obtain ⟨n3,hn3⟩:∃ n,n=T.es.length:=⟨_,rfl⟩;obtain ⟨n4,hn4⟩:∃ n,n=ws.length:=⟨_,rfl⟩;have c0:=ay (v:=.slice A T.rs.length ac) (i:=0) hF rfl;have c1:=ay (v:=.slice D T.ds.length dc) (i:=1) hF rfl;have c2:=ay (v:=.slice E T.es.length ec) (i:=2) hF rfl;have HN1:=hide hn1;have HN2:=hide hn2;have HN3:=hide hn3;have HN4:=hide hn4;clear hT hC h1 hF;unfold eZ dA;unfold dA at HB c0 c1 c2;dsimp only at HB c0 c1 c2 ⊢;rw [←hn1,←hn2,←hn3] at HB c0 c1 c2 ⊢;rw [←hn4] at hn ⊢;clear hn1 hn2 hn3 hn4;obtain ⟨b,hb⟩:∃ b,b=vW T ws:=⟨_,rfl⟩;rw [←hb];have HV:=hide hb
 have HNO:=hide (show ¬ ((n1≤80∧n2≤40∧n3≤40)∧(∀ R ∈ T.rs,Ot R=true)∧(∀ d ∈ T.ds,BZ d=true)∧(∀ d ∈ T.es,BZ d=true)∧∀ s ∈ ws,leB 30 s=true)→b=false from fun h=>by
  rw [hb,Bool.eq_false_iff];intro h2;rw [o8,←HN1.out,←HN2.out,←HN3.out] at h2
  exact h h2)
 clear hb
 go_enter Tryz.func53,Tryz.ntmps53
 go_upto_region 1 with (fail);generalize w.alloc (.cells #[.slice A n1 ac,.slice D n2 dc,.slice E n3 ec,.int .i64 T.drop,.int .i64 T.ord,.int .i64 T.ini] 25)=w1 at *
 generalize w.heap.size=gt at c0 c1 c2 ⊢;by_cases h1:80 < n1
 ·have h1':(80:Int) < (n1:Int):=by omega
  have HF:=hide (HNO.out (fun h=>by omega));clear HNO HV h1;go_wp2;go_ret;exact aQ HF.out HB.out
 have k1:=Nat.le_of_not_lt h1;have h1':¬ (80:Int) < (n1:Int):=by omega
 clear h1;by_cases h2:40 < n2
 ·have h2':(40:Int) < (n2:Int):=by omega
  have HF:=hide (HNO.out (fun h=>by omega));clear HNO HV h2 k1;go_wp2;go_ret;exact aQ HF.out HB.out
 have k2:=Nat.le_of_not_lt h2;have h2':¬ (40:Int) < (n2:Int):=by omega
 clear h2;by_cases h3:40 < n3
 ·have h3':(40:Int) < (n3:Int):=by omega
  have HF:=hide (HNO.out (fun h=>by omega));clear HNO HV h3 k1 k2;go_wp2;go_ret;exact aQ HF.out HB.out
 have k3:=Nat.le_of_not_lt h3;have h3':¬ (40:Int) < (n3:Int):=by omega
 clear h3;go_wp2_with fail
 go_loop [5] (fun i=>∃ k:Nat,k≤n1∧i=.int .i64 k∧∀ x ∈ T.rs.take k,Ot x=true) (fun i=>n1 - (intOf i).toNat)
 case atStart=>exact ⟨0,Nat.zero_le _,rfl,by simp⟩
 case round =>
  obtain ⟨k,hk,rfl,hall⟩:=hrel;have HA:=hide hall;clear hall;by_cases hlt:k < n1
  ·have hkn:k < T.rs.length:=by rw [←HN1.out];exact hlt
   have HLT:=hide hlt;have hkb:(k:Int) < 1000001:=by omega
   obtain ⟨bb,o,rfl,hc⟩:=qV.at HT.out.rs (by omega);obtain ⟨r0,r1,r2,r3⟩:=hc w1 HB.out k hkn;have HST:=hide (fun h=>pq (p:=Ot) hkn HA.out h);have HBAD:=hide (show Ot T.rs[k]=false→b=false from fun h=>HNO.out (fun h2=>by have:=h2.2.1 _ (List.getElem_mem hkn);rw [h] at this;cases this));clear hc;generalize T.rs[k]=z at *
   cases hs0:leB 12 z.f with
   | false =>
    have h4:(12:Int) < ((bs z.f).size:Int):=y7 hs0;have HF:=hide (HBAD.out (by unfold Ot;rw [hs0];rfl));clear HST HBAD HA;go_wp2;go_ret;exact aQ HF.out HB.out
   | true =>
    have h4:¬ (12:Int) < ((bs z.f).size:Int):=uy hs0;cases hs1:leB 12 z.t with
    | false =>
     have h5:(12:Int) < ((bs z.t).size:Int):=y7 hs1;have HF:=hide (HBAD.out (by unfold Ot;rw [hs0,hs1];rfl));clear HST HBAD HA;go_wp2;go_ret;exact aQ HF.out HB.out
    | true =>
     have h5:¬ (12:Int) < ((bs z.t).size:Int):=uy hs1;have HT2:=hide (HST.out (by unfold Ot;rw [hs0,hs1];rfl));clear HST HBAD HA;go_wp2
     go_round
     case rel=>exact ⟨k+1,HLT.out,by go_num,HT2.out⟩
     case measure=>have:=HLT.out;simp [intOf];omega
  ·obtain rfl:k=n1:=by omega
   have HA1:=hide (show ∀ x ∈ T.rs,Ot x=true from by have h:=HA.out;rw [HN1.out,List.take_length] at h;exact h);clear HA hlt;go_wp2_with fail
   go_loop [6] (fun i=>∃ k:Nat,k≤n2∧i=.int .i64 k∧∀ x ∈ T.ds.take k,BZ x=true) (fun i=>n2 - (intOf i).toNat)
   case atStart=>exact ⟨0,Nat.zero_le _,rfl,by simp⟩
   case round =>
    obtain ⟨k,hk,rfl,hall⟩:=hrel;have HA:=hide hall;clear hall;by_cases hlt:k < n2
    ·have hkn:k < T.ds.length:=by rw [←HN2.out];exact hlt
     have HLT:=hide hlt;have hkb:(k:Int) < 1000001:=by omega
     obtain ⟨bb,o,rfl,hc⟩:=j6.at HT.out.ds (by omega);obtain ⟨r0,r1,r2⟩:=hc w1 HB.out k hkn;have HST:=hide (fun h=>pq (p:=BZ) hkn HA.out h);have HBAD:=hide (show BZ T.ds[k]=false→b=false from fun h=>HNO.out (fun h2=>by have:=h2.2.2.1 _ (List.getElem_mem hkn);rw [h] at this;cases this));clear hc;generalize T.ds[k]=z at *
     cases hs0:leB 60 (z.w) with
     | false =>
      have h4:(60:Int) < ((bs (z.w)).size:Int):=y7 hs0;have HF:=hide (HBAD.out (by unfold BZ;rw [hs0]));clear HST HBAD HA;go_wp2;go_ret;exact aQ HF.out HB.out
     | true =>
      have h4:¬ (60:Int) < ((bs (z.w)).size:Int):=uy hs0;have HT2:=hide (HST.out (by unfold BZ;rw [hs0]));clear HST HBAD HA;go_wp2
      go_round
      case rel=>exact ⟨k+1,HLT.out,by go_num,HT2.out⟩
      case measure=>have:=HLT.out;simp [intOf];omega
    ·obtain rfl:k=n2:=by omega
     have HA2:=hide (show ∀ x ∈ T.ds,BZ x=true from by have h:=HA.out;rw [HN2.out,List.take_length] at h;exact h);clear HA hlt;go_wp2_with fail
     go_loop [7] (fun i=>∃ k:Nat,k≤n3∧i=.int .i64 k∧∀ x ∈ T.es.take k,BZ x=true) (fun i=>n3 - (intOf i).toNat)
     case atStart=>exact ⟨0,Nat.zero_le _,rfl,by simp⟩
     case round =>
      obtain ⟨k,hk,rfl,hall⟩:=hrel;have HA:=hide hall;clear hall;by_cases hlt:k < n3
      ·have hkn:k < T.es.length:=by rw [←HN3.out];exact hlt
       have HLT:=hide hlt;have hkb:(k:Int) < 1000001:=by omega
       obtain ⟨bb,o,rfl,hc⟩:=j6.at HT.out.es (by omega);obtain ⟨r0,r1,r2⟩:=hc w1 HB.out k hkn;have HST:=hide (fun h=>pq (p:=BZ) hkn HA.out h);have HBAD:=hide (show BZ T.es[k]=false→b=false from fun h=>HNO.out (fun h2=>by have:=h2.2.2.2.1 _ (List.getElem_mem hkn);rw [h] at this;cases this));clear hc;generalize T.es[k]=z at *
       cases hs0:leB 60 (z.w) with
       | false =>
        have h4:(60:Int) < ((bs (z.w)).size:Int):=y7 hs0;have HF:=hide (HBAD.out (by unfold BZ;rw [hs0]));clear HST HBAD HA;go_wp2;go_ret;exact aQ HF.out HB.out
       | true =>
        have h4:¬ (60:Int) < ((bs (z.w)).size:Int):=uy hs0;have HT2:=hide (HST.out (by unfold BZ;rw [hs0]));clear HST HBAD HA;go_wp2
        go_round
        case rel=>exact ⟨k+1,HLT.out,by go_num,HT2.out⟩
        case measure=>have:=HLT.out;simp [intOf];omega
      ·obtain rfl:k=n3:=by omega
       have HA3:=hide (show ∀ x ∈ T.es,BZ x=true from by have h:=HA.out;rw [HN3.out,List.take_length] at h;exact h);clear HA hlt;go_wp2_with fail
       go_loop [8] (fun i=>∃ k:Nat,k≤n4∧i=.int .i64 k∧∀ x ∈ ws.take k,leB 30 x=true) (fun i=>n4 - (intOf i).toNat)
       case atStart=>exact ⟨0,Nat.zero_le _,rfl,by simp⟩
       case round =>
        obtain ⟨k,hk,rfl,hall⟩:=hrel;have HA:=hide hall;clear hall;by_cases hlt:k < n4
        ·have hkn:k < ws.length:=by rw [←HN4.out];exact hlt
         have HLT:=hide hlt;have hkb:(k:Int) < 1000001:=by omega
         obtain ⟨bb,o,rfl,hc⟩:=fF.at HC.out (by omega);have r0:=hc w1 HB.out k hkn;have HST:=hide (fun h=>pq (p:=leB 30) hkn HA.out h);have HBAD:=hide (show (leB 30) ws[k]=false→b=false from fun h=>HNO.out (fun h2=>by have:=h2.2.2.2.2 _ (List.getElem_mem hkn);rw [h] at this;cases this));clear hc;generalize ws[k]=z at *
         cases hs0:leB 30 (z) with
         | false =>
          have h4:(30:Int) < ((bs (z)).size:Int):=y7 hs0;have HF:=hide (HBAD.out (by exact hs0));clear HST HBAD HA;go_wp2;go_ret;exact aQ HF.out HB.out
         | true =>
          have h4:¬ (30:Int) < ((bs (z)).size:Int):=uy hs0;have HT2:=hide (HST.out (by exact hs0));clear HST HBAD HA;go_wp2
          go_round
          case rel=>exact ⟨k+1,HLT.out,by go_num,HT2.out⟩
          case measure=>have:=HLT.out;simp [intOf];omega
        ·obtain rfl:k=n4:=by omega
         have HA4:=hide (show ∀ x ∈ ws,leB 30 x=true from by have h:=HA.out;rw [HN4.out,List.take_length] at h;exact h);clear HA hlt
         have HF:=hide (show b=true from by
          rw [HV.out,o8,←HN1.out,←HN2.out,←HN3.out]
          exact ⟨⟨k1,k2,k3⟩,HA1.out,HA2.out,HA3.out,HA4.out⟩)
         clear HNO HV;go_wp2;go_ret;exact aQ HF.out HB.out
end Go.Proofs.YtbnnlpjpnihheaaGreatDoor
namespace Go.Proofs.YtbnnlpjpnihheaaGreatDoor
open Go.RowKit Go.CH Go.CH.Scr Go.CH.dK Go.CH.Mtc
open Go.ChangeMaps (setBlock)

structure EC where
 n:bq
 A:Option Addr
 c:Nat
def TG (z:EC):List Value:=[.int .i64 z.n.k,.slice z.A z.n.ws.length z.c]
structure GN (w:World) (A:Option Addr) (l:List EC):Prop where
 row:wu TG 2 w A l
 all:∀ z ∈ l,fF w z.A z.n.ws
theorem GN.below {w w':World} {A:Option Addr} {l:List EC} (h:GN w A l) (hb:Below w.heap.size w w'):GN w' A l:=⟨aR h.row hb,fun z hz=>aR (h.all z hz) hb⟩

def Ry (T:Tab) (z:EC):Bool:=decide (z.n.ws.length≤3) && vW T z.n.ws
def zq (T:Tab) (l:List EC):Bool:=vW T [] && l.all (Ry T)
theorem uz {T:Tab} {l:List EC}:zq T l=true↔vW T []=true∧∀ z ∈ l,Ry T z=true:=by
 unfold zq;rw [Bool.and_eq_true,List.all_eq_true]
theorem Jb {T:Tab} {z:EC}:Ry T z=true↔z.n.ws.length≤3∧vW T z.n.ws=true:=by
 unfold Ry;rw [Bool.and_eq_true,decide_eq_true_eq]
theorem K7 {w:World} {T:Tab} {a:TA} {B:Option Addr} {c:Nat} {l:List EC} (hT:yZ w T a) (hC:GN w B l) (hn:l.length≤1000000):Calls Tryz.prog 28 #[eZ T a,.int .i64 3,.slice B l.length c] w (aP w (.bool (zq T l))):=by
 have HT:=hide hT;have HC:=hide hC;have h1:Run (fun _=>False) w (star (au w.heap.size (dA T a) 25) emp) _:=aG (Run.begin w) aB _ 25;have HB:=hide (h1.mod.below (fun _ _ h=>h))
 have HTC:=hide (fun W (h:Below (w.alloc (.cells (dA T a) 25)).heap.size (w.alloc (.cells (dA T a) 25)) W)=>(show W.cell? ⟨w.heap.size,0,none⟩=some (.slice a.A T.rs.length a.c)∧W.cell? ⟨w.heap.size,1,none⟩=some (.slice a.D T.ds.length a.d)∧W.cell? ⟨w.heap.size,2,none⟩=some (.slice a.E T.es.length a.e)∧W.cell? ⟨w.heap.size,3,none⟩=some (.int .i64 T.drop)∧W.cell? ⟨w.heap.size,4,none⟩=some (.int .i64 T.ord)∧W.cell? ⟨w.heap.size,5,none⟩=some (.int .i64 T.ini) from by
  obtain ⟨f,hf⟩:=(h1.below (aj av aB) h).fst
  exact ⟨ay hf rfl,ay hf rfl,ay hf rfl,ay hf rfl,ay hf rfl,ay hf rfl⟩))
 have KF:=hide (fun W (hb:Below w.heap.size w W) (ws:List Bs) (B:Option Addr) (c:Nat) (hv:fF W B ws) (hn:ws.length≤1000000)=>Ou (c:=c) (hT.below hb) hv hn);clear hT hC h1;unfold eZ at KF ⊢;unfold dA at HB HTC KF ⊢;generalize T.rs.length=n1 at *
 generalize T.ds.length=n2 at *
 generalize T.es.length=n3 at *
 obtain ⟨n4,hn4⟩:∃ n,n=l.length:=⟨_,rfl⟩;have HN4:=hide hn4;rw [←hn4] at hn ⊢;clear hn4;obtain ⟨b,hb⟩:∃ b,b=zq T l:=⟨_,rfl⟩;rw [←hb];have HV:=hide hb
 have HNO:=hide (show ¬ (vW T []=true∧∀ z ∈ l,Ry T z=true)→b=false from fun h=>by
  rw [hb,Bool.eq_false_iff];intro h2
  exact h (uz.1 h2))
 clear hb
 go_enter Tryz.func28,Tryz.ntmps28
 go_upto_region 1 with (fail);generalize w.alloc (.cells #[.slice a.A n1 a.c,.slice a.D n2 a.d,.slice a.E n3 a.e,.int .i64 T.drop,.int .i64 T.ord,.int .i64 T.ini] 25)=w1 at *
 generalize w.heap.size=gt at HTC ⊢;have HBW:=hide (fun W (h:Below w1.heap.size w1 W)=>HB.out.trans (h.mono HB.out.size));obtain ⟨t0,t1,t2,t3,t4,t5⟩:=HTC.out w1 (Below.refl _ _);have K0:=hide (KF.out w1 HB.out [] none 0 Src.none_ (Nat.zero_le _));rw [List.length_nil] at K0;cases hf0:vW T [] with
 | false =>
  rw [hf0] at K0;have HF:=hide (HNO.out (fun h=>by rw [h.1] at hf0;cases hf0));clear hf0 HNO HV KF;go_wp2_with fail;refine K0.out.mono ?_;rintro e9 w2 ⟨rfl,hb⟩;have HE:=hide (HBW.out w2 hb);clear K0 hb t0 t1 t2 t3 t4 t5;go_wp2;go_ret;exact aQ HF.out HE.out
 | true =>
  rw [hf0] at K0;have HF0:=hide hf0;clear hf0;go_wp2_with fail;refine K0.out.mono ?_;rintro e9 w2 ⟨rfl,hb⟩;have HB2:=hide hb;clear K0 hb t0 t1 t2 t3 t4 t5;dsimp only;go_wp2_with fail;go_loopw [7] (fun i wr=>∃ k:Nat,i=.int .i64 k∧k≤n4∧(∀ x ∈ l.take k,Ry T x=true)∧Below w1.heap.size w1 wr) (fun i _=>n4 - (intOf i).toNat)
  case atStart=>exact ⟨0,rfl,Nat.zero_le _,(by simp),HB2.out⟩
  case round =>
   obtain ⟨k,rfl,hk,hall,hbr⟩:=hrel;have HA:=hide hall;have HBR:=hide hbr;clear hall hbr HB2;by_cases hlt:k < n4
   ·have hkn:k < l.length:=by rw [←HN4.out];exact hlt
    have HLT:=hide hlt;have hkb:(k:Int) < 1000001:=by omega
    obtain ⟨bb,o,hBB,hc⟩:=wu.at (R:=TG) (fun _=>rfl) (by omega) HC.out.row (by omega);have HST:=hide (fun h=>pq (p:=Ry T) hkn HA.out h);have HBAD:=hide (show Ry T l[k]=false→b=false from fun h=>HNO.out (fun h2=>by have:=h2.2 _ (List.getElem_mem hkn);rw [h] at this;cases this));have hbd:=HBW.out wr.drew HBR.out.drew;have KZ:=hide (fun (hle:l[k].n.ws.length≤1000000)=>KF.out wr.drew hbd l[k].n.ws l[k].A l[k].c (aR (HC.out.all _ (List.getElem_mem hkn)) hbd) hle);have r0:=hc wr.drew hbd k hkn 0 _ rfl;have r1:=hc wr.drew hbd k hkn 1 _ rfl;have HR:=hide (fun W (hb:Below wr.drew.heap.size wr.drew W)=>(show W.cell? ⟨bb,o+k*2,none⟩=some (.int .i64 l[k].n.k)∧W.cell? ⟨bb,o+k*2+1,none⟩=some (.slice l[k].A l[k].n.ws.length l[k].c) from ⟨aF r0 hb,aF r1 hb⟩));clear hc r0 r1 hbd;subst hBB;obtain ⟨z,hz⟩:∃ z,z=l[k]:=⟨_,rfl⟩;rw [←hz] at HST HBAD KZ HR;clear hz;obtain ⟨⟨zk,zw⟩,zA,zc⟩:=z;dsimp only at KZ HR;have HFW:=hide (Jb (T:=T) (z:=⟨⟨zk,zw⟩,zA,zc⟩));dsimp only at HFW;obtain ⟨nz,hnz⟩:∃ nz,nz=zw.length:=⟨_,rfl⟩;rw [←hnz] at HFW KZ HR;clear hnz;obtain ⟨r0,r1⟩:=HR.out _ (Below.refl _ _);obtain ⟨t0,t1,t2,t3,t4,t5⟩:=HTC.out wr.drew HBR.out.drew;go_upto_region 6 with (fail);by_cases hgt:3 < nz
    ·have hg:(3:Int) < (nz:Int):=by omega
     have HF:=hide (HBAD.out (by rw [Bool.eq_false_iff];intro h;have:=(HFW.out.1 h).1;omega));have HE:=hide (HBW.out wr.drew HBR.out.drew);refine aI (fun w'=>w'.cell? ⟨bb,o+k*2+1,none⟩=some (.slice zA nz zc)∧w'.cell? ⟨gt,0,none⟩=some (.slice a.A n1 a.c)∧w'.cell? ⟨gt,1,none⟩=some (.slice a.D n2 a.d)∧w'.cell? ⟨gt,2,none⟩=some (.slice a.E n3 a.e)∧w'.cell? ⟨gt,3,none⟩=some (.int .i64 T.drop)∧w'.cell? ⟨gt,4,none⟩=some (.int .i64 T.ord)∧w'.cell? ⟨gt,5,none⟩=some (.int .i64 T.ini)) (by kernel_rfl) (by kernel_rfl) (by exact ⟨r1,t0,t1,t2,t3,t4,t5⟩) ?_;clear r0 r1 t0 t1 t2 t3 t4 t5 HNO HV HST HBAD
     (repeat ((first | refine aK (by rfl) ?_ | (refine aL (v:=?_) (by rfl) ?_ ?_;rotate_left;(focus (intro w' hS';go_simp;(try with_reducible rfl);done))));try simp only [Act.put,List.setIfInBounds_toArray,List.set_cons_zero,List.set_cons_succ]))
     refine lex_nil ?_;go_wp2;go_ret;exact aQ HF.out HE.out
    ·have hg:¬ (3:Int) < (nz:Int):=by omega
     have KZ2:=hide (KZ.out (by omega));refine aI (fun w'=>w'.cell? ⟨bb,o+k*2+1,none⟩=some (.slice zA nz zc)∧w'.cell? ⟨gt,0,none⟩=some (.slice a.A n1 a.c)∧w'.cell? ⟨gt,1,none⟩=some (.slice a.D n2 a.d)∧w'.cell? ⟨gt,2,none⟩=some (.slice a.E n3 a.e)∧w'.cell? ⟨gt,3,none⟩=some (.int .i64 T.drop)∧w'.cell? ⟨gt,4,none⟩=some (.int .i64 T.ord)∧w'.cell? ⟨gt,5,none⟩=some (.int .i64 T.ini)) (by kernel_rfl) (by kernel_rfl) (by exact ⟨r1,t0,t1,t2,t3,t4,t5⟩) ?_;clear r0 r1 t0 t1 t2 t3 t4 t5 KZ
     (repeat ((first | refine aK (by rfl) ?_ | (refine aL (v:=?_) (by rfl) ?_ ?_;rotate_left;(focus (intro w' hS';go_simp;(try with_reducible rfl);done))));try simp only [Act.put,List.setIfInBounds_toArray,List.set_cons_zero,List.set_cons_succ]))
     refine dR rfl (by rfl) (fun K hK=>?_);go_wp2_with fail;refine KZ2.out.mono ?_;rintro e9 w3 ⟨rfl,hb⟩;obtain ⟨-,r1⟩:=HR.out w3 hb;have HB3:=hide (HBR.out.drew.trans (hb.mono HBR.out.drew.size));obtain ⟨t0,t1,t2,t3,t4,t5⟩:=HTC.out w3 HB3.out;refine hK.out _ _ (by exact ⟨r1,t0,t1,t2,t3,t4,t5⟩) ?_;clear hK hb r1 t0 t1 t2 t3 t4 t5 KZ2;cases hfa:vW T zw with
     | false =>
      have HF:=hide (HBAD.out (by rw [Bool.eq_false_iff];intro h;have:=(HFW.out.1 h).2;rw [hfa] at this;cases this));have HE:=hide (HBW.out w3 HB3.out);clear HNO HV HST HBAD hfa
      (repeat ((first | refine aK (by rfl) ?_ | (refine aL (v:=?_) (by rfl) ?_ ?_;rotate_left;(focus (intro w' hS';go_simp;(try with_reducible rfl);done))));try simp only [Act.put,List.setIfInBounds_toArray,List.set_cons_zero,List.set_cons_succ]))
      refine lex_nil ?_;go_wp2;go_ret;exact aQ HF.out HE.out
     | true =>
      have HT2:=hide (HST.out (HFW.out.2 ⟨by omega,hfa⟩));clear HST HBAD hfa
      (repeat ((first | refine aK (by rfl) ?_ | (refine aL (v:=?_) (by rfl) ?_ ?_;rotate_left;(focus (intro w' hS';go_simp;(try with_reducible rfl);done))));try simp only [Act.put,List.setIfInBounds_toArray,List.set_cons_zero,List.set_cons_succ]))
      refine lex_nil ?_;go_wp2_with fail
      go_roundw
      case rel=>exact ⟨k+1,by go_num,HLT.out,HT2.out,HB3.out⟩
      case measure=>have:=HLT.out;simp [intOf];omega
   ·obtain rfl:k=n4:=by omega
    have HF:=hide (show b=true from by
     rw [HV.out,uz];refine ⟨HF0.out,?_⟩;have h:=HA.out;rw [HN4.out,List.take_length] at h
     exact h)
    have HE:=hide (HBW.out wr HBR.out);clear HNO HV HA;go_wp2;go_ret;exact aQ HF.out HE.out
theorem QW {w:World} {T:Tab} {a:TA} {B:Option Addr} {c:Nat} {l:List EC} (hT:yZ w T a) (hC:GN w B l) (hn:l.length≤1000000):Calls Tryz.prog 11 #[eZ T a,.slice B l.length c] w (aP w (.bool (zq T l))):=by
 have h1:Run (fun _=>False) w (star (au w.heap.size (dA T a) 25) emp) _:=aG (Run.begin w) aB _ 25;have HB:=hide (h1.mod.below (fun _ _ h=>h));have KF:=hide (K7 (c:=c) (hT.below HB.out) (hC.below HB.out) hn);have HBW:=hide (fun W (h:Below (w.alloc (.cells (dA T a) 25)).heap.size (w.alloc (.cells (dA T a) 25)) W)=>HB.out.trans (h.mono HB.out.size));obtain ⟨t0,t1,t2,t3,t4,t5⟩:=bW h1;clear hT hC h1;unfold eZ at *
 unfold dA at *
 generalize T.rs.length=n1 at *
 generalize T.ds.length=n2 at *
 generalize T.es.length=n3 at *
 generalize l.length=n4 at *
 go_enter Tryz.func11,Tryz.ntmps11
 go_upto_region 1 with (fail);generalize w.alloc (.cells #[.slice a.A n1 a.c,.slice a.D n2 a.d,.slice a.E n3 a.e,.int .i64 T.drop,.int .i64 T.ord,.int .i64 T.ini] 25)=w1 at *
 generalize w.heap.size=gt at t0 t1 t2 t3 t4 t5 ⊢;go_wp2_with fail;refine KF.out.mono ?_;rintro e9 w2 ⟨rfl,hb⟩;have HE:=hide (HBW.out w2 hb);clear KF hb t0 t1 t2 t3 t4 t5;go_wp2;go_ret;exact aQ rfl HE.out
end Go.Proofs.YtbnnlpjpnihheaaGreatDoor
namespace Go.Proofs.YtbnnlpjpnihheaaGreatDoor
open Go.RowKit Go.CH Go.CH.Scr Go.CH.dK Go.CH.Mtc
open Go.ChangeMaps (setBlock)
end Go.Proofs.YtbnnlpjpnihheaaGreatDoor
