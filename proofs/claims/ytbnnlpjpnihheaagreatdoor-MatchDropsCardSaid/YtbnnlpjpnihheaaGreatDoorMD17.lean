import Derived.Test.YtbnnlpjpnihheaaGreatDoorMD16
import Derived.Test.YtbnnlpjpnihheaaGreatDoorMD8
import Derived.Test.YtbnnlpjpnihheaaGreatDoorMD10
import Derived.Deep.DeepCutAuto
set_option linter.unusedSimpArgs false
set_option linter.unusedVariables false
namespace Go.Proofs.YtbnnlpjpnihheaaGreatDoor
open Go.RowKit Go.CH Go.CH.Scr Go.CH.Pot Go.CH.Mtc
open Asn (VecO vec_ok vec_vec Mat Vec ints cF lF vld cF_at lF_at)
open Go.ChangeMaps (setBlock)
theorem below_cell {w W:World} {p:Addr} {v:Value} (h:w.cell? p=some v) (hb:Below w.heap.size w W):W.cell? p=some v:=by rw [hb.cell (World.block_lt_of_cell? _ _ h)];exact h

theorem nam_ret {w w':World} {T:Tab} {n:NameM} {e:Ending} (h:NamRet w T n e w'):∃ (A:Option Addr) (p c:Nat) (B:Option Addr) (q d:Nat) (o:Bool),e=.returned (.tuple #[.agg #[.slice A p c,.slice B q d],.bool o])∧Below w.heap.size w w'∧o=(validT T && validN n)∧(o=true→p=n.ws.length∧q=n.ws.length∧p≤c∧q≤d∧∃ l,NmsR w' T n l A B):=by
 unfold NamRet at h
 split at h
 ·rename_i hv
  obtain ⟨l,A,c,B,d,rfl,hb,hr,h1,h2⟩:=h
  exact ⟨A,_,c,B,_,d,true,rfl,hb,hv.symm,fun _=>⟨rfl,rfl,h1,h2,l,hr⟩⟩
 ·rename_i hv
  obtain ⟨rfl,hb⟩:=h
  exact ⟨none,0,0,none,0,0,false,rfl,hb,by simpa using hv,fun h=>by cases h⟩
theorem res13 {tmps:Array Value} {w:World} {g:Nat} {cs:Array Value} (h:tmps.getD 6 undef=.pointer (some ⟨g,0,none⟩)) (hs:cs.size=3) (hc:w.heap[g]?=some (.cells cs 31)) {v:Value} (hv:tmps.getD 7 undef=v):(results Tryz.f13 tmps).run Tryz.prog w=.ok (.tuple #[.agg cs,v]) w:=by
 subst hv
 exact res_cell_tmp rfl tmps w g 31 cs (0,0) h hc Tryz.underlying31 (by rw [hs];kernel_rfl)
theorem run_set3 {F0:Nat→Prop} {w0 w:World} {g:Nat} {t:TypeId} {X:CH.Own} {a0 a1 a2:Value} (h:Run F0 w0 (star (CellO g #[a0,a1,a2] t) X) w) (hX:X.Ok) (b0 b1 b2:Value) :
  Run F0 w0 (star (CellO g #[b0,b1,b2] t) X) (((w.setCell ⟨g,0,none⟩ b0).setCell ⟨g,1,none⟩ b1).setCell ⟨g,2,none⟩ b2):=by
 have h0:Run F0 w0 (star (CellO g #[b0,a1,a2] t) X) _:=run_setc h hX 0 b0
 have h1:Run F0 w0 (star (CellO g #[b0,b1,a2] t) X) _:=run_setc h0 hX 1 b1
 exact run_setc h1 hX 2 b2
theorem wd_mem {n:NameM} {i:Nat} (h:i < n.ws.length):wd n i ∈ n.ws:=by
 unfold wd
 rw [List.getD_eq_getElem?_getD,List.getElem?_eq_getElem h]
 exact List.getElem_mem h

theorem nms_at {w:World} {T:Tab} {n:NameM} {l:List (Wrd × WW)} {A B:Option Addr} (h:NmsR w T n l A B) {i:Nat} (hi:i < n.ws.length) :
  ∃ (u:WW) (b o:Nat),A=some ⟨b,o,none⟩∧∀ W,Below w.heap.size w W→WrdR W (wrdN T n.k (wd n i)) u∧W.cell? ⟨b,o+i*3,none⟩=some (.int .i64 (wrdN T n.k (wd n i)).k)∧W.cell? ⟨b,o+i*3+1,none⟩=some (.slice u.V (wrdN T n.k (wd n i)).vs.length u.vc)∧W.cell? ⟨b,o+i*3+2,none⟩=some (.slice u.L (wrdN T n.k (wd n i)).ls.length u.lc):=by
 have hl:l.length=n.ws.length:=by have:=congrArg List.length h.eq;simpa using this
 obtain ⟨b,o,hA,hc⟩:=Rst.at (R:=wcells) (fun _=>rfl) (by omega) h.row (by omega)
 have he:(l[i]'(by omega)).1=wrdN T n.k (wd n i):=by
  have h1:(l.map (·.1))[i]?=(n.ws.map (wrdN T n.k))[i]?:=by rw [h.eq]
  rw [List.getElem?_map,List.getElem?_map,List.getElem?_eq_getElem (show i < l.length by omega),List.getElem?_eq_getElem hi] at h1
  injection h1 with h1
  unfold wd
  rw [List.getD_eq_getElem?_getD,List.getElem?_eq_getElem hi]
  exact h1
 refine ⟨(l[i]'(by omega)).2,b,o,hA,fun W hb=>?_⟩
 rw [←he]
 exact ⟨(h.all _ (List.getElem_mem _)).below hb,hc W hb i (by omega) 0 _ rfl,hc W hb i (by omega) 1 _ rfl,hc W hb i (by omega) 2 _ rfl⟩

theorem mat_no {w W:World} {T:Tab} {a b:NameM} (h:okM T a b=false) (hb:Below w.heap.size w W):MatRet w T a b (.returned (.tuple #[.agg #[.int .i64 0,.bool false,.slice none 0 0],.int .i64 1])) W :=
 ⟨noM,1,none,0,[],rfl,.arg h,rfl,fun _=>False,mto_nil W,Mod.of_below hb,fun _ h=>h.elim⟩
set_option maxHeartbeats 6400000 in
set_option maxRecDepth 100000 in
theorem best14_any {w:World} {T:Tab} {ta:TA} (hT:TabR w T ta) (hz:LZ w) {a b:NameM} {An Bn:Option Addr} {ca cb:Nat} (hA:Vst w An a.ws) (hB:Vst w Bn b.ws) (hla:a.ws.length≤1000000) (hlb:b.ws.length≤1000000) (hwa:∀ x ∈ a.ws,x.length≤1000000) (hwb:∀ x ∈ b.ws,x.length≤1000000) :
  Calls Tryz.prog 13 #[tabV T ta,nmV a An ca,nmV b Bn cb] w (MatRet w T a b):=by
 have h1:=run_new (Run.begin w) emp_ok (tabC T ta) 25
 have h2:=run_new h1 (star_ok cell_ok emp_ok) #[.int .i64 a.k,.slice An a.ws.length ca] 28
 have h3:=run_new h2 (star_ok cell_ok (star_ok cell_ok emp_ok)) #[.int .i64 b.k,.slice Bn b.ws.length cb] 28
 have h4:=run_new h3 (star_ok cell_ok (star_ok cell_ok (star_ok cell_ok emp_ok))) #[.int .i64 0,.bool false,.slice none 0 0] 31
 simp only [World.size_alloc] at h4
 have H4:=hide h4
 have HBW:=hide (fun W X (h:Run (fun _=>False) w X W)=>(show Below w.heap.size w W from h.mod.below (fun _ _ h=>h)))
 have KA:=hide (fun W (hb:Below w.heap.size w W)=>(nameOf_any (n:=a) (cn:=ca) (hT.below hb) (hz.below hb) (src_below hA hb) hla hwa).mono fun e w' h=>nam_ret h)
 have KB:=hide (fun W (hb:Below w.heap.size w W)=>(nameOf_any (n:=b) (cn:=cb) (hT.below hb) (hz.below hb) (src_below hB hb) hlb hwb).mono fun e w' h=>nam_ret h)
 have KC0:=hide (fun (hv1:validT T=true) (hv2:validN a=true) (hv3:validN b=true) W (hb:Below w.heap.size w W) (i j:Nat) (hi:i < a.ws.length) (hj:j < b.ws.length) (u v:WW) (hu:WrdR W (wrdN T a.k (wd a i)) u) (hv:WrdR W (wrdN T b.k (wd b j)) v)=>cheapest_any (hT.below hb) (hz.below hb) (hwa _ (wd_mem hi)) (hwb _ (wd_mem hj)) (okW_iff.2 ⟨(validN_iff.1 hv2).1 _ (wd_mem hi),(validN_iff.1 hv3).1 _ (wd_mem hj),hv1⟩) hu hv)
 have HTW:=hide (fun W (hb:Below w.heap.size w W)=>(show TabR W T ta∧LZ W from ⟨hT.below hb,hz.below hb⟩))
 have HWA:=hide hwa
 have HWB:=hide hwb
 clear hT hz hA hB hla hlb hwa hwb h1 h2 h3 h4
 unfold tabV nmV at *
 unfold tabC at *
 generalize T.rs.length=n1 at *
 generalize T.ds.length=n2 at *
 generalize T.es.length=n3 at *
 obtain ⟨la,hla⟩:∃ la,la=a.ws.length:=⟨_,rfl⟩
 obtain ⟨lb,hlb⟩:∃ lb,lb=b.ws.length:=⟨_,rfl⟩
 have HLA:=hide hla
 have HLB:=hide hlb
 rw [←hla] at H4 KA ⊢
 rw [←hlb] at H4 KB ⊢
 clear hla hlb
 obtain ⟨aA,ac,aD,ad,aE,ae⟩:=ta
 dsimp only at H4 KA KB KC0 ⊢
 generalize hw4:(((w.alloc (.cells #[.slice aA n1 ac,.slice aD n2 ad,.slice aE n3 ae,.int .i64 T.drop,.int .i64 T.ord,.int .i64 T.ini] 25)).alloc (.cells #[.int .i64 a.k,.slice An la ca] 28)).alloc (.cells #[.int .i64 b.k,.slice Bn lb cb] 28)).alloc (.cells #[.int .i64 0,.bool false,.slice none 0 0] 31)=w4 at H4
 generalize hg4:w.heap.size+1=g4 at H4
 generalize hg5:g4+1=g5 at H4
 generalize hg6:g5+1=g6 at H4
 go_enter Tryz.func13,Tryz.ntmps13
 go_upto_region 1 with (fail)
 clear hw4 hg4 hg5 hg6
 have ok4:=hide ((star_ok cell_ok (star_ok cell_ok (star_ok cell_ok (star_ok cell_ok emp_ok)))):(star (CellO g6 #[.int .i64 0,.bool false,.slice none 0 0] 31) (star (CellO g5 #[.int .i64 b.k,.slice Bn lb cb] 28) (star (CellO g4 #[.int .i64 a.k,.slice An la ca] 28) (star (CellO w.heap.size #[.slice aA n1 ac,.slice aD n2 ad,.slice aE n3 ae,.int .i64 T.drop,.int .i64 T.ord,.int .i64 T.ini] 25) emp)))).Ok)
 obtain ⟨t0,t1,t2,t3,t4,t5⟩:=run_cb H4.out.drop.drop.drop
 obtain ⟨s0,s1,sf⟩:=run_c2 H4.out.drop.drop
 have KA2:=hide (KA.out w4 (HBW.out _ _ H4.out))
 clear KA
 go_wp2_with fail
 refine KA2.out.mono ?_
 rintro e9 w5 ⟨xA,n,xc,xB,p,xd,o1,rfl,hb,hov,hR⟩
 have H5:=hide (H4.out.below ok4.out hb)
 have HO1:=hide hov
 have HR1:=hide hR
 clear KA2 hb hov hR t0 t1 t2 t3 t4 t5 s0 s1 sf H4
 have H6:=hide (run_new H5.out ok4.out #[.slice xA n xc,.slice xB p xd] 71)
 have ok5:=hide ((star_ok cell_ok (star_ok cell_ok (star_ok cell_ok (star_ok cell_ok (star_ok cell_ok emp_ok))))):((star (CellO w5.heap.size #[.slice xA n xc,.slice xB p xd] 71) (star (CellO g6 #[.int .i64 0,.bool false,.slice none 0 0] 31) (star (CellO g5 #[.int .i64 b.k,.slice Bn lb cb] 28) (star (CellO g4 #[.int .i64 a.k,.slice An la ca] 28) (star (CellO w.heap.size #[.slice aA n1 ac,.slice aD n2 ad,.slice aE n3 ae,.int .i64 T.drop,.int .i64 T.ord,.int .i64 T.ini] 25) emp)))))).Ok)
 have HB6:=hide (show Below w5.heap.size w5 (w5.alloc (.cells #[.slice xA n xc,.slice xB p xd] 71)) from (Below.refl _ _).alloc (Nat.le_refl _) _)
 dsimp only
 go_upto_region 2 with (fail)
 generalize w5.alloc (.cells #[.slice xA n xc,.slice xB p xd] 71)=w6 at *
 clear H5
 generalize hw5:w5.heap.size=g8 at *
 have HW5:=hide hw5
 clear hw5
 obtain ⟨t0,t1,t2,t3,t4,t5⟩:=run_cb H6.out.drop.drop.drop.drop
 obtain ⟨s0,s1,sf⟩:=run_c2 H6.out.drop.drop
 have KB2:=hide (KB.out w6 (HBW.out _ _ H6.out))
 clear KB
 go_wp2_with fail
 refine KB2.out.mono ?_
 rintro e9 w7 ⟨yA,m,yc,yB,q,yd,o2,rfl,hb,hov,hR⟩
 have H7:=hide (H6.out.below ok5.out hb)
 have HO2:=hide hov
 have HR2:=hide hR
 have HB7:=hide (show Below w5.heap.size w5 w7 from by rw [HW5.out];exact HB6.out.trans (hb.mono (Nat.le_trans (Nat.le_of_eq HW5.out.symm) HB6.out.size)))
 clear KB2 hb hov hR t0 t1 t2 t3 t4 t5 s0 s1 sf H6 HB6
 have H8:=hide (run_new H7.out ok5.out #[.slice yA m yc,.slice yB q yd] 71)
 have ok6:=hide ((star_ok cell_ok (star_ok cell_ok (star_ok cell_ok (star_ok cell_ok (star_ok cell_ok (star_ok cell_ok emp_ok)))))):((star (CellO w7.heap.size #[.slice yA m yc,.slice yB q yd] 71) (star (CellO g8 #[.slice xA n xc,.slice xB p xd] 71) (star (CellO g6 #[.int .i64 0,.bool false,.slice none 0 0] 31) (star (CellO g5 #[.int .i64 b.k,.slice Bn lb cb] 28) (star (CellO g4 #[.int .i64 a.k,.slice An la ca] 28) (star (CellO w.heap.size #[.slice aA n1 ac,.slice aD n2 ad,.slice aE n3 ae,.int .i64 T.drop,.int .i64 T.ord,.int .i64 T.ini] 25) emp))))))).Ok)
 have HB8:=hide (show Below w7.heap.size w7 (w7.alloc (.cells #[.slice yA m yc,.slice yB q yd] 71))∧w5.heap.size≤w7.heap.size from ⟨(Below.refl _ _).alloc (Nat.le_refl _) _,HB7.out.size⟩)
 dsimp only
 go_upto_region 3 with (fail)
 generalize w7.alloc (.cells #[.slice yA m yc,.slice yB q yd] 71)=w8 at *
 clear H7
 generalize hw7:w7.heap.size=g10 at *
 have HW7:=hide hw7
 clear hw7
 cases o1 with
 | false =>
  have HNO:=hide (fun W hb=>mat_no (w:=w) (W:=W) (T:=T) (a:=a) (b:=b) (by unfold okM;rw [←Bool.and_assoc,←HO1.out];rfl) hb)
  obtain ⟨z0,z1,z2⟩:=run_c3 H8.out.drop.drop
  obtain ⟨F6,hF6⟩:=H8.out.drop.drop.fst
  have zf:=cell_free hF6
  have h9:=run_set3 (H8.out.perm (by ac_rfl:_=(star (CellO g6 #[.int .i64 0,.bool false,.slice none 0 0] 31) (star (CellO g10 #[.slice yA m yc,.slice yB q yd] 71) (star (CellO g8 #[.slice xA n xc,.slice xB p xd] 71) (star (CellO g5 #[.int .i64 b.k,.slice Bn lb cb] 28) (star (CellO g4 #[.int .i64 a.k,.slice An la ca] 28) (star (CellO w.heap.size #[.slice aA n1 ac,.slice aD n2 ad,.slice aE n3 ae,.int .i64 T.drop,.int .i64 T.ord,.int .i64 T.ini] 25) emp)))))))) (star_ok cell_ok (star_ok cell_ok (star_ok cell_ok (star_ok cell_ok (star_ok cell_ok emp_ok))))) (.int .i64 0) (.bool false) (.slice none 0 0)
  have H9:=hide h9
  clear h9 hF6 F6 H8 HR1 HR2 HO1 HO2
  go_wp2
  obtain ⟨f2,hf2⟩:=H9.out.fst
  refine bodyPost_ret (res13 rfl rfl hf2.1 rfl) rfl ?_
  exact HNO.out _ (HBW.out _ _ H9.out)
 | true =>
  cases o2 with
  | false =>
   have HNO:=hide (fun W hb=>mat_no (w:=w) (W:=W) (T:=T) (a:=a) (b:=b) (by unfold okM;rw [Bool.and_comm (validN a),←Bool.and_assoc,←HO2.out];rfl) hb)
   obtain ⟨z0,z1,z2⟩:=run_c3 H8.out.drop.drop
   obtain ⟨F6,hF6⟩:=H8.out.drop.drop.fst
   have zf:=cell_free hF6
   have h9:=run_set3 (H8.out.perm (by ac_rfl:_=(star (CellO g6 #[.int .i64 0,.bool false,.slice none 0 0] 31) (star (CellO g10 #[.slice yA m yc,.slice yB q yd] 71) (star (CellO g8 #[.slice xA n xc,.slice xB p xd] 71) (star (CellO g5 #[.int .i64 b.k,.slice Bn lb cb] 28) (star (CellO g4 #[.int .i64 a.k,.slice An la ca] 28) (star (CellO w.heap.size #[.slice aA n1 ac,.slice aD n2 ad,.slice aE n3 ae,.int .i64 T.drop,.int .i64 T.ord,.int .i64 T.ini] 25) emp)))))))) (star_ok cell_ok (star_ok cell_ok (star_ok cell_ok (star_ok cell_ok (star_ok cell_ok emp_ok))))) (.int .i64 0) (.bool false) (.slice none 0 0)
   have H9:=hide h9
   clear h9 hF6 F6 H8 HR1 HR2 HO1 HO2
   go_wp2
   obtain ⟨f2,hf2⟩:=H9.out.fst
   refine bodyPost_ret (res13 rfl rfl hf2.1 rfl) rfl ?_
   exact HNO.out _ (HBW.out _ _ H9.out)
  | true =>
   obtain ⟨hn,hp,hnc,hpd,l1,hN1⟩:=HR1.out rfl
   obtain ⟨hm,hq,hmc,hqd,l2,hN2⟩:=HR2.out rfl
   obtain rfl:la=n:=hn.symm
   obtain rfl:la=p:=hp.symm
   obtain rfl:lb=m:=hm.symm
   obtain rfl:lb=q:=hq.symm
   have hv1:validT T=true∧validN a=true:=by have h1:=HO1.out;rw [eq_comm,Bool.and_eq_true] at h1;exact h1
   have hv2:validN b=true:=by have h1:=HO2.out;rw [eq_comm,Bool.and_eq_true] at h1;exact h1.2
   have HOM:=hide (show okM T a b=true from by unfold okM;rw [hv1.1,hv1.2,hv2];rfl)
   have hb78:Below w7.heap.size w7 w8:=by rw [HW7.out];exact HB8.out.1
   have HVT:=hide hv1.1
   have HNA:=hide (validN_iff.1 hv1.2)
   have HNB:=hide (validN_iff.1 hv2)
   have hla6:la≤6:=by rw [HLA.out];exact HNA.out.2.2
   have hlb6:lb≤6:=by rw [HLB.out];exact HNB.out.2.2
   have HN:=hide (fun W (hb:Below w8.heap.size w8 W)=>(show NmsR W T a l1 xA xB∧NmsR W T b l2 yA yB from by
    have h7:Below w7.heap.size w7 W:=hb78.trans (hb.mono hb78.size)
    exact ⟨hN1.below (HB7.out.trans (h7.mono HB7.out.size)),hN2.below h7⟩))
   have HXA:=hide (fun i (hi:i < la)=>nms_at (HN.out w8 (Below.refl _ _)).1 (i:=i) (by rw [←HLA.out];exact hi))
   have HYA:=hide (fun i (hi:i < lb)=>nms_at (HN.out w8 (Below.refl _ _)).2 (i:=i) (by rw [←HLB.out];exact hi))
   have hb8:Below w.heap.size w w8:=HBW.out _ _ H8.out
   have KC:=hide (fun W (hb:Below w8.heap.size w8 W) (i j:Nat) (hi:i < la) (hj:j < lb) (u v:WW) hu hv=>KC0.out hv1.1 hv1.2 hv2 W (hb8.trans (hb.mono hb8.size)) i j (by rw [←HLA.out];exact hi) (by rw [←HLB.out];exact hj) u v hu hv)
   clear KC0
   obtain ⟨t0,t1,t2,t3,t4,t5⟩:=run_cb H8.out.drop.drop.drop.drop.drop
   obtain ⟨x0,x1,-⟩:=run_c2 H8.out.drop
   obtain ⟨y0,y1,-⟩:=run_c2 H8.out
   have HCL:=hide (fun W (hb:Below w8.heap.size w8 W)=>(show (W.cell? ⟨w.heap.size,0,none⟩=some (.slice aA n1 ac)∧W.cell? ⟨w.heap.size,1,none⟩=some (.slice aD n2 ad)∧W.cell? ⟨w.heap.size,2,none⟩=some (.slice aE n3 ae)∧W.cell? ⟨w.heap.size,3,none⟩=some (.int .i64 T.drop)∧W.cell? ⟨w.heap.size,4,none⟩=some (.int .i64 T.ord)∧W.cell? ⟨w.heap.size,5,none⟩=some (.int .i64 T.ini))∧(W.cell? ⟨g8,0,none⟩=some (.slice xA la xc)∧W.cell? ⟨g8,1,none⟩=some (.slice xB la xd))∧W.cell? ⟨g10,0,none⟩=some (.slice yA lb yc)∧W.cell? ⟨g10,1,none⟩=some (.slice yB lb yd) from ⟨⟨below_cell t0 hb,below_cell t1 hb,below_cell t2 hb,below_cell t3 hb,below_cell t4 hb,below_cell t5 hb⟩,⟨below_cell x0 hb,below_cell x1 hb⟩,below_cell y0 hb,below_cell y1 hb⟩))
   clear t0 t1 t2 t3 t4 t5 x0 x1 y0 y1 hN1 hN2 hv1 hv2 hb78 hn hp hm hq HR1 HR2 HO1 HO2
   have hmk:∀ w:World,(Instr.makeMap 74 none).run Tryz.prog w=.ok (.map (some w.heap.size)) (w.alloc (.map #[] 0)):=fun w=>by kernel_rfl
   have h10:=run_new ((Run.begin w8).fresh emp_ok (map_new (kv:=pairV .i64) w8)) (star_ok map_ok emp_ok) #[.map (some w8.heap.size)] 74
   simp only [World.size_alloc] at h10
   have H10:=hide h10
   clear h10
   go_upto_region 6 with (fail)
   generalize (w8.alloc (.map #[] 0)).alloc (.cells #[.map (some w8.heap.size)] 74)=w10 at *
   obtain ⟨⟨t0,t1,t2,t3,t4,t5⟩,⟨x0,x1⟩,y0,y1⟩:=HCL.out w10 H10.out.bel
   clear hmk
   go_wp2_with (refine Asn.wpList_rows rfl (.tmp 48) rfl la (by omega) (by simp [Act.eval]) ?_;refine held ?_)
   refine Held.mk fun w11 hP=>?_
   rw [←Asn.fv_const la (.slice none 0 0)] at hP
   have h11:=H10.out.fresh (star_ok cell_ok (star_ok map_ok emp_ok)) hP
   generalize w10.heap.size=go at *
   have H12:=hide (bi_new (T:=T) (a:=a) (b:=b) (m:=lb) (h11.perm (by ac_rfl:_=star (RowO 40 1 (.slice (some ⟨go,0,none⟩) la la) la (List.replicate la (.slice none 0 0))) (star (MapO (pairV .i64) w8.heap.size []) (star (CellO (w8.heap.size+1) #[.map (some w8.heap.size)] 74) emp)))))
   clear h11 hP H10 t0 t1 t2 t3 t4 t5 x0 x1 y0 y1
   obtain ⟨⟨t0,t1,t2,t3,t4,t5⟩,⟨x0,x1⟩,y0,y1⟩:=HCL.out w11 H12.out.bel
   go_wp2_with fail
   clear t0 t1 t2 t3 t4 t5 x0 x1 y0 y1
   go_loopw [53] (fun kk wr=>∃ i:Nat,kk=.int .i64 i∧i≤la∧Run (fun _=>False) w8 (star (BI T a b lb la w8.heap.size go i 0) (star (CellO (w8.heap.size+1) #[.map (some w8.heap.size)] 74) emp)) wr) (fun kk _=>la - (intOf kk).toNat)
   case atStart=>exact ⟨0,rfl,Nat.zero_le _,H12.out⟩
   case round =>
    obtain ⟨i,rfl,hi,hR⟩:=hrel
    have HR:=hide hR
    clear H12 hR
    obtain ⟨⟨t0,t1,t2,t3,t4,t5⟩,⟨x0,x1⟩,y0,y1⟩:=HCL.out wr HR.out.bel
    by_cases hlt:i < la
    ·obtain ⟨u,xb,xo,hxA,hxw⟩:=HXA.out i hlt
     have KI:=hide (fun W hb j hj v hu hv=>KC.out W hb i j hlt hj u v hu hv)
     obtain ⟨uw,huw⟩:∃ uw,uw=wrdN T a.k (wd a i):=⟨_,rfl⟩
     rw [←huw] at hxw KI
     have HXW:=hide hxw
     obtain ⟨-,c0,c1,c2⟩:=hxw wr HR.out.bel
     have okI:=hide (star_ok bi_ok (star_ok cell_ok emp_ok):(star (BI T a b lb la w8.heap.size go i 0) (star (CellO (w8.heap.size+1) #[.map (some w8.heap.size)] 74) emp)).Ok)
     have H14:=hide (run_new HR.out okI.out #[.int .i64 uw.k,.slice u.V uw.vs.length u.vc,.slice u.L uw.ls.length u.lc] 77)
     clear hxw huw
     subst hxA
     unfold wrdV wrdC at KI
     go_upto_region 10 with (fail)
     generalize wr.alloc (.cells #[.int .i64 uw.k,.slice u.V uw.vs.length u.vc,.slice u.L uw.ls.length u.lc] 77)=w14 at *
     generalize wr.heap.size=g15 at *
     clear c0 c1 c2 t0 t1 t2 t3 t4 t5 x0 x1 y0 y1 HR okI
     obtain ⟨⟨t0,t1,t2,t3,t4,t5⟩,⟨x0,x1⟩,y0,y1⟩:=HCL.out w14 H14.out.bel
     have H15:=hide (H14.out.perm (by ac_rfl:_=star (BI T a b lb la w8.heap.size go i 0) (star (CellO g15 #[.int .i64 uw.k,.slice u.V uw.vs.length u.vc,.slice u.L uw.ls.length u.lc] 77) (star (CellO (w8.heap.size+1) #[.map (some w8.heap.size)] 74) emp))))
     clear H14
     go_wp2_with fail
     clear t0 t1 t2 t3 t4 t5 x0 x1 y0 y1
     go_loopw [61] (fun kk wr=>∃ j:Nat,kk=.int .i64 j∧j≤lb∧Run (fun _=>False) w8 (star (BI T a b lb la w8.heap.size go i j) (star (CellO g15 #[.int .i64 uw.k,.slice u.V uw.vs.length u.vc,.slice u.L uw.ls.length u.lc] 77) (star (CellO (w8.heap.size+1) #[.map (some w8.heap.size)] 74) emp))) wr) (fun kk _=>lb - (intOf kk).toNat)
     case atStart=>exact ⟨0,rfl,Nat.zero_le _,H15.out⟩
     case round =>
      obtain ⟨j,rfl,hj,hR⟩:=hrel
      have HR:=hide hR
      clear H15 hR
      obtain ⟨⟨t0,t1,t2,t3,t4,t5⟩,⟨x0,x1⟩,y0,y1⟩:=HCL.out _ HR.out.bel
      by_cases hlt2:j < lb
      ·obtain ⟨v,yb,yo,hyA,hyw⟩:=HYA.out j hlt2
       obtain ⟨vw,hvw⟩:∃ vw,vw=wrdN T b.k (wd b j):=⟨_,rfl⟩
       have KJ:=hide (fun W hb hu hv=>KI.out W hb j hlt2 v hu hv)
       rw [←hvw] at hyw KJ
       obtain ⟨-,d0,d1,d2⟩:=hyw _ HR.out.bel
       have HYW:=hide (fun W hb=>(hyw W hb).1)
       have okJ:=hide (star_ok bi_ok (star_ok cell_ok (star_ok cell_ok emp_ok)):(star (BI T a b lb la w8.heap.size go i j) (star (CellO g15 #[.int .i64 uw.k,.slice u.V uw.vs.length u.vc,.slice u.L uw.ls.length u.lc] 77) (star (CellO (w8.heap.size+1) #[.map (some w8.heap.size)] 74) emp))).Ok)
       have H16:=hide (run_new HR.out okJ.out #[.int .i64 vw.k,.slice v.V vw.vs.length v.vc,.slice v.L vw.ls.length v.lc] 77)
       clear hyw hvw
       subst hyA
       go_upto_region 13 with (fail)
       generalize wr.alloc (.cells #[.int .i64 vw.k,.slice v.V vw.vs.length v.vc,.slice v.L vw.ls.length v.lc] 77)=w16 at *
       generalize wr.heap.size=g17 at *
       clear d0 d1 d2 t0 t1 t2 t3 t4 t5 x0 x1 y0 y1 HR
       obtain ⟨⟨t0,t1,t2,t3,t4,t5⟩,⟨x0,x1⟩,y0,y1⟩:=HCL.out w16 H16.out.bel
       obtain ⟨u0,u1,u2⟩:=run_c3 H16.out.drop.drop
       obtain ⟨v0,v1,v2⟩:=run_c3 H16.out
       have KC2:=hide (KJ.out w16 H16.out.bel (HXW.out w16 H16.out.bel).1 (HYW.out w16 H16.out.bel))
       clear KJ
       go_wp2_with fail
       refine KC2.out.mono ?_
       rintro e9 w17 ⟨A,pc,B,qc,rfl,hp⟩
       have okK:=hide (star_ok cell_ok okJ.out:(star (CellO g17 #[.int .i64 vw.k,.slice v.V vw.vs.length v.vc,.slice v.L vw.ls.length v.lc] 77) (star (BI T a b lb la w8.heap.size go i j) (star (CellO g15 #[.int .i64 uw.k,.slice u.V uw.vs.length u.vc,.slice u.L uw.ls.length u.lc] 77) (star (CellO (w8.heap.size+1) #[.map (some w8.heap.size)] 74) emp)))).Ok)
       have H17:=hide (H16.out.fresh okK.out hp)
       clear KC2 H16 hp t0 t1 t2 t3 t4 t5 x0 x1 y0 y1 u0 u1 u2 v0 v1 v2
       have okL:=hide (fun D=>(star_ok dl_ok okK.out:(star (DlO A pc B qc D) (star (CellO g17 #[.int .i64 vw.k,.slice v.V vw.vs.length v.vc,.slice v.L vw.ls.length v.lc] 77) (star (BI T a b lb la w8.heap.size go i j) (star (CellO g15 #[.int .i64 uw.k,.slice u.V uw.vs.length u.vc,.slice u.L uw.ls.length u.lc] 77) (star (CellO (w8.heap.size+1) #[.map (some w8.heap.size)] 74) emp))))).Ok))
       unfold prC
       cases ho:cheapN T a.k (wd a i) b.k (wd b j) with
       | none =>
        have HP:=hide (show prM T a b i j=⟨i,j,0,0,0,100000,noD⟩ from by unfold prM;rw [ho])
        rw [ho] at H17
        dsimp only [Option.getD_none,Option.isSome_none,noP,noD,List.length_nil] at H17 ⊢
        clear ho
        have H18:=hide (run_new H17.out (okL.out _) #[.int .i64 0,.int .i64 0,.int .i64 0,.int .i64 0,.int .i64 0,.int .i64 0,.int .i64 0,.slice A 0 pc,.slice B 0 qc,.string (bs [])] 44)
        clear H17
        go_upto_region 14 with (fail)
        generalize w17.alloc (.cells #[.int .i64 0,.int .i64 0,.int .i64 0,.int .i64 0,.int .i64 0,.int .i64 0,.int .i64 0,.slice A 0 pc,.slice B 0 qc,.string (bs [])] 44)=w18 at *
        generalize w17.heap.size=g18 at *
        obtain ⟨⟨p0,p1,p2,p3,p4⟩,⟨p5,p6,p7,p8,p9⟩,pf⟩:=run_c10 H18.out
        have hs0:Run (fun _=>False) w8 (star (CellO g18 #[.int .i64 0,.int .i64 0,.int .i64 0,.int .i64 0,.int .i64 0,.int .i64 100000,.int .i64 0,.slice A 0 pc,.slice B 0 qc,.string (bs [])] 44) _) _:=run_setc H18.out (okL.out _) 5 (.int .i64 100000)
        have hs1:Run (fun _=>False) w8 (star (CellO g18 #[.int .i64 (i:Int),.int .i64 0,.int .i64 0,.int .i64 0,.int .i64 0,.int .i64 100000,.int .i64 0,.slice A 0 pc,.slice B 0 qc,.string (bs [])] 44) _) _:=run_setc hs0 (okL.out _) 0 (.int .i64 (i:Int))
        have hs2:Run (fun _=>False) w8 (star (CellO g18 #[.int .i64 (i:Int),.int .i64 (j:Int),.int .i64 0,.int .i64 0,.int .i64 0,.int .i64 100000,.int .i64 0,.slice A 0 pc,.slice B 0 qc,.string (bs [])] 44) _) _:=run_setc hs1 (okL.out _) 1 (.int .i64 (j:Int))
        have H19:=hide (hs2)
        clear hs0 hs1 hs2
        clear H18
        go_upto_region 17 with (fail)
        generalize ((w18.setCell ⟨g18,5,none⟩ (.int .i64 100000)).setCell ⟨g18,0,none⟩ (.int .i64 (i:Int))).setCell ⟨g18,1,none⟩ (.int .i64 (j:Int))=w19 at *
        clear p0 p1 p2 p3 p4 p5 p6 p7 p8 p9 pf
        obtain ⟨E,zs,hE,hzs,h20⟩:=bi_el (H19.out.perm (by ac_rfl:_=star (BI T a b lb la w8.heap.size go i j) (star (CellO g18 #[.int .i64 (i:Int),.int .i64 (j:Int),.int .i64 0,.int .i64 0,.int .i64 0,.int .i64 100000,.int .i64 0,.slice A 0 pc,.slice B 0 qc,.string (bs [])] 44) (star (DlO A pc B qc noD) (star (CellO g17 #[.int .i64 vw.k,.slice v.V vw.vs.length v.vc,.slice v.L vw.ls.length v.lc] 77) (star (CellO g15 #[.int .i64 uw.k,.slice u.V uw.vs.length u.vc,.slice u.L uw.ls.length u.lc] 77) (star (CellO (w8.heap.size+1) #[.map (some w8.heap.size)] 74) emp)))))))
        have h21:=h20.perm (by ac_rfl:_=star (MapO (pairV .i64) w8.heap.size (E.map pkey)) (star (CellO (w8.heap.size+1) #[.map (some w8.heap.size)] 74) (star (CellO g18 #[.int .i64 (i:Int),.int .i64 (j:Int),.int .i64 0,.int .i64 0,.int .i64 0,.int .i64 100000,.int .i64 0,.slice A 0 pc,.slice B 0 qc,.string (bs [])] 44) (star (MatO (some ⟨go,0,none⟩) la zs) (star (bigStar (E.map dlO)) (star (DlO A pc B qc noD) (star (CellO g17 #[.int .i64 vw.k,.slice v.V vw.vs.length v.vc,.slice v.L vw.ls.length v.lc] 77) (star (CellO g15 #[.int .i64 uw.k,.slice u.V uw.vs.length u.vc,.slice u.L uw.ls.length u.lc] 77) emp))))))))
        have okM:=hide (star_ok cell_ok (star_ok cell_ok (star_ok mato_ok (star_ok bdl_ok (star_ok dl_ok (star_ok cell_ok (star_ok cell_ok emp_ok)))))):(star (CellO (w8.heap.size+1) #[.map (some w8.heap.size)] 74) (star (CellO g18 #[.int .i64 (i:Int),.int .i64 (j:Int),.int .i64 0,.int .i64 0,.int .i64 0,.int .i64 100000,.int .i64 0,.slice A 0 pc,.slice B 0 qc,.string (bs [])] 44) (star (MatO (some ⟨go,0,none⟩) la zs) (star (bigStar (E.map dlO)) (star (DlO A pc B qc noD) (star (CellO g17 #[.int .i64 vw.k,.slice v.V vw.vs.length v.vc,.slice v.L vw.ls.length v.lc] 77) (star (CellO g15 #[.int .i64 uw.k,.slice u.V uw.vs.length u.vc,.slice u.L uw.ls.length u.lc] 77) emp))))))).Ok)
        obtain ⟨p0,p1,p2,p3,p4⟩:=(run_c10 h21.drop.drop).1
        obtain ⟨p5,p6,p7,p8,p9⟩:=(run_c10 h21.drop.drop).2.1
        obtain ⟨FG,hFG⟩:=h21.drop.fst
        have m0:=cell_at (i:=0) hFG rfl
        obtain ⟨FM,hFM,-,back⟩:=h21.take map_ok okM.out
        obtain ⟨w20,hup,hpost⟩:=mapO_put keyOkP Tryz.underlying74 hFM ((i:Int),(j:Int)) (.agg #[.int .i64 (i:Int),.int .i64 (j:Int),.int .i64 0,.int .i64 0,.int .i64 0,.int .i64 100000,.int .i64 0,.slice A 0 pc,.slice B 0 qc,.string (bs [])])
        have h22:=back _ _ hpost
        dsimp only [pairV] at hup
        have hzl:zs.length=la:=by have:=congrArg List.length hzs;rw [List.length_map,clM_len] at this;exact this
        have hiz:i < zs.length:=by omega
        have HZE:=hide (show zs[i].l=(List.range j).map (fun s=>cM T a b i s) from by
         have h1:(zs.map (·.l))[i]?=(clM T a b lb la i j)[i]?:=by rw [hzs]
         rw [List.getElem?_map,List.getElem?_eq_getElem hiz,List.getElem?_eq_getElem (show i < (clM T a b lb la i j).length by rw [clM_len];exact hlt)] at h1
         injection h1 with h1
         exact h1.trans (clM_at hlt _))
        have okN:=hide (star_ok map_ok (star_ok cell_ok (star_ok cell_ok (star_ok bdl_ok (star_ok dl_ok (star_ok cell_ok (star_ok cell_ok emp_ok)))))):(star (MapO (pairV .i64) w8.heap.size (mput (E.map pkey) ((i:Int),(j:Int)) (.agg #[.int .i64 (i:Int),.int .i64 (j:Int),.int .i64 0,.int .i64 0,.int .i64 0,.int .i64 100000,.int .i64 0,.slice A 0 pc,.slice B 0 qc,.string (bs [])]))) (star (CellO (w8.heap.size+1) #[.map (some w8.heap.size)] 74) (star (CellO g18 #[.int .i64 (i:Int),.int .i64 (j:Int),.int .i64 0,.int .i64 0,.int .i64 0,.int .i64 100000,.int .i64 0,.slice A 0 pc,.slice B 0 qc,.string (bs [])] 44) (star (bigStar (E.map dlO)) (star (DlO A pc B qc noD) (star (CellO g17 #[.int .i64 vw.k,.slice v.V vw.vs.length v.vc,.slice v.L vw.ls.length v.lc] 77) (star (CellO g15 #[.int .i64 uw.k,.slice u.V uw.vs.length u.vc,.slice u.L uw.ls.length u.lc] 77) emp))))))).Ok)
        obtain ⟨h23,cz,fz⟩:=mato_out hiz (h22.perm (by ac_rfl:_=star (MatO (some ⟨go,0,none⟩) la zs) (star (MapO (pairV .i64) w8.heap.size (mput (E.map pkey) ((i:Int),(j:Int)) (.agg #[.int .i64 (i:Int),.int .i64 (j:Int),.int .i64 0,.int .i64 0,.int .i64 0,.int .i64 100000,.int .i64 0,.slice A 0 pc,.slice B 0 qc,.string (bs [])]))) (star (CellO (w8.heap.size+1) #[.map (some w8.heap.size)] 74) (star (CellO g18 #[.int .i64 (i:Int),.int .i64 (j:Int),.int .i64 0,.int .i64 0,.int .i64 0,.int .i64 100000,.int .i64 0,.slice A 0 pc,.slice B 0 qc,.string (bs [])] 44) (star (bigStar (E.map dlO)) (star (DlO A pc B qc noD) (star (CellO g17 #[.int .i64 vw.k,.slice v.V vw.vs.length v.vc,.slice v.L vw.ls.length v.lc] 77) (star (CellO g15 #[.int .i64 uw.k,.slice u.V uw.vs.length u.vc,.slice u.L uw.ls.length u.lc] 77) emp)))))))))
        have q5:=(run_c10 h22.drop.drop).2.1.1
        have okB:(bigStar ((zs.eraseIdx i).map RowZ.ow)).Ok:=big_ok (fun A hA=>by obtain ⟨z,_,rfl⟩:=List.mem_map.1 hA;exact vec_ok)
        have okP:=hide (star_ok row_ok (star_ok okB okN.out):(star (RowO 40 1 (.slice (some ⟨go,0,none⟩) zs.length la) zs.length (zs.flatMap RowZ.cl)) (star (bigStar ((zs.eraseIdx i).map RowZ.ow)) _)).Ok)
        have H23:=hide (h23.drew (star_ok vec_ok okP.out))
        have HLZ:=hide (show zs[i].l.length=j from by rw [HZE.out];simp)
        rw [HLZ.out] at cz
        have HST:=hide (fun (cv:Int) (A9:Option Addr) (c9:Nat) W (hcv:(⟨i,j,0,0,0,100000,noD⟩:Pr).c=cv) (h:Run (fun _=>False) w8 (star (VecO A9 c9 (zs[i].l ++ [cv])) (star (RowO 40 1 (.slice (some ⟨go,0,none⟩) zs.length la) zs.length (zs.flatMap RowZ.cl)) (star (bigStar ((zs.eraseIdx i).map RowZ.ow)) (star (MapO (pairV .i64) w8.heap.size (mput (E.map pkey) ((i:Int),(j:Int)) (.agg #[.int .i64 (i:Int),.int .i64 (j:Int),.int .i64 0,.int .i64 0,.int .i64 0,.int .i64 100000,.int .i64 0,.slice A 0 pc,.slice B 0 qc,.string (bs [])]))) (star (CellO (w8.heap.size+1) #[.map (some w8.heap.size)] 74) (star (CellO g18 #[.int .i64 (i:Int),.int .i64 (j:Int),.int .i64 0,.int .i64 0,.int .i64 0,.int .i64 100000,.int .i64 0,.slice A 0 pc,.slice B 0 qc,.string (bs [])] 44) (star (bigStar (E.map dlO)) (star (DlO A pc B qc noD) (star (CellO g17 #[.int .i64 vw.k,.slice v.V vw.vs.length v.vc,.slice v.L vw.ls.length v.lc] 77) (star (CellO g15 #[.int .i64 uw.k,.slice u.V uw.vs.length u.vc,.slice u.L uw.ls.length u.lc] 77) emp)))))))))) W)=>(show Run (fun _=>False) w8 (star (BI T a b lb la w8.heap.size go i (j+1)) (star (CellO g15 #[.int .i64 uw.k,.slice u.V uw.vs.length u.vc,.slice u.L uw.ls.length u.lc] 77) (star (CellO (w8.heap.size+1) #[.map (some w8.heap.size)] 74) emp))) (W.setCell ⟨go,i,none⟩ (.slice A9 (j+1) c9)) from by
         have k1:=mato_in hiz (n:=j+1) (by rw [List.length_append,HLZ.out];rfl) okN.out h
         have k2:=bi_step (p:=⟨i,j,0,0,0,100000,noD⟩) (Y:=star (CellO (w8.heap.size+1) #[.map (some w8.heap.size)] 74) (star (CellO g18 #[.int .i64 (i:Int),.int .i64 (j:Int),.int .i64 0,.int .i64 0,.int .i64 0,.int .i64 100000,.int .i64 0,.slice A 0 pc,.slice B 0 qc,.string (bs [])] 44) (star (CellO g17 #[.int .i64 vw.k,.slice v.V vw.vs.length v.vc,.slice v.L vw.ls.length v.lc] 77) (star (CellO g15 #[.int .i64 uw.k,.slice u.V uw.vs.length u.vc,.slice u.L uw.ls.length u.lc] 77) emp)))) HP.out hcv hE hzs hlt HZE.out (A:=A) (pc:=pc) (B:=B) (qc:=qc) (A9:=A9) (c9:=c9) (k1.perm (by show _=star _ (star (MapO (pairV .i64) w8.heap.size (mput (E.map pkey) ((i:Int),(j:Int)) (.agg #[.int .i64 (i:Int),.int .i64 (j:Int),.int .i64 0,.int .i64 0,.int .i64 0,.int .i64 100000,.int .i64 0,.slice A 0 pc,.slice B 0 qc,.string (bs [])]))) (star _ (star (DlO A pc B qc noD) _)));ac_rfl))
         exact (k2.perm (by ac_rfl:_=star (star (CellO g18 #[.int .i64 (i:Int),.int .i64 (j:Int),.int .i64 0,.int .i64 0,.int .i64 0,.int .i64 100000,.int .i64 0,.slice A 0 pc,.slice B 0 qc,.string (bs [])] 44) (CellO g17 #[.int .i64 vw.k,.slice v.V vw.vs.length v.vc,.slice v.L vw.ls.length v.lc] 77)) (star (BI T a b lb la w8.heap.size go i (j+1)) (star (CellO g15 #[.int .i64 uw.k,.slice u.V uw.vs.length u.vc,.slice u.L uw.ls.length u.lc] 77) (star (CellO (w8.heap.size+1) #[.map (some w8.heap.size)] 74) emp))))).drop))
        have HZR:=hide (fun (cv:Int) (A9:Option Addr) (c9:Nat) W (h:Run (fun _=>False) w8 (star (VecO A9 c9 (zs[i].l ++ [cv])) (star (RowO 40 1 (.slice (some ⟨go,0,none⟩) zs.length la) zs.length (zs.flatMap RowZ.cl)) (star (bigStar ((zs.eraseIdx i).map RowZ.ow)) (star (MapO (pairV .i64) w8.heap.size (mput (E.map pkey) ((i:Int),(j:Int)) (.agg #[.int .i64 (i:Int),.int .i64 (j:Int),.int .i64 0,.int .i64 0,.int .i64 0,.int .i64 100000,.int .i64 0,.slice A 0 pc,.slice B 0 qc,.string (bs [])]))) (star (CellO (w8.heap.size+1) #[.map (some w8.heap.size)] 74) (star (CellO g18 #[.int .i64 (i:Int),.int .i64 (j:Int),.int .i64 0,.int .i64 0,.int .i64 0,.int .i64 100000,.int .i64 0,.slice A 0 pc,.slice B 0 qc,.string (bs [])] 44) (star (bigStar (E.map dlO)) (star (DlO A pc B qc noD) (star (CellO g17 #[.int .i64 vw.k,.slice v.V vw.vs.length v.vc,.slice v.L vw.ls.length v.lc] 77) (star (CellO g15 #[.int .i64 uw.k,.slice u.V uw.vs.length u.vc,.slice u.L uw.ls.length u.lc] 77) emp)))))))))) W)=>mato_rd hiz h)
        generalize zs[i].A=zA at *
        generalize zs[i].c=zc at *
        generalize zs[i].l=zl at *
        clear hE hzs hFG hFM hpost back h20 h21 h22 h23 H19 hzl hiz fz okB FG FM HZE
        go_upto_region 18 with (fail)
        clear hup m0 p0 p1 p2 p3 p4 p5 p6 p7 p8 p9
        refine wp_region_lew [8,9,11] [2,2,1,1,1,1,0,0,1,2,2,3] (fun w'=>w'.cell? ⟨go,i,none⟩=some (.slice zA j zc)∧w'.cell? ⟨g18,5,none⟩=some (.int .i64 100000)) (fun w'=>w'.cell? ⟨go,i,none⟩=some (.slice zA j zc)) (fun _=>True) (fun _=>True) (fun _ h=>h.1) (fun _ _=>trivial) (fun _ h=>h) (by kernel_rfl) (by kernel_rfl) (by kernel_rfl) (by kernel_rfl) (by exact ⟨cz,q5⟩) ?_
        (repeat ((first | refine lew_skip (by rfl) (by rfl) ?_ | ((first | refine lew_read0 (v:=?_) (by rfl) (by rfl) ?_ ?_ | refine lew_read1 (v:=?_) (by rfl) (by rfl) ?_ ?_ | refine lew_read2 (v:=?_) (by rfl) (by rfl) ?_ ?_ | refine lew_read3 (v:=?_) (by rfl) (by rfl) ?_ ?_ | refine lew_read4 (v:=?_) (by rfl) (by rfl) ?_ ?_);rotate_left;(focus (intro w' hS';go_simp;(try with_reducible rfl);done))));try simp only [Act.put,List.setIfInBounds_toArray,List.set_cons_zero,List.set_cons_succ]))
        refine lew_chain1 rfl (by rfl) (fun K hK=>?_)
        go_wp2_with fail
        have cz2:(w20.drew.alloc (.cells #[.int .i64 100000] 3)).cell? ⟨go,i,none⟩=some (.slice zA j zc):=below_cell (w:=w20.drew) cz ((Below.refl _ _).alloc (Nat.le_refl _) _)
        refine hK.out _ _ cz2 ?_
        clear hK cz2
        (repeat ((first | refine lew_skip (by rfl) (by rfl) ?_ | ((first | refine lew_read0 (v:=?_) (by rfl) (by rfl) ?_ ?_ | refine lew_read1 (v:=?_) (by rfl) (by rfl) ?_ ?_ | refine lew_read2 (v:=?_) (by rfl) (by rfl) ?_ ?_ | refine lew_read3 (v:=?_) (by rfl) (by rfl) ?_ ?_ | refine lew_read4 (v:=?_) (by rfl) (by rfl) ?_ ?_);rotate_left;(focus (intro w' hS';go_simp;(try with_reducible rfl);done))));try simp only [Act.put,List.setIfInBounds_toArray,List.set_cons_zero,List.set_cons_succ]))
        refine lew_chain2 rfl (by rfl) (fun K hK=>?_)
        refine app_vec1 (.tmp 90) (.tmp 93) rfl (l:=zl) (i:=100000) HLZ.out rfl rfl (by omega) okP.out H23.out ?_
        intro A9 c9 w22 hr
        have HE:=hide (HST.out _ A9 c9 w22 rfl hr)
        obtain ⟨e0,e1⟩:=HZR.out _ A9 c9 w22 hr
        rw [HLZ.out] at e0
        refine hK.out _ _ trivial ?_
        clear hK hr HST HZR H23 cz q5
        (repeat ((first | refine lew_skip (by rfl) (by rfl) ?_ | ((first | refine lew_read0 (v:=?_) (by rfl) (by rfl) ?_ ?_ | refine lew_read1 (v:=?_) (by rfl) (by rfl) ?_ ?_ | refine lew_read2 (v:=?_) (by rfl) (by rfl) ?_ ?_ | refine lew_read3 (v:=?_) (by rfl) (by rfl) ?_ ?_ | refine lew_read4 (v:=?_) (by rfl) (by rfl) ?_ ?_);rotate_left;(focus (intro w' hS';go_simp;(try with_reducible rfl);done))));try simp only [Act.put,List.setIfInBounds_toArray,List.set_cons_zero,List.set_cons_succ]))
        refine lew_chain3 rfl (by rfl) (fun K hK=>?_)
        go_wp2_with fail
        refine hK.out _ _ trivial (lew_nil ?_)
        clear hK e0 e1
        go_wp2_with fail
        go_roundw
        case rel=>exact ⟨j+1,by go_num,hlt2,HE.out⟩
        case measure=>simp [intOf];omega
       | some p =>
        have HP:=hide (show prM T a b i j=⟨i,j,p.kd,p.l,p.r,p.c,p.d⟩ from by unfold prM;rw [ho])
        rw [ho] at H17
        dsimp only [Option.getD_some,Option.isSome_some] at H17 ⊢
        clear ho
        have H18:=hide (run_new H17.out (okL.out _) #[.int .i64 p.i,.int .i64 p.j,.int .i64 p.kd,.int .i64 p.l,.int .i64 p.r,.int .i64 p.c,.int .i64 p.d.c,.slice A p.d.L.length pc,.slice B p.d.M.length qc,.string (bs p.d.F)] 44)
        clear H17
        go_upto_region 14 with (fail)
        generalize w17.alloc (.cells #[.int .i64 p.i,.int .i64 p.j,.int .i64 p.kd,.int .i64 p.l,.int .i64 p.r,.int .i64 p.c,.int .i64 p.d.c,.slice A p.d.L.length pc,.slice B p.d.M.length qc,.string (bs p.d.F)] 44)=w18 at *
        generalize w17.heap.size=g18 at *
        obtain ⟨⟨p0,p1,p2,p3,p4⟩,⟨p5,p6,p7,p8,p9⟩,pf⟩:=run_c10 H18.out
        have hs0:Run (fun _=>False) w8 (star (CellO g18 #[.int .i64 (i:Int),.int .i64 p.j,.int .i64 p.kd,.int .i64 p.l,.int .i64 p.r,.int .i64 p.c,.int .i64 p.d.c,.slice A p.d.L.length pc,.slice B p.d.M.length qc,.string (bs p.d.F)] 44) _) _:=run_setc H18.out (okL.out _) 0 (.int .i64 (i:Int))
        have hs1:Run (fun _=>False) w8 (star (CellO g18 #[.int .i64 (i:Int),.int .i64 (j:Int),.int .i64 p.kd,.int .i64 p.l,.int .i64 p.r,.int .i64 p.c,.int .i64 p.d.c,.slice A p.d.L.length pc,.slice B p.d.M.length qc,.string (bs p.d.F)] 44) _) _:=run_setc hs0 (okL.out _) 1 (.int .i64 (j:Int))
        have H19:=hide (hs1)
        clear hs0 hs1
        clear H18
        go_upto_region 17 with (fail)
        generalize (w18.setCell ⟨g18,0,none⟩ (.int .i64 (i:Int))).setCell ⟨g18,1,none⟩ (.int .i64 (j:Int))=w19 at *
        clear p0 p1 p2 p3 p4 p5 p6 p7 p8 p9 pf
        obtain ⟨E,zs,hE,hzs,h20⟩:=bi_el (H19.out.perm (by ac_rfl:_=star (BI T a b lb la w8.heap.size go i j) (star (CellO g18 #[.int .i64 (i:Int),.int .i64 (j:Int),.int .i64 p.kd,.int .i64 p.l,.int .i64 p.r,.int .i64 p.c,.int .i64 p.d.c,.slice A p.d.L.length pc,.slice B p.d.M.length qc,.string (bs p.d.F)] 44) (star (DlO A pc B qc p.d) (star (CellO g17 #[.int .i64 vw.k,.slice v.V vw.vs.length v.vc,.slice v.L vw.ls.length v.lc] 77) (star (CellO g15 #[.int .i64 uw.k,.slice u.V uw.vs.length u.vc,.slice u.L uw.ls.length u.lc] 77) (star (CellO (w8.heap.size+1) #[.map (some w8.heap.size)] 74) emp)))))))
        have h21:=h20.perm (by ac_rfl:_=star (MapO (pairV .i64) w8.heap.size (E.map pkey)) (star (CellO (w8.heap.size+1) #[.map (some w8.heap.size)] 74) (star (CellO g18 #[.int .i64 (i:Int),.int .i64 (j:Int),.int .i64 p.kd,.int .i64 p.l,.int .i64 p.r,.int .i64 p.c,.int .i64 p.d.c,.slice A p.d.L.length pc,.slice B p.d.M.length qc,.string (bs p.d.F)] 44) (star (MatO (some ⟨go,0,none⟩) la zs) (star (bigStar (E.map dlO)) (star (DlO A pc B qc p.d) (star (CellO g17 #[.int .i64 vw.k,.slice v.V vw.vs.length v.vc,.slice v.L vw.ls.length v.lc] 77) (star (CellO g15 #[.int .i64 uw.k,.slice u.V uw.vs.length u.vc,.slice u.L uw.ls.length u.lc] 77) emp))))))))
        have okM:=hide (star_ok cell_ok (star_ok cell_ok (star_ok mato_ok (star_ok bdl_ok (star_ok dl_ok (star_ok cell_ok (star_ok cell_ok emp_ok)))))):(star (CellO (w8.heap.size+1) #[.map (some w8.heap.size)] 74) (star (CellO g18 #[.int .i64 (i:Int),.int .i64 (j:Int),.int .i64 p.kd,.int .i64 p.l,.int .i64 p.r,.int .i64 p.c,.int .i64 p.d.c,.slice A p.d.L.length pc,.slice B p.d.M.length qc,.string (bs p.d.F)] 44) (star (MatO (some ⟨go,0,none⟩) la zs) (star (bigStar (E.map dlO)) (star (DlO A pc B qc p.d) (star (CellO g17 #[.int .i64 vw.k,.slice v.V vw.vs.length v.vc,.slice v.L vw.ls.length v.lc] 77) (star (CellO g15 #[.int .i64 uw.k,.slice u.V uw.vs.length u.vc,.slice u.L uw.ls.length u.lc] 77) emp))))))).Ok)
        obtain ⟨p0,p1,p2,p3,p4⟩:=(run_c10 h21.drop.drop).1
        obtain ⟨p5,p6,p7,p8,p9⟩:=(run_c10 h21.drop.drop).2.1
        obtain ⟨FG,hFG⟩:=h21.drop.fst
        have m0:=cell_at (i:=0) hFG rfl
        obtain ⟨FM,hFM,-,back⟩:=h21.take map_ok okM.out
        obtain ⟨w20,hup,hpost⟩:=mapO_put keyOkP Tryz.underlying74 hFM ((i:Int),(j:Int)) (.agg #[.int .i64 (i:Int),.int .i64 (j:Int),.int .i64 p.kd,.int .i64 p.l,.int .i64 p.r,.int .i64 p.c,.int .i64 p.d.c,.slice A p.d.L.length pc,.slice B p.d.M.length qc,.string (bs p.d.F)])
        have h22:=back _ _ hpost
        dsimp only [pairV] at hup
        have hzl:zs.length=la:=by have:=congrArg List.length hzs;rw [List.length_map,clM_len] at this;exact this
        have hiz:i < zs.length:=by omega
        have HZE:=hide (show zs[i].l=(List.range j).map (fun s=>cM T a b i s) from by
         have h1:(zs.map (·.l))[i]?=(clM T a b lb la i j)[i]?:=by rw [hzs]
         rw [List.getElem?_map,List.getElem?_eq_getElem hiz,List.getElem?_eq_getElem (show i < (clM T a b lb la i j).length by rw [clM_len];exact hlt)] at h1
         injection h1 with h1
         exact h1.trans (clM_at hlt _))
        have okN:=hide (star_ok map_ok (star_ok cell_ok (star_ok cell_ok (star_ok bdl_ok (star_ok dl_ok (star_ok cell_ok (star_ok cell_ok emp_ok)))))):(star (MapO (pairV .i64) w8.heap.size (mput (E.map pkey) ((i:Int),(j:Int)) (.agg #[.int .i64 (i:Int),.int .i64 (j:Int),.int .i64 p.kd,.int .i64 p.l,.int .i64 p.r,.int .i64 p.c,.int .i64 p.d.c,.slice A p.d.L.length pc,.slice B p.d.M.length qc,.string (bs p.d.F)]))) (star (CellO (w8.heap.size+1) #[.map (some w8.heap.size)] 74) (star (CellO g18 #[.int .i64 (i:Int),.int .i64 (j:Int),.int .i64 p.kd,.int .i64 p.l,.int .i64 p.r,.int .i64 p.c,.int .i64 p.d.c,.slice A p.d.L.length pc,.slice B p.d.M.length qc,.string (bs p.d.F)] 44) (star (bigStar (E.map dlO)) (star (DlO A pc B qc p.d) (star (CellO g17 #[.int .i64 vw.k,.slice v.V vw.vs.length v.vc,.slice v.L vw.ls.length v.lc] 77) (star (CellO g15 #[.int .i64 uw.k,.slice u.V uw.vs.length u.vc,.slice u.L uw.ls.length u.lc] 77) emp))))))).Ok)
        obtain ⟨h23,cz,fz⟩:=mato_out hiz (h22.perm (by ac_rfl:_=star (MatO (some ⟨go,0,none⟩) la zs) (star (MapO (pairV .i64) w8.heap.size (mput (E.map pkey) ((i:Int),(j:Int)) (.agg #[.int .i64 (i:Int),.int .i64 (j:Int),.int .i64 p.kd,.int .i64 p.l,.int .i64 p.r,.int .i64 p.c,.int .i64 p.d.c,.slice A p.d.L.length pc,.slice B p.d.M.length qc,.string (bs p.d.F)]))) (star (CellO (w8.heap.size+1) #[.map (some w8.heap.size)] 74) (star (CellO g18 #[.int .i64 (i:Int),.int .i64 (j:Int),.int .i64 p.kd,.int .i64 p.l,.int .i64 p.r,.int .i64 p.c,.int .i64 p.d.c,.slice A p.d.L.length pc,.slice B p.d.M.length qc,.string (bs p.d.F)] 44) (star (bigStar (E.map dlO)) (star (DlO A pc B qc p.d) (star (CellO g17 #[.int .i64 vw.k,.slice v.V vw.vs.length v.vc,.slice v.L vw.ls.length v.lc] 77) (star (CellO g15 #[.int .i64 uw.k,.slice u.V uw.vs.length u.vc,.slice u.L uw.ls.length u.lc] 77) emp)))))))))
        have q5:=(run_c10 h22.drop.drop).2.1.1
        have okB:(bigStar ((zs.eraseIdx i).map RowZ.ow)).Ok:=big_ok (fun A hA=>by obtain ⟨z,_,rfl⟩:=List.mem_map.1 hA;exact vec_ok)
        have okP:=hide (star_ok row_ok (star_ok okB okN.out):(star (RowO 40 1 (.slice (some ⟨go,0,none⟩) zs.length la) zs.length (zs.flatMap RowZ.cl)) (star (bigStar ((zs.eraseIdx i).map RowZ.ow)) _)).Ok)
        have H23:=hide (h23.drew (star_ok vec_ok okP.out))
        have HLZ:=hide (show zs[i].l.length=j from by rw [HZE.out];simp)
        rw [HLZ.out] at cz
        have HST:=hide (fun (cv:Int) (A9:Option Addr) (c9:Nat) W (hcv:(⟨i,j,p.kd,p.l,p.r,p.c,p.d⟩:Pr).c=cv) (h:Run (fun _=>False) w8 (star (VecO A9 c9 (zs[i].l ++ [cv])) (star (RowO 40 1 (.slice (some ⟨go,0,none⟩) zs.length la) zs.length (zs.flatMap RowZ.cl)) (star (bigStar ((zs.eraseIdx i).map RowZ.ow)) (star (MapO (pairV .i64) w8.heap.size (mput (E.map pkey) ((i:Int),(j:Int)) (.agg #[.int .i64 (i:Int),.int .i64 (j:Int),.int .i64 p.kd,.int .i64 p.l,.int .i64 p.r,.int .i64 p.c,.int .i64 p.d.c,.slice A p.d.L.length pc,.slice B p.d.M.length qc,.string (bs p.d.F)]))) (star (CellO (w8.heap.size+1) #[.map (some w8.heap.size)] 74) (star (CellO g18 #[.int .i64 (i:Int),.int .i64 (j:Int),.int .i64 p.kd,.int .i64 p.l,.int .i64 p.r,.int .i64 p.c,.int .i64 p.d.c,.slice A p.d.L.length pc,.slice B p.d.M.length qc,.string (bs p.d.F)] 44) (star (bigStar (E.map dlO)) (star (DlO A pc B qc p.d) (star (CellO g17 #[.int .i64 vw.k,.slice v.V vw.vs.length v.vc,.slice v.L vw.ls.length v.lc] 77) (star (CellO g15 #[.int .i64 uw.k,.slice u.V uw.vs.length u.vc,.slice u.L uw.ls.length u.lc] 77) emp)))))))))) W)=>(show Run (fun _=>False) w8 (star (BI T a b lb la w8.heap.size go i (j+1)) (star (CellO g15 #[.int .i64 uw.k,.slice u.V uw.vs.length u.vc,.slice u.L uw.ls.length u.lc] 77) (star (CellO (w8.heap.size+1) #[.map (some w8.heap.size)] 74) emp))) (W.setCell ⟨go,i,none⟩ (.slice A9 (j+1) c9)) from by
         have k1:=mato_in hiz (n:=j+1) (by rw [List.length_append,HLZ.out];rfl) okN.out h
         have k2:=bi_step (p:=⟨i,j,p.kd,p.l,p.r,p.c,p.d⟩) (Y:=star (CellO (w8.heap.size+1) #[.map (some w8.heap.size)] 74) (star (CellO g18 #[.int .i64 (i:Int),.int .i64 (j:Int),.int .i64 p.kd,.int .i64 p.l,.int .i64 p.r,.int .i64 p.c,.int .i64 p.d.c,.slice A p.d.L.length pc,.slice B p.d.M.length qc,.string (bs p.d.F)] 44) (star (CellO g17 #[.int .i64 vw.k,.slice v.V vw.vs.length v.vc,.slice v.L vw.ls.length v.lc] 77) (star (CellO g15 #[.int .i64 uw.k,.slice u.V uw.vs.length u.vc,.slice u.L uw.ls.length u.lc] 77) emp)))) HP.out hcv hE hzs hlt HZE.out (A:=A) (pc:=pc) (B:=B) (qc:=qc) (A9:=A9) (c9:=c9) (k1.perm (by show _=star _ (star (MapO (pairV .i64) w8.heap.size (mput (E.map pkey) ((i:Int),(j:Int)) (.agg #[.int .i64 (i:Int),.int .i64 (j:Int),.int .i64 p.kd,.int .i64 p.l,.int .i64 p.r,.int .i64 p.c,.int .i64 p.d.c,.slice A p.d.L.length pc,.slice B p.d.M.length qc,.string (bs p.d.F)]))) (star _ (star (DlO A pc B qc p.d) _)));ac_rfl))
         exact (k2.perm (by ac_rfl:_=star (star (CellO g18 #[.int .i64 (i:Int),.int .i64 (j:Int),.int .i64 p.kd,.int .i64 p.l,.int .i64 p.r,.int .i64 p.c,.int .i64 p.d.c,.slice A p.d.L.length pc,.slice B p.d.M.length qc,.string (bs p.d.F)] 44) (CellO g17 #[.int .i64 vw.k,.slice v.V vw.vs.length v.vc,.slice v.L vw.ls.length v.lc] 77)) (star (BI T a b lb la w8.heap.size go i (j+1)) (star (CellO g15 #[.int .i64 uw.k,.slice u.V uw.vs.length u.vc,.slice u.L uw.ls.length u.lc] 77) (star (CellO (w8.heap.size+1) #[.map (some w8.heap.size)] 74) emp))))).drop))
        have HZR:=hide (fun (cv:Int) (A9:Option Addr) (c9:Nat) W (h:Run (fun _=>False) w8 (star (VecO A9 c9 (zs[i].l ++ [cv])) (star (RowO 40 1 (.slice (some ⟨go,0,none⟩) zs.length la) zs.length (zs.flatMap RowZ.cl)) (star (bigStar ((zs.eraseIdx i).map RowZ.ow)) (star (MapO (pairV .i64) w8.heap.size (mput (E.map pkey) ((i:Int),(j:Int)) (.agg #[.int .i64 (i:Int),.int .i64 (j:Int),.int .i64 p.kd,.int .i64 p.l,.int .i64 p.r,.int .i64 p.c,.int .i64 p.d.c,.slice A p.d.L.length pc,.slice B p.d.M.length qc,.string (bs p.d.F)]))) (star (CellO (w8.heap.size+1) #[.map (some w8.heap.size)] 74) (star (CellO g18 #[.int .i64 (i:Int),.int .i64 (j:Int),.int .i64 p.kd,.int .i64 p.l,.int .i64 p.r,.int .i64 p.c,.int .i64 p.d.c,.slice A p.d.L.length pc,.slice B p.d.M.length qc,.string (bs p.d.F)] 44) (star (bigStar (E.map dlO)) (star (DlO A pc B qc p.d) (star (CellO g17 #[.int .i64 vw.k,.slice v.V vw.vs.length v.vc,.slice v.L vw.ls.length v.lc] 77) (star (CellO g15 #[.int .i64 uw.k,.slice u.V uw.vs.length u.vc,.slice u.L uw.ls.length u.lc] 77) emp)))))))))) W)=>mato_rd hiz h)
        generalize zs[i].A=zA at *
        generalize zs[i].c=zc at *
        generalize zs[i].l=zl at *
        clear hE hzs hFG hFM hpost back h20 h21 h22 h23 H19 hzl hiz fz okB FG FM HZE
        go_upto_region 18 with (fail)
        clear hup m0 p0 p1 p2 p3 p4 p5 p6 p7 p8 p9
        refine wp_region_lew [8,9,11] [2,2,1,1,1,1,0,0,1,2,2,3] (fun w'=>w'.cell? ⟨go,i,none⟩=some (.slice zA j zc)∧w'.cell? ⟨g18,5,none⟩=some (.int .i64 p.c)) (fun w'=>w'.cell? ⟨go,i,none⟩=some (.slice zA j zc)) (fun _=>True) (fun _=>True) (fun _ h=>h.1) (fun _ _=>trivial) (fun _ h=>h) (by kernel_rfl) (by kernel_rfl) (by kernel_rfl) (by kernel_rfl) (by exact ⟨cz,q5⟩) ?_
        (repeat ((first | refine lew_skip (by rfl) (by rfl) ?_ | ((first | refine lew_read0 (v:=?_) (by rfl) (by rfl) ?_ ?_ | refine lew_read1 (v:=?_) (by rfl) (by rfl) ?_ ?_ | refine lew_read2 (v:=?_) (by rfl) (by rfl) ?_ ?_ | refine lew_read3 (v:=?_) (by rfl) (by rfl) ?_ ?_ | refine lew_read4 (v:=?_) (by rfl) (by rfl) ?_ ?_);rotate_left;(focus (intro w' hS';go_simp;(try with_reducible rfl);done))));try simp only [Act.put,List.setIfInBounds_toArray,List.set_cons_zero,List.set_cons_succ]))
        refine lew_chain1 rfl (by rfl) (fun K hK=>?_)
        go_wp2_with fail
        have cz2:(w20.drew.alloc (.cells #[.int .i64 p.c] 3)).cell? ⟨go,i,none⟩=some (.slice zA j zc):=below_cell (w:=w20.drew) cz ((Below.refl _ _).alloc (Nat.le_refl _) _)
        refine hK.out _ _ cz2 ?_
        clear hK cz2
        (repeat ((first | refine lew_skip (by rfl) (by rfl) ?_ | ((first | refine lew_read0 (v:=?_) (by rfl) (by rfl) ?_ ?_ | refine lew_read1 (v:=?_) (by rfl) (by rfl) ?_ ?_ | refine lew_read2 (v:=?_) (by rfl) (by rfl) ?_ ?_ | refine lew_read3 (v:=?_) (by rfl) (by rfl) ?_ ?_ | refine lew_read4 (v:=?_) (by rfl) (by rfl) ?_ ?_);rotate_left;(focus (intro w' hS';go_simp;(try with_reducible rfl);done))));try simp only [Act.put,List.setIfInBounds_toArray,List.set_cons_zero,List.set_cons_succ]))
        refine lew_chain2 rfl (by rfl) (fun K hK=>?_)
        refine app_vec1 (.tmp 90) (.tmp 93) rfl (l:=zl) (i:=p.c) HLZ.out rfl rfl (by omega) okP.out H23.out ?_
        intro A9 c9 w22 hr
        have HE:=hide (HST.out _ A9 c9 w22 rfl hr)
        obtain ⟨e0,e1⟩:=HZR.out _ A9 c9 w22 hr
        rw [HLZ.out] at e0
        refine hK.out _ _ trivial ?_
        clear hK hr HST HZR H23 cz q5
        (repeat ((first | refine lew_skip (by rfl) (by rfl) ?_ | ((first | refine lew_read0 (v:=?_) (by rfl) (by rfl) ?_ ?_ | refine lew_read1 (v:=?_) (by rfl) (by rfl) ?_ ?_ | refine lew_read2 (v:=?_) (by rfl) (by rfl) ?_ ?_ | refine lew_read3 (v:=?_) (by rfl) (by rfl) ?_ ?_ | refine lew_read4 (v:=?_) (by rfl) (by rfl) ?_ ?_);rotate_left;(focus (intro w' hS';go_simp;(try with_reducible rfl);done))));try simp only [Act.put,List.setIfInBounds_toArray,List.set_cons_zero,List.set_cons_succ]))
        refine lew_chain3 rfl (by rfl) (fun K hK=>?_)
        go_wp2_with fail
        refine hK.out _ _ trivial (lew_nil ?_)
        clear hK e0 e1
        go_wp2_with fail
        go_roundw
        case rel=>exact ⟨j+1,by go_num,hlt2,HE.out⟩
        case measure=>simp [intOf];omega
      ·obtain rfl:j=lb:=by omega
       have HRF:=hide (bi_row HR.out)
       clear HR
       go_wp2_with fail
       go_roundw
       case rel=>exact ⟨i+1,by go_num,hlt,((HRF.out.perm (by ac_rfl:_=star (CellO g15 #[.int .i64 uw.k,.slice u.V uw.vs.length u.vc,.slice u.L uw.ls.length u.lc] 77) (star (BI T a b j la w8.heap.size go (i+1) 0) (star (CellO (w8.heap.size+1) #[.map (some w8.heap.size)] 74) emp)))).drop)⟩
       case measure=>simp [intOf];omega
    ·obtain rfl:la=i:=by omega
     obtain ⟨E,zs,hE,hzs,h30⟩:=bi_el HR.out
     have h31:=h30.perm (by ac_rfl:_=(star (MatO (some ⟨go,0,none⟩) la zs) (star (MapO (pairV .i64) w8.heap.size (E.map pkey)) (star (bigStar (E.map dlO)) (star (CellO (w8.heap.size+1) #[.map (some w8.heap.size)] 74) emp)))))
     obtain ⟨FZ,hFZ⟩:=h31.fst
     have hM:=mato_mat hFZ
     rw [hzs] at hM
     have hN1:=HN.out _ HR.out.bel
     have KO:=hide (ordM (c:=la) (d:=xd) (e:=yd) HLA.out HLB.out HOM.out hM hN1.1.dr hN1.2.dr)
     have KM:=hide (fun W (hb:Below wr.heap.size wr W)=>anyM (c:=la) (d:=xd) (e:=yd) HLA.out HLB.out HOM.out (hM.below hb) (hN1.1.dr.below hb) (hN1.2.dr.below hb) hpd)
     have okZ:=hide (star_ok mato_ok (star_ok map_ok (star_ok bdl_ok (star_ok cell_ok emp_ok))):((star (MatO (some ⟨go,0,none⟩) la zs) (star (MapO (pairV .i64) w8.heap.size (E.map pkey)) (star (bigStar (E.map dlO)) (star (CellO (w8.heap.size+1) #[.map (some w8.heap.size)] 74) emp))))).Ok)
     have HEE:=hide (show E.map (·.1)=plM T a b b.ws.length a.ws.length 0 from by rw [hE,HLA.out,HLB.out])
     have H31:=hide h31
     clear h30 h31 hFZ FZ hM hN1 hE hzs HR
     go_wp2_with fail
     refine KO.out.mono ?_
     rintro e9 w31 ⟨A1,c1,rfl,hb,hr1⟩
     have H32:=hide (H31.out.below okZ.out hb)
     have HO:=hide hr1
     have KM2:=hide (KM.out w31 hb)
     clear KO KM H31 hb hr1 t0 t1 t2 t3 t4 t5 x0 x1 y0 y1
     obtain ⟨⟨t0,t1,t2,t3,t4,t5⟩,⟨x0,x1⟩,y0,y1⟩:=HCL.out w31 H32.out.bel
     go_wp2_with fail
     refine KM2.out.mono ?_
     rintro e9 w32 ⟨A2,c2,A3,n5,c3,A4,n6,c4,rfl,hb,hr2⟩
     have H33:=hide (H32.out.below okZ.out hb)
     have hb2:Below w32.heap.size w32 (w32.alloc (.cells #[.int .i64 (anyK T a b),.slice A2 (anyL T a b).length c2,.slice A3 n5 c3,.slice A4 n6 c4] 85)):=(Below.refl _ _).alloc (Nat.le_refl _) _
     have HO2:=hide (show IntR (w32.alloc (.cells #[.int .i64 (anyK T a b),.slice A2 (anyL T a b).length c2,.slice A3 n5 c3,.slice A4 n6 c4] 85)) A1 (ordL T a b)∧IntR (w32.alloc (.cells #[.int .i64 (anyK T a b),.slice A2 (anyL T a b).length c2,.slice A3 n5 c3,.slice A4 n6 c4] 85)) A2 (anyL T a b) from ⟨(HO.out.below hb).below hb2,hr2.below hb2⟩)
     have H34:=hide (run_new H33.out okZ.out #[.int .i64 (anyK T a b),.slice A2 (anyL T a b).length c2,.slice A3 n5 c3,.slice A4 n6 c4] 85)
     clear KM2 H32 HO hb hr2 hb2 H33 t0 t1 t2 t3 t4 t5 x0 x1 y0 y1
     go_upto_region 24 with (fail)
     generalize w32.alloc (.cells #[.int .i64 (anyK T a b),.slice A2 (anyL T a b).length c2,.slice A3 n5 c3,.slice A4 n6 c4] 85)=w34 at *
     generalize w32.heap.size=g24 at *
     have okY:=hide (star_ok cell_ok okZ.out:(star (CellO g24 #[.int .i64 (anyK T a b),.slice A2 (anyL T a b).length c2,.slice A3 n5 c3,.slice A4 n6 c4] 85) (star (MatO (some ⟨go,0,none⟩) la zs) (star (MapO (pairV .i64) w8.heap.size (E.map pkey)) (star (bigStar (E.map dlO)) (star (CellO (w8.heap.size+1) #[.map (some w8.heap.size)] 74) emp))))).Ok)
     obtain ⟨⟨t0,t1,t2,t3,t4,t5⟩,⟨x0,x1⟩,y0,y1⟩:=HCL.out w34 H34.out.bel
     obtain ⟨b0,b1,b2,b3,-⟩:=run_c4 H34.out
     obtain ⟨FG,hFG⟩:=(H34.out.perm (by ac_rfl:_=star (CellO (w8.heap.size+1) #[.map (some w8.heap.size)] 74) (star (CellO g24 #[.int .i64 (anyK T a b),.slice A2 (anyL T a b).length c2,.slice A3 n5 c3,.slice A4 n6 c4] 85) (star (MatO (some ⟨go,0,none⟩) la zs) (star (MapO (pairV .i64) w8.heap.size (E.map pkey)) (star (bigStar (E.map dlO)) emp)))))).fst
     have hgm:=cell_at (i:=0) hFG rfl
     obtain ⟨FM,hFM⟩:=(H34.out.perm (by ac_rfl:_=star (MapO (pairV .i64) w8.heap.size (E.map pkey)) (star (CellO (w8.heap.size+1) #[.map (some w8.heap.size)] 74) (star (CellO g24 #[.int .i64 (anyK T a b),.slice A2 (anyL T a b).length c2,.slice A3 n5 c3,.slice A4 n6 c4] 85) (star (MatO (some ⟨go,0,none⟩) la zs) (star (bigStar (E.map dlO)) emp)))))).fst
     have HLK:=hide (fun W (hb:Below w34.heap.size w34 W) (x y:Int)=>lk_any (map_ok.keep hFM (fun i hi=>hb.block i (map_ok.lt hFM i hi))) x y)
     have KD1:=hide (build_any (w:=w34) (f:=eF E) (cc:=c2) HO2.out.2 (by rw [anyL_len,←HLA.out];omega) hgm HLK.out (anyK T a b+T.ord) true)
     have KD2:=hide (build_any (w:=w34) (f:=eF E) (cc:=c1) HO2.out.1 (by rw [ordL_len,←HLA.out];omega) hgm HLK.out (ordK T a b) false)
     have hord:=costN_iff.1 (validT_iff.1 HVT.out).1.2.2.2.1
     obtain ⟨k1,k2,k3⟩:=any_bnd HOM.out
     have HL1:=hide (anyL_len (T:=T) (a:=a) (b:=b))
     have HL2:=hide (ordL_len (T:=T) (a:=a) (b:=b))
     have HBE:=hide (show bestM T a b=if anyK T a b+T.ord < ordK T a b then ⟨anyK T a b+T.ord,true,buildN T a b 0 (anyL T a b)⟩ else ⟨ordK T a b,false,buildN T a b 0 (ordL T a b)⟩ from rfl)
     generalize anyK T a b=ak at *
     generalize ordK T a b=ok' at *
     generalize anyL T a b=al at *
     generalize ordL T a b=ol at *
     clear hgm hFM FM hFG FG HLK HO2
     obtain ⟨o1,o2⟩:=hord
     by_cases hlt:ak+T.ord < ok'
     ·have HX:=hide (HBE.out.trans (if_pos hlt))
      clear KD2
      go_wp2_with fail
      refine KD1.out.mono ?_
      rintro e9 w35 ⟨A5,c5,rfl,hp⟩
      have h35:=H34.out.fresh okY.out hp
      have h36:=H8.out.fresh ok6.out (h35.post (star_ok pes_ok okY.out))
      have h37:=h36.perm (by ac_rfl:_=star (CellO g6 #[.int .i64 0,.bool false,.slice none 0 0] 31) (star (PesO A5 c5 (picks (eF E) 0 al)) (star (bigStar (E.map dlO)) (star (CellO g24 #[.int .i64 ak,.slice A2 al.length c2,.slice A3 n5 c3,.slice A4 n6 c4] 85) (star (MatO (some ⟨go,0,none⟩) la zs) (star (MapO (pairV .i64) w8.heap.size (E.map pkey)) (star (CellO (w8.heap.size+1) #[.map (some w8.heap.size)] 74) (star (CellO g10 #[.slice yA lb yc,.slice yB lb yd] 71) (star (CellO g8 #[.slice xA la xc,.slice xB la xd] 71) (star (CellO g5 #[.int .i64 b.k,.slice Bn lb cb] 28) (star (CellO g4 #[.int .i64 a.k,.slice An la ca] 28) (star (CellO w.heap.size #[.slice aA n1 ac,.slice aD n2 ad,.slice aE n3 ae,.int .i64 T.drop,.int .i64 T.ord,.int .i64 T.ini] 25) (star emp emp)))))))))))))
      obtain ⟨z0,z1,z2⟩:=run_c3 h37
      obtain ⟨F6,hF6⟩:=h37.fst
      have zf:=cell_free hF6
      have H38:=hide (run_set3 h37 (star_ok pes_ok (star_ok bdl_ok (star_ok cell_ok (star_ok mato_ok (star_ok map_ok (star_ok cell_ok (star_ok cell_ok (star_ok cell_ok (star_ok cell_ok (star_ok cell_ok (star_ok cell_ok (star_ok emp_ok emp_ok)))))))))))) (.int .i64 (ak+T.ord)) (.bool true) (.slice A5 (picks (eF E) 0 al).length c5))
      clear h35 h36 h37 hp KD1 H34 H8 hF6 F6 t0 t1 t2 t3 t4 t5 x0 x1 y0 y1 b0 b1 b2 b3
      go_wp2
      obtain ⟨f2,hf2⟩:=H38.out.fst
      refine bodyPost_ret (res13 rfl rfl hf2.1 rfl) rfl ?_
      exact mat_fin HOM.out HEE.out (Nat.le_of_eq HL1.out) HX.out H38.out
     ·have HX:=hide (HBE.out.trans (if_neg hlt))
      clear KD1
      go_wp2_with fail
      refine KD2.out.mono ?_
      rintro e9 w35 ⟨A5,c5,rfl,hp⟩
      have h35:=H34.out.fresh okY.out hp
      have h36:=H8.out.fresh ok6.out (h35.post (star_ok pes_ok okY.out))
      have h37:=h36.perm (by ac_rfl:_=star (CellO g6 #[.int .i64 0,.bool false,.slice none 0 0] 31) (star (PesO A5 c5 (picks (eF E) 0 ol)) (star (bigStar (E.map dlO)) (star (CellO g24 #[.int .i64 ak,.slice A2 al.length c2,.slice A3 n5 c3,.slice A4 n6 c4] 85) (star (MatO (some ⟨go,0,none⟩) la zs) (star (MapO (pairV .i64) w8.heap.size (E.map pkey)) (star (CellO (w8.heap.size+1) #[.map (some w8.heap.size)] 74) (star (CellO g10 #[.slice yA lb yc,.slice yB lb yd] 71) (star (CellO g8 #[.slice xA la xc,.slice xB la xd] 71) (star (CellO g5 #[.int .i64 b.k,.slice Bn lb cb] 28) (star (CellO g4 #[.int .i64 a.k,.slice An la ca] 28) (star (CellO w.heap.size #[.slice aA n1 ac,.slice aD n2 ad,.slice aE n3 ae,.int .i64 T.drop,.int .i64 T.ord,.int .i64 T.ini] 25) (star emp emp)))))))))))))
      obtain ⟨z0,z1,z2⟩:=run_c3 h37
      obtain ⟨F6,hF6⟩:=h37.fst
      have zf:=cell_free hF6
      have H38:=hide (run_set3 h37 (star_ok pes_ok (star_ok bdl_ok (star_ok cell_ok (star_ok mato_ok (star_ok map_ok (star_ok cell_ok (star_ok cell_ok (star_ok cell_ok (star_ok cell_ok (star_ok cell_ok (star_ok cell_ok (star_ok emp_ok emp_ok)))))))))))) (.int .i64 (ok')) (.bool false) (.slice A5 (picks (eF E) 0 ol).length c5))
      clear h35 h36 h37 hp KD2 H34 H8 hF6 F6 t0 t1 t2 t3 t4 t5 x0 x1 y0 y1 b0 b1 b2 b3
      go_wp2
      obtain ⟨f2,hf2⟩:=H38.out.fst
      refine bodyPost_ret (res13 rfl rfl hf2.1 rfl) rfl ?_
      exact mat_fin HOM.out HEE.out (Nat.le_of_eq HL2.out) HX.out H38.out
end Go.Proofs.YtbnnlpjpnihheaaGreatDoor
namespace Go.Proofs.YtbnnlpjpnihheaaGreatDoor
open Go.RowKit Go.CH Go.CH.Scr Go.CH.Pot
open Go.ChangeMaps (setBlock)
theorem ixeq_any {w:World} {y:RA} {gi:Nat} {k:Int} (h:w.cell? ⟨gi,0,none⟩=some (.int .i64 k)) :
  Calls Tryz.prog 132 #[.agg (acells y).toArray,.pointer (some ⟨gi,0,none⟩)] w (BelowRet w (.bool (decide ((y.r.ix:Int)=k)))):=by
 obtain ⟨⟨ix,c,f,t⟩,A,n⟩:=y
 have h1:=run_new (Run.begin w) emp_ok #[.int .i64 (ix:Nat),.int .i64 c,.slice A f.length n,.string (bs t)] 181
 have HB:=hide (show Below w.heap.size w (w.alloc (.cells #[.int .i64 (ix:Nat),.int .i64 c,.slice A f.length n,.string (bs t)] 181)) from h1.mod.below (fun _ _ h=>h))
 have q0:(w.alloc (.cells #[.int .i64 (ix:Nat),.int .i64 c,.slice A f.length n,.string (bs t)] 181)).cell? ⟨gi,0,none⟩=some (.int .i64 k):=by rw [HB.out.cell (World.block_lt_of_cell? _ _ h)];exact h
 clear h
 unfold acells
 dsimp only
 by_cases hk:(ix:Int)=k
 ·have t1:((ix:Int) == k)=true:=by simp [hk]
  rw [decide_eq_true hk]
  clear hk h1
  go_enter Tryz.func132,Tryz.ntmps132
  go_wp2
  go_ret
  exact ⟨rfl,HB.out⟩
 ·have t1:((ix:Int) == k)=false:=by simp [hk]
  rw [decide_eq_false hk]
  clear hk h1
  go_enter Tryz.func132,Tryz.ntmps132
  go_wp2
  go_ret
  exact ⟨rfl,HB.out⟩

def ixN (q:List RA) (k:Int):Int:=match q.findIdx? (fun y=>decide ((y.r.ix:Int)=k)) with
 | none => -1
 | some j=>j
theorem ixN_none {q:List RA} {k:Int} (h:∀ j (hj:j < q.length),(q[j].r.ix:Int)≠k):ixN q k = -1:=by
 unfold ixN
 rw [List.findIdx?_eq_none_iff.2 (fun y hy=>by
  obtain ⟨j,hj,rfl⟩:=List.mem_iff_getElem.1 hy
  exact decide_eq_false (h j hj))]
theorem ixN_some {q:List RA} {k:Int} {j:Nat} (hj:j < q.length) (h1:(q[j].r.ix:Int)=k) (h:∀ i (hi:i < j),(q[i].r.ix:Int)≠k):ixN q k=j:=by
 unfold ixN
 rw [List.findIdx?_eq_some_iff_getElem.2 ⟨hj,decide_eq_true h1,fun i hi=>by simpa using h i hi⟩]
theorem ixN_cases (q:List RA) (k:Int):(ixN q k = -1∧(q.map (·.r)).find? (fun r=>decide ((r.ix:Int)=k))=none)∨∃ j,∃ hj:j < q.length,ixN q k=j∧(q.map (·.r)).find? (fun r=>decide ((r.ix:Int)=k))=some q[j].r:=by
 cases hf:q.findIdx? (fun y=>decide ((y.r.ix:Int)=k)) with
 | none =>
  refine .inl ⟨by unfold ixN;rw [hf],?_⟩
  rw [List.find?_eq_none]
  intro r hr
  obtain ⟨y,hy,rfl⟩:=List.mem_map.1 hr
  have:=List.findIdx?_eq_none_iff.1 hf y hy
  simpa using this
 | some j =>
  obtain ⟨hj,h1,h2⟩:=List.findIdx?_eq_some_iff_getElem.1 hf
  refine .inr ⟨j,hj,by unfold ixN;rw [hf],?_⟩
  rw [List.find?_eq_some_iff_getElem]
  refine ⟨h1,j,by simpa using hj,by simp,fun i hi=>?_⟩
  have:=h2 i hi
  simpa using this
set_option maxHeartbeats 6400000 in
set_option maxRecDepth 100000 in
theorem index_any {w:World} {R:Option Addr} {rc:Nat} {q:List RA} {gi:Nat} {k:Int} (hR:ArsR w R q) (hq:q.length≤1000000) (h:w.cell? ⟨gi,0,none⟩=some (.int .i64 k)) :
  Calls Tryz.prog 131 #[.slice R q.length rc,.func (.func 132) #[] #[.pointer (some ⟨gi,0,none⟩)]] w (BelowRet w (.int .i64 (ixN q k))):=by
 have KI:=hide (fun W (hb:Below w.heap.size w W) y=>ixeq_any (w:=W) (y:=y) (gi:=gi) (k:=k) (by rw [hb.cell (World.block_lt_of_cell? _ _ h)];exact h))
 have HR:=hide hR
 have HQ:=hide hq
 have HB0:=hide (Below.refl w.heap.size w)
 clear hR hq h
 obtain ⟨N,hN⟩:∃ N,N=q.length:=⟨_,rfl⟩
 have HN:=hide hN
 rw [←hN]
 clear hN
 go_enter Tryz.func131,Tryz.ntmps131
 go_wp2_with fail
 go_loopw [8] (fun i wr=>∃ j:Nat,j≤N∧i=.int .i64 j∧(∀ i (hi:i < q.length),i < j→(q[i].r.ix:Int)≠k)∧Below w.heap.size w wr) (fun i _=>N - (intOf i).toNat)
 case atStart=>exact ⟨0,Nat.zero_le _,rfl,fun i _ h=>absurd h (Nat.not_lt_zero _),HB0.out⟩
 case round =>
  obtain ⟨j,hj,rfl,hno,hbel⟩:=hrel
  have HBE:=hide hbel
  have HNO:=hide hno
  clear hbel hno
  by_cases hlt:j < N
  ·have hjq:j < q.length:=by rw [←HN.out];exact hlt
   have HLT:=hide hlt
   obtain ⟨b,o,rfl,hc⟩:=Rst.at (R:=acells) (fun _=>rfl) (by omega) HR.out (by omega)
   have r0:=hc wr HBE.out j hjq 0 _ rfl
   have r1:=hc wr HBE.out j hjq 1 _ rfl
   have r2:=hc wr HBE.out j hjq 2 _ rfl
   have r3:=hc wr HBE.out j hjq 3 _ rfl
   simp only [Nat.add_zero] at r0
   have hjb:(j:Int) < 1000000:=by have:=HQ.out;omega
   have K1:=hide (KI.out wr HBE.out q[j])
   have HYS:=hide (fun h=>ixN_some hjq h (fun i hi=>HNO.out i (by omega) hi):(q[j].r.ix:Int)=k→_)
   have HNS:=hide (show (q[j].r.ix:Int)≠k→∀ i (hi:i < q.length),i < j+1→(q[i].r.ix:Int)≠k from fun h i hi hij=>by
    by_cases e:i=j
    ·subst e;exact h
    ·exact HNO.out i hi (by omega))
   clear hc
   generalize q[j]=y at *
   obtain ⟨⟨ix,c,f,t⟩,A,n⟩:=y
   unfold acells at K1
   dsimp only at K1 r0 r1 r2 r3 HYS HNS
   go_wp2_with fail
   refine K1.out.mono ?_
   rintro e9 w4 ⟨rfl,hb⟩
   have HB4:=hide (bel_trans HBE.out hb)
   clear K1 hb r0 r1 r2 r3
   dsimp only
   by_cases hk:(ix:Int)=k
   ·have HV:=hide (HYS.out hk)
    rw [decide_eq_true hk]
    clear hk
    go_wp2
    go_ret
    rw [HV.out]
    exact ⟨rfl,HB4.out⟩
   ·have HV:=hide (HNS.out hk)
    rw [decide_eq_false hk]
    clear hk
    go_wp2
    go_roundw
    case rel=>exact ⟨j+1,HLT.out,by go_num,HV.out,HB4.out⟩
    case measure=>have:=HLT.out;simp [intOf];omega
  ·have HV:=hide (show ixN q k = -1 from ixN_none (fun i hi=>HNO.out i hi (by have:=HN.out;omega)))
   go_wp2
   go_ret
   rw [HV.out]
   exact ⟨rfl,HBE.out⟩
end Go.Proofs.YtbnnlpjpnihheaaGreatDoor
namespace Go.Proofs.YtbnnlpjpnihheaaGreatDoor
open Go.RowKit Go.CH Go.CH.Scr Go.CH.Pot
open Go.ChangeMaps (setBlock)

def WrtRet (w:World) (l:List Bs) (rs:List AR) (ks:List Int) (e:Ending) (w':World):Prop :=
 ∃ (F:Bs) (c:Int) (ok:Bool),e=.returned (.tuple #[.string (bs F),.int .i64 c,.bool ok])∧(F.length≤1000000000∧0≤c∧c≤1000000000)∧((ok=true→wrtN l rs ks 0=some (F,c,l.length))∧(ok=false→∀ F' c',wrtN l rs ks 0≠some (F',c',l.length)))∧Below w.heap.size w w'

def WrtI (l:List Bs) (rs:List AR) (ks:List Int) (j at0:Nat) (F:Bs) (c:Int):Prop :=
 (F.length≤1000000*j∧0≤c∧c≤1000000*j∧at0≤l.length)∧wrtN l rs ks 0=(wrtN l rs (ks.drop j) at0).map fun z=>(F ++ z.1,c+z.2.1,z.2.2)
theorem wrti_zero {l:List Bs} {rs:List AR} {ks:List Int}:WrtI l rs ks 0 0 [] 0:=by
 refine ⟨⟨by simp,by simp,by simp,Nat.zero_le _⟩,?_⟩
 rw [List.drop_zero]
 cases wrtN l rs ks 0 with
 | none=>rfl
 | some z=>simp
theorem wrti_succ {l:List Bs} {rs:List AR} {ks:List Int} {j at0:Nat} {F:Bs} {c:Int} {r:AR} (h:WrtI l rs ks j at0 F c) (hj:j < ks.length) (hr:rs.find? (fun r=>decide ((r.ix:Int)=ks[j]))=some r) (hf:fitsA l r at0=true)
  (ht:r.t.length≤1000000) (h0:0≤r.c) (h1:r.c≤1000000):WrtI l rs ks (j+1) (at0+r.f.length) (F ++ r.t) (c+r.c):=by
 obtain ⟨⟨g1,g2,g3,g4⟩,g5⟩:=h
 refine ⟨⟨by rw [List.length_append];omega,by omega,by omega,?_⟩,?_⟩
 ·unfold fitsA at hf
  simp only [Bool.and_eq_true,decide_eq_true_eq] at hf
  exact hf.1
 ·rw [g5,List.drop_eq_getElem_cons hj]
  conv=>lhs;unfold wrtN
  rw [hr]
  simp only [hf,if_true,Option.map_map]
  congr 1
  funext z
  simp only [Function.comp,List.append_assoc,Int.add_assoc]
theorem wrti_end {l:List Bs} {rs:List AR} {ks:List Int} {at0:Nat} {F:Bs} {c:Int} (h:WrtI l rs ks ks.length at0 F c) (he:at0=l.length):wrtN l rs ks 0=some (F,c,l.length):=by
 rw [h.2,List.drop_length]
 unfold wrtN
 simp [he]
theorem wrti_none {l:List Bs} {rs:List AR} {ks:List Int} {j at0:Nat} {F:Bs} {c:Int} (h:WrtI l rs ks j at0 F c) (hj:j < ks.length) (hr:rs.find? (fun r=>decide ((r.ix:Int)=ks[j]))=none) (F':Bs) (c':Int):wrtN l rs ks 0≠some (F',c',l.length):=by
 rw [h.2,List.drop_eq_getElem_cons hj]
 unfold wrtN
 rw [hr]
 intro e;cases e
theorem wrti_unfit {l:List Bs} {rs:List AR} {ks:List Int} {j at0:Nat} {F:Bs} {c:Int} {r:AR} (h:WrtI l rs ks j at0 F c) (hj:j < ks.length) (hr:rs.find? (fun r=>decide ((r.ix:Int)=ks[j]))=some r) (hf:fitsA l r at0=false) (F':Bs) (c':Int):wrtN l rs ks 0≠some (F',c',l.length):=by
 rw [h.2,List.drop_eq_getElem_cons hj]
 unfold wrtN
 rw [hr]
 simp only
 rw [if_neg (by rw [hf];decide)]
 intro e;cases e
theorem wrti_off {l:List Bs} {rs:List AR} {ks:List Int} {at0:Nat} {F:Bs} {c:Int} (h:WrtI l rs ks ks.length at0 F c) (he:at0≠l.length) (F':Bs) (c':Int):wrtN l rs ks 0≠some (F',c',l.length):=by
 rw [h.2,List.drop_length]
 unfold wrtN
 simp only [Option.map_some]
 intro e
 injection e with e
 injection e with e1 e2
 injection e2 with e2 e3
 exact he e3
set_option maxHeartbeats 6400000 in
set_option maxRecDepth 100000 in
theorem written_any {w:World} {l:List Bs} {L R D:Option Addr} {lc rc dc:Nat} {q:List RA} {ks:List Int} (hL:Vst w L l) (hR:ArsR w R q) (hF:∀ y ∈ q,Vst w y.A y.r.f) (hD:Src w D ks.length 1 (ks.map (Value.int .i64)))
  (hll:l.length≤lc) (hl6:l.length≤1000000) (hq:q.length≤1000000) (hf:∀ y ∈ q,y.r.f.length≤1000000∧y.r.t.length≤1000000∧0≤y.r.c∧y.r.c≤1000000) (hk:ks.length≤1000) :
  Calls Tryz.prog 108 #[.agg #[.slice L l.length lc,.slice R q.length rc],.slice D ks.length dc] w (WrtRet w l (q.map (·.r)) ks):=by
 have h1:=run_new (Run.begin w) emp_ok #[.slice L l.length lc,.slice R q.length rc] 167
 have HB1:=hide (show Below w.heap.size w _ from h1.mod.below (fun _ _ h=>h))
 have HBX:=hide (fun W (h:Below (w.alloc (.cells #[.slice L l.length lc,.slice R q.length rc] 167)).heap.size (w.alloc (.cells #[.slice L l.length lc,.slice R q.length rc] 167)) W)=>(show W.cell? ⟨w.heap.size,0,none⟩=some (.slice L l.length lc)∧W.cell? ⟨w.heap.size,1,none⟩=some (.slice R q.length rc) from by
  obtain ⟨f,hf⟩:=(h1.below (star_ok cell_ok emp_ok) h).fst
  exact ⟨cell_at hf rfl,cell_at hf rfl⟩))
 have HL:=hide hL
 have HR:=hide hR
 have HF:=hide hF
 have HD:=hide hD
 have HLL:=hide hll
 have HL6:=hide hl6
 have HQ:=hide hq
 have HFF:=hide hf
 have HK:=hide hk
 clear hL hR hF hD hll hl6 hq hf hk h1
 obtain ⟨n,hn⟩:∃ n,n=ks.length:=⟨_,rfl⟩
 have HN:=hide hn
 rw [←hn]
 clear hn
 go_enter Tryz.func108,Tryz.ntmps108
 go_wp2_with fail
 generalize w.alloc (.cells #[.slice L l.length lc,.slice R q.length rc] 167)=w1 at *
 generalize w.heap.size=g2 at HBX ⊢
 have HB0:=hide (Below.refl w1.heap.size w1)
 go_loopw [4,5,7,13] (fun u v a i wr=>∃ (j at0:Nat) (F:Bs) (c:Int),j≤n∧i=.int .i64 j∧u=.string (bs F)∧v=.int .i64 c∧a=.int .i64 at0∧WrtI l (q.map (·.r)) ks j at0 F c∧Below w1.heap.size w1 wr) (fun _ _ _ i _=>n - (intOf i).toNat)
 case atStart=>exact ⟨0,0,[],0,Nat.zero_le _,rfl,rfl,rfl,rfl,wrti_zero,HB0.out⟩
 case round =>
  obtain ⟨j,at0,F,c,hj,rfl,rfl,rfl,rfl,hI,hbel⟩:=hrel
  have HBE:=hide hbel
  have HI:=hide hI
  clear hbel hI
  by_cases hlt:j < n
  ·have hjk:j < ks.length:=by rw [←HN.out];exact hlt
   have HLT:=hide hlt
   obtain ⟨db,dof,rfl,hdc⟩:=Src.open_ HD.out (by omega) (by omega)
   have k0:wr.cell? ⟨db,dof+j,none⟩=some (.int .i64 ks[j]):=by
    have h1:=hdc j (.int .i64 ks[j]) (by simp [hjk])
    have hbw:=bel_trans HB1.out HBE.out
    rw [hbw.cell (World.block_lt_of_cell? _ _ h1)]
    exact h1
   have hjb:(j:Int) < 1000000:=by have:=HK.out;omega
   have HWS:=hide (fun r hr hf ht h0 h1=>wrti_succ (r:=r) HI.out hjk hr hf ht h0 h1)
   have HWN:=hide (fun hr=>wrti_none HI.out hjk hr)
   have HWU:=hide (fun r hr hf=>wrti_unfit (r:=r) HI.out hjk hr hf)
   have HIX:=hide (ixN_cases q ks[j])
   have h4:=run_new (Run.begin wr) emp_ok #[.int .i64 ks[j]] 3
   have HB4:=hide (bel_trans HBE.out (h4.mod.below (fun _ _ h=>h)))
   have K1:=hide (index_any (w:=wr.alloc (.cells #[.int .i64 ks[j]] 3)) (rc:=rc) (HR.out.below (bel_trans HB1.out HB4.out)) HQ.out (gi:=wr.heap.size) (k:=ks[j]) (by obtain ⟨f,hf⟩:=h4.fst;exact cell_at (i:=0) hf rfl))
   have y0:=(HBX.out _ HB4.out).1
   have y1:=(HBX.out _ HB4.out).2
   obtain ⟨⟨i1,i2,i3,i4⟩,-⟩:=HI.out
   have hF1:F.length≤1000000000:=by have:=HK.out;omega
   have hc1:c≤1000000000:=by have:=HK.out;omega
   have ha1:at0≤1000000:=by have:=HL6.out;omega
   have HI4:=hide i4
   have HI2:=hide i2
   clear hdc h4 i1 i3 i4
   generalize ks[j]=kk at *
   go_wp2_with fail
   refine K1.out.mono ?_
   rintro e9 w5 ⟨rfl,hb⟩
   have HB5:=hide (bel_trans HB4.out hb)
   clear K1 hb k0 y0 y1
   dsimp only
   rcases HIX.out with ⟨hix,hfd⟩ | ⟨jq,hjq,hix,hfd⟩
   ·rw [hix]
    have HNO:=hide (HWN.out hfd)
    clear hix HIX hfd
    have HBD:=hide (bel_trans HB5.out ((Below.refl w5.heap.size w5).drew))
    go_upto_region 6 with (fail)
    refine wp_region_lex (fun w'=>w'=w5.drew) (by kernel_rfl) (by kernel_rfl) rfl ?_
    generalize w5.drew=w6 at *
    (repeat ((first | refine lex_skip (by rfl) ?_ | (refine lex_read (v:=?_) (by rfl) ?_ ?_;rotate_left;(focus (intro w' hS';go_simp;(try with_reducible rfl);done))));try simp only [Act.put,List.setIfInBounds_toArray,List.set_cons_zero,List.set_cons_succ]))
    refine lex_nil ?_
    go_wp2
    refine bodyPost_ret (results_tmp3 rfl _ _ _) rfl ?_
    exact ⟨[],0,false,rfl,⟨by simp,by simp,by simp⟩,⟨(fun h=>by cases h),fun _=>HNO.out⟩,bel_trans HB1.out HBD.out⟩
   ·rw [hix]
    clear hix HIX
    obtain ⟨rb,ro,rfl,hrc⟩:=Rst.at (R:=acells) (fun _=>rfl) (by omega) HR.out (by omega)
    have HRC:=hide (fun W (h:Below w5.heap.size w5 W)=>(show W.cell? ⟨rb,ro+jq*4,none⟩=some (.int .i64 (q[jq].r.ix:Nat))∧W.cell? ⟨rb,ro+jq*4+1,none⟩=some (.int .i64 q[jq].r.c)∧W.cell? ⟨rb,ro+jq*4+2,none⟩=some (.slice q[jq].A q[jq].r.f.length q[jq].c)∧W.cell? ⟨rb,ro+jq*4+3,none⟩=some (.string (bs q[jq].r.t))∧W.cell? ⟨g2,0,none⟩=some (.slice L l.length lc)∧W.cell? ⟨g2,1,none⟩=some (.slice (some ⟨rb,ro,none⟩) q.length rc) from by
     have hb:=bel_trans HB1.out (bel_trans HB5.out h)
     have hy:=HBX.out W (bel_trans HB5.out h)
     exact ⟨hrc W hb jq hjq 0 _ rfl,hrc W hb jq hjq 1 _ rfl,hrc W hb jq hjq 2 _ rfl,hrc W hb jq hjq 3 _ rfl,hy.1,hy.2⟩))
    have hmem:=List.getElem_mem hjq
    have HW1:=hide (fun hf=>HWS.out _ hfd hf (HFF.out _ hmem).2.1 (HFF.out _ hmem).2.2.1 (HFF.out _ hmem).2.2.2)
    have HU1:=hide (fun hf=>HWU.out _ hfd hf)
    have KF:=hide (fun W (h:Below w5.heap.size w5 W)=>fits_any (w:=W) (R:=some ⟨rb,ro,none⟩) (rn:=q.length) (rc:=rc) (lc:=lc) (fc:=q[jq].c) (r:=q[jq].r) (i:=at0) (HL.out.below (bel_trans HB1.out (bel_trans HB5.out h))) ((HF.out _ hmem).below (bel_trans HB1.out (bel_trans HB5.out h))) HI4.out HLL.out HL6.out (HFF.out _ hmem).1)
    obtain ⟨b1,b2,b3,b4⟩:=HFF.out _ hmem
    have hjqb:(jq:Int) < 1000000:=by have:=HQ.out;omega
    have HJQ:=hide hjq
    clear hrc hfd hmem HWS HR HF HD HL
    generalize q[jq]=y at *
    obtain ⟨⟨ix,rcost,rf,rt⟩,rA,rn⟩:=y
    dsimp only at HRC HW1 HU1 KF b1 b2 b3 b4
    go_upto_region 6 with (fail)
    have t1:decide ((jq:Int) < 0)=false:=decide_eq_false (by omega)
    have HBD:=hide ((Below.refl w5.heap.size w5).drew)
    have HS0:=hide (HRC.out _ HBD.out)
    refine wp_region_lex (fun W:World=>W.cell? ⟨rb,ro+jq*4,none⟩=some (.int .i64 (ix:Nat))∧W.cell? ⟨rb,ro+jq*4+1,none⟩=some (.int .i64 rcost)∧W.cell? ⟨rb,ro+jq*4+2,none⟩=some (.slice rA rf.length rn)∧W.cell? ⟨rb,ro+jq*4+3,none⟩=some (.string (bs rt))∧W.cell? ⟨g2,0,none⟩=some (.slice L l.length lc)∧W.cell? ⟨g2,1,none⟩=some (.slice (some ⟨rb,ro,none⟩) q.length rc)) (by kernel_rfl) (by kernel_rfl) HS0.out ?_
    clear HS0
    generalize w5.drew=w6 at *
    (repeat ((first | refine lex_skip (by rfl) ?_ | (refine lex_read (v:=?_) (by rfl) ?_ ?_;rotate_left;(focus (intro w' hS';go_simp;(try with_reducible rfl);done))));try simp only [Act.put,List.setIfInBounds_toArray,List.set_cons_zero,List.set_cons_succ]))
    refine lex_chain rfl (by rfl) (fun K hK=>?_)
    go_wp2_with fail
    refine (KF.out w6 HBD.out).mono ?_
    rintro e9 w7 ⟨rfl,hb⟩
    have HB7:=hide (bel_trans HBD.out hb)
    refine hK.out _ _ (HRC.out w7 HB7.out) ?_
    clear hK KF hb HBD
    generalize hfit:fitsA l ⟨ix,rcost,rf,rt⟩ at0=fb at *
    cases fb with
    | false =>
     have HNO:=hide (HU1.out rfl)
     clear HW1 hfit
     (repeat ((first | refine lex_skip (by rfl) ?_ | (refine lex_read (v:=?_) (by rfl) ?_ ?_;rotate_left;(focus (intro w' hS';go_simp;(try with_reducible rfl);done))));try simp only [Act.put,List.setIfInBounds_toArray,List.set_cons_zero,List.set_cons_succ]))
     refine lex_nil ?_
     go_wp2
     refine bodyPost_ret (results_tmp3 rfl _ _ _) rfl ?_
     exact ⟨[],0,false,rfl,⟨by simp,by simp,by simp⟩,⟨(fun h=>by cases h),fun _=>HNO.out⟩,bel_trans HB1.out (bel_trans HB5.out HB7.out)⟩
    | true =>
     have HI9:=hide (HW1.out rfl)
     clear HW1 hfit
     (repeat ((first | refine lex_skip (by rfl) ?_ | (refine lex_read (v:=?_) (by rfl) ?_ ?_;rotate_left;(focus (intro w' hS';go_simp;(try with_reducible rfl);done))));try simp only [Act.put,List.setIfInBounds_toArray,List.set_cons_zero,List.set_cons_succ]))
     refine lex_nil ?_
     obtain ⟨x0,x1,x2,x3,x4,x5⟩:=HRC.out w7 HB7.out
     have i2:=HI2.out
     have hsum:¬ 9223372036854775807 < (bs F).size+(bs rt).size:=by rw [bs_size,bs_size];omega
     have hjl:jq < q.length:=HJQ.out
     go_wp2_with fail
     go_roundw
     case rel=>exact ⟨j+1,at0+rf.length,F ++ rt,c+rcost,HLT.out,by go_num,by rw [bs_cat],rfl,by go_num,HI9.out,bel_trans HB5.out HB7.out⟩
     case measure=>have:=HLT.out;simp [intOf];omega
  ·obtain rfl:j=n:=by omega
   have y0:=(HBX.out _ HBE.out).1
   obtain ⟨⟨i1,i2,i3,i4⟩,-⟩:=HI.out
   have HFC:=hide (show F.length≤1000000000∧0≤c∧c≤1000000000 from ⟨by have:=HK.out;have:=HN.out;omega,i2,by have:=HK.out;have:=HN.out;omega⟩)
   have HEN:=hide (fun h=>wrti_end (l:=l) (rs:=q.map (·.r)) (ks:=ks) (at0:=at0) (F:=F) (c:=c) (by have:=HI.out;rw [HN.out] at this;exact this) h)
   have HEO:=hide (fun h=>wrti_off (l:=l) (rs:=q.map (·.r)) (ks:=ks) (at0:=at0) (F:=F) (c:=c) (by have:=HI.out;rw [HN.out] at this;exact this) h)
   have HBD:=hide (bel_trans HBE.out ((Below.refl wr.heap.size wr).drew))
   clear i1 i2 i3 i4
   go_upto_region 12 with (fail)
   refine wp_region_lex (fun w'=>w'=wr.drew) (by kernel_rfl) (by kernel_rfl) rfl ?_
   have y0:=(HBX.out _ HBD.out).1
   generalize wr.drew=w6 at *
   by_cases he:at0=l.length
   ·have t1:((at0:Int) == (l.length:Int))=true:=by simp [he]
    have HE9:=hide (HEN.out he)
    clear he
    (repeat ((first | refine lex_skip (by rfl) ?_ | (refine lex_read (v:=?_) (by rfl) ?_ ?_;rotate_left;(focus (intro w' hS';go_simp;(try with_reducible rfl);done))));try simp only [Act.put,List.setIfInBounds_toArray,List.set_cons_zero,List.set_cons_succ]))
    refine lex_nil ?_
    go_wp2
    refine bodyPost_ret (results_tmp3 rfl _ _ _) rfl ?_
    exact ⟨F,c,true,rfl,HFC.out,⟨(fun _=>HE9.out),fun h=>by cases h⟩,bel_trans HB1.out HBD.out⟩
   ·have t1:((at0:Int) == (l.length:Int))=false:=by simp;omega
    have HE9:=hide (HEO.out he)
    clear he
    (repeat ((first | refine lex_skip (by rfl) ?_ | (refine lex_read (v:=?_) (by rfl) ?_ ?_;rotate_left;(focus (intro w' hS';go_simp;(try with_reducible rfl);done))));try simp only [Act.put,List.setIfInBounds_toArray,List.set_cons_zero,List.set_cons_succ]))
    refine lex_nil ?_
    go_wp2
    refine bodyPost_ret (results_tmp3 rfl _ _ _) rfl ?_
    exact ⟨F,c,false,rfl,HFC.out,⟨(fun h=>by cases h),fun _=>HE9.out⟩,bel_trans HB1.out HBD.out⟩
end Go.Proofs.YtbnnlpjpnihheaaGreatDoor
