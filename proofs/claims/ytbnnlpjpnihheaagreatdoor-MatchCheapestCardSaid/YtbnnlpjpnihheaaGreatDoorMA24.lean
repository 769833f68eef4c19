import Derived.Test.YtbnnlpjpnihheaaGreatDoorMA21
set_option linter.unusedSimpArgs false
set_option linter.unusedVariables false
namespace Go.Proofs.YtbnnlpjpnihheaaGreatDoor
open Go.RowKit Go.CH Go.CH.Scr Go.CH.Pot Go.CH.Mtc
open Go.ChangeMaps (setBlock)

set_option maxHeartbeats 12800000 in
set_option maxRecDepth 100000 in
theorem law_cheapest_any {w:World} {T:Tab} {a:TA} (hT:TabZ w T a) (hz:LZ w) {x:NmZ} (hx:Vst w x.A x.n.ws) {y:NmZ} (hy:Vst w y.A y.n.ws) {mc:Int} {sw:Bool} {Am:Option Addr} {cm:Nat} {l:List (Pr × PA)} (hM:MtR w Am l) (hn:l.length≤maxLen) :
  Calls Tryz.prog 5 #[tabV T a,nzV x,nzV y,.agg #[.int .i64 mc,.bool sw,.slice Am l.length cm]] w (BelowRet w (.bool true)):=by
 have h1:=run_new (Run.begin w) emp_ok #[.slice a.A T.rs.length a.c,.slice a.D T.ds.length a.d,.slice a.E T.es.length a.e,.int .i64 T.drop,.int .i64 T.ord,.int .i64 T.ini] 25
 have h2:=run_new h1 (star_ok cell_ok emp_ok) #[.int .i64 x.n.k,.slice x.A x.n.ws.length x.c] 28
 have h3:=run_new h2 (star_ok cell_ok (star_ok cell_ok emp_ok)) #[.int .i64 y.n.k,.slice y.A y.n.ws.length y.c] 28
 have h4:=run_new h3 (star_ok cell_ok (star_ok cell_ok (star_ok cell_ok emp_ok))) #[.int .i64 mc,.bool sw,.slice Am l.length cm] 31
 simp only [World.size_alloc] at h4
 have HB0:=hide h4.bel
 obtain ⟨b0_0,b0_1,b0_2,b0_3,b0_4,b0_5⟩:=run_cb h4.drop.drop.drop
 obtain ⟨b1_0,b1_1,-⟩:=run_c2 h4.drop.drop
 obtain ⟨b2_0,b2_1,-⟩:=run_c2 h4.drop
 obtain ⟨b3_0,b3_1,b3_2⟩:=run_c3 h4
 have HC:=hide (fun W (h:Below ((((w.alloc (.cells #[.slice a.A T.rs.length a.c,.slice a.D T.ds.length a.d,.slice a.E T.es.length a.e,.int .i64 T.drop,.int .i64 T.ord,.int .i64 T.ini] 25)).alloc (.cells #[.int .i64 x.n.k,.slice x.A x.n.ws.length x.c] 28)).alloc (.cells #[.int .i64 y.n.k,.slice y.A y.n.ws.length y.c] 28)).alloc (.cells #[.int .i64 mc,.bool sw,.slice Am l.length cm] 31)).heap.size ((((w.alloc (.cells #[.slice a.A T.rs.length a.c,.slice a.D T.ds.length a.d,.slice a.E T.es.length a.e,.int .i64 T.drop,.int .i64 T.ord,.int .i64 T.ini] 25)).alloc (.cells #[.int .i64 x.n.k,.slice x.A x.n.ws.length x.c] 28)).alloc (.cells #[.int .i64 y.n.k,.slice y.A y.n.ws.length y.c] 28)).alloc (.cells #[.int .i64 mc,.bool sw,.slice Am l.length cm] 31)) W)=>(show W.cell? ⟨w.heap.size,0,none⟩=some (.slice a.A T.rs.length a.c)∧W.cell? ⟨w.heap.size,1,none⟩=some (.slice a.D T.ds.length a.d)∧W.cell? ⟨w.heap.size,2,none⟩=some (.slice a.E T.es.length a.e)∧W.cell? ⟨w.heap.size,3,none⟩=some (.int .i64 T.drop)∧W.cell? ⟨w.heap.size,4,none⟩=some (.int .i64 T.ord)∧W.cell? ⟨w.heap.size,5,none⟩=some (.int .i64 T.ini)∧W.cell? ⟨w.heap.size+1,0,none⟩=some (.int .i64 x.n.k)∧W.cell? ⟨w.heap.size+1,1,none⟩=some (.slice x.A x.n.ws.length x.c)∧W.cell? ⟨w.heap.size+1+1,0,none⟩=some (.int .i64 y.n.k)∧W.cell? ⟨w.heap.size+1+1,1,none⟩=some (.slice y.A y.n.ws.length y.c)∧W.cell? ⟨w.heap.size+1+1+1,0,none⟩=some (.int .i64 mc)∧W.cell? ⟨w.heap.size+1+1+1,1,none⟩=some (.bool sw)∧W.cell? ⟨w.heap.size+1+1+1,2,none⟩=some (.slice Am l.length cm) from ⟨below_cell b0_0 h,below_cell b0_1 h,below_cell b0_2 h,below_cell b0_3 h,below_cell b0_4 h,below_cell b0_5 h,below_cell b1_0 h,below_cell b1_1 h,below_cell b2_0 h,below_cell b2_1 h,below_cell b3_0 h,below_cell b3_1 h,below_cell b3_2 h⟩))
 have HTZ:=hide hT
 have HZ:=hide hz
 have HVx:=hide hx
 have HVy:=hide hy
 have HM:=hide hM
 have HLM:=hide hn
 clear hT hz hx hy hM hn h1 h2 h3 h4 b0_0 b0_1 b0_2 b0_3 b0_4 b0_5 b1_0 b1_1 b2_0 b2_1 b3_0 b3_1 b3_2
 have KF:=hide (fun W (hb:Below w.heap.size w W) (B:Option Addr) (c:Nat) (hl:NmsO W B [x,y])=>few_any (c:=c) (HTZ.out.below hb) hl (by simp))
 have KB1:=hide (fun (hf:fewM T [x,y]=true) W (hb:Below w.heap.size w W)=>(best14_any ((few_nm hf).1 (HTZ.out.below hb)) (HZ.out.below hb) (ca:=x.c) (cb:=y.c) (Vst.below HVx.out hb) (Vst.below HVy.out hb) (by have:=((few_nm hf).2 x (by simp)).1;omega) (by have:=((few_nm hf).2 y (by simp)).1;omega) (fun z hz=>by have:=((few_nm hf).2 x (by simp)).2 z hz;omega) (fun z hz=>by have:=((few_nm hf).2 y (by simp)).2 z hz;omega)).mono fun e w' h=>mat_ret_r h)
 have KS:=hide (fun W (hb:Below w.heap.size w W)=>short14_any (c:=cm) (HM.out.below hb) HLM.out mc sw)
 have KC:=hide (fun (hf:fewM T [x,y]=true) (hs:shortM l=true) W (hb:Below w.heap.size w W)=>chk_any ((few_nm hf).1 (HTZ.out.below hb)) (HZ.out.below hb) (ca:=x.c) (cb:=y.c) (Vst.below HVx.out hb) (Vst.below HVy.out hb) (by have:=((few_nm hf).2 x (by simp)).1;omega) (by have:=((few_nm hf).2 y (by simp)).1;omega) (fun z hz=>by have:=((few_nm hf).2 x (by simp)).2 z hz;omega) (fun z hz=>by have:=((few_nm hf).2 y (by simp)).2 z hz;omega) (mc:=mc) (sw:=sw) (cm:=cm) (HM.out.below hb) (by have:=(shortM_iff.1 hs).2;omega) (fun e he=>by have:=shE_iff.1 ((shortM_iff.1 hs).1 e he);omega))
 have KP:=hide (fun (hf:fewM T [x,y]=true) W (hb:Below w.heap.size w W) (p:Mt) (A:Option Addr) (c:Nat) (lp:List (Pr × PA)) (hp:rightM T x.n y.n p) (hl:lp.map (·.1)=p.ps) (hM:MtR W A lp)=>chk_any ((few_nm hf).1 (HTZ.out.below hb)) (HZ.out.below hb) (ca:=x.c) (cb:=y.c) (Vst.below HVx.out hb) (Vst.below HVy.out hb) (by have:=((few_nm hf).2 x (by simp)).1;omega) (by have:=((few_nm hf).2 y (by simp)).1;omega) (fun z hz=>by have:=((few_nm hf).2 x (by simp)).2 z hz;omega) (fun z hz=>by have:=((few_nm hf).2 y (by simp)).2 z hz;omega) (mc:=p.c) (sw:=p.s) (cm:=c) hM (by have:=right_count hp;rw [←hl,List.length_map] at this;omega) (fun e he=>by have:=right_few hp e.1 (by rw [←hl];exact List.mem_map.2 ⟨e,he,rfl⟩);omega))
 have KH:=hide (fun W (hb:Below w.heap.size w W)=>head_any W (HZ.out.below hb))
 unfold tabV nzV at *
 try unfold nmV at *
 unfold tabC at *
 generalize T.rs.length=n1 at *
 generalize T.ds.length=n2 at *
 generalize T.es.length=n3 at *
 generalize hnx:x.n.ws.length=nx at *
 have HNx:=hide hnx
 clear hnx
 generalize hny:y.n.ws.length=ny at *
 have HNy:=hide hny
 clear hny
 generalize hnm:l.length=nm at *
 have HNM:=hide hnm
 clear hnm
 go_enter Tryz.func5,Tryz.ntmps5
 go_upto_region 1 with (fail)
 generalize (((w.alloc (.cells #[.slice a.A n1 a.c,.slice a.D n2 a.d,.slice a.E n3 a.e,.int .i64 T.drop,.int .i64 T.ord,.int .i64 T.ini] 25)).alloc (.cells #[.int .i64 x.n.k,.slice x.A nx x.c] 28)).alloc (.cells #[.int .i64 y.n.k,.slice y.A ny y.c] 28)).alloc (.cells #[.int .i64 mc,.bool sw,.slice Am nm cm] 31)=w0 at *
 generalize hgt:w.heap.size=gt at HC ⊢
 clear hgt
 have HBW:=hide (fun W (h:Below w0.heap.size w0 W)=>HB0.out.trans (h.mono HB0.out.size))
 have HD0:=hide (Below.refl w0.heap.size w0)
 have K:=hide (KH.out w0 (HBW.out _ HD0.out))
 go_wp2_with fail
 refine K.out.mono ?_
 rintro e9 w1 ⟨rfl,hb⟩
 have HD1:=hide (bel_trans HD0.out hb)
 clear K HD0 hb
 try dsimp only
 obtain ⟨b0_0,b0_1,b0_2,b0_3,b0_4,b0_5,b1_0,b1_1,b2_0,b2_1,b3_0,b3_1,b3_2⟩:=HC.out w1 HD1.out
 have hl:=names_lit (W:=w1) (cs:=#[.int .i64 x.n.k,.slice x.A nx x.c,.int .i64 y.n.k,.slice y.A ny y.c]) [x,y] (by rw [←HNx.out,←HNy.out];rfl) (fun z hz=>by
  simp only [List.mem_cons,List.not_mem_nil,or_false] at hz
  rcases hz with rfl | rfl
  ·exact Vst.below HVx.out (HBW.out _ HD1.out)
  ·exact Vst.below HVy.out (HBW.out _ HD1.out))
 have hb2:=bel_trans HD1.out (alloc_bel w1 (.cells #[.int .i64 x.n.k,.slice x.A nx x.c,.int .i64 y.n.k,.slice y.A ny y.c] 28))
 have K:=hide (KF.out _ (HBW.out _ hb2) _ 2 hl)
 have HD2:=hide hb2
 clear hl hb2 HD1
 cases hf:fewM T [x,y] with
 | false =>
  rw [hf] at K
  have HF:=hide hf
  clear hf
  go_wp2_with fail
  refine K.out.mono ?_
  rintro e9 w3 ⟨rfl,hb⟩
  have HD3:=hide (bel_trans HD2.out hb)
  clear K hb HD2
  clear b0_0 b0_1 b0_2 b0_3 b0_4 b0_5 b1_0 b1_1 b2_0 b2_1 b3_0 b3_1 b3_2
  try dsimp only
  obtain ⟨b0_0,b0_1,b0_2,b0_3,b0_4,b0_5,b1_0,b1_1,b2_0,b2_1,b3_0,b3_1,b3_2⟩:=HC.out w3 HD3.out
  have HE:=hide (HBW.out _ HD3.out)
  go_wp2
  go_ret
  exact bel_bool rfl HE.out
 | true =>
  rw [hf] at K
  have HF:=hide hf
  clear hf
  go_wp2_with fail
  refine K.out.mono ?_
  rintro e9 w3 ⟨rfl,hb⟩
  have HD3:=hide (bel_trans HD2.out hb)
  clear K hb HD2
  clear b0_0 b0_1 b0_2 b0_3 b0_4 b0_5 b1_0 b1_1 b2_0 b2_1 b3_0 b3_1 b3_2
  try dsimp only
  have K:=hide (KS.out w3 (HBW.out _ HD3.out))
  obtain ⟨b0_0,b0_1,b0_2,b0_3,b0_4,b0_5,b1_0,b1_1,b2_0,b2_1,b3_0,b3_1,b3_2⟩:=HC.out w3 HD3.out
  cases hs:shortM l with
  | false =>
   rw [hs] at K
   have HS:=hide hs
   clear hs
   go_wp2_with fail
   refine K.out.mono ?_
   rintro e9 w4 ⟨rfl,hb⟩
   have HD4:=hide (bel_trans HD3.out hb)
   clear K hb HD3
   clear b0_0 b0_1 b0_2 b0_3 b0_4 b0_5 b1_0 b1_1 b2_0 b2_1 b3_0 b3_1 b3_2
   try dsimp only
   obtain ⟨b0_0,b0_1,b0_2,b0_3,b0_4,b0_5,b1_0,b1_1,b2_0,b2_1,b3_0,b3_1,b3_2⟩:=HC.out w4 HD4.out
   have HE:=hide (HBW.out _ HD4.out)
   go_wp2
   go_ret
   exact bel_bool rfl HE.out
  | true =>
   rw [hs] at K
   have HS:=hide hs
   clear hs
   go_wp2_with fail
   refine K.out.mono ?_
   rintro e9 w4 ⟨rfl,hb⟩
   have HD4:=hide (bel_trans HD3.out hb)
   clear K hb HD3
   clear b0_0 b0_1 b0_2 b0_3 b0_4 b0_5 b1_0 b1_1 b2_0 b2_1 b3_0 b3_1 b3_2
   try dsimp only
   have K:=hide (KB1.out HF.out w4 (HBW.out _ HD4.out))
   obtain ⟨b0_0,b0_1,b0_2,b0_3,b0_4,b0_5,b1_0,b1_1,b2_0,b2_1,b3_0,b3_1,b3_2⟩:=HC.out w4 HD4.out
   go_wp2_with fail
   refine K.out.mono ?_
   rintro e9 w5 ⟨p,erp,Ap,cp,lp,rfl,hm,hml,hr,hb⟩
   have HD5:=hide (bel_trans HD4.out hb)
   have HMp:=hide hm
   have HLp:=hide hml
   have HRp:=hide hr
   clear hm hml hr
   clear K HD4 hb
   clear b0_0 b0_1 b0_2 b0_3 b0_4 b0_5 b1_0 b1_1 b2_0 b2_1 b3_0 b3_1 b3_2
   try dsimp only
   have HD6:=hide (bel_trans HD5.out (alloc_bel w5 (.cells #[.int .i64 p.c,.bool p.s,.slice Ap lp.length cp] 31)))
   have h4:=run_new (Run.begin w5) emp_ok #[.int .i64 p.c,.bool p.s,.slice Ap lp.length cp] 31
   obtain ⟨c0,c1,c2⟩:=run_c3 h4
   have Pp:=hide (fun W (h:Below (w5.alloc (.cells #[.int .i64 p.c,.bool p.s,.slice Ap lp.length cp] 31)).heap.size (w5.alloc (.cells #[.int .i64 p.c,.bool p.s,.slice Ap lp.length cp] 31)) W)=>(show W.cell? ⟨w5.heap.size,0,none⟩=some (.int .i64 p.c)∧W.cell? ⟨w5.heap.size,1,none⟩=some (.bool p.s)∧W.cell? ⟨w5.heap.size,2,none⟩=some (.slice Ap lp.length cp) from ⟨below_cell c0 h,below_cell c1 h,below_cell c2 h⟩))
   clear h4 c0 c1 c2 HD5
   have HRp_6:=hide (HRp.out.below (alloc_bel w5 (.cells #[.int .i64 p.c,.bool p.s,.slice Ap lp.length cp] 31)))
   clear HRp
   go_upto_region 5 with (fail)
   generalize w5.alloc (.cells #[.int .i64 p.c,.bool p.s,.slice Ap lp.length cp] 31)=w6 at *
   generalize w5.heap.size=gPp at *
   have HEPp:=hide (Below.refl w6.heap.size w6)
   have hlaw:=law_cheapest (m':=⟨mc,sw,l.map (·.1)⟩) HMp.out
   by_cases h0:erp=0
   ·obtain ⟨hr,hlow⟩:=hlaw.2 h0
    subst h0
    have HRP:=hide hr
    have HLOW:=hide hlow
    clear hr hlow hlaw HMp
    obtain ⟨p0,p1,p2⟩:=Pp.out w6 HEPp.out
    have K:=hide (KP.out HF.out w6 (HBW.out _ HD6.out) p Ap cp lp HRP.out HLp.out HRp_6.out)
    obtain ⟨b0_0,b0_1,b0_2,b0_3,b0_4,b0_5,b1_0,b1_1,b2_0,b2_1,b3_0,b3_1,b3_2⟩:=HC.out w6 HD6.out
    go_wp2_with fail
    refine K.out.mono ?_
    rintro e9 w7 ⟨o1,rfl,hio,hb⟩
    have HD7:=hide (bel_trans HD6.out hb)
    have h1:o1=true:=hio.2 (by rw [HLp.out];exact HRP.out)
    subst h1
    have HRp_7:=hide (HRp_6.out.below hb)
    clear HRp_6
    have HEPp_7:=hide (bel_trans HEPp.out hb)
    clear HEPp
    clear K HD6 hb hio p0 p1 p2
    clear b0_0 b0_1 b0_2 b0_3 b0_4 b0_5 b1_0 b1_1 b2_0 b2_1 b3_0 b3_1 b3_2
    try dsimp only
    have K:=hide (KC.out HF.out HS.out w7 (HBW.out _ HD7.out))
    obtain ⟨b0_0,b0_1,b0_2,b0_3,b0_4,b0_5,b1_0,b1_1,b2_0,b2_1,b3_0,b3_1,b3_2⟩:=HC.out w7 HD7.out
    go_wp2_with fail
    refine K.out.mono ?_
    rintro e9 w8 ⟨o2,rfl,hio,hb⟩
    have HD8:=hide (bel_trans HD7.out hb)
    have HIO:=hide hio
    have HEPp_8:=hide (bel_trans HEPp_7.out hb)
    clear HEPp_7
    clear K HD7 hb hio
    clear b0_0 b0_1 b0_2 b0_3 b0_4 b0_5 b1_0 b1_1 b2_0 b2_1 b3_0 b3_1 b3_2
    try dsimp only
    obtain ⟨p0,p1,p2⟩:=Pp.out w8 HEPp_8.out
    cases o2 with
    | false =>
     obtain ⟨b0_0,b0_1,b0_2,b0_3,b0_4,b0_5,b1_0,b1_1,b2_0,b2_1,b3_0,b3_1,b3_2⟩:=HC.out w8 HD8.out
     have HE:=hide (HBW.out _ HD8.out)
     go_wp2
     go_ret
     exact bel_bool rfl HE.out
    | true =>
     have hle:=HLOW.out (HIO.out.1 rfl)
     try dsimp only at hle
     obtain ⟨b0_0,b0_1,b0_2,b0_3,b0_4,b0_5,b1_0,b1_1,b2_0,b2_1,b3_0,b3_1,b3_2⟩:=HC.out w8 HD8.out
     have HE:=hide (HBW.out _ HD8.out)
     go_wp2
     go_ret
     exact bel_bool rfl HE.out
   ·obtain ⟨h1,hnr⟩:=hlaw.1 h0
    subst h1
    have HNR:=hide hnr
    clear hnr hlaw h0 HMp
    have K:=hide (KC.out HF.out HS.out w6 (HBW.out _ HD6.out))
    obtain ⟨b0_0,b0_1,b0_2,b0_3,b0_4,b0_5,b1_0,b1_1,b2_0,b2_1,b3_0,b3_1,b3_2⟩:=HC.out w6 HD6.out
    go_wp2_with fail
    refine K.out.mono ?_
    rintro e9 w7 ⟨o2,rfl,hio,hb⟩
    have HD7:=hide (bel_trans HD6.out hb)
    have h1:o2=false:=by
     cases o2 with
     | false=>rfl
     | true=>exact absurd (hio.1 rfl) HNR.out
    subst h1
    have HRp_7:=hide (HRp_6.out.below hb)
    clear HRp_6
    have HEPp_7:=hide (bel_trans HEPp.out hb)
    clear HEPp
    clear K HD6 hb hio
    clear b0_0 b0_1 b0_2 b0_3 b0_4 b0_5 b1_0 b1_1 b2_0 b2_1 b3_0 b3_1 b3_2
    try dsimp only
    obtain ⟨b0_0,b0_1,b0_2,b0_3,b0_4,b0_5,b1_0,b1_1,b2_0,b2_1,b3_0,b3_1,b3_2⟩:=HC.out w7 HD7.out
    have HE:=hide (HBW.out _ HD7.out)
    go_wp2
    go_ret
    exact bel_bool rfl HE.out
end Go.Proofs.YtbnnlpjpnihheaaGreatDoor
