import Derived.Test.YtbnnlpjpnihheaaGreatDoorMA21
set_option linter.unusedSimpArgs false
set_option linter.unusedVariables false
namespace Go.Proofs.YtbnnlpjpnihheaaGreatDoor
open Go.RowKit Go.CH Go.CH.Scr Go.CH.Pot Go.CH.Mtc
open Go.ChangeMaps (setBlock)
theorem mat_bnd {T:Tab} {a b:NameM} {p:Mt} {e:Int} (h:MatP T a b p e) (h0:e=0):0≤p.c∧p.c≤12000∧0≤T.ord∧T.ord≤1000:=by
 cases h with
 | arg h1=>cases h0
 | some h1 =>
  obtain ⟨hv,ha,hb⟩:=okM_iff.1 h1
  have h2:=law_all (MatP.some h1)
  have h3:=any_bnd h1
  have h4:=best_c (T:=T) (a:=a) (b:=b)
  have h5:=costN_iff.1 (validT_iff.1 hv).1.2.2.2.1
  omega
set_option maxHeartbeats 12800000 in
set_option maxRecDepth 100000 in
theorem law_order_any {w:World} {T:Tab} {a:TA} (hT:TabZ w T a) (hz:LZ w) {x:NmZ} (hx:Vst w x.A x.n.ws) :
  Calls Tryz.prog 7 #[tabV T a,nzV x] w (BelowRet w (.bool true)):=by
 have h1:=run_new (Run.begin w) emp_ok #[.slice a.A T.rs.length a.c,.slice a.D T.ds.length a.d,.slice a.E T.es.length a.e,.int .i64 T.drop,.int .i64 T.ord,.int .i64 T.ini] 25
 have h2:=run_new h1 (star_ok cell_ok emp_ok) #[.int .i64 x.n.k,.slice x.A x.n.ws.length x.c] 28
 simp only [World.size_alloc] at h2
 have HB0:=hide h2.bel
 obtain ⟨b0_0,b0_1,b0_2,b0_3,b0_4,b0_5⟩:=run_cb h2.drop
 obtain ⟨b1_0,b1_1,-⟩:=run_c2 h2
 have HC:=hide (fun W (h:Below ((w.alloc (.cells #[.slice a.A T.rs.length a.c,.slice a.D T.ds.length a.d,.slice a.E T.es.length a.e,.int .i64 T.drop,.int .i64 T.ord,.int .i64 T.ini] 25)).alloc (.cells #[.int .i64 x.n.k,.slice x.A x.n.ws.length x.c] 28)).heap.size ((w.alloc (.cells #[.slice a.A T.rs.length a.c,.slice a.D T.ds.length a.d,.slice a.E T.es.length a.e,.int .i64 T.drop,.int .i64 T.ord,.int .i64 T.ini] 25)).alloc (.cells #[.int .i64 x.n.k,.slice x.A x.n.ws.length x.c] 28)) W)=>(show W.cell? ⟨w.heap.size,0,none⟩=some (.slice a.A T.rs.length a.c)∧W.cell? ⟨w.heap.size,1,none⟩=some (.slice a.D T.ds.length a.d)∧W.cell? ⟨w.heap.size,2,none⟩=some (.slice a.E T.es.length a.e)∧W.cell? ⟨w.heap.size,3,none⟩=some (.int .i64 T.drop)∧W.cell? ⟨w.heap.size,4,none⟩=some (.int .i64 T.ord)∧W.cell? ⟨w.heap.size,5,none⟩=some (.int .i64 T.ini)∧W.cell? ⟨w.heap.size+1,0,none⟩=some (.int .i64 x.n.k)∧W.cell? ⟨w.heap.size+1,1,none⟩=some (.slice x.A x.n.ws.length x.c) from ⟨below_cell b0_0 h,below_cell b0_1 h,below_cell b0_2 h,below_cell b0_3 h,below_cell b0_4 h,below_cell b0_5 h,below_cell b1_0 h,below_cell b1_1 h⟩))
 have HTZ:=hide hT
 have HZ:=hide hz
 have HVx:=hide hx
 clear hT hz hx  h1 h2 b0_0 b0_1 b0_2 b0_3 b0_4 b0_5 b1_0 b1_1
 have KF:=hide (fun W (hb:Below w.heap.size w W) (B:Option Addr) (c:Nat) (hl:NmsO W B [x])=>few_any (c:=c) (HTZ.out.below hb) hl (by simp))
 have KB1:=hide (fun (hf:fewM T [x]=true) W (hb:Below w.heap.size w W)=>(best14_any ((few_nm hf).1 (HTZ.out.below hb)) (HZ.out.below hb) (ca:=x.c) (cb:=x.c) (Vst.below HVx.out hb) (Vst.below HVx.out hb) (by have:=((few_nm hf).2 x (by simp)).1;omega) (by have:=((few_nm hf).2 x (by simp)).1;omega) (fun z hz=>by have:=((few_nm hf).2 x (by simp)).2 z hz;omega) (fun z hz=>by have:=((few_nm hf).2 x (by simp)).2 z hz;omega)).mono fun e w' h=>mat_ret_r h)
 have KB2:=hide (fun (hf:fewM T [x]=true) W (hb:Below w.heap.size w W) (A:Option Addr) (c:Nat) (hv:Vst W A x.n.ws.reverse)=>(best14_any (b:=⟨x.n.k,x.n.ws.reverse⟩) ((few_nm hf).1 (HTZ.out.below hb)) (HZ.out.below hb) (ca:=x.c) (cb:=c) (Vst.below HVx.out hb) hv (by have:=((few_nm hf).2 x (by simp)).1;omega) (by rw [List.length_reverse];have:=((few_nm hf).2 x (by simp)).1;omega) (fun z hz=>by have:=((few_nm hf).2 x (by simp)).2 z hz;omega) (fun z hz=>by have:=((few_nm hf).2 x (by simp)).2 z (List.mem_reverse.1 hz);omega)).mono fun e w' h=>mat_ret_r h)
 unfold nmV at KB2
 dsimp only at KB2
 simp only [List.length_reverse] at KB2
 have KH:=hide (fun W (hb:Below w.heap.size w W)=>head_any W (HZ.out.below hb))
 unfold tabV nzV at *
 try unfold nmV at *
 unfold tabC at *
 generalize T.rs.length=n1 at *
 generalize T.ds.length=n2 at *
 generalize T.es.length=n3 at *
 generalize hnx:x.n.ws.length=nx at *
 have HNx:=hide hnx
 clear hnx
 go_enter Tryz.func7,Tryz.ntmps7
 go_upto_region 1 with (fail)
 generalize (w.alloc (.cells #[.slice a.A n1 a.c,.slice a.D n2 a.d,.slice a.E n3 a.e,.int .i64 T.drop,.int .i64 T.ord,.int .i64 T.ini] 25)).alloc (.cells #[.int .i64 x.n.k,.slice x.A nx x.c] 28)=w0 at *
 generalize hgt:w.heap.size=gt at HC ⊢
 clear hgt
 have HBW:=hide (fun W (h:Below w0.heap.size w0 W)=>HB0.out.trans (h.mono HB0.out.size))
 have HD0:=hide (Below.refl w0.heap.size w0)
 have K:=hide (KH.out w0 (HBW.out _ HD0.out))
 go_wp2_with fail
 refine K.out.mono ?_
 rintro e9 w1 ⟨rfl,hb⟩
 have HD1:=hide (bel_trans HD0.out hb)
 clear K HD0 hb
 try dsimp only
 obtain ⟨b0_0,b0_1,b0_2,b0_3,b0_4,b0_5,b1_0,b1_1⟩:=HC.out w1 HD1.out
 have hl:=names_lit (W:=w1) (cs:=#[.int .i64 x.n.k,.slice x.A nx x.c]) [x] (by rw [←HNx.out];rfl) (fun z hz=>by
  simp only [List.mem_cons,List.not_mem_nil,or_false] at hz
  rcases hz with rfl
  ·exact Vst.below HVx.out (HBW.out _ HD1.out))
 have hb2:=bel_trans HD1.out (alloc_bel w1 (.cells #[.int .i64 x.n.k,.slice x.A nx x.c] 28))
 have K:=hide (KF.out _ (HBW.out _ hb2) _ 1 hl)
 have HD2:=hide hb2
 clear hl hb2 HD1
 cases hf:fewM T [x] with
 | false =>
  rw [hf] at K
  have HF:=hide hf
  clear hf
  go_wp2_with fail
  refine K.out.mono ?_
  rintro e9 w3 ⟨rfl,hb⟩
  have HD3:=hide (bel_trans HD2.out hb)
  clear K hb HD2
  clear b0_0 b0_1 b0_2 b0_3 b0_4 b0_5 b1_0 b1_1
  try dsimp only
  obtain ⟨b0_0,b0_1,b0_2,b0_3,b0_4,b0_5,b1_0,b1_1⟩:=HC.out w3 HD3.out
  have HE:=hide (HBW.out _ HD3.out)
  go_wp2
  go_ret
  exact bel_bool rfl HE.out
 | true =>
  rw [hf] at K
  have HF:=hide hf
  clear hf
  go_wp2_with fail
  refine K.out.mono ?_
  rintro e9 w3 ⟨rfl,hb⟩
  have HD3:=hide (bel_trans HD2.out hb)
  clear K hb HD2
  clear b0_0 b0_1 b0_2 b0_3 b0_4 b0_5 b1_0 b1_1
  try dsimp only
  have hnx:nx≤3:=by have:=((few_nm HF.out).2 x (by simp)).1;rw [←HNx.out];exact this
  have hord:0≤T.ord∧T.ord≤1000000∨True:=.inr trivial
  have h6:=run_new (Run.begin w3) emp_ok #[.int .i64 x.n.k,.slice none 0 0] 28
  have h7:=(h6.fresh (star_ok cell_ok emp_ok) (⟨fun _=>False,row_nil _ 9 1,Mod.refl _ _,fun i hi=>.inl hi⟩:Post _ (fun _=>False) (RowO 9 1 (.slice none 0 0) 0 []) _)).perm (by ac_rfl:_=star (CellO w3.heap.size #[.int .i64 x.n.k,.slice none 0 0] 28) (star (RowO 9 1 (.slice none 0 0) 0 []) emp))
  have H7:=hide h7
  clear h6 h7
  obtain ⟨b0_0,b0_1,b0_2,b0_3,b0_4,b0_5,b1_0,b1_1⟩:=HC.out w3 HD3.out
  go_upto_region 5 with (fail)
  generalize w3.alloc (.cells #[.int .i64 x.n.k,.slice none 0 0] 28)=v7 at *
  generalize w3.heap.size=g6 at *
  clear b0_0 b0_1 b0_2 b0_3 b0_4 b0_5 b1_0 b1_1
  have HDV:=hide (fun V (h:Below w3.heap.size w3 V)=>bel_trans HD3.out h)
  have CC:=HC.out v7 (HDV.out _ H7.out.bel)
  obtain ⟨b0_0,b0_1,b0_2,b0_3,b0_4,b0_5,b1_0,b1_1⟩:=CC
  go_wp2_with fail
  clear b0_0 b0_1 b0_2 b0_3 b0_4 b0_5 b1_0 b1_1
  go_loopw [7] (fun kk wr=>∃ (j:Nat) (t:Int) (A:Option Addr) (c:Nat),kk=.int .i64 t∧t+j+1=nx∧j≤nx∧Run (fun _=>False) w3 (star (CellO g6 #[.int .i64 x.n.k,.slice A j c] 28) (star (RowO 9 1 (.slice A j c) j (strB (x.n.ws.reverse.take j))) emp)) wr) (fun kk _=>(intOf kk+1).toNat)
  case atStart=>exact ⟨0,(nx:Int) - 1,none,0,rfl,by omega,Nat.zero_le _,H7.out⟩
  case round =>
   obtain ⟨j,t,A,c,rfl,ht,hj,hR⟩:=hrel
   have HR:=hide hR
   clear hR H7
   by_cases h0:0≤t
   ·obtain ⟨m,rfl⟩:=Int.eq_ofNat_of_zero_le h0
    have hmx:m < x.n.ws.length:=by rw [HNx.out];omega
    have hrev:x.n.ws.reverse.take (j+1)=x.n.ws.reverse.take j ++ [x.n.ws[m]]:=by
     have hjl:j < x.n.ws.reverse.length:=by rw [List.length_reverse,HNx.out];omega
     rw [List.take_succ_eq_append_getElem hjl,List.getElem_reverse]
     congr 2
     have:=HNx.out
     congr 1
     omega
    have HREV:=hide hrev
    obtain ⟨b,o,hA,hc⟩:=Vst.at HVx.out (by omega)
    have hcm:=hc wr.drew (HBW.out _ (HDV.out _ HR.out.bel.drew)) m hmx
    clear hc hrev h0
    have CC:=HC.out wr.drew (HDV.out _ HR.out.bel.drew)
    obtain ⟨b0_0,b0_1,b0_2,b0_3,b0_4,b0_5,b1_0,b1_1⟩:=CC
    rw [hA] at b1_1
    have hxA:x.A=some ⟨b,o,none⟩:=hA
    clear hA
    generalize x.n.ws[m]=s at *
    clear hmx
    obtain ⟨c0,c1,cf⟩:=run_c2 HR.out
    have okT:=hide (star_ok cell_ok (star_ok row_ok emp_ok):((star (CellO g6 #[.int .i64 x.n.k,.slice A j c] 28) (star (RowO 9 1 (.slice A j c) j (strB (x.n.ws.reverse.take j))) emp))).Ok)
    have H8:=hide (HR.out.drew okT.out)
    clear HR
    have hmn:(m:Int) < (nx:Int):=by omega
    go_upto_region 8 with (fail)
    refine wp_region_lew [7,8,10] [1,1,0,0,0,0,0,1,2,2,3] (fun w'=>w'.cell? ⟨g6,1,none⟩=some (.slice A j c)∧w'.cell? ⟨gt+1,1,none⟩=some (.slice (some ⟨b,o,none⟩) nx x.c)∧w'.cell? ⟨b,o+m,none⟩=some (.string (bs s))) (fun w'=>w'.cell? ⟨g6,1,none⟩=some (.slice A j c)) (fun _=>True) (fun _=>True) (fun _ h=>h.1) (fun _ _=>trivial) (fun _ h=>h) (by kernel_rfl) (by kernel_rfl) (by kernel_rfl) (by kernel_rfl) (by exact ⟨c1,b1_1,hcm⟩) ?_
    clear c0 b0_0 b0_1 b0_2 b0_3 b0_4 b0_5 b1_0 b1_1 hcm
    (repeat ((first | refine lew_skip (by rfl) (by rfl) ?_ | ((first | refine lew_read0 (v:=?_) (by rfl) (by rfl) ?_ ?_ | refine lew_read1 (v:=?_) (by rfl) (by rfl) ?_ ?_ | refine lew_read2 (v:=?_) (by rfl) (by rfl) ?_ ?_ | refine lew_read3 (v:=?_) (by rfl) (by rfl) ?_ ?_ | refine lew_read4 (v:=?_) (by rfl) (by rfl) ?_ ?_);rotate_left;(focus (intro w' hS';go_simp;(try with_reducible rfl);done))));try simp only [Act.put,List.setIfInBounds_toArray,List.set_cons_zero,List.set_cons_succ]))
    refine lew_chain1 rfl (by rfl) (fun K hK=>?_)
    go_wp2_with fail
    have h8:=run_new H8.out okT.out #[.string (bs s)] 9
    have H9:=hide (h8.perm (by ac_rfl:_=star (RowO 9 1 (.slice A j c) j (strB (x.n.ws.reverse.take j))) (star (CellO g6 #[.int .i64 x.n.k,.slice A j c] 28) (star (CellO wr.drew.heap.size #[.string (bs s)] 9) emp))))
    have okU:=hide (star_ok cell_ok (star_ok cell_ok emp_ok):(star (CellO g6 #[.int .i64 x.n.k,.slice A j c] 28) (star (CellO wr.drew.heap.size #[.string (bs s)] 9) emp)).Ok)
    obtain ⟨F1,hF1⟩:=H9.out.drop.fst
    have t1':=cell_at (i:=1) hF1 rfl
    obtain ⟨F12,hF12⟩:=H9.out.drop.drop.fst
    have hcx:∀ (k:Nat) u,([.string (bs s)]:List Value)[k]?=some u→_=some u:=fun k u hu=>cell_at hF12 (by simpa using hu)
    refine hK.out _ _ t1' ?_
    clear hK h8 H8 hF1 F1 t1' c1
    (repeat ((first | refine lew_skip (by rfl) (by rfl) ?_ | ((first | refine lew_read0 (v:=?_) (by rfl) (by rfl) ?_ ?_ | refine lew_read1 (v:=?_) (by rfl) (by rfl) ?_ ?_ | refine lew_read2 (v:=?_) (by rfl) (by rfl) ?_ ?_ | refine lew_read3 (v:=?_) (by rfl) (by rfl) ?_ ?_ | refine lew_read4 (v:=?_) (by rfl) (by rfl) ?_ ?_);rotate_left;(focus (intro w' hS';go_simp;(try with_reducible rfl);done))));try simp only [Act.put,List.setIfInBounds_toArray,List.set_cons_zero,List.set_cons_succ]))
    refine lew_chain2 rfl (by rfl) (fun K hK=>?_)
    refine wp_app1 strsOk (by decide) (.tmp 31) (.tmp 37) rfl (A:=A) (c:=c) (n:=j) (xs:=strB (x.n.ws.reverse.take j)) (cs:=[.string (bs s)]) rfl rfl (by omega) okU.out H9.out rfl (fun u hu=>by rw [List.mem_singleton] at hu;rw [hu];rfl) hcx ?_
    intro A9 c9 w6 hr6
    have h9:=hr6.perm (by ac_rfl:_=star (CellO g6 #[.int .i64 x.n.k,.slice A j c] 28) (star (RowO 9 1 (.slice A9 (j+1) c9) (j+1) (strB (x.n.ws.reverse.take j) ++ [.string (bs s)])) (star (CellO wr.drew.heap.size #[.string (bs s)] 9) emp)))
    obtain ⟨F1,hF1⟩:=h9.fst
    have t1':=cell_at (i:=1) hF1 rfl
    have tf:=cell_free hF1
    have h10:Run (fun _=>False) w3 (star (CellO g6 #[.int .i64 x.n.k,.slice A9 (j+1) c9] 28) _) _:=run_setc h9 (star_ok row_ok (star_ok cell_ok emp_ok)) 1 (.slice A9 (j+1) c9)
    have HE:=hide ((h10.perm (by ac_rfl:_=star (CellO wr.drew.heap.size #[.string (bs s)] 9) (star (CellO g6 #[.int .i64 x.n.k,.slice A9 (j+1) c9] 28) (star (RowO 9 1 (.slice A9 (j+1) c9) (j+1) (strB (x.n.ws.reverse.take j) ++ [.string (bs s)])) emp)))).drop)
    refine hK.out _ _ trivial ?_
    clear hK hr6 h9 h10 hF1 F1 hcx hF12 F12 H9
    (repeat ((first | refine lew_skip (by rfl) (by rfl) ?_ | ((first | refine lew_read0 (v:=?_) (by rfl) (by rfl) ?_ ?_ | refine lew_read1 (v:=?_) (by rfl) (by rfl) ?_ ?_ | refine lew_read2 (v:=?_) (by rfl) (by rfl) ?_ ?_ | refine lew_read3 (v:=?_) (by rfl) (by rfl) ?_ ?_ | refine lew_read4 (v:=?_) (by rfl) (by rfl) ?_ ?_);rotate_left;(focus (intro w' hS';go_simp;(try with_reducible rfl);done))));try simp only [Act.put,List.setIfInBounds_toArray,List.set_cons_zero,List.set_cons_succ]))
    refine lew_chain3 rfl (by rfl) (fun K hK=>?_)
    go_wp2_with fail
    refine hK.out _ _ trivial (lew_nil ?_)
    clear hK t1' tf hmn
    go_wp2_with fail
    go_roundw
    case rel=>exact ⟨j+1,(m:Int) - 1,A9,c9,by go_num,by omega,by omega,by
     rw [HREV.out]
     unfold strB at HE ⊢
     rw [List.map_append]
     exact HE.out⟩
    case measure=>(simp [intOf] <;> omega)
   ·have hjn:j=nx:=by omega
    obtain rfl:nx=j:=hjn.symm
    have hta:x.n.ws.reverse.take nx=x.n.ws.reverse:=List.take_of_length_le (by rw [List.length_reverse,HNx.out];exact Nat.le_refl _)
    rw [hta] at HR
    have HDR:=hide (show ∀ V,Below wr.heap.size wr V→Vst V A x.n.ws.reverse from fun V hb=>by
     obtain ⟨F,hF⟩:=HR.out.drop.fst
     have h1:=row_src hF (fun u hu=>by unfold strB at hu;obtain ⟨z,-,rfl⟩:=List.mem_map.1 hu;rfl)
     have h2:Vst wr A x.n.ws.reverse:=by unfold Vst;rw [List.length_reverse,HNx.out];exact h1
     exact h2.below hb)
    obtain ⟨g0,g1,-⟩:=run_c2 HR.out
    have HG6:=hide (fun V (h:Below wr.heap.size wr V)=>(show V.cell? ⟨g6,0,none⟩=some (.int .i64 x.n.k)∧V.cell? ⟨g6,1,none⟩=some (.slice A nx c) from ⟨below_cell g0 h,below_cell g1 h⟩))
    have HD9:=hide (HDV.out _ HR.out.bel)
    have HE9:=hide (Below.refl wr.heap.size wr)
    clear hta HR g0 g1 hjn ht hj
    have CC:=HC.out wr HD9.out
    obtain ⟨b0_0,b0_1,b0_2,b0_3,b0_4,b0_5,b1_0,b1_1⟩:=CC
    have htn:¬ (0:Int)≤t:=h0
    go_upto_region 9 with (fail)
    clear b0_0 b0_1 b0_2 b0_3 b0_4 b0_5 b1_0 b1_1
    have K:=hide (KB1.out HF.out wr (HBW.out _ HD9.out))
    obtain ⟨b0_0,b0_1,b0_2,b0_3,b0_4,b0_5,b1_0,b1_1⟩:=HC.out wr HD9.out
    go_wp2_with fail
    refine K.out.mono ?_
    rintro e9 w10 ⟨p,erp,Ap,cp,lp,rfl,hm,hml,hr,hb⟩
    have HD10:=hide (bel_trans HD9.out hb)
    have HMp:=hide hm
    have HLp:=hide hml
    have HRp:=hide hr
    clear hm hml hr
    have HE9_10:=hide (bel_trans HE9.out hb)
    clear HE9
    clear K HD9 hb
    clear b0_0 b0_1 b0_2 b0_3 b0_4 b0_5 b1_0 b1_1
    try dsimp only
    have HD11:=hide (bel_trans HD10.out (alloc_bel w10 (.cells #[.int .i64 p.c,.bool p.s,.slice Ap lp.length cp] 31)))
    have h4:=run_new (Run.begin w10) emp_ok #[.int .i64 p.c,.bool p.s,.slice Ap lp.length cp] 31
    obtain ⟨c0,c1,c2⟩:=run_c3 h4
    have Pp:=hide (fun W (h:Below (w10.alloc (.cells #[.int .i64 p.c,.bool p.s,.slice Ap lp.length cp] 31)).heap.size (w10.alloc (.cells #[.int .i64 p.c,.bool p.s,.slice Ap lp.length cp] 31)) W)=>(show W.cell? ⟨w10.heap.size,0,none⟩=some (.int .i64 p.c)∧W.cell? ⟨w10.heap.size,1,none⟩=some (.bool p.s)∧W.cell? ⟨w10.heap.size,2,none⟩=some (.slice Ap lp.length cp) from ⟨below_cell c0 h,below_cell c1 h,below_cell c2 h⟩))
    clear h4 c0 c1 c2 HD10
    have HE9_11:=hide (bel_trans HE9_10.out (alloc_bel w10 (.cells #[.int .i64 p.c,.bool p.s,.slice Ap lp.length cp] 31)))
    clear HE9_10
    have HRp_11:=hide (HRp.out.below (alloc_bel w10 (.cells #[.int .i64 p.c,.bool p.s,.slice Ap lp.length cp] 31)))
    clear HRp
    go_upto_region 10 with (fail)
    generalize w10.alloc (.cells #[.int .i64 p.c,.bool p.s,.slice Ap lp.length cp] 31)=w11 at *
    generalize w10.heap.size=gPp at *
    have HEPp:=hide (Below.refl w11.heap.size w11)
    obtain ⟨g0,g1⟩:=HG6.out w11 HE9_11.out
    have K:=hide (KB2.out HF.out w11 (HBW.out _ HD11.out) A c (HDR.out w11 HE9_11.out))
    obtain ⟨b0_0,b0_1,b0_2,b0_3,b0_4,b0_5,b1_0,b1_1⟩:=HC.out w11 HD11.out
    go_wp2_with fail
    refine K.out.mono ?_
    rintro e9 w12 ⟨q,erq,Aq,cq,lq,rfl,hm,hml,hr,hb⟩
    have HD12:=hide (bel_trans HD11.out hb)
    have HMq:=hide hm
    clear hm hml hr g0 g1
    have HE9_12:=hide (bel_trans HE9_11.out hb)
    clear HE9_11
    have HRp_12:=hide (HRp_11.out.below hb)
    clear HRp_11
    have HEPp_12:=hide (bel_trans HEPp.out hb)
    clear HEPp
    clear K HD11 hb
    clear b0_0 b0_1 b0_2 b0_3 b0_4 b0_5 b1_0 b1_1
    try dsimp only
    have HD13:=hide (bel_trans HD12.out (alloc_bel w12 (.cells #[.int .i64 q.c,.bool q.s,.slice Aq lq.length cq] 31)))
    have h4:=run_new (Run.begin w12) emp_ok #[.int .i64 q.c,.bool q.s,.slice Aq lq.length cq] 31
    obtain ⟨c0,c1,c2⟩:=run_c3 h4
    have Pq:=hide (fun W (h:Below (w12.alloc (.cells #[.int .i64 q.c,.bool q.s,.slice Aq lq.length cq] 31)).heap.size (w12.alloc (.cells #[.int .i64 q.c,.bool q.s,.slice Aq lq.length cq] 31)) W)=>(show W.cell? ⟨w12.heap.size,0,none⟩=some (.int .i64 q.c)∧W.cell? ⟨w12.heap.size,1,none⟩=some (.bool q.s)∧W.cell? ⟨w12.heap.size,2,none⟩=some (.slice Aq lq.length cq) from ⟨below_cell c0 h,below_cell c1 h,below_cell c2 h⟩))
    clear h4 c0 c1 c2 HD12
    have HE9_13:=hide (bel_trans HE9_12.out (alloc_bel w12 (.cells #[.int .i64 q.c,.bool q.s,.slice Aq lq.length cq] 31)))
    clear HE9_12
    have HRp_13:=hide (HRp_12.out.below (alloc_bel w12 (.cells #[.int .i64 q.c,.bool q.s,.slice Aq lq.length cq] 31)))
    clear HRp_12
    have HEPp_13:=hide (bel_trans HEPp_12.out (alloc_bel w12 (.cells #[.int .i64 q.c,.bool q.s,.slice Aq lq.length cq] 31)))
    clear HEPp_12
    go_upto_region 11 with (fail)
    generalize w12.alloc (.cells #[.int .i64 q.c,.bool q.s,.slice Aq lq.length cq] 31)=w13 at *
    generalize w12.heap.size=gPq at *
    have HEPq:=hide (Below.refl w13.heap.size w13)
    obtain ⟨p0,p1,p2⟩:=Pp.out w13 HEPp_13.out
    obtain ⟨q0,q1,q2⟩:=Pq.out w13 HEPq.out
    obtain ⟨h1,h2⟩:=law_order HMp.out HMq.out
    have hpb:=mat_bnd HMp.out
    subst h1
    by_cases he:erp=0
    ·have h3:=h2 he
     subst he
     obtain ⟨k1,k2,k3,k4⟩:=hpb rfl
     clear h2 HMp HMq hpb
     obtain ⟨b0_0,b0_1,b0_2,b0_3,b0_4,b0_5,b1_0,b1_1⟩:=HC.out w13 HD13.out
     have HE:=hide (HBW.out _ HD13.out)
     go_wp2
     go_ret
     exact bel_bool rfl HE.out
    ·have te:(erp == 0)=false:=by simpa using he
     have tn:(erp != 0)=true:=by simpa using he
     clear h2 HMp HMq hpb he
     obtain ⟨b0_0,b0_1,b0_2,b0_3,b0_4,b0_5,b1_0,b1_1⟩:=HC.out w13 HD13.out
     have HE:=hide (HBW.out _ HD13.out)
     go_wp2
     go_ret
     exact bel_bool rfl HE.out
end Go.Proofs.YtbnnlpjpnihheaaGreatDoor
