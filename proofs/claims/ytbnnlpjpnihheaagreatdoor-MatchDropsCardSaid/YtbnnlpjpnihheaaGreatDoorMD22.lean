import Derived.Test.YtbnnlpjpnihheaaGreatDoorMD21
import Derived.Test.YtbnnlpjpnihheaaGreatDoorMD3
set_option linter.unusedSimpArgs false
set_option linter.unusedVariables false
namespace Go.Proofs.YtbnnlpjpnihheaaGreatDoor
open Go.RowKit Go.CH Go.CH.Scr Go.CH.Pot Go.CH.Mtc
open Go.ChangeMaps (setBlock)

section
variable {α:Type} (a b:α) (l:List α) (n:Nat)
theorem sg0 (h:n < l.toArray.size):l.toArray[n]'h=l[n]'(by simpa using h):=List.getElem_toArray h
theorem sg1 (h:n+1 < (a :: l).length):(a :: l)[n+1]'h=l[n]'(by simpa using h):=List.getElem_cons_succ ..
theorem sg2 (h:0 < (a :: l).length):(a :: l)[0]'h=a:=List.getElem_cons_zero ..
theorem sg3:l.toArray.setIfInBounds n a=(l.set n a).toArray:=List.setIfInBounds_toArray ..
theorem sg4:(a :: l).set 0 b=b :: l:=List.set_cons_zero ..
theorem sg5:(a :: l).set (n+1) b=a :: l.set n b:=List.set_cons_succ ..
end
theorem src_cell {W:World} {g:Nat} {v:Value} {t:TypeId} {F:Nat→Prop} (h:CellO g #[v] t W F) (h1:v.oneCell'=true):Src W (some ⟨g,0,none⟩) 1 1 [v]:=by
 refine ⟨rfl,fun u hu=>by rw [List.mem_singleton] at hu;rw [hu];exact h1,fun _=>⟨_,rfl,fun j u hu=>?_⟩⟩
 have e:(⟨g,0,none⟩:Addr).add j=⟨g,j,none⟩:=by unfold Addr.add;split <;> simp_all
 rw [e]
 exact cell_at h (by simpa using hu)

theorem app_row {F0:Nat→Prop} {w0 W:World} {Y:CH.Own} {o:Oper} {a:Act} {K:Act→World→Prop} {Q:Exit→Act→World→Prop} {t e:TypeId} {z:Value} {size bytes:Nat} (S:SliceOk Tryz.prog t e z size bytes) (s x:Operand)
  (ho:o.op=.call { callee:=.builtin .append,args:=#[s,x],argTypes:=#[t,t] }) {A B:Option Addr} {c n m d:Nat} {xs news:List Value} (hsv:a.eval s=.slice A n c) (hx:a.eval x=.slice B m d) (hs:Src W B m size news) (h63:n+m≤maxLen) (hb:(n+m)*bytes≤140737488355328) (hY:Y.Ok)
  (h:Run F0 w0 (star (RowO e size (.slice A n c) n xs) Y) W)
  (hK:∀ A' c' w',Run F0 w0 (star (RowO e size (.slice A' (n+m) c') (n+m) (xs ++ news)) Y) w'→K (a.put o.dst (.slice A' (n+m) c')) w'):o.wp Tryz.prog a W K Q:=by
 obtain ⟨F7,hR7,-,bk7⟩:=h.take row_ok hY
 refine wp_appX s x ho S _ 0 (v:=.slice A n c) (n:=n) (xs:=xs) hsv hR7.1 (A:=B) (m:=m) (c:=d) (news:=news) hx hs h63 hb (Nat.zero_le _) ?_
 intro v8 w8 ho8 hg8 hv8
 have S8:=bk7 _ _ (row_app hR7 ho8 hg8 hv8)
 obtain ⟨A8,c8,rfl⟩:=own_form ho8
 exact hK A8 c8 w8 S8

theorem star_left {A B C:CH.Own}:star A (star B C)=star B (star A C):=by ac_rfl

theorem tail_to {P:Program} {ops:Array Oper} {Q:Exit→Act→World→Prop} {S:World→Prop} {fuel fuel2:Nat} {ls ls2:Array Bool} {a:Act} {w:World} (I:Act→World→Act→Prop)
  (h2:∀ W' a',I a W' a'→wpAnyH P .any ops Q S fuel2 ls2 a' W') (h1:(∀ W' a',I a W' a'→wpAnyH P .any ops Q S fuel2 ls2 a' W')→wpAnyH P .any ops Q S fuel ls a w):wpAnyH P .any ops Q S fuel ls a w:=h1 h2
theorem mat_ok {T:Tab} {a b:NameM} {p:Mt} {e:Int} (h:MatP T a b p e) (h0:e=0):okM T a b=true:=by
 cases h with
 | arg h1=>cases h0
 | some h1=>exact h1
theorem wd_at {a:NameM} {j:Nat} (h:j < a.ws.length):a.ws[j]=wd a j:=by
 unfold wd
 rw [List.getD_eq_getElem?_getD,List.getElem?_eq_getElem h];rfl
theorem drop_word {T:Tab} {a:NameM} (hv:validT T=true) (ha:validN a=true) {j:Nat} (h:j < a.ws.length):dropV T a.k a.ws[j]=(dM T a j,0):=by
 have h1:=(validN_iff.1 ha).1 _ (List.getElem_mem h)
 unfold dropV dM
 rw [h1,hv,←wd_at h];rfl

set_option maxHeartbeats 12800000 in
set_option maxRecDepth 100000 in
theorem law_drops_any {w:World} {T:Tab} {a:TA} (hT:TabZ w T a) (hz:LZ w) {x:NmZ} (hx:Vst w x.A x.n.ws) {y:NmZ} (hy:Vst w y.A y.n.ws) (s:Bs) (hrx:x.n.ws.length*16≤140737488351232) :
  Calls Tryz.prog 8 #[tabV T a,nzV x,nzV y,.string (bs s)] w (BelowRet w (.bool true)):=by
 have h1:=run_new (Run.begin w) emp_ok #[.slice a.A T.rs.length a.c,.slice a.D T.ds.length a.d,.slice a.E T.es.length a.e,.int .i64 T.drop,.int .i64 T.ord,.int .i64 T.ini] 25
 have h2:=run_new h1 (star_ok cell_ok emp_ok) #[.int .i64 x.n.k,.slice x.A x.n.ws.length x.c] 28
 have h3:=run_new h2 (star_ok cell_ok (star_ok cell_ok emp_ok)) #[.int .i64 y.n.k,.slice y.A y.n.ws.length y.c] 28
 simp only [World.size_alloc] at h3
 have HB0:=hide h3.bel
 obtain ⟨b0_0,b0_1,b0_2,b0_3,b0_4,b0_5⟩:=run_cb h3.drop.drop
 obtain ⟨b1_0,b1_1,-⟩:=run_c2 h3.drop
 obtain ⟨b2_0,b2_1,-⟩:=run_c2 h3
 have HC:=hide (fun W (h:Below (((w.alloc (.cells #[.slice a.A T.rs.length a.c,.slice a.D T.ds.length a.d,.slice a.E T.es.length a.e,.int .i64 T.drop,.int .i64 T.ord,.int .i64 T.ini] 25)).alloc (.cells #[.int .i64 x.n.k,.slice x.A x.n.ws.length x.c] 28)).alloc (.cells #[.int .i64 y.n.k,.slice y.A y.n.ws.length y.c] 28)).heap.size (((w.alloc (.cells #[.slice a.A T.rs.length a.c,.slice a.D T.ds.length a.d,.slice a.E T.es.length a.e,.int .i64 T.drop,.int .i64 T.ord,.int .i64 T.ini] 25)).alloc (.cells #[.int .i64 x.n.k,.slice x.A x.n.ws.length x.c] 28)).alloc (.cells #[.int .i64 y.n.k,.slice y.A y.n.ws.length y.c] 28)) W)=>(show W.cell? ⟨w.heap.size,0,none⟩=some (.slice a.A T.rs.length a.c)∧W.cell? ⟨w.heap.size,1,none⟩=some (.slice a.D T.ds.length a.d)∧W.cell? ⟨w.heap.size,2,none⟩=some (.slice a.E T.es.length a.e)∧W.cell? ⟨w.heap.size,3,none⟩=some (.int .i64 T.drop)∧W.cell? ⟨w.heap.size,4,none⟩=some (.int .i64 T.ord)∧W.cell? ⟨w.heap.size,5,none⟩=some (.int .i64 T.ini)∧W.cell? ⟨w.heap.size+1,0,none⟩=some (.int .i64 x.n.k)∧W.cell? ⟨w.heap.size+1,1,none⟩=some (.slice x.A x.n.ws.length x.c)∧W.cell? ⟨w.heap.size+1+1,0,none⟩=some (.int .i64 y.n.k)∧W.cell? ⟨w.heap.size+1+1,1,none⟩=some (.slice y.A y.n.ws.length y.c) from ⟨below_cell b0_0 h,below_cell b0_1 h,below_cell b0_2 h,below_cell b0_3 h,below_cell b0_4 h,below_cell b0_5 h,below_cell b1_0 h,below_cell b1_1 h,below_cell b2_0 h,below_cell b2_1 h⟩))
 have HTZ:=hide hT
 have HZ:=hide hz
 have HVx:=hide hx
 have HVy:=hide hy
 clear hT hz hx hy  h1 h2 h3 b0_0 b0_1 b0_2 b0_3 b0_4 b0_5 b1_0 b1_1 b2_0 b2_1
 have HRX:=hide hrx
 clear hrx
 have KF:=hide (fun W (hb:Below w.heap.size w W) (B:Option Addr) (c:Nat) (mz:NmZ) (hl:NmsO W B [mz,y])=>few_any (c:=c) (HTZ.out.below hb) hl (by simp))
 have KB1:=hide (fun (mz:NmZ) (hmz:mz.n=⟨x.n.k,x.n.ws ++ [s]⟩) (hf:fewM T [mz,y]=true) W (hb:Below w.heap.size w W)=>(best14_any ((few_nm hf).1 (HTZ.out.below hb)) (HZ.out.below hb) (ca:=x.c) (cb:=y.c) (Vst.below HVx.out hb) (Vst.below HVy.out hb) (by have:=((few_nm hf).2 mz (by simp)).1;rw [hmz,List.length_append] at this;simp at this;omega) (by have:=((few_nm hf).2 y (by simp)).1;omega) (fun z hz=>by have:=((few_nm hf).2 mz (by simp)).2 z (by rw [hmz];exact List.mem_append_left _ hz);omega) (fun z hz=>by have:=((few_nm hf).2 y (by simp)).2 z hz;omega)).mono fun e w' h=>mat_ret_r h)
 have KB2:=hide (fun (mz:NmZ) (hf:fewM T [mz,y]=true) W (hb:Below w.heap.size w W) (hv:Vst W mz.A mz.n.ws)=>(best14_any ((few_nm hf).1 (HTZ.out.below hb)) (HZ.out.below hb) (ca:=mz.c) (cb:=y.c) hv (Vst.below HVy.out hb) (by have:=((few_nm hf).2 mz (by simp)).1;omega) (by have:=((few_nm hf).2 y (by simp)).1;omega) (fun z hz=>by have:=((few_nm hf).2 mz (by simp)).2 z hz;omega) (fun z hz=>by have:=((few_nm hf).2 y (by simp)).2 z hz;omega)).mono fun e w' h=>mat_ret_r h)
 have KD:=hide (fun (mz:NmZ) (hf:fewM T [mz,y]=true) W (hb:Below w.heap.size w W) (k:Int) (z:Bs) (hz:z.length≤1000000)=>dropping_any ((few_nm hf).1 (HTZ.out.below hb)) (HZ.out.below hb) k z hz)
 have KH:=hide (fun W (hb:Below w.heap.size w W)=>head_any W (HZ.out.below hb))
 unfold tabV nzV at *
 try unfold nmV at *
 unfold tabC at *
 generalize T.rs.length=n1 at *
 generalize T.ds.length=n2 at *
 generalize T.es.length=n3 at *
 generalize hnx:x.n.ws.length=nx at *
 have HNx:=hide hnx
 clear hnx
 generalize hny:y.n.ws.length=ny at *
 have HNy:=hide hny
 clear hny
 go_enter Tryz.func8,Tryz.ntmps8
 go_upto_region 1 with (fail)
 generalize ((w.alloc (.cells #[.slice a.A n1 a.c,.slice a.D n2 a.d,.slice a.E n3 a.e,.int .i64 T.drop,.int .i64 T.ord,.int .i64 T.ini] 25)).alloc (.cells #[.int .i64 x.n.k,.slice x.A nx x.c] 28)).alloc (.cells #[.int .i64 y.n.k,.slice y.A ny y.c] 28)=w0 at *
 generalize hgt:w.heap.size=gt at HC ⊢
 clear hgt
 have HBW:=hide (fun W (h:Below w0.heap.size w0 W)=>HB0.out.trans (h.mono HB0.out.size))
 have HD0:=hide (Below.refl w0.heap.size w0)
 have K:=hide (KH.out w0 (HBW.out _ HD0.out))
 go_wp2_with fail
 refine K.out.mono ?_
 rintro e9 w1 ⟨rfl,hb⟩
 have HD1:=hide (bel_trans HD0.out hb)
 clear K HD0 hb
 try dsimp only
 obtain ⟨b0_0,b0_1,b0_2,b0_3,b0_4,b0_5,b1_0,b1_1,b2_0,b2_1⟩:=HC.out w1 HD1.out
 go_upto_region 2 with (fail)
 have HSS:=hide (fun V (h:Below w0.heap.size w0 V)=>(show V.cell? ⟨gt+1,0,none⟩=some (.int .i64 x.n.k)∧V.cell? ⟨gt+1,1,none⟩=some (.slice x.A nx x.c) from by
  obtain ⟨b0_0,b0_1,b0_2,b0_3,b0_4,b0_5,b1_0,b1_1,b2_0,b2_1⟩:=HC.out V h
  exact ⟨b1_0,b1_1⟩))
 clear b0_0 b0_1 b0_2 b0_3 b0_4 b0_5 b1_0 b1_1 b2_0 b2_1
 have hSN:=HSS.out w1.drew (below_drew HD1.out)
 refine wp_region_held (S:=fun w'=>w'.cell? ⟨gt+1,0,none⟩=some (.int .i64 x.n.k)∧w'.cell? ⟨gt+1,1,none⟩=some (.slice x.A nx x.c)) (by kernel_rfl) (show wpAnyH _ _ _ _ _ _ _ _ w1.drew from ?_)
 refine wpAnyH_take (i:=0) (v:=.pointer (some ⟨gt+1,0,none⟩)) rfl (by kernel_rfl) (by kernel_rfl) (by kernel_rfl) (fun _ _ _ h=>h) (.inl ⟨rfl,fun w' hS'=>?_⟩) hSN ?_
 ·obtain ⟨s0,s1⟩:=hS'
  go_simp
 try simp only [Act.put,sg0,sg1,sg2,sg3,sg4,sg5]
 refine wpAnyH_take (i:=1) (v:=.int .i64 x.n.k) rfl (by kernel_rfl) (by kernel_rfl) (by kernel_rfl) (fun _ _ _ h=>h) (.inl ⟨rfl,fun w' hS'=>?_⟩) hSN ?_
 ·obtain ⟨s0,s1⟩:=hS'
  go_simp
 try simp only [Act.put,sg0,sg1,sg2,sg3,sg4,sg5]
 refine wpAnyH_take (i:=3) (v:=.pointer (some ⟨gt+1,1,none⟩)) rfl (by kernel_rfl) (by kernel_rfl) (by kernel_rfl) (fun _ _ _ h=>h) (.inl ⟨rfl,fun w' hS'=>?_⟩) hSN ?_
 ·obtain ⟨s0,s1⟩:=hS'
  go_simp
 try simp only [Act.put,sg0,sg1,sg2,sg3,sg4,sg5]
 refine wpAnyH_take (i:=4) (v:=.slice x.A nx x.c) rfl (by kernel_rfl) (by kernel_rfl) (by kernel_rfl) (fun _ _ _ h=>h) (.inl ⟨rfl,fun w' hS'=>?_⟩) hSN ?_
 ·obtain ⟨s0,s1⟩:=hS'
  go_simp
 try simp only [Act.put,sg0,sg1,sg2,sg3,sg4,sg5]
 refine wpAnyH_take (i:=6) (v:=.string (bs s)) rfl (by kernel_rfl) (by kernel_rfl) (by kernel_rfl) (fun _ _ _ h=>h) (.inl ⟨rfl,fun w' hS'=>?_⟩) hSN ?_
 ·obtain ⟨s0,s1⟩:=hS'
  go_simp
 try simp only [Act.put,sg0,sg1,sg2,sg3,sg4,sg5]
 have HDW:=hide (fun V (h:Below w1.heap.size w1 V)=>bel_trans HD1.out h)
 have okN:=hide (fun V (O:CH.Own) (h:Run (fun _=>False) w1 O V)=>HSS.out V (HDW.out V h.bel))
 have HLX:=hide (show nx*16≤140737488351232 by first | exact HRX.out | (rw [←HNx.out];exact HRX.out))
 have HVW:=hide (fun V (O:CH.Own) (h:Run (fun _=>False) w1 O V)=>(show Src V x.A nx 1 (strB x.n.ws) from by
  have:=Vst.below HVx.out (HBW.out V (HDW.out V h.bel))
  unfold Vst at this
  rw [HNx.out] at this
  exact this))
 clear hSN
 refine tail_to (fuel2:=1) (ls2:=#[true,true,true,true,true,true,true,true,true,true,true,false]) (fun a0 W' a'=>∃ (g2:Nat) (A0:Option Addr) (c0:Nat) (A:Option Addr) (c:Nat) (g7:Nat) (g10:Nat),a'=((((((a0.put (some 27) (.slice (some ⟨g2,0,none⟩) 0 0)).put (some 30) (.slice A0 nx c0)).put (some 32) (.slice (some ⟨g7,0,none⟩) 1 1)).put (some 33) (.slice A (nx+1) c)).put (some 34) (.agg #[.int .i64 x.n.k,.slice A (nx+1) c])).put (some 10) (.pointer (some ⟨g10,0,none⟩)))∧Hid (Run (fun _=>False) w1 (star (RowO 9 1 (.slice A (nx+1) c) (nx+1) (strB (x.n.ws ++ [s]))) (star (CellO g10 #[.int .i64 0,.slice none 0 0] 28) emp)) W')) ?_ (fun N311=>?_)
 ·rintro V a9 ⟨g2,A0,c0,A,c,g7,g10,rfl,HR⟩
  try simp only [Act.put,sg0,sg1,sg2,sg3,sg4,sg5]
  have h9:=HR.out.perm (star_left:_=star (CellO g10 #[.int .i64 0,.slice none 0 0] 28) (star (RowO 9 1 (.slice A (nx+1) c) (nx+1) (strB (x.n.ws ++ [s]))) emp))
  have okM:=hide (star_ok row_ok emp_ok:(star (RowO 9 1 (.slice A (nx+1) c) (nx+1) (strB (x.n.ws ++ [s]))) emp).Ok)
  obtain ⟨z0,z1,zf⟩:=run_c2 h9
  have h10:Run (fun _=>False) w1 (star (CellO g10 #[.int .i64 x.n.k,.slice none 0 0] 28) _) _:=run_setc h9 okM.out 0 (.int .i64 x.n.k)
  have h11:Run (fun _=>False) w1 (star (CellO g10 #[.int .i64 x.n.k,.slice A (nx+1) c] 28) _) _:=run_setc h10 okM.out 1 (.slice A (nx+1) c)
  have H10:=hide h11
  clear h9 h10 h11 HR
  have hSN:=okN.out _ _ H10.out
  refine wpAnyH_all (rs:=[11]) (by kernel_rfl) (by decide) (fun i hi=>?_)
  simp only [List.mem_cons,List.not_mem_nil,or_false] at hi
  subst hi
  refine wpOp_plain rfl rfl ?_
  go_wp2_with fail
  generalize (V.setCell ⟨g10,0,none⟩ (.int .i64 x.n.k)).setCell ⟨g10,1,none⟩ (.slice A (nx+1) c)=w5 at *
  clear z0 z1 zf
  try simp only [Act.put,sg0,sg1,sg2,sg3,sg4,sg5]
  refine wpAnyH_done (by kernel_rfl) ?_ _
  clear hSN
  try dsimp only
  obtain ⟨mz,hmn,hmA,hmc⟩:∃ mz:NmZ,mz.n=⟨x.n.k,x.n.ws ++ [s]⟩∧mz.A=A∧mz.c=c:=⟨⟨⟨x.n.k,x.n.ws ++ [s]⟩,A,c⟩,rfl,rfl,rfl⟩
  obtain ⟨nz,hnz⟩:∃ nz,mz.n.ws.length=nz:=⟨_,rfl⟩
  have enz:nx+1=nz:=by rw [←hnz,hmn,List.length_append,HNx.out];rfl
  obtain ⟨q0,q1,-⟩:=run_c2 H10.out
  have HQ:=hide (fun W (hb:Below w5.heap.size w5 W)=>(show W.cell? ⟨g10,0,none⟩=some (.int .i64 mz.n.k)∧W.cell? ⟨g10,1,none⟩=some (.slice mz.A nz mz.c) from by
   rw [hmn,hmA,hmc,←enz]
   exact ⟨below_cell q0 hb,below_cell q1 hb⟩))
  have HVz:=hide (show ∀ W,Below w5.heap.size w5 W→Vst W mz.A mz.n.ws from fun W hb=>by
   obtain ⟨F,hF⟩:=H10.out.drop.fst
   have h1:=row_src hF (fun u hu=>by unfold strB at hu;obtain ⟨z,-,rfl⟩:=List.mem_map.1 hu;rfl)
   have h2:Vst w5 A (x.n.ws ++ [s]):=by unfold Vst;rw [List.length_append,HNx.out];exact h1
   rw [hmA,hmn]
   exact h2.below hb)
  have HD2:=hide (bel_trans HD1.out H10.out.bel)
  have HMN:=hide hmn
  have HNz:=hide hnz
  have KBz:=hide (fun (hf:fewM T [mz,y]=true) W (hb:Below w.heap.size w W) (hv:Vst W mz.A mz.n.ws)=>KB2.out mz hf W hb hv)
  rw [hnz] at KBz
  have HEQ:=hide (Below.refl w5.heap.size w5)
  clear q0 q1 H10 okM hmn hmA hmc hnz enz KB2 HD1 HVW HLX okN HDW HSS
  go_upto_region 3 with (fail)
  obtain ⟨b0_0,b0_1,b0_2,b0_3,b0_4,b0_5,b1_0,b1_1,b2_0,b2_1⟩:=HC.out w5 HD2.out
  obtain ⟨q0,q1⟩:=HQ.out _ HEQ.out
  have hl:=names_lit (W:=w5) (cs:=#[.int .i64 mz.n.k,.slice mz.A nz mz.c,.int .i64 y.n.k,.slice y.A ny y.c]) [mz,y] (by rw [←HNz.out,←HNy.out];rfl) (fun z hz=>by
   simp only [List.mem_cons,List.not_mem_nil,or_false] at hz
   rcases hz with rfl | rfl
   ·exact HVz.out _ (Below.refl _ _)
   ·exact Vst.below HVy.out (HBW.out _ HD2.out))
  have hb2:=bel_trans HD2.out (alloc_bel w5 (.cells #[.int .i64 mz.n.k,.slice mz.A nz mz.c,.int .i64 y.n.k,.slice y.A ny y.c] 28))
  have K:=hide (KF.out _ (HBW.out _ hb2) _ 2 mz hl)
  have HD3:=hide hb2
  have HEQ_3:=hide (bel_trans HEQ.out (alloc_bel w5 (.cells #[.int .i64 mz.n.k,.slice mz.A nz mz.c,.int .i64 y.n.k,.slice y.A ny y.c] 28)))
  clear hl hb2 HD2 HEQ
  cases hf:fewM T [mz,y] with
  | false =>
   rw [hf] at K
   have HF:=hide hf
   clear hf
   go_wp2_with fail
   refine K.out.mono ?_
   rintro e9 w4 ⟨rfl,hb⟩
   have HD4:=hide (bel_trans HD3.out hb)
   have HEQ_4:=hide (bel_trans HEQ_3.out hb)
   clear HEQ_3
   clear K hb HD3 q0 q1
   clear b0_0 b0_1 b0_2 b0_3 b0_4 b0_5 b1_0 b1_1 b2_0 b2_1
   try dsimp only
   obtain ⟨b0_0,b0_1,b0_2,b0_3,b0_4,b0_5,b1_0,b1_1,b2_0,b2_1⟩:=HC.out w4 HD4.out
   have HE:=hide (HBW.out _ HD4.out)
   go_wp2
   go_ret
   exact bel_bool rfl HE.out
  | true =>
   rw [hf] at K
   have HF:=hide hf
   clear hf
   go_wp2_with fail
   refine K.out.mono ?_
   rintro e9 w4 ⟨rfl,hb⟩
   have HD4:=hide (bel_trans HD3.out hb)
   have HEQ_4:=hide (bel_trans HEQ_3.out hb)
   clear HEQ_3
   clear K hb HD3 q0 q1
   clear b0_0 b0_1 b0_2 b0_3 b0_4 b0_5 b1_0 b1_1 b2_0 b2_1
   try dsimp only
   by_cases hy2:(2:Int) < (ny:Int)
   case pos =>
    obtain ⟨b0_0,b0_1,b0_2,b0_3,b0_4,b0_5,b1_0,b1_1,b2_0,b2_1⟩:=HC.out w4 HD4.out
    have HE:=hide (HBW.out _ HD4.out)
    go_wp2
    go_ret
    exact bel_bool rfl HE.out
   case neg =>
    have K:=hide (KB1.out mz HMN.out HF.out w4 (HBW.out _ HD4.out))
    obtain ⟨b0_0,b0_1,b0_2,b0_3,b0_4,b0_5,b1_0,b1_1,b2_0,b2_1⟩:=HC.out w4 HD4.out
    go_wp2_with fail
    refine K.out.mono ?_
    rintro e9 w5 ⟨p,erp,Ap,cp,lp,rfl,hm,hml,hr,hb⟩
    have HD5:=hide (bel_trans HD4.out hb)
    have HMp:=hide hm
    clear hm hml hr
    have HEQ_5:=hide (bel_trans HEQ_4.out hb)
    clear HEQ_4
    clear K HD4 hb
    clear b0_0 b0_1 b0_2 b0_3 b0_4 b0_5 b1_0 b1_1 b2_0 b2_1
    try dsimp only
    have HD6:=hide (bel_trans HD5.out (alloc_bel w5 (.cells #[.int .i64 p.c,.bool p.s,.slice Ap lp.length cp] 31)))
    have h4:=run_new (Run.begin w5) emp_ok #[.int .i64 p.c,.bool p.s,.slice Ap lp.length cp] 31
    obtain ⟨c0,c1,c2⟩:=run_c3 h4
    have Pp:=hide (fun W (h:Below (w5.alloc (.cells #[.int .i64 p.c,.bool p.s,.slice Ap lp.length cp] 31)).heap.size (w5.alloc (.cells #[.int .i64 p.c,.bool p.s,.slice Ap lp.length cp] 31)) W)=>(show W.cell? ⟨w5.heap.size,0,none⟩=some (.int .i64 p.c)∧W.cell? ⟨w5.heap.size,1,none⟩=some (.bool p.s)∧W.cell? ⟨w5.heap.size,2,none⟩=some (.slice Ap lp.length cp) from ⟨below_cell c0 h,below_cell c1 h,below_cell c2 h⟩))
    clear h4 c0 c1 c2 HD5
    have HEQ_6:=hide (bel_trans HEQ_5.out (alloc_bel w5 (.cells #[.int .i64 p.c,.bool p.s,.slice Ap lp.length cp] 31)))
    clear HEQ_5
    go_upto_region 6 with (fail)
    generalize w5.alloc (.cells #[.int .i64 p.c,.bool p.s,.slice Ap lp.length cp] 31)=w6 at *
    generalize w5.heap.size=gPp at *
    have HEPp:=hide (Below.refl w6.heap.size w6)
    obtain ⟨q0,q1⟩:=HQ.out _ HEQ_6.out
    have K:=hide (KBz.out HF.out w6 (HBW.out _ HD6.out) (HVz.out _ HEQ_6.out))
    obtain ⟨b0_0,b0_1,b0_2,b0_3,b0_4,b0_5,b1_0,b1_1,b2_0,b2_1⟩:=HC.out w6 HD6.out
    go_wp2_with fail
    refine K.out.mono ?_
    rintro e9 w7 ⟨q,erq,Aq,cq,lq,rfl,hm,hml,hr,hb⟩
    have HD7:=hide (bel_trans HD6.out hb)
    have HMq:=hide hm
    clear hm hml hr
    have HEQ_7:=hide (bel_trans HEQ_6.out hb)
    clear HEQ_6
    have HEPp_7:=hide (bel_trans HEPp.out hb)
    clear HEPp
    clear K HD6 hb q0 q1
    clear b0_0 b0_1 b0_2 b0_3 b0_4 b0_5 b1_0 b1_1 b2_0 b2_1
    try dsimp only
    have HD8:=hide (bel_trans HD7.out (alloc_bel w7 (.cells #[.int .i64 q.c,.bool q.s,.slice Aq lq.length cq] 31)))
    have h4:=run_new (Run.begin w7) emp_ok #[.int .i64 q.c,.bool q.s,.slice Aq lq.length cq] 31
    obtain ⟨c0,c1,c2⟩:=run_c3 h4
    have Pq:=hide (fun W (h:Below (w7.alloc (.cells #[.int .i64 q.c,.bool q.s,.slice Aq lq.length cq] 31)).heap.size (w7.alloc (.cells #[.int .i64 q.c,.bool q.s,.slice Aq lq.length cq] 31)) W)=>(show W.cell? ⟨w7.heap.size,0,none⟩=some (.int .i64 q.c)∧W.cell? ⟨w7.heap.size,1,none⟩=some (.bool q.s)∧W.cell? ⟨w7.heap.size,2,none⟩=some (.slice Aq lq.length cq) from ⟨below_cell c0 h,below_cell c1 h,below_cell c2 h⟩))
    clear h4 c0 c1 c2 HD7
    have HEQ_8:=hide (bel_trans HEQ_7.out (alloc_bel w7 (.cells #[.int .i64 q.c,.bool q.s,.slice Aq lq.length cq] 31)))
    clear HEQ_7
    have HEPp_8:=hide (bel_trans HEPp_7.out (alloc_bel w7 (.cells #[.int .i64 q.c,.bool q.s,.slice Aq lq.length cq] 31)))
    clear HEPp_7
    go_upto_region 7 with (fail)
    generalize w7.alloc (.cells #[.int .i64 q.c,.bool q.s,.slice Aq lq.length cq] 31)=w8 at *
    generalize w7.heap.size=gPq at *
    have HEPq:=hide (Below.refl w8.heap.size w8)
    have hsl:s.length≤1000000:=by
     have:=((few_nm HF.out).2 mz (by simp)).2 s (by rw [HMN.out];simp)
     omega
    have HSL:=hide hsl
    clear hsl
    have K:=hide (KD.out mz HF.out w8 (HBW.out _ HD8.out) x.n.k s HSL.out)
    obtain ⟨b0_0,b0_1,b0_2,b0_3,b0_4,b0_5,b1_0,b1_1,b2_0,b2_1⟩:=HC.out w8 HD8.out
    go_wp2_with fail
    refine K.out.mono ?_
    rintro e9 w9 ⟨rfl,hb⟩
    have HD9:=hide (bel_trans HD8.out hb)
    have HEQ_9:=hide (bel_trans HEQ_8.out hb)
    clear HEQ_8
    have HEPp_9:=hide (bel_trans HEPp_8.out hb)
    clear HEPp_8
    have HEPq_9:=hide (bel_trans HEPq.out hb)
    clear HEPq
    clear K HD8 hb
    clear b0_0 b0_1 b0_2 b0_3 b0_4 b0_5 b1_0 b1_1 b2_0 b2_1
    try dsimp only
    have HDV:=hide (show dropV T x.n.k s=((dropV T x.n.k s).1,(dropV T x.n.k s).2) from rfl)
    generalize (dropV T x.n.k s).1=dc at *
    generalize (dropV T x.n.k s).2=ed at *
    by_cases he1:erp=0
    case neg =>
     have te:(erp == 0)=false:=by simpa using he1
     have tn:(erp != 0)=true:=by simpa using he1
     clear he1
     obtain ⟨b0_0,b0_1,b0_2,b0_3,b0_4,b0_5,b1_0,b1_1,b2_0,b2_1⟩:=HC.out w9 HD9.out
     have HE:=hide (HBW.out _ HD9.out)
     go_wp2
     go_ret
     exact bel_bool rfl HE.out
    case pos =>
     subst he1
     by_cases he2:erq=0
     case neg =>
      have te:(erq == 0)=false:=by simpa using he2
      have tn:(erq != 0)=true:=by simpa using he2
      clear he2
      obtain ⟨b0_0,b0_1,b0_2,b0_3,b0_4,b0_5,b1_0,b1_1,b2_0,b2_1⟩:=HC.out w9 HD9.out
      have HE:=hide (HBW.out _ HD9.out)
      go_wp2
      go_ret
      exact bel_bool rfl HE.out
     case pos =>
      subst he2
      by_cases he3:ed=0
      case neg =>
       have te:(ed == 0)=false:=by simpa using he3
       have tn:(ed != 0)=true:=by simpa using he3
       clear he3
       obtain ⟨b0_0,b0_1,b0_2,b0_3,b0_4,b0_5,b1_0,b1_1,b2_0,b2_1⟩:=HC.out w9 HD9.out
       have HE:=hide (HBW.out _ HD9.out)
       go_wp2
       go_ret
       exact bel_bool rfl HE.out
      case pos =>
       subst he3
       have HOK:=hide (mat_ok HMp.out rfl)
       have HVT:=hide (okM_iff.1 HOK.out).1
       have HMQ:=hide (show MatP T ⟨x.n.k,x.n.ws ++ [s]⟩ y.n q 0 from by rw [←HMN.out];exact HMq.out)
       have hdc:dc=dropC T x.n.k s:=by
        have h2:=(okM_iff.1 (mat_ok HMQ.out rfl)).2.1
        have h3:=(validN_iff.1 h2).1 s (by simp)
        have h4:=HDV.out
        unfold dropV at h4
        rw [h3,HVT.out] at h4
        injection h4 with h5 h6
        exact h5.symm
       have hdb:=dropC_bnd HVT.out x.n.k s
       have hmore:=law_more HMp.out HMQ.out
       rw [←hdc] at hdb hmore
       have HDB:=hide hdb
       have HMORE:=hide hmore
       have hall:=law_all HMp.out
       rw [HNx.out,HNy.out] at hall
       have HALL:=hide hall
       have HPB:=hide (mat_bnd HMp.out rfl)
       have HXL:=hide (show nx≤3 from by have:=((few_nm HF.out).2 mz (by simp)).1;rw [HMN.out,List.length_append,HNx.out] at this;simp at this;omega)
       have HYL:=hide (show ny≤3 from by have:=((few_nm HF.out).2 y (by simp)).1;rw [HNy.out] at this;exact this)
       have KX:=hide (fun W (hb:Below w.heap.size w W) (j:Nat) (hj:j < x.n.ws.length)=>(KD.out mz HF.out W hb x.n.k x.n.ws[j] (by have:=((few_nm HF.out).2 mz (by simp)).2 x.n.ws[j] (by rw [HMN.out];exact List.mem_append_left _ (List.getElem_mem hj));omega)))
       have KY:=hide (fun W (hb:Below w.heap.size w W) (j:Nat) (hj:j < y.n.ws.length)=>(KD.out mz HF.out W hb y.n.k y.n.ws[j] (by have:=((few_nm HF.out).2 y (by simp)).2 y.n.ws[j] (List.getElem_mem hj);omega)))
       have HWX:=hide (fun (j:Nat) (hj:j < x.n.ws.length)=>drop_word HVT.out (okM_iff.1 HOK.out).2.1 hj)
       have HWY:=hide (fun (j:Nat) (hj:j < y.n.ws.length)=>drop_word HVT.out (okM_iff.1 HOK.out).2.2 hj)
       have HSX:=hide (fun (j:Nat)=>(sg_le (n:=j) (f:=dM T x.n) (k:=1000) (fun i=>(dM_bnd HVT.out i).2)))
       have HSY:=hide (fun (j:Nat)=>(sg_le (n:=j) (f:=dM T y.n) (k:=1000) (fun i=>(dM_bnd HVT.out i).2)))
       have HZX:=hide (fun (j:Nat)=>Asg.sg_nonneg (n:=j) (f:=dM T x.n) (fun i _=>(dM_bnd HVT.out i).1))
       have HZY:=hide (fun (j:Nat)=>Asg.sg_nonneg (n:=j) (f:=dM T y.n) (fun i _=>(dM_bnd HVT.out i).1))
       clear hdc hdb hmore hall HMp HMq HMQ HDV KD KBz KB1 KF
       have HDL:=hide (fun V (h:Below w9.heap.size w9 V)=>bel_trans HD9.out h)
       obtain ⟨b0_0,b0_1,b0_2,b0_3,b0_4,b0_5,b1_0,b1_1,b2_0,b2_1⟩:=HC.out w9 HD9.out
       go_wp2_with fail
       clear b0_0 b0_1 b0_2 b0_3 b0_4 b0_5 b1_0 b1_1 b2_0 b2_1
       go_loopw [17,18] (fun u i wr=>∃ jx:Nat,jx≤nx∧u=.int .i64 (Asg.sg jx (dM T x.n))∧i=.int .i64 jx∧Below w9.heap.size w9 wr) (fun _ i _=>nx - (intOf i).toNat)
       case atStart=>exact ⟨0,Nat.zero_le _,by rfl,rfl,Below.refl _ _⟩
       case round =>
        obtain ⟨jx,hj,rfl,rfl,hR⟩:=hrel
        have HR:=hide hR
        clear hR
        by_cases hjn:jx < nx
        case pos =>
         have hjx:jx < x.n.ws.length:=by rw [HNx.out];exact hjn
         obtain ⟨b,o,hA,hc⟩:=Vst.at HVx.out (Nat.lt_of_le_of_lt (Nat.zero_le _) hjx)
         have hcm:=hc wr.drew (HBW.out _ (HDL.out _ HR.out.drew)) jx hjx
         have HCM:=hide (fun V (h:Below wr.heap.size wr V)=>hc V (HBW.out _ (HDL.out _ (bel_trans HR.out h))) jx hjx)
         have KW:=hide (fun V (h:Below wr.heap.size wr V)=>KX.out V (HBW.out _ (HDL.out _ (bel_trans HR.out h))) jx hjx)
         have hw:=HWX.out jx hjx
         rw [hw] at KW
         dsimp only at KW
         have HDR:=hide (fun V (h:Below wr.heap.size wr V)=>HDL.out _ (bel_trans HR.out h))
         generalize x.n.ws[jx]=sj at *
         have hjn':(jx:Int) < (nx:Int):=by omega
         have hn3:(nx:Int)≤3:=by have:=HXL.out;omega
         have h1:=HSX.out (jx+1)
         have h2:=HZX.out jx
         have h3:=HZX.out (jx+1)
         have hxl:=HXL.out
         rw [Asg.sg_succ] at h1 h3
         have tw:IntKind.i64.wrap (Asg.sg jx (dM T x.n)+dM T x.n jx)=Asg.sg jx (dM T x.n)+dM T x.n jx:=IntWalk.i64_in _ (by omega)
         clear h1 h2 h3 hxl hw hjx hc
         obtain ⟨b0_0,b0_1,b0_2,b0_3,b0_4,b0_5,b1_0,b1_1,b2_0,b2_1⟩:=HC.out wr (HDR.out _ (Below.refl _ _))
         go_upto_region 14 with (fail)
         clear b0_0 b0_1 b0_2 b0_3 b0_4 b0_5 b1_0 b1_1 b2_0 b2_1
         obtain ⟨b0_0,b0_1,b0_2,b0_3,b0_4,b0_5,b1_0,b1_1,b2_0,b2_1⟩:=HC.out wr.drew (HDR.out _ (below_drew (Below.refl _ _)))
         rw [hA] at b1_1
         refine wp_region_lex (fun w'=>(w'.cell? ⟨gt,0,none⟩=some (.slice a.A n1 a.c)∧w'.cell? ⟨gt,1,none⟩=some (.slice a.D n2 a.d)∧w'.cell? ⟨gt,2,none⟩=some (.slice a.E n3 a.e)∧w'.cell? ⟨gt,3,none⟩=some (.int .i64 T.drop)∧w'.cell? ⟨gt,4,none⟩=some (.int .i64 T.ord)∧w'.cell? ⟨gt,5,none⟩=some (.int .i64 T.ini)∧w'.cell? ⟨gt+1,0,none⟩=some (.int .i64 x.n.k)∧w'.cell? ⟨gt+1,1,none⟩=some (.slice (some ⟨b,o,none⟩) nx x.c))∧w'.cell? ⟨b,o+jx,none⟩=some (.string (bs sj))) (by kernel_rfl) (by kernel_rfl) (by exact ⟨⟨b0_0,b0_1,b0_2,b0_3,b0_4,b0_5,b1_0,b1_1⟩,hcm⟩) ?_
         clear b0_0 b0_1 b0_2 b0_3 b0_4 b0_5 b1_0 b1_1 b2_0 b2_1 hcm
         (repeat ((first | refine lex_skip (by rfl) ?_ | (refine lex_read (v:=?_) (by rfl) ?_ ?_;rotate_left;(focus (intro w' hS';go_simp;(try with_reducible rfl);done))));try simp only [Act.put,List.setIfInBounds_toArray,List.set_cons_zero,List.set_cons_succ]))
         refine lex_chain rfl (by rfl) (fun K hK=>?_)
         go_wp2_with fail
         refine (KW.out wr.drew (below_drew (Below.refl _ _))).mono ?_
         rintro e9 w6 ⟨rfl,hb⟩
         have HB6:=hide ((below_drew (Below.refl wr.heap.size wr)).trans hb)
         obtain ⟨b0_0,b0_1,b0_2,b0_3,b0_4,b0_5,b1_0,b1_1,b2_0,b2_1⟩:=HC.out w6 (HDR.out _ HB6.out)
         rw [hA] at b1_1
         refine hK.out _ _ (by exact ⟨⟨b0_0,b0_1,b0_2,b0_3,b0_4,b0_5,b1_0,b1_1⟩,HCM.out _ HB6.out⟩) ?_
         clear hK hb b0_0 b0_1 b0_2 b0_3 b0_4 b0_5 b1_0 b1_1 b2_0 b2_1
         (repeat ((first | refine lex_skip (by rfl) ?_ | (refine lex_read (v:=?_) (by rfl) ?_ ?_;rotate_left;(focus (intro w' hS';go_simp;(try with_reducible rfl);done))));try simp only [Act.put,List.setIfInBounds_toArray,List.set_cons_zero,List.set_cons_succ]))
         refine lex_nil ?_
         go_wp2_with fail
         go_roundw
         case rel=>exact ⟨jx+1,by omega,by rw [Asg.sg_succ],by go_num,bel_trans HR.out HB6.out⟩
         case measure=>(simp [intOf] <;> omega)
        case neg =>
         have ex:nx=jx:=by omega
         have hjn2:¬ (jx:Int) < (nx:Int):=by omega
         have HD10:=hide (HDL.out _ HR.out)
         have HEQ_10:=hide (bel_trans HEQ_9.out HR.out)
         clear HEQ_9
         have HEPp_10:=hide (bel_trans HEPp_9.out HR.out)
         clear HEPp_9
         have HEPq_10:=hide (bel_trans HEPq_9.out HR.out)
         clear HEPq_9
         have HEX:=hide ex
         rename World=>w20
         clear HDL HR HD9 hjn hj ex
         have HDL:=hide (fun V (h:Below w20.heap.size w20 V)=>bel_trans HD10.out h)
         obtain ⟨b0_0,b0_1,b0_2,b0_3,b0_4,b0_5,b1_0,b1_1,b2_0,b2_1⟩:=HC.out w20 HD10.out
         go_wp2_with fail
         clear b0_0 b0_1 b0_2 b0_3 b0_4 b0_5 b1_0 b1_1 b2_0 b2_1
         go_loopw [17,21] (fun u i wr=>∃ jy:Nat,jy≤ny∧u=.int .i64 (Asg.sg jx (dM T x.n)+Asg.sg jy (dM T y.n))∧i=.int .i64 jy∧Below w20.heap.size w20 wr) (fun _ i _=>ny - (intOf i).toNat)
         case atStart=>exact ⟨0,Nat.zero_le _,by rw [Asg.sg_zero0,Int.add_zero],rfl,Below.refl _ _⟩
         case round =>
          obtain ⟨jy,hj,rfl,rfl,hR⟩:=hrel
          have HR:=hide hR
          clear hR
          by_cases hjn:jy < ny
          case pos =>
           have hjx:jy < y.n.ws.length:=by rw [HNy.out];exact hjn
           obtain ⟨b,o,hA,hc⟩:=Vst.at HVy.out (Nat.lt_of_le_of_lt (Nat.zero_le _) hjx)
           have hcm:=hc wr.drew (HBW.out _ (HDL.out _ HR.out.drew)) jy hjx
           have HCM:=hide (fun V (h:Below wr.heap.size wr V)=>hc V (HBW.out _ (HDL.out _ (bel_trans HR.out h))) jy hjx)
           have KW:=hide (fun V (h:Below wr.heap.size wr V)=>KY.out V (HBW.out _ (HDL.out _ (bel_trans HR.out h))) jy hjx)
           have hw:=HWY.out jy hjx
           rw [hw] at KW
           dsimp only at KW
           have HDR:=hide (fun V (h:Below wr.heap.size wr V)=>HDL.out _ (bel_trans HR.out h))
           generalize y.n.ws[jy]=sj at *
           have hjn':(jy:Int) < (ny:Int):=by omega
           have hn3:(ny:Int)≤3:=by have:=HYL.out;omega
           have h1:=HSY.out (jy+1)
           have h2:=HZY.out jy
           have h3:=HZY.out (jy+1)
           have hxl:=HYL.out
           rw [Asg.sg_succ] at h1 h3
           have tw:IntKind.i64.wrap (Asg.sg jx (dM T x.n)+Asg.sg jy (dM T y.n)+dM T y.n jy)=Asg.sg jx (dM T x.n)+Asg.sg jy (dM T y.n)+dM T y.n jy:=IntWalk.i64_in _ (by have:=HSX.out jx;have:=HZX.out jx;have:=HXL.out;have:=HEX.out;omega)
           clear h1 h2 h3 hxl hw hjx hc
           obtain ⟨b0_0,b0_1,b0_2,b0_3,b0_4,b0_5,b1_0,b1_1,b2_0,b2_1⟩:=HC.out wr (HDR.out _ (Below.refl _ _))
           go_upto_region 21 with (fail)
           clear b0_0 b0_1 b0_2 b0_3 b0_4 b0_5 b1_0 b1_1 b2_0 b2_1
           obtain ⟨b0_0,b0_1,b0_2,b0_3,b0_4,b0_5,b1_0,b1_1,b2_0,b2_1⟩:=HC.out wr.drew (HDR.out _ (below_drew (Below.refl _ _)))
           rw [hA] at b2_1
           refine wp_region_lex (fun w'=>(w'.cell? ⟨gt,0,none⟩=some (.slice a.A n1 a.c)∧w'.cell? ⟨gt,1,none⟩=some (.slice a.D n2 a.d)∧w'.cell? ⟨gt,2,none⟩=some (.slice a.E n3 a.e)∧w'.cell? ⟨gt,3,none⟩=some (.int .i64 T.drop)∧w'.cell? ⟨gt,4,none⟩=some (.int .i64 T.ord)∧w'.cell? ⟨gt,5,none⟩=some (.int .i64 T.ini)∧w'.cell? ⟨gt+1+1,0,none⟩=some (.int .i64 y.n.k)∧w'.cell? ⟨gt+1+1,1,none⟩=some (.slice (some ⟨b,o,none⟩) ny y.c))∧w'.cell? ⟨b,o+jy,none⟩=some (.string (bs sj))) (by kernel_rfl) (by kernel_rfl) (by exact ⟨⟨b0_0,b0_1,b0_2,b0_3,b0_4,b0_5,b2_0,b2_1⟩,hcm⟩) ?_
           clear b0_0 b0_1 b0_2 b0_3 b0_4 b0_5 b1_0 b1_1 b2_0 b2_1 hcm
           (repeat ((first | refine lex_skip (by rfl) ?_ | (refine lex_read (v:=?_) (by rfl) ?_ ?_;rotate_left;(focus (intro w' hS';go_simp;(try with_reducible rfl);done))));try simp only [Act.put,List.setIfInBounds_toArray,List.set_cons_zero,List.set_cons_succ]))
           refine lex_chain rfl (by rfl) (fun K hK=>?_)
           go_wp2_with fail
           refine (KW.out wr.drew (below_drew (Below.refl _ _))).mono ?_
           rintro e9 w6 ⟨rfl,hb⟩
           have HB6:=hide ((below_drew (Below.refl wr.heap.size wr)).trans hb)
           obtain ⟨b0_0,b0_1,b0_2,b0_3,b0_4,b0_5,b1_0,b1_1,b2_0,b2_1⟩:=HC.out w6 (HDR.out _ HB6.out)
           rw [hA] at b2_1
           refine hK.out _ _ (by exact ⟨⟨b0_0,b0_1,b0_2,b0_3,b0_4,b0_5,b2_0,b2_1⟩,HCM.out _ HB6.out⟩) ?_
           clear hK hb b0_0 b0_1 b0_2 b0_3 b0_4 b0_5 b1_0 b1_1 b2_0 b2_1
           (repeat ((first | refine lex_skip (by rfl) ?_ | (refine lex_read (v:=?_) (by rfl) ?_ ?_;rotate_left;(focus (intro w' hS';go_simp;(try with_reducible rfl);done))));try simp only [Act.put,List.setIfInBounds_toArray,List.set_cons_zero,List.set_cons_succ]))
           refine lex_nil ?_
           go_wp2_with fail
           go_roundw
           case rel=>exact ⟨jy+1,by omega,by rw [Asg.sg_succ];rw [Int.add_assoc],by go_num,bel_trans HR.out HB6.out⟩
           case measure=>(simp [intOf] <;> omega)
          case neg =>
           have ey:ny=jy:=by omega
           have hjn2:¬ (jy:Int) < (ny:Int):=by omega
           have HD11:=hide (HDL.out _ HR.out)
           have HEQ_11:=hide (bel_trans HEQ_10.out HR.out)
           clear HEQ_10
           have HEPp_11:=hide (bel_trans HEPp_10.out HR.out)
           clear HEPp_10
           have HEPq_11:=hide (bel_trans HEPq_10.out HR.out)
           clear HEPq_10
           clear HDL HR HD10 hjn hj
           obtain ⟨p0,p1,p2⟩:=Pp.out wr HEPp_11.out
           obtain ⟨r0,r1,r2⟩:=Pq.out wr HEPq_11.out
           have hmore:=HMORE.out
           obtain ⟨ha1,ha2⟩:=HALL.out
           rw [HEX.out,ey] at ha2
           have hpb:=HPB.out
           have hdb:=HDB.out
           have tw:IntKind.i64.wrap (p.c+dc)=p.c+dc:=IntWalk.i64_in _ (by omega)
           clear hpb hdb ey
           obtain ⟨b0_0,b0_1,b0_2,b0_3,b0_4,b0_5,b1_0,b1_1,b2_0,b2_1⟩:=HC.out wr HD11.out
           have HE:=hide (HBW.out _ HD11.out)
           go_wp2
           go_ret
           exact bel_bool rfl HE.out
 refine tail_to (fuel2:=3) (ls2:=#[true,true,true,true,true,true,true,true,false,false,true,false]) (fun a0 W' a'=>∃ (g2:Nat) (A:Option Addr) (c:Nat) (g7:Nat) (g10:Nat),a'=((((a0.put (some 27) (.slice (some ⟨g2,0,none⟩) 0 0)).put (some 30) (.slice A nx c)).put (some 32) (.slice (some ⟨g7,0,none⟩) 1 1)).put (some 10) (.pointer (some ⟨g10,0,none⟩)))∧Hid (Run (fun _=>False) w1 (star (RowO 9 1 (.slice A nx c) nx (strB x.n.ws)) (star (CellO g7 #[.string (bs s)] 9) (star (CellO g10 #[.int .i64 0,.slice none 0 0] 28) emp))) W')) ?_ (fun N211=>?_)
 ·rintro V a9 ⟨g2,A,c,g7,g10,rfl,HR⟩
  try simp only [Act.put,sg0,sg1,sg2,sg3,sg4,sg5]
  refine wpAnyH_all (rs:=[8]) (by kernel_rfl) (by decide) (fun i hi=>?_)
  simp only [List.mem_cons,List.not_mem_nil,or_false] at hi
  subst hi
  refine wpOp_plain rfl rfl ?_
  obtain ⟨F7,hF7⟩:=HR.out.drop.fst
  refine app_row strsOk (.tmp 30) (.tmp 32) rfl (A:=A) (B:=some ⟨g7,0,none⟩) (c:=c) (n:=nx) (m:=1) (d:=1) (xs:=strB x.n.ws) (news:=[.string (bs s)]) rfl rfl (src_cell hF7 rfl) (by have:=HLX.out;unfold maxLen;omega) (by have:=HLX.out;omega) (star_ok cell_ok (star_ok cell_ok emp_ok)) HR.out ?_
  intro A9 c9 V2 hr2
  rw [show strB x.n.ws ++ [.string (bs s)]=strB (x.n.ws ++ [s]) by unfold strB;rw [List.map_append];rfl] at hr2
  have H9:=hide (show Run (fun _=>False) w1 (star (RowO 9 1 (.slice A9 (nx+1) c9) (nx+1) (strB (x.n.ws ++ [s]))) (star (CellO g10 #[.int .i64 0,.slice none 0 0] 28) emp)) V2 from (hr2.perm (star_left:_=star (CellO g7 #[.string (bs s)] 9) (star (RowO 9 1 (.slice A9 (nx+1) c9) (nx+1) (strB (x.n.ws ++ [s]))) (star (CellO g10 #[.int .i64 0,.slice none 0 0] 28) emp)))).drop)
  clear hr2 hF7 F7
  try simp only [Act.put,sg0,sg1,sg2,sg3,sg4,sg5]
  refine ⟨okN.out _ _ H9.out,?_⟩
  have hSN:=okN.out _ _ H9.out
  refine wpAnyH_take (i:=9) (v:=.agg #[.int .i64 x.n.k,.slice A9 (nx+1) c9]) rfl (by kernel_rfl) (by kernel_rfl) (by kernel_rfl) (fun _ _ _ h=>h) (.inl ⟨rfl,fun w' hS'=>?_⟩) hSN ?_
  ·clear hS'
   go_simp
  try simp only [Act.put,sg0,sg1,sg2,sg3,sg4,sg5]
  refine N311 _ _ ⟨g2,A,c,A9,c9,g7,g10,?_,hide H9.out⟩
  simp only [Act.put,sg0,sg1,sg2,sg3,sg4,sg5]
 refine tail_to (fuel2:=2) (ls2:=#[true,true,true,true,true,true,true,true,true,true,false,false]) (fun a0 W' a'=>∃ (g2:Nat) (A0:Option Addr) (c0:Nat) (A:Option Addr) (c:Nat) (g7:Nat),a'=(((((a0.put (some 27) (.slice (some ⟨g2,0,none⟩) 0 0)).put (some 30) (.slice A0 nx c0)).put (some 32) (.slice (some ⟨g7,0,none⟩) 1 1)).put (some 33) (.slice A (nx+1) c)).put (some 34) (.agg #[.int .i64 x.n.k,.slice A (nx+1) c]))∧Hid (Run (fun _=>False) w1 (star (RowO 9 1 (.slice A (nx+1) c) (nx+1) (strB (x.n.ws ++ [s]))) emp) W')) ?_ (fun N310=>?_)
 ·rintro V a9 ⟨g2,A0,c0,A,c,g7,rfl,HR⟩
  try simp only [Act.put,sg0,sg1,sg2,sg3,sg4,sg5]
  refine wpAnyH_all (rs:=[10]) (by kernel_rfl) (by decide) (fun i hi=>?_)
  simp only [List.mem_cons,List.not_mem_nil,or_false] at hi
  subst hi
  refine wpOp_plain rfl rfl ?_
  go_wp2_with fail
  have H9:=hide ((run_new HR.out (star_ok row_ok emp_ok) #[.int .i64 0,.slice none 0 0] 28).perm (by first | rfl | ac_rfl:_=(star (RowO 9 1 (.slice A (nx+1) c) (nx+1) (strB (x.n.ws ++ [s]))) (star (CellO V.heap.size #[.int .i64 0,.slice none 0 0] 28) emp))))
  try simp only [Act.put,sg0,sg1,sg2,sg3,sg4,sg5]
  refine ⟨okN.out _ _ H9.out,N311 _ _ ⟨g2,A0,c0,A,c,g7,V.heap.size,?_,hide H9.out⟩⟩
  simp only [Act.put,sg0,sg1,sg2,sg3,sg4,sg5]
 refine tail_to (fuel2:=4) (ls2:=#[true,true,true,true,true,false,true,true,false,false,true,false]) (fun a0 W' a'=>∃ (g2:Nat) (g7:Nat) (g10:Nat),a'=(((a0.put (some 27) (.slice (some ⟨g2,0,none⟩) 0 0)).put (some 32) (.slice (some ⟨g7,0,none⟩) 1 1)).put (some 10) (.pointer (some ⟨g10,0,none⟩)))∧Hid (Run (fun _=>False) w1 (star (RowO 9 1 (.slice (some ⟨g2,0,none⟩) 0 0) 0 []) (star (CellO g7 #[.string (bs s)] 9) (star (CellO g10 #[.int .i64 0,.slice none 0 0] 28) emp))) W')) ?_ (fun N111=>?_)
 ·rintro V a9 ⟨g2,g7,g10,rfl,HR⟩
  try simp only [Act.put,sg0,sg1,sg2,sg3,sg4,sg5]
  refine wpAnyH_all (rs:=[5]) (by kernel_rfl) (by decide) (fun i hi=>?_)
  simp only [List.mem_cons,List.not_mem_nil,or_false] at hi
  subst hi
  refine wpOp_plain rfl rfl ?_
  refine app_row strsOk (.tmp 27) (.tmp 29) rfl (A:=some ⟨g2,0,none⟩) (B:=x.A) (c:=0) (n:=0) (m:=nx) (d:=x.c) (xs:=[]) (news:=strB x.n.ws) rfl rfl (HVW.out _ _ HR.out) (by have:=HLX.out;unfold maxLen;omega) (by have:=HLX.out;omega) (star_ok cell_ok (star_ok cell_ok emp_ok)) HR.out ?_
  intro A c V2 hr2
  rw [Nat.zero_add,List.nil_append] at hr2
  have H9:=hide hr2
  clear hr2
  rw [Nat.zero_add]
  try simp only [Act.put,sg0,sg1,sg2,sg3,sg4,sg5]
  refine ⟨okN.out _ _ H9.out,N211 _ _ ⟨g2,A,c,g7,g10,?_,hide H9.out⟩⟩
  simp only [Act.put,sg0,sg1,sg2,sg3,sg4,sg5]
 refine tail_to (fuel2:=4) (ls2:=#[true,true,true,true,true,true,true,false,false,false,true,false]) (fun a0 W' a'=>∃ (g2:Nat) (A:Option Addr) (c:Nat) (g10:Nat),a'=(((a0.put (some 27) (.slice (some ⟨g2,0,none⟩) 0 0)).put (some 30) (.slice A nx c)).put (some 10) (.pointer (some ⟨g10,0,none⟩)))∧Hid (Run (fun _=>False) w1 (star (RowO 9 1 (.slice A nx c) nx (strB x.n.ws)) (star (CellO g10 #[.int .i64 0,.slice none 0 0] 28) emp)) W')) ?_ (fun N201=>?_)
 ·rintro V a9 ⟨g2,A,c,g10,rfl,HR⟩
  try simp only [Act.put,sg0,sg1,sg2,sg3,sg4,sg5]
  refine wpAnyH_all (rs:=[7]) (by kernel_rfl) (by decide) (fun i hi=>?_)
  simp only [List.mem_cons,List.not_mem_nil,or_false] at hi
  subst hi
  refine wpOp_plain rfl rfl ?_
  go_wp2_with fail
  have H9:=hide ((run_new HR.out (star_ok row_ok (star_ok cell_ok emp_ok)) #[.string (bs s)] 9).perm (by first | rfl | ac_rfl:_=(star (RowO 9 1 (.slice A nx c) nx (strB x.n.ws)) (star (CellO V.heap.size #[.string (bs s)] 9) (star (CellO g10 #[.int .i64 0,.slice none 0 0] 28) emp)))))
  try simp only [Act.put,sg0,sg1,sg2,sg3,sg4,sg5]
  refine ⟨okN.out _ _ H9.out,N211 _ _ ⟨g2,A,c,V.heap.size,g10,?_,hide H9.out⟩⟩
  simp only [Act.put,sg0,sg1,sg2,sg3,sg4,sg5]
 refine tail_to (fuel2:=4) (ls2:=#[true,true,true,true,true,true,true,true,false,false,false,false]) (fun a0 W' a'=>∃ (g2:Nat) (A:Option Addr) (c:Nat) (g7:Nat),a'=(((a0.put (some 27) (.slice (some ⟨g2,0,none⟩) 0 0)).put (some 30) (.slice A nx c)).put (some 32) (.slice (some ⟨g7,0,none⟩) 1 1))∧Hid (Run (fun _=>False) w1 (star (RowO 9 1 (.slice A nx c) nx (strB x.n.ws)) (star (CellO g7 #[.string (bs s)] 9) emp)) W')) ?_ (fun N210=>?_)
 ·rintro V a9 ⟨g2,A,c,g7,rfl,HR⟩
  try simp only [Act.put,sg0,sg1,sg2,sg3,sg4,sg5]
  refine wpAnyH_all (rs:=[8,10]) (by kernel_rfl) (by decide) (fun i hi=>?_)
  simp only [List.mem_cons,List.not_mem_nil,or_false] at hi
  rcases hi with rfl | rfl
  ·refine wpOp_plain rfl rfl ?_
   obtain ⟨F7,hF7⟩:=HR.out.drop.fst
   refine app_row strsOk (.tmp 30) (.tmp 32) rfl (A:=A) (B:=some ⟨g7,0,none⟩) (c:=c) (n:=nx) (m:=1) (d:=1) (xs:=strB x.n.ws) (news:=[.string (bs s)]) rfl rfl (src_cell hF7 rfl) (by have:=HLX.out;unfold maxLen;omega) (by have:=HLX.out;omega) (star_ok cell_ok emp_ok) HR.out ?_
   intro A9 c9 V2 hr2
   rw [show strB x.n.ws ++ [.string (bs s)]=strB (x.n.ws ++ [s]) by unfold strB;rw [List.map_append];rfl] at hr2
   have H9:=hide (show Run (fun _=>False) w1 (star (RowO 9 1 (.slice A9 (nx+1) c9) (nx+1) (strB (x.n.ws ++ [s]))) emp) V2 from (hr2.perm (star_left:_=star (CellO g7 #[.string (bs s)] 9) (star (RowO 9 1 (.slice A9 (nx+1) c9) (nx+1) (strB (x.n.ws ++ [s]))) emp))).drop)
   clear hr2 hF7 F7
   try simp only [Act.put,sg0,sg1,sg2,sg3,sg4,sg5]
   refine ⟨okN.out _ _ H9.out,?_⟩
   have hSN:=okN.out _ _ H9.out
   refine wpAnyH_take (i:=9) (v:=.agg #[.int .i64 x.n.k,.slice A9 (nx+1) c9]) rfl (by kernel_rfl) (by kernel_rfl) (by kernel_rfl) (fun _ _ _ h=>h) (.inl ⟨rfl,fun w' hS'=>?_⟩) hSN ?_
   ·clear hS'
    go_simp
   try simp only [Act.put,sg0,sg1,sg2,sg3,sg4,sg5]
   refine N310 _ _ ⟨g2,A,c,A9,c9,g7,?_,hide H9.out⟩
   simp only [Act.put,sg0,sg1,sg2,sg3,sg4,sg5]
  ·refine wpOp_plain rfl rfl ?_
   go_wp2_with fail
   have H9:=hide ((run_new HR.out (star_ok row_ok (star_ok cell_ok emp_ok)) #[.int .i64 0,.slice none 0 0] 28).perm (by first | rfl | ac_rfl:_=(star (RowO 9 1 (.slice A nx c) nx (strB x.n.ws)) (star (CellO g7 #[.string (bs s)] 9) (star (CellO V.heap.size #[.int .i64 0,.slice none 0 0] 28) emp)))))
   try simp only [Act.put,sg0,sg1,sg2,sg3,sg4,sg5]
   refine ⟨okN.out _ _ H9.out,N211 _ _ ⟨g2,A,c,g7,V.heap.size,?_,hide H9.out⟩⟩
   simp only [Act.put,sg0,sg1,sg2,sg3,sg4,sg5]
 refine tail_to (fuel2:=5) (ls2:=#[true,true,false,true,true,false,true,true,false,false,true,false]) (fun a0 W' a'=>∃ (g7:Nat) (g10:Nat),a'=((a0.put (some 32) (.slice (some ⟨g7,0,none⟩) 1 1)).put (some 10) (.pointer (some ⟨g10,0,none⟩)))∧Hid (Run (fun _=>False) w1 (star (CellO g7 #[.string (bs s)] 9) (star (CellO g10 #[.int .i64 0,.slice none 0 0] 28) emp)) W')) ?_ (fun N011=>?_)
 ·rintro V a9 ⟨g7,g10,rfl,HR⟩
  try simp only [Act.put,sg0,sg1,sg2,sg3,sg4,sg5]
  refine wpAnyH_all (rs:=[2]) (by kernel_rfl) (by decide) (fun i hi=>?_)
  simp only [List.mem_cons,List.not_mem_nil,or_false] at hi
  subst hi
  refine wpOp_plain rfl rfl ?_
  go_wp2_with fail
  have H9:=hide ((HR.out.fresh (star_ok cell_ok (star_ok cell_ok emp_ok)) (row_made V 9 1)).perm (by first | rfl | ac_rfl:_=(star (RowO 9 1 (.slice (some ⟨V.heap.size,0,none⟩) 0 0) 0 []) (star (CellO g7 #[.string (bs s)] 9) (star (CellO g10 #[.int .i64 0,.slice none 0 0] 28) emp)))))
  try simp only [Act.put,sg0,sg1,sg2,sg3,sg4,sg5]
  refine ⟨okN.out _ _ H9.out,N111 _ _ ⟨V.heap.size,g7,g10,?_,hide H9.out⟩⟩
  simp only [Act.put,sg0,sg1,sg2,sg3,sg4,sg5]
 refine tail_to (fuel2:=5) (ls2:=#[true,true,true,true,true,false,true,false,false,false,true,false]) (fun a0 W' a'=>∃ (g2:Nat) (g10:Nat),a'=((a0.put (some 27) (.slice (some ⟨g2,0,none⟩) 0 0)).put (some 10) (.pointer (some ⟨g10,0,none⟩)))∧Hid (Run (fun _=>False) w1 (star (RowO 9 1 (.slice (some ⟨g2,0,none⟩) 0 0) 0 []) (star (CellO g10 #[.int .i64 0,.slice none 0 0] 28) emp)) W')) ?_ (fun N101=>?_)
 ·rintro V a9 ⟨g2,g10,rfl,HR⟩
  try simp only [Act.put,sg0,sg1,sg2,sg3,sg4,sg5]
  refine wpAnyH_all (rs:=[5,7]) (by kernel_rfl) (by decide) (fun i hi=>?_)
  simp only [List.mem_cons,List.not_mem_nil,or_false] at hi
  rcases hi with rfl | rfl
  ·refine wpOp_plain rfl rfl ?_
   refine app_row strsOk (.tmp 27) (.tmp 29) rfl (A:=some ⟨g2,0,none⟩) (B:=x.A) (c:=0) (n:=0) (m:=nx) (d:=x.c) (xs:=[]) (news:=strB x.n.ws) rfl rfl (HVW.out _ _ HR.out) (by have:=HLX.out;unfold maxLen;omega) (by have:=HLX.out;omega) (star_ok cell_ok emp_ok) HR.out ?_
   intro A c V2 hr2
   rw [Nat.zero_add,List.nil_append] at hr2
   have H9:=hide hr2
   clear hr2
   rw [Nat.zero_add]
   try simp only [Act.put,sg0,sg1,sg2,sg3,sg4,sg5]
   refine ⟨okN.out _ _ H9.out,N201 _ _ ⟨g2,A,c,g10,?_,hide H9.out⟩⟩
   simp only [Act.put,sg0,sg1,sg2,sg3,sg4,sg5]
  ·refine wpOp_plain rfl rfl ?_
   go_wp2_with fail
   have H9:=hide ((run_new HR.out (star_ok row_ok (star_ok cell_ok emp_ok)) #[.string (bs s)] 9).perm (by first | rfl | ac_rfl:_=(star (RowO 9 1 (.slice (some ⟨g2,0,none⟩) 0 0) 0 []) (star (CellO V.heap.size #[.string (bs s)] 9) (star (CellO g10 #[.int .i64 0,.slice none 0 0] 28) emp)))))
   try simp only [Act.put,sg0,sg1,sg2,sg3,sg4,sg5]
   refine ⟨okN.out _ _ H9.out,N111 _ _ ⟨g2,V.heap.size,g10,?_,hide H9.out⟩⟩
   simp only [Act.put,sg0,sg1,sg2,sg3,sg4,sg5]
 refine tail_to (fuel2:=5) (ls2:=#[true,true,true,true,true,false,true,true,false,false,false,false]) (fun a0 W' a'=>∃ (g2:Nat) (g7:Nat),a'=((a0.put (some 27) (.slice (some ⟨g2,0,none⟩) 0 0)).put (some 32) (.slice (some ⟨g7,0,none⟩) 1 1))∧Hid (Run (fun _=>False) w1 (star (RowO 9 1 (.slice (some ⟨g2,0,none⟩) 0 0) 0 []) (star (CellO g7 #[.string (bs s)] 9) emp)) W')) ?_ (fun N110=>?_)
 ·rintro V a9 ⟨g2,g7,rfl,HR⟩
  try simp only [Act.put,sg0,sg1,sg2,sg3,sg4,sg5]
  refine wpAnyH_all (rs:=[5,10]) (by kernel_rfl) (by decide) (fun i hi=>?_)
  simp only [List.mem_cons,List.not_mem_nil,or_false] at hi
  rcases hi with rfl | rfl
  ·refine wpOp_plain rfl rfl ?_
   refine app_row strsOk (.tmp 27) (.tmp 29) rfl (A:=some ⟨g2,0,none⟩) (B:=x.A) (c:=0) (n:=0) (m:=nx) (d:=x.c) (xs:=[]) (news:=strB x.n.ws) rfl rfl (HVW.out _ _ HR.out) (by have:=HLX.out;unfold maxLen;omega) (by have:=HLX.out;omega) (star_ok cell_ok emp_ok) HR.out ?_
   intro A c V2 hr2
   rw [Nat.zero_add,List.nil_append] at hr2
   have H9:=hide hr2
   clear hr2
   rw [Nat.zero_add]
   try simp only [Act.put,sg0,sg1,sg2,sg3,sg4,sg5]
   refine ⟨okN.out _ _ H9.out,N210 _ _ ⟨g2,A,c,g7,?_,hide H9.out⟩⟩
   simp only [Act.put,sg0,sg1,sg2,sg3,sg4,sg5]
  ·refine wpOp_plain rfl rfl ?_
   go_wp2_with fail
   have H9:=hide ((run_new HR.out (star_ok row_ok (star_ok cell_ok emp_ok)) #[.int .i64 0,.slice none 0 0] 28).perm (by first | rfl | ac_rfl:_=(star (RowO 9 1 (.slice (some ⟨g2,0,none⟩) 0 0) 0 []) (star (CellO g7 #[.string (bs s)] 9) (star (CellO V.heap.size #[.int .i64 0,.slice none 0 0] 28) emp)))))
   try simp only [Act.put,sg0,sg1,sg2,sg3,sg4,sg5]
   refine ⟨okN.out _ _ H9.out,N111 _ _ ⟨g2,g7,V.heap.size,?_,hide H9.out⟩⟩
   simp only [Act.put,sg0,sg1,sg2,sg3,sg4,sg5]
 refine tail_to (fuel2:=5) (ls2:=#[true,true,true,true,true,true,true,false,false,false,false,false]) (fun a0 W' a'=>∃ (g2:Nat) (A:Option Addr) (c:Nat),a'=((a0.put (some 27) (.slice (some ⟨g2,0,none⟩) 0 0)).put (some 30) (.slice A nx c))∧Hid (Run (fun _=>False) w1 (star (RowO 9 1 (.slice A nx c) nx (strB x.n.ws)) emp) W')) ?_ (fun N200=>?_)
 ·rintro V a9 ⟨g2,A,c,rfl,HR⟩
  try simp only [Act.put,sg0,sg1,sg2,sg3,sg4,sg5]
  refine wpAnyH_all (rs:=[7,10]) (by kernel_rfl) (by decide) (fun i hi=>?_)
  simp only [List.mem_cons,List.not_mem_nil,or_false] at hi
  rcases hi with rfl | rfl
  ·refine wpOp_plain rfl rfl ?_
   go_wp2_with fail
   have H9:=hide ((run_new HR.out (star_ok row_ok emp_ok) #[.string (bs s)] 9).perm (by first | rfl | ac_rfl:_=(star (RowO 9 1 (.slice A nx c) nx (strB x.n.ws)) (star (CellO V.heap.size #[.string (bs s)] 9) emp))))
   try simp only [Act.put,sg0,sg1,sg2,sg3,sg4,sg5]
   refine ⟨okN.out _ _ H9.out,N210 _ _ ⟨g2,A,c,V.heap.size,?_,hide H9.out⟩⟩
   simp only [Act.put,sg0,sg1,sg2,sg3,sg4,sg5]
  ·refine wpOp_plain rfl rfl ?_
   go_wp2_with fail
   have H9:=hide ((run_new HR.out (star_ok row_ok emp_ok) #[.int .i64 0,.slice none 0 0] 28).perm (by first | rfl | ac_rfl:_=(star (RowO 9 1 (.slice A nx c) nx (strB x.n.ws)) (star (CellO V.heap.size #[.int .i64 0,.slice none 0 0] 28) emp))))
   try simp only [Act.put,sg0,sg1,sg2,sg3,sg4,sg5]
   refine ⟨okN.out _ _ H9.out,N201 _ _ ⟨g2,A,c,V.heap.size,?_,hide H9.out⟩⟩
   simp only [Act.put,sg0,sg1,sg2,sg3,sg4,sg5]
 refine tail_to (fuel2:=6) (ls2:=#[true,true,false,true,true,false,true,false,false,false,true,false]) (fun a0 W' a'=>∃ (g10:Nat),a'=(a0.put (some 10) (.pointer (some ⟨g10,0,none⟩)))∧Hid (Run (fun _=>False) w1 (star (CellO g10 #[.int .i64 0,.slice none 0 0] 28) emp) W')) ?_ (fun N001=>?_)
 ·rintro V a9 ⟨g10,rfl,HR⟩
  try simp only [Act.put,sg0,sg1,sg2,sg3,sg4,sg5]
  refine wpAnyH_all (rs:=[2,7]) (by kernel_rfl) (by decide) (fun i hi=>?_)
  simp only [List.mem_cons,List.not_mem_nil,or_false] at hi
  rcases hi with rfl | rfl
  ·refine wpOp_plain rfl rfl ?_
   go_wp2_with fail
   have H9:=hide ((HR.out.fresh (star_ok cell_ok emp_ok) (row_made V 9 1)).perm (by first | rfl | ac_rfl:_=(star (RowO 9 1 (.slice (some ⟨V.heap.size,0,none⟩) 0 0) 0 []) (star (CellO g10 #[.int .i64 0,.slice none 0 0] 28) emp))))
   try simp only [Act.put,sg0,sg1,sg2,sg3,sg4,sg5]
   refine ⟨okN.out _ _ H9.out,N101 _ _ ⟨V.heap.size,g10,?_,hide H9.out⟩⟩
   simp only [Act.put,sg0,sg1,sg2,sg3,sg4,sg5]
  ·refine wpOp_plain rfl rfl ?_
   go_wp2_with fail
   have H9:=hide ((run_new HR.out (star_ok cell_ok emp_ok) #[.string (bs s)] 9).perm (by first | rfl | ac_rfl:_=(star (CellO V.heap.size #[.string (bs s)] 9) (star (CellO g10 #[.int .i64 0,.slice none 0 0] 28) emp))))
   try simp only [Act.put,sg0,sg1,sg2,sg3,sg4,sg5]
   refine ⟨okN.out _ _ H9.out,N011 _ _ ⟨V.heap.size,g10,?_,hide H9.out⟩⟩
   simp only [Act.put,sg0,sg1,sg2,sg3,sg4,sg5]
 refine tail_to (fuel2:=6) (ls2:=#[true,true,false,true,true,false,true,true,false,false,false,false]) (fun a0 W' a'=>∃ (g7:Nat),a'=(a0.put (some 32) (.slice (some ⟨g7,0,none⟩) 1 1))∧Hid (Run (fun _=>False) w1 (star (CellO g7 #[.string (bs s)] 9) emp) W')) ?_ (fun N010=>?_)
 ·rintro V a9 ⟨g7,rfl,HR⟩
  try simp only [Act.put,sg0,sg1,sg2,sg3,sg4,sg5]
  refine wpAnyH_all (rs:=[2,10]) (by kernel_rfl) (by decide) (fun i hi=>?_)
  simp only [List.mem_cons,List.not_mem_nil,or_false] at hi
  rcases hi with rfl | rfl
  ·refine wpOp_plain rfl rfl ?_
   go_wp2_with fail
   have H9:=hide ((HR.out.fresh (star_ok cell_ok emp_ok) (row_made V 9 1)).perm (by first | rfl | ac_rfl:_=(star (RowO 9 1 (.slice (some ⟨V.heap.size,0,none⟩) 0 0) 0 []) (star (CellO g7 #[.string (bs s)] 9) emp))))
   try simp only [Act.put,sg0,sg1,sg2,sg3,sg4,sg5]
   refine ⟨okN.out _ _ H9.out,N110 _ _ ⟨V.heap.size,g7,?_,hide H9.out⟩⟩
   simp only [Act.put,sg0,sg1,sg2,sg3,sg4,sg5]
  ·refine wpOp_plain rfl rfl ?_
   go_wp2_with fail
   have H9:=hide ((run_new HR.out (star_ok cell_ok emp_ok) #[.int .i64 0,.slice none 0 0] 28).perm (by first | rfl | ac_rfl:_=(star (CellO g7 #[.string (bs s)] 9) (star (CellO V.heap.size #[.int .i64 0,.slice none 0 0] 28) emp))))
   try simp only [Act.put,sg0,sg1,sg2,sg3,sg4,sg5]
   refine ⟨okN.out _ _ H9.out,N011 _ _ ⟨g7,V.heap.size,?_,hide H9.out⟩⟩
   simp only [Act.put,sg0,sg1,sg2,sg3,sg4,sg5]
 refine tail_to (fuel2:=6) (ls2:=#[true,true,true,true,true,false,true,false,false,false,false,false]) (fun a0 W' a'=>∃ (g2:Nat),a'=(a0.put (some 27) (.slice (some ⟨g2,0,none⟩) 0 0))∧Hid (Run (fun _=>False) w1 (star (RowO 9 1 (.slice (some ⟨g2,0,none⟩) 0 0) 0 []) emp) W')) ?_ (fun N100=>?_)
 ·rintro V a9 ⟨g2,rfl,HR⟩
  try simp only [Act.put,sg0,sg1,sg2,sg3,sg4,sg5]
  refine wpAnyH_all (rs:=[5,7,10]) (by kernel_rfl) (by decide) (fun i hi=>?_)
  simp only [List.mem_cons,List.not_mem_nil,or_false] at hi
  rcases hi with rfl | rfl | rfl
  ·refine wpOp_plain rfl rfl ?_
   refine app_row strsOk (.tmp 27) (.tmp 29) rfl (A:=some ⟨g2,0,none⟩) (B:=x.A) (c:=0) (n:=0) (m:=nx) (d:=x.c) (xs:=[]) (news:=strB x.n.ws) rfl rfl (HVW.out _ _ HR.out) (by have:=HLX.out;unfold maxLen;omega) (by have:=HLX.out;omega) emp_ok HR.out ?_
   intro A c V2 hr2
   rw [Nat.zero_add,List.nil_append] at hr2
   have H9:=hide hr2
   clear hr2
   rw [Nat.zero_add]
   try simp only [Act.put,sg0,sg1,sg2,sg3,sg4,sg5]
   refine ⟨okN.out _ _ H9.out,N200 _ _ ⟨g2,A,c,?_,hide H9.out⟩⟩
   simp only [Act.put,sg0,sg1,sg2,sg3,sg4,sg5]
  ·refine wpOp_plain rfl rfl ?_
   go_wp2_with fail
   have H9:=hide ((run_new HR.out (star_ok row_ok emp_ok) #[.string (bs s)] 9).perm (by first | rfl | ac_rfl:_=(star (RowO 9 1 (.slice (some ⟨g2,0,none⟩) 0 0) 0 []) (star (CellO V.heap.size #[.string (bs s)] 9) emp))))
   try simp only [Act.put,sg0,sg1,sg2,sg3,sg4,sg5]
   refine ⟨okN.out _ _ H9.out,N110 _ _ ⟨g2,V.heap.size,?_,hide H9.out⟩⟩
   simp only [Act.put,sg0,sg1,sg2,sg3,sg4,sg5]
  ·refine wpOp_plain rfl rfl ?_
   go_wp2_with fail
   have H9:=hide ((run_new HR.out (star_ok row_ok emp_ok) #[.int .i64 0,.slice none 0 0] 28).perm (by first | rfl | ac_rfl:_=(star (RowO 9 1 (.slice (some ⟨g2,0,none⟩) 0 0) 0 []) (star (CellO V.heap.size #[.int .i64 0,.slice none 0 0] 28) emp))))
   try simp only [Act.put,sg0,sg1,sg2,sg3,sg4,sg5]
   refine ⟨okN.out _ _ H9.out,N101 _ _ ⟨g2,V.heap.size,?_,hide H9.out⟩⟩
   simp only [Act.put,sg0,sg1,sg2,sg3,sg4,sg5]
 have HR:=hide ((Run.begin w1).drew emp_ok)
 generalize w1.drew=V at *
 refine wpAnyH_all (rs:=[2,7,10]) (by kernel_rfl) (by decide) (fun i hi=>?_)
 simp only [List.mem_cons,List.not_mem_nil,or_false] at hi
 rcases hi with rfl | rfl | rfl
 ·refine wpOp_plain rfl rfl ?_
  go_wp2_with fail
  have H9:=hide ((HR.out.fresh emp_ok (row_made V 9 1)).perm (by first | rfl | ac_rfl:_=(star (RowO 9 1 (.slice (some ⟨V.heap.size,0,none⟩) 0 0) 0 []) emp)))
  try simp only [Act.put,sg0,sg1,sg2,sg3,sg4,sg5]
  refine ⟨okN.out _ _ H9.out,N100 _ _ ⟨V.heap.size,?_,hide H9.out⟩⟩
  simp only [Act.put,sg0,sg1,sg2,sg3,sg4,sg5]
 ·refine wpOp_plain rfl rfl ?_
  go_wp2_with fail
  have H9:=hide ((run_new HR.out emp_ok #[.string (bs s)] 9).perm (by first | rfl | ac_rfl:_=(star (CellO V.heap.size #[.string (bs s)] 9) emp)))
  try simp only [Act.put,sg0,sg1,sg2,sg3,sg4,sg5]
  refine ⟨okN.out _ _ H9.out,N010 _ _ ⟨V.heap.size,?_,hide H9.out⟩⟩
  simp only [Act.put,sg0,sg1,sg2,sg3,sg4,sg5]
 ·refine wpOp_plain rfl rfl ?_
  go_wp2_with fail
  have H9:=hide ((run_new HR.out emp_ok #[.int .i64 0,.slice none 0 0] 28).perm (by first | rfl | ac_rfl:_=(star (CellO V.heap.size #[.int .i64 0,.slice none 0 0] 28) emp)))
  try simp only [Act.put,sg0,sg1,sg2,sg3,sg4,sg5]
  refine ⟨okN.out _ _ H9.out,N001 _ _ ⟨V.heap.size,?_,hide H9.out⟩⟩
  simp only [Act.put,sg0,sg1,sg2,sg3,sg4,sg5]
end Go.Proofs.YtbnnlpjpnihheaaGreatDoor
