import Derived.Test.YtbnnlpjpnihheaaGreatDoorMA8
import Derived.Test.YtbnnlpjpnihheaaGreatDoorMA4
import Derived.Test.YtbnnlpjpnihheaaGreatDoorMA3
import Derived.Deep.DeepCutAuto
set_option linter.unusedSimpArgs false
set_option linter.unusedVariables false
namespace Go.Proofs.YtbnnlpjpnihheaaGreatDoor
open Go.RowKit Go.CH Go.CH.Scr Go.CH.Pot
open Go.ChangeMaps (setBlock)
set_option maxHeartbeats 6400000 in
set_option maxRecDepth 100000 in
theorem open_any {w:World} {T:Tab} {a:TA} (hT:TabR w T a) (hz:LZ w) (k:Int) (x:Bs) (k2:Int) (y:Bs) (hx:x.length≤1000000) (hy:y.length≤1000000) :
  Calls Tryz.prog 95 #[tabV T a,.int .i64 k,.string (bs x),.int .i64 k2,.string (bs y)] w (WordsRet w T k x k2 y):=by
 have HT:=hide hT
 have HZ:=hide hz
 have h1:Run (fun _=>False) w (star (CellO w.heap.size (tabC T a) 25) emp) _:=run_new (Run.begin w) emp_ok (tabC T a) 25
 have K1:=hide (fun W (h:Below w.heap.size w W)=>sideOf_any (hT.below h) (hz.below h) k x hx)
 have K2:=hide (fun W (h:Below w.heap.size w W)=>sideOf_any (hT.below h) (hz.below h) k2 y hy)
 have KV:=hide (fun W (h:Below w.heap.size w W)=>tvalid_any (hT.below h) (hz.below h))
 have HBE:=hide (fun W O (h:Run (fun _=>False) w O W)=>(show Below w.heap.size w W from h.mod.below (fun _ _ h=>h)))
 have H1:=hide h1
 clear hT hz h1
 unfold SideRet at K1 K2
 unfold tabV tabC at K1 K2 KV ⊢
 unfold tabC at H1
 go_enter Tryz.func95,Tryz.ntmps95
 have H2:=hide (show Run (fun _=>False) w (star (CellO (w.heap.size+1) #[.slice none 0 0,.slice none 0 0,.slice none 0 0,.slice none 0 0] 169) (star (CellO w.heap.size #[.slice a.A T.rs.length a.c,.slice a.D T.ds.length a.d,.slice a.E T.es.length a.e,.int .i64 T.drop,.int .i64 T.ord,.int .i64 T.ini] 25) emp)) _ from (by have h2:=run_new H1.out (star_ok cell_ok emp_ok) #[.slice none 0 0,.slice none 0 0,.slice none 0 0,.slice none 0 0] 169;rw [World.size_alloc] at h2;exact h2))
 go_upto_region 1 with (fail)
 clear H1
 generalize hw1:(w.alloc (.cells #[.slice a.A T.rs.length a.c,.slice a.D T.ds.length a.d,.slice a.E T.es.length a.e,.int .i64 T.drop,.int .i64 T.ord,.int .i64 T.ini] 25)).alloc (.cells #[.slice none 0 0,.slice none 0 0,.slice none 0 0,.slice none 0 0] 169)=w1 at *
 clear hw1
 generalize w.heap.size+1=gr at *
 generalize w.heap.size=gt at H2 ⊢
 have OK2:=hide (show (star (CellO gr #[.slice none 0 0,.slice none 0 0,.slice none 0 0,.slice none 0 0] 169) (star (CellO gt #[.slice a.A T.rs.length a.c,.slice a.D T.ds.length a.d,.slice a.E T.es.length a.e,.int .i64 T.drop,.int .i64 T.ord,.int .i64 T.ini] 25) emp)).Ok from star_ok cell_ok (star_ok cell_ok emp_ok))
 have hct:∀ (W:World) (X:CH.Own),Run (fun _=>False) w (star (CellO gt #[.slice a.A T.rs.length a.c,.slice a.D T.ds.length a.d,.slice a.E T.es.length a.e,.int .i64 T.drop,.int .i64 T.ord,.int .i64 T.ini] 25) X) W→W.cell? ⟨gt,0,none⟩=some (.slice a.A T.rs.length a.c)∧W.cell? ⟨gt,1,none⟩=some (.slice a.D T.ds.length a.d)∧W.cell? ⟨gt,2,none⟩=some (.slice a.E T.es.length a.e)∧W.cell? ⟨gt,3,none⟩=some (.int .i64 T.drop)∧W.cell? ⟨gt,4,none⟩=some (.int .i64 T.ord)∧W.cell? ⟨gt,5,none⟩=some (.int .i64 T.ini):=fun W X h=>by
  obtain ⟨f,hf⟩:=h.fst
  exact ⟨cell_at hf rfl,cell_at hf rfl,cell_at hf rfl,cell_at hf rfl,cell_at hf rfl,cell_at hf rfl⟩
 have HCT:=hide hct
 clear hct
 obtain ⟨c0,c1,c2,c3,c4,c5⟩:=HCT.out _ _ H2.out.drop
 go_wp2_with fail
 refine (K1.out _ (HBE.out _ _ H2.out)).mono ?_
 rintro e9 w2 ⟨s1,rfl,hq1,hp⟩
 have HQ1:=hide hq1
 have H3:=hide (H2.out.fresh OK2.out hp)
 clear K1 H2 hp hq1 c0 c1 c2 c3 c4 c5
 obtain ⟨l1,hl1⟩:∃ l,l=(sideN T k x).1:=⟨_,rfl⟩
 have HL1:=hide hl1
 rw [←hl1] at H3 ⊢
 clear hl1
 unfold sideC
 dsimp only
 have H4:=hide (run_new H3.out (star_ok side_ok OK2.out) #[.slice s1.L l1.length s1.lc,.slice s1.R s1.q.length s1.rc] 167)
 clear H3
 go_upto_region 2 with (fail)
 generalize w2.alloc (.cells #[.slice s1.L l1.length s1.lc,.slice s1.R s1.q.length s1.rc] 167)=w3 at *
 generalize w2.heap.size=ga at *
 obtain ⟨c0,c1,c2,c3,c4,c5⟩:=HCT.out _ _ H4.out.drop.drop.drop
 go_wp2_with fail
 refine (K2.out _ (HBE.out _ _ H4.out)).mono ?_
 rintro e9 w4 ⟨s2,rfl,hq2,hp⟩
 have HQ2:=hide hq2
 have H5:=hide (H4.out.fresh (star_ok cell_ok (star_ok side_ok OK2.out)) hp)
 clear K2 H4 hp hq2 c0 c1 c2 c3 c4 c5
 obtain ⟨l2,hl2⟩:∃ l,l=(sideN T k2 y).1:=⟨_,rfl⟩
 have HL2:=hide hl2
 rw [←hl2] at H5 ⊢
 clear hl2
 unfold sideC
 dsimp only
 have H6:=hide (run_new H5.out (star_ok side_ok (star_ok cell_ok (star_ok side_ok OK2.out))) #[.slice s2.L l2.length s2.lc,.slice s2.R s2.q.length s2.rc] 167)
 clear H5
 go_upto_region 3 with (fail)
 generalize w4.alloc (.cells #[.slice s2.L l2.length s2.lc,.slice s2.R s2.q.length s2.rc] 167)=w5 at *
 generalize w4.heap.size=gb at *
 have HFIN0:=hide (fun (W:World) (b:Bool) (hb:okW T k x k2 y=b) (Y:CH.Own) (h:Run (fun _=>False) w (star (SideO l1 s1) (star (SideO l2 s2) Y)) W)=>words_of (a:=a) HT.out HQ1.out HQ2.out (by rw [←HL1.out,←HL2.out];exact h) b hb)
 have hwc:wordsC (ofW T k x k2 y) ⟨s1,s2⟩=#[.slice s1.L l1.length s1.lc,.slice s1.R s1.q.length s1.rc,.slice s2.L l2.length s2.lc,.slice s2.R s2.q.length s2.rc]:=by
  have e1:=HL1.out.trans (sideN_fst T k x)
  have e2:=HL2.out.trans (sideN_fst T k2 y)
  unfold wordsC ofW
  rw [e1,e2]
 have HFIN:=hide (show ∀ (W:World) (r:Array Value) (b:Bool),okW T k x k2 y=b→Run (fun _=>False) w (star (CellO gr r 169) (star (CellO gb #[.slice s2.L l2.length s2.lc,.slice s2.R s2.q.length s2.rc] 167) (star (CellO ga #[.slice s1.L l1.length s1.lc,.slice s1.R s1.q.length s1.rc] 167) (star (CellO gt #[.slice a.A T.rs.length a.c,.slice a.D T.ds.length a.d,.slice a.E T.es.length a.e,.int .i64 T.drop,.int .i64 T.ord,.int .i64 T.ini] 25) (star (SideO l1 s1) (SideO l2 s2)))))) W→WordsRet w T k x k2 y (.returned (.tuple #[.agg #[.slice s1.L l1.length s1.lc,.slice s1.R s1.q.length s1.rc,.slice s2.L l2.length s2.lc,.slice s2.R s2.q.length s2.rc],.bool b])) W from fun W r b hb h=>by
  rw [←hwc]
  exact HFIN0.out W b hb _ (h.perm (by ac_rfl:_=star (SideO l1 s1) (star (SideO l2 s2) (star (CellO gr r 169) (star (CellO gb #[.slice s2.L l2.length s2.lc,.slice s2.R s2.q.length s2.rc] 167) (star (CellO ga #[.slice s1.L l1.length s1.lc,.slice s1.R s1.q.length s1.rc] 167) (CellO gt #[.slice a.A T.rs.length a.c,.slice a.D T.ds.length a.d,.slice a.E T.es.length a.e,.int .i64 T.drop,.int .i64 T.ord,.int .i64 T.ini] 25)))))))
 )
 clear hwc HFIN0
 have OKX:=hide (show (star (CellO gb #[.slice s2.L l2.length s2.lc,.slice s2.R s2.q.length s2.rc] 167) (star (CellO ga #[.slice s1.L l1.length s1.lc,.slice s1.R s1.q.length s1.rc] 167) (star (CellO gt #[.slice a.A T.rs.length a.c,.slice a.D T.ds.length a.d,.slice a.E T.es.length a.e,.int .i64 T.drop,.int .i64 T.ord,.int .i64 T.ini] 25) (star (SideO l1 s1) (SideO l2 s2))))).Ok from star_ok cell_ok (star_ok cell_ok (star_ok cell_ok (star_ok side_ok side_ok))))
 have hSS:∀ (W:World) (r:Array Value),Run (fun _=>False) w (star (CellO gr r 169) (star (CellO gb #[.slice s2.L l2.length s2.lc,.slice s2.R s2.q.length s2.rc] 167) (star (CellO ga #[.slice s1.L l1.length s1.lc,.slice s1.R s1.q.length s1.rc] 167) (star (CellO gt #[.slice a.A T.rs.length a.c,.slice a.D T.ds.length a.d,.slice a.E T.es.length a.e,.int .i64 T.drop,.int .i64 T.ord,.int .i64 T.ini] 25) (star (SideO l1 s1) (SideO l2 s2)))))) W→(fun w':World=>w'.cell? ⟨ga,0,none⟩=some (.slice s1.L l1.length s1.lc)∧w'.cell? ⟨ga,1,none⟩=some (.slice s1.R s1.q.length s1.rc)∧w'.cell? ⟨gb,0,none⟩=some (.slice s2.L l2.length s2.lc)∧w'.cell? ⟨gb,1,none⟩=some (.slice s2.R s2.q.length s2.rc)∧w'.cell? ⟨gt,0,none⟩=some (.slice a.A T.rs.length a.c)∧w'.cell? ⟨gt,1,none⟩=some (.slice a.D T.ds.length a.d)∧w'.cell? ⟨gt,2,none⟩=some (.slice a.E T.es.length a.e)∧w'.cell? ⟨gt,3,none⟩=some (.int .i64 T.drop)∧w'.cell? ⟨gt,4,none⟩=some (.int .i64 T.ord)∧w'.cell? ⟨gt,5,none⟩=some (.int .i64 T.ini)) W:=fun W r h=>by
  obtain ⟨f1,h1⟩:=h.drop.fst
  obtain ⟨f2,h2⟩:=h.drop.drop.fst
  obtain ⟨f3,h3⟩:=h.drop.drop.drop.fst
  exact ⟨cell_at h2 rfl,cell_at h2 rfl,cell_at h1 rfl,cell_at h1 rfl,cell_at h3 rfl,cell_at h3 rfl,cell_at h3 rfl,cell_at h3 rfl,cell_at h3 rfl,cell_at h3 rfl⟩
 have HSS:=hide hSS
 clear hSS
 have H7:=hide ((H6.out.perm (by rw [star_emp_eq];ac_rfl:_=(star (CellO gr #[.slice none 0 0,.slice none 0 0,.slice none 0 0,.slice none 0 0] 169) (star (CellO gb #[.slice s2.L l2.length s2.lc,.slice s2.R s2.q.length s2.rc] 167) (star (CellO ga #[.slice s1.L l1.length s1.lc,.slice s1.R s1.q.length s1.rc] 167) (star (CellO gt #[.slice a.A T.rs.length a.c,.slice a.D T.ds.length a.d,.slice a.E T.es.length a.e,.int .i64 T.drop,.int .i64 T.ord,.int .i64 T.ini] 25) (star (SideO l1 s1) (SideO l2 s2)))))))).drew (star_ok cell_ok OKX.out))
 have hS0:=HSS.out _ _ H7.out
 clear H6
 cases hb1:word k x with
 | false =>
  refine wp_region_lex (fun w':World=>w'.cell? ⟨ga,0,none⟩=some (.slice s1.L l1.length s1.lc)∧w'.cell? ⟨ga,1,none⟩=some (.slice s1.R s1.q.length s1.rc)∧w'.cell? ⟨gb,0,none⟩=some (.slice s2.L l2.length s2.lc)∧w'.cell? ⟨gb,1,none⟩=some (.slice s2.R s2.q.length s2.rc)∧w'.cell? ⟨gt,0,none⟩=some (.slice a.A T.rs.length a.c)∧w'.cell? ⟨gt,1,none⟩=some (.slice a.D T.ds.length a.d)∧w'.cell? ⟨gt,2,none⟩=some (.slice a.E T.es.length a.e)∧w'.cell? ⟨gt,3,none⟩=some (.int .i64 T.drop)∧w'.cell? ⟨gt,4,none⟩=some (.int .i64 T.ord)∧w'.cell? ⟨gt,5,none⟩=some (.int .i64 T.ini)) (by rfl) (by kernel_rfl) hS0 ?_
  clear hS0
  generalize w5.drew=w6 at *
  obtain ⟨r0,r1,r2,r3,rf⟩:=run_c4 H7.out
  (repeat ((first | refine lex_skip (by rfl) ?_ | (refine lex_read (v:=?_) (by rfl) ?_ ?_;rotate_left;(focus (intro w' hS';go_simp;(try with_reducible rfl);done))));try simp only [Act.put,List.setIfInBounds_toArray,List.set_cons_zero,List.set_cons_succ]))
  refine lex_chain rfl (by rfl) (fun K hK=>?_)
  go_wp2_with fail
    
  have H8:=hide (run_setc (run_setc (run_setc (run_setc (H7.out) OKX.out 0 (.slice s1.L l1.length s1.lc)) OKX.out 1 (.slice s1.R s1.q.length s1.rc)) OKX.out 2 (.slice s2.L l2.length s2.lc)) OKX.out 3 (.slice s2.R s2.q.length s2.rc):Run (fun _=>False) w (star (CellO gr #[.slice s1.L l1.length s1.lc,.slice s1.R s1.q.length s1.rc,.slice s2.L l2.length s2.lc,.slice s2.R s2.q.length s2.rc] 169) (star (CellO gb #[.slice s2.L l2.length s2.lc,.slice s2.R s2.q.length s2.rc] 167) (star (CellO ga #[.slice s1.L l1.length s1.lc,.slice s1.R s1.q.length s1.rc] 167) (star (CellO gt #[.slice a.A T.rs.length a.c,.slice a.D T.ds.length a.d,.slice a.E T.es.length a.e,.int .i64 T.drop,.int .i64 T.ord,.int .i64 T.ini] 25) (star (SideO l1 s1) (SideO l2 s2)))))) _)
  clear H7 r0 r1 r2 r3 rf
  generalize ((((w6.setCell ⟨gr,0,none⟩ (.slice s1.L l1.length s1.lc)).setCell ⟨gr,1,none⟩ (.slice s1.R s1.q.length s1.rc)).setCell ⟨gr,2,none⟩ (.slice s2.L l2.length s2.lc)).setCell ⟨gr,3,none⟩ (.slice s2.R s2.q.length s2.rc))=w9 at *
  refine hK.out _ _ (HSS.out _ _ H8.out) ?_
  clear hK
  (repeat ((first | refine lex_skip (by rfl) ?_ | (refine lex_read (v:=?_) (by rfl) ?_ ?_;rotate_left;(focus (intro w' hS';go_simp;(try with_reducible rfl);done))));try simp only [Act.put,List.setIfInBounds_toArray,List.set_cons_zero,List.set_cons_succ]))
  refine lex_nil ?_
  obtain ⟨fr,hfr⟩:=H8.out.fst
  have hblk:=hfr.1
  clear hfr
  go_wp2_with fail
  refine bodyPost_ret (res_cell_tmp rfl _ _ gr 169 #[.slice s1.L l1.length s1.lc,.slice s1.R s1.q.length s1.rc,.slice s2.L l2.length s2.lc,.slice s2.R s2.q.length s2.rc] (0,0) rfl hblk Tryz.underlying169 (by kernel_rfl)) rfl ?_
  clear hblk
  exact HFIN.out _ _ _ (by unfold okW;rw [hb1];rfl) H8.out
 | true =>
  cases hb2:word k2 y with
  | false =>
   refine wp_region_lex (fun w':World=>w'.cell? ⟨ga,0,none⟩=some (.slice s1.L l1.length s1.lc)∧w'.cell? ⟨ga,1,none⟩=some (.slice s1.R s1.q.length s1.rc)∧w'.cell? ⟨gb,0,none⟩=some (.slice s2.L l2.length s2.lc)∧w'.cell? ⟨gb,1,none⟩=some (.slice s2.R s2.q.length s2.rc)∧w'.cell? ⟨gt,0,none⟩=some (.slice a.A T.rs.length a.c)∧w'.cell? ⟨gt,1,none⟩=some (.slice a.D T.ds.length a.d)∧w'.cell? ⟨gt,2,none⟩=some (.slice a.E T.es.length a.e)∧w'.cell? ⟨gt,3,none⟩=some (.int .i64 T.drop)∧w'.cell? ⟨gt,4,none⟩=some (.int .i64 T.ord)∧w'.cell? ⟨gt,5,none⟩=some (.int .i64 T.ini)) (by rfl) (by kernel_rfl) hS0 ?_
   clear hS0
   generalize w5.drew=w6 at *
   obtain ⟨r0,r1,r2,r3,rf⟩:=run_c4 H7.out
   (repeat ((first | refine lex_skip (by rfl) ?_ | (refine lex_read (v:=?_) (by rfl) ?_ ?_;rotate_left;(focus (intro w' hS';go_simp;(try with_reducible rfl);done))));try simp only [Act.put,List.setIfInBounds_toArray,List.set_cons_zero,List.set_cons_succ]))
   refine lex_chain rfl (by rfl) (fun K hK=>?_)
   go_wp2_with fail
      
   have H8:=hide (run_setc (run_setc (run_setc (run_setc (H7.out) OKX.out 0 (.slice s1.L l1.length s1.lc)) OKX.out 1 (.slice s1.R s1.q.length s1.rc)) OKX.out 2 (.slice s2.L l2.length s2.lc)) OKX.out 3 (.slice s2.R s2.q.length s2.rc):Run (fun _=>False) w (star (CellO gr #[.slice s1.L l1.length s1.lc,.slice s1.R s1.q.length s1.rc,.slice s2.L l2.length s2.lc,.slice s2.R s2.q.length s2.rc] 169) (star (CellO gb #[.slice s2.L l2.length s2.lc,.slice s2.R s2.q.length s2.rc] 167) (star (CellO ga #[.slice s1.L l1.length s1.lc,.slice s1.R s1.q.length s1.rc] 167) (star (CellO gt #[.slice a.A T.rs.length a.c,.slice a.D T.ds.length a.d,.slice a.E T.es.length a.e,.int .i64 T.drop,.int .i64 T.ord,.int .i64 T.ini] 25) (star (SideO l1 s1) (SideO l2 s2)))))) _)
   clear H7 r0 r1 r2 r3 rf
   generalize ((((w6.setCell ⟨gr,0,none⟩ (.slice s1.L l1.length s1.lc)).setCell ⟨gr,1,none⟩ (.slice s1.R s1.q.length s1.rc)).setCell ⟨gr,2,none⟩ (.slice s2.L l2.length s2.lc)).setCell ⟨gr,3,none⟩ (.slice s2.R s2.q.length s2.rc))=w9 at *
   refine hK.out _ _ (HSS.out _ _ H8.out) ?_
   clear hK
   (repeat ((first | refine lex_skip (by rfl) ?_ | (refine lex_read (v:=?_) (by rfl) ?_ ?_;rotate_left;(focus (intro w' hS';go_simp;(try with_reducible rfl);done))));try simp only [Act.put,List.setIfInBounds_toArray,List.set_cons_zero,List.set_cons_succ]))
   refine lex_nil ?_
   obtain ⟨fr,hfr⟩:=H8.out.fst
   have hblk:=hfr.1
   clear hfr
   go_wp2_with fail
   refine bodyPost_ret (res_cell_tmp rfl _ _ gr 169 #[.slice s1.L l1.length s1.lc,.slice s1.R s1.q.length s1.rc,.slice s2.L l2.length s2.lc,.slice s2.R s2.q.length s2.rc] (0,0) rfl hblk Tryz.underlying169 (by kernel_rfl)) rfl ?_
   clear hblk
   exact HFIN.out _ _ _ (by unfold okW;rw [hb1,hb2];rfl) H8.out
  | true =>
   refine wp_region_lex (fun w':World=>w'.cell? ⟨ga,0,none⟩=some (.slice s1.L l1.length s1.lc)∧w'.cell? ⟨ga,1,none⟩=some (.slice s1.R s1.q.length s1.rc)∧w'.cell? ⟨gb,0,none⟩=some (.slice s2.L l2.length s2.lc)∧w'.cell? ⟨gb,1,none⟩=some (.slice s2.R s2.q.length s2.rc)∧w'.cell? ⟨gt,0,none⟩=some (.slice a.A T.rs.length a.c)∧w'.cell? ⟨gt,1,none⟩=some (.slice a.D T.ds.length a.d)∧w'.cell? ⟨gt,2,none⟩=some (.slice a.E T.es.length a.e)∧w'.cell? ⟨gt,3,none⟩=some (.int .i64 T.drop)∧w'.cell? ⟨gt,4,none⟩=some (.int .i64 T.ord)∧w'.cell? ⟨gt,5,none⟩=some (.int .i64 T.ini)) (by rfl) (by kernel_rfl) hS0 ?_
   clear hS0
   generalize w5.drew=w6 at *
   obtain ⟨r0,r1,r2,r3,rf⟩:=run_c4 H7.out
   (repeat ((first | refine lex_skip (by rfl) ?_ | (refine lex_read (v:=?_) (by rfl) ?_ ?_;rotate_left;(focus (intro w' hS';go_simp;(try with_reducible rfl);done))));try simp only [Act.put,List.setIfInBounds_toArray,List.set_cons_zero,List.set_cons_succ]))
   refine lex_chain rfl (by rfl) (fun K hK=>?_)
   go_wp2_with fail
      
   refine (KV.out _ (HBE.out _ _ H7.out)).mono ?_
   rintro e9 w7 ⟨rfl,hb⟩
   have H7b:=hide (H7.out.below (star_ok cell_ok OKX.out) hb)
   clear KV H7 hb r0 r1 r2 r3 rf
   dsimp only
   refine hK.out _ _ (HSS.out _ _ H7b.out) ?_
   clear hK
   obtain ⟨r0,r1,r2,r3,rf⟩:=run_c4 H7b.out
   (repeat ((first | refine lex_skip (by rfl) ?_ | (refine lex_read (v:=?_) (by rfl) ?_ ?_;rotate_left;(focus (intro w' hS';go_simp;(try with_reducible rfl);done))));try simp only [Act.put,List.setIfInBounds_toArray,List.set_cons_zero,List.set_cons_succ]))
   refine lex_chain rfl (by rfl) (fun K hK=>?_)
   go_wp2_with fail
      
   have H8:=hide (run_setc (run_setc (run_setc (run_setc (H7b.out) OKX.out 0 (.slice s1.L l1.length s1.lc)) OKX.out 1 (.slice s1.R s1.q.length s1.rc)) OKX.out 2 (.slice s2.L l2.length s2.lc)) OKX.out 3 (.slice s2.R s2.q.length s2.rc):Run (fun _=>False) w (star (CellO gr #[.slice s1.L l1.length s1.lc,.slice s1.R s1.q.length s1.rc,.slice s2.L l2.length s2.lc,.slice s2.R s2.q.length s2.rc] 169) (star (CellO gb #[.slice s2.L l2.length s2.lc,.slice s2.R s2.q.length s2.rc] 167) (star (CellO ga #[.slice s1.L l1.length s1.lc,.slice s1.R s1.q.length s1.rc] 167) (star (CellO gt #[.slice a.A T.rs.length a.c,.slice a.D T.ds.length a.d,.slice a.E T.es.length a.e,.int .i64 T.drop,.int .i64 T.ord,.int .i64 T.ini] 25) (star (SideO l1 s1) (SideO l2 s2)))))) _)
   clear H7b r0 r1 r2 r3 rf
   generalize ((((w7.setCell ⟨gr,0,none⟩ (.slice s1.L l1.length s1.lc)).setCell ⟨gr,1,none⟩ (.slice s1.R s1.q.length s1.rc)).setCell ⟨gr,2,none⟩ (.slice s2.L l2.length s2.lc)).setCell ⟨gr,3,none⟩ (.slice s2.R s2.q.length s2.rc))=w9 at *
   refine hK.out _ _ (HSS.out _ _ H8.out) ?_
   clear hK
   (repeat ((first | refine lex_skip (by rfl) ?_ | (refine lex_read (v:=?_) (by rfl) ?_ ?_;rotate_left;(focus (intro w' hS';go_simp;(try with_reducible rfl);done))));try simp only [Act.put,List.setIfInBounds_toArray,List.set_cons_zero,List.set_cons_succ]))
   refine lex_nil ?_
   obtain ⟨fr,hfr⟩:=H8.out.fst
   have hblk:=hfr.1
   clear hfr
   go_wp2_with fail
   refine bodyPost_ret (res_cell_tmp rfl _ _ gr 169 #[.slice s1.L l1.length s1.lc,.slice s1.R s1.q.length s1.rc,.slice s2.L l2.length s2.lc,.slice s2.R s2.q.length s2.rc] (0,0) rfl hblk Tryz.underlying169 (by kernel_rfl)) rfl ?_
   clear hblk
   exact HFIN.out _ _ _ (by unfold okW;rw [hb1,hb2];rfl) H8.out
end Go.Proofs.YtbnnlpjpnihheaaGreatDoor
namespace Go.Proofs.YtbnnlpjpnihheaaGreatDoor
open Go.RowKit Go.CH Go.CH.Scr Go.CH.Pot
open Go.ChangeMaps (setBlock)

def Zw (W:Wd) (x:WA) (s:St) (b1 b2:Nat):CH.Own:=star (CellO b1 (stC s) 175) (CellO b2 (wordsC W x) 169)
theorem Zw_ok {W:Wd} {x:WA} {s:St} {b1 b2:Nat}:(Zw W x s b1 b2).Ok:=star_ok cell_ok cell_ok

def encA (p:RA × St):Array Value:=#[.agg (acells p.1).toArray,.agg (stC p.2)]

def WA.at (x:WA) (lf:Bool):SA:=if lf then x.a else x.b
def lsA (W:Wd) (lf:Bool):List Bs:=if lf then W.l else W.m
def kA (s:St) (lf:Bool):Nat:=if lf then s.i else s.j
def amvR (W:Wd) (s:St) (y:RA):Option (RA × St):=(W.amv s y.r).map fun p=>(y,p.2)
def amovR (W:Wd) (x:WA) (s:St):List (RA × St):=(x.at (W.left s)).q.filterMap (amvR W s)

def amvs (W:Wd) (x:WA) (s:St) (k:Nat):List (RA × St):=((x.at (W.left s)).q.take k).filterMap (amvR W s)
theorem amovR_eq {W:Wd} {x:WA} {s:St} (h:AwS W x):(amovR W x s).map (fun p=>(p.1.r,p.2))=W.amoves s:=by
 have e:(x.at (W.left s)).q.map (·.r)=sideR W.rs (if W.left s then W.ka else W.kb):=by
  unfold WA.at
  cases W.left s
  ·exact h.qb
  ·exact h.qa
 unfold amovR Wd.amoves
 rw [←e,List.map_filterMap,List.filterMap_map]
 refine fm_congr _ fun y _=>?_
 unfold amvR
 show Option.map _ (Option.map _ (W.amv s y.r))=W.amv s y.r
 rw [Option.map_map]
 unfold Wd.amv
 by_cases h:fitsA (if W.left s then W.l else W.m) y.r (if W.left s then s.i else s.j)=true
 ·rw [if_pos h,Option.map_map];rfl
 ·rw [if_neg h];rfl
section
variable {W:Wd} {x:WA} {s:St} {k:Nat}
theorem amvs_all:amvs W x s (x.at (W.left s)).q.length=amovR W x s:=by unfold amvs amovR;rw [List.take_length]
theorem amvs_none (hk:k < (x.at (W.left s)).q.length) (h:amvR W s (x.at (W.left s)).q[k]=none):amvs W x s (k+1)=amvs W x s k:=by
 unfold amvs
 rw [List.take_succ_eq_append_getElem hk,List.filterMap_append]
 simp [h]
theorem amvs_some (hk:k < (x.at (W.left s)).q.length) {p:RA × St} (h:amvR W s (x.at (W.left s)).q[k]=some p):amvs W x s (k+1)=amvs W x s k ++ [p]:=by
 unfold amvs
 rw [List.take_succ_eq_append_getElem hk,List.filterMap_append]
 simp [h]
theorem amvs_at (hk:k < (x.at (W.left s)).q.length) {p:RA × St} (h:amvR W s (x.at (W.left s)).q[k]=some p):∃ hi:(amvs W x s k).length < (amovR W x s).length,(amovR W x s)[(amvs W x s k).length]=p:=by
 have e:amovR W x s=amvs W x s k ++ p :: ((x.at (W.left s)).q.drop (k+1)).filterMap (amvR W s):=by
  unfold amovR amvs
  conv=>lhs;rw [←List.take_append_drop k (x.at (W.left s)).q,List.drop_eq_getElem_cons hk,List.filterMap_append,List.filterMap_cons_some h]
 refine ⟨by rw [e];simp,?_⟩
 simp only [e]
 rw [List.getElem_append_right (Nat.le_refl _)]
 simp
end

def nextA (s:St) (lf:Bool) (n:Nat) (z:Bs × Bool):St:=if lf then ⟨s.i+n,s.j,z.1,z.2⟩ else ⟨s.i,s.j+n,z.1,z.2⟩
section
variable {W:Wd} {s:St} {y:RA}
theorem amvR_noFit (h:fitsA (lsA W (W.left s)) y.r (kA s (W.left s))=false):amvR W s y=none:=by
 unfold amvR Wd.amv
 unfold lsA kA at h
 rw [if_neg (by rw [h];decide)];rfl
theorem amvR_noAh (h:W.ahA s y.r.t=none):amvR W s y=none:=by
 unfold amvR Wd.amv
 rw [h]
 by_cases h:fitsA (if W.left s then W.l else W.m) y.r (if W.left s then s.i else s.j)=true
 ·rw [if_pos h];rfl
 ·rw [if_neg h];rfl
theorem amvR_yes (h:fitsA (lsA W (W.left s)) y.r (kA s (W.left s))=true) {z:Bs × Bool} (hz:W.ahA s y.r.t=some z):amvR W s y=some (y,nextA s (W.left s) y.r.f.length z):=by
 unfold amvR Wd.amv nextA
 unfold lsA kA at h
 rw [if_pos h,hz];rfl
theorem ahA_1 {q:Bs} (h1:q.isPrefixOf s.a=true):W.ahA s q=some (s.a.drop q.length,s.r && decide (s.a.drop q.length≠[])):=by unfold Wd.ahA;rw [if_pos h1]
theorem ahA_2 {q:Bs} (h1:¬ q.isPrefixOf s.a=true) (h2:s.a.isPrefixOf q=true):W.ahA s q=some (q.drop s.a.length,!W.left s):=by unfold Wd.ahA;rw [if_neg h1,if_pos h2]
theorem ahA_3 {q:Bs} (h1:¬ q.isPrefixOf s.a=true) (h2:¬ s.a.isPrefixOf q=true):W.ahA s q=none:=by unfold Wd.ahA;rw [if_neg h1,if_neg h2]
end
end Go.Proofs.YtbnnlpjpnihheaaGreatDoor
namespace Go.Proofs.YtbnnlpjpnihheaaGreatDoor
open Go.RowKit Go.CH Go.CH.Scr Go.CH.Pot
open Go.ChangeMaps (setBlock)
attribute [local go_sem] Oper.semAt_some

def fnA (b1 b2:Nat):Value:=.func (.func 126) #[] #[.pointer (some ⟨b1,0,none⟩),.pointer (some ⟨b2,0,none⟩)]
theorem amoves_any {W:Wd} {x:WA} {s:St} (w:World) :
  Calls Tryz.prog 98 #[.agg (wordsC W x),.agg (stC s)] w fun e w'=>∃ b1 b2,e=.returned (fnA b1 b2)∧Post w (fun _=>False) (Zw W x s b1 b2) w':=by
 have hp:Post w (fun _=>False) (Zw W x s (w.heap.size+1) w.heap.size) ((w.alloc (.cells (wordsC W x) 169)).alloc (.cells (stC s) 175)):=by
  have h1:=(Run.begin w).fresh emp_ok (cell_new w (wordsC W x) 169)
  have h2:=h1.fresh (star_ok cell_ok emp_ok) (cell_new _ (stC s) 175)
  rw [World.size_alloc] at h2
  have h3:Run (fun _=>False) w (star (Zw W x s (w.heap.size+1) w.heap.size) emp) _:=h2.perm (by unfold Zw;ac_rfl)
  exact (h3.swap.drop).post Zw_ok
 have HP:=hide hp
 clear hp
 unfold wordsC stC
 unfold wordsC stC at HP
 go_enter Tryz.func98,Tryz.ntmps98
 go_wp2
 go_ret
 exact ⟨_,_,rfl,HP.out⟩
end Go.Proofs.YtbnnlpjpnihheaaGreatDoor
namespace Go.Proofs.YtbnnlpjpnihheaaGreatDoor
open Go.RowKit Go.CH Go.CH.Scr Go.CH.Pot
open Go.ChangeMaps (setBlock)
attribute [local go_sem] Oper.semAt_some
theorem ast_flats (s:St):Flats Tryz.prog [⟨ "i",3,0,false, "", "customhouse/align",0⟩,⟨ "j",3,1,false, "", "customhouse/align",8⟩,⟨ "ahead",9,2,false, "", "customhouse/align",16⟩,⟨ "right",4,3,false, "", "customhouse/align",32⟩] (stC s):=by
 intro f hf
 simp only [List.mem_cons,List.mem_nil_iff,or_false] at hf
 rcases hf with rfl | rfl | rfl | rfl
 ·exact ⟨by decide,_,rfl,.int Tryz.underlying3 _⟩
 ·exact ⟨by decide,_,rfl,.int Tryz.underlying3 _⟩
 ·exact ⟨by decide,_,rfl,.str Tryz.underlying9 _⟩
 ·exact ⟨by decide,_,rfl,.bool Tryz.underlying4 _⟩
theorem ast_same (a b:St):sameF [⟨ "i",3,0,false, "", "customhouse/align",0⟩,⟨ "j",3,1,false, "", "customhouse/align",8⟩,⟨ "ahead",9,2,false, "", "customhouse/align",16⟩,⟨ "right",4,3,false, "", "customhouse/align",32⟩] (stC a) (stC b)=decide (a=b):=(rfl:_=sameF [⟨ "i",3,0,false, "", "customhouse/potential",0⟩,⟨ "j",3,1,false, "", "customhouse/potential",8⟩,⟨ "ahead",9,2,false, "", "customhouse/potential",16⟩,⟨ "right",4,3,false, "", "customhouse/potential",32⟩] (stC a) (stC b)).trans (st_same a b)
theorem keyOk_ast:KeyOk Tryz.prog 175 stV:=by
 refine keyOk_struct (cs:=stC) Tryz.underlying175 (by kernel_rfl) ast_flats ast_same (fun a=>?_)
 simp [stC,Instr.sameBits,bs_beq]
theorem astm_get {b:Nat} {L:List (St × Int)} {w:World} {F:Nat→Prop} (h:StM b L w F) (s:St) (ok:Bool) :
  (Instr.lookup 172 (.map (some b)) (.agg #[.int .i64 s.i,.int .i64 s.j,.string (bs s.a),.bool s.r]) ok).run Tryz.prog w=.ok (if ok then .tuple #[(mget (L.map fun p=>(p.1,Value.int .i64 p.2)) s).getD (.int .i64 0),.bool (mget (L.map fun p=>(p.1,Value.int .i64 p.2)) s).isSome] else (mget (L.map fun p=>(p.1,Value.int .i64 p.2)) s).getD (.int .i64 0)) w:=by
 obtain ⟨⟨es,clock,h1,h2⟩,hF⟩:=h
 cases ok
 ·exact run_lookup keyOk_ast Tryz.underlying172 Tryz.zeroValue3 h2 s w h1
 ·exact run_lookup_ok keyOk_ast Tryz.underlying172 Tryz.zeroValue3 h2 s w h1
theorem done_fin {W:Wd} {s:St} (hs:W.ok s):doneN W s=decide (s=W.fin):=by
 obtain ⟨i,j,a,r⟩:=s
 have h3:=hs.2.2
 unfold doneN Wd.fin
 simp only at h3 ⊢
 by_cases h1:i=W.l.length
 ·by_cases h2:j=W.m.length
  ·by_cases ha:a=[]
   ·cases r with
    | false=>simp [h1,h2,ha]
    | true=>exact absurd ha (h3 rfl)
   ·simp [ha]
  ·simp [h2]
 ·simp [h1]

def fnW (bm bw bf:Nat):Value:=.func (.func 125) #[] #[.pointer (some ⟨bm,0,none⟩),.pointer (some ⟨bw,0,none⟩),.pointer (some ⟨bf,0,none⟩)]

def WkB (W:Wd) (x:WA) (b bm bw bf:Nat):CH.Own:=star (CellO bm #[.map (some b)] 172) (star (CellO bw (wordsC W x) 169) (CellO bf #[fnW bm bw bf] 213))
theorem wkb_ok {W:Wd} {x:WA} {b bm bw bf:Nat}:(WkB W x b bm bw bf).Ok:=star_ok cell_ok (star_ok cell_ok cell_ok)

def WkRet (W:Wd) (x:WA) (s:St) (L:List (St × Int)) (F0:Nat→Prop) (w0:World) (b bm bw bf:Nat) (X:CH.Own) (e:Ending) (w':World):Prop :=
 ∃ L',e=.returned (.int .i64 (W.dist s))∧Kn W L'∧Ext W s L L'∧s ∈ keysL L'∧Run F0 w0 (star (StM b L') (star (WkB W x b bm bw bf) X)) w'

def MovA (W:Wd) (x:WA):Prop:=∀ s,W.ok s→(amovR W x s).map (fun p=>(p.1.r.c,p.2))=W.moves s
theorem mova_len {W:Wd} {x:WA} {s:St} (h:MovA W x) (hs:W.ok s):(W.moves s).length=(amovR W x s).length:=by rw [←h s hs,List.length_map]
theorem mova_at {W:Wd} {x:WA} {s:St} (h:MovA W x) (hs:W.ok s) {i:Nat} (hi:i < (amovR W x s).length) (hi2:i < (W.moves s).length):(W.moves s)[i]=((amovR W x s)[i].1.r.c,(amovR W x s)[i].2):=by
 have e:(W.moves s)[i]?=some ((amovR W x s)[i].1.r.c,(amovR W x s)[i].2):=by rw [←h s hs,List.getElem?_map,List.getElem?_eq_getElem hi];rfl
 rw [List.getElem?_eq_getElem hi2] at e
 injection e
theorem wkb_cells {W:Wd} {x:WA} {b bm bw bf:Nat} {F0:Nat→Prop} {w0 w:World} {X:CH.Own} (h:Run F0 w0 (star (WkB W x b bm bw bf) X) w) :
  w.cell? ⟨bm,0,none⟩=some (.map (some b))∧w.cell? ⟨bf,0,none⟩=some (fnW bm bw bf)∧(w.cell? ⟨bw,0,none⟩=some (.slice x.a.L W.l.length x.a.lc)∧w.cell? ⟨bw,1,none⟩=some (.slice x.a.R x.a.q.length x.a.rc)∧w.cell? ⟨bw,2,none⟩=some (.slice x.b.L W.m.length x.b.lc)∧w.cell? ⟨bw,3,none⟩=some (.slice x.b.R x.b.q.length x.b.rc)):=by
 obtain ⟨F,hF⟩:=(h.perm (by unfold WkB;ac_rfl:_=star (CellO bm #[.map (some b)] 172) (star (CellO bw (wordsC W x) 169) (star (CellO bf #[fnW bm bw bf] 213) X)))).fst
 obtain ⟨F2,hF2⟩:=(h.perm (by unfold WkB;ac_rfl:_=star (CellO bw (wordsC W x) 169) (star (CellO bm #[.map (some b)] 172) (star (CellO bf #[fnW bm bw bf] 213) X)))).fst
 obtain ⟨F3,hF3⟩:=(h.perm (by unfold WkB;ac_rfl:_=star (CellO bf #[fnW bm bw bf] 213) (star (CellO bm #[.map (some b)] 172) (star (CellO bw (wordsC W x) 169) X)))).fst
 exact ⟨cell_at hF rfl,cell_at hF3 rfl,cell_at hF2 rfl,cell_at hF2 rfl,cell_at hF2 rfl,cell_at hF2 rfl⟩
end Go.Proofs.YtbnnlpjpnihheaaGreatDoor
namespace Go.Proofs.YtbnnlpjpnihheaaGreatDoor
open Go.RowKit Go.CH Go.CH.Scr Go.CH.Pot
open Go.ChangeMaps (setBlock)
theorem Zw_cells {W:Wd} {x:WA} {s:St} {b1 b2:Nat} {F0:Nat→Prop} {w0 w:World} {X:CH.Own} (h:Run F0 w0 (star (Zw W x s b1 b2) X) w) :
  (w.cell? ⟨b1,0,none⟩=some (.int .i64 s.i)∧w.cell? ⟨b1,1,none⟩=some (.int .i64 s.j)∧w.cell? ⟨b1,2,none⟩=some (.string (bs s.a))∧w.cell? ⟨b1,3,none⟩=some (.bool s.r)) ∧
  (w.cell? ⟨b2,0,none⟩=some (.slice x.a.L W.l.length x.a.lc)∧w.cell? ⟨b2,1,none⟩=some (.slice x.a.R x.a.q.length x.a.rc)∧w.cell? ⟨b2,2,none⟩=some (.slice x.b.L W.m.length x.b.lc)∧w.cell? ⟨b2,3,none⟩=some (.slice x.b.R x.b.q.length x.b.rc)):=by
 obtain ⟨F,hF⟩:=(h.assoc).fst
 obtain ⟨F2,hF2⟩:=(h.assoc.rot).fst
 exact ⟨⟨cell_at hF rfl,cell_at hF rfl,cell_at hF rfl,cell_at hF rfl⟩,cell_at hF2 rfl,cell_at hF2 rfl,cell_at hF2 rfl,cell_at hF2 rfl⟩
theorem AwR.at {W:Wd} {x:WA} {w:World} (h:AwR W x w) (lf:Bool):Vst w (x.at lf).L (lsA W lf)∧ArsR w (x.at lf).R (x.at lf).q∧∀ y ∈ (x.at lf).q,Vst w y.A y.r.f:=by
 cases lf
 ·exact ⟨h.m,h.rb,h.fb⟩
 ·exact ⟨h.l,h.ra,h.fa⟩
theorem AwS.at {W:Wd} {x:WA} (h:AwS W x) (lf:Bool):(x.at lf).q.length≤1000000∧(lsA W lf).length≤(x.at lf).lc∧(lsA W lf).length≤1000000∧∀ y ∈ (x.at lf).q,y.r.f.length≤1000000∧y.r.t.length≤1000000:=by
 cases lf
 ·exact ⟨h.nb,h.lb,h.m6,h.g6⟩
 ·exact ⟨h.na,h.la,h.l6,h.f6⟩
theorem kA_le {W:Wd} {s:St} (h:W.ok s) (lf:Bool):kA s lf≤(lsA W lf).length:=by
 cases lf
 ·exact h.2.1
 ·exact h.1
def iN (s:St) (lf:Bool) (n:Nat):Nat:=if lf then s.i+n else s.i
def jN (s:St) (lf:Bool) (n:Nat):Nat:=if lf then s.j else s.j+n
theorem nextA_eq {s:St} {lf:Bool} {n:Nat} {z:Bs × Bool}:nextA s lf n z=⟨iN s lf n,jN s lf n,z.1,z.2⟩:=by cases lf <;> rfl
section
variable {W:Wd} {x:WA} {s:St} {lf:Bool} {k:Nat}
theorem amvs_noFit (hl:W.left s=lf) (hk:k < (x.at lf).q.length) (h:fitsA (lsA W lf) (x.at lf).q[k].r (kA s lf)=false):amvs W x s (k+1)=amvs W x s k:=by
 subst hl;exact amvs_none hk (amvR_noFit h)
theorem amvs_noAh (hl:W.left s=lf) (hk:k < (x.at lf).q.length) (h:W.ahA s (x.at lf).q[k].r.t=none):amvs W x s (k+1)=amvs W x s k:=by
 subst hl;exact amvs_none hk (amvR_noAh h)
theorem amvs_yes (hl:W.left s=lf) (hk:k < (x.at lf).q.length) (h:fitsA (lsA W lf) (x.at lf).q[k].r (kA s lf)=true) {z:Bs × Bool} (hz:W.ahA s (x.at lf).q[k].r.t=some z) :
  amvs W x s (k+1)=amvs W x s k ++ [((x.at lf).q[k],⟨iN s lf (x.at lf).q[k].r.f.length,jN s lf (x.at lf).q[k].r.f.length,z.1,z.2⟩)]∧∃ hi:(amvs W x s k).length < (amovR W x s).length,(amovR W x s)[(amvs W x s k).length]=((x.at lf).q[k],⟨iN s lf (x.at lf).q[k].r.f.length,jN s lf (x.at lf).q[k].r.f.length,z.1,z.2⟩):=by
 subst hl
 have h1:=amvR_yes h hz
 rw [nextA_eq] at h1
 exact ⟨amvs_some hk h1,amvs_at hk h1⟩
theorem amvs_all2 (hl:W.left s=lf):amvs W x s (x.at lf).q.length=amovR W x s:=by subst hl;exact amvs_all
end
set_option maxHeartbeats 16000000 in
set_option maxRecDepth 100000 in
theorem amoves_iter {W:Wd} {s:St} {x:WA} {b1 b2:Nat} (hs:W.ok s) (hW:AwS W x) (ha:s.a.length≤1000000) :
  IterJ Tryz.prog 126 #[.pointer (some ⟨b1,0,none⟩),.pointer (some ⟨b2,0,none⟩)] (AwR W x) (Zw W x s b1 b2) encA (amovR W x s):=by
 intro n lo w F0 w0 X Y okX okY hE h0 hY
 have HY:=hide hY
 have HE:=hide hE
 have HS:=hide hs
 have HW:=hide hW
 have H0:=hide h0
 clear hY hE hs hW
 refine callsIn_of_wp Tryz.func126 rfl trivial ?_ rfl
 simp only [Tryz.ntmps126,List.size_toArray,List.length_cons,List.length_nil,Nat.reduceAdd,Nat.reduceSub,Array.replicate_succ,Array.replicate_zero,List.push_toArray,List.append_toArray,List.nil_append,List.cons_append]
 obtain ⟨⟨c1,c2,c3,c4⟩,d0,d1,d2,d3⟩:=Zw_cells h0
 clear h0
 refine wpIn_seq_k ?_
 intro K0 hK0
 have cut:∀ (lf:Bool) (g14 g15 g16 g17 g18 g19 g20 g21 g22 g23 g24 g25 g26 g27 g28 g29:Value),W.left s=lf→K0 { tmps:=#[.func (.yield lo) #[] #[],.pointer (some ⟨b1,0,none⟩),.pointer (some ⟨b2,0,none⟩),undef,.bool lf,undef,undef,undef,undef,undef,undef,undef,undef,undef,g14,g15,g16,g17,g18,g19,g20,g21,g22,g23,g24,g25,g26,g27,g28,g29,undef,undef,undef,undef,undef,undef,undef,undef,undef,undef,undef,undef,undef,undef,undef,undef,undef,undef,undef,undef,undef,undef,undef,undef,undef,undef,undef,undef,undef,undef,undef,undef,undef,undef,undef,undef,undef,undef,undef,undef,undef,undef,undef,undef,undef,undef,undef,undef,undef,undef,undef,undef,undef,undef,undef,undef,undef,undef,undef,undef,undef,undef,undef,undef,undef,undef,undef,undef,undef,undef,undef,undef,undef,undef,undef,undef,undef,undef,undef],defers:=[] } w:=by
  intro lf g14 g15 g16 g17 g18 g19 g20 g21 g22 g23 g24 g25 g26 g27 g28 g29 HLF
  have HL:=hide HLF
  refine hK0 _ _ ?_
  clear hK0 K0
  have hSW:∀ W',Run F0 w0 (star (Zw W x s b1 b2) (X 0)) W'→(fun w:World=>w.cell? ⟨b1,0,none⟩=some (.int .i64 s.i)∧w.cell? ⟨b1,1,none⟩=some (.int .i64 s.j)∧w.cell? ⟨b2,0,none⟩=some (.slice x.a.L W.l.length x.a.lc)∧w.cell? ⟨b2,1,none⟩=some (.slice x.a.R x.a.q.length x.a.rc)∧w.cell? ⟨b2,2,none⟩=some (.slice x.b.L W.m.length x.b.lc)∧w.cell? ⟨b2,3,none⟩=some (.slice x.b.R x.b.q.length x.b.rc)) W':=fun W' h=>by
   obtain ⟨⟨c1,c2,c3,c4⟩,d0,d1,d2,d3⟩:=Zw_cells h
   exact ⟨c1,c2,d0,d1,d2,d3⟩
  have HSW:=hide hSW
  have H1:=hide (H0.out.drew (star_ok Zw_ok (okX 0)))
  have hS0:=HSW.out _ H1.out
  clear hSW c1 c2 c3 c4 d0 d1 d2 d3
  refine wpIn_seq_k ?_
  intro K1 hK1
  refine wpIn_wide.2 (wp_region_lex (fun w:World=>w.cell? ⟨b1,0,none⟩=some (.int .i64 s.i)∧w.cell? ⟨b1,1,none⟩=some (.int .i64 s.j)∧w.cell? ⟨b2,0,none⟩=some (.slice x.a.L W.l.length x.a.lc)∧w.cell? ⟨b2,1,none⟩=some (.slice x.a.R x.a.q.length x.a.rc)∧w.cell? ⟨b2,2,none⟩=some (.slice x.b.L W.m.length x.b.lc)∧w.cell? ⟨b2,3,none⟩=some (.slice x.b.R x.b.q.length x.b.rc)) (by kernel_rfl) (by kernel_rfl) hS0 ?_)
  clear hS0
  (repeat ((first | refine lex_skip (by rfl) ?_ | (refine lex_read (v:=?_) (by rfl) ?_ ?_;rotate_left;(focus (intro w' hS';go_simp;(try with_reducible rfl);done))));try simp only [Act.put,List.setIfInBounds_toArray,List.set_cons_zero,List.set_cons_succ]))
  refine lex_chain rfl (by rfl) (fun K hK=>?_)
  go_wp2_with fail
  clear H1
  have H2:=hide ((run_new H0.out (star_ok Zw_ok (okX 0)) #[.slice none 0 0,.slice none 0 0] 167).drew (star_ok cell_ok (star_ok Zw_ok (okX 0))))
  generalize (w.alloc (.cells #[.slice none 0 0,.slice none 0 0] 167)).drew=w2 at *
  generalize w.heap.size=g5 at *
  refine hK.out _ _ (HSW.out _ H2.out.drop) ?_
  clear hK
  obtain ⟨f5,hf5⟩:=H2.out.fst
  have y0:=cell_at (i:=0) hf5 rfl
  have y1:=cell_at (i:=1) hf5 rfl
  have yf:=cell_free hf5
  clear hf5
  (repeat ((first | refine lex_skip (by rfl) ?_ | (refine lex_read (v:=?_) (by rfl) ?_ ?_;rotate_left;(focus (intro w' hS';go_simp;(try with_reducible rfl);done))));try simp only [Act.put,List.setIfInBounds_toArray,List.set_cons_zero,List.set_cons_succ]))
  refine lex_chain rfl (by rfl) (fun K hK=>?_)
  go_wp2_with fail
  have H3:=hide (run_set2 H2.out (star_ok Zw_ok (okX 0)) (.slice x.b.L W.m.length x.b.lc) (.slice x.b.R x.b.q.length x.b.rc))
  clear H2 y0 y1 yf
  generalize (w2.setCell ⟨g5,0,none⟩ (.slice x.b.L W.m.length x.b.lc)).setCell ⟨g5,1,none⟩ (.slice x.b.R x.b.q.length x.b.rc)=w3 at *
  refine hK.out _ _ (HSW.out _ H3.out.drop) ?_
  clear hK
  (repeat ((first | refine lex_skip (by rfl) ?_ | (refine lex_read (v:=?_) (by rfl) ?_ ?_;rotate_left;(focus (intro w' hS';go_simp;(try with_reducible rfl);done))));try simp only [Act.put,List.setIfInBounds_toArray,List.set_cons_zero,List.set_cons_succ]))
  refine lex_nil ?_
  refine hK1 _ _ ?_
  clear hK1 K1
  gi_step
  refine wpIn_seq_k ?_
  intro K3 hK3
  have cut2:∀ (w:World) (h30 h31 h32 h33 h34 h35 h36 h37 h38:Value),Run F0 w0 (star (CellO g5 #[.slice (x.at lf).L (lsA W lf).length (x.at lf).lc,.slice (x.at lf).R (x.at lf).q.length (x.at lf).rc] 167) (star (Zw W x s b1 b2) (X 0))) w→K3 { tmps:=#[.func (.yield lo) #[] #[],.pointer (some ⟨b1,0,none⟩),.pointer (some ⟨b2,0,none⟩),undef,.bool lf,.pointer (some ⟨g5,0,none⟩),.int .i64 (kA s lf:Nat),undef,undef,undef,undef,undef,undef,undef,g14,g15,g16,g17,g18,g19,g20,g21,g22,g23,g24,g25,g26,g27,g28,g29,h30,h31,h32,h33,h34,h35,h36,h37,h38,undef,undef,undef,undef,undef,undef,undef,undef,undef,undef,undef,undef,undef,undef,undef,undef,undef,undef,undef,undef,undef,undef,undef,undef,undef,undef,undef,undef,undef,undef,undef,undef,undef,undef,undef,undef,undef,undef,undef,undef,undef,undef,undef,undef,undef,undef,undef,undef,undef,undef,undef,undef,undef,undef,undef,undef,undef,undef,undef,undef,undef,undef,undef,undef,undef,undef,undef,undef,undef,undef],defers:=[] } w:=by
   intro w h30 h31 h32 h33 h34 h35 h36 h37 h38 hR
   have HR0:=hide hR
   refine hK3 _ _ ?_
   clear hK3 K3 hR HSW H0 H3
   have HRA:=hide (fun W' (hm:Mod F0 w0 W')=>(HE.out W' hm).at lf)
   obtain ⟨hq6,hlc,hl6,hf6⟩:=HW.out.at lf
   have HQ6:=hide hq6
   have HLC:=hide hlc
   have HL6:=hide hl6
   have HF6:=hide hf6
   have HKL:=hide (kA_le HS.out lf)
   have HN1:=hide (fun k hk h=>amvs_noFit (x:=x) (k:=k) HL.out hk h)
   have HN2:=hide (fun k hk h=>amvs_noAh (x:=x) (k:=k) HL.out hk h)
   have HY1:=hide (fun k hk h z hz=>amvs_yes (x:=x) (k:=k) HL.out hk h (z:=z) hz)
   have HAL:=hide (amvs_all2 (x:=x) HL.out)
   clear hq6 hlc hl6 hf6
   have hsi:(s.i:Int)≤1000000:=by have:=HS.out.1;have:=HW.out.l6;omega
   have hsj:(s.j:Int)≤1000000:=by have:=HS.out.2.1;have:=HW.out.m6;omega
   generalize x.at lf=y at *
   generalize kA s lf=at0 at *
   generalize lsA W lf=ls at *
   obtain ⟨f5,hf5⟩:=HR0.out.fst
   have y0:=cell_at (i:=0) hf5 rfl
   have y1:=cell_at (i:=1) hf5 rfl
   clear hf5 f5
   gi_wp2
   gi_loopw [42] (fun i wr=>∃ k:Nat,k≤y.q.length∧i=.int .i64 k∧Run F0 w0 (star (CellO g5 #[.slice y.L ls.length y.lc,.slice y.R y.q.length y.rc] 167) (star (Zw W x s b1 b2) (X (amvs W x s k).length))) wr) (fun i _=>y.q.length - (intOf i).toNat)
   case atStart=>exact ⟨0,Nat.zero_le _,rfl,HR0.out⟩
   case round =>
    obtain ⟨k,hk,rfl,hR⟩:=hrel
    have HR:=hide hR
    clear HR0 hR y0 y1
    obtain ⟨f5,hf5⟩:=HR.out.fst
    have y0:=cell_at (i:=0) hf5 rfl
    have y1:=cell_at (i:=1) hf5 rfl
    clear hf5 f5
    by_cases hlt:k < y.q.length
    ·obtain ⟨PL,PR,PF⟩:=HRA.out wr HR.out.mod
     obtain ⟨b,o,hA,hc⟩:=Rst.at (R:=acells) (fun _=>rfl) (by omega) PR (by omega)
     have r0:=hc wr (Below.refl _ _) k hlt 0 _ rfl
     have r1:=hc wr (Below.refl _ _) k hlt 1 _ rfl
     have r2:=hc wr (Below.refl _ _) k hlt 2 _ rfl
     have r3:=hc wr (Below.refl _ _) k hlt 3 _ rfl
     have HK1:=hide (show k+1≤y.q.length from hlt)
     have HN1k:=hide (HN1.out k hlt)
     have HN2k:=hide (HN2.out k hlt)
     have HYk:=hide (HY1.out k hlt)
     have HPF:=hide (PF _ (List.getElem_mem hlt))
     have HF6k:=hide (HF6.out _ (List.getElem_mem hlt))
     have HPL:=hide PL
     have hkb:(k:Int) < 1000000:=by have:=HQ6.out;omega
     clear hc PL PR PF
     have okZX:=hide (star_ok Zw_ok (okX (amvs W x s k).length):(star (Zw W x s b1 b2) (X (amvs W x s k).length)).Ok)
     generalize y.q[k]=ra at *
     obtain ⟨⟨ix,rc0,rf,rt⟩,rA,rc⟩:=ra
     dsimp only at HN1k HN2k HYk HPF HF6k
     simp only [Nat.add_zero] at r0
     dsimp only at r0 r1 r2 r3
     rw [hA]
     iterate 32 (first | go_values | gi_guarded | gi_step | gi_upon)
     have okC:=hide (star_ok cell_ok okZX.out:(star (CellO g5 #[.slice y.L ls.length y.lc,.slice y.R y.q.length y.rc] 167) (star (Zw W x s b1 b2) (X (amvs W x s k).length))).Ok)
     have H1:=hide (run_new HR.out okC.out #[.int .i64 (ix:Nat),.int .i64 rc0,.slice rA rf.length rc,.string (bs rt)] 181)
     have KF:=hide (fits_any (w:=wr.alloc (.cells #[.int .i64 (ix:Nat),.int .i64 rc0,.slice rA rf.length rc,.string (bs rt)] 181)) (R:=y.R) (rn:=y.q.length) (rc:=y.rc) (lc:=y.lc) (fc:=rc) (r:=⟨ix,rc0,rf,rt⟩) (HPL.out.below ((Below.refl _ _).alloc (Nat.le_refl _) _)) (HPF.out.below ((Below.refl _ _).alloc (Nat.le_refl _) _)) HKL.out HLC.out HL6.out HF6k.out.1)
     have HA:=hide hA
     clear r0 r1 r2 r3 y0 y1 HPL HPF HR hA
     generalize wr.alloc (.cells #[.int .i64 (ix:Nat),.int .i64 rc0,.slice rA rf.length rc,.string (bs rt)] 181)=w1 at *
     generalize wr.heap.size=h8 at *
     obtain ⟨x0,x1,x2,x3,xf⟩:=run_c4 H1.out
     obtain ⟨f5,hf5⟩:=H1.out.drop.fst
     have y0:=cell_at (i:=0) hf5 rfl
     have y1:=cell_at (i:=1) hf5 rfl
     clear hf5 f5
     dsimp only at KF
     gi_wp2_with fail
     refine ⟨trivial,fun h=>(by cases h),?_⟩
     gi_at_call 127
     refine (callsIn_wide.2 KF.out).mono ?_
     rintro e9 w9 ⟨rfl,hb9⟩
     have H2:=hide (H1.out.below (star_ok cell_ok okC.out) hb9)
     clear KF hb9 H1 x0 x1 x2 x3 xf y0 y1
     dsimp only
     by_cases hfit:fitsA ls ⟨ix,rc0,rf,rt⟩ at0=true
     ·rw [hfit]
      have HFT:=hide hfit
      clear hfit HN1k
      obtain ⟨⟨c1,c2,c3,c4⟩,-⟩:=Zw_cells H2.out.drop.drop
      obtain ⟨x0,x1,x2,x3,xf⟩:=run_c4 H2.out
      iterate 38 (first | go_values | gi_guarded | gi_step | gi_upon)
      have okD:=hide (star_ok cell_ok okC.out:(star (CellO h8 #[.int .i64 (ix:Nat),.int .i64 rc0,.slice rA rf.length rc,.string (bs rt)] 181) (star (CellO g5 #[.slice y.L ls.length y.lc,.slice y.R y.q.length y.rc] 167) (star (Zw W x s b1 b2) (X (amvs W x s k).length)))).Ok)
      have H3:=hide (run_new H2.out okD.out #[.int .i64 s.i,.int .i64 s.j,.string ⟨#[]⟩,.bool false] 175)
      clear H2 c1 c2 c3 c4 x0 x1 x2 x3 xf
      generalize w9.alloc (.cells #[.int .i64 s.i,.int .i64 s.j,.string ⟨#[]⟩,.bool false] 175)=w3 at *
      generalize w9.heap.size=h9 at *
      gi_step
      rename_i Kj hKj Kc hKc
      have cut3:∀ (w:World) (v44 v45 v46 v47 v48 v49 v50 v51 v52 v53 v54 v55 v56 v57 v58 v59 v60 v61 v62 v63 v64 v65 v66 v67 v68 v69 v70:Value),Run F0 w0 (star (CellO h9 #[.int .i64 (iN s lf rf.length:Nat),.int .i64 (jN s lf rf.length:Nat),.string ⟨#[]⟩,.bool false] 175) (star (CellO h8 #[.int .i64 (ix:Nat),.int .i64 rc0,.slice rA rf.length rc,.string (bs rt)] 181) (star (CellO g5 #[.slice y.L ls.length y.lc,.slice y.R y.q.length y.rc] 167) (star (Zw W x s b1 b2) (X (amvs W x s k).length))))) w→Kj { tmps:=#[.func (.yield lo) #[] #[],.pointer (some ⟨b1,0,none⟩),.pointer (some ⟨b2,0,none⟩),undef,.bool lf,.pointer (some ⟨g5,0,none⟩),.int .i64 (at0:Nat),undef,.pointer (some ⟨h8,0,none⟩),.pointer (some ⟨h9,0,none⟩),u10,u11,u12,u13,g14,g15,g16,g17,g18,g19,g20,g21,g22,g23,g24,g25,g26,g27,g28,g29,h30,h31,h32,h33,h34,h35,h36,h37,h38,.pointer (some ⟨g5,1,none⟩),.slice (some ⟨b,o,none⟩) y.q.length y.rc,.int .i64 (y.q.length:Nat),.int .i64 (k:Nat),.bool true,v44,v45,v46,v47,v48,v49,v50,v51,v52,v53,v54,v55,v56,v57,v58,v59,v60,v61,v62,v63,v64,v65,v66,v67,v68,v69,v70,u71,u72,u73,u74,u75,u76,u77,u78,u79,u80,u81,u82,u83,u84,u85,u86,u87,u88,u89,u90,u91,u92,u93,u94,u95,u96,u97,u98,u99,u100,u101,u102,u103,u104,u105,u106,u107,u108],defers:=[] } w:=by
       intro w v44 v45 v46 v47 v48 v49 v50 v51 v52 v53 v54 v55 v56 v57 v58 v59 v60 v61 v62 v63 v64 v65 v66 v67 v68 v69 v70 hR
       have H4:=hide hR
       refine hKj _ _ ?_
       clear hKj hKc Kc Kj H3 hR hsi hsj
       have HYf:=hide (HYk.out HFT.out)
       clear HYk HFT
       generalize iN s lf rf.length=ni at *
       generalize jN s lf rf.length=nj at *
       obtain ⟨⟨c1,c2,c3,c4⟩,-⟩:=Zw_cells H4.out.drop.drop.drop
       obtain ⟨x0,x1,x2,x3,xf⟩:=run_c4 H4.out.drop
       obtain ⟨z0,z1,z2,z3,zf⟩:=run_c4 H4.out
       have KC:=hide (cutp_any s.a rt w)
       gi_wp2_with fail
       by_cases h1:rt.isPrefixOf s.a=true
       ·have HZ:=hide (HYf.out _ (ahA_1 h1))
        rw [if_pos h1,h1] at KC
        clear h1 HN2k HYf
        generalize s.a.drop rt.length=q at *
        cases hr:s.r with
        | false =>
         rw [hr,Bool.false_and] at HZ
         rw [hr] at c4
         clear hr
         refine ⟨trivial,fun h=>(by cases h),?_⟩
         gi_at_call 128
         refine (callsIn_wide.2 KC.out).mono ?_
         rintro e10 w10 ⟨rfl,h10⟩
         subst w10
         clear KC
         dsimp only
         iterate 28 (first | go_values | gi_guarded | gi_step | gi_upon)
         refine wpIn_wide.2 ?_
         go_wp2
         have H7:=hide (run_setc (run_setc H4.out okD.out 2 (.string (bs q))) okD.out 3 (.bool false):Run F0 w0 (star (CellO h9 #[.int .i64 (ni:Nat),.int .i64 (nj:Nat),.string (bs q),.bool false] 175) _) _)
         clear H4 z0 z1 z2 z3 zf x0 x1 x2 x3 xf c1 c2 c3 c4
         generalize (w.setCell ⟨h9,2,none⟩ (.string (bs q))).setCell ⟨h9,3,none⟩ (.bool false)=w7 at *
         obtain ⟨z0,z1,z2,z3,zf⟩:=run_c4 H7.out
         obtain ⟨x0,x1,x2,x3,xf⟩:=run_c4 H7.out.drop
         obtain ⟨hM,hi,hx⟩:=HZ.out
         have HM:=hide hM
         have hw:=HY.out (star (CellO g5 #[.slice y.L ls.length y.lc,.slice y.R y.q.length y.rc] 167) (Zw W x s b1 b2)) (star_ok cell_ok Zw_ok) _ hi w7 (H7.out.drop.drop.perm (by ac_rfl))
         rw [hx] at hw
         clear hM HZ
         simp only [encA,stC,acells] at hw
         obtain ⟨fn,tmps,assign,body,hy,hround⟩:=hw
         have HRD:=hide hround
         clear hround hx hi
         gi_wp2
         try rw [hy]
         refine ⟨fun h=>(by cases h),?_⟩
         refine HRD.out.mono ?_
         rintro e W3 (⟨rfl,h3⟩ | ⟨rfl,h3⟩)
         ·have H8:=hide (h3.perm (by ac_rfl:_=star (CellO g5 #[.slice y.L ls.length y.lc,.slice y.R y.q.length y.rc] 167) (star (Zw W x s b1 b2) (X ((amvs W x s k).length+1)))))
          clear HRD h3 hy H7 z0 z1 z2 z3 zf x0 x1 x2 x3 xf
          gi_wp2
          go_roundw
          case rel=>exact ⟨k+1,HK1.out,by go_num,by rw [HM.out,List.length_append,←HA.out];exact H8.out⟩
          case measure=>have:=HK1.out;simp [intOf];omega
         ·have HE2:=hide (show (∃ v,(Ending.returned (.tuple #[]))=.returned v)∧∃ Z:CH.Own,Z.Ok∧(Run F0 w0 (star Z (X (amovR W x s).length)) W3∨Run F0 w0 (star Z Y) W3) from ⟨⟨_,rfl⟩,_,star_ok cell_ok Zw_ok,.inr h3⟩)
          clear HRD h3 hy H7 z0 z1 z2 z3 zf x0 x1 x2 x3 xf
          gi_wp2
          refine bodyPost_ret (results_none rfl _ _ _) rfl ?_
          exact HE2.out
        | true =>
         rw [hr,Bool.true_and] at HZ
         rw [hr] at c4
         clear hr
         by_cases hq:q=[]
         ·have e2:(bs q).toList.isEmpty=true:=by rw [List.isEmpty_iff];exact bs_empty.2 hq
          rw [decide_eq_false (fun h=>h hq)] at HZ
          clear hq
          refine ⟨trivial,fun h=>(by cases h),?_⟩
          gi_at_call 128
          refine (callsIn_wide.2 KC.out).mono ?_
          rintro e10 w10 ⟨rfl,h10⟩
          subst w10
          clear KC
          dsimp only
          iterate 28 (first | go_values | gi_guarded | gi_step | gi_upon)
          refine wpIn_wide.2 ?_
          go_wp2
          have H7:=hide (run_setc (run_setc H4.out okD.out 2 (.string (bs q))) okD.out 3 (.bool false):Run F0 w0 (star (CellO h9 #[.int .i64 (ni:Nat),.int .i64 (nj:Nat),.string (bs q),.bool false] 175) _) _)
          clear H4 z0 z1 z2 z3 zf x0 x1 x2 x3 xf c1 c2 c3 c4
          generalize (w.setCell ⟨h9,2,none⟩ (.string (bs q))).setCell ⟨h9,3,none⟩ (.bool false)=w7 at *
          obtain ⟨z0,z1,z2,z3,zf⟩:=run_c4 H7.out
          obtain ⟨x0,x1,x2,x3,xf⟩:=run_c4 H7.out.drop
          obtain ⟨hM,hi,hx⟩:=HZ.out
          have HM:=hide hM
          have hw:=HY.out (star (CellO g5 #[.slice y.L ls.length y.lc,.slice y.R y.q.length y.rc] 167) (Zw W x s b1 b2)) (star_ok cell_ok Zw_ok) _ hi w7 (H7.out.drop.drop.perm (by ac_rfl))
          rw [hx] at hw
          clear hM HZ
          simp only [encA,stC,acells] at hw
          obtain ⟨fn,tmps,assign,body,hy,hround⟩:=hw
          have HRD:=hide hround
          clear hround hx hi
          gi_wp2
          try rw [hy]
          refine ⟨fun h=>(by cases h),?_⟩
          refine HRD.out.mono ?_
          rintro e W3 (⟨rfl,h3⟩ | ⟨rfl,h3⟩)
          ·have H8:=hide (h3.perm (by ac_rfl:_=star (CellO g5 #[.slice y.L ls.length y.lc,.slice y.R y.q.length y.rc] 167) (star (Zw W x s b1 b2) (X ((amvs W x s k).length+1)))))
           clear HRD h3 hy H7 z0 z1 z2 z3 zf x0 x1 x2 x3 xf
           gi_wp2
           go_roundw
           case rel=>exact ⟨k+1,HK1.out,by go_num,by rw [HM.out,List.length_append,←HA.out];exact H8.out⟩
           case measure=>have:=HK1.out;simp [intOf];omega
          ·have HE2:=hide (show (∃ v,(Ending.returned (.tuple #[]))=.returned v)∧∃ Z:CH.Own,Z.Ok∧(Run F0 w0 (star Z (X (amovR W x s).length)) W3∨Run F0 w0 (star Z Y) W3) from ⟨⟨_,rfl⟩,_,star_ok cell_ok Zw_ok,.inr h3⟩)
           clear HRD h3 hy H7 z0 z1 z2 z3 zf x0 x1 x2 x3 xf
           gi_wp2
           refine bodyPost_ret (results_none rfl _ _ _) rfl ?_
           exact HE2.out
         ·have e2:(bs q).toList.isEmpty=false:=by rw [List.isEmpty_eq_false_iff];exact fun h=>hq (bs_empty.1 h)
          rw [decide_eq_true hq] at HZ
          clear hq
          refine ⟨trivial,fun h=>(by cases h),?_⟩
          gi_at_call 128
          refine (callsIn_wide.2 KC.out).mono ?_
          rintro e10 w10 ⟨rfl,h10⟩
          subst w10
          clear KC
          dsimp only
          iterate 28 (first | go_values | gi_guarded | gi_step | gi_upon)
          refine wpIn_wide.2 ?_
          go_wp2
          have H7:=hide (run_setc (run_setc H4.out okD.out 2 (.string (bs q))) okD.out 3 (.bool true):Run F0 w0 (star (CellO h9 #[.int .i64 (ni:Nat),.int .i64 (nj:Nat),.string (bs q),.bool true] 175) _) _)
          clear H4 z0 z1 z2 z3 zf x0 x1 x2 x3 xf c1 c2 c3 c4
          generalize (w.setCell ⟨h9,2,none⟩ (.string (bs q))).setCell ⟨h9,3,none⟩ (.bool true)=w7 at *
          obtain ⟨z0,z1,z2,z3,zf⟩:=run_c4 H7.out
          obtain ⟨x0,x1,x2,x3,xf⟩:=run_c4 H7.out.drop
          obtain ⟨hM,hi,hx⟩:=HZ.out
          have HM:=hide hM
          have hw:=HY.out (star (CellO g5 #[.slice y.L ls.length y.lc,.slice y.R y.q.length y.rc] 167) (Zw W x s b1 b2)) (star_ok cell_ok Zw_ok) _ hi w7 (H7.out.drop.drop.perm (by ac_rfl))
          rw [hx] at hw
          clear hM HZ
          simp only [encA,stC,acells] at hw
          obtain ⟨fn,tmps,assign,body,hy,hround⟩:=hw
          have HRD:=hide hround
          clear hround hx hi
          gi_wp2
          try rw [hy]
          refine ⟨fun h=>(by cases h),?_⟩
          refine HRD.out.mono ?_
          rintro e W3 (⟨rfl,h3⟩ | ⟨rfl,h3⟩)
          ·have H8:=hide (h3.perm (by ac_rfl:_=star (CellO g5 #[.slice y.L ls.length y.lc,.slice y.R y.q.length y.rc] 167) (star (Zw W x s b1 b2) (X ((amvs W x s k).length+1)))))
           clear HRD h3 hy H7 z0 z1 z2 z3 zf x0 x1 x2 x3 xf
           gi_wp2
           go_roundw
           case rel=>exact ⟨k+1,HK1.out,by go_num,by rw [HM.out,List.length_append,←HA.out];exact H8.out⟩
           case measure=>have:=HK1.out;simp [intOf];omega
          ·have HE2:=hide (show (∃ v,(Ending.returned (.tuple #[]))=.returned v)∧∃ Z:CH.Own,Z.Ok∧(Run F0 w0 (star Z (X (amovR W x s).length)) W3∨Run F0 w0 (star Z Y) W3) from ⟨⟨_,rfl⟩,_,star_ok cell_ok Zw_ok,.inr h3⟩)
           clear HRD h3 hy H7 z0 z1 z2 z3 zf x0 x1 x2 x3 xf
           gi_wp2
           refine bodyPost_ret (results_none rfl _ _ _) rfl ?_
           exact HE2.out
       ·by_cases h3:s.a.isPrefixOf rt=true
        ·have HZ:=hide (HYf.out _ (ahA_2 h1 h3))
         rw [HL.out] at HZ
         rw [if_neg h1,Bool.eq_false_iff.2 h1] at KC
         clear h1 HN2k HYf
         refine ⟨trivial,fun h=>(by cases h),?_⟩
         gi_at_call 128
         refine (callsIn_wide.2 KC.out).mono ?_
         rintro e10 w10 ⟨rfl,h10⟩
         subst w10
         clear KC
         dsimp only
         gi_wp2_with fail
         have KD:=hide (cutp_any rt s.a w)
         rw [if_pos h3,h3] at KD
         clear h3
         generalize rt.drop s.a.length=q at *
         refine ⟨trivial,fun h=>(by cases h),?_⟩
         gi_at_call 128
         refine (callsIn_wide.2 KD.out).mono ?_
         rintro e10 w10 ⟨rfl,h10⟩
         subst w10
         clear KD
         dsimp only
         iterate 28 (first | go_values | gi_guarded | gi_step | gi_upon)
         refine wpIn_wide.2 ?_
         go_wp2
         have H7:=hide (run_setc (run_setc H4.out okD.out 2 (.string (bs q))) okD.out 3 (.bool (!lf)):Run F0 w0 (star (CellO h9 #[.int .i64 (ni:Nat),.int .i64 (nj:Nat),.string (bs q),.bool (!lf)] 175) _) _)
         clear H4 z0 z1 z2 z3 zf x0 x1 x2 x3 xf c1 c2 c3 c4
         generalize (w.setCell ⟨h9,2,none⟩ (.string (bs q))).setCell ⟨h9,3,none⟩ (.bool (!lf))=w7 at *
         obtain ⟨z0,z1,z2,z3,zf⟩:=run_c4 H7.out
         obtain ⟨x0,x1,x2,x3,xf⟩:=run_c4 H7.out.drop
         obtain ⟨hM,hi,hx⟩:=HZ.out
         have HM:=hide hM
         have hw:=HY.out (star (CellO g5 #[.slice y.L ls.length y.lc,.slice y.R y.q.length y.rc] 167) (Zw W x s b1 b2)) (star_ok cell_ok Zw_ok) _ hi w7 (H7.out.drop.drop.perm (by ac_rfl))
         rw [hx] at hw
         clear hM HZ
         simp only [encA,stC,acells] at hw
         obtain ⟨fn,tmps,assign,body,hy,hround⟩:=hw
         have HRD:=hide hround
         clear hround hx hi
         gi_wp2
         try rw [hy]
         refine ⟨fun h=>(by cases h),?_⟩
         refine HRD.out.mono ?_
         rintro e W3 (⟨rfl,h3⟩ | ⟨rfl,h3⟩)
         ·have H8:=hide (h3.perm (by ac_rfl:_=star (CellO g5 #[.slice y.L ls.length y.lc,.slice y.R y.q.length y.rc] 167) (star (Zw W x s b1 b2) (X ((amvs W x s k).length+1)))))
          clear HRD h3 hy H7 z0 z1 z2 z3 zf x0 x1 x2 x3 xf
          gi_wp2
          go_roundw
          case rel=>exact ⟨k+1,HK1.out,by go_num,by rw [HM.out,List.length_append,←HA.out];exact H8.out⟩
          case measure=>have:=HK1.out;simp [intOf];omega
         ·have HE2:=hide (show (∃ v,(Ending.returned (.tuple #[]))=.returned v)∧∃ Z:CH.Own,Z.Ok∧(Run F0 w0 (star Z (X (amovR W x s).length)) W3∨Run F0 w0 (star Z Y) W3) from ⟨⟨_,rfl⟩,_,star_ok cell_ok Zw_ok,.inr h3⟩)
          clear HRD h3 hy H7 z0 z1 z2 z3 zf x0 x1 x2 x3 xf
          gi_wp2
          refine bodyPost_ret (results_none rfl _ _ _) rfl ?_
          exact HE2.out
        ·have HN0:=hide (HN2k.out (ahA_3 h1 h3))
         rw [if_neg h1,Bool.eq_false_iff.2 h1] at KC
         have KD:=hide (cutp_any rt s.a w)
         rw [if_neg h3,Bool.eq_false_iff.2 h3] at KD
         clear h1 h3 HN2k HYf
         refine ⟨trivial,fun h=>(by cases h),?_⟩
         gi_at_call 128
         refine (callsIn_wide.2 KC.out).mono ?_
         rintro e10 w10 ⟨rfl,h10⟩
         subst w10
         clear KC
         dsimp only
         gi_wp2_with fail
         refine ⟨trivial,fun h=>(by cases h),?_⟩
         gi_at_call 128
         refine (callsIn_wide.2 KD.out).mono ?_
         rintro e10 w10 ⟨rfl,h10⟩
         subst w10
         clear KD
         dsimp only
         gi_wp2
         go_roundw
         case rel=>exact ⟨k+1,HK1.out,by go_num,by rw [HN0.out,←HA.out];exact H4.out.drop.drop⟩
         case measure=>have:=HK1.out;simp [intOf];omega
      have HC3:=hide cut3
      clear cut3 hKj
      have HKc:=hide hKc
      clear hKc
      obtain ⟨z0,z1,z2,z3,zf⟩:=run_c4 H3.out
      obtain ⟨x0,x1,x2,x3,xf⟩:=run_c4 H3.out.drop
      have hfl:=HF6k.out.1
      refine wpIn_wide.2 ?_
      cases lf with
      | false =>
       have eN:((iN s false rf.length:Nat):Int)=(s.i:Int):=rfl
       have eM:((jN s false rf.length:Nat):Int)=(s.j:Int)+(rf.length:Int):=by simp [jN]
       rw [eN,eM] at HC3
       clear eN eM
       go_wp2
       refine HKc.out _ _ ?_
       refine wpIn_wide.2 ?_
       go_wp2
       exact HC3.out _ _ _ _ _ _ _ _ _ _ _ _ _ _ _ _ _ _ _ _ _ _ _ _ _ _ _ _ (run_setc H3.out okD.out 1 _)
      | true =>
       have eN:((iN s true rf.length:Nat):Int)=(s.i:Int)+(rf.length:Int):=by simp [iN]
       have eM:((jN s true rf.length:Nat):Int)=(s.j:Int):=rfl
       rw [eN,eM] at HC3
       clear eN eM
       go_wp2
       refine HKc.out _ _ ?_
       refine wpIn_wide.2 ?_
       go_wp2
       exact HC3.out _ _ _ _ _ _ _ _ _ _ _ _ _ _ _ _ _ _ _ _ _ _ _ _ _ _ _ _ (run_setc H3.out okD.out 0 _)
     ·have HN0:=hide (HN1k.out (Bool.eq_false_iff.2 hfit))
      rw [Bool.eq_false_iff.2 hfit]
      clear hfit HN1k
      gi_wp2
      go_roundw
      case rel=>exact ⟨k+1,HK1.out,by go_num,by rw [HN0.out,←HA.out];exact H2.out.drop⟩
      case measure=>have:=HK1.out;simp [intOf];omega
    ·obtain rfl:k=y.q.length:=by omega
     have HEND:=hide (show (∃ v,(Ending.returned (.tuple #[]))=.returned v)∧∃ Z:CH.Own,Z.Ok∧(Run F0 w0 (star Z (X (amovR W x s).length)) wr∨Run F0 w0 (star Z Y) wr) from ⟨⟨_,rfl⟩,_,star_ok cell_ok Zw_ok,.inl (by rw [←HAL.out];exact HR.out.perm (by ac_rfl))⟩)
     gi_wp2
     go_end0
     exact HEND.out
  have HC2:=hide cut2
  clear cut2 hK3
  clear HE HY HS HW ha
  cases lf with
  | false =>
   clear HL
   refine wpIn_wide.2 ?_
   go_wp2
   exact HC2.out _ _ _ _ _ _ _ _ _ _ H3.out
  | true =>
   clear HL
   refine wpIn_wide.2 ?_
   go_wp2_with fail
   have H4:=hide (H3.out.drew (star_ok cell_ok (star_ok Zw_ok (okX 0))))
   have hS0:=HSW.out _ H4.out.drop
   refine wp_region_lex (fun w:World=>w.cell? ⟨b1,0,none⟩=some (.int .i64 s.i)∧w.cell? ⟨b1,1,none⟩=some (.int .i64 s.j)∧w.cell? ⟨b2,0,none⟩=some (.slice x.a.L W.l.length x.a.lc)∧w.cell? ⟨b2,1,none⟩=some (.slice x.a.R x.a.q.length x.a.rc)∧w.cell? ⟨b2,2,none⟩=some (.slice x.b.L W.m.length x.b.lc)∧w.cell? ⟨b2,3,none⟩=some (.slice x.b.R x.b.q.length x.b.rc)) (by kernel_rfl) (by kernel_rfl) hS0 ?_
   clear hS0 H3
   generalize w3.drew=w4 at *
   (repeat ((first | refine lex_skip (by rfl) ?_ | (refine lex_read (v:=?_) (by rfl) ?_ ?_;rotate_left;(focus (intro w' hS';go_simp;(try with_reducible rfl);done))));try simp only [Act.put,List.setIfInBounds_toArray,List.set_cons_zero,List.set_cons_succ]))
   refine lex_chain rfl (by rfl) (fun K hK=>?_)
   obtain ⟨f5,hf5⟩:=H4.out.fst
   have y0:=cell_at (i:=0) hf5 rfl
   have y1:=cell_at (i:=1) hf5 rfl
   have yf:=cell_free hf5
   clear hf5
   go_wp2_with fail
   have H5:=hide (run_set2 H4.out (star_ok Zw_ok (okX 0)) (.slice x.a.L W.l.length x.a.lc) (.slice x.a.R x.a.q.length x.a.rc))
   clear H4 y0 y1 yf
   generalize (w4.setCell ⟨g5,0,none⟩ (.slice x.a.L W.l.length x.a.lc)).setCell ⟨g5,1,none⟩ (.slice x.a.R x.a.q.length x.a.rc)=w5 at *
   refine hK.out _ _ (HSW.out _ H5.out.drop) ?_
   clear hK
   (repeat ((first | refine lex_skip (by rfl) ?_ | (refine lex_read (v:=?_) (by rfl) ?_ ?_;rotate_left;(focus (intro w' hS';go_simp;(try with_reducible rfl);done))));try simp only [Act.put,List.setIfInBounds_toArray,List.set_cons_zero,List.set_cons_succ]))
   refine lex_nil ?_
   exact HC2.out _ _ _ _ _ _ _ _ _ _ H5.out
 have HC:=hide cut
 clear cut hK0
 cases hr:s.r with
 | true =>
  have hl:W.left s=true:=by unfold Wd.left;rw [hr];rfl
  have HL:=hide hl
  rw [hr] at c4
  clear hl hr
  refine wpIn_wide.2 ?_
  go_wp2
  exact HC.out true _ _ _ _ _ _ _ _ _ _ _ _ _ _ _ _ HL.out
 | false =>
  rw [hr] at c4
  by_cases he:s.a=[]
  ·have he2:(bs s.a).toList.isEmpty=true:=by rw [List.isEmpty_iff];exact bs_empty.2 he
   by_cases hi:s.i=W.l.length
   ·have hl:W.left s=false:=by unfold Wd.left;rw [hr];simp [hi]
    have HL:=hide hl
    have hi2:decide (s.i < W.l.length)=false:=decide_eq_false (by omega)
    clear hl hi he hr
    gi_wp2
    exact HC.out false _ _ _ _ _ _ _ _ _ _ _ _ _ _ _ _ HL.out
   ·have hl:W.left s=true:=by unfold Wd.left;rw [hr];simp [hi,he]
    have HL:=hide hl
    have hi2:decide (s.i < W.l.length)=true:=decide_eq_true (by have:=HS.out.1;omega)
    clear hl hi he hr
    gi_wp2
    exact HC.out true _ _ _ _ _ _ _ _ _ _ _ _ _ _ _ _ HL.out
  ·have he2:(bs s.a).toList.isEmpty=false:=by rw [List.isEmpty_eq_false_iff];exact fun h=>he (bs_empty.1 h)
   have hl:W.left s=false:=by unfold Wd.left;rw [hr];simp [he]
   have HL:=hide hl
   clear hl he hr
   gi_wp2
   exact HC.out false _ _ _ _ _ _ _ _ _ _ _ _ _ _ _ _ HL.out
end Go.Proofs.YtbnnlpjpnihheaaGreatDoor
namespace Go.Proofs.YtbnnlpjpnihheaaGreatDoor
open Go.RowKit Go.CH Go.CH.Scr Go.CH.Pot
open Go.ChangeMaps (setBlock)
attribute [local go_sem] Oper.semAt_some
set_option maxHeartbeats 6400000 in
set_option maxRecDepth 100000 in
theorem walk_n {W:Wd} {x:WA} {b bm bw bf:Nat} {F0:Nat→Prop} {w0:World} (hE:∀ W',Mod F0 w0 W'→AwR W x W') (hW:AwS W x) (hg:W.good) (ht:W.tosOk) (hm:MovA W x) :
  ∀ (n:Nat) (s:St) (L:List (St × Int)) (X:CH.Own) (w:World),W.rank s < n→W.ok s→s.a.length≤3→Kn W L→X.Ok→Run F0 w0 (star (StM b L) (star (WkB W x b bm bw bf) X)) w →
  Calls Tryz.prog 125 #[stV s,.pointer (some ⟨bm,0,none⟩),.pointer (some ⟨bw,0,none⟩),.pointer (some ⟨bf,0,none⟩)] w (WkRet W x s L F0 w0 b bm bw bf X):=by
 intro n
 induction n with
 | zero=>intro s L X w h;exact absurd h (Nat.not_lt_zero _)
 | succ n ih =>
 intro s L X w hn hs ha hk hX hR
 have IH:=hide ih
 have HE:=hide hE
 have HW:=hide hW
 have HG:=hide hg
 have HT:=hide ht
 have HN:=hide hn
 have HS:=hide hs
 have HA:=hide ha
 have HK:=hide hk
 have HX:=hide hX
 have HM:=hide hm
 have okB:=hide (star_ok stm_ok (star_ok wkb_ok hX):(star (StM b L) (star (WkB W x b bm bw bf) X)).Ok)
 have h2:Run F0 w0 (star (CellO w.heap.size (stC s) 175) (star (StM b L) (star (WkB W x b bm bw bf) X))) _:=run_new hR okB.out (stC s) 175
 have H2:=hide h2
 clear ih hE hW hg ht hn hs ha hk h2 hR hm
 refine (callsIn_wide (n:=8)).1 ?_
 refine callsIn_of_wp_marks Tryz.func125 rfl trivial ?_ rfl
 simp only [Tryz.ntmps125,List.size_toArray,List.length_cons,List.length_nil,Nat.reduceAdd,Nat.reduceSub,Array.replicate_succ,Array.replicate_zero,List.push_toArray,List.append_toArray,List.nil_append,List.cons_append]
 refine (wpIn_wide (n:=8)).2 ?_
 unfold stV
 unfold stC
 unfold stC at H2
 generalize hW2:w.alloc (.cells #[.int .i64 s.i,.int .i64 s.j,.string (bs s.a),.bool s.r] 175)=w2 at *
 iterate 9 (first | go_values | go_guarded | go_step)
 clear hW2
 generalize w.heap.size=gs at *
 obtain ⟨F,hF⟩:=H2.out.fst
 have c0:=cell_at (i:=0) hF rfl
 have c1:=cell_at (i:=1) hF rfl
 have c2:=cell_at (i:=2) hF rfl
 have c3:=cell_at (i:=3) hF rfl
 clear hF F
 obtain ⟨m0,f0,d0,d1,d2,d3⟩:=wkb_cells H2.out.drop.drop
 obtain ⟨F,hF⟩:=H2.out.drop.fst
 have hlk:=astm_get hF s true
 by_cases hin:s ∈ keysL L
 ·obtain ⟨v,hv⟩:=mem_keys.1 hin
  have hv2:v=W.dist s:=HK.out.val _ hv
  subst hv2
  rw [mget_kn HK.out.nd hv] at hlk
  have hlk2:(Instr.lookup 172 (.map (some b)) (.agg #[.int .i64 s.i,.int .i64 s.j,.string (bs s.a),.bool s.r]) true).run Tryz.prog w2=.ok (.tuple #[.int .i64 (W.dist s),.bool true]) w2:=hlk
  have HF:=hide (show WkRet W x s L F0 w0 b bm bw bf X (.returned (.int .i64 (W.dist s))) w2 from ⟨L,rfl,HK.out,Ext.refl,hin,H2.out.drop⟩)
  clear hlk hF hv hin
  go_wp2
  refine ⟨_,results_tmp rfl _ _ _,?_⟩
  exact HF.out
 ·rw [mget_no hin] at hlk
  have hlk2:(Instr.lookup 172 (.map (some b)) (.agg #[.int .i64 s.i,.int .i64 s.j,.string (bs s.a),.bool s.r]) true).run Tryz.prog w2=.ok (.tuple #[.int .i64 0,.bool false]) w2:=hlk
  have HIN:=hide hin
  clear hlk hF hin
  iterate 56 (first | go_values | go_guarded | go_step)
  have okC:=hide (star_ok cell_ok okB.out:(star (CellO gs #[.int .i64 s.i,.int .i64 s.j,.string (bs s.a),.bool s.r] 175) (star (StM b L) (star (WkB W x b bm bw bf) X))).Ok)
  have H3:=hide (run_new H2.out okC.out #[.int .i64 1099511627776] 3)
  clear H2 c0 c1 c2 c3 m0 f0 d0 d1 d2 d3 hlk2
  generalize w2.alloc (.cells #[.int .i64 1099511627776] 3)=w3 at *
  generalize w2.heap.size=g8 at *
  obtain ⟨c0,c1,c2,c3,-⟩:=run_c4 H3.out.drop
  obtain ⟨m0,f0,d0,d1,d2,d3⟩:=wkb_cells H3.out.drop.drop.drop
  have KD:=hide (done_any (w:=w3) (W:=W) (x:=x) (s:=s))
  unfold wordsC stC at KD
  rename_i Kj hKj
  refine wp_seq_k ?_
  intro Kc hKc
  have cut:∀ (w:World) (g18 g19 g20 g21:Value),Run F0 w0 (star (CellO g8 #[.int .i64 (minF W s 0)] 3) (star (CellO gs (stC s) 175) (star (StM b L) (star (WkB W x b bm bw bf) X)))) w→Kj { tmps:=#[.agg #[.int .i64 s.i,.int .i64 s.j,.string (bs s.a),.bool s.r],.pointer (some ⟨bm,0,none⟩),.pointer (some ⟨bw,0,none⟩),.pointer (some ⟨bf,0,none⟩),.pointer (some ⟨gs,0,none⟩),.int .i64 0,.int .i64 0,.bool false,.pointer (some ⟨g8,0,none⟩),undef,undef,.tuple #[.int .i64 0,.bool false],.map (some b),.agg #[.int .i64 s.i,.int .i64 s.j,.string (bs s.a),.bool s.r],.tuple #[.int .i64 0,.bool false],.int .i64 0,.bool false,.bool false,g18,g19,g20,g21,undef,undef,undef,undef,undef,undef,undef,undef,undef,undef,undef,undef,undef,undef,undef,undef,undef],defers:=[] } w:=by
   intro w g18 g19 g20 g21 hR
   have HR:=hide hR
   refine hKj _ _ ?_
   clear hKj hKc Kc Kj hR H3 KD c0 c1 c2 c3 m0 f0 d0 d1 d2 d3
   have okO:=hide (star_ok cell_ok okC.out:(star (CellO g8 #[.int .i64 (minF W s 0)] 3) (star (CellO gs #[.int .i64 s.i,.int .i64 s.j,.string (bs s.a),.bool s.r] 175) (star (StM b L) (star (WkB W x b bm bw bf) X)))).Ok)
   obtain ⟨c0,c1,c2,c3,-⟩:=run_c4 (HR.out.drop:Run F0 w0 (star (CellO gs #[.int .i64 s.i,.int .i64 s.j,.string (bs s.a),.bool s.r] 175) _) w)
   obtain ⟨m0,f0,d0,d1,d2,d3⟩:=wkb_cells HR.out.drop.drop.drop
   have KM:=hide (amoves_any (W:=W) (x:=x) (s:=s) w)
   unfold wordsC stC at KM
   go_wp2_with fail
   refine KM.out.mono ?_
   rintro e9 w9 ⟨b1,b2,rfl,hp⟩
   have S1:=hide (HR.out.fresh okO.out hp)
   clear HR KM hp c0 c1 c2 c3 m0 f0 d0 d1 d2 d3
   go_wp2_with fail
   have HIT:=hide (amoves_iter (W:=W) (s:=s) (x:=x) (b1:=b1) (b2:=b2) HS.out HW.out (Nat.le_trans HA.out (by omega)))
   have okI:∀ i,(exA fun L':List (St × Int)=>pur (KnI W s L i L') (star (CellO g8 #[.int .i64 (minF W s i)] 3) (star (CellO gs (stC s) 175) (star (StM b L') (star (WkB W x b bm bw bf) X))))).Ok:=fun i=>exA_ok fun L'=>pur_ok (star_ok cell_ok (star_ok cell_ok (star_ok stm_ok (star_ok wkb_ok HX.out))))
   have okI2:∀ (i:Nat) (a':Act),(exA fun L':List (St × Int)=>exA fun g9:Nat=>exA fun g10:Nat=>exA fun y:RA × St=>pur (KnI W s L i L'∧(amovR W x s)[i]?=some y∧a'={ tmps:=#[.agg #[.int .i64 s.i,.int .i64 s.j,.string (bs s.a),.bool s.r],.pointer (some ⟨bm,0,none⟩),.pointer (some ⟨bw,0,none⟩),.pointer (some ⟨bf,0,none⟩),.pointer (some ⟨gs,0,none⟩),.int .i64 0,.int .i64 0,.bool false,.pointer (some ⟨g8,0,none⟩),.pointer (some ⟨g9,0,none⟩),.pointer (some ⟨g10,0,none⟩),.tuple #[.int .i64 0,.bool false],.map (some b),.agg #[.int .i64 s.i,.int .i64 s.j,.string (bs s.a),.bool s.r],.tuple #[.int .i64 0,.bool false],.int .i64 0,.bool false,.bool false,g18,g19,g20,g21,.agg #[.slice x.a.L W.l.length x.a.lc,.slice x.a.R x.a.q.length x.a.rc,.slice x.b.L W.m.length x.b.lc,.slice x.b.R x.b.q.length x.b.rc],.agg #[.int .i64 s.i,.int .i64 s.j,.string (bs s.a),.bool s.r],fnA b1 b2,.agg (acells y.1).toArray,.agg (stC y.2),undef,undef,undef,undef,undef,undef,undef,undef,undef,undef,undef,undef],defers:=[] }) (star (CellO g10 (stC y.2) 175) (star (CellO g9 (acells y.1).toArray 181) (star (CellO g8 #[.int .i64 (minF W s i)] 3) (star (CellO gs (stC s) 175) (star (StM b L') (star (WkB W x b bm bw bf) X))))))).Ok:=fun i a'=>exA_ok fun L'=>exA_ok fun g9=>exA_ok fun g10=>exA_ok fun y=>pur_ok (star_ok cell_ok (star_ok cell_ok (star_ok cell_ok (star_ok cell_ok (star_ok stm_ok (star_ok wkb_ok HX.out))))))
   have hst:Run F0 w0 (star (Zw W x s b1 b2) (exA fun L':List (St × Int)=>pur (KnI W s L 0 L') (star (CellO g8 #[.int .i64 (minF W s 0)] 3) (star (CellO gs (stC s) 175) (star (StM b L') (star (WkB W x b bm bw bf) X)))))) w9:=(Run.exI L (Run.pureI (kni_zero HK.out) S1.out.swap)).swap
   refine range_law3 (gf:=126) (lb:=#[.pointer (some ⟨b1,0,none⟩),.pointer (some ⟨b2,0,none⟩)]) rfl (enters_of Tryz.func126 (by kernel_rfl) rfl) HIT.out Zw_ok (fun _=>rfl) HE.out _ (fun _=>noO) okI _ okI2 (fun _=>no_ok) hst ?_ ?_ ?_ ?_
   ·intro lo m i hi R W1 K hR hI hK
    obtain ⟨L',h1⟩:=hI.ex
    obtain ⟨hkn,h2⟩:=h1.pure
    have ok2:(star (star (CellO g8 #[.int .i64 (minF W s i)] 3) (star (CellO gs (stC s) 175) (star (StM b L') (star (WkB W x b bm bw bf) X)))) R).Ok:=star_ok (star_ok cell_ok (star_ok cell_ok (star_ok stm_ok (star_ok wkb_ok HX.out)))) hR
    have h3:=run_new h2 ok2 (acells (amovR W x s)[i].1).toArray 181
    have h4:=run_new h3 (star_ok cell_ok ok2) (stC (amovR W x s)[i].2) 175
    rw [World.size_alloc] at h4
    have HF:=hide (hK { tmps:=#[.agg #[.int .i64 s.i,.int .i64 s.j,.string (bs s.a),.bool s.r],.pointer (some ⟨bm,0,none⟩),.pointer (some ⟨bw,0,none⟩),.pointer (some ⟨bf,0,none⟩),.pointer (some ⟨gs,0,none⟩),.int .i64 0,.int .i64 0,.bool false,.pointer (some ⟨g8,0,none⟩),.pointer (some ⟨W1.heap.size,0,none⟩),.pointer (some ⟨W1.heap.size+1,0,none⟩),.tuple #[.int .i64 0,.bool false],.map (some b),.agg #[.int .i64 s.i,.int .i64 s.j,.string (bs s.a),.bool s.r],.tuple #[.int .i64 0,.bool false],.int .i64 0,.bool false,.bool false,g18,g19,g20,g21,.agg #[.slice x.a.L W.l.length x.a.lc,.slice x.a.R x.a.q.length x.a.rc,.slice x.b.L W.m.length x.b.lc,.slice x.b.R x.b.q.length x.b.rc],.agg #[.int .i64 s.i,.int .i64 s.j,.string (bs s.a),.bool s.r],fnA b1 b2,.agg (acells (amovR W x s)[i].1).toArray,.agg (stC (amovR W x s)[i].2),undef,undef,undef,undef,undef,undef,undef,undef,undef,undef,undef,undef],defers:=[] } _ (Run.exI L' (Run.exI W1.heap.size (Run.exI (W1.heap.size+1) (Run.exI (amovR W x s)[i] (Run.pureI ⟨hkn,List.getElem?_eq_getElem hi,rfl⟩ (h4.perm (by ac_rfl))))))))
    clear hI h1 h2 h3 h4 hK hkn ok2
    unfold encA
    generalize (amovR W x s)[i]=y at *
    obtain ⟨⟨⟨yx,yc,yf,yt⟩,yA,yn⟩,⟨xi,xj,xa,xr⟩⟩:=y
    unfold stC acells
    unfold stC acells at HF
    dsimp only at HF
    dsimp only
    gi_wp2
    exact HF.out
   ·intro lo m i hi a' R W1 hR hI
    obtain ⟨L',h1⟩:=hI.ex
    obtain ⟨g9,h1⟩:=h1.ex
    obtain ⟨g10,h1⟩:=h1.ex
    obtain ⟨y,h1⟩:=h1.ex
    obtain ⟨⟨hkn,hx,rfl⟩,h2⟩:=h1.pure
    have hye:(amovR W x s)[i]=y:=by rw [List.getElem?_eq_getElem hi] at hx;injection hx
    have hi2:i < (W.moves s).length:=by rw [mova_len HM.out HS.out];exact hi
    have hxe:(W.moves s)[i]=(y.1.r.c,y.2):=by rw [mova_at HM.out HS.out hi hi2,hye]
    have hmem:(y.1.r.c,y.2) ∈ W.moves s:=by rw [←hxe];exact List.getElem_mem hi2
    have hmo:=moves_ok HS.out hmem
    have hgc:=good_cost HG.out hmem
    have hd0:=dist_nonneg HG.out hmo.1
    have hd1:=dist_never hmo.1
    have hm0:=minF_pos HG.out HS.out i
    have hm1:=minF_le (W:=W) (s:=s) (i:=i)
    have okY:(star (CellO g10 (stC y.2) 175) (star (CellO g9 (acells y.1).toArray 181) (star (CellO g8 #[.int .i64 (minF W s i)] 3) (star (CellO gs (stC s) 175) (star X R))))).Ok:=star_ok cell_ok (star_ok cell_ok (star_ok cell_ok (star_ok cell_ok (star_ok HX.out hR))))
    have h3:=(h2.perm (by ac_rfl):Run F0 w0 (star (StM b L') (star (WkB W x b bm bw bf) (star (CellO g10 (stC y.2) 175) (star (CellO g9 (acells y.1).toArray 181) (star (CellO g8 #[.int .i64 (minF W s i)] 3) (star (CellO gs (stC s) 175) (star X R))))))) W1).drew (star_ok stm_ok (star_ok wkb_ok okY))
    have KI:=hide (IH.out y.2 L' _ W1.drew (by have:=HN.out;have:=hmo.2;omega) hmo.1 (move_ahead HT.out HA.out hmem) hkn.kn okY h3)
    obtain ⟨m0,f0,d0,d1,d2,d3⟩:=wkb_cells h3.drop
    obtain ⟨y0,y1,y2,y3,-⟩:=run_c4 (h3.drop.drop:Run F0 w0 (star (CellO g10 #[.int .i64 y.2.i,.int .i64 y.2.j,.string (bs y.2.a),.bool y.2.r] 175) _) _)
    obtain ⟨F9,hF9⟩:=h3.drop.drop.drop.fst
    have e9:W1.drew.cell? ⟨g9,1,none⟩=some (.int .i64 y.1.r.c):=cell_at (i:=1) hF9 rfl
    obtain ⟨F7,hF7⟩:=h3.drop.drop.drop.drop.fst
    have e7:=cell_at (i:=0) hF7 rfl
    have HSU:=hide (minF_succ hi2)
    have HKS:=hide (fun L'' h1 h2 h3=>kni_succ (L'':=L'') hi2 hkn h1 (by rw [hxe];exact h2) (by rw [hxe];exact h3))
    rw [hxe] at HSU
    unfold WkRet at KI
    have HOY:=hide okY
    have HRR:=hide hR
    clear hI h1 h2 h3 hkn hx hxe hye hmem hmo hF7 hF9 okY hR hi hi2
    obtain ⟨⟨⟨yx,yc,yf,yt⟩,yA,yn⟩,⟨xi,xj,xa,xr⟩⟩:=y
    simp only [acells] at KI HOY HSU HKS hgc hd0 hd1 e9 y0 y1 y2 y3
    generalize W.dist ⟨xi,xj,xa,xr⟩=dd at *
    generalize minF W s i=mm at *
    unfold stV stC at KI
    unfold stC acells
    simp only at *
    unfold fnW at f0
    refine wpIn_block ?_
    refine region_in_les [5,8] [1,1,1,0,0,1,1,1,2] (fun w'=>w'=W1.drew) [fun w'=>w'.cell? ⟨g8,0,none⟩=some (.int .i64 mm)∧w'.cell? ⟨g9,1,none⟩=some (.int .i64 yc)] ⟨fun w h=>by rw [h];exact ⟨e7,e9⟩,trivial⟩ rfl (fun ⟨a,w,h⟩=>h) rfl (by kernel_rfl) (by kernel_rfl) (by kernel_rfl) rfl ?_
    generalize W1.drew=W2 at *
    (repeat (first | (refine les_skip (by rfl) (by rfl) ?_;try simp only [Act.put,List.setIfInBounds_toArray,List.set_cons_zero,List.set_cons_succ]) | (refine les_read (v:=?_) (by rfl) (by rfl) ?_ ?_;rotate_left;(focus (intro w' hS';(try simp only [stL] at hS');go_simp;(try with_reducible rfl);done));try simp only [Act.put,List.setIfInBounds_toArray,List.set_cons_zero,List.set_cons_succ])))
    refine les_chain rfl (by rfl) (fun K hK=>?_)
    go_wp2_with fail
    refine KI.out.mono ?_
    rintro e9' w9 ⟨L'',rfl,k1,k2,k3,hR9⟩
    have hR9':=(hR9.perm (by unfold stC;ac_rfl):Run F0 w0 (star (CellO g8 #[.int .i64 mm] 3) (star (star (CellO gs (stC s) 175) (star (StM b L'') (star (WkB W x b bm bw bf) X))) (star (CellO g10 #[.int .i64 xi,.int .i64 xj,.string (bs xa),.bool xr] 175) (star (CellO g9 #[.int .i64 (yx:Nat),.int .i64 yc,.slice yA yf.length yn,.string (bs yt)] 181) R)))) w9)
    have okZ:(star (star (CellO gs (stC s) 175) (star (StM b L'') (star (WkB W x b bm bw bf) X))) (star (CellO g10 #[.int .i64 xi,.int .i64 xj,.string (bs xa),.bool xr] 175) (star (CellO g9 #[.int .i64 (yx:Nat),.int .i64 yc,.slice yA yf.length yn,.string (bs yt)] 181) R))).Ok:=star_ok (star_ok cell_ok (star_ok stm_ok (star_ok wkb_ok HX.out))) (star_ok cell_ok (star_ok cell_ok HRR.out))
    obtain ⟨F7,hF7⟩:=hR9'.fst
    have q7:=cell_at (i:=0) hF7 rfl
    have p7:=cell_free hF7 0
    obtain ⟨F9,hF9⟩:=(hR9'.drop.drop.drop).fst
    have q9:w9.cell? ⟨g9,1,none⟩=some (.int .i64 yc):=cell_at (i:=1) hF9 rfl
    have H9:=hide (run_setc hR9' okZ 0 (.int .i64 (min mm (yc+dd))))
    have HK2:=hide (HKS.out L'' k1 k2 k3)
    refine hK.out _ _ ⟨q7,q9⟩ ?_
    clear hK KI hF7 hF9 hR9 hR9' k1 k2 k3 HKS okZ y0 y1 y2 y3 e7 e9 d0 d1 d2 d3 m0 f0
    (repeat (first | (refine les_skip (by rfl) (by rfl) ?_;try simp only [Act.put,List.setIfInBounds_toArray,List.set_cons_zero,List.set_cons_succ]) | (refine les_read (v:=?_) (by rfl) (by rfl) ?_ ?_;rotate_left;(focus (intro w' hS';(try simp only [stL] at hS');go_simp;(try with_reducible rfl);done));try simp only [Act.put,List.setIfInBounds_toArray,List.set_cons_zero,List.set_cons_succ])))
    refine les_chain rfl (by rfl) (fun K hK=>?_)
    go_wp2
    have hwr:wrap64 (yc+dd)=yc+dd:=by
     unfold never at hd1
     exact IntWalk.wrap64_in (yc+dd) (by omega)
    rw [hwr]
    refine hK.out _ _ trivial (les_nil ?_)
    have hfin:Run F0 w0 (star (exA fun L':List (St × Int)=>pur (KnI W s L (i+1) L') (star (CellO g8 #[.int .i64 (minF W s (i+1))] 3) (star (CellO gs (stC s) 175) (star (StM b L') (star (WkB W x b bm bw bf) X))))) R) (w9.setCell ⟨g8,0,none⟩ (.int .i64 (min mm (yc+dd)))):=by
     refine Run.exI L'' (Run.pureI HK2.out ?_)
     rw [HSU.out]
     exact (H9.out.perm (by ac_rfl):Run F0 w0 (star (CellO g9 #[.int .i64 (yx:Nat),.int .i64 yc,.slice yA yf.length yn,.string (bs yt)] 181) (star (CellO g10 #[.int .i64 xi,.int .i64 xj,.string (bs xa),.bool xr] 175) (star (star (CellO g8 #[.int .i64 (min mm (yc+dd))] 3) (star (CellO gs (stC s) 175) (star (StM b L'') (star (WkB W x b bm bw bf) X)))) R))) _).drop.drop
    exact hfin
   ·intro D R W1 hR hI
    obtain ⟨L',h1⟩:=hI.ex
    obtain ⟨hkn,h2⟩:=h1.pure
    rw [←mova_len HM.out HS.out] at hkn h2
    obtain ⟨k1,k2,k3,k4⟩:=kni_end hkn HS.out HIN.out
    rw [minF_all HS.out] at h2
    have okY:(star (ObjO D (.deferred (some []))) (star (CellO g8 #[.int .i64 (W.dist s)] 3) (star (CellO gs (stC s) 175) (star (WkB W x b bm bw bf) (star X R))))).Ok:=star_ok obj_ok (star_ok cell_ok (star_ok cell_ok (star_ok wkb_ok (star_ok HX.out hR))))
    have h3:=(h2.perm (by ac_rfl):Run F0 w0 (star (StM b L') (star (ObjO D (.deferred (some []))) (star (CellO g8 #[.int .i64 (W.dist s)] 3) (star (CellO gs (stC s) 175) (star (WkB W x b bm bw bf) (star X R)))))) W1)
    obtain ⟨c0,c1,c2,c3,-⟩:=run_c4 (h3.drop.drop.drop:Run F0 w0 (star (CellO gs #[.int .i64 s.i,.int .i64 s.j,.string (bs s.a),.bool s.r] 175) _) W1)
    obtain ⟨m0,f0,d0,d1,d2,d3⟩:=wkb_cells h3.drop.drop.drop.drop
    obtain ⟨F7,hF7⟩:=h3.drop.drop.fst
    have e7:=cell_at (i:=0) hF7 rfl
    obtain ⟨FM,hFM,-,bk⟩:=h3.take stm_ok okY
    obtain ⟨w',hup,hpost⟩:=mapO_put keyOk_ast Tryz.underlying172 hFM s (.int .i64 (W.dist s))
    have h4:=bk _ _ hpost
    have emp:mput (L'.map fun p=>(p.1,Value.int .i64 p.2)) s (.int .i64 (W.dist s))=(L' ++ [(s,W.dist s)]).map fun p=>(p.1,Value.int .i64 p.2):=by
     rw [mput_new_ (by rw [List.map_map];exact k4),List.map_append];rfl
    rw [emp] at h4
    have H4:=hide (show Run F0 w0 (star (StM b (L' ++ [(s,W.dist s)])) _) w' from h4)
    obtain ⟨F8,hF8⟩:=h4.drop.drop.fst
    have e8:=cell_at (i:=0) hF8 rfl
    obtain ⟨FD,hD,-,bk2⟩:=(H4.out.rot).take obj_ok (star_ok stm_ok (star_ok cell_ok (star_ok cell_ok (star_ok wkb_ok (star_ok HX.out hR)))))
    have HD:=hide hD.1
    have h5:=(bk2 _ _ (obj_put hD (.deferred none))).perm (by ac_rfl:_=star (star (ObjO D (.deferred none)) (star (CellO g8 #[.int .i64 (W.dist s)] 3) (star (CellO gs (stC s) 175) R))) (star (StM b (L' ++ [(s,W.dist s)])) (star (WkB W x b bm bw bf) X)))
    have HF:=hide (show WkRet W x s L F0 w0 b bm bw bf X (.returned (.int .i64 (W.dist s))) (w'.putObj D (.deferred none)) from ⟨_,rfl,k1,k2,k3,h5.drop⟩)
    unfold stV stC at hup
    clear hI h1 h2 h3 h4 h5 hkn k1 k2 k3 k4 okY hF7 hF8 hFM bk hpost emp H4 hD bk2 hR
    go_wp2_with fail
    refine ⟨by simp,.inl ⟨_,_,rfl,run_takeDeferred HD.out,?_⟩⟩
    refine ⟨_,results_tmp rfl _ _ _,?_⟩
    exact HF.out
   ·intro D c R W1 hR hI
    exact hI.no.elim
  have HC:=hide cut
  clear cut
  have HKj:=hide hKj
  have HKc:=hide hKc
  clear hKj hKc
  go_wp2_with fail
  refine KD.out.mono ?_
  rintro e9 w5 ⟨rfl,hb⟩
  have H5:=hide (H3.out.below (star_ok cell_ok okC.out) hb)
  clear H3 hb KD c0 c1 c2 c3 m0 f0 d0 d1 d2 d3
  rw [done_fin HS.out]
  dsimp only
  iterate 2 (first | go_values | go_guarded | go_step)
  refine HKc.out _ _ ?_
  by_cases hfin:s=W.fin
  ·rw [decide_eq_true hfin]
   have HM0:=hide (show minF W s 0=0 from by rw [minF_zero,if_pos hfin])
   clear hfin
   obtain ⟨F7,hF7⟩:=H5.out.fst
   have e7:=cell_at (i:=0) hF7 rfl
   have f7:=cell_free hF7 0
   clear hF7 F7
   go_wp2
   refine HC.out _ _ _ _ _ ?_
   rw [HM0.out]
   exact run_setc H5.out okC.out 0 (.int .i64 0)
  ·rw [decide_eq_false hfin]
   have HM0:=hide (show minF W s 0=1099511627776 from by rw [minF_zero,if_neg hfin];rfl)
   clear hfin
   go_wp2
   refine HC.out _ _ _ _ _ ?_
   rw [HM0.out]
   exact H5.out
end Go.Proofs.YtbnnlpjpnihheaaGreatDoor
namespace Go.Proofs.YtbnnlpjpnihheaaGreatDoor
open Go.RowKit Go.CH Go.CH.Scr Go.CH.Pot
open Go.ChangeMaps (setBlock)
attribute [local go_sem] Oper.semAt_some
theorem run_store_fn {P:Program} {w:World} {a:Addr} {m:Mode} (fn:Fn) (first captured:Array Value):(store a (.func fn first captured) m).run P w=stored P w a (.func fn first captured) m:=run_store P w a _ m rfl
attribute [local go_sem] run_store_fn

def CostsRet (W:Wd) (w:World) (e:Ending) (w':World):Prop:=∃ b L,e=.returned (.map (some b))∧Kn W L∧st0 ∈ keysL L∧Post w (fun _=>False) (StM b L) w'
set_option maxHeartbeats 6400000 in
set_option maxRecDepth 100000 in
theorem costs_any {W:Wd} {x:WA} {w:World} (hP:AwR W x w) (hS:AwS W x) (hg:W.good) (ht:W.tosOk) (hm:MovA W x):Calls Tryz.prog 96 #[.agg (wordsC W x)] w (CostsRet W w):=by
 have r1:=run_new (Run.begin w) emp_ok (wordsC W x) 169
 have r2:Run (fun _=>False) w (star (StM (w.heap.size+1) []) (star (CellO w.heap.size (wordsC W x) 169) emp)) ((w.alloc (.cells (wordsC W x) 169)).alloc (.map #[] 0)):=by
  have:=r1.fresh (star_ok cell_ok emp_ok) (map_new (kv:=stV) (w.alloc (.cells (wordsC W x) 169)))
  rw [World.size_alloc] at this
  exact this
 have r3:=run_new r2 (star_ok stm_ok (star_ok cell_ok emp_ok)) #[.map (some (w.heap.size+1))] 172
 have r4:=run_new r3 (star_ok cell_ok (star_ok stm_ok (star_ok cell_ok emp_ok))) #[Value.nilFunc] 213
 have e2:((w.alloc (.cells (wordsC W x) 169)).alloc (.map #[] 0)).heap.size=w.heap.size+1+1:=by rw [World.size_alloc,World.size_alloc]
 rw [World.size_alloc,e2] at r4
 have R4:=hide r4
 have KW:=hide (fun w9 hR=>walk_n (W:=W) (x:=x) (b:=w.heap.size+1) (bm:=w.heap.size+1+1) (bw:=w.heap.size) (bf:=w.heap.size+1+1+1) (F0:=fun _=>False) (w0:=w) (fun W' hm=>hP.below (hm.below (fun _ _ h=>h))) hS hg ht hm (W.rank st0+1) st0 [] emp w9 (Nat.lt_succ_self _) ok0 (Nat.zero_le _) kn_nil emp_ok hR)
 have hmk:∀ w:World,(Instr.makeMap 172 none).run Tryz.prog w=.ok (.map (some w.heap.size)) (w.alloc (.map #[] 0)):=fun w=>by kernel_rfl
 clear r1 r2 r3 r4 e2 hP hS hg ht hm
 unfold wordsC at R4 ⊢
 unfold stV st0 stC at KW
 dsimp only at KW
 go_enter Tryz.func96,Tryz.ntmps96
 go_upto_region 3 with (fail)
 generalize (((w.alloc (.cells #[.slice x.a.L W.l.length x.a.lc,.slice x.a.R x.a.q.length x.a.rc,.slice x.b.L W.m.length x.b.lc,.slice x.b.R x.b.q.length x.b.rc] 169)).alloc (.map #[] 0)).alloc (.cells #[.map (some (w.heap.size+1))] 172)).alloc (.cells #[Value.nilFunc] 213)=w4 at *
 generalize w.heap.size+1+1+1=bf at *
 generalize w.heap.size+1+1=bm at *
 generalize w.heap.size+1=b at *
 generalize w.heap.size=bw at *
 obtain ⟨F,hF⟩:=R4.out.fst
 have e4:=cell_at (i:=0) hF rfl
 have f4:=cell_free hF 0
 clear hF F
 go_upto_region 4 with (fail)
 have R5:=hide (show Run (fun _=>False) w (star (CellO bf #[fnW bm bw bf] 213) _) (w4.setCell ⟨bf,0,none⟩ (.func (.func 125) #[] #[.pointer (some ⟨bm,0,none⟩),.pointer (some ⟨bw,0,none⟩),.pointer (some ⟨bf,0,none⟩)])) from run_setc R4.out (star_ok cell_ok (star_ok stm_ok (star_ok cell_ok emp_ok))) 0 (fnW bm bw bf))
 clear R4 e4 f4
 generalize w4.setCell ⟨bf,0,none⟩ (.func (.func 125) #[] #[.pointer (some ⟨bm,0,none⟩),.pointer (some ⟨bw,0,none⟩),.pointer (some ⟨bf,0,none⟩)])=w5 at *
 obtain ⟨F,hF⟩:=R5.out.fst
 have e5:=cell_at (i:=0) hF rfl
 unfold fnW at e5
 clear hF F
 have KF:=hide (KW.out w5 (R5.out.perm (by unfold WkB wordsC;ac_rfl:_=star (StM b []) (star (WkB W x b bm bw bf) emp))))
 clear KW R5
 go_wp2_with fail
 refine KF.out.mono ?_
 rintro e9 w9 ⟨L,rfl,hkn,hext,hmem,hR⟩
 have R6:=hide hR
 have HKN:=hide hkn
 have HMEM:=hide hmem
 obtain ⟨m0,-⟩:=wkb_cells hR.drop
 have HF:=hide (show CostsRet W w (.returned (.map (some b))) w9 from ⟨b,L,rfl,hkn,hmem,(hR.swap.drop).post stm_ok⟩)
 clear R6 HKN HMEM hkn hext hmem hR KF
 go_wp2
 go_ret
 exact HF.out
end Go.Proofs.YtbnnlpjpnihheaaGreatDoor
