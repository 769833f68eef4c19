import Derived.Test.YtbnnlpjpnihheaaGreatDoorMD10
import Derived.Test.YtbnnlpjpnihheaaGreatDoorMD3
import Derived.Test.YtbnnlpjpnihheaaGreatDoorMD7
import Derived.Deep.DeepCutAuto
import Derived.Test.YtbnnlpjpnihheaaGreatDoorMD2
set_option linter.unusedSimpArgs false
set_option linter.unusedVariables false
namespace Go.Proofs.YtbnnlpjpnihheaaGreatDoor
open Go.RowKit Go.CH Go.CH.Scr Go.CH.Pot Go.CH.Mtc
open Go.ChangeMaps (setBlock)
attribute [local go_sem] Oper.semAt_some
theorem run_loadVar_bool {P:Program} (w:World) (g:Nat) (ty:TypeId) (b:Bool) (hg:w.cell? ⟨g,0,none⟩=some (.bool b)) (hu:P.underlying ty=some .bool) :
  (loadVar ty ⟨g,0,none⟩).run P w=.ok (.bool b) w:=by
 unfold loadVar
 simp [isAgg,run_underlying hu,Sem.run_bind,hg]
theorem res30 {tmps:Array Value} {w:World} {g g':Nat} {cs:Array Value} {b:Bool} (h:tmps.getD 6 undef=.pointer (some ⟨g,0,none⟩)) (h':tmps.getD 7 undef=.pointer (some ⟨g',0,none⟩)) (hs:cs.size=10) (hg:w.heap[g]?=some (.cells cs 44)) (hc:w.cell? ⟨g',0,none⟩=some (.bool b)):(results Tryz.f30 tmps).run Tryz.prog w=.ok (.tuple #[.agg cs,.bool b]) w:=by
 have e1:tmps[6]?.getD undef=.pointer (some ⟨g,0,none⟩):=by simpa using h
 have e2:tmps[7]?.getD undef=.pointer (some ⟨g',0,none⟩):=by simpa using h'
 have r1:=run_loadVar_bool (P:=Tryz.prog) w g' 4 b hc Tryz.underlying4
 have r2:=run_loadVar_row (P:=Tryz.prog) w g 44 44 cs (0,0) _ hg Tryz.underlying44 rfl (by rw [hs];kernel_rfl)
 simp only [results,Tryz.results30]
 simp [Sem.run_bind,Result.andThen,e1,e2,asAddr,r1,r2]
theorem run_c10 {F0:Nat→Prop} {w0 w:World} {g:Nat} {t:TypeId} {X:CH.Own} {a0 a1 a2 a3 a4 a5 a6 a7 a8 a9:Value} (h:Run F0 w0 (star (CellO g #[a0,a1,a2,a3,a4,a5,a6,a7,a8,a9] t) X) w) :
  (w.cell? ⟨g,0,none⟩=some a0∧w.cell? ⟨g,1,none⟩=some a1∧w.cell? ⟨g,2,none⟩=some a2∧w.cell? ⟨g,3,none⟩=some a3∧w.cell? ⟨g,4,none⟩=some a4)∧(w.cell? ⟨g,5,none⟩=some a5∧w.cell? ⟨g,6,none⟩=some a6∧w.cell? ⟨g,7,none⟩=some a7∧w.cell? ⟨g,8,none⟩=some a8∧w.cell? ⟨g,9,none⟩=some a9)∧∀ i,w.frozen? ⟨g,i,none⟩=false:=by
 obtain ⟨F,hF⟩:=h.fst
 exact ⟨⟨cell_at hF rfl,cell_at hF rfl,cell_at hF rfl,cell_at hF rfl,cell_at hF rfl⟩,⟨cell_at hF rfl,cell_at hF rfl,cell_at hF rfl,cell_at hF rfl,cell_at hF rfl⟩,cell_free hF⟩
theorem run_c12 {F0:Nat→Prop} {w0 w:World} {g:Nat} {t:TypeId} {X:CH.Own} {a0 a1 a2 a3 a4 a5 a6 a7 a8 a9 a10 a11:Value} (h:Run F0 w0 (star (CellO g #[a0,a1,a2,a3,a4,a5,a6,a7,a8,a9,a10,a11] t) X) w) :
  (w.cell? ⟨g,0,none⟩=some a0∧w.cell? ⟨g,1,none⟩=some a1∧w.cell? ⟨g,2,none⟩=some a2∧w.cell? ⟨g,3,none⟩=some a3∧w.cell? ⟨g,4,none⟩=some a4∧w.cell? ⟨g,5,none⟩=some a5)∧(w.cell? ⟨g,6,none⟩=some a6∧w.cell? ⟨g,7,none⟩=some a7∧w.cell? ⟨g,8,none⟩=some a8∧w.cell? ⟨g,9,none⟩=some a9∧w.cell? ⟨g,10,none⟩=some a10∧w.cell? ⟨g,11,none⟩=some a11)∧∀ i,w.frozen? ⟨g,i,none⟩=false:=by
 obtain ⟨F,hF⟩:=h.fst
 exact ⟨⟨cell_at hF rfl,cell_at hF rfl,cell_at hF rfl,cell_at hF rfl,cell_at hF rfl,cell_at hF rfl⟩,⟨cell_at hF rfl,cell_at hF rfl,cell_at hF rfl,cell_at hF rfl,cell_at hF rfl,cell_at hF rfl⟩,cell_free hF⟩
theorem run_set10 {F0:Nat→Prop} {w0 w:World} {g:Nat} {t:TypeId} {X:CH.Own} {a0 a1 a2 a3 a4 a5 a6 a7 a8 a9:Value} (h:Run F0 w0 (star (CellO g #[a0,a1,a2,a3,a4,a5,a6,a7,a8,a9] t) X) w) (hX:X.Ok) (b0 b1 b2 b3 b4 b5 b6 b7 b8 b9:Value) :
  Run F0 w0 (star (CellO g #[b0,b1,b2,b3,b4,b5,b6,b7,b8,b9] t) X) ((((((((((w.setCell ⟨g,0,none⟩ b0).setCell ⟨g,1,none⟩ b1).setCell ⟨g,2,none⟩ b2).setCell ⟨g,3,none⟩ b3).setCell ⟨g,4,none⟩ b4).setCell ⟨g,5,none⟩ b5).setCell ⟨g,6,none⟩ b6).setCell ⟨g,7,none⟩ b7).setCell ⟨g,8,none⟩ b8).setCell ⟨g,9,none⟩ b9):=by
 have h0:Run F0 w0 (star (CellO g #[b0,a1,a2,a3,a4,a5,a6,a7,a8,a9] t) X) _:=run_setc h hX 0 b0
 have h1:Run F0 w0 (star (CellO g #[b0,b1,a2,a3,a4,a5,a6,a7,a8,a9] t) X) _:=run_setc h0 hX 1 b1
 have h2:Run F0 w0 (star (CellO g #[b0,b1,b2,a3,a4,a5,a6,a7,a8,a9] t) X) _:=run_setc h1 hX 2 b2
 have h3:Run F0 w0 (star (CellO g #[b0,b1,b2,b3,a4,a5,a6,a7,a8,a9] t) X) _:=run_setc h2 hX 3 b3
 have h4:Run F0 w0 (star (CellO g #[b0,b1,b2,b3,b4,a5,a6,a7,a8,a9] t) X) _:=run_setc h3 hX 4 b4
 have h5:Run F0 w0 (star (CellO g #[b0,b1,b2,b3,b4,b5,a6,a7,a8,a9] t) X) _:=run_setc h4 hX 5 b5
 have h6:Run F0 w0 (star (CellO g #[b0,b1,b2,b3,b4,b5,b6,a7,a8,a9] t) X) _:=run_setc h5 hX 6 b6
 have h7:Run F0 w0 (star (CellO g #[b0,b1,b2,b3,b4,b5,b6,b7,a8,a9] t) X) _:=run_setc h6 hX 7 b7
 have h8:Run F0 w0 (star (CellO g #[b0,b1,b2,b3,b4,b5,b6,b7,b8,a9] t) X) _:=run_setc h7 hX 8 b8
 exact run_setc h8 hX 9 b9

def ChI (T:Tab) (k k2:Int) (ws:List Wy) (g6 g7:Nat) (X:CH.Own) (i:Nat):CH.Own :=
 exA fun p:Pr=>exA fun f:Bool=>exA fun A:Option Addr=>exA fun ac:Nat=>exA fun B:Option Addr=>exA fun bc:Nat=>pur (first (candI T k k2 ws i)=(if f then some p else none)∧(f=false→p=noP)) (star (CellO g6 (prC p A ac B bc) 44) (star (CellO g7 #[.bool f] 4) (star (DlO A ac B bc p.d) X)))
theorem chi_ok {T:Tab} {k k2:Int} {ws:List Wy} {g6 g7 i:Nat} {X:CH.Own} (hX:X.Ok):(ChI T k k2 ws g6 g7 X i).Ok:=exA_ok fun _=>exA_ok fun _=>exA_ok fun _=>exA_ok fun _=>exA_ok fun _=>exA_ok fun _=>pur_ok (star_ok cell_ok (star_ok cell_ok (star_ok dl_ok hX)))
theorem chi_mk {T:Tab} {k k2:Int} {ws:List Wy} {g6 g7 i:Nat} {X R:CH.Own} {F0:Nat→Prop} {w0 W:World} {p:Pr} {f:Bool} {A B:Option Addr} {ac bc:Nat} (h1:first (candI T k k2 ws i)=(if f then some p else none)) (h2:f=false→p=noP) (h:Run F0 w0 (star (star (CellO g6 (prC p A ac B bc) 44) (star (CellO g7 #[.bool f] 4) (star (DlO A ac B bc p.d) X))) R) W):Run F0 w0 (star (ChI T k k2 ws g6 g7 X i) R) W :=
 Run.exI p (Run.exI f (Run.exI A (Run.exI ac (Run.exI B (Run.exI bc (Run.pureI ⟨h1,h2⟩ h))))))
theorem chi_el {T:Tab} {k k2:Int} {ws:List Wy} {g6 g7 i:Nat} {X R:CH.Own} {F0:Nat→Prop} {w0 W:World} (h:Run F0 w0 (star (ChI T k k2 ws g6 g7 X i) R) W):∃ (p:Pr) (f:Bool) (A:Option Addr) (ac:Nat) (B:Option Addr) (bc:Nat),first (candI T k k2 ws i)=(if f then some p else none)∧(f=false→p=noP)∧Run F0 w0 (star (star (CellO g6 (prC p A ac B bc) 44) (star (CellO g7 #[.bool f] 4) (star (DlO A ac B bc p.d) X))) R) W:=by
 obtain ⟨p,h⟩:=h.ex
 obtain ⟨f,h⟩:=h.ex
 obtain ⟨A,h⟩:=h.ex
 obtain ⟨ac,h⟩:=h.ex
 obtain ⟨B,h⟩:=h.ex
 obtain ⟨bc,h⟩:=h.ex
 obtain ⟨⟨h1,h2⟩,h⟩:=h.pure
 exact ⟨p,f,A,ac,B,bc,h1,h2,h⟩
set_option maxHeartbeats 6400000 in
set_option maxRecDepth 100000 in
theorem cheapest_any {w:World} {T:Tab} {ta:TA} (hT:TabR w T ta) (hz:LZ w) {k k2:Int} {x y:Bs} (hx:x.length≤1000000) (hy:y.length≤1000000) (hok:okW T k x k2 y=true) {a c:WW} (hu:WrdR w (wrdN T k x) a) (hv:WrdR w (wrdN T k2 y) c) :
  Calls Tryz.prog 30 #[tabV T ta,wrdV (wrdN T k x) a,wrdV (wrdN T k2 y) c] w (CheapRet w (cheapN T k x k2 y)):=by
 obtain ⟨hw1,hw2,hval⟩:=okW_iff.1 hok
 have h1:=run_new (Run.begin w) emp_ok (tabC T ta) 25
 have h2:=run_new h1 (star_ok cell_ok emp_ok) (wrdC (wrdN T k x) a) 77
 have h3:=run_new h2 (star_ok cell_ok (star_ok cell_ok emp_ok)) (wrdC (wrdN T k2 y) c) 77
 have h4:=run_new h3 (star_ok cell_ok (star_ok cell_ok (star_ok cell_ok emp_ok))) #[.int .i64 0,.int .i64 0,.int .i64 0,.int .i64 0,.int .i64 0,.int .i64 0,.int .i64 0,.slice none 0 0,.slice none 0 0,.string ⟨#[]⟩] 44
 have h5:=run_new h4 (star_ok cell_ok (star_ok cell_ok (star_ok cell_ok (star_ok cell_ok emp_ok)))) #[.bool false] 4
 simp only [World.size_alloc] at h5
 have H5:=hide h5
 have HBW:=hide (fun W X (h:Run (fun _=>False) w X W)=>(show Below w.heap.size w W from h.mod.below (fun _ _ h=>h)))
 have HIT:=hide (fun b1 b2 b3=>ways_iter (u:=wrdN T k x) (v:=wrdN T k2 y) (a:=a) (c:=c) (T:=T) (t:=ta) (b1:=b1) (b2:=b2) (b3:=b3) (letF_len hw1).1 (letF_len hw2).1 (Nat.le_trans (vars_few hval) (by omega)) (Nat.le_trans (vars_few hval) (by omega)) (fun z hz=>vars_bnd hval hz) (fun z hz=>vars_bnd hval hz) (Nat.le_trans (letF_len hw1).2 (by omega)) (Nat.le_trans (letF_len hw2).2 (by omega)))
 have HEE:=hide (fun W (hm:Mod (fun _=>False) w W)=>(show ZyR (wrdN T k x) (wrdN T k2 y) a c W from ⟨hu.below (hm.below (fun _ _ h=>h)),hv.below (hm.below (fun _ _ h=>h))⟩))
 have HWS:=hide (show waysL T.ini (wrdN T k x).vs (wrdN T k2 y).vs (wrdN T k x).ls (wrdN T k2 y).ls=waysN T k x k2 y from rfl)
 have KB:=hide (fun W (hb:Below w.heap.size w W) (z:Wy) (hzm:z ∈ waysN T k x k2 y)=>best_any (hT.below hb) (hz.below hb) k z.x k2 z.y (Nat.le_trans (ways_len hzm).1 hx) (Nat.le_trans (ways_len hzm).2 hy))
 have KW:=hide (fun W=>ways_any (u:=wrdN T k x) (v:=wrdN T k2 y) (a:=a) (c:=c) (T:=T) (t:=ta) W)
 have HVW:=hide (fun (z:Wy) (hzm:z ∈ waysN T k x k2 y)=>ways_bnd hval hzm)
 have HK:=hide (show (wrdN T k x).k=k∧(wrdN T k2 y).k=k2 from ⟨rfl,rfl⟩)
 have HCA:=hide (cand_all (T:=T) (k:=k) (k2:=k2) (x:=x) (y:=y))
 have HCM:=hide (fun i p h=>pairs_bnd hval (cand_mem (T:=T) (k:=k) (k2:=k2) (x:=x) (y:=y) (i:=i) (p:=p) h))
 clear hT hz hx hy hok hu hv hw1 hw2 hval h1 h2 h3 h4 h5
 generalize cheapN T k x k2 y=res at *
 generalize waysN T k x k2 y=ws at *
 generalize wrdN T k x=u at *
 generalize wrdN T k2 y=v at *
 unfold wrdV tabV at *
 unfold wrdC tabC at *
 generalize T.rs.length=n1 at *
 generalize T.ds.length=n2 at *
 generalize T.es.length=n3 at *
 obtain ⟨aA,ac,aD,ad,aE,ae⟩:=ta
 dsimp only at H5 KB ⊢
 refine (callsIn_wide (n:=8)).1 ?_
 refine callsIn_of_wp_marks Tryz.func30 rfl trivial ?_ rfl
 simp only [Tryz.ntmps30,List.size_toArray,List.length_cons,List.length_nil,Nat.reduceAdd,Nat.reduceSub,Array.replicate_succ,Array.replicate_zero,List.push_toArray,List.append_toArray,List.nil_append,List.cons_append]
 refine (wpIn_wide (n:=8)).2 ?_
 go_upto_region 1 with (fail)
 generalize (((((w.alloc (.cells #[.slice aA n1 ac,.slice aD n2 ad,.slice aE n3 ae,.int .i64 T.drop,.int .i64 T.ord,.int .i64 T.ini] 25)).alloc (.cells #[.int .i64 u.k,.slice a.V u.vs.length a.vc,.slice a.L u.ls.length a.lc] 77)).alloc (.cells #[.int .i64 v.k,.slice c.V v.vs.length c.vc,.slice c.L v.ls.length c.lc] 77)).alloc (.cells #[.int .i64 0,.int .i64 0,.int .i64 0,.int .i64 0,.int .i64 0,.int .i64 0,.int .i64 0,.slice none 0 0,.slice none 0 0,.string ⟨#[]⟩] 44)).alloc (.cells #[.bool false] 4))=w5 at *
 generalize w.heap.size+1+1+1+1=g7 at *
 generalize w.heap.size+1+1+1=g6 at *
 generalize w.heap.size+1+1=g5 at *
 generalize w.heap.size+1=g4 at *
 generalize hg3:w.heap.size=g3 at H5 ⊢
 clear hg3
 have okBX:=hide (star_ok cell_ok (star_ok cell_ok (star_ok cell_ok emp_ok)):((star (CellO g5 #[.int .i64 v.k,.slice c.V v.vs.length c.vc,.slice c.L v.ls.length c.lc] 77) (star (CellO g4 #[.int .i64 u.k,.slice a.V u.vs.length a.vc,.slice a.L u.ls.length a.lc] 77) (star (CellO g3 #[.slice aA n1 ac,.slice aD n2 ad,.slice aE n3 ae,.int .i64 T.drop,.int .i64 T.ord,.int .i64 T.ini] 25) emp)))).Ok)
 obtain ⟨t0,t1,t2,t3,t4,t5⟩:=run_cb H5.out.drop.drop.drop.drop
 obtain ⟨u0,u1,u2⟩:=run_c3 H5.out.drop.drop.drop
 obtain ⟨v0,v1,v2⟩:=run_c3 H5.out.drop.drop
 have KW2:=hide (KW.out w5)
 clear KW
 go_wp2_with fail
 refine KW2.out.mono ?_
 rintro e9 w6 ⟨b1,b2,b3,rfl,hp⟩
 have ok5:=hide (star_ok cell_ok (star_ok cell_ok okBX.out):(star (CellO g7 #[.bool false] 4) (star (CellO g6 #[.int .i64 0,.int .i64 0,.int .i64 0,.int .i64 0,.int .i64 0,.int .i64 0,.int .i64 0,.slice none 0 0,.slice none 0 0,.string ⟨#[]⟩] 44) (star (CellO g5 #[.int .i64 v.k,.slice c.V v.vs.length c.vc,.slice c.L v.ls.length c.lc] 77) (star (CellO g4 #[.int .i64 u.k,.slice a.V u.vs.length a.vc,.slice a.L u.ls.length a.lc] 77) (star (CellO g3 #[.slice aA n1 ac,.slice aD n2 ad,.slice aE n3 ae,.int .i64 T.drop,.int .i64 T.ord,.int .i64 T.ini] 25) emp))))).Ok)
 have H6:=hide (H5.out.fresh ok5.out hp)
 clear KW2 H5 hp t0 t1 t2 t3 t4 t5 u0 u1 u2 v0 v1 v2
 dsimp only
 go_wp2_with fail
 have HIT2:=hide (HIT.out b1 b2 b3)
 rw [HWS.out] at HIT2
 clear HIT
 have h7:=H6.out.fresh (star_ok Zy_ok ok5.out) (into_nil2 (Below.refl w6.heap.size w6))
 have h8:Run (fun _=>False) w (star (star (CellO g6 #[.int .i64 0,.int .i64 0,.int .i64 0,.int .i64 0,.int .i64 0,.int .i64 0,.int .i64 0,.slice none 0 0,.slice none 0 0,.string ⟨#[]⟩] 44) (star (CellO g7 #[.bool false] 4) (star (DlO none 0 none 0 noD) (star (CellO g5 #[.int .i64 v.k,.slice c.V v.vs.length c.vc,.slice c.L v.ls.length c.lc] 77) (star (CellO g4 #[.int .i64 u.k,.slice a.V u.vs.length a.vc,.slice a.L u.ls.length a.lc] 77) (star (CellO g3 #[.slice aA n1 ac,.slice aD n2 ad,.slice aE n3 ae,.int .i64 T.drop,.int .i64 T.ord,.int .i64 T.ini] 25) emp)))))) (Zy u v a c T ⟨aA,ac,aD,ad,aE,ae⟩ b1 b2 b3)) w6:=h7.perm (by unfold DlO noD;ac_rfl)
 have hst:=(chi_mk (T:=T) (k:=k) (k2:=k2) (ws:=ws) (i:=0) (p:=noP) (f:=false) (by rw [cand_zero];rfl) (fun _=>rfl) h8).swap
 have HST:=hide hst
 clear h7 h8 hst H6
 have okI2:∀ (i:Nat) (a':Act),(exA fun g8:Nat=>exA fun z:Wy=>pur (ws[i]?=some z∧a'={ tmps:=#[.agg #[.slice aA n1 ac,.slice aD n2 ad,.slice aE n3 ae,.int .i64 T.drop,.int .i64 T.ord,.int .i64 T.ini],.agg #[.int .i64 u.k,.slice a.V u.vs.length a.vc,.slice a.L u.ls.length a.lc],.agg #[.int .i64 v.k,.slice c.V v.vs.length c.vc,.slice c.L v.ls.length c.lc],.pointer (some ⟨g3,0,none⟩),.pointer (some ⟨g4,0,none⟩),.pointer (some ⟨g5,0,none⟩),.pointer (some ⟨g6,0,none⟩),.pointer (some ⟨g7,0,none⟩),.pointer (some ⟨g8,0,none⟩),undef,undef,.agg #[.slice aA n1 ac,.slice aD n2 ad,.slice aE n3 ae,.int .i64 T.drop,.int .i64 T.ord,.int .i64 T.ini],.agg #[.int .i64 u.k,.slice a.V u.vs.length a.vc,.slice a.L u.ls.length a.lc],.agg #[.int .i64 v.k,.slice c.V v.vs.length c.vc,.slice c.L v.ls.length c.lc],fnY b1 b2 b3,.agg (wayC z),undef,undef,undef,undef,undef,undef,undef,undef,undef,undef,undef,undef,undef,undef,undef,undef,undef,undef,undef,undef,undef,undef,undef,undef,undef,undef,undef,undef,undef,undef,undef,undef,undef,undef,undef,undef,undef,undef,undef,undef],defers:=[] }) (star (CellO g8 (wayC z) 119) (ChI T k k2 ws g6 g7 (star (CellO g5 #[.int .i64 v.k,.slice c.V v.vs.length c.vc,.slice c.L v.ls.length c.lc] 77) (star (CellO g4 #[.int .i64 u.k,.slice a.V u.vs.length a.vc,.slice a.L u.ls.length a.lc] 77) (star (CellO g3 #[.slice aA n1 ac,.slice aD n2 ad,.slice aE n3 ae,.int .i64 T.drop,.int .i64 T.ord,.int .i64 T.ini] 25) emp))) i))).Ok:=fun i a'=>exA_ok fun g8=>exA_ok fun z=>pur_ok (star_ok cell_ok (chi_ok okBX.out))
 refine range_law3 (gf:=93) (lb:=#[.pointer (some ⟨b1,0,none⟩),.pointer (some ⟨b2,0,none⟩),.pointer (some ⟨b3,0,none⟩)]) rfl (enters_of Tryz.func93 (by kernel_rfl) rfl) HIT2.out Zy_ok (fun _=>rfl) HEE.out (fun i=>ChI T k k2 ws g6 g7 (star (CellO g5 #[.int .i64 v.k,.slice c.V v.vs.length c.vc,.slice c.L v.ls.length c.lc] 77) (star (CellO g4 #[.int .i64 u.k,.slice a.V u.vs.length a.vc,.slice a.L u.ls.length a.lc] 77) (star (CellO g3 #[.slice aA n1 ac,.slice aD n2 ad,.slice aE n3 ae,.int .i64 T.drop,.int .i64 T.ord,.int .i64 T.ini] 25) emp))) i) (fun _=>noO) (fun i=>chi_ok okBX.out) _ okI2 (fun _=>no_ok) HST.out ?_ ?_ ?_ ?_
 ·intro lo m i hi R' W1 K hR hI hK
  have h3:=run_new hI (star_ok (chi_ok okBX.out) hR) (wayC ws[i]) 119
  have HF:=hide (hK { tmps:=#[.agg #[.slice aA n1 ac,.slice aD n2 ad,.slice aE n3 ae,.int .i64 T.drop,.int .i64 T.ord,.int .i64 T.ini],.agg #[.int .i64 u.k,.slice a.V u.vs.length a.vc,.slice a.L u.ls.length a.lc],.agg #[.int .i64 v.k,.slice c.V v.vs.length c.vc,.slice c.L v.ls.length c.lc],.pointer (some ⟨g3,0,none⟩),.pointer (some ⟨g4,0,none⟩),.pointer (some ⟨g5,0,none⟩),.pointer (some ⟨g6,0,none⟩),.pointer (some ⟨g7,0,none⟩),.pointer (some ⟨W1.heap.size,0,none⟩),undef,undef,.agg #[.slice aA n1 ac,.slice aD n2 ad,.slice aE n3 ae,.int .i64 T.drop,.int .i64 T.ord,.int .i64 T.ini],.agg #[.int .i64 u.k,.slice a.V u.vs.length a.vc,.slice a.L u.ls.length a.lc],.agg #[.int .i64 v.k,.slice c.V v.vs.length c.vc,.slice c.L v.ls.length c.lc],fnY b1 b2 b3,.agg (wayC ws[i]),undef,undef,undef,undef,undef,undef,undef,undef,undef,undef,undef,undef,undef,undef,undef,undef,undef,undef,undef,undef,undef,undef,undef,undef,undef,undef,undef,undef,undef,undef,undef,undef,undef,undef,undef,undef,undef,undef,undef,undef],defers:=[] } _ (Run.exI W1.heap.size (Run.exI ws[i] (Run.pureI ⟨List.getElem?_eq_getElem hi,rfl⟩ (h3.perm (by ac_rfl))))))
  clear hI h3 hK
  unfold wayE
  generalize ws[i]=z at *
  obtain ⟨zkd,zl,zr,zc,zx,zy⟩:=z
  unfold wayC
  unfold wayC at HF
  dsimp only at HF
  dsimp only
  gi_wp2
  exact HF.out
 ·intro lo m i hi a' R' W1 hR hI
  obtain ⟨g8,h1⟩:=hI.ex
  obtain ⟨z,h1⟩:=h1.ex
  obtain ⟨⟨hxz,rfl⟩,h2⟩:=h1.pure
  have hze:ws[i]=z:=by rw [List.getElem?_eq_getElem hi] at hxz;injection hxz
  have hzm:z ∈ ws:=by rw [←hze];exact List.getElem_mem hi
  have HC0:=hide (show bestD T k z.x k2 z.y=none→candI T k k2 ws (i+1)=candI T k k2 ws i from fun h=>cand_none hi (by rw [hze];exact h))
  have HC1:=hide (show ∀ d,bestD T k z.x k2 z.y=some d→first (candI T k k2 ws (i+1))=pick1 (first (candI T k k2 ws i)) ⟨0,0,z.kd,z.l,z.r,z.c+d.c,d⟩ from fun d h=>by
   have:=cand_some (T:=T) (k:=k) (k2:=k2) hi (d:=d) (by rw [hze];exact h)
   rw [hze] at this
   exact this)
  obtain ⟨p,f,A,pc,B,qc,hf1,hf2,h3⟩:=chi_el (h2.perm (by ac_rfl:_=star (ChI T k k2 ws g6 g7 (star (CellO g5 #[.int .i64 v.k,.slice c.V v.vs.length c.vc,.slice c.L v.ls.length c.lc] 77) (star (CellO g4 #[.int .i64 u.k,.slice a.V u.vs.length a.vc,.slice a.L u.ls.length a.lc] 77) (star (CellO g3 #[.slice aA n1 ac,.slice aD n2 ad,.slice aE n3 ae,.int .i64 T.drop,.int .i64 T.ord,.int .i64 T.ini] 25) emp))) i) (star (CellO g8 (wayC z) 119) R')))
  have HF1:=hide hf1
  have HF2:=hide hf2
  have HRR:=hide hR
  have H3:=hide (h3.perm (by ac_rfl:_=(star (CellO g8 (wayC z) 119) (star (CellO g6 (prC p A pc B qc) 44) (star (CellO g7 #[.bool f] 4) (star (CellO g3 #[.slice aA n1 ac,.slice aD n2 ad,.slice aE n3 ae,.int .i64 T.drop,.int .i64 T.ord,.int .i64 T.ini] 25) (star (CellO g4 #[.int .i64 u.k,.slice a.V u.vs.length a.vc,.slice a.L u.ls.length a.lc] 77) (star (CellO g5 #[.int .i64 v.k,.slice c.V v.vs.length c.vc,.slice c.L v.ls.length c.lc] 77) (star (DlO A pc B qc p.d) (star R' emp))))))))))
  have okS:=hide (star_ok cell_ok (star_ok cell_ok (star_ok cell_ok (star_ok cell_ok (star_ok cell_ok (star_ok cell_ok (star_ok dl_ok (star_ok hR emp_ok))))))):((star (CellO g8 (wayC z) 119) (star (CellO g6 (prC p A pc B qc) 44) (star (CellO g7 #[.bool f] 4) (star (CellO g3 #[.slice aA n1 ac,.slice aD n2 ad,.slice aE n3 ae,.int .i64 T.drop,.int .i64 T.ord,.int .i64 T.ini] 25) (star (CellO g4 #[.int .i64 u.k,.slice a.V u.vs.length a.vc,.slice a.L u.ls.length a.lc] 77) (star (CellO g5 #[.int .i64 v.k,.slice c.V v.vs.length c.vc,.slice c.L v.ls.length c.lc] 77) (star (DlO A pc B qc p.d) (star R' emp))))))))).Ok)
  have hcz:=HVW.out z hzm
  have HPB:=hide (fun q h=>HCM.out i q h)
  have KB2:=hide (KB.out W1 (HBW.out _ _ H3.out) z hzm)
  rw [←HK.out.1,←HK.out.2] at KB2
  clear hI h1 h2 h3 hxz hze hzm hi hf1 hf2 hR
  obtain ⟨zkd,zl,zr,zc,zx,zy⟩:=z
  unfold wayC at H3 okS ⊢
  dsimp only at H3 okS hcz KB2 HC0 HC1 ⊢
  obtain ⟨⟨w0',w1',w2',w3',w4',w5'⟩,⟨w6',w7',w8',w9',w10',w11'⟩,wf⟩:=run_c12 H3.out
  obtain ⟨t0,t1,t2,t3,t4,t5⟩:=run_cb H3.out.drop.drop.drop
  obtain ⟨u0,u1,u2⟩:=run_c3 H3.out.drop.drop.drop.drop
  obtain ⟨v0,v1,v2⟩:=run_c3 H3.out.drop.drop.drop.drop.drop
  refine wpIn_block (wpIn_seq (region_in rfl (fun ⟨a,w,h⟩=>h) ?_))
  go_wp2_with fail
  refine KB2.out.mono ?_
  rintro e9 w3 ⟨d,er,A2,c2,B2,d2,rfl,hbp,hp⟩
  rw [HK.out.1,HK.out.2] at hbp
  have HBP:=hide (bestD_iff hbp)
  have H4:=hide (H3.out.fresh okS.out hp)
  clear KB2 H3 hp hbp w0' w1' w2' w3' w4' w5' w6' w7' w8' w9' w10' w11' wf t0 t1 t2 t3 t4 t5 u0 u1 u2 v0 v1 v2
  dsimp only
  go_wp2_with fail
  have okI:=hide (star_ok (star_ok into_ok into_ok) okS.out:(star (star (IntO A2 c2 d.L) (IntO B2 d2 d.M)) (star (CellO g8 #[.int .i64 0,.int .i64 0,.int .i64 zkd,.int .i64 zl,.int .i64 zr,.int .i64 zc,.int .i64 0,.slice none 0 0,.slice none 0 0,.string ⟨#[]⟩,.string (bs zx),.string (bs zy)] 119) (star (CellO g6 (prC p A pc B qc) 44) (star (CellO g7 #[.bool f] 4) (star (CellO g3 #[.slice aA n1 ac,.slice aD n2 ad,.slice aE n3 ae,.int .i64 T.drop,.int .i64 T.ord,.int .i64 T.ini] 25) (star (CellO g4 #[.int .i64 u.k,.slice a.V u.vs.length a.vc,.slice a.L u.ls.length a.lc] 77) (star (CellO g5 #[.int .i64 v.k,.slice c.V v.vs.length c.vc,.slice c.L v.ls.length c.lc] 77) (star (DlO A pc B qc p.d) (star R' emp))))))))).Ok)
  have H5:=hide (run_new H4.out okI.out #[.int .i64 d.c,.slice A2 d.L.length c2,.slice B2 d.M.length d2,.string (bs d.F)] 42)
  clear H4
  generalize w3.alloc (.cells #[.int .i64 d.c,.slice A2 d.L.length c2,.slice B2 d.M.length d2,.string (bs d.F)] 42)=w4 at *
  generalize w3.heap.size=g9 at *
  rcases HBP.out with ⟨rfl,hbd⟩ | ⟨hne,hbd⟩
  ·have hdb:=bestD_bnd hbd
   have HC2:=hide (HC1.out d hbd)
   clear hbd HBP HC0 HC1
   refine wpIn_seq (wpIn_seq (region_in rfl (fun ⟨a,w,h⟩=>h) ?_))
   go_wp2_with fail
   iterate 5 gi_step
   have H6:=hide (H5.out.perm (by ac_rfl:_=star (CellO g8 #[.int .i64 0,.int .i64 0,.int .i64 zkd,.int .i64 zl,.int .i64 zr,.int .i64 zc,.int .i64 0,.slice none 0 0,.slice none 0 0,.string ⟨#[]⟩,.string (bs zx),.string (bs zy)] 119) (star (CellO g9 #[.int .i64 d.c,.slice A2 d.L.length c2,.slice B2 d.M.length d2,.string (bs d.F)] 42) (star (star (IntO A2 c2 d.L) (IntO B2 d2 d.M)) (star (CellO g6 (prC p A pc B qc) 44) (star (CellO g7 #[.bool f] 4) (star (CellO g3 #[.slice aA n1 ac,.slice aD n2 ad,.slice aE n3 ae,.int .i64 T.drop,.int .i64 T.ord,.int .i64 T.ini] 25) (star (CellO g4 #[.int .i64 u.k,.slice a.V u.vs.length a.vc,.slice a.L u.ls.length a.lc] 77) (star (CellO g5 #[.int .i64 v.k,.slice c.V v.vs.length c.vc,.slice c.L v.ls.length c.lc] 77) (star (DlO A pc B qc p.d) (star R' emp)))))))))))
   have okR:=hide (star_ok cell_ok (star_ok (star_ok into_ok into_ok) (star_ok cell_ok (star_ok cell_ok (star_ok cell_ok (star_ok cell_ok (star_ok cell_ok (star_ok dl_ok (star_ok HRR.out emp_ok)))))))):(star (CellO g9 #[.int .i64 d.c,.slice A2 d.L.length c2,.slice B2 d.M.length d2,.string (bs d.F)] 42) (star (star (IntO A2 c2 d.L) (IntO B2 d2 d.M)) (star (CellO g6 (prC p A pc B qc) 44) (star (CellO g7 #[.bool f] 4) (star (CellO g3 #[.slice aA n1 ac,.slice aD n2 ad,.slice aE n3 ae,.int .i64 T.drop,.int .i64 T.ord,.int .i64 T.ini] 25) (star (CellO g4 #[.int .i64 u.k,.slice a.V u.vs.length a.vc,.slice a.L u.ls.length a.lc] 77) (star (CellO g5 #[.int .i64 v.k,.slice c.V v.vs.length c.vc,.slice c.L v.ls.length c.lc] 77) (star (DlO A pc B qc p.d) (star R' emp))))))))).Ok)
   clear H5
   obtain ⟨e0,e1,e2,e3,-⟩:=run_c4 H6.out.drop
   obtain ⟨⟨w0',w1',w2',w3',w4',w5'⟩,⟨w6',w7',w8',w9',w10',w11'⟩,wf⟩:=run_c12 H6.out
   refine wpIn_seq (region_in rfl (fun ⟨a,w,h⟩=>h) ?_)
   go_wp2_with fail
   have h70:Run (fun _=>False) w (star (CellO g8 #[.int .i64 0,.int .i64 0,.int .i64 zkd,.int .i64 zl,.int .i64 zr,.int .i64 zc,.int .i64 d.c,.slice none 0 0,.slice none 0 0,.string ⟨#[]⟩,.string (bs zx),.string (bs zy)] 119) (star (CellO g9 #[.int .i64 d.c,.slice A2 d.L.length c2,.slice B2 d.M.length d2,.string (bs d.F)] 42) (star (star (IntO A2 c2 d.L) (IntO B2 d2 d.M)) (star (CellO g6 (prC p A pc B qc) 44) (star (CellO g7 #[.bool f] 4) (star (CellO g3 #[.slice aA n1 ac,.slice aD n2 ad,.slice aE n3 ae,.int .i64 T.drop,.int .i64 T.ord,.int .i64 T.ini] 25) (star (CellO g4 #[.int .i64 u.k,.slice a.V u.vs.length a.vc,.slice a.L u.ls.length a.lc] 77) (star (CellO g5 #[.int .i64 v.k,.slice c.V v.vs.length c.vc,.slice c.L v.ls.length c.lc] 77) (star (DlO A pc B qc p.d) (star R' emp)))))))))) _:=run_setc H6.out okR.out 6 (.int .i64 d.c)
   have h71:Run (fun _=>False) w (star (CellO g8 #[.int .i64 0,.int .i64 0,.int .i64 zkd,.int .i64 zl,.int .i64 zr,.int .i64 zc,.int .i64 d.c,.slice A2 d.L.length c2,.slice none 0 0,.string ⟨#[]⟩,.string (bs zx),.string (bs zy)] 119) (star (CellO g9 #[.int .i64 d.c,.slice A2 d.L.length c2,.slice B2 d.M.length d2,.string (bs d.F)] 42) (star (star (IntO A2 c2 d.L) (IntO B2 d2 d.M)) (star (CellO g6 (prC p A pc B qc) 44) (star (CellO g7 #[.bool f] 4) (star (CellO g3 #[.slice aA n1 ac,.slice aD n2 ad,.slice aE n3 ae,.int .i64 T.drop,.int .i64 T.ord,.int .i64 T.ini] 25) (star (CellO g4 #[.int .i64 u.k,.slice a.V u.vs.length a.vc,.slice a.L u.ls.length a.lc] 77) (star (CellO g5 #[.int .i64 v.k,.slice c.V v.vs.length c.vc,.slice c.L v.ls.length c.lc] 77) (star (DlO A pc B qc p.d) (star R' emp)))))))))) _:=run_setc h70 okR.out 7 (.slice A2 d.L.length c2)
   have h72:Run (fun _=>False) w (star (CellO g8 #[.int .i64 0,.int .i64 0,.int .i64 zkd,.int .i64 zl,.int .i64 zr,.int .i64 zc,.int .i64 d.c,.slice A2 d.L.length c2,.slice B2 d.M.length d2,.string ⟨#[]⟩,.string (bs zx),.string (bs zy)] 119) (star (CellO g9 #[.int .i64 d.c,.slice A2 d.L.length c2,.slice B2 d.M.length d2,.string (bs d.F)] 42) (star (star (IntO A2 c2 d.L) (IntO B2 d2 d.M)) (star (CellO g6 (prC p A pc B qc) 44) (star (CellO g7 #[.bool f] 4) (star (CellO g3 #[.slice aA n1 ac,.slice aD n2 ad,.slice aE n3 ae,.int .i64 T.drop,.int .i64 T.ord,.int .i64 T.ini] 25) (star (CellO g4 #[.int .i64 u.k,.slice a.V u.vs.length a.vc,.slice a.L u.ls.length a.lc] 77) (star (CellO g5 #[.int .i64 v.k,.slice c.V v.vs.length c.vc,.slice c.L v.ls.length c.lc] 77) (star (DlO A pc B qc p.d) (star R' emp)))))))))) _:=run_setc h71 okR.out 8 (.slice B2 d.M.length d2)
   have H7:=hide (show Run (fun _=>False) w (star (CellO g8 #[.int .i64 0,.int .i64 0,.int .i64 zkd,.int .i64 zl,.int .i64 zr,.int .i64 zc,.int .i64 d.c,.slice A2 d.L.length c2,.slice B2 d.M.length d2,.string (bs d.F),.string (bs zx),.string (bs zy)] 119) (star (CellO g9 #[.int .i64 d.c,.slice A2 d.L.length c2,.slice B2 d.M.length d2,.string (bs d.F)] 42) (star (star (IntO A2 c2 d.L) (IntO B2 d2 d.M)) (star (CellO g6 (prC p A pc B qc) 44) (star (CellO g7 #[.bool f] 4) (star (CellO g3 #[.slice aA n1 ac,.slice aD n2 ad,.slice aE n3 ae,.int .i64 T.drop,.int .i64 T.ord,.int .i64 T.ini] 25) (star (CellO g4 #[.int .i64 u.k,.slice a.V u.vs.length a.vc,.slice a.L u.ls.length a.lc] 77) (star (CellO g5 #[.int .i64 v.k,.slice c.V v.vs.length c.vc,.slice c.L v.ls.length c.lc] 77) (star (DlO A pc B qc p.d) (star R' emp)))))))))) ((((w4.setCell ⟨g8,6,none⟩ (.int .i64 d.c)).setCell ⟨g8,7,none⟩ (.slice A2 d.L.length c2)).setCell ⟨g8,8,none⟩ (.slice B2 d.M.length d2)).setCell ⟨g8,9,none⟩ (.string (bs d.F))) from run_setc h72 okR.out 9 (.string (bs d.F)))
   clear h70 h71 h72 H6 e0 e1 e2 e3 w0' w1' w2' w3' w4' w5' w6' w7' w8' w9' w10' w11' wf
   generalize (((w4.setCell ⟨g8,6,none⟩ (.int .i64 d.c)).setCell ⟨g8,7,none⟩ (.slice A2 d.L.length c2)).setCell ⟨g8,8,none⟩ (.slice B2 d.M.length d2)).setCell ⟨g8,9,none⟩ (.string (bs d.F))=w7 at *
   obtain ⟨e0,e1,e2,e3,-⟩:=run_c4 H7.out.drop
   obtain ⟨⟨w0',w1',w2',w3',w4',w5'⟩,⟨w6',w7',w8',w9',w10',w11'⟩,wf⟩:=run_c12 H7.out
   have tw:wrap64 (zc+d.c)=zc+d.c:=IntWalk.wrap64_in _ (by omega)
   refine wpIn_seq (region_in rfl (fun ⟨a,w,h⟩=>h) ?_)
   go_wp2_with fail
   have H8:=hide (show Run (fun _=>False) w (star (CellO g8 #[.int .i64 0,.int .i64 0,.int .i64 zkd,.int .i64 zl,.int .i64 zr,.int .i64 (zc+d.c),.int .i64 d.c,.slice A2 d.L.length c2,.slice B2 d.M.length d2,.string (bs d.F),.string (bs zx),.string (bs zy)] 119) (star (CellO g9 #[.int .i64 d.c,.slice A2 d.L.length c2,.slice B2 d.M.length d2,.string (bs d.F)] 42) (star (star (IntO A2 c2 d.L) (IntO B2 d2 d.M)) (star (CellO g6 (prC p A pc B qc) 44) (star (CellO g7 #[.bool f] 4) (star (CellO g3 #[.slice aA n1 ac,.slice aD n2 ad,.slice aE n3 ae,.int .i64 T.drop,.int .i64 T.ord,.int .i64 T.ini] 25) (star (CellO g4 #[.int .i64 u.k,.slice a.V u.vs.length a.vc,.slice a.L u.ls.length a.lc] 77) (star (CellO g5 #[.int .i64 v.k,.slice c.V v.vs.length c.vc,.slice c.L v.ls.length c.lc] 77) (star (DlO A pc B qc p.d) (star R' emp)))))))))) (w7.setCell ⟨g8,5,none⟩ (.int .i64 (zc+d.c))) from run_setc H7.out okR.out 5 (.int .i64 (zc+d.c)))
   clear H7 tw e0 e1 e2 e3 w0' w1' w2' w3' w4' w5' w6' w7' w8' w9' w10' w11' wf
   generalize w7.setCell ⟨g8,5,none⟩ (.int .i64 (zc+d.c))=w8 at *
   obtain ⟨⟨w0',w1',w2',w3',w4',w5'⟩,⟨w6',w7',w8',w9',w10',w11'⟩,wf⟩:=run_c12 H8.out
   obtain ⟨⟨p0,p1,p2,p3,p4⟩,⟨p5,p6,p7,p8,p9⟩,pf⟩:=run_c10 H8.out.drop.drop.drop
   obtain ⟨FB,hFB⟩:=H8.out.drop.drop.drop.drop.fst
   have q0:=cell_at (i:=0) hFB rfl
   have qf:=cell_free hFB
   clear hFB FB
   unfold prC at H8 okR
   have hst:∀ wz,Run (fun _=>False) w (star (CellO g8 #[.int .i64 0,.int .i64 0,.int .i64 zkd,.int .i64 zl,.int .i64 zr,.int .i64 (zc+d.c),.int .i64 d.c,.slice A2 d.L.length c2,.slice B2 d.M.length d2,.string (bs d.F),.string (bs zx),.string (bs zy)] 119) (star (CellO g9 #[.int .i64 d.c,.slice A2 d.L.length c2,.slice B2 d.M.length d2,.string (bs d.F)] 42) (star (star (IntO A2 c2 d.L) (IntO B2 d2 d.M)) (star (CellO g6 #[.int .i64 p.i,.int .i64 p.j,.int .i64 p.kd,.int .i64 p.l,.int .i64 p.r,.int .i64 p.c,.int .i64 p.d.c,.slice A p.d.L.length pc,.slice B p.d.M.length qc,.string (bs p.d.F)] 44) (star (CellO g7 #[.bool f] 4) (star (CellO g3 #[.slice aA n1 ac,.slice aD n2 ad,.slice aE n3 ae,.int .i64 T.drop,.int .i64 T.ord,.int .i64 T.ini] 25) (star (CellO g4 #[.int .i64 u.k,.slice a.V u.vs.length a.vc,.slice a.L u.ls.length a.lc] 77) (star (CellO g5 #[.int .i64 v.k,.slice c.V v.vs.length c.vc,.slice c.L v.ls.length c.lc] 77) (star (DlO A pc B qc p.d) (star R' emp)))))))))) wz→Run (fun _=>False) w (star (CellO g7 #[.bool f] 4) (star (CellO g6 #[.int .i64 0,.int .i64 0,.int .i64 zkd,.int .i64 zl,.int .i64 zr,.int .i64 (zc+d.c),.int .i64 d.c,.slice A2 d.L.length c2,.slice B2 d.M.length d2,.string (bs d.F)] 44) (star (star (IntO A2 c2 d.L) (IntO B2 d2 d.M)) (star (star (CellO g8 #[.int .i64 0,.int .i64 0,.int .i64 zkd,.int .i64 zl,.int .i64 zr,.int .i64 (zc+d.c),.int .i64 d.c,.slice A2 d.L.length c2,.slice B2 d.M.length d2,.string (bs d.F),.string (bs zx),.string (bs zy)] 119) (star (CellO g9 #[.int .i64 d.c,.slice A2 d.L.length c2,.slice B2 d.M.length d2,.string (bs d.F)] 42) (DlO A pc B qc p.d))) (star R' (star (CellO g5 #[.int .i64 v.k,.slice c.V v.vs.length c.vc,.slice c.L v.ls.length c.lc] 77) (star (CellO g4 #[.int .i64 u.k,.slice a.V u.vs.length a.vc,.slice a.L u.ls.length a.lc] 77) (star (CellO g3 #[.slice aA n1 ac,.slice aD n2 ad,.slice aE n3 ae,.int .i64 T.drop,.int .i64 T.ord,.int .i64 T.ini] 25) emp)))))))) ((((((((((wz.setCell ⟨g6,0,none⟩ (.int .i64 0)).setCell ⟨g6,1,none⟩ (.int .i64 0)).setCell ⟨g6,2,none⟩ (.int .i64 zkd)).setCell ⟨g6,3,none⟩ (.int .i64 zl)).setCell ⟨g6,4,none⟩ (.int .i64 zr)).setCell ⟨g6,5,none⟩ (.int .i64 (zc+d.c))).setCell ⟨g6,6,none⟩ (.int .i64 d.c)).setCell ⟨g6,7,none⟩ (.slice A2 d.L.length c2)).setCell ⟨g6,8,none⟩ (.slice B2 d.M.length d2)).setCell ⟨g6,9,none⟩ (.string (bs d.F))):=fun wz hz=>by
    have h1:=hz.perm (by ac_rfl:_=star (CellO g6 #[.int .i64 p.i,.int .i64 p.j,.int .i64 p.kd,.int .i64 p.l,.int .i64 p.r,.int .i64 p.c,.int .i64 p.d.c,.slice A p.d.L.length pc,.slice B p.d.M.length qc,.string (bs p.d.F)] 44) (star (CellO g7 #[.bool f] 4) (star (star (IntO A2 c2 d.L) (IntO B2 d2 d.M)) (star (star (CellO g8 #[.int .i64 0,.int .i64 0,.int .i64 zkd,.int .i64 zl,.int .i64 zr,.int .i64 (zc+d.c),.int .i64 d.c,.slice A2 d.L.length c2,.slice B2 d.M.length d2,.string (bs d.F),.string (bs zx),.string (bs zy)] 119) (star (CellO g9 #[.int .i64 d.c,.slice A2 d.L.length c2,.slice B2 d.M.length d2,.string (bs d.F)] 42) (DlO A pc B qc p.d))) (star R' (star (CellO g5 #[.int .i64 v.k,.slice c.V v.vs.length c.vc,.slice c.L v.ls.length c.lc] 77) (star (CellO g4 #[.int .i64 u.k,.slice a.V u.vs.length a.vc,.slice a.L u.ls.length a.lc] 77) (star (CellO g3 #[.slice aA n1 ac,.slice aD n2 ad,.slice aE n3 ae,.int .i64 T.drop,.int .i64 T.ord,.int .i64 T.ini] 25) emp))))))))
    have ok1:(star (CellO g7 #[.bool f] 4) (star (star (IntO A2 c2 d.L) (IntO B2 d2 d.M)) (star (star (CellO g8 #[.int .i64 0,.int .i64 0,.int .i64 zkd,.int .i64 zl,.int .i64 zr,.int .i64 (zc+d.c),.int .i64 d.c,.slice A2 d.L.length c2,.slice B2 d.M.length d2,.string (bs d.F),.string (bs zx),.string (bs zy)] 119) (star (CellO g9 #[.int .i64 d.c,.slice A2 d.L.length c2,.slice B2 d.M.length d2,.string (bs d.F)] 42) (DlO A pc B qc p.d))) (star R' (star (CellO g5 #[.int .i64 v.k,.slice c.V v.vs.length c.vc,.slice c.L v.ls.length c.lc] 77) (star (CellO g4 #[.int .i64 u.k,.slice a.V u.vs.length a.vc,.slice a.L u.ls.length a.lc] 77) (star (CellO g3 #[.slice aA n1 ac,.slice aD n2 ad,.slice aE n3 ae,.int .i64 T.drop,.int .i64 T.ord,.int .i64 T.ini] 25) emp))))))).Ok:=star_ok cell_ok (star_ok (star_ok into_ok into_ok) (star_ok (star_ok cell_ok (star_ok cell_ok dl_ok)) (star_ok HRR.out okBX.out)))
    have h2:=run_set10 h1 ok1 (.int .i64 0) (.int .i64 0) (.int .i64 zkd) (.int .i64 zl) (.int .i64 zr) (.int .i64 (zc+d.c)) (.int .i64 d.c) (.slice A2 d.L.length c2) (.slice B2 d.M.length d2) (.string (bs d.F))
    exact h2.perm (by ac_rfl)
   have okF:(star (CellO g6 #[.int .i64 0,.int .i64 0,.int .i64 zkd,.int .i64 zl,.int .i64 zr,.int .i64 (zc+d.c),.int .i64 d.c,.slice A2 d.L.length c2,.slice B2 d.M.length d2,.string (bs d.F)] 44) (star (star (IntO A2 c2 d.L) (IntO B2 d2 d.M)) (star (star (CellO g8 #[.int .i64 0,.int .i64 0,.int .i64 zkd,.int .i64 zl,.int .i64 zr,.int .i64 (zc+d.c),.int .i64 d.c,.slice A2 d.L.length c2,.slice B2 d.M.length d2,.string (bs d.F),.string (bs zx),.string (bs zy)] 119) (star (CellO g9 #[.int .i64 d.c,.slice A2 d.L.length c2,.slice B2 d.M.length d2,.string (bs d.F)] 42) (DlO A pc B qc p.d))) (star R' (star (CellO g5 #[.int .i64 v.k,.slice c.V v.vs.length c.vc,.slice c.L v.ls.length c.lc] 77) (star (CellO g4 #[.int .i64 u.k,.slice a.V u.vs.length a.vc,.slice a.L u.ls.length a.lc] 77) (star (CellO g3 #[.slice aA n1 ac,.slice aD n2 ad,.slice aE n3 ae,.int .i64 T.drop,.int .i64 T.ord,.int .i64 T.ini] 25) emp))))))).Ok:=star_ok cell_ok (star_ok (star_ok into_ok into_ok) (star_ok (star_ok cell_ok (star_ok cell_ok dl_ok)) (star_ok HRR.out okBX.out)))
   have HSTK:=hide hst
   clear hst
   cases f with
   | false =>
    have hN1:first (candI T k k2 ws (i+1))=(if true then some (⟨0,0,zkd,zl,zr,zc+d.c,d⟩:Pr) else none):=by rw [HC2.out,HF1.out];rfl
    have HN:=hide hN1
    have H9:=hide (HSTK.out _ H8.out)
    have OKF:=hide okF
    clear HSTK H8 okR hN1 okF
    refine wpIn_seq (region_in rfl (fun ⟨a,w,h⟩=>h) ?_)
    go_wp2_with fail
    iterate 2 gi_step
    refine region_in rfl (fun ⟨a,w,h⟩=>h) ?_
    iterate 8 go_step
    generalize ((((((((((w8.setCell ⟨g6,0,none⟩ (.int .i64 0)).setCell ⟨g6,1,none⟩ (.int .i64 0)).setCell ⟨g6,2,none⟩ (.int .i64 zkd)).setCell ⟨g6,3,none⟩ (.int .i64 zl)).setCell ⟨g6,4,none⟩ (.int .i64 zr)).setCell ⟨g6,5,none⟩ (.int .i64 (zc+d.c))).setCell ⟨g6,6,none⟩ (.int .i64 d.c)).setCell ⟨g6,7,none⟩ (.slice A2 d.L.length c2)).setCell ⟨g6,8,none⟩ (.slice B2 d.M.length d2)).setCell ⟨g6,9,none⟩ (.string (bs d.F)))=w9 at *
    obtain ⟨FB,hFB⟩:=H9.out.fst
    have r0:=cell_at (i:=0) hFB rfl
    have rf:=cell_free hFB
    have hA:Run (fun _=>False) w (star (CellO g7 #[.bool true] 4) _) _:=run_setc H9.out OKF.out 0 (.bool true)
    have hA2:=(hA.perm (by ac_rfl:_=star (star (CellO g8 #[.int .i64 0,.int .i64 0,.int .i64 zkd,.int .i64 zl,.int .i64 zr,.int .i64 (zc+d.c),.int .i64 d.c,.slice A2 d.L.length c2,.slice B2 d.M.length d2,.string (bs d.F),.string (bs zx),.string (bs zy)] 119) (star (CellO g9 #[.int .i64 d.c,.slice A2 d.L.length c2,.slice B2 d.M.length d2,.string (bs d.F)] 42) (DlO A pc B qc p.d))) (star (star (CellO g6 #[.int .i64 0,.int .i64 0,.int .i64 zkd,.int .i64 zl,.int .i64 zr,.int .i64 (zc+d.c),.int .i64 d.c,.slice A2 d.L.length c2,.slice B2 d.M.length d2,.string (bs d.F)] 44) (star (CellO g7 #[.bool true] 4) (star (star (IntO A2 c2 d.L) (IntO B2 d2 d.M)) (star (CellO g5 #[.int .i64 v.k,.slice c.V v.vs.length c.vc,.slice c.L v.ls.length c.lc] 77) (star (CellO g4 #[.int .i64 u.k,.slice a.V u.vs.length a.vc,.slice a.L u.ls.length a.lc] 77) (star (CellO g3 #[.slice aA n1 ac,.slice aD n2 ad,.slice aE n3 ae,.int .i64 T.drop,.int .i64 T.ord,.int .i64 T.ini] 25) emp)))))) R'))).drop
    have HF:=hide (show Run (fun _=>False) w (star (ChI T k k2 ws g6 g7 (star (CellO g5 #[.int .i64 v.k,.slice c.V v.vs.length c.vc,.slice c.L v.ls.length c.lc] 77) (star (CellO g4 #[.int .i64 u.k,.slice a.V u.vs.length a.vc,.slice a.L u.ls.length a.lc] 77) (star (CellO g3 #[.slice aA n1 ac,.slice aD n2 ad,.slice aE n3 ae,.int .i64 T.drop,.int .i64 T.ord,.int .i64 T.ini] 25) emp))) (i+1)) R') (w9.setCell ⟨g7,0,none⟩ (.bool true)) from chi_mk (p:=⟨0,0,zkd,zl,zr,zc+d.c,d⟩) (f:=true) (A:=A2) (ac:=c2) (B:=B2) (bc:=d2) HN.out (fun h=>by cases h) hA2)
    clear hA hA2 H9 OKF HN hFB FB
    clear w0' w1' w2' w3' w4' w5' w6' w7' w8' w9' w10' w11' wf p0 p1 p2 p3 p4 p5 p6 p7 p8 p9 pf q0 qf
    go_wp2_with fail
    exact HF.out
   | true =>
    have hf1':=HF1.out
    simp only [if_true] at hf1'
    have hpb:=HPB.out p hf1'
    by_cases hlt:zc+d.c < p.c
    ·have t1:decide (zc+d.c < p.c)=true:=decide_eq_true hlt
     have hN1:first (candI T k k2 ws (i+1))=(if true then some (⟨0,0,zkd,zl,zr,zc+d.c,d⟩:Pr) else none):=by rw [HC2.out,hf1'];simp [pick1,hlt]
     have HN:=hide hN1
     have H9:=hide (HSTK.out _ H8.out)
     have OKF:=hide okF
     clear HSTK H8 okR hN1 okF hf1'
     refine wpIn_seq (region_in rfl (fun ⟨a,w,h⟩=>h) ?_)
     go_wp2_with fail
     iterate 2 gi_step
     refine region_in rfl (fun ⟨a,w,h⟩=>h) ?_
     iterate 8 go_step
     generalize ((((((((((w8.setCell ⟨g6,0,none⟩ (.int .i64 0)).setCell ⟨g6,1,none⟩ (.int .i64 0)).setCell ⟨g6,2,none⟩ (.int .i64 zkd)).setCell ⟨g6,3,none⟩ (.int .i64 zl)).setCell ⟨g6,4,none⟩ (.int .i64 zr)).setCell ⟨g6,5,none⟩ (.int .i64 (zc+d.c))).setCell ⟨g6,6,none⟩ (.int .i64 d.c)).setCell ⟨g6,7,none⟩ (.slice A2 d.L.length c2)).setCell ⟨g6,8,none⟩ (.slice B2 d.M.length d2)).setCell ⟨g6,9,none⟩ (.string (bs d.F)))=w9 at *
     obtain ⟨FB,hFB⟩:=H9.out.fst
     have r0:=cell_at (i:=0) hFB rfl
     have rf:=cell_free hFB
     have hA:Run (fun _=>False) w (star (CellO g7 #[.bool true] 4) _) _:=run_setc H9.out OKF.out 0 (.bool true)
     have hA2:=(hA.perm (by ac_rfl:_=star (star (CellO g8 #[.int .i64 0,.int .i64 0,.int .i64 zkd,.int .i64 zl,.int .i64 zr,.int .i64 (zc+d.c),.int .i64 d.c,.slice A2 d.L.length c2,.slice B2 d.M.length d2,.string (bs d.F),.string (bs zx),.string (bs zy)] 119) (star (CellO g9 #[.int .i64 d.c,.slice A2 d.L.length c2,.slice B2 d.M.length d2,.string (bs d.F)] 42) (DlO A pc B qc p.d))) (star (star (CellO g6 #[.int .i64 0,.int .i64 0,.int .i64 zkd,.int .i64 zl,.int .i64 zr,.int .i64 (zc+d.c),.int .i64 d.c,.slice A2 d.L.length c2,.slice B2 d.M.length d2,.string (bs d.F)] 44) (star (CellO g7 #[.bool true] 4) (star (star (IntO A2 c2 d.L) (IntO B2 d2 d.M)) (star (CellO g5 #[.int .i64 v.k,.slice c.V v.vs.length c.vc,.slice c.L v.ls.length c.lc] 77) (star (CellO g4 #[.int .i64 u.k,.slice a.V u.vs.length a.vc,.slice a.L u.ls.length a.lc] 77) (star (CellO g3 #[.slice aA n1 ac,.slice aD n2 ad,.slice aE n3 ae,.int .i64 T.drop,.int .i64 T.ord,.int .i64 T.ini] 25) emp)))))) R'))).drop
     have HF:=hide (show Run (fun _=>False) w (star (ChI T k k2 ws g6 g7 (star (CellO g5 #[.int .i64 v.k,.slice c.V v.vs.length c.vc,.slice c.L v.ls.length c.lc] 77) (star (CellO g4 #[.int .i64 u.k,.slice a.V u.vs.length a.vc,.slice a.L u.ls.length a.lc] 77) (star (CellO g3 #[.slice aA n1 ac,.slice aD n2 ad,.slice aE n3 ae,.int .i64 T.drop,.int .i64 T.ord,.int .i64 T.ini] 25) emp))) (i+1)) R') (w9.setCell ⟨g7,0,none⟩ (.bool true)) from chi_mk (p:=⟨0,0,zkd,zl,zr,zc+d.c,d⟩) (f:=true) (A:=A2) (ac:=c2) (B:=B2) (bc:=d2) HN.out (fun h=>by cases h) hA2)
     clear hA hA2 H9 OKF HN hFB FB
     clear w0' w1' w2' w3' w4' w5' w6' w7' w8' w9' w10' w11' wf p0 p1 p2 p3 p4 p5 p6 p7 p8 p9 pf q0 qf
     go_wp2_with fail
     exact HF.out
    ·have t1:decide (zc+d.c < p.c)=false:=decide_eq_false hlt
     have hN1:first (candI T k k2 ws (i+1))=(if true then some p else none):=by rw [HC2.out,hf1'];simp [pick1,hlt]
     have hA2:=(H8.out.perm (by ac_rfl:_=star (star (CellO g8 #[.int .i64 0,.int .i64 0,.int .i64 zkd,.int .i64 zl,.int .i64 zr,.int .i64 (zc+d.c),.int .i64 d.c,.slice A2 d.L.length c2,.slice B2 d.M.length d2,.string (bs d.F),.string (bs zx),.string (bs zy)] 119) (star (CellO g9 #[.int .i64 d.c,.slice A2 d.L.length c2,.slice B2 d.M.length d2,.string (bs d.F)] 42) (star (IntO A2 c2 d.L) (IntO B2 d2 d.M)))) (star (star (CellO g6 #[.int .i64 p.i,.int .i64 p.j,.int .i64 p.kd,.int .i64 p.l,.int .i64 p.r,.int .i64 p.c,.int .i64 p.d.c,.slice A p.d.L.length pc,.slice B p.d.M.length qc,.string (bs p.d.F)] 44) (star (CellO g7 #[.bool true] 4) (star (DlO A pc B qc p.d) (star (CellO g5 #[.int .i64 v.k,.slice c.V v.vs.length c.vc,.slice c.L v.ls.length c.lc] 77) (star (CellO g4 #[.int .i64 u.k,.slice a.V u.vs.length a.vc,.slice a.L u.ls.length a.lc] 77) (star (CellO g3 #[.slice aA n1 ac,.slice aD n2 ad,.slice aE n3 ae,.int .i64 T.drop,.int .i64 T.ord,.int .i64 T.ini] 25) emp)))))) R'))).drop
     have HF:=hide (show Run (fun _=>False) w (star (ChI T k k2 ws g6 g7 (star (CellO g5 #[.int .i64 v.k,.slice c.V v.vs.length c.vc,.slice c.L v.ls.length c.lc] 77) (star (CellO g4 #[.int .i64 u.k,.slice a.V u.vs.length a.vc,.slice a.L u.ls.length a.lc] 77) (star (CellO g3 #[.slice aA n1 ac,.slice aD n2 ad,.slice aE n3 ae,.int .i64 T.drop,.int .i64 T.ord,.int .i64 T.ini] 25) emp))) (i+1)) R') w8 from chi_mk (p:=p) (f:=true) (A:=A) (ac:=pc) (B:=B) (bc:=qc) hN1 (fun h=>by cases h) hA2)
     clear HSTK H8 okR hN1 okF hf1' hA2
     refine wpIn_seq (region_in rfl (fun ⟨a,w,h⟩=>h) ?_)
     go_wp2_with fail
     gi_wp2
     exact HF.out
  ·have t1:(er != 0)=true:=by simp [hne]
   have HF:=hide (show Run (fun _=>False) w (star (ChI T k k2 ws g6 g7 (star (CellO g5 #[.int .i64 v.k,.slice c.V v.vs.length c.vc,.slice c.L v.ls.length c.lc] 77) (star (CellO g4 #[.int .i64 u.k,.slice a.V u.vs.length a.vc,.slice a.L u.ls.length a.lc] 77) (star (CellO g3 #[.slice aA n1 ac,.slice aD n2 ad,.slice aE n3 ae,.int .i64 T.drop,.int .i64 T.ord,.int .i64 T.ini] 25) emp))) (i+1)) R') w4 from chi_mk (by rw [HC0.out hbd];exact HF1.out) HF2.out (H5.out.drop.drop.drop.perm (by ac_rfl)))
   clear HBP hbd hne HC0 HC1 H5
   refine wpIn_seq (wpIn_seq (region_in rfl (fun ⟨a,w,h⟩=>h) ?_))
   go_wp2_with fail
   gi_wp2
   exact HF.out
 ·intro D R W1 hR hI
  obtain ⟨p,f,A,pc,B,qc,hf1,hf2,h3⟩:=chi_el hI
  have HRS:=hide (show res=(if f then some p else none) from HCA.out.symm.trans hf1)
  have HF2:=hide hf2
  have H3:=hide (h3.perm (by ac_rfl:_=star (CellO g6 (prC p A pc B qc) 44) (star (CellO g7 #[.bool f] 4) (star (DlO A pc B qc p.d) (star (ObjO D (.deferred (some []))) (star R (star (CellO g5 #[.int .i64 v.k,.slice c.V v.vs.length c.vc,.slice c.L v.ls.length c.lc] 77) (star (CellO g4 #[.int .i64 u.k,.slice a.V u.vs.length a.vc,.slice a.L u.ls.length a.lc] 77) (star (CellO g3 #[.slice aA n1 ac,.slice aD n2 ad,.slice aE n3 ae,.int .i64 T.drop,.int .i64 T.ord,.int .i64 T.ini] 25) emp)))))))))
  have ok3:=hide (star_ok cell_ok (star_ok cell_ok (star_ok dl_ok (star_ok obj_ok (star_ok hR okBX.out)))):(star (CellO g6 (prC p A pc B qc) 44) (star (CellO g7 #[.bool f] 4) (star (DlO A pc B qc p.d) (star (ObjO D (.deferred (some []))) (star R (star (CellO g5 #[.int .i64 v.k,.slice c.V v.vs.length c.vc,.slice c.L v.ls.length c.lc] 77) (star (CellO g4 #[.int .i64 u.k,.slice a.V u.vs.length a.vc,.slice a.L u.ls.length a.lc] 77) (star (CellO g3 #[.slice aA n1 ac,.slice aD n2 ad,.slice aE n3 ae,.int .i64 T.drop,.int .i64 T.ord,.int .i64 T.ini] 25) emp)))))))).Ok)
  have okT:=hide (star_ok dl_ok (star_ok obj_ok (star_ok hR okBX.out)):(star (DlO A pc B qc p.d) (star (ObjO D (.deferred (some []))) (star R (star (CellO g5 #[.int .i64 v.k,.slice c.V v.vs.length c.vc,.slice c.L v.ls.length c.lc] 77) (star (CellO g4 #[.int .i64 u.k,.slice a.V u.vs.length a.vc,.slice a.L u.ls.length a.lc] 77) (star (CellO g3 #[.slice aA n1 ac,.slice aD n2 ad,.slice aE n3 ae,.int .i64 T.drop,.int .i64 T.ord,.int .i64 T.ini] 25) emp)))))).Ok)
  have HBX:=hide (show ∀ X Y:CH.Own,∀ F0 w0 W,Run F0 w0 (star X (star Y (star R (star (CellO g5 #[.int .i64 v.k,.slice c.V v.vs.length c.vc,.slice c.L v.ls.length c.lc] 77) (star (CellO g4 #[.int .i64 u.k,.slice a.V u.vs.length a.vc,.slice a.L u.ls.length a.lc] 77) (star (CellO g3 #[.slice aA n1 ac,.slice aD n2 ad,.slice aE n3 ae,.int .i64 T.drop,.int .i64 T.ord,.int .i64 T.ini] 25) emp)))))) W→Run F0 w0 (star (star R (star (CellO g5 #[.int .i64 v.k,.slice c.V v.vs.length c.vc,.slice c.L v.ls.length c.lc] 77) (star (CellO g4 #[.int .i64 u.k,.slice a.V u.vs.length a.vc,.slice a.L u.ls.length a.lc] 77) (star (CellO g3 #[.slice aA n1 ac,.slice aD n2 ad,.slice aE n3 ae,.int .i64 T.drop,.int .i64 T.ord,.int .i64 T.ini] 25) emp)))) (star X Y)) W from fun X Y F0 w0 W h=>h.perm (by ac_rfl))
  have okD:=hide (star_ok hR okBX.out:(star R (star (CellO g5 #[.int .i64 v.k,.slice c.V v.vs.length c.vc,.slice c.L v.ls.length c.lc] 77) (star (CellO g4 #[.int .i64 u.k,.slice a.V u.vs.length a.vc,.slice a.L u.ls.length a.lc] 77) (star (CellO g3 #[.slice aA n1 ac,.slice aD n2 ad,.slice aE n3 ae,.int .i64 T.drop,.int .i64 T.ord,.int .i64 T.ini] 25) emp)))).Ok)
  generalize (star R (star (CellO g5 #[.int .i64 v.k,.slice c.V v.vs.length c.vc,.slice c.L v.ls.length c.lc] 77) (star (CellO g4 #[.int .i64 u.k,.slice a.V u.vs.length a.vc,.slice a.L u.ls.length a.lc] 77) (star (CellO g3 #[.slice aA n1 ac,.slice aD n2 ad,.slice aE n3 ae,.int .i64 T.drop,.int .i64 T.ord,.int .i64 T.ini] 25) emp))))=RB at *
  clear hI h3 hf1 hf2 HCA
  unfold prC at H3 ok3
  generalize w.heap.size=hz0 at *
  go_upto_region 9 with (fail)
  have H4:=hide (H3.out.drew ok3.out)
  clear H3
  refine wp_region_les [2,3] [0,1,1,2] (fun w'=>Run (fun _=>False) w (star (CellO g6 #[.int .i64 p.i,.int .i64 p.j,.int .i64 p.kd,.int .i64 p.l,.int .i64 p.r,.int .i64 p.c,.int .i64 p.d.c,.slice A p.d.L.length pc,.slice B p.d.M.length qc,.string (bs p.d.F)] 44) (star (CellO g7 #[.bool f] 4) (star (DlO A pc B qc p.d) (star (ObjO D (.deferred (some []))) RB)))) w') [fun w'=>Run (fun _=>False) w (star (CellO g6 #[.int .i64 p.i,.int .i64 p.j,.int .i64 p.kd,.int .i64 p.l,.int .i64 p.r,.int .i64 p.c,.int .i64 p.d.c,.slice A p.d.L.length pc,.slice B p.d.M.length qc,.string (bs p.d.F)] 44) (star (CellO g7 #[.bool f] 4) (star (DlO A pc B qc p.d) (star (ObjO D (.deferred (some []))) RB)))) w',fun w'=>Run (fun _=>False) w (star (CellO g6 #[.int .i64 p.i,.int .i64 p.j,.int .i64 p.kd,.int .i64 p.l,.int .i64 p.r,.int .i64 p.c,.int .i64 p.d.c,.slice A p.d.L.length pc,.slice B p.d.M.length qc,.string (bs p.d.F)] 44) (star (CellO g7 #[.bool f] 4) (star (DlO A pc B qc p.d) (star (ObjO D (.deferred (some []))) RB)))) w'] ⟨fun _ h=>h,fun _ h=>h,trivial⟩ rfl (by kernel_rfl) (by kernel_rfl) (by kernel_rfl) H4.out ?_
  generalize W1.drew=W2 at *
  refine les_read (v:=.agg #[.int .i64 p.i,.int .i64 p.j,.int .i64 p.kd,.int .i64 p.l,.int .i64 p.r,.int .i64 p.c,.int .i64 p.d.c,.slice A p.d.L.length pc,.slice B p.d.M.length qc,.string (bs p.d.F)]) (by rfl) (by rfl) (fun w' hS'=>?_) ?_
  ·obtain ⟨⟨p0,p1,p2,p3,p4⟩,⟨p5,p6,p7,p8,p9⟩,pf⟩:=run_c10 (show Run (fun _=>False) w (star (CellO g6 #[.int .i64 p.i,.int .i64 p.j,.int .i64 p.kd,.int .i64 p.l,.int .i64 p.r,.int .i64 p.c,.int .i64 p.d.c,.slice A p.d.L.length pc,.slice B p.d.M.length qc,.string (bs p.d.F)] 44) (star (CellO g7 #[.bool f] 4) (star (DlO A pc B qc p.d) (star (ObjO D (.deferred (some []))) RB)))) w' from hS')
   clear hS' ok3
   go_simp
  refine les_read (v:=.bool f) (by rfl) (by rfl) (fun w' hS'=>?_) ?_
  ·obtain ⟨FB,hFB⟩:=(show Run (fun _=>False) w (star (CellO g6 #[.int .i64 p.i,.int .i64 p.j,.int .i64 p.kd,.int .i64 p.l,.int .i64 p.r,.int .i64 p.c,.int .i64 p.d.c,.slice A p.d.L.length pc,.slice B p.d.M.length qc,.string (bs p.d.F)] 44) (star (CellO g7 #[.bool f] 4) (star (DlO A pc B qc p.d) (star (ObjO D (.deferred (some []))) RB)))) w' from hS').drop.fst
   have q0:=cell_at (i:=0) hFB rfl
   clear hS' ok3
   go_simp
  simp only [Act.put,List.setIfInBounds_toArray,List.set_cons_zero,List.set_cons_succ]
  refine les_chain rfl (by rfl) (fun K hK=>?_)
  obtain ⟨⟨p0,p1,p2,p3,p4⟩,⟨p5,p6,p7,p8,p9⟩,pf⟩:=run_c10 H4.out
  go_wp2_with fail
  have H5:=hide (show Run (fun _=>False) w (star (CellO g6 #[.int .i64 p.i,.int .i64 p.j,.int .i64 p.kd,.int .i64 p.l,.int .i64 p.r,.int .i64 p.c,.int .i64 p.d.c,.slice A p.d.L.length pc,.slice B p.d.M.length qc,.string (bs p.d.F)] 44) (star (CellO g7 #[.bool f] 4) (star (DlO A pc B qc p.d) (star (ObjO D (.deferred (some []))) RB)))) ((((((((((W2.setCell ⟨g6,0,none⟩ (.int .i64 p.i)).setCell ⟨g6,1,none⟩ (.int .i64 p.j)).setCell ⟨g6,2,none⟩ (.int .i64 p.kd)).setCell ⟨g6,3,none⟩ (.int .i64 p.l)).setCell ⟨g6,4,none⟩ (.int .i64 p.r)).setCell ⟨g6,5,none⟩ (.int .i64 p.c)).setCell ⟨g6,6,none⟩ (.int .i64 p.d.c)).setCell ⟨g6,7,none⟩ (.slice A p.d.L.length pc)).setCell ⟨g6,8,none⟩ (.slice B p.d.M.length qc)).setCell ⟨g6,9,none⟩ (.string (bs p.d.F))) from run_set10 H4.out (star_ok cell_ok okT.out) (.int .i64 p.i) (.int .i64 p.j) (.int .i64 p.kd) (.int .i64 p.l) (.int .i64 p.r) (.int .i64 p.c) (.int .i64 p.d.c) (.slice A p.d.L.length pc) (.slice B p.d.M.length qc) (.string (bs p.d.F)))
  refine hK.out _ _ H5.out ?_
  clear hK H4 p0 p1 p2 p3 p4 p5 p6 p7 p8 p9 pf
  generalize ((((((((((W2.setCell ⟨g6,0,none⟩ (.int .i64 p.i)).setCell ⟨g6,1,none⟩ (.int .i64 p.j)).setCell ⟨g6,2,none⟩ (.int .i64 p.kd)).setCell ⟨g6,3,none⟩ (.int .i64 p.l)).setCell ⟨g6,4,none⟩ (.int .i64 p.r)).setCell ⟨g6,5,none⟩ (.int .i64 p.c)).setCell ⟨g6,6,none⟩ (.int .i64 p.d.c)).setCell ⟨g6,7,none⟩ (.slice A p.d.L.length pc)).setCell ⟨g6,8,none⟩ (.slice B p.d.M.length qc)).setCell ⟨g6,9,none⟩ (.string (bs p.d.F)))=W3 at *

  refine les_chain rfl (by rfl) (fun K hK=>?_)
  have h5:=H5.out.perm (by ac_rfl:_=star (CellO g7 #[.bool f] 4) (star (CellO g6 #[.int .i64 p.i,.int .i64 p.j,.int .i64 p.kd,.int .i64 p.l,.int .i64 p.r,.int .i64 p.c,.int .i64 p.d.c,.slice A p.d.L.length pc,.slice B p.d.M.length qc,.string (bs p.d.F)] 44) (star (DlO A pc B qc p.d) (star (ObjO D (.deferred (some []))) RB))))
  obtain ⟨FB,hFB⟩:=h5.fst
  have q0:=cell_at (i:=0) hFB rfl
  have qf:=cell_free hFB
  go_wp2_with fail
  have h6:Run (fun _=>False) w (star (CellO g7 #[.bool f] 4) _) _:=run_setc h5 (star_ok cell_ok okT.out) 0 (.bool f)
  have H6:=hide (h6.perm (by ac_rfl:_=(star (CellO g6 #[.int .i64 p.i,.int .i64 p.j,.int .i64 p.kd,.int .i64 p.l,.int .i64 p.r,.int .i64 p.c,.int .i64 p.d.c,.slice A p.d.L.length pc,.slice B p.d.M.length qc,.string (bs p.d.F)] 44) (star (CellO g7 #[.bool f] 4) (star (DlO A pc B qc p.d) (star (ObjO D (.deferred (some []))) RB)))) ))
  refine hK.out _ _ H6.out ?_
  clear hK h5 h6 FB hFB q0 qf H5
  generalize W3.setCell _ _=W4 at *
  refine les_nil ?_
  have h7:=H6.out.perm (by ac_rfl:_=star (ObjO D (.deferred (some []))) (star (CellO g6 #[.int .i64 p.i,.int .i64 p.j,.int .i64 p.kd,.int .i64 p.l,.int .i64 p.r,.int .i64 p.c,.int .i64 p.d.c,.slice A p.d.L.length pc,.slice B p.d.M.length qc,.string (bs p.d.F)] 44) (star (CellO g7 #[.bool f] 4) (star (DlO A pc B qc p.d) RB))))
  obtain ⟨FD,hD,-,bk2⟩:=h7.take obj_ok (star_ok cell_ok (star_ok cell_ok (star_ok dl_ok okD.out)))
  have HD:=hide hD.1
  have h8:=bk2 _ _ (obj_put hD (.deferred none))
  have HP:=hide ((h8.drop.drop.drop.perm (by ac_rfl:_=star RB (DlO A pc B qc p.d))).drop.post dl_ok)
  obtain ⟨F6,hF6⟩:=h8.drop.fst
  obtain ⟨F7,hF7⟩:=h8.drop.drop.fst
  have HC6:=hide hF6.1
  have HC7:=hide (cell_at (i:=0) hF7 rfl)
  have e1:res.getD noP=p∧res.isSome=f:=by
   rw [HRS.out]
   cases f with
   | false=>exact ⟨(HF2.out rfl).symm,rfl⟩
   | true=>exact ⟨rfl,rfl⟩
  have HE:=hide e1
  clear h7 hD bk2 h8 hF6 hF7 F6 F7 FD e1 H6
  go_wp2_with fail
  refine ⟨by simp,.inl ⟨_,_,rfl,run_takeDeferred HD.out,?_⟩⟩
  refine ⟨_,res30 rfl rfl rfl HC6.out HC7.out,A,pc,B,qc,?_,?_⟩
  ·rw [HE.out.1,HE.out.2]
   rfl
  ·rw [HE.out.1]
   exact HP.out
 ·intro D c R W1 hR hI
  exact hI.no.elim
end Go.Proofs.YtbnnlpjpnihheaaGreatDoor
namespace Go.Proofs.YtbnnlpjpnihheaaGreatDoor
open Go.RowKit Go.CH Go.CH.Scr Go.CH.Pot Go.CH.Mtc
open Go.ChangeMaps (setBlock)

def WordRet (w:World) (T:Tab) (k:Int) (x:Bs) (k2:Int) (y:Bs) (e:Ending) (w':World):Prop :=
 ∃ p er A ac B bc,e=.returned (.tuple #[.agg (prC p A ac B bc),.int .i64 er])∧WordP T k x k2 y p er∧Post w (fun _=>False) (DlO A ac B bc p.d) w'
theorem wrdOf_e (T:Tab) (k:Int) (x:Bs):∃ u b,wrdOf T k x=(u,b)∧b=(word k x && validT T)∧(b=true→u=wrdN T k x):=by
 by_cases h:(word k x && validT T)=true
 ·exact ⟨_,_,by unfold wrdOf;rw [if_pos h],h.symm,fun _=>rfl⟩
 ·exact ⟨_,_,by unfold wrdOf;rw [if_neg h],by simpa using h,fun h=>by cases h⟩
theorem res18 {tmps:Array Value} {w:World} {g:Nat} {cs:Array Value} (h:tmps.getD 10 undef=.pointer (some ⟨g,0,none⟩)) (hs:cs.size=10) (hc:w.heap[g]?=some (.cells cs 44)) {v:Value} (hv:tmps.getD 11 undef=v):(results Tryz.f18 tmps).run Tryz.prog w=.ok (.tuple #[.agg cs,v]) w:=by
 subst hv
 exact res_cell_tmp rfl tmps w g 44 cs (0,0) h hc Tryz.underlying44 (by rw [hs];kernel_rfl)
set_option maxHeartbeats 6400000 in
set_option maxRecDepth 100000 in
theorem word_any {w:World} {T:Tab} {a:TA} (hT:TabR w T a) (hz:LZ w) (k:Int) (x:Bs) (k2:Int) (y:Bs) (hx:x.length≤1000000) (hy:y.length≤1000000) :
  Calls Tryz.prog 18 #[tabV T a,.int .i64 k,.string (bs x),.int .i64 k2,.string (bs y)] w (WordRet w T k x k2 y):=by
 have h1:=run_new (Run.begin w) emp_ok (tabC T a) 25
 have h2:=run_new h1 (star_ok cell_ok emp_ok) #[.int .i64 0,.int .i64 0,.int .i64 0,.int .i64 0,.int .i64 0,.int .i64 0,.int .i64 0,.slice none 0 0,.slice none 0 0,.string ⟨#[]⟩] 44
 rw [World.size_alloc] at h2
 have H2:=hide h2
 have HBW:=hide (fun W X (h:Run (fun _=>False) w X W)=>(show Below w.heap.size w W from h.mod.below (fun _ _ h=>h)))
 have KW1:=hide (fun W (hb:Below w.heap.size w W)=>wordOf_any (hT.below hb) (hz.below hb) k x hx)
 have KW2:=hide (fun W (hb:Below w.heap.size w W)=>wordOf_any (hT.below hb) (hz.below hb) k2 y hy)
 obtain ⟨u1,b1,q1,q1b,q1u⟩:=wrdOf_e T k x
 obtain ⟨u2,b2,q2,q2b,q2u⟩:=wrdOf_e T k2 y
 have KC:=hide (fun (hok:okW T k x k2 y=true) W (hb:Below w.heap.size w W) (a1 a2:WW) h1 h2=>cheapest_any (hT.below hb) (hz.below hb) hx hy hok (a:=a1) (c:=a2) h1 h2)
 have HOK:=hide (show okW T k x k2 y=(b1 && b2) from by rw [q1b,q2b];unfold okW;cases word k x <;> cases word k2 y <;> cases validT T <;> rfl)
 have HQ1:=hide q1u
 have HQ2:=hide q2u
 have KWA:=hide (fun W hb=>(KW1.out W hb).mono fun e w' (h:WrdRet W T k x e w')=>(show ∃ a:WW,e=.returned (.tuple #[wrdV u1 a,.bool b1])∧Below W.heap.size W w'∧WrdR w' u1 a from by unfold WrdRet at h;rw [q1] at h;exact h))
 have KWB:=hide (fun W hb=>(KW2.out W hb).mono fun e w' (h:WrdRet W T k2 y e w')=>(show ∃ a:WW,e=.returned (.tuple #[wrdV u2 a,.bool b2])∧Below W.heap.size W w'∧WrdR w' u2 a from by unfold WrdRet at h;rw [q2] at h;exact h))
 clear hT hz hx hy h1 h2 KW1 KW2 q1 q1b q1u q2 q2b q2u
 unfold wrdV wrdC at KWA KWB
 unfold wrdV wrdC at KC
 unfold tabV at *
 unfold tabC at *
 generalize T.rs.length=n1 at *
 generalize T.ds.length=n2 at *
 generalize T.es.length=n3 at *
 obtain ⟨aA,ac,aD,ad,aE,ae⟩:=a
 dsimp only at H2 KC KWA KWB ⊢
 generalize hw2:(w.alloc (.cells #[.slice aA n1 ac,.slice aD n2 ad,.slice aE n3 ae,.int .i64 T.drop,.int .i64 T.ord,.int .i64 T.ini] 25)).alloc (.cells #[.int .i64 0,.int .i64 0,.int .i64 0,.int .i64 0,.int .i64 0,.int .i64 0,.int .i64 0,.slice none 0 0,.slice none 0 0,.string ⟨#[]⟩] 44)=w2 at H2
 generalize hg1:w.heap.size+1=g1 at H2
 have okX:=hide (star_ok cell_ok (star_ok cell_ok emp_ok):(star (CellO g1 #[.int .i64 0,.int .i64 0,.int .i64 0,.int .i64 0,.int .i64 0,.int .i64 0,.int .i64 0,.slice none 0 0,.slice none 0 0,.string ⟨#[]⟩] 44) (star (CellO w.heap.size #[.slice aA n1 ac,.slice aD n2 ad,.slice aE n3 ae,.int .i64 T.drop,.int .i64 T.ord,.int .i64 T.ini] 25) emp)).Ok)
 by_cases hb12:(b1 && b2)=true
 ·rw [Bool.and_eq_true] at hb12
  obtain ⟨rfl,rfl⟩:=hb12
  obtain rfl:=HQ1.out rfl
  obtain rfl:=HQ2.out rfl
  have KC2:=hide (KC.out HOK.out)
  have HWP:=hide (show ∀ o,o=cheapN T k x k2 y→WordP T k x k2 y (o.getD noP) (if o.isSome then 0 else 11) from fun o ho=>by
   cases o with
   | none=>exact .none HOK.out ho.symm
   | some p=>exact .some HOK.out ho.symm)
  clear KC HOK HQ1 HQ2
  generalize wrdN T k x=u1 at *
  generalize wrdN T k2 y=u2 at *
  go_enter Tryz.func18,Tryz.ntmps18
  go_upto_region 1 with (fail)
  clear hw2 hg1
  obtain ⟨t0,t1,t2,t3,t4,t5⟩:=run_cb H2.out.drop
  have KA:=hide (KWA.out w2 (HBW.out _ _ H2.out))
  clear KWA
  go_wp2_with fail
  refine KA.out.mono ?_
  rintro e9 w3 ⟨a1,rfl,hb,hR⟩
  have H3:=hide (H2.out.below okX.out hb)
  have HR1:=hide (fun W (h:Below w3.heap.size w3 W)=>hR.below h)
  clear KA hb hR t0 t1 t2 t3 t4 t5 H2
  have H4:=hide (run_new H3.out okX.out #[.int .i64 u1.k,.slice a1.V u1.vs.length a1.vc,.slice a1.L u1.ls.length a1.lc] 77)
  have okY:=hide (star_ok cell_ok okX.out:(star (CellO w3.heap.size #[.int .i64 u1.k,.slice a1.V u1.vs.length a1.vc,.slice a1.L u1.ls.length a1.lc] 77) (star (CellO g1 #[.int .i64 0,.int .i64 0,.int .i64 0,.int .i64 0,.int .i64 0,.int .i64 0,.int .i64 0,.slice none 0 0,.slice none 0 0,.string ⟨#[]⟩] 44) (star (CellO w.heap.size #[.slice aA n1 ac,.slice aD n2 ad,.slice aE n3 ae,.int .i64 T.drop,.int .i64 T.ord,.int .i64 T.ini] 25) emp))).Ok)
  dsimp only
  go_upto_region 2 with (fail)
  have HB4:=hide (show Below w3.heap.size w3 (w3.alloc (.cells #[.int .i64 u1.k,.slice a1.V u1.vs.length a1.vc,.slice a1.L u1.ls.length a1.lc] 77))∧w3.heap.size≤(w3.alloc (.cells #[.int .i64 u1.k,.slice a1.V u1.vs.length a1.vc,.slice a1.L u1.ls.length a1.lc] 77)).heap.size from ⟨(Below.refl _ _).alloc (Nat.le_refl _) _,by simp⟩)
  generalize w3.alloc (.cells #[.int .i64 u1.k,.slice a1.V u1.vs.length a1.vc,.slice a1.L u1.ls.length a1.lc] 77)=w4 at *
  clear H3
  generalize w3.heap.size=g3 at *
  obtain ⟨t0,t1,t2,t3,t4,t5⟩:=run_cb H4.out.drop.drop
  have KB:=hide (KWB.out w4 (HBW.out _ _ H4.out))
  clear KWB
  go_wp2_with fail
  refine KB.out.mono ?_
  rintro e9 w5 ⟨a2,rfl,hb,hR⟩
  have H5:=hide (H4.out.below okY.out hb)
  have HRR:=hide (show WrdR w5 u1 a1∧WrdR w5 u2 a2 from ⟨HR1.out _ (HB4.out.1.trans (hb.mono HB4.out.2)),hR⟩)
  clear KB hb hR HR1 HB4 t0 t1 t2 t3 t4 t5 H4
  have H6:=hide (run_new H5.out okY.out #[.int .i64 u2.k,.slice a2.V u2.vs.length a2.vc,.slice a2.L u2.ls.length a2.lc] 77)
  have HR6:=hide (show WrdR (w5.alloc (.cells #[.int .i64 u2.k,.slice a2.V u2.vs.length a2.vc,.slice a2.L u2.ls.length a2.lc] 77)) u1 a1∧WrdR (w5.alloc (.cells #[.int .i64 u2.k,.slice a2.V u2.vs.length a2.vc,.slice a2.L u2.ls.length a2.lc] 77)) u2 a2 from ⟨HRR.out.1.below ((Below.refl _ _).alloc (Nat.le_refl _) _),HRR.out.2.below ((Below.refl _ _).alloc (Nat.le_refl _) _)⟩)
  have okS:=hide (star_ok cell_ok okY.out:(star (CellO w5.heap.size #[.int .i64 u2.k,.slice a2.V u2.vs.length a2.vc,.slice a2.L u2.ls.length a2.lc] 77) (star (CellO g3 #[.int .i64 u1.k,.slice a1.V u1.vs.length a1.vc,.slice a1.L u1.ls.length a1.lc] 77) (star (CellO g1 #[.int .i64 0,.int .i64 0,.int .i64 0,.int .i64 0,.int .i64 0,.int .i64 0,.int .i64 0,.slice none 0 0,.slice none 0 0,.string ⟨#[]⟩] 44) (star (CellO w.heap.size #[.slice aA n1 ac,.slice aD n2 ad,.slice aE n3 ae,.int .i64 T.drop,.int .i64 T.ord,.int .i64 T.ini] 25) emp)))).Ok)
  dsimp only
  go_upto_region 3 with (fail)
  generalize w5.alloc (.cells #[.int .i64 u2.k,.slice a2.V u2.vs.length a2.vc,.slice a2.L u2.ls.length a2.lc] 77)=w6 at *
  generalize w5.heap.size=g5 at *
  clear H5 HRR
  generalize cheapN T k x k2 y=o at *
  have KC3:=hide (KC2.out _ (HBW.out _ _ H6.out) _ _ HR6.out.1 HR6.out.2)
  clear KC2 HR6
  have HWP2:=hide (HWP.out o rfl)
  clear HWP
  obtain ⟨t0,t1,t2,t3,t4,t5⟩:=run_cb H6.out.drop.drop.drop
  obtain ⟨v0,v1,v2⟩:=run_c3 H6.out
  obtain ⟨u0,u1',u2'⟩:=run_c3 H6.out.drop
  go_wp2_with fail
  refine KC3.out.mono ?_
  rintro e9 w7 ⟨A,pc,B,qc,rfl,hp⟩
  have H7:=hide (H6.out.fresh okS.out hp)
  clear KC3 H6 hp t0 t1 t2 t3 t4 t5 u0 u1' u2' v0 v1 v2
  obtain ⟨p,hpo⟩:∃ p,p=o.getD noP:=⟨_,rfl⟩
  rw [←hpo] at H7 HWP2
  have HNP:=hide (show o.isSome=false→p=noP from fun h=>by cases o with | none=>exact hpo | some q=>cases h)
  unfold prC
  rw [←hpo]
  generalize o.isSome=f at *
  clear hpo
  have okH:=hide (star_ok dl_ok okS.out:(star (DlO A pc B qc p.d) (star (CellO g5 #[.int .i64 u2.k,.slice a2.V u2.vs.length a2.vc,.slice a2.L u2.ls.length a2.lc] 77) (star (CellO g3 #[.int .i64 u1.k,.slice a1.V u1.vs.length a1.vc,.slice a1.L u1.ls.length a1.lc] 77) (star (CellO g1 #[.int .i64 0,.int .i64 0,.int .i64 0,.int .i64 0,.int .i64 0,.int .i64 0,.int .i64 0,.slice none 0 0,.slice none 0 0,.string ⟨#[]⟩] 44) (star (CellO w.heap.size #[.slice aA n1 ac,.slice aD n2 ad,.slice aE n3 ae,.int .i64 T.drop,.int .i64 T.ord,.int .i64 T.ini] 25) emp))))).Ok)
  have H8:=hide (run_new H7.out okH.out #[.int .i64 p.i,.int .i64 p.j,.int .i64 p.kd,.int .i64 p.l,.int .i64 p.r,.int .i64 p.c,.int .i64 p.d.c,.slice A p.d.L.length pc,.slice B p.d.M.length qc,.string (bs p.d.F)] 44)
  clear H7
  dsimp only
  go_upto_region 6 with (fail)
  generalize w7.alloc (.cells #[.int .i64 p.i,.int .i64 p.j,.int .i64 p.kd,.int .i64 p.l,.int .i64 p.r,.int .i64 p.c,.int .i64 p.d.c,.slice A p.d.L.length pc,.slice B p.d.M.length qc,.string (bs p.d.F)] 44)=w8 at *
  generalize w7.heap.size=g7 at *
  have h8:=H8.out.perm (by ac_rfl:_=star (CellO g1 #[.int .i64 0,.int .i64 0,.int .i64 0,.int .i64 0,.int .i64 0,.int .i64 0,.int .i64 0,.slice none 0 0,.slice none 0 0,.string ⟨#[]⟩] 44) (star (CellO g7 #[.int .i64 p.i,.int .i64 p.j,.int .i64 p.kd,.int .i64 p.l,.int .i64 p.r,.int .i64 p.c,.int .i64 p.d.c,.slice A p.d.L.length pc,.slice B p.d.M.length qc,.string (bs p.d.F)] 44) (star (DlO A pc B qc p.d) (star (CellO g5 #[.int .i64 u2.k,.slice a2.V u2.vs.length a2.vc,.slice a2.L u2.ls.length a2.lc] 77) (star (CellO g3 #[.int .i64 u1.k,.slice a1.V u1.vs.length a1.vc,.slice a1.L u1.ls.length a1.lc] 77) (star (CellO w.heap.size #[.slice aA n1 ac,.slice aD n2 ad,.slice aE n3 ae,.int .i64 T.drop,.int .i64 T.ord,.int .i64 T.ini] 25) emp))))))
  have okE:(star (CellO g7 #[.int .i64 p.i,.int .i64 p.j,.int .i64 p.kd,.int .i64 p.l,.int .i64 p.r,.int .i64 p.c,.int .i64 p.d.c,.slice A p.d.L.length pc,.slice B p.d.M.length qc,.string (bs p.d.F)] 44) (star (DlO A pc B qc p.d) (star (CellO g5 #[.int .i64 u2.k,.slice a2.V u2.vs.length a2.vc,.slice a2.L u2.ls.length a2.lc] 77) (star (CellO g3 #[.int .i64 u1.k,.slice a1.V u1.vs.length a1.vc,.slice a1.L u1.ls.length a1.lc] 77) (star (CellO w.heap.size #[.slice aA n1 ac,.slice aD n2 ad,.slice aE n3 ae,.int .i64 T.drop,.int .i64 T.ord,.int .i64 T.ini] 25) emp))))).Ok:=star_ok cell_ok (star_ok dl_ok (star_ok cell_ok (star_ok cell_ok (star_ok cell_ok emp_ok))))
  have H9:=hide (run_set10 h8 okE (.int .i64 0) (.int .i64 0) (.int .i64 0) (.int .i64 0) (.int .i64 0) (.int .i64 0) (.int .i64 0) (.slice none 0 0) (.slice none 0 0) (.string ⟨#[]⟩))
  have H10:=hide (run_set10 h8 okE (.int .i64 p.i) (.int .i64 p.j) (.int .i64 p.kd) (.int .i64 p.l) (.int .i64 p.r) (.int .i64 p.c) (.int .i64 p.d.c) (.slice A p.d.L.length pc) (.slice B p.d.M.length qc) (.string (bs p.d.F)))
  obtain ⟨⟨z0,z1,z2,z3,z4⟩,⟨z5,z6,z7,z8,z9⟩,zf⟩:=run_c10 h8
  obtain ⟨⟨p0,p1,p2,p3,p4⟩,⟨p5,p6,p7,p8,p9⟩,pf⟩:=run_c10 h8.drop
  clear h8 okE
  cases f with
  | false =>
   have HF:=hide (show ∀ W,Run (fun _=>False) w (star (CellO g1 #[.int .i64 0,.int .i64 0,.int .i64 0,.int .i64 0,.int .i64 0,.int .i64 0,.int .i64 0,.slice none 0 0,.slice none 0 0,.string ⟨#[]⟩] 44) (star (CellO g7 #[.int .i64 p.i,.int .i64 p.j,.int .i64 p.kd,.int .i64 p.l,.int .i64 p.r,.int .i64 p.c,.int .i64 p.d.c,.slice A p.d.L.length pc,.slice B p.d.M.length qc,.string (bs p.d.F)] 44) (star (DlO A pc B qc p.d) (star (CellO g5 #[.int .i64 u2.k,.slice a2.V u2.vs.length a2.vc,.slice a2.L u2.ls.length a2.lc] 77) (star (CellO g3 #[.int .i64 u1.k,.slice a1.V u1.vs.length a1.vc,.slice a1.L u1.ls.length a1.lc] 77) (star (CellO w.heap.size #[.slice aA n1 ac,.slice aD n2 ad,.slice aE n3 ae,.int .i64 T.drop,.int .i64 T.ord,.int .i64 T.ini] 25) emp)))))) W→WordRet w T k x k2 y (.returned (.tuple #[.agg #[.int .i64 0,.int .i64 0,.int .i64 0,.int .i64 0,.int .i64 0,.int .i64 0,.int .i64 0,.slice none 0 0,.slice none 0 0,.string ⟨#[]⟩],.int .i64 11])) W from fun W h=>⟨noP,11,none,0,none,0,rfl,by have h1:=HWP2.out;rw [HNP.out rfl] at h1;exact h1,into_nil2 (HBW.out _ _ h)⟩)
   clear H10
   go_wp2
   obtain ⟨f2,hf2⟩:=H9.out.fst
   refine bodyPost_ret (res18 rfl rfl hf2.1 rfl) rfl ?_
   exact HF.out _ H9.out
  | true =>
   have HF:=hide (show ∀ W,Run (fun _=>False) w (star (CellO g1 #[.int .i64 p.i,.int .i64 p.j,.int .i64 p.kd,.int .i64 p.l,.int .i64 p.r,.int .i64 p.c,.int .i64 p.d.c,.slice A p.d.L.length pc,.slice B p.d.M.length qc,.string (bs p.d.F)] 44) (star (CellO g7 #[.int .i64 p.i,.int .i64 p.j,.int .i64 p.kd,.int .i64 p.l,.int .i64 p.r,.int .i64 p.c,.int .i64 p.d.c,.slice A p.d.L.length pc,.slice B p.d.M.length qc,.string (bs p.d.F)] 44) (star (DlO A pc B qc p.d) (star (CellO g5 #[.int .i64 u2.k,.slice a2.V u2.vs.length a2.vc,.slice a2.L u2.ls.length a2.lc] 77) (star (CellO g3 #[.int .i64 u1.k,.slice a1.V u1.vs.length a1.vc,.slice a1.L u1.ls.length a1.lc] 77) (star (CellO w.heap.size #[.slice aA n1 ac,.slice aD n2 ad,.slice aE n3 ae,.int .i64 T.drop,.int .i64 T.ord,.int .i64 T.ini] 25) emp)))))) W→WordRet w T k x k2 y (.returned (.tuple #[.agg #[.int .i64 p.i,.int .i64 p.j,.int .i64 p.kd,.int .i64 p.l,.int .i64 p.r,.int .i64 p.c,.int .i64 p.d.c,.slice A p.d.L.length pc,.slice B p.d.M.length qc,.string (bs p.d.F)],.int .i64 0])) W from fun W h=>⟨p,0,A,pc,B,qc,rfl,HWP2.out,((h.drop.drop.perm (by ac_rfl:_=star (star (CellO g5 #[.int .i64 u2.k,.slice a2.V u2.vs.length a2.vc,.slice a2.L u2.ls.length a2.lc] 77) (star (CellO g3 #[.int .i64 u1.k,.slice a1.V u1.vs.length a1.vc,.slice a1.L u1.ls.length a1.lc] 77) (star (CellO w.heap.size #[.slice aA n1 ac,.slice aD n2 ad,.slice aE n3 ae,.int .i64 T.drop,.int .i64 T.ord,.int .i64 T.ini] 25) emp))) (DlO A pc B qc p.d))).drop).post dl_ok⟩)
   clear H9
   go_wp2
   obtain ⟨f2,hf2⟩:=H10.out.fst
   refine bodyPost_ret (res18 rfl rfl hf2.1 rfl) rfl ?_
   exact HF.out _ H10.out
 ·have hbb:b1=false∨(b1=true∧b2=false):=by cases b1 <;> cases b2 <;> simp_all
  have HNO:=hide (show WordP T k x k2 y noP 1 from .arg (by rw [HOK.out];simpa using hb12))
  clear hb12 HQ1 HQ2 HOK KC
  rcases hbb with rfl | ⟨rfl,rfl⟩
  ·go_enter Tryz.func18,Tryz.ntmps18
   go_upto_region 1 with (fail)
   clear hw2 hg1
   obtain ⟨t0,t1,t2,t3,t4,t5⟩:=run_cb H2.out.drop
   have KA:=hide (KWA.out w2 (HBW.out _ _ H2.out))
   clear KWA
   go_wp2_with fail
   refine KA.out.mono ?_
   rintro e9 w3 ⟨a1,rfl,hb,hR⟩
   have H3:=hide (H2.out.below okX.out hb)
   have HR1:=hide (fun W (h:Below w3.heap.size w3 W)=>hR.below h)
   clear KA hb hR t0 t1 t2 t3 t4 t5 H2
   have H4:=hide (run_new H3.out okX.out #[.int .i64 u1.k,.slice a1.V u1.vs.length a1.vc,.slice a1.L u1.ls.length a1.lc] 77)
   have okY:=hide (star_ok cell_ok okX.out:(star (CellO w3.heap.size #[.int .i64 u1.k,.slice a1.V u1.vs.length a1.vc,.slice a1.L u1.ls.length a1.lc] 77) (star (CellO g1 #[.int .i64 0,.int .i64 0,.int .i64 0,.int .i64 0,.int .i64 0,.int .i64 0,.int .i64 0,.slice none 0 0,.slice none 0 0,.string ⟨#[]⟩] 44) (star (CellO w.heap.size #[.slice aA n1 ac,.slice aD n2 ad,.slice aE n3 ae,.int .i64 T.drop,.int .i64 T.ord,.int .i64 T.ini] 25) emp))).Ok)
   dsimp only
   go_upto_region 2 with (fail)
   have HB4:=hide (show Below w3.heap.size w3 (w3.alloc (.cells #[.int .i64 u1.k,.slice a1.V u1.vs.length a1.vc,.slice a1.L u1.ls.length a1.lc] 77))∧w3.heap.size≤(w3.alloc (.cells #[.int .i64 u1.k,.slice a1.V u1.vs.length a1.vc,.slice a1.L u1.ls.length a1.lc] 77)).heap.size from ⟨(Below.refl _ _).alloc (Nat.le_refl _) _,by simp⟩)
   generalize w3.alloc (.cells #[.int .i64 u1.k,.slice a1.V u1.vs.length a1.vc,.slice a1.L u1.ls.length a1.lc] 77)=w4 at *
   clear H3
   generalize w3.heap.size=g3 at *
   obtain ⟨t0,t1,t2,t3,t4,t5⟩:=run_cb H4.out.drop.drop
   have KB:=hide (KWB.out w4 (HBW.out _ _ H4.out))
   clear KWB
   go_wp2_with fail
   refine KB.out.mono ?_
   rintro e9 w5 ⟨a2,rfl,hb,hR⟩
   have H5:=hide (H4.out.below okY.out hb)
   have HRR:=hide (show WrdR w5 u1 a1∧WrdR w5 u2 a2 from ⟨HR1.out _ (HB4.out.1.trans (hb.mono HB4.out.2)),hR⟩)
   clear KB hb hR HR1 HB4 t0 t1 t2 t3 t4 t5 H4
   have H6:=hide (run_new H5.out okY.out #[.int .i64 u2.k,.slice a2.V u2.vs.length a2.vc,.slice a2.L u2.ls.length a2.lc] 77)
   have HR6:=hide (show WrdR (w5.alloc (.cells #[.int .i64 u2.k,.slice a2.V u2.vs.length a2.vc,.slice a2.L u2.ls.length a2.lc] 77)) u1 a1∧WrdR (w5.alloc (.cells #[.int .i64 u2.k,.slice a2.V u2.vs.length a2.vc,.slice a2.L u2.ls.length a2.lc] 77)) u2 a2 from ⟨HRR.out.1.below ((Below.refl _ _).alloc (Nat.le_refl _) _),HRR.out.2.below ((Below.refl _ _).alloc (Nat.le_refl _) _)⟩)
   have okS:=hide (star_ok cell_ok okY.out:(star (CellO w5.heap.size #[.int .i64 u2.k,.slice a2.V u2.vs.length a2.vc,.slice a2.L u2.ls.length a2.lc] 77) (star (CellO g3 #[.int .i64 u1.k,.slice a1.V u1.vs.length a1.vc,.slice a1.L u1.ls.length a1.lc] 77) (star (CellO g1 #[.int .i64 0,.int .i64 0,.int .i64 0,.int .i64 0,.int .i64 0,.int .i64 0,.int .i64 0,.slice none 0 0,.slice none 0 0,.string ⟨#[]⟩] 44) (star (CellO w.heap.size #[.slice aA n1 ac,.slice aD n2 ad,.slice aE n3 ae,.int .i64 T.drop,.int .i64 T.ord,.int .i64 T.ini] 25) emp)))).Ok)
   dsimp only
   go_upto_region 3 with (fail)
   generalize w5.alloc (.cells #[.int .i64 u2.k,.slice a2.V u2.vs.length a2.vc,.slice a2.L u2.ls.length a2.lc] 77)=w6 at *
   generalize w5.heap.size=g5 at *
   clear H5 HRR
   have h8:=H6.out.perm (by ac_rfl:_=star (CellO g1 #[.int .i64 0,.int .i64 0,.int .i64 0,.int .i64 0,.int .i64 0,.int .i64 0,.int .i64 0,.slice none 0 0,.slice none 0 0,.string ⟨#[]⟩] 44) (star (CellO g5 #[.int .i64 u2.k,.slice a2.V u2.vs.length a2.vc,.slice a2.L u2.ls.length a2.lc] 77) (star (CellO g3 #[.int .i64 u1.k,.slice a1.V u1.vs.length a1.vc,.slice a1.L u1.ls.length a1.lc] 77) (star (CellO w.heap.size #[.slice aA n1 ac,.slice aD n2 ad,.slice aE n3 ae,.int .i64 T.drop,.int .i64 T.ord,.int .i64 T.ini] 25) emp))))
   have okE:(star (CellO g5 #[.int .i64 u2.k,.slice a2.V u2.vs.length a2.vc,.slice a2.L u2.ls.length a2.lc] 77) (star (CellO g3 #[.int .i64 u1.k,.slice a1.V u1.vs.length a1.vc,.slice a1.L u1.ls.length a1.lc] 77) (star (CellO w.heap.size #[.slice aA n1 ac,.slice aD n2 ad,.slice aE n3 ae,.int .i64 T.drop,.int .i64 T.ord,.int .i64 T.ini] 25) emp))).Ok:=star_ok cell_ok (star_ok cell_ok (star_ok cell_ok emp_ok))
   have H9:=hide (run_set10 h8 okE (.int .i64 0) (.int .i64 0) (.int .i64 0) (.int .i64 0) (.int .i64 0) (.int .i64 0) (.int .i64 0) (.slice none 0 0) (.slice none 0 0) (.string ⟨#[]⟩))
   obtain ⟨⟨z0,z1,z2,z3,z4⟩,⟨z5,z6,z7,z8,z9⟩,zf⟩:=run_c10 h8
   clear h8 okE HR6
   go_wp2
   obtain ⟨f2,hf2⟩:=H9.out.fst
   refine bodyPost_ret (res18 rfl rfl hf2.1 rfl) rfl ?_
   exact ⟨noP,1,none,0,none,0,rfl,HNO.out,into_nil2 (HBW.out _ _ H9.out)⟩
  ·go_enter Tryz.func18,Tryz.ntmps18
   go_upto_region 1 with (fail)
   clear hw2 hg1
   obtain ⟨t0,t1,t2,t3,t4,t5⟩:=run_cb H2.out.drop
   have KA:=hide (KWA.out w2 (HBW.out _ _ H2.out))
   clear KWA
   go_wp2_with fail
   refine KA.out.mono ?_
   rintro e9 w3 ⟨a1,rfl,hb,hR⟩
   have H3:=hide (H2.out.below okX.out hb)
   have HR1:=hide (fun W (h:Below w3.heap.size w3 W)=>hR.below h)
   clear KA hb hR t0 t1 t2 t3 t4 t5 H2
   have H4:=hide (run_new H3.out okX.out #[.int .i64 u1.k,.slice a1.V u1.vs.length a1.vc,.slice a1.L u1.ls.length a1.lc] 77)
   have okY:=hide (star_ok cell_ok okX.out:(star (CellO w3.heap.size #[.int .i64 u1.k,.slice a1.V u1.vs.length a1.vc,.slice a1.L u1.ls.length a1.lc] 77) (star (CellO g1 #[.int .i64 0,.int .i64 0,.int .i64 0,.int .i64 0,.int .i64 0,.int .i64 0,.int .i64 0,.slice none 0 0,.slice none 0 0,.string ⟨#[]⟩] 44) (star (CellO w.heap.size #[.slice aA n1 ac,.slice aD n2 ad,.slice aE n3 ae,.int .i64 T.drop,.int .i64 T.ord,.int .i64 T.ini] 25) emp))).Ok)
   dsimp only
   go_upto_region 2 with (fail)
   have HB4:=hide (show Below w3.heap.size w3 (w3.alloc (.cells #[.int .i64 u1.k,.slice a1.V u1.vs.length a1.vc,.slice a1.L u1.ls.length a1.lc] 77))∧w3.heap.size≤(w3.alloc (.cells #[.int .i64 u1.k,.slice a1.V u1.vs.length a1.vc,.slice a1.L u1.ls.length a1.lc] 77)).heap.size from ⟨(Below.refl _ _).alloc (Nat.le_refl _) _,by simp⟩)
   generalize w3.alloc (.cells #[.int .i64 u1.k,.slice a1.V u1.vs.length a1.vc,.slice a1.L u1.ls.length a1.lc] 77)=w4 at *
   clear H3
   generalize w3.heap.size=g3 at *
   obtain ⟨t0,t1,t2,t3,t4,t5⟩:=run_cb H4.out.drop.drop
   have KB:=hide (KWB.out w4 (HBW.out _ _ H4.out))
   clear KWB
   go_wp2_with fail
   refine KB.out.mono ?_
   rintro e9 w5 ⟨a2,rfl,hb,hR⟩
   have H5:=hide (H4.out.below okY.out hb)
   have HRR:=hide (show WrdR w5 u1 a1∧WrdR w5 u2 a2 from ⟨HR1.out _ (HB4.out.1.trans (hb.mono HB4.out.2)),hR⟩)
   clear KB hb hR HR1 HB4 t0 t1 t2 t3 t4 t5 H4
   have H6:=hide (run_new H5.out okY.out #[.int .i64 u2.k,.slice a2.V u2.vs.length a2.vc,.slice a2.L u2.ls.length a2.lc] 77)
   have HR6:=hide (show WrdR (w5.alloc (.cells #[.int .i64 u2.k,.slice a2.V u2.vs.length a2.vc,.slice a2.L u2.ls.length a2.lc] 77)) u1 a1∧WrdR (w5.alloc (.cells #[.int .i64 u2.k,.slice a2.V u2.vs.length a2.vc,.slice a2.L u2.ls.length a2.lc] 77)) u2 a2 from ⟨HRR.out.1.below ((Below.refl _ _).alloc (Nat.le_refl _) _),HRR.out.2.below ((Below.refl _ _).alloc (Nat.le_refl _) _)⟩)
   have okS:=hide (star_ok cell_ok okY.out:(star (CellO w5.heap.size #[.int .i64 u2.k,.slice a2.V u2.vs.length a2.vc,.slice a2.L u2.ls.length a2.lc] 77) (star (CellO g3 #[.int .i64 u1.k,.slice a1.V u1.vs.length a1.vc,.slice a1.L u1.ls.length a1.lc] 77) (star (CellO g1 #[.int .i64 0,.int .i64 0,.int .i64 0,.int .i64 0,.int .i64 0,.int .i64 0,.int .i64 0,.slice none 0 0,.slice none 0 0,.string ⟨#[]⟩] 44) (star (CellO w.heap.size #[.slice aA n1 ac,.slice aD n2 ad,.slice aE n3 ae,.int .i64 T.drop,.int .i64 T.ord,.int .i64 T.ini] 25) emp)))).Ok)
   dsimp only
   go_upto_region 3 with (fail)
   generalize w5.alloc (.cells #[.int .i64 u2.k,.slice a2.V u2.vs.length a2.vc,.slice a2.L u2.ls.length a2.lc] 77)=w6 at *
   generalize w5.heap.size=g5 at *
   clear H5 HRR
   have h8:=H6.out.perm (by ac_rfl:_=star (CellO g1 #[.int .i64 0,.int .i64 0,.int .i64 0,.int .i64 0,.int .i64 0,.int .i64 0,.int .i64 0,.slice none 0 0,.slice none 0 0,.string ⟨#[]⟩] 44) (star (CellO g5 #[.int .i64 u2.k,.slice a2.V u2.vs.length a2.vc,.slice a2.L u2.ls.length a2.lc] 77) (star (CellO g3 #[.int .i64 u1.k,.slice a1.V u1.vs.length a1.vc,.slice a1.L u1.ls.length a1.lc] 77) (star (CellO w.heap.size #[.slice aA n1 ac,.slice aD n2 ad,.slice aE n3 ae,.int .i64 T.drop,.int .i64 T.ord,.int .i64 T.ini] 25) emp))))
   have okE:(star (CellO g5 #[.int .i64 u2.k,.slice a2.V u2.vs.length a2.vc,.slice a2.L u2.ls.length a2.lc] 77) (star (CellO g3 #[.int .i64 u1.k,.slice a1.V u1.vs.length a1.vc,.slice a1.L u1.ls.length a1.lc] 77) (star (CellO w.heap.size #[.slice aA n1 ac,.slice aD n2 ad,.slice aE n3 ae,.int .i64 T.drop,.int .i64 T.ord,.int .i64 T.ini] 25) emp))).Ok:=star_ok cell_ok (star_ok cell_ok (star_ok cell_ok emp_ok))
   have H9:=hide (run_set10 h8 okE (.int .i64 0) (.int .i64 0) (.int .i64 0) (.int .i64 0) (.int .i64 0) (.int .i64 0) (.int .i64 0) (.slice none 0 0) (.slice none 0 0) (.string ⟨#[]⟩))
   obtain ⟨⟨z0,z1,z2,z3,z4⟩,⟨z5,z6,z7,z8,z9⟩,zf⟩:=run_c10 h8
   clear h8 okE HR6
   go_wp2
   obtain ⟨f2,hf2⟩:=H9.out.fst
   refine bodyPost_ret (res18 rfl rfl hf2.1 rfl) rfl ?_
   exact ⟨noP,1,none,0,none,0,rfl,HNO.out,into_nil2 (HBW.out _ _ H9.out)⟩
end Go.Proofs.YtbnnlpjpnihheaaGreatDoor
namespace Go.Proofs.YtbnnlpjpnihheaaGreatDoor
open Go.RowKit Go.CH Go.CH.Scr
open Go.ChangeMaps (setBlock)
def nmV (n:NameM) (A:Option Addr) (c:Nat):Value:=.agg #[.int .i64 n.k,.slice A n.ws.length c]
theorem valid_no {n:NameM} {i:Nat} (hi:i < n.ws.length) (h:¬ word n.k n.ws[i]=true):validN n=false:=by
 unfold validN
 rw [show n.ws.all (word n.k)=false from by
  rw [List.all_eq_false]
  exact ⟨n.ws[i],List.getElem_mem hi,h⟩]
 rfl
theorem valid_step {n:NameM} {i:Nat} (hi:i < n.ws.length) (ha:∀ x ∈ n.ws.take i,word n.k x=true) (h:word n.k n.ws[i]=true):∀ x ∈ n.ws.take (i+1),word n.k x=true:=by
 intro x hx
 rw [List.take_succ_eq_append_getElem hi] at hx
 rcases List.mem_append.1 hx with hx | hx
 ·exact ha x hx
 ·rw [List.mem_singleton.1 hx];exact h
theorem valid_end {n:NameM} (ha:∀ x ∈ n.ws,word n.k x=true):validN n=(decide (0 < n.ws.length) && decide (n.ws.length≤6)):=by
 unfold validN
 rw [show n.ws.all (word n.k)=true from List.all_eq_true.2 ha]
 rfl
set_option maxHeartbeats 1600000 in
theorem valid_any {w:World} {n:NameM} {A:Option Addr} {c:Nat} (hA:Vst w A n.ws) (hl:n.ws.length≤1000000) (hw:∀ x ∈ n.ws,x.length≤1000000) (hz:LZ w) :
  Calls Tryz.prog 54 #[nmV n A c] w (BelowRet w (.bool (validN n))):=by
 have HZ:=hide hz
 have HA:=hide hA
 have HW:=hide hw
 have HL:=hide (fun (k:Int) (x:Bs) (W:World) (hx:x.length≤1000000) (hz:LZ W)=>Letters_b k (bs x) W (by rw [bs_size];exact hx) hz)
 have h0:(w.alloc (.cells #[.int .i64 n.k,.slice A n.ws.length c] 28)).cell? ⟨w.heap.size,0,none⟩=some (.int .i64 n.k):=cell_at (cell_new w #[.int .i64 n.k,.slice A n.ws.length c] 28).choose_spec.1 rfl
 have h1:(w.alloc (.cells #[.int .i64 n.k,.slice A n.ws.length c] 28)).cell? ⟨w.heap.size,1,none⟩=some (.slice A n.ws.length c):=cell_at (cell_new w #[.int .i64 n.k,.slice A n.ws.length c] 28).choose_spec.1 rfl
 have hb1:Below w.heap.size w (w.alloc (.cells #[.int .i64 n.k,.slice A n.ws.length c] 28)):=(Below.refl _ w).alloc (Nat.le_refl _) _
 have HB1:=hide hb1
 have HC0:=hide (fun W (hb:Below (w.alloc (.cells #[.int .i64 n.k,.slice A n.ws.length c] 28)).heap.size (w.alloc (.cells #[.int .i64 n.k,.slice A n.ws.length c] 28)) W)=>show W.cell? ⟨w.heap.size,0,none⟩=some (.int .i64 n.k)∧W.cell? ⟨w.heap.size,1,none⟩=some (.slice A n.ws.length c) from
  ⟨by rw [hb.cell (World.block_lt_of_cell? _ _ h0)];exact h0,by rw [hb.cell (World.block_lt_of_cell? _ _ h1)];exact h1⟩)
 obtain ⟨N,hN⟩:∃ N,N=n.ws.length:=⟨_,rfl⟩
 have HN:=hide hN
 rw [←hN] at hl
 unfold nmV
 rw [←hN] at h0 h1 HC0 HB1 ⊢
 clear hA hw hz hb1 hN
 go_enter Tryz.func54,Tryz.ntmps54
 go_wp2
 generalize w.alloc (.cells #[.int .i64 n.k,.slice A N c] 28)=w1 at *
 go_loopw [10] (fun i wr=>∃ k:Nat,k≤N∧i=.int .i64 k∧(∀ x ∈ n.ws.take k,word n.k x=true)∧Below w1.heap.size w1 wr) (fun i _=>N - (intOf i).toNat)
 case atStart=>exact ⟨0,Nat.zero_le _,rfl,by simp,Below.refl _ _⟩
 case round =>
  obtain ⟨k,hk,rfl,ht,hb⟩:=hrel
  have HT:=hide ht
  have HB:=hide hb
  obtain ⟨d0,d1⟩:=HC0.out _ hb
  clear ht hb h0 h1
  by_cases hlt:k < N
  ·have hkn:k < n.ws.length:=by rw [←HN.out];exact hlt
   obtain ⟨b,o,rfl,hc⟩:=HA.out.at (by omega)
   have ck:=hc _ (bel_trans HB1.out HB.out) k hkn
   have KL:=hide (HL.out n.k n.ws[k] wr (HW.out _ (List.getElem_mem hkn)) (HZ.out.below (bel_trans HB1.out HB.out)))
   rw [bl_bs] at KL
   have HNO:=hide (valid_no hkn)
   have HST:=hide (valid_step hkn HT.out)
   generalize n.ws[k]=x at *
   clear hc hkn
   by_cases hwx:word n.k x=true
   ·have e1:lettersN n.k x=((ltrs n.k x).1,0):=by unfold lettersN;rw [if_pos hwx]
    have HS:=hide (HST.out hwx)
    unfold LtrsB at KL
    simp only [e1] at KL
    clear e1 HNO HST hwx
    go_wp2_with fail
    refine KL.out.mono ?_
    rintro e9 w2 ⟨A2,c2,rfl,hb,-⟩
    have HB2:=hide (bel_trans HB.out hb)
    clear KL HB hb
    dsimp only
    go_wp2
    go_roundw
    case rel=>exact ⟨k+1,by omega,by go_num,HS.out,HB2.out⟩
    case measure=>simp [intOf];omega
   ·have e1:lettersN n.k x=([],1):=by unfold lettersN;rw [if_neg hwx]
    have HF:=hide (HNO.out hwx)
    unfold LtrsB at KL
    simp only [e1] at KL
    clear e1 HNO HST hwx
    go_wp2_with fail
    refine KL.out.mono ?_
    rintro e9 w2 ⟨A2,c2,rfl,hb,-⟩
    have HB2:=hide (bel_trans HB.out hb)
    clear KL HB hb
    dsimp only
    go_wp2
    go_ret
    exact bel_bool HF.out (bel_trans HB1.out HB2.out)
  ·obtain rfl:k=N:=by omega
   have HF:=hide (valid_end (n:=n) (by have:=HT.out;rw [HN.out,List.take_length] at this;exact this))
   rw [←HN.out] at HF
   clear HT
   by_cases h0:(0:Int) < (k:Int)
   ·have hd:(decide (0 < k) && decide (k≤6))=decide ((k:Int)≤6):=by
     rw [decide_eq_true (show 0 < k by omega),Bool.true_and]
     exact decide_eq_decide.2 (by omega)
    rw [hd] at HF
    go_wp2
    go_ret
    exact bel_bool HF.out (bel_trans HB1.out HB.out)
   ·have hd:(decide (0 < k) && decide (k≤6))=false:=by
     rw [decide_eq_false (show ¬ 0 < k by omega),Bool.false_and]
    rw [hd] at HF
    go_wp2
    go_ret
    exact bel_bool HF.out (bel_trans HB1.out HB.out)
end Go.Proofs.YtbnnlpjpnihheaaGreatDoor
namespace Go.CH
open Go.RowKit
section
variable {P:Program} {ops:Array Oper} {Q:Exit→Act→World→Prop}
theorem wpOp_mono {i:Nat} {K K':Act→World→Prop} {a:Act} {w:World} (hk:∀ a w,K a w→K' a w) (h:wpOp P ops Q i K a w):wpOp P ops Q i K' a w:=by
 unfold wpOp at *
 cases ho:ops[i]? with
 | none=>simp only [ho] at h ⊢;exact hk _ _ h
 | some o =>
  simp only [ho] at h ⊢
  split at h
  ·rename_i hw
   rw [if_pos hw]
   exact h.imp (Oper.wp_mono hk) id
  ·rename_i hw
   rw [if_neg hw]
   exact hk _ _ h

theorem wpOp_plain {i:Nat} {o:Oper} {K:Act→World→Prop} {a:Act} {w:World} (ho:ops[i]?=some o) (hg:o.guard=none) (h:o.wp P a w K Q):wpOp P ops Q i K a w:=by
 unfold wpOp
 simp only [ho]
 rw [if_pos (by simp [Region.wanted,hg])]
 exact .inl h
end
end Go.CH
