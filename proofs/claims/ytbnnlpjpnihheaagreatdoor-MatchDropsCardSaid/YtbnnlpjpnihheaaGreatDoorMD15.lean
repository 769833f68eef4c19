import Derived.Test.YtbnnlpjpnihheaaGreatDoorMD13
import Derived.Deep.LoopGhost
import Derived.WalkMore
set_option linter.unusedSimpArgs false
set_option linter.unusedVariables false
namespace Go.Proofs.YtbnnlpjpnihheaaGreatDoor.Asn
open Go.RowKit Go.CH Go.CH.Asg
open Go.ChangeMaps (setBlock)

theorem exec_call31 {a:Act} {o:Oper} {x:Operand} {v:Value} (ho:o.op=.call { callee:=.value (.func 61),args:=#[x],argTypes:=#[185] }) (hx:a.eval x=v) (W:World):(execOp a.eval o).run Tryz.prog W=.ok (.enter 61 #[v]) W:=by
 unfold execOp
 simp only [ho,resolve,List.map_toArray,List.map_cons,List.map_nil,hx]
 go_simp
theorem exec_call32 {a:Act} {o:Oper} {x:Operand} {v:Value} (ho:o.op=.call { callee:=.value (.func 62),args:=#[x],argTypes:=#[75] }) (hx:a.eval x=v) (W:World):(execOp a.eval o).run Tryz.prog W=.ok (.enter 62 #[v]) W:=by
 unfold execOp
 simp only [ho,resolve,List.map_toArray,List.map_cons,List.map_nil,hx]
 go_simp
theorem wp_enter {o:Oper} {a:Act} {W:World} {f:FuncId} {args:Array Value} {K:Act→World→Prop} {Q:Exit→Act→World→Prop} (hrun:(execOp a.eval o).run Tryz.prog W=.ok (.enter f args) W)
  (h:Calls Tryz.prog f args W (fun e w'=>∃ r,e=.returned r∧K (a.put o.dst r) w')):o.wp Tryz.prog a W K Q:=by
 unfold Oper.wp
 rw [hrun]
 refine Calls.mono h ?_
 rintro e w' ⟨r,rfl,hK⟩
 exact hK
theorem run_build62 (v1 v2:Value) (A B:Option Addr) (n c m d:Nat) (w:World) (h1:v1=.slice A n c) (h2:v2=.slice B m d):(Instr.buildSlice 185 2 #[(0,v1),(1,v2)]).run Tryz.prog w=.ok (.slice (some ⟨w.heap.size,0,none⟩) 2 2) (w.alloc (.cells #[v1,v2] 75)):=by
 subst h1 h2;go_simp
theorem run_build22_2 (v1 v2:Value) (A B:Option Addr) (n c m d:Nat) (w:World) (h1:v1=.slice A n c) (h2:v2=.slice B m d):(Instr.buildSlice 75 2 #[(0,v1),(1,v2)]).run Tryz.prog w=.ok (.slice (some ⟨w.heap.size,0,none⟩) 2 2) (w.alloc (.cells #[v1,v2] 40)):=by
 subst h1 h2;go_simp
theorem exec_build2 {a:Act} {o:Oper} {ts:TypeId} {x y:Operand} {v u r:Value} {w w':World} (hop:o.op=.buildSlice ts 2 #[(0,x),(1,y)]) (hx:a.eval x=v) (hy:a.eval y=u) (hb:(Instr.buildSlice ts 2 #[(0,v),(1,u)]).run Tryz.prog w=.ok r w'):(execOp a.eval o).run Tryz.prog w=.ok (.value r) w':=by
 unfold execOp
 simp only [hop,List.map_toArray,List.map_cons,List.map_nil,hx,hy]
 simp only [Sem.run_bind,hb,Result.andThen_ok,Sem.run_pure]

theorem src_two {W:World} {F:Nat→Prop} {g:Nat} {u v:Value} {t:TypeId} (h:CellO g #[u,v] t W F) (h1:u.oneCell'=true) (h2:v.oneCell'=true):Src W (some ⟨g,0,none⟩) 2 1 [u,v]:=by
 refine ⟨rfl,fun x hx=>?_,fun _=>⟨_,rfl,fun j x hx=>?_⟩⟩
 ·simp at hx;rcases hx with rfl | rfl <;> assumption
 ·rw [Addr.add_zero_]
  exact cell_at h (by simpa using hx)
theorem matx_two {W:World} {A B D:Option Addr} {n m c d:Nat} {xs ys:List Value} (h:Src W D 2 1 [.slice A n c,.slice B m d]) (h1:Src W A n 1 xs) (h2:Src W B m 1 ys):MatX W D [xs,ys] [(A,c),(B,d)]:=by
 have e1:xs.length=n:=by have:=h1.1;omega
 have e2:ys.length=m:=by have:=h2.1;omega
 refine ⟨rfl,?_,fun i hi x hx=>?_⟩
 ·have:([(A,c),(B,d)]:List (Option Addr × Nat)).mapIdx (fun i x=>Value.slice x.1 (([xs,ys]:List (List Value)).getD i []).length x.2)=[.slice A n c,.slice B m d]:=by
   simp [e1,e2]
  rw [this];exact h
 ·match i,hi,hx with
  | 0,_,hx=>simp at hx;subst hx;simpa [e1] using h1
  | 1,_,hx=>simp at hx;subst hx;simpa [e2] using h2
def catX (A:Option Addr) (n c:Nat) (RV:List Value) (x:Value):List Value→CH.Own
 | []=>emp
 | [v]=>exO fun g:Nat=>andO (v=.slice (some ⟨g,0,none⟩) 1 1) (CellO g #[x] 40)
 | [v1,v2]=>exO fun p:Nat × Nat=>andO (v1=.slice (some ⟨p.1,0,none⟩) 1 1∧v2=.slice (some ⟨p.2,0,none⟩) 2 2) (star (CellO p.1 #[x] 40) (CellO p.2 #[.slice A n c,v1] 75))
 | [_,_,v3]=>exO fun p:Option Addr × Nat=>andO (v3=.slice p.1 (n+1) p.2) (RowO 40 1 v3 (n+1) (RV ++ [x]))
 | _=>emp
def catY (B:Option Addr) (n d:Nat) (dv:List Value) (y v115:Value):List Value→CH.Own
 | []=>emp
 | [v]=>exO fun g:Nat=>andO (v=.slice (some ⟨g,0,none⟩) 2 2) (CellO g #[.slice B n d,v115] 40)
 | [_,v]=>exO fun p:Option Addr × Nat=>andO (v=.slice p.1 (n+1) p.2) (RowO 3 1 v (n+1) (dv ++ [y]))
 | _=>emp
theorem catX_ok {A:Option Addr} {n c:Nat} {RV:List Value} {x:Value}:∀ vs,(catX A n c RV x vs).Ok
 | []=>emp_ok
 | [_]=>exO_ok fun _=>andO_ok cell_ok
 | [_,_]=>exO_ok fun _=>andO_ok (star_ok cell_ok cell_ok)
 | [_,_,_]=>exO_ok fun _=>andO_ok row_ok
 | _ :: _ :: _ :: _ :: _=>emp_ok
theorem catY_ok {B:Option Addr} {n d:Nat} {dv:List Value} {y v115:Value}:∀ vs,(catY B n d dv y v115 vs).Ok
 | []=>emp_ok
 | [_]=>exO_ok fun _=>andO_ok cell_ok
 | [_,_]=>exO_ok fun _=>andO_ok row_ok
 | _ :: _ :: _ :: _=>emp_ok
section
variable {w0 W:World} {Z:CH.Own} {a:Act} {o:Oper} {Q:Exit→Act→World→Prop} {A B B':Option Addr} {n c d c':Nat} {RV dv:List Value} {x y:Value}
theorem cat_x1 {ox:Operand} (hop:o.op=.buildSlice 75 1 #[(0,ox)]) (hx:a.eval ox=x) (hb:∀ w:World,(Instr.buildSlice 75 1 #[(0,x)]).run Tryz.prog w=.ok (.slice (some ⟨w.heap.size,0,none⟩) 1 1) (w.alloc (.cells #[x] 40))) (hZ:Z.Ok) (h:Run (fun _=>False) w0 (star (catX A n c RV x []) Z) W) :
  o.wp Tryz.prog a W (fun a' w'=>∃ v,a'=a.put o.dst v∧Run (fun _=>False) w0 (star (catX A n c RV x ([] ++ [v])) Z) w') Q:=by
 refine wp_of_run (exec_build hop hx (hb W)) ⟨_,rfl,?_⟩
 exact run_mk (p:=fun g:Nat=>(Value.slice (some ⟨W.heap.size,0,none⟩) 1 1)=.slice (some ⟨g,0,none⟩) 1 1) W.heap.size rfl ((run_drop0 h).fresh hZ (cell_new W #[x] 40))
theorem cat_x2 {ox oy:Operand} {v1:Value} (hop:o.op=.buildSlice 185 2 #[(0,ox),(1,oy)]) (hx:a.eval ox=.slice A n c) (hy:a.eval oy=v1) (hZ:Z.Ok) (h:Run (fun _=>False) w0 (star (catX A n c RV x [v1]) Z) W) :
  o.wp Tryz.prog a W (fun a' w'=>∃ v,a'=a.put o.dst v∧Run (fun _=>False) w0 (star (catX A n c RV x ([v1] ++ [v])) Z) w') Q:=by
 obtain ⟨g,h1⟩:=run_ex h
 obtain ⟨rfl,h2⟩:=run_and h1
 refine wp_of_run (exec_build2 hop hx hy (run_build62 _ _ _ _ _ _ _ _ W rfl rfl)) ⟨_,rfl,?_⟩
 exact run_mk (p:=fun p:Nat × Nat=>(Value.slice (some ⟨g,0,none⟩) 1 1)=.slice (some ⟨p.1,0,none⟩) 1 1∧(Value.slice (some ⟨W.heap.size,0,none⟩) 2 2)=.slice (some ⟨p.2,0,none⟩) 2 2) (O:=fun p=>star (CellO p.1 #[x] 40) (CellO p.2 #[.slice A n c,.slice (some ⟨g,0,none⟩) 1 1] 75)) (g,W.heap.size) ⟨rfl,rfl⟩
  ((h2.fresh (star_ok cell_ok hZ) (cell_new W #[.slice A n c,.slice (some ⟨g,0,none⟩) 1 1] 75)).perm (by ac_rfl))
theorem cat_x3 {ox:Operand} {v1 v2:Value} (hop:o.op=.call { callee:=.value (.func 61),args:=#[ox],argTypes:=#[185] }) (hx:a.eval ox=v2) (h1:x.oneCell'=true) (hn:n≤100) (hRV:Src W A n 1 RV) (hZ:Z.Ok) (h:Run (fun _=>False) w0 (star (catX A n c RV x [v1,v2]) Z) W) :
  o.wp Tryz.prog a W (fun a' w'=>∃ v,a'=a.put o.dst v∧Run (fun _=>False) w0 (star (catX A n c RV x ([v1,v2] ++ [v])) Z) w') Q:=by
 obtain ⟨⟨g,g2⟩,e1⟩:=run_ex h
 obtain ⟨⟨rfl,rfl⟩,e2⟩:=run_and e1
 have e3:=e2.assoc
 obtain ⟨F1,hC1⟩:=e3.fst
 obtain ⟨F2,hC2⟩:=e3.rot.fst
 have hM:=matx_two (src_two hC2 rfl rfl) hRV (Src.one hC1.1 h1)
 have hl:RV.length=n:=by have:=hRV.1;omega
 have hfl:fla [RV,[x]]=RV ++ [x]:=by simp [fla]
 have K:=concatR_any (c:=2) hM (by simp) (by rw [hfl];simp;omega)
 refine wp_enter (exec_call31 hop hx W) (K.mono ?_)
 rintro e w' ⟨A5,c5,rfl,hP⟩
 rw [hfl,List.length_append,hl] at hP
 exact ⟨_,by rw [hfl,List.length_append,hl];rfl,_,rfl,run_mk (p:=fun p:Option Addr × Nat=>(Value.slice A5 (n+1) c5)=.slice p.1 (n+1) p.2) (A5,c5) rfl (e3.drop.drop.fresh hZ hP)⟩
theorem cat_y1 {ox oy:Operand} (hop:o.op=.buildSlice 75 2 #[(0,ox),(1,oy)]) (hx:a.eval ox=.slice B n d) (hy:a.eval oy=.slice B' 1 c') (hZ:Z.Ok) (h:Run (fun _=>False) w0 (star (catY B n d dv y (.slice B' 1 c') []) Z) W) :
  o.wp Tryz.prog a W (fun a' w'=>∃ v,a'=a.put o.dst v∧Run (fun _=>False) w0 (star (catY B n d dv y (.slice B' 1 c') ([] ++ [v])) Z) w') Q:=by
 refine wp_of_run (exec_build2 hop hx hy (run_build22_2 _ _ _ _ _ _ _ _ W rfl rfl)) ⟨_,rfl,?_⟩
 exact run_mk (p:=fun g:Nat=>(Value.slice (some ⟨W.heap.size,0,none⟩) 2 2)=.slice (some ⟨g,0,none⟩) 2 2) W.heap.size rfl ((run_drop0 h).fresh hZ (cell_new W #[.slice B n d,.slice B' 1 c'] 40))
theorem cat_y2 {ox:Operand} {v1:Value} (hop:o.op=.call { callee:=.value (.func 62),args:=#[ox],argTypes:=#[75] }) (hx:a.eval ox=v1) (hn:n≤100) (hdv:Src W B n 1 dv) (hy:Src W B' 1 1 [y]) (hZ:Z.Ok) (h:Run (fun _=>False) w0 (star (catY B n d dv y (.slice B' 1 c') [v1]) Z) W) :
  o.wp Tryz.prog a W (fun a' w'=>∃ v,a'=a.put o.dst v∧Run (fun _=>False) w0 (star (catY B n d dv y (.slice B' 1 c') ([v1] ++ [v])) Z) w') Q:=by
 obtain ⟨g,e1⟩:=run_ex h
 obtain ⟨rfl,e3⟩:=run_and e1
 obtain ⟨F2,hC2⟩:=e3.fst
 have hM:=matx_two (src_two hC2 rfl rfl) hdv hy
 have hl:dv.length=n:=by have:=hdv.1;omega
 have hfl:fla [dv,[y]]=dv ++ [y]:=by simp [fla]
 have K:=concatI_any (c:=2) hM (by simp) (by rw [hfl];simp;omega)
 refine wp_enter (exec_call32 hop hx W) (K.mono ?_)
 rintro e w' ⟨A5,c5,rfl,hP⟩
 rw [hfl,List.length_append,hl] at hP
 exact ⟨_,by rw [hfl,List.length_append,hl];rfl,_,rfl,run_mk (p:=fun p:Option Addr × Nat=>(Value.slice A5 (n+1) c5)=.slice p.1 (n+1) p.2) (A5,c5) rfl (e3.drop.fresh hZ hP)⟩

theorem cat_end {R:CH.Own} {v1 v2 v3 u1 u2:Value} (h:Run (fun _=>False) w0 (star (catX A n c RV x [v1,v2,v3]) (star (catY B n d dv y (.slice B' 1 c') [u1,u2]) R)) W) :
  ∃ A5 c5 B5 d5,v3=.slice A5 (n+1) c5∧u2=.slice B5 (n+1) d5∧Run (fun _=>False) w0 (star (RowO 40 1 (.slice A5 (n+1) c5) (n+1) (RV ++ [x])) (star (RowO 3 1 (.slice B5 (n+1) d5) (n+1) (dv ++ [y])) R)) W:=by
 obtain ⟨⟨A5,c5⟩,e1⟩:=run_ex h
 obtain ⟨rfl,e2⟩:=run_and e1
 obtain ⟨⟨B5,d5⟩,e3⟩:=run_ex e2.rot
 obtain ⟨rfl,e4⟩:=run_and e3
 exact ⟨A5,c5,B5,d5,rfl,rfl,e4.rot⟩
end

theorem run_cut1 (bd od n d i:Nat) (hi:i < n) (hn:n≤d) (w:World):(Instr.slice 40 (.slice (some ⟨bd,od,none⟩) n d) (some (.int .i64 (i:Int))) (some (.int .i64 ((i:Int)+1))) none).run Tryz.prog w=.ok (.slice (some ⟨bd,od+i,none⟩) 1 (d - i)) w:=by
 obtain ⟨ht,hinf,hz,hsz⟩:=intsOk
 obtain ⟨inf,hinf,hi1,hi2,hi3⟩:=info_parts hinf
 have h0:(0:Int)≤i:=by omega
 have h1:(0:Int)≤(i:Int)+1:=by omega
 have h2:((i:Int)+1).toNat=i+1:=by omega
 have h3:(i:Int)+1≤(d:Int):=by omega
 have h4:(i:Int)≤(i:Int)+1:=by omega
 have h5:i≠d:=by omega
 have h6:i+1 - i=1:=by omega
 have h7:¬ d≤i:=by omega
 have h8:¬ d=i:=by omega
 have h9:d - i≠0:=by omega
 simp [Instr.slice,run_underlying ht,Instr.sliceBounds,Instr.sliceBound,asIntOf,sizeOf,typeInfo,hinf,hi2,Addr.add,h0,h1,h2,h3,h4,h5,h6,h7,h8,h9]

theorem puts_size:∀ (ds:List Nat) (vs:List Value) (a:Act),(puts a ds vs).tmps.size=a.tmps.size
 | [],_,_=>by simp [puts]
 | _ :: _,[],_=>rfl
 | e :: ds,u :: vs,a=>by
  simp only [puts]
  rw [puts_size ds vs]
  simp [Act.put]
theorem best_v3 {w0 W:World} {X:CH.Own} {g6 ga:Nat} {k:Int} {A1 A2 A3:Option Addr} {c1 c2 c3:Nat} {ps us vs:List Int} (hX:X.Ok)
  (h:Run (fun _=>False) w0 (star (VecO A3 c3 vs) (star (BestO g6 ga k A1 A2 none c1 c2 0 ps us []) X)) W) :
  Run (fun _=>False) w0 (star (BestO g6 ga k A1 A2 A3 c1 c2 c3 ps us vs) X) (W.setCell ⟨ga,3,none⟩ (.slice A3 vs.length c3)):=by
 unfold BestO at h
 have h1:=(h.perm (by ac_rfl:_=star (VecO none 0 []) (star (VecO A3 c3 vs) (star (VecO A1 c1 ps) (star (VecO A2 c2 us) (star (CellO ga #[.int .i64 k,.slice A1 ps.length c1,.slice A2 us.length c2,.slice none 0 0] 85) (star (CellO g6 zeroA 85) X))))))).drop
 have h2:=cell_put (star_ok vec_ok (star_ok vec_ok (star_ok vec_ok (star_ok cell_ok hX)))) (h1.perm (by ac_rfl:_=star (CellO ga #[.int .i64 k,.slice A1 ps.length c1,.slice A2 us.length c2,.slice none 0 0] 85) (star (VecO A3 c3 vs) (star (VecO A1 c1 ps) (star (VecO A2 c2 us) (star (CellO g6 zeroA 85) X)))))) 3 (.slice A3 vs.length c3) (cs':=#[.int .i64 k,.slice A1 ps.length c1,.slice A2 us.length c2,.slice A3 vs.length c3]) rfl
 unfold BestO
 exact h2.perm (by ac_rfl)

theorem vec_put {w0 W:World} {Y:CH.Own} {b c i:Nat} {l:List Int} {x:Int} (hY:Y.Ok) (hi:i < l.length) (h:Run (fun _=>False) w0 (star (VecO (some ⟨b,0,none⟩) c l) Y) W):Run (fun _=>False) w0 (star (VecO (some ⟨b,0,none⟩) c (l.set i x)) Y) (W.setCell ⟨b,i,none⟩ (.int .i64 x)):=by
 obtain ⟨F,hV,-,bk⟩:=h.take vec_ok hY
 have h1:=row_set hV (i:=i) (by omega) (.int .i64 x)
 have e:(ints l).set i (.int .i64 x)=ints (l.set i x):=by simp [ints,List.map_set]
 rw [e] at h1
 have h2:=bk (VecO (some ⟨b,0,none⟩) c (l.set i x)) _ (by unfold VecO;rw [List.length_set];exact h1)
 exact h2
theorem map_upd {m y:Nat} (f g:Nat→Int) (hy:y < m):((List.range m).map (fun t=>if t < y then g t else f t)).set y (g y)=(List.range m).map (fun t=>if t < y+1 then g t else f t):=by
 refine List.ext_getElem (by simp) fun i h1 h2=>?_
 rw [List.getElem_set]
 simp only [List.getElem_map,List.getElem_range]
 by_cases e:y=i
 ·subst e;simp
 ·rw [if_neg e]
  by_cases h:i < y
  ·rw [if_pos h,if_pos (by omega)]
  ·rw [if_neg h,if_neg (by omega)]

theorem best_b3 {w0 W:World} {X:CH.Own} {g6 ga n:Nat} {k:Int} {A1 A2 A3:Option Addr} {c1 c2 c3:Nat} {ps us vs:List Int} (hn:n=vs.length)
  (h:Run (fun _=>False) w0 (star (VecO A3 c3 vs) (star (VecO A1 c1 ps) (star (VecO A2 c2 us) (star (CellO ga #[.int .i64 k,.slice A1 ps.length c1,.slice A2 us.length c2,.slice A3 n c3] 85) (star (CellO g6 zeroA 85) X))))) W) :
  Run (fun _=>False) w0 (star (BestO g6 ga k A1 A2 A3 c1 c2 c3 ps us vs) X) W:=by
 subst hn
 unfold BestO
 exact h.perm (by ac_rfl)
end Go.Proofs.YtbnnlpjpnihheaaGreatDoor.Asn
namespace Go.Proofs.YtbnnlpjpnihheaaGreatDoor.Asn
open Go.RowKit Go.CH Go.CH.Asg
open Go.ChangeMaps (setBlock)
theorem tab_ro {w0 W:World} {X:CH.Own} {g N:Nat} {f:Nat→Int} (h:Run (fun _=>False) w0 (star X (TabO g N f)) W) {k:Nat} (hk:k < N*64):W.cell? ⟨g,k,none⟩=some (.int .i64 (f k)):=by
 obtain ⟨F,hF⟩:=h.swap.fst
 exact tab_at hF hk
theorem TB_zero (c:Nat→Nat→Int) (d e:Nat→Int) (n m:Nat):TB c d e n m 0 0=bcost c d e n m:=by unfold TB bcost;rw [Nat.sub_zero,bt_zero]
set_option maxRecDepth 100000 in
set_option maxHeartbeats 12800000 in
theorem best_any {w:World} {A B G:Option Addr} {V:List (Option Addr × Nat)} {c d e:Nat} {C:List (List Int)} {D E:List Int} (h:Mat w A C V) (hl:C.length≤maxLen) (hD:Vec w B D) (hE:Vec w G E) (hdc:D.length≤d) :
  Calls Tryz.prog 33 #[.slice A C.length c,.slice B D.length d,.slice G E.length e] w (BestRet w C D E):=by
 have hb0:Below w.heap.size w (w.alloc (.cells zeroA 85)):=(Below.refl _ _).alloc (Nat.le_refl _) _
 have KV:=hide (valid_any (c:=c) (d:=d) (e:=e) (h.below hb0) hl (hD.below hb0) (hE.below hb0))
 have HP:=hide (fun hv=>prb_of (w:=w) (C:=C) (D:=D) (E:=E) hv h hD hE)
 have R0:Hid (Run (fun _=>False) w (CellO w.heap.size zeroA 85) _):=hide (((Run.begin w).fresh emp_ok (cell_new w zeroA 85)).imp fun _ _ h=>star_emp h)
 unfold zeroA at KV R0
 clear h hD hE hb0 hl
 cases hv:vld C D E with
 | false =>
  have HR:=hide (show ∀ w':World,Below w.heap.size w w'→BestRet w C D E (.returned (.tuple #[.agg #[.int .i64 0,.slice none 0 0,.slice none 0 0,.slice none 0 0],.int .i64 1])) w' from fun w' hb=>⟨_,by rw [hv];rfl,hb,by rw [hv];exact ⟨none,none,none,0,0,0,rfl,Src.none_,Src.none_,Src.none_⟩⟩)
  rw [hv] at KV
  obtain ⟨g6,HG6⟩:∃ g6,Hid (w.heap.size=g6):=⟨_,hide rfl⟩
  clear HP hv hdc
  go_enter Tryz.func33,Tryz.ntmps33
  go_wp2
  go_step3
  go_wp2_with fail
  refine KV.out.mono ?_
  rintro e9 w1 ⟨rfl,hb1⟩
  have R1:=hide (R0.out.below cell_ok hb1)
  obtain ⟨F,hC⟩:=R1.out.get
  have z0:=cell_at hC (i:=0) rfl
  have z1:=cell_at hC (i:=1) rfl
  have z2:=cell_at hC (i:=2) rfl
  have z3:=cell_at hC (i:=3) rfl
  have f0:=cell_free hC 0
  have f1:=cell_free hC 1
  have f2:=cell_free hC 2
  have f3:=cell_free hC 3
  have R2:=hide (res_zero R1.out)
  rw [HG6.out] at HR R2 z0 z1 z2 z3 f0 f1 f2 f3 ⊢
  clear hC hb1 KV R1 R0
  go_wp2
  try rw [Exit.noGoto_ret]
  refine bodyPost_ret_by (res_cell_tmp rfl _ _ g6 85 #[.int .i64 0,.slice none 0 0,.slice none 0 0,.slice none 0 0] (0,0) rfl ?_ Tryz.underlying85 (by kernel_rfl)) rfl ?_
  ·obtain ⟨F,hC⟩:=R2.out.get
   exact hC.1
  ·exact HR.out _ (by have:=R2.out.bel;rwa [HG6.out] at this)
 | true =>
  rw [hv] at KV
  have hP:=HP.out hv
  have hn6:=hP.n6
  have hm6:=hP.m6
  obtain ⟨nc,hnc⟩:∃ n,n=C.length:=⟨_,rfl⟩
  obtain ⟨n,hn⟩:∃ n,n=D.length:=⟨_,rfl⟩
  obtain ⟨m,hm⟩:∃ n,n=E.length:=⟨_,rfl⟩
  have hnn:nc=n:=by rw [hnc,hn];exact hP.hn
  have HRET:=hide (show ∀ (v:Value) (w':World),Below w.heap.size w w'→AsgV w' v (bestM C D E)→BestRet w C D E (.returned (.tuple #[v,.int .i64 0])) w' from fun v w' hb ha=>⟨v,by rw [hv];rfl,hb,by rw [hv];exact ha⟩)
  have HBM:=hide (show bestM C D E=⟨bcost (cF C) (lF D) (lF E) n m,bps (cF C) (lF D) (lF E) n m,bus (cF C) (lF D) (lF E) n m,bvs (cF C) (lF D) (lF E) n m⟩ by rw [hn,hm];rfl)
  rw [←hn,←hm] at hP
  rw [←hn] at hn6
  have hdn:n≤d:=by rw [hn];exact hdc
  clear hdc
  rw [←hm] at hm6
  have HQ:=hide hP.q
  rw [←hnc,←hn,←hm] at KV
  rw [←hnc,←hn,←hm]
  subst hnn
  clear HP hv hP hnc hn hm
  generalize cF C=cc at *
  generalize lF D=dd at *
  generalize lF E=ee at *
  have hKb:=L_bnd HQ.out (Nat.le_refl nc) noU
  have HK0:=hide (show bcost cc dd ee nc m=L cc dd ee nc m nc noU from rfl)
  rw [←HK0.out] at hKb
  obtain ⟨K,hK⟩:∃ K,K=bcost cc dd ee nc m:=⟨_,rfl⟩
  rw [←hK] at hKb HK0
  have HKK:=hide hK
  have hM:=pow_le hm6
  have hM1:0 < 1 <<< m:=by rw [Nat.one_shiftLeft];exact Nat.pow_pos (by decide)
  have HPW:=hide (fun s j hs hj=>pow_lt (m:=m) (s:=s) (j:=j) hm6 hs hj)
  clear hK
  go_enter Tryz.func33,Tryz.ntmps33
  go_wp2
  go_step3
  go_wp2_with fail
  refine KV.out.mono ?_
  rintro e9 w1 ⟨rfl,hb1⟩
  have R1:=hide (R0.out.below cell_ok hb1)
  have KT:=hide (table_any (HQ.out.below R1.out.bel) c d e)
  clear hb1 R0 KV
  go_wp2_with fail
  refine KT.out.mono ?_
  rintro e9 w2 ⟨gt,rfl,hP2⟩
  have R2:=R1.out.fresh cell_ok hP2
  obtain ⟨M,HMe⟩:∃ M,Hid (1 <<< m=M):=⟨_,hide rfl⟩
  rw [HMe.out] at hM hM1 HPW R2
  obtain ⟨F,hF⟩:=R2.fst
  have c00:=tab_at hF (k:=0) (by omega)
  rw [show (0:Nat)=0*64+0 from rfl,tabF_at hM hM1 (.inr ⟨rfl,hM1⟩),TB_zero,←HKK.out] at c00
  simp only [Nat.zero_mul,Nat.add_zero] at c00
  have R3:=(R2.fresh (star_ok tab_ok cell_ok) (cell_new w2 #[.int .i64 K,.slice none 0 0,.slice none 0 0,.slice none 0 0] 85))
  have R4:=hide (show Run (fun _=>False) w (star (BestO w.heap.size w2.heap.size K none none none 0 0 0 [] [] []) (TabO gt (nc+1) (tabF cc dd ee nc m M 0 M))) _ from
   (R3.perm (by ac_rfl:_=star (star (CellO w2.heap.size #[.int .i64 K,.slice none 0 0,.slice none 0 0,.slice none 0 0] 85) (CellO w.heap.size #[.int .i64 0,.slice none 0 0,.slice none 0 0,.slice none 0 0] 85)) (TabO gt (nc+1) (tabF cc dd ee nc m M 0 M)))).imp fun W F hh=>star_mono hh (fun F hh=>by
   unfold BestO
   exact ⟨fun _=>False,F,vec_nil W,⟨fun _=>False,F,vec_nil W,⟨fun _=>False,F,vec_nil W,hh,fun _ h=>h.elim,fun i=>by simp⟩,fun _ h=>h.elim,fun i=>by simp⟩,fun _ h=>h.elim,fun i=>by simp⟩) (fun _ h=>h))
  obtain ⟨g6,HG6⟩:∃ g6,Hid (w.heap.size=g6):=⟨_,hide rfl⟩
  have tn0:(0:Int) < (nc:Int)+1:=by omega
  clear hP2 R2 R3 hF KT R1
  go_wp2_with fail
  rw [HG6.out] at HRET R4 ⊢
  generalize w2.heap.size=ga at *
  clear c00 tn0
  go_wp2
  go_step3
  go_wp2
  go_loopg [10,38] nc (fun g1 s i wr=>∃ (k set:Nat) (A1:Option Addr) (c1:Nat) (ps:List Int),k+g1=nc∧s=.int .i64 set∧set < M∧i=.int .i64 k∧ps.length=k∧bps cc dd ee nc m=ps ++ gr cc dd ee nc m (nc - k) (bt set)∧Run (fun _=>False) w (star (BestO g6 ga K A1 none none c1 0 0 ps [] []) (TabO gt (nc+1) (tabF cc dd ee nc m M 0 M))) wr)
  case atStart=>exact ⟨0,0,none,0,[],Nat.zero_add _,rfl,hM1,rfl,rfl,by rw [bt_zero];rfl,R4.out⟩
  case round =>
   obtain ⟨k,set,A1,c1,ps,hg1,rfl,hset,rfl,hpl,hg,hR⟩:=hrel
   have HR:=hide hR
   have HPL:=hide hpl
   have HG:=hide hg
   clear hR hpl hg R4
   cases gk with
   | succ g1 =>
    have hlt:k < nc:=by omega
    obtain ⟨a,ha⟩:∃ a,nc=a+1+k:=⟨nc - k - 1,by omega⟩
    have hnk:nc - k=a+1:=by omega
    have hna:nc - (a+1)=k:=by omega
    have HNK:=hide (show nc - (k+1)=a by omega)
    have ha6:a≤6:=by omega
    rw [hnk] at HG
    have HHIT:=hide (fun (j:Nat) hj hp hb=>gr_hit (c:=cc) (d:=dd) (e:=ee) (n:=nc) (m:=m) (a:=a) (j:=j) (U:=bt set) hj hp hb)
    have HMISS:=hide (fun hb=>gr_miss (c:=cc) (d:=dd) (e:=ee) (n:=nc) (m:=m) (a:=a) (U:=bt set) hb)
    have HTST:=hide (fun j=>show tst cc dd ee nc m a (bt set) j=(!bt set j && decide (cc k j+TB cc dd ee nc m (k+1) (set ||| 1 <<< j)=TB cc dd ee nc m k set)) by
     unfold tst TB;rw [hna,hnk,show nc - (k+1)=a by omega,bt_or])
    have HLB:=hide (fun s=>show 0≤TB cc dd ee nc m (k+1) s∧TB cc dd ee nc m (k+1) s≤200000 by
     have:=L_bnd HQ.out (show nc - (k+1)≤nc by omega) (bt s);unfold TB;omega)
    clear hnk hna ha
    obtain ⟨ba,oa,RR,cR,rfl,hca,hrow⟩:=HQ.out.R k hlt
    have HROWS:=hide hrow
    have c0:=hca _ HR.out.bel
    clear hca hrow
    go_wp2
    go_loopg [10,45] m (fun g2 s x wr=>∃ j:Nat,j+g2=m∧s=.int .i64 set∧x=.int .i64 j∧(∀ t,t < j→tst cc dd ee nc m a (bt set) t=false)∧Run (fun _=>False) w (star (BestO g6 ga K A1 none none c1 0 0 ps [] []) (TabO gt (nc+1) (tabF cc dd ee nc m M 0 M))) wr)
    case atStart=>exact ⟨0,Nat.zero_add _,rfl,rfl,fun t ht=>absurd ht (Nat.not_lt_zero t),HR.out⟩
    case round =>
     obtain ⟨j,hg2,rfl,rfl,hno,hR⟩:=hrel
     have HNO:=hide hno
     have HRI:=hide hR
     clear HR hR hno c0
     cases gk with
     | succ g2 =>
      have hjt:j < m:=by omega
      obtain ⟨b',o',rfl,hcc⟩:=HROWS.out j hjt
      have hcb:=HQ.out.cb k hlt j hjt
      have HCC:=hide hcc
      have c5:=hcc _ HRI.out.bel
      have HT1:=hide (HTST.out j)
      obtain ⟨q,hq1,hq2⟩:=bit_of set j (by omega)
      have hlb:=HLB.out (set ||| 1 <<< j)
      have HRD:=hide (HRI.out.drew (star_ok best_ok tab_ok))
      clear hcc
      cases hu:bt set j with
      | true =>
       rw [hu] at hq2 HT1
       simp only [if_true] at hq2
       have HNO2:=hide (show ∀ t,t < j+1→tst cc dd ee nc m a (bt set) t=false from fun t ht=>by
        by_cases e:t=j
        ·subst e;rw [HT1.out];rfl
        ·exact HNO.out t (by omega))
       clear hu HT1 HNO HRI
       go_wp2_with fail
       refine wp_region_lex (fun w'=>w'=wr.drew) (by kernel_rfl) (by kernel_rfl) rfl ?_
       generalize wr.drew=wd at *
       (repeat ((first | refine lex_skip (by rfl) ?_ | (refine lex_read (v:=?_) (by rfl) ?_ ?_;rotate_left;(focus (intro w' hS';go_simp;(try with_reducible rfl);done))));try simp only [Act.put,List.setIfInBounds_toArray,List.set_cons_zero,List.set_cons_succ]))
       refine lex_nil ?_
       clear hq1 hq2 c5
       go_wp2
       go_roundg g2
       case measure=>omega
       case rel=>exact ⟨j+1,by omega,rfl,by go_num,HNO2.out,HRD.out⟩
      | false =>
       rw [hu] at hq2 HT1
       simp only [Bool.false_eq_true,if_false] at hq2
       obtain ⟨p,hp1,hp2,hp3⟩:=or_of set j (by omega) (by omega)
       have hlt2:=HPW.out set j hset hjt
       have k1:=tab_ro HRD.out (k:=(k+1)*64+(set ||| 1 <<< j)) (by omega)
       rw [tabF_at hM hlt2 (.inl (by omega))] at k1
       have k2:=tab_ro HRD.out (k:=k*64+set) (by omega)
       rw [tabF_at hM hset (by omega)] at k2
       have HBO:=hide (bt_or set j)
       generalize set ||| 1 <<< j=so at *
       have HTX:=hide (show ∃ x,x=TB cc dd ee nc m (k+1) so from ⟨_,rfl⟩)
       obtain ⟨T1,hT1⟩:=HTX.out
       rw [←hT1] at k1 HT1 hlb
       generalize TB cc dd ee nc m k set=T0 at *
       have t1:IntKind.i64.wrap ((k:Int)+1)=((k+1:Nat):Int):=by rw [IntWalk.i64_in _ (by omega)];omega
       have t2:IntKind.i64.wrap (cc k j+T1)=cc k j+T1:=IntWalk.i64_in _ (by omega)
       have ti:(0:Int)≤(k:Int)+1:=by omega
       have ti2:(k:Int) < (nc:Int)+1:=by omega
       have ts:(so:Int) < 64:=by omega
       have ts2:(set:Int) < 64:=by omega
       clear hu hT1 HTX HRI
       by_cases heq:cc k j+T1=T0
       ·have HH:=HHIT.out j hjt (by rw [HT1.out];simp [heq]) HNO.out
        have HG2:=hide (split_gr (qs:=[]) HG.out HH.1)
        rw [←HBO.out] at HG2
        have t3:(cc k j+T1 == T0)=true:=by simpa using heq
        have t4:IntKind.i64.wrap T0=T0:=IntWalk.i64_in _ (by omega)
        clear HH HT1 hlb
        go_wp2_with fail
        refine wp_region_lex (fun w'=>w'=wr.drew) (by kernel_rfl) (by kernel_rfl) rfl ?_
        generalize wr.drew=wx at *
        (repeat ((first | refine lex_skip (by rfl) ?_ | (refine lex_read (v:=?_) (by rfl) ?_ ?_;rotate_left;(focus (intro w' hS';go_simp;(try with_reducible rfl);done))));try simp only [Act.put,List.setIfInBounds_toArray,List.set_cons_zero,List.set_cons_succ]))
        refine lex_nil ?_
        have HRB:=hide HRD.out
        obtain ⟨b0,b1,b2,b3,bf⟩:=best_cells HRB.out
        have bf1:=bf 1
        clear t1 t2 t3 t4 ti ti2 ts ts2 k1 k2 heq hq1 hq2 c5 b0 b2 b3 bf HRD HNO HBO
        go_wp2_with (at_builtin;refine held ?_)
        obtain ⟨F7,hR7,-,bk7⟩:=(best_p1 (HRB.out.below (star_ok best_ok tab_ok) ((Below.refl _ _).alloc (Nat.le_refl _) (.cells #[.int .i64 j] 3)))).take vec_ok (oks5 vec_ok vec_ok cell_ok cell_ok tab_ok)
        refine Held.mk (wpList_app rfl (.tmp 77) (.tmp 79) rfl intsOk _ 0 (v:=.slice A1 ps.length c1) (n:=ps.length) (xs:=ints ps) rfl hR7.1 (A:=some ⟨wx.heap.size,0,none⟩) (m:=1) (c:=1) (news:=[.int .i64 j]) rfl (src_lit wx j) (by rw [HPL.out];omega) (by decide) (Nat.zero_le _) ?_)
        intro v8 w8 ho8 hg8 hv8
        have S8:=bk7 _ _ (row_app hR7 ho8 hg8 hv8)
        obtain ⟨A8,c8,rfl⟩:=own_form ho8
        obtain ⟨FC,hC⟩:=(S8.perm (by ac_rfl:_=star (CellO ga #[.int .i64 K,.slice A1 ps.length c1,.slice none 0 0,.slice none 0 0] 85) (star (RowO 3 1 (.slice A8 (ps.length+1) c8) (ps.length+1) (ints ps ++ [.int .i64 j])) (star (VecO none 0 []) (star (VecO none 0 []) (star (CellO g6 zeroA 85) (TabO gt (nc+1) (tabF cc dd ee nc m M 0 M)))))))).fst
        have x1:=cell_at hC (i:=1) rfl
        have f1:=cell_free hC 1
        have S9:=hide (best_ps tab_ok S8)
        clear ho8 hg8 hv8 bk7 hR7 HRB S8 hC
        go_wp2
        go_roundg g1
        case measure=>omega
        case rel=>exact ⟨k+1,so,A8,c8,ps ++ [((j:Nat):Int)],by omega,by go_num,hlt2,by go_num,by rw [List.length_append,HPL.out];rfl,by rw [HNK.out];exact HG2.out,S9.out⟩
       ·have HNO2:=hide (show ∀ t,t < j+1→tst cc dd ee nc m a (bt set) t=false from fun t ht=>by
         by_cases e:t=j
         ·subst e;rw [HT1.out];simp [heq]
         ·exact HNO.out t (by omega))
        have t3:(cc k j+T1 == T0)=false:=by simpa using heq
        clear HT1 hlb HNO heq
        go_wp2_with fail
        refine wp_region_lex (fun w'=>w'=wr.drew) (by kernel_rfl) (by kernel_rfl) rfl ?_
        generalize wr.drew=wd at *
        (repeat ((first | refine lex_skip (by rfl) ?_ | (refine lex_read (v:=?_) (by rfl) ?_ ?_;rotate_left;(focus (intro w' hS';go_simp;(try with_reducible rfl);done))));try simp only [Act.put,List.setIfInBounds_toArray,List.set_cons_zero,List.set_cons_succ]))
        refine lex_nil ?_
        clear t1 t2 t3 ti ti2 ts ts2 k1 k2 hq1 hq2 c5 hp1 hp2 hp3
        go_wp2
        go_roundg g2
        case measure=>omega
        case rel=>exact ⟨j+1,by omega,rfl,by go_num,HNO2.out,HRD.out⟩
     | zero =>
      obtain rfl:j=m:=by omega
      have HM:=HMISS.out HNO.out
      have HG2:=hide (split_gr (qs:=[]) HG.out HM.1)
      have HRB:=hide HRI.out
      obtain ⟨b0,b1,b2,b3,bf⟩:=best_cells HRB.out
      have bf1:=bf 1
      generalize wr=wx at *
      clear HM bf b0 b2 b3 HRI HNO
      go_wp2_with (at_builtin;refine held ?_)
      obtain ⟨F7,hR7,-,bk7⟩:=(best_p1 (HRB.out.below (star_ok best_ok tab_ok) ((Below.refl _ _).alloc (Nat.le_refl _) (.cells #[.int .i64 j] 3)))).take vec_ok (oks5 vec_ok vec_ok cell_ok cell_ok tab_ok)
      refine Held.mk (wpList_app rfl (.tmp 88) (.tmp 91) rfl intsOk _ 0 (v:=.slice A1 ps.length c1) (n:=ps.length) (xs:=ints ps) rfl hR7.1 (A:=some ⟨wx.heap.size,0,none⟩) (m:=1) (c:=1) (news:=[.int .i64 j]) rfl (src_lit wx j) (by rw [HPL.out];omega) (by decide) (Nat.zero_le _) ?_)
      intro v8 w8 ho8 hg8 hv8
      have S8:=bk7 _ _ (row_app hR7 ho8 hg8 hv8)
      obtain ⟨A8,c8,rfl⟩:=own_form ho8
      obtain ⟨FC,hC⟩:=(S8.perm (by ac_rfl:_=star (CellO ga #[.int .i64 K,.slice A1 ps.length c1,.slice none 0 0,.slice none 0 0] 85) (star (RowO 3 1 (.slice A8 (ps.length+1) c8) (ps.length+1) (ints ps ++ [.int .i64 j])) (star (VecO none 0 []) (star (VecO none 0 []) (star (CellO g6 zeroA 85) (TabO gt (nc+1) (tabF cc dd ee nc j M 0 M)))))))).fst
      have x1:=cell_at hC (i:=1) rfl
      have f1:=cell_free hC 1
      have S9:=hide (best_ps tab_ok S8)
      clear ho8 hg8 hv8 bk7 hR7 HRB S8 hC
      go_wp2
      go_roundg g1
      case measure=>omega
      case rel=>exact ⟨k+1,set,A8,c8,ps ++ [((j:Nat):Int)],by omega,by go_num,hset,by go_num,by rw [List.length_append,HPL.out];rfl,by rw [HNK.out];exact HG2.out,S9.out⟩
   | zero =>
    obtain rfl:k=nc:=by omega
    have HPS:=hide (show bps cc dd ee k m=ps by rw [HG.out,Nat.sub_self];exact List.append_nil ps)
    clear HG hg1
    obtain ⟨X,hX⟩:∃ X,X=TabO gt (k+1) (tabF cc dd ee k m M 0 M):=⟨_,rfl⟩
    rw [←hX] at HR
    have HXO:=hide (show X.Ok by rw [hX];exact tab_ok)
    obtain ⟨RV,hRV,hrow⟩:=HQ.out.rows
    have HRV:=hide hRV
    have HROW:=hide hrow
    have HRL:=hide (show RV.length=k by have:=hRV.1;omega)
    have HDS:=hide HQ.out.ds
    have hvg:Vec wr G ((List.range m).map ee):=by
     unfold Vec
     have e1:ints ((List.range m).map ee)=fv m (fun j=>.int .i64 (ee j)):=by simp [ints,fv]
     rw [e1,List.length_map,List.length_range]
     exact src_below HQ.out.es HR.out.bel
    have KC:=hide (clone_any (c:=e) hvg (by simp;omega))
    rw [List.length_map,List.length_range] at KC
    have hM8:M≤64:=hM
    clear hX hRV hrow hvg HPW
    go_wp2_with fail
    refine KC.out.mono ?_
    rintro e9 w3 ⟨A3,c3,rfl,hP3⟩
    have R5:=HR.out.fresh (star_ok best_ok HXO.out) hP3
    have HVS:=hide (show ∃ vs:List Int,vs=(List.range m).map ee∧vs.length=m from ⟨_,rfl,by simp⟩)
    obtain ⟨vs,hvs,hvl⟩:=HVS.out
    rw [←hvs] at R5
    have R6:Run (fun _=>False) w (star (VecO A3 c3 vs) (star (BestO g6 ga K A1 none none c1 0 0 ps [] []) X)) w3:=by
     have e1:RowO 3 1 (.slice A3 m c3) m (ints vs)=VecO A3 c3 vs:=by unfold VecO;rw [hvl]
     rw [←e1];exact R5
    obtain ⟨b0,b1,b2,b3,bf⟩:=best_cells R6.drop
    have bf3:=bf 3
    have R7:=hide (best_v3 HXO.out R6)
    rw [hvl] at R7
    have HVL:=hide hvl
    have HVE:=hide hvs
    clear hP3 R5 R6 HVS hvs hvl KC HR b0 b1 b2 bf
    go_wp2
    clear b3 bf3
    go_loopg [100] k (fun g1 i wr=>∃ (j:Nat) (A2:Option Addr) (c2:Nat) (us vs:List Int),j+g1=k∧i=.int .i64 j∧us.length=j∧us=(List.range j).map (buF cc dd ee k m)∧vs.length=m∧vs=(List.range m).map (fun y=>mnl noU (fun i=>cc i y - buF cc dd ee k m i) (ee y) j)∧Run (fun _=>False) w (star (BestO g6 ga K A1 A2 A3 c1 c2 c3 ps us vs) X) wr)
    case atStart=>exact ⟨0,none,0,[],vs,Nat.zero_add _,rfl,rfl,rfl,HVL.out,HVE.out,R7.out⟩
    case round =>
     obtain ⟨j,A2,c2,us,vs2,hg1,rfl,hul,hue,hvl2,hve2,hR⟩:=hrel
     have HRB:=hide hR
     have HUL:=hide hul
     have HUE:=hide hue
     have HVL2:=hide hvl2
     have HVE2:=hide hve2
     clear hR hul hue hvl2 hve2 R7 HVL HVE
     cases gk with
     | succ g1 =>
      have hjt:j < k:=by omega
      have HRD:=hide (HRB.out.drew (star_ok best_ok HXO.out))
      obtain ⟨ba,oa,RR,cR,rfl,hca,hrr⟩:=HQ.out.R j hjt
      have HRR:=hide hrr
      have HXV:=hide (show RV[j]?=some (.slice RR m cR) by
       obtain ⟨R9,cp9,e9,-⟩:=HROW.out j hjt
       obtain ⟨b9,o9,e8,e7⟩:=src_open HRV.out hjt e9
       have h1:=e7 w (Below.refl _ _)
       injection e8 with e8;injection e8 with e81 e82
       subst e81 e82
       rw [hca w (Below.refl _ _)] at h1
       rw [e9,←Option.some.inj h1])
      have c0:=hca _ HRB.out.bel
      obtain ⟨bd,od,rfl,hcd⟩:=HQ.out.D j hjt
      have HD1:=hide (show ∀ W',Below w.heap.size w W'→Src W' (some ⟨bd,od+j,none⟩) 1 1 [.int .i64 (dd j)] from fun W' hb=>⟨rfl,by simp [Value.oneCell'],fun _=>⟨_,rfl,fun q u hq=>by
       have hq0:q=0:=by
        rcases q with _ | q
        ·rfl
        ·simp at hq
       subst hq0
       simp at hq;subst hq
       simp [Addr.add]
       exact hcd W' hb⟩⟩)
      have hcut:=run_cut1 bd od k d j hjt hdn
      have t1:IntKind.i64.wrap ((j:Int)+1)=(j:Int)+1:=IntWalk.i64_in _ (by omega)
      clear hca hrr hcd
      go_wp2_with fail
      refine wp_region_held (S:=fun w'=>Below w.heap.size w w') (by kernel_rfl) (show wpAnyH _ _ _ _ _ _ _ _ wr.drew from ?_)
      refine wpAnyH_take (i:=0) (v:=.slice (some ⟨ba,oa,none⟩) k c) rfl (by kernel_rfl) (by kernel_rfl) (by kernel_rfl) (fun _ _ _ h=>h) (.inl ⟨rfl,fun w' hS'=>?_⟩) HRD.out.bel ?_
      ·go_simp
      try simp only [Act.put,List.getElem_toArray,List.getElem_cons_succ,List.getElem_cons_zero,List.setIfInBounds_toArray,List.set_cons_zero,List.set_cons_succ]
      refine wpAnyH_take (i:=1) (v:=.slice RR m cR) rfl (by kernel_rfl) (by kernel_rfl) (by kernel_rfl) (fun _ _ _ h=>h) (.inl ⟨rfl,fun w' hS'=>?_⟩) HRD.out.bel ?_
      ·go_simp
      try simp only [Act.put,List.getElem_toArray,List.getElem_cons_succ,List.getElem_cons_zero,List.setIfInBounds_toArray,List.set_cons_zero,List.set_cons_succ]
      refine wpAnyH_take (i:=5) (v:=.slice (some ⟨bd,od,none⟩) k d) rfl (by kernel_rfl) (by kernel_rfl) (by kernel_rfl) (fun _ _ _ h=>h) (.inl ⟨rfl,fun w' hS'=>?_⟩) HRD.out.bel ?_
      ·go_simp
      try simp only [Act.put,List.getElem_toArray,List.getElem_cons_succ,List.getElem_cons_zero,List.setIfInBounds_toArray,List.set_cons_zero,List.set_cons_succ]
      refine wpAnyH_take (i:=6) (v:=.slice (some ⟨bd,od,none⟩) k d) rfl (by kernel_rfl) (by kernel_rfl) (by kernel_rfl) (fun _ _ _ h=>h) (.inl ⟨rfl,fun w' hS'=>?_⟩) HRD.out.bel ?_
      ·go_simp
      try simp only [Act.put,List.getElem_toArray,List.getElem_cons_succ,List.getElem_cons_zero,List.setIfInBounds_toArray,List.set_cons_zero,List.set_cons_succ]
      refine wpAnyH_take (i:=7) (v:=.int .i64 (j:Int)) rfl (by kernel_rfl) (by kernel_rfl) (by kernel_rfl) (fun _ _ _ h=>h) (.inl ⟨rfl,fun w' hS'=>?_⟩) HRD.out.bel ?_
      ·go_simp
      try simp only [Act.put,List.getElem_toArray,List.getElem_cons_succ,List.getElem_cons_zero,List.setIfInBounds_toArray,List.set_cons_zero,List.set_cons_succ]
      refine wpAnyH_take (i:=8) (v:=.int .i64 (j:Int)) rfl (by kernel_rfl) (by kernel_rfl) (by kernel_rfl) (fun _ _ _ h=>h) (.inl ⟨rfl,fun w' hS'=>?_⟩) HRD.out.bel ?_
      ·go_simp
      try simp only [Act.put,List.getElem_toArray,List.getElem_cons_succ,List.getElem_cons_zero,List.setIfInBounds_toArray,List.set_cons_zero,List.set_cons_succ]
      refine wpAnyH_take (i:=9) (v:=.int .i64 ((j:Int)+1)) rfl (by kernel_rfl) (by kernel_rfl) (by kernel_rfl) (fun _ _ _ h=>h) (.inl ⟨rfl,fun w' hS'=>?_⟩) HRD.out.bel ?_
      ·go_simp
      try simp only [Act.put,List.getElem_toArray,List.getElem_cons_succ,List.getElem_cons_zero,List.setIfInBounds_toArray,List.set_cons_zero,List.set_cons_succ]
      refine wpAnyH_take (i:=10) (v:=(.slice (some ⟨bd,od+j,none⟩) 1 (d - j))) rfl (by kernel_rfl) (by kernel_rfl) (by kernel_rfl) (fun _ _ _ h=>h) (.inl ⟨rfl,fun w' hS'=>?_⟩) HRD.out.bel ?_
      ·go_simp
      try simp only [Act.put,List.getElem_toArray,List.getElem_cons_succ,List.getElem_cons_zero,List.setIfInBounds_toArray,List.set_cons_zero,List.set_cons_succ]
      refine wpAnyH_take (i:=13) (v:=.slice G m e) rfl (by kernel_rfl) (by kernel_rfl) (by kernel_rfl) (fun _ _ _ h=>h) (.inl ⟨rfl,fun w' hS'=>?_⟩) HRD.out.bel ?_
      ·go_simp
      try simp only [Act.put,List.getElem_toArray,List.getElem_cons_succ,List.getElem_cons_zero,List.setIfInBounds_toArray,List.set_cons_zero,List.set_cons_succ]
      refine two_chains [2,3,4] [11,12] (catX (some ⟨ba,oa,none⟩) k c RV (.slice RR m cR)) (catY (some ⟨bd,od,none⟩) k d (fv k fun i=>.int .i64 (dd i)) (.int .i64 (dd j)) (.slice (some ⟨bd,od+j,none⟩) 1 (d - j))) 2 (by kernel_rfl) catX_ok catY_ok (star_ok best_ok HXO.out) (fun O W h=>h.bel) ?_ ?_ ?_ (run_two HRD.out)
      ·intro i o vs us hi ho hu Z W hZ hR
       rcases vs with _ | ⟨v1,_ | ⟨v2,_ | ⟨v3,vs⟩⟩⟩
       ·obtain rfl:2=i:=by simpa using hi
        simp only [List.getElem?_toArray,List.getElem?_cons_succ,List.getElem?_cons_zero,Option.some.injEq] at ho
        subst ho
        exact cat_x1 rfl (by show (puts (puts _ [107,108,109] _) [116,117] _).eval (.tmp 106)=_;rw [puts_eval 106 [116,117] _ _ (by decide),puts_eval 106 [107,108,109] _ _ (by decide)];rfl) (run_build22 RR m cR) hZ hR
       ·obtain rfl:3=i:=by simpa using hi
        simp only [List.getElem?_toArray,List.getElem?_cons_succ,List.getElem?_cons_zero,Option.some.injEq] at ho
        subst ho
        exact cat_x2 rfl (by show (puts (puts _ [107,108,109] _) [116,117] _).eval (.tmp 105)=_;rw [puts_eval 105 [116,117] _ _ (by decide),puts_eval 105 [107,108,109] _ _ (by decide)];rfl) (by show (puts (puts _ [107,108,109] _) [116,117] _).eval (.tmp 107)=_;rw [puts_eval 107 [116,117] _ _ (by decide)];rfl) hZ hR
       ·obtain rfl:4=i:=by simpa using hi
        simp only [List.getElem?_toArray,List.getElem?_cons_succ,List.getElem?_cons_zero,Option.some.injEq] at ho
        subst ho
        exact cat_x3 rfl (by show (puts (puts _ [107,108,109] _) [116,117] _).eval (.tmp 108)=_;rw [puts_eval 108 [116,117] _ _ (by decide)];rfl) rfl (by omega) (src_below HRV.out hR.bel) hZ hR
       ·simp at hi
      ·intro i o vs us hi ho hv Z W hZ hR
       rcases us with _ | ⟨v1,_ | ⟨v2,us⟩⟩
       ·obtain rfl:11=i:=by simpa using hi
        simp only [List.getElem?_toArray,List.getElem?_cons_succ,List.getElem?_cons_zero,Option.some.injEq] at ho
        subst ho
        exact cat_y1 rfl (by show (puts (puts _ [107,108,109] _) [116,117] _).eval (.tmp 110)=_;rw [puts_eval 110 [116,117] _ _ (by decide),puts_eval 110 [107,108,109] _ _ (by decide)];rfl) (by show (puts (puts _ [107,108,109] _) [116,117] _).eval (.tmp 115)=_;rw [puts_eval 115 [116,117] _ _ (by decide),puts_eval 115 [107,108,109] _ _ (by decide)];rfl) hZ hR
       ·obtain rfl:12=i:=by simpa using hi
        simp only [List.getElem?_toArray,List.getElem?_cons_succ,List.getElem?_cons_zero,Option.some.injEq] at ho
        subst ho
        have e16:∀ (a:Act) (v:Value),116 < a.tmps.size→(puts (puts a [107,108,109] vs) [116,117] [v]).eval (.tmp 116)=v:=fun a v h=>put_eval v (by rw [puts_size];exact h)
        exact cat_y2 rfl (e16 _ _ (show 116 < 156 by decide)) (by omega) (src_below HDS.out hR.bel) (HD1.out _ hR.bel) hZ hR
       ·simp at hi
      intro vs us W hv hu hR
      obtain ⟨v1,v2,v3,rfl⟩:=len3 hv
      obtain ⟨u1,u2,rfl⟩:=len2 hu
      obtain ⟨A5,c5,B5,d5,rfl,rfl,hRE⟩:=cat_end hR
      have HRE:=hide hRE
      clear hR hv hu
      simp only [dsts,List.map_cons,List.map_nil,List.getElem?_toArray,List.getElem?_cons_succ,List.getElem?_cons_zero,Option.bind_some,Option.getD_some,puts,Act.put,List.setIfInBounds_toArray,List.set_cons_zero,List.set_cons_succ]
      obtain ⟨F1,hO1⟩:=hRE.fst
      obtain ⟨F2,hO2⟩:=hRE.rot.fst
      have hsr1:=row_src hO1 (fun u hu=>by
       rcases List.mem_append.1 hu with h | h
       ·exact HRV.out.2.1 u h
       ·obtain rfl:u=_:=by simpa using h
        rfl)
      have hsr2:=row_src hO2 (fun u hu=>by
       rcases List.mem_append.1 hu with h | h
       ·obtain ⟨r,_,rfl⟩:=List.mem_map.1 h;rfl
       ·obtain rfl:u=_:=by simpa using h
        rfl)
      have hq7:=HQ.out.dup hn6 HROW.out HRL.out hjt HXV.out hRE.bel hsr1 hsr2
      have KL:=hide (table_any hq7 c5 d5 e)
      have hLb:=L_bnd hq7 (Nat.le_refl _) noU
      have HBU:=hide (show buF cc dd ee k m j=bcost (dupc cc k j) (dupd dd k j) ee (k+1) m - K by unfold buF;rw [←HKK.out];rfl)
      have HL7:=hide (show bcost (dupc cc k j) (dupd dd k j) ee (k+1) m=L (dupc cc k j) (dupd dd k j) ee (k+1) m (k+1) noU from rfl)
      rw [←HL7.out] at hLb
      clear hO1 hO2 hsr1 hsr2 hq7 hRE
      refine wpAnyH_all (rs:=[14]) (by kernel_rfl) (by decide) (fun i hi=>?_)
      obtain rfl:i=14:=by simpa using hi
      refine wpOp_plain rfl rfl ?_
      go_wp2_with fail
      refine KL.out.mono ?_
      rintro e9 w7 ⟨g7,rfl,hP7⟩
      have HR9:=hide ((HRE.out.drop.drop).fresh (star_ok best_ok HXO.out) hP7)
      refine ⟨HR9.out.bel,?_⟩
      clear KL hP7 HRE HRD
      refine wpAnyH_all (rs:=[15]) (by kernel_rfl) (by decide) (fun i hi=>?_)
      obtain rfl:i=15:=by simpa using hi
      refine wpOp_plain rfl rfl ?_
      refine ap_assign rfl (by rfl) ⟨HR9.out.bel,?_⟩
      refine wpAnyH_done (by kernel_rfl) ?_ _
      try simp only [Act.put,List.getElem_toArray,List.getElem_cons_succ,List.getElem_cons_zero,List.setIfInBounds_toArray,List.set_cons_zero,List.set_cons_succ]
      have hR10:=HR9.out.drew (star_ok tab_ok (star_ok best_ok HXO.out))
      obtain ⟨F7,hF7⟩:=hR10.fst
      have c70:=tab_at hF7 (k:=0) (by omega)
      have hM1:0 < M:=by omega
      have hMM:M≤64:=hM8
      rw [show (0:Nat)=0*64+0 from rfl,tabF_at (by rw [HMe.out];exact hM8) (by rw [HMe.out];exact hM1) (.inr ⟨rfl,by rw [HMe.out];exact hM1⟩),TB_zero] at c70
      simp only [Nat.zero_mul,Nat.add_zero] at c70
      have hR11:=hR10.drop
      have HR11:=hide hR11
      obtain ⟨b0,b1,b2,b3,bf⟩:=best_cells hR11
      generalize bcost (dupc cc k j) (dupd dd k j) ee (k+1) m=Bd at *
      have t2:IntKind.i64.wrap (Bd - K)=Bd - K:=IntWalk.i64_in _ (by omega)
      have tn0:(0:Int) < ((k:Int)+1)+1:=by omega
      have tn1:(0:Int)≤((k:Int)+1):=by omega
      have bf2:=bf 2
      clear hcut t1 hLb HL7 HR9 hR10 hF7 hR11 b1 b3 bf HD1 HXV HRB c0
      go_wp2_with fail
      refine wp_region_lex (fun w'=>w'=w7.drew) (by kernel_rfl) (by kernel_rfl) rfl ?_
      generalize w7.drew=wx at *
      (repeat ((first | refine lex_skip (by rfl) ?_ | (refine lex_read (v:=?_) (by rfl) ?_ ?_;rotate_left;(focus (intro w' hS';go_simp;(try with_reducible rfl);done))));try simp only [Act.put,List.setIfInBounds_toArray,List.set_cons_zero,List.set_cons_succ]))
      refine lex_nil ?_
      generalize hu9:Bd - K=u at *
      have HU9:=hide hu9
      clear t2 tn0 tn1 c70 b0 hu9
      go_wp2_with (at_builtin;refine held ?_)
      obtain ⟨F7,hR7,-,bk7⟩:=(best_p2 (HR11.out.below (star_ok best_ok HXO.out) ((Below.refl _ _).alloc (Nat.le_refl _) (.cells #[.int .i64 u] 3)))).take vec_ok (oks5 vec_ok vec_ok cell_ok cell_ok HXO.out)
      refine Held.mk (wpList_app rfl (.tmp 128) (.tmp 130) rfl intsOk _ 0 (v:=.slice A2 us.length c2) (n:=us.length) (xs:=ints us) rfl hR7.1 (A:=some ⟨wx.heap.size,0,none⟩) (m:=1) (c:=1) (news:=[.int .i64 u]) rfl (src_lit wx u) (by rw [HUL.out];omega) (by decide) (Nat.zero_le _) ?_)
      intro v8 w8 ho8 hg8 hv8
      have S8:=bk7 _ _ (row_app hR7 ho8 hg8 hv8)
      obtain ⟨A8,c8,rfl⟩:=own_form ho8
      obtain ⟨FC,hC⟩:=(S8.perm (by ac_rfl:_=star (CellO ga #[.int .i64 K,.slice A1 ps.length c1,.slice A2 us.length c2,.slice A3 vs2.length c3] 85) (star (RowO 3 1 (.slice A8 (us.length+1) c8) (us.length+1) (ints us ++ [.int .i64 u])) (star (VecO A1 c1 ps) (star (VecO A3 c3 vs2) (star (CellO g6 zeroA 85) X)))))).fst
      have x2:=cell_at hC (i:=2) rfl
      have f2:=cell_free hC 2
      have S9:=hide (best_us HXO.out S8)
      have HBJ:=hide (show u=buF cc dd ee k m j from HBU.out.symm)
      have hubd : -10000≤u∧u≤10000:=by
       rw [HBJ.out]
       have h1:=(best_pot (c:=cc) (d:=dd) (e:=ee) (n:=k) (m:=m)).low (E:=10000) (fun i hi k hk=>(HQ.out.cb i hi k hk).1) (fun i hi=>(HQ.out.db i hi).1) HQ.out.eb (by omega) hjt
       have h2:=(best_pot (c:=cc) (d:=dd) (e:=ee) (n:=k) (m:=m)).feas.d j hjt
       have:=HQ.out.db j hjt
       omega
      have HVB:=hide (show ∀ y,y < m → -10000≤mnl noU (fun i=>cc i y - buF cc dd ee k m i) (ee y) j∧mnl noU (fun i=>cc i y - buF cc dd ee k m i) (ee y) j≤10000 by
       intro y hy
       have h1:=mnl_init (U:=noU) (f:=fun i=>cc i y - buF cc dd ee k m i) (a:=ee y) (m:=j)
       have h3:=HQ.out.eb y hy
       refine ⟨?_,by omega⟩
       rcases mnl_is (U:=noU) (f:=fun i=>cc i y - buF cc dd ee k m i) (a:=ee y) (m:=j) with h | ⟨q,h1,_,h2⟩
       ·omega
       ·have h4:=(best_pot (c:=cc) (d:=dd) (e:=ee) (n:=k) (m:=m)).feas.d q (by omega)
        have:=HQ.out.db q (by omega)
        have:=HQ.out.cb q (by omega) y hy
        omega)
      obtain ⟨fo,HFO⟩:∃ fo:Nat→Int,Hid (∀ t,fo t=mnl noU (fun i=>cc i t - buF cc dd ee k m i) (ee t) j):=⟨_,hide fun _=>rfl⟩
      obtain ⟨fn,HFN⟩:∃ fn:Nat→Int,Hid (∀ t,fn t=mnl noU (fun i=>cc i t - buF cc dd ee k m i) (ee t) (j+1)):=⟨_,hide fun _=>rfl⟩
      have HVB2:=hide (show ∀ y,y < m → -10000≤fo y∧fo y≤10000 by intro y hy;rw [HFO.out];exact HVB.out y hy)
      have HVS2:=hide (show ∀ y,fn y=min (fo y) (cc j y - u) by intro y;rw [HFO.out,HFN.out,HBJ.out];rfl)
      have HUE2:=hide (show us ++ [u]=(List.range (j+1)).map (buF cc dd ee k m) by rw [List.range_succ,List.map_append,←HUE.out,HBJ.out];rfl)
      have HVI2:=hide (show vs2=(List.range m).map (fun t=>if t < 0 then fn t else fo t) by
       rw [HVE2.out];exact List.map_congr_left fun t _=>by rw [if_neg (Nat.not_lt_zero t),HFO.out])
      have HULN:=hide (show (us ++ [u]).length=j+1 by rw [List.length_append,HUL.out];rfl)
      have HFIN2:=hide (show ∀ l:List Int,l=(List.range m).map (fun t=>if t < m then fn t else fo t)→l=(List.range m).map (fun y=>mnl noU (fun i=>cc i y - buF cc dd ee k m i) (ee y) (j+1)) from fun l h=>by
       rw [h];exact List.map_congr_left fun t ht=>by rw [if_pos (List.mem_range.1 ht),HFN.out])
      obtain ⟨us9,hus9⟩:∃ us9,us9=us ++ [u]:=⟨_,rfl⟩
      rw [←hus9] at S9 HUE2 HULN
      clear ho8 hg8 hv8 bk7 hR7 S8 hC b2 bf2 HR11 HBU HU9 HBJ HVB HFO HFN hus9 HVE2
      have e9:us.length+1=us9.length:=by rw [HULN.out,HUL.out]
      rw [e9] at S9 ⊢
      clear e9 HUE HUL
      go_wp2
      clear x2 f2
      go_loopg [135] m (fun g2 x wr=>∃ (y:Nat) (vs:List Int),y+g2=m∧x=.int .i64 y∧vs.length=m∧vs=(List.range m).map (fun t=>if t < y then fn t else fo t)∧Run (fun _=>False) w (star (BestO g6 ga K A1 A8 A3 c1 c8 c3 ps us9 vs) X) wr)
      case atStart=>exact ⟨0,vs2,Nat.zero_add _,rfl,HVL2.out,HVI2.out,S9.out⟩
      case round =>
       obtain ⟨y,vs,hg2,rfl,hvl,hve,hR⟩:=hrel
       have HRE:=hide hR
       have HVL:=hide hvl
       have HVE:=hide hve
       clear hR hvl hve S9 HVL2 HVI2
       cases gk with
       | succ g2 =>
        have hym:y < m:=by omega
        obtain ⟨b',o',rfl,hcc⟩:=HRR.out y hym
        have hcb:=HQ.out.cb j hjt y hym
        have HRD:=hide (HRE.out.drew (star_ok best_ok HXO.out))
        have c5:=hcc _ HRE.out.bel
        obtain ⟨b0,b1,b2,b3,bf⟩:=best_cells HRD.out
        have hP3:=best_p3 HRD.out
        obtain ⟨F3,hV3⟩:=hP3.fst
        obtain ⟨g3,rfl⟩:=row_addr hV3 (by rw [HVL.out];omega)
        have hyv:y < vs.length:=by rw [HVL.out];exact hym
        have c6:=row_cell hV3 (i:=y) (ints_get hyv)
        have f6:=row_free hV3 y (by rw [HVL.out];omega)
        have hval:vs[y]=fo y:=by
         have h1:vs[y]?=some (fo y):=by rw [HVE.out];simp [hym]
         exact (List.getElem?_eq_some_iff.1 h1).2
        rw [hval] at c6
        have hvb:=HVB2.out y hym
        have hvs:=HVS2.out y
        have R12:=vec_put (x:=fn y) (oks5 vec_ok vec_ok cell_ok cell_ok HXO.out) hyv hP3
        have HVE3:=hide (show vs.set y (fn y)=(List.range m).map (fun t=>if t < y+1 then fn t else fo t) by rw [HVE.out];exact map_upd fo fn hym)
        have HVL3:=hide (show (vs.set y (fn y)).length=m by rw [List.length_set];exact HVL.out)
        have R13:=best_b3 (show vs.length=(vs.set y (fn y)).length from List.length_set.symm) R12
        rw [hvs] at R13
        have HR13:=hide R13
        have t5:IntKind.i64.wrap (cc j y - u)=cc j y - u:=IntWalk.i64_in _ (by omega)
        rw [←hvs] at HR13
        generalize hfy:fo y=q at *
        generalize hz:cc j y=z at *
        have HMIN:=hide (show fn y=if z - u < q then z - u else q by rw [hvs];omega)
        rw [HMIN.out] at HR13 HVE3 HVL3
        clear b0 b1 b2 bf hP3 hV3 hval R12 R13 hvs hcc HRD hfy hz HMIN HVE HVL
        by_cases hmin:z - u < q
        case pos =>
         rw [if_pos hmin] at HR13 HVE3 HVL3
         go_wp2_with fail
         refine wp_region_ley (fun w'=>w'=wr.drew) (by kernel_rfl) (by kernel_rfl) (by kernel_rfl) rfl ?_
         generalize wr.drew=wd at *
         (repeat ((first | refine ley_skip (by rfl) ?_ | (refine ley_read (v:=?_) (by rfl) ?_ ?_;rotate_left;(focus (intro w' hS';go_simp;(try with_reducible rfl);done))));try simp only [Act.put,List.setIfInBounds_toArray,List.set_cons_zero,List.set_cons_succ]))
         refine ley_last rfl (by rfl) (fun KK hK=>?_)
         go_wp2_with fail
         refine hK.out _ _ ?_
         clear hK c6 f6 t5 b3 c5
         go_wp2
         go_roundg g2
         case measure=>omega
         case rel=>exact ⟨y+1,_,by omega,by go_num,HVL3.out,HVE3.out,by first | exact HR13.out | (rw [show min q (z - u)=z - u by omega];exact HR13.out)⟩
        case neg =>
         rw [if_neg hmin] at HR13 HVE3 HVL3
         go_wp2_with fail
         refine wp_region_ley (fun w'=>w'=wr.drew) (by kernel_rfl) (by kernel_rfl) (by kernel_rfl) rfl ?_
         generalize wr.drew=wd at *
         (repeat ((first | refine ley_skip (by rfl) ?_ | (refine ley_read (v:=?_) (by rfl) ?_ ?_;rotate_left;(focus (intro w' hS';go_simp;(try with_reducible rfl);done))));try simp only [Act.put,List.setIfInBounds_toArray,List.set_cons_zero,List.set_cons_succ]))
         refine ley_last rfl (by rfl) (fun KK hK=>?_)
         go_wp2_with fail
         refine hK.out _ _ ?_
         clear hK c6 f6 t5 b3 c5
         go_wp2
         go_roundg g2
         case measure=>omega
         case rel=>exact ⟨y+1,_,by omega,by go_num,HVL3.out,HVE3.out,by first | exact HR13.out | (rw [show min q (z - u)=q by omega];exact HR13.out)⟩
       | zero =>
        obtain rfl:y=m:=by omega
        have HV9:=hide (HFIN2.out vs HVE.out)
        go_wp2
        go_roundg g1
        case measure=>omega
        case rel=>exact ⟨j+1,A8,c8,us9,vs,by omega,by go_num,HULN.out,HUE2.out,HVL.out,HV9.out,HRE.out⟩
     | zero =>
      obtain rfl:j=k:=by omega
      obtain ⟨b0,b1,b2,b3,-⟩:=best_cells HRB.out
      obtain ⟨z0,z1,z2,z3,zf⟩:=best_res HRB.out
      have f0:=zf 0
      have f1:=zf 1
      have f2:=zf 2
      have f3:=zf 3
      have HRF:=hide (best_end HXO.out HRB.out)
      have HUS:=hide (show us=bus cc dd ee j m from HUE.out)
      have HBV:=hide (show vs2=bvs cc dd ee j m from HVE2.out)
      clear zf HUE HVE2 HRB
      go_wp2
      try rw [Exit.noGoto_ret]
      refine bodyPost_ret_by (res_cell_tmp rfl _ _ g6 85 #[.int .i64 K,.slice A1 ps.length c1,.slice A2 us.length c2,.slice A3 vs2.length c3] (0,0) rfl ?_ Tryz.underlying85 (by kernel_rfl)) rfl ?_
      ·obtain ⟨F,hC⟩:=HRF.out.fst
       exact hC.1
      ·refine HRET.out _ _ (by have:=HRF.out.bel;rwa [HG6.out] at this) ?_
       rw [HBM.out,←HKK.out,HPS.out,←HUS.out,←HBV.out]
       exact best_asg HRF.out
end Go.Proofs.YtbnnlpjpnihheaaGreatDoor.Asn
namespace Go.Proofs.YtbnnlpjpnihheaaGreatDoor.Asn
open Go.RowKit Go.CH Go.CH.Asg
open Go.ChangeMaps (setBlock)

def GridO (pg gg:Nat) (rb:Nat→Nat) (f:Nat→Nat→Int) (i n m:Nat):CH.Own :=
 star (CellO pg #[.slice (some ⟨gg,0,none⟩) (n+1) (n+1)] 75)
  (star (RowO 40 1 (.slice (some ⟨gg,0,none⟩) (n+1) (n+1)) (n+1) (fv (n+1) fun r=>if i≤r then .slice (some ⟨rb r,0,none⟩) (m+1) (m+1) else .slice none 0 0))
   (bigK (List.range' i (n+1 - i)) fun r=>NumO (rb r) (m+1) (f r)))
theorem gridO_ok {pg gg:Nat} {rb:Nat→Nat} {f:Nat→Nat→Int} {i n m:Nat}:(GridO pg gg rb f i n m).Ok:=star_ok cell_ok (star_ok row_ok (bigK_ok fun _=>num_ok))
section
variable {w0 W:World} {X:CH.Own} {pg gg:Nat} {rb:Nat→Nat} {f:Nat→Nat→Int} {i n m:Nat}
theorem grid_pg (h:Run (fun _=>False) w0 (star (GridO pg gg rb f i n m) X) W):W.cell? ⟨pg,0,none⟩=some (.slice (some ⟨gg,0,none⟩) (n+1) (n+1)):=by
 unfold GridO at h
 obtain ⟨F,hC⟩:=h.assoc.fst
 exact cell_at hC rfl
theorem grid_gg (h:Run (fun _=>False) w0 (star (GridO pg gg rb f i n m) X) W) {r:Nat} (hr:i≤r) (hr2:r≤n):W.cell? ⟨gg,r,none⟩=some (.slice (some ⟨rb r,0,none⟩) (m+1) (m+1)):=by
 unfold GridO at h
 obtain ⟨F,hC⟩:=h.assoc.rot.assoc.fst
 have:=row_cell hC (fv_get (fun r=>if i≤r then Value.slice (some ⟨rb r,0,none⟩) (m+1) (m+1) else .slice none 0 0) (show r < n+1 by omega))
 rw [if_pos hr] at this
 exact this
theorem grid_out (h:Run (fun _=>False) w0 (star (GridO pg gg rb f i n m) X) W) {r:Nat} (hr:i≤r) (hr2:r≤n) :
  Run (fun _=>False) w0 (star (NumO (rb r) (m+1) (f r)) (star (bigK ((List.range' i (n+1 - i)).erase r) fun r=>NumO (rb r) (m+1) (f r)) (star (CellO pg #[.slice (some ⟨gg,0,none⟩) (n+1) (n+1)] 75)
  (star (RowO 40 1 (.slice (some ⟨gg,0,none⟩) (n+1) (n+1)) (n+1) (fv (n+1) fun r=>if i≤r then .slice (some ⟨rb r,0,none⟩) (m+1) (m+1) else .slice none 0 0)) X)))) W:=by
 unfold GridO at h
 have h1:=h.perm (by ac_rfl:_=star (bigK (List.range' i (n+1 - i)) fun r=>NumO (rb r) (m+1) (f r)) (star (CellO pg #[.slice (some ⟨gg,0,none⟩) (n+1) (n+1)] 75)
  (star (RowO 40 1 (.slice (some ⟨gg,0,none⟩) (n+1) (n+1)) (n+1) (fv (n+1) fun r=>if i≤r then .slice (some ⟨rb r,0,none⟩) (m+1) (m+1) else .slice none 0 0)) X)))
 have hm:r ∈ List.range' i (n+1 - i):=by rw [List.mem_range'_1];omega
 exact (h1.imp fun w F hh=>star_mono hh (fun F h=>bigK_out hm h) (fun _ h=>h)).assoc
theorem grid_at (h:Run (fun _=>False) w0 (star (GridO pg gg rb f i n m) X) W) {r y:Nat} (hr:i≤r) (hr2:r≤n) (hy:y≤m):W.cell? ⟨rb r,y,none⟩=some (.int .i64 (f r y)):=by
 obtain ⟨F,hN⟩:=(grid_out h hr hr2).fst
 exact num_at hN (by omega)
theorem grid_free (h:Run (fun _=>False) w0 (star (GridO pg gg rb f i n m) X) W) {r:Nat} (hr:i≤r) (hr2:r≤n) (y:Nat):W.frozen? ⟨rb r,y,none⟩=false:=by
 obtain ⟨F,hN⟩:=(grid_out h hr hr2).fst
 exact num_free hN y (by omega)

theorem grid_put (hX:X.Ok) (h:Run (fun _=>False) w0 (star (GridO pg gg rb f i n m) X) W) {r y:Nat} (hr:i≤r) (hr2:r≤n) (hy:y≤m) (x:Int) {f':Nat→Nat→Int} (hf:∀ a b,f' a b=if a=r∧b=y then x else f a b) :
  Run (fun _=>False) w0 (star (GridO pg gg rb f' i n m) X) (W.setCell ⟨rb r,y,none⟩ (.int .i64 x)):=by
 have h1:=grid_out h hr hr2
 have oY:(star (bigK ((List.range' i (n+1 - i)).erase r) fun r=>NumO (rb r) (m+1) (f r)) (star (CellO pg #[.slice (some ⟨gg,0,none⟩) (n+1) (n+1)] 75)
  (star (RowO 40 1 (.slice (some ⟨gg,0,none⟩) (n+1) (n+1)) (n+1) (fv (n+1) fun r=>if i≤r then .slice (some ⟨rb r,0,none⟩) (m+1) (m+1) else .slice none 0 0)) X))).Ok:=star_ok (bigK_ok fun _=>num_ok) (star_ok cell_ok (star_ok row_ok hX))
 obtain ⟨F,hN,-,bk⟩:=h1.take num_ok oY
 have h2:=bk _ _ (num_set hN (k:=y) (by omega) x (T:=f' r) (fun j _=>by rw [hf];simp))
 have hnd:(List.range' i (n+1 - i)).Nodup:=List.nodup_range'
 have hb:bigK ((List.range' i (n+1 - i)).erase r) (fun r=>NumO (rb r) (m+1) (f r))=bigK ((List.range' i (n+1 - i)).erase r) (fun r=>NumO (rb r) (m+1) (f' r)):=bigK_congr fun a ha=>by
  have hne:a≠r:=by
   intro e;subst e
   exact (List.Nodup.not_mem_erase hnd) ha
  have:f' a=f a:=by funext b;rw [hf];simp [hne]
  rw [this]
 rw [hb] at h2
 have hm:r ∈ List.range' i (n+1 - i):=by rw [List.mem_range'_1];omega
 have h3:Run (fun _=>False) w0 (star (bigK (List.range' i (n+1 - i)) fun r=>NumO (rb r) (m+1) (f' r)) (star (CellO pg #[.slice (some ⟨gg,0,none⟩) (n+1) (n+1)] 75)
  (star (RowO 40 1 (.slice (some ⟨gg,0,none⟩) (n+1) (n+1)) (n+1) (fv (n+1) fun r=>if i≤r then .slice (some ⟨rb r,0,none⟩) (m+1) (m+1) else .slice none 0 0)) X))) _ :=
  (h2.perm (by ac_rfl:_=star (star (NumO (rb r) (m+1) (f' r)) (bigK ((List.range' i (n+1 - i)).erase r) fun r=>NumO (rb r) (m+1) (f' r))) (star (CellO pg #[.slice (some ⟨gg,0,none⟩) (n+1) (n+1)] 75)
  (star (RowO 40 1 (.slice (some ⟨gg,0,none⟩) (n+1) (n+1)) (n+1) (fv (n+1) fun r=>if i≤r then .slice (some ⟨rb r,0,none⟩) (m+1) (m+1) else .slice none 0 0)) X)))).imp fun w F hh=>star_mono hh (fun F h=>bigK_in0 hm h) (fun _ h=>h)
 unfold GridO
 exact h3.perm (by ac_rfl)
end
end Go.Proofs.YtbnnlpjpnihheaaGreatDoor.Asn
namespace Go.Proofs.YtbnnlpjpnihheaaGreatDoor.Asn
open Go.RowKit Go.CH Go.CH.Asg
open Go.ChangeMaps (setBlock)

def bst (b v:Int):Int:=if b < 0 then v else if v < b then v else b
section
variable {w0 W:World} {X:CH.Own} {pg gg pb:Nat} {rb:Nat→Nat} {f:Nat→Nat→Int} {i n m:Nat}

def GvO (pg gg pb:Nat) (rb:Nat→Nat) (f:Nat→Nat→Int) (i n m:Nat) (b:Int) (X:CH.Own):CH.Own:=star (GridO pg gg rb f i n m) (star (CellO pb #[.int .i64 b] 3) X)
def GvRet (w0:World) (pg gg pb:Nat) (rb:Nat→Nat) (f:Nat→Nat→Int) (i n m:Nat) (b:Int) (X:CH.Own) (e:Ending) (w':World):Prop:=e=.returned (.tuple #[])∧Run (fun _=>False) w0 (GvO pg gg pb rb f i n m b X) w'
theorem gv_ok {b:Int} (hX:X.Ok):(GvO pg gg pb rb f i n m b X).Ok:=star_ok gridO_ok (star_ok cell_ok hX)
theorem gv_cell {b:Int} (h:Run (fun _=>False) w0 (GvO pg gg pb rb f i n m b X) W):W.cell? ⟨pb,0,none⟩=some (.int .i64 b)∧W.frozen? ⟨pb,0,none⟩=false:=by
 unfold GvO at h
 obtain ⟨F,hC⟩:=h.rot.fst
 exact ⟨cell_at hC rfl,cell_free hC 0⟩
theorem gv_put {b:Int} (hX:X.Ok) (h:Run (fun _=>False) w0 (GvO pg gg pb rb f i n m b X) W) (v:Int):Run (fun _=>False) w0 (GvO pg gg pb rb f i n m v X) (W.setCell ⟨pb,0,none⟩ (.int .i64 v)):=by
 unfold GvO at *
 exact (cell_put (star_ok gridO_ok hX) h.rot 0 (.int .i64 v) rfl).rot
set_option maxHeartbeats 3200000 in
theorem gvisit_any {b q:Int} {x y:Nat} (hX:X.Ok) (h:Run (fun _=>False) w0 (GvO pg gg pb rb f i n m b X) W) (hx:i≤x) (hx2:x≤n) (hy:y≤m) (hn:n≤100) (hm:m≤100) (hq:0≤q∧q≤100000) (hf:0≤f x y∧f x y≤10000000) :
  Calls Tryz.prog 101 #[.int .i64 (x:Int),.int .i64 (y:Int),.int .i64 q,.pointer (some ⟨pg,0,none⟩),.pointer (some ⟨pb,0,none⟩)] W (GvRet w0 pg gg pb rb f i n m (bst b (q+f x y)) X):=by
 have HR:=hide h
 have c0:=grid_pg (show Run (fun _=>False) w0 (star (GridO pg gg rb f i n m) (star (CellO pb #[.int .i64 b] 3) X)) W from h)
 have c1:=grid_gg (show Run (fun _=>False) w0 (star (GridO pg gg rb f i n m) (star (CellO pb #[.int .i64 b] 3) X)) W from h) hx hx2
 have c2:=grid_at (show Run (fun _=>False) w0 (star (GridO pg gg rb f i n m) (star (CellO pb #[.int .i64 b] 3) X)) W from h) hx hx2 hy
 obtain ⟨c3,f3⟩:=gv_cell h
 have HP:=hide (gv_put hX h (q+f x y))
 have hxn:(x:Int) < (n:Int)+1:=by omega
 have hym:(y:Int) < (m:Int)+1:=by omega
 generalize f x y=z at *
 clear h
 by_cases hb:b < 0
 ·have HS:=hide (show bst b (q+z)=q+z by simp [bst,hb])
  go_enter Tryz.func101,Tryz.ntmps101
  go_wp2
  go_end0
  exact ⟨rfl,by rw [HS.out];exact HP.out⟩
 ·by_cases hv:q+z < b
  ·have HS:=hide (show bst b (q+z)=q+z by simp [bst,hb,hv])
   go_enter Tryz.func101,Tryz.ntmps101
   go_wp2
   go_end0
   exact ⟨rfl,by rw [HS.out];exact HP.out⟩
  ·have HS:=hide (show bst b (q+z)=b by simp [bst,hb,hv])
   go_enter Tryz.func101,Tryz.ntmps101
   go_wp2
   go_end0
   exact ⟨rfl,by rw [HS.out];exact HR.out⟩
end
section
variable {w0 W:World} {X:CH.Own} {pg gg pb:Nat} {rb:Nat→Nat} {f:Nat→Nat→Int} {A B G:Option Addr} {c:Nat→Nat→Int} {d e:Nat→Int} {n m:Nat}

def nb1 (d:Nat→Int) (f:Nat→Nat→Int) (n i j:Nat) (b:Int):Int:=if i < n then bst b (d i+f (i+1) j) else b
def nb2 (e:Nat→Int) (f:Nat→Nat→Int) (m i j:Nat) (b:Int):Int:=if j < m then bst b (e j+f i (j+1)) else b
def nb3 (c:Nat→Nat→Int) (f:Nat→Nat→Int) (n m i j:Nat) (b:Int):Int:=if i < n∧j < m then bst b (c i j+f (i+1) (j+1)) else b
set_option maxHeartbeats 3200000 in
theorem nbg_any {b:Int} {i j:Nat} (hq:Prq w0 A B G c d e n m) (hX:X.Ok) (h:Run (fun _=>False) w0 (GvO pg gg pb rb f i n m b X) W) (hi:i≤n) (hj:j≤m) (hf:∀ r y,i≤r→r≤n→y≤m→0≤f r y∧f r y≤10000000) (ca cb cg:Nat) :
  Calls Tryz.prog 100 #[.slice A n ca,.slice B n cb,.slice G m cg,.int .i64 (i:Int),.int .i64 (j:Int),.func (.func 101) #[] #[.pointer (some ⟨pg,0,none⟩),.pointer (some ⟨pb,0,none⟩)]] W (GvRet w0 pg gg pb rb f i n m (nb3 c f n m i j (nb2 e f m i j (nb1 d f n i j b))) X):=by
 have HQ:=hide hq
 have HR:=hide h
 have hn7:=hq.n7
 have hm6:=hq.m6
 have HV:=hide (fun (b q:Int) (x y:Nat) (W:World) (h:Run (fun _=>False) w0 (GvO pg gg pb rb f i n m b X) W) (hx:i≤x) (hx2:x≤n) (hy:y≤m) (hq:0≤q∧q≤100000)=>gvisit_any hX h hx hx2 hy (by omega) (by omega) hq (hf x y hx hx2 hy))
 clear h hq
 by_cases hin:i < n
 ·obtain ⟨bd,od,rfl,hcd⟩:=HQ.out.D i hin
  have hdb:=HQ.out.db i hin
  have c0:=hcd _ HR.out.bel
  have K1:=hide (HV.out b (d i) (i+1) j W HR.out (by omega) (by omega) hj (by omega))
  rw [show ((i+1:Nat):Int)=(i:Int)+1 by omega] at K1
  have H1:=hide (show nb1 d f n i j b=bst b (d i+f (i+1) j) by simp [nb1,hin])
  rw [←H1.out] at K1
  clear hcd H1
  by_cases hjm:j < m
  ·have heb:=HQ.out.eb j hjm
   have K2:=hide (fun W h=>HV.out (nb1 d f n i j b) (e j) i (j+1) W h (by omega) (by omega) (by omega) (by omega))
   rw [show ((j+1:Nat):Int)=(j:Int)+1 by omega] at K2
   have H2:=hide (show nb2 e f m i j (nb1 d f n i j b)=bst (nb1 d f n i j b) (e j+f i (j+1)) by simp [nb2,hjm])
   rw [←H2.out] at K2
   have hcb:=HQ.out.cb i hin j hjm
   have K3:=hide (fun W h=>HV.out (nb2 e f m i j (nb1 d f n i j b)) (c i j) (i+1) (j+1) W h (by omega) (by omega) (by omega) (by omega))
   rw [show ((j+1:Nat):Int)=(j:Int)+1 by omega,show ((i+1:Nat):Int)=(i:Int)+1 by omega] at K3
   have H3:=hide (show nb3 c f n m i j (nb2 e f m i j (nb1 d f n i j b))=bst (nb2 e f m i j (nb1 d f n i j b)) (c i j+f (i+1) (j+1)) by simp [nb3,hin,hjm])
   rw [←H3.out] at K3
   clear H2 H3 HV
   obtain ⟨be,oe,rfl,hce⟩:=HQ.out.E j hjm
   obtain ⟨ba,oa,RR,cR,rfl,hca,hrow⟩:=HQ.out.R i hin
   obtain ⟨b',o',rfl,hcc⟩:=hrow j hjm
   have HCE:=hide hce
   have HCA:=hide hca
   have HCC:=hide hcc
   clear hce hca hrow hcc
   go_enter Tryz.func100,Tryz.ntmps100
   go_wp2_with fail
   refine K1.out.mono ?_
   rintro e9 w1 ⟨rfl,h1⟩
   have c1:=HCE.out _ h1.bel
   have K2':=hide (K2.out _ h1)
   clear K1 K2 h1 c0
   go_wp2_with fail
   refine K2'.out.mono ?_
   rintro e9 w2 ⟨rfl,h2⟩
   have c2:=HCA.out _ h2.bel
   have c3:=HCC.out _ h2.bel
   have K3':=hide (K3.out _ h2)
   clear K2' K3 h2 c1
   go_wp2_with fail
   refine K3'.out.mono ?_
   rintro e9 w3 ⟨rfl,h3⟩
   have HR3:=hide h3
   clear K3' h3 c2 c3
   go_wp2
   go_end0
   exact ⟨rfl,HR3.out⟩
  ·have H2:=hide (show nb3 c f n m i j (nb2 e f m i j (nb1 d f n i j b))=nb1 d f n i j b by simp [nb3,nb2,hjm])
   rw [H2.out]
   clear H2 HV
   go_enter Tryz.func100,Tryz.ntmps100
   go_wp2_with fail
   refine K1.out.mono ?_
   rintro e9 w1 ⟨rfl,h1⟩
   have HR3:=hide h1
   clear K1 h1 c0
   go_wp2
   go_end0
   exact ⟨rfl,HR3.out⟩
 ·have H1:=hide (show nb1 d f n i j b=b by simp [nb1,hin])
  rw [H1.out]
  by_cases hjm:j < m
  ·have heb:=HQ.out.eb j hjm
   have K2:=hide (HV.out b (e j) i (j+1) W HR.out (by omega) (by omega) (by omega) (by omega))
   rw [show ((j+1:Nat):Int)=(j:Int)+1 by omega] at K2
   have H2:=hide (show nb3 c f n m i j (nb2 e f m i j b)=bst b (e j+f i (j+1)) by simp [nb3,nb2,hin,hjm])
   rw [H2.out]
   obtain ⟨be,oe,rfl,hce⟩:=HQ.out.E j hjm
   have c1:=hce _ HR.out.bel
   clear H2 HV hce H1
   go_enter Tryz.func100,Tryz.ntmps100
   go_wp2_with fail
   refine K2.out.mono ?_
   rintro e9 w1 ⟨rfl,h1⟩
   have HR3:=hide h1
   clear K2 h1 c1
   go_wp2
   go_end0
   exact ⟨rfl,HR3.out⟩
  ·have H2:=hide (show nb3 c f n m i j (nb2 e f m i j b)=b by simp [nb3,nb2,hin,hjm])
   rw [H2.out]
   clear H2 HV H1
   go_enter Tryz.func100,Tryz.ntmps100
   go_wp2
   go_end0
   exact ⟨rfl,HR.out⟩
end
end Go.Proofs.YtbnnlpjpnihheaaGreatDoor.Asn
namespace Go.Proofs.YtbnnlpjpnihheaaGreatDoor.Asn
open Go.RowKit Go.CH Go.CH.Asg
open Go.ChangeMaps (setBlock)

section
variable {c:Nat→Nat→Int} {d e:Nat→Int} {n m:Nat}
theorem GR_bnd {w:World} {A B G:Option Addr} (h:Prq w A B G c d e n m) {a b:Nat} (ha:a≤n) (hb:b≤m):0≤GR c d e n m a b∧GR c d e n m a b≤(a:Int)*10000+(b:Int)*10000:=by
 induction a generalizing b with
 | zero =>
  induction b with
  | zero=>show 0≤(0:Int)∧_;exact ⟨by omega,by show (0:Int)≤_;omega⟩
  | succ b ih =>
   have h1:=ih (by omega)
   have h2:=h.eb (m - (b+1)) (by omega)
   have h3:GR c d e n m 0 (b+1)=e (m - (b+1))+GR c d e n m 0 b:=rfl
   rw [h3];omega
 | succ a iha =>
  have h5:=h.db (n - (a+1)) (by omega)
  induction b with
  | zero =>
   have h1:=iha (by omega) (b:=0) (by omega)
   have h3:GR c d e n m (a+1) 0=d (n - (a+1))+GR c d e n m a 0:=rfl
   rw [h3];omega
  | succ b ihb =>
   have h1:=iha (by omega) (b:=b+1) hb
   have h2:=ihb (by omega)
   have h6:=iha (by omega) (b:=b) (by omega)
   have h7:=h.eb (m - (b+1)) (by omega)
   have h8:=h.cb (n - (a+1)) (by omega) (m - (b+1)) (by omega)
   have h3:GR c d e n m (a+1) (b+1)=min (min (d (n - (a+1))+GR c d e n m a (b+1)) (e (m - (b+1))+GR c d e n m (a+1) b)) (c (n - (a+1)) (m - (b+1))+GR c d e n m a b):=rfl
   rw [h3];omega

theorem nb_val {w:World} {A B G:Option Addr} (h:Prq w A B G c d e n m) {f:Nat→Nat→Int} {i j:Nat} (hi:i≤n) (hj:j≤m) (h1:i < n→f (i+1) j=GR c d e n m (n - (i+1)) (m - j)) (h2:j < m→f i (j+1)=GR c d e n m (n - i) (m - (j+1)))
  (h3:i < n→j < m→f (i+1) (j+1)=GR c d e n m (n - (i+1)) (m - (j+1))) :
  (if nb3 c f n m i j (nb2 e f m i j (nb1 d f n i j (-1))) < 0 then 0 else nb3 c f n m i j (nb2 e f m i j (nb1 d f n i j (-1))))=GR c d e n m (n - i) (m - j):=by
 by_cases hin:i < n
 ·have e1:=h1 hin
  have b1:=GR_bnd h (a:=n - (i+1)) (b:=m - j) (by omega) (by omega)
  have hd:=h.db i hin
  obtain ⟨a,ha⟩:∃ a,n - i=a+1:=⟨n - i - 1,by omega⟩
  have ha1:n - (i+1)=a:=by omega
  have ha2:n - (a+1)=i:=by omega
  rw [ha1] at e1 b1
  by_cases hjm:j < m
  ·have e2:=h2 hjm
   have e3:=h3 hin hjm
   have he:=h.eb j hjm
   have hc:=h.cb i hin j hjm
   obtain ⟨b,hb⟩:∃ b,m - j=b+1:=⟨m - j - 1,by omega⟩
   have hb1:m - (j+1)=b:=by omega
   have hb2:m - (b+1)=j:=by omega
   have b2:=GR_bnd h (a:=n - i) (b:=m - (j+1)) (by omega) (by omega)
   have b3:=GR_bnd h (a:=n - (i+1)) (b:=m - (j+1)) (by omega) (by omega)
   rw [ha,hb1] at e2 b2
   rw [ha1,hb1] at e3 b3
   rw [ha,hb]
   rw [hb] at e1 b1
   have h9:GR c d e n m (a+1) (b+1)=min (min (d (n - (a+1))+GR c d e n m a (b+1)) (e (m - (b+1))+GR c d e n m (a+1) b)) (c (n - (a+1)) (m - (b+1))+GR c d e n m a b):=rfl
   rw [ha2,hb2] at h9
   rw [h9]
   simp only [nb3,nb2,nb1,hin,hjm,if_true,and_self,e1,e2,e3,bst]
   simp only [show ((-1:Int) < 0) from by omega,if_true]
   rw [if_neg (show ¬ d i+GR c d e n m a (b+1) < 0 by omega)]
   by_cases g1:e j+GR c d e n m (a+1) b < d i+GR c d e n m a (b+1)
   ·rw [if_pos g1,if_neg (show ¬ e j+GR c d e n m (a+1) b < 0 by omega)]
    by_cases g2:c i j+GR c d e n m a b < e j+GR c d e n m (a+1) b
    ·rw [if_pos g2,if_neg (by omega)];omega
    ·rw [if_neg g2,if_neg (by omega)];omega
   ·rw [if_neg g1,if_neg (show ¬ d i+GR c d e n m a (b+1) < 0 by omega)]
    by_cases g2:c i j+GR c d e n m a b < d i+GR c d e n m a (b+1)
    ·rw [if_pos g2,if_neg (by omega)];omega
    ·rw [if_neg g2,if_neg (by omega)];omega
  ·obtain rfl:j=m:=by omega
   rw [ha,Nat.sub_self]
   rw [Nat.sub_self] at e1 b1
   have h9:GR c d e n j (a+1) 0=d (n - (a+1))+GR c d e n j a 0:=rfl
   rw [ha2] at h9
   rw [h9]
   simp only [nb3,nb2,nb1,hin,Nat.lt_irrefl,if_true,if_false,and_false,e1,bst]
   simp only [show ((-1:Int) < 0) from by omega,if_true]
   rw [if_neg (by omega)]
 ·obtain rfl:i=n:=by omega
  rw [Nat.sub_self]
  by_cases hjm:j < m
  ·have e2:=h2 hjm
   have he:=h.eb j hjm
   obtain ⟨b,hb⟩:∃ b,m - j=b+1:=⟨m - j - 1,by omega⟩
   have hb1:m - (j+1)=b:=by omega
   have hb2:m - (b+1)=j:=by omega
   have b2:=GR_bnd h (a:=0) (b:=b) (by omega) (by omega)
   rw [Nat.sub_self,hb1] at e2
   rw [hb]
   have h9:GR c d e i m 0 (b+1)=e (m - (b+1))+GR c d e i m 0 b:=rfl
   rw [hb2] at h9
   rw [h9]
   simp only [nb3,nb2,nb1,hjm,Nat.lt_irrefl,if_true,if_false,false_and,e2,bst]
   simp only [show ((-1:Int) < 0) from by omega,if_true]
   rw [if_neg (by omega)]
  ·obtain rfl:j=m:=by omega
   rw [Nat.sub_self]
   simp only [nb3,nb2,nb1,Nat.lt_irrefl,if_false,false_and]
   rfl
end
section
variable {w0 W:World} {X:CH.Own} {pg gg:Nat} {rb:Nat→Nat} {f:Nat→Nat→Int} {i n m:Nat}
theorem range_cons {i n:Nat} (h:i≤n):List.range' i (n+1 - i)=i :: List.range' (i+1) (n+1 - (i+1)):=by
 have e:n+1 - i=(n+1 - (i+1))+1:=by omega
 rw [e,List.range'_succ]

theorem grid_new (hX:X.Ok) (hi:i≤n) {r:Nat} (h:Run (fun _=>False) w0 (star (NumO r (m+1) (fun _=>0)) (star (GridO pg gg rb f (i+1) n m) X)) W) :
  Run (fun _=>False) w0 (star (GridO pg gg (fun a=>if a=i then r else rb a) (fun a b=>if a=i then 0 else f a b) i n m) X) (W.setCell ⟨gg,i,none⟩ (.slice (some ⟨r,0,none⟩) (m+1) (m+1))):=by
 unfold GridO at h
 have oY:(star (NumO r (m+1) (fun _=>0)) (star (CellO pg #[.slice (some ⟨gg,0,none⟩) (n+1) (n+1)] 75) (star (bigK (List.range' (i+1) (n+1 - (i+1))) fun r=>NumO (rb r) (m+1) (f r)) X))).Ok:=star_ok num_ok (star_ok cell_ok (star_ok (bigK_ok fun _=>num_ok) hX))
 obtain ⟨F,hR,-,bk⟩:=(h.perm (by ac_rfl:_=star (RowO 40 1 (.slice (some ⟨gg,0,none⟩) (n+1) (n+1)) (n+1) (fv (n+1) fun r=>if i+1≤r then .slice (some ⟨rb r,0,none⟩) (m+1) (m+1) else .slice none 0 0)) (star (NumO r (m+1) (fun _=>0)) (star (CellO pg #[.slice (some ⟨gg,0,none⟩) (n+1) (n+1)] 75) (star (bigK (List.range' (i+1) (n+1 - (i+1))) fun r=>NumO (rb r) (m+1) (f r)) X))))).take row_ok oY
 have h1:=bk _ _ (row_set hR (i:=i) (by omega) (.slice (some ⟨r,0,none⟩) (m+1) (m+1)))
 rw [fv_set] at h1
 rw [fv_congr (g:=fun a=>if i≤a then Value.slice (some ⟨(if a=i then r else rb a),0,none⟩) (m+1) (m+1) else .slice none 0 0) (fun a ha=>by
  unfold upv
  by_cases e:a=i
  ·subst e;simp
  ·rw [if_neg e]
   show (if i+1≤a then Value.slice (some ⟨rb a,0,none⟩) (m+1) (m+1) else .slice none 0 0)=_
   by_cases h2:i+1≤a
   ·rw [if_pos h2,if_pos (by omega),if_neg e]
   ·rw [if_neg h2,if_neg (by omega)])] at h1
 unfold GridO
 rw [range_cons hi]
 have hb:bigK (List.range' (i+1) (n+1 - (i+1))) (fun r=>NumO (rb r) (m+1) (f r))=bigK (List.range' (i+1) (n+1 - (i+1))) (fun a=>NumO (if a=i then r else rb a) (m+1) (fun b=>if a=i then 0 else f a b)):=bigK_congr fun a ha=>by
  have:a≠i:=by rw [List.mem_range'_1] at ha;omega
  simp [this]
 rw [hb] at h1
 have hk:bigK (i :: List.range' (i+1) (n+1 - (i+1))) (fun a=>NumO (if a=i then r else rb a) (m+1) (fun b=>if a=i then 0 else f a b))=star (NumO r (m+1) (fun _=>0)) (bigK (List.range' (i+1) (n+1 - (i+1))) (fun a=>NumO (if a=i then r else rb a) (m+1) (fun b=>if a=i then 0 else f a b))):=by
  show star (NumO (if i=i then r else rb i) (m+1) (fun b=>if i=i then 0 else f i b)) (bigK (List.range' (i+1) (n+1 - (i+1))) (fun a=>NumO (if a=i then r else rb a) (m+1) (fun b=>if a=i then 0 else f a b)))=_
  rw [if_pos rfl]
  have e:(fun b:Nat=>if i=i then (0:Int) else f i b)=fun _=>0:=by funext b;rw [if_pos rfl]
  rw [e]
 rw [hk]
 exact h1.perm (by ac_rfl)
end
def GridRet (w:World) (c:Nat→Nat→Int) (d e:Nat→Int) (n m:Nat) (en:Ending) (w':World):Prop :=
 ∃ pg gg rb f,en=.returned (.slice (some ⟨gg,0,none⟩) (n+1) (n+1))∧Run (fun _=>False) w (star (GridO pg gg rb f 0 n m) emp) w'∧∀ r y,r≤n→y≤m→f r y=GR c d e n m (n - r) (m - y)
end Go.Proofs.YtbnnlpjpnihheaaGreatDoor.Asn
