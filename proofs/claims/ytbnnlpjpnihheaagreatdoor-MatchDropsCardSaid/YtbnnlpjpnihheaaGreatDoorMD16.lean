import Derived.Test.YtbnnlpjpnihheaaGreatDoorMD15
import Derived.WalkMore
import Derived.Test.YtbnnlpjpnihheaaGreatDoorMD14
set_option linter.unusedSimpArgs false
set_option linter.unusedVariables false
namespace Go.Proofs.YtbnnlpjpnihheaaGreatDoor.Asn
open Go.RowKit Go.CH Go.CH.Asg
open Go.ChangeMaps (setBlock)

theorem wp_nums {o:Oper} {a:Act} {w:World} {K:Act→World→Prop} {Q:Exit→Act→World→Prop} (l:Operand) (hop:o.op=Op.makeSlice 40 l l) (n:Nat) (hn:n≤1000) (hl:a.eval l=.int .i64 (n:Int))
  (hK:∀ w',Post w (fun _=>False) (NumO w.heap.size n (fun _=>0)) w'→K (a.put o.dst (.slice (some ⟨w.heap.size,0,none⟩) n n)) w'):o.wp Tryz.prog a w K Q :=
 wp_make intsOk (by decide) l hop n hn hl rfl fun w' h=>hK w' (by unfold NumO;rw [←show List.replicate n (Value.int .i64 0)=fv n (fun _=>.int .i64 0) from fv_const n _];exact h)
theorem wpList_rows {ops:Array Oper} {rest:List Oper} {o:Oper} {a:Act} {w:World} {Q:Exit→Act→World→Prop} (hg:o.guard=none) (l:Operand) (hop:o.op=Op.makeSlice 75 l l) (n:Nat) (hn:n≤1000) (hl:a.eval l=.int .i64 (n:Int))
  (hK:∀ w',Post w (fun _=>False) (RowO 40 1 (.slice (some ⟨w.heap.size,0,none⟩) n n) n (fv n fun _=>.slice none 0 0)) w'→wpList Tryz.prog ops Q rest (a.put o.dst (.slice (some ⟨w.heap.size,0,none⟩) n n)) w'):wpList Tryz.prog ops Q (o :: rest) a w :=
 wpList_make hg rowsOk (by decide) l hop n hn hl rfl fun w' h=>hK w' (by rw [←fv_const n _];exact h)
section
variable {w:World} {A B G:Option Addr} {c:Nat→Nat→Int} {d e:Nat→Int} {n m:Nat}
set_option maxRecDepth 100000 in
set_option maxHeartbeats 6400000 in
theorem grid_any (hq:Prq w A B G c d e n m) (ca cb cg:Nat):Calls Tryz.prog 58 #[.slice A n ca,.slice B n cb,.slice G m cg] w (GridRet w c d e n m):=by
 have HQ:=hide hq
 have hn7:=hq.n7
 have hm6:=hq.m6
 clear hq
 have HRET:=hide (show ∀ (pg gg:Nat) (rb:Nat→Nat) (f:Nat→Nat→Int) w',Run (fun _=>False) w (star (GridO pg gg rb f 0 n m) emp) w'→(∀ r y,r≤n→y≤m→f r y=GR c d e n m (n - r) (m - y))→GridRet w c d e n m (.returned (.slice (some ⟨gg,0,none⟩) (n+1) (n+1))) w' from fun pg gg rb f w' h1 h2=>⟨pg,gg,rb,f,rfl,h1,h2⟩)
 go_enter Tryz.func58,Tryz.ntmps58
 go_wp2_with (refine wpList_rows rfl (.tmp 13) rfl (n+1) (by omega) (by simp [Act.eval]) ?_;refine held ?_)
 refine Held.mk fun w1 hP1=>?_
 have R1:=((Run.begin w).fresh emp_ok hP1)
 have R2:=R1.fresh (star_ok row_ok emp_ok) (cell_new w1 #[.slice (some ⟨w.heap.size,0,none⟩) (n+1) (n+1)] 75)
 have R3:Hid (Run (fun _=>False) w (star (GridO w1.heap.size w.heap.size (fun _=>0) (fun _ _=>0) (n+1) n m) emp) _):=hide (by
  have e1:GridO w1.heap.size w.heap.size (fun _=>0) (fun _ _=>0) (n+1) n m=star (CellO w1.heap.size #[.slice (some ⟨w.heap.size,0,none⟩) (n+1) (n+1)] 75) (star (RowO 40 1 (.slice (some ⟨w.heap.size,0,none⟩) (n+1) (n+1)) (n+1) (fv (n+1) fun _=>.slice none 0 0)) emp):=by
   unfold GridO
   rw [Nat.sub_self]
   rw [fv_congr (g:=fun _=>Value.slice none 0 0) (fun r hr=>by rw [if_neg (by omega)])]
   rfl
  rw [e1]
  exact R2.one)
 clear hP1 R1 R2
 go_wp2_with fail
 generalize w1.heap.size=pg at *
 generalize w.heap.size=gg at *
 go_wp2
 go_loopg [8] (n+1) (fun g s8 wr=>∃ (x0:Int) (rb:Nat→Nat) (f:Nat→Nat→Int),s8=.int .i64 x0∧x0=(g:Int) - 1∧g≤n+1∧Run (fun _=>False) w (star (GridO pg gg rb f g n m) emp) wr∧∀ r y,g≤r→r≤n→y≤m→f r y=GR c d e n m (n - r) (m - y))
 case atStart=>exact ⟨(n:Int),_,_,rfl,by omega,Nat.le_refl _,R3.out,fun r y h1 h2=>by omega⟩
 case round =>
  obtain ⟨x0,rb,f,rfl,hx0,hg,hR,hf⟩:=hrel
  have HR:=hide hR
  have HF:=hide hf
  clear hf R3
  cases gk with
  | zero =>
   have tx:¬ 0≤x0:=by omega
   have c0:=grid_pg hR
   have HFF:=hide (fun r y h1 h2=>HF.out r y (Nat.zero_le _) h1 h2)
   clear hx0 hR
   go_wp2
   go_ret
   exact HRET.out _ _ _ _ _ HR.out HFF.out
  | succ i =>
   obtain rfl:x0=(i:Int):=by omega
   have hi:i≤n:=by omega
   have hR2:=hR.drew (star_ok gridO_ok emp_ok)
   have HR2:=hide hR2
   have c0:=grid_pg hR2
   have hin:(i:Int) < (n:Int)+1:=by omega
   have tm:IntKind.i64.wrap ((m:Int)+1)=(m:Int)+1:=IntWalk.i64_in _ (by omega)
   clear hx0 hR hR2 HR
   go_wp2_with fail
   refine wp_region_ley (fun w'=>w'.cell? ⟨pg,0,none⟩=some (.slice (some ⟨gg,0,none⟩) (n+1) (n+1))) (by kernel_rfl) (by kernel_rfl) (by kernel_rfl) c0 ?_
   (repeat ((first | refine ley_skip (by rfl) ?_ | (refine ley_read (v:=?_) (by rfl) ?_ ?_;rotate_left;(focus (intro w' hS';go_simp;(try with_reducible rfl);done))));try simp only [Act.put,List.setIfInBounds_toArray,List.set_cons_zero,List.set_cons_succ]))
   refine ley_chain rfl (by rfl) (fun KK hK=>?_)
   obtain ⟨ri,hri⟩:∃ ri,ri=wr.drew.heap.size:=⟨_,rfl⟩
   refine wp_nums (.tmp 25) rfl (m+1) (by omega) (by simp [Act.eval,tm]) ?_
   intro w2 hP2
   rw [←hri] at hP2 ⊢
   clear hri
   have R4:=HR2.out.fresh (star_ok gridO_ok emp_ok) hP2
   have c1:=grid_pg R4.drop
   have R5:=grid_new emp_ok hi R4
   have HR5:=hide R5
   have hrow0:w2.cell? ⟨gg,i,none⟩=some (.slice none 0 0)∧w2.frozen? ⟨gg,i,none⟩=false:=by
    have h9:=R4.drop
    unfold GridO at h9
    obtain ⟨F,hC⟩:=h9.assoc.rot.assoc.fst
    refine ⟨?_,row_free hC i (by omega)⟩
    have:=row_cell hC (fv_get (fun r=>if i+1≤r then Value.slice (some ⟨rb r,0,none⟩) (m+1) (m+1) else .slice none 0 0) (show i < n+1 by omega))
    rwa [if_neg (by omega)] at this
   obtain ⟨z0,z1⟩:=hrow0
   refine hK.out _ _ c1 ?_
   clear hK hP2 R4 R5 c0 c1 HR2
   (repeat ((first | refine ley_skip (by rfl) ?_ | (refine ley_read (v:=?_) (by rfl) ?_ ?_;rotate_left;(focus (intro w' hS';go_simp;(try with_reducible rfl);done))));try simp only [Act.put,List.setIfInBounds_toArray,List.set_cons_zero,List.set_cons_succ]))
   refine ley_last rfl (by rfl) (fun KK hK=>?_)
   go_wp2_with fail
   refine hK.out _ _ ?_
   clear hK z0 z1 tm
   have HF2:=hide (show ∀ r y,i < r→r≤n→y≤m→(if r=i then 0 else f r y)=GR c d e n m (n - r) (m - y) from fun r y h1 h2 h3=>by rw [if_neg (by omega)];exact HF.out r y (by omega) h2 h3)
   clear HF
   go_wp2
   go_loopg [9] (m+1) (fun g2 s9 wr=>∃ (x0:Int) (f:Nat→Nat→Int),s9=.int .i64 x0∧x0=(g2:Int) - 1∧g2≤m+1∧Run (fun _=>False) w (star (GridO pg gg (fun a=>if a=i then ri else rb a) f i n m) emp) wr∧(∀ r y,i < r→r≤n→y≤m→f r y=GR c d e n m (n - r) (m - y))∧(∀ y,g2≤y→y≤m→f i y=GR c d e n m (n - i) (m - y))∧∀ y,y < g2→f i y=0)
   case atStart=>exact ⟨(m:Int),_,rfl,by omega,Nat.le_refl _,HR5.out,HF2.out,fun y h1 h2=>by omega,fun y _=>by simp⟩
   case round =>
    obtain ⟨x0,f2,rfl,hx0,hg2,hR,hf1,hf2,hf3⟩:=hrel
    have HF1:=hide hf1
    have HF3:=hide hf2
    have HF4:=hide hf3
    clear hf1 hf2 hf3 HR5 HF2
    cases gk with
    | zero =>
     have tx:¬ 0≤x0:=by omega
     have HRZ:=hide hR
     have HFZ:=hide (show ∀ r y,i≤r→r≤n→y≤m→f2 r y=GR c d e n m (n - r) (m - y) from fun r y h1 h2 h3=>by
      by_cases e:r=i
      ·subst e;exact HF3.out y (Nat.zero_le _) h3
      ·exact HF1.out r y (by omega) h2 h3)
     clear hx0 hR
     go_wp2
     go_roundg i
     case measure=>omega
     case rel=>exact ⟨(i:Int) - 1,_,f2,by go_num,rfl,by omega,HRZ.out,HFZ.out⟩
    | succ j =>
     obtain rfl:x0=(j:Int):=by omega
     have hj:j≤m:=by omega
     have R6:Run (fun _=>False) w (GvO pg gg wr.heap.size (fun a=>if a=i then ri else rb a) f2 i n m (-1) emp) (wr.alloc (.cells #[.int .i64 (-1)] 3)):=by
      unfold GvO
      exact (hR.fresh (star_ok gridO_ok emp_ok) (cell_new wr #[.int .i64 (-1)] 3)).rot
     have HFB:=hide (show ∀ r y,i≤r→r≤n→y≤m→0≤f2 r y∧f2 r y≤10000000 from fun r y h1 h2 h3=>by
      by_cases e:r=i
      ·subst e
       by_cases h4:y < j+1
       ·rw [HF4.out y h4];omega
       ·rw [HF3.out y (by omega) h3];have:=GR_bnd HQ.out (a:=n - r) (b:=m - y) (by omega) (by omega);omega
      ·rw [HF1.out r y (by omega) h2 h3];have:=GR_bnd HQ.out (a:=n - r) (b:=m - y) (by omega) (by omega);omega)
     have KN:=hide (nbg_any HQ.out emp_ok R6 hi hj HFB.out ca cb cg)
     have HVAL:=hide (nb_val HQ.out (f:=f2) (i:=i) (j:=j) hi hj (fun h=>HF1.out (i+1) j (by omega) (by omega) hj) (fun h=>HF3.out (j+1) (by omega) (by omega)) (fun h1 h2=>HF1.out (i+1) (j+1) (by omega) (by omega) (by omega)))
     generalize nb3 c f2 n m i j (nb2 e f2 m i j (nb1 d f2 n i j (-1)))=val at *
     clear hx0 hR R6
     go_wp2_with fail
     refine KN.out.mono ?_
     rintro e9 w4 ⟨rfl,hR4⟩
     have hR5:=hR4.drew (gv_ok emp_ok)
     obtain ⟨c3,-⟩:=gv_cell hR5
     unfold GvO at hR5
     have c1:=grid_pg hR5
     have c2:=grid_gg hR5 (Nat.le_refl i) hi
     have c4:=grid_at hR5 (Nat.le_refl i) hi hj
     have f4:=grid_free hR5 (Nat.le_refl i) hi j
     simp only [if_true] at c2 c4 f4
     have hR6:=hR5.rot.drop
     have hin:(i:Int) < (n:Int)+1:=by omega
     have hjm:(j:Int) < (m:Int)+1:=by omega
     generalize wr.heap.size=pb at *
     by_cases hv:val < 0
     ·rw [if_pos hv] at HVAL
      have HR7:=hide (grid_put emp_ok hR6 (Nat.le_refl i) hi hj 0 (f':=fun a b=>if a=i∧b=j then 0 else f2 a b) (fun _ _=>rfl))
      simp only [if_true] at HR7
      have HG1:=hide (show ∀ r y,i < r→r≤n→y≤m→(if r=i∧y=j then 0 else f2 r y)=GR c d e n m (n - r) (m - y) from fun r y h1 h2 h3=>by rw [if_neg (by omega)];exact HF1.out r y h1 h2 h3)
      have HG2:=hide (show ∀ y,j≤y→y≤m→(if i=i∧y=j then 0 else f2 i y)=GR c d e n m (n - i) (m - y) from fun y h1 h2=>by
       by_cases e:y=j
       ·subst e;rw [if_pos ⟨rfl,rfl⟩];exact HVAL.out
       ·rw [if_neg (by omega)];exact HF3.out y (by omega) h2)
      have HG3:=hide (show ∀ y,y < j→(if i=i∧y=j then 0 else f2 i y)=0 from fun y h1=>by rw [if_neg (by omega)];exact HF4.out y (by omega))
      clear hR4 hR5 hR6 HVAL HF1 HF3 HF4 HFB KN
      go_wp2_with fail
      refine wp_region_ley (fun w'=>w'=w4.drew) (by kernel_rfl) (by kernel_rfl) (by kernel_rfl) rfl ?_
      generalize w4.drew=wd at *
      (repeat ((first | refine ley_skip (by rfl) ?_ | (refine ley_read (v:=?_) (by rfl) ?_ ?_;rotate_left;(focus (intro w' hS';go_simp;(try with_reducible rfl);done))));try simp only [Act.put,List.setIfInBounds_toArray,List.set_cons_zero,List.set_cons_succ]))
      refine ley_last rfl (by rfl) (fun KK hK=>?_)
      go_wp2_with fail
      refine hK.out _ _ ?_
      clear hK c1 c2 c3 c4 f4
      go_wp2
      go_roundg j
      case measure=>omega
      case rel=>exact ⟨(j:Int) - 1,_,by go_num,rfl,by omega,by first | exact HR7.out | (rw [show max val 0=0 by omega];exact HR7.out),HG1.out,fun y h1 h2=>by have:=HG2.out y h1 h2;simpa using this,fun y h1=>by have:=HG3.out y h1;simpa using this⟩
     ·rw [if_neg hv] at HVAL
      have HR7:=hide (grid_put emp_ok hR6 (Nat.le_refl i) hi hj val (f':=fun a b=>if a=i∧b=j then val else f2 a b) (fun _ _=>rfl))
      simp only [if_true] at HR7
      have HG1:=hide (show ∀ r y,i < r→r≤n→y≤m→(if r=i∧y=j then val else f2 r y)=GR c d e n m (n - r) (m - y) from fun r y h1 h2 h3=>by rw [if_neg (by omega)];exact HF1.out r y h1 h2 h3)
      have HG2:=hide (show ∀ y,j≤y→y≤m→(if i=i∧y=j then val else f2 i y)=GR c d e n m (n - i) (m - y) from fun y h1 h2=>by
       by_cases e:y=j
       ·subst e;rw [if_pos ⟨rfl,rfl⟩];exact HVAL.out
       ·rw [if_neg (by omega)];exact HF3.out y (by omega) h2)
      have HG3:=hide (show ∀ y,y < j→(if i=i∧y=j then val else f2 i y)=0 from fun y h1=>by rw [if_neg (by omega)];exact HF4.out y (by omega))
      clear hR4 hR5 hR6 HVAL HF1 HF3 HF4 HFB KN
      go_wp2_with fail
      refine wp_region_ley (fun w'=>w'=w4.drew) (by kernel_rfl) (by kernel_rfl) (by kernel_rfl) rfl ?_
      generalize w4.drew=wd at *
      (repeat ((first | refine ley_skip (by rfl) ?_ | (refine ley_read (v:=?_) (by rfl) ?_ ?_;rotate_left;(focus (intro w' hS';go_simp;(try with_reducible rfl);done))));try simp only [Act.put,List.setIfInBounds_toArray,List.set_cons_zero,List.set_cons_succ]))
      refine ley_last rfl (by rfl) (fun KK hK=>?_)
      go_wp2_with fail
      refine hK.out _ _ ?_
      clear hK c1 c2 c3 c4 f4
      go_wp2
      go_roundg j
      case measure=>omega
      case rel=>exact ⟨(j:Int) - 1,_,by go_num,rfl,by omega,by first | exact HR7.out | (rw [show max val 0=val by omega];exact HR7.out),HG1.out,fun y h1 h2=>by have:=HG2.out y h1 h2;simpa using this,fun y h1=>by have:=HG3.out y h1;simpa using this⟩
end
end Go.Proofs.YtbnnlpjpnihheaaGreatDoor.Asn
namespace Go.CH.Asg
section
variable {c:Nat→Nat→Int} {d e:Nat→Int} {n m:Nat}

def otst (c:Nat→Nat→Int) (d e:Nat→Int) (n m a b t:Nat):Bool:=decide (sg t (fun x=>e (m - b+x))+c (n - (a+1)) (m - b+t)+GR c d e n m a (b - (t+1))=GR c d e n m (a+1) b)
theorem gro_hit {a b t:Nat} (ht:t < b) (hp:otst c d e n m a b t=true) (hb:∀ u,u < t→otst c d e n m a b u=false):gro c d e n m (a+1) b=((m - b+t:Nat):Int) :: gro c d e n m a (b - (t+1)):=by
 rw [gro]
 have:=find_hit (p:=fun t=>decide (sg t (fun x=>e (m - b+x))+c (n - (a+1)) (m - b+t)+GR c d e n m a (b - (t+1))=GR c d e n m (a+1) b)) ht hp hb
 rw [this]
theorem gro_miss {a b:Nat} (hb:∀ u,u < b→otst c d e n m a b u=false):gro c d e n m (a+1) b=(m:Int) :: gro c d e n m a b:=by
 rw [gro]
 have:=find_miss (m:=b) (p:=fun t=>decide (sg t (fun x=>e (m - b+x))+c (n - (a+1)) (m - b+t)+GR c d e n m a (b - (t+1))=GR c d e n m (a+1) b)) hb
 rw [this]
end
end Go.CH.Asg
namespace Go.Proofs.YtbnnlpjpnihheaaGreatDoor.Asn
open Go.RowKit Go.CH Go.CH.Asg
open Go.ChangeMaps (setBlock)

def VecV (w:World) (v:Value) (l:List Int):Prop:=∃ A c,v=.slice A l.length c∧Vec w A l
def ordL (C:List (List Int)) (D E:List Int):List Int:=if vld C D E then gro (cF C) (lF D) (lF E) D.length E.length D.length E.length else []
def ordK (C:List (List Int)) (D E:List Int):Int:=if vld C D E then GR (cF C) (lF D) (lF E) D.length E.length D.length E.length else 0
def errV (C:List (List Int)) (D E:List Int):Int:=if vld C D E then 0 else 1
def OrdRet (w:World) (C:List (List Int)) (D E:List Int) (e:Ending) (w':World):Prop :=
 ∃ v,e=.returned (.tuple #[v,.int .i64 (ordK C D E),.int .i64 (errV C D E)])∧Below w.heap.size w w'∧VecV w' v (ordL C D E)
theorem vecO_snoc {w0 W:World} {Y:CH.Own} {A:Option Addr} {c:Nat} {l:List Int} {x:Int} (h:Run (fun _=>False) w0 (star (RowO 3 1 (.slice A (l.length+1) c) (l.length+1) (ints l ++ [.int .i64 x])) Y) W):Run (fun _=>False) w0 (star (VecO A c (l ++ [x])) Y) W:=by
 rw [vec_snoc] at h;exact h
theorem split_gro {c:Nat→Nat→Int} {d e:Nat→Int} {n m a b b':Nat} {x:Int} {ps L:List Int} (h:L=ps ++ gro c d e n m (a+1) b) (hg:gro c d e n m (a+1) b=x :: gro c d e n m a b'):L=(ps ++ [x]) ++ gro c d e n m a b':=by
 rw [h,hg];simp
end Go.Proofs.YtbnnlpjpnihheaaGreatDoor.Asn
namespace Go.Proofs.YtbnnlpjpnihheaaGreatDoor.Asn
open Go.RowKit Go.CH Go.CH.Asg
open Go.ChangeMaps (setBlock)
set_option maxRecDepth 100000 in
set_option maxHeartbeats 12800000 in
theorem ordered_any {w:World} {A B G:Option Addr} {V:List (Option Addr × Nat)} {c d e:Nat} {C:List (List Int)} {D E:List Int} (h:Mat w A C V) (hl:C.length≤maxLen) (hD:Vec w B D) (hE:Vec w G E) :
  Calls Tryz.prog 32 #[.slice A C.length c,.slice B D.length d,.slice G E.length e] w (OrdRet w C D E):=by
 have KV:=hide (valid_any (c:=c) (d:=d) (e:=e) h hl hD hE)
 have HP:=hide (fun hv=>prb_of (w:=w) (C:=C) (D:=D) (E:=E) hv h hD hE)
 clear h hD hE hl
 cases hv:vld C D E with
 | false =>
  have HR:=hide (show ∀ w':World,Below w.heap.size w w'→OrdRet w C D E (.returned (.tuple #[.slice none 0 0,.int .i64 0,.int .i64 1])) w' from fun w' hb=>⟨_,by simp only [ordK,errV,hv];rfl,hb,by simp only [ordL,hv];exact ⟨none,0,rfl,Src.none_⟩⟩)
  rw [hv] at KV
  clear HP hv
  go_enter Tryz.func32,Tryz.ntmps32
  go_wp2
  go_step3
  go_wp2_with fail
  refine KV.out.mono ?_
  rintro e9 w1 ⟨rfl,hb1⟩
  have HB:=hide hb1
  clear hb1 KV
  go_wp2
  try rw [Exit.noGoto_ret]
  go_ret3
  exact HR.out _ HB.out
 | true =>
  rw [hv] at KV
  have hP:=HP.out hv
  have hn6:=hP.n6
  have hm6:=hP.m6
  obtain ⟨nc,hnc⟩:∃ n,n=C.length:=⟨_,rfl⟩
  obtain ⟨n,hn⟩:∃ n,n=D.length:=⟨_,rfl⟩
  obtain ⟨m,hm⟩:∃ n,n=E.length:=⟨_,rfl⟩
  have hnn:nc=n:=by rw [hnc,hn];exact hP.hn
  have HRET:=hide (show ∀ (v:Value) (w':World),Below w.heap.size w w'→VecV w' v (gro (cF C) (lF D) (lF E) n m n m)→OrdRet w C D E (.returned (.tuple #[v,.int .i64 (GR (cF C) (lF D) (lF E) n m n m),.int .i64 0])) w' from fun v w' hb ha=>⟨v,by simp only [ordK,errV,hv,hn,hm];rfl,hb,by simp only [ordL,hv,←hn,←hm];exact ha⟩)
  rw [←hn,←hm] at hP
  rw [←hn] at hn6
  rw [←hm] at hm6
  have HQ:=hide hP.q
  rw [←hnc,←hn,←hm] at KV
  rw [←hnc,←hn,←hm]
  subst hnn
  clear HP hv hP hnc hn hm
  generalize cF C=cc at *
  generalize lF D=dd at *
  generalize lF E=ee at *
  go_enter Tryz.func32,Tryz.ntmps32
  go_wp2
  go_step3
  go_wp2_with fail
  refine KV.out.mono ?_
  rintro e9 w1 ⟨rfl,hb1⟩
  have HB1:=hide hb1
  have KG:=hide (grid_any (HQ.out.below hb1) c d e)
  clear hb1 KV
  go_wp2_with fail
  refine KG.out.mono ?_
  rintro e9 w2 ⟨pg,gg,rb,f,rfl,hR2,hf⟩
  have HF:=hide hf
  have hR3:Run (fun _=>False) w (star (VecO none 0 []) (GridO pg gg rb f 0 nc m)) w2:=by
   have h2:=((Run.begin w).below emp_ok HB1.out).fresh emp_ok ((hR2.imp fun _ _ h=>star_emp h).post gridO_ok)
   exact (h2.imp fun _ _ h=>star_emp h).imp fun W F hh=>⟨fun _=>False,F,vec_nil W,hh,fun _ h=>h.elim,fun i=>by simp⟩
  have HR3:=hide hR3
  clear KG hR2 hf hR3
  go_wp2
  go_step3
  go_wp2
  go_loopg [10,11,27] nc (fun g1 p s i wr=>∃ (k fr:Nat) (A1:Option Addr) (c1:Nat) (ps:List Int),k+g1=nc∧fr≤m∧p=.slice A1 ps.length c1∧s=.int .i64 fr∧i=.int .i64 k∧ps.length=k∧gro cc dd ee nc m nc m=ps ++ gro cc dd ee nc m (nc - k) (m - fr)∧Run (fun _=>False) w (star (VecO A1 c1 ps) (GridO pg gg rb f 0 nc m)) wr)
  case atStart=>exact ⟨0,0,none,0,[],Nat.zero_add _,Nat.zero_le _,rfl,rfl,rfl,rfl,rfl,HR3.out⟩
  case round =>
   obtain ⟨k,fr,A1,c1,ps,hg1,hfr,rfl,rfl,rfl,hpl,hg,hR⟩:=hrel
   have HR:=hide hR
   have HPL:=hide hpl
   have HG:=hide hg
   clear hR hpl hg HR3
   cases gk with
   | succ g1 =>
    have hlt:k < nc:=by omega
    obtain ⟨a,ha⟩:∃ a,nc=a+1+k:=⟨nc - k - 1,by omega⟩
    have hnk:nc - k=a+1:=by omega
    have hna:nc - (a+1)=k:=by omega
    have hnk1:nc - (k+1)=a:=by omega
    rw [hnk] at HG
    have hmb:m - (m - fr)=fr:=by omega
    have HHIT:=hide (fun (t:Nat) ht hp hb=>gro_hit (c:=cc) (d:=dd) (e:=ee) (n:=nc) (m:=m) (a:=a) (b:=m - fr) (t:=t) ht hp hb)
    have HMISS:=hide (fun hb=>gro_miss (c:=cc) (d:=dd) (e:=ee) (n:=nc) (m:=m) (a:=a) (b:=m - fr) hb)
    have HTST:=hide (fun (t:Nat)=>show otst cc dd ee nc m a (m - fr) t=decide (sg t (fun x=>ee (fr+x))+cc k (fr+t)+GR cc dd ee nc m a (m - fr - (t+1))=GR cc dd ee nc m (a+1) (m - fr)) by unfold otst;rw [hna,hmb])
    rw [hmb] at HHIT
    have HF0:=hide (show f k fr=GR cc dd ee nc m (a+1) (m - fr) by rw [HF.out k fr (by omega) hfr,hnk])
    have HF1:=hide (show ∀ j,j < m→f (k+1) (j+1)=GR cc dd ee nc m a (m - (j+1)) from fun j hj=>by rw [HF.out (k+1) (j+1) (by omega) (by omega),hnk1])
    have HB0:=hide (GR_bnd HQ.out (a:=a+1) (b:=m - fr) (by omega) (by omega))
    have HB2:=hide (fun j=>GR_bnd HQ.out (a:=a) (b:=m - (j+1)) (by omega) (by omega))
    have HNK:=hide (show nc - (k+1)=a from hnk1)
    have ha6:a≤6:=by omega
    clear hnk hna hnk1 hmb ha
    obtain ⟨ba,oa,RR,cR,rfl,hca,hrow⟩:=HQ.out.R k hlt
    have HROWS:=hide hrow
    have c0:=hca _ HR.out.bel
    clear hca hrow
    go_wp2
    go_loopg [10,11,14,15] (m - fr) (fun g2 p s q x wr=>∃ t:Nat,fr+t+g2=m∧p=.slice A1 ps.length c1∧s=.int .i64 fr∧q=.int .i64 (sg t (fun x=>ee (fr+x)))∧x=.int .i64 ((fr+t:Nat):Int)∧(∀ u,u < t→otst cc dd ee nc m a (m - fr) u=false)∧Run (fun _=>False) w (star (VecO A1 c1 ps) (GridO pg gg rb f 0 nc m)) wr)
    case atStart=>exact ⟨0,by omega,rfl,rfl,rfl,rfl,fun t ht=>absurd ht (Nat.not_lt_zero t),HR.out⟩
    case round =>
     obtain ⟨t,hg2,rfl,rfl,rfl,rfl,hno,hR⟩:=hrel
     have HNO:=hide hno
     have HRI:=hide hR
     clear HR hR hno c0
     have HSB:=hide (sg_bnd (n:=t) (f:=fun x=>ee (fr+x)) (a:=0) (b:=10000) (fun x hx=>HQ.out.eb (fr+x) (by omega)))
     cases gk with
     | succ g2 =>
      obtain ⟨j,hj⟩:∃ j,j=fr+t:=⟨_,rfl⟩
      have hjt:j < m:=by omega
      obtain ⟨b',o',rfl,hcc⟩:=HROWS.out j hjt
      have hcb:=HQ.out.cb k hlt j hjt
      obtain ⟨be,oe,rfl,hce⟩:=HQ.out.E j hjt
      have heb:=HQ.out.eb j hjt
      have hRD:=HRI.out.drew (star_ok vec_ok gridO_ok)
      have HRD:=hide hRD
      have c5:=hcc _ hRD.bel
      have c6:=hce _ hRD.bel
      have hGD:=hRD.swap
      have k1:=grid_gg hGD (r:=k+1) (Nat.zero_le _) (by omega)
      have k2:=grid_gg hGD (r:=k) (Nat.zero_le _) (by omega)
      have k3:=grid_at hGD (r:=k+1) (y:=j+1) (Nat.zero_le _) (by omega) (by omega)
      have k4:=grid_at hGD (r:=k) (y:=fr) (Nat.zero_le _) (by omega) hfr
      rw [HF1.out j hjt] at k3
      rw [HF0.out] at k4
      have HT1:=hide (HTST.out t)
      have hs1:=HSB.out
      have HS:=hide (sg_succ (n:=t) (f:=fun x=>ee (fr+x)))
      have hb2:=HB2.out j
      have hb0:=HB0.out
      rw [show m - fr - (t+1)=m - (j+1) by omega,←hj] at HT1
      rw [←hj] at HS ⊢
      generalize sg t (fun x=>ee (fr+x))=ss at *
      generalize GR cc dd ee nc m a (m - (j+1))=T1 at *
      generalize GR cc dd ee nc m (a+1) (m - fr)=T0 at *
      have ht6:(t:Int)≤6:=by omega
      have t1:IntKind.i64.wrap ((k:Int)+1)=((k+1:Nat):Int):=by rw [IntWalk.i64_in _ (by omega)];omega
      have t1':IntKind.i64.wrap ((j:Int)+1)=((j+1:Nat):Int):=by rw [IntWalk.i64_in _ (by omega)];omega
      have t2:IntKind.i64.wrap (ss+cc k j)=ss+cc k j:=IntWalk.i64_in _ (by omega)
      have t3:IntKind.i64.wrap (ss+cc k j+T1)=ss+cc k j+T1:=IntWalk.i64_in _ (by omega)
      have ti:(0:Int)≤(k:Int)+1:=by omega
      have ti2:(k:Int) < (nc:Int)+1:=by omega
      have ti3:(0:Int)≤(j:Int)+1:=by omega
      have ti4:(fr:Int) < (m:Int)+1:=by omega
      clear hcc hce hRD hGD HRI HSB
      by_cases heq:ss+cc k j+T1=T0
      ·have HH:=HHIT.out t (by omega) (by rw [HT1.out];simp [heq]) HNO.out
       rw [show m - fr - (t+1)=m - (j+1) by omega,←hj] at HH
       have HG2:=hide (split_gro HG.out HH)
       rw [←HNK.out] at HG2
       have t4:(ss+cc k j+T1 == T0)=true:=by simpa using heq
       have t5:IntKind.i64.wrap T0=T0:=IntWalk.i64_in _ (by omega)
       clear HH HT1 hs1 hb2 hb0 hj
       go_wp2_with fail
       refine wp_region_lex (fun w'=>w'=wr.drew) (by kernel_rfl) (by kernel_rfl) rfl ?_
       generalize wr.drew=wx at *
       (repeat ((first | refine lex_skip (by rfl) ?_ | (refine lex_read (v:=?_) (by rfl) ?_ ?_;rotate_left;(focus (intro w' hS';go_simp;(try with_reducible rfl);done))));try simp only [Act.put,List.setIfInBounds_toArray,List.set_cons_zero,List.set_cons_succ]))
       refine lex_nil ?_
       have HRB:=hide HRD.out
       clear t1 t1' t2 t3 t4 t5 ti ti2 ti3 ti4 k1 k2 k3 k4 heq c5 c6 HRD HNO HS
       go_wp2_with (at_builtin;refine held ?_)
       obtain ⟨F7,hR7,-,bk7⟩:=(HRB.out.below (star_ok vec_ok gridO_ok) ((Below.refl _ _).alloc (Nat.le_refl _) (.cells #[.int .i64 j] 3))).take vec_ok gridO_ok
       refine Held.mk (wpList_app rfl (.tmp 63) (.tmp 65) rfl intsOk _ 0 (v:=.slice A1 ps.length c1) (n:=ps.length) (xs:=ints ps) rfl hR7.1 (A:=some ⟨wx.heap.size,0,none⟩) (m:=1) (c:=1) (news:=[.int .i64 j]) rfl (src_lit wx j) (by rw [HPL.out];omega) (by decide) (Nat.zero_le _) ?_)
       intro v8 w8 ho8 hg8 hv8
       have S8:=bk7 _ _ (row_app hR7 ho8 hg8 hv8)
       obtain ⟨A8,c8,rfl⟩:=own_form ho8
       have S9:=hide (vecO_snoc S8)
       have HLN:=hide (show ps.length+1=(ps ++ [((j:Nat):Int)]).length by simp)
       clear ho8 hg8 hv8 bk7 hR7 HRB S8
       go_wp2
       go_roundg g1
       case measure=>omega
       case rel=>exact ⟨k+1,j+1,A8,c8,ps ++ [((j:Nat):Int)],by omega,by omega,by rw [HLN.out],by go_num,by go_num,by rw [List.length_append,HPL.out];rfl,HG2.out,S9.out⟩
      ·have HNO2:=hide (show ∀ u,u < t+1→otst cc dd ee nc m a (m - fr) u=false from fun u hu=>by
        by_cases e:u=t
        ·subst e;rw [HT1.out];simp [heq]
        ·exact HNO.out u (by omega))
       have t4:(ss+cc k j+T1 == T0)=false:=by simpa using heq
       have HJ:=hide hj
       clear HT1 heq hb2 hb0 hj
       go_wp2_with fail
       refine wp_region_lex (fun w'=>w'=wr.drew) (by kernel_rfl) (by kernel_rfl) rfl ?_
       generalize wr.drew=wd at *
       (repeat ((first | refine lex_skip (by rfl) ?_ | (refine lex_read (v:=?_) (by rfl) ?_ ?_;rotate_left;(focus (intro w' hS';go_simp;(try with_reducible rfl);done))));try simp only [Act.put,List.setIfInBounds_toArray,List.set_cons_zero,List.set_cons_succ]))
       refine lex_nil ?_
       clear t1 t1' t2 t3 t4 ti ti2 ti3 ti4 k1 k2 k3 k4 c5
       go_wp2
       go_roundg g2
       case measure=>omega
       case rel=>exact ⟨t+1,by omega,rfl,rfl,by rw [HS.out];try go_num,by rw [HJ.out];go_num,HNO2.out,HRD.out⟩
     | zero =>
      obtain ⟨j,hj⟩:∃ j,j=fr+t:=⟨_,rfl⟩
      obtain rfl:j=m:=by omega
      have HH:=HMISS.out (fun u hu=>HNO.out u (by omega))
      have HG2:=hide (split_gro HG.out HH)
      rw [←HNK.out] at HG2
      have HRB:=hide HRI.out
      rw [←hj]
      generalize wr=wx at *
      clear HH HRI HNO hj HSB
      go_wp2_with (at_builtin;refine held ?_)
      obtain ⟨F7,hR7,-,bk7⟩:=(HRB.out.below (star_ok vec_ok gridO_ok) ((Below.refl _ _).alloc (Nat.le_refl _) (.cells #[.int .i64 j] 3))).take vec_ok gridO_ok
      refine Held.mk (wpList_app rfl (.tmp 75) (.tmp 78) rfl intsOk _ 0 (v:=.slice A1 ps.length c1) (n:=ps.length) (xs:=ints ps) rfl hR7.1 (A:=some ⟨wx.heap.size,0,none⟩) (m:=1) (c:=1) (news:=[.int .i64 j]) rfl (src_lit wx j) (by rw [HPL.out];omega) (by decide) (Nat.zero_le _) ?_)
      intro v8 w8 ho8 hg8 hv8
      have S8:=bk7 _ _ (row_app hR7 ho8 hg8 hv8)
      obtain ⟨A8,c8,rfl⟩:=own_form ho8
      have S9:=hide (vecO_snoc S8)
      have HLN:=hide (show ps.length+1=(ps ++ [((j:Nat):Int)]).length by simp)
      clear ho8 hg8 hv8 bk7 hR7 HRB S8
      go_wp2
      go_roundg g1
      case measure=>omega
      case rel=>exact ⟨k+1,fr,A8,c8,ps ++ [((j:Nat):Int)],by omega,by omega,by rw [HLN.out],by go_num,by go_num,by rw [List.length_append,HPL.out];rfl,HG2.out,S9.out⟩
   | zero =>
    obtain rfl:k=nc:=by omega
    have HPS:=hide (show gro cc dd ee k m k m=ps by rw [HG.out,Nat.sub_self];exact List.append_nil ps)
    have hRD:=HR.out.drew (star_ok vec_ok gridO_ok)
    have HRD:=hide hRD
    have k2:=grid_gg hRD.swap (r:=0) (Nat.zero_le _) (Nat.zero_le _)
    have k4:=grid_at hRD.swap (r:=0) (y:=0) (Nat.zero_le _) (Nat.zero_le _) (Nat.zero_le _)
    rw [HF.out 0 0 (Nat.zero_le _) (Nat.zero_le _),Nat.sub_zero,Nat.sub_zero] at k4
    have ti2:(0:Int) < (k:Int)+1:=by omega
    have ti4:(0:Int) < (m:Int)+1:=by omega
    clear HG hg1 hRD HR
    go_wp2_with fail
    refine wp_region_lex (fun w'=>w'=wr.drew) (by kernel_rfl) (by kernel_rfl) rfl ?_
    generalize wr.drew=wd at *
    (repeat ((first | refine lex_skip (by rfl) ?_ | (refine lex_read (v:=?_) (by rfl) ?_ ?_;rotate_left;(focus (intro w' hS';go_simp;(try with_reducible rfl);done))));try simp only [Act.put,List.setIfInBounds_toArray,List.set_cons_zero,List.set_cons_succ]))
    refine lex_nil ?_
    clear k2 k4 ti2 ti4
    go_wp2
    try rw [Exit.noGoto_ret]
    go_ret3
    refine HRET.out _ _ HRD.out.bel ?_
    rw [HPS.out]
    obtain ⟨F,hV⟩:=HRD.out.fst
    exact ⟨A1,c1,rfl,vec_vec hV⟩
end Go.Proofs.YtbnnlpjpnihheaaGreatDoor.Asn
namespace Go.CH.Mtc
open Go.CH.Scr Go.CH.Pot
section
variable {T:Tab} {a b:NameM}
theorem okM_iff:okM T a b=true↔validT T=true∧validN a=true∧validN b=true:=by unfold okM;rw [Bool.and_eq_true,Bool.and_eq_true]
theorem sg_le {n:Nat} {f:Nat→Int} {k:Int} (h:∀ i,f i≤k):Asg.sg n f≤n*k:=by
 induction n with
 | zero=>simp [Asg.sg]
 | succ n ih =>
  have h1:=h n
  rw [Asg.sg_succ,Int.natCast_add,Int.add_mul]
  omega
theorem any_bnd (h:okM T a b=true):0≤anyK T a b∧anyK T a b≤12000∧ordK T a b≤12000:=by
 obtain ⟨hv,ha,hb⟩:=okM_iff.1 h
 have h1:=(validN_iff.1 ha).2.2
 have h2:=(validN_iff.1 hb).2.2
 have h3:=law_all (MatP.some h)
 have h4:Asg.sg a.ws.length (dM T a)≤a.ws.length*1000:=sg_le fun i=>(dM_bnd hv i).2
 have h5:Asg.sg b.ws.length (dM T b)≤b.ws.length*1000:=sg_le fun i=>(dM_bnd hv i).2
 have hn:∀ P,Asg.Asg a.ws.length b.ws.length P→0≤Asg.cost (cM T a b) (dM T a) (dM T b) a.ws.length b.ws.length P:=fun P hP=>by
  unfold Asg.cost
  have h2:=Asg.sg_nonneg (n:=a.ws.length) (f:=fun i=>if P i < b.ws.length then cM T a b i (P i) else dM T a i) (fun i hi=>by
   split
   ·exact (cM_bnd hv _ _).1
   ·exact (dM_bnd hv _).1)
  have h3:=Asg.sg_nonneg (n:=b.ws.length) (f:=fun j=>if Asg.used P a.ws.length j then 0 else dM T b j) (fun j hj=>by
   split
   ·exact Int.le_refl _
   ·exact (dM_bnd hv _).1)
  omega
 have hA:Asg.Asg a.ws.length b.ws.length (fun _=>b.ws.length):=⟨fun _ _=>Nat.le_refl _,fun i j hi hj _ h=>absurd h (Nat.lt_irrefl _)⟩
 have hAM:Asg.Mono a.ws.length b.ws.length (fun _=>b.ws.length):=fun i j _ _ h=>absurd h (Nat.lt_irrefl _)
 have h6:=(ord_opt (T:=T) (a:=a) (b:=b)).low _ hA hAM
 have h7:Asg.cost (cM T a b) (dM T a) (dM T b) a.ws.length b.ws.length (fun _=>b.ws.length)=Asg.sg a.ws.length (dM T a)+Asg.sg b.ws.length (dM T b):=by
  unfold Asg.cost
  congr 1
  ·exact Asg.sg_congr fun i _=>if_neg (Nat.lt_irrefl _)
  ·refine Asg.sg_congr fun j hj=>if_neg ?_
   rw [Bool.not_eq_true,Asg.used_not]
   intro i _ e
   omega
 obtain ⟨P',hP',hc'⟩:=(any_opt (T:=T) (a:=a) (b:=b)).has
 have h8:=hn P' hP'
 have h9:=any_ord (T:=T) (a:=a) (b:=b)
 rw [h7] at h6
 omega
theorem anyL_len:(anyL T a b).length=a.ws.length:=any_cols.len
theorem ordL_len:(ordL T a b).length=a.ws.length:=ord_cols.1.len
end
end Go.CH.Mtc
namespace Go.Proofs.YtbnnlpjpnihheaaGreatDoor
open Go.RowKit Go.CH Go.CH.Scr Go.CH.Pot Go.CH.Mtc
open Asn (VecO vec_ok vec_vec Mat Vec ints cF lF vld cF_at lF_at)
open Go.ChangeMaps (setBlock)
section
variable {T:Tab} {a b:NameM}
theorem clM_cF {i j:Nat} (hi:i < a.ws.length) (hj:j < b.ws.length):cF (clM T a b b.ws.length a.ws.length a.ws.length 0) i j=cM T a b i j:=by
 rw [cF_at (by rw [clM_len];exact hi),clM_get,if_pos hi]
 unfold lF
 rw [List.getD_eq_getElem?_getD,List.getElem?_map,List.getElem?_range hj];rfl
theorem drops_lF (n:NameM) {i:Nat} (hi:i < n.ws.length):lF (n.ws.map (dropC T n.k)) i=dM T n i:=by
 unfold lF dM wd
 rw [List.getD_eq_getElem?_getD,List.getD_eq_getElem?_getD,List.getElem?_map,List.getElem?_eq_getElem hi];rfl
theorem vld_M (h:okM T a b=true):vld (clM T a b b.ws.length a.ws.length a.ws.length 0) (a.ws.map (dropC T a.k)) (b.ws.map (dropC T b.k))=true:=by
 obtain ⟨hv,ha,hb⟩:=okM_iff.1 h
 have h1:=(validN_iff.1 ha).2.2
 have h2:=(validN_iff.1 hb).2.2
 have hd:∀ n:NameM,Asn.wi (n.ws.map (dropC T n.k)) 0 10000=true:=fun n=>by
  unfold Asn.wi
  rw [List.all_eq_true]
  intro x hx
  obtain ⟨y,-,rfl⟩:=List.mem_map.1 hx
  have:=dropC_bnd hv n.k y
  rw [Bool.and_eq_true,decide_eq_true_eq,decide_eq_true_eq]
  omega
 unfold vld
 simp only [Bool.and_eq_true,decide_eq_true_eq,List.all_eq_true]
 refine ⟨⟨⟨⟨⟨by rw [clM_len,List.length_map],by rw [List.length_map];exact h1⟩,by rw [List.length_map];exact h2⟩,hd a⟩,hd b⟩,fun r hr=>?_⟩
 obtain ⟨k,hk,rfl⟩:=List.getElem_of_mem hr
 rw [clM_get,if_pos (by rw [clM_len] at hk;exact hk)]
 refine ⟨by simp,?_⟩
 unfold Asn.wi
 rw [List.all_eq_true]
 intro x hx
 obtain ⟨s,-,rfl⟩:=List.mem_map.1 hx
 have:=cM_bnd (a:=a) (b:=b) hv k s
 rw [Bool.and_eq_true,decide_eq_true_eq,decide_eq_true_eq]
 exact this
theorem ordM {W:World} {la lb:Nat} {A B G:Option Addr} {V:List (Option Addr × Nat)} {c d e:Nat} (hla:la=a.ws.length) (hlb:lb=b.ws.length) (hok:okM T a b=true) (h:Mat W A (clM T a b lb la la 0) V) (hD:IntR W B (a.ws.map (dropC T a.k))) (hE:IntR W G (b.ws.map (dropC T b.k))) :
  Calls Tryz.prog 32 #[.slice A la c,.slice B la d,.slice G lb e] W (fun en w'=>∃ A1 c1,en=.returned (.tuple #[.slice A1 (ordL T a b).length c1,.int .i64 (ordK T a b),.int .i64 0])∧Below W.heap.size W w'∧IntR w' A1 (ordL T a b)):=by
 subst hla hlb
 have h1:=Asn.ordered_any (c:=c) (d:=d) (e:=e) h (by rw [clM_len];have:=(validN_iff.1 (okM_iff.1 hok).2.1).2.2;simp only [maxLen];omega) (D:=a.ws.map (dropC T a.k)) (E:=b.ws.map (dropC T b.k)) hD hE
 rw [clM_len,List.length_map,List.length_map] at h1
 refine h1.mono ?_
 rintro en w' ⟨v,rfl,hb,A1,c1,rfl,hr⟩
 have hv:=vld_M hok
 have e1:Asn.ordK (clM T a b b.ws.length a.ws.length a.ws.length 0) (a.ws.map (dropC T a.k)) (b.ws.map (dropC T b.k))=ordK T a b:=by
  unfold Asn.ordK ordK
  rw [if_pos hv,List.length_map,List.length_map]
  exact Asg.GR_congr (fun i hi j hj=>clM_cF hi hj) (fun i hi=>drops_lF a hi) (fun j hj=>drops_lF b hj) _ _ (Nat.le_refl _) (Nat.le_refl _)
 have e2:Asn.ordL (clM T a b b.ws.length a.ws.length a.ws.length 0) (a.ws.map (dropC T a.k)) (b.ws.map (dropC T b.k))=ordL T a b:=by
  unfold Asn.ordL ordL
  rw [if_pos hv,List.length_map,List.length_map]
  exact Asg.gro_congr (fun i hi j hj=>clM_cF hi hj) (fun i hi=>drops_lF a hi) (fun j hj=>drops_lF b hj) _ _ (Nat.le_refl _) (Nat.le_refl _)
 rw [e2] at hr
 exact ⟨A1,c1,by rw [e1,e2];unfold Asn.errV;rw [if_pos hv],hb,hr⟩
theorem anyM {W:World} {la lb:Nat} {A B G:Option Addr} {V:List (Option Addr × Nat)} {c d e:Nat} (hla:la=a.ws.length) (hlb:lb=b.ws.length) (hok:okM T a b=true) (h:Mat W A (clM T a b lb la la 0) V) (hD:IntR W B (a.ws.map (dropC T a.k))) (hE:IntR W G (b.ws.map (dropC T b.k))) (hd:la≤d) :
  Calls Tryz.prog 33 #[.slice A la c,.slice B la d,.slice G lb e] W (fun en w'=>∃ A1 c1 A2 n2 c2 A3 n3 c3,en=.returned (.tuple #[.agg #[.int .i64 (anyK T a b),.slice A1 (anyL T a b).length c1,.slice A2 n2 c2,.slice A3 n3 c3],.int .i64 0])∧Below W.heap.size W w'∧IntR w' A1 (anyL T a b)):=by
 subst hla hlb
 have h1:=Asn.best_any (c:=c) (d:=d) (e:=e) h (by rw [clM_len];have:=(validN_iff.1 (okM_iff.1 hok).2.1).2.2;simp only [maxLen];omega) (D:=a.ws.map (dropC T a.k)) (E:=b.ws.map (dropC T b.k)) hD hE (by rw [List.length_map];exact hd)
 rw [clM_len,List.length_map,List.length_map] at h1
 refine h1.mono ?_
 have hv:=vld_M hok
 rintro en w' ⟨v,rfl,hb,hr⟩
 rw [if_pos hv] at hr
 obtain ⟨A1,A2,A3,c1,c2,c3,rfl,hr,-,-⟩:=hr
 have e1:(Asn.bestM (clM T a b b.ws.length a.ws.length a.ws.length 0) (a.ws.map (dropC T a.k)) (b.ws.map (dropC T b.k))).k=anyK T a b:=by
  unfold Asn.bestM anyK Asg.bcost
  simp only [List.length_map]
  exact Asg.L_congr (fun i hi j hj=>clM_cF hi hj) (fun i hi=>drops_lF a hi) (fun j hj=>drops_lF b hj) _ _ (Nat.le_refl _)
 have e2:(Asn.bestM (clM T a b b.ws.length a.ws.length a.ws.length 0) (a.ws.map (dropC T a.k)) (b.ws.map (dropC T b.k))).ps=anyL T a b:=by
  unfold Asn.bestM anyL Asg.bps
  simp only [List.length_map]
  exact Asg.gr_congr (fun i hi j hj=>clM_cF hi hj) (fun i hi=>drops_lF a hi) (fun j hj=>drops_lF b hj) _ _ (Nat.le_refl _)
 rw [e2] at hr
 exact ⟨A1,c1,A2,_,c2,A3,_,c3,by rw [e1,e2,if_pos hv],hb,hr⟩
theorem mat_fin {w W:World} {E:List (Pr × PA)} {cs:List Int} {A:Option Addr} {c:Nat} {k:Int} {sw:Bool} {Z X:CH.Own} (hok:okM T a b=true) (hE:E.map (·.1)=plM T a b b.ws.length a.ws.length 0) (hl:cs.length≤a.ws.length) (hx:bestM T a b=⟨k,sw,buildN T a b 0 cs⟩)
  (h:Run (fun _=>False) w (star Z (star (PesO A c (picks (eF E) 0 cs)) (star (bigStar (E.map dlO)) X))) W):MatRet w T a b (.returned (.tuple #[.agg #[.int .i64 k,.bool sw,.slice A (picks (eF E) 0 cs).length c],.int .i64 0])) W:=by
 have h1:=(h.perm (by ac_rfl:_=star (star Z X) (star (PesO A c (picks (eF E) 0 cs)) (bigStar (E.map dlO))))).drop
 have h2:Run (fun _=>False) w (MtO A c (picks (eF E) 0 cs)) W:=h1.imp fun w F hh=>⟨E,fun e he=>picks_mem cs 0 he,hh⟩
 exact ⟨bestM T a b,0,A,c,picks (eF E) 0 cs,by rw [hx],.some hok,by rw [hx];exact picks_map hE cs 0 (by omega),h2.post mto_ok⟩
end
end Go.Proofs.YtbnnlpjpnihheaaGreatDoor
