import Derived.Test.YtbnnlpjpnihheaaGreatDoorMD11
import Derived.Test.YtbnnlpjpnihheaaGreatDoorMD3
import Derived.Test.YtbnnlpjpnihheaaGreatDoorMD12
import Derived.Test.YtbnnlpjpnihheaaGreatDoorMD13
set_option linter.unusedSimpArgs false
set_option linter.unusedVariables false
namespace Go.Proofs.YtbnnlpjpnihheaaGreatDoor
open Go.RowKit Go.CH Go.CH.Scr Go.CH.Pot Go.CH.Mtc
open Asn (exec_build len2 len3 put_eval)
open Go.ChangeMaps (setBlock)
def wcells (p:Wrd × WW):List Value:=[.int .i64 p.1.k,.slice p.2.V p.1.vs.length p.2.vc,.slice p.2.L p.1.ls.length p.2.lc]
theorem wcells_one (l:List (Wrd × WW)):∀ u ∈ l.flatMap wcells,u.oneCell'=true:=by
 intro u hu
 obtain ⟨x,-,hx⟩:=List.mem_flatMap.1 hu
 unfold wcells at hx
 simp only [List.mem_cons,List.not_mem_nil,or_false] at hx
 rcases hx with rfl | rfl | rfl <;> rfl

def AllW:List (Wrd × WW)→CH.Own
 | []=>emp
 | p :: l=>star (WrdO p.1 p.2) (AllW l)
theorem allw_ok:∀ {l:List (Wrd × WW)},(AllW l).Ok
 | []=>emp_ok
 | p :: l=>star_ok wrdo_ok allw_ok
theorem allw_snoc (p:Wrd × WW):∀ l:List (Wrd × WW),AllW (l ++ [p])=star (AllW l) (WrdO p.1 p.2)
 | []=>by show star (WrdO p.1 p.2) emp=star emp (WrdO p.1 p.2);rw [star_comm_eq]
 | q :: l=>by show star (WrdO q.1 q.2) (AllW (l ++ [p]))=star (star (WrdO q.1 q.2) (AllW l)) (WrdO p.1 p.2);rw [allw_snoc p l];ac_rfl
theorem allw_r {w:World}:∀ {l:List (Wrd × WW)} {F:Nat→Prop},AllW l w F→∀ p ∈ l,WrdR w p.1 p.2
 | [],_,_,_,hp=>by cases hp
 | q :: l,F,h,p,hp=>by
  obtain ⟨F1,F2,h1,h2,-,-⟩:=h
  rcases List.mem_cons.1 hp with rfl | hp
  ·exact wrdo_r h1
  ·exact allw_r h2 p hp
theorem wordsOk:SliceOk Tryz.prog 69 77 (.agg #[.int .i64 0,.slice none 0 0,.slice none 0 0]) 3 56:=⟨Tryz.underlying69,by kernel_rfl,by decide,by decide⟩

structure NmsR (w:World) (T:Tab) (n:NameM) (l:List (Wrd × WW)) (A B:Option Addr):Prop where
 eq:l.map (·.1)=n.ws.map (wrdN T n.k)
 row:Rst wcells 3 w A l
 dr:IntR w B (n.ws.map (dropC T n.k))
 all:∀ p ∈ l,WrdR w p.1 p.2
theorem NmsR.below {w w':World} {T:Tab} {n:NameM} {l:List (Wrd × WW)} {A B:Option Addr} (h:NmsR w T n l A B) (hb:Below w.heap.size w w'):NmsR w' T n l A B :=
 ⟨h.eq,src_below h.row hb,h.dr.below hb,fun p hp=>(h.all p hp).below hb⟩

def NamRet (w:World) (T:Tab) (n:NameM) (e:Ending) (w':World):Prop :=
 if validT T && validN n then
  ∃ l A c B d,e=.returned (.tuple #[.agg #[.slice A n.ws.length c,.slice B n.ws.length d],.bool true])∧Below w.heap.size w w'∧NmsR w' T n l A B∧n.ws.length≤c∧n.ws.length≤d
 else e=.returned (.tuple #[.agg #[.slice none 0 0,.slice none 0 0],.bool false])∧Below w.heap.size w w'
theorem res29 {tmps:Array Value} {w:World} {g:Nat} {cs:Array Value} (h:tmps.getD 4 undef=.pointer (some ⟨g,0,none⟩)) (hs:cs.size=2) (hc:w.heap[g]?=some (.cells cs 71)) {v:Value} (hv:tmps.getD 5 undef=v):(results Tryz.f29 tmps).run Tryz.prog w=.ok (.tuple #[.agg cs,v]) w:=by
 subst hv
 exact res_cell_tmp rfl tmps w g 71 cs (0,0) h hc Tryz.underlying71 (by rw [hs];kernel_rfl)
theorem run_c2 {F0:Nat→Prop} {w0 w:World} {g:Nat} {t:TypeId} {X:CH.Own} {a b:Value} (h:Run F0 w0 (star (CellO g #[a,b] t) X) w):w.cell? ⟨g,0,none⟩=some a∧w.cell? ⟨g,1,none⟩=some b∧∀ i,w.frozen? ⟨g,i,none⟩=false:=by
 obtain ⟨F,hF⟩:=h.fst
 exact ⟨cell_at hF rfl,cell_at hF rfl,cell_free hF⟩

def apR (e:TypeId) (sz:Nat) (A:Option Addr) (c n:Nat) (xs cs:List Value) (q:Value):List Value→CH.Own
 | []=>RowO e sz (.slice A n c) n xs
 | [v]=>exA fun g:Nat=>pur (v=.slice (some ⟨g,0,none⟩) 1 1) (star (CellO g cs.toArray e) (RowO e sz (.slice A n c) n xs))
 | [_,v]=>exA fun A2:Option Addr=>exA fun c2:Nat=>pur (v=.slice A2 (n+1) c2∧n+1≤c2) (RowO e sz (.slice A2 (n+1) c2) (n+1) (xs ++ cs))
 | [_,v,p]=>exA fun A2:Option Addr=>exA fun c2:Nat=>pur ((v=.slice A2 (n+1) c2∧n+1≤c2)∧p=q) (RowO e sz (.slice A2 (n+1) c2) (n+1) (xs ++ cs))
 | _=>emp
theorem apR_ok {e:TypeId} {sz:Nat} {A:Option Addr} {c n:Nat} {xs cs:List Value} {q:Value}:∀ vs,(apR e sz A c n xs cs q vs).Ok
 | []=>row_ok
 | [_]=>exA_ok fun _=>pur_ok (star_ok cell_ok row_ok)
 | [_,_]=>exA_ok fun _=>exA_ok fun _=>pur_ok row_ok
 | [_,_,_]=>exA_ok fun _=>exA_ok fun _=>pur_ok row_ok
 | _ :: _ :: _ :: _ :: _=>emp_ok
theorem run_build69 (k:Int) (V:Option Addr) (a b:Nat) (L:Option Addr) (d e:Nat) (w:World):(Instr.buildSlice 69 1 #[(0,.agg #[.int .i64 k,.slice V a b,.slice L d e])]).run Tryz.prog w=.ok (.slice (some ⟨w.heap.size,0,none⟩) 1 1) (w.alloc (.cells #[.int .i64 k,.slice V a b,.slice L d e] 77)):=by go_simp
theorem run_build23 (x:Int) (w:World):(Instr.buildSlice 40 1 #[(0,.int .i64 x)]).run Tryz.prog w=.ok (.slice (some ⟨w.heap.size,0,none⟩) 1 1) (w.alloc (.cells #[.int .i64 x] 3)):=by go_simp
theorem wp_hid {P:Program} {o:Oper} {a:Act} {W:World} {Post:Act→World→Prop} {Q:Exit→Act→World→Prop} (h:∀ K:Act→World→Prop,Hid (∀ a' w',Post a' w'→K a' w')→o.wp P a W K Q):o.wp P a W Post Q:=h Post (hide fun _ _ h=>h)
theorem puts_size:∀ (ds:List Nat) (vs:List Value) (a:Act),(puts a ds vs).tmps.size=a.tmps.size
 | [],_,_=>by simp [puts]
 | _ :: _,[],_=>rfl
 | d :: ds,v :: vs,a=>by
  simp only [puts]
  rw [puts_size ds vs]
  simp [Act.put]
theorem exec_fa {a:Act} {o:Oper} {x:Operand} {g:Nat} {w:World} (hop:o.op=.fieldAddr 71 x 0) (hx:a.eval x=.pointer (some ⟨g,0,none⟩)):(execOp a.eval o).run Tryz.prog w=.ok (.value (.pointer (some ⟨g,0,none⟩))) w:=by
 unfold execOp
 simp only [hop,hx]
 go_simp
section
variable {w0 W:World} {F0:Nat→Prop} {Z:CH.Own} {ops:Array Oper} {a:Act} {Q:Exit→Act→World→Prop} {A B:Option Addr} {c d n:Nat} {xs cs:List Value}
theorem apR_one {o:Oper} {e:TypeId} {sz:Nat} {q:Value} (hZ:Z.Ok) (h:Run F0 w0 (star (apR e sz A c n xs cs q []) Z) W)
  (hrun:∀ w:World,(execOp a.eval o).run Tryz.prog w=.ok (.value (.slice (some ⟨w.heap.size,0,none⟩) 1 1)) (w.alloc (.cells cs.toArray e))) :
  o.wp Tryz.prog a W (fun a' w'=>∃ v,a'=a.put o.dst v∧Run F0 w0 (star (apR e sz A c n xs cs q ([] ++ [v])) Z) w') Q:=by
 unfold Oper.wp
 rw [hrun W]
 exact ⟨_,rfl,Run.exI W.heap.size (Run.pureI rfl ((run_new h (star_ok row_ok hZ) cs.toArray e).perm (by show _=star (star (CellO W.heap.size cs.toArray e) (RowO e sz (.slice A n c) n xs)) Z;unfold apR;ac_rfl)))⟩
theorem apR_two {o:Oper} {t e:TypeId} {z:Value} {sz bytes:Nat} {q v:Value} (S:SliceOk Tryz.prog t e z sz bytes) (hby:bytes≤1000) (s x:Operand) (ho:o.op=.call { callee:=.builtin .append,args:=#[s,x],argTypes:=#[t,t] }) (hZ:Z.Ok) (h:Run F0 w0 (star (apR e sz A c n xs cs q [v]) Z) W)
  (hs:a.eval s=.slice A n c) (hx:a.eval x=v) (hn:n≤1000000) (h1:cs.length=sz) (h2:∀ u ∈ cs,u.oneCell'=true) :
  o.wp Tryz.prog a W (fun a' w'=>∃ v',a'=a.put o.dst v'∧Run F0 w0 (star (apR e sz A c n xs cs q ([v] ++ [v'])) Z) w') Q:=by
 obtain ⟨g,h0⟩:=h.ex
 obtain ⟨rfl,h3⟩:=h0.pure
 have h4:=h3.perm (by ac_rfl:_=star (RowO e sz (.slice A n c) n xs) (star (CellO g cs.toArray e) Z))
 obtain ⟨F,hF⟩:=h4.drop.fst
 refine wp_app1 S hby s x ho (A:=A) (c:=c) (n:=n) (g:=g) (xs:=xs) (cs:=cs) hs hx hn (star_ok cell_ok hZ) h4 h1 h2 (fun j y hu=>cell_at hF (by rw [List.getElem?_toArray];exact hu)) ?_
 intro A2 c2 w' hr
 obtain ⟨FR,hFR⟩:=hr.fst
 exact ⟨_,rfl,Run.exI A2 (Run.exI c2 (Run.pureI ⟨rfl,(row_cap hFR.1).1⟩ hr.rot.drop))⟩
theorem apR_end {e e':TypeId} {sz sz':Nat} {q q':Value} {A':Option Addr} {c' n':Nat} {xs' cs':List Value} {v1 v2 v3 u1 u2:Value} {R:CH.Own} (h:Run F0 w0 (star (apR e sz A c n xs cs q [v1,v2,v3]) (star (apR e' sz' A' c' n' xs' cs' q' [u1,u2]) R)) W) :
  ∃ A2 c2 B2 d2,v2=.slice A2 (n+1) c2∧v3=q∧u2=.slice B2 (n'+1) d2∧n+1≤c2∧n'+1≤d2∧Run F0 w0 (star (star (RowO e sz (.slice A2 (n+1) c2) (n+1) (xs ++ cs)) (RowO e' sz' (.slice B2 (n'+1) d2) (n'+1) (xs' ++ cs'))) R) W:=by
 obtain ⟨A2,h1⟩:=h.ex
 obtain ⟨c2,h1⟩:=h1.ex
 obtain ⟨⟨⟨rfl,k1⟩,rfl⟩,h2⟩:=h1.pure
 obtain ⟨B2,h3⟩:=h2.rot.ex
 obtain ⟨d2,h3⟩:=h3.ex
 obtain ⟨⟨rfl,k2⟩,h4⟩:=h3.pure
 exact ⟨A2,c2,B2,d2,rfl,rfl,rfl,k1,k2,h4.perm (by ac_rfl)⟩
end
set_option maxHeartbeats 6400000 in
set_option maxRecDepth 100000 in
theorem nameOf_any {w:World} {T:Tab} {a:TA} (hT:TabR w T a) (hz:LZ w) {n:NameM} {An:Option Addr} {cn:Nat} (hA:Vst w An n.ws) (hl:n.ws.length≤1000000) (hw:∀ x ∈ n.ws,x.length≤1000000) :
  Calls Tryz.prog 29 #[tabV T a,nmV n An cn] w (NamRet w T n):=by
 have h0:=run_new (Run.begin w) emp_ok (tabC T a) 25
 have h1:=run_new h0 (star_ok cell_ok emp_ok) #[.int .i64 n.k,.slice An n.ws.length cn] 28
 have h2:=run_new h1 (star_ok cell_ok (star_ok cell_ok emp_ok)) #[.slice none 0 0,.slice none 0 0] 71
 simp only [World.size_alloc] at h2
 have H2:=hide h2
 have HBW:=hide (fun W X (h:Run (fun _=>False) w X W)=>(show Below w.heap.size w W from h.mod.below (fun _ _ h=>h)))
 have KV:=hide (fun W (hb:Below w.heap.size w W)=>tvalid_any (hT.below hb) (hz.below hb))
 have KN:=hide (fun W (hb:Below w.heap.size w W)=>valid_any (n:=n) (c:=cn) (src_below hA hb) hl hw (hz.below hb))
 have KW:=hide (fun W (hb:Below w.heap.size w W) x (hx:x ∈ n.ws)=>wordOf_own (hT.below hb) (hz.below hb) n.k x (hw x hx))
 have KD:=hide (fun W (hb:Below w.heap.size w W) x (hx:x ∈ n.ws)=>dropping_any (hT.below hb) (hz.below hb) n.k x (hw x hx))
 have HA:=hide hA
 clear hT hz hA hl hw h0 h1 h2
 unfold tabV nmV at *
 unfold tabC at *
 generalize T.rs.length=n1 at *
 generalize T.ds.length=n2 at *
 generalize T.es.length=n3 at *
 obtain ⟨m,hm⟩:∃ m,m=n.ws.length:=⟨_,rfl⟩
 have HM:=hide hm
 obtain ⟨aA,ac,aD,ad,aE,ae⟩:=a
 dsimp only at H2 KV KN KW KD ⊢
 rw [←hm] at H2 KN ⊢
 clear hm
 generalize hw2:((w.alloc (.cells #[.slice aA n1 ac,.slice aD n2 ad,.slice aE n3 ae,.int .i64 T.drop,.int .i64 T.ord,.int .i64 T.ini] 25)).alloc (.cells #[.int .i64 n.k,.slice An m cn] 28)).alloc (.cells #[.slice none 0 0,.slice none 0 0] 71)=w2 at H2
 generalize hg1:w.heap.size+1=g1 at H2
 generalize hg2:g1+1=g2 at H2
 have okX:=hide (star_ok cell_ok (star_ok cell_ok (star_ok cell_ok emp_ok)):((star (CellO g2 #[.slice none 0 0,.slice none 0 0] 71) (star (CellO g1 #[.int .i64 n.k,.slice An m cn] 28) (star (CellO w.heap.size #[.slice aA n1 ac,.slice aD n2 ad,.slice aE n3 ae,.int .i64 T.drop,.int .i64 T.ord,.int .i64 T.ini] 25) emp)))).Ok)
 cases hv1:validT T with
 | false =>
  have HNO:=hide (show ∀ W,Below w.heap.size w W→NamRet w T n (.returned (.tuple #[.agg #[.slice none 0 0,.slice none 0 0],.bool false])) W from fun W hb=>by unfold NamRet;rw [hv1];exact ⟨rfl,hb⟩)
  rw [hv1] at KV
  clear KN KW KD HA hv1
  go_enter Tryz.func29,Tryz.ntmps29
  go_upto_region 1 with (fail)
  clear hw2 hg1 hg2
  obtain ⟨t0,t1,t2,t3,t4,t5⟩:=run_cb H2.out.drop.drop
  obtain ⟨s0,s1,s2⟩:=run_c2 H2.out.drop
  obtain ⟨r0,r1,rf⟩:=run_c2 H2.out
  have KV2:=hide (KV.out w2 (HBW.out _ _ H2.out))
  clear KV
  go_wp2_with fail
  refine KV2.out.mono ?_
  rintro e9 w3 ⟨rfl,hb⟩
  have H3:=hide (H2.out.below okX.out hb)
  clear KV2 H2 hb t0 t1 t2 t3 t4 t5 s0 s1 s2 r0 r1 rf
  obtain ⟨t0,t1,t2,t3,t4,t5⟩:=run_cb H3.out.drop.drop
  obtain ⟨s0,s1,s2⟩:=run_c2 H3.out.drop
  obtain ⟨r0,r1,rf⟩:=run_c2 H3.out
  dsimp only
  go_wp2
  have H5:=hide (run_set2 H3.out (star_ok cell_ok (star_ok cell_ok emp_ok)) (.slice none 0 0) (.slice none 0 0))
  obtain ⟨f2,hf2⟩:=H5.out.fst
  refine bodyPost_ret (res29 rfl rfl hf2.1 rfl) rfl ?_
  exact HNO.out _ (HBW.out _ _ H5.out)
 | true =>
  cases hv2:validN n with
  | false =>
   have HNO:=hide (show ∀ W,Below w.heap.size w W→NamRet w T n (.returned (.tuple #[.agg #[.slice none 0 0,.slice none 0 0],.bool false])) W from fun W hb=>by unfold NamRet;rw [hv1,hv2];exact ⟨rfl,hb⟩)
   rw [hv1] at KV
   rw [hv2] at KN
   clear KW KD HA hv1 hv2
   go_enter Tryz.func29,Tryz.ntmps29
   go_upto_region 1 with (fail)
   clear hw2 hg1 hg2
   obtain ⟨t0,t1,t2,t3,t4,t5⟩:=run_cb H2.out.drop.drop
   obtain ⟨s0,s1,s2⟩:=run_c2 H2.out.drop
   obtain ⟨r0,r1,rf⟩:=run_c2 H2.out
   have KV2:=hide (KV.out w2 (HBW.out _ _ H2.out))
   clear KV
   go_wp2_with fail
   refine KV2.out.mono ?_
   rintro e9 w3 ⟨rfl,hb⟩
   have H3:=hide (H2.out.below okX.out hb)
   clear KV2 H2 hb t0 t1 t2 t3 t4 t5 s0 s1 s2 r0 r1 rf
   obtain ⟨t0,t1,t2,t3,t4,t5⟩:=run_cb H3.out.drop.drop
   obtain ⟨s0,s1,s2⟩:=run_c2 H3.out.drop
   obtain ⟨r0,r1,rf⟩:=run_c2 H3.out
   dsimp only
   have KN2:=hide (KN.out w3 (HBW.out _ _ H3.out))
   clear KN
   go_wp2_with fail
   refine KN2.out.mono ?_
   rintro e9 w4 ⟨rfl,hb⟩
   have H4:=hide (H3.out.below okX.out hb)
   clear KN2 H3 hb t0 t1 t2 t3 t4 t5 s0 s1 s2 r0 r1 rf
   obtain ⟨t0,t1,t2,t3,t4,t5⟩:=run_cb H4.out.drop.drop
   obtain ⟨s0,s1,s2⟩:=run_c2 H4.out.drop
   obtain ⟨r0,r1,rf⟩:=run_c2 H4.out
   have H3:=H4
   clear H4
   dsimp only
   go_wp2
   have H5:=hide (run_set2 H3.out (star_ok cell_ok (star_ok cell_ok emp_ok)) (.slice none 0 0) (.slice none 0 0))
   obtain ⟨f2,hf2⟩:=H5.out.fst
   refine bodyPost_ret (res29 rfl rfl hf2.1 rfl) rfl ?_
   exact HNO.out _ (HBW.out _ _ H5.out)
  | true =>
   have HYES:=hide (show ∀ W l A c B d,Below w.heap.size w W→NmsR W T n l A B→m≤c→m≤d→NamRet w T n (.returned (.tuple #[.agg #[.slice A m c,.slice B m d],.bool true])) W from fun W l A c B d hb hr hc hd=>by unfold NamRet;rw [hv1,hv2];rw [HM.out] at hc hd ⊢;exact ⟨l,A,c,B,d,rfl,hb,hr,hc,hd⟩)
   have HWE:=hide (show ∀ x ∈ n.ws,wrdOf T n.k x=(wrdN T n.k x,true)∧dropV T n.k x=(dropC T n.k x,0) from fun x hx=>by
    have h1:=(validN_iff.1 hv2).1 x hx
    unfold wrdOf dropV
    rw [h1,hv1]
    exact ⟨rfl,rfl⟩)
   have HM6:=hide (show m≤6 from by rw [HM.out];exact (validN_iff.1 hv2).2.2)
   rw [hv1] at KV
   rw [hv2] at KN
   clear hv1 hv2
   have KWX:=hide (fun W hb x hx=>(KW.out W hb x hx).mono fun e w' (h:WrdOwn W T n.k x e w')=>(show ∃ a:WW,e=.returned (.tuple #[wrdV (wrdN T n.k x) a,.bool true])∧Post W (fun _=>False) (WrdO (wrdN T n.k x) a) w' from by
    unfold WrdOwn at h
    rw [(HWE.out x hx).1] at h
    exact h))
   have KDX:=hide (fun W hb x hx=>(KD.out W hb x hx).mono fun e w' (h:BelowRet W (.tuple #[.int .i64 (dropV T n.k x).1,.int .i64 (dropV T n.k x).2]) e w')=>(show BelowRet W (.tuple #[.int .i64 (dropC T n.k x),.int .i64 0]) e w' from by
    rw [(HWE.out x hx).2] at h
    exact h))
   clear KW KD HWE
   go_enter Tryz.func29,Tryz.ntmps29
   go_upto_region 1 with (fail)
   clear hw2 hg1 hg2
   obtain ⟨t0,t1,t2,t3,t4,t5⟩:=run_cb H2.out.drop.drop
   obtain ⟨s0,s1,s2⟩:=run_c2 H2.out.drop
   obtain ⟨r0,r1,rf⟩:=run_c2 H2.out
   have KV2:=hide (KV.out w2 (HBW.out _ _ H2.out))
   clear KV
   go_wp2_with fail
   refine KV2.out.mono ?_
   rintro e9 w3 ⟨rfl,hb⟩
   have H3:=hide (H2.out.below okX.out hb)
   clear KV2 H2 hb t0 t1 t2 t3 t4 t5 s0 s1 s2 r0 r1 rf
   obtain ⟨t0,t1,t2,t3,t4,t5⟩:=run_cb H3.out.drop.drop
   obtain ⟨s0,s1,s2⟩:=run_c2 H3.out.drop
   obtain ⟨r0,r1,rf⟩:=run_c2 H3.out
   dsimp only
   have KN2:=hide (KN.out w3 (HBW.out _ _ H3.out))
   clear KN
   go_wp2_with fail
   refine KN2.out.mono ?_
   rintro e9 w4 ⟨rfl,hb⟩
   have H4:=hide (H3.out.below okX.out hb)
   clear KN2 H3 hb t0 t1 t2 t3 t4 t5 s0 s1 s2 r0 r1 rf
   obtain ⟨t0,t1,t2,t3,t4,t5⟩:=run_cb H4.out.drop.drop
   obtain ⟨s0,s1,s2⟩:=run_c2 H4.out.drop
   obtain ⟨r0,r1,rf⟩:=run_c2 H4.out
   have H3:=H4
   clear H4
   dsimp only
   have H5:=hide (run_new H3.out okX.out #[.slice none 0 0,.slice none 0 0] 71)
   go_upto_region 4 with (fail)
   generalize w4.alloc (.cells #[.slice none 0 0,.slice none 0 0] 71)=w5 at *
   generalize w4.heap.size=g3 at *
   clear H3 t0 t1 t2 t3 t4 t5 s0 s1 s2 r0 r1 rf
   obtain ⟨s0,s1,s2⟩:=run_c2 H5.out.drop.drop
   have h6:Run (fun _=>False) w (star (CellO g3 #[.slice none 0 0,.slice none 0 0] 71) (star (RowO 77 3 (.slice none 0 0) 0 []) (star (RowO 3 1 (.slice none 0 0) 0 []) (star (AllW []) (star (CellO g2 #[.slice none 0 0,.slice none 0 0] 71) (star (CellO g1 #[.int .i64 n.k,.slice An m cn] 28) (star (CellO w.heap.size #[.slice aA n1 ac,.slice aD n2 ad,.slice aE n3 ae,.int .i64 T.drop,.int .i64 T.ord,.int .i64 T.ini] 25) emp))))))) w5:=(((H5.out.fresh (star_ok cell_ok okX.out) (⟨fun _=>False,row_nil _ 77 3,Mod.refl _ _,fun i hi=>.inl hi⟩:Post w5 (fun _=>False) (RowO 77 3 (.slice none 0 0) 0 []) w5)).fresh (star_ok row_ok (star_ok cell_ok okX.out)) (⟨fun _=>False,row_nil _ 3 1,Mod.refl _ _,fun i hi=>.inl hi⟩:Post w5 (fun _=>False) (RowO 3 1 (.slice none 0 0) 0 []) w5)).fresh (star_ok row_ok (star_ok row_ok (star_ok cell_ok okX.out))) (⟨fun _=>False,fun _ h=>h,Mod.refl _ _,fun i hi=>.inl hi⟩:Post w5 (fun _=>False) emp w5)).perm (by ac_rfl)
   have H6:=hide h6
   clear h6
   go_wp2_with fail
   go_loopw [25] (fun kk wr=>∃ (i:Nat) (l:List (Wrd × WW)) (A:Option Addr) (c:Nat) (B:Option Addr) (d:Nat),kk=.int .i64 i∧i≤m∧l.map (·.1)=(n.ws.take i).map (wrdN T n.k)∧i≤c∧i≤d∧Run (fun _=>False) w (star (CellO g3 #[.slice A i c,.slice B i d] 71) (star (RowO 77 3 (.slice A i c) i (l.flatMap wcells)) (star (RowO 3 1 (.slice B i d) i (((n.ws.take i).map (dropC T n.k)).map (Value.int .i64))) (star (AllW l) (star (CellO g2 #[.slice none 0 0,.slice none 0 0] 71) (star (CellO g1 #[.int .i64 n.k,.slice An m cn] 28) (star (CellO w.heap.size #[.slice aA n1 ac,.slice aD n2 ad,.slice aE n3 ae,.int .i64 T.drop,.int .i64 T.ord,.int .i64 T.ini] 25) emp))))))) wr) (fun kk _=>m - (intOf kk).toNat)
   case atStart=>exact ⟨0,[],none,0,none,0,rfl,Nat.zero_le _,rfl,Nat.le_refl _,Nat.le_refl _,H6.out⟩
   case round =>
    clear H5 H6 s0 s1 s2
    obtain ⟨i,l,A,c,B,d,rfl,hi,hle,hic,hid,hR⟩:=hrel
    have HR:=hide hR
    have HLE:=hide hle
    have HIC:=hide hic
    have HID:=hide hid
    clear hR hle hic hid
    by_cases hlt:i < m
    ·have hkn:i < n.ws.length:=by rw [←HM.out];exact hlt
     obtain ⟨b,o,rfl,hc⟩:=HA.out.at (by have:=HM6.out;omega)
     have ck:=hc _ (HBW.out _ _ HR.out) i hkn
     have hxm:n.ws[i] ∈ n.ws:=List.getElem_mem hkn
     have KW2:=hide (KWX.out wr (HBW.out _ _ HR.out) _ hxm)
     have KD2:=hide (fun W hb=>KDX.out W hb _ hxm)
     have HTK:=hide (show n.ws.take (i+1)=n.ws.take i ++ [n.ws[i]] from List.take_succ_eq_append_getElem hkn)
     clear KWX KDX hxm
     generalize n.ws[i]=x at *
     clear hc hkn
     obtain ⟨u,hu⟩:∃ u,u=wrdN T n.k x:=⟨_,rfl⟩
     rw [←hu] at KW2
     have HU:=hide hu
     clear hu
     unfold wrdV wrdC at KW2
     obtain ⟨t0,t1,t2,t3,t4,t5⟩:=run_cb HR.out.drop.drop.drop.drop.drop.drop
     obtain ⟨s0,s1,s2⟩:=run_c2 HR.out.drop.drop.drop.drop.drop
     have okR:=hide (star_ok cell_ok (star_ok row_ok (star_ok row_ok (star_ok allw_ok okX.out))):((star (CellO g3 #[.slice A i c,.slice B i d] 71) (star (RowO 77 3 (.slice A i c) i (l.flatMap wcells)) (star (RowO 3 1 (.slice B i d) i (((n.ws.take i).map (dropC T n.k)).map (Value.int .i64))) (star (AllW l) (star (CellO g2 #[.slice none 0 0,.slice none 0 0] 71) (star (CellO g1 #[.int .i64 n.k,.slice (some ⟨b,o,none⟩) m cn] 28) (star (CellO w.heap.size #[.slice aA n1 ac,.slice aD n2 ad,.slice aE n3 ae,.int .i64 T.drop,.int .i64 T.ord,.int .i64 T.ini] 25) emp)))))))).Ok)
     go_wp2_with fail
     refine KW2.out.mono ?_
     rintro e9 w6 ⟨wa,rfl,hp⟩
     have H7:=hide (HR.out.fresh okR.out hp)
     have okS:=hide (star_ok wrdo_ok okR.out:(star (WrdO u wa) (star (CellO g3 #[.slice A i c,.slice B i d] 71) (star (RowO 77 3 (.slice A i c) i (l.flatMap wcells)) (star (RowO 3 1 (.slice B i d) i (((n.ws.take i).map (dropC T n.k)).map (Value.int .i64))) (star (AllW l) (star (CellO g2 #[.slice none 0 0,.slice none 0 0] 71) (star (CellO g1 #[.int .i64 n.k,.slice (some ⟨b,o,none⟩) m cn] 28) (star (CellO w.heap.size #[.slice aA n1 ac,.slice aD n2 ad,.slice aE n3 ae,.int .i64 T.drop,.int .i64 T.ord,.int .i64 T.ini] 25) emp)))))))).Ok)
     have H8:=hide (run_new H7.out okS.out #[.int .i64 u.k,.slice wa.V u.vs.length wa.vc,.slice wa.L u.ls.length wa.lc] 77)
     clear KW2 HR hp ck t0 t1 t2 t3 t4 t5 s0 s1 s2 H7
     dsimp only
     go_upto_region 8 with (fail)
     generalize w6.alloc (.cells #[.int .i64 u.k,.slice wa.V u.vs.length wa.vc,.slice wa.L u.ls.length wa.lc] 77)=w7 at *
     generalize w6.heap.size=g9 at *
     obtain ⟨t0,t1,t2,t3,t4,t5⟩:=run_cb H8.out.drop.drop.drop.drop.drop.drop.drop.drop
     obtain ⟨s0,s1,s2⟩:=run_c2 H8.out.drop.drop.drop.drop.drop.drop.drop
     have KD3:=hide (KD2.out w7 (HBW.out _ _ H8.out))
     clear KD2
     have okT:=hide (star_ok cell_ok okS.out:(star (CellO g9 #[.int .i64 u.k,.slice wa.V u.vs.length wa.vc,.slice wa.L u.ls.length wa.lc] 77) (star (WrdO u wa) (star (CellO g3 #[.slice A i c,.slice B i d] 71) (star (RowO 77 3 (.slice A i c) i (l.flatMap wcells)) (star (RowO 3 1 (.slice B i d) i (((n.ws.take i).map (dropC T n.k)).map (Value.int .i64))) (star (AllW l) (star (CellO g2 #[.slice none 0 0,.slice none 0 0] 71) (star (CellO g1 #[.int .i64 n.k,.slice (some ⟨b,o,none⟩) m cn] 28) (star (CellO w.heap.size #[.slice aA n1 ac,.slice aD n2 ad,.slice aE n3 ae,.int .i64 T.drop,.int .i64 T.ord,.int .i64 T.ini] 25) emp))))))))).Ok)
     go_wp2_with fail
     refine KD3.out.mono ?_
     rintro e9 w8 ⟨rfl,hb⟩
     have H9:=hide (H8.out.below okT.out hb)
     clear KD3 H8 hb t0 t1 t2 t3 t4 t5 s0 s1 s2
     dsimp only
     go_upto_region 9 with (fail)
     have H10:=hide (H9.out.drew okT.out)
     clear H9
     have h10:=H10.out.perm (by ac_rfl:_=star (star (RowO 77 3 (.slice A i c) i (l.flatMap wcells)) (RowO 3 1 (.slice B i d) i (((n.ws.take i).map (dropC T n.k)).map (Value.int .i64)))) (star (CellO g3 #[.slice A i c,.slice B i d] 71) (star (CellO g9 #[.int .i64 u.k,.slice wa.V u.vs.length wa.vc,.slice wa.L u.ls.length wa.lc] 77) (star (WrdO u wa) (star (AllW l) (star (CellO g2 #[.slice none 0 0,.slice none 0 0] 71) (star (CellO g1 #[.int .i64 n.k,.slice (some ⟨b,o,none⟩) m cn] 28) (star (CellO w.heap.size #[.slice aA n1 ac,.slice aD n2 ad,.slice aE n3 ae,.int .i64 T.drop,.int .i64 T.ord,.int .i64 T.ini] 25) emp))))))))
     have okB:=hide (star_ok cell_ok (star_ok cell_ok (star_ok wrdo_ok (star_ok allw_ok okX.out))):((star (CellO g3 #[.slice A i c,.slice B i d] 71) (star (CellO g9 #[.int .i64 u.k,.slice wa.V u.vs.length wa.vc,.slice wa.L u.ls.length wa.lc] 77) (star (WrdO u wa) (star (AllW l) (star (CellO g2 #[.slice none 0 0,.slice none 0 0] 71) (star (CellO g1 #[.int .i64 n.k,.slice (some ⟨b,o,none⟩) m cn] 28) (star (CellO w.heap.size #[.slice aA n1 ac,.slice aD n2 ad,.slice aE n3 ae,.int .i64 T.drop,.int .i64 T.ord,.int .i64 T.ini] 25) emp)))))))).Ok)
     clear H10
     go_upto_region 9 with (fail)
     obtain ⟨F,hF,hback⟩:=h10.sub (star_ok row_ok row_ok) okB.out
     have HF:=hide hF
     have HBK:=hide hback
     have HSS:=hide (show ∀ (O:CH.Own) W,Run F w8.drew O W→Run (fun _=>False) w (star (CellO g3 #[.slice A i c,.slice B i d] 71) (star (CellO g9 #[.int .i64 u.k,.slice wa.V u.vs.length wa.vc,.slice wa.L u.ls.length wa.lc] 77) (star (WrdO u wa) (star (AllW l) (star (CellO g2 #[.slice none 0 0,.slice none 0 0] 71) (star (CellO g1 #[.int .i64 n.k,.slice (some ⟨b,o,none⟩) m cn] 28) (star (CellO w.heap.size #[.slice aA n1 ac,.slice aD n2 ad,.slice aE n3 ae,.int .i64 T.drop,.int .i64 T.ord,.int .i64 T.ini] 25) emp))))))) W from fun O W h=>(hback emp W emp_ok ⟨⟨fun _=>False,fun _ h=>h,fun _ h=>h.elim⟩,h.mod⟩).drop)
     have HS0:=hide (HSS.out _ _ hF)
     clear h10 hF hback
     refine wp_region_u 11 (fun w'=>Run (fun _=>False) w (star (CellO g3 #[.slice A i c,.slice B i d] 71) (star (CellO g9 #[.int .i64 u.k,.slice wa.V u.vs.length wa.vc,.slice wa.L u.ls.length wa.lc] 77) (star (WrdO u wa) (star (AllW l) (star (CellO g2 #[.slice none 0 0,.slice none 0 0] 71) (star (CellO g1 #[.int .i64 n.k,.slice (some ⟨b,o,none⟩) m cn] 28) (star (CellO w.heap.size #[.slice aA n1 ac,.slice aD n2 ad,.slice aE n3 ae,.int .i64 T.drop,.int .i64 T.ord,.int .i64 T.ini] 25) emp))))))) w') rfl ?_
     generalize w8.drew=w9 at *
     refine wpAnyU_takeT (i:=0) (v:=.pointer (some ⟨g3,0,none⟩)) rfl (by kernel_rfl) (by kernel_rfl) (by kernel_rfl) rfl (fun _ _ _ h=>h) (.inl ⟨rfl,fun w' hS'=>?_⟩) (fun _=>HS0.out) ?_
     ·go_simp
     try simp only [Act.put,List.getElem_toArray,List.getElem_cons_succ,List.getElem_cons_zero,List.setIfInBounds_toArray,List.set_cons_zero,List.set_cons_succ]
     refine wpAnyU_take (i:=1) (v:=.slice A i c) rfl (by kernel_rfl) (by kernel_rfl) (by kernel_rfl) (by kernel_rfl) (fun _ _ _ h=>h) (.inl ⟨rfl,fun w' hS'=>?_⟩) HS0.out ?_
     ·obtain ⟨s0,s1,s2⟩:=run_c2 hS'
      clear hS'
      go_simp
     try simp only [Act.put,List.getElem_toArray,List.getElem_cons_succ,List.getElem_cons_zero,List.setIfInBounds_toArray,List.set_cons_zero,List.set_cons_succ]
     refine wpAnyU_take (i:=2) (v:=.agg #[.int .i64 u.k,.slice wa.V u.vs.length wa.vc,.slice wa.L u.ls.length wa.lc]) rfl (by kernel_rfl) (by kernel_rfl) (by kernel_rfl) (by kernel_rfl) (fun _ _ _ h=>h) (.inl ⟨rfl,fun w' hS'=>?_⟩) HS0.out ?_
     ·obtain ⟨q0,q1,q2⟩:=run_c3 hS'.drop
      clear hS'
      go_simp
     try simp only [Act.put,List.getElem_toArray,List.getElem_cons_succ,List.getElem_cons_zero,List.setIfInBounds_toArray,List.set_cons_zero,List.set_cons_succ]
     refine wpAnyU_takeT (i:=5) (v:=.pointer (some ⟨g3,1,none⟩)) rfl (by kernel_rfl) (by kernel_rfl) (by kernel_rfl) rfl (fun _ _ _ h=>h) (.inl ⟨rfl,fun w' hS'=>?_⟩) (fun _=>HS0.out) ?_
     ·go_simp
     try simp only [Act.put,List.getElem_toArray,List.getElem_cons_succ,List.getElem_cons_zero,List.setIfInBounds_toArray,List.set_cons_zero,List.set_cons_succ]
     refine wpAnyU_take (i:=6) (v:=.slice B i d) rfl (by kernel_rfl) (by kernel_rfl) (by kernel_rfl) (by kernel_rfl) (fun _ _ _ h=>h) (.inl ⟨rfl,fun w' hS'=>?_⟩) HS0.out ?_
     ·obtain ⟨s0,s1,s2⟩:=run_c2 hS'
      clear hS'
      go_simp
     try simp only [Act.put,List.getElem_toArray,List.getElem_cons_succ,List.getElem_cons_zero,List.setIfInBounds_toArray,List.set_cons_zero,List.set_cons_succ]
     refine wpAnyU_takeT (i:=7) (v:=.int .i64 (dropC T n.k x)) rfl (by kernel_rfl) (by kernel_rfl) (by kernel_rfl) rfl (fun _ _ _ h=>h) (.inl ⟨rfl,fun w' hS'=>?_⟩) (fun _=>HS0.out) ?_
     ·go_simp
     try simp only [Act.put,List.getElem_toArray,List.getElem_cons_succ,List.getElem_cons_zero,List.setIfInBounds_toArray,List.set_cons_zero,List.set_cons_succ]
     refine two_chainsU [3,4,10] [8,9] (apR 77 3 A c i (l.flatMap wcells) (wcells (u,wa)) (.pointer (some ⟨g3,0,none⟩))) (apR 3 1 B d i (((n.ws.take i).map (dropC T n.k)).map (Value.int .i64)) [.int .i64 (dropC T n.k x)] undef) 3 (by kernel_rfl) apR_ok apR_ok emp_ok HSS.out ?_ ?_ ?_ (HF.out.perm (by rw [star_emp_eq];rfl))
     ·intro i1 o1 vs us hi1 ho1 hu1 Z W hZ hR
      rcases vs with _ | ⟨v,_ | ⟨v2,_ | ⟨v3,vs⟩⟩⟩
      ·obtain rfl:3=i1:=by simpa using hi1
       simp only [List.getElem?_toArray,List.getElem?_cons_succ,List.getElem?_cons_zero,Option.some.injEq] at ho1
       subst ho1
       refine apR_one hZ hR (fun w=>exec_build rfl ?_ (run_build69 _ _ _ _ _ _ _ w))
       show (puts (puts _ [48,49,55] []) [53,54] us).eval (.tmp 47)=_
       rw [puts_eval 47 [53,54] us _ (by decide),puts_eval 47 [48,49,55] [] _ (by decide)];rfl
      ·obtain rfl:4=i1:=by simpa using hi1
       simp only [List.getElem?_toArray,List.getElem?_cons_succ,List.getElem?_cons_zero,Option.some.injEq] at ho1
       subst ho1
       refine apR_two wordsOk (by decide) (.tmp 46) (.tmp 48) rfl hZ hR ?_ ?_ (by have:=HM6.out;omega) rfl (fun y hy=>wcells_one [(u,wa)] y (by simpa [wcells] using hy))
       ·show (puts (puts _ [48,49,55] [v]) [53,54] us).eval (.tmp 46)=_
        rw [puts_eval 46 [53,54] us _ (by decide),puts_eval 46 [48,49,55] [v] _ (by decide)];rfl
       ·show (puts (puts _ [48,49,55] [v]) [53,54] us).eval (.tmp 48)=v
        rw [puts_eval 48 [53,54] us _ (by decide)]
        exact put_eval v (show 48 < 59 by decide)
      ·obtain rfl:10=i1:=by simpa using hi1
       simp only [List.getElem?_toArray,List.getElem?_cons_succ,List.getElem?_cons_zero,Option.some.injEq] at ho1
       subst ho1
       obtain ⟨A3,hR⟩:=hR.ex
       obtain ⟨c3,hR⟩:=hR.ex
       obtain ⟨hv3,hR⟩:=hR.pure
       refine Asn.wp_of_run (v:=.pointer (some ⟨g3,0,none⟩)) (w':=W) (exec_fa rfl ?_) ⟨_,rfl,Run.exI A3 (Run.exI c3 (Run.pureI ⟨hv3,rfl⟩ hR))⟩
       show (puts (puts _ [48,49,55] [v,v2]) [53,54] us).eval (.tmp 6)=_
       rw [puts_eval 6 [53,54] us _ (by decide),puts_eval 6 [48,49,55] [v,v2] _ (by decide)];rfl
      ·simp at hi1
     ·intro i1 o1 vs us hi1 ho1 hv1 Z W hZ hR
      rcases us with _ | ⟨v,_ | ⟨v2,us⟩⟩
      ·obtain rfl:8=i1:=by simpa using hi1
       simp only [List.getElem?_toArray,List.getElem?_cons_succ,List.getElem?_cons_zero,Option.some.injEq] at ho1
       subst ho1
       refine apR_one hZ hR (fun w=>exec_build rfl ?_ (run_build23 (dropC T n.k x) w))
       show (puts (puts _ [48,49,55] vs) [53,54] []).eval (.tmp 52)=_
       rw [puts_eval 52 [53,54] [] _ (by decide),puts_eval 52 [48,49,55] vs _ (by decide)];rfl
      ·obtain rfl:9=i1:=by simpa using hi1
       simp only [List.getElem?_toArray,List.getElem?_cons_succ,List.getElem?_cons_zero,Option.some.injEq] at ho1
       subst ho1
       refine apR_two intOk (by decide) (.tmp 51) (.tmp 53) rfl hZ hR ?_ ?_ (by have:=HM6.out;omega) rfl (fun y hy=>by simp at hy;subst hy;rfl)
       ·show (puts (puts _ [48,49,55] vs) [53,54] [v]).eval (.tmp 51)=_
        rw [puts_eval 51 [53,54] [v] _ (by decide),puts_eval 51 [48,49,55] vs _ (by decide)];rfl
       ·show (puts (puts _ [48,49,55] vs) [53,54] [v]).eval (.tmp 53)=v
        exact put_eval v (by rw [puts_size];show 53 < 59;decide)
      ·simp at hi1
     intro vs us W hv hu hR
     obtain ⟨v1,v2,v3,rfl⟩:=len3 hv
     obtain ⟨v4,v5,rfl⟩:=len2 hu
     obtain ⟨A2,c2,B2,d2,rfl,rfl,rfl,hc2,hd2,hR2⟩:=apR_end hR
     have HRR:=hide (HBK.out _ _ (star_ok row_ok row_ok) (hR2.perm (star_emp_eq _)))
     have HC2:=hide hc2
     have HD2:=hide hd2
     clear hR hv hu hR2 hc2 hd2
     simp only [dsts,List.map_cons,List.map_nil,List.getElem?_toArray,List.getElem?_cons_succ,List.getElem?_cons_zero,Option.bind_some,Option.getD_some,puts,Act.put,List.setIfInBounds_toArray,List.set_cons_zero,List.set_cons_succ]
     have h11:=HRR.out.perm (by ac_rfl:_=star (CellO g3 #[.slice A i c,.slice B i d] 71) (star (RowO 77 3 (.slice A2 (i+1) c2) (i+1) (l.flatMap wcells ++ wcells (u,wa))) (star (RowO 3 1 (.slice B2 (i+1) d2) (i+1) ((((n.ws.take i).map (dropC T n.k)).map (Value.int .i64)) ++ [.int .i64 (dropC T n.k x)])) (star (CellO g9 #[.int .i64 u.k,.slice wa.V u.vs.length wa.vc,.slice wa.L u.ls.length wa.lc] 77) (star (WrdO u wa) (star (AllW l) (star (CellO g2 #[.slice none 0 0,.slice none 0 0] 71) (star (CellO g1 #[.int .i64 n.k,.slice (some ⟨b,o,none⟩) m cn] 28) (star (CellO w.heap.size #[.slice aA n1 ac,.slice aD n2 ad,.slice aE n3 ae,.int .i64 T.drop,.int .i64 T.ord,.int .i64 T.ini] 25) emp)))))))))
     have okX2:=hide (star_ok row_ok (star_ok row_ok (star_ok cell_ok (star_ok wrdo_ok (star_ok allw_ok okX.out)))):((star (RowO 77 3 (.slice A2 (i+1) c2) (i+1) (l.flatMap wcells ++ wcells (u,wa))) (star (RowO 3 1 (.slice B2 (i+1) d2) (i+1) ((((n.ws.take i).map (dropC T n.k)).map (Value.int .i64)) ++ [.int .i64 (dropC T n.k x)])) (star (CellO g9 #[.int .i64 u.k,.slice wa.V u.vs.length wa.vc,.slice wa.L u.ls.length wa.lc] 77) (star (WrdO u wa) (star (AllW l) (star (CellO g2 #[.slice none 0 0,.slice none 0 0] 71) (star (CellO g1 #[.int .i64 n.k,.slice (some ⟨b,o,none⟩) m cn] 28) (star (CellO w.heap.size #[.slice aA n1 ac,.slice aD n2 ad,.slice aE n3 ae,.int .i64 T.drop,.int .i64 T.ord,.int .i64 T.ini] 25) emp))))))))).Ok)
     have h12:Run (fun _=>False) w (star (CellO g3 #[.slice A2 (i+1) c2,.slice B i d] 71) (star (RowO 77 3 (.slice A2 (i+1) c2) (i+1) (l.flatMap wcells ++ wcells (u,wa))) (star (RowO 3 1 (.slice B2 (i+1) d2) (i+1) ((((n.ws.take i).map (dropC T n.k)).map (Value.int .i64)) ++ [.int .i64 (dropC T n.k x)])) (star (CellO g9 #[.int .i64 u.k,.slice wa.V u.vs.length wa.vc,.slice wa.L u.ls.length wa.lc] 77) (star (WrdO u wa) (star (AllW l) (star (CellO g2 #[.slice none 0 0,.slice none 0 0] 71) (star (CellO g1 #[.int .i64 n.k,.slice (some ⟨b,o,none⟩) m cn] 28) (star (CellO w.heap.size #[.slice aA n1 ac,.slice aD n2 ad,.slice aE n3 ae,.int .i64 T.drop,.int .i64 T.ord,.int .i64 T.ini] 25) emp))))))))) _:=run_setc h11 okX2.out 0 (.slice A2 (i+1) c2)
     have H12:=hide h12
     obtain ⟨s0,s1,s2⟩:=run_c2 h11
     clear HSS HS0 HBK HF HRR h11 h12
     refine wpAnyU_all (rs:=[11]) (by kernel_rfl) (by decide) (fun i1 hi1=>?_)
     obtain rfl:i1=11:=by simpa using hi1
     refine wpOp_plain rfl rfl (wp_hid fun K hK=>?_)
     clear hi1
     go_wp2_with fail
     refine hK.out _ _ ⟨fun h=>by simp at h,?_⟩
     clear hK
     generalize W.setCell ⟨g3,0,none⟩ (.slice A2 (i+1) c2)=W2 at *
     clear s0 s1 s2
     obtain ⟨s0,s1,s2⟩:=run_c2 H12.out
     have h13:Run (fun _=>False) w (star (CellO g3 #[.slice A2 (i+1) c2,.slice B2 (i+1) d2] 71) (star (RowO 77 3 (.slice A2 (i+1) c2) (i+1) (l.flatMap wcells ++ wcells (u,wa))) (star (RowO 3 1 (.slice B2 (i+1) d2) (i+1) ((((n.ws.take i).map (dropC T n.k)).map (Value.int .i64)) ++ [.int .i64 (dropC T n.k x)])) (star (CellO g9 #[.int .i64 u.k,.slice wa.V u.vs.length wa.vc,.slice wa.L u.ls.length wa.lc] 77) (star (WrdO u wa) (star (AllW l) (star (CellO g2 #[.slice none 0 0,.slice none 0 0] 71) (star (CellO g1 #[.int .i64 n.k,.slice (some ⟨b,o,none⟩) m cn] 28) (star (CellO w.heap.size #[.slice aA n1 ac,.slice aD n2 ad,.slice aE n3 ae,.int .i64 T.drop,.int .i64 T.ord,.int .i64 T.ini] 25) emp))))))))) _:=run_setc H12.out okX2.out 1 (.slice B2 (i+1) d2)
     have H13:=hide h13
     clear H12 h13
     refine wpAnyU_all (rs:=[12]) (by kernel_rfl) (by decide) (fun i1 hi1=>?_)
     obtain rfl:i1=12:=by simpa using hi1
     refine wpOp_plain rfl rfl (wp_hid fun K hK=>?_)
     clear hi1
     go_wp2_with fail
     refine hK.out _ _ ⟨fun h=>by simp at h,?_⟩
     clear hK
     refine wpAnyU_all (rs:=[13]) (by kernel_rfl) (by decide) (fun i1 hi1=>?_)
     obtain rfl:i1=13:=by simpa using hi1
     refine wpOp_plain rfl rfl (wp_hid fun K hK=>?_)
     clear hi1
     go_wp2_with fail
     refine hK.out _ _ ⟨fun h=>by simp at h,?_⟩
     clear hK
     refine wpAnyU_done (by kernel_rfl) ?_ _
     generalize W2.setCell ⟨g3,1,none⟩ (.slice B2 (i+1) d2)=W3 at *
     clear s0 s1 s2
     have hib:(i:Int) < 1000000:=by have:=HM6.out;omega
     go_wp2_with fail
     go_roundw
     case rel=>exact ⟨i+1,l ++ [(u,wa)],A2,c2,B2,d2,by go_num,hlt,by rw [List.map_append,HLE.out,HTK.out,List.map_append,HU.out];rfl,HC2.out,HD2.out,(H13.out.perm (by
      have e1:(((n.ws.take (i+1)).map (dropC T n.k)).map (Value.int .i64))=(((n.ws.take i).map (dropC T n.k)).map (Value.int .i64)) ++ [.int .i64 (dropC T n.k x)]:=by rw [HTK.out,List.map_append,List.map_append];rfl
      have e2:(l ++ [(u,wa)]).flatMap wcells=l.flatMap wcells ++ wcells (u,wa):=by rw [List.flatMap_append,List.flatMap_singleton]
      rw [e1,e2,allw_snoc]
      ac_rfl:_=star (CellO g9 #[.int .i64 u.k,.slice wa.V u.vs.length wa.vc,.slice wa.L u.ls.length wa.lc] 77) (star (CellO g3 #[.slice A2 (i+1) c2,.slice B2 (i+1) d2] 71) (star (RowO 77 3 (.slice A2 (i+1) c2) (i+1) ((l ++ [(u,wa)]).flatMap wcells)) (star (RowO 3 1 (.slice B2 (i+1) d2) (i+1) (((n.ws.take (i+1)).map (dropC T n.k)).map (Value.int .i64))) (star (AllW (l ++ [(u,wa)])) (star (CellO g2 #[.slice none 0 0,.slice none 0 0] 71) (star (CellO g1 #[.int .i64 n.k,.slice (some ⟨b,o,none⟩) m cn] 28) (star (CellO w.heap.size #[.slice aA n1 ac,.slice aD n2 ad,.slice aE n3 ae,.int .i64 T.drop,.int .i64 T.ord,.int .i64 T.ini] 25) emp))))))))).drop⟩
     case measure=>simp [intOf];omega
    ·obtain rfl:i=m:=by omega
     have h1:=HR.out.perm (by ac_rfl:_=star (CellO g2 #[.slice none 0 0,.slice none 0 0] 71) (star (CellO g3 #[.slice A i c,.slice B i d] 71) (star (RowO 77 3 (.slice A i c) i (l.flatMap wcells)) (star (RowO 3 1 (.slice B i d) i (((n.ws.take i).map (dropC T n.k)).map (Value.int .i64))) (star (AllW l) (star (CellO g1 #[.int .i64 n.k,.slice An i cn] 28) (star (CellO w.heap.size #[.slice aA n1 ac,.slice aD n2 ad,.slice aE n3 ae,.int .i64 T.drop,.int .i64 T.ord,.int .i64 T.ini] 25) emp)))))))
     have okE:(star (CellO g3 #[.slice A i c,.slice B i d] 71) (star (RowO 77 3 (.slice A i c) i (l.flatMap wcells)) (star (RowO 3 1 (.slice B i d) i (((n.ws.take i).map (dropC T n.k)).map (Value.int .i64))) (star (AllW l) (star (CellO g1 #[.int .i64 n.k,.slice An i cn] 28) (star (CellO w.heap.size #[.slice aA n1 ac,.slice aD n2 ad,.slice aE n3 ae,.int .i64 T.drop,.int .i64 T.ord,.int .i64 T.ini] 25) emp)))))).Ok:=star_ok cell_ok (star_ok row_ok (star_ok row_ok (star_ok allw_ok (star_ok cell_ok (star_ok cell_ok emp_ok)))))
     obtain ⟨r0,r1,rf⟩:=run_c2 h1
     obtain ⟨s0,s1,s2⟩:=run_c2 h1.drop
     have h2:=run_set2 h1 okE (.slice A i c) (.slice B i d)
     have H2':=hide h2
     have HF:=hide (fun W (h:Run (fun _=>False) w (star (CellO g2 #[.slice A i c,.slice B i d] 71) (star (CellO g3 #[.slice A i c,.slice B i d] 71) (star (RowO 77 3 (.slice A i c) i (l.flatMap wcells)) (star (RowO 3 1 (.slice B i d) i (((n.ws.take i).map (dropC T n.k)).map (Value.int .i64))) (star (AllW l) (star (CellO g1 #[.int .i64 n.k,.slice An i cn] 28) (star (CellO w.heap.size #[.slice aA n1 ac,.slice aD n2 ad,.slice aE n3 ae,.int .i64 T.drop,.int .i64 T.ord,.int .i64 T.ini] 25) emp))))))) W)=>(show NamRet w T n (.returned (.tuple #[.agg #[.slice A i c,.slice B i d],.bool true])) W from by
      have ht:n.ws.take i=n.ws:=by rw [HM.out,List.take_length]
      have hln:l.length=i:=by
       have:=congrArg List.length HLE.out
       rw [List.length_map,List.length_map,ht,←HM.out] at this
       exact this
      obtain ⟨F1,hF1⟩:=h.drop.drop.fst
      obtain ⟨F2,hF2⟩:=h.drop.drop.drop.fst
      obtain ⟨F3,hF3⟩:=h.drop.drop.drop.drop.fst
      refine HYES.out _ l A c B d (HBW.out _ _ h) ⟨by rw [HLE.out,ht],?_,?_,allw_r hF3⟩ HIC.out HID.out
      ·have:=row_src hF1 (wcells_one l)
       unfold Rst
       rw [hln]
       exact this
      ·have:=row_src hF2 (into_one _)
       rw [ht] at this
       unfold IntR
       rw [List.length_map,←HM.out]
       exact this))
     clear h1 h2 okE HR HLE HIC HID
     go_wp2
     obtain ⟨f2,hf2⟩:=H2'.out.fst
     refine bodyPost_ret (res29 rfl rfl hf2.1 rfl) rfl ?_
     exact HF.out _ H2'.out
end Go.Proofs.YtbnnlpjpnihheaaGreatDoor
namespace Go.CH.Mtc
open Go.CH.Scr Go.CH.Pot

def picks {α:Type} (f:Int→Int→Option α):Nat→List Int→List α
 | _,[]=>[]
 | i,j :: l=>(f i j).toList ++ picks f (i+1) l
theorem picks_snoc {α:Type} (f:Int→Int→Option α) (x:Int):∀ (l:List Int) (i:Nat),picks f i (l ++ [x])=picks f i l ++ (f ((i+l.length:Nat):Int) x).toList
 | [],i=>by simp [picks]
 | y :: l,i=>by
  show (f i y).toList ++ picks f (i+1) (l ++ [x])=((f i y).toList ++ picks f (i+1) l) ++ _
  rw [picks_snoc f x l (i+1),List.append_assoc,List.length_cons,show i+1+l.length=i+(l.length+1) by omega]
end Go.CH.Mtc
namespace Go.Proofs.YtbnnlpjpnihheaaGreatDoor
open Go.RowKit Go.CH Go.CH.Scr Go.CH.Pot Go.CH.Mtc
open Asn (exec_build)
open Go.ChangeMaps (setBlock)

structure PA where
 A:Option Addr
 ac:Nat
 B:Option Addr
 bc:Nat
def peC (e:Pr × PA):Array Value:=prC e.1 e.2.A e.2.ac e.2.B e.2.bc
def peL (e:Pr × PA):List Value:=[.int .i64 e.1.i,.int .i64 e.1.j,.int .i64 e.1.kd,.int .i64 e.1.l,.int .i64 e.1.r,.int .i64 e.1.c,.int .i64 e.1.d.c,.slice e.2.A e.1.d.L.length e.2.ac,.slice e.2.B e.1.d.M.length e.2.bc,.string (bs e.1.d.F)]
theorem peL_one (l:List (Pr × PA)):∀ u ∈ l.flatMap peL,u.oneCell'=true:=by
 intro u hu
 obtain ⟨x,-,hx⟩:=List.mem_flatMap.1 hu
 unfold peL at hx
 simp only [List.mem_cons,List.not_mem_nil,or_false] at hx
 rcases hx with rfl | rfl | rfl | rfl | rfl | rfl | rfl | rfl | rfl | rfl <;> rfl
theorem pairsOk_:SliceOk Tryz.prog 29 44 (.agg #[.int .i64 0,.int .i64 0,.int .i64 0,.int .i64 0,.int .i64 0,.int .i64 0,.int .i64 0,.slice none 0 0,.slice none 0 0,.string ⟨#[]⟩]) 10 120:=⟨Tryz.underlying29,by kernel_rfl,by decide,by decide⟩
def pvO (o:Option (Pr × PA)):Value:=match o with
 | some e=>.agg (peC e)
 | none=>.agg #[.int .i64 0,.int .i64 0,.int .i64 0,.int .i64 0,.int .i64 0,.int .i64 0,.int .i64 0,.slice none 0 0,.slice none 0 0,.string ⟨#[]⟩]
def PesO (A:Option Addr) (c:Nat) (l:List (Pr × PA)):CH.Own:=RowO 44 10 (.slice A l.length c) l.length (l.flatMap peL)
theorem pes_ok {A:Option Addr} {c:Nat} {l:List (Pr × PA)}:(PesO A c l).Ok:=row_ok
theorem wpList_app1 {ops:Array Oper} {rest:List Oper} {F0:Nat→Prop} {w0 W:World} {Y:CH.Own} {o:Oper} {a:Act} {Q:Exit→Act→World→Prop} {t e:TypeId} {z:Value} {size bytes:Nat} (hgd:o.guard=none) (S:SliceOk Tryz.prog t e z size bytes) (hby:bytes≤1000) (s x:Operand)
  (ho:o.op=.call { callee:=.builtin .append,args:=#[s,x],argTypes:=#[t,t] }) {A:Option Addr} {c n g:Nat} {xs cs:List Value} (hsv:a.eval s=.slice A n c) (hx:a.eval x=.slice (some ⟨g,0,none⟩) 1 1) (hn:n≤1000000) (hY:Y.Ok)
  (h:Run F0 w0 (star (RowO e size (.slice A n c) n xs) Y) W) (h1:cs.length=size) (h2:∀ u ∈ cs,u.oneCell'=true) (hg:∀ (j:Nat) u,cs[j]?=some u→W.cell? ⟨g,j,none⟩=some u)
  (hK:∀ A' c' w',Run F0 w0 (star (RowO e size (.slice A' (n+1) c') (n+1) (xs ++ cs)) Y) w'→wpList Tryz.prog ops Q rest (a.put o.dst (.slice A' (n+1) c')) w'):wpList Tryz.prog ops Q (o :: rest) a W :=
 wpList_plain hgd fun _ hk=>wp_app1 S hby s x ho hsv hx hn hY h h1 h2 hg fun A' c' w' hr=>hk _ _ (hK A' c' w' hr)

def BuildRet (w:World) (f:Int→Int→Option (Pr × PA)) (cs:List Int) (k:Int) (sw:Bool) (e:Ending) (w':World):Prop :=
 ∃ A c,e=.returned (.agg #[.int .i64 k,.bool sw,.slice A (picks f 0 cs).length c])∧Post w (fun _=>False) (PesO A c (picks f 0 cs)) w'
set_option maxHeartbeats 6400000 in
set_option maxRecDepth 100000 in
theorem build_any {w:World} {f:Int→Int→Option (Pr × PA)} {gm b:Nat} {C:Option Addr} {cc:Nat} {cs:List Int} (hC:IntR w C cs) (hl:cs.length≤1000) (hg:w.cell? ⟨gm,0,none⟩=some (.map (some b)))
  (hm:∀ W,Below w.heap.size w W→∀ i j:Int,(Instr.lookup 74 (.map (some b)) (.agg #[.int .i64 i,.int .i64 j]) true).run Tryz.prog W=.ok (.tuple #[pvO (f i j),.bool (f i j).isSome]) W) (k:Int) (sw:Bool) :
  Calls Tryz.prog 31 #[.slice C cs.length cc,.int .i64 k,.bool sw,.pointer (some ⟨gm,0,none⟩)] w (BuildRet w f cs k sw):=by
 have h1:=run_new (Run.begin w) emp_ok #[.int .i64 0,.bool false,.slice none 0 0] 31
 have h2:=run_new h1 (star_ok cell_ok emp_ok) #[.int .i64 k,.bool sw,.slice none 0 0] 31
 simp only [World.size_alloc] at h2
 have HBW:=hide (fun W X (h:Run (fun _=>False) w X W)=>(show Below w.heap.size w W from h.mod.below (fun _ _ h=>h)))
 have h3:Run (fun _=>False) w (star (CellO (w.heap.size+1) #[.int .i64 k,.bool sw,.slice none 0 ((0:Nat))] 31) (star (PesO none 0 []) (star (CellO w.heap.size #[.int .i64 0,.bool false,.slice none 0 0] 31) emp))) _ :=
  ((h2.fresh (star_ok cell_ok (star_ok cell_ok emp_ok)) (⟨fun _=>False,row_nil _ 44 10,Mod.refl _ _,fun i hi=>.inl hi⟩:Post _ (fun _=>False) (PesO none 0 []) _)).perm (by ac_rfl))
 have H3:=hide h3
 have HG:=hide (fun W (hb:Below w.heap.size w W)=>(show W.cell? ⟨gm,0,none⟩=some (.map (some b)) from by rw [hb.cell (World.block_lt_of_cell? _ _ hg)];exact hg))
 have HM:=hide hm
 have HC:=hide hC
 clear h1 h2 h3 hg hm hC
 obtain ⟨n,hn⟩:∃ n,n=cs.length:=⟨_,rfl⟩
 have HN:=hide hn
 rw [←hn] at hl ⊢
 clear hn
 go_enter Tryz.func31,Tryz.ntmps31
 go_upto_region 3 with (fail)
 generalize (w.alloc (.cells #[.int .i64 0,.bool false,.slice none 0 0] 31)).alloc (.cells #[.int .i64 k,.bool sw,.slice none 0 0] 31)=w2 at *
 generalize hg8:w.heap.size+1=g8 at *
 clear hg8
 go_wp2_with fail
 go_loopw [18] (fun kk wr=>∃ (i q:Nat) (A:Option Addr) (c:Nat),kk=.int .i64 i∧i≤n∧q=(picks f 0 (cs.take i)).length∧q≤i∧Run (fun _=>False) w (star (CellO g8 #[.int .i64 k,.bool sw,.slice A q c] 31) (star (RowO 44 10 (.slice A q c) q ((picks f 0 (cs.take i)).flatMap peL)) (star (CellO w.heap.size #[.int .i64 0,.bool false,.slice none 0 0] 31) emp))) wr) (fun kk _=>n - (intOf kk).toNat)
 case atStart=>exact ⟨0,0,none,0,rfl,Nat.zero_le _,rfl,Nat.le_refl _,H3.out⟩
 case round =>
  clear H3
  obtain ⟨i,q,A,c,rfl,hi,hq,hqi,hR⟩:=hrel
  have HR:=hide hR
  have HQ:=hide hq
  clear hR hq
  by_cases hlt:i < n
  ·have hkn:i < cs.length:=by rw [←HN.out];exact hlt
   obtain ⟨bb,o,rfl,hc⟩:=Asn.Vec.at HC.out (by omega)
   have ck:=hc wr (HBW.out _ _ HR.out) i hkn
   have HTK:=hide (show picks f 0 (cs.take (i+1))=picks f 0 (cs.take i) ++ (f (i:Int) cs[i]).toList from by
    rw [List.take_succ_eq_append_getElem hkn,picks_snoc,List.length_take,Nat.min_eq_left (by omega),Nat.zero_add])
   generalize cs[i]=x at *
   clear hc hkn
   have cg:=HG.out wr (HBW.out _ _ HR.out)
   have cm:=HM.out wr (HBW.out _ _ HR.out) (i:Int) x
   have hib:(i:Int) < 1000000:=by omega
   cases hf:f (i:Int) x with
   | none =>
    rw [hf] at cm HTK
    unfold pvO at cm
    simp only [Option.isSome_none] at cm
    have HTK2:=hide (show picks f 0 (cs.take (i+1))=picks f 0 (cs.take i) from by rw [HTK.out];exact List.append_nil _)
    have okR:=hide (star_ok cell_ok (star_ok row_ok (star_ok cell_ok emp_ok)):(star (CellO g8 #[.int .i64 k,.bool sw,.slice A q c] 31) (star (RowO 44 10 (.slice A q c) q ((picks f 0 (cs.take i)).flatMap peL)) (star (CellO w.heap.size #[.int .i64 0,.bool false,.slice none 0 0] 31) emp))).Ok)
    have H4:=hide (run_new HR.out okR.out #[.int .i64 0,.int .i64 0,.int .i64 0,.int .i64 0,.int .i64 0,.int .i64 0,.int .i64 0,.slice none 0 0,.slice none 0 0,.string ⟨#[]⟩] 44)
    clear hf HTK HR
    go_upto_region 6 with (fail)
    generalize wr.alloc (.cells #[.int .i64 0,.int .i64 0,.int .i64 0,.int .i64 0,.int .i64 0,.int .i64 0,.int .i64 0,.slice none 0 0,.slice none 0 0,.string ⟨#[]⟩] 44)=w4 at *
    clear ck cg cm
    go_wp2_with fail
    go_roundw
    case rel=>exact ⟨i+1,q,A,c,by go_num,hlt,by rw [HTK2.out];exact HQ.out,by omega,by rw [HTK2.out];exact H4.out.drop⟩
    case measure=>simp [intOf];omega
   | some e =>
    rw [hf] at cm HTK
    unfold pvO at cm
    simp only [Option.isSome_some] at cm
    have HTK2:=hide (show picks f 0 (cs.take (i+1))=picks f 0 (cs.take i) ++ [e] from HTK.out)
    have okR:=hide (star_ok cell_ok (star_ok row_ok (star_ok cell_ok emp_ok)):(star (CellO g8 #[.int .i64 k,.bool sw,.slice A q c] 31) (star (RowO 44 10 (.slice A q c) q ((picks f 0 (cs.take i)).flatMap peL)) (star (CellO w.heap.size #[.int .i64 0,.bool false,.slice none 0 0] 31) emp))).Ok)
    unfold peC prC at cm
    have H4:=hide (run_new HR.out okR.out #[.int .i64 e.1.i,.int .i64 e.1.j,.int .i64 e.1.kd,.int .i64 e.1.l,.int .i64 e.1.r,.int .i64 e.1.c,.int .i64 e.1.d.c,.slice e.2.A e.1.d.L.length e.2.ac,.slice e.2.B e.1.d.M.length e.2.bc,.string (bs e.1.d.F)] 44)
    clear hf HTK HR
    go_upto_region 6 with (fail)
    generalize wr.alloc (.cells #[.int .i64 e.1.i,.int .i64 e.1.j,.int .i64 e.1.kd,.int .i64 e.1.l,.int .i64 e.1.r,.int .i64 e.1.c,.int .i64 e.1.d.c,.slice e.2.A e.1.d.L.length e.2.ac,.slice e.2.B e.1.d.M.length e.2.bc,.string (bs e.1.d.F)] 44)=w4 at *
    generalize wr.heap.size=g11 at *
    clear ck cg cm
    go_upto_region 7 with (fail)
    obtain ⟨⟨p0,p1,p2,p3,p4⟩,⟨p5,p6,p7,p8,p9⟩,pf⟩:=run_c10 H4.out
    obtain ⟨m0,m1,m2⟩:=run_c3 H4.out.drop
    have okS:=hide (star_ok cell_ok okR.out:(star (CellO g11 #[.int .i64 e.1.i,.int .i64 e.1.j,.int .i64 e.1.kd,.int .i64 e.1.l,.int .i64 e.1.r,.int .i64 e.1.c,.int .i64 e.1.d.c,.slice e.2.A e.1.d.L.length e.2.ac,.slice e.2.B e.1.d.M.length e.2.bc,.string (bs e.1.d.F)] 44) (star (CellO g8 #[.int .i64 k,.bool sw,.slice A q c] 31) (star (RowO 44 10 (.slice A q c) q ((picks f 0 (cs.take i)).flatMap peL)) (star (CellO w.heap.size #[.int .i64 0,.bool false,.slice none 0 0] 31) emp)))).Ok)
    have H5:=hide (run_new H4.out okS.out #[.int .i64 e.1.i,.int .i64 e.1.j,.int .i64 e.1.kd,.int .i64 e.1.l,.int .i64 e.1.r,.int .i64 e.1.c,.int .i64 e.1.d.c,.slice e.2.A e.1.d.L.length e.2.ac,.slice e.2.B e.1.d.M.length e.2.bc,.string (bs e.1.d.F)] 44)
    have hq6:q≤1000000:=by omega
    clear H4
    go_wp2_with (at_builtin;refine held ?_)
    clear p0 p1 p2 p3 p4 p5 p6 p7 p8 p9 pf m0 m1 m2
    generalize w4.alloc (.cells #[.int .i64 e.1.i,.int .i64 e.1.j,.int .i64 e.1.kd,.int .i64 e.1.l,.int .i64 e.1.r,.int .i64 e.1.c,.int .i64 e.1.d.c,.slice e.2.A e.1.d.L.length e.2.ac,.slice e.2.B e.1.d.M.length e.2.bc,.string (bs e.1.d.F)] 44)=w5 at *
    generalize w4.heap.size=g12 at *
    obtain ⟨F12,hF12⟩:=H5.out.fst
    have hcx:∀ (j:Nat) u,(peL e)[j]?=some u→w5.cell? ⟨g12,j,none⟩=some u:=fun j u hu=>cell_at hF12 (by unfold peL at hu;simpa using hu)
    refine Held.mk (wpList_app1 rfl pairsOk_ (by decide) (.tmp 33) (.tmp 35) rfl (A:=A) (c:=c) (n:=q) (g:=g12) (xs:=(picks f 0 (cs.take i)).flatMap peL) (cs:=peL e) rfl rfl hq6 (star_ok cell_ok (star_ok cell_ok (star_ok cell_ok (star_ok cell_ok emp_ok)))) (H5.out.perm (by ac_rfl:_=star (RowO 44 10 (.slice A q c) q ((picks f 0 (cs.take i)).flatMap peL)) (star (CellO g12 #[.int .i64 e.1.i,.int .i64 e.1.j,.int .i64 e.1.kd,.int .i64 e.1.l,.int .i64 e.1.r,.int .i64 e.1.c,.int .i64 e.1.d.c,.slice e.2.A e.1.d.L.length e.2.ac,.slice e.2.B e.1.d.M.length e.2.bc,.string (bs e.1.d.F)] 44) (star (CellO g11 #[.int .i64 e.1.i,.int .i64 e.1.j,.int .i64 e.1.kd,.int .i64 e.1.l,.int .i64 e.1.r,.int .i64 e.1.c,.int .i64 e.1.d.c,.slice e.2.A e.1.d.L.length e.2.ac,.slice e.2.B e.1.d.M.length e.2.bc,.string (bs e.1.d.F)] 44) (star (CellO g8 #[.int .i64 k,.bool sw,.slice A q c] 31) (star (CellO w.heap.size #[.int .i64 0,.bool false,.slice none 0 0] 31) emp)))))) rfl (fun y hy=>peL_one [e] y (by simpa using hy)) hcx ?_)
    intro A9 c9 w6 hr6
    have h7:=hr6.perm (by ac_rfl:_=star (CellO g8 #[.int .i64 k,.bool sw,.slice A q c] 31) (star (RowO 44 10 (.slice A9 (q+1) c9) (q+1) ((picks f 0 (cs.take i)).flatMap peL ++ peL e)) (star (CellO w.heap.size #[.int .i64 0,.bool false,.slice none 0 0] 31) (star (CellO g12 #[.int .i64 e.1.i,.int .i64 e.1.j,.int .i64 e.1.kd,.int .i64 e.1.l,.int .i64 e.1.r,.int .i64 e.1.c,.int .i64 e.1.d.c,.slice e.2.A e.1.d.L.length e.2.ac,.slice e.2.B e.1.d.M.length e.2.bc,.string (bs e.1.d.F)] 44) (star (CellO g11 #[.int .i64 e.1.i,.int .i64 e.1.j,.int .i64 e.1.kd,.int .i64 e.1.l,.int .i64 e.1.r,.int .i64 e.1.c,.int .i64 e.1.d.c,.slice e.2.A e.1.d.L.length e.2.ac,.slice e.2.B e.1.d.M.length e.2.bc,.string (bs e.1.d.F)] 44) emp)))))
    have okT:(star (RowO 44 10 (.slice A9 (q+1) c9) (q+1) ((picks f 0 (cs.take i)).flatMap peL ++ peL e)) (star (CellO w.heap.size #[.int .i64 0,.bool false,.slice none 0 0] 31) (star (CellO g12 #[.int .i64 e.1.i,.int .i64 e.1.j,.int .i64 e.1.kd,.int .i64 e.1.l,.int .i64 e.1.r,.int .i64 e.1.c,.int .i64 e.1.d.c,.slice e.2.A e.1.d.L.length e.2.ac,.slice e.2.B e.1.d.M.length e.2.bc,.string (bs e.1.d.F)] 44) (star (CellO g11 #[.int .i64 e.1.i,.int .i64 e.1.j,.int .i64 e.1.kd,.int .i64 e.1.l,.int .i64 e.1.r,.int .i64 e.1.c,.int .i64 e.1.d.c,.slice e.2.A e.1.d.L.length e.2.ac,.slice e.2.B e.1.d.M.length e.2.bc,.string (bs e.1.d.F)] 44) emp)))).Ok:=star_ok row_ok (star_ok cell_ok (star_ok cell_ok (star_ok cell_ok emp_ok)))
    obtain ⟨m0,m1,m2⟩:=run_c3 h7
    obtain ⟨F8,hF8⟩:=h7.fst
    have mf:=cell_free hF8
    have h8:Run (fun _=>False) w (star (CellO g8 #[.int .i64 k,.bool sw,.slice A9 (q+1) c9] 31) _) _:=run_setc h7 okT 2 (.slice A9 (q+1) c9)
    have H8:=hide ((h8.perm (by ac_rfl:_=star (star (CellO g12 #[.int .i64 e.1.i,.int .i64 e.1.j,.int .i64 e.1.kd,.int .i64 e.1.l,.int .i64 e.1.r,.int .i64 e.1.c,.int .i64 e.1.d.c,.slice e.2.A e.1.d.L.length e.2.ac,.slice e.2.B e.1.d.M.length e.2.bc,.string (bs e.1.d.F)] 44) (CellO g11 #[.int .i64 e.1.i,.int .i64 e.1.j,.int .i64 e.1.kd,.int .i64 e.1.l,.int .i64 e.1.r,.int .i64 e.1.c,.int .i64 e.1.d.c,.slice e.2.A e.1.d.L.length e.2.ac,.slice e.2.B e.1.d.M.length e.2.bc,.string (bs e.1.d.F)] 44)) (star (CellO g8 #[.int .i64 k,.bool sw,.slice A9 (q+1) c9] 31) (star (RowO 44 10 (.slice A9 (q+1) c9) (q+1) ((picks f 0 (cs.take i)).flatMap peL ++ peL e)) (star (CellO w.heap.size #[.int .i64 0,.bool false,.slice none 0 0] 31) emp))))).drop)
    clear h7 h8 okT hr6 hF8 F8 H5 F12 hF12 hcx
    go_wp2_with fail
    go_roundw
    case rel=>exact ⟨i+1,q+1,A9,c9,by go_num,hlt,by rw [HTK2.out,List.length_append,←HQ.out];rfl,by omega,by rw [HTK2.out,List.flatMap_append,List.flatMap_singleton];exact H8.out⟩
    case measure=>simp [intOf];omega
  ·obtain rfl:i=n:=by omega
   have ht:cs.take i=cs:=by rw [HN.out,List.take_length]
   rw [ht] at HQ HR
   clear ht
   have h1:=HR.out.perm (by ac_rfl:_=star (CellO w.heap.size #[.int .i64 0,.bool false,.slice none 0 0] 31) (star (CellO g8 #[.int .i64 k,.bool sw,.slice A q c] 31) (star (RowO 44 10 (.slice A q c) q ((picks f 0 cs).flatMap peL)) emp)))
   have okE:(star (CellO g8 #[.int .i64 k,.bool sw,.slice A q c] 31) (star (RowO 44 10 (.slice A q c) q ((picks f 0 cs).flatMap peL)) emp)).Ok:=star_ok cell_ok (star_ok row_ok emp_ok)
   obtain ⟨m0,m1,m2⟩:=run_c3 h1.drop
   obtain ⟨F8,hF8⟩:=h1.fst
   have z0:=cell_at (i:=0) hF8 rfl
   have z1:=cell_at (i:=1) hF8 rfl
   have z2:=cell_at (i:=2) hF8 rfl
   have zf:=cell_free hF8
   have h30:Run (fun _=>False) w (star (CellO w.heap.size #[.int .i64 k,.bool false,.slice none 0 0] 31) _) _:=run_setc h1 okE 0 (.int .i64 k)
   have h31:Run (fun _=>False) w (star (CellO w.heap.size #[.int .i64 k,.bool sw,.slice none 0 0] 31) _) _:=run_setc h30 okE 1 (.bool sw)
   have h32:Run (fun _=>False) w (star (CellO w.heap.size #[.int .i64 k,.bool sw,.slice A q c] 31) _) _:=run_setc h31 okE 2 (.slice A q c)
   have H9:=hide h32
   have HF:=hide (fun W (h:Run (fun _=>False) w (star (CellO w.heap.size #[.int .i64 k,.bool sw,.slice A q c] 31) (star (CellO g8 #[.int .i64 k,.bool sw,.slice A q c] 31) (star (RowO 44 10 (.slice A q c) q ((picks f 0 cs).flatMap peL)) emp))) W)=>(show BuildRet w f cs k sw (.returned (.agg #[.int .i64 k,.bool sw,.slice A q c])) W from by
    refine ⟨A,c,by rw [HQ.out],?_⟩
    unfold PesO
    rw [←HQ.out]
    exact (h.drop.drop.perm (star_emp_eq _)).post row_ok))
   clear h1 h30 h31 h32 okE HR F8 hF8
   go_wp2
   obtain ⟨f2,hf2⟩:=H9.out.fst
   refine bodyPost_ret (results_cell_row rfl _ _ w.heap.size 31 _ (0,0) _ rfl hf2.1 Tryz.underlying31 rfl (by kernel_rfl)) rfl ?_
   exact HF.out _ H9.out
end Go.Proofs.YtbnnlpjpnihheaaGreatDoor
namespace Go.CH.Asg
section
variable {c c':Nat→Nat→Int} {d d' e e':Nat→Int} {n m:Nat}
theorem find_congr {p q:Nat→Bool} {k:Nat} (h:∀ j,j < k→p j=q j):(List.range k).find? p=(List.range k).find? q:=by
 have:∀ l:List Nat,(∀ j ∈ l,p j=q j)→l.find? p=l.find? q:=by
  intro l
  induction l with
  | nil=>intro _;rfl
  | cons x l ih =>
   intro hl
   rw [List.find?_cons,List.find?_cons,hl x (List.mem_cons_self ..),ih fun j hj=>hl j (List.mem_cons_of_mem _ hj)]
 exact this _ fun j hj=>h j (List.mem_range.1 hj)
theorem L_congr (hc:∀ i,i < n→∀ j,j < m→c i j=c' i j) (hd:∀ i,i < n→d i=d' i) (he:∀ j,j < m→e j=e' j):∀ (k:Nat) (U:Nat→Bool),k≤n→L c d e n m k U=L c' d' e' n m k U
 | 0,U,_=>sg_congr fun j hj=>by rw [he j hj]
 | k+1,U,hk=>by
  unfold L
  rw [hd _ (by omega),L_congr hc hd he k U (by omega)]
  exact mnl_congr (fun j hj=>by rw [hc _ (by omega) j hj,L_congr hc hd he k _ (by omega)]) (fun _ _=>rfl)
theorem gr_congr (hc:∀ i,i < n→∀ j,j < m→c i j=c' i j) (hd:∀ i,i < n→d i=d' i) (he:∀ j,j < m→e j=e' j):∀ (k:Nat) (U:Nat→Bool),k≤n→gr c d e n m k U=gr c' d' e' n m k U
 | 0,U,_=>rfl
 | k+1,U,hk=>by
  have h1:(List.range m).find? (fun j => !U j && decide (c (n - (k+1)) j+L c d e n m k (ins U j)=L c d e n m (k+1) U))=(List.range m).find? (fun j => !U j && decide (c' (n - (k+1)) j+L c' d' e' n m k (ins U j)=L c' d' e' n m (k+1) U)):=find_congr fun j hj=>by
   rw [hc _ (by omega) j hj,L_congr hc hd he k _ (by omega),L_congr hc hd he (k+1) _ hk]
  unfold gr
  rw [h1]
  split
  ·rw [gr_congr hc hd he k _ (by omega)]
  ·rw [gr_congr hc hd he k _ (by omega)]
theorem GR0_congr (he:∀ j,j < m→e j=e' j):∀ b,b≤m→GR0 e m b=GR0 e' m b
 | 0,_=>rfl
 | b+1,hb=>by unfold GR0;rw [he _ (by omega),GR0_congr he b (by omega)]
theorem GRs_congr {i:Nat} {f g:Nat→Int} (hc:∀ j,j < m→c i j=c' i j) (hd:d i=d' i) (he:∀ j,j < m→e j=e' j) (hf:∀ b,b≤m→f b=g b):∀ b,b≤m→GRs c d e m i f b=GRs c' d' e' m i g b
 | 0,_=>by unfold GRs;rw [hd,hf 0 (by omega)]
 | b+1,hb=>by unfold GRs;rw [hd,hf _ hb,he _ (by omega),GRs_congr hc hd he hf b (by omega),hc _ (by omega),hf b (by omega)]
theorem GR_congr (hc:∀ i,i < n→∀ j,j < m→c i j=c' i j) (hd:∀ i,i < n→d i=d' i) (he:∀ j,j < m→e j=e' j):∀ (a b:Nat),a≤n→b≤m→GR c d e n m a b=GR c' d' e' n m a b
 | 0,b,_,hb=>GR0_congr he b hb
 | a+1,b,ha,hb=>by
  unfold GR
  exact GRs_congr (fun j hj=>hc _ (by omega) j hj) (hd _ (by omega)) he (fun b hb=>GR_congr hc hd he a b (by omega) hb) b hb
theorem gro_congr (hc:∀ i,i < n→∀ j,j < m→c i j=c' i j) (hd:∀ i,i < n→d i=d' i) (he:∀ j,j < m→e j=e' j):∀ (a b:Nat),a≤n→b≤m→gro c d e n m a b=gro c' d' e' n m a b
 | 0,b,_,hb=>rfl
 | a+1,b,ha,hb=>by
  have h1:(List.range b).find? (fun t=>decide (sg t (fun x=>e (m - b+x))+c (n - (a+1)) (m - b+t)+GR c d e n m a (b - (t+1))=GR c d e n m (a+1) b))=(List.range b).find? (fun t=>decide (sg t (fun x=>e' (m - b+x))+c' (n - (a+1)) (m - b+t)+GR c' d' e' n m a (b - (t+1))=GR c' d' e' n m (a+1) b)):=find_congr fun t ht=>by
   rw [sg_congr (fun x hx=>he (m - b+x) (by omega)),hc _ (by omega) _ (by omega),GR_congr hc hd he a _ (by omega) (by omega),GR_congr hc hd he (a+1) b ha hb]
  unfold gro
  rw [h1]
  split
  ·rw [gro_congr hc hd he a _ (by omega) (by omega)]
  ·rw [gro_congr hc hd he a _ (by omega) hb]
end
end Go.CH.Asg
namespace Go.CH.Mtc
open Go.CH.Scr Go.CH.Pot

def plM (T:Tab) (a b:NameM) (m i j:Nat):List Pr:=(List.range i).flatMap (fun r=>(List.range m).map (prM T a b r)) ++ (List.range j).map (prM T a b i)

def clM (T:Tab) (a b:NameM) (m n i j:Nat):List (List Int):=(List.range n).map fun r=>(List.range (if r < i then m else if r=i then j else 0)).map fun s=>cM T a b r s
section
variable {T:Tab} {a b:NameM} {m n i j:Nat}
theorem plM_col:plM T a b m i (j+1)=plM T a b m i j ++ [prM T a b i j]:=by unfold plM;rw [List.range_succ,List.map_append,←List.append_assoc];rfl
theorem plM_row:plM T a b m (i+1) 0=plM T a b m i m:=by unfold plM;rw [List.range_succ,List.flatMap_append,List.flatMap_singleton];simp
theorem plM_mem {p:Pr} (h:p ∈ plM T a b m i j):∃ r s,p=prM T a b r s∧((r < i∧s < m)∨(r=i∧s < j)):=by
 unfold plM at h
 rcases List.mem_append.1 h with h | h
 ·obtain ⟨r,hr,h⟩:=List.mem_flatMap.1 h
  obtain ⟨s,hs,rfl⟩:=List.mem_map.1 h
  exact ⟨r,s,rfl,.inl ⟨List.mem_range.1 hr,List.mem_range.1 hs⟩⟩
 ·obtain ⟨s,hs,rfl⟩:=List.mem_map.1 h
  exact ⟨i,s,rfl,.inr ⟨rfl,List.mem_range.1 hs⟩⟩
theorem plM_in {r s:Nat} (hr:r < i) (hs:s < m):prM T a b r s ∈ plM T a b m i j:=List.mem_append.2 (.inl (List.mem_flatMap.2 ⟨r,List.mem_range.2 hr,List.mem_map.2 ⟨s,List.mem_range.2 hs,rfl⟩⟩))

def pkF (E:List Pr) (x y:Int):Option Pr:=E.find? fun p=>decide (p.i=x) && decide (p.j=y)
theorem pkF_all {x y:Int} (hx:0≤x) (hn:x < n):pkF (plM T a b m n 0) x y=if 0≤y∧y < m then some (prM T a b x.toNat y.toNat) else none:=by
 unfold pkF
 cases hf:(plM T a b m n 0).find? fun p=>decide (p.i=x) && decide (p.j=y) with
 | none =>
  split
  ·rename_i hy
   have h1:=List.find?_eq_none.1 hf _ (plM_in (T:=T) (a:=a) (b:=b) (j:=0) (show x.toNat < n by omega) (show y.toNat < m by omega))
   exact absurd (by simp only [pr_i,pr_j,Bool.and_eq_true,decide_eq_true_eq];omega) h1
  ·rfl
 | some p =>
  have h1:=List.find?_some hf
  have h2:=List.mem_of_find?_eq_some hf
  obtain ⟨r,s,rfl,h3⟩:=plM_mem h2
  simp only [pr_i,pr_j,Bool.and_eq_true,decide_eq_true_eq] at h1
  rw [if_pos (by omega),show x.toNat=r by omega,show y.toNat=s by omega]
theorem clM_zero:clM T a b m n 0 0=List.replicate n []:=by
 unfold clM
 have:(fun r=>(List.range (if r < 0 then m else if r=0 then 0 else 0)).map fun s=>cM T a b r s)=fun _=>([]:List Int):=by
  funext r
  rw [if_neg (Nat.not_lt_zero _),ite_self];rfl
 rw [this,List.map_const',List.length_range]
theorem clM_len:(clM T a b m n i j).length=n:=by unfold clM;simp
theorem clM_get {k:Nat} (h:k < (clM T a b m n i j).length):(clM T a b m n i j)[k]=(List.range (if k < i then m else if k=i then j else 0)).map fun s=>cM T a b k s:=by
 simp [clM]
theorem clM_at (hi:i < n) (h:i < (clM T a b m n i j).length):(clM T a b m n i j)[i]=(List.range j).map fun s=>cM T a b i s:=by
 rw [clM_get,if_neg (Nat.lt_irrefl _),if_pos rfl]
theorem clM_col (hi:i < n):(clM T a b m n i j).set i ((List.range j).map (fun s=>cM T a b i s) ++ [cM T a b i j])=clM T a b m n i (j+1):=by
 apply List.ext_getElem
 ·simp [clM]
 ·intro k h1 h2
  rw [List.getElem_set,clM_get,clM_get]
  by_cases hk:i=k
  ·subst hk
   rw [if_pos rfl,if_neg (Nat.lt_irrefl _),if_pos rfl,List.range_succ,List.map_append];rfl
  ·rw [if_neg hk]
   by_cases hlt:k < i
   ·rw [if_pos hlt,if_pos hlt]
   ·rw [if_neg hlt,if_neg hlt,if_neg (Ne.symm hk),if_neg (Ne.symm hk)]
theorem clM_row:clM T a b m n (i+1) 0=clM T a b m n i m:=by
 unfold clM
 refine List.map_congr_left fun k _=>?_
 by_cases hk:k < i
 ·rw [if_pos hk,if_pos (by omega)]
 ·rw [if_neg hk]
  by_cases h2:k=i
  ·rw [if_pos h2,if_pos (by omega)]
  ·rw [if_neg h2,if_neg (by omega),ite_self]
end
end Go.CH.Mtc
namespace Go.Proofs.YtbnnlpjpnihheaaGreatDoor
open Go.RowKit Go.CH Go.CH.Scr Go.CH.Pot Go.CH.Mtc
open Asn (VecO vec_ok vec_vec Mat Vec ints cF lF vld cF_at lF_at)
open Go.ChangeMaps (setBlock)

structure RowZ where
 l:List Int
 A:Option Addr
 c:Nat
def RowZ.cl (z:RowZ):List Value:=[.slice z.A z.l.length z.c]
def RowZ.ow (z:RowZ):CH.Own:=VecO z.A z.c z.l

def MatO (A:Option Addr) (c:Nat) (zs:List RowZ):CH.Own:=ARow RowZ.cl RowZ.ow 40 1 (.slice A zs.length c) zs
theorem mato_ok {A:Option Addr} {c:Nat} {zs:List RowZ}:(MatO A c zs).Ok:=arow_ok fun _=>vec_ok
theorem cap_row {w:World} {F:Nat→Prop} {e:TypeId} {size n c:Nat} {A:Option Addr} {xs:List Value} (h:RowO e size (.slice A n c) n xs w F):n≤c:=by
 rcases h.1.2 with ⟨h1,h2⟩ | ⟨g,cap,cur,h1,_,_,h2,_⟩
 ·omega
 ·injection h1 with _ _ h3;omega
theorem cap_vec {w:World} {F:Nat→Prop} {A:Option Addr} {c:Nat} {l:List Int} (h:VecO A c l w F):l.length≤c:=cap_row h
theorem mato_mat {w:World} {F:Nat→Prop} {A:Option Addr} {c:Nat} {zs:List RowZ} (h:MatO A c zs w F):Mat w A (zs.map (·.l)) (zs.map fun z=>(z.A,z.c)):=by
 refine ⟨by simp,?_,?_⟩
 ·obtain ⟨F1,F2,h1,_⟩:=h
  have h2:=row_src h1 (by
   intro u hu
   rw [List.mem_flatMap] at hu
   obtain ⟨z,_,hz⟩:=hu
   simp [RowZ.cl] at hz;subst hz;rfl)
  have e:(zs.map fun z=>(z.A,z.c)).mapIdx (fun i x=>Value.slice x.1 ((zs.map (·.l)).getD i []).length x.2)=zs.flatMap RowZ.cl:=by
   have e1:zs.flatMap RowZ.cl=zs.map (fun z=>Value.slice z.A z.l.length z.c):=by
    have:∀ l:List RowZ,l.flatMap RowZ.cl=l.map (fun z=>Value.slice z.A z.l.length z.c):=fun l=>by induction l with
     | nil=>rfl
     | cons a l ih=>simp [RowZ.cl] at ih ⊢;exact ih
    exact this zs
   rw [e1]
   apply List.ext_getElem?
   intro i
   rw [List.getElem?_mapIdx,List.getElem?_map,List.getElem?_map]
   cases hx:zs[i]? with
   | none=>rfl
   | some x=>simp [List.getD_eq_getElem?_getD,hx]
  rw [e,List.length_map];exact h2
 ·intro i hi x hx
  have hi':i < zs.length:=by simpa using hi
  rw [List.getElem?_map,List.getElem?_eq_getElem hi'] at hx
  simp at hx
  subst hx
  rw [List.getElem_map]
  have h3:=arow_out hi' h
  obtain ⟨F1,F2,h1,_⟩:=h3
  exact ⟨vec_vec h1,cap_vec h1⟩
theorem big_rep {O:CH.Own} {w:World} (h:O w (fun _=>False)):∀ n:Nat,bigStar (List.replicate n O) w (fun _=>False)
 | 0=>fun _ h=>h
 | n+1=>⟨fun _=>False,fun _=>False,h,big_rep h n,fun _ h=>h.elim,fun i=>by simp⟩

theorem rep_cl:∀ n:Nat,(List.replicate n (⟨[],none,0⟩:RowZ)).flatMap RowZ.cl=List.replicate n (.slice none 0 0)
 | 0=>rfl
 | n+1=>by rw [List.replicate_succ,List.flatMap_cons,List.replicate_succ,rep_cl n];rfl
theorem mato_new {w:World} {F:Nat→Prop} {g n:Nat} (h:RowO 40 1 (.slice (some ⟨g,0,none⟩) n n) n (List.replicate n (.slice none 0 0)) w F):MatO (some ⟨g,0,none⟩) n (List.replicate n ⟨[],none,0⟩) w F:=by
 unfold MatO ARow
 rw [List.length_replicate,List.map_replicate]
 refine ⟨F,fun _=>False,?_,big_rep (Asn.vec_nil w) n,fun _ _ h=>h,fun i=>by simp⟩
 rw [rep_cl];exact h

def dlO (e:Pr × PA):CH.Own:=DlO e.2.A e.2.ac e.2.B e.2.bc e.1.d
theorem bdl_ok {E:List (Pr × PA)}:(bigStar (E.map dlO)).Ok:=big_ok (fun A hA=>by obtain ⟨e,_,rfl⟩:=List.mem_map.1 hA;exact dl_ok)
def pkey (e:Pr × PA):(Int × Int) × Value:=((e.1.i,e.1.j),.agg (peC e))
theorem keyOkP:KeyOk Tryz.prog 80 (pairV .i64):=keyOk_pair Tryz.underlying80 Tryz.underlying3 (by kernel_rfl)

def BI (T:Tab) (a b:NameM) (m n mb go i j:Nat):CH.Own:=exA fun E:List (Pr × PA)=>exA fun zs:List RowZ=>pur (E.map (·.1)=plM T a b m i j∧zs.map (·.l)=clM T a b m n i j) (star (MapO (pairV .i64) mb (E.map pkey)) (star (MatO (some ⟨go,0,none⟩) n zs) (bigStar (E.map dlO))))
theorem bi_ok {T:Tab} {a b:NameM} {m n mb go i j:Nat}:(BI T a b m n mb go i j).Ok:=exA_ok fun _=>exA_ok fun _=>pur_ok (star_ok map_ok (star_ok mato_ok bdl_ok))
section
variable {T:Tab} {a b:NameM} {m n mb go i j:Nat} {F0:Nat→Prop} {w0 W:World} {Y:CH.Own}
theorem bi_el (h:Run F0 w0 (star (BI T a b m n mb go i j) Y) W):∃ (E:List (Pr × PA)) (zs:List RowZ),E.map (·.1)=plM T a b m i j∧zs.map (·.l)=clM T a b m n i j∧Run F0 w0 (star (star (MapO (pairV .i64) mb (E.map pkey)) (star (MatO (some ⟨go,0,none⟩) n zs) (bigStar (E.map dlO)))) Y) W:=by
 obtain ⟨E,h⟩:=h.ex
 obtain ⟨zs,h⟩:=h.ex
 obtain ⟨⟨h1,h2⟩,h⟩:=h.pure
 exact ⟨E,zs,h1,h2,h⟩
theorem bi_mk {E:List (Pr × PA)} {zs:List RowZ} (h1:E.map (·.1)=plM T a b m i j) (h2:zs.map (·.l)=clM T a b m n i j) (h:Run F0 w0 (star (star (MapO (pairV .i64) mb (E.map pkey)) (star (MatO (some ⟨go,0,none⟩) n zs) (bigStar (E.map dlO)))) Y) W):Run F0 w0 (star (BI T a b m n mb go i j) Y) W :=
 Run.exI E (Run.exI zs (Run.pureI ⟨h1,h2⟩ h))
theorem bi_row (h:Run F0 w0 (star (BI T a b m n mb go i m) Y) W):Run F0 w0 (star (BI T a b m n mb go (i+1) 0) Y) W:=by
 obtain ⟨E,zs,h1,h2,h⟩:=bi_el h
 exact bi_mk (by rw [plM_row];exact h1) (by rw [clM_row];exact h2) h
theorem bi_new (h:Run F0 w0 (star (RowO 40 1 (.slice (some ⟨go,0,none⟩) n n) n (List.replicate n (.slice none 0 0))) (star (MapO (pairV .i64) mb []) Y)) W):Run F0 w0 (star (BI T a b m n mb go 0 0) Y) W:=by
 have h1:Run F0 w0 (star (MatO (some ⟨go,0,none⟩) n (List.replicate n ⟨[],none,0⟩)) (star (MapO (pairV .i64) mb []) (star (bigStar []) Y))) W:=(h.imp fun w F h=>star_mono h (fun _ h=>mato_new h) (fun _ h=>h)).perm (by show _=star _ (star _ (star emp Y));rw [emp_star])
 refine bi_mk (E:=[]) (zs:=List.replicate n ⟨[],none,0⟩) rfl (by rw [clM_zero,List.map_replicate]) (h1.perm ?_)
 show _=star (star (MapO (pairV .i64) mb []) (star _ (bigStar []))) Y
 ac_rfl

theorem key_new {E:List (Pr × PA)} (h:E.map (·.1)=plM T a b m i j):((i:Int),(j:Int)) ∉ (E.map pkey).map (·.1):=by
 rw [List.map_map]
 intro hm
 obtain ⟨e,he,hk⟩:=List.mem_map.1 hm
 have h1:e.1 ∈ plM T a b m i j:=by rw [←h];exact List.mem_map.2 ⟨e,he,rfl⟩
 obtain ⟨r,s,h2,h3⟩:=plM_mem h1
 simp only [Function.comp,pkey,h2,pr_i,pr_j,Prod.mk.injEq] at hk
 omega
end
section
variable {F0:Nat→Prop} {w0 W:World} {R Y:CH.Own}
theorem mato_out {go c i:Nat} {zs:List RowZ} (hi:i < zs.length) (h:Run F0 w0 (star (MatO (some ⟨go,0,none⟩) c zs) R) W) :
  Run F0 w0 (star (VecO zs[i].A zs[i].c zs[i].l) (star (RowO 40 1 (.slice (some ⟨go,0,none⟩) zs.length c) zs.length (zs.flatMap RowZ.cl)) (star (bigStar ((zs.eraseIdx i).map RowZ.ow)) R))) W∧W.cell? ⟨go,i,none⟩=some (.slice zs[i].A zs[i].l.length zs[i].c)∧W.frozen? ⟨go,i,none⟩=false:=by
 have h1:Run F0 w0 (star (VecO zs[i].A zs[i].c zs[i].l) (star (RowO 40 1 (.slice (some ⟨go,0,none⟩) zs.length c) zs.length (zs.flatMap RowZ.cl)) (star (bigStar ((zs.eraseIdx i).map RowZ.ow)) R))) W:=(h.imp fun w F hh=>star_mono hh (fun F h=>arow_out hi h) (fun _ h=>h)).perm (by show star (star (VecO zs[i].A zs[i].c zs[i].l) (star (RowO 40 1 (.slice (some ⟨go,0,none⟩) zs.length c) zs.length (zs.flatMap RowZ.cl)) (bigStar ((zs.eraseIdx i).map RowZ.ow)))) R=_;ac_rfl)
 obtain ⟨F,hF⟩:=h1.drop.fst
 have hx:(zs.flatMap RowZ.cl)[i]?=some (.slice zs[i].A zs[i].l.length zs[i].c):=by
  have:=flat_get_ (R:=RowZ.cl) (size:=1) (fun _=>rfl) hi (i:=0) (by omega)
  rw [Nat.mul_one,Nat.add_zero] at this
  exact this
 exact ⟨h1,row_cell hF hx,row_free hF i (by omega)⟩
theorem mato_in {go c i:Nat} {zs:List RowZ} (hi:i < zs.length) {A:Option Addr} {d n:Nat} {l:List Int} (hl:l.length=n) (hR:R.Ok) (h:Run F0 w0 (star (VecO A d l) (star (RowO 40 1 (.slice (some ⟨go,0,none⟩) zs.length c) zs.length (zs.flatMap RowZ.cl)) (star (bigStar ((zs.eraseIdx i).map RowZ.ow)) R))) W) :
  Run F0 w0 (star (MatO (some ⟨go,0,none⟩) c (zs.set i ⟨l,A,d⟩)) R) (W.setCell ⟨go,i,none⟩ (.slice A n d)):=by
 subst hl
 have okB:(bigStar ((zs.eraseIdx i).map RowZ.ow)).Ok:=big_ok (fun A hA=>by obtain ⟨z,_,rfl⟩:=List.mem_map.1 hA;exact vec_ok)
 obtain ⟨F,hF,-,back⟩:=h.rot.take row_ok (star_ok vec_ok (star_ok okB hR))
 have h1:=back _ _ (row_set hF (i:=i) (by omega) (.slice A l.length d))
 have e:(zs.flatMap RowZ.cl).set i (.slice A l.length d)=(zs.set i ⟨l,A,d⟩).flatMap RowZ.cl:=by
  have:=flat_set RowZ.cl 1 (fun _=>rfl) hi (j:=0) (by omega) (v:=.slice A l.length d) (x:=⟨l,A,d⟩) rfl
  rw [Nat.mul_one,Nat.add_zero] at this
  exact this
 rw [e] at h1
 have h2:Run F0 w0 (star (star (RowZ.ow ⟨l,A,d⟩) (star (RowO 40 1 (.slice (some ⟨go,0,none⟩) zs.length c) zs.length ((zs.set i ⟨l,A,d⟩).flatMap RowZ.cl)) (bigStar ((zs.eraseIdx i).map RowZ.ow)))) R) _:=h1.perm (by show star _ (star (VecO A d l) _)=star (star (VecO A d l) _) _;ac_rfl)
 refine h2.imp fun w F hh=>star_mono hh (fun F h=>?_) (fun _ h=>h)
 unfold MatO
 rw [List.length_set]
 exact arow_in hi h
theorem mato_rd {go c i:Nat} {zs:List RowZ} (hi:i < zs.length) {A:Option Addr} {d:Nat} {l:List Int} (h:Run F0 w0 (star (VecO A d l) (star (RowO 40 1 (.slice (some ⟨go,0,none⟩) zs.length c) zs.length (zs.flatMap RowZ.cl)) R)) W) :
  W.cell? ⟨go,i,none⟩=some (.slice zs[i].A zs[i].l.length zs[i].c)∧W.frozen? ⟨go,i,none⟩=false:=by
 obtain ⟨F,hF⟩:=h.drop.fst
 have hx:(zs.flatMap RowZ.cl)[i]?=some (.slice zs[i].A zs[i].l.length zs[i].c):=by
  have:=flat_get_ (R:=RowZ.cl) (size:=1) (fun _=>rfl) hi (i:=0) (by omega)
  rw [Nat.mul_one,Nat.add_zero] at this
  exact this
 exact ⟨row_cell hF hx,row_free hF i (by omega)⟩
theorem bi_step {T:Tab} {a b:NameM} {m n mb go i j:Nat} {E:List (Pr × PA)} {zs:List RowZ} {A B A9:Option Addr} {pc qc c9:Nat} {p:Pr} {cv:Int} {zl:List Int} (hp:prM T a b i j=p) (hcv:p.c=cv) (hE:E.map (·.1)=plM T a b m i j) (hzs:zs.map (·.l)=clM T a b m n i j) (hi:i < n) (hzl:zl=(List.range j).map fun s=>cM T a b i s)
  (h:Run F0 w0 (star (MatO (some ⟨go,0,none⟩) n (zs.set i ⟨zl ++ [cv],A9,c9⟩)) (star (MapO (pairV .i64) mb (mput (E.map pkey) ((i:Int),(j:Int)) (.agg (prC p A pc B qc)))) (star (bigStar (E.map dlO)) (star (DlO A pc B qc p.d) Y)))) W):Run F0 w0 (star (BI T a b m n mb go i (j+1)) Y) W:=by
 have hc:cM T a b i j=cv:=by unfold cM;rw [hp,hcv]
 have hk:mput (E.map pkey) ((i:Int),(j:Int)) (.agg (prC p A pc B qc))=(E ++ [(p,PA.mk A pc B qc)]).map pkey:=by
  rw [mput_new_ (key_new hE),List.map_append]
  have h1:p.i=i:=by rw [←hp,pr_i]
  have h2:p.j=j:=by rw [←hp,pr_j]
  show _=_ ++ [((p.i,p.j),Value.agg (prC p A pc B qc))]
  rw [h1,h2]
 rw [hk] at h
 refine bi_mk (E:=E ++ [(p,PA.mk A pc B qc)]) (zs:=zs.set i ⟨zl ++ [cv],A9,c9⟩) (by rw [List.map_append,hE,plM_col,hp];rfl) (by rw [List.map_set,hzs,←clM_col hi,hzl,hc]) ?_
 have h3:Run F0 w0 (star (star (dlO (p,PA.mk A pc B qc)) (bigStar (E.map dlO))) (star (MatO (some ⟨go,0,none⟩) n (zs.set i ⟨zl ++ [cv],A9,c9⟩)) (star (MapO (pairV .i64) mb ((E ++ [(p,PA.mk A pc B qc)]).map pkey)) Y))) W:=h.perm (by show _=star (star (DlO A pc B qc p.d) (bigStar (E.map dlO))) _;ac_rfl)
 have h4:Run F0 w0 (star (bigStar ((E ++ [(p,PA.mk A pc B qc)]).map dlO)) (star (MatO (some ⟨go,0,none⟩) n (zs.set i ⟨zl ++ [cv],A9,c9⟩)) (star (MapO (pairV .i64) mb ((E ++ [(p,PA.mk A pc B qc)]).map pkey)) Y))) W:=h3.imp fun w F hh=>star_mono hh (fun F h=>by rw [List.map_append];exact big_snoc h) (fun _ h=>h)
 exact h4.perm (by ac_rfl)

theorem app_vec1 {o:Oper} {a:Act} {K:Act→World→Prop} {Q:Exit→Act→World→Prop} (s x:Operand)
  (ho:o.op=.call { callee:=.builtin .append,args:=#[s,x],argTypes:=#[40,40] }) {A:Option Addr} {c n:Nat} {l:List Int} {i:Int} (hl:l.length=n) (hsv:a.eval s=.slice A n c) (hx:a.eval x=.slice (some ⟨W.heap.size,0,none⟩) 1 1) (hn:n≤1000) (hY:Y.Ok)
  (h:Run F0 w0 (star (VecO A c l) Y) W)
  (hK:∀ A' c' w',Run F0 w0 (star (VecO A' c' (l ++ [i])) Y) w'→K (a.put o.dst (.slice A' (n+1) c')) w'):o.wp Tryz.prog a (W.alloc (.cells #[.int .i64 i] 3)) K Q:=by
 subst hl
 obtain ⟨F7,hR7,-,bk7⟩:=(h.below (star_ok vec_ok hY) ((Below.refl _ _).alloc (Nat.le_refl _) (.cells #[.int .i64 i] 3))).take vec_ok hY
 refine wp_app s x ho Asn.intsOk _ 0 (v:=.slice A l.length c) (n:=l.length) (xs:=ints l) hsv hR7.1 (A:=some ⟨W.heap.size,0,none⟩) (m:=1) (c:=1) (news:=[.int .i64 i]) hx (Asn.src_lit W i) (by omega) (by decide) (Nat.zero_le _) ?_
 intro v8 w8 ho8 hg8 hv8
 have S8:=bk7 _ _ (row_app hR7 ho8 hg8 hv8)
 obtain ⟨A8,c8,rfl⟩:=own_form ho8
 rw [Asn.vec_snoc] at S8
 exact hK A8 c8 w8 S8
end

def eF (E:List (Pr × PA)) (x y:Int):Option (Pr × PA):=E.find? fun e=>decide (e.1.i=x) && decide (e.1.j=y)
theorem eF_fst (E:List (Pr × PA)) (x y:Int):(eF E x y).map (·.1)=pkF (E.map (·.1)) x y:=by
 unfold eF pkF
 rw [List.find?_map];rfl
theorem eF_get (x y:Int):∀ E:List (Pr × PA),mget (E.map pkey) (x,y)=(eF E x y).map fun e=>.agg (peC e)
 | []=>rfl
 | e :: E=>by
  rw [List.map_cons]
  show mget (((e.1.i,e.1.j),Value.agg (peC e)) :: E.map pkey) (x,y)=_
  rw [mget_cons]
  unfold eF
  rw [List.find?_cons]
  by_cases h:(x,y)=(e.1.i,e.1.j)
  ·rw [if_pos h]
   injection h with h1 h2
   subst h1 h2
   simp
  ·rw [if_neg h]
   have h2:(decide (e.1.i=x) && decide (e.1.j=y))=false:=by
    rw [Bool.and_eq_false_iff]
    by_cases h3:e.1.i=x
    ·right
     refine decide_eq_false fun h4=>h ?_
     rw [h3,h4]
    ·left;exact decide_eq_false h3
   rw [h2]
   exact eF_get x y E
theorem eF_mem {E:List (Pr × PA)} {x y:Int} {e:Pr × PA} (h:eF E x y=some e):e ∈ E:=List.mem_of_find?_eq_some h
theorem zero44 (w:World):(zeroValue 44).run Tryz.prog w=.ok (.agg #[.int .i64 0,.int .i64 0,.int .i64 0,.int .i64 0,.int .i64 0,.int .i64 0,.int .i64 0,.slice none 0 0,.slice none 0 0,.string ⟨#[]⟩]) w:=by kernel_rfl
theorem lk_any {E:List (Pr × PA)} {mb:Nat} {W:World} {F:Nat→Prop} (h:MapO (pairV .i64) mb (E.map pkey) W F) (x y:Int) :
  (Instr.lookup 74 (.map (some mb)) (.agg #[.int .i64 x,.int .i64 y]) true).run Tryz.prog W=.ok (.tuple #[pvO (eF E x y),.bool (eF E x y).isSome]) W:=by
 obtain ⟨⟨es,clock,h1,h2⟩,hF⟩:=h
 have h3:=run_lookup_ok keyOkP Tryz.underlying74 zero44 h2 (x,y) W h1
 rw [eF_get] at h3
 unfold pvO
 cases he:eF E x y with
 | none=>rw [he] at h3;exact h3
 | some e=>rw [he] at h3;exact h3
theorem picks_map {T:Tab} {a b:NameM} {n:Nat} {E:List (Pr × PA)} (hE:E.map (·.1)=plM T a b b.ws.length n 0):∀ (l:List Int) (i:Nat),i+l.length≤n→(picks (eF E) i l).map (·.1)=buildN T a b i l
 | [],i,_=>rfl
 | j :: l,i,h=>by
  have h1:=eF_fst E i j
  rw [hE,pkF_all (by omega) (by simp at h;omega)] at h1
  show ((eF E i j).toList ++ picks (eF E) (i+1) l).map (·.1)=_
  rw [List.map_append,picks_map hE l (i+1) (by simp at h;omega)]
  rw [buildN]
  split
  ·rename_i hy
   rw [if_pos hy] at h1
   cases he:eF E i j with
   | none=>rw [he] at h1;cases h1
   | some e=>rw [he] at h1;injection h1 with h1;simp [h1]
  ·rename_i hy
   rw [if_neg hy] at h1
   cases he:eF E i j with
   | none=>rfl
   | some e=>rw [he] at h1;cases h1
theorem picks_mem {E:List (Pr × PA)} {e:Pr × PA}:∀ (l:List Int) (i:Nat),e ∈ picks (eF E) i l→e ∈ E
 | [],i,h=>by cases h
 | j :: l,i,h=>by
  rcases List.mem_append.1 h with h | h
  ·cases he:eF E i j with
   | none=>rw [he] at h;cases h
   | some e' =>
    rw [he] at h
    simp at h
    subst h
    exact eF_mem he
  ·exact picks_mem l (i+1) h
theorem bdl_at {E:List (Pr × PA)} {w:World}:∀ {F:Nat→Prop},bigStar (E.map dlO) w F→∀ e ∈ E,IntR w e.2.A e.1.d.L∧IntR w e.2.B e.1.d.M:=by
 induction E with
 | nil=>intro F _ e he;cases he
 | cons x E ih =>
  intro F h e he
  obtain ⟨F1,F2,h1,h2,-,-⟩:=h
  rcases List.mem_cons.1 he with rfl | he
  ·obtain ⟨F3,F4,h3,h4,-,-⟩:=h1
   exact ⟨intR_of h3,intR_of h4⟩
  ·exact ih h2 e he

structure MtR (w:World) (A:Option Addr) (l:List (Pr × PA)):Prop where
 row:Rst peL 10 w A l
 all:∀ e ∈ l,IntR w e.2.A e.1.d.L∧IntR w e.2.B e.1.d.M
theorem MtR.below {w w':World} {A:Option Addr} {l:List (Pr × PA)} (h:MtR w A l) (hb:Below w.heap.size w w'):MtR w' A l:=⟨src_below h.row hb,fun e he=>⟨(h.all e he).1.below hb,(h.all e he).2.below hb⟩⟩

def MtO (A:Option Addr) (c:Nat) (l:List (Pr × PA)):CH.Own:=exA fun E:List (Pr × PA)=>pur (∀ e ∈ l,e ∈ E) (star (PesO A c l) (bigStar (E.map dlO)))
theorem mto_ok {A:Option Addr} {c:Nat} {l:List (Pr × PA)}:(MtO A c l).Ok:=exA_ok fun _=>pur_ok (star_ok pes_ok bdl_ok)
theorem mto_r {A:Option Addr} {c:Nat} {l:List (Pr × PA)} {w:World} {F:Nat→Prop} (h:MtO A c l w F):MtR w A l:=by
 obtain ⟨E,hE,F1,F2,h1,h2,-,-⟩:=h
 exact ⟨row_src h1 (peL_one _),fun e he=>bdl_at h2 e (hE e he)⟩
theorem mto_nil (w:World):MtO none 0 [] w (fun _=>False):=⟨[],(fun e he=>by cases he),fun _=>False,fun _=>False,row_nil w 44 10,fun _ h=>h,fun _ h=>h.elim,fun i=>by simp⟩

def MatRet (w:World) (T:Tab) (a b:NameM) (e:Ending) (w':World):Prop :=
 ∃ (x:Mt) (er:Int) (A:Option Addr) (c:Nat) (l:List (Pr × PA)),e=.returned (.tuple #[.agg #[.int .i64 x.c,.bool x.s,.slice A l.length c],.int .i64 er])∧MatP T a b x er∧l.map (·.1)=x.ps∧Post w (fun _=>False) (MtO A c l) w'

theorem mat_ret_r {w:World} {T:Tab} {a b:NameM} {e:Ending} {w':World} (h:MatRet w T a b e w') :
  ∃ (x:Mt) (er:Int) (A:Option Addr) (c:Nat) (l:List (Pr × PA)),e=.returned (.tuple #[.agg #[.int .i64 x.c,.bool x.s,.slice A l.length c],.int .i64 er])∧MatP T a b x er∧l.map (·.1)=x.ps∧MtR w' A l∧Below w.heap.size w w':=by
 obtain ⟨x,er,A,c,l,h1,h2,h3,F,h4,h5,-⟩:=h
 exact ⟨x,er,A,c,l,h1,h2,h3,mto_r h4,h5.below (fun _ _ h=>h)⟩
end Go.Proofs.YtbnnlpjpnihheaaGreatDoor
