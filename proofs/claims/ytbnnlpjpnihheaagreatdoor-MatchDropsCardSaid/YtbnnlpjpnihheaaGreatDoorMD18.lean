import Derived.Test.YtbnnlpjpnihheaaGreatDoorMD17
import Derived.Test.YtbnnlpjpnihheaaGreatDoorMD10
import Derived.Deep.DeepCutAuto
import Derived.Test.YtbnnlpjpnihheaaGreatDoorMD11
import Derived.Test.YtbnnlpjpnihheaaGreatDoorMD6
import Derived.Test.YtbnnlpjpnihheaaGreatDoorMD16
set_option linter.unusedSimpArgs false
set_option linter.unusedVariables false
namespace Go.Proofs.YtbnnlpjpnihheaaGreatDoor
open Go.RowKit Go.CH Go.CH.Scr Go.CH.Pot
open Go.ChangeMaps (setBlock)
theorem side_cost {rs:List Rule} {k:Int} {r:AR} (h:r ∈ sideR rs k):∃ R ∈ rs,r.c=R.c:=by
 unfold sideR at h
 obtain ⟨⟨R,ix⟩,hp,hr⟩:=List.mem_filterMap.1 h
 refine ⟨R,zip_mem _ _ hp,?_⟩
 unfold arOf at hr
 simp only at hr
 split at hr
 ·split at hr
  ·injection hr with hr;rw [←hr]
  ·cases hr
 ·cases hr

def AcRet (w:World) (T:Tab) (k:Int) (x:Bs) (k2:Int) (y:Bs) (d:Dv) (e:Ending) (w':World):Prop :=
 ∃ b:Bool,e=.returned (.bool b)∧(b=true↔rightD T k x k2 y d)∧Below w.heap.size w w'
set_option maxHeartbeats 6400000 in
set_option maxRecDepth 100000 in
theorem acheck_any {w:World} {T:Tab} {a:TA} (hT:TabR w T a) (hz:LZ w) (k:Int) (x:Bs) (k2:Int) (y:Bs) (hx:x.length≤1000000) (hy:y.length≤1000000) {d:Dv} {A B:Option Addr} {ac bc:Nat} (hA:IntR w A d.L) (hB:IntR w B d.M) (hl:d.L.length≤1000) (hm:d.M.length≤1000) :
  Calls Tryz.prog 71 #[tabV T a,.int .i64 k,.string (bs x),.int .i64 k2,.string (bs y),.agg #[.int .i64 d.c,.slice A d.L.length ac,.slice B d.M.length bc,.string (bs d.F)]] w (AcRet w T k x k2 y d):=by
 have h1:=run_new (Run.begin w) emp_ok (tabC T a) 25
 have h2:=run_new h1 (star_ok cell_ok emp_ok) #[.int .i64 d.c,.slice A d.L.length ac,.slice B d.M.length bc,.string (bs d.F)] 42
 rw [World.size_alloc] at h2
 have H2:=hide h2
 have HB2:=hide (show Below w.heap.size w _ from h2.mod.below (fun _ _ h=>h))
 have KO:=hide (open_any (hT.below HB2.out) (hz.below HB2.out) k x k2 y hx hy)
 have HA:=hide hA
 have HB:=hide hB
 have HNL:=hide hl
 have HNM:=hide hm
 clear hT hz h1 h2 hA hB hl hm
 unfold tabV at KO ⊢
 unfold tabC at KO H2 HB2 ⊢
 obtain ⟨n1,hn1⟩:∃ n,n=d.L.length:=⟨_,rfl⟩
 obtain ⟨n2,hn2⟩:∃ n,n=d.M.length:=⟨_,rfl⟩
 rw [←hn1,←hn2] at H2 HB2 KO ⊢
 have HN1:=hide hn1
 have HN2:=hide hn2
 clear hn1 hn2
 go_enter Tryz.func71,Tryz.ntmps71
 go_wp2_with fail
 refine KO.out.mono ?_
 rintro e9 w1 ⟨wa,rfl,hb,hok⟩
 have H3:=hide (H2.out.below (star_ok cell_ok (star_ok cell_ok emp_ok)) hb)
 have HB1:=hide (HB2.out.trans (hb.mono HB2.out.size))
 have HOK:=hide hok
 clear KO hb hok H2 HB2
 obtain ⟨W,hW⟩:∃ W,W=ofW T k x k2 y:=⟨_,rfl⟩
 rw [←hW] at HOK ⊢
 have HW:=hide hW
 clear hW
 unfold wordsC
 generalize hob:okW T k x k2 y=ob at HOK ⊢
 have HOB:=hide hob
 clear hob
 have H4:=hide (run_new H3.out (star_ok cell_ok (star_ok cell_ok emp_ok)) (wordsC W wa) 169)
 unfold wordsC at H4
 dsimp only
 cases ob with
 | false =>
  go_wp2
  go_ret
  exact ⟨false,rfl,⟨(fun h=>by cases h),fun h=>by have:=h.1;rw [HOB.out] at this;cases this⟩,H4.out.mod.below (fun _ _ h=>h)⟩
 | true =>
  obtain ⟨hP,hS⟩:=HOK.out rfl
  have HWe:=hide (show W=wdOf T k x k2 y from HW.out.trans (ofW_ok HOB.out))
  have hg:W.good:=by rw [HWe.out];exact (good_of (okW_iff.1 HOB.out).2.2).1
  have hca:∀ z ∈ wa.a.q,z.r.f.length≤1000000∧z.r.t.length≤1000000∧0≤z.r.c∧z.r.c≤1000000:=fun z hz=>by
   obtain ⟨R,hR,e⟩:=side_cost (by rw [←hS.qa];exact List.mem_map_of_mem hz:z.r ∈ sideR W.rs W.ka)
   have:=hg R hR
   exact ⟨(hS.f6 z hz).1,(hS.f6 z hz).2,by omega,by omega⟩
  have hcb:∀ z ∈ wa.b.q,z.r.f.length≤1000000∧z.r.t.length≤1000000∧0≤z.r.c∧z.r.c≤1000000:=fun z hz=>by
   obtain ⟨R,hR,e⟩:=side_cost (by rw [←hS.qb];exact List.mem_map_of_mem hz:z.r ∈ sideR W.rs W.kb)
   have:=hg R hR
   exact ⟨(hS.g6 z hz).1,(hS.g6 z hz).2,by omega,by omega⟩
  have HB3:=hide (show Below w1.heap.size w1 (w1.alloc (.cells #[.slice wa.a.L W.l.length wa.a.lc,.slice wa.a.R wa.a.q.length wa.a.rc,.slice wa.b.L W.m.length wa.b.lc,.slice wa.b.R wa.b.q.length wa.b.rc] 169)) from (Below.refl _ _).alloc (Nat.le_refl _) _)
  have KA:=hide (fun W' (h:Below w1.heap.size w1 W')=>written_any (w:=W') (L:=wa.a.L) (R:=wa.a.R) (D:=A) (lc:=wa.a.lc) (rc:=wa.a.rc) (dc:=ac) (hP.l.below h) (hP.ra.below h) (fun z hz=>(hP.fa z hz).below h) (HA.out.below (HB1.out.trans (h.mono HB1.out.size))) hS.la hS.l6 hS.na hca HNL.out)
  have KB:=hide (fun W' (h:Below w1.heap.size w1 W')=>written_any (w:=W') (L:=wa.b.L) (R:=wa.b.R) (D:=B) (lc:=wa.b.lc) (rc:=wa.b.rc) (dc:=bc) (hP.m.below h) (hP.rb.below h) (fun z hz=>(hP.fb z hz).below h) (HB.out.below (HB1.out.trans (h.mono HB1.out.size))) hS.lb hS.m6 hS.nb hcb HNM.out)
  rw [←HN1.out] at KA
  rw [←HN2.out] at KB
  have HQA:=hide hS.qa
  have HQB:=hide hS.qb
  have HC4:=hide (fun W' (h:Below (w1.alloc (.cells #[.slice wa.a.L W.l.length wa.a.lc,.slice wa.a.R wa.a.q.length wa.a.rc,.slice wa.b.L W.m.length wa.b.lc,.slice wa.b.R wa.b.q.length wa.b.rc] 169)).heap.size (w1.alloc (.cells #[.slice wa.a.L W.l.length wa.a.lc,.slice wa.a.R wa.a.q.length wa.a.rc,.slice wa.b.L W.m.length wa.b.lc,.slice wa.b.R wa.b.q.length wa.b.rc] 169)) W')=>(show (W'.cell? ⟨w1.heap.size,0,none⟩=some (.slice wa.a.L W.l.length wa.a.lc)∧W'.cell? ⟨w1.heap.size,1,none⟩=some (.slice wa.a.R wa.a.q.length wa.a.rc)∧W'.cell? ⟨w1.heap.size,2,none⟩=some (.slice wa.b.L W.m.length wa.b.lc)∧W'.cell? ⟨w1.heap.size,3,none⟩=some (.slice wa.b.R wa.b.q.length wa.b.rc))∧(W'.cell? ⟨w.heap.size+1,0,none⟩=some (.int .i64 d.c)∧W'.cell? ⟨w.heap.size+1,1,none⟩=some (.slice A n1 ac)∧W'.cell? ⟨w.heap.size+1,2,none⟩=some (.slice B n2 bc)∧W'.cell? ⟨w.heap.size+1,3,none⟩=some (.string (bs d.F)))∧Below w.heap.size w W' from by
   have h5:=H4.out.below (star_ok cell_ok (star_ok cell_ok (star_ok cell_ok emp_ok))) h
   obtain ⟨f1,hf1⟩:=h5.fst
   obtain ⟨f2,hf2⟩:=h5.drop.fst
   exact ⟨⟨cell_at hf1 rfl,cell_at hf1 rfl,cell_at hf1 rfl,cell_at hf1 rfl⟩,⟨cell_at hf2 rfl,cell_at hf2 rfl,cell_at hf2 rfl,cell_at hf2 rfl⟩,h5.mod.below (fun _ _ h=>h)⟩))
  clear hP hS hca hcb hg HOK H3 H4 HA HB
  go_upto_region 2 with (fail)
  generalize hw3:w1.alloc (.cells #[.slice wa.a.L W.l.length wa.a.lc,.slice wa.a.R wa.a.q.length wa.a.rc,.slice wa.b.L W.m.length wa.b.lc,.slice wa.b.R wa.b.q.length wa.b.rc] 169)=w3 at *
  clear hw3
  generalize w1.heap.size=g12 at HC4 ⊢
  obtain ⟨⟨a0,a1,a2,a3⟩,⟨q0,q1,q2,q3⟩,-⟩:=HC4.out w3 (Below.refl _ _)
  have K1:=hide (KA.out w3 HB3.out)
  go_wp2_with fail
  refine K1.out.mono ?_
  rintro e9 w4 ⟨F1,c1,ok1,rfl,⟨g1,g2,g3⟩,hw1,hb⟩
  have HB4:=hide (bel_trans HB3.out hb)
  have HD4:=hide hb
  have HW1:=hide hw1
  clear K1 hw1 hb a0 a1 a2 a3 q0 q1 q2 q3 KA
  obtain ⟨⟨a0,a1,a2,a3⟩,⟨q0,q1,q2,q3⟩,-⟩:=HC4.out w4 HD4.out
  have K2:=hide (KB.out w4 HB4.out)
  dsimp only
  go_wp2_with fail
  refine K2.out.mono ?_
  rintro e9 w5 ⟨F2,c2,ok2,rfl,⟨g4,g5,g6⟩,hw2,hb⟩
  have HD5:=hide (bel_trans HD4.out hb)
  have HW2:=hide hw2
  clear K2 hw2 hb a0 a1 a2 a3 q0 q1 q2 q3 KB
  obtain ⟨-,⟨q0,q1,q2,q3⟩,hbe⟩:=HC4.out w5 HD5.out
  have HBE:=hide hbe
  clear hbe HC4
  dsimp only
  have HRI:=hide (show rightD T k x k2 y d→ok1=true∧ok2=true∧F1=d.F∧F2=d.F∧c1+c2=d.c from by
   rintro ⟨-,F,e1,e2,k1,k2,k3,k4⟩
   have hWe:=HWe.out
   rw [←hWe] at k1 k2
   have q1:=HW1.out
   have q2:=HW2.out
   rw [HQA.out] at q1
   rw [HQB.out] at q2
   have p1:ok1=true:=by
    cases ok1 with
    | true=>rfl
    | false=>exact absurd (by subst hWe;exact k1) (q1.2 rfl _ _)
   have p2:ok2=true:=by
    cases ok2 with
    | true=>rfl
    | false=>exact absurd (by subst hWe;exact k2) (q2.2 rfl _ _)
   have r1:=q1.1 p1
   have r2:=q2.1 p2
   have r1':some (F1,c1,W.l.length)=some (F,e1,W.l.length):=r1.symm.trans (by subst hWe;exact k1)
   have r2':some (F2,c2,W.m.length)=some (F,e2,W.m.length):=r2.symm.trans (by subst hWe;exact k2)
   injection r1' with r1'
   injection r2' with r2'
   injection r1' with s1 s2
   injection s2 with s2 _
   injection r2' with s3 s4
   injection s4 with s4 _
   exact ⟨p1,p2,by rw [s1,k3],by rw [s3,k3],by rw [s2,s4];exact k4⟩)
  cases ok1 with
  | false =>
   go_wp2
   go_ret
   exact ⟨false,rfl,⟨(fun h=>by cases h),fun h=>by cases (HRI.out h).1⟩,HBE.out⟩
  | true =>
   cases ok2 with
   | false =>
    go_wp2
    go_ret
    exact ⟨false,rfl,⟨(fun h=>by cases h),fun h=>by cases (HRI.out h).2.1⟩,HBE.out⟩
   | true =>
    have HR:=hide (show F1=d.F→F2=d.F→c1+c2=d.c→rightD T k x k2 y d from fun h1 h2 h3=>by
     have e1:=HW1.out.1 rfl
     have e2:=HW2.out.1 rfl
     rw [HQA.out,h1] at e1
     rw [HQB.out,h2] at e2
     have hWe:=HWe.out
     subst hWe
     exact ⟨HOB.out,d.F,c1,c2,e1,e2,rfl,h3⟩)
    have tw:wrap64 (c1+c2)=c1+c2:=IntWalk.wrap64_in _ (by omega)
    clear HW1 HW2 HQA HQB HWe
    by_cases h1:F1=d.F
    ·have t1:((bs F1).toList == (bs d.F).toList)=true:=by rw [toList_beq];simp [h1]
     by_cases h2:F2=d.F
     ·have t2:((bs F2).toList == (bs d.F).toList)=true:=by rw [toList_beq];simp [h2]
      by_cases h3:c1+c2=d.c
      ·have t3:(c1+c2 == d.c)=true:=by simp [h3]
       have HRR:=hide (HR.out h1 h2 h3)
       clear h1 h2 h3 HR
       go_wp2
       go_ret
       exact ⟨true,rfl,⟨(fun _=>HRR.out),fun _=>rfl⟩,HBE.out⟩
      ·have t3:(c1+c2 == d.c)=false:=by simp [h3]
       have HXX:=hide (fun h=>h3 (HRI.out h).2.2.2.2)
       clear h1 h2 h3 HR
       go_wp2
       go_ret
       exact ⟨false,rfl,⟨(fun h=>by cases h),fun h=>absurd h HXX.out⟩,HBE.out⟩
     ·have t2:((bs F2).toList == (bs d.F).toList)=false:=by rw [toList_beq];simpa using fun h=>h2 (bs_inj h)
      have HXX:=hide (fun h=>h2 (HRI.out h).2.2.2.1)
      clear h1 h2 HR
      go_wp2
      go_ret
      exact ⟨false,rfl,⟨(fun h=>by cases h),fun h=>absurd h HXX.out⟩,HBE.out⟩
    ·have t1:((bs F1).toList == (bs d.F).toList)=false:=by rw [toList_beq];simpa using fun h=>h1 (bs_inj h)
     have HXX:=hide (fun h=>h1 (HRI.out h).2.2.1)
     clear h1 HR
     go_wp2
     go_ret
     exact ⟨false,rfl,⟨(fun h=>by cases h),fun h=>absurd h HXX.out⟩,HBE.out⟩
end Go.Proofs.YtbnnlpjpnihheaaGreatDoor
namespace Go.CH.Mtc
open Go.CH.Scr Go.CH.Pot

def fitW (p:Pr) (z:Wy):Bool:=decide (z.kd=p.kd) && (decide (z.l=p.l) && decide (z.r=p.r))
theorem right_none {T:Tab} {k k2:Int} {x y:Bs} {p:Pr} (h:∀ z ∈ waysN T k x k2 y,fitW p z=false):¬ rightP T k x k2 y p:=by
 rintro ⟨w,h1,-⟩
 have h2:=h w (List.mem_of_find?_eq_some h1)
 have h3:=List.find?_some h1
 unfold fitW at h2
 rw [h2] at h3;cases h3
theorem right_at {T:Tab} {k k2:Int} {x y:Bs} {p:Pr} {i:Nat} (hi:i < (waysN T k x k2 y).length) (h:∀ z ∈ (waysN T k x k2 y).take i,fitW p z=false) (hz:fitW p (waysN T k x k2 y)[i]=true):rightP T k x k2 y p↔p.c=(waysN T k x k2 y)[i].c+p.d.c∧rightD T k (waysN T k x k2 y)[i].x k2 (waysN T k x k2 y)[i].y p.d:=by
 have h1:(waysN T k x k2 y).find? (fun w=>decide (w.kd=p.kd) && (decide (w.l=p.l) && decide (w.r=p.r)))=some (waysN T k x k2 y)[i]:=by
  rw [List.find?_eq_some_iff_getElem]
  refine ⟨hz,i,hi,rfl,fun j hj=>?_⟩
  have:=h (waysN T k x k2 y)[j] (List.mem_take_iff_getElem.2 ⟨j,by omega,rfl⟩)
  unfold fitW at this
  rw [this];rfl
 unfold rightP
 constructor
 ·rintro ⟨w,h2,h3,h4⟩
  rw [h1] at h2
  injection h2 with h2
  subst h2
  exact ⟨h3,h4⟩
 ·rintro ⟨h3,h4⟩
  exact ⟨_,h1,h3,h4⟩
theorem wrtN_bnd {T:Tab} (hv:validT T=true) {k:Int} {l:List Bs}:∀ (ks:List Int) (i:Nat) {F:Bs} {c:Int} {e:Nat},i≤l.length→wrtN l (sideR T.rs k) ks i=some (F,c,e)→ks.length+i≤e∧e≤l.length∧0≤c∧c≤ks.length*1000
 | [],i,F,c,e,hi,h=>by
  unfold wrtN at h
  injection h with h
  injection h with h1 h2
  injection h2 with h2 h3
  subst h2 h3
  simp [hi]
 | x :: ks,i,F,c,e,hi,h=>by
  unfold wrtN at h
  split at h
  ·cases h
  ·rename_i r hr
   split at h
   ·rename_i hf
    rw [Option.map_eq_some_iff] at h
    obtain ⟨z,hz,he⟩:=h
    obtain ⟨zF,zc,ze⟩:=z
    injection he with h1 h2
    injection h2 with h2 h3
    unfold fitsA at hf
    rw [Bool.and_eq_true,decide_eq_true_eq] at hf
    obtain ⟨a1,a2,a3,a4⟩:=wrtN_bnd hv ks (i+r.f.length) hf.1 hz
    have hm:=List.mem_of_find?_eq_some hr
    have b1:=side_len hm
    obtain ⟨R,b2,-,-,b3⟩:=side_mem hm
    have b4:R ∈ T.rs:=List.mem_of_getElem? (List.mem_zipIdx_iff_getElem?.1 b2)
    have b5:=costN_iff.1 (ruleN_iff.1 ((rulesN_iff.1 (validT_iff.1 hv).2.1).2 R b4)).2.2
    have b6:r.c=R.c:=by rw [b3]
    simp only at h2 h3
    rw [List.length_cons]
    refine ⟨by omega,by omega,by omega,?_⟩
    rw [Int.natCast_add,Int.add_mul]
    omega
   ·cases h

theorem rightD_bnd {T:Tab} {k k2:Int} {x y:Bs} {d:Dv} (h:rightD T k x k2 y d):0≤d.c∧d.c≤24000∧d.L.length≤12∧d.M.length≤12:=by
 obtain ⟨hok,F,c1,c2,h1,h2,-,h4⟩:=h
 obtain ⟨e1,e2,e3⟩:=okW_iff.1 hok
 have l1:=(word_iff.1 (fold_word e1)).2.2
 have l2:=(word_iff.1 (fold_word e2)).2.2
 obtain ⟨a1,a2,a3,a4⟩:=wrtN_bnd e3 d.L 0 (Nat.zero_le _) h1
 obtain ⟨b1,b2,b3,b4⟩:=wrtN_bnd e3 d.M 0 (Nat.zero_le _) h2
 have l1':(wdOf T k x k2 y).l.length≤12:=l1
 have l2':(wdOf T k x k2 y).m.length≤12:=l2
 rw [←h4]
 omega
end Go.CH.Mtc
namespace Go.Proofs.YtbnnlpjpnihheaaGreatDoor
open Go.RowKit Go.CH Go.CH.Scr Go.CH.Pot Go.CH.Mtc
open Go.ChangeMaps (setBlock)
attribute [local go_sem] Oper.semAt_some
theorem res39 {tmps:Array Value} {w:World} {g:Nat} {b:Bool} (h:tmps.getD 8 undef=.pointer (some ⟨g,0,none⟩)) (hc:w.cell? ⟨g,0,none⟩=some (.bool b)):(results Tryz.f39 tmps).run Tryz.prog w=.ok (.bool b) w:=by
 have e1:tmps[8]?.getD undef=.pointer (some ⟨g,0,none⟩):=by simpa using h
 have r1:=run_loadVar_bool (P:=Tryz.prog) w g 4 b hc Tryz.underlying4
 simp only [results,Tryz.results39]
 simp [Sem.run_bind,Result.andThen,e1,asAddr,r1]

def RgI (ws:List Wy) (p:Pr) (g8:Nat) (X:CH.Own) (i:Nat):CH.Own:=pur (∀ z ∈ ws.take i,fitW p z=false) (star (CellO g8 #[.bool false] 4) X)

def RgX (q:Bool→Prop) (g8:Nat) (c:Code):CH.Own:=exA fun b:Bool=>pur (c=.ret∧q b) (CellO g8 #[.bool b] 4)
theorem rgi_ok {ws:List Wy} {p:Pr} {g8 i:Nat} {X:CH.Own} (hX:X.Ok):(RgI ws p g8 X i).Ok:=pur_ok (star_ok cell_ok hX)
theorem rgx_ok {q:Bool→Prop} {g8:Nat} {c:Code}:(RgX q g8 c).Ok:=exA_ok fun _=>pur_ok cell_ok
theorem take_fit {ws:List Wy} {p:Pr} {i:Nat} (hi:i < ws.length) (h:∀ z ∈ ws.take i,fitW p z=false) (hz:fitW p ws[i]=false):∀ z ∈ ws.take (i+1),fitW p z=false:=by
 intro z hm
 rw [List.take_succ_eq_append_getElem hi] at hm
 rcases List.mem_append.1 hm with hm | hm
 ·exact h z hm
 ·rw [List.mem_singleton] at hm
  rw [hm];exact hz

def RgtRet (w:World) (T:Tab) (k:Int) (x:Bs) (k2:Int) (y:Bs) (p:Pr) (e:Ending) (w':World):Prop:=∃ b:Bool,e=.returned (.bool b)∧(b=true↔rightP T k x k2 y p)∧Below w.heap.size w w'
set_option maxHeartbeats 6400000 in
set_option maxRecDepth 100000 in
theorem right_any {w:World} {T:Tab} {ta:TA} (hT:TabR w T ta) (hz:LZ w) {k k2:Int} {x y:Bs} (hx:x.length≤1000000) (hy:y.length≤1000000) (hok:okW T k x k2 y=true) {a c:WW} (hu:WrdR w (wrdN T k x) a) (hv:WrdR w (wrdN T k2 y) c) {p:Pr} {A B:Option Addr} {pc qc:Nat} (hA:IntR w A p.d.L) (hB:IntR w B p.d.M) (hl:p.d.L.length≤1000) (hm:p.d.M.length≤1000) :
  Calls Tryz.prog 39 #[tabV T ta,wrdV (wrdN T k x) a,wrdV (wrdN T k2 y) c,.agg (prC p A pc B qc)] w (RgtRet w T k x k2 y p):=by
 obtain ⟨hw1,hw2,hval⟩:=okW_iff.1 hok
 have h1:=run_new (Run.begin w) emp_ok (tabC T ta) 25
 have h2:=run_new h1 (star_ok cell_ok emp_ok) (wrdC (wrdN T k x) a) 77
 have h3:=run_new h2 (star_ok cell_ok (star_ok cell_ok emp_ok)) (wrdC (wrdN T k2 y) c) 77
 have h4:=run_new h3 (star_ok cell_ok (star_ok cell_ok (star_ok cell_ok emp_ok))) (prC p A pc B qc) 44
 have h5:=run_new h4 (star_ok cell_ok (star_ok cell_ok (star_ok cell_ok (star_ok cell_ok emp_ok)))) #[.bool false] 4
 simp only [World.size_alloc] at h5
 have H5:=hide h5
 have HBW:=hide (fun W X (h:Run (fun _=>False) w X W)=>(show Below w.heap.size w W from h.mod.below (fun _ _ h=>h)))
 have HIT:=hide (fun b1 b2 b3=>ways_iter (u:=wrdN T k x) (v:=wrdN T k2 y) (a:=a) (c:=c) (T:=T) (t:=ta) (b1:=b1) (b2:=b2) (b3:=b3) (letF_len hw1).1 (letF_len hw2).1 (Nat.le_trans (vars_few hval) (by omega)) (Nat.le_trans (vars_few hval) (by omega)) (fun z hz=>vars_bnd hval hz) (fun z hz=>vars_bnd hval hz) (Nat.le_trans (letF_len hw1).2 (by omega)) (Nat.le_trans (letF_len hw2).2 (by omega)))
 have HEE:=hide (fun W (hm:Mod (fun _=>False) w W)=>(show ZyR (wrdN T k x) (wrdN T k2 y) a c W from ⟨hu.below (hm.below (fun _ _ h=>h)),hv.below (hm.below (fun _ _ h=>h))⟩))
 have HWS:=hide (show waysL T.ini (wrdN T k x).vs (wrdN T k2 y).vs (wrdN T k x).ls (wrdN T k2 y).ls=waysN T k x k2 y from rfl)
 have KB:=hide (fun W (hb:Below w.heap.size w W) (z:Wy) (hzm:z ∈ waysN T k x k2 y)=>acheck_any (hT.below hb) (hz.below hb) k z.x k2 z.y (Nat.le_trans (ways_len hzm).1 hx) (Nat.le_trans (ways_len hzm).2 hy) (d:=p.d) (ac:=pc) (bc:=qc) (hA.below hb) (hB.below hb) hl hm)
 have KW:=hide (fun W=>ways_any (u:=wrdN T k x) (v:=wrdN T k2 y) (a:=a) (c:=c) (T:=T) (t:=ta) W)
 have HVW:=hide (fun (z:Wy) (hzm:z ∈ waysN T k x k2 y)=>ways_bnd hval hzm)
 have HK:=hide (show (wrdN T k x).k=k∧(wrdN T k2 y).k=k2 from ⟨rfl,rfl⟩)
 have HRN:=hide (fun h=>right_none (T:=T) (k:=k) (k2:=k2) (x:=x) (y:=y) (p:=p) h)
 have HRA:=hide (fun i hi h hz=>right_at (T:=T) (k:=k) (k2:=k2) (x:=x) (y:=y) (p:=p) (i:=i) hi h hz)
 have HRET:=hide (fun W (b:Bool) (h1:b=true↔rightP T k x k2 y p) (hb:Below w.heap.size w W)=>(show RgtRet w T k x k2 y p (.returned (.bool b)) W from ⟨b,rfl,h1,hb⟩))
 generalize RgtRet w T k x k2 y p=RET at *
 clear hT hz hx hy hok hu hv hw1 hw2 hval h1 h2 h3 h4 h5 hA hB hl hm
 generalize rightP T k x k2 y p=RP at *
 generalize waysN T k x k2 y=ws at *
 generalize wrdN T k x=u at *
 generalize wrdN T k2 y=v at *
 unfold wrdV tabV prC at *
 unfold wrdC tabC at *
 generalize T.rs.length=n1 at *
 generalize T.ds.length=n2 at *
 generalize T.es.length=n3 at *
 obtain ⟨aA,ac,aD,ad,aE,ae⟩:=ta
 dsimp only at H5 KB ⊢
 refine (callsIn_wide (n:=8)).1 ?_
 refine callsIn_of_wp_marks Tryz.func39 rfl trivial ?_ rfl
 simp only [Tryz.ntmps39,List.size_toArray,List.length_cons,List.length_nil,Nat.reduceAdd,Nat.reduceSub,Array.replicate_succ,Array.replicate_zero,List.push_toArray,List.append_toArray,List.nil_append,List.cons_append]
 refine (wpIn_wide (n:=8)).2 ?_
 go_upto_region 1 with (fail)
 generalize ((((w.alloc (.cells #[.slice aA n1 ac,.slice aD n2 ad,.slice aE n3 ae,.int .i64 T.drop,.int .i64 T.ord,.int .i64 T.ini] 25)).alloc (.cells #[.int .i64 u.k,.slice a.V u.vs.length a.vc,.slice a.L u.ls.length a.lc] 77)).alloc (.cells #[.int .i64 v.k,.slice c.V v.vs.length c.vc,.slice c.L v.ls.length c.lc] 77)).alloc (.cells #[.int .i64 p.i,.int .i64 p.j,.int .i64 p.kd,.int .i64 p.l,.int .i64 p.r,.int .i64 p.c,.int .i64 p.d.c,.slice A p.d.L.length pc,.slice B p.d.M.length qc,.string (bs p.d.F)] 44)).alloc (.cells #[.bool false] 4)=w5 at *
 generalize w.heap.size+1+1+1+1=g8 at *
 generalize w.heap.size+1+1+1=g7 at *
 generalize w.heap.size+1+1=g6 at *
 generalize w.heap.size+1=g5 at *
 generalize hg4:w.heap.size=g4 at H5 ⊢
 clear hg4
 have okBX:=hide (star_ok cell_ok (star_ok cell_ok (star_ok cell_ok (star_ok cell_ok emp_ok))):((star (CellO g7 #[.int .i64 p.i,.int .i64 p.j,.int .i64 p.kd,.int .i64 p.l,.int .i64 p.r,.int .i64 p.c,.int .i64 p.d.c,.slice A p.d.L.length pc,.slice B p.d.M.length qc,.string (bs p.d.F)] 44) (star (CellO g6 #[.int .i64 v.k,.slice c.V v.vs.length c.vc,.slice c.L v.ls.length c.lc] 77) (star (CellO g5 #[.int .i64 u.k,.slice a.V u.vs.length a.vc,.slice a.L u.ls.length a.lc] 77) (star (CellO g4 #[.slice aA n1 ac,.slice aD n2 ad,.slice aE n3 ae,.int .i64 T.drop,.int .i64 T.ord,.int .i64 T.ini] 25) emp))))).Ok)
 obtain ⟨t0,t1,t2,t3,t4,t5⟩:=run_cb H5.out.drop.drop.drop.drop
 obtain ⟨u0,u1,u2⟩:=run_c3 H5.out.drop.drop.drop
 obtain ⟨v0,v1,v2⟩:=run_c3 H5.out.drop.drop
 have KW2:=hide (KW.out w5)
 clear KW
 go_wp2_with fail
 refine KW2.out.mono ?_
 rintro e9 w6 ⟨b1,b2,b3,rfl,hp⟩
 have ok5:=hide (star_ok cell_ok okBX.out:(star (CellO g8 #[.bool false] 4) (star (CellO g7 #[.int .i64 p.i,.int .i64 p.j,.int .i64 p.kd,.int .i64 p.l,.int .i64 p.r,.int .i64 p.c,.int .i64 p.d.c,.slice A p.d.L.length pc,.slice B p.d.M.length qc,.string (bs p.d.F)] 44) (star (CellO g6 #[.int .i64 v.k,.slice c.V v.vs.length c.vc,.slice c.L v.ls.length c.lc] 77) (star (CellO g5 #[.int .i64 u.k,.slice a.V u.vs.length a.vc,.slice a.L u.ls.length a.lc] 77) (star (CellO g4 #[.slice aA n1 ac,.slice aD n2 ad,.slice aE n3 ae,.int .i64 T.drop,.int .i64 T.ord,.int .i64 T.ini] 25) emp))))).Ok)
 have H6:=hide (H5.out.fresh ok5.out hp)
 clear KW2 H5 hp t0 t1 t2 t3 t4 t5 u0 u1 u2 v0 v1 v2
 dsimp only
 go_wp2_with fail
 have HIT2:=hide (HIT.out b1 b2 b3)
 rw [HWS.out] at HIT2
 clear HIT
 have h8:Run (fun _=>False) w (star (RgI ws p g8 (star (CellO g7 #[.int .i64 p.i,.int .i64 p.j,.int .i64 p.kd,.int .i64 p.l,.int .i64 p.r,.int .i64 p.c,.int .i64 p.d.c,.slice A p.d.L.length pc,.slice B p.d.M.length qc,.string (bs p.d.F)] 44) (star (CellO g6 #[.int .i64 v.k,.slice c.V v.vs.length c.vc,.slice c.L v.ls.length c.lc] 77) (star (CellO g5 #[.int .i64 u.k,.slice a.V u.vs.length a.vc,.slice a.L u.ls.length a.lc] 77) (star (CellO g4 #[.slice aA n1 ac,.slice aD n2 ad,.slice aE n3 ae,.int .i64 T.drop,.int .i64 T.ord,.int .i64 T.ini] 25) emp)))) 0) (Zy u v a c T ⟨aA,ac,aD,ad,aE,ae⟩ b1 b2 b3)) w6:=Run.pureI (fun z hz=>by rw [List.take_zero] at hz;cases hz) (H6.out.perm (by ac_rfl))
 have HST:=hide h8.swap
 clear h8 H6
 have okI2:∀ (i:Nat) (a':Act),(exA fun g9:Nat=>exA fun z:Wy=>pur (ws[i]?=some z∧a'={ tmps:=#[.agg #[.slice aA n1 ac,.slice aD n2 ad,.slice aE n3 ae,.int .i64 T.drop,.int .i64 T.ord,.int .i64 T.ini],.agg #[.int .i64 u.k,.slice a.V u.vs.length a.vc,.slice a.L u.ls.length a.lc],.agg #[.int .i64 v.k,.slice c.V v.vs.length c.vc,.slice c.L v.ls.length c.lc],.agg #[.int .i64 p.i,.int .i64 p.j,.int .i64 p.kd,.int .i64 p.l,.int .i64 p.r,.int .i64 p.c,.int .i64 p.d.c,.slice A p.d.L.length pc,.slice B p.d.M.length qc,.string (bs p.d.F)],.pointer (some ⟨g4,0,none⟩),.pointer (some ⟨g5,0,none⟩),.pointer (some ⟨g6,0,none⟩),.pointer (some ⟨g7,0,none⟩),.pointer (some ⟨g8,0,none⟩),.pointer (some ⟨g9,0,none⟩),.agg #[.slice aA n1 ac,.slice aD n2 ad,.slice aE n3 ae,.int .i64 T.drop,.int .i64 T.ord,.int .i64 T.ini],.agg #[.int .i64 u.k,.slice a.V u.vs.length a.vc,.slice a.L u.ls.length a.lc],.agg #[.int .i64 v.k,.slice c.V v.vs.length c.vc,.slice c.L v.ls.length c.lc],fnY b1 b2 b3,.agg (wayC z),undef,undef,undef,undef,undef,undef,undef,undef,undef,undef,undef,undef,undef,undef,undef,undef,undef,undef,undef,undef,undef,undef,undef,undef,undef,undef,undef,undef,undef,undef,undef,undef,undef,undef,undef,undef,undef,undef,undef,undef,undef,undef,undef,undef,undef,undef],defers:=[] }) (star (CellO g9 (wayC z) 119) (RgI ws p g8 (star (CellO g7 #[.int .i64 p.i,.int .i64 p.j,.int .i64 p.kd,.int .i64 p.l,.int .i64 p.r,.int .i64 p.c,.int .i64 p.d.c,.slice A p.d.L.length pc,.slice B p.d.M.length qc,.string (bs p.d.F)] 44) (star (CellO g6 #[.int .i64 v.k,.slice c.V v.vs.length c.vc,.slice c.L v.ls.length c.lc] 77) (star (CellO g5 #[.int .i64 u.k,.slice a.V u.vs.length a.vc,.slice a.L u.ls.length a.lc] 77) (star (CellO g4 #[.slice aA n1 ac,.slice aD n2 ad,.slice aE n3 ae,.int .i64 T.drop,.int .i64 T.ord,.int .i64 T.ini] 25) emp)))) i))).Ok:=fun i a'=>exA_ok fun g9=>exA_ok fun z=>pur_ok (star_ok cell_ok (rgi_ok okBX.out))
 refine range_law3 (gf:=93) (lb:=#[.pointer (some ⟨b1,0,none⟩),.pointer (some ⟨b2,0,none⟩),.pointer (some ⟨b3,0,none⟩)]) rfl (enters_of Tryz.func93 (by kernel_rfl) rfl) HIT2.out Zy_ok (fun _=>rfl) HEE.out (fun i=>RgI ws p g8 (star (CellO g7 #[.int .i64 p.i,.int .i64 p.j,.int .i64 p.kd,.int .i64 p.l,.int .i64 p.r,.int .i64 p.c,.int .i64 p.d.c,.slice A p.d.L.length pc,.slice B p.d.M.length qc,.string (bs p.d.F)] 44) (star (CellO g6 #[.int .i64 v.k,.slice c.V v.vs.length c.vc,.slice c.L v.ls.length c.lc] 77) (star (CellO g5 #[.int .i64 u.k,.slice a.V u.vs.length a.vc,.slice a.L u.ls.length a.lc] 77) (star (CellO g4 #[.slice aA n1 ac,.slice aD n2 ad,.slice aE n3 ae,.int .i64 T.drop,.int .i64 T.ord,.int .i64 T.ini] 25) emp)))) i) (RgX (fun b=>b=true↔RP) g8) (fun i=>rgi_ok okBX.out) _ okI2 (fun _=>rgx_ok) HST.out ?_ ?_ ?_ ?_
 ·intro lo m i hi R' W1 K hR hI hK
  have h3:=run_new hI (star_ok (rgi_ok okBX.out) hR) (wayC ws[i]) 119
  have HF:=hide (hK { tmps:=#[.agg #[.slice aA n1 ac,.slice aD n2 ad,.slice aE n3 ae,.int .i64 T.drop,.int .i64 T.ord,.int .i64 T.ini],.agg #[.int .i64 u.k,.slice a.V u.vs.length a.vc,.slice a.L u.ls.length a.lc],.agg #[.int .i64 v.k,.slice c.V v.vs.length c.vc,.slice c.L v.ls.length c.lc],.agg #[.int .i64 p.i,.int .i64 p.j,.int .i64 p.kd,.int .i64 p.l,.int .i64 p.r,.int .i64 p.c,.int .i64 p.d.c,.slice A p.d.L.length pc,.slice B p.d.M.length qc,.string (bs p.d.F)],.pointer (some ⟨g4,0,none⟩),.pointer (some ⟨g5,0,none⟩),.pointer (some ⟨g6,0,none⟩),.pointer (some ⟨g7,0,none⟩),.pointer (some ⟨g8,0,none⟩),.pointer (some ⟨W1.heap.size,0,none⟩),.agg #[.slice aA n1 ac,.slice aD n2 ad,.slice aE n3 ae,.int .i64 T.drop,.int .i64 T.ord,.int .i64 T.ini],.agg #[.int .i64 u.k,.slice a.V u.vs.length a.vc,.slice a.L u.ls.length a.lc],.agg #[.int .i64 v.k,.slice c.V v.vs.length c.vc,.slice c.L v.ls.length c.lc],fnY b1 b2 b3,.agg (wayC ws[i]),undef,undef,undef,undef,undef,undef,undef,undef,undef,undef,undef,undef,undef,undef,undef,undef,undef,undef,undef,undef,undef,undef,undef,undef,undef,undef,undef,undef,undef,undef,undef,undef,undef,undef,undef,undef,undef,undef,undef,undef,undef,undef,undef,undef,undef,undef],defers:=[] } _ (Run.exI W1.heap.size (Run.exI ws[i] (Run.pureI ⟨List.getElem?_eq_getElem hi,rfl⟩ (h3.perm (by ac_rfl))))))
  clear hI h3 hK
  unfold wayE
  generalize ws[i]=z at *
  obtain ⟨zkd,zl,zr,zc,zx,zy⟩:=z
  unfold wayC
  unfold wayC at HF
  dsimp only at HF
  dsimp only
  gi_wp2
  exact HF.out
 ·intro lo m i hi a' R' W1 hR hI
  obtain ⟨g9,h1⟩:=hI.ex
  obtain ⟨z,h1⟩:=h1.ex
  obtain ⟨⟨hxz,rfl⟩,h2⟩:=h1.pure
  have hze:ws[i]=z:=by rw [List.getElem?_eq_getElem hi] at hxz;injection hxz
  have hzm:z ∈ ws:=by rw [←hze];exact List.getElem_mem hi
  obtain ⟨hno,h3⟩:=(h2.perm (by ac_rfl:_=star (RgI ws p g8 (star (CellO g7 #[.int .i64 p.i,.int .i64 p.j,.int .i64 p.kd,.int .i64 p.l,.int .i64 p.r,.int .i64 p.c,.int .i64 p.d.c,.slice A p.d.L.length pc,.slice B p.d.M.length qc,.string (bs p.d.F)] 44) (star (CellO g6 #[.int .i64 v.k,.slice c.V v.vs.length c.vc,.slice c.L v.ls.length c.lc] 77) (star (CellO g5 #[.int .i64 u.k,.slice a.V u.vs.length a.vc,.slice a.L u.ls.length a.lc] 77) (star (CellO g4 #[.slice aA n1 ac,.slice aD n2 ad,.slice aE n3 ae,.int .i64 T.drop,.int .i64 T.ord,.int .i64 T.ini] 25) emp)))) i) (star (CellO g9 (wayC z) 119) R'))).pure
  have HNO:=hide (fun hz=>take_fit hi hno (by rw [hze];exact hz))
  have HYES:=hide (fun hz=>by have:=HRA.out i hi hno (by rw [hze];exact hz);rw [hze] at this;exact this)
  have HRR:=hide hR
  have H3:=hide (h3.perm (by ac_rfl:_=(star (CellO g9 (wayC z) 119) (star (CellO g8 #[.bool false] 4) (star (CellO g7 #[.int .i64 p.i,.int .i64 p.j,.int .i64 p.kd,.int .i64 p.l,.int .i64 p.r,.int .i64 p.c,.int .i64 p.d.c,.slice A p.d.L.length pc,.slice B p.d.M.length qc,.string (bs p.d.F)] 44) (star (CellO g6 #[.int .i64 v.k,.slice c.V v.vs.length c.vc,.slice c.L v.ls.length c.lc] 77) (star (CellO g5 #[.int .i64 u.k,.slice a.V u.vs.length a.vc,.slice a.L u.ls.length a.lc] 77) (star (CellO g4 #[.slice aA n1 ac,.slice aD n2 ad,.slice aE n3 ae,.int .i64 T.drop,.int .i64 T.ord,.int .i64 T.ini] 25) (star R' emp)))))))))
  have okS:=hide (star_ok cell_ok (star_ok cell_ok (star_ok cell_ok (star_ok cell_ok (star_ok cell_ok (star_ok cell_ok (star_ok hR emp_ok)))))):((star (CellO g9 (wayC z) 119) (star (CellO g8 #[.bool false] 4) (star (CellO g7 #[.int .i64 p.i,.int .i64 p.j,.int .i64 p.kd,.int .i64 p.l,.int .i64 p.r,.int .i64 p.c,.int .i64 p.d.c,.slice A p.d.L.length pc,.slice B p.d.M.length qc,.string (bs p.d.F)] 44) (star (CellO g6 #[.int .i64 v.k,.slice c.V v.vs.length c.vc,.slice c.L v.ls.length c.lc] 77) (star (CellO g5 #[.int .i64 u.k,.slice a.V u.vs.length a.vc,.slice a.L u.ls.length a.lc] 77) (star (CellO g4 #[.slice aA n1 ac,.slice aD n2 ad,.slice aE n3 ae,.int .i64 T.drop,.int .i64 T.ord,.int .i64 T.ini] 25) (star R' emp)))))))).Ok)
  have hcz:=HVW.out z hzm
  have KB2:=hide (KB.out W1 (HBW.out _ _ H3.out) z hzm)
  rw [←HK.out.1,←HK.out.2] at KB2
  clear hI h1 h2 h3 hxz hze hzm hi hno hR
  obtain ⟨zkd,zl,zr,zc,zx,zy⟩:=z
  unfold wayC at H3 okS ⊢
  dsimp only at H3 okS hcz KB2 HNO HYES ⊢
  obtain ⟨⟨w0',w1',w2',w3',w4',w5'⟩,⟨w6',w7',w8',w9',w10',w11'⟩,wf⟩:=run_c12 H3.out
  obtain ⟨⟨p0,p1,p2,p3,p4⟩,⟨p5,p6,p7,p8,p9⟩,pf⟩:=run_c10 H3.out.drop.drop
  have HGO:=hide (fun (hn:∀ z ∈ ws.take (i+1),fitW p z=false)=>(show Run (fun _=>False) w (star (RgI ws p g8 (star (CellO g7 #[.int .i64 p.i,.int .i64 p.j,.int .i64 p.kd,.int .i64 p.l,.int .i64 p.r,.int .i64 p.c,.int .i64 p.d.c,.slice A p.d.L.length pc,.slice B p.d.M.length qc,.string (bs p.d.F)] 44) (star (CellO g6 #[.int .i64 v.k,.slice c.V v.vs.length c.vc,.slice c.L v.ls.length c.lc] 77) (star (CellO g5 #[.int .i64 u.k,.slice a.V u.vs.length a.vc,.slice a.L u.ls.length a.lc] 77) (star (CellO g4 #[.slice aA n1 ac,.slice aD n2 ad,.slice aE n3 ae,.int .i64 T.drop,.int .i64 T.ord,.int .i64 T.ini] 25) emp)))) (i+1)) R') W1 from Run.pureI hn (H3.out.drop.perm (by ac_rfl:_=star (star (CellO g8 #[.bool false] 4) (star (CellO g7 #[.int .i64 p.i,.int .i64 p.j,.int .i64 p.kd,.int .i64 p.l,.int .i64 p.r,.int .i64 p.c,.int .i64 p.d.c,.slice A p.d.L.length pc,.slice B p.d.M.length qc,.string (bs p.d.F)] 44) (star (CellO g6 #[.int .i64 v.k,.slice c.V v.vs.length c.vc,.slice c.L v.ls.length c.lc] 77) (star (CellO g5 #[.int .i64 u.k,.slice a.V u.vs.length a.vc,.slice a.L u.ls.length a.lc] 77) (star (CellO g4 #[.slice aA n1 ac,.slice aD n2 ad,.slice aE n3 ae,.int .i64 T.drop,.int .i64 T.ord,.int .i64 T.ini] 25) emp))))) R'))))
  by_cases hk1:zkd=p.kd
  ·have t1:(zkd == p.kd)=true:=by simp [hk1]
   by_cases hk2:zl=p.l
   ·have t2:(zl == p.l)=true:=by simp [hk2]
    by_cases hk3:zr=p.r
    ·have t3:(zr == p.r)=true:=by simp [hk3]
     have HY:=hide (HYES.out (by unfold fitW;simp [hk1,hk2,hk3]))
     clear hk1 hk2 hk3 HYES HNO HGO
     refine wpIn_block (wpIn_seq (region_in rfl (fun ⟨a,w,h⟩=>h) ?_))
     go_wp2_with fail
     iterate 2 gi_step
     clear w0' w1' w2' w3' w4' w6' w7' w8' w9' p0 p1 p2 p3 p4 t1 t2 t3
     have H4:=hide (H3.out.perm (by ac_rfl:_=star (CellO g8 #[.bool false] 4) (star (CellO g9 #[.int .i64 0,.int .i64 0,.int .i64 zkd,.int .i64 zl,.int .i64 zr,.int .i64 zc,.int .i64 0,.slice none 0 0,.slice none 0 0,.string ⟨#[]⟩,.string (bs zx),.string (bs zy)] 119) (star (star (CellO g7 #[.int .i64 p.i,.int .i64 p.j,.int .i64 p.kd,.int .i64 p.l,.int .i64 p.r,.int .i64 p.c,.int .i64 p.d.c,.slice A p.d.L.length pc,.slice B p.d.M.length qc,.string (bs p.d.F)] 44) (star (CellO g6 #[.int .i64 v.k,.slice c.V v.vs.length c.vc,.slice c.L v.ls.length c.lc] 77) (star (CellO g5 #[.int .i64 u.k,.slice a.V u.vs.length a.vc,.slice a.L u.ls.length a.lc] 77) (star (CellO g4 #[.slice aA n1 ac,.slice aD n2 ad,.slice aE n3 ae,.int .i64 T.drop,.int .i64 T.ord,.int .i64 T.ini] 25) emp)))) R'))))
     have okR:=hide (star_ok cell_ok (star_ok okBX.out HRR.out):(star (CellO g9 #[.int .i64 0,.int .i64 0,.int .i64 zkd,.int .i64 zl,.int .i64 zr,.int .i64 zc,.int .i64 0,.slice none 0 0,.slice none 0 0,.string ⟨#[]⟩,.string (bs zx),.string (bs zy)] 119) (star (star (CellO g7 #[.int .i64 p.i,.int .i64 p.j,.int .i64 p.kd,.int .i64 p.l,.int .i64 p.r,.int .i64 p.c,.int .i64 p.d.c,.slice A p.d.L.length pc,.slice B p.d.M.length qc,.string (bs p.d.F)] 44) (star (CellO g6 #[.int .i64 v.k,.slice c.V v.vs.length c.vc,.slice c.L v.ls.length c.lc] 77) (star (CellO g5 #[.int .i64 u.k,.slice a.V u.vs.length a.vc,.slice a.L u.ls.length a.lc] 77) (star (CellO g4 #[.slice aA n1 ac,.slice aD n2 ad,.slice aE n3 ae,.int .i64 T.drop,.int .i64 T.ord,.int .i64 T.ini] 25) emp)))) R')).Ok)
     obtain ⟨t0,t1,t2,t3,t4,t5⟩:=run_cb H3.out.drop.drop.drop.drop.drop
     obtain ⟨u0,u1,u2⟩:=run_c3 H3.out.drop.drop.drop.drop
     obtain ⟨v0,v1,v2⟩:=run_c3 H3.out.drop.drop.drop
     obtain ⟨s,hs⟩:∃ s,wrap64 (zc+p.d.c)=s:=⟨_,rfl⟩
     have HSE:=hide (show 0≤p.d.c→p.d.c≤100000→s=zc+p.d.c from fun h1 h2=>by rw [←hs];exact IntWalk.wrap64_in _ (by omega))
     have hF:∀ (b:Bool) W,Below W1.heap.size W1 W→Run (fun _=>False) w (star (RgX (fun b=>b=true↔RP) g8 .ret) R') (W.setCell ⟨g8,0,none⟩ (.bool b))∨¬ (b=true↔RP):=fun b W hb=>by
      by_cases hq:b=true↔RP
      ·have h5:Run (fun _=>False) w (star (CellO g8 #[.bool b] 4) _) _:=run_setc (H4.out.below (star_ok cell_ok okR.out) hb) okR.out 0 (.bool b)
       exact .inl (Run.exI b (Run.pureI ⟨rfl,hq⟩ ((h5.perm (by ac_rfl:_=star (star (CellO g9 #[.int .i64 0,.int .i64 0,.int .i64 zkd,.int .i64 zl,.int .i64 zr,.int .i64 zc,.int .i64 0,.slice none 0 0,.slice none 0 0,.string ⟨#[]⟩,.string (bs zx),.string (bs zy)] 119) (star (CellO g7 #[.int .i64 p.i,.int .i64 p.j,.int .i64 p.kd,.int .i64 p.l,.int .i64 p.r,.int .i64 p.c,.int .i64 p.d.c,.slice A p.d.L.length pc,.slice B p.d.M.length qc,.string (bs p.d.F)] 44) (star (CellO g6 #[.int .i64 v.k,.slice c.V v.vs.length c.vc,.slice c.L v.ls.length c.lc] 77) (star (CellO g5 #[.int .i64 u.k,.slice a.V u.vs.length a.vc,.slice a.L u.ls.length a.lc] 77) (star (CellO g4 #[.slice aA n1 ac,.slice aD n2 ad,.slice aE n3 ae,.int .i64 T.drop,.int .i64 T.ord,.int .i64 T.ini] 25) emp))))) (star (CellO g8 #[.bool b] 4) R'))).drop)))
      ·exact .inr hq
     have HFF:=hide hF
     clear hF
     refine wpIn_seq (region_in rfl (fun ⟨a,w,h⟩=>h) ?_)
     obtain ⟨FB,hFB⟩:=H4.out.fst
     have q0:=cell_at (i:=0) hFB rfl
     have qf:=cell_free hFB
     by_cases hps:p.c=s
     ·have t6:(p.c == s)=true:=by simp [hps]
      go_wp2_with fail
      refine KB2.out.mono ?_
      rintro e9 w2 ⟨bb,rfl,hbb,hb⟩
      have H5:=hide (H4.out.below (star_ok cell_ok okR.out) hb)
      obtain ⟨FC,hFC⟩:=H5.out.fst
      have r0:=cell_at (i:=0) hFC rfl
      have rf:=cell_free hFC
      clear q0 qf hFB FB KB2
      have hiff:bb=true↔RP:=by
       rw [HK.out.1,HK.out.2] at hbb
       rw [hbb,HY.out]
       constructor
       ·intro h
        obtain ⟨c1,c2,-,-⟩:=rightD_bnd h
        exact ⟨by rw [hps,HSE.out c1 (by omega)],h⟩
       ·exact fun h=>h.2
      have HE:=hide ((HFF.out bb w2 hb).resolve_right (fun h=>h hiff))
      clear hiff hbb hps
      go_wp2_with fail
      gi_wp2
      exact HE.out
     ·have t6:(p.c == s)=false:=by simp [hps]
      have hiff:false=true↔RP:=by
       constructor
       ·intro h;cases h
       ·intro h
        obtain ⟨h1,h2⟩:=HY.out.1 h
        obtain ⟨c1,c2,-,-⟩:=rightD_bnd h2
        exact absurd (by rw [h1,HSE.out c1 (by omega)]) hps
      have HE:=hide ((HFF.out false W1 (Below.refl _ _)).resolve_right (fun h=>h hiff))
      clear hiff hps
      go_wp2_with fail
      gi_wp2
      exact HE.out
    ·have t3:(zr == p.r)=false:=by simp [hk3]
     have HN:=hide (HNO.out (by unfold fitW;simp [hk3]))
     clear HYES HNO
     refine wpIn_block (wpIn_seq (region_in rfl (fun ⟨a,w,h⟩=>h) ?_))
     go_wp2_with fail
     gi_wp2
     exact HGO.out HN.out
   ·have t2:(zl == p.l)=false:=by simp [hk2]
    have HN:=hide (HNO.out (by unfold fitW;simp [hk2]))
    clear HYES HNO
    refine wpIn_block (wpIn_seq (region_in rfl (fun ⟨a,w,h⟩=>h) ?_))
    go_wp2_with fail
    gi_wp2
    exact HGO.out HN.out
  ·have t1:(zkd == p.kd)=false:=by simp [hk1]
   have HN:=hide (HNO.out (by unfold fitW;simp [hk1]))
   clear HYES HNO
   refine wpIn_block (wpIn_seq (region_in rfl (fun ⟨a,w,h⟩=>h) ?_))
   go_wp2_with fail
   gi_wp2
   exact HGO.out HN.out
 ·intro D R W1 hR hI
  obtain ⟨hno,h3⟩:=hI.pure
  rw [List.take_length] at hno
  have HN:=hide (HRN.out hno)
  have h4:=h3.perm (by ac_rfl:_=star (CellO g8 #[.bool false] 4) (star (star (CellO g7 #[.int .i64 p.i,.int .i64 p.j,.int .i64 p.kd,.int .i64 p.l,.int .i64 p.r,.int .i64 p.c,.int .i64 p.d.c,.slice A p.d.L.length pc,.slice B p.d.M.length qc,.string (bs p.d.F)] 44) (star (CellO g6 #[.int .i64 v.k,.slice c.V v.vs.length c.vc,.slice c.L v.ls.length c.lc] 77) (star (CellO g5 #[.int .i64 u.k,.slice a.V u.vs.length a.vc,.slice a.L u.ls.length a.lc] 77) (star (CellO g4 #[.slice aA n1 ac,.slice aD n2 ad,.slice aE n3 ae,.int .i64 T.drop,.int .i64 T.ord,.int .i64 T.ini] 25) emp)))) (star (ObjO D (.deferred (some []))) R)))
  have okR:=hide (star_ok okBX.out (star_ok obj_ok hR):(star (star (CellO g7 #[.int .i64 p.i,.int .i64 p.j,.int .i64 p.kd,.int .i64 p.l,.int .i64 p.r,.int .i64 p.c,.int .i64 p.d.c,.slice A p.d.L.length pc,.slice B p.d.M.length qc,.string (bs p.d.F)] 44) (star (CellO g6 #[.int .i64 v.k,.slice c.V v.vs.length c.vc,.slice c.L v.ls.length c.lc] 77) (star (CellO g5 #[.int .i64 u.k,.slice a.V u.vs.length a.vc,.slice a.L u.ls.length a.lc] 77) (star (CellO g4 #[.slice aA n1 ac,.slice aD n2 ad,.slice aE n3 ae,.int .i64 T.drop,.int .i64 T.ord,.int .i64 T.ini] 25) emp)))) (star (ObjO D (.deferred (some []))) R)).Ok)
  obtain ⟨F8,hF8⟩:=h4.fst
  have q0:=cell_at (i:=0) hF8 rfl
  have qf:=cell_free hF8
  have h5:Run (fun _=>False) w (star (CellO g8 #[.bool false] 4) _) _:=run_setc h4 okR.out 0 (.bool false)
  have h6:=h5.perm (by ac_rfl:_=star (ObjO D (.deferred (some []))) (star (CellO g8 #[.bool false] 4) (star (star (CellO g7 #[.int .i64 p.i,.int .i64 p.j,.int .i64 p.kd,.int .i64 p.l,.int .i64 p.r,.int .i64 p.c,.int .i64 p.d.c,.slice A p.d.L.length pc,.slice B p.d.M.length qc,.string (bs p.d.F)] 44) (star (CellO g6 #[.int .i64 v.k,.slice c.V v.vs.length c.vc,.slice c.L v.ls.length c.lc] 77) (star (CellO g5 #[.int .i64 u.k,.slice a.V u.vs.length a.vc,.slice a.L u.ls.length a.lc] 77) (star (CellO g4 #[.slice aA n1 ac,.slice aD n2 ad,.slice aE n3 ae,.int .i64 T.drop,.int .i64 T.ord,.int .i64 T.ini] 25) emp)))) R)))
  obtain ⟨FD,hD,-,bk2⟩:=h6.take obj_ok (star_ok cell_ok (star_ok okBX.out hR))
  have HD:=hide hD.1
  have h8:=bk2 _ _ (obj_put hD (.deferred none))
  obtain ⟨F9,hF9⟩:=h8.drop.fst
  have HC:=hide (cell_at (i:=0) hF9 rfl)
  have HE:=hide (HRET.out _ false ⟨(fun h=>by cases h),fun h=>absurd h HN.out⟩ (HBW.out _ _ h8))
  clear hno h3 h4 h5 h6 hF8 F8 hD bk2 h8 hF9 F9 hI
  go_wp2_with fail
  refine ⟨by simp,.inl ⟨_,_,rfl,run_takeDeferred HD.out,?_⟩⟩
  refine ⟨_,res39 rfl HC.out,HE.out⟩
 ·intro D c R W1 hR hI
  obtain ⟨b,hI⟩:=hI.ex
  obtain ⟨⟨rfl,hb⟩,h3⟩:=hI.pure
  have h6:=h3.perm (by ac_rfl:_=star (ObjO D (.deferred (some []))) (star (CellO g8 #[.bool b] 4) R))
  obtain ⟨FD,hD,-,bk2⟩:=h6.take obj_ok (star_ok cell_ok hR)
  have HD:=hide hD.1
  have h8:=bk2 _ _ (obj_put hD (.deferred none))
  obtain ⟨F9,hF9⟩:=h8.drop.fst
  have HC:=hide (cell_at (i:=0) hF9 rfl)
  have HE:=hide (HRET.out _ b hb (HBW.out _ _ h8))
  clear h3 h6 hD bk2 h8 hF9 F9 hI hb
  go_wp2_with fail
  refine ⟨by simp,.inl ⟨_,_,rfl,run_takeDeferred HD.out,?_⟩⟩
  refine ⟨_,res39 rfl HC.out,HE.out⟩
end Go.Proofs.YtbnnlpjpnihheaaGreatDoor
namespace Go.CH.Mtc
open Go.CH.Scr Go.CH.Pot

def rsI (ds:List Int) (us:List Int) (i:Nat):Int:=Asg.sg i fun r=>if (r:Int) ∈ us then 0 else ds.getD r 0
theorem rsI_zero (ds us:List Int):rsI ds us 0=0:=rfl
theorem rsI_succ (ds us:List Int) (i:Nat):rsI ds us (i+1)=rsI ds us i+if (i:Int) ∈ us then 0 else ds.getD i 0:=rfl
theorem rsI_bnd {ds us:List Int} (h:∀ d ∈ ds,0≤d∧d≤1000):∀ i,0≤rsI ds us i∧rsI ds us i≤i*1000
 | 0=>by rw [rsI_zero];simp
 | i+1=>by
  have h1:=rsI_bnd (us:=us) h i
  have h2:0≤ds.getD i 0∧ds.getD i 0≤1000:=by
   rw [List.getD_eq_getElem?_getD]
   cases hd:ds[i]? with
   | none=>simp
   | some x=>exact h x (List.mem_of_getElem? hd)
  rw [rsI_succ,Int.natCast_add,Int.add_mul]
  split <;> omega
theorem rsI_rest {T:Tab} {n:NameM} {us:List Int}:rsI (n.ws.map (dropC T n.k)) us n.ws.length=restC T n us:=by
 refine Asg.sg_congr fun i hi=>?_
 have:(n.ws.map (dropC T n.k)).getD i 0=dM T n i:=Go.Proofs.YtbnnlpjpnihheaaGreatDoor.drops_lF n hi
 rw [this]
end Go.CH.Mtc
namespace Go.Proofs.YtbnnlpjpnihheaaGreatDoor
open Go.RowKit Go.CH Go.CH.Scr Go.CH.Pot Go.CH.Mtc
open Go.ChangeMaps (setBlock)
theorem keyOkI:KeyOk Tryz.prog 3 (Value.int .i64):=by
 refine ⟨fun a b w=>?_,fun e a w=>?_,fun a=>?_,_,Tryz.underlying3,fun a b=>.inr ?_⟩
 ·rw [Op.equal,Op.maxDepth,flat_eq (.int Tryz.underlying3 a) (.int Tryz.underlying3 b) 9999 w]
  show Result.ok (a == b) w=_
  rw [show (a == b)=decide (a=b) from by rw [Bool.eq_iff_iff];simp]
 ·exact flat_check (.int Tryz.underlying3 a) e 9999 w
 ·unfold Instr.sameBits;simp
 ·unfold Instr.sameNow;simp only [];exact congrArg some (by rw [Bool.eq_iff_iff];simp)

def SeO (b:Nat) (us:List Int):CH.Own:=MapO (Value.int .i64) b (us.map fun x=>(x,.bool true))
theorem se_ok {b:Nat} {us:List Int}:(SeO b us).Ok:=map_ok
theorem se_get {b:Nat} {us:List Int} {w:World} {F:Nat→Prop} (h:SeO b us w F) (x:Int):(Instr.lookup 92 (.map (some b)) (.int .i64 x) false).run Tryz.prog w=.ok (.bool (decide (x ∈ us))) w:=by
 have h1:=mapO_get keyOkI Tryz.underlying92 Tryz.zeroValue4 h x
 rw [mget_all] at h1
 rw [h1]
 by_cases hx:x ∈ us
 ·rw [if_pos hx,decide_eq_true hx];rfl
 ·rw [if_neg hx,decide_eq_false hx];rfl
theorem se_put {b:Nat} {us:List Int} {w:World} {F:Nat→Prop} (h:SeO b us w F) {x:Int} (hx:x ∉ us):∃ w',(Instr.mapUpdate 92 (.map (some b)) (.int .i64 x) (.bool true)).run Tryz.prog w=.ok () w'∧Post w F (SeO b (us ++ [x])) w':=by
 obtain ⟨w',h1,h2⟩:=mapO_put keyOkI Tryz.underlying92 h x (.bool true)
 have e:mput (us.map fun x=>(x,Value.bool true)) x (.bool true)=(us ++ [x]).map fun x=>(x,Value.bool true):=by
  rw [mput_new_ (by rw [List.map_map];simpa [Function.comp_def] using hx),List.map_append];rfl
 rw [e] at h2
 exact ⟨w',h1,h2⟩
set_option maxHeartbeats 3200000 in
set_option maxRecDepth 100000 in
theorem rest_any {w:World} {F:Nat→Prop} {g b:Nat} {c0:Int} {us ds:List Int} {B:Option Addr} {bc:Nat} (h:star (CellO g #[.int .i64 c0] 3) (SeO b us) w F) (hD:∀ W,Mod F w W→IntR W B ds) (hn:ds.length≤1000) (hd:∀ d ∈ ds,0≤d∧d≤1000) (h0:0≤c0) (h1:c0≤1000000000) :
  Calls Tryz.prog 40 #[.slice B ds.length bc,.map (some b),.pointer (some ⟨g,0,none⟩)] w (fun e w'=>(∃ v,e=.returned v)∧Post w F (star (CellO g #[.int .i64 (c0+rsI ds us ds.length)] 3) (SeO b us)) w'):=by
 have H0:=hide (Run.start h)
 have HD:=hide hD
 have HB:=hide (fun i=>rsI_bnd (us:=us) hd i)
 have HS:=hide (fun i=>rsI_succ ds us i)
 have HGE:=hide (fun i (hi:i < ds.length)=>(show ds.getD i 0=ds[i]∧0≤ds[i]∧ds[i]≤1000 from ⟨by rw [List.getD_eq_getElem?_getD,List.getElem?_eq_getElem hi];rfl,hd _ (List.getElem_mem hi)⟩))
 obtain ⟨n,hnn⟩:∃ n,n=ds.length:=⟨_,rfl⟩
 have HN:=hide hnn
 rw [←hnn] at hn ⊢
 clear h hD hd hnn
 go_enter Tryz.func40,Tryz.ntmps40
 go_wp2
 go_loopw [9] (fun kk wr=>∃ i:Nat,kk=.int .i64 i∧i≤n∧Run F w (star (CellO g #[.int .i64 (c0+rsI ds us i)] 3) (SeO b us)) wr) (fun kk _=>n - (intOf kk).toNat)
 case atStart=>exact ⟨0,rfl,Nat.zero_le _,by rw [rsI_zero,Int.add_zero];exact H0.out⟩
 case round =>
  obtain ⟨i,rfl,hi,hR⟩:=hrel
  have HR:=hide hR
  clear hR H0
  by_cases hlt:i < n
  ·have hil:i < ds.length:=by rw [←HN.out];exact hlt
   obtain ⟨b0,o,rfl,hc⟩:=Asn.Vec.at (HD.out wr HR.out.mod) (by omega)
   have ck:=hc wr (Below.refl _ _) i hil
   obtain ⟨e1,e2,e3⟩:=HGE.out i hil
   have hS:=HS.out i
   rw [e1] at hS
   have hB:=HB.out i
   obtain ⟨F1,hF1⟩:=HR.out.fst
   have q0:=cell_at (i:=0) hF1 rfl
   have qf:=cell_free hF1
   obtain ⟨F2,hF2⟩:=HR.out.swap.fst
   have hl:=se_get hF2 (i:Int)
   generalize ds[i]=x at *
   clear hc e1 hil
   generalize hr0:rsI ds us i=r0 at *
   generalize hr1:rsI ds us (i+1)=r1 at *
   have HR1:=hide hr1
   clear hr0 hr1
   by_cases hm:(i:Int) ∈ us
   ·rw [if_pos hm] at hS
    rw [decide_eq_true hm] at hl
    have HE:=hide (show Run F w (star (CellO g #[.int .i64 (c0+r1)] 3) (SeO b us)) wr from by rw [hS,Int.add_zero];exact HR.out)
    clear hS hB hm hF1 hF2 F1 F2 HR
    go_wp2
    go_roundw
    case rel=>exact ⟨i+1,by go_num,hlt,by rw [HR1.out];exact HE.out⟩
    case measure=>simp [intOf];omega
   ·rw [if_neg hm] at hS
    rw [decide_eq_false hm] at hl
    have hq:(i:Int)*1000≤1000000:=by omega
    have tw:wrap64 (c0+r0+x)=c0+r1:=by rw [IntWalk.wrap64_in _ (by omega)];omega
    have HE:=hide (show Run F w (star (CellO g #[.int .i64 (c0+r1)] 3) (SeO b us)) (wr.setCell ⟨g,0,none⟩ (.int .i64 (c0+r1))) from run_setc HR.out se_ok 0 (.int .i64 (c0+r1)))
    clear hS hB hm hF1 hF2 F1 F2 HR e2 e3 hq
    go_wp2
    go_roundw
    case rel=>exact ⟨i+1,by go_num,hlt,by rw [HR1.out];exact HE.out⟩
    case measure=>simp [intOf];omega
  ·obtain rfl:n=i:=by omega
   have HE:=hide (HR.out.post (star_ok cell_ok se_ok))
   clear HR
   go_wp2
   refine bodyPost_end (results_none rfl _ _ _) rfl ?_
   exact ⟨⟨_,rfl⟩,HE.out⟩
end Go.Proofs.YtbnnlpjpnihheaaGreatDoor
namespace Go.CH.Mtc
open Go.CH.Scr Go.CH.Pot

def lstI (ps:List Pr) (i:Nat):Int:=match (ps.take i).getLast? with | some p=>p.i | none => -1
def lstJ (ps:List Pr) (i:Nat):Int:=match (ps.take i).getLast? with | some p=>p.j | none => -1

def PK (T:Tab) (a b:NameM) (s:Bool) (ps:List Pr) (i:Nat):Prop:=pairsOk T a b s (lstI ps i) (lstJ ps i) ((ps.take i).map (·.j)).reverse (ps.drop i)
section
variable {T:Tab} {a b:NameM} {s:Bool} {ps:List Pr} {i:Nat}
theorem lst_next (hi:i < ps.length):lstI ps (i+1)=ps[i].i∧lstJ ps (i+1)=ps[i].j:=by
 unfold lstI lstJ
 rw [List.take_succ_eq_append_getElem hi,List.getLast?_append]
 exact ⟨rfl,rfl⟩
theorem pk_zero:PK T a b s ps 0↔pairsOk T a b s (-1) (-1) [] ps:=Iff.rfl
theorem pk_end:PK T a b s ps ps.length:=by
 unfold PK
 rw [List.drop_length]
 trivial
theorem pk_next (hi:i < ps.length):PK T a b s ps i↔lstI ps i < ps[i].i∧ps[i].i < a.ws.length∧0≤ps[i].j∧ps[i].j < b.ws.length∧ps[i].j ∉ (ps.take i).map (·.j)∧(s=true∨lstJ ps i≤ps[i].j)∧rightP T a.k (wd a ps[i].i.toNat) b.k (wd b ps[i].j.toNat) ps[i]∧PK T a b s ps (i+1):=by
 have e:PK T a b s ps (i+1)=pairsOk T a b s ps[i].i ps[i].j (ps[i].j :: ((ps.take i).map (·.j)).reverse) (ps.drop (i+1)):=by
  unfold PK
  rw [(lst_next hi).1,(lst_next hi).2,List.take_succ_eq_append_getElem hi,List.map_append,List.reverse_append];rfl
 rw [e]
 unfold PK
 rw [List.drop_eq_getElem_cons hi]
 rw [pairsOk,List.mem_reverse]
theorem rightP_bnd (hv:validT T=true) {k k2:Int} {x y:Bs} {p:Pr} (h:rightP T k x k2 y p):0≤p.c∧p.c≤26000:=by
 obtain ⟨w,h1,h2,h3⟩:=h
 obtain ⟨c1,c2,-,-⟩:=rightD_bnd h3
 have:=ways_bnd hv (List.mem_of_find?_eq_some h1)
 omega
theorem sum_next (hi:i < ps.length):((ps.take (i+1)).map (·.c)).sum=((ps.take i).map (·.c)).sum+ps[i].c:=by
 rw [List.take_succ_eq_append_getElem hi,List.map_append,List.sum_append];simp
theorem map_next {β:Type} (f:Pr→β) (hi:i < ps.length):(ps.take (i+1)).map f=(ps.take i).map f ++ [f ps[i]]:=by
 rw [List.take_succ_eq_append_getElem hi,List.map_append];rfl

def LeI (ps:List Pr) (i:Nat):Prop := -1≤lstI ps i∧∀ x ∈ (ps.take i).map (·.i),x≤lstI ps i
theorem lei_zero:LeI ps 0:=⟨Int.le_refl _,fun x hx=>by rw [List.take_zero] at hx;cases hx⟩
theorem lei_next (hi:i < ps.length) (h:LeI ps i) (hp:lstI ps i < ps[i].i):LeI ps (i+1):=by
 unfold LeI
 rw [(lst_next hi).1,map_next _ hi]
 refine ⟨by have:=h.1;omega,fun x hx=>?_⟩
 rcases List.mem_append.1 hx with hx | hx
 ·have:=h.2 x hx;omega
 ·rw [List.mem_singleton] at hx;rw [hx];exact Int.le_refl _
theorem lei_new (h:LeI ps i) {x:Int} (hx:lstI ps i < x):x ∉ (ps.take i).map (·.i):=fun hm=>by have:=h.2 x hm;omega
end
end Go.CH.Mtc
namespace Go.Proofs.YtbnnlpjpnihheaaGreatDoor
open Go.RowKit Go.CH Go.CH.Scr Go.CH.Pot Go.CH.Mtc
open Go.ChangeMaps (setBlock)

def ChkRet (w:World) (T:Tab) (a b:NameM) (m:Mt) (e:Ending) (w':World):Prop:=∃ o:Bool,e=.returned (.bool o)∧(o=true↔rightM T a b m)∧Below w.heap.size w w'
theorem chk_no {w W:World} {T:Tab} {a b:NameM} {m:Mt} (h:okM T a b=false) (hb:Below w.heap.size w W):ChkRet w T a b m (.returned (.bool false)) W :=
 ⟨false,rfl,⟨(fun h=>by cases h),fun h2=>by have h3:=h2.1;rw [h] at h3;cases h3⟩,hb⟩

theorem MtR.at {w:World} {A:Option Addr} {l:List (Pr × PA)} (h:MtR w A l) (hn:0 < l.length):∃ b o,A=some ⟨b,o,none⟩∧∀ W,Below w.heap.size w W→∀ j (hj:j < l.length) i u,(peL l[j])[i]?=some u→W.cell? ⟨b,o+j*10+i,none⟩=some u :=
 Rst.at (R:=peL) (fun _=>rfl) (by omega) h.row hn
theorem lk_se {b:Nat} {us:List Int} {F0:Nat→Prop} {w0 W:World} {X:CH.Own} (h:Run F0 w0 (star (SeO b us) X) W) (x:Int):(Instr.lookup 92 (.map (some b)) (.int .i64 x) false).run Tryz.prog W=.ok (.bool (decide (x ∈ us))) W:=by
 obtain ⟨F,hF⟩:=h.fst
 exact se_get hF x
end Go.Proofs.YtbnnlpjpnihheaaGreatDoor
