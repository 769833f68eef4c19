import Derived.Test.YtbnnlpjpnihheaaGreatDoorRows
import Derived.Test.YtbnnlpjpnihheaaGreatDoorMA1
import Derived.Test.YtbnnlpjpnihheaaGreatDoorMA21
import Derived.PinnedBridge
import Derived.Lib.LaidCase
import Derived.Lib.LaidU8
import Derived.HandedShaped
import Derived.LaidMore
import Derived.Lay
import Derived.SevenTiedAt
import Derived.Stop.Joined
import Derived.WalkKit
import Derived.ProofKit
import Derived.OpenShut
import Derived.ShutString
set_option linter.unusedSimpArgs false
set_option linter.unusedVariables false
namespace Go.Proofs.YtbnnlpjpnihheaaGreatDoor
open Go.ChangeShapes Go.WideShapes Go.ChangeAt Go.RowKit Go.CH Go.CH.Scr Go.CH.Pot Go.CH.Mtc Go.Deep Go.Shelf Go.Lib
theorem caseX:CaseExtra Tryz.prog Tryz.lays262_ren:={ n13:=by kernel_rfl,y13:=by kernel_rfl,c21:=by kernel_rfl,c51:=by kernel_rfl,c206:=by kernel_rfl,c208:=by kernel_rfl }
theorem u8X:U8Extra Tryz.prog Tryz.lays197_ren:={ n3:=by kernel_rfl,n4:=by kernel_rfl,y3:=by kernel_rfl,y4:=by kernel_rfl,c5:=by kernel_rfl,c119:=by kernel_rfl,c138:=by kernel_rfl }
theorem lay274:Lays.n274 Tryz.prog Tryz.lays262_ren:={ Tryz.lays262 with }
theorem lay260:Lays.n260 Tryz.prog Tryz.lays197_ren:={ Tryz.lays197 with }

def laidS:List (String × DataW Unit):=[("unicode/utf8.acceptRanges",Rows.laid_unicode_utf8_acceptRanges),("unicode.CaseRanges",Rows.laid_unicode_CaseRanges),("unicode/utf8.first",Rows.laid_unicode_utf8_first)]
theorem lz_of {w:World} (h:laidMetH Tryz.prog laidS w) (hs:w.ShapedOpen Tryz.prog):LZ w:=by
 rw [MakeChecks.laidMetH_plain _ _ _ (by kernel_rfl)] at h
 have h1:=laidMet.reads h (n := "unicode/utf8.acceptRanges") (d:=Rows.laid_unicode_utf8_acceptRanges) (by simp [laidS])
 have h2:=laidMet.reads h (n := "unicode.CaseRanges") (d:=Rows.laid_unicode_CaseRanges) (by simp [laidS])
 have h3:=laidMet.reads h (n := "unicode/utf8.first") (d:=Rows.laid_unicode_utf8_first) (by simp [laidS])
 rw [show (Rows.laid_unicode_CaseRanges:DataW Unit)=caseData from Pinned.caseRanges_eq] at h2
 rw [show (Rows.laid_unicode_utf8_first:DataW Unit)=firstData from Pinned.utf8First_eq] at h3
 rw [show (Rows.laid_unicode_utf8_acceptRanges:DataW Unit)=acceptData by kernel_rfl] at h1
 exact ⟨caseVar_of_reads lay274 (by kernel_rfl) caseX h2,utf8Tabs_of_reads lay260 u8X h3 h1,Go.Proofs.cell_of_shapedOpen_int (P:=Tryz.prog) (zero:=#[.int .i64 0]) (t:=3) hs (of_decide_eq_true (by kernel_rfl)) (by kernel_rfl) rfl (by kernel_rfl) (by kernel_rfl) Tryz.underlying3⟩

theorem returns_and_shaped {H:Type} {enc:TypeId × Value→H} {a:Assume} {C:Checked} {os:Os} {f:FuncId} {fn:Func} {s:ChangeSpec} {conds:List PathCond} {apart fresh handsOn again:Bool} {X:World→Array Value→Prop}
  (hX:∀ (w w':World) (args:Array Value),w.heap=w'.heap→X w args→X w' args)
  (own:ownKnob C.prog.godebug=none) (started:os.Started) (noInit:C.prog.inits.idxOf? f=none) (hfn:C.prog.funcs[f]?=some fn)
  (witness:∃ (w:World) (tape:Tape) (i:Input),w.os=os∧(w.forCall tape i).Shaped C.prog∧i.vars=[]∧Input.okWide C.prog (w.forCall tape i) .any w.heap.size f i ∧
   ((s.pre enc C.prog fn conds apart (w.forCall tape i).memory i.args∧X (w.forCall tape i).memory i.args)∧sizedMet enc C.prog fn (OpenSpec.ofChange s) apart (w.forCall tape i).memory i.args)∧a.holds C.prog (lone (Frame.enter C.prog f i.args .normal) [] (w.forCall tape i)))
  (contract:∀ (W:World) (base:Nat) (args:Array Value) (ds gs:List (DataW H)) (before:List MemPlace),
   (∀ (j:Nat) t v,fn.params[j]?=some t→args[j]?=some v→Value.okWide C.prog W .any base t v) →
   DataW.Whole enc C.prog fn.params.toList s.vars apart W args.toList ds gs before →
   X W args→W.ShapedOpen C.prog →
   Calls C.prog f args W fun e W'=>∃ v,e=.returned v∧s.post enc C.prog fn apart fresh handsOn again W args v W') :
  ReturnsInHanded a C os f .any (fun w args=>(s.pre enc C.prog fn conds apart w args∧X w args)∧sizedMet enc C.prog fn (OpenSpec.ofChange s) apart w args) (s.post enc C.prog fn apart fresh handsOn again):=by
 refine returnsInHanded_of_calls own started noInit witness ?_
 intro w tape i _ hsh _ hok hpre hholds
 obtain ⟨_,_,_,fn',hfn',_,_,_,_,hval⟩:=hok
 have e:fn'=fn:=Option.some.inj (hfn'.symm.trans hfn)
 subst e
 obtain ⟨⟨⟨ds,gs,before,hw,hc⟩,hx⟩,hz⟩:=hpre
 have hw':=DataW.Whole.of_heap (w':=w.forCall tape i) (by rfl) hw
 refine (contract (w.forCall tape i) w.heap.size i.args ds gs before hval hw' (hX _ _ _ (by rfl) hx) hsh).mono fun e W' ⟨v,he,hp⟩=>?_
 subst he
 exact ChangeSpec.post_blind hp
section
variable {H:Type} {enc:TypeId × Value→H} {w:World} {base:Nat}
instance:Inhabited Rule:=⟨⟨0,[],[],0⟩⟩
instance:Inhabited Drop:=⟨⟨0,[],0⟩⟩
theorem each_rule:∀ m cs y,DataW.trod enc Tryz.prog w base (fun _=>true) true m 113 cs=some y→∃ R:Rule,cs=rcells R∧True:=by
 intro m cs y h
 obtain ⟨hl,n,hf⟩:=open_fields Tryz.underlying113 (by kernel_rfl) (by kernel_rfl) h
 obtain ⟨v0,z0,c0,t0⟩:=hf 0 _ rfl
 obtain ⟨v1,z1,c1,t1⟩:=hf 1 _ rfl
 obtain ⟨v2,z2,c2,t2⟩:=hf 2 _ rfl
 obtain ⟨v3,z3,c3,t3⟩:=hf 3 _ rfl
 obtain ⟨x0,f0,-,-⟩:=DataW.trod_int Tryz.underlying3 t0
 obtain ⟨x1,f1,-⟩:=DataW.trod_string Tryz.underlying9 t1
 obtain ⟨x2,f2,-⟩:=DataW.trod_string Tryz.underlying9 t2
 obtain ⟨x3,f3,-,-⟩:=DataW.trod_int Tryz.underlying3 t3
 injection f0 with f0
 injection f1 with f1
 injection f2 with f2
 injection f3 with f3
 subst f0 f1 f2 f3
 refine ⟨⟨x0,bl x1,bl x2,x3⟩,?_,trivial⟩
 have hl:cs.length=4:=hl
 match cs,hl with
 | [a,b,c,d],_ =>
  simp at c0 c1 c2 c3
  subst c0 c1 c2 c3
  unfold rcells
  rw [bs_bl,bs_bl]
theorem each_drop:∀ m cs y,DataW.trod enc Tryz.prog w base (fun _=>true) true m 104 cs=some y→∃ d:Drop,cs=dcells d∧True:=by
 intro m cs y h
 obtain ⟨hl,n,hf⟩:=open_fields Tryz.underlying104 (by kernel_rfl) (by kernel_rfl) h
 obtain ⟨v0,z0,c0,t0⟩:=hf 0 _ rfl
 obtain ⟨v1,z1,c1,t1⟩:=hf 1 _ rfl
 obtain ⟨v2,z2,c2,t2⟩:=hf 2 _ rfl
 obtain ⟨x0,f0,-,-⟩:=DataW.trod_int Tryz.underlying3 t0
 obtain ⟨x1,f1,-⟩:=DataW.trod_string Tryz.underlying9 t1
 obtain ⟨x2,f2,-,-⟩:=DataW.trod_int Tryz.underlying3 t2
 injection f0 with f0
 injection f1 with f1
 injection f2 with f2
 subst f0 f1 f2
 refine ⟨⟨x0,bl x1,x2⟩,?_,trivial⟩
 have hl:cs.length=3:=hl
 match cs,hl with
 | [a,b,c],_ =>
  simp at c0 c1 c2
  subst c0 c1 c2
  unfold dcells
  rw [bs_bl]
theorem slice_form {t e:TypeId} {m:Nat} {v:Value} {y:DataW H × List MemPlace} (ht:Tryz.prog.underlying t=some (.slice e)) (h:DataW.trod enc Tryz.prog w 0 (fun _=>true) true m t [v]=some y):∃ A n c,v=.slice A n c:=by
 rcases open_slice ht h with ⟨h0,_⟩ | ⟨a,len,cap,_,_,_,_,hv,_⟩
 ·injection h0 with h0
  exact ⟨none,0,0,h0⟩
 ·injection hv with hv
  exact ⟨some a,len,cap,hv⟩
theorem open_rules {m:Nat} {v:Value} {y:DataW H × List MemPlace} (h:DataW.trod enc Tryz.prog w 0 (fun _=>true) true m 22 [v]=some y) :
  ∃ (A:Option Addr) (c:Nat) (l:List Rule),v=.slice A l.length c∧RulesR w A l∧l.length≤c:=by
 obtain ⟨A,n,c,rfl⟩:=slice_form Tryz.underlying22 h
 obtain ⟨xs,h1,h2,h3,h4,h5⟩:=open_src (P:=Tryz.prog) (t:=22) (e:=113) (A:=A) (n:=n) (c:=c) (d:=y.1) (ps:=y.2) (size:=4) rcells (fun _=>True) Tryz.underlying22 (by kernel_rfl) (by decide) each_rule (fun R _ u hu=>by simp [rcells] at hu;rcases hu with rfl | rfl | rfl | rfl <;> rfl) ⟨m,by simpa [Value.cells] using h⟩
 subst h1
 exact ⟨A,c,xs,rfl,h2,h4⟩
theorem open_drops {m:Nat} {v:Value} {y:DataW H × List MemPlace} (h:DataW.trod enc Tryz.prog w 0 (fun _=>true) true m 23 [v]=some y) :
  ∃ (A:Option Addr) (c:Nat) (l:List Drop),v=.slice A l.length c∧DropsR w A l∧l.length≤c:=by
 obtain ⟨A,n,c,rfl⟩:=slice_form Tryz.underlying23 h
 obtain ⟨xs,h1,h2,h3,h4,h5⟩:=open_src (P:=Tryz.prog) (t:=23) (e:=104) (A:=A) (n:=n) (c:=c) (d:=y.1) (ps:=y.2) (size:=3) dcells (fun _=>True) Tryz.underlying23 (by kernel_rfl) (by decide) each_drop (fun R _ u hu=>by simp [dcells] at hu;rcases hu with rfl | rfl | rfl <;> rfl) ⟨m,by simpa [Value.cells] using h⟩
 subst h1
 exact ⟨A,c,xs,rfl,h2,h4⟩
theorem len6 {cs:List Value} (h:cs.length=6):∃ a b c d e f,cs=[a,b,c,d,e,f]:=by
 match cs,h with
 | [a,b,c,d,e,f],_=>exact ⟨a,b,c,d,e,f,rfl⟩

structure TZ where
 T:Tab
 a:TA
def TzOk (w:World) (z:TZ):Prop:=TabZ w z.T z.a∧z.T.rs.length≤z.a.c
set_option maxRecDepth 100000 in
theorem open25 {r:Reach} {b0:Nat} {v:Value} {d:DataW H} {ps:List MemPlace} (hok:Value.okWide Tryz.prog w r b0 25 v) (h:DataW.Trod enc Tryz.prog w 0 (fun _=>true) true 25 v d ps):∃ z:TZ,v=tabV z.T z.a∧TzOk w z:=by
 obtain ⟨cs,rfl,hsz⟩:=okWide_struct Tryz.underlying25 hok
 obtain ⟨m,hm⟩:=h
 obtain ⟨xs,n,_,_,hl,hxl,hf⟩:=DataW.trod_struct Tryz.underlying25 hm
 have hl6:=hl.trans (by kernel_rfl:_=6)
 obtain ⟨a0,a1,a2,a3,a4,a5,ha⟩:=len6 hl6
 have hxl6:xs.length=6:=hxl
 have ex:∀ i (hi:i < 6),xs[i]?=some (xs[i]'(by omega)):=fun i hi=>List.getElem?_eq_getElem (by omega)
 have s3:Tryz.prog.cellsOf 3=1:=by kernel_rfl
 have s22:Tryz.prog.cellsOf 22=1:=by kernel_rfl
 have s23:Tryz.prog.cellsOf 23=1:=by kernel_rfl
 have t0:=(hf 0 _ rfl).trans (ex 0 (by omega))
 have t1:=(hf 1 _ rfl).trans (ex 1 (by omega))
 have t2:=(hf 2 _ rfl).trans (ex 2 (by omega))
 have t3:=(hf 3 _ rfl).trans (ex 3 (by omega))
 have t4:=(hf 4 _ rfl).trans (ex 4 (by omega))
 have t5:=(hf 5 _ rfl).trans (ex 5 (by omega))
 rw [ha] at t0 t1 t2 t3 t4 t5
 have t0':DataW.trod enc Tryz.prog w 0 (fun _=>true) true n 22 (([a0,a1,a2,a3,a4,a5].drop 0).take (Tryz.prog.cellsOf 22))=some (xs[0]'(by omega)):=t0
 have t1':DataW.trod enc Tryz.prog w 0 (fun _=>true) true n 23 (([a0,a1,a2,a3,a4,a5].drop 1).take (Tryz.prog.cellsOf 23))=some (xs[1]'(by omega)):=t1
 have t2':DataW.trod enc Tryz.prog w 0 (fun _=>true) true n 23 (([a0,a1,a2,a3,a4,a5].drop 2).take (Tryz.prog.cellsOf 23))=some (xs[2]'(by omega)):=t2
 have t3':DataW.trod enc Tryz.prog w 0 (fun _=>true) true n 3 (([a0,a1,a2,a3,a4,a5].drop 3).take (Tryz.prog.cellsOf 3))=some (xs[3]'(by omega)):=t3
 have t4':DataW.trod enc Tryz.prog w 0 (fun _=>true) true n 3 (([a0,a1,a2,a3,a4,a5].drop 4).take (Tryz.prog.cellsOf 3))=some (xs[4]'(by omega)):=t4
 have t5':DataW.trod enc Tryz.prog w 0 (fun _=>true) true n 3 (([a0,a1,a2,a3,a4,a5].drop 5).take (Tryz.prog.cellsOf 3))=some (xs[5]'(by omega)):=t5
 simp only [s3,s22,s23,List.drop,List.take] at t0' t1' t2' t3' t4' t5'
 obtain ⟨A,ac,rs,f0,k0,k0'⟩:=open_rules t0'
 obtain ⟨D,dc,ds,f1,k1,-⟩:=open_drops t1'
 obtain ⟨E,ec,es,f2,k2,-⟩:=open_drops t2'
 obtain ⟨x3,f3,-,-⟩:=DataW.trod_int Tryz.underlying3 t3'
 obtain ⟨x4,f4,-,-⟩:=DataW.trod_int Tryz.underlying3 t4'
 obtain ⟨x5,f5,-,-⟩:=DataW.trod_int Tryz.underlying3 t5'
 injection f3 with f3
 injection f4 with f4
 injection f5 with f5
 subst f0 f1 f2 f3 f4 f5
 refine ⟨⟨⟨rs,ds,es,x3,x4,x5⟩,⟨A,ac,D,dc,E,ec⟩⟩,?_,⟨k0,k1,k2⟩,k0'⟩
 have:cs=#[.slice A rs.length ac,.slice D ds.length dc,.slice E es.length ec,.int .i64 x3,.int .i64 x4,.int .i64 x5]:=by
  apply Array.toList_inj.1
  simpa [Value.cells] using ha
 rw [this];rfl
theorem strs_map (l:List Bs):(l.map bs).flatMap (fun x:ByteArray=>[Value.string x])=strB l:=by
 induction l with
 | nil=>rfl
 | cons a l ih =>
  rw [List.map_cons,List.flatMap_cons,ih]
  rfl
theorem each_str:∀ m cs y,DataW.trod enc Tryz.prog w 0 (fun _=>true) true m 9 cs=some y→∃ x:ByteArray,cs=[.string x]∧True:=by
 intro m cs y h
 obtain ⟨s,h1,_⟩:=DataW.trod_string Tryz.underlying9 h
 exact ⟨s,h1,trivial⟩
theorem map_bl (l:List ByteArray):(l.map bl).map bs=l:=by
 rw [List.map_map]
 have:(bs ∘ bl)=id:=by funext x;exact bs_bl x
 rw [this,List.map_id]
theorem open_words {m:Nat} {v:Value} {y:DataW H × List MemPlace} (h:DataW.trod enc Tryz.prog w 0 (fun _=>true) true m 26 [v]=some y) :
  ∃ (A:Option Addr) (c:Nat) (l:List Bs),v=.slice A l.length c∧Vst w A l:=by
 obtain ⟨A,n,c,rfl⟩:=slice_form Tryz.underlying26 h
 obtain ⟨xs,h1,h2,h3,h4,h5⟩:=open_src (P:=Tryz.prog) (t:=26) (e:=9) (A:=A) (n:=n) (c:=c) (d:=y.1) (ps:=y.2) (size:=1) (fun x:ByteArray=>[Value.string x]) (fun _=>True) Tryz.underlying26 (by kernel_rfl) (by decide) each_str (fun x _ u hu=>by simp at hu;subst hu;rfl) ⟨m,by simpa [Value.cells] using h⟩
 subst h1
 refine ⟨A,c,xs.map bl,by rw [List.length_map],?_⟩
 unfold Vst
 rw [List.length_map,←strs_map,map_bl]
 exact h2
theorem len2_ {cs:List Value} (h:cs.length=2):∃ a b,cs=[a,b]:=by
 match cs,h with
 | [a,b],_=>exact ⟨a,b,rfl⟩
set_option maxRecDepth 100000 in

theorem open28 {r:Reach} {b0:Nat} {v:Value} {d:DataW H} {ps:List MemPlace} (hok:Value.okWide Tryz.prog w r b0 28 v) (h:DataW.Trod enc Tryz.prog w 0 (fun _=>true) true 28 v d ps):∃ z:NmZ,v=nzV z∧Vst w z.A z.n.ws:=by
 obtain ⟨cs,rfl,hsz⟩:=okWide_struct Tryz.underlying28 hok
 obtain ⟨m,hm⟩:=h
 obtain ⟨xs,n,_,_,hl,hxl,hf⟩:=DataW.trod_struct Tryz.underlying28 hm
 have hl2:=hl.trans (by kernel_rfl:_=2)
 obtain ⟨a0,a1,ha⟩:=len2_ hl2
 have hxl2:xs.length=2:=hxl
 have e0:xs[0]?=some (xs[0]'(by omega)):=List.getElem?_eq_getElem (by omega)
 have e1:xs[1]?=some (xs[1]'(by omega)):=List.getElem?_eq_getElem (by omega)
 have s3:Tryz.prog.cellsOf 3=1:=by kernel_rfl
 have s26:Tryz.prog.cellsOf 26=1:=by kernel_rfl
 have t0:=(hf 0 _ rfl).trans e0
 have t1:=(hf 1 _ rfl).trans e1
 rw [ha] at t0 t1
 have t0':DataW.trod enc Tryz.prog w 0 (fun _=>true) true n 3 (([a0,a1].drop 0).take (Tryz.prog.cellsOf 3))=some (xs[0]'(by omega)):=t0
 have t1':DataW.trod enc Tryz.prog w 0 (fun _=>true) true n 26 (([a0,a1].drop 1).take (Tryz.prog.cellsOf 26))=some (xs[1]'(by omega)):=t1
 simp only [s3,s26,List.drop,List.take] at t0' t1'
 obtain ⟨x0,f0,-,g0⟩:=DataW.trod_int Tryz.underlying3 t0'
 injection f0 with f0
 obtain ⟨A,c,l,f1,k1⟩:=open_words t1'
 subst f0 f1
 refine ⟨⟨⟨x0,l⟩,A,c⟩,?_,k1⟩
 have:cs=#[.int .i64 x0,.slice A l.length c]:=by
  apply Array.toList_inj.1
  simpa [Value.cells] using ha
 rw [this];rfl
theorem each_num:∀ m cs y,DataW.trod enc Tryz.prog w 0 (fun _=>true) true m 3 cs=some y→∃ x:Int,cs=[.int .i64 x]∧True:=by
 intro m cs y h
 obtain ⟨s,h1,_⟩:=DataW.trod_int Tryz.underlying3 h
 exact ⟨s,h1,trivial⟩
theorem flat_nums (l:List Int):l.flatMap (fun x:Int=>[Value.int .i64 x])=l.map (Value.int .i64):=by
 induction l with
 | nil=>rfl
 | cons a l ih=>rw [List.flatMap_cons,List.map_cons,ih];rfl
theorem open_nums {m:Nat} {v:Value} {y:DataW H × List MemPlace} (h:DataW.trod enc Tryz.prog w 0 (fun _=>true) true m 40 [v]=some y) :
  ∃ (A:Option Addr) (c:Nat) (l:List Int),v=.slice A l.length c∧IntR w A l:=by
 obtain ⟨A,n,c,rfl⟩:=slice_form Tryz.underlying40 h
 obtain ⟨xs,h1,h2,h3,h4,h5⟩:=open_src (P:=Tryz.prog) (t:=40) (e:=3) (A:=A) (n:=n) (c:=c) (d:=y.1) (ps:=y.2) (size:=1) (fun x:Int=>[Value.int .i64 x]) (fun _=>True) Tryz.underlying40 (by kernel_rfl) (by decide) each_num (fun x _ u hu=>by simp at hu;subst hu;rfl) ⟨m,by simpa [Value.cells] using h⟩
 subst h1
 rw [flat_nums] at h2
 exact ⟨A,c,xs,rfl,h2⟩
theorem len4_ {cs:List Value} (h:cs.length=4):∃ a b c d,cs=[a,b,c,d]:=by
 match cs,h with
 | [a,b,c,d],_=>exact ⟨a,b,c,d,rfl⟩
theorem len10_ {cs:List Value} (h:cs.length=10):∃ a0 a1 a2 a3 a4 a5 a6 a7 a8 a9,cs=[a0,a1,a2,a3,a4,a5,a6,a7,a8,a9]:=by
 match cs,h with
 | [a0,a1,a2,a3,a4,a5,a6,a7,a8,a9],_=>exact ⟨a0,a1,a2,a3,a4,a5,a6,a7,a8,a9,rfl⟩
set_option maxRecDepth 100000 in

theorem open_deriv {m:Nat} {cs:List Value} {y:DataW H × List MemPlace} (h:DataW.trod enc Tryz.prog w 0 (fun _=>true) true m 42 cs=some y) :
  ∃ (d:Dv) (A:Option Addr) (ac:Nat) (B:Option Addr) (bc:Nat),cs=[.int .i64 d.c,.slice A d.L.length ac,.slice B d.M.length bc,.string (bs d.F)]∧IntR w A d.L∧IntR w B d.M:=by
 obtain ⟨xs,n,_,_,hl,hxl,hf⟩:=DataW.trod_struct Tryz.underlying42 h
 have hl4:=hl.trans (by kernel_rfl:_=4)
 obtain ⟨a0,a1,a2,a3,ha⟩:=len4_ hl4
 have hxl4:xs.length=4:=hxl
 have ex:∀ i (hi:i < 4),xs[i]?=some (xs[i]'(by omega)):=fun i hi=>List.getElem?_eq_getElem (by omega)
 have s3:Tryz.prog.cellsOf 3=1:=by kernel_rfl
 have s9:Tryz.prog.cellsOf 9=1:=by kernel_rfl
 have s40:Tryz.prog.cellsOf 40=1:=by kernel_rfl
 have t0:=(hf 0 _ rfl).trans (ex 0 (by omega))
 have t1:=(hf 1 _ rfl).trans (ex 1 (by omega))
 have t2:=(hf 2 _ rfl).trans (ex 2 (by omega))
 have t3:=(hf 3 _ rfl).trans (ex 3 (by omega))
 rw [ha] at t0 t1 t2 t3
 have t0':DataW.trod enc Tryz.prog w 0 (fun _=>true) true n 3 (([a0,a1,a2,a3].drop 0).take (Tryz.prog.cellsOf 3))=some (xs[0]'(by omega)):=t0
 have t1':DataW.trod enc Tryz.prog w 0 (fun _=>true) true n 40 (([a0,a1,a2,a3].drop 1).take (Tryz.prog.cellsOf 40))=some (xs[1]'(by omega)):=t1
 have t2':DataW.trod enc Tryz.prog w 0 (fun _=>true) true n 40 (([a0,a1,a2,a3].drop 2).take (Tryz.prog.cellsOf 40))=some (xs[2]'(by omega)):=t2
 have t3':DataW.trod enc Tryz.prog w 0 (fun _=>true) true n 9 (([a0,a1,a2,a3].drop 3).take (Tryz.prog.cellsOf 9))=some (xs[3]'(by omega)):=t3
 simp only [s3,s9,s40,List.drop,List.take] at t0' t1' t2' t3'
 obtain ⟨x0,f0,-,-⟩:=DataW.trod_int Tryz.underlying3 t0'
 obtain ⟨A,ac,l1,f1,k1⟩:=open_nums t1'
 obtain ⟨B,bc,l2,f2,k2⟩:=open_nums t2'
 obtain ⟨x3,f3,-⟩:=DataW.trod_string Tryz.underlying9 t3'
 injection f0 with f0
 injection f3 with f3
 subst f0 f1 f2 f3
 exact ⟨⟨x0,l1,l2,bl x3⟩,A,ac,B,bc,by rw [ha,bs_bl],k1,k2⟩
def goodE (w:World) (e:Pr × PA):Prop:=IntR w e.2.A e.1.d.L∧IntR w e.2.B e.1.d.M
instance:Inhabited (Pr × PA):=⟨(noP,⟨none,0,none,0⟩)⟩
set_option maxRecDepth 100000 in
theorem each_pair:∀ m cs y,DataW.trod enc Tryz.prog w 0 (fun _=>true) true m 44 cs=some y→∃ e:Pr × PA,cs=peL e∧goodE w e:=by
 intro m cs y h
 obtain ⟨xs,n,_,_,hl,hxl,hf⟩:=DataW.trod_struct Tryz.underlying44 h
 have hl10:=hl.trans (by kernel_rfl:_=10)
 obtain ⟨a0,a1,a2,a3,a4,a5,a6,a7,a8,a9,ha⟩:=len10_ hl10
 have hxl7:xs.length=7:=hxl
 have ex:∀ i (hi:i < 7),xs[i]?=some (xs[i]'(by omega)):=fun i hi=>List.getElem?_eq_getElem (by omega)
 have s3:Tryz.prog.cellsOf 3=1:=by kernel_rfl
 have s42:Tryz.prog.cellsOf 42=4:=by kernel_rfl
 have t0:=(hf 0 _ rfl).trans (ex 0 (by omega))
 have t1:=(hf 1 _ rfl).trans (ex 1 (by omega))
 have t2:=(hf 2 _ rfl).trans (ex 2 (by omega))
 have t3:=(hf 3 _ rfl).trans (ex 3 (by omega))
 have t4:=(hf 4 _ rfl).trans (ex 4 (by omega))
 have t5:=(hf 5 _ rfl).trans (ex 5 (by omega))
 have t6:=(hf 6 _ rfl).trans (ex 6 (by omega))
 rw [ha] at t0 t1 t2 t3 t4 t5 t6
 have t0':DataW.trod enc Tryz.prog w 0 (fun _=>true) true n 3 (([a0,a1,a2,a3,a4,a5,a6,a7,a8,a9].drop 0).take (Tryz.prog.cellsOf 3))=some (xs[0]'(by omega)):=t0
 have t1':DataW.trod enc Tryz.prog w 0 (fun _=>true) true n 3 (([a0,a1,a2,a3,a4,a5,a6,a7,a8,a9].drop 1).take (Tryz.prog.cellsOf 3))=some (xs[1]'(by omega)):=t1
 have t2':DataW.trod enc Tryz.prog w 0 (fun _=>true) true n 3 (([a0,a1,a2,a3,a4,a5,a6,a7,a8,a9].drop 2).take (Tryz.prog.cellsOf 3))=some (xs[2]'(by omega)):=t2
 have t3':DataW.trod enc Tryz.prog w 0 (fun _=>true) true n 3 (([a0,a1,a2,a3,a4,a5,a6,a7,a8,a9].drop 3).take (Tryz.prog.cellsOf 3))=some (xs[3]'(by omega)):=t3
 have t4':DataW.trod enc Tryz.prog w 0 (fun _=>true) true n 3 (([a0,a1,a2,a3,a4,a5,a6,a7,a8,a9].drop 4).take (Tryz.prog.cellsOf 3))=some (xs[4]'(by omega)):=t4
 have t5':DataW.trod enc Tryz.prog w 0 (fun _=>true) true n 3 (([a0,a1,a2,a3,a4,a5,a6,a7,a8,a9].drop 5).take (Tryz.prog.cellsOf 3))=some (xs[5]'(by omega)):=t5
 have t6':DataW.trod enc Tryz.prog w 0 (fun _=>true) true n 42 (([a0,a1,a2,a3,a4,a5,a6,a7,a8,a9].drop 6).take (Tryz.prog.cellsOf 42))=some (xs[6]'(by omega)):=t6
 simp only [s3,s42,List.drop,List.take] at t0' t1' t2' t3' t4' t5' t6'
 obtain ⟨x0,f0,-,-⟩:=DataW.trod_int Tryz.underlying3 t0'
 obtain ⟨x1,f1,-,-⟩:=DataW.trod_int Tryz.underlying3 t1'
 obtain ⟨x2,f2,-,-⟩:=DataW.trod_int Tryz.underlying3 t2'
 obtain ⟨x3,f3,-,-⟩:=DataW.trod_int Tryz.underlying3 t3'
 obtain ⟨x4,f4,-,-⟩:=DataW.trod_int Tryz.underlying3 t4'
 obtain ⟨x5,f5,-,-⟩:=DataW.trod_int Tryz.underlying3 t5'
 obtain ⟨d,A,ac,B,bc,f6,k1,k2⟩:=open_deriv t6'
 injection f0 with f0
 injection f1 with f1
 injection f2 with f2
 injection f3 with f3
 injection f4 with f4
 injection f5 with f5
 injection f6 with f6 f7
 injection f7 with f7 f8
 injection f8 with f8 f9
 injection f9 with f9 f10
 subst f0 f1 f2 f3 f4 f5 f6 f7 f8 f9
 exact ⟨(⟨x0,x1,x2,x3,x4,x5,d⟩,⟨A,ac,B,bc⟩),ha,k1,k2⟩

structure MZ where
 c:Int
 s:Bool
 A:Option Addr
 cm:Nat
 l:List (Pr × PA)
def mzV (z:MZ):Value:=.agg #[.int .i64 z.c,.bool z.s,.slice z.A z.l.length z.cm]
def MzOk (w:World) (z:MZ):Prop:=MtR w z.A z.l∧z.l.length≤maxLen
theorem open_pairs {m:Nat} {v:Value} {y:DataW H × List MemPlace} (h:DataW.trod enc Tryz.prog w 0 (fun _=>true) true m 29 [v]=some y) :
  ∃ (A:Option Addr) (c:Nat) (l:List (Pr × PA)),v=.slice A l.length c∧MtR w A l∧l.length≤maxLen:=by
 obtain ⟨A,n,c,rfl⟩:=slice_form Tryz.underlying29 h
 obtain ⟨xs,h1,h2,h3,h4,h5⟩:=open_src (P:=Tryz.prog) (t:=29) (e:=44) (A:=A) (n:=n) (c:=c) (d:=y.1) (ps:=y.2) (size:=10) peL (goodE w) Tryz.underlying29 (by kernel_rfl) (by decide) each_pair (fun x _ u hu=>peL_one [x] u (by simpa using hu)) ⟨m,by simpa [Value.cells] using h⟩
 subst h1
 exact ⟨A,c,xs,rfl,⟨h2,fun e he=>(h3 e he).1⟩,Nat.le_trans h4 h5⟩
theorem len3_ {cs:List Value} (h:cs.length=3):∃ a b c,cs=[a,b,c]:=by
 match cs,h with
 | [a,b,c],_=>exact ⟨a,b,c,rfl⟩
set_option maxRecDepth 100000 in
theorem open31 {r:Reach} {b0:Nat} {v:Value} {d:DataW H} {ps:List MemPlace} (hok:Value.okWide Tryz.prog w r b0 31 v) (h:DataW.Trod enc Tryz.prog w 0 (fun _=>true) true 31 v d ps):∃ z:MZ,v=mzV z∧MzOk w z:=by
 obtain ⟨cs,rfl,hsz⟩:=okWide_struct Tryz.underlying31 hok
 obtain ⟨m,hm⟩:=h
 obtain ⟨xs,n,_,_,hl,hxl,hf⟩:=DataW.trod_struct Tryz.underlying31 hm
 have hl3:=hl.trans (by kernel_rfl:_=3)
 obtain ⟨a0,a1,a2,ha⟩:=len3_ hl3
 have hxl3:xs.length=3:=hxl
 have ex:∀ i (hi:i < 3),xs[i]?=some (xs[i]'(by omega)):=fun i hi=>List.getElem?_eq_getElem (by omega)
 have s3:Tryz.prog.cellsOf 3=1:=by kernel_rfl
 have s4:Tryz.prog.cellsOf 4=1:=by kernel_rfl
 have s29:Tryz.prog.cellsOf 29=1:=by kernel_rfl
 have t0:=(hf 0 _ rfl).trans (ex 0 (by omega))
 have t1:=(hf 1 _ rfl).trans (ex 1 (by omega))
 have t2:=(hf 2 _ rfl).trans (ex 2 (by omega))
 rw [ha] at t0 t1 t2
 have t0':DataW.trod enc Tryz.prog w 0 (fun _=>true) true n 3 (([a0,a1,a2].drop 0).take (Tryz.prog.cellsOf 3))=some (xs[0]'(by omega)):=t0
 have t1':DataW.trod enc Tryz.prog w 0 (fun _=>true) true n 4 (([a0,a1,a2].drop 1).take (Tryz.prog.cellsOf 4))=some (xs[1]'(by omega)):=t1
 have t2':DataW.trod enc Tryz.prog w 0 (fun _=>true) true n 29 (([a0,a1,a2].drop 2).take (Tryz.prog.cellsOf 29))=some (xs[2]'(by omega)):=t2
 simp only [s3,s4,s29,List.drop,List.take] at t0' t1' t2'
 obtain ⟨x0,f0,-,-⟩:=DataW.trod_int Tryz.underlying3 t0'
 obtain ⟨x1,f1,-⟩:=DataW.trod_bool Tryz.underlying4 t1'
 obtain ⟨A,c,l,f2,k1,k2⟩:=open_pairs t2'
 injection f0 with f0
 injection f1 with f1
 subst f0 f1 f2
 refine ⟨⟨x0,x1,A,c,l⟩,?_,k1,k2⟩
 have:cs=#[.int .i64 x0,.bool x1,.slice A l.length c]:=by
  apply Array.toList_inj.1
  simpa [Value.cells] using ha
 rw [this];rfl
end
end Go.Proofs.YtbnnlpjpnihheaaGreatDoor
