/- A part of the proof: lemmas. -/
import Derived.Test.YtbioiclabmbedaaGreatDoorSI1
import Derived.Test.YtbioiclabmbedaaGreatDoorProg
import Derived.RangeFuncNested
import Derived.RangeFuncBound
import Derived.OrdersIn
import Derived.Shelf.Strings.Trim
import Derived.Shelf.Small.Wraps
import Derived.Shelf.Utf8.AppendRune
import Derived.Shelf.Utf8.AppendRunePlain
import Derived.Shelf.GgClosure.StringsRunes
import Derived.Shelf.Unicode.Decode
import Derived.Shelf.Strings.Runes
import Derived.Shelf.Strings.AsciiSet
import Derived.Shelf.Strings.CaseAny
import Derived.Shelf.Strings.BuilderCap
import Derived.Shelf.Slices.Clone
import Derived.Shelf.Slices.SearchI
import Derived.Shelf.Slices.Empties2
import Derived.Shelf.SlicesE.Clone
import Derived.Shelf.SlSortCmp.WholeK
set_option maxHeartbeats 16000000
set_option maxRecDepth 100000
set_option linter.all false
namespace Go.CH
open Go.RowKit
def aW (g:Nat) (o:Obj):aT:=fun w F=>w.heap[g]?=some o/\∀ i,F i↔i=g
variable {g:Nat}{w w0:World}{F F0:Nat->Prop}{assign:Code}{Q:Exit->Act->World->Prop}{a:Act}
theorem bg  {o:Obj}:(aW g o).Ok:=
 ⟨fun h i hi=>by rw[(h.2 i).1 hi];exact lt_of_block h.1,fun h hk=>⟨(hk g ((h.2 g).2 rfl)).trans h.1,h.2⟩⟩
instance {g:Nat} {o:Obj}:(aW g o).Ok:=bg
theorem uZ (w:World) (o:Obj):bT w eR (aW w.heap.size o) (w.alloc o):=
 ⟨fun i=>i=w.heap.size,⟨World.alloc_heap_new w o,fun i=>qt⟩,Mod.of_below ((fe _ _).alloc (fy _) _),fun i hi=>.inr (by subst hi;simp)⟩
theorem fH    {o:Obj} (h:aW g o w F) (o':Obj):bT w F (aW g o') (w.putObj g o'):=by
 have hlt:g<w.heap.size:=lt_of_block h.1;exact⟨F,⟨World.putObj_heap_same hlt,h.2⟩,Mod.xV (grownBy_putObj' w g o') (fun k e _=>by cases e;exact(h.2 g).2 rfl),fun i hi=>.inl hi⟩
def Qe {α:Type} (P:Program) (gf:Nat) (lb:Array Value) (E:World->Prop) (Z:Nat->aT) (enc:α->Array Value) (xs:List α):Prop:=
 ∀ (n l:Nat) (W:World) (F0:Nat->Prop) (w0:World) (X:Nat->aT) (Y:aT),(∀ i,(X i).Ok)->Y.Ok->(∀ W,Mod F0 w0 W->E W)->aI F0 w0 (aj (Z 0) (X 0)) W ->
  (∀ i (hi:i<xs.length) W1,aI F0 w0 (aj (Z i) (X i)) W1->YieldAt Fence.wide (n-1) P l (enc xs[i]) W1 fun e W'=>
   (e=.returned (.bool true)/\aI F0 w0 (aj (Z i) (X (i+1))) W')\/(e=.returned (.bool false)/\aI F0 w0 (aj (Z i) Y) W')) ->
  CallsIn Fence.wide n P gf (#[.func (.yield l) #[] #[]]++lb) W fun e W'=>(∃ v,e=.returned v)/\(aI F0 w0 (aj (Z xs.length) (X xs.length)) W'\/∃ i,aI F0 w0 (aj (Z i) Y) W')
def D1 (O:Code->aT):aT:=fun w F=>∃ c,O c w F
theorem IC {O:Code->aT} (h:∀ c,(O c).Ok):(D1 O).Ok:=⟨fun⟨c,h1⟩=>(h c).lt h1,fun⟨c,h1⟩ hk=>⟨c,(h c).keep h1 hk⟩⟩
instance {O:Code→aT} [h:∀ c,(O c).Ok]:(D1 O).Ok:=IC h
def IE (F0:Nat->Prop) (w0:World) (R I:aT) (h:Code->aT):Exit->Act->World->Prop
 | .normal,_,W=>aI F0 w0 (aj I R) W
 | .ret,_,W=>aI F0 w0 (aj (h .ret) R) W
 | .exit id,_,W=>aI F0 w0 (aj (h (.exit id)) R) W
 | .goto t,_,W=>aI F0 w0 (aj (h (.goto t)) R) W
 | .panic _,_,_=>False
 | .outgrown,_,_=>False
theorem SE {α:Type} {P:Program} {g:Operand} {ps:Array Tmp} {body:Code}    {gf:Nat} {lb:Array Value}
  (hg:a.eval g=.func (.func gf) #[] lb) (eg:∀ args w,(callFunc gf args).run P w=.ok (.enter gf args) w) {E:World->Prop} {Z:Nat->aT} {enc:α->Array Value} {xs:List α}
  (ag:Qe P gf lb E Z enc xs) (hZ:∀ i,(Z i).Ok) (ai:∀ x,(enc x).size=ps.size)
    (hE:∀ W,Mod F0 w0 W->E W) (I:Nat->aT) (Ix:Code->aT) (hI:∀ i,(I i).Ok) (ac:∀ c,(Ix c).Ok) (h0:aI F0 w0 (aj (Z 0) (I 0)) w) (a₁:α->Act)
  (ab:∀ (l m:Nat) (x:α) (W:World) (K:Act->World->Prop),K (a₁ x) W ->
   assign.wpIn (Fence.wide.inRound l) m P (Exit.then K (fun _ _ _=>False)) { tmps:=(ps.zip (enc x)).foldl (fun t (p,v)=>t.setIfInBounds p v) a.tmps,defers:=[] } W)
  (hbody:∀ (l m i:Nat) (hi:i<xs.length) (R:aT) (W:World),R.Ok->aI F0 w0 (aj (I i) R) W->body.wpIn (Fence.wide.inRound l) m P (IE F0 w0 R (I (i+1)) Ix) (a₁ xs[i]) W)
  (hdone:∀ (D:Nat) (R:aT) (W:World),R.Ok->aI F0 w0 (aj (I xs.length) (aj (aW D (.deferred (some []))) R)) W->Q .normal { a with defers:={ target:=.collected D,args:=#[] } :: a.defers } W)
  (hstop:∀ (D:Nat) (c:Code) (R:aT) (W:World),R.Ok->aI F0 w0 (aj (Ix c) (aj (aW D (.deferred (some []))) R)) W->c.wp P Q { a with defers:={ target:=.collected D,args:=#[] } :: a.defers } W) :
  (Code.rangeFunc g ps assign body).wp P Q a w:=by
 refine(wpIn_wide (n:=8)).1 ?_;refine wpIn_rangeFunc ?_;intro fn af;obtain⟨J,aa⟩:∃ J:LoopState->Option Code->Loop,J=fun st pe=>{ state:=st,pending:=pe,fn,tmps:=a.tmps,params:=ps,assign,body,defers:=w.heap.size }:=⟨_,rfl⟩;obtain⟨W1,ad⟩:∃ W1,(w.alloc (.deferred (some []))).alloc (.loop (J .ready none))=W1:=⟨_,rfl⟩;obtain⟨l,hl⟩:∃ l,l=w.heap.size+1:=⟨_,rfl⟩;obtain⟨D,hD⟩:∃ D,D=w.heap.size:=⟨_,rfl⟩;have R1:aI F0 w0 (aj (Z 0) (aj (aW l (.loop (J .ready none))) (aj (aW D (.deferred (some []))) (I 0)))) W1:=by
  have o1:=aB (hZ 0) (hI 0);have h1:=h0.fresh o1 (uZ w (.deferred (some [])));have h2:=h1.fresh (aB bg o1) (uZ (w.alloc (.deferred (some []))) (.loop (J .ready none)));have e1:(w.alloc (.deferred (some []))).heap.size=l:=by rw[hl];simp
  rw[e1,<-hD] at h2;rw[ad] at h2;exact h2.perm (by ac_rfl)
 have an:(aW D (.deferred (some []))).Ok:=bg
 refine⟨l,[{ target:=.collected w.heap.size,args:=#[] }],W1,{ target:=.fn (.func gf) lb,args:=#[.func (.yield l) #[] #[]] },W1,gf,
  #[.func (.yield l) #[] #[]]++lb,W1,?_,?_,?_,?_,fun _=>by omega,?_⟩
 ·rw[<-ad,aa,hl];exact run_enterLoop_outer _ _ _ _ _
 ·simp only[resolve,hg];simp[go_sem]
 ·intro f' ao;trivial
 ·simp[invoke,go_sem,eg]
 ·refine(ag (8-1) l W1 F0 w0 (fun i=>aj (aW l (.loop (J .ready none))) (aj (aW D (.deferred (some []))) (I i)))
   (D1 fun c=>aj (aW l (.loop (J .done (some c)))) (aj (aW D (.deferred (some []))) (Ix c)))
   (fun i=>aB bg (aB bg (hI i))) (IC fun c=>aB bg (aB bg (ac c))) hE R1 ?_).mono ?_
  ·-- one round
   intro i hi W hR;have ae:(aj (aW D (.deferred (some []))) (aj (Z i) (I i))).Ok:=aB bg (aB (hZ i) (hI i));have al:=hR.perm (by ac_rfl:_=aj (aW l (.loop (J .ready none))) (aj (aW D (.deferred (some []))) (aj (Z i) (I i))));obtain⟨FL,hL,-,bk⟩:=al.take bg ae;have hy:=run_yield (P:=P) (args:=enc xs[i]) hL.1 (by rw[aa];exact ai _);rw[aa] at hy;refine⟨fn,_,assign,body,hy,roundIn_of_wpIn af (ab l _ xs[i] W _ ⟨_,run_beginRound hL.1 (by rw[aa]),?_⟩)⟩;have hB:=bk _ _ (fH hL (.loop { J .ready none with state:=.busy }));have am:(aj (aW l (.loop { J .ready none with state:=.busy })) (aj (aW D (.deferred (some []))) (Z i))).Ok:=aB bg (aB bg (hZ i));refine wpIn_mono (hbody l _ i hi (aj (aW l (.loop { J .ready none with state:=.busy })) (aj (aW D (.deferred (some []))) (Z i))) _ am (hB.perm (by ac_rfl))) ?_;have fin:∀ (M:Option Code) (W3:World) (O:aT),O.Ok->aI F0 w0 (aj O (aj (aW l (.loop { J .ready none with state:=.busy })) (aj (aW D (.deferred (some []))) (Z i)))) W3 ->
     ∃ W4,(Instr.endRound l M).run P W3=.ok (.bool M.isNone) W4/\aI F0 w0 (aj (Z i) (aj (aW l (.loop (J (if M.isNone then .ready else .done) M))) (aj (aW D (.deferred (some []))) O))) W4:=fun M W3 O hO h3=>by
    have h4:=h3.perm (by ac_rfl:_=aj (aW l (.loop { J .ready none with state:=.busy })) (aj (aW D (.deferred (some []))) (aj (Z i) O)));obtain⟨FL,hL,-,bk⟩:=h4.take bg (aB bg (aB (hZ i) hO));refine⟨_,run_endRound (P:=P) M hL.1,?_⟩;have h5:=bk _ _ (fH hL (.loop { { J .ready none with state:=.busy } with state:=if M.isNone then .ready else .done,pending:=M }));have e5:({ { J .ready none with state:=.busy } with state:=if M.isNone then .ready else .done,pending:=M }:Loop)=J (if M.isNone then .ready else .done) M:=by rw[aa]
    rw[e5] at h5 ⊢;exact h5.perm (by ac_rfl)
   rintro e a3 W3 hp;cases e with
   | normal=>
    obtain⟨W4,h4,h5⟩:=fin none W3 _ (hI (i+1)) hp;exact⟨_,_,h4,.inl ⟨rfl,h5⟩⟩
   | ret=>
    obtain⟨W4,h4,h5⟩:=fin (some .ret) W3 _ (ac .ret) hp;exact⟨_,_,h4,.inr ⟨rfl,h5.imp fun w F hh=>bD hh (fun _ h=>h) (fun _ h=>⟨.ret,h⟩)⟩⟩
   | exit id=>
    obtain⟨W4,h4,h5⟩:=fin (some (.exit id)) W3 _ (ac (.exit id)) hp;exact⟨_,_,h4,.inr ⟨rfl,h5.imp fun w F hh=>bD hh (fun _ h=>h) (fun _ h=>⟨.exit id,h⟩)⟩⟩
   | goto t=>
    obtain⟨W4,h4,h5⟩:=fin (some (.goto t)) W3 _ (ac (.goto t)) hp;exact⟨_,_,h4,.inr ⟨rfl,h5.imp fun w F hh=>bD hh (fun _ h=>h) (fun _ h=>⟨.goto t,h⟩)⟩⟩
   | panic ch=>exact hp.elim
   | outgrown=>exact hp.elim
  ·-- behind the iterator
   have fin:∀ (st:LoopState) (pe:Option Code) (W2:World) (i:Nat) (O:aT),O.Ok->st≠.busy->aI F0 w0 (aj (Z i) (aj (aW l (.loop (J st pe))) (aj (aW D (.deferred (some []))) O))) W2 ->
     ∃ W4 R,R.Ok/\(Instr.endLoop l).run P W2=.ok pe W4/\aI F0 w0 (aj O (aj (aW D (.deferred (some []))) R)) W4:=fun st pe W2 i O hO ak h3=>by
    have h4:=h3.perm (by ac_rfl:_=aj (aW l (.loop (J st pe))) (aj (aW D (.deferred (some []))) (aj (Z i) O)));obtain⟨FL,hL,-,bk⟩:=h4.take bg (aB bg (aB (hZ i) hO));have he:=run_endLoop (P:=P) hL.1 (by rw[aa];exact ak);have e6:(J st pe).pending=pe:=by rw[aa]
    have he:=he.trans (congrArg (fun p=>Result.ok p (W2.putObj l (.loop { J st pe with state:=.exhausted }))) e6);have hp:=fH hL (.loop { J st pe with state:=.exhausted });generalize Obj.loop { J st pe with state:=.exhausted }=o4 at he hp;have h5:=bk _ _ hp;exact⟨_,aj (aW l o4) (Z i),aB bg (hZ i),he,h5.perm (by ac_rfl:_=aj O (aj (aW D (.deferred (some []))) (aj (aW l o4) (Z i))))⟩
   rintro e W2 ⟨⟨v,rfl⟩,h2|⟨i,h2⟩⟩
   ·obtain⟨W4,R,hR,he,h4⟩:=fin .ready none W2 _ _ (hI _) iz h2;rw[<-hD];exact⟨none,_,he,hdone D R W4 hR h4⟩
   ·have h3:∃ c,aI F0 w0 (aj (Z i) (aj (aW l (.loop (J .done (some c)))) (aj (aW D (.deferred (some []))) (Ix c)))) W2:=by
     obtain⟨⟨F,⟨F1,F2,g1,⟨c,g2⟩,g3,g4⟩,hF⟩,hm⟩:=h2;exact⟨c,⟨⟨F,⟨F1,F2,g1,g2,g3,g4⟩,hF⟩,hm⟩⟩
    obtain⟨c,h3⟩:=h3;obtain⟨W4,R,hR,he,h4⟩:=fin .done (some c) W2 _ _ (ac c) iz h3;rw[<-hD];exact⟨some c,_,he,(wpIn_wide (n:=8)).2 (hstop D c R W4 hR h4)⟩
section
variable {P:Program} {l n:Nat} {o:Oper} {ops:Array Oper} {a:Act} {w:World} {K:Act→World→Prop} {Q:Exit→Act→World→Prop}
def lC (o:Oper):Bool:=match o.op with|.defer _=>false|_=>true
theorem NY (h:lC o=true):∀ c,o.op≠.defer c:=fun c e=>by unfold lC at h;rw[e] at h;cases h
theorem Qc (hd:lC o=true) (h:o.wp P a w K Q):o.wpIn (Fence.wide.inRound l) n P a w K Q:=by
 unfold Oper.wp at h;refine⟨fun _ _=>trivial,?_⟩;have e:(Fence.wide.inRound l).round=some l:=rfl;rw[e,nz l _ _ (NY hd)];generalize (execOp a.eval o).run P w=r at h ⊢;have I:(Fence.wide.inRound l).depth.isSome=true->1<=n:=fun h=>by cases h
 cases r with
 | ok x w'=>
  cases x<;>first
   | exact h
   | exact h.elim
   | (refine⟨I,(CallsIn.inRound l (callsIn_wide.2 h)).mono fun e J M=>?_⟩
      cases e<;>exact M)
   | exact⟨I,fun c cs _=>let ⟨v,w',r,s⟩:=h c cs;⟨v,w',r,stepsIn_wide.2 s⟩⟩
 | halt x w'=>
  cases x<;>first|exact h|exact h.elim
variable {i:Nat}{r:List Oper}
theorem ZT (I:¬ LetsOut Q)  (hd:∀ o:Oper,ops[i]?=some o->lC o=true) (h:wpOp P ops Q i K a w):wpOpIn (Fence.wide.inRound l) n P ops Q i K a w:=by
 unfold wpOp at h;unfold wpOpIn;cases J:ops[i]? with
 | none=>simp only[J] at h;exact h
 | some o=>
  simp only[J] at h ⊢;by_cases M:Region.wanted o (yielded ops a.tmps)=true
  ·rw[if_pos M] at h ⊢;rcases h with h|⟨_,h⟩
   ·exact Qc (hd o J) h
   ·exact absurd h I
  ·rw[if_neg M] at h ⊢;exact⟨fun _ _=>trivial,h⟩
theorem Lh (M:¬ LetsOut Q) {md:Region.Mode} (hd:∀ (i:Nat) (o:Oper),ops[i]?=some o->lC o=true):∀ (J:Nat) (I:Array Bool) (a:Act) (w:World),wpAny P md ops Q J I a w->wpAnyIn (Fence.wide.inRound l) n P md ops Q J I a w:=by
 intro J
 induction J with
 | zero=>intro I a w h;exact h
 | succ J ih=>
  intro I a w h;exact⟨h.1,fun i hi=>wpOpIn_mono (fun a w=>ih _ a w) (ZT M (hd i) (h.2 i hi))⟩
theorem SC (I:¬ LetsOut Q):∀ (r:List Oper) (a:Act) (w:World),r.all lC=true->wpList P ops Q r a w->wpListIn (Fence.wide.inRound l) n P ops Q r a w:=by
 intro r
 induction r with
 | nil=>intro a w _ h;exact h
 | cons o r ih=>
  intro a w hd h;rw[C0,gA] at hd;unfold wpList at h;unfold wpListIn;by_cases J:Region.wanted o (yielded ops a.tmps)=true
  ·rw[if_pos J] at h ⊢;rcases h with h|⟨_,h⟩
   ·exact Oper.wpIn_mono (fun a w=>ih a w hd.2) (Qc hd.1 h)
   ·exact absurd h I
  ·rw[if_neg J] at h ⊢;exact⟨fun _ _=>trivial,ih _ _ hd.2 h⟩
theorem bR {J:Nat}  (hd:r.all lC=true) (I:¬ LetsOut Q) (h:wpList P r.toArray Q r a w):(Code.region J r.toArray false).wpIn (Fence.wide.inRound l) n P Q a w:=by
 refine wpIn_region ?_;rw[Fc,<-Fi,wpOpsIn_eq_wpListIn r.toArray.toList 0 iz];simp only[List.toList_toArray];exact SC I r a w hd h
theorem Qd  (hd:r.all lC=true):∀ (i:Nat) (o:Oper),r.toArray[i]?=some o->lC o=true:=fun i o ho=>by
 rw[mj] at ho;exact List.all_eq_true.1 hd o (pS ho)
theorem mQ {M:Nat}  (S:World->Prop) (hd:r.all lC=true) (I:¬ LetsOut Q) (hm:P.follows .mixedOrders=true) (J:uj r.toArray=true) (hS:S w.drew)
  (h:kY P r.toArray S True Q r a w.drew):(Code.region M r.toArray true).wpIn (Fence.wide.inRound l) n P Q a w:=
 wpIn_region_any hm (Lh I (Qd hd) _ _ _ _ (Ip J (.inl trivial) hS h))
end
section
variable {P:Program} {ops:Array Oper} {Ts:List Nat} {St:Nat→World→Prop} {Q:Exit→Act→World→Prop}
def ye:List (World->Prop)->Nat->World->Prop
 | [],_,_=>True
 | S::_,0,w=>S w
 | _::l,n+1,w=>ye l n w
def Ku:List (World->Prop)->Prop
 | []=>True
 | [_]=>True
 | S::T::l=>(∀ w,S w->T w)/\Ku (T::l)
theorem Kv:∀ (l:List (World->Prop)),Ku l->∀ c w,ye l c w->ye l (c+1) w
 | [],_,_,_,_=>trivial
 | [_],_,0,_,_=>trivial
 | [_],_,_+1,_,_=>trivial
 | S::T::l,h,0,w,hs=>h.1 w hs
 | S::T::l,h,c+1,w,hs=>Kv (T::l) h.2 c w hs
def mZ (P:Program) (ops:Array Oper) (St:Nat->World->Prop) (Q:Exit->Act->World->Prop):List Nat->List Oper->Act->World->Prop
 | _,[],a,w=>Q .normal a w
 | [],_::_,_,_=>False
 | n::lv,o::r,a,w=>(∃ v,YieldsIf P ops (St n) o v a/\mZ P ops St Q lv r (a.put o.dst v) w) \/
   (l8 o.op=true/\Region.wanted o (yielded ops a.tmps)=true/\o.wp P a w (fun h w'=>St n w'/\mZ P ops St Q lv r h w') oM)
theorem FV:∀ (l:List Oper) (lv:List Nat) (k:Nat) (a:Act) (w:World),(∀ j,l[j]?=ops[k+j]?)->(∀ j,j<l.length->lv[j]?=some (vA ops Ts (k+j)))->mZ P ops St Q lv l a w->qK P ops (fun i=>St (vA ops Ts i)) (fun i=>St (yi Ts i)) Q (List.range' k l.length) a w
 | [],lv,_,_,_,_,_,h=>by cases lv<;>exact h
 | o::l,[],k,a,w,hl,hv,h=>h.elim
 | o::l,n::lv,k,a,w,hl,hv,h=>by
  have h0:ops[k]?=some o:=by simpa using (hl 0).symm
  obtain rfl:n=vA ops Ts k:=by have:=hv 0 iz;simpa using this
  have ih:=fun a w=>FV l lv (k+1) a w (fun j=>by have:=hl (j+1);simpa[vq,vr 1 j] using this)
   (fun j hj=>by have:=hv (j+1) (by simpa using hj);simpa[vq,vr 1 j] using this)
  simp only[j7,I1];unfold qK;simp only[h0];rcases h with⟨v,I,J⟩|⟨I,J,h3⟩
  ·exact .inl ⟨v,I,ih _ _ J⟩
  ·refine .inr ⟨I,J,sl (fun a' w' M=>⟨?_,ih _ _ M.2⟩) h3⟩;have:=M.1;simpa[vA,fF,h0,I] using this
variable {l:List Oper}{b:Act}{id n:Nat}{v:Value}
theorem Vy    {Ts lv:List Nat} {I:World->Prop} {Sl:List (World->Prop)} (M:Ku (I::Sl)) (hB:uj l.toArray=true) (hL:VA l.toArray Ts=true) (J:ZI l.toArray Ts=lv) (hS:I w)
  (h:mZ P l.toArray (ye (I::Sl)) Q lv l a w):wpAny P .any l.toArray Q l.toArray.size (Array.replicate l.toArray.size false) a w:=
 ZJ (Kv _ M) hB hL hS (FV l lv 0 a w iz (fun j hj=>by
  rw[<-J];unfold ZI;rw[lz,Cl (by simpa using hj)];simp) h)
theorem dY     (Ts lv:List Nat) (J:World->Prop) (Sl:List (World->Prop)) (I:Ku (J::Sl)) (hm:P.follows .mixedOrders=true) (hB:uj l.toArray=true) (hL:VA l.toArray Ts=true) (M:ZI l.toArray Ts=lv) (hS:J w.drew)
  (h:mZ P l.toArray (ye (J::Sl)) Q lv l a w.drew):(Code.region id l.toArray true).wp P Q a w:=wp_region_any hm (Vy I hB hL M hS h)
theorem mP {l:Nat}    {r:List Oper} (Ts lv:List Nat) (M:World->Prop) (Sl:List (World->Prop)) (aa:Ku (M::Sl)) (hd:r.all lC=true) (I:¬ LetsOut Q) (hm:P.follows .mixedOrders=true) (hB:uj r.toArray=true) (hL:VA r.toArray Ts=true) (J:ZI r.toArray Ts=lv) (hS:M w.drew)
  (h:mZ P r.toArray (ye (M::Sl)) Q lv r a w.drew):(Code.region id r.toArray true).wpIn (Fence.wide.inRound l) n P Q a w:=wpIn_region_any hm (Lh I (Qd hd) _ _ _ _ (Vy aa hB hL J hS h))
section
variable {o:Oper} {r:List Oper} {n:Nat} {lv:List Nat} {a:Act} {w:World}
theorem iT (h:Q .normal a w):mZ P ops St Q lv [] a w:=by cases lv<;>exact h
theorem Vz (hw:Region.wanted o (yielded ops a.tmps)=false) (h:mZ P ops St Q lv r (a.put o.dst undef) w):mZ P ops St Q (n::lv) (o::r) a w:=.inl ⟨undef,.inr ⟨hw,rfl⟩,h⟩
theorem C9  (hw:Region.wanted o (yielded ops a.tmps)=true) (hv:∀ w',St n w'->(execOp a.eval o).run P w'=.ok (.value v) w') (h:mZ P ops St Q lv r (a.put o.dst v) w):mZ P ops St Q (n::lv) (o::r) a w:=
 .inl ⟨v,.inl ⟨hw,hv⟩,h⟩
theorem bB (hc:l8 o.op=true) (hw:Region.wanted o (yielded ops a.tmps)=true) (h:∀ K:Act->World->Prop,Hid (∀ a' w',St n w'->mZ P ops St Q lv r a' w'->K a' w')->o.wp P a w K oM):mZ P ops St Q (n::lv) (o::r) a w:=
 .inr ⟨hc,hw,h _ fun _ _ h1 h2=>⟨h1,h2⟩⟩
theorem eH  (h:mZ P ops St Q lv r b w) (hw:Region.wanted o (yielded ops a.tmps)=false:=by rfl) (hb:a.put o.dst undef=b:=by(first|(simp only[Act.put,ja,i6,i7];done)|(simp only[Act.put,ja,i6,i7];rfl)|rfl)):mZ P ops St Q (n::lv) (o::r) a w:=Vz hw (hb ▸ h)
theorem eO   (h:mZ P ops St Q lv r b w) (J:Region.wanted o (yielded ops a.tmps)=true:=by rfl) (hv:∀ w',St n w'->(execOp a.eval o).run P w'=.ok (.value v) w':=by(intro w' I;(try simp only[ye] at I);go_simp;(try with_reducible rfl);done)) (hb:a.put o.dst v=b:=by(first|(simp only[Act.put,ja,i6,i7];done)|(simp only[Act.put,ja,i6,i7];rfl)|rfl)):mZ P ops St Q (n::lv) (o::r) a w:=C9 J hv (hb ▸ h)
end
end
end Go.CH
namespace Go.Proofs
open Go.Shelf
def Tryz.AX:Go.Shelf.Ren:=⟨fun|159=>84|165=>104|166=>105|167=>107|169=>106|230=>108|204=>109|240=>136|241=>137|197=>138|118=>139|168=>140|270=>141|262=>142|276=>155|277=>156|260=>157|242=>158|313=>159|278=>164|274=>165|275=>166|n=>n,fun|9=>9|4=>4|3=>3|5=>5|72=>234|0=>0|76=>238|75=>237|107=>243|70=>231|20=>20|37=>232|127=>266|21=>21|105=>267|164=>283|162=>289|203=>287|119=>295|46=>221|139=>298|138=>297|51=>29|160=>299|208=>306|206=>304|80=>240|n=>n,fun|13=>1|3=>2|4=>3|n=>n⟩
theorem Tryz.aaz:Go.Proofs.Lays.n159 Tryz.prog Tryz.AX:={
 mixed:=by kernel_rfl
 f118:=Tryz.func139.trans fX
 f159:=Tryz.func84.trans fX
 f165:=Tryz.func104.trans fX
 f166:=Tryz.func105.trans fX
 f167:=Tryz.func107.trans fX
 f168:=Tryz.func140.trans fX
 f169:=Tryz.func106.trans fX
 f197:=Tryz.func138.trans fX
 f204:=Tryz.func109.trans fX
 f230:=Tryz.func108.trans fX
 f240:=Tryz.func136.trans fX
 f241:=Tryz.func137.trans fX
 f242:=Tryz.func158.trans fX
 f260:=Tryz.func157.trans fX
 f262:=Tryz.func142.trans fX
 f270:=Tryz.func141.trans fX
 f274:=Tryz.func165.trans fX
 f275:=Tryz.func166.trans fX
 f276:=Tryz.func155.trans fX
 f277:=Tryz.func156.trans fX
 f278:=Tryz.func164.trans fX
 f313:=Tryz.func159.trans fX
 t0:=Tryz.underlying0
 a0:=Tryz.isAgg0
 z0:=Tryz.sizeOf0
 v0:=Tryz.zeroValue0
 t3:=Tryz.underlying3
 a3:=Tryz.isAgg3
 z3:=Tryz.sizeOf3
 v3:=Tryz.zeroValue3
 t4:=Tryz.underlying4
 a4:=Tryz.isAgg4
 z4:=Tryz.sizeOf4
 v4:=Tryz.zeroValue4
 t5:=Tryz.underlying5
 a5:=Tryz.isAgg5
 z5:=Tryz.sizeOf5
 v5:=Tryz.zeroValue5
 t9:=Tryz.underlying9
 a9:=Tryz.isAgg9
 z9:=Tryz.sizeOf9
 v9:=Tryz.zeroValue9
 t20:=Tryz.underlying20
 a20:=Tryz.isAgg20
 z20:=Tryz.sizeOf20
 v20:=Tryz.zeroValue20
 t21:=Tryz.underlying21
 a21:=Tryz.isAgg21
 z21:=Tryz.sizeOf21
 v21:=Tryz.zeroValue21
 t37:=Tryz.underlying232
 a37:=Tryz.isAgg232
 z37:=Tryz.sizeOf232
 v37:=Tryz.zeroValue232
 t46:=Tryz.underlying221
 a46:=Tryz.isAgg221
 z46:=Tryz.sizeOf221
 v46:=Tryz.zeroValue221
 t51:=Tryz.underlying29
 a51:=Tryz.isAgg29
 z51:=Tryz.sizeOf29
 v51:=Tryz.zeroValue29
 t70:=Tryz.underlying231
 a70:=Tryz.isAgg231
 z70:=Tryz.sizeOf231
 v70:=Tryz.zeroValue231
 t72:=Tryz.underlying234
 a72:=Tryz.isAgg234
 z72:=Tryz.sizeOf234
 v72:=Tryz.zeroValue234
 t75:=Tryz.underlying237
 a75:=Tryz.isAgg237
 z75:=Tryz.sizeOf237
 v75:=Tryz.zeroValue237
 t76:=Tryz.underlying238
 a76:=Tryz.isAgg238
 z76:=Tryz.sizeOf238
 v76:=Tryz.zeroValue238
 t105:=Tryz.underlying267
 a105:=Tryz.isAgg267
 z105:=Tryz.sizeOf267
 v105:=Tryz.zeroValue267
 t107:=Tryz.underlying243
 a107:=Tryz.isAgg243
 z107:=Tryz.sizeOf243
 v107:=Tryz.zeroValue243
 t119:=Tryz.underlying295
 a119:=Tryz.isAgg295
 z119:=Tryz.sizeOf295
 t127:=Tryz.underlying266
 a127:=Tryz.isAgg266
 z127:=Tryz.sizeOf266
 v127:=Tryz.zeroValue266
 t138:=Tryz.underlying297
 a138:=Tryz.isAgg297
 z138:=Tryz.sizeOf297
 v138:=Tryz.zeroValue297
 t139:=Tryz.underlying298
 a139:=Tryz.isAgg298
 z139:=Tryz.sizeOf298
 v139:=Tryz.zeroValue298
 t160:=Tryz.underlying299
 a160:=Tryz.isAgg299
 z160:=Tryz.sizeOf299
 v160:=Tryz.zeroValue299
 t162:=Tryz.underlying289
 a162:=Tryz.isAgg289
 z162:=Tryz.sizeOf289
 v162:=Tryz.zeroValue289
 t164:=Tryz.underlying283
 a164:=Tryz.isAgg283
 z164:=Tryz.sizeOf283
 v164:=Tryz.zeroValue283
 t203:=Tryz.underlying287
 a203:=Tryz.isAgg287
 z203:=Tryz.sizeOf287
 v203:=Tryz.zeroValue287
 t206:=Tryz.underlying304
 a206:=Tryz.isAgg304
 z206:=Tryz.sizeOf304
 v206:=Tryz.zeroValue304
 t208:=Tryz.underlying306
 a208:=Tryz.isAgg306
 z208:=Tryz.sizeOf306
 v208:=Tryz.zeroValue306
 g3:=by kernel_rfl
 g4:=by kernel_rfl
 g13:=by kernel_rfl }
theorem Tryz.yM:Builder.Extra Tryz.prog Tryz.AX:={
 sizeBuilder:=by kernel_rfl
 liesBuilder:=by kernel_rfl
 t5:=Tryz.underlying5
 a5:=Tryz.isAgg5
 z5:=Tryz.sizeOf5
 v5:=Tryz.zeroValue5
 infoByte:=by kernel_rfl
 cellsByte:=by kernel_rfl
 sizeByte:=by kernel_rfl
 neB5:=by decide }
def Tryz.AY:Go.Shelf.Ren:=⟨fun|156=>82|165=>104|166=>105|169=>106|240=>136|241=>137|276=>155|277=>156|n=>n,fun|31=>26|9=>9|3=>3|4=>4|0=>0|20=>20|72=>234|76=>238|70=>231|37=>232|75=>237|127=>266|164=>283|5=>5|80=>240|n=>n,fun|n=>n⟩
theorem Tryz.QA:Go.Proofs.Lays.n156 Tryz.prog Tryz.AY:={
 mixed:=by kernel_rfl
 f156:=Tryz.func82.trans fX
 f165:=Tryz.func104.trans fX
 f166:=Tryz.func105.trans fX
 f169:=Tryz.func106.trans fX
 f240:=Tryz.func136.trans fX
 f241:=Tryz.func137.trans fX
 f276:=Tryz.func155.trans fX
 f277:=Tryz.func156.trans fX
 t0:=Tryz.underlying0
 a0:=Tryz.isAgg0
 z0:=Tryz.sizeOf0
 v0:=Tryz.zeroValue0
 t3:=Tryz.underlying3
 a3:=Tryz.isAgg3
 z3:=Tryz.sizeOf3
 v3:=Tryz.zeroValue3
 t4:=Tryz.underlying4
 a4:=Tryz.isAgg4
 z4:=Tryz.sizeOf4
 v4:=Tryz.zeroValue4
 t9:=Tryz.underlying9
 a9:=Tryz.isAgg9
 z9:=Tryz.sizeOf9
 v9:=Tryz.zeroValue9
 t20:=Tryz.underlying20
 a20:=Tryz.isAgg20
 z20:=Tryz.sizeOf20
 v20:=Tryz.zeroValue20
 t31:=Tryz.underlying26
 a31:=Tryz.isAgg26
 z31:=Tryz.sizeOf26
 v31:=Tryz.zeroValue26
 t37:=Tryz.underlying232
 a37:=Tryz.isAgg232
 z37:=Tryz.sizeOf232
 v37:=Tryz.zeroValue232
 t70:=Tryz.underlying231
 a70:=Tryz.isAgg231
 z70:=Tryz.sizeOf231
 v70:=Tryz.zeroValue231
 t72:=Tryz.underlying234
 a72:=Tryz.isAgg234
 z72:=Tryz.sizeOf234
 v72:=Tryz.zeroValue234
 t75:=Tryz.underlying237
 a75:=Tryz.isAgg237
 z75:=Tryz.sizeOf237
 v75:=Tryz.zeroValue237
 t76:=Tryz.underlying238
 a76:=Tryz.isAgg238
 z76:=Tryz.sizeOf238
 v76:=Tryz.zeroValue238
 t127:=Tryz.underlying266
 a127:=Tryz.isAgg266
 z127:=Tryz.sizeOf266
 v127:=Tryz.zeroValue266
 t164:=Tryz.underlying283
 a164:=Tryz.isAgg283
 z164:=Tryz.sizeOf283
 v164:=Tryz.zeroValue283 }
theorem Tryz.pY:Builder.Extra Tryz.prog Tryz.AY:={
 sizeBuilder:=by kernel_rfl
 liesBuilder:=by kernel_rfl
 t5:=Tryz.underlying5
 a5:=Tryz.isAgg5
 z5:=Tryz.sizeOf5
 v5:=Tryz.zeroValue5
 infoByte:=by kernel_rfl
 cellsByte:=by kernel_rfl
 sizeByte:=by kernel_rfl
 neB5:=by decide }
open Go.RowKit in
theorem Tryz.strings_Join_none (a:eV) (c:Nat) (sep:ByteArray) (w:World) :
  Calls Tryz.prog 82 #[.slice a 0 c,.string sep] w fun e w'=>e=.returned (.string ⟨#[]⟩)/\w'=w:=Any.strings_Join_none Tryz.QA Tryz.pY a c sep w
open Go.RowKit in
theorem Tryz.strings_Join (bk o c:Nat) (xs:List ByteArray) (I:ByteArray) (w:World) (h:∀ (j:Nat) x,xs[j]?=some x->w.cell? ⟨bk,o+j,none⟩=some (.string x)) (aa:bk<w.heap.size) (hN:xs.length<=140737488355328) (J:xs.length<=c) (M:(Lib.join (xs.map (·.data.toList)) I.data.toList).length<=140737488355328) :
  Calls Tryz.prog 82 #[.slice (some ⟨bk,o,none⟩) xs.length c,.string I] w fun e w'=>e=.returned (.string ⟨(Lib.join (xs.map (·.data.toList)) I.data.toList).toArray⟩)/\Below w.heap.size w w':=Any.strings_Join Tryz.QA Tryz.pY bk o c xs I w h aa hN J M
def Tryz.LW:Go.Shelf.Ren:=⟨fun|160=>87|232=>115|231=>114|227=>116|234=>118|233=>117|236=>120|235=>119|228=>144|271=>146|151=>145|197=>138|120=>162|152=>161|260=>157|137=>160|119=>168|224=>169|225=>170|217=>167|266=>171|n=>n,fun|9=>9|4=>4|3=>3|5=>5|117=>250|116=>249|0=>0|124=>253|21=>21|105=>267|46=>221|119=>295|139=>298|138=>297|n=>n,fun|3=>2|4=>3|n=>n⟩
theorem Tryz.aaA:Go.Proofs.Lays.n160 Tryz.prog Tryz.LW:={
 mixed:=by kernel_rfl
 f119:=Tryz.func168.trans fX
 f120:=Tryz.func162.trans fX
 f137:=Tryz.func160.trans fX
 f151:=Tryz.func145.trans fX
 f152:=Tryz.func161.trans fX
 f160:=Tryz.func87.trans fX
 f197:=Tryz.func138.trans fX
 f217:=Tryz.func167.trans fX
 f224:=Tryz.func169.trans fX
 f225:=Tryz.func170.trans fX
 f227:=Tryz.func116.trans fX
 f228:=Tryz.func144.trans fX
 f231:=Tryz.func114.trans fX
 f232:=Tryz.func115.trans fX
 f233:=Tryz.func117.trans fX
 f234:=Tryz.func118.trans fX
 f235:=Tryz.func119.trans fX
 f236:=Tryz.func120.trans fX
 f260:=Tryz.func157.trans fX
 f266:=Tryz.func171.trans fX
 f271:=Tryz.func146.trans fX
 t0:=Tryz.underlying0
 a0:=Tryz.isAgg0
 z0:=Tryz.sizeOf0
 v0:=Tryz.zeroValue0
 t3:=Tryz.underlying3
 a3:=Tryz.isAgg3
 z3:=Tryz.sizeOf3
 v3:=Tryz.zeroValue3
 t4:=Tryz.underlying4
 a4:=Tryz.isAgg4
 z4:=Tryz.sizeOf4
 v4:=Tryz.zeroValue4
 t5:=Tryz.underlying5
 a5:=Tryz.isAgg5
 z5:=Tryz.sizeOf5
 v5:=Tryz.zeroValue5
 t9:=Tryz.underlying9
 a9:=Tryz.isAgg9
 z9:=Tryz.sizeOf9
 v9:=Tryz.zeroValue9
 t21:=Tryz.underlying21
 a21:=Tryz.isAgg21
 z21:=Tryz.sizeOf21
 v21:=Tryz.zeroValue21
 t46:=Tryz.underlying221
 a46:=Tryz.isAgg221
 z46:=Tryz.sizeOf221
 v46:=Tryz.zeroValue221
 t105:=Tryz.underlying267
 a105:=Tryz.isAgg267
 z105:=Tryz.sizeOf267
 v105:=Tryz.zeroValue267
 t116:=Tryz.underlying249
 a116:=Tryz.isAgg249
 z116:=Tryz.sizeOf249
 t117:=Tryz.underlying250
 a117:=Tryz.isAgg250
 z117:=Tryz.sizeOf250
 v117:=Tryz.zeroValue250
 t119:=Tryz.underlying295
 a119:=Tryz.isAgg295
 z119:=Tryz.sizeOf295
 t124:=Tryz.underlying253
 a124:=Tryz.isAgg253
 z124:=Tryz.sizeOf253
 v124:=Tryz.zeroValue253
 t138:=Tryz.underlying297
 a138:=Tryz.isAgg297
 z138:=Tryz.sizeOf297
 v138:=Tryz.zeroValue297
 t139:=Tryz.underlying298
 a139:=Tryz.isAgg298
 z139:=Tryz.sizeOf298
 v139:=Tryz.zeroValue298
 g3:=by kernel_rfl
 g4:=by kernel_rfl }
def Tryz.LX:Go.Shelf.Ren:=⟨fun|106=>98|213=>133|265=>153|n=>n,fun|9=>9|3=>3|n=>n,fun|n=>n⟩
theorem Tryz.aaB:Go.Proofs.Lays.n106 Tryz.prog Tryz.LX:={
 mixed:=by kernel_rfl
 f106:=Tryz.func98.trans fX
 f213:=Tryz.func133.trans fX
 f265:=Tryz.func153.trans fX
 t3:=Tryz.underlying3
 a3:=Tryz.isAgg3
 z3:=Tryz.sizeOf3
 v3:=Tryz.zeroValue3
 t9:=Tryz.underlying9
 a9:=Tryz.isAgg9
 z9:=Tryz.sizeOf9
 v9:=Tryz.zeroValue9 }
open Go.RowKit in
theorem Tryz.strings_Compare (a b:ByteArray) (w:World) :
  Calls Tryz.prog 98 #[.string a,.string b] w fun e w'=>e=.returned (.int .i64 (Lib.compareBytes a.data.toList b.data.toList))/\w'=w:=Any.strings_Compare Tryz.aaB a b w
def Tryz.LY:Go.Shelf.Ren:=⟨fun|137=>160|217=>167|266=>171|n=>n,fun|9=>9|5=>5|3=>3|n=>n,fun|n=>n⟩
theorem Tryz.aaC:Go.Proofs.Lays.n137 Tryz.prog Tryz.LY:={
 mixed:=by kernel_rfl
 f137:=Tryz.func160.trans fX
 f217:=Tryz.func167.trans fX
 f266:=Tryz.func171.trans fX
 t3:=Tryz.underlying3
 a3:=Tryz.isAgg3
 z3:=Tryz.sizeOf3
 v3:=Tryz.zeroValue3
 t5:=Tryz.underlying5
 a5:=Tryz.isAgg5
 z5:=Tryz.sizeOf5
 v5:=Tryz.zeroValue5
 t9:=Tryz.underlying9
 a9:=Tryz.isAgg9
 z9:=Tryz.sizeOf9
 v9:=Tryz.zeroValue9 }
open Go.RowKit in
theorem Tryz.strings_IndexByte (s:ByteArray) (c:Int) (w:World) :
  Calls Tryz.prog 160 #[.string s,.int .u8 c] w fun e w'=>e=.returned (.int .i64 (Lib.indexByte s.data.toList c.toNat.toUInt8))/\w'=w:=Any.strings_IndexByte Tryz.aaC s c w
def Tryz.L6:Go.Shelf.Ren:=⟨fun|103=>92|210=>121|206=>147|n=>n,fun|9=>9|4=>4|24=>215|3=>3|n=>n,fun|n=>n⟩
theorem Tryz.aaD:Go.Proofs.Lays.n103 Tryz.prog Tryz.L6:={
 mixed:=by kernel_rfl
 f103:=Tryz.func92.trans fX
 f206:=Tryz.func147.trans fX
 f210:=Tryz.func121.trans fX
 t3:=Tryz.underlying3
 a3:=Tryz.isAgg3
 z3:=Tryz.sizeOf3
 v3:=Tryz.zeroValue3
 t4:=Tryz.underlying4
 a4:=Tryz.isAgg4
 z4:=Tryz.sizeOf4
 v4:=Tryz.zeroValue4
 t9:=Tryz.underlying9
 a9:=Tryz.isAgg9
 z9:=Tryz.sizeOf9
 v9:=Tryz.zeroValue9
 t24:=Tryz.underlying215
 a24:=Tryz.isAgg215
 z24:=Tryz.sizeOf215
 v24:=Tryz.zeroValue215 }
open Go.RowKit in
theorem Tryz.strings_CutPrefix (s p:ByteArray) (w:World) :
  Calls Tryz.prog 92 #[.string s,.string p] w fun e w'=>e=.returned (.tuple #[.string ⟨(Lib.trimPrefix s.data.toList p.data.toList).toArray⟩,.bool (Lib.hasPrefix s.data.toList p.data.toList)])/\w'=w:=Any.strings_CutPrefix Tryz.aaD s p w
def Tryz.L8:Go.Shelf.Ren:=⟨fun|122=>97|215=>132|n=>n,fun|3=>3|4=>4|n=>n,fun|n=>n⟩
theorem Tryz.aaE:Go.Proofs.Lays.n122 Tryz.prog Tryz.L8:={
 mixed:=by kernel_rfl
 f122:=Tryz.func97.trans fX
 f215:=Tryz.func132.trans fX
 t3:=Tryz.underlying3
 a3:=Tryz.isAgg3
 z3:=Tryz.sizeOf3
 v3:=Tryz.zeroValue3
 t4:=Tryz.underlying4
 a4:=Tryz.isAgg4
 z4:=Tryz.sizeOf4
 v4:=Tryz.zeroValue4 }
open Go.RowKit in
theorem Tryz.cmp_Compare_int (x y:Int) (w:World) :
  Calls Tryz.prog 97 #[.int .i64 x,.int .i64 y] w fun e w'=>e=.returned (.int .i64 (Lib.compareInt x y))/\w'=w:=Any.cmp_Compare_int Tryz.aaE x y w
def Tryz.IW:Go.Shelf.Ren:=⟨fun|17=>100|15=>134|20=>154|n=>n,fun|9=>9|23=>226|4=>4|3=>3|0=>0|21=>21|n=>n,fun|n=>n⟩
theorem Tryz.Xb:Go.Proofs.LaysGw.n17 Tryz.prog Tryz.IW:={
 mixed:=by kernel_rfl
 f15:=Tryz.func134.trans fX
 f17:=Tryz.func100.trans fX
 f20:=Tryz.func154.trans fX
 t0:=Tryz.underlying0
 a0:=Tryz.isAgg0
 z0:=Tryz.sizeOf0
 v0:=Tryz.zeroValue0
 i0:=by kernel_rfl
 t3:=Tryz.underlying3
 a3:=Tryz.isAgg3
 z3:=Tryz.sizeOf3
 v3:=Tryz.zeroValue3
 i3:=by kernel_rfl
 t4:=Tryz.underlying4
 a4:=Tryz.isAgg4
 z4:=Tryz.sizeOf4
 v4:=Tryz.zeroValue4
 i4:=by kernel_rfl
 t9:=Tryz.underlying9
 a9:=Tryz.isAgg9
 z9:=Tryz.sizeOf9
 v9:=Tryz.zeroValue9
 i9:=by kernel_rfl
 t21:=Tryz.underlying21
 a21:=Tryz.isAgg21
 z21:=Tryz.sizeOf21
 v21:=Tryz.zeroValue21
 i21:=by kernel_rfl
 t23:=Tryz.underlying226
 a23:=Tryz.isAgg226
 z23:=Tryz.sizeOf226
 v23:=Tryz.zeroValue226
 i23:=by kernel_rfl }
open Go.RowKit Go.Lib in
theorem Tryz.strings_ContainsFunc (g:Nat) (lb:Array Value) (h:∀ args w,(callFunc g args).run Tryz.prog w=.ok (.enter g args) w) (p:Nat->Bool) (s:ByteArray) (w:World) (I:PredAt Tryz.prog g lb encR p w) :
  Calls Tryz.prog 100 #[.string s,.func (.func g) #[] lb] w fun e w'=>e=.returned (.bool (decide (0<=Lib.idxFunc p true s)))/\Below w.heap.size w w':=Any.strings_ContainsFunc Tryz.Xb g lb h p s w I
def Tryz.Ol:Go.Shelf.Ren:=⟨fun|99=>135|206=>147|n=>n,fun|9=>9|4=>4|3=>3|n=>n,fun|n=>n⟩
theorem Tryz.ac0:Go.Proofs.Lays.n99 Tryz.prog Tryz.Ol:={
 mixed:=by kernel_rfl
 f99:=Tryz.func135.trans fX
 f206:=Tryz.func147.trans fX
 t3:=Tryz.underlying3
 a3:=Tryz.isAgg3
 z3:=Tryz.sizeOf3
 v3:=Tryz.zeroValue3
 t4:=Tryz.underlying4
 a4:=Tryz.isAgg4
 z4:=Tryz.sizeOf4
 v4:=Tryz.zeroValue4
 t9:=Tryz.underlying9
 a9:=Tryz.isAgg9
 z9:=Tryz.sizeOf9
 v9:=Tryz.zeroValue9 }
open Go.RowKit Go.Lib in
theorem Tryz.strings_HasPrefix (s p:ByteArray) (w:World) :
  Calls Tryz.prog 135 #[.string s,.string p] w fun e w'=>e=.returned (.bool (Lib.hasPrefix s.data.toList p.data.toList))/\w'=w:=Any.strings_HasPrefix Tryz.ac0 s p w
def Tryz.uG:Go.Shelf.Ren:=⟨fun|197=>138|260=>157|n=>n,fun|9=>9|21=>21|3=>3|4=>4|5=>5|105=>267|119=>295|0=>0|46=>221|139=>298|138=>297|n=>n,fun|3=>2|4=>3|n=>n⟩
theorem Tryz.aaF:Go.Proofs.Lays.n197 Tryz.prog Tryz.uG:={
 mixed:=by kernel_rfl
 f197:=Tryz.func138.trans fX
 f260:=Tryz.func157.trans fX
 t0:=Tryz.underlying0
 a0:=Tryz.isAgg0
 z0:=Tryz.sizeOf0
 v0:=Tryz.zeroValue0
 t3:=Tryz.underlying3
 a3:=Tryz.isAgg3
 z3:=Tryz.sizeOf3
 v3:=Tryz.zeroValue3
 t4:=Tryz.underlying4
 a4:=Tryz.isAgg4
 z4:=Tryz.sizeOf4
 v4:=Tryz.zeroValue4
 t5:=Tryz.underlying5
 a5:=Tryz.isAgg5
 z5:=Tryz.sizeOf5
 v5:=Tryz.zeroValue5
 t9:=Tryz.underlying9
 a9:=Tryz.isAgg9
 z9:=Tryz.sizeOf9
 v9:=Tryz.zeroValue9
 t21:=Tryz.underlying21
 a21:=Tryz.isAgg21
 z21:=Tryz.sizeOf21
 v21:=Tryz.zeroValue21
 t46:=Tryz.underlying221
 a46:=Tryz.isAgg221
 z46:=Tryz.sizeOf221
 v46:=Tryz.zeroValue221
 t105:=Tryz.underlying267
 a105:=Tryz.isAgg267
 z105:=Tryz.sizeOf267
 v105:=Tryz.zeroValue267
 t119:=Tryz.underlying295
 a119:=Tryz.isAgg295
 z119:=Tryz.sizeOf295
 t138:=Tryz.underlying297
 a138:=Tryz.isAgg297
 z138:=Tryz.sizeOf297
 v138:=Tryz.zeroValue297
 t139:=Tryz.underlying298
 a139:=Tryz.isAgg298
 z139:=Tryz.sizeOf298
 v139:=Tryz.zeroValue298
 g3:=by kernel_rfl
 g4:=by kernel_rfl }
def Tryz.uH:Go.Shelf.Ren:=⟨fun|262=>142|313=>159|274=>165|275=>166|n=>n,fun|3=>3|21=>21|162=>289|203=>287|4=>4|160=>299|46=>221|0=>0|208=>306|51=>29|206=>304|n=>n,fun|13=>1|n=>n⟩
theorem Tryz.aaG:Go.Proofs.Lays.n262 Tryz.prog Tryz.uH:={
 mixed:=by kernel_rfl
 f262:=Tryz.func142.trans fX
 f274:=Tryz.func165.trans fX
 f275:=Tryz.func166.trans fX
 f313:=Tryz.func159.trans fX
 t0:=Tryz.underlying0
 a0:=Tryz.isAgg0
 z0:=Tryz.sizeOf0
 v0:=Tryz.zeroValue0
 t3:=Tryz.underlying3
 a3:=Tryz.isAgg3
 z3:=Tryz.sizeOf3
 v3:=Tryz.zeroValue3
 t4:=Tryz.underlying4
 a4:=Tryz.isAgg4
 z4:=Tryz.sizeOf4
 v4:=Tryz.zeroValue4
 t21:=Tryz.underlying21
 a21:=Tryz.isAgg21
 z21:=Tryz.sizeOf21
 v21:=Tryz.zeroValue21
 t46:=Tryz.underlying221
 a46:=Tryz.isAgg221
 z46:=Tryz.sizeOf221
 v46:=Tryz.zeroValue221
 t51:=Tryz.underlying29
 a51:=Tryz.isAgg29
 z51:=Tryz.sizeOf29
 v51:=Tryz.zeroValue29
 t160:=Tryz.underlying299
 a160:=Tryz.isAgg299
 z160:=Tryz.sizeOf299
 v160:=Tryz.zeroValue299
 t162:=Tryz.underlying289
 a162:=Tryz.isAgg289
 z162:=Tryz.sizeOf289
 v162:=Tryz.zeroValue289
 t203:=Tryz.underlying287
 a203:=Tryz.isAgg287
 z203:=Tryz.sizeOf287
 v203:=Tryz.zeroValue287
 t206:=Tryz.underlying304
 a206:=Tryz.isAgg304
 z206:=Tryz.sizeOf304
 v206:=Tryz.zeroValue304
 t208:=Tryz.underlying306
 a208:=Tryz.isAgg306
 z208:=Tryz.sizeOf306
 v208:=Tryz.zeroValue306
 g13:=by kernel_rfl }
open Go.RowKit Go.Lib in
theorem Tryz.strings_ToLower_any (s:ByteArray) (w:World) (h:s.size<35184372088832) (I:CaseVar 1 caseA w) (J:Lib.Utf8Tabs 2 3 w) :
  Calls Tryz.prog 84 #[.string s] w fun e w'=>e=.returned (.string ⟨(Lib.toLowerD s.data.toList).toArray⟩)/\Below w.heap.size w w':=Any.strings_ToLower_any Tryz.aaz Tryz.yM s w h I J
end Go.Proofs
namespace Go.CH
open Go.RowKit
open Go.ChangeMaps (setBlock)
section
variable {P:Program}
theorem Tk (a b:ByteArray):(a==b)=decide (a=b):=by
 rw[tg,Go.MapKept.bytes_beq];simp
theorem toList_inj {a b:ByteArray}:a.toList=b.toList↔a=b:=by
 constructor
 ·intro h;rw[Cf,Cf] at h;cases a;cases b;simp at h;rw[h]
 ·rintro rfl;rfl
theorem wN (a b:ByteArray):(a.toList==b.toList)=decide (a=b):=by
 rw[tg,beq_iff_eq,toList_inj];simp
end
section
variable {α:Type} [DecidableEq α] {P:Program} {kv:α→Value} {t K E:TypeId}
variable {b:Nat}{w:World}{F:Nat->Prop}{v:Value}
theorem qR (H:oN P K kv) (ht:P.underlying t=some (.map K E))  {l:List (α × Value)}   (h:jo kv b l w F) (k:α) (v:Value) :
  ∃ w',(Instr.mapUpdate t (.map (some b)) (kv k) v).run P w=.ok () w'/\bT w F (jo kv b (mh l k v)) w':=by
 obtain⟨⟨es,J,h1,h2⟩,hF⟩:=h;obtain⟨M,I,h3,h4⟩:=vR H ht h2 b k v;exact⟨_,h4 w h1,F,⟨⟨M,I,kD h1,h3⟩,hF⟩,(Mod.refl _ _).setBlock _ (fun _=>(hF b).2 rfl),fun i hi=>.inl hi⟩
theorem yN {z:Value} (H:oN P K kv) (M:P.underlying t=some (.map K E)) (hz:∀ w,(zeroValue E).run P w=.ok z w)  {l:List (α × Value)}   (h:jo kv b l w F) (k:α) :
  (Instr.lookup t (.map (some b)) (kv k) false).run P w=.ok ((nV l k).getD z) w:=by
 obtain⟨⟨es,I,h1,J⟩,hF⟩:=h;exact Df H M hz J k w h1
theorem qU {l:List (α × Value)} {k:α}  (h:k ∉ l.map (·.1)):mh l k v=l++[(k,v)]:=by
 cases hf:wT k l 0 with
 | none=>exact(xW hf).2 v
 | some p=>
  obtain⟨j,u⟩:=p;obtain⟨n,h1,h2,h3⟩:=xX hf;exact absurd (List.mem_map.2 ⟨(k,u),pS h2,rfl⟩) h
theorem DR {k:α}:∀ {l:List (α × Value)},k ∉ l.map (·.1)->nV l k=none
 | [],_=>rfl
 | (a,u)::l,h=>by
  simp only[lk,pA,not_or] at h;rw[qL,if_neg h.1,DR h.2]
theorem L9 {k:α} {v:Value}:∀ {l:List α},nV (l.map fun x=>(x,v)) k=if k ∈ l then some v else none
 | []=>rfl
 | a::l=>by
  rw[lk,qL,L9];by_cases h:k=a
  ·simp[h]
  ·simp[h]
end
section
variable {P:Program}
variable {t e:TypeId}{z v:Value}{n c:Nat}{xs news:List Value}{A:eV}{a:Act}{K:Act->World->Prop}{Q:Exit->Act->World->Prop}
theorem TY   {size bytes:Nat} (S:eB P t e z size bytes) (ty:TypeId) (w:World) (base:Nat)    (I:w.ownsRow base e size v n xs)
   {m:Nat}  (hs:Src w A m size news) (af:n+m<=maxLen) (hb:(n+m)*bytes<=140737488355328) (J:base<=w.heap.size) :
  ∃ M w',(Builtin.append_ #[t,t] ty #[v,.slice A m c]).run P w=.ok M w'/\w'.ownsRow base e size M (n+m) (xs++news)/\w.grownBy w' v.ownBlock /\
   (M.ownBlock=v.ownBlock\/M.ownBlock=some w.heap.size):=by
 obtain⟨ht,hi,hz,ab⟩:=S;obtain⟨i,hi,ae,ac,aa⟩:=info_parts hi;cases A with
 | some ad=>
  obtain⟨M,w',h1,h2,h3,_,h5⟩:=run_append_own_at (P:=P) w base t ty e i z size bytes ht hi ae ac aa hz ab v n xs I ad m c news hs.1 (hs.cells rfl) hs.2.1 af hb J;exact⟨M,w',h1,h2,h3,h5⟩
 | none=>
  have hm:m=0:=by
   rcases Fl m with h0|h0
   ·exact h0
   ·obtain⟨ad,h,_⟩:=hs.2.2 h0;cases h
  subst hm;have hn:news=[]:=sC (by simpa using hs.1);subst hn;refine⟨v,w,?_,by simpa using I,⟨rfl,rfl,rfl,fy _,fun _ _ _=>rfl⟩,.inl rfl⟩;rcases I.2 with⟨rfl,rfl⟩|⟨g,cap,cur,rfl,_,_,ag,_⟩
  ·simp[Builtin.append_,run_underlying ht,sizeOf,typeInfo,hi,Builtin.lenOf,Builtin.firstCells]
  ·simp[Builtin.append_,run_underlying ht,sizeOf,typeInfo,hi,Builtin.lenOf,Builtin.firstCells,ag,storeCells]
theorem wY {o:Oper}    (s x:Operand) 
  (ho:o.op=.call { callee:=.builtin .append,args:=#[s,x],argTypes:=#[t,t] })
    {size bytes:Nat} (S:eB P t e z size bytes) (w:World) (base:Nat)    (hsv:a.eval s=v) (hown:w.ownsRow base e size v n xs)
   {m:Nat}  (hx:a.eval x=.slice A m c) (hs:Src w A m size news) (h63:n+m<=maxLen) (hb:(n+m)*bytes<=140737488355328) (hbase:base<=w.heap.size)
  (h:∀ I w',w'.ownsRow base e size I (n+m) (xs++news)->w.grownBy w' v.ownBlock->(I.ownBlock=v.ownBlock\/I.ownBlock=some w.heap.size)->K (a.put o.dst I) w'):o.wp P a w K Q:=by
 obtain⟨I,w',J,M,h3,h4⟩:=TY S o.type w base hown (c:=c) hs h63 hb hbase;unfold Oper.wp execOp;simp only[ho,resolve,invoke,builtin,j9,kz,kx,zE,lk,pH,hsv,hx,J];exact h I w' M h3 h4
theorem Am {ops:Array Oper} {rest:List Oper} {o:Oper}   (J:o.guard=none) (s x:Operand) 
  (ho:o.op=.call { callee:=.builtin .append,args:=#[s,x],argTypes:=#[t,t] })
    {size bytes:Nat} (S:eB P t e z size bytes) (w:World) (base:Nat)    (hsv:a.eval s=v) (hown:w.ownsRow base e size v n xs)
   {m:Nat}  (hx:a.eval x=.slice A m c) (hs:Src w A m size news) (h63:n+m<=maxLen) (hb:(n+m)*bytes<=140737488355328) (hbase:base<=w.heap.size)
  (h:∀ I w',w'.ownsRow base e size I (n+m) (xs++news)->w.grownBy w' v.ownBlock->(I.ownBlock=v.ownBlock\/I.ownBlock=some w.heap.size)->wpList P ops Q rest (a.put o.dst I) w'):wpList P ops Q (o::rest) a w:=
 wpList_plain J fun _ hK=>wY s x ho S w base hsv hown hx hs h63 hb hbase fun I w' M h3 h4=>hK _ _ (h I w' M h3 h4)
end
def lQ {α:Type} (O:α->aT):aT:=fun w F=>∃ x,O x w F
theorem bX {α:Type} {O:α->aT} (h:∀ x,(O x).Ok):(lQ O).Ok:=⟨fun⟨c,h1⟩=>(h c).lt h1,fun⟨c,h1⟩ hk=>⟨c,(h c).keep h1 hk⟩⟩
instance {α:Type} {O:α→aT} [h:∀ x,(O x).Ok]:(lQ O).Ok:=bX h
variable {F0:Nat->Prop}{w0 W:World}{O:aT}
theorem aI.ex {α:Type} {O:α->aT} {R:aT}   (h:aI F0 w0 (aj (lQ O) R) W):∃ x,aI F0 w0 (aj (O x) R) W:=by
 obtain⟨⟨F,⟨F1,F2,⟨c,g1⟩,g2,g3,g4⟩,hF⟩,hm⟩:=h;exact⟨c,⟨⟨F,⟨F1,F2,g1,g2,g3,g4⟩,hF⟩,hm⟩⟩
theorem aI.nT {α:Type} {O:α->aT} {R:aT}   (x:α) (h:aI F0 w0 (aj (O x) R) W):aI F0 w0 (aj (lQ O) R) W:=
 h.imp fun _ _ hh=>bD hh (fun _ h=>⟨x,h⟩) (fun _ h=>h)
def sM (p:Prop) (O:aT):aT:=fun w F=>p/\O w F
theorem gG {p:Prop}  (h:O.Ok):(sM p O).Ok:=⟨fun h1=>h.lt h1.2,fun h1 hk=>⟨h1.1,h.keep h1.2 hk⟩⟩
instance {p:Prop} {O:aT} [h:O.Ok]:(sM p O).Ok:=gG h
theorem aI.pure {p:Prop} {R:aT}   (h:aI F0 w0 (aj (sM p O) R) W):p/\aI F0 w0 (aj O R) W:=by
 obtain⟨⟨F,⟨F1,F2,⟨c,g1⟩,g2,g3,g4⟩,hF⟩,hm⟩:=h;exact⟨c,⟨⟨F,⟨F1,F2,g1,g2,g3,g4⟩,hF⟩,hm⟩⟩
theorem aI.iQ {p:Prop} {R:aT}   (hp:p) (h:aI F0 w0 (aj O R) W):aI F0 w0 (aj (sM p O) R) W:=
 h.imp fun _ _ hh=>bD hh (fun _ h=>⟨hp,h⟩) (fun _ h=>h)
def vy:aT:=fun _ _=>False
theorem Fu:vy.Ok:=⟨fun h=>h.elim,fun h=>h.elim⟩
instance  : vy.Ok:=Fu
theorem aI.no {R:aT}   (h:aI F0 w0 (aj vy R) W):False:=by
 obtain⟨⟨F,⟨F1,F2,g1,g2,g3,g4⟩,hF⟩,hm⟩:=h;exact g1
theorem UE (W:World) (v:Value) (t:TypeId) (h:v.oneCell'=true):Src (W.alloc (.cells #[v] t)) (some ⟨W.heap.size,0,none⟩) 1 1 [v]:=Src.one (heap_alloc_new W _) h
section
variable {P:Program}
inductive Flat (P:Program):TypeId->Value->Prop
 | int {t:TypeId} {k:IntKind} (h:P.underlying t=some (.int k)) (a:Int):Flat P t (.int k a)
 | str {t:TypeId} (h:P.underlying t=some .string) (a:ByteArray):Flat P t (.string a)
 | bool {t:TypeId} (h:P.underlying t=some .bool) (a:Bool):Flat P t (.bool a)
def CY:Value->Value->Bool
 | .int _ a,.int _ b=>a==b
 | .string a,.string b=>a==b
 | .bool a,.bool b=>a==b
 | _,_=>false
variable {t:TypeId}{j:Nat}{xs ys:Array Value}{fs:Array Field}{a:Act}{w:World}{K:Act->World->Prop}{Q:Exit->Act->World->Prop}{v:Value}
theorem PU  {x y:Value} (J:Flat P t x) (I:Flat P t y) (n:Nat) (w:World):(Op.equalIn (n+1) t x y).run P w=.ok (CY x y) w:=by
 cases J with
 | int h a=>cases I with
  | int h2 b=>rw[h] at h2;injection h2 with h2;injection h2 with h2;subst h2;simp[Op.equalIn,run_underlying h,CY]
  | str h2=>rw[h] at h2;cases h2
  | bool h2=>rw[h] at h2;cases h2
 | str h a=>cases I with
  | int h2=>rw[h] at h2;cases h2
  | str h2=>simp[Op.equalIn,run_underlying h,CY]
  | bool h2=>rw[h] at h2;cases h2
 | bool h a=>cases I with
  | int h2=>rw[h] at h2;cases h2
  | str h2=>rw[h] at h2;cases h2
  | bool h2=>simp[Op.equalIn,run_underlying h,CY]
theorem zR  {x:Value} (hx:Flat P t x) {cs:Array Value}  (hv:cs[j]?=some x) (w:World):(part t cs j).run P w=.ok x w:=by
 cases hx with
 | int h a=>simp[part,isAgg,run_underlying h,hv]
 | str h a=>simp[part,isAgg,run_underlying h,hv]
 | bool h a=>simp[part,isAgg,run_underlying h,hv]
theorem CZ  {x:Value} (hx:Flat P t x) (e:Bool) (n:Nat) (w:World):(Instr.checkKey e (n+1) t x).run P w=.ok () w:=by
 cases hx with
 | int h a=>simp[Instr.checkKey,run_underlying h]
 | str h a=>simp[Instr.checkKey,run_underlying h]
 | bool h a=>simp[Instr.checkKey,run_underlying h]
def pO (P:Program) (fs:List Field) (cs:Array Value):Prop:=∀ f ∈ fs,f.name ≠ "_" /\∃ v,cs[f.offset]?=some v/\Flat P f.type v
def oL (fs:List Field) (xs ys:Array Value):Bool:=fs.all fun f=>match xs[f.offset]?,ys[f.offset]? with|some x,some y=>CY x y|_,_=>false
theorem ZF  (n:Nat) (w:World):∀ fs:List Field,pO P fs xs->pO P fs ys ->
  (forIn fs ((none,()):Option Bool × Unit) (fun f ac=>
   if f.name ≠ "_" then do
    let a <-part f.type xs f.offset
    let b <-part f.type ys f.offset
    let c <-Op.equalIn (n+1) f.type a b
    if(!c)=true then pure (ForInStep.done (some false,())) else pure (ForInStep.yield (none,()))
   else pure (ForInStep.yield (none,()))):Sem (Option Bool × Unit)).run P w=.ok (if oL fs xs ys=true then(none,()) else(some false,())) w:=by
 intro fs
 induction fs with
 | nil=>intro _ _;rfl
 | cons f fs ih=>
  intro hx hy;obtain⟨hn,x,J,M⟩:=hx f (mz ..);obtain⟨-,y,aa,I⟩:=hy f (mz ..);have ab:=ih (fun g hg=>hx g (pP _ hg)) (fun g hg=>hy g (pP _ hg));rw[GB];simp only[if_pos hn,j9,zR M J,zR I aa,PU M I,kx];have e:oL (f::fs) xs ys=(CY x y&&oL fs xs ys):=by
   unfold oL;rw[C0,J,aa]
  rw[e];cases h:CY x y with
  | false=>simp[kz]
  | true=>simp[kz];simpa using ab
theorem zT {K:TypeId}  (M:P.underlying K=some (.struct fs)) (hh:P.stoodInHeld K=false)  (I:pO P fs.toList xs) (J:pO P fs.toList ys) (n:Nat) (w:World) :
  (Op.equalIn (n+2) K (.agg xs) (.agg ys)).run P w=.ok (oL fs.toList xs ys) w:=by
 unfold Op.equalIn;simp only[j9,run_underlying M,kx,run_program,hh,kO,if_false,kz];rw[<-Array.forIn_toList,ZF n w fs.toList I J];cases h:oL fs.toList xs ys<;>simp[kz]
theorem Ny  (e:Bool) (n:Nat) (w:World):∀ fs:List Field,pO P fs xs ->
  (forIn fs () (fun f aa=>
   if f.name ≠ "_" then do
    let a <-part f.type xs f.offset
    Instr.checkKey e (n+1) f.type a
    pure (ForInStep.yield ())
   else pure (ForInStep.yield ())):Sem Unit).run P w=.ok () w:=by
 intro fs
 induction fs with
 | nil=>intro _;rfl
 | cons f fs ih=>
  intro M;obtain⟨hn,x,I,h⟩:=M f (mz ..);have J:=ih (fun g hg=>M g (pP _ hg));rw[GB];simp only[if_pos hn,j9,zR h I,CZ h,kx,kz];exact J
theorem Ik {K:TypeId}  (J:P.underlying K=some (.struct fs))  (I:pO P fs.toList xs) (e:Bool) (n:Nat) (w:World) :
  (Instr.checkKey e (n+2) K (.agg xs)).run P w=.ok () w:=by
 unfold Instr.checkKey;simp only[j9,run_underlying J,kx];rw[<-Array.forIn_toList];have h:=Ny e n w fs.toList I;refine Eq.trans (congrArg (fun z=>Result.andThen z _) h) ?_;simp[kz]
theorem rP {α:Type} [DecidableEq α] {K:TypeId}  (M:P.underlying K=some (.struct fs)) (hh:P.stoodInHeld K=false) {cs:α->Array Value} (I:∀ a,pO P fs.toList (cs a))
  (J:∀ a b,oL fs.toList (cs a) (cs b)=decide (a=b)) (h:∀ a,Instr.sameBits 10000 (.agg (cs a)) (.agg (cs a))=true):oN P K (fun a=>.agg (cs a)):=by
 refine⟨fun a b w=>?_,fun e a w=>Ik M (I a) e 9998 w,h,_,M,fun a b=>.inl rfl⟩;rw[Op.equal,Op.maxDepth,zT M hh (I a) (I b) 9998 w,J]
theorem ZG {K:TypeId}  (J:P.underlying K=some (.struct fs)) (M:P.stoodInHeld K=false)  (h:pO P fs.toList xs) (I:pO P fs.toList ys) (w:World) :
  (binOp .eql K (.agg xs) (.agg ys)).run P w=.ok (.bool (oL fs.toList xs ys)) w:=by
 simp only[binOp,Op.equal,Op.maxDepth,j9,Sem.run_map,zT J M h I 9998 w,kx,kz]
theorem ZH {K:TypeId}  (J:P.underlying K=some (.struct fs)) (M:P.stoodInHeld K=false)  (h:pO P fs.toList xs) (I:pO P fs.toList ys) (w:World) :
  (binOp .neq K (.agg xs) (.agg ys)).run P w=.ok (.bool (!oL fs.toList xs ys)) w:=by
 simp only[binOp,Op.equal,Op.maxDepth,j9,Sem.run_map,zT J M h I 9998 w,kx,kz]
theorem C8 {o:Oper}     {J:TypeId} {x y:Operand}   (ho:o.op=.binOp .eql t x y J) (I:a.eval x=.agg xs) (M:a.eval y=.agg ys)
  (hm:P.eqGuardType P.depth t=false) (h:(binOp .eql t (.agg xs) (.agg ys)).run P w=.ok v w) (hK:K (a.put o.dst v) w):o.wp P a w K Q:=by
 unfold Oper.wp execOp;simp only[ho,I,M,j9,run_eqGuard_agg w .eql t x y xs ys hm,kx,h,kz];exact hK
end
def Qf {α:Type} (P:Program) (gf:Nat) (lb:Array Value) (E:World->Prop) (h:aT) (enc:α->Array Value) (xs:List α):Prop:=
 ∀ (n l:Nat) (W:World) (F0:Nat->Prop) (w0:World) (X:Nat->aT) (Y:aT),(∀ i,(X i).Ok)->Y.Ok->(∀ W,Mod F0 w0 W->E W)->aI F0 w0 (aj h (X 0)) W ->
  (∀ Z:aT,Z.Ok->∀ i (hi:i<xs.length) W1,aI F0 w0 (aj Z (X i)) W1->YieldAt Fence.wide (n-1) P l (enc xs[i]) W1 fun e W'=>
   (e=.returned (.bool true)/\aI F0 w0 (aj Z (X (i+1))) W')\/(e=.returned (.bool false)/\aI F0 w0 (aj Z Y) W')) ->
  CallsIn Fence.wide n P gf (#[.func (.yield l) #[] #[]]++lb) W fun e W'=>(∃ v,e=.returned v)/\∃ Z:aT,Z.Ok/\(aI F0 w0 (aj Z (X xs.length)) W'\/aI F0 w0 (aj Z Y) W')
variable {assign:Code}{Q:Exit->Act->World->Prop}{a:Act}{w:World}
theorem oQ {α:Type} {P:Program} {g:Operand} {ps:Array Tmp} {body:Code}    {gf:Nat} {lb:Array Value}
  (hg:a.eval g=.func (.func gf) #[] lb) (eg:∀ args w,(callFunc gf args).run P w=.ok (.enter gf args) w) {E:World->Prop} {Z0:aT} {enc:α->Array Value} {xs:List α}
  (al:Qf P gf lb E Z0 enc xs) (aq:Z0.Ok) (am:∀ x,(enc x).size=ps.size)
    (hE:∀ W,Mod F0 w0 W->E W) (I:Nat->aT) (Ix:Code->aT) (hI:∀ i,(I i).Ok) (I2:Nat->Act->aT) (ag:∀ i a,(I2 i a).Ok) (ac:∀ c,(Ix c).Ok) (h0:aI F0 w0 (aj Z0 (I 0)) w)
  (ab:∀ (l m i:Nat) (hi:i<xs.length) (R:aT) (W:World) (K:Act->World->Prop),R.Ok->aI F0 w0 (aj (I i) R) W->(∀ a' W',aI F0 w0 (aj (I2 i a') R) W'->K a' W') ->
   assign.wpIn (Fence.wide.inRound l) m P (Exit.then K (fun _ _ _=>False)) { tmps:=(ps.zip (enc xs[i])).foldl (fun t (p,v)=>t.setIfInBounds p v) a.tmps,defers:=[] } W)
  (hbody:∀ (l m i:Nat) (hi:i<xs.length) (a':Act) (R:aT) (W:World),R.Ok->aI F0 w0 (aj (I2 i a') R) W->body.wpIn (Fence.wide.inRound l) m P (IE F0 w0 R (I (i+1)) Ix) a' W)
  (hdone:∀ (D:Nat) (R:aT) (W:World),R.Ok->aI F0 w0 (aj (I xs.length) (aj (aW D (.deferred (some []))) R)) W->Q .normal { a with defers:={ target:=.collected D,args:=#[] } :: a.defers } W)
  (hstop:∀ (D:Nat) (c:Code) (R:aT) (W:World),R.Ok->aI F0 w0 (aj (Ix c) (aj (aW D (.deferred (some []))) R)) W->c.wp P Q { a with defers:={ target:=.collected D,args:=#[] } :: a.defers } W) :
  (Code.rangeFunc g ps assign body).wp P Q a w:=by
 refine(wpIn_wide (n:=8)).1 ?_;refine wpIn_rangeFunc ?_;intro fn ak;obtain⟨J,aa⟩:∃ J:LoopState->Option Code->Loop,J=fun st pe=>{ state:=st,pending:=pe,fn,tmps:=a.tmps,params:=ps,assign,body,defers:=w.heap.size }:=⟨_,rfl⟩;obtain⟨W1,af⟩:∃ W1,(w.alloc (.deferred (some []))).alloc (.loop (J .ready none))=W1:=⟨_,rfl⟩;obtain⟨l,hl⟩:∃ l,l=w.heap.size+1:=⟨_,rfl⟩;obtain⟨D,hD⟩:∃ D,D=w.heap.size:=⟨_,rfl⟩;have R1:aI F0 w0 (aj Z0 (aj (aW l (.loop (J .ready none))) (aj (aW D (.deferred (some []))) (I 0)))) W1:=by
  have o1:=aB aq (hI 0);have h1:=h0.fresh o1 (uZ w (.deferred (some [])));have h2:=h1.fresh (aB bg o1) (uZ (w.alloc (.deferred (some []))) (.loop (J .ready none)));have e1:(w.alloc (.deferred (some []))).heap.size=l:=by rw[hl];simp
  rw[e1,<-hD] at h2;rw[af] at h2;exact h2.perm (by ac_rfl)
 have aw:(aW D (.deferred (some []))).Ok:=bg
 refine⟨l,[{ target:=.collected w.heap.size,args:=#[] }],W1,{ target:=.fn (.func gf) lb,args:=#[.func (.yield l) #[] #[]] },W1,gf,
  #[.func (.yield l) #[] #[]]++lb,W1,?_,?_,?_,?_,fun _=>by omega,?_⟩
 ·rw[<-af,aa,hl];exact run_enterLoop_outer _ _ _ _ _
 ·simp only[resolve,hg];simp[go_sem]
 ·intro f' az;trivial
 ·simp[invoke,go_sem,eg]
 ·refine(al (8-1) l W1 F0 w0 (fun i=>aj (aW l (.loop (J .ready none))) (aj (aW D (.deferred (some []))) (I i)))
   (D1 fun c=>aj (aW l (.loop (J .done (some c)))) (aj (aW D (.deferred (some []))) (Ix c)))
   (fun i=>aB bg (aB bg (hI i))) (IC fun c=>aB bg (aB bg (ac c))) hE R1 ?_).mono ?_
  ·-- one round
   intro Z hZ i hi W hR;have ai:(aj (aW D (.deferred (some []))) (aj Z (I i))).Ok:=aB bg (aB hZ (hI i));have ae:=hR.perm (by ac_rfl:_=aj (aW l (.loop (J .ready none))) (aj (aW D (.deferred (some []))) (aj Z (I i))));obtain⟨FL,hL,-,bk⟩:=ae.take bg ai;have hy:=run_yield (P:=P) (args:=enc xs[i]) hL.1 (by rw[aa];exact am _);rw[aa] at hy;refine⟨fn,_,assign,body,hy,roundIn_of_wpIn ak (ab l _ i hi (aj (aW l (.loop (J .ready none))) (aj (aW D (.deferred (some []))) Z)) W _ aO (ae.perm (by ac_rfl)) ?_)⟩;intro a' W' ao;obtain⟨ax,ad,-,ap⟩:=(ao.perm (by ac_rfl:_=aj (aW l (.loop (J .ready none))) (aj (aW D (.deferred (some []))) (aj Z (I2 i a'))))).take bg (aB bg (aB hZ (ag i a')));refine⟨_,run_beginRound ad.1 (by rw[aa]),?_⟩;have hB:=ap _ _ (fH ad (.loop { J .ready none with state:=.busy }));have ar:(aj (aW l (.loop { J .ready none with state:=.busy })) (aj (aW D (.deferred (some []))) Z)).Ok:=aB bg aO;refine wpIn_mono (hbody l _ i hi a' (aj (aW l (.loop { J .ready none with state:=.busy })) (aj (aW D (.deferred (some []))) Z)) _ ar (hB.perm (by ac_rfl))) ?_;have fin:∀ (M:Option Code) (W3:World) (O:aT),O.Ok->aI F0 w0 (aj O (aj (aW l (.loop { J .ready none with state:=.busy })) (aj (aW D (.deferred (some []))) Z))) W3 ->
     ∃ W4,(Instr.endRound l M).run P W3=.ok (.bool M.isNone) W4/\aI F0 w0 (aj Z (aj (aW l (.loop (J (if M.isNone then .ready else .done) M))) (aj (aW D (.deferred (some []))) O))) W4:=fun M W3 O hO h3=>by
    have h4:=h3.perm (by ac_rfl:_=aj (aW l (.loop { J .ready none with state:=.busy })) (aj (aW D (.deferred (some []))) (aj Z O)));obtain⟨FL,hL,-,bk⟩:=h4.take bg (aB bg (aB hZ hO));refine⟨_,run_endRound (P:=P) M hL.1,?_⟩;have h5:=bk _ _ (fH hL (.loop { { J .ready none with state:=.busy } with state:=if M.isNone then .ready else .done,pending:=M }));have e5:({ { J .ready none with state:=.busy } with state:=if M.isNone then .ready else .done,pending:=M }:Loop)=J (if M.isNone then .ready else .done) M:=by rw[aa]
    rw[e5] at h5 ⊢;exact h5.perm (by ac_rfl)
   rintro e a3 W3 hp;cases e with
   | normal=>
    obtain⟨W4,h4,h5⟩:=fin none W3 _ (hI (i+1)) hp;exact⟨_,_,h4,.inl ⟨rfl,h5⟩⟩
   | ret=>
    obtain⟨W4,h4,h5⟩:=fin (some .ret) W3 _ (ac .ret) hp;exact⟨_,_,h4,.inr ⟨rfl,h5.imp fun w F hh=>bD hh (fun _ h=>h) (fun _ h=>⟨.ret,h⟩)⟩⟩
   | exit id=>
    obtain⟨W4,h4,h5⟩:=fin (some (.exit id)) W3 _ (ac (.exit id)) hp;exact⟨_,_,h4,.inr ⟨rfl,h5.imp fun w F hh=>bD hh (fun _ h=>h) (fun _ h=>⟨.exit id,h⟩)⟩⟩
   | goto t=>
    obtain⟨W4,h4,h5⟩:=fin (some (.goto t)) W3 _ (ac (.goto t)) hp;exact⟨_,_,h4,.inr ⟨rfl,h5.imp fun w F hh=>bD hh (fun _ h=>h) (fun _ h=>⟨.goto t,h⟩)⟩⟩
   | panic ch=>exact hp.elim
   | outgrown=>exact hp.elim
  ·-- behind the iterator
   have fin:∀ (st:LoopState) (pe:Option Code) (W2:World) (Z:aT) (O:aT),Z.Ok->O.Ok->st≠.busy->aI F0 w0 (aj Z (aj (aW l (.loop (J st pe))) (aj (aW D (.deferred (some []))) O))) W2 ->
     ∃ W4 R,R.Ok/\(Instr.endLoop l).run P W2=.ok pe W4/\aI F0 w0 (aj O (aj (aW D (.deferred (some []))) R)) W4:=fun st pe W2 Z O hZ hO an h3=>by
    have h4:=h3.perm (by ac_rfl:_=aj (aW l (.loop (J st pe))) (aj (aW D (.deferred (some []))) (aj Z O)));obtain⟨FL,hL,-,bk⟩:=h4.take bg (aB bg (aB hZ hO));have he:=run_endLoop (P:=P) hL.1 (by rw[aa];exact an);have e6:(J st pe).pending=pe:=by rw[aa]
    have he:=he.trans (congrArg (fun p=>Result.ok p (W2.putObj l (.loop { J st pe with state:=.exhausted }))) e6);have hp:=fH hL (.loop { J st pe with state:=.exhausted });generalize Obj.loop { J st pe with state:=.exhausted }=o4 at he hp;have h5:=bk _ _ hp;exact⟨_,aj (aW l o4) Z,aB bg hZ,he,h5.perm (by ac_rfl:_=aj O (aj (aW D (.deferred (some []))) (aj (aW l o4) Z)))⟩
   rintro e W2 ⟨⟨v,rfl⟩,Z,hZ,h2|h2⟩
   ·obtain⟨W4,R,hR,he,h4⟩:=fin .ready none W2 Z _ hZ (hI _) iz h2;rw[<-hD];exact⟨none,_,he,hdone D R W4 hR h4⟩
   ·have h3:∃ c,aI F0 w0 (aj Z (aj (aW l (.loop (J .done (some c)))) (aj (aW D (.deferred (some []))) (Ix c)))) W2:=by
     obtain⟨⟨F,⟨F1,F2,g1,⟨c,g2⟩,g3,g4⟩,hF⟩,hm⟩:=h2;exact⟨c,⟨⟨F,⟨F1,F2,g1,g2,g3,g4⟩,hF⟩,hm⟩⟩
    obtain⟨c,h3⟩:=h3;obtain⟨W4,R,hR,he,h4⟩:=fin .done (some c) W2 Z _ hZ (ac c) iz h3;rw[<-hD];exact⟨some c,_,he,(wpIn_wide (n:=8)).2 (hstop D c R W4 hR h4)⟩
section
variable {F:Fence} {n:Nat} {P:Program} {ops:Array Oper} {Q:Exit→Act→World→Prop} {S:World→Prop}
def YF (P:Program) (ops:Array Oper) (S:World->Prop) (o:Oper) (v:Value) (a:Act):Prop:=YieldsIf P ops S o v a/\∀ w,o.about P w a.eval=none
variable {i j c:Nat}{v:Value}{b:Act}{K:Act->World->Prop}
theorem YF.Rr  {o:Oper}   (J:F.round=none) (hi:ops[i]?=some o) (hy:YF P ops S o v a)   (hS:S w) (h:K (a.put o.dst v) w):wpOpIn F n P ops Q i K a w:=by
 unfold Go.wpOpIn;simp only[hi];have I:∀ f,o.about P w a.eval=some f->F.fn f:=fun f hf=>by rw[hy.2 w] at hf;cases hf
 rcases hy.1 with⟨M,hv⟩|⟨M,rfl⟩
 ·simp only[M,if_true,Oper.wpIn,J,Kb,hv w hS,Oper.uponIn];exact⟨I,h⟩
 ·simp only[M,kO,if_false];exact⟨I,h⟩
theorem NW  {I J:Oper}  (ab:F.round=none) (hj:ops[j]?=some J) (af:I.apart ops J=true)
  (ad:∀ cs b,I.op≠.select cs b) (ae:∀ cs b,J.op≠.select cs b)
  (hQ:∀ c a w,Q (.panic c) (a.put I.dst v) w->Q (.panic c) a w)   
  (M:YF P ops S I v a) (h:wpOpIn F n P ops Q j K (a.put I.dst v) w) :
  wpOpIn F n P ops Q j (fun a' w'=>YF P ops S I v a'/\K (a'.put I.dst v) w') a w:=by
 obtain⟨h1,h2,h3⟩:=GC af;have keep:∀ (a:Act),YF P ops S I v a->∀ u,YF P ops S I v (a.put J.dst u):=fun a M u=>
  ⟨M.1.of_same (execOp_put I ad a J.dst u h3) (wanted_put I a J.dst u h3),fun w=>by rw[about_put I w a J.dst u h3];exact M.2 w⟩
 have aa:∀ d,YF P ops S I v { a with defers:=d::a.defers }:=fun d=>⟨M.1.of_same rfl rfl,M.2⟩;unfold wpOpIn at *
 simp only[hj] at *
 rw[wanted_put J a I.dst v h1,about_put J w a I.dst v h1] at h;split
 ·rename_i hw;simp only[hw,if_true] at h;unfold Oper.wpIn at *
  rw[about_put J w a I.dst v h1] at h;refine⟨h.1,?_⟩;have h:=h.2;rw[ab,Kb,execOp_put J ae a I.dst v h1] at h;rw[ab,Kb];generalize (execOp a.eval J).run P w=r at *
  cases r with
  | ok x w'=>
   cases x<;>simp only[Oper.uponIn] at h ⊢
   case value u=>exact⟨keep a M u,by rw[<-nF a v u h2];exact h⟩
   case skip=>exact⟨keep a M _,by rw[<-nF a v undef h2];exact h⟩
   case defer d=>
    refine⟨keep _ (aa d) _,?_⟩;rw[<-nF _ v undef h2,<-Ks];exact h
   case enter f args=>
    refine⟨h.1,CallsIn.mono h.2 fun e ac he=>?_⟩;cases e with
    | returned u=>exact⟨keep a M u,by rw[<-nF a v u h2];exact he⟩
    | panicked c=>exact hQ _ _ _ he
    | outgrown=>exact he
   case row row args=>exact⟨h.1,RowsIn.mono h.2 fun u ac he=>⟨keep a M u,by rw[<-nF a v u h2];exact he⟩⟩
   case round l f tmps assign body=>
    refine⟨h.1,RoundIn.mono h.2 fun e ac he=>?_⟩;cases e with
    | returned u=>exact⟨keep a M u,by rw[<-nF a v u h2];exact he⟩
    | panicked c=>exact hQ _ _ _ he
    | outgrown=>exact he
  | halt x w'=>
   cases x<;>simp only[Oper.uponIn] at h ⊢
   case panic u=>exact hQ _ _ _ h
 ·rename_i hw;simp only[hw] at h;exact⟨h.1,keep a M _,by rw[<-nF a v undef h2];exact h.2⟩
def Du (F:Fence) (n:Nat) (P:Program) (ops:Array Oper) (Q:Exit->Act->World->Prop) (S:World->Prop):Nat->Array Bool->Act->World->Prop
 | 0,listed,a,w=>Region.ready .any ops listed=[]/\Q .normal a w
 | fuel+1,listed,a,w=>
  (Region.ready .any ops listed=[]->Q .normal a w) /\
  ∀ i ∈ Region.ready .any ops listed,wpOpIn F n P ops Q i (fun h w'=>S w'/\Du F n P ops Q S fuel (listed.setIfInBounds i true) h w') a w
theorem AQ:∀ (fuel:Nat) (listed:Array Bool) (a:Act) (w:World),Du F n P ops Q S fuel listed a w->wpAnyIn F n P .any ops Q fuel listed a w
 | 0,_,_,_,h=>h
 | fuel+1,_,_,_,h=>⟨h.1,fun i hi=>wpOpIn_mono (fun a' w' h'=>AQ fuel _ a' w' h'.2) (h.2 i hi)⟩
theorem VX  {oi:Oper}  (ae:F.round=none) (hi:ops[i]?=some oi) (ac:∀ (j:Nat) (o:Oper) cs b,ops[j]?=some o->o.op≠.select cs b)
  (hQ:∀ c a w,Q (.panic c) (a.put oi.dst v) w->Q (.panic c) a w) :
  ∀ (J:Nat) (I:Array Bool) (a:Act) (w:World),
   (∀ j oj,ops[j]?=some oj->j≠i->I.getD j true=false->(∀ e ∈ oj.after,Region.binds .any e=true->e.on≠i)->oi.apart ops oj=true) ->
   i ∈ Region.ready .any ops I->YF P ops S oi v a->S w ->
   Du F n P ops Q S J (I.setIfInBounds i true) (a.put oi.dst v) w->Du F n P ops Q S (J+1) I a w:=by
 intro J
 induction J with
 | zero=>
  intro I a w _ hr hy hS H;refine⟨fun h=>(by rw[h] at hr;cases hr),fun j hj=>?_⟩;by_cases M:j=i
  ·subst M;exact hy.Rr ae hi hS ⟨hS,H⟩
  ·have:=ready_mono hj M;rw[H.1] at this;cases this
 | succ J ih=>
  intro I a w aa hr hy hS H;refine⟨fun h=>(by rw[h] at hr;cases hr),fun j hj=>?_⟩;by_cases M:j=i
  ·subst M;exact hy.Rr ae hi hS ⟨hS,H⟩
  ·have h1:=H.2 j (ready_mono hj M);obtain⟨ad,oj,af,ag⟩:=mem_ready.1 hj;have ai:∀ e ∈ oj.after,Region.binds .any e=true->e.on≠i:=fun e he hb an=>by
    have h1:=ag e he hb;have h0:=(mem_ready.1 hr).1;rw[an] at h1;rcases tA i I.size with h'|h'
    ·simp[h'] at h0 h1;rw[h0] at h1;cases h1
    ·simp[tb h'] at h1
   have h2:=NW ae af (aa j oj af M ad ai) (fun cs b=>ac i oi cs b hi) (fun cs b=>ac j oj cs b af) hQ hy h1;have ab:∀ k ok,ops[k]?=some ok->k≠i->(I.setIfInBounds j true).getD k true=false ->
     (∀ e ∈ ok.after,Region.binds .any e=true->e.on≠i)->oi.apart ops ok=true:=fun k ok hk am al ao=>by
    refine aa k ok hk am ?_ ao;by_cases ak:j=k
    ·subst ak;exact ad
    ·rw[getD_set_ne true ak] at al;exact al
   refine wpOpIn_mono (fun a' w' h3=>⟨h3.2.1,ih (I.setIfInBounds j true) a' w' ab (ready_mono hr (px M)) h3.1 h3.2.1 ?_⟩) h2;rw[B3 _ _ M];exact h3.2.2
theorem ZR  {M:Oper} {J:Nat} {I:Array Bool}   (hr:Region.ready .any ops I=[i]) (hi:ops[i]?=some M) (hw:Region.wanted M (yielded ops a.tmps)=true)
  (h:∀ K:Act->World->Prop,Hid (∀ a' w',S w'->Du F n P ops Q S J (I.setIfInBounds i true) a' w'->K a' w')->M.wpIn F n P a w K Q):Du F n P ops Q S (J+1) I a w:=
 ⟨fun h0=>absurd (hr ▸ h0) iz,by
  rw[hr];intro j hj;obtain rfl:=List.mem_singleton.1 hj;unfold wpOpIn;simp only[hi,hw,if_true]
  exact h _ fun a' w' h1 h2=>⟨h1,h2⟩⟩
def Dw (n k:Nat):Array Bool:=((List.range n).map fun i=>decide (i<k)).toArray
theorem VY (n:Nat):Array.replicate n false=Dw n 0:=by
 unfold Dw;apply Array.ext
 ·simp
 ·intro i h1 h2;simp
theorem Qa {n k:Nat}:(Dw n k).setIfInBounds k true=Dw n (k+1):=by
 unfold Dw;apply Array.ext
 ·simp
 ·intro i h1 h2;by_cases e:k=i
  ·subst e;simp
  ·simp[Array.getElem_setIfInBounds,e];omega
def LN (ops:Array Oper) (c:Nat):Bool:=
 Region.noSelect ops&&((Region.ready .any ops (Dw ops.size ops.size)).isEmpty&&(List.range ops.size).all fun k=>
  Region.free .any ops (Dw ops.size k) k&&((Region.ready .any ops (Dw ops.size k)).contains k&&(k != c||Region.ready .any ops (Dw ops.size k)==[k])))
def wJ (F:Fence) (n:Nat) (P:Program) (ops:Array Oper) (Q:Exit->Act->World->Prop) (S:World->Prop) (c:Nat):Nat->List Oper->Act->World->Prop
 | _,[],a,w=>Q .normal a w
 | k,o::r,a,w=>(∃ v,YF P ops S o v a/\wJ F n P ops Q S c (k+1) r (a.put o.dst v) w) \/
   (k=c/\Region.wanted o (yielded ops a.tmps)=true/\o.wpIn F n P a w (fun h w'=>S w'/\wJ F n P ops Q S c (k+1) r h w') Q)
theorem SB  (ab:F.round=none) (I:LN ops c=true) (hQ:∀ c a ts w,Q (.panic c) { a with tmps:=ts } w->Q (.panic c) a w):∀ (r:List Oper) (k:Nat) (a:Act) (w:World),(∀ j,r[j]?=ops[k+j]?)->k+r.length=ops.size->S w->wJ F n P ops Q S c k r a w->Du F n P ops Q S r.length (Dw ops.size k) a w:=by
 unfold LN at I;simp only[gA,j8,rN] at I;obtain⟨hs,he,J⟩:=I;intro r
 induction r with
 | nil=>
  intro k a w hj M hS h;have:k=ops.size:=M;subst this;exact⟨he,h⟩
 | cons o r ih=>
  intro k a w hj M hS h;have aa:k<ops.size:=by rw[j7] at M;omega
  have ho:ops[k]?=some o:=by simpa using (hj 0).symm
  obtain⟨h1,h2,h3⟩:=J k (List.mem_range.2 aa);have nx:=fun a w=>ih (k+1) a w (fun j=>by have:=hj (j+1);simpa[vq,vr 1 j] using this) (by rw[j7] at M;omega);rcases h with⟨v,hy,h⟩|⟨rfl,hw,h⟩
  ·refine VX ab ho (zg hs) (fun c a w h=>hQ c a (a.put o.dst v).tmps w (by
    have e:({ a with tmps:=(a.put o.dst v).tmps }:Act)=a.put o.dst v:=by cases o.dst<;>rfl
    rw[e];exact h)) _ _ a w (Gk ho h1) (by simpa using h2) hy hS ?_
   rw[Qa];exact nx _ w hS h
  ·have h3:Region.ready .any ops (Dw ops.size k)=[k]:=by simpa using h3
   refine ZR h3 ho hw (fun K hK=>?_);refine Oper.wpIn_mono (fun a' w' hh=>hK.o a' w' hh.1 ?_) h;rw[Qa];exact nx a' w' hh.1 hh.2
theorem oP {id:Nat} {l:List Oper}   (c:Nat) (S:World->Prop) (I:F.round=none) (hm:P.follows .mixedOrders=true) (J:LN l.toArray c=true) (hQ:∀ c a M w,Q (.panic c) { a with tmps:=M } w->Q (.panic c) a w) (hS:S w.drew)
  (h:wJ F n P l.toArray Q S c 0 l a w.drew):(Code.region id l.toArray true).wpIn F n P Q a w:=
 wpIn_region_any hm (AQ _ _ _ _ (by
  have:=SB I J hQ l 0 a w.drew iz iz hS h;rw[pT,VY]
  exact this))
section
variable {o:Oper} {r:List Oper} {k c:Nat} {a:Act} {w:World}
theorem IB (h:Q .normal a w):wJ F n P ops Q S c k [] a w:=h
theorem acy (hw:Region.wanted o (yielded ops a.tmps)=false) (hab:∀ w,o.about P w a.eval=none) (h:wJ F n P ops Q S c (k+1) r (a.put o.dst undef) w):wJ F n P ops Q S c k (o::r) a w:=.inl ⟨undef,⟨.inr ⟨hw,rfl⟩,hab⟩,h⟩
theorem adS  (hw:Region.wanted o (yielded ops a.tmps)=true) (hab:∀ w,o.about P w a.eval=none) (hv:∀ w',S w'->(execOp a.eval o).run P w'=.ok (.value v) w') (h:wJ F n P ops Q S c (k+1) r (a.put o.dst v) w):wJ F n P ops Q S c k (o::r) a w:=.inl ⟨v,⟨.inl ⟨hw,hv⟩,hab⟩,h⟩
theorem Qb (hk:k=c) (hw:Region.wanted o (yielded ops a.tmps)=true) (h:∀ K:Act->World->Prop,Hid (∀ a' w',S w'->wJ F n P ops Q S c (k+1) r a' w'->K a' w')->o.wpIn F n P a w K Q):wJ F n P ops Q S c k (o::r) a w:=.inr ⟨hk,hw,h _ fun _ _ h1 h2=>⟨h1,h2⟩⟩
theorem VZ  (h:wJ F n P ops Q S c (k+1) r b w) (I:Region.wanted o (yielded ops a.tmps)=false:=by rfl) (hab:∀ w,o.about P w a.eval=none:=by(intro;rfl)) (hb:a.put o.dst undef=b:=by(first|(simp only[Act.put,ja,i6,i7];done)|(simp only[Act.put,ja,i6,i7];rfl)|rfl)):wJ F n P ops Q S c k (o::r) a w:=acy I hab (hb ▸ h)
theorem V3   (h:wJ F n P ops Q S c (k+1) r b w) (I:Region.wanted o (yielded ops a.tmps)=true:=by rfl) (hab:∀ w,o.about P w a.eval=none:=by(intro;rfl)) (hv:∀ w',S w'->(execOp a.eval o).run P w'=.ok (.value v) w':=by(intro w' J;go_simp;(try with_reducible rfl);done)) (hb:a.put o.dst v=b:=by(first|(simp only[Act.put,ja,i6,i7];done)|(simp only[Act.put,ja,i6,i7];rfl)|rfl)):wJ F n P ops Q S c k (o::r) a w:=adS I hab hv (hb ▸ h)
end
end
def KY (D:Nat):Deferred:={ target:=.collected D,args:=#[] }
def dJ (Ds:List Nat):aT:=aL (Ds.map fun D=>aW D (.deferred (some [])))
theorem kZ {Ds:List Nat}:(dJ Ds).Ok:=lG (fun A hA=>by obtain⟨z,_,rfl⟩:=List.mem_map.1 hA;exact bg)
instance {Ds:List Nat}:(dJ Ds).Ok:=kZ
theorem wE (D:Nat) (Ds:List Nat):dJ (D::Ds)=aj (aW D (.deferred (some []))) (dJ Ds):=rfl
theorem lg {P:Program} {fn:Func} {tmps:Array Value} {R:Ending->World->Prop} {n:Nat} {F0:Nat->Prop} {w0:World} {X:aT} (hX:X.Ok)
  (I:∀ W,aI F0 w0 X W->∃ v,(results fn tmps).run P W=.ok v W/\R (.returned v) W):∀ (J:List Nat) (W:World),aI F0 w0 (aj (dJ J) X) W->LeavesInM Fence.wide n P fn tmps R (J.map KY) .returning W
 | [],W,h=>I W h.drop
 | D::J,W,h=>by
  have h1:aI F0 w0 (aj (aW D (.deferred (some []))) (aj (dJ J) X)) W:=h.perm (by unfold dJ;rw[lk];show aj (aj _ _) _=_;ac_rfl);obtain⟨F,M,-,bk⟩:=h1.take bg aO;refine⟨by simp,.inl ⟨_,_,rfl,run_takeDeferred M.1,?_⟩⟩;exact lg hX I J _ (bk _ _ (fH M (.deferred none))).drop
theorem VI (tm:Array Value) (n:Nat) (h:tm.size=n):tm=((List.range n).map fun i=>tm.getD i undef).toArray:=by
 refine Array.ext (by simp[h]) fun i h1 h2=>?_;simp[h1]
def Iq (es:Array MapEntry) (r:Nat) (w:World):Nat:=match w.heap[r]? with
 | some (.mapIter _ _ seen _)=>(es.toList.filter (fun e=>!seen.contains e.born)).length
 | _=>0
section
variable {P:Program} {ops:Array Oper} {Q:Exit→Act→World→Prop} {S:World→Prop} {s:Nat}
def iK (P:Program) (ops:Array Oper) (Q:Exit->Act->World->Prop) (S:World->Prop) (s:Nat):Nat->Array Bool->Act->World->Prop
 | 0,listed,a,w=>Region.ready .any ops listed=[]/\Q .normal a w
 | fuel+1,listed,a,w=>(Region.ready .any ops listed=[]->Q .normal a w) /\
  ∀ i ∈ Region.ready .any ops listed,wpOp P ops Q i (fun h w'=>((listed.setIfInBounds i true).getD s true=false->S w')/\iK P ops Q S s fuel (listed.setIfInBounds i true) h w') a w
theorem Dl:∀ (fuel:Nat) (listed:Array Bool) (a:Act) (w:World),iK P ops Q S s fuel listed a w->wpAny P .any ops Q fuel listed a w
 | 0,_,_,_,h=>h
 | fuel+1,_,_,_,h=>⟨h.1,fun i hi=>wpOp_mono (fun a' w' h'=>Dl fuel _ a' w' h'.2) (h.2 i hi)⟩
def waits (ops:Array Oper) (s i:Nat):Bool:=match ops[s]? with|some o=>o.after.any fun e=>Region.binds .any e&&e.on==i|none=>false
variable {i j J:Nat}{I listed:Array Bool}{oi M:Oper}{v:Value}
theorem Sr   (h:waits ops s i=true) (hi:i ∈ Region.ready .any ops I):s ∉ Region.ready .any ops I:=by
 intro hs;obtain⟨-,o,ho,J⟩:=mem_ready.1 hs;unfold waits at h;rw[ho] at h;simp only[Array.any_eq_true,gA,beq_iff_eq] at h;obtain⟨k,hk,h1,h2⟩:=h;have M:=J _ (Array.getElem_mem hk) h1;have h0:=(mem_ready.1 hi).1;rw[h2] at M;rcases tA i I.size with h'|h'
 ·simp[h'] at h0 M;rw[h0] at M;cases M
 ·simp[tb h'] at M
theorem nA   (h:i≠j) (h0:listed.getD j true=false):(listed.setIfInBounds i true).getD j true=false:=by
 rw[getD_set_ne true h];exact h0
theorem Iu    (hi:ops[i]?=some oi) (ac:∀ (j:Nat) (o:Oper) cs b,ops[j]?=some o->o.op≠.select cs b) (hQ:∀ c a w,Q (.panic c) (a.put oi.dst v) w->Q (.panic c) a w) (hw:waits ops s i=true) (ar:i≠s) :
  ∀ (J:Nat) (I:Array Bool) (a:Act) (w:World),
   (∀ j oj,ops[j]?=some oj->j≠i->I.getD j true=false->(∀ e ∈ oj.after,Region.binds .any e=true->e.on≠i)->oi.apart ops oj=true) ->
   i ∈ Region.ready .any ops I->I.getD s true=false->YieldsIf P ops S oi v a->S w->iK P ops Q S s J (I.setIfInBounds i true) (a.put oi.dst v) w->iK P ops Q S s (J+1) I a w:=by
 intro J
 induction J with
 | zero=>
  intro I a w _ hr ae hy hS H;refine⟨fun h=>(by rw[h] at hr;cases hr),fun j hj=>?_⟩;by_cases M:j=i
  ·subst M;exact hy.wpOp hi hS ⟨fun _=>hS,H⟩
  ·have:=ready_mono hj M;rw[H.1] at this;cases this
 | succ J ih=>
  intro I a w aa hr ae hy hS H;refine⟨fun h=>(by rw[h] at hr;cases hr),fun j hj=>?_⟩;by_cases M:j=i
  ·subst M;exact hy.wpOp hi hS ⟨fun _=>hS,H⟩
  ·have ai:j≠s:=fun e=>Sr hw hr (e ▸ hj);have h1:=H.2 j (ready_mono hj M);obtain⟨ad,oj,af,ag⟩:=mem_ready.1 hj;have ak:∀ e ∈ oj.after,Region.binds .any e=true->e.on≠i:=fun e he hb ap=>by
    have h1:=ag e he hb;have h0:=(mem_ready.1 hr).1;rw[ap] at h1;rcases tA i I.size with h'|h'
    ·simp[h'] at h0 h1;rw[h0] at h1;cases h1
    ·simp[tb h'] at h1
   have h2:=wpOp_putIf af (aa j oj af M ad ak) (fun cs b=>ac i oi cs b hi) (fun cs b=>ac j oj cs b af) hQ hy h1;have ab:∀ k ok,ops[k]?=some ok->k≠i->(I.setIfInBounds j true).getD k true=false ->
     (∀ e ∈ ok.after,Region.binds .any e=true->e.on≠i)->oi.apart ops ok=true:=fun k ok hk ao an aq=>by
    refine aa k ok hk ao ?_ aq;by_cases al:j=k
    ·subst al;exact ad
    ·rw[getD_set_ne true al] at an;exact an
   refine wpOp_mono (fun a' w' h3=>?_) h2;have am:S w':=h3.2.1 (nA ai (nA ar ae));refine⟨fun _=>am,ih (I.setIfInBounds j true) a' w' ab (ready_mono hr (px M)) (nA ai ae) h3.1 am ?_⟩;rw[B3 _ _ M];exact h3.2.2
theorem nC        (hi:ops[i]?=some M) (hs:Region.noSelect ops=true) (hf:Region.free .any ops I i=true) (hr:(Region.ready .any ops I).contains i=true)
  (hw:(waits ops s i&&(i != s && !(I.getD s true)))=true) (hQ:∀ c a w,Q (.panic c) (a.put M.dst v) w->Q (.panic c) a w) (hy:YieldsIf P ops S M v a) (hS:S w)
  (h:iK P ops Q S s J (I.setIfInBounds i true) (a.put M.dst v) w):iK P ops Q S s (J+1) I a w:=by
 simp only[gA,bne_iff_ne,ne_eq,tc] at hw;exact Iu hi (zg hs) hQ hw.1 hw.2.1 J I a w (Gk hi hf) (by simpa using hr) hw.2.2 hy hS h
theorem EF    (hi:ops[i]?=some oi) (ac:∀ (j:Nat) (o:Oper) cs b,ops[j]?=some o->o.op≠.select cs b) (hQ:∀ c a w,Q (.panic c) (a.put oi.dst v) w->Q (.panic c) a w) (ae:i≠s) :
  ∀ (M:Nat) (I:Array Bool) (a:Act) (w:World),
   (∀ j oj,ops[j]?=some oj->j≠i->I.getD j true=false->(∀ e ∈ oj.after,Region.binds .any e=true->e.on≠i)->oi.apart ops oj=true) ->
   i ∈ Region.ready .any ops I->YieldsIf P ops (fun _=>True) oi v a->(I.getD s true=false->S w)->iK P ops Q S s M (I.setIfInBounds i true) (a.put oi.dst v) w->iK P ops Q S s (M+1) I a w:=by
 intro M
 induction M with
 | zero=>
  intro I a w _ hr hy hS H;refine⟨fun h=>(by rw[h] at hr;cases hr),fun j hj=>?_⟩;by_cases J:j=i
  ·subst J;exact hy.wpOp hi trivial ⟨fun h=>hS (by rw[getD_set_ne true ae] at h;exact h),H⟩
  ·have:=ready_mono hj J;rw[H.1] at this;cases this
 | succ M ih=>
  intro I a w aa hr hy hS H;refine⟨fun h=>(by rw[h] at hr;cases hr),fun j hj=>?_⟩;by_cases J:j=i
  ·subst J;exact hy.wpOp hi trivial ⟨fun h=>hS (by rw[getD_set_ne true ae] at h;exact h),H⟩
  ·have h1:=H.2 j (ready_mono hj J);obtain⟨ad,oj,af,ag⟩:=mem_ready.1 hj;have ai:∀ e ∈ oj.after,Region.binds .any e=true->e.on≠i:=fun e he hb ao=>by
    have h1:=ag e he hb;have h0:=(mem_ready.1 hr).1;rw[ao] at h1;rcases tA i I.size with h'|h'
    ·simp[h'] at h0 h1;rw[h0] at h1;cases h1
    ·simp[tb h'] at h1
   have h2:=wpOp_putIf af (aa j oj af J ad ai) (fun cs b=>ac i oi cs b hi) (fun cs b=>ac j oj cs b af) hQ hy h1;have ab:∀ k ok,ops[k]?=some ok->k≠i->(I.setIfInBounds j true).getD k true=false ->
     (∀ e ∈ ok.after,Region.binds .any e=true->e.on≠i)->oi.apart ops ok=true:=fun k ok hk an am ap=>by
    refine aa k ok hk an ?_ ap;by_cases ak:j=k
    ·subst ak;exact ad
    ·rw[getD_set_ne true ak] at am;exact am
   refine wpOp_mono (fun a' w' h3=>?_) h2;have al:(I.setIfInBounds j true).getD s true=false->S w':=fun h=>h3.2.1 (by rw[B3 _ _ (px J)];exact nA ae h);refine⟨al,ih (I.setIfInBounds j true) a' w' ab (ready_mono hr (px J)) h3.1 al ?_⟩;rw[B3 _ _ J];exact h3.2.2
theorem fQ        (hi:ops[i]?=some M) (hs:Region.noSelect ops=true) (hf:Region.free .any ops I i=true) (hr:(Region.ready .any ops I).contains i=true)
  (hw:(i != s)=true) (hQ:∀ c a w,Q (.panic c) (a.put M.dst v) w->Q (.panic c) a w) (hy:YieldsIf P ops (fun _=>True) M v a) (hS:I.getD s true=false->S w)
  (h:iK P ops Q S s J (I.setIfInBounds i true) (a.put M.dst v) w):iK P ops Q S s (J+1) I a w:=by
 simp only[bne_iff_ne,ne_eq] at hw;exact EF hi (zg hs) hQ hw J I a w (Gk hi hf) (by simpa using hr) hy hS h
theorem mq {rs:List Nat}     (hr:Region.ready .any ops I=rs) (M:rs≠[])
  (h:∀ i ∈ rs,wpOp P ops Q i (fun a' w'=>((I.setIfInBounds i true).getD s true=false->S w')/\iK P ops Q S s J (I.setIfInBounds i true) a' w') a w):iK P ops Q S s (J+1) I a w:=
 ⟨fun h0=>absurd (hr ▸ h0) M,hr ▸ h⟩
theorem AO    (hr:Region.ready .any ops listed=[]) (h:Q .normal a w):∀ fuel,iK P ops Q S s fuel listed a w
 | 0=>⟨hr,h⟩
 | _+1=>⟨fun _=>h,by rw[hr];simp⟩
theorem AP {id:Nat}   (s:Nat) (S:World->Prop) (hm:P.follows .mixedOrders=true) (h:iK P ops Q S s ops.size (Array.replicate ops.size false) a w.drew):(Code.region id ops true).wp P Q a w:=
 wp_region_any hm (Dl _ _ _ _ h)
end
section
variable {P:Program} {ops:Array Oper} {Q:Exit→Act→World→Prop} {S:World→Prop} {s:Nat}
theorem AZ   {l0:Array Bool} {M:Act} {R:aT} (X Y:List Nat) (PX PY:List Value->aT) (J:Nat) (al:QD ops l0 X Y=true)
  (oX:∀ vs,(PX vs).Ok) (oY:∀ vs,(PY vs).Ok) (oR:R.Ok) (hS:∀ (O:aT) W,aI F0 w0 O W->S W)
  (hX:∀ i o vs us,X[vs.length]?=some i->ops[i]?=some o->us.length<=Y.length->∀ (Z:aT) W,Z.Ok->aI F0 w0 (aj (PX vs) Z) W ->
   o.wp P (fS (fS M (dQ ops X) vs) (dQ ops Y) us) W (fun a' w'=>∃ v,a'=(fS (fS M (dQ ops X) vs) (dQ ops Y) us).put o.dst v/\aI F0 w0 (aj (PX (vs++[v])) Z) w') Q)
  (hY:∀ i o vs us,Y[us.length]?=some i->ops[i]?=some o->vs.length<=X.length->∀ (Z:aT) W,Z.Ok->aI F0 w0 (aj (PY us) Z) W ->
   o.wp P (fS (fS M (dQ ops X) vs) (dQ ops Y) us) W (fun a' w'=>∃ v,a'=(fS (fS M (dQ ops X) vs) (dQ ops Y) us).put o.dst v/\aI F0 w0 (aj (PY (us++[v])) Z) w') Q)
  (ag:∀ vs us W,vs.length=X.length->us.length=Y.length->aI F0 w0 (aj (PX vs) (aj (PY us) R)) W->iK P ops Q S s J (EL l0 X Y X.length Y.length) (fS (fS M (dQ ops X) vs) (dQ ops Y) us) W)
   (h0:aI F0 w0 (aj (PX []) (aj (PY []) R)) W):iK P ops Q S s (J+(X.length+Y.length)) l0 M W:=by
 simp only[QD,gA,decide_eq_true_eq] at al;obtain⟨⟨ao,ak⟩,ap⟩:=al;have key:∀ (N:Nat) (vs us:List Value) (W:World),vs.length<=X.length->us.length<=Y.length->N=(X.length-vs.length)+(Y.length-us.length)->aI F0 w0 (aj (PX vs) (aj (PY us) R)) W ->
   iK P ops Q S s (J+N) (EL l0 X Y vs.length us.length) (fS (fS M (dQ ops X) vs) (dQ ops Y) us) W:=by
  intro N
  induction N with
  | zero=>
   intro vs us W hv hu hN hR;have h1:vs.length=X.length:=by omega
   have h2:us.length=Y.length:=by omega
   rw[h1,h2];exact ag vs us W h1 h2 hR
  | succ N ih=>
   intro vs us W hv hu hN hR;have hc:=ao;rw[j8] at hc;have ai:=hc vs.length (List.mem_range.2 eL);rw[j8] at ai;have am:=ai us.length (List.mem_range.2 eL);simp only[gA] at am;obtain⟨⟨⟨c1,c2⟩,c3⟩,c4⟩:=am;have an:(vs.length==X.length&&us.length==Y.length)=false:=by
    cases hb:(vs.length==X.length&&us.length==Y.length) with
    | false=>rfl
    | true=>simp only[gA,beq_iff_eq] at hb;omega
   rw[an,uB] at c1 c2;have ae:∀ (Z:List Nat) i,i ∈ Z->(∀ j ∈ Z,j ∈ X++Y)->∃ o d,ops[i]?=some o/\o.guard=none/\o.dst=some d/\((ops[i]?.bind (·.dst))).getD 0=d:=by
    intro Z i hi hZ;rw[j8] at ak;have:=ak i (hZ i hi);cases ho:ops[i]? with
    | none=>rw[ho] at this;cases this
    | some o=>
     rw[ho] at this;simp only[gA,M3,NF] at this;obtain⟨g1,d,g2⟩:=this;exact⟨o,d,rfl,g1,g2,by simp[g2]⟩
   refine⟨fun h=>by rw[h] at c1;simp at c1,fun i hi=>?_⟩;rw[j8] at c2;have I:=c2 i hi;simp only[tf,beq_iff_eq] at I;have af:=List.nodup_append.1 ap;rcases I with I|I
   ·-- the next of X
    have ad:vs.length<X.length:=(List.getElem?_eq_some_iff.1 I).1;obtain⟨o,d,ho,hg,hd,aa⟩:=ae X i (pS I) (fun j hj=>B9 _ hj);refine gH ho hg (sl ?_ (hX i o vs us I ho hu (aj (PY us) R) W (aB (oY us) oR) hR));rintro a' w' ⟨v,rfl,hR'⟩;refine⟨fun _=>hS _ _ hR',?_⟩;rw[I] at c3;simp only[beq_iff_eq] at c3;have h3:=ih (vs++[v]) us w' sT hu sT hR';rw[gd,pC,<-c3] at h3;have e1:fS M (dQ ops X) (vs++[v])=(fS M (dQ ops X) vs).put (some d) v:=by
     have ac:dQ ops X=dQ ops (X.take vs.length)++(d::dQ ops (X.drop (vs.length+1))):=by
      have ab:X[vs.length]=i:=(List.getElem?_eq_some_iff.1 I).2;have e9:=vD (fun i=>((ops[i]?.bind (·.dst))).getD 0) X ad;simp only[ab,aa] at e9;exact e9
     have hl:(dQ ops (X.take vs.length)).length=vs.length:=by unfold dQ;simp;omega
     rw[ac];rw[show dQ ops (X.take vs.length)++(d::dQ ops (X.drop (vs.length+1)))=(dQ ops (X.take vs.length)++[d])++dQ ops (X.drop (vs.length+1)) by simp];rw[kL _ _ _ (vs++[v]) (by simp[hl]),vC _ _ _ _ _ hl,l3,kL _ _ _ vs hl]
    have ar:d ∉ dQ ops Y:=by
     intro hm;refine af.2.2 d ?_ d hm rfl;unfold dQ;exact List.mem_map.2 ⟨i,pS I,aa⟩
    rw[hd,DV d v _ us _ ar,<-e1];exact h3
   ·have ad:us.length<Y.length:=(List.getElem?_eq_some_iff.1 I).1;obtain⟨o,d,ho,hg,hd,aa⟩:=ae Y i (pS I) (fun j hj=>yW _ hj);have aq:aI F0 w0 (aj (PY us) (aj (PX vs) R)) W:=hR.kN;refine gH ho hg (sl ?_ (hY i o vs us I ho hv (aj (PX vs) R) W (aB (oX vs) oR) aq));rintro a' w' ⟨v,rfl,hR'⟩;refine⟨fun _=>hS _ _ hR',?_⟩;rw[I] at c4;simp only[beq_iff_eq] at c4;have h3:=ih vs (us++[v]) w' hv sT sT hR'.kN;rw[gd,pC,<-c4] at h3;have e1:∀ b:Act,fS b (dQ ops Y) (us++[v])=(fS b (dQ ops Y) us).put (some d) v:=by
     intro b;have ac:dQ ops Y=dQ ops (Y.take us.length)++(d::dQ ops (Y.drop (us.length+1))):=by
      have ab:Y[us.length]=i:=(List.getElem?_eq_some_iff.1 I).2;have e9:=vD (fun i=>((ops[i]?.bind (·.dst))).getD 0) Y ad;simp only[ab,aa] at e9;exact e9
     have hl:(dQ ops (Y.take us.length)).length=us.length:=by unfold dQ;simp;omega
     rw[ac];rw[show dQ ops (Y.take us.length)++(d::dQ ops (Y.drop (us.length+1)))=(dQ ops (Y.take us.length)++[d])++dQ ops (Y.drop (us.length+1)) by simp];rw[kL _ _ _ (us++[v]) (by simp[hl]),vC _ _ _ _ _ hl,l3,kL _ _ _ us hl]
    rw[hd,<-e1];exact h3
 have h1:=key (X.length+Y.length) [] [] W (fw _) (fw _) iz h0;have e:∀ (b:Act) (ds:List Nat),fS b ds []=b:=fun b ds=>by cases ds<;>rfl
 rw[e,e] at h1;exact h1
end
variable {w':World}
theorem below_grow  (h:Below w.heap.size w w') (hd:w.drawn<=w'.drawn):∃ q os,w'=Go.Sort.grow (w.drewN q) os:=by
 refine⟨w'.drawn-w.drawn,w'.heap.extract w.heap.size w'.heap.size,?_⟩;obtain⟨M,h2,J,h4,h5⟩:=h;have hh:w'.heap=w.heap++w'.heap.extract w.heap.size w'.heap.size:=by
  apply Array.ext_getElem?;intro k;rw[N6];split
  ·rename_i hk;exact h5 k hk
  ·rename_i hk;rw[Array.getElem?_extract];split
   ·congr 1;omega
   ·rw[tb];omega
 have I:w'.drawn=w.drawn+(w'.drawn-w.drawn):=by omega
 obtain⟨hp,tp,dr,os,out⟩:=w';simp only at M h2 J hh I ⊢;subst M h2 J;simp only[Go.Sort.grow,World.drewN];congr 1
end Go.CH
namespace Go.Proofs
open Go.Shelf
def Tryz.Om:Go.Shelf.Ren:=⟨fun|6=>75|15=>95|14=>94|28=>130|29=>131|20=>122|21=>123|22=>124|23=>125|24=>126|25=>127|26=>128|27=>129|46=>148|47=>149|48=>150|49=>151|50=>152|57=>163|n=>n,fun|22=>56|24=>110|25=>194|3=>3|39=>221|0=>0|53=>29|55=>263|4=>4|46=>256|45=>255|50=>99|5=>5|9=>9|66=>276|70=>280|76=>292|77=>293|n=>n,fun|n=>n⟩
theorem Tryz.Xc:Go.Proofs.SlLaysF0.n6 Tryz.prog Tryz.Om:={
 mixed:=by kernel_rfl
 f6:=⟨Tryz.f75.name,by decide,Tryz.func75.trans fX⟩
 f14:=⟨Tryz.f94.name,by decide,Tryz.func94.trans fX⟩
 f15:=Tryz.func95.trans fX
 f20:=⟨Tryz.f122.name,by decide,Tryz.func122.trans fX⟩
 f21:=⟨Tryz.f123.name,by decide,Tryz.func123.trans fX⟩
 f22:=⟨Tryz.f124.name,by decide,Tryz.func124.trans fX⟩
 f23:=⟨Tryz.f125.name,by decide,Tryz.func125.trans fX⟩
 f24:=⟨Tryz.f126.name,by decide,Tryz.func126.trans fX⟩
 f25:=⟨Tryz.f127.name,by decide,Tryz.func127.trans fX⟩
 f26:=⟨Tryz.f128.name,by decide,Tryz.func128.trans fX⟩
 f27:=⟨Tryz.f129.name,by decide,Tryz.func129.trans fX⟩
 f28:=Tryz.func130.trans fX
 f29:=Tryz.func131.trans fX
 f46:=⟨Tryz.f148.name,by decide,Tryz.func148.trans fX⟩
 f47:=Tryz.func149.trans fX
 f48:=Tryz.func150.trans fX
 f49:=⟨Tryz.f151.name,by decide,Tryz.func151.trans fX⟩
 f50:=⟨Tryz.f152.name,by decide,Tryz.func152.trans fX⟩
 f57:=⟨Tryz.f163.name,by decide,Tryz.func163.trans fX⟩
 t0:=Tryz.underlying0
 a0:=Tryz.isAgg0
 z0:=Tryz.sizeOf0
 v0:=Tryz.zeroValue0
 t3:=Tryz.underlying3
 a3:=Tryz.isAgg3
 z3:=Tryz.sizeOf3
 v3:=Tryz.zeroValue3
 t4:=Tryz.underlying4
 a4:=Tryz.isAgg4
 z4:=Tryz.sizeOf4
 v4:=Tryz.zeroValue4
 t5:=Tryz.underlying5
 a5:=Tryz.isAgg5
 z5:=Tryz.sizeOf5
 v5:=Tryz.zeroValue5
 t9:=Tryz.underlying9
 a9:=Tryz.isAgg9
 z9:=Tryz.sizeOf9
 v9:=Tryz.zeroValue9
 t22:=Tryz.underlying56
 a22:=Tryz.isAgg56
 z22:=Tryz.sizeOf56
 v22:=Tryz.zeroValue56
 t25:=Tryz.underlying194
 a25:=Tryz.isAgg194
 z25:=Tryz.sizeOf194
 v25:=Tryz.zeroValue194
 t39:=Tryz.underlying221
 a39:=Tryz.isAgg221
 z39:=Tryz.sizeOf221
 v39:=Tryz.zeroValue221
 t45:=Tryz.underlying255
 a45:=Tryz.isAgg255
 z45:=Tryz.sizeOf255
 v45:=Tryz.zeroValue255
 t46:=Tryz.underlying256
 a46:=Tryz.isAgg256
 z46:=Tryz.sizeOf256
 v46:=Tryz.zeroValue256
 t50:=Tryz.underlying99
 a50:=Tryz.isAgg99
 z50:=Tryz.sizeOf99
 v50:=Tryz.zeroValue99
 t53:=Tryz.underlying29
 a53:=Tryz.isAgg29
 z53:=Tryz.sizeOf29
 v53:=Tryz.zeroValue29
 t55:=Tryz.underlying263
 a55:=Tryz.isAgg263
 z55:=Tryz.sizeOf263
 v55:=Tryz.zeroValue263
 t66:=Tryz.underlying276
 a66:=Tryz.isAgg276
 z66:=Tryz.sizeOf276
 v66:=Tryz.zeroValue276
 t70:=Tryz.underlying280
 a70:=Tryz.isAgg280
 z70:=Tryz.sizeOf280
 v70:=Tryz.zeroValue280
 t76:=Tryz.underlying292
 a76:=Tryz.isAgg292
 z76:=Tryz.sizeOf292
 v76:=Tryz.zeroValue292
 t77:=Tryz.underlying293
 a77:=Tryz.isAgg293
 z77:=Tryz.sizeOf293
 v77:=Tryz.zeroValue293 }
end Go.Proofs
namespace Go.CH
open Go.RowKit
open Go.ChangeMaps (setBlock)
section
variable {P:Program}
def zP (w:World) (r b:Nat) (es:Array MapEntry) (clock:Nat) (left:List MapEntry):Prop:=
 ∃ seen,w.heap[r]?=some (.mapIter (some b) clock seen clock)/\left=es.toList.filter (fun e=>!seen.contains e.born)
variable {t:TypeId}{w:World}{b r c l i:Nat}{es:Array MapEntry}{seen:Array Nat}
theorem run_range_map {K E:TypeId} (I:P.underlying t=some (.map K E))    {h:Nat} (J:w.heap[b]?=some (.map es h)) :
  (Instr.range t (.map (some b))).run P w=.ok (.pointer (some ⟨w.heap.size,0,none⟩)) (w.alloc (.mapIter (some b) h #[] h))/\zP (w.alloc (.mapIter (some b) h #[] h)) w.heap.size b es h es.toList:=by
 refine⟨?_,#[],Kz rfl,(List.filter_eq_self.2 iz).symm⟩;simp only[Instr.range,j9,run_underlying I,kx,tG J,kz];rfl
theorem j6      (h:w.heap[r]?=some (.mapIter (some b) c seen l)):(getObj r).run P w=.ok (.mapIter (some b) c seen l) w:=by
 simp[getObj,Sem.run,h]
theorem rW      (h:w.heap[r]?=some (.mapIter (some b) c seen l)) (o:Obj):(setObj r o).run P w=.ok () (setBlock w r o):=by
 simp[setObj,Sem.run,h,setBlock]
theorem filter_push (es:List MapEntry) (I:Array Nat) (hn:(es.map (·.born)).Nodup)  (hi:i<(es.filter (fun e=>!I.contains e.born)).length) :
  es.filter (fun e=>!(I.push (es.filter (fun e=>!I.contains e.born))[i].born).contains e.born)=(es.filter (fun e=>!I.contains e.born)).eraseIdx i:=by
 have h1:es.filter (fun e=>!(I.push (es.filter (fun e=>!I.contains e.born))[i].born).contains e.born) =
   (es.filter (fun e=>!I.contains e.born)).filter (fun e=>!(e.born==(es.filter (fun e=>!I.contains e.born))[i].born)):=by
  rw[List.filter_filter];refine Ft fun e _=>?_;rw[Array.contains_push,Bool.not_or,Bool.and_comm]
 rw[h1];have J:((es.filter (fun e=>!I.contains e.born)).map (·.born)).Nodup:=(List.filter_sublist.map _).nodup hn;generalize es.filter (fun e=>!I.contains e.born)=l at hi J;clear h1 hn
 induction l generalizing i with
 | nil=>simp at hi
 | cons a l ih=>
  rw[lk,JS] at J;cases i with
  | zero=>
   simp only[k8,List.eraseIdx_cons_zero];rw[N2 iz];rw[List.filter_eq_self];intro e he;simp only[tc,beq_eq_false_iff_ne];intro h;exact J.1 (h ▸ List.mem_map.2 ⟨e,he,rfl⟩)
  | succ i=>
   simp only[lh,List.eraseIdx_cons_succ];have M:i<l.length:=by simpa using hi
   rw[N3]
   ·rw[ih M J.2]
   ·simp only[tc,beq_eq_false_iff_ne];intro h;exact J.1 (h ▸ List.mem_map.2 ⟨l[i],gv M,rfl⟩)
theorem run_next_map    {I:Nat} {left:List MapEntry} (h:zP w r b es I left) (hb:w.heap[b]?=some (.map es I)) (aa:∀ e ∈ es.toList,e.born<I) (hn:(es.toList.map (·.born)).Nodup) (ty:TypeId) :
  (left=[]/\(Instr.next (.pointer (some ⟨r,0,none⟩)) false ty).run P w=.ok (.tuple (gj false)) w) \/
  ∃ (i:Nat) (hi:i<left.length) (w':World),(Instr.next (.pointer (some ⟨r,0,none⟩)) false ty).run P w=.ok (.tuple #[.bool true,left[i].key,left[i].val]) w'/\zP w' r b es I (left.eraseIdx i)/\Mod (fun i=>i=r) w w'/\w'.heap.size=w.heap.size /\
   ∀ M:World,M.heap[r]?=w'.heap[r]?->M.heap[b]?=some (.map es I)->(Instr.entry (.pointer (some ⟨r,0,none⟩))).run P M=.ok (.tuple #[left[i].key,left[i].val]) M:=by
 obtain⟨J,hr,hl⟩:=h;have hg:(!J.isEmpty && !es.isEmpty&&es.all (·.born ≥ I))=false:=by
  cases he:es.toList with
  | nil=>(have:es=#[]:=by simpa using he);subst this;simp
  | cons e l=>
   have h1:=aa e (by rw[he];simp);have:es.all (fun x=>decide (x.born ≥ I))=false:=by
    rw[<-Array.all_toList,he,C0];simp;intro h;omega
   rw[this,Bool.and_false]
 have ac:(es.filter fun e:MapEntry=>!J.contains e.born).toList=left:=by rw[hl];simp
 have ae:(es.filter fun e:MapEntry=>!J.contains e.born).filter (fun e=>decide (e.born<I))=es.filter fun e:MapEntry=>!J.contains e.born:=by
  apply Array.toList_inj.1;rw[Array.toList_filter,ac,List.filter_eq_self];intro e he;rw[hl] at he;simpa using aa e (List.mem_filter.1 he).1
 have af:(es.filter fun e:MapEntry=>!J.contains e.born).filter (fun e=>decide (e.born ≥ I))=#[]:=by
  apply Array.toList_inj.1;rw[Array.toList_filter,ac,List.filter_eq_nil_iff.2];intro e he;rw[hl] at he;have:=aa e (List.mem_filter.1 he).1;simp;omega
 have ax:∀ w1:World,True:=fun _=>trivial;cases ag:left with
 | nil=>
  left;refine⟨rfl,?_⟩;have aq:(es.filter fun e:MapEntry=>!J.contains e.born)=#[]:=by apply Array.toList_inj.1;rw[ac,ag]
  simp only[Instr.next,j9,j6 hr,kx,tG hb,hg,kO,if_false,kz,ae,af,aq];simp[choose,Sem.run,Question.forced]
 | cons e0 l0=>
  right;have ak:(es.filter fun e:MapEntry=>!J.contains e.born).isEmpty=false:=by
   rw[<-Array.isEmpty_toList,ac,ag];rfl
  have aw:((es.filter fun e:MapEntry=>!J.contains e.born)++#[]).size=left.length:=by rw[Array.append_empty,<-Fi,ac]
  have key:∀ i (hi:i<left.length) (w1:World),w1.heap=w.heap->w1.os=w.os->w1.tape=w.tape->w1.output=w.output ->
    zP (setBlock w1 r (.mapIter (some b) I (J.push left[i].born) I)) r b es I (left.eraseIdx i)/\Mod (fun i=>i=r) w (setBlock w1 r (.mapIter (some b) I (J.push left[i].born) I)) /\
     (setBlock w1 r (.mapIter (some b) I (J.push left[i].born) I)).heap.size=w.heap.size /\
     (∀ M:World,M.heap[r]?=(setBlock w1 r (.mapIter (some b) I (J.push left[i].born) I)).heap[r]?->M.heap[b]?=some (.map es I)->(Instr.entry (.pointer (some ⟨r,0,none⟩))).run P M=.ok (.tuple #[left[i].key,left[i].val]) M):=by
   intro i hi w1 h1 h2 h3 h4;have az:w1.heap[r]?=some (.mapIter (some b) I J I):=by rw[h1];exact hr
   have ao:(setBlock w1 r (.mapIter (some b) I (J.push left[i].born) I)).heap[r]?=some (.mapIter (some b) I (J.push left[i].born) I):=kD az;refine⟨⟨_,ao,?_⟩,⟨h2,h3,h4,by rw[vQ,h1];exact fy _,fun k hk aA=>by rw[mg (fun e=>aA e.symm),h1]⟩,by rw[vQ,h1],fun M g1 g2=>?_⟩
   ·subst hl;exact(filter_push es.toList J hn hi).symm
   ·rw[ao] at g1;have am:∀ x ∈ left,x ∈ es.toList:=by rw[hl];exact fun x hx=>(List.mem_filter.1 hx).1
    have ap:left[i] ∈ es.toList:=am _ (gv hi);have al:es.find? (fun x=>x.born==left[i].born)=some left[i]:=by
     obtain⟨j,hj⟩:=List.getElem?_of_mem ap;have ar:es.toList.find? (fun x=>x.born==left[i].born)=some left[i]:=by
      have:∀ (l:List MapEntry) (j:Nat),(l.map (·.born)).Nodup->l[j]?=some left[i]->l.find? (fun x=>x.born==left[i].born)=some left[i]:=by
       intro l
       induction l with
       | nil=>intro j _ h;simp at h
       | cons x l ih=>
        intro j hn h;rw[lk,JS] at hn;cases j with
        | zero=>simp at h;subst h;simp
        | succ j=>
         have h':l[j]?=some left[i]:=by simpa using h
         have ak:¬ x.born=left[i].born:=fun e=>hn.1 (e ▸ List.mem_map.2 ⟨left[i],pS h',rfl⟩);rw[List.find?_cons_of_neg (by simpa using ak)];exact ih j hn.2 h'
      exact this _ j hn hj
     obtain⟨es⟩:=es;simpa using ar
    simp only[Instr.entry,j9,j6 g1,kx,tG g2,Array.back?_push,bne_self_eq_false,kO,if_false,kz,al]
  have ad:∀ i (hi:i<left.length),(((#[]:Array (Option MapEntry))++((es.filter fun e:MapEntry=>!J.contains e.born)++#[]).map some)[i]?)=some (some left[i]):=by
   intro i hi;rw[Array.append_empty,<-tP];simp only[Array.toList_append,I0,ac];simp[hi]
  rw[<-ag];have an:((#[]:Array (Option MapEntry))++((es.filter fun e:MapEntry=>!J.contains e.born)++#[]).map some).size=left.length:=by simp only[ID,Array.size_map,aw];simp
  have ab:0<left.length:=by rw[ag];simp
  by_cases hf:left.length<=1
  ·refine⟨0,ab,setBlock w r (.mapIter (some b) I (J.push left[0].born) I),?_,key 0 ab w rfl rfl rfl rfl⟩;simp only[Instr.next,j9,j6 hr,kx,tG hb,hg,kO,if_false,kz,ae,af,ak];have hc:(choose (.mapNext ((#[]:Array (Option MapEntry))++((es.filter fun e:MapEntry=>!J.contains e.born)++#[]).map some).size):Sem Nat).run P w=.ok 0 w:=by
    rw[an];simp[choose,Sem.run,Question.forced,hf]
   rw[hc];simp only[kx,ad 0 ab,j9,rW hr,kz]
  ·have ai:w.tape w.drawn (.mapNext left.length) % left.length<left.length:=sn _ ab;refine⟨_,ai,setBlock w.drew r (.mapIter (some b) I (J.push (left[w.tape w.drawn (.mapNext left.length) % left.length]'ai).born) I),?_,key _ ai w.drew rfl rfl rfl rfl⟩;simp only[Instr.next,j9,j6 hr,kx,tG hb,hg,kO,if_false,kz,ae,af,ak];have hc:(choose (.mapNext ((#[]:Array (Option MapEntry))++((es.filter fun e:MapEntry=>!J.contains e.born)++#[]).map some).size):Sem Nat).run P w=.ok (w.tape w.drawn (.mapNext left.length) % left.length) w.drew:=by
    rw[an];simp[choose,Sem.run,Question.forced,hf,Question.cut]
   rw[hc];simp only[kx,ad _ ai,j9,rW (w:=w.drew) hr,kz]
end
variable {assign:Code}{Q:Exit->Act->World->Prop}{a:Act}{w w0:World}{F0:Nat->Prop}
theorem Dx {α:Type} {P:Program} {g:Operand} {ps:Array Tmp} {body:Code}    {gf:Nat} {lb:Array Value}
  (hg:a.eval g=.func (.func gf) #[] lb) (eg:∀ args w,(callFunc gf args).run P w=.ok (.enter gf args) w) {E:World->Prop} {Z:Nat->aT} {enc:α->Array Value} {xs:List α}
  (al:Qe P gf lb E Z enc xs) (hZ:∀ i,(Z i).Ok) (am:∀ x,(enc x).size=ps.size)
    (hE:∀ W,Mod F0 w0 W->E W) (I:Nat->aT) (Ix:Code->aT) (hI:∀ i,(I i).Ok) (I2:Nat->Act->aT) (ag:∀ i a,(I2 i a).Ok) (ac:∀ c,(Ix c).Ok) (h0:aI F0 w0 (aj (Z 0) (I 0)) w)
  (ab:∀ (l m i:Nat) (hi:i<xs.length) (R:aT) (W:World) (K:Act->World->Prop),R.Ok->aI F0 w0 (aj (I i) R) W->(∀ a' W',aI F0 w0 (aj (I2 i a') R) W'->K a' W') ->
   assign.wpIn (Fence.wide.inRound l) m P (Exit.then K (fun _ _ _=>False)) { tmps:=(ps.zip (enc xs[i])).foldl (fun t (p,v)=>t.setIfInBounds p v) a.tmps,defers:=[] } W)
  (hbody:∀ (l m i:Nat) (hi:i<xs.length) (a':Act) (R:aT) (W:World),R.Ok->aI F0 w0 (aj (I2 i a') R) W->body.wpIn (Fence.wide.inRound l) m P (IE F0 w0 R (I (i+1)) Ix) a' W)
  (hdone:∀ (D:Nat) (R:aT) (W:World),R.Ok->aI F0 w0 (aj (I xs.length) (aj (aW D (.deferred (some []))) R)) W->Q .normal { a with defers:={ target:=.collected D,args:=#[] } :: a.defers } W)
  (hstop:∀ (D:Nat) (c:Code) (R:aT) (W:World),R.Ok->aI F0 w0 (aj (Ix c) (aj (aW D (.deferred (some []))) R)) W->c.wp P Q { a with defers:={ target:=.collected D,args:=#[] } :: a.defers } W) :
  (Code.rangeFunc g ps assign body).wp P Q a w:=by
 refine(wpIn_wide (n:=8)).1 ?_;refine wpIn_rangeFunc ?_;intro fn ak;obtain⟨J,aa⟩:∃ J:LoopState->Option Code->Loop,J=fun st pe=>{ state:=st,pending:=pe,fn,tmps:=a.tmps,params:=ps,assign,body,defers:=w.heap.size }:=⟨_,rfl⟩;obtain⟨W1,af⟩:∃ W1,(w.alloc (.deferred (some []))).alloc (.loop (J .ready none))=W1:=⟨_,rfl⟩;obtain⟨l,hl⟩:∃ l,l=w.heap.size+1:=⟨_,rfl⟩;obtain⟨D,hD⟩:∃ D,D=w.heap.size:=⟨_,rfl⟩;have R1:aI F0 w0 (aj (Z 0) (aj (aW l (.loop (J .ready none))) (aj (aW D (.deferred (some []))) (I 0)))) W1:=by
  have o1:=aB (hZ 0) (hI 0);have h1:=h0.fresh o1 (uZ w (.deferred (some [])));have h2:=h1.fresh (aB bg o1) (uZ (w.alloc (.deferred (some []))) (.loop (J .ready none)));have e1:(w.alloc (.deferred (some []))).heap.size=l:=by rw[hl];simp
  rw[e1,<-hD] at h2;rw[af] at h2;exact h2.perm (by ac_rfl)
 have ar:(aW D (.deferred (some []))).Ok:=bg
 refine⟨l,[{ target:=.collected w.heap.size,args:=#[] }],W1,{ target:=.fn (.func gf) lb,args:=#[.func (.yield l) #[] #[]] },W1,gf,
  #[.func (.yield l) #[] #[]]++lb,W1,?_,?_,?_,?_,fun _=>by omega,?_⟩
 ·rw[<-af,aa,hl];exact run_enterLoop_outer _ _ _ _ _
 ·simp only[resolve,hg];simp[go_sem]
 ·intro f' ax;trivial
 ·simp[invoke,go_sem,eg]
 ·refine(al (8-1) l W1 F0 w0 (fun i=>aj (aW l (.loop (J .ready none))) (aj (aW D (.deferred (some []))) (I i)))
   (D1 fun c=>aj (aW l (.loop (J .done (some c)))) (aj (aW D (.deferred (some []))) (Ix c)))
   (fun i=>aB bg (aB bg (hI i))) (IC fun c=>aB bg (aB bg (ac c))) hE R1 ?_).mono ?_
  ·-- one round
   intro i hi W hR;have ai:(aj (aW D (.deferred (some []))) (aj (Z i) (I i))).Ok:=aB bg (aB (hZ i) (hI i));have ae:=hR.perm (by ac_rfl:_=aj (aW l (.loop (J .ready none))) (aj (aW D (.deferred (some []))) (aj (Z i) (I i))));obtain⟨FL,hL,-,bk⟩:=ae.take bg ai;have hy:=run_yield (P:=P) (args:=enc xs[i]) hL.1 (by rw[aa];exact am _);rw[aa] at hy;refine⟨fn,_,assign,body,hy,roundIn_of_wpIn ak (ab l _ i hi (aj (aW l (.loop (J .ready none))) (aj (aW D (.deferred (some []))) (Z i))) W _ (aB bg (aB bg (hZ i))) (ae.perm (by ac_rfl)) ?_)⟩;intro a' W' ao;obtain⟨aw,ad,-,ap⟩:=(ao.perm (by ac_rfl:_=aj (aW l (.loop (J .ready none))) (aj (aW D (.deferred (some []))) (aj (Z i) (I2 i a'))))).take bg (aB bg (aB (hZ i) (ag i a')));refine⟨_,run_beginRound ad.1 (by rw[aa]),?_⟩;have hB:=ap _ _ (fH ad (.loop { J .ready none with state:=.busy }));have aq:(aj (aW l (.loop { J .ready none with state:=.busy })) (aj (aW D (.deferred (some []))) (Z i))).Ok:=aB bg (aB bg (hZ i));refine wpIn_mono (hbody l _ i hi a' (aj (aW l (.loop { J .ready none with state:=.busy })) (aj (aW D (.deferred (some []))) (Z i))) _ aq (hB.perm (by ac_rfl))) ?_;have fin:∀ (M:Option Code) (W3:World) (O:aT),O.Ok->aI F0 w0 (aj O (aj (aW l (.loop { J .ready none with state:=.busy })) (aj (aW D (.deferred (some []))) (Z i)))) W3 ->
     ∃ W4,(Instr.endRound l M).run P W3=.ok (.bool M.isNone) W4/\aI F0 w0 (aj (Z i) (aj (aW l (.loop (J (if M.isNone then .ready else .done) M))) (aj (aW D (.deferred (some []))) O))) W4:=fun M W3 O hO h3=>by
    have h4:=h3.perm (by ac_rfl:_=aj (aW l (.loop { J .ready none with state:=.busy })) (aj (aW D (.deferred (some []))) (aj (Z i) O)));obtain⟨FL,hL,-,bk⟩:=h4.take bg (aB bg (aB (hZ i) hO));refine⟨_,run_endRound (P:=P) M hL.1,?_⟩;have h5:=bk _ _ (fH hL (.loop { { J .ready none with state:=.busy } with state:=if M.isNone then .ready else .done,pending:=M }));have e5:({ { J .ready none with state:=.busy } with state:=if M.isNone then .ready else .done,pending:=M }:Loop)=J (if M.isNone then .ready else .done) M:=by rw[aa]
    rw[e5] at h5 ⊢;exact h5.perm (by ac_rfl)
   rintro e a3 W3 hp;cases e with
   | normal=>
    obtain⟨W4,h4,h5⟩:=fin none W3 _ (hI (i+1)) hp;exact⟨_,_,h4,.inl ⟨rfl,h5⟩⟩
   | ret=>
    obtain⟨W4,h4,h5⟩:=fin (some .ret) W3 _ (ac .ret) hp;exact⟨_,_,h4,.inr ⟨rfl,h5.imp fun w F hh=>bD hh (fun _ h=>h) (fun _ h=>⟨.ret,h⟩)⟩⟩
   | exit id=>
    obtain⟨W4,h4,h5⟩:=fin (some (.exit id)) W3 _ (ac (.exit id)) hp;exact⟨_,_,h4,.inr ⟨rfl,h5.imp fun w F hh=>bD hh (fun _ h=>h) (fun _ h=>⟨.exit id,h⟩)⟩⟩
   | goto t=>
    obtain⟨W4,h4,h5⟩:=fin (some (.goto t)) W3 _ (ac (.goto t)) hp;exact⟨_,_,h4,.inr ⟨rfl,h5.imp fun w F hh=>bD hh (fun _ h=>h) (fun _ h=>⟨.goto t,h⟩)⟩⟩
   | panic ch=>exact hp.elim
   | outgrown=>exact hp.elim
  ·-- behind the iterator
   have fin:∀ (st:LoopState) (pe:Option Code) (W2:World) (i:Nat) (O:aT),O.Ok->st≠.busy->aI F0 w0 (aj (Z i) (aj (aW l (.loop (J st pe))) (aj (aW D (.deferred (some []))) O))) W2 ->
     ∃ W4 R,R.Ok/\(Instr.endLoop l).run P W2=.ok pe W4/\aI F0 w0 (aj O (aj (aW D (.deferred (some []))) R)) W4:=fun st pe W2 i O hO an h3=>by
    have h4:=h3.perm (by ac_rfl:_=aj (aW l (.loop (J st pe))) (aj (aW D (.deferred (some []))) (aj (Z i) O)));obtain⟨FL,hL,-,bk⟩:=h4.take bg (aB bg (aB (hZ i) hO));have he:=run_endLoop (P:=P) hL.1 (by rw[aa];exact an);have e6:(J st pe).pending=pe:=by rw[aa]
    have he:=he.trans (congrArg (fun p=>Result.ok p (W2.putObj l (.loop { J st pe with state:=.exhausted }))) e6);have hp:=fH hL (.loop { J st pe with state:=.exhausted });generalize Obj.loop { J st pe with state:=.exhausted }=o4 at he hp;have h5:=bk _ _ hp;exact⟨_,aj (aW l o4) (Z i),aB bg (hZ i),he,h5.perm (by ac_rfl:_=aj O (aj (aW D (.deferred (some []))) (aj (aW l o4) (Z i))))⟩
   rintro e W2 ⟨⟨v,rfl⟩,h2|⟨i,h2⟩⟩
   ·obtain⟨W4,R,hR,he,h4⟩:=fin .ready none W2 _ _ (hI _) iz h2;rw[<-hD];exact⟨none,_,he,hdone D R W4 hR h4⟩
   ·have h3:∃ c,aI F0 w0 (aj (Z i) (aj (aW l (.loop (J .done (some c)))) (aj (aW D (.deferred (some []))) (Ix c)))) W2:=by
     obtain⟨⟨F,⟨F1,F2,g1,⟨c,g2⟩,g3,g4⟩,hF⟩,hm⟩:=h2;exact⟨c,⟨⟨F,⟨F1,F2,g1,g2,g3,g4⟩,hF⟩,hm⟩⟩
    obtain⟨c,h3⟩:=h3;obtain⟨W4,R,hR,he,h4⟩:=fin .done (some c) W2 _ _ (ac c) iz h3;rw[<-hD];exact⟨some c,_,he,(wpIn_wide (n:=8)).2 (hstop D c R W4 hR h4)⟩
section
variable {P:Program} {ops:Array Oper} {Q:Exit→Act→World→Prop} {S:World→Prop} {s:Nat}
def K8 (ops:Array Oper) (i:Nat):Nat->List Nat->Bool
 | s,[]=>waits ops s i
 | s,k::ks=>waits ops s k&&K8 ops i k ks
variable {i:Nat}{I:Array Bool}{oi:Oper}{v:Value}
theorem Dm   (h:waits ops s i=true) (h0:I.getD i true=false):s ∉ Region.ready .any ops I:=by
 intro hs;obtain⟨-,o,ho,J⟩:=mem_ready.1 hs;unfold waits at h;rw[ho] at h;simp only[Array.any_eq_true,gA,beq_iff_eq] at h;obtain⟨k,hk,h1,h2⟩:=h;have M:=J _ (Array.getElem_mem hk) h1;rw[h2] at M;rcases tA i I.size with h'|h'
 ·simp[h'] at h0 M;rw[h0] at M;cases M
 ·simp[tb h'] at M
theorem K9 {i:Nat} {I:Array Bool} (h0:I.getD i true=false):∀ (J:List Nat) (s:Nat),K8 ops i s J=true->(∀ k ∈ J,I.getD k true=false)->s ∉ Region.ready .any ops I/\∀ k ∈ J,k ∉ Region.ready .any ops I
 | [],s,h,_=>⟨Dm h h0,fun _ h=>by cases h⟩
 | k::J,s,h,hu=>by
  unfold K8 at h;rw[gA] at h;obtain⟨h1,h2⟩:=K9 h0 J k h.2 (fun k hk=>hu k (pP _ hk));exact⟨Dm h.1 (hu k (mz ..)),fun x M=>by rcases List.mem_cons.1 M with rfl|M;exact h1;exact h2 x M⟩
theorem EG  {ks:List Nat}   (hi:ops[i]?=some oi) (ac:∀ (j:Nat) (o:Oper) cs b,ops[j]?=some o->o.op≠.select cs b) (hQ:∀ c a w,Q (.panic c) (a.put oi.dst v) w->Q (.panic c) a w) (hw:K8 ops i s ks=true) (az:i≠s) :
  ∀ (J:Nat) (I:Array Bool) (a:Act) (w:World),(∀ k ∈ ks,I.getD k true=false) ->
   (∀ j oj,ops[j]?=some oj->j≠i->I.getD j true=false->(∀ e ∈ oj.after,Region.binds .any e=true->e.on≠i)->oi.apart ops oj=true) ->
   i ∈ Region.ready .any ops I->I.getD s true=false->YieldsIf P ops S oi v a->S w->iK P ops Q S s J (I.setIfInBounds i true) (a.put oi.dst v) w->iK P ops Q S s (J+1) I a w:=by
 intro J
 induction J with
 | zero=>
  intro I a w _ _ hr ae hy hS H;refine⟨fun h=>(by rw[h] at hr;cases hr),fun j hj=>?_⟩;by_cases M:j=i
  ·subst M;exact hy.wpOp hi hS ⟨fun _=>hS,H⟩
  ·have:=ready_mono hj M;rw[H.1] at this;cases this
 | succ J ih=>
  intro I a w ao aa hr ae hy hS H;refine⟨fun h=>(by rw[h] at hr;cases hr),fun j hj=>?_⟩;by_cases M:j=i
  ·subst M;exact hy.wpOp hi hS ⟨fun _=>hS,H⟩
  ·obtain⟨ap,ar⟩:=K9 (mem_ready.1 hr).1 ks s hw ao;have ai:j≠s:=fun e=>ap (e ▸ hj);have h1:=H.2 j (ready_mono hj M);obtain⟨ad,oj,af,ag⟩:=mem_ready.1 hj;have ak:∀ e ∈ oj.after,Region.binds .any e=true->e.on≠i:=fun e he hb aw=>by
    have h1:=ag e he hb;have h0:=(mem_ready.1 hr).1;rw[aw] at h1;rcases tA i I.size with h'|h'
    ·simp[h'] at h0 h1;rw[h0] at h1;cases h1
    ·simp[tb h'] at h1
   have h2:=wpOp_putIf af (aa j oj af M ad ak) (fun cs b=>ac i oi cs b hi) (fun cs b=>ac j oj cs b af) hQ hy h1;have ab:∀ k ok,ops[k]?=some ok->k≠i->(I.setIfInBounds j true).getD k true=false ->
     (∀ e ∈ ok.after,Region.binds .any e=true->e.on≠i)->oi.apart ops ok=true:=fun k ok hk aq an ax=>by
    refine aa k ok hk aq ?_ ax;by_cases al:j=k
    ·subst al;exact ad
    ·rw[getD_set_ne true al] at an;exact an
   refine wpOp_mono (fun a' w' h3=>?_) h2;have am:S w':=h3.2.1 (nA ai (nA az ae));refine⟨fun _=>am,ih (I.setIfInBounds j true) a' w' (fun k hk=>nA (fun e=>ar k hk (e ▸ hj)) (ao k hk)) ab (ready_mono hr (px M)) (nA ai ae) h3.1 am ?_⟩;rw[B3 _ _ M];exact h3.2.2
theorem yj  (ks:List Nat)   {J:Nat}    (hi:ops[i]?=some oi) (hs:Region.noSelect ops=true) (hf:Region.free .any ops I i=true) (hr:(Region.ready .any ops I).contains i=true)
  (M:(K8 ops i s ks&&(i != s && !(I.getD s true))&&ks.all fun k=>!(I.getD k true))=true) (hQ:∀ c a w,Q (.panic c) (a.put oi.dst v) w->Q (.panic c) a w) (hy:YieldsIf P ops S oi v a) (hS:S w)
  (h:iK P ops Q S s J (I.setIfInBounds i true) (a.put oi.dst v) w):iK P ops Q S s (J+1) I a w:=by
 simp only[gA,bne_iff_ne,ne_eq,tc,j8] at M;exact EG hi (zg hs) hQ M.1.1 M.1.2.1 J I a w (fun k hk=>M.2 k hk) (Gk hi hf) (by simpa using hr) M.1.2.2 hy hS h
end
variable {l:List aT}{vs:Nat->Value}{i:Nat}{v:Value}{w':World}{Z:Value->World->Prop}{K:Act->World->Prop}{dst:Option Tmp}
theorem Zq {m:List aT}:aL (l++m)=aj (aL l) (aL m):=by
 induction l with
 | nil=>exact(jA _).symm
 | cons a l ih=>show aj a (aL (l++m))=_;rw[ih];exact(vM _ _ _).symm
theorem J7 {m:List aT} (h:l.Perm m):aL l=aL m:=by
 induction h with
 | nil=>rfl
 | cons a _ ih=>show aj a _=aj a _;rw[ih]
 | swap a b l=>show aj b (aj a _)=aj a (aj b _);ac_rfl
 | trans _ _ h1 h2=>exact h1.trans h2
def upd (vs:Nat->Value) (i:Nat) (v:Value):Nat->Value:=fun k=>if k=i then v else vs k
theorem eY   :upd vs i v i=v:=if_pos rfl
theorem upd_ne  {k:Nat}  (h:k≠i):upd vs i v k=vs k:=if_neg h
def oJ:List Oper->Nat->(Nat->Value)->Act->Act
 | [],_,_,a=>a
 | o::r,k,vs,a=>oJ r (k+1) vs (a.put o.dst (vs k))
section
variable {P:Program} {ops:Array Oper} {cons:List (List Nat)} {a0:Act}
def iy (ops:Array Oper) (k:Nat):Option Tmp:=(ops[k]?).bind (·.dst)
def TM (ops:Array Oper) (i j:Nat):Prop:=((Region.before ops).getD i 0).testBit j=true
def qJ (cons:List (List Nat)) (i:Nat):List Nat:=cons.getD i []
structure Slots (ops:Array Oper) (a0:Act) (L:Nat->Prop) (vs:Nat->Value) (a:Act):Prop where
 df:a.defers=a0.defers
 sz:a.tmps.size=a0.tmps.size
 on:∀ k d,L k->iy ops k=some d->a.tmps[d]?=some (vs k)
 off:∀ t,(∀ k,L k->iy ops k≠some t)->a.tmps[t]?=a0.tmps[t]?
def Et (P:Program) (ops:Array Oper) (o:Oper) (a:Act) (w:World) (Z:Value->World->Prop):Prop:=
 if Region.wanted o (yielded ops a.tmps) then
  match (execOp a.eval o).run P w with
  | .ok (.value v) w'=>Z v w'
  | .ok .skip w'=>Z undef w'
  | .ok (.enter f args) w'=>Calls P f args w' fun e h=>∃ v,e=.returned v/\Z v h
  | _=>False
 else Z undef w
theorem Ay {o:Oper}     (hw:Region.wanted o (yielded ops a.tmps)=true) (h:(execOp a.eval o).run P w=.ok (.value v) w') (hz:Z v w'):Et P ops o a w Z:=by
 unfold Et;rw[if_pos hw,h];exact hz
theorem XX {o:Oper}    (hw:Region.wanted o (yielded ops a.tmps)=true) (h:(execOp a.eval o).run P w=.ok .skip w') (hz:Z undef w'):Et P ops o a w Z:=by
 unfold Et;rw[if_pos hw,h];exact hz
theorem g_call {o:Oper}    {f:FuncId} {args:Array Value} (M:Region.wanted o (yielded ops a.tmps)=true) (h:(execOp a.eval o).run P w=.ok (.enter f args) w') (J:Calls P f args w' fun e I=>∃ v,e=.returned v/\Z v I):Et P ops o a w Z:=by
 unfold Et;rw[if_pos M,h];exact J
theorem X1 {o:Oper}      {i:Nat} (hi:ops[i]?=some o) (h:Et P ops o a w Z) (I:∀ v w',Z v w'->K (a.put o.dst v) w'):wpOp P ops Q i K a w:=by
 unfold wpOp;unfold Et at h;simp only[hi];split
 ·rename_i J;rw[if_pos J] at h;refine .inl ?_;unfold Oper.wp;generalize (execOp a.eval o).run P w=r at *
  cases r with
  | ok nx w'=>
   cases nx<;>simp only[Oper.upon] at h ⊢ <;> first
    | exact I _ _ h
    | exact C2 h (fun e aa he=>by obtain⟨v,rfl,M⟩:=he;exact I _ _ M)
    | exact h.elim
  | halt x w'=>exact h.elim
 ·rename_i J;rw[if_neg J] at h;exact I _ _ h
def Ii (ops:Array Oper) (cons:List (List Nat)) (n:Nat):Bool:=
 Im ops (Region.before ops) &&
 ((List.range ops.size).all fun i=>
  (match ops[i]? with|some o=>o.after.all (fun e=>!Region.binds .any e||e.on<i)|none=>false) &&
  (match iy ops i with|some d=>decide (d<n)|none=>true) &&
  decide ((qJ cons i).Nodup)&&((qJ cons i).all fun j=>decide (j<i)&&((Region.before ops).getD i 0).testBit j) &&
  (List.range ops.size).all fun k=>i==k||(((iy ops i).isNone||iy ops i != iy ops k)&&(qJ cons i).all fun j=>!(qJ cons k).contains j))
def jT (ops:Array Oper) (cons:List (List Nat)) (L:Nat->Bool):List Nat:=(List.range ops.size).filter fun i=>L i&&(List.range ops.size).all fun k=>!(L k&&(qJ cons k).contains i)
theorem PG    {t:Nat}:(a.put dst v).tmps[t]?=if dst=some t/\t<a.tmps.size then some v else a.tmps[t]?:=by
 cases dst with
 | none=>simp[Act.put]
 | some d=>
  simp only[Act.put,Option.some.injEq];rw[Array.getElem?_setIfInBounds];by_cases h:d=t
  ·subst h;by_cases I:d<a.tmps.size
   ·simp[I]
   ·simp[I]
  ·simp[h]
theorem U8   :(a.put dst v).defers=a.defers/\(a.put dst v).tmps.size=a.tmps.size:=by cases dst<;>simp[Act.put]
theorem FK {L:Nat->Prop} {vs:Nat->Value}  {i:Nat} {o:Oper}  (h:Slots ops a0 L vs a) (hi:ops[i]?=some o) (hn:¬ L i) (hd:∀ d,o.dst=some d->d<a0.tmps.size) (hu:∀ k,L k->o.dst≠none->iy ops k≠o.dst) :
  Slots ops a0 (fun k=>k=i\/L k) (upd vs i v) (a.put o.dst v):=by
 have e:iy ops i=o.dst:=by unfold iy;rw[hi];rfl
 refine⟨U8.1.trans h.df,U8.2.trans h.sz,fun k d J I=>?_,fun t ht=>?_⟩
 ·rw[PG];rcases J with rfl|J
  ·rw[e] at I;rw[if_pos ⟨I,by rw[h.sz];exact hd d I⟩,eY]
  ·have:k≠i:=fun e=>hn (e ▸ J);rw[if_neg,upd_ne this]
   ·exact h.on k d J I
   ·rintro⟨M,-⟩;exact hu k J (by rw[M];simp) (by rw[M];exact I)
 ·rw[PG,if_neg]
  ·exact h.off t fun k J=>ht k (.inr J)
  ·rintro⟨M,-⟩;exact ht i (.inl rfl) (e.trans M)
theorem xQ {vs:Nat->Value}:∀ (l:List Oper) (k:Nat) (a:Act),(∀ j,l[j]?=ops[k+j]?)->(∀ i d,iy ops i=some d->d<a0.tmps.size)->(∀ i j d,i<j->iy ops i=some d->iy ops j≠some d)->Slots ops a0 (fun i=>i<k) vs a ->
  Slots ops a0 (fun i=>i<k+l.length) vs (oJ l k vs a)
 | [],k,a,_,_,_,h=>h
 | o::l,k,a,hl,hd,hu,h=>by
  have h0:ops[k]?=some o:=by simpa using (hl 0).symm
  have e:iy ops k=o.dst:=by unfold iy;rw[h0];rfl
  have I:=FK (v:=vs k) h h0 (mn k) (fun d M=>hd k d (e.trans M)) (fun j hj hn J=>by
   cases ho:o.dst with
   | none=>exact hn ho
   | some d=>exact hu j k d hj (J.trans ho) (e.trans ho))
  have e2:upd vs k (vs k)=vs:=by funext j;unfold upd;split<;>simp_all
  rw[e2] at I;have ih:=xQ l (k+1) (a.put o.dst (vs k)) (fun j=>by have:=hl (j+1);simpa[vq,vr 1 j] using this) hd hu ⟨I.df,I.sz,fun j d hj=>I.on j d eL,fun t ht=>I.off t fun j hj=>ht j eL⟩;have e3:k+(o::l).length=k+1+l.length:=by rw[j7];omega
  rw[e3];exact ih
theorem U9 {L:Nat->Prop} {vs:Nat->Value} {b:Act} (M:Slots ops a0 L vs a) (J:Slots ops a0 L vs b):a=b:=by
 have e1:a.defers=b.defers:=M.df.trans J.df.symm;have e2:a.tmps=b.tmps:=by
  refine Array.ext_getElem? fun t=>?_;by_cases h:∃ k,L k/\iy ops k=some t
  ·obtain⟨k,h1,h2⟩:=h;rw[M.on k t h1 h2,J.on k t h1 h2]
  ·rw[M.off t fun k I hd=>h ⟨k,I,hd⟩,J.off t fun k I hd=>h ⟨k,I,hd⟩]
 cases a;cases b;simp_all
theorem tZ {id:Nat} {l:List Oper}   {F0:Nat->Prop} (cons:List (List Nat)) (H:Nat->(Nat->Value)->Prop) (R:Nat->(Nat->Value)->aT) {X0:aT} (hm:P.follows .mixedOrders=true)
  (bi:Ii l.toArray cons a0.tmps.size=true)
  (bj:∀ j vs a7,(∀ k,k=j\/(k<j/\TM l.toArray j k)->vs k=a7 k)->(H j vs->H j a7)/\R j vs=R j a7)
  (bw:X0.Ok) (hR:∀ j vs,(R j vs).Ok) (h0:aI F0 w0 X0 w.drew)
  (a1:∀ i o,l.toArray[i]?=some o->∀ (L:Nat->Prop) (a:Act) (vs:Nat->Value) (W:World) (X:aT),X.Ok->(∀ k,TM l.toArray i k->k<i->L k)->Slots l.toArray a0 L vs a->(∀ k,L k->H k vs)->aI F0 w0 (aj (aL ((qJ cons i).map fun j=>R j vs)) X) W ->
   Et P l.toArray o a W fun v W'=>H i (upd vs i v)/\aI F0 w0 (aj (R i (upd vs i v)) X) W')
  (fin:∀ (vs:Nat->Value) (W:World),(∀ j,j<l.length->H j vs)->aI F0 w0 (aj (aL ((jT l.toArray cons fun _=>true).map fun j=>R j vs)) X0) W->Q .normal (oJ l 0 vs a0) W) :
  (Code.region id l.toArray true).wp P Q a0 w:=by
 refine wp_region_any hm ?_;obtain⟨ops,ao⟩:∃ ops,ops=l.toArray:=⟨_,rfl⟩;have b8:ops.size=l.length:=by rw[ao];simp
 rw[<-ao] at bi bj a1 fin ⊢;have J:=bi;simp only[Ii,gA,j8,qk] at J;obtain⟨ar,ac⟩:=J;have a3:∀ i d,iy ops i=some d->d<a0.tmps.size:=fun i d hd=>by
  have hi:i<ops.size:=by
   by_cases h:i<ops.size
   ·exact h
   ·unfold iy at hd;rw[tb eL] at hd;cases hd
  have:=(ac i hi).1.1.1.2;rw[hd] at this;simpa using this
 have aE:∀ i j d,i≠j->iy ops i=some d->iy ops j≠some d:=fun i j d bo hd bm=>by
  have hi:∀ i,iy ops i=some d->i<ops.size:=fun i hd=>by
   by_cases h:i<ops.size
   ·exact h
   ·unfold iy at hd;rw[tb eL] at hd;cases hd
  have:=(ac i (hi i hd)).2 j (hi j bm);rw[hd,bm] at this;simp at this;exact bo this
 have ak:∀ i,i<ops.size->(qJ cons i).Nodup/\∀ j ∈ qJ cons i,j<i/\TM ops i j:=fun i hi=>by
  obtain⟨⟨⟨-,h1⟩,h2⟩,-⟩:=ac i hi;refine⟨of_decide_eq_true h1,fun j hj=>?_⟩;have:=h2 j hj;exact⟨of_decide_eq_true this.1,this.2⟩
 have bh:∀ i k,i<ops.size->k<ops.size->i≠k->∀ j ∈ qJ cons i,j ∉ qJ cons k:=fun i k hi J b6 j hj a8=>by
  have:=(ac i hi).2 k J;rw[tf] at this;rcases this with h|h
  ·exact b6 (by simpa using h)
  ·rw[gA,j8] at h;have:=h.2 j hj;simp[a8] at this
 have key:∀ (n:Nat) (I:Array Bool) (a:Act) (W:World) (vs:Nat->Value),(Bp ops I).length=n->I.size=ops.size->Closed ops I->Slots ops a0 (fun k=>I.getD k false=true) vs a->(∀ k,I.getD k false=true->H k vs) ->
   aI F0 w0 (aj (aL ((jT ops cons fun k=>I.getD k false).map fun j=>R j vs)) X0) W->wpAny P .any ops Q n I a W:=by
  intro n
  induction n with
  | zero=>
   intro I a W vs hn hs hc ag hH hr;have bk:Bp ops I=[]:=sC hn;have aa:∀ k,k<ops.size->I.getD k false=true:=fun k J=>by
    cases hl:I.getD k false with
    | true=>rfl
    | false=>
     have:k ∈ Bp ops I:=by
      unfold Bp;rw[xy,qk];exact⟨J,by rw[getD_lt eL true false,hl];rfl⟩
     rw[bk] at this;cases this
   refine⟨?_,?_⟩
   ·cases b3:Region.ready .any ops I with
    | nil=>rfl
    | cons j r=>
     have hj:j ∈ Region.ready .any ops I:=by rw[b3];simp
     obtain⟨be,o,ho,_⟩:=mem_ready.1 hj;have b4:=(Array.getElem?_eq_some_iff.1 ho).1;rw[getD_lt eL true false,aa j b4] at be;cases be
   ·have h1:Slots ops a0 (fun i=>i<0+l.length) vs (oJ l 0 vs a0):=xQ l 0 a0 (fun j=>by rw[ao];simp) a3 (fun i j d bo=>aE i j d eL) ⟨rfl,rfl,fun k d J=>by omega,fun t _=>rfl⟩
    have h2:Slots ops a0 (fun i=>i<0+l.length) vs a:=⟨ag.df,ag.sz,fun k d J=>ag.on k d (aa k eL),fun t ht=>ag.off t fun k J am=>by
     have:k<ops.size:=by
      by_cases h:k<ops.size
      ·exact h
      ·unfold iy at am;rw[tb eL] at am;cases am
     exact ht k eL am⟩
    rw[U9 h2 h1];refine fin vs W (fun j hj=>hH j (aa j eL)) ?_;have e:(jT ops cons fun k=>I.getD k false)=jT ops cons fun _=>true:=by
     unfold jT;refine Ft fun i hi=>?_;have hi:=List.mem_range.1 hi;dsimp only;rw[aa i hi];congr 1;rw[tg,j8,j8];exact forall_congr' fun k=>forall_congr' fun J=>by rw[aa k (List.mem_range.1 J)]
    rw[e] at hr;exact hr
  | succ n ih=>
   intro I a W vs hn hs hc ag hH hr;refine⟨fun aD=>?_,fun i hi=>?_⟩
   ·cases hu:Bp ops I with
    | nil=>rw[hu] at hn;simp at hn
    | cons k r=>
     exfalso;have J:k ∈ Bp ops I:=by rw[hu];simp
     unfold Bp at J;rw[xy,qk] at J;obtain⟨ba,a4⟩:=J;have a4:I.getD k true=false:=by simpa using a4
     have ho:ops[k]?=some ops[k]:=sE ba;have hd:=(ac k ba).1.1.1.1;simp only[ho] at hd;have:k ∈ Region.ready .any ops I:=by
      rw[mem_ready];refine⟨a4,_,ho,fun e he hb=>?_⟩;have h1:=Array.all_eq_true_iff_forall_mem.1 hd e he;simp only[hb,ma,uB,decide_eq_true_eq] at h1;cases hl:I.getD e.on false with
      | true=>rfl
      | false=>
       exfalso;obtain⟨l1,l2,ax,_,bx⟩:=uV (ops:=ops) (j:=e.on) hs eL (by rw[getD_lt eL true false];exact hl);rw[hu] at ax;cases l1 with
       | nil=>simp at ax;omega
       | cons x l1=>
        simp at ax;have:=(bx x iz).1;omega
     rw[aD] at this;cases this
   ·obtain⟨bf,o,ho,al⟩:=mem_ready.1 hi;have ad:i<ops.size:=(Array.getElem?_eq_some_iff.1 ho).1;have ab:I.getD i false=false:=by rw[getD_lt eL false true];exact bf
    have a2:∀ k,TM ops i k->k<i->I.getD k false=true:=fun k J M=>ng ar hc (i+1) i o eL ho al k M J;have aw:∀ k,I.getD k false=true->k<ops.size:=fun k J=>by
     by_cases h:k<ops.size
     ·exact h
     ·simp[Array.getD,show ¬ k<I.size by omega] at J
    have bn:∀ k j,I.getD k false=true->j<k->TM ops k j->I.getD j false=true:=fun k j J a8 hp=>by
     have bc:=aw k J;exact ng ar hc (k+1) k _ eL (sE bc) (fun e he hb=>hc k _ (sE bc) J e he hb) j a8 hp
    have ae:∀ (L:Nat->Bool) m,m ∈ jT ops cons L↔m<ops.size/\L m=true/\∀ k,k<ops.size->L k=true->m ∉ qJ cons k:=fun L m=>by
     unfold jT;rw[xy,qk,gA,j8];refine and_congr_right fun _=>and_congr_right fun _=>⟨fun h k J hl hm=>?_,fun h k J=>?_⟩
     ·have:=h k (List.mem_range.2 J);simp[hl,hm] at this
     ·have:=h k (List.mem_range.1 J);cases hl:L k with
      | false=>rfl
      | true=>simpa using this hl
    have a6:∀ L,(jT ops cons L).Nodup:=fun L=>List.nodup_range.sublist List.filter_sublist
    -- what i takes, and the rest
    obtain⟨rest,an⟩:∃ rest,rest=(jT ops cons fun k=>I.getD k false).filter fun j=>!(qJ cons i).contains j:=⟨_,rfl⟩;have ap:∀ m,m ∈ rest↔m ∈ (jT ops cons fun k=>I.getD k false)/\m ∉ qJ cons i:=fun m=>by rw[an,xy];simp
    have aD:rest.Nodup:=by rw[an];exact(a6 _).sublist List.filter_sublist
    have p1:(jT ops cons fun k=>I.getD k false).Perm (qJ cons i++rest):=by
     refine(MY (a6 _) (List.nodup_append.2 ⟨(ak i ad).1,aD,fun x hx y hy b2=>((ap y).1 hy).2 (b2 ▸ hx)⟩)).2 fun m=>?_;rw[z7,ap];constructor
     ·intro h;by_cases hm:m ∈ qJ cons i
      ·exact .inl hm
      ·exact .inr ⟨h,hm⟩
     ·rintro (h|h)
      ·obtain⟨h1,h2⟩:=(ak i ad).2 m h;refine(ae _ m).2 ⟨by omega,a2 m h2 h1,fun k J hl az=>?_⟩;have:i≠k:=fun e=>by rw[<-e,ab] at hl;cases hl
       exact bh i k ad J this m h az
      ·exact h.1
    have p2:(jT ops cons fun k=>(I.setIfInBounds i true).getD k false).Perm (i::rest):=by
     have b5:i ∉ rest:=fun h=>by
      have:=((ae _ i).1 ((ap i).1 h).1).2.1;simp only[ab] at this;cases this
     refine(MY (a6 _) (List.nodup_cons.2 ⟨b5,aD⟩)).2 fun m=>?_;have af:∀ k,k≠i->(I.setIfInBounds i true).getD k false=I.getD k false:=fun k J=>getD_set_ne false (px J);have ai:(I.setIfInBounds i true).getD i false=true:=by simp[Array.getD,hs,ad]
     rw[ae,pA,ap,ae];constructor
     ·rintro⟨h1,h2,h3⟩;by_cases hm:m=i
      ·exact .inl hm
      ·rw[af m hm] at h2;refine .inr ⟨⟨h1,h2,fun k J hl=>?_⟩,h3 i ad ai⟩;refine h3 k J ?_;by_cases M:k=i
       ·rw[M];exact ai
       ·rw[af k M];exact hl
     ·rintro (rfl|⟨⟨h1,h2,h3⟩,h4⟩)
      ·refine⟨ad,ai,fun k J hl az=>?_⟩;obtain⟨g1,g2⟩:=(ak k J).2 m az;by_cases M:k=m
       ·omega
       ·rw[af k M] at hl;have:=bn k m hl g1 g2;rw[ab] at this;cases this
      ·have hm:m≠i:=fun e=>by rw[e,ab] at h2;cases h2
       refine⟨h1,by rw[af m hm];exact h2,fun k J hl=>?_⟩;by_cases M:k=i
       ·rw[M];exact h4
       ·rw[af k M] at hl;exact h3 k J hl
    have b1:∀ (m:List Nat) vs,(aL (m.map fun j=>R j vs)).Ok:=fun m vs=>lG fun A hA=>by
     obtain⟨j,-,rfl⟩:=List.mem_map.1 hA;exact hR j vs
    have bp:aI F0 w0 (aj (aL ((qJ cons i).map fun j=>R j vs)) (aj (aL (rest.map fun j=>R j vs)) X0)) W:=hr.perm (by
     rw[J7 (p1.map _),km,Zq];ac_rfl)
    refine X1 ho (a1 i o ho (fun k=>I.getD k false=true) a vs W _ (aB (b1 _ _) bw) a2 ag hH bp) fun v W' hZ=>?_;obtain⟨bv,br⟩:=hZ;have bb:(Bp ops (I.setIfInBounds i true)).length=n:=by
     obtain⟨l1,l2,ax,b7,-⟩:=uV (ops:=ops) hs ad bf;rw[b7];rw[ax] at hn;simp at hn ⊢;omega
    have aA:∀ k,I.getD k false=true->∀ m,(m=k\/TM ops k m)->m<=k->vs m=upd vs i v m:=fun k J m hm az=>by
     have:m≠i:=fun e=>by
      subst e;rcases hm with rfl|hm
      ·rw[ab] at J;cases J
      ·by_cases bz:m<k
       ·have:=bn k m J bz hm;rw[ab] at this;cases this
       ·have:m=k:=by omega
        subst this;rw[ab] at J;cases J
     exact(upd_ne this).symm
    have aq:∀ k,I.getD k false=true->(H k vs->H k (upd vs i v))/\R k vs=R k (upd vs i v):=fun k J=>bj k vs _ fun m hm=>aA k J m (hm.imp (fun h=>h) And.right) (by
     rcases hm with rfl|hm
     ·exact fy _
     ·exact C1 hm.1)
    refine ih _ _ W' (upd vs i v) bb (by simpa using hs) ?_ ?_ ?_ ?_
    ·intro m om hm hl e he hb;by_cases a9:m=i
     ·subst a9;rw[ho] at hm;cases hm;exact getD_set_true (al e he hb)
     ·rw[getD_set_ne false (px a9)] at hl;exact getD_set_true (hc m om hm hl e he hb)
    ·have h1:=FK (v:=v) ag ho (by simp only[ab];simp) (fun d hd=>a3 i d (by unfold iy;rw[ho];exact hd)) (fun k J bu am=>by
      cases a5:o.dst with
      | none=>exact bu a5
      | some d=>exact aE k i d (fun e=>by rw[e,ab] at J;cases J) (am.trans a5) (by unfold iy;rw[ho];exact a5))
     have b0:(fun k=>k=i\/I.getD k false=true)=fun k=>(I.setIfInBounds i true).getD k false=true:=by
      funext k;by_cases M:k=i
      ·subst M;simp[Array.getD,hs,ad]
      ·rw[getD_set_ne false (px M)];simp[M]
     rw[b0] at h1;exact h1
    ·intro k J;by_cases M:k=i
     ·rw[M];exact bv
     ·rw[getD_set_ne false (px M)] at J;exact(aq k J).1 (hH k J)
    ·refine br.perm ?_;rw[J7 (p2.map _),lk];have e2:rest.map (fun j=>R j vs)=rest.map (fun j=>R j (upd vs i v)):=nt fun j hj=>(aq j ((ae _ j).1 ((ap j).1 hj).1).2.1).2;rw[e2]
     show _=aj (aj _ _) _
     ac_rfl
 refine key ops.size (Array.replicate ops.size false) a0 w.drew (fun _=>undef) ?_ iz ?_ ⟨rfl,rfl,fun k d J=>?_,fun t _=>rfl⟩ (fun k J=>?_) ?_
 ·have hu:Bp ops (Array.replicate ops.size false)=List.range ops.size:=by
   unfold Bp;refine List.filter_eq_self.2 fun i hi=>?_;have:=List.mem_range.1 hi;simp[this]
  rw[hu];simp
 ·intro j o ho hl;have:j<ops.size:=(Array.getElem?_eq_some_iff.1 ho).1;simp[this] at hl
 ·exfalso;revert J;by_cases h:k<ops.size<;>simp[Array.getD,h]
 ·exfalso;revert J;by_cases h:k<ops.size<;>simp[Array.getD,h]
 ·have e:(jT ops cons fun k=>(Array.replicate ops.size false).getD k false)=[]:=by
   unfold jT;refine List.filter_eq_nil_iff.2 fun i hi=>?_;have:=List.mem_range.1 hi;simp[Array.getD,this]
  rw[e];exact h0.perm (jA _).symm
end
end Go.CH
