/- A part of the proof: lemmas. -/
import Derived.Test.YtbioiclabmbedaaGreatDoorSJ1
import Derived.Test.YtbioiclabmbedaaGreatDoorProg
import Derived.RangeFuncNested
import Derived.RangeFuncBound
import Derived.OrdersIn
import Derived.Shelf.Strings.Trim
import Derived.Shelf.Small.Wraps
import Derived.Shelf.Utf8.AppendRune
import Derived.Shelf.Utf8.AppendRunePlain
import Derived.Shelf.GgClosure.StringsRunes
import Derived.Shelf.Unicode.Decode
import Derived.Shelf.Strings.Runes
import Derived.Shelf.Strings.AsciiSet
import Derived.Shelf.Strings.CaseAny
import Derived.Shelf.Strings.BuilderCap
import Derived.Shelf.Slices.Clone
import Derived.Shelf.Slices.SearchI
import Derived.Shelf.Slices.Empties2
import Derived.Shelf.SlicesE.Clone
import Derived.Shelf.SlSortCmp.WholeK
set_option maxHeartbeats 16000000
set_option maxRecDepth 100000
set_option linter.all false
namespace Go.CH
open Go.RowKit
def aX(g:Nat)(o:Obj):aU:=fun w F=>w.heap[g]?=some o/\∀ i,F i↔i=g
variable{g:Nat}{w w0:World}{F F0:Nat->Prop}{assign:Code}{Q:Exit->Act->World->Prop}{a:Act}
theorem bg{o:Obj}:(aX g o).Ok:=
 ⟨fun h i hi=>by rw[(h.2 i).1 hi];exact lt_of_block h.1,fun h hk=>⟨(hk g ((h.2 g).2 rfl)).trans h.1,h.2⟩⟩
instance {g:Nat} {o:Obj}:(aX g o).Ok:=bg
theorem vC(w:World)(o:Obj):bT w eR (aX w.heap.size o) (w.alloc o):=
 ⟨fun i=>i=w.heap.size,⟨World.alloc_heap_new w o,fun i=>qT⟩,Mod.of_below ((fe _ _).alloc (fL _) _),fun i hi=>.inr (by subst hi;simp)⟩
theorem fK{o:Obj}(h:aX g o w F)(o':Obj):bT w F (aX g o') (w.putObj g o'):=by
 have hlt:g<w.heap.size:=lt_of_block h.1;exact⟨F,⟨World.putObj_heap_same hlt,h.2⟩,Mod.yu (grownBy_putObj' w g o') (fun k e _=>by cases e;exact(h.2 g).2 rfl),fun i hi=>.inl hi⟩
def Qs{α:Type}(P:Program)(gf:Nat)(lb:Array Value)(E:World->Prop)(Z:Nat->aU)(enc:α->Array Value)(xs:List α):Prop:=
 ∀ (n l:Nat) (W:World) (F0:Nat->Prop) (w0:World) (X:Nat->aU) (Y:aU),(∀ i,(X i).Ok)->Y.Ok->(∀ W,Mod F0 w0 W->E W)->aI F0 w0 (aj (Z 0) (X 0)) W ->
  (∀ i (hi:i<xs.length) W1,aI F0 w0 (aj (Z i) (X i)) W1->YieldAt Fence.wide (n-1) P l (enc xs[i]) W1 fun e W'=>
   (e=.returned (.bool true)/\aI F0 w0 (aj (Z i) (X (i+1))) W')\/(e=.returned (.bool false)/\aI F0 w0 (aj (Z i) Y) W')) ->
  CallsIn Fence.wide n P gf (#[.func (.yield l) #[] #[]]++lb) W fun e W'=>(∃ v,e=.returned v)/\(aI F0 w0 (aj (Z xs.length) (X xs.length)) W'\/∃ i,aI F0 w0 (aj (Z i) Y) W')
def Ek(O:Code->aU):aU:=fun w F=>∃ c,O c w F
theorem IZ{O:Code->aU}(h:∀ c,(O c).Ok):(Ek O).Ok:=⟨fun⟨c,h1⟩=>(h c).lt h1,fun⟨c,h1⟩ hk=>⟨c,(h c).keep h1 hk⟩⟩
instance {O:Code→aU} [h:∀ c,(O c).Ok]:(Ek O).Ok:=IZ h
def I4(F0:Nat->Prop)(w0:World)(R I:aU)(h:Code->aU):Exit->Act->World->Prop
 | .normal,_,W=>aI F0 w0 (aj I R) W
 | .ret,_,W=>aI F0 w0 (aj (h .ret) R) W
 | .exit id,_,W=>aI F0 w0 (aj (h (.exit id)) R) W
 | .goto t,_,W=>aI F0 w0 (aj (h (.goto t)) R) W
 | .panic _,_,_=>False
 | .outgrown,_,_=>False
theorem Ti{α:Type}{P:Program}{g:Operand}{ps:Array Tmp}{body:Code}{gf:Nat}{lb:Array Value}(hg:a.eval g=.func (.func gf) #[] lb)(eg:∀ args w,(callFunc gf args).run P w=.ok (.enter gf args) w){E:World->Prop}{Z:Nat->aU}{enc:α->Array Value}{xs:List α}(af:Qs P gf lb E Z enc xs)(hZ:∀ i,(Z i).Ok)(ai:∀ x,(enc x).size=ps.size)(hE:∀ W,Mod F0 w0 W->E W)(I:Nat->aU)(Ix:Code->aU)(hI:∀ i,(I i).Ok)(ab:∀ c,(Ix c).Ok)(h0:aI F0 w0 (aj (Z 0) (I 0)) w)(a₁:α->Act)(ac:∀ (l m:Nat) (x:α) (W:World) (K:Act->World->Prop),K (a₁ x) W ->
   assign.wpIn (Fence.wide.inRound l) m P (Exit.then K (fun _ _ _=>False)) { tmps:=(ps.zip (enc x)).foldl (fun t (p,v)=>t.setIfInBounds p v) a.tmps,defers:=[] } W)(hbody:∀ (l m i:Nat) (hi:i<xs.length) (R:aU) (W:World),R.Ok->aI F0 w0 (aj (I i) R) W->body.wpIn (Fence.wide.inRound l) m P (I4 F0 w0 R (I (i+1)) Ix) (a₁ xs[i]) W)(hdone:∀ (D:Nat) (R:aU) (W:World),R.Ok->aI F0 w0 (aj (I xs.length) (aj (aX D (.deferred (some []))) R)) W->Q .normal { a with defers:={ target:=.collected D,args:=#[] } :: a.defers } W)(hstop:∀ (D:Nat) (c:Code) (R:aU) (W:World),R.Ok->aI F0 w0 (aj (Ix c) (aj (aX D (.deferred (some []))) R)) W->c.wp P Q { a with defers:={ target:=.collected D,args:=#[] } :: a.defers } W):
  (Code.rangeFunc g ps assign body).wp P Q a w:=by
 refine(wpIn_wide (n:=8)).1 ?_;refine wpIn_rangeFunc ?_;intro fn al;obtain⟨J,aa⟩:∃ J:LoopState->Option Code->Loop,J=fun st pe=>{ state:=st,pending:=pe,fn,tmps:=a.tmps,params:=ps,assign,body,defers:=w.heap.size }:=⟨_,rfl⟩;obtain⟨W1,ad⟩:∃ W1,(w.alloc (.deferred (some []))).alloc (.loop (J .ready none))=W1:=⟨_,rfl⟩;obtain⟨l,hl⟩:∃ l,l=w.heap.size+1:=⟨_,rfl⟩;obtain⟨D,hD⟩:∃ D,D=w.heap.size:=⟨_,rfl⟩;have R1:aI F0 w0 (aj (Z 0) (aj (aX l (.loop (J .ready none))) (aj (aX D (.deferred (some []))) (I 0)))) W1:=by
  have o1:=aB (hZ 0) (hI 0);have h1:=h0.fresh o1 (vC w (.deferred (some [])));have h2:=h1.fresh (aB bg o1) (vC (w.alloc (.deferred (some []))) (.loop (J .ready none)));have e1:(w.alloc (.deferred (some []))).heap.size=l:=by rw[hl];simp
  rw[e1,<-hD] at h2;rw[ad] at h2;exact h2.perm (by ac_rfl)
 have ao:(aX D (.deferred (some []))).Ok:=bg
 refine⟨l,[{ target:=.collected w.heap.size,args:=#[] }],W1,{ target:=.fn (.func gf) lb,args:=#[.func (.yield l) #[] #[]] },W1,gf,
  #[.func (.yield l) #[] #[]]++lb,W1,?_,?_,?_,?_,fun _=>by omega,?_⟩
 ·rw[<-ad,aa,hl];exact run_enterLoop_outer _ _ _ _ _
 ·simp only[resolve,hg];simp[go_sem]
 ·intro f' an;trivial
 ·simp[invoke,go_sem,eg]
 ·refine(af (8-1) l W1 F0 w0 (fun i=>aj (aX l (.loop (J .ready none))) (aj (aX D (.deferred (some []))) (I i)))
   (Ek fun c=>aj (aX l (.loop (J .done (some c)))) (aj (aX D (.deferred (some []))) (Ix c)))
   (fun i=>aB bg (aB bg (hI i))) (IZ fun c=>aB bg (aB bg (ab c))) hE R1 ?_).mono ?_
  ·-- one round
   intro i hi W hR;have ak:(aj (aX D (.deferred (some []))) (aj (Z i) (I i))).Ok:=aB bg (aB (hZ i) (hI i));have am:=hR.perm (by ac_rfl:_=aj (aX l (.loop (J .ready none))) (aj (aX D (.deferred (some []))) (aj (Z i) (I i))));obtain⟨FL,hL,-,bk⟩:=am.take bg ak;have hy:=run_yield (P:=P) (args:=enc xs[i]) hL.1 (by rw[aa];exact ai _);rw[aa] at hy;refine⟨fn,_,assign,body,hy,roundIn_of_wpIn al (ac l _ xs[i] W _ ⟨_,run_beginRound hL.1 (by rw[aa]),?_⟩)⟩;have hB:=bk _ _ (fK hL (.loop { J .ready none with state:=.busy }));have ag:(aj (aX l (.loop { J .ready none with state:=.busy })) (aj (aX D (.deferred (some []))) (Z i))).Ok:=aB bg (aB bg (hZ i));refine wpIn_mono (hbody l _ i hi (aj (aX l (.loop { J .ready none with state:=.busy })) (aj (aX D (.deferred (some []))) (Z i))) _ ag (hB.perm (by ac_rfl))) ?_;have fin:∀ (M:Option Code) (W3:World) (O:aU),O.Ok->aI F0 w0 (aj O (aj (aX l (.loop { J .ready none with state:=.busy })) (aj (aX D (.deferred (some []))) (Z i)))) W3 ->
     ∃ W4,(Instr.endRound l M).run P W3=.ok (.bool M.isNone) W4/\aI F0 w0 (aj (Z i) (aj (aX l (.loop (J (if M.isNone then .ready else .done) M))) (aj (aX D (.deferred (some []))) O))) W4:=fun M W3 O hO h3=>by
    have h4:=h3.perm (by ac_rfl:_=aj (aX l (.loop { J .ready none with state:=.busy })) (aj (aX D (.deferred (some []))) (aj (Z i) O)));obtain⟨FL,hL,-,bk⟩:=h4.take bg (aB bg (aB (hZ i) hO));refine⟨_,run_endRound (P:=P) M hL.1,?_⟩;have h5:=bk _ _ (fK hL (.loop { { J .ready none with state:=.busy } with state:=if M.isNone then .ready else .done,pending:=M }));have e5:({ { J .ready none with state:=.busy } with state:=if M.isNone then .ready else .done,pending:=M }:Loop)=J (if M.isNone then .ready else .done) M:=by rw[aa]
    rw[e5] at h5 ⊢;exact h5.perm (by ac_rfl)
   rintro e a3 W3 hp;cases e with
   | normal=>
    obtain⟨W4,h4,h5⟩:=fin none W3 _ (hI (i+1)) hp;exact⟨_,_,h4,.inl ⟨rfl,h5⟩⟩
   | ret=>
    obtain⟨W4,h4,h5⟩:=fin (some .ret) W3 _ (ab .ret) hp;exact⟨_,_,h4,.inr ⟨rfl,h5.imp fun w F hh=>bD hh (fun _ h=>h) (fun _ h=>⟨.ret,h⟩)⟩⟩
   | exit id=>
    obtain⟨W4,h4,h5⟩:=fin (some (.exit id)) W3 _ (ab (.exit id)) hp;exact⟨_,_,h4,.inr ⟨rfl,h5.imp fun w F hh=>bD hh (fun _ h=>h) (fun _ h=>⟨.exit id,h⟩)⟩⟩
   | goto t=>
    obtain⟨W4,h4,h5⟩:=fin (some (.goto t)) W3 _ (ab (.goto t)) hp;exact⟨_,_,h4,.inr ⟨rfl,h5.imp fun w F hh=>bD hh (fun _ h=>h) (fun _ h=>⟨.goto t,h⟩)⟩⟩
   | panic ch=>exact hp.elim
   | outgrown=>exact hp.elim
  ·-- behind the iterator
   have fin:∀ (st:LoopState) (pe:Option Code) (W2:World) (i:Nat) (O:aU),O.Ok->st≠.busy->aI F0 w0 (aj (Z i) (aj (aX l (.loop (J st pe))) (aj (aX D (.deferred (some []))) O))) W2 ->
     ∃ W4 R,R.Ok/\(Instr.endLoop l).run P W2=.ok pe W4/\aI F0 w0 (aj O (aj (aX D (.deferred (some []))) R)) W4:=fun st pe W2 i O hO ae h3=>by
    have h4:=h3.perm (by ac_rfl:_=aj (aX l (.loop (J st pe))) (aj (aX D (.deferred (some []))) (aj (Z i) O)));obtain⟨FL,hL,-,bk⟩:=h4.take bg (aB bg (aB (hZ i) hO));have he:=run_endLoop (P:=P) hL.1 (by rw[aa];exact ae);have e6:(J st pe).pending=pe:=by rw[aa]
    have he:=he.trans (congrArg (fun p=>Result.ok p (W2.putObj l (.loop { J st pe with state:=.exhausted }))) e6);have hp:=fK hL (.loop { J st pe with state:=.exhausted });generalize Obj.loop { J st pe with state:=.exhausted }=o4 at he hp;have h5:=bk _ _ hp;exact⟨_,aj (aX l o4) (Z i),aB bg (hZ i),he,h5.perm (by ac_rfl:_=aj O (aj (aX D (.deferred (some []))) (aj (aX l o4) (Z i))))⟩
   rintro e W2 ⟨⟨v,rfl⟩,h2|⟨i,h2⟩⟩
   ·obtain⟨W4,R,hR,he,h4⟩:=fin .ready none W2 _ _ (hI _) i7 h2;rw[<-hD];exact⟨none,_,he,hdone D R W4 hR h4⟩
   ·have h3:∃ c,aI F0 w0 (aj (Z i) (aj (aX l (.loop (J .done (some c)))) (aj (aX D (.deferred (some []))) (Ix c)))) W2:=by
     obtain⟨⟨F,⟨F1,F2,g1,⟨c,g2⟩,g3,g4⟩,hF⟩,hm⟩:=h2;exact⟨c,⟨⟨F,⟨F1,F2,g1,g2,g3,g4⟩,hF⟩,hm⟩⟩
    obtain⟨c,h3⟩:=h3;obtain⟨W4,R,hR,he,h4⟩:=fin .done (some c) W2 _ _ (ab c) i7 h3;rw[<-hD];exact⟨some c,_,he,(wpIn_wide (n:=8)).2 (hstop D c R W4 hR h4)⟩
section
variable{P:Program}{l n:Nat}{o:Oper}{ops:Array Oper}{a:Act}{w:World}{K:Act→World→Prop}{Q:Exit→Act→World→Prop}
def lG(o:Oper):Bool:=match o.op with|.defer _=>false|_=>true
theorem Oh(h:lG o=true):∀ c,o.op≠.defer c:=fun c e=>by unfold lG at h;rw[e] at h;cases h
theorem Qq(hd:lG o=true)(h:o.wp P a w K Q):o.wpIn (Fence.wide.inRound l) n P a w K Q:=by
 unfold Oper.wp at h;refine⟨fun _ _=>trivial,?_⟩;have e:(Fence.wide.inRound l).round=some l:=rfl;rw[e,nF l _ _ (Oh hd)];generalize (execOp a.eval o).run P w=r at h ⊢;have I:(Fence.wide.inRound l).depth.isSome=true->1<=n:=fun h=>by cases h
 cases r with
 | ok x w'=>
  cases x<;>first
   | exact h
   | exact h.elim
   | (refine⟨I,(CallsIn.inRound l (callsIn_wide.2 h)).mono fun e J M=>?_⟩
      cases e<;>exact M)
   | exact⟨I,fun c cs _=>let ⟨v,w',r,s⟩:=h c cs;⟨v,w',r,stepsIn_wide.2 s⟩⟩
 | halt x w'=>
  cases x<;>first|exact h|exact h.elim
variable{i:Nat}{r:List Oper}
theorem aam(I:¬ LetsOut Q)(hd:∀ o:Oper,ops[i]?=some o->lG o=true)(h:wpOp P ops Q i K a w):wpOpIn (Fence.wide.inRound l) n P ops Q i K a w:=by
 unfold wpOp at h;unfold wpOpIn;cases J:ops[i]? with
 | none=>simp only[J] at h;exact h
 | some o=>
  simp only[J] at h ⊢;by_cases M:Region.wanted o (yielded ops a.tmps)=true
  ·rw[if_pos M] at h ⊢;rcases h with h|⟨_,h⟩
   ·exact Qq (hd o J) h
   ·exact absurd h I
  ·rw[if_neg M] at h ⊢;exact⟨fun _ _=>trivial,h⟩
theorem LD(M:¬ LetsOut Q){md:Region.Mode}(hd:∀ (i:Nat) (o:Oper),ops[i]?=some o->lG o=true):∀ (J:Nat) (I:Array Bool) (a:Act) (w:World),wpAny P md ops Q J I a w->wpAnyIn (Fence.wide.inRound l) n P md ops Q J I a w:=by
 intro J
 induction J with
 | zero=>intro I a w h;exact h
 | succ J ih=>
  intro I a w h;exact⟨h.1,fun i hi=>wpOpIn_mono (fun a w=>ih _ a w) (aam M (hd i) (h.2 i hi))⟩
theorem Tg(I:¬ LetsOut Q):∀ (r:List Oper) (a:Act) (w:World),r.all lG=true->wpList P ops Q r a w->wpListIn (Fence.wide.inRound l) n P ops Q r a w:=by
 intro r
 induction r with
 | nil=>intro a w _ h;exact h
 | cons o r ih=>
  intro a w hd h;rw[C5,gA] at hd;unfold wpList at h;unfold wpListIn;by_cases J:Region.wanted o (yielded ops a.tmps)=true
  ·rw[if_pos J] at h ⊢;rcases h with h|⟨_,h⟩
   ·exact Oper.wpIn_mono (fun a w=>ih a w hd.2) (Qq hd.1 h)
   ·exact absurd h I
  ·rw[if_neg J] at h ⊢;exact⟨fun _ _=>trivial,ih _ _ hd.2 h⟩
theorem bR{J:Nat}(hd:r.all lG=true)(I:¬ LetsOut Q)(h:wpList P r.toArray Q r a w):(Code.region J r.toArray false).wpIn (Fence.wide.inRound l) n P Q a w:=by
 refine wpIn_region ?_;rw[Fo,<-Ft,wpOpsIn_eq_wpListIn r.toArray.toList 0 i7];simp only[List.toList_toArray];exact Tg I r a w hd h
theorem Qr(hd:r.all lG=true):∀ (i:Nat) (o:Oper),r.toArray[i]?=some o->lG o=true:=fun i o ho=>by
 rw[mr] at ho;exact List.all_eq_true.1 hd o (pT ho)
theorem mW{M:Nat}(S:World->Prop)(hd:r.all lG=true)(I:¬ LetsOut Q)(hm:P.follows .mixedOrders=true)(J:uE r.toArray=true)(hS:S w.drew)(h:lg P r.toArray S True Q r a w.drew):(Code.region M r.toArray true).wpIn (Fence.wide.inRound l) n P Q a w:=
 wpIn_region_any hm (LD I (Qr hd) _ _ _ _ (IJ J (.inl trivial) hS h))
end
section
variable{P:Program}{ops:Array Oper}{Ts:List Nat}{St:Nat→World→Prop}{Q:Exit→Act→World→Prop}
def yk:List (World->Prop)->Nat->World->Prop
 | [],_,_=>True
 | S::_,0,w=>S w
 | _::l,n+1,w=>yk l n w
def K9:List (World->Prop)->Prop
 | []=>True
 | [_]=>True
 | S::T::l=>(∀ w,S w->T w)/\K9 (T::l)
theorem La:∀ (l:List (World->Prop)),K9 l->∀ c w,yk l c w->yk l (c+1) w
 | [],_,_,_,_=>trivial
 | [_],_,0,_,_=>trivial
 | [_],_,_+1,_,_=>trivial
 | S::T::l,h,0,w,hs=>h.1 w hs
 | S::T::l,h,c+1,w,hs=>La (T::l) h.2 c w hs
def nA(P:Program)(ops:Array Oper)(St:Nat->World->Prop)(Q:Exit->Act->World->Prop):List Nat->List Oper->Act->World->Prop
 | _,[],a,w=>Q .normal a w
 | [],_::_,_,_=>False
 | n::lv,o::r,a,w=>(∃ v,YieldsIf P ops (St n) o v a/\nA P ops St Q lv r (a.put o.dst v) w) \/
   (mq o.op=true/\Region.wanted o (yielded ops a.tmps)=true/\o.wp P a w (fun h w'=>St n w'/\nA P ops St Q lv r h w') oZ)
theorem Gl:∀ (l:List Oper) (lv:List Nat) (k:Nat) (a:Act) (w:World),(∀ j,l[j]?=ops[k+j]?)->(∀ j,j<l.length->lv[j]?=some (wy ops Ts (k+j)))->nA P ops St Q lv l a w->qR P ops (fun i=>St (wy ops Ts i)) (fun i=>St (ym Ts i)) Q (List.range' k l.length) a w
 | [],lv,_,_,_,_,_,h=>by cases lv<;>exact h
 | o::l,[],k,a,w,hl,hv,h=>h.elim
 | o::l,n::lv,k,a,w,hl,hv,h=>by
  have h0:ops[k]?=some o:=by simpa using (hl 0).symm
  obtain rfl:n=wy ops Ts k:=by have:=hv 0 i7;simpa using this
  have ih:=fun a w=>Gl l lv (k+1) a w (fun j=>by have:=hl (j+1);simpa[vx,vy 1 j] using this)
   (fun j hj=>by have:=hv (j+1) (by simpa using hj);simpa[vx,vy 1 j] using this)
  simp only[jz,J1];unfold qR;simp only[h0];rcases h with⟨v,I,J⟩|⟨I,J,h3⟩
  ·exact .inl ⟨v,I,ih _ _ J⟩
  ·refine .inr ⟨I,J,sy (fun a' w' M=>⟨?_,ih _ _ M.2⟩) h3⟩;have:=M.1;simpa[wy,fJ,h0,I] using this
variable{l:List Oper}{b:Act}{id n:Nat}{v:Value}
theorem VW{Ts lv:List Nat}{I:World->Prop}{Sl:List (World->Prop)}(J:K9 (I::Sl))(hB:uE l.toArray=true)(hL:VY l.toArray Ts=true)(M:Hh l.toArray Ts=lv)(hS:I w)(h:nA P l.toArray (yk (I::Sl)) Q lv l a w):wpAny P .any l.toArray Q l.toArray.size (Array.replicate l.toArray.size false) a w:=
 aae (La _ J) hB hL hS (Gl l lv 0 a w i7 (fun j hj=>by
  rw[<-M];unfold Hh;rw[lB,CL (by simpa using hj)];simp) h)
theorem eD(Ts lv:List Nat)(I:World->Prop)(Sl:List (World->Prop))(J:K9 (I::Sl))(hm:P.follows .mixedOrders=true)(hB:uE l.toArray=true)(hL:VY l.toArray Ts=true)(M:Hh l.toArray Ts=lv)(hS:I w.drew)(h:nA P l.toArray (yk (I::Sl)) Q lv l a w.drew):(Code.region id l.toArray true).wp P Q a w:=wp_region_any hm (VW J hB hL M hS h)
theorem mV{l:Nat}{r:List Oper}(Ts lv:List Nat)(J:World->Prop)(Sl:List (World->Prop))(M:K9 (J::Sl))(hd:r.all lG=true)(I:¬ LetsOut Q)(hm:P.follows .mixedOrders=true)(hB:uE r.toArray=true)(hL:VY r.toArray Ts=true)(aa:Hh r.toArray Ts=lv)(hS:J w.drew)(h:nA P r.toArray (yk (J::Sl)) Q lv r a w.drew):(Code.region id r.toArray true).wpIn (Fence.wide.inRound l) n P Q a w:=wpIn_region_any hm (LD I (Qr hd) _ _ _ _ (VW M hB hL aa hS h))
section
variable{o:Oper}{r:List Oper}{n:Nat}{lv:List Nat}{a:Act}{w:World}
theorem iV(h:Q .normal a w):nA P ops St Q lv [] a w:=by cases lv<;>exact h
theorem VX(hw:Region.wanted o (yielded ops a.tmps)=false)(h:nA P ops St Q lv r (a.put o.dst undef) w):nA P ops St Q (n::lv) (o::r) a w:=.inl ⟨undef,.inr ⟨hw,rfl⟩,h⟩
theorem Dm(hw:Region.wanted o (yielded ops a.tmps)=true)(hv:∀ w',St n w'->(execOp a.eval o).run P w'=.ok (.value v) w')(h:nA P ops St Q lv r (a.put o.dst v) w):nA P ops St Q (n::lv) (o::r) a w:=
 .inl ⟨v,.inl ⟨hw,hv⟩,h⟩
theorem bB(hc:mq o.op=true)(hw:Region.wanted o (yielded ops a.tmps)=true)(h:∀ K:Act->World->Prop,Hid (∀ a' w',St n w'->nA P ops St Q lv r a' w'->K a' w')->o.wp P a w K oZ):nA P ops St Q (n::lv) (o::r) a w:=
 .inr ⟨hc,hw,h _ fun _ _ h1 h2=>⟨h1,h2⟩⟩
theorem eT(h:nA P ops St Q lv r b w)(hw:Region.wanted o (yielded ops a.tmps)=false:=by rfl)(hb:a.put o.dst undef=b:=by(first|(simp only[Act.put,ja,iz,i6];done)|(simp only[Act.put,ja,iz,i6];rfl)|rfl)):nA P ops St Q (n::lv) (o::r) a w:=VX hw (hb ▸ h)
theorem eU(h:nA P ops St Q lv r b w)(J:Region.wanted o (yielded ops a.tmps)=true:=by rfl)(hv:∀ w',St n w'->(execOp a.eval o).run P w'=.ok (.value v) w':=by(intro w' I;(try simp only[yk] at I);go_simp;(try with_reducible rfl);done))(hb:a.put o.dst v=b:=by(first|(simp only[Act.put,ja,iz,i6];done)|(simp only[Act.put,ja,iz,i6];rfl)|rfl)):nA P ops St Q (n::lv) (o::r) a w:=Dm J hv (hb ▸ h)
end
end
end Go.CH
namespace Go.Proofs
open Go.Shelf
def Tryz.Bl:Go.Shelf.Ren:=⟨fun|159=>84|165=>104|166=>105|167=>107|169=>106|230=>108|204=>109|240=>136|241=>137|197=>138|118=>139|168=>140|270=>141|262=>142|276=>155|277=>156|260=>157|242=>158|313=>159|278=>164|274=>165|275=>166|n=>n,fun|9=>9|4=>4|3=>3|5=>5|72=>234|0=>0|76=>238|75=>237|107=>243|70=>231|20=>20|37=>232|127=>266|21=>21|105=>267|164=>283|162=>289|203=>287|119=>295|46=>221|139=>298|138=>297|51=>29|160=>299|208=>306|206=>304|80=>240|n=>n,fun|13=>1|3=>2|4=>3|n=>n⟩
theorem Tryz.aaW:Go.Proofs.Lays.n159 Tryz.prog Tryz.Bl:={
 mixed:=by kernel_rfl
 f118:=Tryz.func139.trans gd
 f159:=Tryz.func84.trans gd
 f165:=Tryz.func104.trans gd
 f166:=Tryz.func105.trans gd
 f167:=Tryz.func107.trans gd
 f168:=Tryz.func140.trans gd
 f169:=Tryz.func106.trans gd
 f197:=Tryz.func138.trans gd
 f204:=Tryz.func109.trans gd
 f230:=Tryz.func108.trans gd
 f240:=Tryz.func136.trans gd
 f241:=Tryz.func137.trans gd
 f242:=Tryz.func158.trans gd
 f260:=Tryz.func157.trans gd
 f262:=Tryz.func142.trans gd
 f270:=Tryz.func141.trans gd
 f274:=Tryz.func165.trans gd
 f275:=Tryz.func166.trans gd
 f276:=Tryz.func155.trans gd
 f277:=Tryz.func156.trans gd
 f278:=Tryz.func164.trans gd
 f313:=Tryz.func159.trans gd
 t0:=Tryz.underlying0
 a0:=Tryz.isAgg0
 z0:=Tryz.sizeOf0
 v0:=Tryz.zeroValue0
 t3:=Tryz.underlying3
 a3:=Tryz.isAgg3
 z3:=Tryz.sizeOf3
 v3:=Tryz.zeroValue3
 t4:=Tryz.underlying4
 a4:=Tryz.isAgg4
 z4:=Tryz.sizeOf4
 v4:=Tryz.zeroValue4
 t5:=Tryz.underlying5
 a5:=Tryz.isAgg5
 z5:=Tryz.sizeOf5
 v5:=Tryz.zeroValue5
 t9:=Tryz.underlying9
 a9:=Tryz.isAgg9
 z9:=Tryz.sizeOf9
 v9:=Tryz.zeroValue9
 t20:=Tryz.underlying20
 a20:=Tryz.isAgg20
 z20:=Tryz.sizeOf20
 v20:=Tryz.zeroValue20
 t21:=Tryz.underlying21
 a21:=Tryz.isAgg21
 z21:=Tryz.sizeOf21
 v21:=Tryz.zeroValue21
 t37:=Tryz.underlying232
 a37:=Tryz.isAgg232
 z37:=Tryz.sizeOf232
 v37:=Tryz.zeroValue232
 t46:=Tryz.underlying221
 a46:=Tryz.isAgg221
 z46:=Tryz.sizeOf221
 v46:=Tryz.zeroValue221
 t51:=Tryz.underlying29
 a51:=Tryz.isAgg29
 z51:=Tryz.sizeOf29
 v51:=Tryz.zeroValue29
 t70:=Tryz.underlying231
 a70:=Tryz.isAgg231
 z70:=Tryz.sizeOf231
 v70:=Tryz.zeroValue231
 t72:=Tryz.underlying234
 a72:=Tryz.isAgg234
 z72:=Tryz.sizeOf234
 v72:=Tryz.zeroValue234
 t75:=Tryz.underlying237
 a75:=Tryz.isAgg237
 z75:=Tryz.sizeOf237
 v75:=Tryz.zeroValue237
 t76:=Tryz.underlying238
 a76:=Tryz.isAgg238
 z76:=Tryz.sizeOf238
 v76:=Tryz.zeroValue238
 t105:=Tryz.underlying267
 a105:=Tryz.isAgg267
 z105:=Tryz.sizeOf267
 v105:=Tryz.zeroValue267
 t107:=Tryz.underlying243
 a107:=Tryz.isAgg243
 z107:=Tryz.sizeOf243
 v107:=Tryz.zeroValue243
 t119:=Tryz.underlying295
 a119:=Tryz.isAgg295
 z119:=Tryz.sizeOf295
 t127:=Tryz.underlying266
 a127:=Tryz.isAgg266
 z127:=Tryz.sizeOf266
 v127:=Tryz.zeroValue266
 t138:=Tryz.underlying297
 a138:=Tryz.isAgg297
 z138:=Tryz.sizeOf297
 v138:=Tryz.zeroValue297
 t139:=Tryz.underlying298
 a139:=Tryz.isAgg298
 z139:=Tryz.sizeOf298
 v139:=Tryz.zeroValue298
 t160:=Tryz.underlying299
 a160:=Tryz.isAgg299
 z160:=Tryz.sizeOf299
 v160:=Tryz.zeroValue299
 t162:=Tryz.underlying289
 a162:=Tryz.isAgg289
 z162:=Tryz.sizeOf289
 v162:=Tryz.zeroValue289
 t164:=Tryz.underlying283
 a164:=Tryz.isAgg283
 z164:=Tryz.sizeOf283
 v164:=Tryz.zeroValue283
 t203:=Tryz.underlying287
 a203:=Tryz.isAgg287
 z203:=Tryz.sizeOf287
 v203:=Tryz.zeroValue287
 t206:=Tryz.underlying304
 a206:=Tryz.isAgg304
 z206:=Tryz.sizeOf304
 v206:=Tryz.zeroValue304
 t208:=Tryz.underlying306
 a208:=Tryz.isAgg306
 z208:=Tryz.sizeOf306
 v208:=Tryz.zeroValue306
 g3:=by kernel_rfl
 g4:=by kernel_rfl
 g13:=by kernel_rfl }
theorem Tryz.yU:Builder.Extra Tryz.prog Tryz.Bl:={
 sizeBuilder:=by kernel_rfl
 liesBuilder:=by kernel_rfl
 t5:=Tryz.underlying5
 a5:=Tryz.isAgg5
 z5:=Tryz.sizeOf5
 v5:=Tryz.zeroValue5
 infoByte:=by kernel_rfl
 cellsByte:=by kernel_rfl
 sizeByte:=by kernel_rfl
 neB5:=by decide }
def Tryz.Bo:Go.Shelf.Ren:=⟨fun|156=>82|165=>104|166=>105|169=>106|240=>136|241=>137|276=>155|277=>156|n=>n,fun|31=>26|9=>9|3=>3|4=>4|0=>0|20=>20|72=>234|76=>238|70=>231|37=>232|75=>237|127=>266|164=>283|5=>5|80=>240|n=>n,fun|n=>n⟩
theorem Tryz.QO:Go.Proofs.Lays.n156 Tryz.prog Tryz.Bo:={
 mixed:=by kernel_rfl
 f156:=Tryz.func82.trans gd
 f165:=Tryz.func104.trans gd
 f166:=Tryz.func105.trans gd
 f169:=Tryz.func106.trans gd
 f240:=Tryz.func136.trans gd
 f241:=Tryz.func137.trans gd
 f276:=Tryz.func155.trans gd
 f277:=Tryz.func156.trans gd
 t0:=Tryz.underlying0
 a0:=Tryz.isAgg0
 z0:=Tryz.sizeOf0
 v0:=Tryz.zeroValue0
 t3:=Tryz.underlying3
 a3:=Tryz.isAgg3
 z3:=Tryz.sizeOf3
 v3:=Tryz.zeroValue3
 t4:=Tryz.underlying4
 a4:=Tryz.isAgg4
 z4:=Tryz.sizeOf4
 v4:=Tryz.zeroValue4
 t9:=Tryz.underlying9
 a9:=Tryz.isAgg9
 z9:=Tryz.sizeOf9
 v9:=Tryz.zeroValue9
 t20:=Tryz.underlying20
 a20:=Tryz.isAgg20
 z20:=Tryz.sizeOf20
 v20:=Tryz.zeroValue20
 t31:=Tryz.underlying26
 a31:=Tryz.isAgg26
 z31:=Tryz.sizeOf26
 v31:=Tryz.zeroValue26
 t37:=Tryz.underlying232
 a37:=Tryz.isAgg232
 z37:=Tryz.sizeOf232
 v37:=Tryz.zeroValue232
 t70:=Tryz.underlying231
 a70:=Tryz.isAgg231
 z70:=Tryz.sizeOf231
 v70:=Tryz.zeroValue231
 t72:=Tryz.underlying234
 a72:=Tryz.isAgg234
 z72:=Tryz.sizeOf234
 v72:=Tryz.zeroValue234
 t75:=Tryz.underlying237
 a75:=Tryz.isAgg237
 z75:=Tryz.sizeOf237
 v75:=Tryz.zeroValue237
 t76:=Tryz.underlying238
 a76:=Tryz.isAgg238
 z76:=Tryz.sizeOf238
 v76:=Tryz.zeroValue238
 t127:=Tryz.underlying266
 a127:=Tryz.isAgg266
 z127:=Tryz.sizeOf266
 v127:=Tryz.zeroValue266
 t164:=Tryz.underlying283
 a164:=Tryz.isAgg283
 z164:=Tryz.sizeOf283
 v164:=Tryz.zeroValue283 }
theorem Tryz.qA:Builder.Extra Tryz.prog Tryz.Bo:={
 sizeBuilder:=by kernel_rfl
 liesBuilder:=by kernel_rfl
 t5:=Tryz.underlying5
 a5:=Tryz.isAgg5
 z5:=Tryz.sizeOf5
 v5:=Tryz.zeroValue5
 infoByte:=by kernel_rfl
 cellsByte:=by kernel_rfl
 sizeByte:=by kernel_rfl
 neB5:=by decide }
open Go.RowKit in
theorem Tryz.strings_Join_none(a:eV)(c:Nat)(sep:ByteArray)(w:World):
  Calls Tryz.prog 82 #[.slice a 0 c,.string sep] w fun e w'=>e=.returned (.string ⟨#[]⟩)/\w'=w:=Any.strings_Join_none Tryz.QO Tryz.qA a c sep w
open Go.RowKit in
theorem Tryz.strings_Join(bk o c:Nat)(xs:List ByteArray)(h:ByteArray)(w:World)(I:∀ (j:Nat) x,xs[j]?=some x->w.cell? ⟨bk,o+j,none⟩=some (.string x))(aa:bk<w.heap.size)(hN:xs.length<=140737488355328)(M:xs.length<=c)(J:(Lib.join (xs.map (·.data.toList)) h.data.toList).length<=140737488355328):
  Calls Tryz.prog 82 #[.slice (some ⟨bk,o,none⟩) xs.length c,.string h] w fun e w'=>e=.returned (.string ⟨(Lib.join (xs.map (·.data.toList)) h.data.toList).toArray⟩)/\Below w.heap.size w w':=Any.strings_Join Tryz.QO Tryz.qA bk o c xs h w I aa hN M J
def Tryz.Mh:Go.Shelf.Ren:=⟨fun|160=>87|232=>115|231=>114|227=>116|234=>118|233=>117|236=>120|235=>119|228=>144|271=>146|151=>145|197=>138|120=>162|152=>161|260=>157|137=>160|119=>168|224=>169|225=>170|217=>167|266=>171|n=>n,fun|9=>9|4=>4|3=>3|5=>5|117=>250|116=>249|0=>0|124=>253|21=>21|105=>267|46=>221|119=>295|139=>298|138=>297|n=>n,fun|3=>2|4=>3|n=>n⟩
theorem Tryz.aaX:Go.Proofs.Lays.n160 Tryz.prog Tryz.Mh:={
 mixed:=by kernel_rfl
 f119:=Tryz.func168.trans gd
 f120:=Tryz.func162.trans gd
 f137:=Tryz.func160.trans gd
 f151:=Tryz.func145.trans gd
 f152:=Tryz.func161.trans gd
 f160:=Tryz.func87.trans gd
 f197:=Tryz.func138.trans gd
 f217:=Tryz.func167.trans gd
 f224:=Tryz.func169.trans gd
 f225:=Tryz.func170.trans gd
 f227:=Tryz.func116.trans gd
 f228:=Tryz.func144.trans gd
 f231:=Tryz.func114.trans gd
 f232:=Tryz.func115.trans gd
 f233:=Tryz.func117.trans gd
 f234:=Tryz.func118.trans gd
 f235:=Tryz.func119.trans gd
 f236:=Tryz.func120.trans gd
 f260:=Tryz.func157.trans gd
 f266:=Tryz.func171.trans gd
 f271:=Tryz.func146.trans gd
 t0:=Tryz.underlying0
 a0:=Tryz.isAgg0
 z0:=Tryz.sizeOf0
 v0:=Tryz.zeroValue0
 t3:=Tryz.underlying3
 a3:=Tryz.isAgg3
 z3:=Tryz.sizeOf3
 v3:=Tryz.zeroValue3
 t4:=Tryz.underlying4
 a4:=Tryz.isAgg4
 z4:=Tryz.sizeOf4
 v4:=Tryz.zeroValue4
 t5:=Tryz.underlying5
 a5:=Tryz.isAgg5
 z5:=Tryz.sizeOf5
 v5:=Tryz.zeroValue5
 t9:=Tryz.underlying9
 a9:=Tryz.isAgg9
 z9:=Tryz.sizeOf9
 v9:=Tryz.zeroValue9
 t21:=Tryz.underlying21
 a21:=Tryz.isAgg21
 z21:=Tryz.sizeOf21
 v21:=Tryz.zeroValue21
 t46:=Tryz.underlying221
 a46:=Tryz.isAgg221
 z46:=Tryz.sizeOf221
 v46:=Tryz.zeroValue221
 t105:=Tryz.underlying267
 a105:=Tryz.isAgg267
 z105:=Tryz.sizeOf267
 v105:=Tryz.zeroValue267
 t116:=Tryz.underlying249
 a116:=Tryz.isAgg249
 z116:=Tryz.sizeOf249
 t117:=Tryz.underlying250
 a117:=Tryz.isAgg250
 z117:=Tryz.sizeOf250
 v117:=Tryz.zeroValue250
 t119:=Tryz.underlying295
 a119:=Tryz.isAgg295
 z119:=Tryz.sizeOf295
 t124:=Tryz.underlying253
 a124:=Tryz.isAgg253
 z124:=Tryz.sizeOf253
 v124:=Tryz.zeroValue253
 t138:=Tryz.underlying297
 a138:=Tryz.isAgg297
 z138:=Tryz.sizeOf297
 v138:=Tryz.zeroValue297
 t139:=Tryz.underlying298
 a139:=Tryz.isAgg298
 z139:=Tryz.sizeOf298
 v139:=Tryz.zeroValue298
 g3:=by kernel_rfl
 g4:=by kernel_rfl }
def Tryz.Mi:Go.Shelf.Ren:=⟨fun|106=>98|213=>133|265=>153|n=>n,fun|9=>9|3=>3|n=>n,fun|n=>n⟩
theorem Tryz.aaY:Go.Proofs.Lays.n106 Tryz.prog Tryz.Mi:={
 mixed:=by kernel_rfl
 f106:=Tryz.func98.trans gd
 f213:=Tryz.func133.trans gd
 f265:=Tryz.func153.trans gd
 t3:=Tryz.underlying3
 a3:=Tryz.isAgg3
 z3:=Tryz.sizeOf3
 v3:=Tryz.zeroValue3
 t9:=Tryz.underlying9
 a9:=Tryz.isAgg9
 z9:=Tryz.sizeOf9
 v9:=Tryz.zeroValue9 }
open Go.RowKit in
theorem Tryz.strings_Compare(a b:ByteArray)(w:World):
  Calls Tryz.prog 98 #[.string a,.string b] w fun e w'=>e=.returned (.int .i64 (Lib.compareBytes a.data.toList b.data.toList))/\w'=w:=Any.strings_Compare Tryz.aaY a b w
def Tryz.Mj:Go.Shelf.Ren:=⟨fun|137=>160|217=>167|266=>171|n=>n,fun|9=>9|5=>5|3=>3|n=>n,fun|n=>n⟩
theorem Tryz.aaZ:Go.Proofs.Lays.n137 Tryz.prog Tryz.Mj:={
 mixed:=by kernel_rfl
 f137:=Tryz.func160.trans gd
 f217:=Tryz.func167.trans gd
 f266:=Tryz.func171.trans gd
 t3:=Tryz.underlying3
 a3:=Tryz.isAgg3
 z3:=Tryz.sizeOf3
 v3:=Tryz.zeroValue3
 t5:=Tryz.underlying5
 a5:=Tryz.isAgg5
 z5:=Tryz.sizeOf5
 v5:=Tryz.zeroValue5
 t9:=Tryz.underlying9
 a9:=Tryz.isAgg9
 z9:=Tryz.sizeOf9
 v9:=Tryz.zeroValue9 }
open Go.RowKit in
theorem Tryz.strings_IndexByte(s:ByteArray)(c:Int)(w:World):
  Calls Tryz.prog 160 #[.string s,.int .u8 c] w fun e w'=>e=.returned (.int .i64 (Lib.indexByte s.data.toList c.toNat.toUInt8))/\w'=w:=Any.strings_IndexByte Tryz.aaZ s c w
def Tryz.Mk:Go.Shelf.Ren:=⟨fun|103=>92|210=>121|206=>147|n=>n,fun|9=>9|4=>4|24=>215|3=>3|n=>n,fun|n=>n⟩
theorem Tryz.aa0:Go.Proofs.Lays.n103 Tryz.prog Tryz.Mk:={
 mixed:=by kernel_rfl
 f103:=Tryz.func92.trans gd
 f206:=Tryz.func147.trans gd
 f210:=Tryz.func121.trans gd
 t3:=Tryz.underlying3
 a3:=Tryz.isAgg3
 z3:=Tryz.sizeOf3
 v3:=Tryz.zeroValue3
 t4:=Tryz.underlying4
 a4:=Tryz.isAgg4
 z4:=Tryz.sizeOf4
 v4:=Tryz.zeroValue4
 t9:=Tryz.underlying9
 a9:=Tryz.isAgg9
 z9:=Tryz.sizeOf9
 v9:=Tryz.zeroValue9
 t24:=Tryz.underlying215
 a24:=Tryz.isAgg215
 z24:=Tryz.sizeOf215
 v24:=Tryz.zeroValue215 }
open Go.RowKit in
theorem Tryz.strings_CutPrefix(s p:ByteArray)(w:World):
  Calls Tryz.prog 92 #[.string s,.string p] w fun e w'=>e=.returned (.tuple #[.string ⟨(Lib.trimPrefix s.data.toList p.data.toList).toArray⟩,.bool (Lib.hasPrefix s.data.toList p.data.toList)])/\w'=w:=Any.strings_CutPrefix Tryz.aa0 s p w
def Tryz.Ml:Go.Shelf.Ren:=⟨fun|122=>97|215=>132|n=>n,fun|3=>3|4=>4|n=>n,fun|n=>n⟩
theorem Tryz.aa1:Go.Proofs.Lays.n122 Tryz.prog Tryz.Ml:={
 mixed:=by kernel_rfl
 f122:=Tryz.func97.trans gd
 f215:=Tryz.func132.trans gd
 t3:=Tryz.underlying3
 a3:=Tryz.isAgg3
 z3:=Tryz.sizeOf3
 v3:=Tryz.zeroValue3
 t4:=Tryz.underlying4
 a4:=Tryz.isAgg4
 z4:=Tryz.sizeOf4
 v4:=Tryz.zeroValue4 }
open Go.RowKit in
theorem Tryz.cmp_Compare_int(x y:Int)(w:World):
  Calls Tryz.prog 97 #[.int .i64 x,.int .i64 y] w fun e w'=>e=.returned (.int .i64 (Lib.compareInt x y))/\w'=w:=Any.cmp_Compare_int Tryz.aa1 x y w
def Tryz.Jd:Go.Shelf.Ren:=⟨fun|17=>100|15=>134|20=>154|n=>n,fun|9=>9|23=>226|4=>4|3=>3|0=>0|21=>21|n=>n,fun|n=>n⟩
theorem Tryz.Xv:Go.Proofs.LaysGw.n17 Tryz.prog Tryz.Jd:={
 mixed:=by kernel_rfl
 f15:=Tryz.func134.trans gd
 f17:=Tryz.func100.trans gd
 f20:=Tryz.func154.trans gd
 t0:=Tryz.underlying0
 a0:=Tryz.isAgg0
 z0:=Tryz.sizeOf0
 v0:=Tryz.zeroValue0
 i0:=by kernel_rfl
 t3:=Tryz.underlying3
 a3:=Tryz.isAgg3
 z3:=Tryz.sizeOf3
 v3:=Tryz.zeroValue3
 i3:=by kernel_rfl
 t4:=Tryz.underlying4
 a4:=Tryz.isAgg4
 z4:=Tryz.sizeOf4
 v4:=Tryz.zeroValue4
 i4:=by kernel_rfl
 t9:=Tryz.underlying9
 a9:=Tryz.isAgg9
 z9:=Tryz.sizeOf9
 v9:=Tryz.zeroValue9
 i9:=by kernel_rfl
 t21:=Tryz.underlying21
 a21:=Tryz.isAgg21
 z21:=Tryz.sizeOf21
 v21:=Tryz.zeroValue21
 i21:=by kernel_rfl
 t23:=Tryz.underlying226
 a23:=Tryz.isAgg226
 z23:=Tryz.sizeOf226
 v23:=Tryz.zeroValue226
 i23:=by kernel_rfl }
open Go.RowKit Go.Lib in
theorem Tryz.strings_ContainsFunc(g:Nat)(lb:Array Value)(h:∀ args w,(callFunc g args).run Tryz.prog w=.ok (.enter g args) w)(p:Nat->Bool)(s:ByteArray)(w:World)(I:PredAt Tryz.prog g lb encR p w):
  Calls Tryz.prog 100 #[.string s,.func (.func g) #[] lb] w fun e w'=>e=.returned (.bool (decide (0<=Lib.idxFunc p true s)))/\Below w.heap.size w w':=Any.strings_ContainsFunc Tryz.Xv g lb h p s w I
def Tryz.OC:Go.Shelf.Ren:=⟨fun|99=>135|206=>147|n=>n,fun|9=>9|4=>4|3=>3|n=>n,fun|n=>n⟩
theorem Tryz.adp:Go.Proofs.Lays.n99 Tryz.prog Tryz.OC:={
 mixed:=by kernel_rfl
 f99:=Tryz.func135.trans gd
 f206:=Tryz.func147.trans gd
 t3:=Tryz.underlying3
 a3:=Tryz.isAgg3
 z3:=Tryz.sizeOf3
 v3:=Tryz.zeroValue3
 t4:=Tryz.underlying4
 a4:=Tryz.isAgg4
 z4:=Tryz.sizeOf4
 v4:=Tryz.zeroValue4
 t9:=Tryz.underlying9
 a9:=Tryz.isAgg9
 z9:=Tryz.sizeOf9
 v9:=Tryz.zeroValue9 }
open Go.RowKit Go.Lib in
theorem Tryz.strings_HasPrefix(s p:ByteArray)(w:World):
  Calls Tryz.prog 135 #[.string s,.string p] w fun e w'=>e=.returned (.bool (Lib.hasPrefix s.data.toList p.data.toList))/\w'=w:=Any.strings_HasPrefix Tryz.adp s p w
def Tryz.uO:Go.Shelf.Ren:=⟨fun|197=>138|260=>157|n=>n,fun|9=>9|21=>21|3=>3|4=>4|5=>5|105=>267|119=>295|0=>0|46=>221|139=>298|138=>297|n=>n,fun|3=>2|4=>3|n=>n⟩
theorem Tryz.aa2:Go.Proofs.Lays.n197 Tryz.prog Tryz.uO:={
 mixed:=by kernel_rfl
 f197:=Tryz.func138.trans gd
 f260:=Tryz.func157.trans gd
 t0:=Tryz.underlying0
 a0:=Tryz.isAgg0
 z0:=Tryz.sizeOf0
 v0:=Tryz.zeroValue0
 t3:=Tryz.underlying3
 a3:=Tryz.isAgg3
 z3:=Tryz.sizeOf3
 v3:=Tryz.zeroValue3
 t4:=Tryz.underlying4
 a4:=Tryz.isAgg4
 z4:=Tryz.sizeOf4
 v4:=Tryz.zeroValue4
 t5:=Tryz.underlying5
 a5:=Tryz.isAgg5
 z5:=Tryz.sizeOf5
 v5:=Tryz.zeroValue5
 t9:=Tryz.underlying9
 a9:=Tryz.isAgg9
 z9:=Tryz.sizeOf9
 v9:=Tryz.zeroValue9
 t21:=Tryz.underlying21
 a21:=Tryz.isAgg21
 z21:=Tryz.sizeOf21
 v21:=Tryz.zeroValue21
 t46:=Tryz.underlying221
 a46:=Tryz.isAgg221
 z46:=Tryz.sizeOf221
 v46:=Tryz.zeroValue221
 t105:=Tryz.underlying267
 a105:=Tryz.isAgg267
 z105:=Tryz.sizeOf267
 v105:=Tryz.zeroValue267
 t119:=Tryz.underlying295
 a119:=Tryz.isAgg295
 z119:=Tryz.sizeOf295
 t138:=Tryz.underlying297
 a138:=Tryz.isAgg297
 z138:=Tryz.sizeOf297
 v138:=Tryz.zeroValue297
 t139:=Tryz.underlying298
 a139:=Tryz.isAgg298
 z139:=Tryz.sizeOf298
 v139:=Tryz.zeroValue298
 g3:=by kernel_rfl
 g4:=by kernel_rfl }
def Tryz.uP:Go.Shelf.Ren:=⟨fun|262=>142|313=>159|274=>165|275=>166|n=>n,fun|3=>3|21=>21|162=>289|203=>287|4=>4|160=>299|46=>221|0=>0|208=>306|51=>29|206=>304|n=>n,fun|13=>1|n=>n⟩
theorem Tryz.aa3:Go.Proofs.Lays.n262 Tryz.prog Tryz.uP:={
 mixed:=by kernel_rfl
 f262:=Tryz.func142.trans gd
 f274:=Tryz.func165.trans gd
 f275:=Tryz.func166.trans gd
 f313:=Tryz.func159.trans gd
 t0:=Tryz.underlying0
 a0:=Tryz.isAgg0
 z0:=Tryz.sizeOf0
 v0:=Tryz.zeroValue0
 t3:=Tryz.underlying3
 a3:=Tryz.isAgg3
 z3:=Tryz.sizeOf3
 v3:=Tryz.zeroValue3
 t4:=Tryz.underlying4
 a4:=Tryz.isAgg4
 z4:=Tryz.sizeOf4
 v4:=Tryz.zeroValue4
 t21:=Tryz.underlying21
 a21:=Tryz.isAgg21
 z21:=Tryz.sizeOf21
 v21:=Tryz.zeroValue21
 t46:=Tryz.underlying221
 a46:=Tryz.isAgg221
 z46:=Tryz.sizeOf221
 v46:=Tryz.zeroValue221
 t51:=Tryz.underlying29
 a51:=Tryz.isAgg29
 z51:=Tryz.sizeOf29
 v51:=Tryz.zeroValue29
 t160:=Tryz.underlying299
 a160:=Tryz.isAgg299
 z160:=Tryz.sizeOf299
 v160:=Tryz.zeroValue299
 t162:=Tryz.underlying289
 a162:=Tryz.isAgg289
 z162:=Tryz.sizeOf289
 v162:=Tryz.zeroValue289
 t203:=Tryz.underlying287
 a203:=Tryz.isAgg287
 z203:=Tryz.sizeOf287
 v203:=Tryz.zeroValue287
 t206:=Tryz.underlying304
 a206:=Tryz.isAgg304
 z206:=Tryz.sizeOf304
 v206:=Tryz.zeroValue304
 t208:=Tryz.underlying306
 a208:=Tryz.isAgg306
 z208:=Tryz.sizeOf306
 v208:=Tryz.zeroValue306
 g13:=by kernel_rfl }
open Go.RowKit Go.Lib in
theorem Tryz.strings_ToLower_any(s:ByteArray)(w:World)(J:s.size<35184372088832)(I:CaseVar 1 caseA w)(h:Lib.Utf8Tabs 2 3 w):
  Calls Tryz.prog 84 #[.string s] w fun e w'=>e=.returned (.string ⟨(Lib.toLowerD s.data.toList).toArray⟩)/\Below w.heap.size w w':=Any.strings_ToLower_any Tryz.aaW Tryz.yU s w J I h
end Go.Proofs
namespace Go.CH
open Go.RowKit
open Go.ChangeMaps (setBlock)
section
variable{P:Program}
theorem TL(a b:ByteArray):(a==b)=decide (a=b):=by
 rw[tB,Go.MapKept.bytes_beq];simp
theorem toList_inj{a b:ByteArray}:a.toList=b.toList↔a=b:=by
 constructor
 ·intro h;rw[CI,CI] at h;cases a;cases b;simp at h;rw[h]
 ·rintro rfl;rfl
theorem wT(a b:ByteArray):(a.toList==b.toList)=decide (a=b):=by
 rw[tB,beq_iff_eq,toList_inj];simp
end
section
variable{α:Type}[DecidableEq α]{P:Program}{kv:α→Value}{t K E:TypeId}
variable{b:Nat}{w:World}{F:Nat->Prop}{v:Value}
theorem ru(H:o7 P K kv)(ht:P.underlying t=some (.map K E)){l:List (α × Value)}(h:jv kv b l w F)(k:α)(v:Value):
  ∃ w',(Instr.mapUpdate t (.map (some b)) (kv k) v).run P w=.ok () w'/\bT w F (jv kv b (mE l k v)) w':=by
 obtain⟨⟨es,J,h1,h2⟩,hF⟩:=h;obtain⟨M,I,h3,h4⟩:=vY H ht h2 b k v;exact⟨_,h4 w h1,F,⟨⟨M,I,kE h1,h3⟩,hF⟩,(Mod.refl _ _).setBlock _ (fun _=>(hF b).2 rfl),fun i hi=>.inl hi⟩
theorem yV{z:Value}(H:o7 P K kv)(ht:P.underlying t=some (.map K E))(M:∀ w,(zeroValue E).run P w=.ok z w){l:List (α × Value)}(h:jv kv b l w F)(k:α):
  (Instr.lookup t (.map (some b)) (kv k) false).run P w=.ok ((oh l k).getD z) w:=by
 obtain⟨⟨es,I,h1,J⟩,hF⟩:=h;exact Dt H ht M J k w h1
theorem rz{l:List (α × Value)}{k:α}(h:k ∉ l.map (·.1)):mE l k v=l++[(k,v)]:=by
 cases hf:xq k l 0 with
 | none=>exact(yw hf).2 v
 | some p=>
  obtain⟨j,u⟩:=p;obtain⟨n,h1,h2,h3⟩:=yC hf;exact absurd (List.mem_map.2 ⟨(k,u),pT h2,rfl⟩) h
theorem D6{k:α}:∀ {l:List (α × Value)},k ∉ l.map (·.1)->oh l k=none
 | [],_=>rfl
 | (a,u)::l,h=>by
  simp only[lk,np,not_or] at h;rw[qU,if_neg h.1,D6 h.2]
theorem Mq{k:α}{v:Value}:∀ {l:List α},oh (l.map fun x=>(x,v)) k=if k ∈ l then some v else none
 | []=>rfl
 | a::l=>by
  rw[lk,qU,Mq];by_cases h:k=a
  ·simp[h]
  ·simp[h]
end
section
variable{P:Program}
variable{t e:TypeId}{z v:Value}{n c:Nat}{xs news:List Value}{A:eV}{a:Act}{K:Act->World->Prop}{Q:Exit->Act->World->Prop}
theorem Ut{size bytes:Nat}(S:eO P t e z size bytes)(ty:TypeId)(w:World)(base:Nat)(I:w.ownsRow base e size v n xs){m:Nat}(hs:Src w A m size news)(ac:n+m<=maxLen)(hb:(n+m)*bytes<=140737488355328)(J:base<=w.heap.size):
  ∃ M w',(Builtin.append_ #[t,t] ty #[v,.slice A m c]).run P w=.ok M w'/\w'.ownsRow base e size M (n+m) (xs++news)/\w.grownBy w' v.ownBlock /\
   (M.ownBlock=v.ownBlock\/M.ownBlock=some w.heap.size):=by
 obtain⟨ht,hi,hz,ag⟩:=S;obtain⟨i,hi,af,ae,aa⟩:=info_parts hi;cases A with
 | some ad=>
  obtain⟨M,w',h1,h2,h3,_,h5⟩:=run_append_own_at (P:=P) w base t ty e i z size bytes ht hi af ae aa hz ag v n xs I ad m c news hs.1 (hs.cells rfl) hs.2.1 ac hb J;exact⟨M,w',h1,h2,h3,h5⟩
 | none=>
  have hm:m=0:=by
   rcases FA m with h0|h0
   ·exact h0
   ·obtain⟨ad,h,_⟩:=hs.2.2 h0;cases h
  subst hm;have hn:news=[]:=sE (by simpa using hs.1);subst hn;refine⟨v,w,?_,by simpa using I,⟨rfl,rfl,rfl,fL _,fun _ _ _=>rfl⟩,.inl rfl⟩;rcases I.2 with⟨rfl,rfl⟩|⟨g,cap,cur,rfl,_,_,ab,_⟩
  ·simp[Builtin.append_,run_underlying ht,sizeOf,typeInfo,hi,Builtin.lenOf,Builtin.firstCells]
  ·simp[Builtin.append_,run_underlying ht,sizeOf,typeInfo,hi,Builtin.lenOf,Builtin.firstCells,ab,storeCells]
theorem xG{o:Oper}(s x:Operand)(ho:o.op=.call { callee:=.builtin .append,args:=#[s,x],argTypes:=#[t,t] }){size bytes:Nat}(S:eO P t e z size bytes)(w:World)(base:Nat)(hsv:a.eval s=v)(hown:w.ownsRow base e size v n xs){m:Nat}(hx:a.eval x=.slice A m c)(hs:Src w A m size news)(h63:n+m<=maxLen)(hb:(n+m)*bytes<=140737488355328)(hbase:base<=w.heap.size)(h:∀ I w',w'.ownsRow base e size I (n+m) (xs++news)->w.grownBy w' v.ownBlock->(I.ownBlock=v.ownBlock\/I.ownBlock=some w.heap.size)->K (a.put o.dst I) w'):o.wp P a w K Q:=by
 obtain⟨I,w',J,M,h3,h4⟩:=Ut S o.type w base hown (c:=c) hs h63 hb hbase;unfold Oper.wp execOp;simp only[ho,resolve,invoke,builtin,j9,kB,ky,AF,lk,pL,hsv,hx,J];exact h I w' M h3 h4
theorem AB{ops:Array Oper}{rest:List Oper}{o:Oper}(J:o.guard=none)(s x:Operand)(ho:o.op=.call { callee:=.builtin .append,args:=#[s,x],argTypes:=#[t,t] }){size bytes:Nat}(S:eO P t e z size bytes)(w:World)(base:Nat)(hsv:a.eval s=v)(hown:w.ownsRow base e size v n xs){m:Nat}(hx:a.eval x=.slice A m c)(hs:Src w A m size news)(h63:n+m<=maxLen)(hb:(n+m)*bytes<=140737488355328)(hbase:base<=w.heap.size)(h:∀ I w',w'.ownsRow base e size I (n+m) (xs++news)->w.grownBy w' v.ownBlock->(I.ownBlock=v.ownBlock\/I.ownBlock=some w.heap.size)->wpList P ops Q rest (a.put o.dst I) w'):wpList P ops Q (o::rest) a w:=
 wpList_plain J fun _ hK=>xG s x ho S w base hsv hown hx hs h63 hb hbase fun I w' M h3 h4=>hK _ _ (h I w' M h3 h4)
end
def lW{α:Type}(O:α->aU):aU:=fun w F=>∃ x,O x w F
theorem bZ{α:Type}{O:α->aU}(h:∀ x,(O x).Ok):(lW O).Ok:=⟨fun⟨c,h1⟩=>(h c).lt h1,fun⟨c,h1⟩ hk=>⟨c,(h c).keep h1 hk⟩⟩
instance {α:Type} {O:α→aU} [h:∀ x,(O x).Ok]:(lW O).Ok:=bZ h
variable{F0:Nat->Prop}{w0 W:World}{O:aU}
theorem aI.ex{α:Type}{O:α->aU}{R:aU}(h:aI F0 w0 (aj (lW O) R) W):∃ x,aI F0 w0 (aj (O x) R) W:=by
 obtain⟨⟨F,⟨F1,F2,⟨c,g1⟩,g2,g3,g4⟩,hF⟩,hm⟩:=h;exact⟨c,⟨⟨F,⟨F1,F2,g1,g2,g3,g4⟩,hF⟩,hm⟩⟩
theorem aI.nZ{α:Type}{O:α->aU}{R:aU}(x:α)(h:aI F0 w0 (aj (O x) R) W):aI F0 w0 (aj (lW O) R) W:=
 h.imp fun _ _ hh=>bD hh (fun _ h=>⟨x,h⟩) (fun _ h=>h)
def tu(p:Prop)(O:aU):aU:=fun w F=>p/\O w F
theorem gJ{p:Prop}(h:O.Ok):(tu p O).Ok:=⟨fun h1=>h.lt h1.2,fun h1 hk=>⟨h1.1,h.keep h1.2 hk⟩⟩
instance {p:Prop} {O:aU} [h:O.Ok]:(tu p O).Ok:=gJ h
theorem aI.pure{p:Prop}{R:aU}(h:aI F0 w0 (aj (tu p O) R) W):p/\aI F0 w0 (aj O R) W:=by
 obtain⟨⟨F,⟨F1,F2,⟨c,g1⟩,g2,g3,g4⟩,hF⟩,hm⟩:=h;exact⟨c,⟨⟨F,⟨F1,F2,g1,g2,g3,g4⟩,hF⟩,hm⟩⟩
theorem aI.iT{p:Prop}{R:aU}(hp:p)(h:aI F0 w0 (aj O R) W):aI F0 w0 (aj (tu p O) R) W:=
 h.imp fun _ _ hh=>bD hh (fun _ h=>⟨hp,h⟩) (fun _ h=>h)
def wj:aU:=fun _ _=>False
theorem FV:wj.Ok:=⟨fun h=>h.elim,fun h=>h.elim⟩
instance : wj.Ok:=FV
theorem aI.no{R:aU}(h:aI F0 w0 (aj wj R) W):False:=by
 obtain⟨⟨F,⟨F1,F2,g1,g2,g3,g4⟩,hF⟩,hm⟩:=h;exact g1
theorem U4(W:World)(v:Value)(t:TypeId)(h:v.oneCell'=true):Src (W.alloc (.cells #[v] t)) (some ⟨W.heap.size,0,none⟩) 1 1 [v]:=Src.one (heap_alloc_new W _) h
section
variable{P:Program}
inductive Flat(P:Program):TypeId->Value->Prop
 | int {t:TypeId} {k:IntKind} (h:P.underlying t=some (.int k)) (a:Int):Flat P t (.int k a)
 | str {t:TypeId} (h:P.underlying t=some .string) (a:ByteArray):Flat P t (.string a)
 | bool {t:TypeId} (h:P.underlying t=some .bool) (a:Bool):Flat P t (.bool a)
def Dj:Value->Value->Bool
 | .int _ a,.int _ b=>a==b
 | .string a,.string b=>a==b
 | .bool a,.bool b=>a==b
 | _,_=>false
variable{t:TypeId}{j:Nat}{xs ys:Array Value}{fs:Array Field}{a:Act}{w:World}{K:Act->World->Prop}{Q:Exit->Act->World->Prop}{v:Value}
theorem Qf{x y:Value}(J:Flat P t x)(I:Flat P t y)(n:Nat)(w:World):(Op.equalIn (n+1) t x y).run P w=.ok (Dj x y) w:=by
 cases J with
 | int h a=>cases I with
  | int h2 b=>rw[h] at h2;injection h2 with h2;injection h2 with h2;subst h2;simp[Op.equalIn,run_underlying h,Dj]
  | str h2=>rw[h] at h2;cases h2
  | bool h2=>rw[h] at h2;cases h2
 | str h a=>cases I with
  | int h2=>rw[h] at h2;cases h2
  | str h2=>simp[Op.equalIn,run_underlying h,Dj]
  | bool h2=>rw[h] at h2;cases h2
 | bool h a=>cases I with
  | int h2=>rw[h] at h2;cases h2
  | str h2=>rw[h] at h2;cases h2
  | bool h2=>simp[Op.equalIn,run_underlying h,Dj]
theorem Aa{x:Value}(hx:Flat P t x){cs:Array Value}(hv:cs[j]?=some x)(w:World):(part t cs j).run P w=.ok x w:=by
 cases hx with
 | int h a=>simp[part,isAgg,run_underlying h,hv]
 | str h a=>simp[part,isAgg,run_underlying h,hv]
 | bool h a=>simp[part,isAgg,run_underlying h,hv]
theorem Dk{x:Value}(hx:Flat P t x)(e:Bool)(n:Nat)(w:World):(Instr.checkKey e (n+1) t x).run P w=.ok () w:=by
 cases hx with
 | int h a=>simp[Instr.checkKey,run_underlying h]
 | str h a=>simp[Instr.checkKey,run_underlying h]
 | bool h a=>simp[Instr.checkKey,run_underlying h]
def ql(P:Program)(fs:List Field)(cs:Array Value):Prop:=∀ f ∈ fs,f.name ≠ "_" /\∃ v,cs[f.offset]?=some v/\Flat P f.type v
def oW(fs:List Field)(xs ys:Array Value):Bool:=fs.all fun f=>match xs[f.offset]?,ys[f.offset]? with|some x,some y=>Dj x y|_,_=>false
theorem Z8(n:Nat)(w:World):∀ fs:List Field,ql P fs xs->ql P fs ys ->
  (forIn fs ((none,()):Option Bool × Unit) (fun f ac=>
   if f.name ≠ "_" then do
    let a <-part f.type xs f.offset
    let b <-part f.type ys f.offset
    let c <-Op.equalIn (n+1) f.type a b
    if(!c)=true then pure (ForInStep.done (some false,())) else pure (ForInStep.yield (none,()))
   else pure (ForInStep.yield (none,()))):Sem (Option Bool × Unit)).run P w=.ok (if oW fs xs ys=true then(none,()) else(some false,())) w:=by
 intro fs
 induction fs with
 | nil=>intro _ _;rfl
 | cons f fs ih=>
  intro hx hy;obtain⟨hn,x,J,aa⟩:=hx f (mA ..);obtain⟨-,y,M,I⟩:=hy f (mA ..);have ab:=ih (fun g hg=>hx g (pS _ hg)) (fun g hg=>hy g (pS _ hg));rw[GM];simp only[if_pos hn,j9,Aa aa J,Aa I M,Qf aa I,ky];have e:oW (f::fs) xs ys=(Dj x y&&oW fs xs ys):=by
   unfold oW;rw[C5,J,M]
  rw[e];cases h:Dj x y with
  | false=>simp[kB]
  | true=>simp[kB];simpa using ab
theorem Ab{K:TypeId}(M:P.underlying K=some (.struct fs))(J:P.stoodInHeld K=false)(I:ql P fs.toList xs)(hy:ql P fs.toList ys)(n:Nat)(w:World):
  (Op.equalIn (n+2) K (.agg xs) (.agg ys)).run P w=.ok (oW fs.toList xs ys) w:=by
 unfold Op.equalIn;simp only[j9,run_underlying M,ky,run_program,J,k7,if_false,kB];rw[<-Array.forIn_toList,Z8 n w fs.toList I hy];cases h:oW fs.toList xs ys<;>simp[kB]
theorem NP(e:Bool)(n:Nat)(w:World):∀ fs:List Field,ql P fs xs ->
  (forIn fs () (fun f aa=>
   if f.name ≠ "_" then do
    let a <-part f.type xs f.offset
    Instr.checkKey e (n+1) f.type a
    pure (ForInStep.yield ())
   else pure (ForInStep.yield ())):Sem Unit).run P w=.ok () w:=by
 intro fs
 induction fs with
 | nil=>intro _;rfl
 | cons f fs ih=>
  intro M;obtain⟨hn,x,I,h⟩:=M f (mA ..);have J:=ih (fun g hg=>M g (pS _ hg));rw[GM];simp only[if_pos hn,j9,Aa h I,Dk h,ky,kB];exact J
theorem IE{K:TypeId}(J:P.underlying K=some (.struct fs))(I:ql P fs.toList xs)(e:Bool)(n:Nat)(w:World):
  (Instr.checkKey e (n+2) K (.agg xs)).run P w=.ok () w:=by
 unfold Instr.checkKey;simp only[j9,run_underlying J,ky];rw[<-Array.forIn_toList];have h:=NP e n w fs.toList I;refine Eq.trans (congrArg (fun z=>Result.andThen z _) h) ?_;simp[kB]
theorem rY{α:Type}[DecidableEq α]{K:TypeId}(M:P.underlying K=some (.struct fs))(hh:P.stoodInHeld K=false){cs:α->Array Value}(I:∀ a,ql P fs.toList (cs a))(J:∀ a b,oW fs.toList (cs a) (cs b)=decide (a=b))(h:∀ a,Instr.sameBits 10000 (.agg (cs a)) (.agg (cs a))=true):o7 P K (fun a=>.agg (cs a)):=by
 refine⟨fun a b w=>?_,fun e a w=>IE M (I a) e 9998 w,h,_,M,fun a b=>.inl rfl⟩;rw[Op.equal,Op.maxDepth,Ab M hh (I a) (I b) 9998 w,J]
theorem Z9{K:TypeId}(J:P.underlying K=some (.struct fs))(I:P.stoodInHeld K=false)(h:ql P fs.toList xs)(M:ql P fs.toList ys)(w:World):
  (binOp .eql K (.agg xs) (.agg ys)).run P w=.ok (.bool (oW fs.toList xs ys)) w:=by
 simp only[binOp,Op.equal,Op.maxDepth,j9,Sem.run_map,Ab J I h M 9998 w,ky,kB]
theorem aac{K:TypeId}(J:P.underlying K=some (.struct fs))(I:P.stoodInHeld K=false)(h:ql P fs.toList xs)(M:ql P fs.toList ys)(w:World):
  (binOp .neq K (.agg xs) (.agg ys)).run P w=.ok (.bool (!oW fs.toList xs ys)) w:=by
 simp only[binOp,Op.equal,Op.maxDepth,j9,Sem.run_map,Ab J I h M 9998 w,ky,kB]
theorem Dl{o:Oper}{M:TypeId}{x y:Operand}(J:o.op=.binOp .eql t x y M)(I:a.eval x=.agg xs)(hy:a.eval y=.agg ys)(hm:P.eqGuardType P.depth t=false)(h:(binOp .eql t (.agg xs) (.agg ys)).run P w=.ok v w)(hK:K (a.put o.dst v) w):o.wp P a w K Q:=by
 unfold Oper.wp execOp;simp only[J,I,hy,j9,run_eqGuard_agg w .eql t x y xs ys hm,ky,h,kB];exact hK
end
def Qt{α:Type}(P:Program)(gf:Nat)(lb:Array Value)(E:World->Prop)(h:aU)(enc:α->Array Value)(xs:List α):Prop:=
 ∀ (n l:Nat) (W:World) (F0:Nat->Prop) (w0:World) (X:Nat->aU) (Y:aU),(∀ i,(X i).Ok)->Y.Ok->(∀ W,Mod F0 w0 W->E W)->aI F0 w0 (aj h (X 0)) W ->
  (∀ Z:aU,Z.Ok->∀ i (hi:i<xs.length) W1,aI F0 w0 (aj Z (X i)) W1->YieldAt Fence.wide (n-1) P l (enc xs[i]) W1 fun e W'=>
   (e=.returned (.bool true)/\aI F0 w0 (aj Z (X (i+1))) W')\/(e=.returned (.bool false)/\aI F0 w0 (aj Z Y) W')) ->
  CallsIn Fence.wide n P gf (#[.func (.yield l) #[] #[]]++lb) W fun e W'=>(∃ v,e=.returned v)/\∃ Z:aU,Z.Ok/\(aI F0 w0 (aj Z (X xs.length)) W'\/aI F0 w0 (aj Z Y) W')
variable{assign:Code}{Q:Exit->Act->World->Prop}{a:Act}{w:World}
theorem pz{α:Type}{P:Program}{g:Operand}{ps:Array Tmp}{body:Code}{gf:Nat}{lb:Array Value}(hg:a.eval g=.func (.func gf) #[] lb)(eg:∀ args w,(callFunc gf args).run P w=.ok (.enter gf args) w){E:World->Prop}{Z0:aU}{enc:α->Array Value}{xs:List α}(ak:Qt P gf lb E Z0 enc xs)(ar:Z0.Ok)(an:∀ x,(enc x).size=ps.size)(hE:∀ W,Mod F0 w0 W->E W)(I:Nat->aU)(Ix:Code->aU)(hI:∀ i,(I i).Ok)(I2:Nat->Act->aU)(aq:∀ i a,(I2 i a).Ok)(ab:∀ c,(Ix c).Ok)(h0:aI F0 w0 (aj Z0 (I 0)) w)(ac:∀ (l m i:Nat) (hi:i<xs.length) (R:aU) (W:World) (K:Act->World->Prop),R.Ok->aI F0 w0 (aj (I i) R) W->(∀ a' W',aI F0 w0 (aj (I2 i a') R) W'->K a' W') ->
   assign.wpIn (Fence.wide.inRound l) m P (Exit.then K (fun _ _ _=>False)) { tmps:=(ps.zip (enc xs[i])).foldl (fun t (p,v)=>t.setIfInBounds p v) a.tmps,defers:=[] } W)(hbody:∀ (l m i:Nat) (hi:i<xs.length) (a':Act) (R:aU) (W:World),R.Ok->aI F0 w0 (aj (I2 i a') R) W->body.wpIn (Fence.wide.inRound l) m P (I4 F0 w0 R (I (i+1)) Ix) a' W)(hdone:∀ (D:Nat) (R:aU) (W:World),R.Ok->aI F0 w0 (aj (I xs.length) (aj (aX D (.deferred (some []))) R)) W->Q .normal { a with defers:={ target:=.collected D,args:=#[] } :: a.defers } W)(hstop:∀ (D:Nat) (c:Code) (R:aU) (W:World),R.Ok->aI F0 w0 (aj (Ix c) (aj (aX D (.deferred (some []))) R)) W->c.wp P Q { a with defers:={ target:=.collected D,args:=#[] } :: a.defers } W):
  (Code.rangeFunc g ps assign body).wp P Q a w:=by
 refine(wpIn_wide (n:=8)).1 ?_;refine wpIn_rangeFunc ?_;intro fn ap;obtain⟨J,aa⟩:∃ J:LoopState->Option Code->Loop,J=fun st pe=>{ state:=st,pending:=pe,fn,tmps:=a.tmps,params:=ps,assign,body,defers:=w.heap.size }:=⟨_,rfl⟩;obtain⟨W1,ae⟩:∃ W1,(w.alloc (.deferred (some []))).alloc (.loop (J .ready none))=W1:=⟨_,rfl⟩;obtain⟨l,hl⟩:∃ l,l=w.heap.size+1:=⟨_,rfl⟩;obtain⟨D,hD⟩:∃ D,D=w.heap.size:=⟨_,rfl⟩;have R1:aI F0 w0 (aj Z0 (aj (aX l (.loop (J .ready none))) (aj (aX D (.deferred (some []))) (I 0)))) W1:=by
  have o1:=aB ar (hI 0);have h1:=h0.fresh o1 (vC w (.deferred (some [])));have h2:=h1.fresh (aB bg o1) (vC (w.alloc (.deferred (some []))) (.loop (J .ready none)));have e1:(w.alloc (.deferred (some []))).heap.size=l:=by rw[hl];simp
  rw[e1,<-hD] at h2;rw[ae] at h2;exact h2.perm (by ac_rfl)
 have az:(aX D (.deferred (some []))).Ok:=bg
 refine⟨l,[{ target:=.collected w.heap.size,args:=#[] }],W1,{ target:=.fn (.func gf) lb,args:=#[.func (.yield l) #[] #[]] },W1,gf,
  #[.func (.yield l) #[] #[]]++lb,W1,?_,?_,?_,?_,fun _=>by omega,?_⟩
 ·rw[<-ae,aa,hl];exact run_enterLoop_outer _ _ _ _ _
 ·simp only[resolve,hg];simp[go_sem]
 ·intro f' aw;trivial
 ·simp[invoke,go_sem,eg]
 ·refine(ak (8-1) l W1 F0 w0 (fun i=>aj (aX l (.loop (J .ready none))) (aj (aX D (.deferred (some []))) (I i)))
   (Ek fun c=>aj (aX l (.loop (J .done (some c)))) (aj (aX D (.deferred (some []))) (Ix c)))
   (fun i=>aB bg (aB bg (hI i))) (IZ fun c=>aB bg (aB bg (ab c))) hE R1 ?_).mono ?_
  ·-- one round
   intro Z hZ i hi W hR;have ao:(aj (aX D (.deferred (some []))) (aj Z (I i))).Ok:=aB bg (aB hZ (hI i));have af:=hR.perm (by ac_rfl:_=aj (aX l (.loop (J .ready none))) (aj (aX D (.deferred (some []))) (aj Z (I i))));obtain⟨FL,hL,-,bk⟩:=af.take bg ao;have hy:=run_yield (P:=P) (args:=enc xs[i]) hL.1 (by rw[aa];exact an _);rw[aa] at hy;refine⟨fn,_,assign,body,hy,roundIn_of_wpIn ap (ac l _ i hi (aj (aX l (.loop (J .ready none))) (aj (aX D (.deferred (some []))) Z)) W _ aO (af.perm (by ac_rfl)) ?_)⟩;intro a' W' ag;obtain⟨ax,ad,-,al⟩:=(ag.perm (by ac_rfl:_=aj (aX l (.loop (J .ready none))) (aj (aX D (.deferred (some []))) (aj Z (I2 i a'))))).take bg (aB bg (aB hZ (aq i a')));refine⟨_,run_beginRound ad.1 (by rw[aa]),?_⟩;have hB:=al _ _ (fK ad (.loop { J .ready none with state:=.busy }));have am:(aj (aX l (.loop { J .ready none with state:=.busy })) (aj (aX D (.deferred (some []))) Z)).Ok:=aB bg aO;refine wpIn_mono (hbody l _ i hi a' (aj (aX l (.loop { J .ready none with state:=.busy })) (aj (aX D (.deferred (some []))) Z)) _ am (hB.perm (by ac_rfl))) ?_;have fin:∀ (M:Option Code) (W3:World) (O:aU),O.Ok->aI F0 w0 (aj O (aj (aX l (.loop { J .ready none with state:=.busy })) (aj (aX D (.deferred (some []))) Z))) W3 ->
     ∃ W4,(Instr.endRound l M).run P W3=.ok (.bool M.isNone) W4/\aI F0 w0 (aj Z (aj (aX l (.loop (J (if M.isNone then .ready else .done) M))) (aj (aX D (.deferred (some []))) O))) W4:=fun M W3 O hO h3=>by
    have h4:=h3.perm (by ac_rfl:_=aj (aX l (.loop { J .ready none with state:=.busy })) (aj (aX D (.deferred (some []))) (aj Z O)));obtain⟨FL,hL,-,bk⟩:=h4.take bg (aB bg (aB hZ hO));refine⟨_,run_endRound (P:=P) M hL.1,?_⟩;have h5:=bk _ _ (fK hL (.loop { { J .ready none with state:=.busy } with state:=if M.isNone then .ready else .done,pending:=M }));have e5:({ { J .ready none with state:=.busy } with state:=if M.isNone then .ready else .done,pending:=M }:Loop)=J (if M.isNone then .ready else .done) M:=by rw[aa]
    rw[e5] at h5 ⊢;exact h5.perm (by ac_rfl)
   rintro e a3 W3 hp;cases e with
   | normal=>
    obtain⟨W4,h4,h5⟩:=fin none W3 _ (hI (i+1)) hp;exact⟨_,_,h4,.inl ⟨rfl,h5⟩⟩
   | ret=>
    obtain⟨W4,h4,h5⟩:=fin (some .ret) W3 _ (ab .ret) hp;exact⟨_,_,h4,.inr ⟨rfl,h5.imp fun w F hh=>bD hh (fun _ h=>h) (fun _ h=>⟨.ret,h⟩)⟩⟩
   | exit id=>
    obtain⟨W4,h4,h5⟩:=fin (some (.exit id)) W3 _ (ab (.exit id)) hp;exact⟨_,_,h4,.inr ⟨rfl,h5.imp fun w F hh=>bD hh (fun _ h=>h) (fun _ h=>⟨.exit id,h⟩)⟩⟩
   | goto t=>
    obtain⟨W4,h4,h5⟩:=fin (some (.goto t)) W3 _ (ab (.goto t)) hp;exact⟨_,_,h4,.inr ⟨rfl,h5.imp fun w F hh=>bD hh (fun _ h=>h) (fun _ h=>⟨.goto t,h⟩)⟩⟩
   | panic ch=>exact hp.elim
   | outgrown=>exact hp.elim
  ·-- behind the iterator
   have fin:∀ (st:LoopState) (pe:Option Code) (W2:World) (Z:aU) (O:aU),Z.Ok->O.Ok->st≠.busy->aI F0 w0 (aj Z (aj (aX l (.loop (J st pe))) (aj (aX D (.deferred (some []))) O))) W2 ->
     ∃ W4 R,R.Ok/\(Instr.endLoop l).run P W2=.ok pe W4/\aI F0 w0 (aj O (aj (aX D (.deferred (some []))) R)) W4:=fun st pe W2 Z O hZ hO ai h3=>by
    have h4:=h3.perm (by ac_rfl:_=aj (aX l (.loop (J st pe))) (aj (aX D (.deferred (some []))) (aj Z O)));obtain⟨FL,hL,-,bk⟩:=h4.take bg (aB bg (aB hZ hO));have he:=run_endLoop (P:=P) hL.1 (by rw[aa];exact ai);have e6:(J st pe).pending=pe:=by rw[aa]
    have he:=he.trans (congrArg (fun p=>Result.ok p (W2.putObj l (.loop { J st pe with state:=.exhausted }))) e6);have hp:=fK hL (.loop { J st pe with state:=.exhausted });generalize Obj.loop { J st pe with state:=.exhausted }=o4 at he hp;have h5:=bk _ _ hp;exact⟨_,aj (aX l o4) Z,aB bg hZ,he,h5.perm (by ac_rfl:_=aj O (aj (aX D (.deferred (some []))) (aj (aX l o4) Z)))⟩
   rintro e W2 ⟨⟨v,rfl⟩,Z,hZ,h2|h2⟩
   ·obtain⟨W4,R,hR,he,h4⟩:=fin .ready none W2 Z _ hZ (hI _) i7 h2;rw[<-hD];exact⟨none,_,he,hdone D R W4 hR h4⟩
   ·have h3:∃ c,aI F0 w0 (aj Z (aj (aX l (.loop (J .done (some c)))) (aj (aX D (.deferred (some []))) (Ix c)))) W2:=by
     obtain⟨⟨F,⟨F1,F2,g1,⟨c,g2⟩,g3,g4⟩,hF⟩,hm⟩:=h2;exact⟨c,⟨⟨F,⟨F1,F2,g1,g2,g3,g4⟩,hF⟩,hm⟩⟩
    obtain⟨c,h3⟩:=h3;obtain⟨W4,R,hR,he,h4⟩:=fin .done (some c) W2 Z _ hZ (ab c) i7 h3;rw[<-hD];exact⟨some c,_,he,(wpIn_wide (n:=8)).2 (hstop D c R W4 hR h4)⟩
section
variable{F:Fence}{n:Nat}{P:Program}{ops:Array Oper}{Q:Exit→Act→World→Prop}{S:World→Prop}
def YF(P:Program)(ops:Array Oper)(S:World->Prop)(o:Oper)(v:Value)(a:Act):Prop:=YieldsIf P ops S o v a/\∀ w,o.about P w a.eval=none
variable{i j c:Nat}{v:Value}{b:Act}{K:Act->World->Prop}
theorem YF.SJ{o:Oper}(J:F.round=none)(hi:ops[i]?=some o)(hy:YF P ops S o v a)(hS:S w)(h:K (a.put o.dst v) w):wpOpIn F n P ops Q i K a w:=by
 unfold Go.wpOpIn;simp only[hi];have I:∀ f,o.about P w a.eval=some f->F.fn f:=fun f hf=>by rw[hy.2 w] at hf;cases hf
 rcases hy.1 with⟨M,hv⟩|⟨M,rfl⟩
 ·simp only[M,if_true,Oper.wpIn,J,Lt,hv w hS,Oper.uponIn];exact⟨I,h⟩
 ·simp only[M,k7,if_false];exact⟨I,h⟩
theorem Og{I J:Oper}(ab:F.round=none)(hj:ops[j]?=some J)(af:I.apart ops J=true)(ad:∀ cs b,I.op≠.select cs b)(ae:∀ cs b,J.op≠.select cs b)(hQ:∀ c a w,Q (.panic c) (a.put I.dst v) w->Q (.panic c) a w)(M:YF P ops S I v a)(h:wpOpIn F n P ops Q j K (a.put I.dst v) w):
  wpOpIn F n P ops Q j (fun a' w'=>YF P ops S I v a'/\K (a'.put I.dst v) w') a w:=by
 obtain⟨h1,h2,h3⟩:=G0 af;have keep:∀ (a:Act),YF P ops S I v a->∀ u,YF P ops S I v (a.put J.dst u):=fun a M u=>
  ⟨M.1.of_same (execOp_put I ad a J.dst u h3) (wanted_put I a J.dst u h3),fun w=>by rw[about_put I w a J.dst u h3];exact M.2 w⟩
 have aa:∀ d,YF P ops S I v { a with defers:=d::a.defers }:=fun d=>⟨M.1.of_same rfl rfl,M.2⟩;unfold wpOpIn at *
 simp only[hj] at *
 rw[wanted_put J a I.dst v h1,about_put J w a I.dst v h1] at h;split
 ·rename_i hw;simp only[hw,if_true] at h;unfold Oper.wpIn at *
  rw[about_put J w a I.dst v h1] at h;refine⟨h.1,?_⟩;have h:=h.2;rw[ab,Lt,execOp_put J ae a I.dst v h1] at h;rw[ab,Lt];generalize (execOp a.eval J).run P w=r at *
  cases r with
  | ok x w'=>
   cases x<;>simp only[Oper.uponIn] at h ⊢
   case value u=>exact⟨keep a M u,by rw[<-ot a v u h2];exact h⟩
   case skip=>exact⟨keep a M _,by rw[<-ot a v undef h2];exact h⟩
   case defer d=>
    refine⟨keep _ (aa d) _,?_⟩;rw[<-ot _ v undef h2,<-LI];exact h
   case enter f args=>
    refine⟨h.1,CallsIn.mono h.2 fun e ac he=>?_⟩;cases e with
    | returned u=>exact⟨keep a M u,by rw[<-ot a v u h2];exact he⟩
    | panicked c=>exact hQ _ _ _ he
    | outgrown=>exact he
   case row row args=>exact⟨h.1,RowsIn.mono h.2 fun u ac he=>⟨keep a M u,by rw[<-ot a v u h2];exact he⟩⟩
   case round l f tmps assign body=>
    refine⟨h.1,RoundIn.mono h.2 fun e ac he=>?_⟩;cases e with
    | returned u=>exact⟨keep a M u,by rw[<-ot a v u h2];exact he⟩
    | panicked c=>exact hQ _ _ _ he
    | outgrown=>exact he
  | halt x w'=>
   cases x<;>simp only[Oper.uponIn] at h ⊢
   case panic u=>exact hQ _ _ _ h
 ·rename_i hw;simp only[hw] at h;exact⟨h.1,keep a M _,by rw[<-ot a v undef h2];exact h.2⟩
def DL(F:Fence)(n:Nat)(P:Program)(ops:Array Oper)(Q:Exit->Act->World->Prop)(S:World->Prop):Nat->Array Bool->Act->World->Prop
 | 0,listed,a,w=>Region.ready .any ops listed=[]/\Q .normal a w
 | fuel+1,listed,a,w=>
  (Region.ready .any ops listed=[]->Q .normal a w) /\
  ∀ i ∈ Region.ready .any ops listed,wpOpIn F n P ops Q i (fun h w'=>S w'/\DL F n P ops Q S fuel (listed.setIfInBounds i true) h w') a w
theorem Bg:∀ (fuel:Nat) (listed:Array Bool) (a:Act) (w:World),DL F n P ops Q S fuel listed a w->wpAnyIn F n P .any ops Q fuel listed a w
 | 0,_,_,_,h=>h
 | fuel+1,_,_,_,h=>⟨h.1,fun i hi=>wpOpIn_mono (fun a' w' h'=>Bg fuel _ a' w' h'.2) (h.2 i hi)⟩
theorem Wu{oi:Oper}(ae:F.round=none)(hi:ops[i]?=some oi)(ac:∀ (j:Nat) (o:Oper) cs b,ops[j]?=some o->o.op≠.select cs b)(hQ:∀ c a w,Q (.panic c) (a.put oi.dst v) w->Q (.panic c) a w):
  ∀ (J:Nat) (I:Array Bool) (a:Act) (w:World),
   (∀ j oj,ops[j]?=some oj->j≠i->I.getD j true=false->(∀ e ∈ oj.after,Region.binds .any e=true->e.on≠i)->oi.apart ops oj=true) ->
   i ∈ Region.ready .any ops I->YF P ops S oi v a->S w ->
   DL F n P ops Q S J (I.setIfInBounds i true) (a.put oi.dst v) w->DL F n P ops Q S (J+1) I a w:=by
 intro J
 induction J with
 | zero=>
  intro I a w _ hr hy hS H;refine⟨fun h=>(by rw[h] at hr;cases hr),fun j hj=>?_⟩;by_cases M:j=i
  ·subst M;exact hy.SJ ae hi hS ⟨hS,H⟩
  ·have:=ready_mono hj M;rw[H.1] at this;cases this
 | succ J ih=>
  intro I a w aa hr hy hS H;refine⟨fun h=>(by rw[h] at hr;cases hr),fun j hj=>?_⟩;by_cases M:j=i
  ·subst M;exact hy.SJ ae hi hS ⟨hS,H⟩
  ·have h1:=H.2 j (ready_mono hj M);obtain⟨ad,oj,af,ai⟩:=mem_ready.1 hj;have al:∀ e ∈ oj.after,Region.binds .any e=true->e.on≠i:=fun e he hb an=>by
    have h1:=ai e he hb;have h0:=(mem_ready.1 hr).1;rw[an] at h1;rcases tG i I.size with h'|h'
    ·simp[h'] at h0 h1;rw[h0] at h1;cases h1
    ·simp[tt h'] at h1
   have h2:=Og ae af (aa j oj af M ad al) (fun cs b=>ac i oi cs b hi) (fun cs b=>ac j oj cs b af) hQ hy h1;have ab:∀ k ok,ops[k]?=some ok->k≠i->(I.setIfInBounds j true).getD k true=false ->
     (∀ e ∈ ok.after,Region.binds .any e=true->e.on≠i)->oi.apart ops ok=true:=fun k ok hk ao ak am=>by
    refine aa k ok hk ao ?_ am;by_cases ag:j=k
    ·subst ag;exact ad
    ·rw[getD_set_ne true ag] at ak;exact ak
   refine wpOpIn_mono (fun a' w' h3=>⟨h3.2.1,ih (I.setIfInBounds j true) a' w' ab (ready_mono hr (px M)) h3.1 h3.2.1 ?_⟩) h2;rw[Cf _ _ M];exact h3.2.2
theorem aal{M:Oper}{J:Nat}{I:Array Bool}(hr:Region.ready .any ops I=[i])(hi:ops[i]?=some M)(hw:Region.wanted M (yielded ops a.tmps)=true)(h:∀ K:Act->World->Prop,Hid (∀ a' w',S w'->DL F n P ops Q S J (I.setIfInBounds i true) a' w'->K a' w')->M.wpIn F n P a w K Q):DL F n P ops Q S (J+1) I a w:=
 ⟨fun h0=>absurd (hr ▸ h0) i7,by
  rw[hr];intro j hj;obtain rfl:=List.mem_singleton.1 hj;unfold wpOpIn;simp only[hi,hw,if_true]
  exact h _ fun a' w' h1 h2=>⟨h1,h2⟩⟩
def DN(n k:Nat):Array Bool:=((List.range n).map fun i=>decide (i<k)).toArray
theorem Wv(n:Nat):Array.replicate n false=DN n 0:=by
 unfold DN;apply Array.ext
 ·simp
 ·intro i h1 h2;simp
theorem Qo{n k:Nat}:(DN n k).setIfInBounds k true=DN n (k+1):=by
 unfold DN;apply Array.ext
 ·simp
 ·intro i h1 h2;by_cases e:k=i
  ·subst e;simp
  ·simp[Array.getElem_setIfInBounds,e];omega
def L4(ops:Array Oper)(c:Nat):Bool:=
 Region.noSelect ops&&((Region.ready .any ops (DN ops.size ops.size)).isEmpty&&(List.range ops.size).all fun k=>
  Region.free .any ops (DN ops.size k) k&&((Region.ready .any ops (DN ops.size k)).contains k&&(k != c||Region.ready .any ops (DN ops.size k)==[k])))
def wP(F:Fence)(n:Nat)(P:Program)(ops:Array Oper)(Q:Exit->Act->World->Prop)(S:World->Prop)(c:Nat):Nat->List Oper->Act->World->Prop
 | _,[],a,w=>Q .normal a w
 | k,o::r,a,w=>(∃ v,YF P ops S o v a/\wP F n P ops Q S c (k+1) r (a.put o.dst v) w) \/
   (k=c/\Region.wanted o (yielded ops a.tmps)=true/\o.wpIn F n P a w (fun h w'=>S w'/\wP F n P ops Q S c (k+1) r h w') Q)
theorem Tf(aa:F.round=none)(I:L4 ops c=true)(hQ:∀ c a ts w,Q (.panic c) { a with tmps:=ts } w->Q (.panic c) a w):∀ (r:List Oper) (k:Nat) (a:Act) (w:World),(∀ j,r[j]?=ops[k+j]?)->k+r.length=ops.size->S w->wP F n P ops Q S c k r a w->DL F n P ops Q S r.length (DN ops.size k) a w:=by
 unfold L4 at I;simp only[gA,j7,sk] at I;obtain⟨hs,he,J⟩:=I;intro r
 induction r with
 | nil=>
  intro k a w hj M hS h;have:k=ops.size:=M;subst this;exact⟨he,h⟩
 | cons o r ih=>
  intro k a w hj M hS h;have ab:k<ops.size:=by rw[jz] at M;omega
  have ho:ops[k]?=some o:=by simpa using (hj 0).symm
  obtain⟨h1,h2,h3⟩:=J k (List.mem_range.2 ab);have nx:=fun a w=>ih (k+1) a w (fun j=>by have:=hj (j+1);simpa[vx,vy 1 j] using this) (by rw[jz] at M;omega);rcases h with⟨v,hy,h⟩|⟨rfl,hw,h⟩
  ·refine Wu aa ho (zt hs) (fun c a w h=>hQ c a (a.put o.dst v).tmps w (by
    have e:({ a with tmps:=(a.put o.dst v).tmps }:Act)=a.put o.dst v:=by cases o.dst<;>rfl
    rw[e];exact h)) _ _ a w (GF ho h1) (by simpa using h2) hy hS ?_
   rw[Qo];exact nx _ w hS h
  ·have h3:Region.ready .any ops (DN ops.size k)=[k]:=by simpa using h3
   refine aal h3 ho hw (fun K hK=>?_);refine Oper.wpIn_mono (fun a' w' hh=>hK.o a' w' hh.1 ?_) h;rw[Qo];exact nx a' w' hh.1 hh.2
theorem pq{id:Nat}{l:List Oper}(c:Nat)(S:World->Prop)(I:F.round=none)(hm:P.follows .mixedOrders=true)(J:L4 l.toArray c=true)(hQ:∀ c a M w,Q (.panic c) { a with tmps:=M } w->Q (.panic c) a w)(hS:S w.drew)(h:wP F n P l.toArray Q S c 0 l a w.drew):(Code.region id l.toArray true).wpIn F n P Q a w:=
 wpIn_region_any hm (Bg _ _ _ _ (by
  have:=Tf I J hQ l 0 a w.drew i7 i7 hS h;rw[pZ,Wv]
  exact this))
section
variable{o:Oper}{r:List Oper}{k c:Nat}{a:Act}{w:World}
theorem IY(h:Q .normal a w):wP F n P ops Q S c k [] a w:=h
theorem acV(hw:Region.wanted o (yielded ops a.tmps)=false)(hab:∀ w,o.about P w a.eval=none)(h:wP F n P ops Q S c (k+1) r (a.put o.dst undef) w):wP F n P ops Q S c k (o::r) a w:=.inl ⟨undef,⟨.inr ⟨hw,rfl⟩,hab⟩,h⟩
theorem aee(hw:Region.wanted o (yielded ops a.tmps)=true)(hab:∀ w,o.about P w a.eval=none)(hv:∀ w',S w'->(execOp a.eval o).run P w'=.ok (.value v) w')(h:wP F n P ops Q S c (k+1) r (a.put o.dst v) w):wP F n P ops Q S c k (o::r) a w:=.inl ⟨v,⟨.inl ⟨hw,hv⟩,hab⟩,h⟩
theorem Qp(hk:k=c)(hw:Region.wanted o (yielded ops a.tmps)=true)(h:∀ K:Act->World->Prop,Hid (∀ a' w',S w'->wP F n P ops Q S c (k+1) r a' w'->K a' w')->o.wpIn F n P a w K Q):wP F n P ops Q S c k (o::r) a w:=.inr ⟨hk,hw,h _ fun _ _ h1 h2=>⟨h1,h2⟩⟩
theorem Ww(h:wP F n P ops Q S c (k+1) r b w)(I:Region.wanted o (yielded ops a.tmps)=false:=by rfl)(hab:∀ w,o.about P w a.eval=none:=by(intro;rfl))(hb:a.put o.dst undef=b:=by(first|(simp only[Act.put,ja,iz,i6];done)|(simp only[Act.put,ja,iz,i6];rfl)|rfl)):wP F n P ops Q S c k (o::r) a w:=acV I hab (hb ▸ h)
theorem Wx(h:wP F n P ops Q S c (k+1) r b w)(I:Region.wanted o (yielded ops a.tmps)=true:=by rfl)(hab:∀ w,o.about P w a.eval=none:=by(intro;rfl))(hv:∀ w',S w'->(execOp a.eval o).run P w'=.ok (.value v) w':=by(intro w' J;go_simp;(try with_reducible rfl);done))(hb:a.put o.dst v=b:=by(first|(simp only[Act.put,ja,iz,i6];done)|(simp only[Act.put,ja,iz,i6];rfl)|rfl)):wP F n P ops Q S c k (o::r) a w:=aee I hab hv (hb ▸ h)
end
end
def Lf(D:Nat):Deferred:={ target:=.collected D,args:=#[] }
def dO(Ds:List Nat):aU:=aL (Ds.map fun D=>aX D (.deferred (some [])))
theorem lq{Ds:List Nat}:(dO Ds).Ok:=lJ (fun A hA=>by obtain⟨z,_,rfl⟩:=List.mem_map.1 hA;exact bg)
instance {Ds:List Nat}:(dO Ds).Ok:=lq
theorem wK(D:Nat)(Ds:List Nat):dO (D::Ds)=aj (aX D (.deferred (some []))) (dO Ds):=rfl
theorem lu{P:Program}{fn:Func}{tmps:Array Value}{R:Ending->World->Prop}{n:Nat}{F0:Nat->Prop}{w0:World}{X:aU}(hX:X.Ok)(I:∀ W,aI F0 w0 X W->∃ v,(results fn tmps).run P W=.ok v W/\R (.returned v) W):∀ (J:List Nat) (W:World),aI F0 w0 (aj (dO J) X) W->LeavesInM Fence.wide n P fn tmps R (J.map Lf) .returning W
 | [],W,h=>I W h.drop
 | D::J,W,h=>by
  have h1:aI F0 w0 (aj (aX D (.deferred (some []))) (aj (dO J) X)) W:=h.perm (by unfold dO;rw[lk];show aj (aj _ _) _=_;ac_rfl);obtain⟨F,M,-,bk⟩:=h1.take bg aO;refine⟨by simp,.inl ⟨_,_,rfl,run_takeDeferred M.1,?_⟩⟩;exact lu hX I J _ (bk _ _ (fK M (.deferred none))).drop
theorem V8(tm:Array Value)(n:Nat)(h:tm.size=n):tm=((List.range n).map fun i=>tm.getD i undef).toArray:=by
 refine Array.ext (by simp[h]) fun i h1 h2=>?_;simp[h1]
def IK(es:Array MapEntry)(r:Nat)(w:World):Nat:=match w.heap[r]? with
 | some (.mapIter _ _ seen _)=>(es.toList.filter (fun e=>!seen.contains e.born)).length
 | _=>0
section
variable{P:Program}{ops:Array Oper}{Q:Exit→Act→World→Prop}{S:World→Prop}{s:Nat}
def iP(P:Program)(ops:Array Oper)(Q:Exit->Act->World->Prop)(S:World->Prop)(s:Nat):Nat->Array Bool->Act->World->Prop
 | 0,listed,a,w=>Region.ready .any ops listed=[]/\Q .normal a w
 | fuel+1,listed,a,w=>(Region.ready .any ops listed=[]->Q .normal a w) /\
  ∀ i ∈ Region.ready .any ops listed,wpOp P ops Q i (fun h w'=>((listed.setIfInBounds i true).getD s true=false->S w')/\iP P ops Q S s fuel (listed.setIfInBounds i true) h w') a w
theorem Dz:∀ (fuel:Nat) (listed:Array Bool) (a:Act) (w:World),iP P ops Q S s fuel listed a w->wpAny P .any ops Q fuel listed a w
 | 0,_,_,_,h=>h
 | fuel+1,_,_,_,h=>⟨h.1,fun i hi=>wpOp_mono (fun a' w' h'=>Dz fuel _ a' w' h'.2) (h.2 i hi)⟩
def waits(ops:Array Oper)(s i:Nat):Bool:=match ops[s]? with|some o=>o.after.any fun e=>Region.binds .any e&&e.on==i|none=>false
variable{i j J:Nat}{I listed:Array Bool}{oi M:Oper}{v:Value}
theorem SY(h:waits ops s i=true)(hi:i ∈ Region.ready .any ops I):s ∉ Region.ready .any ops I:=by
 intro hs;obtain⟨-,o,ho,M⟩:=mem_ready.1 hs;unfold waits at h;rw[ho] at h;simp only[Array.any_eq_true,gA,beq_iff_eq] at h;obtain⟨k,hk,h1,h2⟩:=h;have J:=M _ (Array.getElem_mem hk) h1;have h0:=(mem_ready.1 hi).1;rw[h2] at J;rcases tG i I.size with h'|h'
 ·simp[h'] at h0 J;rw[h0] at J;cases J
 ·simp[tt h'] at J
theorem nE(h:i≠j)(h0:listed.getD j true=false):(listed.setIfInBounds i true).getD j true=false:=by
 rw[getD_set_ne true h];exact h0
theorem IQ(hi:ops[i]?=some oi)(ac:∀ (j:Nat) (o:Oper) cs b,ops[j]?=some o->o.op≠.select cs b)(hQ:∀ c a w,Q (.panic c) (a.put oi.dst v) w->Q (.panic c) a w)(hw:waits ops s i=true)(ao:i≠s):
  ∀ (J:Nat) (I:Array Bool) (a:Act) (w:World),
   (∀ j oj,ops[j]?=some oj->j≠i->I.getD j true=false->(∀ e ∈ oj.after,Region.binds .any e=true->e.on≠i)->oi.apart ops oj=true) ->
   i ∈ Region.ready .any ops I->I.getD s true=false->YieldsIf P ops S oi v a->S w->iP P ops Q S s J (I.setIfInBounds i true) (a.put oi.dst v) w->iP P ops Q S s (J+1) I a w:=by
 intro J
 induction J with
 | zero=>
  intro I a w _ hr ae hy hS H;refine⟨fun h=>(by rw[h] at hr;cases hr),fun j hj=>?_⟩;by_cases M:j=i
  ·subst M;exact hy.wpOp hi hS ⟨fun _=>hS,H⟩
  ·have:=ready_mono hj M;rw[H.1] at this;cases this
 | succ J ih=>
  intro I a w aa hr ae hy hS H;refine⟨fun h=>(by rw[h] at hr;cases hr),fun j hj=>?_⟩;by_cases M:j=i
  ·subst M;exact hy.wpOp hi hS ⟨fun _=>hS,H⟩
  ·have ag:j≠s:=fun e=>SY hw hr (e ▸ hj);have h1:=H.2 j (ready_mono hj M);obtain⟨ad,oj,af,ak⟩:=mem_ready.1 hj;have an:∀ e ∈ oj.after,Region.binds .any e=true->e.on≠i:=fun e he hb aq=>by
    have h1:=ak e he hb;have h0:=(mem_ready.1 hr).1;rw[aq] at h1;rcases tG i I.size with h'|h'
    ·simp[h'] at h0 h1;rw[h0] at h1;cases h1
    ·simp[tt h'] at h1
   have h2:=wpOp_putIf af (aa j oj af M ad an) (fun cs b=>ac i oi cs b hi) (fun cs b=>ac j oj cs b af) hQ hy h1;have ab:∀ k ok,ops[k]?=some ok->k≠i->(I.setIfInBounds j true).getD k true=false ->
     (∀ e ∈ ok.after,Region.binds .any e=true->e.on≠i)->oi.apart ops ok=true:=fun k ok hk ar am ap=>by
    refine aa k ok hk ar ?_ ap;by_cases ai:j=k
    ·subst ai;exact ad
    ·rw[getD_set_ne true ai] at am;exact am
   refine wpOp_mono (fun a' w' h3=>?_) h2;have al:S w':=h3.2.1 (nE ag (nE ao ae));refine⟨fun _=>al,ih (I.setIfInBounds j true) a' w' ab (ready_mono hr (px M)) (nE ag ae) h3.1 al ?_⟩;rw[Cf _ _ M];exact h3.2.2
theorem nG(hi:ops[i]?=some M)(hs:Region.noSelect ops=true)(hf:Region.free .any ops I i=true)(hr:(Region.ready .any ops I).contains i=true)(hw:(waits ops s i&&(i != s && !(I.getD s true)))=true)(hQ:∀ c a w,Q (.panic c) (a.put M.dst v) w->Q (.panic c) a w)(hy:YieldsIf P ops S M v a)(hS:S w)(h:iP P ops Q S s J (I.setIfInBounds i true) (a.put M.dst v) w):iP P ops Q S s (J+1) I a w:=by
 simp only[gA,bne_iff_ne,ne_eq,tv] at hw;exact IQ hi (zt hs) hQ hw.1 hw.2.1 J I a w (GF hi hf) (by simpa using hr) hw.2.2 hy hS h
theorem ES(hi:ops[i]?=some oi)(ac:∀ (j:Nat) (o:Oper) cs b,ops[j]?=some o->o.op≠.select cs b)(hQ:∀ c a w,Q (.panic c) (a.put oi.dst v) w->Q (.panic c) a w)(ae:i≠s):
  ∀ (M:Nat) (I:Array Bool) (a:Act) (w:World),
   (∀ j oj,ops[j]?=some oj->j≠i->I.getD j true=false->(∀ e ∈ oj.after,Region.binds .any e=true->e.on≠i)->oi.apart ops oj=true) ->
   i ∈ Region.ready .any ops I->YieldsIf P ops (fun _=>True) oi v a->(I.getD s true=false->S w)->iP P ops Q S s M (I.setIfInBounds i true) (a.put oi.dst v) w->iP P ops Q S s (M+1) I a w:=by
 intro M
 induction M with
 | zero=>
  intro I a w _ hr hy hS H;refine⟨fun h=>(by rw[h] at hr;cases hr),fun j hj=>?_⟩;by_cases J:j=i
  ·subst J;exact hy.wpOp hi trivial ⟨fun h=>hS (by rw[getD_set_ne true ae] at h;exact h),H⟩
  ·have:=ready_mono hj J;rw[H.1] at this;cases this
 | succ M ih=>
  intro I a w aa hr hy hS H;refine⟨fun h=>(by rw[h] at hr;cases hr),fun j hj=>?_⟩;by_cases J:j=i
  ·subst J;exact hy.wpOp hi trivial ⟨fun h=>hS (by rw[getD_set_ne true ae] at h;exact h),H⟩
  ·have h1:=H.2 j (ready_mono hj J);obtain⟨ad,oj,af,ai⟩:=mem_ready.1 hj;have am:∀ e ∈ oj.after,Region.binds .any e=true->e.on≠i:=fun e he hb ao=>by
    have h1:=ai e he hb;have h0:=(mem_ready.1 hr).1;rw[ao] at h1;rcases tG i I.size with h'|h'
    ·simp[h'] at h0 h1;rw[h0] at h1;cases h1
    ·simp[tt h'] at h1
   have h2:=wpOp_putIf af (aa j oj af J ad am) (fun cs b=>ac i oi cs b hi) (fun cs b=>ac j oj cs b af) hQ hy h1;have ab:∀ k ok,ops[k]?=some ok->k≠i->(I.setIfInBounds j true).getD k true=false ->
     (∀ e ∈ ok.after,Region.binds .any e=true->e.on≠i)->oi.apart ops ok=true:=fun k ok hk ap al an=>by
    refine aa k ok hk ap ?_ an;by_cases ag:j=k
    ·subst ag;exact ad
    ·rw[getD_set_ne true ag] at al;exact al
   refine wpOp_mono (fun a' w' h3=>?_) h2;have ak:(I.setIfInBounds j true).getD s true=false->S w':=fun h=>h3.2.1 (by rw[Cf _ _ (px J)];exact nE ae h);refine⟨ak,ih (I.setIfInBounds j true) a' w' ab (ready_mono hr (px J)) h3.1 ak ?_⟩;rw[Cf _ _ J];exact h3.2.2
theorem fZ(hi:ops[i]?=some M)(hs:Region.noSelect ops=true)(hf:Region.free .any ops I i=true)(hr:(Region.ready .any ops I).contains i=true)(hw:(i != s)=true)(hQ:∀ c a w,Q (.panic c) (a.put M.dst v) w->Q (.panic c) a w)(hy:YieldsIf P ops (fun _=>True) M v a)(hS:I.getD s true=false->S w)(h:iP P ops Q S s J (I.setIfInBounds i true) (a.put M.dst v) w):iP P ops Q S s (J+1) I a w:=by
 simp only[bne_iff_ne,ne_eq] at hw;exact ES hi (zt hs) hQ hw J I a w (GF hi hf) (by simpa using hr) hy hS h
theorem mG{rs:List Nat}(hr:Region.ready .any ops I=rs)(M:rs≠[])(h:∀ i ∈ rs,wpOp P ops Q i (fun a' w'=>((I.setIfInBounds i true).getD s true=false->S w')/\iP P ops Q S s J (I.setIfInBounds i true) a' w') a w):iP P ops Q S s (J+1) I a w:=
 ⟨fun h0=>absurd (hr ▸ h0) M,hr ▸ h⟩
theorem Bc(hr:Region.ready .any ops listed=[])(h:Q .normal a w):∀ fuel,iP P ops Q S s fuel listed a w
 | 0=>⟨hr,h⟩
 | _+1=>⟨fun _=>h,by rw[hr];simp⟩
theorem Bf{id:Nat}(s:Nat)(S:World->Prop)(hm:P.follows .mixedOrders=true)(h:iP P ops Q S s ops.size (Array.replicate ops.size false) a w.drew):(Code.region id ops true).wp P Q a w:=
 wp_region_any hm (Dz _ _ _ _ h)
end
section
variable{P:Program}{ops:Array Oper}{Q:Exit→Act→World→Prop}{S:World→Prop}{s:Nat}
theorem Bp{l0:Array Bool}{M:Act}{R:aU}(X Y:List Nat)(PX PY:List Value->aU)(J:Nat)(am:QU ops l0 X Y=true)(oX:∀ vs,(PX vs).Ok)(oY:∀ vs,(PY vs).Ok)(oR:R.Ok)(hS:∀ (O:aU) W,aI F0 w0 O W->S W)(hX:∀ i o vs us,X[vs.length]?=some i->ops[i]?=some o->us.length<=Y.length->∀ (Z:aU) W,Z.Ok->aI F0 w0 (aj (PX vs) Z) W ->
   o.wp P (fW (fW M (dV ops X) vs) (dV ops Y) us) W (fun a' w'=>∃ v,a'=(fW (fW M (dV ops X) vs) (dV ops Y) us).put o.dst v/\aI F0 w0 (aj (PX (vs++[v])) Z) w') Q)(hY:∀ i o vs us,Y[us.length]?=some i->ops[i]?=some o->vs.length<=X.length->∀ (Z:aU) W,Z.Ok->aI F0 w0 (aj (PY us) Z) W ->
   o.wp P (fW (fW M (dV ops X) vs) (dV ops Y) us) W (fun a' w'=>∃ v,a'=(fW (fW M (dV ops X) vs) (dV ops Y) us).put o.dst v/\aI F0 w0 (aj (PY (us++[v])) Z) w') Q)(ak:∀ vs us W,vs.length=X.length->us.length=Y.length->aI F0 w0 (aj (PX vs) (aj (PY us) R)) W->iP P ops Q S s J (EZ l0 X Y X.length Y.length) (fW (fW M (dV ops X) vs) (dV ops Y) us) W)(h0:aI F0 w0 (aj (PX []) (aj (PY []) R)) W):iP P ops Q S s (J+(X.length+Y.length)) l0 M W:=by
 simp only[QU,gA,decide_eq_true_eq] at am;obtain⟨⟨ao,ae⟩,aq⟩:=am;have key:∀ (N:Nat) (vs us:List Value) (W:World),vs.length<=X.length->us.length<=Y.length->N=(X.length-vs.length)+(Y.length-us.length)->aI F0 w0 (aj (PX vs) (aj (PY us) R)) W ->
   iP P ops Q S s (J+N) (EZ l0 X Y vs.length us.length) (fW (fW M (dV ops X) vs) (dV ops Y) us) W:=by
  intro N
  induction N with
  | zero=>
   intro vs us W hv hu hN hR;have h1:vs.length=X.length:=by omega
   have h2:us.length=Y.length:=by omega
   rw[h1,h2];exact ak vs us W h1 h2 hR
  | succ N ih=>
   intro vs us W hv hu hN hR;have hc:=ao;rw[j7] at hc;have af:=hc vs.length (List.mem_range.2 eL);rw[j7] at af;have ai:=af us.length (List.mem_range.2 eL);simp only[gA] at ai;obtain⟨⟨⟨c1,c2⟩,c3⟩,c4⟩:=ai;have an:(vs.length==X.length&&us.length==Y.length)=false:=by
    cases hb:(vs.length==X.length&&us.length==Y.length) with
    | false=>rfl
    | true=>simp only[gA,beq_iff_eq] at hb;omega
   rw[an,vf] at c1 c2;have ag:∀ (Z:List Nat) i,i ∈ Z->(∀ j ∈ Z,j ∈ X++Y)->∃ o d,ops[i]?=some o/\o.guard=none/\o.dst=some d/\((ops[i]?.bind (·.dst))).getD 0=d:=by
    intro Z i hi hZ;rw[j7] at ae;have:=ae i (hZ i hi);cases ho:ops[i]? with
    | none=>rw[ho] at this;cases this
    | some o=>
     rw[ho] at this;simp only[gA,N3,OS] at this;obtain⟨g1,d,g2⟩:=this;exact⟨o,d,rfl,g1,g2,by simp[g2]⟩
   refine⟨fun h=>by rw[h] at c1;simp at c1,fun i hi=>?_⟩;rw[j7] at c2;have I:=c2 i hi;simp only[tA,beq_iff_eq] at I;have al:=List.nodup_append.1 aq;rcases I with I|I
   ·-- the next of X
    have ab:vs.length<X.length:=(List.getElem?_eq_some_iff.1 I).1;obtain⟨o,d,ho,hg,hd,aa⟩:=ag X i (pT I) (fun j hj=>Cs _ hj);refine eB ho hg (sy ?_ (hX i o vs us I ho hu (aj (PY us) R) W (aB (oY us) oR) hR));rintro a' w' ⟨v,rfl,hR'⟩;refine⟨fun _=>hS _ _ hR',?_⟩;rw[I] at c3;simp only[beq_iff_eq] at c3;have h3:=ih (vs++[v]) us w' tb hu tb hR';rw[gj,pD,<-c3] at h3;have e1:fW M (dV ops X) (vs++[v])=(fW M (dV ops X) vs).put (some d) v:=by
     have ad:dV ops X=dV ops (X.take vs.length)++(d::dV ops (X.drop (vs.length+1))):=by
      have ac:X[vs.length]=i:=(List.getElem?_eq_some_iff.1 I).2;have e9:=vK (fun i=>((ops[i]?.bind (·.dst))).getD 0) X ab;simp only[ac,aa] at e9;exact e9
     have hl:(dV ops (X.take vs.length)).length=vs.length:=by unfold dV;simp;omega
     rw[ad];rw[show dV ops (X.take vs.length)++(d::dV ops (X.drop (vs.length+1)))=(dV ops (X.take vs.length)++[d])++dV ops (X.drop (vs.length+1)) by simp];rw[kM _ _ _ (vs++[v]) (by simp[hl]),vJ _ _ _ _ _ hl,ma,kM _ _ _ vs hl]
    have ap:d ∉ dV ops Y:=by
     intro hm;refine al.2.2 d ?_ d hm rfl;unfold dV;exact List.mem_map.2 ⟨i,pT I,aa⟩
    rw[hd,D9 d v _ us _ ap,<-e1];exact h3
   ·have ab:us.length<Y.length:=(List.getElem?_eq_some_iff.1 I).1;obtain⟨o,d,ho,hg,hd,aa⟩:=ag Y i (pT I) (fun j hj=>zg _ hj);have ar:aI F0 w0 (aj (PY us) (aj (PX vs) R)) W:=hR.kQ;refine eB ho hg (sy ?_ (hY i o vs us I ho hv (aj (PX vs) R) W (aB (oX vs) oR) ar));rintro a' w' ⟨v,rfl,hR'⟩;refine⟨fun _=>hS _ _ hR',?_⟩;rw[I] at c4;simp only[beq_iff_eq] at c4;have h3:=ih vs (us++[v]) w' hv tb tb hR'.kQ;rw[gj,pD,<-c4] at h3;have e1:∀ b:Act,fW b (dV ops Y) (us++[v])=(fW b (dV ops Y) us).put (some d) v:=by
     intro b;have ad:dV ops Y=dV ops (Y.take us.length)++(d::dV ops (Y.drop (us.length+1))):=by
      have ac:Y[us.length]=i:=(List.getElem?_eq_some_iff.1 I).2;have e9:=vK (fun i=>((ops[i]?.bind (·.dst))).getD 0) Y ab;simp only[ac,aa] at e9;exact e9
     have hl:(dV ops (Y.take us.length)).length=us.length:=by unfold dV;simp;omega
     rw[ad];rw[show dV ops (Y.take us.length)++(d::dV ops (Y.drop (us.length+1)))=(dV ops (Y.take us.length)++[d])++dV ops (Y.drop (us.length+1)) by simp];rw[kM _ _ _ (us++[v]) (by simp[hl]),vJ _ _ _ _ _ hl,ma,kM _ _ _ us hl]
    rw[hd,<-e1];exact h3
 have h1:=key (X.length+Y.length) [] [] W (fy _) (fy _) i7 h0;have e:∀ (b:Act) (ds:List Nat),fW b ds []=b:=fun b ds=>by cases ds<;>rfl
 rw[e,e] at h1;exact h1
end
variable{w':World}
theorem below_grow(h:Below w.heap.size w w')(hd:w.drawn<=w'.drawn):∃ q os,w'=Go.Sort.grow (w.drewN q) os:=by
 refine⟨w'.drawn-w.drawn,w'.heap.extract w.heap.size w'.heap.size,?_⟩;obtain⟨J,M,h3,h4,h5⟩:=h;have hh:w'.heap=w.heap++w'.heap.extract w.heap.size w'.heap.size:=by
  apply Array.ext_getElem?;intro k;rw[P0];split
  ·rename_i hk;exact h5 k hk
  ·rename_i hk;rw[Array.getElem?_extract];split
   ·congr 1;omega
   ·rw[tt];omega
 have I:w'.drawn=w.drawn+(w'.drawn-w.drawn):=by omega
 obtain⟨hp,tp,dr,os,out⟩:=w';simp only at J M h3 hh I ⊢;subst J M h3;simp only[Go.Sort.grow,World.drewN];congr 1
end Go.CH
namespace Go.Proofs
open Go.Shelf
def Tryz.OD:Go.Shelf.Ren:=⟨fun|6=>75|15=>95|14=>94|28=>130|29=>131|20=>122|21=>123|22=>124|23=>125|24=>126|25=>127|26=>128|27=>129|46=>148|47=>149|48=>150|49=>151|50=>152|57=>163|n=>n,fun|22=>56|24=>110|25=>194|3=>3|39=>221|0=>0|53=>29|55=>263|4=>4|46=>256|45=>255|50=>99|5=>5|9=>9|66=>276|70=>280|76=>292|77=>293|n=>n,fun|n=>n⟩
theorem Tryz.Xw:Go.Proofs.SlLaysF0.n6 Tryz.prog Tryz.OD:={
 mixed:=by kernel_rfl
 f6:=⟨Tryz.f75.name,by decide,Tryz.func75.trans gd⟩
 f14:=⟨Tryz.f94.name,by decide,Tryz.func94.trans gd⟩
 f15:=Tryz.func95.trans gd
 f20:=⟨Tryz.f122.name,by decide,Tryz.func122.trans gd⟩
 f21:=⟨Tryz.f123.name,by decide,Tryz.func123.trans gd⟩
 f22:=⟨Tryz.f124.name,by decide,Tryz.func124.trans gd⟩
 f23:=⟨Tryz.f125.name,by decide,Tryz.func125.trans gd⟩
 f24:=⟨Tryz.f126.name,by decide,Tryz.func126.trans gd⟩
 f25:=⟨Tryz.f127.name,by decide,Tryz.func127.trans gd⟩
 f26:=⟨Tryz.f128.name,by decide,Tryz.func128.trans gd⟩
 f27:=⟨Tryz.f129.name,by decide,Tryz.func129.trans gd⟩
 f28:=Tryz.func130.trans gd
 f29:=Tryz.func131.trans gd
 f46:=⟨Tryz.f148.name,by decide,Tryz.func148.trans gd⟩
 f47:=Tryz.func149.trans gd
 f48:=Tryz.func150.trans gd
 f49:=⟨Tryz.f151.name,by decide,Tryz.func151.trans gd⟩
 f50:=⟨Tryz.f152.name,by decide,Tryz.func152.trans gd⟩
 f57:=⟨Tryz.f163.name,by decide,Tryz.func163.trans gd⟩
 t0:=Tryz.underlying0
 a0:=Tryz.isAgg0
 z0:=Tryz.sizeOf0
 v0:=Tryz.zeroValue0
 t3:=Tryz.underlying3
 a3:=Tryz.isAgg3
 z3:=Tryz.sizeOf3
 v3:=Tryz.zeroValue3
 t4:=Tryz.underlying4
 a4:=Tryz.isAgg4
 z4:=Tryz.sizeOf4
 v4:=Tryz.zeroValue4
 t5:=Tryz.underlying5
 a5:=Tryz.isAgg5
 z5:=Tryz.sizeOf5
 v5:=Tryz.zeroValue5
 t9:=Tryz.underlying9
 a9:=Tryz.isAgg9
 z9:=Tryz.sizeOf9
 v9:=Tryz.zeroValue9
 t22:=Tryz.underlying56
 a22:=Tryz.isAgg56
 z22:=Tryz.sizeOf56
 v22:=Tryz.zeroValue56
 t25:=Tryz.underlying194
 a25:=Tryz.isAgg194
 z25:=Tryz.sizeOf194
 v25:=Tryz.zeroValue194
 t39:=Tryz.underlying221
 a39:=Tryz.isAgg221
 z39:=Tryz.sizeOf221
 v39:=Tryz.zeroValue221
 t45:=Tryz.underlying255
 a45:=Tryz.isAgg255
 z45:=Tryz.sizeOf255
 v45:=Tryz.zeroValue255
 t46:=Tryz.underlying256
 a46:=Tryz.isAgg256
 z46:=Tryz.sizeOf256
 v46:=Tryz.zeroValue256
 t50:=Tryz.underlying99
 a50:=Tryz.isAgg99
 z50:=Tryz.sizeOf99
 v50:=Tryz.zeroValue99
 t53:=Tryz.underlying29
 a53:=Tryz.isAgg29
 z53:=Tryz.sizeOf29
 v53:=Tryz.zeroValue29
 t55:=Tryz.underlying263
 a55:=Tryz.isAgg263
 z55:=Tryz.sizeOf263
 v55:=Tryz.zeroValue263
 t66:=Tryz.underlying276
 a66:=Tryz.isAgg276
 z66:=Tryz.sizeOf276
 v66:=Tryz.zeroValue276
 t70:=Tryz.underlying280
 a70:=Tryz.isAgg280
 z70:=Tryz.sizeOf280
 v70:=Tryz.zeroValue280
 t76:=Tryz.underlying292
 a76:=Tryz.isAgg292
 z76:=Tryz.sizeOf292
 v76:=Tryz.zeroValue292
 t77:=Tryz.underlying293
 a77:=Tryz.isAgg293
 z77:=Tryz.sizeOf293
 v77:=Tryz.zeroValue293 }
end Go.Proofs
namespace Go.CH
open Go.RowKit
open Go.ChangeMaps (setBlock)
section
variable{P:Program}
def zY(w:World)(r b:Nat)(es:Array MapEntry)(clock:Nat)(left:List MapEntry):Prop:=
 ∃ seen,w.heap[r]?=some (.mapIter (some b) clock seen clock)/\left=es.toList.filter (fun e=>!seen.contains e.born)
variable{t:TypeId}{w:World}{b r c l i:Nat}{es:Array MapEntry}{seen:Array Nat}
theorem run_range_map{K E:TypeId}(I:P.underlying t=some (.map K E)){h:Nat}(J:w.heap[b]?=some (.map es h)):
  (Instr.range t (.map (some b))).run P w=.ok (.pointer (some ⟨w.heap.size,0,none⟩)) (w.alloc (.mapIter (some b) h #[] h))/\zY (w.alloc (.mapIter (some b) h #[] h)) w.heap.size b es h es.toList:=by
 refine⟨?_,#[],Ld rfl,(List.filter_eq_self.2 i7).symm⟩;simp only[Instr.range,j9,run_underlying I,ky,tW J,kB];rfl
theorem kr(h:w.heap[r]?=some (.mapIter (some b) c seen l)):(getObj r).run P w=.ok (.mapIter (some b) c seen l) w:=by
 simp[getObj,Sem.run,h]
theorem sJ(h:w.heap[r]?=some (.mapIter (some b) c seen l))(o:Obj):(setObj r o).run P w=.ok () (setBlock w r o):=by
 simp[setObj,Sem.run,h,setBlock]
theorem filter_push(es:List MapEntry)(I:Array Nat)(hn:(es.map (·.born)).Nodup)(hi:i<(es.filter (fun e=>!I.contains e.born)).length):
  es.filter (fun e=>!(I.push (es.filter (fun e=>!I.contains e.born))[i].born).contains e.born)=(es.filter (fun e=>!I.contains e.born)).eraseIdx i:=by
 have h1:es.filter (fun e=>!(I.push (es.filter (fun e=>!I.contains e.born))[i].born).contains e.born) =
   (es.filter (fun e=>!I.contains e.born)).filter (fun e=>!(e.born==(es.filter (fun e=>!I.contains e.born))[i].born)):=by
  rw[List.filter_filter];refine Ge fun e _=>?_;rw[Array.contains_push,Bool.not_or,Bool.and_comm]
 rw[h1];have J:((es.filter (fun e=>!I.contains e.born)).map (·.born)).Nodup:=(List.filter_sublist.map _).nodup hn;generalize es.filter (fun e=>!I.contains e.born)=l at hi J;clear h1 hn
 induction l generalizing i with
 | nil=>simp at hi
 | cons a l ih=>
  rw[lk,Kx] at J;cases i with
  | zero=>
   simp only[kO,List.eraseIdx_cons_zero];rw[Pu i7];rw[List.filter_eq_self];intro e he;simp only[tv,beq_eq_false_iff_ne];intro h;exact J.1 (h ▸ List.mem_map.2 ⟨e,he,rfl⟩)
  | succ i=>
   simp only[k6,List.eraseIdx_cons_succ];have M:i<l.length:=by simpa using hi
   rw[PH]
   ·rw[ih M J.2]
   ·simp only[tv,beq_eq_false_iff_ne];intro h;exact J.1 (h ▸ List.mem_map.2 ⟨l[i],gw M,rfl⟩)
theorem run_next_map{I:Nat}{left:List MapEntry}(h:zY w r b es I left)(hb:w.heap[b]?=some (.map es I))(aa:∀ e ∈ es.toList,e.born<I)(hn:(es.toList.map (·.born)).Nodup)(ty:TypeId):
  (left=[]/\(Instr.next (.pointer (some ⟨r,0,none⟩)) false ty).run P w=.ok (.tuple (gv false)) w) \/
  ∃ (i:Nat) (hi:i<left.length) (w':World),(Instr.next (.pointer (some ⟨r,0,none⟩)) false ty).run P w=.ok (.tuple #[.bool true,left[i].key,left[i].val]) w'/\zY w' r b es I (left.eraseIdx i)/\Mod (fun i=>i=r) w w'/\w'.heap.size=w.heap.size /\
   ∀ M:World,M.heap[r]?=w'.heap[r]?->M.heap[b]?=some (.map es I)->(Instr.entry (.pointer (some ⟨r,0,none⟩))).run P M=.ok (.tuple #[left[i].key,left[i].val]) M:=by
 obtain⟨J,hr,hl⟩:=h;have hg:(!J.isEmpty && !es.isEmpty&&es.all (·.born ≥ I))=false:=by
  cases he:es.toList with
  | nil=>(have:es=#[]:=by simpa using he);subst this;simp
  | cons e l=>
   have h1:=aa e (by rw[he];simp);have:es.all (fun x=>decide (x.born ≥ I))=false:=by
    rw[<-Array.all_toList,he,C5];simp;intro h;omega
   rw[this,Bool.and_false]
 have ac:(es.filter fun e:MapEntry=>!J.contains e.born).toList=left:=by rw[hl];simp
 have ae:(es.filter fun e:MapEntry=>!J.contains e.born).filter (fun e=>decide (e.born<I))=es.filter fun e:MapEntry=>!J.contains e.born:=by
  apply Array.toList_inj.1;rw[Array.toList_filter,ac,List.filter_eq_self];intro e he;rw[hl] at he;simpa using aa e (List.mem_filter.1 he).1
 have af:(es.filter fun e:MapEntry=>!J.contains e.born).filter (fun e=>decide (e.born ≥ I))=#[]:=by
  apply Array.toList_inj.1;rw[Array.toList_filter,ac,List.filter_eq_nil_iff.2];intro e he;rw[hl] at he;have:=aa e (List.mem_filter.1 he).1;simp;omega
 have ar:∀ w1:World,True:=fun _=>trivial;cases ai:left with
 | nil=>
  left;refine⟨rfl,?_⟩;have aq:(es.filter fun e:MapEntry=>!J.contains e.born)=#[]:=by apply Array.toList_inj.1;rw[ac,ai]
  simp only[Instr.next,j9,kr hr,ky,tW hb,hg,k7,if_false,kB,ae,af,aq];simp[choose,Sem.run,Question.forced]
 | cons e0 l0=>
  right;have ag:(es.filter fun e:MapEntry=>!J.contains e.born).isEmpty=false:=by
   rw[<-Array.isEmpty_toList,ac,ai];rfl
  have aA:((es.filter fun e:MapEntry=>!J.contains e.born)++#[]).size=left.length:=by rw[Array.append_empty,<-Ft,ac]
  have key:∀ i (hi:i<left.length) (w1:World),w1.heap=w.heap->w1.os=w.os->w1.tape=w.tape->w1.output=w.output ->
    zY (setBlock w1 r (.mapIter (some b) I (J.push left[i].born) I)) r b es I (left.eraseIdx i)/\Mod (fun i=>i=r) w (setBlock w1 r (.mapIter (some b) I (J.push left[i].born) I)) /\
     (setBlock w1 r (.mapIter (some b) I (J.push left[i].born) I)).heap.size=w.heap.size /\
     (∀ M:World,M.heap[r]?=(setBlock w1 r (.mapIter (some b) I (J.push left[i].born) I)).heap[r]?->M.heap[b]?=some (.map es I)->(Instr.entry (.pointer (some ⟨r,0,none⟩))).run P M=.ok (.tuple #[left[i].key,left[i].val]) M):=by
   intro i hi w1 h1 h2 h3 h4;have az:w1.heap[r]?=some (.mapIter (some b) I J I):=by rw[h1];exact hr
   have am:(setBlock w1 r (.mapIter (some b) I (J.push left[i].born) I)).heap[r]?=some (.mapIter (some b) I (J.push left[i].born) I):=kE az;refine⟨⟨_,am,?_⟩,⟨h2,h3,h4,by rw[vX,h1];exact fL _,fun k hk aw=>by rw[mD (fun e=>aw e.symm),h1]⟩,by rw[vX,h1],fun M g1 g2=>?_⟩
   ·subst hl;exact(filter_push es.toList J hn hi).symm
   ·rw[am] at g1;have ap:∀ x ∈ left,x ∈ es.toList:=by rw[hl];exact fun x hx=>(List.mem_filter.1 hx).1
    have ao:left[i] ∈ es.toList:=ap _ (gw hi);have al:es.find? (fun x=>x.born==left[i].born)=some left[i]:=by
     obtain⟨j,hj⟩:=List.getElem?_of_mem ao;have ax:es.toList.find? (fun x=>x.born==left[i].born)=some left[i]:=by
      have:∀ (l:List MapEntry) (j:Nat),(l.map (·.born)).Nodup->l[j]?=some left[i]->l.find? (fun x=>x.born==left[i].born)=some left[i]:=by
       intro l
       induction l with
       | nil=>intro j _ h;simp at h
       | cons x l ih=>
        intro j hn h;rw[lk,Kx] at hn;cases j with
        | zero=>simp at h;subst h;simp
        | succ j=>
         have h':l[j]?=some left[i]:=by simpa using h
         have ag:¬ x.born=left[i].born:=fun e=>hn.1 (e ▸ List.mem_map.2 ⟨left[i],pT h',rfl⟩);rw[List.find?_cons_of_neg (by simpa using ag)];exact ih j hn.2 h'
      exact this _ j hn hj
     obtain⟨es⟩:=es;simpa using ax
    simp only[Instr.entry,j9,kr g1,ky,tW g2,Array.back?_push,bne_self_eq_false,k7,if_false,kB,al]
  have ad:∀ i (hi:i<left.length),(((#[]:Array (Option MapEntry))++((es.filter fun e:MapEntry=>!J.contains e.born)++#[]).map some)[i]?)=some (some left[i]):=by
   intro i hi;rw[Array.append_empty,<-ub];simp only[Array.toList_append,J0,ac];simp[hi]
  rw[<-ai];have an:((#[]:Array (Option MapEntry))++((es.filter fun e:MapEntry=>!J.contains e.born)++#[]).map some).size=left.length:=by simp only[Jn,Array.size_map,aA];simp
  have ab:0<left.length:=by rw[ai];simp
  by_cases hf:left.length<=1
  ·refine⟨0,ab,setBlock w r (.mapIter (some b) I (J.push left[0].born) I),?_,key 0 ab w rfl rfl rfl rfl⟩;simp only[Instr.next,j9,kr hr,ky,tW hb,hg,k7,if_false,kB,ae,af,ag];have hc:(choose (.mapNext ((#[]:Array (Option MapEntry))++((es.filter fun e:MapEntry=>!J.contains e.born)++#[]).map some).size):Sem Nat).run P w=.ok 0 w:=by
    rw[an];simp[choose,Sem.run,Question.forced,hf]
   rw[hc];simp only[ky,ad 0 ab,j9,sJ hr,kB]
  ·have ak:w.tape w.drawn (.mapNext left.length) % left.length<left.length:=qS _ ab;refine⟨_,ak,setBlock w.drew r (.mapIter (some b) I (J.push (left[w.tape w.drawn (.mapNext left.length) % left.length]'ak).born) I),?_,key _ ak w.drew rfl rfl rfl rfl⟩;simp only[Instr.next,j9,kr hr,ky,tW hb,hg,k7,if_false,kB,ae,af,ag];have hc:(choose (.mapNext ((#[]:Array (Option MapEntry))++((es.filter fun e:MapEntry=>!J.contains e.born)++#[]).map some).size):Sem Nat).run P w=.ok (w.tape w.drawn (.mapNext left.length) % left.length) w.drew:=by
    rw[an];simp[choose,Sem.run,Question.forced,hf,Question.cut]
   rw[hc];simp only[ky,ad _ ak,j9,sJ (w:=w.drew) hr,kB]
end
variable{assign:Code}{Q:Exit->Act->World->Prop}{a:Act}{w w0:World}{F0:Nat->Prop}
theorem DR{α:Type}{P:Program}{g:Operand}{ps:Array Tmp}{body:Code}{gf:Nat}{lb:Array Value}(hg:a.eval g=.func (.func gf) #[] lb)(eg:∀ args w,(callFunc gf args).run P w=.ok (.enter gf args) w){E:World->Prop}{Z:Nat->aU}{enc:α->Array Value}{xs:List α}(ak:Qs P gf lb E Z enc xs)(hZ:∀ i,(Z i).Ok)(an:∀ x,(enc x).size=ps.size)(hE:∀ W,Mod F0 w0 W->E W)(I:Nat->aU)(Ix:Code->aU)(hI:∀ i,(I i).Ok)(I2:Nat->Act->aU)(aq:∀ i a,(I2 i a).Ok)(ab:∀ c,(Ix c).Ok)(h0:aI F0 w0 (aj (Z 0) (I 0)) w)(ac:∀ (l m i:Nat) (hi:i<xs.length) (R:aU) (W:World) (K:Act->World->Prop),R.Ok->aI F0 w0 (aj (I i) R) W->(∀ a' W',aI F0 w0 (aj (I2 i a') R) W'->K a' W') ->
   assign.wpIn (Fence.wide.inRound l) m P (Exit.then K (fun _ _ _=>False)) { tmps:=(ps.zip (enc xs[i])).foldl (fun t (p,v)=>t.setIfInBounds p v) a.tmps,defers:=[] } W)(hbody:∀ (l m i:Nat) (hi:i<xs.length) (a':Act) (R:aU) (W:World),R.Ok->aI F0 w0 (aj (I2 i a') R) W->body.wpIn (Fence.wide.inRound l) m P (I4 F0 w0 R (I (i+1)) Ix) a' W)(hdone:∀ (D:Nat) (R:aU) (W:World),R.Ok->aI F0 w0 (aj (I xs.length) (aj (aX D (.deferred (some []))) R)) W->Q .normal { a with defers:={ target:=.collected D,args:=#[] } :: a.defers } W)(hstop:∀ (D:Nat) (c:Code) (R:aU) (W:World),R.Ok->aI F0 w0 (aj (Ix c) (aj (aX D (.deferred (some []))) R)) W->c.wp P Q { a with defers:={ target:=.collected D,args:=#[] } :: a.defers } W):
  (Code.rangeFunc g ps assign body).wp P Q a w:=by
 refine(wpIn_wide (n:=8)).1 ?_;refine wpIn_rangeFunc ?_;intro fn ap;obtain⟨J,aa⟩:∃ J:LoopState->Option Code->Loop,J=fun st pe=>{ state:=st,pending:=pe,fn,tmps:=a.tmps,params:=ps,assign,body,defers:=w.heap.size }:=⟨_,rfl⟩;obtain⟨W1,ae⟩:∃ W1,(w.alloc (.deferred (some []))).alloc (.loop (J .ready none))=W1:=⟨_,rfl⟩;obtain⟨l,hl⟩:∃ l,l=w.heap.size+1:=⟨_,rfl⟩;obtain⟨D,hD⟩:∃ D,D=w.heap.size:=⟨_,rfl⟩;have R1:aI F0 w0 (aj (Z 0) (aj (aX l (.loop (J .ready none))) (aj (aX D (.deferred (some []))) (I 0)))) W1:=by
  have o1:=aB (hZ 0) (hI 0);have h1:=h0.fresh o1 (vC w (.deferred (some [])));have h2:=h1.fresh (aB bg o1) (vC (w.alloc (.deferred (some []))) (.loop (J .ready none)));have e1:(w.alloc (.deferred (some []))).heap.size=l:=by rw[hl];simp
  rw[e1,<-hD] at h2;rw[ae] at h2;exact h2.perm (by ac_rfl)
 have ax:(aX D (.deferred (some []))).Ok:=bg
 refine⟨l,[{ target:=.collected w.heap.size,args:=#[] }],W1,{ target:=.fn (.func gf) lb,args:=#[.func (.yield l) #[] #[]] },W1,gf,
  #[.func (.yield l) #[] #[]]++lb,W1,?_,?_,?_,?_,fun _=>by omega,?_⟩
 ·rw[<-ae,aa,hl];exact run_enterLoop_outer _ _ _ _ _
 ·simp only[resolve,hg];simp[go_sem]
 ·intro f' ar;trivial
 ·simp[invoke,go_sem,eg]
 ·refine(ak (8-1) l W1 F0 w0 (fun i=>aj (aX l (.loop (J .ready none))) (aj (aX D (.deferred (some []))) (I i)))
   (Ek fun c=>aj (aX l (.loop (J .done (some c)))) (aj (aX D (.deferred (some []))) (Ix c)))
   (fun i=>aB bg (aB bg (hI i))) (IZ fun c=>aB bg (aB bg (ab c))) hE R1 ?_).mono ?_
  ·-- one round
   intro i hi W hR;have ao:(aj (aX D (.deferred (some []))) (aj (Z i) (I i))).Ok:=aB bg (aB (hZ i) (hI i));have af:=hR.perm (by ac_rfl:_=aj (aX l (.loop (J .ready none))) (aj (aX D (.deferred (some []))) (aj (Z i) (I i))));obtain⟨FL,hL,-,bk⟩:=af.take bg ao;have hy:=run_yield (P:=P) (args:=enc xs[i]) hL.1 (by rw[aa];exact an _);rw[aa] at hy;refine⟨fn,_,assign,body,hy,roundIn_of_wpIn ap (ac l _ i hi (aj (aX l (.loop (J .ready none))) (aj (aX D (.deferred (some []))) (Z i))) W _ (aB bg (aB bg (hZ i))) (af.perm (by ac_rfl)) ?_)⟩;intro a' W' ag;obtain⟨aw,ad,-,al⟩:=(ag.perm (by ac_rfl:_=aj (aX l (.loop (J .ready none))) (aj (aX D (.deferred (some []))) (aj (Z i) (I2 i a'))))).take bg (aB bg (aB (hZ i) (aq i a')));refine⟨_,run_beginRound ad.1 (by rw[aa]),?_⟩;have hB:=al _ _ (fK ad (.loop { J .ready none with state:=.busy }));have am:(aj (aX l (.loop { J .ready none with state:=.busy })) (aj (aX D (.deferred (some []))) (Z i))).Ok:=aB bg (aB bg (hZ i));refine wpIn_mono (hbody l _ i hi a' (aj (aX l (.loop { J .ready none with state:=.busy })) (aj (aX D (.deferred (some []))) (Z i))) _ am (hB.perm (by ac_rfl))) ?_;have fin:∀ (M:Option Code) (W3:World) (O:aU),O.Ok->aI F0 w0 (aj O (aj (aX l (.loop { J .ready none with state:=.busy })) (aj (aX D (.deferred (some []))) (Z i)))) W3 ->
     ∃ W4,(Instr.endRound l M).run P W3=.ok (.bool M.isNone) W4/\aI F0 w0 (aj (Z i) (aj (aX l (.loop (J (if M.isNone then .ready else .done) M))) (aj (aX D (.deferred (some []))) O))) W4:=fun M W3 O hO h3=>by
    have h4:=h3.perm (by ac_rfl:_=aj (aX l (.loop { J .ready none with state:=.busy })) (aj (aX D (.deferred (some []))) (aj (Z i) O)));obtain⟨FL,hL,-,bk⟩:=h4.take bg (aB bg (aB (hZ i) hO));refine⟨_,run_endRound (P:=P) M hL.1,?_⟩;have h5:=bk _ _ (fK hL (.loop { { J .ready none with state:=.busy } with state:=if M.isNone then .ready else .done,pending:=M }));have e5:({ { J .ready none with state:=.busy } with state:=if M.isNone then .ready else .done,pending:=M }:Loop)=J (if M.isNone then .ready else .done) M:=by rw[aa]
    rw[e5] at h5 ⊢;exact h5.perm (by ac_rfl)
   rintro e a3 W3 hp;cases e with
   | normal=>
    obtain⟨W4,h4,h5⟩:=fin none W3 _ (hI (i+1)) hp;exact⟨_,_,h4,.inl ⟨rfl,h5⟩⟩
   | ret=>
    obtain⟨W4,h4,h5⟩:=fin (some .ret) W3 _ (ab .ret) hp;exact⟨_,_,h4,.inr ⟨rfl,h5.imp fun w F hh=>bD hh (fun _ h=>h) (fun _ h=>⟨.ret,h⟩)⟩⟩
   | exit id=>
    obtain⟨W4,h4,h5⟩:=fin (some (.exit id)) W3 _ (ab (.exit id)) hp;exact⟨_,_,h4,.inr ⟨rfl,h5.imp fun w F hh=>bD hh (fun _ h=>h) (fun _ h=>⟨.exit id,h⟩)⟩⟩
   | goto t=>
    obtain⟨W4,h4,h5⟩:=fin (some (.goto t)) W3 _ (ab (.goto t)) hp;exact⟨_,_,h4,.inr ⟨rfl,h5.imp fun w F hh=>bD hh (fun _ h=>h) (fun _ h=>⟨.goto t,h⟩)⟩⟩
   | panic ch=>exact hp.elim
   | outgrown=>exact hp.elim
  ·-- behind the iterator
   have fin:∀ (st:LoopState) (pe:Option Code) (W2:World) (i:Nat) (O:aU),O.Ok->st≠.busy->aI F0 w0 (aj (Z i) (aj (aX l (.loop (J st pe))) (aj (aX D (.deferred (some []))) O))) W2 ->
     ∃ W4 R,R.Ok/\(Instr.endLoop l).run P W2=.ok pe W4/\aI F0 w0 (aj O (aj (aX D (.deferred (some []))) R)) W4:=fun st pe W2 i O hO ai h3=>by
    have h4:=h3.perm (by ac_rfl:_=aj (aX l (.loop (J st pe))) (aj (aX D (.deferred (some []))) (aj (Z i) O)));obtain⟨FL,hL,-,bk⟩:=h4.take bg (aB bg (aB (hZ i) hO));have he:=run_endLoop (P:=P) hL.1 (by rw[aa];exact ai);have e6:(J st pe).pending=pe:=by rw[aa]
    have he:=he.trans (congrArg (fun p=>Result.ok p (W2.putObj l (.loop { J st pe with state:=.exhausted }))) e6);have hp:=fK hL (.loop { J st pe with state:=.exhausted });generalize Obj.loop { J st pe with state:=.exhausted }=o4 at he hp;have h5:=bk _ _ hp;exact⟨_,aj (aX l o4) (Z i),aB bg (hZ i),he,h5.perm (by ac_rfl:_=aj O (aj (aX D (.deferred (some []))) (aj (aX l o4) (Z i))))⟩
   rintro e W2 ⟨⟨v,rfl⟩,h2|⟨i,h2⟩⟩
   ·obtain⟨W4,R,hR,he,h4⟩:=fin .ready none W2 _ _ (hI _) i7 h2;rw[<-hD];exact⟨none,_,he,hdone D R W4 hR h4⟩
   ·have h3:∃ c,aI F0 w0 (aj (Z i) (aj (aX l (.loop (J .done (some c)))) (aj (aX D (.deferred (some []))) (Ix c)))) W2:=by
     obtain⟨⟨F,⟨F1,F2,g1,⟨c,g2⟩,g3,g4⟩,hF⟩,hm⟩:=h2;exact⟨c,⟨⟨F,⟨F1,F2,g1,g2,g3,g4⟩,hF⟩,hm⟩⟩
    obtain⟨c,h3⟩:=h3;obtain⟨W4,R,hR,he,h4⟩:=fin .done (some c) W2 _ _ (ab c) i7 h3;rw[<-hD];exact⟨some c,_,he,(wpIn_wide (n:=8)).2 (hstop D c R W4 hR h4)⟩
section
variable{P:Program}{ops:Array Oper}{Q:Exit→Act→World→Prop}{S:World→Prop}{s:Nat}
def Ll(ops:Array Oper)(i:Nat):Nat->List Nat->Bool
 | s,[]=>waits ops s i
 | s,k::ks=>waits ops s k&&Ll ops i k ks
variable{i:Nat}{I:Array Bool}{oi:Oper}{v:Value}
theorem DC(h:waits ops s i=true)(h0:I.getD i true=false):s ∉ Region.ready .any ops I:=by
 intro hs;obtain⟨-,o,ho,M⟩:=mem_ready.1 hs;unfold waits at h;rw[ho] at h;simp only[Array.any_eq_true,gA,beq_iff_eq] at h;obtain⟨k,hk,h1,h2⟩:=h;have J:=M _ (Array.getElem_mem hk) h1;rw[h2] at J;rcases tG i I.size with h'|h'
 ·simp[h'] at h0 J;rw[h0] at J;cases J
 ·simp[tt h'] at J
theorem Lm{i:Nat}{I:Array Bool}(h0:I.getD i true=false):∀ (J:List Nat) (s:Nat),Ll ops i s J=true->(∀ k ∈ J,I.getD k true=false)->s ∉ Region.ready .any ops I/\∀ k ∈ J,k ∉ Region.ready .any ops I
 | [],s,h,_=>⟨DC h h0,fun _ h=>by cases h⟩
 | k::J,s,h,hu=>by
  unfold Ll at h;rw[gA] at h;obtain⟨h1,h2⟩:=Lm h0 J k h.2 (fun k hk=>hu k (pS _ hk));exact⟨DC h.1 (hu k (mA ..)),fun x M=>by rcases List.mem_cons.1 M with rfl|M;exact h1;exact h2 x M⟩
theorem ET{ks:List Nat}(hi:ops[i]?=some oi)(ac:∀ (j:Nat) (o:Oper) cs b,ops[j]?=some o->o.op≠.select cs b)(hQ:∀ c a w,Q (.panic c) (a.put oi.dst v) w->Q (.panic c) a w)(hw:Ll ops i s ks=true)(ap:i≠s):
  ∀ (J:Nat) (I:Array Bool) (a:Act) (w:World),(∀ k ∈ ks,I.getD k true=false) ->
   (∀ j oj,ops[j]?=some oj->j≠i->I.getD j true=false->(∀ e ∈ oj.after,Region.binds .any e=true->e.on≠i)->oi.apart ops oj=true) ->
   i ∈ Region.ready .any ops I->I.getD s true=false->YieldsIf P ops S oi v a->S w->iP P ops Q S s J (I.setIfInBounds i true) (a.put oi.dst v) w->iP P ops Q S s (J+1) I a w:=by
 intro J
 induction J with
 | zero=>
  intro I a w _ _ hr ae hy hS H;refine⟨fun h=>(by rw[h] at hr;cases hr),fun j hj=>?_⟩;by_cases M:j=i
  ·subst M;exact hy.wpOp hi hS ⟨fun _=>hS,H⟩
  ·have:=ready_mono hj M;rw[H.1] at this;cases this
 | succ J ih=>
  intro I a w am aa hr ae hy hS H;refine⟨fun h=>(by rw[h] at hr;cases hr),fun j hj=>?_⟩;by_cases M:j=i
  ·subst M;exact hy.wpOp hi hS ⟨fun _=>hS,H⟩
  ·obtain⟨ax,az⟩:=Lm (mem_ready.1 hr).1 ks s hw am;have ag:j≠s:=fun e=>ax (e ▸ hj);have h1:=H.2 j (ready_mono hj M);obtain⟨ad,oj,af,ak⟩:=mem_ready.1 hj;have ao:∀ e ∈ oj.after,Region.binds .any e=true->e.on≠i:=fun e he hb ar=>by
    have h1:=ak e he hb;have h0:=(mem_ready.1 hr).1;rw[ar] at h1;rcases tG i I.size with h'|h'
    ·simp[h'] at h0 h1;rw[h0] at h1;cases h1
    ·simp[tt h'] at h1
   have h2:=wpOp_putIf af (aa j oj af M ad ao) (fun cs b=>ac i oi cs b hi) (fun cs b=>ac j oj cs b af) hQ hy h1;have ab:∀ k ok,ops[k]?=some ok->k≠i->(I.setIfInBounds j true).getD k true=false ->
     (∀ e ∈ ok.after,Region.binds .any e=true->e.on≠i)->oi.apart ops ok=true:=fun k ok hk aw an aq=>by
    refine aa k ok hk aw ?_ aq;by_cases ai:j=k
    ·subst ai;exact ad
    ·rw[getD_set_ne true ai] at an;exact an
   refine wpOp_mono (fun a' w' h3=>?_) h2;have al:S w':=h3.2.1 (nE ag (nE ap ae));refine⟨fun _=>al,ih (I.setIfInBounds j true) a' w' (fun k hk=>nE (fun e=>az k hk (e ▸ hj)) (am k hk)) ab (ready_mono hr (px M)) (nE ag ae) h3.1 al ?_⟩;rw[Cf _ _ M];exact h3.2.2
theorem yH(ks:List Nat){J:Nat}(hi:ops[i]?=some oi)(hs:Region.noSelect ops=true)(hf:Region.free .any ops I i=true)(hr:(Region.ready .any ops I).contains i=true)(M:(Ll ops i s ks&&(i != s && !(I.getD s true))&&ks.all fun k=>!(I.getD k true))=true)(hQ:∀ c a w,Q (.panic c) (a.put oi.dst v) w->Q (.panic c) a w)(hy:YieldsIf P ops S oi v a)(hS:S w)(h:iP P ops Q S s J (I.setIfInBounds i true) (a.put oi.dst v) w):iP P ops Q S s (J+1) I a w:=by
 simp only[gA,bne_iff_ne,ne_eq,tv,j7] at M;exact ET hi (zt hs) hQ M.1.1 M.1.2.1 J I a w (fun k hk=>M.2 k hk) (GF hi hf) (by simpa using hr) M.1.2.2 hy hS h
end
variable{l:List aU}{vs:Nat->Value}{i:Nat}{v:Value}{w':World}{Z:Value->World->Prop}{K:Act->World->Prop}{dst:Option Tmp}
theorem ZR{m:List aU}:aL (l++m)=aj (aL l) (aL m):=by
 induction l with
 | nil=>exact(jC _).symm
 | cons a l ih=>show aj a (aL (l++m))=_;rw[ih];exact(vT _ _ _).symm
theorem Kt{m:List aU}(h:l.Perm m):aL l=aL m:=by
 induction h with
 | nil=>rfl
 | cons a _ ih=>show aj a _=aj a _;rw[ih]
 | swap a b l=>show aj b (aj a _)=aj a (aj b _);ac_rfl
 | trans _ _ h1 h2=>exact h1.trans h2
def upd(vs:Nat->Value)(i:Nat)(v:Value):Nat->Value:=fun k=>if k=i then v else vs k
theorem fA:upd vs i v i=v:=if_pos rfl
theorem upd_ne{k:Nat}(h:k≠i):upd vs i v k=vs k:=if_neg h
def oU:List Oper->Nat->(Nat->Value)->Act->Act
 | [],_,_,a=>a
 | o::r,k,vs,a=>oU r (k+1) vs (a.put o.dst (vs k))
section
variable{P:Program}{ops:Array Oper}{cons:List (List Nat)}{a0:Act}
def iD(ops:Array Oper)(k:Nat):Option Tmp:=(ops[k]?).bind (·.dst)
def Uh(ops:Array Oper)(i j:Nat):Prop:=((Region.before ops).getD i 0).testBit j=true
def qQ(cons:List (List Nat))(i:Nat):List Nat:=cons.getD i []
structure Slots(ops:Array Oper)(a0:Act)(L:Nat->Prop)(vs:Nat->Value)(a:Act):Prop where
 df:a.defers=a0.defers
 sz:a.tmps.size=a0.tmps.size
 on:∀ k d,L k->iD ops k=some d->a.tmps[d]?=some (vs k)
 off:∀ t,(∀ k,L k->iD ops k≠some t)->a.tmps[t]?=a0.tmps[t]?
def EI(P:Program)(ops:Array Oper)(o:Oper)(a:Act)(w:World)(Z:Value->World->Prop):Prop:=
 if Region.wanted o (yielded ops a.tmps) then
  match (execOp a.eval o).run P w with
  | .ok (.value v) w'=>Z v w'
  | .ok .skip w'=>Z undef w'
  | .ok (.enter f args) w'=>Calls P f args w' fun e h=>∃ v,e=.returned v/\Z v h
  | _=>False
 else Z undef w
theorem AV{o:Oper}(hw:Region.wanted o (yielded ops a.tmps)=true)(h:(execOp a.eval o).run P w=.ok (.value v) w')(hz:Z v w'):EI P ops o a w Z:=by
 unfold EI;rw[if_pos hw,h];exact hz
theorem acF{o:Oper}(hw:Region.wanted o (yielded ops a.tmps)=true)(h:(execOp a.eval o).run P w=.ok .skip w')(hz:Z undef w'):EI P ops o a w Z:=by
 unfold EI;rw[if_pos hw,h];exact hz
theorem g_call{o:Oper}{f:FuncId}{args:Array Value}(M:Region.wanted o (yielded ops a.tmps)=true)(h:(execOp a.eval o).run P w=.ok (.enter f args) w')(J:Calls P f args w' fun e I=>∃ v,e=.returned v/\Z v I):EI P ops o a w Z:=by
 unfold EI;rw[if_pos M,h];exact J
theorem aeX{o:Oper}{i:Nat}(hi:ops[i]?=some o)(h:EI P ops o a w Z)(I:∀ v w',Z v w'->K (a.put o.dst v) w'):wpOp P ops Q i K a w:=by
 unfold wpOp;unfold EI at h;simp only[hi];split
 ·rename_i J;rw[if_pos J] at h;refine .inl ?_;unfold Oper.wp;generalize (execOp a.eval o).run P w=r at *
  cases r with
  | ok nx w'=>
   cases nx<;>simp only[Oper.upon] at h ⊢ <;> first
    | exact I _ _ h
    | exact C6 h (fun e M he=>by obtain⟨v,rfl,hz⟩:=he;exact I _ _ hz)
    | exact h.elim
  | halt x w'=>exact h.elim
 ·rename_i J;rw[if_neg J] at h;exact I _ _ h
def IB(ops:Array Oper)(cons:List (List Nat))(n:Nat):Bool:=
 II ops (Region.before ops) &&
 ((List.range ops.size).all fun i=>
  (match ops[i]? with|some o=>o.after.all (fun e=>!Region.binds .any e||e.on<i)|none=>false) &&
  (match iD ops i with|some d=>decide (d<n)|none=>true) &&
  decide ((qQ cons i).Nodup)&&((qQ cons i).all fun j=>decide (j<i)&&((Region.before ops).getD i 0).testBit j) &&
  (List.range ops.size).all fun k=>i==k||(((iD ops i).isNone||iD ops i != iD ops k)&&(qQ cons i).all fun j=>!(qQ cons k).contains j))
def jW(ops:Array Oper)(cons:List (List Nat))(L:Nat->Bool):List Nat:=(List.range ops.size).filter fun i=>L i&&(List.range ops.size).all fun k=>!(L k&&(qQ cons k).contains i)
theorem P9{t:Nat}:(a.put dst v).tmps[t]?=if dst=some t/\t<a.tmps.size then some v else a.tmps[t]?:=by
 cases dst with
 | none=>simp[Act.put]
 | some d=>
  simp only[Act.put,Option.some.injEq];rw[Array.getElem?_setIfInBounds];by_cases h:d=t
  ·subst h;by_cases I:d<a.tmps.size
   ·simp[I]
   ·simp[I]
  ·simp[h]
theorem Vu:(a.put dst v).defers=a.defers/\(a.put dst v).tmps.size=a.tmps.size:=by cases dst<;>simp[Act.put]
theorem Gg{L:Nat->Prop}{vs:Nat->Value}{i:Nat}{o:Oper}(h:Slots ops a0 L vs a)(hi:ops[i]?=some o)(hn:¬ L i)(hd:∀ d,o.dst=some d->d<a0.tmps.size)(hu:∀ k,L k->o.dst≠none->iD ops k≠o.dst):
  Slots ops a0 (fun k=>k=i\/L k) (upd vs i v) (a.put o.dst v):=by
 have e:iD ops i=o.dst:=by unfold iD;rw[hi];rfl
 refine⟨Vu.1.trans h.df,Vu.2.trans h.sz,fun k d J I=>?_,fun t ht=>?_⟩
 ·rw[P9];rcases J with rfl|J
  ·rw[e] at I;rw[if_pos ⟨I,by rw[h.sz];exact hd d I⟩,fA]
  ·have:k≠i:=fun e=>hn (e ▸ J);rw[if_neg,upd_ne this]
   ·exact h.on k d J I
   ·rintro⟨M,-⟩;exact hu k J (by rw[M];simp) (by rw[M];exact I)
 ·rw[P9,if_neg]
  ·exact h.off t fun k J=>ht k (.inr J)
  ·rintro⟨M,-⟩;exact ht i (.inl rfl) (e.trans M)
theorem xZ{vs:Nat->Value}:∀ (l:List Oper) (k:Nat) (a:Act),(∀ j,l[j]?=ops[k+j]?)->(∀ i d,iD ops i=some d->d<a0.tmps.size)->(∀ i j d,i<j->iD ops i=some d->iD ops j≠some d)->Slots ops a0 (fun i=>i<k) vs a ->
  Slots ops a0 (fun i=>i<k+l.length) vs (oU l k vs a)
 | [],k,a,_,_,_,h=>h
 | o::l,k,a,hl,hd,hu,h=>by
  have h0:ops[k]?=some o:=by simpa using (hl 0).symm
  have e:iD ops k=o.dst:=by unfold iD;rw[h0];rfl
  have I:=Gg (v:=vs k) h h0 (my k) (fun d aa=>hd k d (e.trans aa)) (fun j J hn M=>by
   cases ho:o.dst with
   | none=>exact hn ho
   | some d=>exact hu j k d J (M.trans ho) (e.trans ho))
  have e2:upd vs k (vs k)=vs:=by funext j;unfold upd;split<;>simp_all
  rw[e2] at I;have ih:=xZ l (k+1) (a.put o.dst (vs k)) (fun j=>by have:=hl (j+1);simpa[vx,vy 1 j] using this) hd hu ⟨I.df,I.sz,fun j d J=>I.on j d eL,fun t ht=>I.off t fun j J=>ht j eL⟩;have e3:k+(o::l).length=k+1+l.length:=by rw[jz];omega
  rw[e3];exact ih
theorem Vv{L:Nat->Prop}{vs:Nat->Value}{b:Act}(I:Slots ops a0 L vs a)(M:Slots ops a0 L vs b):a=b:=by
 have e1:a.defers=b.defers:=I.df.trans M.df.symm;have e2:a.tmps=b.tmps:=by
  refine Array.ext_getElem? fun t=>?_;by_cases h:∃ k,L k/\iD ops k=some t
  ·obtain⟨k,h1,h2⟩:=h;rw[I.on k t h1 h2,M.on k t h1 h2]
  ·rw[I.off t fun k J hd=>h ⟨k,J,hd⟩,M.off t fun k J hd=>h ⟨k,J,hd⟩]
 cases a;cases b;simp_all
theorem uq{id:Nat}{l:List Oper}{F0:Nat->Prop}(cons:List (List Nat))(H:Nat->(Nat->Value)->Prop)(R:Nat->(Nat->Value)->aU){X0:aU}(hm:P.follows .mixedOrders=true)(bj:IB l.toArray cons a0.tmps.size=true)(a9:∀ j vs a6,(∀ k,k=j\/(k<j/\Uh l.toArray j k)->vs k=a6 k)->(H j vs->H j a6)/\R j vs=R j a6)(b5:X0.Ok)(hR:∀ j vs,(R j vs).Ok)(h0:aI F0 w0 X0 w.drew)(a2:∀ i o,l.toArray[i]?=some o->∀ (L:Nat->Prop) (a:Act) (vs:Nat->Value) (W:World) (X:aU),X.Ok->(∀ k,Uh l.toArray i k->k<i->L k)->Slots l.toArray a0 L vs a->(∀ k,L k->H k vs)->aI F0 w0 (aj (aL ((qQ cons i).map fun j=>R j vs)) X) W ->
   EI P l.toArray o a W fun v W'=>H i (upd vs i v)/\aI F0 w0 (aj (R i (upd vs i v)) X) W')(fin:∀ (vs:Nat->Value) (W:World),(∀ j,j<l.length->H j vs)->aI F0 w0 (aj (aL ((jW l.toArray cons fun _=>true).map fun j=>R j vs)) X0) W->Q .normal (oU l 0 vs a0) W):
  (Code.region id l.toArray true).wp P Q a0 w:=by
 refine wp_region_any hm ?_;obtain⟨ops,ao⟩:∃ ops,ops=l.toArray:=⟨_,rfl⟩;have b8:ops.size=l.length:=by rw[ao];simp
 rw[<-ao] at bj a9 a2 fin ⊢;have J:=bj;simp only[IB,gA,j7,qt] at J;obtain⟨ax,ad⟩:=J;have a3:∀ i d,iD ops i=some d->d<a0.tmps.size:=fun i d hd=>by
  have hi:i<ops.size:=by
   by_cases h:i<ops.size
   ·exact h
   ·unfold iD at hd;rw[tt eL] at hd;cases hd
  have:=(ad i hi).1.1.1.2;rw[hd] at this;simpa using this
 have aE:∀ i j d,i≠j->iD ops i=some d->iD ops j≠some d:=fun i j d bb hd bf=>by
  have hi:∀ i,iD ops i=some d->i<ops.size:=fun i hd=>by
   by_cases h:i<ops.size
   ·exact h
   ·unfold iD at hd;rw[tt eL] at hd;cases hd
  have:=(ad i (hi i hd)).2 j (hi j bf);rw[hd,bf] at this;simp at this;exact bb this
 have ak:∀ i,i<ops.size->(qQ cons i).Nodup/\∀ j ∈ qQ cons i,j<i/\Uh ops i j:=fun i hi=>by
  obtain⟨⟨⟨-,h1⟩,h2⟩,-⟩:=ad i hi;refine⟨of_decide_eq_true h1,fun j hj=>?_⟩;have:=h2 j hj;exact⟨of_decide_eq_true this.1,this.2⟩
 have be:∀ i k,i<ops.size->k<ops.size->i≠k->∀ j ∈ qQ cons i,j ∉ qQ cons k:=fun i k hi J bu j hj a4=>by
  have:=(ad i hi).2 k J;rw[tA] at this;rcases this with h|h
  ·exact bu (by simpa using h)
  ·rw[gA,j7] at h;have:=h.2 j hj;simp[a4] at this
 have key:∀ (n:Nat) (I:Array Bool) (a:Act) (W:World) (vs:Nat->Value),(BF ops I).length=n->I.size=ops.size->Closed ops I->Slots ops a0 (fun k=>I.getD k false=true) vs a->(∀ k,I.getD k false=true->H k vs) ->
   aI F0 w0 (aj (aL ((jW ops cons fun k=>I.getD k false).map fun j=>R j vs)) X0) W->wpAny P .any ops Q n I a W:=by
  intro n
  induction n with
  | zero=>
   intro I a W vs hn hs hc ai hH hr;have bh:BF ops I=[]:=sE hn;have aa:∀ k,k<ops.size->I.getD k false=true:=fun k J=>by
    cases hl:I.getD k false with
    | true=>rfl
    | false=>
     have:k ∈ BF ops I:=by
      unfold BF;rw[xN,qt];exact⟨J,by rw[getD_lt eL true false,hl];rfl⟩
     rw[bh] at this;cases this
   refine⟨?_,?_⟩
   ·cases bz:Region.ready .any ops I with
    | nil=>rfl
    | cons j r=>
     have hj:j ∈ Region.ready .any ops I:=by rw[bz];simp
     obtain⟨bk,o,ho,_⟩:=mem_ready.1 hj;have bp:=(Array.getElem?_eq_some_iff.1 ho).1;rw[getD_lt eL true false,aa j bp] at bk;cases bk
   ·have h1:Slots ops a0 (fun i=>i<0+l.length) vs (oU l 0 vs a0):=xZ l 0 a0 (fun j=>by rw[ao];simp) a3 (fun i j d bb=>aE i j d eL) ⟨rfl,rfl,fun k d J=>by omega,fun t _=>rfl⟩
    have h2:Slots ops a0 (fun i=>i<0+l.length) vs a:=⟨ai.df,ai.sz,fun k d J=>ai.on k d (aa k eL),fun t ht=>ai.off t fun k J am=>by
     have:k<ops.size:=by
      by_cases h:k<ops.size
      ·exact h
      ·unfold iD at am;rw[tt eL] at am;cases am
     exact ht k eL am⟩
    rw[Vv h2 h1];refine fin vs W (fun j hj=>hH j (aa j eL)) ?_;have e:(jW ops cons fun k=>I.getD k false)=jW ops cons fun _=>true:=by
     unfold jW;refine Ge fun i hi=>?_;have hi:=List.mem_range.1 hi;dsimp only;rw[aa i hi];congr 1;rw[tB,j7,j7];exact forall_congr' fun k=>forall_congr' fun J=>by rw[aa k (List.mem_range.1 J)]
    rw[e] at hr;exact hr
  | succ n ih=>
   intro I a W vs hn hs hc ai hH hr;refine⟨fun aA=>?_,fun i hi=>?_⟩
   ·cases hu:BF ops I with
    | nil=>rw[hu] at hn;simp at hn
    | cons k r=>
     exfalso;have J:k ∈ BF ops I:=by rw[hu];simp
     unfold BF at J;rw[xN,qt] at J;obtain⟨bm,a7⟩:=J;have a7:I.getD k true=false:=by simpa using a7
     have ho:ops[k]?=some ops[k]:=sR bm;have hd:=(ad k bm).1.1.1.1;simp only[ho] at hd;have:k ∈ Region.ready .any ops I:=by
      rw[mem_ready];refine⟨a7,_,ho,fun e he hb=>?_⟩;have h1:=Array.all_eq_true_iff_forall_mem.1 hd e he;simp only[hb,mj,vf,decide_eq_true_eq] at h1;cases hl:I.getD e.on false with
      | true=>rfl
      | false=>
       exfalso;obtain⟨l1,l2,an,_,bw⟩:=vk (ops:=ops) (j:=e.on) hs eL (by rw[getD_lt eL true false];exact hl);rw[hu] at an;cases l1 with
       | nil=>simp at an;omega
       | cons x l1=>
        simp at an;have:=(bw x i7).1;omega
     rw[aA] at this;cases this
   ·obtain⟨bn,o,ho,al⟩:=mem_ready.1 hi;have ae:i<ops.size:=(Array.getElem?_eq_some_iff.1 ho).1;have ab:I.getD i false=false:=by rw[getD_lt eL false true];exact bn
    have a1:∀ k,Uh ops i k->k<i->I.getD k false=true:=fun k J M=>nC ax hc (i+1) i o eL ho al k M J;have aq:∀ k,I.getD k false=true->k<ops.size:=fun k J=>by
     by_cases h:k<ops.size
     ·exact h
     ·simp[Array.getD,show ¬ k<I.size by omega] at J
    have bi:∀ k j,I.getD k false=true->j<k->Uh ops k j->I.getD j false=true:=fun k j J a4 hp=>by
     have ba:=aq k J;exact nC ax hc (k+1) k _ eL (sR ba) (fun e he hb=>hc k _ (sR ba) J e he hb) j a4 hp
    have af:∀ (L:Nat->Bool) m,m ∈ jW ops cons L↔m<ops.size/\L m=true/\∀ k,k<ops.size->L k=true->m ∉ qQ cons k:=fun L m=>by
     unfold jW;rw[xN,qt,gA,j7];refine and_congr_right fun _=>and_congr_right fun _=>⟨fun h k J hl hm=>?_,fun h k J=>?_⟩
     ·have:=h k (List.mem_range.2 J);simp[hl,hm] at this
     ·have:=h k (List.mem_range.1 J);cases hl:L k with
      | false=>rfl
      | true=>simpa using this hl
    have a8:∀ L,(jW ops cons L).Nodup:=fun L=>List.nodup_range.sublist List.filter_sublist
    -- what i takes, and the rest
    obtain⟨rest,ap⟩:∃ rest,rest=(jW ops cons fun k=>I.getD k false).filter fun j=>!(qQ cons i).contains j:=⟨_,rfl⟩;have ar:∀ m,m ∈ rest↔m ∈ (jW ops cons fun k=>I.getD k false)/\m ∉ qQ cons i:=fun m=>by rw[ap,xN];simp
    have aA:rest.Nodup:=by rw[ap];exact(a8 _).sublist List.filter_sublist
    have p1:(jW ops cons fun k=>I.getD k false).Perm (qQ cons i++rest):=by
     refine(NL (a8 _) (List.nodup_append.2 ⟨(ak i ae).1,aA,fun x hx y hy b4=>((ar y).1 hy).2 (b4 ▸ hx)⟩)).2 fun m=>?_;rw[AH,ar];constructor
     ·intro h;by_cases hm:m ∈ qQ cons i
      ·exact .inl hm
      ·exact .inr ⟨h,hm⟩
     ·rintro (h|h)
      ·obtain⟨h1,h2⟩:=(ak i ae).2 m h;refine(af _ m).2 ⟨by omega,a1 m h2 h1,fun k J hl az=>?_⟩;have:i≠k:=fun e=>by rw[<-e,ab] at hl;cases hl
       exact be i k ae J this m h az
      ·exact h.1
    have p2:(jW ops cons fun k=>(I.setIfInBounds i true).getD k false).Perm (i::rest):=by
     have bv:i ∉ rest:=fun h=>by
      have:=((af _ i).1 ((ar i).1 h).1).2.1;simp only[ab] at this;cases this
     refine(NL (a8 _) (List.nodup_cons.2 ⟨bv,aA⟩)).2 fun m=>?_;have ac:∀ k,k≠i->(I.setIfInBounds i true).getD k false=I.getD k false:=fun k J=>getD_set_ne false (px J);have ag:(I.setIfInBounds i true).getD i false=true:=by simp[Array.getD,hs,ae]
     rw[af,np,ar,af];constructor
     ·rintro⟨h1,h2,h3⟩;by_cases hm:m=i
      ·exact .inl hm
      ·rw[ac m hm] at h2;refine .inr ⟨⟨h1,h2,fun k J hl=>?_⟩,h3 i ae ag⟩;refine h3 k J ?_;by_cases M:k=i
       ·rw[M];exact ag
       ·rw[ac k M];exact hl
     ·rintro (rfl|⟨⟨h1,h2,h3⟩,h4⟩)
      ·refine⟨ae,ag,fun k J hl az=>?_⟩;obtain⟨g1,g2⟩:=(ak k J).2 m az;by_cases M:k=m
       ·omega
       ·rw[ac k M] at hl;have:=bi k m hl g1 g2;rw[ab] at this;cases this
      ·have hm:m≠i:=fun e=>by rw[e,ab] at h2;cases h2
       refine⟨h1,by rw[ac m hm];exact h2,fun k J hl=>?_⟩;by_cases M:k=i
       ·rw[M];exact h4
       ·rw[ac k M] at hl;exact h3 k J hl
    have b7:∀ (m:List Nat) vs,(aL (m.map fun j=>R j vs)).Ok:=fun m vs=>lJ fun A hA=>by
     obtain⟨j,-,rfl⟩:=List.mem_map.1 hA;exact hR j vs
    have bx:aI F0 w0 (aj (aL ((qQ cons i).map fun j=>R j vs)) (aj (aL (rest.map fun j=>R j vs)) X0)) W:=hr.perm (by
     rw[Kt (p1.map _),kp,ZR];ac_rfl)
    refine aeX ho (a2 i o ho (fun k=>I.getD k false=true) a vs W _ (aB (b7 _ _) b5) a1 ai hH bx) fun v W' hZ=>?_;obtain⟨b6,b1⟩:=hZ;have bc:(BF ops (I.setIfInBounds i true)).length=n:=by
     obtain⟨l1,l2,an,b3,-⟩:=vk (ops:=ops) hs ae bn;rw[b3];rw[an] at hn;simp at hn ⊢;omega
    have aD:∀ k,I.getD k false=true->∀ m,(m=k\/Uh ops k m)->m<=k->vs m=upd vs i v m:=fun k J m hm az=>by
     have:m≠i:=fun e=>by
      subst e;rcases hm with rfl|hm
      ·rw[ab] at J;cases J
      ·by_cases b0:m<k
       ·have:=bi k m J b0 hm;rw[ab] at this;cases this
       ·have:m=k:=by omega
        subst this;rw[ab] at J;cases J
     exact(upd_ne this).symm
    have aw:∀ k,I.getD k false=true->(H k vs->H k (upd vs i v))/\R k vs=R k (upd vs i v):=fun k J=>a9 k vs _ fun m hm=>aD k J m (hm.imp (fun h=>h) And.right) (by
     rcases hm with rfl|hm
     ·exact fL _
     ·exact AW hm.1)
    refine ih _ _ W' (upd vs i v) bc (by simpa using hs) ?_ ?_ ?_ ?_
    ·intro m om hm hl e he hb;by_cases bo:m=i
     ·subst bo;rw[ho] at hm;cases hm;exact getD_set_true (al e he hb)
     ·rw[getD_set_ne false (px bo)] at hl;exact getD_set_true (hc m om hm hl e he hb)
    ·have h1:=Gg (v:=v) ai ho (by simp only[ab];simp) (fun d hd=>a3 i d (by unfold iD;rw[ho];exact hd)) (fun k J br am=>by
      cases a5:o.dst with
      | none=>exact br a5
      | some d=>exact aE k i d (fun e=>by rw[e,ab] at J;cases J) (am.trans a5) (by unfold iD;rw[ho];exact a5))
     have b2:(fun k=>k=i\/I.getD k false=true)=fun k=>(I.setIfInBounds i true).getD k false=true:=by
      funext k;by_cases M:k=i
      ·subst M;simp[Array.getD,hs,ae]
      ·rw[getD_set_ne false (px M)];simp[M]
     rw[b2] at h1;exact h1
    ·intro k J;by_cases M:k=i
     ·rw[M];exact b6
     ·rw[getD_set_ne false (px M)] at J;exact(aw k J).1 (hH k J)
    ·refine b1.perm ?_;rw[Kt (p2.map _),lk];have e2:rest.map (fun j=>R j vs)=rest.map (fun j=>R j (upd vs i v)):=nB fun j hj=>(aw j ((af _ j).1 ((ar j).1 hj).1).2.1).2;rw[e2]
     show _=aj (aj _ _) _
     ac_rfl
 refine key ops.size (Array.replicate ops.size false) a0 w.drew (fun _=>undef) ?_ i7 ?_ ⟨rfl,rfl,fun k d J=>?_,fun t _=>rfl⟩ (fun k J=>?_) ?_
 ·have hu:BF ops (Array.replicate ops.size false)=List.range ops.size:=by
   unfold BF;refine List.filter_eq_self.2 fun i hi=>?_;have:=List.mem_range.1 hi;simp[this]
  rw[hu];simp
 ·intro j o ho hl;have:j<ops.size:=(Array.getElem?_eq_some_iff.1 ho).1;simp[this] at hl
 ·exfalso;revert J;by_cases h:k<ops.size<;>simp[Array.getD,h]
 ·exfalso;revert J;by_cases h:k<ops.size<;>simp[Array.getD,h]
 ·have e:(jW ops cons fun k=>(Array.replicate ops.size false).getD k false)=[]:=by
   unfold jW;refine List.filter_eq_nil_iff.2 fun i hi=>?_;have:=List.mem_range.1 hi;simp[Array.getD,this]
  rw[e];exact h0.perm (jC _).symm
end
end Go.CH
