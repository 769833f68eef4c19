import Derived.Test.YtbnnlpjpnihheaaGreatDoorMD11
import Derived.Test.YtbnnlpjpnihheaaGreatDoorMD2
import Derived.Test.YtbnnlpjpnihheaaGreatDoorProg
import Derived.Test.YtbnnlpjpnihheaaGreatDoorMD1
import Derived.Test.YtbnnlpjpnihheaaGreatDoorMD6
import Derived.Deep.QuietTactic
import Derived.BigQuiet
import Derived.Deep.DeepCutAuto
import Derived.IntWalk
set_option linter.unusedSimpArgs false
set_option linter.unusedVariables false
namespace Go.CH
open Go.RowKit
section
variable {P:Program} {ops:Array Oper} {Q:Exit→Act→World→Prop} {S:World→Prop}

def puts:Act→List Nat→List Value→Act
 | a,d :: ds,v :: vs=>puts (a.put (some d) v) ds vs
 | a,_,_=>a
theorem put_puts (d:Nat) (v:Value):∀ (ds:List Nat) (vs:List Value) (a:Act),d ∉ ds→(puts a ds vs).put (some d) v=puts (a.put (some d) v) ds vs
 | [],_,_,_=>by simp [puts]
 | _ :: _,[],_,_=>rfl
 | e :: ds,u :: vs,a,h=>by
  simp only [List.mem_cons,not_or] at h
  simp only [puts]
  rw [put_puts d v ds vs _ h.2,Act.put_comm a v u (fun x hx=>by injection hx with hx;subst hx;exact fun g=>by injection g with g;exact h.1 g.symm)]
theorem puts_snoc (a:Act) (d:Nat) (v:Value):∀ (ds:List Nat) (vs:List Value),ds.length=vs.length→puts a (ds ++ [d]) (vs ++ [v])=(puts a ds vs).put (some d) v:=by
 intro ds
 induction ds generalizing a with
 | nil=>intro vs h;cases vs with | nil=>rfl | cons _ _=>simp at h
 | cons e ds ih =>
  intro vs h
  cases vs with
  | nil=>simp at h
  | cons u vs=>simp only [List.cons_append,puts];exact ih _ _ (by simpa using h)
theorem puts_drop (a:Act) (ds es:List Nat) (vs:List Value) (h:ds.length=vs.length):puts a (ds ++ es) vs=puts a ds vs:=by
 induction ds generalizing a vs with
 | nil=>cases vs with | nil=>cases es <;> rfl | cons _ _=>simp at h
 | cons e ds ih =>
  cases vs with
  | nil=>simp at h
  | cons u vs=>simp only [List.cons_append,puts];exact ih _ _ (by simpa using h)
theorem puts_eval (k:Nat):∀ (ds:List Nat) (vs:List Value) (a:Act),k ∉ ds→(puts a ds vs).eval (.tmp k)=a.eval (.tmp k)
 | [],_,_,_=>by simp [puts]
 | _ :: _,[],_,_=>rfl
 | e :: ds,u :: vs,a,h=>by
  simp only [List.mem_cons,not_or] at h
  simp only [puts]
  rw [puts_eval k ds vs _ h.2,Act.eval_put (fun x hx=>by injection hx with hx;subst hx;exact fun g=>by injection g with g;exact h.1 g)]

def dsts (ops:Array Oper) (X:List Nat):List Nat:=X.map fun i=>((ops[i]?.bind (·.dst))).getD 0
def lstB (l0:Array Bool) (X Y:List Nat) (s t:Nat):Array Bool:=(X.take s ++ Y.take t).foldl (fun l i=>l.setIfInBounds i true) l0

def twoOk (ops:Array Oper) (l0:Array Bool) (X Y:List Nat):Bool :=
 ((List.range (X.length+1)).all fun s=>(List.range (Y.length+1)).all fun t =>
  ((s == X.length && t == Y.length) || (!(Region.ready .any ops (lstB l0 X Y s t)).isEmpty)) &&
  (((s == X.length && t == Y.length)) || (Region.ready .any ops (lstB l0 X Y s t)).all (fun i=>(X[s]? == some i) || (Y[t]? == some i))) &&
  (match X[s]? with | some i=>(lstB l0 X Y s t).setIfInBounds i true == lstB l0 X Y (s+1) t | none=>true) &&
  (match Y[t]? with | some i=>(lstB l0 X Y s t).setIfInBounds i true == lstB l0 X Y s (t+1) | none=>true)) &&
 (X ++ Y).all (fun i=>match ops[i]? with | some o=>o.guard.isNone && o.dst.isSome | none=>false) &&
 decide ((dsts ops X ++ dsts ops Y).Nodup)
theorem map_split {α β:Type} (f:α→β) (X:List α) {k:Nat} (h:k < X.length):X.map f=(X.take k).map f ++ (f X[k] :: (X.drop (k+1)).map f):=by
 have e:=congrArg (List.map f) (List.take_append_drop k X)
 rw [List.map_append,List.drop_eq_getElem_cons h,List.map_cons] at e
 exact e.symm
theorem two_chains {F0:Nat→Prop} {w0:World} {l0:Array Bool} {a0:Act} {R:Own} (X Y:List Nat) (PX PY:List Value→Own) (fuel:Nat) (hok:twoOk ops l0 X Y=true)
  (oX:∀ vs,(PX vs).Ok) (oY:∀ vs,(PY vs).Ok) (oR:R.Ok) (hS:∀ (O:Own) W,Run F0 w0 O W→S W)
  (hX:∀ i o vs us,X[vs.length]?=some i→ops[i]?=some o→us.length≤Y.length→∀ (Z:Own) W,Z.Ok→Run F0 w0 (star (PX vs) Z) W →
   o.wp P (puts (puts a0 (dsts ops X) vs) (dsts ops Y) us) W (fun a' w'=>∃ v,a'=(puts (puts a0 (dsts ops X) vs) (dsts ops Y) us).put o.dst v∧Run F0 w0 (star (PX (vs ++ [v])) Z) w') Q)
  (hY:∀ i o vs us,Y[us.length]?=some i→ops[i]?=some o→vs.length≤X.length→∀ (Z:Own) W,Z.Ok→Run F0 w0 (star (PY us) Z) W →
   o.wp P (puts (puts a0 (dsts ops X) vs) (dsts ops Y) us) W (fun a' w'=>∃ v,a'=(puts (puts a0 (dsts ops X) vs) (dsts ops Y) us).put o.dst v∧Run F0 w0 (star (PY (us ++ [v])) Z) w') Q)
  (hend:∀ vs us W,vs.length=X.length→us.length=Y.length→Run F0 w0 (star (PX vs) (star (PY us) R)) W→wpAnyH P .any ops Q S fuel (lstB l0 X Y X.length Y.length) (puts (puts a0 (dsts ops X) vs) (dsts ops Y) us) W)
  {W:World} (h0:Run F0 w0 (star (PX []) (star (PY []) R)) W):wpAnyH P .any ops Q S (fuel+(X.length+Y.length)) l0 a0 W:=by
 simp only [twoOk,Bool.and_eq_true,decide_eq_true_eq] at hok
 obtain ⟨⟨hst,hgd⟩,hnd⟩:=hok
 have key:∀ (N:Nat) (vs us:List Value) (W:World),vs.length≤X.length→us.length≤Y.length→N=(X.length - vs.length)+(Y.length - us.length)→Run F0 w0 (star (PX vs) (star (PY us) R)) W →
   wpAnyH P .any ops Q S (fuel+N) (lstB l0 X Y vs.length us.length) (puts (puts a0 (dsts ops X) vs) (dsts ops Y) us) W:=by
  intro N
  induction N with
  | zero =>
   intro vs us W hv hu hN hR
   have h1:vs.length=X.length:=by omega
   have h2:us.length=Y.length:=by omega
   rw [h1,h2]
   exact hend vs us W h1 h2 hR
  | succ N ih =>
   intro vs us W hv hu hN hR
   have hc:=hst
   rw [List.all_eq_true] at hc
   have hc1:=hc vs.length (List.mem_range.2 (by omega))
   rw [List.all_eq_true] at hc1
   have hc2:=hc1 us.length (List.mem_range.2 (by omega))
   simp only [Bool.and_eq_true] at hc2
   obtain ⟨⟨⟨c1,c2⟩,c3⟩,c4⟩:=hc2
   have hne:(vs.length == X.length && us.length == Y.length)=false:=by
    cases hb:(vs.length == X.length && us.length == Y.length) with
    | false=>rfl
    | true=>simp only [Bool.and_eq_true,beq_iff_eq] at hb;omega
   rw [hne,Bool.false_or] at c1 c2
   have hdl:∀ (Z:List Nat) i,i ∈ Z→(∀ j ∈ Z,j ∈ X ++ Y)→∃ o d,ops[i]?=some o∧o.guard=none∧o.dst=some d∧((ops[i]?.bind (·.dst))).getD 0=d:=by
    intro Z i hi hZ
    rw [List.all_eq_true] at hgd
    have:=hgd i (hZ i hi)
    cases ho:ops[i]? with
    | none=>rw [ho] at this;cases this
    | some o =>
     rw [ho] at this
     simp only [Bool.and_eq_true,Option.isNone_iff_eq_none,Option.isSome_iff_exists] at this
     obtain ⟨g1,d,g2⟩:=this
     exact ⟨o,d,rfl,g1,g2,by simp [g2]⟩
   refine ⟨fun h=>by rw [h] at c1;simp at c1,fun i hi=>?_⟩
   rw [List.all_eq_true] at c2
   have hi2:=c2 i hi
   simp only [Bool.or_eq_true,beq_iff_eq] at hi2
   have hdup:=List.nodup_append.1 hnd
   rcases hi2 with hi2 | hi2
   ·-- the next of X
    have hil:vs.length < X.length:=(List.getElem?_eq_some_iff.1 hi2).1
    obtain ⟨o,d,ho,hg,hd,hdd⟩:=hdl X i (List.mem_of_getElem? hi2) (fun j hj=>List.mem_append_left _ hj)
    refine wpOp_plain ho hg (Oper.wp_mono ?_ (hX i o vs us hi2 ho hu (star (PY us) R) W (star_ok (oY us) oR) hR))
    rintro a' w' ⟨v,rfl,hR'⟩
    refine ⟨hS _ _ hR',?_⟩
    rw [hi2] at c3
    simp only [beq_iff_eq] at c3
    have h3:=ih (vs ++ [v]) us w' (by simp;omega) hu (by simp;omega) hR'
    rw [List.length_append,List.length_singleton,←c3] at h3
    have e1:puts a0 (dsts ops X) (vs ++ [v])=(puts a0 (dsts ops X) vs).put (some d) v:=by
     have hsp:dsts ops X=dsts ops (X.take vs.length) ++ (d :: dsts ops (X.drop (vs.length+1))):=by
      have hXe:X[vs.length]=i:=(List.getElem?_eq_some_iff.1 hi2).2
      have e9:=map_split (fun i=>((ops[i]?.bind (·.dst))).getD 0) X hil
      simp only [hXe,hdd] at e9
      exact e9
     have hl:(dsts ops (X.take vs.length)).length=vs.length:=by unfold dsts;simp;omega
     rw [hsp]
     rw [show dsts ops (X.take vs.length) ++ (d :: dsts ops (X.drop (vs.length+1)))=(dsts ops (X.take vs.length) ++ [d]) ++ dsts ops (X.drop (vs.length+1)) by simp]
     rw [puts_drop _ _ _ (vs ++ [v]) (by simp [hl]),puts_snoc _ _ _ _ _ hl,List.append_assoc,puts_drop _ _ _ vs hl]
    have hnm:d ∉ dsts ops Y:=by
     intro hm
     refine hdup.2.2 d ?_ d hm rfl
     unfold dsts
     exact List.mem_map.2 ⟨i,List.mem_of_getElem? hi2,hdd⟩
    rw [hd,put_puts d v _ us _ hnm,←e1]
    exact h3
   ·have hil:us.length < Y.length:=(List.getElem?_eq_some_iff.1 hi2).1
    obtain ⟨o,d,ho,hg,hd,hdd⟩:=hdl Y i (List.mem_of_getElem? hi2) (fun j hj=>List.mem_append_right _ hj)
    have hR2:Run F0 w0 (star (PY us) (star (PX vs) R)) W:=hR.rot
    refine wpOp_plain ho hg (Oper.wp_mono ?_ (hY i o vs us hi2 ho hv (star (PX vs) R) W (star_ok (oX vs) oR) hR2))
    rintro a' w' ⟨v,rfl,hR'⟩
    refine ⟨hS _ _ hR',?_⟩
    rw [hi2] at c4
    simp only [beq_iff_eq] at c4
    have h3:=ih vs (us ++ [v]) w' hv (by simp;omega) (by simp;omega) hR'.rot
    rw [List.length_append,List.length_singleton,←c4] at h3
    have e1:∀ b:Act,puts b (dsts ops Y) (us ++ [v])=(puts b (dsts ops Y) us).put (some d) v:=by
     intro b
     have hsp:dsts ops Y=dsts ops (Y.take us.length) ++ (d :: dsts ops (Y.drop (us.length+1))):=by
      have hXe:Y[us.length]=i:=(List.getElem?_eq_some_iff.1 hi2).2
      have e9:=map_split (fun i=>((ops[i]?.bind (·.dst))).getD 0) Y hil
      simp only [hXe,hdd] at e9
      exact e9
     have hl:(dsts ops (Y.take us.length)).length=us.length:=by unfold dsts;simp;omega
     rw [hsp]
     rw [show dsts ops (Y.take us.length) ++ (d :: dsts ops (Y.drop (us.length+1)))=(dsts ops (Y.take us.length) ++ [d]) ++ dsts ops (Y.drop (us.length+1)) by simp]
     rw [puts_drop _ _ _ (us ++ [v]) (by simp [hl]),puts_snoc _ _ _ _ _ hl,List.append_assoc,puts_drop _ _ _ us hl]
    rw [hd,←e1]
    exact h3
 have h1:=key (X.length+Y.length) [] [] W (Nat.zero_le _) (Nat.zero_le _) (by simp) h0
 have e:∀ (b:Act) (ds:List Nat),puts b ds []=b:=fun b ds=>by cases ds <;> rfl
 rw [e,e] at h1
 exact h1
end
end Go.CH
namespace Go.CH
open Go.RowKit
section
variable {P:Program} {ops:Array Oper} {Q:Exit→Act→World→Prop} {S:World→Prop} {s:Nat}

def wpAnyU (P:Program) (ops:Array Oper) (Q:Exit→Act→World→Prop) (S:World→Prop) (s:Nat):Nat→Array Bool→Act→World→Prop
 | 0,listed,a,w=>Region.ready .any ops listed=[]∧Q .normal a w
 | fuel+1,listed,a,w=>(Region.ready .any ops listed=[]→Q .normal a w) ∧
  ∀ i ∈ Region.ready .any ops listed,wpOp P ops Q i (fun a' w'=>((listed.setIfInBounds i true).getD s true=false→S w')∧wpAnyU P ops Q S s fuel (listed.setIfInBounds i true) a' w') a w
theorem wpAny_of_u:∀ (fuel:Nat) (listed:Array Bool) (a:Act) (w:World),wpAnyU P ops Q S s fuel listed a w→wpAny P .any ops Q fuel listed a w
 | 0,_,_,_,h=>h
 | fuel+1,_,_,_,h=>⟨h.1,fun i hi=>wpOp_mono (fun a' w' h'=>wpAny_of_u fuel _ a' w' h'.2) (h.2 i hi)⟩

def waits (ops:Array Oper) (s i:Nat):Bool:=match ops[s]? with | some o=>o.after.any fun e=>Region.binds .any e && e.on == i | none=>false
theorem not_ready {i:Nat} {listed:Array Bool} (h:waits ops s i=true) (hi:i ∈ Region.ready .any ops listed):s ∉ Region.ready .any ops listed:=by
 intro hs
 obtain ⟨-,o,ho,hall⟩:=mem_ready.1 hs
 unfold waits at h
 rw [ho] at h
 simp only [Array.any_eq_true,Bool.and_eq_true,beq_iff_eq] at h
 obtain ⟨k,hk,h1,h2⟩:=h
 have h3:=hall _ (Array.getElem_mem hk) h1
 have h0:=(mem_ready.1 hi).1
 rw [h2] at h3
 rcases Nat.lt_or_ge i listed.size with h' | h'
 ·simp [h'] at h0 h3;rw [h0] at h3;cases h3
 ·simp [Array.getElem?_eq_none h'] at h3
theorem unset_ne {i j:Nat} {listed:Array Bool} (h:i≠j) (h0:listed.getD j true=false):(listed.setIfInBounds i true).getD j true=false:=by
 rw [getD_set_ne true h];exact h0
theorem wpAnyU_first {i:Nat} {oi:Oper} {v:Value} (hi:ops[i]?=some oi) (hsel:∀ (j:Nat) (o:Oper) cs b,ops[j]?=some o→o.op≠.select cs b) (hQ:∀ c a w,Q (.panic c) (a.put oi.dst v) w→Q (.panic c) a w) (hw:waits ops s i=true) (his:i≠s) :
  ∀ (fuel:Nat) (listed:Array Bool) (a:Act) (w:World),
   (∀ j oj,ops[j]?=some oj→j≠i→listed.getD j true=false→(∀ e ∈ oj.after,Region.binds .any e=true→e.on≠i)→oi.apart ops oj=true) →
   i ∈ Region.ready .any ops listed→listed.getD s true=false→YieldsIf P ops S oi v a→S w→wpAnyU P ops Q S s fuel (listed.setIfInBounds i true) (a.put oi.dst v) w→wpAnyU P ops Q S s (fuel+1) listed a w:=by
 intro fuel
 induction fuel with
 | zero =>
  intro listed a w _ hr hls hy hS H
  refine ⟨fun h=>(by rw [h] at hr;cases hr),fun j hj=>?_⟩
  by_cases hji:j=i
  ·subst hji;exact hy.wpOp hi hS ⟨fun _=>hS,H⟩
  ·have:=ready_mono hj hji
   rw [H.1] at this
   cases this
 | succ fuel ih =>
  intro listed a w hfree hr hls hy hS H
  refine ⟨fun h=>(by rw [h] at hr;cases hr),fun j hj=>?_⟩
  by_cases hji:j=i
  ·subst hji;exact hy.wpOp hi hS ⟨fun _=>hS,H⟩
  ·have hjs:j≠s:=fun e=>not_ready hw hr (e ▸ hj)
   have h1:=H.2 j (ready_mono hj hji)
   obtain ⟨hjun,oj,hoj,hall⟩:=mem_ready.1 hj
   have hnot:∀ e ∈ oj.after,Region.binds .any e=true→e.on≠i:=fun e he hb heq=>by
    have h1:=hall e he hb
    have h0:=(mem_ready.1 hr).1
    rw [heq] at h1
    rcases Nat.lt_or_ge i listed.size with h' | h'
    ·simp [h'] at h0 h1;rw [h0] at h1;cases h1
    ·simp [Array.getElem?_eq_none h'] at h1
   have h2:=wpOp_putIf hoj (hfree j oj hoj hji hjun hnot) (fun cs b=>hsel i oi cs b hi) (fun cs b=>hsel j oj cs b hoj) hQ hy h1
   have hfree':∀ k ok,ops[k]?=some ok→k≠i→(listed.setIfInBounds j true).getD k true=false →
     (∀ e ∈ ok.after,Region.binds .any e=true→e.on≠i)→oi.apart ops ok=true:=fun k ok hk hki hun hno=>by
    refine hfree k ok hk hki ?_ hno
    by_cases hjk:j=k
    ·subst hjk;exact hjun
    ·rw [getD_set_ne true hjk] at hun;exact hun
   refine wpOp_mono (fun a' w' h3=>?_) h2
   have hS':S w':=h3.2.1 (unset_ne hjs (unset_ne his hls))
   refine ⟨fun _=>hS',ih (listed.setIfInBounds j true) a' w' hfree' (ready_mono hr (Ne.symm hji)) (unset_ne hjs hls) h3.1 hS' ?_⟩
   rw [Array.setIfInBounds_comm _ _ hji]
   exact h3.2.2
theorem wpAnyU_take {i:Nat} {oi:Oper} {v:Value} {fuel:Nat} {listed:Array Bool} {a:Act} {w:World} (hi:ops[i]?=some oi) (hs:Region.noSelect ops=true) (hf:Region.free .any ops listed i=true) (hr:(Region.ready .any ops listed).contains i=true)
  (hw:(waits ops s i && (i != s && !(listed.getD s true)))=true) (hQ:∀ c a w,Q (.panic c) (a.put oi.dst v) w→Q (.panic c) a w) (hy:YieldsIf P ops S oi v a) (hS:S w)
  (h:wpAnyU P ops Q S s fuel (listed.setIfInBounds i true) (a.put oi.dst v) w):wpAnyU P ops Q S s (fuel+1) listed a w:=by
 simp only [Bool.and_eq_true,bne_iff_ne,ne_eq,Bool.not_eq_true'] at hw
 exact wpAnyU_first hi (Region.noSelect_spec hs) hQ hw.1 hw.2.1 fuel listed a w (Region.free_spec hi hf) (by simpa using hr) hw.2.2 hy hS h
theorem wpAnyU_firstT {i:Nat} {oi:Oper} {v:Value} (hi:ops[i]?=some oi) (hsel:∀ (j:Nat) (o:Oper) cs b,ops[j]?=some o→o.op≠.select cs b) (hQ:∀ c a w,Q (.panic c) (a.put oi.dst v) w→Q (.panic c) a w) (his:i≠s) :
  ∀ (fuel:Nat) (listed:Array Bool) (a:Act) (w:World),
   (∀ j oj,ops[j]?=some oj→j≠i→listed.getD j true=false→(∀ e ∈ oj.after,Region.binds .any e=true→e.on≠i)→oi.apart ops oj=true) →
   i ∈ Region.ready .any ops listed→YieldsIf P ops (fun _=>True) oi v a→(listed.getD s true=false→S w)→wpAnyU P ops Q S s fuel (listed.setIfInBounds i true) (a.put oi.dst v) w→wpAnyU P ops Q S s (fuel+1) listed a w:=by
 intro fuel
 induction fuel with
 | zero =>
  intro listed a w _ hr hy hS H
  refine ⟨fun h=>(by rw [h] at hr;cases hr),fun j hj=>?_⟩
  by_cases hji:j=i
  ·subst hji;exact hy.wpOp hi trivial ⟨fun h=>hS (by rw [getD_set_ne true his] at h;exact h),H⟩
  ·have:=ready_mono hj hji
   rw [H.1] at this
   cases this
 | succ fuel ih =>
  intro listed a w hfree hr hy hS H
  refine ⟨fun h=>(by rw [h] at hr;cases hr),fun j hj=>?_⟩
  by_cases hji:j=i
  ·subst hji;exact hy.wpOp hi trivial ⟨fun h=>hS (by rw [getD_set_ne true his] at h;exact h),H⟩
  ·have h1:=H.2 j (ready_mono hj hji)
   obtain ⟨hjun,oj,hoj,hall⟩:=mem_ready.1 hj
   have hnot:∀ e ∈ oj.after,Region.binds .any e=true→e.on≠i:=fun e he hb heq=>by
    have h1:=hall e he hb
    have h0:=(mem_ready.1 hr).1
    rw [heq] at h1
    rcases Nat.lt_or_ge i listed.size with h' | h'
    ·simp [h'] at h0 h1;rw [h0] at h1;cases h1
    ·simp [Array.getElem?_eq_none h'] at h1
   have h2:=wpOp_putIf hoj (hfree j oj hoj hji hjun hnot) (fun cs b=>hsel i oi cs b hi) (fun cs b=>hsel j oj cs b hoj) hQ hy h1
   have hfree':∀ k ok,ops[k]?=some ok→k≠i→(listed.setIfInBounds j true).getD k true=false →
     (∀ e ∈ ok.after,Region.binds .any e=true→e.on≠i)→oi.apart ops ok=true:=fun k ok hk hki hun hno=>by
    refine hfree k ok hk hki ?_ hno
    by_cases hjk:j=k
    ·subst hjk;exact hjun
    ·rw [getD_set_ne true hjk] at hun;exact hun
   refine wpOp_mono (fun a' w' h3=>?_) h2
   have hS':(listed.setIfInBounds j true).getD s true=false→S w':=fun h=>h3.2.1 (by rw [Array.setIfInBounds_comm _ _ (Ne.symm hji)];exact unset_ne his h)
   refine ⟨hS',ih (listed.setIfInBounds j true) a' w' hfree' (ready_mono hr (Ne.symm hji)) h3.1 hS' ?_⟩
   rw [Array.setIfInBounds_comm _ _ hji]
   exact h3.2.2
theorem wpAnyU_takeT {i:Nat} {oi:Oper} {v:Value} {fuel:Nat} {listed:Array Bool} {a:Act} {w:World} (hi:ops[i]?=some oi) (hs:Region.noSelect ops=true) (hf:Region.free .any ops listed i=true) (hr:(Region.ready .any ops listed).contains i=true)
  (hw:(i != s)=true) (hQ:∀ c a w,Q (.panic c) (a.put oi.dst v) w→Q (.panic c) a w) (hy:YieldsIf P ops (fun _=>True) oi v a) (hS:listed.getD s true=false→S w)
  (h:wpAnyU P ops Q S s fuel (listed.setIfInBounds i true) (a.put oi.dst v) w):wpAnyU P ops Q S s (fuel+1) listed a w:=by
 simp only [bne_iff_ne,ne_eq] at hw
 exact wpAnyU_firstT hi (Region.noSelect_spec hs) hQ hw fuel listed a w (Region.free_spec hi hf) (by simpa using hr) hy hS h
theorem wpAnyU_all {rs:List Nat} {fuel:Nat} {listed:Array Bool} {a:Act} {w:World} (hr:Region.ready .any ops listed=rs) (hne:rs≠[])
  (h:∀ i ∈ rs,wpOp P ops Q i (fun a' w'=>((listed.setIfInBounds i true).getD s true=false→S w')∧wpAnyU P ops Q S s fuel (listed.setIfInBounds i true) a' w') a w):wpAnyU P ops Q S s (fuel+1) listed a w :=
 ⟨fun h0=>absurd (hr ▸ h0) hne,hr ▸ h⟩
theorem wpAnyU_done {listed:Array Bool} {a:Act} {w:World} (hr:Region.ready .any ops listed=[]) (h:Q .normal a w):∀ fuel,wpAnyU P ops Q S s fuel listed a w
 | 0=>⟨hr,h⟩
 | _+1=>⟨fun _=>h,by rw [hr];simp⟩
theorem wp_region_u {id:Nat} {a:Act} {w:World} (s:Nat) (S:World→Prop) (hm:P.follows .mixedOrders=true) (h:wpAnyU P ops Q S s ops.size (Array.replicate ops.size false) a w.drew):(Code.region id ops true).wp P Q a w :=
 wp_region_any hm (wpAny_of_u _ _ _ _ h)
end
end Go.CH
namespace Go.CH
open Go.RowKit
section
variable {P:Program} {ops:Array Oper} {Q:Exit→Act→World→Prop} {S:World→Prop} {s:Nat}
theorem two_chainsU {F0:Nat→Prop} {w0:World} {l0:Array Bool} {a0:Act} {R:Own} (X Y:List Nat) (PX PY:List Value→Own) (fuel:Nat) (hok:twoOk ops l0 X Y=true)
  (oX:∀ vs,(PX vs).Ok) (oY:∀ vs,(PY vs).Ok) (oR:R.Ok) (hS:∀ (O:Own) W,Run F0 w0 O W→S W)
  (hX:∀ i o vs us,X[vs.length]?=some i→ops[i]?=some o→us.length≤Y.length→∀ (Z:Own) W,Z.Ok→Run F0 w0 (star (PX vs) Z) W →
   o.wp P (puts (puts a0 (dsts ops X) vs) (dsts ops Y) us) W (fun a' w'=>∃ v,a'=(puts (puts a0 (dsts ops X) vs) (dsts ops Y) us).put o.dst v∧Run F0 w0 (star (PX (vs ++ [v])) Z) w') Q)
  (hY:∀ i o vs us,Y[us.length]?=some i→ops[i]?=some o→vs.length≤X.length→∀ (Z:Own) W,Z.Ok→Run F0 w0 (star (PY us) Z) W →
   o.wp P (puts (puts a0 (dsts ops X) vs) (dsts ops Y) us) W (fun a' w'=>∃ v,a'=(puts (puts a0 (dsts ops X) vs) (dsts ops Y) us).put o.dst v∧Run F0 w0 (star (PY (us ++ [v])) Z) w') Q)
  (hend:∀ vs us W,vs.length=X.length→us.length=Y.length→Run F0 w0 (star (PX vs) (star (PY us) R)) W→wpAnyU P ops Q S s fuel (lstB l0 X Y X.length Y.length) (puts (puts a0 (dsts ops X) vs) (dsts ops Y) us) W)
  {W:World} (h0:Run F0 w0 (star (PX []) (star (PY []) R)) W):wpAnyU P ops Q S s (fuel+(X.length+Y.length)) l0 a0 W:=by
 simp only [twoOk,Bool.and_eq_true,decide_eq_true_eq] at hok
 obtain ⟨⟨hst,hgd⟩,hnd⟩:=hok
 have key:∀ (N:Nat) (vs us:List Value) (W:World),vs.length≤X.length→us.length≤Y.length→N=(X.length - vs.length)+(Y.length - us.length)→Run F0 w0 (star (PX vs) (star (PY us) R)) W →
   wpAnyU P ops Q S s (fuel+N) (lstB l0 X Y vs.length us.length) (puts (puts a0 (dsts ops X) vs) (dsts ops Y) us) W:=by
  intro N
  induction N with
  | zero =>
   intro vs us W hv hu hN hR
   have h1:vs.length=X.length:=by omega
   have h2:us.length=Y.length:=by omega
   rw [h1,h2]
   exact hend vs us W h1 h2 hR
  | succ N ih =>
   intro vs us W hv hu hN hR
   have hc:=hst
   rw [List.all_eq_true] at hc
   have hc1:=hc vs.length (List.mem_range.2 (by omega))
   rw [List.all_eq_true] at hc1
   have hc2:=hc1 us.length (List.mem_range.2 (by omega))
   simp only [Bool.and_eq_true] at hc2
   obtain ⟨⟨⟨c1,c2⟩,c3⟩,c4⟩:=hc2
   have hne:(vs.length == X.length && us.length == Y.length)=false:=by
    cases hb:(vs.length == X.length && us.length == Y.length) with
    | false=>rfl
    | true=>simp only [Bool.and_eq_true,beq_iff_eq] at hb;omega
   rw [hne,Bool.false_or] at c1 c2
   have hdl:∀ (Z:List Nat) i,i ∈ Z→(∀ j ∈ Z,j ∈ X ++ Y)→∃ o d,ops[i]?=some o∧o.guard=none∧o.dst=some d∧((ops[i]?.bind (·.dst))).getD 0=d:=by
    intro Z i hi hZ
    rw [List.all_eq_true] at hgd
    have:=hgd i (hZ i hi)
    cases ho:ops[i]? with
    | none=>rw [ho] at this;cases this
    | some o =>
     rw [ho] at this
     simp only [Bool.and_eq_true,Option.isNone_iff_eq_none,Option.isSome_iff_exists] at this
     obtain ⟨g1,d,g2⟩:=this
     exact ⟨o,d,rfl,g1,g2,by simp [g2]⟩
   refine ⟨fun h=>by rw [h] at c1;simp at c1,fun i hi=>?_⟩
   rw [List.all_eq_true] at c2
   have hi2:=c2 i hi
   simp only [Bool.or_eq_true,beq_iff_eq] at hi2
   have hdup:=List.nodup_append.1 hnd
   rcases hi2 with hi2 | hi2
   ·-- the next of X
    have hil:vs.length < X.length:=(List.getElem?_eq_some_iff.1 hi2).1
    obtain ⟨o,d,ho,hg,hd,hdd⟩:=hdl X i (List.mem_of_getElem? hi2) (fun j hj=>List.mem_append_left _ hj)
    refine wpOp_plain ho hg (Oper.wp_mono ?_ (hX i o vs us hi2 ho hu (star (PY us) R) W (star_ok (oY us) oR) hR))
    rintro a' w' ⟨v,rfl,hR'⟩
    refine ⟨fun _=>hS _ _ hR',?_⟩
    rw [hi2] at c3
    simp only [beq_iff_eq] at c3
    have h3:=ih (vs ++ [v]) us w' (by simp;omega) hu (by simp;omega) hR'
    rw [List.length_append,List.length_singleton,←c3] at h3
    have e1:puts a0 (dsts ops X) (vs ++ [v])=(puts a0 (dsts ops X) vs).put (some d) v:=by
     have hsp:dsts ops X=dsts ops (X.take vs.length) ++ (d :: dsts ops (X.drop (vs.length+1))):=by
      have hXe:X[vs.length]=i:=(List.getElem?_eq_some_iff.1 hi2).2
      have e9:=map_split (fun i=>((ops[i]?.bind (·.dst))).getD 0) X hil
      simp only [hXe,hdd] at e9
      exact e9
     have hl:(dsts ops (X.take vs.length)).length=vs.length:=by unfold dsts;simp;omega
     rw [hsp]
     rw [show dsts ops (X.take vs.length) ++ (d :: dsts ops (X.drop (vs.length+1)))=(dsts ops (X.take vs.length) ++ [d]) ++ dsts ops (X.drop (vs.length+1)) by simp]
     rw [puts_drop _ _ _ (vs ++ [v]) (by simp [hl]),puts_snoc _ _ _ _ _ hl,List.append_assoc,puts_drop _ _ _ vs hl]
    have hnm:d ∉ dsts ops Y:=by
     intro hm
     refine hdup.2.2 d ?_ d hm rfl
     unfold dsts
     exact List.mem_map.2 ⟨i,List.mem_of_getElem? hi2,hdd⟩
    rw [hd,put_puts d v _ us _ hnm,←e1]
    exact h3
   ·have hil:us.length < Y.length:=(List.getElem?_eq_some_iff.1 hi2).1
    obtain ⟨o,d,ho,hg,hd,hdd⟩:=hdl Y i (List.mem_of_getElem? hi2) (fun j hj=>List.mem_append_right _ hj)
    have hR2:Run F0 w0 (star (PY us) (star (PX vs) R)) W:=hR.rot
    refine wpOp_plain ho hg (Oper.wp_mono ?_ (hY i o vs us hi2 ho hv (star (PX vs) R) W (star_ok (oX vs) oR) hR2))
    rintro a' w' ⟨v,rfl,hR'⟩
    refine ⟨fun _=>hS _ _ hR',?_⟩
    rw [hi2] at c4
    simp only [beq_iff_eq] at c4
    have h3:=ih vs (us ++ [v]) w' hv (by simp;omega) (by simp;omega) hR'.rot
    rw [List.length_append,List.length_singleton,←c4] at h3
    have e1:∀ b:Act,puts b (dsts ops Y) (us ++ [v])=(puts b (dsts ops Y) us).put (some d) v:=by
     intro b
     have hsp:dsts ops Y=dsts ops (Y.take us.length) ++ (d :: dsts ops (Y.drop (us.length+1))):=by
      have hXe:Y[us.length]=i:=(List.getElem?_eq_some_iff.1 hi2).2
      have e9:=map_split (fun i=>((ops[i]?.bind (·.dst))).getD 0) Y hil
      simp only [hXe,hdd] at e9
      exact e9
     have hl:(dsts ops (Y.take us.length)).length=us.length:=by unfold dsts;simp;omega
     rw [hsp]
     rw [show dsts ops (Y.take us.length) ++ (d :: dsts ops (Y.drop (us.length+1)))=(dsts ops (Y.take us.length) ++ [d]) ++ dsts ops (Y.drop (us.length+1)) by simp]
     rw [puts_drop _ _ _ (us ++ [v]) (by simp [hl]),puts_snoc _ _ _ _ _ hl,List.append_assoc,puts_drop _ _ _ us hl]
    rw [hd,←e1]
    exact h3
 have h1:=key (X.length+Y.length) [] [] W (Nat.zero_le _) (Nat.zero_le _) (by simp) h0
 have e:∀ (b:Act) (ds:List Nat),puts b ds []=b:=fun b ds=>by cases ds <;> rfl
 rw [e,e] at h1
 exact h1
end
end Go.CH
namespace Go.Proofs.YtbnnlpjpnihheaaGreatDoor.Asn
open Go.RowKit Go.CH Go.CH.Asg
open Go.ChangeMaps (setBlock)

def BelowRet (w:World) (v:Value) (e:Ending) (w':World):Prop:=e=.returned v∧Below w.heap.size w w'
def Quiet (w:World) (v:Value) (e:Ending) (w':World):Prop:=e=.returned v∧w=w'
theorem quiet_bool {w:World} {a b:Bool} (h:a=b):Quiet w (.bool b) (.returned (.bool a)) w:=⟨by rw [h],rfl⟩
theorem bel_bool {w w':World} {a b:Bool} (h:b=a) (hb:Below w.heap.size w w'):BelowRet w (.bool b) (.returned (.bool a)) w':=⟨by rw [h],hb⟩
def ints (l:List Int):List Value:=l.map (Value.int .i64)
theorem ints_one (l:List Int):∀ u ∈ ints l,u.oneCell'=true:=by
 intro u hu
 obtain ⟨s,_,rfl⟩:=List.mem_map.1 hu
 rfl
theorem ints_len (l:List Int):(ints l).length=l.length:=by simp [ints]
theorem ints_get {l:List Int} {k:Nat} (h:k < l.length):(ints l)[k]?=some (.int .i64 l[k]):=by simp [ints,h]

def Vec (w:World) (A:Option Addr) (l:List Int):Prop:=Src w A l.length 1 (ints l)
theorem src_below {w w':World} {A:Option Addr} {n size:Nat} {xs:List Value} (h:Src w A n size xs) (hb:Below w.heap.size w w'):Src w' A n size xs :=
 ((Run.begin w).below emp_ok hb).src0 h
theorem Vec.below {w w':World} {A:Option Addr} {l:List Int} (h:Vec w A l) (hb:Below w.heap.size w w'):Vec w' A l:=src_below h hb
theorem Vec.drew {w:World} {A:Option Addr} {l:List Int} (h:Vec w A l):Vec w.drew A l:=h.below (below_drew (Below.refl _ _))

theorem Vec.at {w:World} {A:Option Addr} {l:List Int} (h:Vec w A l) (hn:0 < l.length) :
  ∃ b o,A=some ⟨b,o,none⟩∧∀ w',Below w.heap.size w w'→∀ j (hj:j < l.length),w'.cell? ⟨b,o+j,none⟩=some (.int .i64 l[j]):=by
 obtain ⟨b,o,rfl,hc⟩:=Src.open_ h hn (by omega)
 refine ⟨b,o,rfl,fun w' hb j hj=>?_⟩
 have h1:=hc j _ (ints_get hj)
 rw [hb.cell (World.block_lt_of_cell? _ _ h1)];exact h1

structure Mat (w:World) (A:Option Addr) (C:List (List Int)) (V:List (Option Addr × Nat)):Prop where
 len:V.length=C.length
 src:Src w A C.length 1 (V.mapIdx fun i x=>.slice x.1 (C.getD i []).length x.2)
 row:∀ i (hi:i < C.length) x,V[i]?=some x→Vec w x.1 C[i]∧C[i].length≤x.2
theorem Mat.below {w w':World} {A:Option Addr} {C:List (List Int)} {V:List (Option Addr × Nat)} (h:Mat w A C V) (hb:Below w.heap.size w w'):Mat w' A C V :=
 ⟨h.len,src_below h.src hb,fun i hi x hx=>⟨(h.row i hi x hx).1.below hb,(h.row i hi x hx).2⟩⟩

theorem Mat.at {w:World} {A:Option Addr} {C:List (List Int)} {V:List (Option Addr × Nat)} (h:Mat w A C V) (hn:0 < C.length) :
  ∃ b o,A=some ⟨b,o,none⟩∧∀ j (hj:j < C.length),∃ B c,C[j].length≤c∧Vec w B C[j]∧∀ w',Below w.heap.size w w'→w'.cell? ⟨b,o+j,none⟩=some (.slice B C[j].length c):=by
 obtain ⟨b,o,rfl,hc⟩:=Src.open_ h.src hn (by omega)
 refine ⟨b,o,rfl,fun j hj=>?_⟩
 have hv:V[j]?=some (V[j]'(by rw [h.len];exact hj)):=List.getElem?_eq_getElem _
 obtain ⟨h1,h2⟩:=h.row j hj _ hv
 refine ⟨_,_,h2,h1,fun w' hb=>?_⟩
 have h3:=hc j (.slice (V[j]'(by rw [h.len];exact hj)).1 C[j].length (V[j]'(by rw [h.len];exact hj)).2) (by
  rw [List.getElem?_mapIdx,hv]
  simp [List.getD_eq_getElem?_getD,hj])
 rw [hb.cell (World.block_lt_of_cell? _ _ h3)];exact h3

def wi (l:List Int) (lo hi:Int):Bool:=l.all fun n=>decide (lo≤n) && decide (n≤hi)
theorem wi_take {l:List Int} {lo hi:Int} {k:Nat} (h:k < l.length):wi (l.take (k+1)) lo hi=(wi (l.take k) lo hi && (decide (lo≤l[k]) && decide (l[k]≤hi))):=by
 unfold wi
 rw [List.take_succ_eq_append_getElem h,List.all_append];simp
theorem wi_no {l:List Int} {lo hi:Int} {k:Nat} (h:wi (l.take (k+1)) lo hi=false):wi l lo hi=false:=by
 unfold wi at *
 rw [List.all_eq_false] at *
 obtain ⟨x,hx,h1⟩:=h
 exact ⟨x,List.mem_of_mem_take hx,h1⟩
theorem wi_at {l:List Int} {lo hi:Int} (h:wi l lo hi=true) {k:Nat} (hk:k < l.length):lo≤l[k]∧l[k]≤hi:=by
 unfold wi at h
 rw [List.all_eq_true] at h
 simpa using h l[k] (List.getElem_mem _)
def few (C:List (List Int)) (D E:List Int):Bool:=C.all (fun r=>decide (r.length≤20)) && (decide (C.length≤20) && decide (D.length≤20) && decide (E.length≤20))

def vld (C:List (List Int)) (D E:List Int):Bool :=
 decide (C.length=D.length) && decide (D.length≤6) && decide (E.length≤6) && wi D 0 10000 && wi E 0 10000 && C.all (fun r=>decide (r.length=E.length) && wi r 0 100000)
end Go.Proofs.YtbnnlpjpnihheaaGreatDoor.Asn
namespace Go.Proofs.YtbnnlpjpnihheaaGreatDoor.Asn
open Go.RowKit Go.CH Go.CH.Asg
open Go.ChangeMaps (setBlock)

end Go.Proofs.YtbnnlpjpnihheaaGreatDoor.Asn
namespace Go.Proofs.YtbnnlpjpnihheaaGreatDoor.Asn
open Go.RowKit Go.CH Go.CH.Asg
open Go.ChangeMaps (setBlock)

def vl0 (n nd ne:Nat) (D E:List Int):Bool:=decide (n=nd) && decide (nd≤6) && decide (ne≤6) && wi D 0 10000 && wi E 0 10000
def vlr (ne:Nat) (r:List Int):Bool:=decide (r.length=ne) && wi r 0 100000
theorem vld_eq (C:List (List Int)) (D E:List Int):vld C D E=(vl0 C.length D.length E.length D E && C.all (vlr E.length)):=rfl
theorem vlr_take {C:List (List Int)} {ne k:Nat} (h:k < C.length):(C.take (k+1)).all (vlr ne)=((C.take k).all (vlr ne) && vlr ne C[k]):=by
 rw [List.take_succ_eq_append_getElem h,List.all_append];simp
end Go.Proofs.YtbnnlpjpnihheaaGreatDoor.Asn
namespace Go.Proofs.YtbnnlpjpnihheaaGreatDoor.Asn
open Go.RowKit Go.CH Go.CH.Asg
open Go.ChangeMaps (setBlock)

set_option maxHeartbeats 800000 in
theorem out_any {w:World} {p q:Addr} (x lo hi:Int) (h1:w.cell? p=some (.int .i64 lo)) (h2:w.cell? q=some (.int .i64 hi)) :
  Calls Tryz.prog 130 #[.int .i64 x,.pointer (some p),.pointer (some q)] w (Quiet w (.bool (!(decide (lo≤x) && decide (x≤hi))))):=by
 by_cases g1:x < lo
 ·go_enter Tryz.func130,Tryz.ntmps130
  go_wp2
  go_ret
  refine quiet_bool ?_
  simp;omega
 ·by_cases g2:hi < x
  ·go_enter Tryz.func130,Tryz.ntmps130
   go_wp2
   go_ret
   refine quiet_bool ?_
   simp;try omega
  ·go_enter Tryz.func130,Tryz.ntmps130
   go_wp2
   go_ret
   refine quiet_bool ?_
   simp;try omega
set_option maxHeartbeats 800000 in
theorem index_any {w:World} {A:Option Addr} {c:Nat} {l:List Int} (h:Vec w A l) (hl:l.length≤1000000) {p q:Addr} (lo hi:Int) (h1:w.cell? p=some (.int .i64 lo)) (h2:w.cell? q=some (.int .i64 hi)) :
  Calls Tryz.prog 151 #[.slice A l.length c,.func (.func 130) #[] #[.pointer (some p),.pointer (some q)]] w (fun e w'=>∃ r:Int,e=.returned (.int .i64 r)∧w'=w∧(0≤r↔wi l lo hi=false)):=by
 have HA:=hide h
 have HO:=hide (fun x=>out_any x lo hi h1 h2)
 obtain ⟨n,hn⟩:∃ n,n=l.length:=⟨_,rfl⟩
 rw [←hn] at hl
 have HN:=hide hn
 rw [←hn]
 clear h hn h1 h2
 go_enter Tryz.func151,Tryz.ntmps151
 go_wp2
 go_loop [8] (fun i=>∃ k:Nat,k≤n∧i=.int .i64 k∧wi (l.take k) lo hi=true) (fun i=>n - (intOf i).toNat)
 case atStart=>exact ⟨0,Nat.zero_le _,rfl,rfl⟩
 case round =>
  obtain ⟨k,hk,rfl,hw⟩:=hrel
  have HW:=hide hw
  clear hw
  by_cases hlt:k < n
  ·have hkl:k < l.length:=by rw [←HN.out];exact hlt
   obtain ⟨b,o,rfl,hc⟩:=HA.out.at (by omega)
   have c0:=hc w (Below.refl _ _) k hkl
   have HT:=hide (wi_take (lo:=lo) (hi:=hi) hkl)
   have HNO:=hide (wi_no (l:=l) (lo:=lo) (hi:=hi) (k:=k))
   have KO:=hide (HO.out l[k])
   generalize l[k]=x at *
   clear hc
   rw [HW.out,Bool.true_and] at HT
   cases hb:(decide (lo≤x) && decide (x≤hi)) with
   | true =>
    rw [hb] at HT KO
    clear hb
    go_wp2_with fail
    refine KO.out.mono ?_
    rintro e w' ⟨rfl,rfl⟩
    go_wp2
    go_round
    case rel=>exact ⟨k+1,by omega,by go_num,HT.out⟩
    case measure=>simp [intOf];omega
   | false =>
    rw [hb] at HT KO
    clear hb
    have HF:=hide (HNO.out HT.out)
    clear HNO HT HW
    go_wp2_with fail
    refine KO.out.mono ?_
    rintro e w' ⟨rfl,rfl⟩
    go_wp2
    go_ret
    exact ⟨k,rfl,rfl,by rw [HF.out];simp⟩
  ·obtain rfl:k=n:=by omega
   have HF:=hide (show true=wi l lo hi by rw [←HW.out,HN.out,List.take_length])
   clear HW
   go_wp2
   go_ret
   exact ⟨-1,rfl,rfl,by rw [←HF.out];simp⟩

set_option maxHeartbeats 800000 in
theorem contains_any {w:World} {A:Option Addr} {c:Nat} {l:List Int} (h:Vec w A l) (hl:l.length≤1000000) {p q:Addr} (lo hi:Int) (h1:w.cell? p=some (.int .i64 lo)) (h2:w.cell? q=some (.int .i64 hi)) :
  Calls Tryz.prog 129 #[.slice A l.length c,.func (.func 130) #[] #[.pointer (some p),.pointer (some q)]] w (Quiet w (.bool (!wi l lo hi))):=by
 have KI:=hide (index_any (c:=c) h hl lo hi h1 h2)
 clear h h1 h2
 go_enter Tryz.func129,Tryz.ntmps129
 go_wp2_with fail
 refine KI.out.mono ?_
 rintro e w' ⟨r,rfl,rfl,hr⟩
 cases hw:wi l lo hi with
 | false =>
  have:0≤r:=hr.2 hw
  go_wp2
  go_ret
  refine quiet_bool ?_
  simp [hw]
 | true =>
  have:¬ 0≤r:=fun h=>by rw [hr.1 h] at hw;cases hw
  go_wp2
  go_ret
  refine quiet_bool ?_
  simp [hw]
theorem new_old (w:World) (cs:Array Value) (t:TypeId) (o:Obj) {v:Value} (h:cs[0]?=some v):((w.alloc (.cells cs t)).alloc o).cell? ⟨w.heap.size,0,none⟩=some v:=by
 have h1:((w.alloc (.cells cs t)).alloc o).heap[w.heap.size]?=(w.alloc (.cells cs t)).heap[w.heap.size]?:=heap_old (by simp)
 rw [World.cell?_of_block (w:=w.alloc (.cells cs t)) h1]
 obtain ⟨F,hC,-⟩:=cell_new w cs t
 exact cell_at hC h
theorem new_two (w:World) (o:Obj) (cs:Array Value) (t:TypeId) {v:Value} (h:cs[0]?=some v):((w.alloc o).alloc (.cells cs t)).cell? ⟨w.heap.size+1,0,none⟩=some v:=by
 obtain ⟨F,hC,-⟩:=cell_new (w.alloc o) cs t
 have:=cell_at hC h
 rwa [show (w.alloc o).heap.size=w.heap.size+1 by simp] at this
set_option maxHeartbeats 800000 in
theorem within_any {w:World} {A:Option Addr} {c:Nat} {l:List Int} (h:Vec w A l) (hl:l.length≤1000000) (lo hi:Int) :
  Calls Tryz.prog 99 #[.slice A l.length c,.int .i64 lo,.int .i64 hi] w (BelowRet w (.bool (wi l lo hi))):=by
 have hb2:Below w.heap.size w ((w.alloc (.cells #[.int .i64 lo] 3)).alloc (.cells #[.int .i64 hi] 3)):=((Below.refl _ _).alloc (Nat.le_refl _) _).alloc (by simp) _
 have KC:=hide (contains_any (c:=c) (p:=⟨w.heap.size,0,none⟩) (q:=⟨w.heap.size+1,0,none⟩) (h.below hb2) hl lo hi (new_old w _ _ _ rfl) (new_two w _ _ _ rfl))
 have HB:=hide hb2
 clear h hb2
 go_enter Tryz.func99,Tryz.ntmps99
 go_wp2_with fail
 refine KC.out.mono ?_
 rintro e w' ⟨rfl,rfl⟩
 go_wp2
 go_ret
 exact bel_bool (by simp) HB.out

theorem bel_trans {w w' w'':World} (h:Below w.heap.size w w') (h':Below w'.heap.size w' w''):Below w.heap.size w w'':=h.trans (h'.mono h.size)
set_option maxHeartbeats 6400000 in
theorem valid_any {w:World} {A B G:Option Addr} {V:List (Option Addr × Nat)} {c d e:Nat} {C:List (List Int)} {D E:List Int} (h:Mat w A C V) (hl:C.length≤maxLen) (hD:Vec w B D) (hE:Vec w G E) :
  Calls Tryz.prog 57 #[.slice A C.length c,.slice B D.length d,.slice G E.length e] w (BelowRet w (.bool (vld C D E))):=by
 unfold maxLen at hl
 have HA:=hide h
 have HV:=hide (vld_eq C D E)
 have HD:=hide (fun hl=>within_any (c:=d) hD hl 0 10000)
 have HE:=hide (fun (w':World) (hb:Below w.heap.size w w') hl=>within_any (c:=e) (hE.below hb) hl 0 10000)
 obtain ⟨n,hn⟩:∃ n,n=C.length:=⟨_,rfl⟩
 obtain ⟨nd,hnd⟩:∃ n,n=D.length:=⟨_,rfl⟩
 obtain ⟨ne,hne⟩:∃ n,n=E.length:=⟨_,rfl⟩
 have HN:=hide hn
 rw [←hn] at hl
 rw [←hn,←hnd,←hne] at HV
 rw [←hnd] at HD
 rw [←hne] at HE
 rw [←hn,←hnd,←hne]
 have HB:=hide (Below.refl w.heap.size w)
 clear h hn hnd hne hD hE
 by_cases h1:n=nd
 case neg =>
  have HF:=hide (show false=vld C D E by rw [HV.out,vl0,decide_eq_false h1];simp)
  clear HV HD HE
  go_enter Tryz.func57,Tryz.ntmps57
  go_wp2
  go_loopw [7,35] (fun ok i wr=>∃ k:Nat,k≤n∧ok=.bool false∧i=.int .i64 k∧Below w.heap.size w wr) (fun _ i _=>n - (intOf i).toNat)
  case atStart=>exact ⟨0,Nat.zero_le _,rfl,rfl,HB.out⟩
  case round =>
   obtain ⟨k,hk,rfl,rfl,hb⟩:=hrel
   have HBL:=hide hb
   clear HB
   by_cases hlt:k < n
   ·have hka:k < C.length:=by rw [←HN.out];exact hlt
    obtain ⟨b1,o1,rfl,hc1⟩:=HA.out.at (by omega)
    obtain ⟨Bk,ck,-,-,hck⟩:=hc1 k hka
    have c1:=hck _ hb
    clear hc1 hck hb
    go_wp2
    go_roundw
    case rel=>exact ⟨k+1,by omega,rfl,by go_num,HBL.out⟩
    case measure=>simp [intOf];omega
   ·obtain rfl:k=n:=by omega
    clear hb
    go_wp2
    go_ret
    exact bel_bool HF.out.symm HBL.out
 by_cases h2:nd≤6
 case neg =>
  have HF:=hide (show false=vld C D E by rw [HV.out,vl0,decide_eq_false h2];simp)
  clear HV HD HE
  go_enter Tryz.func57,Tryz.ntmps57
  go_wp2
  go_loopw [7,35] (fun ok i wr=>∃ k:Nat,k≤n∧ok=.bool false∧i=.int .i64 k∧Below w.heap.size w wr) (fun _ i _=>n - (intOf i).toNat)
  case atStart=>exact ⟨0,Nat.zero_le _,rfl,rfl,HB.out⟩
  case round =>
   obtain ⟨k,hk,rfl,rfl,hb⟩:=hrel
   have HBL:=hide hb
   clear HB
   by_cases hlt:k < n
   ·have hka:k < C.length:=by rw [←HN.out];exact hlt
    obtain ⟨b1,o1,rfl,hc1⟩:=HA.out.at (by omega)
    obtain ⟨Bk,ck,-,-,hck⟩:=hc1 k hka
    have c1:=hck _ hb
    clear hc1 hck hb
    go_wp2
    go_roundw
    case rel=>exact ⟨k+1,by omega,rfl,by go_num,HBL.out⟩
    case measure=>simp [intOf];omega
   ·obtain rfl:k=n:=by omega
    clear hb
    go_wp2
    go_ret
    exact bel_bool HF.out.symm HBL.out
 by_cases h3:ne≤6
 case neg =>
  have HF:=hide (show false=vld C D E by rw [HV.out,vl0,decide_eq_false h3];simp)
  clear HV HD HE
  go_enter Tryz.func57,Tryz.ntmps57
  go_wp2
  go_loopw [7,35] (fun ok i wr=>∃ k:Nat,k≤n∧ok=.bool false∧i=.int .i64 k∧Below w.heap.size w wr) (fun _ i _=>n - (intOf i).toNat)
  case atStart=>exact ⟨0,Nat.zero_le _,rfl,rfl,HB.out⟩
  case round =>
   obtain ⟨k,hk,rfl,rfl,hb⟩:=hrel
   have HBL:=hide hb
   clear HB
   by_cases hlt:k < n
   ·have hka:k < C.length:=by rw [←HN.out];exact hlt
    obtain ⟨b1,o1,rfl,hc1⟩:=HA.out.at (by omega)
    obtain ⟨Bk,ck,-,-,hck⟩:=hc1 k hka
    have c1:=hck _ hb
    clear hc1 hck hb
    go_wp2
    go_roundw
    case rel=>exact ⟨k+1,by omega,rfl,by go_num,HBL.out⟩
    case measure=>simp [intOf];omega
   ·obtain rfl:k=n:=by omega
    clear hb
    go_wp2
    go_ret
    exact bel_bool HF.out.symm HBL.out
 have KD:=hide (HD.out (by omega))
 have KE:=hide (fun w' hb=>HE.out w' hb (by omega))
 have HV2:=hide (show vld C D E=(wi D 0 10000 && wi E 0 10000 && C.all (vlr ne)) by rw [HV.out,vl0,decide_eq_true h1,decide_eq_true h2,decide_eq_true h3];simp)
 clear HD HE HV
 cases h4:wi D 0 10000 with
 | false =>
  rw [h4] at KD HV2
  have HF:=hide (show false=vld C D E by rw [HV2.out];simp)
  clear HV2 h4
  go_enter Tryz.func57,Tryz.ntmps57
  go_wp2_with fail
  refine KD.out.mono ?_
  rintro e w' ⟨rfl,hb'⟩
  have HB':=hide hb'
  clear HB hb' KD
  go_wp2
  go_loopw [7,35] (fun ok i wr=>∃ k:Nat,k≤n∧ok=.bool false∧i=.int .i64 k∧Below w.heap.size w wr) (fun _ i _=>n - (intOf i).toNat)
  case atStart=>exact ⟨0,Nat.zero_le _,rfl,rfl,HB'.out⟩
  case round =>
   obtain ⟨k,hk,rfl,rfl,hb⟩:=hrel
   have HBL:=hide hb
   clear HB'
   by_cases hlt:k < n
   ·have hka:k < C.length:=by rw [←HN.out];exact hlt
    obtain ⟨b1,o1,rfl,hc1⟩:=HA.out.at (by omega)
    obtain ⟨Bk,ck,-,-,hck⟩:=hc1 k hka
    have c1:=hck _ hb
    clear hc1 hck hb
    go_wp2
    go_roundw
    case rel=>exact ⟨k+1,by omega,rfl,by go_num,HBL.out⟩
    case measure=>simp [intOf];omega
   ·obtain rfl:k=n:=by omega
    clear hb
    go_wp2
    go_ret
    exact bel_bool HF.out.symm HBL.out
 | true =>
  rw [h4] at KD HV2
  clear h4
  cases h5:wi E 0 10000 with
  | false =>
   rw [h5] at KE HV2
   have HF:=hide (show false=vld C D E by rw [HV2.out];simp)
   clear HV2 h5
   go_enter Tryz.func57,Tryz.ntmps57
   go_wp2_with fail
   refine KD.out.mono ?_
   rintro e w' ⟨rfl,hb'⟩
   have HB':=hide hb'
   have KE2:=hide (KE.out _ hb')
   clear HB hb' KD KE
   go_wp2_with fail
   refine KE2.out.mono ?_
   rintro e w2 ⟨rfl,hb2⟩
   have HB2:=hide (bel_trans HB'.out hb2)
   clear HB' hb2 KE2
   go_wp2
   go_loopw [7,35] (fun ok i wr=>∃ k:Nat,k≤n∧ok=.bool false∧i=.int .i64 k∧Below w.heap.size w wr) (fun _ i _=>n - (intOf i).toNat)
   case atStart=>exact ⟨0,Nat.zero_le _,rfl,rfl,HB2.out⟩
   case round =>
    obtain ⟨k,hk,rfl,rfl,hb⟩:=hrel
    have HBL:=hide hb
    clear HB2
    by_cases hlt:k < n
    ·have hka:k < C.length:=by rw [←HN.out];exact hlt
     obtain ⟨b1,o1,rfl,hc1⟩:=HA.out.at (by omega)
     obtain ⟨Bk,ck,-,-,hck⟩:=hc1 k hka
     have c1:=hck _ hb
     clear hc1 hck hb
     go_wp2
     go_roundw
     case rel=>exact ⟨k+1,by omega,rfl,by go_num,HBL.out⟩
     case measure=>simp [intOf];omega
    ·obtain rfl:k=n:=by omega
     clear hb
     go_wp2
     go_ret
     exact bel_bool HF.out.symm HBL.out
  | true =>
   rw [h5] at KE HV2
   clear h5
   have HF:=hide (show vld C D E=C.all (vlr ne) by rw [HV2.out];simp)
   clear HV2
   go_enter Tryz.func57,Tryz.ntmps57
   go_wp2_with fail
   refine KD.out.mono ?_
   rintro e w' ⟨rfl,hb'⟩
   have HB':=hide hb'
   have KE2:=hide (KE.out _ hb')
   clear HB hb' KD KE
   go_wp2_with fail
   refine KE2.out.mono ?_
   rintro e w2 ⟨rfl,hb2⟩
   have HB2:=hide (bel_trans HB'.out hb2)
   clear HB' hb2 KE2
   go_wp2
   go_loopw [7,35] (fun ok i wr=>∃ k:Nat,k≤n∧ok=.bool ((C.take k).all (vlr ne))∧i=.int .i64 k∧Below w.heap.size w wr) (fun _ i _=>n - (intOf i).toNat)
   case atStart=>exact ⟨0,Nat.zero_le _,rfl,rfl,HB2.out⟩
   case round =>
    obtain ⟨k,hk,rfl,rfl,hb⟩:=hrel
    have HBL:=hide hb
    clear HB2
    by_cases hlt:k < n
    ·have hka:k < C.length:=by rw [←HN.out];exact hlt
     obtain ⟨b1,o1,rfl,hc1⟩:=HA.out.at (by omega)
     obtain ⟨Bk,ck,-,hrow,hck⟩:=hc1 k hka
     have c1:=hck _ hb
     have HX:=hide (vlr_take (ne:=ne) hka)
     have HK:=hide (fun hl=>within_any (c:=ck) (hrow.below hb) hl 0 100000)
     have HZ:=hide (show vlr ne C[k]=(decide (C[k].length=ne) && wi C[k] 0 100000) from rfl)
     generalize C[k]=x at *
     obtain ⟨nx,hnx⟩:∃ n,n=x.length:=⟨_,rfl⟩
     rw [←hnx] at c1 HK HZ
     clear hc1 hck hrow hnx hb
     cases ht:(C.take k).all (vlr ne) with
     | false =>
      rw [ht] at HX
      clear ht HZ HK
      go_wp2
      go_roundw
      case rel=>exact ⟨k+1,by omega,by rw [HX.out];rfl,by go_num,HBL.out⟩
      case measure=>simp [intOf];omega
     | true =>
      rw [ht,Bool.true_and] at HX
      clear ht
      by_cases hx:nx=ne
      ·have KX:=hide (HK.out (by omega))
       rw [decide_eq_true hx,Bool.true_and] at HZ
       clear HK
       subst hx
       go_wp2_with fail
       refine KX.out.mono ?_
       rintro e w' ⟨rfl,hb'⟩
       have HB':=hide (bel_trans HBL.out hb')
       clear KX hb' HBL
       go_wp2
       go_roundw
       case rel=>exact ⟨k+1,by omega,by rw [HX.out,HZ.out],by go_num,HB'.out⟩
       case measure=>simp [intOf];omega
      ·have HS:=hide (show vlr ne x=false by rw [HZ.out,decide_eq_false hx];rfl)
       clear HZ HK
       go_wp2
       go_roundw
       case rel=>exact ⟨k+1,by omega,by rw [HX.out,HS.out],by go_num,HBL.out⟩
       case measure=>simp [intOf];omega
    ·obtain rfl:k=n:=by omega
     have HS:=hide (show C.take k=C by rw [HN.out,List.take_length])
     clear hb
     go_wp2
     go_ret
     exact bel_bool (by rw [HF.out,HS.out]) HBL.out
end Go.Proofs.YtbnnlpjpnihheaaGreatDoor.Asn
namespace Go.Proofs.YtbnnlpjpnihheaaGreatDoor.Asn
open Go.RowKit Go.CH Go.CH.Asg
open Go.ChangeMaps (setBlock)

def lF (l:List Int) (i:Nat):Int:=l.getD i 0
def cF (C:List (List Int)) (i j:Nat):Int:=lF (C.getD i []) j
theorem lF_at {l:List Int} {i:Nat} (h:i < l.length):lF l i=l[i]:=by simp [lF,List.getD_eq_getElem?_getD,h]
theorem cF_at {C:List (List Int)} {i:Nat} (h:i < C.length) (j:Nat):cF C i j=lF C[i] j:=by simp [cF,List.getD_eq_getElem?_getD,h]
structure Vld (C:List (List Int)) (D E:List Int):Prop where
 n:C.length=D.length
 n6:D.length≤6
 m6:E.length≤6
 d:∀ i,i < D.length→0≤lF D i∧lF D i≤10000
 e:∀ i,i < E.length→0≤lF E i∧lF E i≤10000
 row:∀ i (hi:i < C.length),C[i].length=E.length
 c:∀ i,i < D.length→∀ j,j < E.length→0≤cF C i j∧cF C i j≤100000
theorem vld_iff {C:List (List Int)} {D E:List Int} (h:vld C D E=true):Vld C D E:=by
 simp only [vld,Bool.and_eq_true,decide_eq_true_eq,List.all_eq_true] at h
 obtain ⟨⟨⟨⟨⟨h1,h2⟩,h3⟩,h4⟩,h5⟩,h6⟩:=h
 refine ⟨h1,h2,h3,fun i hi=>?_,fun i hi=>?_,fun i hi=>(h6 _ (List.getElem_mem hi)).1,fun i hi j hj=>?_⟩
 ·rw [lF_at hi];exact wi_at h4 hi
 ·rw [lF_at hi];exact wi_at h5 hi
 ·have hi':i < C.length:=by omega
  obtain ⟨g1,g2⟩:=h6 _ (List.getElem_mem hi')
  rw [cF_at hi',lF_at (by omega)]
  exact wi_at g2 (by omega)
theorem Vec.atF {w:World} {A:Option Addr} {l:List Int} (h:Vec w A l) (hn:0 < l.length) :
  ∃ b o,A=some ⟨b,o,none⟩∧∀ w',Below w.heap.size w w'→∀ j,j < l.length→w'.cell? ⟨b,o+j,none⟩=some (.int .i64 (lF l j)):=by
 obtain ⟨b,o,h1,h2⟩:=h.at hn
 exact ⟨b,o,h1,fun w' hb j hj=>by rw [lF_at hj];exact h2 w' hb j hj⟩

theorem Mat.atF {w:World} {A:Option Addr} {C:List (List Int)} {V:List (Option Addr × Nat)} {m:Nat} (h:Mat w A C V) (hn:0 < C.length) (hr:∀ i (hi:i < C.length),C[i].length=m) :
  ∃ b o,A=some ⟨b,o,none⟩∧∀ i,i < C.length→∃ B c,m≤c∧(∀ w',Below w.heap.size w w'→w'.cell? ⟨b,o+i,none⟩=some (.slice B m c)) ∧
   (0 < m→∃ b' o',B=some ⟨b',o',none⟩∧∀ w',Below w.heap.size w w'→∀ j,j < m→w'.cell? ⟨b',o'+j,none⟩=some (.int .i64 (cF C i j))):=by
 obtain ⟨b,o,h1,h2⟩:=h.at hn
 refine ⟨b,o,h1,fun i hi=>?_⟩
 obtain ⟨B,c,h3,h4,h5⟩:=h2 i hi
 have hm:=hr i hi
 refine ⟨B,c,by omega,fun w' hb=>by rw [←hm];exact h5 w' hb,fun h0=>?_⟩
 obtain ⟨b',o',g1,g2⟩:=h4.atF (by omega)
 exact ⟨b',o',g1,fun w' hb j hj=>by rw [cF_at hi];exact g2 w' hb j (by omega)⟩
theorem sg_bnd {f:Nat→Int} {a b:Int} {n:Nat} (h:∀ i,i < n→a≤f i∧f i≤b):(n:Int)*a≤sg n f∧sg n f≤(n:Int)*b:=by
 induction n with
 | zero=>simp [sg]
 | succ n ih =>
  have:=ih (fun i hi=>h i (by omega))
  have:=h n (by omega)
  have e1:((n+1:Nat):Int)*a=n*a+a:=by rw [Int.natCast_add,Int.add_mul];simp
  have e2:((n+1:Nat):Int)*b=n*b+b:=by rw [Int.natCast_add,Int.add_mul];simp
  rw [sg_succ,e1,e2];omega

def bnd0 (C:List (List Int)) (D E U W:List Int):Bool:=vld C D E && decide (U.length=D.length) && decide (W.length=E.length) && wi U (-1000000) 1000000 && wi W (-1000000) 1000000
def FeasL (C:List (List Int)) (D E U W:List Int):Prop:=Feas (cF C) (lF D) (lF E) D.length E.length (lF U) (lF W)
open Classical in

noncomputable def bnd (C:List (List Int)) (D E U W:List Int):Int × Bool:=if bnd0 C D E U W=true∧FeasL C D E U W then (sg D.length (lF U)+sg E.length (lF W),true) else (0,false)

structure Prb (w:World) (A B G:Option Addr) (C:List (List Int)) (D E:List Int) (n m:Nat):Prop where
 v:Vld C D E
 hn:C.length=n
 hd:D.length=n
 hm:E.length=m
 mat:∃ V,Mat w A C V
 vd:Vec w B D
 ve:Vec w G E
theorem Prb.below {w w':World} {A B G:Option Addr} {C:List (List Int)} {D E:List Int} {n m:Nat} (h:Prb w A B G C D E n m) (hb:Below w.heap.size w w'):Prb w' A B G C D E n m:=by
 obtain ⟨V,hV⟩:=h.mat
 exact ⟨h.v,h.hn,h.hd,h.hm,⟨V,hV.below hb⟩,h.vd.below hb,h.ve.below hb⟩
section
variable {w:World} {A B G:Option Addr} {C:List (List Int)} {D E:List Int} {n m:Nat}
theorem Prb.n6 (h:Prb w A B G C D E n m):n≤6:=h.hd ▸ h.v.n6
theorem Prb.m6 (h:Prb w A B G C D E n m):m≤6:=h.hm ▸ h.v.m6
end
theorem prb_of {w:World} {A B G:Option Addr} {C:List (List Int)} {D E:List Int} {V:List (Option Addr × Nat)} (hV:vld C D E=true) (h:Mat w A C V) (hD:Vec w B D) (hE:Vec w G E):Prb w A B G C D E D.length E.length :=
 ⟨vld_iff hV,(vld_iff hV).n,rfl,rfl,⟨V,h⟩,hD,hE⟩
end Go.Proofs.YtbnnlpjpnihheaaGreatDoor.Asn
namespace Go.Proofs.YtbnnlpjpnihheaaGreatDoor.Asn
open Go.RowKit Go.CH Go.CH.Asg
open Go.ChangeMaps (setBlock)

theorem toList_madeCells_one (z:Value) (n:Nat):(madeCells #[z] n).toList=List.replicate n z:=by
 refine List.ext_getElem? fun i=>?_
 simp only [madeCells,Array.toList_map,Array.toList_range,List.getElem?_map,List.getElem?_range]
 by_cases h:i < n
 ·simp [h,Nat.mod_one]
 ·simp [h]
theorem wp_make {P:Program} {o:Oper} {a:Act} {w:World} {K:Act→World→Prop} {Q:Exit→Act→World→Prop} {t e:TypeId} {z:Value} {bytes:Nat} (S:SliceOk P t e z 1 bytes) (hby:bytes≤1000) (l:Operand) (hop:o.op=Op.makeSlice t l l) (n:Nat) (hn:n≤1000) (hl:a.eval l=.int .i64 (n:Int)) (hz:z.cells=#[z])
  (hK:∀ w',Post w (fun _=>False) (RowO e 1 (.slice (some ⟨w.heap.size,0,none⟩) n n) n (List.replicate n z)) w'→K (a.put o.dst (.slice (some ⟨w.heap.size,0,none⟩) n n)) w'):o.wp P a w K Q:=by
 obtain ⟨ht,hi,hzz,hsz⟩:=S
 obtain ⟨i,hi,hi1,hi2,hi3⟩:=info_parts hi
 obtain ⟨w',hrun,r1,r2⟩:=run_make_full (P:=P) w w.heap.size t e i z 1 ht hi hi1 hi2 .i64 .i64 n (by rw [hi3];have:=Nat.mul_le_mul hby hn;omega) (by simp only [maxLen];omega) (Nat.le_refl _)
 have h2:=hK w' (row_new (by
  rw [Nat.mul_one,hz,toList_madeCells_one] at r1;exact r1) (Mod.below (F:=fun _=>False) (Mod.of_grown r2 (fun k hk=>by cases hk)) (fun _ _ h=>h)))
 unfold Oper.wp
 simp [execOp,hop,hl,hrun,Result.andThen]
 exact h2
theorem wpList_make {P:Program} {ops:Array Oper} {rest:List Oper} {o:Oper} {a:Act} {w:World} {Q:Exit→Act→World→Prop} (hg:o.guard=none) {t e:TypeId} {z:Value} {bytes:Nat} (S:SliceOk P t e z 1 bytes) (hby:bytes≤1000) (l:Operand) (hop:o.op=Op.makeSlice t l l) (n:Nat) (hn:n≤1000) (hl:a.eval l=.int .i64 (n:Int)) (hz:z.cells=#[z])
  (hK:∀ w',Post w (fun _=>False) (RowO e 1 (.slice (some ⟨w.heap.size,0,none⟩) n n) n (List.replicate n z)) w'→wpList P ops Q rest (a.put o.dst (.slice (some ⟨w.heap.size,0,none⟩) n n)) w'):wpList P ops Q (o :: rest) a w :=
 wpList_plain hg fun _ hK'=>wp_make S hby l hop n hn hl hz fun w' h=>hK' _ _ (hK w' h)
theorem intsOk:SliceOk Tryz.prog 40 3 (.int .i64 0) 1 8:=⟨Tryz.underlying40,by kernel_rfl,rfl,by decide⟩
theorem rowsOk:SliceOk Tryz.prog 75 40 (.slice none 0 0) 1 24:=⟨Tryz.underlying75,by kernel_rfl,rfl,by decide⟩

def fv (n:Nat) (f:Nat→Value):List Value:=(List.range n).map f
theorem fv_len (n:Nat) (f:Nat→Value):(fv n f).length=n:=by simp [fv]
theorem fv_get {n:Nat} (f:Nat→Value) {i:Nat} (h:i < n):(fv n f)[i]?=some (f i):=by simp [fv,h]
def upv (f:Nat→Value) (k:Nat) (v:Value):Nat→Value:=fun i=>if i=k then v else f i
theorem fv_set (n:Nat) (f:Nat→Value) (k:Nat) (v:Value):(fv n f).set k v=fv n (upv f k v):=by
 refine List.ext_getElem? fun i=>?_
 by_cases h:i < n
 ·rw [fv_get _ h,List.getElem?_set]
  by_cases e:k=i
  ·subst e;simp [fv_len,h,upv]
  ·have:¬ i=k:=fun h=>e h.symm
   simp [e,upv,this,fv_get _ h]
 ·rw [List.getElem?_eq_none (by rw [List.length_set,fv_len];omega),List.getElem?_eq_none (by rw [fv_len];omega)]
theorem fv_congr {n:Nat} {f g:Nat→Value} (h:∀ i,i < n→f i=g i):fv n f=fv n g:=List.map_congr_left fun i hi=>h i (List.mem_range.1 hi)
theorem fv_const (n:Nat) (v:Value):List.replicate n v=fv n (fun _=>v):=by simp [fv,List.map_const']

def NumO (g n:Nat) (f:Nat→Int):CH.Own:=RowO 3 1 (.slice (some ⟨g,0,none⟩) n n) n (fv n fun i=>.int .i64 (f i))
theorem num_ok {g n:Nat} {f:Nat→Int}:(NumO g n f).Ok:=row_ok
theorem num_set {w:World} {F:Nat→Prop} {g n:Nat} {f:Nat→Int} (h:NumO g n f w F) {k:Nat} (hk:k < n) (b:Int) {T:Nat→Int} (hT:∀ i,i < n→T i=if i=k then b else f i):Post w F (NumO g n T) (w.setCell ⟨g,k,none⟩ (.int .i64 b)):=by
 have:=row_set h (i:=k) (by omega) (.int .i64 b)
 rw [fv_set] at this
 unfold NumO
 rw [fv_congr (f:=fun i=>.int .i64 (T i)) (g:=upv (fun i=>.int .i64 (f i)) k (.int .i64 b)) (fun i hi=>by unfold upv;simp only [hT i hi];split <;> rfl)]
 exact this
theorem num_at {w:World} {F:Nat→Prop} {g n:Nat} {f:Nat→Int} (h:NumO g n f w F) {k:Nat} (hk:k < n):w.cell? ⟨g,k,none⟩=some (.int .i64 (f k)):=row_cell h (fv_get _ hk)
theorem num_free {w:World} {F:Nat→Prop} {g n:Nat} {f:Nat→Int} (h:NumO g n f w F) (k:Nat) (hn:0 < n):w.frozen? ⟨g,k,none⟩=false:=row_free h k hn
end Go.Proofs.YtbnnlpjpnihheaaGreatDoor.Asn
namespace Go.Proofs.YtbnnlpjpnihheaaGreatDoor.Asn
open Go.RowKit Go.CH Go.CH.Asg
open Go.ChangeMaps (setBlock)

structure Prq (w:World) (A B G:Option Addr) (c:Nat→Nat→Int) (d e:Nat→Int) (n m:Nat):Prop where
 n7:n≤7
 m6:m≤6
 db:∀ i,i < n→0≤d i∧d i≤10000
 eb:∀ j,j < m→0≤e j∧e j≤10000
 cb:∀ i,i < n→∀ j,j < m→0≤c i j∧c i j≤100000
 ds:Src w B n 1 (fv n fun i=>.int .i64 (d i))
 es:Src w G m 1 (fv m fun j=>.int .i64 (e j))
 rows:∃ RV:List Value,Src w A n 1 RV∧∀ i,i < n→∃ R cp,RV[i]?=some (.slice R m cp) ∧
   ∀ j,j < m→∃ b' o',R=some ⟨b',o',none⟩∧∀ w',Below w.heap.size w w'→w'.cell? ⟨b',o'+j,none⟩=some (.int .i64 (c i j))
section
variable {w w':World} {A B G:Option Addr} {c:Nat→Nat→Int} {d e:Nat→Int} {n m:Nat}
theorem src_open {xs:List Value} (h:Src w B n 1 xs) {i:Nat} (hi:i < n) {v:Value} (hv:xs[i]?=some v):∃ b o,B=some ⟨b,o,none⟩∧∀ w',Below w.heap.size w w'→w'.cell? ⟨b,o+i,none⟩=some v:=by
 obtain ⟨b,o,rfl,hc⟩:=Src.open_ h (by omega) (by omega)
 refine ⟨b,o,rfl,fun w' hb=>?_⟩
 have h1:=hc i v hv
 rw [hb.cell (World.block_lt_of_cell? _ _ h1)];exact h1
theorem Prq.D (h:Prq w A B G c d e n m) (i:Nat) (hi:i < n):∃ b o,B=some ⟨b,o,none⟩∧∀ w',Below w.heap.size w w'→w'.cell? ⟨b,o+i,none⟩=some (.int .i64 (d i)):=src_open h.ds hi (fv_get _ hi)
theorem Prq.E (h:Prq w A B G c d e n m) (j:Nat) (hj:j < m):∃ b o,G=some ⟨b,o,none⟩∧∀ w',Below w.heap.size w w'→w'.cell? ⟨b,o+j,none⟩=some (.int .i64 (e j)):=src_open h.es hj (fv_get _ hj)
theorem Prq.R (h:Prq w A B G c d e n m) (i:Nat) (hi:i < n):∃ b o R cp,A=some ⟨b,o,none⟩∧(∀ w',Below w.heap.size w w'→w'.cell? ⟨b,o+i,none⟩=some (.slice R m cp)) ∧
   ∀ j,j < m→∃ b' o',R=some ⟨b',o',none⟩∧∀ w',Below w.heap.size w w'→w'.cell? ⟨b',o'+j,none⟩=some (.int .i64 (c i j)):=by
 obtain ⟨RV,h1,h2⟩:=h.rows
 obtain ⟨R,cp,h3,h4⟩:=h2 i hi
 obtain ⟨b,o,h5,h6⟩:=src_open h1 hi h3
 exact ⟨b,o,R,cp,h5,h6,h4⟩
theorem ints_fv (l:List Int):ints l=fv l.length (fun i=>.int .i64 (lF l i)):=by
 refine List.ext_getElem? fun i=>?_
 by_cases h:i < l.length
 ·rw [ints_get h,fv_get _ h,lF_at h]
 ·rw [List.getElem?_eq_none (by rw [ints_len];omega),List.getElem?_eq_none (by rw [fv_len];omega)]
theorem Prb.q {C:List (List Int)} {D E:List Int} (h:Prb w A B G C D E n m):Prq w A B G (cF C) (lF D) (lF E) n m where
 n7:=by have:=h.n6;omega
 m6:=h.m6
 db:=fun i hi=>h.v.d i (by have:=h.hd;omega)
 eb:=fun i hi=>h.v.e i (by have:=h.hm;omega)
 cb:=fun i hi j hj=>h.v.c i (by have:=h.hd;omega) j (by have:=h.hm;omega)
 ds:=by have:=h.vd;unfold Vec at this;rw [ints_fv,h.hd] at this;exact this
 es:=by have:=h.ve;unfold Vec at this;rw [ints_fv,h.hm] at this;exact this
 rows:=by
  obtain ⟨V,hV⟩:=h.mat
  have hs:=hV.src
  rw [h.hn] at hs
  refine ⟨_,hs,fun i hi=>?_⟩
  have hi':i < C.length:=by have:=h.hn;omega
  have hv:V[i]?=some (V[i]'(by rw [hV.len];exact hi')):=List.getElem?_eq_getElem _
  obtain ⟨h1,h2⟩:=hV.row i hi' _ hv
  have hm:C[i].length=m:=by rw [h.v.row i hi'];exact h.hm
  refine ⟨(V[i]'(by rw [hV.len];exact hi')).1,(V[i]'(by rw [hV.len];exact hi')).2,?_,fun j hj=>?_⟩
  ·rw [List.getElem?_mapIdx,hv]
   simp [List.getD_eq_getElem?_getD,hi',hm]
  ·obtain ⟨b',o',g1,g2⟩:=h1.atF (by omega)
   exact ⟨b',o',g1,fun w' hb=>by rw [cF_at hi'];exact g2 w' hb j (by omega)⟩
theorem Prq.below (h:Prq w A B G c d e n m) (hb:Below w.heap.size w w'):Prq w' A B G c d e n m where
 n7:=h.n7
 m6:=h.m6
 db:=h.db
 eb:=h.eb
 cb:=h.cb
 ds:=src_below h.ds hb
 es:=src_below h.es hb
 rows:=by
  obtain ⟨RV,h1,h2⟩:=h.rows
  refine ⟨RV,src_below h1 hb,fun i hi=>?_⟩
  obtain ⟨R,cp,h3,h4⟩:=h2 i hi
  exact ⟨R,cp,h3,fun j hj=>by obtain ⟨b',o',g1,g2⟩:=h4 j hj;exact ⟨b',o',g1,fun w2 g=>g2 w2 (bel_trans hb g)⟩⟩
end
theorem mnl_nn {U:Nat→Bool} {f:Nat→Int} {a:Int} {m:Nat} (ha:0≤a) (hf:∀ j,j < m→0≤f j):0≤mnl U f a m:=by
 rcases mnl_is (U:=U) (f:=f) (a:=a) (m:=m) with h | ⟨j,h1,_,h2⟩
 ·omega
 ·have:=hf j h1;omega
theorem L_bnd {w:World} {A B G:Option Addr} {c:Nat→Nat→Int} {d e:Nat→Int} {n m:Nat} (h:Prq w A B G c d e n m) {k:Nat} (hk:k≤n) (U:Nat→Bool):0≤L c d e n m k U∧L c d e n m k U≤(k:Int)*10000+60000:=by
 induction k generalizing U with
 | zero =>
  have:=sg_bnd (n:=m) (f:=fun j=>if U j then 0 else e j) (a:=0) (b:=10000) (fun i hi=>by have:=h.eb i hi;split <;> omega)
  have:=h.m6
  unfold L
  omega
 | succ k ih =>
  have h1:=mnl_init (U:=U) (f:=fun j=>c (n - (k+1)) j+L c d e n m k (ins U j)) (a:=d (n - (k+1))+L c d e n m k U) (m:=m)
  have h2:=ih (by omega) U
  have h3:=h.db (n - (k+1)) (by omega)
  have h4:=mnl_nn (U:=U) (f:=fun j=>c (n - (k+1)) j+L c d e n m k (ins U j)) (a:=d (n - (k+1))+L c d e n m k U) (m:=m) (by omega) (fun j hj=>by
   have:=ih (by omega) (ins U j);have:=h.cb (n - (k+1)) (by omega) j hj;omega)
  show 0≤mnl _ _ _ _∧mnl _ _ _ _≤_
  rw [Int.natCast_add,Int.add_mul]
  omega
section
variable {w0:World} {A B G:Option Addr} {c:Nat→Nat→Int} {d e:Nat→Int} {n m g:Nat} {X:CH.Own}
end
end Go.Proofs.YtbnnlpjpnihheaaGreatDoor.Asn
namespace Go.Proofs.YtbnnlpjpnihheaaGreatDoor.Asn
open Go.RowKit Go.CH Go.CH.Asg
open Go.ChangeMaps (setBlock)

def bt (s:Nat):Nat→Bool:=fun j=>s.testBit j
theorem bt_zero:bt 0=noU:=by funext j;simp [bt,noU]
theorem bt_or (s j:Nat):bt (s ||| 1 <<< j)=ins (bt s) j:=by
 funext x
 simp only [bt,ins,Nat.testBit_or,Nat.one_shiftLeft,Nat.testBit_two_pow]
 congr 1
 rw [Bool.eq_iff_iff];simp;omega
theorem i64_and1 (n:Nat) (hn:n < 1000):bits .and .i64 (n:Int) 1=((n % 2:Nat):Int):=by
 have h1:∀ n:Fin 1000,bits .and .i64 ((n.val:Nat):Int) 1=((n.val % 2:Nat):Int):=by decide +kernel
 exact h1 ⟨n,hn⟩
theorem i64_or (a b:Nat) (ha:a < 64) (hb:b < 64):bits .or .i64 (a:Int) (b:Int)=((a ||| b:Nat):Int):=by
 have h1:∀ n m:Fin 64,bits .or .i64 ((n.val:Nat):Int) ((m.val:Nat):Int)=((n.val ||| m.val:Nat):Int):=by decide +kernel
 exact h1 ⟨a,ha⟩ ⟨b,hb⟩
theorem bt_mod (s j:Nat):(s / 2 ^ j) % 2=if bt s j then 1 else 0:=by
 unfold bt
 rw [Nat.testBit_eq_decide_div_mod_eq]
 have:=Nat.mod_two_eq_zero_or_one (s / 2 ^ j)
 by_cases h:s / 2 ^ j % 2=1
 ·simp [h]
 ·simp [h];omega

theorem bit_of (s j:Nat) (hs:s < 128):∃ q:Nat,(s:Int) / 2 ^ j=q∧bits .and .i64 (q:Int) 1=if bt s j then 1 else 0:=by
 refine ⟨s / 2 ^ j,?_,?_⟩
 ·rw [Int.natCast_ediv,Int.natCast_pow];rfl
 ·rw [i64_and1 _ (Nat.lt_of_le_of_lt (Nat.div_le_self _ _) (by omega)),bt_mod]
  split <;> rfl

theorem or_of (s j:Nat) (hs:s < 64) (hj:j < 6):∃ p:Nat,wrap64 (2 ^ j)=p∧IntKind.i64.wrap (2 ^ j)=p∧bits .or .i64 (s:Int) (p:Int)=((s ||| 1 <<< j:Nat):Int):=by
 have h4:1 <<< j < 64:=by
  rw [Nat.one_shiftLeft]
  exact Nat.pow_lt_pow_right (by decide) hj (a:=2)
 have h3:(2:Int) ^ j=((1 <<< j:Nat):Int):=by rw [Nat.one_shiftLeft,Int.natCast_pow];rfl
 have h6:∀ q:Nat,q < 64→IntKind.i64.wrap (q:Int)=q:=fun q hq=>IntWalk.i64_in _ (by omega)
 refine ⟨1 <<< j,?_,?_,i64_or s _ hs h4⟩
 ·rw [←IntWalk.i64_left,h3];exact h6 _ h4
 ·rw [h3];exact h6 _ h4
theorem pow_of (m:Nat) (hm:m≤6):wrap64 (2 ^ m)=((1 <<< m:Nat):Int):=by
 have h4:1 <<< m≤64:=by
  rw [Nat.one_shiftLeft]
  exact Nat.pow_le_pow_right (by decide) hm (n:=2)
 have h3:(2:Int) ^ m=((1 <<< m:Nat):Int):=by rw [Nat.one_shiftLeft,Int.natCast_pow];rfl
 have h6:∀ q:Nat,q≤64→IntKind.i64.wrap (q:Int)=q:=fun q hq=>IntWalk.i64_in _ (by omega)
 rw [←IntWalk.i64_left,h3];exact h6 _ h4
end Go.Proofs.YtbnnlpjpnihheaaGreatDoor.Asn
