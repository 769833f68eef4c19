/- A part of the proof: lemmas. -/
import Derived.Test.YtbnnlpjpnihheaaGreatDoorME11
import Derived.Test.YtbnnlpjpnihheaaGreatDoorME2
import Derived.Test.YtbnnlpjpnihheaaGreatDoorProg
import Derived.Test.YtbnnlpjpnihheaaGreatDoorME1
import Derived.Test.YtbnnlpjpnihheaaGreatDoorME6
import Derived.Deep.QuietTactic
import Derived.BigQuiet
import Derived.Deep.DeepCutAuto
import Derived.IntWalk
set_option maxHeartbeats 16000000
set_option maxRecDepth 100000
set_option linter.unusedSimpArgs false
set_option linter.unusedVariables false
namespace Go.CH
open Go.RowKit
section
variable {P:Program} {ops:Array Oper} {Q:Exit→Act→World→Prop} {S:World→Prop}

def puts:Act→List Nat→List Value→Act
 | a,d :: ds,v :: vs=>puts (a.put (some d) v) ds vs
 | a,_,_=>a
theorem yK (d:Nat) (v:Value):∀ (ds:List Nat) (vs:List Value) (a:Act),d ∉ ds→(puts a ds vs).put (some d) v=puts (a.put (some d) v) ds vs
 | [],_,_,_=>by simp [puts]
 | _ :: _,[],_,_=>rfl
 | e :: ds,u :: vs,a,h=>by
  simp only [List.mem_cons,not_or] at h;simp only [puts];rw [yK d v ds vs _ h.2,Act.put_comm a v u (fun x hx=>by injection hx with hx;subst hx;exact fun g=>by injection g with g;exact h.1 g.symm)]
theorem qj (a:Act) (d:Nat) (v:Value):∀ (ds:List Nat) (vs:List Value),ds.length=vs.length→puts a (ds ++ [d]) (vs ++ [v])=(puts a ds vs).put (some d) v:=by
 intro ds
 induction ds generalizing a with
 | nil=>intro vs h;cases vs with | nil=>rfl | cons _ _=>simp at h
 | cons e ds ih =>
  intro vs h;cases vs with
  | nil=>simp at h
  | cons u vs=>simp only [List.cons_append,puts];exact ih _ _ (by simpa using h)
theorem jd (a:Act) (ds es:List Nat) (vs:List Value) (h:ds.length=vs.length):puts a (ds ++ es) vs=puts a ds vs:=by
 induction ds generalizing a vs with
 | nil=>cases vs with | nil=>cases es <;> rfl | cons _ _=>simp at h
 | cons e ds ih =>
  cases vs with
  | nil=>simp at h
  | cons u vs=>simp only [List.cons_append,puts];exact ih _ _ (by simpa using h)
theorem bQ (k:Nat):∀ (ds:List Nat) (vs:List Value) (a:Act),k ∉ ds→(puts a ds vs).eval (.tmp k)=a.eval (.tmp k)
 | [],_,_,_=>by simp [puts]
 | _ :: _,[],_,_=>rfl
 | e :: ds,u :: vs,a,h=>by
  simp only [List.mem_cons,not_or] at h;simp only [puts];rw [bQ k ds vs _ h.2,Act.eval_put (fun x hx=>by injection hx with hx;subst hx;exact fun g=>by injection g with g;exact h.1 g)]

def bS (ops:Array Oper) (X:List Nat):List Nat:=X.map fun i=>((ops[i]?.bind (·.dst))).getD 0
def zn (l0:Array Bool) (X Y:List Nat) (s t:Nat):Array Bool:=(X.take s ++ Y.take t).foldl (fun l i=>l.setIfInBounds i true) l0

def II (ops:Array Oper) (l0:Array Bool) (X Y:List Nat):Bool :=
 ((List.range (X.length+1)).all fun s=>(List.range (Y.length+1)).all fun t =>
  ((s == X.length && t == Y.length) || (!(Region.ready .any ops (zn l0 X Y s t)).isEmpty)) &&
  (((s == X.length && t == Y.length)) || (Region.ready .any ops (zn l0 X Y s t)).all (fun i=>(X[s]? == some i) || (Y[t]? == some i))) &&
  (match X[s]? with | some i=>(zn l0 X Y s t).setIfInBounds i true == zn l0 X Y (s+1) t | none=>true) &&
  (match Y[t]? with | some i=>(zn l0 X Y s t).setIfInBounds i true == zn l0 X Y s (t+1) | none=>true)) &&
 (X ++ Y).all (fun i=>match ops[i]? with | some o=>o.guard.isNone && o.dst.isSome | none=>false) &&
 decide ((bS ops X ++ bS ops Y).Nodup)
theorem ql {α β:Type} (f:α→β) (X:List α) {k:Nat} (h:k < X.length):X.map f=(X.take k).map f ++ (f X[k] :: (X.drop (k+1)).map f):=by
 have e:=congrArg (List.map f) (List.take_append_drop k X);rw [List.map_append,List.drop_eq_getElem_cons h,List.map_cons] at e;exact e.symm
theorem Gu {F0:Nat→Prop} {w0:World} {l0:Array Bool} {a0:Act} {R:Own} (X Y:List Nat) (PX PY:List Value→Own) (fuel:Nat) (hok:II ops l0 X Y=true)
  (oX:∀ vs,(PX vs).Ok) (oY:∀ vs,(PY vs).Ok) (oR:R.Ok) (hS:∀ (O:Own) W,Run F0 w0 O W→S W)
  (hX:∀ i o vs us,X[vs.length]?=some i→ops[i]?=some o→us.length≤Y.length→∀ (Z:Own) W,Z.Ok→Run F0 w0 (star (PX vs) Z) W →
   o.wp P (puts (puts a0 (bS ops X) vs) (bS ops Y) us) W (fun a' w'=>∃ v,a'=(puts (puts a0 (bS ops X) vs) (bS ops Y) us).put o.dst v∧Run F0 w0 (star (PX (vs ++ [v])) Z) w') Q)
  (hY:∀ i o vs us,Y[us.length]?=some i→ops[i]?=some o→vs.length≤X.length→∀ (Z:Own) W,Z.Ok→Run F0 w0 (star (PY us) Z) W →
   o.wp P (puts (puts a0 (bS ops X) vs) (bS ops Y) us) W (fun a' w'=>∃ v,a'=(puts (puts a0 (bS ops X) vs) (bS ops Y) us).put o.dst v∧Run F0 w0 (star (PY (us ++ [v])) Z) w') Q)
  (hend:∀ vs us W,vs.length=X.length→us.length=Y.length→Run F0 w0 (star (PX vs) (star (PY us) R)) W→wpAnyH P .any ops Q S fuel (zn l0 X Y X.length Y.length) (puts (puts a0 (bS ops X) vs) (bS ops Y) us) W)
  {W:World} (h0:Run F0 w0 (star (PX []) (star (PY []) R)) W):wpAnyH P .any ops Q S (fuel+(X.length+Y.length)) l0 a0 W:=by
 simp only [II,Bool.and_eq_true,decide_eq_true_eq] at hok;obtain ⟨⟨hst,hgd⟩,hnd⟩:=hok;have key:∀ (N:Nat) (vs us:List Value) (W:World),vs.length≤X.length→us.length≤Y.length→N=(X.length - vs.length)+(Y.length - us.length)→Run F0 w0 (star (PX vs) (star (PY us) R)) W →
   wpAnyH P .any ops Q S (fuel+N) (zn l0 X Y vs.length us.length) (puts (puts a0 (bS ops X) vs) (bS ops Y) us) W:=by
  intro N
  induction N with
  | zero =>
   intro vs us W hv hu hN hR;have h1:vs.length=X.length:=by omega
   have h2:us.length=Y.length:=by omega
   rw [h1,h2];exact hend vs us W h1 h2 hR
  | succ N ih =>
   intro vs us W hv hu hN hR;have hc:=hst;rw [List.all_eq_true] at hc;have hc1:=hc vs.length (List.mem_range.2 (by omega));rw [List.all_eq_true] at hc1;have hc2:=hc1 us.length (List.mem_range.2 (by omega));simp only [Bool.and_eq_true] at hc2;obtain ⟨⟨⟨c1,c2⟩,c3⟩,c4⟩:=hc2;have hne:(vs.length == X.length && us.length == Y.length)=false:=by
    cases hb:(vs.length == X.length && us.length == Y.length) with
    | false=>rfl
    | true=>simp only [Bool.and_eq_true,beq_iff_eq] at hb;omega
   rw [hne,Bool.false_or] at c1 c2;have hdl:∀ (Z:List Nat) i,i ∈ Z→(∀ j ∈ Z,j ∈ X ++ Y)→∃ o d,ops[i]?=some o∧o.guard=none∧o.dst=some d∧((ops[i]?.bind (·.dst))).getD 0=d:=by
    intro Z i hi hZ;rw [List.all_eq_true] at hgd;have:=hgd i (hZ i hi);cases ho:ops[i]? with
    | none=>rw [ho] at this;cases this
    | some o =>
     rw [ho] at this;simp only [Bool.and_eq_true,Option.isNone_iff_eq_none,Option.isSome_iff_exists] at this;obtain ⟨g1,d,g2⟩:=this;exact ⟨o,d,rfl,g1,g2,by simp [g2]⟩
   refine ⟨fun h=>by rw [h] at c1;simp at c1,fun i hi=>?_⟩;rw [List.all_eq_true] at c2;have hi2:=c2 i hi;simp only [Bool.or_eq_true,beq_iff_eq] at hi2;have hdup:=List.nodup_append.1 hnd;rcases hi2 with hi2 | hi2
   ·-- the next of X
    have hil:vs.length < X.length:=(List.getElem?_eq_some_iff.1 hi2).1;obtain ⟨o,d,ho,hg,hd,hdd⟩:=hdl X i (List.mem_of_getElem? hi2) (fun j hj=>List.mem_append_left _ hj);refine aO ho hg (Oper.wp_mono ?_ (hX i o vs us hi2 ho hu (star (PY us) R) W (aj (oY us) oR) hR));rintro a' w' ⟨v,rfl,hR'⟩;refine ⟨hS _ _ hR',?_⟩;rw [hi2] at c3;simp only [beq_iff_eq] at c3;have h3:=ih (vs ++ [v]) us w' (by simp;omega) hu (by simp;omega) hR';rw [List.length_append,List.length_singleton,←c3] at h3;have e1:puts a0 (bS ops X) (vs ++ [v])=(puts a0 (bS ops X) vs).put (some d) v:=by
     have hsp:bS ops X=bS ops (X.take vs.length) ++ (d :: bS ops (X.drop (vs.length+1))):=by
      have hXe:X[vs.length]=i:=(List.getElem?_eq_some_iff.1 hi2).2;have e9:=ql (fun i=>((ops[i]?.bind (·.dst))).getD 0) X hil;simp only [hXe,hdd] at e9;exact e9
     have hl:(bS ops (X.take vs.length)).length=vs.length:=by unfold bS;simp;omega
     rw [hsp];rw [show bS ops (X.take vs.length) ++ (d :: bS ops (X.drop (vs.length+1)))=(bS ops (X.take vs.length) ++ [d]) ++ bS ops (X.drop (vs.length+1)) by simp];rw [jd _ _ _ (vs ++ [v]) (by simp [hl]),qj _ _ _ _ _ hl,List.append_assoc,jd _ _ _ vs hl]
    have hnm:d ∉ bS ops Y:=by
     intro hm;refine hdup.2.2 d ?_ d hm rfl;unfold bS;exact List.mem_map.2 ⟨i,List.mem_of_getElem? hi2,hdd⟩
    rw [hd,yK d v _ us _ hnm,←e1];exact h3
   ·have hil:us.length < Y.length:=(List.getElem?_eq_some_iff.1 hi2).1;obtain ⟨o,d,ho,hg,hd,hdd⟩:=hdl Y i (List.mem_of_getElem? hi2) (fun j hj=>List.mem_append_right _ hj);have hR2:Run F0 w0 (star (PY us) (star (PX vs) R)) W:=hR.mh;refine aO ho hg (Oper.wp_mono ?_ (hY i o vs us hi2 ho hv (star (PX vs) R) W (aj (oX vs) oR) hR2));rintro a' w' ⟨v,rfl,hR'⟩;refine ⟨hS _ _ hR',?_⟩;rw [hi2] at c4;simp only [beq_iff_eq] at c4;have h3:=ih vs (us ++ [v]) w' hv (by simp;omega) (by simp;omega) hR'.mh;rw [List.length_append,List.length_singleton,←c4] at h3;have e1:∀ b:Act,puts b (bS ops Y) (us ++ [v])=(puts b (bS ops Y) us).put (some d) v:=by
     intro b;have hsp:bS ops Y=bS ops (Y.take us.length) ++ (d :: bS ops (Y.drop (us.length+1))):=by
      have hXe:Y[us.length]=i:=(List.getElem?_eq_some_iff.1 hi2).2;have e9:=ql (fun i=>((ops[i]?.bind (·.dst))).getD 0) Y hil;simp only [hXe,hdd] at e9;exact e9
     have hl:(bS ops (Y.take us.length)).length=us.length:=by unfold bS;simp;omega
     rw [hsp];rw [show bS ops (Y.take us.length) ++ (d :: bS ops (Y.drop (us.length+1)))=(bS ops (Y.take us.length) ++ [d]) ++ bS ops (Y.drop (us.length+1)) by simp];rw [jd _ _ _ (us ++ [v]) (by simp [hl]),qj _ _ _ _ _ hl,List.append_assoc,jd _ _ _ us hl]
    rw [hd,←e1];exact h3
 have h1:=key (X.length+Y.length) [] [] W (Nat.zero_le _) (Nat.zero_le _) (by simp) h0;have e:∀ (b:Act) (ds:List Nat),puts b ds []=b:=fun b ds=>by cases ds <;> rfl
 rw [e,e] at h1;exact h1
end
end Go.CH
namespace Go.CH
open Go.RowKit
section
variable {P:Program} {ops:Array Oper} {Q:Exit→Act→World→Prop} {S:World→Prop} {s:Nat}

def gY (P:Program) (ops:Array Oper) (Q:Exit→Act→World→Prop) (S:World→Prop) (s:Nat):Nat→Array Bool→Act→World→Prop
 | 0,listed,a,w=>Region.ready .any ops listed=[]∧Q .normal a w
 | fuel+1,listed,a,w=>(Region.ready .any ops listed=[]→Q .normal a w) ∧
  ∀ i ∈ Region.ready .any ops listed,wpOp P ops Q i (fun a' w'=>((listed.setIfInBounds i true).getD s true=false→S w')∧gY P ops Q S s fuel (listed.setIfInBounds i true) a' w') a w
theorem xY:∀ (fuel:Nat) (listed:Array Bool) (a:Act) (w:World),gY P ops Q S s fuel listed a w→wpAny P .any ops Q fuel listed a w
 | 0,_,_,_,h=>h
 | fuel+1,_,_,_,h=>⟨h.1,fun i hi=>wpOp_mono (fun a' w' h'=>xY fuel _ a' w' h'.2) (h.2 i hi)⟩

def waits (ops:Array Oper) (s i:Nat):Bool:=match ops[s]? with | some o=>o.after.any fun e=>Region.binds .any e && e.on == i | none=>false
theorem JZ {i:Nat} {listed:Array Bool} (h:waits ops s i=true) (hi:i ∈ Region.ready .any ops listed):s ∉ Region.ready .any ops listed:=by
 intro hs;obtain ⟨-,o,ho,hall⟩:=mem_ready.1 hs;unfold waits at h;rw [ho] at h;simp only [Array.any_eq_true,Bool.and_eq_true,beq_iff_eq] at h;obtain ⟨k,hk,h1,h2⟩:=h;have h3:=hall _ (Array.getElem_mem hk) h1;have h0:=(mem_ready.1 hi).1;rw [h2] at h3;rcases Nat.lt_or_ge i listed.size with h' | h'
 ·simp [h'] at h0 h3;rw [h0] at h3;cases h3
 ·simp [Array.getElem?_eq_none h'] at h3
theorem sM {i j:Nat} {listed:Array Bool} (h:i≠j) (h0:listed.getD j true=false):(listed.setIfInBounds i true).getD j true=false:=by
 rw [getD_set_ne true h];exact h0
theorem Bq {i:Nat} {oi:Oper} {v:Value} (hi:ops[i]?=some oi) (hsel:∀ (j:Nat) (o:Oper) cs b,ops[j]?=some o→o.op≠.select cs b) (hQ:∀ c a w,Q (.panic c) (a.put oi.dst v) w→Q (.panic c) a w) (hw:waits ops s i=true) (his:i≠s) :
  ∀ (fuel:Nat) (listed:Array Bool) (a:Act) (w:World),
   (∀ j oj,ops[j]?=some oj→j≠i→listed.getD j true=false→(∀ e ∈ oj.after,Region.binds .any e=true→e.on≠i)→oi.apart ops oj=true) →
   i ∈ Region.ready .any ops listed→listed.getD s true=false→YieldsIf P ops S oi v a→S w→gY P ops Q S s fuel (listed.setIfInBounds i true) (a.put oi.dst v) w→gY P ops Q S s (fuel+1) listed a w:=by
 intro fuel
 induction fuel with
 | zero =>
  intro listed a w _ hr hls hy hS H;refine ⟨fun h=>(by rw [h] at hr;cases hr),fun j hj=>?_⟩;by_cases hji:j=i
  ·subst hji;exact hy.wpOp hi hS ⟨fun _=>hS,H⟩
  ·have:=ready_mono hj hji;rw [H.1] at this;cases this
 | succ fuel ih =>
  intro listed a w hfree hr hls hy hS H;refine ⟨fun h=>(by rw [h] at hr;cases hr),fun j hj=>?_⟩;by_cases hji:j=i
  ·subst hji;exact hy.wpOp hi hS ⟨fun _=>hS,H⟩
  ·have hjs:j≠s:=fun e=>JZ hw hr (e ▸ hj);have h1:=H.2 j (ready_mono hj hji);obtain ⟨hjun,oj,hoj,hall⟩:=mem_ready.1 hj;have hnot:∀ e ∈ oj.after,Region.binds .any e=true→e.on≠i:=fun e he hb heq=>by
    have h1:=hall e he hb;have h0:=(mem_ready.1 hr).1;rw [heq] at h1;rcases Nat.lt_or_ge i listed.size with h' | h'
    ·simp [h'] at h0 h1;rw [h0] at h1;cases h1
    ·simp [Array.getElem?_eq_none h'] at h1
   have h2:=wpOp_putIf hoj (hfree j oj hoj hji hjun hnot) (fun cs b=>hsel i oi cs b hi) (fun cs b=>hsel j oj cs b hoj) hQ hy h1;have hfree':∀ k ok,ops[k]?=some ok→k≠i→(listed.setIfInBounds j true).getD k true=false →
     (∀ e ∈ ok.after,Region.binds .any e=true→e.on≠i)→oi.apart ops ok=true:=fun k ok hk hki hun hno=>by
    refine hfree k ok hk hki ?_ hno;by_cases hjk:j=k
    ·subst hjk;exact hjun
    ·rw [getD_set_ne true hjk] at hun;exact hun
   refine wpOp_mono (fun a' w' h3=>?_) h2;have hS':S w':=h3.2.1 (sM hjs (sM his hls));refine ⟨fun _=>hS',ih (listed.setIfInBounds j true) a' w' hfree' (ready_mono hr (Ne.symm hji)) (sM hjs hls) h3.1 hS' ?_⟩;rw [Array.setIfInBounds_comm _ _ hji];exact h3.2.2
theorem oH {i:Nat} {oi:Oper} {v:Value} {fuel:Nat} {listed:Array Bool} {a:Act} {w:World} (hi:ops[i]?=some oi) (hs:Region.noSelect ops=true) (hf:Region.free .any ops listed i=true) (hr:(Region.ready .any ops listed).contains i=true)
  (hw:(waits ops s i && (i != s && !(listed.getD s true)))=true) (hQ:∀ c a w,Q (.panic c) (a.put oi.dst v) w→Q (.panic c) a w) (hy:YieldsIf P ops S oi v a) (hS:S w)
  (h:gY P ops Q S s fuel (listed.setIfInBounds i true) (a.put oi.dst v) w):gY P ops Q S s (fuel+1) listed a w:=by
 simp only [Bool.and_eq_true,bne_iff_ne,ne_eq,Bool.not_eq_true'] at hw;exact Bq hi (Region.noSelect_spec hs) hQ hw.1 hw.2.1 fuel listed a w (Region.free_spec hi hf) (by simpa using hr) hw.2.2 hy hS h
theorem zi {i:Nat} {oi:Oper} {v:Value} (hi:ops[i]?=some oi) (hsel:∀ (j:Nat) (o:Oper) cs b,ops[j]?=some o→o.op≠.select cs b) (hQ:∀ c a w,Q (.panic c) (a.put oi.dst v) w→Q (.panic c) a w) (his:i≠s) :
  ∀ (fuel:Nat) (listed:Array Bool) (a:Act) (w:World),
   (∀ j oj,ops[j]?=some oj→j≠i→listed.getD j true=false→(∀ e ∈ oj.after,Region.binds .any e=true→e.on≠i)→oi.apart ops oj=true) →
   i ∈ Region.ready .any ops listed→YieldsIf P ops (fun _=>True) oi v a→(listed.getD s true=false→S w)→gY P ops Q S s fuel (listed.setIfInBounds i true) (a.put oi.dst v) w→gY P ops Q S s (fuel+1) listed a w:=by
 intro fuel
 induction fuel with
 | zero =>
  intro listed a w _ hr hy hS H;refine ⟨fun h=>(by rw [h] at hr;cases hr),fun j hj=>?_⟩;by_cases hji:j=i
  ·subst hji;exact hy.wpOp hi trivial ⟨fun h=>hS (by rw [getD_set_ne true his] at h;exact h),H⟩
  ·have:=ready_mono hj hji;rw [H.1] at this;cases this
 | succ fuel ih =>
  intro listed a w hfree hr hy hS H;refine ⟨fun h=>(by rw [h] at hr;cases hr),fun j hj=>?_⟩;by_cases hji:j=i
  ·subst hji;exact hy.wpOp hi trivial ⟨fun h=>hS (by rw [getD_set_ne true his] at h;exact h),H⟩
  ·have h1:=H.2 j (ready_mono hj hji);obtain ⟨hjun,oj,hoj,hall⟩:=mem_ready.1 hj;have hnot:∀ e ∈ oj.after,Region.binds .any e=true→e.on≠i:=fun e he hb heq=>by
    have h1:=hall e he hb;have h0:=(mem_ready.1 hr).1;rw [heq] at h1;rcases Nat.lt_or_ge i listed.size with h' | h'
    ·simp [h'] at h0 h1;rw [h0] at h1;cases h1
    ·simp [Array.getElem?_eq_none h'] at h1
   have h2:=wpOp_putIf hoj (hfree j oj hoj hji hjun hnot) (fun cs b=>hsel i oi cs b hi) (fun cs b=>hsel j oj cs b hoj) hQ hy h1;have hfree':∀ k ok,ops[k]?=some ok→k≠i→(listed.setIfInBounds j true).getD k true=false →
     (∀ e ∈ ok.after,Region.binds .any e=true→e.on≠i)→oi.apart ops ok=true:=fun k ok hk hki hun hno=>by
    refine hfree k ok hk hki ?_ hno;by_cases hjk:j=k
    ·subst hjk;exact hjun
    ·rw [getD_set_ne true hjk] at hun;exact hun
   refine wpOp_mono (fun a' w' h3=>?_) h2;have hS':(listed.setIfInBounds j true).getD s true=false→S w':=fun h=>h3.2.1 (by rw [Array.setIfInBounds_comm _ _ (Ne.symm hji)];exact sM his h);refine ⟨hS',ih (listed.setIfInBounds j true) a' w' hfree' (ready_mono hr (Ne.symm hji)) h3.1 hS' ?_⟩;rw [Array.setIfInBounds_comm _ _ hji];exact h3.2.2
theorem mW {i:Nat} {oi:Oper} {v:Value} {fuel:Nat} {listed:Array Bool} {a:Act} {w:World} (hi:ops[i]?=some oi) (hs:Region.noSelect ops=true) (hf:Region.free .any ops listed i=true) (hr:(Region.ready .any ops listed).contains i=true)
  (hw:(i != s)=true) (hQ:∀ c a w,Q (.panic c) (a.put oi.dst v) w→Q (.panic c) a w) (hy:YieldsIf P ops (fun _=>True) oi v a) (hS:listed.getD s true=false→S w)
  (h:gY P ops Q S s fuel (listed.setIfInBounds i true) (a.put oi.dst v) w):gY P ops Q S s (fuel+1) listed a w:=by
 simp only [bne_iff_ne,ne_eq] at hw;exact zi hi (Region.noSelect_spec hs) hQ hw fuel listed a w (Region.free_spec hi hf) (by simpa using hr) hy hS h
theorem rE {rs:List Nat} {fuel:Nat} {listed:Array Bool} {a:Act} {w:World} (hr:Region.ready .any ops listed=rs) (hne:rs≠[])
  (h:∀ i ∈ rs,wpOp P ops Q i (fun a' w'=>((listed.setIfInBounds i true).getD s true=false→S w')∧gY P ops Q S s fuel (listed.setIfInBounds i true) a' w') a w):gY P ops Q S s (fuel+1) listed a w :=
 ⟨fun h0=>absurd (hr ▸ h0) hne,hr ▸ h⟩
theorem Dm {listed:Array Bool} {a:Act} {w:World} (hr:Region.ready .any ops listed=[]) (h:Q .normal a w):∀ fuel,gY P ops Q S s fuel listed a w
 | 0=>⟨hr,h⟩
 | _+1=>⟨fun _=>h,by rw [hr];simp⟩
theorem Dn {id:Nat} {a:Act} {w:World} (s:Nat) (S:World→Prop) (hm:P.follows .mixedOrders=true) (h:gY P ops Q S s ops.size (Array.replicate ops.size false) a w.drew):(Code.region id ops true).wp P Q a w :=
 wp_region_any hm (xY _ _ _ _ h)
end
end Go.CH
namespace Go.CH
open Go.RowKit
section
variable {P:Program} {ops:Array Oper} {Q:Exit→Act→World→Prop} {S:World→Prop} {s:Nat}
theorem Ee {F0:Nat→Prop} {w0:World} {l0:Array Bool} {a0:Act} {R:Own} (X Y:List Nat) (PX PY:List Value→Own) (fuel:Nat) (hok:II ops l0 X Y=true)
  (oX:∀ vs,(PX vs).Ok) (oY:∀ vs,(PY vs).Ok) (oR:R.Ok) (hS:∀ (O:Own) W,Run F0 w0 O W→S W)
  (hX:∀ i o vs us,X[vs.length]?=some i→ops[i]?=some o→us.length≤Y.length→∀ (Z:Own) W,Z.Ok→Run F0 w0 (star (PX vs) Z) W →
   o.wp P (puts (puts a0 (bS ops X) vs) (bS ops Y) us) W (fun a' w'=>∃ v,a'=(puts (puts a0 (bS ops X) vs) (bS ops Y) us).put o.dst v∧Run F0 w0 (star (PX (vs ++ [v])) Z) w') Q)
  (hY:∀ i o vs us,Y[us.length]?=some i→ops[i]?=some o→vs.length≤X.length→∀ (Z:Own) W,Z.Ok→Run F0 w0 (star (PY us) Z) W →
   o.wp P (puts (puts a0 (bS ops X) vs) (bS ops Y) us) W (fun a' w'=>∃ v,a'=(puts (puts a0 (bS ops X) vs) (bS ops Y) us).put o.dst v∧Run F0 w0 (star (PY (us ++ [v])) Z) w') Q)
  (hend:∀ vs us W,vs.length=X.length→us.length=Y.length→Run F0 w0 (star (PX vs) (star (PY us) R)) W→gY P ops Q S s fuel (zn l0 X Y X.length Y.length) (puts (puts a0 (bS ops X) vs) (bS ops Y) us) W)
  {W:World} (h0:Run F0 w0 (star (PX []) (star (PY []) R)) W):gY P ops Q S s (fuel+(X.length+Y.length)) l0 a0 W:=by
 simp only [II,Bool.and_eq_true,decide_eq_true_eq] at hok;obtain ⟨⟨hst,hgd⟩,hnd⟩:=hok;have key:∀ (N:Nat) (vs us:List Value) (W:World),vs.length≤X.length→us.length≤Y.length→N=(X.length - vs.length)+(Y.length - us.length)→Run F0 w0 (star (PX vs) (star (PY us) R)) W →
   gY P ops Q S s (fuel+N) (zn l0 X Y vs.length us.length) (puts (puts a0 (bS ops X) vs) (bS ops Y) us) W:=by
  intro N
  induction N with
  | zero =>
   intro vs us W hv hu hN hR;have h1:vs.length=X.length:=by omega
   have h2:us.length=Y.length:=by omega
   rw [h1,h2];exact hend vs us W h1 h2 hR
  | succ N ih =>
   intro vs us W hv hu hN hR;have hc:=hst;rw [List.all_eq_true] at hc;have hc1:=hc vs.length (List.mem_range.2 (by omega));rw [List.all_eq_true] at hc1;have hc2:=hc1 us.length (List.mem_range.2 (by omega));simp only [Bool.and_eq_true] at hc2;obtain ⟨⟨⟨c1,c2⟩,c3⟩,c4⟩:=hc2;have hne:(vs.length == X.length && us.length == Y.length)=false:=by
    cases hb:(vs.length == X.length && us.length == Y.length) with
    | false=>rfl
    | true=>simp only [Bool.and_eq_true,beq_iff_eq] at hb;omega
   rw [hne,Bool.false_or] at c1 c2;have hdl:∀ (Z:List Nat) i,i ∈ Z→(∀ j ∈ Z,j ∈ X ++ Y)→∃ o d,ops[i]?=some o∧o.guard=none∧o.dst=some d∧((ops[i]?.bind (·.dst))).getD 0=d:=by
    intro Z i hi hZ;rw [List.all_eq_true] at hgd;have:=hgd i (hZ i hi);cases ho:ops[i]? with
    | none=>rw [ho] at this;cases this
    | some o =>
     rw [ho] at this;simp only [Bool.and_eq_true,Option.isNone_iff_eq_none,Option.isSome_iff_exists] at this;obtain ⟨g1,d,g2⟩:=this;exact ⟨o,d,rfl,g1,g2,by simp [g2]⟩
   refine ⟨fun h=>by rw [h] at c1;simp at c1,fun i hi=>?_⟩;rw [List.all_eq_true] at c2;have hi2:=c2 i hi;simp only [Bool.or_eq_true,beq_iff_eq] at hi2;have hdup:=List.nodup_append.1 hnd;rcases hi2 with hi2 | hi2
   ·-- the next of X
    have hil:vs.length < X.length:=(List.getElem?_eq_some_iff.1 hi2).1;obtain ⟨o,d,ho,hg,hd,hdd⟩:=hdl X i (List.mem_of_getElem? hi2) (fun j hj=>List.mem_append_left _ hj);refine aO ho hg (Oper.wp_mono ?_ (hX i o vs us hi2 ho hu (star (PY us) R) W (aj (oY us) oR) hR));rintro a' w' ⟨v,rfl,hR'⟩;refine ⟨fun _=>hS _ _ hR',?_⟩;rw [hi2] at c3;simp only [beq_iff_eq] at c3;have h3:=ih (vs ++ [v]) us w' (by simp;omega) hu (by simp;omega) hR';rw [List.length_append,List.length_singleton,←c3] at h3;have e1:puts a0 (bS ops X) (vs ++ [v])=(puts a0 (bS ops X) vs).put (some d) v:=by
     have hsp:bS ops X=bS ops (X.take vs.length) ++ (d :: bS ops (X.drop (vs.length+1))):=by
      have hXe:X[vs.length]=i:=(List.getElem?_eq_some_iff.1 hi2).2;have e9:=ql (fun i=>((ops[i]?.bind (·.dst))).getD 0) X hil;simp only [hXe,hdd] at e9;exact e9
     have hl:(bS ops (X.take vs.length)).length=vs.length:=by unfold bS;simp;omega
     rw [hsp];rw [show bS ops (X.take vs.length) ++ (d :: bS ops (X.drop (vs.length+1)))=(bS ops (X.take vs.length) ++ [d]) ++ bS ops (X.drop (vs.length+1)) by simp];rw [jd _ _ _ (vs ++ [v]) (by simp [hl]),qj _ _ _ _ _ hl,List.append_assoc,jd _ _ _ vs hl]
    have hnm:d ∉ bS ops Y:=by
     intro hm;refine hdup.2.2 d ?_ d hm rfl;unfold bS;exact List.mem_map.2 ⟨i,List.mem_of_getElem? hi2,hdd⟩
    rw [hd,yK d v _ us _ hnm,←e1];exact h3
   ·have hil:us.length < Y.length:=(List.getElem?_eq_some_iff.1 hi2).1;obtain ⟨o,d,ho,hg,hd,hdd⟩:=hdl Y i (List.mem_of_getElem? hi2) (fun j hj=>List.mem_append_right _ hj);have hR2:Run F0 w0 (star (PY us) (star (PX vs) R)) W:=hR.mh;refine aO ho hg (Oper.wp_mono ?_ (hY i o vs us hi2 ho hv (star (PX vs) R) W (aj (oX vs) oR) hR2));rintro a' w' ⟨v,rfl,hR'⟩;refine ⟨fun _=>hS _ _ hR',?_⟩;rw [hi2] at c4;simp only [beq_iff_eq] at c4;have h3:=ih vs (us ++ [v]) w' hv (by simp;omega) (by simp;omega) hR'.mh;rw [List.length_append,List.length_singleton,←c4] at h3;have e1:∀ b:Act,puts b (bS ops Y) (us ++ [v])=(puts b (bS ops Y) us).put (some d) v:=by
     intro b;have hsp:bS ops Y=bS ops (Y.take us.length) ++ (d :: bS ops (Y.drop (us.length+1))):=by
      have hXe:Y[us.length]=i:=(List.getElem?_eq_some_iff.1 hi2).2;have e9:=ql (fun i=>((ops[i]?.bind (·.dst))).getD 0) Y hil;simp only [hXe,hdd] at e9;exact e9
     have hl:(bS ops (Y.take us.length)).length=us.length:=by unfold bS;simp;omega
     rw [hsp];rw [show bS ops (Y.take us.length) ++ (d :: bS ops (Y.drop (us.length+1)))=(bS ops (Y.take us.length) ++ [d]) ++ bS ops (Y.drop (us.length+1)) by simp];rw [jd _ _ _ (us ++ [v]) (by simp [hl]),qj _ _ _ _ _ hl,List.append_assoc,jd _ _ _ us hl]
    rw [hd,←e1];exact h3
 have h1:=key (X.length+Y.length) [] [] W (Nat.zero_le _) (Nat.zero_le _) (by simp) h0;have e:∀ (b:Act) (ds:List Nat),puts b ds []=b:=fun b ds=>by cases ds <;> rfl
 rw [e,e] at h1;exact h1
end
end Go.CH
namespace Go.Proofs.YtbnnlpjpnihheaaGreatDoor.Asn
open Go.RowKit Go.CH Go.CH.aY
open Go.ChangeMaps (setBlock)

def aP (w:World) (v:Value) (e:Ending) (w':World):Prop:=e=.returned v∧Below w.heap.size w w'
def Quiet (w:World) (v:Value) (e:Ending) (w':World):Prop:=e=.returned v∧w=w'
theorem gU {w:World} {a b:Bool} (h:a=b):Quiet w (.bool b) (.returned (.bool a)) w:=⟨by rw [h],rfl⟩
theorem aQ {w w':World} {a b:Bool} (h:b=a) (hb:Below w.heap.size w w'):aP w (.bool b) (.returned (.bool a)) w':=⟨by rw [h],hb⟩
def ints (l:List Int):List Value:=l.map (Value.int .i64)
theorem M7 (l:List Int):∀ u ∈ ints l,u.oneCell'=true:=by
 intro u hu;obtain ⟨s,_,rfl⟩:=List.mem_map.1 hu;rfl
theorem yg (l:List Int):(ints l).length=l.length:=by simp [ints]
theorem yh {l:List Int} {k:Nat} (h:k < l.length):(ints l)[k]?=some (.int .i64 l[k]):=by simp [ints,h]

def Vec (w:World) (A:Option Addr) (l:List Int):Prop:=Src w A l.length 1 (ints l)
theorem aR {w w':World} {A:Option Addr} {n size:Nat} {xs:List Value} (h:Src w A n size xs) (hb:Below w.heap.size w w'):Src w' A n size xs :=
 ((Run.begin w).below aB hb).Uc h
theorem Vec.below {w w':World} {A:Option Addr} {l:List Int} (h:Vec w A l) (hb:Below w.heap.size w w'):Vec w' A l:=aR h hb
theorem Vec.drew {w:World} {A:Option Addr} {l:List Int} (h:Vec w A l):Vec w.drew A l:=h.below (aV (Below.refl _ _))

theorem Vec.at {w:World} {A:Option Addr} {l:List Int} (h:Vec w A l) (hn:0 < l.length) :
  ∃ b o,A=some ⟨b,o,none⟩∧∀ w',Below w.heap.size w w'→∀ j (hj:j < l.length),w'.cell? ⟨b,o+j,none⟩=some (.int .i64 l[j]):=by
 obtain ⟨b,o,rfl,hc⟩:=Src.open_ h hn (by omega);refine ⟨b,o,rfl,fun w' hb j hj=>?_⟩;have h1:=hc j _ (yh hj);rw [hb.cell (World.block_lt_of_cell? _ _ h1)];exact h1

structure Ad (w:World) (A:Option Addr) (C:List (List Int)) (V:List (Option Addr × Nat)):Prop where
 len:V.length=C.length
 src:Src w A C.length 1 (V.mapIdx fun i x=>.slice x.1 (C.getD i []).length x.2)
 row:∀ i (hi:i < C.length) x,V[i]?=some x→Vec w x.1 C[i]∧C[i].length≤x.2
theorem Ad.below {w w':World} {A:Option Addr} {C:List (List Int)} {V:List (Option Addr × Nat)} (h:Ad w A C V) (hb:Below w.heap.size w w'):Ad w' A C V :=
 ⟨h.len,aR h.src hb,fun i hi x hx=>⟨(h.row i hi x hx).1.below hb,(h.row i hi x hx).2⟩⟩

theorem Ad.at {w:World} {A:Option Addr} {C:List (List Int)} {V:List (Option Addr × Nat)} (h:Ad w A C V) (hn:0 < C.length) :
  ∃ b o,A=some ⟨b,o,none⟩∧∀ j (hj:j < C.length),∃ B c,C[j].length≤c∧Vec w B C[j]∧∀ w',Below w.heap.size w w'→w'.cell? ⟨b,o+j,none⟩=some (.slice B C[j].length c):=by
 obtain ⟨b,o,rfl,hc⟩:=Src.open_ h.src hn (by omega);refine ⟨b,o,rfl,fun j hj=>?_⟩;have hv:V[j]?=some (V[j]'(by rw [h.len];exact hj)):=List.getElem?_eq_getElem _;obtain ⟨h1,h2⟩:=h.row j hj _ hv;refine ⟨_,_,h2,h1,fun w' hb=>?_⟩
 have h3:=hc j (.slice (V[j]'(by rw [h.len];exact hj)).1 C[j].length (V[j]'(by rw [h.len];exact hj)).2) (by
  rw [List.getElem?_mapIdx,hv]
  simp [List.getD_eq_getElem?_getD,hj])
 rw [hb.cell (World.block_lt_of_cell? _ _ h3)];exact h3

def wi (l:List Int) (lo hi:Int):Bool:=l.all fun n=>decide (lo≤n) && decide (n≤hi)
theorem PZ {l:List Int} {lo hi:Int} {k:Nat} (h:k < l.length):wi (l.take (k+1)) lo hi=(wi (l.take k) lo hi && (decide (lo≤l[k]) && decide (l[k]≤hi))):=by
 unfold wi;rw [List.take_succ_eq_append_getElem h,List.all_append];simp
theorem Ud {l:List Int} {lo hi:Int} {k:Nat} (h:wi (l.take (k+1)) lo hi=false):wi l lo hi=false:=by
 unfold wi at *
 rw [List.all_eq_false] at *
 obtain ⟨x,hx,h1⟩:=h;exact ⟨x,List.mem_of_mem_take hx,h1⟩
theorem M8 {l:List Int} {lo hi:Int} (h:wi l lo hi=true) {k:Nat} (hk:k < l.length):lo≤l[k]∧l[k]≤hi:=by
 unfold wi at h;rw [List.all_eq_true] at h;simpa using h l[k] (List.getElem_mem _)
def few (C:List (List Int)) (D E:List Int):Bool:=C.all (fun r=>decide (r.length≤20)) && (decide (C.length≤20) && decide (D.length≤20) && decide (E.length≤20))

def vV (C:List (List Int)) (D E:List Int):Bool :=
 decide (C.length=D.length) && decide (D.length≤6) && decide (E.length≤6) && wi D 0 10000 && wi E 0 10000 && C.all (fun r=>decide (r.length=E.length) && wi r 0 100000)
end Go.Proofs.YtbnnlpjpnihheaaGreatDoor.Asn
namespace Go.Proofs.YtbnnlpjpnihheaaGreatDoor.Asn
open Go.RowKit Go.CH Go.CH.aY
open Go.ChangeMaps (setBlock)

end Go.Proofs.YtbnnlpjpnihheaaGreatDoor.Asn
namespace Go.Proofs.YtbnnlpjpnihheaaGreatDoor.Asn
open Go.RowKit Go.CH Go.CH.aY
open Go.ChangeMaps (setBlock)

def Ug (n nd ne:Nat) (D E:List Int):Bool:=decide (n=nd) && decide (nd≤6) && decide (ne≤6) && wi D 0 10000 && wi E 0 10000
def OJ (ne:Nat) (r:List Int):Bool:=decide (r.length=ne) && wi r 0 100000
theorem SV (C:List (List Int)) (D E:List Int):vV C D E=(Ug C.length D.length E.length D E && C.all (OJ E.length)):=rfl
theorem Ns {C:List (List Int)} {ne k:Nat} (h:k < C.length):(C.take (k+1)).all (OJ ne)=((C.take k).all (OJ ne) && OJ ne C[k]):=by
 rw [List.take_succ_eq_append_getElem h,List.all_append];simp
end Go.Proofs.YtbnnlpjpnihheaaGreatDoor.Asn
namespace Go.Proofs.YtbnnlpjpnihheaaGreatDoor.Asn
open Go.RowKit Go.CH Go.CH.aY
open Go.ChangeMaps (setBlock)

theorem Qo {w:World} {p q:Addr} (x lo hi:Int) (h1:w.cell? p=some (.int .i64 lo)) (h2:w.cell? q=some (.int .i64 hi)) :
  Calls Tryz.prog 130 #[.int .i64 x,.pointer (some p),.pointer (some q)] w (Quiet w (.bool (!(decide (lo≤x) && decide (x≤hi))))):=by
 by_cases g1:x < lo
 ·go_enter Tryz.func130,Tryz.ntmps130
  go_wp2;go_ret;refine gU ?_;simp;omega
 ·by_cases g2:hi < x
  ·go_enter Tryz.func130,Tryz.ntmps130
   go_wp2;go_ret;refine gU ?_;simp;try omega
  ·go_enter Tryz.func130,Tryz.ntmps130
   go_wp2;go_ret;refine gU ?_;simp;try omega
theorem uO {w:World} {A:Option Addr} {c:Nat} {l:List Int} (h:Vec w A l) (hl:l.length≤1000000) {p q:Addr} (lo hi:Int) (h1:w.cell? p=some (.int .i64 lo)) (h2:w.cell? q=some (.int .i64 hi)) :
  Calls Tryz.prog 151 #[.slice A l.length c,.func (.func 130) #[] #[.pointer (some p),.pointer (some q)]] w (fun e w'=>∃ r:Int,e=.returned (.int .i64 r)∧w'=w∧(0≤r↔wi l lo hi=false)):=by
 have HA:=hide h;have HO:=hide (fun x=>Qo x lo hi h1 h2);obtain ⟨n,hn⟩:∃ n,n=l.length:=⟨_,rfl⟩;rw [←hn] at hl;have HN:=hide hn;rw [←hn];clear h hn h1 h2
 go_enter Tryz.func151,Tryz.ntmps151
 go_wp2
 go_loop [8] (fun i=>∃ k:Nat,k≤n∧i=.int .i64 k∧wi (l.take k) lo hi=true) (fun i=>n - (intOf i).toNat)
 case atStart=>exact ⟨0,Nat.zero_le _,rfl,rfl⟩
 case round =>
  obtain ⟨k,hk,rfl,hw⟩:=hrel;have HW:=hide hw;clear hw;by_cases hlt:k < n
  ·have hkl:k < l.length:=by rw [←HN.out];exact hlt
   obtain ⟨b,o,rfl,hc⟩:=HA.out.at (by omega);have c0:=hc w (Below.refl _ _) k hkl;have HT:=hide (PZ (lo:=lo) (hi:=hi) hkl);have HNO:=hide (Ud (l:=l) (lo:=lo) (hi:=hi) (k:=k));have KO:=hide (HO.out l[k]);generalize l[k]=x at *
   clear hc;rw [HW.out,Bool.true_and] at HT;cases hb:(decide (lo≤x) && decide (x≤hi)) with
   | true =>
    rw [hb] at HT KO;clear hb;go_wp2_with fail;refine KO.out.mono ?_;rintro e w' ⟨rfl,rfl⟩;go_wp2
    go_round
    case rel=>exact ⟨k+1,by omega,by go_num,HT.out⟩
    case measure=>simp [intOf];omega
   | false =>
    rw [hb] at HT KO;clear hb;have HF:=hide (HNO.out HT.out);clear HNO HT HW;go_wp2_with fail;refine KO.out.mono ?_;rintro e w' ⟨rfl,rfl⟩;go_wp2;go_ret;exact ⟨k,rfl,rfl,by rw [HF.out];simp⟩
  ·obtain rfl:k=n:=by omega
   have HF:=hide (show true=wi l lo hi by rw [←HW.out,HN.out,List.take_length]);clear HW;go_wp2;go_ret;exact ⟨-1,rfl,rfl,by rw [←HF.out];simp⟩

theorem BA {w:World} {A:Option Addr} {c:Nat} {l:List Int} (h:Vec w A l) (hl:l.length≤1000000) {p q:Addr} (lo hi:Int) (h1:w.cell? p=some (.int .i64 lo)) (h2:w.cell? q=some (.int .i64 hi)) :
  Calls Tryz.prog 129 #[.slice A l.length c,.func (.func 130) #[] #[.pointer (some p),.pointer (some q)]] w (Quiet w (.bool (!wi l lo hi))):=by
 have KI:=hide (uO (c:=c) h hl lo hi h1 h2);clear h h1 h2
 go_enter Tryz.func129,Tryz.ntmps129
 go_wp2_with fail;refine KI.out.mono ?_;rintro e w' ⟨r,rfl,rfl,hr⟩;cases hw:wi l lo hi with
 | false =>
  have:0≤r:=hr.2 hw;go_wp2;go_ret;refine gU ?_;simp [hw]
 | true =>
  have:¬ 0≤r:=fun h=>by rw [hr.1 h] at hw;cases hw
  go_wp2;go_ret;refine gU ?_;simp [hw]
theorem Qp (w:World) (cs:Array Value) (t:TypeId) (o:Obj) {v:Value} (h:cs[0]?=some v):((w.alloc (.cells cs t)).alloc o).cell? ⟨w.heap.size,0,none⟩=some v:=by
 have h1:((w.alloc (.cells cs t)).alloc o).heap[w.heap.size]?=(w.alloc (.cells cs t)).heap[w.heap.size]?:=MP (by simp);rw [World.cell?_of_block (w:=w.alloc (.cells cs t)) h1];obtain ⟨F,hC,-⟩:=dJ w cs t;exact ay hC h
theorem Qq (w:World) (o:Obj) (cs:Array Value) (t:TypeId) {v:Value} (h:cs[0]?=some v):((w.alloc o).alloc (.cells cs t)).cell? ⟨w.heap.size+1,0,none⟩=some v:=by
 obtain ⟨F,hC,-⟩:=dJ (w.alloc o) cs t;have:=ay hC h
 rwa [show (w.alloc o).heap.size=w.heap.size+1 by simp] at this
theorem rG {w:World} {A:Option Addr} {c:Nat} {l:List Int} (h:Vec w A l) (hl:l.length≤1000000) (lo hi:Int) :
  Calls Tryz.prog 99 #[.slice A l.length c,.int .i64 lo,.int .i64 hi] w (aP w (.bool (wi l lo hi))):=by
 have hb2:Below w.heap.size w ((w.alloc (.cells #[.int .i64 lo] 3)).alloc (.cells #[.int .i64 hi] 3)):=((Below.refl _ _).alloc (Nat.le_refl _) _).alloc (by simp) _;have KC:=hide (BA (c:=c) (p:=⟨w.heap.size,0,none⟩) (q:=⟨w.heap.size+1,0,none⟩) (h.below hb2) hl lo hi (Qp w _ _ _ rfl) (Qq w _ _ _ rfl));have HB:=hide hb2;clear h hb2
 go_enter Tryz.func99,Tryz.ntmps99
 go_wp2_with fail;refine KC.out.mono ?_;rintro e w' ⟨rfl,rfl⟩;go_wp2;go_ret;exact aQ (by simp) HB.out

theorem aC {w w' w'':World} (h:Below w.heap.size w w') (h':Below w'.heap.size w' w''):Below w.heap.size w w'':=h.trans (h'.mono h.size)
theorem pE {w:World} {A B G:Option Addr} {V:List (Option Addr × Nat)} {c d e:Nat} {C:List (List Int)} {D E:List Int} (h:Ad w A C V) (hl:C.length≤maxLen) (hD:Vec w B D) (hE:Vec w G E) :
  Calls Tryz.prog 57 #[.slice A C.length c,.slice B D.length d,.slice G E.length e] w (aP w (.bool (vV C D E))):=by
 unfold maxLen at hl;have HA:=hide h;have HV:=hide (SV C D E);have HD:=hide (fun hl=>rG (c:=d) hD hl 0 10000);have HE:=hide (fun (w':World) (hb:Below w.heap.size w w') hl=>rG (c:=e) (hE.below hb) hl 0 10000);obtain ⟨n,hn⟩:∃ n,n=C.length:=⟨_,rfl⟩;obtain ⟨nd,hnd⟩:∃ n,n=D.length:=⟨_,rfl⟩;obtain ⟨ne,hne⟩:∃ n,n=E.length:=⟨_,rfl⟩;have HN:=hide hn;rw [←hn] at hl;rw [←hn,←hnd,←hne] at HV;rw [←hnd] at HD;rw [←hne] at HE;rw [←hn,←hnd,←hne];have HB:=hide (Below.refl w.heap.size w);clear h hn hnd hne hD hE;by_cases h1:n=nd
 case neg =>
  have HF:=hide (show false=vV C D E by rw [HV.out,Ug,decide_eq_false h1];simp);clear HV HD HE
  go_enter Tryz.func57,Tryz.ntmps57
  go_wp2;go_loopw [7,35] (fun ok i wr=>∃ k:Nat,k≤n∧ok=.bool false∧i=.int .i64 k∧Below w.heap.size w wr) (fun _ i _=>n - (intOf i).toNat)
  case atStart=>exact ⟨0,Nat.zero_le _,rfl,rfl,HB.out⟩
  case round =>
   obtain ⟨k,hk,rfl,rfl,hb⟩:=hrel;have HBL:=hide hb;clear HB;by_cases hlt:k < n
   ·have hka:k < C.length:=by rw [←HN.out];exact hlt
    obtain ⟨b1,o1,rfl,hc1⟩:=HA.out.at (by omega);obtain ⟨Bk,ck,-,-,hck⟩:=hc1 k hka;have c1:=hck _ hb;clear hc1 hck hb;go_wp2
    go_roundw
    case rel=>exact ⟨k+1,by omega,rfl,by go_num,HBL.out⟩
    case measure=>simp [intOf];omega
   ·obtain rfl:k=n:=by omega
    clear hb;go_wp2;go_ret;exact aQ HF.out.symm HBL.out
 by_cases h2:nd≤6
 case neg =>
  have HF:=hide (show false=vV C D E by rw [HV.out,Ug,decide_eq_false h2];simp);clear HV HD HE
  go_enter Tryz.func57,Tryz.ntmps57
  go_wp2;go_loopw [7,35] (fun ok i wr=>∃ k:Nat,k≤n∧ok=.bool false∧i=.int .i64 k∧Below w.heap.size w wr) (fun _ i _=>n - (intOf i).toNat)
  case atStart=>exact ⟨0,Nat.zero_le _,rfl,rfl,HB.out⟩
  case round =>
   obtain ⟨k,hk,rfl,rfl,hb⟩:=hrel;have HBL:=hide hb;clear HB;by_cases hlt:k < n
   ·have hka:k < C.length:=by rw [←HN.out];exact hlt
    obtain ⟨b1,o1,rfl,hc1⟩:=HA.out.at (by omega);obtain ⟨Bk,ck,-,-,hck⟩:=hc1 k hka;have c1:=hck _ hb;clear hc1 hck hb;go_wp2
    go_roundw
    case rel=>exact ⟨k+1,by omega,rfl,by go_num,HBL.out⟩
    case measure=>simp [intOf];omega
   ·obtain rfl:k=n:=by omega
    clear hb;go_wp2;go_ret;exact aQ HF.out.symm HBL.out
 by_cases h3:ne≤6
 case neg =>
  have HF:=hide (show false=vV C D E by rw [HV.out,Ug,decide_eq_false h3];simp);clear HV HD HE
  go_enter Tryz.func57,Tryz.ntmps57
  go_wp2;go_loopw [7,35] (fun ok i wr=>∃ k:Nat,k≤n∧ok=.bool false∧i=.int .i64 k∧Below w.heap.size w wr) (fun _ i _=>n - (intOf i).toNat)
  case atStart=>exact ⟨0,Nat.zero_le _,rfl,rfl,HB.out⟩
  case round =>
   obtain ⟨k,hk,rfl,rfl,hb⟩:=hrel;have HBL:=hide hb;clear HB;by_cases hlt:k < n
   ·have hka:k < C.length:=by rw [←HN.out];exact hlt
    obtain ⟨b1,o1,rfl,hc1⟩:=HA.out.at (by omega);obtain ⟨Bk,ck,-,-,hck⟩:=hc1 k hka;have c1:=hck _ hb;clear hc1 hck hb;go_wp2
    go_roundw
    case rel=>exact ⟨k+1,by omega,rfl,by go_num,HBL.out⟩
    case measure=>simp [intOf];omega
   ·obtain rfl:k=n:=by omega
    clear hb;go_wp2;go_ret;exact aQ HF.out.symm HBL.out
 have KD:=hide (HD.out (by omega));have KE:=hide (fun w' hb=>HE.out w' hb (by omega));have HV2:=hide (show vV C D E=(wi D 0 10000 && wi E 0 10000 && C.all (OJ ne)) by rw [HV.out,Ug,decide_eq_true h1,decide_eq_true h2,decide_eq_true h3];simp);clear HD HE HV;cases h4:wi D 0 10000 with
 | false =>
  rw [h4] at KD HV2;have HF:=hide (show false=vV C D E by rw [HV2.out];simp);clear HV2 h4
  go_enter Tryz.func57,Tryz.ntmps57
  go_wp2_with fail;refine KD.out.mono ?_;rintro e w' ⟨rfl,hb'⟩;have HB':=hide hb';clear HB hb' KD;go_wp2;go_loopw [7,35] (fun ok i wr=>∃ k:Nat,k≤n∧ok=.bool false∧i=.int .i64 k∧Below w.heap.size w wr) (fun _ i _=>n - (intOf i).toNat)
  case atStart=>exact ⟨0,Nat.zero_le _,rfl,rfl,HB'.out⟩
  case round =>
   obtain ⟨k,hk,rfl,rfl,hb⟩:=hrel;have HBL:=hide hb;clear HB';by_cases hlt:k < n
   ·have hka:k < C.length:=by rw [←HN.out];exact hlt
    obtain ⟨b1,o1,rfl,hc1⟩:=HA.out.at (by omega);obtain ⟨Bk,ck,-,-,hck⟩:=hc1 k hka;have c1:=hck _ hb;clear hc1 hck hb;go_wp2
    go_roundw
    case rel=>exact ⟨k+1,by omega,rfl,by go_num,HBL.out⟩
    case measure=>simp [intOf];omega
   ·obtain rfl:k=n:=by omega
    clear hb;go_wp2;go_ret;exact aQ HF.out.symm HBL.out
 | true =>
  rw [h4] at KD HV2;clear h4;cases h5:wi E 0 10000 with
  | false =>
   rw [h5] at KE HV2;have HF:=hide (show false=vV C D E by rw [HV2.out];simp);clear HV2 h5
   go_enter Tryz.func57,Tryz.ntmps57
   go_wp2_with fail;refine KD.out.mono ?_;rintro e w' ⟨rfl,hb'⟩;have HB':=hide hb';have KE2:=hide (KE.out _ hb');clear HB hb' KD KE;go_wp2_with fail;refine KE2.out.mono ?_;rintro e w2 ⟨rfl,hb2⟩;have HB2:=hide (aC HB'.out hb2);clear HB' hb2 KE2;go_wp2;go_loopw [7,35] (fun ok i wr=>∃ k:Nat,k≤n∧ok=.bool false∧i=.int .i64 k∧Below w.heap.size w wr) (fun _ i _=>n - (intOf i).toNat)
   case atStart=>exact ⟨0,Nat.zero_le _,rfl,rfl,HB2.out⟩
   case round =>
    obtain ⟨k,hk,rfl,rfl,hb⟩:=hrel;have HBL:=hide hb;clear HB2;by_cases hlt:k < n
    ·have hka:k < C.length:=by rw [←HN.out];exact hlt
     obtain ⟨b1,o1,rfl,hc1⟩:=HA.out.at (by omega);obtain ⟨Bk,ck,-,-,hck⟩:=hc1 k hka;have c1:=hck _ hb;clear hc1 hck hb;go_wp2
     go_roundw
     case rel=>exact ⟨k+1,by omega,rfl,by go_num,HBL.out⟩
     case measure=>simp [intOf];omega
    ·obtain rfl:k=n:=by omega
     clear hb;go_wp2;go_ret;exact aQ HF.out.symm HBL.out
  | true =>
   rw [h5] at KE HV2;clear h5;have HF:=hide (show vV C D E=C.all (OJ ne) by rw [HV2.out];simp);clear HV2
   go_enter Tryz.func57,Tryz.ntmps57
   go_wp2_with fail;refine KD.out.mono ?_;rintro e w' ⟨rfl,hb'⟩;have HB':=hide hb';have KE2:=hide (KE.out _ hb');clear HB hb' KD KE;go_wp2_with fail;refine KE2.out.mono ?_;rintro e w2 ⟨rfl,hb2⟩;have HB2:=hide (aC HB'.out hb2);clear HB' hb2 KE2;go_wp2;go_loopw [7,35] (fun ok i wr=>∃ k:Nat,k≤n∧ok=.bool ((C.take k).all (OJ ne))∧i=.int .i64 k∧Below w.heap.size w wr) (fun _ i _=>n - (intOf i).toNat)
   case atStart=>exact ⟨0,Nat.zero_le _,rfl,rfl,HB2.out⟩
   case round =>
    obtain ⟨k,hk,rfl,rfl,hb⟩:=hrel;have HBL:=hide hb;clear HB2;by_cases hlt:k < n
    ·have hka:k < C.length:=by rw [←HN.out];exact hlt
     obtain ⟨b1,o1,rfl,hc1⟩:=HA.out.at (by omega);obtain ⟨Bk,ck,-,hrow,hck⟩:=hc1 k hka;have c1:=hck _ hb;have HX:=hide (Ns (ne:=ne) hka);have HK:=hide (fun hl=>rG (c:=ck) (hrow.below hb) hl 0 100000);have HZ:=hide (show OJ ne C[k]=(decide (C[k].length=ne) && wi C[k] 0 100000) from rfl);generalize C[k]=x at *
     obtain ⟨nx,hnx⟩:∃ n,n=x.length:=⟨_,rfl⟩;rw [←hnx] at c1 HK HZ;clear hc1 hck hrow hnx hb;cases ht:(C.take k).all (OJ ne) with
     | false =>
      rw [ht] at HX;clear ht HZ HK;go_wp2
      go_roundw
      case rel=>exact ⟨k+1,by omega,by rw [HX.out];rfl,by go_num,HBL.out⟩
      case measure=>simp [intOf];omega
     | true =>
      rw [ht,Bool.true_and] at HX;clear ht;by_cases hx:nx=ne
      ·have KX:=hide (HK.out (by omega));rw [decide_eq_true hx,Bool.true_and] at HZ;clear HK;subst hx;go_wp2_with fail;refine KX.out.mono ?_;rintro e w' ⟨rfl,hb'⟩;have HB':=hide (aC HBL.out hb');clear KX hb' HBL;go_wp2
       go_roundw
       case rel=>exact ⟨k+1,by omega,by rw [HX.out,HZ.out],by go_num,HB'.out⟩
       case measure=>simp [intOf];omega
      ·have HS:=hide (show OJ ne x=false by rw [HZ.out,decide_eq_false hx];rfl);clear HZ HK;go_wp2
       go_roundw
       case rel=>exact ⟨k+1,by omega,by rw [HX.out,HS.out],by go_num,HBL.out⟩
       case measure=>simp [intOf];omega
    ·obtain rfl:k=n:=by omega
     have HS:=hide (show C.take k=C by rw [HN.out,List.take_length]);clear hb;go_wp2;go_ret;exact aQ (by rw [HF.out,HS.out]) HBL.out
end Go.Proofs.YtbnnlpjpnihheaaGreatDoor.Asn
namespace Go.Proofs.YtbnnlpjpnihheaaGreatDoor.Asn
open Go.RowKit Go.CH Go.CH.aY
open Go.ChangeMaps (setBlock)

def lF (l:List Int) (i:Nat):Int:=l.getD i 0
def cF (C:List (List Int)) (i j:Nat):Int:=lF (C.getD i []) j
theorem vM {l:List Int} {i:Nat} (h:i < l.length):lF l i=l[i]:=by simp [lF,List.getD_eq_getElem?_getD,h]
theorem yD {C:List (List Int)} {i:Nat} (h:i < C.length) (j:Nat):cF C i j=lF C[i] j:=by simp [cF,List.getD_eq_getElem?_getD,h]
structure U1 (C:List (List Int)) (D E:List Int):Prop where
 n:C.length=D.length
 n6:D.length≤6
 m6:E.length≤6
 d:∀ i,i < D.length→0≤lF D i∧lF D i≤10000
 e:∀ i,i < E.length→0≤lF E i∧lF E i≤10000
 row:∀ i (hi:i < C.length),C[i].length=E.length
 c:∀ i,i < D.length→∀ j,j < E.length→0≤cF C i j∧cF C i j≤100000
theorem Iw {C:List (List Int)} {D E:List Int} (h:vV C D E=true):U1 C D E:=by
 simp only [vV,Bool.and_eq_true,decide_eq_true_eq,List.all_eq_true] at h;obtain ⟨⟨⟨⟨⟨h1,h2⟩,h3⟩,h4⟩,h5⟩,h6⟩:=h;refine ⟨h1,h2,h3,fun i hi=>?_,fun i hi=>?_,fun i hi=>(h6 _ (List.getElem_mem hi)).1,fun i hi j hj=>?_⟩
 ·rw [vM hi];exact M8 h4 hi
 ·rw [vM hi];exact M8 h5 hi
 ·have hi':i < C.length:=by omega
  obtain ⟨g1,g2⟩:=h6 _ (List.getElem_mem hi');rw [yD hi',vM (by omega)];exact M8 g2 (by omega)
theorem Vec.UN {w:World} {A:Option Addr} {l:List Int} (h:Vec w A l) (hn:0 < l.length) :
  ∃ b o,A=some ⟨b,o,none⟩∧∀ w',Below w.heap.size w w'→∀ j,j < l.length→w'.cell? ⟨b,o+j,none⟩=some (.int .i64 (lF l j)):=by
 obtain ⟨b,o,h1,h2⟩:=h.at hn;exact ⟨b,o,h1,fun w' hb j hj=>by rw [vM hj];exact h2 w' hb j hj⟩

theorem Ad.UN {w:World} {A:Option Addr} {C:List (List Int)} {V:List (Option Addr × Nat)} {m:Nat} (h:Ad w A C V) (hn:0 < C.length) (hr:∀ i (hi:i < C.length),C[i].length=m) :
  ∃ b o,A=some ⟨b,o,none⟩∧∀ i,i < C.length→∃ B c,m≤c∧(∀ w',Below w.heap.size w w'→w'.cell? ⟨b,o+i,none⟩=some (.slice B m c)) ∧
   (0 < m→∃ b' o',B=some ⟨b',o',none⟩∧∀ w',Below w.heap.size w w'→∀ j,j < m→w'.cell? ⟨b',o'+j,none⟩=some (.int .i64 (cF C i j))):=by
 obtain ⟨b,o,h1,h2⟩:=h.at hn;refine ⟨b,o,h1,fun i hi=>?_⟩;obtain ⟨B,c,h3,h4,h5⟩:=h2 i hi;have hm:=hr i hi;refine ⟨B,c,by omega,fun w' hb=>by rw [←hm];exact h5 w' hb,fun h0=>?_⟩;obtain ⟨b',o',g1,g2⟩:=h4.UN (by omega);exact ⟨b',o',g1,fun w' hb j hj=>by rw [yD hi];exact g2 w' hb j (by omega)⟩
theorem Gn {f:Nat→Int} {a b:Int} {n:Nat} (h:∀ i,i < n→a≤f i∧f i≤b):(n:Int)*a≤sg n f∧sg n f≤(n:Int)*b:=by
 induction n with
 | zero=>simp [sg]
 | succ n ih =>
  have:=ih (fun i hi=>h i (by omega));have:=h n (by omega);have e1:((n+1:Nat):Int)*a=n*a+a:=by rw [Int.natCast_add,Int.add_mul];simp
  have e2:((n+1:Nat):Int)*b=n*b+b:=by rw [Int.natCast_add,Int.add_mul];simp
  rw [bT,e1,e2];omega

def UO (C:List (List Int)) (D E U W:List Int):Bool:=vV C D E && decide (U.length=D.length) && decide (W.length=E.length) && wi U (-1000000) 1000000 && wi W (-1000000) 1000000
def Uh (C:List (List Int)) (D E U W:List Int):Prop:=Cb (cF C) (lF D) (lF E) D.length E.length (lF U) (lF W)
open Classical in

noncomputable def bnd (C:List (List Int)) (D E U W:List Int):Int × Bool:=if UO C D E U W=true∧Uh C D E U W then (sg D.length (lF U)+sg E.length (lF W),true) else (0,false)

structure OL (w:World) (A B G:Option Addr) (C:List (List Int)) (D E:List Int) (n m:Nat):Prop where
 v:U1 C D E
 hn:C.length=n
 hd:D.length=n
 hm:E.length=m
 mat:∃ V,Ad w A C V
 vd:Vec w B D
 ve:Vec w G E
theorem OL.below {w w':World} {A B G:Option Addr} {C:List (List Int)} {D E:List Int} {n m:Nat} (h:OL w A B G C D E n m) (hb:Below w.heap.size w w'):OL w' A B G C D E n m:=by
 obtain ⟨V,hV⟩:=h.mat;exact ⟨h.v,h.hn,h.hd,h.hm,⟨V,hV.below hb⟩,h.vd.below hb,h.ve.below hb⟩
section
variable {w:World} {A B G:Option Addr} {C:List (List Int)} {D E:List Int} {n m:Nat}
theorem OL.n6 (h:OL w A B G C D E n m):n≤6:=h.hd ▸ h.v.n6
theorem OL.m6 (h:OL w A B G C D E n m):m≤6:=h.hm ▸ h.v.m6
end
theorem Nt {w:World} {A B G:Option Addr} {C:List (List Int)} {D E:List Int} {V:List (Option Addr × Nat)} (hV:vV C D E=true) (h:Ad w A C V) (hD:Vec w B D) (hE:Vec w G E):OL w A B G C D E D.length E.length :=
 ⟨Iw hV,(Iw hV).n,rfl,rfl,⟨V,h⟩,hD,hE⟩
end Go.Proofs.YtbnnlpjpnihheaaGreatDoor.Asn
namespace Go.Proofs.YtbnnlpjpnihheaaGreatDoor.Asn
open Go.RowKit Go.CH Go.CH.aY
open Go.ChangeMaps (setBlock)

theorem toList_madeCells_one (z:Value) (n:Nat):(madeCells #[z] n).toList=List.replicate n z:=by
 refine List.ext_getElem? fun i=>?_;simp only [madeCells,Array.toList_map,Array.toList_range,List.getElem?_map,List.getElem?_range];by_cases h:i < n
 ·simp [h,Nat.mod_one]
 ·simp [h]
theorem Iy {P:Program} {o:Oper} {a:Act} {w:World} {K:Act→World→Prop} {Q:Exit→Act→World→Prop} {t e:TypeId} {z:Value} {bytes:Nat} (S:dh P t e z 1 bytes) (hby:bytes≤1000) (l:Operand) (hop:o.op=Op.makeSlice t l l) (n:Nat) (hn:n≤1000) (hl:a.eval l=.int .i64 (n:Int)) (hz:z.cells=#[z])
  (hK:∀ w',Post w (fun _=>False) (aS e 1 (.slice (some ⟨w.heap.size,0,none⟩) n n) n (List.replicate n z)) w'→K (a.put o.dst (.slice (some ⟨w.heap.size,0,none⟩) n n)) w'):o.wp P a w K Q:=by
 obtain ⟨ht,hi,hzz,hsz⟩:=S;obtain ⟨i,hi,hi1,hi2,hi3⟩:=info_parts hi;obtain ⟨w',hrun,r1,r2⟩:=run_make_full (P:=P) w w.heap.size t e i z 1 ht hi hi1 hi2 .i64 .i64 n (by rw [hi3];have:=Nat.mul_le_mul hby hn;omega) (by simp only [maxLen];omega) (Nat.le_refl _)
 have h2:=hK w' (qg (by
  rw [Nat.mul_one,hz,toList_madeCells_one] at r1;exact r1) (Mod.below (F:=fun _=>False) (Mod.sH r2 (fun k hk=>by cases hk)) (fun _ _ h=>h)))
 unfold Oper.wp;simp [execOp,hop,hl,hrun,Result.andThen];exact h2
theorem DZ {P:Program} {ops:Array Oper} {rest:List Oper} {o:Oper} {a:Act} {w:World} {Q:Exit→Act→World→Prop} (hg:o.guard=none) {t e:TypeId} {z:Value} {bytes:Nat} (S:dh P t e z 1 bytes) (hby:bytes≤1000) (l:Operand) (hop:o.op=Op.makeSlice t l l) (n:Nat) (hn:n≤1000) (hl:a.eval l=.int .i64 (n:Int)) (hz:z.cells=#[z])
  (hK:∀ w',Post w (fun _=>False) (aS e 1 (.slice (some ⟨w.heap.size,0,none⟩) n n) n (List.replicate n z)) w'→wpList P ops Q rest (a.put o.dst (.slice (some ⟨w.heap.size,0,none⟩) n n)) w'):wpList P ops Q (o :: rest) a w :=
 wpList_plain hg fun _ hK'=>Iy S hby l hop n hn hl hz fun w' h=>hK' _ _ (hK w' h)
theorem kX:dh Tryz.prog 40 3 (.int .i64 0) 1 8:=⟨Tryz.underlying40,by kernel_rfl,rfl,by decide⟩
theorem Gp:dh Tryz.prog 75 40 (.slice none 0 0) 1 24:=⟨Tryz.underlying75,by kernel_rfl,rfl,by decide⟩

def fv (n:Nat) (f:Nat→Value):List Value:=(List.range n).map f
theorem BD (n:Nat) (f:Nat→Value):(fv n f).length=n:=by simp [fv]
theorem ng {n:Nat} (f:Nat→Value) {i:Nat} (h:i < n):(fv n f)[i]?=some (f i):=by simp [fv,h]
def Rp (f:Nat→Value) (k:Nat) (v:Value):Nat→Value:=fun i=>if i=k then v else f i
theorem Gq (n:Nat) (f:Nat→Value) (k:Nat) (v:Value):(fv n f).set k v=fv n (Rp f k v):=by
 refine List.ext_getElem? fun i=>?_;by_cases h:i < n
 ·rw [ng _ h,List.getElem?_set];by_cases e:k=i
  ·subst e;simp [BD,h,Rp]
  ·have:¬ i=k:=fun h=>e h.symm;simp [e,Rp,this,ng _ h]
 ·rw [List.getElem?_eq_none (by rw [List.length_set,BD];omega),List.getElem?_eq_none (by rw [BD];omega)]
theorem oN {n:Nat} {f g:Nat→Value} (h:∀ i,i < n→f i=g i):fv n f=fv n g:=List.map_congr_left fun i hi=>h i (List.mem_range.1 hi)
theorem yE (n:Nat) (v:Value):List.replicate n v=fv n (fun _=>v):=by simp [fv,List.map_const']

def ji (g n:Nat) (f:Nat→Int):CH.Own:=aS 3 1 (.slice (some ⟨g,0,none⟩) n n) n (fv n fun i=>.int .i64 (f i))
theorem yF {g n:Nat} {f:Nat→Int}:(ji g n f).Ok:=bA
theorem Qr {w:World} {F:Nat→Prop} {g n:Nat} {f:Nat→Int} (h:ji g n f w F) {k:Nat} (hk:k < n) (b:Int) {T:Nat→Int} (hT:∀ i,i < n→T i=if i=k then b else f i):Post w F (ji g n T) (w.setCell ⟨g,k,none⟩ (.int .i64 b)):=by
 have:=tN h (i:=k) (by omega) (.int .i64 b);rw [Gq] at this;unfold ji;rw [oN (f:=fun i=>.int .i64 (T i)) (g:=Rp (fun i=>.int .i64 (f i)) k (.int .i64 b)) (fun i hi=>by unfold Rp;simp only [hT i hi];split <;> rfl)];exact this
theorem SX {w:World} {F:Nat→Prop} {g n:Nat} {f:Nat→Int} (h:ji g n f w F) {k:Nat} (hk:k < n):w.cell? ⟨g,k,none⟩=some (.int .i64 (f k)):=kY h (ng _ hk)
theorem Nu {w:World} {F:Nat→Prop} {g n:Nat} {f:Nat→Int} (h:ji g n f w F) (k:Nat) (hn:0 < n):w.frozen? ⟨g,k,none⟩=false:=mG h k hn
end Go.Proofs.YtbnnlpjpnihheaaGreatDoor.Asn
namespace Go.Proofs.YtbnnlpjpnihheaaGreatDoor.Asn
open Go.RowKit Go.CH Go.CH.aY
open Go.ChangeMaps (setBlock)

structure BF (w:World) (A B G:Option Addr) (c:Nat→Nat→Int) (d e:Nat→Int) (n m:Nat):Prop where
 n7:n≤7
 m6:m≤6
 db:∀ i,i < n→0≤d i∧d i≤10000
 eb:∀ j,j < m→0≤e j∧e j≤10000
 cb:∀ i,i < n→∀ j,j < m→0≤c i j∧c i j≤100000
 ds:Src w B n 1 (fv n fun i=>.int .i64 (d i))
 es:Src w G m 1 (fv m fun j=>.int .i64 (e j))
 rows:∃ RV:List Value,Src w A n 1 RV∧∀ i,i < n→∃ R cp,RV[i]?=some (.slice R m cp) ∧
   ∀ j,j < m→∃ b' o',R=some ⟨b',o',none⟩∧∀ w',Below w.heap.size w w'→w'.cell? ⟨b',o'+j,none⟩=some (.int .i64 (c i j))
section
variable {w w':World} {A B G:Option Addr} {c:Nat→Nat→Int} {d e:Nat→Int} {n m:Nat}
theorem tK {xs:List Value} (h:Src w B n 1 xs) {i:Nat} (hi:i < n) {v:Value} (hv:xs[i]?=some v):∃ b o,B=some ⟨b,o,none⟩∧∀ w',Below w.heap.size w w'→w'.cell? ⟨b,o+i,none⟩=some v:=by
 obtain ⟨b,o,rfl,hc⟩:=Src.open_ h (by omega) (by omega);refine ⟨b,o,rfl,fun w' hb=>?_⟩;have h1:=hc i v hv;rw [hb.cell (World.block_lt_of_cell? _ _ h1)];exact h1
theorem BF.D (h:BF w A B G c d e n m) (i:Nat) (hi:i < n):∃ b o,B=some ⟨b,o,none⟩∧∀ w',Below w.heap.size w w'→w'.cell? ⟨b,o+i,none⟩=some (.int .i64 (d i)):=tK h.ds hi (ng _ hi)
theorem BF.E (h:BF w A B G c d e n m) (j:Nat) (hj:j < m):∃ b o,G=some ⟨b,o,none⟩∧∀ w',Below w.heap.size w w'→w'.cell? ⟨b,o+j,none⟩=some (.int .i64 (e j)):=tK h.es hj (ng _ hj)
theorem BF.R (h:BF w A B G c d e n m) (i:Nat) (hi:i < n):∃ b o R cp,A=some ⟨b,o,none⟩∧(∀ w',Below w.heap.size w w'→w'.cell? ⟨b,o+i,none⟩=some (.slice R m cp)) ∧
   ∀ j,j < m→∃ b' o',R=some ⟨b',o',none⟩∧∀ w',Below w.heap.size w w'→w'.cell? ⟨b',o'+j,none⟩=some (.int .i64 (c i j)):=by
 obtain ⟨RV,h1,h2⟩:=h.rows;obtain ⟨R,cp,h3,h4⟩:=h2 i hi;obtain ⟨b,o,h5,h6⟩:=tK h1 hi h3;exact ⟨b,o,R,cp,h5,h6,h4⟩
theorem Iz (l:List Int):ints l=fv l.length (fun i=>.int .i64 (lF l i)):=by
 refine List.ext_getElem? fun i=>?_;by_cases h:i < l.length
 ·rw [yh h,ng _ h,vM h]
 ·rw [List.getElem?_eq_none (by rw [yg];omega),List.getElem?_eq_none (by rw [BD];omega)]
theorem OL.q {C:List (List Int)} {D E:List Int} (h:OL w A B G C D E n m):BF w A B G (cF C) (lF D) (lF E) n m where
 n7:=by have:=h.n6;omega
 m6:=h.m6
 db:=fun i hi=>h.v.d i (by have:=h.hd;omega)
 eb:=fun i hi=>h.v.e i (by have:=h.hm;omega)
 cb:=fun i hi j hj=>h.v.c i (by have:=h.hd;omega) j (by have:=h.hm;omega)
 ds:=by have:=h.vd;unfold Vec at this;rw [Iz,h.hd] at this;exact this
 es:=by have:=h.ve;unfold Vec at this;rw [Iz,h.hm] at this;exact this
 rows:=by
  obtain ⟨V,hV⟩:=h.mat;have hs:=hV.src;rw [h.hn] at hs;refine ⟨_,hs,fun i hi=>?_⟩;have hi':i < C.length:=by have:=h.hn;omega
  have hv:V[i]?=some (V[i]'(by rw [hV.len];exact hi')):=List.getElem?_eq_getElem _;obtain ⟨h1,h2⟩:=hV.row i hi' _ hv;have hm:C[i].length=m:=by rw [h.v.row i hi'];exact h.hm
  refine ⟨(V[i]'(by rw [hV.len];exact hi')).1,(V[i]'(by rw [hV.len];exact hi')).2,?_,fun j hj=>?_⟩
  ·rw [List.getElem?_mapIdx,hv];simp [List.getD_eq_getElem?_getD,hi',hm]
  ·obtain ⟨b',o',g1,g2⟩:=h1.UN (by omega);exact ⟨b',o',g1,fun w' hb=>by rw [yD hi'];exact g2 w' hb j (by omega)⟩
theorem BF.below (h:BF w A B G c d e n m) (hb:Below w.heap.size w w'):BF w' A B G c d e n m where
 n7:=h.n7
 m6:=h.m6
 db:=h.db
 eb:=h.eb
 cb:=h.cb
 ds:=aR h.ds hb
 es:=aR h.es hb
 rows:=by
  obtain ⟨RV,h1,h2⟩:=h.rows;refine ⟨RV,aR h1 hb,fun i hi=>?_⟩;obtain ⟨R,cp,h3,h4⟩:=h2 i hi;exact ⟨R,cp,h3,fun j hj=>by obtain ⟨b',o',g1,g2⟩:=h4 j hj;exact ⟨b',o',g1,fun w2 g=>g2 w2 (aC hb g)⟩⟩
end
theorem Nv {U:Nat→Bool} {f:Nat→Int} {a:Int} {m:Nat} (ha:0≤a) (hf:∀ j,j < m→0≤f j):0≤qz U f a m:=by
 rcases wL (U:=U) (f:=f) (a:=a) (m:=m) with h | ⟨j,h1,_,h2⟩
 ·omega
 ·have:=hf j h1;omega
theorem Ak {w:World} {A B G:Option Addr} {c:Nat→Nat→Int} {d e:Nat→Int} {n m:Nat} (h:BF w A B G c d e n m) {k:Nat} (hk:k≤n) (U:Nat→Bool):0≤L c d e n m k U∧L c d e n m k U≤(k:Int)*10000+60000:=by
 induction k generalizing U with
 | zero =>
  have:=Gn (n:=m) (f:=fun j=>if U j then 0 else e j) (a:=0) (b:=10000) (fun i hi=>by have:=h.eb i hi;split <;> omega);have:=h.m6;unfold L;omega
 | succ k ih =>
  have h1:=nR (U:=U) (f:=fun j=>c (n - (k+1)) j+L c d e n m k (ins U j)) (a:=d (n - (k+1))+L c d e n m k U) (m:=m);have h2:=ih (by omega) U;have h3:=h.db (n - (k+1)) (by omega)
  have h4:=Nv (U:=U) (f:=fun j=>c (n - (k+1)) j+L c d e n m k (ins U j)) (a:=d (n - (k+1))+L c d e n m k U) (m:=m) (by omega) (fun j hj=>by
   have:=ih (by omega) (ins U j);have:=h.cb (n - (k+1)) (by omega) j hj;omega)
  show 0≤qz _ _ _ _∧qz _ _ _ _≤_
  rw [Int.natCast_add,Int.add_mul];omega
section
variable {w0:World} {A B G:Option Addr} {c:Nat→Nat→Int} {d e:Nat→Int} {n m g:Nat} {X:CH.Own}
end
end Go.Proofs.YtbnnlpjpnihheaaGreatDoor.Asn
namespace Go.Proofs.YtbnnlpjpnihheaaGreatDoor.Asn
open Go.RowKit Go.CH Go.CH.aY
open Go.ChangeMaps (setBlock)

def bt (s:Nat):Nat→Bool:=fun j=>s.testBit j
theorem IB:bt 0=uD:=by funext j;simp [bt,uD]
theorem Nw (s j:Nat):bt (s ||| 1 <<< j)=ins (bt s) j:=by
 funext x;simp only [bt,ins,Nat.testBit_or,Nat.one_shiftLeft,Nat.testBit_two_pow];congr 1;rw [Bool.eq_iff_iff];simp;omega
theorem Ny (n:Nat) (hn:n < 1000):bits .and .i64 (n:Int) 1=((n % 2:Nat):Int):=by
 have h1:∀ n:Fin 1000,bits .and .i64 ((n.val:Nat):Int) 1=((n.val % 2:Nat):Int):=by decide +kernel
 exact h1 ⟨n,hn⟩
theorem SY (a b:Nat) (ha:a < 64) (hb:b < 64):bits .or .i64 (a:Int) (b:Int)=((a ||| b:Nat):Int):=by
 have h1:∀ n m:Fin 64,bits .or .i64 ((n.val:Nat):Int) ((m.val:Nat):Int)=((n.val ||| m.val:Nat):Int):=by decide +kernel
 exact h1 ⟨a,ha⟩ ⟨b,hb⟩
theorem Ta (s j:Nat):(s / 2 ^ j) % 2=if bt s j then 1 else 0:=by
 unfold bt;rw [Nat.testBit_eq_decide_div_mod_eq];have:=Nat.mod_two_eq_zero_or_one (s / 2 ^ j);by_cases h:s / 2 ^ j % 2=1
 ·simp [h]
 ·simp [h];omega

theorem Gs (s j:Nat) (hs:s < 128):∃ q:Nat,(s:Int) / 2 ^ j=q∧bits .and .i64 (q:Int) 1=if bt s j then 1 else 0:=by
 refine ⟨s / 2 ^ j,?_,?_⟩
 ·rw [Int.natCast_ediv,Int.natCast_pow];rfl
 ·rw [Ny _ (Nat.lt_of_le_of_lt (Nat.div_le_self _ _) (by omega)),Ta];split <;> rfl

theorem Rq (s j:Nat) (hs:s < 64) (hj:j < 6):∃ p:Nat,wrap64 (2 ^ j)=p∧IntKind.i64.wrap (2 ^ j)=p∧bits .or .i64 (s:Int) (p:Int)=((s ||| 1 <<< j:Nat):Int):=by
 have h4:1 <<< j < 64:=by
  rw [Nat.one_shiftLeft];exact Nat.pow_lt_pow_right (by decide) hj (a:=2)
 have h3:(2:Int) ^ j=((1 <<< j:Nat):Int):=by rw [Nat.one_shiftLeft,Int.natCast_pow];rfl
 have h6:∀ q:Nat,q < 64→IntKind.i64.wrap (q:Int)=q:=fun q hq=>IntWalk.i64_in _ (by omega);refine ⟨1 <<< j,?_,?_,SY s _ hs h4⟩
 ·rw [←IntWalk.i64_left,h3];exact h6 _ h4
 ·rw [h3];exact h6 _ h4
theorem Tc (m:Nat) (hm:m≤6):wrap64 (2 ^ m)=((1 <<< m:Nat):Int):=by
 have h4:1 <<< m≤64:=by
  rw [Nat.one_shiftLeft];exact Nat.pow_le_pow_right (by decide) hm (n:=2)
 have h3:(2:Int) ^ m=((1 <<< m:Nat):Int):=by rw [Nat.one_shiftLeft,Int.natCast_pow];rfl
 have h6:∀ q:Nat,q≤64→IntKind.i64.wrap (q:Int)=q:=fun q hq=>IntWalk.i64_in _ (by omega);rw [←IntWalk.i64_left,h3];exact h6 _ h4
end Go.Proofs.YtbnnlpjpnihheaaGreatDoor.Asn
namespace Go.Proofs.YtbnnlpjpnihheaaGreatDoor.Asn
open Go.RowKit Go.CH Go.CH.aY
open Go.ChangeMaps (setBlock)

def jh (g n:Nat) (f:Nat→Int):CH.Own:=aS 127 64 (.slice (some ⟨g,0,none⟩) n n) n (fv (n*64) fun i=>.int .i64 (f i))
theorem iV {g n:Nat} {f:Nat→Int}:(jh g n f).Ok:=bA
theorem mq {g n:Nat} {f f':Nat→Int} (h:∀ i,i < n*64→f i=f' i):jh g n f=jh g n f':=by
 unfold jh;rw [oN (fun i hi=>by rw [h i hi])]
def nO (f:Nat→Int) (p:Nat) (v:Int):Nat→Int:=fun x=>if x=p then v else f x
theorem P5 {w:World} {F:Nat→Prop} {g n:Nat} {f:Nat→Int} (h:jh g n f w F) {k:Nat} (hk:k < n*64) (b:Int):Post w F (jh g n (nO f k b)) (w.setCell ⟨g,k,none⟩ (.int .i64 b)):=by
 have:=tN h (i:=k) hk (.int .i64 b);rw [Gq] at this;unfold jh;rw [oN (f:=fun i=>.int .i64 (nO f k b i)) (g:=Rp (fun i=>.int .i64 (f i)) k (.int .i64 b)) (fun i hi=>by unfold Rp nO;split <;> rfl)];exact this
theorem rF {w:World} {F:Nat→Prop} {g n:Nat} {f:Nat→Int} (h:jh g n f w F) {k:Nat} (hk:k < n*64):w.cell? ⟨g,k,none⟩=some (.int .i64 (f k)):=kY h (ng _ hk)
theorem Dz {w:World} {F:Nat→Prop} {g n:Nat} {f:Nat→Int} (h:jh g n f w F) (k:Nat) (hn:0 < n):w.frozen? ⟨g,k,none⟩=false:=mG h k hn
theorem M9 (n:Nat):(madeCells (Array.replicate 64 (Value.int .i64 0)) (n*64)).toList=fv (n*64) (fun _=>.int .i64 0):=by
 unfold fv;simp only [madeCells,Array.toList_map,Array.toList_range];refine List.map_congr_left fun i _=>?_;have:i % (Array.replicate 64 (Value.int .i64 0)).size < (Array.replicate 64 (Value.int .i64 0)).size:=by
  simp;omega
 simp only [getElem!_def];rw [Array.getElem?_eq_getElem this];simp
theorem P6:dh Tryz.prog 124 127 (.agg (Array.replicate 64 (.int .i64 0))) 64 512:=⟨Tryz.underlying124,by kernel_rfl,by decide,by decide⟩
theorem Bv {ops:Array Oper} {rest:List Oper} {o:Oper} {a:Act} {w:World} {Q:Exit→Act→World→Prop} (hg:o.guard=none) (l:Operand) (hop:o.op=Op.makeSlice 124 l l) (n:Nat) (hn:n≤1000) (hl:a.eval l=.int .i64 (n:Int))
  (hK:∀ w',Post w (fun _=>False) (jh w.heap.size n (fun _=>0)) w'→wpList Tryz.prog ops Q rest (a.put o.dst (.slice (some ⟨w.heap.size,0,none⟩) n n)) w'):wpList Tryz.prog ops Q (o :: rest) a w:=by
 obtain ⟨ht,hi,hzz,hsz⟩:=P6;obtain ⟨i,hi,hi1,hi2,hi3⟩:=info_parts hi;refine wpList_make_full w hg l l 124 hop w.heap.size 127 i _ 64 ht hi hi1 hi2 .i64 .i64 n n n hl hl rfl rfl (by rw [hi3];omega) (by simp only [maxLen];omega) (Nat.le_refl _) (fun w' h1 h2=>?_);refine hK w' (qg ?_ (Mod.below (F:=fun _=>False) (Mod.sH h2 (fun k hk=>by cases hk)) (fun _ _ h=>h)));rw [←M9];exact h1
section
variable {w:World} {A B G:Option Addr} {c:Nat→Nat→Int} {d e:Nat→Int} {n m:Nat}

def TB (c:Nat→Nat→Int) (d e:Nat→Int) (n m r s:Nat):Int:=L c d e n m (n - r) (bt s)

def iF (c:Nat→Nat→Int) (d e:Nat→Int) (n m M i k:Nat):Nat→Int:=fun x=>if x % 64 < M∧(i < x / 64∨(x / 64=i∧x % 64 < k)) then TB c d e n m (x / 64) (x % 64) else 0
theorem J8 {M x:Nat} (hx:x < (n+1)*64):iF c d e n m M n 0 x=0:=by
 unfold iF;rw [if_neg (by omega)]
theorem DC {M i k:Nat} (hM:M≤64) (hk:k < M) (x:Nat):nO (iF c d e n m M i k) (i*64+k) (TB c d e n m i k) x=iF c d e n m M i (k+1) x:=by
 unfold nO iF;by_cases e:x=i*64+k
 ·have h1:x / 64=i:=by omega
  have h2:x % 64=k:=by omega
  rw [if_pos e,if_pos (by omega),h1,h2]
 ·rw [if_neg e];by_cases h:x % 64 < M∧(i < x / 64∨(x / 64=i∧x % 64 < k))
  ·rw [if_pos h,if_pos (by omega)]
  ·rw [if_neg h,if_neg (by omega)]
theorem J9 {M i:Nat} (x:Nat):iF c d e n m M (i+1) M x=iF c d e n m M i 0 x:=by
 unfold iF;by_cases h:x % 64 < M∧(i+1 < x / 64∨(x / 64=i+1∧x % 64 < M))
 ·rw [if_pos h,if_pos (by omega)]
 ·rw [if_neg h,if_neg (by omega)]
theorem qd {M i k r s:Nat} (hM:M≤64) (hs:s < M) (h:i < r∨(r=i∧s < k)):iF c d e n m M i k (r*64+s)=TB c d e n m r s:=by
 unfold iF;have h1:(r*64+s) / 64=r:=by omega
 have h2:(r*64+s) % 64=s:=by omega
 rw [h1,h2,if_pos ⟨hs,h⟩]
theorem Ae {M i k:Nat} (hM:M≤64) (hk:k < M):iF c d e n m M i k (i*64+k)=0:=by
 unfold iF;rw [if_neg (by omega)]
theorem Ka (f:Nat→Int) (p x:Nat):nO f p (f p) x=f x:=by
 unfold nO;split
 ·rename_i h;rw [h]
 ·rfl
theorem Ke (f:Nat→Int) (p:Nat) (a b:Int) (x:Nat):nO (nO f p a) p b x=nO f p b x:=by
 unfold nO;split <;> rfl
theorem P7 (f:Nat→Int) (p:Nat) (a:Int):nO f p a p=a:=by simp [nO]
theorem P8 (s:Nat):TB c d e n m n s=sg m (fun j=>if bt s j then 0 else e j):=by unfold TB;rw [Nat.sub_self];rfl
theorem SE {i:Nat} (hi:i < n) (s:Nat):TB c d e n m i s=qz (bt s) (fun j=>c i j+TB c d e n m (i+1) (s ||| 1 <<< j)) (d i+TB c d e n m (i+1) s) m:=by
 unfold TB;have h1:n - i=(n - (i+1))+1:=by omega
 rw [h1,L];have h2:n - (n - (i+1)+1)=i:=by omega
 rw [h2];exact zB (fun j _=>by rw [Nw]) (fun _ _=>rfl)
def Na (w:World) (c:Nat→Nat→Int) (d e:Nat→Int) (n m:Nat) (en:Ending) (w':World):Prop :=
 ∃ g,en=.returned (.slice (some ⟨g,0,none⟩) (n+1) (n+1))∧Post w (fun _=>False) (jh g (n+1) (iF c d e n m (1 <<< m) 0 (1 <<< m))) w'
theorem Ij {X:CH.Own} {g N:Nat} {f f':Nat→Int} {W:World} (h:Run (fun _=>False) w (jh g N f) W) {p:Nat} (hp:p < N*64) (v:Int) (hf:∀ x,nO f p v x=f' x):Run (fun _=>False) w (jh g N f') (W.setCell ⟨g,p,none⟩ (.int .i64 v)):=by
 obtain ⟨F1,h1,bk⟩:=h.all iV;have:=bk _ _ (P5 h1 hp v)
 rwa [mq (fun x _=>hf x)] at this
theorem Nb {m j s:Nat} (hm:m≤6) (hs:s < 1 <<< m) (hj:j < m):s ||| 1 <<< j < 1 <<< m:=by
 rw [Nat.one_shiftLeft] at *
 rw [Nat.one_shiftLeft];exact Nat.or_lt_two_pow hs (Nat.pow_lt_pow_right (by decide) hj)
theorem Nc {m:Nat} (hm:m≤6):1 <<< m≤64:=by
 rw [Nat.one_shiftLeft];exact Nat.pow_le_pow_right (by decide) hm
theorem Af (hq:BF w A B G c d e n m) (ca cb cg:Nat) :
  Calls Tryz.prog 59 #[.slice A n ca,.slice B n cb,.slice G m cg] w (Na w c d e n m):=by
 have HQ:=hide hq;have hn7:=hq.n7;have hm6:=hq.m6;clear hq;have hM:=Nc hm6;have HPW:=hide (fun s j hs hj=>Nb (m:=m) (s:=s) (j:=j) hm6 hs hj);have hshl:=Tc m hm6;have HRET:=hide (show ∀ (g:Nat) w',Run (fun _=>False) w (jh g (n+1) (iF c d e n m (1 <<< m) 0 (1 <<< m))) w'→Na w c d e n m (.returned (.slice (some ⟨g,0,none⟩) (n+1) (n+1))) w' from fun g w' h=>⟨g,rfl,h.post iV⟩);generalize 1 <<< m=M at *
 go_enter Tryz.func59,Tryz.ntmps59
 go_wp2_with (refine Bv rfl (.tmp 18) rfl (n+1) (by omega) (by simp [Act.eval]) ?_;refine held ?_);refine Held.mk fun w1 hP1=>?_;have R1:=hide (((Run.begin w).fresh aB hP1).imp fun _ _ h=>iM h);clear hP1;generalize hg:w.heap.size=g at *
 rw [mq (f:=fun _=>0) (f':=iF c d e n m M n 0) (fun x hx=>(J8 hx).symm)] at R1;go_wp2;go_loopw [23] (fun i wr=>∃ k:Nat,k≤M∧i=.int .i64 k∧Run (fun _=>False) w (jh g (n+1) (iF c d e n m M n k)) wr) (fun i _=>M - (intOf i).toNat)
 case atStart=>exact ⟨0,Nat.zero_le _,rfl,R1.out⟩
 case round =>
  obtain ⟨k,hk,rfl,hR⟩:=hrel;have HR:=hide hR;clear hR R1;by_cases hlt:k < M
  ·have R2:Hid (Run (fun _=>False) w (jh g (n+1) (nO (iF c d e n m M n k) (n*64+k) 0)) wr):=hide (by
    rw [mq (f':=iF c d e n m M n k) (fun x _=>by rw [←Ae (c:=c) (d:=d) (e:=e) (n:=n) (m:=m) (i:=n) hM hlt,Ka])]
    exact HR.out)
   go_wp2;go_loopw [28] (fun x wr=>∃ j:Nat,j≤m∧x=.int .i64 j∧Run (fun _=>False) w (jh g (n+1) (nO (iF c d e n m M n k) (n*64+k) (sg j (fun j=>if bt k j then 0 else e j)))) wr) (fun x _=>m - (intOf x).toNat)
   case atStart=>exact ⟨0,Nat.zero_le _,rfl,R2.out⟩
   case round =>
    obtain ⟨j,hj,rfl,hR⟩:=hrel;have HR3:=hide hR
    have hsb:=Gn (n:=j) (f:=fun j=>if bt k j then 0 else e j) (a:=0) (b:=10000) (fun i hi=>by
     have:=HQ.out.eb i (by omega)
     split <;> omega)
    clear HR R2;by_cases hjt:j < m
    ·obtain ⟨be,oe,rfl,hce⟩:=HQ.out.E j hjt;have heb:=HQ.out.eb j hjt;have c0:=hce _ hR.bI;obtain ⟨q,hq1,hq2⟩:=Gs k j (by omega);have HS:=hide (bT (n:=j) (f:=fun j=>if bt k j then 0 else e j));generalize e j=y at *
     generalize sg j (fun j=>if bt k j=true then 0 else e j)=z at *
     clear hce;cases hu:bt k j with
     | true =>
      rw [hu] at hq2 HS;simp only [if_true] at hq2;clear hu hR;go_wp2
      go_roundw
      case rel=>exact ⟨j+1,by omega,by go_num,by rw [HS.out];simpa using HR3.out⟩
      case measure=>simp [intOf];omega
     | false =>
      rw [hu] at hq2 HS;simp only [Bool.false_eq_true,if_false] at hq2;have R4:=hR.drew iV;obtain ⟨F,hF⟩:=R4.get;have c1:=rF hF (k:=n*64+k) (by omega);rw [P7] at c1;have hfr:=Dz hF (n*64+k) (by omega);have R5:=hide (Ij (X:=emp) R4 (p:=n*64+k) (by omega) (z+y) (f':=nO (iF c d e n m M n k) (n*64+k) (z+y)) (fun x=>Ke _ _ _ _ _));have hk64:(k:Int) < 64:=by omega
      have tn:(n:Int) < (n:Int)+1:=by omega
      have t1:IntKind.i64.wrap (z+y)=z+y:=IntWalk.i64_in _ (by omega);clear hu hF R4 hR;go_wp2_with fail;refine fJ (fun w'=>w'=wr.drew) (by kernel_rfl) (by kernel_rfl) (by kernel_rfl) rfl ?_;generalize wr.drew=wd at *
      (repeat ((first | refine jU (by rfl) ?_ | (refine jV (v:=?_) (by rfl) ?_ ?_;rotate_left;(focus (intro w' hS';go_simp;(try with_reducible rfl);done))));try simp only [Act.put,List.setIfInBounds_toArray,List.set_cons_zero,List.set_cons_succ]))
      refine kV rfl (by rfl) (fun K hK=>?_);go_wp2_with fail;refine hK.out _ _ ?_;clear hK c1 hfr;go_wp2
      go_roundw
      case rel=>exact ⟨j+1,by omega,by go_num,by rw [HS.out];simpa using R5.out⟩
      case measure=>simp [intOf];omega
    ·obtain rfl:j=m:=by omega
     have R6:Hid (Run (fun _=>False) w (jh g (n+1) (iF c d e n j M n (k+1))) wr):=hide (by
      rw [←mq (f:=nO (iF c d e n j M n k) (n*64+k) (TB c d e n j n k)) (fun x _=>DC hM hlt x),P8]
      exact HR3.out)
     clear HR3 hR;go_wp2
     go_roundw
     case rel=>exact ⟨k+1,by omega,by go_num,R6.out⟩
     case measure=>simp [intOf];omega
  ·obtain rfl:k=M:=by omega
   clear hlt;go_wp2;go_loopw [11] (fun x wr=>∃ (a:Nat) (x0:Int),a≤n∧x=.int .i64 x0∧x0=(a:Int) - 1∧Run (fun _=>False) w (jh g (n+1) (iF c d e n m k a k)) wr) (fun x _=>(intOf x+1).toNat)
   case atStart=>exact ⟨n,(n:Int) - 1,Nat.le_refl _,by go_num,rfl,HR.out⟩
   case round =>
    obtain ⟨a,x0,ha,rfl,hx0,hR⟩:=hrel;have HR3:=hide hR;clear HR hR;cases a with
    | zero =>
     have tx:¬ 0≤x0:=by omega
     clear hx0;go_wp2;go_ret;exact HRET.out _ _ HR3.out
    | succ i =>
     obtain rfl:x0=(i:Int):=by omega
     have R4:Hid (Run (fun _=>False) w (jh g (n+1) (iF c d e n m k i 0)) wr):=hide (by
      rw [←mq (fun x _=>J9 x)];exact HR3.out)
     clear HR3 hx0;go_wp2;go_loopw [61] (fun x wr=>∃ s:Nat,s≤k∧x=.int .i64 s∧Run (fun _=>False) w (jh g (n+1) (iF c d e n m k i s)) wr) (fun x _=>k - (intOf x).toNat)
     case atStart=>exact ⟨0,Nat.zero_le _,rfl,R4.out⟩
     case round =>
      obtain ⟨s,hs,rfl,hR⟩:=hrel;have HR5:=hide hR;clear R4;by_cases hst:s < k
      ·have R6:=hR.drew iV;have HR6:=hide R6;obtain ⟨bd,od,rfl,hcd⟩:=HQ.out.D i (by omega);have hdb:=HQ.out.db i (by omega);have c0:=hcd _ R6.bI;obtain ⟨F,hF⟩:=R6.get;have c1:=rF hF (k:=(i+1)*64+s) (by omega);rw [qd hM hst (.inl (by omega))] at c1;have hl1:0≤TB c d e n m (i+1) s∧TB c d e n m (i+1) s≤200000:=by
        have:=Ak HQ.out (show n - (i+1)≤n by omega) (bt s);unfold TB;omega
       have hin:i < n:=by omega
       have hs64:(s:Int) < 64:=by omega
       have ti:(0:Int)≤(i:Int)+1:=by omega
       have t1:IntKind.i64.wrap ((i:Int)+1)=((i+1:Nat):Int):=by rw [IntWalk.i64_in _ (by omega)];omega
       have t2:IntKind.i64.wrap (d i+TB c d e n m (i+1) s)=d i+TB c d e n m (i+1) s:=IntWalk.i64_in _ (by omega);have HTR:=hide (SE (c:=c) (d:=d) (e:=e) (m:=m) (show i < n by omega) s);clear hF hcd hR R6 HR5;go_wp2_with fail;refine aI (fun w'=>w'=wr.drew) (by kernel_rfl) (by kernel_rfl) rfl ?_;generalize wr.drew=wd at *
       (repeat ((first | refine aK (by rfl) ?_ | (refine aL (v:=?_) (by rfl) ?_ ?_;rotate_left;(focus (intro w' hS';go_simp;(try with_reducible rfl);done))));try simp only [Act.put,List.setIfInBounds_toArray,List.set_cons_zero,List.set_cons_succ]))
       refine lex_nil ?_;clear t1 t2 c0 c1 ti;obtain ⟨ba,oa,R,cR,rfl,hca,hrow⟩:=HQ.out.R i hin;have c2:=hca _ HR6.out.bI;clear hca;go_wp2;go_loopw [13,81] (fun b x wr=>∃ j:Nat,j≤m∧b=.int .i64 (qz (bt s) (fun j=>c i j+TB c d e n m (i+1) (s ||| 1 <<< j)) (d i+TB c d e n m (i+1) s) j)∧x=.int .i64 j∧Run (fun _=>False) w (jh g (n+1) (iF c d e n m k i s)) wr) (fun _ x _=>m - (intOf x).toNat)
       case atStart=>exact ⟨0,Nat.zero_le _,by simp [qz],rfl,HR6.out⟩
       case round =>
        obtain ⟨j,hj,rfl,rfl,hR⟩:=hrel;have HR7:=hide hR;clear HR6;by_cases hjt:j < m
        ·obtain ⟨b',o',rfl,hcc⟩:=hrow j hjt;have c3:=hcc _ hR.bI;have hcb:=HQ.out.cb i hin j hjt;have hi0:=nR (U:=bt s) (f:=fun j=>c i j+TB c d e n m (i+1) (s ||| 1 <<< j)) (a:=d i+TB c d e n m (i+1) s) (m:=j)
         have hi2:=Nv (U:=bt s) (f:=fun j=>c i j+TB c d e n m (i+1) (s ||| 1 <<< j)) (a:=d i+TB c d e n m (i+1) s) (m:=j) (by omega) (fun t ht=>by
          have:=Ak HQ.out (show n - (i+1)≤n by omega) (bt (s ||| 1 <<< t));have:=HQ.out.cb i hin t (by omega);unfold TB;omega)
         have HS:=hide (show qz (bt s) (fun j=>c i j+TB c d e n m (i+1) (s ||| 1 <<< j)) (d i+TB c d e n m (i+1) s) (j+1)=if bt s j then qz (bt s) (fun j=>c i j+TB c d e n m (i+1) (s ||| 1 <<< j)) (d i+TB c d e n m (i+1) s) j else min (qz (bt s) (fun j=>c i j+TB c d e n m (i+1) (s ||| 1 <<< j)) (d i+TB c d e n m (i+1) s) j) (c i j+TB c d e n m (i+1) (s ||| 1 <<< j)) from rfl);generalize qz (bt s) (fun j=>c i j+TB c d e n m (i+1) (s ||| 1 <<< j)) (d i+TB c d e n m (i+1) s) j=q at *
         obtain ⟨z,hq1,hq2⟩:=Gs s j (by omega);have HROW:=hide hrow;clear hcc hrow;cases hu:bt s j with
         | true =>
          rw [hu] at hq2 HS;simp only [if_true] at hq2;clear hu hR hi0 hi2;go_wp2
          go_roundw
          case rel=>exact ⟨j+1,by omega,by rw [HS.out];simp,by go_num,HR7.out⟩
          case measure=>simp [intOf];omega
         | false =>
          rw [hu] at hq2 HS;simp only [Bool.false_eq_true,if_false] at hq2;obtain ⟨p,hp1,hp2,hp3⟩:=Rq s j (by omega) (by omega);have hlt2:=HPW.out s j hst hjt;have hl2:0≤TB c d e n m (i+1) (s ||| 1 <<< j)∧TB c d e n m (i+1) (s ||| 1 <<< j)≤200000:=by
           have:=Ak HQ.out (show n - (i+1)≤n by omega) (bt (s ||| 1 <<< j));unfold TB;omega
          have R8:=hR.drew iV;have HR8:=hide R8;obtain ⟨F,hF⟩:=R8.get;have c4:=rF hF (k:=(i+1)*64+(s ||| 1 <<< j)) (by omega);rw [qd hM hlt2 (.inl (by omega))] at c4;generalize s ||| 1 <<< j=so at *
          generalize TB c d e n m (i+1) so=T at *
          have HMIN:=hide (show min q (c i j+T)=if c i j+T < q then c i j+T else q by omega);have t1:IntKind.i64.wrap ((i:Int)+1)=((i+1:Nat):Int):=by rw [IntWalk.i64_in _ (by omega)];omega
          have t2:IntKind.i64.wrap (c i j+T)=c i j+T:=IntWalk.i64_in _ (by omega);have ti:(0:Int)≤(i:Int)+1:=by omega
          have ts:(so:Int) < 64:=by omega
          clear hu hR hF R8 hi0 hi2 c2;go_wp2_with fail;refine aI (fun w'=>w'=wr.drew) (by kernel_rfl) (by kernel_rfl) rfl ?_;generalize wr.drew=wd at *
          (repeat ((first | refine aK (by rfl) ?_ | (refine aL (v:=?_) (by rfl) ?_ ?_;rotate_left;(focus (intro w' hS';go_simp;(try with_reducible rfl);done))));try simp only [Act.put,List.setIfInBounds_toArray,List.set_cons_zero,List.set_cons_succ]))
          refine lex_nil ?_;clear t1 t2 ti ts c4 hp1 hp2 hp3;go_wp2
          go_roundw
          case rel=>exact ⟨j+1,by omega,by rw [HS.out];first | (rw [←HMIN.out];rfl) | (simp),by go_num,HR8.out⟩
          case measure=>simp [intOf];omega
        ·obtain rfl:j=m:=by omega
         obtain ⟨F,hF⟩:=hR.get;have c1:=rF hF (k:=i*64+s) (by omega);rw [Ae hM hst] at c1;have hfr:=Dz hF (i*64+s) (by omega);rw [←HTR.out];have R9:=hide (Ij (X:=emp) hR (p:=i*64+s) (by omega) (TB c d e n j i s) (fun x=>DC hM hst x));have ti2:(i:Int) < (n:Int)+1:=by omega
         clear hF hR hrow HR7;go_wp2
         go_roundw
         case rel=>exact ⟨s+1,by omega,by go_num,R9.out⟩
         case measure=>simp [intOf];omega
      ·obtain rfl:s=k:=by omega
       clear hR;go_wp2
       go_roundw
       case rel=>exact ⟨i,(i:Int) - 1,by omega,rfl,rfl,HR5.out⟩
       case measure=>simp [intOf];try omega
end
end Go.Proofs.YtbnnlpjpnihheaaGreatDoor.Asn
