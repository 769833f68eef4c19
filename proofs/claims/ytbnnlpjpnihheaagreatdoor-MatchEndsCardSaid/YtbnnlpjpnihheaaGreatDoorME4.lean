/- A part of the proof: lemmas. -/
import Derived.Test.YtbnnlpjpnihheaaGreatDoorME1
import Derived.Test.YtbnnlpjpnihheaaGreatDoorME3
import Derived.Shelf.Strings.SlTrimAscii
import Derived.Test.YtbnnlpjpnihheaaGreatDoorME2
set_option maxHeartbeats 16000000
set_option maxRecDepth 100000
set_option linter.unusedSimpArgs false
set_option linter.unusedVariables false
namespace Go.CH.dK
open Go.CH.Scr
structure Rule where
 k:Int
 f:Bs
 t:Bs
 c:Int
deriving DecidableEq

structure St where
 i:Nat
 j:Nat
 a:Bs
 r:Bool
deriving DecidableEq

structure Wd where
 ka:Int
 kb:Int
 l:List Bs
 m:List Bs
 rs:List Rule

def tk:List Bs→Bs→Option Nat
 | _,[]=>some 0
 | [],_ :: _=>none
 | x :: l,c :: t=>if x.isPrefixOf (c :: t) then (tk l ((c :: t).drop x.length)).map (· + 1) else none
def takes (l:List Bs) (t:Bs):Nat:=(tk l t).getD 0
variable {W:Wd} {s s' t:St} {R:Rule} {c d:Int} {n:Nat}

def Wd.left (W:Wd) (s:St):Bool:=s.r || (decide (s.a=[]) && decide (s.i≠W.l.length))
def Wd.used (W:Wd) (s:St) (R:Rule):Nat :=
 if W.left s then (if R.k=W.ka then takes (W.l.drop s.i) R.f else 0) else (if R.k=W.kb then takes (W.m.drop s.j) R.f else 0)

def Wd.ah (W:Wd) (s:St) (tw:Bs):Option (Bs × Bool) :=
 if tw.isPrefixOf s.a∧s.a.drop tw.length≠[] then some (s.a.drop tw.length,s.r)
 else if s.a.isPrefixOf tw then some (tw.drop s.a.length,!W.left s && decide (tw.drop s.a.length≠[]))
 else none
def Wd.mv (W:Wd) (s:St) (R:Rule):Option (Int × St) :=
 if W.used s R=0 then none
 else (W.ah s R.t).map fun x=>(R.c,if W.left s then ⟨s.i+W.used s R,s.j,x.1,x.2⟩ else ⟨s.i,s.j+W.used s R,x.1,x.2⟩)
def Wd.moves (W:Wd) (s:St):List (Int × St):=W.rs.filterMap (W.mv s)
def Wd.fin (W:Wd):St:=⟨W.l.length,W.m.length,[],false⟩
def st0:St:=⟨0,0,[],false⟩
theorem mQ {a b:Bs}:a.isPrefixOf b=true↔∃ r,b=a ++ r:=by
 rw [List.isPrefixOf_iff_prefix];exact ⟨fun ⟨r,h⟩=>⟨r,h.symm⟩,fun ⟨r,h⟩=>⟨r,h.symm⟩⟩
theorem E5 {l:List Bs}:tk l []=some 0:=by cases l <;> rfl

theorem Hg:∀ {l:List Bs} {t:Bs} {n:Nat},tk l t=some n→n≤l.length∧(l.take n).flatten=t:=by
 intro l
 induction l with
 | nil =>
  intro t n h;cases t with
  | nil=>rw [E5] at h;injection h with h;subst h;exact ⟨Nat.le_refl _,rfl⟩
  | cons c t=>cases h
 | cons x l ih =>
  intro t n h;cases t with
  | nil=>rw [E5] at h;injection h with h;subst h;exact ⟨Nat.zero_le _,rfl⟩
  | cons c t =>
   unfold tk at h;split at h
   ·rename_i hp;obtain ⟨r,hr⟩:=mQ.1 hp;rw [Option.map_eq_some_iff] at h;obtain ⟨k,hk,rfl⟩:=h;obtain ⟨h1,h2⟩:=ih hk;refine ⟨Nat.succ_le_succ h1,?_⟩;rw [List.take_succ_cons,List.flatten_cons,h2,hr,List.drop_left]
   ·cases h
theorem wW {l:List Bs} {t:Bs}:takes l t≤l.length:=by
 unfold takes;cases h:tk l t with
 | none=>exact Nat.zero_le _
 | some n=>exact (Hg h).1
theorem E8 {l:List Bs} {t:Bs} (h:takes l t≠0):(l.take (takes l t)).flatten=t:=by
 unfold takes at h ⊢;cases h2:tk l t with
 | none=>rw [h2] at h;exact absurd rfl h
 | some n=>exact (Hg h2).2

theorem TQ:∀ {l:List Bs} {n:Nat},n≤l.length→(∀ x ∈ l,x≠[])→tk l (l.take n).flatten=some n:=by
 intro l
 induction l with
 | nil=>intro n hn _;obtain rfl:n=0:=Nat.le_zero.1 hn;exact E5
 | cons x l ih =>
  intro n hn hx;cases n with
  | zero=>rfl
  | succ n =>
   have ih':=ih (n:=n) (by simpa using hn) (fun y hy=>hx y (List.mem_cons_of_mem _ hy));have hx0:=hx x (List.mem_cons_self ..);cases x with
   | nil=>exact absurd rfl hx0
   | cons b x =>
    show tk ((b :: x) :: l) (b :: (x ++ (l.take n).flatten))=some (n+1)
    unfold tk;rw [if_pos (show (b :: x).isPrefixOf (b :: (x ++ (l.take n).flatten))=true from mQ.2 ⟨(l.take n).flatten,rfl⟩)];have:(b :: (x ++ (l.take n).flatten)).drop (b :: x).length=(l.take n).flatten:=List.drop_left;rw [this,ih'];rfl
theorem LK {l:List Bs} {n:Nat} (hn:n≤l.length) (hx:∀ x ∈ l,x≠[]):takes l (l.take n).flatten=n:=by unfold takes;rw [TQ hn hx];rfl

def Wd.ok (W:Wd) (s:St):Prop:=s.i≤W.l.length∧s.j≤W.m.length∧(s.r=true→s.a≠[])
def Wd.rank (W:Wd) (s:St):Nat:=(W.l.length - s.i)+(W.m.length - s.j)
theorem ok0:W.ok st0:=⟨Nat.zero_le _,Nat.zero_le _,fun h=>by cases h⟩
theorem Bj (h:W.mv s R=some (c,s')):c=R.c∧W.used s R≠0∧∃ x,W.ah s R.t=some x∧s'=(if W.left s then ⟨s.i+W.used s R,s.j,x.1,x.2⟩ else ⟨s.i,s.j+W.used s R,x.1,x.2⟩):=by
 unfold Wd.mv at h;split at h
 ·cases h
 ·rename_i hu;rw [Option.map_eq_some_iff] at h;obtain ⟨x,hx,he⟩:=h;injection he with h1 h2
  exact ⟨h1.symm,hu,x,hx,h2.symm⟩
theorem Pg:(W.left s=true→s.i≤W.l.length→s.i+W.used s R≤W.l.length)∧(W.left s=false→s.j≤W.m.length→s.j+W.used s R≤W.m.length):=by
 unfold Wd.used;constructor
 ·intro h hi;rw [if_pos h];split
  ·have:=wW (l:=W.l.drop s.i) (t:=R.f);rw [List.length_drop] at this;omega
  ·omega
 ·intro h hj;rw [if_neg (by rw [h];decide)];split
  ·have:=wW (l:=W.m.drop s.j) (t:=R.f);rw [List.length_drop] at this;omega
  ·omega
theorem Q8 {x:Bs × Bool} {tw:Bs} (h:W.ah s tw=some x):x.2=true→x.1≠[]:=by
 unfold Wd.ah at h;split at h
 ·rename_i h1;injection h with h;subst h;exact fun _=>h1.2
 ·split at h
  ·injection h with h;subst h;intro h2;simp at h2;simpa using h2.2
  ·cases h
theorem TR (hs:W.ok s) (h:W.mv s R=some (c,s')):W.ok s'∧W.rank s' < W.rank s:=by
 obtain ⟨-,hu,x,hx,rfl⟩:=Bj h;obtain ⟨h1,h2,h3⟩:=hs;have hle:=Pg (W:=W) (s:=s) (R:=R);cases hl:W.left s with
 | true =>
  have h4:=hle.1 hl h1;simp only [if_true];exact ⟨⟨h4,h2,Q8 hx⟩,by show (W.l.length - (s.i+W.used s R))+(W.m.length - s.j) < (W.l.length - s.i)+(W.m.length - s.j);omega⟩
 | false =>
  have h4:=hle.2 hl h2;simp only [Bool.false_eq_true,if_false];exact ⟨⟨h1,h4,Q8 hx⟩,by show (W.l.length - s.i)+(W.m.length - (s.j+W.used s R)) < (W.l.length - s.i)+(W.m.length - s.j);omega⟩
theorem uI (h:(c,s') ∈ W.moves s):∃ R ∈ W.rs,W.mv s R=some (c,s'):=by
 unfold Wd.moves at h;exact List.mem_filterMap.1 h
theorem dS (hs:W.ok s) (h:(c,s') ∈ W.moves s):W.ok s'∧W.rank s' < W.rank s:=by
 obtain ⟨R,_,hm⟩:=uI h;exact TR hs hm

inductive EI (W:Wd) (s:St):St→Prop
 | refl:EI W s s
 | step {s' s'':St} {c:Int} (h:EI W s s') (hm:(c,s'') ∈ W.moves s'):EI W s s''
theorem EI.ok (hs:W.ok s) (h:EI W s s'):W.ok s':=by
 induction h with
 | refl=>exact hs
 | step _ hm ih=>exact (dS ih hm).1
theorem EI.trans {a b c:St} (h:EI W a b) (h2:EI W b c):EI W a c:=by
 induction h2 with
 | refl=>exact h
 | step _ hm ih=>exact .step ih hm

inductive Pa (W:Wd):St→Int→St→Prop
 | nil (s:St):Pa W s 0 s
 | cons {s s' t:St} {c d:Int} (hm:(c,s') ∈ W.moves s) (h:Pa W s' d t):Pa W s (c+d) t

def never:Int:=1099511627776
def Wd.dn (W:Wd):Nat→St→Int
 | 0,s=>if s=W.fin then 0 else never
 | n+1,s=>(W.moves s).foldl (fun h x=>min h (x.1+W.dn n x.2)) (if s=W.fin then 0 else never)
def Wd.dist (W:Wd) (s:St):Int:=W.dn (W.rank s) s
theorem Bl {α:Type} (f:α→Int):∀ (l:List α) (h:Int),l.foldl (fun h x=>min h (f x)) h≤h∧∀ x ∈ l,l.foldl (fun h x=>min h (f x)) h≤f x:=by
 intro l
 induction l with
 | nil=>intro h;exact ⟨Int.le_refl _,fun x hx=>by cases hx⟩
 | cons y l ih =>
  intro h;obtain ⟨h1,h2⟩:=ih (min h (f y));rw [List.foldl_cons];refine ⟨Int.le_trans h1 (Int.min_le_left ..),fun x hx=>?_⟩;rcases List.mem_cons.1 hx with rfl | hx
  ·exact Int.le_trans h1 (Int.min_le_right ..)
  ·exact h2 x hx
theorem fold_eq {α:Type} (f:α→Int):∀ (l:List α) (h:Int),l.foldl (fun h x=>min h (f x)) h=h∨∃ x ∈ l,l.foldl (fun h x=>min h (f x)) h=f x:=by
 intro l
 induction l with
 | nil=>intro h;exact .inl rfl
 | cons y l ih =>
  intro h;rw [List.foldl_cons];rcases ih (min h (f y)) with h1 | ⟨x,hx,h1⟩
  ·rw [h1];rcases Int.le_total h (f y) with h2 | h2
   ·exact .inl (Int.min_eq_left h2)
   ·exact .inr ⟨y,List.mem_cons_self ..,Int.min_eq_right h2⟩
  ·exact .inr ⟨x,List.mem_cons_of_mem _ hx,h1⟩
theorem fold_congr {α:Type} (f g:α→Int):∀ (l:List α) (h:Int),(∀ x ∈ l,f x=g x)→l.foldl (fun h x=>min h (f x)) h=l.foldl (fun h x=>min h (g x)) h:=by
 intro l
 induction l with
 | nil=>intro h _;rfl
 | cons y l ih =>
  intro h he;rw [List.foldl_cons,List.foldl_cons,he y (List.mem_cons_self ..)];exact ih _ (fun x hx=>he x (List.mem_cons_of_mem _ hx))
theorem zN:∀ (n m:Nat) (s:St),W.ok s→W.rank s≤n→W.rank s≤m→W.dn n s=W.dn m s:=by
 intro n
 induction n with
 | zero =>
  intro m s hs hn hm;cases m with
  | zero=>rfl
  | succ m =>
   have:W.moves s=[]:=by
    cases h:W.moves s with
    | nil=>rfl
    | cons x l =>
     have:=(dS (c:=x.1) (s':=x.2) hs (by rw [h];exact List.mem_cons_self ..)).2;omega
   unfold Wd.dn;rw [this];rfl
 | succ n ih =>
  intro m s hs hn hm;cases m with
  | zero =>
   have:W.moves s=[]:=by
    cases h:W.moves s with
    | nil=>rfl
    | cons x l =>
     have:=(dS (c:=x.1) (s':=x.2) hs (by rw [h];exact List.mem_cons_self ..)).2;omega
   unfold Wd.dn;rw [this];rfl
  | succ m =>
   unfold Wd.dn;refine fold_congr _ _ _ _ (fun x hx=>?_);have:=dS (c:=x.1) (s':=x.2) hs hx;rw [ih m x.2 this.1 (by omega) (by omega)]

theorem jO (hs:W.ok s):W.dist s=(W.moves s).foldl (fun h x=>min h (x.1+W.dist x.2)) (if s=W.fin then 0 else never):=by
 unfold Wd.dist;rw [zN (W.rank s) (W.rank s+1) s hs (Nat.le_refl _) (by omega)]
 show List.foldl (fun h x=>min h (x.1+W.dn (W.rank s) x.2)) (if s=W.fin then 0 else never) (W.moves s)=_
 refine fold_congr _ _ _ _ (fun x hx=>?_);have:=dS (c:=x.1) (s':=x.2) hs hx;rw [zN (W.rank s) (W.rank x.2) x.2 this.1 (by omega) (by omega)]
theorem Jo (hs:W.ok s) (h:(c,s') ∈ W.moves s):W.dist s≤c+W.dist s':=by
 rw [jO hs];exact (Bl (fun x:Int × St=>x.1+W.dist x.2) (W.moves s) _).2 (c,s') h
theorem mR (hs:W.ok s):W.dist s≤never:=by
 rw [jO hs];refine Int.le_trans (Bl (fun x:Int × St=>x.1+W.dist x.2) (W.moves s) _).1 ?_;split
 ·decide
 ·exact Int.le_refl _
theorem Jp (h:W.rs.all (fun R=>decide (R.f≠[]))=true):W.moves W.fin=[]:=by
 unfold Wd.moves;rw [List.filterMap_eq_nil_iff];intro R hR;have hf:R.f≠[]:=by simpa using List.all_eq_true.1 h R hR
 have hl:W.left W.fin=false:=by simp [Wd.left,Wd.fin]
 unfold Wd.mv;rw [if_pos];unfold Wd.used;rw [if_neg (by rw [hl];decide)];split
 ·rw [show W.fin.j=W.m.length from rfl,List.drop_length];cases hb:R.f with
  | nil=>exact absurd hb hf
  | cons b f=>rfl
 ·rfl

def Wd.good (W:Wd):Prop:=∀ R ∈ W.rs,0≤R.c∧R.c≤1000∧R.f≠[]
theorem jI (hg:W.good) (h:(c,s') ∈ W.moves s):0≤c∧c≤1000:=by
 obtain ⟨R,hR,hm⟩:=uI h;obtain ⟨rfl,_⟩:=Bj hm;exact ⟨(hg R hR).1,(hg R hR).2.1⟩
theorem LM (hg:W.good):∀ (n:Nat) (s:St),W.ok s→W.rank s≤n→0≤W.dist s:=by
 intro n
 induction n with
 | zero =>
  intro s hs hn;rw [jO hs];rcases fold_eq (fun x:Int × St=>x.1+W.dist x.2) (W.moves s) (if s=W.fin then 0 else never) with h | ⟨x,hx,_⟩
  ·rw [h];split <;> decide
  ·have:=(dS (c:=x.1) (s':=x.2) hs hx).2;omega
 | succ n ih =>
  intro s hs hn;rw [jO hs];rcases fold_eq (fun x:Int × St=>x.1+W.dist x.2) (W.moves s) (if s=W.fin then 0 else never) with h | ⟨x,hx,h⟩
  ·rw [h];split <;> decide
  ·rw [h];have h1:=dS (c:=x.1) (s':=x.2) hs hx;have h2:=ih x.2 h1.1 (by omega);have h3:=(jI (c:=x.1) (s':=x.2) hg hx).1
   show 0≤x.1+W.dist x.2
   omega
theorem iX (hg:W.good) (hs:W.ok s):0≤W.dist s:=LM hg _ s hs (Nat.le_refl _)
theorem Cx (hg:W.good):W.dist W.fin=0:=by
 have hok:W.ok W.fin:=⟨Nat.le_refl _,Nat.le_refl _,fun h=>by cases h⟩;rw [jO hok,Jp (List.all_eq_true.2 fun R hR=>by simpa using (hg R hR).2.2)];simp

theorem Jq (hg:W.good) (hl:W.l.length+W.m.length≤1000):∀ (n:Nat) (s:St),W.ok s→W.rank s≤n→(Pa W s (W.dist s) W.fin∧W.dist s≤1000*W.rank s)∨W.dist s=never∧∀ c,¬ Pa W s c W.fin:=by
 intro n
 induction n with
 | zero =>
  intro s hs hn;have hm:W.moves s=[]:=by
   cases h:W.moves s with
   | nil=>rfl
   | cons x l =>
    have:=(dS (c:=x.1) (s':=x.2) hs (by rw [h];exact List.mem_cons_self ..)).2;omega
  by_cases hf:s=W.fin
  ·refine .inl ?_;have e:W.dist s=0:=by rw [hf];exact Cx hg
   rw [e];exact ⟨hf ▸ Pa.nil s,by omega⟩
  ·refine .inr ⟨by rw [jO hs,hm];simp [hf],fun c hp=>?_⟩;cases hp with
   | nil=>exact hf rfl
   | cons hm2 _=>rw [hm] at hm2;cases hm2
 | succ n ih =>
  intro s hs hn;by_cases hnv:W.dist s=never
  ·refine .inr ⟨hnv,fun c hp=>?_⟩;cases hp with
   | nil=>rw [Cx hg] at hnv;exact absurd hnv (by decide)
   | cons hm2 hp2 =>
    rename_i s' c' d';have h1:=dS hs hm2;rcases ih _ h1.1 (by omega) with ⟨_,hb⟩ | ⟨_,h2⟩
    ·have h3:=Jo hs hm2;have h4:=(jI hg hm2).2;have h5:W.rank s≤1000:=by unfold Wd.rank;omega
     rw [hnv] at h3;unfold never at h3;omega
    ·exact h2 _ hp2
  ·have he:=jO hs;rcases fold_eq (fun x:Int × St=>x.1+W.dist x.2) (W.moves s) (if s=W.fin then 0 else never) with h | ⟨x,hx,h⟩
   ·rw [h] at he;by_cases hf:s=W.fin
    ·rw [if_pos hf] at he;refine .inl ?_;rw [he];exact ⟨hf ▸ Pa.nil s,by omega⟩
    ·rw [if_neg hf] at he;exact absurd he hnv
   ·rw [h] at he;have h1:=dS (c:=x.1) (s':=x.2) hs hx;have hc:=jI (c:=x.1) (s':=x.2) hg hx;rcases ih x.2 h1.1 (by omega) with ⟨hp,hb⟩ | ⟨h2,_⟩
    ·refine .inl ?_;rw [he];exact ⟨.cons (c:=x.1) (s':=x.2) hx hp,by show x.1+W.dist x.2≤_;omega⟩
    ·exfalso;have h3:=mR hs;have he':W.dist s=x.1+W.dist x.2:=he;rw [h2] at he';omega
end Go.CH.dK
namespace Go.CH.dK
open Go.CH.Scr

structure Pt where
 i:Int
 j:Int
 a:Bs
 r:Bool
 h:Int
deriving DecidableEq
def Pt.st (p:Pt):St:=⟨p.i.toNat,p.j.toNat,p.a,p.r⟩

def UK (p q:Pt):Prop:=p.i < q.i∨p.i=q.i∧(p.j < q.j∨p.j=q.j∧(p.a < q.a∨p.a=q.a∧p.r=false∧q.r=true))
instance (p q:Pt):Decidable (UK p q):=by unfold UK;infer_instance
def rU (c:UInt8):Bool:=decide (97≤c) && decide (c≤122)

def proper (W:Wd) (bound:Int) (p:Pt):Bool :=
 decide (0≤p.i) && decide (p.i≤W.l.length) && decide (0≤p.j) && decide (p.j≤W.m.length) && decide (p.a.length≤3) && p.a.all rU && (!p.r || decide (p.a≠[])) && decide (p.st≠W.fin) && decide (0 < p.h) && decide (p.h≤min bound 100000)
theorem E9 {W:Wd} {bound:Int} {p:Pt}:proper W bound p=true↔(0≤p.i∧p.i≤W.l.length)∧(0≤p.j∧p.j≤W.m.length)∧(p.a.length≤3∧p.a.all rU=true)∧(p.r=true→p.a≠[])∧p.st≠W.fin∧0 < p.h∧p.h≤bound∧p.h≤100000:=by
 unfold proper;simp only [Bool.and_eq_true,Bool.or_eq_true,decide_eq_true_eq,Bool.not_eq_true'];constructor
 ·rintro ⟨⟨⟨⟨⟨⟨⟨⟨⟨h1,h2⟩,h3⟩,h4⟩,h5⟩,h6⟩,h7⟩,h8⟩,h9⟩,h10⟩;refine ⟨⟨h1,h2⟩,⟨h3,h4⟩,⟨h5,h6⟩,fun hr=>?_,h8,h9,by omega,by omega⟩;rcases h7 with h7 | h7
  ·rw [hr] at h7;cases h7
  ·exact h7
 ·rintro ⟨⟨h1,h2⟩,⟨h3,h4⟩,⟨h5,h6⟩,h7,h8,h9,h10,h11⟩;refine ⟨⟨⟨⟨⟨⟨⟨⟨⟨h1,h2⟩,h3⟩,h4⟩,h5⟩,h6⟩,?_⟩,h8⟩,h9⟩,by omega⟩;cases hr:p.r with
  | false=>exact .inl rfl
  | true=>exact .inr (h7 hr)

def hgt (C:List Pt) (s:St):Int:=match C.find? (fun p=>decide (p.st=s)) with | some p=>p.h | none=>0
def steps (W:Wd) (C:List Pt) (p:Pt):Bool:=(W.moves p.st).all fun x=>decide (p.h≤x.1+hgt C x.2)

def Holds (W:Wd) (bound:Int) (C:List Pt):Prop :=
 (∀ p ∈ C,proper W bound p=true)∧C.Pairwise UK∧(∀ p ∈ C,steps W C p=true)∧bound≤hgt C st0
section
variable {W:Wd} {C:List Pt} {s:St} {bound c:Int}
theorem Holds.pos (h:Holds W bound C):∀ p ∈ C,0≤p.i∧0≤p.j:=fun p hp=>by
 have:=E9.1 (h.1 p hp);exact ⟨this.1.1,this.2.1.1⟩
end

section
variable {W:Wd} {C C':List Pt} {s s':St} {bound c:Int}

def Wd.Cy (W:Wd):Prop:=∀ R ∈ W.rs,R.t.length≤3∧R.t.all rU=true
end
end Go.CH.dK
namespace Go.CH.dK
open Go.CH.Scr
section
variable {W:Wd} {s s':St} {c d:Int}
theorem wX:W.left s=true↔s.r=true∨(s.a=[]∧s.i≠W.l.length):=by
 unfold Wd.left;simp

def Wd.swap (W:Wd):Wd:=⟨W.kb,W.ka,W.m,W.l,W.rs⟩

def Wd.rest (W:Wd) (i j:Nat):Wd:=⟨W.ka,W.kb,W.l.drop i,W.m.drop j,W.rs⟩
end
end Go.CH.dK
namespace Go.CH.dK
open Go.CH.Scr

structure Drop where
 k:Int
 w:Bs
 c:Int
deriving DecidableEq
structure Tab where
 rs:List Rule
 ds:List Drop
 es:List Drop
 drop:Int
 ord:Int
 ini:Int
deriving DecidableEq

def fT (k:Int) (s:Bs) (most:Nat):Bool:=word k s && (decide (lower s=s) && decide ((aM k s).1.length≤most))
def qH (s:Bs):Bool:=decide (s.length≤3) && s.all rU
def eY (n:Int):Bool:=decide (0≤n) && decide (n≤1000)
def jS (R:Rule):Int × Bs × Bs:=(R.k,R.f,R.t)
def ku (d:Drop):Int × Bs × Bs:=(d.k,d.w,[])
def qI (R:Rule):Bool:=fT R.k R.f 3 && (qH R.t && eY R.c)
def nY (most:Nat) (d:Drop):Bool:=fT d.k d.w most && eY d.c
def nZ (l:List Rule):Bool:=decide ((l.map jS).Nodup) && l.all qI
def gV (most:Nat) (l:List Drop):Bool:=decide ((l.map ku).Nodup) && (l.all (nY most) && decide (l.length≤40))
def aX (T:Tab):Bool :=
 (decide (T.rs≠[]) && (decide (T.rs.length≤80) && (eY T.drop && (eY T.ord && eY T.ini)))) && (nZ T.rs && (gV 12 T.ds && gV 4 T.es))
theorem dN {n:Int}:eY n=true↔0≤n∧n≤1000:=by unfold eY;simp
theorem og {k:Int} {s:Bs} {m:Nat}:fT k s m=true↔word k s=true∧lower s=s∧(aM k s).1.length≤m:=by unfold fT;simp
theorem pF {s:Bs}:qH s=true↔s.length≤3∧s.all rU=true:=by unfold qH;rw [Bool.and_eq_true,decide_eq_true_eq]
theorem pG {R:Rule}:qI R=true↔fT R.k R.f 3=true∧qH R.t=true∧eY R.c=true:=by unfold qI;simp
theorem kM {l:List Rule}:nZ l=true↔(l.map jS).Nodup∧∀ R ∈ l,qI R=true:=by unfold nZ;simp
theorem bY {T:Tab}:aX T=true↔(T.rs≠[]∧T.rs.length≤80∧eY T.drop=true∧eY T.ord=true∧eY T.ini=true)∧nZ T.rs=true∧gV 12 T.ds=true∧gV 4 T.es=true:=by
 unfold aX;simp only [Bool.and_eq_true,decide_eq_true_eq]

def bJ (T:Tab) (a:Int) (x:Bs) (b:Int) (y:Bs):Wd:=⟨a,b,(aM a (lower x)).1,(aM b (lower y)).1,T.rs⟩

def okW (T:Tab) (a:Int) (x:Bs) (b:Int) (y:Bs):Bool:=word a x && (word b y && aX T)
theorem gG {T:Tab} {a b:Int} {x y:Bs}:okW T a x b y=true↔word a x=true∧word b y=true∧aX T=true:=by unfold okW;simp
section
variable {T:Tab} {a b:Int} {x y:Bs}
theorem wm (h:aX T=true):(bJ T a x b y).good∧(bJ T a x b y).Cy:=by
 obtain ⟨-,h1,-,-⟩:=bY.1 h;obtain ⟨-,h2⟩:=kM.1 h1;constructor
 ·intro R hR;obtain ⟨f1,f2,f3⟩:=pG.1 (h2 R hR);have hc:=dN.1 f3;refine ⟨hc.1,hc.2,fun e=>?_⟩;have:=(og.1 f1).1;rw [e] at this;exact EY this rfl
 ·intro R hR;obtain ⟨f1,f2,f3⟩:=pG.1 (h2 R hR);exact pF.1 f2
theorem Hl (h:okW T a x b y=true):1≤(bJ T a x b y).l.length∧(bJ T a x b y).l.length≤12∧1≤(bJ T a x b y).m.length∧(bJ T a x b y).m.length≤12:=by
 obtain ⟨h1,h2,-⟩:=gG.1 h;have e1:=(dz.1 (fU h1)).2;have e2:=(dz.1 (fU h2)).2;exact ⟨e1.1,e1.2,e2.1,e2.2⟩
end
end Go.CH.dK
namespace Go.CH.dK
open Go.CH.Scr
section
variable {k:Int}
theorem Ph {r:Bs}:∀ cs:List Bs,ctx k cs r→aM k cs.flatten=(cs,[]):=by
 intro cs
 induction cs with
 | nil=>intro _;exact dL (by rfl)
 | cons x xs ih =>
  rintro ⟨h1,h2,h3⟩;have e:=ih h3;have hpos:0 < x.length:=List.length_pos_iff.2 h1;have h4:len1 k (x ++ xs.flatten)=x.length:=by
   have h5:=LH (k:=k) (l:=x ++ (xs.flatten ++ r)) (j:=(x ++ xs.flatten).length) (by rw [h2];omega) (by rw [h2,List.length_append];omega);rw [←List.append_assoc,List.take_left' rfl,List.append_assoc,h2] at h5;exact h5
  rw [List.flatten_cons,eH (by rw [h4];omega),h4,List.take_left' rfl,List.drop_left' rfl,e]
theorem RZ (l:Bs):ctx k (aM k l).1 (aM k l).2:=by
 refine kL (k:=k) (P:=fun l=>ctx k (aM k l).1 (aM k l).2) (fun l h=>?_) (fun l h ih=>?_) l
 ·show ctx k (aM k l).1 (aM k l).2
  rw [dL h];trivial
 ·show ctx k (aM k l).1 (aM k l).2
  have hle:=mP (k:=k) (l:=l);rw [eH h];refine ⟨?_,?_,ih⟩
  ·intro e;have:=congrArg List.length e;rw [List.length_take,List.length_nil] at this;omega
  ·rw [zL,List.take_append_drop,List.length_take];omega
theorem Cz {r:Bs}:∀ (cs:List Bs) (i:Nat),ctx k cs r→ctx k (cs.drop i) r
 | cs,0,h=>by rw [List.drop_zero];exact h
 | [],i+1,h=>trivial
 | x :: xs,i+1,h=>Cz xs i h.2.2
theorem CB {r:Bs}:∀ (cs:List Bs) (n:Nat),ctx k cs r→ctx k (cs.take n) ((cs.drop n).flatten ++ r)
 | cs,0,h=>trivial
 | [],n+1,h=>trivial
 | x :: xs,n+1,h=>by
  refine ⟨h.1,?_,CB xs n h.2.2⟩;have e:(xs.take n).flatten ++ ((xs.drop n).flatten ++ r)=xs.flatten ++ r:=by
   rw [←List.append_assoc,←List.flatten_append,List.take_append_drop]
  show len1 k (x ++ ((xs.take n).flatten ++ ((xs.drop n).flatten ++ r)))=x.length
  rw [e];exact h.2.1

theorem CF (w:Bs) (i n:Nat):aM k (((aM k w).1.drop i).take n).flatten=(((aM k w).1.drop i).take n,[]):=Ph _ (CB _ n (Cz _ i (RZ w)))
theorem Pj (w:Bs):∀ x ∈ (aM k w).1,x≠[]:=fun x hx e=>by
 have h:=uH (k:=k) w x hx;rw [e,dL (by rfl)] at h;cases h

theorem qR {w f:Bs} {i:Nat} (hf:word k f=true):takes ((aM k w).1.drop i) f=(if ((aM k w).1.drop i).take (aM k f).1.length=(aM k f).1 then (aM k f).1.length else 0):=by
 have hf1:=dz.1 hf;by_cases h:((aM k w).1.drop i).take (aM k f).1.length=(aM k f).1
 ·rw [if_pos h];have hlen:(aM k f).1.length≤((aM k w).1.drop i).length:=by
   have:=congrArg List.length h;rw [List.length_take] at this;omega
  have e:=LK hlen (fun x hx=>Pj w x (List.mem_of_mem_drop hx));rw [h,zM hf] at e;exact e
 ·rw [if_neg h];refine Classical.byContradiction fun hn=>?_;have e:=E8 hn;have h2:=CF (k:=k) w i (takes ((aM k w).1.drop i) f);rw [e] at h2;have h3:(aM k f).1=((aM k w).1.drop i).take (takes ((aM k w).1.drop i) f):=by rw [h2]
  have h4:(aM k f).1.length=takes ((aM k w).1.drop i) f:=by
   rw [h3,List.length_take];have:=wW (l:=(aM k w).1.drop i) (t:=f);omega
  exact h (by rw [h4];exact h3.symm)
theorem Fa {q:Bs} (h:∀ c ∈ q,low c=c):lower q=q:=by
 unfold lower
 conv=>rhs;rw [←List.map_id q]
 exact List.map_congr_left fun c hc=>h c hc
end
end Go.CH.dK
namespace Go.CH.dK
open Go.CH.Scr

structure AR where
 ix:Nat
 c:Int
 f:List Bs
 t:Bs
deriving DecidableEq
def vS (k:Int) (x:Rule × Nat):Option AR:=if x.1.k=k then (if word k x.1.f=true then some ⟨x.2,x.1.c,(aM k x.1.f).1,x.1.t⟩ else none) else none
def dU (rs:List Rule) (k:Int):List AR:=rs.zipIdx.filterMap (vS k)
def iY (l:List Bs) (r:AR) (i:Nat):Bool:=decide (i+r.f.length≤l.length) && decide ((l.drop i).take r.f.length=r.f)
def Wd.Fb (W:Wd) (s:St) (tw:Bs):Option (Bs × Bool) :=
 if tw.isPrefixOf s.a then some (s.a.drop tw.length,s.r && decide (s.a.drop tw.length≠[]))
 else if s.a.isPrefixOf tw then some (tw.drop s.a.length,!W.left s)
 else none
def Wd.LP (W:Wd) (s:St) (r:AR):Option (AR × St) :=
 if iY (if W.left s then W.l else W.m) r (if W.left s then s.i else s.j)=true then
  (W.Fb s r.t).map fun x=>(r,if W.left s then ⟨s.i+r.f.length,s.j,x.1,x.2⟩ else ⟨s.i,s.j+r.f.length,x.1,x.2⟩)
 else none
def Wd.oh (W:Wd) (s:St):List (AR × St):=(dU W.rs (if W.left s then W.ka else W.kb)).filterMap (W.LP s)
section
variable {W:Wd} {s:St}
theorem wY {p q:Bs} (h:p.isPrefixOf q=true) (h2:q.drop p.length=[]):q=p:=by
 obtain ⟨r,rfl⟩:=mQ.1 h;rw [List.drop_left] at h2;rw [h2,List.append_nil]
theorem LQ (tw:Bs):W.Fb s tw=W.ah s tw:=by
 unfold Wd.Fb Wd.ah;by_cases h1:tw.isPrefixOf s.a=true
 ·rw [if_pos h1];by_cases h2:s.a.drop tw.length=[]
  ·have e:=wY h1 h2;rw [if_neg (by simp [h2]),if_pos (by rw [e,List.isPrefixOf_iff_prefix];exact List.prefix_refl _)];rw [e];simp
  ·rw [if_pos ⟨h1,h2⟩];simp [h2]
 ·rw [if_neg h1,if_neg (fun h:tw.isPrefixOf s.a=true∧s.a.drop tw.length≠[]=>h1 h.1)];by_cases h2:s.a.isPrefixOf tw=true
  ·rw [if_pos h2,if_pos h2];have h3:tw.drop s.a.length≠[]:=fun e=>h1 (by rw [wY h2 e,List.isPrefixOf_iff_prefix];exact List.prefix_refl _);simp [h3]
  ·rw [if_neg h2,if_neg h2]
end
section
variable {T:Tab} {a b:Int} {x y:Bs} {s:St}
theorem CG {k:Int} {w f:Bs} {i:Nat} (hf:word k f=true) (hi:i≤(aM k w).1.length) (ix:Nat) (c:Int) (t:Bs) :
  iY (aM k w).1 ⟨ix,c,(aM k f).1,t⟩ i=true↔takes ((aM k w).1.drop i) f≠0:=by
 have hf1:=dz.1 hf;rw [qR hf];unfold iY;simp only [Bool.and_eq_true,decide_eq_true_eq];constructor
 ·rintro ⟨h1,h2⟩;rw [if_pos h2];omega
 ·intro h;split at h
  ·rename_i h2;have:=congrArg List.length h2;rw [List.length_take,List.length_drop] at this;exact ⟨by omega,h2⟩
  ·exact absurd rfl h
theorem Fe (hv:aX T=true) {R:Rule} (hR:R ∈ T.rs):word R.k R.f=true :=
 (og.1 (pG.1 ((kM.1 (bY.1 hv).2.1).2 R hR)).1).1
theorem lN {α β:Type} (f:α→Option β):∀ (l:List α) (n:Nat),(l.zipIdx n).filterMap (fun p=>f p.1)=l.filterMap f
 | [],_=>rfl
 | x :: l,n=>by
  rw [List.zipIdx_cons];cases h:f x with
  | none=>rw [List.filterMap_cons_none h,List.filterMap_cons_none (by simpa using h),lN f l (n+1)]
  | some y=>rw [List.filterMap_cons_some h,List.filterMap_cons_some (by simpa using h),lN f l (n+1)]
theorem wZ {α β:Type} {f g:α→Option β}:∀ (l:List α),(∀ x ∈ l,f x=g x)→l.filterMap f=l.filterMap g
 | [],_=>rfl
 | x :: l,h=>by
  have e:=h x (List.mem_cons_self ..);have ih:=wZ l (fun y hy=>h y (List.mem_cons_of_mem _ hy));cases hg:g x with
  | none=>rw [List.filterMap_cons_none (e.trans hg),List.filterMap_cons_none hg,ih]
  | some z=>rw [List.filterMap_cons_some (e.trans hg),List.filterMap_cons_some hg,ih]
theorem wo {α:Type}:∀ (l:List α) (n:Nat) {p:α × Nat},p ∈ l.zipIdx n→p.1 ∈ l:=fun l n p hp=>by
 obtain ⟨x,i⟩:=p;exact (List.mem_zipIdx hp).2.2 ▸ List.getElem_mem _

theorem uJ (hv:aX T=true) (hs:(bJ T a x b y).ok s):((bJ T a x b y).oh s).map (fun p=>(p.1.c,p.2))=(bJ T a x b y).moves s:=by
 unfold Wd.oh Wd.moves dU;rw [List.filterMap_filterMap,List.map_filterMap,show (bJ T a x b y).rs.filterMap ((bJ T a x b y).mv s)=((bJ T a x b y).rs.zipIdx).filterMap (fun p=>(bJ T a x b y).mv s p.1) from (lN _ _ 0).symm];refine wZ _ fun p hp=>?_;have hR:=wo _ _ hp;have hw:=Fe hv hR;obtain ⟨R,i⟩:=p;simp only at hR hw ⊢;unfold vS Wd.mv;simp only;cases hl:(bJ T a x b y).left s with
 | true =>
  have hu:(bJ T a x b y).used s R=if R.k=a then takes ((aM a (lower x)).1.drop s.i) R.f else 0:=by unfold Wd.used;rw [if_pos hl];rfl
  simp only [if_true]
  show Option.map _ ((if R.k=a then _ else none:Option AR).bind _)=_
  by_cases hk:R.k=a
  ·rw [if_pos hk] at hu;subst hk;rw [if_pos rfl,if_pos (show word (bJ T R.k x b y).ka R.f=true from hw),hu];simp only [Option.bind_some];unfold Wd.LP;rw [hl];simp only [if_true];have hf:=CG (k:=R.k) (w:=lower x) (i:=s.i) hw hs.1 i R.c R.t;by_cases ht:takes ((aM R.k (lower x)).1.drop s.i) R.f=0
   ·rw [if_pos ht];refine (congrArg _ (if_neg (by intro h;exact (hf.1 h) ht))).trans ?_;rfl
   ·have hn:takes ((aM R.k (lower x)).1.drop s.i) R.f=(aM R.k R.f).1.length:=by
     rw [qR hw] at ht ⊢;split at ht
     ·rename_i h;rw [if_pos h]
     ·exact absurd rfl ht
    rw [if_neg ht];refine (congrArg _ (if_pos (hf.2 ht))).trans ?_;rw [LQ,Option.map_map,hn];rfl
  ·rw [if_neg hk] at hu;rw [if_neg hk,hu,if_pos rfl];rfl
 | false =>
  have hu:(bJ T a x b y).used s R=if R.k=b then takes ((aM b (lower y)).1.drop s.j) R.f else 0:=by unfold Wd.used;rw [if_neg (by rw [hl];decide)];rfl
  simp only [Bool.false_eq_true,if_false]
  show Option.map _ ((if R.k=b then _ else none:Option AR).bind _)=_
  by_cases hk:R.k=b
  ·rw [if_pos hk] at hu;subst hk;rw [if_pos rfl,if_pos (show word (bJ T a x R.k y).kb R.f=true from hw),hu];simp only [Option.bind_some];unfold Wd.LP;rw [hl];simp only [Bool.false_eq_true,if_false];have hf:=CG (k:=R.k) (w:=lower y) (i:=s.j) hw hs.2.1 i R.c R.t;by_cases ht:takes ((aM R.k (lower y)).1.drop s.j) R.f=0
   ·rw [if_pos ht];refine (congrArg _ (if_neg (by intro h;exact (hf.1 h) ht))).trans ?_;rfl
   ·have hn:takes ((aM R.k (lower y)).1.drop s.j) R.f=(aM R.k R.f).1.length:=by
     rw [qR hw] at ht ⊢;split at ht
     ·rename_i h;rw [if_pos h]
     ·exact absurd rfl ht
    rw [if_neg ht];refine (congrArg _ (if_pos (hf.2 ht))).trans ?_;rw [LQ,Option.map_map,hn];rfl
  ·rw [if_neg hk] at hu;rw [if_neg hk,hu,if_pos rfl];rfl

structure Dv where
 c:Int
 L:List Int
 M:List Int
 F:Bs
deriving DecidableEq

def jT (l:List Bs) (rs:List AR):List Int→Nat→Option (Bs × Int × Nat)
 | [],i=>some ([],0,i)
 | k :: ks,i=>match rs.find? (fun r=>decide ((r.ix:Int)=k)) with
  | none=>none
  | some r=>if iY l r i=true then (jT l rs ks (i+r.f.length)).map fun z=>(r.t ++ z.1,r.c+z.2.1,z.2.2) else none

def qU (T:Tab) (a:Int) (x:Bs) (b:Int) (y:Bs) (d:Dv):Prop :=
 okW T a x b y=true∧∃ F c1 c2,jT (bJ T a x b y).l (dU T.rs a) d.L 0=some (F,c1,(bJ T a x b y).l.length)∧jT (bJ T a x b y).m (dU T.rs b) d.M 0=some (F,c2,(bJ T a x b y).m.length)∧F=d.F∧c1+c2=d.c
end
end Go.CH.dK
namespace Go.CH.dK
open Go.CH.Scr
section
variable {W:Wd} {bound:Int}
end

end Go.CH.dK
namespace Go.CH.dK
open Go.CH.Scr

def Wd.pick (W:Wd) (s:St):Option (AR × St):=(W.oh s).find? fun p=>decide (p.1.c+W.dist p.2=W.dist s)

def Wd.dV (W:Wd):Nat→St→List Int × List Int × Bs
 | 0,_=>([],[],[])
 | n+1,s=>if s=W.fin then ([],[],[]) else match W.pick s with
  | none=>([],[],[])
  | some (r,s')=>if s.i < s'.i then ((r.ix:Int) :: (W.dV n s').1,(W.dV n s').2.1,r.t ++ (W.dV n s').2.2) else ((W.dV n s').1,(r.ix:Int) :: (W.dV n s').2.1,(W.dV n s').2.2)
def Wd.best (W:Wd):Dv:=⟨W.dist st0,(W.dV (W.rank st0) st0).1,(W.dV (W.rank st0) st0).2.1,(W.dV (W.rank st0) st0).2.2⟩

inductive xg (T:Tab) (a:Int) (x:Bs) (b:Int) (y:Bs):Dv→Int→Prop
 | arg (h:okW T a x b y=false):xg T a x b y ⟨0,[],[],[]⟩ 1
 | none (h:okW T a x b y=true) (h2:(bJ T a x b y).dist st0=never):xg T a x b y ⟨0,[],[],[]⟩ 11
 | some (h:okW T a x b y=true) (h2:(bJ T a x b y).dist st0 < never):xg T a x b y (bJ T a x b y).best 0
section
variable {T:Tab} {a b:Int} {x y:Bs} {bound:Int} {C:List Pt} {d:Dv} {e:Int}
theorem CJ (h:okW T a x b y=true):(bJ T a x b y).l.length+(bJ T a x b y).m.length≤1000:=by have:=Hl h;omega
theorem Ho (h:okW T a x b y=true):(bJ T a x b y).good:=(wm (gG.1 h).2.2).1
theorem Jr (h:xg T a x b y d 0):d.c=(bJ T a x b y).dist st0∧okW T a x b y=true∧0≤d.c∧d.c≤24000:=by
 generalize he:(0:Int)=e at h;cases h with
 | arg=>cases he
 | none=>cases he
 | some h h2 =>
  have h3:=iX (Ho h) ok0;refine ⟨rfl,h,h3,?_⟩;rcases Jq (Ho h) (CJ h) _ st0 ok0 (Nat.le_refl _) with ⟨_,hp⟩ | ⟨hn,_⟩
  ·have:=Hl h;have e:(bJ T a x b y).rank st0=(bJ T a x b y).l.length+(bJ T a x b y).m.length:=rfl;rw [e] at hp
   show (bJ T a x b y).dist st0≤24000
   omega
  ·rw [hn] at h2;exact absurd h2 (by decide)
end
end Go.CH.dK
namespace Go.Proofs.YtbnnlpjpnihheaaGreatDoor
open Go.RowKit Go.CH Go.CH.Scr Go.CH.dK
open Go.ChangeMaps (setBlock)
def dY (R:Rule):List Value:=[.int .i64 R.k,.string (bs R.f),.string (bs R.t),.int .i64 R.c]
def uK (d:Drop):List Value:=[.int .i64 d.k,.string (bs d.w),.int .i64 d.c]
def L6 (p:Pt):List Value:=[.int .i64 p.i,.int .i64 p.j,.string (bs p.a),.bool p.r,.int .i64 p.h]

def wu {α:Type} (R:α→List Value) (size:Nat) (w:World) (A:Option Addr) (l:List α):Prop:=Src w A l.length size (l.flatMap R)
theorem pO {α:Type} {R:α→List Value} {size:Nat} (hR:∀ x,(R x).length=size):∀ {l:List α} {j:Nat} (hj:j < l.length) {i:Nat},i < size→(l.flatMap R)[j*size+i]?=(R l[j])[i]?
 | [],j,hj,_,_=>absurd hj (Nat.not_lt_zero _)
 | x :: l,0,hj,i,hi=>by
  rw [List.flatMap_cons,List.getElem?_append_left (by rw [hR];omega),Nat.zero_mul,Nat.zero_add];rfl
 | x :: l,j+1,hj,i,hi=>by
  rw [List.flatMap_cons,List.getElem?_append_right (by rw [hR,Nat.succ_mul];omega),hR];rw [show (j+1)*size+i - size=j*size+i by rw [Nat.succ_mul];omega];exact pO hR (by simpa using hj) hi
section
variable {α:Type} {R:α→List Value} {size:Nat} {w w':World} {A:Option Addr} {l:List α}
theorem wu.below (h:wu R size w A l) (hb:Below w.heap.size w w'):wu R size w' A l:=aR h hb
theorem wu.at (hR:∀ x,(R x).length=size) (hs:0 < size) (h:wu R size w A l) (hn:0 < l.length) :
  ∃ b o,A=some ⟨b,o,none⟩∧∀ w',Below w.heap.size w w'→∀ j (hj:j < l.length) i u,(R l[j])[i]?=some u→w'.cell? ⟨b,o+j*size+i,none⟩=some u:=by
 obtain ⟨b,o,rfl,hc⟩:=Src.open_ h hn hs;refine ⟨b,o,rfl,fun w' hb j hj i u hu=>?_⟩;have hi:i < size:=by rw [←hR l[j]];exact (List.getElem?_eq_some_iff.1 hu).1
 have h1:=hc (j*size+i) u (by rw [pO hR hj hi];exact hu);rw [←Nat.add_assoc] at h1;rw [hb.cell (World.block_lt_of_cell? _ _ h1)];exact h1
end
section
variable {w:World} {A:Option Addr}
abbrev qV (w:World) (A:Option Addr) (l:List Rule):Prop:=wu dY 4 w A l
abbrev j6 (w:World) (A:Option Addr) (l:List Drop):Prop:=wu uK 3 w A l
abbrev TS (w:World) (A:Option Addr) (l:List Pt):Prop:=wu L6 5 w A l
theorem qV.at {l:List Rule} (h:qV w A l) (hn:0 < l.length):∃ b o,A=some ⟨b,o,none⟩∧∀ w',Below w.heap.size w w'→∀ j (hj:j < l.length),
  w'.cell? ⟨b,o+j*4,none⟩=some (.int .i64 l[j].k)∧w'.cell? ⟨b,o+j*4+1,none⟩=some (.string (bs l[j].f))∧w'.cell? ⟨b,o+j*4+2,none⟩=some (.string (bs l[j].t))∧w'.cell? ⟨b,o+j*4+3,none⟩=some (.int .i64 l[j].c):=by
 obtain ⟨b,o,e,hc⟩:=wu.at (R:=dY) (fun _=>rfl) (by omega) h hn;exact ⟨b,o,e,fun w' hb j hj=>⟨hc w' hb j hj 0 _ rfl,hc w' hb j hj 1 _ rfl,hc w' hb j hj 2 _ rfl,hc w' hb j hj 3 _ rfl⟩⟩
theorem j6.at {l:List Drop} (h:j6 w A l) (hn:0 < l.length):∃ b o,A=some ⟨b,o,none⟩∧∀ w',Below w.heap.size w w'→∀ j (hj:j < l.length),
  w'.cell? ⟨b,o+j*3,none⟩=some (.int .i64 l[j].k)∧w'.cell? ⟨b,o+j*3+1,none⟩=some (.string (bs l[j].w))∧w'.cell? ⟨b,o+j*3+2,none⟩=some (.int .i64 l[j].c):=by
 obtain ⟨b,o,e,hc⟩:=wu.at (R:=uK) (fun _=>rfl) (by omega) h hn;exact ⟨b,o,e,fun w' hb j hj=>⟨hc w' hb j hj 0 _ rfl,hc w' hb j hj 1 _ rfl,hc w' hb j hj 2 _ rfl⟩⟩
theorem TS.at {l:List Pt} (h:TS w A l) (hn:0 < l.length):∃ b o,A=some ⟨b,o,none⟩∧∀ w',Below w.heap.size w w'→∀ j (hj:j < l.length),
  w'.cell? ⟨b,o+j*5,none⟩=some (.int .i64 l[j].i)∧w'.cell? ⟨b,o+j*5+1,none⟩=some (.int .i64 l[j].j)∧w'.cell? ⟨b,o+j*5+2,none⟩=some (.string (bs l[j].a))∧w'.cell? ⟨b,o+j*5+3,none⟩=some (.bool l[j].r)∧w'.cell? ⟨b,o+j*5+4,none⟩=some (.int .i64 l[j].h):=by
 obtain ⟨b,o,e,hc⟩:=wu.at (R:=L6) (fun _=>rfl) (by omega) h hn;exact ⟨b,o,e,fun w' hb j hj=>⟨hc w' hb j hj 0 _ rfl,hc w' hb j hj 1 _ rfl,hc w' hb j hj 2 _ rfl,hc w' hb j hj 3 _ rfl,hc w' hb j hj 4 _ rfl⟩⟩
end

structure TA where
 A:Option Addr
 c:Nat
 D:Option Addr
 d:Nat
 E:Option Addr
 e:Nat
def dA (T:Tab) (a:TA):Array Value:=#[.slice a.A T.rs.length a.c,.slice a.D T.ds.length a.d,.slice a.E T.es.length a.e,.int .i64 T.drop,.int .i64 T.ord,.int .i64 T.ini]
def eZ (T:Tab) (a:TA):Value:=.agg (dA T a)
structure jJ (w:World) (T:Tab) (a:TA):Prop where
 rs:qV w a.A T.rs
 ds:j6 w a.D T.ds
 es:j6 w a.E T.es
 lr:T.rs.length≤1000000
 ld:T.ds.length≤1000000
 le:T.es.length≤1000000
 sr:∀ R ∈ T.rs,R.f.length≤1000000∧R.t.length≤1000000
 sd:∀ d ∈ T.ds,d.w.length≤1000000
 se:∀ d ∈ T.es,d.w.length≤1000000
theorem jJ.below {w w':World} {T:Tab} {a:TA} (h:jJ w T a) (hb:Below w.heap.size w w'):jJ w' T a:={ h with rs:=h.rs.below hb,ds:=h.ds.below hb,es:=h.es.below hb }
end Go.Proofs.YtbnnlpjpnihheaaGreatDoor
namespace Go.Proofs.YtbnnlpjpnihheaaGreatDoor
open Go.RowKit Go.CH Go.CH.Scr Go.CH.dK
open Go.ChangeMaps (setBlock)

def rV (k:Int) (l:Bs):List Bs × Bool:=if word k l then ((aM k (lower l)).1,true) else ([],false)

def L8 (w:World) (k:Int) (l:Bs) (e:Ending) (w':World):Prop :=
 ∃ A c,e=.returned (.tuple #[.slice A (aT k l).1.length c,.int .i64 (aT k l).2])∧Below w.heap.size w w'∧fF w' A (aT k l).1∧(aT k l).1.length≤c
theorem zP (k:Int) (s:ByteArray) (w:World) (hs:s.size≤1000000) (hz:LZ w):Calls Tryz.prog 24 #[.int .i64 k,.string s] w (L8 w k (bl s)):=by
 refine (jR k s w hs hz).mono ?_;rintro e w' ⟨A,c,rfl,F,h1,h2,h3⟩;exact ⟨A,c,rfl,h2.below (fun _ _ h=>h),wU h1,(Bu h1.1).1⟩

end Go.Proofs.YtbnnlpjpnihheaaGreatDoor
namespace Go.Proofs.YtbnnlpjpnihheaaGreatDoor
open Go.RowKit Go.CH Go.CH.Scr Go.CH.dK
open Go.ChangeMaps (setBlock)
theorem qX (n:Int) (w:World):Calls Tryz.prog 81 #[.int .i64 n] w (aP w (.bool (eY n))):=by
 by_cases h1:0≤n
 ·by_cases h2:n≤1000
  ·have e:eY n=true:=dN.2 ⟨h1,h2⟩;rw [e]
   go_enter Tryz.func81,Tryz.ntmps81
   go_wp2;go_ret;exact ⟨rfl,Below.refl _ _⟩
  ·have e:eY n=false:=by rw [Bool.eq_false_iff];exact fun h=>h2 (dN.1 h).2
   rw [e]
   go_enter Tryz.func81,Tryz.ntmps81
   go_wp2;go_ret;exact ⟨rfl,Below.refl _ _⟩
 ·have e:eY n=false:=by rw [Bool.eq_false_iff];exact fun h=>h1 (dN.1 h).1
  rw [e]
  go_enter Tryz.func81,Tryz.ntmps81
  go_wp2;go_ret;exact ⟨rfl,Below.refl _ _⟩
theorem xC (k:Int) (s:ByteArray) (most:Nat) (w:World) (hs:s.size≤1000000) (hz:LZ w):Calls Tryz.prog 82 #[.int .i64 k,.string s,.int .i64 (most:Int)] w (aP w (.bool (fT k (bl s) most))):=by
 have KF:=hide (rR k s w hs hz);have KL:=hide (fun W (hz:LZ W)=>zP k s W hs hz);have HZ:=hide hz;clear hz;unfold aP at KF;by_cases hw:word k (bl s)=true
 ·have e1:fO k (bl s)=(lower (bl s),0):=by unfold fO;rw [if_pos hw]
  have e2:aT k (bl s)=((aM k (bl s)).1,0):=by unfold aT;rw [if_pos hw]
  simp only [e1] at KF;unfold L8 at KL;simp only [e2] at KL;by_cases hl:lower (bl s)=bl s
  ·have e3:fT k (bl s) most=decide ((aM k (bl s)).1.length≤most):=by unfold fT;rw [hw,decide_eq_true hl];simp
   have eqs:bs (lower (bl s))=s:=by rw [hl,qG]
   rw [e3];rw [eqs] at KF;have tq:(s.toList == s.toList)=true:=by simp
   clear e1 e2 e3 hl eqs hw;generalize (aM k (bl s)).1=L at *
   by_cases hm:L.length≤most
   ·have hm2:(L.length:Int)≤(most:Int):=by omega
    rw [decide_eq_true hm]
    go_enter Tryz.func82,Tryz.ntmps82
    go_wp2_with fail;refine KF.out.mono ?_;rintro e9 w1 ⟨rfl,hb⟩;have HB:=hide hb;have KL2:=hide (KL.out w1 (HZ.out.below hb));clear KF KL hb;dsimp only;go_wp2_with fail;refine KL2.out.mono ?_;rintro e9 w2 ⟨A,c,rfl,hb,hA,hc⟩;have HB2:=hide (aC HB.out hb);clear KL2 HB hb hA hc;dsimp only;go_wp2;go_ret;exact ⟨rfl,HB2.out⟩
   ·have hm2:¬ (L.length:Int)≤(most:Int):=by omega
    rw [decide_eq_false hm]
    go_enter Tryz.func82,Tryz.ntmps82
    go_wp2_with fail;refine KF.out.mono ?_;rintro e9 w1 ⟨rfl,hb⟩;have HB:=hide hb;have KL2:=hide (KL.out w1 (HZ.out.below hb));clear KF KL hb;dsimp only;go_wp2_with fail;refine KL2.out.mono ?_;rintro e9 w2 ⟨A,c,rfl,hb,hA,hc⟩;have HB2:=hide (aC HB.out hb);clear KL2 HB hb hA hc;dsimp only;go_wp2;go_ret;exact ⟨rfl,HB2.out⟩
  ·have e3:fT k (bl s) most=false:=by unfold fT;rw [decide_eq_false hl];simp
   have tq:((bs (lower (bl s))).toList == s.toList)=false:=by
    rw [iW];exact decide_eq_false fun h=>hl (by have h2:=congrArg bl h;rw [gQ] at h2;exact h2)
   rw [e3];clear e1 e2 e3 hl hw;generalize bs (lower (bl s))=z at *
   go_enter Tryz.func82,Tryz.ntmps82
   go_wp2_with fail;refine KF.out.mono ?_;rintro e9 w1 ⟨rfl,hb⟩;have HB:=hide hb;clear KF KL hb;dsimp only;go_wp2;go_ret;exact ⟨rfl,HB.out⟩
 ·have e1:fO k (bl s)=([],1):=by unfold fO;rw [if_neg hw]
  have e3:fT k (bl s) most=false:=by unfold fT;rw [Bool.eq_false_iff.2 hw];rfl
  simp only [e1] at KF;rw [e3];clear e1 e3 hw
  go_enter Tryz.func82,Tryz.ntmps82
  go_wp2_with fail;refine KF.out.mono ?_;rintro e9 w1 ⟨rfl,hb⟩;have HB:=hide hb;clear KF KL hb;dsimp only;go_wp2;go_ret;exact ⟨rfl,HB.out⟩
end Go.Proofs.YtbnnlpjpnihheaaGreatDoor
namespace Go.Proofs.YtbnnlpjpnihheaaGreatDoor
open Go.RowKit Go.CH Go.CH.Scr Go.CH.dK
open Go.ChangeMaps (setBlock)
theorem Pp (c:UInt8):bM.contains c=rU c:=by
 have h:∀ n:Fin 256,bM.contains (UInt8.ofNat n.1)=rU (UInt8.ofNat n.1):=by decide +kernel
 have:=h ⟨c.toNat,c.toNat_lt⟩;simpa using this
theorem Fg {α:Type} {p:α→Bool}:∀ l:List α,l.dropWhile p=[]↔l.all p=true
 | []=>by simp
 | a :: l=>by
  rw [List.dropWhile_cons,List.all_cons];cases h:p a with
  | true=>simp [Fg l]
  | false=>simp
theorem CO (s:Bs):Lib.trimS s bM=[]↔s.all rU=true:=by
 have e:s.all rU=s.all (bM.contains ·):=by congr 1;funext c;exact (Pp c).symm
 rw [e];unfold Lib.trimS Lib.trimLeftS Lib.trimRightS;constructor
 ·intro h;rw [Fg,List.all_reverse] at h;rw [List.all_eq_true] at h ⊢;intro c hc;by_cases hd:c ∈ s.reverse.dropWhile (bM.contains ·)
  ·exact h c hd
  ·have:=List.takeWhile_append_dropWhile (p:=(bM.contains ·)) (l:=s.reverse);have hc2:c ∈ s.reverse:=List.mem_reverse.2 hc;rw [←this,List.mem_append] at hc2;rcases hc2 with h2 | h2
   ·exact List.all_eq_true.1 (List.all_takeWhile) c h2
   ·exact absurd h2 hd
 ·intro h;have h2:s.reverse.dropWhile (bM.contains ·)=[]:=(Fg _).2 (by rw [List.all_reverse];exact h);rw [h2];rfl
theorem Fh (s:ByteArray) (w:World) (hs:s.size≤1000000):Calls Tryz.prog 83 #[.string s] w (aP w (.bool (qH (bl s)))):=by
 have KT:=hide (Any.strings_Trim_laid Tryz.Qt (by kernel_rfl) s ⟨#[97,98,99,100,101,102,103,104,105,106,107,108,109,110,111,112,113,114,115,116,117,118,119,120,121,122]⟩ w (by omega) (by decide) (_root_.Go.Proofs.ascii_of_all (by decide)));have KT:=hide (show Calls Tryz.prog 115 #[.string s,.string ⟨#[97,98,99,100,101,102,103,104,105,106,107,108,109,110,111,112,113,114,115,116,117,118,119,120,121,122]⟩] w (fun e w'=>e=.returned (.string (bs (Lib.trimS (bl s) bM)))∧Below w.heap.size w w') from KT.out);have hlen:(bl s).length=s.size:=uF s;by_cases h3:s.size≤3
 ·have h3':(s.size:Int)≤3:=by omega
  by_cases ha:Lib.trimS (bl s) bM=[]
  ·have e:qH (bl s)=true:=pF.2 ⟨by omega,(CO _).1 ha⟩;have t1:(bs (Lib.trimS (bl s) bM)).toList.isEmpty=true:=by rw [List.isEmpty_iff];exact iJ.2 ha
   rw [e];clear e ha hlen;generalize bs (Lib.trimS (bl s) bM)=z at *
   go_enter Tryz.func83,Tryz.ntmps83
   go_wp2_with fail;refine KT.out.mono ?_;rintro e9 w1 ⟨rfl,hb⟩;have HB:=hide hb;clear KT hb;dsimp only;go_wp2;go_ret;exact ⟨rfl,HB.out⟩
  ·have e:qH (bl s)=false:=by rw [Bool.eq_false_iff];exact fun h=>ha ((CO _).2 (pF.1 h).2)
   have t1:(bs (Lib.trimS (bl s) bM)).toList.isEmpty=false:=by rw [List.isEmpty_eq_false_iff];exact fun h=>ha (iJ.1 h)
   rw [e];clear e ha hlen;generalize bs (Lib.trimS (bl s) bM)=z at *
   go_enter Tryz.func83,Tryz.ntmps83
   go_wp2_with fail;refine KT.out.mono ?_;rintro e9 w1 ⟨rfl,hb⟩;have HB:=hide hb;clear KT hb;dsimp only;go_wp2;go_ret;exact ⟨rfl,HB.out⟩
 ·have h3':¬ (s.size:Int)≤3:=by omega
  have e:qH (bl s)=false:=by rw [Bool.eq_false_iff];exact fun h=>h3 (by have:=(pF.1 h).1;omega)
  rw [e];clear e KT hlen
  go_enter Tryz.func83,Tryz.ntmps83
  go_wp2;go_ret;exact ⟨rfl,Below.refl _ _⟩
end Go.Proofs.YtbnnlpjpnihheaaGreatDoor
namespace Go.Proofs.YtbnnlpjpnihheaaGreatDoor
open Go.RowKit Go.CH Go.CH.Scr Go.CH.dK
open Go.ChangeMaps (setBlock)
def fq (s:St):Array Value:=#[.int .i64 s.i,.int .i64 s.j,.string (bs s.a),.bool s.r]
theorem L9 (a b:Bs):(⟨(Lib.trimPrefix a b).toArray⟩:ByteArray)=bs (if b.isPrefixOf a then a.drop b.length else a):=by
 unfold Lib.trimPrefix Lib.hasPrefix bs;split <;> rfl
theorem xk (a p:Bs) (w:World):Calls Tryz.prog 128 #[.string (bs a),.string (bs p)] w (fun e w'=>e=.returned (.tuple #[.string (bs (if p.isPrefixOf a then a.drop p.length else a)),.bool (p.isPrefixOf a)])∧w'=w):=by
 refine (Tryz.strings_CutPrefix (bs a) (bs p) w).mono ?_;rintro e w' ⟨rfl,rfl⟩;exact ⟨by rw [←L9];rfl,rfl⟩
section
variable {W:Wd} {s:St} {R:Rule}
end
section
variable {F0:Nat→Prop} {w0 w:World} {O X:CH.Own} {g:Nat} {cs:Array Value} {t:TypeId}

theorem aH (h:Run F0 w0 (star (au g cs t) X) w) (hX:X.Ok) (i:Nat) (v:Value):Run F0 w0 (star (au g (cs.setIfInBounds i v) t) X) (w.setCell ⟨g,i,none⟩ v):=by
 obtain ⟨F,hF,-,bk⟩:=h.take av hX;exact bk _ _ (oL hF i v)
theorem cB {a b c d:Value} (h:Run F0 w0 (star (au g #[a,b,c,d] t) X) w):w.cell? ⟨g,0,none⟩=some a∧w.cell? ⟨g,1,none⟩=some b∧w.cell? ⟨g,2,none⟩=some c∧w.cell? ⟨g,3,none⟩=some d∧∀ i,w.frozen? ⟨g,i,none⟩=false:=by
 obtain ⟨F,hF⟩:=h.fst;exact ⟨ay hF rfl,ay hF rfl,ay hF rfl,ay hF rfl,fun i=>aJ hF i⟩
theorem aG (h:Run F0 w0 O w) (ho:O.Ok) (cs:Array Value) (t:TypeId):Run F0 w0 (star (au w.heap.size cs t) O) (w.alloc (.cells cs t)):=h.fresh ho (dJ w cs t)
end
theorem Hq {w:World} {A:Option Addr} {c k:Nat} {l:List Bs} (h:fF w A l) (hk:k≤l.length) (hc:l.length≤c):fF w (uV A c k 1) (l.drop k):=by
 have h1:=Src.cut h hk hc;unfold fF;have e:lq (l.drop k)=(lq l).drop (k*1):=by unfold lq;rw [Nat.mul_one,List.map_drop]
 rw [List.length_drop,e];exact h1
end Go.Proofs.YtbnnlpjpnihheaaGreatDoor
namespace Go.CH
open Go.RowKit
section
variable {P:Program}

inductive Flat (P:Program):TypeId→Value→Prop
 | int {t:TypeId} {k:IntKind} (h:P.underlying t=some (.int k)) (a:Int):Flat P t (.int k a)
 | str {t:TypeId} (h:P.underlying t=some .string) (a:ByteArray):Flat P t (.string a)
 | bool {t:TypeId} (h:P.underlying t=some .bool) (a:Bool):Flat P t (.bool a)

def xK:Value→Value→Bool
 | .int _ a,.int _ b=>a == b
 | .string a,.string b=>a == b
 | .bool a,.bool b=>a == b
 | _,_=>false
theorem Ia {t:TypeId} {x y:Value} (hx:Flat P t x) (hy:Flat P t y) (n:Nat) (w:World):(Op.equalIn (n+1) t x y).run P w=.ok (xK x y) w:=by
 cases hx with
 | int h a=>cases hy with
  | int h2 b=>rw [h] at h2;injection h2 with h2;injection h2 with h2;subst h2;simp [Op.equalIn,run_underlying h,xK]
  | str h2=>rw [h] at h2;cases h2
  | bool h2=>rw [h] at h2;cases h2
 | str h a=>cases hy with
  | int h2=>rw [h] at h2;cases h2
  | str h2=>simp [Op.equalIn,run_underlying h,xK]
  | bool h2=>rw [h] at h2;cases h2
 | bool h a=>cases hy with
  | int h2=>rw [h] at h2;cases h2
  | str h2=>rw [h] at h2;cases h2
  | bool h2=>simp [Op.equalIn,run_underlying h,xK]
theorem uP {t:TypeId} {x:Value} (hx:Flat P t x) {cs:Array Value} {j:Nat} (hv:cs[j]?=some x) (w:World):(part t cs j).run P w=.ok x w:=by
 cases hx with
 | int h a=>simp [part,isAgg,run_underlying h,hv]
 | str h a=>simp [part,isAgg,run_underlying h,hv]
 | bool h a=>simp [part,isAgg,run_underlying h,hv]
theorem xL {t:TypeId} {x:Value} (hx:Flat P t x) (e:Bool) (n:Nat) (w:World):(Instr.checkKey e (n+1) t x).run P w=.ok () w:=by
 cases hx with
 | int h a=>simp [Instr.checkKey,run_underlying h]
 | str h a=>simp [Instr.checkKey,run_underlying h]
 | bool h a=>simp [Instr.checkKey,run_underlying h]

def r9 (P:Program) (fs:List Field) (cs:Array Value):Prop:=∀ f ∈ fs,f.name ≠ "_" ∧ ∃ v,cs[f.offset]?=some v∧Flat P f.type v
def l8 (fs:List Field) (xs ys:Array Value):Bool:=fs.all fun f=>match xs[f.offset]?,ys[f.offset]? with | some x,some y=>xK x y | _,_=>false
theorem PN {xs ys:Array Value} (n:Nat) (w:World):∀ fs:List Field,r9 P fs xs→r9 P fs ys →
  (forIn fs ((none,()):Option Bool × Unit) (fun f __s =>
   if f.name ≠ "_" then do
    let a ←part f.type xs f.offset
    let b ←part f.type ys f.offset
    let c ←Op.equalIn (n+1) f.type a b
    if (!c)=true then pure (ForInStep.done (some false,())) else pure (ForInStep.yield (none,()))
   else pure (ForInStep.yield (none,()))):Sem (Option Bool × Unit)).run P w=.ok (if l8 fs xs ys=true then (none,()) else (some false,())) w:=by
 intro fs
 induction fs with
 | nil=>intro _ _;rfl
 | cons f fs ih =>
  intro hx hy;obtain ⟨hn,x,hx1,hx2⟩:=hx f (List.mem_cons_self ..);obtain ⟨-,y,hy1,hy2⟩:=hy f (List.mem_cons_self ..);have ih':=ih (fun g hg=>hx g (List.mem_cons_of_mem _ hg)) (fun g hg=>hy g (List.mem_cons_of_mem _ hg));rw [List.forIn_cons];simp only [if_pos hn,Sem.run_bind,uP hx2 hx1,uP hy2 hy1,Ia hx2 hy2,Result.andThen_ok];have e:l8 (f :: fs) xs ys=(xK x y && l8 fs xs ys):=by
   unfold l8;rw [List.all_cons,hx1,hy1]
  rw [e];cases h:xK x y with
  | false=>simp [Sem.run_pure]
  | true=>simp [Sem.run_pure];simpa using ih'
theorem JL {K:TypeId} {fs:Array Field} (hK:P.underlying K=some (.struct fs)) (hh:P.stoodInHeld K=false) {xs ys:Array Value} (hx:r9 P fs.toList xs) (hy:r9 P fs.toList ys) (n:Nat) (w:World) :
  (Op.equalIn (n+2) K (.agg xs) (.agg ys)).run P w=.ok (l8 fs.toList xs ys) w:=by
 unfold Op.equalIn;simp only [Sem.run_bind,run_underlying hK,Result.andThen_ok,run_program,hh,Bool.false_eq_true,if_false,Sem.run_pure];rw [←Array.forIn_toList,PN n w fs.toList hx hy];cases h:l8 fs.toList xs ys <;> simp [Sem.run_pure]
theorem FJ {xs:Array Value} (e:Bool) (n:Nat) (w:World):∀ fs:List Field,r9 P fs xs →
  (forIn fs () (fun f __s =>
   if f.name ≠ "_" then do
    let a ←part f.type xs f.offset
    Instr.checkKey e (n+1) f.type a
    pure (ForInStep.yield ())
   else pure (ForInStep.yield ())):Sem Unit).run P w=.ok () w:=by
 intro fs
 induction fs with
 | nil=>intro _;rfl
 | cons f fs ih =>
  intro hx;obtain ⟨hn,x,hx1,hx2⟩:=hx f (List.mem_cons_self ..);have ih':=ih (fun g hg=>hx g (List.mem_cons_of_mem _ hg));rw [List.forIn_cons];simp only [if_pos hn,Sem.run_bind,uP hx2 hx1,xL hx2,Result.andThen_ok,Sem.run_pure];exact ih'
theorem Bp {K:TypeId} {fs:Array Field} (hK:P.underlying K=some (.struct fs)) {xs:Array Value} (hx:r9 P fs.toList xs) (e:Bool) (n:Nat) (w:World) :
  (Instr.checkKey e (n+2) K (.agg xs)).run P w=.ok () w:=by
 unfold Instr.checkKey;simp only [Sem.run_bind,run_underlying hK,Result.andThen_ok];rw [←Array.forIn_toList];have h:=FJ e n w fs.toList hx;refine Eq.trans (congrArg (fun z=>Result.andThen z _) h) ?_;simp [Sem.run_pure]

theorem su {α:Type} [DecidableEq α] {K:TypeId} {fs:Array Field} (hK:P.underlying K=some (.struct fs)) (hh:P.stoodInHeld K=false) {cs:α→Array Value} (hx:∀ a,r9 P fs.toList (cs a))
  (heq:∀ a b,l8 fs.toList (cs a) (cs b)=decide (a=b)) (hsame:∀ a,Instr.sameBits 10000 (.agg (cs a)) (.agg (cs a))=true):mg P K (fun a=>.agg (cs a)):=by
 refine ⟨fun a b w=>?_,fun e a w=>Bp hK (hx a) e 9998 w,hsame,_,hK,fun a b=>.inl rfl⟩;rw [Op.equal,Op.maxDepth,JL hK hh (hx a) (hx b) 9998 w,heq]
end
end Go.CH
namespace Go.Proofs.YtbnnlpjpnihheaaGreatDoor
open Go.RowKit Go.CH Go.CH.Scr Go.CH.dK
open Go.ChangeMaps (setBlock)
section
attribute [local go_sem] Oper.semAt_some
def Ra (s:St):Value:=.agg (fq s)
end

theorem xq (a b:Bs):(bs a == bs b)=decide (a=b):=by
 rw [Ku];exact decide_eq_decide.2 ⟨fun h=>AZ h,fun h=>by rw [h]⟩
theorem Pn (a b:St):l8 [⟨ "i",3,0,false, "", "customhouse/potential",0⟩,⟨ "j",3,1,false, "", "customhouse/potential",8⟩,⟨ "ahead",9,2,false, "", "customhouse/potential",16⟩,⟨ "right",4,3,false, "", "customhouse/potential",32⟩] (fq a) (fq b)=decide (a=b):=by
 have e:l8 [⟨ "i",3,0,false, "", "customhouse/potential",0⟩,⟨ "j",3,1,false, "", "customhouse/potential",8⟩,⟨ "ahead",9,2,false, "", "customhouse/potential",16⟩,⟨ "right",4,3,false, "", "customhouse/potential",32⟩] (fq a) (fq b)=(((a.i:Int) == (b.i:Int)) && (((a.j:Int) == (b.j:Int)) && ((bs a.a == bs b.a) && ((a.r == b.r) && true)))):=rfl;rw [e,xq];obtain ⟨i,j,x,r⟩:=a;obtain ⟨i',j',x',r'⟩:=b;simp only [Bool.and_true];by_cases h1:i=i'
 ·by_cases h2:j=j'
  ·by_cases h3:x=x'
   ·by_cases h4:r=r' <;> simp [h1,h2,h3,h4]
   ·simp [h3]
  ·simp only [St.mk.injEq,h2,false_and,and_false,decide_false];have:((j:Int) == (j':Int))=false:=by simp;omega
   rw [this];simp
 ·simp only [St.mk.injEq,h1,false_and,decide_false];have:((i:Int) == (i':Int))=false:=by simp;omega
  rw [this];rfl

def j5 (b:Nat) (l:List (St × Int)):CH.Own:=fQ Ra b (l.map fun p=>(p.1,.int .i64 p.2))
end Go.Proofs.YtbnnlpjpnihheaaGreatDoor
namespace Go.CH.dK
open Go.CH.Scr
def fV (L:List (St × Int)):List St:=L.map (·.1)

structure Kn (W:Wd) (L:List (St × Int)):Prop where
 val:∀ p ∈ L,p.2=W.dist p.1
 ok:∀ p ∈ L,W.ok p.1
 cl:∀ p ∈ L,∀ x ∈ W.moves p.1,x.2 ∈ fV L
 nd:(fV L).Nodup

structure Ext (W:Wd) (s:St) (L L':List (St × Int)):Prop where
 old:∀ p ∈ L,p ∈ L'
 new:∀ p ∈ L',p ∈ L∨EI W s p.1
section
variable {W:Wd} {s s':St} {L L' L'':List (St × Int)} {c:Int}
theorem Sb:Kn W []:=⟨fun p h=>absurd h (List.not_mem_nil),fun p h=>absurd h (List.not_mem_nil),fun p h=>absurd h (List.not_mem_nil),List.nodup_nil⟩
theorem mem_keys {q:St}:q ∈ fV L↔∃ v,(q,v) ∈ L:=by
 unfold fV;rw [List.mem_map];exact ⟨fun ⟨p,hp,e⟩=>⟨p.2,by rw [←e];exact hp⟩,fun ⟨v,hv⟩=>⟨_,hv,rfl⟩⟩
theorem Ext.refl:Ext W s L L:=⟨fun _ h=>h,fun _ h=>.inl h⟩
theorem Ext.keys (h:Ext W s L L') {q:St} (hq:q ∈ fV L):q ∈ fV L':=by
 obtain ⟨v,hv⟩:=mem_keys.1 hq;exact mem_keys.2 ⟨v,h.old _ hv⟩
theorem Ext.step (h:Ext W s L L') (hm:(c,s') ∈ W.moves s) (h2:Ext W s' L' L''):Ext W s L L'' :=
 ⟨fun p hp=>h2.old p (h.old p hp),fun p hp=>(h2.new p hp).elim (fun h3=>h.new p h3) (fun h3=>.inr ((EI.step .refl hm).trans h3))⟩
theorem LU (hs:W.ok s) (h:EI W s s'):W.rank s'≤W.rank s:=by
 induction h with
 | refl=>exact Nat.le_refl _
 | step h hm ih=>have:=(dS (EI.ok hs h) hm).2;omega

theorem Js (hs:W.ok s) (h:s ∉ fV L) (he:∀ p ∈ L',p ∈ L∨∃ c s',(c,s') ∈ W.moves s∧EI W s' p.1):s ∉ fV L':=fun hq=>by
 obtain ⟨v,hv⟩:=mem_keys.1 hq;rcases he _ hv with h1 | ⟨c,s',hm,hr⟩
 ·exact h (mem_keys.2 ⟨v,h1⟩)
 ·have h2:=dS hs hm;have h3:=LU h2.1 hr;have:W.rank s≤W.rank s':=h3;omega
theorem Kn.add (h:Kn W L) (hs:W.ok s) (hn:s ∉ fV L) (hm:∀ x ∈ W.moves s,x.2 ∈ fV L):Kn W (L ++ [(s,W.dist s)]):=by
 have hk:fV (L ++ [(s,W.dist s)])=fV L ++ [s]:=by unfold fV;rw [List.map_append];rfl
 refine ⟨fun p hp=>?_,fun p hp=>?_,fun p hp x hx=>?_,?_⟩
 ·rcases List.mem_append.1 hp with hp | hp
  ·exact h.val p hp
  ·rw [List.mem_singleton.1 hp]
 ·rcases List.mem_append.1 hp with hp | hp
  ·exact h.ok p hp
  ·rw [List.mem_singleton.1 hp];exact hs
 ·rw [hk];refine List.mem_append_left _ ?_;rcases List.mem_append.1 hp with hp | hp
  ·exact h.cl p hp x hx
  ·rw [List.mem_singleton.1 hp] at hx;exact hm x hx
 ·rw [hk,List.nodup_append];refine ⟨h.nd,(by simp),fun a ha b hb e=>?_⟩;rw [List.mem_singleton.1 hb] at e;exact hn (e ▸ ha)

def kN (W:Wd) (s:St) (i:Nat):Int:=((W.moves s).take i).foldl (fun h x=>min h (x.1+W.dist x.2)) (if s=W.fin then 0 else never)
theorem zO:kN W s 0=if s=W.fin then 0 else never:=rfl
theorem Jt {i:Nat} (hi:i < (W.moves s).length):kN W s (i+1)=min (kN W s i) ((W.moves s)[i].1+W.dist (W.moves s)[i].2):=by
 unfold kN;rw [List.take_succ_eq_append_getElem hi,List.foldl_append];rfl
theorem LV (hs:W.ok s):kN W s (W.moves s).length=W.dist s:=by unfold kN;rw [List.take_length,jO hs]
theorem Pk {i:Nat}:kN W s i≤never:=by
 unfold kN;refine Int.le_trans (Bl (fun x:Int × St=>x.1+W.dist x.2) _ _).1 ?_;split
 ·decide
 ·exact Int.le_refl _
theorem LW (hg:W.good) (hs:W.ok s):∀ i,0≤kN W s i:=fun i=>by
 rcases fold_eq (fun x:Int × St=>x.1+W.dist x.2) ((W.moves s).take i) (if s=W.fin then 0 else never) with h | ⟨x,hx,h⟩
 ·unfold kN;rw [h];split <;> decide
 ·unfold kN;rw [h];have hx':=List.mem_of_mem_take hx;have h1:=dS (c:=x.1) (s':=x.2) hs hx';have h2:=iX hg h1.1;have h3:=(jI (c:=x.1) (s':=x.2) hg hx').1;omega

structure Q9 (W:Wd) (s:St) (L:List (St × Int)) (i:Nat) (L':List (St × Int)):Prop where
 kn:Kn W L'
 old:∀ p ∈ L,p ∈ L'
 new:∀ p ∈ L',p ∈ L∨∃ c s',(c,s') ∈ W.moves s∧EI W s' p.1
 mv:∀ j (hj:j < (W.moves s).length),j < i→(W.moves s)[j].2 ∈ fV L'
theorem LX (h:Kn W L):Q9 W s L 0 L:=⟨h,fun _ h=>h,fun _ h=>.inl h,fun j _ h=>absurd h (Nat.not_lt_zero _)⟩
theorem LY {i:Nat} (hi:i < (W.moves s).length) (h:Q9 W s L i L') (h2:Kn W L'') (he:Ext W (W.moves s)[i].2 L' L'') (hk:(W.moves s)[i].2 ∈ fV L''):Q9 W s L (i+1) L'':=by
 refine ⟨h2,fun p hp=>he.old p (h.old p hp),fun p hp=>?_,fun j hj hji=>?_⟩
 ·rcases he.new p hp with h3 | h3
  ·exact h.new p h3
  ·exact .inr ⟨_,_,List.getElem_mem hi,h3⟩
 ·by_cases e:j=i
  ·subst e;exact hk
  ·exact he.keys (h.mv j hj (by omega))
theorem Pm (h:Q9 W s L (W.moves s).length L') (hs:W.ok s) (hn:s ∉ fV L):Kn W (L' ++ [(s,W.dist s)])∧Ext W s L (L' ++ [(s,W.dist s)])∧s ∈ fV (L' ++ [(s,W.dist s)])∧s ∉ fV L':=by
 have hn':=Js hs hn h.new;refine ⟨h.kn.add hs hn' (fun x hx=>?_),⟨fun p hp=>List.mem_append_left _ (h.old p hp),fun p hp=>?_⟩,mem_keys.2 ⟨_,List.mem_append_right _ (List.mem_singleton.2 rfl)⟩,hn'⟩
 ·obtain ⟨j,hj,rfl⟩:=List.mem_iff_getElem.1 hx;exact h.mv j hj hj
 ·rcases List.mem_append.1 hp with hp | hp
  ·rcases h.new p hp with h3 | ⟨c,s',hm,hr⟩
   ·exact .inl h3
   ·exact .inr ((EI.step .refl hm).trans hr)
  ·rw [List.mem_singleton.1 hp];exact .inr .refl

end
end Go.CH.dK
namespace Go.Proofs.YtbnnlpjpnihheaaGreatDoor
open Go.RowKit Go.CH Go.CH.Scr Go.CH.dK
open Go.ChangeMaps (setBlock)
attribute [local go_sem] Oper.semAt_some
theorem fu {b:Nat} {L:List (St × Int)}:(j5 b L).Ok:=map_ok
theorem Hr {L:List (St × Int)} {s:St} {v:Int} (hn:(fV L).Nodup) (h:(s,v) ∈ L):mV (L.map fun p=>(p.1,Value.int .i64 p.2)) s=some (.int .i64 v):=by
 induction L with
 | nil=>cases h
 | cons p L ih =>
  have hn1:=List.nodup_cons.1 hn;rw [List.map_cons,pV];rcases List.mem_cons.1 h with e | h
  ·rw [←e];simp
  ·rw [if_neg (fun e:s=p.1=>hn1.1 (List.mem_map.2 ⟨(s,v),h,e⟩))];exact ih hn1.2 h
theorem Po {L:List (St × Int)} {s:St} (h:s ∉ fV L):mV (L.map fun p=>(p.1,Value.int .i64 p.2)) s=none:=by
 refine yH ?_;rw [List.map_map];exact h
theorem xu {W:Wd} {s s':St} {c:Int} (ht:W.Cy) (ha:s.a.length≤3) (h:(c,s') ∈ W.moves s):s'.a.length≤3:=by
 obtain ⟨R,hR,hm⟩:=uI h;obtain ⟨-,-,x,hx,rfl⟩:=Bj hm;have h1:=(ht R hR).1;have key:x.1.length≤3:=by
  unfold Wd.ah at hx;split at hx
  ·injection hx with hx;subst hx;rw [List.length_drop];omega
  ·split at hx
   ·injection hx with hx;subst hx;rw [List.length_drop];omega
   ·cases hx
 split <;> exact key
end Go.Proofs.YtbnnlpjpnihheaaGreatDoor
namespace Go.Proofs.YtbnnlpjpnihheaaGreatDoor
open Go.RowKit Go.CH Go.CH.Scr Go.CH.dK
open Go.ChangeMaps (setBlock)
def CP (x:Int × Bs × Bs):Array Value:=#[.int .i64 x.1,.string (bs x.2.1),.string (bs x.2.2)]
def Pq (x:Int × Bs × Bs):Value:=.agg (CP x)
def Md:List Field:=[⟨ "script",3,0,false, "", "customhouse/rewrite",0⟩,⟨ "from",9,1,false, "", "customhouse/rewrite",8⟩,⟨ "to",9,2,false, "", "customhouse/rewrite",24⟩]
theorem Ju (x:Int × Bs × Bs):r9 Tryz.prog Md (CP x):=by
 intro f hf;simp only [Md,List.mem_cons,List.mem_nil_iff,or_false] at hf;rcases hf with rfl | rfl | rfl
 ·exact ⟨by decide,_,rfl,.int Tryz.underlying3 _⟩
 ·exact ⟨by decide,_,rfl,.str Tryz.underlying9 _⟩
 ·exact ⟨by decide,_,rfl,.str Tryz.underlying9 _⟩
theorem Me (a b:Int × Bs × Bs):l8 Md (CP a) (CP b)=decide (a=b):=by
 have e:l8 Md (CP a) (CP b)=((a.1 == b.1) && ((bs a.2.1 == bs b.2.1) && ((bs a.2.2 == bs b.2.2) && true))):=rfl;rw [e,xq,xq];obtain ⟨i,x,y⟩:=a;obtain ⟨i',x',y'⟩:=b;by_cases h1:i=i' <;> by_cases h2:x=x' <;> by_cases h3:y=y' <;> simp [h1,h2,h3]
theorem zQ:mg Tryz.prog 146 Pq:=by
 refine su (cs:=CP) (fs:=Md.toArray) Tryz.underlying146 (by kernel_rfl) Ju Me (fun a=>?_);simp [CP,Instr.sameBits,xq]

def vT (b:Nat) (l:List (Int × Bs × Bs)):CH.Own:=fQ Pq b (l.map fun x=>(x,.bool true))
theorem qY {b:Nat} {l:List (Int × Bs × Bs)}:(vT b l).Ok:=map_ok
theorem Ht {b:Nat} {l:List (Int × Bs × Bs)} {w:World} {F:Nat→Prop} (h:vT b l w F) (x:Int × Bs × Bs) :
  (Instr.lookup 144 (.map (some b)) (.agg #[.int .i64 x.1,.string (bs x.2.1),.string (bs x.2.2)]) false).run Tryz.prog w=.ok (.bool (decide (x ∈ l))) w:=by
 have h1:=D8 zQ Tryz.underlying144 Tryz.zeroValue4 h x;rw [yI] at h1;refine h1.trans ?_;by_cases hx:x ∈ l
 ·rw [if_pos hx,decide_eq_true hx];rfl
 ·rw [if_neg hx,decide_eq_false hx];rfl
theorem Hu {b:Nat} {l:List (Int × Bs × Bs)} {w:World} {F:Nat→Prop} (h:vT b l w F) {x:Int × Bs × Bs} (hx:x ∉ l) :
  ∃ w',(Instr.mapUpdate 144 (.map (some b)) (.agg #[.int .i64 x.1,.string (bs x.2.1),.string (bs x.2.2)]) (.bool true)).run Tryz.prog w=.ok () w'∧Post w F (vT b (l ++ [x])) w':=by
 obtain ⟨w',h1,h2⟩:=oQ zQ Tryz.underlying144 h x (.bool true);refine ⟨w',h1,?_⟩;have e:jW (l.map fun x=>(x,Value.bool true)) x (.bool true)=(l ++ [x]).map fun x=>(x,Value.bool true):=by
  rw [qh (by rw [List.map_map];simpa using hx),List.map_append];rfl
 rw [e] at h2;exact h2
end Go.Proofs.YtbnnlpjpnihheaaGreatDoor
namespace Go.Proofs.YtbnnlpjpnihheaaGreatDoor
open Go.RowKit Go.CH Go.CH.Scr Go.CH.dK
open Go.ChangeMaps (setBlock)
theorem Mf {most:Nat} {l:List Drop} {k:Nat} (hk:k < l.length) (h:ku l[k] ∈ (l.take k).map ku∨nY most l[k]=false):gV most l=false:=by
 rw [Bool.eq_false_iff];intro h2;unfold gV at h2;simp only [Bool.and_eq_true,decide_eq_true_eq] at h2;rcases h with h | h
 ·obtain ⟨x,hx,e⟩:=List.mem_map.1 h;obtain ⟨j,hj,rfl⟩:=List.mem_iff_getElem.1 hx;have hj':j < k:=by rw [List.length_take] at hj;omega
  have h3:=List.pairwise_iff_getElem.1 h2.1 j k (by rw [List.length_map];omega) (by rw [List.length_map];omega) hj';rw [List.getElem_map,List.getElem_map] at h3;rw [List.getElem_take] at e;exact h3 e
 ·have:=List.all_eq_true.1 h2.2.1 l[k] (List.getElem_mem hk);rw [h] at this;cases this
theorem Jv {most:Nat} {l:List Drop} (h1:(l.map ku).Nodup) (h2:∀ d ∈ l,nY most d=true):gV most l=decide (l.length≤40):=by
 unfold gV;rw [decide_eq_true h1,List.all_eq_true.2 h2];simp
theorem Jw {l:List Drop} {k:Nat} (hk:k < l.length) (h1:((l.take k).map ku).Nodup) (h2:ku l[k] ∉ (l.take k).map ku):((l.take (k+1)).map ku)=(l.take k).map ku ++ [ku l[k]]∧((l.take (k+1)).map ku).Nodup:=by
 have e:((l.take (k+1)).map ku)=(l.take k).map ku ++ [ku l[k]]:=by rw [List.take_succ_eq_append_getElem hk,List.map_append];rfl
 refine ⟨e,?_⟩;rw [e,List.nodup_append];refine ⟨h1,by simp,fun a ha b hb e=>?_⟩;rw [List.mem_singleton.1 hb] at e;exact h2 (e ▸ ha)
theorem Mg {most:Nat} {l:List Drop} {k:Nat} (hk:k < l.length) (h1:∀ d ∈ l.take k,nY most d=true) (h2:nY most l[k]=true):∀ d ∈ l.take (k+1),nY most d=true:=by
 intro d hd;rw [List.take_succ_eq_append_getElem hk] at hd;rcases List.mem_append.1 hd with hd | hd
 ·exact h1 d hd
 ·rw [List.mem_singleton.1 hd];exact h2
theorem oo {w:World} {A:Option Addr} {c:Nat} {l:List Drop} {most:Nat} (hA:j6 w A l) (hl:l.length≤1000000) (hs:∀ d ∈ l,d.w.length≤1000000) (hz:LZ w) :
  Calls Tryz.prog 84 #[.slice A l.length c,.int .i64 (most:Int)] w (aP w (.bool (gV most l))):=by
 have HA:=hide hA;have HZ:=hide hz;have HS:=hide hs;obtain ⟨N,hN⟩:∃ N,N=l.length:=⟨_,rfl⟩;have HN:=hide hN;rw [←hN] at hl ⊢;have h0:=(Run.begin w).fresh aB (lK (kv:=Pq) w);have H0:=hide (show Run (fun _=>False) w (star (vT w.heap.size ((l.take 0).map ku)) emp) (w.alloc (.map #[] 0)) from h0);have hmk:∀ w:World,(Instr.makeMap 144 none).run Tryz.prog w=.ok (.map (some w.heap.size)) (w.alloc (.map #[] 0)):=fun w=>by kernel_rfl
 clear hA hz hs hN h0
 go_enter Tryz.func84,Tryz.ntmps84
 go_wp2;clear hmk;generalize w.alloc (.map #[] 0)=w1 at *
 generalize w.heap.size=bm at *
 go_loopw [12] (fun i wr=>∃ k:Nat,k≤N∧i=.int .i64 k∧(∀ d ∈ l.take k,nY most d=true)∧((l.take k).map ku).Nodup∧Run (fun _=>False) w (star (vT bm ((l.take k).map ku)) emp) wr) (fun i _=>N - (intOf i).toNat)
 case atStart=>exact ⟨0,Nat.zero_le _,rfl,by simp,by simp,H0.out⟩
 case round =>
  clear H0;obtain ⟨k,hk,rfl,ha,hnd,hR⟩:=hrel;have HAL:=hide ha;have HND:=hide hnd;have HR:=hide hR;clear ha hnd hR;by_cases hlt:k < N
  ·have hkn:k < l.length:=by rw [←HN.out];exact hlt
   have HK1:=hide (show k+1≤N from hlt);have hkb:(k:Int) < 1000000:=by omega
   obtain ⟨b,o,rfl,hc⟩:=HA.out.at (by omega);obtain ⟨r0,r1,r2⟩:=hc wr (HR.out.mod.below (fun _ _ h=>h)) k hkn;have hwl:=HS.out _ (List.getElem_mem hkn);clear hc;have h2:=aG HR.out (aj qY aB) #[.int .i64 l[k].k,.string (bs l[k].w),.int .i64 l[k].c] 104;have h3:=aG h2 (aj av (aj qY aB)) #[.int .i64 l[k].k,.string (bs l[k].w),.string ⟨#[]⟩] 146;rw [World.size_alloc] at h3;obtain ⟨FS,hFS⟩:=h3.drop.drop.fst;have hlk:=Ht hFS (ku l[k]);have hlk2:(Instr.lookup 144 (.map (some bm)) (.agg #[.int .i64 l[k].k,.string (bs l[k].w),.string ⟨#[]⟩]) false).run Tryz.prog ((wr.alloc (.cells #[.int .i64 l[k].k,.string (bs l[k].w),.int .i64 l[k].c] 104)).alloc (.cells #[.int .i64 l[k].k,.string (bs l[k].w),.string ⟨#[]⟩] 146))=.ok (.bool (decide (ku l[k] ∈ (l.take k).map ku))) _:=hlk;have HNO:=hide (fun h=>Mf (most:=most) hkn h);have HST:=hide (fun h=>Jw hkn HND.out h);have HAS:=hide (fun h=>Mg (most:=most) hkn HAL.out h);have H3:=hide h3;clear hlk h2 h3 hFS HR;by_cases hin:ku l[k] ∈ (l.take k).map ku
   ·rw [decide_eq_true hin] at hlk2;have HF:=hide (HNO.out (.inl hin));clear hin HNO HST HAS;generalize l[k]=d at *
    have HB:=hide (H3.out.mod.below (fun _ _ h=>h));go_wp2;go_ret;exact aQ HF.out HB.out
   ·rw [decide_eq_false hin] at hlk2;have HKS:=hide (HST.out hin);have HKN:=hide hin;have KF:=hide (fun W (hz:LZ W)=>xC l[k].k (bs l[k].w) most W (by rw [bX];exact hwl) hz);clear hin HST;simp only [gQ] at KF;have KF2:=hide (KF.out _ (HZ.out.below (H3.out.mod.below (fun _ _ h=>h))));have KC:=hide (fun W=>qX l[k].c W);have okA:(star (au (wr.heap.size+1) #[.int .i64 l[k].k,.string (bs l[k].w),.string ⟨#[]⟩] 146) (star (au wr.heap.size #[.int .i64 l[k].k,.string (bs l[k].w),.int .i64 l[k].c] 104) (star (vT bm ((l.take k).map ku)) emp))).Ok:=aj av (aj av (aj qY aB));have OKA:=hide okA;have hdn:nY most l[k]=(fT l[k].k l[k].w most && eY l[k].c):=rfl;have HDN:=hide hdn;have hky:ku l[k]=(l[k].k,l[k].w,[]):=rfl;have HKY:=hide hky;clear KF okA hdn hky;go_wp2_with fail;refine KF2.out.mono ?_;rintro e9 w3 ⟨rfl,hb⟩;have H4:=hide (H3.out.below OKA.out hb);clear KF2 H3 hb hlk2 r0 r1 r2;generalize wr.heap.size+1=g2 at *
    generalize wr.heap.size=g1 at *
    obtain ⟨F1,hF1⟩:=H4.out.fst;obtain ⟨F2,hF2⟩:=H4.out.drop.fst;have y0:=ay (i:=0) hF1 rfl;have y1:=ay (i:=1) hF1 rfl;have y2:=ay (i:=2) hF1 rfl;have x2:=ay (i:=2) hF2 rfl;clear hF1 hF2;dsimp only;cases hfo:fT l[k].k l[k].w most with
    | false =>
     have HF:=hide (HNO.out (.inr (by rw [HDN.out,hfo];rfl)));have HB:=hide (H4.out.mod.below (fun _ _ h=>h));clear hfo;go_wp2;go_ret;exact aQ HF.out HB.out
    | true =>
     cases hco:eY l[k].c with
     | false =>
      have HF:=hide (HNO.out (.inr (by rw [HDN.out,hfo,hco];rfl)));rw [hco] at KC;clear hfo hco;go_wp2_with fail;refine (KC.out _).mono ?_;rintro e9 w4 ⟨rfl,hb⟩;have H5:=hide (H4.out.below OKA.out hb);have HB:=hide (H5.out.mod.below (fun _ _ h=>h));clear KC H4 hb;dsimp only;go_wp2;go_ret;exact aQ HF.out HB.out
     | true =>
      have HA2:=hide (HAS.out (by rw [HDN.out,hfo,hco];rfl));rw [hco] at KC;clear hfo hco;go_wp2_with fail;refine (KC.out _).mono ?_;rintro e9 w4 ⟨rfl,hb⟩;have H5:=hide (H4.out.below OKA.out hb);clear KC H4 hb y0 y1 y2 x2;dsimp only;obtain ⟨F1,hF1⟩:=H5.out.fst;have y0:=ay (i:=0) hF1 rfl;have y1:=ay (i:=1) hF1 rfl;have y2:=ay (i:=2) hF1 rfl;obtain ⟨FM,hFM,-,bk⟩:=(H5.out.drop.drop).take qY aB;obtain ⟨w5,hup,hpost⟩:=Hu hFM HKN.out;have h6:=bk _ _ hpost;rw [←HKS.out.1] at h6;have H6:=hide h6;rw [HKY.out] at hup;have hup2:(Instr.mapUpdate 144 (.map (some bm)) (.agg #[.int .i64 l[k].k,.string (bs l[k].w),.string ⟨#[]⟩]) (.bool true)).run Tryz.prog w4=.ok () w5:=hup;clear hF1 hFM bk hup hpost h6;go_wp2
      go_roundw
      case rel=>exact ⟨k+1,HK1.out,by go_num,HA2.out,HKS.out.2,H6.out⟩
      case measure=>have:=HK1.out;simp [intOf];omega
  ·obtain rfl:k=N:=by omega
   have HF:=hide (Jv (most:=most) (l:=l) (by have:=HND.out;rw [HN.out,List.take_length] at this;exact this) (by have:=HAL.out;rw [HN.out,List.take_length] at this;exact this));rw [←HN.out] at HF;have HB:=hide (HR.out.mod.below (fun _ _ h=>h));clear HND HAL;by_cases h40:k≤40
   ·have h40':(k:Int)≤40:=by omega
    rw [decide_eq_true h40] at HF;go_wp2;go_ret;exact aQ HF.out HB.out
   ·have h40':¬ (k:Int)≤40:=by omega
    rw [decide_eq_false h40] at HF;go_wp2;go_ret;exact aQ HF.out HB.out
end Go.Proofs.YtbnnlpjpnihheaaGreatDoor
namespace Go.Proofs.YtbnnlpjpnihheaaGreatDoor
open Go.RowKit Go.CH Go.CH.Scr Go.CH.dK
theorem Mh {l:List Rule} {k:Nat} (hk:k < l.length) (h:jS l[k] ∈ (l.take k).map jS∨qI l[k]=false):nZ l=false:=by
 rw [Bool.eq_false_iff];intro h2;obtain ⟨h3,h4⟩:=kM.1 h2;rcases h with h | h
 ·obtain ⟨x,hx,e⟩:=List.mem_map.1 h;obtain ⟨j,hj,rfl⟩:=List.mem_iff_getElem.1 hx;have hj':j < k:=by rw [List.length_take] at hj;omega
  have h5:=List.pairwise_iff_getElem.1 h3 j k (by rw [List.length_map];omega) (by rw [List.length_map];omega) hj';rw [List.getElem_map,List.getElem_map] at h5;rw [List.getElem_take] at e;exact h5 e
 ·have:=h4 l[k] (List.getElem_mem hk);rw [h] at this;cases this
theorem Fj {l:List Rule} {k:Nat} (hk:k < l.length) (h1:((l.take k).map jS).Nodup) (h2:jS l[k] ∉ (l.take k).map jS):((l.take (k+1)).map jS)=(l.take k).map jS ++ [jS l[k]]∧((l.take (k+1)).map jS).Nodup:=by
 have e:((l.take (k+1)).map jS)=(l.take k).map jS ++ [jS l[k]]:=by rw [List.take_succ_eq_append_getElem hk,List.map_append];rfl
 refine ⟨e,?_⟩;rw [e,List.nodup_append];refine ⟨h1,by simp,fun a ha b hb e=>?_⟩;rw [List.mem_singleton.1 hb] at e;exact h2 (e ▸ ha)
theorem Jy {l:List Rule} {k:Nat} (hk:k < l.length) (h1:∀ d ∈ l.take k,qI d=true) (h2:qI l[k]=true):∀ d ∈ l.take (k+1),qI d=true:=by
 intro d hd;rw [List.take_succ_eq_append_getElem hk] at hd;rcases List.mem_append.1 hd with hd | hd
 ·exact h1 d hd
 ·rw [List.mem_singleton.1 hd];exact h2

theorem kP {T:Tab} (h:T.rs=[]∨80 < T.rs.length∨eY T.drop=false∨eY T.ord=false∨eY T.ini=false):aX T=false:=by
 rw [Bool.eq_false_iff];intro h2;obtain ⟨⟨g1,g2,g3,g4,g5⟩,-⟩:=bY.1 h2;rcases h with h | h | h | h | h
 ·exact g1 h
 ·omega
 ·rw [h] at g3;cases g3
 ·rw [h] at g4;cases g4
 ·rw [h] at g5;cases g5
theorem CQ {T:Tab} (h:nZ T.rs=false):aX T=false:=by
 rw [Bool.eq_false_iff];intro h2;have:=(bY.1 h2).2.1;rw [h] at this;cases this
theorem Fp {T:Tab} (h:T.rs≠[]∧T.rs.length≤80∧eY T.drop=true∧eY T.ord=true∧eY T.ini=true) (h2:nZ T.rs=true):aX T=(gV 12 T.ds && gV 4 T.es):=by
 rw [Bool.eq_iff_iff,bY,Bool.and_eq_true];exact ⟨fun g=>g.2.2,fun g=>⟨h,h2,g⟩⟩
end Go.Proofs.YtbnnlpjpnihheaaGreatDoor
