import Derived.Test.YtbnnlpjpnihheaaGreatDoorMD1
import Derived.Test.YtbnnlpjpnihheaaGreatDoorMD3
import Derived.Shelf.Strings.SlTrimAscii
import Derived.Test.YtbnnlpjpnihheaaGreatDoorMD2
set_option linter.unusedSimpArgs false
set_option linter.unusedVariables false
namespace Go.CH.Pot
open Go.CH.Scr
structure Rule where
 k:Int
 f:Bs
 t:Bs
 c:Int
deriving DecidableEq

structure St where
 i:Nat
 j:Nat
 a:Bs
 r:Bool
deriving DecidableEq

structure Wd where
 ka:Int
 kb:Int
 l:List Bs
 m:List Bs
 rs:List Rule

def tk:List Bs→Bs→Option Nat
 | _,[]=>some 0
 | [],_ :: _=>none
 | x :: l,c :: t=>if x.isPrefixOf (c :: t) then (tk l ((c :: t).drop x.length)).map (· + 1) else none
def takes (l:List Bs) (t:Bs):Nat:=(tk l t).getD 0
variable {W:Wd} {s s' t:St} {R:Rule} {c d:Int} {n:Nat}

def Wd.left (W:Wd) (s:St):Bool:=s.r || (decide (s.a=[]) && decide (s.i≠W.l.length))
def Wd.used (W:Wd) (s:St) (R:Rule):Nat :=
 if W.left s then (if R.k=W.ka then takes (W.l.drop s.i) R.f else 0) else (if R.k=W.kb then takes (W.m.drop s.j) R.f else 0)

def Wd.ah (W:Wd) (s:St) (tw:Bs):Option (Bs × Bool) :=
 if tw.isPrefixOf s.a∧s.a.drop tw.length≠[] then some (s.a.drop tw.length,s.r)
 else if s.a.isPrefixOf tw then some (tw.drop s.a.length,!W.left s && decide (tw.drop s.a.length≠[]))
 else none
def Wd.mv (W:Wd) (s:St) (R:Rule):Option (Int × St) :=
 if W.used s R=0 then none
 else (W.ah s R.t).map fun x=>(R.c,if W.left s then ⟨s.i+W.used s R,s.j,x.1,x.2⟩ else ⟨s.i,s.j+W.used s R,x.1,x.2⟩)
def Wd.moves (W:Wd) (s:St):List (Int × St):=W.rs.filterMap (W.mv s)
def Wd.fin (W:Wd):St:=⟨W.l.length,W.m.length,[],false⟩
def st0:St:=⟨0,0,[],false⟩
theorem pre_iff {a b:Bs}:a.isPrefixOf b=true↔∃ r,b=a ++ r:=by
 rw [List.isPrefixOf_iff_prefix]
 exact ⟨fun ⟨r,h⟩=>⟨r,h.symm⟩,fun ⟨r,h⟩=>⟨r,h.symm⟩⟩
theorem tk_nil {l:List Bs}:tk l []=some 0:=by cases l <;> rfl

theorem tk_some:∀ {l:List Bs} {t:Bs} {n:Nat},tk l t=some n→n≤l.length∧(l.take n).flatten=t:=by
 intro l
 induction l with
 | nil =>
  intro t n h
  cases t with
  | nil=>rw [tk_nil] at h;injection h with h;subst h;exact ⟨Nat.le_refl _,rfl⟩
  | cons c t=>cases h
 | cons x l ih =>
  intro t n h
  cases t with
  | nil=>rw [tk_nil] at h;injection h with h;subst h;exact ⟨Nat.zero_le _,rfl⟩
  | cons c t =>
   unfold tk at h
   split at h
   ·rename_i hp
    obtain ⟨r,hr⟩:=pre_iff.1 hp
    rw [Option.map_eq_some_iff] at h
    obtain ⟨k,hk,rfl⟩:=h
    obtain ⟨h1,h2⟩:=ih hk
    refine ⟨Nat.succ_le_succ h1,?_⟩
    rw [List.take_succ_cons,List.flatten_cons,h2,hr,List.drop_left]
   ·cases h
theorem takes_le {l:List Bs} {t:Bs}:takes l t≤l.length:=by
 unfold takes
 cases h:tk l t with
 | none=>exact Nat.zero_le _
 | some n=>exact (tk_some h).1
theorem takes_flat {l:List Bs} {t:Bs} (h:takes l t≠0):(l.take (takes l t)).flatten=t:=by
 unfold takes at h ⊢
 cases h2:tk l t with
 | none=>rw [h2] at h;exact absurd rfl h
 | some n=>exact (tk_some h2).2

theorem tk_of:∀ {l:List Bs} {n:Nat},n≤l.length→(∀ x ∈ l,x≠[])→tk l (l.take n).flatten=some n:=by
 intro l
 induction l with
 | nil=>intro n hn _;obtain rfl:n=0:=Nat.le_zero.1 hn;exact tk_nil
 | cons x l ih =>
  intro n hn hx
  cases n with
  | zero=>rfl
  | succ n =>
   have ih':=ih (n:=n) (by simpa using hn) (fun y hy=>hx y (List.mem_cons_of_mem _ hy))
   have hx0:=hx x (List.mem_cons_self ..)
   cases x with
   | nil=>exact absurd rfl hx0
   | cons b x =>
    show tk ((b :: x) :: l) (b :: (x ++ (l.take n).flatten))=some (n+1)
    unfold tk
    rw [if_pos (show (b :: x).isPrefixOf (b :: (x ++ (l.take n).flatten))=true from pre_iff.2 ⟨(l.take n).flatten,rfl⟩)]
    have:(b :: (x ++ (l.take n).flatten)).drop (b :: x).length=(l.take n).flatten:=List.drop_left
    rw [this,ih'];rfl
theorem takes_of {l:List Bs} {n:Nat} (hn:n≤l.length) (hx:∀ x ∈ l,x≠[]):takes l (l.take n).flatten=n:=by unfold takes;rw [tk_of hn hx];rfl

def Wd.ok (W:Wd) (s:St):Prop:=s.i≤W.l.length∧s.j≤W.m.length∧(s.r=true→s.a≠[])
def Wd.rank (W:Wd) (s:St):Nat:=(W.l.length - s.i)+(W.m.length - s.j)
theorem ok0:W.ok st0:=⟨Nat.zero_le _,Nat.zero_le _,fun h=>by cases h⟩
theorem mv_some (h:W.mv s R=some (c,s')):c=R.c∧W.used s R≠0∧∃ x,W.ah s R.t=some x∧s'=(if W.left s then ⟨s.i+W.used s R,s.j,x.1,x.2⟩ else ⟨s.i,s.j+W.used s R,x.1,x.2⟩):=by
 unfold Wd.mv at h
 split at h
 ·cases h
 ·rename_i hu
  rw [Option.map_eq_some_iff] at h
  obtain ⟨x,hx,he⟩:=h
  injection he with h1 h2
  exact ⟨h1.symm,hu,x,hx,h2.symm⟩
theorem used_le:(W.left s=true→s.i≤W.l.length→s.i+W.used s R≤W.l.length)∧(W.left s=false→s.j≤W.m.length→s.j+W.used s R≤W.m.length):=by
 unfold Wd.used
 constructor
 ·intro h hi
  rw [if_pos h]
  split
  ·have:=takes_le (l:=W.l.drop s.i) (t:=R.f);rw [List.length_drop] at this;omega
  ·omega
 ·intro h hj
  rw [if_neg (by rw [h];decide)]
  split
  ·have:=takes_le (l:=W.m.drop s.j) (t:=R.f);rw [List.length_drop] at this;omega
  ·omega
theorem ah_ok {x:Bs × Bool} {tw:Bs} (h:W.ah s tw=some x):x.2=true→x.1≠[]:=by
 unfold Wd.ah at h
 split at h
 ·rename_i h1;injection h with h;subst h;exact fun _=>h1.2
 ·split at h
  ·injection h with h;subst h;intro h2;simp at h2;simpa using h2.2
  ·cases h
theorem mv_ok (hs:W.ok s) (h:W.mv s R=some (c,s')):W.ok s'∧W.rank s' < W.rank s:=by
 obtain ⟨-,hu,x,hx,rfl⟩:=mv_some h
 obtain ⟨h1,h2,h3⟩:=hs
 have hle:=used_le (W:=W) (s:=s) (R:=R)
 cases hl:W.left s with
 | true =>
  have h4:=hle.1 hl h1
  simp only [if_true]
  exact ⟨⟨h4,h2,ah_ok hx⟩,by show (W.l.length - (s.i+W.used s R))+(W.m.length - s.j) < (W.l.length - s.i)+(W.m.length - s.j);omega⟩
 | false =>
  have h4:=hle.2 hl h2
  simp only [Bool.false_eq_true,if_false]
  exact ⟨⟨h1,h4,ah_ok hx⟩,by show (W.l.length - s.i)+(W.m.length - (s.j+W.used s R)) < (W.l.length - s.i)+(W.m.length - s.j);omega⟩
theorem moves_mem (h:(c,s') ∈ W.moves s):∃ R ∈ W.rs,W.mv s R=some (c,s'):=by
 unfold Wd.moves at h
 exact List.mem_filterMap.1 h
theorem moves_ok (hs:W.ok s) (h:(c,s') ∈ W.moves s):W.ok s'∧W.rank s' < W.rank s:=by
 obtain ⟨R,_,hm⟩:=moves_mem h
 exact mv_ok hs hm

inductive Rch (W:Wd) (s:St):St→Prop
 | refl:Rch W s s
 | step {s' s'':St} {c:Int} (h:Rch W s s') (hm:(c,s'') ∈ W.moves s'):Rch W s s''
theorem Rch.ok (hs:W.ok s) (h:Rch W s s'):W.ok s':=by
 induction h with
 | refl=>exact hs
 | step _ hm ih=>exact (moves_ok ih hm).1
theorem Rch.trans {a b c:St} (h:Rch W a b) (h2:Rch W b c):Rch W a c:=by
 induction h2 with
 | refl=>exact h
 | step _ hm ih=>exact .step ih hm

inductive Pa (W:Wd):St→Int→St→Prop
 | nil (s:St):Pa W s 0 s
 | cons {s s' t:St} {c d:Int} (hm:(c,s') ∈ W.moves s) (h:Pa W s' d t):Pa W s (c+d) t

def never:Int:=1099511627776
def Wd.dn (W:Wd):Nat→St→Int
 | 0,s=>if s=W.fin then 0 else never
 | n+1,s=>(W.moves s).foldl (fun h x=>min h (x.1+W.dn n x.2)) (if s=W.fin then 0 else never)
def Wd.dist (W:Wd) (s:St):Int:=W.dn (W.rank s) s
theorem fold_le {α:Type} (f:α→Int):∀ (l:List α) (h:Int),l.foldl (fun h x=>min h (f x)) h≤h∧∀ x ∈ l,l.foldl (fun h x=>min h (f x)) h≤f x:=by
 intro l
 induction l with
 | nil=>intro h;exact ⟨Int.le_refl _,fun x hx=>by cases hx⟩
 | cons y l ih =>
  intro h
  obtain ⟨h1,h2⟩:=ih (min h (f y))
  rw [List.foldl_cons]
  refine ⟨Int.le_trans h1 (Int.min_le_left ..),fun x hx=>?_⟩
  rcases List.mem_cons.1 hx with rfl | hx
  ·exact Int.le_trans h1 (Int.min_le_right ..)
  ·exact h2 x hx
theorem fold_eq {α:Type} (f:α→Int):∀ (l:List α) (h:Int),l.foldl (fun h x=>min h (f x)) h=h∨∃ x ∈ l,l.foldl (fun h x=>min h (f x)) h=f x:=by
 intro l
 induction l with
 | nil=>intro h;exact .inl rfl
 | cons y l ih =>
  intro h
  rw [List.foldl_cons]
  rcases ih (min h (f y)) with h1 | ⟨x,hx,h1⟩
  ·rw [h1]
   rcases Int.le_total h (f y) with h2 | h2
   ·exact .inl (Int.min_eq_left h2)
   ·exact .inr ⟨y,List.mem_cons_self ..,Int.min_eq_right h2⟩
  ·exact .inr ⟨x,List.mem_cons_of_mem _ hx,h1⟩
theorem fold_congr {α:Type} (f g:α→Int):∀ (l:List α) (h:Int),(∀ x ∈ l,f x=g x)→l.foldl (fun h x=>min h (f x)) h=l.foldl (fun h x=>min h (g x)) h:=by
 intro l
 induction l with
 | nil=>intro h _;rfl
 | cons y l ih =>
  intro h he
  rw [List.foldl_cons,List.foldl_cons,he y (List.mem_cons_self ..)]
  exact ih _ (fun x hx=>he x (List.mem_cons_of_mem _ hx))
theorem dn_enough:∀ (n m:Nat) (s:St),W.ok s→W.rank s≤n→W.rank s≤m→W.dn n s=W.dn m s:=by
 intro n
 induction n with
 | zero =>
  intro m s hs hn hm
  cases m with
  | zero=>rfl
  | succ m =>
   have:W.moves s=[]:=by
    cases h:W.moves s with
    | nil=>rfl
    | cons x l =>
     have:=(moves_ok (c:=x.1) (s':=x.2) hs (by rw [h];exact List.mem_cons_self ..)).2
     omega
   unfold Wd.dn
   rw [this];rfl
 | succ n ih =>
  intro m s hs hn hm
  cases m with
  | zero =>
   have:W.moves s=[]:=by
    cases h:W.moves s with
    | nil=>rfl
    | cons x l =>
     have:=(moves_ok (c:=x.1) (s':=x.2) hs (by rw [h];exact List.mem_cons_self ..)).2
     omega
   unfold Wd.dn
   rw [this];rfl
  | succ m =>
   unfold Wd.dn
   refine fold_congr _ _ _ _ (fun x hx=>?_)
   have:=moves_ok (c:=x.1) (s':=x.2) hs hx
   rw [ih m x.2 this.1 (by omega) (by omega)]

theorem dist_eq (hs:W.ok s):W.dist s=(W.moves s).foldl (fun h x=>min h (x.1+W.dist x.2)) (if s=W.fin then 0 else never):=by
 unfold Wd.dist
 rw [dn_enough (W.rank s) (W.rank s+1) s hs (Nat.le_refl _) (by omega)]
 show List.foldl (fun h x=>min h (x.1+W.dn (W.rank s) x.2)) (if s=W.fin then 0 else never) (W.moves s)=_
 refine fold_congr _ _ _ _ (fun x hx=>?_)
 have:=moves_ok (c:=x.1) (s':=x.2) hs hx
 rw [dn_enough (W.rank s) (W.rank x.2) x.2 this.1 (by omega) (by omega)]
theorem dist_move (hs:W.ok s) (h:(c,s') ∈ W.moves s):W.dist s≤c+W.dist s':=by
 rw [dist_eq hs]
 exact (fold_le (fun x:Int × St=>x.1+W.dist x.2) (W.moves s) _).2 (c,s') h
theorem dist_never (hs:W.ok s):W.dist s≤never:=by
 rw [dist_eq hs]
 refine Int.le_trans (fold_le (fun x:Int × St=>x.1+W.dist x.2) (W.moves s) _).1 ?_
 split
 ·decide
 ·exact Int.le_refl _
theorem fin_moves (h:W.rs.all (fun R=>decide (R.f≠[]))=true):W.moves W.fin=[]:=by
 unfold Wd.moves
 rw [List.filterMap_eq_nil_iff]
 intro R hR
 have hf:R.f≠[]:=by simpa using List.all_eq_true.1 h R hR
 have hl:W.left W.fin=false:=by simp [Wd.left,Wd.fin]
 unfold Wd.mv
 rw [if_pos]
 unfold Wd.used
 rw [if_neg (by rw [hl];decide)]
 split
 ·rw [show W.fin.j=W.m.length from rfl,List.drop_length]
  cases hb:R.f with
  | nil=>exact absurd hb hf
  | cons b f=>rfl
 ·rfl

def Wd.good (W:Wd):Prop:=∀ R ∈ W.rs,0≤R.c∧R.c≤1000∧R.f≠[]
theorem good_cost (hg:W.good) (h:(c,s') ∈ W.moves s):0≤c∧c≤1000:=by
 obtain ⟨R,hR,hm⟩:=moves_mem h
 obtain ⟨rfl,_⟩:=mv_some hm
 exact ⟨(hg R hR).1,(hg R hR).2.1⟩
theorem dist_pos (hg:W.good):∀ (n:Nat) (s:St),W.ok s→W.rank s≤n→0≤W.dist s:=by
 intro n
 induction n with
 | zero =>
  intro s hs hn
  rw [dist_eq hs]
  rcases fold_eq (fun x:Int × St=>x.1+W.dist x.2) (W.moves s) (if s=W.fin then 0 else never) with h | ⟨x,hx,_⟩
  ·rw [h];split <;> decide
  ·have:=(moves_ok (c:=x.1) (s':=x.2) hs hx).2;omega
 | succ n ih =>
  intro s hs hn
  rw [dist_eq hs]
  rcases fold_eq (fun x:Int × St=>x.1+W.dist x.2) (W.moves s) (if s=W.fin then 0 else never) with h | ⟨x,hx,h⟩
  ·rw [h];split <;> decide
  ·rw [h]
   have h1:=moves_ok (c:=x.1) (s':=x.2) hs hx
   have h2:=ih x.2 h1.1 (by omega)
   have h3:=(good_cost (c:=x.1) (s':=x.2) hg hx).1
   show 0≤x.1+W.dist x.2
   omega
theorem dist_nonneg (hg:W.good) (hs:W.ok s):0≤W.dist s:=dist_pos hg _ s hs (Nat.le_refl _)
theorem dist_fin (hg:W.good):W.dist W.fin=0:=by
 have hok:W.ok W.fin:=⟨Nat.le_refl _,Nat.le_refl _,fun h=>by cases h⟩
 rw [dist_eq hok,fin_moves (List.all_eq_true.2 fun R hR=>by simpa using (hg R hR).2.2)]
 simp

theorem path_dist (hg:W.good) (hl:W.l.length+W.m.length≤1000):∀ (n:Nat) (s:St),W.ok s→W.rank s≤n→(Pa W s (W.dist s) W.fin∧W.dist s≤1000*W.rank s)∨W.dist s=never∧∀ c,¬ Pa W s c W.fin:=by
 intro n
 induction n with
 | zero =>
  intro s hs hn
  have hm:W.moves s=[]:=by
   cases h:W.moves s with
   | nil=>rfl
   | cons x l =>
    have:=(moves_ok (c:=x.1) (s':=x.2) hs (by rw [h];exact List.mem_cons_self ..)).2
    omega
  by_cases hf:s=W.fin
  ·refine .inl ?_
   have e:W.dist s=0:=by rw [hf];exact dist_fin hg
   rw [e]
   exact ⟨hf ▸ Pa.nil s,by omega⟩
  ·refine .inr ⟨by rw [dist_eq hs,hm];simp [hf],fun c hp=>?_⟩
   cases hp with
   | nil=>exact hf rfl
   | cons hm2 _=>rw [hm] at hm2;cases hm2
 | succ n ih =>
  intro s hs hn
  by_cases hnv:W.dist s=never
  ·refine .inr ⟨hnv,fun c hp=>?_⟩
   cases hp with
   | nil=>rw [dist_fin hg] at hnv;exact absurd hnv (by decide)
   | cons hm2 hp2 =>
    rename_i s' c' d'
    have h1:=moves_ok hs hm2
    rcases ih _ h1.1 (by omega) with ⟨_,hb⟩ | ⟨_,h2⟩
    ·have h3:=dist_move hs hm2
     have h4:=(good_cost hg hm2).2
     have h5:W.rank s≤1000:=by unfold Wd.rank;omega
     rw [hnv] at h3
     unfold never at h3
     omega
    ·exact h2 _ hp2
  ·have he:=dist_eq hs
   rcases fold_eq (fun x:Int × St=>x.1+W.dist x.2) (W.moves s) (if s=W.fin then 0 else never) with h | ⟨x,hx,h⟩
   ·rw [h] at he
    by_cases hf:s=W.fin
    ·rw [if_pos hf] at he
     refine .inl ?_
     rw [he]
     exact ⟨hf ▸ Pa.nil s,by omega⟩
    ·rw [if_neg hf] at he;exact absurd he hnv
   ·rw [h] at he
    have h1:=moves_ok (c:=x.1) (s':=x.2) hs hx
    have hc:=good_cost (c:=x.1) (s':=x.2) hg hx
    rcases ih x.2 h1.1 (by omega) with ⟨hp,hb⟩ | ⟨h2,_⟩
    ·refine .inl ?_
     rw [he]
     exact ⟨.cons (c:=x.1) (s':=x.2) hx hp,by show x.1+W.dist x.2≤_;omega⟩
    ·exfalso
     have h3:=dist_never hs
     have he':W.dist s=x.1+W.dist x.2:=he
     rw [h2] at he'
     omega
end Go.CH.Pot
namespace Go.CH.Pot
open Go.CH.Scr

structure Pt where
 i:Int
 j:Int
 a:Bs
 r:Bool
 h:Int
deriving DecidableEq
def Pt.st (p:Pt):St:=⟨p.i.toNat,p.j.toNat,p.a,p.r⟩

def ltP (p q:Pt):Prop:=p.i < q.i∨p.i=q.i∧(p.j < q.j∨p.j=q.j∧(p.a < q.a∨p.a=q.a∧p.r=false∧q.r=true))
instance (p q:Pt):Decidable (ltP p q):=by unfold ltP;infer_instance
def isLow (c:UInt8):Bool:=decide (97≤c) && decide (c≤122)

def proper (W:Wd) (bound:Int) (p:Pt):Bool :=
 decide (0≤p.i) && decide (p.i≤W.l.length) && decide (0≤p.j) && decide (p.j≤W.m.length) && decide (p.a.length≤3) && p.a.all isLow && (!p.r || decide (p.a≠[])) && decide (p.st≠W.fin) && decide (0 < p.h) && decide (p.h≤min bound 100000)
theorem proper_iff {W:Wd} {bound:Int} {p:Pt}:proper W bound p=true↔(0≤p.i∧p.i≤W.l.length)∧(0≤p.j∧p.j≤W.m.length)∧(p.a.length≤3∧p.a.all isLow=true)∧(p.r=true→p.a≠[])∧p.st≠W.fin∧0 < p.h∧p.h≤bound∧p.h≤100000:=by
 unfold proper
 simp only [Bool.and_eq_true,Bool.or_eq_true,decide_eq_true_eq,Bool.not_eq_true']
 constructor
 ·rintro ⟨⟨⟨⟨⟨⟨⟨⟨⟨h1,h2⟩,h3⟩,h4⟩,h5⟩,h6⟩,h7⟩,h8⟩,h9⟩,h10⟩
  refine ⟨⟨h1,h2⟩,⟨h3,h4⟩,⟨h5,h6⟩,fun hr=>?_,h8,h9,by omega,by omega⟩
  rcases h7 with h7 | h7
  ·rw [hr] at h7;cases h7
  ·exact h7
 ·rintro ⟨⟨h1,h2⟩,⟨h3,h4⟩,⟨h5,h6⟩,h7,h8,h9,h10,h11⟩
  refine ⟨⟨⟨⟨⟨⟨⟨⟨⟨h1,h2⟩,h3⟩,h4⟩,h5⟩,h6⟩,?_⟩,h8⟩,h9⟩,by omega⟩
  cases hr:p.r with
  | false=>exact .inl rfl
  | true=>exact .inr (h7 hr)

def hgt (C:List Pt) (s:St):Int:=match C.find? (fun p=>decide (p.st=s)) with | some p=>p.h | none=>0
def steps (W:Wd) (C:List Pt) (p:Pt):Bool:=(W.moves p.st).all fun x=>decide (p.h≤x.1+hgt C x.2)

def Holds (W:Wd) (bound:Int) (C:List Pt):Prop :=
 (∀ p ∈ C,proper W bound p=true)∧C.Pairwise ltP∧(∀ p ∈ C,steps W C p=true)∧bound≤hgt C st0
section
variable {W:Wd} {C:List Pt} {s:St} {bound c:Int}
theorem Holds.pos (h:Holds W bound C):∀ p ∈ C,0≤p.i∧0≤p.j:=fun p hp=>by
 have:=proper_iff.1 (h.1 p hp)
 exact ⟨this.1.1,this.2.1.1⟩
end

section
variable {W:Wd} {C C':List Pt} {s s':St} {bound c:Int}

def Wd.tosOk (W:Wd):Prop:=∀ R ∈ W.rs,R.t.length≤3∧R.t.all isLow=true
end
end Go.CH.Pot
namespace Go.CH.Pot
open Go.CH.Scr
section
variable {W:Wd} {s s':St} {c d:Int}
theorem left_iff:W.left s=true↔s.r=true∨(s.a=[]∧s.i≠W.l.length):=by
 unfold Wd.left;simp

def Wd.swap (W:Wd):Wd:=⟨W.kb,W.ka,W.m,W.l,W.rs⟩

def Wd.rest (W:Wd) (i j:Nat):Wd:=⟨W.ka,W.kb,W.l.drop i,W.m.drop j,W.rs⟩
end
end Go.CH.Pot
namespace Go.CH.Pot
open Go.CH.Scr

structure Drop where
 k:Int
 w:Bs
 c:Int
deriving DecidableEq
structure Tab where
 rs:List Rule
 ds:List Drop
 es:List Drop
 drop:Int
 ord:Int
 ini:Int
deriving DecidableEq

def foldedN (k:Int) (s:Bs) (most:Nat):Bool:=word k s && (decide (lower s=s) && decide ((ltrs k s).1.length≤most))
def formN (s:Bs):Bool:=decide (s.length≤3) && s.all isLow
def costN (n:Int):Bool:=decide (0≤n) && decide (n≤1000)
def keyR (R:Rule):Int × Bs × Bs:=(R.k,R.f,R.t)
def keyD (d:Drop):Int × Bs × Bs:=(d.k,d.w,[])
def ruleN (R:Rule):Bool:=foldedN R.k R.f 3 && (formN R.t && costN R.c)
def dropN (most:Nat) (d:Drop):Bool:=foldedN d.k d.w most && costN d.c
def rulesN (l:List Rule):Bool:=decide ((l.map keyR).Nodup) && l.all ruleN
def dropsN (most:Nat) (l:List Drop):Bool:=decide ((l.map keyD).Nodup) && (l.all (dropN most) && decide (l.length≤40))
def validT (T:Tab):Bool :=
 (decide (T.rs≠[]) && (decide (T.rs.length≤80) && (costN T.drop && (costN T.ord && costN T.ini)))) && (rulesN T.rs && (dropsN 12 T.ds && dropsN 4 T.es))
theorem costN_iff {n:Int}:costN n=true↔0≤n∧n≤1000:=by unfold costN;simp
theorem foldedN_iff {k:Int} {s:Bs} {m:Nat}:foldedN k s m=true↔word k s=true∧lower s=s∧(ltrs k s).1.length≤m:=by unfold foldedN;simp
theorem formN_iff {s:Bs}:formN s=true↔s.length≤3∧s.all isLow=true:=by unfold formN;rw [Bool.and_eq_true,decide_eq_true_eq]
theorem ruleN_iff {R:Rule}:ruleN R=true↔foldedN R.k R.f 3=true∧formN R.t=true∧costN R.c=true:=by unfold ruleN;simp
theorem rulesN_iff {l:List Rule}:rulesN l=true↔(l.map keyR).Nodup∧∀ R ∈ l,ruleN R=true:=by unfold rulesN;simp
theorem validT_iff {T:Tab}:validT T=true↔(T.rs≠[]∧T.rs.length≤80∧costN T.drop=true∧costN T.ord=true∧costN T.ini=true)∧rulesN T.rs=true∧dropsN 12 T.ds=true∧dropsN 4 T.es=true:=by
 unfold validT
 simp only [Bool.and_eq_true,decide_eq_true_eq]

def wdOf (T:Tab) (a:Int) (x:Bs) (b:Int) (y:Bs):Wd:=⟨a,b,(ltrs a (lower x)).1,(ltrs b (lower y)).1,T.rs⟩

def okW (T:Tab) (a:Int) (x:Bs) (b:Int) (y:Bs):Bool:=word a x && (word b y && validT T)
theorem okW_iff {T:Tab} {a b:Int} {x y:Bs}:okW T a x b y=true↔word a x=true∧word b y=true∧validT T=true:=by unfold okW;simp
section
variable {T:Tab} {a b:Int} {x y:Bs}
theorem good_of (h:validT T=true):(wdOf T a x b y).good∧(wdOf T a x b y).tosOk:=by
 obtain ⟨-,h1,-,-⟩:=validT_iff.1 h
 obtain ⟨-,h2⟩:=rulesN_iff.1 h1
 constructor
 ·intro R hR
  obtain ⟨f1,f2,f3⟩:=ruleN_iff.1 (h2 R hR)
  have hc:=costN_iff.1 f3
  refine ⟨hc.1,hc.2,fun e=>?_⟩
  have:=(foldedN_iff.1 f1).1
  rw [e] at this
  exact word_first this rfl
 ·intro R hR
  obtain ⟨f1,f2,f3⟩:=ruleN_iff.1 (h2 R hR)
  exact formN_iff.1 f2
theorem lens_of (h:okW T a x b y=true):1≤(wdOf T a x b y).l.length∧(wdOf T a x b y).l.length≤12∧1≤(wdOf T a x b y).m.length∧(wdOf T a x b y).m.length≤12:=by
 obtain ⟨h1,h2,-⟩:=okW_iff.1 h
 have e1:=(word_iff.1 (fold_word h1)).2
 have e2:=(word_iff.1 (fold_word h2)).2
 exact ⟨e1.1,e1.2,e2.1,e2.2⟩
end
end Go.CH.Pot
namespace Go.CH.Pot
open Go.CH.Scr
section
variable {k:Int}
theorem ctx_all {r:Bs}:∀ cs:List Bs,ctx k cs r→ltrs k cs.flatten=(cs,[]):=by
 intro cs
 induction cs with
 | nil=>intro _;exact ltrs_stop (by rfl)
 | cons x xs ih =>
  rintro ⟨h1,h2,h3⟩
  have e:=ih h3
  have hpos:0 < x.length:=List.length_pos_iff.2 h1
  have h4:len1 k (x ++ xs.flatten)=x.length:=by
   have h5:=len1_cut (k:=k) (l:=x ++ (xs.flatten ++ r)) (j:=(x ++ xs.flatten).length) (by rw [h2];omega) (by rw [h2,List.length_append];omega)
   rw [←List.append_assoc,List.take_left' rfl,List.append_assoc,h2] at h5
   exact h5
  rw [List.flatten_cons,ltrs_step (by rw [h4];omega),h4,List.take_left' rfl,List.drop_left' rfl,e]
theorem ctx_of (l:Bs):ctx k (ltrs k l).1 (ltrs k l).2:=by
 refine ltrs_ind (k:=k) (P:=fun l=>ctx k (ltrs k l).1 (ltrs k l).2) (fun l h=>?_) (fun l h ih=>?_) l
 ·show ctx k (ltrs k l).1 (ltrs k l).2
  rw [ltrs_stop h];trivial
 ·show ctx k (ltrs k l).1 (ltrs k l).2
  have hle:=len1_le (k:=k) (l:=l)
  rw [ltrs_step h]
  refine ⟨?_,?_,ih⟩
  ·intro e
   have:=congrArg List.length e
   rw [List.length_take,List.length_nil] at this
   omega
  ·rw [ltrs_join,List.take_append_drop,List.length_take];omega
theorem ctx_drop {r:Bs}:∀ (cs:List Bs) (i:Nat),ctx k cs r→ctx k (cs.drop i) r
 | cs,0,h=>by rw [List.drop_zero];exact h
 | [],i+1,h=>trivial
 | x :: xs,i+1,h=>ctx_drop xs i h.2.2
theorem ctx_take {r:Bs}:∀ (cs:List Bs) (n:Nat),ctx k cs r→ctx k (cs.take n) ((cs.drop n).flatten ++ r)
 | cs,0,h=>trivial
 | [],n+1,h=>trivial
 | x :: xs,n+1,h=>by
  refine ⟨h.1,?_,ctx_take xs n h.2.2⟩
  have e:(xs.take n).flatten ++ ((xs.drop n).flatten ++ r)=xs.flatten ++ r:=by
   rw [←List.append_assoc,←List.flatten_append,List.take_append_drop]
  show len1 k (x ++ ((xs.take n).flatten ++ ((xs.drop n).flatten ++ r)))=x.length
  rw [e];exact h.2.1

theorem ltrs_mid (w:Bs) (i n:Nat):ltrs k (((ltrs k w).1.drop i).take n).flatten=(((ltrs k w).1.drop i).take n,[]):=ctx_all _ (ctx_take _ n (ctx_drop _ i (ctx_of w)))
theorem ltrs_ne (w:Bs):∀ x ∈ (ltrs k w).1,x≠[]:=fun x hx e=>by
 have h:=ltrs_each (k:=k) w x hx
 rw [e,ltrs_stop (by rfl)] at h
 cases h

theorem takes_fits {w f:Bs} {i:Nat} (hf:word k f=true):takes ((ltrs k w).1.drop i) f=(if ((ltrs k w).1.drop i).take (ltrs k f).1.length=(ltrs k f).1 then (ltrs k f).1.length else 0):=by
 have hf1:=word_iff.1 hf
 by_cases h:((ltrs k w).1.drop i).take (ltrs k f).1.length=(ltrs k f).1
 ·rw [if_pos h]
  have hlen:(ltrs k f).1.length≤((ltrs k w).1.drop i).length:=by
   have:=congrArg List.length h
   rw [List.length_take] at this
   omega
  have e:=takes_of hlen (fun x hx=>ltrs_ne w x (List.mem_of_mem_drop hx))
  rw [h,word_join hf] at e
  exact e
 ·rw [if_neg h]
  refine Classical.byContradiction fun hn=>?_
  have e:=takes_flat hn
  have h2:=ltrs_mid (k:=k) w i (takes ((ltrs k w).1.drop i) f)
  rw [e] at h2
  have h3:(ltrs k f).1=((ltrs k w).1.drop i).take (takes ((ltrs k w).1.drop i) f):=by rw [h2]
  have h4:(ltrs k f).1.length=takes ((ltrs k w).1.drop i) f:=by
   rw [h3,List.length_take]
   have:=takes_le (l:=(ltrs k w).1.drop i) (t:=f)
   omega
  exact h (by rw [h4];exact h3.symm)
end
end Go.CH.Pot
namespace Go.CH.Pot
open Go.CH.Scr

structure AR where
 ix:Nat
 c:Int
 f:List Bs
 t:Bs
deriving DecidableEq
def arOf (k:Int) (x:Rule × Nat):Option AR:=if x.1.k=k then (if word k x.1.f=true then some ⟨x.2,x.1.c,(ltrs k x.1.f).1,x.1.t⟩ else none) else none
def sideR (rs:List Rule) (k:Int):List AR:=rs.zipIdx.filterMap (arOf k)
def fitsA (l:List Bs) (r:AR) (i:Nat):Bool:=decide (i+r.f.length≤l.length) && decide ((l.drop i).take r.f.length=r.f)
def Wd.ahA (W:Wd) (s:St) (tw:Bs):Option (Bs × Bool) :=
 if tw.isPrefixOf s.a then some (s.a.drop tw.length,s.r && decide (s.a.drop tw.length≠[]))
 else if s.a.isPrefixOf tw then some (tw.drop s.a.length,!W.left s)
 else none
def Wd.amv (W:Wd) (s:St) (r:AR):Option (AR × St) :=
 if fitsA (if W.left s then W.l else W.m) r (if W.left s then s.i else s.j)=true then
  (W.ahA s r.t).map fun x=>(r,if W.left s then ⟨s.i+r.f.length,s.j,x.1,x.2⟩ else ⟨s.i,s.j+r.f.length,x.1,x.2⟩)
 else none
def Wd.amoves (W:Wd) (s:St):List (AR × St):=(sideR W.rs (if W.left s then W.ka else W.kb)).filterMap (W.amv s)
section
variable {W:Wd} {s:St}
theorem drop_empty {p q:Bs} (h:p.isPrefixOf q=true) (h2:q.drop p.length=[]):q=p:=by
 obtain ⟨r,rfl⟩:=pre_iff.1 h
 rw [List.drop_left] at h2
 rw [h2,List.append_nil]
theorem ahA_eq (tw:Bs):W.ahA s tw=W.ah s tw:=by
 unfold Wd.ahA Wd.ah
 by_cases h1:tw.isPrefixOf s.a=true
 ·rw [if_pos h1]
  by_cases h2:s.a.drop tw.length=[]
  ·have e:=drop_empty h1 h2
   rw [if_neg (by simp [h2]),if_pos (by rw [e,List.isPrefixOf_iff_prefix];exact List.prefix_refl _)]
   rw [e]
   simp
  ·rw [if_pos ⟨h1,h2⟩]
   simp [h2]
 ·rw [if_neg h1,if_neg (fun h:tw.isPrefixOf s.a=true∧s.a.drop tw.length≠[]=>h1 h.1)]
  by_cases h2:s.a.isPrefixOf tw=true
  ·rw [if_pos h2,if_pos h2]
   have h3:tw.drop s.a.length≠[]:=fun e=>h1 (by rw [drop_empty h2 e,List.isPrefixOf_iff_prefix];exact List.prefix_refl _)
   simp [h3]
  ·rw [if_neg h2,if_neg h2]
end
section
variable {T:Tab} {a b:Int} {x y:Bs} {s:St}
theorem fits_iff {k:Int} {w f:Bs} {i:Nat} (hf:word k f=true) (hi:i≤(ltrs k w).1.length) (ix:Nat) (c:Int) (t:Bs) :
  fitsA (ltrs k w).1 ⟨ix,c,(ltrs k f).1,t⟩ i=true↔takes ((ltrs k w).1.drop i) f≠0:=by
 have hf1:=word_iff.1 hf
 rw [takes_fits hf]
 unfold fitsA
 simp only [Bool.and_eq_true,decide_eq_true_eq]
 constructor
 ·rintro ⟨h1,h2⟩
  rw [if_pos h2];omega
 ·intro h
  split at h
  ·rename_i h2
   have:=congrArg List.length h2
   rw [List.length_take,List.length_drop] at this
   exact ⟨by omega,h2⟩
  ·exact absurd rfl h
theorem valid_word (hv:validT T=true) {R:Rule} (hR:R ∈ T.rs):word R.k R.f=true :=
 (foldedN_iff.1 (ruleN_iff.1 ((rulesN_iff.1 (validT_iff.1 hv).2.1).2 R hR)).1).1
theorem filterMap_zip {α β:Type} (f:α→Option β):∀ (l:List α) (n:Nat),(l.zipIdx n).filterMap (fun p=>f p.1)=l.filterMap f
 | [],_=>rfl
 | x :: l,n=>by
  rw [List.zipIdx_cons]
  cases h:f x with
  | none=>rw [List.filterMap_cons_none h,List.filterMap_cons_none (by simpa using h),filterMap_zip f l (n+1)]
  | some y=>rw [List.filterMap_cons_some h,List.filterMap_cons_some (by simpa using h),filterMap_zip f l (n+1)]
theorem fm_congr {α β:Type} {f g:α→Option β}:∀ (l:List α),(∀ x ∈ l,f x=g x)→l.filterMap f=l.filterMap g
 | [],_=>rfl
 | x :: l,h=>by
  have e:=h x (List.mem_cons_self ..)
  have ih:=fm_congr l (fun y hy=>h y (List.mem_cons_of_mem _ hy))
  cases hg:g x with
  | none=>rw [List.filterMap_cons_none (e.trans hg),List.filterMap_cons_none hg,ih]
  | some z=>rw [List.filterMap_cons_some (e.trans hg),List.filterMap_cons_some hg,ih]
theorem zip_mem {α:Type}:∀ (l:List α) (n:Nat) {p:α × Nat},p ∈ l.zipIdx n→p.1 ∈ l:=fun l n p hp=>by
 obtain ⟨x,i⟩:=p
 exact (List.mem_zipIdx hp).2.2 ▸ List.getElem_mem _

theorem amoves_eq (hv:validT T=true) (hs:(wdOf T a x b y).ok s):((wdOf T a x b y).amoves s).map (fun p=>(p.1.c,p.2))=(wdOf T a x b y).moves s:=by
 unfold Wd.amoves Wd.moves sideR
 rw [List.filterMap_filterMap,List.map_filterMap,show (wdOf T a x b y).rs.filterMap ((wdOf T a x b y).mv s)=((wdOf T a x b y).rs.zipIdx).filterMap (fun p=>(wdOf T a x b y).mv s p.1) from (filterMap_zip _ _ 0).symm]
 refine fm_congr _ fun p hp=>?_
 have hR:=zip_mem _ _ hp
 have hw:=valid_word hv hR
 obtain ⟨R,i⟩:=p
 simp only at hR hw ⊢
 unfold arOf Wd.mv
 simp only
 cases hl:(wdOf T a x b y).left s with
 | true =>
  have hu:(wdOf T a x b y).used s R=if R.k=a then takes ((ltrs a (lower x)).1.drop s.i) R.f else 0:=by unfold Wd.used;rw [if_pos hl];rfl
  simp only [if_true]
  show Option.map _ ((if R.k=a then _ else none:Option AR).bind _)=_
  by_cases hk:R.k=a
  ·rw [if_pos hk] at hu
   subst hk
   rw [if_pos rfl,if_pos (show word (wdOf T R.k x b y).ka R.f=true from hw),hu]
   simp only [Option.bind_some]
   unfold Wd.amv
   rw [hl]
   simp only [if_true]
   have hf:=fits_iff (k:=R.k) (w:=lower x) (i:=s.i) hw hs.1 i R.c R.t
   by_cases ht:takes ((ltrs R.k (lower x)).1.drop s.i) R.f=0
   ·rw [if_pos ht];refine (congrArg _ (if_neg (by intro h;exact (hf.1 h) ht))).trans ?_;rfl
   ·have hn:takes ((ltrs R.k (lower x)).1.drop s.i) R.f=(ltrs R.k R.f).1.length:=by
     rw [takes_fits hw] at ht ⊢
     split at ht
     ·rename_i h;rw [if_pos h]
     ·exact absurd rfl ht
    rw [if_neg ht];refine (congrArg _ (if_pos (hf.2 ht))).trans ?_;rw [ahA_eq,Option.map_map,hn];rfl
  ·rw [if_neg hk] at hu
   rw [if_neg hk,hu,if_pos rfl];rfl
 | false =>
  have hu:(wdOf T a x b y).used s R=if R.k=b then takes ((ltrs b (lower y)).1.drop s.j) R.f else 0:=by unfold Wd.used;rw [if_neg (by rw [hl];decide)];rfl
  simp only [Bool.false_eq_true,if_false]
  show Option.map _ ((if R.k=b then _ else none:Option AR).bind _)=_
  by_cases hk:R.k=b
  ·rw [if_pos hk] at hu
   subst hk
   rw [if_pos rfl,if_pos (show word (wdOf T a x R.k y).kb R.f=true from hw),hu]
   simp only [Option.bind_some]
   unfold Wd.amv
   rw [hl]
   simp only [Bool.false_eq_true,if_false]
   have hf:=fits_iff (k:=R.k) (w:=lower y) (i:=s.j) hw hs.2.1 i R.c R.t
   by_cases ht:takes ((ltrs R.k (lower y)).1.drop s.j) R.f=0
   ·rw [if_pos ht];refine (congrArg _ (if_neg (by intro h;exact (hf.1 h) ht))).trans ?_;rfl
   ·have hn:takes ((ltrs R.k (lower y)).1.drop s.j) R.f=(ltrs R.k R.f).1.length:=by
     rw [takes_fits hw] at ht ⊢
     split at ht
     ·rename_i h;rw [if_pos h]
     ·exact absurd rfl ht
    rw [if_neg ht];refine (congrArg _ (if_pos (hf.2 ht))).trans ?_;rw [ahA_eq,Option.map_map,hn];rfl
  ·rw [if_neg hk] at hu
   rw [if_neg hk,hu,if_pos rfl];rfl

structure Dv where
 c:Int
 L:List Int
 M:List Int
 F:Bs
deriving DecidableEq

def wrtN (l:List Bs) (rs:List AR):List Int→Nat→Option (Bs × Int × Nat)
 | [],i=>some ([],0,i)
 | k :: ks,i=>match rs.find? (fun r=>decide ((r.ix:Int)=k)) with
  | none=>none
  | some r=>if fitsA l r i=true then (wrtN l rs ks (i+r.f.length)).map fun z=>(r.t ++ z.1,r.c+z.2.1,z.2.2) else none

def rightD (T:Tab) (a:Int) (x:Bs) (b:Int) (y:Bs) (d:Dv):Prop :=
 okW T a x b y=true∧∃ F c1 c2,wrtN (wdOf T a x b y).l (sideR T.rs a) d.L 0=some (F,c1,(wdOf T a x b y).l.length)∧wrtN (wdOf T a x b y).m (sideR T.rs b) d.M 0=some (F,c2,(wdOf T a x b y).m.length)∧F=d.F∧c1+c2=d.c
end
end Go.CH.Pot
namespace Go.CH.Pot
open Go.CH.Scr
section
variable {W:Wd} {bound:Int}
end

end Go.CH.Pot
namespace Go.CH.Pot
open Go.CH.Scr

def Wd.pick (W:Wd) (s:St):Option (AR × St):=(W.amoves s).find? fun p=>decide (p.1.c+W.dist p.2=W.dist s)

def Wd.bestR (W:Wd):Nat→St→List Int × List Int × Bs
 | 0,_=>([],[],[])
 | n+1,s=>if s=W.fin then ([],[],[]) else match W.pick s with
  | none=>([],[],[])
  | some (r,s')=>if s.i < s'.i then ((r.ix:Int) :: (W.bestR n s').1,(W.bestR n s').2.1,r.t ++ (W.bestR n s').2.2) else ((W.bestR n s').1,(r.ix:Int) :: (W.bestR n s').2.1,(W.bestR n s').2.2)
def Wd.best (W:Wd):Dv:=⟨W.dist st0,(W.bestR (W.rank st0) st0).1,(W.bestR (W.rank st0) st0).2.1,(W.bestR (W.rank st0) st0).2.2⟩

inductive BestP (T:Tab) (a:Int) (x:Bs) (b:Int) (y:Bs):Dv→Int→Prop
 | arg (h:okW T a x b y=false):BestP T a x b y ⟨0,[],[],[]⟩ 1
 | none (h:okW T a x b y=true) (h2:(wdOf T a x b y).dist st0=never):BestP T a x b y ⟨0,[],[],[]⟩ 11
 | some (h:okW T a x b y=true) (h2:(wdOf T a x b y).dist st0 < never):BestP T a x b y (wdOf T a x b y).best 0
section
variable {T:Tab} {a b:Int} {x y:Bs} {bound:Int} {C:List Pt} {d:Dv} {e:Int}
theorem wd_small (h:okW T a x b y=true):(wdOf T a x b y).l.length+(wdOf T a x b y).m.length≤1000:=by have:=lens_of h;omega
theorem wd_good (h:okW T a x b y=true):(wdOf T a x b y).good:=(good_of (okW_iff.1 h).2.2).1
theorem best_cost (h:BestP T a x b y d 0):d.c=(wdOf T a x b y).dist st0∧okW T a x b y=true∧0≤d.c∧d.c≤24000:=by
 generalize he:(0:Int)=e at h
 cases h with
 | arg=>cases he
 | none=>cases he
 | some h h2 =>
  have h3:=dist_nonneg (wd_good h) ok0
  refine ⟨rfl,h,h3,?_⟩
  rcases path_dist (wd_good h) (wd_small h) _ st0 ok0 (Nat.le_refl _) with ⟨_,hp⟩ | ⟨hn,_⟩
  ·have:=lens_of h
   have e:(wdOf T a x b y).rank st0=(wdOf T a x b y).l.length+(wdOf T a x b y).m.length:=rfl
   rw [e] at hp
   show (wdOf T a x b y).dist st0≤24000
   omega
  ·rw [hn] at h2;exact absurd h2 (by decide)
end
end Go.CH.Pot
namespace Go.Proofs.YtbnnlpjpnihheaaGreatDoor
open Go.RowKit Go.CH Go.CH.Scr Go.CH.Pot
open Go.ChangeMaps (setBlock)
def rcells (R:Rule):List Value:=[.int .i64 R.k,.string (bs R.f),.string (bs R.t),.int .i64 R.c]
def dcells (d:Drop):List Value:=[.int .i64 d.k,.string (bs d.w),.int .i64 d.c]
def pcells (p:Pt):List Value:=[.int .i64 p.i,.int .i64 p.j,.string (bs p.a),.bool p.r,.int .i64 p.h]

def Rst {α:Type} (R:α→List Value) (size:Nat) (w:World) (A:Option Addr) (l:List α):Prop:=Src w A l.length size (l.flatMap R)
theorem flat_get_ {α:Type} {R:α→List Value} {size:Nat} (hR:∀ x,(R x).length=size):∀ {l:List α} {j:Nat} (hj:j < l.length) {i:Nat},i < size→(l.flatMap R)[j*size+i]?=(R l[j])[i]?
 | [],j,hj,_,_=>absurd hj (Nat.not_lt_zero _)
 | x :: l,0,hj,i,hi=>by
  rw [List.flatMap_cons,List.getElem?_append_left (by rw [hR];omega),Nat.zero_mul,Nat.zero_add];rfl
 | x :: l,j+1,hj,i,hi=>by
  rw [List.flatMap_cons,List.getElem?_append_right (by rw [hR,Nat.succ_mul];omega),hR]
  rw [show (j+1)*size+i - size=j*size+i by rw [Nat.succ_mul];omega]
  exact flat_get_ hR (by simpa using hj) hi
section
variable {α:Type} {R:α→List Value} {size:Nat} {w w':World} {A:Option Addr} {l:List α}
theorem Rst.below (h:Rst R size w A l) (hb:Below w.heap.size w w'):Rst R size w' A l:=src_below h hb
theorem Rst.at (hR:∀ x,(R x).length=size) (hs:0 < size) (h:Rst R size w A l) (hn:0 < l.length) :
  ∃ b o,A=some ⟨b,o,none⟩∧∀ w',Below w.heap.size w w'→∀ j (hj:j < l.length) i u,(R l[j])[i]?=some u→w'.cell? ⟨b,o+j*size+i,none⟩=some u:=by
 obtain ⟨b,o,rfl,hc⟩:=Src.open_ h hn hs
 refine ⟨b,o,rfl,fun w' hb j hj i u hu=>?_⟩
 have hi:i < size:=by rw [←hR l[j]];exact (List.getElem?_eq_some_iff.1 hu).1
 have h1:=hc (j*size+i) u (by rw [flat_get_ hR hj hi];exact hu)
 rw [←Nat.add_assoc] at h1
 rw [hb.cell (World.block_lt_of_cell? _ _ h1)];exact h1
end
section
variable {w:World} {A:Option Addr}
abbrev RulesR (w:World) (A:Option Addr) (l:List Rule):Prop:=Rst rcells 4 w A l
abbrev DropsR (w:World) (A:Option Addr) (l:List Drop):Prop:=Rst dcells 3 w A l
abbrev PtsR (w:World) (A:Option Addr) (l:List Pt):Prop:=Rst pcells 5 w A l
theorem RulesR.at {l:List Rule} (h:RulesR w A l) (hn:0 < l.length):∃ b o,A=some ⟨b,o,none⟩∧∀ w',Below w.heap.size w w'→∀ j (hj:j < l.length),
  w'.cell? ⟨b,o+j*4,none⟩=some (.int .i64 l[j].k)∧w'.cell? ⟨b,o+j*4+1,none⟩=some (.string (bs l[j].f))∧w'.cell? ⟨b,o+j*4+2,none⟩=some (.string (bs l[j].t))∧w'.cell? ⟨b,o+j*4+3,none⟩=some (.int .i64 l[j].c):=by
 obtain ⟨b,o,e,hc⟩:=Rst.at (R:=rcells) (fun _=>rfl) (by omega) h hn
 exact ⟨b,o,e,fun w' hb j hj=>⟨hc w' hb j hj 0 _ rfl,hc w' hb j hj 1 _ rfl,hc w' hb j hj 2 _ rfl,hc w' hb j hj 3 _ rfl⟩⟩
theorem DropsR.at {l:List Drop} (h:DropsR w A l) (hn:0 < l.length):∃ b o,A=some ⟨b,o,none⟩∧∀ w',Below w.heap.size w w'→∀ j (hj:j < l.length),
  w'.cell? ⟨b,o+j*3,none⟩=some (.int .i64 l[j].k)∧w'.cell? ⟨b,o+j*3+1,none⟩=some (.string (bs l[j].w))∧w'.cell? ⟨b,o+j*3+2,none⟩=some (.int .i64 l[j].c):=by
 obtain ⟨b,o,e,hc⟩:=Rst.at (R:=dcells) (fun _=>rfl) (by omega) h hn
 exact ⟨b,o,e,fun w' hb j hj=>⟨hc w' hb j hj 0 _ rfl,hc w' hb j hj 1 _ rfl,hc w' hb j hj 2 _ rfl⟩⟩
theorem PtsR.at {l:List Pt} (h:PtsR w A l) (hn:0 < l.length):∃ b o,A=some ⟨b,o,none⟩∧∀ w',Below w.heap.size w w'→∀ j (hj:j < l.length),
  w'.cell? ⟨b,o+j*5,none⟩=some (.int .i64 l[j].i)∧w'.cell? ⟨b,o+j*5+1,none⟩=some (.int .i64 l[j].j)∧w'.cell? ⟨b,o+j*5+2,none⟩=some (.string (bs l[j].a))∧w'.cell? ⟨b,o+j*5+3,none⟩=some (.bool l[j].r)∧w'.cell? ⟨b,o+j*5+4,none⟩=some (.int .i64 l[j].h):=by
 obtain ⟨b,o,e,hc⟩:=Rst.at (R:=pcells) (fun _=>rfl) (by omega) h hn
 exact ⟨b,o,e,fun w' hb j hj=>⟨hc w' hb j hj 0 _ rfl,hc w' hb j hj 1 _ rfl,hc w' hb j hj 2 _ rfl,hc w' hb j hj 3 _ rfl,hc w' hb j hj 4 _ rfl⟩⟩
end

structure TA where
 A:Option Addr
 c:Nat
 D:Option Addr
 d:Nat
 E:Option Addr
 e:Nat
def tabC (T:Tab) (a:TA):Array Value:=#[.slice a.A T.rs.length a.c,.slice a.D T.ds.length a.d,.slice a.E T.es.length a.e,.int .i64 T.drop,.int .i64 T.ord,.int .i64 T.ini]
def tabV (T:Tab) (a:TA):Value:=.agg (tabC T a)
structure TabR (w:World) (T:Tab) (a:TA):Prop where
 rs:RulesR w a.A T.rs
 ds:DropsR w a.D T.ds
 es:DropsR w a.E T.es
 lr:T.rs.length≤1000000
 ld:T.ds.length≤1000000
 le:T.es.length≤1000000
 sr:∀ R ∈ T.rs,R.f.length≤1000000∧R.t.length≤1000000
 sd:∀ d ∈ T.ds,d.w.length≤1000000
 se:∀ d ∈ T.es,d.w.length≤1000000
theorem TabR.below {w w':World} {T:Tab} {a:TA} (h:TabR w T a) (hb:Below w.heap.size w w'):TabR w' T a:={ h with rs:=h.rs.below hb,ds:=h.ds.below hb,es:=h.es.below hb }
end Go.Proofs.YtbnnlpjpnihheaaGreatDoor
namespace Go.Proofs.YtbnnlpjpnihheaaGreatDoor
open Go.RowKit Go.CH Go.CH.Scr Go.CH.Pot
open Go.ChangeMaps (setBlock)

def openN (k:Int) (l:Bs):List Bs × Bool:=if word k l then ((ltrs k (lower l)).1,true) else ([],false)

def LtrsD (w:World) (k:Int) (l:Bs) (e:Ending) (w':World):Prop :=
 ∃ A c,e=.returned (.tuple #[.slice A (lettersN k l).1.length c,.int .i64 (lettersN k l).2])∧Below w.heap.size w w'∧Vst w' A (lettersN k l).1∧(lettersN k l).1.length≤c
theorem Letters_d (k:Int) (s:ByteArray) (w:World) (hs:s.size≤1000000) (hz:LZ w):Calls Tryz.prog 24 #[.int .i64 k,.string s] w (LtrsD w k (bl s)):=by
 refine (Letters_any k s w hs hz).mono ?_
 rintro e w' ⟨A,c,rfl,F,h1,h2,h3⟩
 exact ⟨A,c,rfl,h2.below (fun _ _ h=>h),vst_of h1,(row_cap h1.1).1⟩

end Go.Proofs.YtbnnlpjpnihheaaGreatDoor
namespace Go.Proofs.YtbnnlpjpnihheaaGreatDoor
open Go.RowKit Go.CH Go.CH.Scr Go.CH.Pot
open Go.ChangeMaps (setBlock)
theorem isCost_any (n:Int) (w:World):Calls Tryz.prog 81 #[.int .i64 n] w (BelowRet w (.bool (costN n))):=by
 by_cases h1:0≤n
 ·by_cases h2:n≤1000
  ·have e:costN n=true:=costN_iff.2 ⟨h1,h2⟩
   rw [e]
   go_enter Tryz.func81,Tryz.ntmps81
   go_wp2
   go_ret
   exact ⟨rfl,Below.refl _ _⟩
  ·have e:costN n=false:=by rw [Bool.eq_false_iff];exact fun h=>h2 (costN_iff.1 h).2
   rw [e]
   go_enter Tryz.func81,Tryz.ntmps81
   go_wp2
   go_ret
   exact ⟨rfl,Below.refl _ _⟩
 ·have e:costN n=false:=by rw [Bool.eq_false_iff];exact fun h=>h1 (costN_iff.1 h).1
  rw [e]
  go_enter Tryz.func81,Tryz.ntmps81
  go_wp2
  go_ret
  exact ⟨rfl,Below.refl _ _⟩
set_option maxHeartbeats 1600000 in
theorem folded_any (k:Int) (s:ByteArray) (most:Nat) (w:World) (hs:s.size≤1000000) (hz:LZ w):Calls Tryz.prog 82 #[.int .i64 k,.string s,.int .i64 (most:Int)] w (BelowRet w (.bool (foldedN k (bl s) most))):=by
 have KF:=hide (fold_any k s w hs hz)
 have KL:=hide (fun W (hz:LZ W)=>Letters_d k s W hs hz)
 have HZ:=hide hz
 clear hz
 unfold BelowRet at KF
 by_cases hw:word k (bl s)=true
 ·have e1:foldN k (bl s)=(lower (bl s),0):=by unfold foldN;rw [if_pos hw]
  have e2:lettersN k (bl s)=((ltrs k (bl s)).1,0):=by unfold lettersN;rw [if_pos hw]
  simp only [e1] at KF
  unfold LtrsD at KL
  simp only [e2] at KL
  by_cases hl:lower (bl s)=bl s
  ·have e3:foldedN k (bl s) most=decide ((ltrs k (bl s)).1.length≤most):=by unfold foldedN;rw [hw,decide_eq_true hl];simp
   have eqs:bs (lower (bl s))=s:=by rw [hl,bs_bl]
   rw [e3]
   rw [eqs] at KF
   have tq:(s.toList == s.toList)=true:=by simp
   clear e1 e2 e3 hl eqs hw
   generalize (ltrs k (bl s)).1=L at *
   by_cases hm:L.length≤most
   ·have hm2:(L.length:Int)≤(most:Int):=by omega
    rw [decide_eq_true hm]
    go_enter Tryz.func82,Tryz.ntmps82
    go_wp2_with fail
    refine KF.out.mono ?_
    rintro e9 w1 ⟨rfl,hb⟩
    have HB:=hide hb
    have KL2:=hide (KL.out w1 (HZ.out.below hb))
    clear KF KL hb
    dsimp only
    go_wp2_with fail
    refine KL2.out.mono ?_
    rintro e9 w2 ⟨A,c,rfl,hb,hA,hc⟩
    have HB2:=hide (bel_trans HB.out hb)
    clear KL2 HB hb hA hc
    dsimp only
    go_wp2
    go_ret
    exact ⟨rfl,HB2.out⟩
   ·have hm2:¬ (L.length:Int)≤(most:Int):=by omega
    rw [decide_eq_false hm]
    go_enter Tryz.func82,Tryz.ntmps82
    go_wp2_with fail
    refine KF.out.mono ?_
    rintro e9 w1 ⟨rfl,hb⟩
    have HB:=hide hb
    have KL2:=hide (KL.out w1 (HZ.out.below hb))
    clear KF KL hb
    dsimp only
    go_wp2_with fail
    refine KL2.out.mono ?_
    rintro e9 w2 ⟨A,c,rfl,hb,hA,hc⟩
    have HB2:=hide (bel_trans HB.out hb)
    clear KL2 HB hb hA hc
    dsimp only
    go_wp2
    go_ret
    exact ⟨rfl,HB2.out⟩
  ·have e3:foldedN k (bl s) most=false:=by unfold foldedN;rw [decide_eq_false hl];simp
   have tq:((bs (lower (bl s))).toList == s.toList)=false:=by
    rw [toList_beq];exact decide_eq_false fun h=>hl (by have h2:=congrArg bl h;rw [bl_bs] at h2;exact h2)
   rw [e3]
   clear e1 e2 e3 hl hw
   generalize bs (lower (bl s))=z at *
   go_enter Tryz.func82,Tryz.ntmps82
   go_wp2_with fail
   refine KF.out.mono ?_
   rintro e9 w1 ⟨rfl,hb⟩
   have HB:=hide hb
   clear KF KL hb
   dsimp only
   go_wp2
   go_ret
   exact ⟨rfl,HB.out⟩
 ·have e1:foldN k (bl s)=([],1):=by unfold foldN;rw [if_neg hw]
  have e3:foldedN k (bl s) most=false:=by unfold foldedN;rw [Bool.eq_false_iff.2 hw];rfl
  simp only [e1] at KF
  rw [e3]
  clear e1 e3 hw
  go_enter Tryz.func82,Tryz.ntmps82
  go_wp2_with fail
  refine KF.out.mono ?_
  rintro e9 w1 ⟨rfl,hb⟩
  have HB:=hide hb
  clear KF KL hb
  dsimp only
  go_wp2
  go_ret
  exact ⟨rfl,HB.out⟩
end Go.Proofs.YtbnnlpjpnihheaaGreatDoor
namespace Go.Proofs.YtbnnlpjpnihheaaGreatDoor
open Go.RowKit Go.CH Go.CH.Scr Go.CH.Pot
open Go.ChangeMaps (setBlock)
theorem low_has (c:UInt8):smallS.contains c=isLow c:=by
 have h:∀ n:Fin 256,smallS.contains (UInt8.ofNat n.1)=isLow (UInt8.ofNat n.1):=by decide +kernel
 have:=h ⟨c.toNat,c.toNat_lt⟩
 simpa using this
theorem dw_nil {α:Type} {p:α→Bool}:∀ l:List α,l.dropWhile p=[]↔l.all p=true
 | []=>by simp
 | a :: l=>by
  rw [List.dropWhile_cons,List.all_cons]
  cases h:p a with
  | true=>simp [dw_nil l]
  | false=>simp
theorem trim_all (s:Bs):Lib.trimS s smallS=[]↔s.all isLow=true:=by
 have e:s.all isLow=s.all (smallS.contains ·):=by congr 1;funext c;exact (low_has c).symm
 rw [e]
 unfold Lib.trimS Lib.trimLeftS Lib.trimRightS
 constructor
 ·intro h
  rw [dw_nil,List.all_reverse] at h
  rw [List.all_eq_true] at h ⊢
  intro c hc
  by_cases hd:c ∈ s.reverse.dropWhile (smallS.contains ·)
  ·exact h c hd
  ·have:=List.takeWhile_append_dropWhile (p:=(smallS.contains ·)) (l:=s.reverse)
   have hc2:c ∈ s.reverse:=List.mem_reverse.2 hc
   rw [←this,List.mem_append] at hc2
   rcases hc2 with h2 | h2
   ·exact List.all_eq_true.1 (List.all_takeWhile) c h2
   ·exact absurd h2 hd
 ·intro h
  have h2:s.reverse.dropWhile (smallS.contains ·)=[]:=(dw_nil _).2 (by rw [List.all_reverse];exact h)
  rw [h2];rfl
theorem isForm_any (s:ByteArray) (w:World) (hs:s.size≤1000000):Calls Tryz.prog 83 #[.string s] w (BelowRet w (.bool (formN (bl s)))):=by
 have KT:=hide (Any.strings_Trim_laid Tryz.lays160 (by kernel_rfl) s ⟨#[97,98,99,100,101,102,103,104,105,106,107,108,109,110,111,112,113,114,115,116,117,118,119,120,121,122]⟩ w (by omega) (by decide) (_root_.Go.Proofs.ascii_of_all (by decide)))
 have KT:=hide (show Calls Tryz.prog 115 #[.string s,.string ⟨#[97,98,99,100,101,102,103,104,105,106,107,108,109,110,111,112,113,114,115,116,117,118,119,120,121,122]⟩] w (fun e w'=>e=.returned (.string (bs (Lib.trimS (bl s) smallS)))∧Below w.heap.size w w') from KT.out)
 have hlen:(bl s).length=s.size:=bl_len s
 by_cases h3:s.size≤3
 ·have h3':(s.size:Int)≤3:=by omega
  by_cases ha:Lib.trimS (bl s) smallS=[]
  ·have e:formN (bl s)=true:=formN_iff.2 ⟨by omega,(trim_all _).1 ha⟩
   have t1:(bs (Lib.trimS (bl s) smallS)).toList.isEmpty=true:=by rw [List.isEmpty_iff];exact bs_empty.2 ha
   rw [e]
   clear e ha hlen
   generalize bs (Lib.trimS (bl s) smallS)=z at *
   go_enter Tryz.func83,Tryz.ntmps83
   go_wp2_with fail
   refine KT.out.mono ?_
   rintro e9 w1 ⟨rfl,hb⟩
   have HB:=hide hb
   clear KT hb
   dsimp only
   go_wp2
   go_ret
   exact ⟨rfl,HB.out⟩
  ·have e:formN (bl s)=false:=by rw [Bool.eq_false_iff];exact fun h=>ha ((trim_all _).2 (formN_iff.1 h).2)
   have t1:(bs (Lib.trimS (bl s) smallS)).toList.isEmpty=false:=by rw [List.isEmpty_eq_false_iff];exact fun h=>ha (bs_empty.1 h)
   rw [e]
   clear e ha hlen
   generalize bs (Lib.trimS (bl s) smallS)=z at *
   go_enter Tryz.func83,Tryz.ntmps83
   go_wp2_with fail
   refine KT.out.mono ?_
   rintro e9 w1 ⟨rfl,hb⟩
   have HB:=hide hb
   clear KT hb
   dsimp only
   go_wp2
   go_ret
   exact ⟨rfl,HB.out⟩
 ·have h3':¬ (s.size:Int)≤3:=by omega
  have e:formN (bl s)=false:=by rw [Bool.eq_false_iff];exact fun h=>h3 (by have:=(formN_iff.1 h).1;omega)
  rw [e]
  clear e KT hlen
  go_enter Tryz.func83,Tryz.ntmps83
  go_wp2
  go_ret
  exact ⟨rfl,Below.refl _ _⟩
end Go.Proofs.YtbnnlpjpnihheaaGreatDoor
namespace Go.Proofs.YtbnnlpjpnihheaaGreatDoor
open Go.RowKit Go.CH Go.CH.Scr Go.CH.Pot
open Go.ChangeMaps (setBlock)
def stC (s:St):Array Value:=#[.int .i64 s.i,.int .i64 s.j,.string (bs s.a),.bool s.r]
theorem cutp_fst (a b:Bs):(⟨(Lib.trimPrefix a b).toArray⟩:ByteArray)=bs (if b.isPrefixOf a then a.drop b.length else a):=by
 unfold Lib.trimPrefix Lib.hasPrefix bs;split <;> rfl
theorem cutp_any (a p:Bs) (w:World):Calls Tryz.prog 128 #[.string (bs a),.string (bs p)] w (fun e w'=>e=.returned (.tuple #[.string (bs (if p.isPrefixOf a then a.drop p.length else a)),.bool (p.isPrefixOf a)])∧w'=w):=by
 refine (Tryz.strings_CutPrefix (bs a) (bs p) w).mono ?_
 rintro e w' ⟨rfl,rfl⟩
 exact ⟨by rw [←cutp_fst];rfl,rfl⟩
section
variable {W:Wd} {s:St} {R:Rule}
end
section
variable {F0:Nat→Prop} {w0 w:World} {O X:CH.Own} {g:Nat} {cs:Array Value} {t:TypeId}

theorem run_setc (h:Run F0 w0 (star (CellO g cs t) X) w) (hX:X.Ok) (i:Nat) (v:Value):Run F0 w0 (star (CellO g (cs.setIfInBounds i v) t) X) (w.setCell ⟨g,i,none⟩ v):=by
 obtain ⟨F,hF,-,bk⟩:=h.take cell_ok hX
 exact bk _ _ (cell_set hF i v)
theorem run_c4 {a b c d:Value} (h:Run F0 w0 (star (CellO g #[a,b,c,d] t) X) w):w.cell? ⟨g,0,none⟩=some a∧w.cell? ⟨g,1,none⟩=some b∧w.cell? ⟨g,2,none⟩=some c∧w.cell? ⟨g,3,none⟩=some d∧∀ i,w.frozen? ⟨g,i,none⟩=false:=by
 obtain ⟨F,hF⟩:=h.fst
 exact ⟨cell_at hF rfl,cell_at hF rfl,cell_at hF rfl,cell_at hF rfl,fun i=>cell_free hF i⟩
theorem run_new (h:Run F0 w0 O w) (ho:O.Ok) (cs:Array Value) (t:TypeId):Run F0 w0 (star (CellO w.heap.size cs t) O) (w.alloc (.cells cs t)):=h.fresh ho (cell_new w cs t)
end
theorem vst_cut {w:World} {A:Option Addr} {c k:Nat} {l:List Bs} (h:Vst w A l) (hk:k≤l.length) (hc:l.length≤c):Vst w (cutA A c k 1) (l.drop k):=by
 have h1:=Src.cut h hk hc
 unfold Vst
 have e:strB (l.drop k)=(strB l).drop (k*1):=by unfold strB;rw [Nat.mul_one,List.map_drop]
 rw [List.length_drop,e];exact h1
end Go.Proofs.YtbnnlpjpnihheaaGreatDoor
namespace Go.CH
open Go.RowKit
section
variable {P:Program}

inductive Flat (P:Program):TypeId→Value→Prop
 | int {t:TypeId} {k:IntKind} (h:P.underlying t=some (.int k)) (a:Int):Flat P t (.int k a)
 | str {t:TypeId} (h:P.underlying t=some .string) (a:ByteArray):Flat P t (.string a)
 | bool {t:TypeId} (h:P.underlying t=some .bool) (a:Bool):Flat P t (.bool a)

def sameV:Value→Value→Bool
 | .int _ a,.int _ b=>a == b
 | .string a,.string b=>a == b
 | .bool a,.bool b=>a == b
 | _,_=>false
theorem flat_eq {t:TypeId} {x y:Value} (hx:Flat P t x) (hy:Flat P t y) (n:Nat) (w:World):(Op.equalIn (n+1) t x y).run P w=.ok (sameV x y) w:=by
 cases hx with
 | int h a=>cases hy with
  | int h2 b=>rw [h] at h2;injection h2 with h2;injection h2 with h2;subst h2;simp [Op.equalIn,run_underlying h,sameV]
  | str h2=>rw [h] at h2;cases h2
  | bool h2=>rw [h] at h2;cases h2
 | str h a=>cases hy with
  | int h2=>rw [h] at h2;cases h2
  | str h2=>simp [Op.equalIn,run_underlying h,sameV]
  | bool h2=>rw [h] at h2;cases h2
 | bool h a=>cases hy with
  | int h2=>rw [h] at h2;cases h2
  | str h2=>rw [h] at h2;cases h2
  | bool h2=>simp [Op.equalIn,run_underlying h,sameV]
theorem flat_part {t:TypeId} {x:Value} (hx:Flat P t x) {cs:Array Value} {j:Nat} (hv:cs[j]?=some x) (w:World):(part t cs j).run P w=.ok x w:=by
 cases hx with
 | int h a=>simp [part,isAgg,run_underlying h,hv]
 | str h a=>simp [part,isAgg,run_underlying h,hv]
 | bool h a=>simp [part,isAgg,run_underlying h,hv]
theorem flat_check {t:TypeId} {x:Value} (hx:Flat P t x) (e:Bool) (n:Nat) (w:World):(Instr.checkKey e (n+1) t x).run P w=.ok () w:=by
 cases hx with
 | int h a=>simp [Instr.checkKey,run_underlying h]
 | str h a=>simp [Instr.checkKey,run_underlying h]
 | bool h a=>simp [Instr.checkKey,run_underlying h]

def Flats (P:Program) (fs:List Field) (cs:Array Value):Prop:=∀ f ∈ fs,f.name ≠ "_" ∧ ∃ v,cs[f.offset]?=some v∧Flat P f.type v
def sameF (fs:List Field) (xs ys:Array Value):Bool:=fs.all fun f=>match xs[f.offset]?,ys[f.offset]? with | some x,some y=>sameV x y | _,_=>false
theorem eq_loop {xs ys:Array Value} (n:Nat) (w:World):∀ fs:List Field,Flats P fs xs→Flats P fs ys →
  (forIn fs ((none,()):Option Bool × Unit) (fun f __s =>
   if f.name ≠ "_" then do
    let a ←part f.type xs f.offset
    let b ←part f.type ys f.offset
    let c ←Op.equalIn (n+1) f.type a b
    if (!c)=true then pure (ForInStep.done (some false,())) else pure (ForInStep.yield (none,()))
   else pure (ForInStep.yield (none,()))):Sem (Option Bool × Unit)).run P w=.ok (if sameF fs xs ys=true then (none,()) else (some false,())) w:=by
 intro fs
 induction fs with
 | nil=>intro _ _;rfl
 | cons f fs ih =>
  intro hx hy
  obtain ⟨hn,x,hx1,hx2⟩:=hx f (List.mem_cons_self ..)
  obtain ⟨-,y,hy1,hy2⟩:=hy f (List.mem_cons_self ..)
  have ih':=ih (fun g hg=>hx g (List.mem_cons_of_mem _ hg)) (fun g hg=>hy g (List.mem_cons_of_mem _ hg))
  rw [List.forIn_cons]
  simp only [if_pos hn,Sem.run_bind,flat_part hx2 hx1,flat_part hy2 hy1,flat_eq hx2 hy2,Result.andThen_ok]
  have e:sameF (f :: fs) xs ys=(sameV x y && sameF fs xs ys):=by
   unfold sameF;rw [List.all_cons,hx1,hy1]
  rw [e]
  cases h:sameV x y with
  | false=>simp [Sem.run_pure]
  | true=>simp [Sem.run_pure];simpa using ih'
theorem struct_eq {K:TypeId} {fs:Array Field} (hK:P.underlying K=some (.struct fs)) (hh:P.stoodInHeld K=false) {xs ys:Array Value} (hx:Flats P fs.toList xs) (hy:Flats P fs.toList ys) (n:Nat) (w:World) :
  (Op.equalIn (n+2) K (.agg xs) (.agg ys)).run P w=.ok (sameF fs.toList xs ys) w:=by
 unfold Op.equalIn
 simp only [Sem.run_bind,run_underlying hK,Result.andThen_ok,run_program,hh,Bool.false_eq_true,if_false,Sem.run_pure]
 rw [←Array.forIn_toList,eq_loop n w fs.toList hx hy]
 cases h:sameF fs.toList xs ys <;> simp [Sem.run_pure]
theorem check_loop {xs:Array Value} (e:Bool) (n:Nat) (w:World):∀ fs:List Field,Flats P fs xs →
  (forIn fs () (fun f __s =>
   if f.name ≠ "_" then do
    let a ←part f.type xs f.offset
    Instr.checkKey e (n+1) f.type a
    pure (ForInStep.yield ())
   else pure (ForInStep.yield ())):Sem Unit).run P w=.ok () w:=by
 intro fs
 induction fs with
 | nil=>intro _;rfl
 | cons f fs ih =>
  intro hx
  obtain ⟨hn,x,hx1,hx2⟩:=hx f (List.mem_cons_self ..)
  have ih':=ih (fun g hg=>hx g (List.mem_cons_of_mem _ hg))
  rw [List.forIn_cons]
  simp only [if_pos hn,Sem.run_bind,flat_part hx2 hx1,flat_check hx2,Result.andThen_ok,Sem.run_pure]
  exact ih'
theorem struct_check {K:TypeId} {fs:Array Field} (hK:P.underlying K=some (.struct fs)) {xs:Array Value} (hx:Flats P fs.toList xs) (e:Bool) (n:Nat) (w:World) :
  (Instr.checkKey e (n+2) K (.agg xs)).run P w=.ok () w:=by
 unfold Instr.checkKey
 simp only [Sem.run_bind,run_underlying hK,Result.andThen_ok]
 rw [←Array.forIn_toList]
 have h:=check_loop e n w fs.toList hx
 refine Eq.trans (congrArg (fun z=>Result.andThen z _) h) ?_
 simp [Sem.run_pure]

theorem keyOk_struct {α:Type} [DecidableEq α] {K:TypeId} {fs:Array Field} (hK:P.underlying K=some (.struct fs)) (hh:P.stoodInHeld K=false) {cs:α→Array Value} (hx:∀ a,Flats P fs.toList (cs a))
  (heq:∀ a b,sameF fs.toList (cs a) (cs b)=decide (a=b)) (hsame:∀ a,Instr.sameBits 10000 (.agg (cs a)) (.agg (cs a))=true):KeyOk P K (fun a=>.agg (cs a)):=by
 refine ⟨fun a b w=>?_,fun e a w=>struct_check hK (hx a) e 9998 w,hsame,_,hK,fun a b=>.inl rfl⟩
 rw [Op.equal,Op.maxDepth,struct_eq hK hh (hx a) (hx b) 9998 w,heq]
end
end Go.CH
namespace Go.Proofs.YtbnnlpjpnihheaaGreatDoor
open Go.RowKit Go.CH Go.CH.Scr Go.CH.Pot
open Go.ChangeMaps (setBlock)
section
attribute [local go_sem] Oper.semAt_some
def stV (s:St):Value:=.agg (stC s)
end

theorem bs_beq (a b:Bs):(bs a == bs b)=decide (a=b):=by
 rw [bytes_dec]
 exact decide_eq_decide.2 ⟨fun h=>bs_inj h,fun h=>by rw [h]⟩
theorem st_same (a b:St):sameF [⟨ "i",3,0,false, "", "customhouse/potential",0⟩,⟨ "j",3,1,false, "", "customhouse/potential",8⟩,⟨ "ahead",9,2,false, "", "customhouse/potential",16⟩,⟨ "right",4,3,false, "", "customhouse/potential",32⟩] (stC a) (stC b)=decide (a=b):=by
 have e:sameF [⟨ "i",3,0,false, "", "customhouse/potential",0⟩,⟨ "j",3,1,false, "", "customhouse/potential",8⟩,⟨ "ahead",9,2,false, "", "customhouse/potential",16⟩,⟨ "right",4,3,false, "", "customhouse/potential",32⟩] (stC a) (stC b)=(((a.i:Int) == (b.i:Int)) && (((a.j:Int) == (b.j:Int)) && ((bs a.a == bs b.a) && ((a.r == b.r) && true)))):=rfl
 rw [e,bs_beq]
 obtain ⟨i,j,x,r⟩:=a
 obtain ⟨i',j',x',r'⟩:=b
 simp only [Bool.and_true]
 by_cases h1:i=i'
 ·by_cases h2:j=j'
  ·by_cases h3:x=x'
   ·by_cases h4:r=r' <;> simp [h1,h2,h3,h4]
   ·simp [h3]
  ·simp only [St.mk.injEq,h2,false_and,and_false,decide_false]
   have:((j:Int) == (j':Int))=false:=by simp;omega
   rw [this];simp
 ·simp only [St.mk.injEq,h1,false_and,decide_false]
  have:((i:Int) == (i':Int))=false:=by simp;omega
  rw [this];rfl

def StM (b:Nat) (l:List (St × Int)):CH.Own:=MapO stV b (l.map fun p=>(p.1,.int .i64 p.2))
end Go.Proofs.YtbnnlpjpnihheaaGreatDoor
namespace Go.CH.Pot
open Go.CH.Scr
def keysL (L:List (St × Int)):List St:=L.map (·.1)

structure Kn (W:Wd) (L:List (St × Int)):Prop where
 val:∀ p ∈ L,p.2=W.dist p.1
 ok:∀ p ∈ L,W.ok p.1
 cl:∀ p ∈ L,∀ x ∈ W.moves p.1,x.2 ∈ keysL L
 nd:(keysL L).Nodup

structure Ext (W:Wd) (s:St) (L L':List (St × Int)):Prop where
 old:∀ p ∈ L,p ∈ L'
 new:∀ p ∈ L',p ∈ L∨Rch W s p.1
section
variable {W:Wd} {s s':St} {L L' L'':List (St × Int)} {c:Int}
theorem kn_nil:Kn W []:=⟨fun p h=>absurd h (List.not_mem_nil),fun p h=>absurd h (List.not_mem_nil),fun p h=>absurd h (List.not_mem_nil),List.nodup_nil⟩
theorem mem_keys {q:St}:q ∈ keysL L↔∃ v,(q,v) ∈ L:=by
 unfold keysL
 rw [List.mem_map]
 exact ⟨fun ⟨p,hp,e⟩=>⟨p.2,by rw [←e];exact hp⟩,fun ⟨v,hv⟩=>⟨_,hv,rfl⟩⟩
theorem Ext.refl:Ext W s L L:=⟨fun _ h=>h,fun _ h=>.inl h⟩
theorem Ext.keys (h:Ext W s L L') {q:St} (hq:q ∈ keysL L):q ∈ keysL L':=by
 obtain ⟨v,hv⟩:=mem_keys.1 hq
 exact mem_keys.2 ⟨v,h.old _ hv⟩
theorem Ext.step (h:Ext W s L L') (hm:(c,s') ∈ W.moves s) (h2:Ext W s' L' L''):Ext W s L L'' :=
 ⟨fun p hp=>h2.old p (h.old p hp),fun p hp=>(h2.new p hp).elim (fun h3=>h.new p h3) (fun h3=>.inr ((Rch.step .refl hm).trans h3))⟩
theorem rch_rank (hs:W.ok s) (h:Rch W s s'):W.rank s'≤W.rank s:=by
 induction h with
 | refl=>exact Nat.le_refl _
 | step h hm ih=>have:=(moves_ok (Rch.ok hs h) hm).2;omega

theorem not_known (hs:W.ok s) (h:s ∉ keysL L) (he:∀ p ∈ L',p ∈ L∨∃ c s',(c,s') ∈ W.moves s∧Rch W s' p.1):s ∉ keysL L':=fun hq=>by
 obtain ⟨v,hv⟩:=mem_keys.1 hq
 rcases he _ hv with h1 | ⟨c,s',hm,hr⟩
 ·exact h (mem_keys.2 ⟨v,h1⟩)
 ·have h2:=moves_ok hs hm
  have h3:=rch_rank h2.1 hr
  have:W.rank s≤W.rank s':=h3
  omega
theorem Kn.add (h:Kn W L) (hs:W.ok s) (hn:s ∉ keysL L) (hm:∀ x ∈ W.moves s,x.2 ∈ keysL L):Kn W (L ++ [(s,W.dist s)]):=by
 have hk:keysL (L ++ [(s,W.dist s)])=keysL L ++ [s]:=by unfold keysL;rw [List.map_append];rfl
 refine ⟨fun p hp=>?_,fun p hp=>?_,fun p hp x hx=>?_,?_⟩
 ·rcases List.mem_append.1 hp with hp | hp
  ·exact h.val p hp
  ·rw [List.mem_singleton.1 hp]
 ·rcases List.mem_append.1 hp with hp | hp
  ·exact h.ok p hp
  ·rw [List.mem_singleton.1 hp];exact hs
 ·rw [hk]
  refine List.mem_append_left _ ?_
  rcases List.mem_append.1 hp with hp | hp
  ·exact h.cl p hp x hx
  ·rw [List.mem_singleton.1 hp] at hx;exact hm x hx
 ·rw [hk,List.nodup_append]
  refine ⟨h.nd,(by simp),fun a ha b hb e=>?_⟩
  rw [List.mem_singleton.1 hb] at e
  exact hn (e ▸ ha)

def minF (W:Wd) (s:St) (i:Nat):Int:=((W.moves s).take i).foldl (fun h x=>min h (x.1+W.dist x.2)) (if s=W.fin then 0 else never)
theorem minF_zero:minF W s 0=if s=W.fin then 0 else never:=rfl
theorem minF_succ {i:Nat} (hi:i < (W.moves s).length):minF W s (i+1)=min (minF W s i) ((W.moves s)[i].1+W.dist (W.moves s)[i].2):=by
 unfold minF
 rw [List.take_succ_eq_append_getElem hi,List.foldl_append];rfl
theorem minF_all (hs:W.ok s):minF W s (W.moves s).length=W.dist s:=by unfold minF;rw [List.take_length,dist_eq hs]
theorem minF_le {i:Nat}:minF W s i≤never:=by
 unfold minF
 refine Int.le_trans (fold_le (fun x:Int × St=>x.1+W.dist x.2) _ _).1 ?_
 split
 ·decide
 ·exact Int.le_refl _
theorem minF_pos (hg:W.good) (hs:W.ok s):∀ i,0≤minF W s i:=fun i=>by
 rcases fold_eq (fun x:Int × St=>x.1+W.dist x.2) ((W.moves s).take i) (if s=W.fin then 0 else never) with h | ⟨x,hx,h⟩
 ·unfold minF;rw [h];split <;> decide
 ·unfold minF
  rw [h]
  have hx':=List.mem_of_mem_take hx
  have h1:=moves_ok (c:=x.1) (s':=x.2) hs hx'
  have h2:=dist_nonneg hg h1.1
  have h3:=(good_cost (c:=x.1) (s':=x.2) hg hx').1
  omega

structure KnI (W:Wd) (s:St) (L:List (St × Int)) (i:Nat) (L':List (St × Int)):Prop where
 kn:Kn W L'
 old:∀ p ∈ L,p ∈ L'
 new:∀ p ∈ L',p ∈ L∨∃ c s',(c,s') ∈ W.moves s∧Rch W s' p.1
 mv:∀ j (hj:j < (W.moves s).length),j < i→(W.moves s)[j].2 ∈ keysL L'
theorem kni_zero (h:Kn W L):KnI W s L 0 L:=⟨h,fun _ h=>h,fun _ h=>.inl h,fun j _ h=>absurd h (Nat.not_lt_zero _)⟩
theorem kni_succ {i:Nat} (hi:i < (W.moves s).length) (h:KnI W s L i L') (h2:Kn W L'') (he:Ext W (W.moves s)[i].2 L' L'') (hk:(W.moves s)[i].2 ∈ keysL L''):KnI W s L (i+1) L'':=by
 refine ⟨h2,fun p hp=>he.old p (h.old p hp),fun p hp=>?_,fun j hj hji=>?_⟩
 ·rcases he.new p hp with h3 | h3
  ·exact h.new p h3
  ·exact .inr ⟨_,_,List.getElem_mem hi,h3⟩
 ·by_cases e:j=i
  ·subst e;exact hk
  ·exact he.keys (h.mv j hj (by omega))
theorem kni_end (h:KnI W s L (W.moves s).length L') (hs:W.ok s) (hn:s ∉ keysL L):Kn W (L' ++ [(s,W.dist s)])∧Ext W s L (L' ++ [(s,W.dist s)])∧s ∈ keysL (L' ++ [(s,W.dist s)])∧s ∉ keysL L':=by
 have hn':=not_known hs hn h.new
 refine ⟨h.kn.add hs hn' (fun x hx=>?_),⟨fun p hp=>List.mem_append_left _ (h.old p hp),fun p hp=>?_⟩,mem_keys.2 ⟨_,List.mem_append_right _ (List.mem_singleton.2 rfl)⟩,hn'⟩
 ·obtain ⟨j,hj,rfl⟩:=List.mem_iff_getElem.1 hx
  exact h.mv j hj hj
 ·rcases List.mem_append.1 hp with hp | hp
  ·rcases h.new p hp with h3 | ⟨c,s',hm,hr⟩
   ·exact .inl h3
   ·exact .inr ((Rch.step .refl hm).trans hr)
  ·rw [List.mem_singleton.1 hp];exact .inr .refl

end
end Go.CH.Pot
namespace Go.Proofs.YtbnnlpjpnihheaaGreatDoor
open Go.RowKit Go.CH Go.CH.Scr Go.CH.Pot
open Go.ChangeMaps (setBlock)
attribute [local go_sem] Oper.semAt_some
theorem stm_ok {b:Nat} {L:List (St × Int)}:(StM b L).Ok:=map_ok
theorem mget_kn {L:List (St × Int)} {s:St} {v:Int} (hn:(keysL L).Nodup) (h:(s,v) ∈ L):mget (L.map fun p=>(p.1,Value.int .i64 p.2)) s=some (.int .i64 v):=by
 induction L with
 | nil=>cases h
 | cons p L ih =>
  have hn1:=List.nodup_cons.1 hn
  rw [List.map_cons,mget_cons]
  rcases List.mem_cons.1 h with e | h
  ·rw [←e];simp
  ·rw [if_neg (fun e:s=p.1=>hn1.1 (List.mem_map.2 ⟨(s,v),h,e⟩))]
   exact ih hn1.2 h
theorem mget_no {L:List (St × Int)} {s:St} (h:s ∉ keysL L):mget (L.map fun p=>(p.1,Value.int .i64 p.2)) s=none:=by
 refine mget_none_ ?_
 rw [List.map_map]
 exact h
theorem move_ahead {W:Wd} {s s':St} {c:Int} (ht:W.tosOk) (ha:s.a.length≤3) (h:(c,s') ∈ W.moves s):s'.a.length≤3:=by
 obtain ⟨R,hR,hm⟩:=moves_mem h
 obtain ⟨-,-,x,hx,rfl⟩:=mv_some hm
 have h1:=(ht R hR).1
 have key:x.1.length≤3:=by
  unfold Wd.ah at hx
  split at hx
  ·injection hx with hx;subst hx;rw [List.length_drop];omega
  ·split at hx
   ·injection hx with hx;subst hx;rw [List.length_drop];omega
   ·cases hx
 split <;> exact key
end Go.Proofs.YtbnnlpjpnihheaaGreatDoor
namespace Go.Proofs.YtbnnlpjpnihheaaGreatDoor
open Go.RowKit Go.CH Go.CH.Scr Go.CH.Pot
open Go.ChangeMaps (setBlock)
def keyC (x:Int × Bs × Bs):Array Value:=#[.int .i64 x.1,.string (bs x.2.1),.string (bs x.2.2)]
def keyV (x:Int × Bs × Bs):Value:=.agg (keyC x)
def keyF:List Field:=[⟨ "script",3,0,false, "", "customhouse/rewrite",0⟩,⟨ "from",9,1,false, "", "customhouse/rewrite",8⟩,⟨ "to",9,2,false, "", "customhouse/rewrite",24⟩]
theorem key_flats (x:Int × Bs × Bs):Flats Tryz.prog keyF (keyC x):=by
 intro f hf
 simp only [keyF,List.mem_cons,List.mem_nil_iff,or_false] at hf
 rcases hf with rfl | rfl | rfl
 ·exact ⟨by decide,_,rfl,.int Tryz.underlying3 _⟩
 ·exact ⟨by decide,_,rfl,.str Tryz.underlying9 _⟩
 ·exact ⟨by decide,_,rfl,.str Tryz.underlying9 _⟩
theorem key_same (a b:Int × Bs × Bs):sameF keyF (keyC a) (keyC b)=decide (a=b):=by
 have e:sameF keyF (keyC a) (keyC b)=((a.1 == b.1) && ((bs a.2.1 == bs b.2.1) && ((bs a.2.2 == bs b.2.2) && true))):=rfl
 rw [e,bs_beq,bs_beq]
 obtain ⟨i,x,y⟩:=a
 obtain ⟨i',x',y'⟩:=b
 by_cases h1:i=i' <;> by_cases h2:x=x' <;> by_cases h3:y=y' <;> simp [h1,h2,h3]
theorem keyOk_key:KeyOk Tryz.prog 146 keyV:=by
 refine keyOk_struct (cs:=keyC) (fs:=keyF.toArray) Tryz.underlying146 (by kernel_rfl) key_flats key_same (fun a=>?_)
 simp [keyC,Instr.sameBits,bs_beq]

def SetO (b:Nat) (l:List (Int × Bs × Bs)):CH.Own:=MapO keyV b (l.map fun x=>(x,.bool true))
theorem set_ok {b:Nat} {l:List (Int × Bs × Bs)}:(SetO b l).Ok:=map_ok
theorem set_get {b:Nat} {l:List (Int × Bs × Bs)} {w:World} {F:Nat→Prop} (h:SetO b l w F) (x:Int × Bs × Bs) :
  (Instr.lookup 144 (.map (some b)) (.agg #[.int .i64 x.1,.string (bs x.2.1),.string (bs x.2.2)]) false).run Tryz.prog w=.ok (.bool (decide (x ∈ l))) w:=by
 have h1:=mapO_get keyOk_key Tryz.underlying144 Tryz.zeroValue4 h x
 rw [mget_all] at h1
 refine h1.trans ?_
 by_cases hx:x ∈ l
 ·rw [if_pos hx,decide_eq_true hx];rfl
 ·rw [if_neg hx,decide_eq_false hx];rfl
theorem set_put {b:Nat} {l:List (Int × Bs × Bs)} {w:World} {F:Nat→Prop} (h:SetO b l w F) {x:Int × Bs × Bs} (hx:x ∉ l) :
  ∃ w',(Instr.mapUpdate 144 (.map (some b)) (.agg #[.int .i64 x.1,.string (bs x.2.1),.string (bs x.2.2)]) (.bool true)).run Tryz.prog w=.ok () w'∧Post w F (SetO b (l ++ [x])) w':=by
 obtain ⟨w',h1,h2⟩:=mapO_put keyOk_key Tryz.underlying144 h x (.bool true)
 refine ⟨w',h1,?_⟩
 have e:mput (l.map fun x=>(x,Value.bool true)) x (.bool true)=(l ++ [x]).map fun x=>(x,Value.bool true):=by
  rw [mput_new_ (by rw [List.map_map];simpa using hx),List.map_append];rfl
 rw [e] at h2
 exact h2
end Go.Proofs.YtbnnlpjpnihheaaGreatDoor
namespace Go.Proofs.YtbnnlpjpnihheaaGreatDoor
open Go.RowKit Go.CH Go.CH.Scr Go.CH.Pot
open Go.ChangeMaps (setBlock)
theorem drops_no {most:Nat} {l:List Drop} {k:Nat} (hk:k < l.length) (h:keyD l[k] ∈ (l.take k).map keyD∨dropN most l[k]=false):dropsN most l=false:=by
 rw [Bool.eq_false_iff]
 intro h2
 unfold dropsN at h2
 simp only [Bool.and_eq_true,decide_eq_true_eq] at h2
 rcases h with h | h
 ·obtain ⟨x,hx,e⟩:=List.mem_map.1 h
  obtain ⟨j,hj,rfl⟩:=List.mem_iff_getElem.1 hx
  have hj':j < k:=by rw [List.length_take] at hj;omega
  have h3:=List.pairwise_iff_getElem.1 h2.1 j k (by rw [List.length_map];omega) (by rw [List.length_map];omega) hj'
  rw [List.getElem_map,List.getElem_map] at h3
  rw [List.getElem_take] at e
  exact h3 e
 ·have:=List.all_eq_true.1 h2.2.1 l[k] (List.getElem_mem hk)
  rw [h] at this;cases this
theorem drops_end {most:Nat} {l:List Drop} (h1:(l.map keyD).Nodup) (h2:∀ d ∈ l,dropN most d=true):dropsN most l=decide (l.length≤40):=by
 unfold dropsN
 rw [decide_eq_true h1,List.all_eq_true.2 h2]
 simp
theorem keys_step {l:List Drop} {k:Nat} (hk:k < l.length) (h1:((l.take k).map keyD).Nodup) (h2:keyD l[k] ∉ (l.take k).map keyD):((l.take (k+1)).map keyD)=(l.take k).map keyD ++ [keyD l[k]]∧((l.take (k+1)).map keyD).Nodup:=by
 have e:((l.take (k+1)).map keyD)=(l.take k).map keyD ++ [keyD l[k]]:=by rw [List.take_succ_eq_append_getElem hk,List.map_append];rfl
 refine ⟨e,?_⟩
 rw [e,List.nodup_append]
 refine ⟨h1,by simp,fun a ha b hb e=>?_⟩
 rw [List.mem_singleton.1 hb] at e
 exact h2 (e ▸ ha)
theorem all_step {most:Nat} {l:List Drop} {k:Nat} (hk:k < l.length) (h1:∀ d ∈ l.take k,dropN most d=true) (h2:dropN most l[k]=true):∀ d ∈ l.take (k+1),dropN most d=true:=by
 intro d hd
 rw [List.take_succ_eq_append_getElem hk] at hd
 rcases List.mem_append.1 hd with hd | hd
 ·exact h1 d hd
 ·rw [List.mem_singleton.1 hd];exact h2
set_option maxHeartbeats 3200000 in
set_option maxRecDepth 100000 in
theorem checkDrops_any {w:World} {A:Option Addr} {c:Nat} {l:List Drop} {most:Nat} (hA:DropsR w A l) (hl:l.length≤1000000) (hs:∀ d ∈ l,d.w.length≤1000000) (hz:LZ w) :
  Calls Tryz.prog 84 #[.slice A l.length c,.int .i64 (most:Int)] w (BelowRet w (.bool (dropsN most l))):=by
 have HA:=hide hA
 have HZ:=hide hz
 have HS:=hide hs
 obtain ⟨N,hN⟩:∃ N,N=l.length:=⟨_,rfl⟩
 have HN:=hide hN
 rw [←hN] at hl ⊢
 have h0:=(Run.begin w).fresh emp_ok (map_new (kv:=keyV) w)
 have H0:=hide (show Run (fun _=>False) w (star (SetO w.heap.size ((l.take 0).map keyD)) emp) (w.alloc (.map #[] 0)) from h0)
 have hmk:∀ w:World,(Instr.makeMap 144 none).run Tryz.prog w=.ok (.map (some w.heap.size)) (w.alloc (.map #[] 0)):=fun w=>by kernel_rfl
 clear hA hz hs hN h0
 go_enter Tryz.func84,Tryz.ntmps84
 go_wp2
 clear hmk
 generalize w.alloc (.map #[] 0)=w1 at *
 generalize w.heap.size=bm at *
 go_loopw [12] (fun i wr=>∃ k:Nat,k≤N∧i=.int .i64 k∧(∀ d ∈ l.take k,dropN most d=true)∧((l.take k).map keyD).Nodup∧Run (fun _=>False) w (star (SetO bm ((l.take k).map keyD)) emp) wr) (fun i _=>N - (intOf i).toNat)
 case atStart=>exact ⟨0,Nat.zero_le _,rfl,by simp,by simp,H0.out⟩
 case round =>
  clear H0
  obtain ⟨k,hk,rfl,ha,hnd,hR⟩:=hrel
  have HAL:=hide ha
  have HND:=hide hnd
  have HR:=hide hR
  clear ha hnd hR
  by_cases hlt:k < N
  ·have hkn:k < l.length:=by rw [←HN.out];exact hlt
   have HK1:=hide (show k+1≤N from hlt)
   have hkb:(k:Int) < 1000000:=by omega
   obtain ⟨b,o,rfl,hc⟩:=HA.out.at (by omega)
   obtain ⟨r0,r1,r2⟩:=hc wr (HR.out.mod.below (fun _ _ h=>h)) k hkn
   have hwl:=HS.out _ (List.getElem_mem hkn)
   clear hc
   have h2:=run_new HR.out (star_ok set_ok emp_ok) #[.int .i64 l[k].k,.string (bs l[k].w),.int .i64 l[k].c] 104
   have h3:=run_new h2 (star_ok cell_ok (star_ok set_ok emp_ok)) #[.int .i64 l[k].k,.string (bs l[k].w),.string ⟨#[]⟩] 146
   rw [World.size_alloc] at h3
   obtain ⟨FS,hFS⟩:=h3.drop.drop.fst
   have hlk:=set_get hFS (keyD l[k])
   have hlk2:(Instr.lookup 144 (.map (some bm)) (.agg #[.int .i64 l[k].k,.string (bs l[k].w),.string ⟨#[]⟩]) false).run Tryz.prog ((wr.alloc (.cells #[.int .i64 l[k].k,.string (bs l[k].w),.int .i64 l[k].c] 104)).alloc (.cells #[.int .i64 l[k].k,.string (bs l[k].w),.string ⟨#[]⟩] 146))=.ok (.bool (decide (keyD l[k] ∈ (l.take k).map keyD))) _:=hlk
   have HNO:=hide (fun h=>drops_no (most:=most) hkn h)
   have HST:=hide (fun h=>keys_step hkn HND.out h)
   have HAS:=hide (fun h=>all_step (most:=most) hkn HAL.out h)
   have H3:=hide h3
   clear hlk h2 h3 hFS HR
   by_cases hin:keyD l[k] ∈ (l.take k).map keyD
   ·rw [decide_eq_true hin] at hlk2
    have HF:=hide (HNO.out (.inl hin))
    clear hin HNO HST HAS
    generalize l[k]=d at *
    have HB:=hide (H3.out.mod.below (fun _ _ h=>h))
    go_wp2
    go_ret
    exact bel_bool HF.out HB.out
   ·rw [decide_eq_false hin] at hlk2
    have HKS:=hide (HST.out hin)
    have HKN:=hide hin
    have KF:=hide (fun W (hz:LZ W)=>folded_any l[k].k (bs l[k].w) most W (by rw [bs_size];exact hwl) hz)
    clear hin HST
    simp only [bl_bs] at KF
    have KF2:=hide (KF.out _ (HZ.out.below (H3.out.mod.below (fun _ _ h=>h))))
    have KC:=hide (fun W=>isCost_any l[k].c W)
    have okA:(star (CellO (wr.heap.size+1) #[.int .i64 l[k].k,.string (bs l[k].w),.string ⟨#[]⟩] 146) (star (CellO wr.heap.size #[.int .i64 l[k].k,.string (bs l[k].w),.int .i64 l[k].c] 104) (star (SetO bm ((l.take k).map keyD)) emp))).Ok:=star_ok cell_ok (star_ok cell_ok (star_ok set_ok emp_ok))
    have OKA:=hide okA
    have hdn:dropN most l[k]=(foldedN l[k].k l[k].w most && costN l[k].c):=rfl
    have HDN:=hide hdn
    have hky:keyD l[k]=(l[k].k,l[k].w,[]):=rfl
    have HKY:=hide hky
    clear KF okA hdn hky
    go_wp2_with fail
    refine KF2.out.mono ?_
    rintro e9 w3 ⟨rfl,hb⟩
    have H4:=hide (H3.out.below OKA.out hb)
    clear KF2 H3 hb hlk2 r0 r1 r2
    generalize wr.heap.size+1=g2 at *
    generalize wr.heap.size=g1 at *
    obtain ⟨F1,hF1⟩:=H4.out.fst
    obtain ⟨F2,hF2⟩:=H4.out.drop.fst
    have y0:=cell_at (i:=0) hF1 rfl
    have y1:=cell_at (i:=1) hF1 rfl
    have y2:=cell_at (i:=2) hF1 rfl
    have x2:=cell_at (i:=2) hF2 rfl
    clear hF1 hF2
    dsimp only
    cases hfo:foldedN l[k].k l[k].w most with
    | false =>
     have HF:=hide (HNO.out (.inr (by rw [HDN.out,hfo];rfl)))
     have HB:=hide (H4.out.mod.below (fun _ _ h=>h))
     clear hfo
     go_wp2
     go_ret
     exact bel_bool HF.out HB.out
    | true =>
     cases hco:costN l[k].c with
     | false =>
      have HF:=hide (HNO.out (.inr (by rw [HDN.out,hfo,hco];rfl)))
      rw [hco] at KC
      clear hfo hco
      go_wp2_with fail
      refine (KC.out _).mono ?_
      rintro e9 w4 ⟨rfl,hb⟩
      have H5:=hide (H4.out.below OKA.out hb)
      have HB:=hide (H5.out.mod.below (fun _ _ h=>h))
      clear KC H4 hb
      dsimp only
      go_wp2
      go_ret
      exact bel_bool HF.out HB.out
     | true =>
      have HA2:=hide (HAS.out (by rw [HDN.out,hfo,hco];rfl))
      rw [hco] at KC
      clear hfo hco
      go_wp2_with fail
      refine (KC.out _).mono ?_
      rintro e9 w4 ⟨rfl,hb⟩
      have H5:=hide (H4.out.below OKA.out hb)
      clear KC H4 hb y0 y1 y2 x2
      dsimp only
      obtain ⟨F1,hF1⟩:=H5.out.fst
      have y0:=cell_at (i:=0) hF1 rfl
      have y1:=cell_at (i:=1) hF1 rfl
      have y2:=cell_at (i:=2) hF1 rfl
      obtain ⟨FM,hFM,-,bk⟩:=(H5.out.drop.drop).take set_ok emp_ok
      obtain ⟨w5,hup,hpost⟩:=set_put hFM HKN.out
      have h6:=bk _ _ hpost
      rw [←HKS.out.1] at h6
      have H6:=hide h6
      rw [HKY.out] at hup
      have hup2:(Instr.mapUpdate 144 (.map (some bm)) (.agg #[.int .i64 l[k].k,.string (bs l[k].w),.string ⟨#[]⟩]) (.bool true)).run Tryz.prog w4=.ok () w5:=hup
      clear hF1 hFM bk hup hpost h6
      go_wp2
      go_roundw
      case rel=>exact ⟨k+1,HK1.out,by go_num,HA2.out,HKS.out.2,H6.out⟩
      case measure=>have:=HK1.out;simp [intOf];omega
  ·obtain rfl:k=N:=by omega
   have HF:=hide (drops_end (most:=most) (l:=l) (by have:=HND.out;rw [HN.out,List.take_length] at this;exact this) (by have:=HAL.out;rw [HN.out,List.take_length] at this;exact this))
   rw [←HN.out] at HF
   have HB:=hide (HR.out.mod.below (fun _ _ h=>h))
   clear HND HAL
   by_cases h40:k≤40
   ·have h40':(k:Int)≤40:=by omega
    rw [decide_eq_true h40] at HF
    go_wp2
    go_ret
    exact bel_bool HF.out HB.out
   ·have h40':¬ (k:Int)≤40:=by omega
    rw [decide_eq_false h40] at HF
    go_wp2
    go_ret
    exact bel_bool HF.out HB.out
end Go.Proofs.YtbnnlpjpnihheaaGreatDoor
namespace Go.Proofs.YtbnnlpjpnihheaaGreatDoor
open Go.RowKit Go.CH Go.CH.Scr Go.CH.Pot
theorem rules_no {l:List Rule} {k:Nat} (hk:k < l.length) (h:keyR l[k] ∈ (l.take k).map keyR∨ruleN l[k]=false):rulesN l=false:=by
 rw [Bool.eq_false_iff]
 intro h2
 obtain ⟨h3,h4⟩:=rulesN_iff.1 h2
 rcases h with h | h
 ·obtain ⟨x,hx,e⟩:=List.mem_map.1 h
  obtain ⟨j,hj,rfl⟩:=List.mem_iff_getElem.1 hx
  have hj':j < k:=by rw [List.length_take] at hj;omega
  have h5:=List.pairwise_iff_getElem.1 h3 j k (by rw [List.length_map];omega) (by rw [List.length_map];omega) hj'
  rw [List.getElem_map,List.getElem_map] at h5
  rw [List.getElem_take] at e
  exact h5 e
 ·have:=h4 l[k] (List.getElem_mem hk)
  rw [h] at this;cases this
theorem rkeys_step {l:List Rule} {k:Nat} (hk:k < l.length) (h1:((l.take k).map keyR).Nodup) (h2:keyR l[k] ∉ (l.take k).map keyR):((l.take (k+1)).map keyR)=(l.take k).map keyR ++ [keyR l[k]]∧((l.take (k+1)).map keyR).Nodup:=by
 have e:((l.take (k+1)).map keyR)=(l.take k).map keyR ++ [keyR l[k]]:=by rw [List.take_succ_eq_append_getElem hk,List.map_append];rfl
 refine ⟨e,?_⟩
 rw [e,List.nodup_append]
 refine ⟨h1,by simp,fun a ha b hb e=>?_⟩
 rw [List.mem_singleton.1 hb] at e
 exact h2 (e ▸ ha)
theorem rall_step {l:List Rule} {k:Nat} (hk:k < l.length) (h1:∀ d ∈ l.take k,ruleN d=true) (h2:ruleN l[k]=true):∀ d ∈ l.take (k+1),ruleN d=true:=by
 intro d hd
 rw [List.take_succ_eq_append_getElem hk] at hd
 rcases List.mem_append.1 hd with hd | hd
 ·exact h1 d hd
 ·rw [List.mem_singleton.1 hd];exact h2

theorem valid_head {T:Tab} (h:T.rs=[]∨80 < T.rs.length∨costN T.drop=false∨costN T.ord=false∨costN T.ini=false):validT T=false:=by
 rw [Bool.eq_false_iff]
 intro h2
 obtain ⟨⟨g1,g2,g3,g4,g5⟩,-⟩:=validT_iff.1 h2
 rcases h with h | h | h | h | h
 ·exact g1 h
 ·omega
 ·rw [h] at g3;cases g3
 ·rw [h] at g4;cases g4
 ·rw [h] at g5;cases g5
theorem valid_rules {T:Tab} (h:rulesN T.rs=false):validT T=false:=by
 rw [Bool.eq_false_iff]
 intro h2
 have:=(validT_iff.1 h2).2.1
 rw [h] at this;cases this
theorem valid_tail {T:Tab} (h:T.rs≠[]∧T.rs.length≤80∧costN T.drop=true∧costN T.ord=true∧costN T.ini=true) (h2:rulesN T.rs=true):validT T=(dropsN 12 T.ds && dropsN 4 T.es):=by
 rw [Bool.eq_iff_iff,validT_iff,Bool.and_eq_true]
 exact ⟨fun g=>g.2.2,fun g=>⟨h,h2,g⟩⟩
end Go.Proofs.YtbnnlpjpnihheaaGreatDoor
