/- A part of the proof: lemmas. -/
import Derived.Test.YtbioiclabmbedaaGreatDoorSI1
set_option maxHeartbeats 16000000
set_option maxRecDepth 100000
set_option linter.all false
namespace Go.CH.Scr
abbrev Bs:=List UInt8
def bS:Bs:=[97,98,99,100,101,102,103,104,105,106,107,108,109,110,111,112,113,114,115,116,117,118,119,120,121,122]
def tH:Bs:=[39,96,94]
def Jw:Bs:=[98,100,102,103,104,106,107,108,109,110,112,113,114,115,116,119,120,121,122,39]
def vJ:Bs:=[97,105,117,101,111]
def Jy:Bs:=[107,115,116,110,104,109,121,114,119,103,122,100,98,112]
def has (S:Bs):Option UInt8->Bool
 | none=>false
 | some c=>S.contains c
def low (c:UInt8):UInt8:=if 65<=c/\c<=90 then c+32 else c
def mM (k:Int) (a:UInt8) (b:Option UInt8):Nat:=
 if k=1 then(if has bS (some a) then 1 else 0)
 else if k=2 then(if has bS (some (low a)) then(if has tH b then 2 else 1) else 0)
 else if k=3 then(if has Jw (some a) then 1 else 0)
 else if k=4 then(if has Jy (some a)&&has vJ b then 2 else if has vJ (some a)||has [110] (some a) then 1 else 0)
 else 0
def fR (k:Int):Bs->Nat
 | []=>0
 | a::l=>mM k a l.head?
def G2 (k:Int):Bs:=if k=2 then tH else if k=4 then vJ else []
section
variable {k:Int} {a:UInt8} {b:Option UInt8} {l:Bs}
theorem Co:mM k a b<=2:=by
 unfold mM
 repeat' split
 all_goals omega
theorem xg {S:Bs}:has S none=false:=rfl
theorem Hl (h:mM k a b=2):has (G2 k) b=true:=by
 unfold mM at h;unfold G2;by_cases J:k=1
 ·rw[if_pos J] at h;split at h<;>omega
 rw[if_neg J] at h;by_cases I:k=2
 ·rw[if_pos I] at h ⊢;split at h
  ·split at h
   ·assumption
   ·omega
  ·omega
 rw[if_neg I] at h ⊢;by_cases h3:k=3
 ·rw[if_pos h3] at h;split at h<;>omega
 rw[if_neg h3] at h;by_cases M:k=4
 ·rw[if_pos M] at h ⊢;split at h
  ·rename_i hh;simp at hh;exact hh.2
  ·split at h<;>omega
 ·rw[if_neg M] at h;omega
theorem O3 (h:mM k a b=1):mM k a none=1:=by
 unfold mM at *
 by_cases M:k=1
 ·simp[M] at h ⊢;exact h
 by_cases J:k=2
 ·simp[J] at h ⊢;split at h
  ·rename_i I;simp[I,xg]
  ·omega
 by_cases h3:k=3
 ·simp[h3] at h ⊢;exact h
 by_cases h4:k=4
 ·simp[h4] at h ⊢;simp[xg];split at h
  ·omega
  ·split at h
   ·rename_i I;intro h9;rcases I with I|I
    ·rw[I] at h9;cases h9
    ·exact I
   ·omega
 ·simp[M,J,h3,h4] at h
theorem jK {S:Bs} {c:UInt8}:has S (some c)=true↔c ∈ S:=by simp[has]
theorem rD:fR k l<=l.length:=by
 cases l with
 | nil=>exact fy _
 | cons a l=>
  show mM k a l.head?<=l.length+1
  have h:=Co (k:=k) (a:=a) (b:=l.head?);rcases tA (mM k a l.head?) 2 with h2|h2
  ·omega
  ·have I:=Hl (show mM k a l.head?=2 by omega);cases l with
   | nil=>rw[show([]:Bs).head?=none from rfl,xg] at I;cases I
   | cons b l=>simp at *;omega
def vx (k:Int):Nat->Bs->List Bs × Bs
 | 0,l=>([],l)
 | f+1,l=>if fR k l=0 then([],l) else(l.take (fR k l)::(vx k f (l.drop (fR k l))).1,(vx k f (l.drop (fR k l))).2)
def aP (k:Int) (l:Bs):List Bs × Bs:=vx k l.length l
theorem Uk:∀ (f g:Nat) (l:Bs),l.length<=f->l.length<=g->vx k f l=vx k g l:=by
 intro f
 induction f with
 | zero=>
  intro g l J I;obtain rfl:l=[]:=sC eL;cases g with
  | zero=>rfl
  | succ g=>rfl
 | succ f ih=>
  intro g l J I;cases g with
  | zero=>
   obtain rfl:l=[]:=sC eL;rfl
  | succ g=>
   unfold vx;by_cases h:fR k l=0
   ·rw[if_pos h,if_pos h]
   ·rw[if_neg h,if_neg h];have M:=k6 (i:=fR k l) (l:=l);have e:=ih g (l.drop (fR k l)) eL eL;rw[e]
theorem fK (h:fR k l=0):aP k l=([],l):=by
 unfold aP;cases hl:l.length with
 | zero=>rfl
 | succ n=>unfold vx;rw[if_pos h]
theorem gP (h:fR k l≠0):aP k l=(l.take (fR k l)::(aP k (l.drop (fR k l))).1,(aP k (l.drop (fR k l))).2):=by
 have I:=rD (k:=k) (l:=l);have hd:=k6 (i:=fR k l) (l:=l);unfold aP;obtain⟨n,hn⟩:∃ n,l.length=n+1:=⟨l.length-1,by omega⟩;rw[hn]
 conv=>lhs;unfold vx
 rw[if_neg h];have e:=Uk (k:=k) n (l.drop (fR k l)).length (l.drop (fR k l)) eL (fy _);rw[e]
theorem oG {P:Bs->Prop} (I:∀ l,fR k l=0->P l) (M:∀ l,fR k l≠0->P (l.drop (fR k l))->P l) (l:Bs):P l:=by
 have key:∀ n (l:Bs),l.length<=n->P l:=by
  intro n
  induction n with
  | zero=>
   intro l J;obtain rfl:l=[]:=sC eL;exact I [] rfl
  | succ n ih=>
   intro l J;by_cases h:fR k l=0
   ·exact I l h
   ·have hd:=k6 (i:=fR k l) (l:=l);exact M l h (ih _ eL)
 exact key l.length l (fy _)
theorem zu (l:Bs):(aP k l).1.flatten++(aP k l).2=l:=by
 refine oG (k:=k) (P:=fun l=>(aP k l).1.flatten++(aP k l).2=l) (fun l h=>?_) (fun l h ih=>?_) l
 ·show(aP k l).1.flatten++(aP k l).2=l
  rw[fK h];rfl
 ·show(aP k l).1.flatten++(aP k l).2=l
  rw[gP h]
  show(l.take (fR k l)++(aP k (l.drop (fR k l))).1.flatten)++(aP k (l.drop (fR k l))).2=l
  rw[l3,ih,tM]
def word (k:Int) (l:Bs):Bool:=decide ((aP k l).2=[])&&(decide (1<=(aP k l).1.length)&&decide ((aP k l).1.length<=12))
theorem eP:word k l=true↔(aP k l).2=[]/\1<=(aP k l).1.length/\(aP k l).1.length<=12:=by
 unfold word;simp
theorem uO (h:word k l=true):(aP k l).1.flatten=l:=by
 have:=zu (k:=k) l;rw[(eP.1 h).1,mS] at this;exact this
theorem Rm (h:fR k l≠0):fR k (l.take (fR k l))=fR k l:=by
 cases l with
 | nil=>exact absurd rfl h
 | cons a l=>
  have J:=Co (k:=k) (a:=a) (b:=l.head?);have M:mM k a l.head?≠0:=h
  show fR k ((a::l).take (mM k a l.head?))=mM k a l.head?
  rcases tA (mM k a l.head?) 2 with h2|h2
  ·have I:mM k a l.head?=1:=by omega
   rw[I];exact O3 I
  ·have I:mM k a l.head?=2:=by omega
   rw[I];cases l with
   | nil=>rw[show([]:Bs).head?=none from rfl] at I;have:=Hl I;rw[xg] at this;cases this
   | cons b l=>exact I
theorem Jz (h:fR k l≠0):aP k (l.take (fR k l))=([l.take (fR k l)],[]):=by
 have h1:=Rm h;have hlen:(l.take (fR k l)).length=fR k l:=by rw[kt];have:=rD (k:=k) (l:=l);omega
 rw[gP (by rw[h1];exact h),h1,tE eL,Hk eL,fK fY]
theorem E5 (l:Bs):∀ x ∈ (aP k l).1,aP k x=([x],[]):=by
 refine oG (k:=k) (P:=fun l=>∀ x ∈ (aP k l).1,aP k x=([x],[])) (fun l h=>?_) (fun l h ih=>?_) l
 ·show ∀ x ∈ (aP k l).1,_
  rw[fK h];intro x I;cases I
 ·show ∀ x ∈ (aP k l).1,_
  rw[gP h];intro x I;rcases List.mem_cons.1 I with rfl|I
  ·exact Jz h
  ·exact ih x I
end
section
variable {k:Int} {a b l:Bs}
theorem Cq (h:word k b=true):fR k b≠0:=by
 intro h0;have:=eP.1 h;rw[fK h0] at this;simp at this
def lower (l:Bs):Bs:=l.map low
theorem Ho (c:UInt8):low (low c)=low c:=by
 unfold low;by_cases h:65<=c/\c<=90
 ·rw[if_pos h,if_neg];rintro⟨h1,I⟩;obtain⟨g1,g2⟩:=h;have J:=UInt8.le_iff_toNat_le.1 g1;have M:=UInt8.le_iff_toNat_le.1 g2;have a3:=UInt8.le_iff_toNat_le.1 I;rw[UInt8.toNat_add] at a3;simp at J M a3;omega
 ·rw[if_neg h,if_neg h]
theorem Ao (l:Bs):lower (lower l)=lower l:=by
 unfold lower;rw[qq];exact nt fun c _=>Ho c
theorem Rn:∀ c ∈ bS,low c=c:=by decide
theorem YT:∀ c ∈ Jw,c=39\/c ∈ bS:=by decide
theorem O4:∀ c ∈ vJ,c ∈ bS:=by decide
theorem YU:∀ c ∈ Jy,c ∈ bS:=by decide
theorem Ro {x:UInt8} {y:Option UInt8} (hk:k≠2) (h:mM k x y≠0):(x ∈ bS\/(k=3/\x=39))/\(mM k x y=2->∃ z,y=some z/\z ∈ bS):=by
 unfold mM at h ⊢;by_cases h1:k=1
 ·simp only[h1,if_true] at h ⊢;refine⟨.inl ?_,fun M=>?_⟩
  ·by_cases h3:has bS (some x)=true
   ·exact jK.1 h3
   ·rw[if_neg h3] at h;exact absurd rfl h
  ·split at M<;>omega
 rw[if_neg h1,if_neg hk] at h ⊢;by_cases h3:k=3
 ·simp only[h3,if_true] at h ⊢;refine⟨?_,fun M=>?_⟩
  ·by_cases h4:has Jw (some x)=true
   ·rcases YT x (jK.1 h4) with I|I
    ·exact .inr ⟨trivial,I⟩
    ·exact .inl I
   ·rw[if_neg h4] at h;exact absurd rfl h
  ·split at M<;>omega
 rw[if_neg h3] at h ⊢;by_cases h4:k=4
 ·simp only[h4,if_true] at h ⊢;by_cases I:(has Jy (some x)&&has vJ y)=true
  ·rw[if_pos I] at h ⊢;simp only[gA] at I;refine⟨.inl (YU x (jK.1 I.1)),fun _=>?_⟩;cases y with
   | none=>simp[has] at I
   | some z=>exact⟨z,rfl,O4 z (jK.1 I.2)⟩
  ·rw[if_neg I] at h ⊢;refine⟨.inl ?_,fun M=>by split at M<;>omega⟩;by_cases J:(has vJ (some x)||has [110] (some x))=true
   ·rw[tf] at J;rcases J with J|J
    ·exact O4 x (jK.1 J)
    ·have:x=110:=by simpa[has] using J
     subst this;decide
   ·rw[if_neg J] at h;exact absurd rfl h
 ·rw[if_neg h4] at h;exact absurd rfl h
theorem M0 (hk:k≠2):∀ l:Bs,(aP k l).2=[]->∀ c ∈ l,c ∈ bS\/(k=3/\c=39):=by
 intro l;refine oG (k:=k) (P:=fun l=>(aP k l).2=[]->∀ c ∈ l,c ∈ bS\/(k=3/\c=39)) (fun l h=>?_) (fun l h ih=>?_) l
 ·intro J;rw[fK h] at J;obtain rfl:l=[]:=J;intro c I;cases I
 ·intro J c I;rw[gP h] at J;have ih:=ih J;cases l with
  | nil=>exact absurd rfl h
  | cons x t=>
   have h0:mM k x t.head?≠0:=h;obtain⟨b1,b2⟩:=Ro hk h0;rcases List.mem_cons.1 I with rfl|I
   ·exact b1
   ·have aa:=Co (k:=k) (a:=x) (b:=t.head?);by_cases h2:mM k x t.head?=2
    ·obtain⟨z,hz,M⟩:=b2 h2;cases t with
     | nil=>cases I
     | cons y t=>
      have:y=z:=by simpa using hz
      subst this;rcases List.mem_cons.1 I with rfl|I
      ·exact .inl M
      ·refine ih c ?_
       show c ∈ (x::y::t).drop (mM k x (y::t).head?)
       rw[h2];exact I
    ·refine ih c ?_
     show c ∈ (x::t).drop (mM k x t.head?)
     rw[show mM k x t.head?=1 by omega];exact I
theorem JA (hk:k≠2) (h:(aP k l).2=[]):lower l=l:=by
 have:=M0 hk l h;unfold lower
 conv=>rhs;rw[<-AH l]
 refine nt fun c hc=>?_;rcases this c hc with h1|⟨_,h1⟩
 ·exact Rn c h1
 ·subst h1;decide
theorem YV (c:UInt8):has tH (some (low c))=has tH (some c):=by
 unfold low;by_cases h:65<=c/\c<=90
 ·rw[if_pos h];obtain⟨g1,g2⟩:=h;have J:=UInt8.le_iff_toNat_le.1 g1;have M:=UInt8.le_iff_toNat_le.1 g2;simp at J M;have e1:has tH (some c)=false:=by
   cases I:has tH (some c) with
   | false=>rfl
   | true=>
    have hm:=jK.1 I;have key:∀ c ∈ tH,¬ (65<=c.toNat/\c.toNat<=90):=by decide
    exact absurd ⟨J,M⟩ (key c hm)
  have e2:has tH (some (c+32))=false:=by
   cases I:has tH (some (c+32)) with
   | false=>rfl
   | true=>
    have hm:=jK.1 I;have key:∀ c ∈ tH,¬ (97<=c.toNat/\c.toNat<=122):=by decide
    refine absurd ?_ (key _ hm);rw[UInt8.toNat_add];simp;omega
  rw[e1,e2]
 ·rw[if_neg h]
theorem vV (l:Bs):fR 2 (lower l)=fR 2 l:=by
 cases l with
 | nil=>rfl
 | cons x t=>
  show mM 2 (low x) (lower t).head?=mM 2 x t.head?
  unfold mM;simp only[show ¬ (2:Int)=1 by decide,if_false,if_true,Ho];cases t with
  | nil=>rfl
  | cons y t=>
   show(if has bS (some (low x))=true then if has tH (some (low y))=true then 2 else 1 else 0)=if has bS (some (low x))=true then if has tH (some y)=true then 2 else 1 else 0
   rw[YV]
theorem JB (l:Bs):aP 2 (lower l)=((aP 2 l).1.map lower,lower (aP 2 l).2):=by
 refine oG (k:=2) (P:=fun l=>aP 2 (lower l)=((aP 2 l).1.map lower,lower (aP 2 l).2)) (fun l h=>?_) (fun l h ih=>?_) l
 ·show aP 2 (lower l)=_
  rw[fK h,fK (by rw[vV];exact h)];rfl
 ·show aP 2 (lower l)=_
  rw[gP h,gP (l:=lower l) (by rw[vV];exact h),vV];have I:(lower l).take (fR 2 l)=lower (l.take (fR 2 l)):=by unfold lower;rw[List.map_take]
  have J:(lower l).drop (fR 2 l)=lower (l.drop (fR 2 l)):=by unfold lower;rw[List.map_drop]
  rw[I,J,ih];rfl
theorem Hq (hk:k≠2) (h:(aP k l).2=[]):(aP k l).1.map lower=(aP k l).1:=by
 conv=>rhs;rw[<-AH (aP k l).1]
 refine nt fun x hx=>?_;have:=E5 (k:=k) l x hx;exact JA hk (by rw[this])
theorem xq (h:word k l=true):aP k (lower l)=((aP k l).1.map lower,[]):=by
 have h1:=(eP.1 h).1;by_cases hk:k=2
 ·subst hk;rw[JB,h1];rfl
 ·rw[JA hk h1,Hq hk h1,<-h1]
theorem iV (h:word k l=true):word k (lower l)=true:=by
 have h1:=eP.1 h;refine eP.2 ?_;rw[xq h];exact⟨rfl,by show 1<=((aP k l).1.map lower).length;rw[gh];exact h1.2.1,by show((aP k l).1.map lower).length<=12;rw[gh];exact h1.2.2⟩
end
inductive G3 where
 | ok (ws:List Bs)
 | err (e at_:Int)
deriving DecidableEq
def close (ws:List Bs) (cur:Bs) (cnt:Nat):List Bs:=if cnt=0 then ws else ws++[cur]
def rd (k:Int):Nat->List Bs->Bs->Nat->Nat->Bs->G3
 | _,ws,cur,cnt,_,[]=>.ok (close ws cur cnt)
 | 0,_,_,_,_,_::_=>.err 0 0
 | f+1,ws,cur,cnt,o,a::l=>
  if a=32 then rd k f (close ws cur cnt) [] 0 (o+1) l
  else if fR k (a::l)=0 then .err 3 o
  else if cnt=12\/ws.length=6 then .err 2 o
  else rd k f ws (cur++(a::l).take (fR k (a::l))) (cnt+1) (o+fR k (a::l)) ((a::l).drop (fR k (a::l)))
section
variable {k:Int} {l:Bs} {ws:List Bs} {cur:Bs} {cnt o:Nat}
end
section
variable {k:Int}
variable {j:Nat}
theorem Ul {l:Bs}  (h:fR k l≠0) (hj:fR k l<=j):fR k (l.take j)=fR k l:=by
 cases l with
 | nil=>exact absurd rfl h
 | cons a t=>
  have h':mM k a t.head?≠0:=h;have aa:mM k a t.head?<=j:=hj;have M:=Co (k:=k) (a:=a) (b:=t.head?);obtain⟨I,rfl⟩:∃ I,j=I+1:=⟨j-1,by omega⟩
  show mM k a (t.take I).head?=mM k a t.head?
  cases t with
  | nil=>simp
  | cons b t=>
   cases I with
   | zero=>
    have J:mM k a (some b)=1:=by
     have:mM k a (some b)=mM k a (b::t).head?:=rfl;omega
    show mM k a none=mM k a (some b)
    rw[J];exact O3 J
   | succ I=>rfl
def same:G3->G3->Prop
 | .ok a,.ok b=>a=b
 | .err e _,.err e' _=>e=e'
 | _,_=>False
def ctx (k:Int):List Bs->Bs->Prop
 | [],_=>True
 | x::xs,r=>x≠[]/\fR k (x++(xs.flatten++r))=x.length/\ctx k xs r
def behind (r:Bs):Prop:=r=[]\/r.head?=some 32
def JC (k:Int) (ws:List Bs):Prop:=∀ w ∈ ws,word k w=true
def bytes:List Bs->Nat
 | []=>0
 | w::ws=>w.length+1+bytes ws
def join:List Bs->Bs
 | []=>[]
 | [w]=>w
 | w::v::ws=>w++32::join (v::ws)
end
end Go.CH.Scr
namespace Go.CH.dh
open Go.CH.Scr
structure ik where
 k:Int
 f:Bs
 t:Bs
 c:Int
deriving DecidableEq
structure St where
 i:Nat
 j:Nat
 a:Bs
 r:Bool
deriving DecidableEq
structure Wd where
 ka:Int
 kb:Int
 l:List Bs
 m:List Bs
 rs:List ik
def tk:List Bs->Bs->Option Nat
 | _,[]=>some 0
 | [],_::_=>none
 | x::l,c::t=>if x.isPrefixOf (c::t) then(tk l ((c::t).drop x.length)).map (· + 1) else none
def takes (l:List Bs) (t:Bs):Nat:=(tk l t).getD 0
variable {W:Wd} {s s' t:St} {R:ik} {c d:Int} {n:Nat}
def Wd.left (W:Wd) (s:St):Bool:=s.r||(decide (s.a=[])&&decide (s.i≠W.l.length))
def Wd.used (W:Wd) (s:St) (R:ik):Nat:=
 if W.left s then(if R.k=W.ka then takes (W.l.drop s.i) R.f else 0) else(if R.k=W.kb then takes (W.m.drop s.j) R.f else 0)
def Wd.ah (W:Wd) (s:St) (tw:Bs):Option (Bs × Bool):=
 if tw.isPrefixOf s.a/\s.a.drop tw.length≠[] then some (s.a.drop tw.length,s.r)
 else if s.a.isPrefixOf tw then some (tw.drop s.a.length,!W.left s&&decide (tw.drop s.a.length≠[]))
 else none
def Wd.mv (W:Wd) (s:St) (R:ik):Option (Int × St):=
 if W.used s R=0 then none
 else(W.ah s R.t).map fun x=>(R.c,if W.left s then ⟨s.i+W.used s R,s.j,x.1,x.2⟩ else ⟨s.i,s.j+W.used s R,x.1,x.2⟩)
def Wd.moves (W:Wd) (s:St):List (Int × St):=W.rs.filterMap (W.mv s)
def Wd.fin (W:Wd):St:=⟨W.l.length,W.m.length,[],false⟩
def gC:St:=⟨0,0,[],false⟩
theorem jL {a b:Bs}:a.isPrefixOf b=true↔∃ r,b=a++r:=by
 rw[Hh];exact⟨fun⟨r,h⟩=>⟨r,h.symm⟩,fun⟨r,h⟩=>⟨r,h.symm⟩⟩
variable {l:List Bs}
theorem Hr :tk l []=some 0:=by cases l<;>rfl
theorem O5:∀ {l:List Bs} {t:Bs} {n:Nat},tk l t=some n->n<=l.length/\(l.take n).flatten=t:=by
 intro l
 induction l with
 | nil=>
  intro t n h;cases t with
  | nil=>rw[Hr] at h;injection h with h;subst h;exact⟨fy _,rfl⟩
  | cons c t=>cases h
 | cons x l ih=>
  intro t n h;cases t with
  | nil=>rw[Hr] at h;injection h with h;subst h;exact⟨fw _,rfl⟩
  | cons c t=>
   unfold tk at h;split at h
   ·rename_i M;obtain⟨r,hr⟩:=jL.1 M;rw[B4] at h;obtain⟨k,hk,rfl⟩:=h;obtain⟨J,I⟩:=ih hk;refine⟨Nat.succ_le_succ J,?_⟩;rw[List.take_succ_cons,Fs,I,hr,ry]
   ·cases h
theorem qE  {t:Bs}:takes l t<=l.length:=by
 unfold takes;cases h:tk l t with
 | none=>exact fw _
 | some n=>exact(O5 h).1
theorem M4  {t:Bs} (h:takes l t≠0):(l.take (takes l t)).flatten=t:=by
 unfold takes at h ⊢;cases h2:tk l t with
 | none=>rw[h2] at h;exact absurd rfl h
 | some n=>exact(O5 h2).2
theorem V0:∀ {l:List Bs} {n:Nat},n<=l.length->(∀ x ∈ l,x≠[])->tk l (l.take n).flatten=some n:=by
 intro l
 induction l with
 | nil=>intro n hn _;obtain rfl:n=0:=Nat.le_zero.1 hn;exact Hr
 | cons x l ih=>
  intro n hn J;cases n with
  | zero=>rfl
  | succ n=>
   have h:=ih (n:=n) (by simpa using hn) (fun y M=>J y (pP _ M));have I:=J x (mz ..);cases x with
   | nil=>exact absurd rfl I
   | cons b x=>
    show tk ((b::x)::l) (b::(x++(l.take n).flatten))=some (n+1)
    unfold tk;rw[if_pos (show(b::x).isPrefixOf (b::(x++(l.take n).flatten))=true from jL.2 ⟨(l.take n).flatten,rfl⟩)];have:(b::(x++(l.take n).flatten)).drop (b::x).length=(l.take n).flatten:=ry;rw[this,h];rfl
theorem Un  {n:Nat} (hn:n<=l.length) (hx:∀ x ∈ l,x≠[]):takes l (l.take n).flatten=n:=by unfold takes;rw[V0 hn hx];rfl
def Wd.ok (W:Wd) (s:St):Prop:=s.i<=W.l.length/\s.j<=W.m.length/\(s.r=true->s.a≠[])
def Wd.il (W:Wd) (s:St):Nat:=(W.l.length-s.i)+(W.m.length-s.j)
theorem oA:W.ok gC:=⟨fw _,fw _,fun h=>by cases h⟩
theorem rE (h:W.mv s R=some (c,s')):c=R.c/\W.used s R≠0/\∃ x,W.ah s R.t=some x/\s'=(if W.left s then ⟨s.i+W.used s R,s.j,x.1,x.2⟩ else ⟨s.i,s.j+W.used s R,x.1,x.2⟩):=by
 unfold Wd.mv at h;split at h
 ·cases h
 ·rename_i M;rw[B4] at h;obtain⟨x,J,I⟩:=h;injection I with h1 h2
  exact⟨h1.symm,M,x,J,h2.symm⟩
theorem YX:(W.left s=true->s.i<=W.l.length->s.i+W.used s R<=W.l.length)/\(W.left s=false->s.j<=W.m.length->s.j+W.used s R<=W.m.length):=by
 unfold Wd.used;constructor
 ·intro h hi;rw[if_pos h];split
  ·have:=qE (l:=W.l.drop s.i) (t:=R.f);rw[k6] at this;omega
  ·omega
 ·intro h I;rw[if_neg (by rw[h];decide)];split
  ·have:=qE (l:=W.m.drop s.j) (t:=R.f);rw[k6] at this;omega
  ·omega
theorem PH {x:Bs × Bool} {tw:Bs} (h:W.ah s tw=some x):x.2=true->x.1≠[]:=by
 unfold Wd.ah at h;split at h
 ·rename_i h1;injection h with h;subst h;exact fun _=>h1.2
 ·split at h
  ·injection h with h;subst h;intro h2;simp at h2;simpa using h2.2
  ·cases h
theorem PQ (hs:W.ok s) (h:W.mv s R=some (c,s')):W.ok s'/\W.il s'<W.il s:=by
 obtain⟨-,hu,x,hx,rfl⟩:=rE h;obtain⟨h1,M,h3⟩:=hs;have I:=YX (W:=W) (s:=s) (R:=R);cases hl:W.left s with
 | true=>
  have J:=I.1 hl h1;simp only[if_true];exact⟨⟨J,M,PH hx⟩,by show(W.l.length-(s.i+W.used s R))+(W.m.length-s.j)<(W.l.length-s.i)+(W.m.length-s.j);omega⟩
 | false=>
  have J:=I.2 hl M;simp only[kO,if_false];exact⟨⟨h1,J,PH hx⟩,by show(W.l.length-s.i)+(W.m.length-(s.j+W.used s R))<(W.l.length-s.i)+(W.m.length-s.j);omega⟩
theorem kK (h:(c,s') ∈ W.moves s):∃ R ∈ W.rs,W.mv s R=some (c,s'):=by
 unfold Wd.moves at h;exact List.mem_filterMap.1 h
theorem fI (hs:W.ok s) (h:(c,s') ∈ W.moves s):W.ok s'/\W.il s'<W.il s:=by
 obtain⟨R,_,hm⟩:=kK h;exact PQ hs hm
inductive Bh (W:Wd) (s:St):St->Prop
 | refl:Bh W s s
 | step {s' s'':St} {c:Int} (h:Bh W s s') (hm:(c,s'') ∈ W.moves s'):Bh W s s''
theorem Bh.ok (hs:W.ok s) (h:Bh W s s'):W.ok s':=by
 induction h with
 | refl=>exact hs
 | step _ hm ih=>exact(fI ih hm).1
theorem Bh.trans {a b c:St} (h:Bh W a b) (h2:Bh W b c):Bh W a c:=by
 induction h2 with
 | refl=>exact h
 | step _ hm ih=>exact .step ih hm
inductive Pa (W:Wd):St->Int->St->Prop
 | nil (s:St):Pa W s 0 s
 | cons {s s' t:St} {c d:Int} (hm:(c,s') ∈ W.moves s) (h:Pa W s' d t):Pa W s (c+d) t
def never:Int:=1099511627776
def Wd.dn (W:Wd):Nat->St->Int
 | 0,s=>if s=W.fin then 0 else never
 | n+1,s=>(W.moves s).foldl (fun h x=>min h (x.1+W.dn n x.2)) (if s=W.fin then 0 else never)
def Wd.fi (W:Wd) (s:St):Int:=W.dn (W.il s) s
theorem Ht {α:Type} (f:α->Int):∀ (l:List α) (h:Int),l.foldl (fun h x=>min h (f x)) h<=h/\∀ x ∈ l,l.foldl (fun h x=>min h (f x)) h<=f x:=by
 intro l
 induction l with
 | nil=>intro h;exact⟨ly _,fun x I=>by cases I⟩
 | cons y l ih=>
  intro h;obtain⟨J,M⟩:=ih (min h (f y));rw[vn];refine⟨AG J (Int.min_le_left ..),fun x I=>?_⟩;rcases List.mem_cons.1 I with rfl|I
  ·exact AG J (IP ..)
  ·exact M x I
theorem fold_eq {α:Type} (f:α->Int):∀ (l:List α) (h:Int),l.foldl (fun h x=>min h (f x)) h=h\/∃ x ∈ l,l.foldl (fun h x=>min h (f x)) h=f x:=by
 intro l
 induction l with
 | nil=>intro h;exact .inl rfl
 | cons y l ih=>
  intro h;rw[vn];rcases ih (min h (f y)) with h1|⟨x,hx,h1⟩
  ·rw[h1];rcases Ln h (f y) with h2|h2
   ·exact .inl (Int.min_eq_left h2)
   ·exact .inr ⟨y,mz ..,Int.min_eq_right h2⟩
  ·exact .inr ⟨x,pP _ hx,h1⟩
theorem fold_congr {α:Type} (f g:α->Int):∀ (l:List α) (h:Int),(∀ x ∈ l,f x=g x)->l.foldl (fun h x=>min h (f x)) h=l.foldl (fun h x=>min h (g x)) h:=by
 intro l
 induction l with
 | nil=>intro h _;rfl
 | cons y l ih=>
  intro h he;rw[vn,vn,he y (mz ..)];exact ih _ (fun x hx=>he x (pP _ hx))
theorem E8:∀ (n m:Nat) (s:St),W.ok s->W.il s<=n->W.il s<=m->W.dn n s=W.dn m s:=by
 intro n
 induction n with
 | zero=>
  intro m s I hn hm;cases m with
  | zero=>rfl
  | succ m=>
   have:W.moves s=[]:=by
    cases h:W.moves s with
    | nil=>rfl
    | cons x l=>
     have:=(fI (c:=x.1) (s':=x.2) I (by rw[h];exact mz ..)).2;omega
   unfold Wd.dn;rw[this];rfl
 | succ n ih=>
  intro m s I hn hm;cases m with
  | zero=>
   have:W.moves s=[]:=by
    cases h:W.moves s with
    | nil=>rfl
    | cons x l=>
     have:=(fI (c:=x.1) (s':=x.2) I (by rw[h];exact mz ..)).2;omega
   unfold Wd.dn;rw[this];rfl
  | succ m=>
   unfold Wd.dn;refine fold_congr _ _ _ _ (fun x J=>?_);have:=fI (c:=x.1) (s':=x.2) I J;rw[ih m x.2 this.1 eL eL]
theorem mO (I:W.ok s):W.fi s=(W.moves s).foldl (fun h x=>min h (x.1+W.fi x.2)) (if s=W.fin then 0 else never):=by
 unfold Wd.fi;rw[E8 (W.il s) (W.il s+1) s I (fy _) eL]
 show List.foldl (fun h x=>min h (x.1+W.dn (W.il s) x.2)) (if s=W.fin then 0 else never) (W.moves s)=_
 refine fold_congr _ _ _ _ (fun x J=>?_);have:=fI (c:=x.1) (s':=x.2) I J;rw[E8 (W.il s) (W.il x.2) x.2 this.1 eL eL]
theorem zw (hs:W.ok s) (h:(c,s') ∈ W.moves s):W.fi s<=c+W.fi s':=by
 rw[mO hs];exact(Ht (fun x:Int × St=>x.1+W.fi x.2) (W.moves s) _).2 (c,s') h
theorem lV (hs:W.ok s):W.fi s<=never:=by
 rw[mO hs];refine AG (Ht (fun x:Int × St=>x.1+W.fi x.2) (W.moves s) _).1 ?_;split
 ·decide
 ·exact ly _
theorem Rp (h:W.rs.all (fun R=>decide (R.f≠[]))=true):W.moves W.fin=[]:=by
 unfold Wd.moves;rw[List.filterMap_eq_nil_iff];intro R I;have M:R.f≠[]:=by simpa using List.all_eq_true.1 h R I
 have J:W.left W.fin=false:=by simp[Wd.left,Wd.fin]
 unfold Wd.mv;rw[if_pos];unfold Wd.used;rw[if_neg (by rw[J];decide)];split
 ·rw[show W.fin.j=W.m.length from rfl,ui];cases hb:R.f with
  | nil=>exact absurd hb M
  | cons b f=>rfl
 ·rfl
def Wd.good (W:Wd):Prop:=∀ R ∈ W.rs,0<=R.c/\R.c<=1000/\R.f≠[]
theorem iD (hg:W.good) (h:(c,s') ∈ W.moves s):0<=c/\c<=1000:=by
 obtain⟨R,hR,hm⟩:=kK h;obtain⟨rfl,_⟩:=rE hm;exact⟨(hg R hR).1,(hg R hR).2.1⟩
theorem Uo (J:W.good):∀ (n:Nat) (s:St),W.ok s->W.il s<=n->0<=W.fi s:=by
 intro n
 induction n with
 | zero=>
  intro s I hn;rw[mO I];rcases fold_eq (fun x:Int × St=>x.1+W.fi x.2) (W.moves s) (if s=W.fin then 0 else never) with h|⟨x,hx,_⟩
  ·rw[h];split<;>decide
  ·have:=(fI (c:=x.1) (s':=x.2) I hx).2;omega
 | succ n ih=>
  intro s I hn;rw[mO I];rcases fold_eq (fun x:Int × St=>x.1+W.fi x.2) (W.moves s) (if s=W.fin then 0 else never) with h|⟨x,hx,h⟩
  ·rw[h];split<;>decide
  ·rw[h];have M:=fI (c:=x.1) (s':=x.2) I hx;have h2:=ih x.2 M.1 eL;have h3:=(iD (c:=x.1) (s':=x.2) J hx).1
   show 0<=x.1+W.fi x.2
   omega
theorem gL (hg:W.good) (hs:W.ok s):0<=W.fi s:=Uo hg _ s hs (fy _)
theorem xu (hg:W.good):W.fi W.fin=0:=by
 have hok:W.ok W.fin:=⟨fy _,fy _,fun h=>by cases h⟩;rw[mO hok,Rp (List.all_eq_true.2 fun R hR=>by simpa using (hg R hR).2.2)];simp
theorem qF (hg:W.good) (hl:W.l.length+W.m.length<=1000):∀ (n:Nat) (s:St),W.ok s->W.il s<=n->(Pa W s (W.fi s) W.fin/\W.fi s<=1000*W.il s)\/W.fi s=never/\∀ c,¬ Pa W s c W.fin:=by
 intro n
 induction n with
 | zero=>
  intro s M hn;have hm:W.moves s=[]:=by
   cases h:W.moves s with
   | nil=>rfl
   | cons x l=>
    have:=(fI (c:=x.1) (s':=x.2) M (by rw[h];exact mz ..)).2;omega
  by_cases J:s=W.fin
  ·refine .inl ?_;have e:W.fi s=0:=by rw[J];exact xu hg
   rw[e];exact⟨J ▸ Pa.nil s,by omega⟩
  ·refine .inr ⟨by rw[mO M,hm];simp[J],fun c hp=>?_⟩;cases hp with
   | nil=>exact J rfl
   | cons hm2 _=>rw[hm] at hm2;cases hm2
 | succ n ih=>
  intro s M hn;by_cases I:W.fi s=never
  ·refine .inr ⟨I,fun c hp=>?_⟩;cases hp with
   | nil=>rw[xu hg] at I;exact absurd I eS
   | cons hm2 hp2=>
    rename_i s' c' d';have h1:=fI M hm2;rcases ih _ h1.1 eL with⟨_,hb⟩|⟨_,h2⟩
    ·have h3:=zw M hm2;have h4:=(iD hg hm2).2;have h5:W.il s<=1000:=by unfold Wd.il;omega
     rw[I] at h3;unfold never at h3;omega
    ·exact h2 _ hp2
  ·have he:=mO M;rcases fold_eq (fun x:Int × St=>x.1+W.fi x.2) (W.moves s) (if s=W.fin then 0 else never) with h|⟨x,hx,h⟩
   ·rw[h] at he;by_cases J:s=W.fin
    ·rw[if_pos J] at he;refine .inl ?_;rw[he];exact⟨J ▸ Pa.nil s,by omega⟩
    ·rw[if_neg J] at he;exact absurd he I
   ·rw[h] at he;have h1:=fI (c:=x.1) (s':=x.2) M hx;have hc:=iD (c:=x.1) (s':=x.2) hg hx;rcases ih x.2 h1.1 eL with⟨hp,hb⟩|⟨h2,_⟩
    ·refine .inl ?_;rw[he];exact⟨.cons (c:=x.1) (s':=x.2) hx hp,by show x.1+W.fi x.2<=_;omega⟩
    ·exfalso;have h3:=lV M;have aa:W.fi s=x.1+W.fi x.2:=he;rw[h2] at aa;omega
structure Pt where
 i:Int
 j:Int
 a:Bs
 r:Bool
 h:Int
deriving DecidableEq
def Pt.st (p:Pt):St:=⟨p.i.toNat,p.j.toNat,p.a,p.r⟩
def Bz (p q:Pt):Prop:=p.i<q.i\/p.i=q.i/\(p.j<q.j\/p.j=q.j/\(p.a<q.a\/p.a=q.a/\p.r=false/\q.r=true))
instance (p q:Pt):Decidable (Bz p q):=by unfold Bz;infer_instance
theorem uP (a:Bs):¬ a<a:=List.lt_irrefl a
theorem Fa {a b c:Bs} (h:a<b) (h2:b<c):a<c:=List.lt_trans h h2
theorem YZ (a b:Bs):a<b\/a=b\/b<a:=by
 rcases Classical.em (a<b) with h|h
 ·exact .inl h
 ·rcases Classical.em (b<a) with h2|h2
  ·exact .inr (.inr h2)
  ·exact .inr (.inl (List.le_antisymm (List.not_lt.1 h2) (List.not_lt.1 h)))
theorem Y0 (p:Pt):¬ Bz p p:=by
 rintro (h|⟨-,h|⟨-,h|⟨-,h1,h2⟩⟩⟩)
 ·omega
 ·omega
 ·exact uP _ h
 ·rw[h1] at h2;cases h2
theorem zB {p q r:Pt} (h:Bz p q) (I:Bz q r):Bz p r:=by
 unfold Bz at *
 rcases h with h|⟨e1,h⟩
 ·rcases I with I|⟨e2,I⟩<;>exact .inl eL
 ·rcases I with I|⟨e2,I⟩
  ·exact .inl eL
  ·refine .inr ⟨by omega,?_⟩;rcases h with h|⟨e3,h⟩
   ·rcases I with I|⟨e4,I⟩<;>exact .inl eL
   ·rcases I with I|⟨e4,I⟩
    ·exact .inl eL
    ·refine .inr ⟨by omega,?_⟩;rcases h with h|⟨e5,h,h'⟩
     ·rcases I with I|⟨e6,I,h2'⟩
      ·exact .inl (Fa h I)
      ·exact .inl (e6 ▸ h)
     ·rcases I with I|⟨e6,I,h2'⟩
      ·exact .inl (e5 ▸ I)
      ·rw[h'] at I;cases I
theorem O6 (p q:Pt):Bz p q\/(p.i=q.i/\p.j=q.j/\p.a=q.a/\p.r=q.r)\/Bz q p:=by
 unfold Bz;rcases Int.lt_trichotomy p.i q.i with h|h|h
 ·exact .inl (.inl h)
 ·rcases Int.lt_trichotomy p.j q.j with h2|h2|h2
  ·exact .inl (.inr ⟨h,.inl h2⟩)
  ·rcases YZ p.a q.a with h3|h3|h3
   ·exact .inl (.inr ⟨h,.inr ⟨h2,.inl h3⟩⟩)
   ·cases I:p.r<;>cases J:q.r
    ·exact .inr (.inl ⟨h,h2,h3,rfl⟩)
    ·exact .inl (.inr ⟨h,.inr ⟨h2,.inr ⟨h3,rfl,rfl⟩⟩⟩)
    ·exact .inr (.inr (.inr ⟨h.symm,.inr ⟨h2.symm,.inr ⟨h3.symm,rfl,rfl⟩⟩⟩))
    ·exact .inr (.inl ⟨h,h2,h3,rfl⟩)
   ·exact .inr (.inr (.inr ⟨h.symm,.inr ⟨h2.symm,.inl h3⟩⟩))
  ·exact .inr (.inr (.inr ⟨h.symm,.inl h2⟩))
 ·exact .inr (.inr (.inl h))
def jY (c:UInt8):Bool:=decide (97<=c)&&decide (c<=122)
def proper (W:Wd) (bound:Int) (p:Pt):Bool:=
 decide (0<=p.i)&&decide (p.i<=W.l.length)&&decide (0<=p.j)&&decide (p.j<=W.m.length)&&decide (p.a.length<=3)&&p.a.all jY&&(!p.r||decide (p.a≠[]))&&decide (p.st≠W.fin)&&decide (0<p.h)&&decide (p.h<=min bound 100000)
variable {bound:Int}{t:St}
theorem lW {W:Wd}  {p:Pt}:proper W bound p=true↔(0<=p.i/\p.i<=W.l.length)/\(0<=p.j/\p.j<=W.m.length)/\(p.a.length<=3/\p.a.all jY=true)/\(p.r=true->p.a≠[])/\p.st≠W.fin/\0<p.h/\p.h<=bound/\p.h<=100000:=by
 unfold proper;simp only[gA,tf,decide_eq_true_eq,tc];constructor
 ·rintro⟨⟨⟨⟨⟨⟨⟨⟨⟨h1,M⟩,h3⟩,h4⟩,J⟩,h6⟩,I⟩,h8⟩,h9⟩,aa⟩;refine⟨⟨h1,M⟩,⟨h3,h4⟩,⟨J,h6⟩,fun hr=>?_,h8,h9,by omega,by omega⟩;rcases I with I|I
  ·rw[hr] at I;cases I
  ·exact I
 ·rintro⟨⟨h1,M⟩,⟨h3,h4⟩,⟨J,h6⟩,I,h8,h9,aa,ab⟩;refine⟨⟨⟨⟨⟨⟨⟨⟨⟨h1,M⟩,h3⟩,h4⟩,J⟩,h6⟩,?_⟩,h8⟩,h9⟩,by omega⟩;cases hr:p.r with
  | false=>exact .inl rfl
  | true=>exact .inr (I hr)
def ju (C:List Pt) (s:St):Int:=match C.find? (fun p=>decide (p.st=s)) with|some p=>p.h|none=>0
def steps (W:Wd) (C:List Pt) (p:Pt):Bool:=(W.moves p.st).all fun x=>decide (p.h<=x.1+ju C x.2)
def Holds (W:Wd) (bound:Int) (C:List Pt):Prop:=
 (∀ p ∈ C,proper W bound p=true)/\C.Pairwise Bz/\(∀ p ∈ C,steps W C p=true)/\bound<=ju C gC
section
variable {W:Wd} {C:List Pt} {s:St} {bound c:Int}
theorem V1 {p q:Pt} (hp:0<=p.i/\0<=p.j) (hq:0<=q.i/\0<=q.j) (h:p.st=q.st):p.i=q.i/\p.j=q.j/\p.a=q.a/\p.r=q.r:=by
 unfold Pt.st at h;injection h with h1 h2 h3 h4
 exact⟨by omega,by omega,h3,h4⟩
theorem zC (C:List Pt) (s:St):(∃ p ∈ C,p.st=s/\ju C s=p.h)\/((∀ p ∈ C,p.st≠s)/\ju C s=0):=by
 unfold ju;cases hf:C.find? (fun q=>decide (q.st=s)) with
 | none=>
  rw[Cp] at hf;exact .inr ⟨fun p hp=>by simpa using hf p hp,rfl⟩
 | some q=>exact .inl ⟨q,s7 hf,by simpa using z6 hf,rfl⟩
theorem Holds.pos (h:Holds W bound C):∀ p ∈ C,0<=p.i/\0<=p.j:=fun p hp=>by
 have:=lW.1 (h.1 p hp);exact⟨this.1.1,this.2.1.1⟩
theorem JD (hg:W.good)  (hp:Pa W s c t):0<=c:=by
 induction hp with
 | nil=>exact ly _
 | cons hm3 _ ih3=>have:=(iD hg hm3).1;omega
theorem Rq (h:Holds W bound C) (M:W.good)  (I:Pa W s c t) (ht:t=W.fin):ju C s<=c:=by
 induction I with
 | nil s=>
  subst ht;rcases zC C W.fin with⟨p,I,e,_⟩|⟨_,e⟩
  ·exact absurd e (lW.1 (h.1 p I)).2.2.2.2.1
  ·rw[e];exact ly _
 | cons hm hp2 ih=>
  rename_i s s' t c d;have ih:=ih ht;have hd:0<=d:=JD M hp2;rcases zC C s with⟨p,I,rfl,e⟩|⟨_,e⟩
  ·have J:=h.2.2.1 p I;unfold steps at J;rw[j8] at J;have h2:=J _ hm;simp only[decide_eq_true_eq] at h2;rw[e];omega
  ·rw[e];have:=(iD M hm).1;omega
theorem Cr (h:Holds W bound C) (hg:W.good) (hp:Pa W gC c W.fin):bound<=c:=AG h.2.2.2 (Rq h hg hp rfl)
end
structure vW (W:Wd) (bound:Int) (C:List Pt):Prop where
 ord:C.Pairwise Bz
 mem:∀ p,p ∈ C↔(0<=p.i/\0<=p.j)/\Bh W gC p.st/\p.h=min (W.fi p.st) bound/\0<p.h
section
variable {W:Wd} {C C':List Pt} {s s':St} {bound c:Int}
def Wd.pJ (W:Wd):Prop:=∀ R ∈ W.rs,R.t.length<=3/\R.t.all jY=true
theorem zD (ht:W.pJ) (h:Bh W gC s):s.a.length<=3/\s.a.all jY=true:=by
 induction h with
 | refl=>exact⟨fw _,rfl⟩
 | step _ hm ih=>
  obtain⟨R,hR,hm⟩:=kK hm;obtain⟨-,-,x,I,rfl⟩:=rE hm;have M:=ht R hR;have key:x.1.length<=3/\x.1.all jY=true:=by
   unfold Wd.ah at I;split at I
   ·injection I with I;subst I
    exact⟨by rw[k6];omega,by rw[j8] at ih ⊢;exact fun y J=>ih.2 y (zd J)⟩
   ·split at I
    ·injection I with I;subst I
     exact⟨by rw[k6];omega,by rw[j8] at M ⊢;exact fun y J=>M.2 y (zd J)⟩
    ·cases I
  split<;>exact key
theorem JE (I:vW W bound C) (J:W.good) (hb:0<=bound) (h:Bh W gC s):ju C s=min (W.fi s) bound:=by
 have hd:=gL J (h.ok oA);rcases zC C s with⟨p,hp,rfl,e⟩|⟨hn,e⟩
 ·rw[e];exact((I.mem p).1 hp).2.2.1
 ·rw[e];by_cases M:0<min (W.fi s) bound
  ·exfalso;refine hn ⟨s.i,s.j,s.a,s.r,min (W.fi s) bound⟩ ((I.mem _).2 ⟨⟨by show(0:Int)<=s.i;omega,by show(0:Int)<=s.j;omega⟩,?_,?_,M⟩) ?_
   ·exact h
   ·rfl
   ·rfl
  ·omega
theorem cert_holds (h:vW W bound C) (J:W.good) (ht:W.pJ) (hb:0<=bound) (gE:bound<=100000) (hd:bound<=W.fi gC):Holds W bound C:=by
 refine⟨fun p hp=>?_,h.ord,fun p hp=>?_,?_⟩
 ·obtain⟨M,I,h2,h3⟩:=(h.mem p).1 hp;have aa:=I.ok oA;obtain⟨o1,o2,o3⟩:=aa;have ha:=zD ht I;refine lW.2 ⟨⟨M.1,?_⟩,⟨M.2,?_⟩,ha,o3,fun e=>?_,h3,by omega,by omega⟩
  ·have:p.i.toNat<=W.l.length:=o1;omega
  ·have:p.j.toNat<=W.m.length:=o2;omega
  ·rw[e,xu J] at h2;omega
 ·obtain⟨M,I,h2,h3⟩:=(h.mem p).1 hp;unfold steps;rw[j8];rintro⟨c,s'⟩ hx;simp only[decide_eq_true_eq];rw[JE h J hb (.step I hx),h2];have h4:=zw (I.ok oA) hx;have h5:=(iD J hx).1;omega
 ·rw[JE h J hb .refl];omega
theorem Fb (hc:vW W 0 C):C=[]:=by
 cases C with
 | nil=>rfl
 | cons p C=>
  obtain⟨h1,h2,h3,h4⟩:=(hc.mem p).1 (mz ..);omega
end
inductive Wr (k:Int) (rs:List ik):List Bs->List ik->Bs->Int->Prop
 | nil:Wr k rs [] [] [] 0
 | cons {l:List Bs} {R:ik} {L:List ik} {F:Bs} {c:Int} (hR:R ∈ rs) (hk:R.k=k) (hn:takes l R.f≠0) (h:Wr k rs (l.drop (takes l R.f)) L F c):Wr k rs l (R::L) (R.t++F) (R.c+c)
def Y3 (W:Wd) (s:St) (c:Int):Prop:=
 ∃ L M F G c1 c2,Wr W.ka W.rs (W.l.drop s.i) L F c1/\Wr W.kb W.rs (W.m.drop s.j) M G c2/\c=c1+c2/\(if s.r then F=s.a++G else s.a++F=G)
section
variable {W:Wd} {s s':St} {c d:Int}
variable {I:Bs}{k:Int}{i:Nat}
theorem Uq  {x:Bs × Bool} (h:W.ah s I=some x):(s.a=I++x.1/\x.1≠[]/\x.2=s.r)\/(I=s.a++x.1/\x.2=(!W.left s&&decide (x.1≠[]))):=by
 unfold Wd.ah at h;split at h
 ·rename_i J;injection h with h;subst h
  obtain⟨r,M⟩:=jL.1 J.1;refine .inl ⟨?_,J.2,rfl⟩
  show s.a=I++s.a.drop I.length
  rw[M,ry]
 ·split at h
  ·rename_i J h2;injection h with h;subst h
   obtain⟨r,M⟩:=jL.1 h2;refine .inr ⟨?_,rfl⟩
   show I=s.a++I.drop s.a.length
   rw[M,ry]
  ·cases h
theorem mX:W.left s=true↔s.r=true\/(s.a=[]/\s.i≠W.l.length):=by
 unfold Wd.left;simp
theorem Ur (h:Pa W s c W.fin):Y3 W s c:=by
 generalize ht:W.fin=t at h
 induction h with
 | nil s=>
  subst ht;refine⟨[],[],[],[],0,0,?_,?_,rfl,rfl⟩
  ·rw[show W.fin.i=W.l.length from rfl,ui];exact .nil
  ·rw[show W.fin.j=W.m.length from rfl,ui];exact .nil
 | cons hm _ ih=>
  rename_i s s' t c d _;obtain⟨L,M,F,G,c1,c2,h1,h2,rfl,I⟩:=ih ht;obtain⟨R,hR,hm⟩:=kK hm;obtain⟨rfl,J,x,hx,rfl⟩:=rE hm;have aa:=Uq hx;cases hl:W.left s with
  | true=>
   rw[hl] at h1 h2 I aa;simp only[if_true] at h1 h2 I;have hk:R.k=W.ka/\W.used s R=takes (W.l.drop s.i) R.f:=by
    unfold Wd.used at J ⊢;rw[if_pos hl] at J ⊢;split at J
    ·rename_i hk;exact⟨hk,by rw[if_pos hk]⟩
    ·exact absurd rfl J
   rw[hk.2] at h1 J;refine⟨R::L,M,R.t++F,G,R.c+c1,c2,.cons hR hk.1 J (by rw[uA];exact h1),h2,by omega,?_⟩;have ac:=mX.1 hl;rcases aa with⟨e1,e2,e3⟩|⟨e1,e3⟩
   ·cases hr:s.r with
    | true=>
     rw[e3,hr] at I;simp only[if_true] at I ⊢;rw[I,e1,l3]
    | false=>
     rcases ac with h|⟨h,_⟩
     ·rw[hr] at h;cases h
     ·rw[h] at e1;exact absurd (List.append_eq_nil_iff.1 e1.symm).2 e2
   ·simp only[ma,pZ] at e3;rw[e3] at I;simp only[kO,if_false] at I;cases hr:s.r with
    | true=>
     simp only[if_true];rw[e1,<-I,l3]
    | false=>
     rcases ac with h|⟨h,_⟩
     ·rw[hr] at h;cases h
     ·simp only[kO,if_false];rw[h] at e1 ⊢;rw[e1,<-I];simp
  | false=>
   rw[hl] at h1 h2 I aa;simp only[kO,if_false] at h1 h2 I;have hk:R.k=W.kb/\W.used s R=takes (W.m.drop s.j) R.f:=by
    unfold Wd.used at J ⊢;rw[if_neg (by rw[hl];decide)] at J ⊢;split at J
    ·rename_i hk;exact⟨hk,by rw[if_pos hk]⟩
    ·exact absurd rfl J
   rw[hk.2] at h2 J;have hr:s.r=false:=by
    cases hr:s.r with
    | false=>rfl
    | true=>rw[mX.2 (.inl hr)] at hl;cases hl
   refine⟨L,R::M,F,R.t++G,c1,R.c+c2,h1,.cons hR hk.1 J (by rw[uA];exact h2),by omega,?_⟩;rw[hr];simp only[kO,if_false];rcases aa with⟨e1,e2,e3⟩|⟨e1,e3⟩
   ·rw[e3,hr] at I;simp only[kO,if_false] at I;rw[e1,<-I,l3]
   ·simp only[mT,lx] at e3;by_cases ab:x.1=[]
    ·rw[e3,ab] at I;simp only[ne_eq,not_true_eq_false,decide_false,kO,if_false,l4] at I;rw[e1,ab,I];simp
    ·rw[e3] at I;simp only[ne_eq,ab,not_false_eq_true,decide_true,if_true] at I;rw[e1,I,l3]
theorem M5  {rs:List ik} {L:List ik} {F:Bs} (h:Wr k rs [] L F c):L=[]/\F=[]/\c=0:=by
 cases h with
 | nil=>exact⟨rfl,rfl,rfl⟩
 | cons _ _ hn _=>exact absurd (Nat.le_zero.1 (qE (l:=([]:List Bs)))) hn
theorem JG {l:List Bs}  (h:l.drop i=[]) (hi:i<=l.length):i=l.length:=by
 have:=congrArg List.length h;rw[k6,lA] at this;omega
theorem JH {tw a':Bs} (h:s.a=tw++a') (h0:a'≠[]):W.ah s tw=some (a',s.r):=by
 unfold Wd.ah;have e:s.a.drop tw.length=a':=by rw[h,ry]
 rw[if_pos ⟨jL.2 ⟨a',h⟩,by rw[e];exact h0⟩,e]
theorem qG {c':Bs} (h:I=s.a++c'):W.ah s I=some (c',!W.left s&&decide (c'≠[])):=by
 unfold Wd.ah;have e:I.drop s.a.length=c':=by rw[h,ry]
 rw[if_neg,if_pos (jL.2 ⟨c',h⟩),e];rintro⟨h1,J⟩;obtain⟨r,M⟩:=jL.1 h1;rw[M,ry] at J;rw[M] at h;have:=congrArg List.length h;simp only[gd] at this;exact J (sC eL)
theorem BA {R:ik} (h:W.left s=true) (J:R.k=W.ka) (hn:takes (W.l.drop s.i) R.f≠0) {x:Bs × Bool} (I:W.ah s R.t=some x) :
  W.mv s R=some (R.c,⟨s.i+takes (W.l.drop s.i) R.f,s.j,x.1,x.2⟩):=by
 have M:W.used s R=takes (W.l.drop s.i) R.f:=by unfold Wd.used;rw[if_pos h,if_pos J]
 unfold Wd.mv;rw[M,if_neg hn,I,h];rfl
theorem Cu {R:ik} (h:W.left s=false) (J:R.k=W.kb) (hn:takes (W.m.drop s.j) R.f≠0) {x:Bs × Bool} (I:W.ah s R.t=some x) :
  W.mv s R=some (R.c,⟨s.i,s.j+takes (W.m.drop s.j) R.f,x.1,x.2⟩):=by
 have M:W.used s R=takes (W.m.drop s.j) R.f:=by unfold Wd.used;rw[if_neg (by rw[h];decide),if_pos J]
 unfold Wd.mv;rw[M,if_neg hn,I,h];rfl
theorem M6:∀ (n:Nat) (s:St) (c:Int),W.ok s->W.il s<=n->Y3 W s c->Pa W s c W.fin:=by
 intro n
 induction n with
 | zero=>
  rintro s c ⟨o1,o2,o3⟩ hn ⟨L,M,F,G,c1,c2,h1,h2,rfl,h3⟩;unfold Wd.il at hn;have J:s.i=W.l.length:=by omega
  have e2:s.j=W.m.length:=by omega
  rw[J,ui] at h1;rw[e2,ui] at h2;obtain⟨-,rfl,rfl⟩:=M5 h1;obtain⟨-,rfl,rfl⟩:=M5 h2;have I:s.r=false:=by
   cases I:s.r with
   | false=>rfl
   | true=>rw[I] at h3;simp at h3;exact absurd h3 (o3 I)
  rw[I] at h3;simp at h3;have:s=W.fin:=by
   obtain⟨i,j,a,r⟩:=s;simp only at J e2 h3 I;rw[J,e2,h3,I];rfl
  rw[this];exact .nil _
 | succ n ih=>
  rintro s c ⟨o1,o2,o3⟩ hn ⟨L,M,F,G,c1,c2,h1,h2,rfl,h3⟩;have go:∀ {R:ik} {s':St} {d:Int},R ∈ W.rs->W.mv s R=some (R.c,s')->Y3 W s' d->Pa W s (R.c+d) W.fin:=fun hR hm hd=>
   have ae:=PQ ⟨o1,o2,o3⟩ hm
   .cons (List.mem_filterMap.2 ⟨_,hR,hm⟩) (ih _ _ ae.1 eL hd)
  cases hl:W.left s with
  | true=>
   have ac:=mX.1 hl;generalize ad:W.l.drop s.i=dl at h1;cases h1 with
   | nil=>
    exfalso;have J:=JG ad o1;rcases ac with I|⟨_,h⟩
    ·rw[I] at h3;simp at h3;exact o3 I h3.1
    ·exact h J
   | cons hR hk hn2 hrest=>
    rename_i R L' F' c';subst ad;rw[uA] at hrest;have:R.c+c'+c2=R.c+(c'+c2):=by omega
    rw[this];cases I:s.r with
    | true=>
     rw[I] at h3;simp only[if_true] at h3;rcases List.append_eq_append_iff.1 h3 with⟨aa,J,e2⟩|⟨aa,J,e2⟩
     ·by_cases h0:aa=[]
      ·subst h0;rw[mS] at J;rw[l4] at e2;refine go hR (BA hl hk hn2 (qG (c':=[]) (by rw[J,mS]))) ⟨L',M,F',G,c',c2,hrest,h2,rfl,?_⟩;simp[hl,e2]
      ·refine go hR (BA hl hk hn2 (JH J h0)) ⟨L',M,F',G,c',c2,hrest,h2,rfl,?_⟩;rw[I];exact e2
     ·refine go hR (BA hl hk hn2 (qG J)) ⟨L',M,F',G,c',c2,hrest,h2,rfl,?_⟩;simp[hl,e2]
    | false=>
     rcases ac with h|⟨h,_⟩
     ·rw[I] at h;cases h
     ·rw[I,h] at h3;simp only[kO,if_false,l4] at h3;refine go hR (BA hl hk hn2 (qG (c':=R.t) (by rw[h];rfl))) ⟨L',M,F',G,c',c2,hrest,h2,rfl,?_⟩;simp[hl,h3]
  | false=>
   have I:s.r=false:=by
    cases I:s.r with
    | false=>rfl
    | true=>rw[mX.2 (.inl I)] at hl;cases hl
   rw[I] at h3;simp only[kO,if_false] at h3;generalize ab:W.m.drop s.j=dm at h2;cases h2 with
   | nil=>
    have e2:=JG ab o2;obtain⟨ha,hF⟩:=List.append_eq_nil_iff.1 h3;have J:s.i=W.l.length:=E4 fun h=>by rw[mX.2 (.inr ⟨ha,h⟩)] at hl;cases hl
    rw[J,ui] at h1;obtain⟨-,-,rfl⟩:=M5 h1;have:s=W.fin:=by
     obtain⟨i,j,a,r⟩:=s;simp only at J e2 ha I;rw[J,e2,ha,I];rfl
    rw[this];exact .nil _
   | cons hR hk hn2 hrest=>
    rename_i R M' G' c';subst ab;rw[uA] at hrest;have:c1+(R.c+c')=R.c+(c1+c'):=by omega
    rw[this];rcases List.append_eq_append_iff.1 h3 with⟨aa,J,e2⟩|⟨aa,J,e2⟩
    ·refine go hR (Cu hl hk hn2 (qG J)) ⟨L,M',F,G',c1,c',h1,hrest,rfl,?_⟩;by_cases h0:aa=[]
     ·subst h0;simp[hl];simpa using e2
     ·simp[hl,h0,e2]
    ·by_cases h0:aa=[]
     ·subst h0;rw[mS] at J;rw[l4] at e2;refine go hR (Cu hl hk hn2 (qG (c':=[]) (by rw[J,mS]))) ⟨L,M',F,G',c1,c',h1,hrest,rfl,?_⟩;simp[hl,e2]
     ·refine go hR (Cu hl hk hn2 (JH J h0)) ⟨L,M',F,G',c1,c',h1,hrest,rfl,?_⟩;rw[I];simp[e2]
theorem oH (hs:W.ok s):Pa W s c W.fin↔Y3 W s c:=⟨Ur,M6 _ s c hs (fy _)⟩
def Wd.swap (W:Wd):Wd:=⟨W.kb,W.ka,W.m,W.l,W.rs⟩
def Wd.rest (W:Wd) (i j:Nat):Wd:=⟨W.ka,W.kb,W.l.drop i,W.m.drop j,W.rs⟩
end
end Go.CH.dh
namespace Go.CH.bA
def sg:Nat->(Nat->Int)->Int
 | 0,_=>0
 | n+1,f=>sg n f+f n
section
variable {n m:Nat} {f g:Nat→Int}
theorem TR:sg 0 f=0:=rfl
theorem dI:sg (n+1) f=sg n f+f n:=rfl
theorem bJ (h:∀ i,i<n->f i=g i):sg n f=sg n g:=by
 induction n with
 | zero=>rfl
 | succ n ih=>rw[dI,dI,ih (fun i hi=>h i eL),h n eL]
theorem wU (h:∀ i,i<n->f i<=g i):sg n f<=sg n g:=by
 induction n with
 | zero=>exact ly _
 | succ n ih=>rw[dI,dI];have:=ih (fun i hi=>h i eL);have:=h n eL;omega
theorem rz (f g:Nat->Int):sg n (fun i=>f i+g i)=sg n f+sg n g:=by
 induction n with
 | zero=>rfl
 | succ n ih=>rw[dI,dI,dI,ih];omega
theorem GQ (f g:Nat->Int):sg n (fun i=>f i-g i)=sg n f-sg n g:=by
 induction n with
 | zero=>rfl
 | succ n ih=>rw[dI,dI,dI,ih];omega
theorem MK (n:Nat):sg n (fun _=>0)=0:=by
 induction n with
 | zero=>rfl
 | succ n ih=>rw[dI,ih];rfl
theorem qB (h:∀ i,i<n->0<=f i):0<=sg n f:=by have:=wU (f:=fun _=>0) h;rw[MK] at this;exact this
variable {k:Nat}
theorem Ce  (hk:k<n) (h:∀ i,i<n->i≠k->f i=g i):sg n f=sg n g+(f k-g k):=by
 induction n with
 | zero=>omega
 | succ n ih=>
  rw[dI,dI];by_cases e:k=n
  ·subst e;rw[bJ (g:=g) (fun i hi=>h i eL eL)];omega
  ·rw[ih eL (fun i hi hne=>h i eL hne),h n eL eL];omega
theorem TE  (hk:k<n):sg n (fun i=>if i=k then f i else 0)=f k:=by
 rw[Ce (g:=fun _=>0) hk (fun i _ hne=>by simp[hne]),MK];simp
theorem ML :sg (n+k) f=sg n f+sg k (fun i=>f (n+i)):=by
 induction k with
 | zero=>simp[sg]
 | succ k ih=>rw[<-vq,dI,dI,ih];omega
theorem Cg:sg (n+1) f=f 0+sg n (fun i=>f (i+1)):=by
 rw[vr,ML];simp only[dI,TR,AE];congr 1;exact bJ (fun i _=>by rw[vr])
end
structure bA (n m:Nat) (P:Nat->Nat):Prop where
 le:∀ i,i<n->P i<=m
 inj:∀ i j,i<n->j<n->P i=P j->P i<m->i=j
def used (P:Nat->Nat):Nat->Nat->Bool
 | 0,_=>false
 | n+1,j=>used P n j||P n==j
variable {P:Nat->Nat}{n j k s r i:Nat}{w:Nat->Nat->Int}{v0:Int}{U V:Nat->Int}
theorem mU  :used P n j=true↔∃ i,i<n/\P i=j:=by
 induction n with
 | zero=>simp[used]
 | succ n ih=>
  simp only[used,tf,beq_iff_eq,ih];constructor
  ·rintro (⟨i,J,I⟩|h)
   ·exact⟨i,by omega,I⟩
   ·exact⟨n,by omega,h⟩
  ·rintro⟨i,J,I⟩;by_cases e:i=n
   ·subst e;exact .inr I
   ·exact .inl ⟨i,by omega,I⟩
theorem mV  :used P n j=false↔∀ i,i<n->P i≠j:=by
 rw[<-CI,mU];exact⟨fun h i hi e=>h ⟨i,hi,e⟩,fun h ⟨i,hi,e⟩=>h i hi e⟩
section
variable {n m:Nat} {P Q:Nat→Nat}
theorem bA.low (h:bA n m P)  (hk:k<=n):bA k m P:=⟨fun i hi=>h.le i eL,fun i j hi hj=>h.inj i j eL eL⟩
theorem BB (h:bA n m P) (f:Nat->Int):sg n (fun i=>if P i<m then f (P i) else 0)=sg m (fun j=>if used P n j then f j else 0):=by
 induction n with
 | zero=>exact(MK m).symm
 | succ n ih=>
  rw[dI,ih (h.low eL)];by_cases I:P n<m
  ·rw[if_pos I];have M:used P n (P n)=false:=mV.2 fun i hi e=>by have:=h.inj i n eL eL e eL;omega
   rw[Ce (f:=fun j=>if used P (n+1) j then f j else 0) (g:=fun j=>if used P n j then f j else 0) I ?_]
   ·simp only[used,M,beq_self_eq_true,Bool.or_true];simp
   ·intro j _ J;have:(P n==j)=false:=by simp;omega
    simp only[used,this,GM]
  ·rw[if_neg I,AF];refine bJ fun j hj=>?_;have:(P n==j)=false:=by simp;omega
   simp only[used,this,GM]
end
def cost (c:Nat->Nat->Int) (d e:Nat->Int) (n m:Nat) (P:Nat->Nat):Int:=
 sg n (fun i=>if P i<m then c i (P i) else d i)+sg m (fun j=>if used P n j then 0 else e j)
def wt (c:Nat->Nat->Int) (d e:Nat->Int) (m:Nat) (i k:Nat):Int:=if k<m then c i k-e k else d i
def lj (w:Nat->Nat->Int) (n:Nat) (P:Nat->Nat):Int:=sg n (fun i=>w i (P i))
section
variable {n m:Nat} {P Q:Nat→Nat} {c:Nat→Nat→Int} {d e:Nat→Int}
theorem fV (h:bA n m P):cost c d e n m P=sg m e+lj (wt c d e m) n P:=by
 have J:=BB h e;have I:sg m (fun j=>if used P n j then 0 else e j)=sg m e-sg m (fun j=>if used P n j then e j else 0):=by
  rw[<-GQ];refine bJ fun j _=>?_;cases used P n j<;>simp
 have M:lj (wt c d e m) n P=sg n (fun i=>if P i<m then c i (P i) else d i)-sg n (fun i=>if P i<m then e (P i) else 0):=by
  unfold lj;rw[<-GQ];refine bJ fun i _=>?_;unfold wt;split<;>simp
 unfold cost;rw[I,M,J];omega
structure GU (c:Nat->Nat->Int) (d e:Nat->Int) (n m:Nat) (v:Int):Prop where
 has:∃ P,bA n m P/\cost c d e n m P=v
 low:∀ P,bA n m P->v<=cost c d e n m P
end
def pv (n m:Nat) (P Q:Nat->Nat) (s:Nat):Option Nat:=if Q s<m then(List.range n).find? (fun r=>P r==Q s) else none
def Q9 (n m:Nat) (P Q:Nat->Nat):Nat->Option Nat
 | 0=>some n
 | k+1=>(Q9 n m P Q k).bind (pv n m P Q)
section
variable {n m:Nat} {P Q:Nat→Nat}
theorem OM  (h:pv n m P Q s=some r):Q s<m/\r<n/\P r=Q s:=by
 unfold pv at h;split at h
 ·rename_i h1;have h2:=s7 h;have h3:=z6 h;exact⟨h1,List.mem_range.1 h2,by simpa using h3⟩
 ·cases h
theorem TX (hP:bA n m P)  (M:Q s<m) (h:r<n) (I:P r=Q s):pv n m P Q s=some r:=by
 cases e:pv n m P Q s with
 | none=>
  unfold pv at e;rw[if_pos M,Cp] at e;exact absurd I (by simpa using e r (List.mem_range.2 h))
 | some r'=>
  obtain⟨_,J,h6⟩:=OM e;rw[hP.inj r' r J h (h6.trans I.symm) eL]
theorem qC  (h:Q9 n m P Q k=some s) (hs:s≠n):∃ j r,k=j+1/\Q9 n m P Q j=some r/\Q r<m/\s<n/\P s=Q r:=by
 cases k with
 | zero=>injection h with h;exact absurd h.symm hs
 | succ j=>
  simp only[Q9,Option.bind_eq_some_iff] at h;obtain⟨r,h1,h2⟩:=h;exact⟨j,r,rfl,h1,OM h2⟩
theorem Jl (hP:bA n m P)  (h:Q9 n m P Q k=some s) (h1:Q s<m) (h2:r<n) (h3:P r=Q s):Q9 n m P Q (k+1)=some r:=by
 simp only[Q9,h];exact TX hP h1 h2 h3
theorem T2   (hi:i<n) (hw:∀ k,k<=m->w n k=w i k) (hP:bA n m P) (hQ:bA (n+1) m Q) (hO:∀ R,bA n m R->lj w n P<=lj w n R) :
  ∃ R,bA (n+1) m R/\R i=P i/\lj w (n+1) R<=lj w (n+1) Q:=by
 by_cases hA:∃ k,Q9 n m P Q k=some i
 ·-- the rows met come to i: the least such k
  have hL:∃ k,Q9 n m P Q k=some i/\∀ j,j<k->Q9 n m P Q j≠some i:=by
   obtain⟨k,hk⟩:=hA
   induction k using Nat.strongRecOn with
   | _ k ih=>
    by_cases hj:∃ j,j<k/\Q9 n m P Q j=some i
    ·obtain⟨j,J,M⟩:=hj;exact ih j J M
    ·exact⟨k,hk,fun j J M=>hj ⟨j,J,M⟩⟩
  obtain⟨k,hk,am⟩:=hL
  classical
  let S:Nat->Prop:=fun s=>∃ j,j<=k/\Q9 n m P Q j=some s
  have ad:S n:=⟨0,by omega,rfl⟩;have ag:S i:=⟨k,by omega,hk⟩;have aq:0<k:=by
   cases k with
   | zero=>injection hk with hk;omega
   | succ k=>omega
  have af:∀ s,S s->s≠n->∃ r,S r/\r≠i/\Q r<m/\s<n/\P s=Q r:=by
   rintro s ⟨j,hj,hs⟩ ae;obtain⟨j',r,rfl,J,M,h3,h4⟩:=qC hs ae;exact⟨r,⟨j',by omega,J⟩,fun e=>am j' eL (e ▸ J),M,h3,h4⟩
  have next:∀ s r,S s->s≠i->Q s<m->r<n->P r=Q s->S r:=by
   rintro s r ⟨j,hj,hs⟩ ae J M h3;have:j≠k:=fun e=>by subst e;rw[hk] at hs;injection hs with hs;exact ae hs.symm
   exact⟨j+1,by omega,Jl hP hs J M h3⟩
  let P':Nat->Nat:=fun r=>if r=i then Q n else if S r then Q r else P r
  let Q':Nat->Nat:=fun r=>if r=n then Q i else if S r then P r else Q r
  have an:bA n m P':=by
   constructor
   ·intro r hr;simp only[P'];split
    ·exact hQ.le n eL
    ·split
     ·exact hQ.le r eL
     ·exact hP.le r hr
   ·-- two rows with one column
    have key:∀ a b,a<n->b<n->P' a=P' b->P' a<m->(a=i\/S a)->b=a:=by
     intro a b ha hb he hm aa
     -- the row whose Q is meant
     have J:∃ s,S s/\s≠i/\P' a=Q s/\(s=n↔a=i)/\(a≠i->s=a):=by
      by_cases e:a=i
      ·exact⟨n,ad,by omega,by simp[P',e],by simp[e],fun h=>absurd e h⟩
      ·have:S a:=aa.resolve_left e;exact⟨a,this,e,by simp[P',e,this],by constructor<;>intro h<;>omega,fun _=>rfl⟩
     obtain⟨s,M,h3,h4,h5,h6⟩:=J;have ar:s<=n:=by obtain⟨j,_,hs⟩:=M;by_cases e:s=n;omega;obtain⟨_,_,_,_,_,h,_⟩:=qC hs e;omega
     by_cases eb:b=i
     ·have h7:P' b=Q n:=by simp[P',eb]
      have:=hQ.inj s n eL eL eL eL;rw[eb];exact(h5.1 this).symm
     ·by_cases I:S b
      ·have h7:P' b=Q b:=by simp[P',eb,I]
       have h8:=hQ.inj s b eL eL eL eL;by_cases ea:a=i
       ·have:=h5.2 ea;omega
       ·rw[<-h8,h6 ea]
      ·have h7:P' b=P b:=by simp[P',eb,I]
       exact absurd (next s b M h3 eL hb eL) I
    intro a b ha hb he hm;by_cases aa:a=i\/S a
    ·exact(key a b ha hb he hm aa).symm
    ·by_cases I:b=i\/S b
     ·exact key b a hb ha he.symm (he ▸ hm) I
     ·have ea:P' a=P a:=by simp only[P',if_neg (fun h=>aa (.inl h)),if_neg (fun h=>aa (.inr h))]
      have eb:P' b=P b:=by simp only[P',if_neg (fun h=>I (.inl h)),if_neg (fun h=>I (.inr h))]
      exact hP.inj a b ha hb eL eL
  have ao:bA (n+1) m Q':=by
   constructor
   ·intro r hr;simp only[Q'];split
    ·exact hQ.le i eL
    ·split
     ·rename_i J M;exact hP.le r eL
     ·exact hQ.le r hr
   ·-- each row of the set has the column of another one of the set
    have src:∀ a,a<n+1->(a=n\/S a)->∃ s,S s/\s<n+1/\Q' a=Q s/\(a=n↔s=i)/\(a≠n->P a=Q s):=by
     intro a ha h;by_cases e:a=n
     ·exact⟨i,ag,by omega,by simp[Q',e],by simp[e],fun h=>absurd e h⟩
     ·have hS:S a:=h.resolve_left e;obtain⟨r,J,M,h3,h4,h5⟩:=af a hS e;have al:r<=n:=by obtain⟨j,_,hs⟩:=J;by_cases e:r=n;omega;obtain⟨_,_,_,_,_,h,_⟩:=qC hs e;omega
      exact⟨r,J,by omega,by simp[Q',e,hS,h5],by simp[e,M],fun _=>h5⟩
    have key:∀ a b,a<n+1->b<n+1->Q' a=Q' b->Q' a<m->(a=n\/S a)->b=a:=by
     intro a b ha hb he hm aa;obtain⟨s,J,M,h3,h4,h5⟩:=src a ha aa;by_cases I:b=n\/S b
     ·obtain⟨t,g1,g2,g3,g4,g5⟩:=src b hb I;have ai:=hQ.inj s t M g2 eL eL;by_cases ea:a=n
      ·have:=g4.2 (by rw[<-ai];exact h4.1 ea);omega
      ·by_cases eb:b=n
       ·have:=h4.2 (by rw[ai];exact g4.1 eb);omega
       ·exact(hP.inj a b eL eL (by rw[h5 ea,g5 eb,ai]) (by rw[h5 ea];omega)).symm
     ·have eb:Q' b=Q b:=by simp only[Q',if_neg (fun h=>I (.inl h)),if_neg (fun h=>I (.inr h))]
      have:=hQ.inj s b M hb eL eL;exact absurd (this ▸ J) (fun h=>I (.inr h))
    intro a b ha hb he hm;by_cases aa:a=n\/S a
    ·exact(key a b ha hb he hm aa).symm
    ·by_cases I:b=n\/S b
     ·exact key b a hb ha he.symm (he ▸ hm) I
     ·have ea:Q' a=Q a:=by simp only[Q',if_neg (fun h=>aa (.inl h)),if_neg (fun h=>aa (.inr h))]
      have eb:Q' b=Q b:=by simp only[Q',if_neg (fun h=>I (.inl h)),if_neg (fun h=>I (.inr h))]
      exact hQ.inj a b ha hb eL eL
  refine⟨Q',ao,?_,?_⟩
  ·have:i≠n:=by omega
   simp[Q',this,ag]
  ·have ak:lj w n P'+lj w (n+1) Q'=lj w n P+lj w (n+1) Q:=by
    have e1:sg n (fun r=>w r (P' r)+w r (Q' r))=sg n (fun r=>w r (P r)+w r (Q r))+((w i (P' i)+w i (Q' i))-(w i (P i)+w i (Q i))):=by
     refine Ce hi fun r hr ae=>?_;have hn:r≠n:=by omega
     by_cases hS:S r
     ·simp only[P',Q',if_neg ae,if_neg hn,if_pos hS];omega
     ·simp only[P',Q',if_neg ae,if_neg hn,if_neg hS]
    rw[rz,rz] at e1;have e2:P' i=Q n:=by simp[P']
    have e3:Q' i=P i:=by(have:i≠n:=by omega);simp[Q',this,ag]
    have e4:Q' n=Q i:=by simp[Q']
    have e5:=hw (Q n) (hQ.le n eL);have e6:=hw (Q i) (hQ.le i eL);unfold lj;rw[dI,dI,e4];rw[e2,e3] at e1;omega
   have:=hO P' an;omega
 ·-- the rows met never come to i
  classical
  let S:Nat->Prop:=fun s=>∃ k,Q9 n m P Q k=some s
  have ad:S n:=⟨0,rfl⟩;have ag:¬ S i:=hA;have af:∀ s,S s->s≠n->∃ r,S r/\Q r<m/\s<n/\P s=Q r:=by
   rintro s ⟨j,hs⟩ ae;obtain⟨j',r,rfl,J,M,h3,h4⟩:=qC hs ae;exact⟨r,⟨j',J⟩,M,h3,h4⟩
  have next:∀ s r,S s->Q s<m->r<n->P r=Q s->S r:=by
   rintro s r ⟨j,hs⟩ J M h3;exact⟨j+1,Jl hP hs J M h3⟩
  let R:Nat->Nat:=fun r=>if S r then Q r else P r
  let R':Nat->Nat:=fun r=>if S r then P r else Q r
  have hR:bA (n+1) m R:=by
   constructor
   ·intro r hr;simp only[R];split
    ·exact hQ.le r eL
    ·rename_i h;have:r≠n:=fun e=>h (e ▸ ad);exact hP.le r eL
   ·intro a b ha hb he hm;by_cases ac:S a<;>by_cases ab:S b<;>simp only[R,ac,ab,if_true,if_false] at he hm
    ·exact hQ.inj a b ha hb he hm
    ·have:b≠n:=fun e=>ab (e ▸ ad);exact absurd (next a b ac hm eL he.symm) ab
    ·have:a≠n:=fun e=>ac (e ▸ ad);exact absurd (next b a ab eL eL he) ac
    ·have:b≠n:=fun e=>ab (e ▸ ad);have:a≠n:=fun e=>ac (e ▸ ad);exact hP.inj a b eL eL he hm
  have ap:bA n m R':=by
   constructor
   ·intro r hr;simp only[R'];split
    ·exact hP.le r hr
    ·exact hQ.le r eL
   ·intro a b ha hb he hm;by_cases ac:S a<;>by_cases ab:S b<;>simp only[R',ac,ab,if_true,if_false] at he hm
    ·exact hP.inj a b ha hb he hm
    ·obtain⟨r,J,M,h3,h4⟩:=af a ac eL;have al:r<=n:=by obtain⟨j,hs⟩:=J;by_cases e:r=n;omega;obtain⟨_,_,_,_,_,h,_⟩:=qC hs e;omega
     have:=hQ.inj r b eL eL eL M;exact absurd (this ▸ J) ab
    ·obtain⟨r,J,M,h3,h4⟩:=af b ab eL;have al:r<=n:=by obtain⟨j,hs⟩:=J;by_cases e:r=n;omega;obtain⟨_,_,_,_,_,h,_⟩:=qC hs e;omega
     have:=hQ.inj r a eL eL eL M;exact absurd (this ▸ J) ac
    ·exact hQ.inj a b eL eL he hm
  refine⟨R,hR,by simp only[R,if_neg ag],?_⟩;have ak:lj w n R'+lj w (n+1) R=lj w n P+lj w (n+1) Q:=by
   have e1:sg n (fun r=>w r (R' r)+w r (R r))=sg n (fun r=>w r (P r)+w r (Q r)):=by
    refine bJ fun r hr=>?_;by_cases hS:S r
    ·simp only[R,R',if_pos hS]
    ·simp only[R,R',if_neg hS];omega
   rw[rz,rz] at e1;have e2:R n=Q n:=by simp only[R,if_pos ad]
   unfold lj;rw[dI,dI,e2];omega
  have:=hO R' ap;omega
end
section
variable {n m:Nat} {P Q:Nat→Nat} {c:Nat→Nat→Int} {d e:Nat→Int} {u v:Nat→Int}
structure GV (c:Nat->Nat->Int) (d e:Nat->Int) (n m:Nat) (u v:Nat->Int):Prop where
 c:∀ i,i<n->∀ j,j<m->u i+v j<=c i j
 d:∀ i,i<n->u i<=d i
 e:∀ j,j<m->v j<=e j
theorem E3 (h:GV c d e n m u v) (I:bA n m P):sg n u+sg m v<=cost c d e n m P:=by
 rw[fV I];have h1:=BB I (fun j=>v j-e j);have J:sg m (fun j=>v j-e j)<=sg m (fun j=>if used P n j then v j-e j else 0):=wU fun j hj=>by
  have:=h.e j hj;split<;>omega
 rw[GQ] at J;have h3:sg n (fun i=>u i+if P i<m then v (P i)-e (P i) else 0)<=lj (wt c d e m) n P:=wU fun i hi=>by
  show _<=wt c d e m i (P i)
  unfold wt;split
  ·rename_i M;have:=h.c i hi _ M;omega
  ·have:=h.d i hi;omega
 rw[rz] at h3;omega
def jW (c:Nat->Nat->Int) (n i:Nat):Nat->Nat->Int:=fun r=>if r=n then c i else c r
def jX (d:Nat->Int) (n i:Nat):Nat->Int:=fun r=>if r=n then d i else d r
theorem GX  (hi:i<n) (k:Nat):wt (jW c n i) (jX d n i) e m n k=wt (jW c n i) (jX d n i) e m i k:=by
 have:i≠n:=by omega
 simp[wt,jW,jX,this]
theorem Bt  (hr:r<n) (k:Nat):wt (jW c n i) (jX d n i) e m r k=wt c d e m r k:=by
 have:r≠n:=by omega
 simp[wt,jW,jX,this]
theorem pG (i:Nat) (P:Nat->Nat):lj (wt (jW c n i) (jX d n i) e m) n P=lj (wt c d e m) n P:=bJ fun r hr=>Bt hr _
theorem GV.dup (h:GV c d e n m u v)  (hi:i<n):GV (jW c n i) (jX d n i) e (n+1) m (fun r=>if r=n then u i else u r) v:=by
 refine⟨fun r J j I=>?_,fun r J=>?_,h.e⟩
 ·by_cases e:r=n
  ·simp only[jW,if_pos e];exact h.c i hi j I
  ·simp only[jW,if_neg e];exact h.c r eL j I
 ·by_cases e:r=n
  ·simp only[jX,if_pos e];exact h.d i hi
  ·simp only[jX,if_neg e];exact h.d r eL
def put (P:Nat->Nat) (n k:Nat):Nat->Nat:=fun r=>if r=n then k else P r
theorem Bu (h:bA n m P)  (hk:k<=m) (J:k<m->used P n k=false):bA (n+1) m (put P n k):=by
 refine⟨fun i hi=>?_,fun i j hi hj I hm=>?_⟩
 ·unfold put;split;exact hk;exact h.le i eL
 ·by_cases M:i=n<;>by_cases e2:j=n<;>simp only[put,M,e2,if_true,if_false] at I hm
  ·omega
  ·exact absurd I.symm (mV.1 (J hm) j eL)
  ·exact absurd I (mV.1 (J eL) i eL)
  ·exact h.inj i j eL eL I hm
theorem GY (w:Nat->Nat->Int) (k:Nat):lj w (n+1) (put P n k)=lj w n P+w n k:=by
 unfold lj;rw[dI,bJ (g:=fun i=>w i (P i)) (fun i hi=>by(have:i≠n:=by omega);simp[put,this])];simp[put]
def cut (P:Nat->Nat) (n i:Nat):Nat->Nat:=fun r=>if r=i then P n else P r
theorem GZ  (hi:i<n) (h:bA (n+1) m P):bA n m (cut P n i):=by
 refine⟨fun r hr=>?_,fun a b ha hb I hm=>?_⟩
 ·unfold cut;split;exact h.le n eL;exact h.le r eL
 ·by_cases J:a=i<;>by_cases M:b=i<;>simp only[cut,J,M,if_true,if_false] at I hm
  ·omega
  ·have:=h.inj n b eL eL I hm;omega
  ·have:=h.inj a n eL eL I hm;omega
  ·exact h.inj a b eL eL I hm
theorem G5   (hi:i<n) (hw:∀ k,w n k=w i k):lj w n (cut P n i)+w i (P i)=lj w (n+1) P:=by
 unfold lj;rw[dI,Ce (g:=fun r=>w r (P r)) hi (fun r hr hne=>by simp[cut,hne])];simp[cut,hw];omega
theorem MN  (hi:i<n) (h:bA (n+1) m P) (hp:P i<m):used (cut P n i) n (P i)=false:=mV.2 fun r hr he=>by
 by_cases e:r=i
 ·simp only[cut,if_pos e] at he;have:=h.inj n i eL eL he eL;omega
 ·simp only[cut,if_neg e] at he;have:=h.inj r i eL eL he eL;omega
structure dh (c:Nat->Nat->Int) (d e:Nat->Int) (n m:Nat) (v:Int) (U V:Nat->Int):Prop where
 opt:GU c d e n m v
 more:∀ i,i<n->GU (jW c n i) (jX d n i) e (n+1) m (U i+v)
 ve:∀ j,j<m->V j<=e j
 vc:∀ j,j<m->∀ i,i<n->V j<=c i j-U i
 vis:∀ j,j<m->V j=e j\/∃ i,i<n/\V j=c i j-U i
theorem dh.YA   (h:dh c d e n m v0 U V):GV c d e n m U V:=by
 refine⟨fun i hi j hj=>by have:=h.vc j hj i hi;omega,fun i hi=>?_,h.ve⟩;obtain⟨P,I,M⟩:=h.opt.has;have J:=(h.more i hi).low (put P n m) (Bu I (fy _) (fun h=>by omega));rw[fV (Bu I (fy _) (fun h=>by omega)),GY,pG] at J;rw[fV I] at M;have:wt (jW c n i) (jX d n i) e m n m=d i:=by simp[wt,jX]
 omega
theorem dh.at   (h:dh c d e n m v0 U V) {P:Nat->Nat} (J:bA n m P) (hv:cost c d e n m P=v0)  (hi:i<n) :
  ∃ R,bA (n+1) m R/\R i=P i/\sg m e+lj (wt (jW c n i) (jX d n i) e m) (n+1) R=U i+v0:=by
 obtain⟨Q,hQ,hq⟩:=(h.more i hi).has;rw[fV hQ] at hq
 obtain⟨R,I,h2,h3⟩:=T2 (w:=wt (jW c n i) (jX d n i) e m) hi (fun k _=>GX hi k) J hQ (fun R M=>by
  rw[pG,pG];have:=h.opt.low R M;rw[fV M] at this;rw[fV J] at hv
  omega)
 have h4:=(h.more i hi).low R I;rw[fV I] at h4;exact⟨R,I,h2,by omega⟩
theorem dh.T3   (h:dh c d e n m v0 U V) {P:Nat->Nat} (hP:bA n m P) (hv:cost c d e n m P=v0) :
  (∀ i,i<n->P i<m->U i+V (P i)=c i (P i))/\(∀ i,i<n->P i=m->U i=d i)/\∀ j,j<m->used P n j=false->V j=e j:=by
 have hF:=h.YA;have ab:=hv;rw[fV hP] at ab;refine⟨fun i hi M=>?_,fun i hi M=>?_,fun j hj hu=>?_⟩
 ·obtain⟨R,h1,h2,h3⟩:=h.at hP hv hi;have J:=GZ hi h1;have e1:=G5 (P:=R) (w:=wt (jW c n i) (jX d n i) e m) hi (fun k=>GX hi k);have e2:wt (jW c n i) (jX d n i) e m i (R i)=c i (P i)-e (P i):=by rw[Bt hi,h2,wt,if_pos M]
  rw[pG] at e1;have aa:used (cut R n i) n (P i)=false:=h2 ▸ MN hi h1 eL
  -- the column is free without row i
  have ac:=hF.c i hi _ M;rcases h.vis _ M with hV|⟨i',hi',hV⟩
  ·have:=h.opt.low _ J;rw[fV J] at this;omega
  ·have I:=Bu J (C1 M) (fun _=>aa);have:=(h.more i' hi').low _ I;rw[fV I,GY,pG] at this;have e3:wt (jW c n i') (jX d n i') e m n (P i)=c i' (P i)-e (P i):=by simp[wt,jW,M]
   omega
 ·obtain⟨R,h1,h2,h3⟩:=h.at hP hv hi;have J:=GZ hi h1;have e1:=G5 (P:=R) (w:=wt (jW c n i) (jX d n i) e m) hi (fun k=>GX hi k);have e2:wt (jW c n i) (jX d n i) e m i (R i)=d i:=by rw[Bt hi,h2,wt,if_neg eL]
  rw[pG] at e1;have:=h.opt.low _ J;rw[fV J] at this;have:=hF.d i hi;omega
 ·rcases h.vis j hj with hV|⟨i,hi,hV⟩
  ·exact hV
  ·have I:=Bu hP (C1 hj) (fun _=>hu);have:=(h.more i hi).low _ I;rw[fV I,GY,pG] at this;have e3:wt (jW c n i) (jX d n i) e m n j=c i j-e j:=by simp[wt,jW,hj]
   have:=h.ve j hj;omega
theorem dh.sum   (h:dh c d e n m v0 U V):sg n U+sg m V=v0:=by
 obtain⟨P,I,J⟩:=h.opt.has;obtain⟨h1,h2,h3⟩:=h.T3 I J;have e1:=BB I (fun j=>V j-e j);have e2:sg m (fun j=>if used P n j then V j-e j else 0)=sg m (fun j=>V j-e j):=bJ fun j hj=>by
  cases hu:used P n j
  ·have:=h3 j hj hu;simp;omega
  ·simp
 have M:sg n (fun i=>U i+if P i<m then V (P i)-e (P i) else 0)=lj (wt c d e m) n P:=bJ fun i hi=>by
  show _=wt c d e m i (P i)
  unfold wt;split
  ·rename_i hp;have:=h1 i hi hp;omega
  ·have:=h2 i hi (by have:=I.le i hi;omega);omega
 rw[rz] at M;rw[GQ] at e2;rw[fV I] at J;omega
theorem dh.jz   (h:dh c d e n m v0 U V) {u v:Nat->Int} (J:GV c d e n m u v) (M:sg n u+sg m v=v0)  (hi:i<n):u i<=U i:=by
 obtain⟨P,I,hv⟩:=(h.more i hi).has;have:=E3 (J.dup hi) I;rw[dI,bJ (g:=u) (fun r hr=>by(have:r≠n:=by omega);simp[this])] at this;simp at this;omega
theorem GU.E3  (h:GU c d e n m v0) {u v:Nat->Int} (hF:GV c d e n m u v):sg n u+sg m v<=v0:=by
 obtain⟨P,hP,hv⟩:=h.has;rw[<-hv];exact bA.E3 hF hP
theorem dh.low   {E:Int} (h:dh c d e n m v0 U V) (hc:∀ i,i<n->∀ j,j<m->0<=c i j) (hd:∀ i,i<n->0<=d i) (he:∀ j,j<m->0<=e j/\e j<=E) (hE:0<=E)  (hi:i<n) : -E<=U i:=by
 obtain⟨Q,J,hq⟩:=(h.more i hi).has;rw[fV J] at hq;have I:=GZ hi J;have e1:=G5 (P:=Q) (w:=wt (jW c n i) (jX d n i) e m) hi (fun k=>GX hi k);rw[pG,Bt hi] at e1;have:=h.opt.low _ I;rw[fV I] at this;have h5 : -E<=wt c d e m i (Q i):=by
  unfold wt;split
  ·rename_i M;have:=hc i hi _ M;have:=he _ M;omega
  ·have:=hd i hi;omega
 omega
end
def vH (U:Nat->Bool) (f:Nat->Int) (a:Int):Nat->Int
 | 0=>a
 | j+1=>if U j then vH U f a j else min (vH U f a j) (f j)
section
variable {U:Nat→Bool} {f:Nat→Int} {a:Int} {m:Nat}
theorem sN:vH U f a m<=a:=by
 induction m with
 | zero=>exact ly _
 | succ m ih=>unfold vH;split;exact ih;omega
theorem TS  (hj:j<m) (hu:U j=false):vH U f a m<=f j:=by
 induction m with
 | zero=>omega
 | succ m ih=>
  unfold vH;by_cases e:j=m
  ·subst e;rw[hu];simp;omega
  ·split
   ·exact ih eL
   ·have:=ih eL;omega
theorem zk:vH U f a m=a\/∃ j,j<m/\U j=false/\vH U f a m=f j:=by
 induction m with
 | zero=>exact .inl rfl
 | succ m ih=>
  unfold vH;by_cases I:U m=true
  ·rw[if_pos I];rcases ih with h|⟨j,h1,h2,h3⟩
   ·exact .inl h
   ·exact .inr ⟨j,by omega,h2,h3⟩
  ·rw[if_neg I];by_cases hm:vH U f a m<=f m
   ·rw[Int.min_eq_left hm];rcases ih with h|⟨j,h1,h2,h3⟩
    ·exact .inl h
    ·exact .inr ⟨j,by omega,h2,h3⟩
   ·rw[Int.min_eq_right eL];exact .inr ⟨m,by omega,by simpa using I,rfl⟩
theorem EP {g:Nat->Int} {V:Nat->Bool} (h:∀ j,j<m->f j=g j) (hu:∀ j,j<m->U j=V j):vH U f a m=vH V g a m:=by
 induction m with
 | zero=>rfl
 | succ m ih=>
  unfold vH;rw[ih (fun j hj=>h j eL) (fun j hj=>hu j eL),h m eL,hu m eL]
end
def ins (U:Nat->Bool) (j:Nat):Nat->Bool:=fun x=>U x||x==j
def wV:Nat->Bool:=fun _=>false
def L (c:Nat->Nat->Int) (d e:Nat->Int) (n m:Nat):Nat->(Nat->Bool)->Int
 | 0,U=>sg m (fun j=>if U j then 0 else e j)
 | k+1,U=>vH U (fun j=>c (n-(k+1)) j+L c d e n m k (ins U j)) (d (n-(k+1))+L c d e n m k U) m
def cs (c:Nat->Nat->Int) (d e:Nat->Int) (m:Nat):Nat->(Nat->Bool)->List Int->Option Int
 | _,U,[]=>some (sg m (fun j=>if U j then 0 else e j))
 | i,U,p::ps=>if p<0\/(m:Int)<p\/(p<m/\U p.toNat=true) then none
  else if p=m then(cs c d e m (i+1) U ps).map (d i + ·) else(cs c d e m (i+1) (ins U p.toNat) ps).map (c i p.toNat + ·)
def gr (c:Nat->Nat->Int) (d e:Nat->Int) (n m:Nat):Nat->(Nat->Bool)->List Int
 | 0,_=>[]
 | k+1,U=>match (List.range m).find? (fun j=>!U j&&decide (c (n-(k+1)) j+L c d e n m k (ins U j)=L c d e n m (k+1) U)) with
  | some j=>(j:Int)::gr c d e n m k (ins U j)
  | none=>(m:Int)::gr c d e n m k U
def before:List Int->List Int->Bool
 | a::xs,b::ys=>if a=b then before xs ys else decide (a<b)
 | _,_=>false
section
variable {c:Nat→Nat→Int} {d e:Nat→Int} {n m:Nat}
theorem MO (k:Nat) (U:Nat->Bool):(gr c d e n m k U).length=k:=by
 induction k generalizing U with
 | zero=>rfl
 | succ k ih=>unfold gr;split<;>simp[ih]
variable {p U:Nat->Bool}{ps:List Int}{v:Int}
theorem eG   (h:(List.range m).find? p=some j):j<m/\p j=true/\∀ i,i<j->p i=false:=by
 rw[Nm] at h;obtain⟨h1,h2,h3⟩:=h;exact⟨List.mem_range.1 h2,h1,fun i hi=>by simpa using h3 i hi⟩
theorem lT  (h:(List.range m).find? p=none):∀ i,i<m->p i=false:=by
 rw[Cp] at h;exact fun i hi=>by simpa using h i (List.mem_range.2 hi)
theorem T4     (hk:k<=n) (I:ps.length=k) (h:cs c d e m (n-k) U ps=some v):L c d e n m k U<=v:=by
 induction k generalizing U ps v with
 | zero=>
  obtain rfl:=List.length_eq_zero_iff.1 I;simp only[cs,Option.some.injEq] at h;rw[<-h];exact ly _
 | succ k ih=>
  cases ps with
  | nil=>simp at I
  | cons p ps=>
   simp only[cs] at h;split at h
   ·cases h
   ·rename_i M;have M:0<=p/\p<=m/\(p<m->U p.toNat=false):=by
     refine⟨by omega,by omega,fun h=>?_⟩;cases hU:U p.toNat
     ·rfl
     ·exact absurd (.inr (.inr ⟨h,hU⟩)) M
    have e1:n-(k+1)+1=n-k:=by omega
    rw[e1] at h;split at h
    ·obtain⟨u,J,rfl⟩:=Option.map_eq_some_iff.1 h;have:=ih eL (by simpa using I) J;have h2:=sN (U:=U) (f:=fun j=>c (n-(k+1)) j+L c d e n m k (ins U j)) (a:=d (n-(k+1))+L c d e n m k U) (m:=m)
     show vH _ _ _ _<=_
     omega
    ·obtain⟨u,J,rfl⟩:=Option.map_eq_some_iff.1 h;have:=ih eL (by simpa using I) J;have h2:=TS (U:=U) (f:=fun j=>c (n-(k+1)) j+L c d e n m k (ins U j)) (a:=d (n-(k+1))+L c d e n m k U) (m:=m) (j:=p.toNat) eL (M.2.2 eL)
     show vH _ _ _ _<=_
     omega
theorem Mn  (hk:k<=n) (U:Nat->Bool):cs c d e m (n-k) U (gr c d e n m k U)=some (L c d e n m k U):=by
 induction k generalizing U with
 | zero=>rfl
 | succ k ih=>
  have J:n-(k+1)+1=n-k:=by omega
  unfold gr;split
  ·rename_i j hj;obtain⟨M,I,-⟩:=eG hj;simp only[gA,tc,decide_eq_true_eq] at I;simp only[cs];rw[if_neg (by rintro (h|h|⟨-,h⟩);omega;omega;rw[zt,I.1] at h;cases h),if_neg eL,J,zt,ih eL,uv];exact congrArg some I.2
  ·rename_i hn;have M:=lT hn;simp only[cs];rw[if_neg (by rintro (h|h|⟨h,-⟩)<;>omega)];simp only[if_true];rw[J,ih eL,uv];refine congrArg some ?_;rcases zk (U:=U) (f:=fun j=>c (n-(k+1)) j+L c d e n m k (ins U j)) (a:=d (n-(k+1))+L c d e n m k U) (m:=m) with h|⟨j,g1,g2,g3⟩
   ·exact h.symm
   ·have:=M j g1;rw[g2] at this;simp only[mT,lx,decide_eq_false_iff_not] at this;exact absurd g3.symm this
theorem MP (P:Nat->Nat) (n j:Nat):used P (n+1) j=(P 0==j||used (fun i=>P (i+1)) n j):=by
 rw[tg];simp only[tf,beq_iff_eq,mU];constructor
 ·rintro⟨i,J,I⟩;cases i with
  | zero=>exact .inl I
  | succ i=>exact .inr ⟨i,by omega,I⟩
 ·rintro (h|⟨i,J,I⟩)
  ·exact⟨0,by omega,h⟩
  ·exact⟨i+1,by omega,I⟩
structure MQ (k m:Nat) (U:Nat->Bool) (P:Nat->Nat):Prop where
 asg:bA k m P
 free:∀ i,i<k->P i<m->U (P i)=false
def wW (c:Nat->Nat->Int) (d e:Nat->Int) (m i k:Nat) (U:Nat->Bool) (P:Nat->Nat):Int:=
 sg k (fun r=>if P r<m then c (i+r) (P r) else d (i+r))+sg m (fun j=>if U j||used P k j then 0 else e j)
def lp (ps:List Int):Nat->Nat:=fun r=>(ps.getD r 0).toNat
theorem sO   :wW c d e m i (k+1) U P=(if P 0<m then c i (P 0) else d i)+wW c d e m (i+1) k (if P 0<m then ins U (P 0) else U) (fun r=>P (r+1)):=by
 unfold wW;rw[Cg,Int.add_assoc];have I:sg k (fun r=>if P (r+1)<m then c (i+(r+1)) (P (r+1)) else d (i+(r+1)))=sg k (fun r=>if P (r+1)<m then c (i+1+r) (P (r+1)) else d (i+1+r)):=bJ fun r _=>by
  have:i+(r+1)=i+1+r:=by omega
  rw[this]
 have J:sg m (fun j=>if U j||used P (k+1) j then 0 else e j)=sg m (fun j=>if(if P 0<m then ins U (P 0) else U) j||used (fun r=>P (r+1)) k j then 0 else e j):=bJ fun j M=>by
  rw[MP];by_cases h:P 0<m
  ·rw[if_pos h];unfold ins;have:(P 0==j)=(j==P 0):=by rw[tg];simp;omega
   rw[this,Bool.or_assoc]
  ·rw[if_neg h];have:(P 0==j)=false:=by simp;omega
   rw[this,uB]
 rw[I,J];simp
theorem Ch    (h0:P 0<=m) (hU:P 0<m->U (P 0)=false) (h:MQ k m (if P 0<m then ins U (P 0) else U) (fun r=>P (r+1))):MQ (k+1) m U P:=by
 have M:∀ i,i<k->P (i+1)<m->U (P (i+1))=false/\(P 0<m->P (i+1)≠P 0):=by
  intro i hi I;have:=h.free i hi I;by_cases J:P 0<m
  ·rw[if_pos J] at this;simp only[ins,Bool.or_eq_false_iff,beq_eq_false_iff_ne] at this;exact⟨this.1,fun _=>this.2⟩
  ·rw[if_neg J] at this;exact⟨this,fun h=>absurd h J⟩
 refine⟨⟨fun i hi=>?_,fun i j hi hj he hm=>?_⟩,fun i hi I=>?_⟩
 ·cases i with
  | zero=>exact h0
  | succ i=>exact h.asg.le i eL
 ·cases i with
  | zero=>
   cases j with
   | zero=>rfl
   | succ j=>exact absurd he.symm ((M j eL eL).2 hm)
  | succ i=>
   cases j with
   | zero=>exact absurd he ((M i eL hm).2 eL)
   | succ j=>have:=h.asg.inj i j eL eL he hm;omega
 ·cases i with
  | zero=>exact hU I
  | succ i=>exact(M i eL I).1
theorem Ra    (h:MQ (k+1) m U P):MQ k m (if P 0<m then ins U (P 0) else U) (fun r=>P (r+1)):=by
 refine⟨⟨fun i hi=>h.asg.le _ eL,fun i j hi hj I hm=>by have:=h.asg.inj (i+1) (j+1) eL eL I hm;omega⟩,fun i hi M=>?_⟩;have J:=h.free (i+1) eL M;by_cases h0:P 0<m
 ·rw[if_pos h0];simp only[ins,J,uB,beq_eq_false_iff_ne];intro I;have:=h.asg.inj (i+1) 0 eL eL I M;omega
 ·rw[if_neg h0];exact J
theorem Bv     (h:cs c d e m i U ps=some v):MQ ps.length m U (lp ps)/\v=wW c d e m i ps.length U (lp ps)/\∀ p ∈ ps,0<=p/\p<=m:=by
 induction ps generalizing i U v with
 | nil=>
  simp only[cs,Option.some.injEq] at h;refine⟨⟨⟨fun i hi=>by simp at hi,fun i j hi=>by simp at hi⟩,fun i hi=>by simp at hi⟩,?_,fun p I=>by simp at I⟩;rw[<-h];unfold wW;simp[sg,used]
 | cons p ps ih=>
  simp only[cs] at h;split at h
  ·cases h
  rename_i I;have I:0<=p/\p<=m/\(p<m->U p.toNat=false):=by
   refine⟨by omega,by omega,fun h=>?_⟩;cases hU:U p.toNat
   ·rfl
   ·exact absurd (.inr (.inr ⟨h,hU⟩)) I
  have J:lp (p::ps) 0=p.toNat:=rfl;have M:(fun r=>lp (p::ps) (r+1))=lp ps:=rfl;have hm:∀ q ∈ ps,0<=q/\q<=m->True:=fun _ _ _=>trivial;split at h
  ·rename_i aa;obtain⟨u,h1,rfl⟩:=Option.map_eq_some_iff.1 h;obtain⟨g1,g2,g3⟩:=ih h1;have hn:¬ lp (p::ps) 0<m:=by rw[J];omega
   refine⟨Ch (by rw[J];omega) (fun h=>absurd h hn) (by rw[if_neg hn,M];exact g1),?_,?_⟩
   ·rw[j7,sO,if_neg hn,if_neg hn,M,<-g2]
   ·intro q hq;rcases List.mem_cons.1 hq with rfl|hq;exact⟨I.1,I.2.1⟩;exact g3 q hq
  ·rename_i aa;obtain⟨u,h1,rfl⟩:=Option.map_eq_some_iff.1 h;obtain⟨g1,g2,g3⟩:=ih h1;have hn:lp (p::ps) 0<m:=by rw[J];omega
   refine⟨Ch (by rw[J];omega) (fun h=>by rw[J];exact I.2.2 eL) (by rw[if_pos hn,M,J];exact g1),?_,?_⟩
   ·rw[j7,sO,if_pos hn,if_pos hn,M,J,<-g2]
   ·intro q hq;rcases List.mem_cons.1 hq with rfl|hq;exact⟨I.1,I.2.1⟩;exact g3 q hq
def pl (P:Nat->Nat) (k:Nat):List Int:=(List.range k).map (fun i=>(P i:Int))
theorem TT (P:Nat->Nat) (k:Nat):(pl P k).length=k:=by simp[pl]
theorem Jm (P:Nat->Nat) (k:Nat):pl P (k+1)=(P 0:Int)::pl (fun r=>P (r+1)) k:=by
 unfold pl;rw[List.range_succ_eq_map];simp
theorem Mp    (h:MQ k m U P):cs c d e m i U (pl P k)=some (wW c d e m i k U P):=by
 induction k generalizing i U P with
 | zero=>simp[pl,cs,wW,sg,used]
 | succ k ih=>
  have J:=ih (i:=i+1) (Ra h);have h0:=h.asg.le 0 eL;rw[Jm,sO];simp only[cs];by_cases I:P 0<m
  ·have M:=h.free 0 eL I;rw[if_pos I] at J;rw[if_neg (by rintro (h|h|⟨-,h⟩);omega;omega;rw[zt,M] at h;cases h),if_neg eL,zt,if_pos I,if_pos I,J,uv]
  ·rw[if_neg I] at J;rw[if_neg (by rintro (h|h|⟨h,-⟩)<;>omega),if_pos eL,if_neg I,if_neg I,J,uv]
theorem lU (P:Nat->Nat):wW c d e m 0 n wV P=cost c d e n m P:=by
 unfold wW cost wV;simp
theorem OO  (h:bA n m P):MQ n m wV P:=⟨h,fun _ _ _=>rfl⟩
theorem OP:GU c d e n m (L c d e n m n wV):=by
 constructor
 ·have h:=Mn (c:=c) (d:=d) (e:=e) (n:=n) (m:=m) (fy n) wV;rw[nn] at h;obtain⟨J,I,-⟩:=Bv h;rw[MO] at J I;exact⟨_,J.asg,by rw[I,lU]⟩
 ·intro P M;have h:=Mp (c:=c) (d:=d) (e:=e) (i:=0) (OO M);rw[lU] at h;exact T4 (fy n) (TT P n) (by rw[nn];exact h)
end
def YB (e:Nat->Int) (m:Nat):Nat->Int
 | 0=>0
 | b+1=>e (m-(b+1))+YB e m b
def yq (c:Nat->Nat->Int) (d e:Nat->Int) (m i:Nat) (f:Nat->Int):Nat->Int
 | 0=>d i+f 0
 | b+1=>min (min (d i+f (b+1)) (e (m-(b+1))+yq c d e m i f b)) (c i (m-(b+1))+f b)
def GR (c:Nat->Nat->Int) (d e:Nat->Int) (n m:Nat):Nat->Nat->Int
 | 0=>YB e m
 | a+1=>yq c d e m (n-(a+1)) (GR c d e n m a)
def wS (c:Nat->Nat->Int) (d e:Nat->Int) (n m:Nat):Nat->Nat->List Int
 | 0,_=>[]
 | a+1,b=>match (List.range b).find? (fun t=>decide (sg t (fun x=>e (m-b+x))+c (n-(a+1)) (m-b+t)+GR c d e n m a (b-(t+1))=GR c d e n m (a+1) b)) with
  | some t=>((m-b+t:Nat):Int)::wS c d e n m a (b-(t+1))
  | none=>(m:Int)::wS c d e n m a b
def keeps (m:Nat):Int->List Int->Bool
 | _,[]=>true
 | l,p::ps=>if p=m then keeps m l ps else if p<=l then false else keeps m p ps
def MR (c:Nat->Nat->Int) (d e:Nat->Int) (m:Nat):Nat->Nat->List Int->Option Int
 | _,f,[]=>some (sg (m-f) (fun x=>e (f+x)))
 | i,f,p::ps=>if p=m then(MR c d e m (i+1) f ps).map (d i + ·)
  else if p<f\/(m:Int)<p then none else(MR c d e m (i+1) (p.toNat+1) ps).map (sg (p.toNat-f) (fun x=>e (f+x))+c i p.toNat + ·)
section
variable {c:Nat→Nat→Int} {d e:Nat→Int} {n m:Nat}
theorem TU (a b:Nat):GR c d e n m (a+1) b<=d (n-(a+1))+GR c d e n m a b:=by
 cases b with
 | zero=>exact ly _
 | succ b=>show min (min _ _) _<=_;omega
theorem TV (a b:Nat):GR c d e n m a (b+1)<=e (m-(b+1))+GR c d e n m a b:=by
 cases a with
 | zero=>exact ly _
 | succ a=>show min (min _ _) _<=_;exact AG (Int.min_le_left _ _) (IP _ _)
theorem YC (a b:Nat):GR c d e n m (a+1) (b+1)<=c (n-(a+1)) (m-(b+1))+GR c d e n m a b:=IP _ _
variable {b a f:Nat}{ps:List Int}{v l:Int}
theorem zm {t:Nat} (hb:b+1<=m):sg (t+1) (fun x=>e (m-(b+1)+x))=e (m-(b+1))+sg t (fun x=>e (m-b+x)):=by
 rw[Cg];congr 1;exact bJ fun i _=>by congr 1;omega
theorem YD (a:Nat) {t:Nat} (J:b<=m) (ht:t<b):GR c d e n m (a+1) b<=sg t (fun x=>e (m-b+x))+c (n-(a+1)) (m-b+t)+GR c d e n m a (b-(t+1)):=by
 induction b generalizing t with
 | zero=>omega
 | succ b ih=>
  cases t with
  | zero=>have:=YC (c:=c) (d:=d) (e:=e) (n:=n) (m:=m) a b;simp only[sg,pk,AE];exact this
  | succ t=>
   rw[zm J];have h1:=ih (t:=t) eL eL;have M:=TV (c:=c) (d:=d) (e:=e) (n:=n) (m:=m) (a+1) b;have h:m-(b+1)+(t+1)=m-b+t:=by omega
   have I:b+1-(t+1+1)=b-(t+1):=by omega
   rw[h,I];omega
theorem T5 (a:Nat)  (J:b<=m):GR c d e n m (a+1) b=d (n-(a+1))+GR c d e n m a b\/∃ t,t<b/\sg t (fun x=>e (m-b+x))+c (n-(a+1)) (m-b+t)+GR c d e n m a (b-(t+1))=GR c d e n m (a+1) b:=by
 induction b with
 | zero=>exact .inl rfl
 | succ b ih=>
  have h0:GR c d e n m (a+1) (b+1)=min (min (d (n-(a+1))+GR c d e n m a (b+1)) (e (m-(b+1))+GR c d e n m (a+1) b)) (c (n-(a+1)) (m-(b+1))+GR c d e n m a b):=rfl;have h1:=TU (c:=c) (d:=d) (e:=e) (n:=n) (m:=m) a (b+1);by_cases I:GR c d e n m (a+1) (b+1)=c (n-(a+1)) (m-(b+1))+GR c d e n m a b
  ·refine .inr ⟨0,by omega,?_⟩;simp only[sg,pk,AE];exact I.symm
  ·by_cases h3:GR c d e n m (a+1) (b+1)=d (n-(a+1))+GR c d e n m a (b+1)
   ·exact .inl h3
   ·have h4:GR c d e n m (a+1) (b+1)=e (m-(b+1))+GR c d e n m (a+1) b:=by omega
    rcases ih eL with g|⟨t,g1,g2⟩
    ·have:=TV (c:=c) (d:=d) (e:=e) (n:=n) (m:=m) a b;omega
    ·refine .inr ⟨t+1,by omega,?_⟩;have h:m-(b+1)+(t+1)=m-b+t:=by omega
     have M:b+1-(t+1+1)=b-(t+1):=by omega
     rw[zm J,h,M];omega
theorem OQ  (hb:b<=m):YB e m b=sg b (fun x=>e (m-b+x)):=by
 induction b with
 | zero=>rfl
 | succ b ih=>rw[zm hb,YB,ih eL]
theorem G6 (a b:Nat):(wS c d e n m a b).length=a:=by
 induction a generalizing b with
 | zero=>rfl
 | succ a ih=>unfold wS;split<;>simp[ih]
theorem YE    (ha:a<=n) (hf:f<=m) (J:ps.length=a) (h:MR c d e m (n-a) f ps=some v):GR c d e n m a (m-f)<=v:=by
 induction a generalizing f ps v with
 | zero=>
  obtain rfl:=List.length_eq_zero_iff.1 J;simp only[MR,Option.some.injEq] at h
  show YB e m (m-f)<=v
  rw[<-h,OQ eL,show m-(m-f)=f from by omega];exact ly _
 | succ a ih=>
  cases ps with
  | nil=>simp at J
  | cons p ps=>
   have I:ps.length=a:=by simpa using J
   have e1:n-(a+1)+1=n-a:=by omega
   simp only[MR,e1] at h;split at h
   ·obtain⟨u,M,rfl⟩:=Option.map_eq_some_iff.1 h;have:=ih eL hf I M;have:=TU (c:=c) (d:=d) (e:=e) (n:=n) (m:=m) a (m-f);omega
   ·split at h
    ·cases h
    ·obtain⟨u,M,rfl⟩:=Option.map_eq_some_iff.1 h;have h2:=ih eL eL I M;have h3:=YD (c:=c) (d:=d) (e:=e) (n:=n) (m:=m) a (b:=m-f) (t:=p.toNat-f) eL eL;rw[show m-(m-f)=f from by omega,show f+(p.toNat-f)=p.toNat from by omega,show m-f-(p.toNat-f+1)=m-(p.toNat+1) from by omega] at h3;omega
theorem OT  (ha:a<=n) (hf:f<=m):MR c d e m (n-a) f (wS c d e n m a (m-f))=some (GR c d e n m a (m-f)):=by
 induction a generalizing f with
 | zero=>
  show some _=some (YB e m (m-f))
  rw[OQ eL,show m-(m-f)=f from by omega]
 | succ a ih=>
  have J:n-(a+1)+1=n-a:=by omega
  unfold wS;split
  ·rename_i t ht;obtain⟨M,I,-⟩:=eG ht;rw[decide_eq_true_eq] at I;have e2:m-(m-f)=f:=by omega
   rw[e2] at I ⊢;have h3:=ih (f:=f+t+1) eL eL;rw[show m-(f+t+1)=m-f-(t+1) from by omega] at h3;simp only[MR];rw[if_neg eL,if_neg eL,J,zt,h3,uv,show f+t-f=t from by omega];exact congrArg some I
  ·rename_i hn;have M:=lT hn;simp only[MR];simp only[if_true];rw[J,ih eL hf,uv];refine congrArg some ?_;rcases T5 (c:=c) (d:=d) (e:=e) (n:=n) (m:=m) a (b:=m-f) eL with h|⟨t,g1,g2⟩
   ·exact h.symm
   ·have:=M t g1;rw[decide_eq_false_iff_not] at this;exact absurd g2 this
theorem ER    (h:MR c d e m i f ps=some v):keeps m ((f:Int)-1) ps=true:=by
 induction ps generalizing i f v with
 | nil=>rfl
 | cons p ps ih=>
  simp only[MR] at h;unfold keeps;split at h
  ·rename_i J;obtain⟨u,I,-⟩:=Option.map_eq_some_iff.1 h;rw[if_pos J];exact ih I
  ·rename_i J;split at h
   ·cases h
   ·obtain⟨u,I,-⟩:=Option.map_eq_some_iff.1 h;rw[if_neg J,if_neg eL];have:=ih I;rw[show((p.toNat+1:Nat):Int)-1=p from by omega] at this;exact this
theorem T6  {U:Nat->Bool}  (J:∀ j,f<=j->j<m->U j=false) (hf:f<=m) (h:keeps m ((f:Int)-1) ps=true):cs c d e m i U ps=(MR c d e m i f ps).map (sg f (fun j=>if U j then 0 else e j) + ·):=by
 induction ps generalizing i f U with
 | nil=>
  simp only[cs,MR,uv,Option.some.injEq];have e1:m=f+(m-f):=by omega
  have M:=ML (n:=f) (k:=m-f) (f:=fun j=>if U j=true then 0 else e j);rw[<-e1] at M;rw[M];congr 1;exact bJ fun t ht=>by rw[J (f+t) eL eL];simp
 | cons p ps ih=>
  simp only[cs,MR];unfold keeps at h;by_cases I:p=m
  ·rw[if_pos I] at h;rw[if_neg eL,if_pos I,if_pos I,ih J hf h,tt,tt];congr 1;funext x;simp only[Function.comp];omega
  ·rw[if_neg I] at h;split at h
   ·cases h
   rename_i aa;rw[if_neg I,if_neg I];by_cases hm:(m:Int)<p
   ·rw[if_pos eL,if_pos eL];rfl
   ·have hk:keeps m (((p.toNat+1:Nat):Int)-1) ps=true:=by
     rw[show((p.toNat+1:Nat):Int)-1=p from by omega];exact h
    rw[if_neg (by rintro (h|h|⟨_,h⟩);omega;omega;rw[J p.toNat eL eL] at h;cases h),if_neg eL];rw[ih (f:=p.toNat+1) (U:=ins U p.toNat) (fun j h1 h2=>by simp only[ins,J j eL h2,uB,beq_eq_false_iff_ne];omega) eL hk,tt,tt];congr 1;funext x;simp only[Function.comp];have e1:sg (p.toNat+1) (fun j=>if ins U p.toNat j then 0 else e j)=sg f (fun j=>if U j then 0 else e j)+sg (p.toNat-f) (fun x=>e (f+x)):=by
     rw[dI];have e3:ins U p.toNat p.toNat=true:=by simp[ins]
     rw[e3];have M:p.toNat=f+(p.toNat-f):=by omega
     have e4:=ML (n:=f) (k:=p.toNat-f) (f:=fun j=>if ins U p.toNat j=true then 0 else e j);rw[<-M] at e4;rw[e4];simp only[if_true,AF];congr 1
     ·exact bJ fun j hj=>by
       have:(j==p.toNat)=false:=by simp;omega
       simp only[ins,this,GM]
     ·exact bJ fun t ht=>by
       have:(f+t==p.toNat)=false:=by simp;omega
       simp only[ins,this,GM,J (f+t) eL eL];simp
    omega
theorem G7  (h:keeps m (-1) ps=true):cs c d e m 0 wV ps=MR c d e m 0 0 ps:=by
 have:=T6 (c:=c) (d:=d) (e:=e) (i:=0) (f:=0) (U:=wV) (fun _ _ _=>rfl) (fw m) (ps:=ps) (by simpa using h);rw[this];cases MR c d e m 0 0 ps<;>simp[sg]
def sP (n m:Nat) (P:Nat->Nat):Prop:=∀ i j,i<j->j<n->P i<m->P j<m->P i<P j
theorem TW   (h:keeps m l ps=true):(∀ i (hi:i<ps.length),ps[i]≠m->l<ps[i])/\∀ i j (aa:i<j) (hj:j<ps.length),ps[i]≠m->ps[j]≠m->ps[i]<ps[j]:=by
 induction ps generalizing l with
 | nil=>exact⟨fun i hi=>by simp at hi,fun i j _ hj=>by simp at hj⟩
 | cons p ps ih=>
  unfold keeps at h;split at h
  ·rename_i hp;obtain⟨h1,h2⟩:=ih h;refine⟨fun i hi M=>?_,fun i j aa hj I J=>?_⟩
   ·cases i with
    | zero=>exact absurd hp M
    | succ i=>exact h1 i (by simpa using hi) M
   ·cases i with
    | zero=>exact absurd hp I
    | succ i=>
     cases j with
     | zero=>omega
     | succ j=>exact h2 i j eL (by simpa using hj) I J
  ·split at h
   ·cases h
   ·rename_i hp hl;obtain⟨h1,h2⟩:=ih h;refine⟨fun i hi M=>?_,fun i j aa hj I J=>?_⟩
    ·cases i with
     | zero=>show l<p;omega
     | succ i=>have:=h1 i (by simpa using hi) M;show l<ps[i]'(by simpa using hi);omega
    ·cases j with
     | zero=>omega
     | succ j=>
      cases i with
      | zero=>exact h1 j (by simpa using hj) J
      | succ i=>exact h2 i j eL (by simpa using hj) I J
theorem Ci  (h:keeps m (-1) ps=true):sP ps.length m (lp ps):=by
 intro i j M hj I J;obtain⟨h1,h2⟩:=TW h;have e1:lp ps i=(ps[i]'eL).toNat:=by simp[lp,kj,gR (show i<ps.length by omega)]
 have e2:lp ps j=(ps[j]).toNat:=by simp[lp,kj,gR hj]
 have g1:=h1 i eL;have g2:=h1 j hj;have:=h2 i j M hj;rw[e1] at I ⊢;rw[e2] at J ⊢;omega
theorem MS {k:Nat}   (h:sP k m P) (I:∀ i,i<k->P i<=m/\(P i<m->l<P i)):keeps m l (pl P k)=true:=by
 induction k generalizing P l with
 | zero=>rfl
 | succ k ih=>
  rw[Jm];unfold keeps;have J:sP k m (fun r=>P (r+1)):=fun i j M hj=>h (i+1) (j+1) eL eL;split
  ·exact ih J fun i hi=>I (i+1) eL
  ·rename_i hp;have h0:=I 0 eL;rw[if_neg eL];refine ih J fun i hi=>⟨(I (i+1) eL).1,fun hm=>?_⟩;have:=h 0 (i+1) eL eL eL hm;omega
structure Cj (c:Nat->Nat->Int) (d e:Nat->Int) (n m:Nat) (v:Int):Prop where
 has:∃ P,bA n m P/\sP n m P/\cost c d e n m P=v
 low:∀ P,bA n m P->sP n m P->v<=cost c d e n m P
theorem MU:Cj c d e n m (GR c d e n m n m):=by
 constructor
 ·have h:=OT (c:=c) (d:=d) (e:=e) (n:=n) (m:=m) (a:=n) (f:=0) (fy n) (fw m);rw[nn,sb] at h;have I:keeps m (-1) (wS c d e n m n m)=true:=by have:=ER h;simpa using this
  rw[<-G7 I] at h;obtain⟨M,J,-⟩:=Bv h;have h3:=Ci I;rw[G6] at M J h3;exact⟨_,M.asg,h3,by rw[J,lU]⟩
 ·intro P hP hM;have h:=Mp (c:=c) (d:=d) (e:=e) (i:=0) (OO hP);have I:keeps m (-1) (pl P n)=true:=MS hM fun i hi=>⟨hP.le i hi,fun _=>by omega⟩;rw[lU,G7 I] at h;have:=YE (n:=n) (a:=n) (f:=0) (fy n) (fw m) (TT P n) (by rw[nn];exact h);simpa using this
theorem GU.T7 {u:Int} (h:GU c d e n m v) (g:Cj c d e n m u):v<=u:=by
 obtain⟨Q,g1,g1',g2⟩:=g.has;have:=h.low Q g1;omega
end
section
variable {c c':Nat→Nat→Int} {d e d' e':Nat→Int} {n m n' m':Nat} {B:Int}
variable {v v':Int}{s s' t t':Nat->Nat}
theorem G8  (h:GU c d e n m v) (h':GU c' d' e' n' m' v') (f:∀ P,bA n m P->∃ P',bA n' m' P'/\cost c' d' e' n' m' P'<=cost c d e n m P+B):v'<=v+B:=by
 obtain⟨P,h1,h2⟩:=h.has;obtain⟨P',h3,h4⟩:=f P h1;have:=h'.low P' h3;omega
theorem jy (hc:∀ i,i<n->∀ j,j<m->c i j=c' i j) (hd:∀ i,i<n->d i=d' i) (he:∀ j,j<m->e j=e' j) (P:Nat->Nat):cost c d e n m P=cost c' d' e' n m P:=by
 unfold cost;congr 1
 ·exact bJ fun i hi=>by split;exact hc i hi _ (by assumption);exact hd i hi
 ·exact bJ fun j hj=>by split;rfl;exact he j hj
theorem GU.congr  (hc:∀ i,i<n->∀ j,j<m->c i j=c' i j) (hd:∀ i,i<n->d i=d' i) (he:∀ j,j<m->e j=e' j) (h:GU c d e n m v):GU c' d' e' n m v:=by
 obtain⟨⟨P,h1,h2⟩,h3⟩:=h;exact⟨⟨P,h1,by rw[<-jy hc hd he];exact h2⟩,fun Q hQ=>by rw[<-jy hc hd he];exact h3 Q hQ⟩
theorem Cj.congr  (hc:∀ i,i<n->∀ j,j<m->c i j=c' i j) (hd:∀ i,i<n->d i=d' i) (he:∀ j,j<m->e j=e' j) (h:Cj c d e n m v):Cj c' d' e' n m v:=by
 obtain⟨⟨P,h1,h1',h2⟩,h3⟩:=h;exact⟨⟨P,h1,h1',by rw[<-jy hc hd he];exact h2⟩,fun Q hQ hM=>by rw[<-jy hc hd he];exact h3 Q hQ hM⟩
structure Inv (n:Nat) (s s':Nat->Nat):Prop where
 lt:∀ i,i<n->s i<n
 lt':∀ i,i<n->s' i<n
 l:∀ i,i<n->s' (s i)=i
 r:∀ i,i<n->s (s' i)=i
theorem Inv.flip  (h:Inv n s s'):Inv n s' s:=⟨h.lt',h.lt,h.r,h.l⟩
theorem Inv.inj  (h:Inv n s s')  (hi:i<n) (hj:j<n) (he:s i=s j):i=j:=by
 rw[<-h.l i hi,he,h.l j hj]
theorem OU  (h:Inv n s s') (f:Nat->Int):sg n (fun i=>f (s i))=sg n f:=by
 have M:bA n n s:=⟨fun i hi=>C1 (h.lt i hi),fun i j hi I he _=>h.inj hi I he⟩;have J:=BB M f;rw[bJ (g:=fun i=>f (s i)) (fun i hi=>by simp[h.lt i hi]),bJ (f:=fun j=>if used s n j then f j else 0) (g:=f) (fun j I=>by rw[mU.2 ⟨s' j,h.lt' j I,h.r j I⟩];simp)] at J;exact J
def Al (m:Nat) (s t':Nat->Nat) (P:Nat->Nat):Nat->Nat:=fun i=>if P (s i)<m then t' (P (s i)) else m
theorem Jo  (I:Inv n s s') (ht:Inv m t t')  (hP:bA n m P):bA n m (Al m s t' P):=by
 refine⟨fun i hi=>?_,fun i j hi hj M hm=>?_⟩
 ·unfold Al;split
  ·rename_i h;exact C1 (ht.lt' _ h)
  ·exact fy _
 ·unfold Al at M hm;by_cases J:P (s i)<m<;>by_cases h2:P (s j)<m<;>simp only[J,h2,if_true,if_false] at M hm
  ·have:=ht.flip.inj J h2 M;exact I.inj hi hj (hP.inj _ _ (I.lt i hi) (I.lt j hj) this J)
  ·omega
  ·omega
  ·omega
theorem ES  (M:Inv n s s') (I:Inv m t t')  (hP:bA n m P):cost (fun i j=>c (s i) (t j)) (fun i=>d (s i)) (fun j=>e (t j)) n m (Al m s t' P)=cost c d e n m P:=by
 unfold cost;congr 1
 ·rw[<-OU M (fun i=>if P i<m then c i (P i) else d i)];refine bJ fun i hi=>?_;unfold Al;by_cases h:P (s i)<m
  ·have:=I.lt' _ h;rw[if_pos h,if_pos this,if_pos h]
   show c (s i) (t (t' (P (s i))))=_
   rw[I.r _ h]
  ·rw[if_neg h,if_neg (mn m),if_neg h]
 ·rw[<-OU I (fun j=>if used P n j then 0 else e j)];refine bJ fun j hj=>?_;have:used (Al m s t' P) n j=used P n (t j):=by
   rw[tg,mU,mU];constructor
   ·rintro⟨i,hi,J⟩;unfold Al at J;by_cases h:P (s i)<m
    ·rw[if_pos h] at J;exact⟨s i,M.lt i hi,by rw[<-J,I.r _ h]⟩
    ·rw[if_neg h] at J;omega
   ·rintro⟨i,hi,J⟩;refine⟨s' i,M.lt' i hi,?_⟩;have:=I.lt j hj;unfold Al;rw[M.r i hi,J,if_pos this,I.l j hj]
  rw[this]
theorem GU.perm  (J:Inv n s s') (I:Inv m t t')  (h:GU c d e n m v) (h':GU (fun i j=>c (s i) (t j)) (fun i=>d (s i)) (fun j=>e (t j)) n m v'):v'=v:=by
 have h1:=G8 (B:=0) h h' fun P M=>⟨_,Jo J I M,by rw[ES J I M];omega⟩
 have h2:=G8 (B:=0) h' h fun P M=>⟨_,Jo J.flip I.flip M,by
  rw[<-ES J.flip I.flip M,AF]
  exact Kx (jy (fun i hi j hj=>by simp only[J.r i hi,I.r j hj]) (fun i hi=>by simp only[J.r i hi]) (fun j hj=>by simp only[I.r j hj]) _)⟩
 omega
end
end Go.CH.bA
namespace Go.CH.dh
open Go.CH.Scr
structure Drop where
 k:Int
 w:Bs
 c:Int
deriving DecidableEq
structure eW where
 rs:List ik
 ds:List Drop
 es:List Drop
 drop:Int
 ord:Int
 ini:Int
deriving DecidableEq
def iR (k:Int) (s:Bs) (jz:Nat):Bool:=word k s&&(decide (lower s=s)&&decide ((aP k s).1.length<=jz))
def vN (s:Bs):Bool:=decide (s.length<=3)&&s.all jY
def gQ (n:Int):Bool:=decide (0<=n)&&decide (n<=1000)
def ko (R:ik):Int × Bs × Bs:=(R.k,R.f,R.t)
def nS (d:Drop):Int × Bs × Bs:=(d.k,d.w,[])
def vO (R:ik):Bool:=iR R.k R.f 3&&(vN R.t&&gQ R.c)
def vP (jz:Nat) (d:Drop):Bool:=iR d.k d.w jz&&gQ d.c
def tJ (l:List ik):Bool:=decide ((l.map ko).Nodup)&&l.all vO
def jR (jz:Nat) (l:List Drop):Bool:=decide ((l.map nS).Nodup)&&(l.all (vP jz)&&decide (l.length<=40))
def bL (T:eW):Bool:=
 (decide (T.rs≠[])&&(decide (T.rs.length<=80)&&(gQ T.drop&&(gQ T.ord&&gQ T.ini))))&&(tJ T.rs&&(jR 12 T.ds&&jR 4 T.es))
theorem eu {n:Int}:gQ n=true↔0<=n/\n<=1000:=by unfold gQ;simp
variable {k:Int}{s:Bs}
theorem Ap   {m:Nat}:iR k s m=true↔word k s=true/\lower s=s/\(aP k s).1.length<=m:=by unfold iR;simp
theorem uQ :vN s=true↔s.length<=3/\s.all jY=true:=by unfold vN;rw[gA,decide_eq_true_eq]
theorem lX {R:ik}:vO R=true↔iR R.k R.f 3=true/\vN R.t=true/\gQ R.c=true:=by unfold vO;simp
theorem iI {l:List ik}:tJ l=true↔(l.map ko).Nodup/\∀ R ∈ l,vO R=true:=by unfold tJ;simp
theorem bW {T:eW}:bL T=true↔(T.rs≠[]/\T.rs.length<=80/\gQ T.drop=true/\gQ T.ord=true/\gQ T.ini=true)/\tJ T.rs=true/\jR 12 T.ds=true/\jR 4 T.es=true:=by
 unfold bL;simp only[gA,decide_eq_true_eq]
def bO (T:eW) (a:Int) (x:Bs) (b:Int) (y:Bs):Wd:=⟨a,b,(aP a (lower x)).1,(aP b (lower y)).1,T.rs⟩
def okW (T:eW) (a:Int) (x:Bs) (b:Int) (y:Bs):Bool:=word a x&&(word b y&&bL T)
theorem fP {T:eW} {a b:Int} {x y:Bs}:okW T a x b y=true↔word a x=true/\word b y=true/\bL T=true:=by unfold okW;simp
section
variable {T:eW} {a b:Int} {x y:Bs}
theorem rF (h:bL T=true):(bO T a x b y).good/\(bO T a x b y).pJ:=by
 obtain⟨-,h1,-,-⟩:=bW.1 h;obtain⟨-,M⟩:=iI.1 h1;constructor
 ·intro R I;obtain⟨f1,f2,f3⟩:=lX.1 (M R I);have J:=eu.1 f3;refine⟨J.1,J.2,fun e=>?_⟩;have:=(Ap.1 f1).1;rw[e] at this;exact Cq this rfl
 ·intro R I;obtain⟨f1,f2,f3⟩:=lX.1 (M R I);exact uQ.1 f2
theorem Hw (h:okW T a x b y=true):1<=(bO T a x b y).l.length/\(bO T a x b y).l.length<=12/\1<=(bO T a x b y).m.length/\(bO T a x b y).m.length<=12:=by
 obtain⟨h1,h2,-⟩:=fP.1 h;have e1:=(eP.1 (iV h1)).2;have e2:=(eP.1 (iV h2)).2;exact⟨e1.1,e1.2,e2.1,e2.2⟩
def jl (T:eW) (a:Int) (x:Bs) (b:Int) (y:Bs) (bound:Int) (C:List Pt):Prop:=okW T a x b y=true/\Holds (bO T a x b y) bound C
inductive Cv (T:eW) (a:Int) (x:Bs) (b:Int) (y:Bs) (bound:Int):List Pt->Int->Prop
 | arg (h:okW T a x b y=false\/bound<0\/100000<bound):Cv T a x b y bound [] 1
 | none (h:okW T a x b y=true) (h0:0<=bound) (h1:bound<=100000) (h2:(bO T a x b y).fi gC<bound):Cv T a x b y bound [] 11
 | some (C:List Pt) (h:okW T a x b y=true) (h0:0<=bound) (h1:bound<=100000) (h2:bound<=(bO T a x b y).fi gC) (hc:vW (bO T a x b y) bound C):Cv T a x b y bound C 0
end
section
theorem Y5 {r:Bs}:∀ cs:List Bs,ctx k cs r->aP k cs.flatten=(cs,[]):=by
 intro cs
 induction cs with
 | nil=>intro _;exact fK fY
 | cons x xs ih=>
  rintro⟨h1,h,h3⟩;have e:=ih h3;have J:0<x.length:=List.length_pos_iff.2 h1;have M:fR k (x++xs.flatten)=x.length:=by
   have I:=Ul (k:=k) (l:=x++(xs.flatten++r)) (j:=(x++xs.flatten).length) (by rw[h];omega) (by rw[h,gd];omega);rw[<-l3,List.take_left' rfl,l3,h] at I;exact I
  rw[Fs,gP (by rw[M];omega),M,List.take_left' rfl,List.drop_left' rfl,e]
theorem V2 (l:Bs):ctx k (aP k l).1 (aP k l).2:=by
 refine oG (k:=k) (P:=fun l=>ctx k (aP k l).1 (aP k l).2) (fun l h=>?_) (fun l h ih=>?_) l
 ·show ctx k (aP k l).1 (aP k l).2
  rw[fK h];trivial
 ·show ctx k (aP k l).1 (aP k l).2
  have I:=rD (k:=k) (l:=l);rw[gP h];refine⟨?_,?_,ih⟩
  ·intro e;have:=congrArg List.length e;rw[kt,lA] at this;omega
  ·rw[zu,tM,kt];omega
theorem JJ {r:Bs}:∀ (cs:List Bs) (i:Nat),ctx k cs r->ctx k (cs.drop i) r
 | cs,0,h=>by rw[xF];exact h
 | [],i+1,h=>trivial
 | x::xs,i+1,h=>JJ xs i h.2.2
theorem JK {r:Bs}:∀ (cs:List Bs) (n:Nat),ctx k cs r->ctx k (cs.take n) ((cs.drop n).flatten++r)
 | cs,0,h=>trivial
 | [],n+1,h=>trivial
 | x::xs,n+1,h=>by
  refine⟨h.1,?_,JK xs n h.2.2⟩;have e:(xs.take n).flatten++((xs.drop n).flatten++r)=xs.flatten++r:=by
   rw[<-l3,<-zj,tM]
  show fR k (x++((xs.take n).flatten++((xs.drop n).flatten++r)))=x.length
  rw[e];exact h.2.1
theorem Cw (w:Bs) (i n:Nat):aP k (((aP k w).1.drop i).take n).flatten=(((aP k w).1.drop i).take n,[]):=Y5 _ (JK _ n (JJ _ i (V2 w)))
theorem Y6 (w:Bs):∀ x ∈ (aP k w).1,x≠[]:=fun x hx e=>by
 have h:=E5 (k:=k) w x hx;rw[e,fK fY] at h;cases h
variable {i:Nat}
theorem rG {w f:Bs}  (M:word k f=true):takes ((aP k w).1.drop i) f=(if((aP k w).1.drop i).take (aP k f).1.length=(aP k f).1 then(aP k f).1.length else 0):=by
 have aa:=eP.1 M;by_cases h:((aP k w).1.drop i).take (aP k f).1.length=(aP k f).1
 ·rw[if_pos h];have I:(aP k f).1.length<=((aP k w).1.drop i).length:=by
   have:=congrArg List.length h;rw[kt] at this;omega
  have e:=Un I (fun x hx=>Y6 w x (zd hx));rw[h,uO M] at e;exact e
 ·rw[if_neg h];refine E4 fun hn=>?_;have e:=M4 hn;have J:=Cw (k:=k) w i (takes ((aP k w).1.drop i) f);rw[e] at J;have h3:(aP k f).1=((aP k w).1.drop i).take (takes ((aP k w).1.drop i) f):=by rw[J]
  have h4:(aP k f).1.length=takes ((aP k w).1.drop i) f:=by
   rw[h3,kt];have:=qE (l:=(aP k w).1.drop i) (t:=f);omega
  exact h (by rw[h4];exact h3.symm)
theorem M7 {q:Bs} (h:∀ c ∈ q,low c=c):lower q=q:=by
 unfold lower
 conv=>rhs;rw[<-AH q]
 exact nt fun c hc=>h c hc
end
structure AR where
 ix:Nat
 c:Int
 f:List Bs
 t:Bs
deriving DecidableEq
def Bj (k:Int) (x:ik × Nat):Option AR:=if x.1.k=k then(if word k x.1.f=true then some ⟨x.2,x.1.c,(aP k x.1.f).1,x.1.t⟩ else none) else none
def gT (rs:List ik) (k:Int):List AR:=rs.zipIdx.filterMap (Bj k)
def nP (l:List Bs) (r:AR) (i:Nat):Bool:=decide (i+r.f.length<=l.length)&&decide ((l.drop i).take r.f.length=r.f)
def Wd.M8 (W:Wd) (s:St) (tw:Bs):Option (Bs × Bool):=
 if tw.isPrefixOf s.a then some (s.a.drop tw.length,s.r&&decide (s.a.drop tw.length≠[]))
 else if s.a.isPrefixOf tw then some (tw.drop s.a.length,!W.left s)
 else none
def Wd.Ut (W:Wd) (s:St) (r:AR):Option (AR × St):=
 if nP (if W.left s then W.l else W.m) r (if W.left s then s.i else s.j)=true then
  (W.M8 s r.t).map fun x=>(r,if W.left s then ⟨s.i+r.f.length,s.j,x.1,x.2⟩ else ⟨s.i,s.j+r.f.length,x.1,x.2⟩)
 else none
def Wd.tL (W:Wd) (s:St):List (AR × St):=(gT W.rs (if W.left s then W.ka else W.kb)).filterMap (W.Ut s)
section
variable {W:Wd} {s:St}
theorem Cx {p q:Bs} (h:p.isPrefixOf q=true) (h2:q.drop p.length=[]):q=p:=by
 obtain⟨r,rfl⟩:=jL.1 h;rw[ry] at h2;rw[h2,mS]
theorem Uu (J:Bs):W.M8 s J=W.ah s J:=by
 unfold Wd.M8 Wd.ah;by_cases M:J.isPrefixOf s.a=true
 ·rw[if_pos M];by_cases I:s.a.drop J.length=[]
  ·have e:=Cx M I;rw[if_neg (by simp[I]),if_pos (by rw[e,Hh];exact List.prefix_refl _)];rw[e];simp
  ·rw[if_pos ⟨M,I⟩];simp[I]
 ·rw[if_neg M,if_neg (fun h:J.isPrefixOf s.a=true/\s.a.drop J.length≠[]=>M h.1)];by_cases I:s.a.isPrefixOf J=true
  ·rw[if_pos I,if_pos I];have h3:J.drop s.a.length≠[]:=fun e=>M (by rw[Cx I e,Hh];exact List.prefix_refl _);simp[h3]
  ·rw[if_neg I,if_neg I]
end
section
variable {T:eW} {a b:Int} {x y:Bs} {s:St}
variable {w:Bs}{i:Nat}
theorem Cy  {f:Bs}  (J:word k f=true) (hi:i<=(aP k w).1.length) (ix:Nat) (c:Int) (t:Bs) :
  nP (aP k w).1 ⟨ix,c,(aP k f).1,t⟩ i=true↔takes ((aP k w).1.drop i) f≠0:=by
 have M:=eP.1 J;rw[rG J];unfold nP;simp only[gA,decide_eq_true_eq];constructor
 ·rintro⟨h1,I⟩;rw[if_pos I];omega
 ·intro h;split at h
  ·rename_i I;have:=congrArg List.length I;rw[kt,k6] at this;exact⟨by omega,I⟩
  ·exact absurd rfl h
theorem M9 (hv:bL T=true) {R:ik} (hR:R ∈ T.rs):word R.k R.f=true:=
 (Ap.1 (lX.1 ((iI.1 (bW.1 hv).2.1).2 R hR)).1).1
theorem ql {α β:Type} (f:α->Option β):∀ (l:List α) (n:Nat),(l.zipIdx n).filterMap (fun p=>f p.1)=l.filterMap f
 | [],_=>rfl
 | x::l,n=>by
  rw[List.zipIdx_cons];cases h:f x with
  | none=>rw[B0 h,B0 (by simpa using h),ql f l (n+1)]
  | some y=>rw[xm h,xm (by simpa using h),ql f l (n+1)]
theorem Cz {α β:Type} {f g:α->Option β}:∀ (l:List α),(∀ x ∈ l,f x=g x)->l.filterMap f=l.filterMap g
 | [],_=>rfl
 | x::l,h=>by
  have e:=h x (mz ..);have ih:=Cz l (fun y hy=>h y (pP _ hy));cases hg:g x with
  | none=>rw[B0 (e.trans hg),B0 hg,ih]
  | some z=>rw[xm (e.trans hg),xm hg,ih]
theorem Hz {α:Type}:∀ (l:List α) (n:Nat) {p:α × Nat},p ∈ l.zipIdx n->p.1 ∈ l:=fun l n p hp=>by
 obtain⟨x,i⟩:=p;exact(JP hp).2.2 ▸ gv _
theorem zF (hv:bL T=true) (hs:(bO T a x b y).ok s):((bO T a x b y).tL s).map (fun p=>(p.1.c,p.2))=(bO T a x b y).moves s:=by
 unfold Wd.tL Wd.moves gT;rw[List.filterMap_filterMap,List.map_filterMap,show(bO T a x b y).rs.filterMap ((bO T a x b y).mv s)=((bO T a x b y).rs.zipIdx).filterMap (fun p=>(bO T a x b y).mv s p.1) from(ql _ _ 0).symm];refine Cz _ fun p hp=>?_;have hR:=Hz _ _ hp;have hw:=M9 hv hR;obtain⟨R,i⟩:=p;simp only at hR hw ⊢;unfold Bj Wd.mv;simp only;cases hl:(bO T a x b y).left s with
 | true=>
  have M:(bO T a x b y).used s R=if R.k=a then takes ((aP a (lower x)).1.drop s.i) R.f else 0:=by unfold Wd.used;rw[if_pos hl];rfl
  simp only[if_true]
  show Option.map _ ((if R.k=a then _ else none:Option AR).bind _)=_
  by_cases J:R.k=a
  ·rw[if_pos J] at M;subst J;rw[if_pos rfl,if_pos (show word (bO T R.k x b y).ka R.f=true from hw),M];simp only[CL];unfold Wd.Ut;rw[hl];simp only[if_true];have hf:=Cy (k:=R.k) (w:=lower x) (i:=s.i) hw hs.1 i R.c R.t;by_cases I:takes ((aP R.k (lower x)).1.drop s.i) R.f=0
   ·rw[if_pos I];refine(congrArg _ (if_neg (by intro h;exact(hf.1 h) I))).trans ?_;rfl
   ·have hn:takes ((aP R.k (lower x)).1.drop s.i) R.f=(aP R.k R.f).1.length:=by
     rw[rG hw] at I ⊢;split at I
     ·rename_i h;rw[if_pos h]
     ·exact absurd rfl I
    rw[if_neg I];refine(congrArg _ (if_pos (hf.2 I))).trans ?_;rw[Uu,tt,hn];rfl
  ·rw[if_neg J] at M;rw[if_neg J,M,if_pos rfl];rfl
 | false=>
  have M:(bO T a x b y).used s R=if R.k=b then takes ((aP b (lower y)).1.drop s.j) R.f else 0:=by unfold Wd.used;rw[if_neg (by rw[hl];decide)];rfl
  simp only[kO,if_false]
  show Option.map _ ((if R.k=b then _ else none:Option AR).bind _)=_
  by_cases J:R.k=b
  ·rw[if_pos J] at M;subst J;rw[if_pos rfl,if_pos (show word (bO T a x R.k y).kb R.f=true from hw),M];simp only[CL];unfold Wd.Ut;rw[hl];simp only[kO,if_false];have hf:=Cy (k:=R.k) (w:=lower y) (i:=s.j) hw hs.2.1 i R.c R.t;by_cases I:takes ((aP R.k (lower y)).1.drop s.j) R.f=0
   ·rw[if_pos I];refine(congrArg _ (if_neg (by intro h;exact(hf.1 h) I))).trans ?_;rfl
   ·have hn:takes ((aP R.k (lower y)).1.drop s.j) R.f=(aP R.k R.f).1.length:=by
     rw[rG hw] at I ⊢;split at I
     ·rename_i h;rw[if_pos h]
     ·exact absurd rfl I
    rw[if_neg I];refine(congrArg _ (if_pos (hf.2 I))).trans ?_;rw[Uu,tt,hn];rfl
  ·rw[if_neg J] at M;rw[if_neg J,M,if_pos rfl];rfl
structure Dv where
 c:Int
 L:List Int
 M:List Int
 F:Bs
deriving DecidableEq
def Bl (l:List Bs) (rs:List AR):List Int->Nat->Option (Bs × Int × Nat)
 | [],i=>some ([],0,i)
 | k::ks,i=>match rs.find? (fun r=>decide ((r.ix:Int)=k)) with
  | none=>none
  | some r=>if nP l r i=true then(Bl l rs ks (i+r.f.length)).map fun z=>(r.t++z.1,r.c+z.2.1,z.2.2) else none
def Ia (T:eW) (a:Int) (x:Bs) (b:Int) (y:Bs) (d:Dv):Prop:=
 okW T a x b y=true/\∃ F c1 c2,Bl (bO T a x b y).l (gT T.rs a) d.L 0=some (F,c1,(bO T a x b y).l.length)/\Bl (bO T a x b y).m (gT T.rs b) d.M 0=some (F,c2,(bO T a x b y).m.length)/\F=d.F/\c1+c2=d.c
theorem Uv (hv:bL T=true)  :∀ (ks:List Int) (i:Nat) {F:Bs} {c:Int} {e:Nat},i<=(aP k w).1.length->Bl (aP k w).1 (gT T.rs k) ks i=some (F,c,e)->e=(aP k w).1.length->∃ L,Wr k T.rs ((aP k w).1.drop i) L F c:=by
 intro ks
 induction ks with
 | nil=>
  intro i F c e hi h he;unfold Bl at h;injection h with h
  injection h with h1 h2
  injection h2 with h2 h3
  subst h1 h2 h3;rw[he,ui];exact⟨[],.nil⟩
 | cons q ks ih=>
  intro i F c e hi h he;unfold Bl at h;cases hf:(gT T.rs k).find? (fun r=>decide ((r.ix:Int)=q)) with
  | none=>rw[hf] at h;cases h
  | some r=>
   rw[hf] at h;simp only at h;split at h
   ·rename_i J;rw[B4] at h;obtain⟨⟨F',c',e'⟩,h1,h2⟩:=h;injection h2 with h2 h3
    injection h3 with h3 h4
    subst h2 h3 h4;have hm:=s7 hf;unfold gT at hm;obtain⟨⟨R,ix⟩,hp,M⟩:=List.mem_filterMap.1 hm;have hR:=Hz _ _ hp;unfold Bj at M;simp only at M;split at M
    ·rename_i hk;split at M
     ·rename_i hw;injection M with M
      subst M;have I:=(Cy (k:=k) (w:=w) (i:=i) hw hi ix R.c R.t).1 J;have hn:takes ((aP k w).1.drop i) R.f=(aP k R.f).1.length:=by
       rw[rG hw] at I ⊢;split at I
       ·rename_i h;rw[if_pos h]
       ·exact absurd rfl I
      have aa:i+(aP k R.f).1.length<=(aP k w).1.length:=by
       unfold nP at J;simp only[gA,decide_eq_true_eq] at J;exact J.1
      obtain⟨L,hL⟩:=ih _ aa h1 he;refine⟨R::L,.cons hR hk I ?_⟩;rw[hn,uA];exact hL
     ·cases M
    ·cases M
   ·cases h
theorem Ru {d:Dv} (h:Ia T a x b y d):Y3 (bO T a x b y) gC d.c:=by
 obtain⟨h1,F,c1,c2,h2,h3,h4,h5⟩:=h;have hv:=(fP.1 h1).2.2;obtain⟨L,hL⟩:=Uv hv d.L 0 (fw _) h2 rfl;obtain⟨M,hM⟩:=Uv hv d.M 0 (fw _) h3 rfl;exact⟨L,M,F,F,c1,c2,hL,hM,h5.symm,by simp[gC]⟩
end
section
variable {W:Wd} {bound:Int}
end
def Wd.pick (W:Wd) (s:St):Option (AR × St):=(W.tL s).find? fun p=>decide (p.1.c+W.fi p.2=W.fi s)
def Wd.gI (W:Wd):Nat->St->List Int × List Int × Bs
 | 0,_=>([],[],[])
 | n+1,s=>if s=W.fin then([],[],[]) else match W.pick s with
  | none=>([],[],[])
  | some (r,s')=>if s.i<s'.i then((r.ix:Int)::(W.gI n s').1,(W.gI n s').2.1,r.t++(W.gI n s').2.2) else((W.gI n s').1,(r.ix:Int)::(W.gI n s').2.1,(W.gI n s').2.2)
def Wd.Dd (W:Wd):Dv:=⟨W.fi gC,(W.gI (W.il gC) gC).1,(W.gI (W.il gC) gC).2.1,(W.gI (W.il gC) gC).2.2⟩
inductive Ar (T:eW) (a:Int) (x:Bs) (b:Int) (y:Bs):Dv->Int->Prop
 | arg (h:okW T a x b y=false):Ar T a x b y ⟨0,[],[],[]⟩ 1
 | none (h:okW T a x b y=true) (h2:(bO T a x b y).fi gC=never):Ar T a x b y ⟨0,[],[],[]⟩ 11
 | some (h:okW T a x b y=true) (h2:(bO T a x b y).fi gC<never):Ar T a x b y (bO T a x b y).Dd 0
section
variable {T:eW} {a b:Int} {x y:Bs} {bound:Int} {C:List Pt} {d:Dv} {e:Int}
theorem xD (h:okW T a x b y=true):(bO T a x b y).l.length+(bO T a x b y).m.length<=1000:=by have:=Hw h;omega
theorem xE (h:okW T a x b y=true):(bO T a x b y).good:=(rF (fP.1 h).2.2).1
theorem Rv (hc:jl T a x b y bound C):(Ar T a x b y d e->e=11\/e=0/\bound<=d.c)/\(Ia T a x b y d->bound<=d.c):=by
 obtain⟨J,M⟩:=hc;have I:=xE J;constructor
 ·intro hb;cases hb with
  | arg h=>rw[J] at h;cases h
  | none=>exact .inl rfl
  | some _ h3=>
   refine .inr ⟨rfl,?_⟩;rcases qF I (xD J) _ gC oA (fy _) with⟨hp,_⟩|⟨hn,_⟩
   ·exact Cr M I hp
   ·rw[hn] at h3;exact absurd h3 eS
 ·intro hd;exact Cr M I ((oH oA).2 (Ru hd))
theorem Fe (h:Ar T a x b y d 0):d.c=(bO T a x b y).fi gC/\okW T a x b y=true/\0<=d.c/\d.c<=24000:=by
 generalize I:(0:Int)=e at h;cases h with
 | arg=>cases I
 | none=>cases I
 | some h h2=>
  have M:=gL (xE h) oA;refine⟨rfl,h,M,?_⟩;rcases qF (xE h) (xD h) _ gC oA (fy _) with⟨_,J⟩|⟨hn,_⟩
  ·have:=Hw h;have e:(bO T a x b y).il gC=(bO T a x b y).l.length+(bO T a x b y).m.length:=rfl;rw[e] at J
   show(bO T a x b y).fi gC<=24000
   omega
  ·rw[hn] at h2;exact absurd h2 eS
end
end Go.CH.dh
namespace Go.CH.bA
section
variable (c:Nat→Nat→Int) (d e:Nat→Int) (n m:Nat)
def tst (a:Nat) (U:Nat->Bool) (j:Nat):Bool:=!U j&&decide (c (n-(a+1)) j+L c d e n m a (ins U j)=L c d e n m (a+1) U)
def mW:Int:=L c d e n m n wV
def Yp:List Int:=gr c d e n m n wV
def zo (i:Nat):Int:=L (jW c n i) (jX d n i) e (n+1) m (n+1) wV-mW c d e n m
def BE:List Int:=(List.range n).map (zo c d e n m)
def vh (j:Nat):Int:=vH wV (fun i=>c i j-zo c d e n m i) (e j) n
def BV:List Int:=(List.range m).map (vh c d e n m)
end
section
variable {c:Nat→Nat→Int} {d e:Nat→Int} {n m:Nat}
variable {p U:Nat->Bool}{j a:Nat}
theorem Jp   (hj:j<m) (hp:p j=true) (hb:∀ t,t<j->p t=false):(List.range m).find? p=some j:=by
 rw[Nm];exact⟨hp,List.mem_range.2 hj,fun t ht=>by simp[hb t ht]⟩
theorem EU  (hb:∀ t,t<m->p t=false):(List.range m).find? p=none:=by
 rw[Cp];exact fun t ht=>by simp[hb t (List.mem_range.1 ht)]
theorem Up   (I:j<m) (h:tst c d e n m a U j=true) (J:∀ t,t<j->tst c d e n m a U t=false) :
  gr c d e n m (a+1) U=(j:Int)::gr c d e n m a (ins U j)/\L c d e n m a (ins U j)=L c d e n m (a+1) U-c (n-(a+1)) j:=by
 refine⟨?_,?_⟩
 ·rw[gr];have:=Jp (p:=fun j=>!U j&&decide (c (n-(a+1)) j+L c d e n m a (ins U j)=L c d e n m (a+1) U)) I h J;rw[this]
 ·unfold tst at h;simp only[gA,decide_eq_true_eq] at h;omega
theorem YH   (J:∀ t,t<m->tst c d e n m a U t=false) :
  gr c d e n m (a+1) U=(m:Int)::gr c d e n m a U/\L c d e n m a U=L c d e n m (a+1) U-d (n-(a+1)):=by
 refine⟨?_,?_⟩
 ·rw[gr];have:=EU (m:=m) (p:=fun j=>!U j&&decide (c (n-(a+1)) j+L c d e n m a (ins U j)=L c d e n m (a+1) U)) J;rw[this]
 ·rcases zk (U:=U) (f:=fun j=>c (n-(a+1)) j+L c d e n m a (ins U j)) (a:=d (n-(a+1))+L c d e n m a U) (m:=m) with h|⟨j,g1,g2,g3⟩
  ·have:L c d e n m (a+1) U=d (n-(a+1))+L c d e n m a U:=h;omega
  ·exfalso;have I:=J j g1;unfold tst at I;rw[g2] at I;simp only[mT,lx,decide_eq_false_iff_not] at I;exact I g3.symm
theorem wX:dh c d e n m (mW c d e n m) (zo c d e n m) (vh c d e n m) where
 opt:=OP
 more:=fun i hi=>by
  have:zo c d e n m i+mW c d e n m=L (jW c n i) (jX d n i) e (n+1) m (n+1) wV:=by unfold zo;omega
  rw[this];exact OP
 ve:=fun j I=>sN
 vc:=fun j I i hi=>TS (f:=fun i=>c i j-zo c d e n m i) hi rfl
 vis:=fun j I=>by
  rcases zk (U:=wV) (f:=fun i=>c i j-zo c d e n m i) (a:=e j) (m:=n) with h|⟨i,g1,g2,g3⟩
  ·exact .inl h
  ·exact .inr ⟨i,g1,g3⟩
end
end Go.CH.bA
namespace Go.CH.Scr
structure aQ where
 k:Int
 ws:List Bs
def Um:aQ:=⟨0,[]⟩
def VM:Bs:=[112,108,97,105,110]
def VS:Bs:=[99,97,115,101,100]
def VV:Bs:=[97,98,106,97,100]
def YW:Bs:=[115,121,108,108,97,98]
def eT (n:aQ):Bool:=n.ws.all (word n.k)&&(decide (0<n.ws.length)&&decide (n.ws.length<=6))
def pre (t:Bs):Int × Nat:=
 if(VM++[58]).isPrefixOf t then(1,6) else if(VS++[58]).isPrefixOf t then(2,6)
 else if(VV++[58]).isPrefixOf t then(3,6) else if(YW++[58]).isPrefixOf t then(4,7) else(0,0)
def done (k:Int) (len:Nat):G3->aQ × Int × Int
 | .ok ws=>if ws=[] then(Um,6,len) else(⟨k,ws⟩,0,0)
 | .err e at_=>(Um,e,at_)
theorem aZ {n:aQ}:eT n=true↔JC n.k n.ws/\0<n.ws.length/\n.ws.length<=6:=by
 unfold eT JC;rw[gA,gA,decide_eq_true_eq,decide_eq_true_eq,j8]
end Go.CH.Scr
namespace Go.CH.Mtc
open Go.CH.Scr Go.CH.dh
def bP (k:Int) (x:Bs):List Bs:=if word k x then(aP k (lower x)).1 else []
structure Vr where
 w:Bs
 e:Int
 c:Int
deriving DecidableEq
def j3 (k:Int) (l:List Bs) (p:dh.Drop × Nat):Option Vr:=
 if p.1.k=k/\(bP k p.1.w).length<l.length/\l.drop (l.length-(bP k p.1.w).length)=bP k p.1.w then
  some ⟨(l.take (l.length-(bP k p.1.w).length)).flatten,p.2,p.1.c⟩ else none
def eX (T:eW) (k:Int) (x:Bs):List Vr:=⟨(bP k x).flatten,-1,0⟩::T.es.zipIdx.filterMap (j3 k (bP k x))
def bQ (T:eW) (k:Int) (x:Bs):Int:=match T.ds.find? (fun d=>decide (d.k=k)&&decide (d.w=lower x)) with
 | some d=>d.c
 | none=>T.drop
structure Wy where
 kd:Int
 l:Int
 r:Int
 c:Int
 x:Bs
 y:Bs
deriving DecidableEq
def ic (l:List Bs):Bs:=l.headD []
def vK (u v:Vr):Wy:=⟨1,u.e,v.e,u.c+v.c,u.w,v.w⟩
def pU (us vs:List Vr):List Wy:=us.flatMap fun u=>vs.map (vK u)
def jF (kd ini:Int) (x y:List Bs):Wy:=⟨kd,-1,-1,ini,ic x,ic y⟩
def iA (ini:Int) (us vs:List Vr) (p q:List Bs):List Wy:=
 pU us vs++((if p.length=1 then [jF 2 ini p q] else [])++(if q.length=1 then [jF 3 ini p q] else []))
def lu (T:eW) (k:Int) (x:Bs) (k2:Int) (y:Bs):List Wy:=iA T.ini (eX T k x) (eX T k2 y) (bP k x) (bP k2 y)
def eZ (T:eW) (k:Int) (x:Bs) (k2:Int) (y:Bs):Option Dv:=
 if okW T k x k2 y=true/\(bO T k x k2 y).fi gC<never then some (bO T k x k2 y).Dd else none
structure Pr where
 i:Int
 j:Int
 kd:Int
 l:Int
 r:Int
 c:Int
 d:Dv
deriving DecidableEq
def P8:Dv:=⟨0,[],[],[]⟩
def wj:Pr:=⟨0,0,0,0,0,0,P8⟩
def NM (T:eW) (k k2:Int) (w:Wy):Option Pr:=(eZ T k w.x k2 w.y).map fun d=>⟨0,0,w.kd,w.l,w.r,w.c+d.c,d⟩
def nN (T:eW) (k:Int) (x:Bs) (k2:Int) (y:Bs):List Pr:=(lu T k x k2 y).filterMap (NM T k k2)
def vS (b:Option Pr) (p:Pr):Option Pr:=match b with
 | none=>some p
 | some q=>if p.c<q.c then some p else some q
def first (l:List Pr):Option Pr:=l.foldl vS none
def iL (T:eW) (k:Int) (x:Bs) (k2:Int) (y:Bs):Option Pr:=first (nN T k x k2 y)
def nK (T:eW) (a b:aQ):Bool:=bL T&&(eT a&&eT b)
def wd (a:aQ) (i:Nat):Bs:=a.ws.getD i []
def BM (T:eW) (a b:aQ) (i j:Nat):Pr:=match iL T a.k (wd a i) b.k (wd b j) with
 | some p=>{ p with i:=i,j:=j }
 | none=>⟨i,j,0,0,0,100000,P8⟩
def cM (T:eW) (a b:aQ) (i j:Nat):Int:=(BM T a b i j).c
def dM (T:eW) (a:aQ) (i:Nat):Int:=bQ T a.k (wd a i)
def nD (T:eW) (a b:aQ):Int:=bA.mW (cM T a b) (dM T a) (dM T b) a.ws.length b.ws.length
def uo (T:eW) (a b:aQ):List Int:=bA.Yp (cM T a b) (dM T a) (dM T b) a.ws.length b.ws.length
def jP (T:eW) (a b:aQ):Int:=bA.GR (cM T a b) (dM T a) (dM T b) a.ws.length b.ws.length a.ws.length b.ws.length
def vL (T:eW) (a b:aQ):List Int:=bA.wS (cM T a b) (dM T a) (dM T b) a.ws.length b.ws.length a.ws.length b.ws.length
def fE (T:eW) (a b:aQ):Nat->List Int->List Pr
 | _,[]=>[]
 | i,j::l=>if 0<=j/\j<b.ws.length then BM T a b i j.toNat::fE T a b (i+1) l else fE T a b (i+1) l
structure Mt where
 c:Int
 s:Bool
 ps:List Pr
deriving DecidableEq
def Re:Mt:=⟨0,false,[]⟩
def fJ (T:eW) (a b:aQ):Mt:=
 if nD T a b+T.ord<jP T a b then ⟨nD T a b+T.ord,true,fE T a b 0 (uo T a b)⟩ else ⟨jP T a b,false,fE T a b 0 (vL T a b)⟩
inductive Bq (T:eW) (a b:aQ):Mt->Int->Prop
 | arg (h:nK T a b=false):Bq T a b Re 1
 | some (h:nK T a b=true):Bq T a b (fJ T a b) 0
def VP (T:eW) (k:Int) (x:Bs) (k2:Int) (y:Bs) (p:Pr):Prop:=
 ∃ w,(lu T k x k2 y).find? (fun w=>decide (w.kd=p.kd)&&(decide (w.l=p.l)&&decide (w.r=p.r)))=some w/\p.c=w.c+p.d.c/\Ia T k w.x k2 w.y p.d
def Iw (T:eW) (a b:aQ) (s:Bool):Int->Int->List Int->List Pr->Prop
 | _,_,_,[]=>True
 | last,before,rs,p::l=>last<p.i/\p.i<a.ws.length/\0<=p.j/\p.j<b.ws.length/\p.j ∉ rs/\(s=true\/before<=p.j)/\VP T a.k (wd a p.i.toNat) b.k (wd b p.j.toNat) p/\Iw T a b s p.i p.j (p.j::rs) l
def Ga (T:eW) (a:aQ) (us:List Int):Int:=bA.sg a.ws.length (fun i=>if(i:Int) ∈ us then 0 else dM T a i)
def Dp (T:eW) (a b:aQ) (m:Mt):Int:=(if m.s then T.ord else 0)+(m.ps.map (·.c)).sum+Ga T a (m.ps.map (·.i))+Ga T b (m.ps.map (·.j))
def acu (T:eW) (a b:aQ) (m:Mt):Prop:=nK T a b=true/\Iw T a b m.s (-1) (-1) [] m.ps/\m.c=Dp T a b m
section
variable {T:eW} {k k2:Int} {x y:Bs} {a b:aQ}
theorem Gb:∀ (l:List Pr) (q:Pr),∃ p,l.foldl vS (some q)=some p/\(p=q\/p ∈ l)/\p.c<=q.c/\∀ r ∈ l,p.c<=r.c:=by
 intro l
 induction l with
 | nil=>intro q;exact⟨q,rfl,.inl rfl,ly _,fun r I=>by cases I⟩
 | cons z l ih=>
  intro q;rw[vn];by_cases h:z.c<q.c
  ·rw[show vS (some q) z=some z from if_pos h];obtain⟨p,M,J,h3,h4⟩:=ih z;refine⟨p,M,.inr ?_,by omega,fun r I=>?_⟩
   ·rcases J with rfl|J
    ·exact mz ..
    ·exact pP _ J
   ·rcases List.mem_cons.1 I with rfl|I
    ·exact h3
    ·exact h4 r I
  ·rw[show vS (some q) z=some q from if_neg h];obtain⟨p,M,J,h3,h4⟩:=ih q;refine⟨p,M,?_,h3,fun r I=>?_⟩
   ·rcases J with rfl|J
    ·exact .inl rfl
    ·exact .inr (pP _ J)
   ·rcases List.mem_cons.1 I with rfl|I
    ·omega
    ·exact h4 r I
variable {l:List Pr}{p:Pr}{d:Dv}{w:Wy}{i j:Nat}
theorem lT :first l=none↔l=[]:=by
 cases l with
 | nil=>exact⟨fun _=>rfl,fun _=>rfl⟩
 | cons z l=>
  unfold first
  rw[vn];obtain⟨p,h1,-⟩:=Gb l z
  show l.foldl vS (some z)=none↔z::l=[]
  rw[h1];constructor
  ·intro h;cases h
  ·intro h;cases h
theorem eG   (h:first l=some p):p ∈ l/\∀ r ∈ l,p.c<=r.c:=by
 cases l with
 | nil=>cases h
 | cons z l=>
  unfold first at h
  rw[vn] at h;obtain⟨q,M,I,h3,h4⟩:=Gb l z;have h:l.foldl vS (some z)=some p:=h;rw[M] at h;injection h with h
  subst h;refine⟨?_,fun r J=>?_⟩
  ·rcases I with rfl|I
   ·exact mz ..
   ·exact pP _ I
  ·rcases List.mem_cons.1 J with rfl|J
   ·exact h3
   ·exact h4 r J
theorem La  {r:Pr} (h:r ∈ l):∃ p,first l=some p/\p ∈ l/\p.c<=r.c:=by
 cases hf:first l with
 | none=>rw[lT.1 hf] at h;cases h
 | some p=>exact⟨p,rfl,(eG hf).1,(eG hf).2 r h⟩
theorem Gc  {e:Int}:Ar T k x k2 y d e->(e=0/\eZ T k x k2 y=some d)\/(e≠0/\eZ T k x k2 y=none):=by
 intro h;cases h with
 | arg h=>exact .inr ⟨by decide,by unfold eZ;rw[if_neg (fun I=>by rw[h] at I;cases I.1)]⟩
 | none h h2=>exact .inr ⟨by decide,by unfold eZ;rw[if_neg (fun I=>by rw[h2] at I;exact absurd I.2 eS)]⟩
 | some h h2=>exact .inl ⟨rfl,by unfold eZ;rw[if_pos ⟨h,h2⟩]⟩
theorem Iy  (h:eZ T k x k2 y=some d):Ar T k x k2 y d 0:=by
 unfold eZ at h;split at h
 ·rename_i hc;injection h with h
  subst h;exact .some hc.1 hc.2
 ·cases h
theorem oq  (h:eZ T k x k2 y=some d):0<=d.c/\d.c<=24000:=by
 obtain⟨-,-,h1,h2⟩:=Fe (Iy h);exact⟨h1,h2⟩
theorem gD {ini:Int} {us vs:List Vr} {p q:List Bs} :w ∈ iA ini us vs p q↔(∃ u ∈ us,∃ v ∈ vs,w=vK u v)\/(p.length=1/\w=jF 2 ini p q)\/(q.length=1/\w=jF 3 ini p q):=by
 unfold iA pU;rw[z7,z7,FF];constructor
 ·rintro (⟨u,M,h⟩|h|h)
  ·obtain⟨v,J,rfl⟩:=List.mem_map.1 h;exact .inl ⟨u,M,v,J,rfl⟩
  ·split at h
   ·rename_i I;exact .inr (.inl ⟨I,List.mem_singleton.1 h⟩)
   ·cases h
  ·split at h
   ·rename_i I;exact .inr (.inr ⟨I,List.mem_singleton.1 h⟩)
   ·cases h
 ·rintro (⟨u,M,v,J,rfl⟩|⟨I,rfl⟩|⟨I,rfl⟩)
  ·exact .inl ⟨u,M,List.mem_map.2 ⟨v,J,rfl⟩⟩
  ·exact .inr (.inl (by rw[if_pos I];exact List.mem_singleton.2 rfl))
  ·exact .inr (.inr (by rw[if_pos I];exact List.mem_singleton.2 rfl))
theorem mD :p ∈ nN T k x k2 y↔∃ w ∈ lu T k x k2 y,∃ d,eZ T k w.x k2 w.y=some d/\p=⟨0,0,w.kd,w.l,w.r,w.c+d.c,d⟩:=by
 unfold nN;rw[List.mem_filterMap];unfold NM;constructor
 ·rintro⟨w,I,h⟩;obtain⟨d,hd,rfl⟩:=Option.map_eq_some_iff.1 h;exact⟨w,I,d,hd,rfl⟩
 ·rintro⟨w,I,d,hd,rfl⟩;exact⟨w,I,by rw[hd];rfl⟩
theorem Gd :cM T a b i j=((iL T a.k (wd a i) b.k (wd b j)).map (·.c)).getD 100000:=by
 unfold cM BM;cases iL T a.k (wd a i) b.k (wd b j)<;>rfl
theorem Gf (hv:bL T=true) (k:Int) (x:Bs):0<=bQ T k x/\bQ T k x<=1000:=by
 have h:=bW.1 hv;unfold bQ;split
 ·rename_i d hd;have hm:=s7 hd;have h1:=h.2.2.1;unfold jR at h1;rw[gA,gA,j8] at h1;have h2:=h1.2.1 d hm;unfold vP at h2;rw[gA] at h2;exact eu.1 h2.2
 ·exact eu.1 h.1.2.2.1
theorem qN (hv:bL T=true) {v:Vr} (h:v ∈ eX T k x):0<=v.c/\v.c<=1000:=by
 unfold eX at h;rcases List.mem_cons.1 h with rfl|h
 ·show(0:Int)<=0/\(0:Int)<=1000
  exact⟨by decide,by decide⟩
 ·obtain⟨⟨d,i⟩,hm,I⟩:=List.mem_filterMap.1 h;unfold j3 at I;split at I
  ·injection I with I
   subst I;have M:=(bW.1 hv).2.2.2;unfold jR at M;rw[gA,gA,j8] at M;have J:=M.2.1 d (List.fst_mem_of_mem_zipIdx hm);unfold vP at J;rw[gA] at J;exact eu.1 J.2
  ·cases I
theorem Dq (hv:bL T=true)  (h:w ∈ lu T k x k2 y):0<=w.c/\w.c<=2000:=by
 rcases gD.1 h with⟨u,hu,v,hv',rfl⟩|⟨-,rfl⟩|⟨-,rfl⟩
 ·have h1:=qN hv hu;have h2:=qN hv hv'
  show 0<=u.c+v.c/\u.c+v.c<=2000
  omega
 all_goals
  have h1:=eu.1 (bW.1 hv).1.2.2.2.2
  show 0<=T.ini/\T.ini<=2000
  omega
theorem Gg (hv:bL T=true)  (h:p ∈ nN T k x k2 y):0<=p.c/\p.c<=26000:=by
 obtain⟨w,hw,d,hd,rfl⟩:=mD.1 h;have h1:=Dq hv hw;have h2:=oq hd
 show 0<=w.c+d.c/\w.c+d.c<=26000
 omega
theorem wG (hv:bL T=true) (i j:Nat):0<=cM T a b i j/\cM T a b i j<=100000:=by
 rw[Gd];cases h:iL T a.k (wd a i) b.k (wd b j) with
 | none=>exact⟨by decide,by decide⟩
 | some p=>
  have:=Gg hv (eG h).1
  show 0<=p.c/\p.c<=100000
  omega
theorem mE (hv:bL T=true) (i:Nat):0<=dM T a i/\dM T a i<=1000:=Gf hv _ _
theorem pV:bA.GU (cM T a b) (dM T a) (dM T b) a.ws.length b.ws.length (nD T a b):=bA.OP
theorem nX:bA.Cj (cM T a b) (dM T a) (dM T b) a.ws.length b.ws.length (jP T a b):=bA.MU
theorem wH:(fJ T a b).c=min (nD T a b+T.ord) (jP T a b):=by
 unfold fJ;split
 ·show nD T a b+T.ord=_
  omega
 ·show jP T a b=_
  omega
theorem ZQ:nD T a b<=jP T a b:=pV.T7 nX
theorem Iz {m:Mt} (h:Bq T a b m 0):0<=m.c/\m.c<=bA.sg a.ws.length (dM T a)+bA.sg b.ws.length (dM T b):=by
 cases h with
 | some h1=>
  have I:bL T=true:=by unfold nK at h1;rw[gA] at h1;exact h1.1
  have ho:=eu.1 (bW.1 I).1.2.2.2.1;rw[wH];have hn:∀ P,bA.bA a.ws.length b.ws.length P->0<=bA.cost (cM T a b) (dM T a) (dM T b) a.ws.length b.ws.length P:=fun P hP=>by
   unfold bA.cost
   have h2:=bA.qB (n:=a.ws.length) (f:=fun i=>if P i<b.ws.length then cM T a b i (P i) else dM T a i) (fun i hi=>by
    split
    ·exact(wG I _ _).1
    ·exact(mE I _).1)
   have h3:=bA.qB (n:=b.ws.length) (f:=fun j=>if bA.used P a.ws.length j then 0 else dM T b j) (fun j hj=>by
    split
    ·exact ly _
    ·exact(mE I _).1)
   omega
  obtain⟨P,hP,hM,hc⟩:=(nX (T:=T) (a:=a) (b:=b)).has;obtain⟨P',J,aa⟩:=(pV (T:=T) (a:=a) (b:=b)).has;have h2:=hn P hP;have h3:=hn P' J;have hA:bA.bA a.ws.length b.ws.length (fun _=>b.ws.length):=⟨fun _ _=>fy _,fun i j hi hj _ h=>absurd h (mn _)⟩;have M:bA.sP a.ws.length b.ws.length (fun _=>b.ws.length):=fun i j _ _ h=>absurd h (mn _);have h4:=(nX (T:=T) (a:=a) (b:=b)).low _ hA M;have h5:bA.cost (cM T a b) (dM T a) (dM T b) a.ws.length b.ws.length (fun _=>b.ws.length)=bA.sg a.ws.length (dM T a)+bA.sg b.ws.length (dM T b):=by
   unfold bA.cost;congr 1
   ·exact bA.bJ fun i _=>if_neg (mn _)
   ·refine bA.bJ fun j hj=>if_neg ?_;rw[CI,bA.mV];intro i _ e;omega
  rw[h5] at h4;omega
end
section
variable {T:eW} {a b:Int} {x y:Bs}
variable {n:Nat}{k:Int}{r:AR}
theorem VR {α:Type} {l:List α}  {p q:α × Nat} (hp:p ∈ l.zipIdx n) (hq:q ∈ l.zipIdx n) (h:p.2=q.2):p=q:=by
 obtain⟨x,i⟩:=p;obtain⟨z,j⟩:=q;have h:i=j:=h;subst h;have h1:=(JP hp).2.2;have h2:=(JP hq).2.2;rw[h1,h2]
theorem Dr   (h:r ∈ gT T.rs k):∃ R,(R,r.ix) ∈ T.rs.zipIdx/\R.k=k/\word k R.f=true/\r=⟨r.ix,R.c,(aP k R.f).1,R.t⟩:=by
 unfold gT at h;obtain⟨⟨R,ix⟩,hm,I⟩:=List.mem_filterMap.1 h;unfold Bj at I;simp only at I;split at I
 ·rename_i J;split at I
  ·rename_i M;injection I with I
   subst I;exact⟨R,hm,J,M,rfl⟩
  ·cases I
 ·cases I
theorem Gh   (h:r ∈ gT T.rs k):(gT T.rs k).find? (fun z=>decide ((z.ix:Int)=(r.ix:Int)))=some r:=by
 cases I:(gT T.rs k).find? (fun z=>decide ((z.ix:Int)=(r.ix:Int))) with
 | none=>
  have:=List.find?_eq_none.1 I r h;simp at this
 | some z=>
  have M:=s7 I;have h2:(z.ix:Int)=(r.ix:Int):=by
   have:=z6 I;exact of_decide_eq_true this
  obtain⟨R,g1,-,-,g2⟩:=Dr h;obtain⟨R',J,-,-,g4⟩:=Dr M;have e:=VR g1 J (by show r.ix=z.ix;omega);injection e with e1 e2
  subst e1;rw[g2,g4];simp only[e2]
theorem VT   (h:r ∈ gT T.rs k):1<=r.f.length:=by
 obtain⟨R,-,-,hw,e⟩:=Dr h;rw[e];exact(eP.1 hw).2.1
def Lk (s:St) (FL FR:Bs):Prop:=(s.r=true->FL=s.a++FR)/\(s.r=false->FR=s.a++FL)
theorem Sw (hv:bL T=true):∀ (n:Nat) (s:St),(bO T a x b y).ok s->(bO T a x b y).il s<=n->(bO T a x b y).fi s<never ->
  ∃ FL FR c1 c2,Bl (bO T a x b y).l (gT T.rs a) ((bO T a x b y).gI n s).1 s.i=some (FL,c1,(bO T a x b y).l.length)/\Bl (bO T a x b y).m (gT T.rs b) ((bO T a x b y).gI n s).2.1 s.j=some (FR,c2,(bO T a x b y).m.length)/\c1+c2=(bO T a x b y).fi s/\((bO T a x b y).gI n s).2.2=FL/\Lk s FL FR:=by
 have hg:(bO T a x b y).good:=(rF hv).1;have ak:(bO T a x b y).fi (bO T a x b y).fin=0:=by
  have h0:(bO T a x b y).il (bO T a x b y).fin=0:=by unfold Wd.il Wd.fin;simp
  unfold Wd.fi;rw[h0];unfold Wd.dn;rw[if_pos rfl]
 have base:∀ (n:Nat) (s:St),s=(bO T a x b y).fin->∃ FL FR c1 c2,Bl (bO T a x b y).l (gT T.rs a) ((bO T a x b y).gI n s).1 s.i=some (FL,c1,(bO T a x b y).l.length)/\Bl (bO T a x b y).m (gT T.rs b) ((bO T a x b y).gI n s).2.1 s.j=some (FR,c2,(bO T a x b y).m.length)/\c1+c2=(bO T a x b y).fi s/\((bO T a x b y).gI n s).2.2=FL/\Lk s FL FR:=by
  intro n s e;have hb:(bO T a x b y).gI n s=([],[],[]):=by
   cases n with
   | zero=>rfl
   | succ n=>unfold Wd.gI;rw[if_pos e]
  rw[hb];subst e;refine⟨[],[],0,0,rfl,rfl,ak.symm,rfl,?_⟩;exact⟨(fun h=>by cases h),(fun _=>rfl)⟩
 intro n
 induction n with
 | zero=>
  intro s hs hr hd;by_cases e:s=(bO T a x b y).fin
  ·exact base 0 s e
  ·exfalso;have h0:(bO T a x b y).il s=0:=Nat.le_zero.1 hr;unfold Wd.fi at hd;rw[h0] at hd;unfold Wd.dn at hd;rw[if_neg e] at hd;exact absurd hd (Int.lt_irrefl _)
 | succ n ih=>
  intro s hs hr hd;by_cases e:s=(bO T a x b y).fin
  ·exact base _ s e
  ·have ao:∃ p,(bO T a x b y).pick s=some p:=by
    cases hp:(bO T a x b y).pick s with
    | some p=>exact⟨p,rfl⟩
    | none=>
     exfalso;have h1:=List.find?_eq_none.1 hp;have h2:=mO (W:=bO T a x b y) hs;rw[if_neg e] at h2;rcases fold_eq (fun z:Int × St=>z.1+(bO T a x b y).fi z.2) ((bO T a x b y).moves s) never with h3|⟨q,hq,h3⟩
     ·rw[h2,h3] at hd;exact absurd hd (Int.lt_irrefl _)
     ·rw[<-zF hv hs] at hq;obtain⟨p,hp,rfl⟩:=List.mem_map.1 hq;refine h1 p hp (decide_eq_true ?_);rw[h2];exact h3.symm
   obtain⟨⟨r,s'⟩,hp⟩:=ao;have ad:(bO T a x b y).gI (n+1) s=if s.i<s'.i then((r.ix:Int)::((bO T a x b y).gI n s').1,((bO T a x b y).gI n s').2.1,r.t++((bO T a x b y).gI n s').2.2) else(((bO T a x b y).gI n s').1,(r.ix:Int)::((bO T a x b y).gI n s').2.1,((bO T a x b y).gI n s').2.2):=by
    rw[Wd.gI,if_neg e,hp]
   have af:(r,s') ∈ (bO T a x b y).tL s:=s7 hp;have ap:r.c+(bO T a x b y).fi s'=(bO T a x b y).fi s:=by
    have:=z6 hp;exact of_decide_eq_true this
   have al:(r.c,s') ∈ (bO T a x b y).moves s:=by
    rw[<-zF hv hs];exact List.mem_map.2 ⟨(r,s'),af,rfl⟩
   have ai:=fI hs al;have hc:=iD hg al;obtain⟨FL,FR,c1,c2,w1,w2,w3,w4,w5⟩:=ih s' ai.1 (by have:=ai.2;omega) eL;unfold Wd.tL at af;obtain⟨r0,ab,ae⟩:=List.mem_filterMap.1 af;unfold Wd.Ut at ae;have aq:1<=r0.f.length:=VT ab;by_cases J:nP (if(bO T a x b y).left s then(bO T a x b y).l else(bO T a x b y).m) r0 (if(bO T a x b y).left s then s.i else s.j)=true
   ·rw[if_pos J] at ae;obtain⟨⟨a',r'⟩,I,he⟩:=Option.map_eq_some_iff.1 ae;injection he with he1 he2
    subst he1;cases hl:(bO T a x b y).left s with
    | true=>
     rw[hl] at J he2 ab;simp only[if_true] at J he2 ab;subst he2;rw[ad,if_pos (by show s.i<s.i+r0.f.length;omega)];have ac:r0 ∈ gT T.rs a:=ab;refine⟨r0.t++FL,FR,r0.c+c1,c2,?_,w2,by have:=w3;omega,by rw[w4],?_⟩
     ·unfold Bl;rw[Gh ac];simp only;rw[if_pos J,w1];rfl
     ·unfold Wd.M8 at I;obtain⟨k1,k2⟩:=w5;simp only at k1 k2;split at I
      ·rename_i M;injection I with I
       injection I with ha hr'
       obtain⟨z,hz⟩:=jL.1 M;rw[hz,ry] at ha;rw[hz,ry] at hr';subst ha;constructor
       ·intro aa;rw[aa,lx] at hr';rw[hz,l3];congr 1;by_cases an:z=[]
        ·subst an;have:=k2 (by rw[<-hr'];simp);rw[this];rfl
        ·exact k1 (by rw[<-hr'];simp[an])
       ·intro aa;rw[aa,pZ] at hr';have ag:s.a=[]:=by
         rcases mX.1 hl with h|h
         ·rw[aa] at h;cases h
         ·exact h.1
        rw[ag] at hz;have am:=List.append_eq_nil_iff.1 hz.symm;have:=k2 hr'.symm;rw[ag,this,am.1,am.2];rfl
      ·split at I
       ·rename_i M;injection I with I
        injection I with ha hr'
        rw[hl] at hr';obtain⟨z,hz⟩:=jL.1 M;rw[hz,ry] at ha;subst ha;have:=k2 hr'.symm;constructor
        ·intro aa;rw[this,hz,l3]
        ·intro aa;have ag:s.a=[]:=by
          rcases mX.1 hl with h|h
          ·rw[aa] at h;cases h
          ·exact h.1
         rw[this,hz,ag];rfl
       ·cases I
    | false=>
     rw[hl] at J he2 ab;simp only[kO,if_false] at J he2 ab;subst he2;rw[ad,if_neg (by show ¬ s.i<s.i;omega)];have ac:r0 ∈ gT T.rs b:=ab;have aa:s.r=false:=by
      cases h:s.r with
      | false=>rfl
      | true=>rw[mX.2 (.inl h)] at hl;cases hl
     refine⟨FL,r0.t++FR,c1,r0.c+c2,w1,?_,by have:=w3;omega,w4,?_⟩
     ·unfold Bl;rw[Gh ac];simp only;rw[if_pos J,w2];rfl
     ·unfold Wd.M8 at I;obtain⟨k1,k2⟩:=w5;simp only at k1 k2;refine⟨(fun h=>by rw[aa] at h;cases h),fun _=>?_⟩;split at I
      ·rename_i M;injection I with I
       injection I with ha hr'
       obtain⟨z,hz⟩:=jL.1 M;rw[hz,ry] at ha;subst ha;rw[aa,pZ] at hr';rw[k2 hr'.symm,hz,l3]
      ·split at I
       ·rename_i M;injection I with I
        injection I with ha hr'
        rw[hl] at hr';obtain⟨z,hz⟩:=jL.1 M;rw[hz,ry] at ha;subst ha;rw[k1 hr'.symm,hz,l3]
       ·cases I
   ·rw[if_neg J] at ae;cases ae
theorem NQ {d:Dv} (h:eZ T a x b y=some d):Ia T a x b y d:=by
 unfold eZ at h;split at h
 ·rename_i I;injection h with h
  subst h;have M:=(fP.1 I.1).2.2;obtain⟨J,FR,c1,c2,w1,w2,w3,w4,w5⟩:=Sw (a:=a) (x:=x) (b:=b) (y:=y) M _ gC oA (fy _) I.2;have e:FR=J:=w5.2 rfl;refine⟨I.1,J,c1,c2,w1,by rw[<-e];exact w2,w4.symm,w3⟩
 ·cases h
end
section
variable {c:Nat→Nat→Int} {d e:Nat→Int} {n m:Nat}
structure LL (c:Nat->Nat->Int) (d e:Nat->Int) (n m:Nat) (cols:List Int) (v:Int):Prop where
 len:cols.length=n
 kB:∀ p ∈ cols,0<=p/\p<=m
 asg:bA.bA n m (bA.lp cols)
 cost:bA.cost c d e n m (bA.lp cols)=v
theorem Lb:LL c d e n m (bA.Yp c d e n m) (bA.mW c d e n m):=by
 have h:=bA.Mn (c:=c) (d:=d) (e:=e) (n:=n) (m:=m) (k:=n) (fy n) bA.wV;rw[nn] at h;obtain⟨h1,h2,h3⟩:=bA.Bv h;rw[bA.MO] at h1 h2;exact⟨bA.MO _ _,h3,h1.asg,by rw[<-bA.lU];exact h2.symm⟩
theorem Lc:LL c d e n m (bA.wS c d e n m n m) (bA.GR c d e n m n m)/\bA.sP n m (bA.lp (bA.wS c d e n m n m)):=by
 have h:=bA.OT (c:=c) (d:=d) (e:=e) (n:=n) (m:=m) (a:=n) (f:=0) (fy n) (fw m);rw[nn,sb] at h;have hk:bA.keeps m (-1) (bA.wS c d e n m n m)=true:=by have:=bA.ER h;simpa using this
 rw[<-bA.G7 hk] at h;obtain⟨J,I,h3⟩:=bA.Bv h;have M:=bA.Ci hk;rw[bA.G6] at J I M;exact⟨⟨bA.G6 _ _,h3,J.asg,by rw[<-bA.lU];exact I.symm⟩,M⟩
def drop1 (m i:Nat) (P:Nat->Nat):Nat->Nat:=fun r=>if r=i then m else P r
variable {P:Nat->Nat}{i:Nat}
theorem zX   (h:bA.bA n m P):bA.bA n m (drop1 m i P):=by
 refine⟨fun r J=>?_,fun r s J hs I hm=>?_⟩
 ·unfold drop1;split
  ·exact fy _
  ·exact h.le r J
 ·unfold drop1 at I hm;by_cases h1:r=i
  ·rw[if_pos h1] at hm;exact absurd hm (mn _)
  ·rw[if_neg h1] at I hm;by_cases M:s=i
   ·rw[if_pos M] at I;rw[I] at hm;exact absurd hm (mn _)
   ·rw[if_neg M] at I;exact h.inj r s J hs I hm
theorem NR   (h:bA.sP n m P):bA.sP n m (drop1 m i P):=by
 intro r s M hs J I;unfold drop1 at J I ⊢;by_cases e1:r=i
 ·rw[if_pos e1] at J;exact absurd J (mn _)
 ·by_cases e2:s=i
  ·rw[if_pos e2] at I;exact absurd I (mn _)
  ·rw[if_neg e1] at J ⊢;rw[if_neg e2] at I ⊢;exact h r s M hs J I
theorem NS   (h:bA.bA n m P) (hi:i<n) (hm:P i<m):bA.cost c d e n m (drop1 m i P)=bA.cost c d e n m P-c i (P i)+e (P i)+d i:=by
 rw[bA.fV (zX h),bA.fV h];unfold bA.lj;have:=bA.Ce (f:=fun r=>bA.wt c d e m r (drop1 m i P r)) (g:=fun r=>bA.wt c d e m r (P r)) hi (fun r hr I=>by unfold drop1;rw[if_neg I]);rw[this];have J:bA.wt c d e m i (drop1 m i P i)=d i:=by unfold drop1 bA.wt;rw[if_pos rfl,if_neg (mn _)]
 have M:bA.wt c d e m i (P i)=c i (P i)-e (P i):=by unfold bA.wt;rw[if_pos hm]
 rw[J,M];omega
end
section
variable {T:eW} {k k2:Int} {x y:Bs} {a b:aQ}
variable {i j:Nat}{s:Bool}{I:List Int}
theorem VU  (h:cM T a b i j<100000):∃ p,iL T a.k (wd a i) b.k (wd b j)=some p:=by
 rw[Gd] at h;cases hc:iL T a.k (wd a i) b.k (wd b j) with
 | some p=>exact⟨p,rfl⟩
 | none=>rw[hc] at h;exact absurd h eS
theorem Ld {u v:Vr} (M:u ∈ eX T k x) (I:v ∈ eX T k x) (h:u.e=v.e):u=v:=by
 have key:∀ w:Vr,w ∈ T.es.zipIdx.filterMap (j3 k (bP k x))->∃ p ∈ T.es.zipIdx,j3 k (bP k x) p=some w/\w.e=(p.2:Int):=by
  intro w hw;obtain⟨p,hp,J⟩:=List.mem_filterMap.1 hw;refine⟨p,hp,J,?_⟩;unfold j3 at J;split at J
  ·injection J with J
   subst J;rfl
  ·cases J
 unfold eX at M I;rcases List.mem_cons.1 M with rfl|M
 ·rcases List.mem_cons.1 I with rfl|I
  ·rfl
  ·obtain⟨p,-,-,e⟩:=key v I;rw[e] at h;have h:(-1:Int)=(p.2:Int):=h;omega
 ·obtain⟨p,hp,e1,e2⟩:=key u M;rcases List.mem_cons.1 I with rfl|I
  ·rw[e2] at h;have h:(p.2:Int)=-1:=h;omega
  ·obtain⟨q,hq,e3,e4⟩:=key v I;have:=VR hp hq (by rw[e2,e4] at h;omega);subst this;rw[e1] at e3;injection e3
theorem VW {w z:Wy} (hw:w ∈ lu T k x k2 y) (M:z ∈ lu T k x k2 y) (J:w.kd=z.kd) (h2:w.l=z.l) (h3:w.r=z.r):w=z:=by
 rcases gD.1 hw with⟨u,hu,v,hv,rfl⟩|⟨-,rfl⟩|⟨-,rfl⟩
 ·rcases gD.1 M with⟨u',I,v',h,rfl⟩|⟨-,rfl⟩|⟨-,rfl⟩
  ·rw[Ld hu I h2,Ld hv h h3]
  ·exact absurd J (by show ¬ (1:Int)=2;decide)
  ·exact absurd J (by show ¬ (1:Int)=3;decide)
 ·rcases gD.1 M with⟨u',I,v',h,rfl⟩|⟨-,rfl⟩|⟨-,rfl⟩
  ·exact absurd J (by show ¬ (2:Int)=1;decide)
  ·rfl
  ·exact absurd J (by show ¬ (2:Int)=3;decide)
 ·rcases gD.1 M with⟨u',I,v',h,rfl⟩|⟨-,rfl⟩|⟨-,rfl⟩
  ·exact absurd J (by show ¬ (3:Int)=1;decide)
  ·exact absurd J (by show ¬ (3:Int)=2;decide)
  ·rfl
theorem Le {p:Pr} (h:p ∈ nN T k x k2 y) (i j:Int):VP T k x k2 y { p with i:=i,j:=j }:=by
 obtain⟨w,M,d,hd,rfl⟩:=mD.1 h;cases J:(lu T k x k2 y).find? (fun z=>decide (z.kd=w.kd)&&(decide (z.l=w.l)&&decide (z.r=w.r))) with
 | none=>
  have:=List.find?_eq_none.1 J w M;simp at this
 | some z=>
  have I:=z6 J;simp only[gA,decide_eq_true_eq] at I;have e:=VW (s7 J) M I.1 I.2.1 I.2.2;subst e;exact⟨z,J,rfl,NQ hd⟩
theorem NT :(BM T a b i j).i=i:=by unfold BM;split<;>rfl
theorem NU :(BM T a b i j).j=j:=by unfold BM;split<;>rfl
theorem Lf   (hn:I.length=a.ws.length) (hb:∀ p ∈ I,0<=p/\p<=b.ws.length) (hA:bA.bA a.ws.length b.ws.length (bA.lp I)) (hM:s=true\/bA.sP a.ws.length b.ws.length (bA.lp I))
  (hp:∀ i,i<a.ws.length->bA.lp I i<b.ws.length->∃ p,iL T a.k (wd a i) b.k (wd b (bA.lp I i))=some p) :
  ∀ (l:List Int) (i:Nat) (last before:Int) (rs:List Int),l=I.drop i->last<i->(∀ q ∈ rs,∃ r,r<i/\q=(bA.lp I r:Int)/\bA.lp I r<b.ws.length)->(before=-1\/∃ r,r<i/\before=(bA.lp I r:Int)/\bA.lp I r<b.ws.length) ->
   Iw T a b s last before rs (fE T a b i l):=by
 intro l
 induction l with
 | nil=>intro i last before rs _ _ _ _;exact trivial
 | cons j l ih=>
  intro i last before rs hl h1 h2 h3;have hi:i<I.length:=by
   rcases tA i I.length with h|h
   ·exact h
   ·rw[E6 h] at hl;cases hl
  have hd:=rK hi;rw[<-hl] at hd;injection hd with hj hd'
  have J:bA.lp I i=j.toNat:=by unfold bA.lp;rw[kj,gR hi,<-hj];rfl
  have ac:=hb j (by rw[hj];exact gv hi);unfold fE;split
  ·rename_i hc;have M:bA.lp I i<b.ws.length:=by rw[J];omega
   have aa:((j.toNat:Nat):Int)=j:=Hp ac.1;obtain⟨p,ab⟩:=hp i eL M;rw[J] at ab
   show _/\_/\_/\_/\_/\_/\_/\_
   rw[NT,NU,aa];refine⟨h1,by omega,ac.1,hc.2,fun hm=>?_,?_,?_,?_⟩
   ·obtain⟨r,g1,g2,g3⟩:=h2 j hm;have:=hA.inj r i eL eL (by rw[J];omega) g3;omega
   ·rcases hM with h|h
    ·exact .inl h
    ·refine .inr ?_;rcases h3 with h3|⟨r,g1,g2,g3⟩
     ·omega
     ·have:=h r i g1 eL g3 M;rw[J] at this;omega
   ·have:BM T a b i j.toNat={ p with i:=i,j:=(j.toNat:Nat) }:=by unfold BM;rw[ab]
    rw[this,zt];exact Le (eG ab).1 _ _
   ·refine ih (i+1) _ _ _ hd' eL (fun q hq=>?_) (.inr ⟨i,by omega,by rw[J,aa],M⟩);rcases List.mem_cons.1 hq with rfl|hq
    ·exact⟨i,by omega,by rw[J,aa],M⟩
    ·obtain⟨r,g1,g2⟩:=h2 q hq;exact⟨r,by omega,g2⟩
  ·refine ih (i+1) _ _ _ hd' eL (fun q hq=>?_) ?_
   ·obtain⟨r,g1,g2⟩:=h2 q hq;exact⟨r,by omega,g2⟩
   ·rcases h3 with h3|⟨r,g1,g2⟩
    ·exact .inl h3
    ·exact .inr ⟨r,by omega,g2⟩
theorem uW:∀ (l:List Int) (i:Nat) (p:Pr),p ∈ fE T a b i l↔∃ r,∃ h:r<l.length,0<=l[r]/\l[r]<b.ws.length/\p=BM T a b (i+r) l[r].toNat:=by
 intro l
 induction l with
 | nil=>
  intro i p;constructor
  ·intro h;cases h
  ·rintro⟨r,h,-⟩;simp at h
 | cons j l ih=>
  intro i p;have M:(∃ r,∃ h:r<l.length,0<=l[r]/\l[r]<b.ws.length/\p=BM T a b (i+1+r) l[r].toNat)↔∃ r,∃ h:r+1<(j::l).length,0<=(j::l)[r+1]/\(j::l)[r+1]<b.ws.length/\p=BM T a b (i+(r+1)) (j::l)[r+1].toNat:=by
   constructor
   ·rintro⟨r,h,g⟩;refine⟨r,by rw[j7];omega,?_⟩;rw[lh,show i+(r+1)=i+1+r by omega];exact g
   ·rintro⟨r,h,g⟩;refine⟨r,by rw[j7] at h;omega,?_⟩;rw[lh,show i+(r+1)=i+1+r by omega] at g;exact g
  unfold fE;split
  ·rename_i I;rw[pA,ih,M];constructor
   ·rintro (rfl|⟨r,h⟩)
    ·exact⟨0,by rw[j7];omega,I.1,I.2,rfl⟩
    ·exact⟨r+1,h⟩
   ·rintro⟨r,h⟩;cases r with
    | zero=>obtain⟨h1,-,-,J⟩:=h;exact .inl J
    | succ r=>exact .inr ⟨r,h⟩
  ·rename_i I;rw[ih,M];constructor
   ·rintro⟨r,h⟩;exact⟨r+1,h⟩
   ·rintro⟨r,h⟩;cases r with
    | zero=>obtain⟨h1,J,h3,-⟩:=h;exact absurd ⟨J,h3⟩ I
    | succ r=>exact⟨r,h⟩
theorem Sy:∀ (l:List Int) (i:Nat),((fE T a b i l).map (·.c)).sum=bA.sg l.length (fun r=>if 0<=l.getD r 0/\l.getD r 0<b.ws.length then cM T a b (i+r) (l.getD r 0).toNat else 0):=by
 intro l
 induction l with
 | nil=>intro i;rfl
 | cons j l ih=>
  intro i;rw[j7,bA.Cg];have e:(fun r=>if 0<=(j::l).getD (r+1) 0/\(j::l).getD (r+1) 0<b.ws.length then cM T a b (i+(r+1)) ((j::l).getD (r+1) 0).toNat else 0)=(fun r=>if 0<=l.getD r 0/\l.getD r 0<b.ws.length then cM T a b (i+1+r) (l.getD r 0).toNat else 0):=by
   funext r;rw[List.getD_cons_succ,show i+(r+1)=i+1+r by omega]
  rw[e,<-ih (i+1),List.getD_cons_zero];by_cases h:0<=j/\j<b.ws.length
  ·rw[show fE T a b i (j::l)=BM T a b i j.toNat::fE T a b (i+1) l from if_pos h,lk,List.sum_cons,if_pos h];rfl
  ·rw[show fE T a b i (j::l)=fE T a b (i+1) l from if_neg h,if_neg h,AE]
theorem Dt   {v:Int} (h:LL (cM T a b) (dM T a) (dM T b) a.ws.length b.ws.length I v):Dp T a b ⟨v,s,fE T a b 0 I⟩=(if s then T.ord else 0)+v:=by
 have aa:∀ r,r<a.ws.length->∃ h:r<I.length,bA.lp I r=I[r].toNat/\0<=I[r]/\I.getD r 0=I[r]:=fun r hr=>by
  have M:r<I.length:=by rw[h.len];exact hr
  refine⟨M,?_,(h.kB _ (gv M)).1,?_⟩
  ·unfold bA.lp;rw[kj,gR M];rfl
  ·rw[kj,gR M];rfl
 have h1:Ga T a ((fE T a b 0 I).map (·.i))=bA.sg a.ws.length (fun r=>if bA.lp I r<b.ws.length then 0 else dM T a r):=by
  unfold Ga;refine bA.bJ fun r hr=>?_;obtain⟨M,e1,e2,-⟩:=aa r hr;have J:((r:Int) ∈ (fE T a b 0 I).map (·.i))↔bA.lp I r<b.ws.length:=by
   rw[G0];constructor
   ·rintro⟨p,hp,he⟩;obtain⟨t,ht,g1,g2,rfl⟩:=(uW _ _ _).1 hp;rw[NT,mB] at he;have:t=r:=by omega
    subst this;rw[e1];omega
   ·intro hl;exact⟨_,(uW _ _ _).2 ⟨r,M,e2,by rw[e1] at hl;omega,rfl⟩,by rw[NT,mB]⟩
  by_cases hl:bA.lp I r<b.ws.length
  ·rw[if_pos (J.2 hl),if_pos hl]
  ·rw[if_neg (fun hm=>hl (J.1 hm)),if_neg hl]
 have h2:Ga T b ((fE T a b 0 I).map (·.j))=bA.sg b.ws.length (fun j=>if bA.used (bA.lp I) a.ws.length j then 0 else dM T b j):=by
  unfold Ga;refine bA.bJ fun j hj=>?_;have J:((j:Int) ∈ (fE T a b 0 I).map (·.j))↔bA.used (bA.lp I) a.ws.length j=true:=by
   rw[G0,bA.mU];constructor
   ·rintro⟨p,hp,he⟩;obtain⟨t,ht,g1,g2,rfl⟩:=(uW _ _ _).1 hp;have ab:t<a.ws.length:=by rw[<-h.len];exact ht
    obtain⟨_,e1,_⟩:=aa t ab;rw[NU] at he;exact⟨t,ab,by rw[e1];omega⟩
   ·rintro⟨t,ht,he⟩;obtain⟨ab,e1,e2,-⟩:=aa t ht;refine⟨_,(uW _ _ _).2 ⟨t,ab,e2,by rw[e1] at he;omega,rfl⟩,?_⟩;rw[NU,<-e1,he]
  by_cases hl:bA.used (bA.lp I) a.ws.length j=true
  ·rw[if_pos (J.2 hl),if_pos hl]
  ·rw[if_neg (fun hm=>hl (J.1 hm)),if_neg hl]
 have h3:((fE T a b 0 I).map (·.c)).sum=bA.sg a.ws.length (fun r=>if bA.lp I r<b.ws.length then cM T a b r (bA.lp I r) else 0):=by
  rw[Sy,h.len];refine bA.bJ fun r hr=>?_;obtain⟨M,e1,e2,e3⟩:=aa r hr;rw[e3,e1,mB];by_cases hl:I[r]<b.ws.length
  ·rw[if_pos ⟨e2,hl⟩,if_pos eL]
  ·rw[if_neg (fun hm=>hl hm.2),if_neg eL]
 unfold Dp
 show(if s=true then T.ord else 0)+_+_+_=_
 rw[h1,h2,h3];have h4:=h.cost;unfold bA.cost at h4;have h5:bA.sg a.ws.length (fun i=>if bA.lp I i<b.ws.length then cM T a b i (bA.lp I i) else dM T a i)=bA.sg a.ws.length (fun r=>if bA.lp I r<b.ws.length then cM T a b r (bA.lp I r) else 0)+bA.sg a.ws.length (fun r=>if bA.lp I r<b.ws.length then 0 else dM T a r):=by
  rw[<-bA.rz];refine bA.bJ fun i _=>?_;split
  ·rw[AF]
  ·rw[AE]
 rw[h5] at h4;omega
theorem nY (h:nK T a b=true):acu T a b (fJ T a b):=by
 have M:bL T=true:=by unfold nK at h;rw[gA] at h;exact h.1
 have J:∀ P:Nat->Nat,bA.bA a.ws.length b.ws.length P->(∀ i,bA.cost (cM T a b) (dM T a) (dM T b) a.ws.length b.ws.length P<=bA.cost (cM T a b) (dM T a) (dM T b) a.ws.length b.ws.length (drop1 b.ws.length i P))->∀ i,i<a.ws.length->P i<b.ws.length->∃ p,iL T a.k (wd a i) b.k (wd b (P i))=some p:=fun P hP ho i hi hm=>by
  have h1:=ho i;rw[NS hP hi hm] at h1;have h2:=mE (a:=a) M i;have h3:=mE (a:=b) M (P i);exact VU eL
 unfold fJ;split
 ·have I:=Lb (c:=cM T a b) (d:=dM T a) (e:=dM T b) (n:=a.ws.length) (m:=b.ws.length);refine⟨h,Lf I.len I.kB I.asg (.inl rfl) (J _ I.asg fun i=>?_) _ 0 _ _ _ rfl eL (fun q hq=>by cases hq) (.inl rfl),?_⟩
  ·rw[I.cost];exact pV.low _ (zX I.asg)
  ·have:=Dt (s:=true) I;have e:Dp T a b ⟨nD T a b+T.ord,true,fE T a b 0 (uo T a b)⟩=Dp T a b ⟨bA.mW (cM T a b) (dM T a) (dM T b) a.ws.length b.ws.length,true,fE T a b 0 (bA.Yp (cM T a b) (dM T a) (dM T b) a.ws.length b.ws.length)⟩:=rfl;rw[e,this];exact Int.add_comm _ _
 ·obtain⟨I,hM⟩:=Lc (c:=cM T a b) (d:=dM T a) (e:=dM T b) (n:=a.ws.length) (m:=b.ws.length);refine⟨h,Lf I.len I.kB I.asg (.inr hM) (J _ I.asg fun i=>?_) _ 0 _ _ _ rfl eL (fun q hq=>by cases hq) (.inl rfl),?_⟩
  ·rw[I.cost];exact nX.low _ (zX I.asg) (NR hM)
  ·have:=Dt (s:=false) I;have e:Dp T a b ⟨jP T a b,false,fE T a b 0 (vL T a b)⟩=Dp T a b ⟨bA.GR (cM T a b) (dM T a) (dM T b) a.ws.length b.ws.length a.ws.length b.ws.length,false,fE T a b 0 (bA.wS (cM T a b) (dM T a) (dM T b) a.ws.length b.ws.length a.ws.length b.ws.length)⟩:=rfl;rw[e,this];exact(AE _).symm
end
section
variable {T:eW} {k:Int} {x:Bs}
theorem uX (h:word k x=true):bP k x=(aP k (lower x)).1:=by unfold bP;rw[if_pos h]
theorem uY (h:word k x=true):(bP k x).flatten=lower x:=by rw[uX h];exact uO (iV h)
theorem nE (h:word k x=true):1<=(bP k x).length/\(bP k x).length<=12:=by rw[uX h];exact(eP.1 (iV h)).2
variable {n:Nat}
theorem Sz (h:word k x=true)  (hn:0<n):word k ((bP k x).take n).flatten=true/\lower ((bP k x).take n).flatten=((bP k x).take n).flatten:=by
 have hl:=nE h;have e:=Cw (k:=k) (lower x) 0 n;rw[xF,<-uX h] at e;refine⟨eP.2 ?_,M7 fun c M=>?_⟩
 ·rw[e];refine⟨rfl,?_,?_⟩
  ·show 1<=((bP k x).take n).length
   rw[kt];omega
  ·show((bP k x).take n).length<=12
   rw[kt];omega
 ·have I:c ∈ (bP k x).flatten:=by
   obtain⟨z,hz,J⟩:=List.mem_flatten.1 M;exact List.mem_flatten.2 ⟨z,xn hz,J⟩
  rw[uY h] at I;unfold lower at I;obtain⟨c',-,rfl⟩:=List.mem_map.1 I;exact Ho c'
theorem Lg (J:word k x=true) {v:Vr} (h:v ∈ eX T k x):word k v.w=true/\lower v.w=v.w:=by
 have key:∀ n,0<n->v.w=((bP k x).take n).flatten->word k v.w=true/\lower v.w=v.w:=fun n hn e=>by rw[e];exact Sz J hn
 unfold eX at h;rcases List.mem_cons.1 h with rfl|h
 ·exact key (bP k x).length (nE J).1 (by rw[ky])
 ·obtain⟨p,-,I⟩:=List.mem_filterMap.1 h;unfold j3 at I;split at I
  ·rename_i M;injection I with I
   exact key ((bP k x).length-(bP k p.1.w).length) eL (by rw[<-I])
  ·cases I
theorem NV {k2:Int} {y:Bs} (h1:word k x=true) (h2:word k2 y=true) (hv:bL T=true):okW T k x k2 y=true:=fP.2 ⟨h1,h2,hv⟩
end
end Go.CH.Mtc
namespace Go.CH.dh
open Go.CH.Scr
def gy (L:List (St × Int)):List St:=L.map (·.1)
structure Kn (W:Wd) (L:List (St × Int)):Prop where
 val:∀ p ∈ L,p.2=W.fi p.1
 ok:∀ p ∈ L,W.ok p.1
 cl:∀ p ∈ L,∀ x ∈ W.moves p.1,x.2 ∈ gy L
 nd:(gy L).Nodup
structure Ext (W:Wd) (s:St) (L L':List (St × Int)):Prop where
 old:∀ p ∈ L,p ∈ L'
 new:∀ p ∈ L',p ∈ L\/Bh W s p.1
section
variable {W:Wd} {s s':St} {L L' L'':List (St × Int)} {c:Int}
theorem Uw:Kn W []:=⟨fun p h=>absurd h (vm),fun p h=>absurd h (vm),fun p h=>absurd h (vm),GG⟩
theorem mem_keys {q:St}:q ∈ gy L↔∃ v,(q,v) ∈ L:=by
 unfold gy;rw[G0];exact⟨fun⟨p,hp,e⟩=>⟨p.2,by rw[<-e];exact hp⟩,fun⟨v,hv⟩=>⟨_,hv,rfl⟩⟩
theorem Ext.refl:Ext W s L L:=⟨fun _ h=>h,fun _ h=>.inl h⟩
theorem Ext.keys (h:Ext W s L L') {q:St} (hq:q ∈ gy L):q ∈ gy L':=by
 obtain⟨v,hv⟩:=mem_keys.1 hq;exact mem_keys.2 ⟨v,h.old _ hv⟩
theorem Ext.step (h:Ext W s L L') (hm:(c,s') ∈ W.moves s) (h2:Ext W s' L' L''):Ext W s L L'':=
 ⟨fun p hp=>h2.old p (h.old p hp),fun p hp=>(h2.new p hp).elim (fun h3=>h.new p h3) (fun h3=>.inr ((Bh.step .refl hm).trans h3))⟩
theorem Ux (hs:W.ok s) (h:Bh W s s'):W.il s'<=W.il s:=by
 induction h with
 | refl=>exact fy _
 | step h hm ih=>have:=(fI (Bh.ok hs h) hm).2;omega
theorem Rw (hs:W.ok s) (h:s ∉ gy L) (he:∀ p ∈ L',p ∈ L\/∃ c s',(c,s') ∈ W.moves s/\Bh W s' p.1):s ∉ gy L':=fun hq=>by
 obtain⟨v,hv⟩:=mem_keys.1 hq;rcases he _ hv with h1|⟨c,s',hm,hr⟩
 ·exact h (mem_keys.2 ⟨v,h1⟩)
 ·have h2:=fI hs hm;have h3:=Ux h2.1 hr;have:W.il s<=W.il s':=h3;omega
theorem Kn.add (h:Kn W L) (hs:W.ok s) (hn:s ∉ gy L) (hm:∀ x ∈ W.moves s,x.2 ∈ gy L):Kn W (L++[(s,W.fi s)]):=by
 have M:gy (L++[(s,W.fi s)])=gy L++[s]:=by unfold gy;rw[km];rfl
 refine⟨fun p I=>?_,fun p I=>?_,fun p I x J=>?_,?_⟩
 ·rcases List.mem_append.1 I with I|I
  ·exact h.val p I
  ·rw[List.mem_singleton.1 I]
 ·rcases List.mem_append.1 I with I|I
  ·exact h.ok p I
  ·rw[List.mem_singleton.1 I];exact hs
 ·rw[M];refine B9 _ ?_;rcases List.mem_append.1 I with I|I
  ·exact h.cl p I x J
  ·rw[List.mem_singleton.1 I] at J;exact hm x J
 ·rw[M,Iv];refine⟨h.nd,iz,fun a ha b hb e=>?_⟩;rw[List.mem_singleton.1 hb] at e;exact hn (e ▸ ha)
def jS (W:Wd) (s:St) (i:Nat):Int:=((W.moves s).take i).foldl (fun h x=>min h (x.1+W.fi x.2)) (if s=W.fin then 0 else never)
theorem uR:jS W s 0=if s=W.fin then 0 else never:=rfl
variable {i:Nat}
theorem Fg  (hi:i<(W.moves s).length):jS W s (i+1)=min (jS W s i) ((W.moves s)[i].1+W.fi (W.moves s)[i].2):=by
 unfold jS;rw[kq hi,IA];rfl
theorem JL (hs:W.ok s):jS W s (W.moves s).length=W.fi s:=by unfold jS;rw[ky,mO hs]
theorem O8 :jS W s i<=never:=by
 unfold jS;refine AG (Ht (fun x:Int × St=>x.1+W.fi x.2) _ _).1 ?_;split
 ·decide
 ·exact ly _
theorem JM (J:W.good) (M:W.ok s):∀ i,0<=jS W s i:=fun i=>by
 rcases fold_eq (fun x:Int × St=>x.1+W.fi x.2) ((W.moves s).take i) (if s=W.fin then 0 else never) with h|⟨x,hx,h⟩
 ·unfold jS;rw[h];split<;>decide
 ·unfold jS;rw[h];have I:=xn hx;have h1:=fI (c:=x.1) (s':=x.2) M I;have h2:=gL J h1.1;have h3:=(iD (c:=x.1) (s':=x.2) J I).1;omega
structure TL (W:Wd) (s:St) (L:List (St × Int)) (i:Nat) (L':List (St × Int)):Prop where
 kn:Kn W L'
 old:∀ p ∈ L,p ∈ L'
 new:∀ p ∈ L',p ∈ L\/∃ c s',(c,s') ∈ W.moves s/\Bh W s' p.1
 mv:∀ j (hj:j<(W.moves s).length),j<i->(W.moves s)[j].2 ∈ gy L'
theorem JN (h:Kn W L):TL W s L 0 L:=⟨h,fun _ h=>h,fun _ h=>.inl h,fun j _ h=>absurd h (nB _)⟩
theorem JO  (hi:i<(W.moves s).length) (h:TL W s L i L') (M:Kn W L'') (J:Ext W (W.moves s)[i].2 L' L'') (hk:(W.moves s)[i].2 ∈ gy L''):TL W s L (i+1) L'':=by
 refine⟨M,fun p I=>J.old p (h.old p I),fun p I=>?_,fun j hj aa=>?_⟩
 ·rcases J.new p I with h3|h3
  ·exact h.new p h3
  ·exact .inr ⟨_,_,gv hi,h3⟩
 ·by_cases e:j=i
  ·subst e;exact hk
  ·exact J.keys (h.mv j hj eL)
theorem O9 (h:TL W s L (W.moves s).length L') (M:W.ok s) (hn:s ∉ gy L):Kn W (L'++[(s,W.fi s)])/\Ext W s L (L'++[(s,W.fi s)])/\s ∈ gy (L'++[(s,W.fi s)])/\s ∉ gy L':=by
 have J:=Rw M hn h.new;refine⟨h.kn.add M J (fun x hx=>?_),⟨fun p I=>B9 _ (h.old p I),fun p I=>?_⟩,mem_keys.2 ⟨_,yW _ (List.mem_singleton.2 rfl)⟩,J⟩
 ·obtain⟨j,hj,rfl⟩:=List.mem_iff_getElem.1 hx;exact h.mv j hj hj
 ·rcases List.mem_append.1 I with I|I
  ·rcases h.new p I with h3|⟨c,s',hm,hr⟩
   ·exact .inl h3
   ·exact .inr ((Bh.step .refl hm).trans hr)
  ·rw[List.mem_singleton.1 I];exact .inr .refl
def rH (bound:Int) (p:St × Int):Option Pt:=if 0<min p.2 bound then some ⟨p.1.i,p.1.j,p.1.a,p.1.r,min p.2 bound⟩ else none
theorem Y7 {bound:Int} {C:List Pt} (h:Kn W L) (h0:gC ∈ gy L) (hr:∀ p ∈ L,Bh W gC p.1) (hp:C.Perm (L.filterMap (rH bound))) (hs:C.Pairwise fun p q=>¬ Bz q p):vW W bound C:=by
 have ae:∀ q,Bh W gC q->q ∈ gy L:=fun q hq=>by
  induction hq with
  | refl=>exact h0
  | step _ hm ih=>
   obtain⟨v,hv⟩:=mem_keys.1 ih;exact h.cl _ hv _ hm
 have aa:∀ p,p ∈ C↔(0<=p.i/\0<=p.j)/\Bh W gC p.st/\p.h=min (W.fi p.st) bound/\0<p.h:=by
  intro p;rw[hp.mem_iff,List.mem_filterMap];constructor
  ·rintro⟨⟨q,v⟩,hq,I⟩;unfold rH at I;split at I
   ·rename_i ad;injection I with I
    subst I;have ab:(⟨(q.i:Int),(q.j:Int),q.a,q.r,min v bound⟩:Pt).st=q:=by simp[Pt.st]
    refine⟨⟨by simp,by simp⟩,?_,?_,ad⟩
    ·rw[ab];exact hr _ hq
    ·rw[ab];have:=h.val _ hq;simp only at this;rw[this]
   ·cases I
  ·rintro⟨⟨J,h2⟩,h3,h4,h5⟩;obtain⟨v,hv⟩:=mem_keys.1 (ae _ h3);have af:v=W.fi p.st:=h.val _ hv;refine⟨(p.st,v),hv,?_⟩;unfold rH;rw[af,if_pos (by show 0<min (W.fi p.st) bound;omega)];obtain⟨i,j,a,r,hh⟩:=p;simp only at J h2 h4;simp only[Pt.st,Option.some.injEq,Pt.mk.injEq,true_and];refine⟨by omega,by omega,?_⟩;rw[h4];rfl
 have ai:C.Nodup:=by
  rw[hp.nodup_iff];have:∀ L:List (St × Int),(gy L).Nodup->(L.filterMap (rH bound)).Nodup:=by
   intro L
   induction L with
   | nil=>intro _;exact GG
   | cons p L ih=>
    intro hn;have ac:=List.nodup_cons.1 hn;cases I:rH bound p with
    | none=>rw[B0 I];exact ih ac.2
    | some x=>
     rw[xm I,JS];refine⟨fun hx=>?_,ih ac.2⟩;obtain⟨q,hq,M⟩:=List.mem_filterMap.1 hx;have e:p.1=q.1:=by
      unfold rH at I M;split at I
      ·split at M
       ·injection I with I;injection M with M
        rw[<-M] at I;injection I with a1 a2 a3 a4
        obtain⟨⟨i,j,a,r⟩,v⟩:=p;obtain⟨⟨i',j',a',r'⟩,v'⟩:=q;simp only at a1 a2 a3 a4;simp only[St.mk.injEq];exact⟨by omega,by omega,a3,a4⟩
       ·cases M
      ·cases I
     exact ac.1 (List.mem_map.2 ⟨q,hq,e.symm⟩)
  exact this L h.nd
 refine⟨?_,aa⟩;rw[M1] at hs ⊢;intro i j hi hj ag;rcases O6 C[i] C[j] with J|J|J
 ·exact J
 ·exfalso;have m1:=(aa _).1 (gv hi);have m2:=(aa _).1 (gv hj);have e:C[i]=C[j]:=by
   have ab:C[i].st=C[j].st:=by unfold Pt.st;rw[J.1,J.2.1,J.2.2.1,J.2.2.2]
   have hh:C[i].h=C[j].h:=by rw[m1.2.2.1,m2.2.2.1,ab]
   revert J hh;generalize C[i]=p;generalize C[j]=q;intro J hh;obtain⟨a,b,c,d,e⟩:=p;obtain⟨a',b',c',d',e'⟩:=q;simp only at J hh;obtain⟨rfl,rfl,rfl,rfl⟩:=J;rw[hh]
  exact List.pairwise_iff_getElem.1 ai i j hi hj ag e
 ·exact absurd J (hs i j hi hj ag)
end
def zQ (W:Wd):List Bs:=[]::W.rs.flatMap fun R=>[R.t,R.t.drop 1,R.t.drop 2,R.t.drop 3]
theorem PO {α β:Type} (f:α->List β) (h:∀ x,(f x).length=4):∀ l:List α,(l.flatMap f).length=4*l.length
 | []=>rfl
 | x::l=>by rw[mN,gd,h,PO f h l,j7];omega
variable {W:Wd}{s:St}{bound:Int}{C:List Pt}{T:eW}
theorem Vu :(zQ W).length=1+4*W.rs.length:=by
 unfold zQ;rw[j7,PO _ (fun _=>rfl)];omega
theorem xU  (ht:W.pJ) {R:ik} (hR:R ∈ W.rs) (n:Nat):R.t.drop n ∈ zQ W:=by
 unfold zQ;by_cases h:n<4
 ·refine pP _ (List.mem_flatMap.2 ⟨R,hR,?_⟩);have:n=0\/n=1\/n=2\/n=3:=by omega
  rcases this with rfl|rfl|rfl|rfl<;>simp
 ·have:=(ht R hR).1;rw[Hk eL];exact mz ..
theorem Vv  (I:W.pJ) {a:Bs} (h:a ∈ zQ W) (n:Nat):a.drop n ∈ zQ W:=by
 unfold zQ at h;rcases List.mem_cons.1 h with rfl|h
 ·rw[List.drop_nil];exact mz ..
 ·obtain⟨R,J,M⟩:=List.mem_flatMap.1 h;simp only[pA,vm,or_false] at M;rcases M with rfl|rfl|rfl|rfl
  ·exact xU I J n
  ·rw[uA];exact xU I J _
  ·rw[uA];exact xU I J _
  ·rw[uA];exact xU I J _
theorem ZE   (J:W.pJ) (h:Bh W gC s):s.a ∈ zQ W:=by
 induction h with
 | refl=>exact mz ..
 | step _ hm ih=>
  obtain⟨R,M,hm⟩:=kK hm;obtain⟨-,-,x,I,rfl⟩:=rE hm;have key:x.1 ∈ zQ W:=by
   unfold Wd.ah at I;split at I
   ·injection I with I;subst I
    exact Vv J ih _
   ·split at I
    ·injection I with I;subst I
     exact xU J M _
    ·cases I
  split<;>exact key
def PS (W:Wd) (p:Pt):Nat:=((p.i.toNat*13+p.j.toNat)*2+(if p.r then 1 else 0))*1000+(zQ W).idxOf p.a
theorem Vw    (h:vW W bound C) (ht:W.pJ) (hl:W.l.length<=12) (hm:W.m.length<=12) (hr:W.rs.length<=60):C.length<=1000000/\∀ p ∈ C,p.a.length<=3:=by
 have hp:∀ p ∈ C,0<=p.i/\0<=p.j/\p.i.toNat<=12/\p.j.toNat<=12/\p.a ∈ zQ W/\p.a.length<=3/\p.h=min (W.fi p.st) bound:=fun p hC=>by
  obtain⟨⟨I,J⟩,M,h4,-⟩:=(h.mem p).1 hC;have aa:=M.ok oA;exact⟨I,J,kh aa.1 hl,kh aa.2.1 hm,ZE ht M,(zD ht M).1,h4⟩
 have hs:=Vu (W:=W);have ac:C.Nodup:=by
  refine List.Pairwise.imp (fun {a b} hab e=>?_) h.ord;subst e;rcases hab with I|⟨-,I|⟨-,I|⟨-,I,J⟩⟩⟩
  ·omega
  ·omega
  ·exact uP _ I
  ·rw[I] at J;cases J
 refine⟨?_,fun p hC=>(hp p hC).2.2.2.2.2.1⟩;have I:(C.map (PS W)).Nodup:=by
  rw[List.Nodup,List.pairwise_map];refine Nx (fun {a b} ha hb hne he=>hne ?_) ac;obtain⟨a1,a2,a3,a4,a5,-,a7⟩:=hp a ha;obtain⟨b1,b2,b3,b4,b5,-,b7⟩:=hp b hb;have ia:=List.idxOf_lt_length_iff.2 a5;have ib:=List.idxOf_lt_length_iff.2 b5;unfold PS at he;have e1:(zQ W).idxOf a.a=(zQ W).idxOf b.a:=by
   generalize (if a.r=true then 1 else 0)=ra at he;generalize (if b.r=true then 1 else 0)=rb at he;omega
  have e2:(a.i.toNat*13+a.j.toNat)*2+(if a.r=true then 1 else 0)=(b.i.toNat*13+b.j.toNat)*2+(if b.r=true then 1 else 0):=by omega
  have e3:a.r=b.r:=by cases ha:a.r<;>cases hb:b.r<;>rw[ha,hb] at e2<;>simp at e2 ⊢ <;> omega
  rw[e3] at e2;have e4:a.a=b.a:=by
   have:=List.getElem_idxOf ia;have J:=List.getElem_idxOf ib;rw[<-this,<-J];congr 1
  have e5:a.i=b.i/\a.j=b.j:=by omega
  have ab:a.st=b.st:=by unfold Pt.st;rw[e5.1,e5.2,e4,e3]
  have eh:a.h=b.h:=by rw[a7,b7,ab]
  obtain⟨i,j,x,r,hh⟩:=a;obtain⟨i',j',x',r',ad⟩:=b;simp only at e3 e4 e5 eh;obtain⟨rfl,rfl⟩:=e5;subst e3 e4 eh;rfl
 have J:∀ x ∈ C.map (PS W),x ∈ List.range 338000:=by
  intro x hx;obtain⟨p,hC,rfl⟩:=List.mem_map.1 hx;obtain⟨a1,a2,a3,a4,a5,-,-⟩:=hp p hC;have ia:=List.idxOf_lt_length_iff.2 a5;rw[qk];unfold PS;split<;>omega
 have M:=MA I J;rw[gh,ua] at M;omega
theorem Vx  {a b:Int} {x y:Bs} {M:Int}  (h:Cv T a x b y bound C M) (hr:T.rs.length<=60):C.length<=1000000/\∀ p ∈ C,p.a.length<=1000000:=by
 cases h with
 | arg=>exact⟨by simp,fun p I=>by cases I⟩
 | none=>exact⟨by simp,fun p I=>by cases I⟩
 | some C h h0 h1 h2 hc=>
  have J:=Hw h;have:=Vw hc (rF (fP.1 h).2.2).2 J.2.1 J.2.2.2 hr;exact⟨this.1,fun p I=>by have:=this.2 p I;omega⟩
end Go.CH.dh
