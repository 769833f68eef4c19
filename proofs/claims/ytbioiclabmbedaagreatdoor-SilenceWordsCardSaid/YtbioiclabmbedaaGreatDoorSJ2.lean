/- A part of the proof: lemmas. -/
import Derived.Test.YtbioiclabmbedaaGreatDoorSJ1
set_option maxHeartbeats 16000000
set_option maxRecDepth 100000
set_option linter.all false
namespace Go.CH.Scr
abbrev Bs:=List UInt8
def bS:Bs:=[97,98,99,100,101,102,103,104,105,106,107,108,109,110,111,112,113,114,115,116,117,118,119,120,121,122]
def tT:Bs:=[39,96,94]
def JJ:Bs:=[98,100,102,103,104,106,107,108,109,110,112,113,114,115,116,119,120,121,122,39]
def vP:Bs:=[97,105,117,101,111]
def JK:Bs:=[107,115,116,110,104,109,121,114,119,103,122,100,98,112]
def has(S:Bs):Option UInt8->Bool
 | none=>false
 | some c=>S.contains c
def low(c:UInt8):UInt8:=if 65<=c/\c<=90 then c+32 else c
def lU(k:Int)(a:UInt8)(b:Option UInt8):Nat:=
 if k=1 then(if has bS (some a) then 1 else 0)
 else if k=2 then(if has bS (some (low a)) then(if has tT b then 2 else 1) else 0)
 else if k=3 then(if has JJ (some a) then 1 else 0)
 else if k=4 then(if has JK (some a)&&has vP b then 2 else if has vP (some a)||has [110] (some a) then 1 else 0)
 else 0
def fS(k:Int):Bs->Nat
 | []=>0
 | a::l=>lU k a l.head?
def Hc(k:Int):Bs:=if k=2 then tT else if k=4 then vP else []
section
variable{k:Int}{a:UInt8}{b:Option UInt8}{l:Bs}
theorem CB:lU k a b<=2:=by
 unfold lU
 repeat' split
 all_goals omega
theorem xI{S:Bs}:has S none=false:=rfl
theorem Ie(h:lU k a b=2):has (Hc k) b=true:=by
 unfold lU at h;unfold Hc;by_cases h1:k=1
 ·rw[if_pos h1] at h;split at h<;>omega
 rw[if_neg h1] at h;by_cases I:k=2
 ·rw[if_pos I] at h ⊢;split at h
  ·split at h
   ·assumption
   ·omega
  ·omega
 rw[if_neg I] at h ⊢;by_cases M:k=3
 ·rw[if_pos M] at h;split at h<;>omega
 rw[if_neg M] at h;by_cases h4:k=4
 ·rw[if_pos h4] at h ⊢;split at h
  ·rename_i J;simp at J;exact J.2
  ·split at h<;>omega
 ·rw[if_neg h4] at h;omega
theorem Pj(h:lU k a b=1):lU k a none=1:=by
 unfold lU at *
 by_cases h1:k=1
 ·simp[h1] at h ⊢;exact h
 by_cases M:k=2
 ·simp[M] at h ⊢;split at h
  ·rename_i I;simp[I,xI]
  ·omega
 by_cases h3:k=3
 ·simp[h3] at h ⊢;exact h
 by_cases h4:k=4
 ·simp[h4] at h ⊢;simp[xI];split at h
  ·omega
  ·split at h
   ·rename_i I;intro J;rcases I with I|I
    ·rw[I] at J;cases J
    ·exact I
   ·omega
 ·simp[h1,M,h3,h4] at h
theorem jM{S:Bs}{c:UInt8}:has S (some c)=true↔c ∈ S:=by simp[has]
theorem rP:fS k l<=l.length:=by
 cases l with
 | nil=>exact fL _
 | cons a l=>
  show lU k a l.head?<=l.length+1
  have h:=CB (k:=k) (a:=a) (b:=l.head?);rcases tG (lU k a l.head?) 2 with h2|h2
  ·omega
  ·have I:=Ie (show lU k a l.head?=2 by omega);cases l with
   | nil=>rw[show([]:Bs).head?=none from rfl,xI] at I;cases I
   | cons b l=>simp at *;omega
def we(k:Int):Nat->Bs->List Bs × Bs
 | 0,l=>([],l)
 | f+1,l=>if fS k l=0 then([],l) else(l.take (fS k l)::(we k f (l.drop (fS k l))).1,(we k f (l.drop (fS k l))).2)
def aQ(k:Int)(l:Bs):List Bs × Bs:=we k l.length l
theorem UH:∀ (f g:Nat) (l:Bs),l.length<=f->l.length<=g->we k f l=we k g l:=by
 intro f
 induction f with
 | zero=>
  intro g l J I;obtain rfl:l=[]:=sE eL;cases g with
  | zero=>rfl
  | succ g=>rfl
 | succ f ih=>
  intro g l J I;cases g with
  | zero=>
   obtain rfl:l=[]:=sE eL;rfl
  | succ g=>
   unfold we;by_cases h:fS k l=0
   ·rw[if_pos h,if_pos h]
   ·rw[if_neg h,if_neg h];have M:=k8 (i:=fS k l) (l:=l);have e:=ih g (l.drop (fS k l)) eL eL;rw[e]
theorem fP(h:fS k l=0):aQ k l=([],l):=by
 unfold aQ;cases hl:l.length with
 | zero=>rfl
 | succ n=>unfold we;rw[if_pos h]
theorem gW(h:fS k l≠0):aQ k l=(l.take (fS k l)::(aQ k (l.drop (fS k l))).1,(aQ k (l.drop (fS k l))).2):=by
 have I:=rP (k:=k) (l:=l);have hd:=k8 (i:=fS k l) (l:=l);unfold aQ;obtain⟨n,hn⟩:∃ n,l.length=n+1:=⟨l.length-1,by omega⟩;rw[hn]
 conv=>lhs;unfold we
 rw[if_neg h];have e:=UH (k:=k) n (l.drop (fS k l)).length (l.drop (fS k l)) eL (fL _);rw[e]
theorem oO{P:Bs->Prop}(I:∀ l,fS k l=0->P l)(M:∀ l,fS k l≠0->P (l.drop (fS k l))->P l)(l:Bs):P l:=by
 have key:∀ n (l:Bs),l.length<=n->P l:=by
  intro n
  induction n with
  | zero=>
   intro l J;obtain rfl:l=[]:=sE eL;exact I [] rfl
  | succ n ih=>
   intro l J;by_cases h:fS k l=0
   ·exact I l h
   ·have hd:=k8 (i:=fS k l) (l:=l);exact M l h (ih _ eL)
 exact key l.length l (fL _)
theorem zJ(l:Bs):(aQ k l).1.flatten++(aQ k l).2=l:=by
 refine oO (k:=k) (P:=fun l=>(aQ k l).1.flatten++(aQ k l).2=l) (fun l h=>?_) (fun l h ih=>?_) l
 ·show(aQ k l).1.flatten++(aQ k l).2=l
  rw[fP h];rfl
 ·show(aQ k l).1.flatten++(aQ k l).2=l
  rw[gW h]
  show(l.take (fS k l)++(aQ k (l.drop (fS k l))).1.flatten)++(aQ k (l.drop (fS k l))).2=l
  rw[ma,ih,ua]
def word(k:Int)(l:Bs):Bool:=decide ((aQ k l).2=[])&&(decide (1<=(aQ k l).1.length)&&decide ((aQ k l).1.length<=12))
theorem eX:word k l=true↔(aQ k l).2=[]/\1<=(aQ k l).1.length/\(aQ k l).1.length<=12:=by
 unfold word;simp
theorem uV(h:word k l=true):(aQ k l).1.flatten=l:=by
 have:=zJ (k:=k) l;rw[(eX.1 h).1,mT] at this;exact this
theorem RJ(h:fS k l≠0):fS k (l.take (fS k l))=fS k l:=by
 cases l with
 | nil=>exact absurd rfl h
 | cons a l=>
  have J:=CB (k:=k) (a:=a) (b:=l.head?);have M:lU k a l.head?≠0:=h
  show fS k ((a::l).take (lU k a l.head?))=lU k a l.head?
  rcases tG (lU k a l.head?) 2 with h2|h2
  ·have I:lU k a l.head?=1:=by omega
   rw[I];exact Pj I
  ·have I:lU k a l.head?=2:=by omega
   rw[I];cases l with
   | nil=>rw[show([]:Bs).head?=none from rfl] at I;have:=Ie I;rw[xI] at this;cases this
   | cons b l=>exact I
theorem JL(h:fS k l≠0):aQ k (l.take (fS k l))=([l.take (fS k l)],[]):=by
 have h1:=RJ h;have hlen:(l.take (fS k l)).length=fS k l:=by rw[kt];have:=rP (k:=k) (l:=l);omega
 rw[gW (by rw[h1];exact h),h1,tP eL,Iv eL,fP gh]
theorem Fw(l:Bs):∀ x ∈ (aQ k l).1,aQ k x=([x],[]):=by
 refine oO (k:=k) (P:=fun l=>∀ x ∈ (aQ k l).1,aQ k x=([x],[])) (fun l h=>?_) (fun l h ih=>?_) l
 ·show ∀ x ∈ (aQ k l).1,_
  rw[fP h];intro x I;cases I
 ·show ∀ x ∈ (aQ k l).1,_
  rw[gW h];intro x I;rcases List.mem_cons.1 I with rfl|I
  ·exact JL h
  ·exact ih x I
end
section
variable{k:Int}{a b l:Bs}
theorem CF(h:word k b=true):fS k b≠0:=by
 intro h0;have:=eX.1 h;rw[fP h0] at this;simp at this
def lower(l:Bs):Bs:=l.map low
theorem Ig(c:UInt8):low (low c)=low c:=by
 unfold low;by_cases h:65<=c/\c<=90
 ·rw[if_pos h,if_neg];rintro⟨h1,I⟩;obtain⟨g1,g2⟩:=h;have J:=UInt8.le_iff_toNat_le.1 g1;have M:=UInt8.le_iff_toNat_le.1 g2;have a3:=UInt8.le_iff_toNat_le.1 I;rw[UInt8.toNat_add] at a3;simp at J M a3;omega
 ·rw[if_neg h,if_neg h]
theorem AJ(l:Bs):lower (lower l)=lower l:=by
 unfold lower;rw[qu];exact nB fun c _=>Ig c
theorem RL:∀ c ∈ bS,low c=c:=by decide
theorem Zi:∀ c ∈ JJ,c=39\/c ∈ bS:=by decide
theorem Pk:∀ c ∈ vP,c ∈ bS:=by decide
theorem Zj:∀ c ∈ JK,c ∈ bS:=by decide
theorem RN{x:UInt8}{y:Option UInt8}(hk:k≠2)(h:lU k x y≠0):(x ∈ bS\/(k=3/\x=39))/\(lU k x y=2->∃ z,y=some z/\z ∈ bS):=by
 unfold lU at h ⊢;by_cases h1:k=1
 ·simp only[h1,if_true] at h ⊢;refine⟨.inl ?_,fun M=>?_⟩
  ·by_cases h3:has bS (some x)=true
   ·exact jM.1 h3
   ·rw[if_neg h3] at h;exact absurd rfl h
  ·split at M<;>omega
 rw[if_neg h1,if_neg hk] at h ⊢;by_cases h3:k=3
 ·simp only[h3,if_true] at h ⊢;refine⟨?_,fun M=>?_⟩
  ·by_cases h4:has JJ (some x)=true
   ·rcases Zi x (jM.1 h4) with I|I
    ·exact .inr ⟨trivial,I⟩
    ·exact .inl I
   ·rw[if_neg h4] at h;exact absurd rfl h
  ·split at M<;>omega
 rw[if_neg h3] at h ⊢;by_cases h4:k=4
 ·simp only[h4,if_true] at h ⊢;by_cases I:(has JK (some x)&&has vP y)=true
  ·rw[if_pos I] at h ⊢;simp only[gA] at I;refine⟨.inl (Zj x (jM.1 I.1)),fun _=>?_⟩;cases y with
   | none=>simp[has] at I
   | some z=>exact⟨z,rfl,Pk z (jM.1 I.2)⟩
  ·rw[if_neg I] at h ⊢;refine⟨.inl ?_,fun M=>by split at M<;>omega⟩;by_cases J:(has vP (some x)||has [110] (some x))=true
   ·rw[tA] at J;rcases J with J|J
    ·exact Pk x (jM.1 J)
    ·have:x=110:=by simpa[has] using J
     subst this;decide
   ·rw[if_neg J] at h;exact absurd rfl h
 ·rw[if_neg h4] at h;exact absurd rfl h
theorem Nh(hk:k≠2):∀ l:Bs,(aQ k l).2=[]->∀ c ∈ l,c ∈ bS\/(k=3/\c=39):=by
 intro l;refine oO (k:=k) (P:=fun l=>(aQ k l).2=[]->∀ c ∈ l,c ∈ bS\/(k=3/\c=39)) (fun l h=>?_) (fun l h ih=>?_) l
 ·intro J;rw[fP h] at J;obtain rfl:l=[]:=J;intro c I;cases I
 ·intro J c I;rw[gW h] at J;have ih:=ih J;cases l with
  | nil=>exact absurd rfl h
  | cons x t=>
   have h0:lU k x t.head?≠0:=h;obtain⟨b1,b2⟩:=RN hk h0;rcases List.mem_cons.1 I with rfl|I
   ·exact b1
   ·have aa:=CB (k:=k) (a:=x) (b:=t.head?);by_cases h2:lU k x t.head?=2
    ·obtain⟨z,hz,M⟩:=b2 h2;cases t with
     | nil=>cases I
     | cons y t=>
      have:y=z:=by simpa using hz
      subst this;rcases List.mem_cons.1 I with rfl|I
      ·exact .inl M
      ·refine ih c ?_
       show c ∈ (x::y::t).drop (lU k x (y::t).head?)
       rw[h2];exact I
    ·refine ih c ?_
     show c ∈ (x::t).drop (lU k x t.head?)
     rw[show lU k x t.head?=1 by omega];exact I
theorem JM(hk:k≠2)(h:(aQ k l).2=[]):lower l=l:=by
 have:=Nh hk l h;unfold lower
 conv=>rhs;rw[<-Be l]
 refine nB fun c hc=>?_;rcases this c hc with h1|⟨_,h1⟩
 ·exact RL c h1
 ·subst h1;decide
theorem Zk(c:UInt8):has tT (some (low c))=has tT (some c):=by
 unfold low;by_cases h:65<=c/\c<=90
 ·rw[if_pos h];obtain⟨g1,g2⟩:=h;have J:=UInt8.le_iff_toNat_le.1 g1;have M:=UInt8.le_iff_toNat_le.1 g2;simp at J M;have e1:has tT (some c)=false:=by
   cases I:has tT (some c) with
   | false=>rfl
   | true=>
    have hm:=jM.1 I;have key:∀ c ∈ tT,¬ (65<=c.toNat/\c.toNat<=90):=by decide
    exact absurd ⟨J,M⟩ (key c hm)
  have e2:has tT (some (c+32))=false:=by
   cases I:has tT (some (c+32)) with
   | false=>rfl
   | true=>
    have hm:=jM.1 I;have key:∀ c ∈ tT,¬ (97<=c.toNat/\c.toNat<=122):=by decide
    refine absurd ?_ (key _ hm);rw[UInt8.toNat_add];simp;omega
  rw[e1,e2]
 ·rw[if_neg h]
theorem wo(l:Bs):fS 2 (lower l)=fS 2 l:=by
 cases l with
 | nil=>rfl
 | cons x t=>
  show lU 2 (low x) (lower t).head?=lU 2 x t.head?
  unfold lU;simp only[show ¬ (2:Int)=1 by decide,if_false,if_true,Ig];cases t with
  | nil=>rfl
  | cons y t=>
   show(if has bS (some (low x))=true then if has tT (some (low y))=true then 2 else 1 else 0)=if has bS (some (low x))=true then if has tT (some y)=true then 2 else 1 else 0
   rw[Zk]
theorem JN(l:Bs):aQ 2 (lower l)=((aQ 2 l).1.map lower,lower (aQ 2 l).2):=by
 refine oO (k:=2) (P:=fun l=>aQ 2 (lower l)=((aQ 2 l).1.map lower,lower (aQ 2 l).2)) (fun l h=>?_) (fun l h ih=>?_) l
 ·show aQ 2 (lower l)=_
  rw[fP h,fP (by rw[wo];exact h)];rfl
 ·show aQ 2 (lower l)=_
  rw[gW h,gW (l:=lower l) (by rw[wo];exact h),wo];have I:(lower l).take (fS 2 l)=lower (l.take (fS 2 l)):=by unfold lower;rw[List.map_take]
  have J:(lower l).drop (fS 2 l)=lower (l.drop (fS 2 l)):=by unfold lower;rw[List.map_drop]
  rw[I,J,ih];rfl
theorem Ih(hk:k≠2)(h:(aQ k l).2=[]):(aQ k l).1.map lower=(aQ k l).1:=by
 conv=>rhs;rw[<-Be (aQ k l).1]
 refine nB fun x hx=>?_;have:=Fw (k:=k) l x hx;exact JM hk (by rw[this])
theorem xJ(h:word k l=true):aQ k (lower l)=((aQ k l).1.map lower,[]):=by
 have h1:=(eX.1 h).1;by_cases hk:k=2
 ·subst hk;rw[JN,h1];rfl
 ·rw[JM hk h1,Ih hk h1,<-h1]
theorem iY(h:word k l=true):word k (lower l)=true:=by
 have h1:=eX.1 h;refine eX.2 ?_;rw[xJ h];exact⟨rfl,by show 1<=((aQ k l).1.map lower).length;rw[fY];exact h1.2.1,by show((aQ k l).1.map lower).length<=12;rw[fY];exact h1.2.2⟩
end
inductive Hd where
 | ok (ws:List Bs)
 | err (e at_:Int)
deriving DecidableEq
def close(ws:List Bs)(cur:Bs)(cnt:Nat):List Bs:=if cnt=0 then ws else ws++[cur]
def rd(k:Int):Nat->List Bs->Bs->Nat->Nat->Bs->Hd
 | _,ws,cur,cnt,_,[]=>.ok (close ws cur cnt)
 | 0,_,_,_,_,_::_=>.err 0 0
 | f+1,ws,cur,cnt,o,a::l=>
  if a=32 then rd k f (close ws cur cnt) [] 0 (o+1) l
  else if fS k (a::l)=0 then .err 3 o
  else if cnt=12\/ws.length=6 then .err 2 o
  else rd k f ws (cur++(a::l).take (fS k (a::l))) (cnt+1) (o+fS k (a::l)) ((a::l).drop (fS k (a::l)))
section
variable{k:Int}{l:Bs}{ws:List Bs}{cur:Bs}{cnt o:Nat}
end
section
variable{k:Int}
variable{j:Nat}
theorem UJ{l:Bs}(h:fS k l≠0)(hj:fS k l<=j):fS k (l.take j)=fS k l:=by
 cases l with
 | nil=>exact absurd rfl h
 | cons a t=>
  have h':lU k a t.head?≠0:=h;have M:lU k a t.head?<=j:=hj;have aa:=CB (k:=k) (a:=a) (b:=t.head?);obtain⟨I,rfl⟩:∃ I,j=I+1:=⟨j-1,by omega⟩
  show lU k a (t.take I).head?=lU k a t.head?
  cases t with
  | nil=>simp
  | cons b t=>
   cases I with
   | zero=>
    have J:lU k a (some b)=1:=by
     have:lU k a (some b)=lU k a (b::t).head?:=rfl;omega
    show lU k a none=lU k a (some b)
    rw[J];exact Pj J
   | succ I=>rfl
def same:Hd->Hd->Prop
 | .ok a,.ok b=>a=b
 | .err e _,.err e' _=>e=e'
 | _,_=>False
def ctx(k:Int):List Bs->Bs->Prop
 | [],_=>True
 | x::xs,r=>x≠[]/\fS k (x++(xs.flatten++r))=x.length/\ctx k xs r
def behind(r:Bs):Prop:=r=[]\/r.head?=some 32
def JO(k:Int)(ws:List Bs):Prop:=∀ w ∈ ws,word k w=true
def bytes:List Bs->Nat
 | []=>0
 | w::ws=>w.length+1+bytes ws
def join:List Bs->Bs
 | []=>[]
 | [w]=>w
 | w::v::ws=>w++32::join (v::ws)
end
end Go.CH.Scr
namespace Go.CH.dh
open Go.CH.Scr
structure im where
 k:Int
 f:Bs
 t:Bs
 c:Int
deriving DecidableEq
structure St where
 i:Nat
 j:Nat
 a:Bs
 r:Bool
deriving DecidableEq
structure Wd where
 ka:Int
 kb:Int
 l:List Bs
 m:List Bs
 rs:List im
def tk:List Bs->Bs->Option Nat
 | _,[]=>some 0
 | [],_::_=>none
 | x::l,c::t=>if x.isPrefixOf (c::t) then(tk l ((c::t).drop x.length)).map (· + 1) else none
def takes(l:List Bs)(t:Bs):Nat:=(tk l t).getD 0
variable{W:Wd}{s s' t:St}{R:im}{c d:Int}{n:Nat}
def Wd.left(W:Wd)(s:St):Bool:=s.r||(decide (s.a=[])&&decide (s.i≠W.l.length))
def Wd.used(W:Wd)(s:St)(R:im):Nat:=
 if W.left s then(if R.k=W.ka then takes (W.l.drop s.i) R.f else 0) else(if R.k=W.kb then takes (W.m.drop s.j) R.f else 0)
def Wd.ah(W:Wd)(s:St)(tw:Bs):Option (Bs × Bool):=
 if tw.isPrefixOf s.a/\s.a.drop tw.length≠[] then some (s.a.drop tw.length,s.r)
 else if s.a.isPrefixOf tw then some (tw.drop s.a.length,!W.left s&&decide (tw.drop s.a.length≠[]))
 else none
def Wd.mv(W:Wd)(s:St)(R:im):Option (Int × St):=
 if W.used s R=0 then none
 else(W.ah s R.t).map fun x=>(R.c,if W.left s then ⟨s.i+W.used s R,s.j,x.1,x.2⟩ else ⟨s.i,s.j+W.used s R,x.1,x.2⟩)
def Wd.moves(W:Wd)(s:St):List (Int × St):=W.rs.filterMap (W.mv s)
def Wd.fin(W:Wd):St:=⟨W.l.length,W.m.length,[],false⟩
def gC:St:=⟨0,0,[],false⟩
theorem jO{a b:Bs}:a.isPrefixOf b=true↔∃ r,b=a++r:=by
 rw[Hv];exact⟨fun⟨r,h⟩=>⟨r,h.symm⟩,fun⟨r,h⟩=>⟨r,h.symm⟩⟩
variable{l:List Bs}
theorem Ii:tk l []=some 0:=by cases l<;>rfl
theorem Pm:∀ {l:List Bs} {t:Bs} {n:Nat},tk l t=some n->n<=l.length/\(l.take n).flatten=t:=by
 intro l
 induction l with
 | nil=>
  intro t n h;cases t with
  | nil=>rw[Ii] at h;injection h with h;subst h;exact⟨fL _,rfl⟩
  | cons c t=>cases h
 | cons x l ih=>
  intro t n h;cases t with
  | nil=>rw[Ii] at h;injection h with h;subst h;exact⟨fy _,rfl⟩
  | cons c t=>
   unfold tk at h;split at h
   ·rename_i M;obtain⟨r,I⟩:=jO.1 M;rw[Cl] at h;obtain⟨k,J,rfl⟩:=h;obtain⟨h1,h2⟩:=ih J;refine⟨Nat.succ_le_succ h1,?_⟩;rw[List.take_succ_cons,FO,h2,I,rK]
   ·cases h
theorem qL{t:Bs}:takes l t<=l.length:=by
 unfold takes;cases h:tk l t with
 | none=>exact fy _
 | some n=>exact(Pm h).1
theorem Ni{t:Bs}(h:takes l t≠0):(l.take (takes l t)).flatten=t:=by
 unfold takes at h ⊢;cases h2:tk l t with
 | none=>rw[h2] at h;exact absurd rfl h
 | some n=>exact(Pm h2).2
theorem XS:∀ {l:List Bs} {n:Nat},n<=l.length->(∀ x ∈ l,x≠[])->tk l (l.take n).flatten=some n:=by
 intro l
 induction l with
 | nil=>intro n hn _;obtain rfl:n=0:=Nat.le_zero.1 hn;exact Ii
 | cons x l ih=>
  intro n hn J;cases n with
  | zero=>rfl
  | succ n=>
   have I:=ih (n:=n) (by simpa using hn) (fun y M=>J y (pS _ M));have h:=J x (mA ..);cases x with
   | nil=>exact absurd rfl h
   | cons b x=>
    show tk ((b::x)::l) (b::(x++(l.take n).flatten))=some (n+1)
    unfold tk;rw[if_pos (show(b::x).isPrefixOf (b::(x++(l.take n).flatten))=true from jO.2 ⟨(l.take n).flatten,rfl⟩)];have:(b::(x++(l.take n).flatten)).drop (b::x).length=(l.take n).flatten:=rK;rw[this,I];rfl
theorem UL{n:Nat}(hn:n<=l.length)(hx:∀ x ∈ l,x≠[]):takes l (l.take n).flatten=n:=by unfold takes;rw[XS hn hx];rfl
def Wd.ok(W:Wd)(s:St):Prop:=s.i<=W.l.length/\s.j<=W.m.length/\(s.r=true->s.a≠[])
def Wd.iu(W:Wd)(s:St):Nat:=(W.l.length-s.i)+(W.m.length-s.j)
theorem oB:W.ok gC:=⟨fy _,fy _,fun h=>by cases h⟩
theorem rQ(h:W.mv s R=some (c,s')):c=R.c/\W.used s R≠0/\∃ x,W.ah s R.t=some x/\s'=(if W.left s then ⟨s.i+W.used s R,s.j,x.1,x.2⟩ else ⟨s.i,s.j+W.used s R,x.1,x.2⟩):=by
 unfold Wd.mv at h;split at h
 ·cases h
 ·rename_i M;rw[Cl] at h;obtain⟨x,I,J⟩:=h;injection J with h1 h2
  exact⟨h1.symm,M,x,I,h2.symm⟩
theorem Zo:(W.left s=true->s.i<=W.l.length->s.i+W.used s R<=W.l.length)/\(W.left s=false->s.j<=W.m.length->s.j+W.used s R<=W.m.length):=by
 unfold Wd.used;constructor
 ·intro h hi;rw[if_pos h];split
  ·have:=qL (l:=W.l.drop s.i) (t:=R.f);rw[k8] at this;omega
  ·omega
 ·intro h I;rw[if_neg (by rw[h];decide)];split
  ·have:=qL (l:=W.m.drop s.j) (t:=R.f);rw[k8] at this;omega
  ·omega
theorem QP{x:Bs × Bool}{tw:Bs}(h:W.ah s tw=some x):x.2=true->x.1≠[]:=by
 unfold Wd.ah at h;split at h
 ·rename_i h1;injection h with h;subst h;exact fun _=>h1.2
 ·split at h
  ·injection h with h;subst h;intro h2;simp at h2;simpa using h2.2
  ·cases h
theorem QQ(hs:W.ok s)(h:W.mv s R=some (c,s')):W.ok s'/\W.iu s'<W.iu s:=by
 obtain⟨-,hu,x,M,rfl⟩:=rQ h;obtain⟨h1,h2,h3⟩:=hs;have I:=Zo (W:=W) (s:=s) (R:=R);cases hl:W.left s with
 | true=>
  have J:=I.1 hl h1;simp only[if_true];exact⟨⟨J,h2,QP M⟩,by show(W.l.length-(s.i+W.used s R))+(W.m.length-s.j)<(W.l.length-s.i)+(W.m.length-s.j);omega⟩
 | false=>
  have J:=I.2 hl h2;simp only[k7,if_false];exact⟨⟨h1,J,QP M⟩,by show(W.l.length-s.i)+(W.m.length-(s.j+W.used s R))<(W.l.length-s.i)+(W.m.length-s.j);omega⟩
theorem kL(h:(c,s') ∈ W.moves s):∃ R ∈ W.rs,W.mv s R=some (c,s'):=by
 unfold Wd.moves at h;exact List.mem_filterMap.1 h
theorem fM(hs:W.ok s)(h:(c,s') ∈ W.moves s):W.ok s'/\W.iu s'<W.iu s:=by
 obtain⟨R,_,hm⟩:=kL h;exact QQ hs hm
inductive Bw(W:Wd)(s:St):St->Prop
 | refl:Bw W s s
 | step {s' s'':St} {c:Int} (h:Bw W s s') (hm:(c,s'') ∈ W.moves s'):Bw W s s''
theorem Bw.ok(hs:W.ok s)(h:Bw W s s'):W.ok s':=by
 induction h with
 | refl=>exact hs
 | step _ hm ih=>exact(fM ih hm).1
theorem Bw.trans{a b c:St}(h:Bw W a b)(h2:Bw W b c):Bw W a c:=by
 induction h2 with
 | refl=>exact h
 | step _ hm ih=>exact .step ih hm
inductive Pa(W:Wd):St->Int->St->Prop
 | nil (s:St):Pa W s 0 s
 | cons {s s' t:St} {c d:Int} (hm:(c,s') ∈ W.moves s) (h:Pa W s' d t):Pa W s (c+d) t
def never:Int:=1099511627776
def Wd.dn(W:Wd):Nat->St->Int
 | 0,s=>if s=W.fin then 0 else never
 | n+1,s=>(W.moves s).foldl (fun h x=>min h (x.1+W.dn n x.2)) (if s=W.fin then 0 else never)
def Wd.fw(W:Wd)(s:St):Int:=W.dn (W.iu s) s
theorem Ij{α:Type}(f:α->Int):∀ (l:List α) (h:Int),l.foldl (fun h x=>min h (f x)) h<=h/\∀ x ∈ l,l.foldl (fun h x=>min h (f x)) h<=f x:=by
 intro l
 induction l with
 | nil=>intro h;exact⟨lz _,fun x I=>by cases I⟩
 | cons y l ih=>
  intro h;obtain⟨J,M⟩:=ih (min h (f y));rw[vt];refine⟨A0 J (Int.min_le_left ..),fun x I=>?_⟩;rcases List.mem_cons.1 I with rfl|I
  ·exact A0 J (JP ..)
  ·exact M x I
theorem fold_eq{α:Type}(f:α->Int):∀ (l:List α) (h:Int),l.foldl (fun h x=>min h (f x)) h=h\/∃ x ∈ l,l.foldl (fun h x=>min h (f x)) h=f x:=by
 intro l
 induction l with
 | nil=>intro h;exact .inl rfl
 | cons y l ih=>
  intro h;rw[vt];rcases ih (min h (f y)) with h1|⟨x,hx,h1⟩
  ·rw[h1];rcases LN h (f y) with h2|h2
   ·exact .inl (Int.min_eq_left h2)
   ·exact .inr ⟨y,mA ..,Int.min_eq_right h2⟩
  ·exact .inr ⟨x,pS _ hx,h1⟩
theorem fold_congr{α:Type}(f g:α->Int):∀ (l:List α) (h:Int),(∀ x ∈ l,f x=g x)->l.foldl (fun h x=>min h (f x)) h=l.foldl (fun h x=>min h (g x)) h:=by
 intro l
 induction l with
 | nil=>intro h _;rfl
 | cons y l ih=>
  intro h he;rw[vt,vt,he y (mA ..)];exact ih _ (fun x hx=>he x (pS _ hx))
theorem Fx:∀ (n m:Nat) (s:St),W.ok s->W.iu s<=n->W.iu s<=m->W.dn n s=W.dn m s:=by
 intro n
 induction n with
 | zero=>
  intro m s I hn hm;cases m with
  | zero=>rfl
  | succ m=>
   have:W.moves s=[]:=by
    cases h:W.moves s with
    | nil=>rfl
    | cons x l=>
     have:=(fM (c:=x.1) (s':=x.2) I (by rw[h];exact mA ..)).2;omega
   unfold Wd.dn;rw[this];rfl
 | succ n ih=>
  intro m s I hn hm;cases m with
  | zero=>
   have:W.moves s=[]:=by
    cases h:W.moves s with
    | nil=>rfl
    | cons x l=>
     have:=(fM (c:=x.1) (s':=x.2) I (by rw[h];exact mA ..)).2;omega
   unfold Wd.dn;rw[this];rfl
  | succ m=>
   unfold Wd.dn;refine fold_congr _ _ _ _ (fun x J=>?_);have:=fM (c:=x.1) (s':=x.2) I J;rw[ih m x.2 this.1 eL eL]
theorem mU(I:W.ok s):W.fw s=(W.moves s).foldl (fun h x=>min h (x.1+W.fw x.2)) (if s=W.fin then 0 else never):=by
 unfold Wd.fw;rw[Fx (W.iu s) (W.iu s+1) s I (fL _) eL]
 show List.foldl (fun h x=>min h (x.1+W.dn (W.iu s) x.2)) (if s=W.fin then 0 else never) (W.moves s)=_
 refine fold_congr _ _ _ _ (fun x J=>?_);have:=fM (c:=x.1) (s':=x.2) I J;rw[Fx (W.iu s) (W.iu x.2) x.2 this.1 eL eL]
theorem zK(hs:W.ok s)(h:(c,s') ∈ W.moves s):W.fw s<=c+W.fw s':=by
 rw[mU hs];exact(Ij (fun x:Int × St=>x.1+W.fw x.2) (W.moves s) _).2 (c,s') h
theorem lZ(hs:W.ok s):W.fw s<=never:=by
 rw[mU hs];refine A0 (Ij (fun x:Int × St=>x.1+W.fw x.2) (W.moves s) _).1 ?_;split
 ·decide
 ·exact lz _
theorem RO(h:W.rs.all (fun R=>decide (R.f≠[]))=true):W.moves W.fin=[]:=by
 unfold Wd.moves;rw[List.filterMap_eq_nil_iff];intro R I;have M:R.f≠[]:=by simpa using List.all_eq_true.1 h R I
 have J:W.left W.fin=false:=by simp[Wd.left,Wd.fin]
 unfold Wd.mv;rw[if_pos];unfold Wd.used;rw[if_neg (by rw[J];decide)];split
 ·rw[show W.fin.j=W.m.length from rfl,uB];cases hb:R.f with
  | nil=>exact absurd hb M
  | cons b f=>rfl
 ·rfl
def Wd.good(W:Wd):Prop:=∀ R ∈ W.rs,0<=R.c/\R.c<=1000/\R.f≠[]
theorem iH(hg:W.good)(h:(c,s') ∈ W.moves s):0<=c/\c<=1000:=by
 obtain⟨R,hR,hm⟩:=kL h;obtain⟨rfl,_⟩:=rQ hm;exact⟨(hg R hR).1,(hg R hR).2.1⟩
theorem UM(J:W.good):∀ (n:Nat) (s:St),W.ok s->W.iu s<=n->0<=W.fw s:=by
 intro n
 induction n with
 | zero=>
  intro s I hn;rw[mU I];rcases fold_eq (fun x:Int × St=>x.1+W.fw x.2) (W.moves s) (if s=W.fin then 0 else never) with h|⟨x,hx,_⟩
  ·rw[h];split<;>decide
  ·have:=(fM (c:=x.1) (s':=x.2) I hx).2;omega
 | succ n ih=>
  intro s I hn;rw[mU I];rcases fold_eq (fun x:Int × St=>x.1+W.fw x.2) (W.moves s) (if s=W.fin then 0 else never) with h|⟨x,hx,h⟩
  ·rw[h];split<;>decide
  ·rw[h];have M:=fM (c:=x.1) (s':=x.2) I hx;have h2:=ih x.2 M.1 eL;have h3:=(iH (c:=x.1) (s':=x.2) J hx).1
   show 0<=x.1+W.fw x.2
   omega
theorem gV(hg:W.good)(hs:W.ok s):0<=W.fw s:=UM hg _ s hs (fL _)
theorem xK(hg:W.good):W.fw W.fin=0:=by
 have hok:W.ok W.fin:=⟨fL _,fL _,fun h=>by cases h⟩;rw[mU hok,RO (List.all_eq_true.2 fun R hR=>by simpa using (hg R hR).2.2)];simp
theorem qM(hg:W.good)(hl:W.l.length+W.m.length<=1000):∀ (n:Nat) (s:St),W.ok s->W.iu s<=n->(Pa W s (W.fw s) W.fin/\W.fw s<=1000*W.iu s)\/W.fw s=never/\∀ c,¬ Pa W s c W.fin:=by
 intro n
 induction n with
 | zero=>
  intro s J hn;have hm:W.moves s=[]:=by
   cases h:W.moves s with
   | nil=>rfl
   | cons x l=>
    have:=(fM (c:=x.1) (s':=x.2) J (by rw[h];exact mA ..)).2;omega
  by_cases hf:s=W.fin
  ·refine .inl ?_;have e:W.fw s=0:=by rw[hf];exact xK hg
   rw[e];exact⟨hf ▸ Pa.nil s,by omega⟩
  ·refine .inr ⟨by rw[mU J,hm];simp[hf],fun c hp=>?_⟩;cases hp with
   | nil=>exact hf rfl
   | cons hm2 _=>rw[hm] at hm2;cases hm2
 | succ n ih=>
  intro s J hn;by_cases I:W.fw s=never
  ·refine .inr ⟨I,fun c hp=>?_⟩;cases hp with
   | nil=>rw[xK hg] at I;exact absurd I eS
   | cons hm2 hp2=>
    rename_i s' c' d';have h1:=fM J hm2;rcases ih _ h1.1 eL with⟨_,hb⟩|⟨_,h2⟩
    ·have h3:=zK J hm2;have h4:=(iH hg hm2).2;have h5:W.iu s<=1000:=by unfold Wd.iu;omega
     rw[I] at h3;unfold never at h3;omega
    ·exact h2 _ hp2
  ·have M:=mU J;rcases fold_eq (fun x:Int × St=>x.1+W.fw x.2) (W.moves s) (if s=W.fin then 0 else never) with h|⟨x,hx,h⟩
   ·rw[h] at M;by_cases hf:s=W.fin
    ·rw[if_pos hf] at M;refine .inl ?_;rw[M];exact⟨hf ▸ Pa.nil s,by omega⟩
    ·rw[if_neg hf] at M;exact absurd M I
   ·rw[h] at M;have h1:=fM (c:=x.1) (s':=x.2) J hx;have hc:=iH (c:=x.1) (s':=x.2) hg hx;rcases ih x.2 h1.1 eL with⟨hp,hb⟩|⟨h2,_⟩
    ·refine .inl ?_;rw[M];exact⟨.cons (c:=x.1) (s':=x.2) hx hp,by show x.1+W.fw x.2<=_;omega⟩
    ·exfalso;have h3:=lZ J;have aa:W.fw s=x.1+W.fw x.2:=M;rw[h2] at aa;omega
structure Pt where
 i:Int
 j:Int
 a:Bs
 r:Bool
 h:Int
deriving DecidableEq
def Pt.st(p:Pt):St:=⟨p.i.toNat,p.j.toNat,p.a,p.r⟩
def BO(p q:Pt):Prop:=p.i<q.i\/p.i=q.i/\(p.j<q.j\/p.j=q.j/\(p.a<q.a\/p.a=q.a/\p.r=false/\q.r=true))
instance (p q:Pt):Decidable (BO p q):=by unfold BO;infer_instance
theorem uW(a:Bs):¬ a<a:=List.lt_irrefl a
theorem Fz{a b c:Bs}(h:a<b)(h2:b<c):a<c:=List.lt_trans h h2
theorem Zp(a b:Bs):a<b\/a=b\/b<a:=by
 rcases Classical.em (a<b) with h|h
 ·exact .inl h
 ·rcases Classical.em (b<a) with h2|h2
  ·exact .inr (.inr h2)
  ·exact .inr (.inl (List.le_antisymm (List.not_lt.1 h2) (List.not_lt.1 h)))
theorem Zq(p:Pt):¬ BO p p:=by
 rintro (h|⟨-,h|⟨-,h|⟨-,h1,h2⟩⟩⟩)
 ·omega
 ·omega
 ·exact uW _ h
 ·rw[h1] at h2;cases h2
theorem zL{p q r:Pt}(h:BO p q)(I:BO q r):BO p r:=by
 unfold BO at *
 rcases h with h|⟨e1,h⟩
 ·rcases I with I|⟨e2,I⟩<;>exact .inl eL
 ·rcases I with I|⟨e2,I⟩
  ·exact .inl eL
  ·refine .inr ⟨by omega,?_⟩;rcases h with h|⟨e3,h⟩
   ·rcases I with I|⟨e4,I⟩<;>exact .inl eL
   ·rcases I with I|⟨e4,I⟩
    ·exact .inl eL
    ·refine .inr ⟨by omega,?_⟩;rcases h with h|⟨e5,h,h'⟩
     ·rcases I with I|⟨e6,I,h2'⟩
      ·exact .inl (Fz h I)
      ·exact .inl (e6 ▸ h)
     ·rcases I with I|⟨e6,I,h2'⟩
      ·exact .inl (e5 ▸ I)
      ·rw[h'] at I;cases I
theorem Pn(p q:Pt):BO p q\/(p.i=q.i/\p.j=q.j/\p.a=q.a/\p.r=q.r)\/BO q p:=by
 unfold BO;rcases Int.lt_trichotomy p.i q.i with h|h|h
 ·exact .inl (.inl h)
 ·rcases Int.lt_trichotomy p.j q.j with h2|h2|h2
  ·exact .inl (.inr ⟨h,.inl h2⟩)
  ·rcases Zp p.a q.a with h3|h3|h3
   ·exact .inl (.inr ⟨h,.inr ⟨h2,.inl h3⟩⟩)
   ·cases J:p.r<;>cases I:q.r
    ·exact .inr (.inl ⟨h,h2,h3,rfl⟩)
    ·exact .inl (.inr ⟨h,.inr ⟨h2,.inr ⟨h3,rfl,rfl⟩⟩⟩)
    ·exact .inr (.inr (.inr ⟨h.symm,.inr ⟨h2.symm,.inr ⟨h3.symm,rfl,rfl⟩⟩⟩))
    ·exact .inr (.inl ⟨h,h2,h3,rfl⟩)
   ·exact .inr (.inr (.inr ⟨h.symm,.inr ⟨h2.symm,.inl h3⟩⟩))
  ·exact .inr (.inr (.inr ⟨h.symm,.inl h2⟩))
 ·exact .inr (.inr (.inl h))
def j4(c:UInt8):Bool:=decide (97<=c)&&decide (c<=122)
def proper(W:Wd)(bound:Int)(p:Pt):Bool:=
 decide (0<=p.i)&&decide (p.i<=W.l.length)&&decide (0<=p.j)&&decide (p.j<=W.m.length)&&decide (p.a.length<=3)&&p.a.all j4&&(!p.r||decide (p.a≠[]))&&decide (p.st≠W.fin)&&decide (0<p.h)&&decide (p.h<=min bound 100000)
variable{bound:Int}{t:St}
theorem l5{W:Wd}{p:Pt}:proper W bound p=true↔(0<=p.i/\p.i<=W.l.length)/\(0<=p.j/\p.j<=W.m.length)/\(p.a.length<=3/\p.a.all j4=true)/\(p.r=true->p.a≠[])/\p.st≠W.fin/\0<p.h/\p.h<=bound/\p.h<=100000:=by
 unfold proper;simp only[gA,tA,decide_eq_true_eq,tv];constructor
 ·rintro⟨⟨⟨⟨⟨⟨⟨⟨⟨h1,h2⟩,h3⟩,h4⟩,J⟩,h6⟩,I⟩,h8⟩,M⟩,aa⟩;refine⟨⟨h1,h2⟩,⟨h3,h4⟩,⟨J,h6⟩,fun hr=>?_,h8,M,by omega,by omega⟩;rcases I with I|I
  ·rw[hr] at I;cases I
  ·exact I
 ·rintro⟨⟨h1,h2⟩,⟨h3,h4⟩,⟨J,h6⟩,I,h8,M,aa,ab⟩;refine⟨⟨⟨⟨⟨⟨⟨⟨⟨h1,h2⟩,h3⟩,h4⟩,J⟩,h6⟩,?_⟩,h8⟩,M⟩,by omega⟩;cases hr:p.r with
  | false=>exact .inl rfl
  | true=>exact .inr (I hr)
def jj(C:List Pt)(s:St):Int:=match C.find? (fun p=>decide (p.st=s)) with|some p=>p.h|none=>0
def steps(W:Wd)(C:List Pt)(p:Pt):Bool:=(W.moves p.st).all fun x=>decide (p.h<=x.1+jj C x.2)
def Holds(W:Wd)(bound:Int)(C:List Pt):Prop:=
 (∀ p ∈ C,proper W bound p=true)/\C.Pairwise BO/\(∀ p ∈ C,steps W C p=true)/\bound<=jj C gC
section
variable{W:Wd}{C:List Pt}{s:St}{bound c:Int}
theorem XX{p q:Pt}(hp:0<=p.i/\0<=p.j)(hq:0<=q.i/\0<=q.j)(h:p.st=q.st):p.i=q.i/\p.j=q.j/\p.a=q.a/\p.r=q.r:=by
 unfold Pt.st at h;injection h with h1 h2 h3 h4
 exact⟨by omega,by omega,h3,h4⟩
theorem zM(C:List Pt)(s:St):(∃ p ∈ C,p.st=s/\jj C s=p.h)\/((∀ p ∈ C,p.st≠s)/\jj C s=0):=by
 unfold jj;cases hf:C.find? (fun q=>decide (q.st=s)) with
 | none=>
  rw[CM] at hf;exact .inr ⟨fun p hp=>by simpa using hf p hp,rfl⟩
 | some q=>exact .inl ⟨q,tg hf,by simpa using AG hf,rfl⟩
theorem Holds.pos(h:Holds W bound C):∀ p ∈ C,0<=p.i/\0<=p.j:=fun p hp=>by
 have:=l5.1 (h.1 p hp);exact⟨this.1.1,this.2.1.1⟩
theorem JQ(hg:W.good)(hp:Pa W s c t):0<=c:=by
 induction hp with
 | nil=>exact lz _
 | cons hm3 _ ih3=>have:=(iH hg hm3).1;omega
theorem RQ(h:Holds W bound C)(M:W.good)(I:Pa W s c t)(ht:t=W.fin):jj C s<=c:=by
 induction I with
 | nil s=>
  subst ht;rcases zM C W.fin with⟨p,I,e,_⟩|⟨_,e⟩
  ·exact absurd e (l5.1 (h.1 p I)).2.2.2.2.1
  ·rw[e];exact lz _
 | cons hm hp2 ih=>
  rename_i s s' t c d;have ih:=ih ht;have hd:0<=d:=JQ M hp2;rcases zM C s with⟨p,I,rfl,e⟩|⟨_,e⟩
  ·have J:=h.2.2.1 p I;unfold steps at J;rw[j7] at J;have h2:=J _ hm;simp only[decide_eq_true_eq] at h2;rw[e];omega
  ·rw[e];have:=(iH M hm).1;omega
theorem CG(h:Holds W bound C)(hg:W.good)(hp:Pa W gC c W.fin):bound<=c:=A0 h.2.2.2 (RQ h hg hp rfl)
end
structure wu(W:Wd)(bound:Int)(C:List Pt):Prop where
 ord:C.Pairwise BO
 mem:∀ p,p ∈ C↔(0<=p.i/\0<=p.j)/\Bw W gC p.st/\p.h=min (W.fw p.st) bound/\0<p.h
section
variable{W:Wd}{C C':List Pt}{s s':St}{bound c:Int}
def Wd.qd(W:Wd):Prop:=∀ R ∈ W.rs,R.t.length<=3/\R.t.all j4=true
theorem zN(ht:W.qd)(h:Bw W gC s):s.a.length<=3/\s.a.all j4=true:=by
 induction h with
 | refl=>exact⟨fy _,rfl⟩
 | step _ hm ih=>
  obtain⟨R,hR,hm⟩:=kL hm;obtain⟨-,-,x,I,rfl⟩:=rQ hm;have M:=ht R hR;have key:x.1.length<=3/\x.1.all j4=true:=by
   unfold Wd.ah at I;split at I
   ·injection I with I;subst I
    exact⟨by rw[k8];omega,by rw[j7] at ih ⊢;exact fun y J=>ih.2 y (zp J)⟩
   ·split at I
    ·injection I with I;subst I
     exact⟨by rw[k8];omega,by rw[j7] at M ⊢;exact fun y J=>M.2 y (zp J)⟩
    ·cases I
  split<;>exact key
theorem JR(I:wu W bound C)(M:W.good)(hb:0<=bound)(h:Bw W gC s):jj C s=min (W.fw s) bound:=by
 have hd:=gV M (h.ok oB);rcases zM C s with⟨p,J,rfl,e⟩|⟨hn,e⟩
 ·rw[e];exact((I.mem p).1 J).2.2.1
 ·rw[e];by_cases h1:0<min (W.fw s) bound
  ·exfalso;refine hn ⟨s.i,s.j,s.a,s.r,min (W.fw s) bound⟩ ((I.mem _).2 ⟨⟨by show(0:Int)<=s.i;omega,by show(0:Int)<=s.j;omega⟩,?_,?_,h1⟩) ?_
   ·exact h
   ·rfl
   ·rfl
  ·omega
theorem cert_holds(h:wu W bound C)(J:W.good)(ht:W.qd)(hb:0<=bound)(gE:bound<=100000)(hd:bound<=W.fw gC):Holds W bound C:=by
 refine⟨fun p M=>?_,h.ord,fun p M=>?_,?_⟩
 ·obtain⟨h0,I,h2,h3⟩:=(h.mem p).1 M;have aa:=I.ok oB;obtain⟨o1,o2,o3⟩:=aa;have ha:=zN ht I;refine l5.2 ⟨⟨h0.1,?_⟩,⟨h0.2,?_⟩,ha,o3,fun e=>?_,h3,by omega,by omega⟩
  ·have:p.i.toNat<=W.l.length:=o1;omega
  ·have:p.j.toNat<=W.m.length:=o2;omega
  ·rw[e,xK J] at h2;omega
 ·obtain⟨h0,I,h2,h3⟩:=(h.mem p).1 M;unfold steps;rw[j7];rintro⟨c,s'⟩ hx;simp only[decide_eq_true_eq];rw[JR h J hb (.step I hx),h2];have h4:=zK (I.ok oB) hx;have h5:=(iH J hx).1;omega
 ·rw[JR h J hb .refl];omega
theorem FE(hc:wu W 0 C):C=[]:=by
 cases C with
 | nil=>rfl
 | cons p C=>
  obtain⟨h1,h2,h3,h4⟩:=(hc.mem p).1 (mA ..);omega
end
inductive Wr(k:Int)(rs:List im):List Bs->List im->Bs->Int->Prop
 | nil:Wr k rs [] [] [] 0
 | cons {l:List Bs} {R:im} {L:List im} {F:Bs} {c:Int} (hR:R ∈ rs) (hk:R.k=k) (hn:takes l R.f≠0) (h:Wr k rs (l.drop (takes l R.f)) L F c):Wr k rs l (R::L) (R.t++F) (R.c+c)
def Zt(W:Wd)(s:St)(c:Int):Prop:=
 ∃ L M F G c1 c2,Wr W.ka W.rs (W.l.drop s.i) L F c1/\Wr W.kb W.rs (W.m.drop s.j) M G c2/\c=c1+c2/\(if s.r then F=s.a++G else s.a++F=G)
section
variable{W:Wd}{s s':St}{c d:Int}
variable{I:Bs}{k:Int}{i:Nat}
theorem UN{x:Bs × Bool}(h:W.ah s I=some x):(s.a=I++x.1/\x.1≠[]/\x.2=s.r)\/(I=s.a++x.1/\x.2=(!W.left s&&decide (x.1≠[]))):=by
 unfold Wd.ah at h;split at h
 ·rename_i M;injection h with h;subst h
  obtain⟨r,J⟩:=jO.1 M.1;refine .inl ⟨?_,M.2,rfl⟩
  show s.a=I++s.a.drop I.length
  rw[J,rK]
 ·split at h
  ·rename_i M h2;injection h with h;subst h
   obtain⟨r,J⟩:=jO.1 h2;refine .inr ⟨?_,rfl⟩
   show I=s.a++I.drop s.a.length
   rw[J,rK]
  ·cases h
theorem ng:W.left s=true↔s.r=true\/(s.a=[]/\s.i≠W.l.length):=by
 unfold Wd.left;simp
theorem UO(h:Pa W s c W.fin):Zt W s c:=by
 generalize ht:W.fin=t at h
 induction h with
 | nil s=>
  subst ht;refine⟨[],[],[],[],0,0,?_,?_,rfl,rfl⟩
  ·rw[show W.fin.i=W.l.length from rfl,uB];exact .nil
  ·rw[show W.fin.j=W.m.length from rfl,uB];exact .nil
 | cons hm _ ih=>
  rename_i s s' t c d _;obtain⟨L,M,F,G,c1,c2,h1,h2,rfl,I⟩:=ih ht;obtain⟨R,hR,hm⟩:=kL hm;obtain⟨rfl,hu,x,hx,rfl⟩:=rQ hm;have aa:=UN hx;cases hl:W.left s with
  | true=>
   rw[hl] at h1 h2 I aa;simp only[if_true] at h1 h2 I;have hk:R.k=W.ka/\W.used s R=takes (W.l.drop s.i) R.f:=by
    unfold Wd.used at hu ⊢;rw[if_pos hl] at hu ⊢;split at hu
    ·rename_i hk;exact⟨hk,by rw[if_pos hk]⟩
    ·exact absurd rfl hu
   rw[hk.2] at h1 hu;refine⟨R::L,M,R.t++F,G,R.c+c1,c2,.cons hR hk.1 hu (by rw[vb];exact h1),h2,by omega,?_⟩;have ac:=ng.1 hl;rcases aa with⟨J,e2,e3⟩|⟨J,e3⟩
   ·cases hr:s.r with
    | true=>
     rw[e3,hr] at I;simp only[if_true] at I ⊢;rw[I,J,ma]
    | false=>
     rcases ac with h|⟨h,_⟩
     ·rw[hr] at h;cases h
     ·rw[h] at J;exact absurd (List.append_eq_nil_iff.1 J.symm).2 e2
   ·simp only[mj,qq] at e3;rw[e3] at I;simp only[k7,if_false] at I;cases hr:s.r with
    | true=>
     simp only[if_true];rw[J,<-I,ma]
    | false=>
     rcases ac with h|⟨h,_⟩
     ·rw[hr] at h;cases h
     ·simp only[k7,if_false];rw[h] at J ⊢;rw[J,<-I];simp
  | false=>
   rw[hl] at h1 h2 I aa;simp only[k7,if_false] at h1 h2 I;have hk:R.k=W.kb/\W.used s R=takes (W.m.drop s.j) R.f:=by
    unfold Wd.used at hu ⊢;rw[if_neg (by rw[hl];decide)] at hu ⊢;split at hu
    ·rename_i hk;exact⟨hk,by rw[if_pos hk]⟩
    ·exact absurd rfl hu
   rw[hk.2] at h2 hu;have hr:s.r=false:=by
    cases hr:s.r with
    | false=>rfl
    | true=>rw[ng.2 (.inl hr)] at hl;cases hl
   refine⟨L,R::M,F,R.t++G,c1,R.c+c2,h1,.cons hR hk.1 hu (by rw[vb];exact h2),by omega,?_⟩;rw[hr];simp only[k7,if_false];rcases aa with⟨J,e2,e3⟩|⟨J,e3⟩
   ·rw[e3,hr] at I;simp only[k7,if_false] at I;rw[J,<-I,ma]
   ·simp only[nh,lx] at e3;by_cases ab:x.1=[]
    ·rw[e3,ab] at I;simp only[ne_eq,not_true_eq_false,decide_false,k7,if_false,me] at I;rw[J,ab,I];simp
    ·rw[e3] at I;simp only[ne_eq,ab,not_false_eq_true,decide_true,if_true] at I;rw[J,I,ma]
theorem Nj{rs:List im}{L:List im}{F:Bs}(h:Wr k rs [] L F c):L=[]/\F=[]/\c=0:=by
 cases h with
 | nil=>exact⟨rfl,rfl,rfl⟩
 | cons _ _ hn _=>exact absurd (Nat.le_zero.1 (qL (l:=([]:List Bs)))) hn
theorem JV{l:List Bs}(h:l.drop i=[])(hi:i<=l.length):i=l.length:=by
 have:=congrArg List.length h;rw[k8,lL] at this;omega
theorem JW{tw a':Bs}(h:s.a=tw++a')(h0:a'≠[]):W.ah s tw=some (a',s.r):=by
 unfold Wd.ah;have e:s.a.drop tw.length=a':=by rw[h,rK]
 rw[if_pos ⟨jO.2 ⟨a',h⟩,by rw[e];exact h0⟩,e]
theorem qN{c':Bs}(h:I=s.a++c'):W.ah s I=some (c',!W.left s&&decide (c'≠[])):=by
 unfold Wd.ah;have e:I.drop s.a.length=c':=by rw[h,rK]
 rw[if_neg,if_pos (jO.2 ⟨c',h⟩),e];rintro⟨h1,M⟩;obtain⟨r,J⟩:=jO.1 h1;rw[J,rK] at M;rw[J] at h;have:=congrArg List.length h;simp only[gj] at this;exact M (sE eL)
theorem BP{R:im}(h:W.left s=true)(J:R.k=W.ka)(hn:takes (W.l.drop s.i) R.f≠0){x:Bs × Bool}(I:W.ah s R.t=some x):
  W.mv s R=some (R.c,⟨s.i+takes (W.l.drop s.i) R.f,s.j,x.1,x.2⟩):=by
 have M:W.used s R=takes (W.l.drop s.i) R.f:=by unfold Wd.used;rw[if_pos h,if_pos J]
 unfold Wd.mv;rw[M,if_neg hn,I,h];rfl
theorem CK{R:im}(h:W.left s=false)(J:R.k=W.kb)(hn:takes (W.m.drop s.j) R.f≠0){x:Bs × Bool}(I:W.ah s R.t=some x):
  W.mv s R=some (R.c,⟨s.i,s.j+takes (W.m.drop s.j) R.f,x.1,x.2⟩):=by
 have M:W.used s R=takes (W.m.drop s.j) R.f:=by unfold Wd.used;rw[if_neg (by rw[h];decide),if_pos J]
 unfold Wd.mv;rw[M,if_neg hn,I,h];rfl
theorem Nk:∀ (n:Nat) (s:St) (c:Int),W.ok s->W.iu s<=n->Zt W s c->Pa W s c W.fin:=by
 intro n
 induction n with
 | zero=>
  rintro s c ⟨o1,o2,o3⟩ hn ⟨L,M,F,G,c1,c2,h1,h2,rfl,h3⟩;unfold Wd.iu at hn;have J:s.i=W.l.length:=by omega
  have e2:s.j=W.m.length:=by omega
  rw[J,uB] at h1;rw[e2,uB] at h2;obtain⟨-,rfl,rfl⟩:=Nj h1;obtain⟨-,rfl,rfl⟩:=Nj h2;have I:s.r=false:=by
   cases I:s.r with
   | false=>rfl
   | true=>rw[I] at h3;simp at h3;exact absurd h3 (o3 I)
  rw[I] at h3;simp at h3;have:s=W.fin:=by
   obtain⟨i,j,a,r⟩:=s;simp only at J e2 h3 I;rw[J,e2,h3,I];rfl
  rw[this];exact .nil _
 | succ n ih=>
  rintro s c ⟨o1,o2,o3⟩ hn ⟨L,M,F,G,c1,c2,h1,h2,rfl,h3⟩;have go:∀ {R:im} {s':St} {d:Int},R ∈ W.rs->W.mv s R=some (R.c,s')->Zt W s' d->Pa W s (R.c+d) W.fin:=fun hR hm hd=>
   have ae:=QQ ⟨o1,o2,o3⟩ hm
   .cons (List.mem_filterMap.2 ⟨_,hR,hm⟩) (ih _ _ ae.1 eL hd)
  cases hl:W.left s with
  | true=>
   have ab:=ng.1 hl;generalize ac:W.l.drop s.i=dl at h1;cases h1 with
   | nil=>
    exfalso;have J:=JV ac o1;rcases ab with I|⟨_,h⟩
    ·rw[I] at h3;simp at h3;exact o3 I h3.1
    ·exact h J
   | cons hR hk hn2 hrest=>
    rename_i R L' F' c';subst ac;rw[vb] at hrest;have:R.c+c'+c2=R.c+(c'+c2):=by omega
    rw[this];cases I:s.r with
    | true=>
     rw[I] at h3;simp only[if_true] at h3;rcases List.append_eq_append_iff.1 h3 with⟨aa,J,e2⟩|⟨aa,J,e2⟩
     ·by_cases h0:aa=[]
      ·subst h0;rw[mT] at J;rw[me] at e2;refine go hR (BP hl hk hn2 (qN (c':=[]) (by rw[J,mT]))) ⟨L',M,F',G,c',c2,hrest,h2,rfl,?_⟩;simp[hl,e2]
      ·refine go hR (BP hl hk hn2 (JW J h0)) ⟨L',M,F',G,c',c2,hrest,h2,rfl,?_⟩;rw[I];exact e2
     ·refine go hR (BP hl hk hn2 (qN J)) ⟨L',M,F',G,c',c2,hrest,h2,rfl,?_⟩;simp[hl,e2]
    | false=>
     rcases ab with h|⟨h,_⟩
     ·rw[I] at h;cases h
     ·rw[I,h] at h3;simp only[k7,if_false,me] at h3;refine go hR (BP hl hk hn2 (qN (c':=R.t) (by rw[h];rfl))) ⟨L',M,F',G,c',c2,hrest,h2,rfl,?_⟩;simp[hl,h3]
  | false=>
   have I:s.r=false:=by
    cases I:s.r with
    | false=>rfl
    | true=>rw[ng.2 (.inl I)] at hl;cases hl
   rw[I] at h3;simp only[k7,if_false] at h3;generalize ad:W.m.drop s.j=dm at h2;cases h2 with
   | nil=>
    have e2:=JV ad o2;obtain⟨ha,hF⟩:=List.append_eq_nil_iff.1 h3;have J:s.i=W.l.length:=Ff fun h=>by rw[ng.2 (.inr ⟨ha,h⟩)] at hl;cases hl
    rw[J,uB] at h1;obtain⟨-,-,rfl⟩:=Nj h1;have:s=W.fin:=by
     obtain⟨i,j,a,r⟩:=s;simp only at J e2 ha I;rw[J,e2,ha,I];rfl
    rw[this];exact .nil _
   | cons hR hk hn2 hrest=>
    rename_i R M' G' c';subst ad;rw[vb] at hrest;have:c1+(R.c+c')=R.c+(c1+c'):=by omega
    rw[this];rcases List.append_eq_append_iff.1 h3 with⟨aa,J,e2⟩|⟨aa,J,e2⟩
    ·refine go hR (CK hl hk hn2 (qN J)) ⟨L,M',F,G',c1,c',h1,hrest,rfl,?_⟩;by_cases h0:aa=[]
     ·subst h0;simp[hl];simpa using e2
     ·simp[hl,h0,e2]
    ·by_cases h0:aa=[]
     ·subst h0;rw[mT] at J;rw[me] at e2;refine go hR (CK hl hk hn2 (qN (c':=[]) (by rw[J,mT]))) ⟨L,M',F,G',c1,c',h1,hrest,rfl,?_⟩;simp[hl,e2]
     ·refine go hR (CK hl hk hn2 (JW J h0)) ⟨L,M',F,G',c1,c',h1,hrest,rfl,?_⟩;rw[I];simp[e2]
theorem oP(hs:W.ok s):Pa W s c W.fin↔Zt W s c:=⟨UO,Nk _ s c hs (fL _)⟩
def Wd.swap(W:Wd):Wd:=⟨W.kb,W.ka,W.m,W.l,W.rs⟩
def Wd.rest(W:Wd)(i j:Nat):Wd:=⟨W.ka,W.kb,W.l.drop i,W.m.drop j,W.rs⟩
end
end Go.CH.dh
namespace Go.CH.bA
def sg:Nat->(Nat->Int)->Int
 | 0,_=>0
 | n+1,f=>sg n f+f n
section
variable{n m:Nat}{f g:Nat→Int}
theorem Um:sg 0 f=0:=rfl
theorem dK:sg (n+1) f=sg n f+f n:=rfl
theorem bL(h:∀ i,i<n->f i=g i):sg n f=sg n g:=by
 induction n with
 | zero=>rfl
 | succ n ih=>rw[dK,dK,ih (fun i hi=>h i eL),h n eL]
theorem xu(h:∀ i,i<n->f i<=g i):sg n f<=sg n g:=by
 induction n with
 | zero=>exact lz _
 | succ n ih=>rw[dK,dK];have:=ih (fun i hi=>h i eL);have:=h n eL;omega
theorem rM(f g:Nat->Int):sg n (fun i=>f i+g i)=sg n f+sg n g:=by
 induction n with
 | zero=>rfl
 | succ n ih=>rw[dK,dK,dK,ih];omega
theorem Hf(f g:Nat->Int):sg n (fun i=>f i-g i)=sg n f-sg n g:=by
 induction n with
 | zero=>rfl
 | succ n ih=>rw[dK,dK,dK,ih];omega
theorem MZ(n:Nat):sg n (fun _=>0)=0:=by
 induction n with
 | zero=>rfl
 | succ n ih=>rw[dK,ih];rfl
theorem qI(h:∀ i,i<n->0<=f i):0<=sg n f:=by have:=xu (f:=fun _=>0) h;rw[MZ] at this;exact this
variable{k:Nat}
theorem Cr(hk:k<n)(h:∀ i,i<n->i≠k->f i=g i):sg n f=sg n g+(f k-g k):=by
 induction n with
 | zero=>omega
 | succ n ih=>
  rw[dK,dK];by_cases e:k=n
  ·subst e;rw[bL (g:=g) (fun i hi=>h i eL eL)];omega
  ·rw[ih eL (fun i hi hne=>h i eL hne),h n eL eL];omega
theorem T8(hk:k<n):sg n (fun i=>if i=k then f i else 0)=f k:=by
 rw[Cr (g:=fun _=>0) hk (fun i _ hne=>by simp[hne]),MZ];simp
theorem M0:sg (n+k) f=sg n f+sg k (fun i=>f (n+i)):=by
 induction k with
 | zero=>simp[sg]
 | succ k ih=>rw[<-vx,dK,dK,ih];omega
theorem Ct:sg (n+1) f=f 0+sg n (fun i=>f (i+1)):=by
 rw[vy,M0];simp only[dK,Um,AK];congr 1;exact bL (fun i _=>by rw[vy])
end
structure bA(n m:Nat)(P:Nat->Nat):Prop where
 le:∀ i,i<n->P i<=m
 inj:∀ i j,i<n->j<n->P i=P j->P i<m->i=j
def used(P:Nat->Nat):Nat->Nat->Bool
 | 0,_=>false
 | n+1,j=>used P n j||P n==j
variable{P:Nat->Nat}{n j k s r i:Nat}{w:Nat->Nat->Int}{v0:Int}{U V:Nat->Int}
theorem mX:used P n j=true↔∃ i,i<n/\P i=j:=by
 induction n with
 | zero=>simp[used]
 | succ n ih=>
  simp only[used,tA,beq_iff_eq,ih];constructor
  ·rintro (⟨i,J,I⟩|h)
   ·exact⟨i,by omega,I⟩
   ·exact⟨n,by omega,h⟩
  ·rintro⟨i,J,I⟩;by_cases e:i=n
   ·subst e;exact .inr I
   ·exact .inl ⟨i,by omega,I⟩
theorem mY:used P n j=false↔∀ i,i<n->P i≠j:=by
 rw[<-C1,mX];exact⟨fun h i hi e=>h ⟨i,hi,e⟩,fun h ⟨i,hi,e⟩=>h i hi e⟩
section
variable{n m:Nat}{P Q:Nat→Nat}
theorem bA.low(h:bA n m P)(hk:k<=n):bA k m P:=⟨fun i hi=>h.le i eL,fun i j hi hj=>h.inj i j eL eL⟩
theorem B4(h:bA n m P)(f:Nat->Int):sg n (fun i=>if P i<m then f (P i) else 0)=sg m (fun j=>if used P n j then f j else 0):=by
 induction n with
 | zero=>exact(MZ m).symm
 | succ n ih=>
  rw[dK,ih (h.low eL)];by_cases I:P n<m
  ·rw[if_pos I];have M:used P n (P n)=false:=mY.2 fun i hi e=>by have:=h.inj i n eL eL e eL;omega
   rw[Cr (f:=fun j=>if used P (n+1) j then f j else 0) (g:=fun j=>if used P n j then f j else 0) I ?_]
   ·simp only[used,M,beq_self_eq_true,Bool.or_true];simp
   ·intro j _ J;have:(P n==j)=false:=by simp;omega
    simp only[used,this,G3]
  ·rw[if_neg I,AN];refine bL fun j hj=>?_;have:(P n==j)=false:=by simp;omega
   simp only[used,this,G3]
end
def cost(c:Nat->Nat->Int)(d e:Nat->Int)(n m:Nat)(P:Nat->Nat):Int:=
 sg n (fun i=>if P i<m then c i (P i) else d i)+sg m (fun j=>if used P n j then 0 else e j)
def wt(c:Nat->Nat->Int)(d e:Nat->Int)(m:Nat)(i k:Nat):Int:=if k<m then c i k-e k else d i
def lj(w:Nat->Nat->Int)(n:Nat)(P:Nat->Nat):Int:=sg n (fun i=>w i (P i))
section
variable{n m:Nat}{P Q:Nat→Nat}{c:Nat→Nat→Int}{d e:Nat→Int}
theorem gB(h:bA n m P):cost c d e n m P=sg m e+lj (wt c d e m) n P:=by
 have M:=B4 h e;have I:sg m (fun j=>if used P n j then 0 else e j)=sg m e-sg m (fun j=>if used P n j then e j else 0):=by
  rw[<-Hf];refine bL fun j _=>?_;cases used P n j<;>simp
 have J:lj (wt c d e m) n P=sg n (fun i=>if P i<m then c i (P i) else d i)-sg n (fun i=>if P i<m then e (P i) else 0):=by
  unfold lj;rw[<-Hf];refine bL fun i _=>?_;unfold wt;split<;>simp
 unfold cost;rw[I,J,M];omega
structure Hg(c:Nat->Nat->Int)(d e:Nat->Int)(n m:Nat)(v:Int):Prop where
 has:∃ P,bA n m P/\cost c d e n m P=v
 low:∀ P,bA n m P->v<=cost c d e n m P
end
def pv(n m:Nat)(P Q:Nat->Nat)(s:Nat):Option Nat:=if Q s<m then(List.range n).find? (fun r=>P r==Q s) else none
def Ry(n m:Nat)(P Q:Nat->Nat):Nat->Option Nat
 | 0=>some n
 | k+1=>(Ry n m P Q k).bind (pv n m P Q)
section
variable{n m:Nat}{P Q:Nat→Nat}
theorem O3(h:pv n m P Q s=some r):Q s<m/\r<n/\P r=Q s:=by
 unfold pv at h;split at h
 ·rename_i h1;have h2:=tg h;have h3:=AG h;exact⟨h1,List.mem_range.1 h2,by simpa using h3⟩
 ·cases h
theorem Up(J:bA n m P)(h1:Q s<m)(h:r<n)(I:P r=Q s):pv n m P Q s=some r:=by
 cases e:pv n m P Q s with
 | none=>
  unfold pv at e;rw[if_pos h1,CM] at e;exact absurd I (by simpa using e r (List.mem_range.2 h))
 | some r'=>
  obtain⟨_,M,h6⟩:=O3 e;rw[J.inj r' r M h (h6.trans I.symm) eL]
theorem qJ(h:Ry n m P Q k=some s)(hs:s≠n):∃ j r,k=j+1/\Ry n m P Q j=some r/\Q r<m/\s<n/\P s=Q r:=by
 cases k with
 | zero=>injection h with h;exact absurd h.symm hs
 | succ j=>
  simp only[Ry,Option.bind_eq_some_iff] at h;obtain⟨r,h1,h2⟩:=h;exact⟨j,r,rfl,h1,O3 h2⟩
theorem Jz(hP:bA n m P)(h:Ry n m P Q k=some s)(h1:Q s<m)(h2:r<n)(h3:P r=Q s):Ry n m P Q (k+1)=some r:=by
 simp only[Ry,h];exact Up hP h1 h2 h3
theorem UB(hi:i<n)(hw:∀ k,k<=m->w n k=w i k)(hP:bA n m P)(hQ:bA (n+1) m Q)(hO:∀ R,bA n m R->lj w n P<=lj w n R):
  ∃ R,bA (n+1) m R/\R i=P i/\lj w (n+1) R<=lj w (n+1) Q:=by
 by_cases hA:∃ k,Ry n m P Q k=some i
 ·-- the rows met come to i: the least such k
  have hL:∃ k,Ry n m P Q k=some i/\∀ j,j<k->Ry n m P Q j≠some i:=by
   obtain⟨k,hk⟩:=hA
   induction k using Nat.strongRecOn with
   | _ k ih=>
    by_cases hj:∃ j,j<k/\Ry n m P Q j=some i
    ·obtain⟨j,J,M⟩:=hj;exact ih j J M
    ·exact⟨k,hk,fun j J M=>hj ⟨j,J,M⟩⟩
  obtain⟨k,hk,ak⟩:=hL
  classical
  let S:Nat->Prop:=fun s=>∃ j,j<=k/\Ry n m P Q j=some s
  have ae:S n:=⟨0,by omega,rfl⟩;have ag:S i:=⟨k,by omega,hk⟩;have aq:0<k:=by
   cases k with
   | zero=>injection hk with hk;omega
   | succ k=>omega
  have af:∀ s,S s->s≠n->∃ r,S r/\r≠i/\Q r<m/\s<n/\P s=Q r:=by
   rintro s ⟨j,hj,hs⟩ ad;obtain⟨j',r,rfl,J,M,h3,h4⟩:=qJ hs ad;exact⟨r,⟨j',by omega,J⟩,fun e=>ak j' eL (e ▸ J),M,h3,h4⟩
  have next:∀ s r,S s->s≠i->Q s<m->r<n->P r=Q s->S r:=by
   rintro s r ⟨j,hj,hs⟩ ad J M h3;have:j≠k:=fun e=>by subst e;rw[hk] at hs;injection hs with hs;exact ad hs.symm
   exact⟨j+1,by omega,Jz hP hs J M h3⟩
  let P':Nat->Nat:=fun r=>if r=i then Q n else if S r then Q r else P r
  let Q':Nat->Nat:=fun r=>if r=n then Q i else if S r then P r else Q r
  have ap:bA n m P':=by
   constructor
   ·intro r hr;simp only[P'];split
    ·exact hQ.le n eL
    ·split
     ·exact hQ.le r eL
     ·exact hP.le r hr
   ·-- two rows with one column
    have key:∀ a b,a<n->b<n->P' a=P' b->P' a<m->(a=i\/S a)->b=a:=by
     intro a b ha hb he hm aa
     -- the row whose Q is meant
     have J:∃ s,S s/\s≠i/\P' a=Q s/\(s=n↔a=i)/\(a≠i->s=a):=by
      by_cases e:a=i
      ·exact⟨n,ae,by omega,by simp[P',e],by simp[e],fun h=>absurd e h⟩
      ·have:S a:=aa.resolve_left e;exact⟨a,this,e,by simp[P',e,this],by constructor<;>intro h<;>omega,fun _=>rfl⟩
     obtain⟨s,M,h3,h4,h5,h6⟩:=J;have ar:s<=n:=by obtain⟨j,_,hs⟩:=M;by_cases e:s=n;omega;obtain⟨_,_,_,_,_,h,_⟩:=qJ hs e;omega
     by_cases eb:b=i
     ·have h7:P' b=Q n:=by simp[P',eb]
      have:=hQ.inj s n eL eL eL eL;rw[eb];exact(h5.1 this).symm
     ·by_cases I:S b
      ·have h7:P' b=Q b:=by simp[P',eb,I]
       have h8:=hQ.inj s b eL eL eL eL;by_cases ea:a=i
       ·have:=h5.2 ea;omega
       ·rw[<-h8,h6 ea]
      ·have h7:P' b=P b:=by simp[P',eb,I]
       exact absurd (next s b M h3 eL hb eL) I
    intro a b ha hb he hm;by_cases aa:a=i\/S a
    ·exact(key a b ha hb he hm aa).symm
    ·by_cases I:b=i\/S b
     ·exact key b a hb ha he.symm (he ▸ hm) I
     ·have ea:P' a=P a:=by simp only[P',if_neg (fun h=>aa (.inl h)),if_neg (fun h=>aa (.inr h))]
      have eb:P' b=P b:=by simp only[P',if_neg (fun h=>I (.inl h)),if_neg (fun h=>I (.inr h))]
      exact hP.inj a b ha hb eL eL
  have ao:bA (n+1) m Q':=by
   constructor
   ·intro r hr;simp only[Q'];split
    ·exact hQ.le i eL
    ·split
     ·rename_i J M;exact hP.le r eL
     ·exact hQ.le r hr
   ·-- each row of the set has the column of another one of the set
    have src:∀ a,a<n+1->(a=n\/S a)->∃ s,S s/\s<n+1/\Q' a=Q s/\(a=n↔s=i)/\(a≠n->P a=Q s):=by
     intro a ha h;by_cases e:a=n
     ·exact⟨i,ag,by omega,by simp[Q',e],by simp[e],fun h=>absurd e h⟩
     ·have hS:S a:=h.resolve_left e;obtain⟨r,J,M,h3,h4,h5⟩:=af a hS e;have al:r<=n:=by obtain⟨j,_,hs⟩:=J;by_cases e:r=n;omega;obtain⟨_,_,_,_,_,h,_⟩:=qJ hs e;omega
      exact⟨r,J,by omega,by simp[Q',e,hS,h5],by simp[e,M],fun _=>h5⟩
    have key:∀ a b,a<n+1->b<n+1->Q' a=Q' b->Q' a<m->(a=n\/S a)->b=a:=by
     intro a b ha hb he hm aa;obtain⟨s,J,M,h3,h4,h5⟩:=src a ha aa;by_cases I:b=n\/S b
     ·obtain⟨t,g1,g2,g3,g4,g5⟩:=src b hb I;have ai:=hQ.inj s t M g2 eL eL;by_cases ea:a=n
      ·have:=g4.2 (by rw[<-ai];exact h4.1 ea);omega
      ·by_cases eb:b=n
       ·have:=h4.2 (by rw[ai];exact g4.1 eb);omega
       ·exact(hP.inj a b eL eL (by rw[h5 ea,g5 eb,ai]) (by rw[h5 ea];omega)).symm
     ·have eb:Q' b=Q b:=by simp only[Q',if_neg (fun h=>I (.inl h)),if_neg (fun h=>I (.inr h))]
      have:=hQ.inj s b M hb eL eL;exact absurd (this ▸ J) (fun h=>I (.inr h))
    intro a b ha hb he hm;by_cases aa:a=n\/S a
    ·exact(key a b ha hb he hm aa).symm
    ·by_cases I:b=n\/S b
     ·exact key b a hb ha he.symm (he ▸ hm) I
     ·have ea:Q' a=Q a:=by simp only[Q',if_neg (fun h=>aa (.inl h)),if_neg (fun h=>aa (.inr h))]
      have eb:Q' b=Q b:=by simp only[Q',if_neg (fun h=>I (.inl h)),if_neg (fun h=>I (.inr h))]
      exact hQ.inj a b ha hb eL eL
  refine⟨Q',ao,?_,?_⟩
  ·have:i≠n:=by omega
   simp[Q',this,ag]
  ·have am:lj w n P'+lj w (n+1) Q'=lj w n P+lj w (n+1) Q:=by
    have e1:sg n (fun r=>w r (P' r)+w r (Q' r))=sg n (fun r=>w r (P r)+w r (Q r))+((w i (P' i)+w i (Q' i))-(w i (P i)+w i (Q i))):=by
     refine Cr hi fun r hr ad=>?_;have hn:r≠n:=by omega
     by_cases hS:S r
     ·simp only[P',Q',if_neg ad,if_neg hn,if_pos hS];omega
     ·simp only[P',Q',if_neg ad,if_neg hn,if_neg hS]
    rw[rM,rM] at e1;have e2:P' i=Q n:=by simp[P']
    have e3:Q' i=P i:=by(have:i≠n:=by omega);simp[Q',this,ag]
    have e4:Q' n=Q i:=by simp[Q']
    have e5:=hw (Q n) (hQ.le n eL);have e6:=hw (Q i) (hQ.le i eL);unfold lj;rw[dK,dK,e4];rw[e2,e3] at e1;omega
   have:=hO P' ap;omega
 ·-- the rows met never come to i
  classical
  let S:Nat->Prop:=fun s=>∃ k,Ry n m P Q k=some s
  have ae:S n:=⟨0,rfl⟩;have ag:¬ S i:=hA;have af:∀ s,S s->s≠n->∃ r,S r/\Q r<m/\s<n/\P s=Q r:=by
   rintro s ⟨j,hs⟩ ad;obtain⟨j',r,rfl,J,M,h3,h4⟩:=qJ hs ad;exact⟨r,⟨j',J⟩,M,h3,h4⟩
  have next:∀ s r,S s->Q s<m->r<n->P r=Q s->S r:=by
   rintro s r ⟨j,hs⟩ J M h3;exact⟨j+1,Jz hP hs J M h3⟩
  let R:Nat->Nat:=fun r=>if S r then Q r else P r
  let R':Nat->Nat:=fun r=>if S r then P r else Q r
  have hR:bA (n+1) m R:=by
   constructor
   ·intro r hr;simp only[R];split
    ·exact hQ.le r eL
    ·rename_i h;have:r≠n:=fun e=>h (e ▸ ae);exact hP.le r eL
   ·intro a b ha hb he hm;by_cases ac:S a<;>by_cases ab:S b<;>simp only[R,ac,ab,if_true,if_false] at he hm
    ·exact hQ.inj a b ha hb he hm
    ·have:b≠n:=fun e=>ab (e ▸ ae);exact absurd (next a b ac hm eL he.symm) ab
    ·have:a≠n:=fun e=>ac (e ▸ ae);exact absurd (next b a ab eL eL he) ac
    ·have:b≠n:=fun e=>ab (e ▸ ae);have:a≠n:=fun e=>ac (e ▸ ae);exact hP.inj a b eL eL he hm
  have an:bA n m R':=by
   constructor
   ·intro r hr;simp only[R'];split
    ·exact hP.le r hr
    ·exact hQ.le r eL
   ·intro a b ha hb he hm;by_cases ac:S a<;>by_cases ab:S b<;>simp only[R',ac,ab,if_true,if_false] at he hm
    ·exact hP.inj a b ha hb he hm
    ·obtain⟨r,J,M,h3,h4⟩:=af a ac eL;have al:r<=n:=by obtain⟨j,hs⟩:=J;by_cases e:r=n;omega;obtain⟨_,_,_,_,_,h,_⟩:=qJ hs e;omega
     have:=hQ.inj r b eL eL eL M;exact absurd (this ▸ J) ab
    ·obtain⟨r,J,M,h3,h4⟩:=af b ab eL;have al:r<=n:=by obtain⟨j,hs⟩:=J;by_cases e:r=n;omega;obtain⟨_,_,_,_,_,h,_⟩:=qJ hs e;omega
     have:=hQ.inj r a eL eL eL M;exact absurd (this ▸ J) ac
    ·exact hQ.inj a b eL eL he hm
  refine⟨R,hR,by simp only[R,if_neg ag],?_⟩;have am:lj w n R'+lj w (n+1) R=lj w n P+lj w (n+1) Q:=by
   have e1:sg n (fun r=>w r (R' r)+w r (R r))=sg n (fun r=>w r (P r)+w r (Q r)):=by
    refine bL fun r hr=>?_;by_cases hS:S r
    ·simp only[R,R',if_pos hS]
    ·simp only[R,R',if_neg hS];omega
   rw[rM,rM] at e1;have e2:R n=Q n:=by simp only[R,if_pos ae]
   unfold lj;rw[dK,dK,e2];omega
  have:=hO R' an;omega
end
section
variable{n m:Nat}{P Q:Nat→Nat}{c:Nat→Nat→Int}{d e:Nat→Int}{u v:Nat→Int}
structure Hl(c:Nat->Nat->Int)(d e:Nat->Int)(n m:Nat)(u v:Nat->Int):Prop where
 c:∀ i,i<n->∀ j,j<m->u i+v j<=c i j
 d:∀ i,i<n->u i<=d i
 e:∀ j,j<m->v j<=e j
theorem Fc(h:Hl c d e n m u v)(I:bA n m P):sg n u+sg m v<=cost c d e n m P:=by
 rw[gB I];have h1:=B4 I (fun j=>v j-e j);have h2:sg m (fun j=>v j-e j)<=sg m (fun j=>if used P n j then v j-e j else 0):=xu fun j J=>by
  have:=h.e j J;split<;>omega
 rw[Hf] at h2;have h3:sg n (fun i=>u i+if P i<m then v (P i)-e (P i) else 0)<=lj (wt c d e m) n P:=xu fun i hi=>by
  show _<=wt c d e m i (P i)
  unfold wt;split
  ·rename_i M;have:=h.c i hi _ M;omega
  ·have:=h.d i hi;omega
 rw[rM] at h3;omega
def jZ(c:Nat->Nat->Int)(n i:Nat):Nat->Nat->Int:=fun r=>if r=n then c i else c r
def j3(d:Nat->Int)(n i:Nat):Nat->Int:=fun r=>if r=n then d i else d r
theorem Ho(hi:i<n)(k:Nat):wt (jZ c n i) (j3 d n i) e m n k=wt (jZ c n i) (j3 d n i) e m i k:=by
 have:i≠n:=by omega
 simp[wt,jZ,j3,this]
theorem BJ(hr:r<n)(k:Nat):wt (jZ c n i) (j3 d n i) e m r k=wt c d e m r k:=by
 have:r≠n:=by omega
 simp[wt,jZ,j3,this]
theorem pX(i:Nat)(P:Nat->Nat):lj (wt (jZ c n i) (j3 d n i) e m) n P=lj (wt c d e m) n P:=bL fun r hr=>BJ hr _
theorem Hl.dup(h:Hl c d e n m u v)(hi:i<n):Hl (jZ c n i) (j3 d n i) e (n+1) m (fun r=>if r=n then u i else u r) v:=by
 refine⟨fun r J j I=>?_,fun r J=>?_,h.e⟩
 ·by_cases e:r=n
  ·simp only[jZ,if_pos e];exact h.c i hi j I
  ·simp only[jZ,if_neg e];exact h.c r eL j I
 ·by_cases e:r=n
  ·simp only[j3,if_pos e];exact h.d i hi
  ·simp only[j3,if_neg e];exact h.d r eL
def put(P:Nat->Nat)(n k:Nat):Nat->Nat:=fun r=>if r=n then k else P r
theorem BK(h:bA n m P)(M:k<=m)(J:k<m->used P n k=false):bA (n+1) m (put P n k):=by
 refine⟨fun i hi=>?_,fun i j hi hj I hm=>?_⟩
 ·unfold put;split;exact M;exact h.le i eL
 ·by_cases e1:i=n<;>by_cases e2:j=n<;>simp only[put,e1,e2,if_true,if_false] at I hm
  ·omega
  ·exact absurd I.symm (mY.1 (J hm) j eL)
  ·exact absurd I (mY.1 (J eL) i eL)
  ·exact h.inj i j eL eL I hm
theorem Hq(w:Nat->Nat->Int)(k:Nat):lj w (n+1) (put P n k)=lj w n P+w n k:=by
 unfold lj;rw[dK,bL (g:=fun i=>w i (P i)) (fun i hi=>by(have:i≠n:=by omega);simp[put,this])];simp[put]
def cut(P:Nat->Nat)(n i:Nat):Nat->Nat:=fun r=>if r=i then P n else P r
theorem Hr(hi:i<n)(h:bA (n+1) m P):bA n m (cut P n i):=by
 refine⟨fun r hr=>?_,fun a b ha hb I hm=>?_⟩
 ·unfold cut;split;exact h.le n eL;exact h.le r eL
 ·by_cases J:a=i<;>by_cases M:b=i<;>simp only[cut,J,M,if_true,if_false] at I hm
  ·omega
  ·have:=h.inj n b eL eL I hm;omega
  ·have:=h.inj a n eL eL I hm;omega
  ·exact h.inj a b eL eL I hm
theorem Ht(hi:i<n)(hw:∀ k,w n k=w i k):lj w n (cut P n i)+w i (P i)=lj w (n+1) P:=by
 unfold lj;rw[dK,Cr (g:=fun r=>w r (P r)) hi (fun r hr hne=>by simp[cut,hne])];simp[cut,hw];omega
theorem M4(hi:i<n)(h:bA (n+1) m P)(hp:P i<m):used (cut P n i) n (P i)=false:=mY.2 fun r hr he=>by
 by_cases e:r=i
 ·simp only[cut,if_pos e] at he;have:=h.inj n i eL eL he eL;omega
 ·simp only[cut,if_neg e] at he;have:=h.inj r i eL eL he eL;omega
structure dh(c:Nat->Nat->Int)(d e:Nat->Int)(n m:Nat)(v:Int)(U V:Nat->Int):Prop where
 opt:Hg c d e n m v
 more:∀ i,i<n->Hg (jZ c n i) (j3 d n i) e (n+1) m (U i+v)
 ve:∀ j,j<m->V j<=e j
 vc:∀ j,j<m->∀ i,i<n->V j<=c i j-U i
 vis:∀ j,j<m->V j=e j\/∃ i,i<n/\V j=c i j-U i
theorem dh.YZ(h:dh c d e n m v0 U V):Hl c d e n m U V:=by
 refine⟨fun i hi j M=>by have:=h.vc j M i hi;omega,fun i hi=>?_,h.ve⟩;obtain⟨P,I,J⟩:=h.opt.has;have h1:=(h.more i hi).low (put P n m) (BK I (fL _) (fun h=>by omega));rw[gB (BK I (fL _) (fun h=>by omega)),Hq,pX] at h1;rw[gB I] at J;have:wt (jZ c n i) (j3 d n i) e m n m=d i:=by simp[wt,j3]
 omega
theorem dh.at(h:dh c d e n m v0 U V){P:Nat->Nat}(J:bA n m P)(hv:cost c d e n m P=v0)(hi:i<n):
  ∃ R,bA (n+1) m R/\R i=P i/\sg m e+lj (wt (jZ c n i) (j3 d n i) e m) (n+1) R=U i+v0:=by
 obtain⟨Q,M,hq⟩:=(h.more i hi).has;rw[gB M] at hq
 obtain⟨R,I,h2,h3⟩:=UB (w:=wt (jZ c n i) (j3 d n i) e m) hi (fun k _=>Ho hi k) J M (fun R hR=>by
  rw[pX,pX];have:=h.opt.low R hR;rw[gB hR] at this;rw[gB J] at hv
  omega)
 have h4:=(h.more i hi).low R I;rw[gB I] at h4;exact⟨R,I,h2,by omega⟩
theorem dh.UI(h:dh c d e n m v0 U V){P:Nat->Nat}(hP:bA n m P)(hv:cost c d e n m P=v0):
  (∀ i,i<n->P i<m->U i+V (P i)=c i (P i))/\(∀ i,i<n->P i=m->U i=d i)/\∀ j,j<m->used P n j=false->V j=e j:=by
 have hF:=h.YZ;have aa:=hv;rw[gB hP] at aa;refine⟨fun i hi J=>?_,fun i hi J=>?_,fun j hj hu=>?_⟩
 ·obtain⟨R,h1,h2,h3⟩:=h.at hP hv hi;have M:=Hr hi h1;have e1:=Ht (P:=R) (w:=wt (jZ c n i) (j3 d n i) e m) hi (fun k=>Ho hi k);have e2:wt (jZ c n i) (j3 d n i) e m i (R i)=c i (P i)-e (P i):=by rw[BJ hi,h2,wt,if_pos J]
  rw[pX] at e1;have ab:used (cut R n i) n (P i)=false:=h2 ▸ M4 hi h1 eL
  -- the column is free without row i
  have ac:=hF.c i hi _ J;rcases h.vis _ J with hV|⟨i',hi',hV⟩
  ·have:=h.opt.low _ M;rw[gB M] at this;omega
  ·have I:=BK M (AW J) (fun _=>ab);have:=(h.more i' hi').low _ I;rw[gB I,Hq,pX] at this;have e3:wt (jZ c n i') (j3 d n i') e m n (P i)=c i' (P i)-e (P i):=by simp[wt,jZ,J]
   omega
 ·obtain⟨R,h1,h2,h3⟩:=h.at hP hv hi;have M:=Hr hi h1;have e1:=Ht (P:=R) (w:=wt (jZ c n i) (j3 d n i) e m) hi (fun k=>Ho hi k);have e2:wt (jZ c n i) (j3 d n i) e m i (R i)=d i:=by rw[BJ hi,h2,wt,if_neg eL]
  rw[pX] at e1;have:=h.opt.low _ M;rw[gB M] at this;have:=hF.d i hi;omega
 ·rcases h.vis j hj with hV|⟨i,hi,hV⟩
  ·exact hV
  ·have I:=BK hP (AW hj) (fun _=>hu);have:=(h.more i hi).low _ I;rw[gB I,Hq,pX] at this;have e3:wt (jZ c n i) (j3 d n i) e m n j=c i j-e j:=by simp[wt,jZ,hj]
   have:=h.ve j hj;omega
theorem dh.sum(h:dh c d e n m v0 U V):sg n U+sg m V=v0:=by
 obtain⟨P,I,J⟩:=h.opt.has;obtain⟨h1,h2,h3⟩:=h.UI I J;have e1:=B4 I (fun j=>V j-e j);have e2:sg m (fun j=>if used P n j then V j-e j else 0)=sg m (fun j=>V j-e j):=bL fun j M=>by
  cases hu:used P n j
  ·have:=h3 j M hu;simp;omega
  ·simp
 have e3:sg n (fun i=>U i+if P i<m then V (P i)-e (P i) else 0)=lj (wt c d e m) n P:=bL fun i hi=>by
  show _=wt c d e m i (P i)
  unfold wt;split
  ·rename_i hp;have:=h1 i hi hp;omega
  ·have:=h2 i hi (by have:=I.le i hi;omega);omega
 rw[rM] at e3;rw[Hf] at e2;rw[gB I] at J;omega
theorem dh.ju(h:dh c d e n m v0 U V){u v:Nat->Int}(J:Hl c d e n m u v)(hs:sg n u+sg m v=v0)(hi:i<n):u i<=U i:=by
 obtain⟨P,I,M⟩:=(h.more i hi).has;have:=Fc (J.dup hi) I;rw[dK,bL (g:=u) (fun r hr=>by(have:r≠n:=by omega);simp[this])] at this;simp at this;omega
theorem Hg.Fc(h:Hg c d e n m v0){u v:Nat->Int}(hF:Hl c d e n m u v):sg n u+sg m v<=v0:=by
 obtain⟨P,hP,hv⟩:=h.has;rw[<-hv];exact bA.Fc hF hP
theorem dh.low{E:Int}(h:dh c d e n m v0 U V)(hc:∀ i,i<n->∀ j,j<m->0<=c i j)(hd:∀ i,i<n->0<=d i)(he:∀ j,j<m->0<=e j/\e j<=E)(hE:0<=E)(hi:i<n): -E<=U i:=by
 obtain⟨Q,J,hq⟩:=(h.more i hi).has;rw[gB J] at hq;have M:=Hr hi J;have e1:=Ht (P:=Q) (w:=wt (jZ c n i) (j3 d n i) e m) hi (fun k=>Ho hi k);rw[pX,BJ hi] at e1;have:=h.opt.low _ M;rw[gB M] at this;have h5 : -E<=wt c d e m i (Q i):=by
  unfold wt;split
  ·rename_i I;have:=hc i hi _ I;have:=he _ I;omega
  ·have:=hd i hi;omega
 omega
end
def vO(U:Nat->Bool)(f:Nat->Int)(a:Int):Nat->Int
 | 0=>a
 | j+1=>if U j then vO U f a j else min (vO U f a j) (f j)
section
variable{U:Nat→Bool}{f:Nat→Int}{a:Int}{m:Nat}
theorem tC:vO U f a m<=a:=by
 induction m with
 | zero=>exact lz _
 | succ m ih=>unfold vO;split;exact ih;omega
theorem Un(hj:j<m)(hu:U j=false):vO U f a m<=f j:=by
 induction m with
 | zero=>omega
 | succ m ih=>
  unfold vO;by_cases e:j=m
  ·subst e;rw[hu];simp;omega
  ·split
   ·exact ih eL
   ·have:=ih eL;omega
theorem zF:vO U f a m=a\/∃ j,j<m/\U j=false/\vO U f a m=f j:=by
 induction m with
 | zero=>exact .inl rfl
 | succ m ih=>
  unfold vO;by_cases I:U m=true
  ·rw[if_pos I];rcases ih with h|⟨j,h1,h2,h3⟩
   ·exact .inl h
   ·exact .inr ⟨j,by omega,h2,h3⟩
  ·rw[if_neg I];by_cases hm:vO U f a m<=f m
   ·rw[Int.min_eq_left hm];rcases ih with h|⟨j,h1,h2,h3⟩
    ·exact .inl h
    ·exact .inr ⟨j,by omega,h2,h3⟩
   ·rw[Int.min_eq_right eL];exact .inr ⟨m,by omega,by simpa using I,rfl⟩
theorem Fb{g:Nat->Int}{V:Nat->Bool}(h:∀ j,j<m->f j=g j)(hu:∀ j,j<m->U j=V j):vO U f a m=vO V g a m:=by
 induction m with
 | zero=>rfl
 | succ m ih=>
  unfold vO;rw[ih (fun j hj=>h j eL) (fun j hj=>hu j eL),h m eL,hu m eL]
end
def ins(U:Nat->Bool)(j:Nat):Nat->Bool:=fun x=>U x||x==j
def xw:Nat->Bool:=fun _=>false
def L(c:Nat->Nat->Int)(d e:Nat->Int)(n m:Nat):Nat->(Nat->Bool)->Int
 | 0,U=>sg m (fun j=>if U j then 0 else e j)
 | k+1,U=>vO U (fun j=>c (n-(k+1)) j+L c d e n m k (ins U j)) (d (n-(k+1))+L c d e n m k U) m
def cs(c:Nat->Nat->Int)(d e:Nat->Int)(m:Nat):Nat->(Nat->Bool)->List Int->Option Int
 | _,U,[]=>some (sg m (fun j=>if U j then 0 else e j))
 | i,U,p::ps=>if p<0\/(m:Int)<p\/(p<m/\U p.toNat=true) then none
  else if p=m then(cs c d e m (i+1) U ps).map (d i + ·) else(cs c d e m (i+1) (ins U p.toNat) ps).map (c i p.toNat + ·)
def gr(c:Nat->Nat->Int)(d e:Nat->Int)(n m:Nat):Nat->(Nat->Bool)->List Int
 | 0,_=>[]
 | k+1,U=>match (List.range m).find? (fun j=>!U j&&decide (c (n-(k+1)) j+L c d e n m k (ins U j)=L c d e n m (k+1) U)) with
  | some j=>(j:Int)::gr c d e n m k (ins U j)
  | none=>(m:Int)::gr c d e n m k U
def before:List Int->List Int->Bool
 | a::xs,b::ys=>if a=b then before xs ys else decide (a<b)
 | _,_=>false
section
variable{c:Nat→Nat→Int}{d e:Nat→Int}{n m:Nat}
theorem M5(k:Nat)(U:Nat->Bool):(gr c d e n m k U).length=k:=by
 induction k generalizing U with
 | zero=>rfl
 | succ k ih=>unfold gr;split<;>simp[ih]
variable{p U:Nat->Bool}{ps:List Int}{v:Int}
theorem eu(h:(List.range m).find? p=some j):j<m/\p j=true/\∀ i,i<j->p i=false:=by
 rw[N4] at h;obtain⟨h1,h2,h3⟩:=h;exact⟨List.mem_range.1 h2,h1,fun i hi=>by simpa using h3 i hi⟩
theorem lX(h:(List.range m).find? p=none):∀ i,i<m->p i=false:=by
 rw[CM] at h;exact fun i hi=>by simpa using h i (List.mem_range.2 hi)
theorem UP(hk:k<=n)(I:ps.length=k)(h:cs c d e m (n-k) U ps=some v):L c d e n m k U<=v:=by
 induction k generalizing U ps v with
 | zero=>
  obtain rfl:=List.length_eq_zero_iff.1 I;simp only[cs,Option.some.injEq] at h;rw[<-h];exact lz _
 | succ k ih=>
  cases ps with
  | nil=>simp at I
  | cons p ps=>
   simp only[cs] at h;split at h
   ·cases h
   ·rename_i J;have J:0<=p/\p<=m/\(p<m->U p.toNat=false):=by
     refine⟨by omega,by omega,fun h=>?_⟩;cases hU:U p.toNat
     ·rfl
     ·exact absurd (.inr (.inr ⟨h,hU⟩)) J
    have e1:n-(k+1)+1=n-k:=by omega
    rw[e1] at h;split at h
    ·obtain⟨u,M,rfl⟩:=Option.map_eq_some_iff.1 h;have:=ih eL (by simpa using I) M;have h2:=tC (U:=U) (f:=fun j=>c (n-(k+1)) j+L c d e n m k (ins U j)) (a:=d (n-(k+1))+L c d e n m k U) (m:=m)
     show vO _ _ _ _<=_
     omega
    ·obtain⟨u,M,rfl⟩:=Option.map_eq_some_iff.1 h;have:=ih eL (by simpa using I) M;have h2:=Un (U:=U) (f:=fun j=>c (n-(k+1)) j+L c d e n m k (ins U j)) (a:=d (n-(k+1))+L c d e n m k U) (m:=m) (j:=p.toNat) eL (J.2.2 eL)
     show vO _ _ _ _<=_
     omega
theorem MM(hk:k<=n)(U:Nat->Bool):cs c d e m (n-k) U (gr c d e n m k U)=some (L c d e n m k U):=by
 induction k generalizing U with
 | zero=>rfl
 | succ k ih=>
  have J:n-(k+1)+1=n-k:=by omega
  unfold gr;split
  ·rename_i j hj;obtain⟨M,I,-⟩:=eu hj;simp only[gA,tv,decide_eq_true_eq] at I;simp only[cs];rw[if_neg (by rintro (h|h|⟨-,h⟩);omega;omega;rw[Ax,I.1] at h;cases h),if_neg eL,J,Ax,ih eL,va];exact congrArg some I.2
  ·rename_i hn;have M:=lX hn;simp only[cs];rw[if_neg (by rintro (h|h|⟨h,-⟩)<;>omega)];simp only[if_true];rw[J,ih eL,va];refine congrArg some ?_;rcases zF (U:=U) (f:=fun j=>c (n-(k+1)) j+L c d e n m k (ins U j)) (a:=d (n-(k+1))+L c d e n m k U) (m:=m) with h|⟨j,g1,g2,g3⟩
   ·exact h.symm
   ·have:=M j g1;rw[g2] at this;simp only[nh,lx,decide_eq_false_iff_not] at this;exact absurd g3.symm this
theorem M6(P:Nat->Nat)(n j:Nat):used P (n+1) j=(P 0==j||used (fun i=>P (i+1)) n j):=by
 rw[tB];simp only[tA,beq_iff_eq,mX];constructor
 ·rintro⟨i,J,I⟩;cases i with
  | zero=>exact .inl I
  | succ i=>exact .inr ⟨i,by omega,I⟩
 ·rintro (h|⟨i,J,I⟩)
  ·exact⟨0,by omega,h⟩
  ·exact⟨i+1,by omega,I⟩
structure M7(k m:Nat)(U:Nat->Bool)(P:Nat->Nat):Prop where
 asg:bA k m P
 free:∀ i,i<k->P i<m->U (P i)=false
def xD(c:Nat->Nat->Int)(d e:Nat->Int)(m i k:Nat)(U:Nat->Bool)(P:Nat->Nat):Int:=
 sg k (fun r=>if P r<m then c (i+r) (P r) else d (i+r))+sg m (fun j=>if U j||used P k j then 0 else e j)
def lp(ps:List Int):Nat->Nat:=fun r=>(ps.getD r 0).toNat
theorem tF:xD c d e m i (k+1) U P=(if P 0<m then c i (P 0) else d i)+xD c d e m (i+1) k (if P 0<m then ins U (P 0) else U) (fun r=>P (r+1)):=by
 unfold xD;rw[Ct,Int.add_assoc];have I:sg k (fun r=>if P (r+1)<m then c (i+(r+1)) (P (r+1)) else d (i+(r+1)))=sg k (fun r=>if P (r+1)<m then c (i+1+r) (P (r+1)) else d (i+1+r)):=bL fun r _=>by
  have:i+(r+1)=i+1+r:=by omega
  rw[this]
 have J:sg m (fun j=>if U j||used P (k+1) j then 0 else e j)=sg m (fun j=>if(if P 0<m then ins U (P 0) else U) j||used (fun r=>P (r+1)) k j then 0 else e j):=bL fun j M=>by
  rw[M6];by_cases h:P 0<m
  ·rw[if_pos h];unfold ins;have:(P 0==j)=(j==P 0):=by rw[tB];simp;omega
   rw[this,Bool.or_assoc]
  ·rw[if_neg h];have:(P 0==j)=false:=by simp;omega
   rw[this,vf]
 rw[I,J];simp
theorem Cu(h0:P 0<=m)(hU:P 0<m->U (P 0)=false)(h:M7 k m (if P 0<m then ins U (P 0) else U) (fun r=>P (r+1))):M7 (k+1) m U P:=by
 have M:∀ i,i<k->P (i+1)<m->U (P (i+1))=false/\(P 0<m->P (i+1)≠P 0):=by
  intro i hi I;have:=h.free i hi I;by_cases h1:P 0<m
  ·rw[if_pos h1] at this;simp only[ins,Bool.or_eq_false_iff,beq_eq_false_iff_ne] at this;exact⟨this.1,fun _=>this.2⟩
  ·rw[if_neg h1] at this;exact⟨this,fun h=>absurd h h1⟩
 refine⟨⟨fun i hi=>?_,fun i j hi hj J hm=>?_⟩,fun i hi I=>?_⟩
 ·cases i with
  | zero=>exact h0
  | succ i=>exact h.asg.le i eL
 ·cases i with
  | zero=>
   cases j with
   | zero=>rfl
   | succ j=>exact absurd J.symm ((M j eL eL).2 hm)
  | succ i=>
   cases j with
   | zero=>exact absurd J ((M i eL hm).2 eL)
   | succ j=>have:=h.asg.inj i j eL eL J hm;omega
 ·cases i with
  | zero=>exact hU I
  | succ i=>exact(M i eL I).1
theorem Rz(h:M7 (k+1) m U P):M7 k m (if P 0<m then ins U (P 0) else U) (fun r=>P (r+1)):=by
 refine⟨⟨fun i hi=>h.asg.le _ eL,fun i j hi hj I hm=>by have:=h.asg.inj (i+1) (j+1) eL eL I hm;omega⟩,fun i hi J=>?_⟩;have h1:=h.free (i+1) eL J;by_cases M:P 0<m
 ·rw[if_pos M];simp only[ins,h1,vf,beq_eq_false_iff_ne];intro I;have:=h.asg.inj (i+1) 0 eL eL I J;omega
 ·rw[if_neg M];exact h1
theorem BL(h:cs c d e m i U ps=some v):M7 ps.length m U (lp ps)/\v=xD c d e m i ps.length U (lp ps)/\∀ p ∈ ps,0<=p/\p<=m:=by
 induction ps generalizing i U v with
 | nil=>
  simp only[cs,Option.some.injEq] at h;refine⟨⟨⟨fun i hi=>by simp at hi,fun i j hi=>by simp at hi⟩,fun i hi=>by simp at hi⟩,?_,fun p I=>by simp at I⟩;rw[<-h];unfold xD;simp[sg,used]
 | cons p ps ih=>
  simp only[cs] at h;split at h
  ·cases h
  rename_i I;have I:0<=p/\p<=m/\(p<m->U p.toNat=false):=by
   refine⟨by omega,by omega,fun h=>?_⟩;cases hU:U p.toNat
   ·rfl
   ·exact absurd (.inr (.inr ⟨h,hU⟩)) I
  have J:lp (p::ps) 0=p.toNat:=rfl;have M:(fun r=>lp (p::ps) (r+1))=lp ps:=rfl;have hm:∀ q ∈ ps,0<=q/\q<=m->True:=fun _ _ _=>trivial;split at h
  ·rename_i aa;obtain⟨u,h1,rfl⟩:=Option.map_eq_some_iff.1 h;obtain⟨g1,g2,g3⟩:=ih h1;have hn:¬ lp (p::ps) 0<m:=by rw[J];omega
   refine⟨Cu (by rw[J];omega) (fun h=>absurd h hn) (by rw[if_neg hn,M];exact g1),?_,?_⟩
   ·rw[jz,tF,if_neg hn,if_neg hn,M,<-g2]
   ·intro q hq;rcases List.mem_cons.1 hq with rfl|hq;exact⟨I.1,I.2.1⟩;exact g3 q hq
  ·rename_i aa;obtain⟨u,h1,rfl⟩:=Option.map_eq_some_iff.1 h;obtain⟨g1,g2,g3⟩:=ih h1;have hn:lp (p::ps) 0<m:=by rw[J];omega
   refine⟨Cu (by rw[J];omega) (fun h=>by rw[J];exact I.2.2 eL) (by rw[if_pos hn,M,J];exact g1),?_,?_⟩
   ·rw[jz,tF,if_pos hn,if_pos hn,M,J,<-g2]
   ·intro q hq;rcases List.mem_cons.1 hq with rfl|hq;exact⟨I.1,I.2.1⟩;exact g3 q hq
def pl(P:Nat->Nat)(k:Nat):List Int:=(List.range k).map (fun i=>(P i:Int))
theorem Uo(P:Nat->Nat)(k:Nat):(pl P k).length=k:=by simp[pl]
theorem JA(P:Nat->Nat)(k:Nat):pl P (k+1)=(P 0:Int)::pl (fun r=>P (r+1)) k:=by
 unfold pl;rw[List.range_succ_eq_map];simp
theorem MY(h:M7 k m U P):cs c d e m i U (pl P k)=some (xD c d e m i k U P):=by
 induction k generalizing i U P with
 | zero=>simp[pl,cs,xD,sg,used]
 | succ k ih=>
  have J:=ih (i:=i+1) (Rz h);have h0:=h.asg.le 0 eL;rw[JA,tF];simp only[cs];by_cases I:P 0<m
  ·have M:=h.free 0 eL I;rw[if_pos I] at J;rw[if_neg (by rintro (h|h|⟨-,h⟩);omega;omega;rw[Ax,M] at h;cases h),if_neg eL,Ax,if_pos I,if_pos I,J,va]
  ·rw[if_neg I] at J;rw[if_neg (by rintro (h|h|⟨h,-⟩)<;>omega),if_pos eL,if_neg I,if_neg I,J,va]
theorem lY(P:Nat->Nat):xD c d e m 0 n xw P=cost c d e n m P:=by
 unfold xD cost xw;simp
theorem O4(h:bA n m P):M7 n m xw P:=⟨h,fun _ _ _=>rfl⟩
theorem O5:Hg c d e n m (L c d e n m n xw):=by
 constructor
 ·have h:=MM (c:=c) (d:=d) (e:=e) (n:=n) (m:=m) (fL n) xw;rw[nq] at h;obtain⟨J,I,-⟩:=BL h;rw[M5] at J I;exact⟨_,J.asg,by rw[I,lY]⟩
 ·intro P M;have h:=MY (c:=c) (d:=d) (e:=e) (i:=0) (O4 M);rw[lY] at h;exact UP (fL n) (Uo P n) (by rw[nq];exact h)
end
def Y0(e:Nat->Int)(m:Nat):Nat->Int
 | 0=>0
 | b+1=>e (m-(b+1))+Y0 e m b
def yz(c:Nat->Nat->Int)(d e:Nat->Int)(m i:Nat)(f:Nat->Int):Nat->Int
 | 0=>d i+f 0
 | b+1=>min (min (d i+f (b+1)) (e (m-(b+1))+yz c d e m i f b)) (c i (m-(b+1))+f b)
def GR(c:Nat->Nat->Int)(d e:Nat->Int)(n m:Nat):Nat->Nat->Int
 | 0=>Y0 e m
 | a+1=>yz c d e m (n-(a+1)) (GR c d e n m a)
def xg(c:Nat->Nat->Int)(d e:Nat->Int)(n m:Nat):Nat->Nat->List Int
 | 0,_=>[]
 | a+1,b=>match (List.range b).find? (fun t=>decide (sg t (fun x=>e (m-b+x))+c (n-(a+1)) (m-b+t)+GR c d e n m a (b-(t+1))=GR c d e n m (a+1) b)) with
  | some t=>((m-b+t:Nat):Int)::xg c d e n m a (b-(t+1))
  | none=>(m:Int)::xg c d e n m a b
def keeps(m:Nat):Int->List Int->Bool
 | _,[]=>true
 | l,p::ps=>if p=m then keeps m l ps else if p<=l then false else keeps m p ps
def M8(c:Nat->Nat->Int)(d e:Nat->Int)(m:Nat):Nat->Nat->List Int->Option Int
 | _,f,[]=>some (sg (m-f) (fun x=>e (f+x)))
 | i,f,p::ps=>if p=m then(M8 c d e m (i+1) f ps).map (d i + ·)
  else if p<f\/(m:Int)<p then none else(M8 c d e m (i+1) (p.toNat+1) ps).map (sg (p.toNat-f) (fun x=>e (f+x))+c i p.toNat + ·)
section
variable{c:Nat→Nat→Int}{d e:Nat→Int}{n m:Nat}
theorem Uq(a b:Nat):GR c d e n m (a+1) b<=d (n-(a+1))+GR c d e n m a b:=by
 cases b with
 | zero=>exact lz _
 | succ b=>show min (min _ _) _<=_;omega
theorem Ur(a b:Nat):GR c d e n m a (b+1)<=e (m-(b+1))+GR c d e n m a b:=by
 cases a with
 | zero=>exact lz _
 | succ a=>show min (min _ _) _<=_;exact A0 (Int.min_le_left _ _) (JP _ _)
theorem Y2(a b:Nat):GR c d e n m (a+1) (b+1)<=c (n-(a+1)) (m-(b+1))+GR c d e n m a b:=JP _ _
variable{b a f:Nat}{ps:List Int}{v l:Int}
theorem zG{t:Nat}(hb:b+1<=m):sg (t+1) (fun x=>e (m-(b+1)+x))=e (m-(b+1))+sg t (fun x=>e (m-b+x)):=by
 rw[Ct];congr 1;exact bL fun i _=>by congr 1;omega
theorem Y3(a:Nat){t:Nat}(J:b<=m)(ht:t<b):GR c d e n m (a+1) b<=sg t (fun x=>e (m-b+x))+c (n-(a+1)) (m-b+t)+GR c d e n m a (b-(t+1)):=by
 induction b generalizing t with
 | zero=>omega
 | succ b ih=>
  cases t with
  | zero=>have:=Y2 (c:=c) (d:=d) (e:=e) (n:=n) (m:=m) a b;simp only[sg,pk,AK];exact this
  | succ t=>
   rw[zG J];have h1:=ih (t:=t) eL eL;have M:=Ur (c:=c) (d:=d) (e:=e) (n:=n) (m:=m) (a+1) b;have h:m-(b+1)+(t+1)=m-b+t:=by omega
   have I:b+1-(t+1+1)=b-(t+1):=by omega
   rw[h,I];omega
theorem US(a:Nat)(hb:b<=m):GR c d e n m (a+1) b=d (n-(a+1))+GR c d e n m a b\/∃ t,t<b/\sg t (fun x=>e (m-b+x))+c (n-(a+1)) (m-b+t)+GR c d e n m a (b-(t+1))=GR c d e n m (a+1) b:=by
 induction b with
 | zero=>exact .inl rfl
 | succ b ih=>
  have h0:GR c d e n m (a+1) (b+1)=min (min (d (n-(a+1))+GR c d e n m a (b+1)) (e (m-(b+1))+GR c d e n m (a+1) b)) (c (n-(a+1)) (m-(b+1))+GR c d e n m a b):=rfl;have h1:=Uq (c:=c) (d:=d) (e:=e) (n:=n) (m:=m) a (b+1);by_cases J:GR c d e n m (a+1) (b+1)=c (n-(a+1)) (m-(b+1))+GR c d e n m a b
  ·refine .inr ⟨0,by omega,?_⟩;simp only[sg,pk,AK];exact J.symm
  ·by_cases M:GR c d e n m (a+1) (b+1)=d (n-(a+1))+GR c d e n m a (b+1)
   ·exact .inl M
   ·have h4:GR c d e n m (a+1) (b+1)=e (m-(b+1))+GR c d e n m (a+1) b:=by omega
    rcases ih eL with g|⟨t,g1,g2⟩
    ·have:=Ur (c:=c) (d:=d) (e:=e) (n:=n) (m:=m) a b;omega
    ·refine .inr ⟨t+1,by omega,?_⟩;have h:m-(b+1)+(t+1)=m-b+t:=by omega
     have I:b+1-(t+1+1)=b-(t+1):=by omega
     rw[zG hb,h,I];omega
theorem O6(hb:b<=m):Y0 e m b=sg b (fun x=>e (m-b+x)):=by
 induction b with
 | zero=>rfl
 | succ b ih=>rw[zG hb,Y0,ih eL]
theorem Hu(a b:Nat):(xg c d e n m a b).length=a:=by
 induction a generalizing b with
 | zero=>rfl
 | succ a ih=>unfold xg;split<;>simp[ih]
theorem Y4(ha:a<=n)(hf:f<=m)(J:ps.length=a)(h:M8 c d e m (n-a) f ps=some v):GR c d e n m a (m-f)<=v:=by
 induction a generalizing f ps v with
 | zero=>
  obtain rfl:=List.length_eq_zero_iff.1 J;simp only[M8,Option.some.injEq] at h
  show Y0 e m (m-f)<=v
  rw[<-h,O6 eL,show m-(m-f)=f from by omega];exact lz _
 | succ a ih=>
  cases ps with
  | nil=>simp at J
  | cons p ps=>
   have I:ps.length=a:=by simpa using J
   have e1:n-(a+1)+1=n-a:=by omega
   simp only[M8,e1] at h;split at h
   ·obtain⟨u,M,rfl⟩:=Option.map_eq_some_iff.1 h;have:=ih eL hf I M;have:=Uq (c:=c) (d:=d) (e:=e) (n:=n) (m:=m) a (m-f);omega
   ·split at h
    ·cases h
    ·obtain⟨u,M,rfl⟩:=Option.map_eq_some_iff.1 h;have h2:=ih eL eL I M;have h3:=Y3 (c:=c) (d:=d) (e:=e) (n:=n) (m:=m) a (b:=m-f) (t:=p.toNat-f) eL eL;rw[show m-(m-f)=f from by omega,show f+(p.toNat-f)=p.toNat from by omega,show m-f-(p.toNat-f+1)=m-(p.toNat+1) from by omega] at h3;omega
theorem O7(ha:a<=n)(hf:f<=m):M8 c d e m (n-a) f (xg c d e n m a (m-f))=some (GR c d e n m a (m-f)):=by
 induction a generalizing f with
 | zero=>
  show some _=some (Y0 e m (m-f))
  rw[O6 eL,show m-(m-f)=f from by omega]
 | succ a ih=>
  have J:n-(a+1)+1=n-a:=by omega
  unfold xg;split
  ·rename_i t ht;obtain⟨h1,I,-⟩:=eu ht;rw[decide_eq_true_eq] at I;have e2:m-(m-f)=f:=by omega
   rw[e2] at I ⊢;have M:=ih (f:=f+t+1) eL eL;rw[show m-(f+t+1)=m-f-(t+1) from by omega] at M;simp only[M8];rw[if_neg eL,if_neg eL,J,Ax,M,va,show f+t-f=t from by omega];exact congrArg some I
  ·rename_i hn;have h1:=lX hn;simp only[M8];simp only[if_true];rw[J,ih eL hf,va];refine congrArg some ?_;rcases US (c:=c) (d:=d) (e:=e) (n:=n) (m:=m) a (b:=m-f) eL with h|⟨t,g1,g2⟩
   ·exact h.symm
   ·have:=h1 t g1;rw[decide_eq_false_iff_not] at this;exact absurd g2 this
theorem Fe(h:M8 c d e m i f ps=some v):keeps m ((f:Int)-1) ps=true:=by
 induction ps generalizing i f v with
 | nil=>rfl
 | cons p ps ih=>
  simp only[M8] at h;unfold keeps;split at h
  ·rename_i I;obtain⟨u,J,-⟩:=Option.map_eq_some_iff.1 h;rw[if_pos I];exact ih J
  ·rename_i I;split at h
   ·cases h
   ·obtain⟨u,J,-⟩:=Option.map_eq_some_iff.1 h;rw[if_neg I,if_neg eL];have:=ih J;rw[show((p.toNat+1:Nat):Int)-1=p from by omega] at this;exact this
theorem UT{U:Nat->Bool}(J:∀ j,f<=j->j<m->U j=false)(hf:f<=m)(h:keeps m ((f:Int)-1) ps=true):cs c d e m i U ps=(M8 c d e m i f ps).map (sg f (fun j=>if U j then 0 else e j) + ·):=by
 induction ps generalizing i f U with
 | nil=>
  simp only[cs,M8,va,Option.some.injEq];have e1:m=f+(m-f):=by omega
  have M:=M0 (n:=f) (k:=m-f) (f:=fun j=>if U j=true then 0 else e j);rw[<-e1] at M;rw[M];congr 1;exact bL fun t ht=>by rw[J (f+t) eL eL];simp
 | cons p ps ih=>
  simp only[cs,M8];unfold keeps at h;by_cases I:p=m
  ·rw[if_pos I] at h;rw[if_neg eL,if_pos I,if_pos I,ih J hf h,tE,tE];congr 1;funext x;simp only[Function.comp];omega
  ·rw[if_neg I] at h;split at h
   ·cases h
   rename_i aa;rw[if_neg I,if_neg I];by_cases hm:(m:Int)<p
   ·rw[if_pos eL,if_pos eL];rfl
   ·have hk:keeps m (((p.toNat+1:Nat):Int)-1) ps=true:=by
     rw[show((p.toNat+1:Nat):Int)-1=p from by omega];exact h
    rw[if_neg (by rintro (h|h|⟨_,h⟩);omega;omega;rw[J p.toNat eL eL] at h;cases h),if_neg eL];rw[ih (f:=p.toNat+1) (U:=ins U p.toNat) (fun j h1 h2=>by simp only[ins,J j eL h2,vf,beq_eq_false_iff_ne];omega) eL hk,tE,tE];congr 1;funext x;simp only[Function.comp];have e1:sg (p.toNat+1) (fun j=>if ins U p.toNat j then 0 else e j)=sg f (fun j=>if U j then 0 else e j)+sg (p.toNat-f) (fun x=>e (f+x)):=by
     rw[dK];have e3:ins U p.toNat p.toNat=true:=by simp[ins]
     rw[e3];have M:p.toNat=f+(p.toNat-f):=by omega
     have e4:=M0 (n:=f) (k:=p.toNat-f) (f:=fun j=>if ins U p.toNat j=true then 0 else e j);rw[<-M] at e4;rw[e4];simp only[if_true,AN];congr 1
     ·exact bL fun j hj=>by
       have:(j==p.toNat)=false:=by simp;omega
       simp only[ins,this,G3]
     ·exact bL fun t ht=>by
       have:(f+t==p.toNat)=false:=by simp;omega
       simp only[ins,this,G3,J (f+t) eL eL];simp
    omega
theorem Hw(h:keeps m (-1) ps=true):cs c d e m 0 xw ps=M8 c d e m 0 0 ps:=by
 have:=UT (c:=c) (d:=d) (e:=e) (i:=0) (f:=0) (U:=xw) (fun _ _ _=>rfl) (fy m) (ps:=ps) (by simpa using h);rw[this];cases M8 c d e m 0 0 ps<;>simp[sg]
def tH(n m:Nat)(P:Nat->Nat):Prop:=∀ i j,i<j->j<n->P i<m->P j<m->P i<P j
theorem Us(h:keeps m l ps=true):(∀ i (hi:i<ps.length),ps[i]≠m->l<ps[i])/\∀ i j (aa:i<j) (hj:j<ps.length),ps[i]≠m->ps[j]≠m->ps[i]<ps[j]:=by
 induction ps generalizing l with
 | nil=>exact⟨fun i hi=>by simp at hi,fun i j _ hj=>by simp at hj⟩
 | cons p ps ih=>
  unfold keeps at h;split at h
  ·rename_i hp;obtain⟨h1,h2⟩:=ih h;refine⟨fun i hi J=>?_,fun i j aa hj M I=>?_⟩
   ·cases i with
    | zero=>exact absurd hp J
    | succ i=>exact h1 i (by simpa using hi) J
   ·cases i with
    | zero=>exact absurd hp M
    | succ i=>
     cases j with
     | zero=>omega
     | succ j=>exact h2 i j eL (by simpa using hj) M I
  ·split at h
   ·cases h
   ·rename_i hp hl;obtain⟨h1,h2⟩:=ih h;refine⟨fun i hi J=>?_,fun i j aa hj M I=>?_⟩
    ·cases i with
     | zero=>show l<p;omega
     | succ i=>have:=h1 i (by simpa using hi) J;show l<ps[i]'(by simpa using hi);omega
    ·cases j with
     | zero=>omega
     | succ j=>
      cases i with
      | zero=>exact h1 j (by simpa using hj) I
      | succ i=>exact h2 i j eL (by simpa using hj) M I
theorem Cv(h:keeps m (-1) ps=true):tH ps.length m (lp ps):=by
 intro i j aa I M J;obtain⟨h1,h2⟩:=Us h;have e1:lp ps i=(ps[i]'eL).toNat:=by simp[lp,ki,ic (show i<ps.length by omega)]
 have e2:lp ps j=(ps[j]).toNat:=by simp[lp,ki,ic I]
 have g1:=h1 i eL;have g2:=h1 j I;have:=h2 i j aa I;rw[e1] at M ⊢;rw[e2] at J ⊢;omega
theorem M9{k:Nat}(h:tH k m P)(I:∀ i,i<k->P i<=m/\(P i<m->l<P i)):keeps m l (pl P k)=true:=by
 induction k generalizing P l with
 | zero=>rfl
 | succ k ih=>
  rw[JA];unfold keeps;have J:tH k m (fun r=>P (r+1)):=fun i j M hj=>h (i+1) (j+1) eL eL;split
  ·exact ih J fun i hi=>I (i+1) eL
  ·rename_i hp;have h0:=I 0 eL;rw[if_neg eL];refine ih J fun i hi=>⟨(I (i+1) eL).1,fun hm=>?_⟩;have:=h 0 (i+1) eL eL eL hm;omega
structure Cw(c:Nat->Nat->Int)(d e:Nat->Int)(n m:Nat)(v:Int):Prop where
 has:∃ P,bA n m P/\tH n m P/\cost c d e n m P=v
 low:∀ P,bA n m P->tH n m P->v<=cost c d e n m P
theorem Na:Cw c d e n m (GR c d e n m n m):=by
 constructor
 ·have h:=O7 (c:=c) (d:=d) (e:=e) (n:=n) (m:=m) (a:=n) (f:=0) (fL n) (fy m);rw[nq,sn] at h;have I:keeps m (-1) (xg c d e n m n m)=true:=by have:=Fe h;simpa using this
  rw[<-Hw I] at h;obtain⟨h1,M,-⟩:=BL h;have h3:=Cv I;rw[Hu] at h1 M h3;exact⟨_,h1.asg,h3,by rw[M,lY]⟩
 ·intro P J hM;have h:=MY (c:=c) (d:=d) (e:=e) (i:=0) (O4 J);have I:keeps m (-1) (pl P n)=true:=M9 hM fun i hi=>⟨J.le i hi,fun _=>by omega⟩;rw[lY,Hw I] at h;have:=Y4 (n:=n) (a:=n) (f:=0) (fL n) (fy m) (Uo P n) (by rw[nq];exact h);simpa using this
theorem Hg.UX{u:Int}(h:Hg c d e n m v)(g:Cw c d e n m u):v<=u:=by
 obtain⟨Q,g1,g1',g2⟩:=g.has;have:=h.low Q g1;omega
end
section
variable{c c':Nat→Nat→Int}{d e d' e':Nat→Int}{n m n' m':Nat}{B:Int}
variable{v v':Int}{s s' t t':Nat->Nat}
theorem Hy(h:Hg c d e n m v)(h':Hg c' d' e' n' m' v')(f:∀ P,bA n m P->∃ P',bA n' m' P'/\cost c' d' e' n' m' P'<=cost c d e n m P+B):v'<=v+B:=by
 obtain⟨P,h1,h2⟩:=h.has;obtain⟨P',h3,h4⟩:=f P h1;have:=h'.low P' h3;omega
theorem jB(hc:∀ i,i<n->∀ j,j<m->c i j=c' i j)(hd:∀ i,i<n->d i=d' i)(he:∀ j,j<m->e j=e' j)(P:Nat->Nat):cost c d e n m P=cost c' d' e' n m P:=by
 unfold cost;congr 1
 ·exact bL fun i hi=>by split;exact hc i hi _ (by assumption);exact hd i hi
 ·exact bL fun j hj=>by split;rfl;exact he j hj
theorem Hg.congr(hc:∀ i,i<n->∀ j,j<m->c i j=c' i j)(hd:∀ i,i<n->d i=d' i)(he:∀ j,j<m->e j=e' j)(h:Hg c d e n m v):Hg c' d' e' n m v:=by
 obtain⟨⟨P,h1,h2⟩,h3⟩:=h;exact⟨⟨P,h1,by rw[<-jB hc hd he];exact h2⟩,fun Q hQ=>by rw[<-jB hc hd he];exact h3 Q hQ⟩
theorem Cw.congr(hc:∀ i,i<n->∀ j,j<m->c i j=c' i j)(hd:∀ i,i<n->d i=d' i)(he:∀ j,j<m->e j=e' j)(h:Cw c d e n m v):Cw c' d' e' n m v:=by
 obtain⟨⟨P,h1,h1',h2⟩,h3⟩:=h;exact⟨⟨P,h1,h1',by rw[<-jB hc hd he];exact h2⟩,fun Q hQ hM=>by rw[<-jB hc hd he];exact h3 Q hQ hM⟩
structure Inv(n:Nat)(s s':Nat->Nat):Prop where
 lt:∀ i,i<n->s i<n
 lt':∀ i,i<n->s' i<n
 l:∀ i,i<n->s' (s i)=i
 r:∀ i,i<n->s (s' i)=i
theorem Inv.flip(h:Inv n s s'):Inv n s' s:=⟨h.lt',h.lt,h.r,h.l⟩
theorem Inv.inj(h:Inv n s s')(hi:i<n)(hj:j<n)(he:s i=s j):i=j:=by
 rw[<-h.l i hi,he,h.l j hj]
theorem O8(h:Inv n s s')(f:Nat->Int):sg n (fun i=>f (s i))=sg n f:=by
 have hA:bA n n s:=⟨fun i hi=>AW (h.lt i hi),fun i j hi I M _=>h.inj hi I M⟩;have J:=B4 hA f;rw[bL (g:=fun i=>f (s i)) (fun i hi=>by simp[h.lt i hi]),bL (f:=fun j=>if used s n j then f j else 0) (g:=f) (fun j I=>by rw[mX.2 ⟨s' j,h.lt' j I,h.r j I⟩];simp)] at J;exact J
def AA(m:Nat)(s t':Nat->Nat)(P:Nat->Nat):Nat->Nat:=fun i=>if P (s i)<m then t' (P (s i)) else m
theorem JB(M:Inv n s s')(ht:Inv m t t')(hP:bA n m P):bA n m (AA m s t' P):=by
 refine⟨fun i hi=>?_,fun i j hi hj I hm=>?_⟩
 ·unfold AA;split
  ·rename_i h;exact AW (ht.lt' _ h)
  ·exact fL _
 ·unfold AA at I hm;by_cases J:P (s i)<m<;>by_cases h2:P (s j)<m<;>simp only[J,h2,if_true,if_false] at I hm
  ·have:=ht.flip.inj J h2 I;exact M.inj hi hj (hP.inj _ _ (M.lt i hi) (M.lt j hj) this J)
  ·omega
  ·omega
  ·omega
theorem Fg{M:Nat->Nat}(hs:Inv n s s')(J:Inv m t M)(hP:bA n m P):cost (fun i j=>c (s i) (t j)) (fun i=>d (s i)) (fun j=>e (t j)) n m (AA m s M P)=cost c d e n m P:=by
 unfold cost;congr 1
 ·rw[<-O8 hs (fun i=>if P i<m then c i (P i) else d i)];refine bL fun i hi=>?_;unfold AA;by_cases h:P (s i)<m
  ·have:=J.lt' _ h;rw[if_pos h,if_pos this,if_pos h]
   show c (s i) (t (M (P (s i))))=_
   rw[J.r _ h]
  ·rw[if_neg h,if_neg (my m),if_neg h]
 ·rw[<-O8 J (fun j=>if used P n j then 0 else e j)];refine bL fun j hj=>?_;have:used (AA m s M P) n j=used P n (t j):=by
   rw[tB,mX,mX];constructor
   ·rintro⟨i,hi,I⟩;unfold AA at I;by_cases h:P (s i)<m
    ·rw[if_pos h] at I;exact⟨s i,hs.lt i hi,by rw[<-I,J.r _ h]⟩
    ·rw[if_neg h] at I;omega
   ·rintro⟨i,hi,I⟩;refine⟨s' i,hs.lt' i hi,?_⟩;have:=J.lt j hj;unfold AA;rw[hs.r i hi,I,if_pos this,J.l j hj]
  rw[this]
theorem Hg.perm(J:Inv n s s')(I:Inv m t t')(h:Hg c d e n m v)(h':Hg (fun i j=>c (s i) (t j)) (fun i=>d (s i)) (fun j=>e (t j)) n m v'):v'=v:=by
 have h1:=Hy (B:=0) h h' fun P M=>⟨_,JB J I M,by rw[Fg J I M];omega⟩
 have h2:=Hy (B:=0) h' h fun P M=>⟨_,JB J.flip I.flip M,by
  rw[<-Fg J.flip I.flip M,AN]
  exact LL (jB (fun i hi j hj=>by simp only[J.r i hi,I.r j hj]) (fun i hi=>by simp only[J.r i hi]) (fun j hj=>by simp only[I.r j hj]) _)⟩
 omega
end
end Go.CH.bA
namespace Go.CH.dh
open Go.CH.Scr
structure Drop where
 k:Int
 w:Bs
 c:Int
deriving DecidableEq
structure eW where
 rs:List im
 ds:List Drop
 es:List Drop
 drop:Int
 ord:Int
 ini:Int
deriving DecidableEq
def iU(k:Int)(s:Bs)(ju:Nat):Bool:=word k s&&(decide (lower s=s)&&decide ((aQ k s).1.length<=ju))
def vU(s:Bs):Bool:=decide (s.length<=3)&&s.all j4
def gZ(n:Int):Bool:=decide (0<=n)&&decide (n<=1000)
def ku(R:im):Int × Bs × Bs:=(R.k,R.f,R.t)
def nY(d:Drop):Int × Bs × Bs:=(d.k,d.w,[])
def vV(R:im):Bool:=iU R.k R.f 3&&(vU R.t&&gZ R.c)
def vW(ju:Nat)(d:Drop):Bool:=iU d.k d.w ju&&gZ d.c
def tV(l:List im):Bool:=decide ((l.map ku).Nodup)&&l.all vV
def jT(ju:Nat)(l:List Drop):Bool:=decide ((l.map nY).Nodup)&&(l.all (vW ju)&&decide (l.length<=40))
def bI(T:eW):Bool:=
 (decide (T.rs≠[])&&(decide (T.rs.length<=80)&&(gZ T.drop&&(gZ T.ord&&gZ T.ini))))&&(tV T.rs&&(jT 12 T.ds&&jT 4 T.es))
theorem eH{n:Int}:gZ n=true↔0<=n/\n<=1000:=by unfold gZ;simp
variable{k:Int}{s:Bs}
theorem AL{m:Nat}:iU k s m=true↔word k s=true/\lower s=s/\(aQ k s).1.length<=m:=by unfold iU;simp
theorem uX:vU s=true↔s.length<=3/\s.all j4=true:=by unfold vU;rw[gA,decide_eq_true_eq]
theorem l7{R:im}:vV R=true↔iU R.k R.f 3=true/\vU R.t=true/\gZ R.c=true:=by unfold vV;simp
theorem iL{l:List im}:tV l=true↔(l.map ku).Nodup/\∀ R ∈ l,vV R=true:=by unfold tV;simp
theorem bX{T:eW}:bI T=true↔(T.rs≠[]/\T.rs.length<=80/\gZ T.drop=true/\gZ T.ord=true/\gZ T.ini=true)/\tV T.rs=true/\jT 12 T.ds=true/\jT 4 T.es=true:=by
 unfold bI;simp only[gA,decide_eq_true_eq]
def bO(T:eW)(a:Int)(x:Bs)(b:Int)(y:Bs):Wd:=⟨a,b,(aQ a (lower x)).1,(aQ b (lower y)).1,T.rs⟩
def okW(T:eW)(a:Int)(x:Bs)(b:Int)(y:Bs):Bool:=word a x&&(word b y&&bI T)
theorem fV{T:eW}{a b:Int}{x y:Bs}:okW T a x b y=true↔word a x=true/\word b y=true/\bI T=true:=by unfold okW;simp
section
variable{T:eW}{a b:Int}{x y:Bs}
theorem rR(h:bI T=true):(bO T a x b y).good/\(bO T a x b y).qd:=by
 obtain⟨-,h1,-,-⟩:=bX.1 h;obtain⟨-,M⟩:=iL.1 h1;constructor
 ·intro R I;obtain⟨f1,f2,f3⟩:=l7.1 (M R I);have J:=eH.1 f3;refine⟨J.1,J.2,fun e=>?_⟩;have:=(AL.1 f1).1;rw[e] at this;exact CF this rfl
 ·intro R I;obtain⟨f1,f2,f3⟩:=l7.1 (M R I);exact uX.1 f2
theorem Il(h:okW T a x b y=true):1<=(bO T a x b y).l.length/\(bO T a x b y).l.length<=12/\1<=(bO T a x b y).m.length/\(bO T a x b y).m.length<=12:=by
 obtain⟨h1,h2,-⟩:=fV.1 h;have e1:=(eX.1 (iY h1)).2;have e2:=(eX.1 (iY h2)).2;exact⟨e1.1,e1.2,e2.1,e2.2⟩
def jq(T:eW)(a:Int)(x:Bs)(b:Int)(y:Bs)(bound:Int)(C:List Pt):Prop:=okW T a x b y=true/\Holds (bO T a x b y) bound C
inductive CO(T:eW)(a:Int)(x:Bs)(b:Int)(y:Bs)(bound:Int):List Pt->Int->Prop
 | arg (h:okW T a x b y=false\/bound<0\/100000<bound):CO T a x b y bound [] 1
 | none (h:okW T a x b y=true) (h0:0<=bound) (h1:bound<=100000) (h2:(bO T a x b y).fw gC<bound):CO T a x b y bound [] 11
 | some (C:List Pt) (h:okW T a x b y=true) (h0:0<=bound) (h1:bound<=100000) (h2:bound<=(bO T a x b y).fw gC) (hc:wu (bO T a x b y) bound C):CO T a x b y bound C 0
end
section
theorem Zv{r:Bs}:∀ cs:List Bs,ctx k cs r->aQ k cs.flatten=(cs,[]):=by
 intro cs
 induction cs with
 | nil=>intro _;exact fP gh
 | cons x xs ih=>
  rintro⟨h1,h,h3⟩;have e:=ih h3;have J:0<x.length:=List.length_pos_iff.2 h1;have M:fS k (x++xs.flatten)=x.length:=by
   have I:=UJ (k:=k) (l:=x++(xs.flatten++r)) (j:=(x++xs.flatten).length) (by rw[h];omega) (by rw[h,gj];omega);rw[<-ma,List.take_left' rfl,ma,h] at I;exact I
  rw[FO,gW (by rw[M];omega),M,List.take_left' rfl,List.drop_left' rfl,e]
theorem X1(l:Bs):ctx k (aQ k l).1 (aQ k l).2:=by
 refine oO (k:=k) (P:=fun l=>ctx k (aQ k l).1 (aQ k l).2) (fun l h=>?_) (fun l h ih=>?_) l
 ·show ctx k (aQ k l).1 (aQ k l).2
  rw[fP h];trivial
 ·show ctx k (aQ k l).1 (aQ k l).2
  have I:=rP (k:=k) (l:=l);rw[gW h];refine⟨?_,?_,ih⟩
  ·intro e;have:=congrArg List.length e;rw[kt,lL] at this;omega
  ·rw[zJ,ua,kt];omega
theorem JY{r:Bs}:∀ (cs:List Bs) (i:Nat),ctx k cs r->ctx k (cs.drop i) r
 | cs,0,h=>by rw[xT];exact h
 | [],i+1,h=>trivial
 | x::xs,i+1,h=>JY xs i h.2.2
theorem JZ{r:Bs}:∀ (cs:List Bs) (n:Nat),ctx k cs r->ctx k (cs.take n) ((cs.drop n).flatten++r)
 | cs,0,h=>trivial
 | [],n+1,h=>trivial
 | x::xs,n+1,h=>by
  refine⟨h.1,?_,JZ xs n h.2.2⟩;have e:(xs.take n).flatten++((xs.drop n).flatten++r)=xs.flatten++r:=by
   rw[<-ma,<-zz,ua]
  show fS k (x++((xs.take n).flatten++((xs.drop n).flatten++r)))=x.length
  rw[e];exact h.2.1
theorem CP(w:Bs)(i n:Nat):aQ k (((aQ k w).1.drop i).take n).flatten=(((aQ k w).1.drop i).take n,[]):=Zv _ (JZ _ n (JY _ i (X1 w)))
theorem Zx(w:Bs):∀ x ∈ (aQ k w).1,x≠[]:=fun x hx e=>by
 have h:=Fw (k:=k) w x hx;rw[e,fP gh] at h;cases h
variable{i:Nat}
theorem rT{w f:Bs}(M:word k f=true):takes ((aQ k w).1.drop i) f=(if((aQ k w).1.drop i).take (aQ k f).1.length=(aQ k f).1 then(aQ k f).1.length else 0):=by
 have aa:=eX.1 M;by_cases h:((aQ k w).1.drop i).take (aQ k f).1.length=(aQ k f).1
 ·rw[if_pos h];have I:(aQ k f).1.length<=((aQ k w).1.drop i).length:=by
   have:=congrArg List.length h;rw[kt] at this;omega
  have e:=UL I (fun x hx=>Zx w x (zp hx));rw[h,uV M] at e;exact e
 ·rw[if_neg h];refine Ff fun hn=>?_;have e:=Ni hn;have J:=CP (k:=k) w i (takes ((aQ k w).1.drop i) f);rw[e] at J;have h3:(aQ k f).1=((aQ k w).1.drop i).take (takes ((aQ k w).1.drop i) f):=by rw[J]
  have h4:(aQ k f).1.length=takes ((aQ k w).1.drop i) f:=by
   rw[h3,kt];have:=qL (l:=(aQ k w).1.drop i) (t:=f);omega
  exact h (by rw[h4];exact h3.symm)
theorem Nl{q:Bs}(h:∀ c ∈ q,low c=c):lower q=q:=by
 unfold lower
 conv=>rhs;rw[<-Be q]
 exact nB fun c hc=>h c hc
end
structure AR where
 ix:Nat
 c:Int
 f:List Bs
 t:Bs
deriving DecidableEq
def Bz(k:Int)(x:im × Nat):Option AR:=if x.1.k=k then(if word k x.1.f=true then some ⟨x.2,x.1.c,(aQ k x.1.f).1,x.1.t⟩ else none) else none
def ig(rs:List im)(k:Int):List AR:=rs.zipIdx.filterMap (Bz k)
def nW(l:List Bs)(r:AR)(i:Nat):Bool:=decide (i+r.f.length<=l.length)&&decide ((l.drop i).take r.f.length=r.f)
def Wd.Nn(W:Wd)(s:St)(tw:Bs):Option (Bs × Bool):=
 if tw.isPrefixOf s.a then some (s.a.drop tw.length,s.r&&decide (s.a.drop tw.length≠[]))
 else if s.a.isPrefixOf tw then some (tw.drop s.a.length,!W.left s)
 else none
def Wd.UR(W:Wd)(s:St)(r:AR):Option (AR × St):=
 if nW (if W.left s then W.l else W.m) r (if W.left s then s.i else s.j)=true then
  (W.Nn s r.t).map fun x=>(r,if W.left s then ⟨s.i+r.f.length,s.j,x.1,x.2⟩ else ⟨s.i,s.j+r.f.length,x.1,x.2⟩)
 else none
def Wd.tY(W:Wd)(s:St):List (AR × St):=(ig W.rs (if W.left s then W.ka else W.kb)).filterMap (W.UR s)
section
variable{W:Wd}{s:St}
theorem CQ{p q:Bs}(h:p.isPrefixOf q=true)(h2:q.drop p.length=[]):q=p:=by
 obtain⟨r,rfl⟩:=jO.1 h;rw[rK] at h2;rw[h2,mT]
theorem UU(J:Bs):W.Nn s J=W.ah s J:=by
 unfold Wd.Nn Wd.ah;by_cases M:J.isPrefixOf s.a=true
 ·rw[if_pos M];by_cases I:s.a.drop J.length=[]
  ·have e:=CQ M I;rw[if_neg (by simp[I]),if_pos (by rw[e,Hv];exact List.prefix_refl _)];rw[e];simp
  ·rw[if_pos ⟨M,I⟩];simp[I]
 ·rw[if_neg M,if_neg (fun h:J.isPrefixOf s.a=true/\s.a.drop J.length≠[]=>M h.1)];by_cases I:s.a.isPrefixOf J=true
  ·rw[if_pos I,if_pos I];have h3:J.drop s.a.length≠[]:=fun e=>M (by rw[CQ I e,Hv];exact List.prefix_refl _);simp[h3]
  ·rw[if_neg I,if_neg I]
end
section
variable{T:eW}{a b:Int}{x y:Bs}{s:St}
variable{w:Bs}{i:Nat}
theorem CR{f:Bs}(J:word k f=true)(hi:i<=(aQ k w).1.length)(ix:Nat)(c:Int)(t:Bs):
  nW (aQ k w).1 ⟨ix,c,(aQ k f).1,t⟩ i=true↔takes ((aQ k w).1.drop i) f≠0:=by
 have M:=eX.1 J;rw[rT J];unfold nW;simp only[gA,decide_eq_true_eq];constructor
 ·rintro⟨h1,I⟩;rw[if_pos I];omega
 ·intro h;split at h
  ·rename_i I;have:=congrArg List.length I;rw[kt,k8] at this;exact⟨by omega,I⟩
  ·exact absurd rfl h
theorem Np(hv:bI T=true){R:im}(hR:R ∈ T.rs):word R.k R.f=true:=
 (AL.1 (l7.1 ((iL.1 (bX.1 hv).2.1).2 R hR)).1).1
theorem qD{α β:Type}(f:α->Option β):∀ (l:List α) (n:Nat),(l.zipIdx n).filterMap (fun p=>f p.1)=l.filterMap f
 | [],_=>rfl
 | x::l,n=>by
  rw[List.zipIdx_cons];cases h:f x with
  | none=>rw[Cd h,Cd (by simpa using h),qD f l (n+1)]
  | some y=>rw[xt h,xt (by simpa using h),qD f l (n+1)]
theorem CS{α β:Type}{f g:α->Option β}:∀ (l:List α),(∀ x ∈ l,f x=g x)->l.filterMap f=l.filterMap g
 | [],_=>rfl
 | x::l,h=>by
  have e:=h x (mA ..);have ih:=CS l (fun y hy=>h y (pS _ hy));cases hg:g x with
  | none=>rw[Cd (e.trans hg),Cd hg,ih]
  | some z=>rw[xt (e.trans hg),xt hg,ih]
theorem Ip{α:Type}:∀ (l:List α) (n:Nat) {p:α × Nat},p ∈ l.zipIdx n->p.1 ∈ l:=fun l n p hp=>by
 obtain⟨x,i⟩:=p;exact(Ks hp).2.2 ▸ gw _
theorem zO(hv:bI T=true)(hs:(bO T a x b y).ok s):((bO T a x b y).tY s).map (fun p=>(p.1.c,p.2))=(bO T a x b y).moves s:=by
 unfold Wd.tY Wd.moves ig;rw[List.filterMap_filterMap,List.map_filterMap,show(bO T a x b y).rs.filterMap ((bO T a x b y).mv s)=((bO T a x b y).rs.zipIdx).filterMap (fun p=>(bO T a x b y).mv s p.1) from(qD _ _ 0).symm];refine CS _ fun p hp=>?_;have hR:=Ip _ _ hp;have hw:=Np hv hR;obtain⟨R,i⟩:=p;simp only at hR hw ⊢;unfold Bz Wd.mv;simp only;cases hl:(bO T a x b y).left s with
 | true=>
  have M:(bO T a x b y).used s R=if R.k=a then takes ((aQ a (lower x)).1.drop s.i) R.f else 0:=by unfold Wd.used;rw[if_pos hl];rfl
  simp only[if_true]
  show Option.map _ ((if R.k=a then _ else none:Option AR).bind _)=_
  by_cases J:R.k=a
  ·rw[if_pos J] at M;subst J;rw[if_pos rfl,if_pos (show word (bO T R.k x b y).ka R.f=true from hw),M];simp only[C2];unfold Wd.UR;rw[hl];simp only[if_true];have hf:=CR (k:=R.k) (w:=lower x) (i:=s.i) hw hs.1 i R.c R.t;by_cases I:takes ((aQ R.k (lower x)).1.drop s.i) R.f=0
   ·rw[if_pos I];refine(congrArg _ (if_neg (by intro h;exact(hf.1 h) I))).trans ?_;rfl
   ·have hn:takes ((aQ R.k (lower x)).1.drop s.i) R.f=(aQ R.k R.f).1.length:=by
     rw[rT hw] at I ⊢;split at I
     ·rename_i h;rw[if_pos h]
     ·exact absurd rfl I
    rw[if_neg I];refine(congrArg _ (if_pos (hf.2 I))).trans ?_;rw[UU,tE,hn];rfl
  ·rw[if_neg J] at M;rw[if_neg J,M,if_pos rfl];rfl
 | false=>
  have M:(bO T a x b y).used s R=if R.k=b then takes ((aQ b (lower y)).1.drop s.j) R.f else 0:=by unfold Wd.used;rw[if_neg (by rw[hl];decide)];rfl
  simp only[k7,if_false]
  show Option.map _ ((if R.k=b then _ else none:Option AR).bind _)=_
  by_cases J:R.k=b
  ·rw[if_pos J] at M;subst J;rw[if_pos rfl,if_pos (show word (bO T a x R.k y).kb R.f=true from hw),M];simp only[C2];unfold Wd.UR;rw[hl];simp only[k7,if_false];have hf:=CR (k:=R.k) (w:=lower y) (i:=s.j) hw hs.2.1 i R.c R.t;by_cases I:takes ((aQ R.k (lower y)).1.drop s.j) R.f=0
   ·rw[if_pos I];refine(congrArg _ (if_neg (by intro h;exact(hf.1 h) I))).trans ?_;rfl
   ·have hn:takes ((aQ R.k (lower y)).1.drop s.j) R.f=(aQ R.k R.f).1.length:=by
     rw[rT hw] at I ⊢;split at I
     ·rename_i h;rw[if_pos h]
     ·exact absurd rfl I
    rw[if_neg I];refine(congrArg _ (if_pos (hf.2 I))).trans ?_;rw[UU,tE,hn];rfl
  ·rw[if_neg J] at M;rw[if_neg J,M,if_pos rfl];rfl
structure Dv where
 c:Int
 L:List Int
 M:List Int
 F:Bs
deriving DecidableEq
def BA(l:List Bs)(rs:List AR):List Int->Nat->Option (Bs × Int × Nat)
 | [],i=>some ([],0,i)
 | k::ks,i=>match rs.find? (fun r=>decide ((r.ix:Int)=k)) with
  | none=>none
  | some r=>if nW l r i=true then(BA l rs ks (i+r.f.length)).map fun z=>(r.t++z.1,r.c+z.2.1,z.2.2) else none
def Iq(T:eW)(a:Int)(x:Bs)(b:Int)(y:Bs)(d:Dv):Prop:=
 okW T a x b y=true/\∃ F c1 c2,BA (bO T a x b y).l (ig T.rs a) d.L 0=some (F,c1,(bO T a x b y).l.length)/\BA (bO T a x b y).m (ig T.rs b) d.M 0=some (F,c2,(bO T a x b y).m.length)/\F=d.F/\c1+c2=d.c
theorem UW(hv:bI T=true):∀ (ks:List Int) (i:Nat) {F:Bs} {c:Int} {e:Nat},i<=(aQ k w).1.length->BA (aQ k w).1 (ig T.rs k) ks i=some (F,c,e)->e=(aQ k w).1.length->∃ L,Wr k T.rs ((aQ k w).1.drop i) L F c:=by
 intro ks
 induction ks with
 | nil=>
  intro i F c e hi h he;unfold BA at h;injection h with h
  injection h with h1 h2
  injection h2 with h2 h3
  subst h1 h2 h3;rw[he,uB];exact⟨[],.nil⟩
 | cons q ks ih=>
  intro i F c e hi h he;unfold BA at h;cases hf:(ig T.rs k).find? (fun r=>decide ((r.ix:Int)=q)) with
  | none=>rw[hf] at h;cases h
  | some r=>
   rw[hf] at h;simp only at h;split at h
   ·rename_i J;rw[Cl] at h;obtain⟨⟨F',c',e'⟩,h1,h2⟩:=h;injection h2 with h2 h3
    injection h3 with h3 h4
    subst h2 h3 h4;have hm:=tg hf;unfold ig at hm;obtain⟨⟨R,ix⟩,hp,M⟩:=List.mem_filterMap.1 hm;have hR:=Ip _ _ hp;unfold Bz at M;simp only at M;split at M
    ·rename_i hk;split at M
     ·rename_i hw;injection M with M
      subst M;have I:=(CR (k:=k) (w:=w) (i:=i) hw hi ix R.c R.t).1 J;have hn:takes ((aQ k w).1.drop i) R.f=(aQ k R.f).1.length:=by
       rw[rT hw] at I ⊢;split at I
       ·rename_i h;rw[if_pos h]
       ·exact absurd rfl I
      have aa:i+(aQ k R.f).1.length<=(aQ k w).1.length:=by
       unfold nW at J;simp only[gA,decide_eq_true_eq] at J;exact J.1
      obtain⟨L,hL⟩:=ih _ aa h1 he;refine⟨R::L,.cons hR hk I ?_⟩;rw[hn,vb];exact hL
     ·cases M
    ·cases M
   ·cases h
theorem RU{d:Dv}(h:Iq T a x b y d):Zt (bO T a x b y) gC d.c:=by
 obtain⟨h1,F,c1,c2,h2,h3,h4,h5⟩:=h;have hv:=(fV.1 h1).2.2;obtain⟨L,hL⟩:=UW hv d.L 0 (fy _) h2 rfl;obtain⟨M,hM⟩:=UW hv d.M 0 (fy _) h3 rfl;exact⟨L,M,F,F,c1,c2,hL,hM,h5.symm,by simp[gC]⟩
end
section
variable{W:Wd}{bound:Int}
end
def Wd.pick(W:Wd)(s:St):Option (AR × St):=(W.tY s).find? fun p=>decide (p.1.c+W.fw p.2=W.fw s)
def Wd.gL(W:Wd):Nat->St->List Int × List Int × Bs
 | 0,_=>([],[],[])
 | n+1,s=>if s=W.fin then([],[],[]) else match W.pick s with
  | none=>([],[],[])
  | some (r,s')=>if s.i<s'.i then((r.ix:Int)::(W.gL n s').1,(W.gL n s').2.1,r.t++(W.gL n s').2.2) else((W.gL n s').1,(r.ix:Int)::(W.gL n s').2.1,(W.gL n s').2.2)
def Wd.D3(W:Wd):Dv:=⟨W.fw gC,(W.gL (W.iu gC) gC).1,(W.gL (W.iu gC) gC).2.1,(W.gL (W.iu gC) gC).2.2⟩
inductive AP(T:eW)(a:Int)(x:Bs)(b:Int)(y:Bs):Dv->Int->Prop
 | arg (h:okW T a x b y=false):AP T a x b y ⟨0,[],[],[]⟩ 1
 | none (h:okW T a x b y=true) (h2:(bO T a x b y).fw gC=never):AP T a x b y ⟨0,[],[],[]⟩ 11
 | some (h:okW T a x b y=true) (h2:(bO T a x b y).fw gC<never):AP T a x b y (bO T a x b y).D3 0
section
variable{T:eW}{a b:Int}{x y:Bs}{bound:Int}{C:List Pt}{d:Dv}{e:Int}
theorem xM(h:okW T a x b y=true):(bO T a x b y).l.length+(bO T a x b y).m.length<=1000:=by have:=Il h;omega
theorem xO(h:okW T a x b y=true):(bO T a x b y).good:=(rR (fV.1 h).2.2).1
theorem RX(hc:jq T a x b y bound C):(AP T a x b y d e->e=11\/e=0/\bound<=d.c)/\(Iq T a x b y d->bound<=d.c):=by
 obtain⟨J,M⟩:=hc;have I:=xO J;constructor
 ·intro hb;cases hb with
  | arg h=>rw[J] at h;cases h
  | none=>exact .inl rfl
  | some _ h3=>
   refine .inr ⟨rfl,?_⟩;rcases qM I (xM J) _ gC oB (fL _) with⟨hp,_⟩|⟨hn,_⟩
   ·exact CG M I hp
   ·rw[hn] at h3;exact absurd h3 eS
 ·intro hd;exact CG M I ((oP oB).2 (RU hd))
theorem FH(h:AP T a x b y d 0):d.c=(bO T a x b y).fw gC/\okW T a x b y=true/\0<=d.c/\d.c<=24000:=by
 generalize I:(0:Int)=e at h;cases h with
 | arg=>cases I
 | none=>cases I
 | some h h2=>
  have M:=gV (xO h) oB;refine⟨rfl,h,M,?_⟩;rcases qM (xO h) (xM h) _ gC oB (fL _) with⟨_,J⟩|⟨hn,_⟩
  ·have:=Il h;have e:(bO T a x b y).iu gC=(bO T a x b y).l.length+(bO T a x b y).m.length:=rfl;rw[e] at J
   show(bO T a x b y).fw gC<=24000
   omega
  ·rw[hn] at h2;exact absurd h2 eS
end
end Go.CH.dh
namespace Go.CH.bA
section
variable(c:Nat→Nat→Int)(d e:Nat→Int)(n m:Nat)
def tst(a:Nat)(U:Nat->Bool)(j:Nat):Bool:=!U j&&decide (c (n-(a+1)) j+L c d e n m a (ins U j)=L c d e n m (a+1) U)
def mZ:Int:=L c d e n m n xw
def YO:List Int:=gr c d e n m n xw
def zH(i:Nat):Int:=L (jZ c n i) (j3 d n i) e (n+1) m (n+1) xw-mZ c d e n m
def B7:List Int:=(List.range n).map (zH c d e n m)
def vp(j:Nat):Int:=vO xw (fun i=>c i j-zH c d e n m i) (e j) n
def B8:List Int:=(List.range m).map (vp c d e n m)
end
section
variable{c:Nat→Nat→Int}{d e:Nat→Int}{n m:Nat}
variable{p U:Nat->Bool}{j a:Nat}
theorem JC(hj:j<m)(hp:p j=true)(hb:∀ t,t<j->p t=false):(List.range m).find? p=some j:=by
 rw[N4];exact⟨hp,List.mem_range.2 hj,fun t ht=>by simp[hb t ht]⟩
theorem Fj(hb:∀ t,t<m->p t=false):(List.range m).find? p=none:=by
 rw[CM];exact fun t ht=>by simp[hb t (List.mem_range.1 ht)]
theorem VM(I:j<m)(h:tst c d e n m a U j=true)(J:∀ t,t<j->tst c d e n m a U t=false):
  gr c d e n m (a+1) U=(j:Int)::gr c d e n m a (ins U j)/\L c d e n m a (ins U j)=L c d e n m (a+1) U-c (n-(a+1)) j:=by
 refine⟨?_,?_⟩
 ·rw[gr];have:=JC (p:=fun j=>!U j&&decide (c (n-(a+1)) j+L c d e n m a (ins U j)=L c d e n m (a+1) U)) I h J;rw[this]
 ·unfold tst at h;simp only[gA,decide_eq_true_eq] at h;omega
theorem Y6(J:∀ t,t<m->tst c d e n m a U t=false):
  gr c d e n m (a+1) U=(m:Int)::gr c d e n m a U/\L c d e n m a U=L c d e n m (a+1) U-d (n-(a+1)):=by
 refine⟨?_,?_⟩
 ·rw[gr];have:=Fj (m:=m) (p:=fun j=>!U j&&decide (c (n-(a+1)) j+L c d e n m a (ins U j)=L c d e n m (a+1) U)) J;rw[this]
 ·rcases zF (U:=U) (f:=fun j=>c (n-(a+1)) j+L c d e n m a (ins U j)) (a:=d (n-(a+1))+L c d e n m a U) (m:=m) with h|⟨j,g1,g2,g3⟩
  ·have:L c d e n m (a+1) U=d (n-(a+1))+L c d e n m a U:=h;omega
  ·exfalso;have I:=J j g1;unfold tst at I;rw[g2] at I;simp only[nh,lx,decide_eq_false_iff_not] at I;exact I g3.symm
theorem xE:dh c d e n m (mZ c d e n m) (zH c d e n m) (vp c d e n m) where
 opt:=O5
 more:=fun i hi=>by
  have:zH c d e n m i+mZ c d e n m=L (jZ c n i) (j3 d n i) e (n+1) m (n+1) xw:=by unfold zH;omega
  rw[this];exact O5
 ve:=fun j I=>tC
 vc:=fun j I i hi=>Un (f:=fun i=>c i j-zH c d e n m i) hi rfl
 vis:=fun j I=>by
  rcases zF (U:=xw) (f:=fun i=>c i j-zH c d e n m i) (a:=e j) (m:=n) with h|⟨i,g1,g2,g3⟩
  ·exact .inl h
  ·exact .inr ⟨i,g1,g3⟩
end
end Go.CH.bA
namespace Go.CH.Scr
structure aR where
 k:Int
 ws:List Bs
def UK:aR:=⟨0,[]⟩
def W7:Bs:=[112,108,97,105,110]
def W8:Bs:=[99,97,115,101,100]
def Xs:Bs:=[97,98,106,97,100]
def Zn:Bs:=[115,121,108,108,97,98]
def eY(n:aR):Bool:=n.ws.all (word n.k)&&(decide (0<n.ws.length)&&decide (n.ws.length<=6))
def pre(t:Bs):Int × Nat:=
 if(W7++[58]).isPrefixOf t then(1,6) else if(W8++[58]).isPrefixOf t then(2,6)
 else if(Xs++[58]).isPrefixOf t then(3,6) else if(Zn++[58]).isPrefixOf t then(4,7) else(0,0)
def done(k:Int)(len:Nat):Hd->aR × Int × Int
 | .ok ws=>if ws=[] then(UK,6,len) else(⟨k,ws⟩,0,0)
 | .err e at_=>(UK,e,at_)
theorem aW{n:aR}:eY n=true↔JO n.k n.ws/\0<n.ws.length/\n.ws.length<=6:=by
 unfold eY JO;rw[gA,gA,decide_eq_true_eq,decide_eq_true_eq,j7]
end Go.CH.Scr
namespace Go.CH.Mtc
open Go.CH.Scr Go.CH.dh
def bP(k:Int)(x:Bs):List Bs:=if word k x then(aQ k (lower x)).1 else []
structure Vr where
 w:Bs
 e:Int
 c:Int
deriving DecidableEq
def j6(k:Int)(l:List Bs)(p:dh.Drop × Nat):Option Vr:=
 if p.1.k=k/\(bP k p.1.w).length<l.length/\l.drop (l.length-(bP k p.1.w).length)=bP k p.1.w then
  some ⟨(l.take (l.length-(bP k p.1.w).length)).flatten,p.2,p.1.c⟩ else none
def fq(T:eW)(k:Int)(x:Bs):List Vr:=⟨(bP k x).flatten,-1,0⟩::T.es.zipIdx.filterMap (j6 k (bP k x))
def bQ(T:eW)(k:Int)(x:Bs):Int:=match T.ds.find? (fun d=>decide (d.k=k)&&decide (d.w=lower x)) with
 | some d=>d.c
 | none=>T.drop
structure Wy where
 kd:Int
 l:Int
 r:Int
 c:Int
 x:Bs
 y:Bs
deriving DecidableEq
def ie(l:List Bs):Bs:=l.headD []
def vR(u v:Vr):Wy:=⟨1,u.e,v.e,u.c+v.c,u.w,v.w⟩
def qx(us vs:List Vr):List Wy:=us.flatMap fun u=>vs.map (vR u)
def jH(kd ini:Int)(x y:List Bs):Wy:=⟨kd,-1,-1,ini,ie x,ie y⟩
def iE(ini:Int)(us vs:List Vr)(p q:List Bs):List Wy:=
 qx us vs++((if p.length=1 then [jH 2 ini p q] else [])++(if q.length=1 then [jH 3 ini p q] else []))
def lD(T:eW)(k:Int)(x:Bs)(k2:Int)(y:Bs):List Wy:=iE T.ini (fq T k x) (fq T k2 y) (bP k x) (bP k2 y)
def fB(T:eW)(k:Int)(x:Bs)(k2:Int)(y:Bs):Option Dv:=
 if okW T k x k2 y=true/\(bO T k x k2 y).fw gC<never then some (bO T k x k2 y).D3 else none
structure Pr where
 i:Int
 j:Int
 kd:Int
 l:Int
 r:Int
 c:Int
 d:Dv
deriving DecidableEq
def Qm:Dv:=⟨0,[],[],[]⟩
def Lp:Pr:=⟨0,0,0,0,0,0,Qm⟩
def N7(T:eW)(k k2:Int)(w:Wy):Option Pr:=(fB T k w.x k2 w.y).map fun d=>⟨0,0,w.kd,w.l,w.r,w.c+d.c,d⟩
def nR(T:eW)(k:Int)(x:Bs)(k2:Int)(y:Bs):List Pr:=(lD T k x k2 y).filterMap (N7 T k k2)
def vZ(b:Option Pr)(p:Pr):Option Pr:=match b with
 | none=>some p
 | some q=>if p.c<q.c then some p else some q
def first(l:List Pr):Option Pr:=l.foldl vZ none
def gK(T:eW)(k:Int)(x:Bs)(k2:Int)(y:Bs):Option Pr:=first (nR T k x k2 y)
def nO(T:eW)(a b:aR):Bool:=bI T&&(eY a&&eY b)
def wd(a:aR)(i:Nat):Bs:=a.ws.getD i []
def Cc(T:eW)(a b:aR)(i j:Nat):Pr:=match gK T a.k (wd a i) b.k (wd b j) with
 | some p=>{ p with i:=i,j:=j }
 | none=>⟨i,j,0,0,0,100000,Qm⟩
def cM(T:eW)(a b:aR)(i j:Nat):Int:=(Cc T a b i j).c
def dM(T:eW)(a:aR)(i:Nat):Int:=bQ T a.k (wd a i)
def nH(T:eW)(a b:aR):Int:=bA.mZ (cM T a b) (dM T a) (dM T b) a.ws.length b.ws.length
def uG(T:eW)(a b:aR):List Int:=bA.YO (cM T a b) (dM T a) (dM T b) a.ws.length b.ws.length
def jR(T:eW)(a b:aR):Int:=bA.GR (cM T a b) (dM T a) (dM T b) a.ws.length b.ws.length a.ws.length b.ws.length
def vS(T:eW)(a b:aR):List Int:=bA.xg (cM T a b) (dM T a) (dM T b) a.ws.length b.ws.length a.ws.length b.ws.length
def fI(T:eW)(a b:aR):Nat->List Int->List Pr
 | _,[]=>[]
 | i,j::l=>if 0<=j/\j<b.ws.length then Cc T a b i j.toNat::fI T a b (i+1) l else fI T a b (i+1) l
structure Mt where
 c:Int
 s:Bool
 ps:List Pr
deriving DecidableEq
def SD:Mt:=⟨0,false,[]⟩
def fO(T:eW)(a b:aR):Mt:=
 if nH T a b+T.ord<jR T a b then ⟨nH T a b+T.ord,true,fI T a b 0 (uG T a b)⟩ else ⟨jR T a b,false,fI T a b 0 (vS T a b)⟩
inductive BG(T:eW)(a b:aR):Mt->Int->Prop
 | arg (h:nO T a b=false):BG T a b SD 1
 | some (h:nO T a b=true):BG T a b (fO T a b) 0
def Wn(T:eW)(k:Int)(x:Bs)(k2:Int)(y:Bs)(p:Pr):Prop:=
 ∃ w,(lD T k x k2 y).find? (fun w=>decide (w.kd=p.kd)&&(decide (w.l=p.l)&&decide (w.r=p.r)))=some w/\p.c=w.c+p.d.c/\Iq T k w.x k2 w.y p.d
def IU(T:eW)(a b:aR)(s:Bool):Int->Int->List Int->List Pr->Prop
 | _,_,_,[]=>True
 | last,before,rs,p::l=>last<p.i/\p.i<a.ws.length/\0<=p.j/\p.j<b.ws.length/\p.j ∉ rs/\(s=true\/before<=p.j)/\Wn T a.k (wd a p.i.toNat) b.k (wd b p.j.toNat) p/\IU T a b s p.i p.j (p.j::rs) l
def Gq(T:eW)(a:aR)(us:List Int):Int:=bA.sg a.ws.length (fun i=>if(i:Int) ∈ us then 0 else dM T a i)
def DF(T:eW)(a b:aR)(m:Mt):Int:=(if m.s then T.ord else 0)+(m.ps.map (·.c)).sum+Gq T a (m.ps.map (·.i))+Gq T b (m.ps.map (·.j))
def acS(T:eW)(a b:aR)(m:Mt):Prop:=nO T a b=true/\IU T a b m.s (-1) (-1) [] m.ps/\m.c=DF T a b m
section
variable{T:eW}{k k2:Int}{x y:Bs}{a b:aR}
theorem Gs:∀ (l:List Pr) (q:Pr),∃ p,l.foldl vZ (some q)=some p/\(p=q\/p ∈ l)/\p.c<=q.c/\∀ r ∈ l,p.c<=r.c:=by
 intro l
 induction l with
 | nil=>intro q;exact⟨q,rfl,.inl rfl,lz _,fun r I=>by cases I⟩
 | cons z l ih=>
  intro q;rw[vt];by_cases h:z.c<q.c
  ·rw[show vZ (some q) z=some z from if_pos h];obtain⟨p,h1,J,M,h4⟩:=ih z;refine⟨p,h1,.inr ?_,by omega,fun r I=>?_⟩
   ·rcases J with rfl|J
    ·exact mA ..
    ·exact pS _ J
   ·rcases List.mem_cons.1 I with rfl|I
    ·exact M
    ·exact h4 r I
  ·rw[show vZ (some q) z=some q from if_neg h];obtain⟨p,h1,J,M,h4⟩:=ih q;refine⟨p,h1,?_,M,fun r I=>?_⟩
   ·rcases J with rfl|J
    ·exact .inl rfl
    ·exact .inr (pS _ J)
   ·rcases List.mem_cons.1 I with rfl|I
    ·omega
    ·exact h4 r I
variable{l:List Pr}{p:Pr}{d:Dv}{w:Wy}{i j:Nat}
theorem lX:first l=none↔l=[]:=by
 cases l with
 | nil=>exact⟨fun _=>rfl,fun _=>rfl⟩
 | cons z l=>
  unfold first
  rw[vt];obtain⟨p,h1,-⟩:=Gs l z
  show l.foldl vZ (some z)=none↔z::l=[]
  rw[h1];constructor
  ·intro h;cases h
  ·intro h;cases h
theorem eu(h:first l=some p):p ∈ l/\∀ r ∈ l,p.c<=r.c:=by
 cases l with
 | nil=>cases h
 | cons z l=>
  unfold first at h
  rw[vt] at h;obtain⟨q,h1,J,M,h4⟩:=Gs l z;have h:l.foldl vZ (some z)=some p:=h;rw[h1] at h;injection h with h
  subst h;refine⟨?_,fun r I=>?_⟩
  ·rcases J with rfl|J
   ·exact mA ..
   ·exact pS _ J
  ·rcases List.mem_cons.1 I with rfl|I
   ·exact M
   ·exact h4 r I
theorem Lr{r:Pr}(h:r ∈ l):∃ p,first l=some p/\p ∈ l/\p.c<=r.c:=by
 cases hf:first l with
 | none=>rw[lX.1 hf] at h;cases h
 | some p=>exact⟨p,rfl,(eu hf).1,(eu hf).2 r h⟩
theorem Gt{e:Int}:AP T k x k2 y d e->(e=0/\fB T k x k2 y=some d)\/(e≠0/\fB T k x k2 y=none):=by
 intro h;cases h with
 | arg h=>exact .inr ⟨by decide,by unfold fB;rw[if_neg (fun I=>by rw[h] at I;cases I.1)]⟩
 | none h h2=>exact .inr ⟨by decide,by unfold fB;rw[if_neg (fun I=>by rw[h2] at I;exact absurd I.2 eS)]⟩
 | some h h2=>exact .inl ⟨rfl,by unfold fB;rw[if_pos ⟨h,h2⟩]⟩
theorem IV(h:fB T k x k2 y=some d):AP T k x k2 y d 0:=by
 unfold fB at h;split at h
 ·rename_i hc;injection h with h
  subst h;exact .some hc.1 hc.2
 ·cases h
theorem oI(h:fB T k x k2 y=some d):0<=d.c/\d.c<=24000:=by
 obtain⟨-,-,h1,h2⟩:=FH (IV h);exact⟨h1,h2⟩
theorem gH{ini:Int}{us vs:List Vr}{p q:List Bs}:w ∈ iE ini us vs p q↔(∃ u ∈ us,∃ v ∈ vs,w=vR u v)\/(p.length=1/\w=jH 2 ini p q)\/(q.length=1/\w=jH 3 ini p q):=by
 unfold iE qx;rw[AH,AH,Gr];constructor
 ·rintro (⟨u,M,h⟩|h|h)
  ·obtain⟨v,J,rfl⟩:=List.mem_map.1 h;exact .inl ⟨u,M,v,J,rfl⟩
  ·split at h
   ·rename_i I;exact .inr (.inl ⟨I,List.mem_singleton.1 h⟩)
   ·cases h
  ·split at h
   ·rename_i I;exact .inr (.inr ⟨I,List.mem_singleton.1 h⟩)
   ·cases h
 ·rintro (⟨u,M,v,J,rfl⟩|⟨I,rfl⟩|⟨I,rfl⟩)
  ·exact .inl ⟨u,M,List.mem_map.2 ⟨v,J,rfl⟩⟩
  ·exact .inr (.inl (by rw[if_pos I];exact List.mem_singleton.2 rfl))
  ·exact .inr (.inr (by rw[if_pos I];exact List.mem_singleton.2 rfl))
theorem mH:p ∈ nR T k x k2 y↔∃ w ∈ lD T k x k2 y,∃ d,fB T k w.x k2 w.y=some d/\p=⟨0,0,w.kd,w.l,w.r,w.c+d.c,d⟩:=by
 unfold nR;rw[List.mem_filterMap];unfold N7;constructor
 ·rintro⟨w,I,h⟩;obtain⟨d,hd,rfl⟩:=Option.map_eq_some_iff.1 h;exact⟨w,I,d,hd,rfl⟩
 ·rintro⟨w,I,d,hd,rfl⟩;exact⟨w,I,by rw[hd];rfl⟩
theorem Gu:cM T a b i j=((gK T a.k (wd a i) b.k (wd b j)).map (·.c)).getD 100000:=by
 unfold cM Cc;cases gK T a.k (wd a i) b.k (wd b j)<;>rfl
theorem Gv(hv:bI T=true)(k:Int)(x:Bs):0<=bQ T k x/\bQ T k x<=1000:=by
 have h:=bX.1 hv;unfold bQ;split
 ·rename_i d hd;have hm:=tg hd;have h1:=h.2.2.1;unfold jT at h1;rw[gA,gA,j7] at h1;have h2:=h1.2.1 d hm;unfold vW at h2;rw[gA] at h2;exact eH.1 h2.2
 ·exact eH.1 h.1.2.2.1
theorem qW(hv:bI T=true){v:Vr}(h:v ∈ fq T k x):0<=v.c/\v.c<=1000:=by
 unfold fq at h;rcases List.mem_cons.1 h with rfl|h
 ·show(0:Int)<=0/\(0:Int)<=1000
  exact⟨by decide,by decide⟩
 ·obtain⟨⟨d,i⟩,hm,I⟩:=List.mem_filterMap.1 h;unfold j6 at I;split at I
  ·injection I with I
   subst I;have M:=(bX.1 hv).2.2.2;unfold jT at M;rw[gA,gA,j7] at M;have J:=M.2.1 d (List.fst_mem_of_mem_zipIdx hm);unfold vW at J;rw[gA] at J;exact eH.1 J.2
  ·cases I
theorem DI(hv:bI T=true)(h:w ∈ lD T k x k2 y):0<=w.c/\w.c<=2000:=by
 rcases gH.1 h with⟨u,hu,v,hv',rfl⟩|⟨-,rfl⟩|⟨-,rfl⟩
 ·have h1:=qW hv hu;have h2:=qW hv hv'
  show 0<=u.c+v.c/\u.c+v.c<=2000
  omega
 all_goals
  have h1:=eH.1 (bX.1 hv).1.2.2.2.2
  show 0<=T.ini/\T.ini<=2000
  omega
theorem Gw(hv:bI T=true)(h:p ∈ nR T k x k2 y):0<=p.c/\p.c<=26000:=by
 obtain⟨w,hw,d,hd,rfl⟩:=mH.1 h;have h1:=DI hv hw;have h2:=oI hd
 show 0<=w.c+d.c/\w.c+d.c<=26000
 omega
theorem wM(hv:bI T=true)(i j:Nat):0<=cM T a b i j/\cM T a b i j<=100000:=by
 rw[Gu];cases h:gK T a.k (wd a i) b.k (wd b j) with
 | none=>exact⟨by decide,by decide⟩
 | some p=>
  have:=Gw hv (eu h).1
  show 0<=p.c/\p.c<=100000
  omega
theorem mI(hv:bI T=true)(i:Nat):0<=dM T a i/\dM T a i<=1000:=Gv hv _ _
theorem qy:bA.Hg (cM T a b) (dM T a) (dM T b) a.ws.length b.ws.length (nH T a b):=bA.O5
theorem oq:bA.Cw (cM T a b) (dM T a) (dM T b) a.ws.length b.ws.length (jR T a b):=bA.Na
theorem wN:(fO T a b).c=min (nH T a b+T.ord) (jR T a b):=by
 unfold fO;split
 ·show nH T a b+T.ord=_
  omega
 ·show jR T a b=_
  omega
theorem aak:nH T a b<=jR T a b:=qy.UX oq
theorem IW{m:Mt}(h:BG T a b m 0):0<=m.c/\m.c<=bA.sg a.ws.length (dM T a)+bA.sg b.ws.length (dM T b):=by
 cases h with
 | some h1=>
  have I:bI T=true:=by unfold nO at h1;rw[gA] at h1;exact h1.1
  have ho:=eH.1 (bX.1 I).1.2.2.2.1;rw[wN];have hn:∀ P,bA.bA a.ws.length b.ws.length P->0<=bA.cost (cM T a b) (dM T a) (dM T b) a.ws.length b.ws.length P:=fun P hP=>by
   unfold bA.cost
   have h2:=bA.qI (n:=a.ws.length) (f:=fun i=>if P i<b.ws.length then cM T a b i (P i) else dM T a i) (fun i hi=>by
    split
    ·exact(wM I _ _).1
    ·exact(mI I _).1)
   have h3:=bA.qI (n:=b.ws.length) (f:=fun j=>if bA.used P a.ws.length j then 0 else dM T b j) (fun j hj=>by
    split
    ·exact lz _
    ·exact(mI I _).1)
   omega
  obtain⟨P,hP,hM,hc⟩:=(oq (T:=T) (a:=a) (b:=b)).has;obtain⟨P',J,aa⟩:=(qy (T:=T) (a:=a) (b:=b)).has;have h2:=hn P hP;have h3:=hn P' J;have hA:bA.bA a.ws.length b.ws.length (fun _=>b.ws.length):=⟨fun _ _=>fL _,fun i j hi hj _ h=>absurd h (my _)⟩;have M:bA.tH a.ws.length b.ws.length (fun _=>b.ws.length):=fun i j _ _ h=>absurd h (my _);have h4:=(oq (T:=T) (a:=a) (b:=b)).low _ hA M;have h5:bA.cost (cM T a b) (dM T a) (dM T b) a.ws.length b.ws.length (fun _=>b.ws.length)=bA.sg a.ws.length (dM T a)+bA.sg b.ws.length (dM T b):=by
   unfold bA.cost;congr 1
   ·exact bA.bL fun i _=>if_neg (my _)
   ·refine bA.bL fun j hj=>if_neg ?_;rw[C1,bA.mY];intro i _ e;omega
  rw[h5] at h4;omega
end
section
variable{T:eW}{a b:Int}{x y:Bs}
variable{n:Nat}{k:Int}{r:AR}
theorem Wp{α:Type}{l:List α}{p q:α × Nat}(hp:p ∈ l.zipIdx n)(hq:q ∈ l.zipIdx n)(h:p.2=q.2):p=q:=by
 obtain⟨x,i⟩:=p;obtain⟨z,j⟩:=q;have h:i=j:=h;subst h;have h1:=(Ks hp).2.2;have h2:=(Ks hq).2.2;rw[h1,h2]
theorem DJ(h:r ∈ ig T.rs k):∃ R,(R,r.ix) ∈ T.rs.zipIdx/\R.k=k/\word k R.f=true/\r=⟨r.ix,R.c,(aQ k R.f).1,R.t⟩:=by
 unfold ig at h;obtain⟨⟨R,ix⟩,hm,I⟩:=List.mem_filterMap.1 h;unfold Bz at I;simp only at I;split at I
 ·rename_i J;split at I
  ·rename_i M;injection I with I
   subst I;exact⟨R,hm,J,M,rfl⟩
  ·cases I
 ·cases I
theorem Gx(h:r ∈ ig T.rs k):(ig T.rs k).find? (fun z=>decide ((z.ix:Int)=(r.ix:Int)))=some r:=by
 cases I:(ig T.rs k).find? (fun z=>decide ((z.ix:Int)=(r.ix:Int))) with
 | none=>
  have:=List.find?_eq_none.1 I r h;simp at this
 | some z=>
  have h1:=tg I;have h2:(z.ix:Int)=(r.ix:Int):=by
   have:=AG I;exact of_decide_eq_true this
  obtain⟨R,g1,-,-,g2⟩:=DJ h;obtain⟨R',J,-,-,M⟩:=DJ h1;have e:=Wp g1 J (by show r.ix=z.ix;omega);injection e with e1 e2
  subst e1;rw[g2,M];simp only[e2]
theorem Wq(h:r ∈ ig T.rs k):1<=r.f.length:=by
 obtain⟨R,-,-,hw,e⟩:=DJ h;rw[e];exact(eX.1 hw).2.1
def Lk(s:St)(FL FR:Bs):Prop:=(s.r=true->FL=s.a++FR)/\(s.r=false->FR=s.a++FL)
theorem Tc(hv:bI T=true):∀ (n:Nat) (s:St),(bO T a x b y).ok s->(bO T a x b y).iu s<=n->(bO T a x b y).fw s<never ->
  ∃ FL FR c1 c2,BA (bO T a x b y).l (ig T.rs a) ((bO T a x b y).gL n s).1 s.i=some (FL,c1,(bO T a x b y).l.length)/\BA (bO T a x b y).m (ig T.rs b) ((bO T a x b y).gL n s).2.1 s.j=some (FR,c2,(bO T a x b y).m.length)/\c1+c2=(bO T a x b y).fw s/\((bO T a x b y).gL n s).2.2=FL/\Lk s FL FR:=by
 have hg:(bO T a x b y).good:=(rR hv).1;have al:(bO T a x b y).fw (bO T a x b y).fin=0:=by
  have h0:(bO T a x b y).iu (bO T a x b y).fin=0:=by unfold Wd.iu Wd.fin;simp
  unfold Wd.fw;rw[h0];unfold Wd.dn;rw[if_pos rfl]
 have base:∀ (n:Nat) (s:St),s=(bO T a x b y).fin->∃ FL FR c1 c2,BA (bO T a x b y).l (ig T.rs a) ((bO T a x b y).gL n s).1 s.i=some (FL,c1,(bO T a x b y).l.length)/\BA (bO T a x b y).m (ig T.rs b) ((bO T a x b y).gL n s).2.1 s.j=some (FR,c2,(bO T a x b y).m.length)/\c1+c2=(bO T a x b y).fw s/\((bO T a x b y).gL n s).2.2=FL/\Lk s FL FR:=by
  intro n s e;have hb:(bO T a x b y).gL n s=([],[],[]):=by
   cases n with
   | zero=>rfl
   | succ n=>unfold Wd.gL;rw[if_pos e]
  rw[hb];subst e;refine⟨[],[],0,0,rfl,rfl,al.symm,rfl,?_⟩;exact⟨(fun h=>by cases h),(fun _=>rfl)⟩
 intro n
 induction n with
 | zero=>
  intro s hs hr hd;by_cases e:s=(bO T a x b y).fin
  ·exact base 0 s e
  ·exfalso;have h0:(bO T a x b y).iu s=0:=Nat.le_zero.1 hr;unfold Wd.fw at hd;rw[h0] at hd;unfold Wd.dn at hd;rw[if_neg e] at hd;exact absurd hd (Int.lt_irrefl _)
 | succ n ih=>
  intro s hs hr hd;by_cases e:s=(bO T a x b y).fin
  ·exact base _ s e
  ·have ap:∃ p,(bO T a x b y).pick s=some p:=by
    cases hp:(bO T a x b y).pick s with
    | some p=>exact⟨p,rfl⟩
    | none=>
     exfalso;have h1:=List.find?_eq_none.1 hp;have h2:=mU (W:=bO T a x b y) hs;rw[if_neg e] at h2;rcases fold_eq (fun z:Int × St=>z.1+(bO T a x b y).fw z.2) ((bO T a x b y).moves s) never with h3|⟨q,hq,h3⟩
     ·rw[h2,h3] at hd;exact absurd hd (Int.lt_irrefl _)
     ·rw[<-zO hv hs] at hq;obtain⟨p,hp,rfl⟩:=List.mem_map.1 hq;refine h1 p hp (decide_eq_true ?_);rw[h2];exact h3.symm
   obtain⟨⟨r,s'⟩,hp⟩:=ap;have ad:(bO T a x b y).gL (n+1) s=if s.i<s'.i then((r.ix:Int)::((bO T a x b y).gL n s').1,((bO T a x b y).gL n s').2.1,r.t++((bO T a x b y).gL n s').2.2) else(((bO T a x b y).gL n s').1,(r.ix:Int)::((bO T a x b y).gL n s').2.1,((bO T a x b y).gL n s').2.2):=by
    rw[Wd.gL,if_neg e,hp]
   have ae:(r,s') ∈ (bO T a x b y).tY s:=tg hp;have ao:r.c+(bO T a x b y).fw s'=(bO T a x b y).fw s:=by
    have:=AG hp;exact of_decide_eq_true this
   have am:(r.c,s') ∈ (bO T a x b y).moves s:=by
    rw[<-zO hv hs];exact List.mem_map.2 ⟨(r,s'),ae,rfl⟩
   have ai:=fM hs am;have hc:=iH hg am;obtain⟨FL,FR,c1,c2,w1,w2,w3,w4,w5⟩:=ih s' ai.1 (by have:=ai.2;omega) eL;unfold Wd.tY at ae;obtain⟨r0,ac,af⟩:=List.mem_filterMap.1 ae;unfold Wd.UR at af;have aq:1<=r0.f.length:=Wq ac;by_cases J:nW (if(bO T a x b y).left s then(bO T a x b y).l else(bO T a x b y).m) r0 (if(bO T a x b y).left s then s.i else s.j)=true
   ·rw[if_pos J] at af;obtain⟨⟨a',r'⟩,I,he⟩:=Option.map_eq_some_iff.1 af;injection he with he1 he2
    subst he1;cases hl:(bO T a x b y).left s with
    | true=>
     rw[hl] at J he2 ac;simp only[if_true] at J he2 ac;subst he2;rw[ad,if_pos (by show s.i<s.i+r0.f.length;omega)];have ab:r0 ∈ ig T.rs a:=ac;refine⟨r0.t++FL,FR,r0.c+c1,c2,?_,w2,by have:=w3;omega,by rw[w4],?_⟩
     ·unfold BA;rw[Gx ab];simp only;rw[if_pos J,w1];rfl
     ·unfold Wd.Nn at I;obtain⟨k1,k2⟩:=w5;simp only at k1 k2;split at I
      ·rename_i M;injection I with I
       injection I with ha hr'
       obtain⟨z,hz⟩:=jO.1 M;rw[hz,rK] at ha;rw[hz,rK] at hr';subst ha;constructor
       ·intro aa;rw[aa,lx] at hr';rw[hz,ma];congr 1;by_cases an:z=[]
        ·subst an;have:=k2 (by rw[<-hr'];simp);rw[this];rfl
        ·exact k1 (by rw[<-hr'];simp[an])
       ·intro aa;rw[aa,qq] at hr';have ag:s.a=[]:=by
         rcases ng.1 hl with h|h
         ·rw[aa] at h;cases h
         ·exact h.1
        rw[ag] at hz;have ak:=List.append_eq_nil_iff.1 hz.symm;have:=k2 hr'.symm;rw[ag,this,ak.1,ak.2];rfl
      ·split at I
       ·rename_i M;injection I with I
        injection I with ha hr'
        rw[hl] at hr';obtain⟨z,hz⟩:=jO.1 M;rw[hz,rK] at ha;subst ha;have:=k2 hr'.symm;constructor
        ·intro aa;rw[this,hz,ma]
        ·intro aa;have ag:s.a=[]:=by
          rcases ng.1 hl with h|h
          ·rw[aa] at h;cases h
          ·exact h.1
         rw[this,hz,ag];rfl
       ·cases I
    | false=>
     rw[hl] at J he2 ac;simp only[k7,if_false] at J he2 ac;subst he2;rw[ad,if_neg (by show ¬ s.i<s.i;omega)];have ab:r0 ∈ ig T.rs b:=ac;have aa:s.r=false:=by
      cases h:s.r with
      | false=>rfl
      | true=>rw[ng.2 (.inl h)] at hl;cases hl
     refine⟨FL,r0.t++FR,c1,r0.c+c2,w1,?_,by have:=w3;omega,w4,?_⟩
     ·unfold BA;rw[Gx ab];simp only;rw[if_pos J,w2];rfl
     ·unfold Wd.Nn at I;obtain⟨k1,k2⟩:=w5;simp only at k1 k2;refine⟨(fun h=>by rw[aa] at h;cases h),fun _=>?_⟩;split at I
      ·rename_i M;injection I with I
       injection I with ha hr'
       obtain⟨z,hz⟩:=jO.1 M;rw[hz,rK] at ha;subst ha;rw[aa,qq] at hr';rw[k2 hr'.symm,hz,ma]
      ·split at I
       ·rename_i M;injection I with I
        injection I with ha hr'
        rw[hl] at hr';obtain⟨z,hz⟩:=jO.1 M;rw[hz,rK] at ha;subst ha;rw[k1 hr'.symm,hz,ma]
       ·cases I
   ·rw[if_neg J] at af;cases af
theorem Oa{d:Dv}(h:fB T a x b y=some d):Iq T a x b y d:=by
 unfold fB at h;split at h
 ·rename_i I;injection h with h
  subst h;have M:=(fV.1 I.1).2.2;obtain⟨J,FR,c1,c2,w1,w2,w3,w4,w5⟩:=Tc (a:=a) (x:=x) (b:=b) (y:=y) M _ gC oB (fL _) I.2;have e:FR=J:=w5.2 rfl;refine⟨I.1,J,c1,c2,w1,by rw[<-e];exact w2,w4.symm,w3⟩
 ·cases h
end
section
variable{c:Nat→Nat→Int}{d e:Nat→Int}{n m:Nat}
structure L3(c:Nat->Nat->Int)(d e:Nat->Int)(n m:Nat)(cols:List Int)(v:Int):Prop where
 len:cols.length=n
 kx:∀ p ∈ cols,0<=p/\p<=m
 asg:bA.bA n m (bA.lp cols)
 cost:bA.cost c d e n m (bA.lp cols)=v
theorem Ls:L3 c d e n m (bA.YO c d e n m) (bA.mZ c d e n m):=by
 have h:=bA.MM (c:=c) (d:=d) (e:=e) (n:=n) (m:=m) (k:=n) (fL n) bA.xw;rw[nq] at h;obtain⟨h1,h2,h3⟩:=bA.BL h;rw[bA.M5] at h1 h2;exact⟨bA.M5 _ _,h3,h1.asg,by rw[<-bA.lY];exact h2.symm⟩
theorem Lu:L3 c d e n m (bA.xg c d e n m n m) (bA.GR c d e n m n m)/\bA.tH n m (bA.lp (bA.xg c d e n m n m)):=by
 have h:=bA.O7 (c:=c) (d:=d) (e:=e) (n:=n) (m:=m) (a:=n) (f:=0) (fL n) (fy m);rw[nq,sn] at h;have I:bA.keeps m (-1) (bA.xg c d e n m n m)=true:=by have:=bA.Fe h;simpa using this
 rw[<-bA.Hw I] at h;obtain⟨M,J,h3⟩:=bA.BL h;have h4:=bA.Cv I;rw[bA.Hu] at M J h4;exact⟨⟨bA.Hu _ _,h3,M.asg,by rw[<-bA.lY];exact J.symm⟩,h4⟩
def drop1(m i:Nat)(P:Nat->Nat):Nat->Nat:=fun r=>if r=i then m else P r
variable{P:Nat->Nat}{i:Nat}
theorem Af(h:bA.bA n m P):bA.bA n m (drop1 m i P):=by
 refine⟨fun r J=>?_,fun r s J hs I hm=>?_⟩
 ·unfold drop1;split
  ·exact fL _
  ·exact h.le r J
 ·unfold drop1 at I hm;by_cases h1:r=i
  ·rw[if_pos h1] at hm;exact absurd hm (my _)
  ·rw[if_neg h1] at I hm;by_cases M:s=i
   ·rw[if_pos M] at I;rw[I] at hm;exact absurd hm (my _)
   ·rw[if_neg M] at I;exact h.inj r s J hs I hm
theorem Ob(h:bA.tH n m P):bA.tH n m (drop1 m i P):=by
 intro r s M hs J I;unfold drop1 at J I ⊢;by_cases e1:r=i
 ·rw[if_pos e1] at J;exact absurd J (my _)
 ·by_cases e2:s=i
  ·rw[if_pos e2] at I;exact absurd I (my _)
  ·rw[if_neg e1] at J ⊢;rw[if_neg e2] at I ⊢;exact h r s M hs J I
theorem Oc(h:bA.bA n m P)(hi:i<n)(hm:P i<m):bA.cost c d e n m (drop1 m i P)=bA.cost c d e n m P-c i (P i)+e (P i)+d i:=by
 rw[bA.gB (Af h),bA.gB h];unfold bA.lj;have:=bA.Cr (f:=fun r=>bA.wt c d e m r (drop1 m i P r)) (g:=fun r=>bA.wt c d e m r (P r)) hi (fun r hr I=>by unfold drop1;rw[if_neg I]);rw[this];have J:bA.wt c d e m i (drop1 m i P i)=d i:=by unfold drop1 bA.wt;rw[if_pos rfl,if_neg (my _)]
 have M:bA.wt c d e m i (P i)=c i (P i)-e (P i):=by unfold bA.wt;rw[if_pos hm]
 rw[J,M];omega
end
section
variable{T:eW}{k k2:Int}{x y:Bs}{a b:aR}
variable{i j:Nat}{s:Bool}{I:List Int}
theorem Ws(h:cM T a b i j<100000):∃ p,gK T a.k (wd a i) b.k (wd b j)=some p:=by
 rw[Gu] at h;cases hc:gK T a.k (wd a i) b.k (wd b j) with
 | some p=>exact⟨p,rfl⟩
 | none=>rw[hc] at h;exact absurd h eS
theorem Lv{u v:Vr}(M:u ∈ fq T k x)(J:v ∈ fq T k x)(h:u.e=v.e):u=v:=by
 have key:∀ w:Vr,w ∈ T.es.zipIdx.filterMap (j6 k (bP k x))->∃ p ∈ T.es.zipIdx,j6 k (bP k x) p=some w/\w.e=(p.2:Int):=by
  intro w hw;obtain⟨p,hp,I⟩:=List.mem_filterMap.1 hw;refine⟨p,hp,I,?_⟩;unfold j6 at I;split at I
  ·injection I with I
   subst I;rfl
  ·cases I
 unfold fq at M J;rcases List.mem_cons.1 M with rfl|M
 ·rcases List.mem_cons.1 J with rfl|J
  ·rfl
  ·obtain⟨p,-,-,e⟩:=key v J;rw[e] at h;have h:(-1:Int)=(p.2:Int):=h;omega
 ·obtain⟨p,hp,e1,e2⟩:=key u M;rcases List.mem_cons.1 J with rfl|J
  ·rw[e2] at h;have h:(p.2:Int)=-1:=h;omega
  ·obtain⟨q,hq,e3,e4⟩:=key v J;have:=Wp hp hq (by rw[e2,e4] at h;omega);subst this;rw[e1] at e3;injection e3
theorem Wt{w z:Wy}(hw:w ∈ lD T k x k2 y)(M:z ∈ lD T k x k2 y)(J:w.kd=z.kd)(h2:w.l=z.l)(h3:w.r=z.r):w=z:=by
 rcases gH.1 hw with⟨u,hu,v,hv,rfl⟩|⟨-,rfl⟩|⟨-,rfl⟩
 ·rcases gH.1 M with⟨u',h,v',I,rfl⟩|⟨-,rfl⟩|⟨-,rfl⟩
  ·rw[Lv hu h h2,Lv hv I h3]
  ·exact absurd J (by show ¬ (1:Int)=2;decide)
  ·exact absurd J (by show ¬ (1:Int)=3;decide)
 ·rcases gH.1 M with⟨u',h,v',I,rfl⟩|⟨-,rfl⟩|⟨-,rfl⟩
  ·exact absurd J (by show ¬ (2:Int)=1;decide)
  ·rfl
  ·exact absurd J (by show ¬ (2:Int)=3;decide)
 ·rcases gH.1 M with⟨u',h,v',I,rfl⟩|⟨-,rfl⟩|⟨-,rfl⟩
  ·exact absurd J (by show ¬ (3:Int)=1;decide)
  ·exact absurd J (by show ¬ (3:Int)=2;decide)
  ·rfl
theorem Lx{p:Pr}(h:p ∈ nR T k x k2 y)(i j:Int):Wn T k x k2 y { p with i:=i,j:=j }:=by
 obtain⟨w,M,d,hd,rfl⟩:=mH.1 h;cases I:(lD T k x k2 y).find? (fun z=>decide (z.kd=w.kd)&&(decide (z.l=w.l)&&decide (z.r=w.r))) with
 | none=>
  have:=List.find?_eq_none.1 I w M;simp at this
 | some z=>
  have J:=AG I;simp only[gA,decide_eq_true_eq] at J;have e:=Wt (tg I) M J.1 J.2.1 J.2.2;subst e;exact⟨z,I,rfl,Oa hd⟩
theorem Od:(Cc T a b i j).i=i:=by unfold Cc;split<;>rfl
theorem Oe:(Cc T a b i j).j=j:=by unfold Cc;split<;>rfl
theorem LB(hn:I.length=a.ws.length)(hb:∀ p ∈ I,0<=p/\p<=b.ws.length)(hA:bA.bA a.ws.length b.ws.length (bA.lp I))(hM:s=true\/bA.tH a.ws.length b.ws.length (bA.lp I))(hp:∀ i,i<a.ws.length->bA.lp I i<b.ws.length->∃ p,gK T a.k (wd a i) b.k (wd b (bA.lp I i))=some p):
  ∀ (l:List Int) (i:Nat) (last before:Int) (rs:List Int),l=I.drop i->last<i->(∀ q ∈ rs,∃ r,r<i/\q=(bA.lp I r:Int)/\bA.lp I r<b.ws.length)->(before=-1\/∃ r,r<i/\before=(bA.lp I r:Int)/\bA.lp I r<b.ws.length) ->
   IU T a b s last before rs (fI T a b i l):=by
 intro l
 induction l with
 | nil=>intro i last before rs _ _ _ _;exact trivial
 | cons j l ih=>
  intro i last before rs hl h1 h2 h3;have hi:i<I.length:=by
   rcases tG i I.length with h|h
   ·exact h
   ·rw[Fi h] at hl;cases hl
  have hd:=rS hi;rw[<-hl] at hd;injection hd with hj hd'
  have J:bA.lp I i=j.toNat:=by unfold bA.lp;rw[ki,ic hi,<-hj];rfl
  have ac:=hb j (by rw[hj];exact gw hi);unfold fI;split
  ·rename_i hc;have M:bA.lp I i<b.ws.length:=by rw[J];omega
   have aa:((j.toNat:Nat):Int)=j:=IM ac.1;obtain⟨p,ab⟩:=hp i eL M;rw[J] at ab
   show _/\_/\_/\_/\_/\_/\_/\_
   rw[Od,Oe,aa];refine⟨h1,by omega,ac.1,hc.2,fun hm=>?_,?_,?_,?_⟩
   ·obtain⟨r,g1,g2,g3⟩:=h2 j hm;have:=hA.inj r i eL eL (by rw[J];omega) g3;omega
   ·rcases hM with h|h
    ·exact .inl h
    ·refine .inr ?_;rcases h3 with h3|⟨r,g1,g2,g3⟩
     ·omega
     ·have:=h r i g1 eL g3 M;rw[J] at this;omega
   ·have:Cc T a b i j.toNat={ p with i:=i,j:=(j.toNat:Nat) }:=by unfold Cc;rw[ab]
    rw[this,Ax];exact Lx (eu ab).1 _ _
   ·refine ih (i+1) _ _ _ hd' eL (fun q hq=>?_) (.inr ⟨i,by omega,by rw[J,aa],M⟩);rcases List.mem_cons.1 hq with rfl|hq
    ·exact⟨i,by omega,by rw[J,aa],M⟩
    ·obtain⟨r,g1,g2⟩:=h2 q hq;exact⟨r,by omega,g2⟩
  ·refine ih (i+1) _ _ _ hd' eL (fun q hq=>?_) ?_
   ·obtain⟨r,g1,g2⟩:=h2 q hq;exact⟨r,by omega,g2⟩
   ·rcases h3 with h3|⟨r,g1,g2⟩
    ·exact .inl h3
    ·exact .inr ⟨r,by omega,g2⟩
theorem vo:∀ (l:List Int) (i:Nat) (p:Pr),p ∈ fI T a b i l↔∃ r,∃ h:r<l.length,0<=l[r]/\l[r]<b.ws.length/\p=Cc T a b (i+r) l[r].toNat:=by
 intro l
 induction l with
 | nil=>
  intro i p;constructor
  ·intro h;cases h
  ·rintro⟨r,h,-⟩;simp at h
 | cons j l ih=>
  intro i p;have M:(∃ r,∃ h:r<l.length,0<=l[r]/\l[r]<b.ws.length/\p=Cc T a b (i+1+r) l[r].toNat)↔∃ r,∃ h:r+1<(j::l).length,0<=(j::l)[r+1]/\(j::l)[r+1]<b.ws.length/\p=Cc T a b (i+(r+1)) (j::l)[r+1].toNat:=by
   constructor
   ·rintro⟨r,h,g⟩;refine⟨r,by rw[jz];omega,?_⟩;rw[k6,show i+(r+1)=i+1+r by omega];exact g
   ·rintro⟨r,h,g⟩;refine⟨r,by rw[jz] at h;omega,?_⟩;rw[k6,show i+(r+1)=i+1+r by omega] at g;exact g
  unfold fI;split
  ·rename_i I;rw[np,ih,M];constructor
   ·rintro (rfl|⟨r,h⟩)
    ·exact⟨0,by rw[jz];omega,I.1,I.2,rfl⟩
    ·exact⟨r+1,h⟩
   ·rintro⟨r,h⟩;cases r with
    | zero=>obtain⟨h1,-,-,J⟩:=h;exact .inl J
    | succ r=>exact .inr ⟨r,h⟩
  ·rename_i I;rw[ih,M];constructor
   ·rintro⟨r,h⟩;exact⟨r+1,h⟩
   ·rintro⟨r,h⟩;cases r with
    | zero=>obtain⟨h1,J,h3,-⟩:=h;exact absurd ⟨J,h3⟩ I
    | succ r=>exact⟨r,h⟩
theorem Td:∀ (l:List Int) (i:Nat),((fI T a b i l).map (·.c)).sum=bA.sg l.length (fun r=>if 0<=l.getD r 0/\l.getD r 0<b.ws.length then cM T a b (i+r) (l.getD r 0).toNat else 0):=by
 intro l
 induction l with
 | nil=>intro i;rfl
 | cons j l ih=>
  intro i;rw[jz,bA.Ct];have e:(fun r=>if 0<=(j::l).getD (r+1) 0/\(j::l).getD (r+1) 0<b.ws.length then cM T a b (i+(r+1)) ((j::l).getD (r+1) 0).toNat else 0)=(fun r=>if 0<=l.getD r 0/\l.getD r 0<b.ws.length then cM T a b (i+1+r) (l.getD r 0).toNat else 0):=by
   funext r;rw[List.getD_cons_succ,show i+(r+1)=i+1+r by omega]
  rw[e,<-ih (i+1),List.getD_cons_zero];by_cases h:0<=j/\j<b.ws.length
  ·rw[show fI T a b i (j::l)=Cc T a b i j.toNat::fI T a b (i+1) l from if_pos h,lk,List.sum_cons,if_pos h];rfl
  ·rw[show fI T a b i (j::l)=fI T a b (i+1) l from if_neg h,if_neg h,AK]
theorem DK{v:Int}(h:L3 (cM T a b) (dM T a) (dM T b) a.ws.length b.ws.length I v):DF T a b ⟨v,s,fI T a b 0 I⟩=(if s then T.ord else 0)+v:=by
 have aa:∀ r,r<a.ws.length->∃ h:r<I.length,bA.lp I r=I[r].toNat/\0<=I[r]/\I.getD r 0=I[r]:=fun r hr=>by
  have M:r<I.length:=by rw[h.len];exact hr
  refine⟨M,?_,(h.kx _ (gw M)).1,?_⟩
  ·unfold bA.lp;rw[ki,ic M];rfl
  ·rw[ki,ic M];rfl
 have h1:Gq T a ((fI T a b 0 I).map (·.i))=bA.sg a.ws.length (fun r=>if bA.lp I r<b.ws.length then 0 else dM T a r):=by
  unfold Gq;refine bA.bL fun r hr=>?_;obtain⟨M,e1,e2,-⟩:=aa r hr;have J:((r:Int) ∈ (fI T a b 0 I).map (·.i))↔bA.lp I r<b.ws.length:=by
   rw[G4];constructor
   ·rintro⟨p,hp,he⟩;obtain⟨t,ht,g1,g2,rfl⟩:=(vo _ _ _).1 hp;rw[Od,mB] at he;have:t=r:=by omega
    subst this;rw[e1];omega
   ·intro hl;exact⟨_,(vo _ _ _).2 ⟨r,M,e2,by rw[e1] at hl;omega,rfl⟩,by rw[Od,mB]⟩
  by_cases hl:bA.lp I r<b.ws.length
  ·rw[if_pos (J.2 hl),if_pos hl]
  ·rw[if_neg (fun hm=>hl (J.1 hm)),if_neg hl]
 have h2:Gq T b ((fI T a b 0 I).map (·.j))=bA.sg b.ws.length (fun j=>if bA.used (bA.lp I) a.ws.length j then 0 else dM T b j):=by
  unfold Gq;refine bA.bL fun j hj=>?_;have J:((j:Int) ∈ (fI T a b 0 I).map (·.j))↔bA.used (bA.lp I) a.ws.length j=true:=by
   rw[G4,bA.mX];constructor
   ·rintro⟨p,hp,he⟩;obtain⟨t,ht,g1,g2,rfl⟩:=(vo _ _ _).1 hp;have ab:t<a.ws.length:=by rw[<-h.len];exact ht
    obtain⟨_,e1,_⟩:=aa t ab;rw[Oe] at he;exact⟨t,ab,by rw[e1];omega⟩
   ·rintro⟨t,ht,he⟩;obtain⟨ab,e1,e2,-⟩:=aa t ht;refine⟨_,(vo _ _ _).2 ⟨t,ab,e2,by rw[e1] at he;omega,rfl⟩,?_⟩;rw[Oe,<-e1,he]
  by_cases hl:bA.used (bA.lp I) a.ws.length j=true
  ·rw[if_pos (J.2 hl),if_pos hl]
  ·rw[if_neg (fun hm=>hl (J.1 hm)),if_neg hl]
 have h3:((fI T a b 0 I).map (·.c)).sum=bA.sg a.ws.length (fun r=>if bA.lp I r<b.ws.length then cM T a b r (bA.lp I r) else 0):=by
  rw[Td,h.len];refine bA.bL fun r hr=>?_;obtain⟨M,e1,e2,e3⟩:=aa r hr;rw[e3,e1,mB];by_cases hl:I[r]<b.ws.length
  ·rw[if_pos ⟨e2,hl⟩,if_pos eL]
  ·rw[if_neg (fun hm=>hl hm.2),if_neg eL]
 unfold DF
 show(if s=true then T.ord else 0)+_+_+_=_
 rw[h1,h2,h3];have h4:=h.cost;unfold bA.cost at h4;have h5:bA.sg a.ws.length (fun i=>if bA.lp I i<b.ws.length then cM T a b i (bA.lp I i) else dM T a i)=bA.sg a.ws.length (fun r=>if bA.lp I r<b.ws.length then cM T a b r (bA.lp I r) else 0)+bA.sg a.ws.length (fun r=>if bA.lp I r<b.ws.length then 0 else dM T a r):=by
  rw[<-bA.rM];refine bA.bL fun i _=>?_;split
  ·rw[AN]
  ·rw[AK]
 rw[h5] at h4;omega
theorem oz(h:nO T a b=true):acS T a b (fO T a b):=by
 have M:bI T=true:=by unfold nO at h;rw[gA] at h;exact h.1
 have J:∀ P:Nat->Nat,bA.bA a.ws.length b.ws.length P->(∀ i,bA.cost (cM T a b) (dM T a) (dM T b) a.ws.length b.ws.length P<=bA.cost (cM T a b) (dM T a) (dM T b) a.ws.length b.ws.length (drop1 b.ws.length i P))->∀ i,i<a.ws.length->P i<b.ws.length->∃ p,gK T a.k (wd a i) b.k (wd b (P i))=some p:=fun P hP ho i hi hm=>by
  have h1:=ho i;rw[Oc hP hi hm] at h1;have h2:=mI (a:=a) M i;have h3:=mI (a:=b) M (P i);exact Ws eL
 unfold fO;split
 ·have I:=Ls (c:=cM T a b) (d:=dM T a) (e:=dM T b) (n:=a.ws.length) (m:=b.ws.length);refine⟨h,LB I.len I.kx I.asg (.inl rfl) (J _ I.asg fun i=>?_) _ 0 _ _ _ rfl eL (fun q hq=>by cases hq) (.inl rfl),?_⟩
  ·rw[I.cost];exact qy.low _ (Af I.asg)
  ·have:=DK (s:=true) I;have e:DF T a b ⟨nH T a b+T.ord,true,fI T a b 0 (uG T a b)⟩=DF T a b ⟨bA.mZ (cM T a b) (dM T a) (dM T b) a.ws.length b.ws.length,true,fI T a b 0 (bA.YO (cM T a b) (dM T a) (dM T b) a.ws.length b.ws.length)⟩:=rfl;rw[e,this];exact Int.add_comm _ _
 ·obtain⟨I,hM⟩:=Lu (c:=cM T a b) (d:=dM T a) (e:=dM T b) (n:=a.ws.length) (m:=b.ws.length);refine⟨h,LB I.len I.kx I.asg (.inr hM) (J _ I.asg fun i=>?_) _ 0 _ _ _ rfl eL (fun q hq=>by cases hq) (.inl rfl),?_⟩
  ·rw[I.cost];exact oq.low _ (Af I.asg) (Ob hM)
  ·have:=DK (s:=false) I;have e:DF T a b ⟨jR T a b,false,fI T a b 0 (vS T a b)⟩=DF T a b ⟨bA.GR (cM T a b) (dM T a) (dM T b) a.ws.length b.ws.length a.ws.length b.ws.length,false,fI T a b 0 (bA.xg (cM T a b) (dM T a) (dM T b) a.ws.length b.ws.length a.ws.length b.ws.length)⟩:=rfl;rw[e,this];exact(AK _).symm
end
section
variable{T:eW}{k:Int}{x:Bs}
theorem vv(h:word k x=true):bP k x=(aQ k (lower x)).1:=by unfold bP;rw[if_pos h]
theorem vB(h:word k x=true):(bP k x).flatten=lower x:=by rw[vv h];exact uV (iY h)
theorem nI(h:word k x=true):1<=(bP k x).length/\(bP k x).length<=12:=by rw[vv h];exact(eX.1 (iY h)).2
variable{n:Nat}
theorem Te(h:word k x=true)(hn:0<n):word k ((bP k x).take n).flatten=true/\lower ((bP k x).take n).flatten=((bP k x).take n).flatten:=by
 have hl:=nI h;have e:=CP (k:=k) (lower x) 0 n;rw[xT,<-vv h] at e;refine⟨eX.2 ?_,Nl fun c M=>?_⟩
 ·rw[e];refine⟨rfl,?_,?_⟩
  ·show 1<=((bP k x).take n).length
   rw[kt];omega
  ·show((bP k x).take n).length<=12
   rw[kt];omega
 ·have J:c ∈ (bP k x).flatten:=by
   obtain⟨z,hz,I⟩:=List.mem_flatten.1 M;exact List.mem_flatten.2 ⟨z,xv hz,I⟩
  rw[vB h] at J;unfold lower at J;obtain⟨c',-,rfl⟩:=List.mem_map.1 J;exact Ig c'
theorem LC(J:word k x=true){v:Vr}(h:v ∈ fq T k x):word k v.w=true/\lower v.w=v.w:=by
 have key:∀ n,0<n->v.w=((bP k x).take n).flatten->word k v.w=true/\lower v.w=v.w:=fun n hn e=>by rw[e];exact Te J hn
 unfold fq at h;rcases List.mem_cons.1 h with rfl|h
 ·exact key (bP k x).length (nI J).1 (by rw[kz])
 ·obtain⟨p,-,I⟩:=List.mem_filterMap.1 h;unfold j6 at I;split at I
  ·rename_i M;injection I with I
   exact key ((bP k x).length-(bP k p.1.w).length) eL (by rw[<-I])
  ·cases I
theorem IX{k2:Int}{y:Bs}(h1:word k x=true)(h2:word k2 y=true)(hv:bI T=true):okW T k x k2 y=true:=fV.2 ⟨h1,h2,hv⟩
end
end Go.CH.Mtc
namespace Go.CH.dh
open Go.CH.Scr
def gF(L:List (St × Int)):List St:=L.map (·.1)
structure Kn(W:Wd)(L:List (St × Int)):Prop where
 val:∀ p ∈ L,p.2=W.fw p.1
 ok:∀ p ∈ L,W.ok p.1
 cl:∀ p ∈ L,∀ x ∈ W.moves p.1,x.2 ∈ gF L
 nd:(gF L).Nodup
structure Ext(W:Wd)(s:St)(L L':List (St × Int)):Prop where
 old:∀ p ∈ L,p ∈ L'
 new:∀ p ∈ L',p ∈ L\/Bw W s p.1
section
variable{W:Wd}{s s':St}{L L' L'':List (St × Int)}{c:Int}
theorem UY:Kn W []:=⟨fun p h=>absurd h (sb),fun p h=>absurd h (sb),fun p h=>absurd h (sb),G2⟩
theorem mem_keys{q:St}:q ∈ gF L↔∃ v,(q,v) ∈ L:=by
 unfold gF;rw[G4];exact⟨fun⟨p,hp,e⟩=>⟨p.2,by rw[<-e];exact hp⟩,fun⟨v,hv⟩=>⟨_,hv,rfl⟩⟩
theorem Ext.refl:Ext W s L L:=⟨fun _ h=>h,fun _ h=>.inl h⟩
theorem Ext.keys(h:Ext W s L L'){q:St}(hq:q ∈ gF L):q ∈ gF L':=by
 obtain⟨v,hv⟩:=mem_keys.1 hq;exact mem_keys.2 ⟨v,h.old _ hv⟩
theorem Ext.step(h:Ext W s L L')(hm:(c,s') ∈ W.moves s)(h2:Ext W s' L' L''):Ext W s L L'':=
 ⟨fun p hp=>h2.old p (h.old p hp),fun p hp=>(h2.new p hp).elim (fun h3=>h.new p h3) (fun h3=>.inr ((Bw.step .refl hm).trans h3))⟩
theorem UZ(hs:W.ok s)(h:Bw W s s'):W.iu s'<=W.iu s:=by
 induction h with
 | refl=>exact fL _
 | step h hm ih=>have:=(fM (Bw.ok hs h) hm).2;omega
theorem RY(hs:W.ok s)(h:s ∉ gF L)(he:∀ p ∈ L',p ∈ L\/∃ c s',(c,s') ∈ W.moves s/\Bw W s' p.1):s ∉ gF L':=fun hq=>by
 obtain⟨v,hv⟩:=mem_keys.1 hq;rcases he _ hv with h1|⟨c,s',hm,hr⟩
 ·exact h (mem_keys.2 ⟨v,h1⟩)
 ·have h2:=fM hs hm;have h3:=UZ h2.1 hr;have:W.iu s<=W.iu s':=h3;omega
theorem Kn.add(h:Kn W L)(hs:W.ok s)(hn:s ∉ gF L)(hm:∀ x ∈ W.moves s,x.2 ∈ gF L):Kn W (L++[(s,W.fw s)]):=by
 have M:gF (L++[(s,W.fw s)])=gF L++[s]:=by unfold gF;rw[kp];rfl
 refine⟨fun p I=>?_,fun p I=>?_,fun p I x J=>?_,?_⟩
 ·rcases List.mem_append.1 I with I|I
  ·exact h.val p I
  ·rw[List.mem_singleton.1 I]
 ·rcases List.mem_append.1 I with I|I
  ·exact h.ok p I
  ·rw[List.mem_singleton.1 I];exact hs
 ·rw[M];refine Cs _ ?_;rcases List.mem_append.1 I with I|I
  ·exact h.cl p I x J
  ·rw[List.mem_singleton.1 I] at J;exact hm x J
 ·rw[M,I1];refine⟨h.nd,i7,fun a ha b hb e=>?_⟩;rw[List.mem_singleton.1 hb] at e;exact hn (e ▸ ha)
def jU(W:Wd)(s:St)(i:Nat):Int:=((W.moves s).take i).foldl (fun h x=>min h (x.1+W.fw x.2)) (if s=W.fin then 0 else never)
theorem uY:jU W s 0=if s=W.fin then 0 else never:=rfl
variable{i:Nat}
theorem FJ(hi:i<(W.moves s).length):jU W s (i+1)=min (jU W s i) ((W.moves s)[i].1+W.fw (W.moves s)[i].2):=by
 unfold jU;rw[kq hi,I3];rfl
theorem J2(hs:W.ok s):jU W s (W.moves s).length=W.fw s:=by unfold jU;rw[kz,mU hs]
theorem Pv:jU W s i<=never:=by
 unfold jU;refine A0 (Ij (fun x:Int × St=>x.1+W.fw x.2) _ _).1 ?_;split
 ·decide
 ·exact lz _
theorem J3(J:W.good)(hs:W.ok s):∀ i,0<=jU W s i:=fun i=>by
 rcases fold_eq (fun x:Int × St=>x.1+W.fw x.2) ((W.moves s).take i) (if s=W.fin then 0 else never) with h|⟨x,hx,h⟩
 ·unfold jU;rw[h];split<;>decide
 ·unfold jU;rw[h];have I:=xv hx;have M:=fM (c:=x.1) (s':=x.2) hs I;have h2:=gV J M.1;have h3:=(iH (c:=x.1) (s':=x.2) J I).1;omega
structure Ug(W:Wd)(s:St)(L:List (St × Int))(i:Nat)(L':List (St × Int)):Prop where
 kn:Kn W L'
 old:∀ p ∈ L,p ∈ L'
 new:∀ p ∈ L',p ∈ L\/∃ c s',(c,s') ∈ W.moves s/\Bw W s' p.1
 mv:∀ j (hj:j<(W.moves s).length),j<i->(W.moves s)[j].2 ∈ gF L'
theorem J4(h:Kn W L):Ug W s L 0 L:=⟨h,fun _ h=>h,fun _ h=>.inl h,fun j _ h=>absurd h (oc _)⟩
theorem J5(hi:i<(W.moves s).length)(h:Ug W s L i L')(h2:Kn W L'')(J:Ext W (W.moves s)[i].2 L' L'')(hk:(W.moves s)[i].2 ∈ gF L''):Ug W s L (i+1) L'':=by
 refine⟨h2,fun p I=>J.old p (h.old p I),fun p I=>?_,fun j M aa=>?_⟩
 ·rcases J.new p I with h3|h3
  ·exact h.new p h3
  ·exact .inr ⟨_,_,gw hi,h3⟩
 ·by_cases e:j=i
  ·subst e;exact hk
  ·exact J.keys (h.mv j M eL)
theorem Pw(h:Ug W s L (W.moves s).length L')(hs:W.ok s)(hn:s ∉ gF L):Kn W (L'++[(s,W.fw s)])/\Ext W s L (L'++[(s,W.fw s)])/\s ∈ gF (L'++[(s,W.fw s)])/\s ∉ gF L':=by
 have J:=RY hs hn h.new;refine⟨h.kn.add hs J (fun x hx=>?_),⟨fun p I=>Cs _ (h.old p I),fun p I=>?_⟩,mem_keys.2 ⟨_,zg _ (List.mem_singleton.2 rfl)⟩,J⟩
 ·obtain⟨j,M,rfl⟩:=List.mem_iff_getElem.1 hx;exact h.mv j M M
 ·rcases List.mem_append.1 I with I|I
  ·rcases h.new p I with h3|⟨c,s',hm,hr⟩
   ·exact .inl h3
   ·exact .inr ((Bw.step .refl hm).trans hr)
  ·rw[List.mem_singleton.1 I];exact .inr .refl
def rU(bound:Int)(p:St × Int):Option Pt:=if 0<min p.2 bound then some ⟨p.1.i,p.1.j,p.1.a,p.1.r,min p.2 bound⟩ else none
theorem Zz{bound:Int}{C:List Pt}(h:Kn W L)(h0:gC ∈ gF L)(hr:∀ p ∈ L,Bw W gC p.1)(hp:C.Perm (L.filterMap (rU bound)))(hs:C.Pairwise fun p q=>¬ BO q p):wu W bound C:=by
 have ae:∀ q,Bw W gC q->q ∈ gF L:=fun q hq=>by
  induction hq with
  | refl=>exact h0
  | step _ hm ih=>
   obtain⟨v,hv⟩:=mem_keys.1 ih;exact h.cl _ hv _ hm
 have aa:∀ p,p ∈ C↔(0<=p.i/\0<=p.j)/\Bw W gC p.st/\p.h=min (W.fw p.st) bound/\0<p.h:=by
  intro p;rw[hp.mem_iff,List.mem_filterMap];constructor
  ·rintro⟨⟨q,v⟩,hq,I⟩;unfold rU at I;split at I
   ·rename_i af;injection I with I
    subst I;have ab:(⟨(q.i:Int),(q.j:Int),q.a,q.r,min v bound⟩:Pt).st=q:=by simp[Pt.st]
    refine⟨⟨by simp,by simp⟩,?_,?_,af⟩
    ·rw[ab];exact hr _ hq
    ·rw[ab];have:=h.val _ hq;simp only at this;rw[this]
   ·cases I
  ·rintro⟨⟨J,h2⟩,h3,h4,h5⟩;obtain⟨v,hv⟩:=mem_keys.1 (ae _ h3);have ag:v=W.fw p.st:=h.val _ hv;refine⟨(p.st,v),hv,?_⟩;unfold rU;rw[ag,if_pos (by show 0<min (W.fw p.st) bound;omega)];obtain⟨i,j,a,r,hh⟩:=p;simp only at J h2 h4;simp only[Pt.st,Option.some.injEq,Pt.mk.injEq,true_and];refine⟨by omega,by omega,?_⟩;rw[h4];rfl
 have ai:C.Nodup:=by
  rw[hp.nodup_iff];have:∀ L:List (St × Int),(gF L).Nodup->(L.filterMap (rU bound)).Nodup:=by
   intro L
   induction L with
   | nil=>intro _;exact G2
   | cons p L ih=>
    intro hn;have ac:=List.nodup_cons.1 hn;cases I:rU bound p with
    | none=>rw[Cd I];exact ih ac.2
    | some x=>
     rw[xt I,Kx];refine⟨fun hx=>?_,ih ac.2⟩;obtain⟨q,hq,M⟩:=List.mem_filterMap.1 hx;have e:p.1=q.1:=by
      unfold rU at I M;split at I
      ·split at M
       ·injection I with I;injection M with M
        rw[<-M] at I;injection I with a1 a2 a3 a4
        obtain⟨⟨i,j,a,r⟩,v⟩:=p;obtain⟨⟨i',j',a',r'⟩,v'⟩:=q;simp only at a1 a2 a3 a4;simp only[St.mk.injEq];exact⟨by omega,by omega,a3,a4⟩
       ·cases M
      ·cases I
     exact ac.1 (List.mem_map.2 ⟨q,hq,e.symm⟩)
  exact this L h.nd
 refine⟨?_,aa⟩;rw[N2] at hs ⊢;intro i j hi hj ad;rcases Pn C[i] C[j] with J|J|J
 ·exact J
 ·exfalso;have m1:=(aa _).1 (gw hi);have m2:=(aa _).1 (gw hj);have e:C[i]=C[j]:=by
   have ab:C[i].st=C[j].st:=by unfold Pt.st;rw[J.1,J.2.1,J.2.2.1,J.2.2.2]
   have hh:C[i].h=C[j].h:=by rw[m1.2.2.1,m2.2.2.1,ab]
   revert J hh;generalize C[i]=p;generalize C[j]=q;intro J hh;obtain⟨a,b,c,d,e⟩:=p;obtain⟨a',b',c',d',e'⟩:=q;simp only at J hh;obtain⟨rfl,rfl,rfl,rfl⟩:=J;rw[hh]
  exact List.pairwise_iff_getElem.1 ai i j hi hj ad e
 ·exact absurd J (hs i j hi hj ad)
end
def zZ(W:Wd):List Bs:=[]::W.rs.flatMap fun R=>[R.t,R.t.drop 1,R.t.drop 2,R.t.drop 3]
theorem Qd{α β:Type}(f:α->List β)(h:∀ x,(f x).length=4):∀ l:List α,(l.flatMap f).length=4*l.length
 | []=>rfl
 | x::l=>by rw[mS,gj,h,Qd f h l,jz];omega
variable{W:Wd}{s:St}{bound:Int}{C:List Pt}{T:eW}
theorem VQ:(zZ W).length=1+4*W.rs.length:=by
 unfold zZ;rw[jz,Qd _ (fun _=>rfl)];omega
theorem yj(ht:W.qd){R:im}(hR:R ∈ W.rs)(n:Nat):R.t.drop n ∈ zZ W:=by
 unfold zZ;by_cases h:n<4
 ·refine pS _ (List.mem_flatMap.2 ⟨R,hR,?_⟩);have:n=0\/n=1\/n=2\/n=3:=by omega
  rcases this with rfl|rfl|rfl|rfl<;>simp
 ·have:=(ht R hR).1;rw[Iv eL];exact mA ..
theorem VR(J:W.qd){a:Bs}(h:a ∈ zZ W)(n:Nat):a.drop n ∈ zZ W:=by
 unfold zZ at h;rcases List.mem_cons.1 h with rfl|h
 ·rw[List.drop_nil];exact mA ..
 ·obtain⟨R,I,M⟩:=List.mem_flatMap.1 h;simp only[np,sb,or_false] at M;rcases M with rfl|rfl|rfl|rfl
  ·exact yj J I n
  ·rw[vb];exact yj J I _
  ·rw[vb];exact yj J I _
  ·rw[vb];exact yj J I _
theorem Z7(J:W.qd)(h:Bw W gC s):s.a ∈ zZ W:=by
 induction h with
 | refl=>exact mA ..
 | step _ hm ih=>
  obtain⟨R,M,hm⟩:=kL hm;obtain⟨-,-,x,I,rfl⟩:=rQ hm;have key:x.1 ∈ zZ W:=by
   unfold Wd.ah at I;split at I
   ·injection I with I;subst I
    exact VR J ih _
   ·split at I
    ·injection I with I;subst I
     exact yj J M _
    ·cases I
  split<;>exact key
def Qe(W:Wd)(p:Pt):Nat:=((p.i.toNat*13+p.j.toNat)*2+(if p.r then 1 else 0))*1000+(zZ W).idxOf p.a
theorem VT(h:wu W bound C)(ht:W.qd)(hl:W.l.length<=12)(hm:W.m.length<=12)(hr:W.rs.length<=60):C.length<=1000000/\∀ p ∈ C,p.a.length<=3:=by
 have hp:∀ p ∈ C,0<=p.i/\0<=p.j/\p.i.toNat<=12/\p.j.toNat<=12/\p.a ∈ zZ W/\p.a.length<=3/\p.h=min (W.fw p.st) bound:=fun p hC=>by
  obtain⟨⟨I,J⟩,M,h4,-⟩:=(h.mem p).1 hC;have aa:=M.ok oB;exact⟨I,J,j8 aa.1 hl,j8 aa.2.1 hm,Z7 ht M,(zN ht M).1,h4⟩
 have hs:=VQ (W:=W);have ab:C.Nodup:=by
  refine List.Pairwise.imp (fun {a b} hab e=>?_) h.ord;subst e;rcases hab with I|⟨-,I|⟨-,I|⟨-,I,J⟩⟩⟩
  ·omega
  ·omega
  ·exact uW _ I
  ·rw[I] at J;cases J
 refine⟨?_,fun p hC=>(hp p hC).2.2.2.2.2.1⟩;have I:(C.map (Qe W)).Nodup:=by
  rw[List.Nodup,List.pairwise_map];refine N5 (fun {a b} ha hb hne he=>hne ?_) ab;obtain⟨a1,a2,a3,a4,a5,-,a7⟩:=hp a ha;obtain⟨b1,b2,b3,b4,b5,-,b7⟩:=hp b hb;have ia:=List.idxOf_lt_length_iff.2 a5;have ib:=List.idxOf_lt_length_iff.2 b5;unfold Qe at he;have e1:(zZ W).idxOf a.a=(zZ W).idxOf b.a:=by
   generalize (if a.r=true then 1 else 0)=ra at he;generalize (if b.r=true then 1 else 0)=rb at he;omega
  have e2:(a.i.toNat*13+a.j.toNat)*2+(if a.r=true then 1 else 0)=(b.i.toNat*13+b.j.toNat)*2+(if b.r=true then 1 else 0):=by omega
  have e3:a.r=b.r:=by cases ha:a.r<;>cases hb:b.r<;>rw[ha,hb] at e2<;>simp at e2 ⊢ <;> omega
  rw[e3] at e2;have e4:a.a=b.a:=by
   have:=List.getElem_idxOf ia;have J:=List.getElem_idxOf ib;rw[<-this,<-J];congr 1
  have e5:a.i=b.i/\a.j=b.j:=by omega
  have ac:a.st=b.st:=by unfold Pt.st;rw[e5.1,e5.2,e4,e3]
  have eh:a.h=b.h:=by rw[a7,b7,ac]
  obtain⟨i,j,x,r,hh⟩:=a;obtain⟨i',j',x',r',ad⟩:=b;simp only at e3 e4 e5 eh;obtain⟨rfl,rfl⟩:=e5;subst e3 e4 eh;rfl
 have J:∀ x ∈ C.map (Qe W),x ∈ List.range 338000:=by
  intro x hx;obtain⟨p,hC,rfl⟩:=List.mem_map.1 hx;obtain⟨a1,a2,a3,a4,a5,-,-⟩:=hp p hC;have ia:=List.idxOf_lt_length_iff.2 a5;rw[qt];unfold Qe;split<;>omega
 have M:=Nx I J;rw[fY,uv] at M;omega
theorem VU{a b:Int}{x y:Bs}{M:Int}(h:CO T a x b y bound C M)(hr:T.rs.length<=60):C.length<=1000000/\∀ p ∈ C,p.a.length<=1000000:=by
 cases h with
 | arg=>exact⟨by simp,fun p I=>by cases I⟩
 | none=>exact⟨by simp,fun p I=>by cases I⟩
 | some C h h0 h1 h2 hc=>
  have J:=Il h;have:=VT hc (rR (fV.1 h).2.2).2 J.2.1 J.2.2.2 hr;exact⟨this.1,fun p I=>by have:=this.2 p I;omega⟩
end Go.CH.dh
