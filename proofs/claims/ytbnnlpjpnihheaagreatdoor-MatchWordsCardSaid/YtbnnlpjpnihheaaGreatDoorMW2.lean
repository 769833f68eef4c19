/- A part of the proof: lemmas. -/
import Derived.Test.YtbnnlpjpnihheaaGreatDoorMW1
set_option maxHeartbeats 16000000
set_option maxRecDepth 100000
set_option linter.all false
namespace Go.CH.Scr
abbrev Bs:=List UInt8
def bL:Bs:=[97,98,99,100,101,102,103,104,105,106,107,108,109,110,111,112,113,114,115,116,117,118,119,120,121,122]
def Pj:Bs:=[65,66,67,68,69,70,71,72,73,74,75,76,77,78,79,80,81,82,83,84,85,86,87,88,89,90]
def oC:Bs:=[39,96,94]
def zJ:Bs:=[98,100,102,103,104,106,107,108,109,110,112,113,114,115,116,119,120,121,122,39]
def kJ:Bs:=[97,105,117,101,111]
def uS:Bs:=[107,115,116,110,104,109,121,114,119,103,122,100,98,112]
def has(S:Bs):Option UInt8->Bool
 | none=>false
 | some c=>S.contains c
def low(c:UInt8):UInt8:=if 65<=c/\c<=90 then c+32 else c
def nk(k:Int)(a:UInt8)(b:Option UInt8):Nat:=
 if k=1 then(if has bL (some a) then 1 else 0)
 else if k=2 then(if has bL (some (low a)) then(if has oC b then 2 else 1) else 0)
 else if k=3 then(if has zJ (some a) then 1 else 0)
 else if k=4 then(if has uS (some a)&&has kJ b then 2 else if has kJ (some a)||has [110] (some a) then 1 else 0)
 else 0
def fN(k:Int):Bs->Nat
 | []=>0
 | a::l=>nk k a l.head?
def rq(k:Int):Bs:=if k=2 then oC else if k=4 then kJ else []
section
variable{k:Int}{a:UInt8}{b:Option UInt8}{l:Bs}
theorem zK:nk k a b<=2:=by
 unfold nk
 repeat' split
 all_goals omega
theorem uT{S:Bs}:has S none=false:=rfl
theorem DN(h:nk k a b=2):has (rq k) b=true:=by
 unfold nk at h;unfold rq;by_cases z:k=1
 ·rw[if_pos z] at h;split at h<;>omega
 rw[if_neg z] at h;by_cases p:k=2
 ·rw[if_pos p] at h ⊢;split at h
  ·split at h
   ·assumption
   ·omega
  ·omega
 rw[if_neg p] at h ⊢;by_cases q:k=3
 ·rw[if_pos q] at h;split at h<;>omega
 rw[if_neg q] at h;by_cases F:k=4
 ·rw[if_pos F] at h ⊢;split at h
  ·rename_i I;simp at I;exact I.2
  ·split at h<;>omega
 ·rw[if_neg F] at h;omega
theorem K9(h:nk k a b=1):nk k a none=1:=by
 unfold nk at *
 by_cases z:k=1
 ·simp[z] at h ⊢;exact h
 by_cases q:k=2
 ·simp[q] at h ⊢;split at h
  ·rename_i p;simp[p,uT]
  ·omega
 by_cases F:k=3
 ·simp[F] at h ⊢;exact h
 by_cases J:k=4
 ·simp[J] at h ⊢;simp[uT];split at h
  ·omega
  ·split at h
   ·rename_i p;intro I;rcases p with p|p
    ·rw[p] at I;cases I
    ·exact p
   ·omega
 ·simp[z,q,F,J] at h
theorem iF{S:Bs}{c:UInt8}:has S (some c)=true↔c ∈ S:=by simp[has]
theorem lT:fN k l<=l.length:=by
 cases l with
 | nil=>exact YG _
 | cons a l=>
  show nk k a l.head?<=l.length+1
  have h:=zK (k:=k) (a:=a) (b:=l.head?);rcases j9 (nk k a l.head?) 2 with h2|h2
  ·omega
  ·have p:=DN (show nk k a l.head?=2 by omega);cases l with
   | nil=>rw[show([]:Bs).head?=none from rfl,uT] at p;cases p
   | cons b l=>simp at *;omega
def lw(k:Int):Nat->Bs->List Bs × Bs
 | 0,l=>([],l)
 | f+1,l=>if fN k l=0 then([],l) else(l.take (fN k l)::(lw k f (l.drop (fN k l))).1,(lw k f (l.drop (fN k l))).2)
def aM(k:Int)(l:Bs):List Bs × Bs:=lw k l.length l
theorem Pk:∀ (f g:Nat) (l:Bs),l.length<=f->l.length<=g->lw k f l=lw k g l:=by
 intro f
 induction f with
 | zero=>
  intro g l p q;obtain rfl:l=[]:=Y0 ff;cases g with
  | zero=>rfl
  | succ g=>rfl
 | succ f ih=>
  intro g l p q;cases g with
  | zero=>
   obtain rfl:l=[]:=Y0 ff;rfl
  | succ g=>
   unfold lw;by_cases h:fN k l=0
   ·rw[if_pos h,if_pos h]
   ·rw[if_neg h,if_neg h];have z:=Y8 (i:=fN k l) (l:=l);have e:=ih g (l.drop (fN k l)) ff ff;rw[e]
theorem dP(h:fN k l=0):aM k l=([],l):=by
 unfold aM;cases hl:l.length with
 | zero=>rfl
 | succ n=>unfold lw;rw[if_pos h]
theorem fB(h:fN k l≠0):aM k l=(l.take (fN k l)::(aM k (l.drop (fN k l))).1,(aM k (l.drop (fN k l))).2):=by
 have p:=lT (k:=k) (l:=l);have hd:=Y8 (i:=fN k l) (l:=l);unfold aM;obtain⟨n,hn⟩:∃ n,l.length=n+1:=⟨l.length-1,by omega⟩;rw[hn]
 conv=>lhs;unfold lw
 rw[if_neg h];have e:=Pk (k:=k) n (l.drop (fN k l)).length (l.drop (fN k l)) ff (YG _);rw[e]
theorem mF{P:Bs->Prop}(p:∀ l,fN k l=0->P l)(q:∀ l,fN k l≠0->P (l.drop (fN k l))->P l)(l:Bs):P l:=by
 have key:∀ n (l:Bs),l.length<=n->P l:=by
  intro n
  induction n with
  | zero=>
   intro l z;obtain rfl:l=[]:=Y0 ff;exact p [] rfl
  | succ n ih=>
   intro l z;by_cases h:fN k l=0
   ·exact p l h
   ·have hd:=Y8 (i:=fN k l) (l:=l);exact q l h (ih _ ff)
 exact key l.length l (YG _)
theorem Ci(l:Bs):(aM k l).1.flatten++(aM k l).2=l:=by
 refine mF (k:=k) (P:=fun l=>(aM k l).1.flatten++(aM k l).2=l) (fun l h=>?_) (fun l h ih=>?_) l
 ·show(aM k l).1.flatten++(aM k l).2=l
  rw[dP h];rfl
 ·show(aM k l).1.flatten++(aM k l).2=l
  rw[fB h]
  show(l.take (fN k l)++(aM k (l.drop (fN k l))).1.flatten)++(aM k (l.drop (fN k l))).2=l
  rw[Y3,ih,ZK]
def word(k:Int)(l:Bs):Bool:=decide ((aM k l).2=[])&&(decide (1<=(aM k l).1.length)&&decide ((aM k l).1.length<=12))
theorem eH:word k l=true↔(aM k l).2=[]/\1<=(aM k l).1.length/\(aM k l).1.length<=12:=by
 unfold word;simp
theorem Cj(h:word k l=true):(aM k l).1.flatten=l:=by
 have:=Ci (k:=k) l;rw[(eH.1 h).1,Y2] at this;exact this
theorem Nb(h:fN k l≠0):fN k (l.take (fN k l))=fN k l:=by
 cases l with
 | nil=>exact absurd rfl h
 | cons a l=>
  have q:=zK (k:=k) (a:=a) (b:=l.head?);have z:nk k a l.head?≠0:=h
  show fN k ((a::l).take (nk k a l.head?))=nk k a l.head?
  rcases j9 (nk k a l.head?) 2 with h2|h2
  ·have p:nk k a l.head?=1:=by omega
   rw[p];exact K9 p
  ·have p:nk k a l.head?=2:=by omega
   rw[p];cases l with
   | nil=>rw[show([]:Bs).head?=none from rfl] at p;have:=DN p;rw[uT] at this;cases this
   | cons b l=>exact p
theorem E5(h:fN k l≠0):aM k (l.take (fN k l))=([l.take (fN k l)],[]):=by
 have h1:=Nb h;have hlen:(l.take (fN k l)).length=fN k l:=by rw[YU];have:=lT (k:=k) (l:=l);omega
 rw[fB (by rw[h1];exact h),h1,ZR ff,List.drop_of_length_le ff,dP ft]
theorem Ck(l:Bs):∀ x ∈ (aM k l).1,aM k x=([x],[]):=by
 refine mF (k:=k) (P:=fun l=>∀ x ∈ (aM k l).1,aM k x=([x],[])) (fun l h=>?_) (fun l h ih=>?_) l
 ·show ∀ x ∈ (aM k l).1,_
  rw[dP h];intro x p;cases p
 ·show ∀ x ∈ (aM k l).1,_
  rw[fB h];intro x p;rcases List.mem_cons.1 p with rfl|p
  ·exact E5 h
  ·exact ih x p
end
section
variable{k:Int}{a b l:Bs}
theorem TN{c:UInt8}(h:has kJ (some c)=true):has uS (some c)=false:=by
 have key:∀ c ∈ kJ,has uS (some c)=false:=by decide
 exact key c (iF.1 h)
theorem I5(h:word k b=true):fN k b≠0:=by
 intro h0;have:=eH.1 h;rw[dP h0] at this;simp at this
def lower(l:Bs):Bs:=l.map low
theorem TP(c:UInt8):low (low c)=low c:=by
 unfold low;by_cases h:65<=c/\c<=90
 ·rw[if_pos h,if_neg];rintro⟨J,z⟩;obtain⟨q,F⟩:=h;have I:=UInt8.le_iff_toNat_le.1 q;have p:=UInt8.le_iff_toNat_le.1 F;have a3:=UInt8.le_iff_toNat_le.1 z;rw[sL] at a3;simp at I p a3;omega
 ·rw[if_neg h,if_neg h]
theorem Nc:∀ c ∈ bL,low c=c:=by decide
theorem TQ:∀ c ∈ zJ,c=39\/c ∈ bL:=by decide
theorem La:∀ c ∈ kJ,c ∈ bL:=by decide
theorem TR:∀ c ∈ uS,c ∈ bL:=by decide
theorem Nf{x:UInt8}{y:Option UInt8}(V:k≠2)(h:nk k x y≠0):(x ∈ bL\/(k=3/\x=39))/\(nk k x y=2->∃ z,y=some z/\z ∈ bL):=by
 unfold nk at h ⊢;by_cases M:k=1
 ·simp only[M,if_true] at h ⊢;refine⟨.inl ?_,fun I=>?_⟩
  ·by_cases F:has bL (some x)=true
   ·exact iF.1 F
   ·rw[if_neg F] at h;exact absurd rfl h
  ·split at I<;>omega
 rw[if_neg M,if_neg V] at h ⊢;by_cases F:k=3
 ·simp only[F,if_true] at h ⊢;refine⟨?_,fun I=>?_⟩
  ·by_cases J:has zJ (some x)=true
   ·rcases TQ x (iF.1 J) with p|p
    ·exact .inr ⟨trivial,p⟩
    ·exact .inl p
   ·rw[if_neg J] at h;exact absurd rfl h
  ·split at I<;>omega
 rw[if_neg F] at h ⊢;by_cases J:k=4
 ·simp only[J,if_true] at h ⊢;by_cases p:(has uS (some x)&&has kJ y)=true
  ·rw[if_pos p] at h ⊢;simp only[YF] at p;refine⟨.inl (TR x (iF.1 p.1)),fun _=>?_⟩;cases y with
   | none=>simp[has] at p
   | some z=>exact⟨z,rfl,La z (iF.1 p.2)⟩
  ·rw[if_neg p] at h ⊢;refine⟨.inl ?_,fun I=>by split at I<;>omega⟩;by_cases q:(has kJ (some x)||has [110] (some x))=true
   ·rw[ZQ] at q;rcases q with q|q
    ·exact La x (iF.1 q)
    ·have:x=110:=by simpa[has] using q
     subst this;decide
   ·rw[if_neg q] at h;exact absurd rfl h
 ·rw[if_neg J] at h;exact absurd rfl h
theorem I6(M:k≠2):∀ l:Bs,(aM k l).2=[]->∀ c ∈ l,c ∈ bL\/(k=3/\c=39):=by
 intro l;refine mF (k:=k) (P:=fun l=>(aM k l).2=[]->∀ c ∈ l,c ∈ bL\/(k=3/\c=39)) (fun l h=>?_) (fun l h ih=>?_) l
 ·intro q;rw[dP h] at q;obtain rfl:l=[]:=q;intro c p;cases p
 ·intro q c p;rw[fB h] at q;have ih:=ih q;cases l with
  | nil=>exact absurd rfl h
  | cons x t=>
   have J:nk k x t.head?≠0:=h;obtain⟨b1,b2⟩:=Nf M J;rcases List.mem_cons.1 p with rfl|p
   ·exact b1
   ·have aa:=zK (k:=k) (a:=x) (b:=t.head?);by_cases I:nk k x t.head?=2
    ·obtain⟨z,V,F⟩:=b2 I;cases t with
     | nil=>cases p
     | cons y t=>
      have:y=z:=by simpa using V
      subst this;rcases List.mem_cons.1 p with rfl|p
      ·exact .inl F
      ·refine ih c ?_
       show c ∈ (x::y::t).drop (nk k x (y::t).head?)
       rw[I];exact p
    ·refine ih c ?_
     show c ∈ (x::t).drop (nk k x t.head?)
     rw[show nk k x t.head?=1 by omega];exact p
theorem E8(hk:k≠2)(h:(aM k l).2=[]):lower l=l:=by
 have:=I6 hk l h;unfold lower
 conv=>rhs;rw[<-List.map_id l]
 refine Zu fun c hc=>?_;rcases this c hc with h1|⟨_,h1⟩
 ·exact Nc c h1
 ·subst h1;decide
theorem TS(c:UInt8):has oC (some (low c))=has oC (some c):=by
 unfold low;by_cases h:65<=c/\c<=90
 ·rw[if_pos h];obtain⟨F,J⟩:=h;have z:=UInt8.le_iff_toNat_le.1 F;have q:=UInt8.le_iff_toNat_le.1 J;simp at z q;have I:has oC (some c)=false:=by
   cases p:has oC (some c) with
   | false=>rfl
   | true=>
    have hm:=iF.1 p;have key:∀ c ∈ oC,¬ (65<=c.toNat/\c.toNat<=90):=by decide
    exact absurd ⟨z,q⟩ (key c hm)
  have e2:has oC (some (c+32))=false:=by
   cases p:has oC (some (c+32)) with
   | false=>rfl
   | true=>
    have hm:=iF.1 p;have key:∀ c ∈ oC,¬ (97<=c.toNat/\c.toNat<=122):=by decide
    refine absurd ?_ (key _ hm);rw[sL];simp;omega
  rw[I,e2]
 ·rw[if_neg h]
theorem tT(l:Bs):fN 2 (lower l)=fN 2 l:=by
 cases l with
 | nil=>rfl
 | cons x t=>
  show nk 2 (low x) (lower t).head?=nk 2 x t.head?
  unfold nk;simp only[show ¬ (2:Int)=1 by decide,if_false,if_true,TP];cases t with
  | nil=>rfl
  | cons y t=>
   show(if has bL (some (low x))=true then if has oC (some (low y))=true then 2 else 1 else 0)=if has bL (some (low x))=true then if has oC (some y)=true then 2 else 1 else 0
   rw[TS]
theorem E9(l:Bs):aM 2 (lower l)=((aM 2 l).1.map lower,lower (aM 2 l).2):=by
 refine mF (k:=2) (P:=fun l=>aM 2 (lower l)=((aM 2 l).1.map lower,lower (aM 2 l).2)) (fun l h=>?_) (fun l h ih=>?_) l
 ·show aM 2 (lower l)=_
  rw[dP h,dP (by rw[tT];exact h)];rfl
 ·show aM 2 (lower l)=_
  rw[fB h,fB (l:=lower l) (by rw[tT];exact h),tT];have p:(lower l).take (fN 2 l)=lower (l.take (fN 2 l)):=by unfold lower;rw[rh]
  have e2:(lower l).drop (fN 2 l)=lower (l.drop (fN 2 l)):=by unfold lower;rw[List.map_drop]
  rw[p,e2,ih];rfl
theorem DR(hk:k≠2)(h:(aM k l).2=[]):(aM k l).1.map lower=(aM k l).1:=by
 conv=>rhs;rw[<-List.map_id (aM k l).1]
 refine Zu fun x hx=>?_;have:=Ck (k:=k) l x hx;exact E8 hk (by rw[this])
theorem DT(h:word k l=true):aM k (lower l)=((aM k l).1.map lower,[]):=by
 have h1:=(eH.1 h).1;by_cases hk:k=2
 ·subst hk;rw[E9,h1];rfl
 ·rw[E8 hk h1,DR hk h1,<-h1]
theorem iA(h:word k l=true):word k (lower l)=true:=by
 have h1:=eH.1 h;refine eH.2 ?_;rw[DT h];exact⟨rfl,by show 1<=((aM k l).1.map lower).length;rw[YI];exact h1.2.1,by show((aM k l).1.map lower).length<=12;rw[YI];exact h1.2.2⟩
end
inductive Yk where
 | ok (ws:List Bs)
 | err (e at_:Int)
deriving DecidableEq
section
variable{k:Int}{l:Bs}{ws:List Bs}{cur:Bs}{cnt o:Nat}
end
section
variable{k:Int}
theorem Pm{l:Bs}{j:Nat}(h:fN k l≠0)(z:fN k l<=j):fN k (l.take j)=fN k l:=by
 cases l with
 | nil=>exact absurd rfl h
 | cons a t=>
  have J:nk k a t.head?≠0:=h;have I:nk k a t.head?<=j:=z;have F:=zK (k:=k) (a:=a) (b:=t.head?);obtain⟨p,rfl⟩:∃ p,j=p+1:=⟨j-1,by omega⟩
  show nk k a (t.take p).head?=nk k a t.head?
  cases t with
  | nil=>simp
  | cons b t=>
   cases p with
   | zero=>
    have q:nk k a (some b)=1:=by
     have:nk k a (some b)=nk k a (b::t).head?:=rfl;omega
    show nk k a none=nk k a (some b)
    rw[q];exact K9 q
   | succ p=>rfl
def same:Yk->Yk->Prop
 | .ok a,.ok b=>a=b
 | .err e _,.err e' _=>e=e'
 | _,_=>False
def ctx(k:Int):List Bs->Bs->Prop
 | [],_=>True
 | x::xs,r=>x≠[]/\fN k (x++(xs.flatten++r))=x.length/\ctx k xs r
def behind(r:Bs):Prop:=r=[]\/r.head?=some 32
def Fa(k:Int)(ws:List Bs):Prop:=∀ w ∈ ws,word k w=true
def bytes:List Bs->Nat
 | []=>0
 | w::ws=>w.length+1+bytes ws
def join:List Bs->Bs
 | []=>[]
 | [w]=>w
 | w::v::ws=>w++32::join (v::ws)
end
structure bI where
 k:Int
 ws:List Bs
def Pn:bI:=⟨0,[]⟩
def Wm:Bs:=[112,108,97,105,110]
def Wn:Bs:=[99,97,115,101,100]
def Wo:Bs:=[97,98,106,97,100]
def TT:Bs:=[115,121,108,108,97,98]
def eZ(n:bI):Bool:=n.ws.all (word n.k)&&(decide (0<n.ws.length)&&decide (n.ws.length<=6))
def pre(t:Bs):Int × Nat:=
 if(Wm++[58]).isPrefixOf t then(1,6) else if(Wn++[58]).isPrefixOf t then(2,6)
 else if(Wo++[58]).isPrefixOf t then(3,6) else if(TT++[58]).isPrefixOf t then(4,7) else(0,0)
def done(k:Int)(len:Nat):Yk->bI × Int × Int
 | .ok ws=>if ws=[] then(Pn,6,len) else(⟨k,ws⟩,0,0)
 | .err e at_=>(Pn,e,at_)
theorem bR{n:bI}:eZ n=true↔Fa n.k n.ws/\0<n.ws.length/\n.ws.length<=6:=by
 unfold eZ Fa;rw[YF,YF,decide_eq_true_eq,decide_eq_true_eq,YX]
end Go.CH.Scr
namespace Go.CH.eG
open Go.CH.Scr
structure ib where
 k:Int
 f:Bs
 t:Bs
 c:Int
deriving DecidableEq
structure St where
 i:Nat
 j:Nat
 a:Bs
 r:Bool
deriving DecidableEq
structure Wd where
 ka:Int
 kb:Int
 l:List Bs
 m:List Bs
 rs:List ib
def tk:List Bs->Bs->Option Nat
 | _,[]=>some 0
 | [],_::_=>none
 | x::l,c::t=>if x.isPrefixOf (c::t) then(tk l ((c::t).drop x.length)).map (· + 1) else none
def takes(l:List Bs)(t:Bs):Nat:=(tk l t).getD 0
variable{W:Wd}{s s' t:St}{R:ib}{c d:Int}{n:Nat}
def Wd.left(W:Wd)(s:St):Bool:=s.r||(decide (s.a=[])&&decide (s.i≠W.l.length))
def Wd.used(W:Wd)(s:St)(R:ib):Nat:=
 if W.left s then(if R.k=W.ka then takes (W.l.drop s.i) R.f else 0) else(if R.k=W.kb then takes (W.m.drop s.j) R.f else 0)
def Wd.ah(W:Wd)(s:St)(tw:Bs):Option (Bs × Bool):=
 if tw.isPrefixOf s.a/\s.a.drop tw.length≠[] then some (s.a.drop tw.length,s.r)
 else if s.a.isPrefixOf tw then some (tw.drop s.a.length,!W.left s&&decide (tw.drop s.a.length≠[]))
 else none
def Wd.mv(W:Wd)(s:St)(R:ib):Option (Int × St):=
 if W.used s R=0 then none
 else(W.ah s R.t).map fun x=>(R.c,if W.left s then ⟨s.i+W.used s R,s.j,x.1,x.2⟩ else ⟨s.i,s.j+W.used s R,x.1,x.2⟩)
def Wd.moves(W:Wd)(s:St):List (Int × St):=W.rs.filterMap (W.mv s)
def Wd.fin(W:Wd):St:=⟨W.l.length,W.m.length,[],false⟩
def gR:St:=⟨0,0,[],false⟩
theorem pE{a b:Bs}:a.isPrefixOf b=true↔∃ r,b=a++r:=by
 rw[pj];exact⟨fun⟨r,h⟩=>⟨r,h.symm⟩,fun⟨r,h⟩=>⟨r,h.symm⟩⟩
variable{l:List Bs}
theorem I7:tk l []=some 0:=by cases l<;>rfl
theorem Lb:∀ {l:List Bs} {t:Bs} {n:Nat},tk l t=some n->n<=l.length/\(l.take n).flatten=t:=by
 intro l
 induction l with
 | nil=>
  intro t n h;cases t with
  | nil=>rw[I7] at h;injection h with h;subst h;exact⟨YG _,rfl⟩
  | cons c t=>cases h
 | cons x l ih=>
  intro t n h;cases t with
  | nil=>rw[I7] at h;injection h with h;subst h;exact⟨YE _,rfl⟩
  | cons c t=>
   unfold tk at h;split at h
   ·rename_i F;obtain⟨r,I⟩:=pE.1 F;rw[py] at h;obtain⟨k,p,rfl⟩:=h;obtain⟨q,z⟩:=ih p;refine⟨Nat.succ_le_succ q,?_⟩;rw[List.take_succ_cons,qq,z,I,k6]
   ·cases h
theorem zL{t:Bs}:takes l t<=l.length:=by
 unfold takes;cases h:tk l t with
 | none=>exact YE _
 | some n=>exact(Lb h).1
theorem I8{t:Bs}(h:takes l t≠0):(l.take (takes l t)).flatten=t:=by
 unfold takes at h ⊢;cases h2:tk l t with
 | none=>rw[h2] at h;exact absurd rfl h
 | some n=>exact(Lb h2).2
theorem XC:∀ {l:List Bs} {n:Nat},n<=l.length->(∀ x ∈ l,x≠[])->tk l (l.take n).flatten=some n:=by
 intro l
 induction l with
 | nil=>intro n hn _;obtain rfl:n=0:=Nat.le_zero.1 hn;exact I7
 | cons x l ih=>
  intro n hn q;cases n with
  | zero=>rfl
  | succ n=>
   have h:=ih (n:=n) (by simpa using hn) (fun y z=>q y (Zj _ z));have p:=q x (Ze ..);cases x with
   | nil=>exact absurd rfl p
   | cons b x=>
    show tk ((b::x)::l) (b::(x++(l.take n).flatten))=some (n+1)
    unfold tk;rw[if_pos (show(b::x).isPrefixOf (b::(x++(l.take n).flatten))=true from pE.2 ⟨(l.take n).flatten,rfl⟩)];have:(b::(x++(l.take n).flatten)).drop (b::x).length=(l.take n).flatten:=k6;rw[this,h];rfl
theorem Px{n:Nat}(hn:n<=l.length)(hx:∀ x ∈ l,x≠[]):takes l (l.take n).flatten=n:=by unfold takes;rw[XC hn hx];rfl
def Wd.ok(W:Wd)(s:St):Prop:=s.i<=W.l.length/\s.j<=W.m.length/\(s.r=true->s.a≠[])
def Wd.gD(W:Wd)(s:St):Nat:=(W.l.length-s.i)+(W.m.length-s.j)
theorem kh:W.ok gR:=⟨YE _,YE _,fun h=>by cases h⟩
theorem DU(h:W.mv s R=some (c,s')):c=R.c/\W.used s R≠0/\∃ x,W.ah s R.t=some x/\s'=(if W.left s then ⟨s.i+W.used s R,s.j,x.1,x.2⟩ else ⟨s.i,s.j+W.used s R,x.1,x.2⟩):=by
 unfold Wd.mv at h;split at h
 ·cases h
 ·rename_i z;rw[py] at h;obtain⟨x,p,q⟩:=h;injection q with h1 h2
  exact⟨h1.symm,z,x,p,h2.symm⟩
theorem TW:(W.left s=true->s.i<=W.l.length->s.i+W.used s R<=W.l.length)/\(W.left s=false->s.j<=W.m.length->s.j+W.used s R<=W.m.length):=by
 unfold Wd.used;constructor
 ·intro h hi;rw[if_pos h];split
  ·have:=zL (l:=W.l.drop s.i) (t:=R.f);rw[Y8] at this;omega
  ·omega
 ·intro h p;rw[if_neg (by rw[h];decide)];split
  ·have:=zL (l:=W.m.drop s.j) (t:=R.f);rw[Y8] at this;omega
  ·omega
theorem VB{x:Bs × Bool}{tw:Bs}(h:W.ah s tw=some x):x.2=true->x.1≠[]:=by
 unfold Wd.ah at h;split at h
 ·rename_i h1;injection h with h;subst h;exact fun _=>h1.2
 ·split at h
  ·injection h with h;subst h;intro h2;simp at h2;simpa using h2.2
  ·cases h
theorem XD(M:W.ok s)(h:W.mv s R=some (c,s')):W.ok s'/\W.gD s'<W.gD s:=by
 obtain⟨-,hu,x,z,rfl⟩:=DU h;obtain⟨F,I,V⟩:=M;have p:=TW (W:=W) (s:=s) (R:=R);cases J:W.left s with
 | true=>
  have q:=p.1 J F;simp only[if_true];exact⟨⟨q,I,VB z⟩,by show(W.l.length-(s.i+W.used s R))+(W.m.length-s.j)<(W.l.length-s.i)+(W.m.length-s.j);omega⟩
 | false=>
  have q:=p.2 J I;simp only[ZG,if_false];exact⟨⟨F,q,VB z⟩,by show(W.l.length-s.i)+(W.m.length-(s.j+W.used s R))<(W.l.length-s.i)+(W.m.length-s.j);omega⟩
theorem wL(h:(c,s') ∈ W.moves s):∃ R ∈ W.rs,W.mv s R=some (c,s'):=by
 unfold Wd.moves at h;exact List.mem_filterMap.1 h
theorem fF(hs:W.ok s)(h:(c,s') ∈ W.moves s):W.ok s'/\W.gD s'<W.gD s:=by
 obtain⟨R,_,hm⟩:=wL h;exact XD hs hm
inductive IG(W:Wd)(s:St):St->Prop
 | refl:IG W s s
 | step {s' s'':St} {c:Int} (h:IG W s s') (hm:(c,s'') ∈ W.moves s'):IG W s s''
theorem IG.ok(hs:W.ok s)(h:IG W s s'):W.ok s':=by
 induction h with
 | refl=>exact hs
 | step _ hm ih=>exact(fF ih hm).1
theorem IG.trans{a b c:St}(h:IG W a b)(h2:IG W b c):IG W a c:=by
 induction h2 with
 | refl=>exact h
 | step _ hm ih=>exact .step ih hm
inductive Pa(W:Wd):St->Int->St->Prop
 | nil (s:St):Pa W s 0 s
 | cons {s s' t:St} {c d:Int} (hm:(c,s') ∈ W.moves s) (h:Pa W s' d t):Pa W s (c+d) t
def never:Int:=1099511627776
def Wd.dn(W:Wd):Nat->St->Int
 | 0,s=>if s=W.fin then 0 else never
 | n+1,s=>(W.moves s).foldl (fun h x=>min h (x.1+W.dn n x.2)) (if s=W.fin then 0 else never)
def Wd.fS(W:Wd)(s:St):Int:=W.dn (W.gD s) s
theorem DV{α:Type}(f:α->Int):∀ (l:List α) (h:Int),l.foldl (fun h x=>min h (f x)) h<=h/\∀ x ∈ l,l.foldl (fun h x=>min h (f x)) h<=f x:=by
 intro l
 induction l with
 | nil=>intro h;exact⟨ZB _,fun x p=>by cases p⟩
 | cons y l ih=>
  intro h;obtain⟨q,z⟩:=ih (min h (f y));rw[lz];refine⟨oS q (Int.min_le_left ..),fun x p=>?_⟩;rcases List.mem_cons.1 p with rfl|p
  ·exact oS q (sn ..)
  ·exact z x p
theorem fold_eq{α:Type}(f:α->Int):∀ (l:List α) (h:Int),l.foldl (fun h x=>min h (f x)) h=h\/∃ x ∈ l,l.foldl (fun h x=>min h (f x)) h=f x:=by
 intro l
 induction l with
 | nil=>intro h;exact .inl rfl
 | cons y l ih=>
  intro h;rw[lz];rcases ih (min h (f y)) with h1|⟨x,hx,h1⟩
  ·rw[h1];rcases Int.le_total h (f y) with h2|h2
   ·exact .inl (Int.min_eq_left h2)
   ·exact .inr ⟨y,Ze ..,Int.min_eq_right h2⟩
  ·exact .inr ⟨x,Zj _ hx,h1⟩
theorem fold_congr{α:Type}(f g:α->Int):∀ (l:List α) (h:Int),(∀ x ∈ l,f x=g x)->l.foldl (fun h x=>min h (f x)) h=l.foldl (fun h x=>min h (g x)) h:=by
 intro l
 induction l with
 | nil=>intro h _;rfl
 | cons y l ih=>
  intro h he;rw[lz,lz,he y (Ze ..)];exact ih _ (fun x hx=>he x (Zj _ hx))
theorem Cm:∀ (n m:Nat) (s:St),W.ok s->W.gD s<=n->W.gD s<=m->W.dn n s=W.dn m s:=by
 intro n
 induction n with
 | zero=>
  intro m s p hn hm;cases m with
  | zero=>rfl
  | succ m=>
   have:W.moves s=[]:=by
    cases h:W.moves s with
    | nil=>rfl
    | cons x l=>
     have:=(fF (c:=x.1) (s':=x.2) p (by rw[h];exact Ze ..)).2;omega
   unfold Wd.dn;rw[this];rfl
 | succ n ih=>
  intro m s p hn hm;cases m with
  | zero=>
   have:W.moves s=[]:=by
    cases h:W.moves s with
    | nil=>rfl
    | cons x l=>
     have:=(fF (c:=x.1) (s':=x.2) p (by rw[h];exact Ze ..)).2;omega
   unfold Wd.dn;rw[this];rfl
  | succ m=>
   unfold Wd.dn;refine fold_congr _ _ _ _ (fun x q=>?_);have:=fF (c:=x.1) (s':=x.2) p q;rw[ih m x.2 this.1 ff ff]
theorem jU(p:W.ok s):W.fS s=(W.moves s).foldl (fun h x=>min h (x.1+W.fS x.2)) (if s=W.fin then 0 else never):=by
 unfold Wd.fS;rw[Cm (W.gD s) (W.gD s+1) s p (YG _) ff]
 show List.foldl (fun h x=>min h (x.1+W.dn (W.gD s) x.2)) (if s=W.fin then 0 else never) (W.moves s)=_
 refine fold_congr _ _ _ _ (fun x q=>?_);have:=fF (c:=x.1) (s':=x.2) p q;rw[Cm (W.gD s) (W.gD x.2) x.2 this.1 ff ff]
theorem Ng(hs:W.ok s)(h:(c,s') ∈ W.moves s):W.fS s<=c+W.fS s':=by
 rw[jU hs];exact(DV (fun x:Int × St=>x.1+W.fS x.2) (W.moves s) _).2 (c,s') h
theorem iT(hs:W.ok s):W.fS s<=never:=by
 rw[jU hs];refine oS (DV (fun x:Int × St=>x.1+W.fS x.2) (W.moves s) _).1 ?_;split
 ·decide
 ·exact ZB _
theorem Nh(h:W.rs.all (fun R=>decide (R.f≠[]))=true):W.moves W.fin=[]:=by
 unfold Wd.moves;rw[List.filterMap_eq_nil_iff];intro R z;have p:R.f≠[]:=by simpa using List.all_eq_true.1 h R z
 have q:W.left W.fin=false:=by simp[Wd.left,Wd.fin]
 unfold Wd.mv;rw[if_pos];unfold Wd.used;rw[if_neg (by rw[q];decide)];split
 ·rw[show W.fin.j=W.m.length from rfl,ly];cases F:R.f with
  | nil=>exact absurd F p
  | cons b f=>rfl
 ·rfl
def Wd.good(W:Wd):Prop:=∀ R ∈ W.rs,0<=R.c/\R.c<=1000/\R.f≠[]
theorem jf(hg:W.good)(h:(c,s') ∈ W.moves s):0<=c/\c<=1000:=by
 obtain⟨R,hR,hm⟩:=wL h;obtain⟨rfl,_⟩:=DU hm;exact⟨(hg R hR).1,(hg R hR).2.1⟩
theorem Py(z:W.good):∀ (n:Nat) (s:St),W.ok s->W.gD s<=n->0<=W.fS s:=by
 intro n
 induction n with
 | zero=>
  intro s p hn;rw[jU p];rcases fold_eq (fun x:Int × St=>x.1+W.fS x.2) (W.moves s) (if s=W.fin then 0 else never) with h|⟨x,hx,_⟩
  ·rw[h];split<;>decide
  ·have:=(fF (c:=x.1) (s':=x.2) p hx).2;omega
 | succ n ih=>
  intro s p hn;rw[jU p];rcases fold_eq (fun x:Int × St=>x.1+W.fS x.2) (W.moves s) (if s=W.fin then 0 else never) with h|⟨x,hx,h⟩
  ·rw[h];split<;>decide
  ·rw[h];have q:=fF (c:=x.1) (s':=x.2) p hx;have I:=ih x.2 q.1 ff;have F:=(jf (c:=x.1) (s':=x.2) z hx).1
   show 0<=x.1+W.fS x.2
   omega
theorem gT(hg:W.good)(hs:W.ok s):0<=W.fS s:=Py hg _ s hs (YG _)
theorem Fb(hg:W.good):W.fS W.fin=0:=by
 have hok:W.ok W.fin:=⟨YG _,YG _,fun h=>by cases h⟩;rw[jU hok,Nh (List.all_eq_true.2 fun R hR=>by simpa using (hg R hR).2.2)];simp
theorem Ni(J:W.good)(hl:W.l.length+W.m.length<=1000):∀ (n:Nat) (s:St),W.ok s->W.gD s<=n->(Pa W s (W.fS s) W.fin/\W.fS s<=1000*W.gD s)\/W.fS s=never/\∀ c,¬ Pa W s c W.fin:=by
 intro n
 induction n with
 | zero=>
  intro s z hn;have hm:W.moves s=[]:=by
   cases h:W.moves s with
   | nil=>rfl
   | cons x l=>
    have:=(fF (c:=x.1) (s':=x.2) z (by rw[h];exact Ze ..)).2;omega
  by_cases q:s=W.fin
  ·refine .inl ?_;have e:W.fS s=0:=by rw[q];exact Fb J
   rw[e];exact⟨q ▸ Pa.nil s,by omega⟩
  ·refine .inr ⟨by rw[jU z,hm];simp[q],fun c I=>?_⟩;cases I with
   | nil=>exact q rfl
   | cons hm2 _=>rw[hm] at hm2;cases hm2
 | succ n ih=>
  intro s z hn;by_cases p:W.fS s=never
  ·refine .inr ⟨p,fun c I=>?_⟩;cases I with
   | nil=>rw[Fb J] at p;exact absurd p fW
   | cons hm2 hp2=>
    rename_i s' c' d';have h1:=fF z hm2;rcases ih _ h1.1 ff with⟨_,hb⟩|⟨_,h2⟩
    ·have V:=Ng z hm2;have h4:=(jf J hm2).2;have h5:W.gD s<=1000:=by unfold Wd.gD;omega
     rw[p] at V;unfold never at V;omega
    ·exact h2 _ hp2
  ·have F:=jU z;rcases fold_eq (fun x:Int × St=>x.1+W.fS x.2) (W.moves s) (if s=W.fin then 0 else never) with h|⟨x,hx,h⟩
   ·rw[h] at F;by_cases q:s=W.fin
    ·rw[if_pos q] at F;refine .inl ?_;rw[F];exact⟨q ▸ Pa.nil s,by omega⟩
    ·rw[if_neg q] at F;exact absurd F p
   ·rw[h] at F;have h1:=fF (c:=x.1) (s':=x.2) z hx;have hc:=jf (c:=x.1) (s':=x.2) J hx;rcases ih x.2 h1.1 ff with⟨I,hb⟩|⟨h2,_⟩
    ·refine .inl ?_;rw[F];exact⟨.cons (c:=x.1) (s':=x.2) hx I,by show x.1+W.fS x.2<=_;omega⟩
    ·exfalso;have V:=iT z;have M:W.fS s=x.1+W.fS x.2:=F;rw[h2] at M;omega
structure Pt where
 i:Int
 j:Int
 a:Bs
 r:Bool
 h:Int
deriving DecidableEq
def Pt.st(p:Pt):St:=⟨p.i.toNat,p.j.toNat,p.a,p.r⟩
def Yl(p q:Pt):Prop:=p.i<q.i\/p.i=q.i/\(p.j<q.j\/p.j=q.j/\(p.a<q.a\/p.a=q.a/\p.r=false/\q.r=true))
instance (p q:Pt):Decidable (Yl p q):=by unfold Yl;infer_instance
def nI(c:UInt8):Bool:=decide (97<=c)&&decide (c<=122)
def proper(W:Wd)(bound:Int)(p:Pt):Bool:=
 decide (0<=p.i)&&decide (p.i<=W.l.length)&&decide (0<=p.j)&&decide (p.j<=W.m.length)&&decide (p.a.length<=3)&&p.a.all nI&&(!p.r||decide (p.a≠[]))&&decide (p.st≠W.fin)&&decide (0<p.h)&&decide (p.h<=min bound 100000)
variable{bound:Int}
theorem I9{W:Wd}{p:Pt}:proper W bound p=true↔(0<=p.i/\p.i<=W.l.length)/\(0<=p.j/\p.j<=W.m.length)/\(p.a.length<=3/\p.a.all nI=true)/\(p.r=true->p.a≠[])/\p.st≠W.fin/\0<p.h/\p.h<=bound/\p.h<=100000:=by
 unfold proper;simp only[YF,ZQ,decide_eq_true_eq,Z4];constructor
 ·rintro⟨⟨⟨⟨⟨⟨⟨⟨⟨J,I⟩,F⟩,M⟩,h5⟩,z⟩,q⟩,V⟩,h9⟩,aa⟩;refine⟨⟨J,I⟩,⟨F,M⟩,⟨h5,z⟩,fun hr=>?_,V,h9,by omega,by omega⟩;rcases q with q|q
  ·rw[hr] at q;cases q
  ·exact q
 ·rintro⟨⟨J,I⟩,⟨F,M⟩,⟨h5,z⟩,q,V,h9,aa,ab⟩;refine⟨⟨⟨⟨⟨⟨⟨⟨⟨J,I⟩,F⟩,M⟩,h5⟩,z⟩,?_⟩,V⟩,h9⟩,by omega⟩;cases hr:p.r with
  | false=>exact .inl rfl
  | true=>exact .inr (q hr)
def i7(C:List Pt)(s:St):Int:=match C.find? (fun p=>decide (p.st=s)) with|some p=>p.h|none=>0
def steps(W:Wd)(C:List Pt)(p:Pt):Bool:=(W.moves p.st).all fun x=>decide (p.h<=x.1+i7 C x.2)
def Holds(W:Wd)(bound:Int)(C:List Pt):Prop:=
 (∀ p ∈ C,proper W bound p=true)/\C.Pairwise Yl/\(∀ p ∈ C,steps W C p=true)/\bound<=i7 C gR
section
variable{W:Wd}{C:List Pt}{s:St}{bound c:Int}
theorem Holds.pos(h:Holds W bound C):∀ p ∈ C,0<=p.i/\0<=p.j:=fun p hp=>by
 have:=I9.1 (h.1 p hp);exact⟨this.1.1,this.2.1.1⟩
end
section
variable{W:Wd}{C C':List Pt}{s s':St}{bound c:Int}
def Wd.xR(W:Wd):Prop:=∀ R ∈ W.rs,R.t.length<=3/\R.t.all nI=true
end
section
variable{W:Wd}{s s':St}{c d:Int}
theorem zM:W.left s=true↔s.r=true\/(s.a=[]/\s.i≠W.l.length):=by
 unfold Wd.left;simp
def Wd.swap(W:Wd):Wd:=⟨W.kb,W.ka,W.m,W.l,W.rs⟩
def Wd.rest(W:Wd)(i j:Nat):Wd:=⟨W.ka,W.kb,W.l.drop i,W.m.drop j,W.rs⟩
end
structure Drop where
 k:Int
 w:Bs
 c:Int
deriving DecidableEq
structure fy where
 rs:List ib
 ds:List Drop
 es:List Drop
 drop:Int
 ord:Int
 ini:Int
deriving DecidableEq
def dQ(k:Int)(s:Bs)(gh:Nat):Bool:=word k s&&(decide (lower s=s)&&decide ((aM k s).1.length<=gh))
def kW(s:Bs):Bool:=decide (s.length<=3)&&s.all nI
def dJ(n:Int):Bool:=decide (0<=n)&&decide (n<=1000)
def gF(R:ib):Int × Bs × Bs:=(R.k,R.f,R.t)
def gK(d:Drop):Int × Bs × Bs:=(d.k,d.w,[])
def ql(R:ib):Bool:=dQ R.k R.f 3&&(kW R.t&&dJ R.c)
def lK(gh:Nat)(d:Drop):Bool:=dQ d.k d.w gh&&dJ d.c
def fQ(l:List ib):Bool:=decide ((l.map gF).Nodup)&&l.all ql
def iU(gh:Nat)(l:List Drop):Bool:=decide ((l.map gK).Nodup)&&(l.all (lK gh)&&decide (l.length<=40))
def bC(T:fy):Bool:=
 (decide (T.rs≠[])&&(decide (T.rs.length<=80)&&(dJ T.drop&&(dJ T.ord&&dJ T.ini))))&&(fQ T.rs&&(iU 12 T.ds&&iU 4 T.es))
theorem eY{n:Int}:dJ n=true↔0<=n/\n<=1000:=by unfold dJ;simp
variable{k:Int}{s:Bs}
theorem xS{m:Nat}:dQ k s m=true↔word k s=true/\lower s=s/\(aM k s).1.length<=m:=by unfold dQ;simp
theorem l5:kW s=true↔s.length<=3/\s.all nI=true:=by unfold kW;rw[YF,decide_eq_true_eq]
theorem rU{R:ib}:ql R=true↔dQ R.k R.f 3=true/\kW R.t=true/\dJ R.c=true:=by unfold ql;simp
theorem iV{l:List ib}:fQ l=true↔(l.map gF).Nodup/\∀ R ∈ l,ql R=true:=by unfold fQ;simp
theorem eU{T:fy}:bC T=true↔(T.rs≠[]/\T.rs.length<=80/\dJ T.drop=true/\dJ T.ord=true/\dJ T.ini=true)/\fQ T.rs=true/\iU 12 T.ds=true/\iU 4 T.es=true:=by
 unfold bC;simp only[YF,decide_eq_true_eq]
def bP(T:fy)(a:Int)(x:Bs)(b:Int)(y:Bs):Wd:=⟨a,b,(aM a (lower x)).1,(aM b (lower y)).1,T.rs⟩
def okW(T:fy)(a:Int)(x:Bs)(b:Int)(y:Bs):Bool:=word a x&&(word b y&&bC T)
theorem gI{T:fy}{a b:Int}{x y:Bs}:okW T a x b y=true↔word a x=true/\word b y=true/\bC T=true:=by unfold okW;simp
section
variable{T:fy}{a b:Int}{x y:Bs}
theorem rV(h:bC T=true):(bP T a x b y).good/\(bP T a x b y).xR:=by
 obtain⟨-,M,-,-⟩:=eU.1 h;obtain⟨-,z⟩:=iV.1 M;constructor
 ·intro R p;obtain⟨F,J,q⟩:=rU.1 (z R p);have I:=eY.1 q;refine⟨I.1,I.2,fun e=>?_⟩;have:=(xS.1 F).1;rw[e] at this;exact I5 this rfl
 ·intro R p;obtain⟨F,J,q⟩:=rU.1 (z R p);exact l5.1 J
theorem yT(h:okW T a x b y=true):1<=(bP T a x b y).l.length/\(bP T a x b y).l.length<=12/\1<=(bP T a x b y).m.length/\(bP T a x b y).m.length<=12:=by
 obtain⟨h1,h2,-⟩:=gI.1 h;have e1:=(eH.1 (iA h1)).2;have e2:=(eH.1 (iA h2)).2;exact⟨e1.1,e1.2,e2.1,e2.2⟩
end
section
theorem TY{r:Bs}:∀ cs:List Bs,ctx k cs r->aM k cs.flatten=(cs,[]):=by
 intro cs
 induction cs with
 | nil=>intro _;exact dP ft
 | cons x xs ih=>
  rintro⟨F,h,I⟩;have e:=ih I;have q:0<x.length:=List.length_pos_iff.2 F;have p:fN k (x++xs.flatten)=x.length:=by
   have z:=Pm (k:=k) (l:=x++(xs.flatten++r)) (j:=(x++xs.flatten).length) (by rw[h];omega) (by rw[h,Yz];omega);rw[<-Y3,sR rfl,Y3,h] at z;exact z
  rw[qq,fB (by rw[p];omega),p,sR rfl,List.drop_left' rfl,e]
theorem Wq(l:Bs):ctx k (aM k l).1 (aM k l).2:=by
 refine mF (k:=k) (P:=fun l=>ctx k (aM k l).1 (aM k l).2) (fun l h=>?_) (fun l h ih=>?_) l
 ·show ctx k (aM k l).1 (aM k l).2
  rw[dP h];trivial
 ·show ctx k (aM k l).1 (aM k l).2
  have p:=lT (k:=k) (l:=l);rw[fB h];refine⟨?_,?_,ih⟩
  ·intro e;have:=congrArg List.length e;rw[YU,Zz] at this;omega
  ·rw[Ci,ZK,YU];omega
theorem Fe{r:Bs}:∀ (cs:List Bs) (i:Nat),ctx k cs r->ctx k (cs.drop i) r
 | cs,0,h=>by rw[me];exact h
 | [],i+1,h=>trivial
 | x::xs,i+1,h=>Fe xs i h.2.2
theorem Fg{r:Bs}:∀ (cs:List Bs) (n:Nat),ctx k cs r->ctx k (cs.take n) ((cs.drop n).flatten++r)
 | cs,0,h=>trivial
 | [],n+1,h=>trivial
 | x::xs,n+1,h=>by
  refine⟨h.1,?_,Fg xs n h.2.2⟩;have e:(xs.take n).flatten++((xs.drop n).flatten++r)=xs.flatten++r:=by
   rw[<-Y3,<-mS,ZK]
  show fN k (x++((xs.take n).flatten++((xs.drop n).flatten++r)))=x.length
  rw[e];exact h.2.1
theorem Pz(w:Bs)(i n:Nat):aM k (((aM k w).1.drop i).take n).flatten=(((aM k w).1.drop i).take n,[]):=TY _ (Fg _ n (Fe _ i (Wq w)))
theorem T9(w:Bs):∀ x ∈ (aM k w).1,x≠[]:=fun x hx e=>by
 have h:=Ck (k:=k) w x hx;rw[e,dP ft] at h;cases h
variable{i:Nat}
theorem tV{w f:Bs}(F:word k f=true):takes ((aM k w).1.drop i) f=(if((aM k w).1.drop i).take (aM k f).1.length=(aM k f).1 then(aM k f).1.length else 0):=by
 have M:=eH.1 F;by_cases h:((aM k w).1.drop i).take (aM k f).1.length=(aM k f).1
 ·rw[if_pos h];have p:(aM k f).1.length<=((aM k w).1.drop i).length:=by
   have:=congrArg List.length h;rw[YU] at this;omega
  have e:=Px p (fun x I=>T9 w x (List.mem_of_mem_drop I));rw[h,Cj F] at e;exact e
 ·rw[if_neg h];refine my fun hn=>?_;have e:=I8 hn;have z:=Pz (k:=k) w i (takes ((aM k w).1.drop i) f);rw[e] at z;have q:(aM k f).1=((aM k w).1.drop i).take (takes ((aM k w).1.drop i) f):=by rw[z]
  have J:(aM k f).1.length=takes ((aM k w).1.drop i) f:=by
   rw[q,YU];have:=zL (l:=(aM k w).1.drop i) (t:=f);omega
  exact h (by rw[J];exact q.symm)
end
structure AR where
 ix:Nat
 c:Int
 f:List Bs
 t:Bs
deriving DecidableEq
def oF(k:Int)(x:ib × Nat):Option AR:=if x.1.k=k then(if word k x.1.f=true then some ⟨x.2,x.1.c,(aM k x.1.f).1,x.1.t⟩ else none) else none
def fK(rs:List ib)(k:Int):List AR:=rs.zipIdx.filterMap (oF k)
def jw(l:List Bs)(r:AR)(i:Nat):Bool:=decide (i+r.f.length<=l.length)&&decide ((l.drop i).take r.f.length=r.f)
def Wd.xU(W:Wd)(s:St)(tw:Bs):Option (Bs × Bool):=
 if tw.isPrefixOf s.a then some (s.a.drop tw.length,s.r&&decide (s.a.drop tw.length≠[]))
 else if s.a.isPrefixOf tw then some (tw.drop s.a.length,!W.left s)
 else none
def Wd.uM(W:Wd)(s:St)(r:AR):Option (AR × St):=
 if jw (if W.left s then W.l else W.m) r (if W.left s then s.i else s.j)=true then
  (W.xU s r.t).map fun x=>(r,if W.left s then ⟨s.i+r.f.length,s.j,x.1,x.2⟩ else ⟨s.i,s.j+r.f.length,x.1,x.2⟩)
 else none
def Wd.cK(W:Wd)(s:St):List (AR × St):=(fK W.rs (if W.left s then W.ka else W.kb)).filterMap (W.uM s)
section
variable{W:Wd}{s:St}
theorem zN{p q:Bs}(h:p.isPrefixOf q=true)(h2:q.drop p.length=[]):q=p:=by
 obtain⟨r,rfl⟩:=pE.1 h;rw[k6] at h2;rw[h2,Y2]
theorem PD(q:Bs):W.xU s q=W.ah s q:=by
 unfold Wd.xU Wd.ah;by_cases z:q.isPrefixOf s.a=true
 ·rw[if_pos z];by_cases p:s.a.drop q.length=[]
  ·have e:=zN z p;rw[if_neg (by simp[p]),if_pos (by rw[e,pj];exact List.prefix_refl _)];rw[e];simp
  ·rw[if_pos ⟨z,p⟩];simp[p]
 ·rw[if_neg z,if_neg (fun h:q.isPrefixOf s.a=true/\s.a.drop q.length≠[]=>z h.1)];by_cases p:s.a.isPrefixOf q=true
  ·rw[if_pos p,if_pos p];have F:q.drop s.a.length≠[]:=fun e=>z (by rw[zN p e,pj];exact List.prefix_refl _);simp[F]
  ·rw[if_neg p,if_neg p]
end
section
variable{T:fy}{a b:Int}{x y:Bs}{s:St}
variable{i:Nat}
theorem Fh{w f:Bs}(q:word k f=true)(hi:i<=(aM k w).1.length)(ix:Nat)(c:Int)(t:Bs):
  jw (aM k w).1 ⟨ix,c,(aM k f).1,t⟩ i=true↔takes ((aM k w).1.drop i) f≠0:=by
 have z:=eH.1 q;rw[tV q];unfold jw;simp only[YF,decide_eq_true_eq];constructor
 ·rintro⟨F,p⟩;rw[if_pos p];omega
 ·intro h;split at h
  ·rename_i p;have:=congrArg List.length p;rw[YU,Y8] at this;exact⟨by omega,p⟩
  ·exact absurd rfl h
theorem zO(hv:bC T=true){R:ib}(hR:R ∈ T.rs):word R.k R.f=true:=
 (xS.1 (rU.1 ((iV.1 (eU.1 hv).2.1).2 R hR)).1).1
theorem nP{α β:Type}(f:α->Option β):∀ (l:List α) (n:Nat),(l.zipIdx n).filterMap (fun p=>f p.1)=l.filterMap f
 | [],_=>rfl
 | x::l,n=>by
  rw[List.zipIdx_cons];cases h:f x with
  | none=>rw[pw h,pw (by simpa using h),nP f l (n+1)]
  | some y=>rw[mB h,mB (by simpa using h),nP f l (n+1)]
theorem zP{α β:Type}{f g:α->Option β}:∀ (l:List α),(∀ x ∈ l,f x=g x)->l.filterMap f=l.filterMap g
 | [],_=>rfl
 | x::l,h=>by
  have e:=h x (Ze ..);have ih:=zP l (fun y hy=>h y (Zj _ hy));cases hg:g x with
  | none=>rw[pw (e.trans hg),pw hg,ih]
  | some z=>rw[mB (e.trans hg),mB hg,ih]
theorem DW{α:Type}:∀ (l:List α) (n:Nat) {p:α × Nat},p ∈ l.zipIdx n->p.1 ∈ l:=fun l n p hp=>by
 obtain⟨x,i⟩:=p;exact(sT hp).2.2 ▸ YL _
theorem oG(hv:bC T=true)(V:(bP T a x b y).ok s):((bP T a x b y).cK s).map (fun p=>(p.1.c,p.2))=(bP T a x b y).moves s:=by
 unfold Wd.cK Wd.moves fK;rw[List.filterMap_filterMap,List.map_filterMap,show(bP T a x b y).rs.filterMap ((bP T a x b y).mv s)=((bP T a x b y).rs.zipIdx).filterMap (fun p=>(bP T a x b y).mv s p.1) from(nP _ _ 0).symm];refine zP _ fun p hp=>?_;have hR:=DW _ _ hp;have I:=zO hv hR;obtain⟨R,i⟩:=p;simp only at hR I ⊢;unfold oF Wd.mv;simp only;cases M:(bP T a x b y).left s with
 | true=>
  have z:(bP T a x b y).used s R=if R.k=a then takes ((aM a (lower x)).1.drop s.i) R.f else 0:=by unfold Wd.used;rw[if_pos M];rfl
  simp only[if_true]
  show Option.map _ ((if R.k=a then _ else none:Option AR).bind _)=_
  by_cases F:R.k=a
  ·rw[if_pos F] at z;subst F;rw[if_pos rfl,if_pos (show word (bP T R.k x b y).ka R.f=true from I),z];simp only[qt];unfold Wd.uM;rw[M];simp only[if_true];have J:=Fh (k:=R.k) (w:=lower x) (i:=s.i) I V.1 i R.c R.t;by_cases q:takes ((aM R.k (lower x)).1.drop s.i) R.f=0
   ·rw[if_pos q];refine(congrArg _ (if_neg (by intro h;exact(J.1 h) q))).trans ?_;rfl
   ·have hn:takes ((aM R.k (lower x)).1.drop s.i) R.f=(aM R.k R.f).1.length:=by
     rw[tV I] at q ⊢;split at q
     ·rename_i h;rw[if_pos h]
     ·exact absurd rfl q
    rw[if_neg q];refine(congrArg _ (if_pos (J.2 q))).trans ?_;rw[PD,kp,hn];rfl
  ·rw[if_neg F] at z;rw[if_neg F,z,if_pos rfl];rfl
 | false=>
  have z:(bP T a x b y).used s R=if R.k=b then takes ((aM b (lower y)).1.drop s.j) R.f else 0:=by unfold Wd.used;rw[if_neg (by rw[M];decide)];rfl
  simp only[ZG,if_false]
  show Option.map _ ((if R.k=b then _ else none:Option AR).bind _)=_
  by_cases F:R.k=b
  ·rw[if_pos F] at z;subst F;rw[if_pos rfl,if_pos (show word (bP T a x R.k y).kb R.f=true from I),z];simp only[qt];unfold Wd.uM;rw[M];simp only[ZG,if_false];have J:=Fh (k:=R.k) (w:=lower y) (i:=s.j) I V.2.1 i R.c R.t;by_cases q:takes ((aM R.k (lower y)).1.drop s.j) R.f=0
   ·rw[if_pos q];refine(congrArg _ (if_neg (by intro h;exact(J.1 h) q))).trans ?_;rfl
   ·have hn:takes ((aM R.k (lower y)).1.drop s.j) R.f=(aM R.k R.f).1.length:=by
     rw[tV I] at q ⊢;split at q
     ·rename_i h;rw[if_pos h]
     ·exact absurd rfl q
    rw[if_neg q];refine(congrArg _ (if_pos (J.2 q))).trans ?_;rw[PD,kp,hn];rfl
  ·rw[if_neg F] at z;rw[if_neg F,z,if_pos rfl];rfl
structure Dv where
 c:Int
 L:List Int
 M:List Int
 F:Bs
deriving DecidableEq
def kX(l:List Bs)(rs:List AR):List Int->Nat->Option (Bs × Int × Nat)
 | [],i=>some ([],0,i)
 | k::ks,i=>match rs.find? (fun r=>decide ((r.ix:Int)=k)) with
  | none=>none
  | some r=>if jw l r i=true then(kX l rs ks (i+r.f.length)).map fun z=>(r.t++z.1,r.c+z.2.1,z.2.2) else none
def tX(T:fy)(a:Int)(x:Bs)(b:Int)(y:Bs)(d:Dv):Prop:=
 okW T a x b y=true/\∃ F c1 c2,kX (bP T a x b y).l (fK T.rs a) d.L 0=some (F,c1,(bP T a x b y).l.length)/\kX (bP T a x b y).m (fK T.rs b) d.M 0=some (F,c2,(bP T a x b y).m.length)/\F=d.F/\c1+c2=d.c
end
section
variable{W:Wd}{bound:Int}
end
def Wd.pick(W:Wd)(s:St):Option (AR × St):=(W.cK s).find? fun p=>decide (p.1.c+W.fS p.2=W.fS s)
def Wd.fT(W:Wd):Nat->St->List Int × List Int × Bs
 | 0,_=>([],[],[])
 | n+1,s=>if s=W.fin then([],[],[]) else match W.pick s with
  | none=>([],[],[])
  | some (r,s')=>if s.i<s'.i then((r.ix:Int)::(W.fT n s').1,(W.fT n s').2.1,r.t++(W.fT n s').2.2) else((W.fT n s').1,(r.ix:Int)::(W.fT n s').2.1,(W.fT n s').2.2)
def Wd.mx(W:Wd):Dv:=⟨W.fS gR,(W.fT (W.gD gR) gR).1,(W.fT (W.gD gR) gR).2.1,(W.fT (W.gD gR) gR).2.2⟩
inductive qm(T:fy)(a:Int)(x:Bs)(b:Int)(y:Bs):Dv->Int->Prop
 | arg (h:okW T a x b y=false):qm T a x b y ⟨0,[],[],[]⟩ 1
 | none (h:okW T a x b y=true) (h2:(bP T a x b y).fS gR=never):qm T a x b y ⟨0,[],[],[]⟩ 11
 | some (h:okW T a x b y=true) (h2:(bP T a x b y).fS gR<never):qm T a x b y (bP T a x b y).mx 0
section
variable{T:fy}{a b:Int}{x y:Bs}{bound:Int}{C:List Pt}{d:Dv}{e:Int}
theorem zQ(h:okW T a x b y=true):(bP T a x b y).l.length+(bP T a x b y).m.length<=1000:=by have:=yT h;omega
theorem Lc(h:okW T a x b y=true):(bP T a x b y).good:=(rV (gI.1 h).2.2).1
theorem Nj(h:qm T a x b y d 0):d.c=(bP T a x b y).fS gR/\okW T a x b y=true/\0<=d.c/\d.c<=24000:=by
 generalize p:(0:Int)=e at h;cases h with
 | arg=>cases p
 | none=>cases p
 | some h h2=>
  have q:=gT (Lc h) kh;refine⟨rfl,h,q,?_⟩;rcases Ni (Lc h) (zQ h) _ gR kh (YG _) with⟨_,z⟩|⟨hn,_⟩
  ·have:=yT h;have e:(bP T a x b y).gD gR=(bP T a x b y).l.length+(bP T a x b y).m.length:=rfl;rw[e] at z
   show(bP T a x b y).fS gR<=24000
   omega
  ·rw[hn] at h2;exact absurd h2 fW
end
def fU(L:List (St × Int)):List St:=L.map (·.1)
structure Kn(W:Wd)(L:List (St × Int)):Prop where
 val:∀ p ∈ L,p.2=W.fS p.1
 ok:∀ p ∈ L,W.ok p.1
 cl:∀ p ∈ L,∀ x ∈ W.moves p.1,x.2 ∈ fU L
 nd:(fU L).Nodup
structure Ext(W:Wd)(s:St)(L L':List (St × Int)):Prop where
 old:∀ p ∈ L,p ∈ L'
 new:∀ p ∈ L',p ∈ L\/IG W s p.1
section
variable{W:Wd}{s s':St}{L L' L'':List (St × Int)}{c:Int}
theorem Ws:Kn W []:=⟨fun p h=>absurd h (YT),fun p h=>absurd h (YT),fun p h=>absurd h (YT),qT⟩
theorem mem_keys{q:St}:q ∈ fU L↔∃ v,(q,v) ∈ L:=by
 unfold fU;rw[rl];exact⟨fun⟨p,hp,e⟩=>⟨p.2,by rw[<-e];exact hp⟩,fun⟨v,hv⟩=>⟨_,hv,rfl⟩⟩
theorem Ext.refl:Ext W s L L:=⟨fun _ h=>h,fun _ h=>.inl h⟩
theorem Ext.keys(h:Ext W s L L'){q:St}(hq:q ∈ fU L):q ∈ fU L':=by
 obtain⟨v,hv⟩:=mem_keys.1 hq;exact mem_keys.2 ⟨v,h.old _ hv⟩
theorem Ext.step(h:Ext W s L L')(hm:(c,s') ∈ W.moves s)(h2:Ext W s' L' L''):Ext W s L L'':=
 ⟨fun p hp=>h2.old p (h.old p hp),fun p hp=>(h2.new p hp).elim (fun h3=>h.new p h3) (fun h3=>.inr ((IG.step .refl hm).trans h3))⟩
theorem PE(hs:W.ok s)(h:IG W s s'):W.gD s'<=W.gD s:=by
 induction h with
 | refl=>exact YG _
 | step h hm ih=>have:=(fF (IG.ok hs h) hm).2;omega
theorem Nk(hs:W.ok s)(h:s ∉ fU L)(he:∀ p ∈ L',p ∈ L\/∃ c s',(c,s') ∈ W.moves s/\IG W s' p.1):s ∉ fU L':=fun hq=>by
 obtain⟨v,hv⟩:=mem_keys.1 hq;rcases he _ hv with h1|⟨c,s',hm,hr⟩
 ·exact h (mem_keys.2 ⟨v,h1⟩)
 ·have h2:=fF hs hm;have h3:=PE h2.1 hr;have:W.gD s<=W.gD s':=h3;omega
theorem Kn.add(h:Kn W L)(J:W.ok s)(hn:s ∉ fU L)(hm:∀ x ∈ W.moves s,x.2 ∈ fU L):Kn W (L++[(s,W.fS s)]):=by
 have F:fU (L++[(s,W.fS s)])=fU L++[s]:=by unfold fU;rw[YS];rfl
 refine⟨fun p q=>?_,fun p q=>?_,fun p q x z=>?_,?_⟩
 ·rcases List.mem_append.1 q with q|q
  ·exact h.val p q
  ·rw[List.mem_singleton.1 q]
 ·rcases List.mem_append.1 q with q|q
  ·exact h.ok p q
  ·rw[List.mem_singleton.1 q];exact J
 ·rw[F];refine lL _ ?_;rcases List.mem_append.1 q with q|q
  ·exact h.cl p q x z
  ·rw[List.mem_singleton.1 q] at z;exact hm x z
 ·rw[F,nt];refine⟨h.nd,gw,fun a I b M e=>?_⟩;rw[List.mem_singleton.1 M] at e;exact hn (e ▸ I)
def kK(W:Wd)(s:St)(i:Nat):Int:=((W.moves s).take i).foldl (fun h x=>min h (x.1+W.fS x.2)) (if s=W.fin then 0 else never)
theorem wM:kK W s 0=if s=W.fin then 0 else never:=rfl
variable{i:Nat}
theorem Cn(hi:i<(W.moves s).length):kK W s (i+1)=min (kK W s i) ((W.moves s)[i].1+W.fS (W.moves s)[i].2):=by
 unfold kK;rw[YD hi,rS];rfl
theorem Fj(hs:W.ok s):kK W s (W.moves s).length=W.fS s:=by unfold kK;rw[YO,jU hs]
theorem Ld:kK W s i<=never:=by
 unfold kK;refine oS (DV (fun x:Int × St=>x.1+W.fS x.2) _ _).1 ?_;split
 ·decide
 ·exact ZB _
theorem Fp(q:W.good)(F:W.ok s):∀ i,0<=kK W s i:=fun i=>by
 rcases fold_eq (fun x:Int × St=>x.1+W.fS x.2) ((W.moves s).take i) (if s=W.fin then 0 else never) with h|⟨x,hx,h⟩
 ·unfold kK;rw[h];split<;>decide
 ·unfold kK;rw[h];have p:=ZC hx;have z:=fF (c:=x.1) (s':=x.2) F p;have J:=gT q z.1;have I:=(jf (c:=x.1) (s':=x.2) q p).1;omega
structure Ua(W:Wd)(s:St)(L:List (St × Int))(i:Nat)(L':List (St × Int)):Prop where
 kn:Kn W L'
 old:∀ p ∈ L,p ∈ L'
 new:∀ p ∈ L',p ∈ L\/∃ c s',(c,s') ∈ W.moves s/\IG W s' p.1
 mv:∀ j (hj:j<(W.moves s).length),j<i->(W.moves s)[j].2 ∈ fU L'
theorem Fq(h:Kn W L):Ua W s L 0 L:=⟨h,fun _ h=>h,fun _ h=>.inl h,fun j _ h=>absurd h (Zn _)⟩
theorem Fu(hi:i<(W.moves s).length)(h:Ua W s L i L')(I:Kn W L'')(z:Ext W (W.moves s)[i].2 L' L'')(F:(W.moves s)[i].2 ∈ fU L''):Ua W s L (i+1) L'':=by
 refine⟨I,fun p q=>z.old p (h.old p q),fun p q=>?_,fun j J M=>?_⟩
 ·rcases z.new p q with h3|h3
  ·exact h.new p h3
  ·exact .inr ⟨_,_,YL hi,h3⟩
 ·by_cases e:j=i
  ·subst e;exact F
  ·exact z.keys (h.mv j J ff)
theorem Le(h:Ua W s L (W.moves s).length L')(I:W.ok s)(hn:s ∉ fU L):Kn W (L'++[(s,W.fS s)])/\Ext W s L (L'++[(s,W.fS s)])/\s ∈ fU (L'++[(s,W.fS s)])/\s ∉ fU L':=by
 have z:=Nk I hn h.new;refine⟨h.kn.add I z (fun x J=>?_),⟨fun p q=>lL _ (h.old p q),fun p q=>?_⟩,mem_keys.2 ⟨_,mC _ (List.mem_singleton.2 rfl)⟩,z⟩
 ·obtain⟨j,F,rfl⟩:=List.mem_iff_getElem.1 J;exact h.mv j F F
 ·rcases List.mem_append.1 q with q|q
  ·rcases h.new p q with h3|⟨c,s',hm,hr⟩
   ·exact .inl h3
   ·exact .inr ((IG.step .refl hm).trans hr)
  ·rw[List.mem_singleton.1 q];exact .inr .refl
end
end Go.CH.eG
namespace Go.CH.bF
def sg:Nat->(Nat->Int)->Int
 | 0,_=>0
 | n+1,f=>sg n f+f n
section
variable{n m:Nat}{f g:Nat→Int}
theorem OW:sg 0 f=0:=rfl
theorem dN:sg (n+1) f=sg n f+f n:=rfl
theorem bJ(h:∀ i,i<n->f i=g i):sg n f=sg n g:=by
 induction n with
 | zero=>rfl
 | succ n ih=>rw[dN,dN,ih (fun i hi=>h i ff),h n ff]
theorem BS(h:∀ i,i<n->f i<=g i):sg n f<=sg n g:=by
 induction n with
 | zero=>exact ZB _
 | succ n ih=>rw[dN,dN];have:=ih (fun i hi=>h i ff);have:=h n ff;omega
theorem tO(f g:Nat->Int):sg n (fun i=>f i+g i)=sg n f+sg n g:=by
 induction n with
 | zero=>rfl
 | succ n ih=>rw[dN,dN,dN,ih];omega
theorem Du(f g:Nat->Int):sg n (fun i=>f i-g i)=sg n f-sg n g:=by
 induction n with
 | zero=>rfl
 | succ n ih=>rw[dN,dN,dN,ih];omega
theorem OX(n:Nat):sg n (fun _=>0)=0:=by
 induction n with
 | zero=>rfl
 | succ n ih=>rw[dN,ih];rfl
theorem rQ(h:∀ i,i<n->0<=f i):0<=sg n f:=by have:=BS (f:=fun _=>0) h;rw[OX] at this;exact this
variable{k:Nat}
theorem Dw(hk:k<n)(h:∀ i,i<n->i≠k->f i=g i):sg n f=sg n g+(f k-g k):=by
 induction n with
 | zero=>omega
 | succ n ih=>
  rw[dN,dN];by_cases e:k=n
  ·subst e;rw[bJ (g:=g) (fun i hi=>h i ff ff)];omega
  ·rw[ih ff (fun i hi hne=>h i ff hne),h n ff ff];omega
theorem IK:sg (n+k) f=sg n f+sg k (fun i=>f (n+i)):=by
 induction k with
 | zero=>simp[sg]
 | succ k ih=>rw[<-kq,dN,dN,ih];omega
theorem zn:sg (n+1) f=f 0+sg n (fun i=>f (i+1)):=by
 rw[k9,IK];simp only[dN,OW,kj];congr 1;exact bJ (fun i _=>by rw[k9])
end
structure bF(n m:Nat)(P:Nat->Nat):Prop where
 le:∀ i,i<n->P i<=m
 inj:∀ i j,i<n->j<n->P i=P j->P i<m->i=j
def used(P:Nat->Nat):Nat->Nat->Bool
 | 0,_=>false
 | n+1,j=>used P n j||P n==j
variable{P:Nat->Nat}{n j k s r i:Nat}{w:Nat->Nat->Int}{z v0:Int}{U V:Nat->Int}
theorem oh:used P n j=true↔∃ i,i<n/\P i=j:=by
 induction n with
 | zero=>simp[used]
 | succ n ih=>
  simp only[used,ZQ,beq_iff_eq,ih];constructor
  ·rintro (⟨i,q,p⟩|h)
   ·exact⟨i,by omega,p⟩
   ·exact⟨n,by omega,h⟩
  ·rintro⟨i,q,p⟩;by_cases e:i=n
   ·subst e;exact .inr p
   ·exact .inl ⟨i,by omega,p⟩
theorem oo:used P n j=false↔∀ i,i<n->P i≠j:=by
 rw[<-oc,oh];exact⟨fun h i hi e=>h ⟨i,hi,e⟩,fun h ⟨i,hi,e⟩=>h i hi e⟩
section
variable{n m:Nat}{P Q:Nat→Nat}
theorem bF.low(h:bF n m P)(hk:k<=n):bF k m P:=⟨fun i hi=>h.le i ff,fun i j hi hj=>h.inj i j ff ff⟩
theorem pd(h:bF n m P)(f:Nat->Int):sg n (fun i=>if P i<m then f (P i) else 0)=sg m (fun j=>if used P n j then f j else 0):=by
 induction n with
 | zero=>exact(OX m).symm
 | succ n ih=>
  rw[dN,ih (h.low ff)];by_cases p:P n<m
  ·rw[if_pos p];have z:used P n (P n)=false:=oo.2 fun i hi e=>by have:=h.inj i n ff ff e ff;omega
   rw[Dw (f:=fun j=>if used P (n+1) j then f j else 0) (g:=fun j=>if used P n j then f j else 0) p ?_]
   ·simp only[used,z,beq_self_eq_true,Bool.or_true];simp
   ·intro j _ q;have:(P n==j)=false:=by simp;omega
    simp only[used,this,re]
  ·rw[if_neg p,lh];refine bJ fun j F=>?_;have:(P n==j)=false:=by simp;omega
   simp only[used,this,re]
end
def cost(c:Nat->Nat->Int)(d e:Nat->Int)(n m:Nat)(P:Nat->Nat):Int:=
 sg n (fun i=>if P i<m then c i (P i) else d i)+sg m (fun j=>if used P n j then 0 else e j)
def wt(c:Nat->Nat->Int)(d e:Nat->Int)(m:Nat)(i k:Nat):Int:=if k<m then c i k-e k else d i
def ic(w:Nat->Nat->Int)(n:Nat)(P:Nat->Nat):Int:=sg n (fun i=>w i (P i))
section
variable{n m:Nat}{P Q:Nat→Nat}{c:Nat→Nat→Int}{d e:Nat→Int}
theorem fJ(h:bF n m P):cost c d e n m P=sg m e+ic (wt c d e m) n P:=by
 have z:=pd h e;have q:sg m (fun j=>if used P n j then 0 else e j)=sg m e-sg m (fun j=>if used P n j then e j else 0):=by
  rw[<-Du];refine bJ fun j _=>?_;cases used P n j<;>simp
 have p:ic (wt c d e m) n P=sg n (fun i=>if P i<m then c i (P i) else d i)-sg n (fun i=>if P i<m then e (P i) else 0):=by
  unfold ic;rw[<-Du];refine bJ fun i _=>?_;unfold wt;split<;>simp
 unfold cost;rw[q,p,z];omega
structure IE(c:Nat->Nat->Int)(d e:Nat->Int)(n m:Nat)(v:Int):Prop where
 has:∃ P,bF n m P/\cost c d e n m P=v
 low:∀ P,bF n m P->v<=cost c d e n m P
end
def pv(n m:Nat)(P Q:Nat->Nat)(s:Nat):Option Nat:=if Q s<m then(List.range n).find? (fun r=>P r==Q s) else none
def MX(n m:Nat)(P Q:Nat->Nat):Nat->Option Nat
 | 0=>some n
 | k+1=>(MX n m P Q k).bind (pv n m P Q)
section
variable{n m:Nat}{P Q:Nat→Nat}
theorem Km(h:pv n m P Q s=some r):Q s<m/\r<n/\P r=Q s:=by
 unfold pv at h;split at h
 ·rename_i h1;have h2:=Zf h;have h3:=lR h;exact⟨h1,List.mem_range.1 h2,by simpa using h3⟩
 ·cases h
theorem Xw(I:bF n m P)(z:Q s<m)(h:r<n)(p:P r=Q s):pv n m P Q s=some r:=by
 cases e:pv n m P Q s with
 | none=>
  unfold pv at e;rw[if_pos z,nh] at e;exact absurd p (by simpa using e r (List.mem_range.2 h))
 | some r'=>
  obtain⟨_,F,q⟩:=Km e;rw[I.inj r' r F h (q.trans p.symm) ff]
theorem oq(h:MX n m P Q k=some s)(hs:s≠n):∃ j r,k=j+1/\MX n m P Q j=some r/\Q r<m/\s<n/\P s=Q r:=by
 cases k with
 | zero=>injection h with h;exact absurd h.symm hs
 | succ j=>
  simp only[MX,Option.bind_eq_some_iff] at h;obtain⟨r,h1,h2⟩:=h;exact⟨j,r,rfl,h1,Km h2⟩
theorem EI(hP:bF n m P)(h:MX n m P Q k=some s)(h1:Q s<m)(h2:r<n)(h3:P r=Q s):MX n m P Q (k+1)=some r:=by
 simp only[MX,h];exact Xw hP h1 h2 h3
theorem Yf(hi:i<n)(hw:∀ k,k<=m->w n k=w i k)(hP:bF n m P)(hQ:bF (n+1) m Q)(hO:∀ R,bF n m R->ic w n P<=ic w n R):
  ∃ R,bF (n+1) m R/\R i=P i/\ic w (n+1) R<=ic w (n+1) Q:=by
 by_cases hA:∃ k,MX n m P Q k=some i
 ·-- the rows met come to i: the least such k
  have hL:∃ k,MX n m P Q k=some i/\∀ j,j<k->MX n m P Q j≠some i:=by
   obtain⟨k,hk⟩:=hA
   induction k using Nat.strongRecOn with
   | _ k ih=>
    by_cases hj:∃ j,j<k/\MX n m P Q j=some i
    ·obtain⟨j,q,z⟩:=hj;exact ih j q z
    ·exact⟨k,hk,fun j q z=>hj ⟨j,q,z⟩⟩
  obtain⟨k,hk,ai⟩:=hL
  classical
  let S:Nat->Prop:=fun s=>∃ j,j<=k/\MX n m P Q j=some s
  have ab:S n:=⟨0,by omega,rfl⟩;have ae:S i:=⟨k,by omega,hk⟩;have ao:0<k:=by
   cases k with
   | zero=>injection hk with hk;omega
   | succ k=>omega
  have ac:∀ s,S s->s≠n->∃ r,S r/\r≠i/\Q r<m/\s<n/\P s=Q r:=by
   rintro s ⟨j,hj,J⟩ aa;obtain⟨j',r,rfl,q,z,h3,h4⟩:=oq J aa;exact⟨r,⟨j',by omega,q⟩,fun e=>ai j' ff (e ▸ q),z,h3,h4⟩
  have ad:∀ s r,S s->s≠i->Q s<m->r<n->P r=Q s->S r:=by
   rintro s r ⟨j,hj,J⟩ aa q z h3;have:j≠k:=fun e=>by subst e;rw[hk] at J;injection J with J;exact aa J.symm
   exact⟨j+1,by omega,EI hP J q z h3⟩
  let P':Nat->Nat:=fun r=>if r=i then Q n else if S r then Q r else P r
  let Q':Nat->Nat:=fun r=>if r=n then Q i else if S r then P r else Q r
  have al:bF n m P':=by
   constructor
   ·intro r hr;simp only[P'];split
    ·exact hQ.le n ff
    ·split
     ·exact hQ.le r ff
     ·exact hP.le r hr
   ·-- two rows with one column
    have key:∀ a b,a<n->b<n->P' a=P' b->P' a<m->(a=i\/S a)->b=a:=by
     intro a b ha hb M hm F
     -- the row whose Q is meant
     have q:∃ s,S s/\s≠i/\P' a=Q s/\(s=n↔a=i)/\(a≠i->s=a):=by
      by_cases e:a=i
      ·exact⟨n,ab,by omega,by simp[P',e],by simp[e],fun h=>absurd e h⟩
      ·have:S a:=F.resolve_left e;exact⟨a,this,e,by simp[P',e,this],by constructor<;>intro h<;>omega,fun _=>rfl⟩
     obtain⟨s,z,h3,h4,h5,h6⟩:=q;have ap:s<=n:=by obtain⟨j,_,J⟩:=z;by_cases e:s=n;omega;obtain⟨_,_,_,_,_,h,_⟩:=oq J e;omega
     by_cases eb:b=i
     ·have h7:P' b=Q n:=by simp[P',eb]
      have:=hQ.inj s n ff ff ff ff;rw[eb];exact(h5.1 this).symm
     ·by_cases p:S b
      ·have h7:P' b=Q b:=by simp[P',eb,p]
       have h8:=hQ.inj s b ff ff ff ff;by_cases ea:a=i
       ·have:=h5.2 ea;omega
       ·rw[<-h8,h6 ea]
      ·have h7:P' b=P b:=by simp[P',eb,p]
       exact absurd (ad s b z h3 ff hb ff) p
    intro a b ha hb M hm;by_cases F:a=i\/S a
    ·exact(key a b ha hb M hm F).symm
    ·by_cases p:b=i\/S b
     ·exact key b a hb ha M.symm (M ▸ hm) p
     ·have ea:P' a=P a:=by simp only[P',if_neg (fun h=>F (.inl h)),if_neg (fun h=>F (.inr h))]
      have eb:P' b=P b:=by simp only[P',if_neg (fun h=>p (.inl h)),if_neg (fun h=>p (.inr h))]
      exact hP.inj a b ha hb ff ff
  have am:bF (n+1) m Q':=by
   constructor
   ·intro r hr;simp only[Q'];split
    ·exact hQ.le i ff
    ·split
     ·rename_i q z;exact hP.le r ff
     ·exact hQ.le r hr
   ·-- each row of the set has the column of another one of the set
    have src:∀ a,a<n+1->(a=n\/S a)->∃ s,S s/\s<n+1/\Q' a=Q s/\(a=n↔s=i)/\(a≠n->P a=Q s):=by
     intro a ha h;by_cases e:a=n
     ·exact⟨i,ae,by omega,by simp[Q',e],by simp[e],fun h=>absurd e h⟩
     ·have hS:S a:=h.resolve_left e;obtain⟨r,q,z,h3,h4,h5⟩:=ac a hS e;have ak:r<=n:=by obtain⟨j,_,J⟩:=q;by_cases e:r=n;omega;obtain⟨_,_,_,_,_,h,_⟩:=oq J e;omega
      exact⟨r,q,by omega,by simp[Q',e,hS,h5],by simp[e,z],fun _=>h5⟩
    have key:∀ a b,a<n+1->b<n+1->Q' a=Q' b->Q' a<m->(a=n\/S a)->b=a:=by
     intro a b ha hb M hm F;obtain⟨s,q,z,h3,h4,h5⟩:=src a ha F;by_cases p:b=n\/S b
     ·obtain⟨t,g1,g2,g3,g4,g5⟩:=src b hb p;have af:=hQ.inj s t z g2 ff ff;by_cases ea:a=n
      ·have:=g4.2 (by rw[<-af];exact h4.1 ea);omega
      ·by_cases eb:b=n
       ·have:=h4.2 (by rw[af];exact g4.1 eb);omega
       ·exact(hP.inj a b ff ff (by rw[h5 ea,g5 eb,af]) (by rw[h5 ea];omega)).symm
     ·have eb:Q' b=Q b:=by simp only[Q',if_neg (fun h=>p (.inl h)),if_neg (fun h=>p (.inr h))]
      have:=hQ.inj s b z hb ff ff;exact absurd (this ▸ q) (fun h=>p (.inr h))
    intro a b ha hb M hm;by_cases F:a=n\/S a
    ·exact(key a b ha hb M hm F).symm
    ·by_cases p:b=n\/S b
     ·exact key b a hb ha M.symm (M ▸ hm) p
     ·have ea:Q' a=Q a:=by simp only[Q',if_neg (fun h=>F (.inl h)),if_neg (fun h=>F (.inr h))]
      have eb:Q' b=Q b:=by simp only[Q',if_neg (fun h=>p (.inl h)),if_neg (fun h=>p (.inr h))]
      exact hQ.inj a b ha hb ff ff
  refine⟨Q',am,?_,?_⟩
  ·have:i≠n:=by omega
   simp[Q',this,ae]
  ·have ag:ic w n P'+ic w (n+1) Q'=ic w n P+ic w (n+1) Q:=by
    have e1:sg n (fun r=>w r (P' r)+w r (Q' r))=sg n (fun r=>w r (P r)+w r (Q r))+((w i (P' i)+w i (Q' i))-(w i (P i)+w i (Q i))):=by
     refine Dw hi fun r hr aa=>?_;have hn:r≠n:=by omega
     by_cases hS:S r
     ·simp only[P',Q',if_neg aa,if_neg hn,if_pos hS];omega
     ·simp only[P',Q',if_neg aa,if_neg hn,if_neg hS]
    rw[tO,tO] at e1;have e2:P' i=Q n:=by simp[P']
    have e3:Q' i=P i:=by(have:i≠n:=by omega);simp[Q',this,ae]
    have e4:Q' n=Q i:=by simp[Q']
    have e5:=hw (Q n) (hQ.le n ff);have e6:=hw (Q i) (hQ.le i ff);unfold ic;rw[dN,dN,e4];rw[e2,e3] at e1;omega
   have:=hO P' al;omega
 ·-- the rows met never come to i
  classical
  let S:Nat->Prop:=fun s=>∃ k,MX n m P Q k=some s
  have ab:S n:=⟨0,rfl⟩;have ae:¬ S i:=hA;have ac:∀ s,S s->s≠n->∃ r,S r/\Q r<m/\s<n/\P s=Q r:=by
   rintro s ⟨j,J⟩ aa;obtain⟨j',r,rfl,q,z,h3,h4⟩:=oq J aa;exact⟨r,⟨j',q⟩,z,h3,h4⟩
  have ad:∀ s r,S s->Q s<m->r<n->P r=Q s->S r:=by
   rintro s r ⟨j,J⟩ q z h3;exact⟨j+1,EI hP J q z h3⟩
  let R:Nat->Nat:=fun r=>if S r then Q r else P r
  let R':Nat->Nat:=fun r=>if S r then P r else Q r
  have hR:bF (n+1) m R:=by
   constructor
   ·intro r hr;simp only[R];split
    ·exact hQ.le r ff
    ·rename_i h;have:r≠n:=fun e=>h (e ▸ ab);exact hP.le r ff
   ·intro a b ha hb M hm;by_cases I:S a<;>by_cases V:S b<;>simp only[R,I,V,if_true,if_false] at M hm
    ·exact hQ.inj a b ha hb M hm
    ·have:b≠n:=fun e=>V (e ▸ ab);exact absurd (ad a b I hm ff M.symm) V
    ·have:a≠n:=fun e=>I (e ▸ ab);exact absurd (ad b a V ff ff M) I
    ·have:b≠n:=fun e=>V (e ▸ ab);have:a≠n:=fun e=>I (e ▸ ab);exact hP.inj a b ff ff M hm
  have an:bF n m R':=by
   constructor
   ·intro r hr;simp only[R'];split
    ·exact hP.le r hr
    ·exact hQ.le r ff
   ·intro a b ha hb M hm;by_cases I:S a<;>by_cases V:S b<;>simp only[R',I,V,if_true,if_false] at M hm
    ·exact hP.inj a b ha hb M hm
    ·obtain⟨r,q,z,h3,h4⟩:=ac a I ff;have ak:r<=n:=by obtain⟨j,J⟩:=q;by_cases e:r=n;omega;obtain⟨_,_,_,_,_,h,_⟩:=oq J e;omega
     have:=hQ.inj r b ff ff ff z;exact absurd (this ▸ q) V
    ·obtain⟨r,q,z,h3,h4⟩:=ac b V ff;have ak:r<=n:=by obtain⟨j,J⟩:=q;by_cases e:r=n;omega;obtain⟨_,_,_,_,_,h,_⟩:=oq J e;omega
     have:=hQ.inj r a ff ff ff z;exact absurd (this ▸ q) I
    ·exact hQ.inj a b ff ff M hm
  refine⟨R,hR,by simp only[R,if_neg ae],?_⟩;have ag:ic w n R'+ic w (n+1) R=ic w n P+ic w (n+1) Q:=by
   have e1:sg n (fun r=>w r (R' r)+w r (R r))=sg n (fun r=>w r (P r)+w r (Q r)):=by
    refine bJ fun r hr=>?_;by_cases hS:S r
    ·simp only[R,R',if_pos hS]
    ·simp only[R,R',if_neg hS];omega
   rw[tO,tO] at e1;have e2:R n=Q n:=by simp only[R,if_pos ab]
   unfold ic;rw[dN,dN,e2];omega
  have:=hO R' an;omega
end
section
variable{n m:Nat}{P Q:Nat→Nat}{c:Nat→Nat→Int}{d e:Nat→Int}{u v:Nat→Int}
structure EJ(c:Nat->Nat->Int)(d e:Nat->Int)(n m:Nat)(u v:Nat->Int):Prop where
 c:∀ i,i<n->∀ j,j<m->u i+v j<=c i j
 d:∀ i,i<n->u i<=d i
 e:∀ j,j<m->v j<=e j
theorem rB(h:EJ c d e n m u v)(p:bF n m P):sg n u+sg m v<=cost c d e n m P:=by
 rw[fJ p];have J:=pd p (fun j=>v j-e j);have z:sg m (fun j=>v j-e j)<=sg m (fun j=>if used P n j then v j-e j else 0):=BS fun j I=>by
  have:=h.e j I;split<;>omega
 rw[Du] at z;have q:sg n (fun i=>u i+if P i<m then v (P i)-e (P i) else 0)<=ic (wt c d e m) n P:=BS fun i hi=>by
  show _<=wt c d e m i (P i)
  unfold wt;split
  ·rename_i F;have:=h.c i hi _ F;omega
  ·have:=h.d i hi;omega
 rw[tO] at q;omega
def jr(c:Nat->Nat->Int)(n i:Nat):Nat->Nat->Int:=fun r=>if r=n then c i else c r
def jv(d:Nat->Int)(n i:Nat):Nat->Int:=fun r=>if r=n then d i else d r
theorem Dx(hi:i<n)(k:Nat):wt (jr c n i) (jv d n i) e m n k=wt (jr c n i) (jv d n i) e m i k:=by
 have:i≠n:=by omega
 simp[wt,jr,jv,this]
theorem yO(hr:r<n)(k:Nat):wt (jr c n i) (jv d n i) e m r k=wt c d e m r k:=by
 have:r≠n:=by omega
 simp[wt,jr,jv,this]
theorem nG(i:Nat)(P:Nat->Nat):ic (wt (jr c n i) (jv d n i) e m) n P=ic (wt c d e m) n P:=bJ fun r hr=>yO hr _
theorem EJ.dup(h:EJ c d e n m u v)(hi:i<n):EJ (jr c n i) (jv d n i) e (n+1) m (fun r=>if r=n then u i else u r) v:=by
 refine⟨fun r q j p=>?_,fun r q=>?_,h.e⟩
 ·by_cases e:r=n
  ·simp only[jr,if_pos e];exact h.c i hi j p
  ·simp only[jr,if_neg e];exact h.c r ff j p
 ·by_cases e:r=n
  ·simp only[jv,if_pos e];exact h.d i hi
  ·simp only[jv,if_neg e];exact h.d r ff
def put(P:Nat->Nat)(n k:Nat):Nat->Nat:=fun r=>if r=n then k else P r
theorem yP(h:bF n m P)(z:k<=m)(q:k<m->used P n k=false):bF (n+1) m (put P n k):=by
 refine⟨fun i hi=>?_,fun i j hi I p hm=>?_⟩
 ·unfold put;split;exact z;exact h.le i ff
 ·by_cases F:i=n<;>by_cases e2:j=n<;>simp only[put,F,e2,if_true,if_false] at p hm
  ·omega
  ·exact absurd p.symm (oo.1 (q hm) j ff)
  ·exact absurd p (oo.1 (q ff) i ff)
  ·exact h.inj i j ff ff p hm
theorem Dy(w:Nat->Nat->Int)(k:Nat):ic w (n+1) (put P n k)=ic w n P+w n k:=by
 unfold ic;rw[dN,bJ (g:=fun i=>w i (P i)) (fun i hi=>by(have:i≠n:=by omega);simp[put,this])];simp[put]
def cut(P:Nat->Nat)(n i:Nat):Nat->Nat:=fun r=>if r=i then P n else P r
theorem Dz(hi:i<n)(h:bF (n+1) m P):bF n m (cut P n i):=by
 refine⟨fun r z=>?_,fun a b F I p hm=>?_⟩
 ·unfold cut;split;exact h.le n ff;exact h.le r ff
 ·by_cases q:a=i<;>by_cases e2:b=i<;>simp only[cut,q,e2,if_true,if_false] at p hm
  ·omega
  ·have:=h.inj n b ff ff p hm;omega
  ·have:=h.inj a n ff ff p hm;omega
  ·exact h.inj a b ff ff p hm
theorem DC(hi:i<n)(hw:∀ k,w n k=w i k):ic w n (cut P n i)+w i (P i)=ic w (n+1) P:=by
 unfold ic;rw[dN,Dw (g:=fun r=>w r (P r)) hi (fun r hr hne=>by simp[cut,hne])];simp[cut,hw];omega
theorem IL(hi:i<n)(h:bF (n+1) m P)(hp:P i<m):used (cut P n i) n (P i)=false:=oo.2 fun r hr he=>by
 by_cases e:r=i
 ·simp only[cut,if_pos e] at he;have:=h.inj n i ff ff he ff;omega
 ·simp only[cut,if_neg e] at he;have:=h.inj r i ff ff he ff;omega
structure eG(c:Nat->Nat->Int)(d e:Nat->Int)(n m:Nat)(v:Int)(U V:Nat->Int):Prop where
 opt:IE c d e n m v
 more:∀ i,i<n->IE (jr c n i) (jv d n i) e (n+1) m (U i+v)
 ve:∀ j,j<m->V j<=e j
 vc:∀ j,j<m->∀ i,i<n->V j<=c i j-U i
 vis:∀ j,j<m->V j=e j\/∃ i,i<n/\V j=c i j-U i
theorem eG.V3(h:eG c d e n m z U V):EJ c d e n m U V:=by
 refine⟨fun i hi j F=>by have:=h.vc j F i hi;omega,fun i hi=>?_,h.ve⟩;obtain⟨P,p,I⟩:=h.opt.has;have q:=(h.more i hi).low (put P n m) (yP p (YG _) (fun h=>by omega));rw[fJ (yP p (YG _) (fun h=>by omega)),Dy,nG] at q;rw[fJ p] at I;have:wt (jr c n i) (jv d n i) e m n m=d i:=by simp[wt,jv]
 omega
theorem eG.at{q:Int}(h:eG c d e n m q U V){P:Nat->Nat}(I:bF n m P)(M:cost c d e n m P=q)(hi:i<n):
  ∃ R,bF (n+1) m R/\R i=P i/\sg m e+ic (wt (jr c n i) (jv d n i) e m) (n+1) R=U i+q:=by
 obtain⟨Q,z,hq⟩:=(h.more i hi).has;rw[fJ z] at hq
 obtain⟨R,p,h2,h3⟩:=Yf (w:=wt (jr c n i) (jv d n i) e m) hi (fun k _=>Dx hi k) I z (fun R F=>by
  rw[nG,nG];have:=h.opt.low R F;rw[fJ F] at this;rw[fJ I] at M
  omega)
 have J:=(h.more i hi).low R p;rw[fJ p] at J;exact⟨R,p,h2,by omega⟩
theorem eG.Xx(h:eG c d e n m v0 U V){P:Nat->Nat}(M:bF n m P)(hv:cost c d e n m P=v0):
  (∀ i,i<n->P i<m->U i+V (P i)=c i (P i))/\(∀ i,i<n->P i=m->U i=d i)/\∀ j,j<m->used P n j=false->V j=e j:=by
 have hF:=h.V3;have ab:=hv;rw[fJ M] at ab;refine⟨fun i hi q=>?_,fun i hi q=>?_,fun j F hu=>?_⟩
 ·obtain⟨R,I,J,h3⟩:=h.at M hv hi;have z:=Dz hi I;have e1:=DC (P:=R) (w:=wt (jr c n i) (jv d n i) e m) hi (fun k=>Dx hi k);have e2:wt (jr c n i) (jv d n i) e m i (R i)=c i (P i)-e (P i):=by rw[yO hi,J,wt,if_pos q]
  rw[nG] at e1;have aa:used (cut R n i) n (P i)=false:=J ▸ IL hi I ff
  -- the column is free without row i
  have ac:=hF.c i hi _ q;rcases h.vis _ q with hV|⟨i',hi',hV⟩
  ·have:=h.opt.low _ z;rw[fJ z] at this;omega
  ·have p:=yP z (rk q) (fun _=>aa);have:=(h.more i' hi').low _ p;rw[fJ p,Dy,nG] at this;have e3:wt (jr c n i') (jv d n i') e m n (P i)=c i' (P i)-e (P i):=by simp[wt,jr,q]
   omega
 ·obtain⟨R,I,J,h3⟩:=h.at M hv hi;have z:=Dz hi I;have e1:=DC (P:=R) (w:=wt (jr c n i) (jv d n i) e m) hi (fun k=>Dx hi k);have e2:wt (jr c n i) (jv d n i) e m i (R i)=d i:=by rw[yO hi,J,wt,if_neg ff]
  rw[nG] at e1;have:=h.opt.low _ z;rw[fJ z] at this;have:=hF.d i hi;omega
 ·rcases h.vis j F with hV|⟨i,hi,hV⟩
  ·exact hV
  ·have p:=yP M (rk F) (fun _=>hu);have:=(h.more i hi).low _ p;rw[fJ p,Dy,nG] at this;have e3:wt (jr c n i) (jv d n i) e m n j=c i j-e j:=by simp[wt,jr,F]
   have:=h.ve j F;omega
theorem eG.sum(h:eG c d e n m z U V):sg n U+sg m V=z:=by
 obtain⟨P,p,q⟩:=h.opt.has;obtain⟨M,h2,J⟩:=h.Xx p q;have e1:=pd p (fun j=>V j-e j);have e2:sg m (fun j=>if used P n j then V j-e j else 0)=sg m (fun j=>V j-e j):=bJ fun j I=>by
  cases hu:used P n j
  ·have:=J j I hu;simp;omega
  ·simp
 have e3:sg n (fun i=>U i+if P i<m then V (P i)-e (P i) else 0)=ic (wt c d e m) n P:=bJ fun i hi=>by
  show _=wt c d e m i (P i)
  unfold wt;split
  ·rename_i F;have:=M i hi F;omega
  ·have:=h2 i hi (by have:=p.le i hi;omega);omega
 rw[tO] at e3;rw[Du] at e2;rw[fJ p] at q;omega
theorem eG.gh{p:Int}(h:eG c d e n m p U V){u v:Nat->Int}(q:EJ c d e n m u v)(I:sg n u+sg m v=p)(hi:i<n):u i<=U i:=by
 obtain⟨P,z,J⟩:=(h.more i hi).has;have:=rB (q.dup hi) z;rw[dN,bJ (g:=u) (fun r F=>by(have:r≠n:=by omega);simp[this])] at this;simp at this;omega
theorem IE.rB(h:IE c d e n m v0){u v:Nat->Int}(hF:EJ c d e n m u v):sg n u+sg m v<=v0:=by
 obtain⟨P,hP,hv⟩:=h.has;rw[<-hv];exact bF.rB hF hP
theorem eG.low{M:Int}{E:Int}(h:eG c d e n m M U V)(F:∀ i,i<n->∀ j,j<m->0<=c i j)(hd:∀ i,i<n->0<=d i)(J:∀ j,j<m->0<=e j/\e j<=E)(hE:0<=E)(hi:i<n): -E<=U i:=by
 obtain⟨Q,p,hq⟩:=(h.more i hi).has;rw[fJ p] at hq;have z:=Dz hi p;have I:=DC (P:=Q) (w:=wt (jr c n i) (jv d n i) e m) hi (fun k=>Dx hi k);rw[nG,yO hi] at I;have:=h.opt.low _ z;rw[fJ z] at this;have h5 : -E<=wt c d e m i (Q i):=by
  unfold wt;split
  ·rename_i q;have:=F i hi _ q;have:=J _ q;omega
  ·have:=hd i hi;omega
 omega
end
def sZ(U:Nat->Bool)(f:Nat->Int)(a:Int):Nat->Int
 | 0=>a
 | j+1=>if U j then sZ U f a j else min (sZ U f a j) (f j)
section
variable{U:Nat→Bool}{f:Nat→Int}{a:Int}{m:Nat}
theorem qH:sZ U f a m<=a:=by
 induction m with
 | zero=>exact ZB _
 | succ m ih=>unfold sZ;split;exact ih;omega
theorem OY(hj:j<m)(hu:U j=false):sZ U f a m<=f j:=by
 induction m with
 | zero=>omega
 | succ m ih=>
  unfold sZ;by_cases e:j=m
  ·subst e;rw[hu];simp;omega
  ·split
   ·exact ih ff
   ·have:=ih ff;omega
theorem zo:sZ U f a m=a\/∃ j,j<m/\U j=false/\sZ U f a m=f j:=by
 induction m with
 | zero=>exact .inl rfl
 | succ m ih=>
  unfold sZ;by_cases p:U m=true
  ·rw[if_pos p];rcases ih with h|⟨j,h1,h2,h3⟩
   ·exact .inl h
   ·exact .inr ⟨j,by omega,h2,h3⟩
  ·rw[if_neg p];by_cases hm:sZ U f a m<=f m
   ·rw[Int.min_eq_left hm];rcases ih with h|⟨j,h1,h2,h3⟩
    ·exact .inl h
    ·exact .inr ⟨j,by omega,h2,h3⟩
   ·rw[Int.min_eq_right ff];exact .inr ⟨m,by omega,by simpa using p,rfl⟩
theorem BU{g:Nat->Int}{V:Nat->Bool}(h:∀ j,j<m->f j=g j)(hu:∀ j,j<m->U j=V j):sZ U f a m=sZ V g a m:=by
 induction m with
 | zero=>rfl
 | succ m ih=>
  unfold sZ;rw[ih (fun j hj=>h j ff) (fun j hj=>hu j ff),h m ff,hu m ff]
end
def ins(U:Nat->Bool)(j:Nat):Nat->Bool:=fun x=>U x||x==j
def wI:Nat->Bool:=fun _=>false
def L(c:Nat->Nat->Int)(d e:Nat->Int)(n m:Nat):Nat->(Nat->Bool)->Int
 | 0,U=>sg m (fun j=>if U j then 0 else e j)
 | k+1,U=>sZ U (fun j=>c (n-(k+1)) j+L c d e n m k (ins U j)) (d (n-(k+1))+L c d e n m k U) m
def cs(c:Nat->Nat->Int)(d e:Nat->Int)(m:Nat):Nat->(Nat->Bool)->List Int->Option Int
 | _,U,[]=>some (sg m (fun j=>if U j then 0 else e j))
 | i,U,p::ps=>if p<0\/(m:Int)<p\/(p<m/\U p.toNat=true) then none
  else if p=m then(cs c d e m (i+1) U ps).map (d i + ·) else(cs c d e m (i+1) (ins U p.toNat) ps).map (c i p.toNat + ·)
def gr(c:Nat->Nat->Int)(d e:Nat->Int)(n m:Nat):Nat->(Nat->Bool)->List Int
 | 0,_=>[]
 | k+1,U=>match (List.range m).find? (fun j=>!U j&&decide (c (n-(k+1)) j+L c d e n m k (ins U j)=L c d e n m (k+1) U)) with
  | some j=>(j:Int)::gr c d e n m k (ins U j)
  | none=>(m:Int)::gr c d e n m k U
def before:List Int->List Int->Bool
 | a::xs,b::ys=>if a=b then before xs ys else decide (a<b)
 | _,_=>false
section
variable{c:Nat→Nat→Int}{d e:Nat→Int}{n m:Nat}
theorem IQ(k:Nat)(U:Nat->Bool):(gr c d e n m k U).length=k:=by
 induction k generalizing U with
 | zero=>rfl
 | succ k ih=>unfold gr;split<;>simp[ih]
variable{p U:Nat->Bool}{ps:List Int}{v:Int}
theorem jF(h:(List.range m).find? p=some j):j<m/\p j=true/\∀ i,i<j->p i=false:=by
 rw[tA] at h;obtain⟨h1,h2,h3⟩:=h;exact⟨List.mem_range.1 h2,h1,fun i hi=>by simpa using h3 i hi⟩
theorem tQ(h:(List.range m).find? p=none):∀ i,i<m->p i=false:=by
 rw[nh] at h;exact fun i hi=>by simpa using h i (List.mem_range.2 hi)
theorem V4(V:k<=n)(q:ps.length=k)(h:cs c d e m (n-k) U ps=some v):L c d e n m k U<=v:=by
 induction k generalizing U ps v with
 | zero=>
  obtain rfl:=List.length_eq_zero_iff.1 q;simp only[cs,Option.some.injEq] at h;rw[<-h];exact ZB _
 | succ k ih=>
  cases ps with
  | nil=>simp at q
  | cons p ps=>
   simp only[cs] at h;split at h
   ·cases h
   ·rename_i F;have F:0<=p/\p<=m/\(p<m->U p.toNat=false):=by
     refine⟨by omega,by omega,fun h=>?_⟩;cases M:U p.toNat
     ·rfl
     ·exact absurd (.inr (.inr ⟨h,M⟩)) F
    have J:n-(k+1)+1=n-k:=by omega
    rw[J] at h;split at h
    ·obtain⟨u,z,rfl⟩:=Option.map_eq_some_iff.1 h;have:=ih ff (by simpa using q) z;have I:=qH (U:=U) (f:=fun j=>c (n-(k+1)) j+L c d e n m k (ins U j)) (a:=d (n-(k+1))+L c d e n m k U) (m:=m)
     show sZ _ _ _ _<=_
     omega
    ·obtain⟨u,z,rfl⟩:=Option.map_eq_some_iff.1 h;have:=ih ff (by simpa using q) z;have I:=OY (U:=U) (f:=fun j=>c (n-(k+1)) j+L c d e n m k (ins U j)) (a:=d (n-(k+1))+L c d e n m k U) (m:=m) (j:=p.toNat) ff (F.2.2 ff)
     show sZ _ _ _ _<=_
     omega
theorem Vy(I:k<=n)(U:Nat->Bool):cs c d e m (n-k) U (gr c d e n m k U)=some (L c d e n m k U):=by
 induction k generalizing U with
 | zero=>rfl
 | succ k ih=>
  have z:n-(k+1)+1=n-k:=by omega
  unfold gr;split
  ·rename_i j F;obtain⟨q,p,-⟩:=jF F;simp only[YF,Z4,decide_eq_true_eq] at p;simp only[cs];rw[if_neg (by rintro (h|h|⟨-,h⟩);omega;omega;rw[ZL,p.1] at h;cases h),if_neg ff,z,ZL,ih ff,km];exact congrArg some p.2
  ·rename_i hn;have q:=tQ hn;simp only[cs];rw[if_neg (by rintro (h|h|⟨h,-⟩)<;>omega)];simp only[if_true];rw[z,ih ff,km];refine congrArg some ?_;rcases zo (U:=U) (f:=fun j=>c (n-(k+1)) j+L c d e n m k (ins U j)) (a:=d (n-(k+1))+L c d e n m k U) (m:=m) with h|⟨j,g1,g2,g3⟩
   ·exact h.symm
   ·have:=q j g1;rw[g2] at this;simp only[td,ZI,decide_eq_false_iff_not] at this;exact absurd g3.symm this
theorem IU(P:Nat->Nat)(n j:Nat):used P (n+1) j=(P 0==j||used (fun i=>P (i+1)) n j):=by
 rw[ZH];simp only[ZQ,beq_iff_eq,oh];constructor
 ·rintro⟨i,q,p⟩;cases i with
  | zero=>exact .inl p
  | succ i=>exact .inr ⟨i,by omega,p⟩
 ·rintro (h|⟨i,q,p⟩)
  ·exact⟨0,by omega,h⟩
  ·exact⟨i+1,by omega,p⟩
structure IV(k m:Nat)(U:Nat->Bool)(P:Nat->Nat):Prop where
 asg:bF k m P
 free:∀ i,i<k->P i<m->U (P i)=false
def uO(c:Nat->Nat->Int)(d e:Nat->Int)(m i k:Nat)(U:Nat->Bool)(P:Nat->Nat):Int:=
 sg k (fun r=>if P r<m then c (i+r) (P r) else d (i+r))+sg m (fun j=>if U j||used P k j then 0 else e j)
def lp(ps:List Int):Nat->Nat:=fun r=>(ps.getD r 0).toNat
theorem qI:uO c d e m i (k+1) U P=(if P 0<m then c i (P 0) else d i)+uO c d e m (i+1) k (if P 0<m then ins U (P 0) else U) (fun r=>P (r+1)):=by
 unfold uO;rw[zn,tg];have p:sg k (fun r=>if P (r+1)<m then c (i+(r+1)) (P (r+1)) else d (i+(r+1)))=sg k (fun r=>if P (r+1)<m then c (i+1+r) (P (r+1)) else d (i+1+r)):=bJ fun r _=>by
  have:i+(r+1)=i+1+r:=by omega
  rw[this]
 have e2:sg m (fun j=>if U j||used P (k+1) j then 0 else e j)=sg m (fun j=>if(if P 0<m then ins U (P 0) else U) j||used (fun r=>P (r+1)) k j then 0 else e j):=bJ fun j q=>by
  rw[IU];by_cases h:P 0<m
  ·rw[if_pos h];unfold ins;have:(P 0==j)=(j==P 0):=by rw[ZH];simp;omega
   rw[this,Bool.or_assoc]
  ·rw[if_neg h];have:(P 0==j)=false:=by simp;omega
   rw[this,ki]
 rw[p,e2];simp
theorem zq(I:P 0<=m)(J:P 0<m->U (P 0)=false)(h:IV k m (if P 0<m then ins U (P 0) else U) (fun r=>P (r+1))):IV (k+1) m U P:=by
 have z:∀ i,i<k->P (i+1)<m->U (P (i+1))=false/\(P 0<m->P (i+1)≠P 0):=by
  intro i hi p;have:=h.free i hi p;by_cases q:P 0<m
  ·rw[if_pos q] at this;simp only[ins,Bool.or_eq_false_iff,beq_eq_false_iff_ne] at this;exact⟨this.1,fun _=>this.2⟩
  ·rw[if_neg q] at this;exact⟨this,fun h=>absurd h q⟩
 refine⟨⟨fun i hi=>?_,fun i j hi M F hm=>?_⟩,fun i hi p=>?_⟩
 ·cases i with
  | zero=>exact I
  | succ i=>exact h.asg.le i ff
 ·cases i with
  | zero=>
   cases j with
   | zero=>rfl
   | succ j=>exact absurd F.symm ((z j ff ff).2 hm)
  | succ i=>
   cases j with
   | zero=>exact absurd F ((z i ff hm).2 ff)
   | succ j=>have:=h.asg.inj i j ff ff F hm;omega
 ·cases i with
  | zero=>exact J p
  | succ i=>exact(z i ff p).1
theorem MZ(h:IV (k+1) m U P):IV k m (if P 0<m then ins U (P 0) else U) (fun r=>P (r+1)):=by
 refine⟨⟨fun i hi=>h.asg.le _ ff,fun i j hi I p hm=>by have:=h.asg.inj (i+1) (j+1) ff ff p hm;omega⟩,fun i hi F=>?_⟩;have z:=h.free (i+1) ff F;by_cases q:P 0<m
 ·rw[if_pos q];simp only[ins,z,ki,beq_eq_false_iff_ne];intro p;have:=h.asg.inj (i+1) 0 ff ff p F;omega
 ·rw[if_neg q];exact z
theorem yQ(h:cs c d e m i U ps=some v):IV ps.length m U (lp ps)/\v=uO c d e m i ps.length U (lp ps)/\∀ p ∈ ps,0<=p/\p<=m:=by
 induction ps generalizing i U v with
 | nil=>
  simp only[cs,Option.some.injEq] at h;refine⟨⟨⟨fun i hi=>by simp at hi,fun i j hi=>by simp at hi⟩,fun i hi=>by simp at hi⟩,?_,fun p z=>by simp at z⟩;rw[<-h];unfold uO;simp[sg,used]
 | cons p ps ih=>
  simp only[cs] at h;split at h
  ·cases h
  rename_i z;have z:0<=p/\p<=m/\(p<m->U p.toNat=false):=by
   refine⟨by omega,by omega,fun h=>?_⟩;cases hU:U p.toNat
   ·rfl
   ·exact absurd (.inr (.inr ⟨h,hU⟩)) z
  have F:lp (p::ps) 0=p.toNat:=rfl;have I:(fun r=>lp (p::ps) (r+1))=lp ps:=rfl;have hm:∀ q ∈ ps,0<=q/\q<=m->True:=fun _ _ _=>trivial;split at h
  ·rename_i M;obtain⟨u,h1,rfl⟩:=Option.map_eq_some_iff.1 h;obtain⟨g1,V,J⟩:=ih h1;have hn:¬ lp (p::ps) 0<m:=by rw[F];omega
   refine⟨zq (by rw[F];omega) (fun h=>absurd h hn) (by rw[if_neg hn,I];exact g1),?_,?_⟩
   ·rw[YR,qI,if_neg hn,if_neg hn,I,<-V]
   ·intro q hq;rcases List.mem_cons.1 hq with rfl|hq;exact⟨z.1,z.2.1⟩;exact J q hq
  ·rename_i M;obtain⟨u,h1,rfl⟩:=Option.map_eq_some_iff.1 h;obtain⟨g1,V,J⟩:=ih h1;have hn:lp (p::ps) 0<m:=by rw[F];omega
   refine⟨zq (by rw[F];omega) (fun h=>by rw[F];exact z.2.2 ff) (by rw[if_pos hn,I,F];exact g1),?_,?_⟩
   ·rw[YR,qI,if_pos hn,if_pos hn,I,F,<-V]
   ·intro q hq;rcases List.mem_cons.1 hq with rfl|hq;exact⟨z.1,z.2.1⟩;exact J q hq
def pl(P:Nat->Nat)(k:Nat):List Int:=(List.range k).map (fun i=>(P i:Int))
theorem OZ(P:Nat->Nat)(k:Nat):(pl P k).length=k:=by simp[pl]
theorem EK(P:Nat->Nat)(k:Nat):pl P (k+1)=(P 0:Int)::pl (fun r=>P (r+1)) k:=by
 unfold pl;rw[List.range_succ_eq_map];simp
theorem Vz(h:IV k m U P):cs c d e m i U (pl P k)=some (uO c d e m i k U P):=by
 induction k generalizing i U P with
 | zero=>simp[pl,cs,uO,sg,used]
 | succ k ih=>
  have q:=ih (i:=i+1) (MZ h);have F:=h.asg.le 0 ff;rw[EK,qI];simp only[cs];by_cases p:P 0<m
  ·have z:=h.free 0 ff p;rw[if_pos p] at q;rw[if_neg (by rintro (h|h|⟨-,h⟩);omega;omega;rw[ZL,z] at h;cases h),if_neg ff,ZL,if_pos p,if_pos p,q,km]
  ·rw[if_neg p] at q;rw[if_neg (by rintro (h|h|⟨h,-⟩)<;>omega),if_pos ff,if_neg p,if_neg p,q,km]
theorem kH(P:Nat->Nat):uO c d e m 0 n wI P=cost c d e n m P:=by
 unfold uO cost wI;simp
theorem Ko(h:bF n m P):IV n m wI P:=⟨h,fun _ _ _=>rfl⟩
theorem O0:IE c d e n m (L c d e n m n wI):=by
 constructor
 ·have h:=Vy (c:=c) (d:=d) (e:=e) (n:=n) (m:=m) (YG n) wI;rw[ZF] at h;obtain⟨q,p,-⟩:=yQ h;rw[IQ] at q p;exact⟨_,q.asg,by rw[p,kH]⟩
 ·intro P z;have h:=Vz (c:=c) (d:=d) (e:=e) (i:=0) (Ko z);rw[kH] at h;exact V4 (YG n) (OZ P n) (by rw[ZF];exact h)
end
def Tt(e:Nat->Int)(m:Nat):Nat->Int
 | 0=>0
 | b+1=>e (m-(b+1))+Tt e m b
def Xr(c:Nat->Nat->Int)(d e:Nat->Int)(m i:Nat)(f:Nat->Int):Nat->Int
 | 0=>d i+f 0
 | b+1=>min (min (d i+f (b+1)) (e (m-(b+1))+Xr c d e m i f b)) (c i (m-(b+1))+f b)
def GR(c:Nat->Nat->Int)(d e:Nat->Int)(n m:Nat):Nat->Nat->Int
 | 0=>Tt e m
 | a+1=>Xr c d e m (n-(a+1)) (GR c d e n m a)
def uL(c:Nat->Nat->Int)(d e:Nat->Int)(n m:Nat):Nat->Nat->List Int
 | 0,_=>[]
 | a+1,b=>match (List.range b).find? (fun t=>decide (sg t (fun x=>e (m-b+x))+c (n-(a+1)) (m-b+t)+GR c d e n m a (b-(t+1))=GR c d e n m (a+1) b)) with
  | some t=>((m-b+t:Nat):Int)::uL c d e n m a (b-(t+1))
  | none=>(m:Int)::uL c d e n m a b
def keeps(m:Nat):Int->List Int->Bool
 | _,[]=>true
 | l,p::ps=>if p=m then keeps m l ps else if p<=l then false else keeps m p ps
def IW(c:Nat->Nat->Int)(d e:Nat->Int)(m:Nat):Nat->Nat->List Int->Option Int
 | _,f,[]=>some (sg (m-f) (fun x=>e (f+x)))
 | i,f,p::ps=>if p=m then(IW c d e m (i+1) f ps).map (d i + ·)
  else if p<f\/(m:Int)<p then none else(IW c d e m (i+1) (p.toNat+1) ps).map (sg (p.toNat-f) (fun x=>e (f+x))+c i p.toNat + ·)
section
variable{c:Nat→Nat→Int}{d e:Nat→Int}{n m:Nat}
theorem O1(a b:Nat):GR c d e n m (a+1) b<=d (n-(a+1))+GR c d e n m a b:=by
 cases b with
 | zero=>exact ZB _
 | succ b=>show min (min _ _) _<=_;omega
theorem O3(a b:Nat):GR c d e n m a (b+1)<=e (m-(b+1))+GR c d e n m a b:=by
 cases a with
 | zero=>exact ZB _
 | succ a=>show min (min _ _) _<=_;exact oS (Int.min_le_left _ _) (sn _ _)
theorem Tv(a b:Nat):GR c d e n m (a+1) (b+1)<=c (n-(a+1)) (m-(b+1))+GR c d e n m a b:=sn _ _
variable{b a f:Nat}{ps:List Int}{v l:Int}
theorem wJ{t:Nat}(hb:b+1<=m):sg (t+1) (fun x=>e (m-(b+1)+x))=e (m-(b+1))+sg t (fun x=>e (m-b+x)):=by
 rw[zn];congr 1;exact bJ fun i _=>by congr 1;omega
theorem Tw(a:Nat){t:Nat}(p:b<=m)(F:t<b):GR c d e n m (a+1) b<=sg t (fun x=>e (m-b+x))+c (n-(a+1)) (m-b+t)+GR c d e n m a (b-(t+1)):=by
 induction b generalizing t with
 | zero=>omega
 | succ b ih=>
  cases t with
  | zero=>have:=Tv (c:=c) (d:=d) (e:=e) (n:=n) (m:=m) a b;simp only[sg,ZM,kj];exact this
  | succ t=>
   rw[wJ p];have z:=ih (t:=t) ff ff;have q:=O3 (c:=c) (d:=d) (e:=e) (n:=n) (m:=m) (a+1) b;have h:m-(b+1)+(t+1)=m-b+t:=by omega
   have e2:b+1-(t+1+1)=b-(t+1):=by omega
   rw[h,e2];omega
theorem Xy(a:Nat)(z:b<=m):GR c d e n m (a+1) b=d (n-(a+1))+GR c d e n m a b\/∃ t,t<b/\sg t (fun x=>e (m-b+x))+c (n-(a+1)) (m-b+t)+GR c d e n m a (b-(t+1))=GR c d e n m (a+1) b:=by
 induction b with
 | zero=>exact .inl rfl
 | succ b ih=>
  have F:GR c d e n m (a+1) (b+1)=min (min (d (n-(a+1))+GR c d e n m a (b+1)) (e (m-(b+1))+GR c d e n m (a+1) b)) (c (n-(a+1)) (m-(b+1))+GR c d e n m a b):=rfl;have I:=O1 (c:=c) (d:=d) (e:=e) (n:=n) (m:=m) a (b+1);by_cases h:GR c d e n m (a+1) (b+1)=c (n-(a+1)) (m-(b+1))+GR c d e n m a b
  ·refine .inr ⟨0,by omega,?_⟩;simp only[sg,ZM,kj];exact h.symm
  ·by_cases p:GR c d e n m (a+1) (b+1)=d (n-(a+1))+GR c d e n m a (b+1)
   ·exact .inl p
   ·have J:GR c d e n m (a+1) (b+1)=e (m-(b+1))+GR c d e n m (a+1) b:=by omega
    rcases ih ff with g|⟨t,g1,g2⟩
    ·have:=O3 (c:=c) (d:=d) (e:=e) (n:=n) (m:=m) a b;omega
    ·refine .inr ⟨t+1,by omega,?_⟩;have q:m-(b+1)+(t+1)=m-b+t:=by omega
     have e2:b+1-(t+1+1)=b-(t+1):=by omega
     rw[wJ z,q,e2];omega
theorem Kr(hb:b<=m):Tt e m b=sg b (fun x=>e (m-b+x)):=by
 induction b with
 | zero=>rfl
 | succ b ih=>rw[wJ hb,Tt,ih ff]
theorem DF(a b:Nat):(uL c d e n m a b).length=a:=by
 induction a generalizing b with
 | zero=>rfl
 | succ a ih=>unfold uL;split<;>simp[ih]
theorem Tx(ha:a<=n)(M:f<=m)(F:ps.length=a)(h:IW c d e m (n-a) f ps=some v):GR c d e n m a (m-f)<=v:=by
 induction a generalizing f ps v with
 | zero=>
  obtain rfl:=List.length_eq_zero_iff.1 F;simp only[IW,Option.some.injEq] at h
  show Tt e m (m-f)<=v
  rw[<-h,Kr ff,show m-(m-f)=f from by omega];exact ZB _
 | succ a ih=>
  cases ps with
  | nil=>simp at F
  | cons p ps=>
   have q:ps.length=a:=by simpa using F
   have J:n-(a+1)+1=n-a:=by omega
   simp only[IW,J] at h;split at h
   ·obtain⟨u,z,rfl⟩:=Option.map_eq_some_iff.1 h;have:=ih ff M q z;have:=O1 (c:=c) (d:=d) (e:=e) (n:=n) (m:=m) a (m-f);omega
   ·split at h
    ·cases h
    ·obtain⟨u,z,rfl⟩:=Option.map_eq_some_iff.1 h;have V:=ih ff ff q z;have I:=Tw (c:=c) (d:=d) (e:=e) (n:=n) (m:=m) a (b:=m-f) (t:=p.toNat-f) ff ff;rw[show m-(m-f)=f from by omega,show f+(p.toNat-f)=p.toNat from by omega,show m-f-(p.toNat-f+1)=m-(p.toNat+1) from by omega] at I;omega
theorem Kt(M:a<=n)(J:f<=m):IW c d e m (n-a) f (uL c d e n m a (m-f))=some (GR c d e n m a (m-f)):=by
 induction a generalizing f with
 | zero=>
  show some _=some (Tt e m (m-f))
  rw[Kr ff,show m-(m-f)=f from by omega]
 | succ a ih=>
  have F:n-(a+1)+1=n-a:=by omega
  unfold uL;split
  ·rename_i t I;obtain⟨z,p,-⟩:=jF I;rw[decide_eq_true_eq] at p;have e2:m-(m-f)=f:=by omega
   rw[e2] at p ⊢;have q:=ih (f:=f+t+1) ff ff;rw[show m-(f+t+1)=m-f-(t+1) from by omega] at q;simp only[IW];rw[if_neg ff,if_neg ff,F,ZL,q,km,show f+t-f=t from by omega];exact congrArg some p
  ·rename_i hn;have z:=tQ hn;simp only[IW];simp only[if_true];rw[F,ih ff J,km];refine congrArg some ?_;rcases Xy (c:=c) (d:=d) (e:=e) (n:=n) (m:=m) a (b:=m-f) ff with h|⟨t,g1,g2⟩
   ·exact h.symm
   ·have:=z t g1;rw[decide_eq_false_iff_not] at this;exact absurd g2 this
theorem BX(h:IW c d e m i f ps=some v):keeps m ((f:Int)-1) ps=true:=by
 induction ps generalizing i f v with
 | nil=>rfl
 | cons p ps ih=>
  simp only[IW] at h;unfold keeps;split at h
  ·rename_i z;obtain⟨u,q,-⟩:=Option.map_eq_some_iff.1 h;rw[if_pos z];exact ih q
  ·rename_i z;split at h
   ·cases h
   ·obtain⟨u,q,-⟩:=Option.map_eq_some_iff.1 h;rw[if_neg z,if_neg ff];have:=ih q;rw[show((p.toNat+1:Nat):Int)-1=p from by omega] at this;exact this
theorem V5{U:Nat->Bool}(z:∀ j,f<=j->j<m->U j=false)(M:f<=m)(h:keeps m ((f:Int)-1) ps=true):cs c d e m i U ps=(IW c d e m i f ps).map (sg f (fun j=>if U j then 0 else e j) + ·):=by
 induction ps generalizing i f U with
 | nil=>
  simp only[cs,IW,km,Option.some.injEq];have F:m=f+(m-f):=by omega
  have e2:=IK (n:=f) (k:=m-f) (f:=fun j=>if U j=true then 0 else e j);rw[<-F] at e2;rw[e2];congr 1;exact bJ fun t ht=>by rw[z (f+t) ff ff];simp
 | cons p ps ih=>
  simp only[cs,IW];unfold keeps at h;by_cases q:p=m
  ·rw[if_pos q] at h;rw[if_neg ff,if_pos q,if_pos q,ih z M h,kp,kp];congr 1;funext x;simp only[Function.comp];omega
  ·rw[if_neg q] at h;split at h
   ·cases h
   rename_i J;rw[if_neg q,if_neg q];by_cases hm:(m:Int)<p
   ·rw[if_pos ff,if_pos ff];rfl
   ·have hk:keeps m (((p.toNat+1:Nat):Int)-1) ps=true:=by
     rw[show((p.toNat+1:Nat):Int)-1=p from by omega];exact h
    rw[if_neg (by rintro (h|h|⟨_,h⟩);omega;omega;rw[z p.toNat ff ff] at h;cases h),if_neg ff];rw[ih (f:=p.toNat+1) (U:=ins U p.toNat) (fun j h1 h2=>by simp only[ins,z j ff h2,ki,beq_eq_false_iff_ne];omega) ff hk,kp,kp];congr 1;funext x;simp only[Function.comp];have F:sg (p.toNat+1) (fun j=>if ins U p.toNat j then 0 else e j)=sg f (fun j=>if U j then 0 else e j)+sg (p.toNat-f) (fun x=>e (f+x)):=by
     rw[dN];have V:ins U p.toNat p.toNat=true:=by simp[ins]
     rw[V];have e2:p.toNat=f+(p.toNat-f):=by omega
     have I:=IK (n:=f) (k:=p.toNat-f) (f:=fun j=>if ins U p.toNat j=true then 0 else e j);rw[<-e2] at I;rw[I];simp only[if_true,lh];congr 1
     ·exact bJ fun j hj=>by
       have:(j==p.toNat)=false:=by simp;omega
       simp only[ins,this,re]
     ·exact bJ fun t ht=>by
       have:(f+t==p.toNat)=false:=by simp;omega
       simp only[ins,this,re,z (f+t) ff ff];simp
    omega
theorem DI(h:keeps m (-1) ps=true):cs c d e m 0 wI ps=IW c d e m 0 0 ps:=by
 have:=V5 (c:=c) (d:=d) (e:=e) (i:=0) (f:=0) (U:=wI) (fun _ _ _=>rfl) (YE m) (ps:=ps) (by simpa using h);rw[this];cases IW c d e m 0 0 ps<;>simp[sg]
def zu(n m:Nat)(P:Nat->Nat):Prop:=∀ i j,i<j->j<n->P i<m->P j<m->P i<P j
theorem O4(h:keeps m l ps=true):(∀ i (hi:i<ps.length),ps[i]≠m->l<ps[i])/\∀ i j (J:i<j) (I:j<ps.length),ps[i]≠m->ps[j]≠m->ps[i]<ps[j]:=by
 induction ps generalizing l with
 | nil=>exact⟨fun i hi=>by simp at hi,fun i j _ I=>by simp at I⟩
 | cons p ps ih=>
  unfold keeps at h;split at h
  ·rename_i hp;obtain⟨M,V⟩:=ih h;refine⟨fun i hi z=>?_,fun i j J I q F=>?_⟩
   ·cases i with
    | zero=>exact absurd hp z
    | succ i=>exact M i (by simpa using hi) z
   ·cases i with
    | zero=>exact absurd hp q
    | succ i=>
     cases j with
     | zero=>omega
     | succ j=>exact V i j ff (by simpa using I) q F
  ·split at h
   ·cases h
   ·rename_i hp hl;obtain⟨M,V⟩:=ih h;refine⟨fun i hi z=>?_,fun i j J I q F=>?_⟩
    ·cases i with
     | zero=>show l<p;omega
     | succ i=>have:=M i (by simpa using hi) z;show l<ps[i]'(by simpa using hi);omega
    ·cases j with
     | zero=>omega
     | succ j=>
      cases i with
      | zero=>exact M j (by simpa using I) F
      | succ i=>exact V i j ff (by simpa using I) q F
theorem zB(h:keeps m (-1) ps=true):zu ps.length m (lp ps):=by
 intro i j p q z F;obtain⟨I,J⟩:=O4 h;have M:lp ps i=(ps[i]'ff).toNat:=by simp[lp,YP,YH (show i<ps.length by omega)]
 have e2:lp ps j=(ps[j]).toNat:=by simp[lp,YP,YH q]
 have V:=I i ff;have g2:=I j q;have:=J i j p q;rw[M] at z ⊢;rw[e2] at F ⊢;omega
theorem IX{k:Nat}(h:zu k m P)(p:∀ i,i<k->P i<=m/\(P i<m->l<P i)):keeps m l (pl P k)=true:=by
 induction k generalizing P l with
 | zero=>rfl
 | succ k ih=>
  rw[EK];unfold keeps;have q:zu k m (fun r=>P (r+1)):=fun i j z J=>h (i+1) (j+1) ff ff;split
  ·exact ih q fun i hi=>p (i+1) ff
  ·rename_i I;have F:=p 0 ff;rw[if_neg ff];refine ih q fun i hi=>⟨(p (i+1) ff).1,fun hm=>?_⟩;have:=h 0 (i+1) ff ff ff hm;omega
structure M0(c:Nat->Nat->Int)(d e:Nat->Int)(n m:Nat)(v:Int):Prop where
 has:∃ P,bF n m P/\zu n m P/\cost c d e n m P=v
 low:∀ P,bF n m P->zu n m P->v<=cost c d e n m P
theorem V6:M0 c d e n m (GR c d e n m n m):=by
 constructor
 ·have h:=Kt (c:=c) (d:=d) (e:=e) (n:=n) (m:=m) (a:=n) (f:=0) (YG n) (YE m);rw[ZF,lB] at h;have p:keeps m (-1) (uL c d e n m n m)=true:=by have:=BX h;simpa using this
  rw[<-DI p] at h;obtain⟨z,q,-⟩:=yQ h;have F:=zB p;rw[DF] at z q F;exact⟨_,z.asg,F,by rw[q,kH]⟩
 ·intro P I J;have h:=Vz (c:=c) (d:=d) (e:=e) (i:=0) (Ko I);have p:keeps m (-1) (pl P n)=true:=IX J fun i hi=>⟨I.le i hi,fun _=>by omega⟩;rw[kH,DI p] at h;have:=Tx (n:=n) (a:=n) (f:=0) (YG n) (YE m) (OZ P n) (by rw[ZF];exact h);simpa using this
theorem IE.V7{u:Int}(h:IE c d e n m v)(g:M0 c d e n m u):v<=u:=by
 obtain⟨Q,g1,g1',g2⟩:=g.has;have:=h.low Q g1;omega
end
section
variable{c c':Nat→Nat→Int}{d e d' e':Nat→Int}{n m n' m':Nat}{B:Int}
variable{v:Int}{s s' t:Nat->Nat}
theorem O5{v':Int}(h:IE c d e n m v)(h':IE c' d' e' n' m' v')(f:∀ P,bF n m P->∃ P',bF n' m' P'/\cost c' d' e' n' m' P'<=cost c d e n m P+B):v'<=v+B:=by
 obtain⟨P,h1,h2⟩:=h.has;obtain⟨P',h3,h4⟩:=f P h1;have:=h'.low P' h3;omega
theorem mq(hc:∀ i,i<n->∀ j,j<m->c i j=c' i j)(hd:∀ i,i<n->d i=d' i)(he:∀ j,j<m->e j=e' j)(P:Nat->Nat):cost c d e n m P=cost c' d' e' n m P:=by
 unfold cost;congr 1
 ·exact bJ fun i hi=>by split;exact hc i hi _ (by assumption);exact hd i hi
 ·exact bJ fun j hj=>by split;rfl;exact he j hj
theorem IE.congr(hc:∀ i,i<n->∀ j,j<m->c i j=c' i j)(hd:∀ i,i<n->d i=d' i)(he:∀ j,j<m->e j=e' j)(h:IE c d e n m v):IE c' d' e' n m v:=by
 obtain⟨⟨P,h1,h2⟩,h3⟩:=h;exact⟨⟨P,h1,by rw[<-mq hc hd he];exact h2⟩,fun Q hQ=>by rw[<-mq hc hd he];exact h3 Q hQ⟩
theorem M0.congr(hc:∀ i,i<n->∀ j,j<m->c i j=c' i j)(hd:∀ i,i<n->d i=d' i)(he:∀ j,j<m->e j=e' j)(h:M0 c d e n m v):M0 c' d' e' n m v:=by
 obtain⟨⟨P,h1,h1',h2⟩,h3⟩:=h;exact⟨⟨P,h1,h1',by rw[<-mq hc hd he];exact h2⟩,fun Q hQ hM=>by rw[<-mq hc hd he];exact h3 Q hQ hM⟩
structure Inv(n:Nat)(s s':Nat->Nat):Prop where
 lt:∀ i,i<n->s i<n
 lt':∀ i,i<n->s' i<n
 l:∀ i,i<n->s' (s i)=i
 r:∀ i,i<n->s (s' i)=i
theorem Inv.flip(h:Inv n s s'):Inv n s' s:=⟨h.lt',h.lt,h.r,h.l⟩
theorem Inv.inj(h:Inv n s s'){j:Nat}(hi:i<n)(hj:j<n)(he:s i=s j):i=j:=by
 rw[<-h.l i hi,he,h.l j hj]
theorem Ku(h:Inv n s s')(f:Nat->Int):sg n (fun i=>f (s i))=sg n f:=by
 have z:bF n n s:=⟨fun i hi=>rk (h.lt i hi),fun i j hi p F _=>h.inj hi p F⟩;have q:=pd z f;rw[bJ (g:=fun i=>f (s i)) (fun i hi=>by simp[h.lt i hi]),bJ (f:=fun j=>if used s n j then f j else 0) (g:=f) (fun j p=>by rw[oh.2 ⟨s' j,h.lt' j p,h.r j p⟩];simp)] at q;exact q
def xP(m:Nat)(s t':Nat->Nat)(P:Nat->Nat):Nat->Nat:=fun i=>if P (s i)<m then t' (P (s i)) else m
theorem EL{I:Nat->Nat}(z:Inv n s s')(M:Inv m t I)(V:bF n m P):bF n m (xP m s I P):=by
 refine⟨fun i hi=>?_,fun i j hi J q hm=>?_⟩
 ·unfold xP;split
  ·rename_i h;exact rk (M.lt' _ h)
  ·exact YG _
 ·unfold xP at q hm;by_cases p:P (s i)<m<;>by_cases F:P (s j)<m<;>simp only[p,F,if_true,if_false] at q hm
  ·have:=M.flip.inj p F q;exact z.inj hi J (V.inj _ _ (z.lt i hi) (z.lt j J) this p)
  ·omega
  ·omega
  ·omega
theorem BZ{z:Nat->Nat}(F:Inv n s s')(q:Inv m t z)(J:bF n m P):cost (fun i j=>c (s i) (t j)) (fun i=>d (s i)) (fun j=>e (t j)) n m (xP m s z P)=cost c d e n m P:=by
 unfold cost;congr 1
 ·rw[<-Ku F (fun i=>if P i<m then c i (P i) else d i)];refine bJ fun i hi=>?_;unfold xP;by_cases h:P (s i)<m
  ·have:=q.lt' _ h;rw[if_pos h,if_pos this,if_pos h]
   show c (s i) (t (z (P (s i))))=_
   rw[q.r _ h]
  ·rw[if_neg h,if_neg (Zt m),if_neg h]
 ·rw[<-Ku q (fun j=>if used P n j then 0 else e j)];refine bJ fun j I=>?_;have:used (xP m s z P) n j=used P n (t j):=by
   rw[ZH,oh,oh];constructor
   ·rintro⟨i,hi,p⟩;unfold xP at p;by_cases h:P (s i)<m
    ·rw[if_pos h] at p;exact⟨s i,F.lt i hi,by rw[<-p,q.r _ h]⟩
    ·rw[if_neg h] at p;omega
   ·rintro⟨i,hi,p⟩;refine⟨s' i,F.lt' i hi,?_⟩;have:=q.lt j I;unfold xP;rw[F.r i hi,p,if_pos this,q.l j I]
  rw[this]
theorem IE.perm{M:Nat->Nat}(q:Inv n s s')(p:Inv m t M){J:Int}(h:IE c d e n m v)(I:IE (fun i j=>c (s i) (t j)) (fun i=>d (s i)) (fun j=>e (t j)) n m J):J=v:=by
 have h1:=O5 (B:=0) h I fun P z=>⟨_,EL q p z,by rw[BZ q p z];omega⟩
 have V:=O5 (B:=0) I h fun P z=>⟨_,EL q.flip p.flip z,by
  rw[<-BZ q.flip p.flip z,lh]
  exact Int.le_of_eq (mq (fun i hi j F=>by simp only[q.r i hi,p.r j F]) (fun i hi=>by simp only[q.r i hi]) (fun j F=>by simp only[p.r j F]) _)⟩
 omega
end
section
variable(c:Nat→Nat→Int)(d e:Nat→Int)(n m:Nat)
def tst(a:Nat)(U:Nat->Bool)(j:Nat):Bool:=!U j&&decide (c (n-(a+1)) j+L c d e n m a (ins U j)=L c d e n m (a+1) U)
def lJ:Int:=L c d e n m n wI
def SY:List Int:=gr c d e n m n wI
def Ca(i:Nat):Int:=L (jr c n i) (jv d n i) e (n+1) m (n+1) wI-lJ c d e n m
def Yg:List Int:=(List.range n).map (Ca c d e n m)
def Yr(j:Nat):Int:=sZ wI (fun i=>c i j-Ca c d e n m i) (e j) n
def Yh:List Int:=(List.range m).map (Yr c d e n m)
end
section
variable{c:Nat→Nat→Int}{d e:Nat→Int}{n m:Nat}
variable{p U:Nat->Bool}{a:Nat}
theorem EM(hj:j<m)(hp:p j=true)(hb:∀ t,t<j->p t=false):(List.range m).find? p=some j:=by
 rw[tA];exact⟨hp,List.mem_range.2 hj,fun t ht=>by simp[hb t ht]⟩
theorem Cb(hb:∀ t,t<m->p t=false):(List.range m).find? p=none:=by
 rw[nh];exact fun t ht=>by simp[hb t (List.mem_range.1 ht)]
theorem V8(q:j<m)(h:tst c d e n m a U j=true)(z:∀ t,t<j->tst c d e n m a U t=false):
  gr c d e n m (a+1) U=(j:Int)::gr c d e n m a (ins U j)/\L c d e n m a (ins U j)=L c d e n m (a+1) U-c (n-(a+1)) j:=by
 refine⟨?_,?_⟩
 ·rw[gr];have:=EM (p:=fun j=>!U j&&decide (c (n-(a+1)) j+L c d e n m a (ins U j)=L c d e n m (a+1) U)) q h z;rw[this]
 ·unfold tst at h;simp only[YF,decide_eq_true_eq] at h;omega
theorem Tz(z:∀ t,t<m->tst c d e n m a U t=false):
  gr c d e n m (a+1) U=(m:Int)::gr c d e n m a U/\L c d e n m a U=L c d e n m (a+1) U-d (n-(a+1)):=by
 refine⟨?_,?_⟩
 ·rw[gr];have:=Cb (m:=m) (p:=fun j=>!U j&&decide (c (n-(a+1)) j+L c d e n m a (ins U j)=L c d e n m (a+1) U)) z;rw[this]
 ·rcases zo (U:=U) (f:=fun j=>c (n-(a+1)) j+L c d e n m a (ins U j)) (a:=d (n-(a+1))+L c d e n m a U) (m:=m) with h|⟨j,g1,g2,g3⟩
  ·have:L c d e n m (a+1) U=d (n-(a+1))+L c d e n m a U:=h;omega
  ·exfalso;have q:=z j g1;unfold tst at q;rw[g2] at q;simp only[td,ZI,decide_eq_false_iff_not] at q;exact q g3.symm
theorem zC:eG c d e n m (lJ c d e n m) (Ca c d e n m) (Yr c d e n m) where
 opt:=O0
 more:=fun i hi=>by
  have:Ca c d e n m i+lJ c d e n m=L (jr c n i) (jv d n i) e (n+1) m (n+1) wI:=by unfold Ca;omega
  rw[this];exact O0
 ve:=fun j p=>qH
 vc:=fun j p i hi=>OY (f:=fun i=>c i j-Ca c d e n m i) hi rfl
 vis:=fun j p=>by
  rcases zo (U:=wI) (f:=fun i=>c i j-Ca c d e n m i) (a:=e j) (m:=n) with h|⟨i,g1,g2,g3⟩
  ·exact .inl h
  ·exact .inr ⟨i,g1,g3⟩
end
end Go.CH.bF
namespace Go.CH.Mtc
open Go.CH.Scr Go.CH.eG
def bg(k:Int)(x:Bs):List Bs:=if word k x then(aM k (lower x)).1 else []
structure Vr where
 w:Bs
 e:Int
 c:Int
deriving DecidableEq
def j3(k:Int)(l:List Bs)(p:eG.Drop × Nat):Option Vr:=
 if p.1.k=k/\(bg k p.1.w).length<l.length/\l.drop (l.length-(bg k p.1.w).length)=bg k p.1.w then
  some ⟨(l.take (l.length-(bg k p.1.w).length)).flatten,p.2,p.1.c⟩ else none
def eP(T:fy)(k:Int)(x:Bs):List Vr:=⟨(bg k x).flatten,-1,0⟩::T.es.zipIdx.filterMap (j3 k (bg k x))
def bH(T:fy)(k:Int)(x:Bs):Int:=match T.ds.find? (fun d=>decide (d.k=k)&&decide (d.w=lower x)) with
 | some d=>d.c
 | none=>T.drop
structure Wy where
 kd:Int
 l:Int
 r:Int
 c:Int
 x:Bs
 y:Bs
deriving DecidableEq
def gC(l:List Bs):Bs:=l.headD []
def uD(u v:Vr):Wy:=⟨1,u.e,v.e,u.c+v.c,u.w,v.w⟩
def oJ(us vs:List Vr):List Wy:=us.flatMap fun u=>vs.map (uD u)
def iH(kd ini:Int)(x y:List Bs):Wy:=⟨kd,-1,-1,ini,gC x,gC y⟩
def gy(ini:Int)(us vs:List Vr)(p q:List Bs):List Wy:=
 oJ us vs++((if p.length=1 then [iH 2 ini p q] else [])++(if q.length=1 then [iH 3 ini p q] else []))
def gJ(T:fy)(k:Int)(x:Bs)(k2:Int)(y:Bs):List Wy:=gy T.ini (eP T k x) (eP T k2 y) (bg k x) (bg k2 y)
def jl(T:fy)(k:Int)(x:Bs)(k2:Int)(y:Bs):Option Dv:=
 if okW T k x k2 y=true/\(bP T k x k2 y).fS gR<never then some (bP T k x k2 y).mx else none
structure Pr where
 i:Int
 j:Int
 kd:Int
 l:Int
 r:Int
 c:Int
 d:Dv
deriving DecidableEq
def LC:Dv:=⟨0,[],[],[]⟩
def CB:Pr:=⟨0,0,0,0,0,0,LC⟩
def nA(T:fy)(k k2:Int)(w:Wy):Option Pr:=(jl T k w.x k2 w.y).map fun d=>⟨0,0,w.kd,w.l,w.r,w.c+d.c,d⟩
def jc(T:fy)(k:Int)(x:Bs)(k2:Int)(y:Bs):List Pr:=(gJ T k x k2 y).filterMap (nA T k k2)
def qQ(b:Option Pr)(p:Pr):Option Pr:=match b with
 | none=>some p
 | some q=>if p.c<q.c then some p else some q
def first(l:List Pr):Option Pr:=l.foldl qQ none
def iB(T:fy)(k:Int)(x:Bs)(k2:Int)(y:Bs):Option Pr:=first (jc T k x k2 y)
inductive tK(T:fy)(k:Int)(x:Bs)(k2:Int)(y:Bs):Pr->Int->Prop
 | arg (h:okW T k x k2 y=false):tK T k x k2 y CB 1
 | none (h:okW T k x k2 y=true) (h2:iB T k x k2 y=none):tK T k x k2 y CB 11
 | some {p:Pr} (h:okW T k x k2 y=true) (h2:iB T k x k2 y=some p):tK T k x k2 y p 0
def qD(T:fy)(a b:bI):Bool:=bC T&&(eZ a&&eZ b)
def wd(a:bI)(i:Nat):Bs:=a.ws.getD i []
def yZ(T:fy)(a b:bI)(i j:Nat):Pr:=match iB T a.k (wd a i) b.k (wd b j) with
 | some p=>{ p with i:=i,j:=j }
 | none=>⟨i,j,0,0,0,100000,LC⟩
def cM(T:fy)(a b:bI)(i j:Nat):Int:=(yZ T a b i j).c
def dM(T:fy)(a:bI)(i:Nat):Int:=bH T a.k (wd a i)
def mU(T:fy)(a b:bI):Int:=bF.lJ (cM T a b) (dM T a) (dM T b) a.ws.length b.ws.length
def qR(T:fy)(a b:bI):List Int:=bF.SY (cM T a b) (dM T a) (dM T b) a.ws.length b.ws.length
def nT(T:fy)(a b:bI):Int:=bF.GR (cM T a b) (dM T a) (dM T b) a.ws.length b.ws.length a.ws.length b.ws.length
def tF(T:fy)(a b:bI):List Int:=bF.uL (cM T a b) (dM T a) (dM T b) a.ws.length b.ws.length a.ws.length b.ws.length
def fD(T:fy)(a b:bI):Nat->List Int->List Pr
 | _,[]=>[]
 | i,j::l=>if 0<=j/\j<b.ws.length then yZ T a b i j.toNat::fD T a b (i+1) l else fD T a b (i+1) l
structure Mt where
 c:Int
 s:Bool
 ps:List Pr
deriving DecidableEq
def Yv:Mt:=⟨0,false,[]⟩
def iI(T:fy)(a b:bI):Mt:=
 if mU T a b+T.ord<nT T a b then ⟨mU T a b+T.ord,true,fD T a b 0 (qR T a b)⟩ else ⟨nT T a b,false,fD T a b 0 (tF T a b)⟩
inductive QH(T:fy)(a b:bI):Mt->Int->Prop
 | arg (h:qD T a b=false):QH T a b Yv 1
 | some (h:qD T a b=true):QH T a b (iI T a b) 0
def nU(T:fy)(k:Int)(x:Bs)(k2:Int)(y:Bs)(p:Pr):Prop:=
 ∃ w,(gJ T k x k2 y).find? (fun w=>decide (w.kd=p.kd)&&(decide (w.l=p.l)&&decide (w.r=p.r)))=some w/\p.c=w.c+p.d.c/\tX T k w.x k2 w.y p.d
def j4(T:fy)(a b:bI)(s:Bool):Int->Int->List Int->List Pr->Prop
 | _,_,_,[]=>True
 | last,before,rs,p::l=>last<p.i/\p.i<a.ws.length/\0<=p.j/\p.j<b.ws.length/\p.j ∉ rs/\(s=true\/before<=p.j)/\nU T a.k (wd a p.i.toNat) b.k (wd b p.j.toNat) p/\j4 T a b s p.i p.j (p.j::rs) l
def j5(T:fy)(a:bI)(us:List Int):Int:=bF.sg a.ws.length (fun i=>if(i:Int) ∈ us then 0 else dM T a i)
def vB(T:fy)(a b:bI)(m:Mt):Int:=(if m.s then T.ord else 0)+(m.ps.map (·.c)).sum+j5 T a (m.ps.map (·.i))+j5 T b (m.ps.map (·.j))
def qU(T:fy)(a b:bI)(m:Mt):Prop:=qD T a b=true/\j4 T a b m.s (-1) (-1) [] m.ps/\m.c=vB T a b m
section
variable{T:fy}{k k2:Int}{x y:Bs}{a b:bI}
theorem CF:∀ (l:List Pr) (q:Pr),∃ p,l.foldl qQ (some q)=some p/\(p=q\/p ∈ l)/\p.c<=q.c/\∀ r ∈ l,p.c<=r.c:=by
 intro l
 induction l with
 | nil=>intro q;exact⟨q,rfl,.inl rfl,ZB _,fun r F=>by cases F⟩
 | cons z l ih=>
  intro q;rw[lz];by_cases h:z.c<q.c
  ·rw[show qQ (some q) z=some z from if_pos h];obtain⟨p,M,I,J,V⟩:=ih z;refine⟨p,M,.inr ?_,by omega,fun r F=>?_⟩
   ·rcases I with rfl|I
    ·exact Ze ..
    ·exact Zj _ I
   ·rcases List.mem_cons.1 F with rfl|F
    ·exact J
    ·exact V r F
  ·rw[show qQ (some q) z=some q from if_neg h];obtain⟨p,M,I,J,V⟩:=ih q;refine⟨p,M,?_,J,fun r F=>?_⟩
   ·rcases I with rfl|I
    ·exact .inl rfl
    ·exact .inr (Zj _ I)
   ·rcases List.mem_cons.1 F with rfl|F
    ·omega
    ·exact V r F
variable{l:List Pr}{p:Pr}{d:Dv}{w:Wy}{i:Nat}
theorem tQ:first l=none↔l=[]:=by
 cases l with
 | nil=>exact⟨fun _=>rfl,fun _=>rfl⟩
 | cons z l=>
  unfold first
  rw[lz];obtain⟨p,h1,-⟩:=CF l z
  show l.foldl qQ (some z)=none↔z::l=[]
  rw[h1];constructor
  ·intro h;cases h
  ·intro h;cases h
theorem jF(h:first l=some p):p ∈ l/\∀ r ∈ l,p.c<=r.c:=by
 cases l with
 | nil=>cases h
 | cons z l=>
  unfold first at h
  rw[lz] at h;obtain⟨q,M,F,J,V⟩:=CF l z;have h:l.foldl qQ (some z)=some p:=h;rw[M] at h;injection h with h
  subst h;refine⟨?_,fun r I=>?_⟩
  ·rcases F with rfl|F
   ·exact Ze ..
   ·exact Zj _ F
  ·rcases List.mem_cons.1 I with rfl|I
   ·exact J
   ·exact V r I
theorem sF{e:Int}:qm T k x k2 y d e->(e=0/\jl T k x k2 y=some d)\/(e≠0/\jl T k x k2 y=none):=by
 intro h;cases h with
 | arg h=>exact .inr ⟨by decide,by unfold jl;rw[if_neg (fun p=>by rw[h] at p;cases p.1)]⟩
 | none h h2=>exact .inr ⟨by decide,by unfold jl;rw[if_neg (fun p=>by rw[h2] at p;exact absurd p.2 fW)]⟩
 | some h h2=>exact .inl ⟨rfl,by unfold jl;rw[if_pos ⟨h,h2⟩]⟩
theorem Uo(h:jl T k x k2 y=some d):qm T k x k2 y d 0:=by
 unfold jl at h;split at h
 ·rename_i hc;injection h with h
  subst h;exact .some hc.1 hc.2
 ·cases h
theorem oK(h:jl T k x k2 y=some d):0<=d.c/\d.c<=24000:=by
 obtain⟨-,-,h1,h2⟩:=Nj (Uo h);exact⟨h1,h2⟩
theorem mg{ini:Int}{us vs:List Vr}{p q:List Bs}:w ∈ gy ini us vs p q↔(∃ u ∈ us,∃ v ∈ vs,w=uD u v)\/(p.length=1/\w=iH 2 ini p q)\/(q.length=1/\w=iH 3 ini p q):=by
 unfold gy oJ;rw[sX,sX,sB];constructor
 ·rintro (⟨u,I,h⟩|h|h)
  ·obtain⟨v,F,rfl⟩:=List.mem_map.1 h;exact .inl ⟨u,I,v,F,rfl⟩
  ·split at h
   ·rename_i z;exact .inr (.inl ⟨z,List.mem_singleton.1 h⟩)
   ·cases h
  ·split at h
   ·rename_i z;exact .inr (.inr ⟨z,List.mem_singleton.1 h⟩)
   ·cases h
 ·rintro (⟨u,I,v,F,rfl⟩|⟨z,rfl⟩|⟨z,rfl⟩)
  ·exact .inl ⟨u,I,List.mem_map.2 ⟨v,F,rfl⟩⟩
  ·exact .inr (.inl (by rw[if_pos z];exact List.mem_singleton.2 rfl))
  ·exact .inr (.inr (by rw[if_pos z];exact List.mem_singleton.2 rfl))
theorem xw:p ∈ jc T k x k2 y↔∃ w ∈ gJ T k x k2 y,∃ d,jl T k w.x k2 w.y=some d/\p=⟨0,0,w.kd,w.l,w.r,w.c+d.c,d⟩:=by
 unfold jc;rw[List.mem_filterMap];unfold nA;constructor
 ·rintro⟨w,q,h⟩;obtain⟨d,hd,rfl⟩:=Option.map_eq_some_iff.1 h;exact⟨w,q,d,hd,rfl⟩
 ·rintro⟨w,q,d,hd,rfl⟩;exact⟨w,q,by rw[hd];rfl⟩
theorem VH{j:Nat}:cM T a b i j=((iB T a.k (wd a i) b.k (wd b j)).map (·.c)).getD 100000:=by
 unfold cM yZ;cases iB T a.k (wd a i) b.k (wd b j)<;>rfl
theorem mh(hv:bC T=true)(k:Int)(x:Bs):0<=bH T k x/\bH T k x<=1000:=by
 have h:=eU.1 hv;unfold bH;split
 ·rename_i d hd;have hm:=Zf hd;have h1:=h.2.2.1;unfold iU at h1;rw[YF,YF,YX] at h1;have h2:=h1.2.1 d hm;unfold lK at h2;rw[YF] at h2;exact eY.1 h2.2
 ·exact eY.1 h.1.2.2.1
theorem kZ(F:bC T=true){v:Vr}(h:v ∈ eP T k x):0<=v.c/\v.c<=1000:=by
 unfold eP at h;rcases List.mem_cons.1 h with rfl|h
 ·show(0:Int)<=0/\(0:Int)<=1000
  exact⟨by decide,by decide⟩
 ·obtain⟨⟨d,i⟩,hm,p⟩:=List.mem_filterMap.1 h;unfold j3 at p;split at p
  ·injection p with p
   subst p;have z:=(eU.1 F).2.2.2;unfold iU at z;rw[YF,YF,YX] at z;have q:=z.2.1 d (List.fst_mem_of_mem_zipIdx hm);unfold lK at q;rw[YF] at q;exact eY.1 q.2
  ·cases p
theorem vC(hv:bC T=true)(h:w ∈ gJ T k x k2 y):0<=w.c/\w.c<=2000:=by
 rcases mg.1 h with⟨u,hu,v,hv',rfl⟩|⟨-,rfl⟩|⟨-,rfl⟩
 ·have h1:=kZ hv hu;have h2:=kZ hv hv'
  show 0<=u.c+v.c/\u.c+v.c<=2000
  omega
 all_goals
  have h1:=eY.1 (eU.1 hv).1.2.2.2.2
  show 0<=T.ini/\T.ini<=2000
  omega
theorem CG(hv:bC T=true)(h:p ∈ jc T k x k2 y):0<=p.c/\p.c<=26000:=by
 obtain⟨w,hw,d,hd,rfl⟩:=xw.1 h;have h1:=vC hv hw;have h2:=oK hd
 show 0<=w.c+d.c/\w.c+d.c<=26000
 omega
theorem JE(hv:bC T=true)(i j:Nat):0<=cM T a b i j/\cM T a b i j<=100000:=by
 rw[VH];cases h:iB T a.k (wd a i) b.k (wd b j) with
 | none=>exact⟨by decide,by decide⟩
 | some p=>
  have:=CG hv (jF h).1
  show 0<=p.c/\p.c<=100000
  omega
theorem qV(hv:bC T=true)(i:Nat):0<=dM T a i/\dM T a i<=1000:=mh hv _ _
theorem y7:bF.IE (cM T a b) (dM T a) (dM T b) a.ws.length b.ws.length (mU T a b):=bF.O0
theorem vD:bF.M0 (cM T a b) (dM T a) (dM T b) a.ws.length b.ws.length (nT T a b):=bF.V6
theorem WK:(iI T a b).c=min (mU T a b+T.ord) (nT T a b):=by
 unfold iI;split
 ·show mU T a b+T.ord=_
  omega
 ·show nT T a b=_
  omega
theorem Uq:mU T a b<=nT T a b:=y7.V7 vD
theorem Ur{m:Mt}(h:QH T a b m 0):0<=m.c/\m.c<=bF.sg a.ws.length (dM T a)+bF.sg b.ws.length (dM T b):=by
 cases h with
 | some h1=>
  have p:bC T=true:=by unfold qD at h1;rw[YF] at h1;exact h1.1
  have ho:=eY.1 (eU.1 p).1.2.2.2.1;rw[WK];have hn:∀ P,bF.bF a.ws.length b.ws.length P->0<=bF.cost (cM T a b) (dM T a) (dM T b) a.ws.length b.ws.length P:=fun P I=>by
   unfold bF.cost
   have h2:=bF.rQ (n:=a.ws.length) (f:=fun i=>if P i<b.ws.length then cM T a b i (P i) else dM T a i) (fun i hi=>by
    split
    ·exact(JE p _ _).1
    ·exact(qV p _).1)
   have h3:=bF.rQ (n:=b.ws.length) (f:=fun j=>if bF.used P a.ws.length j then 0 else dM T b j) (fun j F=>by
    split
    ·exact ZB _
    ·exact(qV p _).1)
   omega
  obtain⟨P,I,hM,hc⟩:=(vD (T:=T) (a:=a) (b:=b)).has;obtain⟨P',z,J⟩:=(y7 (T:=T) (a:=a) (b:=b)).has;have h2:=hn P I;have h3:=hn P' z;have M:bF.bF a.ws.length b.ws.length (fun _=>b.ws.length):=⟨fun _ _=>YG _,fun i j hi F _ h=>absurd h (Zt _)⟩;have q:bF.zu a.ws.length b.ws.length (fun _=>b.ws.length):=fun i j _ _ h=>absurd h (Zt _);have V:=(vD (T:=T) (a:=a) (b:=b)).low _ M q;have h5:bF.cost (cM T a b) (dM T a) (dM T b) a.ws.length b.ws.length (fun _=>b.ws.length)=bF.sg a.ws.length (dM T a)+bF.sg b.ws.length (dM T b):=by
   unfold bF.cost;congr 1
   ·exact bF.bJ fun i _=>if_neg (Zt _)
   ·refine bF.bJ fun j F=>if_neg ?_;rw[oc,bF.oo];intro i _ e;omega
  rw[h5] at V;omega
end
section
variable{T:fy}{a b:Int}{x y:Bs}
variable{n:Nat}{k:Int}{r:AR}
theorem QI{α:Type}{l:List α}{p q:α × Nat}(hp:p ∈ l.zipIdx n)(hq:q ∈ l.zipIdx n)(h:p.2=q.2):p=q:=by
 obtain⟨x,i⟩:=p;obtain⟨z,j⟩:=q;have h:i=j:=h;subst h;have h1:=(sT hp).2.2;have h2:=(sT hq).2.2;rw[h1,h2]
theorem vE(h:r ∈ fK T.rs k):∃ R,(R,r.ix) ∈ T.rs.zipIdx/\R.k=k/\word k R.f=true/\r=⟨r.ix,R.c,(aM k R.f).1,R.t⟩:=by
 unfold fK at h;obtain⟨⟨R,ix⟩,hm,p⟩:=List.mem_filterMap.1 h;unfold oF at p;simp only at p;split at p
 ·rename_i q;split at p
  ·rename_i z;injection p with p
   subst p;exact⟨R,hm,q,z,rfl⟩
  ·cases p
 ·cases p
theorem CJ(h:r ∈ fK T.rs k):(fK T.rs k).find? (fun z=>decide ((z.ix:Int)=(r.ix:Int)))=some r:=by
 cases p:(fK T.rs k).find? (fun z=>decide ((z.ix:Int)=(r.ix:Int))) with
 | none=>
  have:=List.find?_eq_none.1 p r h;simp at this
 | some z=>
  have F:=Zf p;have V:(z.ix:Int)=(r.ix:Int):=by
   have:=lR p;exact of_decide_eq_true this
  obtain⟨R,q,-,-,M⟩:=vE h;obtain⟨R',I,-,-,J⟩:=vE F;have e:=QI q I (by show r.ix=z.ix;omega);injection e with e1 e2
  subst e1;rw[M,J];simp only[e2]
theorem Gj(h:r ∈ fK T.rs k):1<=r.f.length:=by
 obtain⟨R,-,-,hw,e⟩:=vE h;rw[e];exact(eH.1 hw).2.1
def Lk(s:St)(FL FR:Bs):Prop:=(s.r=true->FL=s.a++FR)/\(s.r=false->FR=s.a++FL)
theorem NY(hv:bC T=true):∀ (n:Nat) (s:St),(bP T a x b y).ok s->(bP T a x b y).gD s<=n->(bP T a x b y).fS s<never ->
  ∃ FL FR c1 c2,kX (bP T a x b y).l (fK T.rs a) ((bP T a x b y).fT n s).1 s.i=some (FL,c1,(bP T a x b y).l.length)/\kX (bP T a x b y).m (fK T.rs b) ((bP T a x b y).fT n s).2.1 s.j=some (FR,c2,(bP T a x b y).m.length)/\c1+c2=(bP T a x b y).fS s/\((bP T a x b y).fT n s).2.2=FL/\Lk s FL FR:=by
 have hg:(bP T a x b y).good:=(rV hv).1;have ag:(bP T a x b y).fS (bP T a x b y).fin=0:=by
  have h0:(bP T a x b y).gD (bP T a x b y).fin=0:=by unfold Wd.gD Wd.fin;simp
  unfold Wd.fS;rw[h0];unfold Wd.dn;rw[if_pos rfl]
 have base:∀ (n:Nat) (s:St),s=(bP T a x b y).fin->∃ FL FR c1 c2,kX (bP T a x b y).l (fK T.rs a) ((bP T a x b y).fT n s).1 s.i=some (FL,c1,(bP T a x b y).l.length)/\kX (bP T a x b y).m (fK T.rs b) ((bP T a x b y).fT n s).2.1 s.j=some (FR,c2,(bP T a x b y).m.length)/\c1+c2=(bP T a x b y).fS s/\((bP T a x b y).fT n s).2.2=FL/\Lk s FL FR:=by
  intro n s e;have hb:(bP T a x b y).fT n s=([],[],[]):=by
   cases n with
   | zero=>rfl
   | succ n=>unfold Wd.fT;rw[if_pos e]
  rw[hb];subst e;refine⟨[],[],0,0,rfl,rfl,ag.symm,rfl,?_⟩;exact⟨(fun h=>by cases h),(fun _=>rfl)⟩
 intro n
 induction n with
 | zero=>
  intro s hs hr hd;by_cases e:s=(bP T a x b y).fin
  ·exact base 0 s e
  ·exfalso;have h0:(bP T a x b y).gD s=0:=Nat.le_zero.1 hr;unfold Wd.fS at hd;rw[h0] at hd;unfold Wd.dn at hd;rw[if_neg e] at hd;exact absurd hd (Int.lt_irrefl _)
 | succ n ih=>
  intro s hs hr hd;by_cases e:s=(bP T a x b y).fin
  ·exact base _ s e
  ·have am:∃ p,(bP T a x b y).pick s=some p:=by
    cases hp:(bP T a x b y).pick s with
    | some p=>exact⟨p,rfl⟩
    | none=>
     exfalso;have h1:=List.find?_eq_none.1 hp;have h2:=jU (W:=bP T a x b y) hs;rw[if_neg e] at h2;rcases fold_eq (fun z:Int × St=>z.1+(bP T a x b y).fS z.2) ((bP T a x b y).moves s) never with h3|⟨q,hq,h3⟩
     ·rw[h2,h3] at hd;exact absurd hd (Int.lt_irrefl _)
     ·rw[<-oG hv hs] at hq;obtain⟨p,hp,rfl⟩:=List.mem_map.1 hq;refine h1 p hp (decide_eq_true ?_);rw[h2];exact h3.symm
   obtain⟨⟨r,s'⟩,hp⟩:=am;have ab:(bP T a x b y).fT (n+1) s=if s.i<s'.i then((r.ix:Int)::((bP T a x b y).fT n s').1,((bP T a x b y).fT n s').2.1,r.t++((bP T a x b y).fT n s').2.2) else(((bP T a x b y).fT n s').1,(r.ix:Int)::((bP T a x b y).fT n s').2.1,((bP T a x b y).fT n s').2.2):=by
    rw[Wd.fT,if_neg e,hp]
   have ac:(r,s') ∈ (bP T a x b y).cK s:=Zf hp;have an:r.c+(bP T a x b y).fS s'=(bP T a x b y).fS s:=by
    have:=lR hp;exact of_decide_eq_true this
   have al:(r.c,s') ∈ (bP T a x b y).moves s:=by
    rw[<-oG hv hs];exact List.mem_map.2 ⟨(r,s'),ac,rfl⟩
   have af:=fF hs al;have hc:=jf hg al;obtain⟨FL,FR,c1,c2,w1,w2,w3,w4,w5⟩:=ih s' af.1 (by have:=af.2;omega) ff;unfold Wd.cK at ac;obtain⟨r0,aa,ad⟩:=List.mem_filterMap.1 ac;unfold Wd.uM at ad;have ao:1<=r0.f.length:=Gj aa;by_cases I:jw (if(bP T a x b y).left s then(bP T a x b y).l else(bP T a x b y).m) r0 (if(bP T a x b y).left s then s.i else s.j)=true
   ·rw[if_pos I] at ad;obtain⟨⟨a',r'⟩,F,he⟩:=Option.map_eq_some_iff.1 ad;injection he with he1 he2
    subst he1;cases hl:(bP T a x b y).left s with
    | true=>
     rw[hl] at I he2 aa;simp only[if_true] at I he2 aa;subst he2;rw[ab,if_pos (by show s.i<s.i+r0.f.length;omega)];have V:r0 ∈ fK T.rs a:=aa;refine⟨r0.t++FL,FR,r0.c+c1,c2,?_,w2,by have:=w3;omega,by rw[w4],?_⟩
     ·unfold kX;rw[CJ V];simp only;rw[if_pos I,w1];rfl
     ·unfold Wd.xU at F;obtain⟨k1,k2⟩:=w5;simp only at k1 k2;split at F
      ·rename_i J;injection F with F
       injection F with ha hr'
       obtain⟨z,hz⟩:=pE.1 J;rw[hz,k6] at ha;rw[hz,k6] at hr';subst ha;constructor
       ·intro M;rw[M,ZI] at hr';rw[hz,Y3];congr 1;by_cases ak:z=[]
        ·subst ak;have:=k2 (by rw[<-hr'];simp);rw[this];rfl
        ·exact k1 (by rw[<-hr'];simp[ak])
       ·intro M;rw[M,k5] at hr';have ae:s.a=[]:=by
         rcases zM.1 hl with h|h
         ·rw[M] at h;cases h
         ·exact h.1
        rw[ae] at hz;have ai:=List.append_eq_nil_iff.1 hz.symm;have:=k2 hr'.symm;rw[ae,this,ai.1,ai.2];rfl
      ·split at F
       ·rename_i J;injection F with F
        injection F with ha hr'
        rw[hl] at hr';obtain⟨z,hz⟩:=pE.1 J;rw[hz,k6] at ha;subst ha;have:=k2 hr'.symm;constructor
        ·intro M;rw[this,hz,Y3]
        ·intro M;have ae:s.a=[]:=by
          rcases zM.1 hl with h|h
          ·rw[M] at h;cases h
          ·exact h.1
         rw[this,hz,ae];rfl
       ·cases F
    | false=>
     rw[hl] at I he2 aa;simp only[ZG,if_false] at I he2 aa;subst he2;rw[ab,if_neg (by show ¬ s.i<s.i;omega)];have V:r0 ∈ fK T.rs b:=aa;have M:s.r=false:=by
      cases h:s.r with
      | false=>rfl
      | true=>rw[zM.2 (.inl h)] at hl;cases hl
     refine⟨FL,r0.t++FR,c1,r0.c+c2,w1,?_,by have:=w3;omega,w4,?_⟩
     ·unfold kX;rw[CJ V];simp only;rw[if_pos I,w2];rfl
     ·unfold Wd.xU at F;obtain⟨k1,k2⟩:=w5;simp only at k1 k2;refine⟨(fun h=>by rw[M] at h;cases h),fun _=>?_⟩;split at F
      ·rename_i J;injection F with F
       injection F with ha hr'
       obtain⟨z,hz⟩:=pE.1 J;rw[hz,k6] at ha;subst ha;rw[M,k5] at hr';rw[k2 hr'.symm,hz,Y3]
      ·split at F
       ·rename_i J;injection F with F
        injection F with ha hr'
        rw[hl] at hr';obtain⟨z,hz⟩:=pE.1 J;rw[hz,k6] at ha;subst ha;rw[k1 hr'.symm,hz,Y3]
       ·cases F
   ·rw[if_neg I] at ad;cases ad
theorem Ar{d:Dv}(h:jl T a x b y=some d):tX T a x b y d:=by
 unfold jl at h;split at h
 ·rename_i p;injection h with h
  subst h;have hv:=(gI.1 p.1).2.2;obtain⟨q,FR,I,c2,F,V,z,M,J⟩:=NY (a:=a) (x:=x) (b:=b) (y:=y) hv _ gR kh (YG _) p.2;have e:FR=q:=J.2 rfl;refine⟨p.1,q,I,c2,F,by rw[<-e];exact V,M.symm,z⟩
 ·cases h
end
section
variable{c:Nat→Nat→Int}{d e:Nat→Int}{n m:Nat}
structure WL(c:Nat->Nat->Int)(d e:Nat->Int)(n m:Nat)(cols:List Int)(v:Int):Prop where
 len:cols.length=n
 ry:∀ p ∈ cols,0<=p/\p<=m
 asg:bF.bF n m (bF.lp cols)
 cost:bF.cost c d e n m (bF.lp cols)=v
theorem Gl:WL c d e n m (bF.SY c d e n m) (bF.lJ c d e n m):=by
 have h:=bF.Vy (c:=c) (d:=d) (e:=e) (n:=n) (m:=m) (k:=n) (YG n) bF.wI;rw[ZF] at h;obtain⟨h1,h2,h3⟩:=bF.yQ h;rw[bF.IQ] at h1 h2;exact⟨bF.IQ _ _,h3,h1.asg,by rw[<-bF.kH];exact h2.symm⟩
theorem Gm:WL c d e n m (bF.uL c d e n m n m) (bF.GR c d e n m n m)/\bF.zu n m (bF.lp (bF.uL c d e n m n m)):=by
 have h:=bF.Kt (c:=c) (d:=d) (e:=e) (n:=n) (m:=m) (a:=n) (f:=0) (YG n) (YE m);rw[ZF,lB] at h;have p:bF.keeps m (-1) (bF.uL c d e n m n m)=true:=by have:=bF.BX h;simpa using this
 rw[<-bF.DI p] at h;obtain⟨z,q,I⟩:=bF.yQ h;have F:=bF.zB p;rw[bF.DF] at z q F;exact⟨⟨bF.DF _ _,I,z.asg,by rw[<-bF.kH];exact q.symm⟩,F⟩
def drop1(m i:Nat)(P:Nat->Nat):Nat->Nat:=fun r=>if r=i then m else P r
variable{P:Nat->Nat}{i:Nat}
theorem xC(h:bF.bF n m P):bF.bF n m (drop1 m i P):=by
 refine⟨fun r q=>?_,fun r s q I p hm=>?_⟩
 ·unfold drop1;split
  ·exact YG _
  ·exact h.le r q
 ·unfold drop1 at p hm;by_cases F:r=i
  ·rw[if_pos F] at hm;exact absurd hm (Zt _)
  ·rw[if_neg F] at p hm;by_cases z:s=i
   ·rw[if_pos z] at p;rw[p] at hm;exact absurd hm (Zt _)
   ·rw[if_neg z] at p;exact h.inj r s q I p hm
theorem JF(h:bF.zu n m P):bF.zu n m (drop1 m i P):=by
 intro r s z I q p;unfold drop1 at q p ⊢;by_cases F:r=i
 ·rw[if_pos F] at q;exact absurd q (Zt _)
 ·by_cases e2:s=i
  ·rw[if_pos e2] at p;exact absurd p (Zt _)
  ·rw[if_neg F] at q ⊢;rw[if_neg e2] at p ⊢;exact h r s z I q p
theorem JG(h:bF.bF n m P)(hi:i<n)(hm:P i<m):bF.cost c d e n m (drop1 m i P)=bF.cost c d e n m P-c i (P i)+e (P i)+d i:=by
 rw[bF.fJ (xC h),bF.fJ h];unfold bF.ic;have:=bF.Dw (f:=fun r=>bF.wt c d e m r (drop1 m i P r)) (g:=fun r=>bF.wt c d e m r (P r)) hi (fun r z p=>by unfold drop1;rw[if_neg p]);rw[this];have q:bF.wt c d e m i (drop1 m i P i)=d i:=by unfold drop1 bF.wt;rw[if_pos rfl,if_neg (Zt _)]
 have e2:bF.wt c d e m i (P i)=c i (P i)-e (P i):=by unfold bF.wt;rw[if_pos hm]
 rw[q,e2];omega
end
section
variable{T:fy}{k k2:Int}{x y:Bs}{a b:bI}
variable{i j:Nat}{s:Bool}
theorem QJ(h:cM T a b i j<100000):∃ p,iB T a.k (wd a i) b.k (wd b j)=some p:=by
 rw[VH] at h;cases hc:iB T a.k (wd a i) b.k (wd b j) with
 | some p=>exact⟨p,rfl⟩
 | none=>rw[hc] at h;exact absurd h fW
theorem Gn{u v:Vr}(I:u ∈ eP T k x)(z:v ∈ eP T k x)(h:u.e=v.e):u=v:=by
 have key:∀ w:Vr,w ∈ T.es.zipIdx.filterMap (j3 k (bg k x))->∃ p ∈ T.es.zipIdx,j3 k (bg k x) p=some w/\w.e=(p.2:Int):=by
  intro w hw;obtain⟨p,J,F⟩:=List.mem_filterMap.1 hw;refine⟨p,J,F,?_⟩;unfold j3 at F;split at F
  ·injection F with F
   subst F;rfl
  ·cases F
 unfold eP at I z;rcases List.mem_cons.1 I with rfl|I
 ·rcases List.mem_cons.1 z with rfl|z
  ·rfl
  ·obtain⟨p,-,-,e⟩:=key v z;rw[e] at h;have h:(-1:Int)=(p.2:Int):=h;omega
 ·obtain⟨p,J,V,e2⟩:=key u I;rcases List.mem_cons.1 z with rfl|z
  ·rw[e2] at h;have h:(p.2:Int)=-1:=h;omega
  ·obtain⟨q,hq,M,e4⟩:=key v z;have:=QI J hq (by rw[e2,e4] at h;omega);subst this;rw[V] at M;injection M
theorem QK{w z:Wy}(hw:w ∈ gJ T k x k2 y)(F:z ∈ gJ T k x k2 y)(q:w.kd=z.kd)(M:w.l=z.l)(V:w.r=z.r):w=z:=by
 rcases mg.1 hw with⟨u,hu,v,hv,rfl⟩|⟨-,rfl⟩|⟨-,rfl⟩
 ·rcases mg.1 F with⟨I,p,J,h,rfl⟩|⟨-,rfl⟩|⟨-,rfl⟩
  ·rw[Gn hu p M,Gn hv h V]
  ·exact absurd q (by show ¬ (1:Int)=2;decide)
  ·exact absurd q (by show ¬ (1:Int)=3;decide)
 ·rcases mg.1 F with⟨I,p,J,h,rfl⟩|⟨-,rfl⟩|⟨-,rfl⟩
  ·exact absurd q (by show ¬ (2:Int)=1;decide)
  ·rfl
  ·exact absurd q (by show ¬ (2:Int)=3;decide)
 ·rcases mg.1 F with⟨I,p,J,h,rfl⟩|⟨-,rfl⟩|⟨-,rfl⟩
  ·exact absurd q (by show ¬ (3:Int)=1;decide)
  ·exact absurd q (by show ¬ (3:Int)=2;decide)
  ·rfl
theorem Gp{p:Pr}(h:p ∈ jc T k x k2 y)(i j:Int):nU T k x k2 y { p with i:=i,j:=j }:=by
 obtain⟨w,I,d,hd,rfl⟩:=xw.1 h;cases F:(gJ T k x k2 y).find? (fun z=>decide (z.kd=w.kd)&&(decide (z.l=w.l)&&decide (z.r=w.r))) with
 | none=>
  have:=List.find?_eq_none.1 F w I;simp at this
 | some z=>
  have q:=lR F;simp only[YF,decide_eq_true_eq] at q;have e:=QK (Zf F) I q.1 q.2.1 q.2.2;subst e;exact⟨z,F,rfl,Ar hd⟩
theorem JH:(yZ T a b i j).i=i:=by unfold yZ;split<;>rfl
theorem JI:(yZ T a b i j).j=j:=by unfold yZ;split<;>rfl
theorem Gq{z:List Int}(hn:z.length=a.ws.length)(hb:∀ p ∈ z,0<=p/\p<=b.ws.length)(hA:bF.bF a.ws.length b.ws.length (bF.lp z))(hM:s=true\/bF.zu a.ws.length b.ws.length (bF.lp z))(hp:∀ i,i<a.ws.length->bF.lp z i<b.ws.length->∃ p,iB T a.k (wd a i) b.k (wd b (bF.lp z i))=some p):
  ∀ (l:List Int) (i:Nat) (last before:Int) (rs:List Int),l=z.drop i->last<i->(∀ q ∈ rs,∃ r,r<i/\q=(bF.lp z r:Int)/\bF.lp z r<b.ws.length)->(before=-1\/∃ r,r<i/\before=(bF.lp z r:Int)/\bF.lp z r<b.ws.length) ->
   j4 T a b s last before rs (fD T a b i l):=by
 intro l
 induction l with
 | nil=>intro i last before rs _ _ _ _;exact trivial
 | cons j l ih=>
  intro i last before rs hl h1 h2 h3;have hi:i<z.length:=by
   rcases j9 i z.length with h|h
   ·exact h
   ·rw[List.drop_eq_nil_of_le h] at hl;cases hl
  have hd:=Y7 hi;rw[<-hl] at hd;injection hd with hj hd'
  have F:bF.lp z i=j.toNat:=by unfold bF.lp;rw[YP,YH hi,<-hj];rfl
  have aa:=hb j (by rw[hj];exact YL hi);unfold fD;split
  ·rename_i hc;have I:bF.lp z i<b.ws.length:=by rw[F];omega
   have M:((j.toNat:Nat):Int)=j:=Int.toNat_of_nonneg aa.1;obtain⟨p,J⟩:=hp i ff I;rw[F] at J
   show _/\_/\_/\_/\_/\_/\_/\_
   rw[JH,JI,M];refine⟨h1,by omega,aa.1,hc.2,fun hm=>?_,?_,?_,?_⟩
   ·obtain⟨r,g1,V,g3⟩:=h2 j hm;have:=hA.inj r i ff ff (by rw[F];omega) g3;omega
   ·rcases hM with h|h
    ·exact .inl h
    ·refine .inr ?_;rcases h3 with h3|⟨r,g1,V,g3⟩
     ·omega
     ·have:=h r i g1 ff g3 I;rw[F] at this;omega
   ·have:yZ T a b i j.toNat={ p with i:=i,j:=(j.toNat:Nat) }:=by unfold yZ;rw[J]
    rw[this,ZL];exact Gp (jF J).1 _ _
   ·refine ih (i+1) _ _ _ hd' ff (fun q hq=>?_) (.inr ⟨i,by omega,by rw[F,M],I⟩);rcases List.mem_cons.1 hq with rfl|hq
    ·exact⟨i,by omega,by rw[F,M],I⟩
    ·obtain⟨r,g1,V⟩:=h2 q hq;exact⟨r,by omega,V⟩
  ·refine ih (i+1) _ _ _ hd' ff (fun q hq=>?_) ?_
   ·obtain⟨r,g1,V⟩:=h2 q hq;exact⟨r,by omega,V⟩
   ·rcases h3 with h3|⟨r,g1,V⟩
    ·exact .inl h3
    ·exact .inr ⟨r,by omega,V⟩
theorem sG:∀ (l:List Int) (i:Nat) (p:Pr),p ∈ fD T a b i l↔∃ r,∃ h:r<l.length,0<=l[r]/\l[r]<b.ws.length/\p=yZ T a b (i+r) l[r].toNat:=by
 intro l
 induction l with
 | nil=>
  intro i p;constructor
  ·intro h;cases h
  ·rintro⟨r,h,-⟩;simp at h
 | cons j l ih=>
  intro i p;have F:(∃ r,∃ h:r<l.length,0<=l[r]/\l[r]<b.ws.length/\p=yZ T a b (i+1+r) l[r].toNat)↔∃ r,∃ h:r+1<(j::l).length,0<=(j::l)[r+1]/\(j::l)[r+1]<b.ws.length/\p=yZ T a b (i+(r+1)) (j::l)[r+1].toNat:=by
   constructor
   ·rintro⟨r,h,g⟩;refine⟨r,by rw[YR];omega,?_⟩;rw[YJ,show i+(r+1)=i+1+r by omega];exact g
   ·rintro⟨r,h,g⟩;refine⟨r,by rw[YR] at h;omega,?_⟩;rw[YJ,show i+(r+1)=i+1+r by omega] at g;exact g
  unfold fD;split
  ·rename_i q;rw[YV,ih,F];constructor
   ·rintro (rfl|⟨r,h⟩)
    ·exact⟨0,by rw[YR];omega,q.1,q.2,rfl⟩
    ·exact⟨r+1,h⟩
   ·rintro⟨r,h⟩;cases r with
    | zero=>obtain⟨I,-,-,z⟩:=h;exact .inl z
    | succ r=>exact .inr ⟨r,h⟩
  ·rename_i q;rw[ih,F];constructor
   ·rintro⟨r,h⟩;exact⟨r+1,h⟩
   ·rintro⟨r,h⟩;cases r with
    | zero=>obtain⟨I,z,J,-⟩:=h;exact absurd ⟨z,J⟩ q
    | succ r=>exact⟨r,h⟩
theorem NZ:∀ (l:List Int) (i:Nat),((fD T a b i l).map (·.c)).sum=bF.sg l.length (fun r=>if 0<=l.getD r 0/\l.getD r 0<b.ws.length then cM T a b (i+r) (l.getD r 0).toNat else 0):=by
 intro l
 induction l with
 | nil=>intro i;rfl
 | cons j l ih=>
  intro i;rw[YR,bF.zn];have e:(fun r=>if 0<=(j::l).getD (r+1) 0/\(j::l).getD (r+1) 0<b.ws.length then cM T a b (i+(r+1)) ((j::l).getD (r+1) 0).toNat else 0)=(fun r=>if 0<=l.getD r 0/\l.getD r 0<b.ws.length then cM T a b (i+1+r) (l.getD r 0).toNat else 0):=by
   funext r;rw[List.getD_cons_succ,show i+(r+1)=i+1+r by omega]
  rw[e,<-ih (i+1),List.getD_cons_zero];by_cases h:0<=j/\j<b.ws.length
  ·rw[show fD T a b i (j::l)=yZ T a b i j.toNat::fD T a b (i+1) l from if_pos h,Zb,List.sum_cons,if_pos h];rfl
  ·rw[show fD T a b i (j::l)=fD T a b (i+1) l from if_neg h,if_neg h,kj]
theorem Au{q:List Int}{v:Int}(h:WL (cM T a b) (dM T a) (dM T b) a.ws.length b.ws.length q v):vB T a b ⟨v,s,fD T a b 0 q⟩=(if s then T.ord else 0)+v:=by
 have J:∀ r,r<a.ws.length->∃ h:r<q.length,bF.lp q r=q[r].toNat/\0<=q[r]/\q.getD r 0=q[r]:=fun r hr=>by
  have F:r<q.length:=by rw[h.len];exact hr
  refine⟨F,?_,(h.ry _ (YL F)).1,?_⟩
  ·unfold bF.lp;rw[YP,YH F];rfl
  ·rw[YP,YH F];rfl
 have h1:j5 T a ((fD T a b 0 q).map (·.i))=bF.sg a.ws.length (fun r=>if bF.lp q r<b.ws.length then 0 else dM T a r):=by
  unfold j5;refine bF.bJ fun r hr=>?_;obtain⟨F,M,e2,-⟩:=J r hr;have z:((r:Int) ∈ (fD T a b 0 q).map (·.i))↔bF.lp q r<b.ws.length:=by
   rw[rl];constructor
   ·rintro⟨p,hp,he⟩;obtain⟨t,ht,g1,g2,rfl⟩:=(sG _ _ _).1 hp;rw[JH,Zx] at he;have:t=r:=by omega
    subst this;rw[M];omega
   ·intro I;exact⟨_,(sG _ _ _).2 ⟨r,F,e2,by rw[M] at I;omega,rfl⟩,by rw[JH,Zx]⟩
  by_cases I:bF.lp q r<b.ws.length
  ·rw[if_pos (z.2 I),if_pos I]
  ·rw[if_neg (fun hm=>I (z.1 hm)),if_neg I]
 have h2:j5 T b ((fD T a b 0 q).map (·.j))=bF.sg b.ws.length (fun j=>if bF.used (bF.lp q) a.ws.length j then 0 else dM T b j):=by
  unfold j5;refine bF.bJ fun j hj=>?_;have z:((j:Int) ∈ (fD T a b 0 q).map (·.j))↔bF.used (bF.lp q) a.ws.length j=true:=by
   rw[rl,bF.oh];constructor
   ·rintro⟨p,hp,he⟩;obtain⟨t,ht,g1,g2,rfl⟩:=(sG _ _ _).1 hp;have V:t<a.ws.length:=by rw[<-h.len];exact ht
    obtain⟨_,M,_⟩:=J t V;rw[JI] at he;exact⟨t,V,by rw[M];omega⟩
   ·rintro⟨t,ht,he⟩;obtain⟨V,M,e2,-⟩:=J t ht;refine⟨_,(sG _ _ _).2 ⟨t,V,e2,by rw[M] at he;omega,rfl⟩,?_⟩;rw[JI,<-M,he]
  by_cases I:bF.used (bF.lp q) a.ws.length j=true
  ·rw[if_pos (z.2 I),if_pos I]
  ·rw[if_neg (fun hm=>I (z.1 hm)),if_neg I]
 have h3:((fD T a b 0 q).map (·.c)).sum=bF.sg a.ws.length (fun r=>if bF.lp q r<b.ws.length then cM T a b r (bF.lp q r) else 0):=by
  rw[NZ,h.len];refine bF.bJ fun r hr=>?_;obtain⟨F,M,e2,e3⟩:=J r hr;rw[e3,M,Zx];by_cases I:q[r]<b.ws.length
  ·rw[if_pos ⟨e2,I⟩,if_pos ff]
  ·rw[if_neg (fun hm=>I hm.2),if_neg ff]
 unfold vB
 show(if s=true then T.ord else 0)+_+_+_=_
 rw[h1,h2,h3];have h4:=h.cost;unfold bF.cost at h4;have h5:bF.sg a.ws.length (fun i=>if bF.lp q i<b.ws.length then cM T a b i (bF.lp q i) else dM T a i)=bF.sg a.ws.length (fun r=>if bF.lp q r<b.ws.length then cM T a b r (bF.lp q r) else 0)+bF.sg a.ws.length (fun r=>if bF.lp q r<b.ws.length then 0 else dM T a r):=by
  rw[<-bF.tO];refine bF.bJ fun i _=>?_;split
  ·rw[lh]
  ·rw[kj]
 rw[h5] at h4;omega
theorem kR(h:qD T a b=true):qU T a b (iI T a b):=by
 have J:bC T=true:=by unfold qD at h;rw[YF] at h;exact h.1
 have F:∀ P:Nat->Nat,bF.bF a.ws.length b.ws.length P->(∀ i,bF.cost (cM T a b) (dM T a) (dM T b) a.ws.length b.ws.length P<=bF.cost (cM T a b) (dM T a) (dM T b) a.ws.length b.ws.length (drop1 b.ws.length i P))->∀ i,i<a.ws.length->P i<b.ws.length->∃ p,iB T a.k (wd a i) b.k (wd b (P i))=some p:=fun P hP V i hi hm=>by
  have M:=V i;rw[JG hP hi hm] at M;have h2:=qV (a:=a) J i;have h3:=qV (a:=b) J (P i);exact QJ ff
 unfold iI;split
 ·have z:=Gl (c:=cM T a b) (d:=dM T a) (e:=dM T b) (n:=a.ws.length) (m:=b.ws.length);refine⟨h,Gq z.len z.ry z.asg (.inl rfl) (F _ z.asg fun i=>?_) _ 0 _ _ _ rfl ff (fun q hq=>by cases hq) (.inl rfl),?_⟩
  ·rw[z.cost];exact y7.low _ (xC z.asg)
  ·have:=Au (s:=true) z;have e:vB T a b ⟨mU T a b+T.ord,true,fD T a b 0 (qR T a b)⟩=vB T a b ⟨bF.lJ (cM T a b) (dM T a) (dM T b) a.ws.length b.ws.length,true,fD T a b 0 (bF.SY (cM T a b) (dM T a) (dM T b) a.ws.length b.ws.length)⟩:=rfl;rw[e,this];exact Int.add_comm _ _
 ·obtain⟨z,I⟩:=Gm (c:=cM T a b) (d:=dM T a) (e:=dM T b) (n:=a.ws.length) (m:=b.ws.length);refine⟨h,Gq z.len z.ry z.asg (.inr I) (F _ z.asg fun i=>?_) _ 0 _ _ _ rfl ff (fun q hq=>by cases hq) (.inl rfl),?_⟩
  ·rw[z.cost];exact vD.low _ (xC z.asg) (JF I)
  ·have:=Au (s:=false) z;have e:vB T a b ⟨nT T a b,false,fD T a b 0 (tF T a b)⟩=vB T a b ⟨bF.GR (cM T a b) (dM T a) (dM T b) a.ws.length b.ws.length a.ws.length b.ws.length,false,fD T a b 0 (bF.uL (cM T a b) (dM T a) (dM T b) a.ws.length b.ws.length a.ws.length b.ws.length)⟩:=rfl;rw[e,this];exact(kj _).symm
end
section
variable{T:fy}{k:Int}{x:Bs}
theorem y8(h:word k x=true):bg k x=(aM k (lower x)).1:=by unfold bg;rw[if_pos h]
theorem CK(h:word k x=true):(bg k x).flatten=lower x:=by rw[y8 h];exact Cj (iA h)
theorem gV(h:word k x=true):1<=(bg k x).length/\(bg k x).length<=12:=by rw[y8 h];exact(eH.1 (iA h)).2
end
end Go.CH.Mtc
namespace Go.CH.Scr
section
variable{k:Int}{l:Bs}{ws:List Bs}{o:Nat}
def qj(k:Int)(l:Bs):Nat->Nat
 | 0=>0
 | i+1=>qj k l i+fN k (l.drop (qj k l i))
theorem oD:∀ i,i<=(aM k l).1.length->aM k (l.drop (qj k l i))=((aM k l).1.drop i,(aM k l).2)/\qj k l i<=l.length:=by
 intro i
 induction i with
 | zero=>intro _;exact⟨rfl,YE _⟩
 | succ i ih=>
  intro hi;obtain⟨h,I⟩:=ih ff;have hd:(aM k l).1.drop i=(aM k l).1[i]::(aM k l).1.drop (i+1):=Y7 ff;have hn:fN k (l.drop (qj k l i))≠0:=fun z=>by
   rw[dP z,hd] at h;cases h
  have F:=lT (k:=k) (l:=l.drop (qj k l i));rw[Y8] at F;rw[fB hn,hd,List.drop_drop] at h;have q:=congrArg Prod.fst h;have p:=congrArg Prod.snd h;simp only[List.cons.injEq] at q p;exact⟨Prod.ext q.2 p,by show qj k l i+_<=_;omega⟩
variable{i:Nat}
theorem Po(hi:i<(aM k l).1.length):fN k (l.drop (qj k l i))≠0:=fun h0=>by
 have h:=(oD (k:=k) (l:=l) i ff).1;have hd:(aM k l).1.drop i=(aM k l).1[i]::(aM k l).1.drop (i+1):=Y7 ff;rw[dP h0,hd] at h;cases h
theorem Pv:fN k (l.drop (qj k l (aM k l).1.length))=0:=by
 have h:=(oD (k:=k) (l:=l) _ (YG _)).1;rw[ly] at h;refine my fun hn=>?_;rw[fB hn] at h;cases h
end
section
variable{k:Int}{l:Bs}
variable{i:Nat}
theorem Pw(hi:i<=(aM k l).1.length)(h:fN k (l.drop (qj k l i))≠0):i<(aM k l).1.length:=by
 refine my fun hn=>?_;have e:i=(aM k l).1.length:=by omega
 rw[e] at h;exact h Pv
theorem Wp(hi:i<(aM k l).1.length):(aM k l).1[i]=(l.drop (qj k l i)).take (fN k (l.drop (qj k l i))):=by
 have h:=(oD (k:=k) (l:=l) i ff).1;have hd:(aM k l).1.drop i=(aM k l).1[i]::(aM k l).1.drop (i+1):=Y7 ff;rw[fB (Po hi),hd] at h;have p:=congrArg Prod.fst h;simp only[List.cons.injEq] at p;exact p.1.symm
theorem TU(hi:i<=(aM k l).1.length)(F:qj k l i<l.length)(h:fN k (l.drop (qj k l i))=0):(aM k l).2≠[]:=by
 have p:=(oD (k:=k) (l:=l) i hi).1;rw[dP h] at p;have z:l.drop (qj k l i)=(aM k l).2:=congrArg Prod.snd p;rw[<-z];intro q;have:=congrArg List.length q;rw[Y8] at this;simp at this;omega
theorem TV(hi:i<=(aM k l).1.length)(z:qj k l i=l.length):i=(aM k l).1.length/\(aM k l).2=[]:=by
 have h:=(oD (k:=k) (l:=l) i hi).1;rw[z,ly,dP rfl] at h;have q:[]=(aM k l).1.drop i:=congrArg Prod.fst h;have p:[]=(aM k l).2:=congrArg Prod.snd h;have:=congrArg List.length q;rw[Y8] at this;simp at this;exact⟨by omega,p.symm⟩
end
end Go.CH.Scr
