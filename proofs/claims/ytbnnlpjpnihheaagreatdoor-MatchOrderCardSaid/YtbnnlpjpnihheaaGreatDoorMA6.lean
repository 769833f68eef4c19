import Derived.Test.YtbnnlpjpnihheaaGreatDoorMA4
import Derived.Test.YtbnnlpjpnihheaaGreatDoorMA1
set_option linter.unusedSimpArgs false
set_option linter.unusedVariables false
namespace Go.CH.Asg

def sg:Nat→(Nat→Int)→Int
 | 0,_=>0
 | n+1,f=>sg n f+f n
section
variable {n m:Nat} {f g:Nat→Int}
theorem sg_zero0:sg 0 f=0:=rfl
theorem sg_succ:sg (n+1) f=sg n f+f n:=rfl
theorem sg_congr (h:∀ i,i < n→f i=g i):sg n f=sg n g:=by
 induction n with
 | zero=>rfl
 | succ n ih=>rw [sg_succ,sg_succ,ih (fun i hi=>h i (by omega)),h n (by omega)]
theorem sg_le (h:∀ i,i < n→f i≤g i):sg n f≤sg n g:=by
 induction n with
 | zero=>exact Int.le_refl _
 | succ n ih=>rw [sg_succ,sg_succ];have:=ih (fun i hi=>h i (by omega));have:=h n (by omega);omega
theorem sg_add (f g:Nat→Int):sg n (fun i=>f i+g i)=sg n f+sg n g:=by
 induction n with
 | zero=>rfl
 | succ n ih=>rw [sg_succ,sg_succ,sg_succ,ih];omega
theorem sg_sub (f g:Nat→Int):sg n (fun i=>f i - g i)=sg n f - sg n g:=by
 induction n with
 | zero=>rfl
 | succ n ih=>rw [sg_succ,sg_succ,sg_succ,ih];omega
theorem sg_nil (n:Nat):sg n (fun _=>0)=0:=by
 induction n with
 | zero=>rfl
 | succ n ih=>rw [sg_succ,ih];rfl
theorem sg_eq0 (h:∀ i,i < n→f i=0):sg n f=0:=by rw [sg_congr h,sg_nil]
theorem sg_nonneg (h:∀ i,i < n→0≤f i):0≤sg n f:=by have:=sg_le (f:=fun _=>0) h;rw [sg_nil] at this;exact this
theorem sg_upd {k:Nat} (hk:k < n) (h:∀ i,i < n→i≠k→f i=g i):sg n f=sg n g+(f k - g k):=by
 induction n with
 | zero=>omega
 | succ n ih =>
  rw [sg_succ,sg_succ]
  by_cases e:k=n
  ·subst e;rw [sg_congr (g:=g) (fun i hi=>h i (by omega) (by omega))];omega
  ·rw [ih (by omega) (fun i hi hne=>h i (by omega) hne),h n (by omega) (by omega)];omega
theorem sg_ext {k:Nat}:sg (n+k) f=sg n f+sg k (fun i=>f (n+i)):=by
 induction k with
 | zero=>simp [sg]
 | succ k ih=>rw [←Nat.add_assoc,sg_succ,sg_succ,ih];omega
theorem sg_front:sg (n+1) f=f 0+sg n (fun i=>f (i+1)):=by
 rw [Nat.add_comm,sg_ext]
 simp only [sg_succ,sg_zero0,Int.zero_add]
 congr 1
 exact sg_congr (fun i _=>by rw [Nat.add_comm])
end

structure Asg (n m:Nat) (P:Nat→Nat):Prop where
 le:∀ i,i < n→P i≤m
 inj:∀ i j,i < n→j < n→P i=P j→P i < m→i=j
def used (P:Nat→Nat):Nat→Nat→Bool
 | 0,_=>false
 | n+1,j=>used P n j || P n == j
theorem used_iff {P:Nat→Nat} {n j:Nat}:used P n j=true↔∃ i,i < n∧P i=j:=by
 induction n with
 | zero=>simp [used]
 | succ n ih =>
  simp only [used,Bool.or_eq_true,beq_iff_eq,ih]
  constructor
  ·rintro (⟨i,h1,h2⟩ | h)
   ·exact ⟨i,by omega,h2⟩
   ·exact ⟨n,by omega,h⟩
  ·rintro ⟨i,h1,h2⟩
   by_cases e:i=n
   ·subst e;exact .inr h2
   ·exact .inl ⟨i,by omega,h2⟩
theorem used_not {P:Nat→Nat} {n j:Nat}:used P n j=false↔∀ i,i < n→P i≠j:=by
 rw [←Bool.not_eq_true,used_iff]
 exact ⟨fun h i hi e=>h ⟨i,hi,e⟩,fun h ⟨i,hi,e⟩=>h i hi e⟩
section
variable {n m:Nat} {P Q:Nat→Nat}
theorem Asg.low (h:Asg n m P) {k:Nat} (hk:k≤n):Asg k m P:=⟨fun i hi=>h.le i (by omega),fun i j hi hj=>h.inj i j (by omega) (by omega)⟩

theorem col (h:Asg n m P) (f:Nat→Int):sg n (fun i=>if P i < m then f (P i) else 0)=sg m (fun j=>if used P n j then f j else 0):=by
 induction n with
 | zero=>exact (sg_nil m).symm
 | succ n ih =>
  rw [sg_succ,ih (h.low (by omega))]
  by_cases hp:P n < m
  ·rw [if_pos hp]
   have hu:used P n (P n)=false:=used_not.2 fun i hi e=>by have:=h.inj i n (by omega) (by omega) e (by omega);omega
   rw [sg_upd (f:=fun j=>if used P (n+1) j then f j else 0) (g:=fun j=>if used P n j then f j else 0) hp ?_]
   ·simp only [used,hu,beq_self_eq_true,Bool.or_true];simp
   ·intro j _ hne
    have:(P n == j)=false:=by simp;omega
    simp only [used,this,Bool.or_false]
  ·rw [if_neg hp,Int.add_zero]
   refine sg_congr fun j hj=>?_
   have:(P n == j)=false:=by simp;omega
   simp only [used,this,Bool.or_false]
end

def cost (c:Nat→Nat→Int) (d e:Nat→Int) (n m:Nat) (P:Nat→Nat):Int :=
 sg n (fun i=>if P i < m then c i (P i) else d i)+sg m (fun j=>if used P n j then 0 else e j)

def wt (c:Nat→Nat→Int) (d e:Nat→Int) (m:Nat) (i k:Nat):Int:=if k < m then c i k - e k else d i
def tot (w:Nat→Nat→Int) (n:Nat) (P:Nat→Nat):Int:=sg n (fun i=>w i (P i))
section
variable {n m:Nat} {P Q:Nat→Nat} {c:Nat→Nat→Int} {d e:Nat→Int}
theorem cost_tot (h:Asg n m P):cost c d e n m P=sg m e+tot (wt c d e m) n P:=by
 have h1:=col h e
 have h2:sg m (fun j=>if used P n j then 0 else e j)=sg m e - sg m (fun j=>if used P n j then e j else 0):=by
  rw [←sg_sub];refine sg_congr fun j _=>?_;cases used P n j <;> simp
 have h3:tot (wt c d e m) n P=sg n (fun i=>if P i < m then c i (P i) else d i) - sg n (fun i=>if P i < m then e (P i) else 0):=by
  unfold tot;rw [←sg_sub];refine sg_congr fun i _=>?_;unfold wt;split <;> simp
 unfold cost
 rw [h2,h3,h1];omega

structure Opt (c:Nat→Nat→Int) (d e:Nat→Int) (n m:Nat) (v:Int):Prop where
 has:∃ P,Asg n m P∧cost c d e n m P=v
 low:∀ P,Asg n m P→v≤cost c d e n m P
end

def pv (n m:Nat) (P Q:Nat→Nat) (s:Nat):Option Nat:=if Q s < m then (List.range n).find? (fun r=>P r == Q s) else none

def orb (n m:Nat) (P Q:Nat→Nat):Nat→Option Nat
 | 0=>some n
 | k+1=>(orb n m P Q k).bind (pv n m P Q)
section
variable {n m:Nat} {P Q:Nat→Nat}
theorem pv_some {s r:Nat} (h:pv n m P Q s=some r):Q s < m∧r < n∧P r=Q s:=by
 unfold pv at h
 split at h
 ·rename_i h1
  have h2:=List.mem_of_find?_eq_some h
  have h3:=List.find?_some h
  exact ⟨h1,List.mem_range.1 h2,by simpa using h3⟩
 ·cases h
theorem pv_of (hP:Asg n m P) {s r:Nat} (h1:Q s < m) (h2:r < n) (h3:P r=Q s):pv n m P Q s=some r:=by
 cases e:pv n m P Q s with
 | none =>
  unfold pv at e;rw [if_pos h1,List.find?_eq_none] at e
  exact absurd h3 (by simpa using e r (List.mem_range.2 h2))
 | some r' =>
  obtain ⟨_,h5,h6⟩:=pv_some e
  rw [hP.inj r' r h5 h2 (h6.trans h3.symm) (by omega)]
theorem orb_prev {k s:Nat} (h:orb n m P Q k=some s) (hs:s≠n):∃ j r,k=j+1∧orb n m P Q j=some r∧Q r < m∧s < n∧P s=Q r:=by
 cases k with
 | zero=>injection h with h;exact absurd h.symm hs
 | succ j =>
  simp only [orb,Option.bind_eq_some_iff] at h
  obtain ⟨r,h1,h2⟩:=h
  exact ⟨j,r,rfl,h1,pv_some h2⟩
theorem orb_next (hP:Asg n m P) {k s r:Nat} (h:orb n m P Q k=some s) (h1:Q s < m) (h2:r < n) (h3:P r=Q s):orb n m P Q (k+1)=some r:=by
 simp only [orb,h];exact pv_of hP h1 h2 h3

theorem exch {w:Nat→Nat→Int} {i:Nat} (hi:i < n) (hw:∀ k,k≤m→w n k=w i k) (hP:Asg n m P) (hQ:Asg (n+1) m Q) (hO:∀ R,Asg n m R→tot w n P≤tot w n R) :
  ∃ R,Asg (n+1) m R∧R i=P i∧tot w (n+1) R≤tot w (n+1) Q:=by
 by_cases hA:∃ k,orb n m P Q k=some i
 ·-- the rows met come to i: the least such k
  have hL:∃ k,orb n m P Q k=some i∧∀ j,j < k→orb n m P Q j≠some i:=by
   obtain ⟨k,hk⟩:=hA
   induction k using Nat.strongRecOn with
   | _ k ih =>
    by_cases hj:∃ j,j < k∧orb n m P Q j=some i
    ·obtain ⟨j,h1,h2⟩:=hj;exact ih j h1 h2
    ·exact ⟨k,hk,fun j h1 h2=>hj ⟨j,h1,h2⟩⟩
  obtain ⟨k,hk,hmin⟩:=hL
  classical
  let S:Nat→Prop:=fun s=>∃ j,j≤k∧orb n m P Q j=some s
  have hSn:S n:=⟨0,by omega,rfl⟩
  have hSi:S i:=⟨k,by omega,hk⟩
  have hk0:0 < k:=by
   cases k with
   | zero=>injection hk with hk;omega
   | succ k=>omega
  have prev:∀ s,S s→s≠n→∃ r,S r∧r≠i∧Q r < m∧s < n∧P s=Q r:=by
   rintro s ⟨j,hj,hs⟩ hne
   obtain ⟨j',r,rfl,h1,h2,h3,h4⟩:=orb_prev hs hne
   exact ⟨r,⟨j',by omega,h1⟩,fun e=>hmin j' (by omega) (e ▸ h1),h2,h3,h4⟩
  have next:∀ s r,S s→s≠i→Q s < m→r < n→P r=Q s→S r:=by
   rintro s r ⟨j,hj,hs⟩ hne h1 h2 h3
   have:j≠k:=fun e=>by subst e;rw [hk] at hs;injection hs with hs;exact hne hs.symm
   exact ⟨j+1,by omega,orb_next hP hs h1 h2 h3⟩
  let P':Nat→Nat:=fun r=>if r=i then Q n else if S r then Q r else P r
  let Q':Nat→Nat:=fun r=>if r=n then Q i else if S r then P r else Q r
  have hP':Asg n m P':=by
   constructor
   ·intro r hr
    simp only [P']
    split
    ·exact hQ.le n (by omega)
    ·split
     ·exact hQ.le r (by omega)
     ·exact hP.le r hr
   ·-- two rows with one column
    have key:∀ a b,a < n→b < n→P' a=P' b→P' a < m→(a=i∨S a)→b=a:=by
     intro a b ha hb he hm hSa
     -- the row whose Q is meant
     have h1:∃ s,S s∧s≠i∧P' a=Q s∧(s=n↔a=i)∧(a≠i→s=a):=by
      by_cases e:a=i
      ·exact ⟨n,hSn,by omega,by simp [P',e],by simp [e],fun h=>absurd e h⟩
      ·have:S a:=hSa.resolve_left e
       exact ⟨a,this,e,by simp [P',e,this],by constructor <;> intro h <;> omega,fun _=>rfl⟩
     obtain ⟨s,h2,h3,h4,h5,h6⟩:=h1
     have hsn:s≤n:=by obtain ⟨j,_,hs⟩:=h2;by_cases e:s=n;omega;obtain ⟨_,_,_,_,_,h,_⟩:=orb_prev hs e;omega
     by_cases eb:b=i
     ·have h7:P' b=Q n:=by simp [P',eb]
      have:=hQ.inj s n (by omega) (by omega) (by omega) (by omega)
      rw [eb];exact (h5.1 this).symm
     ·by_cases hSb:S b
      ·have h7:P' b=Q b:=by simp [P',eb,hSb]
       have h8:=hQ.inj s b (by omega) (by omega) (by omega) (by omega)
       by_cases ea:a=i
       ·have:=h5.2 ea;omega
       ·rw [←h8,h6 ea]
      ·have h7:P' b=P b:=by simp [P',eb,hSb]
       exact absurd (next s b h2 h3 (by omega) hb (by omega)) hSb
    intro a b ha hb he hm
    by_cases hSa:a=i∨S a
    ·exact (key a b ha hb he hm hSa).symm
    ·by_cases hSb:b=i∨S b
     ·exact key b a hb ha he.symm (he ▸ hm) hSb
     ·have ea:P' a=P a:=by simp only [P',if_neg (fun h=>hSa (.inl h)),if_neg (fun h=>hSa (.inr h))]
      have eb:P' b=P b:=by simp only [P',if_neg (fun h=>hSb (.inl h)),if_neg (fun h=>hSb (.inr h))]
      exact hP.inj a b ha hb (by omega) (by omega)
  have hQ':Asg (n+1) m Q':=by
   constructor
   ·intro r hr
    simp only [Q']
    split
    ·exact hQ.le i (by omega)
    ·split
     ·rename_i h1 h2;exact hP.le r (by omega)
     ·exact hQ.le r hr
   ·-- each row of the set has the column of another one of the set
    have src:∀ a,a < n+1→(a=n∨S a)→∃ s,S s∧s < n+1∧Q' a=Q s∧(a=n↔s=i)∧(a≠n→P a=Q s):=by
     intro a ha h
     by_cases e:a=n
     ·exact ⟨i,hSi,by omega,by simp [Q',e],by simp [e],fun h=>absurd e h⟩
     ·have hS:S a:=h.resolve_left e
      obtain ⟨r,h1,h2,h3,h4,h5⟩:=prev a hS e
      have hrn:r≤n:=by obtain ⟨j,_,hs⟩:=h1;by_cases e:r=n;omega;obtain ⟨_,_,_,_,_,h,_⟩:=orb_prev hs e;omega
      exact ⟨r,h1,by omega,by simp [Q',e,hS,h5],by simp [e,h2],fun _=>h5⟩
    have key:∀ a b,a < n+1→b < n+1→Q' a=Q' b→Q' a < m→(a=n∨S a)→b=a:=by
     intro a b ha hb he hm hSa
     obtain ⟨s,h1,h2,h3,h4,h5⟩:=src a ha hSa
     by_cases hSb:b=n∨S b
     ·obtain ⟨t,g1,g2,g3,g4,g5⟩:=src b hb hSb
      have hst:=hQ.inj s t h2 g2 (by omega) (by omega)
      by_cases ea:a=n
      ·have:=g4.2 (by rw [←hst];exact h4.1 ea);omega
      ·by_cases eb:b=n
       ·have:=h4.2 (by rw [hst];exact g4.1 eb);omega
       ·exact (hP.inj a b (by omega) (by omega) (by rw [h5 ea,g5 eb,hst]) (by rw [h5 ea];omega)).symm
     ·have eb:Q' b=Q b:=by simp only [Q',if_neg (fun h=>hSb (.inl h)),if_neg (fun h=>hSb (.inr h))]
      have:=hQ.inj s b h2 hb (by omega) (by omega)
      exact absurd (this ▸ h1) (fun h=>hSb (.inr h))
    intro a b ha hb he hm
    by_cases hSa:a=n∨S a
    ·exact (key a b ha hb he hm hSa).symm
    ·by_cases hSb:b=n∨S b
     ·exact key b a hb ha he.symm (he ▸ hm) hSb
     ·have ea:Q' a=Q a:=by simp only [Q',if_neg (fun h=>hSa (.inl h)),if_neg (fun h=>hSa (.inr h))]
      have eb:Q' b=Q b:=by simp only [Q',if_neg (fun h=>hSb (.inl h)),if_neg (fun h=>hSb (.inr h))]
      exact hQ.inj a b ha hb (by omega) (by omega)
  refine ⟨Q',hQ',?_,?_⟩
  ·have:i≠n:=by omega
   simp [Q',this,hSi]
  ·have hsum:tot w n P'+tot w (n+1) Q'=tot w n P+tot w (n+1) Q:=by
    have e1:sg n (fun r=>w r (P' r)+w r (Q' r))=sg n (fun r=>w r (P r)+w r (Q r))+((w i (P' i)+w i (Q' i)) - (w i (P i)+w i (Q i))):=by
     refine sg_upd hi fun r hr hne=>?_
     have hn:r≠n:=by omega
     by_cases hS:S r
     ·simp only [P',Q',if_neg hne,if_neg hn,if_pos hS];omega
     ·simp only [P',Q',if_neg hne,if_neg hn,if_neg hS]
    rw [sg_add,sg_add] at e1
    have e2:P' i=Q n:=by simp [P']
    have e3:Q' i=P i:=by have:i≠n:=by omega
                         simp [Q',this,hSi]
    have e4:Q' n=Q i:=by simp [Q']
    have e5:=hw (Q n) (hQ.le n (by omega))
    have e6:=hw (Q i) (hQ.le i (by omega))
    unfold tot
    rw [sg_succ,sg_succ,e4]
    rw [e2,e3] at e1
    omega
   have:=hO P' hP'
   omega
 ·-- the rows met never come to i
  classical
  let S:Nat→Prop:=fun s=>∃ k,orb n m P Q k=some s
  have hSn:S n:=⟨0,rfl⟩
  have hSi:¬ S i:=hA
  have prev:∀ s,S s→s≠n→∃ r,S r∧Q r < m∧s < n∧P s=Q r:=by
   rintro s ⟨j,hs⟩ hne
   obtain ⟨j',r,rfl,h1,h2,h3,h4⟩:=orb_prev hs hne
   exact ⟨r,⟨j',h1⟩,h2,h3,h4⟩
  have next:∀ s r,S s→Q s < m→r < n→P r=Q s→S r:=by
   rintro s r ⟨j,hs⟩ h1 h2 h3
   exact ⟨j+1,orb_next hP hs h1 h2 h3⟩
  let R:Nat→Nat:=fun r=>if S r then Q r else P r
  let R':Nat→Nat:=fun r=>if S r then P r else Q r
  have hR:Asg (n+1) m R:=by
   constructor
   ·intro r hr
    simp only [R]
    split
    ·exact hQ.le r (by omega)
    ·rename_i h
     have:r≠n:=fun e=>h (e ▸ hSn)
     exact hP.le r (by omega)
   ·intro a b ha hb he hm
    by_cases ha':S a <;> by_cases hb':S b <;> simp only [R,ha',hb',if_true,if_false] at he hm
    ·exact hQ.inj a b ha hb he hm
    ·have:b≠n:=fun e=>hb' (e ▸ hSn)
     exact absurd (next a b ha' hm (by omega) he.symm) hb'
    ·have:a≠n:=fun e=>ha' (e ▸ hSn)
     exact absurd (next b a hb' (by omega) (by omega) he) ha'
    ·have:b≠n:=fun e=>hb' (e ▸ hSn)
     have:a≠n:=fun e=>ha' (e ▸ hSn)
     exact hP.inj a b (by omega) (by omega) he hm
  have hR':Asg n m R':=by
   constructor
   ·intro r hr
    simp only [R']
    split
    ·exact hP.le r hr
    ·exact hQ.le r (by omega)
   ·intro a b ha hb he hm
    by_cases ha':S a <;> by_cases hb':S b <;> simp only [R',ha',hb',if_true,if_false] at he hm
    ·exact hP.inj a b ha hb he hm
    ·obtain ⟨r,h1,h2,h3,h4⟩:=prev a ha' (by omega)
     have hrn:r≤n:=by obtain ⟨j,hs⟩:=h1;by_cases e:r=n;omega;obtain ⟨_,_,_,_,_,h,_⟩:=orb_prev hs e;omega
     have:=hQ.inj r b (by omega) (by omega) (by omega) h2
     exact absurd (this ▸ h1) hb'
    ·obtain ⟨r,h1,h2,h3,h4⟩:=prev b hb' (by omega)
     have hrn:r≤n:=by obtain ⟨j,hs⟩:=h1;by_cases e:r=n;omega;obtain ⟨_,_,_,_,_,h,_⟩:=orb_prev hs e;omega
     have:=hQ.inj r a (by omega) (by omega) (by omega) h2
     exact absurd (this ▸ h1) ha'
    ·exact hQ.inj a b (by omega) (by omega) he hm
  refine ⟨R,hR,by simp only [R,if_neg hSi],?_⟩
  have hsum:tot w n R'+tot w (n+1) R=tot w n P+tot w (n+1) Q:=by
   have e1:sg n (fun r=>w r (R' r)+w r (R r))=sg n (fun r=>w r (P r)+w r (Q r)):=by
    refine sg_congr fun r hr=>?_
    by_cases hS:S r
    ·simp only [R,R',if_pos hS]
    ·simp only [R,R',if_neg hS];omega
   rw [sg_add,sg_add] at e1
   have e2:R n=Q n:=by simp only [R,if_pos hSn]
   unfold tot
   rw [sg_succ,sg_succ,e2]
   omega
  have:=hO R' hR'
  omega
end

section
variable {n m:Nat} {P Q:Nat→Nat} {c:Nat→Nat→Int} {d e:Nat→Int} {u v:Nat→Int}

structure Feas (c:Nat→Nat→Int) (d e:Nat→Int) (n m:Nat) (u v:Nat→Int):Prop where
 c:∀ i,i < n→∀ j,j < m→u i+v j≤c i j
 d:∀ i,i < n→u i≤d i
 e:∀ j,j < m→v j≤e j
theorem weak (h:Feas c d e n m u v) (hP:Asg n m P):sg n u+sg m v≤cost c d e n m P:=by
 rw [cost_tot hP]
 have h1:=col hP (fun j=>v j - e j)
 have h2:sg m (fun j=>v j - e j)≤sg m (fun j=>if used P n j then v j - e j else 0):=sg_le fun j hj=>by
  have:=h.e j hj
  split <;> omega
 rw [sg_sub] at h2
 have h3:sg n (fun i=>u i+if P i < m then v (P i) - e (P i) else 0)≤tot (wt c d e m) n P:=sg_le fun i hi=>by
  show _≤wt c d e m i (P i)
  unfold wt
  split
  ·rename_i hp;have:=h.c i hi _ hp;omega
  ·have:=h.d i hi;omega
 rw [sg_add] at h3
 omega

def dupc (c:Nat→Nat→Int) (n i:Nat):Nat→Nat→Int:=fun r=>if r=n then c i else c r
def dupd (d:Nat→Int) (n i:Nat):Nat→Int:=fun r=>if r=n then d i else d r
theorem dup_wt {i:Nat} (hi:i < n) (k:Nat):wt (dupc c n i) (dupd d n i) e m n k=wt (dupc c n i) (dupd d n i) e m i k:=by
 have:i≠n:=by omega
 simp [wt,dupc,dupd,this]
theorem dup_wt' {i r:Nat} (hr:r < n) (k:Nat):wt (dupc c n i) (dupd d n i) e m r k=wt c d e m r k:=by
 have:r≠n:=by omega
 simp [wt,dupc,dupd,this]
theorem dup_tot (i:Nat) (P:Nat→Nat):tot (wt (dupc c n i) (dupd d n i) e m) n P=tot (wt c d e m) n P:=sg_congr fun r hr=>dup_wt' hr _
theorem Feas.dup (h:Feas c d e n m u v) {i:Nat} (hi:i < n):Feas (dupc c n i) (dupd d n i) e (n+1) m (fun r=>if r=n then u i else u r) v:=by
 refine ⟨fun r hr j hj=>?_,fun r hr=>?_,h.e⟩
 ·by_cases e:r=n
  ·simp only [dupc,if_pos e];exact h.c i hi j hj
  ·simp only [dupc,if_neg e];exact h.c r (by omega) j hj
 ·by_cases e:r=n
  ·simp only [dupd,if_pos e];exact h.d i hi
  ·simp only [dupd,if_neg e];exact h.d r (by omega)

def put (P:Nat→Nat) (n k:Nat):Nat→Nat:=fun r=>if r=n then k else P r
theorem put_asg (h:Asg n m P) {k:Nat} (hk:k≤m) (hu:k < m→used P n k=false):Asg (n+1) m (put P n k):=by
 refine ⟨fun i hi=>?_,fun i j hi hj he hm=>?_⟩
 ·unfold put;split;exact hk;exact h.le i (by omega)
 ·by_cases e1:i=n <;> by_cases e2:j=n <;> simp only [put,e1,e2,if_true,if_false] at he hm
  ·omega
  ·exact absurd he.symm (used_not.1 (hu hm) j (by omega))
  ·exact absurd he (used_not.1 (hu (by omega)) i (by omega))
  ·exact h.inj i j (by omega) (by omega) he hm
theorem put_tot (w:Nat→Nat→Int) (k:Nat):tot w (n+1) (put P n k)=tot w n P+w n k:=by
 unfold tot
 rw [sg_succ,sg_congr (g:=fun i=>w i (P i)) (fun i hi=>by have:i≠n:=by omega
                                                          simp [put,this])]
 simp [put]

def cut (P:Nat→Nat) (n i:Nat):Nat→Nat:=fun r=>if r=i then P n else P r
theorem cut_asg {i:Nat} (hi:i < n) (h:Asg (n+1) m P):Asg n m (cut P n i):=by
 refine ⟨fun r hr=>?_,fun a b ha hb he hm=>?_⟩
 ·unfold cut;split;exact h.le n (by omega);exact h.le r (by omega)
 ·by_cases e1:a=i <;> by_cases e2:b=i <;> simp only [cut,e1,e2,if_true,if_false] at he hm
  ·omega
  ·have:=h.inj n b (by omega) (by omega) he hm;omega
  ·have:=h.inj a n (by omega) (by omega) he hm;omega
  ·exact h.inj a b (by omega) (by omega) he hm
theorem cut_tot {w:Nat→Nat→Int} {i:Nat} (hi:i < n) (hw:∀ k,w n k=w i k):tot w n (cut P n i)+w i (P i)=tot w (n+1) P:=by
 unfold tot
 rw [sg_succ,sg_upd (g:=fun r=>w r (P r)) hi (fun r hr hne=>by simp [cut,hne])]
 simp [cut,hw];omega
theorem cut_unused {i:Nat} (hi:i < n) (h:Asg (n+1) m P) (hp:P i < m):used (cut P n i) n (P i)=false:=used_not.2 fun r hr he=>by
 by_cases e:r=i
 ·simp only [cut,if_pos e] at he;have:=h.inj n i (by omega) (by omega) he (by omega);omega
 ·simp only [cut,if_neg e] at he;have:=h.inj r i (by omega) (by omega) he (by omega);omega

structure Pot (c:Nat→Nat→Int) (d e:Nat→Int) (n m:Nat) (v:Int) (U V:Nat→Int):Prop where
 opt:Opt c d e n m v
 more:∀ i,i < n→Opt (dupc c n i) (dupd d n i) e (n+1) m (U i+v)
 ve:∀ j,j < m→V j≤e j
 vc:∀ j,j < m→∀ i,i < n→V j≤c i j - U i
 vis:∀ j,j < m→V j=e j∨∃ i,i < n∧V j=c i j - U i
theorem Pot.feas {v0:Int} {U V:Nat→Int} (h:Pot c d e n m v0 U V):Feas c d e n m U V:=by
 refine ⟨fun i hi j hj=>by have:=h.vc j hj i hi;omega,fun i hi=>?_,h.ve⟩
 obtain ⟨P,hP,hv⟩:=h.opt.has
 have h1:=(h.more i hi).low (put P n m) (put_asg hP (Nat.le_refl _) (fun h=>by omega))
 rw [cost_tot (put_asg hP (Nat.le_refl _) (fun h=>by omega)),put_tot,dup_tot] at h1
 rw [cost_tot hP] at hv
 have:wt (dupc c n i) (dupd d n i) e m n m=d i:=by simp [wt,dupd]
 omega

theorem Pot.at {v0:Int} {U V:Nat→Int} (h:Pot c d e n m v0 U V) {P:Nat→Nat} (hP:Asg n m P) (hv:cost c d e n m P=v0) {i:Nat} (hi:i < n) :
  ∃ R,Asg (n+1) m R∧R i=P i∧sg m e+tot (wt (dupc c n i) (dupd d n i) e m) (n+1) R=U i+v0:=by
 obtain ⟨Q,hQ,hq⟩:=(h.more i hi).has
 rw [cost_tot hQ] at hq
 obtain ⟨R,h1,h2,h3⟩:=exch (w:=wt (dupc c n i) (dupd d n i) e m) hi (fun k _=>dup_wt hi k) hP hQ (fun R hR=>by
  rw [dup_tot,dup_tot]
  have:=h.opt.low R hR
  rw [cost_tot hR] at this
  rw [cost_tot hP] at hv
  omega)
 have h4:=(h.more i hi).low R h1
 rw [cost_tot h1] at h4
 exact ⟨R,h1,h2,by omega⟩
theorem Pot.slack {v0:Int} {U V:Nat→Int} (h:Pot c d e n m v0 U V) {P:Nat→Nat} (hP:Asg n m P) (hv:cost c d e n m P=v0) :
  (∀ i,i < n→P i < m→U i+V (P i)=c i (P i))∧(∀ i,i < n→P i=m→U i=d i)∧∀ j,j < m→used P n j=false→V j=e j:=by
 have hF:=h.feas
 have hv':=hv
 rw [cost_tot hP] at hv'
 refine ⟨fun i hi hp=>?_,fun i hi hp=>?_,fun j hj hu=>?_⟩
 ·obtain ⟨R,h1,h2,h3⟩:=h.at hP hv hi
  have hR:=cut_asg hi h1
  have e1:=cut_tot (P:=R) (w:=wt (dupc c n i) (dupd d n i) e m) hi (fun k=>dup_wt hi k)
  have e2:wt (dupc c n i) (dupd d n i) e m i (R i)=c i (P i) - e (P i):=by rw [dup_wt' hi,h2,wt,if_pos hp]
  rw [dup_tot] at e1
  have hun:used (cut R n i) n (P i)=false:=h2 ▸ cut_unused hi h1 (by omega)
  -- the column is free without row i
  have hlow:=hF.c i hi _ hp
  rcases h.vis _ hp with hV | ⟨i',hi',hV⟩
  ·have:=h.opt.low _ hR
   rw [cost_tot hR] at this
   omega
  ·have hp':=put_asg hR (Nat.le_of_lt hp) (fun _=>hun)
   have:=(h.more i' hi').low _ hp'
   rw [cost_tot hp',put_tot,dup_tot] at this
   have e3:wt (dupc c n i') (dupd d n i') e m n (P i)=c i' (P i) - e (P i):=by simp [wt,dupc,hp]
   omega
 ·obtain ⟨R,h1,h2,h3⟩:=h.at hP hv hi
  have hR:=cut_asg hi h1
  have e1:=cut_tot (P:=R) (w:=wt (dupc c n i) (dupd d n i) e m) hi (fun k=>dup_wt hi k)
  have e2:wt (dupc c n i) (dupd d n i) e m i (R i)=d i:=by rw [dup_wt' hi,h2,wt,if_neg (by omega)]
  rw [dup_tot] at e1
  have:=h.opt.low _ hR
  rw [cost_tot hR] at this
  have:=hF.d i hi
  omega
 ·rcases h.vis j hj with hV | ⟨i,hi,hV⟩
  ·exact hV
  ·have hp':=put_asg hP (Nat.le_of_lt hj) (fun _=>hu)
   have:=(h.more i hi).low _ hp'
   rw [cost_tot hp',put_tot,dup_tot] at this
   have e3:wt (dupc c n i) (dupd d n i) e m n j=c i j - e j:=by simp [wt,dupc,hj]
   have:=h.ve j hj
   omega
theorem Pot.sum {v0:Int} {U V:Nat→Int} (h:Pot c d e n m v0 U V):sg n U+sg m V=v0:=by
 obtain ⟨P,hP,hv⟩:=h.opt.has
 obtain ⟨h1,h2,h3⟩:=h.slack hP hv
 have e1:=col hP (fun j=>V j - e j)
 have e2:sg m (fun j=>if used P n j then V j - e j else 0)=sg m (fun j=>V j - e j):=sg_congr fun j hj=>by
  cases hu:used P n j
  ·have:=h3 j hj hu;simp;omega
  ·simp
 have e3:sg n (fun i=>U i+if P i < m then V (P i) - e (P i) else 0)=tot (wt c d e m) n P:=sg_congr fun i hi=>by
  show _=wt c d e m i (P i)
  unfold wt
  split
  ·rename_i hp;have:=h1 i hi hp;omega
  ·have:=h2 i hi (by have:=hP.le i hi;omega);omega
 rw [sg_add] at e3
 rw [sg_sub] at e2
 rw [cost_tot hP] at hv
 omega

theorem Pot.most {v0:Int} {U V:Nat→Int} (h:Pot c d e n m v0 U V) {u v:Nat→Int} (hF:Feas c d e n m u v) (hs:sg n u+sg m v=v0) {i:Nat} (hi:i < n):u i≤U i:=by
 obtain ⟨P,hP,hv⟩:=(h.more i hi).has
 have:=weak (hF.dup hi) hP
 rw [sg_succ,sg_congr (g:=u) (fun r hr=>by have:r≠n:=by omega
                                           simp [this])] at this
 simp at this
 omega
theorem Opt.weak {v0:Int} (h:Opt c d e n m v0) {u v:Nat→Int} (hF:Feas c d e n m u v):sg n u+sg m v≤v0:=by
 obtain ⟨P,hP,hv⟩:=h.has
 rw [←hv];exact Asg.weak hF hP

theorem Pot.low {v0:Int} {U V:Nat→Int} {E:Int} (h:Pot c d e n m v0 U V) (hc:∀ i,i < n→∀ j,j < m→0≤c i j) (hd:∀ i,i < n→0≤d i) (he:∀ j,j < m→0≤e j∧e j≤E) (hE:0≤E) {i:Nat} (hi:i < n) : -E≤U i:=by
 obtain ⟨Q,hQ,hq⟩:=(h.more i hi).has
 rw [cost_tot hQ] at hq
 have hR:=cut_asg hi hQ
 have e1:=cut_tot (P:=Q) (w:=wt (dupc c n i) (dupd d n i) e m) hi (fun k=>dup_wt hi k)
 rw [dup_tot,dup_wt' hi] at e1
 have:=h.opt.low _ hR
 rw [cost_tot hR] at this
 have h5 : -E≤wt c d e m i (Q i):=by
  unfold wt
  split
  ·rename_i hp;have:=hc i hi _ hp;have:=he _ hp;omega
  ·have:=hd i hi;omega
 omega
end
end Go.CH.Asg
namespace Go.CH.Asg

def mnl (U:Nat→Bool) (f:Nat→Int) (a:Int):Nat→Int
 | 0=>a
 | j+1=>if U j then mnl U f a j else min (mnl U f a j) (f j)
section
variable {U:Nat→Bool} {f:Nat→Int} {a:Int} {m:Nat}
theorem mnl_init:mnl U f a m≤a:=by
 induction m with
 | zero=>exact Int.le_refl _
 | succ m ih=>unfold mnl;split;exact ih;omega
theorem mnl_at {j:Nat} (hj:j < m) (hu:U j=false):mnl U f a m≤f j:=by
 induction m with
 | zero=>omega
 | succ m ih =>
  unfold mnl
  by_cases e:j=m
  ·subst e;rw [hu];simp;omega
  ·split
   ·exact ih (by omega)
   ·have:=ih (by omega);omega
theorem mnl_is:mnl U f a m=a∨∃ j,j < m∧U j=false∧mnl U f a m=f j:=by
 induction m with
 | zero=>exact .inl rfl
 | succ m ih =>
  unfold mnl
  by_cases hu:U m=true
  ·rw [if_pos hu]
   rcases ih with h | ⟨j,h1,h2,h3⟩
   ·exact .inl h
   ·exact .inr ⟨j,by omega,h2,h3⟩
  ·rw [if_neg hu]
   by_cases hm:mnl U f a m≤f m
   ·rw [Int.min_eq_left hm]
    rcases ih with h | ⟨j,h1,h2,h3⟩
    ·exact .inl h
    ·exact .inr ⟨j,by omega,h2,h3⟩
   ·rw [Int.min_eq_right (by omega)]
    exact .inr ⟨m,by omega,by simpa using hu,rfl⟩
theorem mnl_congr {g:Nat→Int} {V:Nat→Bool} (h:∀ j,j < m→f j=g j) (hu:∀ j,j < m→U j=V j):mnl U f a m=mnl V g a m:=by
 induction m with
 | zero=>rfl
 | succ m ih =>
  unfold mnl
  rw [ih (fun j hj=>h j (by omega)) (fun j hj=>hu j (by omega)),h m (by omega),hu m (by omega)]
end
def ins (U:Nat→Bool) (j:Nat):Nat→Bool:=fun x=>U x || x == j
def noU:Nat→Bool:=fun _=>false

def L (c:Nat→Nat→Int) (d e:Nat→Int) (n m:Nat):Nat→(Nat→Bool)→Int
 | 0,U=>sg m (fun j=>if U j then 0 else e j)
 | k+1,U=>mnl U (fun j=>c (n - (k+1)) j+L c d e n m k (ins U j)) (d (n - (k+1))+L c d e n m k U) m

def cs (c:Nat→Nat→Int) (d e:Nat→Int) (m:Nat):Nat→(Nat→Bool)→List Int→Option Int
 | _,U,[]=>some (sg m (fun j=>if U j then 0 else e j))
 | i,U,p :: ps=>if p < 0∨(m:Int) < p∨(p < m∧U p.toNat=true) then none
  else if p=m then (cs c d e m (i+1) U ps).map (d i + ·) else (cs c d e m (i+1) (ins U p.toNat) ps).map (c i p.toNat + ·)

def gr (c:Nat→Nat→Int) (d e:Nat→Int) (n m:Nat):Nat→(Nat→Bool)→List Int
 | 0,_=>[]
 | k+1,U=>match (List.range m).find? (fun j => !U j && decide (c (n - (k+1)) j+L c d e n m k (ins U j)=L c d e n m (k+1) U)) with
  | some j=>(j:Int) :: gr c d e n m k (ins U j)
  | none=>(m:Int) :: gr c d e n m k U

def before:List Int→List Int→Bool
 | a :: xs,b :: ys=>if a=b then before xs ys else decide (a < b)
 | _,_=>false
section
variable {c:Nat→Nat→Int} {d e:Nat→Int} {n m:Nat}
theorem gr_len (k:Nat) (U:Nat→Bool):(gr c d e n m k U).length=k:=by
 induction k generalizing U with
 | zero=>rfl
 | succ k ih=>unfold gr;split <;> simp [ih]
theorem first_some {p:Nat→Bool} {j:Nat} (h:(List.range m).find? p=some j):j < m∧p j=true∧∀ i,i < j→p i=false:=by
 rw [List.find?_range_eq_some] at h
 obtain ⟨h1,h2,h3⟩:=h
 exact ⟨List.mem_range.1 h2,h1,fun i hi=>by simpa using h3 i hi⟩
theorem first_none {p:Nat→Bool} (h:(List.range m).find? p=none):∀ i,i < m→p i=false:=by
 rw [List.find?_eq_none] at h
 exact fun i hi=>by simpa using h i (List.mem_range.2 hi)
theorem cs_low {k:Nat} {U:Nat→Bool} {ps:List Int} {v:Int} (hk:k≤n) (hl:ps.length=k) (h:cs c d e m (n - k) U ps=some v):L c d e n m k U≤v:=by
 induction k generalizing U ps v with
 | zero =>
  obtain rfl:=List.length_eq_zero_iff.1 hl
  simp only [cs,Option.some.injEq] at h
  rw [←h];exact Int.le_refl _
 | succ k ih =>
  cases ps with
  | nil=>simp at hl
  | cons p ps =>
   simp only [cs] at h
   split at h
   ·cases h
   ·rename_i hp
    have hp:0≤p∧p≤m∧(p < m→U p.toNat=false):=by
     refine ⟨by omega,by omega,fun h=>?_⟩
     cases hU:U p.toNat
     ·rfl
     ·exact absurd (.inr (.inr ⟨h,hU⟩)) hp
    have e1:n - (k+1)+1=n - k:=by omega
    rw [e1] at h
    split at h
    ·obtain ⟨u,h1,rfl⟩:=Option.map_eq_some_iff.1 h
     have:=ih (by omega) (by simpa using hl) h1
     have h2:=mnl_init (U:=U) (f:=fun j=>c (n - (k+1)) j+L c d e n m k (ins U j)) (a:=d (n - (k+1))+L c d e n m k U) (m:=m)
     show mnl _ _ _ _≤_
     omega
    ·obtain ⟨u,h1,rfl⟩:=Option.map_eq_some_iff.1 h
     have:=ih (by omega) (by simpa using hl) h1
     have h2:=mnl_at (U:=U) (f:=fun j=>c (n - (k+1)) j+L c d e n m k (ins U j)) (a:=d (n - (k+1))+L c d e n m k U) (m:=m) (j:=p.toNat) (by omega) (hp.2.2 (by omega))
     show mnl _ _ _ _≤_
     omega
theorem gr_cs {k:Nat} (hk:k≤n) (U:Nat→Bool):cs c d e m (n - k) U (gr c d e n m k U)=some (L c d e n m k U):=by
 induction k generalizing U with
 | zero=>rfl
 | succ k ih =>
  have e1:n - (k+1)+1=n - k:=by omega
  unfold gr
  split
  ·rename_i j hj
   obtain ⟨h1,h2,-⟩:=first_some hj
   simp only [Bool.and_eq_true,Bool.not_eq_true',decide_eq_true_eq] at h2
   simp only [cs]
   rw [if_neg (by rintro (h | h | ⟨-,h⟩);omega;omega;rw [Int.toNat_natCast,h2.1] at h;cases h),if_neg (by omega),e1,Int.toNat_natCast,ih (by omega),Option.map_some]
   exact congrArg some h2.2
  ·rename_i hn
   have h1:=first_none hn
   simp only [cs]
   rw [if_neg (by rintro (h | h | ⟨h,-⟩) <;> omega)]
   simp only [if_true]
   rw [e1,ih (by omega),Option.map_some]
   refine congrArg some ?_
   rcases mnl_is (U:=U) (f:=fun j=>c (n - (k+1)) j+L c d e n m k (ins U j)) (a:=d (n - (k+1))+L c d e n m k U) (m:=m) with h | ⟨j,g1,g2,g3⟩
   ·exact h.symm
   ·have:=h1 j g1
    rw [g2] at this
    simp only [Bool.not_false,Bool.true_and,decide_eq_false_iff_not] at this
    exact absurd g3.symm this

theorem used_front (P:Nat→Nat) (n j:Nat):used P (n+1) j=(P 0 == j || used (fun i=>P (i+1)) n j):=by
 rw [Bool.eq_iff_iff]
 simp only [Bool.or_eq_true,beq_iff_eq,used_iff]
 constructor
 ·rintro ⟨i,h1,h2⟩
  cases i with
  | zero=>exact .inl h2
  | succ i=>exact .inr ⟨i,by omega,h2⟩
 ·rintro (h | ⟨i,h1,h2⟩)
  ·exact ⟨0,by omega,h⟩
  ·exact ⟨i+1,by omega,h2⟩

structure AsgU (k m:Nat) (U:Nat→Bool) (P:Nat→Nat):Prop where
 asg:Asg k m P
 free:∀ i,i < k→P i < m→U (P i)=false
def costU (c:Nat→Nat→Int) (d e:Nat→Int) (m i k:Nat) (U:Nat→Bool) (P:Nat→Nat):Int :=
 sg k (fun r=>if P r < m then c (i+r) (P r) else d (i+r))+sg m (fun j=>if U j || used P k j then 0 else e j)
def lp (ps:List Int):Nat→Nat:=fun r=>(ps.getD r 0).toNat
theorem costU_front {i k:Nat} {U:Nat→Bool} {P:Nat→Nat}:costU c d e m i (k+1) U P=(if P 0 < m then c i (P 0) else d i)+costU c d e m (i+1) k (if P 0 < m then ins U (P 0) else U) (fun r=>P (r+1)):=by
 unfold costU
 rw [sg_front,Int.add_assoc]
 have e1:sg k (fun r=>if P (r+1) < m then c (i+(r+1)) (P (r+1)) else d (i+(r+1)))=sg k (fun r=>if P (r+1) < m then c (i+1+r) (P (r+1)) else d (i+1+r)):=sg_congr fun r _=>by
  have:i+(r+1)=i+1+r:=by omega
  rw [this]
 have e2:sg m (fun j=>if U j || used P (k+1) j then 0 else e j)=sg m (fun j=>if (if P 0 < m then ins U (P 0) else U) j || used (fun r=>P (r+1)) k j then 0 else e j):=sg_congr fun j hj=>by
  rw [used_front]
  by_cases h:P 0 < m
  ·rw [if_pos h];unfold ins
   have:(P 0 == j)=(j == P 0):=by rw [Bool.eq_iff_iff];simp;omega
   rw [this,Bool.or_assoc]
  ·rw [if_neg h]
   have:(P 0 == j)=false:=by simp;omega
   rw [this,Bool.false_or]
 rw [e1,e2];simp
theorem asgU_front {k:Nat} {U:Nat→Bool} {P:Nat→Nat} (h0:P 0≤m) (hU:P 0 < m→U (P 0)=false) (h:AsgU k m (if P 0 < m then ins U (P 0) else U) (fun r=>P (r+1))):AsgU (k+1) m U P:=by
 have hf:∀ i,i < k→P (i+1) < m→U (P (i+1))=false∧(P 0 < m→P (i+1)≠P 0):=by
  intro i hi hp
  have:=h.free i hi hp
  by_cases h1:P 0 < m
  ·rw [if_pos h1] at this
   simp only [ins,Bool.or_eq_false_iff,beq_eq_false_iff_ne] at this
   exact ⟨this.1,fun _=>this.2⟩
  ·rw [if_neg h1] at this;exact ⟨this,fun h=>absurd h h1⟩
 refine ⟨⟨fun i hi=>?_,fun i j hi hj he hm=>?_⟩,fun i hi hp=>?_⟩
 ·cases i with
  | zero=>exact h0
  | succ i=>exact h.asg.le i (by omega)
 ·cases i with
  | zero =>
   cases j with
   | zero=>rfl
   | succ j=>exact absurd he.symm ((hf j (by omega) (by omega)).2 hm)
  | succ i =>
   cases j with
   | zero=>exact absurd he ((hf i (by omega) hm).2 (by omega))
   | succ j=>have:=h.asg.inj i j (by omega) (by omega) he hm;omega
 ·cases i with
  | zero=>exact hU hp
  | succ i=>exact (hf i (by omega) hp).1
theorem asgU_back {k:Nat} {U:Nat→Bool} {P:Nat→Nat} (h:AsgU (k+1) m U P):AsgU k m (if P 0 < m then ins U (P 0) else U) (fun r=>P (r+1)):=by
 refine ⟨⟨fun i hi=>h.asg.le _ (by omega),fun i j hi hj he hm=>by have:=h.asg.inj (i+1) (j+1) (by omega) (by omega) he hm;omega⟩,fun i hi hp=>?_⟩
 have h1:=h.free (i+1) (by omega) hp
 by_cases h0:P 0 < m
 ·rw [if_pos h0]
  simp only [ins,h1,Bool.false_or,beq_eq_false_iff_ne]
  intro he
  have:=h.asg.inj (i+1) 0 (by omega) (by omega) he hp
  omega
 ·rw [if_neg h0];exact h1
theorem cs_some {i:Nat} {U:Nat→Bool} {ps:List Int} {v:Int} (h:cs c d e m i U ps=some v):AsgU ps.length m U (lp ps)∧v=costU c d e m i ps.length U (lp ps)∧∀ p ∈ ps,0≤p∧p≤m:=by
 induction ps generalizing i U v with
 | nil =>
  simp only [cs,Option.some.injEq] at h
  refine ⟨⟨⟨fun i hi=>by simp at hi,fun i j hi=>by simp at hi⟩,fun i hi=>by simp at hi⟩,?_,fun p hp=>by simp at hp⟩
  rw [←h];unfold costU
  simp [sg,used]
 | cons p ps ih =>
  simp only [cs] at h
  split at h
  ·cases h
  rename_i hp
  have hp:0≤p∧p≤m∧(p < m→U p.toNat=false):=by
   refine ⟨by omega,by omega,fun h=>?_⟩
   cases hU:U p.toNat
   ·rfl
   ·exact absurd (.inr (.inr ⟨h,hU⟩)) hp
  have e0:lp (p :: ps) 0=p.toNat:=rfl
  have e1:(fun r=>lp (p :: ps) (r+1))=lp ps:=rfl
  have hm:∀ q ∈ ps,0≤q∧q≤m→True:=fun _ _ _=>trivial
  split at h
  ·rename_i hpm
   obtain ⟨u,h1,rfl⟩:=Option.map_eq_some_iff.1 h
   obtain ⟨g1,g2,g3⟩:=ih h1
   have hn:¬ lp (p :: ps) 0 < m:=by rw [e0];omega
   refine ⟨asgU_front (by rw [e0];omega) (fun h=>absurd h hn) (by rw [if_neg hn,e1];exact g1),?_,?_⟩
   ·rw [List.length_cons,costU_front,if_neg hn,if_neg hn,e1,←g2]
   ·intro q hq;rcases List.mem_cons.1 hq with rfl | hq;exact ⟨hp.1,hp.2.1⟩;exact g3 q hq
  ·rename_i hpm
   obtain ⟨u,h1,rfl⟩:=Option.map_eq_some_iff.1 h
   obtain ⟨g1,g2,g3⟩:=ih h1
   have hn:lp (p :: ps) 0 < m:=by rw [e0];omega
   refine ⟨asgU_front (by rw [e0];omega) (fun h=>by rw [e0];exact hp.2.2 (by omega)) (by rw [if_pos hn,e1,e0];exact g1),?_,?_⟩
   ·rw [List.length_cons,costU_front,if_pos hn,if_pos hn,e1,e0,←g2]
   ·intro q hq;rcases List.mem_cons.1 hq with rfl | hq;exact ⟨hp.1,hp.2.1⟩;exact g3 q hq
def pl (P:Nat→Nat) (k:Nat):List Int:=(List.range k).map (fun i=>(P i:Int))
theorem pl_len (P:Nat→Nat) (k:Nat):(pl P k).length=k:=by simp [pl]
theorem pl_front (P:Nat→Nat) (k:Nat):pl P (k+1)=(P 0:Int) :: pl (fun r=>P (r+1)) k:=by
 unfold pl;rw [List.range_succ_eq_map];simp
theorem cs_of {i k:Nat} {U:Nat→Bool} {P:Nat→Nat} (h:AsgU k m U P):cs c d e m i U (pl P k)=some (costU c d e m i k U P):=by
 induction k generalizing i U P with
 | zero=>simp [pl,cs,costU,sg,used]
 | succ k ih =>
  have h1:=ih (i:=i+1) (asgU_back h)
  have h0:=h.asg.le 0 (by omega)
  rw [pl_front,costU_front]
  simp only [cs]
  by_cases hp:P 0 < m
  ·have hU:=h.free 0 (by omega) hp
   rw [if_pos hp] at h1
   rw [if_neg (by rintro (h | h | ⟨-,h⟩);omega;omega;rw [Int.toNat_natCast,hU] at h;cases h),if_neg (by omega),Int.toNat_natCast,if_pos hp,if_pos hp,h1,Option.map_some]
  ·rw [if_neg hp] at h1
   rw [if_neg (by rintro (h | h | ⟨h,-⟩) <;> omega),if_pos (by omega),if_neg hp,if_neg hp,h1,Option.map_some]
theorem costU_cost (P:Nat→Nat):costU c d e m 0 n noU P=cost c d e n m P:=by
 unfold costU cost noU
 simp
theorem asgU_no {P:Nat→Nat} (h:Asg n m P):AsgU n m noU P:=⟨h,fun _ _ _=>rfl⟩

theorem L_opt:Opt c d e n m (L c d e n m n noU):=by
 constructor
 ·have h:=gr_cs (c:=c) (d:=d) (e:=e) (n:=n) (m:=m) (Nat.le_refl n) noU
  rw [Nat.sub_self] at h
  obtain ⟨h1,h2,-⟩:=cs_some h
  rw [gr_len] at h1 h2
  exact ⟨_,h1.asg,by rw [h2,costU_cost]⟩
 ·intro P hP
  have h:=cs_of (c:=c) (d:=d) (e:=e) (i:=0) (asgU_no hP)
  rw [costU_cost] at h
  exact cs_low (Nat.le_refl n) (pl_len P n) (by rw [Nat.sub_self];exact h)
end
end Go.CH.Asg
namespace Go.CH.Asg

def GR0 (e:Nat→Int) (m:Nat):Nat→Int
 | 0=>0
 | b+1=>e (m - (b+1))+GR0 e m b

def GRs (c:Nat→Nat→Int) (d e:Nat→Int) (m i:Nat) (f:Nat→Int):Nat→Int
 | 0=>d i+f 0
 | b+1=>min (min (d i+f (b+1)) (e (m - (b+1))+GRs c d e m i f b)) (c i (m - (b+1))+f b)

def GR (c:Nat→Nat→Int) (d e:Nat→Int) (n m:Nat):Nat→Nat→Int
 | 0=>GR0 e m
 | a+1=>GRs c d e m (n - (a+1)) (GR c d e n m a)

def gro (c:Nat→Nat→Int) (d e:Nat→Int) (n m:Nat):Nat→Nat→List Int
 | 0,_=>[]
 | a+1,b=>match (List.range b).find? (fun t=>decide (sg t (fun x=>e (m - b+x))+c (n - (a+1)) (m - b+t)+GR c d e n m a (b - (t+1))=GR c d e n m (a+1) b)) with
  | some t=>((m - b+t:Nat):Int) :: gro c d e n m a (b - (t+1))
  | none=>(m:Int) :: gro c d e n m a b

def keeps (m:Nat):Int→List Int→Bool
 | _,[]=>true
 | l,p :: ps=>if p=m then keeps m l ps else if p≤l then false else keeps m p ps

def cso (c:Nat→Nat→Int) (d e:Nat→Int) (m:Nat):Nat→Nat→List Int→Option Int
 | _,f,[]=>some (sg (m - f) (fun x=>e (f+x)))
 | i,f,p :: ps=>if p=m then (cso c d e m (i+1) f ps).map (d i + ·)
  else if p < f∨(m:Int) < p then none else (cso c d e m (i+1) (p.toNat+1) ps).map (sg (p.toNat - f) (fun x=>e (f+x))+c i p.toNat + ·)
section
variable {c:Nat→Nat→Int} {d e:Nat→Int} {n m:Nat}
theorem gr_row (a b:Nat):GR c d e n m (a+1) b≤d (n - (a+1))+GR c d e n m a b:=by
 cases b with
 | zero=>exact Int.le_refl _
 | succ b=>show min (min _ _) _≤_;omega
theorem gr_col (a b:Nat):GR c d e n m a (b+1)≤e (m - (b+1))+GR c d e n m a b:=by
 cases a with
 | zero=>exact Int.le_refl _
 | succ a=>show min (min _ _) _≤_;exact Int.le_trans (Int.min_le_left _ _) (Int.min_le_right _ _)
theorem gr_diag (a b:Nat):GR c d e n m (a+1) (b+1)≤c (n - (a+1)) (m - (b+1))+GR c d e n m a b:=Int.min_le_right _ _
theorem sg_passed {b t:Nat} (hb:b+1≤m):sg (t+1) (fun x=>e (m - (b+1)+x))=e (m - (b+1))+sg t (fun x=>e (m - b+x)):=by
 rw [sg_front]
 congr 1
 exact sg_congr fun i _=>by congr 1;omega
theorem gr_pass (a:Nat) {b t:Nat} (hb:b≤m) (ht:t < b):GR c d e n m (a+1) b≤sg t (fun x=>e (m - b+x))+c (n - (a+1)) (m - b+t)+GR c d e n m a (b - (t+1)):=by
 induction b generalizing t with
 | zero=>omega
 | succ b ih =>
  cases t with
  | zero=>have:=gr_diag (c:=c) (d:=d) (e:=e) (n:=n) (m:=m) a b;simp only [sg,Nat.add_zero,Int.zero_add];exact this
  | succ t =>
   rw [sg_passed hb]
   have h1:=ih (t:=t) (by omega) (by omega)
   have h2:=gr_col (c:=c) (d:=d) (e:=e) (n:=n) (m:=m) (a+1) b
   have e1:m - (b+1)+(t+1)=m - b+t:=by omega
   have e2:b+1 - (t+1+1)=b - (t+1):=by omega
   rw [e1,e2];omega
theorem gr_is (a:Nat) {b:Nat} (hb:b≤m):GR c d e n m (a+1) b=d (n - (a+1))+GR c d e n m a b∨∃ t,t < b∧sg t (fun x=>e (m - b+x))+c (n - (a+1)) (m - b+t)+GR c d e n m a (b - (t+1))=GR c d e n m (a+1) b:=by
 induction b with
 | zero=>exact .inl rfl
 | succ b ih =>
  have h0:GR c d e n m (a+1) (b+1)=min (min (d (n - (a+1))+GR c d e n m a (b+1)) (e (m - (b+1))+GR c d e n m (a+1) b)) (c (n - (a+1)) (m - (b+1))+GR c d e n m a b):=rfl
  have h1:=gr_row (c:=c) (d:=d) (e:=e) (n:=n) (m:=m) a (b+1)
  by_cases h2:GR c d e n m (a+1) (b+1)=c (n - (a+1)) (m - (b+1))+GR c d e n m a b
  ·refine .inr ⟨0,by omega,?_⟩
   simp only [sg,Nat.add_zero,Int.zero_add];exact h2.symm
  ·by_cases h3:GR c d e n m (a+1) (b+1)=d (n - (a+1))+GR c d e n m a (b+1)
   ·exact .inl h3
   ·have h4:GR c d e n m (a+1) (b+1)=e (m - (b+1))+GR c d e n m (a+1) b:=by omega
    rcases ih (by omega) with g | ⟨t,g1,g2⟩
    ·have:=gr_col (c:=c) (d:=d) (e:=e) (n:=n) (m:=m) a b
     omega
    ·refine .inr ⟨t+1,by omega,?_⟩
     have e1:m - (b+1)+(t+1)=m - b+t:=by omega
     have e2:b+1 - (t+1+1)=b - (t+1):=by omega
     rw [sg_passed hb,e1,e2];omega
theorem gr0_sum {b:Nat} (hb:b≤m):GR0 e m b=sg b (fun x=>e (m - b+x)):=by
 induction b with
 | zero=>rfl
 | succ b ih=>rw [sg_passed hb,GR0,ih (by omega)]
theorem gro_len (a b:Nat):(gro c d e n m a b).length=a:=by
 induction a generalizing b with
 | zero=>rfl
 | succ a ih=>unfold gro;split <;> simp [ih]
theorem cso_low {a f:Nat} {ps:List Int} {v:Int} (ha:a≤n) (hf:f≤m) (hl:ps.length=a) (h:cso c d e m (n - a) f ps=some v):GR c d e n m a (m - f)≤v:=by
 induction a generalizing f ps v with
 | zero =>
  obtain rfl:=List.length_eq_zero_iff.1 hl
  simp only [cso,Option.some.injEq] at h
  show GR0 e m (m - f)≤v
  rw [←h,gr0_sum (by omega),show m - (m - f)=f from by omega]
  exact Int.le_refl _
 | succ a ih =>
  cases ps with
  | nil=>simp at hl
  | cons p ps =>
   have hl':ps.length=a:=by simpa using hl
   have e1:n - (a+1)+1=n - a:=by omega
   simp only [cso,e1] at h
   split at h
   ·obtain ⟨u,h1,rfl⟩:=Option.map_eq_some_iff.1 h
    have:=ih (by omega) hf hl' h1
    have:=gr_row (c:=c) (d:=d) (e:=e) (n:=n) (m:=m) a (m - f)
    omega
   ·split at h
    ·cases h
    ·obtain ⟨u,h1,rfl⟩:=Option.map_eq_some_iff.1 h
     have h2:=ih (by omega) (by omega) hl' h1
     have h3:=gr_pass (c:=c) (d:=d) (e:=e) (n:=n) (m:=m) a (b:=m - f) (t:=p.toNat - f) (by omega) (by omega)
     rw [show m - (m - f)=f from by omega,show f+(p.toNat - f)=p.toNat from by omega,show m - f - (p.toNat - f+1)=m - (p.toNat+1) from by omega] at h3
     omega
theorem gro_cso {a f:Nat} (ha:a≤n) (hf:f≤m):cso c d e m (n - a) f (gro c d e n m a (m - f))=some (GR c d e n m a (m - f)):=by
 induction a generalizing f with
 | zero =>
  show some _=some (GR0 e m (m - f))
  rw [gr0_sum (by omega),show m - (m - f)=f from by omega]
 | succ a ih =>
  have e1:n - (a+1)+1=n - a:=by omega
  unfold gro
  split
  ·rename_i t ht
   obtain ⟨h1,h2,-⟩:=first_some ht
   rw [decide_eq_true_eq] at h2
   have e2:m - (m - f)=f:=by omega
   rw [e2] at h2 ⊢
   have h3:=ih (f:=f+t+1) (by omega) (by omega)
   rw [show m - (f+t+1)=m - f - (t+1) from by omega] at h3
   simp only [cso]
   rw [if_neg (by omega),if_neg (by omega),e1,Int.toNat_natCast,h3,Option.map_some,show f+t - f=t from by omega]
   exact congrArg some h2
  ·rename_i hn
   have h1:=first_none hn
   simp only [cso]
   simp only [if_true]
   rw [e1,ih (by omega) hf,Option.map_some]
   refine congrArg some ?_
   rcases gr_is (c:=c) (d:=d) (e:=e) (n:=n) (m:=m) a (b:=m - f) (by omega) with h | ⟨t,g1,g2⟩
   ·exact h.symm
   ·have:=h1 t g1
    rw [decide_eq_false_iff_not] at this
    exact absurd g2 this
theorem cso_keeps {i f:Nat} {ps:List Int} {v:Int} (h:cso c d e m i f ps=some v):keeps m ((f:Int) - 1) ps=true:=by
 induction ps generalizing i f v with
 | nil=>rfl
 | cons p ps ih =>
  simp only [cso] at h
  unfold keeps
  split at h
  ·rename_i hp
   obtain ⟨u,h1,-⟩:=Option.map_eq_some_iff.1 h
   rw [if_pos hp];exact ih h1
  ·rename_i hp
   split at h
   ·cases h
   ·obtain ⟨u,h1,-⟩:=Option.map_eq_some_iff.1 h
    rw [if_neg hp,if_neg (by omega)]
    have:=ih h1
    rw [show ((p.toNat+1:Nat):Int) - 1=p from by omega] at this
    exact this

theorem cs_cso {i f:Nat} {U:Nat→Bool} {ps:List Int} (hU:∀ j,f≤j→j < m→U j=false) (hf:f≤m) (h:keeps m ((f:Int) - 1) ps=true):cs c d e m i U ps=(cso c d e m i f ps).map (sg f (fun j=>if U j then 0 else e j) + ·):=by
 induction ps generalizing i f U with
 | nil =>
  simp only [cs,cso,Option.map_some,Option.some.injEq]
  have e1:m=f+(m - f):=by omega
  have e2:=sg_ext (n:=f) (k:=m - f) (f:=fun j=>if U j=true then 0 else e j)
  rw [←e1] at e2
  rw [e2]
  congr 1
  exact sg_congr fun t ht=>by rw [hU (f+t) (by omega) (by omega)];simp
 | cons p ps ih =>
  simp only [cs,cso]
  unfold keeps at h
  by_cases hp:p=m
  ·rw [if_pos hp] at h
   rw [if_neg (by omega),if_pos hp,if_pos hp,ih hU hf h,Option.map_map,Option.map_map]
   congr 1;funext x;simp only [Function.comp];omega
  ·rw [if_neg hp] at h
   split at h
   ·cases h
   rename_i hlt
   rw [if_neg hp,if_neg hp]
   by_cases hm:(m:Int) < p
   ·rw [if_pos (by omega),if_pos (by omega)];rfl
   ·have hk:keeps m (((p.toNat+1:Nat):Int) - 1) ps=true:=by
     rw [show ((p.toNat+1:Nat):Int) - 1=p from by omega];exact h
    rw [if_neg (by rintro (h | h | ⟨_,h⟩);omega;omega;rw [hU p.toNat (by omega) (by omega)] at h;cases h),if_neg (by omega)]
    rw [ih (f:=p.toNat+1) (U:=ins U p.toNat) (fun j h1 h2=>by simp only [ins,hU j (by omega) h2,Bool.false_or,beq_eq_false_iff_ne];omega) (by omega) hk,Option.map_map,Option.map_map]
    congr 1;funext x;simp only [Function.comp]
    have e1:sg (p.toNat+1) (fun j=>if ins U p.toNat j then 0 else e j)=sg f (fun j=>if U j then 0 else e j)+sg (p.toNat - f) (fun x=>e (f+x)):=by
     rw [sg_succ]
     have e3:ins U p.toNat p.toNat=true:=by simp [ins]
     rw [e3]
     have e2:p.toNat=f+(p.toNat - f):=by omega
     have e4:=sg_ext (n:=f) (k:=p.toNat - f) (f:=fun j=>if ins U p.toNat j=true then 0 else e j)
     rw [←e2] at e4
     rw [e4]
     simp only [if_true,Int.add_zero]
     congr 1
     ·exact sg_congr fun j hj=>by
       have:(j == p.toNat)=false:=by simp;omega
       simp only [ins,this,Bool.or_false]
     ·exact sg_congr fun t ht=>by
       have:(f+t == p.toNat)=false:=by simp;omega
       simp only [ins,this,Bool.or_false,hU (f+t) (by omega) (by omega)];simp
    omega
theorem cs_cso0 {ps:List Int} (h:keeps m (-1) ps=true):cs c d e m 0 noU ps=cso c d e m 0 0 ps:=by
 have:=cs_cso (c:=c) (d:=d) (e:=e) (i:=0) (f:=0) (U:=noU) (fun _ _ _=>rfl) (Nat.zero_le m) (ps:=ps) (by simpa using h)
 rw [this]
 cases cso c d e m 0 0 ps <;> simp [sg]

def Mono (n m:Nat) (P:Nat→Nat):Prop:=∀ i j,i < j→j < n→P i < m→P j < m→P i < P j
theorem keeps_lt {l:Int} {ps:List Int} (h:keeps m l ps=true):(∀ i (hi:i < ps.length),ps[i]≠m→l < ps[i])∧∀ i j (hij:i < j) (hj:j < ps.length),ps[i]≠m→ps[j]≠m→ps[i] < ps[j]:=by
 induction ps generalizing l with
 | nil=>exact ⟨fun i hi=>by simp at hi,fun i j _ hj=>by simp at hj⟩
 | cons p ps ih =>
  unfold keeps at h
  split at h
  ·rename_i hp
   obtain ⟨h1,h2⟩:=ih h
   refine ⟨fun i hi hne=>?_,fun i j hij hj hi' hj'=>?_⟩
   ·cases i with
    | zero=>exact absurd hp hne
    | succ i=>exact h1 i (by simpa using hi) hne
   ·cases i with
    | zero=>exact absurd hp hi'
    | succ i =>
     cases j with
     | zero=>omega
     | succ j=>exact h2 i j (by omega) (by simpa using hj) hi' hj'
  ·split at h
   ·cases h
   ·rename_i hp hl
    obtain ⟨h1,h2⟩:=ih h
    refine ⟨fun i hi hne=>?_,fun i j hij hj hi' hj'=>?_⟩
    ·cases i with
     | zero=>show l < p;omega
     | succ i=>have:=h1 i (by simpa using hi) hne;show l < ps[i]'(by simpa using hi);omega
    ·cases j with
     | zero=>omega
     | succ j =>
      cases i with
      | zero=>exact h1 j (by simpa using hj) hj'
      | succ i=>exact h2 i j (by omega) (by simpa using hj) hi' hj'
theorem keeps_mono {ps:List Int} (h:keeps m (-1) ps=true):Mono ps.length m (lp ps):=by
 intro i j hij hj hi' hj'
 obtain ⟨h1,h2⟩:=keeps_lt h
 have e1:lp ps i=(ps[i]'(by omega)).toNat:=by simp [lp,List.getD_eq_getElem?_getD,List.getElem?_eq_getElem (show i < ps.length by omega)]
 have e2:lp ps j=(ps[j]).toNat:=by simp [lp,List.getD_eq_getElem?_getD,List.getElem?_eq_getElem hj]
 have g1:=h1 i (by omega)
 have g2:=h1 j hj
 have:=h2 i j hij hj
 rw [e1] at hi' ⊢
 rw [e2] at hj' ⊢
 omega
theorem mono_keeps {k:Nat} {P:Nat→Nat} {l:Int} (h:Mono k m P) (hl:∀ i,i < k→P i≤m∧(P i < m→l < P i)):keeps m l (pl P k)=true:=by
 induction k generalizing P l with
 | zero=>rfl
 | succ k ih =>
  rw [pl_front]
  unfold keeps
  have h':Mono k m (fun r=>P (r+1)):=fun i j hij hj=>h (i+1) (j+1) (by omega) (by omega)
  split
  ·exact ih h' fun i hi=>hl (i+1) (by omega)
  ·rename_i hp
   have h0:=hl 0 (by omega)
   rw [if_neg (by omega)]
   refine ih h' fun i hi=>⟨(hl (i+1) (by omega)).1,fun hm=>?_⟩
   have:=h 0 (i+1) (by omega) (by omega) (by omega) hm
   omega

structure OptO (c:Nat→Nat→Int) (d e:Nat→Int) (n m:Nat) (v:Int):Prop where
 has:∃ P,Asg n m P∧Mono n m P∧cost c d e n m P=v
 low:∀ P,Asg n m P→Mono n m P→v≤cost c d e n m P
theorem GR_opt:OptO c d e n m (GR c d e n m n m):=by
 constructor
 ·have h:=gro_cso (c:=c) (d:=d) (e:=e) (n:=n) (m:=m) (a:=n) (f:=0) (Nat.le_refl n) (Nat.zero_le m)
  rw [Nat.sub_self,Nat.sub_zero] at h
  have hk:keeps m (-1) (gro c d e n m n m)=true:=by have:=cso_keeps h;simpa using this
  rw [←cs_cso0 hk] at h
  obtain ⟨h1,h2,-⟩:=cs_some h
  have h3:=keeps_mono hk
  rw [gro_len] at h1 h2 h3
  exact ⟨_,h1.asg,h3,by rw [h2,costU_cost]⟩
 ·intro P hP hM
  have h:=cs_of (c:=c) (d:=d) (e:=e) (i:=0) (asgU_no hP)
  have hk:keeps m (-1) (pl P n)=true:=mono_keeps hM fun i hi=>⟨hP.le i hi,fun _=>by omega⟩
  rw [costU_cost,cs_cso0 hk] at h
  have:=cso_low (n:=n) (a:=n) (f:=0) (Nat.le_refl n) (Nat.zero_le m) (pl_len P n) (by rw [Nat.sub_self];exact h)
  simpa using this
theorem Opt.le_ord {v u:Int} (h:Opt c d e n m v) (g:OptO c d e n m u):v≤u:=by
 obtain ⟨Q,g1,g1',g2⟩:=g.has
 have:=h.low Q g1;omega
end

section
variable {c c':Nat→Nat→Int} {d e d' e':Nat→Int} {n m n' m':Nat} {B:Int}
theorem opt_le {v v':Int} (h:Opt c d e n m v) (h':Opt c' d' e' n' m' v') (f:∀ P,Asg n m P→∃ P',Asg n' m' P'∧cost c' d' e' n' m' P'≤cost c d e n m P+B):v'≤v+B:=by
 obtain ⟨P,h1,h2⟩:=h.has
 obtain ⟨P',h3,h4⟩:=f P h1
 have:=h'.low P' h3;omega
theorem optO_le {v v':Int} (h:OptO c d e n m v) (h':OptO c' d' e' n' m' v') (f:∀ P,Asg n m P→Mono n m P→∃ P',Asg n' m' P'∧Mono n' m' P'∧cost c' d' e' n' m' P'≤cost c d e n m P+B):v'≤v+B:=by
 obtain ⟨P,h1,h1',h2⟩:=h.has
 obtain ⟨P',h3,h3',h4⟩:=f P h1 h1'
 have:=h'.low P' h3 h3';omega
theorem cost_congr (hc:∀ i,i < n→∀ j,j < m→c i j=c' i j) (hd:∀ i,i < n→d i=d' i) (he:∀ j,j < m→e j=e' j) (P:Nat→Nat):cost c d e n m P=cost c' d' e' n m P:=by
 unfold cost
 congr 1
 ·exact sg_congr fun i hi=>by split;exact hc i hi _ (by assumption);exact hd i hi
 ·exact sg_congr fun j hj=>by split;rfl;exact he j hj
theorem Opt.congr {v:Int} (hc:∀ i,i < n→∀ j,j < m→c i j=c' i j) (hd:∀ i,i < n→d i=d' i) (he:∀ j,j < m→e j=e' j) (h:Opt c d e n m v):Opt c' d' e' n m v:=by
 obtain ⟨⟨P,h1,h2⟩,h3⟩:=h
 exact ⟨⟨P,h1,by rw [←cost_congr hc hd he];exact h2⟩,fun Q hQ=>by rw [←cost_congr hc hd he];exact h3 Q hQ⟩
theorem OptO.congr {v:Int} (hc:∀ i,i < n→∀ j,j < m→c i j=c' i j) (hd:∀ i,i < n→d i=d' i) (he:∀ j,j < m→e j=e' j) (h:OptO c d e n m v):OptO c' d' e' n m v:=by
 obtain ⟨⟨P,h1,h1',h2⟩,h3⟩:=h
 exact ⟨⟨P,h1,h1',by rw [←cost_congr hc hd he];exact h2⟩,fun Q hQ hM=>by rw [←cost_congr hc hd he];exact h3 Q hQ hM⟩

structure Inv (n:Nat) (s s':Nat→Nat):Prop where
 lt:∀ i,i < n→s i < n
 lt':∀ i,i < n→s' i < n
 l:∀ i,i < n→s' (s i)=i
 r:∀ i,i < n→s (s' i)=i
theorem Inv.flip {s s':Nat→Nat} (h:Inv n s s'):Inv n s' s:=⟨h.lt',h.lt,h.r,h.l⟩
theorem Inv.inj {s s':Nat→Nat} (h:Inv n s s') {i j:Nat} (hi:i < n) (hj:j < n) (he:s i=s j):i=j:=by
 rw [←h.l i hi,he,h.l j hj]
theorem sg_perm {s s':Nat→Nat} (h:Inv n s s') (f:Nat→Int):sg n (fun i=>f (s i))=sg n f:=by
 have hA:Asg n n s:=⟨fun i hi=>Nat.le_of_lt (h.lt i hi),fun i j hi hj he _=>h.inj hi hj he⟩
 have h1:=col hA f
 rw [sg_congr (g:=fun i=>f (s i)) (fun i hi=>by simp [h.lt i hi]),sg_congr (f:=fun j=>if used s n j then f j else 0) (g:=f) (fun j hj=>by rw [used_iff.2 ⟨s' j,h.lt' j hj,h.r j hj⟩];simp)] at h1
 exact h1
def permP (m:Nat) (s t':Nat→Nat) (P:Nat→Nat):Nat→Nat:=fun i=>if P (s i) < m then t' (P (s i)) else m
theorem perm_asg {s s' t t':Nat→Nat} (hs:Inv n s s') (ht:Inv m t t') {P:Nat→Nat} (hP:Asg n m P):Asg n m (permP m s t' P):=by
 refine ⟨fun i hi=>?_,fun i j hi hj he hm=>?_⟩
 ·unfold permP;split
  ·rename_i h;exact Nat.le_of_lt (ht.lt' _ h)
  ·exact Nat.le_refl _
 ·unfold permP at he hm
  by_cases h1:P (s i) < m <;> by_cases h2:P (s j) < m <;> simp only [h1,h2,if_true,if_false] at he hm
  ·have:=ht.flip.inj h1 h2 he
   exact hs.inj hi hj (hP.inj _ _ (hs.lt i hi) (hs.lt j hj) this h1)
  ·omega
  ·omega
  ·omega
theorem perm_cost {s s' t t':Nat→Nat} (hs:Inv n s s') (ht:Inv m t t') {P:Nat→Nat} (hP:Asg n m P):cost (fun i j=>c (s i) (t j)) (fun i=>d (s i)) (fun j=>e (t j)) n m (permP m s t' P)=cost c d e n m P:=by
 unfold cost
 congr 1
 ·rw [←sg_perm hs (fun i=>if P i < m then c i (P i) else d i)]
  refine sg_congr fun i hi=>?_
  unfold permP
  by_cases h:P (s i) < m
  ·have:=ht.lt' _ h
   rw [if_pos h,if_pos this,if_pos h]
   show c (s i) (t (t' (P (s i))))=_
   rw [ht.r _ h]
  ·rw [if_neg h,if_neg (Nat.lt_irrefl m),if_neg h]
 ·rw [←sg_perm ht (fun j=>if used P n j then 0 else e j)]
  refine sg_congr fun j hj=>?_
  have:used (permP m s t' P) n j=used P n (t j):=by
   rw [Bool.eq_iff_iff,used_iff,used_iff]
   constructor
   ·rintro ⟨i,hi,he⟩
    unfold permP at he
    by_cases h:P (s i) < m
    ·rw [if_pos h] at he
     exact ⟨s i,hs.lt i hi,by rw [←he,ht.r _ h]⟩
    ·rw [if_neg h] at he;omega
   ·rintro ⟨i,hi,he⟩
    refine ⟨s' i,hs.lt' i hi,?_⟩
    have:=ht.lt j hj
    unfold permP
    rw [hs.r i hi,he,if_pos this,ht.l j hj]
  rw [this]
theorem Opt.perm {s s' t t':Nat→Nat} (hs:Inv n s s') (ht:Inv m t t') {v v':Int} (h:Opt c d e n m v) (h':Opt (fun i j=>c (s i) (t j)) (fun i=>d (s i)) (fun j=>e (t j)) n m v'):v'=v:=by
 have h1:=opt_le (B:=0) h h' fun P hP=>⟨_,perm_asg hs ht hP,by rw [perm_cost hs ht hP];omega⟩
 have h2:=opt_le (B:=0) h' h fun P hP=>⟨_,perm_asg hs.flip ht.flip hP,by
  rw [←perm_cost hs.flip ht.flip hP,Int.add_zero]
  exact Int.le_of_eq (cost_congr (fun i hi j hj=>by simp only [hs.r i hi,ht.r j hj]) (fun i hi=>by simp only [hs.r i hi]) (fun j hj=>by simp only [ht.r j hj]) _)⟩
 omega

def rev (n:Nat):Nat→Nat:=fun i=>n - 1 - i
theorem rev_inv (n:Nat):Inv n (rev n) (rev n):=⟨fun i hi=>by unfold rev;omega,fun i hi=>by unfold rev;omega,fun i hi=>by unfold rev;omega,fun i hi=>by unfold rev;omega⟩
theorem rev_mono {P:Nat→Nat} (hP:Asg n m P) (h:Mono n m P):Mono n m (permP m (rev n) (rev m) P):=by
 intro i j hij hj hi' hj'
 unfold permP at *
 by_cases h1:P (rev n i) < m <;> by_cases h2:P (rev n j) < m <;> simp only [h1,h2,if_true,if_false] at hi' hj' ⊢
 ·have:=h (rev n j) (rev n i) (by unfold rev;omega) (by unfold rev;omega) h2 h1
  simp only [rev] at *
  omega
 ·omega
 ·omega
 ·omega
theorem OptO.rev {v v':Int} (h:OptO c d e n m v) (h':OptO (fun i j=>c (rev n i) (rev m j)) (fun i=>d (rev n i)) (fun j=>e (rev m j)) n m v'):v'=v:=by
 have hs:=rev_inv n
 have ht:=rev_inv m
 have h1:=optO_le (B:=0) h h' fun P hP hM=>⟨_,perm_asg hs ht hP,rev_mono hP hM,by rw [perm_cost hs ht hP];omega⟩
 have h2:=optO_le (B:=0) h' h fun P hP hM=>⟨_,perm_asg hs ht hP,rev_mono hP hM,by
  rw [←perm_cost hs ht hP,Int.add_zero]
  exact Int.le_of_eq (cost_congr (fun i hi j hj=>by simp only [hs.r i hi,ht.r j hj]) (fun i hi=>by simp only [hs.r i hi]) (fun j hj=>by simp only [ht.r j hj]) _)⟩
 omega

def trP (n:Nat) (P:Nat→Nat):Nat→Nat:=fun j=>((List.range n).find? (fun i=>P i == j)).getD n
theorem tr_some {P:Nat→Nat} {j:Nat} (h:trP n P j < n):P (trP n P j)=j:=by
 unfold trP at *
 cases e:(List.range n).find? (fun i=>P i == j) with
 | none=>rw [e] at h;simp at h
 | some i=>have:=(first_some e).2.1;simpa using this
theorem tr_le {P:Nat→Nat} {j:Nat}:trP n P j≤n:=by
 unfold trP
 cases e:(List.range n).find? (fun i=>P i == j) with
 | none=>simp
 | some i=>have:=(first_some e).1;simp;omega
theorem tr_none {P:Nat→Nat} {j:Nat} (h:¬ trP n P j < n):used P n j=false:=by
 unfold trP at h
 cases e:(List.range n).find? (fun i=>P i == j) with
 | none =>
  have:=first_none e
  exact used_not.2 fun i hi he=>by have:=this i hi;simp at this;exact this he
 | some i=>rw [e] at h;have:=(first_some e).1;simp at h;omega
theorem tr_at {P:Nat→Nat} (hP:Asg n m P) {i:Nat} (hi:i < n) (hm:P i < m):trP n P (P i)=i:=by
 have h1:trP n P (P i) < n:=by
  refine Nat.lt_of_not_le fun h=>?_
  have:=tr_none (n:=n) (P:=P) (j:=P i) (by omega)
  exact used_not.1 this i hi rfl
 exact hP.inj _ _ h1 hi (tr_some h1) (by rw [tr_some h1];exact hm)
theorem tr_asg {P:Nat→Nat} (hP:Asg n m P):Asg m n (trP n P) :=
 ⟨fun j _=>tr_le,fun i j hi hj he hm=>by have h1:=tr_some (n:=n) (P:=P) (j:=i) hm;have h2:=tr_some (n:=n) (P:=P) (j:=j) (by omega);rw [he] at h1;exact h1.symm.trans h2⟩
theorem tr_used {P:Nat→Nat} (hP:Asg n m P) {i:Nat} (hi:i < n):used (trP n P) m i=decide (P i < m):=by
 rw [Bool.eq_iff_iff,used_iff,decide_eq_true_eq]
 constructor
 ·rintro ⟨j,hj,he⟩
  have:=tr_some (n:=n) (P:=P) (j:=j) (by omega)
  rw [he] at this;omega
 ·intro h;exact ⟨P i,h,tr_at hP hi h⟩
theorem tr_cost {P:Nat→Nat} (hP:Asg n m P):cost (fun j i=>c i j) e d m n (trP n P)=cost c d e n m P:=by
 unfold cost
 have h1:=col hP (fun j=>c (trP n P j) j)
 have h2:sg n (fun i=>if P i < m then c i (P i) else d i)=sg n (fun i=>if P i < m then c (trP n P (P i)) (P i) else 0)+sg n (fun i=>if used (trP n P) m i then 0 else d i):=by
  rw [←sg_add]
  refine sg_congr fun i hi=>?_
  rw [tr_used hP hi]
  by_cases h:P i < m
  ·simp [h,tr_at hP hi h]
  ·simp [h]
 have h3:sg m (fun j=>if trP n P j < n then c (trP n P j) j else e j)=sg m (fun j=>if used P n j then c (trP n P j) j else 0)+sg m (fun j=>if used P n j then 0 else e j):=by
  rw [←sg_add]
  refine sg_congr fun j hj=>?_
  by_cases h:trP n P j < n
  ·rw [used_iff.2 ⟨_,h,tr_some h⟩];simp [h]
  ·rw [tr_none h];simp [h]
 rw [h2,h3,h1];omega
theorem tr_mono {P:Nat→Nat} (hP:Asg n m P) (h:Mono n m P):Mono m n (trP n P):=by
 intro i j hij hj hi' hj'
 have h1:=tr_some hi'
 have h2:=tr_some hj'
 refine Nat.lt_of_not_le fun hle=>?_
 rcases Nat.lt_or_eq_of_le hle with hlt | he
 ·have:=h _ _ hlt hi' (by omega) (by omega);omega
 ·rw [he] at h2;omega
theorem Opt.tr {v v':Int} (h:Opt c d e n m v) (h':Opt (fun j i=>c i j) e d m n v'):v'=v:=by
 have h1:=opt_le (B:=0) h h' fun P hP=>⟨_,tr_asg hP,by rw [tr_cost hP];omega⟩
 have h2:=opt_le (B:=0) h' h fun P hP=>⟨_,tr_asg hP,by rw [←tr_cost hP];exact Int.le_of_eq (Int.add_zero _).symm⟩
 omega
theorem OptO.tr {v v':Int} (h:OptO c d e n m v) (h':OptO (fun j i=>c i j) e d m n v'):v'=v:=by
 have h1:=optO_le (B:=0) h h' fun P hP hM=>⟨_,tr_asg hP,tr_mono hP hM,by rw [tr_cost hP];omega⟩
 have h2:=optO_le (B:=0) h' h fun P hP hM=>⟨_,tr_asg hP,tr_mono hP hM,by rw [←tr_cost hP];exact Int.le_of_eq (Int.add_zero _).symm⟩
 omega

end
end Go.CH.Asg
namespace Go.CH.Asg
section
variable (c:Nat→Nat→Int) (d e:Nat→Int) (n m:Nat)

def tst (a:Nat) (U:Nat→Bool) (j:Nat):Bool := !U j && decide (c (n - (a+1)) j+L c d e n m a (ins U j)=L c d e n m (a+1) U)
def bcost:Int:=L c d e n m n noU
def bps:List Int:=gr c d e n m n noU
def buF (i:Nat):Int:=L (dupc c n i) (dupd d n i) e (n+1) m (n+1) noU - bcost c d e n m
def bus:List Int:=(List.range n).map (buF c d e n m)
def bvF (j:Nat):Int:=mnl noU (fun i=>c i j - buF c d e n m i) (e j) n
def bvs:List Int:=(List.range m).map (bvF c d e n m)
end
section
variable {c:Nat→Nat→Int} {d e:Nat→Int} {n m:Nat}
theorem find_hit {p:Nat→Bool} {j:Nat} (hj:j < m) (hp:p j=true) (hb:∀ t,t < j→p t=false):(List.range m).find? p=some j:=by
 rw [List.find?_range_eq_some]
 exact ⟨hp,List.mem_range.2 hj,fun t ht=>by simp [hb t ht]⟩
theorem find_miss {p:Nat→Bool} (hb:∀ t,t < m→p t=false):(List.range m).find? p=none:=by
 rw [List.find?_eq_none]
 exact fun t ht=>by simp [hb t (List.mem_range.1 ht)]
theorem gr_hit {a j:Nat} {U:Nat→Bool} (hj:j < m) (hp:tst c d e n m a U j=true) (hb:∀ t,t < j→tst c d e n m a U t=false) :
  gr c d e n m (a+1) U=(j:Int) :: gr c d e n m a (ins U j)∧L c d e n m a (ins U j)=L c d e n m (a+1) U - c (n - (a+1)) j:=by
 refine ⟨?_,?_⟩
 ·rw [gr]
  have:=find_hit (p:=fun j => !U j && decide (c (n - (a+1)) j+L c d e n m a (ins U j)=L c d e n m (a+1) U)) hj hp hb
  rw [this]
 ·unfold tst at hp
  simp only [Bool.and_eq_true,decide_eq_true_eq] at hp
  omega
theorem gr_miss {a:Nat} {U:Nat→Bool} (hb:∀ t,t < m→tst c d e n m a U t=false) :
  gr c d e n m (a+1) U=(m:Int) :: gr c d e n m a U∧L c d e n m a U=L c d e n m (a+1) U - d (n - (a+1)):=by
 refine ⟨?_,?_⟩
 ·rw [gr]
  have:=find_miss (m:=m) (p:=fun j => !U j && decide (c (n - (a+1)) j+L c d e n m a (ins U j)=L c d e n m (a+1) U)) hb
  rw [this]
 ·rcases mnl_is (U:=U) (f:=fun j=>c (n - (a+1)) j+L c d e n m a (ins U j)) (a:=d (n - (a+1))+L c d e n m a U) (m:=m) with h | ⟨j,g1,g2,g3⟩
  ·have:L c d e n m (a+1) U=d (n - (a+1))+L c d e n m a U:=h
   omega
  ·exfalso
   have h1:=hb j g1
   unfold tst at h1
   rw [g2] at h1
   simp only [Bool.not_false,Bool.true_and,decide_eq_false_iff_not] at h1
   exact h1 g3.symm
theorem best_pot:Pot c d e n m (bcost c d e n m) (buF c d e n m) (bvF c d e n m) where
 opt:=L_opt
 more:=fun i hi=>by
  have:buF c d e n m i+bcost c d e n m=L (dupc c n i) (dupd d n i) e (n+1) m (n+1) noU:=by unfold buF;omega
  rw [this];exact L_opt
 ve:=fun j hj=>mnl_init
 vc:=fun j hj i hi=>mnl_at (f:=fun i=>c i j - buF c d e n m i) hi rfl
 vis:=fun j hj=>by
  rcases mnl_is (U:=noU) (f:=fun i=>c i j - buF c d e n m i) (a:=e j) (m:=n) with h | ⟨i,g1,g2,g3⟩
  ·exact .inl h
  ·exact .inr ⟨i,g1,g3⟩
end
end Go.CH.Asg
namespace Go.CH.Mtc
open Go.CH.Scr Go.CH.Pot

def letF (k:Int) (x:Bs):List Bs:=if word k x then (ltrs k (lower x)).1 else []

structure Vr where
 w:Bs
 e:Int
 c:Int
deriving DecidableEq
def endOf (k:Int) (l:List Bs) (p:Pot.Drop × Nat):Option Vr :=
 if p.1.k=k∧(letF k p.1.w).length < l.length∧l.drop (l.length - (letF k p.1.w).length)=letF k p.1.w then
  some ⟨(l.take (l.length - (letF k p.1.w).length)).flatten,p.2,p.1.c⟩ else none
def varsN (T:Tab) (k:Int) (x:Bs):List Vr:=⟨(letF k x).flatten,-1,0⟩ :: T.es.zipIdx.filterMap (endOf k (letF k x))

def dropC (T:Tab) (k:Int) (x:Bs):Int:=match T.ds.find? (fun d=>decide (d.k=k) && decide (d.w=lower x)) with
 | some d=>d.c
 | none=>T.drop

structure Wy where
 kd:Int
 l:Int
 r:Int
 c:Int
 x:Bs
 y:Bs
deriving DecidableEq
def hd0 (l:List Bs):Bs:=l.headD []
def wayV (u v:Vr):Wy:=⟨1,u.e,v.e,u.c+v.c,u.w,v.w⟩
def waysV (us vs:List Vr):List Wy:=us.flatMap fun u=>vs.map (wayV u)
def waysI (kd ini:Int) (x y:List Bs):Wy:=⟨kd,-1,-1,ini,hd0 x,hd0 y⟩
def waysL (ini:Int) (us vs:List Vr) (p q:List Bs):List Wy :=
 waysV us vs ++ ((if p.length=1 then [waysI 2 ini p q] else []) ++ (if q.length=1 then [waysI 3 ini p q] else []))
def waysN (T:Tab) (k:Int) (x:Bs) (k2:Int) (y:Bs):List Wy:=waysL T.ini (varsN T k x) (varsN T k2 y) (letF k x) (letF k2 y)

def bestD (T:Tab) (k:Int) (x:Bs) (k2:Int) (y:Bs):Option Dv :=
 if okW T k x k2 y=true∧(wdOf T k x k2 y).dist st0 < never then some (wdOf T k x k2 y).best else none

structure Pr where
 i:Int
 j:Int
 kd:Int
 l:Int
 r:Int
 c:Int
 d:Dv
deriving DecidableEq
def noD:Dv:=⟨0,[],[],[]⟩
def noP:Pr:=⟨0,0,0,0,0,0,noD⟩
def prOf (T:Tab) (k k2:Int) (w:Wy):Option Pr:=(bestD T k w.x k2 w.y).map fun d=>⟨0,0,w.kd,w.l,w.r,w.c+d.c,d⟩
def pairsN (T:Tab) (k:Int) (x:Bs) (k2:Int) (y:Bs):List Pr:=(waysN T k x k2 y).filterMap (prOf T k k2)
def pick1 (b:Option Pr) (p:Pr):Option Pr:=match b with
 | none=>some p
 | some q=>if p.c < q.c then some p else some q

def first (l:List Pr):Option Pr:=l.foldl pick1 none
def cheapN (T:Tab) (k:Int) (x:Bs) (k2:Int) (y:Bs):Option Pr:=first (pairsN T k x k2 y)

inductive WordP (T:Tab) (k:Int) (x:Bs) (k2:Int) (y:Bs):Pr→Int→Prop
 | arg (h:okW T k x k2 y=false):WordP T k x k2 y noP 1
 | none (h:okW T k x k2 y=true) (h2:cheapN T k x k2 y=none):WordP T k x k2 y noP 11
 | some {p:Pr} (h:okW T k x k2 y=true) (h2:cheapN T k x k2 y=some p):WordP T k x k2 y p 0

def okM (T:Tab) (a b:NameM):Bool:=validT T && (validN a && validN b)
def wd (a:NameM) (i:Nat):Bs:=a.ws.getD i []
def prM (T:Tab) (a b:NameM) (i j:Nat):Pr:=match cheapN T a.k (wd a i) b.k (wd b j) with
 | some p=>{ p with i:=i,j:=j }
 | none=>⟨i,j,0,0,0,100000,noD⟩
def cM (T:Tab) (a b:NameM) (i j:Nat):Int:=(prM T a b i j).c
def dM (T:Tab) (a:NameM) (i:Nat):Int:=dropC T a.k (wd a i)
def anyK (T:Tab) (a b:NameM):Int:=Asg.bcost (cM T a b) (dM T a) (dM T b) a.ws.length b.ws.length
def anyL (T:Tab) (a b:NameM):List Int:=Asg.bps (cM T a b) (dM T a) (dM T b) a.ws.length b.ws.length
def ordK (T:Tab) (a b:NameM):Int:=Asg.GR (cM T a b) (dM T a) (dM T b) a.ws.length b.ws.length a.ws.length b.ws.length
def ordL (T:Tab) (a b:NameM):List Int:=Asg.gro (cM T a b) (dM T a) (dM T b) a.ws.length b.ws.length a.ws.length b.ws.length

def buildN (T:Tab) (a b:NameM):Nat→List Int→List Pr
 | _,[]=>[]
 | i,j :: l=>if 0≤j∧j < b.ws.length then prM T a b i j.toNat :: buildN T a b (i+1) l else buildN T a b (i+1) l
structure Mt where
 c:Int
 s:Bool
 ps:List Pr
deriving DecidableEq
def noM:Mt:=⟨0,false,[]⟩
def bestM (T:Tab) (a b:NameM):Mt :=
 if anyK T a b+T.ord < ordK T a b then ⟨anyK T a b+T.ord,true,buildN T a b 0 (anyL T a b)⟩ else ⟨ordK T a b,false,buildN T a b 0 (ordL T a b)⟩

inductive MatP (T:Tab) (a b:NameM):Mt→Int→Prop
 | arg (h:okM T a b=false):MatP T a b noM 1
 | some (h:okM T a b=true):MatP T a b (bestM T a b) 0

def rightP (T:Tab) (k:Int) (x:Bs) (k2:Int) (y:Bs) (p:Pr):Prop :=
 ∃ w,(waysN T k x k2 y).find? (fun w=>decide (w.kd=p.kd) && (decide (w.l=p.l) && decide (w.r=p.r)))=some w∧p.c=w.c+p.d.c∧rightD T k w.x k2 w.y p.d

def pairsOk (T:Tab) (a b:NameM) (s:Bool):Int→Int→List Int→List Pr→Prop
 | _,_,_,[]=>True
 | last,before,rs,p :: l=>last < p.i∧p.i < a.ws.length∧0≤p.j∧p.j < b.ws.length∧p.j ∉ rs∧(s=true∨before≤p.j)∧rightP T a.k (wd a p.i.toNat) b.k (wd b p.j.toNat) p∧pairsOk T a b s p.i p.j (p.j :: rs) l
def restC (T:Tab) (a:NameM) (us:List Int):Int:=Asg.sg a.ws.length (fun i=>if (i:Int) ∈ us then 0 else dM T a i)

def costM (T:Tab) (a b:NameM) (m:Mt):Int:=(if m.s then T.ord else 0)+(m.ps.map (·.c)).sum+restC T a (m.ps.map (·.i))+restC T b (m.ps.map (·.j))

def rightM (T:Tab) (a b:NameM) (m:Mt):Prop:=okM T a b=true∧pairsOk T a b m.s (-1) (-1) [] m.ps∧m.c=costM T a b m
end Go.CH.Mtc
