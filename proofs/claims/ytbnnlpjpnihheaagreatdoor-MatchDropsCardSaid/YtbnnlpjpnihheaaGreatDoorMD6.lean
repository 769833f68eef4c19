import Derived.Test.YtbnnlpjpnihheaaGreatDoorMD5
import Derived.Test.YtbnnlpjpnihheaaGreatDoorMD4
import Derived.Test.YtbnnlpjpnihheaaGreatDoorMD1
set_option linter.unusedSimpArgs false
set_option linter.unusedVariables false
namespace Go.CH.Asg

def mnl (U:Nat→Bool) (f:Nat→Int) (a:Int):Nat→Int
 | 0=>a
 | j+1=>if U j then mnl U f a j else min (mnl U f a j) (f j)
section
variable {U:Nat→Bool} {f:Nat→Int} {a:Int} {m:Nat}
theorem mnl_init:mnl U f a m≤a:=by
 induction m with
 | zero=>exact Int.le_refl _
 | succ m ih=>unfold mnl;split;exact ih;omega
theorem mnl_at {j:Nat} (hj:j < m) (hu:U j=false):mnl U f a m≤f j:=by
 induction m with
 | zero=>omega
 | succ m ih =>
  unfold mnl
  by_cases e:j=m
  ·subst e;rw [hu];simp;omega
  ·split
   ·exact ih (by omega)
   ·have:=ih (by omega);omega
theorem mnl_is:mnl U f a m=a∨∃ j,j < m∧U j=false∧mnl U f a m=f j:=by
 induction m with
 | zero=>exact .inl rfl
 | succ m ih =>
  unfold mnl
  by_cases hu:U m=true
  ·rw [if_pos hu]
   rcases ih with h | ⟨j,h1,h2,h3⟩
   ·exact .inl h
   ·exact .inr ⟨j,by omega,h2,h3⟩
  ·rw [if_neg hu]
   by_cases hm:mnl U f a m≤f m
   ·rw [Int.min_eq_left hm]
    rcases ih with h | ⟨j,h1,h2,h3⟩
    ·exact .inl h
    ·exact .inr ⟨j,by omega,h2,h3⟩
   ·rw [Int.min_eq_right (by omega)]
    exact .inr ⟨m,by omega,by simpa using hu,rfl⟩
theorem mnl_congr {g:Nat→Int} {V:Nat→Bool} (h:∀ j,j < m→f j=g j) (hu:∀ j,j < m→U j=V j):mnl U f a m=mnl V g a m:=by
 induction m with
 | zero=>rfl
 | succ m ih =>
  unfold mnl
  rw [ih (fun j hj=>h j (by omega)) (fun j hj=>hu j (by omega)),h m (by omega),hu m (by omega)]
end
def ins (U:Nat→Bool) (j:Nat):Nat→Bool:=fun x=>U x || x == j
def noU:Nat→Bool:=fun _=>false

def L (c:Nat→Nat→Int) (d e:Nat→Int) (n m:Nat):Nat→(Nat→Bool)→Int
 | 0,U=>sg m (fun j=>if U j then 0 else e j)
 | k+1,U=>mnl U (fun j=>c (n - (k+1)) j+L c d e n m k (ins U j)) (d (n - (k+1))+L c d e n m k U) m

def cs (c:Nat→Nat→Int) (d e:Nat→Int) (m:Nat):Nat→(Nat→Bool)→List Int→Option Int
 | _,U,[]=>some (sg m (fun j=>if U j then 0 else e j))
 | i,U,p :: ps=>if p < 0∨(m:Int) < p∨(p < m∧U p.toNat=true) then none
  else if p=m then (cs c d e m (i+1) U ps).map (d i + ·) else (cs c d e m (i+1) (ins U p.toNat) ps).map (c i p.toNat + ·)

def gr (c:Nat→Nat→Int) (d e:Nat→Int) (n m:Nat):Nat→(Nat→Bool)→List Int
 | 0,_=>[]
 | k+1,U=>match (List.range m).find? (fun j => !U j && decide (c (n - (k+1)) j+L c d e n m k (ins U j)=L c d e n m (k+1) U)) with
  | some j=>(j:Int) :: gr c d e n m k (ins U j)
  | none=>(m:Int) :: gr c d e n m k U

def before:List Int→List Int→Bool
 | a :: xs,b :: ys=>if a=b then before xs ys else decide (a < b)
 | _,_=>false
section
variable {c:Nat→Nat→Int} {d e:Nat→Int} {n m:Nat}
theorem gr_len (k:Nat) (U:Nat→Bool):(gr c d e n m k U).length=k:=by
 induction k generalizing U with
 | zero=>rfl
 | succ k ih=>unfold gr;split <;> simp [ih]
theorem first_some {p:Nat→Bool} {j:Nat} (h:(List.range m).find? p=some j):j < m∧p j=true∧∀ i,i < j→p i=false:=by
 rw [List.find?_range_eq_some] at h
 obtain ⟨h1,h2,h3⟩:=h
 exact ⟨List.mem_range.1 h2,h1,fun i hi=>by simpa using h3 i hi⟩
theorem first_none {p:Nat→Bool} (h:(List.range m).find? p=none):∀ i,i < m→p i=false:=by
 rw [List.find?_eq_none] at h
 exact fun i hi=>by simpa using h i (List.mem_range.2 hi)
theorem cs_low {k:Nat} {U:Nat→Bool} {ps:List Int} {v:Int} (hk:k≤n) (hl:ps.length=k) (h:cs c d e m (n - k) U ps=some v):L c d e n m k U≤v:=by
 induction k generalizing U ps v with
 | zero =>
  obtain rfl:=List.length_eq_zero_iff.1 hl
  simp only [cs,Option.some.injEq] at h
  rw [←h];exact Int.le_refl _
 | succ k ih =>
  cases ps with
  | nil=>simp at hl
  | cons p ps =>
   simp only [cs] at h
   split at h
   ·cases h
   ·rename_i hp
    have hp:0≤p∧p≤m∧(p < m→U p.toNat=false):=by
     refine ⟨by omega,by omega,fun h=>?_⟩
     cases hU:U p.toNat
     ·rfl
     ·exact absurd (.inr (.inr ⟨h,hU⟩)) hp
    have e1:n - (k+1)+1=n - k:=by omega
    rw [e1] at h
    split at h
    ·obtain ⟨u,h1,rfl⟩:=Option.map_eq_some_iff.1 h
     have:=ih (by omega) (by simpa using hl) h1
     have h2:=mnl_init (U:=U) (f:=fun j=>c (n - (k+1)) j+L c d e n m k (ins U j)) (a:=d (n - (k+1))+L c d e n m k U) (m:=m)
     show mnl _ _ _ _≤_
     omega
    ·obtain ⟨u,h1,rfl⟩:=Option.map_eq_some_iff.1 h
     have:=ih (by omega) (by simpa using hl) h1
     have h2:=mnl_at (U:=U) (f:=fun j=>c (n - (k+1)) j+L c d e n m k (ins U j)) (a:=d (n - (k+1))+L c d e n m k U) (m:=m) (j:=p.toNat) (by omega) (hp.2.2 (by omega))
     show mnl _ _ _ _≤_
     omega
theorem gr_cs {k:Nat} (hk:k≤n) (U:Nat→Bool):cs c d e m (n - k) U (gr c d e n m k U)=some (L c d e n m k U):=by
 induction k generalizing U with
 | zero=>rfl
 | succ k ih =>
  have e1:n - (k+1)+1=n - k:=by omega
  unfold gr
  split
  ·rename_i j hj
   obtain ⟨h1,h2,-⟩:=first_some hj
   simp only [Bool.and_eq_true,Bool.not_eq_true',decide_eq_true_eq] at h2
   simp only [cs]
   rw [if_neg (by rintro (h | h | ⟨-,h⟩);omega;omega;rw [Int.toNat_natCast,h2.1] at h;cases h),if_neg (by omega),e1,Int.toNat_natCast,ih (by omega),Option.map_some]
   exact congrArg some h2.2
  ·rename_i hn
   have h1:=first_none hn
   simp only [cs]
   rw [if_neg (by rintro (h | h | ⟨h,-⟩) <;> omega)]
   simp only [if_true]
   rw [e1,ih (by omega),Option.map_some]
   refine congrArg some ?_
   rcases mnl_is (U:=U) (f:=fun j=>c (n - (k+1)) j+L c d e n m k (ins U j)) (a:=d (n - (k+1))+L c d e n m k U) (m:=m) with h | ⟨j,g1,g2,g3⟩
   ·exact h.symm
   ·have:=h1 j g1
    rw [g2] at this
    simp only [Bool.not_false,Bool.true_and,decide_eq_false_iff_not] at this
    exact absurd g3.symm this

theorem used_front (P:Nat→Nat) (n j:Nat):used P (n+1) j=(P 0 == j || used (fun i=>P (i+1)) n j):=by
 rw [Bool.eq_iff_iff]
 simp only [Bool.or_eq_true,beq_iff_eq,used_iff]
 constructor
 ·rintro ⟨i,h1,h2⟩
  cases i with
  | zero=>exact .inl h2
  | succ i=>exact .inr ⟨i,by omega,h2⟩
 ·rintro (h | ⟨i,h1,h2⟩)
  ·exact ⟨0,by omega,h⟩
  ·exact ⟨i+1,by omega,h2⟩

structure AsgU (k m:Nat) (U:Nat→Bool) (P:Nat→Nat):Prop where
 asg:Asg k m P
 free:∀ i,i < k→P i < m→U (P i)=false
def costU (c:Nat→Nat→Int) (d e:Nat→Int) (m i k:Nat) (U:Nat→Bool) (P:Nat→Nat):Int :=
 sg k (fun r=>if P r < m then c (i+r) (P r) else d (i+r))+sg m (fun j=>if U j || used P k j then 0 else e j)
def lp (ps:List Int):Nat→Nat:=fun r=>(ps.getD r 0).toNat
theorem costU_front {i k:Nat} {U:Nat→Bool} {P:Nat→Nat}:costU c d e m i (k+1) U P=(if P 0 < m then c i (P 0) else d i)+costU c d e m (i+1) k (if P 0 < m then ins U (P 0) else U) (fun r=>P (r+1)):=by
 unfold costU
 rw [sg_front,Int.add_assoc]
 have e1:sg k (fun r=>if P (r+1) < m then c (i+(r+1)) (P (r+1)) else d (i+(r+1)))=sg k (fun r=>if P (r+1) < m then c (i+1+r) (P (r+1)) else d (i+1+r)):=sg_congr fun r _=>by
  have:i+(r+1)=i+1+r:=by omega
  rw [this]
 have e2:sg m (fun j=>if U j || used P (k+1) j then 0 else e j)=sg m (fun j=>if (if P 0 < m then ins U (P 0) else U) j || used (fun r=>P (r+1)) k j then 0 else e j):=sg_congr fun j hj=>by
  rw [used_front]
  by_cases h:P 0 < m
  ·rw [if_pos h];unfold ins
   have:(P 0 == j)=(j == P 0):=by rw [Bool.eq_iff_iff];simp;omega
   rw [this,Bool.or_assoc]
  ·rw [if_neg h]
   have:(P 0 == j)=false:=by simp;omega
   rw [this,Bool.false_or]
 rw [e1,e2];simp
theorem asgU_front {k:Nat} {U:Nat→Bool} {P:Nat→Nat} (h0:P 0≤m) (hU:P 0 < m→U (P 0)=false) (h:AsgU k m (if P 0 < m then ins U (P 0) else U) (fun r=>P (r+1))):AsgU (k+1) m U P:=by
 have hf:∀ i,i < k→P (i+1) < m→U (P (i+1))=false∧(P 0 < m→P (i+1)≠P 0):=by
  intro i hi hp
  have:=h.free i hi hp
  by_cases h1:P 0 < m
  ·rw [if_pos h1] at this
   simp only [ins,Bool.or_eq_false_iff,beq_eq_false_iff_ne] at this
   exact ⟨this.1,fun _=>this.2⟩
  ·rw [if_neg h1] at this;exact ⟨this,fun h=>absurd h h1⟩
 refine ⟨⟨fun i hi=>?_,fun i j hi hj he hm=>?_⟩,fun i hi hp=>?_⟩
 ·cases i with
  | zero=>exact h0
  | succ i=>exact h.asg.le i (by omega)
 ·cases i with
  | zero =>
   cases j with
   | zero=>rfl
   | succ j=>exact absurd he.symm ((hf j (by omega) (by omega)).2 hm)
  | succ i =>
   cases j with
   | zero=>exact absurd he ((hf i (by omega) hm).2 (by omega))
   | succ j=>have:=h.asg.inj i j (by omega) (by omega) he hm;omega
 ·cases i with
  | zero=>exact hU hp
  | succ i=>exact (hf i (by omega) hp).1
theorem asgU_back {k:Nat} {U:Nat→Bool} {P:Nat→Nat} (h:AsgU (k+1) m U P):AsgU k m (if P 0 < m then ins U (P 0) else U) (fun r=>P (r+1)):=by
 refine ⟨⟨fun i hi=>h.asg.le _ (by omega),fun i j hi hj he hm=>by have:=h.asg.inj (i+1) (j+1) (by omega) (by omega) he hm;omega⟩,fun i hi hp=>?_⟩
 have h1:=h.free (i+1) (by omega) hp
 by_cases h0:P 0 < m
 ·rw [if_pos h0]
  simp only [ins,h1,Bool.false_or,beq_eq_false_iff_ne]
  intro he
  have:=h.asg.inj (i+1) 0 (by omega) (by omega) he hp
  omega
 ·rw [if_neg h0];exact h1
theorem cs_some {i:Nat} {U:Nat→Bool} {ps:List Int} {v:Int} (h:cs c d e m i U ps=some v):AsgU ps.length m U (lp ps)∧v=costU c d e m i ps.length U (lp ps)∧∀ p ∈ ps,0≤p∧p≤m:=by
 induction ps generalizing i U v with
 | nil =>
  simp only [cs,Option.some.injEq] at h
  refine ⟨⟨⟨fun i hi=>by simp at hi,fun i j hi=>by simp at hi⟩,fun i hi=>by simp at hi⟩,?_,fun p hp=>by simp at hp⟩
  rw [←h];unfold costU
  simp [sg,used]
 | cons p ps ih =>
  simp only [cs] at h
  split at h
  ·cases h
  rename_i hp
  have hp:0≤p∧p≤m∧(p < m→U p.toNat=false):=by
   refine ⟨by omega,by omega,fun h=>?_⟩
   cases hU:U p.toNat
   ·rfl
   ·exact absurd (.inr (.inr ⟨h,hU⟩)) hp
  have e0:lp (p :: ps) 0=p.toNat:=rfl
  have e1:(fun r=>lp (p :: ps) (r+1))=lp ps:=rfl
  have hm:∀ q ∈ ps,0≤q∧q≤m→True:=fun _ _ _=>trivial
  split at h
  ·rename_i hpm
   obtain ⟨u,h1,rfl⟩:=Option.map_eq_some_iff.1 h
   obtain ⟨g1,g2,g3⟩:=ih h1
   have hn:¬ lp (p :: ps) 0 < m:=by rw [e0];omega
   refine ⟨asgU_front (by rw [e0];omega) (fun h=>absurd h hn) (by rw [if_neg hn,e1];exact g1),?_,?_⟩
   ·rw [List.length_cons,costU_front,if_neg hn,if_neg hn,e1,←g2]
   ·intro q hq;rcases List.mem_cons.1 hq with rfl | hq;exact ⟨hp.1,hp.2.1⟩;exact g3 q hq
  ·rename_i hpm
   obtain ⟨u,h1,rfl⟩:=Option.map_eq_some_iff.1 h
   obtain ⟨g1,g2,g3⟩:=ih h1
   have hn:lp (p :: ps) 0 < m:=by rw [e0];omega
   refine ⟨asgU_front (by rw [e0];omega) (fun h=>by rw [e0];exact hp.2.2 (by omega)) (by rw [if_pos hn,e1,e0];exact g1),?_,?_⟩
   ·rw [List.length_cons,costU_front,if_pos hn,if_pos hn,e1,e0,←g2]
   ·intro q hq;rcases List.mem_cons.1 hq with rfl | hq;exact ⟨hp.1,hp.2.1⟩;exact g3 q hq
def pl (P:Nat→Nat) (k:Nat):List Int:=(List.range k).map (fun i=>(P i:Int))
theorem pl_len (P:Nat→Nat) (k:Nat):(pl P k).length=k:=by simp [pl]
theorem pl_front (P:Nat→Nat) (k:Nat):pl P (k+1)=(P 0:Int) :: pl (fun r=>P (r+1)) k:=by
 unfold pl;rw [List.range_succ_eq_map];simp
theorem cs_of {i k:Nat} {U:Nat→Bool} {P:Nat→Nat} (h:AsgU k m U P):cs c d e m i U (pl P k)=some (costU c d e m i k U P):=by
 induction k generalizing i U P with
 | zero=>simp [pl,cs,costU,sg,used]
 | succ k ih =>
  have h1:=ih (i:=i+1) (asgU_back h)
  have h0:=h.asg.le 0 (by omega)
  rw [pl_front,costU_front]
  simp only [cs]
  by_cases hp:P 0 < m
  ·have hU:=h.free 0 (by omega) hp
   rw [if_pos hp] at h1
   rw [if_neg (by rintro (h | h | ⟨-,h⟩);omega;omega;rw [Int.toNat_natCast,hU] at h;cases h),if_neg (by omega),Int.toNat_natCast,if_pos hp,if_pos hp,h1,Option.map_some]
  ·rw [if_neg hp] at h1
   rw [if_neg (by rintro (h | h | ⟨h,-⟩) <;> omega),if_pos (by omega),if_neg hp,if_neg hp,h1,Option.map_some]
theorem costU_cost (P:Nat→Nat):costU c d e m 0 n noU P=cost c d e n m P:=by
 unfold costU cost noU
 simp
theorem asgU_no {P:Nat→Nat} (h:Asg n m P):AsgU n m noU P:=⟨h,fun _ _ _=>rfl⟩

theorem L_opt:Opt c d e n m (L c d e n m n noU):=by
 constructor
 ·have h:=gr_cs (c:=c) (d:=d) (e:=e) (n:=n) (m:=m) (Nat.le_refl n) noU
  rw [Nat.sub_self] at h
  obtain ⟨h1,h2,-⟩:=cs_some h
  rw [gr_len] at h1 h2
  exact ⟨_,h1.asg,by rw [h2,costU_cost]⟩
 ·intro P hP
  have h:=cs_of (c:=c) (d:=d) (e:=e) (i:=0) (asgU_no hP)
  rw [costU_cost] at h
  exact cs_low (Nat.le_refl n) (pl_len P n) (by rw [Nat.sub_self];exact h)
end
end Go.CH.Asg
namespace Go.CH.Asg

def GR0 (e:Nat→Int) (m:Nat):Nat→Int
 | 0=>0
 | b+1=>e (m - (b+1))+GR0 e m b

def GRs (c:Nat→Nat→Int) (d e:Nat→Int) (m i:Nat) (f:Nat→Int):Nat→Int
 | 0=>d i+f 0
 | b+1=>min (min (d i+f (b+1)) (e (m - (b+1))+GRs c d e m i f b)) (c i (m - (b+1))+f b)

def GR (c:Nat→Nat→Int) (d e:Nat→Int) (n m:Nat):Nat→Nat→Int
 | 0=>GR0 e m
 | a+1=>GRs c d e m (n - (a+1)) (GR c d e n m a)

def gro (c:Nat→Nat→Int) (d e:Nat→Int) (n m:Nat):Nat→Nat→List Int
 | 0,_=>[]
 | a+1,b=>match (List.range b).find? (fun t=>decide (sg t (fun x=>e (m - b+x))+c (n - (a+1)) (m - b+t)+GR c d e n m a (b - (t+1))=GR c d e n m (a+1) b)) with
  | some t=>((m - b+t:Nat):Int) :: gro c d e n m a (b - (t+1))
  | none=>(m:Int) :: gro c d e n m a b

def keeps (m:Nat):Int→List Int→Bool
 | _,[]=>true
 | l,p :: ps=>if p=m then keeps m l ps else if p≤l then false else keeps m p ps

def cso (c:Nat→Nat→Int) (d e:Nat→Int) (m:Nat):Nat→Nat→List Int→Option Int
 | _,f,[]=>some (sg (m - f) (fun x=>e (f+x)))
 | i,f,p :: ps=>if p=m then (cso c d e m (i+1) f ps).map (d i + ·)
  else if p < f∨(m:Int) < p then none else (cso c d e m (i+1) (p.toNat+1) ps).map (sg (p.toNat - f) (fun x=>e (f+x))+c i p.toNat + ·)
section
variable {c:Nat→Nat→Int} {d e:Nat→Int} {n m:Nat}
theorem gr_row (a b:Nat):GR c d e n m (a+1) b≤d (n - (a+1))+GR c d e n m a b:=by
 cases b with
 | zero=>exact Int.le_refl _
 | succ b=>show min (min _ _) _≤_;omega
theorem gr_col (a b:Nat):GR c d e n m a (b+1)≤e (m - (b+1))+GR c d e n m a b:=by
 cases a with
 | zero=>exact Int.le_refl _
 | succ a=>show min (min _ _) _≤_;exact Int.le_trans (Int.min_le_left _ _) (Int.min_le_right _ _)
theorem gr_diag (a b:Nat):GR c d e n m (a+1) (b+1)≤c (n - (a+1)) (m - (b+1))+GR c d e n m a b:=Int.min_le_right _ _
theorem sg_passed {b t:Nat} (hb:b+1≤m):sg (t+1) (fun x=>e (m - (b+1)+x))=e (m - (b+1))+sg t (fun x=>e (m - b+x)):=by
 rw [sg_front]
 congr 1
 exact sg_congr fun i _=>by congr 1;omega
theorem gr_pass (a:Nat) {b t:Nat} (hb:b≤m) (ht:t < b):GR c d e n m (a+1) b≤sg t (fun x=>e (m - b+x))+c (n - (a+1)) (m - b+t)+GR c d e n m a (b - (t+1)):=by
 induction b generalizing t with
 | zero=>omega
 | succ b ih =>
  cases t with
  | zero=>have:=gr_diag (c:=c) (d:=d) (e:=e) (n:=n) (m:=m) a b;simp only [sg,Nat.add_zero,Int.zero_add];exact this
  | succ t =>
   rw [sg_passed hb]
   have h1:=ih (t:=t) (by omega) (by omega)
   have h2:=gr_col (c:=c) (d:=d) (e:=e) (n:=n) (m:=m) (a+1) b
   have e1:m - (b+1)+(t+1)=m - b+t:=by omega
   have e2:b+1 - (t+1+1)=b - (t+1):=by omega
   rw [e1,e2];omega
theorem gr_is (a:Nat) {b:Nat} (hb:b≤m):GR c d e n m (a+1) b=d (n - (a+1))+GR c d e n m a b∨∃ t,t < b∧sg t (fun x=>e (m - b+x))+c (n - (a+1)) (m - b+t)+GR c d e n m a (b - (t+1))=GR c d e n m (a+1) b:=by
 induction b with
 | zero=>exact .inl rfl
 | succ b ih =>
  have h0:GR c d e n m (a+1) (b+1)=min (min (d (n - (a+1))+GR c d e n m a (b+1)) (e (m - (b+1))+GR c d e n m (a+1) b)) (c (n - (a+1)) (m - (b+1))+GR c d e n m a b):=rfl
  have h1:=gr_row (c:=c) (d:=d) (e:=e) (n:=n) (m:=m) a (b+1)
  by_cases h2:GR c d e n m (a+1) (b+1)=c (n - (a+1)) (m - (b+1))+GR c d e n m a b
  ·refine .inr ⟨0,by omega,?_⟩
   simp only [sg,Nat.add_zero,Int.zero_add];exact h2.symm
  ·by_cases h3:GR c d e n m (a+1) (b+1)=d (n - (a+1))+GR c d e n m a (b+1)
   ·exact .inl h3
   ·have h4:GR c d e n m (a+1) (b+1)=e (m - (b+1))+GR c d e n m (a+1) b:=by omega
    rcases ih (by omega) with g | ⟨t,g1,g2⟩
    ·have:=gr_col (c:=c) (d:=d) (e:=e) (n:=n) (m:=m) a b
     omega
    ·refine .inr ⟨t+1,by omega,?_⟩
     have e1:m - (b+1)+(t+1)=m - b+t:=by omega
     have e2:b+1 - (t+1+1)=b - (t+1):=by omega
     rw [sg_passed hb,e1,e2];omega
theorem gr0_sum {b:Nat} (hb:b≤m):GR0 e m b=sg b (fun x=>e (m - b+x)):=by
 induction b with
 | zero=>rfl
 | succ b ih=>rw [sg_passed hb,GR0,ih (by omega)]
theorem gro_len (a b:Nat):(gro c d e n m a b).length=a:=by
 induction a generalizing b with
 | zero=>rfl
 | succ a ih=>unfold gro;split <;> simp [ih]
theorem cso_low {a f:Nat} {ps:List Int} {v:Int} (ha:a≤n) (hf:f≤m) (hl:ps.length=a) (h:cso c d e m (n - a) f ps=some v):GR c d e n m a (m - f)≤v:=by
 induction a generalizing f ps v with
 | zero =>
  obtain rfl:=List.length_eq_zero_iff.1 hl
  simp only [cso,Option.some.injEq] at h
  show GR0 e m (m - f)≤v
  rw [←h,gr0_sum (by omega),show m - (m - f)=f from by omega]
  exact Int.le_refl _
 | succ a ih =>
  cases ps with
  | nil=>simp at hl
  | cons p ps =>
   have hl':ps.length=a:=by simpa using hl
   have e1:n - (a+1)+1=n - a:=by omega
   simp only [cso,e1] at h
   split at h
   ·obtain ⟨u,h1,rfl⟩:=Option.map_eq_some_iff.1 h
    have:=ih (by omega) hf hl' h1
    have:=gr_row (c:=c) (d:=d) (e:=e) (n:=n) (m:=m) a (m - f)
    omega
   ·split at h
    ·cases h
    ·obtain ⟨u,h1,rfl⟩:=Option.map_eq_some_iff.1 h
     have h2:=ih (by omega) (by omega) hl' h1
     have h3:=gr_pass (c:=c) (d:=d) (e:=e) (n:=n) (m:=m) a (b:=m - f) (t:=p.toNat - f) (by omega) (by omega)
     rw [show m - (m - f)=f from by omega,show f+(p.toNat - f)=p.toNat from by omega,show m - f - (p.toNat - f+1)=m - (p.toNat+1) from by omega] at h3
     omega
theorem gro_cso {a f:Nat} (ha:a≤n) (hf:f≤m):cso c d e m (n - a) f (gro c d e n m a (m - f))=some (GR c d e n m a (m - f)):=by
 induction a generalizing f with
 | zero =>
  show some _=some (GR0 e m (m - f))
  rw [gr0_sum (by omega),show m - (m - f)=f from by omega]
 | succ a ih =>
  have e1:n - (a+1)+1=n - a:=by omega
  unfold gro
  split
  ·rename_i t ht
   obtain ⟨h1,h2,-⟩:=first_some ht
   rw [decide_eq_true_eq] at h2
   have e2:m - (m - f)=f:=by omega
   rw [e2] at h2 ⊢
   have h3:=ih (f:=f+t+1) (by omega) (by omega)
   rw [show m - (f+t+1)=m - f - (t+1) from by omega] at h3
   simp only [cso]
   rw [if_neg (by omega),if_neg (by omega),e1,Int.toNat_natCast,h3,Option.map_some,show f+t - f=t from by omega]
   exact congrArg some h2
  ·rename_i hn
   have h1:=first_none hn
   simp only [cso]
   simp only [if_true]
   rw [e1,ih (by omega) hf,Option.map_some]
   refine congrArg some ?_
   rcases gr_is (c:=c) (d:=d) (e:=e) (n:=n) (m:=m) a (b:=m - f) (by omega) with h | ⟨t,g1,g2⟩
   ·exact h.symm
   ·have:=h1 t g1
    rw [decide_eq_false_iff_not] at this
    exact absurd g2 this
theorem cso_keeps {i f:Nat} {ps:List Int} {v:Int} (h:cso c d e m i f ps=some v):keeps m ((f:Int) - 1) ps=true:=by
 induction ps generalizing i f v with
 | nil=>rfl
 | cons p ps ih =>
  simp only [cso] at h
  unfold keeps
  split at h
  ·rename_i hp
   obtain ⟨u,h1,-⟩:=Option.map_eq_some_iff.1 h
   rw [if_pos hp];exact ih h1
  ·rename_i hp
   split at h
   ·cases h
   ·obtain ⟨u,h1,-⟩:=Option.map_eq_some_iff.1 h
    rw [if_neg hp,if_neg (by omega)]
    have:=ih h1
    rw [show ((p.toNat+1:Nat):Int) - 1=p from by omega] at this
    exact this

theorem cs_cso {i f:Nat} {U:Nat→Bool} {ps:List Int} (hU:∀ j,f≤j→j < m→U j=false) (hf:f≤m) (h:keeps m ((f:Int) - 1) ps=true):cs c d e m i U ps=(cso c d e m i f ps).map (sg f (fun j=>if U j then 0 else e j) + ·):=by
 induction ps generalizing i f U with
 | nil =>
  simp only [cs,cso,Option.map_some,Option.some.injEq]
  have e1:m=f+(m - f):=by omega
  have e2:=sg_ext (n:=f) (k:=m - f) (f:=fun j=>if U j=true then 0 else e j)
  rw [←e1] at e2
  rw [e2]
  congr 1
  exact sg_congr fun t ht=>by rw [hU (f+t) (by omega) (by omega)];simp
 | cons p ps ih =>
  simp only [cs,cso]
  unfold keeps at h
  by_cases hp:p=m
  ·rw [if_pos hp] at h
   rw [if_neg (by omega),if_pos hp,if_pos hp,ih hU hf h,Option.map_map,Option.map_map]
   congr 1;funext x;simp only [Function.comp];omega
  ·rw [if_neg hp] at h
   split at h
   ·cases h
   rename_i hlt
   rw [if_neg hp,if_neg hp]
   by_cases hm:(m:Int) < p
   ·rw [if_pos (by omega),if_pos (by omega)];rfl
   ·have hk:keeps m (((p.toNat+1:Nat):Int) - 1) ps=true:=by
     rw [show ((p.toNat+1:Nat):Int) - 1=p from by omega];exact h
    rw [if_neg (by rintro (h | h | ⟨_,h⟩);omega;omega;rw [hU p.toNat (by omega) (by omega)] at h;cases h),if_neg (by omega)]
    rw [ih (f:=p.toNat+1) (U:=ins U p.toNat) (fun j h1 h2=>by simp only [ins,hU j (by omega) h2,Bool.false_or,beq_eq_false_iff_ne];omega) (by omega) hk,Option.map_map,Option.map_map]
    congr 1;funext x;simp only [Function.comp]
    have e1:sg (p.toNat+1) (fun j=>if ins U p.toNat j then 0 else e j)=sg f (fun j=>if U j then 0 else e j)+sg (p.toNat - f) (fun x=>e (f+x)):=by
     rw [sg_succ]
     have e3:ins U p.toNat p.toNat=true:=by simp [ins]
     rw [e3]
     have e2:p.toNat=f+(p.toNat - f):=by omega
     have e4:=sg_ext (n:=f) (k:=p.toNat - f) (f:=fun j=>if ins U p.toNat j=true then 0 else e j)
     rw [←e2] at e4
     rw [e4]
     simp only [if_true,Int.add_zero]
     congr 1
     ·exact sg_congr fun j hj=>by
       have:(j == p.toNat)=false:=by simp;omega
       simp only [ins,this,Bool.or_false]
     ·exact sg_congr fun t ht=>by
       have:(f+t == p.toNat)=false:=by simp;omega
       simp only [ins,this,Bool.or_false,hU (f+t) (by omega) (by omega)];simp
    omega
theorem cs_cso0 {ps:List Int} (h:keeps m (-1) ps=true):cs c d e m 0 noU ps=cso c d e m 0 0 ps:=by
 have:=cs_cso (c:=c) (d:=d) (e:=e) (i:=0) (f:=0) (U:=noU) (fun _ _ _=>rfl) (Nat.zero_le m) (ps:=ps) (by simpa using h)
 rw [this]
 cases cso c d e m 0 0 ps <;> simp [sg]

def Mono (n m:Nat) (P:Nat→Nat):Prop:=∀ i j,i < j→j < n→P i < m→P j < m→P i < P j
theorem keeps_lt {l:Int} {ps:List Int} (h:keeps m l ps=true):(∀ i (hi:i < ps.length),ps[i]≠m→l < ps[i])∧∀ i j (hij:i < j) (hj:j < ps.length),ps[i]≠m→ps[j]≠m→ps[i] < ps[j]:=by
 induction ps generalizing l with
 | nil=>exact ⟨fun i hi=>by simp at hi,fun i j _ hj=>by simp at hj⟩
 | cons p ps ih =>
  unfold keeps at h
  split at h
  ·rename_i hp
   obtain ⟨h1,h2⟩:=ih h
   refine ⟨fun i hi hne=>?_,fun i j hij hj hi' hj'=>?_⟩
   ·cases i with
    | zero=>exact absurd hp hne
    | succ i=>exact h1 i (by simpa using hi) hne
   ·cases i with
    | zero=>exact absurd hp hi'
    | succ i =>
     cases j with
     | zero=>omega
     | succ j=>exact h2 i j (by omega) (by simpa using hj) hi' hj'
  ·split at h
   ·cases h
   ·rename_i hp hl
    obtain ⟨h1,h2⟩:=ih h
    refine ⟨fun i hi hne=>?_,fun i j hij hj hi' hj'=>?_⟩
    ·cases i with
     | zero=>show l < p;omega
     | succ i=>have:=h1 i (by simpa using hi) hne;show l < ps[i]'(by simpa using hi);omega
    ·cases j with
     | zero=>omega
     | succ j =>
      cases i with
      | zero=>exact h1 j (by simpa using hj) hj'
      | succ i=>exact h2 i j (by omega) (by simpa using hj) hi' hj'
theorem keeps_mono {ps:List Int} (h:keeps m (-1) ps=true):Mono ps.length m (lp ps):=by
 intro i j hij hj hi' hj'
 obtain ⟨h1,h2⟩:=keeps_lt h
 have e1:lp ps i=(ps[i]'(by omega)).toNat:=by simp [lp,List.getD_eq_getElem?_getD,List.getElem?_eq_getElem (show i < ps.length by omega)]
 have e2:lp ps j=(ps[j]).toNat:=by simp [lp,List.getD_eq_getElem?_getD,List.getElem?_eq_getElem hj]
 have g1:=h1 i (by omega)
 have g2:=h1 j hj
 have:=h2 i j hij hj
 rw [e1] at hi' ⊢
 rw [e2] at hj' ⊢
 omega
theorem mono_keeps {k:Nat} {P:Nat→Nat} {l:Int} (h:Mono k m P) (hl:∀ i,i < k→P i≤m∧(P i < m→l < P i)):keeps m l (pl P k)=true:=by
 induction k generalizing P l with
 | zero=>rfl
 | succ k ih =>
  rw [pl_front]
  unfold keeps
  have h':Mono k m (fun r=>P (r+1)):=fun i j hij hj=>h (i+1) (j+1) (by omega) (by omega)
  split
  ·exact ih h' fun i hi=>hl (i+1) (by omega)
  ·rename_i hp
   have h0:=hl 0 (by omega)
   rw [if_neg (by omega)]
   refine ih h' fun i hi=>⟨(hl (i+1) (by omega)).1,fun hm=>?_⟩
   have:=h 0 (i+1) (by omega) (by omega) (by omega) hm
   omega

structure OptO (c:Nat→Nat→Int) (d e:Nat→Int) (n m:Nat) (v:Int):Prop where
 has:∃ P,Asg n m P∧Mono n m P∧cost c d e n m P=v
 low:∀ P,Asg n m P→Mono n m P→v≤cost c d e n m P
theorem GR_opt:OptO c d e n m (GR c d e n m n m):=by
 constructor
 ·have h:=gro_cso (c:=c) (d:=d) (e:=e) (n:=n) (m:=m) (a:=n) (f:=0) (Nat.le_refl n) (Nat.zero_le m)
  rw [Nat.sub_self,Nat.sub_zero] at h
  have hk:keeps m (-1) (gro c d e n m n m)=true:=by have:=cso_keeps h;simpa using this
  rw [←cs_cso0 hk] at h
  obtain ⟨h1,h2,-⟩:=cs_some h
  have h3:=keeps_mono hk
  rw [gro_len] at h1 h2 h3
  exact ⟨_,h1.asg,h3,by rw [h2,costU_cost]⟩
 ·intro P hP hM
  have h:=cs_of (c:=c) (d:=d) (e:=e) (i:=0) (asgU_no hP)
  have hk:keeps m (-1) (pl P n)=true:=mono_keeps hM fun i hi=>⟨hP.le i hi,fun _=>by omega⟩
  rw [costU_cost,cs_cso0 hk] at h
  have:=cso_low (n:=n) (a:=n) (f:=0) (Nat.le_refl n) (Nat.zero_le m) (pl_len P n) (by rw [Nat.sub_self];exact h)
  simpa using this
theorem Opt.le_ord {v u:Int} (h:Opt c d e n m v) (g:OptO c d e n m u):v≤u:=by
 obtain ⟨Q,g1,g1',g2⟩:=g.has
 have:=h.low Q g1;omega
end

section
variable {c c':Nat→Nat→Int} {d e d' e':Nat→Int} {n m n' m':Nat} {B:Int}
theorem opt_le {v v':Int} (h:Opt c d e n m v) (h':Opt c' d' e' n' m' v') (f:∀ P,Asg n m P→∃ P',Asg n' m' P'∧cost c' d' e' n' m' P'≤cost c d e n m P+B):v'≤v+B:=by
 obtain ⟨P,h1,h2⟩:=h.has
 obtain ⟨P',h3,h4⟩:=f P h1
 have:=h'.low P' h3;omega
theorem optO_le {v v':Int} (h:OptO c d e n m v) (h':OptO c' d' e' n' m' v') (f:∀ P,Asg n m P→Mono n m P→∃ P',Asg n' m' P'∧Mono n' m' P'∧cost c' d' e' n' m' P'≤cost c d e n m P+B):v'≤v+B:=by
 obtain ⟨P,h1,h1',h2⟩:=h.has
 obtain ⟨P',h3,h3',h4⟩:=f P h1 h1'
 have:=h'.low P' h3 h3';omega
theorem cost_congr (hc:∀ i,i < n→∀ j,j < m→c i j=c' i j) (hd:∀ i,i < n→d i=d' i) (he:∀ j,j < m→e j=e' j) (P:Nat→Nat):cost c d e n m P=cost c' d' e' n m P:=by
 unfold cost
 congr 1
 ·exact sg_congr fun i hi=>by split;exact hc i hi _ (by assumption);exact hd i hi
 ·exact sg_congr fun j hj=>by split;rfl;exact he j hj
theorem Opt.congr {v:Int} (hc:∀ i,i < n→∀ j,j < m→c i j=c' i j) (hd:∀ i,i < n→d i=d' i) (he:∀ j,j < m→e j=e' j) (h:Opt c d e n m v):Opt c' d' e' n m v:=by
 obtain ⟨⟨P,h1,h2⟩,h3⟩:=h
 exact ⟨⟨P,h1,by rw [←cost_congr hc hd he];exact h2⟩,fun Q hQ=>by rw [←cost_congr hc hd he];exact h3 Q hQ⟩
theorem OptO.congr {v:Int} (hc:∀ i,i < n→∀ j,j < m→c i j=c' i j) (hd:∀ i,i < n→d i=d' i) (he:∀ j,j < m→e j=e' j) (h:OptO c d e n m v):OptO c' d' e' n m v:=by
 obtain ⟨⟨P,h1,h1',h2⟩,h3⟩:=h
 exact ⟨⟨P,h1,h1',by rw [←cost_congr hc hd he];exact h2⟩,fun Q hQ hM=>by rw [←cost_congr hc hd he];exact h3 Q hQ hM⟩

structure Inv (n:Nat) (s s':Nat→Nat):Prop where
 lt:∀ i,i < n→s i < n
 lt':∀ i,i < n→s' i < n
 l:∀ i,i < n→s' (s i)=i
 r:∀ i,i < n→s (s' i)=i
theorem Inv.flip {s s':Nat→Nat} (h:Inv n s s'):Inv n s' s:=⟨h.lt',h.lt,h.r,h.l⟩
theorem Inv.inj {s s':Nat→Nat} (h:Inv n s s') {i j:Nat} (hi:i < n) (hj:j < n) (he:s i=s j):i=j:=by
 rw [←h.l i hi,he,h.l j hj]
theorem sg_perm {s s':Nat→Nat} (h:Inv n s s') (f:Nat→Int):sg n (fun i=>f (s i))=sg n f:=by
 have hA:Asg n n s:=⟨fun i hi=>Nat.le_of_lt (h.lt i hi),fun i j hi hj he _=>h.inj hi hj he⟩
 have h1:=col hA f
 rw [sg_congr (g:=fun i=>f (s i)) (fun i hi=>by simp [h.lt i hi]),sg_congr (f:=fun j=>if used s n j then f j else 0) (g:=f) (fun j hj=>by rw [used_iff.2 ⟨s' j,h.lt' j hj,h.r j hj⟩];simp)] at h1
 exact h1
def permP (m:Nat) (s t':Nat→Nat) (P:Nat→Nat):Nat→Nat:=fun i=>if P (s i) < m then t' (P (s i)) else m
theorem perm_asg {s s' t t':Nat→Nat} (hs:Inv n s s') (ht:Inv m t t') {P:Nat→Nat} (hP:Asg n m P):Asg n m (permP m s t' P):=by
 refine ⟨fun i hi=>?_,fun i j hi hj he hm=>?_⟩
 ·unfold permP;split
  ·rename_i h;exact Nat.le_of_lt (ht.lt' _ h)
  ·exact Nat.le_refl _
 ·unfold permP at he hm
  by_cases h1:P (s i) < m <;> by_cases h2:P (s j) < m <;> simp only [h1,h2,if_true,if_false] at he hm
  ·have:=ht.flip.inj h1 h2 he
   exact hs.inj hi hj (hP.inj _ _ (hs.lt i hi) (hs.lt j hj) this h1)
  ·omega
  ·omega
  ·omega
theorem perm_cost {s s' t t':Nat→Nat} (hs:Inv n s s') (ht:Inv m t t') {P:Nat→Nat} (hP:Asg n m P):cost (fun i j=>c (s i) (t j)) (fun i=>d (s i)) (fun j=>e (t j)) n m (permP m s t' P)=cost c d e n m P:=by
 unfold cost
 congr 1
 ·rw [←sg_perm hs (fun i=>if P i < m then c i (P i) else d i)]
  refine sg_congr fun i hi=>?_
  unfold permP
  by_cases h:P (s i) < m
  ·have:=ht.lt' _ h
   rw [if_pos h,if_pos this,if_pos h]
   show c (s i) (t (t' (P (s i))))=_
   rw [ht.r _ h]
  ·rw [if_neg h,if_neg (Nat.lt_irrefl m),if_neg h]
 ·rw [←sg_perm ht (fun j=>if used P n j then 0 else e j)]
  refine sg_congr fun j hj=>?_
  have:used (permP m s t' P) n j=used P n (t j):=by
   rw [Bool.eq_iff_iff,used_iff,used_iff]
   constructor
   ·rintro ⟨i,hi,he⟩
    unfold permP at he
    by_cases h:P (s i) < m
    ·rw [if_pos h] at he
     exact ⟨s i,hs.lt i hi,by rw [←he,ht.r _ h]⟩
    ·rw [if_neg h] at he;omega
   ·rintro ⟨i,hi,he⟩
    refine ⟨s' i,hs.lt' i hi,?_⟩
    have:=ht.lt j hj
    unfold permP
    rw [hs.r i hi,he,if_pos this,ht.l j hj]
  rw [this]
theorem Opt.perm {s s' t t':Nat→Nat} (hs:Inv n s s') (ht:Inv m t t') {v v':Int} (h:Opt c d e n m v) (h':Opt (fun i j=>c (s i) (t j)) (fun i=>d (s i)) (fun j=>e (t j)) n m v'):v'=v:=by
 have h1:=opt_le (B:=0) h h' fun P hP=>⟨_,perm_asg hs ht hP,by rw [perm_cost hs ht hP];omega⟩
 have h2:=opt_le (B:=0) h' h fun P hP=>⟨_,perm_asg hs.flip ht.flip hP,by
  rw [←perm_cost hs.flip ht.flip hP,Int.add_zero]
  exact Int.le_of_eq (cost_congr (fun i hi j hj=>by simp only [hs.r i hi,ht.r j hj]) (fun i hi=>by simp only [hs.r i hi]) (fun j hj=>by simp only [ht.r j hj]) _)⟩
 omega

end
end Go.CH.Asg
namespace Go.CH.Asg
section
variable (c:Nat→Nat→Int) (d e:Nat→Int) (n m:Nat)

def tst (a:Nat) (U:Nat→Bool) (j:Nat):Bool := !U j && decide (c (n - (a+1)) j+L c d e n m a (ins U j)=L c d e n m (a+1) U)
def bcost:Int:=L c d e n m n noU
def bps:List Int:=gr c d e n m n noU
def buF (i:Nat):Int:=L (dupc c n i) (dupd d n i) e (n+1) m (n+1) noU - bcost c d e n m
def bus:List Int:=(List.range n).map (buF c d e n m)
def bvF (j:Nat):Int:=mnl noU (fun i=>c i j - buF c d e n m i) (e j) n
def bvs:List Int:=(List.range m).map (bvF c d e n m)
end
section
variable {c:Nat→Nat→Int} {d e:Nat→Int} {n m:Nat}
theorem find_hit {p:Nat→Bool} {j:Nat} (hj:j < m) (hp:p j=true) (hb:∀ t,t < j→p t=false):(List.range m).find? p=some j:=by
 rw [List.find?_range_eq_some]
 exact ⟨hp,List.mem_range.2 hj,fun t ht=>by simp [hb t ht]⟩
theorem find_miss {p:Nat→Bool} (hb:∀ t,t < m→p t=false):(List.range m).find? p=none:=by
 rw [List.find?_eq_none]
 exact fun t ht=>by simp [hb t (List.mem_range.1 ht)]
theorem gr_hit {a j:Nat} {U:Nat→Bool} (hj:j < m) (hp:tst c d e n m a U j=true) (hb:∀ t,t < j→tst c d e n m a U t=false) :
  gr c d e n m (a+1) U=(j:Int) :: gr c d e n m a (ins U j)∧L c d e n m a (ins U j)=L c d e n m (a+1) U - c (n - (a+1)) j:=by
 refine ⟨?_,?_⟩
 ·rw [gr]
  have:=find_hit (p:=fun j => !U j && decide (c (n - (a+1)) j+L c d e n m a (ins U j)=L c d e n m (a+1) U)) hj hp hb
  rw [this]
 ·unfold tst at hp
  simp only [Bool.and_eq_true,decide_eq_true_eq] at hp
  omega
theorem gr_miss {a:Nat} {U:Nat→Bool} (hb:∀ t,t < m→tst c d e n m a U t=false) :
  gr c d e n m (a+1) U=(m:Int) :: gr c d e n m a U∧L c d e n m a U=L c d e n m (a+1) U - d (n - (a+1)):=by
 refine ⟨?_,?_⟩
 ·rw [gr]
  have:=find_miss (m:=m) (p:=fun j => !U j && decide (c (n - (a+1)) j+L c d e n m a (ins U j)=L c d e n m (a+1) U)) hb
  rw [this]
 ·rcases mnl_is (U:=U) (f:=fun j=>c (n - (a+1)) j+L c d e n m a (ins U j)) (a:=d (n - (a+1))+L c d e n m a U) (m:=m) with h | ⟨j,g1,g2,g3⟩
  ·have:L c d e n m (a+1) U=d (n - (a+1))+L c d e n m a U:=h
   omega
  ·exfalso
   have h1:=hb j g1
   unfold tst at h1
   rw [g2] at h1
   simp only [Bool.not_false,Bool.true_and,decide_eq_false_iff_not] at h1
   exact h1 g3.symm
theorem best_pot:Pot c d e n m (bcost c d e n m) (buF c d e n m) (bvF c d e n m) where
 opt:=L_opt
 more:=fun i hi=>by
  have:buF c d e n m i+bcost c d e n m=L (dupc c n i) (dupd d n i) e (n+1) m (n+1) noU:=by unfold buF;omega
  rw [this];exact L_opt
 ve:=fun j hj=>mnl_init
 vc:=fun j hj i hi=>mnl_at (f:=fun i=>c i j - buF c d e n m i) hi rfl
 vis:=fun j hj=>by
  rcases mnl_is (U:=noU) (f:=fun i=>c i j - buF c d e n m i) (a:=e j) (m:=n) with h | ⟨i,g1,g2,g3⟩
  ·exact .inl h
  ·exact .inr ⟨i,g1,g3⟩
end
end Go.CH.Asg
namespace Go.CH.Mtc
open Go.CH.Scr Go.CH.Pot

def letF (k:Int) (x:Bs):List Bs:=if word k x then (ltrs k (lower x)).1 else []

structure Vr where
 w:Bs
 e:Int
 c:Int
deriving DecidableEq
def endOf (k:Int) (l:List Bs) (p:Pot.Drop × Nat):Option Vr :=
 if p.1.k=k∧(letF k p.1.w).length < l.length∧l.drop (l.length - (letF k p.1.w).length)=letF k p.1.w then
  some ⟨(l.take (l.length - (letF k p.1.w).length)).flatten,p.2,p.1.c⟩ else none
def varsN (T:Tab) (k:Int) (x:Bs):List Vr:=⟨(letF k x).flatten,-1,0⟩ :: T.es.zipIdx.filterMap (endOf k (letF k x))

def dropC (T:Tab) (k:Int) (x:Bs):Int:=match T.ds.find? (fun d=>decide (d.k=k) && decide (d.w=lower x)) with
 | some d=>d.c
 | none=>T.drop

structure Wy where
 kd:Int
 l:Int
 r:Int
 c:Int
 x:Bs
 y:Bs
deriving DecidableEq
def hd0 (l:List Bs):Bs:=l.headD []
def wayV (u v:Vr):Wy:=⟨1,u.e,v.e,u.c+v.c,u.w,v.w⟩
def waysV (us vs:List Vr):List Wy:=us.flatMap fun u=>vs.map (wayV u)
def waysI (kd ini:Int) (x y:List Bs):Wy:=⟨kd,-1,-1,ini,hd0 x,hd0 y⟩
def waysL (ini:Int) (us vs:List Vr) (p q:List Bs):List Wy :=
 waysV us vs ++ ((if p.length=1 then [waysI 2 ini p q] else []) ++ (if q.length=1 then [waysI 3 ini p q] else []))
def waysN (T:Tab) (k:Int) (x:Bs) (k2:Int) (y:Bs):List Wy:=waysL T.ini (varsN T k x) (varsN T k2 y) (letF k x) (letF k2 y)

def bestD (T:Tab) (k:Int) (x:Bs) (k2:Int) (y:Bs):Option Dv :=
 if okW T k x k2 y=true∧(wdOf T k x k2 y).dist st0 < never then some (wdOf T k x k2 y).best else none

structure Pr where
 i:Int
 j:Int
 kd:Int
 l:Int
 r:Int
 c:Int
 d:Dv
deriving DecidableEq
def noD:Dv:=⟨0,[],[],[]⟩
def noP:Pr:=⟨0,0,0,0,0,0,noD⟩
def prOf (T:Tab) (k k2:Int) (w:Wy):Option Pr:=(bestD T k w.x k2 w.y).map fun d=>⟨0,0,w.kd,w.l,w.r,w.c+d.c,d⟩
def pairsN (T:Tab) (k:Int) (x:Bs) (k2:Int) (y:Bs):List Pr:=(waysN T k x k2 y).filterMap (prOf T k k2)
def pick1 (b:Option Pr) (p:Pr):Option Pr:=match b with
 | none=>some p
 | some q=>if p.c < q.c then some p else some q

def first (l:List Pr):Option Pr:=l.foldl pick1 none
def cheapN (T:Tab) (k:Int) (x:Bs) (k2:Int) (y:Bs):Option Pr:=first (pairsN T k x k2 y)

inductive WordP (T:Tab) (k:Int) (x:Bs) (k2:Int) (y:Bs):Pr→Int→Prop
 | arg (h:okW T k x k2 y=false):WordP T k x k2 y noP 1
 | none (h:okW T k x k2 y=true) (h2:cheapN T k x k2 y=none):WordP T k x k2 y noP 11
 | some {p:Pr} (h:okW T k x k2 y=true) (h2:cheapN T k x k2 y=some p):WordP T k x k2 y p 0

def okM (T:Tab) (a b:NameM):Bool:=validT T && (validN a && validN b)
def wd (a:NameM) (i:Nat):Bs:=a.ws.getD i []
def prM (T:Tab) (a b:NameM) (i j:Nat):Pr:=match cheapN T a.k (wd a i) b.k (wd b j) with
 | some p=>{ p with i:=i,j:=j }
 | none=>⟨i,j,0,0,0,100000,noD⟩
def cM (T:Tab) (a b:NameM) (i j:Nat):Int:=(prM T a b i j).c
def dM (T:Tab) (a:NameM) (i:Nat):Int:=dropC T a.k (wd a i)
def anyK (T:Tab) (a b:NameM):Int:=Asg.bcost (cM T a b) (dM T a) (dM T b) a.ws.length b.ws.length
def anyL (T:Tab) (a b:NameM):List Int:=Asg.bps (cM T a b) (dM T a) (dM T b) a.ws.length b.ws.length
def ordK (T:Tab) (a b:NameM):Int:=Asg.GR (cM T a b) (dM T a) (dM T b) a.ws.length b.ws.length a.ws.length b.ws.length
def ordL (T:Tab) (a b:NameM):List Int:=Asg.gro (cM T a b) (dM T a) (dM T b) a.ws.length b.ws.length a.ws.length b.ws.length

def buildN (T:Tab) (a b:NameM):Nat→List Int→List Pr
 | _,[]=>[]
 | i,j :: l=>if 0≤j∧j < b.ws.length then prM T a b i j.toNat :: buildN T a b (i+1) l else buildN T a b (i+1) l
structure Mt where
 c:Int
 s:Bool
 ps:List Pr
deriving DecidableEq
def noM:Mt:=⟨0,false,[]⟩
def bestM (T:Tab) (a b:NameM):Mt :=
 if anyK T a b+T.ord < ordK T a b then ⟨anyK T a b+T.ord,true,buildN T a b 0 (anyL T a b)⟩ else ⟨ordK T a b,false,buildN T a b 0 (ordL T a b)⟩

inductive MatP (T:Tab) (a b:NameM):Mt→Int→Prop
 | arg (h:okM T a b=false):MatP T a b noM 1
 | some (h:okM T a b=true):MatP T a b (bestM T a b) 0

def rightP (T:Tab) (k:Int) (x:Bs) (k2:Int) (y:Bs) (p:Pr):Prop :=
 ∃ w,(waysN T k x k2 y).find? (fun w=>decide (w.kd=p.kd) && (decide (w.l=p.l) && decide (w.r=p.r)))=some w∧p.c=w.c+p.d.c∧rightD T k w.x k2 w.y p.d

def pairsOk (T:Tab) (a b:NameM) (s:Bool):Int→Int→List Int→List Pr→Prop
 | _,_,_,[]=>True
 | last,before,rs,p :: l=>last < p.i∧p.i < a.ws.length∧0≤p.j∧p.j < b.ws.length∧p.j ∉ rs∧(s=true∨before≤p.j)∧rightP T a.k (wd a p.i.toNat) b.k (wd b p.j.toNat) p∧pairsOk T a b s p.i p.j (p.j :: rs) l
def restC (T:Tab) (a:NameM) (us:List Int):Int:=Asg.sg a.ws.length (fun i=>if (i:Int) ∈ us then 0 else dM T a i)

def costM (T:Tab) (a b:NameM) (m:Mt):Int:=(if m.s then T.ord else 0)+(m.ps.map (·.c)).sum+restC T a (m.ps.map (·.i))+restC T b (m.ps.map (·.j))

def rightM (T:Tab) (a b:NameM) (m:Mt):Prop:=okM T a b=true∧pairsOk T a b m.s (-1) (-1) [] m.ps∧m.c=costM T a b m
end Go.CH.Mtc
namespace Go.CH.Mtc
open Go.CH.Scr Go.CH.Pot
section
variable {T:Tab} {k k2:Int} {x y:Bs} {a b:NameM}

theorem fold_pick:∀ (l:List Pr) (q:Pr),∃ p,l.foldl pick1 (some q)=some p∧(p=q∨p ∈ l)∧p.c≤q.c∧∀ r ∈ l,p.c≤r.c:=by
 intro l
 induction l with
 | nil=>intro q;exact ⟨q,rfl,.inl rfl,Int.le_refl _,fun r hr=>by cases hr⟩
 | cons z l ih =>
  intro q
  rw [List.foldl_cons]
  by_cases h:z.c < q.c
  ·rw [show pick1 (some q) z=some z from if_pos h]
   obtain ⟨p,h1,h2,h3,h4⟩:=ih z
   refine ⟨p,h1,.inr ?_,by omega,fun r hr=>?_⟩
   ·rcases h2 with rfl | h2
    ·exact List.mem_cons_self ..
    ·exact List.mem_cons_of_mem _ h2
   ·rcases List.mem_cons.1 hr with rfl | hr
    ·exact h3
    ·exact h4 r hr
  ·rw [show pick1 (some q) z=some q from if_neg h]
   obtain ⟨p,h1,h2,h3,h4⟩:=ih q
   refine ⟨p,h1,?_,h3,fun r hr=>?_⟩
   ·rcases h2 with rfl | h2
    ·exact .inl rfl
    ·exact .inr (List.mem_cons_of_mem _ h2)
   ·rcases List.mem_cons.1 hr with rfl | hr
    ·omega
    ·exact h4 r hr
theorem first_none {l:List Pr}:first l=none↔l=[]:=by
 cases l with
 | nil=>exact ⟨fun _=>rfl,fun _=>rfl⟩
 | cons z l =>
  unfold first
  rw [List.foldl_cons]
  obtain ⟨p,h1,-⟩:=fold_pick l z
  show l.foldl pick1 (some z)=none↔z :: l=[]
  rw [h1]
  constructor
  ·intro h;cases h
  ·intro h;cases h
theorem first_some {l:List Pr} {p:Pr} (h:first l=some p):p ∈ l∧∀ r ∈ l,p.c≤r.c:=by
 cases l with
 | nil=>cases h
 | cons z l =>
  unfold first at h
  rw [List.foldl_cons] at h
  obtain ⟨q,h1,h2,h3,h4⟩:=fold_pick l z
  have h:l.foldl pick1 (some z)=some p:=h
  rw [h1] at h
  injection h with h
  subst h
  refine ⟨?_,fun r hr=>?_⟩
  ·rcases h2 with rfl | h2
   ·exact List.mem_cons_self ..
   ·exact List.mem_cons_of_mem _ h2
  ·rcases List.mem_cons.1 hr with rfl | hr
   ·exact h3
   ·exact h4 r hr

theorem bestD_iff {d:Dv} {e:Int}:BestP T k x k2 y d e→(e=0∧bestD T k x k2 y=some d)∨(e≠0∧bestD T k x k2 y=none):=by
 intro h
 cases h with
 | arg h=>exact .inr ⟨by decide,by unfold bestD;rw [if_neg (fun hc=>by rw [h] at hc;cases hc.1)]⟩
 | none h h2=>exact .inr ⟨by decide,by unfold bestD;rw [if_neg (fun hc=>by rw [h2] at hc;exact absurd hc.2 (by decide))]⟩
 | some h h2=>exact .inl ⟨rfl,by unfold bestD;rw [if_pos ⟨h,h2⟩]⟩
theorem bestD_p {d:Dv} (h:bestD T k x k2 y=some d):BestP T k x k2 y d 0:=by
 unfold bestD at h
 split at h
 ·rename_i hc
  injection h with h
  subst h
  exact .some hc.1 hc.2
 ·cases h
theorem bestD_bnd {d:Dv} (h:bestD T k x k2 y=some d):0≤d.c∧d.c≤24000:=by
 obtain ⟨-,-,h1,h2⟩:=best_cost (bestD_p h)
 exact ⟨h1,h2⟩

theorem mem_waysL {ini:Int} {us vs:List Vr} {p q:List Bs} {w:Wy}:w ∈ waysL ini us vs p q↔(∃ u ∈ us,∃ v ∈ vs,w=wayV u v)∨(p.length=1∧w=waysI 2 ini p q)∨(q.length=1∧w=waysI 3 ini p q):=by
 unfold waysL waysV
 rw [List.mem_append,List.mem_append,List.mem_flatMap]
 constructor
 ·rintro (⟨u,hu,h⟩ | h | h)
  ·obtain ⟨v,hv,rfl⟩:=List.mem_map.1 h
   exact .inl ⟨u,hu,v,hv,rfl⟩
  ·split at h
   ·rename_i hc;exact .inr (.inl ⟨hc,List.mem_singleton.1 h⟩)
   ·cases h
  ·split at h
   ·rename_i hc;exact .inr (.inr ⟨hc,List.mem_singleton.1 h⟩)
   ·cases h
 ·rintro (⟨u,hu,v,hv,rfl⟩ | ⟨hc,rfl⟩ | ⟨hc,rfl⟩)
  ·exact .inl ⟨u,hu,List.mem_map.2 ⟨v,hv,rfl⟩⟩
  ·exact .inr (.inl (by rw [if_pos hc];exact List.mem_singleton.2 rfl))
  ·exact .inr (.inr (by rw [if_pos hc];exact List.mem_singleton.2 rfl))
theorem mem_pairs {p:Pr}:p ∈ pairsN T k x k2 y↔∃ w ∈ waysN T k x k2 y,∃ d,bestD T k w.x k2 w.y=some d∧p=⟨0,0,w.kd,w.l,w.r,w.c+d.c,d⟩:=by
 unfold pairsN
 rw [List.mem_filterMap]
 unfold prOf
 constructor
 ·rintro ⟨w,hw,h⟩
  obtain ⟨d,hd,rfl⟩:=Option.map_eq_some_iff.1 h
  exact ⟨w,hw,d,hd,rfl⟩
 ·rintro ⟨w,hw,d,hd,rfl⟩
  exact ⟨w,hw,by rw [hd];rfl⟩
theorem cM_eq {i j:Nat}:cM T a b i j=((cheapN T a.k (wd a i) b.k (wd b j)).map (·.c)).getD 100000:=by
 unfold cM prM
 cases cheapN T a.k (wd a i) b.k (wd b j) <;> rfl

theorem dropC_bnd (hv:validT T=true) (k:Int) (x:Bs):0≤dropC T k x∧dropC T k x≤1000:=by
 have h:=validT_iff.1 hv
 unfold dropC
 split
 ·rename_i d hd
  have hm:=List.mem_of_find?_eq_some hd
  have h1:=h.2.2.1
  unfold dropsN at h1
  rw [Bool.and_eq_true,Bool.and_eq_true,List.all_eq_true] at h1
  have h2:=h1.2.1 d hm
  unfold dropN at h2
  rw [Bool.and_eq_true] at h2
  exact costN_iff.1 h2.2
 ·exact costN_iff.1 h.1.2.2.1
theorem vars_bnd (hv:validT T=true) {v:Vr} (h:v ∈ varsN T k x):0≤v.c∧v.c≤1000:=by
 unfold varsN at h
 rcases List.mem_cons.1 h with rfl | h
 ·show (0:Int)≤0∧(0:Int)≤1000
  exact ⟨by decide,by decide⟩
 ·obtain ⟨⟨d,i⟩,hm,he⟩:=List.mem_filterMap.1 h
  unfold endOf at he
  split at he
  ·injection he with he
   subst he
   have h1:=(validT_iff.1 hv).2.2.2
   unfold dropsN at h1
   rw [Bool.and_eq_true,Bool.and_eq_true,List.all_eq_true] at h1
   have h2:=h1.2.1 d (List.fst_mem_of_mem_zipIdx hm)
   unfold dropN at h2
   rw [Bool.and_eq_true] at h2
   exact costN_iff.1 h2.2
  ·cases he
theorem ways_bnd (hv:validT T=true) {w:Wy} (h:w ∈ waysN T k x k2 y):0≤w.c∧w.c≤2000:=by
 rcases mem_waysL.1 h with ⟨u,hu,v,hv',rfl⟩ | ⟨-,rfl⟩ | ⟨-,rfl⟩
 ·have h1:=vars_bnd hv hu
  have h2:=vars_bnd hv hv'
  show 0≤u.c+v.c∧u.c+v.c≤2000
  omega
 all_goals
  have h1:=costN_iff.1 (validT_iff.1 hv).1.2.2.2.2
  show 0≤T.ini∧T.ini≤2000
  omega
theorem pairs_bnd (hv:validT T=true) {p:Pr} (h:p ∈ pairsN T k x k2 y):0≤p.c∧p.c≤26000:=by
 obtain ⟨w,hw,d,hd,rfl⟩:=mem_pairs.1 h
 have h1:=ways_bnd hv hw
 have h2:=bestD_bnd hd
 show 0≤w.c+d.c∧w.c+d.c≤26000
 omega
theorem cM_bnd (hv:validT T=true) (i j:Nat):0≤cM T a b i j∧cM T a b i j≤100000:=by
 rw [cM_eq]
 cases h:cheapN T a.k (wd a i) b.k (wd b j) with
 | none=>exact ⟨by decide,by decide⟩
 | some p =>
  have:=pairs_bnd hv (first_some h).1
  show 0≤p.c∧p.c≤100000
  omega
theorem dM_bnd (hv:validT T=true) (i:Nat):0≤dM T a i∧dM T a i≤1000:=dropC_bnd hv _ _

theorem any_opt:Asg.Opt (cM T a b) (dM T a) (dM T b) a.ws.length b.ws.length (anyK T a b):=Asg.L_opt
theorem ord_opt:Asg.OptO (cM T a b) (dM T a) (dM T b) a.ws.length b.ws.length (ordK T a b):=Asg.GR_opt
theorem best_c:(bestM T a b).c=min (anyK T a b+T.ord) (ordK T a b):=by
 unfold bestM
 split
 ·show anyK T a b+T.ord=_
  omega
 ·show ordK T a b=_
  omega
theorem any_ord:anyK T a b≤ordK T a b:=any_opt.le_ord ord_opt

theorem law_more {x:Bs} {m m':Mt} (h:MatP T a b m 0) (h':MatP T ⟨a.k,a.ws ++ [x]⟩ b m' 0):m'.c≤m.c+dropC T a.k x:=by
 cases h with
 | some h1 =>
  cases h' with
  | some h2 =>
   rw [best_c,best_c]
   have hlen:(⟨a.k,a.ws ++ [x]⟩:NameM).ws.length=a.ws.length+1:=by simp
   have hwd:∀ i,i < a.ws.length→wd ⟨a.k,a.ws ++ [x]⟩ i=wd a i:=fun i hi=>by
    unfold wd
    simp only [List.getD_eq_getElem?_getD]
    rw [List.getElem?_append_left hi]
   have hlast:wd ⟨a.k,a.ws ++ [x]⟩ a.ws.length=x:=by
    unfold wd
    simp [List.getD_eq_getElem?_getD]
   have hc:∀ i,i < a.ws.length→∀ j,cM T ⟨a.k,a.ws ++ [x]⟩ b i j=cM T a b i j:=fun i hi j=>by rw [cM_eq,cM_eq,hwd i hi]
   have hd:∀ i,i < a.ws.length→dM T ⟨a.k,a.ws ++ [x]⟩ i=dM T a i:=fun i hi=>by unfold dM;rw [hwd i hi]
   have hcost:∀ P,Asg.Asg a.ws.length b.ws.length P→Asg.Asg (a.ws.length+1) b.ws.length (Asg.put P a.ws.length b.ws.length)∧Asg.cost (cM T ⟨a.k,a.ws ++ [x]⟩ b) (dM T ⟨a.k,a.ws ++ [x]⟩) (dM T b) (a.ws.length+1) b.ws.length (Asg.put P a.ws.length b.ws.length)≤Asg.cost (cM T a b) (dM T a) (dM T b) a.ws.length b.ws.length P+dropC T a.k x:=fun P hP=>by
    have h3:=Asg.put_asg hP (Nat.le_refl b.ws.length) (fun h=>absurd h (Nat.lt_irrefl _))
    refine ⟨h3,?_⟩
    rw [Asg.cost_tot h3,Asg.cost_tot hP,Asg.put_tot]
    have h4:Asg.tot (Asg.wt (cM T ⟨a.k,a.ws ++ [x]⟩ b) (dM T ⟨a.k,a.ws ++ [x]⟩) (dM T b) b.ws.length) a.ws.length P=Asg.tot (Asg.wt (cM T a b) (dM T a) (dM T b) b.ws.length) a.ws.length P:=by
     unfold Asg.tot
     refine Asg.sg_congr fun i hi=>?_
     unfold Asg.wt
     rw [hc i hi,hd i hi]
    have h5:Asg.wt (cM T ⟨a.k,a.ws ++ [x]⟩ b) (dM T ⟨a.k,a.ws ++ [x]⟩) (dM T b) b.ws.length a.ws.length b.ws.length=dropC T a.k x:=by
     unfold Asg.wt
     rw [if_neg (Nat.lt_irrefl _)]
     unfold dM
     rw [hlast]
    rw [h4,h5]
    omega
   have e1:anyK T ⟨a.k,a.ws ++ [x]⟩ b≤anyK T a b+dropC T a.k x:=by
    have h3:=any_opt (T:=T) (a:=⟨a.k,a.ws ++ [x]⟩) (b:=b)
    rw [hlen] at h3
    exact Asg.opt_le any_opt h3 fun P hP=>⟨_,(hcost P hP).1,(hcost P hP).2⟩
   have e2:ordK T ⟨a.k,a.ws ++ [x]⟩ b≤ordK T a b+dropC T a.k x:=by
    have h3:=ord_opt (T:=T) (a:=⟨a.k,a.ws ++ [x]⟩) (b:=b)
    rw [hlen] at h3
    refine Asg.optO_le ord_opt h3 fun P hP hM=>⟨_,(hcost P hP).1,?_,(hcost P hP).2⟩
    intro i j hij hj hi' hj'
    unfold Asg.put at hi' hj' ⊢
    by_cases ej:j=a.ws.length
    ·rw [if_pos ej] at hj'
     exact absurd hj' (Nat.lt_irrefl _)
    ·rw [if_neg ej] at hj' ⊢
     rw [if_neg (by omega)] at hi' ⊢
     exact hM i j hij (by omega) hi' hj'
   omega

theorem law_all {m:Mt} (h:MatP T a b m 0):0≤m.c∧m.c≤Asg.sg a.ws.length (dM T a)+Asg.sg b.ws.length (dM T b):=by
 cases h with
 | some h1 =>
  have hv:validT T=true:=by unfold okM at h1;rw [Bool.and_eq_true] at h1;exact h1.1
  have ho:=costN_iff.1 (validT_iff.1 hv).1.2.2.2.1
  rw [best_c]
  have hn:∀ P,Asg.Asg a.ws.length b.ws.length P→0≤Asg.cost (cM T a b) (dM T a) (dM T b) a.ws.length b.ws.length P:=fun P hP=>by
   unfold Asg.cost
   have h2:=Asg.sg_nonneg (n:=a.ws.length) (f:=fun i=>if P i < b.ws.length then cM T a b i (P i) else dM T a i) (fun i hi=>by
    split
    ·exact (cM_bnd hv _ _).1
    ·exact (dM_bnd hv _).1)
   have h3:=Asg.sg_nonneg (n:=b.ws.length) (f:=fun j=>if Asg.used P a.ws.length j then 0 else dM T b j) (fun j hj=>by
    split
    ·exact Int.le_refl _
    ·exact (dM_bnd hv _).1)
   omega
  obtain ⟨P,hP,hM,hc⟩:=(ord_opt (T:=T) (a:=a) (b:=b)).has
  obtain ⟨P',hP',hc'⟩:=(any_opt (T:=T) (a:=a) (b:=b)).has
  have h2:=hn P hP
  have h3:=hn P' hP'
  have hA:Asg.Asg a.ws.length b.ws.length (fun _=>b.ws.length):=⟨fun _ _=>Nat.le_refl _,fun i j hi hj _ h=>absurd h (Nat.lt_irrefl _)⟩
  have hAM:Asg.Mono a.ws.length b.ws.length (fun _=>b.ws.length):=fun i j _ _ h=>absurd h (Nat.lt_irrefl _)
  have h4:=(ord_opt (T:=T) (a:=a) (b:=b)).low _ hA hAM
  have h5:Asg.cost (cM T a b) (dM T a) (dM T b) a.ws.length b.ws.length (fun _=>b.ws.length)=Asg.sg a.ws.length (dM T a)+Asg.sg b.ws.length (dM T b):=by
   unfold Asg.cost
   congr 1
   ·exact Asg.sg_congr fun i _=>if_neg (Nat.lt_irrefl _)
   ·refine Asg.sg_congr fun j hj=>if_neg ?_
    rw [Bool.not_eq_true,Asg.used_not]
    intro i _ e
    omega
  rw [h5] at h4
  omega
end
end Go.CH.Mtc
namespace Go.CH.Mtc
open Go.CH.Scr Go.CH.Pot
section
variable {T:Tab} {a b:Int} {x y:Bs}

theorem zip_at {α:Type} {l:List α} {n:Nat} {p q:α × Nat} (hp:p ∈ l.zipIdx n) (hq:q ∈ l.zipIdx n) (h:p.2=q.2):p=q:=by
 obtain ⟨x,i⟩:=p
 obtain ⟨z,j⟩:=q
 have h:i=j:=h
 subst h
 have h1:=(List.mem_zipIdx hp).2.2
 have h2:=(List.mem_zipIdx hq).2.2
 rw [h1,h2]
theorem side_mem {k:Int} {r:AR} (h:r ∈ sideR T.rs k):∃ R,(R,r.ix) ∈ T.rs.zipIdx∧R.k=k∧word k R.f=true∧r=⟨r.ix,R.c,(ltrs k R.f).1,R.t⟩:=by
 unfold sideR at h
 obtain ⟨⟨R,ix⟩,hm,he⟩:=List.mem_filterMap.1 h
 unfold arOf at he
 simp only at he
 split at he
 ·rename_i hk
  split at he
  ·rename_i hw
   injection he with he
   subst he
   exact ⟨R,hm,hk,hw,rfl⟩
  ·cases he
 ·cases he
theorem side_find {k:Int} {r:AR} (h:r ∈ sideR T.rs k):(sideR T.rs k).find? (fun z=>decide ((z.ix:Int)=(r.ix:Int)))=some r:=by
 cases hf:(sideR T.rs k).find? (fun z=>decide ((z.ix:Int)=(r.ix:Int))) with
 | none =>
  have:=List.find?_eq_none.1 hf r h
  simp at this
 | some z =>
  have h1:=List.mem_of_find?_eq_some hf
  have h2:(z.ix:Int)=(r.ix:Int):=by
   have:=List.find?_some hf
   exact of_decide_eq_true this
  obtain ⟨R,g1,-,-,g2⟩:=side_mem h
  obtain ⟨R',g3,-,-,g4⟩:=side_mem h1
  have e:=zip_at g1 g3 (by show r.ix=z.ix;omega)
  injection e with e1 e2
  subst e1
  rw [g2,g4]
  simp only [e2]
theorem side_len {k:Int} {r:AR} (h:r ∈ sideR T.rs k):1≤r.f.length:=by
 obtain ⟨R,-,-,hw,e⟩:=side_mem h
 rw [e]
 exact (word_iff.1 hw).2.1

def Lk (s:St) (FL FR:Bs):Prop:=(s.r=true→FL=s.a ++ FR)∧(s.r=false→FR=s.a ++ FL)
theorem best_from (hv:validT T=true):∀ (n:Nat) (s:St),(wdOf T a x b y).ok s→(wdOf T a x b y).rank s≤n→(wdOf T a x b y).dist s < never →
  ∃ FL FR c1 c2,wrtN (wdOf T a x b y).l (sideR T.rs a) ((wdOf T a x b y).bestR n s).1 s.i=some (FL,c1,(wdOf T a x b y).l.length)∧wrtN (wdOf T a x b y).m (sideR T.rs b) ((wdOf T a x b y).bestR n s).2.1 s.j=some (FR,c2,(wdOf T a x b y).m.length)∧c1+c2=(wdOf T a x b y).dist s∧((wdOf T a x b y).bestR n s).2.2=FL∧Lk s FL FR:=by
 have hg:(wdOf T a x b y).good:=(good_of hv).1
 have hfin:(wdOf T a x b y).dist (wdOf T a x b y).fin=0:=by
  have h0:(wdOf T a x b y).rank (wdOf T a x b y).fin=0:=by unfold Wd.rank Wd.fin;simp
  unfold Wd.dist
  rw [h0]
  unfold Wd.dn
  rw [if_pos rfl]
 have base:∀ (n:Nat) (s:St),s=(wdOf T a x b y).fin→∃ FL FR c1 c2,wrtN (wdOf T a x b y).l (sideR T.rs a) ((wdOf T a x b y).bestR n s).1 s.i=some (FL,c1,(wdOf T a x b y).l.length)∧wrtN (wdOf T a x b y).m (sideR T.rs b) ((wdOf T a x b y).bestR n s).2.1 s.j=some (FR,c2,(wdOf T a x b y).m.length)∧c1+c2=(wdOf T a x b y).dist s∧((wdOf T a x b y).bestR n s).2.2=FL∧Lk s FL FR:=by
  intro n s e
  have hb:(wdOf T a x b y).bestR n s=([],[],[]):=by
   cases n with
   | zero=>rfl
   | succ n=>unfold Wd.bestR;rw [if_pos e]
  rw [hb]
  subst e
  refine ⟨[],[],0,0,rfl,rfl,hfin.symm,rfl,?_⟩
  exact ⟨(fun h=>by cases h),(fun _=>rfl)⟩
 intro n
 induction n with
 | zero =>
  intro s hs hr hd
  by_cases e:s=(wdOf T a x b y).fin
  ·exact base 0 s e
  ·exfalso
   have h0:(wdOf T a x b y).rank s=0:=Nat.le_zero.1 hr
   unfold Wd.dist at hd
   rw [h0] at hd
   unfold Wd.dn at hd
   rw [if_neg e] at hd
   exact absurd hd (Int.lt_irrefl _)
 | succ n ih =>
  intro s hs hr hd
  by_cases e:s=(wdOf T a x b y).fin
  ·exact base _ s e
  ·have hpk:∃ p,(wdOf T a x b y).pick s=some p:=by
    cases hp:(wdOf T a x b y).pick s with
    | some p=>exact ⟨p,rfl⟩
    | none =>
     exfalso
     have h1:=List.find?_eq_none.1 hp
     have h2:=dist_eq (W:=wdOf T a x b y) hs
     rw [if_neg e] at h2
     rcases fold_eq (fun z:Int × St=>z.1+(wdOf T a x b y).dist z.2) ((wdOf T a x b y).moves s) never with h3 | ⟨q,hq,h3⟩
     ·rw [h2,h3] at hd
      exact absurd hd (Int.lt_irrefl _)
     ·rw [←amoves_eq hv hs] at hq
      obtain ⟨p,hp,rfl⟩:=List.mem_map.1 hq
      refine h1 p hp (decide_eq_true ?_)
      rw [h2]
      exact h3.symm
   obtain ⟨⟨r,s'⟩,hp⟩:=hpk
   have hbest:(wdOf T a x b y).bestR (n+1) s=if s.i < s'.i then ((r.ix:Int) :: ((wdOf T a x b y).bestR n s').1,((wdOf T a x b y).bestR n s').2.1,r.t ++ ((wdOf T a x b y).bestR n s').2.2) else (((wdOf T a x b y).bestR n s').1,(r.ix:Int) :: ((wdOf T a x b y).bestR n s').2.1,((wdOf T a x b y).bestR n s').2.2):=by
    rw [Wd.bestR,if_neg e,hp]
   have hmem:(r,s') ∈ (wdOf T a x b y).amoves s:=List.mem_of_find?_eq_some hp
   have hcost:r.c+(wdOf T a x b y).dist s'=(wdOf T a x b y).dist s:=by
    have:=List.find?_some hp
    exact of_decide_eq_true this
   have hmv:(r.c,s') ∈ (wdOf T a x b y).moves s:=by
    rw [←amoves_eq hv hs]
    exact List.mem_map.2 ⟨(r,s'),hmem,rfl⟩
   have hok':=moves_ok hs hmv
   have hc:=good_cost hg hmv
   obtain ⟨FL,FR,c1,c2,w1,w2,w3,w4,w5⟩:=ih s' hok'.1 (by have:=hok'.2;omega) (by omega)
   unfold Wd.amoves at hmem
   obtain ⟨r0,hr0,hav⟩:=List.mem_filterMap.1 hmem
   unfold Wd.amv at hav
   have hlen:1≤r0.f.length:=side_len hr0
   by_cases hfit:fitsA (if (wdOf T a x b y).left s then (wdOf T a x b y).l else (wdOf T a x b y).m) r0 (if (wdOf T a x b y).left s then s.i else s.j)=true
   ·rw [if_pos hfit] at hav
    obtain ⟨⟨a',r'⟩,hah,he⟩:=Option.map_eq_some_iff.1 hav
    injection he with he1 he2
    subst he1
    cases hl:(wdOf T a x b y).left s with
    | true =>
     rw [hl] at hfit he2 hr0
     simp only [if_true] at hfit he2 hr0
     subst he2
     rw [hbest,if_pos (by show s.i < s.i+r0.f.length;omega)]
     have hside:r0 ∈ sideR T.rs a:=hr0
     refine ⟨r0.t ++ FL,FR,r0.c+c1,c2,?_,w2,by have:=w3;omega,by rw [w4],?_⟩
     ·unfold wrtN
      rw [side_find hside]
      simp only
      rw [if_pos hfit,w1]
      rfl
     ·unfold Wd.ahA at hah
      obtain ⟨k1,k2⟩:=w5
      simp only at k1 k2
      split at hah
      ·rename_i hpre
       injection hah with hah
       injection hah with ha hr'
       obtain ⟨z,hz⟩:=pre_iff.1 hpre
       rw [hz,List.drop_left] at ha
       rw [hz,List.drop_left] at hr'
       subst ha
       constructor
       ·intro hsr
        rw [hsr,Bool.true_and] at hr'
        rw [hz,List.append_assoc]
        congr 1
        by_cases hz0:z=[]
        ·subst hz0
         have:=k2 (by rw [←hr'];simp)
         rw [this];rfl
        ·exact k1 (by rw [←hr'];simp [hz0])
       ·intro hsr
        rw [hsr,Bool.false_and] at hr'
        have ha0:s.a=[]:=by
         rcases left_iff.1 hl with h | h
         ·rw [hsr] at h;cases h
         ·exact h.1
        rw [ha0] at hz
        have hz':=List.append_eq_nil_iff.1 hz.symm
        have:=k2 hr'.symm
        rw [ha0,this,hz'.1,hz'.2]
        rfl
      ·split at hah
       ·rename_i hpre
        injection hah with hah
        injection hah with ha hr'
        rw [hl] at hr'
        obtain ⟨z,hz⟩:=pre_iff.1 hpre
        rw [hz,List.drop_left] at ha
        subst ha
        have:=k2 hr'.symm
        constructor
        ·intro hsr
         rw [this,hz,List.append_assoc]
        ·intro hsr
         have ha0:s.a=[]:=by
          rcases left_iff.1 hl with h | h
          ·rw [hsr] at h;cases h
          ·exact h.1
         rw [this,hz,ha0]
         rfl
       ·cases hah
    | false =>
     rw [hl] at hfit he2 hr0
     simp only [Bool.false_eq_true,if_false] at hfit he2 hr0
     subst he2
     rw [hbest,if_neg (by show ¬ s.i < s.i;omega)]
     have hside:r0 ∈ sideR T.rs b:=hr0
     have hsr:s.r=false:=by
      cases h:s.r with
      | false=>rfl
      | true=>rw [left_iff.2 (.inl h)] at hl;cases hl
     refine ⟨FL,r0.t ++ FR,c1,r0.c+c2,w1,?_,by have:=w3;omega,w4,?_⟩
     ·unfold wrtN
      rw [side_find hside]
      simp only
      rw [if_pos hfit,w2]
      rfl
     ·unfold Wd.ahA at hah
      obtain ⟨k1,k2⟩:=w5
      simp only at k1 k2
      refine ⟨(fun h=>by rw [hsr] at h;cases h),fun _=>?_⟩
      split at hah
      ·rename_i hpre
       injection hah with hah
       injection hah with ha hr'
       obtain ⟨z,hz⟩:=pre_iff.1 hpre
       rw [hz,List.drop_left] at ha
       subst ha
       rw [hsr,Bool.false_and] at hr'
       rw [k2 hr'.symm,hz,List.append_assoc]
      ·split at hah
       ·rename_i hpre
        injection hah with hah
        injection hah with ha hr'
        rw [hl] at hr'
        obtain ⟨z,hz⟩:=pre_iff.1 hpre
        rw [hz,List.drop_left] at ha
        subst ha
        rw [k1 hr'.symm,hz,List.append_assoc]
       ·cases hah
   ·rw [if_neg hfit] at hav
    cases hav

theorem best_right {d:Dv} (h:bestD T a x b y=some d):rightD T a x b y d:=by
 unfold bestD at h
 split at h
 ·rename_i hc
  injection h with h
  subst h
  have hv:=(okW_iff.1 hc.1).2.2
  obtain ⟨FL,FR,c1,c2,w1,w2,w3,w4,w5⟩:=best_from (a:=a) (x:=x) (b:=b) (y:=y) hv _ st0 ok0 (Nat.le_refl _) hc.2
  have e:FR=FL:=w5.2 rfl
  refine ⟨hc.1,FL,c1,c2,w1,by rw [←e];exact w2,w4.symm,w3⟩
 ·cases h
end
end Go.CH.Mtc
namespace Go.CH.Mtc
open Go.CH.Scr Go.CH.Pot
section
variable {c:Nat→Nat→Int} {d e:Nat→Int} {n m:Nat}

structure Cols (c:Nat→Nat→Int) (d e:Nat→Int) (n m:Nat) (cols:List Int) (v:Int):Prop where
 len:cols.length=n
 bnd:∀ p ∈ cols,0≤p∧p≤m
 asg:Asg.Asg n m (Asg.lp cols)
 cost:Asg.cost c d e n m (Asg.lp cols)=v
theorem any_cols:Cols c d e n m (Asg.bps c d e n m) (Asg.bcost c d e n m):=by
 have h:=Asg.gr_cs (c:=c) (d:=d) (e:=e) (n:=n) (m:=m) (k:=n) (Nat.le_refl n) Asg.noU
 rw [Nat.sub_self] at h
 obtain ⟨h1,h2,h3⟩:=Asg.cs_some h
 rw [Asg.gr_len] at h1 h2
 exact ⟨Asg.gr_len _ _,h3,h1.asg,by rw [←Asg.costU_cost];exact h2.symm⟩
theorem ord_cols:Cols c d e n m (Asg.gro c d e n m n m) (Asg.GR c d e n m n m)∧Asg.Mono n m (Asg.lp (Asg.gro c d e n m n m)):=by
 have h:=Asg.gro_cso (c:=c) (d:=d) (e:=e) (n:=n) (m:=m) (a:=n) (f:=0) (Nat.le_refl n) (Nat.zero_le m)
 rw [Nat.sub_self,Nat.sub_zero] at h
 have hk:Asg.keeps m (-1) (Asg.gro c d e n m n m)=true:=by have:=Asg.cso_keeps h;simpa using this
 rw [←Asg.cs_cso0 hk] at h
 obtain ⟨h1,h2,h3⟩:=Asg.cs_some h
 have h4:=Asg.keeps_mono hk
 rw [Asg.gro_len] at h1 h2 h4
 exact ⟨⟨Asg.gro_len _ _,h3,h1.asg,by rw [←Asg.costU_cost];exact h2.symm⟩,h4⟩

def drop1 (m i:Nat) (P:Nat→Nat):Nat→Nat:=fun r=>if r=i then m else P r
theorem drop1_asg {P:Nat→Nat} {i:Nat} (h:Asg.Asg n m P):Asg.Asg n m (drop1 m i P):=by
 refine ⟨fun r hr=>?_,fun r s hr hs he hm=>?_⟩
 ·unfold drop1;split
  ·exact Nat.le_refl _
  ·exact h.le r hr
 ·unfold drop1 at he hm
  by_cases h1:r=i
  ·rw [if_pos h1] at hm;exact absurd hm (Nat.lt_irrefl _)
  ·rw [if_neg h1] at he hm
   by_cases h2:s=i
   ·rw [if_pos h2] at he;rw [he] at hm;exact absurd hm (Nat.lt_irrefl _)
   ·rw [if_neg h2] at he
    exact h.inj r s hr hs he hm
theorem drop1_mono {P:Nat→Nat} {i:Nat} (h:Asg.Mono n m P):Asg.Mono n m (drop1 m i P):=by
 intro r s hrs hs h1 h2
 unfold drop1 at h1 h2 ⊢
 by_cases e1:r=i
 ·rw [if_pos e1] at h1;exact absurd h1 (Nat.lt_irrefl _)
 ·by_cases e2:s=i
  ·rw [if_pos e2] at h2;exact absurd h2 (Nat.lt_irrefl _)
  ·rw [if_neg e1] at h1 ⊢
   rw [if_neg e2] at h2 ⊢
   exact h r s hrs hs h1 h2
theorem drop1_cost {P:Nat→Nat} {i:Nat} (h:Asg.Asg n m P) (hi:i < n) (hm:P i < m):Asg.cost c d e n m (drop1 m i P)=Asg.cost c d e n m P - c i (P i)+e (P i)+d i:=by
 rw [Asg.cost_tot (drop1_asg h),Asg.cost_tot h]
 unfold Asg.tot
 have:=Asg.sg_upd (f:=fun r=>Asg.wt c d e m r (drop1 m i P r)) (g:=fun r=>Asg.wt c d e m r (P r)) hi (fun r hr hne=>by unfold drop1;rw [if_neg hne])
 rw [this]
 have e1:Asg.wt c d e m i (drop1 m i P i)=d i:=by unfold drop1 Asg.wt;rw [if_pos rfl,if_neg (Nat.lt_irrefl _)]
 have e2:Asg.wt c d e m i (P i)=c i (P i) - e (P i):=by unfold Asg.wt;rw [if_pos hm]
 rw [e1,e2]
 omega
end
section
variable {T:Tab} {k k2:Int} {x y:Bs} {a b:NameM}
theorem cheap_of {i j:Nat} (h:cM T a b i j < 100000):∃ p,cheapN T a.k (wd a i) b.k (wd b j)=some p:=by
 rw [cM_eq] at h
 cases hc:cheapN T a.k (wd a i) b.k (wd b j) with
 | some p=>exact ⟨p,rfl⟩
 | none=>rw [hc] at h;exact absurd h (by decide)

theorem vars_inj {u v:Vr} (hu:u ∈ varsN T k x) (hv:v ∈ varsN T k x) (h:u.e=v.e):u=v:=by
 have key:∀ w:Vr,w ∈ T.es.zipIdx.filterMap (endOf k (letF k x))→∃ p ∈ T.es.zipIdx,endOf k (letF k x) p=some w∧w.e=(p.2:Int):=by
  intro w hw
  obtain ⟨p,hp,he⟩:=List.mem_filterMap.1 hw
  refine ⟨p,hp,he,?_⟩
  unfold endOf at he
  split at he
  ·injection he with he
   subst he
   rfl
  ·cases he
 unfold varsN at hu hv
 rcases List.mem_cons.1 hu with rfl | hu
 ·rcases List.mem_cons.1 hv with rfl | hv
  ·rfl
  ·obtain ⟨p,-,-,e⟩:=key v hv
   rw [e] at h
   have h:(-1:Int)=(p.2:Int):=h
   omega
 ·obtain ⟨p,hp,e1,e2⟩:=key u hu
  rcases List.mem_cons.1 hv with rfl | hv
  ·rw [e2] at h
   have h:(p.2:Int) = -1:=h
   omega
  ·obtain ⟨q,hq,e3,e4⟩:=key v hv
   have:=zip_at hp hq (by rw [e2,e4] at h;omega)
   subst this
   rw [e1] at e3
   injection e3
theorem ways_inj {w z:Wy} (hw:w ∈ waysN T k x k2 y) (hz:z ∈ waysN T k x k2 y) (h1:w.kd=z.kd) (h2:w.l=z.l) (h3:w.r=z.r):w=z:=by
 rcases mem_waysL.1 hw with ⟨u,hu,v,hv,rfl⟩ | ⟨-,rfl⟩ | ⟨-,rfl⟩
 ·rcases mem_waysL.1 hz with ⟨u',hu',v',hv',rfl⟩ | ⟨-,rfl⟩ | ⟨-,rfl⟩
  ·rw [vars_inj hu hu' h2,vars_inj hv hv' h3]
  ·exact absurd h1 (by show ¬ (1:Int)=2;decide)
  ·exact absurd h1 (by show ¬ (1:Int)=3;decide)
 ·rcases mem_waysL.1 hz with ⟨u',hu',v',hv',rfl⟩ | ⟨-,rfl⟩ | ⟨-,rfl⟩
  ·exact absurd h1 (by show ¬ (2:Int)=1;decide)
  ·rfl
  ·exact absurd h1 (by show ¬ (2:Int)=3;decide)
 ·rcases mem_waysL.1 hz with ⟨u',hu',v',hv',rfl⟩ | ⟨-,rfl⟩ | ⟨-,rfl⟩
  ·exact absurd h1 (by show ¬ (3:Int)=1;decide)
  ·exact absurd h1 (by show ¬ (3:Int)=2;decide)
  ·rfl

theorem pairs_right {p:Pr} (h:p ∈ pairsN T k x k2 y) (i j:Int):rightP T k x k2 y { p with i:=i,j:=j }:=by
 obtain ⟨w,hw,d,hd,rfl⟩:=mem_pairs.1 h
 cases hf:(waysN T k x k2 y).find? (fun z=>decide (z.kd=w.kd) && (decide (z.l=w.l) && decide (z.r=w.r))) with
 | none =>
  have:=List.find?_eq_none.1 hf w hw
  simp at this
 | some z =>
  have h1:=List.find?_some hf
  simp only [Bool.and_eq_true,decide_eq_true_eq] at h1
  have e:=ways_inj (List.mem_of_find?_eq_some hf) hw h1.1 h1.2.1 h1.2.2
  subst e
  exact ⟨z,hf,rfl,best_right hd⟩

theorem pr_i {i j:Nat}:(prM T a b i j).i=i:=by unfold prM;split <;> rfl
theorem pr_j {i j:Nat}:(prM T a b i j).j=j:=by unfold prM;split <;> rfl
theorem build_ok {s:Bool} {cols:List Int} (hn:cols.length=a.ws.length) (hb:∀ p ∈ cols,0≤p∧p≤b.ws.length) (hA:Asg.Asg a.ws.length b.ws.length (Asg.lp cols)) (hM:s=true∨Asg.Mono a.ws.length b.ws.length (Asg.lp cols))
  (hp:∀ i,i < a.ws.length→Asg.lp cols i < b.ws.length→∃ p,cheapN T a.k (wd a i) b.k (wd b (Asg.lp cols i))=some p) :
  ∀ (l:List Int) (i:Nat) (last before:Int) (rs:List Int),l=cols.drop i→last < i→(∀ q ∈ rs,∃ r,r < i∧q=(Asg.lp cols r:Int)∧Asg.lp cols r < b.ws.length)→(before = -1∨∃ r,r < i∧before=(Asg.lp cols r:Int)∧Asg.lp cols r < b.ws.length) →
   pairsOk T a b s last before rs (buildN T a b i l):=by
 intro l
 induction l with
 | nil=>intro i last before rs _ _ _ _;exact trivial
 | cons j l ih =>
  intro i last before rs hl h1 h2 h3
  have hi:i < cols.length:=by
   rcases Nat.lt_or_ge i cols.length with h | h
   ·exact h
   ·rw [List.drop_eq_nil_of_le h] at hl;cases hl
  have hd:=List.drop_eq_getElem_cons hi
  rw [←hl] at hd
  injection hd with hj hd'
  have hlp:Asg.lp cols i=j.toNat:=by unfold Asg.lp;rw [List.getD_eq_getElem?_getD,List.getElem?_eq_getElem hi,←hj];rfl
  have hjb:=hb j (by rw [hj];exact List.getElem_mem hi)
  unfold buildN
  split
  ·rename_i hc
   have hPm:Asg.lp cols i < b.ws.length:=by rw [hlp];omega
   have hjj:((j.toNat:Nat):Int)=j:=Int.toNat_of_nonneg hjb.1
   obtain ⟨p,hpc⟩:=hp i (by omega) hPm
   rw [hlp] at hpc
   show _∧_∧_∧_∧_∧_∧_∧_
   rw [pr_i,pr_j,hjj]
   refine ⟨h1,by omega,hjb.1,hc.2,fun hm=>?_,?_,?_,?_⟩
   ·obtain ⟨r,g1,g2,g3⟩:=h2 j hm
    have:=hA.inj r i (by omega) (by omega) (by rw [hlp];omega) g3
    omega
   ·rcases hM with h | h
    ·exact .inl h
    ·refine .inr ?_
     rcases h3 with h3 | ⟨r,g1,g2,g3⟩
     ·omega
     ·have:=h r i g1 (by omega) g3 hPm
      rw [hlp] at this
      omega
   ·have:prM T a b i j.toNat={ p with i:=i,j:=(j.toNat:Nat) }:=by unfold prM;rw [hpc]
    rw [this,Int.toNat_natCast]
    exact pairs_right (first_some hpc).1 _ _
   ·refine ih (i+1) _ _ _ hd' (by omega) (fun q hq=>?_) (.inr ⟨i,by omega,by rw [hlp,hjj],hPm⟩)
    rcases List.mem_cons.1 hq with rfl | hq
    ·exact ⟨i,by omega,by rw [hlp,hjj],hPm⟩
    ·obtain ⟨r,g1,g2⟩:=h2 q hq
     exact ⟨r,by omega,g2⟩
  ·refine ih (i+1) _ _ _ hd' (by omega) (fun q hq=>?_) ?_
   ·obtain ⟨r,g1,g2⟩:=h2 q hq
    exact ⟨r,by omega,g2⟩
   ·rcases h3 with h3 | ⟨r,g1,g2⟩
    ·exact .inl h3
    ·exact .inr ⟨r,by omega,g2⟩
theorem build_mem:∀ (l:List Int) (i:Nat) (p:Pr),p ∈ buildN T a b i l↔∃ r,∃ h:r < l.length,0≤l[r]∧l[r] < b.ws.length∧p=prM T a b (i+r) l[r].toNat:=by
 intro l
 induction l with
 | nil =>
  intro i p
  constructor
  ·intro h;cases h
  ·rintro ⟨r,h,-⟩;simp at h
 | cons j l ih =>
  intro i p
  have tl:(∃ r,∃ h:r < l.length,0≤l[r]∧l[r] < b.ws.length∧p=prM T a b (i+1+r) l[r].toNat)↔∃ r,∃ h:r+1 < (j :: l).length,0≤(j :: l)[r+1]∧(j :: l)[r+1] < b.ws.length∧p=prM T a b (i+(r+1)) (j :: l)[r+1].toNat:=by
   constructor
   ·rintro ⟨r,h,g⟩
    refine ⟨r,by rw [List.length_cons];omega,?_⟩
    rw [List.getElem_cons_succ,show i+(r+1)=i+1+r by omega]
    exact g
   ·rintro ⟨r,h,g⟩
    refine ⟨r,by rw [List.length_cons] at h;omega,?_⟩
    rw [List.getElem_cons_succ,show i+(r+1)=i+1+r by omega] at g
    exact g
  unfold buildN
  split
  ·rename_i hc
   rw [List.mem_cons,ih,tl]
   constructor
   ·rintro (rfl | ⟨r,h⟩)
    ·exact ⟨0,by rw [List.length_cons];omega,hc.1,hc.2,rfl⟩
    ·exact ⟨r+1,h⟩
   ·rintro ⟨r,h⟩
    cases r with
    | zero=>obtain ⟨h1,-,-,h2⟩:=h;exact .inl h2
    | succ r=>exact .inr ⟨r,h⟩
  ·rename_i hc
   rw [ih,tl]
   constructor
   ·rintro ⟨r,h⟩;exact ⟨r+1,h⟩
   ·rintro ⟨r,h⟩
    cases r with
    | zero=>obtain ⟨h1,h2,h3,-⟩:=h;exact absurd ⟨h2,h3⟩ hc
    | succ r=>exact ⟨r,h⟩
theorem build_sum:∀ (l:List Int) (i:Nat),((buildN T a b i l).map (·.c)).sum=Asg.sg l.length (fun r=>if 0≤l.getD r 0∧l.getD r 0 < b.ws.length then cM T a b (i+r) (l.getD r 0).toNat else 0):=by
 intro l
 induction l with
 | nil=>intro i;rfl
 | cons j l ih =>
  intro i
  rw [List.length_cons,Asg.sg_front]
  have e:(fun r=>if 0≤(j :: l).getD (r+1) 0∧(j :: l).getD (r+1) 0 < b.ws.length then cM T a b (i+(r+1)) ((j :: l).getD (r+1) 0).toNat else 0)=(fun r=>if 0≤l.getD r 0∧l.getD r 0 < b.ws.length then cM T a b (i+1+r) (l.getD r 0).toNat else 0):=by
   funext r
   rw [List.getD_cons_succ,show i+(r+1)=i+1+r by omega]
  rw [e,←ih (i+1),List.getD_cons_zero]
  by_cases hc:0≤j∧j < b.ws.length
  ·rw [show buildN T a b i (j :: l)=prM T a b i j.toNat :: buildN T a b (i+1) l from if_pos hc,List.map_cons,List.sum_cons,if_pos hc];rfl
  ·rw [show buildN T a b i (j :: l)=buildN T a b (i+1) l from if_neg hc,if_neg hc,Int.zero_add]
theorem build_cost {s:Bool} {cols:List Int} {v:Int} (h:Cols (cM T a b) (dM T a) (dM T b) a.ws.length b.ws.length cols v):costM T a b ⟨v,s,buildN T a b 0 cols⟩=(if s then T.ord else 0)+v:=by
 have hlp:∀ r,r < a.ws.length→∃ h:r < cols.length,Asg.lp cols r=cols[r].toNat∧0≤cols[r]∧cols.getD r 0=cols[r]:=fun r hr=>by
  have hr':r < cols.length:=by rw [h.len];exact hr
  refine ⟨hr',?_,(h.bnd _ (List.getElem_mem hr')).1,?_⟩
  ·unfold Asg.lp;rw [List.getD_eq_getElem?_getD,List.getElem?_eq_getElem hr'];rfl
  ·rw [List.getD_eq_getElem?_getD,List.getElem?_eq_getElem hr'];rfl
 have h1:restC T a ((buildN T a b 0 cols).map (·.i))=Asg.sg a.ws.length (fun r=>if Asg.lp cols r < b.ws.length then 0 else dM T a r):=by
  unfold restC
  refine Asg.sg_congr fun r hr=>?_
  obtain ⟨hr',e1,e2,-⟩:=hlp r hr
  have hiff:((r:Int) ∈ (buildN T a b 0 cols).map (·.i))↔Asg.lp cols r < b.ws.length:=by
   rw [List.mem_map]
   constructor
   ·rintro ⟨p,hp,he⟩
    obtain ⟨t,ht,g1,g2,rfl⟩:=(build_mem _ _ _).1 hp
    rw [pr_i,Nat.zero_add] at he
    have:t=r:=by omega
    subst this
    rw [e1];omega
   ·intro hl
    exact ⟨_,(build_mem _ _ _).2 ⟨r,hr',e2,by rw [e1] at hl;omega,rfl⟩,by rw [pr_i,Nat.zero_add]⟩
  by_cases hl:Asg.lp cols r < b.ws.length
  ·rw [if_pos (hiff.2 hl),if_pos hl]
  ·rw [if_neg (fun hm=>hl (hiff.1 hm)),if_neg hl]
 have h2:restC T b ((buildN T a b 0 cols).map (·.j))=Asg.sg b.ws.length (fun j=>if Asg.used (Asg.lp cols) a.ws.length j then 0 else dM T b j):=by
  unfold restC
  refine Asg.sg_congr fun j hj=>?_
  have hiff:((j:Int) ∈ (buildN T a b 0 cols).map (·.j))↔Asg.used (Asg.lp cols) a.ws.length j=true:=by
   rw [List.mem_map,Asg.used_iff]
   constructor
   ·rintro ⟨p,hp,he⟩
    obtain ⟨t,ht,g1,g2,rfl⟩:=(build_mem _ _ _).1 hp
    have ht':t < a.ws.length:=by rw [←h.len];exact ht
    obtain ⟨_,e1,_⟩:=hlp t ht'
    rw [pr_j] at he
    exact ⟨t,ht',by rw [e1];omega⟩
   ·rintro ⟨t,ht,he⟩
    obtain ⟨ht',e1,e2,-⟩:=hlp t ht
    refine ⟨_,(build_mem _ _ _).2 ⟨t,ht',e2,by rw [e1] at he;omega,rfl⟩,?_⟩
    rw [pr_j,←e1,he]
  by_cases hl:Asg.used (Asg.lp cols) a.ws.length j=true
  ·rw [if_pos (hiff.2 hl),if_pos hl]
  ·rw [if_neg (fun hm=>hl (hiff.1 hm)),if_neg hl]
 have h3:((buildN T a b 0 cols).map (·.c)).sum=Asg.sg a.ws.length (fun r=>if Asg.lp cols r < b.ws.length then cM T a b r (Asg.lp cols r) else 0):=by
  rw [build_sum,h.len]
  refine Asg.sg_congr fun r hr=>?_
  obtain ⟨hr',e1,e2,e3⟩:=hlp r hr
  rw [e3,e1,Nat.zero_add]
  by_cases hl:cols[r] < b.ws.length
  ·rw [if_pos ⟨e2,hl⟩,if_pos (by omega)]
  ·rw [if_neg (fun hm=>hl hm.2),if_neg (by omega)]
 unfold costM
 show (if s=true then T.ord else 0)+_+_+_=_
 rw [h1,h2,h3]
 have h4:=h.cost
 unfold Asg.cost at h4
 have h5:Asg.sg a.ws.length (fun i=>if Asg.lp cols i < b.ws.length then cM T a b i (Asg.lp cols i) else dM T a i)=Asg.sg a.ws.length (fun r=>if Asg.lp cols r < b.ws.length then cM T a b r (Asg.lp cols r) else 0)+Asg.sg a.ws.length (fun r=>if Asg.lp cols r < b.ws.length then 0 else dM T a r):=by
  rw [←Asg.sg_add]
  refine Asg.sg_congr fun i _=>?_
  split
  ·rw [Int.add_zero]
  ·rw [Int.zero_add]
 rw [h5] at h4
 omega

theorem best_ok (h:okM T a b=true):rightM T a b (bestM T a b):=by
 have hv:validT T=true:=by unfold okM at h;rw [Bool.and_eq_true] at h;exact h.1
 have hposs:∀ P:Nat→Nat,Asg.Asg a.ws.length b.ws.length P→(∀ i,Asg.cost (cM T a b) (dM T a) (dM T b) a.ws.length b.ws.length P≤Asg.cost (cM T a b) (dM T a) (dM T b) a.ws.length b.ws.length (drop1 b.ws.length i P))→∀ i,i < a.ws.length→P i < b.ws.length→∃ p,cheapN T a.k (wd a i) b.k (wd b (P i))=some p:=fun P hP ho i hi hm=>by
  have h1:=ho i
  rw [drop1_cost hP hi hm] at h1
  have h2:=dM_bnd (a:=a) hv i
  have h3:=dM_bnd (a:=b) hv (P i)
  exact cheap_of (by omega)
 unfold bestM
 split
 ·have hc:=any_cols (c:=cM T a b) (d:=dM T a) (e:=dM T b) (n:=a.ws.length) (m:=b.ws.length)
  refine ⟨h,build_ok hc.len hc.bnd hc.asg (.inl rfl) (hposs _ hc.asg fun i=>?_) _ 0 _ _ _ rfl (by omega) (fun q hq=>by cases hq) (.inl rfl),?_⟩
  ·rw [hc.cost]
   exact any_opt.low _ (drop1_asg hc.asg)
  ·have:=build_cost (s:=true) hc
   have e:costM T a b ⟨anyK T a b+T.ord,true,buildN T a b 0 (anyL T a b)⟩=costM T a b ⟨Asg.bcost (cM T a b) (dM T a) (dM T b) a.ws.length b.ws.length,true,buildN T a b 0 (Asg.bps (cM T a b) (dM T a) (dM T b) a.ws.length b.ws.length)⟩:=rfl
   rw [e,this]
   exact Int.add_comm _ _
 ·obtain ⟨hc,hM⟩:=ord_cols (c:=cM T a b) (d:=dM T a) (e:=dM T b) (n:=a.ws.length) (m:=b.ws.length)
  refine ⟨h,build_ok hc.len hc.bnd hc.asg (.inr hM) (hposs _ hc.asg fun i=>?_) _ 0 _ _ _ rfl (by omega) (fun q hq=>by cases hq) (.inl rfl),?_⟩
  ·rw [hc.cost]
   exact ord_opt.low _ (drop1_asg hc.asg) (drop1_mono hM)
  ·have:=build_cost (s:=false) hc
   have e:costM T a b ⟨ordK T a b,false,buildN T a b 0 (ordL T a b)⟩=costM T a b ⟨Asg.GR (cM T a b) (dM T a) (dM T b) a.ws.length b.ws.length a.ws.length b.ws.length,false,buildN T a b 0 (Asg.gro (cM T a b) (dM T a) (dM T b) a.ws.length b.ws.length a.ws.length b.ws.length)⟩:=rfl
   rw [e,this]
   exact (Int.zero_add _).symm

end
end Go.CH.Mtc
namespace Go.CH.Mtc
open Go.CH.Scr Go.CH.Pot
section
variable {T:Tab} {k:Int} {x:Bs}
theorem letF_of (h:word k x=true):letF k x=(ltrs k (lower x)).1:=by unfold letF;rw [if_pos h]
theorem letF_flat (h:word k x=true):(letF k x).flatten=lower x:=by rw [letF_of h];exact word_join (fold_word h)
theorem letF_len (h:word k x=true):1≤(letF k x).length∧(letF k x).length≤12:=by rw [letF_of h];exact (word_iff.1 (fold_word h)).2
end
end Go.CH.Mtc
