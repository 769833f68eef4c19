/- A part of the proof: lemmas. -/
import Derived.Test.YtbnnlpjpnihheaaGreatDoorME5
import Derived.Test.YtbnnlpjpnihheaaGreatDoorME4
import Derived.Test.YtbnnlpjpnihheaaGreatDoorME1
set_option maxHeartbeats 16000000
set_option maxRecDepth 100000
set_option linter.unusedSimpArgs false
set_option linter.unusedVariables false
namespace Go.CH.aY

def qz (U:Nat→Bool) (f:Nat→Int) (a:Int):Nat→Int
 | 0=>a
 | j+1=>if U j then qz U f a j else min (qz U f a j) (f j)
section
variable {U:Nat→Bool} {f:Nat→Int} {a:Int} {m:Nat}
theorem nR:qz U f a m≤a:=by
 induction m with
 | zero=>exact Int.le_refl _
 | succ m ih=>unfold qz;split;exact ih;omega
theorem Le {j:Nat} (hj:j < m) (hu:U j=false):qz U f a m≤f j:=by
 induction m with
 | zero=>omega
 | succ m ih =>
  unfold qz;by_cases e:j=m
  ·subst e;rw [hu];simp;omega
  ·split
   ·exact ih (by omega)
   ·have:=ih (by omega);omega
theorem wL:qz U f a m=a∨∃ j,j < m∧U j=false∧qz U f a m=f j:=by
 induction m with
 | zero=>exact .inl rfl
 | succ m ih =>
  unfold qz;by_cases hu:U m=true
  ·rw [if_pos hu];rcases ih with h | ⟨j,h1,h2,h3⟩
   ·exact .inl h
   ·exact .inr ⟨j,by omega,h2,h3⟩
  ·rw [if_neg hu];by_cases hm:qz U f a m≤f m
   ·rw [Int.min_eq_left hm];rcases ih with h | ⟨j,h1,h2,h3⟩
    ·exact .inl h
    ·exact .inr ⟨j,by omega,h2,h3⟩
   ·rw [Int.min_eq_right (by omega)];exact .inr ⟨m,by omega,by simpa using hu,rfl⟩
theorem zB {g:Nat→Int} {V:Nat→Bool} (h:∀ j,j < m→f j=g j) (hu:∀ j,j < m→U j=V j):qz U f a m=qz V g a m:=by
 induction m with
 | zero=>rfl
 | succ m ih =>
  unfold qz;rw [ih (fun j hj=>h j (by omega)) (fun j hj=>hu j (by omega)),h m (by omega),hu m (by omega)]
end
def ins (U:Nat→Bool) (j:Nat):Nat→Bool:=fun x=>U x || x == j
def uD:Nat→Bool:=fun _=>false

def L (c:Nat→Nat→Int) (d e:Nat→Int) (n m:Nat):Nat→(Nat→Bool)→Int
 | 0,U=>sg m (fun j=>if U j then 0 else e j)
 | k+1,U=>qz U (fun j=>c (n - (k+1)) j+L c d e n m k (ins U j)) (d (n - (k+1))+L c d e n m k U) m

def cs (c:Nat→Nat→Int) (d e:Nat→Int) (m:Nat):Nat→(Nat→Bool)→List Int→Option Int
 | _,U,[]=>some (sg m (fun j=>if U j then 0 else e j))
 | i,U,p :: ps=>if p < 0∨(m:Int) < p∨(p < m∧U p.toNat=true) then none
  else if p=m then (cs c d e m (i+1) U ps).map (d i + ·) else (cs c d e m (i+1) (ins U p.toNat) ps).map (c i p.toNat + ·)

def gr (c:Nat→Nat→Int) (d e:Nat→Int) (n m:Nat):Nat→(Nat→Bool)→List Int
 | 0,_=>[]
 | k+1,U=>match (List.range m).find? (fun j => !U j && decide (c (n - (k+1)) j+L c d e n m k (ins U j)=L c d e n m (k+1) U)) with
  | some j=>(j:Int) :: gr c d e n m k (ins U j)
  | none=>(m:Int) :: gr c d e n m k U

def before:List Int→List Int→Bool
 | a :: xs,b :: ys=>if a=b then before xs ys else decide (a < b)
 | _,_=>false
section
variable {c:Nat→Nat→Int} {d e:Nat→Int} {n m:Nat}
theorem EN (k:Nat) (U:Nat→Bool):(gr c d e n m k U).length=k:=by
 induction k generalizing U with
 | zero=>rfl
 | succ k ih=>unfold gr;split <;> simp [ih]
theorem gF {p:Nat→Bool} {j:Nat} (h:(List.range m).find? p=some j):j < m∧p j=true∧∀ i,i < j→p i=false:=by
 rw [List.find?_range_eq_some] at h;obtain ⟨h1,h2,h3⟩:=h;exact ⟨List.mem_range.1 h2,h1,fun i hi=>by simpa using h3 i hi⟩
theorem mK {p:Nat→Bool} (h:(List.range m).find? p=none):∀ i,i < m→p i=false:=by
 rw [List.find?_eq_none] at h;exact fun i hi=>by simpa using h i (List.mem_range.2 hi)
theorem RG {k:Nat} {U:Nat→Bool} {ps:List Int} {v:Int} (hk:k≤n) (hl:ps.length=k) (h:cs c d e m (n - k) U ps=some v):L c d e n m k U≤v:=by
 induction k generalizing U ps v with
 | zero =>
  obtain rfl:=List.length_eq_zero_iff.1 hl;simp only [cs,Option.some.injEq] at h;rw [←h];exact Int.le_refl _
 | succ k ih =>
  cases ps with
  | nil=>simp at hl
  | cons p ps =>
   simp only [cs] at h;split at h
   ·cases h
   ·rename_i hp;have hp:0≤p∧p≤m∧(p < m→U p.toNat=false):=by
     refine ⟨by omega,by omega,fun h=>?_⟩;cases hU:U p.toNat
     ·rfl
     ·exact absurd (.inr (.inr ⟨h,hU⟩)) hp
    have e1:n - (k+1)+1=n - k:=by omega
    rw [e1] at h;split at h
    ·obtain ⟨u,h1,rfl⟩:=Option.map_eq_some_iff.1 h;have:=ih (by omega) (by simpa using hl) h1;have h2:=nR (U:=U) (f:=fun j=>c (n - (k+1)) j+L c d e n m k (ins U j)) (a:=d (n - (k+1))+L c d e n m k U) (m:=m)
     show qz _ _ _ _≤_
     omega
    ·obtain ⟨u,h1,rfl⟩:=Option.map_eq_some_iff.1 h;have:=ih (by omega) (by simpa using hl) h1;have h2:=Le (U:=U) (f:=fun j=>c (n - (k+1)) j+L c d e n m k (ins U j)) (a:=d (n - (k+1))+L c d e n m k U) (m:=m) (j:=p.toNat) (by omega) (hp.2.2 (by omega))
     show qz _ _ _ _≤_
     omega
theorem Q6 {k:Nat} (hk:k≤n) (U:Nat→Bool):cs c d e m (n - k) U (gr c d e n m k U)=some (L c d e n m k U):=by
 induction k generalizing U with
 | zero=>rfl
 | succ k ih =>
  have e1:n - (k+1)+1=n - k:=by omega
  unfold gr;split
  ·rename_i j hj;obtain ⟨h1,h2,-⟩:=gF hj;simp only [Bool.and_eq_true,Bool.not_eq_true',decide_eq_true_eq] at h2;simp only [cs];rw [if_neg (by rintro (h | h | ⟨-,h⟩);omega;omega;rw [Int.toNat_natCast,h2.1] at h;cases h),if_neg (by omega),e1,Int.toNat_natCast,ih (by omega),Option.map_some];exact congrArg some h2.2
  ·rename_i hn;have h1:=mK hn;simp only [cs];rw [if_neg (by rintro (h | h | ⟨h,-⟩) <;> omega)];simp only [if_true];rw [e1,ih (by omega),Option.map_some];refine congrArg some ?_;rcases wL (U:=U) (f:=fun j=>c (n - (k+1)) j+L c d e n m k (ins U j)) (a:=d (n - (k+1))+L c d e n m k U) (m:=m) with h | ⟨j,g1,g2,g3⟩
   ·exact h.symm
   ·have:=h1 j g1;rw [g2] at this;simp only [Bool.not_false,Bool.true_and,decide_eq_false_iff_not] at this;exact absurd g3.symm this

theorem EO (P:Nat→Nat) (n j:Nat):used P (n+1) j=(P 0 == j || used (fun i=>P (i+1)) n j):=by
 rw [Bool.eq_iff_iff];simp only [Bool.or_eq_true,beq_iff_eq,lY];constructor
 ·rintro ⟨i,h1,h2⟩;cases i with
  | zero=>exact .inl h2
  | succ i=>exact .inr ⟨i,by omega,h2⟩
 ·rintro (h | ⟨i,h1,h2⟩)
  ·exact ⟨0,by omega,h⟩
  ·exact ⟨i+1,by omega,h2⟩

structure EP (k m:Nat) (U:Nat→Bool) (P:Nat→Nat):Prop where
 asg:aY k m P
 free:∀ i,i < k→P i < m→U (P i)=false
def rP (c:Nat→Nat→Int) (d e:Nat→Int) (m i k:Nat) (U:Nat→Bool) (P:Nat→Nat):Int :=
 sg k (fun r=>if P r < m then c (i+r) (P r) else d (i+r))+sg m (fun j=>if U j || used P k j then 0 else e j)
def lp (ps:List Int):Nat→Nat:=fun r=>(ps.getD r 0).toNat
theorem nS {i k:Nat} {U:Nat→Bool} {P:Nat→Nat}:rP c d e m i (k+1) U P=(if P 0 < m then c i (P 0) else d i)+rP c d e m (i+1) k (if P 0 < m then ins U (P 0) else U) (fun r=>P (r+1)):=by
 unfold rP;rw [wK,Int.add_assoc];have e1:sg k (fun r=>if P (r+1) < m then c (i+(r+1)) (P (r+1)) else d (i+(r+1)))=sg k (fun r=>if P (r+1) < m then c (i+1+r) (P (r+1)) else d (i+1+r)):=bB fun r _=>by
  have:i+(r+1)=i+1+r:=by omega
  rw [this]
 have e2:sg m (fun j=>if U j || used P (k+1) j then 0 else e j)=sg m (fun j=>if (if P 0 < m then ins U (P 0) else U) j || used (fun r=>P (r+1)) k j then 0 else e j):=bB fun j hj=>by
  rw [EO];by_cases h:P 0 < m
  ·rw [if_pos h];unfold ins;have:(P 0 == j)=(j == P 0):=by rw [Bool.eq_iff_iff];simp;omega
   rw [this,Bool.or_assoc]
  ·rw [if_neg h];have:(P 0 == j)=false:=by simp;omega
   rw [this,Bool.false_or]
 rw [e1,e2];simp
theorem wM {k:Nat} {U:Nat→Bool} {P:Nat→Nat} (h0:P 0≤m) (hU:P 0 < m→U (P 0)=false) (h:EP k m (if P 0 < m then ins U (P 0) else U) (fun r=>P (r+1))):EP (k+1) m U P:=by
 have hf:∀ i,i < k→P (i+1) < m→U (P (i+1))=false∧(P 0 < m→P (i+1)≠P 0):=by
  intro i hi hp;have:=h.free i hi hp;by_cases h1:P 0 < m
  ·rw [if_pos h1] at this;simp only [ins,Bool.or_eq_false_iff,beq_eq_false_iff_ne] at this;exact ⟨this.1,fun _=>this.2⟩
  ·rw [if_neg h1] at this;exact ⟨this,fun h=>absurd h h1⟩
 refine ⟨⟨fun i hi=>?_,fun i j hi hj he hm=>?_⟩,fun i hi hp=>?_⟩
 ·cases i with
  | zero=>exact h0
  | succ i=>exact h.asg.le i (by omega)
 ·cases i with
  | zero =>
   cases j with
   | zero=>rfl
   | succ j=>exact absurd he.symm ((hf j (by omega) (by omega)).2 hm)
  | succ i =>
   cases j with
   | zero=>exact absurd he ((hf i (by omega) hm).2 (by omega))
   | succ j=>have:=h.asg.inj i j (by omega) (by omega) he hm;omega
 ·cases i with
  | zero=>exact hU hp
  | succ i=>exact (hf i (by omega) hp).1
theorem Jd {k:Nat} {U:Nat→Bool} {P:Nat→Nat} (h:EP (k+1) m U P):EP k m (if P 0 < m then ins U (P 0) else U) (fun r=>P (r+1)):=by
 refine ⟨⟨fun i hi=>h.asg.le _ (by omega),fun i j hi hj he hm=>by have:=h.asg.inj (i+1) (j+1) (by omega) (by omega) he hm;omega⟩,fun i hi hp=>?_⟩;have h1:=h.free (i+1) (by omega) hp;by_cases h0:P 0 < m
 ·rw [if_pos h0];simp only [ins,h1,Bool.false_or,beq_eq_false_iff_ne];intro he;have:=h.asg.inj (i+1) 0 (by omega) (by omega) he hp;omega
 ·rw [if_neg h0];exact h1
theorem vZ {i:Nat} {U:Nat→Bool} {ps:List Int} {v:Int} (h:cs c d e m i U ps=some v):EP ps.length m U (lp ps)∧v=rP c d e m i ps.length U (lp ps)∧∀ p ∈ ps,0≤p∧p≤m:=by
 induction ps generalizing i U v with
 | nil =>
  simp only [cs,Option.some.injEq] at h;refine ⟨⟨⟨fun i hi=>by simp at hi,fun i j hi=>by simp at hi⟩,fun i hi=>by simp at hi⟩,?_,fun p hp=>by simp at hp⟩;rw [←h];unfold rP;simp [sg,used]
 | cons p ps ih =>
  simp only [cs] at h;split at h
  ·cases h
  rename_i hp;have hp:0≤p∧p≤m∧(p < m→U p.toNat=false):=by
   refine ⟨by omega,by omega,fun h=>?_⟩;cases hU:U p.toNat
   ·rfl
   ·exact absurd (.inr (.inr ⟨h,hU⟩)) hp
  have e0:lp (p :: ps) 0=p.toNat:=rfl;have e1:(fun r=>lp (p :: ps) (r+1))=lp ps:=rfl;have hm:∀ q ∈ ps,0≤q∧q≤m→True:=fun _ _ _=>trivial;split at h
  ·rename_i hpm;obtain ⟨u,h1,rfl⟩:=Option.map_eq_some_iff.1 h;obtain ⟨g1,g2,g3⟩:=ih h1;have hn:¬ lp (p :: ps) 0 < m:=by rw [e0];omega
   refine ⟨wM (by rw [e0];omega) (fun h=>absurd h hn) (by rw [if_neg hn,e1];exact g1),?_,?_⟩
   ·rw [List.length_cons,nS,if_neg hn,if_neg hn,e1,←g2]
   ·intro q hq;rcases List.mem_cons.1 hq with rfl | hq;exact ⟨hp.1,hp.2.1⟩;exact g3 q hq
  ·rename_i hpm;obtain ⟨u,h1,rfl⟩:=Option.map_eq_some_iff.1 h;obtain ⟨g1,g2,g3⟩:=ih h1;have hn:lp (p :: ps) 0 < m:=by rw [e0];omega
   refine ⟨wM (by rw [e0];omega) (fun h=>by rw [e0];exact hp.2.2 (by omega)) (by rw [if_pos hn,e1,e0];exact g1),?_,?_⟩
   ·rw [List.length_cons,nS,if_pos hn,if_pos hn,e1,e0,←g2]
   ·intro q hq;rcases List.mem_cons.1 hq with rfl | hq;exact ⟨hp.1,hp.2.1⟩;exact g3 q hq
def pl (P:Nat→Nat) (k:Nat):List Int:=(List.range k).map (fun i=>(P i:Int))
theorem Lf (P:Nat→Nat) (k:Nat):(pl P k).length=k:=by simp [pl]
theorem Cc (P:Nat→Nat) (k:Nat):pl P (k+1)=(P 0:Int) :: pl (fun r=>P (r+1)) k:=by
 unfold pl;rw [List.range_succ_eq_map];simp
theorem Q7 {i k:Nat} {U:Nat→Bool} {P:Nat→Nat} (h:EP k m U P):cs c d e m i U (pl P k)=some (rP c d e m i k U P):=by
 induction k generalizing i U P with
 | zero=>simp [pl,cs,rP,sg,used]
 | succ k ih =>
  have h1:=ih (i:=i+1) (Jd h);have h0:=h.asg.le 0 (by omega);rw [Cc,nS];simp only [cs];by_cases hp:P 0 < m
  ·have hU:=h.free 0 (by omega) hp;rw [if_pos hp] at h1;rw [if_neg (by rintro (h | h | ⟨-,h⟩);omega;omega;rw [Int.toNat_natCast,hU] at h;cases h),if_neg (by omega),Int.toNat_natCast,if_pos hp,if_pos hp,h1,Option.map_some]
  ·rw [if_neg hp] at h1;rw [if_neg (by rintro (h | h | ⟨h,-⟩) <;> omega),if_pos (by omega),if_neg hp,if_neg hp,h1,Option.map_some]
theorem jH (P:Nat→Nat):rP c d e m 0 n uD P=cost c d e n m P:=by
 unfold rP cost uD;simp
theorem GU {P:Nat→Nat} (h:aY n m P):EP n m uD P:=⟨h,fun _ _ _=>rfl⟩

theorem Lg:EH c d e n m (L c d e n m n uD):=by
 constructor
 ·have h:=Q6 (c:=c) (d:=d) (e:=e) (n:=n) (m:=m) (Nat.le_refl n) uD;rw [Nat.sub_self] at h;obtain ⟨h1,h2,-⟩:=vZ h;rw [EN] at h1 h2;exact ⟨_,h1.asg,by rw [h2,jH]⟩
 ·intro P hP;have h:=Q7 (c:=c) (d:=d) (e:=e) (i:=0) (GU hP);rw [jH] at h;exact RG (Nat.le_refl n) (Lf P n) (by rw [Nat.sub_self];exact h)
end
end Go.CH.aY
namespace Go.CH.aY

def OT (e:Nat→Int) (m:Nat):Nat→Int
 | 0=>0
 | b+1=>e (m - (b+1))+OT e m b

def Tx (c:Nat→Nat→Int) (d e:Nat→Int) (m i:Nat) (f:Nat→Int):Nat→Int
 | 0=>d i+f 0
 | b+1=>min (min (d i+f (b+1)) (e (m - (b+1))+Tx c d e m i f b)) (c i (m - (b+1))+f b)

def GR (c:Nat→Nat→Int) (d e:Nat→Int) (n m:Nat):Nat→Nat→Int
 | 0=>OT e m
 | a+1=>Tx c d e m (n - (a+1)) (GR c d e n m a)

def rM (c:Nat→Nat→Int) (d e:Nat→Int) (n m:Nat):Nat→Nat→List Int
 | 0,_=>[]
 | a+1,b=>match (List.range b).find? (fun t=>decide (sg t (fun x=>e (m - b+x))+c (n - (a+1)) (m - b+t)+GR c d e n m a (b - (t+1))=GR c d e n m (a+1) b)) with
  | some t=>((m - b+t:Nat):Int) :: rM c d e n m a (b - (t+1))
  | none=>(m:Int) :: rM c d e n m a b

def keeps (m:Nat):Int→List Int→Bool
 | _,[]=>true
 | l,p :: ps=>if p=m then keeps m l ps else if p≤l then false else keeps m p ps

def ER (c:Nat→Nat→Int) (d e:Nat→Int) (m:Nat):Nat→Nat→List Int→Option Int
 | _,f,[]=>some (sg (m - f) (fun x=>e (f+x)))
 | i,f,p :: ps=>if p=m then (ER c d e m (i+1) f ps).map (d i + ·)
  else if p < f∨(m:Int) < p then none else (ER c d e m (i+1) (p.toNat+1) ps).map (sg (p.toNat - f) (fun x=>e (f+x))+c i p.toNat + ·)
section
variable {c:Nat→Nat→Int} {d e:Nat→Int} {n m:Nat}
theorem Lh (a b:Nat):GR c d e n m (a+1) b≤d (n - (a+1))+GR c d e n m a b:=by
 cases b with
 | zero=>exact Int.le_refl _
 | succ b=>show min (min _ _) _≤_;omega
theorem Li (a b:Nat):GR c d e n m a (b+1)≤e (m - (b+1))+GR c d e n m a b:=by
 cases a with
 | zero=>exact Int.le_refl _
 | succ a=>show min (min _ _) _≤_;exact Int.le_trans (Int.min_le_left _ _) (Int.min_le_right _ _)
theorem OU (a b:Nat):GR c d e n m (a+1) (b+1)≤c (n - (a+1)) (m - (b+1))+GR c d e n m a b:=Int.min_le_right _ _
theorem uE {b t:Nat} (hb:b+1≤m):sg (t+1) (fun x=>e (m - (b+1)+x))=e (m - (b+1))+sg t (fun x=>e (m - b+x)):=by
 rw [wK];congr 1;exact bB fun i _=>by congr 1;omega
theorem OV (a:Nat) {b t:Nat} (hb:b≤m) (ht:t < b):GR c d e n m (a+1) b≤sg t (fun x=>e (m - b+x))+c (n - (a+1)) (m - b+t)+GR c d e n m a (b - (t+1)):=by
 induction b generalizing t with
 | zero=>omega
 | succ b ih =>
  cases t with
  | zero=>have:=OU (c:=c) (d:=d) (e:=e) (n:=n) (m:=m) a b;simp only [sg,Nat.add_zero,Int.zero_add];exact this
  | succ t =>
   rw [uE hb];have h1:=ih (t:=t) (by omega) (by omega);have h2:=Li (c:=c) (d:=d) (e:=e) (n:=n) (m:=m) (a+1) b;have e1:m - (b+1)+(t+1)=m - b+t:=by omega
   have e2:b+1 - (t+1+1)=b - (t+1):=by omega
   rw [e1,e2];omega
theorem TJ (a:Nat) {b:Nat} (hb:b≤m):GR c d e n m (a+1) b=d (n - (a+1))+GR c d e n m a b∨∃ t,t < b∧sg t (fun x=>e (m - b+x))+c (n - (a+1)) (m - b+t)+GR c d e n m a (b - (t+1))=GR c d e n m (a+1) b:=by
 induction b with
 | zero=>exact .inl rfl
 | succ b ih =>
  have h0:GR c d e n m (a+1) (b+1)=min (min (d (n - (a+1))+GR c d e n m a (b+1)) (e (m - (b+1))+GR c d e n m (a+1) b)) (c (n - (a+1)) (m - (b+1))+GR c d e n m a b):=rfl;have h1:=Lh (c:=c) (d:=d) (e:=e) (n:=n) (m:=m) a (b+1);by_cases h2:GR c d e n m (a+1) (b+1)=c (n - (a+1)) (m - (b+1))+GR c d e n m a b
  ·refine .inr ⟨0,by omega,?_⟩;simp only [sg,Nat.add_zero,Int.zero_add];exact h2.symm
  ·by_cases h3:GR c d e n m (a+1) (b+1)=d (n - (a+1))+GR c d e n m a (b+1)
   ·exact .inl h3
   ·have h4:GR c d e n m (a+1) (b+1)=e (m - (b+1))+GR c d e n m (a+1) b:=by omega
    rcases ih (by omega) with g | ⟨t,g1,g2⟩
    ·have:=Li (c:=c) (d:=d) (e:=e) (n:=n) (m:=m) a b;omega
    ·refine .inr ⟨t+1,by omega,?_⟩;have e1:m - (b+1)+(t+1)=m - b+t:=by omega
     have e2:b+1 - (t+1+1)=b - (t+1):=by omega
     rw [uE hb,e1,e2];omega
theorem GV {b:Nat} (hb:b≤m):OT e m b=sg b (fun x=>e (m - b+x)):=by
 induction b with
 | zero=>rfl
 | succ b ih=>rw [uE hb,OT,ih (by omega)]
theorem AX (a b:Nat):(rM c d e n m a b).length=a:=by
 induction a generalizing b with
 | zero=>rfl
 | succ a ih=>unfold rM;split <;> simp [ih]
theorem OW {a f:Nat} {ps:List Int} {v:Int} (ha:a≤n) (hf:f≤m) (hl:ps.length=a) (h:ER c d e m (n - a) f ps=some v):GR c d e n m a (m - f)≤v:=by
 induction a generalizing f ps v with
 | zero =>
  obtain rfl:=List.length_eq_zero_iff.1 hl;simp only [ER,Option.some.injEq] at h
  show OT e m (m - f)≤v
  rw [←h,GV (by omega),show m - (m - f)=f from by omega];exact Int.le_refl _
 | succ a ih =>
  cases ps with
  | nil=>simp at hl
  | cons p ps =>
   have hl':ps.length=a:=by simpa using hl
   have e1:n - (a+1)+1=n - a:=by omega
   simp only [ER,e1] at h;split at h
   ·obtain ⟨u,h1,rfl⟩:=Option.map_eq_some_iff.1 h;have:=ih (by omega) hf hl' h1;have:=Lh (c:=c) (d:=d) (e:=e) (n:=n) (m:=m) a (m - f);omega
   ·split at h
    ·cases h
    ·obtain ⟨u,h1,rfl⟩:=Option.map_eq_some_iff.1 h;have h2:=ih (by omega) (by omega) hl' h1;have h3:=OV (c:=c) (d:=d) (e:=e) (n:=n) (m:=m) a (b:=m - f) (t:=p.toNat - f) (by omega) (by omega);rw [show m - (m - f)=f from by omega,show f+(p.toNat - f)=p.toNat from by omega,show m - f - (p.toNat - f+1)=m - (p.toNat+1) from by omega] at h3;omega
theorem GX {a f:Nat} (ha:a≤n) (hf:f≤m):ER c d e m (n - a) f (rM c d e n m a (m - f))=some (GR c d e n m a (m - f)):=by
 induction a generalizing f with
 | zero =>
  show some _=some (OT e m (m - f))
  rw [GV (by omega),show m - (m - f)=f from by omega]
 | succ a ih =>
  have e1:n - (a+1)+1=n - a:=by omega
  unfold rM;split
  ·rename_i t ht;obtain ⟨h1,h2,-⟩:=gF ht;rw [decide_eq_true_eq] at h2;have e2:m - (m - f)=f:=by omega
   rw [e2] at h2 ⊢;have h3:=ih (f:=f+t+1) (by omega) (by omega);rw [show m - (f+t+1)=m - f - (t+1) from by omega] at h3;simp only [ER];rw [if_neg (by omega),if_neg (by omega),e1,Int.toNat_natCast,h3,Option.map_some,show f+t - f=t from by omega];exact congrArg some h2
  ·rename_i hn;have h1:=mK hn;simp only [ER];simp only [if_true];rw [e1,ih (by omega) hf,Option.map_some];refine congrArg some ?_;rcases TJ (c:=c) (d:=d) (e:=e) (n:=n) (m:=m) a (b:=m - f) (by omega) with h | ⟨t,g1,g2⟩
   ·exact h.symm
   ·have:=h1 t g1;rw [decide_eq_false_iff_not] at this;exact absurd g2 this
theorem zC {i f:Nat} {ps:List Int} {v:Int} (h:ER c d e m i f ps=some v):keeps m ((f:Int) - 1) ps=true:=by
 induction ps generalizing i f v with
 | nil=>rfl
 | cons p ps ih =>
  simp only [ER] at h;unfold keeps;split at h
  ·rename_i hp;obtain ⟨u,h1,-⟩:=Option.map_eq_some_iff.1 h;rw [if_pos hp];exact ih h1
  ·rename_i hp;split at h
   ·cases h
   ·obtain ⟨u,h1,-⟩:=Option.map_eq_some_iff.1 h;rw [if_neg hp,if_neg (by omega)];have:=ih h1;rw [show ((p.toNat+1:Nat):Int) - 1=p from by omega] at this;exact this

theorem RH {i f:Nat} {U:Nat→Bool} {ps:List Int} (hU:∀ j,f≤j→j < m→U j=false) (hf:f≤m) (h:keeps m ((f:Int) - 1) ps=true):cs c d e m i U ps=(ER c d e m i f ps).map (sg f (fun j=>if U j then 0 else e j) + ·):=by
 induction ps generalizing i f U with
 | nil =>
  simp only [cs,ER,Option.map_some,Option.some.injEq];have e1:m=f+(m - f):=by omega
  have e2:=EL (n:=f) (k:=m - f) (f:=fun j=>if U j=true then 0 else e j);rw [←e1] at e2;rw [e2];congr 1;exact bB fun t ht=>by rw [hU (f+t) (by omega) (by omega)];simp
 | cons p ps ih =>
  simp only [cs,ER];unfold keeps at h;by_cases hp:p=m
  ·rw [if_pos hp] at h;rw [if_neg (by omega),if_pos hp,if_pos hp,ih hU hf h,Option.map_map,Option.map_map];congr 1;funext x;simp only [Function.comp];omega
  ·rw [if_neg hp] at h;split at h
   ·cases h
   rename_i hlt;rw [if_neg hp,if_neg hp];by_cases hm:(m:Int) < p
   ·rw [if_pos (by omega),if_pos (by omega)];rfl
   ·have hk:keeps m (((p.toNat+1:Nat):Int) - 1) ps=true:=by
     rw [show ((p.toNat+1:Nat):Int) - 1=p from by omega];exact h
    rw [if_neg (by rintro (h | h | ⟨_,h⟩);omega;omega;rw [hU p.toNat (by omega) (by omega)] at h;cases h),if_neg (by omega)];rw [ih (f:=p.toNat+1) (U:=ins U p.toNat) (fun j h1 h2=>by simp only [ins,hU j (by omega) h2,Bool.false_or,beq_eq_false_iff_ne];omega) (by omega) hk,Option.map_map,Option.map_map];congr 1;funext x;simp only [Function.comp];have e1:sg (p.toNat+1) (fun j=>if ins U p.toNat j then 0 else e j)=sg f (fun j=>if U j then 0 else e j)+sg (p.toNat - f) (fun x=>e (f+x)):=by
     rw [bT];have e3:ins U p.toNat p.toNat=true:=by simp [ins]
     rw [e3];have e2:p.toNat=f+(p.toNat - f):=by omega
     have e4:=EL (n:=f) (k:=p.toNat - f) (f:=fun j=>if ins U p.toNat j=true then 0 else e j);rw [←e2] at e4;rw [e4];simp only [if_true,Int.add_zero];congr 1
     ·exact bB fun j hj=>by
       have:(j == p.toNat)=false:=by simp;omega
       simp only [ins,this,Bool.or_false]
     ·exact bB fun t ht=>by
       have:(f+t == p.toNat)=false:=by simp;omega
       simp only [ins,this,Bool.or_false,hU (f+t) (by omega) (by omega)];simp
    omega
theorem AY {ps:List Int} (h:keeps m (-1) ps=true):cs c d e m 0 uD ps=ER c d e m 0 0 ps:=by
 have:=RH (c:=c) (d:=d) (e:=e) (i:=0) (f:=0) (U:=uD) (fun _ _ _=>rfl) (Nat.zero_le m) (ps:=ps) (by simpa using h);rw [this];cases ER c d e m 0 0 ps <;> simp [sg]

def wN (n m:Nat) (P:Nat→Nat):Prop:=∀ i j,i < j→j < n→P i < m→P j < m→P i < P j
theorem Lj {l:Int} {ps:List Int} (h:keeps m l ps=true):(∀ i (hi:i < ps.length),ps[i]≠m→l < ps[i])∧∀ i j (hij:i < j) (hj:j < ps.length),ps[i]≠m→ps[j]≠m→ps[i] < ps[j]:=by
 induction ps generalizing l with
 | nil=>exact ⟨fun i hi=>by simp at hi,fun i j _ hj=>by simp at hj⟩
 | cons p ps ih =>
  unfold keeps at h;split at h
  ·rename_i hp;obtain ⟨h1,h2⟩:=ih h;refine ⟨fun i hi hne=>?_,fun i j hij hj hi' hj'=>?_⟩
   ·cases i with
    | zero=>exact absurd hp hne
    | succ i=>exact h1 i (by simpa using hi) hne
   ·cases i with
    | zero=>exact absurd hp hi'
    | succ i =>
     cases j with
     | zero=>omega
     | succ j=>exact h2 i j (by omega) (by simpa using hj) hi' hj'
  ·split at h
   ·cases h
   ·rename_i hp hl;obtain ⟨h1,h2⟩:=ih h;refine ⟨fun i hi hne=>?_,fun i j hij hj hi' hj'=>?_⟩
    ·cases i with
     | zero=>show l < p;omega
     | succ i=>have:=h1 i (by simpa using hi) hne;show l < ps[i]'(by simpa using hi);omega
    ·cases j with
     | zero=>omega
     | succ j =>
      cases i with
      | zero=>exact h1 j (by simpa using hj) hj'
      | succ i=>exact h2 i j (by omega) (by simpa using hj) hi' hj'
theorem wO {ps:List Int} (h:keeps m (-1) ps=true):wN ps.length m (lp ps):=by
 intro i j hij hj hi' hj';obtain ⟨h1,h2⟩:=Lj h;have e1:lp ps i=(ps[i]'(by omega)).toNat:=by simp [lp,List.getD_eq_getElem?_getD,List.getElem?_eq_getElem (show i < ps.length by omega)]
 have e2:lp ps j=(ps[j]).toNat:=by simp [lp,List.getD_eq_getElem?_getD,List.getElem?_eq_getElem hj]
 have g1:=h1 i (by omega);have g2:=h1 j hj;have:=h2 i j hij hj;rw [e1] at hi' ⊢;rw [e2] at hj' ⊢;omega
theorem ES {k:Nat} {P:Nat→Nat} {l:Int} (h:wN k m P) (hl:∀ i,i < k→P i≤m∧(P i < m→l < P i)):keeps m l (pl P k)=true:=by
 induction k generalizing P l with
 | zero=>rfl
 | succ k ih =>
  rw [Cc];unfold keeps;have h':wN k m (fun r=>P (r+1)):=fun i j hij hj=>h (i+1) (j+1) (by omega) (by omega);split
  ·exact ih h' fun i hi=>hl (i+1) (by omega)
  ·rename_i hp;have h0:=hl 0 (by omega);rw [if_neg (by omega)];refine ih h' fun i hi=>⟨(hl (i+1) (by omega)).1,fun hm=>?_⟩;have:=h 0 (i+1) (by omega) (by omega) (by omega) hm;omega

structure Je (c:Nat→Nat→Int) (d e:Nat→Int) (n m:Nat) (v:Int):Prop where
 has:∃ P,aY n m P∧wN n m P∧cost c d e n m P=v
 low:∀ P,aY n m P→wN n m P→v≤cost c d e n m P
theorem RI:Je c d e n m (GR c d e n m n m):=by
 constructor
 ·have h:=GX (c:=c) (d:=d) (e:=e) (n:=n) (m:=m) (a:=n) (f:=0) (Nat.le_refl n) (Nat.zero_le m);rw [Nat.sub_self,Nat.sub_zero] at h;have hk:keeps m (-1) (rM c d e n m n m)=true:=by have:=zC h;simpa using this
  rw [←AY hk] at h;obtain ⟨h1,h2,-⟩:=vZ h;have h3:=wO hk;rw [AX] at h1 h2 h3;exact ⟨_,h1.asg,h3,by rw [h2,jH]⟩
 ·intro P hP hM;have h:=Q7 (c:=c) (d:=d) (e:=e) (i:=0) (GU hP);have hk:keeps m (-1) (pl P n)=true:=ES hM fun i hi=>⟨hP.le i hi,fun _=>by omega⟩;rw [jH,AY hk] at h;have:=OW (n:=n) (a:=n) (f:=0) (Nat.le_refl n) (Nat.zero_le m) (Lf P n) (by rw [Nat.sub_self];exact h);simpa using this
theorem EH.RJ {v u:Int} (h:EH c d e n m v) (g:Je c d e n m u):v≤u:=by
 obtain ⟨Q,g1,g1',g2⟩:=g.has;have:=h.low Q g1;omega
end

section
variable {c c':Nat→Nat→Int} {d e d' e':Nat→Int} {n m n' m':Nat} {B:Int}
theorem Ll {v v':Int} (h:EH c d e n m v) (h':EH c' d' e' n' m' v') (f:∀ P,aY n m P→∃ P',aY n' m' P'∧cost c' d' e' n' m' P'≤cost c d e n m P+B):v'≤v+B:=by
 obtain ⟨P,h1,h2⟩:=h.has;obtain ⟨P',h3,h4⟩:=f P h1;have:=h'.low P' h3;omega
theorem kJ (hc:∀ i,i < n→∀ j,j < m→c i j=c' i j) (hd:∀ i,i < n→d i=d' i) (he:∀ j,j < m→e j=e' j) (P:Nat→Nat):cost c d e n m P=cost c' d' e' n m P:=by
 unfold cost;congr 1
 ·exact bB fun i hi=>by split;exact hc i hi _ (by assumption);exact hd i hi
 ·exact bB fun j hj=>by split;rfl;exact he j hj
theorem EH.congr {v:Int} (hc:∀ i,i < n→∀ j,j < m→c i j=c' i j) (hd:∀ i,i < n→d i=d' i) (he:∀ j,j < m→e j=e' j) (h:EH c d e n m v):EH c' d' e' n m v:=by
 obtain ⟨⟨P,h1,h2⟩,h3⟩:=h;exact ⟨⟨P,h1,by rw [←kJ hc hd he];exact h2⟩,fun Q hQ=>by rw [←kJ hc hd he];exact h3 Q hQ⟩
theorem Je.congr {v:Int} (hc:∀ i,i < n→∀ j,j < m→c i j=c' i j) (hd:∀ i,i < n→d i=d' i) (he:∀ j,j < m→e j=e' j) (h:Je c d e n m v):Je c' d' e' n m v:=by
 obtain ⟨⟨P,h1,h1',h2⟩,h3⟩:=h;exact ⟨⟨P,h1,h1',by rw [←kJ hc hd he];exact h2⟩,fun Q hQ hM=>by rw [←kJ hc hd he];exact h3 Q hQ hM⟩

structure Inv (n:Nat) (s s':Nat→Nat):Prop where
 lt:∀ i,i < n→s i < n
 lt':∀ i,i < n→s' i < n
 l:∀ i,i < n→s' (s i)=i
 r:∀ i,i < n→s (s' i)=i
theorem Inv.flip {s s':Nat→Nat} (h:Inv n s s'):Inv n s' s:=⟨h.lt',h.lt,h.r,h.l⟩
theorem Inv.inj {s s':Nat→Nat} (h:Inv n s s') {i j:Nat} (hi:i < n) (hj:j < n) (he:s i=s j):i=j:=by
 rw [←h.l i hi,he,h.l j hj]
theorem GY {s s':Nat→Nat} (h:Inv n s s') (f:Nat→Int):sg n (fun i=>f (s i))=sg n f:=by
 have hA:aY n n s:=⟨fun i hi=>Nat.le_of_lt (h.lt i hi),fun i j hi hj he _=>h.inj hi hj he⟩;have h1:=col hA f;rw [bB (g:=fun i=>f (s i)) (fun i hi=>by simp [h.lt i hi]),bB (f:=fun j=>if used s n j then f j else 0) (g:=f) (fun j hj=>by rw [lY.2 ⟨s' j,h.lt' j hj,h.r j hj⟩];simp)] at h1;exact h1
def vv (m:Nat) (s t':Nat→Nat) (P:Nat→Nat):Nat→Nat:=fun i=>if P (s i) < m then t' (P (s i)) else m
theorem Ce {s s' t t':Nat→Nat} (hs:Inv n s s') (ht:Inv m t t') {P:Nat→Nat} (hP:aY n m P):aY n m (vv m s t' P):=by
 refine ⟨fun i hi=>?_,fun i j hi hj he hm=>?_⟩
 ·unfold vv;split
  ·rename_i h;exact Nat.le_of_lt (ht.lt' _ h)
  ·exact Nat.le_refl _
 ·unfold vv at he hm;by_cases h1:P (s i) < m <;> by_cases h2:P (s j) < m <;> simp only [h1,h2,if_true,if_false] at he hm
  ·have:=ht.flip.inj h1 h2 he;exact hs.inj hi hj (hP.inj _ _ (hs.lt i hi) (hs.lt j hj) this h1)
  ·omega
  ·omega
  ·omega
theorem zD {s s' t t':Nat→Nat} (hs:Inv n s s') (ht:Inv m t t') {P:Nat→Nat} (hP:aY n m P):cost (fun i j=>c (s i) (t j)) (fun i=>d (s i)) (fun j=>e (t j)) n m (vv m s t' P)=cost c d e n m P:=by
 unfold cost;congr 1
 ·rw [←GY hs (fun i=>if P i < m then c i (P i) else d i)];refine bB fun i hi=>?_;unfold vv;by_cases h:P (s i) < m
  ·have:=ht.lt' _ h;rw [if_pos h,if_pos this,if_pos h]
   show c (s i) (t (t' (P (s i))))=_
   rw [ht.r _ h]
  ·rw [if_neg h,if_neg (Nat.lt_irrefl m),if_neg h]
 ·rw [←GY ht (fun j=>if used P n j then 0 else e j)];refine bB fun j hj=>?_;have:used (vv m s t' P) n j=used P n (t j):=by
   rw [Bool.eq_iff_iff,lY,lY];constructor
   ·rintro ⟨i,hi,he⟩;unfold vv at he;by_cases h:P (s i) < m
    ·rw [if_pos h] at he;exact ⟨s i,hs.lt i hi,by rw [←he,ht.r _ h]⟩
    ·rw [if_neg h] at he;omega
   ·rintro ⟨i,hi,he⟩;refine ⟨s' i,hs.lt' i hi,?_⟩;have:=ht.lt j hj;unfold vv;rw [hs.r i hi,he,if_pos this,ht.l j hj]
  rw [this]
theorem EH.perm {s s' t t':Nat→Nat} (hs:Inv n s s') (ht:Inv m t t') {v v':Int} (h:EH c d e n m v) (h':EH (fun i j=>c (s i) (t j)) (fun i=>d (s i)) (fun j=>e (t j)) n m v'):v'=v:=by
 have h1:=Ll (B:=0) h h' fun P hP=>⟨_,Ce hs ht hP,by rw [zD hs ht hP];omega⟩
 have h2:=Ll (B:=0) h' h fun P hP=>⟨_,Ce hs.flip ht.flip hP,by
  rw [←zD hs.flip ht.flip hP,Int.add_zero]
  exact Int.le_of_eq (kJ (fun i hi j hj=>by simp only [hs.r i hi,ht.r j hj]) (fun i hi=>by simp only [hs.r i hi]) (fun j hj=>by simp only [ht.r j hj]) _)⟩
 omega

end
end Go.CH.aY
namespace Go.CH.aY
section
variable (c:Nat→Nat→Int) (d e:Nat→Int) (n m:Nat)

def tst (a:Nat) (U:Nat→Bool) (j:Nat):Bool := !U j && decide (c (n - (a+1)) j+L c d e n m a (ins U j)=L c d e n m (a+1) U)
def kr:Int:=L c d e n m n uD
def OA:List Int:=gr c d e n m n uD
def zG (i:Nat):Int:=L (iH c n i) (iI d n i) e (n+1) m (n+1) uD - kr c d e n m
def UE:List Int:=(List.range n).map (zG c d e n m)
def UW (j:Nat):Int:=qz uD (fun i=>c i j - zG c d e n m i) (e j) n
def UF:List Int:=(List.range m).map (UW c d e n m)
end
section
variable {c:Nat→Nat→Int} {d e:Nat→Int} {n m:Nat}
theorem Cg {p:Nat→Bool} {j:Nat} (hj:j < m) (hp:p j=true) (hb:∀ t,t < j→p t=false):(List.range m).find? p=some j:=by
 rw [List.find?_range_eq_some];exact ⟨hp,List.mem_range.2 hj,fun t ht=>by simp [hb t ht]⟩
theorem zH {p:Nat→Bool} (hb:∀ t,t < m→p t=false):(List.range m).find? p=none:=by
 rw [List.find?_eq_none];exact fun t ht=>by simp [hb t (List.mem_range.1 ht)]
theorem RL {a j:Nat} {U:Nat→Bool} (hj:j < m) (hp:tst c d e n m a U j=true) (hb:∀ t,t < j→tst c d e n m a U t=false) :
  gr c d e n m (a+1) U=(j:Int) :: gr c d e n m a (ins U j)∧L c d e n m a (ins U j)=L c d e n m (a+1) U - c (n - (a+1)) j:=by
 refine ⟨?_,?_⟩
 ·rw [gr];have:=Cg (p:=fun j => !U j && decide (c (n - (a+1)) j+L c d e n m a (ins U j)=L c d e n m (a+1) U)) hj hp hb;rw [this]
 ·unfold tst at hp;simp only [Bool.and_eq_true,decide_eq_true_eq] at hp;omega
theorem OX {a:Nat} {U:Nat→Bool} (hb:∀ t,t < m→tst c d e n m a U t=false) :
  gr c d e n m (a+1) U=(m:Int) :: gr c d e n m a U∧L c d e n m a U=L c d e n m (a+1) U - d (n - (a+1)):=by
 refine ⟨?_,?_⟩
 ·rw [gr];have:=zH (m:=m) (p:=fun j => !U j && decide (c (n - (a+1)) j+L c d e n m a (ins U j)=L c d e n m (a+1) U)) hb;rw [this]
 ·rcases wL (U:=U) (f:=fun j=>c (n - (a+1)) j+L c d e n m a (ins U j)) (a:=d (n - (a+1))+L c d e n m a U) (m:=m) with h | ⟨j,g1,g2,g3⟩
  ·have:L c d e n m (a+1) U=d (n - (a+1))+L c d e n m a U:=h;omega
  ·exfalso;have h1:=hb j g1;unfold tst at h1;rw [g2] at h1;simp only [Bool.not_false,Bool.true_and,decide_eq_false_iff_not] at h1;exact h1 g3.symm
theorem wP:dK c d e n m (kr c d e n m) (zG c d e n m) (UW c d e n m) where
 opt:=Lg
 more:=fun i hi=>by
  have:zG c d e n m i+kr c d e n m=L (iH c n i) (iI d n i) e (n+1) m (n+1) uD:=by unfold zG;omega
  rw [this];exact Lg
 ve:=fun j hj=>nR
 vc:=fun j hj i hi=>Le (f:=fun i=>c i j - zG c d e n m i) hi rfl
 vis:=fun j hj=>by
  rcases wL (U:=uD) (f:=fun i=>c i j - zG c d e n m i) (a:=e j) (m:=n) with h | ⟨i,g1,g2,g3⟩
  ·exact .inl h
  ·exact .inr ⟨i,g1,g3⟩
end
end Go.CH.aY
namespace Go.CH.Mtc
open Go.CH.Scr Go.CH.dK

def aW (k:Int) (x:Bs):List Bs:=if word k x then (aM k (lower x)).1 else []

structure Vr where
 w:Bs
 e:Int
 c:Int
deriving DecidableEq
def iC (k:Int) (l:List Bs) (p:dK.Drop × Nat):Option Vr :=
 if p.1.k=k∧(aW k p.1.w).length < l.length∧l.drop (l.length - (aW k p.1.w).length)=aW k p.1.w then
  some ⟨(l.take (l.length - (aW k p.1.w).length)).flatten,p.2,p.1.c⟩ else none
def bV (T:Tab) (k:Int) (x:Bs):List Vr:=⟨(aW k x).flatten,-1,0⟩ :: T.es.zipIdx.filterMap (iC k (aW k x))

def aZ (T:Tab) (k:Int) (x:Bs):Int:=match T.ds.find? (fun d=>decide (d.k=k) && decide (d.w=lower x)) with
 | some d=>d.c
 | none=>T.drop

structure Wy where
 kd:Int
 l:Int
 r:Int
 c:Int
 x:Bs
 y:Bs
deriving DecidableEq
def hd0 (l:List Bs):Bs:=l.headD []
def vU (u v:Vr):Wy:=⟨1,u.e,v.e,u.c+v.c,u.w,v.w⟩
def oI (us vs:List Vr):List Wy:=us.flatMap fun u=>vs.map (vU u)
def iD (kd ini:Int) (x y:List Bs):Wy:=⟨kd,-1,-1,ini,hd0 x,hd0 y⟩
def fA (ini:Int) (us vs:List Vr) (p q:List Bs):List Wy :=
 oI us vs ++ ((if p.length=1 then [iD 2 ini p q] else []) ++ (if q.length=1 then [iD 3 ini p q] else []))
def fB (T:Tab) (k:Int) (x:Bs) (k2:Int) (y:Bs):List Wy:=fA T.ini (bV T k x) (bV T k2 y) (aW k x) (aW k2 y)

def jY (T:Tab) (k:Int) (x:Bs) (k2:Int) (y:Bs):Option Dv :=
 if okW T k x k2 y=true∧(bJ T k x k2 y).dist st0 < never then some (bJ T k x k2 y).best else none

structure Pr where
 i:Int
 j:Int
 kd:Int
 l:Int
 r:Int
 c:Int
 d:Dv
deriving DecidableEq
def EJ:Dv:=⟨0,[],[],[]⟩
def BX:Pr:=⟨0,0,0,0,0,0,EJ⟩
def FY (T:Tab) (k k2:Int) (w:Wy):Option Pr:=(jY T k w.x k2 w.y).map fun d=>⟨0,0,w.kd,w.l,w.r,w.c+d.c,d⟩
def mX (T:Tab) (k:Int) (x:Bs) (k2:Int) (y:Bs):List Pr:=(fB T k x k2 y).filterMap (FY T k k2)
def qL (b:Option Pr) (p:Pr):Option Pr:=match b with
 | none=>some p
 | some q=>if p.c < q.c then some p else some q

def first (l:List Pr):Option Pr:=l.foldl qL none
def fK (T:Tab) (k:Int) (x:Bs) (k2:Int) (y:Bs):Option Pr:=first (mX T k x k2 y)

inductive jv (T:Tab) (k:Int) (x:Bs) (k2:Int) (y:Bs):Pr→Int→Prop
 | arg (h:okW T k x k2 y=false):jv T k x k2 y BX 1
 | none (h:okW T k x k2 y=true) (h2:fK T k x k2 y=none):jv T k x k2 y BX 11
 | some {p:Pr} (h:okW T k x k2 y=true) (h2:fK T k x k2 y=some p):jv T k x k2 y p 0

def nM (T:Tab) (a b:bq):Bool:=aX T && (dx a && dx b)
def wd (a:bq) (i:Nat):Bs:=a.ws.getD i []
def wB (T:Tab) (a b:bq) (i j:Nat):Pr:=match fK T a.k (wd a i) b.k (wd b j) with
 | some p=>{ p with i:=i,j:=j }
 | none=>⟨i,j,0,0,0,100000,EJ⟩
def cM (T:Tab) (a b:bq) (i j:Nat):Int:=(wB T a b i j).c
def dM (T:Tab) (a:bq) (i:Nat):Int:=aZ T a.k (wd a i)
def kC (T:Tab) (a b:bq):Int:=aY.kr (cM T a b) (dM T a) (dM T b) a.ws.length b.ws.length
def nN (T:Tab) (a b:bq):List Int:=aY.OA (cM T a b) (dM T a) (dM T b) a.ws.length b.ws.length
def lS (T:Tab) (a b:bq):Int:=aY.GR (cM T a b) (dM T a) (dM T b) a.ws.length b.ws.length a.ws.length b.ws.length
def qF (T:Tab) (a b:bq):List Int:=aY.rM (cM T a b) (dM T a) (dM T b) a.ws.length b.ws.length a.ws.length b.ws.length

def dH (T:Tab) (a b:bq):Nat→List Int→List Pr
 | _,[]=>[]
 | i,j :: l=>if 0≤j∧j < b.ws.length then wB T a b i j.toNat :: dH T a b (i+1) l else dH T a b (i+1) l
structure Mt where
 c:Int
 s:Bool
 ps:List Pr
deriving DecidableEq
def U0:Mt:=⟨0,false,[]⟩
def gH (T:Tab) (a b:bq):Mt :=
 if kC T a b+T.ord < lS T a b then ⟨kC T a b+T.ord,true,dH T a b 0 (nN T a b)⟩ else ⟨lS T a b,false,dH T a b 0 (qF T a b)⟩

inductive MS (T:Tab) (a b:bq):Mt→Int→Prop
 | arg (h:nM T a b=false):MS T a b U0 1
 | some (h:nM T a b=true):MS T a b (gH T a b) 0

def lT (T:Tab) (k:Int) (x:Bs) (k2:Int) (y:Bs) (p:Pr):Prop :=
 ∃ w,(fB T k x k2 y).find? (fun w=>decide (w.kd=p.kd) && (decide (w.l=p.l) && decide (w.r=p.r)))=some w∧p.c=w.c+p.d.c∧qU T k w.x k2 w.y p.d

def jw (T:Tab) (a b:bq) (s:Bool):Int→Int→List Int→List Pr→Prop
 | _,_,_,[]=>True
 | last,before,rs,p :: l=>last < p.i∧p.i < a.ws.length∧0≤p.j∧p.j < b.ws.length∧p.j ∉ rs∧(s=true∨before≤p.j)∧lT T a.k (wd a p.i.toNat) b.k (wd b p.j.toNat) p∧jw T a b s p.i p.j (p.j :: rs) l
def jy (T:Tab) (a:bq) (us:List Int):Int:=aY.sg a.ws.length (fun i=>if (i:Int) ∈ us then 0 else dM T a i)

def sN (T:Tab) (a b:bq) (m:Mt):Int:=(if m.s then T.ord else 0)+(m.ps.map (·.c)).sum+jy T a (m.ps.map (·.i))+jy T b (m.ps.map (·.j))

def oJ (T:Tab) (a b:bq) (m:Mt):Prop:=nM T a b=true∧jw T a b m.s (-1) (-1) [] m.ps∧m.c=sN T a b m
end Go.CH.Mtc
namespace Go.CH.Mtc
open Go.CH.Scr Go.CH.dK
section
variable {T:Tab} {k k2:Int} {x y:Bs} {a b:bq}

theorem zY:∀ (l:List Pr) (q:Pr),∃ p,l.foldl qL (some q)=some p∧(p=q∨p ∈ l)∧p.c≤q.c∧∀ r ∈ l,p.c≤r.c:=by
 intro l
 induction l with
 | nil=>intro q;exact ⟨q,rfl,.inl rfl,Int.le_refl _,fun r hr=>by cases hr⟩
 | cons z l ih =>
  intro q;rw [List.foldl_cons];by_cases h:z.c < q.c
  ·rw [show qL (some q) z=some z from if_pos h];obtain ⟨p,h1,h2,h3,h4⟩:=ih z;refine ⟨p,h1,.inr ?_,by omega,fun r hr=>?_⟩
   ·rcases h2 with rfl | h2
    ·exact List.mem_cons_self ..
    ·exact List.mem_cons_of_mem _ h2
   ·rcases List.mem_cons.1 hr with rfl | hr
    ·exact h3
    ·exact h4 r hr
  ·rw [show qL (some q) z=some q from if_neg h];obtain ⟨p,h1,h2,h3,h4⟩:=ih q;refine ⟨p,h1,?_,h3,fun r hr=>?_⟩
   ·rcases h2 with rfl | h2
    ·exact .inl rfl
    ·exact .inr (List.mem_cons_of_mem _ h2)
   ·rcases List.mem_cons.1 hr with rfl | hr
    ·omega
    ·exact h4 r hr
theorem mK {l:List Pr}:first l=none↔l=[]:=by
 cases l with
 | nil=>exact ⟨fun _=>rfl,fun _=>rfl⟩
 | cons z l =>
  unfold first
  rw [List.foldl_cons];obtain ⟨p,h1,-⟩:=zY l z
  show l.foldl qL (some z)=none↔z :: l=[]
  rw [h1];constructor
  ·intro h;cases h
  ·intro h;cases h
theorem gF {l:List Pr} {p:Pr} (h:first l=some p):p ∈ l∧∀ r ∈ l,p.c≤r.c:=by
 cases l with
 | nil=>cases h
 | cons z l =>
  unfold first at h
  rw [List.foldl_cons] at h;obtain ⟨q,h1,h2,h3,h4⟩:=zY l z;have h:l.foldl qL (some z)=some p:=h;rw [h1] at h;injection h with h
  subst h;refine ⟨?_,fun r hr=>?_⟩
  ·rcases h2 with rfl | h2
   ·exact List.mem_cons_self ..
   ·exact List.mem_cons_of_mem _ h2
  ·rcases List.mem_cons.1 hr with rfl | hr
   ·exact h3
   ·exact h4 r hr
theorem MU {l:List Pr} {r:Pr} (h:r ∈ l):∃ p,first l=some p∧p ∈ l∧p.c≤r.c:=by
 cases hf:first l with
 | none=>rw [mK.1 hf] at h;cases h
 | some p=>exact ⟨p,rfl,(gF hf).1,(gF hf).2 r h⟩

theorem J2 {d:Dv} {e:Int}:xg T k x k2 y d e→(e=0∧jY T k x k2 y=some d)∨(e≠0∧jY T k x k2 y=none):=by
 intro h;cases h with
 | arg h=>exact .inr ⟨by decide,by unfold jY;rw [if_neg (fun hc=>by rw [h] at hc;cases hc.1)]⟩
 | none h h2=>exact .inr ⟨by decide,by unfold jY;rw [if_neg (fun hc=>by rw [h2] at hc;exact absurd hc.2 (by decide))]⟩
 | some h h2=>exact .inl ⟨rfl,by unfold jY;rw [if_pos ⟨h,h2⟩]⟩
theorem PS {d:Dv} (h:jY T k x k2 y=some d):xg T k x k2 y d 0:=by
 unfold jY at h;split at h
 ·rename_i hc;injection h with h
  subst h;exact .some hc.1 hc.2
 ·cases h
theorem zZ {d:Dv} (h:jY T k x k2 y=some d):0≤d.c∧d.c≤24000:=by
 obtain ⟨-,-,h1,h2⟩:=Jr (PS h);exact ⟨h1,h2⟩

theorem gM {ini:Int} {us vs:List Vr} {p q:List Bs} {w:Wy}:w ∈ fA ini us vs p q↔(∃ u ∈ us,∃ v ∈ vs,w=vU u v)∨(p.length=1∧w=iD 2 ini p q)∨(q.length=1∧w=iD 3 ini p q):=by
 unfold fA oI;rw [List.mem_append,List.mem_append,List.mem_flatMap];constructor
 ·rintro (⟨u,hu,h⟩ | h | h)
  ·obtain ⟨v,hv,rfl⟩:=List.mem_map.1 h;exact .inl ⟨u,hu,v,hv,rfl⟩
  ·split at h
   ·rename_i hc;exact .inr (.inl ⟨hc,List.mem_singleton.1 h⟩)
   ·cases h
  ·split at h
   ·rename_i hc;exact .inr (.inr ⟨hc,List.mem_singleton.1 h⟩)
   ·cases h
 ·rintro (⟨u,hu,v,hv,rfl⟩ | ⟨hc,rfl⟩ | ⟨hc,rfl⟩)
  ·exact .inl ⟨u,hu,List.mem_map.2 ⟨v,hv,rfl⟩⟩
  ·exact .inr (.inl (by rw [if_pos hc];exact List.mem_singleton.2 rfl))
  ·exact .inr (.inr (by rw [if_pos hc];exact List.mem_singleton.2 rfl))
theorem kH {p:Pr}:p ∈ mX T k x k2 y↔∃ w ∈ fB T k x k2 y,∃ d,jY T k w.x k2 w.y=some d∧p=⟨0,0,w.kd,w.l,w.r,w.c+d.c,d⟩:=by
 unfold mX;rw [List.mem_filterMap];unfold FY;constructor
 ·rintro ⟨w,hw,h⟩;obtain ⟨d,hd,rfl⟩:=Option.map_eq_some_iff.1 h;exact ⟨w,hw,d,hd,rfl⟩
 ·rintro ⟨w,hw,d,hd,rfl⟩;exact ⟨w,hw,by rw [hd];rfl⟩
theorem Rj {i j:Nat}:cM T a b i j=((fK T a.k (wd a i) b.k (wd b j)).map (·.c)).getD 100000:=by
 unfold cM wB;cases fK T a.k (wd a i) b.k (wd b j) <;> rfl

theorem kI (hv:aX T=true) (k:Int) (x:Bs):0≤aZ T k x∧aZ T k x≤1000:=by
 have h:=bY.1 hv;unfold aZ;split
 ·rename_i d hd;have hm:=List.mem_of_find?_eq_some hd;have h1:=h.2.2.1;unfold gV at h1;rw [Bool.and_eq_true,Bool.and_eq_true,List.all_eq_true] at h1;have h2:=h1.2.1 d hm;unfold nY at h2;rw [Bool.and_eq_true] at h2;exact dN.1 h2.2
 ·exact dN.1 h.1.2.2.1
theorem jZ (hv:aX T=true) {v:Vr} (h:v ∈ bV T k x):0≤v.c∧v.c≤1000:=by
 unfold bV at h;rcases List.mem_cons.1 h with rfl | h
 ·show (0:Int)≤0∧(0:Int)≤1000
  exact ⟨by decide,by decide⟩
 ·obtain ⟨⟨d,i⟩,hm,he⟩:=List.mem_filterMap.1 h;unfold iC at he;split at he
  ·injection he with he
   subst he;have h1:=(bY.1 hv).2.2.2;unfold gV at h1;rw [Bool.and_eq_true,Bool.and_eq_true,List.all_eq_true] at h1;have h2:=h1.2.1 d (List.fst_mem_of_mem_zipIdx hm);unfold nY at h2;rw [Bool.and_eq_true] at h2;exact dN.1 h2.2
  ·cases he
theorem sO (hv:aX T=true) {w:Wy} (h:w ∈ fB T k x k2 y):0≤w.c∧w.c≤2000:=by
 rcases gM.1 h with ⟨u,hu,v,hv',rfl⟩ | ⟨-,rfl⟩ | ⟨-,rfl⟩
 ·have h1:=jZ hv hu;have h2:=jZ hv hv'
  show 0≤u.c+v.c∧u.c+v.c≤2000
  omega
 all_goals
  have h1:=dN.1 (bY.1 hv).1.2.2.2.2
  show 0≤T.ini∧T.ini≤2000
  omega
theorem pW (hv:aX T=true) {p:Pr} (h:p ∈ mX T k x k2 y):0≤p.c∧p.c≤26000:=by
 obtain ⟨w,hw,d,hd,rfl⟩:=kH.1 h;have h1:=sO hv hw;have h2:=zZ hd
 show 0≤w.c+d.c∧w.c+d.c≤26000
 omega
theorem F5 (hv:aX T=true) (i j:Nat):0≤cM T a b i j∧cM T a b i j≤100000:=by
 rw [Rj];cases h:fK T a.k (wd a i) b.k (wd b j) with
 | none=>exact ⟨by decide,by decide⟩
 | some p =>
  have:=pW hv (gF h).1
  show 0≤p.c∧p.c≤100000
  omega
theorem oK (hv:aX T=true) (i:Nat):0≤dM T a i∧dM T a i≤1000:=kI hv _ _

theorem wC:aY.EH (cM T a b) (dM T a) (dM T b) a.ws.length b.ws.length (kC T a b):=aY.Lg
theorem sP:aY.Je (cM T a b) (dM T a) (dM T b) a.ws.length b.ws.length (lS T a b):=aY.RI
theorem Sz:(gH T a b).c=min (kC T a b+T.ord) (lS T a b):=by
 unfold gH;split
 ·show kC T a b+T.ord=_
  omega
 ·show lS T a b=_
  omega
theorem PU:kC T a b≤lS T a b:=wC.RJ sP

theorem PV {m:Mt} (h:MS T a b m 0):0≤m.c∧m.c≤aY.sg a.ws.length (dM T a)+aY.sg b.ws.length (dM T b):=by
 cases h with
 | some h1 =>
  have hv:aX T=true:=by unfold nM at h1;rw [Bool.and_eq_true] at h1;exact h1.1
  have ho:=dN.1 (bY.1 hv).1.2.2.2.1;rw [Sz];have hn:∀ P,aY.aY a.ws.length b.ws.length P→0≤aY.cost (cM T a b) (dM T a) (dM T b) a.ws.length b.ws.length P:=fun P hP=>by
   unfold aY.cost
   have h2:=aY.pz (n:=a.ws.length) (f:=fun i=>if P i < b.ws.length then cM T a b i (P i) else dM T a i) (fun i hi=>by
    split
    ·exact (F5 hv _ _).1
    ·exact (oK hv _).1)
   have h3:=aY.pz (n:=b.ws.length) (f:=fun j=>if aY.used P a.ws.length j then 0 else dM T b j) (fun j hj=>by
    split
    ·exact Int.le_refl _
    ·exact (oK hv _).1)
   omega
  obtain ⟨P,hP,hM,hc⟩:=(sP (T:=T) (a:=a) (b:=b)).has;obtain ⟨P',hP',hc'⟩:=(wC (T:=T) (a:=a) (b:=b)).has;have h2:=hn P hP;have h3:=hn P' hP';have hA:aY.aY a.ws.length b.ws.length (fun _=>b.ws.length):=⟨fun _ _=>Nat.le_refl _,fun i j hi hj _ h=>absurd h (Nat.lt_irrefl _)⟩;have hAM:aY.wN a.ws.length b.ws.length (fun _=>b.ws.length):=fun i j _ _ h=>absurd h (Nat.lt_irrefl _);have h4:=(sP (T:=T) (a:=a) (b:=b)).low _ hA hAM;have h5:aY.cost (cM T a b) (dM T a) (dM T b) a.ws.length b.ws.length (fun _=>b.ws.length)=aY.sg a.ws.length (dM T a)+aY.sg b.ws.length (dM T b):=by
   unfold aY.cost;congr 1
   ·exact aY.bB fun i _=>if_neg (Nat.lt_irrefl _)
   ·refine aY.bB fun j hj=>if_neg ?_;rw [Bool.not_eq_true,aY.lZ];intro i _ e;omega
  rw [h5] at h4;omega
end
end Go.CH.Mtc
namespace Go.CH.Mtc
open Go.CH.Scr Go.CH.dK
section
variable {T:Tab} {a b:Int} {x y:Bs}

theorem MV {α:Type} {l:List α} {n:Nat} {p q:α × Nat} (hp:p ∈ l.zipIdx n) (hq:q ∈ l.zipIdx n) (h:p.2=q.2):p=q:=by
 obtain ⟨x,i⟩:=p;obtain ⟨z,j⟩:=q;have h:i=j:=h;subst h;have h1:=(List.mem_zipIdx hp).2.2;have h2:=(List.mem_zipIdx hq).2.2;rw [h1,h2]
theorem sQ {k:Int} {r:AR} (h:r ∈ dU T.rs k):∃ R,(R,r.ix) ∈ T.rs.zipIdx∧R.k=k∧word k R.f=true∧r=⟨r.ix,R.c,(aM k R.f).1,R.t⟩:=by
 unfold dU at h;obtain ⟨⟨R,ix⟩,hm,he⟩:=List.mem_filterMap.1 h;unfold vS at he;simp only at he;split at he
 ·rename_i hk;split at he
  ·rename_i hw;injection he with he
   subst he;exact ⟨R,hm,hk,hw,rfl⟩
  ·cases he
 ·cases he
theorem Aa {k:Int} {r:AR} (h:r ∈ dU T.rs k):(dU T.rs k).find? (fun z=>decide ((z.ix:Int)=(r.ix:Int)))=some r:=by
 cases hf:(dU T.rs k).find? (fun z=>decide ((z.ix:Int)=(r.ix:Int))) with
 | none =>
  have:=List.find?_eq_none.1 hf r h;simp at this
 | some z =>
  have h1:=List.mem_of_find?_eq_some hf;have h2:(z.ix:Int)=(r.ix:Int):=by
   have:=List.find?_some hf;exact of_decide_eq_true this
  obtain ⟨R,g1,-,-,g2⟩:=sQ h;obtain ⟨R',g3,-,-,g4⟩:=sQ h1;have e:=MV g1 g3 (by show r.ix=z.ix;omega);injection e with e1 e2
  subst e1;rw [g2,g4];simp only [e2]
theorem Dp {k:Int} {r:AR} (h:r ∈ dU T.rs k):1≤r.f.length:=by
 obtain ⟨R,-,-,hw,e⟩:=sQ h;rw [e];exact (dz.1 hw).2.1

def Lk (s:St) (FL FR:Bs):Prop:=(s.r=true→FL=s.a ++ FR)∧(s.r=false→FR=s.a ++ FL)
theorem J3 (hv:aX T=true):∀ (n:Nat) (s:St),(bJ T a x b y).ok s→(bJ T a x b y).rank s≤n→(bJ T a x b y).dist s < never →
  ∃ FL FR c1 c2,jT (bJ T a x b y).l (dU T.rs a) ((bJ T a x b y).dV n s).1 s.i=some (FL,c1,(bJ T a x b y).l.length)∧jT (bJ T a x b y).m (dU T.rs b) ((bJ T a x b y).dV n s).2.1 s.j=some (FR,c2,(bJ T a x b y).m.length)∧c1+c2=(bJ T a x b y).dist s∧((bJ T a x b y).dV n s).2.2=FL∧Lk s FL FR:=by
 have hg:(bJ T a x b y).good:=(wm hv).1;have hfin:(bJ T a x b y).dist (bJ T a x b y).fin=0:=by
  have h0:(bJ T a x b y).rank (bJ T a x b y).fin=0:=by unfold Wd.rank Wd.fin;simp
  unfold Wd.dist;rw [h0];unfold Wd.dn;rw [if_pos rfl]
 have base:∀ (n:Nat) (s:St),s=(bJ T a x b y).fin→∃ FL FR c1 c2,jT (bJ T a x b y).l (dU T.rs a) ((bJ T a x b y).dV n s).1 s.i=some (FL,c1,(bJ T a x b y).l.length)∧jT (bJ T a x b y).m (dU T.rs b) ((bJ T a x b y).dV n s).2.1 s.j=some (FR,c2,(bJ T a x b y).m.length)∧c1+c2=(bJ T a x b y).dist s∧((bJ T a x b y).dV n s).2.2=FL∧Lk s FL FR:=by
  intro n s e;have hb:(bJ T a x b y).dV n s=([],[],[]):=by
   cases n with
   | zero=>rfl
   | succ n=>unfold Wd.dV;rw [if_pos e]
  rw [hb];subst e;refine ⟨[],[],0,0,rfl,rfl,hfin.symm,rfl,?_⟩;exact ⟨(fun h=>by cases h),(fun _=>rfl)⟩
 intro n
 induction n with
 | zero =>
  intro s hs hr hd;by_cases e:s=(bJ T a x b y).fin
  ·exact base 0 s e
  ·exfalso;have h0:(bJ T a x b y).rank s=0:=Nat.le_zero.1 hr;unfold Wd.dist at hd;rw [h0] at hd;unfold Wd.dn at hd;rw [if_neg e] at hd;exact absurd hd (Int.lt_irrefl _)
 | succ n ih =>
  intro s hs hr hd;by_cases e:s=(bJ T a x b y).fin
  ·exact base _ s e
  ·have hpk:∃ p,(bJ T a x b y).pick s=some p:=by
    cases hp:(bJ T a x b y).pick s with
    | some p=>exact ⟨p,rfl⟩
    | none =>
     exfalso;have h1:=List.find?_eq_none.1 hp;have h2:=jO (W:=bJ T a x b y) hs;rw [if_neg e] at h2;rcases fold_eq (fun z:Int × St=>z.1+(bJ T a x b y).dist z.2) ((bJ T a x b y).moves s) never with h3 | ⟨q,hq,h3⟩
     ·rw [h2,h3] at hd;exact absurd hd (Int.lt_irrefl _)
     ·rw [←uJ hv hs] at hq;obtain ⟨p,hp,rfl⟩:=List.mem_map.1 hq;refine h1 p hp (decide_eq_true ?_);rw [h2];exact h3.symm
   obtain ⟨⟨r,s'⟩,hp⟩:=hpk;have hbest:(bJ T a x b y).dV (n+1) s=if s.i < s'.i then ((r.ix:Int) :: ((bJ T a x b y).dV n s').1,((bJ T a x b y).dV n s').2.1,r.t ++ ((bJ T a x b y).dV n s').2.2) else (((bJ T a x b y).dV n s').1,(r.ix:Int) :: ((bJ T a x b y).dV n s').2.1,((bJ T a x b y).dV n s').2.2):=by
    rw [Wd.dV,if_neg e,hp]
   have hmem:(r,s') ∈ (bJ T a x b y).oh s:=List.mem_of_find?_eq_some hp;have hcost:r.c+(bJ T a x b y).dist s'=(bJ T a x b y).dist s:=by
    have:=List.find?_some hp;exact of_decide_eq_true this
   have hmv:(r.c,s') ∈ (bJ T a x b y).moves s:=by
    rw [←uJ hv hs];exact List.mem_map.2 ⟨(r,s'),hmem,rfl⟩
   have hok':=dS hs hmv;have hc:=jI hg hmv;obtain ⟨FL,FR,c1,c2,w1,w2,w3,w4,w5⟩:=ih s' hok'.1 (by have:=hok'.2;omega) (by omega);unfold Wd.oh at hmem;obtain ⟨r0,hr0,hav⟩:=List.mem_filterMap.1 hmem;unfold Wd.LP at hav;have hlen:1≤r0.f.length:=Dp hr0;by_cases hfit:iY (if (bJ T a x b y).left s then (bJ T a x b y).l else (bJ T a x b y).m) r0 (if (bJ T a x b y).left s then s.i else s.j)=true
   ·rw [if_pos hfit] at hav;obtain ⟨⟨a',r'⟩,hah,he⟩:=Option.map_eq_some_iff.1 hav;injection he with he1 he2
    subst he1;cases hl:(bJ T a x b y).left s with
    | true =>
     rw [hl] at hfit he2 hr0;simp only [if_true] at hfit he2 hr0;subst he2;rw [hbest,if_pos (by show s.i < s.i+r0.f.length;omega)];have hside:r0 ∈ dU T.rs a:=hr0;refine ⟨r0.t ++ FL,FR,r0.c+c1,c2,?_,w2,by have:=w3;omega,by rw [w4],?_⟩
     ·unfold jT;rw [Aa hside];simp only;rw [if_pos hfit,w1];rfl
     ·unfold Wd.Fb at hah;obtain ⟨k1,k2⟩:=w5;simp only at k1 k2;split at hah
      ·rename_i hpre;injection hah with hah
       injection hah with ha hr'
       obtain ⟨z,hz⟩:=mQ.1 hpre;rw [hz,List.drop_left] at ha;rw [hz,List.drop_left] at hr';subst ha;constructor
       ·intro hsr;rw [hsr,Bool.true_and] at hr';rw [hz,List.append_assoc];congr 1;by_cases hz0:z=[]
        ·subst hz0;have:=k2 (by rw [←hr'];simp);rw [this];rfl
        ·exact k1 (by rw [←hr'];simp [hz0])
       ·intro hsr;rw [hsr,Bool.false_and] at hr';have ha0:s.a=[]:=by
         rcases wX.1 hl with h | h
         ·rw [hsr] at h;cases h
         ·exact h.1
        rw [ha0] at hz;have hz':=List.append_eq_nil_iff.1 hz.symm;have:=k2 hr'.symm;rw [ha0,this,hz'.1,hz'.2];rfl
      ·split at hah
       ·rename_i hpre;injection hah with hah
        injection hah with ha hr'
        rw [hl] at hr';obtain ⟨z,hz⟩:=mQ.1 hpre;rw [hz,List.drop_left] at ha;subst ha;have:=k2 hr'.symm;constructor
        ·intro hsr;rw [this,hz,List.append_assoc]
        ·intro hsr;have ha0:s.a=[]:=by
          rcases wX.1 hl with h | h
          ·rw [hsr] at h;cases h
          ·exact h.1
         rw [this,hz,ha0];rfl
       ·cases hah
    | false =>
     rw [hl] at hfit he2 hr0;simp only [Bool.false_eq_true,if_false] at hfit he2 hr0;subst he2;rw [hbest,if_neg (by show ¬ s.i < s.i;omega)];have hside:r0 ∈ dU T.rs b:=hr0;have hsr:s.r=false:=by
      cases h:s.r with
      | false=>rfl
      | true=>rw [wX.2 (.inl h)] at hl;cases hl
     refine ⟨FL,r0.t ++ FR,c1,r0.c+c2,w1,?_,by have:=w3;omega,w4,?_⟩
     ·unfold jT;rw [Aa hside];simp only;rw [if_pos hfit,w2];rfl
     ·unfold Wd.Fb at hah;obtain ⟨k1,k2⟩:=w5;simp only at k1 k2;refine ⟨(fun h=>by rw [hsr] at h;cases h),fun _=>?_⟩;split at hah
      ·rename_i hpre;injection hah with hah
       injection hah with ha hr'
       obtain ⟨z,hz⟩:=mQ.1 hpre;rw [hz,List.drop_left] at ha;subst ha;rw [hsr,Bool.false_and] at hr';rw [k2 hr'.symm,hz,List.append_assoc]
      ·split at hah
       ·rename_i hpre;injection hah with hah
        injection hah with ha hr'
        rw [hl] at hr';obtain ⟨z,hz⟩:=mQ.1 hpre;rw [hz,List.drop_left] at ha;subst ha;rw [k1 hr'.symm,hz,List.append_assoc]
       ·cases hah
   ·rw [if_neg hfit] at hav;cases hav

theorem Ga {d:Dv} (h:jY T a x b y=some d):qU T a x b y d:=by
 unfold jY at h;split at h
 ·rename_i hc;injection h with h
  subst h;have hv:=(gG.1 hc.1).2.2;obtain ⟨FL,FR,c1,c2,w1,w2,w3,w4,w5⟩:=J3 (a:=a) (x:=x) (b:=b) (y:=y) hv _ st0 ok0 (Nat.le_refl _) hc.2;have e:FR=FL:=w5.2 rfl;refine ⟨hc.1,FL,c1,c2,w1,by rw [←e];exact w2,w4.symm,w3⟩
 ·cases h
end
end Go.CH.Mtc
namespace Go.CH.Mtc
open Go.CH.Scr Go.CH.dK
section
variable {c:Nat→Nat→Int} {d e:Nat→Int} {n m:Nat}

structure SB (c:Nat→Nat→Int) (d e:Nat→Int) (n m:Nat) (cols:List Int) (v:Int):Prop where
 len:cols.length=n
 bnd:∀ p ∈ cols,0≤p∧p≤m
 asg:aY.aY n m (aY.lp cols)
 cost:aY.cost c d e n m (aY.lp cols)=v
theorem Dq:SB c d e n m (aY.OA c d e n m) (aY.kr c d e n m):=by
 have h:=aY.Q6 (c:=c) (d:=d) (e:=e) (n:=n) (m:=m) (k:=n) (Nat.le_refl n) aY.uD;rw [Nat.sub_self] at h;obtain ⟨h1,h2,h3⟩:=aY.vZ h;rw [aY.EN] at h1 h2;exact ⟨aY.EN _ _,h3,h1.asg,by rw [←aY.jH];exact h2.symm⟩
theorem Dr:SB c d e n m (aY.rM c d e n m n m) (aY.GR c d e n m n m)∧aY.wN n m (aY.lp (aY.rM c d e n m n m)):=by
 have h:=aY.GX (c:=c) (d:=d) (e:=e) (n:=n) (m:=m) (a:=n) (f:=0) (Nat.le_refl n) (Nat.zero_le m);rw [Nat.sub_self,Nat.sub_zero] at h;have hk:aY.keeps m (-1) (aY.rM c d e n m n m)=true:=by have:=aY.zC h;simpa using this
 rw [←aY.AY hk] at h;obtain ⟨h1,h2,h3⟩:=aY.vZ h;have h4:=aY.wO hk;rw [aY.AX] at h1 h2 h4;exact ⟨⟨aY.AX _ _,h3,h1.asg,by rw [←aY.jH];exact h2.symm⟩,h4⟩

def drop1 (m i:Nat) (P:Nat→Nat):Nat→Nat:=fun r=>if r=i then m else P r
theorem uW {P:Nat→Nat} {i:Nat} (h:aY.aY n m P):aY.aY n m (drop1 m i P):=by
 refine ⟨fun r hr=>?_,fun r s hr hs he hm=>?_⟩
 ·unfold drop1;split
  ·exact Nat.le_refl _
  ·exact h.le r hr
 ·unfold drop1 at he hm;by_cases h1:r=i
  ·rw [if_pos h1] at hm;exact absurd hm (Nat.lt_irrefl _)
  ·rw [if_neg h1] at he hm;by_cases h2:s=i
   ·rw [if_pos h2] at he;rw [he] at hm;exact absurd hm (Nat.lt_irrefl _)
   ·rw [if_neg h2] at he;exact h.inj r s hr hs he hm
theorem Gb {P:Nat→Nat} {i:Nat} (h:aY.wN n m P):aY.wN n m (drop1 m i P):=by
 intro r s hrs hs h1 h2;unfold drop1 at h1 h2 ⊢;by_cases e1:r=i
 ·rw [if_pos e1] at h1;exact absurd h1 (Nat.lt_irrefl _)
 ·by_cases e2:s=i
  ·rw [if_pos e2] at h2;exact absurd h2 (Nat.lt_irrefl _)
  ·rw [if_neg e1] at h1 ⊢;rw [if_neg e2] at h2 ⊢;exact h r s hrs hs h1 h2
theorem Gc {P:Nat→Nat} {i:Nat} (h:aY.aY n m P) (hi:i < n) (hm:P i < m):aY.cost c d e n m (drop1 m i P)=aY.cost c d e n m P - c i (P i)+e (P i)+d i:=by
 rw [aY.dQ (uW h),aY.dQ h];unfold aY.tot;have:=aY.AO (f:=fun r=>aY.wt c d e m r (drop1 m i P r)) (g:=fun r=>aY.wt c d e m r (P r)) hi (fun r hr hne=>by unfold drop1;rw [if_neg hne]);rw [this];have e1:aY.wt c d e m i (drop1 m i P i)=d i:=by unfold drop1 aY.wt;rw [if_pos rfl,if_neg (Nat.lt_irrefl _)]
 have e2:aY.wt c d e m i (P i)=c i (P i) - e (P i):=by unfold aY.wt;rw [if_pos hm]
 rw [e1,e2];omega
end
section
variable {T:Tab} {k k2:Int} {x y:Bs} {a b:bq}
theorem MW {i j:Nat} (h:cM T a b i j < 100000):∃ p,fK T a.k (wd a i) b.k (wd b j)=some p:=by
 rw [Rj] at h;cases hc:fK T a.k (wd a i) b.k (wd b j) with
 | some p=>exact ⟨p,rfl⟩
 | none=>rw [hc] at h;exact absurd h (by decide)

theorem sS {u v:Vr} (hu:u ∈ bV T k x) (hv:v ∈ bV T k x) (h:u.e=v.e):u=v:=by
 have key:∀ w:Vr,w ∈ T.es.zipIdx.filterMap (iC k (aW k x))→∃ p ∈ T.es.zipIdx,iC k (aW k x) p=some w∧w.e=(p.2:Int):=by
  intro w hw;obtain ⟨p,hp,he⟩:=List.mem_filterMap.1 hw;refine ⟨p,hp,he,?_⟩;unfold iC at he;split at he
  ·injection he with he
   subst he;rfl
  ·cases he
 unfold bV at hu hv;rcases List.mem_cons.1 hu with rfl | hu
 ·rcases List.mem_cons.1 hv with rfl | hv
  ·rfl
  ·obtain ⟨p,-,-,e⟩:=key v hv;rw [e] at h;have h:(-1:Int)=(p.2:Int):=h;omega
 ·obtain ⟨p,hp,e1,e2⟩:=key u hu;rcases List.mem_cons.1 hv with rfl | hv
  ·rw [e2] at h;have h:(p.2:Int) = -1:=h;omega
  ·obtain ⟨q,hq,e3,e4⟩:=key v hv;have:=MV hp hq (by rw [e2,e4] at h;omega);subst this;rw [e1] at e3;injection e3
theorem MX {w z:Wy} (hw:w ∈ fB T k x k2 y) (hz:z ∈ fB T k x k2 y) (h1:w.kd=z.kd) (h2:w.l=z.l) (h3:w.r=z.r):w=z:=by
 rcases gM.1 hw with ⟨u,hu,v,hv,rfl⟩ | ⟨-,rfl⟩ | ⟨-,rfl⟩
 ·rcases gM.1 hz with ⟨u',hu',v',hv',rfl⟩ | ⟨-,rfl⟩ | ⟨-,rfl⟩
  ·rw [sS hu hu' h2,sS hv hv' h3]
  ·exact absurd h1 (by show ¬ (1:Int)=2;decide)
  ·exact absurd h1 (by show ¬ (1:Int)=3;decide)
 ·rcases gM.1 hz with ⟨u',hu',v',hv',rfl⟩ | ⟨-,rfl⟩ | ⟨-,rfl⟩
  ·exact absurd h1 (by show ¬ (2:Int)=1;decide)
  ·rfl
  ·exact absurd h1 (by show ¬ (2:Int)=3;decide)
 ·rcases gM.1 hz with ⟨u',hu',v',hv',rfl⟩ | ⟨-,rfl⟩ | ⟨-,rfl⟩
  ·exact absurd h1 (by show ¬ (3:Int)=1;decide)
  ·exact absurd h1 (by show ¬ (3:Int)=2;decide)
  ·rfl

theorem Dt {p:Pr} (h:p ∈ mX T k x k2 y) (i j:Int):lT T k x k2 y { p with i:=i,j:=j }:=by
 obtain ⟨w,hw,d,hd,rfl⟩:=kH.1 h;cases hf:(fB T k x k2 y).find? (fun z=>decide (z.kd=w.kd) && (decide (z.l=w.l) && decide (z.r=w.r))) with
 | none =>
  have:=List.find?_eq_none.1 hf w hw;simp at this
 | some z =>
  have h1:=List.find?_some hf;simp only [Bool.and_eq_true,decide_eq_true_eq] at h1;have e:=MX (List.mem_of_find?_eq_some hf) hw h1.1 h1.2.1 h1.2.2;subst e;exact ⟨z,hf,rfl,Ga hd⟩

theorem Gd {i j:Nat}:(wB T a b i j).i=i:=by unfold wB;split <;> rfl
theorem Gf {i j:Nat}:(wB T a b i j).j=j:=by unfold wB;split <;> rfl
theorem Du {s:Bool} {cols:List Int} (hn:cols.length=a.ws.length) (hb:∀ p ∈ cols,0≤p∧p≤b.ws.length) (hA:aY.aY a.ws.length b.ws.length (aY.lp cols)) (hM:s=true∨aY.wN a.ws.length b.ws.length (aY.lp cols))
  (hp:∀ i,i < a.ws.length→aY.lp cols i < b.ws.length→∃ p,fK T a.k (wd a i) b.k (wd b (aY.lp cols i))=some p) :
  ∀ (l:List Int) (i:Nat) (last before:Int) (rs:List Int),l=cols.drop i→last < i→(∀ q ∈ rs,∃ r,r < i∧q=(aY.lp cols r:Int)∧aY.lp cols r < b.ws.length)→(before = -1∨∃ r,r < i∧before=(aY.lp cols r:Int)∧aY.lp cols r < b.ws.length) →
   jw T a b s last before rs (dH T a b i l):=by
 intro l
 induction l with
 | nil=>intro i last before rs _ _ _ _;exact trivial
 | cons j l ih =>
  intro i last before rs hl h1 h2 h3;have hi:i < cols.length:=by
   rcases Nat.lt_or_ge i cols.length with h | h
   ·exact h
   ·rw [List.drop_eq_nil_of_le h] at hl;cases hl
  have hd:=List.drop_eq_getElem_cons hi;rw [←hl] at hd;injection hd with hj hd'
  have hlp:aY.lp cols i=j.toNat:=by unfold aY.lp;rw [List.getD_eq_getElem?_getD,List.getElem?_eq_getElem hi,←hj];rfl
  have hjb:=hb j (by rw [hj];exact List.getElem_mem hi);unfold dH;split
  ·rename_i hc;have hPm:aY.lp cols i < b.ws.length:=by rw [hlp];omega
   have hjj:((j.toNat:Nat):Int)=j:=Int.toNat_of_nonneg hjb.1;obtain ⟨p,hpc⟩:=hp i (by omega) hPm;rw [hlp] at hpc
   show _∧_∧_∧_∧_∧_∧_∧_
   rw [Gd,Gf,hjj];refine ⟨h1,by omega,hjb.1,hc.2,fun hm=>?_,?_,?_,?_⟩
   ·obtain ⟨r,g1,g2,g3⟩:=h2 j hm;have:=hA.inj r i (by omega) (by omega) (by rw [hlp];omega) g3;omega
   ·rcases hM with h | h
    ·exact .inl h
    ·refine .inr ?_;rcases h3 with h3 | ⟨r,g1,g2,g3⟩
     ·omega
     ·have:=h r i g1 (by omega) g3 hPm;rw [hlp] at this;omega
   ·have:wB T a b i j.toNat={ p with i:=i,j:=(j.toNat:Nat) }:=by unfold wB;rw [hpc]
    rw [this,Int.toNat_natCast];exact Dt (gF hpc).1 _ _
   ·refine ih (i+1) _ _ _ hd' (by omega) (fun q hq=>?_) (.inr ⟨i,by omega,by rw [hlp,hjj],hPm⟩);rcases List.mem_cons.1 hq with rfl | hq
    ·exact ⟨i,by omega,by rw [hlp,hjj],hPm⟩
    ·obtain ⟨r,g1,g2⟩:=h2 q hq;exact ⟨r,by omega,g2⟩
  ·refine ih (i+1) _ _ _ hd' (by omega) (fun q hq=>?_) ?_
   ·obtain ⟨r,g1,g2⟩:=h2 q hq;exact ⟨r,by omega,g2⟩
   ·rcases h3 with h3 | ⟨r,g1,g2⟩
    ·exact .inl h3
    ·exact .inr ⟨r,by omega,g2⟩
theorem pX:∀ (l:List Int) (i:Nat) (p:Pr),p ∈ dH T a b i l↔∃ r,∃ h:r < l.length,0≤l[r]∧l[r] < b.ws.length∧p=wB T a b (i+r) l[r].toNat:=by
 intro l
 induction l with
 | nil =>
  intro i p;constructor
  ·intro h;cases h
  ·rintro ⟨r,h,-⟩;simp at h
 | cons j l ih =>
  intro i p;have tl:(∃ r,∃ h:r < l.length,0≤l[r]∧l[r] < b.ws.length∧p=wB T a b (i+1+r) l[r].toNat)↔∃ r,∃ h:r+1 < (j :: l).length,0≤(j :: l)[r+1]∧(j :: l)[r+1] < b.ws.length∧p=wB T a b (i+(r+1)) (j :: l)[r+1].toNat:=by
   constructor
   ·rintro ⟨r,h,g⟩;refine ⟨r,by rw [List.length_cons];omega,?_⟩;rw [List.getElem_cons_succ,show i+(r+1)=i+1+r by omega];exact g
   ·rintro ⟨r,h,g⟩;refine ⟨r,by rw [List.length_cons] at h;omega,?_⟩;rw [List.getElem_cons_succ,show i+(r+1)=i+1+r by omega] at g;exact g
  unfold dH;split
  ·rename_i hc;rw [List.mem_cons,ih,tl];constructor
   ·rintro (rfl | ⟨r,h⟩)
    ·exact ⟨0,by rw [List.length_cons];omega,hc.1,hc.2,rfl⟩
    ·exact ⟨r+1,h⟩
   ·rintro ⟨r,h⟩;cases r with
    | zero=>obtain ⟨h1,-,-,h2⟩:=h;exact .inl h2
    | succ r=>exact .inr ⟨r,h⟩
  ·rename_i hc;rw [ih,tl];constructor
   ·rintro ⟨r,h⟩;exact ⟨r+1,h⟩
   ·rintro ⟨r,h⟩;cases r with
    | zero=>obtain ⟨h1,h2,h3,-⟩:=h;exact absurd ⟨h2,h3⟩ hc
    | succ r=>exact ⟨r,h⟩
theorem J4:∀ (l:List Int) (i:Nat),((dH T a b i l).map (·.c)).sum=aY.sg l.length (fun r=>if 0≤l.getD r 0∧l.getD r 0 < b.ws.length then cM T a b (i+r) (l.getD r 0).toNat else 0):=by
 intro l
 induction l with
 | nil=>intro i;rfl
 | cons j l ih =>
  intro i;rw [List.length_cons,aY.wK];have e:(fun r=>if 0≤(j :: l).getD (r+1) 0∧(j :: l).getD (r+1) 0 < b.ws.length then cM T a b (i+(r+1)) ((j :: l).getD (r+1) 0).toNat else 0)=(fun r=>if 0≤l.getD r 0∧l.getD r 0 < b.ws.length then cM T a b (i+1+r) (l.getD r 0).toNat else 0):=by
   funext r;rw [List.getD_cons_succ,show i+(r+1)=i+1+r by omega]
  rw [e,←ih (i+1),List.getD_cons_zero];by_cases hc:0≤j∧j < b.ws.length
  ·rw [show dH T a b i (j :: l)=wB T a b i j.toNat :: dH T a b (i+1) l from if_pos hc,List.map_cons,List.sum_cons,if_pos hc];rfl
  ·rw [show dH T a b i (j :: l)=dH T a b (i+1) l from if_neg hc,if_neg hc,Int.zero_add]
theorem xZ {s:Bool} {cols:List Int} {v:Int} (h:SB (cM T a b) (dM T a) (dM T b) a.ws.length b.ws.length cols v):sN T a b ⟨v,s,dH T a b 0 cols⟩=(if s then T.ord else 0)+v:=by
 have hlp:∀ r,r < a.ws.length→∃ h:r < cols.length,aY.lp cols r=cols[r].toNat∧0≤cols[r]∧cols.getD r 0=cols[r]:=fun r hr=>by
  have hr':r < cols.length:=by rw [h.len];exact hr
  refine ⟨hr',?_,(h.bnd _ (List.getElem_mem hr')).1,?_⟩
  ·unfold aY.lp;rw [List.getD_eq_getElem?_getD,List.getElem?_eq_getElem hr'];rfl
  ·rw [List.getD_eq_getElem?_getD,List.getElem?_eq_getElem hr'];rfl
 have h1:jy T a ((dH T a b 0 cols).map (·.i))=aY.sg a.ws.length (fun r=>if aY.lp cols r < b.ws.length then 0 else dM T a r):=by
  unfold jy;refine aY.bB fun r hr=>?_;obtain ⟨hr',e1,e2,-⟩:=hlp r hr;have hiff:((r:Int) ∈ (dH T a b 0 cols).map (·.i))↔aY.lp cols r < b.ws.length:=by
   rw [List.mem_map];constructor
   ·rintro ⟨p,hp,he⟩;obtain ⟨t,ht,g1,g2,rfl⟩:=(pX _ _ _).1 hp;rw [Gd,Nat.zero_add] at he;have:t=r:=by omega
    subst this;rw [e1];omega
   ·intro hl;exact ⟨_,(pX _ _ _).2 ⟨r,hr',e2,by rw [e1] at hl;omega,rfl⟩,by rw [Gd,Nat.zero_add]⟩
  by_cases hl:aY.lp cols r < b.ws.length
  ·rw [if_pos (hiff.2 hl),if_pos hl]
  ·rw [if_neg (fun hm=>hl (hiff.1 hm)),if_neg hl]
 have h2:jy T b ((dH T a b 0 cols).map (·.j))=aY.sg b.ws.length (fun j=>if aY.used (aY.lp cols) a.ws.length j then 0 else dM T b j):=by
  unfold jy;refine aY.bB fun j hj=>?_;have hiff:((j:Int) ∈ (dH T a b 0 cols).map (·.j))↔aY.used (aY.lp cols) a.ws.length j=true:=by
   rw [List.mem_map,aY.lY];constructor
   ·rintro ⟨p,hp,he⟩;obtain ⟨t,ht,g1,g2,rfl⟩:=(pX _ _ _).1 hp;have ht':t < a.ws.length:=by rw [←h.len];exact ht
    obtain ⟨_,e1,_⟩:=hlp t ht';rw [Gf] at he;exact ⟨t,ht',by rw [e1];omega⟩
   ·rintro ⟨t,ht,he⟩;obtain ⟨ht',e1,e2,-⟩:=hlp t ht;refine ⟨_,(pX _ _ _).2 ⟨t,ht',e2,by rw [e1] at he;omega,rfl⟩,?_⟩;rw [Gf,←e1,he]
  by_cases hl:aY.used (aY.lp cols) a.ws.length j=true
  ·rw [if_pos (hiff.2 hl),if_pos hl]
  ·rw [if_neg (fun hm=>hl (hiff.1 hm)),if_neg hl]
 have h3:((dH T a b 0 cols).map (·.c)).sum=aY.sg a.ws.length (fun r=>if aY.lp cols r < b.ws.length then cM T a b r (aY.lp cols r) else 0):=by
  rw [J4,h.len];refine aY.bB fun r hr=>?_;obtain ⟨hr',e1,e2,e3⟩:=hlp r hr;rw [e3,e1,Nat.zero_add];by_cases hl:cols[r] < b.ws.length
  ·rw [if_pos ⟨e2,hl⟩,if_pos (by omega)]
  ·rw [if_neg (fun hm=>hl hm.2),if_neg (by omega)]
 unfold sN
 show (if s=true then T.ord else 0)+_+_+_=_
 rw [h1,h2,h3];have h4:=h.cost;unfold aY.cost at h4;have h5:aY.sg a.ws.length (fun i=>if aY.lp cols i < b.ws.length then cM T a b i (aY.lp cols i) else dM T a i)=aY.sg a.ws.length (fun r=>if aY.lp cols r < b.ws.length then cM T a b r (aY.lp cols r) else 0)+aY.sg a.ws.length (fun r=>if aY.lp cols r < b.ws.length then 0 else dM T a r):=by
  rw [←aY.qO];refine aY.bB fun i _=>?_;split
  ·rw [Int.add_zero]
  ·rw [Int.zero_add]
 rw [h5] at h4;omega

theorem iR (h:nM T a b=true):oJ T a b (gH T a b):=by
 have hv:aX T=true:=by unfold nM at h;rw [Bool.and_eq_true] at h;exact h.1
 have hposs:∀ P:Nat→Nat,aY.aY a.ws.length b.ws.length P→(∀ i,aY.cost (cM T a b) (dM T a) (dM T b) a.ws.length b.ws.length P≤aY.cost (cM T a b) (dM T a) (dM T b) a.ws.length b.ws.length (drop1 b.ws.length i P))→∀ i,i < a.ws.length→P i < b.ws.length→∃ p,fK T a.k (wd a i) b.k (wd b (P i))=some p:=fun P hP ho i hi hm=>by
  have h1:=ho i;rw [Gc hP hi hm] at h1;have h2:=oK (a:=a) hv i;have h3:=oK (a:=b) hv (P i);exact MW (by omega)
 unfold gH;split
 ·have hc:=Dq (c:=cM T a b) (d:=dM T a) (e:=dM T b) (n:=a.ws.length) (m:=b.ws.length);refine ⟨h,Du hc.len hc.bnd hc.asg (.inl rfl) (hposs _ hc.asg fun i=>?_) _ 0 _ _ _ rfl (by omega) (fun q hq=>by cases hq) (.inl rfl),?_⟩
  ·rw [hc.cost];exact wC.low _ (uW hc.asg)
  ·have:=xZ (s:=true) hc;have e:sN T a b ⟨kC T a b+T.ord,true,dH T a b 0 (nN T a b)⟩=sN T a b ⟨aY.kr (cM T a b) (dM T a) (dM T b) a.ws.length b.ws.length,true,dH T a b 0 (aY.OA (cM T a b) (dM T a) (dM T b) a.ws.length b.ws.length)⟩:=rfl;rw [e,this];exact Int.add_comm _ _
 ·obtain ⟨hc,hM⟩:=Dr (c:=cM T a b) (d:=dM T a) (e:=dM T b) (n:=a.ws.length) (m:=b.ws.length);refine ⟨h,Du hc.len hc.bnd hc.asg (.inr hM) (hposs _ hc.asg fun i=>?_) _ 0 _ _ _ rfl (by omega) (fun q hq=>by cases hq) (.inl rfl),?_⟩
  ·rw [hc.cost];exact sP.low _ (uW hc.asg) (Gb hM)
  ·have:=xZ (s:=false) hc;have e:sN T a b ⟨lS T a b,false,dH T a b 0 (qF T a b)⟩=sN T a b ⟨aY.GR (cM T a b) (dM T a) (dM T b) a.ws.length b.ws.length a.ws.length b.ws.length,false,dH T a b 0 (aY.rM (cM T a b) (dM T a) (dM T b) a.ws.length b.ws.length a.ws.length b.ws.length)⟩:=rfl;rw [e,this];exact (Int.zero_add _).symm

end
end Go.CH.Mtc
namespace Go.CH.Mtc
open Go.CH.Scr Go.CH.dK
section
variable {T:Tab} {k:Int} {x:Bs}
theorem mY (h:word k x=true):aW k x=(aM k (lower x)).1:=by unfold aW;rw [if_pos h]
theorem pY (h:word k x=true):(aW k x).flatten=lower x:=by rw [mY h];exact zM (fU h)
theorem dI (h:word k x=true):1≤(aW k x).length∧(aW k x).length≤12:=by rw [mY h];exact (dz.1 (fU h)).2

theorem Ab (h:word k x=true) {n:Nat} (hn:0 < n):word k ((aW k x).take n).flatten=true∧lower ((aW k x).take n).flatten=((aW k x).take n).flatten:=by
 have hl:=dI h;have e:=CF (k:=k) (lower x) 0 n;rw [List.drop_zero,←mY h] at e;refine ⟨dz.2 ?_,Fa fun c hc=>?_⟩
 ·rw [e];refine ⟨rfl,?_,?_⟩
  ·show 1≤((aW k x).take n).length
   rw [List.length_take];omega
  ·show ((aW k x).take n).length≤12
   rw [List.length_take];omega
 ·have h1:c ∈ (aW k x).flatten:=by
   obtain ⟨z,hz,hcz⟩:=List.mem_flatten.1 hc;exact List.mem_flatten.2 ⟨z,List.mem_of_mem_take hz,hcz⟩
  rw [pY h] at h1;unfold lower at h1;obtain ⟨c',-,rfl⟩:=List.mem_map.1 h1;exact He c'
theorem MZ (hw:word k x=true) {v:Vr} (h:v ∈ bV T k x):word k v.w=true∧lower v.w=v.w:=by
 have key:∀ n,0 < n→v.w=((aW k x).take n).flatten→word k v.w=true∧lower v.w=v.w:=fun n hn e=>by rw [e];exact Ab hw hn
 unfold bV at h;rcases List.mem_cons.1 h with rfl | h
 ·exact key (aW k x).length (dI hw).1 (by rw [List.take_length])
 ·obtain ⟨p,-,he⟩:=List.mem_filterMap.1 h;unfold iC at he;split at he
  ·rename_i hc;injection he with he
   exact key ((aW k x).length - (aW k p.1.w).length) (by omega) (by rw [←he])
  ·cases he
theorem J5 (hw:word k x=true) (hl:lower x=x):(aW k x).flatten=x:=by rw [pY hw,hl]
theorem M0 {k2:Int} {y:Bs} (h1:word k x=true) (h2:word k2 y=true) (hv:aX T=true):okW T k x k2 y=true:=gG.2 ⟨h1,h2,hv⟩
theorem Ac {k2:Int} {y:Bs} {p:Pr} {e:Int} (h:jv T k x k2 y p e) (hok:okW T k x k2 y=true) {r:Pr} (hr:r ∈ mX T k x k2 y):e=0∧p.c≤r.c:=by
 obtain ⟨q,h1,-,h2⟩:=MU hr;cases h with
 | arg h=>rw [hok] at h;cases h
 | none _ h=>unfold fK at h;rw [h1] at h;cases h
 | some _ h =>
  unfold fK at h;rw [h1] at h;injection h with h
  subst h;exact ⟨rfl,h2⟩
theorem sU {k2:Int} {y:Bs} {p:Pr} (h:jv T k x k2 y p 0):okW T k x k2 y=true∧p ∈ mX T k x k2 y:=by
 cases h with
 | some h1 h2=>exact ⟨h1,(gF h2).1⟩

theorem Br (hv:aX T=true) (hw:word k x=true) {v:Vr} (h:v ∈ bV T k x) {own p:Pr} {e e':Int} (ho:jv T k v.w k v.w own e) (hp:jv T k x k v.w p e')
  (h0:e=0) (h1:own.kd=1) (h2:own.l = -1) (h3:own.r = -1):e'=0∧p.c≤v.c+own.c:=by
 subst h0;obtain ⟨g1,g2⟩:=MZ hw h;obtain ⟨-,hm⟩:=sU ho;obtain ⟨w,hwm,d,hd,rfl⟩:=kH.1 hm;have hfirst:(⟨v.w,-1,0⟩:Vr) ∈ bV T k v.w:=by
  have e:(⟨v.w,-1,0⟩:Vr)=⟨(aW k v.w).flatten,-1,0⟩:=by rw [J5 g1 g2]
  rw [e];exact List.mem_cons_self ..
 rcases gM.1 hwm with ⟨u,hu,u',hu',rfl⟩ | ⟨-,rfl⟩ | ⟨-,rfl⟩
 ·have e1:=sS hu hfirst h2;have e2:=sS hu' hfirst h3;subst e1 e2;have hway:vU v ⟨v.w,-1,0⟩ ∈ fB T k x k v.w:=gM.2 (.inl ⟨v,h,_,hfirst,rfl⟩);obtain ⟨h4,h5⟩:=Ac hp (M0 hw g1 hv) (kH.2 ⟨_,hway,d,hd,rfl⟩);refine ⟨h4,?_⟩;have h5:p.c≤v.c+0+d.c:=h5
  show p.c≤v.c+(0+0+d.c)
  omega
 ·exact absurd h1 (by show ¬ (2:Int)=1;decide)
 ·exact absurd h1 (by show ¬ (3:Int)=1;decide)

theorem Dw (hv:aX T=true) (hw:word k x=true) {own p:Pr} {e e':Int} (ho:jv T k (hd0 (aW k x)) k (hd0 (aW k x)) own e) (hp:jv T k (hd0 (aW k x)) k x p e') (h0:e=0):e'=0∧p.c≤T.ini+own.c:=by
 subst h0;have hlen:=dI hw;obtain ⟨l0,ls,hl⟩:∃ l0 ls,aW k x=l0 :: ls:=by
  cases h:aW k x with
  | nil=>rw [h] at hlen;simp at hlen
  | cons l0 ls=>exact ⟨l0,ls,rfl⟩
 have hhd:hd0 (aW k x)=l0:=by rw [hl];rfl
 rw [hhd] at ho hp;have e1:((aW k x).take 1).flatten=l0:=by rw [hl];simp
 obtain ⟨g1,g2⟩:=Ab hw (n:=1) (by omega);rw [e1] at g1 g2;have hl0:aW k l0=[l0]:=by
  rw [mY g1,g2];have:l0 ∈ (aM k (lower x)).1:=by rw [←mY hw,hl];exact List.mem_cons_self ..
  rw [uH _ _ this]
 have hvar:∀ u ∈ bV T k l0,u.w=l0∧0≤u.c:=fun u hu=>by
  refine ⟨?_,(jZ hv hu).1⟩;unfold bV at hu;rw [hl0] at hu;rcases List.mem_cons.1 hu with rfl | hu
  ·simp
  ·exfalso;obtain ⟨q,hq,he⟩:=List.mem_filterMap.1 hu;unfold iC at he;split at he
   ·rename_i hc;have h1:=(bY.1 hv).2.2.2;unfold gV at h1;rw [Bool.and_eq_true,Bool.and_eq_true,List.all_eq_true] at h1;have h2:=h1.2.1 q.1 (wo _ _ hq);unfold nY at h2;rw [Bool.and_eq_true] at h2;have h3:=(og.1 h2.1).1;rw [hc.1] at h3;have h4:=(dI h3).1;have h5:=hc.2.1;simp only [List.length_cons,List.length_nil] at h5;omega
   ·cases he
 obtain ⟨-,hm⟩:=sU ho;obtain ⟨w,hwm,d,hd,rfl⟩:=kH.1 hm;have hwt:w.x=l0∧w.y=l0∧0≤w.c:=by
  have hini:=dN.1 (bY.1 hv).1.2.2.2.2;rcases gM.1 hwm with ⟨u,hu,u',hu',rfl⟩ | ⟨-,rfl⟩ | ⟨-,rfl⟩
  ·have h1:=hvar u hu;have h2:=hvar u' hu';exact ⟨h1.1,h2.1,by show 0≤u.c+u'.c;omega⟩
  ·rw [hl0];exact ⟨rfl,rfl,hini.1⟩
  ·rw [hl0];exact ⟨rfl,rfl,hini.1⟩
 rw [hwt.1,hwt.2.1] at hd;have hway:iD 2 T.ini (aW k l0) (aW k x) ∈ fB T k l0 k x:=gM.2 (.inr (.inl ⟨by rw [hl0];rfl,rfl⟩))
 obtain ⟨h4,h5⟩:=Ac hp (M0 g1 hw hv) (kH.2 ⟨_,hway,d,by
  show jY T k (hd0 (aW k l0)) k (hd0 (aW k x))=some d
  rw [hhd,hl0]
  exact hd,rfl⟩)
 refine ⟨h4,?_⟩;have h5:p.c≤T.ini+d.c:=h5
 show p.c≤T.ini+(w.c+d.c)
 omega
end
end Go.CH.Mtc
