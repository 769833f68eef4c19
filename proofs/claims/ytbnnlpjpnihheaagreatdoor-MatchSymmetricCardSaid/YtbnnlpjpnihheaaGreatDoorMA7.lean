import Derived.Test.YtbnnlpjpnihheaaGreatDoorMA6
import Derived.Test.YtbnnlpjpnihheaaGreatDoorMA5
import Derived.Test.YtbnnlpjpnihheaaGreatDoorMA3
import Derived.Test.YtbnnlpjpnihheaaGreatDoorMA2
import Derived.Deep.DeepCutAuto
set_option linter.unusedSimpArgs false
set_option linter.unusedVariables false
namespace Go.CH.Mtc
open Go.CH.Scr Go.CH.Pot
section
variable {T:Tab} {k k2:Int} {x y:Bs} {a b:NameM}

theorem fold_pick:∀ (l:List Pr) (q:Pr),∃ p,l.foldl pick1 (some q)=some p∧(p=q∨p ∈ l)∧p.c≤q.c∧∀ r ∈ l,p.c≤r.c:=by
 intro l
 induction l with
 | nil=>intro q;exact ⟨q,rfl,.inl rfl,Int.le_refl _,fun r hr=>by cases hr⟩
 | cons z l ih =>
  intro q
  rw [List.foldl_cons]
  by_cases h:z.c < q.c
  ·rw [show pick1 (some q) z=some z from if_pos h]
   obtain ⟨p,h1,h2,h3,h4⟩:=ih z
   refine ⟨p,h1,.inr ?_,by omega,fun r hr=>?_⟩
   ·rcases h2 with rfl | h2
    ·exact List.mem_cons_self ..
    ·exact List.mem_cons_of_mem _ h2
   ·rcases List.mem_cons.1 hr with rfl | hr
    ·exact h3
    ·exact h4 r hr
  ·rw [show pick1 (some q) z=some q from if_neg h]
   obtain ⟨p,h1,h2,h3,h4⟩:=ih q
   refine ⟨p,h1,?_,h3,fun r hr=>?_⟩
   ·rcases h2 with rfl | h2
    ·exact .inl rfl
    ·exact .inr (List.mem_cons_of_mem _ h2)
   ·rcases List.mem_cons.1 hr with rfl | hr
    ·omega
    ·exact h4 r hr
theorem first_none {l:List Pr}:first l=none↔l=[]:=by
 cases l with
 | nil=>exact ⟨fun _=>rfl,fun _=>rfl⟩
 | cons z l =>
  unfold first
  rw [List.foldl_cons]
  obtain ⟨p,h1,-⟩:=fold_pick l z
  show l.foldl pick1 (some z)=none↔z :: l=[]
  rw [h1]
  constructor
  ·intro h;cases h
  ·intro h;cases h
theorem first_some {l:List Pr} {p:Pr} (h:first l=some p):p ∈ l∧∀ r ∈ l,p.c≤r.c:=by
 cases l with
 | nil=>cases h
 | cons z l =>
  unfold first at h
  rw [List.foldl_cons] at h
  obtain ⟨q,h1,h2,h3,h4⟩:=fold_pick l z
  have h:l.foldl pick1 (some z)=some p:=h
  rw [h1] at h
  injection h with h
  subst h
  refine ⟨?_,fun r hr=>?_⟩
  ·rcases h2 with rfl | h2
   ·exact List.mem_cons_self ..
   ·exact List.mem_cons_of_mem _ h2
  ·rcases List.mem_cons.1 hr with rfl | hr
   ·exact h3
   ·exact h4 r hr
theorem first_of {l:List Pr} {r:Pr} (h:r ∈ l):∃ p,first l=some p∧p ∈ l∧p.c≤r.c:=by
 cases hf:first l with
 | none=>rw [first_none.1 hf] at h;cases h
 | some p=>exact ⟨p,rfl,(first_some hf).1,(first_some hf).2 r h⟩

theorem okW_swap:okW T k x k2 y=okW T k2 y k x:=by
 unfold okW
 cases word k x <;> cases word k2 y <;> rfl
theorem bestD_swap {d:Dv} (h:bestD T k x k2 y=some d):∃ d',bestD T k2 y k x=some d'∧d'.c=d.c:=by
 unfold bestD at h
 split at h
 ·rename_i hc
  injection h with h
  have e:(wdOf T k x k2 y).dist st0=(wdOf T k2 y k x).dist st0:=dist_swap (wd_good hc.1) (wd_small hc.1)
  refine ⟨(wdOf T k2 y k x).best,?_,?_⟩
  ·unfold bestD
   rw [if_pos ⟨by rw [←okW_swap];exact hc.1,by rw [←e];exact hc.2⟩]
  ·rw [←h];exact e.symm
 ·cases h
theorem bestD_iff {d:Dv} {e:Int}:BestP T k x k2 y d e→(e=0∧bestD T k x k2 y=some d)∨(e≠0∧bestD T k x k2 y=none):=by
 intro h
 cases h with
 | arg h=>exact .inr ⟨by decide,by unfold bestD;rw [if_neg (fun hc=>by rw [h] at hc;cases hc.1)]⟩
 | none h h2=>exact .inr ⟨by decide,by unfold bestD;rw [if_neg (fun hc=>by rw [h2] at hc;exact absurd hc.2 (by decide))]⟩
 | some h h2=>exact .inl ⟨rfl,by unfold bestD;rw [if_pos ⟨h,h2⟩]⟩
theorem bestD_p {d:Dv} (h:bestD T k x k2 y=some d):BestP T k x k2 y d 0:=by
 unfold bestD at h
 split at h
 ·rename_i hc
  injection h with h
  subst h
  exact .some hc.1 hc.2
 ·cases h
theorem bestD_bnd {d:Dv} (h:bestD T k x k2 y=some d):0≤d.c∧d.c≤24000:=by
 obtain ⟨-,-,h1,h2⟩:=best_cost (bestD_p h)
 exact ⟨h1,h2⟩

theorem bestD_low {d:Dv} (h:rightD T k x k2 y d):∃ d',bestD T k x k2 y=some d'∧d'.c≤d.c:=by
 have hd:=right_der h
 have hok:=h.1
 have hg:=wd_good hok
 have h1:=dist_der ok0 hg hd
 rcases path_dist hg (wd_small hok) _ st0 ok0 (Nat.le_refl _) with ⟨hp,h2⟩ | ⟨hn,h3⟩
 ·refine ⟨(wdOf T k x k2 y).best,?_,h1⟩
  unfold bestD
  have h4:=wd_small hok
  have h5:(wdOf T k x k2 y).rank st0≤1000:=by unfold Wd.rank;omega
  rw [if_pos ⟨hok,by unfold never;omega⟩]
 ·exact absurd ((path_iff ok0).2 hd) (h3 _)

theorem mem_waysL {ini:Int} {us vs:List Vr} {p q:List Bs} {w:Wy}:w ∈ waysL ini us vs p q↔(∃ u ∈ us,∃ v ∈ vs,w=wayV u v)∨(p.length=1∧w=waysI 2 ini p q)∨(q.length=1∧w=waysI 3 ini p q):=by
 unfold waysL waysV
 rw [List.mem_append,List.mem_append,List.mem_flatMap]
 constructor
 ·rintro (⟨u,hu,h⟩ | h | h)
  ·obtain ⟨v,hv,rfl⟩:=List.mem_map.1 h
   exact .inl ⟨u,hu,v,hv,rfl⟩
  ·split at h
   ·rename_i hc;exact .inr (.inl ⟨hc,List.mem_singleton.1 h⟩)
   ·cases h
  ·split at h
   ·rename_i hc;exact .inr (.inr ⟨hc,List.mem_singleton.1 h⟩)
   ·cases h
 ·rintro (⟨u,hu,v,hv,rfl⟩ | ⟨hc,rfl⟩ | ⟨hc,rfl⟩)
  ·exact .inl ⟨u,hu,List.mem_map.2 ⟨v,hv,rfl⟩⟩
  ·exact .inr (.inl (by rw [if_pos hc];exact List.mem_singleton.2 rfl))
  ·exact .inr (.inr (by rw [if_pos hc];exact List.mem_singleton.2 rfl))
theorem ways_swap {w:Wy} (h:w ∈ waysN T k x k2 y):∃ w' ∈ waysN T k2 y k x,w'.c=w.c∧w'.x=w.y∧w'.y=w.x:=by
 rcases mem_waysL.1 h with ⟨u,hu,v,hv,rfl⟩ | ⟨hc,rfl⟩ | ⟨hc,rfl⟩
 ·exact ⟨wayV v u,mem_waysL.2 (.inl ⟨v,hv,u,hu,rfl⟩),Int.add_comm _ _,rfl,rfl⟩
 ·exact ⟨waysI 3 T.ini (letF k2 y) (letF k x),mem_waysL.2 (.inr (.inr ⟨hc,rfl⟩)),rfl,rfl,rfl⟩
 ·exact ⟨waysI 2 T.ini (letF k2 y) (letF k x),mem_waysL.2 (.inr (.inl ⟨hc,rfl⟩)),rfl,rfl,rfl⟩
theorem mem_pairs {p:Pr}:p ∈ pairsN T k x k2 y↔∃ w ∈ waysN T k x k2 y,∃ d,bestD T k w.x k2 w.y=some d∧p=⟨0,0,w.kd,w.l,w.r,w.c+d.c,d⟩:=by
 unfold pairsN
 rw [List.mem_filterMap]
 unfold prOf
 constructor
 ·rintro ⟨w,hw,h⟩
  obtain ⟨d,hd,rfl⟩:=Option.map_eq_some_iff.1 h
  exact ⟨w,hw,d,hd,rfl⟩
 ·rintro ⟨w,hw,d,hd,rfl⟩
  exact ⟨w,hw,by rw [hd];rfl⟩
theorem pairs_swap {p:Pr} (h:p ∈ pairsN T k x k2 y):∃ q ∈ pairsN T k2 y k x,q.c=p.c:=by
 obtain ⟨w,hw,d,hd,rfl⟩:=mem_pairs.1 h
 obtain ⟨w',hw',e1,e2,e3⟩:=ways_swap hw
 obtain ⟨d',hd',e4⟩:=bestD_swap hd
 exact ⟨_,mem_pairs.2 ⟨w',hw',d',by rw [e2,e3];exact hd',rfl⟩,by show w'.c+d'.c=w.c+d.c;rw [e1,e4]⟩
theorem cheap_swap:(cheapN T k x k2 y).map (·.c)=(cheapN T k2 y k x).map (·.c):=by
 unfold cheapN
 cases h1:first (pairsN T k x k2 y) with
 | none =>
  cases h2:first (pairsN T k2 y k x) with
  | none=>rfl
  | some q =>
   obtain ⟨p,hp,-⟩:=pairs_swap (first_some h2).1
   rw [first_none.1 h1] at hp;cases hp
 | some p =>
  obtain ⟨q,hq,e⟩:=pairs_swap (first_some h1).1
  obtain ⟨q',h2,h3,h4⟩:=first_of hq
  obtain ⟨p',hp',e'⟩:=pairs_swap h3
  have h5:=(first_some h1).2 p' hp'
  rw [h2]
  show some p.c=some q'.c
  rw [show p.c=q'.c by omega]
theorem cM_eq {i j:Nat}:cM T a b i j=((cheapN T a.k (wd a i) b.k (wd b j)).map (·.c)).getD 100000:=by
 unfold cM prM
 cases cheapN T a.k (wd a i) b.k (wd b j) <;> rfl
theorem cM_swap {i j:Nat}:cM T a b i j=cM T b a j i:=by rw [cM_eq,cM_eq,cheap_swap]

theorem dropC_bnd (hv:validT T=true) (k:Int) (x:Bs):0≤dropC T k x∧dropC T k x≤1000:=by
 have h:=validT_iff.1 hv
 unfold dropC
 split
 ·rename_i d hd
  have hm:=List.mem_of_find?_eq_some hd
  have h1:=h.2.2.1
  unfold dropsN at h1
  rw [Bool.and_eq_true,Bool.and_eq_true,List.all_eq_true] at h1
  have h2:=h1.2.1 d hm
  unfold dropN at h2
  rw [Bool.and_eq_true] at h2
  exact costN_iff.1 h2.2
 ·exact costN_iff.1 h.1.2.2.1
theorem vars_bnd (hv:validT T=true) {v:Vr} (h:v ∈ varsN T k x):0≤v.c∧v.c≤1000:=by
 unfold varsN at h
 rcases List.mem_cons.1 h with rfl | h
 ·show (0:Int)≤0∧(0:Int)≤1000
  exact ⟨by decide,by decide⟩
 ·obtain ⟨⟨d,i⟩,hm,he⟩:=List.mem_filterMap.1 h
  unfold endOf at he
  split at he
  ·injection he with he
   subst he
   have h1:=(validT_iff.1 hv).2.2.2
   unfold dropsN at h1
   rw [Bool.and_eq_true,Bool.and_eq_true,List.all_eq_true] at h1
   have h2:=h1.2.1 d (List.fst_mem_of_mem_zipIdx hm)
   unfold dropN at h2
   rw [Bool.and_eq_true] at h2
   exact costN_iff.1 h2.2
  ·cases he
theorem ways_bnd (hv:validT T=true) {w:Wy} (h:w ∈ waysN T k x k2 y):0≤w.c∧w.c≤2000:=by
 rcases mem_waysL.1 h with ⟨u,hu,v,hv',rfl⟩ | ⟨-,rfl⟩ | ⟨-,rfl⟩
 ·have h1:=vars_bnd hv hu
  have h2:=vars_bnd hv hv'
  show 0≤u.c+v.c∧u.c+v.c≤2000
  omega
 all_goals
  have h1:=costN_iff.1 (validT_iff.1 hv).1.2.2.2.2
  show 0≤T.ini∧T.ini≤2000
  omega
theorem pairs_bnd (hv:validT T=true) {p:Pr} (h:p ∈ pairsN T k x k2 y):0≤p.c∧p.c≤26000:=by
 obtain ⟨w,hw,d,hd,rfl⟩:=mem_pairs.1 h
 have h1:=ways_bnd hv hw
 have h2:=bestD_bnd hd
 show 0≤w.c+d.c∧w.c+d.c≤26000
 omega
theorem cM_bnd (hv:validT T=true) (i j:Nat):0≤cM T a b i j∧cM T a b i j≤100000:=by
 rw [cM_eq]
 cases h:cheapN T a.k (wd a i) b.k (wd b j) with
 | none=>exact ⟨by decide,by decide⟩
 | some p =>
  have:=pairs_bnd hv (first_some h).1
  show 0≤p.c∧p.c≤100000
  omega
theorem dM_bnd (hv:validT T=true) (i:Nat):0≤dM T a i∧dM T a i≤1000:=dropC_bnd hv _ _

theorem any_opt:Asg.Opt (cM T a b) (dM T a) (dM T b) a.ws.length b.ws.length (anyK T a b):=Asg.L_opt
theorem ord_opt:Asg.OptO (cM T a b) (dM T a) (dM T b) a.ws.length b.ws.length (ordK T a b):=Asg.GR_opt
theorem best_c:(bestM T a b).c=min (anyK T a b+T.ord) (ordK T a b):=by
 unfold bestM
 split
 ·show anyK T a b+T.ord=_
  omega
 ·show ordK T a b=_
  omega
theorem any_ord:anyK T a b≤ordK T a b:=any_opt.le_ord ord_opt

theorem law_symmetric {m m':Mt} {e e':Int} (h:MatP T a b m e) (h':MatP T b a m' e'):e=e'∧m.c=m'.c:=by
 have ho:okM T a b=okM T b a:=by unfold okM;cases validN a <;> cases validN b <;> rfl
 cases h with
 | arg h1 =>
  cases h' with
  | arg=>exact ⟨rfl,rfl⟩
  | some h2=>rw [ho,h2] at h1;cases h1
 | some h1 =>
  cases h' with
  | arg h2=>rw [ho,h2] at h1;cases h1
  | some _ =>
   refine ⟨rfl,?_⟩
   rw [best_c,best_c]
   have e1:anyK T b a=anyK T a b:=any_opt.tr (any_opt.congr (fun i _ j _=>cM_swap) (fun _ _=>rfl) (fun _ _=>rfl))
   have e2:ordK T b a=ordK T a b:=ord_opt.tr (ord_opt.congr (fun i _ j _=>cM_swap) (fun _ _=>rfl) (fun _ _=>rfl))
   rw [e1,e2]

theorem law_order {m m':Mt} {e e':Int} (h:MatP T a a m e) (h':MatP T a ⟨a.k,a.ws.reverse⟩ m' e'):e=e'∧(e=0→m'.c≤m.c+T.ord):=by
 have hv2:validN ⟨a.k,a.ws.reverse⟩=validN a:=by
  unfold validN
  simp only [List.all_reverse,List.length_reverse]
 have ho:okM T a a=okM T a ⟨a.k,a.ws.reverse⟩:=by unfold okM;rw [hv2]
 cases h with
 | arg h1 =>
  cases h' with
  | arg=>exact ⟨rfl,fun h=>by cases h⟩
  | some h2=>rw [ho,h2] at h1;cases h1
 | some h1 =>
  cases h' with
  | arg h2=>rw [ho,h2] at h1;cases h1
  | some _ =>
   refine ⟨rfl,fun _=>?_⟩
   rw [best_c,best_c]
   have hwd:∀ j,j < a.ws.length→wd ⟨a.k,a.ws.reverse⟩ j=wd a (Asg.rev a.ws.length j):=fun j hj=>by
    unfold wd Asg.rev
    simp only [List.getD_eq_getElem?_getD]
    rw [List.getElem?_reverse hj]
   have h2:Asg.Opt (cM T a ⟨a.k,a.ws.reverse⟩) (dM T a) (dM T ⟨a.k,a.ws.reverse⟩) a.ws.length a.ws.length (anyK T a ⟨a.k,a.ws.reverse⟩):=by
    have:=any_opt (T:=T) (a:=a) (b:=⟨a.k,a.ws.reverse⟩)
    simp only [List.length_reverse] at this
    exact this
   have e1:anyK T a ⟨a.k,a.ws.reverse⟩=anyK T a a:=by
    have idI:Asg.Inv a.ws.length (fun i=>i) (fun i=>i):=⟨fun _ h=>h,fun _ h=>h,fun _ _=>rfl,fun _ _=>rfl⟩
    refine any_opt.perm idI (Asg.rev_inv _) (h2.congr (fun i _ j hj=>?_) (fun _ _=>rfl) (fun j hj=>?_))
    ·rw [cM_eq,cM_eq,hwd j hj]
    ·unfold dM;rw [hwd j hj]
   have:=any_ord (T:=T) (a:=a) (b:=a)
   have ho:=costN_iff.1 (validT_iff.1 (by unfold okM at h1;rw [Bool.and_eq_true] at h1;exact h1.1:validT T=true)).1.2.2.2.1
   rw [e1]
   omega

theorem law_all {m:Mt} (h:MatP T a b m 0):0≤m.c∧m.c≤Asg.sg a.ws.length (dM T a)+Asg.sg b.ws.length (dM T b):=by
 cases h with
 | some h1 =>
  have hv:validT T=true:=by unfold okM at h1;rw [Bool.and_eq_true] at h1;exact h1.1
  have ho:=costN_iff.1 (validT_iff.1 hv).1.2.2.2.1
  rw [best_c]
  have hn:∀ P,Asg.Asg a.ws.length b.ws.length P→0≤Asg.cost (cM T a b) (dM T a) (dM T b) a.ws.length b.ws.length P:=fun P hP=>by
   unfold Asg.cost
   have h2:=Asg.sg_nonneg (n:=a.ws.length) (f:=fun i=>if P i < b.ws.length then cM T a b i (P i) else dM T a i) (fun i hi=>by
    split
    ·exact (cM_bnd hv _ _).1
    ·exact (dM_bnd hv _).1)
   have h3:=Asg.sg_nonneg (n:=b.ws.length) (f:=fun j=>if Asg.used P a.ws.length j then 0 else dM T b j) (fun j hj=>by
    split
    ·exact Int.le_refl _
    ·exact (dM_bnd hv _).1)
   omega
  obtain ⟨P,hP,hM,hc⟩:=(ord_opt (T:=T) (a:=a) (b:=b)).has
  obtain ⟨P',hP',hc'⟩:=(any_opt (T:=T) (a:=a) (b:=b)).has
  have h2:=hn P hP
  have h3:=hn P' hP'
  have hA:Asg.Asg a.ws.length b.ws.length (fun _=>b.ws.length):=⟨fun _ _=>Nat.le_refl _,fun i j hi hj _ h=>absurd h (Nat.lt_irrefl _)⟩
  have hAM:Asg.Mono a.ws.length b.ws.length (fun _=>b.ws.length):=fun i j _ _ h=>absurd h (Nat.lt_irrefl _)
  have h4:=(ord_opt (T:=T) (a:=a) (b:=b)).low _ hA hAM
  have h5:Asg.cost (cM T a b) (dM T a) (dM T b) a.ws.length b.ws.length (fun _=>b.ws.length)=Asg.sg a.ws.length (dM T a)+Asg.sg b.ws.length (dM T b):=by
   unfold Asg.cost
   congr 1
   ·exact Asg.sg_congr fun i _=>if_neg (Nat.lt_irrefl _)
   ·refine Asg.sg_congr fun j hj=>if_neg ?_
    rw [Bool.not_eq_true,Asg.used_not]
    intro i _ e
    omega
  rw [h5] at h4
  omega
end
end Go.CH.Mtc
namespace Go.CH.Mtc
open Go.CH.Scr Go.CH.Pot
section
variable {T:Tab} {a b:Int} {x y:Bs}

theorem zip_at {α:Type} {l:List α} {n:Nat} {p q:α × Nat} (hp:p ∈ l.zipIdx n) (hq:q ∈ l.zipIdx n) (h:p.2=q.2):p=q:=by
 obtain ⟨x,i⟩:=p
 obtain ⟨z,j⟩:=q
 have h:i=j:=h
 subst h
 have h1:=(List.mem_zipIdx hp).2.2
 have h2:=(List.mem_zipIdx hq).2.2
 rw [h1,h2]
theorem side_mem {k:Int} {r:AR} (h:r ∈ sideR T.rs k):∃ R,(R,r.ix) ∈ T.rs.zipIdx∧R.k=k∧word k R.f=true∧r=⟨r.ix,R.c,(ltrs k R.f).1,R.t⟩:=by
 unfold sideR at h
 obtain ⟨⟨R,ix⟩,hm,he⟩:=List.mem_filterMap.1 h
 unfold arOf at he
 simp only at he
 split at he
 ·rename_i hk
  split at he
  ·rename_i hw
   injection he with he
   subst he
   exact ⟨R,hm,hk,hw,rfl⟩
  ·cases he
 ·cases he
theorem side_find {k:Int} {r:AR} (h:r ∈ sideR T.rs k):(sideR T.rs k).find? (fun z=>decide ((z.ix:Int)=(r.ix:Int)))=some r:=by
 cases hf:(sideR T.rs k).find? (fun z=>decide ((z.ix:Int)=(r.ix:Int))) with
 | none =>
  have:=List.find?_eq_none.1 hf r h
  simp at this
 | some z =>
  have h1:=List.mem_of_find?_eq_some hf
  have h2:(z.ix:Int)=(r.ix:Int):=by
   have:=List.find?_some hf
   exact of_decide_eq_true this
  obtain ⟨R,g1,-,-,g2⟩:=side_mem h
  obtain ⟨R',g3,-,-,g4⟩:=side_mem h1
  have e:=zip_at g1 g3 (by show r.ix=z.ix;omega)
  injection e with e1 e2
  subst e1
  rw [g2,g4]
  simp only [e2]
theorem side_len {k:Int} {r:AR} (h:r ∈ sideR T.rs k):1≤r.f.length:=by
 obtain ⟨R,-,-,hw,e⟩:=side_mem h
 rw [e]
 exact (word_iff.1 hw).2.1

def Lk (s:St) (FL FR:Bs):Prop:=(s.r=true→FL=s.a ++ FR)∧(s.r=false→FR=s.a ++ FL)
theorem best_from (hv:validT T=true):∀ (n:Nat) (s:St),(wdOf T a x b y).ok s→(wdOf T a x b y).rank s≤n→(wdOf T a x b y).dist s < never →
  ∃ FL FR c1 c2,wrtN (wdOf T a x b y).l (sideR T.rs a) ((wdOf T a x b y).bestR n s).1 s.i=some (FL,c1,(wdOf T a x b y).l.length)∧wrtN (wdOf T a x b y).m (sideR T.rs b) ((wdOf T a x b y).bestR n s).2.1 s.j=some (FR,c2,(wdOf T a x b y).m.length)∧c1+c2=(wdOf T a x b y).dist s∧((wdOf T a x b y).bestR n s).2.2=FL∧Lk s FL FR:=by
 have hg:(wdOf T a x b y).good:=(good_of hv).1
 have hfin:(wdOf T a x b y).dist (wdOf T a x b y).fin=0:=by
  have h0:(wdOf T a x b y).rank (wdOf T a x b y).fin=0:=by unfold Wd.rank Wd.fin;simp
  unfold Wd.dist
  rw [h0]
  unfold Wd.dn
  rw [if_pos rfl]
 have base:∀ (n:Nat) (s:St),s=(wdOf T a x b y).fin→∃ FL FR c1 c2,wrtN (wdOf T a x b y).l (sideR T.rs a) ((wdOf T a x b y).bestR n s).1 s.i=some (FL,c1,(wdOf T a x b y).l.length)∧wrtN (wdOf T a x b y).m (sideR T.rs b) ((wdOf T a x b y).bestR n s).2.1 s.j=some (FR,c2,(wdOf T a x b y).m.length)∧c1+c2=(wdOf T a x b y).dist s∧((wdOf T a x b y).bestR n s).2.2=FL∧Lk s FL FR:=by
  intro n s e
  have hb:(wdOf T a x b y).bestR n s=([],[],[]):=by
   cases n with
   | zero=>rfl
   | succ n=>unfold Wd.bestR;rw [if_pos e]
  rw [hb]
  subst e
  refine ⟨[],[],0,0,rfl,rfl,hfin.symm,rfl,?_⟩
  exact ⟨(fun h=>by cases h),(fun _=>rfl)⟩
 intro n
 induction n with
 | zero =>
  intro s hs hr hd
  by_cases e:s=(wdOf T a x b y).fin
  ·exact base 0 s e
  ·exfalso
   have h0:(wdOf T a x b y).rank s=0:=Nat.le_zero.1 hr
   unfold Wd.dist at hd
   rw [h0] at hd
   unfold Wd.dn at hd
   rw [if_neg e] at hd
   exact absurd hd (Int.lt_irrefl _)
 | succ n ih =>
  intro s hs hr hd
  by_cases e:s=(wdOf T a x b y).fin
  ·exact base _ s e
  ·have hpk:∃ p,(wdOf T a x b y).pick s=some p:=by
    cases hp:(wdOf T a x b y).pick s with
    | some p=>exact ⟨p,rfl⟩
    | none =>
     exfalso
     have h1:=List.find?_eq_none.1 hp
     have h2:=dist_eq (W:=wdOf T a x b y) hs
     rw [if_neg e] at h2
     rcases fold_eq (fun z:Int × St=>z.1+(wdOf T a x b y).dist z.2) ((wdOf T a x b y).moves s) never with h3 | ⟨q,hq,h3⟩
     ·rw [h2,h3] at hd
      exact absurd hd (Int.lt_irrefl _)
     ·rw [←amoves_eq hv hs] at hq
      obtain ⟨p,hp,rfl⟩:=List.mem_map.1 hq
      refine h1 p hp (decide_eq_true ?_)
      rw [h2]
      exact h3.symm
   obtain ⟨⟨r,s'⟩,hp⟩:=hpk
   have hbest:(wdOf T a x b y).bestR (n+1) s=if s.i < s'.i then ((r.ix:Int) :: ((wdOf T a x b y).bestR n s').1,((wdOf T a x b y).bestR n s').2.1,r.t ++ ((wdOf T a x b y).bestR n s').2.2) else (((wdOf T a x b y).bestR n s').1,(r.ix:Int) :: ((wdOf T a x b y).bestR n s').2.1,((wdOf T a x b y).bestR n s').2.2):=by
    rw [Wd.bestR,if_neg e,hp]
   have hmem:(r,s') ∈ (wdOf T a x b y).amoves s:=List.mem_of_find?_eq_some hp
   have hcost:r.c+(wdOf T a x b y).dist s'=(wdOf T a x b y).dist s:=by
    have:=List.find?_some hp
    exact of_decide_eq_true this
   have hmv:(r.c,s') ∈ (wdOf T a x b y).moves s:=by
    rw [←amoves_eq hv hs]
    exact List.mem_map.2 ⟨(r,s'),hmem,rfl⟩
   have hok':=moves_ok hs hmv
   have hc:=good_cost hg hmv
   obtain ⟨FL,FR,c1,c2,w1,w2,w3,w4,w5⟩:=ih s' hok'.1 (by have:=hok'.2;omega) (by omega)
   unfold Wd.amoves at hmem
   obtain ⟨r0,hr0,hav⟩:=List.mem_filterMap.1 hmem
   unfold Wd.amv at hav
   have hlen:1≤r0.f.length:=side_len hr0
   by_cases hfit:fitsA (if (wdOf T a x b y).left s then (wdOf T a x b y).l else (wdOf T a x b y).m) r0 (if (wdOf T a x b y).left s then s.i else s.j)=true
   ·rw [if_pos hfit] at hav
    obtain ⟨⟨a',r'⟩,hah,he⟩:=Option.map_eq_some_iff.1 hav
    injection he with he1 he2
    subst he1
    cases hl:(wdOf T a x b y).left s with
    | true =>
     rw [hl] at hfit he2 hr0
     simp only [if_true] at hfit he2 hr0
     subst he2
     rw [hbest,if_pos (by show s.i < s.i+r0.f.length;omega)]
     have hside:r0 ∈ sideR T.rs a:=hr0
     refine ⟨r0.t ++ FL,FR,r0.c+c1,c2,?_,w2,by have:=w3;omega,by rw [w4],?_⟩
     ·unfold wrtN
      rw [side_find hside]
      simp only
      rw [if_pos hfit,w1]
      rfl
     ·unfold Wd.ahA at hah
      obtain ⟨k1,k2⟩:=w5
      simp only at k1 k2
      split at hah
      ·rename_i hpre
       injection hah with hah
       injection hah with ha hr'
       obtain ⟨z,hz⟩:=pre_iff.1 hpre
       rw [hz,List.drop_left] at ha
       rw [hz,List.drop_left] at hr'
       subst ha
       constructor
       ·intro hsr
        rw [hsr,Bool.true_and] at hr'
        rw [hz,List.append_assoc]
        congr 1
        by_cases hz0:z=[]
        ·subst hz0
         have:=k2 (by rw [←hr'];simp)
         rw [this];rfl
        ·exact k1 (by rw [←hr'];simp [hz0])
       ·intro hsr
        rw [hsr,Bool.false_and] at hr'
        have ha0:s.a=[]:=by
         rcases left_iff.1 hl with h | h
         ·rw [hsr] at h;cases h
         ·exact h.1
        rw [ha0] at hz
        have hz':=List.append_eq_nil_iff.1 hz.symm
        have:=k2 hr'.symm
        rw [ha0,this,hz'.1,hz'.2]
        rfl
      ·split at hah
       ·rename_i hpre
        injection hah with hah
        injection hah with ha hr'
        rw [hl] at hr'
        obtain ⟨z,hz⟩:=pre_iff.1 hpre
        rw [hz,List.drop_left] at ha
        subst ha
        have:=k2 hr'.symm
        constructor
        ·intro hsr
         rw [this,hz,List.append_assoc]
        ·intro hsr
         have ha0:s.a=[]:=by
          rcases left_iff.1 hl with h | h
          ·rw [hsr] at h;cases h
          ·exact h.1
         rw [this,hz,ha0]
         rfl
       ·cases hah
    | false =>
     rw [hl] at hfit he2 hr0
     simp only [Bool.false_eq_true,if_false] at hfit he2 hr0
     subst he2
     rw [hbest,if_neg (by show ¬ s.i < s.i;omega)]
     have hside:r0 ∈ sideR T.rs b:=hr0
     have hsr:s.r=false:=by
      cases h:s.r with
      | false=>rfl
      | true=>rw [left_iff.2 (.inl h)] at hl;cases hl
     refine ⟨FL,r0.t ++ FR,c1,r0.c+c2,w1,?_,by have:=w3;omega,w4,?_⟩
     ·unfold wrtN
      rw [side_find hside]
      simp only
      rw [if_pos hfit,w2]
      rfl
     ·unfold Wd.ahA at hah
      obtain ⟨k1,k2⟩:=w5
      simp only at k1 k2
      refine ⟨(fun h=>by rw [hsr] at h;cases h),fun _=>?_⟩
      split at hah
      ·rename_i hpre
       injection hah with hah
       injection hah with ha hr'
       obtain ⟨z,hz⟩:=pre_iff.1 hpre
       rw [hz,List.drop_left] at ha
       subst ha
       rw [hsr,Bool.false_and] at hr'
       rw [k2 hr'.symm,hz,List.append_assoc]
      ·split at hah
       ·rename_i hpre
        injection hah with hah
        injection hah with ha hr'
        rw [hl] at hr'
        obtain ⟨z,hz⟩:=pre_iff.1 hpre
        rw [hz,List.drop_left] at ha
        subst ha
        rw [k1 hr'.symm,hz,List.append_assoc]
       ·cases hah
   ·rw [if_neg hfit] at hav
    cases hav

theorem best_right {d:Dv} (h:bestD T a x b y=some d):rightD T a x b y d:=by
 unfold bestD at h
 split at h
 ·rename_i hc
  injection h with h
  subst h
  have hv:=(okW_iff.1 hc.1).2.2
  obtain ⟨FL,FR,c1,c2,w1,w2,w3,w4,w5⟩:=best_from (a:=a) (x:=x) (b:=b) (y:=y) hv _ st0 ok0 (Nat.le_refl _) hc.2
  have e:FR=FL:=w5.2 rfl
  refine ⟨hc.1,FL,c1,c2,w1,by rw [←e];exact w2,w4.symm,w3⟩
 ·cases h
end
end Go.CH.Mtc
namespace Go.CH.Mtc
open Go.CH.Scr Go.CH.Pot
section
variable {c:Nat→Nat→Int} {d e:Nat→Int} {n m:Nat}

structure Cols (c:Nat→Nat→Int) (d e:Nat→Int) (n m:Nat) (cols:List Int) (v:Int):Prop where
 len:cols.length=n
 bnd:∀ p ∈ cols,0≤p∧p≤m
 asg:Asg.Asg n m (Asg.lp cols)
 cost:Asg.cost c d e n m (Asg.lp cols)=v
theorem any_cols:Cols c d e n m (Asg.bps c d e n m) (Asg.bcost c d e n m):=by
 have h:=Asg.gr_cs (c:=c) (d:=d) (e:=e) (n:=n) (m:=m) (k:=n) (Nat.le_refl n) Asg.noU
 rw [Nat.sub_self] at h
 obtain ⟨h1,h2,h3⟩:=Asg.cs_some h
 rw [Asg.gr_len] at h1 h2
 exact ⟨Asg.gr_len _ _,h3,h1.asg,by rw [←Asg.costU_cost];exact h2.symm⟩
theorem ord_cols:Cols c d e n m (Asg.gro c d e n m n m) (Asg.GR c d e n m n m)∧Asg.Mono n m (Asg.lp (Asg.gro c d e n m n m)):=by
 have h:=Asg.gro_cso (c:=c) (d:=d) (e:=e) (n:=n) (m:=m) (a:=n) (f:=0) (Nat.le_refl n) (Nat.zero_le m)
 rw [Nat.sub_self,Nat.sub_zero] at h
 have hk:Asg.keeps m (-1) (Asg.gro c d e n m n m)=true:=by have:=Asg.cso_keeps h;simpa using this
 rw [←Asg.cs_cso0 hk] at h
 obtain ⟨h1,h2,h3⟩:=Asg.cs_some h
 have h4:=Asg.keeps_mono hk
 rw [Asg.gro_len] at h1 h2 h4
 exact ⟨⟨Asg.gro_len _ _,h3,h1.asg,by rw [←Asg.costU_cost];exact h2.symm⟩,h4⟩

def drop1 (m i:Nat) (P:Nat→Nat):Nat→Nat:=fun r=>if r=i then m else P r
theorem drop1_asg {P:Nat→Nat} {i:Nat} (h:Asg.Asg n m P):Asg.Asg n m (drop1 m i P):=by
 refine ⟨fun r hr=>?_,fun r s hr hs he hm=>?_⟩
 ·unfold drop1;split
  ·exact Nat.le_refl _
  ·exact h.le r hr
 ·unfold drop1 at he hm
  by_cases h1:r=i
  ·rw [if_pos h1] at hm;exact absurd hm (Nat.lt_irrefl _)
  ·rw [if_neg h1] at he hm
   by_cases h2:s=i
   ·rw [if_pos h2] at he;rw [he] at hm;exact absurd hm (Nat.lt_irrefl _)
   ·rw [if_neg h2] at he
    exact h.inj r s hr hs he hm
theorem drop1_mono {P:Nat→Nat} {i:Nat} (h:Asg.Mono n m P):Asg.Mono n m (drop1 m i P):=by
 intro r s hrs hs h1 h2
 unfold drop1 at h1 h2 ⊢
 by_cases e1:r=i
 ·rw [if_pos e1] at h1;exact absurd h1 (Nat.lt_irrefl _)
 ·by_cases e2:s=i
  ·rw [if_pos e2] at h2;exact absurd h2 (Nat.lt_irrefl _)
  ·rw [if_neg e1] at h1 ⊢
   rw [if_neg e2] at h2 ⊢
   exact h r s hrs hs h1 h2
theorem drop1_cost {P:Nat→Nat} {i:Nat} (h:Asg.Asg n m P) (hi:i < n) (hm:P i < m):Asg.cost c d e n m (drop1 m i P)=Asg.cost c d e n m P - c i (P i)+e (P i)+d i:=by
 rw [Asg.cost_tot (drop1_asg h),Asg.cost_tot h]
 unfold Asg.tot
 have:=Asg.sg_upd (f:=fun r=>Asg.wt c d e m r (drop1 m i P r)) (g:=fun r=>Asg.wt c d e m r (P r)) hi (fun r hr hne=>by unfold drop1;rw [if_neg hne])
 rw [this]
 have e1:Asg.wt c d e m i (drop1 m i P i)=d i:=by unfold drop1 Asg.wt;rw [if_pos rfl,if_neg (Nat.lt_irrefl _)]
 have e2:Asg.wt c d e m i (P i)=c i (P i) - e (P i):=by unfold Asg.wt;rw [if_pos hm]
 rw [e1,e2]
 omega
end
section
variable {T:Tab} {k k2:Int} {x y:Bs} {a b:NameM}
theorem cheap_of {i j:Nat} (h:cM T a b i j < 100000):∃ p,cheapN T a.k (wd a i) b.k (wd b j)=some p:=by
 rw [cM_eq] at h
 cases hc:cheapN T a.k (wd a i) b.k (wd b j) with
 | some p=>exact ⟨p,rfl⟩
 | none=>rw [hc] at h;exact absurd h (by decide)

theorem vars_inj {u v:Vr} (hu:u ∈ varsN T k x) (hv:v ∈ varsN T k x) (h:u.e=v.e):u=v:=by
 have key:∀ w:Vr,w ∈ T.es.zipIdx.filterMap (endOf k (letF k x))→∃ p ∈ T.es.zipIdx,endOf k (letF k x) p=some w∧w.e=(p.2:Int):=by
  intro w hw
  obtain ⟨p,hp,he⟩:=List.mem_filterMap.1 hw
  refine ⟨p,hp,he,?_⟩
  unfold endOf at he
  split at he
  ·injection he with he
   subst he
   rfl
  ·cases he
 unfold varsN at hu hv
 rcases List.mem_cons.1 hu with rfl | hu
 ·rcases List.mem_cons.1 hv with rfl | hv
  ·rfl
  ·obtain ⟨p,-,-,e⟩:=key v hv
   rw [e] at h
   have h:(-1:Int)=(p.2:Int):=h
   omega
 ·obtain ⟨p,hp,e1,e2⟩:=key u hu
  rcases List.mem_cons.1 hv with rfl | hv
  ·rw [e2] at h
   have h:(p.2:Int) = -1:=h
   omega
  ·obtain ⟨q,hq,e3,e4⟩:=key v hv
   have:=zip_at hp hq (by rw [e2,e4] at h;omega)
   subst this
   rw [e1] at e3
   injection e3
theorem ways_inj {w z:Wy} (hw:w ∈ waysN T k x k2 y) (hz:z ∈ waysN T k x k2 y) (h1:w.kd=z.kd) (h2:w.l=z.l) (h3:w.r=z.r):w=z:=by
 rcases mem_waysL.1 hw with ⟨u,hu,v,hv,rfl⟩ | ⟨-,rfl⟩ | ⟨-,rfl⟩
 ·rcases mem_waysL.1 hz with ⟨u',hu',v',hv',rfl⟩ | ⟨-,rfl⟩ | ⟨-,rfl⟩
  ·rw [vars_inj hu hu' h2,vars_inj hv hv' h3]
  ·exact absurd h1 (by show ¬ (1:Int)=2;decide)
  ·exact absurd h1 (by show ¬ (1:Int)=3;decide)
 ·rcases mem_waysL.1 hz with ⟨u',hu',v',hv',rfl⟩ | ⟨-,rfl⟩ | ⟨-,rfl⟩
  ·exact absurd h1 (by show ¬ (2:Int)=1;decide)
  ·rfl
  ·exact absurd h1 (by show ¬ (2:Int)=3;decide)
 ·rcases mem_waysL.1 hz with ⟨u',hu',v',hv',rfl⟩ | ⟨-,rfl⟩ | ⟨-,rfl⟩
  ·exact absurd h1 (by show ¬ (3:Int)=1;decide)
  ·exact absurd h1 (by show ¬ (3:Int)=2;decide)
  ·rfl

theorem pairs_right {p:Pr} (h:p ∈ pairsN T k x k2 y) (i j:Int):rightP T k x k2 y { p with i:=i,j:=j }:=by
 obtain ⟨w,hw,d,hd,rfl⟩:=mem_pairs.1 h
 cases hf:(waysN T k x k2 y).find? (fun z=>decide (z.kd=w.kd) && (decide (z.l=w.l) && decide (z.r=w.r))) with
 | none =>
  have:=List.find?_eq_none.1 hf w hw
  simp at this
 | some z =>
  have h1:=List.find?_some hf
  simp only [Bool.and_eq_true,decide_eq_true_eq] at h1
  have e:=ways_inj (List.mem_of_find?_eq_some hf) hw h1.1 h1.2.1 h1.2.2
  subst e
  exact ⟨z,hf,rfl,best_right hd⟩

theorem right_low {p:Pr} (h:rightP T k x k2 y p):∃ q,cheapN T k x k2 y=some q∧q.c≤p.c:=by
 obtain ⟨w,hf,h1,h2⟩:=h
 obtain ⟨d',h3,h4⟩:=bestD_low h2
 obtain ⟨q,h5,-,h6⟩:=first_of (mem_pairs.2 ⟨w,List.mem_of_find?_eq_some hf,d',h3,rfl⟩)
 exact ⟨q,h5,by rw [h1];have h6:q.c≤w.c+d'.c:=h6;omega⟩

theorem pr_i {i j:Nat}:(prM T a b i j).i=i:=by unfold prM;split <;> rfl
theorem pr_j {i j:Nat}:(prM T a b i j).j=j:=by unfold prM;split <;> rfl
theorem build_ok {s:Bool} {cols:List Int} (hn:cols.length=a.ws.length) (hb:∀ p ∈ cols,0≤p∧p≤b.ws.length) (hA:Asg.Asg a.ws.length b.ws.length (Asg.lp cols)) (hM:s=true∨Asg.Mono a.ws.length b.ws.length (Asg.lp cols))
  (hp:∀ i,i < a.ws.length→Asg.lp cols i < b.ws.length→∃ p,cheapN T a.k (wd a i) b.k (wd b (Asg.lp cols i))=some p) :
  ∀ (l:List Int) (i:Nat) (last before:Int) (rs:List Int),l=cols.drop i→last < i→(∀ q ∈ rs,∃ r,r < i∧q=(Asg.lp cols r:Int)∧Asg.lp cols r < b.ws.length)→(before = -1∨∃ r,r < i∧before=(Asg.lp cols r:Int)∧Asg.lp cols r < b.ws.length) →
   pairsOk T a b s last before rs (buildN T a b i l):=by
 intro l
 induction l with
 | nil=>intro i last before rs _ _ _ _;exact trivial
 | cons j l ih =>
  intro i last before rs hl h1 h2 h3
  have hi:i < cols.length:=by
   rcases Nat.lt_or_ge i cols.length with h | h
   ·exact h
   ·rw [List.drop_eq_nil_of_le h] at hl;cases hl
  have hd:=List.drop_eq_getElem_cons hi
  rw [←hl] at hd
  injection hd with hj hd'
  have hlp:Asg.lp cols i=j.toNat:=by unfold Asg.lp;rw [List.getD_eq_getElem?_getD,List.getElem?_eq_getElem hi,←hj];rfl
  have hjb:=hb j (by rw [hj];exact List.getElem_mem hi)
  unfold buildN
  split
  ·rename_i hc
   have hPm:Asg.lp cols i < b.ws.length:=by rw [hlp];omega
   have hjj:((j.toNat:Nat):Int)=j:=Int.toNat_of_nonneg hjb.1
   obtain ⟨p,hpc⟩:=hp i (by omega) hPm
   rw [hlp] at hpc
   show _∧_∧_∧_∧_∧_∧_∧_
   rw [pr_i,pr_j,hjj]
   refine ⟨h1,by omega,hjb.1,hc.2,fun hm=>?_,?_,?_,?_⟩
   ·obtain ⟨r,g1,g2,g3⟩:=h2 j hm
    have:=hA.inj r i (by omega) (by omega) (by rw [hlp];omega) g3
    omega
   ·rcases hM with h | h
    ·exact .inl h
    ·refine .inr ?_
     rcases h3 with h3 | ⟨r,g1,g2,g3⟩
     ·omega
     ·have:=h r i g1 (by omega) g3 hPm
      rw [hlp] at this
      omega
   ·have:prM T a b i j.toNat={ p with i:=i,j:=(j.toNat:Nat) }:=by unfold prM;rw [hpc]
    rw [this,Int.toNat_natCast]
    exact pairs_right (first_some hpc).1 _ _
   ·refine ih (i+1) _ _ _ hd' (by omega) (fun q hq=>?_) (.inr ⟨i,by omega,by rw [hlp,hjj],hPm⟩)
    rcases List.mem_cons.1 hq with rfl | hq
    ·exact ⟨i,by omega,by rw [hlp,hjj],hPm⟩
    ·obtain ⟨r,g1,g2⟩:=h2 q hq
     exact ⟨r,by omega,g2⟩
  ·refine ih (i+1) _ _ _ hd' (by omega) (fun q hq=>?_) ?_
   ·obtain ⟨r,g1,g2⟩:=h2 q hq
    exact ⟨r,by omega,g2⟩
   ·rcases h3 with h3 | ⟨r,g1,g2⟩
    ·exact .inl h3
    ·exact .inr ⟨r,by omega,g2⟩
theorem build_mem:∀ (l:List Int) (i:Nat) (p:Pr),p ∈ buildN T a b i l↔∃ r,∃ h:r < l.length,0≤l[r]∧l[r] < b.ws.length∧p=prM T a b (i+r) l[r].toNat:=by
 intro l
 induction l with
 | nil =>
  intro i p
  constructor
  ·intro h;cases h
  ·rintro ⟨r,h,-⟩;simp at h
 | cons j l ih =>
  intro i p
  have tl:(∃ r,∃ h:r < l.length,0≤l[r]∧l[r] < b.ws.length∧p=prM T a b (i+1+r) l[r].toNat)↔∃ r,∃ h:r+1 < (j :: l).length,0≤(j :: l)[r+1]∧(j :: l)[r+1] < b.ws.length∧p=prM T a b (i+(r+1)) (j :: l)[r+1].toNat:=by
   constructor
   ·rintro ⟨r,h,g⟩
    refine ⟨r,by rw [List.length_cons];omega,?_⟩
    rw [List.getElem_cons_succ,show i+(r+1)=i+1+r by omega]
    exact g
   ·rintro ⟨r,h,g⟩
    refine ⟨r,by rw [List.length_cons] at h;omega,?_⟩
    rw [List.getElem_cons_succ,show i+(r+1)=i+1+r by omega] at g
    exact g
  unfold buildN
  split
  ·rename_i hc
   rw [List.mem_cons,ih,tl]
   constructor
   ·rintro (rfl | ⟨r,h⟩)
    ·exact ⟨0,by rw [List.length_cons];omega,hc.1,hc.2,rfl⟩
    ·exact ⟨r+1,h⟩
   ·rintro ⟨r,h⟩
    cases r with
    | zero=>obtain ⟨h1,-,-,h2⟩:=h;exact .inl h2
    | succ r=>exact .inr ⟨r,h⟩
  ·rename_i hc
   rw [ih,tl]
   constructor
   ·rintro ⟨r,h⟩;exact ⟨r+1,h⟩
   ·rintro ⟨r,h⟩
    cases r with
    | zero=>obtain ⟨h1,h2,h3,-⟩:=h;exact absurd ⟨h2,h3⟩ hc
    | succ r=>exact ⟨r,h⟩
theorem build_sum:∀ (l:List Int) (i:Nat),((buildN T a b i l).map (·.c)).sum=Asg.sg l.length (fun r=>if 0≤l.getD r 0∧l.getD r 0 < b.ws.length then cM T a b (i+r) (l.getD r 0).toNat else 0):=by
 intro l
 induction l with
 | nil=>intro i;rfl
 | cons j l ih =>
  intro i
  rw [List.length_cons,Asg.sg_front]
  have e:(fun r=>if 0≤(j :: l).getD (r+1) 0∧(j :: l).getD (r+1) 0 < b.ws.length then cM T a b (i+(r+1)) ((j :: l).getD (r+1) 0).toNat else 0)=(fun r=>if 0≤l.getD r 0∧l.getD r 0 < b.ws.length then cM T a b (i+1+r) (l.getD r 0).toNat else 0):=by
   funext r
   rw [List.getD_cons_succ,show i+(r+1)=i+1+r by omega]
  rw [e,←ih (i+1),List.getD_cons_zero]
  by_cases hc:0≤j∧j < b.ws.length
  ·rw [show buildN T a b i (j :: l)=prM T a b i j.toNat :: buildN T a b (i+1) l from if_pos hc,List.map_cons,List.sum_cons,if_pos hc];rfl
  ·rw [show buildN T a b i (j :: l)=buildN T a b (i+1) l from if_neg hc,if_neg hc,Int.zero_add]
theorem build_cost {s:Bool} {cols:List Int} {v:Int} (h:Cols (cM T a b) (dM T a) (dM T b) a.ws.length b.ws.length cols v):costM T a b ⟨v,s,buildN T a b 0 cols⟩=(if s then T.ord else 0)+v:=by
 have hlp:∀ r,r < a.ws.length→∃ h:r < cols.length,Asg.lp cols r=cols[r].toNat∧0≤cols[r]∧cols.getD r 0=cols[r]:=fun r hr=>by
  have hr':r < cols.length:=by rw [h.len];exact hr
  refine ⟨hr',?_,(h.bnd _ (List.getElem_mem hr')).1,?_⟩
  ·unfold Asg.lp;rw [List.getD_eq_getElem?_getD,List.getElem?_eq_getElem hr'];rfl
  ·rw [List.getD_eq_getElem?_getD,List.getElem?_eq_getElem hr'];rfl
 have h1:restC T a ((buildN T a b 0 cols).map (·.i))=Asg.sg a.ws.length (fun r=>if Asg.lp cols r < b.ws.length then 0 else dM T a r):=by
  unfold restC
  refine Asg.sg_congr fun r hr=>?_
  obtain ⟨hr',e1,e2,-⟩:=hlp r hr
  have hiff:((r:Int) ∈ (buildN T a b 0 cols).map (·.i))↔Asg.lp cols r < b.ws.length:=by
   rw [List.mem_map]
   constructor
   ·rintro ⟨p,hp,he⟩
    obtain ⟨t,ht,g1,g2,rfl⟩:=(build_mem _ _ _).1 hp
    rw [pr_i,Nat.zero_add] at he
    have:t=r:=by omega
    subst this
    rw [e1];omega
   ·intro hl
    exact ⟨_,(build_mem _ _ _).2 ⟨r,hr',e2,by rw [e1] at hl;omega,rfl⟩,by rw [pr_i,Nat.zero_add]⟩
  by_cases hl:Asg.lp cols r < b.ws.length
  ·rw [if_pos (hiff.2 hl),if_pos hl]
  ·rw [if_neg (fun hm=>hl (hiff.1 hm)),if_neg hl]
 have h2:restC T b ((buildN T a b 0 cols).map (·.j))=Asg.sg b.ws.length (fun j=>if Asg.used (Asg.lp cols) a.ws.length j then 0 else dM T b j):=by
  unfold restC
  refine Asg.sg_congr fun j hj=>?_
  have hiff:((j:Int) ∈ (buildN T a b 0 cols).map (·.j))↔Asg.used (Asg.lp cols) a.ws.length j=true:=by
   rw [List.mem_map,Asg.used_iff]
   constructor
   ·rintro ⟨p,hp,he⟩
    obtain ⟨t,ht,g1,g2,rfl⟩:=(build_mem _ _ _).1 hp
    have ht':t < a.ws.length:=by rw [←h.len];exact ht
    obtain ⟨_,e1,_⟩:=hlp t ht'
    rw [pr_j] at he
    exact ⟨t,ht',by rw [e1];omega⟩
   ·rintro ⟨t,ht,he⟩
    obtain ⟨ht',e1,e2,-⟩:=hlp t ht
    refine ⟨_,(build_mem _ _ _).2 ⟨t,ht',e2,by rw [e1] at he;omega,rfl⟩,?_⟩
    rw [pr_j,←e1,he]
  by_cases hl:Asg.used (Asg.lp cols) a.ws.length j=true
  ·rw [if_pos (hiff.2 hl),if_pos hl]
  ·rw [if_neg (fun hm=>hl (hiff.1 hm)),if_neg hl]
 have h3:((buildN T a b 0 cols).map (·.c)).sum=Asg.sg a.ws.length (fun r=>if Asg.lp cols r < b.ws.length then cM T a b r (Asg.lp cols r) else 0):=by
  rw [build_sum,h.len]
  refine Asg.sg_congr fun r hr=>?_
  obtain ⟨hr',e1,e2,e3⟩:=hlp r hr
  rw [e3,e1,Nat.zero_add]
  by_cases hl:cols[r] < b.ws.length
  ·rw [if_pos ⟨e2,hl⟩,if_pos (by omega)]
  ·rw [if_neg (fun hm=>hl hm.2),if_neg (by omega)]
 unfold costM
 show (if s=true then T.ord else 0)+_+_+_=_
 rw [h1,h2,h3]
 have h4:=h.cost
 unfold Asg.cost at h4
 have h5:Asg.sg a.ws.length (fun i=>if Asg.lp cols i < b.ws.length then cM T a b i (Asg.lp cols i) else dM T a i)=Asg.sg a.ws.length (fun r=>if Asg.lp cols r < b.ws.length then cM T a b r (Asg.lp cols r) else 0)+Asg.sg a.ws.length (fun r=>if Asg.lp cols r < b.ws.length then 0 else dM T a r):=by
  rw [←Asg.sg_add]
  refine Asg.sg_congr fun i _=>?_
  split
  ·rw [Int.add_zero]
  ·rw [Int.zero_add]
 rw [h5] at h4
 omega

theorem best_ok (h:okM T a b=true):rightM T a b (bestM T a b):=by
 have hv:validT T=true:=by unfold okM at h;rw [Bool.and_eq_true] at h;exact h.1
 have hposs:∀ P:Nat→Nat,Asg.Asg a.ws.length b.ws.length P→(∀ i,Asg.cost (cM T a b) (dM T a) (dM T b) a.ws.length b.ws.length P≤Asg.cost (cM T a b) (dM T a) (dM T b) a.ws.length b.ws.length (drop1 b.ws.length i P))→∀ i,i < a.ws.length→P i < b.ws.length→∃ p,cheapN T a.k (wd a i) b.k (wd b (P i))=some p:=fun P hP ho i hi hm=>by
  have h1:=ho i
  rw [drop1_cost hP hi hm] at h1
  have h2:=dM_bnd (a:=a) hv i
  have h3:=dM_bnd (a:=b) hv (P i)
  exact cheap_of (by omega)
 unfold bestM
 split
 ·have hc:=any_cols (c:=cM T a b) (d:=dM T a) (e:=dM T b) (n:=a.ws.length) (m:=b.ws.length)
  refine ⟨h,build_ok hc.len hc.bnd hc.asg (.inl rfl) (hposs _ hc.asg fun i=>?_) _ 0 _ _ _ rfl (by omega) (fun q hq=>by cases hq) (.inl rfl),?_⟩
  ·rw [hc.cost]
   exact any_opt.low _ (drop1_asg hc.asg)
  ·have:=build_cost (s:=true) hc
   have e:costM T a b ⟨anyK T a b+T.ord,true,buildN T a b 0 (anyL T a b)⟩=costM T a b ⟨Asg.bcost (cM T a b) (dM T a) (dM T b) a.ws.length b.ws.length,true,buildN T a b 0 (Asg.bps (cM T a b) (dM T a) (dM T b) a.ws.length b.ws.length)⟩:=rfl
   rw [e,this]
   exact Int.add_comm _ _
 ·obtain ⟨hc,hM⟩:=ord_cols (c:=cM T a b) (d:=dM T a) (e:=dM T b) (n:=a.ws.length) (m:=b.ws.length)
  refine ⟨h,build_ok hc.len hc.bnd hc.asg (.inr hM) (hposs _ hc.asg fun i=>?_) _ 0 _ _ _ rfl (by omega) (fun q hq=>by cases hq) (.inl rfl),?_⟩
  ·rw [hc.cost]
   exact ord_opt.low _ (drop1_asg hc.asg) (drop1_mono hM)
  ·have:=build_cost (s:=false) hc
   have e:costM T a b ⟨ordK T a b,false,buildN T a b 0 (ordL T a b)⟩=costM T a b ⟨Asg.GR (cM T a b) (dM T a) (dM T b) a.ws.length b.ws.length a.ws.length b.ws.length,false,buildN T a b 0 (Asg.gro (cM T a b) (dM T a) (dM T b) a.ws.length b.ws.length a.ws.length b.ws.length)⟩:=rfl
   rw [e,this]
   exact (Int.zero_add _).symm

theorem pairs_all {s:Bool}:∀ (l:List Pr) (last before:Int) (rs:List Int),pairsOk T a b s last before rs l →
  l.Pairwise (fun p q=>p.i < q.i∧p.j≠q.j∧(s=true∨p.j≤q.j))∧∀ p ∈ l,last < p.i∧p.i < a.ws.length∧0≤p.j∧p.j < b.ws.length∧p.j ∉ rs∧(s=true∨before≤p.j)∧rightP T a.k (wd a p.i.toNat) b.k (wd b p.j.toNat) p:=by
 intro l
 induction l with
 | nil=>intro _ _ _ _;exact ⟨.nil,fun p hp=>by cases hp⟩
 | cons p l ih =>
  intro last before rs h
  obtain ⟨h1,h2,h3,h4,h5,h6,h7,h8⟩:=h
  obtain ⟨g1,g2⟩:=ih _ _ _ h8
  refine ⟨List.pairwise_cons.2 ⟨fun q hq=>?_,g1⟩,fun q hq=>?_⟩
  ·obtain ⟨k1,-,-,-,k5,k6,-⟩:=g2 q hq
   exact ⟨k1,fun e=>k5 (by rw [←e];exact List.mem_cons_self ..),k6⟩
  ·rcases List.mem_cons.1 hq with rfl | hq
   ·exact ⟨h1,h2,h3,h4,h5,h6,h7⟩
   ·obtain ⟨k1,k2,k3,k4,k5,k6,k7⟩:=g2 q hq
    refine ⟨by omega,k2,k3,k4,fun hm=>k5 (List.mem_cons_of_mem _ hm),?_,k7⟩
    rcases h6 with h6 | h6
    ·exact .inl h6
    ·rcases k6 with k6 | k6
     ·exact .inl k6
     ·exact .inr (by omega)
def colOf (m:Nat) (ps:List Pr) (i:Nat):Nat:=match ps.find? (fun p=>decide (p.i=(i:Int))) with
 | some p=>p.j.toNat
 | none=>m
theorem sum_find {n:Nat} (f:Pr→Int):∀ l:List Pr,l.Pairwise (fun p q=>p.i≠q.i)→(∀ p ∈ l,0≤p.i∧p.i < n)→(l.map f).sum=Asg.sg n (fun i=>match l.find? (fun p=>decide (p.i=(i:Int))) with | some p=>f p | none=>0):=by
 intro l
 induction l with
 | nil =>
  intro _ _
  rw [List.map_nil,List.sum_nil]
  exact (Asg.sg_eq0 fun i _=>rfl).symm
 | cons p l ih =>
  intro h1 h2
  obtain ⟨g1,g2⟩:=List.pairwise_cons.1 h1
  have hp:=h2 p (List.mem_cons_self ..)
  rw [List.map_cons,List.sum_cons,ih g2 (fun q hq=>h2 q (List.mem_cons_of_mem _ hq))]
  have hk:p.i.toNat < n:=by omega
  have hnone:l.find? (fun q=>decide (q.i=((p.i.toNat:Nat):Int)))=none:=by
   rw [List.find?_eq_none]
   intro q hq
   have:=g1 q hq
   simp only [decide_eq_true_eq]
   omega
  rw [Asg.sg_upd (f:=fun i=>match (p :: l).find? (fun q=>decide (q.i=(i:Int))) with | some q=>f q | none=>0) (g:=fun i=>match l.find? (fun q=>decide (q.i=(i:Int))) with | some q=>f q | none=>0) hk (fun i hi hne=>by
   rw [List.find?_cons_of_neg (by simp only [decide_eq_true_eq];omega)])]
  rw [hnone,List.find?_cons_of_pos (by simp only [decide_eq_true_eq];omega)]
  show _=_+(f p - 0)
  omega
theorem right_cost {m:Mt} (h:rightM T a b m):(bestM T a b).c≤m.c:=by
 obtain ⟨hok,hp,hc⟩:=h
 obtain ⟨hpw,hall⟩:=pairs_all _ _ _ _ hp
 have hne:m.ps.Pairwise (fun p q=>p.i≠q.i):=hpw.imp fun h=>by have:=h.1;omega
 have hin:∀ p ∈ m.ps,0≤p.i∧p.i < a.ws.length:=fun p hp=>by have:=hall p hp;omega
 have huni:∀ p ∈ m.ps,m.ps.find? (fun q=>decide (q.i=((p.i.toNat:Nat):Int)))=some p:=fun p hp=>by
  have h0:=hin p hp
  cases hf:m.ps.find? (fun q=>decide (q.i=((p.i.toNat:Nat):Int))) with
  | none =>
   have:=List.find?_eq_none.1 hf p hp
   simp only [decide_eq_true_eq] at this
   omega
  | some q =>
   have h1:=List.mem_of_find?_eq_some hf
   have h2:=List.find?_some hf
   simp only [decide_eq_true_eq] at h2
   obtain ⟨i1,hi1,e1⟩:=List.mem_iff_getElem.1 hp
   obtain ⟨i2,hi2,e2⟩:=List.mem_iff_getElem.1 h1
   rcases Nat.lt_trichotomy i1 i2 with h | h | h
   ·have:=List.pairwise_iff_getElem.1 hne i1 i2 hi1 hi2 h
    rw [e1,e2] at this;omega
   ·subst h;rw [←e1,←e2]
   ·have:=List.pairwise_iff_getElem.1 hne i2 i1 hi2 hi1 h
    rw [e1,e2] at this;omega
 have hcol:∀ i,colOf b.ws.length m.ps i < b.ws.length→∃ p ∈ m.ps,p.i=(i:Int)∧p.j=(colOf b.ws.length m.ps i:Int)∧m.ps.find? (fun q=>decide (q.i=(i:Int)))=some p:=fun i hi=>by
  unfold colOf at hi ⊢
  cases hf:m.ps.find? (fun q=>decide (q.i=(i:Int))) with
  | none=>rw [hf] at hi;exact absurd hi (Nat.lt_irrefl _)
  | some p =>
   have h1:=List.mem_of_find?_eq_some hf
   have h2:=List.find?_some hf
   simp only [decide_eq_true_eq] at h2
   have h3:=hall p h1
   refine ⟨p,h1,h2,?_,rfl⟩
   simp only
   omega
 have hat:∀ p ∈ m.ps,colOf b.ws.length m.ps p.i.toNat=p.j.toNat:=fun p hp=>by unfold colOf;rw [huni p hp]
 have hA:Asg.Asg a.ws.length b.ws.length (colOf b.ws.length m.ps):=by
  refine ⟨fun i hi=>?_,fun i j hi hj he hm=>?_⟩
  ·rcases Nat.lt_or_ge (colOf b.ws.length m.ps i) b.ws.length with h | h
   ·omega
   ·unfold colOf at h ⊢
    cases hf:m.ps.find? (fun q=>decide (q.i=(i:Int))) with
    | none=>exact Nat.le_refl _
    | some p =>
     have h3:=hall p (List.mem_of_find?_eq_some hf)
     simp only
     omega
  ·obtain ⟨p,hp1,hp2,hp3,-⟩:=hcol i hm
   obtain ⟨q,hq1,hq2,hq3,-⟩:=hcol j (by rw [←he];exact hm)
   obtain ⟨i1,hi1,e1⟩:=List.mem_iff_getElem.1 hp1
   obtain ⟨i2,hi2,e2⟩:=List.mem_iff_getElem.1 hq1
   rcases Nat.lt_trichotomy i1 i2 with h | h | h
   ·have:=(List.pairwise_iff_getElem.1 hpw i1 i2 hi1 hi2 h).2.1
    rw [e1,e2,hp3,hq3,he] at this;exact absurd rfl this
   ·subst h;rw [e1] at e2;rw [e2] at hp2;omega
   ·have:=(List.pairwise_iff_getElem.1 hpw i2 i1 hi2 hi1 h).2.1
    rw [e1,e2,hp3,hq3,he] at this;exact absurd rfl this
 have hM:m.s=false→Asg.Mono a.ws.length b.ws.length (colOf b.ws.length m.ps):=fun hs i j hij hj hi' hj'=>by
  obtain ⟨p,hp1,hp2,hp3,-⟩:=hcol i hi'
  obtain ⟨q,hq1,hq2,hq3,-⟩:=hcol j hj'
  obtain ⟨i1,hi1,e1⟩:=List.mem_iff_getElem.1 hp1
  obtain ⟨i2,hi2,e2⟩:=List.mem_iff_getElem.1 hq1
  rcases Nat.lt_trichotomy i1 i2 with h | h | h
  ·have:=List.pairwise_iff_getElem.1 hpw i1 i2 hi1 hi2 h
   rw [e1,e2,hs] at this
   rcases this.2.2 with h9 | h9
   ·cases h9
   ·have:=this.2.1
    omega
  ·subst h;rw [e1] at e2;rw [e2] at hp2;omega
  ·have:=(List.pairwise_iff_getElem.1 hpw i2 i1 hi2 hi1 h).1
   rw [e1,e2] at this;omega
 have hcost:Asg.cost (cM T a b) (dM T a) (dM T b) a.ws.length b.ws.length (colOf b.ws.length m.ps)≤(m.ps.map (·.c)).sum+restC T a (m.ps.map (·.i))+restC T b (m.ps.map (·.j)):=by
  have h1:=sum_find (·.c) m.ps hne hin
  have h2:restC T a (m.ps.map (·.i))=Asg.sg a.ws.length (fun i=>if colOf b.ws.length m.ps i < b.ws.length then 0 else dM T a i):=by
   unfold restC
   refine Asg.sg_congr fun i hi=>?_
   have hiff:((i:Int) ∈ m.ps.map (·.i))↔colOf b.ws.length m.ps i < b.ws.length:=by
    rw [List.mem_map]
    constructor
    ·rintro ⟨p,hp1,hp2⟩
     have h3:=hat p hp1
     have h4:=hall p hp1
     have e:p.i.toNat=i:=by omega
     rw [e] at h3
     rw [h3];omega
    ·intro hl
     obtain ⟨p,hp1,hp2,-⟩:=hcol i hl
     exact ⟨p,hp1,hp2⟩
   by_cases hl:colOf b.ws.length m.ps i < b.ws.length
   ·rw [if_pos (hiff.2 hl),if_pos hl]
   ·rw [if_neg (fun hm=>hl (hiff.1 hm)),if_neg hl]
  have h3:restC T b (m.ps.map (·.j))=Asg.sg b.ws.length (fun j=>if Asg.used (colOf b.ws.length m.ps) a.ws.length j then 0 else dM T b j):=by
   unfold restC
   refine Asg.sg_congr fun j hj=>?_
   have hiff:((j:Int) ∈ m.ps.map (·.j))↔Asg.used (colOf b.ws.length m.ps) a.ws.length j=true:=by
    rw [List.mem_map,Asg.used_iff]
    constructor
    ·rintro ⟨p,hp1,hp2⟩
     have h4:=hall p hp1
     have h5:=hin p hp1
     exact ⟨p.i.toNat,by omega,by rw [hat p hp1];omega⟩
    ·rintro ⟨i,hi,he⟩
     obtain ⟨p,hp1,hp2,hp3,-⟩:=hcol i (by rw [he];exact hj)
     exact ⟨p,hp1,by rw [hp3,he]⟩
   by_cases hl:Asg.used (colOf b.ws.length m.ps) a.ws.length j=true
   ·rw [if_pos (hiff.2 hl),if_pos hl]
   ·rw [if_neg (fun hm=>hl (hiff.1 hm)),if_neg hl]
  rw [h1,h2,h3,←Asg.sg_add]
  unfold Asg.cost
  refine Int.add_le_add_right (Asg.sg_le fun i hi=>?_) _
  by_cases hl:colOf b.ws.length m.ps i < b.ws.length
  ·obtain ⟨p,hp1,hp2,hp3,hp4⟩:=hcol i hl
   rw [hp4,if_pos hl,if_pos hl,Int.add_zero]
   obtain ⟨q,hq1,hq2⟩:=right_low (hall p hp1).2.2.2.2.2.2
   have e1:p.i.toNat=i:=by omega
   have e2:p.j.toNat=colOf b.ws.length m.ps i:=by omega
   rw [e1,e2] at hq1
   rw [cM_eq,hq1]
   exact hq2
  ·rw [if_neg hl,if_neg hl]
   cases hf:m.ps.find? (fun q=>decide (q.i=(i:Int))) with
   | none=>simp only;omega
   | some p =>
    exfalso
    apply hl
    have h1:=List.mem_of_find?_eq_some hf
    have h3:=hall p h1
    unfold colOf
    rw [hf]
    simp only
    omega
 unfold costM at hc
 rw [best_c,hc]
 cases hs:m.s with
 | true =>
  have:=(any_opt (T:=T) (a:=a) (b:=b)).low _ hA
  simp only [if_true]
  omega
 | false =>
  have:=(ord_opt (T:=T) (a:=a) (b:=b)).low _ hA (hM hs)
  simp only [Bool.false_eq_true,if_false]
  omega

theorem law_cheapest {m m':Mt} {e:Int} (h:MatP T a b m e):(e≠0→e=1∧¬ rightM T a b m')∧(e=0→rightM T a b m∧(rightM T a b m'→m.c≤m'.c)):=by
 cases h with
 | arg h=>exact ⟨fun _=>⟨rfl,fun hr=>by have:=hr.1;rw [h] at this;cases this⟩,fun h=>by cases h⟩
 | some h=>exact ⟨fun h=>absurd rfl h,fun _=>⟨best_ok h,right_cost⟩⟩
end
end Go.CH.Mtc
namespace Go.CH.Mtc
open Go.CH.Scr Go.CH.Pot
section
variable {T:Tab} {k:Int} {x:Bs}
theorem letF_of (h:word k x=true):letF k x=(ltrs k (lower x)).1:=by unfold letF;rw [if_pos h]
theorem letF_flat (h:word k x=true):(letF k x).flatten=lower x:=by rw [letF_of h];exact word_join (fold_word h)
theorem letF_len (h:word k x=true):1≤(letF k x).length∧(letF k x).length≤12:=by rw [letF_of h];exact (word_iff.1 (fold_word h)).2
end
end Go.CH.Mtc
namespace Go.Proofs.YtbnnlpjpnihheaaGreatDoor
open Go.RowKit Go.CH Go.CH.Scr Go.CH.Pot Go.CH.Mtc
open Go.ChangeMaps (setBlock)

def LetB (w:World) (k:Int) (l:Bs) (e:Ending) (w':World):Prop :=
 ∃ A c,e=.returned (.slice A (letF k l).length c)∧Below w.heap.size w w'∧Vst w' A (letF k l)∧(letF k l).length≤c
theorem rletters_any (k:Int) (s:ByteArray) (w:World) (hs:s.size≤1000000) (hz:LZ w):Calls Tryz.prog 48 #[.int .i64 k,.string s] w (LetB w k (bl s)):=by
 have KF:=hide (fold_any k s w hs hz)
 have HZ:=hide hz
 clear hz
 by_cases hw:word k (bl s)=true
 ·have e1:foldN k (bl s)=(lower (bl s),0):=by unfold foldN;rw [if_pos hw]
  have e2:lettersN k (lower (bl s))=((ltrs k (lower (bl s))).1,0):=by unfold lettersN;rw [if_pos (fold_word hw)]
  have e3:letF k (bl s)=(ltrs k (lower (bl s))).1:=letF_of hw
  have KL:=hide (fun W (hz:LZ W)=>Letters_d k (bs (lower (bl s))) W (by rw [bs_size];unfold lower;rw [List.length_map,bl_len];exact hs) hz)
  simp only [bl_bs] at KL
  unfold LtrsD at KL
  simp only [e2] at KL
  unfold BelowRet at KF
  simp only [e1] at KF
  unfold LetB
  rw [e3]
  clear e1 e2 e3 hw
  go_enter Tryz.func48,Tryz.ntmps48
  go_wp2_with fail
  refine KF.out.mono ?_
  rintro e9 w1 ⟨rfl,hb⟩
  have HB:=hide hb
  have KL2:=hide (KL.out w1 (HZ.out.below hb))
  clear KF KL hb
  dsimp only
  go_wp2_with fail
  refine KL2.out.mono ?_
  rintro e9 w2 ⟨A,c,rfl,hb,hA,hc⟩
  have HB2:=hide (bel_trans HB.out hb)
  have HA:=hide hA
  have HC:=hide hc
  clear KL2 HB hb hA hc
  dsimp only
  go_wp2
  go_ret
  exact ⟨A,c,rfl,HB2.out,HA.out,HC.out⟩
 ·have e1:foldN k (bl s)=([],1):=by unfold foldN;rw [if_neg hw]
  have e3:letF k (bl s)=[]:=by unfold letF;rw [if_neg hw]
  unfold BelowRet at KF
  simp only [e1] at KF
  unfold LetB
  rw [e3]
  clear e1 e3 hw
  go_enter Tryz.func48,Tryz.ntmps48
  go_wp2_with fail
  refine KF.out.mono ?_
  rintro e9 w1 ⟨rfl,hb⟩
  have HB:=hide hb
  clear KF hb
  dsimp only
  go_wp2
  go_ret
  exact ⟨none,0,rfl,HB.out,Src.none_,Nat.le_refl _⟩
theorem rletters_bs (k:Int) (x:Bs) (w:World) (hs:x.length≤1000000) (hz:LZ w):Calls Tryz.prog 48 #[.int .i64 k,.string (bs x)] w (LetB w k x):=by
 have:=rletters_any k (bs x) w (by rw [bs_size];exact hs) hz
 rw [bl_bs] at this
 exact this
theorem fold_bs (k:Int) (x:Bs) (w:World) (hs:x.length≤1000000) (hz:LZ w):Calls Tryz.prog 23 #[.int .i64 k,.string (bs x)] w (BelowRet w (.tuple #[.string (bs (foldN k x).1),.int .i64 (foldN k x).2])):=by
 have:=fold_any k (bs x) w (by rw [bs_size];exact hs) hz
 rw [bl_bs] at this
 exact this
theorem lib_flat:∀ l:List Bs,Lib.join l []=l.flatten
 | []=>rfl
 | x :: l=>by
  rw [Lib.join_cons,List.flatten_cons]
  congr 1
  unfold Lib.joinTail
  congr 1
  exact (List.map_congr_left (fun y _=>List.nil_append y)).trans (List.map_id _)

theorem join_any {w:World} {A:Option Addr} {c:Nat} {l:List Bs} (hA:Vst w A l) (hc:l.length≤c) (hl:l.length≤1000000) (hf:l.flatten.length≤1000000000) :
  Calls Tryz.prog 49 #[.slice A l.length c,.string ⟨#[]⟩] w (BelowRet w (.string (bs l.flatten))):=by
 by_cases h0:0 < l.length
 ·obtain ⟨b,o,rfl,hat⟩:=hA.at h0
  have e1:((l.map bs).map (·.data.toList))=l:=by rw [List.map_map];exact List.map_id'' (fun x=>bl_bs x) _
  have h:=Tryz.strings_Join b o c (l.map bs) ⟨#[]⟩ w (fun j x hx=>by
   rw [List.getElem?_map] at hx
   cases hj:l[j]? with
   | none=>rw [hj] at hx;cases hx
   | some y =>
    rw [hj] at hx
    have hx:some (bs y)=some x:=hx
    injection hx with hx
    obtain ⟨hj1,hj2⟩:=List.getElem?_eq_some_iff.1 hj
    rw [hat w (Below.refl _ _) j hj1,hj2,hx]) (by have:=hat w (Below.refl _ _) 0 h0;exact World.block_lt_of_cell? _ _ this) (by rw [List.length_map];omega) (by rw [List.length_map];exact hc) (by
    rw [e1]
    show (Lib.join l []).length≤_
    rw [lib_flat];omega)
  rw [e1,List.length_map] at h
  refine h.mono ?_
  rintro e w' ⟨rfl,hb⟩
  refine ⟨?_,hb⟩
  show Ending.returned (.string ⟨(Lib.join l []).toArray⟩)=_
  rw [lib_flat]
  rfl
 ·have e:l=[]:=List.eq_nil_of_length_eq_zero (by omega)
  subst e
  refine (Tryz.strings_Join_none A c ⟨#[]⟩ w).mono ?_
  rintro e w' ⟨rfl,rfl⟩
  exact ⟨rfl,Below.refl _ _⟩

def dropV (T:Tab) (k:Int) (x:Bs):Int × Int:=if word k x && validT T then (dropC T k x,0) else (0,1)
theorem drop_hit {T:Tab} {k:Int} {x:Bs} {n:Nat} (hn:n < T.ds.length) (hb:∀ j (h:j < T.ds.length),j < n→¬ (T.ds[j].k=k∧T.ds[j].w=lower x)) (hh:T.ds[n].k=k∧T.ds[n].w=lower x):dropC T k x=T.ds[n].c:=by
 unfold dropC
 have:T.ds.find? (fun d=>decide (d.k=k) && decide (d.w=lower x))=some T.ds[n]:=by
  rw [List.find?_eq_some_iff_getElem]
  refine ⟨by simp [hh.1,hh.2],n,hn,rfl,fun j hj=>?_⟩
  have:=hb j (by omega) hj
  simp only [Bool.not_eq_true',Bool.and_eq_false_iff,decide_eq_false_iff_not]
  by_cases h1:T.ds[j].k=k
  ·exact .inr fun h2=>this ⟨h1,h2⟩
  ·exact .inl h1
 rw [this]
theorem drop_miss {T:Tab} {k:Int} {x:Bs} (hb:∀ j (h:j < T.ds.length),¬ (T.ds[j].k=k∧T.ds[j].w=lower x)):dropC T k x=T.drop:=by
 unfold dropC
 have:T.ds.find? (fun d=>decide (d.k=k) && decide (d.w=lower x))=none:=by
  rw [List.find?_eq_none]
  intro d hd
  obtain ⟨j,hj,rfl⟩:=List.mem_iff_getElem.1 hd
  have:=hb j hj
  simp only [Bool.and_eq_true,decide_eq_true_eq]
  exact this
 rw [this]
set_option maxHeartbeats 3200000 in
set_option maxRecDepth 100000 in
theorem dropping_any {w:World} {T:Tab} {a:TA} (hT:TabR w T a) (hz:LZ w) (k:Int) (x:Bs) (hx:x.length≤1000000) :
  Calls Tryz.prog 21 #[tabV T a,.int .i64 k,.string (bs x)] w (BelowRet w (.tuple #[.int .i64 (dropV T k x).1,.int .i64 (dropV T k x).2])):=by
 have h1:=run_new (Run.begin w) emp_ok (tabC T a) 25
 have HB1:=hide (show Below w.heap.size w _ from h1.mod.below (fun _ _ h=>h))
 have KF:=hide (fold_bs k x (w.alloc (.cells (tabC T a) 25)) hx (hz.below HB1.out))
 have KV:=hide (fun W (hb:Below w.heap.size w W)=>tvalid_any (hT.below hb) (hz.below hb))
 have HTC:=hide (fun W (h:Below (w.alloc (.cells (tabC T a) 25)).heap.size (w.alloc (.cells (tabC T a) 25)) W)=>(show W.cell? ⟨w.heap.size,0,none⟩=some (.slice a.A T.rs.length a.c)∧W.cell? ⟨w.heap.size,1,none⟩=some (.slice a.D T.ds.length a.d)∧W.cell? ⟨w.heap.size,2,none⟩=some (.slice a.E T.es.length a.e)∧W.cell? ⟨w.heap.size,3,none⟩=some (.int .i64 T.drop)∧W.cell? ⟨w.heap.size,4,none⟩=some (.int .i64 T.ord)∧W.cell? ⟨w.heap.size,5,none⟩=some (.int .i64 T.ini) from by
  obtain ⟨f,hf⟩:=(h1.below (star_ok cell_ok emp_ok) h).fst
  exact ⟨cell_at hf rfl,cell_at hf rfl,cell_at hf rfl,cell_at hf rfl,cell_at hf rfl,cell_at hf rfl⟩))
 have HDS:=hide hT.ds
 have HLD:=hide hT.ld
 have HHIT:=hide (fun (n:Nat) (hn:n < T.ds.length) hb hh=>drop_hit (T:=T) (k:=k) (x:=x) hn hb hh)
 have HMISS:=hide (fun hb=>drop_miss (T:=T) (k:=k) (x:=x) hb)
 clear hT hz h1 hx
 unfold tabV at KV ⊢
 unfold tabC at HB1 KF KV HTC ⊢
 generalize T.rs.length=n1 at *
 obtain ⟨n2,hn2⟩:∃ n,n=T.ds.length:=⟨_,rfl⟩
 have HN2:=hide hn2
 rw [←hn2] at HB1 KF KV HTC HLD ⊢
 clear hn2
 generalize T.es.length=n3 at *
 obtain ⟨aA,ac,aD,ad,aE,ae⟩:=a
 dsimp only at HB1 KF KV HTC HDS ⊢
 by_cases hw:word k x=true
 ·have e1:foldN k x=(lower x,0):=by unfold foldN;rw [if_pos hw]
  have HV1:=hide (show validT T=true→dropV T k x=(dropC T k x,0) from fun h=>by unfold dropV;rw [hw,h];rfl)
  have HV0:=hide (show validT T=false→dropV T k x=(0,1) from fun h=>by unfold dropV;rw [hw,h];rfl)
  rw [e1] at KF
  generalize dropV T k x=dv at *
  unfold BelowRet at KF
  clear e1 hw
  go_enter Tryz.func21,Tryz.ntmps21
  go_wp2_with fail
  refine KF.out.mono ?_
  rintro e9 w2 ⟨rfl,hb⟩
  generalize w.alloc (.cells #[.slice aA n1 ac,.slice aD n2 ad,.slice aE n3 ae,.int .i64 T.drop,.int .i64 T.ord,.int .i64 T.ini] 25)=w1 at *
  generalize hg:w.heap.size=g3 at HTC ⊢
  clear hg
  have HB2:=hide hb
  obtain ⟨t0,t1,t2,t3,t4,t5⟩:=HTC.out _ hb
  have KV2:=hide (KV.out w2 (bel_trans HB1.out hb))
  clear KF KV hb
  dsimp only
  go_wp2_with fail
  refine KV2.out.mono ?_
  rintro e9 w3 ⟨rfl,hb⟩
  have HB3:=hide (bel_trans HB2.out hb)
  clear KV2 HB2 hb t0 t1 t2 t3 t4 t5
  dsimp only
  cases hv:validT T with
  | false =>
   obtain rfl:=HV0.out hv
   have HF:=hide (bel_trans HB1.out HB3.out)
   go_wp2
   refine bodyPost_ret (results_tmp2 rfl _ _ _) rfl ?_
   exact ⟨rfl,HF.out⟩
  | true =>
   obtain rfl:=HV1.out hv
   clear hv HV0 HV1
   obtain ⟨t0,t1,t2,t3,t4,t5⟩:=HTC.out _ HB3.out
   go_wp2_with fail
   go_loopw [28] (fun i wr=>∃ n:Nat,i=.int .i64 n∧n≤n2∧(∀ j (h:j < T.ds.length),j < n→¬ (T.ds[j].k=k∧T.ds[j].w=lower x))∧Below w1.heap.size w1 wr) (fun i _=>n2 - (intOf i).toNat)
   case atStart=>exact ⟨0,rfl,Nat.zero_le _,fun j _ h=>absurd h (Nat.not_lt_zero _),HB3.out⟩
   case round =>
    clear HB3 t0 t1 t2 t3 t4 t5
    obtain ⟨n,rfl,hn,hs,hbel⟩:=hrel
    have HBE:=hide hbel
    have HS:=hide hs
    clear hbel hs
    by_cases hlt:n < n2
    ·have hnd:n < T.ds.length:=by rw [←HN2.out];exact hlt
     obtain ⟨b,o,rfl,hc⟩:=DropsR.at HDS.out (by omega)
     have hbw:=bel_trans HB1.out HBE.out
     obtain ⟨c0,c1,c2⟩:=hc _ hbw n hnd
     have hnb:(n:Int) < 1000000:=by have:=HLD.out;omega
     have HN1:=hide (show n+1≤n2 from hlt)
     have HHN:=hide (fun hh=>HHIT.out n hnd HS.out hh)
     have HSN:=hide (fun (hh:¬ (T.ds[n].k=k∧T.ds[n].w=lower x))=>(show ∀ j (h:j < T.ds.length),j < n+1→¬ (T.ds[j].k=k∧T.ds[j].w=lower x) from fun j hj hjn=>by
      by_cases e:j=n
      ·subst e;exact hh
      ·exact HS.out j hj (by omega)))
     clear hc hbw hn HS
     generalize T.ds[n]=d at *
     clear hnd
     obtain ⟨dk,dw,dc⟩:=d
     dsimp only at c0 c1 c2 HHN HSN
     go_upto_region 7 with (fail)
     have h7:=run_new (Run.begin wr) emp_ok #[.int .i64 dk,.string (bs dw),.int .i64 dc] 104
     obtain ⟨f7,hf7⟩:=h7.fst
     have d0:=cell_at (i:=0) hf7 rfl
     have d1:=cell_at (i:=1) hf7 rfl
     have d2:=cell_at (i:=2) hf7 rfl
     have HB7:=hide (bel_trans HBE.out (h7.mod.below (fun _ _ h=>h)))
     clear hf7 f7 h7 c0 c1 c2 HBE
     generalize wr.alloc (.cells #[.int .i64 dk,.string (bs dw),.int .i64 dc] 104)=w7 at *
     generalize wr.heap.size=g11 at *
     by_cases h1:dk=k
     ·have k1:(dk == k)=true:=by simp [h1]
      by_cases h2:dw=lower x
      ·have k2:((bs dw).toList == (bs (lower x)).toList)=true:=by rw [toList_beq];simp [h2]
       have HF:=hide (show BelowRet w (.tuple #[.int .i64 (dropC T k x),.int .i64 0]) (.returned (.tuple #[.int .i64 dc,.int .i64 0])) w7 from by rw [HHN.out ⟨h1,h2⟩];exact ⟨rfl,bel_trans HB1.out HB7.out⟩)
       clear h1 h2
       go_wp2
       refine bodyPost_ret (results_tmp2 rfl _ _ _) rfl ?_
       exact HF.out
      ·have k2:((bs dw).toList == (bs (lower x)).toList)=false:=by rw [toList_beq];simpa using fun h=>h2 (bs_inj h)
       have HS2:=hide (HSN.out (fun h=>h2 h.2))
       clear h1 h2
       go_wp2_with fail
       go_roundw
       case rel=>exact ⟨n+1,by go_num,HN1.out,HS2.out,HB7.out⟩
       case measure=>have:=HN1.out;simp [intOf];omega
     ·have k1:(dk == k)=false:=by simp [h1]
      have HS2:=hide (HSN.out (fun h=>h1 h.1))
      clear h1
      go_wp2_with fail
      go_roundw
      case rel=>exact ⟨n+1,by go_num,HN1.out,HS2.out,HB7.out⟩
      case measure=>have:=HN1.out;simp [intOf];omega
    ·obtain ⟨t0,t1,t2,t3,t4,t5⟩:=HTC.out _ HBE.out
     have HF:=hide (show BelowRet w (.tuple #[.int .i64 (dropC T k x),.int .i64 0]) (.returned (.tuple #[.int .i64 T.drop,.int .i64 0])) wr from by rw [HMISS.out (fun j h=>HS.out j h (by have:=HN2.out;omega))];exact ⟨rfl,bel_trans HB1.out HBE.out⟩)
     go_wp2
     refine bodyPost_ret (results_tmp2 rfl _ _ _) rfl ?_
     exact HF.out
 ·have e1:foldN k x=([],1):=by unfold foldN;rw [if_neg hw]
  have e2:dropV T k x=(0,1):=by unfold dropV;rw [Bool.not_eq_true] at hw;rw [hw];rfl
  rw [e1] at KF
  rw [e2]
  unfold BelowRet at KF
  clear e1 e2 hw
  go_enter Tryz.func21,Tryz.ntmps21
  go_wp2_with fail
  refine KF.out.mono ?_
  rintro e9 w2 ⟨rfl,hb⟩
  have HF:=hide (bel_trans HB1.out hb)
  clear KF KV hb
  dsimp only
  go_wp2
  refine bodyPost_ret (results_tmp2 rfl _ _ _) rfl ?_
  exact ⟨rfl,HF.out⟩
end Go.Proofs.YtbnnlpjpnihheaaGreatDoor
namespace Go.Proofs.YtbnnlpjpnihheaaGreatDoor
open Go.RowKit Go.CH Go.CH.Scr Go.CH.Pot Go.CH.Mtc
open Go.ChangeMaps (setBlock)

theorem wp_app1 {F0:Nat→Prop} {w0 W:World} {Y:CH.Own} {o:Oper} {a:Act} {K:Act→World→Prop} {Q:Exit→Act→World→Prop} {t e:TypeId} {z:Value} {size bytes:Nat} (S:SliceOk Tryz.prog t e z size bytes) (hby:bytes≤1000) (s x:Operand)
  (ho:o.op=.call { callee:=.builtin .append,args:=#[s,x],argTypes:=#[t,t] }) {A:Option Addr} {c n g:Nat} {xs cs:List Value} (hsv:a.eval s=.slice A n c) (hx:a.eval x=.slice (some ⟨g,0,none⟩) 1 1) (hn:n≤1000000) (hY:Y.Ok)
  (h:Run F0 w0 (star (RowO e size (.slice A n c) n xs) Y) W) (h1:cs.length=size) (h2:∀ u ∈ cs,u.oneCell'=true) (hg:∀ (j:Nat) u,cs[j]?=some u→W.cell? ⟨g,j,none⟩=some u)
  (hK:∀ A' c' w',Run F0 w0 (star (RowO e size (.slice A' (n+1) c') (n+1) (xs ++ cs)) Y) w'→K (a.put o.dst (.slice A' (n+1) c')) w'):o.wp Tryz.prog a W K Q:=by
 obtain ⟨F7,hR7,-,bk7⟩:=h.take row_ok hY
 have hsrc:Src W (some ⟨g,0,none⟩) 1 size cs:=by
  refine ⟨by rw [h1];exact (Nat.one_mul _).symm,h2,fun _=>⟨_,rfl,fun j u hu=>?_⟩⟩
  have e:(⟨g,0,none⟩:Addr).add j=⟨g,j,none⟩:=by unfold Addr.add;split <;> simp_all
  rw [e]
  exact hg j u hu
 refine wp_appX s x ho S _ 0 (v:=.slice A n c) (n:=n) (xs:=xs) hsv hR7.1 (A:=some ⟨g,0,none⟩) (m:=1) (c:=1) (news:=cs) hx hsrc (by unfold maxLen;omega) (by
  have:(n+1)*bytes≤(n+1)*1000:=Nat.mul_le_mul_left _ hby
  omega) (Nat.zero_le _) ?_
 intro v8 w8 ho8 hg8 hv8
 have S8:=bk7 _ _ (row_app hR7 ho8 hg8 hv8)
 obtain ⟨A8,c8,rfl⟩:=own_form ho8
 exact hK A8 c8 w8 S8
def vcells (v:Vr):List Value:=[.string (bs v.w),.int .i64 v.e,.int .i64 v.c]
theorem vcells_one (l:List Vr):∀ u ∈ l.flatMap vcells,u.oneCell'=true:=by
 intro u hu
 obtain ⟨x,-,hx⟩:=List.mem_flatMap.1 hu
 unfold vcells at hx
 simp only [List.mem_cons,List.not_mem_nil,or_false] at hx
 rcases hx with rfl | rfl | rfl <;> rfl
def VrsO (A:Option Addr) (c:Nat) (l:List Vr):CH.Own:=RowO 60 3 (.slice A l.length c) l.length (l.flatMap vcells)
theorem vrs_ok {A:Option Addr} {c:Nat} {l:List Vr}:(VrsO A c l).Ok:=row_ok
abbrev VrsR (w:World) (A:Option Addr) (l:List Vr):Prop:=Rst vcells 3 w A l
theorem vrs_of {w:World} {F:Nat→Prop} {A:Option Addr} {c:Nat} {l:List Vr} (h:VrsO A c l w F):VrsR w A l:=row_src h (vcells_one l)
theorem vrsOk:SliceOk Tryz.prog 54 60 (.agg #[.string ⟨#[]⟩,.int .i64 0,.int .i64 0]) 3 32:=⟨Tryz.underlying54,by kernel_rfl,by decide,by decide⟩
theorem vrs_snoc {A:Option Addr} {c n:Nat} {l:List Vr} {x:Vr} (hn:l.length=n):RowO 60 3 (.slice A (n+1) c) (n+1) (l.flatMap vcells ++ vcells x)=VrsO A c (l ++ [x]):=by
 subst hn
 unfold VrsO
 rw [List.flatMap_append,List.length_append,List.length_singleton,List.flatMap_singleton]
theorem vrs_one {W:World} {p:Vr}:Post W (fun _=>False) (VrsO (some ⟨W.heap.size,0,none⟩) 1 [p]) (W.alloc (.cells (vcells p).toArray 60)):=by
 refine row_new ⟨rfl,.inr ⟨W.heap.size,1,(vcells p).toArray,rfl,Nat.le_refl _,heap_alloc_new W _,Nat.le_refl _,by decide,rfl,rfl⟩⟩ ((Below.refl _ _).alloc (Nat.le_refl _) _)
theorem vrs_nil {w w':World} (hb:Below w.heap.size w w'):Post w (fun _=>False) (VrsO none 0 []) w':=⟨fun _=>False,row_nil _ _ _,Mod.of_below hb,fun i hi=>hi.elim⟩

def varsV (T:Tab) (k:Int) (x:Bs):List Vr × Int:=if word k x && validT T then (varsN T k x,0) else ([],1)
def VarRet (w:World) (T:Tab) (k:Int) (x:Bs) (e:Ending) (w':World):Prop :=
 ∃ A c,e=.returned (.tuple #[.slice A (varsV T k x).1.length c,.int .i64 (varsV T k x).2])∧Post w (fun _=>False) (VrsO A c (varsV T k x).1) w'

def varsI (T:Tab) (k:Int) (x:Bs) (n:Nat):List Vr:=⟨(letF k x).flatten,-1,0⟩ :: (T.es.zipIdx.take n).filterMap (endOf k (letF k x))
theorem vars_zero {T:Tab} {k:Int} {x:Bs}:varsI T k x 0=[⟨(letF k x).flatten,-1,0⟩]:=by unfold varsI;rw [List.take_zero];rfl
theorem vars_end {T:Tab} {k:Int} {x:Bs} {n:Nat} (h:T.es.length≤n):varsI T k x n=varsN T k x:=by
 unfold varsI varsN
 rw [List.take_of_length_le (by rw [List.length_zipIdx];exact h)]
theorem vars_step {T:Tab} {k:Int} {x:Bs} {n:Nat} (h:n < T.es.length):varsI T k x (n+1)=varsI T k x n ++ (match endOf k (letF k x) (T.es[n],n) with | some v=>[v] | none=>[]):=by
 unfold varsI
 have hz:n < T.es.zipIdx.length:=by rw [List.length_zipIdx];exact h
 rw [List.take_succ_eq_append_getElem hz,List.filterMap_append,List.cons_append]
 congr 2
 rw [List.getElem_zipIdx,Nat.zero_add]
 cases he:endOf k (letF k x) (T.es[n],n) with
 | none=>simp [he]
 | some v=>simp [he]
theorem vars_len {T:Tab} {k:Int} {x:Bs} {n:Nat}:(varsI T k x n).length≤n+1:=by
 unfold varsI
 rw [List.length_cons]
 have h1:=List.length_filterMap_le (endOf k (letF k x)) (T.es.zipIdx.take n)
 have h2:(T.es.zipIdx.take n).length≤n:=by rw [List.length_take];omega
 omega
theorem letF_sub {k:Int} {x:Bs} {n:Nat}:((letF k x).take n).flatten.length≤x.length:=by
 have h1:((letF k x).take n).flatten.length≤(letF k x).flatten.length:=by
  have:=List.take_append_drop n (letF k x)
  conv=>rhs;rw [←this,List.flatten_append,List.length_append]
  omega
 by_cases hw:word k x=true
 ·rw [letF_flat hw] at h1
  unfold lower at h1
  rw [List.length_map] at h1
  exact h1
 ·unfold letF at h1 ⊢
  rw [if_neg hw] at h1 ⊢
  simp
end Go.Proofs.YtbnnlpjpnihheaaGreatDoor
namespace Go.Proofs.YtbnnlpjpnihheaaGreatDoor
open Go.RowKit Go.CH Go.CH.Scr Go.CH.Pot
open Go.ChangeMaps (setBlock)
theorem run_slice_lohi {P:Program} {t e:TypeId} {z:Value} {size bytes:Nat} (S:SliceOk P t e z size bytes) (A:Option Addr) (n c k h:Nat) (kd kd2:IntKind) (l l2:Int) (hl:l=k) (hl2:l2=h) (h1:k≤h) (h2:h≤c) (w:World) :
  (Instr.slice t (.slice A n c) (some (.int kd l)) (some (.int kd2 l2)) none).run P w=.ok (.slice (cutA A c k size) (h - k) (c - k)) w:=by
 obtain ⟨ht,hi,hz,hsz⟩:=S
 obtain ⟨i,hi,hi1,hi2,hi3⟩:=info_parts hi
 subst hl hl2
 have h0:(0:Int)≤k∧(k:Int)≤h:=by omega
 simp [Instr.slice,run_underlying ht,Instr.sliceBounds,Instr.sliceBound,asIntOf,h1,h2,sizeOf,typeInfo,hi,hi2,cutA]
theorem vst_take {w:World} {A:Option Addr} {l:List Bs} (n:Nat) (h:Vst w A l):Vst w A (l.take n):=by
 have e:strB (l.take n)=(strB l).take n:=by unfold strB;rw [List.map_take]
 refine ⟨by rw [e,List.length_take,h.1,List.length_take];omega,fun u hu=>h.2.1 u (by rw [e] at hu;exact List.mem_of_mem_take hu),fun hn=>?_⟩
 obtain ⟨ad,rfl,hc⟩:=h.2.2 (by rw [List.length_take] at hn;omega)
 refine ⟨ad,rfl,fun j u hu=>hc j u ?_⟩
 rw [e,List.getElem?_take] at hu
 split at hu
 ·exact hu
 ·cases hu
set_option maxHeartbeats 3200000 in
set_option maxRecDepth 100000 in
theorem fits_any {w:World} {L F R:Option Addr} {lc fc rn rc:Nat} {l:List Bs} {r:AR} {i:Nat} (hL:Vst w L l) (hF:Vst w F r.f) (hi:i≤l.length) (hc:l.length≤lc) (hll:l.length≤1000000) (hfl:r.f.length≤1000000) :
  Calls Tryz.prog 127 #[.agg #[.slice L l.length lc,.slice R rn rc],.agg #[.int .i64 (r.ix:Nat),.int .i64 r.c,.slice F r.f.length fc,.string (bs r.t)],.int .i64 i] w (BelowRet w (.bool (fitsA l r i))):=by
 obtain ⟨ix,c,f,t⟩:=r
 dsimp only at hF hfl ⊢
 have HFA:fitsA l ⟨ix,c,f,t⟩ i=(decide (i+f.length≤l.length) && decide ((l.drop i).take f.length=f)):=rfl
 have HV:=hide HFA
 have KE:=hide (fun (W:World) (h:Below w.heap.size w W)=>equal_any (c:=lc - i) (d:=fc) (vst_take f.length (vst_cut (hL.below h) hi hc)) (hF.below h) (by rw [List.length_take];omega) (by omega))
 have h1:=run_new (Run.begin w) emp_ok #[.slice L l.length lc,.slice R rn rc] 167
 have h2:=run_new h1 (star_ok cell_ok emp_ok) #[.int .i64 (ix:Nat),.int .i64 c,.slice F f.length fc,.string (bs t)] 181
 rw [World.size_alloc] at h2
 have OK:=hide (show (star (CellO (w.heap.size+1) #[.int .i64 (ix:Nat),.int .i64 c,.slice F f.length fc,.string (bs t)] 181) (star (CellO w.heap.size #[.slice L l.length lc,.slice R rn rc] 167) emp)).Ok from star_ok cell_ok (star_ok cell_ok emp_ok))
 have HBW:=hide (fun W O (h:Run (fun _=>False) w O W)=>(show Below w.heap.size w W from h.mod.below (fun _ _ h=>h)))
 have HBR:=hide (fun W O v (h:Run (fun _=>False) w O W)=>(show BelowRet w v (.returned v) W from ⟨rfl,h.mod.below (fun _ _ h=>h)⟩))
 have HSL:i+f.length≤l.length→∀ W',(Instr.slice 26 (.slice L l.length lc) (some (.int .i64 (i:Int))) (some (.int .i64 ((i:Int)+(f.length:Int)))) none).run Tryz.prog W'=.ok (.slice (cutA L lc i 1) f.length (lc - i)) W':=fun h W'=>by
  have:=run_slice_lohi strsOk L l.length lc i (i+f.length) .i64 .i64 (i:Int) ((i:Int)+(f.length:Int)) rfl (by omega) (by omega) (by omega) W'
  rw [this]
  congr 2
  omega
 have HSL:=hide HSL
 have HLT:=hide (show i+f.length≤l.length→((l.drop i).take f.length).length=f.length from fun h=>by rw [List.length_take,List.length_drop];omega)
 have H2:=hide h2
 obtain ⟨b,hb⟩:∃ b,b=fitsA l ⟨ix,c,f,t⟩ i:=⟨_,rfl⟩
 rw [←hb] at HV ⊢
 clear h1 h2 HFA hb hL hF
 have hi2:(i:Int)≤1000000:=by omega
 generalize f.length=fl at *
 generalize l.length=ll at *
 go_enter Tryz.func127,Tryz.ntmps127
 go_wp2_with fail
 generalize (w.alloc (.cells #[.slice L ll lc,.slice R rn rc] 167)).alloc (.cells #[.int .i64 (ix:Nat),.int .i64 c,.slice F fl fc,.string (bs t)] 181)=w1 at *
 generalize w.heap.size+1=g2 at *
 generalize w.heap.size=g1 at *
 have hSS:∀ W,Run (fun _=>False) w (star (CellO g2 #[.int .i64 (ix:Nat),.int .i64 c,.slice F fl fc,.string (bs t)] 181) (star (CellO g1 #[.slice L ll lc,.slice R rn rc] 167) emp)) W→(fun W:World=>W.cell? ⟨g2,2,none⟩=some (.slice F fl fc)∧W.cell? ⟨g1,0,none⟩=some (.slice L ll lc)) W:=fun W h=>by
  obtain ⟨f1,hf1⟩:=h.fst
  obtain ⟨f2,hf2⟩:=h.drop.fst
  exact ⟨cell_at hf1 rfl,cell_at hf2 rfl⟩
 have HSS:=hide hSS
 clear hSS
 have H3:=hide (H2.out.drew OK.out)
 have hS0:=HSS.out _ H3.out
 clear H2
 have hwr:IntKind.i64.wrap ((i:Int)+(fl:Int))=(i:Int)+(fl:Int):=IntWalk.i64_in _ (by omega)
 by_cases hle:i+fl≤ll
 ·have hd1:decide ((i:Int)+(fl:Int)≤(ll:Int))=true:=decide_eq_true (by omega)
  have hsl:=HSL.out hle
  have hlt:=HLT.out hle
  have HB:=hide (show b=decide ((l.drop i).take fl=f) from by rw [HV.out,decide_eq_true hle,Bool.true_and])
  rw [hlt] at KE
  clear HSL HLT HV hlt
  refine wp_region_lex (fun W:World=>W.cell? ⟨g2,2,none⟩=some (.slice F fl fc)∧W.cell? ⟨g1,0,none⟩=some (.slice L ll lc)) (by rfl) (by kernel_rfl) hS0 ?_
  clear hS0
  generalize w1.drew=w2 at *
  (repeat ((first | refine lex_skip (by rfl) ?_ | (refine lex_read (v:=?_) (by rfl) ?_ ?_;rotate_left;(focus (intro w' hS';go_simp;(try with_reducible rfl);done))));try simp only [Act.put,List.setIfInBounds_toArray,List.set_cons_zero,List.set_cons_succ]))
  refine lex_chain rfl (by rfl) (fun K hK=>?_)
  go_wp2_with fail
  refine (KE.out _ (HBW.out _ _ H3.out)).mono ?_
  rintro e9 w3 ⟨rfl,hb⟩
  have H4:=hide (H3.out.below OK.out hb)
  clear KE H3 hb
  dsimp only
  refine hK.out _ _ (HSS.out _ H4.out) ?_
  clear hK
  (repeat ((first | refine lex_skip (by rfl) ?_ | (refine lex_read (v:=?_) (by rfl) ?_ ?_;rotate_left;(focus (intro w' hS';go_simp;(try with_reducible rfl);done))));try simp only [Act.put,List.setIfInBounds_toArray,List.set_cons_zero,List.set_cons_succ]))
  refine lex_nil ?_
  rw [←HB.out]
  go_wp2
  go_ret
  exact HBR.out _ _ _ H4.out
 ·have hd1:decide ((i:Int)+(fl:Int)≤(ll:Int))=false:=decide_eq_false (by omega)
  have HB:=hide (show b=false from by rw [HV.out,decide_eq_false hle,Bool.false_and])
  clear HSL HLT HV KE
  refine wp_region_lex (fun W:World=>W.cell? ⟨g2,2,none⟩=some (.slice F fl fc)∧W.cell? ⟨g1,0,none⟩=some (.slice L ll lc)) (by rfl) (by kernel_rfl) hS0 ?_
  clear hS0
  generalize w1.drew=w2 at *
  (repeat ((first | refine lex_skip (by rfl) ?_ | (refine lex_read (v:=?_) (by rfl) ?_ ?_;rotate_left;(focus (intro w' hS';go_simp;(try with_reducible rfl);done))));try simp only [Act.put,List.setIfInBounds_toArray,List.set_cons_zero,List.set_cons_succ]))
  refine lex_nil ?_
  go_wp2
  go_ret
  rw [HB.out]
  exact HBR.out _ _ _ H3.out
end Go.Proofs.YtbnnlpjpnihheaaGreatDoor
