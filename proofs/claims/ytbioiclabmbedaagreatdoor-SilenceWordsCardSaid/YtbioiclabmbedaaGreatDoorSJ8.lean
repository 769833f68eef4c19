/- A part of the proof: lemmas. -/
import Derived.Test.YtbioiclabmbedaaGreatDoorSJ5
import Derived.Shelf.SlSortCmp.NoneTotal
set_option maxHeartbeats 16000000
set_option maxRecDepth 100000
set_option linter.all false
namespace Go.Proofs.YtbioiclabmbedaaGreatDoor
open Go.RowKit Go.CH Go.CH.Scr Go.CH.dh
open Go.ChangeMaps (setBlock)
def PG:List Int->Int
 | []=>0
 | x::l=>if x=0 then PG l else x
variable{l:List Int}{k b c:Nat}{w:World}
theorem U5(hk:k<l.length)(h:l[k]=0)(h2:PG l=PG (l.drop k)):PG l=PG (l.drop (k+1)):=by
 rw[h2,rS hk]
 show(if l[k]=0 then _ else _)=_
 rw[if_pos h]
theorem U6(hk:k<l.length)(h:l[k]≠0)(h2:PG l=PG (l.drop k)):PG l=l[k]:=by
 rw[h2,rS hk]
 show(if l[k]=0 then _ else _)=_
 rw[if_neg h]
theorem YY{o:Nat}(hl:l.length<=1000)(hc:∀ k (hk:k<l.length),w.cell? ⟨b,o+k,none⟩=some (.int .i64 l[k])):
  Calls Tryz.prog 96 #[.slice (some ⟨b,o,none⟩) l.length c] w (fun e w'=>e=.returned (.int .i64 (PG l))/\w'=w):=by
 have HC:=au hc;obtain⟨N,hN⟩:∃ N,N=l.length:=⟨_,rfl⟩;have HN:=au hN;rw[<-hN] at hl ⊢;clear hc hN
 go_enter Tryz.func96,Tryz.ntmps96
 go_wp2;go_loopw [8] (fun i wr=>∃ k:Nat,k<=N/\i=.int .i64 k/\PG l=PG (l.drop k)/\wr=w) (fun i _=>N-(intOf i).toNat)
 case atStart=>exact⟨0,fy _,rfl,rfl,rfl⟩
 case round=>
  obtain⟨k,hk,rfl,ho,rfl⟩:=hrel;have M:=au ho;clear ho;by_cases aa:k<N
  ·have I:k<l.length:=by rw[<-HN.o];exact aa
   have ck:=HC.o k I;have HS:=au (fun h=>U5 I h M.o);have HH:=au (fun h=>U6 I h M.o);generalize l[k]=x at *
   by_cases hx:x=0
   ·subst hx;have J:=au (HS.o rfl);clear HS HH I;go_wp2
    go_roundw
    case rel=>exact⟨k+1,by omega,by go_num,J.o,trivial⟩
    case measure=>simp[intOf];omega
   ·have t1:(x==0)=false:=by simp[hx]
    have J:=au (HH.o hx);clear HS HH I hx;go_wp2;go_ret;exact⟨by rw[J.o];rfl,rfl⟩
  ·obtain rfl:k=N:=by omega
   have J:=au (show PG l=0 by have:=M.o;rw[HN.o,uB] at this;exact this);clear M;go_wp2;go_ret;exact⟨by rw[J.o];rfl,rfl⟩
theorem wG:o7 Tryz.prog 4 Value.bool:=by
 refine⟨fun a b w=>?_,fun e a w=>?_,fun a=>?_,_,Tryz.underlying4,fun a b=>.inr ?_⟩
 ·rw[Op.equal,Op.maxDepth,Qf (.bool Tryz.underlying4 a) (.bool Tryz.underlying4 b) 9999 w]
  show Result.ok (a==b) w=_
  cases a<;>cases b<;>rfl
 ·exact Dk (.bool Tryz.underlying4 a) e 9999 w
 ·unfold Instr.sameBits;cases a<;>rfl
 ·show some (a==b)=_
  cases a<;>cases b<;>rfl
variable{t:TypeId}{F:Nat->Prop}
theorem Nv{α:Type}[DecidableEq α]{P:Program}{kv:α->Value}{K E:TypeId}(H:o7 P K kv)(ht:P.underlying t=some (.map K E)){l:List (α × Value)}(h:jv kv b l w F)(k:α)(v:Value):
  ∃ w',(Instr.mapUpdate t (.map (some b)) (kv k) v).run P w=.ok () w'/\bT w F (jv kv b (mE l k v)) w'/\w'.drawn=w.drawn:=by
 obtain⟨⟨es,J,h1,h2⟩,hF⟩:=h;obtain⟨M,I,h3,h4⟩:=vY H ht h2 b k v;exact⟨_,h4 w h1,⟨F,⟨⟨M,I,kE h1,h3⟩,hF⟩,(Mod.refl _ _).setBlock _ (fun _=>(hF b).2 rfl),fun i hi=>.inl hi⟩,rfl⟩
def EO(p q:Pt):Int:=PG [Lib.compareInt p.i q.i,Lib.compareInt p.j q.j,Lib.compareBytes p.a q.a,Lib.compareInt (if p.r then 1 else 0) (if q.r then 1 else 0)]
def ye(p:Pt):Value:=.agg (sB p.i p.j (bs p.a) p.r p.h)
theorem AQ(p q:Pt)(w:World):Calls Tryz.prog 76 #[ye p,ye q] w (fun e w'=>e=.returned (.int .i64 (EO p q))/\Below w.heap.size w w'/\w.drawn<=w'.drawn):=by
 obtain⟨pi,pj,pa,pr,ph⟩:=p;obtain⟨qi,qj,qa,qr,qh⟩:=q;have h1:aI eR w (aj (av w.heap.size (sB pi pj (bs pa) pr ph) 110) bG) _:=aH (aI.begin w) aM _ 110;have h2:=aH h1 aO (sB qi qj (bs qa) qr qh) 110;rw[ik] at h2;have h3:=h2.fresh aO (su (kv:=Value.bool) _);simp only[ik] at h3;obtain⟨FM,am,-,bk⟩:=h3.take map_ok aO;obtain⟨w4,ap,M,al⟩:=Nv wG Tryz.underlying222 am true (.int .i64 1);have h4:=bk _ _ M;have aq:∀ w:World,(Instr.makeMap 222 none).run Tryz.prog w=.ok (.map (some w.heap.size)) (w.alloc (.map #[] 0)):=fun w=>by kernel_rfl
 have H4:=au h4;have ao:=au (show w.drawn<=w4.drawn by rw[al];exact fL _);have h5:=h4.drew aO;obtain⟨F5,ad⟩:=h5.fst;have ag:=yV wG Tryz.underlying222 Tryz.zeroValue3 ad pr;have ae:=yV wG Tryz.underlying222 Tryz.zeroValue3 ad qr;have af:∀ r:Bool,(oh (mE ([]:List (Bool × Value)) true (.int .i64 1)) r).getD (.int .i64 0)=.int .i64 (if r then 1 else 0):=fun r=>by cases r<;>rfl
 rw[af] at ag ae;obtain⟨F6,ab⟩:=h5.drop.fst;obtain⟨F7,aa⟩:=h5.drop.drop.fst;have q0:=ay (i:=0) ab rfl;have q1:=ay (i:=1) ab rfl;have q2:=ay (i:=2) ab rfl;have q3:=ay (i:=3) ab rfl;have p0:=ay (i:=0) aa rfl;have p1:=ay (i:=1) aa rfl;have p2:=ay (i:=2) aa rfl;have p3:=ay (i:=3) aa rfl;have HB:=au (show Below w.heap.size w w4.drew from(h5.mod).below (fun _ _ h=>h));have KA:=au (fun W=>Tryz.cmp_Compare_int pi qi W);have KB:=au (fun W=>Tryz.cmp_Compare_int pj qj W);have KC:=au (fun W=>Tryz.strings_Compare (bs pa) (bs qa) W);have KD:=au (fun W=>Tryz.cmp_Compare_int (if pr then 1 else 0) (if qr then 1 else 0) W);clear h1 h2 h3 h4 am bk M al h5 ad ab aa H4 af;unfold ye EO;simp only;obtain⟨u1,ai⟩:∃ u:Int,u=if pr=true then 1 else 0:=⟨_,rfl⟩
 obtain⟨u2,ak⟩:∃ u:Int,u=if qr=true then 1 else 0:=⟨_,rfl⟩
 rw[<-ai] at ag KD ⊢;rw[<-ak] at ae KD ⊢;clear ai ak;have I:(bs pa).data.toList=pa/\(bs qa).data.toList=qa:=⟨rfl,rfl⟩;rw[I.1,I.2] at KC;clear I;generalize Lib.compareInt pi qi=r1 at *
 generalize Lib.compareInt pj qj=r2 at *
 generalize Lib.compareBytes pa qa=r3 at *
 generalize Lib.compareInt u1 u2=r4 at *
 have KO:=au (fun (W:World) (b:Nat) (hc:∀ k (hk:k<[r1,r2,r3,r4].length),W.cell? ⟨b,0+k,none⟩=some (.int .i64 [r1,r2,r3,r4][k]))=>YY (l:=[r1,r2,r3,r4]) (o:=0) (c:=4) i7 hc)
 go_enter Tryz.func76,Tryz.ntmps76
 go_wp2_with fail;have an:=au (show w.drawn<=w4.drew.drawn from j8 ao.o (Nat.le_succ _));refine eD [4,9,14,23,24,25] [0,0,0,0,1,1,1,1,1,2,2,2,2,2,3,3,3,3,3,3,3,3,3,4,5,6,6] (fun w'=>w'=w4.drew) [fun w'=>w'=w4.drew,fun w'=>w'=w4.drew,fun w'=>w'=w4.drew,fun w'=>w'=w4.drew,fun _=>True] ⟨fun _ h=>h,fun _ h=>h,fun _ h=>h,fun _ h=>h,fun _ _=>trivial,trivial⟩ rfl eQ eQ eQ rfl ?_;generalize w4.drew=W at *
 (repeat(first|refine eT ?_|refine eU ?_))
 refine bB rfl gh (fun K J=>?_);go_wp2_with fail;refine(KA.o _).mono ?_;rintro e9 w9 ⟨rfl,h9⟩;subst w9;refine J.o _ _ rfl ?_;clear J KA
 (repeat(first|refine eT ?_|refine eU ?_))
 refine bB rfl gh (fun K J=>?_);go_wp2_with fail;refine(KB.o _).mono ?_;rintro e9 w9 ⟨rfl,h9⟩;subst w9;refine J.o _ _ rfl ?_;clear J KB
 (repeat(first|refine eT ?_|refine eU ?_))
 refine bB rfl gh (fun K J=>?_);go_wp2_with fail;refine(KC.o _).mono ?_;rintro e9 w9 ⟨rfl,h9⟩;subst w9;refine J.o _ _ rfl ?_;clear J KC
 (repeat(first|refine eT ?_|refine eU ?_))
 refine bB rfl gh (fun K J=>?_);go_wp2_with fail;refine(KD.o _).mono ?_;rintro e9 w9 ⟨rfl,h9⟩;subst w9;refine J.o _ _ rfl ?_;clear J KD
 (repeat(first|refine eT ?_|refine eU ?_))
 refine bB rfl gh (fun K J=>?_);go_wp2;refine J.o _ _ trivial ?_;clear J;have ac:∀ k (hk:k<[r1,r2,r3,r4].length),(W.alloc (.cells (ya r1 r2 r3 r4) 3)).cell? ⟨W.heap.size,0+k,none⟩=some (.int .i64 [r1,r2,r3,r4][k]):=by
  intro k hk;have hk:k<4:=hk;obtain⟨F,hF,-⟩:=dU W (ya r1 r2 r3 r4) 3
  match k,hk with
  | 0,_=>exact ay hF rfl
  | 1,_=>exact ay hF rfl
  | 2,_=>exact ay hF rfl
  | 3,_=>exact ay hF rfl
 have KQ:=au (KO.o _ _ ac);have HZ:=au (show Below w.heap.size w (W.alloc (.cells (ya r1 r2 r3 r4) 3))/\w.drawn<=(W.alloc (.cells (ya r1 r2 r3 r4) 3)).drawn from⟨HB.o.alloc HB.o.size _,an.o⟩);clear ac KO;refine bB rfl gh (fun K J=>?_);go_wp2_with fail;refine KQ.o.mono ?_;rintro e9 w9 ⟨rfl,h9⟩;subst w9;refine J.o _ _ trivial ?_;clear J KQ
 (repeat(first|refine eT ?_|refine eU ?_))
 refine iV ?_;go_wp2;go_ret;exact⟨rfl,HZ.o⟩
theorem Kh(x y:Int):(x<y/\Lib.compareInt x y=-1)\/(x=y/\Lib.compareInt x y=0)\/(y<x/\Lib.compareInt x y=1):=by
 unfold Lib.compareInt;by_cases h:x<y
 ·exact .inl ⟨h,by rw[if_pos h]⟩
 ·by_cases I:y<x
  ·exact .inr (.inr ⟨I,by rw[if_neg h,if_pos I]⟩)
  ·exact .inr (.inl ⟨by omega,by rw[if_neg h,if_neg I]⟩)
theorem Ki:∀ a b:Bs,(a<b/\Lib.compareBytes a b=-1)\/(a=b/\Lib.compareBytes a b=0)\/(b<a/\Lib.compareBytes a b=1)
 | [],[]=>.inr (.inl ⟨rfl,rfl⟩)
 | [],_::_=>.inl ⟨List.nil_lt_cons _ _,rfl⟩
 | _::_,[]=>.inr (.inr ⟨List.nil_lt_cons _ _,rfl⟩)
 | a::u,b::v=>by
  unfold Lib.compareBytes;by_cases I:a<b
  ·exact .inl ⟨List.cons_lt_cons_iff.2 (.inl I),by rw[if_pos I]⟩
  ·by_cases J:b<a
   ·exact .inr (.inr ⟨List.cons_lt_cons_iff.2 (.inl J),by rw[if_neg I,if_pos J]⟩)
   ·have e:a=b:=UInt8.le_antisymm (UInt8.not_lt.1 J) (UInt8.not_lt.1 I);subst e;rw[if_neg I,if_neg I];rcases Ki u v with⟨h,e⟩|⟨h,e⟩|⟨h,e⟩
    ·exact .inl ⟨List.cons_lt_cons_iff.2 (.inr ⟨rfl,h⟩),e⟩
    ·exact .inr (.inl ⟨by rw[h],e⟩)
    ·exact .inr (.inr ⟨List.cons_lt_cons_iff.2 (.inr ⟨rfl,h⟩),e⟩)
theorem Z3(a b c d:Int):PG [a,b,c,d]=if a=0 then(if b=0 then(if c=0 then(if d=0 then 0 else d) else c) else b) else a:=rfl
theorem acE:Lib.compareInt 0 0=0/\Lib.compareInt 1 1=0/\Lib.compareInt 0 1=-1/\Lib.compareInt 1 0=1:=by decide
theorem Vm(p q:Pt):EO p q<0↔BO p q:=by
 unfold EO BO;rw[Z3];rcases Kh p.i q.i with⟨J,e1⟩|⟨J,e1⟩|⟨J,e1⟩
 ·rw[e1];simp[J]
 ·rw[e1,if_pos rfl];rcases Kh p.j q.j with⟨h2,e2⟩|⟨h2,e2⟩|⟨h2,e2⟩
  ·rw[e2];simp[J,h2]
  ·rw[e2,if_pos rfl];rcases Ki p.a q.a with⟨M,e3⟩|⟨M,e3⟩|⟨M,e3⟩
   ·rw[e3];simp[J,h2,M]
   ·rw[e3,if_pos rfl];have aa:¬ q.a<q.a:=uW _;rw[J,h2,M];cases p.r<;>cases q.r<;>simp[acE,aa]
   ·rw[e3];have hn:¬ p.a<q.a:=fun h=>uW _ (Fz h M);have I:p.a≠q.a:=fun h=>by rw[h] at M;exact uW _ M
    simp[J,h2,hn,I]
  ·rw[e2];have hn:¬ p.j<q.j:=by omega
   have I:p.j≠q.j:=by omega
   simp[J,hn,I]
 ·rw[e1];have hn:¬ p.i<q.i:=by omega
  have I:p.i≠q.i:=by omega
  simp[hn,I]
open Go.Sort
instance:Inhabited Pt:=⟨⟨0,0,[],false,0⟩⟩
theorem xY(p q:Pt):ltOf EO p q=decide (BO p q):=by
 unfold ltOf;exact decide_eq_decide.2 (Vm p q)
theorem ZN:SWO (ltOf EO) where
 irrefl p:=by rw[xY];exact decide_eq_false (Zq p)
 trans p q r J I:=by
  rw[xY] at *
  exact decide_eq_true (zL (of_decide_eq_true J) (of_decide_eq_true I))
 ntrans p q r J I:=by
  rw[xY] at *
  have J:=of_decide_eq_false J;have I:=of_decide_eq_false I;refine decide_eq_false fun h=>?_;rcases Pn p q with h3|h3|h3
  ·exact J h3
  ·-- p and q are one state
   refine I ?_;unfold BO at h ⊢;rw[<-h3.1,<-h3.2.1,<-h3.2.2.1,<-h3.2.2.2];exact h
  ·exact I (zL h3 h)
theorem Vn(h off cap:Nat)(d:Array Pt)(w:World)(hH:HoldsK dA 5 w h off d)(I:h<w.heap.size)(M:d.size<4611686018427387904):
  Calls Tryz.prog 75 #[.slice (some ⟨h,off,none⟩) d.size cap,.func (.func 76) #[] #[]] w fun e w'=>
   e=.returned (.tuple #[])/\∃ d' n os,PermIn 0 d.size d d'/\SortedIn (ltOf EO) 0 d.size d'/\w'=sortWorldK dA 5 w h off n d' os:=by
 have eg:∀ args w,(callFunc 76 args).run Tryz.prog w=.ok (.enter 76 args) w:=enters_of Tryz.func76 eQ rfl;have J:CmpLays Tryz.prog 76 #[] dA 5 EO h off d.size w:=fun m os dk _ p q=>
  (AQ p q (sortWorldK dA 5 w h off m dk os)).mono fun _ _ ⟨h1,h2,h3⟩=>⟨h1,below_grow h2 h3⟩
 exact AnyQ.slices_SortFunc Tryz.Xw 5 Tryz.isAgg110 Tryz.sizeOf110 dA (fun _=>rfl) (fun x v hv=>by simp[dA] at hv;rcases hv with rfl|rfl|rfl|rfl|rfl<;>rfl) EO ZN 76 #[] h off cap d w eg J hH I M
def sP(A:eV)(c:Nat)(C:List Pt):CH.aU:=aV 110 5 (.slice A C.length c) C.length (C.flatMap dA)
variable{A:eV}{i:Nat}{C:List Pt}{W:World}
theorem ug:(sP A c C).Ok:=dQ
instance {A:eV} {c:Nat} {C:List Pt}:(sP A c C).Ok:=ug
theorem rV(p:Pt):(dA p).length=5:=rfl
theorem wC(C:List Pt):∀ u ∈ C.flatMap dA,u.oneCell'=true:=by
 intro u hu;obtain⟨p,-,hp⟩:=List.mem_flatMap.1 hu;simp[dA] at hp;rcases hp with rfl|rfl|rfl|rfl|rfl<;>rfl
theorem kX(C:List Pt):(C.flatMap dA).length=C.length*5:=by
 induction C with
 | nil=>rfl
 | cons p C ih=>rw[mS,gj,ih,jz,rV];omega
theorem CY(C:List Pt):(flatK dA 5 C.toArray).toList=C.flatMap dA:=by
 apply vr;intro t;by_cases I:t<C.length*5
 ·have J:t / 5<C.length:=by omega
  have h:t % 5<5:=by omega
  have h3:t / 5*5+t % 5=t:=by omega
  have h4:=jP (R:=dA) (size:=5) rV (l:=C) J h;rw[h3] at h4;rw[h4];have M:t<(flatK dA 5 C.toArray).size:=by rw[size_flatK];exact I
  rw[ub,sR M,<-getElem!_pos (flatK dA 5 C.toArray) t M,get_flatK _ _ _ _ (by simpa using I)];have h5:C.toArray[t / 5]! = C[t / 5]:=by rw[getElem!_pos C.toArray (t / 5) (by simpa using J)];simp
  rw[h5];rw[ic (by rw[rV];exact h),getElem!_pos (dA C[t / 5]) (t % 5) (by rw[rV];exact h)]
 ·rw[pP (by rw[Ft,size_flatK];simpa using I),pP (by rw[kX];omega)]
theorem wD(C:List Pt):(flatK dA 5 C.toArray).size=C.length*5:=by rw[size_flatK];simp
theorem EL(F cur:Array Value)(h:F.size<=cur.size):(putCells id 0 F cur).toList.take F.size=F.toList:=by
 apply vr;intro t;by_cases I:t<F.size
 ·rw[CN,if_pos I,ub,ub];unfold putCells;rw[Array.getElem?_mapIdx,sR eL,va,if_pos ⟨fy _,by omega⟩,sn,id,getElem!_pos F t I,sR I]
 ·rw[pP (by rw[kt];omega),pP (by simpa using I)]
theorem EM(F cur:Array Value):(putCells id 0 F cur).size=cur.size:=by unfold putCells;simp
theorem EN(w:World)(g:Nat)(f:Array Value->Array Value){cur:Array Value}{fz:Nat × Nat}(h:w.heap[g]?=some (.cells cur t fz)):(mapBlock w g f).heap[g]?=some (.cells (f cur) t fz):=by
 unfold mapBlock;simp[P1,h,onCells]
theorem zT(w:World)(g:Nat)(f:Array Value->Array Value)(h:i≠g):(mapBlock w g f).heap[i]?=w.heap[i]?:=by
 unfold mapBlock;simp[P1,px h]
theorem FX(w:World)(os:Array Obj)(h:i<w.heap.size):(grow w os).heap[i]?=w.heap[i]?:=by
 unfold grow;simp[P0,h]
theorem U8(h:sP A c C W F)(hl:C.length<4611686018427387904):
  Calls Tryz.prog 75 #[.slice A C.length c,.func (.func 76) #[] #[]] W fun e w'=>
   e=.returned (.tuple #[])/\∃ C',C'.Perm C/\C'.Pairwise (fun p q=>¬ BO q p)/\bT W F (sP A c C') w':=by
 have h0:=h;obtain⟨⟨hx,hv⟩,hF⟩:=h;rcases hv with⟨hv,hn⟩|⟨g,cap,cur,hv,-,hg,af,an,ad,al⟩
 ·obtain rfl:C=[]:=List.length_eq_zero_iff.1 hn;injection hv with e1 e2 e3
  subst e1;have:=AnyF.slices_SortFunc_none Tryz.Xw none c (.func (.func 76) #[] #[]) W;refine this.mono ?_;rintro e w' ⟨rfl,rfl⟩;exact⟨rfl,[],.refl _,.nil,F,h0,Mod.refl _ _,fun i hi=>.inl hi⟩
 ·injection hv with e1 e2 e3
  subst e1;subst e3;have aa:∀ j v,(C.flatMap dA)[j]?=some v->cur[j]?=some v:=fun j v I=>by
   rw[<-al,CN] at I;split at I
   ·rw[ub] at I;exact I
   ·cases I
  have hH:HoldsK dA 5 W g 0 C.toArray:=by
   intro j I;rw[wD] at I;have ab:(C.flatMap dA)[j]?=some (flatK dA 5 C.toArray)[j]!:=by
    rw[<-CY,ub,sR (by rw[wD];exact I),getElem!_pos (flatK dA 5 C.toArray) j (by rw[wD];exact I)]
   refine⟨?_,?_⟩
   ·rw[mB];simp only[World.cell?,hg];rw[aa j _ ab];rfl
   ·simp[World.frozen?,hg]
  have am:g<W.heap.size:=lt_of_block hg;have hs:=Vn g 0 c C.toArray W hH am (by simpa using hl);have M:C.toArray.size=C.length:=by simp
  rw[M] at hs;refine hs.mono ?_;rintro e w' ⟨rfl,d',n,os,hp,hso,rfl⟩;obtain⟨hd,-,ae⟩:=hp;have J:d'.toList.length=C.length:=by rw[Ft,hd,M]
  refine⟨rfl,d'.toList,?_,?_,?_⟩
  ·have e1:d'.extract 0 C.length=d':=by rw[<-M,<-hd,Array.extract_size]
   have e2:C.toArray.extract 0 C.length=C.toArray:=by rw[<-M,Array.extract_size]
   rw[e1,e2] at ae;simpa using ae
  ·rw[N2];intro i j hi I ag;have h1:=hso i j (fy _) ag (by rw[<-J];exact I);rw[xY] at h1;have ap:i<d'.size:=by simpa using hi
   have ao:j<d'.size:=by simpa using I
   rw[getElem!_pos d' i ap,getElem!_pos d' j ao] at h1;have:=of_decide_eq_false h1;rw[Array.getElem_toList,Array.getElem_toList];exact this
  ·have ac:(flatK dA 5 d').size=C.length*5:=by rw[size_flatK,hd,M]
   have ab:(flatK dA 5 d').toList=d'.toList.flatMap dA:=by
    have:=CY d'.toList;simpa using this
   have hb:(sortWorldK dA 5 W g 0 n d' os).heap[g]?=some (.cells (putCells id 0 (flatK dA 5 d') cur) 110 (0,0)):=by
    have h1:(putRowK dA 5 (Sort.ahead W n) g 0 d').heap[g]?=some (.cells (putCells id 0 (flatK dA 5 d') cur) 110 (0,0)):=EN _ _ _ (show(Sort.ahead W n).heap[g]?=_ from hg);unfold sortWorldK;rw[FX _ _ (lt_of_block h1),h1]
   refine⟨F,⟨⟨by rw[kX],.inr ⟨g,c,putCells id 0 (flatK dA 5 d') cur,by rw[J],fy _,hb,by rw[J];exact af,an,by rw[EM];exact ad,?_⟩⟩,fun i=>?_⟩,?_,fun i hi=>.inl hi⟩
   ·rw[J,<-ac,EL _ _ (by rw[ac,ad];exact xy _ af),ab]
   ·rw[hF i,J]
   ·refine⟨rfl,rfl,rfl,?_,fun i hi ai=>?_⟩
    ·unfold sortWorldK grow putRowK putRow mapBlock;simp[Sort.ahead]
    ·have ak:i≠g:=fun e=>ai ((hF i).2 (by rw[e];rfl));unfold sortWorldK;have h1:(putRowK dA 5 (Sort.ahead W n) g 0 d').heap[i]?=W.heap[i]?:=zT _ _ _ ak;have h2:i<(putRowK dA 5 (Sort.ahead W n) g 0 d').heap.size:=by
      unfold putRowK putRow mapBlock;simpa[Sort.ahead] using hi
     rw[FX _ _ h2,h1]
end Go.Proofs.YtbioiclabmbedaaGreatDoor
namespace Go.CH.dh
open Go.CH.Scr
def qP:Bs->Nat
 | []=>0
 | x::l=>1+x.toNat+257*qP l
theorem FY:∀ a b:Bs,qP a=qP b->a=b
 | [],[],_=>rfl
 | [],_::_,h=>by unfold qP at h;omega
 | _::_,[],h=>by unfold qP at h;omega
 | x::l,y::m,h=>by
  unfold qP at h;have h1:=x.toNat_lt;have M:=y.toNat_lt;have I:x.toNat=y.toNat:=by omega
  have J:qP l=qP m:=by omega
  rw[FY l m J,UInt8.toNat_inj.1 I]
theorem xU:∀ (n:Nat) (a:Bs),a.length<=n->qP a<257 ^ n
 | n,[],_=>Nat.pow_pos eL
 | 0,_::_,h=>by simp at h
 | n+1,x::l,h=>by
  have h1:=xU n l (by simpa using h);have h2:=x.toNat_lt;unfold qP;rw[Nat.pow_succ];omega
def Ga(s:St):Nat:=((s.i*13+s.j)*2+(if s.r then 1 else 0))*16974593+qP s.a
variable{s:St}
theorem Sb{t:St}(h1:s.j<=12/\s.a.length<=3)(h2:t.j<=12/\t.a.length<=3)(h:Ga s=Ga t):s=t:=by
 have ha:=xU 3 s.a h1.2;have hb:=xU 3 t.a h2.2;obtain⟨i,j,a,r⟩:=s;obtain⟨M,J,a',I⟩:=t;unfold Ga at h;simp only at *
 have e1:qP a=qP a':=by cases r<;>cases I<;>simp at h<;>omega
 have e2:(i*13+j)*2+(if r=true then 1 else 0)=(M*13+J)*2+(if I=true then 1 else 0):=by omega
 have e3:r=I:=by cases r<;>cases I<;>simp at e2 ⊢ <;> omega
 subst e3;have e4:i*13+j=M*13+J:=by omega
 rw[FY _ _ e1,show i=M by omega,show j=J by omega]
theorem Nr{l:List St}(hn:l.Nodup)(h:∀ s ∈ l,s.i<=12/\s.j<=12/\s.a.length<=3):l.length<=5737412434:=by
 have J:(l.map Ga).Nodup:=by
  rw[List.Nodup,List.pairwise_map];exact N5 (fun M hb I he=>I (Sb (h _ M).2 (h _ hb).2 he)) hn
 have h2:∀ x ∈ l.map Ga,x ∈ List.range 5737412434:=by
  intro x hx;obtain⟨s,hs,rfl⟩:=List.mem_map.1 hx;obtain⟨g1,g2,g3⟩:=h s hs;have g4:=xU 3 s.a g3;rw[qt];unfold Ga;split<;>omega
 have h3:=Nx J h2
 rwa [fY,uv] at h3
end Go.CH.dh
namespace Go.Proofs.YtbioiclabmbedaaGreatDoor
open Go.RowKit Go.CH Go.CH.Scr Go.CH.dh
open Go.ChangeMaps (setBlock)
theorem Sc{W:Wd}{L:List (St × Int)}(I:Kn W L)(ht:W.qd)(hl:W.l.length<=12)(hm:W.m.length<=12)(M:∀ p ∈ L,Bw W gC p.1):L.length<=5737412434:=by
 have:=Nr I.nd (fun s hs=>by
  obtain⟨v,h⟩:=mem_keys.1 hs;have J:=I.ok _ h;have h2:=zN ht (M _ h)
  exact⟨j8 J.1 hl,j8 J.2.1 hm,h2.1⟩)
 unfold gF at this
 rwa [fY] at this
def j5(r b:Nat)(es:Array MapEntry)(clock:Nat)(left:List MapEntry):CH.aU:=fun w F=>zY w r b es clock left/\∀ i,F i↔i=r
variable{b clock:Nat}{es:Array MapEntry}{F0:Nat->Prop}{w0 w:World}{X:CH.aU}
theorem xV{r:Nat}{left:List MapEntry}:(j5 r b es clock left).Ok:=by
 refine⟨fun h i hi=>?_,fun h hk=>⟨?_,h.2⟩⟩
 ·rw[(h.2 i).1 hi];obtain⟨seen,h1,-⟩:=h.1;exact lt_of_block h1
 ·obtain⟨seen,h1,h2⟩:=h.1;exact⟨seen,(hk r ((h.2 r).2 rfl)).trans h1,h2⟩
instance {r b:Nat} {es:Array MapEntry} {clock:Nat} {left:List MapEntry}:(j5 r b es clock left).Ok:=xV
theorem J9(w:World){I:Nat}(h:zY (w.alloc (.mapIter (some b) I #[] I)) w.heap.size b es I es.toList):
  bT w eR (j5 w.heap.size b es I es.toList) (w.alloc (.mapIter (some b) I #[] I)):=
 ⟨fun i=>i=w.heap.size,⟨h,fun i=>qT⟩,Mod.of_below ((fe _ _).alloc (fL _) _),fun i hi=>.inr (by subst hi;simp)⟩
theorem xW{α:Type}[DecidableEq α]{kv:α->Value}{l:List (α × Value)}(h:aI F0 w0 (aj (jv kv b l) X) w):
  ∃ es I,EP kv es I l/\aI F0 w0 (aj (aX b (.map es I)) X) w:=by
 obtain⟨⟨F,⟨F1,J,⟨⟨es,I,h1,h2⟩,h3⟩,h4,h5,M⟩,h7⟩,h8⟩:=h;exact⟨es,I,h2,⟨F,⟨F1,J,⟨h1,h3⟩,h4,h5,M⟩,h7⟩,h8⟩
def PO:Value->St
 | .agg #[.int _ i,.int _ j,.string a,.bool r]=>⟨i.toNat,j.toNat,bl a,r⟩
 | _=>gC
def Ns:Value->Int
 | .int _ v=>v
 | _=>0
def wE(e:MapEntry):St × Int:=(PO e.key,Ns e.val)
theorem Gb(s:St):PO (sO s)=s:=by
 obtain⟨i,j,a,r⟩:=s;rfl
theorem Ka{L:List (St × Int)}{es:List MapEntry}(h:es.map (fun e=>(e.key,e.val))=(L.map fun p=>(p.1,Value.int .i64 p.2)).map (fun p=>(sO p.1,p.2))):
  es.map wE=L/\∀ e ∈ es,e.key=sO (wE e).1/\e.val=.int .i64 (wE e).2:=by
 have M:es.map (fun e=>(e.key,e.val))=L.map (fun p=>(sO p.1,Value.int .i64 p.2)):=by rw[h,qu];rfl
 constructor
 ·have I:=congrArg (List.map fun (q:Value × Value)=>(PO q.1,Ns q.2)) M;simp only[qu] at I;refine Eq.trans I ?_
  conv=>rhs;rw[<-Be L]
  refine nB fun p _=>?_
  show(PO (sO p.1),Ns (.int .i64 p.2))=p
  rw[Gb];rfl
 ·intro e he;have I:(e.key,e.val) ∈ es.map (fun e=>(e.key,e.val)):=List.mem_map.2 ⟨e,he,rfl⟩;rw[M] at I;obtain⟨p,-,J⟩:=List.mem_map.1 I;injection J with h5 h6
  unfold wE;rw[<-h5,<-h6,Gb];exact⟨rfl,rfl⟩
attribute [local go_sem] nF
theorem Ys{W:Wd}{pa:PA}(hE:∀ W',Mod F0 w0 W'->xP W pa W')(hW:Ir W pa)(hg:W.good)(ht:W.qd):
  ∀ (n:Nat) (s:St) (L:List (St × Int)) (X:CH.aU) (w:World),W.iu s<n->W.ok s->s.a.length<=3->Kn W L->X.Ok->aI F0 w0 (aj (jA b L) X) w ->
  Calls Tryz.prog 74 #[PD W pa b,sO s] w (BU W s L F0 w0 b X):=by
 intro n
 induction n with
 | zero=>intro s L X w h;exact absurd h (oc _)
 | succ n ih=>
 intro s L X w hn hs ha hk hX hR;have IH:=au ih;have HE:=au hE;have HW:=au hW;have HG:=au hg;have HT:=au ht;have HN:=au hn;have HS:=au hs;have HA:=au ha;have HK:=au hk;have HX:=au hX;have h1:aI F0 w0 (aj (av w.heap.size (lV W pa b) 191) (aj (jA b L) X)) _:=aH hR aO (lV W pa b) 191;have h2:=aH h1 aO (dz s) 184;rw[ik] at h2;have H2:=au (show aI F0 w0 (FU W pa b s w.heap.size (w.heap.size+1) L X) ((w.alloc (.cells (lV W pa b) 191)).alloc (.cells (dz s) 184)) from h2);clear ih hE hW hg ht hn hs ha hk h1 h2 hR;refine(callsIn_wide (n:=8)).1 ?_;refine callsIn_of_wp_marks Tryz.func74 rfl trivial ?_ rfl;simp only[Tryz.ntmps74,pZ,jz,lL,Nat.reduceAdd,Nat.reduceSub,re,rk,ry,rq,me,pd];refine(wpIn_wide (n:=8)).2 ?_;unfold PD sO;unfold lV dz;unfold lV dz at H2;generalize a3:(w.alloc (.cells #[.slice pa.A W.rs.length pa.c,.int .i64 W.ka,.int .i64 W.kb,.slice pa.L W.l.length pa.lc,.slice pa.M W.m.length pa.mc,.int .i64 W.l.length,.int .i64 W.m.length,.string (bs []),.bool false,.map (some b)] 191)).alloc (.cells (fN s.i s.j (bs s.a) s.r) 184)=w2 at *
 iterate 12 (first|go_values|go_guarded|go_step)
 clear a3;generalize w.heap.size=I at *
 obtain⟨⟨c0,c1,c2,c3⟩,⟨d0,d1,d2,d3,d4,d5,d6,d7,d8,d9⟩,F,hF⟩:=qO H2.o;have ae:=ZG hF s;by_cases af:s ∈ gF L
 ·obtain⟨v,hv⟩:=mem_keys.1 af;have bb:v=W.fw s:=HK.o.val _ hv;subst bb;rw[Iw HK.o.nd hv] at ae;have az:(Instr.lookup 189 (.map (some b)) (.agg (fN s.i s.j (bs s.a) s.r)) true).run Tryz.prog w2=.ok (.tuple (o6 (W.fw s) true)) w2:=ae;have HF:=au (show BU W s L F0 w0 b X (.returned (.int .i64 (W.fw s))) w2 from⟨L,rfl,HK.o,Ext.refl,af,H2.o.drop.drop⟩);clear ae hF hv af;go_wp2;refine⟨_,results_tmp rfl _ _ _,?_⟩;exact HF.o
 ·rw[PE af] at ae;have az:(Instr.lookup 189 (.map (some b)) (.agg (fN s.i s.j (bs s.a) s.r)) true).run Tryz.prog w2=.ok (.tuple (o6 0 false)) w2:=ae;have ba:=au af;clear ae hF af;have ab:=fun w=>X2 s W.fin w;unfold sO dz at ab
  iterate 58 (first|go_values|go_guarded|go_step)
  go_step
  rename_i Kr ao;have H3:=au (aH H2.o (uf HX.o) (fR 1099511627776) 3);clear H2 c0 c1 c2 c3 d0 d1 d2 d3 d4 d5 d6 d7 d8 d9;generalize w2.alloc (.cells (fR 1099511627776) 3)=w3 at *
  generalize w2.heap.size=g7 at *
  have cut:∀ (w:World) (g19 g20 g21 g22 g23:Value),aI F0 w0 (aj (av g7 (fR (jU W s 0)) 3) (FU W pa b s I (I+1) L X)) w->Kr { tmps:=#[.agg #[.slice pa.A W.rs.length pa.c,.int .i64 W.ka,.int .i64 W.kb,.slice pa.L W.l.length pa.lc,.slice pa.M W.m.length pa.mc,.int .i64 W.l.length,.int .i64 W.m.length,.string (bs []),.bool false,.map (some b)],.agg (fN s.i s.j (bs s.a) s.r),.pointer (some ⟨I,0,none⟩),.pointer (some ⟨I+1,0,none⟩),.int .i64 0,.int .i64 0,.bool false,.pointer (some ⟨g7,0,none⟩),undef,undef,.tuple (o6 0 false),.pointer (some ⟨I,9,none⟩),.map (some b),.agg (fN s.i s.j (bs s.a) s.r),.tuple (o6 0 false),.int .i64 0,.bool false,.bool false,undef,g19,g20,g21,g22,g23,undef,undef,undef,undef,undef,undef,undef,undef,undef,undef,undef,undef,undef,undef,undef,undef,undef,undef],defers:=[] } w:=by
   intro w g19 g20 g21 g22 g23 hR;have HR:=au hR;refine ao _ _ ?_;clear ao hR;obtain⟨⟨c0,c1,c2,c3⟩,⟨d0,d1,d2,d3,d4,d5,d6,d7,d8,d9⟩,-⟩:=qO HR.o.drop;have KM:=au (fun w=>FQ (W:=W) (a:=pa) (s:=s) w);unfold eP sO dR dz at KM;go_wp2_with fail;refine(KM.o w).mono ?_;rintro e9 w9 ⟨b1,b2,rfl,hp⟩;have S1:=au (HR.o.fresh (aB aF (uf HX.o)) hp);clear HR KM hp c0 c1 c2 c3 d0 d1 d2 d3 d4 d5 d6 d7 d8 d9;dsimp only;go_wp2_with fail;have a9:=au (CV (W:=W) (s:=s) (pa:=pa) (b1:=b1) (b2:=b2) HS.o HW.o (j8 HA.o eL));have a4:∀ i,(lW fun L':List (St × Int)=>tu (Ug W s L i L') (aj (av g7 (fR (jU W s i)) 3) (FU W pa b s I (I+1) L' X))).Ok:=fun i=>bZ fun L'=>gJ (aB aF (uf HX.o));have aD:∀ (i:Nat) (a':Act),(lW fun L':List (St × Int)=>lW fun g:Nat=>lW fun x:Int × St=>tu (Ug W s L i L'/\(W.moves s)[i]?=some x/\a'={ tmps:=#[.agg #[.slice pa.A W.rs.length pa.c,.int .i64 W.ka,.int .i64 W.kb,.slice pa.L W.l.length pa.lc,.slice pa.M W.m.length pa.mc,.int .i64 W.l.length,.int .i64 W.m.length,.string (bs []),.bool false,.map (some b)],.agg (fN s.i s.j (bs s.a) s.r),.pointer (some ⟨I,0,none⟩),.pointer (some ⟨I+1,0,none⟩),.int .i64 0,.int .i64 0,.bool false,.pointer (some ⟨g7,0,none⟩),.int .i64 x.1,.pointer (some ⟨g,0,none⟩),.tuple (o6 0 false),.pointer (some ⟨I,9,none⟩),.map (some b),.agg (fN s.i s.j (bs s.a) s.r),.tuple (o6 0 false),.int .i64 0,.bool false,.bool false,undef,g19,g20,g21,g22,g23,.pointer (some ⟨I,0,none⟩),.agg (vh pa.A W.rs.length pa.c W.ka W.kb pa.L W.l.length pa.lc pa.M W.m.length pa.mc W.l.length W.m.length (bs []) false),.agg (fN s.i s.j (bs s.a) s.r),D4 b1 b2,.int .i64 x.1,.agg (dz x.2),undef,undef,undef,undef,undef,undef,undef,undef,undef,undef,undef,undef],defers:=[] }) (aj (av g (dz x.2) 184) (aj (av g7 (fR (jU W s i)) 3) (FU W pa b s I (I+1) L' X)))).Ok:=fun i a'=>bZ fun L'=>bZ fun g=>bZ fun x=>gJ (aB aF (aB aF (uf HX.o)));have a1:aI F0 w0 (aj (Zm W pa s b1 b2) (lW fun L':List (St × Int)=>tu (Ug W s L 0 L') (aj (av g7 (fR (jU W s 0)) 3) (FU W pa b s I (I+1) L' X)))) w9:=(aI.nZ L (aI.iT (J4 HK.o) S1.o.swap)).swap;refine DR (gf:=101) (lb:=(s7 (some ⟨b1,0,none⟩) (some ⟨b2,0,none⟩))) rfl (enters_of Tryz.func101 eQ rfl) a9.o (fun _=>gP) (fun _=>rfl) HE.o _ (fun _=>wj) a4 _ aD (fun _=>FV) a1 ?_ ?_ ?_ ?_
   ·intro lo m i hi R W1 K hR hI hK;obtain⟨L',h1⟩:=hI.ex;obtain⟨ac,h2⟩:=h1.pure;have h3:=aH h2 (aB (aB aF (uf HX.o)) hR) (dz (W.moves s)[i].2) 184;have HF:=au (hK { tmps:=#[.agg #[.slice pa.A W.rs.length pa.c,.int .i64 W.ka,.int .i64 W.kb,.slice pa.L W.l.length pa.lc,.slice pa.M W.m.length pa.mc,.int .i64 W.l.length,.int .i64 W.m.length,.string (bs []),.bool false,.map (some b)],.agg (fN s.i s.j (bs s.a) s.r),.pointer (some ⟨I,0,none⟩),.pointer (some ⟨I+1,0,none⟩),.int .i64 0,.int .i64 0,.bool false,.pointer (some ⟨g7,0,none⟩),.int .i64 (W.moves s)[i].1,.pointer (some ⟨W1.heap.size,0,none⟩),.tuple (o6 0 false),.pointer (some ⟨I,9,none⟩),.map (some b),.agg (fN s.i s.j (bs s.a) s.r),.tuple (o6 0 false),.int .i64 0,.bool false,.bool false,undef,g19,g20,g21,g22,g23,.pointer (some ⟨I,0,none⟩),.agg (vh pa.A W.rs.length pa.c W.ka W.kb pa.L W.l.length pa.lc pa.M W.m.length pa.mc W.l.length W.m.length (bs []) false),.agg (fN s.i s.j (bs s.a) s.r),D4 b1 b2,.int .i64 (W.moves s)[i].1,.agg (dz (W.moves s)[i].2),undef,undef,undef,undef,undef,undef,undef,undef,undef,undef,undef,undef],defers:=[] } _ (aI.nZ L' (aI.nZ W1.heap.size (aI.nZ (W.moves s)[i] (aI.iT ⟨ac,ic hi,rfl⟩ (h3.perm (by ac_rfl)))))));clear hI h1 h2 h3 hK ac;unfold CU;generalize (W.moves s)[i]=x at *
    obtain⟨xc,⟨xi,xj,xa,xr⟩⟩:=x;unfold dz;unfold dz at HF;gi_wp2;exact HF.o
   ·intro lo m i hi a' R W1 hR hI;obtain⟨L',h1⟩:=hI.ex;obtain⟨g,h1⟩:=h1.ex;obtain⟨x,h1⟩:=h1.ex;obtain⟨⟨ac,hx,rfl⟩,h2⟩:=h1.pure;have ak:(W.moves s)[i]=x:=by rw[ic hi] at hx;injection hx
    have ad:(x.1,x.2) ∈ W.moves s:=by rw[<-ak];exact gw hi
    have an:=fM HS.o ad;have bf:=iH HG.o ad;have ie:=gV HG.o an.1;have a0:=lZ an.1;have be:=J3 HG.o HS.o i;have bc:=Pv (W:=W) (s:=s) (i:=i);have ag:(aj (av g (dz x.2) 184) (aj (av g7 (fR (jU W s i)) 3) (aj (av (I+1) (dz s) 184) (aj (av I (lV W pa b) 191) (aj X R))))).Ok:=aB aF (aB aF (aB aF (aB aF (aB HX.o hR))));have h3:=(h2.perm (by unfold FU;ac_rfl):aI F0 w0 (aj (jA b L') (aj (av g (dz x.2) 184) (aj (av g7 (fR (jU W s i)) 3) (aj (av (I+1) (dz s) 184) (aj (av I (lV W pa b) 191) (aj X R)))))) W1).drew aO;have KI:=au (IH.o x.2 L' _ W1.drew (by have:=HN.o;omega) an.1 (wB HT.o HA.o ad) ac.kn ag h3);have a6:=qO (s:=s) (gs:=I+1) (h3.perm (by unfold FU;ac_rfl):aI F0 w0 (FU W pa b s I (I+1) L' (aj (av g (dz x.2) 184) (aj (av g7 (fR (jU W s i)) 3) (aj X R)))) _);obtain⟨-,⟨d0,d1,d2,d3,d4,d5,d6,d7,d8,d9⟩,-⟩:=a6;obtain⟨y0,y1,y2,y3,-⟩:=bq (h3.drop:aI F0 w0 (aj (av g (fN x.2.i x.2.j (bs x.2.a) x.2.r) 184) _) _);obtain⟨F7,J⟩:=h3.drop.drop.fst;have e7:=ay (i:=0) J rfl;have ar:=au (FJ hi);have aE:=au (fun L'' h1 h2 h3=>J5 (L'':=L'') hi ac h1 (by rw[ak];exact h2) (by rw[ak];exact h3));rw[ak] at ar;unfold BU at KI;have bh:=au ag;have a2:=au hR;clear hI h1 h2 h3 ac hx ak ad an J ag hR hi;generalize W.fw x.2=dd at *
    generalize jU W s i=mm at *
    obtain⟨xc,⟨xi,xj,xa,xr⟩⟩:=x;unfold PD sO lV dz at KI;unfold dz;simp only at *
    refine wpIn_block ?_;refine mV [4,7] [1,1,0,0,1,1,1,2] (fun w'=>w'=W1.drew) [fun w'=>w'.cell? ⟨g7,0,none⟩=some (.int .i64 mm)] ⟨fun w h=>by rw[h];exact e7,trivial⟩ rfl (fun⟨a,w,h⟩=>h) rfl eQ eQ eQ rfl ?_;generalize W1.drew=W2 at *
    (repeat(first|refine eT ?_|refine eU ?_))
    refine bB rfl gh (fun K hK=>?_);go_wp2_with fail;refine KI.o.mono ?_;rintro e9 w9 ⟨L'',rfl,k1,k2,k3,hR9⟩;have al:=(hR9.perm (by unfold FU lV dz;ac_rfl):aI F0 w0 (aj (av g7 (fR mm) 3) (aj (FU W pa b s I (I+1) L'' X) (aj (av g (fN xi xj (bs xa) xr) 184) R))) w9);have aA:(aj (FU W pa b s I (I+1) L'' X) (aj (av g (fN xi xj (bs xa) xr) 184) R)).Ok:=aB (uf HX.o) (aB aF a2.o);obtain⟨F7,J⟩:=al.fst;have q7:=ay (i:=0) J rfl;have p7:=aN J 0;have H9:=au (aJ al aA 0 (.int .i64 (min mm (xc+dd))));have a7:=au (aE.o L'' k1 k2 k3);refine hK.o _ _ q7 ?_;clear hK KI J hR9 al k1 k2 k3 aE aA y0 y1 y2 y3 e7 d0 d1 d2 d3 d4 d5 d6 d7 d8 d9
    (repeat(first|refine eT ?_|refine eU ?_))
    refine bB rfl gh (fun K hK=>?_);go_wp2;have a5:wrap64 (xc+dd)=xc+dd:=by
     unfold never at a0;exact qk (xc+dd) eL
    rw[a5];refine hK.o _ _ trivial (iV ?_);have aa:aI F0 w0 (aj (lW fun L':List (St × Int)=>tu (Ug W s L (i+1) L') (aj (av g7 (fR (jU W s (i+1))) 3) (FU W pa b s I (I+1) L' X))) R) (w9.setCell ⟨g7,0,none⟩ (.int .i64 (min mm (xc+dd)))):=by
     refine aI.nZ L'' (aI.iT a7.o ?_);rw[ar.o];exact(H9.o.perm (by ac_rfl):aI F0 w0 (aj (av g (fN xi xj (bs xa) xr) 184) (aj (aj (av g7 (fR (min mm (xc+dd))) 3) (FU W pa b s I (I+1) L'' X)) R)) _).drop
    exact aa
   ·intro D R W1 hR hI;obtain⟨L',h1⟩:=hI.ex;obtain⟨ac,h2⟩:=h1.pure;obtain⟨k1,k2,k3,k4⟩:=Pw ac HS.o ba.o;rw[J2 HS.o] at h2;have ag:(aj (aX D (.deferred (some []))) (aj (av g7 (fR (W.fw s)) 3) (aj (av (I+1) (dz s) 184) (aj (av I (lV W pa b) 191) (aj X R))))).Ok:=aB bg (aB aF (aB aF (aB aF (aB HX.o hR))));have h3:=(h2.perm (by unfold FU;ac_rfl):aI F0 w0 (aj (jA b L') (aj (aX D (.deferred (some []))) (aj (av g7 (fR (W.fw s)) 3) (aj (av (I+1) (dz s) 184) (aj (av I (lV W pa b) 191) (aj X R)))))) W1);obtain⟨⟨c0,c1,c2,c3⟩,⟨d0,d1,d2,d3,d4,d5,d6,d7,d8,d9⟩,-⟩:=qO (h3.perm (by unfold FU;ac_rfl):aI F0 w0 (FU W pa b s I (I+1) L' (aj (aX D (.deferred (some []))) (aj (av g7 (fR (W.fw s)) 3) (aj X R)))) W1);obtain⟨F7,J⟩:=h3.drop.drop.fst;have e7:=ay (i:=0) J rfl;obtain⟨FM,ax,-,bk⟩:=h3.take iZ ag;obtain⟨w',a8,ai⟩:=ru xR Tryz.underlying189 ax s (.int .i64 (W.fw s));have h4:=bk _ _ ai;have bG:mE (L'.map fun p=>(p.1,Value.int .i64 p.2)) s (.int .i64 (W.fw s))=(L'++[(s,W.fw s)]).map fun p=>(p.1,Value.int .i64 p.2):=by
     rw[rz (by rw[qu];exact k4),kp];rfl
    rw[bG] at h4;have H4:=au (show aI F0 w0 (aj (jA b (L'++[(s,W.fw s)])) _) w' from h4);obtain⟨F8,aq⟩:=h4.drop.drop.fst;have e8:=ay (i:=0) aq rfl;obtain⟨FD,hD,-,aw⟩:=(H4.o.kQ).take bg (aB iZ (aB aF (aB aF (aB aF (aB HX.o hR)))));have HD:=au hD.1;have h5:=(aw _ _ (fK hD (.deferred none))).perm (by ac_rfl:_=aj (aj (aX D (.deferred none)) (aj (av g7 (fR (W.fw s)) 3) (aj (av (I+1) (dz s) 184) (aj (av I (lV W pa b) 191) R)))) (aj (jA b (L'++[(s,W.fw s)])) X));have HF:=au (show BU W s L F0 w0 b X (.returned (.int .i64 (W.fw s))) (w'.putObj D (.deferred none)) from⟨_,rfl,k1,k2,k3,h5.drop⟩);unfold sO dz at a8;clear hI h1 h2 h3 h4 h5 ac k1 k2 k3 k4 ag J aq ax bk ai bG H4 hD aw hR;dsimp only;go_wp2_with fail;refine⟨by simp,.inl ⟨_,_,rfl,run_takeDeferred HD.o,?_⟩⟩;refine⟨_,results_tmp rfl _ _ _,?_⟩;exact HF.o
   ·intro D c R W1 hR hI;exact hI.no.elim
  have HC:=au cut;clear cut ao;obtain⟨⟨c0,c1,c2,c3⟩,⟨d0,d1,d2,d3,d4,d5,d6,d7,d8,d9⟩,F,hF⟩:=qO H3.o.drop;obtain⟨F7,J⟩:=H3.o.fst;have e7:=ay (i:=0) J rfl;have f7:=aN J 0;by_cases aa:s=W.fin
  ·rw[decide_eq_true aa] at ab;have ap:=au (show jU W s 0=0 from by rw[uY,if_pos aa]);clear aa hF J;unfold Wd.fin at ab;simp only at ab;have am:=ab w3;clear ab
   iterate 15 (first|go_values|go_guarded|go_step)
   refine Dl rfl rfl rfl eQ am ?_;go_wp2;refine HC.o _ _ _ _ _ _ ?_;rw[ap.o];exact aJ H3.o (uf HX.o) 0 (.int .i64 0)
  ·rw[decide_eq_false aa] at ab;have ap:=au (show jU W s 0=1099511627776 from by rw[uY,if_neg aa];rfl);clear aa hF J;unfold Wd.fin at ab;simp only at ab;have am:=ab w3;clear ab
   iterate 15 (first|go_values|go_guarded|go_step)
   refine Dl rfl rfl rfl eQ am ?_;go_wp2;refine HC.o _ _ _ _ _ _ ?_;rw[ap.o];exact H3.o
def PS(w:World)(T:eW)(k:Int)(x:Bs)(k2:Int)(y:Bs)(bound:Int)(e:Ending)(w':World):Prop:=
 ∃ A c C er,e=.returned (.tuple (pC A C.length c er))/\CO T k x k2 y bound C er/\bT w eR (sP A c C) w'
theorem ZD:eO Tryz.prog 56 110 (.agg (sB 0 0 ⟨#[]⟩ false 0)) 5 48:=⟨Tryz.underlying56,by kernel_rfl,by decide,by decide⟩
variable{w' W:World}{T:eW}{k bound:Int}{A:eV}{c n i:Nat}{C:List Pt}{a:Act}{Q:Exit->Act->World->Prop}
theorem xX{k2 er:Int}{x y:Bs}(h:CO T k x k2 y bound [] er)(hb:Below w.heap.size w w'):PS w T k x k2 y bound (.returned (.tuple (pC none 0 0 er))) w':=
 ⟨none,0,[],er,rfl,h,fun _=>False,gu _ _ _,Mod.of_below hb,fun i hi=>hi.elim⟩
theorem U9{p:Pt}:aV 110 5 (.slice A (C.length+1) c) (C.length+1) (C.flatMap dA++dA p)=sP A c (C++[p]):=by
 unfold sP;rw[uu,gj,pD,vq]
theorem ZH{Y:CH.aU}{ops:Array Oper}{rest:List Oper}{o:Oper}(M:o.guard=none)(s x:Operand)(ho:o.op=.call { callee:=.builtin .append,args:=#[s,x],argTypes:=#[56,56] })(p:Pt)(hl:C.length=n)(hsv:a.eval s=.slice A n c)(hx:a.eval x=.slice (some ⟨W.heap.size,0,none⟩) 1 1)(hn:n<=5737412434)(hY:Y.Ok)(h:aI F0 w0 (aj (sP A c C) Y) W)(hK:∀ A' c' w',aI F0 w0 (aj (sP A' c' (C++[p])) Y) w'->wpList Tryz.prog ops Q rest (a.put o.dst (.slice A' (n+1) c')) w'):wpList Tryz.prog ops Q (o::rest) a (W.alloc (.cells (sB p.i p.j (bs p.a) p.r p.h) 110)):=by
 subst hl;obtain⟨F7,J,-,ac⟩:=(h.below aO ((fe _ _).alloc (fL _) (.cells (sB p.i p.j (bs p.a) p.r p.h) 110))).take ug hY;refine AB M s x ho ZD _ 0 (v:=.slice A C.length c) (n:=C.length) (xs:=C.flatMap dA) hsv J.1 (A:=some ⟨W.heap.size,0,none⟩) (m:=1) (c:=1) (news:=dA p) hx (og (cs:=(sB p.i p.j (bs p.a) p.r p.h)) (fun u hu=>wC [p] u (by simpa[dA] using hu))) (by unfold maxLen;omega) eL (fy _) ?_;intro v8 w8 I ab aa;have S8:=ac _ _ (jk J I ab aa);obtain⟨A8,c8,rfl⟩:=iy I;rw[U9] at S8;exact hK A8 c8 w8 S8
theorem Sd(bound:Int)(Dn:List (St × Int))(q:St × Int):(Dn++[q]).filterMap (rU bound)=Dn.filterMap (rU bound)++(if 0<min q.2 bound then [⟨q.1.i,q.1.j,q.1.a,q.1.r,min q.2 bound⟩] else []):=by
 rw[sS];congr 1;unfold rU;by_cases h:0<min q.2 bound
 ·simp only[List.filterMap_cons,if_pos h,List.filterMap_nil]
 ·simp only[List.filterMap_cons,if_neg h,List.filterMap_nil]
theorem Gc{left:List MapEntry}{Dn L:List (St × Int)}(hi:i<left.length)(h:(Dn++left.map wE).Perm L):((Dn++[wE left[i]])++(left.eraseIdx i).map wE).Perm L:=by
 refine List.Perm.trans ?_ h;rw[ma];refine List.Perm.append_left _ ?_;have:=(CZ hi).map wE;exact this
theorem Va{a:TA}(hT:jV w T a)(hz:LZ w)(k:Int)(x:Bs)(k2:Int)(y:Bs)(bound:Int)(hx:x.length<=1000000)(hy:y.length<=1000000):
  Calls Tryz.prog 50 #[dI T a,.int .i64 k,.string (bs x),.int .i64 k2,.string (bs y),.int .i64 bound] w (PS w T k x k2 y bound):=by
 have HT:=au hT;have HZ:=au hz;have h1:aI eR w (aj (av w.heap.size (dN T a) 25) bG) _:=aH (aI.begin w) aM (dN T a) 25;have an:=au (show Below w.heap.size w (w.alloc (.cells (dN T a) 25)) from h1.mod.below (fun _ _ h=>h));have KO:=au (U7 (hT.below an.o) (hz.below an.o) k x k2 y hx hy);have H1:=au h1;clear hT hz h1;unfold dI at KO ⊢;unfold dN at KO H1 an ⊢;unfold PK at KO
 go_enter Tryz.func50,Tryz.ntmps50
 go_wp2_with fail;refine KO.o.mono ?_;rintro e9 w1 ⟨pa,rfl,hb,hP,hS,-⟩;have af:=au (an.o.trans (hb.mono an.o.size));have HP:=au hP;have HS:=au hS;clear KO H1 an hb hP hS;unfold eP;dsimp only;obtain⟨W,hW⟩:∃ W,W=PI T k x k2 y:=⟨_,rfl⟩;rw[<-hW] at HP HS ⊢;have HW:=au hW;clear hW;cases aw:okW T k x k2 y with
 | false=>
  have HF:=au (fun W' (hb:Below w.heap.size w W')=>xX (w:=w) (w':=W') (T:=T) (k:=k) (k2:=k2) (x:=x) (y:=y) (bound:=bound) (.arg (.inl aw)) hb);have aa:=au (af.o.alloc af.o.size (.cells (dR W pa) 186));clear aw;unfold dR;unfold dR at aa;go_wp2;refine bodyPost_ret (results_tmp2 rfl _ _ _) rfl ?_;exact HF.o _ aa.o
 | true=>
  have a9:=au aw;have aD:=au (show W=bO T k x k2 y from HW.o.trans (Nq aw));have aa:=au (af.o.alloc af.o.size (.cells (dR W pa) 186));clear aw;by_cases b4:bound<0
  ·have HF:=au (fun W' (hb:Below w.heap.size w W')=>xX (w:=w) (w':=W') (T:=T) (k:=k) (k2:=k2) (x:=x) (y:=y) (bound:=bound) (.arg (.inr (.inl b4))) hb);unfold dR;unfold dR at aa;go_wp2;refine bodyPost_ret (results_tmp2 rfl _ _ _) rfl ?_;exact HF.o _ aa.o
  ·by_cases fX:100000<bound
   ·have HF:=au (fun W' (hb:Below w.heap.size w W')=>xX (w:=w) (w':=W') (T:=T) (k:=k) (k2:=k2) (x:=x) (y:=y) (bound:=bound) (.arg (.inr (.inr fX))) hb);unfold dR;unfold dR at aa;go_wp2;refine bodyPost_ret (results_tmp2 rfl _ _ _) rfl ?_;exact HF.o _ aa.o
   ·have ag:=au (show 0<=bound/\bound<=100000 from⟨by omega,by omega⟩);clear aa;have r0:=aI.begin w1;have r1:=aH r0 aM (dR W pa) 186;have r2:aI eR w1 (aj (jA (w1.heap.size+1) []) (aj (av w1.heap.size (dR W pa) 186) bG)) ((w1.alloc (.cells (dR W pa) 186)).alloc (.map #[] 0)):=by
     have:=r1.fresh aO (su (kv:=sO) (w1.alloc (.cells (dR W pa) 186)));rw[ik] at this;exact this
    have r3:=aH r2 aO (lV W pa (w1.heap.size+1)) 191;have e2:((w1.alloc (.cells (dR W pa) 186)).alloc (.map #[] 0)).heap.size=w1.heap.size+1+1:=by rw[ik,ik]
    rw[e2] at r3;have R3:=au (show aI eR w1 (aj (jA (w1.heap.size+1) []) (aj (av (w1.heap.size+1+1) (lV W pa (w1.heap.size+1)) 191) (av w1.heap.size (dR W pa) 186))) _ from r3.perm (by rw[fG];ac_rfl));have hg:W.good/\W.qd:=by rw[aD.o];exact rR (fV.1 a9.o).2.2
    have KF:=au (fun w9=>Ys (W:=W) (pa:=pa) (b:=w1.heap.size+1) (F0:=fun _=>False) (w0:=w1) (fun W' hm=>HP.o.below (hm.below (fun _ _ h=>h))) HS.o hg.1 hg.2 (W.iu gC+1) gC [] (aj (av (w1.heap.size+1+1) (lV W pa (w1.heap.size+1)) 191) (av w1.heap.size (dR W pa) 186)) w9 (JS _) oB (fy _) UY aO);have ae:=au (KF.o _ R3.o);have HG:=au hg;have b9:∀ w:World,(Instr.makeMap 189 none).run Tryz.prog w=.ok (.map (some w.heap.size)) (w.alloc (.map #[] 0)):=fun w=>by kernel_rfl
    clear r0 r1 r2 r3 e2 KF hg;unfold PD sO gC at ae;unfold dR at R3 ae ⊢;unfold lV at R3 ae;unfold dz at ae;dsimp only at ae;go_wp2_with fail;refine ae.o.mono ?_;rintro e9 w4 ⟨L',rfl,hkn,hext,J,hR⟩;clear ae R3 b9;generalize w1.heap.size+1=bm at *
    generalize bm+1=gc at *
    have R4:=au hR;have br:=au hkn;have a2:=au (show ∀ p ∈ L',Bw W gC p.1 from fun p hp=>(hext.new p hp).elim (fun h=>by cases h) id);have b0:=au (show gC ∈ gF L' from J);have ie:=gV HG.o.1 (oB (W:=W));have b5:=lZ (oB (W:=W));change Hid (aI eR w1 (aj (jA bm L') (aj (av gc #[.slice pa.A W.rs.length pa.c,.int .i64 W.ka,.int .i64 W.kb,.slice pa.L W.l.length pa.lc,.slice pa.M W.m.length pa.mc,.int .i64 W.l.length,.int .i64 W.m.length,.string (bs []),.bool false,.map (some bm)] 191) (av w1.heap.size (vh pa.A W.rs.length pa.c W.ka W.kb pa.L W.l.length pa.lc pa.M W.m.length pa.mc W.l.length W.m.length (bs []) false) 186))) w4) at R4;have am:W.fw { i:=0,j:=0,a:=[],r:=false }=W.fw gC:=rfl;simp only[am];clear hR hkn hext J am;obtain⟨dd,am⟩:∃ d,d=W.fw gC:=⟨_,rfl⟩;rw[<-am] at ie b5 ⊢;have bf:=au am;clear am;by_cases b7:dd<bound
    ·have HF:=au (fun W' (hb:Below w.heap.size w W')=>xX (w:=w) (w':=W') (T:=T) (k:=k) (k2:=k2) (x:=x) (y:=y) (bound:=bound) (.none a9.o ag.o.1 ag.o.2 (by rw[<-aD.o,<-bf.o];exact b7)) hb);have aa:=au (af.o.trans ((R4.o.mod.below (fun _ _ h=>h)).mono af.o.size));go_wp2;refine bodyPost_ret (results_tmp2 rfl _ _ _) rfl ?_;exact HF.o _ aa.o
    ·obtain⟨es,I,ac,ao⟩:=xW R4.o;have R5:=au ao;have a5:=au ac;obtain⟨F5,bp⟩:=ao.fst;obtain⟨F6,bi⟩:=ao.drop.fst;have c9:=ay (i:=9) bi rfl;obtain⟨aE,a7⟩:=Go.CH.run_range_map (P:=Tryz.prog) Tryz.underlying189 bp.1;have bv:(aj (aX bm (.map es I)) (aj (av gc #[.slice pa.A W.rs.length pa.c,.int .i64 W.ka,.int .i64 W.kb,.slice pa.L W.l.length pa.lc,.slice pa.M W.m.length pa.mc,.int .i64 W.l.length,.int .i64 W.m.length,.string (bs []),.bool false,.map (some bm)] 191) (av w1.heap.size (vh pa.A W.rs.length pa.c W.ka W.kb pa.L W.l.length pa.lc pa.M W.m.length pa.mc W.l.length W.m.length (bs []) false) 186))).Ok:=aB bg aO;have R6:=au (ao.fresh bv (J9 w4 a7));have ar:=au (Ka ac.1);have a0:=au (Sc br.o HG.o.2 (by rw[HW.o];exact mh k x) (by rw[HW.o];exact mh k2 y) a2.o);clear R4 ac bp bi a7 ao;have R7:=au (R6.o.fresh aO (⟨fun _=>False,gu _ _ _,Mod.refl _ _,fun i hi=>.inl hi⟩:bT _ eR (sP none 0 []) _));have cd:=au (show es.toList.length=L'.length by rw[<-ar.o.1,fY]);clear R6 R5 bv;go_wp2_with fail;generalize w4.alloc (.mapIter (some bm) I #[] I)=w5 at *
     generalize w4.heap.size=gi at *
     generalize w1.heap.size=gp at *
     clear aE c9
     go_loopg [17] (es.size) (fun gk n wr=>∃ (left:List MapEntry) (Dn:List (St × Int)) (A:eV) (c:Nat),left.length=gk/\n=.slice A (Dn.filterMap (rU bound)).length c/\(Dn++left.map wE).Perm L'/\(∀ e ∈ left,e ∈ es.toList)/\aI eR w1 (aj (sP A c (Dn.filterMap (rU bound))) (aj (j5 gi bm es I left) (aj (aX bm (.map es I)) (aj (av gc #[.slice pa.A W.rs.length pa.c,.int .i64 W.ka,.int .i64 W.kb,.slice pa.L W.l.length pa.lc,.slice pa.M W.m.length pa.mc,.int .i64 W.l.length,.int .i64 W.m.length,.string (bs []),.bool false,.map (some bm)] 191) (av gp (vh pa.A W.rs.length pa.c W.ka W.kb pa.L W.l.length pa.lc pa.M W.m.length pa.mc W.l.length W.m.length (bs []) false) 186))))) wr)
     case atStart=>exact⟨es.toList,[],none,0,by simp,rfl,by rw[me,ar.o.1],fun _ h=>h,R7.o⟩
     case round=>
      clear R7;obtain⟨left,Dn,A,c,bj,rfl,ak,J,hR⟩:=hrel;obtain⟨FI,bc⟩:=hR.drop.fst;obtain⟨FB,ba⟩:=hR.drop.drop.fst;rcases Go.CH.run_next_map (P:=Tryz.prog) bc.1 ba.1 a5.o.2.2.2 a5.o.2.2.1 0 with⟨bo,ad⟩|⟨i,hi,w6,ad,a8,be,b2,a6⟩
      ·have ap:Dn.Perm L':=by rw[bo,pL,mT] at ak;exact ak
       have bb:(Dn.filterMap (rU bound)).length<=5737412434:=j8 (zd ..) (by rw[ap.length_eq];exact a0.o);obtain⟨F7,h7,-,bk⟩:=hR.take ug aO;have KS:=au (U8 h7 eL);have bz:=au bk;have al:=au (ap.filterMap (rU bound));clear ak ap bb h7 bk J bo bc ba hR bj;generalize Dn.filterMap (rU bound)=C at *
       generalize wr=w6 at *
       go_wp2_with fail;refine KS.o.mono ?_;rintro e9 w7 ⟨rfl,C',hp1,hp2,hp3⟩;have H7:=au (bz.o _ _ hp3);have b6:=au hp1.length_eq;have b8:=au (Zz (W:=W) (bound:=bound) br.o b0.o a2.o (hp1.trans al.o) hp2);clear KS bz hp1 hp2 hp3 ad;rw[<-b6.o];dsimp only;go_wp2;refine bodyPost_ret (results_tmp2 rfl _ _ _) rfl ?_;have h8:=(((aI.begin w).below aM af.o).fresh aM ((H7.o.swap.drop).post ug));refine⟨A,c,C',0,rfl,.some C' a9.o ag.o.1 ag.o.2 ?_ ?_,(h8.swap.drop).post ug⟩
       ·rw[<-aD.o,<-bf.o];omega
       ·rw[<-aD.o];exact b8.o
      ·have bn:Dn.length<=5737412434:=by
        have:=ak.length_eq;rw[gj] at this;have h9:=a0.o;omega
       have bb:(Dn.filterMap (rU bound)).length<=5737412434:=j8 (zd ..) bn;obtain⟨F7,h7,-,bk⟩:=(hR.kQ).take xV aO;have h8:=bk (j5 gi bm es I (left.eraseIdx i)) w6 ⟨F7,⟨a8,h7.2⟩,be.mono (fun j _ hj=>(h7.2 j).2 hj),fun i hi=>.inl hi⟩;have R8:=au (h8.kQ);obtain⟨ce,a4⟩:=h8.drop.drop.fst;have aq:=a6 w6 rfl a4.1;obtain⟨a1,a3⟩:=ar.o.2 _ (J _ (gw hi));rw[a1,a3] at ad aq;have al:=au (Gc hi ak);have bu:=au (fun e (he:e ∈ left.eraseIdx i)=>J e (N6 he));have bx:=au (show(left.eraseIdx i).length=left.length-1 by rw[Fl,if_pos hi]);have HI:=au hi;have ab:=au (Sd bound Dn (wE left[i]));generalize wE left[i]=q at al ab ad aq;obtain⟨⟨qi,qj,qa,qr⟩,qv⟩:=q;unfold sO dz at ad aq;dsimp only at ad aq ab;have bh:(aj (j5 gi bm es I (left.eraseIdx i)) (aj (aX bm (.map es I)) (aj (av gc #[.slice pa.A W.rs.length pa.c,.int .i64 W.ka,.int .i64 W.kb,.slice pa.L W.l.length pa.lc,.slice pa.M W.m.length pa.mc,.int .i64 W.l.length,.int .i64 W.m.length,.string (bs []),.bool false,.map (some bm)] 191) (av gp (vh pa.A W.rs.length pa.c W.ka W.kb pa.L W.l.length pa.lc pa.M W.m.length pa.mc W.l.length W.m.length (bs []) false) 186)))).Ok:=aB xV aO;have R9:=au (aH R8.o aO (fN qi qj (bs qa) qr) 184);have cb:=au bh;clear ak bn h7 bk h8 a4 a1 a3 a6 J bc ba hR a8 be b2 bh R8;generalize aA:Dn.filterMap (rU bound)=C at *
       generalize Dn++[(({ i:=qi,j:=qj,a:=qa,r:=qr }:St),qv)]=D2 at al ab;by_cases bw:0<min qv bound
       ·rw[if_pos bw] at ab;obtain⟨F9,ax⟩:=R9.o.fst;have z0:=ay (i:=0) ax rfl;have z1:=ay (i:=1) ax rfl;have z2:=ay (i:=2) ax rfl;have z3:=ay (i:=3) ax rfl;have az:=au (R9.o.drop);have cc:=au aA;clear ax R9 aA;go_wp2_with (at_builtin;refine held ?_);refine lO.mk (ZH rfl (.tmp 60) (.tmp 71) rfl ⟨qi,qj,qa,qr,min qv bound⟩ rfl rfl (by rw[ik];rfl) eL cb.o az.o ?_);intro A' c' w8 b1;have ca:=au b1;have b3:C.length+1=(D2.filterMap (rU bound)).length:=by rw[ab.o,gj];rfl
        have ai:=au (show D2.filterMap (rU bound)=C++[⟨qi,qj,qa,qr,min qv bound⟩] from ab.o);rw[b3];clear b1 az b3 z0 z1 z2 z3 bb ad aq;go_wp2_with fail
        go_roundg (left.length-1)
        case measure=>have:=HI.o;omega
        case rel=>exact⟨left.eraseIdx i,D2,A',c',bx.o,rfl,al.o,bu.o,by rw[ai.o];exact ca.o⟩
       ·rw[if_neg bw] at ab;have az:=au (R9.o.drop);have cc:=au aA;have ai:=au (show D2.filterMap (rU bound)=C from by rw[ab.o,mT]);clear R9 aA;go_wp2_with fail;rw[<-ai.o]
        go_roundg (left.length-1)
        case measure=>have:=HI.o;omega
        case rel=>exact⟨left.eraseIdx i,D2,A,c,bx.o,rfl,al.o,bu.o,by rw[ai.o];exact az.o⟩
def Iy(r:Nat):Bool:=decide (r<97)||decide (122<r)
theorem ZI(c:UInt8):Iy c.toNat=!j4 c:=by
 unfold Iy j4;have h1:(97<=c)↔97<=c.toNat:=by rw[ID];rfl
 have h2:(c<=122)↔c.toNat<=122:=by rw[ID];rfl
 by_cases g1:97<=c.toNat<;>by_cases g2:c.toNat<=122
 ·simp[h1,h2,g1,g2]
 ·simp[h1,h2,g1,g2];omega
 ·simp[h1,h2,g1,g2];omega
 ·simp[h1,h2,g1,g2];omega
theorem PU(s:ByteArray):∀ (f pos:Nat),s.size<=f+pos->decide (0<=Lib.idxFuncFrom Iy true s f pos)=!((bl s).drop pos).all j4
 | 0,pos,h=>by
  have e:(bl s).drop pos=[]:=Fi (by rw[qC];omega);rw[e];rfl
 | f+1,pos,h=>by
  unfold Lib.idxFuncFrom;by_cases I:pos<s.size
  ·have M:pos<(bl s).length:=by rw[qC];exact I
   have hc:(bl s)[pos]=s[pos]:=by
    have:=P2 s pos I;rw[ic M] at this;injection this
   rw[if_pos I,rS M,C5,hc];by_cases ha:(s[pos]'I).toNat<128
   ·rw[decode_ascii s pos I ha];simp only;rw[ZI];cases J:j4 s[pos] with
    | false=>simp
    | true=>
     simp only[mj,k7,if_false,lx];exact PU s f (pos+1) eL
   ·have h1:=(Go.decode_high s pos I eL).1;have h2:Iy (Utf8.decode s pos).1=true:=by unfold Iy;simp;omega
    have h3:j4 s[pos]=false:=by
     unfold j4;have:¬ (s[pos]<=122):=by rw[ID];show ¬ (s[pos].toNat<=122);omega
     simp[this]
    rw[h2,h3];simp
  ·have e:(bl s).drop pos=[]:=Fi (by rw[qC];omega);rw[if_neg I,e];rfl
theorem ZJ(a:Bs):decide (0<=Lib.idxFunc Iy true (bs a))=!a.all j4:=by
 have:=PU (bs a) (bs a).size 0 eL;rw[xT,iQ] at this;exact this
theorem ZK(x:Nat)(w:World):Calls Tryz.prog 99 #[.int .i32 (x:Int)] w fun e w'=>e=.returned (.bool (Iy x))/\w'=w:=by
 unfold Iy;by_cases M:x<97
 ·have h:(x:Int)<97:=by omega
  rw[decide_eq_true M]
  go_enter Tryz.func99,Tryz.ntmps99
  go_wp2;go_ret;exact⟨rfl,rfl⟩
 ·have h:¬ (x:Int)<97:=by omega
  rw[decide_eq_false M];by_cases J:122<x
  ·have I:(122:Int)<(x:Int):=by omega
   rw[decide_eq_true J]
   go_enter Tryz.func99,Tryz.ntmps99
   go_wp2;go_ret;exact⟨rfl,rfl⟩
  ·have I:¬ (122:Int)<(x:Int):=by omega
   rw[decide_eq_false J]
   go_enter Tryz.func99,Tryz.ntmps99
   go_wp2;go_ret;exact⟨rfl,rfl⟩
theorem jm(a:Bs)(w:World):Calls Tryz.prog 100 #[.string (bs a),.func (.func 99) #[] #[]] w (aT w (.bool (!a.all j4))):=by
 have h:=Tryz.strings_ContainsFunc 99 #[] (enters_of Tryz.func99 eQ rfl) Iy (bs a) w (fun W x _=>(ZK x W).mono fun e w' ⟨h1,h2⟩=>⟨h1,0,h2⟩);rw[ZJ] at h;exact h
variable{K:Act->World->Prop}{t:TypeId}{v:Value}
theorem jE{P:Program}{o:Oper}{t2:TypeId}{x y:Operand}{xs ys:Array Value}(M:o.op=.binOp .neq t x y t2)(J:a.eval x=.agg xs)(hy:a.eval y=.agg ys)(hm:P.eqGuardType P.depth t=false)(h:(binOp .neq t (.agg xs) (.agg ys)).run P w=.ok v w)(I:K (a.put o.dst v) w):o.wp P a w K Q:=by
 unfold Oper.wp execOp;simp only[M,J,hy,j9,run_eqGuard_agg w .neq t x y xs ys hm,ky,h,kB];exact I
theorem ZS(a b:St)(w:World):(binOp .neq 184 (sO a) (sO b)).run Tryz.prog w=.ok (.bool (decide (a≠b))) w:=by
 have h:=aac (P:=Tryz.prog) (fs:=#[⟨"i",3,0,false, "", "customhouse/potential",0⟩,⟨"j",3,1,false, "", "customhouse/potential",8⟩,⟨"ahead",9,2,false, "", "customhouse/potential",16⟩,⟨"right",4,3,false, "", "customhouse/potential",32⟩]) Tryz.underlying184 eQ (tZ a) (tZ b) w;refine h.trans ?_;rw[show(#[(⟨"i",3,0,false, "", "customhouse/potential",0⟩:Field),⟨"j",3,1,false, "", "customhouse/potential",8⟩,⟨"ahead",9,2,false, "", "customhouse/potential",16⟩,⟨"right",4,3,false, "", "customhouse/potential",32⟩]:Array Field).toList=[⟨"i",3,0,false, "", "customhouse/potential",0⟩,⟨"j",3,1,false, "", "customhouse/potential",8⟩,⟨"ahead",9,2,false, "", "customhouse/potential",16⟩,⟨"right",4,3,false, "", "customhouse/potential",32⟩] from rfl,BR];by_cases h:a=b<;>simp[h]
theorem Sg(W:Wd)(bound:Int)(p:Pt):proper W bound p=(decide (0<=p.i)&&decide (p.i<=W.l.length)&&decide (0<=p.j)&&decide (p.j<=W.m.length)&&decide (p.a.length<=3)&&p.a.all j4&&(!p.r||decide (p.a≠[]))&&decide (p.st≠W.fin)&&decide (0<p.h)&&decide (p.h<=min bound 100000)):=rfl
theorem Nt{W:Wd}{pa:PA}{p:Pt}(w:World)(ha:p.a.length<=1000000)(hl:W.l.length<=1000000)(hm:W.m.length<=1000000):Calls Tryz.prog 77 #[eP W pa,ye p,.int .i64 bound] w (aT w (.bool (proper W bound p))):=by
 obtain⟨b,hb⟩:∃ b,b=proper W bound p:=⟨_,rfl⟩;rw[<-hb];rw[Sg] at hb;obtain⟨pi,pj,aa,pr,ph⟩:=p;have HB:=au hb;clear hb;have h1:=aH (aI.begin w) aM (dR W pa) 186;have h2:=aH h1 aO (sB pi pj (bs aa) pr ph) 110;have af:=au (h2.mod.below (fun _ _ h=>h));have h3:=aH h2 aO (fN pi pj (bs aa) pr) 184;simp only[ik] at h3;have H3:=au h3;clear h1 h2 h3;unfold eP ye dR;unfold dR at af H3;dsimp only at HB ha ⊢;by_cases hA:0<=pi
 case neg=>
  have HV:=au (show b=false from by rw[HB.o];simp[hA]);clear HB
  go_enter Tryz.func77,Tryz.ntmps77
  go_wp2;go_ret;exact aK HV.o (af.o.alloc af.o.size _)
 case pos=>
  by_cases hB:pi<=W.l.length
  case neg=>
   have HV:=au (show b=false from by rw[HB.o];simp[hA,hB]);clear HB
   go_enter Tryz.func77,Tryz.ntmps77
   go_wp2;go_ret;exact aK HV.o (af.o.alloc af.o.size _)
  case pos=>
   by_cases hC:0<=pj
   case neg=>
    have HV:=au (show b=false from by rw[HB.o];simp[hA,hB,hC]);clear HB
    go_enter Tryz.func77,Tryz.ntmps77
    go_wp2;go_ret;exact aK HV.o (af.o.alloc af.o.size _)
   case pos=>
    by_cases hD:pj<=W.m.length
    case neg=>
     have HV:=au (show b=false from by rw[HB.o];simp[hA,hB,hC,hD]);clear HB
     go_enter Tryz.func77,Tryz.ntmps77
     go_wp2;go_ret;exact aK HV.o (af.o.alloc af.o.size _)
    case pos=>
     by_cases hE:aa.length<=3
     case neg=>
      have am:¬ ((bs aa).size:Int)<=3:=by rw[cO];omega
      have HV:=au (show b=false from by rw[HB.o];simp[hE]);clear HB
      go_enter Tryz.func77,Tryz.ntmps77
      go_wp2;go_ret;exact aK HV.o (af.o.alloc af.o.size _)
     case pos=>
      have am:((bs aa).size:Int)<=3:=by rw[cO];omega
      cases ae:aa.all j4 with
      | false=>
       have HV:=au (show b=false from by rw[HB.o];simp[ae]);have KA:=au (fun W'=>jm aa W');simp only[ae,mj,nh] at KA;clear HB
       go_enter Tryz.func77,Tryz.ntmps77
       go_wp2_with fail;refine(KA.o _).mono ?_;rintro e9 w9 ⟨rfl,hb9⟩;have H4:=au (H3.o.below aO hb9);have ad:=au (H4.o.mod.below (fun _ _ h=>h));clear H3;obtain⟨F1,I⟩:=H4.o.fst;obtain⟨F2,M⟩:=H4.o.drop.fst;obtain⟨F3,J⟩:=H4.o.drop.drop.fst;have s0:=ay (i:=0) I rfl;have s1:=ay (i:=1) I rfl;have s2:=ay (i:=2) I rfl;have s3:=ay (i:=3) I rfl;have p2:=ay (i:=2) M rfl;have p3:=ay (i:=3) M rfl;have p4:=ay (i:=4) M rfl;have e5:=ay (i:=5) J rfl;have e6:=ay (i:=6) J rfl;have e7:=ay (i:=7) J rfl;have e8:=ay (i:=8) J rfl;clear I M J H4;clear KA hb9;dsimp only;go_wp2;go_ret;exact aK HV.o ad.o
      | true=>
       by_cases hG:pr=true/\aa=[]
       case pos=>
        obtain⟨rfl,rfl⟩:=hG;have ak:(bs ([]:Bs)).toList.isEmpty=true:=by rw[sk];exact dD.2 rfl
        have HV:=au (show b=false from by rw[HB.o];simp[]);have KA:=au (fun W'=>jm [] W');simp only[List.all_nil,mj] at KA;clear HB
        go_enter Tryz.func77,Tryz.ntmps77
        go_wp2_with fail;refine(KA.o _).mono ?_;rintro e9 w9 ⟨rfl,hb9⟩;have H4:=au (H3.o.below aO hb9);have ad:=au (H4.o.mod.below (fun _ _ h=>h));clear H3;obtain⟨F1,I⟩:=H4.o.fst;obtain⟨F2,M⟩:=H4.o.drop.fst;obtain⟨F3,J⟩:=H4.o.drop.drop.fst;have s0:=ay (i:=0) I rfl;have s1:=ay (i:=1) I rfl;have s2:=ay (i:=2) I rfl;have s3:=ay (i:=3) I rfl;have p2:=ay (i:=2) M rfl;have p3:=ay (i:=3) M rfl;have p4:=ay (i:=4) M rfl;have e5:=ay (i:=5) J rfl;have e6:=ay (i:=6) J rfl;have e7:=ay (i:=7) J rfl;have e8:=ay (i:=8) J rfl;clear I M J H4;clear KA hb9;dsimp only;go_wp2;go_ret;exact aK HV.o ad.o
       case neg=>
        have an:(!pr||decide (aa≠[]))=true:=by cases hp:pr<;>simp[hp] at hG ⊢;exact hG
        obtain⟨ni,rfl⟩:∃ n:Nat,pi=n:=⟨pi.toNat,by omega⟩;obtain⟨nj,rfl⟩:∃ n:Nat,pj=n:=⟨pj.toNat,by omega⟩;have ac:=fun w=>ZS ⟨ni,nj,aa,pr⟩ W.fin w;by_cases hI:(⟨ni,nj,aa,pr⟩:St)=W.fin
        case pos=>
         have ai:Pt.st ⟨ni,nj,aa,pr,ph⟩=W.fin:=hI;rw[decide_eq_false (fun h=>h hI)] at ac;unfold sO dz Wd.fin at ac;dsimp only at ac;cases pr with
         | false=>
          have HV:=au (show b=false from by rw[HB.o];simp[ai]);have KA:=au (fun W'=>jm aa W');simp only[ae,mj,nh] at KA;clear HB
          go_enter Tryz.func77,Tryz.ntmps77
          go_wp2_with fail;refine(KA.o _).mono ?_;rintro e9 w9 ⟨rfl,hb9⟩;have H4:=au (H3.o.below aO hb9);have ad:=au (H4.o.mod.below (fun _ _ h=>h));clear H3;obtain⟨F1,I⟩:=H4.o.fst;obtain⟨F2,M⟩:=H4.o.drop.fst;obtain⟨F3,J⟩:=H4.o.drop.drop.fst;have s0:=ay (i:=0) I rfl;have s1:=ay (i:=1) I rfl;have s2:=ay (i:=2) I rfl;have s3:=ay (i:=3) I rfl;have p2:=ay (i:=2) M rfl;have p3:=ay (i:=3) M rfl;have p4:=ay (i:=4) M rfl;have e5:=ay (i:=5) J rfl;have e6:=ay (i:=6) J rfl;have e7:=ay (i:=7) J rfl;have e8:=ay (i:=8) J rfl;clear I M J H4;clear KA hb9;dsimp only;have ab:=ac w9;clear ac
          iterate 42 (first|go_values|go_guarded|go_step)
          refine jE rfl rfl rfl eQ ab ?_;go_wp2;go_ret;exact aK HV.o ad.o
         | true=>
          have ak:(bs aa).toList.isEmpty=false:=by rw[pN];exact fun e=>hG ⟨rfl,dD.1 e⟩
          have ag:aa≠[]:=fun e=>hG ⟨rfl,e⟩;have HV:=au (show b=false from by rw[HB.o];simp[ai,ag]);have KA:=au (fun W'=>jm aa W');simp only[ae,mj,nh] at KA;clear HB
          go_enter Tryz.func77,Tryz.ntmps77
          go_wp2_with fail;refine(KA.o _).mono ?_;rintro e9 w9 ⟨rfl,hb9⟩;have H4:=au (H3.o.below aO hb9);have ad:=au (H4.o.mod.below (fun _ _ h=>h));clear H3;obtain⟨F1,I⟩:=H4.o.fst;obtain⟨F2,M⟩:=H4.o.drop.fst;obtain⟨F3,J⟩:=H4.o.drop.drop.fst;have s0:=ay (i:=0) I rfl;have s1:=ay (i:=1) I rfl;have s2:=ay (i:=2) I rfl;have s3:=ay (i:=3) I rfl;have p2:=ay (i:=2) M rfl;have p3:=ay (i:=3) M rfl;have p4:=ay (i:=4) M rfl;have e5:=ay (i:=5) J rfl;have e6:=ay (i:=6) J rfl;have e7:=ay (i:=7) J rfl;have e8:=ay (i:=8) J rfl;clear I M J H4;clear KA hb9;dsimp only;have ab:=ac w9;clear ac
          iterate 50 (first|go_values|go_guarded|go_step)
          refine jE rfl rfl rfl eQ ab ?_;go_wp2;go_ret;exact aK HV.o ad.o
        case neg=>
         rw[decide_eq_true hI] at ac;unfold sO dz Wd.fin at ac;dsimp only at ac;have al:(Pt.st ⟨ni,nj,aa,pr,ph⟩:St)≠W.fin:=hI;by_cases hJ:0<ph
         case neg=>
          cases pr with
          | false=>
           have HV:=au (show b=false from by rw[HB.o];simp[hJ]);have KA:=au (fun W'=>jm aa W');simp only[ae,mj,nh] at KA;clear HB
           go_enter Tryz.func77,Tryz.ntmps77
           go_wp2_with fail;refine(KA.o _).mono ?_;rintro e9 w9 ⟨rfl,hb9⟩;have H4:=au (H3.o.below aO hb9);have ad:=au (H4.o.mod.below (fun _ _ h=>h));clear H3;obtain⟨F1,I⟩:=H4.o.fst;obtain⟨F2,M⟩:=H4.o.drop.fst;obtain⟨F3,J⟩:=H4.o.drop.drop.fst;have s0:=ay (i:=0) I rfl;have s1:=ay (i:=1) I rfl;have s2:=ay (i:=2) I rfl;have s3:=ay (i:=3) I rfl;have p2:=ay (i:=2) M rfl;have p3:=ay (i:=3) M rfl;have p4:=ay (i:=4) M rfl;have e5:=ay (i:=5) J rfl;have e6:=ay (i:=6) J rfl;have e7:=ay (i:=7) J rfl;have e8:=ay (i:=8) J rfl;clear I M J H4;clear KA hb9;dsimp only;have ab:=ac w9;clear ac
           iterate 42 (first|go_values|go_guarded|go_step)
           refine jE rfl rfl rfl eQ ab ?_;go_wp2;go_ret;exact aK HV.o ad.o
          | true=>
           have ak:(bs aa).toList.isEmpty=false:=by rw[pN];exact fun e=>hG ⟨rfl,dD.1 e⟩
           have ag:aa≠[]:=fun e=>hG ⟨rfl,e⟩;have HV:=au (show b=false from by rw[HB.o];simp[hJ,ag]);have KA:=au (fun W'=>jm aa W');simp only[ae,mj,nh] at KA;clear HB
           go_enter Tryz.func77,Tryz.ntmps77
           go_wp2_with fail;refine(KA.o _).mono ?_;rintro e9 w9 ⟨rfl,hb9⟩;have H4:=au (H3.o.below aO hb9);have ad:=au (H4.o.mod.below (fun _ _ h=>h));clear H3;obtain⟨F1,I⟩:=H4.o.fst;obtain⟨F2,M⟩:=H4.o.drop.fst;obtain⟨F3,J⟩:=H4.o.drop.drop.fst;have s0:=ay (i:=0) I rfl;have s1:=ay (i:=1) I rfl;have s2:=ay (i:=2) I rfl;have s3:=ay (i:=3) I rfl;have p2:=ay (i:=2) M rfl;have p3:=ay (i:=3) M rfl;have p4:=ay (i:=4) M rfl;have e5:=ay (i:=5) J rfl;have e6:=ay (i:=6) J rfl;have e7:=ay (i:=7) J rfl;have e8:=ay (i:=8) J rfl;clear I M J H4;clear KA hb9;dsimp only;have ab:=ac w9;clear ac
           iterate 50 (first|go_values|go_guarded|go_step)
           refine jE rfl rfl rfl eQ ab ?_;go_wp2;go_ret;exact aK HV.o ad.o
         case pos=>
          by_cases hK:ph<=min bound 100000
          case neg=>
           cases pr with
           | false=>
            have HV:=au (show b=false from by rw[HB.o];simp[hK]);have KA:=au (fun W'=>jm aa W');simp only[ae,mj,nh] at KA;clear HB
            go_enter Tryz.func77,Tryz.ntmps77
            go_wp2_with fail;refine(KA.o _).mono ?_;rintro e9 w9 ⟨rfl,hb9⟩;have H4:=au (H3.o.below aO hb9);have ad:=au (H4.o.mod.below (fun _ _ h=>h));clear H3;obtain⟨F1,I⟩:=H4.o.fst;obtain⟨F2,M⟩:=H4.o.drop.fst;obtain⟨F3,J⟩:=H4.o.drop.drop.fst;have s0:=ay (i:=0) I rfl;have s1:=ay (i:=1) I rfl;have s2:=ay (i:=2) I rfl;have s3:=ay (i:=3) I rfl;have p2:=ay (i:=2) M rfl;have p3:=ay (i:=3) M rfl;have p4:=ay (i:=4) M rfl;have e5:=ay (i:=5) J rfl;have e6:=ay (i:=6) J rfl;have e7:=ay (i:=7) J rfl;have e8:=ay (i:=8) J rfl;clear I M J H4;clear KA hb9;dsimp only;have ab:=ac w9;clear ac
            iterate 42 (first|go_values|go_guarded|go_step)
            refine jE rfl rfl rfl eQ ab ?_;go_wp2;go_ret;exact aK (HV.o.trans (decide_eq_false eL).symm) ad.o
           | true=>
            have ak:(bs aa).toList.isEmpty=false:=by rw[pN];exact fun e=>hG ⟨rfl,dD.1 e⟩
            have ag:aa≠[]:=fun e=>hG ⟨rfl,e⟩;have HV:=au (show b=false from by rw[HB.o];simp[hK,ag]);have KA:=au (fun W'=>jm aa W');simp only[ae,mj,nh] at KA;clear HB
            go_enter Tryz.func77,Tryz.ntmps77
            go_wp2_with fail;refine(KA.o _).mono ?_;rintro e9 w9 ⟨rfl,hb9⟩;have H4:=au (H3.o.below aO hb9);have ad:=au (H4.o.mod.below (fun _ _ h=>h));clear H3;obtain⟨F1,I⟩:=H4.o.fst;obtain⟨F2,M⟩:=H4.o.drop.fst;obtain⟨F3,J⟩:=H4.o.drop.drop.fst;have s0:=ay (i:=0) I rfl;have s1:=ay (i:=1) I rfl;have s2:=ay (i:=2) I rfl;have s3:=ay (i:=3) I rfl;have p2:=ay (i:=2) M rfl;have p3:=ay (i:=3) M rfl;have p4:=ay (i:=4) M rfl;have e5:=ay (i:=5) J rfl;have e6:=ay (i:=6) J rfl;have e7:=ay (i:=7) J rfl;have e8:=ay (i:=8) J rfl;clear I M J H4;clear KA hb9;dsimp only;have ab:=ac w9;clear ac
            iterate 50 (first|go_values|go_guarded|go_step)
            refine jE rfl rfl rfl eQ ab ?_;go_wp2;go_ret;exact aK (HV.o.trans (decide_eq_false eL).symm) ad.o
          case pos=>
           have ai:(decide (Pt.st ⟨ni,nj,aa,pr,ph⟩≠W.fin))=true:=decide_eq_true al;cases pr with
           | false=>
            have HV:=au (show b=true from by rw[HB.o];simp[hA,hB,hC,hD,hE,ae,hJ,hK,ai]);have KA:=au (fun W'=>jm aa W');simp only[ae,mj,nh] at KA;clear HB
            go_enter Tryz.func77,Tryz.ntmps77
            go_wp2_with fail;refine(KA.o _).mono ?_;rintro e9 w9 ⟨rfl,hb9⟩;have H4:=au (H3.o.below aO hb9);have ad:=au (H4.o.mod.below (fun _ _ h=>h));clear H3;obtain⟨F1,I⟩:=H4.o.fst;obtain⟨F2,M⟩:=H4.o.drop.fst;obtain⟨F3,J⟩:=H4.o.drop.drop.fst;have s0:=ay (i:=0) I rfl;have s1:=ay (i:=1) I rfl;have s2:=ay (i:=2) I rfl;have s3:=ay (i:=3) I rfl;have p2:=ay (i:=2) M rfl;have p3:=ay (i:=3) M rfl;have p4:=ay (i:=4) M rfl;have e5:=ay (i:=5) J rfl;have e6:=ay (i:=6) J rfl;have e7:=ay (i:=7) J rfl;have e8:=ay (i:=8) J rfl;clear I M J H4;clear KA hb9;dsimp only;have ab:=ac w9;clear ac
            iterate 42 (first|go_values|go_guarded|go_step)
            refine jE rfl rfl rfl eQ ab ?_;go_wp2;go_ret;exact aK HV.o ad.o
           | true=>
            have ak:(bs aa).toList.isEmpty=false:=by rw[pN];exact fun e=>hG ⟨rfl,dD.1 e⟩
            have ag:aa≠[]:=fun e=>hG ⟨rfl,e⟩;have HV:=au (show b=true from by rw[HB.o];simp[hA,hB,hC,hD,hE,ae,hJ,hK,ai,ag]);have KA:=au (fun W'=>jm aa W');simp only[ae,mj,nh] at KA;clear HB
            go_enter Tryz.func77,Tryz.ntmps77
            go_wp2_with fail;refine(KA.o _).mono ?_;rintro e9 w9 ⟨rfl,hb9⟩;have H4:=au (H3.o.below aO hb9);have ad:=au (H4.o.mod.below (fun _ _ h=>h));clear H3;obtain⟨F1,I⟩:=H4.o.fst;obtain⟨F2,M⟩:=H4.o.drop.fst;obtain⟨F3,J⟩:=H4.o.drop.drop.fst;have s0:=ay (i:=0) I rfl;have s1:=ay (i:=1) I rfl;have s2:=ay (i:=2) I rfl;have s3:=ay (i:=3) I rfl;have p2:=ay (i:=2) M rfl;have p3:=ay (i:=3) M rfl;have p4:=ay (i:=4) M rfl;have e5:=ay (i:=5) J rfl;have e6:=ay (i:=6) J rfl;have e7:=ay (i:=7) J rfl;have e8:=ay (i:=8) J rfl;clear I M J H4;clear KA hb9;dsimp only;have ab:=ac w9;clear ac
            iterate 50 (first|go_values|go_guarded|go_step)
            refine jE rfl rfl rfl eQ ab ?_;go_wp2;go_ret;exact aK HV.o ad.o
def Vb(w:World)(T:eW)(k:Int)(x:Bs)(k2:Int)(y:Bs)(bound:Int)(C:List Pt)(e:Ending)(w':World):Prop:=
 ∃ b:Bool,e=.returned (.bool b)/\(b=true↔jq T k x k2 y bound C)/\Below w.heap.size w w'
def C8(W:Wd)(bound:Int)(C:List Pt)(n:Nat):Prop:=(∀ p ∈ C.take n,proper W bound p=true)/\(C.take n).Pairwise BO
def lh(C:List Pt):List (St × Int):=C.map fun p=>(p.st,p.h)
section
variable{W:Wd}{bound:Int}{C:List Pt}{n:Nat}
theorem Si:C8 W bound C 0:=⟨by simp,by simp⟩
theorem Sj(hn:n<C.length)(h:C8 W bound C n)(h1:proper W bound C[n]=true)(h2:0<n->BO (C[n-1]'eL) C[n]):C8 W bound C (n+1):=by
 obtain⟨g1,g2⟩:=h;have e:=kq hn;refine⟨fun p I=>?_,?_⟩
 ·rw[e] at I;rcases List.mem_append.1 I with I|I
  ·exact g1 p I
  ·rw[List.mem_singleton.1 I];exact h1
 ·rw[e,List.pairwise_append];refine⟨g2,List.pairwise_singleton _ _,fun a ha b hb=>?_⟩;rw[List.mem_singleton.1 hb];obtain⟨j,hj,rfl⟩:=List.mem_iff_getElem.1 ha;rw[kt] at hj;rw[AE];have M:=h2 eL;by_cases J:j=n-1
  ·subst J;exact M
  ·have h4:=List.pairwise_iff_getElem.1 g2 j (n-1) (by rw[kt];omega) (by rw[kt];omega) eL;rw[AE,AE] at h4;exact zL h4 M
theorem Vd(hn:n<C.length)(h1:proper W bound C[n]=false):¬ Holds W bound C:=fun h=>by
 have:=h.1 C[n] (gw hn);rw[h1] at this;cases this
theorem Ve(hn:n<C.length)(h0:0<n)(h2:¬ BO (C[n-1]'eL) C[n]):¬ Holds W bound C:=fun h=>
 h2 (List.pairwise_iff_getElem.1 h.2.1 (n-1) n eL hn eL)
theorem wF{p:Pt}(h:proper W bound p=true):0<=p.i/\0<=p.j:=by
 have:=l5.1 h;exact⟨this.1.1,this.2.1.1⟩
theorem ZL(hn:n<C.length)(h:C8 W bound C (n+1)):C[n].st ∉ (lh (C.take n)).map (·.1):=by
 intro hm;unfold lh at hm;rw[qu] at hm;obtain⟨p,J,e⟩:=List.mem_map.1 hm;obtain⟨g1,g2⟩:=h;rw[kq hn] at g1 g2;have h1:=wF (g1 p (Cs _ J));have h2:=wF (g1 C[n] (zg _ (List.mem_singleton.2 rfl)));have I:=(List.pairwise_append.1 g2).2.2 p J C[n] (List.mem_singleton.2 rfl);have M:=XX h1 h2 e;unfold BO at I;rcases I with I|⟨-,I|⟨-,I|⟨-,I,h5⟩⟩⟩
 ·omega
 ·omega
 ·rw[M.2.2.1] at I;exact uW _ I
 ·rw[M.2.2.2,h5] at I;cases I
theorem Vf(hn:n<C.length):lh (C.take (n+1))=lh (C.take n)++[(C[n].st,C[n].h)]:=by
 unfold lh;rw[kq hn,kp];rfl
variable{s:St}
theorem Vg:(oh ((lh C).map fun p=>(p.1,Value.int .i64 p.2)) s).getD (.int .i64 0)=.int .i64 (jj C s):=by
 unfold jj
 induction C with
 | nil=>rfl
 | cons p C ih=>
  show(oh ((p.st,Value.int .i64 p.h)::((lh C).map fun p=>(p.1,Value.int .i64 p.2))) s).getD _=_
  rw[qU,GG];by_cases h:s=p.st
  ·rw[if_pos h,decide_eq_true h.symm];rfl
  ·rw[if_neg h,decide_eq_false (fun e=>h e.symm)];exact ih
end
def uj(W:Wd)(C:List Pt)(q:St × Int):Prop:=∀ x ∈ W.moves q.1,q.2<=x.1+jj C x.2
def wH(W:Wd)(C:List Pt)(q:St × Int)(i:Nat):Prop:=∀ j (hj:j<(W.moves q.1).length),j<i->q.2<=(W.moves q.1)[j].1+jj C (W.moves q.1)[j].2
variable{W:Wd}{bm gm gp gi I:Nat}{pa:PA}{w1 wr:World}{F:Nat->Prop}
theorem Ke{q:St × Int}:wH W C q 0:=fun j _ h=>absurd h (oc _)
theorem Kg{q:St × Int}{x:Int × St}(hx:(W.moves q.1)[i]?=some x)(h:wH W C q i)(h2:q.2<=x.1+jj C x.2):wH W C q (i+1):=fun j hj hji=>by
 by_cases e:j=i
 ·subst e;rw[ic hj] at hx;injection hx with hx
  rw[hx];exact h2
 ·exact h j hj eL
theorem Nw{q:St × Int}(h:wH W C q (W.moves q.1).length):uj W C q:=fun x hx=>by
 obtain⟨j,hj,rfl⟩:=List.mem_iff_getElem.1 hx;exact h j hj hj
theorem Vj{q:St × Int}{x:Int × St}(hx:x ∈ W.moves q.1)(h:¬ q.2<=x.1+jj C x.2):¬ uj W C q:=fun h2=>h (h2 x hx)
theorem Vk{q:St × Int}(hq:q ∈ lh C)(h:¬ uj W C q):¬ Holds W bound C:=fun h2=>by
 unfold lh at hq;obtain⟨p,hp,rfl⟩:=List.mem_map.1 hq;refine h (fun x hx=>?_);have:=List.all_eq_true.1 (h2.2.2.1 p hp) x hx;simpa using this
theorem Sm{D:List (St × Int)}(J:(∀ p ∈ C,proper W bound p=true)/\C.Pairwise BO)(hp:D.Perm (lh C))(h:∀ q ∈ D,uj W C q)(hb:bound<=jj C gC):Holds W bound C:=by
 refine⟨J.1,J.2,fun p I=>?_,hb⟩;have h1:=h (p.st,p.h) (hp.mem_iff.2 (List.mem_map.2 ⟨p,I,rfl⟩));exact List.all_eq_true.2 fun x M=>decide_eq_true (h1 x M)
theorem Z1(h:∀ p ∈ C,proper W bound p=true)(s:St):0<=jj C s/\jj C s<=100000:=by
 unfold jj;cases hf:C.find? (fun p=>decide (p.st=s)) with
 | none=>simp
 | some p=>
  have:=l5.1 (h p (tg hf));exact⟨by have:=this.2.2.2.2.2.1;simp only;omega,this.2.2.2.2.2.2.2⟩
theorem Z2(h:∀ p ∈ C,proper W bound p=true){q:St × Int}(hq:q ∈ lh C):W.ok q.1/\q.1.a.length<=3/\0<=q.2/\q.2<=100000:=by
 unfold lh at hq;obtain⟨p,I,rfl⟩:=List.mem_map.1 hq;have g:=l5.1 (h p I);refine⟨⟨?_,?_,g.2.2.2.1⟩,g.2.2.1.1,by have:=g.2.2.2.2.2.1;show 0<=p.h;omega,g.2.2.2.2.2.2.2⟩
 ·show p.i.toNat<=W.l.length;have:=g.1;omega
 ·show p.j.toNat<=W.m.length;have:=g.2.1;omega
def AU(W:Wd)(pa:PA)(es:Array MapEntry)(clock bm gm gp gr gi:Nat)(left:List MapEntry)(Ds:List Nat):CH.aU:=
 aj (j5 gi bm es clock left) (aj (aX bm (.map es clock)) (aj (av gm #[.map (some bm)] 189) (aj (av gp (dR W pa) 186) (aj (av gr (gv false) 4) (dO Ds)))))
theorem Vl{gr:Nat}{left:List MapEntry}{Ds:List Nat}:(AU W pa es clock bm gm gp gr gi left Ds).Ok:=
 aB xV (aB bg (aB aF (aB aF (aB aF lq))))
instance {W:Wd} {pa:PA} {es:Array MapEntry} {clock bm gm gp gr gi:Nat} {left:List MapEntry} {Ds:List Nat}:(AU W pa es clock bm gm gp gr gi left Ds).Ok:=Vl
theorem P5(h:w.heap[bm]?=some (.map es I))(M:EP sO es I ((lh C).map fun p=>(p.1,Value.int .i64 p.2)))(s:St):
  (Instr.lookup 189 (.map (some bm)) (.agg (fN s.i s.j (bs s.a) s.r)) false).run Tryz.prog w=.ok (.int .i64 (jj C s)) w:=by
 have hm:jA bm (lh C) w (fun i=>i=bm):=⟨⟨es,I,h,M⟩,fun i=>qT⟩;have J:=yV xR Tryz.underlying189 Tryz.zeroValue3 hm s;rw[Vg] at J;exact J
def Rr(F:Nat->Prop)(w1:World)(W:Wd)(pa:PA)(C:List Pt)(bound:Int)(es:Array MapEntry)(h bm gm gp gr I:Nat)(a:Act)(wr:World):Prop:=
 ∃ (v:Nat->Value) (Ds:List Nat) (left:List MapEntry) (Dn:List (St × Int)),(aI F w1 (AU W pa es h bm gm gp gr I left Ds) wr/\(Dn++left.map wE).Perm (lh C)/\(∀ e ∈ left,e ∈ es.toList)/\∀ q ∈ Dn,uj W C q) /\
  a={ tmps:=#[v 0,v 1,v 2,v 3,v 4,.int .i64 bound,v 6,v 7,v 8,v 9,v 10,v 11,v 12,v 13,.pointer (some ⟨gr,0,none⟩),.pointer (some ⟨gp,0,none⟩),v 16,.pointer (some ⟨gm,0,none⟩),v 18,v 19,v 20,v 21,v 22,v 23,v 24,v 25,v 26,v 27,v 28,v 29,v 30,v 31,v 32,v 33,v 34,v 35,v 36,v 37,v 38,v 39,v 40,v 41,v 42,v 43,v 44,v 45,v 46,v 47,v 48,v 49,v 50,v 51,v 52,v 53,v 54,v 55,v 56,v 57,v 58,v 59,v 60,v 61,v 62,v 63,v 64,v 65,v 66,v 67,v 68,v 69,v 70,v 71,v 72,v 73,v 74,v 75,.pointer (some ⟨I,0,none⟩),v 77,v 78,v 79,v 80,v 81,v 82,v 83,v 84,v 85,v 86,v 87,v 88,v 89,v 90,v 91,v 92,v 93,v 94,v 95,v 96,v 97,v 98],defers:=Ds.map Lf }
theorem ZM{gr:Nat}(I:Array Value)(h:I.size=99)(h5:I.getD 5 undef=.int .i64 bound)(M:I.getD 14 undef=.pointer (some ⟨gr,0,none⟩))(aa:I.getD 15 undef=.pointer (some ⟨gp,0,none⟩))(J:I.getD 17 undef=.pointer (some ⟨gm,0,none⟩))(ab:I.getD 76 undef=.pointer (some ⟨gi,0,none⟩)):
  ∃ v:Nat->Value,I=#[v 0,v 1,v 2,v 3,v 4,.int .i64 bound,v 6,v 7,v 8,v 9,v 10,v 11,v 12,v 13,.pointer (some ⟨gr,0,none⟩),.pointer (some ⟨gp,0,none⟩),v 16,.pointer (some ⟨gm,0,none⟩),v 18,v 19,v 20,v 21,v 22,v 23,v 24,v 25,v 26,v 27,v 28,v 29,v 30,v 31,v 32,v 33,v 34,v 35,v 36,v 37,v 38,v 39,v 40,v 41,v 42,v 43,v 44,v 45,v 46,v 47,v 48,v 49,v 50,v 51,v 52,v 53,v 54,v 55,v 56,v 57,v 58,v 59,v 60,v 61,v 62,v 63,v 64,v 65,v 66,v 67,v 68,v 69,v 70,v 71,v 72,v 73,v 74,v 75,.pointer (some ⟨gi,0,none⟩),v 77,v 78,v 79,v 80,v 81,v 82,v 83,v 84,v 85,v 86,v 87,v 88,v 89,v 90,v 91,v 92,v 93,v 94,v 95,v 96,v 97,v 98]:=by
 have e:I=#[I.getD 0 undef,I.getD 1 undef,I.getD 2 undef,I.getD 3 undef,I.getD 4 undef,I.getD 5 undef,I.getD 6 undef,I.getD 7 undef,I.getD 8 undef,I.getD 9 undef,I.getD 10 undef,I.getD 11 undef,I.getD 12 undef,I.getD 13 undef,I.getD 14 undef,I.getD 15 undef,I.getD 16 undef,I.getD 17 undef,I.getD 18 undef,I.getD 19 undef,I.getD 20 undef,I.getD 21 undef,I.getD 22 undef,I.getD 23 undef,I.getD 24 undef,I.getD 25 undef,I.getD 26 undef,I.getD 27 undef,I.getD 28 undef,I.getD 29 undef,I.getD 30 undef,I.getD 31 undef,I.getD 32 undef,I.getD 33 undef,I.getD 34 undef,I.getD 35 undef,I.getD 36 undef,I.getD 37 undef,I.getD 38 undef,I.getD 39 undef,I.getD 40 undef,I.getD 41 undef,I.getD 42 undef,I.getD 43 undef,I.getD 44 undef,I.getD 45 undef,I.getD 46 undef,I.getD 47 undef,I.getD 48 undef,I.getD 49 undef,I.getD 50 undef,I.getD 51 undef,I.getD 52 undef,I.getD 53 undef,I.getD 54 undef,I.getD 55 undef,I.getD 56 undef,I.getD 57 undef,I.getD 58 undef,I.getD 59 undef,I.getD 60 undef,I.getD 61 undef,I.getD 62 undef,I.getD 63 undef,I.getD 64 undef,I.getD 65 undef,I.getD 66 undef,I.getD 67 undef,I.getD 68 undef,I.getD 69 undef,I.getD 70 undef,I.getD 71 undef,I.getD 72 undef,I.getD 73 undef,I.getD 74 undef,I.getD 75 undef,I.getD 76 undef,I.getD 77 undef,I.getD 78 undef,I.getD 79 undef,I.getD 80 undef,I.getD 81 undef,I.getD 82 undef,I.getD 83 undef,I.getD 84 undef,I.getD 85 undef,I.getD 86 undef,I.getD 87 undef,I.getD 88 undef,I.getD 89 undef,I.getD 90 undef,I.getD 91 undef,I.getD 92 undef,I.getD 93 undef,I.getD 94 undef,I.getD 95 undef,I.getD 96 undef,I.getD 97 undef,I.getD 98 undef]:=(V8 I 99 h).trans rfl;rw[h5,M,aa,J,ab] at e;exact⟨fun i=>I.getD i undef,e⟩
theorem RE{gr:Nat}{J:Array Value}{df:List Deferred}(Ds:List Nat){left:List MapEntry}{Dn:List (St × Int)}(h:J.size=99)(h5:J.getD 5 undef=.int .i64 bound)(aa:J.getD 14 undef=.pointer (some ⟨gr,0,none⟩))(ab:J.getD 15 undef=.pointer (some ⟨gp,0,none⟩))(M:J.getD 17 undef=.pointer (some ⟨gm,0,none⟩))(ac:J.getD 76 undef=.pointer (some ⟨gi,0,none⟩))(hd:df=Ds.map Lf)(hR:aI F w1 (AU W pa es I bm gm gp gr gi left Ds) wr)(hp:(Dn++left.map wE).Perm (lh C))(hm:∀ e ∈ left,e ∈ es.toList)(hq:∀ q ∈ Dn,uj W C q):Rr F w1 W pa C bound es I bm gm gp gr gi { tmps:=J,defers:=df } wr:=by
 obtain⟨v,hv⟩:=ZM J h h5 aa ab M ac;subst hd;exact⟨v,Ds,left,Dn,⟨hR,hp,hm,hq⟩,by rw[hv]⟩
theorem P6{left:List MapEntry}(h:aI F w1 (aj (j5 gi bm es clock left) X) wr):IK es gi wr=left.length:=by
 obtain⟨f,hf⟩:=h.fst;obtain⟨seen,h1,h2⟩:=hf.1;unfold IK;rw[h1,h2]
variable{W:World}{g:Nat}{xs:List Value}
theorem Iz{size:Nat}(h:Src w A n size xs)(hm:Mod F0 w W)(hn:∀ I:Addr,A=some I->0<n->¬ F0 I.block):Src W A n size xs:=by
 refine⟨h.1,h.2.1,fun J=>?_⟩;obtain⟨I,e,hc⟩:=h.2.2 J;refine⟨I,e,fun j u hu=>?_⟩;have M:=hc j u hu;rw[hm.cell (py _ _ M) (by rw[Addr.add_block];exact hn I e J)];exact M
theorem ZZ{size:Nat}(h:Src w A n size xs)(hs:0<size):∀ I:Addr,A=some I->0<n->I.block<w.heap.size:=by
 intro I e J;obtain⟨aa,e',M⟩:=h.2.2 J;rw[e] at e';injection e' with e'
 subst e';have hl:0<xs.length:=by rw[h.1];exact Ha J hs
 have h1:=py _ _ (M 0 xs[0] (ic hl))
 rwa [Addr.add_block] at h1
theorem uh{P:Program}(w:World)(g:Nat)(ty:TypeId)(b:Bool)(hg:w.cell? ⟨g,0,none⟩=some (.bool b))(hu:P.underlying ty=some .bool):
  (loadVar ty ⟨g,0,none⟩).run P w=.ok (.bool b) w:=by
 unfold loadVar;simp[isAgg,run_underlying hu,j9,hg]
theorem uZ{tmps:Array Value}{b:Bool}(h:tmps.getD 14 undef=.pointer (some ⟨g,0,none⟩))(I:w.cell? ⟨g,0,none⟩=some (.bool b)):(results Tryz.f51 tmps).run Tryz.prog w=.ok (.bool b) w:=by
 have J:tmps[14]?.getD undef=.pointer (some ⟨g,0,none⟩):=by simpa using h
 have r:=uh (P:=Tryz.prog) w g 4 b I Tryz.underlying4;simp only[results,Tryz.results17];simp[j9,Result.andThen,J,asAddr,r]
theorem PW(hb:Below w.heap.size w w1)(hm:Mod F w1 W)(hF:∀ i,i<w.heap.size->¬ F i):Below w.heap.size w W:=
 ⟨hm.os.trans hb.os,hm.tape.trans hb.tape,hm.output.trans hb.output,j8 hb.size hm.size,fun k hk=>(hm.block k (IT hk hb.size) (hF k hk)).trans (hb.block k hk)⟩
def Vh(W:Wd)(pa:PA)(bm gm gp gr:Nat)(L:List (St × Int)):CH.aU:=aj (jA bm L) (aj (av gm #[.map (some bm)] 189) (aj (av gp (dR W pa) 186) (av gr (gv false) 4)))
theorem Nu{W:Wd}{gr:Nat}{L:List (St × Int)}:(Vh W pa bm gm gp gr L).Ok:=aB iZ (aB aF (aB aF aF))
instance {W:Wd} {pa:PA} {bm gm gp gr:Nat} {L:List (St × Int)}:(Vh W pa bm gm gp gr L).Ok:=Nu
theorem PZ{W':World}{W:Wd}{gr:Nat}{L:List (St × Int)}{A:CH.aU}(hb:Below w.heap.size w w1)(hF:∀ i,i<w.heap.size->¬ F i)(hA:A.Ok)(h:aI F w1 (aj A (Vh W pa bm gm gp gr L)) W'):
  W'.cell? ⟨gr,0,none⟩=some (.bool false)/\W'.frozen? ⟨gr,0,none⟩=false/\∀ v:Bool,(W'.setCell ⟨gr,0,none⟩ (.bool v)).cell? ⟨gr,0,none⟩=some (.bool v)/\Below w.heap.size w (W'.setCell ⟨gr,0,none⟩ (.bool v)):=by
 have M:=h.perm (by unfold Vh;ac_rfl:_=aj (av gr (gv false) 4) (aj A (aj (jA bm L) (aj (av gm #[.map (some bm)] 189) (av gp (dR W pa) 186)))));have J:(aj A (aj (jA bm L) (aj (av gm #[.map (some bm)] 189) (av gp (dR W pa) 186)))).Ok:=aB hA aO;obtain⟨f,hf⟩:=M.fst;refine⟨ay hf rfl,aN hf 0,fun v=>?_⟩;have h3:=aJ M J 0 (.bool v);obtain⟨f3,I⟩:=h3.fst;exact⟨ay (i:=0) I rfl,PW hb h3.mod hF⟩
theorem Vi{W:Wd}(h:jA bm (lh (C.take n)) w F)(hn:n<C.length)(hs:C8 W bound C (n+1)):
  ∃ w',(Instr.mapUpdate 189 (.map (some bm)) (.agg (fN C[n].i C[n].j (bs C[n].a) C[n].r)) (.int .i64 C[n].h)).run Tryz.prog w=.ok () w'/\bT w F (jA bm (lh (C.take (n+1)))) w':=by
 obtain⟨w',M,I⟩:=ru xR Tryz.underlying189 h C[n].st (.int .i64 C[n].h);have hp:proper W bound C[n]=true:=hs.1 _ (by rw[kq hn];exact zg _ (List.mem_singleton.2 rfl));have J:=wF hp;have e:sO C[n].st=.agg (fN C[n].i C[n].j (bs C[n].a) C[n].r):=by
  unfold sO dz Pt.st;simp only[IM J.1,IM J.2]
 rw[e] at M;refine⟨w',M,?_⟩;have e2:mE ((lh (C.take n)).map fun p=>(p.1,Value.int .i64 p.2)) C[n].st (.int .i64 C[n].h)=(lh (C.take (n+1))).map fun p=>(p.1,Value.int .i64 p.2):=by
  rw[rz (by rw[qu];exact ZL hn hs),Vf hn,kp];rfl
 rw[e2] at I;exact I
theorem Sk{a:TA}(hT:jV w T a)(hz:LZ w)(k:Int)(x:Bs)(k2:Int)(y:Bs)(bound:Int)(hx:x.length<=1000000)(hy:y.length<=1000000){B:eV}(hC:zQ w B C)(hl:C.length<=1000000)(hs:∀ p ∈ C,p.a.length<=1000000):
  Calls Tryz.prog 51 #[dI T a,.int .i64 k,.string (bs x),.int .i64 k2,.string (bs y),.int .i64 bound,.slice B C.length c] w (Vb w T k x k2 y bound C):=by
 have HT:=au hT;have HZ:=au hz;have HC:=au hC;have HL:=au hl;have c3:=au hs;have h1:aI eR w (aj (av w.heap.size (dN T a) 25) bG) _:=aH (aI.begin w) aM (dN T a) 25;have h2:=aH h1 aO (gv false) 4;simp only[ik] at h2;have a7:=au (h2.mod.below (fun _ _ h=>h));have KO:=au (U7 (hT.below a7.o) (hz.below a7.o) k x k2 y hx hy);have H2:=au h2;obtain⟨N,hN⟩:∃ N,N=C.length:=⟨_,rfl⟩;rw[<-hN];have HN:=au hN;clear hT hz hC hl hs h1 h2 hN;unfold dI at KO ⊢;unfold dN at KO H2 a7 ⊢;unfold PK at KO;refine(callsIn_wide (n:=8)).1 ?_;refine callsIn_of_wp_marks Tryz.func51 rfl trivial ?_ rfl;simp only[Tryz.ntmps51,pZ,jz,lL,Nat.reduceAdd,Nat.reduceSub,re,rk,ry,rq,me,pd];refine(wpIn_wide (n:=8)).2 ?_;go_wp2_with fail;refine KO.o.mono ?_;rintro e9 w1 ⟨pa,rfl,hb,hP,hS,hA0,hL1,hL2⟩;simp only[ik] at hL1 hL2;have H3:=au (H2.o.below aO hb);have cg:=au (a7.o.trans (hb.mono a7.o.size));have HP:=au hP;have HS:=au hS;have dq:=au hA0;have c7:=au hL1;have ce:=au hL2;clear KO H2 a7 hb hP hS hA0 hL1 hL2;unfold eP;dsimp only;obtain⟨W,hW⟩:∃ W,W=PI T k x k2 y:=⟨_,rfl⟩;rw[<-hW] at HP HS ⊢;have HW:=au hW;clear hW;cases ba:okW T k x k2 y with
 | false=>
  have HF:=au (show false=true↔jq T k x k2 y bound C from⟨fun h=>(by cases h),fun h=>(by rw[h.1] at ba;cases ba)⟩);have H4:=au (aH H3.o aO (dR W pa) 186);obtain⟨FR,ax⟩:=H4.o.drop.fst;have r0:=ay (i:=0) ax rfl;have rf:=aN ax 0;have H5:=au (aJ H4.o.kQ aO 0 (.bool false));obtain⟨d0,cb⟩:=H5.o.fst;have r5:=ay (i:=0) cb rfl;have cU:=au (H5.o.mod.below (fun _ _ h=>h));clear ba ax cb H3 H4 H5;unfold dR;unfold dR at r0 rf r5 cU;go_wp2;refine⟨_,uZ rfl r5,?_⟩;exact⟨false,rfl,HF.o,cU.o⟩
 | true=>
  have cr:=au ba;have bo:=au (show W=bO T k x k2 y from HW.o.trans (Nq ba));clear ba;obtain⟨F,hF⟩:=H3.o.fst;have d6:w.heap.size+1<w1.heap.size:=by rw[<-(hF.2 _).1 ((hF.2 _).2 rfl)];exact aF.lt hF _ ((hF.2 _).2 rfl)
  have cf:=au (show ∀ i,i<w.heap.size->¬ F i from fun i hi hf=>by have:=(hF.2 i).1 hf;omega);have hE:∀ W',Mod F w1 W'->xP W pa W':=fun W' hm=>by
   have hp:=HP.o;refine⟨Iz hp.rs hm (fun ad e h0 hf=>?_),Iz hp.l hm (fun ad e h0 hf=>?_),Iz hp.m hm (fun ad e h0 hf=>?_)⟩
   ·have h3:W.rs=T.rs:=by rw[HW.o];rfl
    have h1:=ZZ HT.o.rs eL ad (dq.o.symm.trans e) (by rw[<-h3];exact h0);have h2:=(hF.2 _).1 hf;omega
   ·have h1:=c7.o ad e;have h2:=(hF.2 _).1 hf;omega
   ·have h1:=ce.o ad e;have h2:=(hF.2 _).1 hf;omega
  have HE:=au hE;have h4:=aH (aI.start hF).one aO (dR W pa) 186;have h5:=h4.fresh aO (su (kv:=sO) _);have h6:=aH h5 aO #[.map (some (w1.heap.size+1))] 189;simp only[ik] at h5 h6;have H6:=au (show aI F w1 (Vh W pa (w1.heap.size+1) (w1.heap.size+1+1) w1.heap.size (w.heap.size+1) (lh (C.take 0))) _ from(h6.perm (by unfold Vh;rw[fG];unfold jA;ac_rfl)));have dr:∀ w:World,(Instr.makeMap 189 none).run Tryz.prog w=.ok (.map (some w.heap.size)) (w.alloc (.map #[] 0)):=fun w=>by kernel_rfl
  clear hE h4 h5 h6 H3 hF;unfold dR at H6 ⊢;go_wp2_with fail;generalize ((w1.alloc (.cells (vh pa.A W.rs.length pa.c W.ka W.kb pa.L W.l.length pa.lc pa.M W.m.length pa.mc W.l.length W.m.length (bs []) false) 186)).alloc (.map #[] 0)).alloc (.cells #[.map (some (w1.heap.size+1))] 189)=w2 at *
  generalize w1.heap.size+1=bm at *
  generalize bm+1=gm at *
  generalize w.heap.size+1=gr at *
  generalize w1.heap.size=gp at *
  clear dr;have ai:=au (fun W' O (h:aI F w1 O W')=>PW cg.o h.mod cf.o);go_loopw [38] (fun i wr=>∃ n:Nat,n<=N/\i=.int .i64 n/\C8 W bound C n/\aI F w1 (Vh W pa bm gm gp gr (lh (C.take n))) wr) (fun i _=>N-(intOf i).toNat)
  case atStart=>exact⟨0,fy _,rfl,Si,H6.o⟩
  case round=>
   clear H6;obtain⟨n,hn,rfl,bh,hR⟩:=hrel;have cm:=au bh;have HR:=au hR;clear bh hR;by_cases cR:n<N
   ·have az:n<C.length:=by rw[<-HN.o];exact cR
    have b0:=au cR;have d1:(n:Int)<1000000:=by have:=HL.o;omega
    obtain⟨b,o,rfl,hc⟩:=zQ.at HC.o eL;have dp:=au (fun W' (hb:Below w.heap.size w W')=>hc W' hb);obtain⟨r0,r1,r2,r3,r4⟩:=hc wr (ai.o _ _ HR.o) n az;have H7:=au (aH HR.o Nu (sB C[n].i C[n].j (bs C[n].a) C[n].r C[n].h) 110);clear hc;go_wp2_with fail;generalize dk:wr.alloc (.cells (sB C[n].i C[n].j (bs C[n].a) C[n].r C[n].h) 110)=w3 at *
    generalize wr.heap.size=gx at *
    clear dk r0 r1 r2 r3 r4;have cx:∀ W',aI F w1 (aj (av gx (sB C[n].i C[n].j (bs C[n].a) C[n].r C[n].h) 110) (Vh W pa bm gm gp gr (lh (C.take n)))) W'->(fun w':World=>w'.cell? ⟨gp,0,none⟩=some (.slice pa.A W.rs.length pa.c)/\w'.cell? ⟨gp,1,none⟩=some (.int .i64 W.ka)/\w'.cell? ⟨gp,2,none⟩=some (.int .i64 W.kb)/\w'.cell? ⟨gp,3,none⟩=some (.slice pa.L W.l.length pa.lc)/\w'.cell? ⟨gp,4,none⟩=some (.slice pa.M W.m.length pa.mc)/\w'.cell? ⟨gp,5,none⟩=some (.int .i64 W.l.length)/\w'.cell? ⟨gp,6,none⟩=some (.int .i64 W.m.length)/\w'.cell? ⟨gp,7,none⟩=some (.string (bs []))/\w'.cell? ⟨gp,8,none⟩=some (.bool false)/\(oA w' gx (.int .i64 C[n].i) (.int .i64 C[n].j) (.string (bs C[n].a)) (.bool C[n].r) (.int .i64 C[n].h))) W':=fun W' h=>by
     obtain⟨f1,aa⟩:=h.fst;obtain⟨f2,ae⟩:=(h.drop.drop.drop).fst;exact⟨ay ae rfl,ay ae rfl,ay ae rfl,ay ae rfl,ay ae rfl,ay ae rfl,ay ae rfl,ay ae rfl,ay ae rfl,ay aa rfl,ay aa rfl,ay aa rfl,ay aa rfl,ay aa rfl⟩
    have al:=au cx;have an:=au (aB (aF (g:=gx) (cs:=(sB C[n].i C[n].j (bs C[n].a) C[n].r C[n].h)) (t:=110)) (Nu (W:=W) (pa:=pa) (bm:=bm) (gm:=gm) (gp:=gp) (gr:=gr) (L:=lh (C.take n))));have H8:=au (H7.o.drew an.o);have KP:=au (fun W'=>Nt (W:=W) (pa:=pa) (bound:=bound) (p:=C[n]) W' (c3.o _ (gw az)) HS.o.l HS.o.m);unfold eP dR ye at KP;have br:=au (fun h=>Vd (W:=W) (bound:=bound) az h);clear cx H7;cases bf:proper W bound C[n] with
    | false=>
     have HF:=au (show(false=true)↔jq T k x k2 y bound C from⟨fun h=>(by cases h),fun h=>(br.o bf (by rw[bo.o];exact h.2)).elim⟩);simp only[bf] at KP;have af:=al.o _ H8.o;refine aP (fun w':World=>w'.cell? ⟨gp,0,none⟩=some (.slice pa.A W.rs.length pa.c)/\w'.cell? ⟨gp,1,none⟩=some (.int .i64 W.ka)/\w'.cell? ⟨gp,2,none⟩=some (.int .i64 W.kb)/\w'.cell? ⟨gp,3,none⟩=some (.slice pa.L W.l.length pa.lc)/\w'.cell? ⟨gp,4,none⟩=some (.slice pa.M W.m.length pa.mc)/\w'.cell? ⟨gp,5,none⟩=some (.int .i64 W.l.length)/\w'.cell? ⟨gp,6,none⟩=some (.int .i64 W.m.length)/\w'.cell? ⟨gp,7,none⟩=some (.string (bs []))/\w'.cell? ⟨gp,8,none⟩=some (.bool false)/\(oA w' gx (.int .i64 C[n].i) (.int .i64 C[n].j) (.string (bs C[n].a)) (.bool C[n].r) (.int .i64 C[n].h))) rfl eQ af ?_;clear af;generalize w3.drew=w4 at *
     (repeat(first|refine bM ?_|refine bN ?_))
     refine dG rfl gh (fun K hK=>?_);go_wp2_with fail;refine(KP.o _).mono ?_;rintro e9 w5 ⟨rfl,hb⟩;have H9:=au (H8.o.below an.o hb);clear KP H8 hb;dsimp only;refine hK.o _ _ (al.o _ H9.o) ?_;clear hK
     (repeat(first|refine bM ?_|refine bN ?_))
     refine lex_nil ?_;obtain⟨q0,q1,q2⟩:=PZ cg.o cf.o aF H9.o;have Q2:=au (q2 false);have q3:=Q2.o.1;clear q2;go_wp2;refine⟨_,uZ rfl q3,?_⟩;exact⟨false,rfl,HF.o,Q2.o.2⟩
    | true=>
     have bu:=au (fun h0 h=>Ve (W:=W) (bound:=bound) az h0 h);have bj:=au (fun h=>Sj az cm.o bf h);simp only[bf] at KP;by_cases cj:n=0
     ·have t0:decide ((0:Int)<(n:Int))=false:=decide_eq_false eL;have c2:decide (0<n)=false:=decide_eq_false eL;have ap:=au (bj.o (fun h=>absurd cj eL));clear cj bu bj br bf;have af:=al.o _ H8.o;refine aP (fun w':World=>w'.cell? ⟨gp,0,none⟩=some (.slice pa.A W.rs.length pa.c)/\w'.cell? ⟨gp,1,none⟩=some (.int .i64 W.ka)/\w'.cell? ⟨gp,2,none⟩=some (.int .i64 W.kb)/\w'.cell? ⟨gp,3,none⟩=some (.slice pa.L W.l.length pa.lc)/\w'.cell? ⟨gp,4,none⟩=some (.slice pa.M W.m.length pa.mc)/\w'.cell? ⟨gp,5,none⟩=some (.int .i64 W.l.length)/\w'.cell? ⟨gp,6,none⟩=some (.int .i64 W.m.length)/\w'.cell? ⟨gp,7,none⟩=some (.string (bs []))/\w'.cell? ⟨gp,8,none⟩=some (.bool false)/\(oA w' gx (.int .i64 C[n].i) (.int .i64 C[n].j) (.string (bs C[n].a)) (.bool C[n].r) (.int .i64 C[n].h))) rfl eQ af ?_;clear af;generalize w3.drew=w4 at *
      (repeat(first|refine bM ?_|refine bN ?_))
      refine dG rfl gh (fun K hK=>?_);go_wp2_with fail;refine(KP.o _).mono ?_;rintro e9 w5 ⟨rfl,hb⟩;have H9:=au (H8.o.below an.o hb);clear KP H8 hb;dsimp only;refine hK.o _ _ (al.o _ H9.o) ?_;clear hK
      (repeat(first|refine bM ?_|refine bN ?_))
      refine lex_nil ?_;obtain⟨f1,aa⟩:=H9.o.fst;have x0:=ay (i:=0) aa rfl;have x1:=ay (i:=1) aa rfl;have x2:=ay (i:=2) aa rfl;have x3:=ay (i:=3) aa rfl;have x4:=ay (i:=4) aa rfl;obtain⟨f2,ae⟩:=(H9.o.drop.drop).fst;have m0:=ay (i:=0) ae rfl;have bi:(aj (av gm #[.map (some bm)] 189) (aj (av gp (dR W pa) 186) (av gr (gv false) 4))).Ok:=aB aF aO;obtain⟨f3,ar,-,bk⟩:=(H9.o.drop:aI F w1 (aj (jA bm (lh (C.take n))) (aj (av gm #[.map (some bm)] 189) (aj (av gp (dR W pa) 186) (av gr (gv false) 4)))) w5).take iZ bi;obtain⟨w8,dm,ak⟩:=Vi ar az ap.o;have ck:=au (show aI F w1 (Vh W pa bm gm gp gr (lh (C.take (n+1)))) w8 from bk _ _ ak);clear aa ae ar bk ak bi H9;go_wp2
      go_roundw
      case rel=>exact⟨n+1,b0.o,by go_num,ap.o,ck.o⟩
      case measure=>have:=b0.o;simp[intOf];omega
     ·obtain⟨m,rfl⟩:∃ m,n=m+1:=⟨n-1,by omega⟩;have db:m<C.length:=by omega
      have t0:decide ((0:Int)<((m+1:Nat):Int))=true:=decide_eq_true eL;have c2:decide (0<m+1)=true:=decide_eq_true eL;have t1:IntKind.i64.wrap (((m+1:Nat):Int)-1)=(m:Int):=by rw[kj _ eL];omega
      have d2:IntKind.i64.wrap (m:Int)=(m:Int):=kj _ eL;have dE:(m:Int)<(N:Int):=by omega
      have KM:=au (fun W'=>AQ C[m] C[m+1] W');unfold ye at KM;have d5:m<N:=by omega
      have aA:=au (fun W' (h:(fun w':World=>w'.cell? ⟨gp,0,none⟩=some (.slice pa.A W.rs.length pa.c)/\w'.cell? ⟨gp,1,none⟩=some (.int .i64 W.ka)/\w'.cell? ⟨gp,2,none⟩=some (.int .i64 W.kb)/\w'.cell? ⟨gp,3,none⟩=some (.slice pa.L W.l.length pa.lc)/\w'.cell? ⟨gp,4,none⟩=some (.slice pa.M W.m.length pa.mc)/\w'.cell? ⟨gp,5,none⟩=some (.int .i64 W.l.length)/\w'.cell? ⟨gp,6,none⟩=some (.int .i64 W.m.length)/\w'.cell? ⟨gp,7,none⟩=some (.string (bs []))/\w'.cell? ⟨gp,8,none⟩=some (.bool false)/\(oA w' gx (.int .i64 C[m+1].i) (.int .i64 C[m+1].j) (.string (bs C[m+1].a)) (.bool C[m+1].r) (.int .i64 C[m+1].h))) W') (hb:Below w.heap.size w W')=>(show(fun w':World=>w'.cell? ⟨gp,0,none⟩=some (.slice pa.A W.rs.length pa.c)/\w'.cell? ⟨gp,1,none⟩=some (.int .i64 W.ka)/\w'.cell? ⟨gp,2,none⟩=some (.int .i64 W.kb)/\w'.cell? ⟨gp,3,none⟩=some (.slice pa.L W.l.length pa.lc)/\w'.cell? ⟨gp,4,none⟩=some (.slice pa.M W.m.length pa.mc)/\w'.cell? ⟨gp,5,none⟩=some (.int .i64 W.l.length)/\w'.cell? ⟨gp,6,none⟩=some (.int .i64 W.m.length)/\w'.cell? ⟨gp,7,none⟩=some (.string (bs []))/\w'.cell? ⟨gp,8,none⟩=some (.bool false)/\w'.cell? ⟨gx,0,none⟩=some (.int .i64 C[m+1].i)/\w'.cell? ⟨gx,1,none⟩=some (.int .i64 C[m+1].j)/\w'.cell? ⟨gx,2,none⟩=some (.string (bs C[m+1].a))/\w'.cell? ⟨gx,3,none⟩=some (.bool C[m+1].r)/\w'.cell? ⟨gx,4,none⟩=some (.int .i64 C[m+1].h)/\w'.cell? ⟨b,o+m*5,none⟩=some (.int .i64 C[m].i)/\w'.cell? ⟨b,o+m*5+1,none⟩=some (.int .i64 C[m].j)/\w'.cell? ⟨b,o+m*5+2,none⟩=some (.string (bs C[m].a))/\w'.cell? ⟨b,o+m*5+3,none⟩=some (.bool C[m].r)/\w'.cell? ⟨b,o+m*5+4,none⟩=some (.int .i64 C[m].h)) W' from by
       obtain⟨a0,a1,a2,a3,a4⟩:=dp.o W' hb m db;obtain⟨h0,h1,h2,h3,h4,h5,h6,h7,h8,h9,de,dx,dC,c6⟩:=h
       exact⟨h0,h1,h2,h3,h4,h5,h6,h7,h8,h9,de,dx,dC,c6,a0,a1,a2,a3,a4⟩))
      clear cj;have af:=aA.o _ (al.o _ H8.o) (ai.o _ _ H8.o);obtain⟨cc,ct⟩:∃ cc,cc=EO C[m] C[m+1]:=⟨_,rfl⟩;have be:=au (Vm C[m] C[m+1]);rw[<-ct] at KM be;clear ct;by_cases cP:cc<0
      ·have t3:decide ((0:Int)<=cc)=false:=decide_eq_false eL;have c4:¬ (0:Int)<=cc:=by omega
       have ap:=au (bj.o (fun _=>be.o.1 cP));clear br bu bj be;refine aP (fun w':World=>w'.cell? ⟨gp,0,none⟩=some (.slice pa.A W.rs.length pa.c)/\w'.cell? ⟨gp,1,none⟩=some (.int .i64 W.ka)/\w'.cell? ⟨gp,2,none⟩=some (.int .i64 W.kb)/\w'.cell? ⟨gp,3,none⟩=some (.slice pa.L W.l.length pa.lc)/\w'.cell? ⟨gp,4,none⟩=some (.slice pa.M W.m.length pa.mc)/\w'.cell? ⟨gp,5,none⟩=some (.int .i64 W.l.length)/\w'.cell? ⟨gp,6,none⟩=some (.int .i64 W.m.length)/\w'.cell? ⟨gp,7,none⟩=some (.string (bs []))/\w'.cell? ⟨gp,8,none⟩=some (.bool false)/\w'.cell? ⟨gx,0,none⟩=some (.int .i64 C[m+1].i)/\w'.cell? ⟨gx,1,none⟩=some (.int .i64 C[m+1].j)/\w'.cell? ⟨gx,2,none⟩=some (.string (bs C[m+1].a))/\w'.cell? ⟨gx,3,none⟩=some (.bool C[m+1].r)/\w'.cell? ⟨gx,4,none⟩=some (.int .i64 C[m+1].h)/\w'.cell? ⟨b,o+m*5,none⟩=some (.int .i64 C[m].i)/\w'.cell? ⟨b,o+m*5+1,none⟩=some (.int .i64 C[m].j)/\w'.cell? ⟨b,o+m*5+2,none⟩=some (.string (bs C[m].a))/\w'.cell? ⟨b,o+m*5+3,none⟩=some (.bool C[m].r)/\w'.cell? ⟨b,o+m*5+4,none⟩=some (.int .i64 C[m].h)) rfl eQ af ?_;clear af;generalize w3.drew=w4 at *
       (repeat(first|refine bM ?_|refine bN ?_))
       refine dG rfl gh (fun K hK=>?_);go_wp2_with fail;refine(KP.o _).mono ?_;rintro e9 w5 ⟨rfl,hb⟩;have H9:=au (H8.o.below an.o hb);clear KP H8 hb;dsimp only;refine hK.o _ _ (aA.o _ (al.o _ H9.o) (ai.o _ _ H9.o)) ?_;clear hK
       (repeat(first|refine bM ?_|refine bN ?_))
       refine dG rfl gh (fun K hK=>?_);have cp:=aA.o _ (al.o _ H9.o) (ai.o _ _ H9.o);go_wp2_with fail;refine(KM.o _).mono ?_;rintro e9 w6 ⟨rfl,hb,-⟩;have am:=au (H9.o.below an.o hb);clear KM H9 hb cp;dsimp only;refine hK.o _ _ (aA.o _ (al.o _ am.o) (ai.o _ _ am.o)) ?_;clear hK
       (repeat(first|refine bM ?_|refine bN ?_))
       refine lex_nil ?_;obtain⟨f1,aa⟩:=am.o.fst;have x0:=ay (i:=0) aa rfl;have x1:=ay (i:=1) aa rfl;have x2:=ay (i:=2) aa rfl;have x3:=ay (i:=3) aa rfl;have x4:=ay (i:=4) aa rfl;obtain⟨f2,ae⟩:=(am.o.drop.drop).fst;have m0:=ay (i:=0) ae rfl;have bi:(aj (av gm #[.map (some bm)] 189) (aj (av gp (dR W pa) 186) (av gr (gv false) 4))).Ok:=aB aF aO;obtain⟨f3,ar,-,bk⟩:=(am.o.drop:aI F w1 (aj (jA bm (lh (C.take (m+1)))) (aj (av gm #[.map (some bm)] 189) (aj (av gp (dR W pa) 186) (av gr (gv false) 4)))) w6).take iZ bi;obtain⟨w8,dm,ak⟩:=Vi ar az ap.o;have ck:=au (show aI F w1 (Vh W pa bm gm gp gr (lh (C.take (m+1+1)))) w8 from bk _ _ ak);clear aa ae ar bk ak bi am;go_wp2
       go_roundw
       case rel=>exact⟨m+1+1,b0.o,by go_num,ap.o,ck.o⟩
       case measure=>have:=b0.o;simp[intOf];omega
      ·have t3:decide ((0:Int)<=cc)=true:=decide_eq_true eL;have c4:(0:Int)<=cc:=by omega
       have HF:=au (show(false=true)↔jq T k x k2 y bound C from⟨fun h=>(by cases h),fun h=>(bu.o eL (fun h2=>cP (be.o.2 h2)) (by rw[bo.o];exact h.2)).elim⟩);clear br bu bj be;refine aP (fun w':World=>w'.cell? ⟨gp,0,none⟩=some (.slice pa.A W.rs.length pa.c)/\w'.cell? ⟨gp,1,none⟩=some (.int .i64 W.ka)/\w'.cell? ⟨gp,2,none⟩=some (.int .i64 W.kb)/\w'.cell? ⟨gp,3,none⟩=some (.slice pa.L W.l.length pa.lc)/\w'.cell? ⟨gp,4,none⟩=some (.slice pa.M W.m.length pa.mc)/\w'.cell? ⟨gp,5,none⟩=some (.int .i64 W.l.length)/\w'.cell? ⟨gp,6,none⟩=some (.int .i64 W.m.length)/\w'.cell? ⟨gp,7,none⟩=some (.string (bs []))/\w'.cell? ⟨gp,8,none⟩=some (.bool false)/\w'.cell? ⟨gx,0,none⟩=some (.int .i64 C[m+1].i)/\w'.cell? ⟨gx,1,none⟩=some (.int .i64 C[m+1].j)/\w'.cell? ⟨gx,2,none⟩=some (.string (bs C[m+1].a))/\w'.cell? ⟨gx,3,none⟩=some (.bool C[m+1].r)/\w'.cell? ⟨gx,4,none⟩=some (.int .i64 C[m+1].h)/\w'.cell? ⟨b,o+m*5,none⟩=some (.int .i64 C[m].i)/\w'.cell? ⟨b,o+m*5+1,none⟩=some (.int .i64 C[m].j)/\w'.cell? ⟨b,o+m*5+2,none⟩=some (.string (bs C[m].a))/\w'.cell? ⟨b,o+m*5+3,none⟩=some (.bool C[m].r)/\w'.cell? ⟨b,o+m*5+4,none⟩=some (.int .i64 C[m].h)) rfl eQ af ?_;clear af;generalize w3.drew=w4 at *
       (repeat(first|refine bM ?_|refine bN ?_))
       refine dG rfl gh (fun K hK=>?_);go_wp2_with fail;refine(KP.o _).mono ?_;rintro e9 w5 ⟨rfl,hb⟩;have H9:=au (H8.o.below an.o hb);clear KP H8 hb;dsimp only;refine hK.o _ _ (aA.o _ (al.o _ H9.o) (ai.o _ _ H9.o)) ?_;clear hK
       (repeat(first|refine bM ?_|refine bN ?_))
       refine dG rfl gh (fun K hK=>?_);have cp:=aA.o _ (al.o _ H9.o) (ai.o _ _ H9.o);go_wp2_with fail;refine(KM.o _).mono ?_;rintro e9 w6 ⟨rfl,hb,-⟩;have am:=au (H9.o.below an.o hb);clear KM H9 hb cp;dsimp only;refine hK.o _ _ (aA.o _ (al.o _ am.o) (ai.o _ _ am.o)) ?_;clear hK
       (repeat(first|refine bM ?_|refine bN ?_))
       refine lex_nil ?_;obtain⟨q0,q1,q2⟩:=PZ cg.o cf.o aF am.o;have Q2:=au (q2 false);have q3:=Q2.o.1;clear q2;go_wp2;refine⟨_,uZ rfl q3,?_⟩;exact⟨false,rfl,HF.o,Q2.o.2⟩
   ·obtain rfl:n=N:=by omega
    have bh:(∀ p ∈ C,proper W bound p=true)/\C.Pairwise BO:=by
     have h:=cm.o;unfold C8 at h;rw[HN.o,kz] at h;exact h
    have aD:=au bh;have bz:=HR.o;rw[HN.o,kz] at bz;clear cm HR bh;unfold Vh at bz;obtain⟨es,I,aw,bw⟩:=xW bz;have a5:=au aw;obtain⟨F5,cS⟩:=bw.fst;obtain⟨F6,cA⟩:=bw.drop.fst;have c9:=ay (i:=0) cA rfl;obtain⟨bx,cd⟩:=Go.CH.run_range_map (P:=Tryz.prog) Tryz.underlying189 cS.1;have cv:(aj (aX bm (.map es I)) (aj (av gm #[.map (some bm)] 189) (aj (av gp (dR W pa) 186) (av gr (gv false) 4)))).Ok:=aB bg aO;have R6:=au (bw.fresh cv (J9 wr cd));have b7:=au (Ka aw.1);clear aw cS cA cd bz bw cv;have R7:=au (show aI F w1 (AU W pa es I bm gm gp gr wr.heap.size es.toList []) _ from(R6.o.one.perm (by unfold AU dO;show _=aj _ (aj _ (aj _ (aj _ (aj _ bG))));ac_rfl)));have dd:=au (show W.good by rw[bo.o];exact(rR (fV.1 cr.o).2.2).1);have cq:=au (fun q hq=>Z2 (W:=W) (bound:=bound) aD.o.1 (q:=q) hq);have dy:=au (fun s=>Z1 (W:=W) (bound:=bound) aD.o.1 s);clear R6;go_wp2_with fail;clear bx c9;generalize wr.alloc (.mapIter (some bm) I #[] I)=w3 at *
    generalize wr.heap.size=gi at *
    refine wp_loop (Rr F w1 W pa C bound es I bm gm gp gr gi) (fun _ w9=>IK es gi w9) ?_ ?_
    ·exact RE [] (Dn:=[]) rfl rfl rfl rfl rfl rfl rfl R7.o (by rw[me,b7.o.1]) (fun _ h=>h) (fun q hq=>by cases hq)
    clear R7;rintro a9 w4 ⟨v,Ds,left,Dn,⟨hR,hpm,ag,hdn⟩,rfl⟩;have cG:=au hpm;have cw:=au ag;have cE:=au hdn;have HR:=au hR;have cT:=au (P6 (show aI F w1 (aj (j5 gi bm es I left) _) w4 from hR));obtain⟨FI,cn⟩:=hR.fst;obtain⟨FB,bv⟩:=hR.drop.fst;rcases Go.CH.run_next_map (P:=Tryz.prog) cn.1 bv.1 a5.o.2.2.2 a5.o.2.2.1 0 with⟨cQ,a8⟩|⟨i,hi,w6,a8,b9,cN,cI,ca⟩
    ·have hD:Dn.Perm (lh C):=by have h:=cG.o;rw[cQ,pL,mT] at h;exact h
     have aE:=au (fun hb=>Sm (W:=W) (bound:=bound) aD.o hD cE.o hb);have c8:(Instr.lookup 189 (.map (some bm)) (.agg #[.int .i64 0,.int .i64 0,.string { data:=#[] },.bool false]) false).run Tryz.prog w4=.ok (.int .i64 (jj C gC)) w4:=P5 bv.1 a5.o gC;obtain⟨FM,cY⟩:=hR.drop.drop.fst;have c9:=ay (i:=0) cY rfl;have h8:=hR.perm (by unfold AU;ac_rfl:_=aj (av gr (gv false) 4) (aj (dO Ds) (aj (j5 gi bm es I left) (aj (aX bm (.map es I)) (aj (av gm #[.map (some bm)] 189) (av gp (dR W pa) 186))))));obtain⟨FR,ax⟩:=h8.fst;have q0:=ay (i:=0) ax rfl;have q1:=aN ax 0;have okW:(aj (dO Ds) (aj (j5 gi bm es I left) (aj (aX bm (.map es I)) (aj (av gm #[.map (some bm)] 189) (av gp (dR W pa) 186))))).Ok:=aB lq aO;have b3:=au (fun b:Bool=>(aJ h8 okW 0 (.bool b)).perm (by ac_rfl:_=aj (dO Ds) (aj (av gr (gv b) 4) (aj (j5 gi bm es I left) (aj (aX bm (.map es I)) (aj (av gm #[.map (some bm)] 189) (av gp (dR W pa) 186)))))));have a6:∀ b:Bool,(aj (av gr (gv b) 4) (aj (j5 gi bm es I left) (aj (aX bm (.map es I)) (aj (av gm #[.map (some bm)] 189) (av gp (dR W pa) 186))))).Ok:=fun b=>aB aF aO;have an:=au a6;obtain⟨hh,ci⟩:∃ h,h=jj C gC:=⟨_,rfl⟩;rw[<-ci] at c8 aE;have du:=au ci;clear hD hpm ag hdn hR cn bv cY h8 ax okW a6 cQ cT HR ci;by_cases hb:bound<=hh
     ·have HF:=au (show jq T k x k2 y bound C from⟨cr.o,by rw[<-bo.o];exact aE.o hb⟩);clear aE;go_wp2_with fail;refine lu (an.o true) (fun W' hr=>?_) Ds _ (b3.o true);obtain⟨f,hf⟩:=hr.fst;exact⟨_,uZ (g:=gr) rfl (ay (i:=0) hf rfl),true,rfl,⟨fun _=>HF.o,fun _=>rfl⟩,ai.o _ _ hr⟩
     ·have HF:=au (show(false=true)↔jq T k x k2 y bound C from⟨fun h=>(by cases h),fun h=>(hb (by rw[du.o];exact h.2.2.2.2)).elim⟩);clear aE;go_wp2_with fail;refine lu (an.o false) (fun W' hr=>?_) Ds _ (b3.o false);obtain⟨f,hf⟩:=hr.fst;exact⟨_,uZ (g:=gr) rfl (ay (i:=0) hf rfl),false,rfl,HF.o,ai.o _ _ hr⟩
    ·obtain⟨F7,h7,-,bk⟩:=hR.take xV aO;have h8:=bk (j5 gi bm es I (left.eraseIdx i)) w6 ⟨F7,⟨b9,h7.2⟩,cN.mono (fun j _ hj=>(h7.2 j).2 hj),fun i hi=>.inl hi⟩;have R8:=au (show aI F w1 (AU W pa es I bm gm gp gr gi (left.eraseIdx i) Ds) w6 from h8);obtain⟨dT,b6⟩:=h8.drop.fst;have bb:=ca w6 rfl b6.1;obtain⟨b8,b5⟩:=b7.o.2 _ (ag _ (gw hi));rw[b8,b5] at a8 bb;have b4:=au (Gc hi hpm);have dg:=au (fun e (he:e ∈ left.eraseIdx i)=>ag e (N6 he));have ce:=au (show(left.eraseIdx i).length<left.length by rw[Fl,if_pos hi];omega);have HQ:=au (show wE left[i] ∈ lh C from hpm.mem_iff.1 (zg _ (List.mem_map.2 ⟨_,gw hi,rfl⟩)));generalize wE left[i]=q at b4 HQ a8 bb;obtain⟨g1,g2,g3,g4⟩:=cq.o _ HQ.o;have cz:=au g1;have dj:=au g2;clear hpm ag hdn hR cn bv h7 bk h8 b6 b8 b5 ca b9 cN cI HR cG cw g1 g2 hi;generalize left.eraseIdx i=J at *
     have r9:=aH R8.o Vl (dz q.1) 184;have bc:=aH r9 aO (fR q.2) 3;rw[ik] at bc;have cW:=au bc;have KM:=au (fun w=>FQ (W:=W) (a:=pa) (s:=q.1) w);unfold eP dR sO at KM;obtain⟨FP,ao⟩:=(bc.drop.drop.perm (by unfold AU;ac_rfl:_=aj (av gp (dR W pa) 186) (aj (j5 gi bm es I J) (aj (aX bm (.map es I)) (aj (av gm #[.map (some bm)] 189) (aj (av gr (gv false) 4) (dO Ds))))))).fst;obtain⟨FS,bn⟩:=bc.drop.fst;have p0:=ay (v:=.slice pa.A W.rs.length pa.c) (i:=0) ao rfl;have p1:=ay (v:=.int .i64 W.ka) (i:=1) ao rfl;have p2:=ay (v:=.int .i64 W.kb) (i:=2) ao rfl;have p3:=ay (v:=.slice pa.L W.l.length pa.lc) (i:=3) ao rfl;have p4:=ay (v:=.slice pa.M W.m.length pa.mc) (i:=4) ao rfl;have p5:=ay (v:=.int .i64 W.l.length) (i:=5) ao rfl;have p6:=ay (v:=.int .i64 W.m.length) (i:=6) ao rfl;have p7:=ay (v:=.string (bs [])) (i:=7) ao rfl;have p8:=ay (v:=.bool false) (i:=8) ao rfl;have s0:=ay (v:=.int .i64 q.1.i) (i:=0) bn rfl;have s1:=ay (v:=.int .i64 q.1.j) (i:=1) bn rfl;have s2:=ay (v:=.string (bs q.1.a)) (i:=2) bn rfl;have s3:=ay (v:=.bool q.1.r) (i:=3) bn rfl;clear R8 r9 bc ao bn;unfold sO at a8 bb;unfold dz at a8 bb p0 p1 p2 p3 p4 p5 p6 p7 p8 s0 s1 s2 s3 KM;go_wp2_with fail;refine(KM.o _).mono ?_;rintro e9 w9 ⟨b1,b2,rfl,hp⟩;have S1:=au (cW.o.fresh aO hp);clear KM hp cW p0 p1 p2 p3 p4 p5 p6 p7 p8 s0 s1 s2 s3;dsimp only;go_wp2_with fail;generalize w6.heap.size+1=ab at *
     generalize w6.heap.size=ac at *
     generalize Value.tuple #[Value.bool true,Value.agg (fN q.1.i q.1.j (bs q.1.a) q.1.r),.int .i64 q.2]=z77;generalize Value.tuple #[Value.agg (fN q.1.i q.1.j (bs q.1.a) q.1.r),.int .i64 q.2]=z79;generalize Value.agg (fN q.1.i q.1.j (bs q.1.a) q.1.r)=z80;generalize Value.agg (vh pa.A W.rs.length pa.c W.ka W.kb pa.L W.l.length pa.lc pa.M W.m.length pa.mc W.l.length W.m.length (bs []) false)=z82;clear a8 bb;have df:=au (CV (W:=W) (s:=q.1) (pa:=pa) (b1:=b1) (b2:=b2) cz.o HS.o (j8 dj.o eL));have bp:(aj (av ac (dz q.1) 184) (aj (av ab (fR q.2) 3) (AU W pa es I bm gm gp gr gi J Ds))).Ok:=aB aF aO;have cy:=au bp;have dw:∀ i,(tu (wH W C q i) (aj (av ac (dz q.1) 184) (aj (av ab (fR q.2) 3) (AU W pa es I bm gm gp gr gi J Ds)))).Ok:=fun i=>gJ bp;have cH:∀ (i:Nat) (a':Act),(lW fun g:Nat=>lW fun x:Int × St=>tu ((W.moves q.1)[i]?=some x/\wH W C q i/\a'={ tmps:=#[v 0,v 1,v 2,v 3,v 4,.int .i64 bound,v 6,v 7,v 8,v 9,v 10,v 11,v 12,v 13,.pointer (some ⟨gr,0,none⟩),.pointer (some ⟨gp,0,none⟩),v 16,.pointer (some ⟨gm,0,none⟩),v 18,v 19,.pointer (some ⟨ac,0,none⟩),.pointer (some ⟨ab,0,none⟩),.int .i64 x.1,.pointer (some ⟨g,0,none⟩),v 24,v 25,v 26,v 27,v 28,v 29,v 30,v 31,v 32,v 33,v 34,v 35,v 36,v 37,v 38,v 39,v 40,v 41,v 42,v 43,v 44,v 45,v 46,v 47,v 48,v 49,v 50,v 51,v 52,v 53,v 54,v 55,v 56,v 57,v 58,v 59,v 60,v 61,v 62,v 63,v 64,v 65,v 66,v 67,v 68,v 69,v 70,v 71,v 72,v 73,v 74,v 75,.pointer (some ⟨gi,0,none⟩),z77,.bool true,z79,z80,.int .i64 q.2,z82,z80,D4 b1 b2,.int .i64 x.1,.agg (dz x.2),v 87,v 88,v 89,v 90,v 91,v 92,v 93,v 94,v 95,v 96,v 97,v 98],defers:=[] }) (aj (av g (dz x.2) 184) (aj (av ac (dz q.1) 184) (aj (av ab (fR q.2) 3) (AU W pa es I bm gm gp gr gi J Ds))))).Ok:=fun i a'=>bZ fun g=>bZ fun x=>gJ (aB aF bp);have a6:∀ c:Code,(tu (c=.ret/\¬ uj W C q) (aj (av ac (dz q.1) 184) (aj (av ab (fR q.2) 3) (AU W pa es I bm gm gp gr gi J Ds)))).Ok:=fun c=>gJ bp;have da:aI F w1 (aj (Zm W pa q.1 b1 b2) (tu (wH W C q 0) (aj (av ac (dz q.1) 184) (aj (av ab (fR q.2) 3) (AU W pa es I bm gm gp gr gi J Ds))))) w9:=(aI.iT Ke (S1.o.perm (by ac_rfl:_=aj (aj (av ac (dz q.1) 184) (aj (av ab (fR q.2) 3) (AU W pa es I bm gm gp gr gi J Ds))) (Zm W pa q.1 b1 b2)))).swap;clear bp S1;refine DR (gf:=101) (lb:=(s7 (some ⟨b1,0,none⟩) (some ⟨b2,0,none⟩))) rfl (enters_of Tryz.func101 eQ rfl) df.o (fun _=>gP) (fun _=>rfl) HE.o _ (fun c=>tu (c=.ret/\¬ uj W C q) (aj (av ac (dz q.1) 184) (aj (av ab (fR q.2) 3) (AU W pa es I bm gm gp gr gi J Ds)))) dw _ cH a6 da ?_ ?_ ?_ ?_
     ·intro lo m i hi R W1 K hR hI hK;obtain⟨aq,h1⟩:=hI.pure;have h3:=aH h1 (aB cy.o hR) (dz (W.moves q.1)[i].2) 184;have HF:=au (hK { tmps:=#[v 0,v 1,v 2,v 3,v 4,.int .i64 bound,v 6,v 7,v 8,v 9,v 10,v 11,v 12,v 13,.pointer (some ⟨gr,0,none⟩),.pointer (some ⟨gp,0,none⟩),v 16,.pointer (some ⟨gm,0,none⟩),v 18,v 19,.pointer (some ⟨ac,0,none⟩),.pointer (some ⟨ab,0,none⟩),.int .i64 (W.moves q.1)[i].1,.pointer (some ⟨W1.heap.size,0,none⟩),v 24,v 25,v 26,v 27,v 28,v 29,v 30,v 31,v 32,v 33,v 34,v 35,v 36,v 37,v 38,v 39,v 40,v 41,v 42,v 43,v 44,v 45,v 46,v 47,v 48,v 49,v 50,v 51,v 52,v 53,v 54,v 55,v 56,v 57,v 58,v 59,v 60,v 61,v 62,v 63,v 64,v 65,v 66,v 67,v 68,v 69,v 70,v 71,v 72,v 73,v 74,v 75,.pointer (some ⟨gi,0,none⟩),z77,.bool true,z79,z80,.int .i64 q.2,z82,z80,D4 b1 b2,.int .i64 (W.moves q.1)[i].1,.agg (dz (W.moves q.1)[i].2),v 87,v 88,v 89,v 90,v 91,v 92,v 93,v 94,v 95,v 96,v 97,v 98],defers:=[] } _ (aI.nZ W1.heap.size (aI.nZ (W.moves q.1)[i] (aI.iT ⟨ic hi,aq,rfl⟩ (h3.perm (by ac_rfl))))));clear hI h1 h3 hK aq;unfold CU;generalize (W.moves q.1)[i]=x at *
      obtain⟨xc,⟨xi,xj,xa,xr⟩⟩:=x;unfold dz;unfold dz at HF;gi_wp2;exact HF.o
     ·intro lo m i hi a' R W1 hR hI;obtain⟨g,h1⟩:=hI.ex;obtain⟨x,h1⟩:=h1.ex;obtain⟨⟨hx,aq,rfl⟩,h2⟩:=h1.pure;have ag:x ∈ W.moves q.1:=pT hx;have cV:=au (fun h=>Kg hx aq h);have c0:=au (fun h=>Vj (W:=W) (C:=C) (q:=q) (x:=x) ag h);have di:=iH dd.o (c:=x.1) (s':=x.2) ag;obtain⟨ds,dt⟩:=dy.o x.2;have H2:=au (h2.perm (by ac_rfl:_=aj (av g (dz x.2) 184) (aj (aj (av ac (dz q.1) 184) (aj (av ab (fR q.2) 3) (AU W pa es I bm gm gp gr gi J Ds))) R)));have d4:=au hR;have hS:∀ W',aI F w1 (aj (av g (dz x.2) 184) (aj (aj (av ac (dz q.1) 184) (aj (av ab (fR q.2) 3) (AU W pa es I bm gm gp gr gi J Ds))) R)) W'->(W'.cell? ⟨ab,0,none⟩=some (.int .i64 q.2)/\W'.cell? ⟨gm,0,none⟩=some (.map (some bm))/\W'.cell? ⟨g,0,none⟩=some (.int .i64 x.2.i)/\W'.cell? ⟨g,1,none⟩=some (.int .i64 x.2.j)/\W'.cell? ⟨g,2,none⟩=some (.string (bs x.2.a))/\W'.cell? ⟨g,3,none⟩=some (.bool x.2.r)/\(Instr.lookup 189 (.map (some bm)) (.agg (fN x.2.i x.2.j (bs x.2.a) x.2.r)) false).run Tryz.prog W'=.ok (.int .i64 (jj C x.2)) W'):=fun W' h=>by
       obtain⟨f1,aa⟩:=h.fst;have h9:=h.perm (by unfold AU;ac_rfl:_=aj (av ab (fR q.2) 3) (aj (av gm #[.map (some bm)] 189) (aj (aX bm (.map es I)) (aj (av g (dz x.2) 184) (aj (av ac (dz q.1) 184) (aj (j5 gi bm es I J) (aj (av gp (dR W pa) 186) (aj (av gr (gv false) 4) (aj (dO Ds) R)))))))));obtain⟨f2,ae⟩:=h9.fst;obtain⟨f3,ar⟩:=h9.drop.fst;obtain⟨f4,dc⟩:=h9.drop.drop.fst;exact⟨ay ae rfl,ay ar rfl,ay aa rfl,ay aa rfl,ay aa rfl,ay aa rfl,P5 dc.1 a5.o x.2⟩
      have cD:(aj (av g (dz x.2) 184) (aj (aj (av ac (dz q.1) 184) (aj (av ab (fR q.2) 3) (AU W pa es I bm gm gp gr gi J Ds))) R)).Ok:=aB aF (aB cy.o hR);have H3:=au (H2.o.drew cD);have af:=hS _ H3.o;have h4:=H3.o.perm (by unfold AU;ac_rfl:_=aj (av gr (gv false) 4) (aj (av g (dz x.2) 184) (aj (av ac (dz q.1) 184) (aj (av ab (fR q.2) 3) (aj (j5 gi bm es I J) (aj (aX bm (.map es I)) (aj (av gm #[.map (some bm)] 189) (aj (av gp (dR W pa) 186) (aj (dO Ds) R)))))))));have co:(aj (av g (dz x.2) 184) (aj (av ac (dz q.1) 184) (aj (av ab (fR q.2) 3) (aj (j5 gi bm es I J) (aj (aX bm (.map es I)) (aj (av gm #[.map (some bm)] 189) (aj (av gp (dR W pa) 186) (aj (dO Ds) R)))))))).Ok:=aB aF aO;obtain⟨fr,ch⟩:=h4.fst;have q0:=ay (i:=0) ch rfl;have q1:=aN ch 0;have H5:=au ((aJ h4 co 0 (.bool false)).perm (by unfold AU;ac_rfl:_=aj (av g (dz x.2) 184) (aj (aj (av ac (dz q.1) 184) (aj (av ab (fR q.2) 3) (AU W pa es I bm gm gp gr gi J Ds))) R)));have d3:=au (aJ h4 co 0 (.bool false));clear hI h1 h2 hx aq ag hS cD co h4 ch H2 hi;obtain⟨xc,⟨xi,xj,xa,xr⟩⟩:=x;unfold dz;dsimp only at di ds dt af cV c0 ⊢;generalize jj C { i:=xi,j:=xj,a:=xa,r:=xr }=hg at *
      have t1:IntKind.i64.wrap (xc+hg)=xc+hg:=kj _ eL;refine wpIn_block (wpIn_seq ?_);by_cases cJ:q.2<=xc+hg
      ·have t2:decide (xc+hg<q.2)=false:=decide_eq_false eL;have c5:=au (cV.o cJ);refine mW (fun w':World=>w'.cell? ⟨ab,0,none⟩=some (.int .i64 q.2)/\w'.cell? ⟨gm,0,none⟩=some (.map (some bm))/\w'.cell? ⟨g,0,none⟩=some (.int .i64 xi)/\w'.cell? ⟨g,1,none⟩=some (.int .i64 xj)/\w'.cell? ⟨g,2,none⟩=some (.string (bs xa))/\w'.cell? ⟨g,3,none⟩=some (.bool xr)/\(Instr.lookup 189 (.map (some bm)) (.agg (fN xi xj (bs xa) xr)) false).run Tryz.prog w'=.ok (.int .i64 hg) w') rfl (fun⟨a,w,h⟩=>h) rfl eQ af ?_;clear af
       (repeat(first|refine bM ?_|refine bN ?_))
       refine lex_nil ?_;gi_wp2;exact aI.iT c5.o H3.o.drop
      ·have t2:decide (xc+hg<q.2)=true:=decide_eq_true eL;have dl:=au (c0.o cJ);refine mW (fun w':World=>w'.cell? ⟨ab,0,none⟩=some (.int .i64 q.2)/\w'.cell? ⟨gm,0,none⟩=some (.map (some bm))/\w'.cell? ⟨g,0,none⟩=some (.int .i64 xi)/\w'.cell? ⟨g,1,none⟩=some (.int .i64 xj)/\w'.cell? ⟨g,2,none⟩=some (.string (bs xa))/\w'.cell? ⟨g,3,none⟩=some (.bool xr)/\(Instr.lookup 189 (.map (some bm)) (.agg (fN xi xj (bs xa) xr)) false).run Tryz.prog w'=.ok (.int .i64 hg) w') rfl (fun⟨a,w,h⟩=>h) rfl eQ af ?_;clear af
       (repeat(first|refine bM ?_|refine bN ?_))
       refine lex_nil ?_;gi_wp2;exact aI.iT ⟨rfl,dl.o⟩ H5.o.drop
     ·intro D R W1 hR hI;obtain⟨aq,h2⟩:=hI.pure;have h3:=h2.perm (by unfold AU;rw[wK];ac_rfl:_=aj (aj (av ac (dz q.1) 184) (aj (av ab (fR q.2) 3) R)) (AU W pa es I bm gm gp gr gi J (D::Ds)));have H3:=au h3.drop;have c1:=au (Nw aq);clear hI h2 h3 aq;go_wp2_with fail;refine⟨RE (D::Ds) rfl rfl rfl rfl rfl rfl rfl H3.o b4.o dg.o (fun p hp=>?_),?_⟩
      ·rcases List.mem_append.1 hp with hp|hp
       ·exact cE.o p hp
       ·rw[List.mem_singleton.1 hp];exact c1.o
      ·rw[P6 (show aI F w1 (aj (j5 gi bm es I J) _) W1 from H3.o),cT.o];exact ce.o
     ·intro D c9 R W1 hR hI;obtain⟨⟨rfl,cX⟩,h2⟩:=hI.pure;have HF:=au (show(false=true)↔jq T k x k2 y bound C from⟨fun h=>(by cases h),fun h=>(Vk HQ.o cX (by rw[bo.o];exact h.2)).elim⟩);have H3:=au (h2.perm (by unfold AU;rw[wK];ac_rfl:_=aj (dO (D::Ds)) (aj (av gr (gv false) 4) (aj (av ac (dz q.1) 184) (aj (av ab (fR q.2) 3) (aj (j5 gi bm es I J) (aj (aX bm (.map es I)) (aj (av gm #[.map (some bm)] 189) (aj (av gp (dR W pa) 186) R)))))))));have a6:(aj (av gr (gv false) 4) (aj (av ac (dz q.1) 184) (aj (av ab (fR q.2) 3) (aj (j5 gi bm es I J) (aj (aX bm (.map es I)) (aj (av gm #[.map (some bm)] 189) (aj (av gp (dR W pa) 186) R))))))).Ok:=aB aF aO;clear hI h2 cX;go_wp2_with fail;refine lu a6 (fun W' hr=>?_) (D::Ds) _ H3.o;obtain⟨f,hf⟩:=hr.fst;exact⟨_,uZ (g:=gr) rfl (ay (i:=0) hf rfl),false,rfl,HF.o,ai.o _ _ hr⟩
def dF(s:Bs):Bool:=decide (s.length<=60)
def ZQ(R:im):Bool:=dF R.f&&dF R.t
def MV(d:Drop):Bool:=dF d.w
def wv(p:Pt):Bool:=dF p.a
def BD(T:eW)(C:List Pt):Bool:=decide (T.rs.length<=60)&&(decide (T.ds.length<=40)&&(decide (T.es.length<=40)&&(decide (C.length<=2000)&&(T.rs.all ZQ&&(T.ds.all MV&&(T.es.all MV&&C.all wv))))))
theorem mo{s:Bs}:dF s=true↔s.length<=60:=by unfold dF;rw[decide_eq_true_eq]
variable{a:TA}
theorem uo:BD T C=true↔(T.rs.length<=60/\T.ds.length<=40/\T.es.length<=40/\C.length<=2000)/\(∀ R ∈ T.rs,ZQ R=true)/\(∀ d ∈ T.ds,MV d=true)/\(∀ d ∈ T.es,MV d=true)/\∀ p ∈ C,wv p=true:=by
 unfold BD;simp only[gA,decide_eq_true_eq,j7,and_assoc]
structure vQ(w:World)(T:eW)(a:TA):Prop where
 rs:l8 w a.A T.rs
 ds:nP w a.D T.ds
 es:nP w a.E T.es
theorem vQ.below(h:vQ w T a)(hb:Below w.heap.size w w'):vQ w' T a:=⟨h.rs.below hb,h.ds.below hb,h.es.below hb⟩
theorem vQ.Se(h:vQ w T a)(J:BD T C=true):jV w T a:=by
 obtain⟨⟨h1,h2,h3,h4⟩,g1,g2,I,g4⟩:=uo.1 J;refine { rs:=h.rs,ds:=h.ds,es:=h.es,lr:=by omega,ld:=by omega,le:=by omega,sr:=fun R M=>?_,sd:=fun d hd=>?_,se:=fun d hd=>?_ }
 ·have:=g1 R M;unfold ZQ at this;rw[gA,mo,mo] at this;exact⟨by omega,by omega⟩
 ·have:=mo.1 (g2 d hd);omega
 ·have:=mo.1 (I d hd);omega
theorem Gf(s:Bs)(w:World):Calls Tryz.prog 21 #[.string (bs s)] w (fun e w'=>e=.returned (.bool (dF s))/\w'=w):=by
 by_cases h:s.length<=60
 ·have I:((bs s).size:Int)<=60:=by rw[cO];omega
  unfold dF;rw[decide_eq_true h]
  go_enter Tryz.func21,Tryz.ntmps21
  go_wp2;go_ret;exact⟨rfl,rfl⟩
 ·have I:¬ ((bs s).size:Int)<=60:=by rw[cO];omega
  unfold dF;rw[decide_eq_false h]
  go_enter Tryz.func21,Tryz.ntmps21
  go_wp2;go_ret;exact⟨rfl,rfl⟩
theorem nk{α:Type}{p:α->Bool}{l:List α}{k:Nat}(hk:k<l.length)(h:∀ x ∈ l.take k,p x=true)(h2:p l[k]=true):∀ x ∈ l.take (k+1),p x=true:=by
 intro x hx;rw[kq hk] at hx;rcases List.mem_append.1 hx with hx|hx
 ·exact h x hx
 ·rw[List.mem_singleton.1 hx];exact h2
theorem Ko{B:eV}(hT:vQ w T a)(hC:zQ w B C):Calls Tryz.prog 22 #[dI T a,.slice B C.length c] w (aT w (.bool (BD T C))):=by
 obtain⟨A,ac,D,dc,E,ec⟩:=a;have HT:=au hT;have HC:=au hC;have h1:aI eR w (aj (av w.heap.size (dN T ⟨A,ac,D,dc,E,ec⟩) 25) bG) _:=aH (aI.begin w) aM _ 25;have HB:=au (h1.mod.below (fun _ _ h=>h));obtain⟨F,hF⟩:=h1.fst;obtain⟨n1,ax⟩:∃ n,n=T.rs.length:=⟨_,rfl⟩;obtain⟨n2,ar⟩:∃ n,n=T.ds.length:=⟨_,rfl⟩;obtain⟨n3,aw⟩:∃ n,n=T.es.length:=⟨_,rfl⟩;obtain⟨n4,aq⟩:∃ n,n=C.length:=⟨_,rfl⟩;have c0:=ay (v:=.slice A T.rs.length ac) (i:=0) hF rfl;have c1:=ay (v:=.slice D T.ds.length dc) (i:=1) hF rfl;have c2:=ay (v:=.slice E T.es.length ec) (i:=2) hF rfl;have an:=au ax;have ao:=au ar;have al:=au aw;have ak:=au aq;clear hT hC h1 hF;unfold dI dN;unfold dN at HB c0 c1 c2;dsimp only at HB c0 c1 c2 ⊢;rw[<-ax,<-ar,<-aw] at HB c0 c1 c2 ⊢;rw[<-aq];clear ax ar aw aq;obtain⟨b,hb⟩:∃ b,b=BD T C:=⟨_,rfl⟩;rw[<-hb];have HV:=au hb
 have ae:=au (show ¬ ((n1<=60/\n2<=40/\n3<=40/\n4<=2000)/\(∀ R ∈ T.rs,ZQ R=true)/\(∀ d ∈ T.ds,MV d=true)/\(∀ d ∈ T.es,MV d=true)/\∀ p ∈ C,wv p=true)->b=false from fun h=>by
  rw[hb,rB];intro h2;rw[uo,<-an.o,<-ao.o,<-al.o,<-ak.o] at h2
  exact h h2)
 clear hb;have KS:=au (fun s W=>Gf s W)
 go_enter Tryz.func22,Tryz.ntmps22
 iterate 10 (first|go_values|go_guarded|go_step)
 generalize w.alloc (.cells (fh A n1 ac D n2 dc E n3 ec T.drop T.ord T.ini) 25)=w1 at *
 generalize w.heap.size=gt at c0 c1 c2 ⊢;by_cases h1:60<n1
 ·have aD:(60:Int)<(n1:Int):=by omega
  have HF:=au (ae.o (fun h=>by omega));clear ae HV KS h1;go_wp2;go_ret;exact aK HF.o HB.o
 have k1:=uC h1;have aD:¬ (60:Int)<(n1:Int):=by omega
 clear h1;by_cases h2:40<n2
 ·have a1:(40:Int)<(n2:Int):=by omega
  have HF:=au (ae.o (fun h=>by omega));clear ae HV KS h2 k1;go_wp2;go_ret;exact aK HF.o HB.o
 have k2:=uC h2;have a1:¬ (40:Int)<(n2:Int):=by omega
 clear h2;by_cases h3:40<n3
 ·have aE:(40:Int)<(n3:Int):=by omega
  have HF:=au (ae.o (fun h=>by omega));clear ae HV KS h3 k1 k2;go_wp2;go_ret;exact aK HF.o HB.o
 have k3:=uC h3;have aE:¬ (40:Int)<(n3:Int):=by omega
 clear h3;by_cases h4:2000<n4
 ·have az:(2000:Int)<(n4:Int):=by omega
  have HF:=au (ae.o (fun h=>by omega));clear ae HV KS h4 k1 k2 k3;go_wp2;go_ret;exact aK HF.o HB.o
 have k4:=uC h4;have az:¬ (2000:Int)<(n4:Int):=by omega
 clear h4;go_wp2_with fail
 go_loop [5] (fun i=>∃ k:Nat,k<=n1/\i=.int .i64 k/\∀ x ∈ T.rs.take k,ZQ x=true) (fun i=>n1-(intOf i).toNat)
 case atStart=>exact⟨0,fy _,rfl,by simp⟩
 case round=>
  obtain⟨k,hk,rfl,J⟩:=hrel;have HA:=au J;clear J;by_cases M:k<n1
  ·have aa:k<T.rs.length:=by rw[<-an.o];exact M
   have af:=au M;have ap:(k:Int)<1000000:=by omega
   obtain⟨bb,o,rfl,hc⟩:=l8.at HT.o.rs eL;obtain⟨r0,r1,r2,r3⟩:=hc w1 HB.o k aa;have ag:=au (fun h=>nk (p:=ZQ) aa HA.o h);have ab:=au (show ZQ T.rs[k]=false->b=false from fun h=>ae.o (fun h2=>by have:=h2.2.1 _ (gw aa);rw[h] at this;cases this));clear hc;have ad:=au (show ZQ T.rs[k]=(dF T.rs[k].f&&dF T.rs[k].t) from rfl);have K0:=au (fun W=>KS.o T.rs[k].f W);have K1:=au (fun W=>KS.o T.rs[k].t W);generalize T.rs[k]=z at *
   cases I:dF z.f with
   | false=>
    simp only[I] at K0;go_wp2_with fail;refine(K0.o _).mono ?_;rintro e9 w9 ⟨rfl,rfl⟩;clear K0;dsimp only;have HF:=au (ab.o (by rw[ad.o,I];rfl));go_wp2;go_ret;exact aK HF.o HB.o
   | true=>
    simp only[I] at K0;go_wp2_with fail;refine(K0.o _).mono ?_;rintro e9 w9 ⟨rfl,rfl⟩;clear K0;dsimp only;cases am:dF z.t with
    | false=>
     simp only[am] at K1;go_wp2_with fail;refine(K1.o _).mono ?_;rintro e9 w9 ⟨rfl,rfl⟩;clear K1;dsimp only;have HF:=au (ab.o (by rw[ad.o,I,am];rfl));go_wp2;go_ret;exact aK HF.o HB.o
    | true=>
     simp only[am] at K1;go_wp2_with fail;refine(K1.o _).mono ?_;rintro e9 w9 ⟨rfl,rfl⟩;clear K1;dsimp only;have ai:=au (ag.o (by rw[ad.o,I,am];rfl));go_wp2
     go_round
     case rel=>exact⟨k+1,af.o,by go_num,ai.o⟩
     case measure=>have:=af.o;simp[intOf];omega
  ·obtain rfl:k=n1:=by omega
   have aA:=au (show ∀ x ∈ T.rs,ZQ x=true from by have h:=HA.o;rw[an.o,kz] at h;exact h);clear HA M;go_wp2_with fail
   go_loop [6] (fun i=>∃ k:Nat,k<=n2/\i=.int .i64 k/\∀ x ∈ T.ds.take k,MV x=true) (fun i=>n2-(intOf i).toNat)
   case atStart=>exact⟨0,fy _,rfl,by simp⟩
   case round=>
    obtain⟨k,hk,rfl,J⟩:=hrel;have HA:=au J;clear J;by_cases M:k<n2
    ·have aa:k<T.ds.length:=by rw[<-ao.o];exact M
     have af:=au M;have ap:(k:Int)<1000000:=by omega
     obtain⟨bb,o,rfl,hc⟩:=nP.at HT.o.ds eL;obtain⟨r0,r1,r2⟩:=hc w1 HB.o k aa;have ag:=au (fun h=>nk (p:=MV) aa HA.o h);have ab:=au (show MV T.ds[k]=false->b=false from fun h=>ae.o (fun h2=>by have:=h2.2.2.1 _ (gw aa);rw[h] at this;cases this));clear hc;have ad:=au (show MV T.ds[k]=(dF T.ds[k].w) from rfl);have K0:=au (fun W=>KS.o T.ds[k].w W);generalize T.ds[k]=z at *
     cases I:dF z.w with
     | false=>
      simp only[I] at K0;go_wp2_with fail;refine(K0.o _).mono ?_;rintro e9 w9 ⟨rfl,rfl⟩;clear K0;dsimp only;have HF:=au (ab.o (by rw[ad.o,I]));go_wp2;go_ret;exact aK HF.o HB.o
     | true=>
      simp only[I] at K0;go_wp2_with fail;refine(K0.o _).mono ?_;rintro e9 w9 ⟨rfl,rfl⟩;clear K0;dsimp only;have ai:=au (ag.o (by rw[ad.o,I]));go_wp2
      go_round
      case rel=>exact⟨k+1,af.o,by go_num,ai.o⟩
      case measure=>have:=af.o;simp[intOf];omega
    ·obtain rfl:k=n2:=by omega
     have a3:=au (show ∀ x ∈ T.ds,MV x=true from by have h:=HA.o;rw[ao.o,kz] at h;exact h);clear HA M;go_wp2_with fail
     go_loop [7] (fun i=>∃ k:Nat,k<=n3/\i=.int .i64 k/\∀ x ∈ T.es.take k,MV x=true) (fun i=>n3-(intOf i).toNat)
     case atStart=>exact⟨0,fy _,rfl,by simp⟩
     case round=>
      obtain⟨k,hk,rfl,J⟩:=hrel;have HA:=au J;clear J;by_cases M:k<n3
      ·have aa:k<T.es.length:=by rw[<-al.o];exact M
       have af:=au M;have ap:(k:Int)<1000000:=by omega
       obtain⟨bb,o,rfl,hc⟩:=nP.at HT.o.es eL;obtain⟨r0,r1,r2⟩:=hc w1 HB.o k aa;have ag:=au (fun h=>nk (p:=MV) aa HA.o h);have ab:=au (show MV T.es[k]=false->b=false from fun h=>ae.o (fun h2=>by have:=h2.2.2.2.1 _ (gw aa);rw[h] at this;cases this));clear hc;have ad:=au (show MV T.es[k]=(dF T.es[k].w) from rfl);have K0:=au (fun W=>KS.o T.es[k].w W);generalize T.es[k]=z at *
       cases I:dF z.w with
       | false=>
        simp only[I] at K0;go_wp2_with fail;refine(K0.o _).mono ?_;rintro e9 w9 ⟨rfl,rfl⟩;clear K0;dsimp only;have HF:=au (ab.o (by rw[ad.o,I]));go_wp2;go_ret;exact aK HF.o HB.o
       | true=>
        simp only[I] at K0;go_wp2_with fail;refine(K0.o _).mono ?_;rintro e9 w9 ⟨rfl,rfl⟩;clear K0;dsimp only;have ai:=au (ag.o (by rw[ad.o,I]));go_wp2
        go_round
        case rel=>exact⟨k+1,af.o,by go_num,ai.o⟩
        case measure=>have:=af.o;simp[intOf];omega
      ·obtain rfl:k=n3:=by omega
       have a2:=au (show ∀ x ∈ T.es,MV x=true from by have h:=HA.o;rw[al.o,kz] at h;exact h);clear HA M;go_wp2_with fail
       go_loop [8] (fun i=>∃ k:Nat,k<=n4/\i=.int .i64 k/\∀ x ∈ C.take k,wv x=true) (fun i=>n4-(intOf i).toNat)
       case atStart=>exact⟨0,fy _,rfl,by simp⟩
       case round=>
        obtain⟨k,hk,rfl,J⟩:=hrel;have HA:=au J;clear J;by_cases M:k<n4
        ·have aa:k<C.length:=by rw[<-ak.o];exact M
         have af:=au M;have ap:(k:Int)<1000000:=by omega
         obtain⟨bb,o,rfl,hc⟩:=zQ.at HC.o eL;obtain⟨r0,r1,r2,r3,r4⟩:=hc w1 HB.o k aa;have ag:=au (fun h=>nk (p:=wv) aa HA.o h);have ab:=au (show wv C[k]=false->b=false from fun h=>ae.o (fun h2=>by have:=h2.2.2.2.2 _ (gw aa);rw[h] at this;cases this));clear hc;have ad:=au (show wv C[k]=(dF C[k].a) from rfl);have K0:=au (fun W=>KS.o C[k].a W);generalize C[k]=z at *
         cases I:dF z.a with
         | false=>
          simp only[I] at K0;go_wp2_with fail;refine(K0.o _).mono ?_;rintro e9 w9 ⟨rfl,rfl⟩;clear K0;dsimp only;have HF:=au (ab.o (by rw[ad.o,I]));go_wp2;go_ret;exact aK HF.o HB.o
         | true=>
          simp only[I] at K0;go_wp2_with fail;refine(K0.o _).mono ?_;rintro e9 w9 ⟨rfl,rfl⟩;clear K0;dsimp only;have ai:=au (ag.o (by rw[ad.o,I]));go_wp2
          go_round
          case rel=>exact⟨k+1,af.o,by go_num,ai.o⟩
          case measure=>have:=af.o;simp[intOf];omega
        ·obtain rfl:k=n4:=by omega
         have a0:=au (show ∀ x ∈ C,wv x=true from by have h:=HA.o;rw[ak.o,kz] at h;exact h);clear HA M;have HF:=au (show b=true from by rw[HV.o,uo,<-an.o,<-ao.o,<-al.o,<-ak.o];exact⟨⟨by omega,by omega,by omega,by omega⟩,aA.o,a3.o,a2.o,a0.o⟩);go_wp2;go_ret;exact aK HF.o HB.o
end Go.Proofs.YtbioiclabmbedaaGreatDoor
