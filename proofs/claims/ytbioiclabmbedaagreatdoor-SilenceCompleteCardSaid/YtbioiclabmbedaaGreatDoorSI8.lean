/- A part of the proof: lemmas. -/
import Derived.Test.YtbioiclabmbedaaGreatDoorSI5
import Derived.Shelf.SlSortCmp.NoneTotal
set_option maxHeartbeats 16000000
set_option maxRecDepth 100000
set_option linter.all false
namespace Go.Proofs.YtbioiclabmbedaaGreatDoor
open Go.RowKit Go.CH Go.CH.Scr Go.CH.dh
open Go.ChangeMaps (setBlock)
def Ph:List Int->Int
 | []=>0
 | x::l=>if x=0 then Ph l else x
variable {l:List Int}{k b c:Nat}{w:World}
theorem UF   (hk:k<l.length) (h:l[k]=0) (h2:Ph l=Ph (l.drop k)):Ph l=Ph (l.drop (k+1)):=by
 rw[h2,rK hk]
 show(if l[k]=0 then _ else _)=_
 rw[if_pos h]
theorem UG   (hk:k<l.length) (h:l[k]≠0) (h2:Ph l=Ph (l.drop k)):Ph l=l[k]:=by
 rw[h2,rK hk]
 show(if l[k]=0 then _ else _)=_
 rw[if_neg h]
theorem Wg  {o:Nat}  (hl:l.length<=1000) (hc:∀ k (hk:k<l.length),w.cell? ⟨b,o+k,none⟩=some (.int .i64 l[k])) :
  Calls Tryz.prog 96 #[.slice (some ⟨b,o,none⟩) l.length c] w (fun e w'=>e=.returned (.int .i64 (Ph l))/\w'=w):=by
 have HC:=au hc;obtain⟨N,hN⟩:∃ N,N=l.length:=⟨_,rfl⟩;have HN:=au hN;rw[<-hN] at hl ⊢;clear hc hN
 go_enter Tryz.func96,Tryz.ntmps96
 go_wp2;go_loopw [8] (fun i wr=>∃ k:Nat,k<=N/\i=.int .i64 k/\Ph l=Ph (l.drop k)/\wr=w) (fun i _=>N-(intOf i).toNat)
 case atStart=>exact⟨0,fw _,rfl,rfl,rfl⟩
 case round=>
  obtain⟨k,hk,rfl,ho,rfl⟩:=hrel;have HO:=au ho;clear ho;by_cases aa:k<N
  ·have I:k<l.length:=by rw[<-HN.o];exact aa
   have ck:=HC.o k I;have HS:=au (fun h=>UF I h HO.o);have HH:=au (fun h=>UG I h HO.o);generalize l[k]=x at *
   by_cases M:x=0
   ·subst M;have J:=au (HS.o rfl);clear HS HH I;go_wp2
    go_roundw
    case rel=>exact⟨k+1,by omega,by go_num,J.o,trivial⟩
    case measure=>simp[intOf];omega
   ·have t1:(x==0)=false:=by simp[M]
    have J:=au (HH.o M);clear HS HH I M;go_wp2;go_ret;exact⟨by rw[J.o];rfl,rfl⟩
  ·obtain rfl:k=N:=by omega
   have J:=au (show Ph l=0 by have:=HO.o;rw[HN.o,ui] at this;exact this);clear HO;go_wp2;go_ret;exact⟨by rw[J.o];rfl,rfl⟩
theorem wo:oN Tryz.prog 4 Value.bool:=by
 refine⟨fun a b w=>?_,fun e a w=>?_,fun a=>?_,_,Tryz.underlying4,fun a b=>.inr ?_⟩
 ·rw[Op.equal,Op.maxDepth,PU (.bool Tryz.underlying4 a) (.bool Tryz.underlying4 b) 9999 w]
  show Result.ok (a==b) w=_
  cases a<;>cases b<;>rfl
 ·exact CZ (.bool Tryz.underlying4 a) e 9999 w
 ·unfold Instr.sameBits;cases a<;>rfl
 ·show some (a==b)=_
  cases a<;>cases b<;>rfl
variable {t:TypeId}{F:Nat->Prop}
theorem Nh {α:Type} [DecidableEq α] {P:Program} {kv:α->Value} {K E:TypeId} (H:oN P K kv) (ht:P.underlying t=some (.map K E))  {l:List (α × Value)}   (h:jo kv b l w F) (k:α) (v:Value) :
  ∃ w',(Instr.mapUpdate t (.map (some b)) (kv k) v).run P w=.ok () w'/\bT w F (jo kv b (mh l k v)) w'/\w'.drawn=w.drawn:=by
 obtain⟨⟨es,J,h1,h2⟩,hF⟩:=h;obtain⟨M,I,h3,h4⟩:=vR H ht h2 b k v;exact⟨_,h4 w h1,⟨F,⟨⟨M,I,kD h1,h3⟩,hF⟩,(Mod.refl _ _).setBlock _ (fun _=>(hF b).2 rfl),fun i hi=>.inl hi⟩,rfl⟩
def EB (p q:Pt):Int:=Ph [Lib.compareInt p.i q.i,Lib.compareInt p.j q.j,Lib.compareBytes p.a q.a,Lib.compareInt (if p.r then 1 else 0) (if q.r then 1 else 0)]
def xT (p:Pt):Value:=.agg (sA p.i p.j (bs p.a) p.r p.h)
theorem Au (p q:Pt) (w:World):Calls Tryz.prog 76 #[xT p,xT q] w (fun e w'=>e=.returned (.int .i64 (EB p q))/\Below w.heap.size w w'/\w.drawn<=w'.drawn):=by
 obtain⟨pi,pj,pa,pr,ph⟩:=p;obtain⟨qi,qj,qa,qr,qh⟩:=q;have h1:aI eR w (aj (av w.heap.size (sA pi pj (bs pa) pr ph) 110) bG) _:=aH (aI.begin w) aN _ 110;have h2:=aH h1 aO (sA qi qj (bs qa) qr qh) 110;rw[im] at h2;have h3:=h2.fresh aO (rR (kv:=Value.bool) _);simp only[im] at h3;obtain⟨FM,al,-,bk⟩:=h3.take map_ok aO;obtain⟨w4,aq,ab,ae⟩:=Nh wo Tryz.underlying222 al true (.int .i64 1);have h4:=bk _ _ ab;have ap:∀ w:World,(Instr.makeMap 222 none).run Tryz.prog w=.ok (.map (some w.heap.size)) (w.alloc (.map #[] 0)):=fun w=>by kernel_rfl
 have H4:=au h4;have ao:=au (show w.drawn<=w4.drawn by rw[ae];exact fy _);have h5:=h4.drew aO;obtain⟨F5,ad⟩:=h5.fst;have ak:=yN wo Tryz.underlying222 Tryz.zeroValue3 ad pr;have ag:=yN wo Tryz.underlying222 Tryz.zeroValue3 ad qr;have af:∀ r:Bool,(nV (mh ([]:List (Bool × Value)) true (.int .i64 1)) r).getD (.int .i64 0)=.int .i64 (if r then 1 else 0):=fun r=>by cases r<;>rfl
 rw[af] at ak ag;obtain⟨F6,ac⟩:=h5.drop.fst;obtain⟨F7,M⟩:=h5.drop.drop.fst;have q0:=ay (i:=0) ac rfl;have q1:=ay (i:=1) ac rfl;have q2:=ay (i:=2) ac rfl;have q3:=ay (i:=3) ac rfl;have p0:=ay (i:=0) M rfl;have p1:=ay (i:=1) M rfl;have p2:=ay (i:=2) M rfl;have p3:=ay (i:=3) M rfl;have HB:=au (show Below w.heap.size w w4.drew from(h5.mod).below (fun _ _ h=>h));have KA:=au (fun W=>Tryz.cmp_Compare_int pi qi W);have KB:=au (fun W=>Tryz.cmp_Compare_int pj qj W);have KC:=au (fun W=>Tryz.strings_Compare (bs pa) (bs qa) W);have KD:=au (fun W=>Tryz.cmp_Compare_int (if pr then 1 else 0) (if qr then 1 else 0) W);clear h1 h2 h3 h4 al bk ab ae h5 ad ac M H4 af;unfold xT EB;simp only;obtain⟨u1,an⟩:∃ u:Int,u=if pr=true then 1 else 0:=⟨_,rfl⟩
 obtain⟨u2,ai⟩:∃ u:Int,u=if qr=true then 1 else 0:=⟨_,rfl⟩
 rw[<-an] at ak KD ⊢;rw[<-ai] at ag KD ⊢;clear an ai;have I:(bs pa).data.toList=pa/\(bs qa).data.toList=qa:=⟨rfl,rfl⟩;rw[I.1,I.2] at KC;clear I;generalize Lib.compareInt pi qi=r1 at *
 generalize Lib.compareInt pj qj=r2 at *
 generalize Lib.compareBytes pa qa=r3 at *
 generalize Lib.compareInt u1 u2=r4 at *
 have KO:=au (fun (W:World) (b:Nat) (hc:∀ k (hk:k<[r1,r2,r3,r4].length),W.cell? ⟨b,0+k,none⟩=some (.int .i64 [r1,r2,r3,r4][k]))=>Wg (l:=[r1,r2,r3,r4]) (o:=0) (c:=4) iz hc)
 go_enter Tryz.func76,Tryz.ntmps76
 go_wp2_with fail;have am:=au (show w.drawn<=w4.drew.drawn from kh ao.o (Nat.le_succ _));refine dY [4,9,14,23,24,25] [0,0,0,0,1,1,1,1,1,2,2,2,2,2,3,3,3,3,3,3,3,3,3,4,5,6,6] (fun w'=>w'=w4.drew) [fun w'=>w'=w4.drew,fun w'=>w'=w4.drew,fun w'=>w'=w4.drew,fun w'=>w'=w4.drew,fun _=>True] ⟨fun _ h=>h,fun _ h=>h,fun _ h=>h,fun _ h=>h,fun _ _=>trivial,trivial⟩ rfl eQ eQ eQ rfl ?_;generalize w4.drew=W at *
 (repeat(first|refine eH ?_|refine eO ?_))
 refine bB rfl fY (fun K J=>?_);go_wp2_with fail;refine(KA.o _).mono ?_;rintro e9 w9 ⟨rfl,h9⟩;subst w9;refine J.o _ _ rfl ?_;clear J KA
 (repeat(first|refine eH ?_|refine eO ?_))
 refine bB rfl fY (fun K J=>?_);go_wp2_with fail;refine(KB.o _).mono ?_;rintro e9 w9 ⟨rfl,h9⟩;subst w9;refine J.o _ _ rfl ?_;clear J KB
 (repeat(first|refine eH ?_|refine eO ?_))
 refine bB rfl fY (fun K J=>?_);go_wp2_with fail;refine(KC.o _).mono ?_;rintro e9 w9 ⟨rfl,h9⟩;subst w9;refine J.o _ _ rfl ?_;clear J KC
 (repeat(first|refine eH ?_|refine eO ?_))
 refine bB rfl fY (fun K J=>?_);go_wp2_with fail;refine(KD.o _).mono ?_;rintro e9 w9 ⟨rfl,h9⟩;subst w9;refine J.o _ _ rfl ?_;clear J KD
 (repeat(first|refine eH ?_|refine eO ?_))
 refine bB rfl fY (fun K J=>?_);go_wp2;refine J.o _ _ trivial ?_;clear J;have aa:∀ k (hk:k<[r1,r2,r3,r4].length),(W.alloc (.cells (xN r1 r2 r3 r4) 3)).cell? ⟨W.heap.size,0+k,none⟩=some (.int .i64 [r1,r2,r3,r4][k]):=by
  intro k hk;have hk:k<4:=hk;obtain⟨F,hF,-⟩:=dP W (xN r1 r2 r3 r4) 3
  match k,hk with
  | 0,_=>exact ay hF rfl
  | 1,_=>exact ay hF rfl
  | 2,_=>exact ay hF rfl
  | 3,_=>exact ay hF rfl
 have KQ:=au (KO.o _ _ aa);have HZ:=au (show Below w.heap.size w (W.alloc (.cells (xN r1 r2 r3 r4) 3))/\w.drawn<=(W.alloc (.cells (xN r1 r2 r3 r4) 3)).drawn from⟨HB.o.alloc HB.o.size _,am.o⟩);clear aa KO;refine bB rfl fY (fun K J=>?_);go_wp2_with fail;refine KQ.o.mono ?_;rintro e9 w9 ⟨rfl,h9⟩;subst w9;refine J.o _ _ trivial ?_;clear J KQ
 (repeat(first|refine eH ?_|refine eO ?_))
 refine iT ?_;go_wp2;go_ret;exact⟨rfl,HZ.o⟩
theorem JZ (x y:Int):(x<y/\Lib.compareInt x y=-1)\/(x=y/\Lib.compareInt x y=0)\/(y<x/\Lib.compareInt x y=1):=by
 unfold Lib.compareInt;by_cases h:x<y
 ·exact .inl ⟨h,by rw[if_pos h]⟩
 ·by_cases I:y<x
  ·exact .inr (.inr ⟨I,by rw[if_neg h,if_pos I]⟩)
  ·exact .inr (.inl ⟨by omega,by rw[if_neg h,if_neg I]⟩)
theorem J2:∀ a b:Bs,(a<b/\Lib.compareBytes a b=-1)\/(a=b/\Lib.compareBytes a b=0)\/(b<a/\Lib.compareBytes a b=1)
 | [],[]=>.inr (.inl ⟨rfl,rfl⟩)
 | [],_::_=>.inl ⟨List.nil_lt_cons _ _,rfl⟩
 | _::_,[]=>.inr (.inr ⟨List.nil_lt_cons _ _,rfl⟩)
 | a::u,b::v=>by
  unfold Lib.compareBytes;by_cases I:a<b
  ·exact .inl ⟨List.cons_lt_cons_iff.2 (.inl I),by rw[if_pos I]⟩
  ·by_cases J:b<a
   ·exact .inr (.inr ⟨List.cons_lt_cons_iff.2 (.inl J),by rw[if_neg I,if_pos J]⟩)
   ·have e:a=b:=UInt8.le_antisymm (UInt8.not_lt.1 J) (UInt8.not_lt.1 I);subst e;rw[if_neg I,if_neg I];rcases J2 u v with⟨h,e⟩|⟨h,e⟩|⟨h,e⟩
    ·exact .inl ⟨List.cons_lt_cons_iff.2 (.inr ⟨rfl,h⟩),e⟩
    ·exact .inr (.inl ⟨by rw[h],e⟩)
    ·exact .inr (.inr ⟨List.cons_lt_cons_iff.2 (.inr ⟨rfl,h⟩),e⟩)
theorem Xs (a b c d:Int):Ph [a,b,c,d]=if a=0 then(if b=0 then(if c=0 then(if d=0 then 0 else d) else c) else b) else a:=rfl
theorem XS:Lib.compareInt 0 0=0/\Lib.compareInt 1 1=0/\Lib.compareInt 0 1=-1/\Lib.compareInt 1 0=1:=by decide
theorem U1 (p q:Pt):EB p q<0↔Bz p q:=by
 unfold EB Bz;rw[Xs];rcases JZ p.i q.i with⟨J,e1⟩|⟨J,e1⟩|⟨J,e1⟩
 ·rw[e1];simp[J]
 ·rw[e1,if_pos rfl];rcases JZ p.j q.j with⟨h2,e2⟩|⟨h2,e2⟩|⟨h2,e2⟩
  ·rw[e2];simp[J,h2]
  ·rw[e2,if_pos rfl];rcases J2 p.a q.a with⟨M,e3⟩|⟨M,e3⟩|⟨M,e3⟩
   ·rw[e3];simp[J,h2,M]
   ·rw[e3,if_pos rfl];have aa:¬ q.a<q.a:=uP _;rw[J,h2,M];cases p.r<;>cases q.r<;>simp[XS,aa]
   ·rw[e3];have hn:¬ p.a<q.a:=fun h=>uP _ (Fa h M);have I:p.a≠q.a:=fun h=>by rw[h] at M;exact uP _ M
    simp[J,h2,hn,I]
  ·rw[e2];have hn:¬ p.j<q.j:=by omega
   have I:p.j≠q.j:=by omega
   simp[J,hn,I]
 ·rw[e1];have hn:¬ p.i<q.i:=by omega
  have I:p.i≠q.i:=by omega
  simp[hn,I]
open Go.Sort
instance:Inhabited Pt:=⟨⟨0,0,[],false,0⟩⟩
theorem xP (p q:Pt):ltOf EB p q=decide (Bz p q):=by
 unfold ltOf;exact decide_eq_decide.2 (U1 p q)
theorem Zk:SWO (ltOf EB) where
 irrefl p:=by rw[xP];exact decide_eq_false (Y0 p)
 trans p q r J I:=by
  rw[xP] at *
  exact decide_eq_true (zB (of_decide_eq_true J) (of_decide_eq_true I))
 ntrans p q r J I:=by
  rw[xP] at *
  have J:=of_decide_eq_false J;have I:=of_decide_eq_false I;refine decide_eq_false fun h=>?_;rcases O6 p q with h3|h3|h3
  ·exact J h3
  ·-- p and q are one state
   refine I ?_;unfold Bz at h ⊢;rw[<-h3.1,<-h3.2.1,<-h3.2.2.1,<-h3.2.2.2];exact h
  ·exact I (zB h3 h)
theorem U2 (h off cap:Nat) (d:Array Pt) (w:World) (hH:HoldsK cO 5 w h off d) (I:h<w.heap.size) (M:d.size<4611686018427387904) :
  Calls Tryz.prog 75 #[.slice (some ⟨h,off,none⟩) d.size cap,.func (.func 76) #[] #[]] w fun e w'=>
   e=.returned (.tuple #[])/\∃ d' n os,PermIn 0 d.size d d'/\SortedIn (ltOf EB) 0 d.size d'/\w'=sortWorldK cO 5 w h off n d' os:=by
 have eg:∀ args w,(callFunc 76 args).run Tryz.prog w=.ok (.enter 76 args) w:=enters_of Tryz.func76 eQ rfl;have J:CmpLays Tryz.prog 76 #[] cO 5 EB h off d.size w:=fun m os dk _ p q=>
  (Au p q (sortWorldK cO 5 w h off m dk os)).mono fun _ _ ⟨h1,h2,h3⟩=>⟨h1,below_grow h2 h3⟩
 exact AnyQ.slices_SortFunc Tryz.Xc 5 Tryz.isAgg110 Tryz.sizeOf110 cO (fun _=>rfl) (fun x v hv=>by simp[cO] at hv;rcases hv with rfl|rfl|rfl|rfl|rfl<;>rfl) EB Zk 76 #[] h off cap d w eg J hH I M
def sG (A:eV) (c:Nat) (C:List Pt):CH.aT:=aV 110 5 (.slice A C.length c) C.length (C.flatMap cO)
variable {A:eV}{i:Nat}{C:List Pt}{W:World}
theorem tQ   :(sG A c C).Ok:=dK
instance {A:eV} {c:Nat} {C:List Pt}:(sG A c C).Ok:=tQ
theorem rJ (p:Pt):(cO p).length=5:=rfl
theorem vY (C:List Pt):∀ u ∈ C.flatMap cO,u.oneCell'=true:=by
 intro u hu;obtain⟨p,-,hp⟩:=List.mem_flatMap.1 hu;simp[cO] at hp;rcases hp with rfl|rfl|rfl|rfl|rfl<;>rfl
theorem kQ (C:List Pt):(C.flatMap cO).length=C.length*5:=by
 induction C with
 | nil=>rfl
 | cons p C ih=>rw[mN,gd,ih,j7,rJ];omega
theorem CK (C:List Pt):(flatK cO 5 C.toArray).toList=C.flatMap cO:=by
 apply vl;intro t;by_cases I:t<C.length*5
 ·have M:t / 5<C.length:=by omega
  have h:t % 5<5:=by omega
  have h3:t / 5*5+t % 5=t:=by omega
  have h4:=jM (R:=cO) (size:=5) rJ (l:=C) M h;rw[h3] at h4;rw[h4];have J:t<(flatK cO 5 C.toArray).size:=by rw[size_flatK];exact I
  rw[tP,sE J,<-getElem!_pos (flatK cO 5 C.toArray) t J,get_flatK _ _ _ _ (by simpa using I)];have h5:C.toArray[t / 5]! = C[t / 5]:=by rw[getElem!_pos C.toArray (t / 5) (by simpa using M)];simp
  rw[h5];rw[gR (by rw[rJ];exact h),getElem!_pos (cO C[t / 5]) (t % 5) (by rw[rJ];exact h)]
 ·rw[pN (by rw[Fi,size_flatK];simpa using I),pN (by rw[kQ];omega)]
theorem vZ (C:List Pt):(flatK cO 5 C.toArray).size=C.length*5:=by rw[size_flatK];simp
theorem Ey (F cur:Array Value) (h:F.size<=cur.size):(putCells id 0 F cur).toList.take F.size=F.toList:=by
 apply vl;intro t;by_cases I:t<F.size
 ·rw[Cs,if_pos I,tP,tP];unfold putCells;rw[Array.getElem?_mapIdx,sE eL,uv,if_pos ⟨fw _,by omega⟩,sb,id,getElem!_pos F t I,sE I]
 ·rw[pN (by rw[kt];omega),pN (by simpa using I)]
theorem Ez (F cur:Array Value):(putCells id 0 F cur).size=cur.size:=by unfold putCells;simp
theorem EA (w:World) (g:Nat) (f:Array Value->Array Value) {cur:Array Value}  {fz:Nat × Nat} (h:w.heap[g]?=some (.cells cur t fz)):(mapBlock w g f).heap[g]?=some (.cells (f cur) t fz):=by
 unfold mapBlock;simp[OS,h,onCells]
theorem zJ (w:World) (g:Nat) (f:Array Value->Array Value)  (h:i≠g):(mapBlock w g f).heap[i]?=w.heap[i]?:=by
 unfold mapBlock;simp[OS,px h]
theorem Fw (w:World) (os:Array Obj)  (h:i<w.heap.size):(grow w os).heap[i]?=w.heap[i]?:=by
 unfold grow;simp[N6,h]
theorem UJ      (h:sG A c C W F) (hl:C.length<4611686018427387904) :
  Calls Tryz.prog 75 #[.slice A C.length c,.func (.func 76) #[] #[]] W fun e w'=>
   e=.returned (.tuple #[])/\∃ C',C'.Perm C/\C'.Pairwise (fun p q=>¬ Bz q p)/\bT W F (sG A c C') w':=by
 have h0:=h;obtain⟨⟨hx,hv⟩,hF⟩:=h;rcases hv with⟨hv,hn⟩|⟨g,cap,cur,hv,-,hg,ae,al,ac,an⟩
 ·obtain rfl:C=[]:=List.length_eq_zero_iff.1 hn;injection hv with e1 e2 e3
  subst e1;have:=AnyF.slices_SortFunc_none Tryz.Xc none c (.func (.func 76) #[] #[]) W;refine this.mono ?_;rintro e w' ⟨rfl,rfl⟩;exact⟨rfl,[],.refl _,.nil,F,h0,Mod.refl _ _,fun i hi=>.inl hi⟩
 ·injection hv with e1 e2 e3
  subst e1;subst e3;have aa:∀ j v,(C.flatMap cO)[j]?=some v->cur[j]?=some v:=fun j v I=>by
   rw[<-an,Cs] at I;split at I
   ·rw[tP] at I;exact I
   ·cases I
  have hH:HoldsK cO 5 W g 0 C.toArray:=by
   intro j I;rw[vZ] at I;have ab:(C.flatMap cO)[j]?=some (flatK cO 5 C.toArray)[j]!:=by
    rw[<-CK,tP,sE (by rw[vZ];exact I),getElem!_pos (flatK cO 5 C.toArray) j (by rw[vZ];exact I)]
   refine⟨?_,?_⟩
   ·rw[mB];simp only[World.cell?,hg];rw[aa j _ ab];rfl
   ·simp[World.frozen?,hg]
  have ai:g<W.heap.size:=lt_of_block hg;have hs:=U2 g 0 c C.toArray W hH ai (by simpa using hl);have J:C.toArray.size=C.length:=by simp
  rw[J] at hs;refine hs.mono ?_;rintro e w' ⟨rfl,d',n,os,hp,hso,rfl⟩;obtain⟨hd,-,af⟩:=hp;have M:d'.toList.length=C.length:=by rw[Fi,hd,J]
  refine⟨rfl,d'.toList,?_,?_,?_⟩
  ·have e1:d'.extract 0 C.length=d':=by rw[<-J,<-hd,Array.extract_size]
   have e2:C.toArray.extract 0 C.length=C.toArray:=by rw[<-J,Array.extract_size]
   rw[e1,e2] at af;simpa using af
  ·rw[M1];intro i j hi I ap;have h1:=hso i j (fw _) ap (by rw[<-M];exact I);rw[xP] at h1;have ag:i<d'.size:=by simpa using hi
   have ao:j<d'.size:=by simpa using I
   rw[getElem!_pos d' i ag,getElem!_pos d' j ao] at h1;have:=of_decide_eq_false h1;rw[Array.getElem_toList,Array.getElem_toList];exact this
  ·have ad:(flatK cO 5 d').size=C.length*5:=by rw[size_flatK,hd,J]
   have ab:(flatK cO 5 d').toList=d'.toList.flatMap cO:=by
    have:=CK d'.toList;simpa using this
   have hb:(sortWorldK cO 5 W g 0 n d' os).heap[g]?=some (.cells (putCells id 0 (flatK cO 5 d') cur) 110 (0,0)):=by
    have h1:(putRowK cO 5 (Sort.ahead W n) g 0 d').heap[g]?=some (.cells (putCells id 0 (flatK cO 5 d') cur) 110 (0,0)):=EA _ _ _ (show(Sort.ahead W n).heap[g]?=_ from hg);unfold sortWorldK;rw[Fw _ _ (lt_of_block h1),h1]
   refine⟨F,⟨⟨by rw[kQ],.inr ⟨g,c,putCells id 0 (flatK cO 5 d') cur,by rw[M],fw _,hb,by rw[M];exact ae,al,by rw[Ez];exact ac,?_⟩⟩,fun i=>?_⟩,?_,fun i hi=>.inl hi⟩
   ·rw[M,<-ad,Ey _ _ (by rw[ad,ac];exact xp _ ae),ab]
   ·rw[hF i,M]
   ·refine⟨rfl,rfl,rfl,?_,fun i hi ak=>?_⟩
    ·unfold sortWorldK grow putRowK putRow mapBlock;simp[Sort.ahead]
    ·have am:i≠g:=fun e=>ak ((hF i).2 (by rw[e];rfl));unfold sortWorldK;have h1:(putRowK cO 5 (Sort.ahead W n) g 0 d').heap[i]?=W.heap[i]?:=zJ _ _ _ am;have h2:i<(putRowK cO 5 (Sort.ahead W n) g 0 d').heap.size:=by
      unfold putRowK putRow mapBlock;simpa[Sort.ahead] using hi
     rw[Fw _ _ h2,h1]
end Go.Proofs.YtbioiclabmbedaaGreatDoor
namespace Go.CH.dh
open Go.CH.Scr
def qI:Bs->Nat
 | []=>0
 | x::l=>1+x.toNat+257*qI l
theorem Fx:∀ a b:Bs,qI a=qI b->a=b
 | [],[],_=>rfl
 | [],_::_,h=>by unfold qI at h;omega
 | _::_,[],h=>by unfold qI at h;omega
 | x::l,y::m,h=>by
  unfold qI at h;have h1:=x.toNat_lt;have M:=y.toNat_lt;have J:x.toNat=y.toNat:=by omega
  have I:qI l=qI m:=by omega
  rw[Fx l m I,UInt8.toNat_inj.1 J]
theorem xK:∀ (n:Nat) (a:Bs),a.length<=n->qI a<257 ^ n
 | n,[],_=>Nat.pow_pos eL
 | 0,_::_,h=>by simp at h
 | n+1,x::l,h=>by
  have h1:=xK n l (by simpa using h);have h2:=x.toNat_lt;unfold qI;rw[Nat.pow_succ];omega
def Fy (s:St):Nat:=((s.i*13+s.j)*2+(if s.r then 1 else 0))*16974593+qI s.a
variable {s:St}
theorem Ry {t:St} (h1:s.j<=12/\s.a.length<=3) (h2:t.j<=12/\t.a.length<=3) (h:Fy s=Fy t):s=t:=by
 have ha:=xK 3 s.a h1.2;have hb:=xK 3 t.a h2.2;obtain⟨i,j,a,r⟩:=s;obtain⟨J,M,a',I⟩:=t;unfold Fy at h;simp only at *
 have e1:qI a=qI a':=by cases r<;>cases I<;>simp at h<;>omega
 have e2:(i*13+j)*2+(if r=true then 1 else 0)=(J*13+M)*2+(if I=true then 1 else 0):=by omega
 have e3:r=I:=by cases r<;>cases I<;>simp at e2 ⊢ <;> omega
 subst e3;have e4:i*13+j=J*13+M:=by omega
 rw[Fx _ _ e1,show i=J by omega,show j=M by omega]
theorem Nb {l:List St} (hn:l.Nodup) (h:∀ s ∈ l,s.i<=12/\s.j<=12/\s.a.length<=3):l.length<=5737412434:=by
 have M:(l.map Fy).Nodup:=by
  rw[List.Nodup,List.pairwise_map];exact Nx (fun ha hb I he=>I (Ry (h _ ha).2 (h _ hb).2 he)) hn
 have h2:∀ x ∈ l.map Fy,x ∈ List.range 5737412434:=by
  intro x hx;obtain⟨s,hs,rfl⟩:=List.mem_map.1 hx;obtain⟨g1,g2,g3⟩:=h s hs;have g4:=xK 3 s.a g3;rw[qk];unfold Fy;split<;>omega
 have J:=MA M h2
 rwa [gh,ua] at J
end Go.CH.dh
namespace Go.Proofs.YtbioiclabmbedaaGreatDoor
open Go.RowKit Go.CH Go.CH.Scr Go.CH.dh
open Go.ChangeMaps (setBlock)
theorem Rz {W:Wd} {L:List (St × Int)} (J:Kn W L) (ht:W.pJ) (hl:W.l.length<=12) (hm:W.m.length<=12) (hr:∀ p ∈ L,Bh W gC p.1):L.length<=5737412434:=by
 have:=Nb J.nd (fun s hs=>by
  obtain⟨v,I⟩:=mem_keys.1 hs;have h:=J.ok _ I;have M:=zD ht (hr _ I)
  exact⟨kh h.1 hl,kh h.2.1 hm,M.1⟩)
 unfold gy at this
 rwa [gh] at this
def jZ (r b:Nat) (es:Array MapEntry) (clock:Nat) (left:List MapEntry):CH.aT:=fun w F=>zP w r b es clock left/\∀ i,F i↔i=r
variable {b clock:Nat}{es:Array MapEntry}{F0:Nat->Prop}{w0 w:World}{X:CH.aT}
theorem xL {r:Nat}   {left:List MapEntry}:(jZ r b es clock left).Ok:=by
 refine⟨fun h i hi=>?_,fun h hk=>⟨?_,h.2⟩⟩
 ·rw[(h.2 i).1 hi];obtain⟨seen,h1,-⟩:=h.1;exact lt_of_block h1
 ·obtain⟨seen,h1,h2⟩:=h.1;exact⟨seen,(hk r ((h.2 r).2 rfl)).trans h1,h2⟩
instance {r b:Nat} {es:Array MapEntry} {clock:Nat} {left:List MapEntry}:(jZ r b es clock left).Ok:=xL
theorem JV (w:World)   {I:Nat} (h:zP (w.alloc (.mapIter (some b) I #[] I)) w.heap.size b es I es.toList) :
  bT w eR (jZ w.heap.size b es I es.toList) (w.alloc (.mapIter (some b) I #[] I)):=
 ⟨fun i=>i=w.heap.size,⟨h,fun i=>qt⟩,Mod.of_below ((fe _ _).alloc (fy _) _),fun i hi=>.inr (by subst hi;simp)⟩
theorem xM {α:Type} [DecidableEq α] {kv:α->Value}  {l:List (α × Value)}    (h:aI F0 w0 (aj (jo kv b l) X) w) :
  ∃ es I,EC kv es I l/\aI F0 w0 (aj (aW b (.map es I)) X) w:=by
 obtain⟨⟨F,⟨F1,F2,⟨⟨es,I,h1,h2⟩,J⟩,h4,M,h6⟩,h7⟩,h8⟩:=h;exact⟨es,I,h2,⟨F,⟨F1,F2,⟨h1,J⟩,h4,M,h6⟩,h7⟩,h8⟩
def Pn:Value->St
 | .agg #[.int _ i,.int _ j,.string a,.bool r]=>⟨i.toNat,j.toNat,bl a,r⟩
 | _=>gC
def Nc:Value->Int
 | .int _ v=>v
 | _=>0
def wh (e:MapEntry):St × Int:=(Pn e.key,Nc e.val)
theorem Fz (s:St):Pn (sF s)=s:=by
 obtain⟨i,j,a,r⟩:=s;rfl
theorem JW {L:List (St × Int)} {es:List MapEntry} (h:es.map (fun e=>(e.key,e.val))=(L.map fun p=>(p.1,Value.int .i64 p.2)).map (fun p=>(sF p.1,p.2))) :
  es.map wh=L/\∀ e ∈ es,e.key=sF (wh e).1/\e.val=.int .i64 (wh e).2:=by
 have M:es.map (fun e=>(e.key,e.val))=L.map (fun p=>(sF p.1,Value.int .i64 p.2)):=by rw[h,qq];rfl
 constructor
 ·have I:=congrArg (List.map fun (q:Value × Value)=>(Pn q.1,Nc q.2)) M;simp only[qq] at I;refine Eq.trans I ?_
  conv=>rhs;rw[<-AH L]
  refine nt fun p _=>?_
  show(Pn (sF p.1),Nc (.int .i64 p.2))=p
  rw[Fz];rfl
 ·intro e he;have I:(e.key,e.val) ∈ es.map (fun e=>(e.key,e.val)):=List.mem_map.2 ⟨e,he,rfl⟩;rw[M] at I;obtain⟨p,-,J⟩:=List.mem_map.1 I;injection J with h5 h6
  unfold wh;rw[<-h5,<-h6,Fz];exact⟨rfl,rfl⟩
attribute [local go_sem] nz
theorem Wc {W:Wd} {pa:PA}    (hE:∀ W',Mod F0 w0 W'->xG W pa W') (hW:Ib W pa) (hg:W.good) (ht:W.pJ) :
  ∀ (n:Nat) (s:St) (L:List (St × Int)) (X:CH.aT) (w:World),W.il s<n->W.ok s->s.a.length<=3->Kn W L->X.Ok->aI F0 w0 (aj (jw b L) X) w ->
  Calls Tryz.prog 74 #[Pf W pa b,sF s] w (BG W s L F0 w0 b X):=by
 intro n
 induction n with
 | zero=>intro s L X w h;exact absurd h (nB _)
 | succ n ih=>
 intro s L X w hn hs ha hk hX hR;have IH:=au ih;have HE:=au hE;have HW:=au hW;have HG:=au hg;have HT:=au ht;have HN:=au hn;have HS:=au hs;have HA:=au ha;have HK:=au hk;have HX:=au hX;have h1:aI F0 w0 (aj (av w.heap.size (lN W pa b) 191) (aj (jw b L) X)) _:=aH hR aO (lN W pa b) 191;have h2:=aH h1 aO (cK s) 184;rw[im] at h2;have H2:=au (show aI F0 w0 (Fq W pa b s w.heap.size (w.heap.size+1) L X) ((w.alloc (.cells (lN W pa b) 191)).alloc (.cells (cK s) 184)) from h2);clear ih hE hW hg ht hn hs ha hk h1 h2 hR;refine(callsIn_wide (n:=8)).1 ?_;refine callsIn_of_wp_marks Tryz.func74 rfl trivial ?_ rfl;simp only[Tryz.ntmps74,pT,j7,lA,Nat.reduceAdd,Nat.reduceSub,qu,qS,re,qT,l4,pd];refine(wpIn_wide (n:=8)).2 ?_;unfold Pf sF;unfold lN cK;unfold lN cK at H2;generalize a0:(w.alloc (.cells #[.slice pa.A W.rs.length pa.c,.int .i64 W.ka,.int .i64 W.kb,.slice pa.L W.l.length pa.lc,.slice pa.M W.m.length pa.mc,.int .i64 W.l.length,.int .i64 W.m.length,.string (bs []),.bool false,.map (some b)] 191)).alloc (.cells (fx s.i s.j (bs s.a) s.r) 184)=w2 at *
 iterate 12 (first|go_values|go_guarded|go_step)
 clear a0;generalize w.heap.size=I at *
 obtain⟨⟨c0,c1,c2,c3⟩,⟨d0,d1,d2,d3,d4,d5,d6,d7,d8,d9⟩,F,hF⟩:=qH H2.o;have ag:=Zd hF s;by_cases ae:s ∈ gy L
 ·obtain⟨v,hv⟩:=mem_keys.1 ae;have a7:v=W.fi s:=HK.o.val _ hv;subst a7;rw[Ie HK.o.nd hv] at ag;have aq:(Instr.lookup 189 (.map (some b)) (.agg (fx s.i s.j (bs s.a) s.r)) true).run Tryz.prog w2=.ok (.tuple (o5 (W.fi s) true)) w2:=ag;have HF:=au (show BG W s L F0 w0 b X (.returned (.int .i64 (W.fi s))) w2 from⟨L,rfl,HK.o,Ext.refl,ae,H2.o.drop.drop⟩);clear ag hF hv ae;go_wp2;refine⟨_,results_tmp rfl _ _ _,?_⟩;exact HF.o
 ·rw[Pg ae] at ag;have aq:(Instr.lookup 189 (.map (some b)) (.agg (fx s.i s.j (bs s.a) s.r)) true).run Tryz.prog w2=.ok (.tuple (o5 0 false)) w2:=ag;have a2:=au ae;clear ag hF ae;have ab:=fun w=>Wa s W.fin w;unfold sF cK at ab
  iterate 58 (first|go_values|go_guarded|go_step)
  go_step
  rename_i Kr ao;have H3:=au (aH H2.o (tO HX.o) (fL 1099511627776) 3);clear H2 c0 c1 c2 c3 d0 d1 d2 d3 d4 d5 d6 d7 d8 d9;generalize w2.alloc (.cells (fL 1099511627776) 3)=w3 at *
  generalize w2.heap.size=g7 at *
  have cut:∀ (w:World) (g19 g20 g21 g22 g23:Value),aI F0 w0 (aj (av g7 (fL (jS W s 0)) 3) (Fq W pa b s I (I+1) L X)) w->Kr { tmps:=#[.agg #[.slice pa.A W.rs.length pa.c,.int .i64 W.ka,.int .i64 W.kb,.slice pa.L W.l.length pa.lc,.slice pa.M W.m.length pa.mc,.int .i64 W.l.length,.int .i64 W.m.length,.string (bs []),.bool false,.map (some b)],.agg (fx s.i s.j (bs s.a) s.r),.pointer (some ⟨I,0,none⟩),.pointer (some ⟨I+1,0,none⟩),.int .i64 0,.int .i64 0,.bool false,.pointer (some ⟨g7,0,none⟩),undef,undef,.tuple (o5 0 false),.pointer (some ⟨I,9,none⟩),.map (some b),.agg (fx s.i s.j (bs s.a) s.r),.tuple (o5 0 false),.int .i64 0,.bool false,.bool false,undef,g19,g20,g21,g22,g23,undef,undef,undef,undef,undef,undef,undef,undef,undef,undef,undef,undef,undef,undef,undef,undef,undef,undef],defers:=[] } w:=by
   intro w g19 g20 g21 g22 g23 hR;have HR:=au hR;refine ao _ _ ?_;clear ao hR;obtain⟨⟨c0,c1,c2,c3⟩,⟨d0,d1,d2,d3,d4,d5,d6,d7,d8,d9⟩,-⟩:=qH HR.o.drop;have KM:=au (fun w=>Fp (W:=W) (a:=pa) (s:=s) w);unfold eD sF dN cK at KM;go_wp2_with fail;refine(KM.o w).mono ?_;rintro e9 w9 ⟨b1,b2,rfl,hp⟩;have S1:=au (HR.o.fresh (aB aC (tO HX.o)) hp);clear HR KM hp c0 c1 c2 c3 d0 d1 d2 d3 d4 d5 d6 d7 d8 d9;dsimp only;go_wp2_with fail;have a3:=au (CF (W:=W) (s:=s) (pa:=pa) (b1:=b1) (b2:=b2) HS.o HW.o (kh HA.o eL));have bb:∀ i,(lQ fun L':List (St × Int)=>sM (TL W s L i L') (aj (av g7 (fL (jS W s i)) 3) (Fq W pa b s I (I+1) L' X))).Ok:=fun i=>bX fun L'=>gG (aB aC (tO HX.o));have az:∀ (i:Nat) (a':Act),(lQ fun L':List (St × Int)=>lQ fun g:Nat=>lQ fun x:Int × St=>sM (TL W s L i L'/\(W.moves s)[i]?=some x/\a'={ tmps:=#[.agg #[.slice pa.A W.rs.length pa.c,.int .i64 W.ka,.int .i64 W.kb,.slice pa.L W.l.length pa.lc,.slice pa.M W.m.length pa.mc,.int .i64 W.l.length,.int .i64 W.m.length,.string (bs []),.bool false,.map (some b)],.agg (fx s.i s.j (bs s.a) s.r),.pointer (some ⟨I,0,none⟩),.pointer (some ⟨I+1,0,none⟩),.int .i64 0,.int .i64 0,.bool false,.pointer (some ⟨g7,0,none⟩),.int .i64 x.1,.pointer (some ⟨g,0,none⟩),.tuple (o5 0 false),.pointer (some ⟨I,9,none⟩),.map (some b),.agg (fx s.i s.j (bs s.a) s.r),.tuple (o5 0 false),.int .i64 0,.bool false,.bool false,undef,g19,g20,g21,g22,g23,.pointer (some ⟨I,0,none⟩),.agg (uC pa.A W.rs.length pa.c W.ka W.kb pa.L W.l.length pa.lc pa.M W.m.length pa.mc W.l.length W.m.length (bs []) false),.agg (fx s.i s.j (bs s.a) s.r),De b1 b2,.int .i64 x.1,.agg (cK x.2),undef,undef,undef,undef,undef,undef,undef,undef,undef,undef,undef,undef],defers:=[] }) (aj (av g (cK x.2) 184) (aj (av g7 (fL (jS W s i)) 3) (Fq W pa b s I (I+1) L' X)))).Ok:=fun i a'=>bX fun L'=>bX fun g=>bX fun x=>gG (aB aC (aB aC (tO HX.o)));have a8:aI F0 w0 (aj (Zm W pa s b1 b2) (lQ fun L':List (St × Int)=>sM (TL W s L 0 L') (aj (av g7 (fL (jS W s 0)) 3) (Fq W pa b s I (I+1) L' X)))) w9:=(aI.nT L (aI.iQ (JN HK.o) S1.o.swap)).swap;refine Dx (gf:=101) (lb:=(sS (some ⟨b1,0,none⟩) (some ⟨b2,0,none⟩))) rfl (enters_of Tryz.func101 eQ rfl) a3.o (fun _=>gJ) (fun _=>rfl) HE.o _ (fun _=>vy) bb _ az (fun _=>Fu) a8 ?_ ?_ ?_ ?_
   ·intro lo m i hi R W1 K hR hI hK;obtain⟨L',h1⟩:=hI.ex;obtain⟨ac,h2⟩:=h1.pure;have h3:=aH h2 (aB (aB aC (tO HX.o)) hR) (cK (W.moves s)[i].2) 184;have HF:=au (hK { tmps:=#[.agg #[.slice pa.A W.rs.length pa.c,.int .i64 W.ka,.int .i64 W.kb,.slice pa.L W.l.length pa.lc,.slice pa.M W.m.length pa.mc,.int .i64 W.l.length,.int .i64 W.m.length,.string (bs []),.bool false,.map (some b)],.agg (fx s.i s.j (bs s.a) s.r),.pointer (some ⟨I,0,none⟩),.pointer (some ⟨I+1,0,none⟩),.int .i64 0,.int .i64 0,.bool false,.pointer (some ⟨g7,0,none⟩),.int .i64 (W.moves s)[i].1,.pointer (some ⟨W1.heap.size,0,none⟩),.tuple (o5 0 false),.pointer (some ⟨I,9,none⟩),.map (some b),.agg (fx s.i s.j (bs s.a) s.r),.tuple (o5 0 false),.int .i64 0,.bool false,.bool false,undef,g19,g20,g21,g22,g23,.pointer (some ⟨I,0,none⟩),.agg (uC pa.A W.rs.length pa.c W.ka W.kb pa.L W.l.length pa.lc pa.M W.m.length pa.mc W.l.length W.m.length (bs []) false),.agg (fx s.i s.j (bs s.a) s.r),De b1 b2,.int .i64 (W.moves s)[i].1,.agg (cK (W.moves s)[i].2),undef,undef,undef,undef,undef,undef,undef,undef,undef,undef,undef,undef],defers:=[] } _ (aI.nT L' (aI.nT W1.heap.size (aI.nT (W.moves s)[i] (aI.iQ ⟨ac,gR hi,rfl⟩ (h3.perm (by ac_rfl)))))));clear hI h1 h2 h3 hK ac;unfold CB;generalize (W.moves s)[i]=x at *
    obtain⟨xc,⟨xi,xj,xa,xr⟩⟩:=x;unfold cK;unfold cK at HF;gi_wp2;exact HF.o
   ·intro lo m i hi a' R W1 hR hI;obtain⟨L',h1⟩:=hI.ex;obtain⟨g,h1⟩:=h1.ex;obtain⟨x,h1⟩:=h1.ex;obtain⟨⟨ac,hx,rfl⟩,h2⟩:=h1.pure;have am:(W.moves s)[i]=x:=by rw[gR hi] at hx;injection hx
    have ad:(x.1,x.2) ∈ W.moves s:=by rw[<-am];exact gv hi
    have an:=fI HS.o ad;have bc:=iD HG.o ad;have ic:=gL HG.o an.1;have a5:=lV an.1;have bh:=JM HG.o HS.o i;have be:=O8 (W:=W) (s:=s) (i:=i);have af:(aj (av g (cK x.2) 184) (aj (av g7 (fL (jS W s i)) 3) (aj (av (I+1) (cK s) 184) (aj (av I (lN W pa b) 191) (aj X R))))).Ok:=aB aC (aB aC (aB aC (aB aC (aB HX.o hR))));have h3:=(h2.perm (by unfold Fq;ac_rfl):aI F0 w0 (aj (jw b L') (aj (av g (cK x.2) 184) (aj (av g7 (fL (jS W s i)) 3) (aj (av (I+1) (cK s) 184) (aj (av I (lN W pa b) 191) (aj X R)))))) W1).drew aO;have KI:=au (IH.o x.2 L' _ W1.drew (by have:=HN.o;omega) an.1 (vX HT.o HA.o ad) ac.kn af h3);have a9:=qH (s:=s) (gs:=I+1) (h3.perm (by unfold Fq;ac_rfl):aI F0 w0 (Fq W pa b s I (I+1) L' (aj (av g (cK x.2) 184) (aj (av g7 (fL (jS W s i)) 3) (aj X R)))) _);obtain⟨-,⟨d0,d1,d2,d3,d4,d5,d6,d7,d8,d9⟩,-⟩:=a9;obtain⟨y0,y1,y2,y3,-⟩:=bq (h3.drop:aI F0 w0 (aj (av g (fx x.2.i x.2.j (bs x.2.a) x.2.r) 184) _) _);obtain⟨F7,J⟩:=h3.drop.drop.fst;have e7:=ay (i:=0) J rfl;have aw:=au (Fg hi);have ar:=au (fun L'' h1 h2 h3=>JO (L'':=L'') hi ac h1 (by rw[am];exact h2) (by rw[am];exact h3));rw[am] at aw;unfold BG at KI;have bf:=au af;have ba:=au hR;clear hI h1 h2 h3 ac hx am ad an J af hR hi;generalize W.fi x.2=dd at *
    generalize jS W s i=mm at *
    obtain⟨xc,⟨xi,xj,xa,xr⟩⟩:=x;unfold Pf sF lN cK at KI;unfold cK;simp only at *
    refine wpIn_block ?_;refine mP [4,7] [1,1,0,0,1,1,1,2] (fun w'=>w'=W1.drew) [fun w'=>w'.cell? ⟨g7,0,none⟩=some (.int .i64 mm)] ⟨fun w h=>by rw[h];exact e7,trivial⟩ rfl (fun⟨a,w,h⟩=>h) rfl eQ eQ eQ rfl ?_;generalize W1.drew=W2 at *
    (repeat(first|refine eH ?_|refine eO ?_))
    refine bB rfl fY (fun K hK=>?_);go_wp2_with fail;refine KI.o.mono ?_;rintro e9 w9 ⟨L'',rfl,k1,k2,k3,hR9⟩;have ak:=(hR9.perm (by unfold Fq lN cK;ac_rfl):aI F0 w0 (aj (av g7 (fL mm) 3) (aj (Fq W pa b s I (I+1) L'' X) (aj (av g (fx xi xj (bs xa) xr) 184) R))) w9);have ax:(aj (Fq W pa b s I (I+1) L'' X) (aj (av g (fx xi xj (bs xa) xr) 184) R)).Ok:=aB (tO HX.o) (aB aC ba.o);obtain⟨F7,J⟩:=ak.fst;have q7:=ay (i:=0) J rfl;have p7:=aM J 0;have H9:=au (aJ ak ax 0 (.int .i64 (min mm (xc+dd))));have a1:=au (ar.o L'' k1 k2 k3);refine hK.o _ _ q7 ?_;clear hK KI J hR9 ak k1 k2 k3 ar ax y0 y1 y2 y3 e7 d0 d1 d2 d3 d4 d5 d6 d7 d8 d9
    (repeat(first|refine eH ?_|refine eO ?_))
    refine bB rfl fY (fun K hK=>?_);go_wp2;have a4:wrap64 (xc+dd)=xc+dd:=by
     unfold never at a5;exact rL (xc+dd) eL
    rw[a4];refine hK.o _ _ trivial (iT ?_);have aa:aI F0 w0 (aj (lQ fun L':List (St × Int)=>sM (TL W s L (i+1) L') (aj (av g7 (fL (jS W s (i+1))) 3) (Fq W pa b s I (I+1) L' X))) R) (w9.setCell ⟨g7,0,none⟩ (.int .i64 (min mm (xc+dd)))):=by
     refine aI.nT L'' (aI.iQ a1.o ?_);rw[aw.o];exact(H9.o.perm (by ac_rfl):aI F0 w0 (aj (av g (fx xi xj (bs xa) xr) 184) (aj (aj (av g7 (fL (min mm (xc+dd))) 3) (Fq W pa b s I (I+1) L'' X)) R)) _).drop
    exact aa
   ·intro D R W1 hR hI;obtain⟨L',h1⟩:=hI.ex;obtain⟨ac,h2⟩:=h1.pure;obtain⟨k1,k2,k3,k4⟩:=O9 ac HS.o a2.o;rw[JL HS.o] at h2;have af:(aj (aW D (.deferred (some []))) (aj (av g7 (fL (W.fi s)) 3) (aj (av (I+1) (cK s) 184) (aj (av I (lN W pa b) 191) (aj X R))))).Ok:=aB bg (aB aC (aB aC (aB aC (aB HX.o hR))));have h3:=(h2.perm (by unfold Fq;ac_rfl):aI F0 w0 (aj (jw b L') (aj (aW D (.deferred (some []))) (aj (av g7 (fL (W.fi s)) 3) (aj (av (I+1) (cK s) 184) (aj (av I (lN W pa b) 191) (aj X R)))))) W1);obtain⟨⟨c0,c1,c2,c3⟩,⟨d0,d1,d2,d3,d4,d5,d6,d7,d8,d9⟩,-⟩:=qH (h3.perm (by unfold Fq;ac_rfl):aI F0 w0 (Fq W pa b s I (I+1) L' (aj (aW D (.deferred (some []))) (aj (av g7 (fL (W.fi s)) 3) (aj X R)))) W1);obtain⟨F7,J⟩:=h3.drop.drop.fst;have e7:=ay (i:=0) J rfl;obtain⟨FM,aD,-,bk⟩:=h3.take iW af;obtain⟨w',a6,al⟩:=qR xI Tryz.underlying189 aD s (.int .i64 (W.fi s));have h4:=bk _ _ al;have bG:mh (L'.map fun p=>(p.1,Value.int .i64 p.2)) s (.int .i64 (W.fi s))=(L'++[(s,W.fi s)]).map fun p=>(p.1,Value.int .i64 p.2):=by
     rw[qU (by rw[qq];exact k4),km];rfl
    rw[bG] at h4;have H4:=au (show aI F0 w0 (aj (jw b (L'++[(s,W.fi s)])) _) w' from h4);obtain⟨F8,aA⟩:=h4.drop.drop.fst;have e8:=ay (i:=0) aA rfl;obtain⟨FD,hD,-,aE⟩:=(H4.o.kN).take bg (aB iW (aB aC (aB aC (aB aC (aB HX.o hR)))));have HD:=au hD.1;have h5:=(aE _ _ (fH hD (.deferred none))).perm (by ac_rfl:_=aj (aj (aW D (.deferred none)) (aj (av g7 (fL (W.fi s)) 3) (aj (av (I+1) (cK s) 184) (aj (av I (lN W pa b) 191) R)))) (aj (jw b (L'++[(s,W.fi s)])) X));have HF:=au (show BG W s L F0 w0 b X (.returned (.int .i64 (W.fi s))) (w'.putObj D (.deferred none)) from⟨_,rfl,k1,k2,k3,h5.drop⟩);unfold sF cK at a6;clear hI h1 h2 h3 h4 h5 ac k1 k2 k3 k4 af J aA aD bk al bG H4 hD aE hR;dsimp only;go_wp2_with fail;refine⟨by simp,.inl ⟨_,_,rfl,run_takeDeferred HD.o,?_⟩⟩;refine⟨_,results_tmp rfl _ _ _,?_⟩;exact HF.o
   ·intro D c R W1 hR hI;exact hI.no.elim
  have HC:=au cut;clear cut ao;obtain⟨⟨c0,c1,c2,c3⟩,⟨d0,d1,d2,d3,d4,d5,d6,d7,d8,d9⟩,F,hF⟩:=qH H3.o.drop;obtain⟨F7,J⟩:=H3.o.fst;have e7:=ay (i:=0) J rfl;have f7:=aM J 0;by_cases aa:s=W.fin
  ·rw[decide_eq_true aa] at ab;have ap:=au (show jS W s 0=0 from by rw[uR,if_pos aa]);clear aa hF J;unfold Wd.fin at ab;simp only at ab;have ai:=ab w3;clear ab
   iterate 15 (first|go_values|go_guarded|go_step)
   refine C8 rfl rfl rfl eQ ai ?_;go_wp2;refine HC.o _ _ _ _ _ _ ?_;rw[ap.o];exact aJ H3.o (tO HX.o) 0 (.int .i64 0)
  ·rw[decide_eq_false aa] at ab;have ap:=au (show jS W s 0=1099511627776 from by rw[uR,if_neg aa];rfl);clear aa hF J;unfold Wd.fin at ab;simp only at ab;have ai:=ab w3;clear ab
   iterate 15 (first|go_values|go_guarded|go_step)
   refine C8 rfl rfl rfl eQ ai ?_;go_wp2;refine HC.o _ _ _ _ _ _ ?_;rw[ap.o];exact H3.o
def Po (w:World) (T:eW) (k:Int) (x:Bs) (k2:Int) (y:Bs) (bound:Int) (e:Ending) (w':World):Prop:=
 ∃ A c C er,e=.returned (.tuple (pB A C.length c er))/\Cv T k x k2 y bound C er/\bT w eR (sG A c C) w'
theorem Wk:eB Tryz.prog 56 110 (.agg (sA 0 0 ⟨#[]⟩ false 0)) 5 48:=⟨Tryz.underlying56,by kernel_rfl,by decide,by decide⟩
variable {w' W:World}{T:eW}{k bound:Int}{A:eV}{c n i:Nat}{C:List Pt}{a:Act}{Q:Exit->Act->World->Prop}
theorem xO   {k2 er:Int} {x y:Bs} (h:Cv T k x k2 y bound [] er) (hb:Below w.heap.size w w'):Po w T k x k2 y bound (.returned (.tuple (pB none 0 0 er))) w':=
 ⟨none,0,[],er,rfl,h,fun _=>False,fT _ _ _,Mod.of_below hb,fun i hi=>hi.elim⟩
theorem UK    {p:Pt}:aV 110 5 (.slice A (C.length+1) c) (C.length+1) (C.flatMap cO++cO p)=sG A c (C++[p]):=by
 unfold sG;rw[tW,gd,pC,vi]
theorem Ze   {Y:CH.aT} {ops:Array Oper} {rest:List Oper} {o:Oper}   (ac:o.guard=none) (s x:Operand)
  (ho:o.op=.call { callee:=.builtin .append,args:=#[s,x],argTypes:=#[56,56] })    (p:Pt) (hl:C.length=n) (hsv:a.eval s=.slice A n c) (hx:a.eval x=.slice (some ⟨W.heap.size,0,none⟩) 1 1) (hn:n<=5737412434) (hY:Y.Ok)
  (h:aI F0 w0 (aj (sG A c C) Y) W)
  (hK:∀ A' c' w',aI F0 w0 (aj (sG A' c' (C++[p])) Y) w'->wpList Tryz.prog ops Q rest (a.put o.dst (.slice A' (n+1) c')) w'):wpList Tryz.prog ops Q (o::rest) a (W.alloc (.cells (sA p.i p.j (bs p.a) p.r p.h) 110)):=by
 subst hl;obtain⟨F7,I,-,ab⟩:=(h.below aO ((fe _ _).alloc (fy _) (.cells (sA p.i p.j (bs p.a) p.r p.h) 110))).take tQ hY;refine Am ac s x ho Wk _ 0 (v:=.slice A C.length c) (n:=C.length) (xs:=C.flatMap cO) hsv I.1 (A:=some ⟨W.heap.size,0,none⟩) (m:=1) (c:=1) (news:=cO p) hx (nU (cs:=(sA p.i p.j (bs p.a) p.r p.h)) (fun u hu=>vY [p] u (by simpa[cO] using hu))) (by unfold maxLen;omega) eL (fw _) ?_;intro v8 w8 J M aa;have S8:=ab _ _ (je I J M aa);obtain⟨A8,c8,rfl⟩:=ig J;rw[UK] at S8;exact hK A8 c8 w8 S8
theorem RD (bound:Int) (Dn:List (St × Int)) (q:St × Int):(Dn++[q]).filterMap (rH bound)=Dn.filterMap (rH bound)++(if 0<min q.2 bound then [⟨q.1.i,q.1.j,q.1.a,q.1.r,min q.2 bound⟩] else []):=by
 rw[sR];congr 1;unfold rH;by_cases h:0<min q.2 bound
 ·simp only[List.filterMap_cons,if_pos h,List.filterMap_nil]
 ·simp only[List.filterMap_cons,if_neg h,List.filterMap_nil]
theorem FE {left:List MapEntry} {Dn L:List (St × Int)}  (hi:i<left.length) (h:(Dn++left.map wh).Perm L):((Dn++[wh left[i]])++(left.eraseIdx i).map wh).Perm L:=by
 refine List.Perm.trans ?_ h;rw[l3];refine List.Perm.append_left _ ?_;have:=(CO hi).map wh;exact this
theorem UL   {a:TA} (hT:kr w T a) (hz:LZ w) (k:Int) (x:Bs) (k2:Int) (y:Bs) (bound:Int) (hx:x.length<=1000000) (hy:y.length<=1000000) :
  Calls Tryz.prog 50 #[dV T a,.int .i64 k,.string (bs x),.int .i64 k2,.string (bs y),.int .i64 bound] w (Po w T k x k2 y bound):=by
 have HT:=au hT;have HZ:=au hz;have h1:aI eR w (aj (av w.heap.size (dR T a) 25) bG) _:=aH (aI.begin w) aN (dR T a) 25;have am:=au (show Below w.heap.size w (w.alloc (.cells (dR T a) 25)) from h1.mod.below (fun _ _ h=>h));have KO:=au (UH (hT.below am.o) (hz.below am.o) k x k2 y hx hy);have H1:=au h1;clear hT hz h1;unfold dV at KO ⊢;unfold dR at KO H1 am ⊢;unfold Pk at KO
 go_enter Tryz.func50,Tryz.ntmps50
 go_wp2_with fail;refine KO.o.mono ?_;rintro e9 w1 ⟨pa,rfl,hb,hP,hS,-⟩;have ae:=au (am.o.trans (hb.mono am.o.size));have HP:=au hP;have HS:=au hS;clear KO H1 am hb hP hS;unfold eD;dsimp only;obtain⟨W,hW⟩:∃ W,W=Pj T k x k2 y:=⟨_,rfl⟩;rw[<-hW] at HP HS ⊢;have HW:=au hW;clear hW;cases ar:okW T k x k2 y with
 | false=>
  have HF:=au (fun W' (hb:Below w.heap.size w W')=>xO (w:=w) (w':=W') (T:=T) (k:=k) (k2:=k2) (x:=x) (y:=y) (bound:=bound) (.arg (.inl ar)) hb);have aa:=au (ae.o.alloc ae.o.size (.cells (dN W pa) 186));clear ar;unfold dN;unfold dN at aa;go_wp2;refine bodyPost_ret (results_tmp2 rfl _ _ _) rfl ?_;exact HF.o _ aa.o
 | true=>
  have a9:=au ar;have aD:=au (show W=bO T k x k2 y from HW.o.trans (Na ar));have aa:=au (ae.o.alloc ae.o.size (.cells (dN W pa) 186));clear ar;by_cases cc:bound<0
  ·have HF:=au (fun W' (hb:Below w.heap.size w W')=>xO (w:=w) (w':=W') (T:=T) (k:=k) (k2:=k2) (x:=x) (y:=y) (bound:=bound) (.arg (.inr (.inl cc))) hb);unfold dN;unfold dN at aa;go_wp2;refine bodyPost_ret (results_tmp2 rfl _ _ _) rfl ?_;exact HF.o _ aa.o
  ·by_cases fW:100000<bound
   ·have HF:=au (fun W' (hb:Below w.heap.size w W')=>xO (w:=w) (w':=W') (T:=T) (k:=k) (k2:=k2) (x:=x) (y:=y) (bound:=bound) (.arg (.inr (.inr fW))) hb);unfold dN;unfold dN at aa;go_wp2;refine bodyPost_ret (results_tmp2 rfl _ _ _) rfl ?_;exact HF.o _ aa.o
   ·have ai:=au (show 0<=bound/\bound<=100000 from⟨by omega,by omega⟩);clear aa;have r0:=aI.begin w1;have r1:=aH r0 aN (dN W pa) 186;have r2:aI eR w1 (aj (jw (w1.heap.size+1) []) (aj (av w1.heap.size (dN W pa) 186) bG)) ((w1.alloc (.cells (dN W pa) 186)).alloc (.map #[] 0)):=by
     have:=r1.fresh aO (rR (kv:=sF) (w1.alloc (.cells (dN W pa) 186)));rw[im] at this;exact this
    have r3:=aH r2 aO (lN W pa (w1.heap.size+1)) 191;have e2:((w1.alloc (.cells (dN W pa) 186)).alloc (.map #[] 0)).heap.size=w1.heap.size+1+1:=by rw[im,im]
    rw[e2] at r3;have R3:=au (show aI eR w1 (aj (jw (w1.heap.size+1) []) (aj (av (w1.heap.size+1+1) (lN W pa (w1.heap.size+1)) 191) (av w1.heap.size (dN W pa) 186))) _ from r3.perm (by rw[fC];ac_rfl));have hg:W.good/\W.pJ:=by rw[aD.o];exact rF (fP.1 a9.o).2.2
    have KF:=au (fun w9=>Wc (W:=W) (pa:=pa) (b:=w1.heap.size+1) (F0:=fun _=>False) (w0:=w1) (fun W' hm=>HP.o.below (hm.below (fun _ _ h=>h))) HS.o hg.1 hg.2 (W.il gC+1) gC [] (aj (av (w1.heap.size+1+1) (lN W pa (w1.heap.size+1)) 191) (av w1.heap.size (dN W pa) 186)) w9 (IT _) oA (fw _) Uw aO);have af:=au (KF.o _ R3.o);have HG:=au hg;have b7:∀ w:World,(Instr.makeMap 189 none).run Tryz.prog w=.ok (.map (some w.heap.size)) (w.alloc (.map #[] 0)):=fun w=>by kernel_rfl
    clear r0 r1 r2 r3 e2 KF hg;unfold Pf sF gC at af;unfold dN at R3 af ⊢;unfold lN at R3 af;unfold cK at af;dsimp only at af;go_wp2_with fail;refine af.o.mono ?_;rintro e9 w4 ⟨L',rfl,hkn,hext,J,hR⟩;clear af R3 b7;generalize w1.heap.size+1=bm at *
    generalize bm+1=gc at *
    have R4:=au hR;have be:=au hkn;have a5:=au (show ∀ p ∈ L',Bh W gC p.1 from fun p hp=>(hext.new p hp).elim (fun h=>by cases h) id);have bv:=au (show gC ∈ gy L' from J);have ic:=gL HG.o.1 (oA (W:=W));have b6:=lV (oA (W:=W));change Hid (aI eR w1 (aj (jw bm L') (aj (av gc #[.slice pa.A W.rs.length pa.c,.int .i64 W.ka,.int .i64 W.kb,.slice pa.L W.l.length pa.lc,.slice pa.M W.m.length pa.mc,.int .i64 W.l.length,.int .i64 W.m.length,.string (bs []),.bool false,.map (some bm)] 191) (av w1.heap.size (uC pa.A W.rs.length pa.c W.ka W.kb pa.L W.l.length pa.lc pa.M W.m.length pa.mc W.l.length W.m.length (bs []) false) 186))) w4) at R4;have al:W.fi { i:=0,j:=0,a:=[],r:=false }=W.fi gC:=rfl;simp only[al];clear hR hkn hext J al;obtain⟨dd,al⟩:∃ d,d=W.fi gC:=⟨_,rfl⟩;rw[<-al] at ic b6 ⊢;have bo:=au al;clear al;by_cases b8:dd<bound
    ·have HF:=au (fun W' (hb:Below w.heap.size w W')=>xO (w:=w) (w':=W') (T:=T) (k:=k) (k2:=k2) (x:=x) (y:=y) (bound:=bound) (.none a9.o ai.o.1 ai.o.2 (by rw[<-aD.o,<-bo.o];exact b8)) hb);have aa:=au (ae.o.trans ((R4.o.mod.below (fun _ _ h=>h)).mono ae.o.size));go_wp2;refine bodyPost_ret (results_tmp2 rfl _ _ _) rfl ?_;exact HF.o _ aa.o
    ·obtain⟨es,I,ac,aq⟩:=xM R4.o;have R5:=au aq;have a0:=au ac;obtain⟨F5,br⟩:=aq.fst;obtain⟨F6,b1⟩:=aq.drop.fst;have c9:=ay (i:=9) b1 rfl;obtain⟨aE,a4⟩:=Go.CH.run_range_map (P:=Tryz.prog) Tryz.underlying189 br.1;have bw:(aj (aW bm (.map es I)) (aj (av gc #[.slice pa.A W.rs.length pa.c,.int .i64 W.ka,.int .i64 W.kb,.slice pa.L W.l.length pa.lc,.slice pa.M W.m.length pa.mc,.int .i64 W.l.length,.int .i64 W.m.length,.string (bs []),.bool false,.map (some bm)] 191) (av w1.heap.size (uC pa.A W.rs.length pa.c W.ka W.kb pa.L W.l.length pa.lc pa.M W.m.length pa.mc W.l.length W.m.length (bs []) false) 186))).Ok:=aB bg aO;have R6:=au (aq.fresh bw (JV w4 a4));have ao:=au (JW ac.1);have a6:=au (Rz be.o HG.o.2 (by rw[HW.o];exact l5 k x) (by rw[HW.o];exact l5 k2 y) a5.o);clear R4 ac br b1 a4 aq;have R7:=au (R6.o.fresh aO (⟨fun _=>False,fT _ _ _,Mod.refl _ _,fun i hi=>.inl hi⟩:bT _ eR (sG none 0 []) _));have ce:=au (show es.toList.length=L'.length by rw[<-ao.o.1,gh]);clear R6 R5 bw;go_wp2_with fail;generalize w4.alloc (.mapIter (some bm) I #[] I)=w5 at *
     generalize w4.heap.size=gi at *
     generalize w1.heap.size=gp at *
     clear aE c9
     go_loopg [17] (es.size) (fun gk n wr=>∃ (left:List MapEntry) (Dn:List (St × Int)) (A:eV) (c:Nat),left.length=gk/\n=.slice A (Dn.filterMap (rH bound)).length c/\(Dn++left.map wh).Perm L'/\(∀ e ∈ left,e ∈ es.toList)/\aI eR w1 (aj (sG A c (Dn.filterMap (rH bound))) (aj (jZ gi bm es I left) (aj (aW bm (.map es I)) (aj (av gc #[.slice pa.A W.rs.length pa.c,.int .i64 W.ka,.int .i64 W.kb,.slice pa.L W.l.length pa.lc,.slice pa.M W.m.length pa.mc,.int .i64 W.l.length,.int .i64 W.m.length,.string (bs []),.bool false,.map (some bm)] 191) (av gp (uC pa.A W.rs.length pa.c W.ka W.kb pa.L W.l.length pa.lc pa.M W.m.length pa.mc W.l.length W.m.length (bs []) false) 186))))) wr)
     case atStart=>exact⟨es.toList,[],none,0,by simp,rfl,by rw[l4,ao.o.1],fun _ h=>h,R7.o⟩
     case round=>
      clear R7;obtain⟨left,Dn,A,c,bn,rfl,an,J,hR⟩:=hrel;obtain⟨FI,ba⟩:=hR.drop.fst;obtain⟨FB,bb⟩:=hR.drop.drop.fst;rcases Go.CH.run_next_map (P:=Tryz.prog) ba.1 bb.1 a0.o.2.2.2 a0.o.2.2.1 0 with⟨bu,ad⟩|⟨i,hi,w6,ad,a7,b2,bi,a1⟩
      ·have aw:Dn.Perm L':=by rw[bu,pH,mS] at an;exact an
       have bc:(Dn.filterMap (rH bound)).length<=5737412434:=kh (yz ..) (by rw[aw.length_eq];exact a6.o);obtain⟨F7,h7,-,bk⟩:=hR.take tQ aO;have KS:=au (UJ h7 eL);have bp:=au bk;have ak:=au (aw.filterMap (rH bound));clear an aw bc h7 bk J bu ba bb hR bn;generalize Dn.filterMap (rH bound)=C at *
       generalize wr=w6 at *
       go_wp2_with fail;refine KS.o.mono ?_;rintro e9 w7 ⟨rfl,C',hp1,hp2,hp3⟩;have H7:=au (bp.o _ _ hp3);have cb:=au hp1.length_eq;have b4:=au (Y7 (W:=W) (bound:=bound) be.o bv.o a5.o (hp1.trans ak.o) hp2);clear KS bp hp1 hp2 hp3 ad;rw[<-cb.o];dsimp only;go_wp2;refine bodyPost_ret (results_tmp2 rfl _ _ _) rfl ?_;have h8:=(((aI.begin w).below aN ae.o).fresh aN ((H7.o.swap.drop).post tQ));refine⟨A,c,C',0,rfl,.some C' a9.o ai.o.1 ai.o.2 ?_ ?_,(h8.swap.drop).post tQ⟩
       ·rw[<-aD.o,<-bo.o];omega
       ·rw[<-aD.o];exact b4.o
      ·have bj:Dn.length<=5737412434:=by
        have:=an.length_eq;rw[gd] at this;have h9:=a6.o;omega
       have bc:(Dn.filterMap (rH bound)).length<=5737412434:=kh (yz ..) bj;obtain⟨F7,h7,-,bk⟩:=(hR.kN).take xL aO;have h8:=bk (jZ gi bm es I (left.eraseIdx i)) w6 ⟨F7,⟨a7,h7.2⟩,b2.mono (fun j _ hj=>(h7.2 j).2 hj),fun i hi=>.inl hi⟩;have R8:=au (h8.kN);obtain⟨cd,a3⟩:=h8.drop.drop.fst;have ap:=a1 w6 rfl a3.1;obtain⟨a2,a8⟩:=ao.o.2 _ (J _ (gv hi));rw[a2,a8] at ad ap;have ak:=au (FE hi an);have bf:=au (fun e (he:e ∈ left.eraseIdx i)=>J e (NB he));have bz:=au (show(left.eraseIdx i).length=left.length-1 by rw[E7,if_pos hi]);have HI:=au hi;have ab:=au (RD bound Dn (wh left[i]));generalize wh left[i]=q at ak ab ad ap;obtain⟨⟨qi,qj,qa,qr⟩,qv⟩:=q;unfold sF cK at ad ap;dsimp only at ad ap ab;have b3:(aj (jZ gi bm es I (left.eraseIdx i)) (aj (aW bm (.map es I)) (aj (av gc #[.slice pa.A W.rs.length pa.c,.int .i64 W.ka,.int .i64 W.kb,.slice pa.L W.l.length pa.lc,.slice pa.M W.m.length pa.mc,.int .i64 W.l.length,.int .i64 W.m.length,.string (bs []),.bool false,.map (some bm)] 191) (av gp (uC pa.A W.rs.length pa.c W.ka W.kb pa.L W.l.length pa.lc pa.M W.m.length pa.mc W.l.length W.m.length (bs []) false) 186)))).Ok:=aB xL aO;have R9:=au (aH R8.o aO (fx qi qj (bs qa) qr) 184);have b9:=au b3;clear an bj h7 bk h8 a3 a2 a8 a1 J ba bb hR a7 b2 bi b3 R8;generalize az:Dn.filterMap (rH bound)=C at *
       generalize Dn++[(({ i:=qi,j:=qj,a:=qa,r:=qr }:St),qv)]=D2 at ak ab;by_cases bx:0<min qv bound
       ·rw[if_pos bx] at ab;obtain⟨F9,ax⟩:=R9.o.fst;have z0:=ay (i:=0) ax rfl;have z1:=ay (i:=1) ax rfl;have z2:=ay (i:=2) ax rfl;have z3:=ay (i:=3) ax rfl;have aA:=au (R9.o.drop);have b5:=au az;clear ax R9 az;go_wp2_with (at_builtin;refine held ?_);refine lB.mk (Ze rfl (.tmp 60) (.tmp 71) rfl ⟨qi,qj,qa,qr,min qv bound⟩ rfl rfl (by rw[im];rfl) eL b9.o aA.o ?_);intro A' c' w8 bh;have ca:=au bh;have b0:C.length+1=(D2.filterMap (rH bound)).length:=by rw[ab.o,gd];rfl
        have ag:=au (show D2.filterMap (rH bound)=C++[⟨qi,qj,qa,qr,min qv bound⟩] from ab.o);rw[b0];clear bh aA b0 z0 z1 z2 z3 bc ad ap;go_wp2_with fail
        go_roundg (left.length-1)
        case measure=>have:=HI.o;omega
        case rel=>exact⟨left.eraseIdx i,D2,A',c',bz.o,rfl,ak.o,bf.o,by rw[ag.o];exact ca.o⟩
       ·rw[if_neg bx] at ab;have aA:=au (R9.o.drop);have b5:=au az;have ag:=au (show D2.filterMap (rH bound)=C from by rw[ab.o,mS]);clear R9 az;go_wp2_with fail;rw[<-ag.o]
        go_roundg (left.length-1)
        case measure=>have:=HI.o;omega
        case rel=>exact⟨left.eraseIdx i,D2,A,c,bz.o,rfl,ak.o,bf.o,by rw[ag.o];exact aA.o⟩
def Ig (r:Nat):Bool:=decide (r<97)||decide (122<r)
theorem Zf (c:UInt8):Ig c.toNat=!jY c:=by
 unfold Ig jY;have h1:(97<=c)↔97<=c.toNat:=by rw[Hn];rfl
 have h2:(c<=122)↔c.toNat<=122:=by rw[Hn];rfl
 by_cases g1:97<=c.toNat<;>by_cases g2:c.toNat<=122
 ·simp[h1,h2,g1,g2]
 ·simp[h1,h2,g1,g2];omega
 ·simp[h1,h2,g1,g2];omega
 ·simp[h1,h2,g1,g2];omega
theorem Pv (s:ByteArray):∀ (f pos:Nat),s.size<=f+pos->decide (0<=Lib.idxFuncFrom Ig true s f pos)=!((bl s).drop pos).all jY
 | 0,pos,h=>by
  have e:(bl s).drop pos=[]:=E6 (by rw[qg];omega);rw[e];rfl
 | f+1,pos,h=>by
  unfold Lib.idxFuncFrom;by_cases I:pos<s.size
  ·have M:pos<(bl s).length:=by rw[qg];exact I
   have hc:(bl s)[pos]=s[pos]:=by
    have:=O2 s pos I;rw[gR M] at this;injection this
   rw[if_pos I,rK M,C0,hc];by_cases ha:(s[pos]'I).toNat<128
   ·rw[decode_ascii s pos I ha];simp only;rw[Zf];cases J:jY s[pos] with
    | false=>simp
    | true=>
     simp only[ma,kO,if_false,lx];exact Pv s f (pos+1) eL
   ·have h1:=(Go.decode_high s pos I eL).1;have h2:Ig (Utf8.decode s pos).1=true:=by unfold Ig;simp;omega
    have h3:jY s[pos]=false:=by
     unfold jY;have:¬ (s[pos]<=122):=by rw[Hn];show ¬ (s[pos].toNat<=122);omega
     simp[this]
    rw[h2,h3];simp
  ·have e:(bl s).drop pos=[]:=E6 (by rw[qg];omega);rw[if_neg I,e];rfl
theorem Zg (a:Bs):decide (0<=Lib.idxFunc Ig true (bs a))=!a.all jY:=by
 have:=Pv (bs a) (bs a).size 0 eL;rw[xF,iM] at this;exact this
theorem Zh (x:Nat) (w:World):Calls Tryz.prog 99 #[.int .i32 (x:Int)] w fun e w'=>e=.returned (.bool (Ig x))/\w'=w:=by
 unfold Ig;by_cases M:x<97
 ·have h:(x:Int)<97:=by omega
  rw[decide_eq_true M]
  go_enter Tryz.func99,Tryz.ntmps99
  go_wp2;go_ret;exact⟨rfl,rfl⟩
 ·have h:¬ (x:Int)<97:=by omega
  rw[decide_eq_false M];by_cases J:122<x
  ·have I:(122:Int)<(x:Int):=by omega
   rw[decide_eq_true J]
   go_enter Tryz.func99,Tryz.ntmps99
   go_wp2;go_ret;exact⟨rfl,rfl⟩
  ·have I:¬ (122:Int)<(x:Int):=by omega
   rw[decide_eq_false J]
   go_enter Tryz.func99,Tryz.ntmps99
   go_wp2;go_ret;exact⟨rfl,rfl⟩
theorem ji (a:Bs) (w:World):Calls Tryz.prog 100 #[.string (bs a),.func (.func 99) #[] #[]] w (aS w (.bool (!a.all jY))):=by
 have h:=Tryz.strings_ContainsFunc 99 #[] (enters_of Tryz.func99 eQ rfl) Ig (bs a) w (fun W x _=>(Zh x W).mono fun e w' ⟨h1,h2⟩=>⟨h1,0,h2⟩);rw[Zg] at h;exact h
variable {K:Act->World->Prop}{t:TypeId}{v:Value}
theorem jC {P:Program} {o:Oper}     {I:TypeId} {x y:Operand} {xs ys:Array Value}  (M:o.op=.binOp .neq t x y I) (hx:a.eval x=.agg xs) (J:a.eval y=.agg ys)
  (hm:P.eqGuardType P.depth t=false) (h:(binOp .neq t (.agg xs) (.agg ys)).run P w=.ok v w) (hK:K (a.put o.dst v) w):o.wp P a w K Q:=by
 unfold Oper.wp execOp;simp only[M,hx,J,j9,run_eqGuard_agg w .neq t x y xs ys hm,kx,h,kz];exact hK
theorem WN (a b:St) (w:World):(binOp .neq 184 (sF a) (sF b)).run Tryz.prog w=.ok (.bool (decide (a≠b))) w:=by
 have h:=ZH (P:=Tryz.prog) (fs:=#[⟨"i",3,0,false, "", "customhouse/potential",0⟩,⟨"j",3,1,false, "", "customhouse/potential",8⟩,⟨"ahead",9,2,false, "", "customhouse/potential",16⟩,⟨"right",4,3,false, "", "customhouse/potential",32⟩]) Tryz.underlying184 eQ (tN a) (tN b) w;refine h.trans ?_;rw[show(#[(⟨"i",3,0,false, "", "customhouse/potential",0⟩:Field),⟨"j",3,1,false, "", "customhouse/potential",8⟩,⟨"ahead",9,2,false, "", "customhouse/potential",16⟩,⟨"right",4,3,false, "", "customhouse/potential",32⟩]:Array Field).toList=[⟨"i",3,0,false, "", "customhouse/potential",0⟩,⟨"j",3,1,false, "", "customhouse/potential",8⟩,⟨"ahead",9,2,false, "", "customhouse/potential",16⟩,⟨"right",4,3,false, "", "customhouse/potential",32⟩] from rfl,BF];by_cases h:a=b<;>simp[h]
theorem RF (W:Wd) (bound:Int) (p:Pt):proper W bound p=(decide (0<=p.i)&&decide (p.i<=W.l.length)&&decide (0<=p.j)&&decide (p.j<=W.m.length)&&decide (p.a.length<=3)&&p.a.all jY&&(!p.r||decide (p.a≠[]))&&decide (p.st≠W.fin)&&decide (0<p.h)&&decide (p.h<=min bound 100000)):=rfl
theorem Nf {W:Wd} {pa:PA}  {p:Pt} (w:World) (ha:p.a.length<=1000000) (hl:W.l.length<=1000000) (hm:W.m.length<=1000000):Calls Tryz.prog 77 #[eD W pa,xT p,.int .i64 bound] w (aS w (.bool (proper W bound p))):=by
 obtain⟨b,hb⟩:∃ b,b=proper W bound p:=⟨_,rfl⟩;rw[<-hb];rw[RF] at hb;obtain⟨pi,pj,aa,pr,ph⟩:=p;have HB:=au hb;clear hb;have h1:=aH (aI.begin w) aN (dN W pa) 186;have h2:=aH h1 aO (sA pi pj (bs aa) pr ph) 110;have af:=au (h2.mod.below (fun _ _ h=>h));have h3:=aH h2 aO (fx pi pj (bs aa) pr) 184;simp only[im] at h3;have H3:=au h3;clear h1 h2 h3;unfold eD xT dN;unfold dN at af H3;dsimp only at HB ha ⊢;by_cases hA:0<=pi
 case neg=>
  have HV:=au (show b=false from by rw[HB.o];simp[hA]);clear HB
  go_enter Tryz.func77,Tryz.ntmps77
  go_wp2;go_ret;exact aK HV.o (af.o.alloc af.o.size _)
 case pos=>
  by_cases hB:pi<=W.l.length
  case neg=>
   have HV:=au (show b=false from by rw[HB.o];simp[hA,hB]);clear HB
   go_enter Tryz.func77,Tryz.ntmps77
   go_wp2;go_ret;exact aK HV.o (af.o.alloc af.o.size _)
  case pos=>
   by_cases hC:0<=pj
   case neg=>
    have HV:=au (show b=false from by rw[HB.o];simp[hA,hB,hC]);clear HB
    go_enter Tryz.func77,Tryz.ntmps77
    go_wp2;go_ret;exact aK HV.o (af.o.alloc af.o.size _)
   case pos=>
    by_cases hD:pj<=W.m.length
    case neg=>
     have HV:=au (show b=false from by rw[HB.o];simp[hA,hB,hC,hD]);clear HB
     go_enter Tryz.func77,Tryz.ntmps77
     go_wp2;go_ret;exact aK HV.o (af.o.alloc af.o.size _)
    case pos=>
     by_cases hE:aa.length<=3
     case neg=>
      have am:¬ ((bs aa).size:Int)<=3:=by rw[cu];omega
      have HV:=au (show b=false from by rw[HB.o];simp[hE]);clear HB
      go_enter Tryz.func77,Tryz.ntmps77
      go_wp2;go_ret;exact aK HV.o (af.o.alloc af.o.size _)
     case pos=>
      have am:((bs aa).size:Int)<=3:=by rw[cu];omega
      cases ae:aa.all jY with
      | false=>
       have HV:=au (show b=false from by rw[HB.o];simp[ae]);have KA:=au (fun W'=>ji aa W');simp only[ae,ma,mT] at KA;clear HB
       go_enter Tryz.func77,Tryz.ntmps77
       go_wp2_with fail;refine(KA.o _).mono ?_;rintro e9 w9 ⟨rfl,hb9⟩;have H4:=au (H3.o.below aO hb9);have ad:=au (H4.o.mod.below (fun _ _ h=>h));clear H3;obtain⟨F1,J⟩:=H4.o.fst;obtain⟨F2,M⟩:=H4.o.drop.fst;obtain⟨F3,I⟩:=H4.o.drop.drop.fst;have s0:=ay (i:=0) J rfl;have s1:=ay (i:=1) J rfl;have s2:=ay (i:=2) J rfl;have s3:=ay (i:=3) J rfl;have p2:=ay (i:=2) M rfl;have p3:=ay (i:=3) M rfl;have p4:=ay (i:=4) M rfl;have e5:=ay (i:=5) I rfl;have e6:=ay (i:=6) I rfl;have e7:=ay (i:=7) I rfl;have e8:=ay (i:=8) I rfl;clear J M I H4;clear KA hb9;dsimp only;go_wp2;go_ret;exact aK HV.o ad.o
      | true=>
       by_cases hG:pr=true/\aa=[]
       case pos=>
        obtain⟨rfl,rfl⟩:=hG;have ak:(bs ([]:Bs)).toList.isEmpty=true:=by rw[rN];exact dA.2 rfl
        have HV:=au (show b=false from by rw[HB.o];simp[]);have KA:=au (fun W'=>ji [] W');simp only[List.all_nil,ma] at KA;clear HB
        go_enter Tryz.func77,Tryz.ntmps77
        go_wp2_with fail;refine(KA.o _).mono ?_;rintro e9 w9 ⟨rfl,hb9⟩;have H4:=au (H3.o.below aO hb9);have ad:=au (H4.o.mod.below (fun _ _ h=>h));clear H3;obtain⟨F1,J⟩:=H4.o.fst;obtain⟨F2,M⟩:=H4.o.drop.fst;obtain⟨F3,I⟩:=H4.o.drop.drop.fst;have s0:=ay (i:=0) J rfl;have s1:=ay (i:=1) J rfl;have s2:=ay (i:=2) J rfl;have s3:=ay (i:=3) J rfl;have p2:=ay (i:=2) M rfl;have p3:=ay (i:=3) M rfl;have p4:=ay (i:=4) M rfl;have e5:=ay (i:=5) I rfl;have e6:=ay (i:=6) I rfl;have e7:=ay (i:=7) I rfl;have e8:=ay (i:=8) I rfl;clear J M I H4;clear KA hb9;dsimp only;go_wp2;go_ret;exact aK HV.o ad.o
       case neg=>
        have an:(!pr||decide (aa≠[]))=true:=by cases hp:pr<;>simp[hp] at hG ⊢;exact hG
        obtain⟨ni,rfl⟩:∃ n:Nat,pi=n:=⟨pi.toNat,by omega⟩;obtain⟨nj,rfl⟩:∃ n:Nat,pj=n:=⟨pj.toNat,by omega⟩;have ac:=fun w=>WN ⟨ni,nj,aa,pr⟩ W.fin w;by_cases hI:(⟨ni,nj,aa,pr⟩:St)=W.fin
        case pos=>
         have ai:Pt.st ⟨ni,nj,aa,pr,ph⟩=W.fin:=hI;rw[decide_eq_false (fun h=>h hI)] at ac;unfold sF cK Wd.fin at ac;dsimp only at ac;cases pr with
         | false=>
          have HV:=au (show b=false from by rw[HB.o];simp[ai]);have KA:=au (fun W'=>ji aa W');simp only[ae,ma,mT] at KA;clear HB
          go_enter Tryz.func77,Tryz.ntmps77
          go_wp2_with fail;refine(KA.o _).mono ?_;rintro e9 w9 ⟨rfl,hb9⟩;have H4:=au (H3.o.below aO hb9);have ad:=au (H4.o.mod.below (fun _ _ h=>h));clear H3;obtain⟨F1,J⟩:=H4.o.fst;obtain⟨F2,M⟩:=H4.o.drop.fst;obtain⟨F3,I⟩:=H4.o.drop.drop.fst;have s0:=ay (i:=0) J rfl;have s1:=ay (i:=1) J rfl;have s2:=ay (i:=2) J rfl;have s3:=ay (i:=3) J rfl;have p2:=ay (i:=2) M rfl;have p3:=ay (i:=3) M rfl;have p4:=ay (i:=4) M rfl;have e5:=ay (i:=5) I rfl;have e6:=ay (i:=6) I rfl;have e7:=ay (i:=7) I rfl;have e8:=ay (i:=8) I rfl;clear J M I H4;clear KA hb9;dsimp only;have ab:=ac w9;clear ac
          iterate 42 (first|go_values|go_guarded|go_step)
          refine jC rfl rfl rfl eQ ab ?_;go_wp2;go_ret;exact aK HV.o ad.o
         | true=>
          have ak:(bs aa).toList.isEmpty=false:=by rw[pM];exact fun e=>hG ⟨rfl,dA.1 e⟩
          have ag:aa≠[]:=fun e=>hG ⟨rfl,e⟩;have HV:=au (show b=false from by rw[HB.o];simp[ai,ag]);have KA:=au (fun W'=>ji aa W');simp only[ae,ma,mT] at KA;clear HB
          go_enter Tryz.func77,Tryz.ntmps77
          go_wp2_with fail;refine(KA.o _).mono ?_;rintro e9 w9 ⟨rfl,hb9⟩;have H4:=au (H3.o.below aO hb9);have ad:=au (H4.o.mod.below (fun _ _ h=>h));clear H3;obtain⟨F1,J⟩:=H4.o.fst;obtain⟨F2,M⟩:=H4.o.drop.fst;obtain⟨F3,I⟩:=H4.o.drop.drop.fst;have s0:=ay (i:=0) J rfl;have s1:=ay (i:=1) J rfl;have s2:=ay (i:=2) J rfl;have s3:=ay (i:=3) J rfl;have p2:=ay (i:=2) M rfl;have p3:=ay (i:=3) M rfl;have p4:=ay (i:=4) M rfl;have e5:=ay (i:=5) I rfl;have e6:=ay (i:=6) I rfl;have e7:=ay (i:=7) I rfl;have e8:=ay (i:=8) I rfl;clear J M I H4;clear KA hb9;dsimp only;have ab:=ac w9;clear ac
          iterate 50 (first|go_values|go_guarded|go_step)
          refine jC rfl rfl rfl eQ ab ?_;go_wp2;go_ret;exact aK HV.o ad.o
        case neg=>
         rw[decide_eq_true hI] at ac;unfold sF cK Wd.fin at ac;dsimp only at ac;have al:(Pt.st ⟨ni,nj,aa,pr,ph⟩:St)≠W.fin:=hI;by_cases hJ:0<ph
         case neg=>
          cases pr with
          | false=>
           have HV:=au (show b=false from by rw[HB.o];simp[hJ]);have KA:=au (fun W'=>ji aa W');simp only[ae,ma,mT] at KA;clear HB
           go_enter Tryz.func77,Tryz.ntmps77
           go_wp2_with fail;refine(KA.o _).mono ?_;rintro e9 w9 ⟨rfl,hb9⟩;have H4:=au (H3.o.below aO hb9);have ad:=au (H4.o.mod.below (fun _ _ h=>h));clear H3;obtain⟨F1,J⟩:=H4.o.fst;obtain⟨F2,M⟩:=H4.o.drop.fst;obtain⟨F3,I⟩:=H4.o.drop.drop.fst;have s0:=ay (i:=0) J rfl;have s1:=ay (i:=1) J rfl;have s2:=ay (i:=2) J rfl;have s3:=ay (i:=3) J rfl;have p2:=ay (i:=2) M rfl;have p3:=ay (i:=3) M rfl;have p4:=ay (i:=4) M rfl;have e5:=ay (i:=5) I rfl;have e6:=ay (i:=6) I rfl;have e7:=ay (i:=7) I rfl;have e8:=ay (i:=8) I rfl;clear J M I H4;clear KA hb9;dsimp only;have ab:=ac w9;clear ac
           iterate 42 (first|go_values|go_guarded|go_step)
           refine jC rfl rfl rfl eQ ab ?_;go_wp2;go_ret;exact aK HV.o ad.o
          | true=>
           have ak:(bs aa).toList.isEmpty=false:=by rw[pM];exact fun e=>hG ⟨rfl,dA.1 e⟩
           have ag:aa≠[]:=fun e=>hG ⟨rfl,e⟩;have HV:=au (show b=false from by rw[HB.o];simp[hJ,ag]);have KA:=au (fun W'=>ji aa W');simp only[ae,ma,mT] at KA;clear HB
           go_enter Tryz.func77,Tryz.ntmps77
           go_wp2_with fail;refine(KA.o _).mono ?_;rintro e9 w9 ⟨rfl,hb9⟩;have H4:=au (H3.o.below aO hb9);have ad:=au (H4.o.mod.below (fun _ _ h=>h));clear H3;obtain⟨F1,J⟩:=H4.o.fst;obtain⟨F2,M⟩:=H4.o.drop.fst;obtain⟨F3,I⟩:=H4.o.drop.drop.fst;have s0:=ay (i:=0) J rfl;have s1:=ay (i:=1) J rfl;have s2:=ay (i:=2) J rfl;have s3:=ay (i:=3) J rfl;have p2:=ay (i:=2) M rfl;have p3:=ay (i:=3) M rfl;have p4:=ay (i:=4) M rfl;have e5:=ay (i:=5) I rfl;have e6:=ay (i:=6) I rfl;have e7:=ay (i:=7) I rfl;have e8:=ay (i:=8) I rfl;clear J M I H4;clear KA hb9;dsimp only;have ab:=ac w9;clear ac
           iterate 50 (first|go_values|go_guarded|go_step)
           refine jC rfl rfl rfl eQ ab ?_;go_wp2;go_ret;exact aK HV.o ad.o
         case pos=>
          by_cases hK:ph<=min bound 100000
          case neg=>
           cases pr with
           | false=>
            have HV:=au (show b=false from by rw[HB.o];simp[hK]);have KA:=au (fun W'=>ji aa W');simp only[ae,ma,mT] at KA;clear HB
            go_enter Tryz.func77,Tryz.ntmps77
            go_wp2_with fail;refine(KA.o _).mono ?_;rintro e9 w9 ⟨rfl,hb9⟩;have H4:=au (H3.o.below aO hb9);have ad:=au (H4.o.mod.below (fun _ _ h=>h));clear H3;obtain⟨F1,J⟩:=H4.o.fst;obtain⟨F2,M⟩:=H4.o.drop.fst;obtain⟨F3,I⟩:=H4.o.drop.drop.fst;have s0:=ay (i:=0) J rfl;have s1:=ay (i:=1) J rfl;have s2:=ay (i:=2) J rfl;have s3:=ay (i:=3) J rfl;have p2:=ay (i:=2) M rfl;have p3:=ay (i:=3) M rfl;have p4:=ay (i:=4) M rfl;have e5:=ay (i:=5) I rfl;have e6:=ay (i:=6) I rfl;have e7:=ay (i:=7) I rfl;have e8:=ay (i:=8) I rfl;clear J M I H4;clear KA hb9;dsimp only;have ab:=ac w9;clear ac
            iterate 42 (first|go_values|go_guarded|go_step)
            refine jC rfl rfl rfl eQ ab ?_;go_wp2;go_ret;exact aK (HV.o.trans (decide_eq_false eL).symm) ad.o
           | true=>
            have ak:(bs aa).toList.isEmpty=false:=by rw[pM];exact fun e=>hG ⟨rfl,dA.1 e⟩
            have ag:aa≠[]:=fun e=>hG ⟨rfl,e⟩;have HV:=au (show b=false from by rw[HB.o];simp[hK,ag]);have KA:=au (fun W'=>ji aa W');simp only[ae,ma,mT] at KA;clear HB
            go_enter Tryz.func77,Tryz.ntmps77
            go_wp2_with fail;refine(KA.o _).mono ?_;rintro e9 w9 ⟨rfl,hb9⟩;have H4:=au (H3.o.below aO hb9);have ad:=au (H4.o.mod.below (fun _ _ h=>h));clear H3;obtain⟨F1,J⟩:=H4.o.fst;obtain⟨F2,M⟩:=H4.o.drop.fst;obtain⟨F3,I⟩:=H4.o.drop.drop.fst;have s0:=ay (i:=0) J rfl;have s1:=ay (i:=1) J rfl;have s2:=ay (i:=2) J rfl;have s3:=ay (i:=3) J rfl;have p2:=ay (i:=2) M rfl;have p3:=ay (i:=3) M rfl;have p4:=ay (i:=4) M rfl;have e5:=ay (i:=5) I rfl;have e6:=ay (i:=6) I rfl;have e7:=ay (i:=7) I rfl;have e8:=ay (i:=8) I rfl;clear J M I H4;clear KA hb9;dsimp only;have ab:=ac w9;clear ac
            iterate 50 (first|go_values|go_guarded|go_step)
            refine jC rfl rfl rfl eQ ab ?_;go_wp2;go_ret;exact aK (HV.o.trans (decide_eq_false eL).symm) ad.o
          case pos=>
           have ai:(decide (Pt.st ⟨ni,nj,aa,pr,ph⟩≠W.fin))=true:=decide_eq_true al;cases pr with
           | false=>
            have HV:=au (show b=true from by rw[HB.o];simp[hA,hB,hC,hD,hE,ae,hJ,hK,ai]);have KA:=au (fun W'=>ji aa W');simp only[ae,ma,mT] at KA;clear HB
            go_enter Tryz.func77,Tryz.ntmps77
            go_wp2_with fail;refine(KA.o _).mono ?_;rintro e9 w9 ⟨rfl,hb9⟩;have H4:=au (H3.o.below aO hb9);have ad:=au (H4.o.mod.below (fun _ _ h=>h));clear H3;obtain⟨F1,J⟩:=H4.o.fst;obtain⟨F2,M⟩:=H4.o.drop.fst;obtain⟨F3,I⟩:=H4.o.drop.drop.fst;have s0:=ay (i:=0) J rfl;have s1:=ay (i:=1) J rfl;have s2:=ay (i:=2) J rfl;have s3:=ay (i:=3) J rfl;have p2:=ay (i:=2) M rfl;have p3:=ay (i:=3) M rfl;have p4:=ay (i:=4) M rfl;have e5:=ay (i:=5) I rfl;have e6:=ay (i:=6) I rfl;have e7:=ay (i:=7) I rfl;have e8:=ay (i:=8) I rfl;clear J M I H4;clear KA hb9;dsimp only;have ab:=ac w9;clear ac
            iterate 42 (first|go_values|go_guarded|go_step)
            refine jC rfl rfl rfl eQ ab ?_;go_wp2;go_ret;exact aK HV.o ad.o
           | true=>
            have ak:(bs aa).toList.isEmpty=false:=by rw[pM];exact fun e=>hG ⟨rfl,dA.1 e⟩
            have ag:aa≠[]:=fun e=>hG ⟨rfl,e⟩;have HV:=au (show b=true from by rw[HB.o];simp[hA,hB,hC,hD,hE,ae,hJ,hK,ai,ag]);have KA:=au (fun W'=>ji aa W');simp only[ae,ma,mT] at KA;clear HB
            go_enter Tryz.func77,Tryz.ntmps77
            go_wp2_with fail;refine(KA.o _).mono ?_;rintro e9 w9 ⟨rfl,hb9⟩;have H4:=au (H3.o.below aO hb9);have ad:=au (H4.o.mod.below (fun _ _ h=>h));clear H3;obtain⟨F1,J⟩:=H4.o.fst;obtain⟨F2,M⟩:=H4.o.drop.fst;obtain⟨F3,I⟩:=H4.o.drop.drop.fst;have s0:=ay (i:=0) J rfl;have s1:=ay (i:=1) J rfl;have s2:=ay (i:=2) J rfl;have s3:=ay (i:=3) J rfl;have p2:=ay (i:=2) M rfl;have p3:=ay (i:=3) M rfl;have p4:=ay (i:=4) M rfl;have e5:=ay (i:=5) I rfl;have e6:=ay (i:=6) I rfl;have e7:=ay (i:=7) I rfl;have e8:=ay (i:=8) I rfl;clear J M I H4;clear KA hb9;dsimp only;have ab:=ac w9;clear ac
            iterate 50 (first|go_values|go_guarded|go_step)
            refine jC rfl rfl rfl eQ ab ?_;go_wp2;go_ret;exact aK HV.o ad.o
def UM (w:World) (T:eW) (k:Int) (x:Bs) (k2:Int) (y:Bs) (bound:Int) (C:List Pt) (e:Ending) (w':World):Prop:=
 ∃ b:Bool,e=.returned (.bool b)/\(b=true↔jl T k x k2 y bound C)/\Below w.heap.size w w'
def CP (W:Wd) (bound:Int) (C:List Pt) (n:Nat):Prop:=(∀ p ∈ C.take n,proper W bound p=true)/\(C.take n).Pairwise Bz
def k7 (C:List Pt):List (St × Int):=C.map fun p=>(p.st,p.h)
section
variable {W:Wd} {bound:Int} {C:List Pt} {n:Nat}
theorem RG:CP W bound C 0:=⟨by simp,by simp⟩
theorem RH (hn:n<C.length) (h:CP W bound C n) (h1:proper W bound C[n]=true) (h2:0<n->Bz (C[n-1]'eL) C[n]):CP W bound C (n+1):=by
 obtain⟨g1,g2⟩:=h;have e:=kq hn;refine⟨fun p I=>?_,?_⟩
 ·rw[e] at I;rcases List.mem_append.1 I with I|I
  ·exact g1 p I
  ·rw[List.mem_singleton.1 I];exact h1
 ·rw[e,List.pairwise_append];refine⟨g2,List.pairwise_singleton _ _,fun a ha b hb=>?_⟩;rw[List.mem_singleton.1 hb];obtain⟨j,hj,rfl⟩:=List.mem_iff_getElem.1 ha;rw[kt] at hj;rw[zz];have M:=h2 eL;by_cases J:j=n-1
  ·subst J;exact M
  ·have h4:=List.pairwise_iff_getElem.1 g2 j (n-1) (by rw[kt];omega) (by rw[kt];omega) eL;rw[zz,zz] at h4;exact zB h4 M
theorem UN (hn:n<C.length) (h1:proper W bound C[n]=false):¬ Holds W bound C:=fun h=>by
 have:=h.1 C[n] (gv hn);rw[h1] at this;cases this
theorem UO (hn:n<C.length) (h0:0<n) (h2:¬ Bz (C[n-1]'eL) C[n]):¬ Holds W bound C:=fun h=>
 h2 (List.pairwise_iff_getElem.1 h.2.1 (n-1) n eL hn eL)
theorem wm {p:Pt} (h:proper W bound p=true):0<=p.i/\0<=p.j:=by
 have:=lW.1 h;exact⟨this.1.1,this.2.1.1⟩
theorem Zi (hn:n<C.length) (h:CP W bound C (n+1)):C[n].st ∉ (k7 (C.take n)).map (·.1):=by
 intro hm;unfold k7 at hm;rw[qq] at hm;obtain⟨p,J,e⟩:=List.mem_map.1 hm;obtain⟨g1,g2⟩:=h;rw[kq hn] at g1 g2;have h1:=wm (g1 p (B9 _ J));have h2:=wm (g1 C[n] (yW _ (List.mem_singleton.2 rfl)));have I:=(List.pairwise_append.1 g2).2.2 p J C[n] (List.mem_singleton.2 rfl);have M:=V1 h1 h2 e;unfold Bz at I;rcases I with I|⟨-,I|⟨-,I|⟨-,I,h5⟩⟩⟩
 ·omega
 ·omega
 ·rw[M.2.2.1] at I;exact uP _ I
 ·rw[M.2.2.2,h5] at I;cases I
theorem UQ (hn:n<C.length):k7 (C.take (n+1))=k7 (C.take n)++[(C[n].st,C[n].h)]:=by
 unfold k7;rw[kq hn,km];rfl
variable {s:St}
theorem UR :(nV ((k7 C).map fun p=>(p.1,Value.int .i64 p.2)) s).getD (.int .i64 0)=.int .i64 (ju C s):=by
 unfold ju
 induction C with
 | nil=>rfl
 | cons p C ih=>
  show(nV ((p.st,Value.int .i64 p.h)::((k7 C).map fun p=>(p.1,Value.int .i64 p.2))) s).getD _=_
  rw[qL,Gr];by_cases h:s=p.st
  ·rw[if_pos h,decide_eq_true h.symm];rfl
  ·rw[if_neg h,decide_eq_false (fun e=>h e.symm)];exact ih
end
def tV (W:Wd) (C:List Pt) (q:St × Int):Prop:=∀ x ∈ W.moves q.1,q.2<=x.1+ju C x.2
def wu (W:Wd) (C:List Pt) (q:St × Int) (i:Nat):Prop:=∀ j (hj:j<(W.moves q.1).length),j<i->q.2<=(W.moves q.1)[j].1+ju C (W.moves q.1)[j].2
variable {W:Wd}{bm gm gp gi I:Nat}{pa:PA}{w1 wr:World}{F:Nat->Prop}
theorem JX   {q:St × Int}:wu W C q 0:=fun j _ h=>absurd h (nB _)
theorem JY   {q:St × Int}  {x:Int × St} (hx:(W.moves q.1)[i]?=some x) (h:wu W C q i) (h2:q.2<=x.1+ju C x.2):wu W C q (i+1):=fun j hj hji=>by
 by_cases e:j=i
 ·subst e;rw[gR hj] at hx;injection hx with hx
  rw[hx];exact h2
 ·exact h j hj eL
theorem Ni   {q:St × Int} (h:wu W C q (W.moves q.1).length):tV W C q:=fun x hx=>by
 obtain⟨j,hj,rfl⟩:=List.mem_iff_getElem.1 hx;exact h j hj hj
theorem UY   {q:St × Int} {x:Int × St} (hx:x ∈ W.moves q.1) (h:¬ q.2<=x.1+ju C x.2):¬ tV W C q:=fun h2=>h (h2 x hx)
theorem UZ    {q:St × Int} (hq:q ∈ k7 C) (h:¬ tV W C q):¬ Holds W bound C:=fun h2=>by
 unfold k7 at hq;obtain⟨p,hp,rfl⟩:=List.mem_map.1 hq;refine h (fun x hx=>?_);have:=List.all_eq_true.1 (h2.2.2.1 p hp) x hx;simpa using this
theorem RJ    {D:List (St × Int)} (J:(∀ p ∈ C,proper W bound p=true)/\C.Pairwise Bz) (hp:D.Perm (k7 C)) (h:∀ q ∈ D,tV W C q) (hb:bound<=ju C gC):Holds W bound C:=by
 refine⟨J.1,J.2,fun p I=>?_,hb⟩;have M:=h (p.st,p.h) (hp.mem_iff.2 (List.mem_map.2 ⟨p,I,rfl⟩));exact List.all_eq_true.2 fun x hx=>decide_eq_true (M x hx)
theorem W7    (h:∀ p ∈ C,proper W bound p=true) (s:St):0<=ju C s/\ju C s<=100000:=by
 unfold ju;cases hf:C.find? (fun p=>decide (p.st=s)) with
 | none=>simp
 | some p=>
  have:=lW.1 (h p (s7 hf));exact⟨by have:=this.2.2.2.2.2.1;simp only;omega,this.2.2.2.2.2.2.2⟩
theorem W8    (h:∀ p ∈ C,proper W bound p=true) {q:St × Int} (hq:q ∈ k7 C):W.ok q.1/\q.1.a.length<=3/\0<=q.2/\q.2<=100000:=by
 unfold k7 at hq;obtain⟨p,I,rfl⟩:=List.mem_map.1 hq;have g:=lW.1 (h p I);refine⟨⟨?_,?_,g.2.2.2.1⟩,g.2.2.1.1,by have:=g.2.2.2.2.2.1;show 0<=p.h;omega,g.2.2.2.2.2.2.2⟩
 ·show p.i.toNat<=W.l.length;have:=g.1;omega
 ·show p.j.toNat<=W.m.length;have:=g.2.1;omega
def Aw (W:Wd) (pa:PA) (es:Array MapEntry) (clock bm gm gp gr gi:Nat) (left:List MapEntry) (Ds:List Nat):CH.aT:=
 aj (jZ gi bm es clock left) (aj (aW bm (.map es clock)) (aj (av gm #[.map (some bm)] 189) (aj (av gp (dN W pa) 186) (aj (av gr (gj false) 4) (dJ Ds)))))
theorem U0    {gr:Nat} {left:List MapEntry} {Ds:List Nat}:(Aw W pa es clock bm gm gp gr gi left Ds).Ok:=
 aB xL (aB bg (aB aC (aB aC (aB aC kZ))))
instance {W:Wd} {pa:PA} {es:Array MapEntry} {clock bm gm gp gr gi:Nat} {left:List MapEntry} {Ds:List Nat}:(Aw W pa es clock bm gm gp gr gi left Ds).Ok:=U0
theorem Py     (h:w.heap[bm]?=some (.map es I)) (M:EC sF es I ((k7 C).map fun p=>(p.1,Value.int .i64 p.2))) (s:St) :
  (Instr.lookup 189 (.map (some bm)) (.agg (fx s.i s.j (bs s.a) s.r)) false).run Tryz.prog w=.ok (.int .i64 (ju C s)) w:=by
 have hm:jw bm (k7 C) w (fun i=>i=bm):=⟨⟨es,I,h,M⟩,fun i=>qt⟩;have J:=yN xI Tryz.underlying189 Tryz.zeroValue3 hm s;rw[UR] at J;exact J
def P1 (F:Nat->Prop) (w1:World) (W:Wd) (pa:PA) (C:List Pt) (bound:Int) (es:Array MapEntry) (h bm gm gp gr I:Nat) (a:Act) (wr:World):Prop:=
 ∃ (v:Nat->Value) (Ds:List Nat) (left:List MapEntry) (Dn:List (St × Int)),(aI F w1 (Aw W pa es h bm gm gp gr I left Ds) wr/\(Dn++left.map wh).Perm (k7 C)/\(∀ e ∈ left,e ∈ es.toList)/\∀ q ∈ Dn,tV W C q) /\
  a={ tmps:=#[v 0,v 1,v 2,v 3,v 4,.int .i64 bound,v 6,v 7,v 8,v 9,v 10,v 11,v 12,v 13,.pointer (some ⟨gr,0,none⟩),.pointer (some ⟨gp,0,none⟩),v 16,.pointer (some ⟨gm,0,none⟩),v 18,v 19,v 20,v 21,v 22,v 23,v 24,v 25,v 26,v 27,v 28,v 29,v 30,v 31,v 32,v 33,v 34,v 35,v 36,v 37,v 38,v 39,v 40,v 41,v 42,v 43,v 44,v 45,v 46,v 47,v 48,v 49,v 50,v 51,v 52,v 53,v 54,v 55,v 56,v 57,v 58,v 59,v 60,v 61,v 62,v 63,v 64,v 65,v 66,v 67,v 68,v 69,v 70,v 71,v 72,v 73,v 74,v 75,.pointer (some ⟨I,0,none⟩),v 77,v 78,v 79,v 80,v 81,v 82,v 83,v 84,v 85,v 86,v 87,v 88,v 89,v 90,v 91,v 92,v 93,v 94,v 95,v 96,v 97,v 98],defers:=Ds.map KY }
theorem Zj  {gr:Nat} (I:Array Value) (h:I.size=99) (h5:I.getD 5 undef=.int .i64 bound) (J:I.getD 14 undef=.pointer (some ⟨gr,0,none⟩)) (ab:I.getD 15 undef=.pointer (some ⟨gp,0,none⟩)) (M:I.getD 17 undef=.pointer (some ⟨gm,0,none⟩)) (aa:I.getD 76 undef=.pointer (some ⟨gi,0,none⟩)) :
  ∃ v:Nat->Value,I=#[v 0,v 1,v 2,v 3,v 4,.int .i64 bound,v 6,v 7,v 8,v 9,v 10,v 11,v 12,v 13,.pointer (some ⟨gr,0,none⟩),.pointer (some ⟨gp,0,none⟩),v 16,.pointer (some ⟨gm,0,none⟩),v 18,v 19,v 20,v 21,v 22,v 23,v 24,v 25,v 26,v 27,v 28,v 29,v 30,v 31,v 32,v 33,v 34,v 35,v 36,v 37,v 38,v 39,v 40,v 41,v 42,v 43,v 44,v 45,v 46,v 47,v 48,v 49,v 50,v 51,v 52,v 53,v 54,v 55,v 56,v 57,v 58,v 59,v 60,v 61,v 62,v 63,v 64,v 65,v 66,v 67,v 68,v 69,v 70,v 71,v 72,v 73,v 74,v 75,.pointer (some ⟨gi,0,none⟩),v 77,v 78,v 79,v 80,v 81,v 82,v 83,v 84,v 85,v 86,v 87,v 88,v 89,v 90,v 91,v 92,v 93,v 94,v 95,v 96,v 97,v 98]:=by
 have e:I=#[I.getD 0 undef,I.getD 1 undef,I.getD 2 undef,I.getD 3 undef,I.getD 4 undef,I.getD 5 undef,I.getD 6 undef,I.getD 7 undef,I.getD 8 undef,I.getD 9 undef,I.getD 10 undef,I.getD 11 undef,I.getD 12 undef,I.getD 13 undef,I.getD 14 undef,I.getD 15 undef,I.getD 16 undef,I.getD 17 undef,I.getD 18 undef,I.getD 19 undef,I.getD 20 undef,I.getD 21 undef,I.getD 22 undef,I.getD 23 undef,I.getD 24 undef,I.getD 25 undef,I.getD 26 undef,I.getD 27 undef,I.getD 28 undef,I.getD 29 undef,I.getD 30 undef,I.getD 31 undef,I.getD 32 undef,I.getD 33 undef,I.getD 34 undef,I.getD 35 undef,I.getD 36 undef,I.getD 37 undef,I.getD 38 undef,I.getD 39 undef,I.getD 40 undef,I.getD 41 undef,I.getD 42 undef,I.getD 43 undef,I.getD 44 undef,I.getD 45 undef,I.getD 46 undef,I.getD 47 undef,I.getD 48 undef,I.getD 49 undef,I.getD 50 undef,I.getD 51 undef,I.getD 52 undef,I.getD 53 undef,I.getD 54 undef,I.getD 55 undef,I.getD 56 undef,I.getD 57 undef,I.getD 58 undef,I.getD 59 undef,I.getD 60 undef,I.getD 61 undef,I.getD 62 undef,I.getD 63 undef,I.getD 64 undef,I.getD 65 undef,I.getD 66 undef,I.getD 67 undef,I.getD 68 undef,I.getD 69 undef,I.getD 70 undef,I.getD 71 undef,I.getD 72 undef,I.getD 73 undef,I.getD 74 undef,I.getD 75 undef,I.getD 76 undef,I.getD 77 undef,I.getD 78 undef,I.getD 79 undef,I.getD 80 undef,I.getD 81 undef,I.getD 82 undef,I.getD 83 undef,I.getD 84 undef,I.getD 85 undef,I.getD 86 undef,I.getD 87 undef,I.getD 88 undef,I.getD 89 undef,I.getD 90 undef,I.getD 91 undef,I.getD 92 undef,I.getD 93 undef,I.getD 94 undef,I.getD 95 undef,I.getD 96 undef,I.getD 97 undef,I.getD 98 undef]:=(VI I 99 h).trans rfl;rw[h5,J,ab,M,aa] at e;exact⟨fun i=>I.getD i undef,e⟩
theorem P2        {gr:Nat} {J:Array Value} {df:List Deferred} (Ds:List Nat) {left:List MapEntry} {Dn:List (St × Int)} (h:J.size=99) (h5:J.getD 5 undef=.int .i64 bound) (aa:J.getD 14 undef=.pointer (some ⟨gr,0,none⟩)) (M:J.getD 15 undef=.pointer (some ⟨gp,0,none⟩)) (ab:J.getD 17 undef=.pointer (some ⟨gm,0,none⟩)) (ac:J.getD 76 undef=.pointer (some ⟨gi,0,none⟩)) (hd:df=Ds.map KY)
  (hR:aI F w1 (Aw W pa es I bm gm gp gr gi left Ds) wr) (hp:(Dn++left.map wh).Perm (k7 C)) (hm:∀ e ∈ left,e ∈ es.toList) (hq:∀ q ∈ Dn,tV W C q):P1 F w1 W pa C bound es I bm gm gp gr gi { tmps:=J,defers:=df } wr:=by
 obtain⟨v,hv⟩:=Zj J h h5 aa M ab ac;subst hd;exact⟨v,Ds,left,Dn,⟨hR,hp,hm,hq⟩,by rw[hv]⟩
theorem Pz     {left:List MapEntry}  (h:aI F w1 (aj (jZ gi bm es clock left) X) wr):Iq es gi wr=left.length:=by
 obtain⟨f,hf⟩:=h.fst;obtain⟨seen,h1,h2⟩:=hf.1;unfold Iq;rw[h1,h2]
variable {W:World}{g:Nat}{xs:List Value}
theorem Ih    {size:Nat}  (h:Src w A n size xs) (hm:Mod F0 w W) (hn:∀ I:Addr,A=some I->0<n->¬ F0 I.block):Src W A n size xs:=by
 refine⟨h.1,h.2.1,fun M=>?_⟩;obtain⟨I,e,hc⟩:=h.2.2 M;refine⟨I,e,fun j u hu=>?_⟩;have J:=hc j u hu;rw[hm.cell (py _ _ J) (by rw[Addr.add_block];exact hn I e M)];exact J
theorem W0   {size:Nat}  (h:Src w A n size xs) (hs:0<size):∀ I:Addr,A=some I->0<n->I.block<w.heap.size:=by
 intro I e J;obtain⟨aa,e',M⟩:=h.2.2 J;rw[e] at e';injection e' with e'
 subst e';have hl:0<xs.length:=by rw[h.1];exact Nat.mul_pos J hs
 have h1:=py _ _ (M 0 xs[0] (gR hl))
 rwa [Addr.add_block] at h1
theorem tT {P:Program} (w:World) (g:Nat) (ty:TypeId) (b:Bool) (hg:w.cell? ⟨g,0,none⟩=some (.bool b)) (hu:P.underlying ty=some .bool) :
  (loadVar ty ⟨g,0,none⟩).run P w=.ok (.bool b) w:=by
 unfold loadVar;simp[isAgg,run_underlying hu,j9,hg]
theorem uS {tmps:Array Value}   {b:Bool} (h:tmps.getD 14 undef=.pointer (some ⟨g,0,none⟩)) (I:w.cell? ⟨g,0,none⟩=some (.bool b)):(results Tryz.f51 tmps).run Tryz.prog w=.ok (.bool b) w:=by
 have J:tmps[14]?.getD undef=.pointer (some ⟨g,0,none⟩):=by simpa using h
 have r:=tT (P:=Tryz.prog) w g 4 b I Tryz.underlying4;simp only[results,Tryz.results17];simp[j9,Result.andThen,J,asAddr,r]
theorem Pw   (hb:Below w.heap.size w w1) (hm:Mod F w1 W) (hF:∀ i,i<w.heap.size->¬ F i):Below w.heap.size w W:=
 ⟨hm.os.trans hb.os,hm.tape.trans hb.tape,hm.output.trans hb.output,kh hb.size hm.size,fun k hk=>(hm.block k (Hv hk hb.size) (hF k hk)).trans (hb.block k hk)⟩
def UU (W:Wd) (pa:PA) (bm gm gp gr:Nat) (L:List (St × Int)):CH.aT:=aj (jw bm L) (aj (av gm #[.map (some bm)] 189) (aj (av gp (dN W pa) 186) (av gr (gj false) 4)))
theorem Ng {W:Wd}  {gr:Nat} {L:List (St × Int)}:(UU W pa bm gm gp gr L).Ok:=aB iW (aB aC (aB aC aC))
instance {W:Wd} {pa:PA} {bm gm gp gr:Nat} {L:List (St × Int)}:(UU W pa bm gm gp gr L).Ok:=Ng
theorem Px  {W':World} {W:Wd}  {gr:Nat} {L:List (St × Int)} {A:CH.aT} (hb:Below w.heap.size w w1) (hF:∀ i,i<w.heap.size->¬ F i) (hA:A.Ok) (h:aI F w1 (aj A (UU W pa bm gm gp gr L)) W') :
  W'.cell? ⟨gr,0,none⟩=some (.bool false)/\W'.frozen? ⟨gr,0,none⟩=false/\∀ v:Bool,(W'.setCell ⟨gr,0,none⟩ (.bool v)).cell? ⟨gr,0,none⟩=some (.bool v)/\Below w.heap.size w (W'.setCell ⟨gr,0,none⟩ (.bool v)):=by
 have h2:=h.perm (by unfold UU;ac_rfl:_=aj (av gr (gj false) 4) (aj A (aj (jw bm L) (aj (av gm #[.map (some bm)] 189) (av gp (dN W pa) 186)))));have J:(aj A (aj (jw bm L) (aj (av gm #[.map (some bm)] 189) (av gp (dN W pa) 186)))).Ok:=aB hA aO;obtain⟨f,hf⟩:=h2.fst;refine⟨ay hf rfl,aM hf 0,fun v=>?_⟩;have M:=aJ h2 J 0 (.bool v);obtain⟨f3,I⟩:=M.fst;exact⟨ay (i:=0) I rfl,Pw hb M.mod hF⟩
theorem UW {W:Wd}      (h:jw bm (k7 (C.take n)) w F) (hn:n<C.length) (J:CP W bound C (n+1)) :
  ∃ w',(Instr.mapUpdate 189 (.map (some bm)) (.agg (fx C[n].i C[n].j (bs C[n].a) C[n].r)) (.int .i64 C[n].h)).run Tryz.prog w=.ok () w'/\bT w F (jw bm (k7 (C.take (n+1)))) w':=by
 obtain⟨w',M,I⟩:=qR xI Tryz.underlying189 h C[n].st (.int .i64 C[n].h);have hp:proper W bound C[n]=true:=J.1 _ (by rw[kq hn];exact yW _ (List.mem_singleton.2 rfl));have h0:=wm hp;have e:sF C[n].st=.agg (fx C[n].i C[n].j (bs C[n].a) C[n].r):=by
  unfold sF cK Pt.st;simp only[Hp h0.1,Hp h0.2]
 rw[e] at M;refine⟨w',M,?_⟩;have e2:mh ((k7 (C.take n)).map fun p=>(p.1,Value.int .i64 p.2)) C[n].st (.int .i64 C[n].h)=(k7 (C.take (n+1))).map fun p=>(p.1,Value.int .i64 p.2):=by
  rw[qU (by rw[qq];exact Zi hn J),UQ hn,km];rfl
 rw[e2] at I;exact I
theorem RI   {a:TA} (hT:kr w T a) (hz:LZ w) (k:Int) (x:Bs) (k2:Int) (y:Bs) (bound:Int) (hx:x.length<=1000000) (hy:y.length<=1000000)
  {B:eV}   (hC:zH w B C) (hl:C.length<=1000000) (hs:∀ p ∈ C,p.a.length<=1000000) :
  Calls Tryz.prog 51 #[dV T a,.int .i64 k,.string (bs x),.int .i64 k2,.string (bs y),.int .i64 bound,.slice B C.length c] w (UM w T k x k2 y bound C):=by
 have HT:=au hT;have HZ:=au hz;have HC:=au hC;have HL:=au hl;have dx:=au hs;have h1:aI eR w (aj (av w.heap.size (dR T a) 25) bG) _:=aH (aI.begin w) aN (dR T a) 25;have h2:=aH h1 aO (gj false) 4;simp only[im] at h2;have a8:=au (h2.mod.below (fun _ _ h=>h));have KO:=au (UH (hT.below a8.o) (hz.below a8.o) k x k2 y hx hy);have H2:=au h2;obtain⟨N,hN⟩:∃ N,N=C.length:=⟨_,rfl⟩;rw[<-hN];have HN:=au hN;clear hT hz hC hl hs h1 h2 hN;unfold dV at KO ⊢;unfold dR at KO H2 a8 ⊢;unfold Pk at KO;refine(callsIn_wide (n:=8)).1 ?_;refine callsIn_of_wp_marks Tryz.func51 rfl trivial ?_ rfl;simp only[Tryz.ntmps51,pT,j7,lA,Nat.reduceAdd,Nat.reduceSub,qu,qS,re,qT,l4,pd];refine(wpIn_wide (n:=8)).2 ?_;go_wp2_with fail;refine KO.o.mono ?_;rintro e9 w1 ⟨pa,rfl,hb,hP,hS,hA0,hL1,hL2⟩;simp only[im] at hL1 hL2;have H3:=au (H2.o.below aO hb);have cn:=au (a8.o.trans (hb.mono a8.o.size));have HP:=au hP;have HS:=au hS;have dw:=au hA0;have dc:=au hL1;have cg:=au hL2;clear KO H2 a8 hb hP hS hA0 hL1 hL2;unfold eD;dsimp only;obtain⟨W,hW⟩:∃ W,W=Pj T k x k2 y:=⟨_,rfl⟩;rw[<-hW] at HP HS ⊢;have HW:=au hW;clear hW;cases a7:okW T k x k2 y with
 | false=>
  have HF:=au (show false=true↔jl T k x k2 y bound C from⟨fun h=>(by cases h),fun h=>(by rw[h.1] at a7;cases a7)⟩);have H4:=au (aH H3.o aO (dN W pa) 186);obtain⟨FR,aA⟩:=H4.o.drop.fst;have r0:=ay (i:=0) aA rfl;have rf:=aM aA 0;have H5:=au (aJ H4.o.kN aO 0 (.bool false));obtain⟨d6,b8⟩:=H5.o.fst;have r5:=ay (i:=0) b8 rfl;have cV:=au (H5.o.mod.below (fun _ _ h=>h));clear a7 aA b8 H3 H4 H5;unfold dN;unfold dN at r0 rf r5 cV;go_wp2;refine⟨_,uS rfl r5,?_⟩;exact⟨false,rfl,HF.o,cV.o⟩
 | true=>
  have cP:=au a7;have bo:=au (show W=bO T k x k2 y from HW.o.trans (Na a7));clear a7;obtain⟨F,hF⟩:=H3.o.fst;have dT:w.heap.size+1<w1.heap.size:=by rw[<-(hF.2 _).1 ((hF.2 _).2 rfl)];exact aC.lt hF _ ((hF.2 _).2 rfl)
  have co:=au (show ∀ i,i<w.heap.size->¬ F i from fun i hi hf=>by have:=(hF.2 i).1 hf;omega);have hE:∀ W',Mod F w1 W'->xG W pa W':=fun W' hm=>by
   have hp:=HP.o;refine⟨Ih hp.rs hm (fun ad e h0 hf=>?_),Ih hp.l hm (fun ad e h0 hf=>?_),Ih hp.m hm (fun ad e h0 hf=>?_)⟩
   ·have h3:W.rs=T.rs:=by rw[HW.o];rfl
    have h1:=W0 HT.o.rs eL ad (dw.o.symm.trans e) (by rw[<-h3];exact h0);have h2:=(hF.2 _).1 hf;omega
   ·have h1:=dc.o ad e;have h2:=(hF.2 _).1 hf;omega
   ·have h1:=cg.o ad e;have h2:=(hF.2 _).1 hf;omega
  have HE:=au hE;have h4:=aH (aI.start hF).one aO (dN W pa) 186;have h5:=h4.fresh aO (rR (kv:=sF) _);have h6:=aH h5 aO #[.map (some (w1.heap.size+1))] 189;simp only[im] at h5 h6;have H6:=au (show aI F w1 (UU W pa (w1.heap.size+1) (w1.heap.size+1+1) w1.heap.size (w.heap.size+1) (k7 (C.take 0))) _ from(h6.perm (by unfold UU;rw[fC];unfold jw;ac_rfl)));have c6:∀ w:World,(Instr.makeMap 189 none).run Tryz.prog w=.ok (.map (some w.heap.size)) (w.alloc (.map #[] 0)):=fun w=>by kernel_rfl
  clear hE h4 h5 h6 H3 hF;unfold dN at H6 ⊢;go_wp2_with fail;generalize ((w1.alloc (.cells (uC pa.A W.rs.length pa.c W.ka W.kb pa.L W.l.length pa.lc pa.M W.m.length pa.mc W.l.length W.m.length (bs []) false) 186)).alloc (.map #[] 0)).alloc (.cells #[.map (some (w1.heap.size+1))] 189)=w2 at *
  generalize w1.heap.size+1=bm at *
  generalize bm+1=gm at *
  generalize w.heap.size+1=gr at *
  generalize w1.heap.size=gp at *
  clear c6;have ak:=au (fun W' O (h:aI F w1 O W')=>Pw cn.o h.mod co.o);go_loopw [38] (fun i wr=>∃ n:Nat,n<=N/\i=.int .i64 n/\CP W bound C n/\aI F w1 (UU W pa bm gm gp gr (k7 (C.take n))) wr) (fun i _=>N-(intOf i).toNat)
  case atStart=>exact⟨0,fw _,rfl,RG,H6.o⟩
  case round=>
   clear H6;obtain⟨n,hn,rfl,bi,hR⟩:=hrel;have ce:=au bi;have HR:=au hR;clear bi hR;by_cases cY:n<N
   ·have aw:n<C.length:=by rw[<-HN.o];exact cY
    have b0:=au cY;have d1:(n:Int)<1000000:=by have:=HL.o;omega
    obtain⟨b,o,rfl,hc⟩:=zH.at HC.o eL;have di:=au (fun W' (hb:Below w.heap.size w W')=>hc W' hb);obtain⟨r0,r1,r2,r3,r4⟩:=hc wr (ak.o _ _ HR.o) n aw;have H7:=au (aH HR.o Ng (sA C[n].i C[n].j (bs C[n].a) C[n].r C[n].h) 110);clear hc;go_wp2_with fail;generalize dj:wr.alloc (.cells (sA C[n].i C[n].j (bs C[n].a) C[n].r C[n].h) 110)=w3 at *
    generalize wr.heap.size=gx at *
    clear dj r0 r1 r2 r3 r4;have cR:∀ W',aI F w1 (aj (av gx (sA C[n].i C[n].j (bs C[n].a) C[n].r C[n].h) 110) (UU W pa bm gm gp gr (k7 (C.take n)))) W'->(fun w':World=>w'.cell? ⟨gp,0,none⟩=some (.slice pa.A W.rs.length pa.c)/\w'.cell? ⟨gp,1,none⟩=some (.int .i64 W.ka)/\w'.cell? ⟨gp,2,none⟩=some (.int .i64 W.kb)/\w'.cell? ⟨gp,3,none⟩=some (.slice pa.L W.l.length pa.lc)/\w'.cell? ⟨gp,4,none⟩=some (.slice pa.M W.m.length pa.mc)/\w'.cell? ⟨gp,5,none⟩=some (.int .i64 W.l.length)/\w'.cell? ⟨gp,6,none⟩=some (.int .i64 W.m.length)/\w'.cell? ⟨gp,7,none⟩=some (.string (bs []))/\w'.cell? ⟨gp,8,none⟩=some (.bool false)/\(o6 w' gx (.int .i64 C[n].i) (.int .i64 C[n].j) (.string (bs C[n].a)) (.bool C[n].r) (.int .i64 C[n].h))) W':=fun W' h=>by
     obtain⟨f1,aa⟩:=h.fst;obtain⟨f2,ae⟩:=(h.drop.drop.drop).fst;exact⟨ay ae rfl,ay ae rfl,ay ae rfl,ay ae rfl,ay ae rfl,ay ae rfl,ay ae rfl,ay ae rfl,ay ae rfl,ay aa rfl,ay aa rfl,ay aa rfl,ay aa rfl,ay aa rfl⟩
    have ai:=au cR;have ao:=au (aB (aC (g:=gx) (cs:=(sA C[n].i C[n].j (bs C[n].a) C[n].r C[n].h)) (t:=110)) (Ng (W:=W) (pa:=pa) (bm:=bm) (gm:=gm) (gp:=gp) (gr:=gr) (L:=k7 (C.take n))));have H8:=au (H7.o.drew ao.o);have KP:=au (fun W'=>Nf (W:=W) (pa:=pa) (bound:=bound) (p:=C[n]) W' (dx.o _ (gv aw)) HS.o.l HS.o.m);unfold eD dN xT at KP;have bw:=au (fun h=>UN (W:=W) (bound:=bound) aw h);clear cR H7;cases bc:proper W bound C[n] with
    | false=>
     have HF:=au (show(false=true)↔jl T k x k2 y bound C from⟨fun h=>(by cases h),fun h=>(bw.o bc (by rw[bo.o];exact h.2)).elim⟩);simp only[bc] at KP;have af:=ai.o _ H8.o;refine aR (fun w':World=>w'.cell? ⟨gp,0,none⟩=some (.slice pa.A W.rs.length pa.c)/\w'.cell? ⟨gp,1,none⟩=some (.int .i64 W.ka)/\w'.cell? ⟨gp,2,none⟩=some (.int .i64 W.kb)/\w'.cell? ⟨gp,3,none⟩=some (.slice pa.L W.l.length pa.lc)/\w'.cell? ⟨gp,4,none⟩=some (.slice pa.M W.m.length pa.mc)/\w'.cell? ⟨gp,5,none⟩=some (.int .i64 W.l.length)/\w'.cell? ⟨gp,6,none⟩=some (.int .i64 W.m.length)/\w'.cell? ⟨gp,7,none⟩=some (.string (bs []))/\w'.cell? ⟨gp,8,none⟩=some (.bool false)/\(o6 w' gx (.int .i64 C[n].i) (.int .i64 C[n].j) (.string (bs C[n].a)) (.bool C[n].r) (.int .i64 C[n].h))) rfl eQ af ?_;clear af;generalize w3.drew=w4 at *
     (repeat(first|refine bM ?_|refine bN ?_))
     refine dD rfl fY (fun K hK=>?_);go_wp2_with fail;refine(KP.o _).mono ?_;rintro e9 w5 ⟨rfl,hb⟩;have H9:=au (H8.o.below ao.o hb);clear KP H8 hb;dsimp only;refine hK.o _ _ (ai.o _ H9.o) ?_;clear hK
     (repeat(first|refine bM ?_|refine bN ?_))
     refine lex_nil ?_;obtain⟨q0,q1,q2⟩:=Px cn.o co.o aC H9.o;have Q2:=au (q2 false);have q3:=Q2.o.1;clear q2;go_wp2;refine⟨_,uS rfl q3,?_⟩;exact⟨false,rfl,HF.o,Q2.o.2⟩
    | true=>
     have bu:=au (fun h0 h=>UO (W:=W) (bound:=bound) aw h0 h);have bj:=au (fun h=>RH aw ce.o bc h);simp only[bc] at KP;by_cases ck:n=0
     ·have t0:decide ((0:Int)<(n:Int))=false:=decide_eq_false eL;have dd:decide (0<n)=false:=decide_eq_false eL;have ap:=au (bj.o (fun h=>absurd ck eL));clear ck bu bj bw bc;have af:=ai.o _ H8.o;refine aR (fun w':World=>w'.cell? ⟨gp,0,none⟩=some (.slice pa.A W.rs.length pa.c)/\w'.cell? ⟨gp,1,none⟩=some (.int .i64 W.ka)/\w'.cell? ⟨gp,2,none⟩=some (.int .i64 W.kb)/\w'.cell? ⟨gp,3,none⟩=some (.slice pa.L W.l.length pa.lc)/\w'.cell? ⟨gp,4,none⟩=some (.slice pa.M W.m.length pa.mc)/\w'.cell? ⟨gp,5,none⟩=some (.int .i64 W.l.length)/\w'.cell? ⟨gp,6,none⟩=some (.int .i64 W.m.length)/\w'.cell? ⟨gp,7,none⟩=some (.string (bs []))/\w'.cell? ⟨gp,8,none⟩=some (.bool false)/\(o6 w' gx (.int .i64 C[n].i) (.int .i64 C[n].j) (.string (bs C[n].a)) (.bool C[n].r) (.int .i64 C[n].h))) rfl eQ af ?_;clear af;generalize w3.drew=w4 at *
      (repeat(first|refine bM ?_|refine bN ?_))
      refine dD rfl fY (fun K hK=>?_);go_wp2_with fail;refine(KP.o _).mono ?_;rintro e9 w5 ⟨rfl,hb⟩;have H9:=au (H8.o.below ao.o hb);clear KP H8 hb;dsimp only;refine hK.o _ _ (ai.o _ H9.o) ?_;clear hK
      (repeat(first|refine bM ?_|refine bN ?_))
      refine lex_nil ?_;obtain⟨f1,aa⟩:=H9.o.fst;have x0:=ay (i:=0) aa rfl;have x1:=ay (i:=1) aa rfl;have x2:=ay (i:=2) aa rfl;have x3:=ay (i:=3) aa rfl;have x4:=ay (i:=4) aa rfl;obtain⟨f2,ae⟩:=(H9.o.drop.drop).fst;have m0:=ay (i:=0) ae rfl;have bp:(aj (av gm #[.map (some bm)] 189) (aj (av gp (dN W pa) 186) (av gr (gj false) 4))).Ok:=aB aC aO;obtain⟨f3,ax,-,bk⟩:=(H9.o.drop:aI F w1 (aj (jw bm (k7 (C.take n))) (aj (av gm #[.map (some bm)] 189) (aj (av gp (dN W pa) 186) (av gr (gj false) 4)))) w5).take iW bp;obtain⟨w8,du,al⟩:=UW ax aw ap.o;have cm:=au (show aI F w1 (UU W pa bm gm gp gr (k7 (C.take (n+1)))) w8 from bk _ _ al);clear aa ae ax bk al bp H9;go_wp2
      go_roundw
      case rel=>exact⟨n+1,b0.o,by go_num,ap.o,cm.o⟩
      case measure=>have:=b0.o;simp[intOf];omega
     ·obtain⟨m,rfl⟩:∃ m,n=m+1:=⟨n-1,by omega⟩;have dk:m<C.length:=by omega
      have t0:decide ((0:Int)<((m+1:Nat):Int))=true:=decide_eq_true eL;have dd:decide (0<m+1)=true:=decide_eq_true eL;have t1:IntKind.i64.wrap (((m+1:Nat):Int)-1)=(m:Int):=by rw[kp _ eL];omega
      have d4:IntKind.i64.wrap (m:Int)=(m:Int):=kp _ eL;have dE:(m:Int)<(N:Int):=by omega
      have KM:=au (fun W'=>Au C[m] C[m+1] W');unfold xT at KM;have d5:m<N:=by omega
      have ar:=au (fun W' (h:(fun w':World=>w'.cell? ⟨gp,0,none⟩=some (.slice pa.A W.rs.length pa.c)/\w'.cell? ⟨gp,1,none⟩=some (.int .i64 W.ka)/\w'.cell? ⟨gp,2,none⟩=some (.int .i64 W.kb)/\w'.cell? ⟨gp,3,none⟩=some (.slice pa.L W.l.length pa.lc)/\w'.cell? ⟨gp,4,none⟩=some (.slice pa.M W.m.length pa.mc)/\w'.cell? ⟨gp,5,none⟩=some (.int .i64 W.l.length)/\w'.cell? ⟨gp,6,none⟩=some (.int .i64 W.m.length)/\w'.cell? ⟨gp,7,none⟩=some (.string (bs []))/\w'.cell? ⟨gp,8,none⟩=some (.bool false)/\(o6 w' gx (.int .i64 C[m+1].i) (.int .i64 C[m+1].j) (.string (bs C[m+1].a)) (.bool C[m+1].r) (.int .i64 C[m+1].h))) W') (hb:Below w.heap.size w W')=>(show(fun w':World=>w'.cell? ⟨gp,0,none⟩=some (.slice pa.A W.rs.length pa.c)/\w'.cell? ⟨gp,1,none⟩=some (.int .i64 W.ka)/\w'.cell? ⟨gp,2,none⟩=some (.int .i64 W.kb)/\w'.cell? ⟨gp,3,none⟩=some (.slice pa.L W.l.length pa.lc)/\w'.cell? ⟨gp,4,none⟩=some (.slice pa.M W.m.length pa.mc)/\w'.cell? ⟨gp,5,none⟩=some (.int .i64 W.l.length)/\w'.cell? ⟨gp,6,none⟩=some (.int .i64 W.m.length)/\w'.cell? ⟨gp,7,none⟩=some (.string (bs []))/\w'.cell? ⟨gp,8,none⟩=some (.bool false)/\w'.cell? ⟨gx,0,none⟩=some (.int .i64 C[m+1].i)/\w'.cell? ⟨gx,1,none⟩=some (.int .i64 C[m+1].j)/\w'.cell? ⟨gx,2,none⟩=some (.string (bs C[m+1].a))/\w'.cell? ⟨gx,3,none⟩=some (.bool C[m+1].r)/\w'.cell? ⟨gx,4,none⟩=some (.int .i64 C[m+1].h)/\w'.cell? ⟨b,o+m*5,none⟩=some (.int .i64 C[m].i)/\w'.cell? ⟨b,o+m*5+1,none⟩=some (.int .i64 C[m].j)/\w'.cell? ⟨b,o+m*5+2,none⟩=some (.string (bs C[m].a))/\w'.cell? ⟨b,o+m*5+3,none⟩=some (.bool C[m].r)/\w'.cell? ⟨b,o+m*5+4,none⟩=some (.int .i64 C[m].h)) W' from by
       obtain⟨a0,a1,a2,a3,a4⟩:=di.o W' hb m dk;obtain⟨h0,h1,h2,h3,h4,h5,h6,h7,h8,h9,dp,ds,dr,dl⟩:=h
       exact⟨h0,h1,h2,h3,h4,h5,h6,h7,h8,h9,dp,ds,dr,dl,a0,a1,a2,a3,a4⟩))
      clear ck;have af:=ar.o _ (ai.o _ H8.o) (ak.o _ _ H8.o);obtain⟨cc,cy⟩:∃ cc,cc=EB C[m] C[m+1]:=⟨_,rfl⟩;have bf:=au (U1 C[m] C[m+1]);rw[<-cy] at KM bf;clear cy;by_cases c0:cc<0
      ·have t3:decide ((0:Int)<=cc)=false:=decide_eq_false eL;have c5:¬ (0:Int)<=cc:=by omega
       have ap:=au (bj.o (fun _=>bf.o.1 c0));clear bw bu bj bf;refine aR (fun w':World=>w'.cell? ⟨gp,0,none⟩=some (.slice pa.A W.rs.length pa.c)/\w'.cell? ⟨gp,1,none⟩=some (.int .i64 W.ka)/\w'.cell? ⟨gp,2,none⟩=some (.int .i64 W.kb)/\w'.cell? ⟨gp,3,none⟩=some (.slice pa.L W.l.length pa.lc)/\w'.cell? ⟨gp,4,none⟩=some (.slice pa.M W.m.length pa.mc)/\w'.cell? ⟨gp,5,none⟩=some (.int .i64 W.l.length)/\w'.cell? ⟨gp,6,none⟩=some (.int .i64 W.m.length)/\w'.cell? ⟨gp,7,none⟩=some (.string (bs []))/\w'.cell? ⟨gp,8,none⟩=some (.bool false)/\w'.cell? ⟨gx,0,none⟩=some (.int .i64 C[m+1].i)/\w'.cell? ⟨gx,1,none⟩=some (.int .i64 C[m+1].j)/\w'.cell? ⟨gx,2,none⟩=some (.string (bs C[m+1].a))/\w'.cell? ⟨gx,3,none⟩=some (.bool C[m+1].r)/\w'.cell? ⟨gx,4,none⟩=some (.int .i64 C[m+1].h)/\w'.cell? ⟨b,o+m*5,none⟩=some (.int .i64 C[m].i)/\w'.cell? ⟨b,o+m*5+1,none⟩=some (.int .i64 C[m].j)/\w'.cell? ⟨b,o+m*5+2,none⟩=some (.string (bs C[m].a))/\w'.cell? ⟨b,o+m*5+3,none⟩=some (.bool C[m].r)/\w'.cell? ⟨b,o+m*5+4,none⟩=some (.int .i64 C[m].h)) rfl eQ af ?_;clear af;generalize w3.drew=w4 at *
       (repeat(first|refine bM ?_|refine bN ?_))
       refine dD rfl fY (fun K hK=>?_);go_wp2_with fail;refine(KP.o _).mono ?_;rintro e9 w5 ⟨rfl,hb⟩;have H9:=au (H8.o.below ao.o hb);clear KP H8 hb;dsimp only;refine hK.o _ _ (ar.o _ (ai.o _ H9.o) (ak.o _ _ H9.o)) ?_;clear hK
       (repeat(first|refine bM ?_|refine bN ?_))
       refine dD rfl fY (fun K hK=>?_);have cp:=ar.o _ (ai.o _ H9.o) (ak.o _ _ H9.o);go_wp2_with fail;refine(KM.o _).mono ?_;rintro e9 w6 ⟨rfl,hb,-⟩;have am:=au (H9.o.below ao.o hb);clear KM H9 hb cp;dsimp only;refine hK.o _ _ (ar.o _ (ai.o _ am.o) (ak.o _ _ am.o)) ?_;clear hK
       (repeat(first|refine bM ?_|refine bN ?_))
       refine lex_nil ?_;obtain⟨f1,aa⟩:=am.o.fst;have x0:=ay (i:=0) aa rfl;have x1:=ay (i:=1) aa rfl;have x2:=ay (i:=2) aa rfl;have x3:=ay (i:=3) aa rfl;have x4:=ay (i:=4) aa rfl;obtain⟨f2,ae⟩:=(am.o.drop.drop).fst;have m0:=ay (i:=0) ae rfl;have bp:(aj (av gm #[.map (some bm)] 189) (aj (av gp (dN W pa) 186) (av gr (gj false) 4))).Ok:=aB aC aO;obtain⟨f3,ax,-,bk⟩:=(am.o.drop:aI F w1 (aj (jw bm (k7 (C.take (m+1)))) (aj (av gm #[.map (some bm)] 189) (aj (av gp (dN W pa) 186) (av gr (gj false) 4)))) w6).take iW bp;obtain⟨w8,du,al⟩:=UW ax aw ap.o;have cm:=au (show aI F w1 (UU W pa bm gm gp gr (k7 (C.take (m+1+1)))) w8 from bk _ _ al);clear aa ae ax bk al bp am;go_wp2
       go_roundw
       case rel=>exact⟨m+1+1,b0.o,by go_num,ap.o,cm.o⟩
       case measure=>have:=b0.o;simp[intOf];omega
      ·have t3:decide ((0:Int)<=cc)=true:=decide_eq_true eL;have c5:(0:Int)<=cc:=by omega
       have HF:=au (show(false=true)↔jl T k x k2 y bound C from⟨fun h=>(by cases h),fun h=>(bu.o eL (fun h2=>c0 (bf.o.2 h2)) (by rw[bo.o];exact h.2)).elim⟩);clear bw bu bj bf;refine aR (fun w':World=>w'.cell? ⟨gp,0,none⟩=some (.slice pa.A W.rs.length pa.c)/\w'.cell? ⟨gp,1,none⟩=some (.int .i64 W.ka)/\w'.cell? ⟨gp,2,none⟩=some (.int .i64 W.kb)/\w'.cell? ⟨gp,3,none⟩=some (.slice pa.L W.l.length pa.lc)/\w'.cell? ⟨gp,4,none⟩=some (.slice pa.M W.m.length pa.mc)/\w'.cell? ⟨gp,5,none⟩=some (.int .i64 W.l.length)/\w'.cell? ⟨gp,6,none⟩=some (.int .i64 W.m.length)/\w'.cell? ⟨gp,7,none⟩=some (.string (bs []))/\w'.cell? ⟨gp,8,none⟩=some (.bool false)/\w'.cell? ⟨gx,0,none⟩=some (.int .i64 C[m+1].i)/\w'.cell? ⟨gx,1,none⟩=some (.int .i64 C[m+1].j)/\w'.cell? ⟨gx,2,none⟩=some (.string (bs C[m+1].a))/\w'.cell? ⟨gx,3,none⟩=some (.bool C[m+1].r)/\w'.cell? ⟨gx,4,none⟩=some (.int .i64 C[m+1].h)/\w'.cell? ⟨b,o+m*5,none⟩=some (.int .i64 C[m].i)/\w'.cell? ⟨b,o+m*5+1,none⟩=some (.int .i64 C[m].j)/\w'.cell? ⟨b,o+m*5+2,none⟩=some (.string (bs C[m].a))/\w'.cell? ⟨b,o+m*5+3,none⟩=some (.bool C[m].r)/\w'.cell? ⟨b,o+m*5+4,none⟩=some (.int .i64 C[m].h)) rfl eQ af ?_;clear af;generalize w3.drew=w4 at *
       (repeat(first|refine bM ?_|refine bN ?_))
       refine dD rfl fY (fun K hK=>?_);go_wp2_with fail;refine(KP.o _).mono ?_;rintro e9 w5 ⟨rfl,hb⟩;have H9:=au (H8.o.below ao.o hb);clear KP H8 hb;dsimp only;refine hK.o _ _ (ar.o _ (ai.o _ H9.o) (ak.o _ _ H9.o)) ?_;clear hK
       (repeat(first|refine bM ?_|refine bN ?_))
       refine dD rfl fY (fun K hK=>?_);have cp:=ar.o _ (ai.o _ H9.o) (ak.o _ _ H9.o);go_wp2_with fail;refine(KM.o _).mono ?_;rintro e9 w6 ⟨rfl,hb,-⟩;have am:=au (H9.o.below ao.o hb);clear KM H9 hb cp;dsimp only;refine hK.o _ _ (ar.o _ (ai.o _ am.o) (ak.o _ _ am.o)) ?_;clear hK
       (repeat(first|refine bM ?_|refine bN ?_))
       refine lex_nil ?_;obtain⟨q0,q1,q2⟩:=Px cn.o co.o aC am.o;have Q2:=au (q2 false);have q3:=Q2.o.1;clear q2;go_wp2;refine⟨_,uS rfl q3,?_⟩;exact⟨false,rfl,HF.o,Q2.o.2⟩
   ·obtain rfl:n=N:=by omega
    have bi:(∀ p ∈ C,proper W bound p=true)/\C.Pairwise Bz:=by
     have h:=ce.o;unfold CP at h;rw[HN.o,ky] at h;exact h
    have aD:=au bi;have br:=HR.o;rw[HN.o,ky] at br;clear ce HR bi;unfold UU at br;obtain⟨es,I,az,bz⟩:=xM br;have aE:=au az;obtain⟨F5,cW⟩:=bz.fst;obtain⟨F6,cU⟩:=bz.drop.fst;have c9:=ay (i:=0) cU rfl;obtain⟨bv,ca⟩:=Go.CH.run_range_map (P:=Tryz.prog) Tryz.underlying189 cW.1;have cD:(aj (aW bm (.map es I)) (aj (av gm #[.map (some bm)] 189) (aj (av gp (dN W pa) 186) (av gr (gj false) 4)))).Ok:=aB bg aO;have R6:=au (bz.fresh cD (JV wr ca));have b3:=au (JW az.1);clear az cW cU ca br bz cD;have R7:=au (show aI F w1 (Aw W pa es I bm gm gp gr wr.heap.size es.toList []) _ from(R6.o.one.perm (by unfold Aw dJ;show _=aj _ (aj _ (aj _ (aj _ (aj _ bG))));ac_rfl)));have dm:=au (show W.good by rw[bo.o];exact(rF (fP.1 cP.o).2.2).1);have cJ:=au (fun q hq=>W8 (W:=W) (bound:=bound) aD.o.1 (q:=q) hq);have dg:=au (fun s=>W7 (W:=W) (bound:=bound) aD.o.1 s);clear R6;go_wp2_with fail;clear bv c9;generalize wr.alloc (.mapIter (some bm) I #[] I)=w3 at *
    generalize wr.heap.size=gi at *
    refine wp_loop (P1 F w1 W pa C bound es I bm gm gp gr gi) (fun _ w9=>Iq es gi w9) ?_ ?_
    ·exact P2 [] (Dn:=[]) rfl rfl rfl rfl rfl rfl rfl R7.o (by rw[l4,b3.o.1]) (fun _ h=>h) (fun q hq=>by cases hq)
    clear R7;rintro a9 w4 ⟨v,Ds,left,Dn,⟨hR,hpm,ag,hdn⟩,rfl⟩;have cq:=au hpm;have cX:=au ag;have cw:=au hdn;have HR:=au hR;have cT:=au (Pz (show aI F w1 (aj (jZ gi bm es I left) _) w4 from hR));obtain⟨FI,cf⟩:=hR.fst;obtain⟨FB,bx⟩:=hR.drop.fst;rcases Go.CH.run_next_map (P:=Tryz.prog) cf.1 bx.1 aE.o.2.2.2 aE.o.2.2.1 0 with⟨cA,a6⟩|⟨i,hi,w6,a6,cb,cE,cz,b4⟩
    ·have hD:Dn.Perm (k7 C):=by have h:=cq.o;rw[cA,pH,mS] at h;exact h
     have a5:=au (fun hb=>RJ (W:=W) (bound:=bound) aD.o hD cw.o hb);have dq:(Instr.lookup 189 (.map (some bm)) (.agg #[.int .i64 0,.int .i64 0,.string { data:=#[] },.bool false]) false).run Tryz.prog w4=.ok (.int .i64 (ju C gC)) w4:=Py bx.1 aE.o gC;obtain⟨FM,cS⟩:=hR.drop.drop.fst;have c9:=ay (i:=0) cS rfl;have h8:=hR.perm (by unfold Aw;ac_rfl:_=aj (av gr (gj false) 4) (aj (dJ Ds) (aj (jZ gi bm es I left) (aj (aW bm (.map es I)) (aj (av gm #[.map (some bm)] 189) (av gp (dN W pa) 186))))));obtain⟨FR,aA⟩:=h8.fst;have q0:=ay (i:=0) aA rfl;have q1:=aM aA 0;have okW:(aj (dJ Ds) (aj (jZ gi bm es I left) (aj (aW bm (.map es I)) (aj (av gm #[.map (some bm)] 189) (av gp (dN W pa) 186))))).Ok:=aB kZ aO;have b9:=au (fun b:Bool=>(aJ h8 okW 0 (.bool b)).perm (by ac_rfl:_=aj (dJ Ds) (aj (av gr (gj b) 4) (aj (jZ gi bm es I left) (aj (aW bm (.map es I)) (aj (av gm #[.map (some bm)] 189) (av gp (dN W pa) 186)))))));have ba:∀ b:Bool,(aj (av gr (gj b) 4) (aj (jZ gi bm es I left) (aj (aW bm (.map es I)) (aj (av gm #[.map (some bm)] 189) (av gp (dN W pa) 186))))).Ok:=fun b=>aB aC aO;have ao:=au ba;obtain⟨hh,ch⟩:∃ h,h=ju C gC:=⟨_,rfl⟩;rw[<-ch] at dq a5;have c4:=au ch;clear hD hpm ag hdn hR cf bx cS h8 aA okW ba cA cT HR ch;by_cases hb:bound<=hh
     ·have HF:=au (show jl T k x k2 y bound C from⟨cP.o,by rw[<-bo.o];exact a5.o hb⟩);clear a5;go_wp2_with fail;refine lg (ao.o true) (fun W' hr=>?_) Ds _ (b9.o true);obtain⟨f,hf⟩:=hr.fst;exact⟨_,uS (g:=gr) rfl (ay (i:=0) hf rfl),true,rfl,⟨fun _=>HF.o,fun _=>rfl⟩,ak.o _ _ hr⟩
     ·have HF:=au (show(false=true)↔jl T k x k2 y bound C from⟨fun h=>(by cases h),fun h=>(hb (by rw[c4.o];exact h.2.2.2.2)).elim⟩);clear a5;go_wp2_with fail;refine lg (ao.o false) (fun W' hr=>?_) Ds _ (b9.o false);obtain⟨f,hf⟩:=hr.fst;exact⟨_,uS (g:=gr) rfl (ay (i:=0) hf rfl),false,rfl,HF.o,ak.o _ _ hr⟩
    ·obtain⟨F7,h7,-,bk⟩:=hR.take xL aO;have h8:=bk (jZ gi bm es I (left.eraseIdx i)) w6 ⟨F7,⟨cb,h7.2⟩,cE.mono (fun j _ hj=>(h7.2 j).2 hj),fun i hi=>.inl hi⟩;have R8:=au (show aI F w1 (Aw W pa es I bm gm gp gr gi (left.eraseIdx i) Ds) w6 from h8);obtain⟨d3,b5⟩:=h8.drop.fst;have be:=b4 w6 rfl b5.1;obtain⟨cd,b7⟩:=b3.o.2 _ (ag _ (gv hi));rw[cd,b7] at a6 be;have b6:=au (FE hi hpm);have c3:=au (fun e (he:e ∈ left.eraseIdx i)=>ag e (NB he));have cg:=au (show(left.eraseIdx i).length<left.length by rw[E7,if_pos hi];omega);have HQ:=au (show wh left[i] ∈ k7 C from hpm.mem_iff.1 (yW _ (List.mem_map.2 ⟨_,gv hi,rfl⟩)));generalize wh left[i]=q at b6 HQ a6 be;obtain⟨g1,g2,g3,g4⟩:=cJ.o _ HQ.o;have cv:=au g1;have dC:=au g2;clear hpm ag hdn hR cf bx h7 bk h8 b5 cd b7 b4 cb cE cz HR cq cX g1 g2 hi;generalize left.eraseIdx i=J at *
     have r9:=aH R8.o U0 (cK q.1) 184;have bn:=aH r9 aO (fL q.2) 3;rw[im] at bn;have cQ:=au bn;have KM:=au (fun w=>Fp (W:=W) (a:=pa) (s:=q.1) w);unfold eD dN sF at KM;obtain⟨FP,an⟩:=(bn.drop.drop.perm (by unfold Aw;ac_rfl:_=aj (av gp (dN W pa) 186) (aj (jZ gi bm es I J) (aj (aW bm (.map es I)) (aj (av gm #[.map (some bm)] 189) (aj (av gr (gj false) 4) (dJ Ds))))))).fst;obtain⟨FS,bh⟩:=bn.drop.fst;have p0:=ay (v:=.slice pa.A W.rs.length pa.c) (i:=0) an rfl;have p1:=ay (v:=.int .i64 W.ka) (i:=1) an rfl;have p2:=ay (v:=.int .i64 W.kb) (i:=2) an rfl;have p3:=ay (v:=.slice pa.L W.l.length pa.lc) (i:=3) an rfl;have p4:=ay (v:=.slice pa.M W.m.length pa.mc) (i:=4) an rfl;have p5:=ay (v:=.int .i64 W.l.length) (i:=5) an rfl;have p6:=ay (v:=.int .i64 W.m.length) (i:=6) an rfl;have p7:=ay (v:=.string (bs [])) (i:=7) an rfl;have p8:=ay (v:=.bool false) (i:=8) an rfl;have s0:=ay (v:=.int .i64 q.1.i) (i:=0) bh rfl;have s1:=ay (v:=.int .i64 q.1.j) (i:=1) bh rfl;have s2:=ay (v:=.string (bs q.1.a)) (i:=2) bh rfl;have s3:=ay (v:=.bool q.1.r) (i:=3) bh rfl;clear R8 r9 bn an bh;unfold sF at a6 be;unfold cK at a6 be p0 p1 p2 p3 p4 p5 p6 p7 p8 s0 s1 s2 s3 KM;go_wp2_with fail;refine(KM.o _).mono ?_;rintro e9 w9 ⟨b1,b2,rfl,hp⟩;have S1:=au (cQ.o.fresh aO hp);clear KM hp cQ p0 p1 p2 p3 p4 p5 p6 p7 p8 s0 s1 s2 s3;dsimp only;go_wp2_with fail;generalize w6.heap.size+1=ab at *
     generalize w6.heap.size=ac at *
     generalize Value.tuple #[Value.bool true,Value.agg (fx q.1.i q.1.j (bs q.1.a) q.1.r),.int .i64 q.2]=z77;generalize Value.tuple #[Value.agg (fx q.1.i q.1.j (bs q.1.a) q.1.r),.int .i64 q.2]=z79;generalize Value.agg (fx q.1.i q.1.j (bs q.1.a) q.1.r)=z80;generalize Value.agg (uC pa.A W.rs.length pa.c W.ka W.kb pa.L W.l.length pa.lc pa.M W.m.length pa.mc W.l.length W.m.length (bs []) false)=z82;clear a6 be;have db:=au (CF (W:=W) (s:=q.1) (pa:=pa) (b1:=b1) (b2:=b2) cv.o HS.o (kh dC.o eL));have bb:(aj (av ac (cK q.1) 184) (aj (av ab (fL q.2) 3) (Aw W pa es I bm gm gp gr gi J Ds))).Ok:=aB aC aO;have ct:=au bb;have de:∀ i,(sM (wu W C q i) (aj (av ac (cK q.1) 184) (aj (av ab (fL q.2) 3) (Aw W pa es I bm gm gp gr gi J Ds)))).Ok:=fun i=>gG bb;have cx:∀ (i:Nat) (a':Act),(lQ fun g:Nat=>lQ fun x:Int × St=>sM ((W.moves q.1)[i]?=some x/\wu W C q i/\a'={ tmps:=#[v 0,v 1,v 2,v 3,v 4,.int .i64 bound,v 6,v 7,v 8,v 9,v 10,v 11,v 12,v 13,.pointer (some ⟨gr,0,none⟩),.pointer (some ⟨gp,0,none⟩),v 16,.pointer (some ⟨gm,0,none⟩),v 18,v 19,.pointer (some ⟨ac,0,none⟩),.pointer (some ⟨ab,0,none⟩),.int .i64 x.1,.pointer (some ⟨g,0,none⟩),v 24,v 25,v 26,v 27,v 28,v 29,v 30,v 31,v 32,v 33,v 34,v 35,v 36,v 37,v 38,v 39,v 40,v 41,v 42,v 43,v 44,v 45,v 46,v 47,v 48,v 49,v 50,v 51,v 52,v 53,v 54,v 55,v 56,v 57,v 58,v 59,v 60,v 61,v 62,v 63,v 64,v 65,v 66,v 67,v 68,v 69,v 70,v 71,v 72,v 73,v 74,v 75,.pointer (some ⟨gi,0,none⟩),z77,.bool true,z79,z80,.int .i64 q.2,z82,z80,De b1 b2,.int .i64 x.1,.agg (cK x.2),v 87,v 88,v 89,v 90,v 91,v 92,v 93,v 94,v 95,v 96,v 97,v 98],defers:=[] }) (aj (av g (cK x.2) 184) (aj (av ac (cK q.1) 184) (aj (av ab (fL q.2) 3) (Aw W pa es I bm gm gp gr gi J Ds))))).Ok:=fun i a'=>bX fun g=>bX fun x=>gG (aB aC bb);have ba:∀ c:Code,(sM (c=.ret/\¬ tV W C q) (aj (av ac (cK q.1) 184) (aj (av ab (fL q.2) 3) (Aw W pa es I bm gm gp gr gi J Ds)))).Ok:=fun c=>gG bb;have c7:aI F w1 (aj (Zm W pa q.1 b1 b2) (sM (wu W C q 0) (aj (av ac (cK q.1) 184) (aj (av ab (fL q.2) 3) (Aw W pa es I bm gm gp gr gi J Ds))))) w9:=(aI.iQ JX (S1.o.perm (by ac_rfl:_=aj (aj (av ac (cK q.1) 184) (aj (av ab (fL q.2) 3) (Aw W pa es I bm gm gp gr gi J Ds))) (Zm W pa q.1 b1 b2)))).swap;clear bb S1;refine Dx (gf:=101) (lb:=(sS (some ⟨b1,0,none⟩) (some ⟨b2,0,none⟩))) rfl (enters_of Tryz.func101 eQ rfl) db.o (fun _=>gJ) (fun _=>rfl) HE.o _ (fun c=>sM (c=.ret/\¬ tV W C q) (aj (av ac (cK q.1) 184) (aj (av ab (fL q.2) 3) (Aw W pa es I bm gm gp gr gi J Ds)))) de _ cx ba c7 ?_ ?_ ?_ ?_
     ·intro lo m i hi R W1 K hR hI hK;obtain⟨aq,h1⟩:=hI.pure;have h3:=aH h1 (aB ct.o hR) (cK (W.moves q.1)[i].2) 184;have HF:=au (hK { tmps:=#[v 0,v 1,v 2,v 3,v 4,.int .i64 bound,v 6,v 7,v 8,v 9,v 10,v 11,v 12,v 13,.pointer (some ⟨gr,0,none⟩),.pointer (some ⟨gp,0,none⟩),v 16,.pointer (some ⟨gm,0,none⟩),v 18,v 19,.pointer (some ⟨ac,0,none⟩),.pointer (some ⟨ab,0,none⟩),.int .i64 (W.moves q.1)[i].1,.pointer (some ⟨W1.heap.size,0,none⟩),v 24,v 25,v 26,v 27,v 28,v 29,v 30,v 31,v 32,v 33,v 34,v 35,v 36,v 37,v 38,v 39,v 40,v 41,v 42,v 43,v 44,v 45,v 46,v 47,v 48,v 49,v 50,v 51,v 52,v 53,v 54,v 55,v 56,v 57,v 58,v 59,v 60,v 61,v 62,v 63,v 64,v 65,v 66,v 67,v 68,v 69,v 70,v 71,v 72,v 73,v 74,v 75,.pointer (some ⟨gi,0,none⟩),z77,.bool true,z79,z80,.int .i64 q.2,z82,z80,De b1 b2,.int .i64 (W.moves q.1)[i].1,.agg (cK (W.moves q.1)[i].2),v 87,v 88,v 89,v 90,v 91,v 92,v 93,v 94,v 95,v 96,v 97,v 98],defers:=[] } _ (aI.nT W1.heap.size (aI.nT (W.moves q.1)[i] (aI.iQ ⟨gR hi,aq,rfl⟩ (h3.perm (by ac_rfl))))));clear hI h1 h3 hK aq;unfold CB;generalize (W.moves q.1)[i]=x at *
      obtain⟨xc,⟨xi,xj,xa,xr⟩⟩:=x;unfold cK;unfold cK at HF;gi_wp2;exact HF.o
     ·intro lo m i hi a' R W1 hR hI;obtain⟨g,h1⟩:=hI.ex;obtain⟨x,h1⟩:=h1.ex;obtain⟨⟨hx,aq,rfl⟩,h2⟩:=h1.pure;have ag:x ∈ W.moves q.1:=pS hx;have cN:=au (fun h=>JY hx aq h);have cH:=au (fun h=>UY (W:=W) (C:=C) (q:=q) (x:=x) ag h);have df:=iD dm.o (c:=x.1) (s':=x.2) ag;obtain⟨c1,c8⟩:=dg.o x.2;have H2:=au (h2.perm (by ac_rfl:_=aj (av g (cK x.2) 184) (aj (aj (av ac (cK q.1) 184) (aj (av ab (fL q.2) 3) (Aw W pa es I bm gm gp gr gi J Ds))) R)));have d0:=au hR;have hS:∀ W',aI F w1 (aj (av g (cK x.2) 184) (aj (aj (av ac (cK q.1) 184) (aj (av ab (fL q.2) 3) (Aw W pa es I bm gm gp gr gi J Ds))) R)) W'->(W'.cell? ⟨ab,0,none⟩=some (.int .i64 q.2)/\W'.cell? ⟨gm,0,none⟩=some (.map (some bm))/\W'.cell? ⟨g,0,none⟩=some (.int .i64 x.2.i)/\W'.cell? ⟨g,1,none⟩=some (.int .i64 x.2.j)/\W'.cell? ⟨g,2,none⟩=some (.string (bs x.2.a))/\W'.cell? ⟨g,3,none⟩=some (.bool x.2.r)/\(Instr.lookup 189 (.map (some bm)) (.agg (fx x.2.i x.2.j (bs x.2.a) x.2.r)) false).run Tryz.prog W'=.ok (.int .i64 (ju C x.2)) W'):=fun W' h=>by
       obtain⟨f1,aa⟩:=h.fst;have h9:=h.perm (by unfold Aw;ac_rfl:_=aj (av ab (fL q.2) 3) (aj (av gm #[.map (some bm)] 189) (aj (aW bm (.map es I)) (aj (av g (cK x.2) 184) (aj (av ac (cK q.1) 184) (aj (jZ gi bm es I J) (aj (av gp (dN W pa) 186) (aj (av gr (gj false) 4) (aj (dJ Ds) R)))))))));obtain⟨f2,ae⟩:=h9.fst;obtain⟨f3,ax⟩:=h9.drop.fst;obtain⟨f4,dy⟩:=h9.drop.drop.fst;exact⟨ay ae rfl,ay ax rfl,ay aa rfl,ay aa rfl,ay aa rfl,ay aa rfl,Py dy.1 aE.o x.2⟩
      have cG:(aj (av g (cK x.2) 184) (aj (aj (av ac (cK q.1) 184) (aj (av ab (fL q.2) 3) (Aw W pa es I bm gm gp gr gi J Ds))) R)).Ok:=aB aC (aB ct.o hR);have H3:=au (H2.o.drew cG);have af:=hS _ H3.o;have h4:=H3.o.perm (by unfold Aw;ac_rfl:_=aj (av gr (gj false) 4) (aj (av g (cK x.2) 184) (aj (av ac (cK q.1) 184) (aj (av ab (fL q.2) 3) (aj (jZ gi bm es I J) (aj (aW bm (.map es I)) (aj (av gm #[.map (some bm)] 189) (aj (av gp (dN W pa) 186) (aj (dJ Ds) R)))))))));have ci:(aj (av g (cK x.2) 184) (aj (av ac (cK q.1) 184) (aj (av ab (fL q.2) 3) (aj (jZ gi bm es I J) (aj (aW bm (.map es I)) (aj (av gm #[.map (some bm)] 189) (aj (av gp (dN W pa) 186) (aj (dJ Ds) R)))))))).Ok:=aB aC aO;obtain⟨fr,cj⟩:=h4.fst;have q0:=ay (i:=0) cj rfl;have q1:=aM cj 0;have H5:=au ((aJ h4 ci 0 (.bool false)).perm (by unfold Aw;ac_rfl:_=aj (av g (cK x.2) 184) (aj (aj (av ac (cK q.1) 184) (aj (av ab (fL q.2) 3) (Aw W pa es I bm gm gp gr gi J Ds))) R)));have d2:=au (aJ h4 ci 0 (.bool false));clear hI h1 h2 hx aq ag hS cG ci h4 cj H2 hi;obtain⟨xc,⟨xi,xj,xa,xr⟩⟩:=x;unfold cK;dsimp only at df c1 c8 af cN cH ⊢;generalize ju C { i:=xi,j:=xj,a:=xa,r:=xr }=hg at *
      have t1:IntKind.i64.wrap (xc+hg)=xc+hg:=kp _ eL;refine wpIn_block (wpIn_seq ?_);by_cases cr:q.2<=xc+hg
      ·have t2:decide (xc+hg<q.2)=false:=decide_eq_false eL;have c2:=au (cN.o cr);refine mQ (fun w':World=>w'.cell? ⟨ab,0,none⟩=some (.int .i64 q.2)/\w'.cell? ⟨gm,0,none⟩=some (.map (some bm))/\w'.cell? ⟨g,0,none⟩=some (.int .i64 xi)/\w'.cell? ⟨g,1,none⟩=some (.int .i64 xj)/\w'.cell? ⟨g,2,none⟩=some (.string (bs xa))/\w'.cell? ⟨g,3,none⟩=some (.bool xr)/\(Instr.lookup 189 (.map (some bm)) (.agg (fx xi xj (bs xa) xr)) false).run Tryz.prog w'=.ok (.int .i64 hg) w') rfl (fun⟨a,w,h⟩=>h) rfl eQ af ?_;clear af
       (repeat(first|refine bM ?_|refine bN ?_))
       refine lex_nil ?_;gi_wp2;exact aI.iQ c2.o H3.o.drop
      ·have t2:decide (xc+hg<q.2)=true:=decide_eq_true eL;have dt:=au (cH.o cr);refine mQ (fun w':World=>w'.cell? ⟨ab,0,none⟩=some (.int .i64 q.2)/\w'.cell? ⟨gm,0,none⟩=some (.map (some bm))/\w'.cell? ⟨g,0,none⟩=some (.int .i64 xi)/\w'.cell? ⟨g,1,none⟩=some (.int .i64 xj)/\w'.cell? ⟨g,2,none⟩=some (.string (bs xa))/\w'.cell? ⟨g,3,none⟩=some (.bool xr)/\(Instr.lookup 189 (.map (some bm)) (.agg (fx xi xj (bs xa) xr)) false).run Tryz.prog w'=.ok (.int .i64 hg) w') rfl (fun⟨a,w,h⟩=>h) rfl eQ af ?_;clear af
       (repeat(first|refine bM ?_|refine bN ?_))
       refine lex_nil ?_;gi_wp2;exact aI.iQ ⟨rfl,dt.o⟩ H5.o.drop
     ·intro D R W1 hR hI;obtain⟨aq,h2⟩:=hI.pure;have h3:=h2.perm (by unfold Aw;rw[wE];ac_rfl:_=aj (aj (av ac (cK q.1) 184) (aj (av ab (fL q.2) 3) R)) (Aw W pa es I bm gm gp gr gi J (D::Ds)));have H3:=au h3.drop;have da:=au (Ni aq);clear hI h2 h3 aq;go_wp2_with fail;refine⟨P2 (D::Ds) rfl rfl rfl rfl rfl rfl rfl H3.o b6.o c3.o (fun p hp=>?_),?_⟩
      ·rcases List.mem_append.1 hp with hp|hp
       ·exact cw.o p hp
       ·rw[List.mem_singleton.1 hp];exact da.o
      ·rw[Pz (show aI F w1 (aj (jZ gi bm es I J) _) W1 from H3.o),cT.o];exact cg.o
     ·intro D c9 R W1 hR hI;obtain⟨⟨rfl,cI⟩,h2⟩:=hI.pure;have HF:=au (show(false=true)↔jl T k x k2 y bound C from⟨fun h=>(by cases h),fun h=>(UZ HQ.o cI (by rw[bo.o];exact h.2)).elim⟩);have H3:=au (h2.perm (by unfold Aw;rw[wE];ac_rfl:_=aj (dJ (D::Ds)) (aj (av gr (gj false) 4) (aj (av ac (cK q.1) 184) (aj (av ab (fL q.2) 3) (aj (jZ gi bm es I J) (aj (aW bm (.map es I)) (aj (av gm #[.map (some bm)] 189) (aj (av gp (dN W pa) 186) R)))))))));have ba:(aj (av gr (gj false) 4) (aj (av ac (cK q.1) 184) (aj (av ab (fL q.2) 3) (aj (jZ gi bm es I J) (aj (aW bm (.map es I)) (aj (av gm #[.map (some bm)] 189) (aj (av gp (dN W pa) 186) R))))))).Ok:=aB aC aO;clear hI h2 cI;go_wp2_with fail;refine lg ba (fun W' hr=>?_) (D::Ds) _ H3.o;obtain⟨f,hf⟩:=hr.fst;exact⟨_,uS (g:=gr) rfl (ay (i:=0) hf rfl),false,rfl,HF.o,ak.o _ _ hr⟩
def dB (s:Bs):Bool:=decide (s.length<=60)
def Zp (R:ik):Bool:=dB R.f&&dB R.t
def MH (d:Drop):Bool:=dB d.w
def vz (p:Pt):Bool:=dB p.a
def Bo (T:eW) (C:List Pt):Bool:=decide (T.rs.length<=60)&&(decide (T.ds.length<=40)&&(decide (T.es.length<=40)&&(decide (C.length<=2000)&&(T.rs.all Zp&&(T.ds.all MH&&(T.es.all MH&&C.all vz))))))
theorem l7 {s:Bs}:dB s=true↔s.length<=60:=by unfold dB;rw[decide_eq_true_eq]
variable {a:TA}
theorem tY  :Bo T C=true↔(T.rs.length<=60/\T.ds.length<=40/\T.es.length<=40/\C.length<=2000)/\(∀ R ∈ T.rs,Zp R=true)/\(∀ d ∈ T.ds,MH d=true)/\(∀ d ∈ T.es,MH d=true)/\∀ p ∈ C,vz p=true:=by
 unfold Bo;simp only[gA,decide_eq_true_eq,j8,and_assoc]
structure wC (w:World) (T:eW) (a:TA):Prop where
 rs:lY w a.A T.rs
 ds:nL w a.D T.ds
 es:nL w a.E T.es
theorem wC.below    (h:wC w T a) (hb:Below w.heap.size w w'):wC w' T a:=⟨h.rs.below hb,h.ds.below hb,h.es.below hb⟩
theorem wC.P3     (h:wC w T a) (M:Bo T C=true):kr w T a:=by
 obtain⟨⟨h1,h2,h3,h4⟩,g1,g2,J,g4⟩:=tY.1 M;refine { rs:=h.rs,ds:=h.ds,es:=h.es,lr:=by omega,ld:=by omega,le:=by omega,sr:=fun R I=>?_,sd:=fun d hd=>?_,se:=fun d hd=>?_ }
 ·have:=g1 R I;unfold Zp at this;rw[gA,l7,l7] at this;exact⟨by omega,by omega⟩
 ·have:=l7.1 (g2 d hd);omega
 ·have:=l7.1 (J d hd);omega
theorem FJ (s:Bs) (w:World):Calls Tryz.prog 21 #[.string (bs s)] w (fun e w'=>e=.returned (.bool (dB s))/\w'=w):=by
 by_cases h:s.length<=60
 ·have I:((bs s).size:Int)<=60:=by rw[cu];omega
  unfold dB;rw[decide_eq_true h]
  go_enter Tryz.func21,Tryz.ntmps21
  go_wp2;go_ret;exact⟨rfl,rfl⟩
 ·have I:¬ ((bs s).size:Int)<=60:=by rw[cu];omega
  unfold dB;rw[decide_eq_false h]
  go_enter Tryz.func21,Tryz.ntmps21
  go_wp2;go_ret;exact⟨rfl,rfl⟩
theorem mY {α:Type} {p:α->Bool} {l:List α} {k:Nat} (hk:k<l.length) (h:∀ x ∈ l.take k,p x=true) (h2:p l[k]=true):∀ x ∈ l.take (k+1),p x=true:=by
 intro x hx;rw[kq hk] at hx;rcases List.mem_append.1 hx with hx|hx
 ·exact h x hx
 ·rw[List.mem_singleton.1 hx];exact h2
theorem J6    {B:eV}   (hT:wC w T a) (hC:zH w B C):Calls Tryz.prog 22 #[dV T a,.slice B C.length c] w (aS w (.bool (Bo T C))):=by
 obtain⟨A,ac,D,dc,E,ec⟩:=a;have HT:=au hT;have HC:=au hC;have h1:aI eR w (aj (av w.heap.size (dR T ⟨A,ac,D,dc,E,ec⟩) 25) bG) _:=aH (aI.begin w) aN _ 25;have HB:=au (h1.mod.below (fun _ _ h=>h));obtain⟨F,hF⟩:=h1.fst;obtain⟨n1,aq⟩:∃ n,n=T.rs.length:=⟨_,rfl⟩;obtain⟨n2,aw⟩:∃ n,n=T.ds.length:=⟨_,rfl⟩;obtain⟨n3,ax⟩:∃ n,n=T.es.length:=⟨_,rfl⟩;obtain⟨n4,ar⟩:∃ n,n=C.length:=⟨_,rfl⟩;have c0:=ay (v:=.slice A T.rs.length ac) (i:=0) hF rfl;have c1:=ay (v:=.slice D T.ds.length dc) (i:=1) hF rfl;have c2:=ay (v:=.slice E T.es.length ec) (i:=2) hF rfl;have am:=au aq;have al:=au aw;have an:=au ax;have ak:=au ar;clear hT hC h1 hF;unfold dV dR;unfold dR at HB c0 c1 c2;dsimp only at HB c0 c1 c2 ⊢;rw[<-aq,<-aw,<-ax] at HB c0 c1 c2 ⊢;rw[<-ar];clear aq aw ax ar;obtain⟨b,hb⟩:∃ b,b=Bo T C:=⟨_,rfl⟩;rw[<-hb];have HV:=au hb
 have ae:=au (show ¬ ((n1<=60/\n2<=40/\n3<=40/\n4<=2000)/\(∀ R ∈ T.rs,Zp R=true)/\(∀ d ∈ T.ds,MH d=true)/\(∀ d ∈ T.es,MH d=true)/\∀ p ∈ C,vz p=true)->b=false from fun h=>by
  rw[hb,rk];intro h2;rw[tY,<-am.o,<-al.o,<-an.o,<-ak.o] at h2
  exact h h2)
 clear hb;have KS:=au (fun s W=>FJ s W)
 go_enter Tryz.func22,Tryz.ntmps22
 iterate 10 (first|go_values|go_guarded|go_step)
 generalize w.alloc (.cells (fN A n1 ac D n2 dc E n3 ec T.drop T.ord T.ini) 25)=w1 at *
 generalize w.heap.size=gt at c0 c1 c2 ⊢;by_cases h1:60<n1
 ·have az:(60:Int)<(n1:Int):=by omega
  have HF:=au (ae.o (fun h=>by omega));clear ae HV KS h1;go_wp2;go_ret;exact aK HF.o HB.o
 have k1:=uu h1;have az:¬ (60:Int)<(n1:Int):=by omega
 clear h1;by_cases h2:40<n2
 ·have a0:(40:Int)<(n2:Int):=by omega
  have HF:=au (ae.o (fun h=>by omega));clear ae HV KS h2 k1;go_wp2;go_ret;exact aK HF.o HB.o
 have k2:=uu h2;have a0:¬ (40:Int)<(n2:Int):=by omega
 clear h2;by_cases h3:40<n3
 ·have aA:(40:Int)<(n3:Int):=by omega
  have HF:=au (ae.o (fun h=>by omega));clear ae HV KS h3 k1 k2;go_wp2;go_ret;exact aK HF.o HB.o
 have k3:=uu h3;have aA:¬ (40:Int)<(n3:Int):=by omega
 clear h3;by_cases h4:2000<n4
 ·have a1:(2000:Int)<(n4:Int):=by omega
  have HF:=au (ae.o (fun h=>by omega));clear ae HV KS h4 k1 k2 k3;go_wp2;go_ret;exact aK HF.o HB.o
 have k4:=uu h4;have a1:¬ (2000:Int)<(n4:Int):=by omega
 clear h4;go_wp2_with fail
 go_loop [5] (fun i=>∃ k:Nat,k<=n1/\i=.int .i64 k/\∀ x ∈ T.rs.take k,Zp x=true) (fun i=>n1-(intOf i).toNat)
 case atStart=>exact⟨0,fw _,rfl,by simp⟩
 case round=>
  obtain⟨k,hk,rfl,J⟩:=hrel;have HA:=au J;clear J;by_cases aa:k<n1
  ·have M:k<T.rs.length:=by rw[<-am.o];exact aa
   have af:=au aa;have ap:(k:Int)<1000000:=by omega
   obtain⟨bb,o,rfl,hc⟩:=lY.at HT.o.rs eL;obtain⟨r0,r1,r2,r3⟩:=hc w1 HB.o k M;have ag:=au (fun h=>mY (p:=Zp) M HA.o h);have ab:=au (show Zp T.rs[k]=false->b=false from fun h=>ae.o (fun h2=>by have:=h2.2.1 _ (gv M);rw[h] at this;cases this));clear hc;have ad:=au (show Zp T.rs[k]=(dB T.rs[k].f&&dB T.rs[k].t) from rfl);have K0:=au (fun W=>KS.o T.rs[k].f W);have K1:=au (fun W=>KS.o T.rs[k].t W);generalize T.rs[k]=z at *
   cases I:dB z.f with
   | false=>
    simp only[I] at K0;go_wp2_with fail;refine(K0.o _).mono ?_;rintro e9 w9 ⟨rfl,rfl⟩;clear K0;dsimp only;have HF:=au (ab.o (by rw[ad.o,I];rfl));go_wp2;go_ret;exact aK HF.o HB.o
   | true=>
    simp only[I] at K0;go_wp2_with fail;refine(K0.o _).mono ?_;rintro e9 w9 ⟨rfl,rfl⟩;clear K0;dsimp only;cases ao:dB z.t with
    | false=>
     simp only[ao] at K1;go_wp2_with fail;refine(K1.o _).mono ?_;rintro e9 w9 ⟨rfl,rfl⟩;clear K1;dsimp only;have HF:=au (ab.o (by rw[ad.o,I,ao];rfl));go_wp2;go_ret;exact aK HF.o HB.o
    | true=>
     simp only[ao] at K1;go_wp2_with fail;refine(K1.o _).mono ?_;rintro e9 w9 ⟨rfl,rfl⟩;clear K1;dsimp only;have ai:=au (ag.o (by rw[ad.o,I,ao];rfl));go_wp2
     go_round
     case rel=>exact⟨k+1,af.o,by go_num,ai.o⟩
     case measure=>have:=af.o;simp[intOf];omega
  ·obtain rfl:k=n1:=by omega
   have aE:=au (show ∀ x ∈ T.rs,Zp x=true from by have h:=HA.o;rw[am.o,ky] at h;exact h);clear HA aa;go_wp2_with fail
   go_loop [6] (fun i=>∃ k:Nat,k<=n2/\i=.int .i64 k/\∀ x ∈ T.ds.take k,MH x=true) (fun i=>n2-(intOf i).toNat)
   case atStart=>exact⟨0,fw _,rfl,by simp⟩
   case round=>
    obtain⟨k,hk,rfl,J⟩:=hrel;have HA:=au J;clear J;by_cases aa:k<n2
    ·have M:k<T.ds.length:=by rw[<-al.o];exact aa
     have af:=au aa;have ap:(k:Int)<1000000:=by omega
     obtain⟨bb,o,rfl,hc⟩:=nL.at HT.o.ds eL;obtain⟨r0,r1,r2⟩:=hc w1 HB.o k M;have ag:=au (fun h=>mY (p:=MH) M HA.o h);have ab:=au (show MH T.ds[k]=false->b=false from fun h=>ae.o (fun h2=>by have:=h2.2.2.1 _ (gv M);rw[h] at this;cases this));clear hc;have ad:=au (show MH T.ds[k]=(dB T.ds[k].w) from rfl);have K0:=au (fun W=>KS.o T.ds[k].w W);generalize T.ds[k]=z at *
     cases I:dB z.w with
     | false=>
      simp only[I] at K0;go_wp2_with fail;refine(K0.o _).mono ?_;rintro e9 w9 ⟨rfl,rfl⟩;clear K0;dsimp only;have HF:=au (ab.o (by rw[ad.o,I]));go_wp2;go_ret;exact aK HF.o HB.o
     | true=>
      simp only[I] at K0;go_wp2_with fail;refine(K0.o _).mono ?_;rintro e9 w9 ⟨rfl,rfl⟩;clear K0;dsimp only;have ai:=au (ag.o (by rw[ad.o,I]));go_wp2
      go_round
      case rel=>exact⟨k+1,af.o,by go_num,ai.o⟩
      case measure=>have:=af.o;simp[intOf];omega
    ·obtain rfl:k=n2:=by omega
     have aD:=au (show ∀ x ∈ T.ds,MH x=true from by have h:=HA.o;rw[al.o,ky] at h;exact h);clear HA aa;go_wp2_with fail
     go_loop [7] (fun i=>∃ k:Nat,k<=n3/\i=.int .i64 k/\∀ x ∈ T.es.take k,MH x=true) (fun i=>n3-(intOf i).toNat)
     case atStart=>exact⟨0,fw _,rfl,by simp⟩
     case round=>
      obtain⟨k,hk,rfl,J⟩:=hrel;have HA:=au J;clear J;by_cases aa:k<n3
      ·have M:k<T.es.length:=by rw[<-an.o];exact aa
       have af:=au aa;have ap:(k:Int)<1000000:=by omega
       obtain⟨bb,o,rfl,hc⟩:=nL.at HT.o.es eL;obtain⟨r0,r1,r2⟩:=hc w1 HB.o k M;have ag:=au (fun h=>mY (p:=MH) M HA.o h);have ab:=au (show MH T.es[k]=false->b=false from fun h=>ae.o (fun h2=>by have:=h2.2.2.2.1 _ (gv M);rw[h] at this;cases this));clear hc;have ad:=au (show MH T.es[k]=(dB T.es[k].w) from rfl);have K0:=au (fun W=>KS.o T.es[k].w W);generalize T.es[k]=z at *
       cases I:dB z.w with
       | false=>
        simp only[I] at K0;go_wp2_with fail;refine(K0.o _).mono ?_;rintro e9 w9 ⟨rfl,rfl⟩;clear K0;dsimp only;have HF:=au (ab.o (by rw[ad.o,I]));go_wp2;go_ret;exact aK HF.o HB.o
       | true=>
        simp only[I] at K0;go_wp2_with fail;refine(K0.o _).mono ?_;rintro e9 w9 ⟨rfl,rfl⟩;clear K0;dsimp only;have ai:=au (ag.o (by rw[ad.o,I]));go_wp2
        go_round
        case rel=>exact⟨k+1,af.o,by go_num,ai.o⟩
        case measure=>have:=af.o;simp[intOf];omega
      ·obtain rfl:k=n3:=by omega
       have a3:=au (show ∀ x ∈ T.es,MH x=true from by have h:=HA.o;rw[an.o,ky] at h;exact h);clear HA aa;go_wp2_with fail
       go_loop [8] (fun i=>∃ k:Nat,k<=n4/\i=.int .i64 k/\∀ x ∈ C.take k,vz x=true) (fun i=>n4-(intOf i).toNat)
       case atStart=>exact⟨0,fw _,rfl,by simp⟩
       case round=>
        obtain⟨k,hk,rfl,J⟩:=hrel;have HA:=au J;clear J;by_cases aa:k<n4
        ·have M:k<C.length:=by rw[<-ak.o];exact aa
         have af:=au aa;have ap:(k:Int)<1000000:=by omega
         obtain⟨bb,o,rfl,hc⟩:=zH.at HC.o eL;obtain⟨r0,r1,r2,r3,r4⟩:=hc w1 HB.o k M;have ag:=au (fun h=>mY (p:=vz) M HA.o h);have ab:=au (show vz C[k]=false->b=false from fun h=>ae.o (fun h2=>by have:=h2.2.2.2.2 _ (gv M);rw[h] at this;cases this));clear hc;have ad:=au (show vz C[k]=(dB C[k].a) from rfl);have K0:=au (fun W=>KS.o C[k].a W);generalize C[k]=z at *
         cases I:dB z.a with
         | false=>
          simp only[I] at K0;go_wp2_with fail;refine(K0.o _).mono ?_;rintro e9 w9 ⟨rfl,rfl⟩;clear K0;dsimp only;have HF:=au (ab.o (by rw[ad.o,I]));go_wp2;go_ret;exact aK HF.o HB.o
         | true=>
          simp only[I] at K0;go_wp2_with fail;refine(K0.o _).mono ?_;rintro e9 w9 ⟨rfl,rfl⟩;clear K0;dsimp only;have ai:=au (ag.o (by rw[ad.o,I]));go_wp2
          go_round
          case rel=>exact⟨k+1,af.o,by go_num,ai.o⟩
          case measure=>have:=af.o;simp[intOf];omega
        ·obtain rfl:k=n4:=by omega
         have a2:=au (show ∀ x ∈ C,vz x=true from by have h:=HA.o;rw[ak.o,ky] at h;exact h);clear HA aa;have HF:=au (show b=true from by rw[HV.o,tY,<-am.o,<-al.o,<-an.o,<-ak.o];exact⟨⟨by omega,by omega,by omega,by omega⟩,aE.o,aD.o,a3.o,a2.o⟩);go_wp2;go_ret;exact aK HF.o HB.o
end Go.Proofs.YtbioiclabmbedaaGreatDoor
