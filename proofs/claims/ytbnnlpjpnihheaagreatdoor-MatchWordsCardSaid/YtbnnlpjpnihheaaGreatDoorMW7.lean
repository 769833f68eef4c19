/- A part of the proof: lemmas. -/
import Derived.Test.YtbnnlpjpnihheaaGreatDoorProg
import Derived.Test.YtbnnlpjpnihheaaGreatDoorMW2
import Derived.BigQuiet
import Derived.Deep.DeepCutAuto
import Derived.Lib.AppendZeros
set_option maxHeartbeats 16000000
set_option maxRecDepth 100000
set_option linter.all false
namespace Go.Proofs.YtbnnlpjpnihheaaGreatDoor.Asn
open Go.RowKit Go.CH Go.CH.bF
open Go.ChangeMaps (setBlock)
def aL(w:World)(v:Value)(e:Ending)(w':World):Prop:=e=.returned v/\Below w.heap.size w w'
def Quiet(w:World)(v:Value)(e:Ending)(w':World):Prop:=e=.returned v/\w=w'
variable{w w':World}{a b:Bool}{l:List Int}{k n c:Nat}{A:fj}{xs:List Value}{C:List (List Int)}{V:List (fj × Nat)}{lo hi:Int}
theorem dG(h:a=b):Quiet w (.bool b) (.returned (.bool a)) w:=⟨by rw[h],rfl⟩
theorem aN(h:b=a)(hb:Below w.heap.size w w'):aL w (.bool b) (.returned (.bool a)) w':=⟨by rw[h],hb⟩
def ints(l:List Int):List Value:=l.map (Value.int .i64)
theorem QY(l:List Int):∀ u ∈ ints l,u.oneCell'=true:=by
 intro u hu;obtain⟨s,_,rfl⟩:=List.mem_map.1 hu;rfl
theorem AP(l:List Int):(ints l).length=l.length:=by simp[ints]
theorem AQ(h:k<l.length):(ints l)[k]?=some (.int .i64 l[k]):=by simp[ints,h]
def Vec(w:World)(A:fj)(l:List Int):Prop:=Src w A l.length 1 (ints l)
theorem aT{size:Nat}(h:Src w A n size xs)(hb:Below w.heap.size w w'):Src w' A n size xs:=
 ((aI.begin w).below aO hb).XM h
theorem Vec.below(h:Vec w A l)(hb:Below w.heap.size w w'):Vec w' A l:=aT h hb
theorem Vec.drew(h:Vec w A l):Vec w.drew A l:=h.below (dO (YC _ _))
theorem Vec.at(h:Vec w A l)(hn:0<l.length):
  ∃ b o,A=some ⟨b,o,none⟩/\∀ w',Below w.heap.size w w'->∀ j (q:j<l.length),w'.cell? ⟨b,o+j,none⟩=some (.int .i64 l[j]):=by
 obtain⟨b,o,rfl,z⟩:=Src.open_ h hn ff;refine⟨b,o,rfl,fun w' F j q=>?_⟩;have p:=z j _ (AQ q);rw[F.cell (YW _ _ p)];exact p
structure BL(w:World)(A:fj)(C:List (List Int))(V:List (fj × Nat)):Prop where
 len:V.length=C.length
 src:Src w A C.length 1 (V.mapIdx fun i x=>.slice x.1 (C.getD i []).length x.2)
 row:∀ i (hi:i<C.length) x,V[i]?=some x->Vec w x.1 C[i]/\C[i].length<=x.2
theorem BL.below(h:BL w A C V)(hb:Below w.heap.size w w'):BL w' A C V:=
 ⟨h.len,aT h.src hb,fun i hi x hx=>⟨(h.row i hi x hx).1.below hb,(h.row i hi x hx).2⟩⟩
theorem BL.at(h:BL w A C V)(hn:0<C.length):
  ∃ b o,A=some ⟨b,o,none⟩/\∀ j (p:j<C.length),∃ B c,C[j].length<=c/\Vec w B C[j]/\∀ w',Below w.heap.size w w'->w'.cell? ⟨b,o+j,none⟩=some (.slice B C[j].length c):=by
 obtain⟨b,o,rfl,F⟩:=Src.open_ h.src hn ff;refine⟨b,o,rfl,fun j p=>?_⟩;have z:V[j]?=some (V[j]'(by rw[h.len];exact p)):=YH _;obtain⟨I,J⟩:=h.row j p _ z;refine⟨_,_,J,I,fun w' M=>?_⟩
 have q:=F j (.slice (V[j]'(by rw[h.len];exact p)).1 C[j].length (V[j]'(by rw[h.len];exact p)).2) (by
  rw[pP,z]
  simp[YP,p])
 rw[M.cell (YW _ _ q)];exact q
def wi(l:List Int)(lo hi:Int):Bool:=l.all fun n=>decide (lo<=n)&&decide (n<=hi)
theorem LW(h:k<l.length):wi (l.take (k+1)) lo hi=(wi (l.take k) lo hi&&(decide (lo<=l[k])&&decide (l[k]<=hi))):=by
 unfold wi;rw[YD h,sY];simp
theorem VJ(h:wi (l.take (k+1)) lo hi=false):wi l lo hi=false:=by
 unfold wi at *
 rw[List.all_eq_false] at *
 obtain⟨x,hx,h1⟩:=h;exact⟨x,ZC hx,h1⟩
theorem QZ(h:wi l lo hi=true)(hk:k<l.length):lo<=l[k]/\l[k]<=hi:=by
 unfold wi at h;rw[YX] at h;simpa using h l[k] (YL _)
def t8(C:List (List Int))(D E:List Int):Bool:=C.all (fun r=>decide (r.length<=20))&&(decide (C.length<=20)&&decide (D.length<=20)&&decide (E.length<=20))
def qE(C:List (List Int))(D E:List Int):Bool:=
 decide (C.length=D.length)&&decide (D.length<=6)&&decide (E.length<=6)&&wi D 0 10000&&wi E 0 10000&&C.all (fun r=>decide (r.length=E.length)&&wi r 0 100000)
theorem qY(h:Vec w A l)(hl:l.length<=1000000)(lo hi:Int):
  Calls Tryz.prog 107 #[.slice A l.length c,.int .i64 lo,.int .i64 hi] w (Quiet w (.bool (wi l lo hi))):=by
 have HA:=au h;obtain⟨n,hn⟩:∃ n,n=l.length:=⟨_,rfl⟩;rw[<-hn] at hl;have J:=au hn;rw[<-hn];clear h hn
 go_enter Tryz.func107,Tryz.ntmps107
 go_wp2
 go_loop [7] (fun i=>∃ k:Nat,k<=n/\i=.int .i64 k/\wi (l.take k) lo hi=true) (fun i=>n-(intOf i).toNat)
 case atStart=>exact⟨0,YE _,rfl,rfl⟩
 case round=>
  obtain⟨k,hk,rfl,V⟩:=hrel;have I:=au V;clear V;by_cases F:k<n
  ·have p:k<l.length:=by rw[<-J.o];exact F
   obtain⟨b,o,rfl,M⟩:=HA.o.at ff;have c0:=M w (YC _ _) k p;have z:=au (LW (lo:=lo) (hi:=hi) p);have q:=au (VJ (l:=l) (lo:=lo) (hi:=hi) (k:=k));generalize l[k]=x at *
   clear M;by_cases h1:x<lo
   ·go_wp2;go_ret;refine dG (q.o ?_).symm;rw[z.o];simp;omega
   ·by_cases h2:hi<x
    ·go_wp2;go_ret;refine dG (q.o ?_).symm;rw[z.o];simp;omega
    ·go_wp2
     go_round
     case rel=>exact⟨k+1,by omega,by go_num,by rw[z.o,I.o];simp;omega⟩
     case measure=>simp[intOf];omega
  ·obtain rfl:k=n:=by omega
   have HF:=au (show true=wi l lo hi by rw[<-I.o,J.o,YO]);clear I;go_wp2;go_ret;exact dG HF.o
theorem LP{a b:List Int}{k:Nat}(h:a.take k=b.take k)(ha:k<a.length)(hb:k<b.length)(he:a[k]=b[k]):a.take (k+1)=b.take (k+1):=by
 rw[YD ha,YD hb,h,he]
def U0(n nd ne:Nat)(D E:List Int):Bool:=decide (n=nd)&&decide (nd<=6)&&decide (ne<=6)&&wi D 0 10000&&wi E 0 10000
def G8(ne:Nat)(r:List Int):Bool:=decide (r.length=ne)&&wi r 0 100000
theorem Rp(C:List (List Int))(D E:List Int):qE C D E=(U0 C.length D.length E.length D E&&C.all (G8 E.length)):=rfl
theorem G9{ne k:Nat}(h:k<C.length):(C.take (k+1)).all (G8 ne)=((C.take k).all (G8 ne)&&G8 ne C[k]):=by
 rw[YD h,sY];simp
theorem pX{B G:fj}{d e:Nat}{D E:List Int}(h:BL w A C V)(hD:Vec w B D)(hE:Vec w G E):
  Calls Tryz.prog 68 #[.slice A C.length c,.slice B D.length d,.slice G E.length e] w (Quiet w (.bool (qE C D E))):=by
 have HA:=au h;have I:=au (Rp C D E);have HD:=au (fun hl=>qY (c:=d) hD hl 0 10000);have HE:=au (fun hl=>qY (c:=e) hE hl 0 10000);obtain⟨n,hn⟩:∃ n,n=C.length:=⟨_,rfl⟩;obtain⟨nd,F⟩:∃ n,n=D.length:=⟨_,rfl⟩;obtain⟨ne,J⟩:∃ n,n=E.length:=⟨_,rfl⟩;have HN:=au hn;rw[<-hn,<-F,<-J] at I;rw[<-F] at HD;rw[<-J] at HE;rw[<-hn,<-F,<-J];clear h hn F J hD hE;by_cases h1:n=nd
 case neg=>
  have q:=au (show false=qE C D E by rw[I.o,U0,decide_eq_false h1];simp);clear I HD HE HA
  go_enter Tryz.func68,Tryz.ntmps68
  go_wp2;go_ret;exact dG q.o
 subst h1;by_cases h2:n<=6
 case neg=>
  have q:=au (show false=qE C D E by rw[I.o,U0,decide_eq_false h2];simp);clear I HD HE HA
  go_enter Tryz.func68,Tryz.ntmps68
  go_wp2;go_ret;exact dG q.o
 by_cases h3:ne<=6
 case neg=>
  have q:=au (show false=qE C D E by rw[I.o,U0,decide_eq_false h3];simp);clear I HD HE HA
  go_enter Tryz.func68,Tryz.ntmps68
  go_wp2;go_ret;exact dG q.o
 have KD:=au (HD.o ff);have KE:=au (HE.o ff);have p:=au (show qE C D E=(wi D 0 10000&&wi E 0 10000&&C.all (G8 ne)) by rw[I.o,U0,decide_eq_true rfl,decide_eq_true h2,decide_eq_true h3];simp);clear HD HE I;cases h4:wi D 0 10000 with
 | false=>
  rw[h4] at KD p;have q:=au (show false=qE C D E by rw[p.o];simp);clear p HA h4
  go_enter Tryz.func68,Tryz.ntmps68
  go_wp2_with fail;refine KD.o.mono ?_;rintro e w' ⟨rfl,rfl⟩;go_wp2;go_ret;exact dG q.o
 | true=>
  rw[h4] at KD p;clear h4;cases h5:wi E 0 10000 with
  | false=>
   rw[h5] at KE p;have q:=au (show false=qE C D E by rw[p.o];simp);clear p HA h5
   go_enter Tryz.func68,Tryz.ntmps68
   go_wp2_with fail;refine KD.o.mono ?_;rintro e w' ⟨rfl,rfl⟩;go_wp2_with fail;refine KE.o.mono ?_;rintro e w' ⟨rfl,rfl⟩;go_wp2;go_ret;exact dG q.o
  | true=>
   rw[h5] at KE p;clear h5;have q:=au (show qE C D E=C.all (G8 ne) by rw[p.o];simp);clear p
   go_enter Tryz.func68,Tryz.ntmps68
   go_wp2_with fail;refine KD.o.mono ?_;rintro e w' ⟨rfl,rfl⟩;go_wp2_with fail;refine KE.o.mono ?_;rintro e w' ⟨rfl,rfl⟩;go_wp2
   go_loop [7] (fun i=>∃ k:Nat,k<=n/\i=.int .i64 k/\(C.take k).all (G8 ne)=true) (fun i=>n-(intOf i).toNat)
   case atStart=>exact⟨0,YE _,rfl,rfl⟩
   case round=>
    obtain⟨k,hk,rfl,ht⟩:=hrel;have HT:=au ht;clear ht;by_cases ae:k<n
    ·have ad:k<C.length:=by rw[<-HN.o];exact ae
     obtain⟨b1,o1,rfl,ab⟩:=HA.o.at ff;obtain⟨Bk,ck,-,M,aa⟩:=ab k ad;have c1:=aa _ (YC _ _);have HX:=au (G9 (ne:=ne) ad);have HY:=au (show G8 ne C[k]=false->C.all (G8 ne)=false from fun h=>List.all_eq_false.2 ⟨C[k],YL _,by simpa using h⟩);have HK:=au (fun hl=>qY (c:=ck) M hl 0 100000);have z:=au (show G8 ne C[k]=(decide (C[k].length=ne)&&wi C[k] 0 100000) from rfl);generalize C[k]=x at *
     obtain⟨nx,ac⟩:∃ n,n=x.length:=⟨_,rfl⟩;rw[<-ac] at c1 HK z;clear ab aa M ac;by_cases hx:nx=ne
     ·have KX:=au (HK.o ff);rw[decide_eq_true hx] at z;have t1:¬ ((nx:Int)≠ne):=by omega
      cases hw:wi x 0 100000 with
      | false=>
       rw[hw] at KX z;have HS:=au (show false=qE C D E by rw[q.o,HY.o (by rw[z.o];rfl)]);clear HT HX z HK hw;subst hx;go_wp2_with fail;refine KX.o.mono ?_;rintro e w' ⟨rfl,rfl⟩;go_wp2;go_ret;exact dG HS.o
      | true=>
       rw[hw] at KX z;have HS:=au (show(C.take (k+1)).all (G8 ne)=true by rw[HX.o,HT.o,z.o];rfl);clear HT HX z HK hw;subst hx;go_wp2_with fail;refine KX.o.mono ?_;rintro e w' ⟨rfl,rfl⟩;go_wp2
       go_round
       case rel=>exact⟨k+1,by omega,by go_num,HS.o⟩
       case measure=>simp[intOf];omega
     ·have HS:=au (show false=qE C D E by rw[q.o,HY.o (by rw[z.o,decide_eq_false hx];rfl)]);clear HT HX z HK;go_wp2;go_ret;exact dG HS.o
    ·obtain rfl:k=n:=by omega
     have HS:=au (show true=qE C D E by
      have:=HT.o;rw[HN.o,YO] at this
      rw[q.o,this])
     clear HT;go_wp2;go_ret;exact dG HS.o
variable{p:Addr}{v:Value}
theorem U1{q:Addr}(x lo hi:Int)(F:w.cell? p=some (.int .i64 lo))(z:w.cell? q=some (.int .i64 hi)):
  Calls Tryz.prog 130 #[.int .i64 x,.pointer (some p),.pointer (some q)] w (Quiet w (.bool (!(decide (lo<=x)&&decide (x<=hi))))):=by
 by_cases h:x<lo
 ·go_enter Tryz.func130,Tryz.ntmps130
  go_wp2;go_ret;refine dG ?_;simp;omega
 ·by_cases I:hi<x
  ·go_enter Tryz.func130,Tryz.ntmps130
   go_wp2;go_ret;refine dG ?_;simp;try omega
  ·go_enter Tryz.func130,Tryz.ntmps130
   go_wp2;go_ret;refine dG ?_;simp;try omega
theorem wS(h:Vec w A l)(hl:l.length<=1000000){q:Addr}(lo hi:Int)(h1:w.cell? p=some (.int .i64 lo))(h2:w.cell? q=some (.int .i64 hi)):
  Calls Tryz.prog 151 #[.slice A l.length c,.func (.func 130) #[] (ln (some p) (some q))] w (fun e w'=>∃ r:Int,e=.returned (.int .i64 r)/\w'=w/\(0<=r↔wi l lo hi=false)):=by
 have HA:=au h;have HO:=au (fun x=>U1 x lo hi h1 h2);obtain⟨n,hn⟩:∃ n,n=l.length:=⟨_,rfl⟩;rw[<-hn] at hl;have HN:=au hn;rw[<-hn];clear h hn h1 h2
 go_enter Tryz.func151,Tryz.ntmps151
 go_wp2
 go_loop [8] (fun i=>∃ k:Nat,k<=n/\i=.int .i64 k/\wi (l.take k) lo hi=true) (fun i=>n-(intOf i).toNat)
 case atStart=>exact⟨0,YE _,rfl,rfl⟩
 case round=>
  obtain⟨k,hk,rfl,hw⟩:=hrel;have M:=au hw;clear hw;by_cases aa:k<n
  ·have F:k<l.length:=by rw[<-HN.o];exact aa
   obtain⟨b,o,rfl,hc⟩:=HA.o.at ff;have c0:=hc w (YC _ _) k F;have z:=au (LW (lo:=lo) (hi:=hi) F);have I:=au (VJ (l:=l) (lo:=lo) (hi:=hi) (k:=k));have J:=au (HO.o l[k]);generalize l[k]=x at *
   clear hc;rw[M.o,ZI] at z;cases V:(decide (lo<=x)&&decide (x<=hi)) with
   | true=>
    rw[V] at z J;clear V;go_wp2_with fail;refine J.o.mono ?_;rintro e w' ⟨rfl,rfl⟩;go_wp2
    go_round
    case rel=>exact⟨k+1,by omega,by go_num,z.o⟩
    case measure=>simp[intOf];omega
   | false=>
    rw[V] at z J;clear V;have HF:=au (I.o z.o);clear I z M;go_wp2_with fail;refine J.o.mono ?_;rintro e w' ⟨rfl,rfl⟩;go_wp2;go_ret;exact⟨k,rfl,rfl,by rw[HF.o];simp⟩
  ·obtain rfl:k=n:=by omega
   have HF:=au (show true=wi l lo hi by rw[<-M.o,HN.o,YO]);clear M;go_wp2;go_ret;exact⟨-1,rfl,rfl,by rw[<-HF.o];simp⟩
theorem El(h:Vec w A l)(J:l.length<=1000000){q:Addr}(lo hi:Int)(I:w.cell? p=some (.int .i64 lo))(F:w.cell? q=some (.int .i64 hi)):
  Calls Tryz.prog 129 #[.slice A l.length c,.func (.func 130) #[] (ln (some p) (some q))] w (Quiet w (.bool (!wi l lo hi))):=by
 have M:=au (wS (c:=c) h J lo hi I F);clear h I F
 go_enter Tryz.func129,Tryz.ntmps129
 go_wp2_with fail;refine M.o.mono ?_;rintro e w' ⟨r,rfl,rfl,hr⟩;cases z:wi l lo hi with
 | false=>
  have:0<=r:=hr.2 z;go_wp2;go_ret;refine dG ?_;simp[z]
 | true=>
  have:¬ 0<=r:=fun h=>by rw[hr.1 h] at z;cases z
  go_wp2;go_ret;refine dG ?_;simp[z]
theorem U2(w:World)(cs:Array Value)(t:TypeId)(o:Obj)(h:cs[0]?=some v):((w.alloc (.cells cs t)).alloc o).cell? ⟨w.heap.size,0,none⟩=some v:=by
 have p:((w.alloc (.cells cs t)).alloc o).heap[w.heap.size]?=(w.alloc (.cells cs t)).heap[w.heap.size]?:=Qy gw;rw[pM (w:=w.alloc (.cells cs t)) p];obtain⟨F,q,-⟩:=fG w cs t;exact aB q h
theorem U3(w:World)(o:Obj)(cs:Array Value)(t:TypeId)(h:cs[0]?=some v):((w.alloc o).alloc (.cells cs t)).cell? ⟨w.heap.size+1,0,none⟩=some v:=by
 obtain⟨F,hC,-⟩:=fG (w.alloc o) cs t;have:=aB hC h
 rwa [show(w.alloc o).heap.size=w.heap.size+1 by simp] at this
theorem uG(h:Vec w A l)(I:l.length<=1000000)(lo hi:Int):
  Calls Tryz.prog 99 #[.slice A l.length c,.int .i64 lo,.int .i64 hi] w (aL w (.bool (wi l lo hi))):=by
 have z:Below w.heap.size w ((w.alloc (.cells (gb lo) 3)).alloc (.cells (gb hi) 3)):=((YC _ _).alloc (YG _) _).alloc gw _;have F:=au (El (c:=c) (p:=⟨w.heap.size,0,none⟩) (q:=⟨w.heap.size+1,0,none⟩) (h.below z) I lo hi (U2 w _ _ _ rfl) (U3 w _ _ _ rfl));have J:=au z;clear h z
 go_enter Tryz.func99,Tryz.ntmps99
 go_wp2_with fail;refine F.o.mono ?_;rintro e w' ⟨rfl,rfl⟩;go_wp2;go_ret;exact aN gw J.o
theorem aG{w'':World}(h:Below w.heap.size w w')(h':Below w'.heap.size w' w''):Below w.heap.size w w'':=h.trans (h'.mono h.size)
theorem rT{B G:fj}{d e:Nat}{D E:List Int}(h:BL w A C V)(hl:C.length<=maxLen)(hD:Vec w B D)(hE:Vec w G E):
  Calls Tryz.prog 57 #[.slice A C.length c,.slice B D.length d,.slice G E.length e] w (aL w (.bool (qE C D E))):=by
 unfold maxLen at hl;have HA:=au h;have HV:=au (Rp C D E);have HD:=au (fun hl=>uG (c:=d) hD hl 0 10000);have HE:=au (fun (w':World) (F:Below w.heap.size w w') hl=>uG (c:=e) (hE.below F) hl 0 10000);obtain⟨n,hn⟩:∃ n,n=C.length:=⟨_,rfl⟩;obtain⟨nd,ad⟩:∃ n,n=D.length:=⟨_,rfl⟩;obtain⟨ne,ae⟩:∃ n,n=E.length:=⟨_,rfl⟩;have HN:=au hn;rw[<-hn] at hl;rw[<-hn,<-ad,<-ae] at HV;rw[<-ad] at HD;rw[<-ae] at HE;rw[<-hn,<-ad,<-ae];have HB:=au (YC w.heap.size w);clear h hn ad ae hD hE;by_cases h1:n=nd
 case neg=>
  have HF:=au (show false=qE C D E by rw[HV.o,U0,decide_eq_false h1];simp);clear HV HD HE
  go_enter Tryz.func57,Tryz.ntmps57
  go_wp2;go_loopw [7,35] (fun ok i wr=>∃ k:Nat,k<=n/\ok=.bool false/\i=.int .i64 k/\Below w.heap.size w wr) (fun _ i _=>n-(intOf i).toNat)
  case atStart=>exact⟨0,YE _,rfl,rfl,HB.o⟩
  case round=>
   obtain⟨k,hk,rfl,rfl,F⟩:=hrel;have p:=au F;clear HB;by_cases J:k<n
   ·have I:k<C.length:=by rw[<-HN.o];exact J
    obtain⟨b1,o1,rfl,z⟩:=HA.o.at ff;obtain⟨Bk,ck,-,-,q⟩:=z k I;have c1:=q _ F;clear z q F;go_wp2
    go_roundw
    case rel=>exact⟨k+1,by omega,rfl,by go_num,p.o⟩
    case measure=>simp[intOf];omega
   ·obtain rfl:k=n:=by omega
    clear F;go_wp2;go_ret;exact aN HF.o.symm p.o
 by_cases h2:nd<=6
 case neg=>
  have HF:=au (show false=qE C D E by rw[HV.o,U0,decide_eq_false h2];simp);clear HV HD HE
  go_enter Tryz.func57,Tryz.ntmps57
  go_wp2;go_loopw [7,35] (fun ok i wr=>∃ k:Nat,k<=n/\ok=.bool false/\i=.int .i64 k/\Below w.heap.size w wr) (fun _ i _=>n-(intOf i).toNat)
  case atStart=>exact⟨0,YE _,rfl,rfl,HB.o⟩
  case round=>
   obtain⟨k,hk,rfl,rfl,F⟩:=hrel;have p:=au F;clear HB;by_cases J:k<n
   ·have I:k<C.length:=by rw[<-HN.o];exact J
    obtain⟨b1,o1,rfl,z⟩:=HA.o.at ff;obtain⟨Bk,ck,-,-,q⟩:=z k I;have c1:=q _ F;clear z q F;go_wp2
    go_roundw
    case rel=>exact⟨k+1,by omega,rfl,by go_num,p.o⟩
    case measure=>simp[intOf];omega
   ·obtain rfl:k=n:=by omega
    clear F;go_wp2;go_ret;exact aN HF.o.symm p.o
 by_cases h3:ne<=6
 case neg=>
  have HF:=au (show false=qE C D E by rw[HV.o,U0,decide_eq_false h3];simp);clear HV HD HE
  go_enter Tryz.func57,Tryz.ntmps57
  go_wp2;go_loopw [7,35] (fun ok i wr=>∃ k:Nat,k<=n/\ok=.bool false/\i=.int .i64 k/\Below w.heap.size w wr) (fun _ i _=>n-(intOf i).toNat)
  case atStart=>exact⟨0,YE _,rfl,rfl,HB.o⟩
  case round=>
   obtain⟨k,hk,rfl,rfl,F⟩:=hrel;have p:=au F;clear HB;by_cases J:k<n
   ·have I:k<C.length:=by rw[<-HN.o];exact J
    obtain⟨b1,o1,rfl,z⟩:=HA.o.at ff;obtain⟨Bk,ck,-,-,q⟩:=z k I;have c1:=q _ F;clear z q F;go_wp2
    go_roundw
    case rel=>exact⟨k+1,by omega,rfl,by go_num,p.o⟩
    case measure=>simp[intOf];omega
   ·obtain rfl:k=n:=by omega
    clear F;go_wp2;go_ret;exact aN HF.o.symm p.o
 have KD:=au (HD.o ff);have KE:=au (fun w' F=>HE.o w' F ff);have aa:=au (show qE C D E=(wi D 0 10000&&wi E 0 10000&&C.all (G8 ne)) by rw[HV.o,U0,decide_eq_true h1,decide_eq_true h2,decide_eq_true h3];simp);clear HD HE HV;cases h4:wi D 0 10000 with
 | false=>
  rw[h4] at KD aa;have HF:=au (show false=qE C D E by rw[aa.o];simp);clear aa h4
  go_enter Tryz.func57,Tryz.ntmps57
  go_wp2_with fail;refine KD.o.mono ?_;rintro e w' ⟨rfl,hb'⟩;have M:=au hb';clear HB hb' KD;go_wp2;go_loopw [7,35] (fun ok i wr=>∃ k:Nat,k<=n/\ok=.bool false/\i=.int .i64 k/\Below w.heap.size w wr) (fun _ i _=>n-(intOf i).toNat)
  case atStart=>exact⟨0,YE _,rfl,rfl,M.o⟩
  case round=>
   obtain⟨k,hk,rfl,rfl,F⟩:=hrel;have p:=au F;clear M;by_cases J:k<n
   ·have I:k<C.length:=by rw[<-HN.o];exact J
    obtain⟨b1,o1,rfl,z⟩:=HA.o.at ff;obtain⟨Bk,ck,-,-,q⟩:=z k I;have c1:=q _ F;clear z q F;go_wp2
    go_roundw
    case rel=>exact⟨k+1,by omega,rfl,by go_num,p.o⟩
    case measure=>simp[intOf];omega
   ·obtain rfl:k=n:=by omega
    clear F;go_wp2;go_ret;exact aN HF.o.symm p.o
 | true=>
  rw[h4] at KD aa;clear h4;cases h5:wi E 0 10000 with
  | false=>
   rw[h5] at KE aa;have HF:=au (show false=qE C D E by rw[aa.o];simp);clear aa h5
   go_enter Tryz.func57,Tryz.ntmps57
   go_wp2_with fail;refine KD.o.mono ?_;rintro e w' ⟨rfl,hb'⟩;have M:=au hb';have ab:=au (KE.o _ hb');clear HB hb' KD KE;go_wp2_with fail;refine ab.o.mono ?_;rintro e w2 ⟨rfl,hb2⟩;have ac:=au (aG M.o hb2);clear M hb2 ab;go_wp2;go_loopw [7,35] (fun ok i wr=>∃ k:Nat,k<=n/\ok=.bool false/\i=.int .i64 k/\Below w.heap.size w wr) (fun _ i _=>n-(intOf i).toNat)
   case atStart=>exact⟨0,YE _,rfl,rfl,ac.o⟩
   case round=>
    obtain⟨k,hk,rfl,rfl,F⟩:=hrel;have p:=au F;clear ac;by_cases J:k<n
    ·have I:k<C.length:=by rw[<-HN.o];exact J
     obtain⟨b1,o1,rfl,z⟩:=HA.o.at ff;obtain⟨Bk,ck,-,-,q⟩:=z k I;have c1:=q _ F;clear z q F;go_wp2
     go_roundw
     case rel=>exact⟨k+1,by omega,rfl,by go_num,p.o⟩
     case measure=>simp[intOf];omega
    ·obtain rfl:k=n:=by omega
     clear F;go_wp2;go_ret;exact aN HF.o.symm p.o
  | true=>
   rw[h5] at KE aa;clear h5;have HF:=au (show qE C D E=C.all (G8 ne) by rw[aa.o];simp);clear aa
   go_enter Tryz.func57,Tryz.ntmps57
   go_wp2_with fail;refine KD.o.mono ?_;rintro e w' ⟨rfl,hb'⟩;have M:=au hb';have ab:=au (KE.o _ hb');clear HB hb' KD KE;go_wp2_with fail;refine ab.o.mono ?_;rintro e w2 ⟨rfl,hb2⟩;have ac:=au (aG M.o hb2);clear M hb2 ab;go_wp2;go_loopw [7,35] (fun ok i wr=>∃ k:Nat,k<=n/\ok=.bool ((C.take k).all (G8 ne))/\i=.int .i64 k/\Below w.heap.size w wr) (fun _ i _=>n-(intOf i).toNat)
   case atStart=>exact⟨0,YE _,rfl,rfl,ac.o⟩
   case round=>
    obtain⟨k,hk,rfl,rfl,F⟩:=hrel;have p:=au F;clear ac;by_cases J:k<n
    ·have I:k<C.length:=by rw[<-HN.o];exact J
     obtain⟨b1,o1,rfl,z⟩:=HA.o.at ff;obtain⟨Bk,ck,-,af,q⟩:=z k I;have c1:=q _ F;have HX:=au (G9 (ne:=ne) I);have HK:=au (fun hl=>uG (c:=ck) (af.below F) hl 0 100000);have HZ:=au (show G8 ne C[k]=(decide (C[k].length=ne)&&wi C[k] 0 100000) from rfl);generalize C[k]=x at *
     obtain⟨nx,ag⟩:∃ n,n=x.length:=⟨_,rfl⟩;rw[<-ag] at c1 HK HZ;clear z q af ag F;cases ht:(C.take k).all (G8 ne) with
     | false=>
      rw[ht] at HX;clear ht HZ HK;go_wp2
      go_roundw
      case rel=>exact⟨k+1,by omega,by rw[HX.o];rfl,by go_num,p.o⟩
      case measure=>simp[intOf];omega
     | true=>
      rw[ht,ZI] at HX;clear ht;by_cases hx:nx=ne
      ·have KX:=au (HK.o ff);rw[decide_eq_true hx,ZI] at HZ;clear HK;subst hx;go_wp2_with fail;refine KX.o.mono ?_;rintro e w' ⟨rfl,hb'⟩;have M:=au (aG p.o hb');clear KX hb' p;go_wp2
       go_roundw
       case rel=>exact⟨k+1,by omega,by rw[HX.o,HZ.o],by go_num,M.o⟩
       case measure=>simp[intOf];omega
      ·have HS:=au (show G8 ne x=false by rw[HZ.o,decide_eq_false hx];rfl);clear HZ HK;go_wp2
       go_roundw
       case rel=>exact⟨k+1,by omega,by rw[HX.o,HS.o],by go_num,p.o⟩
       case measure=>simp[intOf];omega
    ·obtain rfl:k=n:=by omega
     have HS:=au (show C.take k=C by rw[HN.o,YO]);clear F;go_wp2;go_ret;exact aN (by rw[HF.o,HS.o]) p.o
def lF(l:List Int)(i:Nat):Int:=l.getD i 0
def cF(C:List (List Int))(i j:Nat):Int:=lF (C.getD i []) j
variable{i m:Nat}{B G:fj}
theorem yI(h:i<l.length):lF l i=l[i]:=by simp[lF,YP,h]
theorem AY(h:i<C.length)(j:Nat):cF C i j=lF C[i] j:=by simp[cF,YP,h]
structure Yw(C:List (List Int))(D E:List Int):Prop where
 n:C.length=D.length
 n6:D.length<=6
 m6:E.length<=6
 d:∀ i,i<D.length->0<=lF D i/\lF D i<=10000
 e:∀ i,i<E.length->0<=lF E i/\lF E i<=10000
 row:∀ i (hi:i<C.length),C[i].length=E.length
 c:∀ i,i<D.length->∀ j,j<E.length->0<=cF C i j/\cF C i j<=100000
theorem Mf{D E:List Int}(h:qE C D E=true):Yw C D E:=by
 simp only[qE,YF,decide_eq_true_eq,YX] at h;obtain⟨⟨⟨⟨⟨I,F⟩,z⟩,J⟩,M⟩,q⟩:=h;refine⟨I,F,z,fun i hi=>?_,fun i hi=>?_,fun i hi=>(q _ (YL hi)).1,fun i hi j hj=>?_⟩
 ·rw[yI hi];exact QZ J hi
 ·rw[yI hi];exact QZ M hi
 ·have p:i<C.length:=by omega
  obtain⟨g1,V⟩:=q _ (YL p);rw[AY p,yI ff];exact QZ V ff
theorem Vec.Yn(h:Vec w A l)(hn:0<l.length):
  ∃ b o,A=some ⟨b,o,none⟩/\∀ w',Below w.heap.size w w'->∀ j,j<l.length->w'.cell? ⟨b,o+j,none⟩=some (.int .i64 (lF l j)):=by
 obtain⟨b,o,h1,h2⟩:=h.at hn;exact⟨b,o,h1,fun w' hb j hj=>by rw[yI hj];exact h2 w' hb j hj⟩
theorem BL.Yn(h:BL w A C V)(hn:0<C.length)(F:∀ i (hi:i<C.length),C[i].length=m):
  ∃ b o,A=some ⟨b,o,none⟩/\∀ i,i<C.length->∃ B c,m<=c/\(∀ w',Below w.heap.size w w'->w'.cell? ⟨b,o+i,none⟩=some (.slice B m c)) /\
   (0<m->∃ q p,B=some ⟨q,p,none⟩/\∀ w',Below w.heap.size w w'->∀ j,j<m->w'.cell? ⟨q,p+j,none⟩=some (.int .i64 (cF C i j))):=by
 obtain⟨b,o,h1,h2⟩:=h.at hn;refine⟨b,o,h1,fun i hi=>?_⟩;obtain⟨B,c,h3,I,J⟩:=h2 i hi;have hm:=F i hi;refine⟨B,c,by omega,fun w' z=>by rw[<-hm];exact J w' z,fun h0=>?_⟩;obtain⟨q,p,g1,M⟩:=I.Yn ff;exact⟨q,p,g1,fun w' z j hj=>by rw[AY hi];exact M w' z j ff⟩
theorem JY{f:Nat->Int}{a b:Int}(h:∀ i,i<n->a<=f i/\f i<=b):(n:Int)*a<=sg n f/\sg n f<=(n:Int)*b:=by
 induction n with
 | zero=>simp[sg]
 | succ n ih=>
  have:=ih (fun i hi=>h i ff);have:=h n ff;have p:((n+1:Nat):Int)*a=n*a+a:=by rw[ma,ml];simp
  have e2:((n+1:Nat):Int)*b=n*b+b:=by rw[ma,ml];simp
  rw[dN,p,e2];omega
def Yo(C:List (List Int))(D E U W:List Int):Bool:=qE C D E&&decide (U.length=D.length)&&decide (W.length=E.length)&&wi U (-1000000) 1000000&&wi W (-1000000) 1000000
def XP(C:List (List Int))(D E U W:List Int):Prop:=EJ (cF C) (lF D) (lF E) D.length E.length (lF U) (lF W)
open Classical in
noncomputable def ry(C:List (List Int))(D E U W:List Int):Int × Bool:=if Yo C D E U W=true/\XP C D E U W then(sg D.length (lF U)+sg E.length (lF W),true) else(0,false)
structure Tm(w:World)(A B G:fj)(C:List (List Int))(D E:List Int)(n m:Nat):Prop where
 v:Yw C D E
 hn:C.length=n
 hd:D.length=n
 hm:E.length=m
 mat:∃ V,BL w A C V
 vd:Vec w B D
 ve:Vec w G E
theorem Tm.below{D E:List Int}(h:Tm w A B G C D E n m)(hb:Below w.heap.size w w'):Tm w' A B G C D E n m:=by
 obtain⟨V,hV⟩:=h.mat;exact⟨h.v,h.hn,h.hd,h.hm,⟨V,hV.below hb⟩,h.vd.below hb,h.ve.below hb⟩
section
variable{w:World}{A B G:fj}{C:List (List Int)}{D E:List Int}{n m:Nat}
theorem Tm.n6(h:Tm w A B G C D E n m):n<=6:=h.hd ▸ h.v.n6
theorem Tm.m6(h:Tm w A B G C D E n m):m<=6:=h.hm ▸ h.v.m6
end
theorem Rq{D E:List Int}(hV:qE C D E=true)(h:BL w A C V)(hD:Vec w B D)(hE:Vec w G E):Tm w A B G C D E D.length E.length:=
 ⟨Mf hV,(Mf hV).n,rfl,rfl,⟨V,h⟩,hD,hE⟩
theorem toList_madeCells_one(z:Value)(n:Nat):(madeCells #[z] n).toList=List.replicate n z:=by
 refine nB fun i=>?_;simp only[madeCells,Array.toList_map,Array.toList_range,Y6,mT];by_cases h:i<n
 ·simp[h,Nat.mod_one]
 ·simp[h]
variable{P:Program}{a:Act}{K:Act->World->Prop}{Q:Exit->Act->World->Prop}{t e:TypeId}{z:Value}{ops:Array Oper}{g:Nat}{f:Nat->Int}{F:Nat->Prop}
theorem Mg{o:Oper}{bytes:Nat}(S:d9 P t e z 1 bytes)(V:bytes<=1000)(l:Operand)(I:o.op=Op.makeSlice t l l)(n:Nat)(hn:n<=1000)(hl:a.eval l=.int .i64 (n:Int))(hz:z.cells=#[z])(hK:∀ w',bS w fh (aZ e 1 (.slice (some ⟨w.heap.size,0,none⟩) n n) n (List.replicate n z)) w'->K (a.put o.dst (.slice (some ⟨w.heap.size,0,none⟩) n n)) w'):o.wp P a w K Q:=by
 obtain⟨ht,hi,aa,ab⟩:=S;obtain⟨i,hi,q,M,J⟩:=info_parts hi;obtain⟨w',p,r1,r2⟩:=run_make_full (P:=P) w w.heap.size t e i z 1 ht hi q M .i64 .i64 n (by rw[J];have:=oA V hn;omega) (by simp only[maxLen];omega) (YG _)
 have h2:=hK w' (sJ (by
  rw[o3,hz,toList_madeCells_one] at r1;exact r1) (Mod.below (F:=fun _=>False) (Mod.uZ r2 (fun k hk=>by cases hk)) (fun _ _ h=>h)))
 unfold Oper.wp;simp[execOp,I,hl,p,Result.andThen];exact h2
theorem Hf{rest:List Oper}{o:Oper}(J:o.guard=none){bytes:Nat}(S:d9 P t e z 1 bytes)(F:bytes<=1000)(l:Operand)(p:o.op=Op.makeSlice t l l)(n:Nat)(hn:n<=1000)(I:a.eval l=.int .i64 (n:Int))(M:z.cells=#[z])(V:∀ w',bS w fh (aZ e 1 (.slice (some ⟨w.heap.size,0,none⟩) n n) n (List.replicate n z)) w'->wpList P ops Q rest (a.put o.dst (.slice (some ⟨w.heap.size,0,none⟩) n n)) w'):wpList P ops Q (o::rest) a w:=
 wpList_plain J fun _ q=>Mg S F l p n hn I M fun w' h=>q _ _ (V w' h)
theorem mW:d9 Tryz.prog 40 3 (.int .i64 0) 1 8:=⟨Tryz.underlying40,by kernel_rfl,rfl,by decide⟩
theorem JZ:d9 Tryz.prog 75 40 (.slice none 0 0) 1 24:=⟨Tryz.underlying75,by kernel_rfl,rfl,by decide⟩
def fv(n:Nat)(f:Nat->Value):List Value:=(List.range n).map f
theorem Em(n:Nat)(f:Nat->Value):(fv n f).length=n:=by simp[fv]
theorem qg(f:Nat->Value)(h:i<n):(fv n f)[i]?=some (f i):=by simp[fv,h]
def VO(f:Nat->Value)(k:Nat)(v:Value):Nat->Value:=fun i=>if i=k then v else f i
theorem J2(n:Nat)(f:Nat->Value)(k:Nat)(v:Value):(fv n f).set k v=fv n (VO f k v):=by
 refine nB fun i=>?_;by_cases h:i<n
 ·rw[qg _ h,List.getElem?_set];by_cases e:k=i
  ·subst e;simp[Em,h,VO]
  ·have:¬ i=k:=fun h=>e h.symm;simp[e,VO,this,qg _ h]
 ·rw[Z6 (by rw[l3,Em];omega),Z6 (by rw[Em];omega)]
theorem rz{f g:Nat->Value}(h:∀ i,i<n->f i=g i):fv n f=fv n g:=Zu fun i hi=>h i (List.mem_range.1 hi)
theorem AZ(n:Nat)(v:Value):List.replicate n v=fv n (fun _=>v):=by simp[fv,List.map_const']
def jM(g n:Nat)(f:Nat->Int):CH.bq:=aZ 3 1 (.slice (some ⟨g,0,none⟩) n n) n (fv n fun i=>.int .i64 (f i))
theorem xH:(jM g n f).Ok:=cB
instance {g n:Nat} {f:Nat→Int}:(jM g n f).Ok:=xH
theorem U4(h:jM g n f w F)(q:k<n)(b:Int){T:Nat->Int}(p:∀ i,i<n->T i=if i=k then b else f i):bS w F (jM g n T) (w.setCell ⟨g,k,none⟩ (.int .i64 b)):=by
 have:=vU h (i:=k) ff (.int .i64 b);rw[J2] at this;unfold jM;rw[rz (f:=fun i=>.int .i64 (T i)) (g:=VO (fun i=>.int .i64 (f i)) k (.int .i64 b)) (fun i hi=>by unfold VO;simp only[p i hi];split<;>rfl)];exact this
theorem W9(h:jM g n f w F)(hk:k<n):w.cell? ⟨g,k,none⟩=some (.int .i64 (f k)):=mX h (qg _ hk)
theorem Rs(h:jM g n f w F)(k:Nat)(hn:0<n):w.frozen? ⟨g,k,none⟩=false:=oW h k hn
structure En(w:World)(A B G:fj)(c:Nat->Nat->Int)(d e:Nat->Int)(n m:Nat):Prop where
 n7:n<=7
 m6:m<=6
 db:∀ i,i<n->0<=d i/\d i<=10000
 eb:∀ j,j<m->0<=e j/\e j<=10000
 cb:∀ i,i<n->∀ j,j<m->0<=c i j/\c i j<=100000
 ds:Src w B n 1 (fv n fun i=>.int .i64 (d i))
 es:Src w G m 1 (fv m fun j=>.int .i64 (e j))
 rows:∃ RV:List Value,Src w A n 1 RV/\∀ i,i<n->∃ R cp,RV[i]?=some (.slice R m cp) /\
   ∀ j,j<m->∃ b' o',R=some ⟨b',o',none⟩/\∀ w',Below w.heap.size w w'->w'.cell? ⟨b',o'+j,none⟩=some (.int .i64 (c i j))
section
variable{w w':World}{A B G:fj}{c:Nat→Nat→Int}{d e:Nat→Int}{n m:Nat}
theorem vR(h:Src w B n 1 xs)(hi:i<n)(z:xs[i]?=some v):∃ b o,B=some ⟨b,o,none⟩/\∀ w',Below w.heap.size w w'->w'.cell? ⟨b,o+i,none⟩=some v:=by
 obtain⟨b,o,rfl,q⟩:=Src.open_ h ff ff;refine⟨b,o,rfl,fun w' F=>?_⟩;have p:=q i v z;rw[F.cell (YW _ _ p)];exact p
theorem En.D(h:En w A B G c d e n m)(i:Nat)(hi:i<n):∃ b o,B=some ⟨b,o,none⟩/\∀ w',Below w.heap.size w w'->w'.cell? ⟨b,o+i,none⟩=some (.int .i64 (d i)):=vR h.ds hi (qg _ hi)
theorem En.E(h:En w A B G c d e n m)(j:Nat)(hj:j<m):∃ b o,G=some ⟨b,o,none⟩/\∀ w',Below w.heap.size w w'->w'.cell? ⟨b,o+j,none⟩=some (.int .i64 (e j)):=vR h.es hj (qg _ hj)
theorem En.R(h:En w A B G c d e n m)(i:Nat)(hi:i<n):∃ b o R p,A=some ⟨b,o,none⟩/\(∀ w',Below w.heap.size w w'->w'.cell? ⟨b,o+i,none⟩=some (.slice R m p)) /\
   ∀ j,j<m->∃ z q,R=some ⟨z,q,none⟩/\∀ w',Below w.heap.size w w'->w'.cell? ⟨z,q+j,none⟩=some (.int .i64 (c i j)):=by
 obtain⟨RV,J,I⟩:=h.rows;obtain⟨R,p,M,V⟩:=I i hi;obtain⟨b,o,h5,F⟩:=vR J hi M;exact⟨b,o,R,p,h5,F,V⟩
theorem Mh(l:List Int):ints l=fv l.length (fun i=>.int .i64 (lF l i)):=by
 refine nB fun i=>?_;by_cases h:i<l.length
 ·rw[AQ h,qg _ h,yI h]
 ·rw[Z6 (by rw[AP];omega),Z6 (by rw[Em];omega)]
theorem Tm.q{D E:List Int}(h:Tm w A B G C D E n m):En w A B G (cF C) (lF D) (lF E) n m where
 n7:=by have:=h.n6;omega
 m6:=h.m6
 db:=fun i hi=>h.v.d i (by have:=h.hd;omega)
 eb:=fun i hi=>h.v.e i (by have:=h.hm;omega)
 cb:=fun i hi j M=>h.v.c i (by have:=h.hd;omega) j (by have:=h.hm;omega)
 ds:=by have:=h.vd;unfold Vec at this;rw[Mh,h.hd] at this;exact this
 es:=by have:=h.ve;unfold Vec at this;rw[Mh,h.hm] at this;exact this
 rows:=by
  obtain⟨V,z⟩:=h.mat;have F:=z.src;rw[h.hn] at F;refine⟨_,F,fun i hi=>?_⟩;have p:i<C.length:=by have:=h.hn;omega
  have I:V[i]?=some (V[i]'(by rw[z.len];exact p)):=YH _;obtain⟨h1,h2⟩:=z.row i p _ I;have hm:C[i].length=m:=by rw[h.v.row i p];exact h.hm
  refine⟨(V[i]'(by rw[z.len];exact p)).1,(V[i]'(by rw[z.len];exact p)).2,?_,fun j M=>?_⟩
  ·rw[pP,I];simp[YP,p,hm]
  ·obtain⟨b',J,g1,g2⟩:=h1.Yn ff;exact⟨b',J,g1,fun w' hb=>by rw[AY p];exact g2 w' hb j ff⟩
theorem En.below(h:En w A B G c d e n m)(p:Below w.heap.size w w'):En w' A B G c d e n m where
 n7:=h.n7
 m6:=h.m6
 db:=h.db
 eb:=h.eb
 cb:=h.cb
 ds:=aT h.ds p
 es:=aT h.es p
 rows:=by
  obtain⟨RV,V,h2⟩:=h.rows;refine⟨RV,aT V p,fun i hi=>?_⟩;obtain⟨R,cp,M,z⟩:=h2 i hi;exact⟨R,cp,M,fun j F=>by obtain⟨b',q,J,I⟩:=z j F;exact⟨b',q,J,fun w2 g=>I w2 (aG p g)⟩⟩
end
theorem Ru{U:Nat->Bool}{f:Nat->Int}{a:Int}(ha:0<=a)(hf:∀ j,j<m->0<=f j):0<=sZ U f a m:=by
 rcases zo (U:=U) (f:=f) (a:=a) (m:=m) with h|⟨j,h1,_,h2⟩
 ·omega
 ·have:=hf j h1;omega
theorem Da{B G:fj}{c:Nat->Nat->Int}{d e:Nat->Int}(h:En w A B G c d e n m){k:Nat}(J:k<=n)(U:Nat->Bool):0<=L c d e n m k U/\L c d e n m k U<=(k:Int)*10000+60000:=by
 induction k generalizing U with
 | zero=>
  have:=JY (n:=m) (f:=fun j=>if U j then 0 else e j) (a:=0) (b:=10000) (fun i hi=>by have:=h.eb i hi;split<;>omega);have:=h.m6;unfold L;omega
 | succ k ih=>
  have F:=qH (U:=U) (f:=fun j=>c (n-(k+1)) j+L c d e n m k (ins U j)) (a:=d (n-(k+1))+L c d e n m k U) (m:=m);have I:=ih ff U;have z:=h.db (n-(k+1)) ff
  have q:=Ru (U:=U) (f:=fun j=>c (n-(k+1)) j+L c d e n m k (ins U j)) (a:=d (n-(k+1))+L c d e n m k U) (m:=m) ff (fun j p=>by
   have:=ih ff (ins U j);have:=h.cb (n-(k+1)) ff j p;omega)
  show 0<=sZ _ _ _ _/\sZ _ _ _ _<=_
  rw[ma,ml];omega
section
variable{w0:World}{A B G:fj}{c:Nat→Nat→Int}{d e:Nat→Int}{n m g:Nat}{X:CH.bq}
end
def bt(s:Nat):Nat->Bool:=fun j=>s.testBit j
theorem Mi:bt 0=wI:=by funext j;simp[bt,wI]
theorem Rv(s j:Nat):bt (s ||| 1 <<< j)=ins (bt s) j:=by
 funext x;simp only[bt,ins,Nat.testBit_or,Z5,Nat.testBit_two_pow];congr 1;rw[ZH];simp;omega
theorem Rw(n:Nat)(hn:n<1000):bits .and .i64 (n:Int) 1=((n % 2:Nat):Int):=by
 have h1:∀ n:Fin 1000,bits .and .i64 ((n.val:Nat):Int) 1=((n.val % 2:Nat):Int):=by decide +kernel
 exact h1 ⟨n,hn⟩
theorem Xa(a b:Nat)(ha:a<64)(hb:b<64):bits .or .i64 (a:Int) (b:Int)=((a ||| b:Nat):Int):=by
 have h1:∀ n m:Fin 64,bits .or .i64 ((n.val:Nat):Int) ((m.val:Nat):Int)=((n.val ||| m.val:Nat):Int):=by decide +kernel
 exact h1 ⟨a,ha⟩ ⟨b,hb⟩
theorem Xb(s j:Nat):(s / 2 ^ j) % 2=if bt s j then 1 else 0:=by
 unfold bt;rw[Nat.testBit_eq_decide_div_mod_eq];have:=Nat.mod_two_eq_zero_or_one (s / 2 ^ j);by_cases h:s / 2 ^ j % 2=1
 ·simp[h]
 ·simp[h];omega
theorem J3(s j:Nat)(hs:s<128):∃ q:Nat,(s:Int) / 2 ^ j=q/\bits .and .i64 (q:Int) 1=if bt s j then 1 else 0:=by
 refine⟨s / 2 ^ j,?_,?_⟩
 ·rw[Int.natCast_ediv,s7];rfl
 ·rw[Rw _ (Nat.lt_of_le_of_lt (Nat.div_le_self _ _) ff),Xb];split<;>rfl
theorem VP(s j:Nat)(J:s<64)(I:j<6):∃ p:Nat,wrap64 (2 ^ j)=p/\IntKind.i64.wrap (2 ^ j)=p/\bits .or .i64 (s:Int) (p:Int)=((s ||| 1 <<< j:Nat):Int):=by
 have h:1 <<< j<64:=by
  rw[Z5];exact Nat.pow_lt_pow_right fW I (a:=2)
 have F:(2:Int) ^ j=((1 <<< j:Nat):Int):=by rw[Z5,s7];rfl
 have z:∀ q:Nat,q<64->IntKind.i64.wrap (q:Int)=q:=fun q hq=>YZ _ ff;refine⟨1 <<< j,?_,?_,Xa s _ J h⟩
 ·rw[<-IntWalk.i64_left,F];exact z _ h
 ·rw[F];exact z _ h
theorem Xc(m:Nat)(hm:m<=6):wrap64 (2 ^ m)=((1 <<< m:Nat):Int):=by
 have z:1 <<< m<=64:=by
  rw[Z5];exact Nat.pow_le_pow_right fW hm (n:=2)
 have p:(2:Int) ^ m=((1 <<< m:Nat):Int):=by rw[Z5,s7];rfl
 have h:∀ q:Nat,q<=64->IntKind.i64.wrap (q:Int)=q:=fun q hq=>YZ _ ff;rw[<-IntWalk.i64_left,p];exact h _ z
def jL(g n:Nat)(f:Nat->Int):CH.bq:=aZ 127 64 (.slice (some ⟨g,0,none⟩) n n) n (fv (n*64) fun i=>.int .i64 (f i))
variable{M s:Nat}{f':Nat->Int}{W:World}
theorem lH:(jL g n f).Ok:=cB
instance {g n:Nat} {f:Nat→Int}:(jL g n f).Ok:=lH
theorem oN(h:∀ i,i<n*64->f i=f' i):jL g n f=jL g n f':=by
 unfold jL;rw[rz (fun i hi=>by rw[h i hi])]
def qF(f:Nat->Int)(p:Nat)(v:Int):Nat->Int:=fun x=>if x=p then v else f x
theorem Uz(h:jL g n f w F)(p:k<n*64)(b:Int):bS w F (jL g n (qF f k b)) (w.setCell ⟨g,k,none⟩ (.int .i64 b)):=by
 have:=vU h (i:=k) p (.int .i64 b);rw[J2] at this;unfold jL;rw[rz (f:=fun i=>.int .i64 (qF f k b i)) (g:=VO (fun i=>.int .i64 (f i)) k (.int .i64 b)) (fun i hi=>by unfold VO qF;split<;>rfl)];exact this
theorem uF(h:jL g n f w F)(hk:k<n*64):w.cell? ⟨g,k,none⟩=some (.int .i64 (f k)):=mX h (qg _ hk)
theorem GJ(h:jL g n f w F)(k:Nat)(hn:0<n):w.frozen? ⟨g,k,none⟩=false:=oW h k hn
theorem Q0(n:Nat):(madeCells (Array.replicate 64 (Value.int .i64 0)) (n*64)).toList=fv (n*64) (fun _=>.int .i64 0):=by
 unfold fv;simp only[madeCells,Array.toList_map,Array.toList_range];refine Zu fun i _=>?_;have:i % (Array.replicate 64 (Value.int .i64 0)).size<(Array.replicate 64 (Value.int .i64 0)).size:=by
  simp;omega
 simp only[getElem!_def];rw[ZW this];simp
theorem UA:d9 Tryz.prog 124 127 (.agg (Array.replicate 64 (.int .i64 0))) 64 512:=⟨Tryz.underlying124,by kernel_rfl,by decide,by decide⟩
theorem Ef{rest:List Oper}{o:Oper}(M:o.guard=none)(l:Operand)(q:o.op=Op.makeSlice 124 l l)(n:Nat)(hn:n<=1000)(J:a.eval l=.int .i64 (n:Int))(hK:∀ w',bS w fh (jL w.heap.size n (fun _=>0)) w'->wpList Tryz.prog ops Q rest (a.put o.dst (.slice (some ⟨w.heap.size,0,none⟩) n n)) w'):wpList Tryz.prog ops Q (o::rest) a w:=by
 obtain⟨ht,hi,V,aa⟩:=UA;obtain⟨i,hi,p,I,z⟩:=info_parts hi;refine wpList_make_full w M l l 124 q w.heap.size 127 i _ 64 ht hi p I .i64 .i64 n n n J J rfl rfl (by rw[z];omega) (by simp only[maxLen];omega) (YG _) (fun w' h1 h2=>?_);refine hK w' (sJ ?_ (Mod.below (F:=fun _=>False) (Mod.uZ h2 (fun k hk=>by cases hk)) (fun _ _ h=>h)));rw[<-Q0];exact h1
section
variable{w:World}{A B G:fj}{c:Nat→Nat→Int}{d e:Nat→Int}{n m:Nat}
def TB(c:Nat->Nat->Int)(d e:Nat->Int)(n m r s:Nat):Int:=L c d e n m (n-r) (bt s)
def jo(c:Nat->Nat->Int)(d e:Nat->Int)(n m M i k:Nat):Nat->Int:=fun x=>if x % 64<M/\(i<x / 64\/(x / 64=i/\x % 64<k)) then TB c d e n m (x / 64) (x % 64) else 0
theorem Oo{x:Nat}(hx:x<(n+1)*64):jo c d e n m M n 0 x=0:=by
 unfold jo;rw[if_neg ff]
theorem GK(z:M<=64)(F:k<M)(x:Nat):qF (jo c d e n m M i k) (i*64+k) (TB c d e n m i k) x=jo c d e n m M i (k+1) x:=by
 unfold qF jo;by_cases e:x=i*64+k
 ·have q:x / 64=i:=by omega
  have p:x % 64=k:=by omega
  rw[if_pos e,if_pos ff,q,p]
 ·rw[if_neg e];by_cases h:x % 64<M/\(i<x / 64\/(x / 64=i/\x % 64<k))
  ·rw[if_pos h,if_pos ff]
  ·rw[if_neg h,if_neg ff]
theorem Oq(x:Nat):jo c d e n m M (i+1) M x=jo c d e n m M i 0 x:=by
 unfold jo;by_cases h:x % 64<M/\(i+1<x / 64\/(x / 64=i+1/\x % 64<M))
 ·rw[if_pos h,if_pos ff]
 ·rw[if_neg h,if_neg ff]
theorem sH{r:Nat}(hM:M<=64)(hs:s<M)(h:i<r\/(r=i/\s<k)):jo c d e n m M i k (r*64+s)=TB c d e n m r s:=by
 unfold jo;have h1:(r*64+s) / 64=r:=by omega
 have h2:(r*64+s) % 64=s:=by omega
 rw[h1,h2,if_pos ⟨hs,h⟩]
theorem CW(hM:M<=64)(hk:k<M):jo c d e n m M i k (i*64+k)=0:=by
 unfold jo;rw[if_neg ff]
theorem Ot(f:Nat->Int)(p x:Nat):qF f p (f p) x=f x:=by
 unfold qF;split
 ·rename_i h;rw[h]
 ·rfl
theorem Ou(f:Nat->Int)(p:Nat)(a b:Int)(x:Nat):qF (qF f p a) p b x=qF f p b x:=by
 unfold qF;split<;>rfl
theorem UC(f:Nat->Int)(p:Nat)(a:Int):qF f p a p=a:=by simp[qF]
theorem UD(s:Nat):TB c d e n m n s=sg m (fun j=>if bt s j then 0 else e j):=by unfold TB;rw[ZF];rfl
theorem WO(hi:i<n)(s:Nat):TB c d e n m i s=sZ (bt s) (fun j=>c i j+TB c d e n m (i+1) (s ||| 1 <<< j)) (d i+TB c d e n m (i+1) s) m:=by
 unfold TB;have h1:n-i=(n-(i+1))+1:=by omega
 rw[h1,L];have h2:n-(n-(i+1)+1)=i:=by omega
 rw[h2];exact BU (fun j _=>by rw[Rv]) (fun _ _=>rfl)
def Q5(w:World)(c:Nat->Nat->Int)(d e:Nat->Int)(n m:Nat)(en:Ending)(w':World):Prop:=
 ∃ g,en=.returned (.slice (some ⟨g,0,none⟩) (n+1) (n+1))/\bS w fh (jL g (n+1) (jo c d e n m (1 <<< m) 0 (1 <<< m))) w'
theorem LX{X:CH.bq}{N:Nat}(h:aI fh w (jL g N f) W){p:Nat}(hp:p<N*64)(v:Int)(hf:∀ x,qF f p v x=f' x):aI fh w (jL g N f') (W.setCell ⟨g,p,none⟩ (.int .i64 v)):=by
 obtain⟨F1,h1,bk⟩:=h.all lH;have:=bk _ _ (Uz h1 hp v)
 rwa [oN (fun x _=>hf x)] at this
theorem Q6{m j:Nat}(hm:m<=6)(hs:s<1 <<< m)(hj:j<m):s ||| 1 <<< j<1 <<< m:=by
 rw[Z5] at *
 rw[Z5];exact Nat.or_lt_two_pow hs (Nat.pow_lt_pow_right fW hj)
theorem Q7{m:Nat}(hm:m<=6):1 <<< m<=64:=by
 rw[Z5];exact Nat.pow_le_pow_right fW hm
theorem CX(hq:En w A B G c d e n m)(ca cb cg:Nat):
  Calls Tryz.prog 59 #[.slice A n ca,.slice B n cb,.slice G m cg] w (Q5 w c d e n m):=by
 have HQ:=au hq;have bj:=hq.n7;have ae:=hq.m6;clear hq;have hM:=Q7 ae;have a2:=au (fun s j hs hj=>Q6 (m:=m) (s:=s) (j:=j) ae hs hj);have a6:=Xc m ae;have ax:=au (show ∀ (g:Nat) w',aI fh w (jL g (n+1) (jo c d e n m (1 <<< m) 0 (1 <<< m))) w'->Q5 w c d e n m (.returned (.slice (some ⟨g,0,none⟩) (n+1) (n+1))) w' from fun g w' h=>⟨g,rfl,h.post lH⟩);generalize 1 <<< m=M at *
 go_enter Tryz.func59,Tryz.ntmps59
 go_wp2_with (refine Ef rfl (.tmp 18) rfl (n+1) ff (by simp[Act.eval]) ?_;refine held ?_);refine ia.mk fun w1 aD=>?_;have R1:=au (((aI.begin w).fresh aO aD).imp fun _ _ h=>jD h);clear aD;generalize hg:w.heap.size=g at *
 rw[oN (f:=fun _=>0) (f':=jo c d e n m M n 0) (fun x hx=>(Oo hx).symm)] at R1;go_wp2;go_loopw [23] (fun i wr=>∃ k:Nat,k<=M/\i=.int .i64 k/\aI fh w (jL g (n+1) (jo c d e n m M n k)) wr) (fun i _=>M-(intOf i).toNat)
 case atStart=>exact⟨0,YE _,rfl,R1.o⟩
 case round=>
  obtain⟨k,hk,rfl,I⟩:=hrel;have HR:=au I;clear I R1;by_cases ad:k<M
  ·have R2:Hid (aI fh w (jL g (n+1) (qF (jo c d e n m M n k) (n*64+k) 0)) wr):=au (by
    rw[oN (f':=jo c d e n m M n k) (fun x _=>by rw[<-CW (c:=c) (d:=d) (e:=e) (n:=n) (m:=m) (i:=n) hM ad,Ot])]
    exact HR.o)
   go_wp2;go_loopw [28] (fun x wr=>∃ j:Nat,j<=m/\x=.int .i64 j/\aI fh w (jL g (n+1) (qF (jo c d e n m M n k) (n*64+k) (sg j (fun j=>if bt k j then 0 else e j)))) wr) (fun x _=>m-(intOf x).toNat)
   case atStart=>exact⟨0,YE _,rfl,R2.o⟩
   case round=>
    obtain⟨j,hj,rfl,I⟩:=hrel;have V:=au I
    have bb:=JY (n:=j) (f:=fun j=>if bt k j then 0 else e j) (a:=0) (b:=10000) (fun i hi=>by
     have:=HQ.o.eb i ff
     split<;>omega)
    clear HR R2;by_cases ab:j<m
    ·obtain⟨be,oe,rfl,aA⟩:=HQ.o.E j ab;have bh:=HQ.o.eb j ab;have c0:=aA _ I.bN;obtain⟨q,a4,J⟩:=J3 k j ff;have HS:=au (dN (n:=j) (f:=fun j=>if bt k j then 0 else e j));generalize e j=y at *
     generalize sg j (fun j=>if bt k j=true then 0 else e j)=z at *
     clear aA;cases hu:bt k j with
     | true=>
      rw[hu] at J HS;simp only[if_true] at J;clear hu I;go_wp2
      go_roundw
      case rel=>exact⟨j+1,by omega,by go_num,by rw[HS.o];simpa using V.o⟩
      case measure=>simp[intOf];omega
     | false=>
      rw[hu] at J HS;simp only[ZG,if_false] at J;have R4:=I.drew lH;obtain⟨F,hF⟩:=R4.get;have c1:=uF hF (k:=n*64+k) ff;rw[UC] at c1;have aq:=GJ hF (n*64+k) ff;have R5:=au (LX (X:=aS) R4 (p:=n*64+k) ff (z+y) (f':=qF (jo c d e n m M n k) (n*64+k) (z+y)) (fun x=>Ou _ _ _ _ _));have a9:(k:Int)<64:=by omega
      have tn:(n:Int)<(n:Int)+1:=by omega
      have t1:IntKind.i64.wrap (z+y)=z+y:=YZ _ ff;clear hu hF R4 I;go_wp2_with fail;refine gu (fun w'=>w'=wr.drew) fi fi fi rfl ?_;generalize wr.drew=wd at *
      (repeat(first|refine uX ?_|refine uY ?_))
      refine kY rfl ft (fun K hK=>?_);go_wp2_with fail;refine hK.o _ _ ?_;clear hK c1 aq;go_wp2
      go_roundw
      case rel=>exact⟨j+1,by omega,by go_num,by rw[HS.o];simpa using R5.o⟩
      case measure=>simp[intOf];omega
    ·obtain rfl:j=m:=by omega
     have R6:Hid (aI fh w (jL g (n+1) (jo c d e n j M n (k+1))) wr):=au (by
      rw[<-oN (f:=qF (jo c d e n j M n k) (n*64+k) (TB c d e n j n k)) (fun x _=>GK hM ad x),UD]
      exact V.o)
     clear V I;go_wp2
     go_roundw
     case rel=>exact⟨k+1,by omega,by go_num,R6.o⟩
     case measure=>simp[intOf];omega
  ·obtain rfl:k=M:=by omega
   clear ad;go_wp2;go_loopw [11] (fun x wr=>∃ (a:Nat) (x0:Int),a<=n/\x=.int .i64 x0/\x0=(a:Int)-1/\aI fh w (jL g (n+1) (jo c d e n m k a k)) wr) (fun x _=>(intOf x+1).toNat)
   case atStart=>exact⟨n,(n:Int)-1,YG _,by go_num,rfl,HR.o⟩
   case round=>
    obtain⟨a,x0,ha,rfl,az,I⟩:=hrel;have V:=au I;clear HR I;cases a with
    | zero=>
     have tx:¬ 0<=x0:=by omega
     clear az;go_wp2;go_ret;exact ax.o _ _ V.o
    | succ i=>
     obtain rfl:x0=(i:Int):=by omega
     have R4:Hid (aI fh w (jL g (n+1) (jo c d e n m k i 0)) wr):=au (by
      rw[<-oN (fun x _=>Oq x)];exact V.o)
     clear V az;go_wp2;go_loopw [61] (fun x wr=>∃ s:Nat,s<=k/\x=.int .i64 s/\aI fh w (jL g (n+1) (jo c d e n m k i s)) wr) (fun x _=>k-(intOf x).toNat)
     case atStart=>exact⟨0,YE _,rfl,R4.o⟩
     case round=>
      obtain⟨s,hs,rfl,I⟩:=hrel;have ap:=au I;clear R4;by_cases ac:s<k
      ·have R6:=I.drew lH;have ag:=au R6;obtain⟨bd,od,rfl,al⟩:=HQ.o.D i ff;have bf:=HQ.o.db i ff;have c0:=al _ R6.bN;obtain⟨F,hF⟩:=R6.get;have c1:=uF hF (k:=(i+1)*64+s) ff;rw[sH hM ac (.inl ff)] at c1;have bk:0<=TB c d e n m (i+1) s/\TB c d e n m (i+1) s<=200000:=by
        have:=Da HQ.o (show n-(i+1)<=n by omega) (bt s);unfold TB;omega
       have af:i<n:=by omega
       have a7:(s:Int)<64:=by omega
       have ti:(0:Int)<=(i:Int)+1:=by omega
       have t1:IntKind.i64.wrap ((i:Int)+1)=((i+1:Nat):Int):=by rw[YZ _ ff];omega
       have t2:IntKind.i64.wrap (d i+TB c d e n m (i+1) s)=d i+TB c d e n m (i+1) s:=YZ _ ff;have a1:=au (WO (c:=c) (d:=d) (e:=e) (m:=m) (show i<n by omega) s);clear hF al I R6 ap;go_wp2_with fail;refine aK (fun w'=>w'=wr.drew) fi fi rfl ?_;generalize wr.drew=wd at *
       (repeat(first|refine aW ?_|refine aX ?_))
       refine lex_nil ?_;clear t1 t2 c0 c1 ti;obtain⟨ba,oa,R,cR,rfl,ak,aa⟩:=HQ.o.R i af;have c2:=ak _ ag.o.bN;clear ak;go_wp2;go_loopw [13,81] (fun b x wr=>∃ j:Nat,j<=m/\b=.int .i64 (sZ (bt s) (fun j=>c i j+TB c d e n m (i+1) (s ||| 1 <<< j)) (d i+TB c d e n m (i+1) s) j)/\x=.int .i64 j/\aI fh w (jL g (n+1) (jo c d e n m k i s)) wr) (fun _ x _=>m-(intOf x).toNat)
       case atStart=>exact⟨0,YE _,by simp[sZ],rfl,ag.o⟩
       case round=>
        obtain⟨j,hj,rfl,rfl,I⟩:=hrel;have aw:=au I;clear ag;by_cases ab:j<m
        ·obtain⟨b',o',rfl,an⟩:=aa j ab;have c3:=an _ I.bN;have bm:=HQ.o.cb i af j ab;have ai:=qH (U:=bt s) (f:=fun j=>c i j+TB c d e n m (i+1) (s ||| 1 <<< j)) (a:=d i+TB c d e n m (i+1) s) (m:=j)
         have ar:=Ru (U:=bt s) (f:=fun j=>c i j+TB c d e n m (i+1) (s ||| 1 <<< j)) (a:=d i+TB c d e n m (i+1) s) (m:=j) ff (fun t ht=>by
          have:=Da HQ.o (show n-(i+1)<=n by omega) (bt (s ||| 1 <<< t));have:=HQ.o.cb i af t ff;unfold TB;omega)
         have HS:=au (show sZ (bt s) (fun j=>c i j+TB c d e n m (i+1) (s ||| 1 <<< j)) (d i+TB c d e n m (i+1) s) (j+1)=if bt s j then sZ (bt s) (fun j=>c i j+TB c d e n m (i+1) (s ||| 1 <<< j)) (d i+TB c d e n m (i+1) s) j else min (sZ (bt s) (fun j=>c i j+TB c d e n m (i+1) (s ||| 1 <<< j)) (d i+TB c d e n m (i+1) s) j) (c i j+TB c d e n m (i+1) (s ||| 1 <<< j)) from rfl);generalize sZ (bt s) (fun j=>c i j+TB c d e n m (i+1) (s ||| 1 <<< j)) (d i+TB c d e n m (i+1) s) j=q at *
         obtain⟨z,a4,J⟩:=J3 s j ff;have a8:=au aa;clear an aa;cases hu:bt s j with
         | true=>
          rw[hu] at J HS;simp only[if_true] at J;clear hu I ai ar;go_wp2
          go_roundw
          case rel=>exact⟨j+1,by omega,by rw[HS.o];simp,by go_num,aw.o⟩
          case measure=>simp[intOf];omega
         | false=>
          rw[hu] at J HS;simp only[ZG,if_false] at J;obtain⟨p,a5,a0,aE⟩:=VP s j ff ff;have am:=a2.o s j ac ab;have bi:0<=TB c d e n m (i+1) (s ||| 1 <<< j)/\TB c d e n m (i+1) (s ||| 1 <<< j)<=200000:=by
           have:=Da HQ.o (show n-(i+1)<=n by omega) (bt (s ||| 1 <<< j));unfold TB;omega
          have R8:=I.drew lH;have a3:=au R8;obtain⟨F,hF⟩:=R8.get;have c4:=uF hF (k:=(i+1)*64+(s ||| 1 <<< j)) ff;rw[sH hM am (.inl ff)] at c4;generalize s ||| 1 <<< j=so at *
          generalize TB c d e n m (i+1) so=T at *
          have ao:=au (show min q (c i j+T)=if c i j+T<q then c i j+T else q by omega);have t1:IntKind.i64.wrap ((i:Int)+1)=((i+1:Nat):Int):=by rw[YZ _ ff];omega
          have t2:IntKind.i64.wrap (c i j+T)=c i j+T:=YZ _ ff;have ti:(0:Int)<=(i:Int)+1:=by omega
          have ts:(so:Int)<64:=by omega
          clear hu I hF R8 ai ar c2;go_wp2_with fail;refine aK (fun w'=>w'=wr.drew) fi fi rfl ?_;generalize wr.drew=wd at *
          (repeat(first|refine aW ?_|refine aX ?_))
          refine lex_nil ?_;clear t1 t2 ti ts c4 a5 a0 aE;go_wp2
          go_roundw
          case rel=>exact⟨j+1,by omega,by rw[HS.o];first|(rw[<-ao.o];rfl)|(simp),by go_num,a3.o⟩
          case measure=>simp[intOf];omega
        ·obtain rfl:j=m:=by omega
         obtain⟨F,hF⟩:=I.get;have c1:=uF hF (k:=i*64+s) ff;rw[CW hM ac] at c1;have aq:=GJ hF (i*64+s) ff;rw[<-a1.o];have R9:=au (LX (X:=aS) I (p:=i*64+s) ff (TB c d e n j i s) (fun x=>GK hM ac x));have bc:(i:Int)<(n:Int)+1:=by omega
         clear hF I aa aw;go_wp2
         go_roundw
         case rel=>exact⟨s+1,by omega,by go_num,R9.o⟩
         case measure=>simp[intOf];omega
      ·obtain rfl:s=k:=by omega
       clear I;go_wp2
       go_roundw
       case rel=>exact⟨i,(i:Int)-1,by omega,rfl,rfl,ap.o⟩
       case measure=>simp[intOf];try omega
end
theorem AU{base:Nat}{size:Nat}{cur:Array Value}(hb:base<=g)(h:w.heap[g]?=some (.cells cur e (0,0)))(hs:cur.size=c*size)(hc:c<=maxLen):w.ownsRow base e size (.slice (some ⟨g,0,none⟩) 0 c) 0 []:=by
 refine⟨by simp,.inr ⟨g,c,cur,rfl,hb,h,YE _,?_⟩⟩;simp[hs,hc]
theorem size_zeroCells(z:Value)(n:Nat)(hz:z.cells=#[z]):(Builtin.zeroCells z.cells n).size=n:=by
 simp[Builtin.zeroCells,hz]
def xE(w:World)(e:TypeId)(n:Nat)(xs:List Value)(en:Ending)(w':World):Prop:=∃ A c,en=.returned (.slice A n c)/\bS w fh (aZ e 1 (.slice A n c) n xs) w'
structure Ov(w:World)(A:fj)(R:List (List Value))(V:List (fj × Nat)):Prop where
 len:V.length=R.length
 src:Src w A R.length 1 (V.mapIdx fun i x=>.slice x.1 (R.getD i []).length x.2)
 row:∀ i (hi:i<R.length) x,V[i]?=some x->Src w x.1 R[i].length 1 R[i]
theorem Ov.at{R:List (List Value)}(h:Ov w A R V)(hn:0<R.length):
  ∃ b o,A=some ⟨b,o,none⟩/\∀ j (p:j<R.length),∃ B c,Src w B R[j].length 1 R[j]/\∀ w',Below w.heap.size w w'->w'.cell? ⟨b,o+j,none⟩=some (.slice B R[j].length c):=by
 obtain⟨b,o,rfl,F⟩:=Src.open_ h.src hn ff;refine⟨b,o,rfl,fun j p=>?_⟩;have z:V[j]?=some (V[j]'(by rw[h.len];exact p)):=YH _;have I:=h.row j p _ z;refine⟨_,(V[j]'(by rw[h.len];exact p)).2,I,fun w' J=>?_⟩
 have q:=F j (.slice (V[j]'(by rw[h.len];exact p)).1 R[j].length (V[j]'(by rw[h.len];exact p)).2) (by
  rw[pP,z]
  simp[YP,p])
 rw[J.cell (YW _ _ q)];exact q
def fl(R:List (List Value))(k:Nat):List Value:=(R.take k).flatten
def jj(R:List (List Value)):List Value:=R.flatten
theorem Q8(R:List (List Value)):fl R R.length=jj R:=by unfold fl jj;rw[YO]
theorem jP{R:List (List Value)}{k:Nat}(h:k<R.length):fl R (k+1)=fl R k++R[k]:=by
 unfold fl;rw[YD h,mS];simp
theorem LY{R:List (List Value)}(k:Nat):(fl R k).length<=(jj R).length:=by
 unfold fl jj;have:=congrArg (fun l=>l.flatten.length) (ZK k R);simp only[mS,Yz] at this;omega
theorem BL.x(h:BL w A C V):Ov w A (C.map ints) V where
 len:=by rw[h.len,YI]
 src:=by
  rw[YI];have e:(fun i (x:fj × Nat)=>Value.slice x.1 ((C.map ints).getD i []).length x.2)=fun i x=>Value.slice x.1 (C.getD i []).length x.2:=by
   funext i x;by_cases hi:i<C.length
   ·simp[YP,hi,AP]
   ·simp[YP,hi]
  rw[e];exact h.src
 row:=fun i hi x z=>by
  have p:i<C.length:=by simpa using hi
  have q:=(h.row i p x z).1;have e:(C.map ints)[i]=ints C[i]:=by simp
  rw[e,AP];exact q
theorem Ow(k:Nat)(ab:k<=1000)(w:World):Calls Tryz.prog 103 #[.slice none 0 0,.int .i64 k] w (xE w 3 0 []):=by
 by_cases hk:0<k
 case neg=>
  obtain rfl:k=0:=by omega
  go_enter Tryz.func103,Tryz.ntmps103
  go_wp2;go_ret;exact⟨none,0,rfl,fh,fZ _ _ _,Mod.refl _ _,fun i hi=>hi.elim⟩
 obtain⟨M,hi,z,aa⟩:=mW;obtain⟨i,hi,p,F,q⟩:=info_parts hi;have V:=fun ty=>Lib.run_append_nil_zeros (P:=Tryz.prog) w 40 3 ty 3 i (Value.int .i64 0) .i64 .i64 M Tryz.underlying3 hi p k hk ff ff (by rw[q];omega);have J:=grownCap_ge w k 0 3;have h:=grownCap_le_maxLen w k 0 3 (by unfold maxLen;omega);have HP:Hid (bS w fh (aZ 3 1 (.slice (some ⟨w.heap.size,0,none⟩) 0 (grownCap w k 0 3)) 0 []) (w.drew.alloc (.cells (Builtin.zeroCells (Value.int .i64 0).cells k++Builtin.zeroCells (Value.int .i64 0).cells (grownCap w k 0 3-k)) 3))):=by
  refine au (sJ (AU (YG _) (heap_alloc_new _ _) ?_ h) ((dO (YC _ _)).alloc (YG _) _));rw[Array.size_append,size_zeroCells _ _ rfl,size_zeroCells _ _ rfl];omega
 generalize grownCap w k 0 3=cap at *
 have I:cap<=9223372036854775807:=h;clear hi p F q z M h
 go_enter Tryz.func103,Tryz.ntmps103
 go_wp2_with (at_builtin;refine Lib.wpList_append_run _ rfl _ _ _ _ rfl _ _ rfl rfl _ _ (V _) ?_;refine held ?_);refine ia.mk ?_;go_wp2;go_ret;exact⟨_,_,rfl,HP.o⟩
theorem Ox(k:Nat)(ab:k<=1000)(w:World):Calls Tryz.prog 102 #[.slice none 0 0,.int .i64 k] w (xE w 40 0 []):=by
 by_cases hk:0<k
 case neg=>
  obtain rfl:k=0:=by omega
  go_enter Tryz.func102,Tryz.ntmps102
  go_wp2;go_ret;exact⟨none,0,rfl,fh,fZ _ _ _,Mod.refl _ _,fun i hi=>hi.elim⟩
 obtain⟨M,hi,z,aa⟩:=JZ;obtain⟨i,hi,p,F,q⟩:=info_parts hi;have V:=fun ty=>Lib.run_append_nil_zeros (P:=Tryz.prog) w 75 3 ty 40 i (Value.slice none 0 0) .i64 .i64 M Tryz.underlying3 hi p k hk ff ff (by rw[q];omega);have J:=grownCap_ge w k 0 40;have h:=grownCap_le_maxLen w k 0 40 (by unfold maxLen;omega);have HP:Hid (bS w fh (aZ 40 1 (.slice (some ⟨w.heap.size,0,none⟩) 0 (grownCap w k 0 40)) 0 []) (w.drew.alloc (.cells (Builtin.zeroCells (Value.slice none 0 0).cells k++Builtin.zeroCells (Value.slice none 0 0).cells (grownCap w k 0 40-k)) 40))):=by
  refine au (sJ (AU (YG _) (heap_alloc_new _ _) ?_ h) ((dO (YC _ _)).alloc (YG _) _));rw[Array.size_append,size_zeroCells _ _ rfl,size_zeroCells _ _ rfl];omega
 generalize grownCap w k 0 40=cap at *
 have I:cap<=9223372036854775807:=h;clear hi p F q z M h
 go_enter Tryz.func102,Tryz.ntmps102
 go_wp2_with (at_builtin;refine Lib.wpList_append_run _ rfl _ _ _ _ rfl _ _ rfl rfl _ _ (V _) ?_;refine held ?_);refine ia.mk ?_;go_wp2;go_ret;exact⟨_,_,rfl,HP.o⟩
theorem GL{R:List (List Value)}(h:Ov w A R V)(h1:R.length<=1000)(h2:(jj R).length<=1000):
  Calls Tryz.prog 62 #[.slice A R.length c] w (xE w 3 (jj R).length (jj R)):=by
 have HA:=au h;have z:=au (fun k=>LY (R:=R) k);obtain⟨n,hn⟩:∃ n,n=R.length:=⟨_,rfl⟩;have HN:=au hn;rw[<-hn] at h1;rw[<-hn];clear h hn
 go_enter Tryz.func62,Tryz.ntmps62
 go_wp2
 go_loop [3,11] (fun s i=>∃ k:Nat,k<=n/\s=.int .i64 (((fl R k).length:Nat):Int)/\i=.int .i64 k) (fun _ i=>n-(intOf i).toNat)
 case atStart=>exact⟨0,YE _,rfl,rfl⟩
 case round=>
  obtain⟨k,hk,rfl,rfl⟩:=hrel;by_cases ai:k<n
  ·have aa:k<R.length:=by rw[<-HN.o];exact ai
   obtain⟨b,o,rfl,hc⟩:=HA.o.at ff;obtain⟨B,cp,-,p⟩:=hc k aa;have c0:=p _ (YC _ _);have al:=z.o k;have J:=z.o (k+1);rw[jP aa,Yz] at J;have HT:=au (show(fl R (k+1)).length=(fl R k).length+R[k].length by rw[jP aa,Yz]);generalize (fl R k).length=s at *
   generalize R[k].length=t at *
   clear hc p;go_wp2
   go_round
   case rel=>exact⟨k+1,by omega,by rw[HT.o];go_num,by go_num⟩
   case measure=>simp[intOf];omega
  ·obtain rfl:k=n:=by omega
   have HT:=au (show(fl R k)=(jj R) by rw[HN.o,Q8]);rw[HT.o];have KG:=au (Ow (jj R).length h2 w);go_wp2_with fail;refine KG.o.mono ?_;rintro e w1 ⟨A1,c1,rfl,hP⟩;have HR:=au (((aI.begin w).fresh aO hP).imp fun _ _ h=>jD h);clear KG hP;go_wp2;go_loopw [6,27] (fun v i wr=>∃ (j:Nat) (B:fj) (d:Nat),j<=k/\v=.slice B (fl R j).length d/\i=.int .i64 j/\aI fh w (aZ 3 1 (.slice B (fl R j).length d) (fl R j).length (fl R j)) wr) (fun _ i _=>k-(intOf i).toNat)
   case atStart=>exact⟨0,_,_,YE _,rfl,rfl,HR.o⟩
   case round=>
    obtain⟨j,B,d,hj,rfl,rfl,hR⟩:=hrel;have q:=au hR;clear HR;by_cases ak:j<k
    ·have M:j<R.length:=by rw[<-HN.o];exact ak
     obtain⟨b,o,rfl,hc⟩:=HA.o.at ff;obtain⟨B2,cp,F,p⟩:=hc j M;have c0:=p _ hR.bN;have HS:=au (aT F hR.bN);have al:=z.o j;have J:=z.o (j+1);rw[jP M,Yz] at J;have ad:=au (jP M);generalize (fl R j)=xs at *
     generalize R[j]=ys at *
     clear hc p F hR;go_wp2_with (at_builtin;refine held ?_);obtain⟨F7,ab,ae⟩:=q.o.all cB;refine ia.mk (iY rfl (.tmp 31) (.tmp 32) rfl mW _ 0 (v:=.slice B xs.length d) (n:=xs.length) (xs:=xs) rfl ab.1 (A:=B2) (m:=ys.length) (c:=cp) (news:=ys) rfl HS.o ff fW (YE _) ?_);intro v8 w8 I af ac;have S8:=ae _ _ (iy ab I af ac);obtain⟨A8,c8,rfl⟩:=fV I;rw[<-Yz,<-ad.o] at S8;have ag:=au S8;have e9:xs.length+ys.length=(fl R (j+1)).length:=by rw[ad.o,Yz]
     rw[e9];clear I af ac ae ab HS S8 q e9;go_wp2
     go_roundw
     case rel=>exact⟨j+1,A8,c8,by omega,rfl,by go_num,ag.o⟩
     case measure=>simp[intOf];omega
    ·obtain rfl:j=k:=by omega
     rw[HT.o] at q;rw[HT.o];clear hR;go_wp2;go_ret;exact⟨B,d,rfl,q.o.post cB |> fun h=>h⟩
theorem GN{R:List (List Value)}(h:Ov w A R V)(h1:R.length<=1000)(h2:(jj R).length<=1000):
  Calls Tryz.prog 61 #[.slice A R.length c] w (xE w 40 (jj R).length (jj R)):=by
 have HA:=au h;have z:=au (fun k=>LY (R:=R) k);obtain⟨n,hn⟩:∃ n,n=R.length:=⟨_,rfl⟩;have HN:=au hn;rw[<-hn] at h1;rw[<-hn];clear h hn
 go_enter Tryz.func61,Tryz.ntmps61
 go_wp2
 go_loop [3,11] (fun s i=>∃ k:Nat,k<=n/\s=.int .i64 (((fl R k).length:Nat):Int)/\i=.int .i64 k) (fun _ i=>n-(intOf i).toNat)
 case atStart=>exact⟨0,YE _,rfl,rfl⟩
 case round=>
  obtain⟨k,hk,rfl,rfl⟩:=hrel;by_cases ai:k<n
  ·have aa:k<R.length:=by rw[<-HN.o];exact ai
   obtain⟨b,o,rfl,hc⟩:=HA.o.at ff;obtain⟨B,cp,-,p⟩:=hc k aa;have c0:=p _ (YC _ _);have al:=z.o k;have J:=z.o (k+1);rw[jP aa,Yz] at J;have HT:=au (show(fl R (k+1)).length=(fl R k).length+R[k].length by rw[jP aa,Yz]);generalize (fl R k).length=s at *
   generalize R[k].length=t at *
   clear hc p;go_wp2
   go_round
   case rel=>exact⟨k+1,by omega,by rw[HT.o];go_num,by go_num⟩
   case measure=>simp[intOf];omega
  ·obtain rfl:k=n:=by omega
   have HT:=au (show(fl R k)=(jj R) by rw[HN.o,Q8]);rw[HT.o];have KG:=au (Ox (jj R).length h2 w);go_wp2_with fail;refine KG.o.mono ?_;rintro e w1 ⟨A1,c1,rfl,hP⟩;have HR:=au (((aI.begin w).fresh aO hP).imp fun _ _ h=>jD h);clear KG hP;go_wp2;go_loopw [6,27] (fun v i wr=>∃ (j:Nat) (B:fj) (d:Nat),j<=k/\v=.slice B (fl R j).length d/\i=.int .i64 j/\aI fh w (aZ 40 1 (.slice B (fl R j).length d) (fl R j).length (fl R j)) wr) (fun _ i _=>k-(intOf i).toNat)
   case atStart=>exact⟨0,_,_,YE _,rfl,rfl,HR.o⟩
   case round=>
    obtain⟨j,B,d,hj,rfl,rfl,hR⟩:=hrel;have q:=au hR;clear HR;by_cases ak:j<k
    ·have M:j<R.length:=by rw[<-HN.o];exact ak
     obtain⟨b,o,rfl,hc⟩:=HA.o.at ff;obtain⟨B2,cp,F,p⟩:=hc j M;have c0:=p _ hR.bN;have HS:=au (aT F hR.bN);have al:=z.o j;have J:=z.o (j+1);rw[jP M,Yz] at J;have ad:=au (jP M);generalize (fl R j)=xs at *
     generalize R[j]=ys at *
     clear hc p F hR;go_wp2_with (at_builtin;refine held ?_);obtain⟨F7,ab,ae⟩:=q.o.all cB;refine ia.mk (iY rfl (.tmp 31) (.tmp 32) rfl JZ _ 0 (v:=.slice B xs.length d) (n:=xs.length) (xs:=xs) rfl ab.1 (A:=B2) (m:=ys.length) (c:=cp) (news:=ys) rfl HS.o ff fW (YE _) ?_);intro v8 w8 I af ac;have S8:=ae _ _ (iy ab I af ac);obtain⟨A8,c8,rfl⟩:=fV I;rw[<-Yz,<-ad.o] at S8;have ag:=au S8;have e9:xs.length+ys.length=(fl R (j+1)).length:=by rw[ad.o,Yz]
     rw[e9];clear I af ac ae ab HS S8 q e9;go_wp2
     go_roundw
     case rel=>exact⟨j+1,A8,c8,by omega,rfl,by go_num,ag.o⟩
     case measure=>simp[intOf];omega
    ·obtain rfl:j=k:=by omega
     rw[HT.o] at q;rw[HT.o];clear hR;go_wp2;go_ret;exact⟨B,d,rfl,q.o.post cB |> fun h=>h⟩
theorem Oy{l:List Int}(h:Vec w A l)(hl:l.length<=1000):
  Calls Tryz.prog 60 #[.slice A l.length c] w (xE w 3 l.length (ints l)):=by
 cases A with
 | none=>
  have h0:l.length=0:=by
   rcases nn l.length with e|e
   ·exact e
   ·obtain⟨b,o,h1,_⟩:=h.at e;cases h1
  obtain rfl:=List.length_eq_zero_iff.1 h0;clear h;have V:∀ (w:World),(binOp .eql 40 (.slice none 0 c) (.slice none 0 0)).run Tryz.prog w=.ok (.bool true) w:=fun w=>Lib.run_eql_slice_nil w _ _ none _ c 0 0 Tryz.underlying40
  show Calls Tryz.prog 60 #[.slice none 0 c] w (xE w 3 0 [])
  go_enter Tryz.func60,Tryz.ntmps60
  go_wp2;go_ret;exact⟨none,0,rfl,fh,fZ _ _ _,Mod.refl _ _,fun i hi=>hi.elim⟩
 | some ad=>
  have J:=(aI.begin w).fresh aO (GH w 3 1);have HR:=au (J.imp (fun _ _ h=>jD h));have HS:=au (aT h (show Below w.heap.size w (w.alloc (.cells #[] 3)) from(YC _ _).alloc (YG _) _));have V:∀ (w:World),(binOp .eql 40 (.slice (some ad) l.length c) (.slice none 0 0)).run Tryz.prog w=.ok (.bool false) w:=fun w=>Lib.run_eql_slice_nil w _ _ (some ad) _ c 0 0 Tryz.underlying40;clear h J
  go_enter Tryz.func60,Tryz.ntmps60
  go_wp2_with (at_builtin;refine held ?_);obtain⟨F7,q,F⟩:=HR.o.all cB;refine ia.mk (iY rfl (.tmp 5) (.tmp 6) rfl mW _ 0 (v:=.slice (some ⟨w.heap.size,0,none⟩) 0 0) (n:=0) (xs:=[]) rfl q.1 (A:=some ad) (m:=l.length) (c:=c) (news:=ints l) rfl HS.o ff fW (YE _) ?_);intro v8 w8 p I z;have S8:=F _ _ (iy q p I z);obtain⟨A8,c8,rfl⟩:=fV p;rw[Zx,Z8] at S8;have M:=au S8;rw[Zx];clear p I z F q HS S8 HR;go_wp2;go_ret;exact⟨A8,c8,rfl,M.o.post cB⟩
theorem dH{fn:Func}{p u:Tmp}{q:TypeId}(h:fn.results=#[.cell p q,.tmp u]){P:Program}(tmps:Array Value)(w:World)(g:Nat)(t:TypeId)(cs:Array Value)(z:Nat × Nat){d:Array Field}(F:tmps.getD p undef=.pointer (some ⟨g,0,none⟩))(J:w.heap[g]?=some (.cells cs t z))(I:P.underlying q=some (.struct d))(hi:(P.info? q).map (·.size)=some cs.size):
  (results fn tmps).run P w=.ok (.tuple #[.agg cs,tmps.getD u undef]) w:=by
 rw[results_cell_tmp h,F];simp[asAddr,run_loadVar_row w g t q cs z (.struct d) J I rfl hi]
def jC:Array Value:=(gA 0 none 0 0 none 0 0 none 0 0)
def bM(A:fj)(c:Nat)(l:List Int):CH.bq:=aZ 3 1 (.slice A l.length c) l.length (ints l)
variable{A1 p M:fj}{g6 c2 J z I:Nat}{ps us vs:List Int}{k:Int}
theorem eT:(bM A c l).Ok:=cB
instance {A:fj} {c:Nat} {l:List Int}:(bM A c l).Ok:=eT
theorem vK{x:Int}:aZ 3 1 (.slice A (l.length+1) c) (l.length+1) (ints l++[.int .i64 x])=bM A c (l++[x]):=by
 unfold bM;have e:ints (l++[x])=ints l++[.int .i64 x]:=by simp[ints]
 rw[e,Yz,Y1]
theorem lW(h:bM A c l w F):Vec w A l:=iG h (QY l)
theorem vL(w:World):bM none 0 [] w fh:=fZ w 3 1
def gH(g6 ga:Nat)(k:Int)(A1 A2 A3:fj)(c1 c2 c3:Nat)(ps us vs:List Int):CH.bq:=
 aj (bM A1 c1 ps) (aj (bM A2 c2 us) (aj (bM A3 c3 vs) (aj (av ga (gA k A1 ps.length c1 A2 us.length c2 A3 vs.length c3) 85) (av g6 jC 85))))
theorem kR{ga:Nat}{A2 A3:fj}{c1 c3:Nat}:(gH g6 ga k A1 A2 A3 c1 c2 c3 ps us vs).Ok:=ay eT (ay eT (ay eT (ay aC aC)))
instance {g6 ga:Nat} {k:Int} {A1 A2 A3:fj} {c1 c2 c3:Nat} {ps us vs:List Int}:(gH g6 ga k A1 A2 A3 c1 c2 c3 ps us vs).Ok:=kR
structure VK where
 k:Int
 ps:List Int
 us:List Int
 vs:List Int
def iI(C:List (List Int))(D E:List Int):VK:=⟨lJ (cF C) (lF D) (lF E) D.length E.length,SY (cF C) (lF D) (lF E) D.length E.length,Yg (cF C) (lF D) (lF E) D.length E.length,Yh (cF C) (lF D) (lF E) D.length E.length⟩
def WQ(w:World)(v:Value)(x:VK):Prop:=
 ∃ A1 A2 A3 c1 c2 c3,v=.agg (gA x.k A1 x.ps.length c1 A2 x.us.length c2 A3 x.vs.length c3)/\Vec w A1 x.ps/\Vec w A2 x.us/\Vec w A3 x.vs
def jZ(w:World)(C:List (List Int))(D E:List Int)(e:Ending)(w':World):Prop:=
 ∃ v,e=.returned (.tuple #[v,.int .i64 (if qE C D E then 0 else 1)])/\Below w.heap.size w w'/\WQ w' v (if qE C D E then iI C D E else ⟨0,[],[],[]⟩)
section
variable{w0 W:World}{X Y:CH.bq}
theorem iJ{cs cs':Array Value}(hY:Y.Ok)(h:aI fh w0 (aj (av g cs t) Y) W)(i:Nat)(v:Value)(he:cs.setIfInBounds i v=cs'):aI fh w0 (aj (av g cs' t) Y) (W.setCell ⟨g,i,none⟩ v):=by
 obtain⟨F,hC,-,bk⟩:=h.take aC hY;rw[<-he];exact bk _ _ (qX hC i v)
theorem L6{x:Int}{I q:fj}{M F:Nat}(hX:X.Ok)(h:aI fh w0 (aj (aZ 3 1 (.slice q (ps.length+1) z) (ps.length+1) (ints ps++[.int .i64 x])) (aj (bM p c2 us) (aj (bM I F vs) (aj (av J (gA k A1 ps.length M p us.length c2 I vs.length F) 85) (aj (av g6 jC 85) X))))) W):
  aI fh w0 (aj (gH g6 J k q p I z c2 F (ps++[x]) us vs) X) (W.setCell ⟨J,1,none⟩ (.slice q (ps.length+1) z)):=by
 rw[vK] at h;have V:=iJ aQ (h.perm (by ac_rfl:_=aj (av J (gA k A1 ps.length M p us.length c2 I vs.length F) 85) (aj (bM q z (ps++[x])) (aj (bM p c2 us) (aj (bM I F vs) (aj (av g6 jC 85) X)))))) 1 (.slice q (ps.length+1) z) (cs':=(gA k q (ps++[x]).length z p us.length c2 I vs.length F)) (by rw[Yz,Y1];rfl);unfold gH;exact V.perm (by ac_rfl)
theorem UE{x:Int}{I q:fj}{p F:Nat}(hX:X.Ok)(h:aI fh w0 (aj (aZ 3 1 (.slice q (us.length+1) z) (us.length+1) (ints us++[.int .i64 x])) (aj (bM A1 p ps) (aj (bM I F vs) (aj (av J (gA k A1 ps.length p M us.length c2 I vs.length F) 85) (aj (av g6 jC 85) X))))) W):
  aI fh w0 (aj (gH g6 J k A1 q I p z F ps (us++[x]) vs) X) (W.setCell ⟨J,2,none⟩ (.slice q (us.length+1) z)):=by
 rw[vK] at h;have V:=iJ aQ (h.perm (by ac_rfl:_=aj (av J (gA k A1 ps.length p M us.length c2 I vs.length F) 85) (aj (bM A1 p ps) (aj (bM q z (us++[x])) (aj (bM I F vs) (aj (av g6 jC 85) X)))))) 2 (.slice q (us.length+1) z) (cs':=(gA k A1 ps.length p q (us++[x]).length z I vs.length F)) (by rw[Yz,Y1];rfl);unfold gH;exact V.perm (by ac_rfl)
theorem kL{p:Nat}{z:fj}(h:aI fh w0 (aj (gH g6 p k A1 z M I c2 J ps us vs) X) W):
  W.cell? ⟨p,0,none⟩=some (.int .i64 k)/\W.cell? ⟨p,1,none⟩=some (.slice A1 ps.length I)/\W.cell? ⟨p,2,none⟩=some (.slice z us.length c2)/\W.cell? ⟨p,3,none⟩=some (.slice M vs.length J)/\∀ i,W.frozen? ⟨p,i,none⟩=false:=by
 have V:=h;unfold gH at V;obtain⟨F,q⟩:=(V.perm (by ac_rfl:_=aj (av p (gA k A1 ps.length I z us.length c2 M vs.length J) 85) (aj (bM A1 I ps) (aj (bM z c2 us) (aj (bM M J vs) (aj (av g6 jC 85) X)))))).fst;exact⟨aB q rfl,aB q rfl,aB q rfl,aB q rfl,aP q⟩
theorem L8{F:fj}{q:Nat}(h:aI fh w0 (aj (gH g6 I k A1 p F q c2 z ps us vs) X) W):
  aI fh w0 (aj (bM A1 q ps) (aj (bM p c2 us) (aj (bM F z vs) (aj (av I (gA k A1 ps.length q p us.length c2 F vs.length z) 85) (aj (av g6 jC 85) X))))) W:=by
 unfold gH at h;exact h.perm (by ac_rfl)
theorem UF{F:fj}{q:Nat}(h:aI fh w0 (aj (gH g6 I k A1 p F q c2 z ps us vs) X) W):
  aI fh w0 (aj (bM p c2 us) (aj (bM A1 q ps) (aj (bM F z vs) (aj (av I (gA k A1 ps.length q p us.length c2 F vs.length z) 85) (aj (av g6 jC 85) X))))) W:=by
 unfold gH at h;exact h.perm (by ac_rfl)
theorem UG{F:fj}{q:Nat}(h:aI fh w0 (aj (gH g6 I k A1 p F q c2 z ps us vs) X) W):
  aI fh w0 (aj (bM F z vs) (aj (bM A1 q ps) (aj (bM p c2 us) (aj (av I (gA k A1 ps.length q p us.length c2 F vs.length z) 85) (aj (av g6 jC 85) X))))) W:=by
 unfold gH at h;exact h.perm (by ac_rfl)
theorem Oz{a b c d:CH.bq}(h1:a.Ok)(h2:b.Ok)(h3:c.Ok)(h4:d.Ok)(hX:X.Ok):(aj a (aj b (aj c (aj d X)))).Ok:=ay h1 (ay h2 (ay h3 (ay h4 hX)))
instance {a b c d:CH.bq} [h1:a.Ok] [h2:b.Ok] [h3:c.Ok] [h4:d.Ok] [hX:X.Ok]:(aj a (aj b (aj c (aj d X)))).Ok:=Oz h1 h2 h3 h4 hX
theorem lU(W:World)(x:Int):Src (W.alloc (.cells (gb x) 3)) (some ⟨W.heap.size,0,none⟩) 1 1 [.int .i64 x]:=Src.one (heap_alloc_new W _) rfl
end
def Eh(p:Prop)(O:CH.bq):CH.bq:=fun w F=>p/\O w F
variable{O X:CH.bq}{F0:Nat->Prop}{w0:World}{vs:List Value}{p:Nat}{F:fj}
theorem sI{p:Prop}(h:O.Ok):(Eh p O).Ok:=⟨fun⟨_,h1⟩=>h.lt h1,fun⟨h0,h1⟩ hk=>⟨h0,h.keep h1 hk⟩⟩
instance {p:Prop} {O:CH.bq} [h:O.Ok]:(Eh p O).Ok:=sI h
def UH{α:Type}(O:α->CH.bq):CH.bq:=fun w F=>∃ x,O x w F
theorem xG{α:Type}{O:α->CH.bq}(h:∀ x,(O x).Ok):(UH O).Ok:=⟨fun⟨x,h1⟩=>(h x).lt h1,fun⟨x,h1⟩ hk=>⟨x,(h x).keep h1 hk⟩⟩
instance {α:Type} {O:α→CH.bq} [h:∀ x,(O x).Ok]:(UH O).Ok:=xG h
theorem AV{α:Type}{O:α->CH.bq}(h:aI F0 w0 (aj (UH O) X) W):∃ x,aI F0 w0 (aj (O x) X) W:=by
 obtain⟨F,⟨F1,F2,⟨x,h1⟩,h2,h3,h4⟩,h5⟩:=h.own;exact⟨x,⟨F,⟨F1,F2,h1,h2,h3,h4⟩,h5⟩,h.mod⟩
theorem vM{p:Prop}(h:aI F0 w0 (aj (Eh p O) X) W):p/\aI F0 w0 (aj O X) W:=by
 obtain⟨F,⟨F1,F2,⟨h0,h1⟩,h2,h3,h4⟩,h5⟩:=h.own;exact⟨h0,⟨F,⟨F1,F2,h1,h2,h3,h4⟩,h5⟩,h.mod⟩
theorem run_mk{α:Type}{p:α->Prop}{O:α->CH.bq}(x:α)(hp:p x)(h:aI F0 w0 (aj (O x) X) W):aI F0 w0 (aj (UH fun x=>Eh (p x) (O x)) X) W:=
 h.imp fun w F hh=>bK hh (fun F h1=>⟨x,hp,h1⟩) (fun _ h=>h)
theorem CY(h:aI F0 w0 (aj aS X) W):aI F0 w0 X W:=h.drop
section
variable{w0 W:World}{F0:Nat→Prop}{Z:CH.bq}{ops:Array Oper}{a:Act}{Q:Exit→Act→World→Prop}
end
theorem vN{d:Nat}(v:Value)(h:d<a.tmps.size):(a.put (some d) v).eval (.tmp d)=v:=by
 simp[Act.put,Act.eval,h]
section
variable{w W:World}{A B G A1 B1:fj}{c:Nat→Nat→Int}{d e:Nat→Int}{n m i:Nat}{RV:List Value}{x:Value}
theorem En.dup(h:En w A B G c d e n m)(hn:n<=6)(p:∀ i,i<n->∃ R J,RV[i]?=some (.slice R m J)/\∀ j,j<m->∃ I z,R=some ⟨I,z,none⟩/\∀ w',Below w.heap.size w w'->w'.cell? ⟨I,z+j,none⟩=some (.int .i64 (c i j)))(hl:RV.length=n)(hi:i<n)(hx:RV[i]?=some x)(hb:Below w.heap.size w W)(h1:Src W A1 (n+1) 1 (RV++[x]))(h2:Src W B1 (n+1) 1 ((fv n fun j=>.int .i64 (d j))++[.int .i64 (d i)])):
  En W A1 B1 G (jr c n i) (jv d n i) e (n+1) m where
 n7:=by omega
 m6:=h.m6
 db:=fun r M=>by unfold jv;split;exact h.db i hi;exact h.db r ff
 eb:=h.eb
 cb:=fun r M j F=>by unfold jr;split;exact h.cb i hi j F;exact h.cb r ff j F
 ds:=by
  have e:(fv (n+1) fun r=>Value.int .i64 (jv d n i r))=(fv n fun j=>.int .i64 (d j))++[.int .i64 (d i)]:=by
   unfold fv;rw[oy,YS];congr 1
   ·exact Zu fun r M=>by
     have:r≠n:=by have:=List.mem_range.1 M;omega
     simp[jv,this]
   ·simp[jv]
  rw[e];exact h2
 es:=aT h.es hb
 rows:=by
  refine⟨_,h1,fun r M=>?_⟩;by_cases e:r=n
  ·obtain⟨R,J,V,g2⟩:=p i hi;rw[hx] at V;refine⟨R,J,?_,fun j F=>?_⟩
   ·rw[e,pk ff,hl,ZF];simpa using V
   ·obtain⟨I,z,k1,k2⟩:=g2 j F;exact⟨I,z,k1,fun w2 q=>by simp only[jr,if_pos e];exact k2 w2 (aG hb q)⟩
  ·obtain⟨R,J,V,g2⟩:=p r ff;refine⟨R,J,?_,fun j F=>?_⟩
   ·rw[mA ff];exact V
   ·obtain⟨I,z,k1,k2⟩:=g2 j F;exact⟨I,z,k1,fun w2 q=>by simp only[jr,if_neg e];exact k2 w2 (aG hb q)⟩
end
theorem UJ{R:CH.bq}(h:aI fh w0 R W):aI fh w0 (aj aS (aj aS R)) W:=by
 have h1:aI fh w0 (aj aS R) W:=h.one.imp fun _ _ h=>iC h;exact h1.one.imp fun _ _ h=>iC h
theorem fN(h:vs.length=1):∃ a,vs=[a]:=by
 match vs,h with
 | [a],_=>exact⟨a,rfl⟩
theorem tr(h:vs.length=2):∃ a b,vs=[a,b]:=by
 match vs,h with
 | [a,b],_=>exact⟨a,b,rfl⟩
theorem WR(h:vs.length=3):∃ a b c,vs=[a,b,c]:=by
 match vs,h with
 | [a,b,c],_=>exact⟨a,b,c,rfl⟩
theorem GQ(A:fj)(n c:Nat)(w:World):(Instr.buildSlice 75 1 #[(0,.slice A n c)]).run Tryz.prog w=.ok (.slice (some ⟨w.heap.size,0,none⟩) 1 1) (w.alloc (.cells #[.slice A n c] 40)):=by go_simp
theorem yF(x:Int)(w:World):(Instr.buildSlice 40 1 #[(0,.int .i64 x)]).run Tryz.prog w=.ok (.slice (some ⟨w.heap.size,0,none⟩) 1 1) (w.alloc (.cells (gb x) 3)):=by go_simp
section
variable{w0 W:World}{F0:Nat→Prop}{Z:CH.bq}{ops:Array Oper}{a:Act}{Q:Exit→Act→World→Prop}
theorem oO{o:Oper}(hrun:(execOp a.eval o).run Tryz.prog W=.ok (.value v) w')(h:K (a.put o.dst v) w'):o.wp Tryz.prog a W K Q:=by
 unfold Oper.wp;rw[hrun];exact h
theorem mV{o:Oper}{p:TypeId}{x:Operand}{r:Value}(h:o.op=.buildSlice p 1 #[(0,x)])(q:a.eval x=v)(z:(Instr.buildSlice p 1 #[(0,v)]).run Tryz.prog w=.ok r w'):(execOp a.eval o).run Tryz.prog w=.ok (.value r) w':=by
 unfold execOp;simp only[h,lO,Zb,Z7,q];simp only[Zk,z,Y9,Zv]
theorem OA{o:Oper}{x:Operand}(ho:o.op=.assign x)(hx:a.eval x=v)(h:K (a.put o.dst v) W):o.wp Tryz.prog a W K Q:=by
 refine oO (v:=v) (w':=W) ?_ h;unfold execOp;simp only[ho,hx,Zv]
end
theorem Q9{M:Nat}{I J:fj}{q:Nat}{vs:List Int}(h:aI fh w0 (aj (gH g6 M k A1 I J q c2 z ps us vs) X) W):
  W.cell? ⟨g6,0,none⟩=some (.int .i64 0)/\W.cell? ⟨g6,1,none⟩=some (.slice none 0 0)/\W.cell? ⟨g6,2,none⟩=some (.slice none 0 0)/\W.cell? ⟨g6,3,none⟩=some (.slice none 0 0)/\∀ i,W.frozen? ⟨g6,i,none⟩=false:=by
 unfold gH at h;obtain⟨F,p⟩:=(h.perm (by ac_rfl:_=aj (av g6 jC 85) (aj (bM A1 q ps) (aj (bM I c2 us) (aj (bM J z vs) (aj (av M (gA k A1 ps.length q I us.length c2 J vs.length z) 85) X)))))).fst;exact⟨aB p rfl,aB p rfl,aB p rfl,aB p rfl,aP p⟩
theorem Ra{I:Nat}{q:fj}{vs:List Int}(hX:X.Ok)(h:aI fh w0 (aj (gH g6 I k A1 q F p c2 z ps us vs) X) W):
  aI fh w0 (aj (av g6 (gA k A1 ps.length p q us.length c2 F vs.length z) 85) (aj (bM A1 p ps) (aj (bM q c2 us) (aj (bM F z vs) X)))) ((((W.setCell ⟨g6,0,none⟩ (.int .i64 k)).setCell ⟨g6,1,none⟩ (.slice A1 ps.length p)).setCell ⟨g6,2,none⟩ (.slice q us.length c2)).setCell ⟨g6,3,none⟩ (.slice F vs.length z)):=by
 unfold gH at h;have h1:=h.perm (by ac_rfl:_=aj (av g6 jC 85) (aj (bM A1 p ps) (aj (bM q c2 us) (aj (bM F z vs) (aj (av I (gA k A1 ps.length p q us.length c2 F vs.length z) 85) X)))));have J:(aj (bM A1 p ps) (aj (bM q c2 us) (aj (bM F z vs) (aj (av I (gA k A1 ps.length p q us.length c2 F vs.length z) 85) X)))).Ok:=Oz eT eT eT aC hX;have h2:=iJ J h1 0 (.int .i64 k) (cs':=(gA k none 0 0 none 0 0 none 0 0)) rfl;have h3:=iJ J h2 1 (.slice A1 ps.length p) (cs':=(gA k A1 ps.length p none 0 0 none 0 0)) rfl;have M:=iJ J h3 2 (.slice q us.length c2) (cs':=(gA k A1 ps.length p q us.length c2 none 0 0)) rfl;have V:=iJ J M 3 (.slice F vs.length z) (cs':=(gA k A1 ps.length p q us.length c2 F vs.length z)) rfl;have h6:=V.perm (by ac_rfl:_=aj (av I (gA k A1 ps.length p q us.length c2 F vs.length z) 85) (aj (av g6 (gA k A1 ps.length p q us.length c2 F vs.length z) 85) (aj (bM A1 p ps) (aj (bM q c2 us) (aj (bM F z vs) X)))));exact h6.drop
theorem Rb{cs:Array Value}{z:fj}{q:Nat}{vs:List Int}(h:aI fh w0 (aj (av g6 cs 85) (aj (bM A1 p ps) (aj (bM z c2 us) (aj (bM F q vs) X)))) W):
  WQ W (.agg (gA k A1 ps.length p z us.length c2 F vs.length q)) ⟨k,ps,us,vs⟩:=by
 obtain⟨F1,J⟩:=h.oM.fst;obtain⟨V,M⟩:=(h.perm (by ac_rfl:_=aj (bM z c2 us) (aj (av g6 cs 85) (aj (bM A1 p ps) (aj (bM F q vs) X))))).fst;obtain⟨F3,I⟩:=(h.perm (by ac_rfl:_=aj (bM F q vs) (aj (av g6 cs 85) (aj (bM A1 p ps) (aj (bM z c2 us) X))))).fst;exact⟨A1,z,F,p,c2,q,rfl,lW J,lW M,lW I⟩
theorem Rh(h:aI fh w0 (av g6 (gA 0 none 0 0 none 0 0 none 0 0) 85) W):
  aI fh w0 (av g6 (gA 0 none 0 0 none 0 0 none 0 0) 85) ((((W.setCell ⟨g6,0,none⟩ (.int .i64 0)).setCell ⟨g6,1,none⟩ (.slice none 0 0)).setCell ⟨g6,2,none⟩ (.slice none 0 0)).setCell ⟨g6,3,none⟩ (.slice none 0 0)):=by
 have p:aI fh w0 (aj (av g6 (gA 0 none 0 0 none 0 0 none 0 0) 85) aS) W:=h.one;have z:=iJ aO p 0 (.int .i64 0) (cs':=(gA 0 none 0 0 none 0 0 none 0 0)) rfl;have q:=iJ aO z 1 (.slice none 0 0) (cs':=(gA 0 none 0 0 none 0 0 none 0 0)) rfl;have F:=iJ aO q 2 (.slice none 0 0) (cs':=(gA 0 none 0 0 none 0 0 none 0 0)) rfl;have I:=iJ aO F 3 (.slice none 0 0) (cs':=(gA 0 none 0 0 none 0 0 none 0 0)) rfl;exact I.imp fun _ _ h=>jD h
theorem GU{c:Nat->Nat->Int}{d e:Nat->Int}{m k:Nat}{x:Int}{qs:List Int}{U T:Nat->Bool}(h:SY c d e n m=ps++gr c d e n m (k+1) U)(hg:gr c d e n m (k+1) U=x::gr c d e n m k T):SY c d e n m=(ps++[x])++gr c d e n m k T:=by
 rw[h,hg];simp
variable{u I:Value}{F:Nat->Prop}{d b:Nat}{z:Operand}{vs:List Int}
theorem GV{o:Oper}{x:Operand}(ho:o.op=.call { callee:=.value (.func 61),args:=#[x],argTypes:=#[185] })(hx:a.eval x=v)(W:World):(execOp a.eval o).run Tryz.prog W=.ok (.enter 61 #[v]) W:=by
 unfold execOp;simp only[ho,resolve,lO,Zb,Z7,hx];go_simp
theorem GX{o:Oper}{x:Operand}(ho:o.op=.call { callee:=.value (.func 62),args:=#[x],argTypes:=#[75] })(hx:a.eval x=v)(W:World):(execOp a.eval o).run Tryz.prog W=.ok (.enter 62 #[v]) W:=by
 unfold execOp;simp only[ho,resolve,lO,Zb,Z7,hx];go_simp
theorem GY{o:Oper}{f:FuncId}{args:Array Value}(p:(execOp a.eval o).run Tryz.prog W=.ok (.enter f args) W)(h:Calls Tryz.prog f args W (fun e w'=>∃ r,e=.returned r/\K (a.put o.dst r) w')):o.wp Tryz.prog a W K Q:=by
 unfold Oper.wp;rw[p];refine mn h ?_;rintro e w' ⟨r,rfl,hK⟩;exact hK
theorem GZ(v1 v2:Value)(A B:fj)(n c m d:Nat)(w:World)(h1:v1=.slice A n c)(h2:v2=.slice B m d):(Instr.buildSlice 185 2 #[(0,v1),(1,v2)]).run Tryz.prog w=.ok (.slice (some ⟨w.heap.size,0,none⟩) 2 2) (w.alloc (.cells #[v1,v2] 75)):=by
 subst h1 h2;go_simp
theorem BP(v1 v2:Value)(A B:fj)(n c m d:Nat)(w:World)(h1:v1=.slice A n c)(h2:v2=.slice B m d):(Instr.buildSlice 75 2 #[(0,v1),(1,v2)]).run Tryz.prog w=.ok (.slice (some ⟨w.heap.size,0,none⟩) 2 2) (w.alloc (.cells #[v1,v2] 40)):=by
 subst h1 h2;go_simp
theorem yG{o:Oper}{p:TypeId}{x y:Operand}{r:Value}(h:o.op=.buildSlice p 2 #[(0,x),(1,y)])(q:a.eval x=v)(z:a.eval y=u)(F:(Instr.buildSlice p 2 #[(0,v),(1,u)]).run Tryz.prog w=.ok r w'):(execOp a.eval o).run Tryz.prog w=.ok (.value r) w':=by
 unfold execOp;simp only[h,lO,Zb,Z7,q,z];simp only[Zk,F,Y9,Zv]
theorem L9(h:av g #[u,v] t W F)(q:u.oneCell'=true)(z:v.oneCell'=true):Src W (some ⟨g,0,none⟩) 2 1 [u,v]:=by
 refine⟨rfl,fun x p=>?_,fun _=>⟨_,rfl,fun j x p=>?_⟩⟩
 ·simp at p;rcases p with rfl|rfl<;>assumption
 ·rw[Addr.wX];exact aB h (by simpa using p)
theorem G5{D:fj}{q:List Value}(h:Src W D 2 1 [.slice A n c,.slice B m d])(F:Src W A n 1 xs)(I:Src W B m 1 q):Ov W D [xs,q] [(A,c),(B,d)]:=by
 have z:xs.length=n:=by have:=F.1;omega
 have e2:q.length=m:=by have:=I.1;omega
 refine⟨rfl,?_,fun i hi x p=>?_⟩
 ·have:([(A,c),(B,d)]:List (fj × Nat)).mapIdx (fun i x=>Value.slice x.1 (([xs,q]:List (List Value)).getD i []).length x.2)=[.slice A n c,.slice B m d]:=by
   simp[z,e2]
  rw[this];exact h
 ·match i,hi,p with
  | 0,_,p=>simp at p;subst p;simpa[z] using F
  | 1,_,p=>simp at p;subst p;simpa[e2] using I
def Ei(A:fj)(n c:Nat)(RV:List Value)(x:Value):List Value->CH.bq
 | []=>aS
 | [v]=>UH fun g:Nat=>Eh (v=.slice (some ⟨g,0,none⟩) 1 1) (av g #[x] 40)
 | [v1,v2]=>UH fun p:Nat × Nat=>Eh (v1=.slice (some ⟨p.1,0,none⟩) 1 1/\v2=.slice (some ⟨p.2,0,none⟩) 2 2) (aj (av p.1 #[x] 40) (av p.2 #[.slice A n c,v1] 75))
 | [_,_,v3]=>UH fun p:fj × Nat=>Eh (v3=.slice p.1 (n+1) p.2) (aZ 40 1 v3 (n+1) (RV++[x]))
 | _=>aS
def JR(B:fj)(n d:Nat)(dv:List Value)(y v115:Value):List Value->CH.bq
 | []=>aS
 | [v]=>UH fun g:Nat=>Eh (v=.slice (some ⟨g,0,none⟩) 2 2) (av g #[.slice B n d,v115] 40)
 | [_,v]=>UH fun p:fj × Nat=>Eh (v=.slice p.1 (n+1) p.2) (aZ 3 1 v (n+1) (dv++[y]))
 | _=>aS
theorem UK{RV:List Value}{x:Value}:∀ vs,(Ei A n c RV x vs).Ok
 | []=>aO
 | [_]=>xG fun _=>sI aC
 | [_,_]=>xG fun _=>sI aQ
 | [_,_,_]=>xG fun _=>sI cB
 | _::_::_::_::_=>aO
theorem UL{dv:List Value}{y v115:Value}:∀ vs,(JR B n d dv y v115 vs).Ok
 | []=>aO
 | [_]=>xG fun _=>sI aC
 | [_,_]=>xG fun _=>sI cB
 | _::_::_::_=>aO
section
variable{w0 W:World}{Z:CH.bq}{a:Act}{o:Oper}{Q:Exit→Act→World→Prop}{A B B':fj}{n c d c':Nat}{RV dv:List Value}{x y:Value}
theorem WS(q:o.op=.buildSlice 75 1 #[(0,z)])(F:a.eval z=x)(J:∀ w:World,(Instr.buildSlice 75 1 #[(0,x)]).run Tryz.prog w=.ok (.slice (some ⟨w.heap.size,0,none⟩) 1 1) (w.alloc (.cells #[x] 40)))(I:Z.Ok)(h:aI fh w0 (aj (Ei A n c RV x []) Z) W):
  o.wp Tryz.prog a W (fun M w'=>∃ v,M=a.put o.dst v/\aI fh w0 (aj (Ei A n c RV x ([]++[v])) Z) w') Q:=by
 refine oO (mV q F (J W)) ⟨_,rfl,?_⟩;exact run_mk (p:=fun g:Nat=>(Value.slice (some ⟨W.heap.size,0,none⟩) 1 1)=.slice (some ⟨g,0,none⟩) 1 1) W.heap.size rfl ((CY h).fresh I (fG W #[x] 40))
theorem WT{F I:Operand}{q:Value}(z:o.op=.buildSlice 185 2 #[(0,F),(1,I)])(V:a.eval F=.slice A n c)(hy:a.eval I=q)(hZ:Z.Ok)(h:aI fh w0 (aj (Ei A n c RV x [q]) Z) W):
  o.wp Tryz.prog a W (fun a' w'=>∃ v,a'=a.put o.dst v/\aI fh w0 (aj (Ei A n c RV x ([q]++[v])) Z) w') Q:=by
 obtain⟨g,M⟩:=AV h;obtain⟨rfl,J⟩:=vM M;refine oO (yG z V hy (GZ _ _ _ _ _ _ _ _ W rfl rfl)) ⟨_,rfl,?_⟩;exact run_mk (p:=fun p:Nat × Nat=>(Value.slice (some ⟨g,0,none⟩) 1 1)=.slice (some ⟨p.1,0,none⟩) 1 1/\(Value.slice (some ⟨W.heap.size,0,none⟩) 2 2)=.slice (some ⟨p.2,0,none⟩) 2 2) (O:=fun p=>aj (av p.1 #[x] 40) (av p.2 (fL A n c (some ⟨g,0,none⟩) 1 1) 75)) (g,W.heap.size) ⟨rfl,rfl⟩
  ((J.fresh aQ (fG W (fL A n c (some ⟨g,0,none⟩) 1 1) 75)).perm (by ac_rfl))
theorem WU{ox:Operand}{v1:Value}(z:o.op=.call { callee:=.value (.func 61),args:=#[ox],argTypes:=#[185] })(hx:a.eval ox=I)(h1:x.oneCell'=true)(hn:n<=100)(hRV:Src W A n 1 RV)(hZ:Z.Ok)(h:aI fh w0 (aj (Ei A n c RV x [v1,I]) Z) W):
  o.wp Tryz.prog a W (fun a' w'=>∃ v,a'=a.put o.dst v/\aI fh w0 (aj (Ei A n c RV x ([v1,I]++[v])) Z) w') Q:=by
 obtain⟨⟨g,g2⟩,e1⟩:=AV h;obtain⟨⟨rfl,rfl⟩,e2⟩:=vM e1;have J:=e2.assoc;obtain⟨F1,M⟩:=J.fst;obtain⟨F2,F⟩:=J.oM.fst;have hM:=G5 (L9 F rfl rfl) hRV (Src.one M.1 h1);have V:RV.length=n:=by have:=hRV.1;omega
 have q:jj [RV,[x]]=RV++[x]:=by simp[jj]
 have K:=GN (c:=2) hM gw (by rw[q];simp;omega);refine GY (GV z hx W) (K.mono ?_);rintro e w' ⟨A5,c5,rfl,hP⟩;rw[q,Yz,V] at hP;exact⟨_,by rw[q,Yz,V];rfl,_,rfl,run_mk (p:=fun p:fj × Nat=>(Value.slice A5 (n+1) c5)=.slice p.1 (n+1) p.2) (A5,c5) rfl (J.drop.drop.fresh hZ hP)⟩
theorem WV{F:Operand}(q:o.op=.buildSlice 75 2 #[(0,z),(1,F)])(I:a.eval z=.slice B n d)(M:a.eval F=.slice B' 1 c')(J:Z.Ok)(h:aI fh w0 (aj (JR B n d dv y (.slice B' 1 c') []) Z) W):
  o.wp Tryz.prog a W (fun V w'=>∃ v,V=a.put o.dst v/\aI fh w0 (aj (JR B n d dv y (.slice B' 1 c') ([]++[v])) Z) w') Q:=by
 refine oO (yG q I M (BP _ _ _ _ _ _ _ _ W rfl rfl)) ⟨_,rfl,?_⟩;exact run_mk (p:=fun g:Nat=>(Value.slice (some ⟨W.heap.size,0,none⟩) 2 2)=.slice (some ⟨g,0,none⟩) 2 2) W.heap.size rfl ((CY h).fresh J (fG W (fL B n d B' 1 c') 40))
theorem WX{V:Operand}{z:Value}(F:o.op=.call { callee:=.value (.func 62),args:=#[V],argTypes:=#[75] })(hx:a.eval V=z)(hn:n<=100)(hdv:Src W B n 1 dv)(hy:Src W B' 1 1 [y])(hZ:Z.Ok)(h:aI fh w0 (aj (JR B n d dv y (.slice B' 1 c') [z]) Z) W):
  o.wp Tryz.prog a W (fun a' w'=>∃ v,a'=a.put o.dst v/\aI fh w0 (aj (JR B n d dv y (.slice B' 1 c') ([z]++[v])) Z) w') Q:=by
 obtain⟨g,e1⟩:=AV h;obtain⟨rfl,M⟩:=vM e1;obtain⟨F2,I⟩:=M.fst;have hM:=G5 (L9 I rfl rfl) hdv hy;have J:dv.length=n:=by have:=hdv.1;omega
 have q:jj [dv,[y]]=dv++[y]:=by simp[jj]
 have K:=GL (c:=2) hM gw (by rw[q];simp;omega);refine GY (GX F hx W) (K.mono ?_);rintro e w' ⟨A5,c5,rfl,hP⟩;rw[q,Yz,J] at hP;exact⟨_,by rw[q,Yz,J];rfl,_,rfl,run_mk (p:=fun p:fj × Nat=>(Value.slice A5 (n+1) c5)=.slice p.1 (n+1) p.2) (A5,c5) rfl (M.drop.fresh hZ hP)⟩
theorem UM{R:CH.bq}{J V u1 F:Value}(h:aI fh w0 (aj (Ei A n c RV x [J,V,I]) (aj (JR B n d dv y (.slice B' 1 c') [u1,F]) R)) W):
  ∃ z c5 p q,I=.slice z (n+1) c5/\F=.slice p (n+1) q/\aI fh w0 (aj (aZ 40 1 (.slice z (n+1) c5) (n+1) (RV++[x])) (aj (aZ 3 1 (.slice p (n+1) q) (n+1) (dv++[y])) R)) W:=by
 obtain⟨⟨z,c5⟩,M⟩:=AV h;obtain⟨rfl,e2⟩:=vM M;obtain⟨⟨p,q⟩,e3⟩:=AV e2.oM;obtain⟨rfl,e4⟩:=vM e3;exact⟨z,c5,p,q,rfl,rfl,e4.oM⟩
end
theorem Ri(q z n d i:Nat)(hi:i<n)(hn:n<=d)(w:World):(Instr.slice 40 (.slice (some ⟨q,z,none⟩) n d) (some (.int .i64 (i:Int))) (some (.int .i64 ((i:Int)+1))) none).run Tryz.prog w=.ok (.slice (some ⟨q,z+i,none⟩) 1 (d-i)) w:=by
 obtain⟨ht,h,hz,ab⟩:=mW;obtain⟨aa,h,M,p,ac⟩:=info_parts h;have h0:(0:Int)<=i:=by omega
 have h1:(0:Int)<=(i:Int)+1:=by omega
 have h2:((i:Int)+1).toNat=i+1:=by omega
 have h3:(i:Int)+1<=(d:Int):=by omega
 have V:(i:Int)<=(i:Int)+1:=by omega
 have h5:i≠d:=by omega
 have h6:i+1-i=1:=by omega
 have J:¬ d<=i:=by omega
 have F:¬ d=i:=by omega
 have I:d-i≠0:=by omega
 simp[Instr.slice,run_underlying ht,Instr.sliceBounds,Instr.sliceBound,asIntOf,sizeOf,typeInfo,h,p,Addr.add,h0,h1,h2,h3,V,h5,h6,J,F,I]
theorem oP:∀ (ds:List Nat) (vs:List Value) (a:Act),(gd a ds vs).tmps.size=a.tmps.size
 | [],_,_=>by simp[gd]
 | _::_,[],_=>rfl
 | e::ds,u::vs,a=>by
  simp only[gd];rw[oP ds vs];simp[Act.put]
theorem UN{I:Nat}{z F:fj}{p q:Nat}(V:X.Ok)(h:aI fh w0 (aj (bM F q vs) (aj (gH g6 I k A1 z none p c2 0 ps us []) X)) W):
  aI fh w0 (aj (gH g6 I k A1 z F p c2 q ps us vs) X) (W.setCell ⟨I,3,none⟩ (.slice F vs.length q)):=by
 unfold gH at h;have J:=(h.perm (by ac_rfl:_=aj (bM none 0 []) (aj (bM F q vs) (aj (bM A1 p ps) (aj (bM z c2 us) (aj (av I (gA k A1 ps.length p z us.length c2 none 0 0) 85) (aj (av g6 jC 85) X))))))).drop;have M:=iJ aQ (J.perm (by ac_rfl:_=aj (av I (gA k A1 ps.length p z us.length c2 none 0 0) 85) (aj (bM F q vs) (aj (bM A1 p ps) (aj (bM z c2 us) (aj (av g6 jC 85) X)))))) 3 (.slice F vs.length q) (cs':=(gA k A1 ps.length p z us.length c2 F vs.length q)) rfl;unfold gH;exact M.perm (by ac_rfl)
theorem UO{Y:CH.bq}{l:List Int}{x:Int}(I:Y.Ok)(hi:i<l.length)(h:aI fh w0 (aj (bM (some ⟨b,0,none⟩) c l) Y) W):aI fh w0 (aj (bM (some ⟨b,0,none⟩) c (l.set i x)) Y) (W.setCell ⟨b,i,none⟩ (.int .i64 x)):=by
 obtain⟨F,J,-,q⟩:=h.take eT I;have p:=vU J (i:=i) ff (.int .i64 x);have e:(ints l).set i (.int .i64 x)=ints (l.set i x):=by simp[ints,oT]
 rw[e] at p;have z:=q (bM (some ⟨b,0,none⟩) c (l.set i x)) _ (by unfold bM;rw[l3];exact p);exact z
theorem UQ{y:Nat}(f g:Nat->Int)(z:y<m):((List.range m).map (fun t=>if t<y then g t else f t)).set y (g y)=(List.range m).map (fun t=>if t<y+1 then g t else f t):=by
 refine List.ext_getElem gw fun i q p=>?_;rw[List.getElem_set];simp only[ZA,List.getElem_range];by_cases e:y=i
 ·subst e;simp
 ·rw[if_neg e];by_cases h:i<y
  ·rw[if_pos h,if_pos ff]
  ·rw[if_neg h,if_neg ff]
theorem UR{I:Nat}{p F:fj}{q z:Nat}(hn:n=vs.length)(h:aI fh w0 (aj (bM F z vs) (aj (bM A1 q ps) (aj (bM p c2 us) (aj (av I (gA k A1 ps.length q p us.length c2 F n z) 85) (aj (av g6 jC 85) X))))) W):
  aI fh w0 (aj (gH g6 I k A1 p F q c2 z ps us vs) X) W:=by
 subst hn;unfold gH;exact h.perm (by ac_rfl)
theorem Rj{N:Nat}{f:Nat->Int}(h:aI fh w0 (aj X (jL g N f)) W){k:Nat}(hk:k<N*64):W.cell? ⟨g,k,none⟩=some (.int .i64 (f k)):=by
 obtain⟨F,hF⟩:=h.swap.fst;exact uF hF hk
theorem Ma(c:Nat->Nat->Int)(d e:Nat->Int)(n m:Nat):TB c d e n m 0 0=lJ c d e n m:=by unfold TB lJ;rw[lB,Mi]
theorem Ab{B G:fj}{d e:Nat}{D E:List Int}(h:BL w A C V)(hl:C.length<=maxLen)(hD:Vec w B D)(hE:Vec w G E)(cq:D.length<=d):
  Calls Tryz.prog 33 #[.slice A C.length c,.slice B D.length d,.slice G E.length e] w (jZ w C D E):=by
 have b4:Below w.heap.size w (w.alloc (.cells jC 85)):=(YC _ _).alloc (YG _) _;have KV:=au (rT (c:=c) (d:=d) (e:=e) (h.below b4) hl (hD.below b4) (hE.below b4));have HP:=au (fun hv=>Rq (w:=w) (C:=C) (D:=D) (E:=E) hv h hD hE);have R0:Hid (aI fh w (av w.heap.size jC 85) _):=au (((aI.begin w).fresh aO (fG w jC 85)).imp fun _ _ h=>jD h);unfold jC at KV R0;clear h hD hE b4 hl;cases hv:qE C D E with
 | false=>
  have HR:=au (show ∀ w':World,Below w.heap.size w w'->jZ w C D E (.returned (.tuple #[.agg (gA 0 none 0 0 none 0 0 none 0 0),.int .i64 1])) w' from fun w' hb=>⟨_,by rw[hv];rfl,hb,by rw[hv];exact⟨none,none,none,0,0,0,rfl,Src.none_,Src.none_,Src.none_⟩⟩);rw[hv] at KV;obtain⟨g6,bi⟩:∃ g6,Hid (w.heap.size=g6):=⟨_,au rfl⟩;clear HP hv cq
  go_enter Tryz.func33,Tryz.ntmps33
  go_wp2
  go_step3
  go_wp2_with fail;refine KV.o.mono ?_;rintro e9 w1 ⟨rfl,hb1⟩;have R1:=au (R0.o.below aC hb1);obtain⟨F,hC⟩:=R1.o.get;have z0:=aB hC (i:=0) rfl;have z1:=aB hC (i:=1) rfl;have z2:=aB hC (i:=2) rfl;have z3:=aB hC (i:=3) rfl;have f0:=aP hC 0;have f1:=aP hC 1;have f2:=aP hC 2;have f3:=aP hC 3;have R2:=au (Rh R1.o);rw[bi.o] at HR R2 z0 z1 z2 z3 f0 f1 f2 f3 ⊢;clear hC hb1 KV R1 R0;go_wp2
  try rw[qS]
  refine bodyPost_ret_by (dH rfl _ _ g6 85 (gA 0 none 0 0 none 0 0 none 0 0) (0,0) rfl ?_ Tryz.underlying85 fi) rfl ?_
  ·obtain⟨F,hC⟩:=R2.o.get;exact hC.1
  ·exact HR.o _ (by have:=R2.o.bN;rwa [bi.o] at this)
 | true=>
  rw[hv] at KV;have hP:=HP.o hv;have dl:=hP.n6;have cH:=hP.m6;obtain⟨nc,bv⟩:∃ n,n=C.length:=⟨_,rfl⟩;obtain⟨n,hn⟩:∃ n,n=D.length:=⟨_,rfl⟩;obtain⟨m,hm⟩:∃ n,n=E.length:=⟨_,rfl⟩;have d6:nc=n:=by rw[bv,hn];exact hP.hn
  have cj:=au (show ∀ (v:Value) (w':World),Below w.heap.size w w'->WQ w' v (iI C D E)->jZ w C D E (.returned (.tuple #[v,.int .i64 0])) w' from fun v w' hb ha=>⟨v,by rw[hv];rfl,hb,by rw[hv];exact ha⟩);have d4:=au (show iI C D E=⟨lJ (cF C) (lF D) (lF E) n m,SY (cF C) (lF D) (lF E) n m,Yg (cF C) (lF D) (lF E) n m,Yh (cF C) (lF D) (lF E) n m⟩ by rw[hn,hm];rfl);rw[<-hn,<-hm] at hP;rw[<-hn] at dl;have en:n<=d:=by rw[hn];exact cq
  clear cq;rw[<-hm] at cH;have HQ:=au hP.q;rw[<-bv,<-hn,<-hm] at KV;rw[<-bv,<-hn,<-hm];subst d6;clear HP hv hP bv hn hm;generalize cF C=cc at *
  generalize lF D=J at *
  generalize lF E=I at *
  have df:=Da HQ.o (YG nc) wI;have c7:=au (show lJ cc J I nc m=L cc J I nc m nc wI from rfl);rw[<-c7.o] at df;obtain⟨K,hK⟩:∃ K,K=lJ cc J I nc m:=⟨_,rfl⟩;rw[<-hK] at df c7;have cp:=au hK;have hM:=Q7 cH;have az:0<1 <<< m:=by rw[Z5];exact Nat.pow_pos fW
  have cr:=au (fun s j hs hj=>Q6 (m:=m) (s:=s) (j:=j) cH hs hj);clear hK
  go_enter Tryz.func33,Tryz.ntmps33
  go_wp2
  go_step3
  go_wp2_with fail;refine KV.o.mono ?_;rintro e9 w1 ⟨rfl,hb1⟩;have R1:=au (R0.o.below aC hb1);have KT:=au (CX (HQ.o.below R1.o.bN) c d e);clear hb1 R0 KV;go_wp2_with fail;refine KT.o.mono ?_;rintro e9 w2 ⟨gt,rfl,hP2⟩;have R2:=R1.o.fresh aC hP2;obtain⟨M,bm⟩:∃ M,Hid (1 <<< m=M):=⟨_,au rfl⟩;rw[bm.o] at hM az cr R2;obtain⟨F,hF⟩:=R2.fst;have cx:=uF hF (k:=0) ff;rw[show(0:Nat)=0*64+0 from rfl,sH hM az (.inr ⟨rfl,az⟩),Ma,<-cp.o] at cx;simp only[li,ZM] at cx;have R3:=(R2.fresh aQ (fG w2 (gA K none 0 0 none 0 0 none 0 0) 85))
  have R4:=au (show aI fh w (aj (gH w.heap.size w2.heap.size K none none none 0 0 0 [] [] []) (jL gt (nc+1) (jo cc J I nc m M 0 M))) _ from
   (R3.perm (by ac_rfl:_=aj (aj (av w2.heap.size (gA K none 0 0 none 0 0 none 0 0) 85) (av w.heap.size (gA 0 none 0 0 none 0 0 none 0 0) 85)) (jL gt (nc+1) (jo cc J I nc m M 0 M)))).imp fun W F hh=>bK hh (fun F hh=>by
   unfold gH
   exact⟨fun _=>False,F,vL W,⟨fun _=>False,F,vL W,⟨fun _=>False,F,vL W,hh,fun _ h=>h.elim,fun i=>by simp⟩,fun _ h=>h.elim,fun i=>by simp⟩,fun _ h=>h.elim,fun i=>by simp⟩) (fun _ h=>h))
  obtain⟨g6,bi⟩:∃ g6,Hid (w.heap.size=g6):=⟨_,au rfl⟩;have cw:(0:Int)<(nc:Int)+1:=by omega
  clear hP2 R2 R3 hF KT R1;go_wp2_with fail;rw[bi.o] at cj R4 ⊢;generalize w2.heap.size=ga at *
  clear cx cw;go_wp2
  go_step3
  go_wp2
  go_loopg [10,38] nc (fun g1 s i wr=>∃ (k set:Nat) (A1:fj) (c1:Nat) (ps:List Int),k+g1=nc/\s=.int .i64 set/\set<M/\i=.int .i64 k/\ps.length=k/\SY cc J I nc m=ps++gr cc J I nc m (nc-k) (bt set)/\aI fh w (aj (gH g6 ga K A1 none none c1 0 0 ps [] []) (jL gt (nc+1) (jo cc J I nc m M 0 M))) wr)
  case atStart=>exact⟨0,0,none,0,[],Zx _,rfl,az,rfl,rfl,by rw[Mi];rfl,R4.o⟩
  case round=>
   obtain⟨k,set,A1,c1,ps,dB,rfl,bc,rfl,dF,hg,hR⟩:=hrel;have HR:=au hR;have br:=au dF;have HG:=au hg;clear hR dF hg R4;cases gk with
   | succ g1=>
    have dg:k<nc:=by omega
    obtain⟨a,ha⟩:∃ a,nc=a+1+k:=⟨nc-k-1,by omega⟩;have cv:nc-k=a+1:=by omega
    have dC:nc-(a+1)=k:=by omega
    have dm:=au (show nc-(k+1)=a by omega);have eA:a<=6:=by omega
    rw[cv] at HG;have dr:=au (fun (j:Nat) hj hp hb=>V8 (c:=cc) (d:=J) (e:=I) (n:=nc) (m:=m) (a:=a) (j:=j) (U:=bt set) hj hp hb);have ct:=au (fun hb=>Tz (c:=cc) (d:=J) (e:=I) (n:=nc) (m:=m) (a:=a) (U:=bt set) hb)
    have d0:=au (fun j=>show tst cc J I nc m a (bt set) j=(!bt set j&&decide (cc k j+TB cc J I nc m (k+1) (set ||| 1 <<< j)=TB cc J I nc m k set)) by
     unfold tst TB;rw[dC,cv,show nc-(k+1)=a by omega,Rv])
    have ej:=au (fun s=>show 0<=TB cc J I nc m (k+1) s/\TB cc J I nc m (k+1) s<=200000 by
     have:=Da HQ.o (show nc-(k+1)<=nc by omega) (bt s);unfold TB;omega)
    clear cv dC ha;obtain⟨ba,oa,RR,cR,rfl,a5,ao⟩:=HQ.o.R k dg;have cy:=au ao;have c0:=a5 _ HR.o.bN;clear a5 ao;go_wp2
    go_loopg [10,45] m (fun g2 s x wr=>∃ j:Nat,j+g2=m/\s=.int .i64 set/\x=.int .i64 j/\(∀ t,t<j->tst cc J I nc m a (bt set) t=false)/\aI fh w (aj (gH g6 ga K A1 none none c1 0 0 ps [] []) (jL gt (nc+1) (jo cc J I nc m M 0 M))) wr)
    case atStart=>exact⟨0,Zx _,rfl,rfl,fun t ht=>absurd ht (Zn t),HR.o⟩
    case round=>
     obtain⟨j,eq,rfl,rfl,cQ,hR⟩:=hrel;have aw:=au cQ;have a1:=au hR;clear HR hR cQ c0;cases gk with
     | succ g2=>
      have ab:j<m:=by omega
      obtain⟨b',o',rfl,a3⟩:=cy.o j ab;have er:=HQ.o.cb k dg j ab;have ew:=au a3;have c5:=a3 _ a1.o.bN;have ai:=au (d0.o j);obtain⟨q,cL,aE⟩:=J3 set j ff;have cC:=ej.o (set ||| 1 <<< j);have aa:=au (a1.o.drew aQ);clear a3;cases hu:bt set j with
      | true=>
       rw[hu] at aE ai;simp only[if_true] at aE
       have bh:=au (show ∀ t,t<j+1->tst cc J I nc m a (bt set) t=false from fun t ht=>by
        by_cases e:t=j
        ·subst e;rw[ai.o];rfl
        ·exact aw.o t ff)
       clear hu ai aw a1;go_wp2_with fail;refine aK (fun w'=>w'=wr.drew) fi fi rfl ?_;generalize wr.drew=wd at *
       (repeat(first|refine aW ?_|refine aX ?_))
       refine lex_nil ?_;clear cL aE c5;go_wp2
       go_roundg g2
       case measure=>omega
       case rel=>exact⟨j+1,by omega,rfl,by go_num,bh.o,aa.o⟩
      | false=>
       rw[hu] at aE ai;simp only[ZG,if_false] at aE;obtain⟨p,em,ed,d1⟩:=VP set j ff ff;have ce:=cr.o set j bc ab;have k1:=Rj aa.o (k:=(k+1)*64+(set ||| 1 <<< j)) ff;rw[sH hM ce (.inl ff)] at k1;have k2:=Rj aa.o (k:=k*64+set) ff;rw[sH hM bc ff] at k2;have cS:=au (Rv set j);generalize set ||| 1 <<< j=so at *
       have dp:=au (show ∃ x,x=TB cc J I nc m (k+1) so from⟨_,rfl⟩);obtain⟨T1,dT⟩:=dp.o;rw[<-dT] at k1 ai cC;generalize TB cc J I nc m k set=T0 at *
       have t1:IntKind.i64.wrap ((k:Int)+1)=((k+1:Nat):Int):=by rw[YZ _ ff];omega
       have t2:IntKind.i64.wrap (cc k j+T1)=cc k j+T1:=YZ _ ff;have ti:(0:Int)<=(k:Int)+1:=by omega
       have c4:(k:Int)<(nc:Int)+1:=by omega
       have ts:(so:Int)<64:=by omega
       have cP:(set:Int)<64:=by omega
       clear hu dT dp a1;by_cases a7:cc k j+T1=T0
       ·have HH:=dr.o j ab (by rw[ai.o];simp[a7]) aw.o;have bz:=au (GU (qs:=[]) HG.o HH.1);rw[<-cS.o] at bz;have t3:(cc k j+T1==T0)=true:=by simpa using a7
        have t4:IntKind.i64.wrap T0=T0:=YZ _ ff;clear HH ai cC;go_wp2_with fail;refine aK (fun w'=>w'=wr.drew) fi fi rfl ?_;generalize wr.drew=wx at *
        (repeat(first|refine aW ?_|refine aX ?_))
        refine lex_nil ?_;have ac:=au aa.o;obtain⟨b0,b1,b2,b3,bf⟩:=kL ac.o;have ef:=bf 1;clear t1 t2 t3 t4 ti c4 ts cP k1 k2 a7 cL aE c5 b0 b2 b3 bf aa aw cS;go_wp2_with (at_builtin;refine held ?_);obtain⟨F7,af,-,aq⟩:=(L8 (ac.o.below aQ ((YC _ _).alloc (YG _) (.cells (gb j) 3)))).take eT (Oz eT eT aC aC lH);refine ia.mk (iY rfl (.tmp 77) (.tmp 79) rfl mW _ 0 (v:=.slice A1 ps.length c1) (n:=ps.length) (xs:=ints ps) rfl af.1 (A:=some ⟨wx.heap.size,0,none⟩) (m:=1) (c:=1) (news:=[.int .i64 j]) rfl (lU wx j) (by rw[br.o];omega) fW (YE _) ?_);intro v8 w8 ag ap an;have S8:=aq _ _ (iy af ag ap an);obtain⟨A8,c8,rfl⟩:=fV ag;obtain⟨FC,hC⟩:=(S8.perm (by ac_rfl:_=aj (av ga (gA K A1 ps.length c1 none 0 0 none 0 0) 85) (aj (aZ 3 1 (.slice A8 (ps.length+1) c8) (ps.length+1) (ints ps++[.int .i64 j])) (aj (bM none 0 []) (aj (bM none 0 []) (aj (av g6 jC 85) (jL gt (nc+1) (jo cc J I nc m M 0 M)))))))).fst;have x1:=aB hC (i:=1) rfl;have f1:=aP hC 1;have S9:=au (L6 lH S8);clear ag ap an aq af ac S8 hC;go_wp2
        go_roundg g1
        case measure=>omega
        case rel=>exact⟨k+1,so,A8,c8,ps++[((j:Nat):Int)],by omega,by go_num,ce,by go_num,by rw[Yz,br.o];rfl,by rw[dm.o];exact bz.o,S9.o⟩
       ·have bh:=au (show ∀ t,t<j+1->tst cc J I nc m a (bt set) t=false from fun t ht=>by
         by_cases e:t=j
         ·subst e;rw[ai.o];simp[a7]
         ·exact aw.o t ff)
        have t3:(cc k j+T1==T0)=false:=by simpa using a7
        clear ai cC aw a7;go_wp2_with fail;refine aK (fun w'=>w'=wr.drew) fi fi rfl ?_;generalize wr.drew=wd at *
        (repeat(first|refine aW ?_|refine aX ?_))
        refine lex_nil ?_;clear t1 t2 t3 ti c4 ts cP k1 k2 cL aE c5 em ed d1;go_wp2
        go_roundg g2
        case measure=>omega
        case rel=>exact⟨j+1,by omega,rfl,by go_num,bh.o,aa.o⟩
     | zero=>
      obtain rfl:j=m:=by omega
      have HM:=ct.o aw.o;have bz:=au (GU (qs:=[]) HG.o HM.1);have ac:=au a1.o;obtain⟨b0,b1,b2,b3,bf⟩:=kL ac.o;have ef:=bf 1;generalize wr=wx at *
      clear HM bf b0 b2 b3 a1 aw;go_wp2_with (at_builtin;refine held ?_);obtain⟨F7,af,-,aq⟩:=(L8 (ac.o.below aQ ((YC _ _).alloc (YG _) (.cells (gb j) 3)))).take eT (Oz eT eT aC aC lH);refine ia.mk (iY rfl (.tmp 88) (.tmp 91) rfl mW _ 0 (v:=.slice A1 ps.length c1) (n:=ps.length) (xs:=ints ps) rfl af.1 (A:=some ⟨wx.heap.size,0,none⟩) (m:=1) (c:=1) (news:=[.int .i64 j]) rfl (lU wx j) (by rw[br.o];omega) fW (YE _) ?_);intro v8 w8 ag ap an;have S8:=aq _ _ (iy af ag ap an);obtain⟨A8,c8,rfl⟩:=fV ag;obtain⟨FC,hC⟩:=(S8.perm (by ac_rfl:_=aj (av ga (gA K A1 ps.length c1 none 0 0 none 0 0) 85) (aj (aZ 3 1 (.slice A8 (ps.length+1) c8) (ps.length+1) (ints ps++[.int .i64 j])) (aj (bM none 0 []) (aj (bM none 0 []) (aj (av g6 jC 85) (jL gt (nc+1) (jo cc J I nc j M 0 M)))))))).fst;have x1:=aB hC (i:=1) rfl;have f1:=aP hC 1;have S9:=au (L6 lH S8);clear ag ap an aq af ac S8 hC;go_wp2
      go_roundg g1
      case measure=>omega
      case rel=>exact⟨k+1,set,A8,c8,ps++[((j:Nat):Int)],by omega,by go_num,bc,by go_num,by rw[Yz,br.o];rfl,by rw[dm.o];exact bz.o,S9.o⟩
   | zero=>
    obtain rfl:k=nc:=by omega
    have eg:=au (show SY cc J I k m=ps by rw[HG.o,ZF];exact Y2 ps);clear HG dB;obtain⟨X,hX⟩:∃ X,X=jL gt (k+1) (jo cc J I k m M 0 M):=⟨_,rfl⟩;rw[<-hX] at HR;have ae:=au (show X.Ok by rw[hX];exact lH);obtain⟨RV,cA,ao⟩:=HQ.o.rows;have cz:=au cA;have ck:=au ao;have d2:=au (show RV.length=k by have:=cA.1;omega);have et:=au HQ.o.ds;have dj:Vec wr G ((List.range m).map I):=by
     unfold Vec;have e1:ints ((List.range m).map I)=fv m (fun j=>.int .i64 (I j)):=by simp[ints,fv]
     rw[e1,YI,sb];exact aT HQ.o.es HR.o.bN
    have KC:=au (Oy (c:=e) dj ky);rw[YI,sb] at KC;have c9:M<=64:=hM;clear hX cA ao dj cr;go_wp2_with fail;refine KC.o.mono ?_;rintro e9 w3 ⟨A3,c3,rfl,a8⟩;have R5:=HR.o.fresh (ay kR ae.o) a8;have cY:=au (show ∃ vs:List Int,vs=(List.range m).map I/\vs.length=m from⟨_,rfl,by simp⟩);obtain⟨vs,ax,aA⟩:=cY.o;rw[<-ax] at R5;have R6:aI fh w (aj (bM A3 c3 vs) (aj (gH g6 ga K A1 none none c1 0 0 ps [] []) X)) w3:=by
     have e1:aZ 3 1 (.slice A3 m c3) m (ints vs)=bM A3 c3 vs:=by unfold bM;rw[aA]
     rw[<-e1];exact R5
    obtain⟨b0,b1,b2,b3,bf⟩:=kL R6.drop;have ep:=bf 3;have R7:=au (UN ae.o R6);rw[aA] at R7;have ak:=au aA;have aD:=au ax;clear a8 R5 R6 cY ax aA KC HR b0 b1 b2 bf;go_wp2;clear b3 ep
    go_loopg [100] k (fun g1 i wr=>∃ (j:Nat) (A2:fj) (c2:Nat) (us vs:List Int),j+g1=k/\i=.int .i64 j/\us.length=j/\us=(List.range j).map (Ca cc J I k m)/\vs.length=m/\vs=(List.range m).map (fun y=>sZ wI (fun i=>cc i y-Ca cc J I k m i) (I y) j)/\aI fh w (aj (gH g6 ga K A1 A2 A3 c1 c2 c3 ps us vs) X) wr)
    case atStart=>exact⟨0,none,0,[],vs,Zx _,rfl,rfl,rfl,ak.o,aD.o,R7.o⟩
    case round=>
     obtain⟨j,A2,c2,us,a4,dB,rfl,dq,cN,b8,b5,hR⟩:=hrel;have ac:=au hR;have bn:=au dq;have bw:=au cN;have cm:=au b8;have a0:=au b5;clear hR dq cN b8 b5 R7 ak aD;cases gk with
     | succ g1=>
      have ab:j<k:=by omega
      have aa:=au (ac.o.drew (ay kR ae.o));obtain⟨ba,oa,RR,cR,rfl,a5,cV⟩:=HQ.o.R j ab;have d3:=au cV
      have di:=au (show RV[j]?=some (.slice RR m cR) by
       obtain⟨R9,ez,e9,-⟩:=ck.o j ab;obtain⟨b9,o9,e8,e7⟩:=vR cz.o ab e9;have h1:=e7 w (YC _ _);injection e8 with e8;injection e8 with e81 e82
       subst e81 e82;rw[a5 w (YC _ _)] at h1
       rw[e9,<-Option.some.inj h1])
      have c0:=a5 _ ac.o.bN;obtain⟨bd,od,rfl,dy⟩:=HQ.o.D j ab
      have dL:=au (show ∀ W',Below w.heap.size w W'->Src W' (some ⟨bd,od+j,none⟩) 1 1 [.int .i64 (J j)] from fun W' hb=>⟨rfl,by simp[Value.oneCell'],fun _=>⟨_,rfl,fun q u hq=>by
       have ec:q=0:=by
        rcases q with _|q
        ·rfl
        ·simp at hq
       subst ec;simp at hq;subst hq;simp[Addr.add]
       exact dy W' hb⟩⟩)
      have hcut:=Ri bd od k d j ab en;have t1:IntKind.i64.wrap ((j:Int)+1)=(j:Int)+1:=YZ _ ff;clear a5 cV dy;go_wp2_with fail;refine wp_region_held (S:=fun w'=>Below w.heap.size w w') fi (show wpAnyH _ _ _ _ _ _ _ _ wr.drew from ?_);refine wpAnyH_take (i:=0) (v:=.slice (some ⟨ba,oa,none⟩) k c) rfl fi fi fi (fun _ _ _ h=>h) (.inl ⟨rfl,fun w' al=>?_⟩) aa.o.bN ?_
      ·go_simp
      try simp only[Act.put,YM,YJ,YK,Yy,YA,YB]
      refine wpAnyH_take (i:=1) (v:=.slice RR m cR) rfl fi fi fi (fun _ _ _ h=>h) (.inl ⟨rfl,fun w' al=>?_⟩) aa.o.bN ?_
      ·go_simp
      try simp only[Act.put,YM,YJ,YK,Yy,YA,YB]
      refine wpAnyH_take (i:=5) (v:=.slice (some ⟨bd,od,none⟩) k d) rfl fi fi fi (fun _ _ _ h=>h) (.inl ⟨rfl,fun w' al=>?_⟩) aa.o.bN ?_
      ·go_simp
      try simp only[Act.put,YM,YJ,YK,Yy,YA,YB]
      refine wpAnyH_take (i:=6) (v:=.slice (some ⟨bd,od,none⟩) k d) rfl fi fi fi (fun _ _ _ h=>h) (.inl ⟨rfl,fun w' al=>?_⟩) aa.o.bN ?_
      ·go_simp
      try simp only[Act.put,YM,YJ,YK,Yy,YA,YB]
      refine wpAnyH_take (i:=7) (v:=.int .i64 (j:Int)) rfl fi fi fi (fun _ _ _ h=>h) (.inl ⟨rfl,fun w' al=>?_⟩) aa.o.bN ?_
      ·go_simp
      try simp only[Act.put,YM,YJ,YK,Yy,YA,YB]
      refine wpAnyH_take (i:=8) (v:=.int .i64 (j:Int)) rfl fi fi fi (fun _ _ _ h=>h) (.inl ⟨rfl,fun w' al=>?_⟩) aa.o.bN ?_
      ·go_simp
      try simp only[Act.put,YM,YJ,YK,Yy,YA,YB]
      refine wpAnyH_take (i:=9) (v:=.int .i64 ((j:Int)+1)) rfl fi fi fi (fun _ _ _ h=>h) (.inl ⟨rfl,fun w' al=>?_⟩) aa.o.bN ?_
      ·go_simp
      try simp only[Act.put,YM,YJ,YK,Yy,YA,YB]
      refine wpAnyH_take (i:=10) (v:=(.slice (some ⟨bd,od+j,none⟩) 1 (d-j))) rfl fi fi fi (fun _ _ _ h=>h) (.inl ⟨rfl,fun w' al=>?_⟩) aa.o.bN ?_
      ·go_simp
      try simp only[Act.put,YM,YJ,YK,Yy,YA,YB]
      refine wpAnyH_take (i:=13) (v:=.slice G m e) rfl fi fi fi (fun _ _ _ h=>h) (.inl ⟨rfl,fun w' al=>?_⟩) aa.o.bN ?_
      ·go_simp
      try simp only[Act.put,YM,YJ,YK,Yy,YA,YB]
      refine J6 [2,3,4] [11,12] (Ei (some ⟨ba,oa,none⟩) k c RV (.slice RR m cR)) (JR (some ⟨bd,od,none⟩) k d (fv k fun i=>.int .i64 (J i)) (.int .i64 (J j)) (.slice (some ⟨bd,od+j,none⟩) 1 (d-j))) 2 fi UK UL (ay kR ae.o) (fun O W h=>h.bN) ?_ ?_ ?_ (UJ aa.o)
      ·intro i o vs us hi ho hu Z W hZ hR;rcases vs with _|⟨v1,_|⟨v2,_|⟨v3,vs⟩⟩⟩
       ·obtain rfl:2=i:=by simpa using hi
        simp only[Y5,Zc,Zd,Option.some.injEq] at ho;subst ho;exact WS rfl (by show(gd (gd _ [107,108,109] _) [116,117] _).eval (.tmp 106)=_;rw[dD 106 [116,117] _ _ fW,dD 106 [107,108,109] _ _ fW];rfl) (GQ RR m cR) hZ hR
       ·obtain rfl:3=i:=by simpa using hi
        simp only[Y5,Zc,Zd,Option.some.injEq] at ho;subst ho;exact WT rfl (by show(gd (gd _ [107,108,109] _) [116,117] _).eval (.tmp 105)=_;rw[dD 105 [116,117] _ _ fW,dD 105 [107,108,109] _ _ fW];rfl) (by show(gd (gd _ [107,108,109] _) [116,117] _).eval (.tmp 107)=_;rw[dD 107 [116,117] _ _ fW];rfl) hZ hR
       ·obtain rfl:4=i:=by simpa using hi
        simp only[Y5,Zc,Zd,Option.some.injEq] at ho;subst ho;exact WU rfl (by show(gd (gd _ [107,108,109] _) [116,117] _).eval (.tmp 108)=_;rw[dD 108 [116,117] _ _ fW];rfl) rfl ff (aT cz.o hR.bN) hZ hR
       ·simp at hi
      ·intro i o vs us hi ho hv Z W hZ hR;rcases us with _|⟨v1,_|⟨v2,us⟩⟩
       ·obtain rfl:11=i:=by simpa using hi
        simp only[Y5,Zc,Zd,Option.some.injEq] at ho;subst ho;exact WV rfl (by show(gd (gd _ [107,108,109] _) [116,117] _).eval (.tmp 110)=_;rw[dD 110 [116,117] _ _ fW,dD 110 [107,108,109] _ _ fW];rfl) (by show(gd (gd _ [107,108,109] _) [116,117] _).eval (.tmp 115)=_;rw[dD 115 [116,117] _ _ fW,dD 115 [107,108,109] _ _ fW];rfl) hZ hR
       ·obtain rfl:12=i:=by simpa using hi
        simp only[Y5,Zc,Zd,Option.some.injEq] at ho;subst ho;have d8:∀ (a:Act) (v:Value),116<a.tmps.size->(gd (gd a [107,108,109] vs) [116,117] [v]).eval (.tmp 116)=v:=fun a v h=>vN v (by rw[oP];exact h);exact WX rfl (d8 _ _ (show 116<156 by decide)) ff (aT et.o hR.bN) (dL.o _ hR.bN) hZ hR
       ·simp at hi
      intro vs us W hv hu hR;obtain⟨v1,v2,v3,rfl⟩:=WR hv;obtain⟨u1,u2,rfl⟩:=tr hu;obtain⟨A5,c5,B5,d5,rfl,rfl,be⟩:=UM hR;have a2:=au be;clear hR hv hu;simp only[dK,Zb,Z7,Y5,Zc,Zd,qt,qu,gd,Act.put,Yy,YA,YB];obtain⟨F1,dc⟩:=be.fst;obtain⟨F2,de⟩:=be.oM.fst
      have ca:=iG dc (fun u hu=>by
       rcases List.mem_append.1 hu with h|h
       ·exact cz.o.2.1 u h
       ·obtain rfl:u=_:=by simpa using h
        rfl)
      have cg:=iG de (fun u hu=>by
       rcases List.mem_append.1 hu with h|h
       ·obtain⟨r,_,rfl⟩:=List.mem_map.1 h;rfl
       ·obtain rfl:u=_:=by simpa using h
        rfl)
      have cE:=HQ.o.dup dl ck.o d2.o ab di.o be.bN ca cg;have KL:=au (CX cE c5 d5 e);have cT:=Da cE (YG _) wI;have cU:=au (show Ca cc J I k m j=lJ (jr cc k j) (jv J k j) I (k+1) m-K by unfold Ca;rw[<-cp.o];rfl);have du:=au (show lJ (jr cc k j) (jv J k j) I (k+1) m=L (jr cc k j) (jv J k j) I (k+1) m (k+1) wI from rfl);rw[<-du.o] at cT;clear dc de ca cg cE be;refine wpAnyH_all (rs:=[14]) fi fW (fun i hi=>?_);obtain rfl:i=14:=by simpa using hi
      refine bA rfl rfl ?_;go_wp2_with fail;refine KL.o.mono ?_;rintro e9 w7 ⟨g7,rfl,hP7⟩;have bo:=au ((a2.o.drop.drop).fresh (ay kR ae.o) hP7);refine⟨bo.o.bN,?_⟩;clear KL hP7 a2 aa;refine wpAnyH_all (rs:=[15]) fi fW (fun i hi=>?_);obtain rfl:i=15:=by simpa using hi
      refine bA rfl rfl ?_;refine OA rfl ft ⟨bo.o.bN,?_⟩;refine wpAnyH_done fi ?_ _
      try simp only[Act.put,YM,YJ,YK,Yy,YA,YB]
      have a9:=bo.o.drew (ay lH (ay kR ae.o));obtain⟨F7,dA⟩:=a9.fst;have cG:=uF dA (k:=0) ff;have az:0<M:=by omega
      have eB:M<=64:=c9;rw[show(0:Nat)=0*64+0 from rfl,sH (by rw[bm.o];exact c9) (by rw[bm.o];exact az) (.inr ⟨rfl,by rw[bm.o];exact az⟩),Ma] at cG;simp only[li,ZM] at cG;have bj:=a9.drop;have cf:=au bj;obtain⟨b0,b1,b2,b3,bf⟩:=kL bj;generalize lJ (jr cc k j) (jv J k j) I (k+1) m=Bd at *
      have t2:IntKind.i64.wrap (Bd-K)=Bd-K:=YZ _ ff;have cw:(0:Int)<((k:Int)+1)+1:=by omega
      have el:(0:Int)<=((k:Int)+1):=by omega
      have eo:=bf 2;clear hcut t1 cT du bo a9 dA bj b1 b3 bf dL di ac c0;go_wp2_with fail;refine aK (fun w'=>w'=w7.drew) fi fi rfl ?_;generalize w7.drew=wx at *
      (repeat(first|refine aW ?_|refine aX ?_))
      refine lex_nil ?_;generalize dE:Bd-K=u at *
      have ei:=au dE;clear t2 cw el cG b0 dE;go_wp2_with (at_builtin;refine held ?_);obtain⟨F7,af,-,aq⟩:=(UF (cf.o.below (ay kR ae.o) ((YC _ _).alloc (YG _) (.cells (gb u) 3)))).take eT (Oz eT eT aC aC ae.o);refine ia.mk (iY rfl (.tmp 128) (.tmp 130) rfl mW _ 0 (v:=.slice A2 us.length c2) (n:=us.length) (xs:=ints us) rfl af.1 (A:=some ⟨wx.heap.size,0,none⟩) (m:=1) (c:=1) (news:=[.int .i64 u]) rfl (lU wx u) (by rw[bn.o];omega) fW (YE _) ?_);intro v8 w8 ag ap an;have S8:=aq _ _ (iy af ag ap an);obtain⟨A8,c8,rfl⟩:=fV ag;obtain⟨FC,hC⟩:=(S8.perm (by ac_rfl:_=aj (av ga (gA K A1 ps.length c1 A2 us.length c2 A3 a4.length c3) 85) (aj (aZ 3 1 (.slice A8 (us.length+1) c8) (us.length+1) (ints us++[.int .i64 u])) (aj (bM A1 c1 ps) (aj (bM A3 c3 a4) (aj (av g6 jC 85) X)))))).fst;have x2:=aB hC (i:=2) rfl;have f2:=aP hC 2;have S9:=au (UE ae.o S8);have bp:=au (show u=Ca cc J I k m j from cU.o.symm);have ev : -10000<=u/\u<=10000:=by
       rw[bp.o];have h1:=(zC (c:=cc) (d:=J) (e:=I) (n:=k) (m:=m)).low (E:=10000) (fun i hi k hk=>(HQ.o.cb i hi k hk).1) (fun i hi=>(HQ.o.db i hi).1) HQ.o.eb ff ab;have h2:=(zC (c:=cc) (d:=J) (e:=I) (n:=k) (m:=m)).V3.d j ab;have:=HQ.o.db j ab;omega
      have dt:=au (show ∀ y,y<m->-10000<=sZ wI (fun i=>cc i y-Ca cc J I k m i) (I y) j/\sZ wI (fun i=>cc i y-Ca cc J I k m i) (I y) j<=10000 by
       intro y hy;have h1:=qH (U:=wI) (f:=fun i=>cc i y-Ca cc J I k m i) (a:=I y) (m:=j);have h3:=HQ.o.eb y hy;refine⟨?_,by omega⟩;rcases zo (U:=wI) (f:=fun i=>cc i y-Ca cc J I k m i) (a:=I y) (m:=j) with h|⟨q,h1,_,h2⟩
       ·omega
       ·have h4:=(zC (c:=cc) (d:=J) (e:=I) (n:=k) (m:=m)).V3.d q ff;have:=HQ.o.db q ff;have:=HQ.o.cb q ff y hy
        omega)
      obtain⟨fo,bu⟩:∃ fo:Nat->Int,Hid (∀ t,fo t=sZ wI (fun i=>cc i t-Ca cc J I k m i) (I t) j):=⟨_,au fun _=>rfl⟩;obtain⟨fn,cD⟩:∃ fn:Nat->Int,Hid (∀ t,fn t=sZ wI (fun i=>cc i t-Ca cc J I k m i) (I t) (j+1)):=⟨_,au fun _=>rfl⟩;have cX:=au (show ∀ y,y<m->-10000<=fo y/\fo y<=10000 by intro y hy;rw[bu.o];exact dt.o y hy);have dk:=au (show ∀ y,fn y=min (fo y) (cc j y-u) by intro y;rw[bu.o,cD.o,bp.o];rfl);have ci:=au (show us++[u]=(List.range (j+1)).map (Ca cc J I k m) by rw[oy,YS,<-bw.o,bp.o];rfl)
      have b6:=au (show a4=(List.range m).map (fun t=>if t<0 then fn t else fo t) by
       rw[a0.o];exact Zu fun t _=>by rw[if_neg (Zn t),bu.o])
      have bb:=au (show(us++[u]).length=j+1 by rw[Yz,bn.o];rfl)
      have cI:=au (show ∀ l:List Int,l=(List.range m).map (fun t=>if t<m then fn t else fo t)->l=(List.range m).map (fun y=>sZ wI (fun i=>cc i y-Ca cc J I k m i) (I y) (j+1)) from fun l h=>by
       rw[h];exact Zu fun t ht=>by rw[if_pos (List.mem_range.1 ht),cD.o])
      obtain⟨bk,cn⟩:∃ bk,bk=us++[u]:=⟨_,rfl⟩;rw[<-cn] at S9 ci bb;clear ag ap an aq af S8 hC b2 eo cf cU ei bp dt bu cD cn a0;have e9:us.length+1=bk.length:=by rw[bb.o,bn.o]
      rw[e9] at S9 ⊢;clear e9 bw bn;go_wp2;clear x2 f2
      go_loopg [135] m (fun g2 x wr=>∃ (y:Nat) (vs:List Int),y+g2=m/\x=.int .i64 y/\vs.length=m/\vs=(List.range m).map (fun t=>if t<y then fn t else fo t)/\aI fh w (aj (gH g6 ga K A1 A8 A3 c1 c8 c3 ps bk vs) X) wr)
      case atStart=>exact⟨0,a4,Zx _,rfl,cm.o,b6.o,S9.o⟩
      case round=>
       obtain⟨y,vs,eq,rfl,aA,da,hR⟩:=hrel;have a2:=au hR;have ak:=au aA;have aD:=au da;clear hR aA da S9 cm b6;cases gk with
       | succ g2=>
        have a6:y<m:=by omega
        obtain⟨b',o',rfl,a3⟩:=d3.o y a6;have er:=HQ.o.cb j ab y a6;have aa:=au (a2.o.drew (ay kR ae.o));have c5:=a3 _ a2.o.bN;obtain⟨b0,b1,b2,b3,bf⟩:=kL aa.o;have a8:=UG aa.o;obtain⟨F3,bx⟩:=a8.fst;obtain⟨g3,rfl⟩:=RD bx (by rw[ak.o];omega);have cW:y<vs.length:=by rw[ak.o];exact a6
        have c6:=mX bx (i:=y) (AQ cW);have f6:=oW bx y (by rw[ak.o];omega);have cd:vs[y]=fo y:=by
         have h1:vs[y]?=some (fo y):=by rw[aD.o];simp[a6]
         exact(List.getElem?_eq_some_iff.1 h1).2
        rw[cd] at c6;have ey:=cX.o y a6;have ax:=dk.o y;have dw:=UO (x:=fn y) (Oz eT eT aC aC ae.o) cW a8;have am:=au (show vs.set y (fn y)=(List.range m).map (fun t=>if t<y+1 then fn t else fo t) by rw[aD.o];exact UQ fo fn a6);have ar:=au (show(vs.set y (fn y)).length=m by rw[l3];exact ak.o);have cJ:=UR (show vs.length=(vs.set y (fn y)).length from List.length_set.symm) dw;rw[ax] at cJ;have ad:=au cJ;have t5:IntKind.i64.wrap (cc j y-u)=cc j y-u:=YZ _ ff;rw[<-ax] at ad;generalize eh:fo y=q at *
        generalize hz:cc j y=z at *
        have ch:=au (show fn y=if z-u<q then z-u else q by rw[ax];omega);rw[ch.o] at ad am ar;clear b0 b1 b2 bf a8 bx cd dw cJ ax a3 aa eh hz ch aD ak;by_cases b7:z-u<q
        case pos=>
         rw[if_pos b7] at ad am ar;go_wp2_with fail;refine gu (fun w'=>w'=wr.drew) fi fi fi rfl ?_;generalize wr.drew=wd at *
         (repeat(first|refine uX ?_|refine uY ?_))
         refine kY rfl ft (fun KK hK=>?_);go_wp2_with fail;refine hK.o _ _ ?_;clear hK c6 f6 t5 b3 c5;go_wp2
         go_roundg g2
         case measure=>omega
         case rel=>exact⟨y+1,_,by omega,by go_num,ar.o,am.o,by first|exact ad.o|(rw[show min q (z-u)=z-u by omega];exact ad.o)⟩
        case neg=>
         rw[if_neg b7] at ad am ar;go_wp2_with fail;refine gu (fun w'=>w'=wr.drew) fi fi fi rfl ?_;generalize wr.drew=wd at *
         (repeat(first|refine uX ?_|refine uY ?_))
         refine kY rfl ft (fun KK hK=>?_);go_wp2_with fail;refine hK.o _ _ ?_;clear hK c6 f6 t5 b3 c5;go_wp2
         go_roundg g2
         case measure=>omega
         case rel=>exact⟨y+1,_,by omega,by go_num,ar.o,am.o,by first|exact ad.o|(rw[show min q (z-u)=q by omega];exact ad.o)⟩
       | zero=>
        obtain rfl:y=m:=by omega
        have d7:=au (cI.o vs aD.o);go_wp2
        go_roundg g1
        case measure=>omega
        case rel=>exact⟨j+1,A8,c8,bk,vs,by omega,by go_num,bb.o,ci.o,ak.o,d7.o,a2.o⟩
     | zero=>
      obtain rfl:j=k:=by omega
      obtain⟨b0,b1,b2,b3,-⟩:=kL ac.o;obtain⟨z0,z1,z2,z3,zf⟩:=Q9 ac.o;have f0:=zf 0;have f1:=zf 1;have f2:=zf 2;have f3:=zf 3;have co:=au (Ra ae.o ac.o);have ek:=au (show us=Yg cc J I j m from bw.o);have ea:=au (show a4=Yh cc J I j m from a0.o);clear zf bw a0 ac;go_wp2
      try rw[qS]
      refine bodyPost_ret_by (dH rfl _ _ g6 85 (gA K A1 ps.length c1 A2 us.length c2 A3 a4.length c3) (0,0) rfl ?_ Tryz.underlying85 fi) rfl ?_
      ·obtain⟨F,hC⟩:=co.o.fst;exact hC.1
      ·refine cj.o _ _ (by have:=co.o.bN;rwa [bi.o] at this) ?_;rw[d4.o,<-cp.o,eg.o,<-ek.o,<-ea.o];exact Rb co.o
def gB(pg gg:Nat)(rb:Nat->Nat)(f:Nat->Nat->Int)(i n m:Nat):CH.bq:=
 aj (av pg #[.slice (some ⟨gg,0,none⟩) (n+1) (n+1)] 75)
  (aj (aZ 40 1 (.slice (some ⟨gg,0,none⟩) (n+1) (n+1)) (n+1) (fv (n+1) fun r=>if i<=r then .slice (some ⟨rb r,0,none⟩) (m+1) (m+1) else .slice none 0 0))
   (lg (List.range' i (n+1-i)) fun r=>jM (rb r) (m+1) (f r)))
variable{r y:Nat}
theorem qZ{pg gg:Nat}{rb:Nat->Nat}{f:Nat->Nat->Int}{m:Nat}:(gB pg gg rb f i n m).Ok:=ay aC (ay cB (zi fun _=>xH))
instance {pg gg:Nat} {rb:Nat→Nat} {f:Nat→Nat→Int} {i n m:Nat}:(gB pg gg rb f i n m).Ok:=qZ
section
variable{w0 W:World}{X:CH.bq}{pg gg:Nat}{rb:Nat→Nat}{f:Nat→Nat→Int}{i n m:Nat}
theorem vO(h:aI fh w0 (aj (gB pg gg rb f i n m) X) W):W.cell? ⟨pg,0,none⟩=some (.slice (some ⟨gg,0,none⟩) (n+1) (n+1)):=by
 unfold gB at h;obtain⟨F,hC⟩:=h.assoc.fst;exact aB hC rfl
theorem vP(h:aI fh w0 (aj (gB pg gg rb f i n m) X) W)(q:i<=r)(p:r<=n):W.cell? ⟨gg,r,none⟩=some (.slice (some ⟨rb r,0,none⟩) (m+1) (m+1)):=by
 unfold gB at h;obtain⟨F,z⟩:=h.assoc.oM.assoc.fst;have:=mX z (qg (fun r=>if i<=r then Value.slice (some ⟨rb r,0,none⟩) (m+1) (m+1) else .slice none 0 0) (show r<n+1 by omega));rw[if_pos q] at this;exact this
theorem AX(h:aI fh w0 (aj (gB pg gg rb f i n m) X) W)(I:i<=r)(z:r<=n):
  aI fh w0 (aj (jM (rb r) (m+1) (f r)) (aj (lg ((List.range' i (n+1-i)).erase r) fun r=>jM (rb r) (m+1) (f r)) (aj (av pg #[.slice (some ⟨gg,0,none⟩) (n+1) (n+1)] 75)
  (aj (aZ 40 1 (.slice (some ⟨gg,0,none⟩) (n+1) (n+1)) (n+1) (fv (n+1) fun r=>if i<=r then .slice (some ⟨rb r,0,none⟩) (m+1) (m+1) else .slice none 0 0)) X)))) W:=by
 unfold gB at h
 have p:=h.perm (by ac_rfl:_=aj (lg (List.range' i (n+1-i)) fun r=>jM (rb r) (m+1) (f r)) (aj (av pg #[.slice (some ⟨gg,0,none⟩) (n+1) (n+1)] 75)
  (aj (aZ 40 1 (.slice (some ⟨gg,0,none⟩) (n+1) (n+1)) (n+1) (fv (n+1) fun r=>if i<=r then .slice (some ⟨rb r,0,none⟩) (m+1) (m+1) else .slice none 0 0)) X)))
 have hm:r ∈ List.range' i (n+1-i):=by rw[sk];omega
 exact(p.imp fun w F q=>bK q (fun F h=>Ht hm h) (fun _ h=>h)).assoc
theorem vQ(h:aI fh w0 (aj (gB pg gg rb f i n m) X) W)(hr:i<=r)(hr2:r<=n)(hy:y<=m):W.cell? ⟨rb r,y,none⟩=some (.int .i64 (f r y)):=by
 obtain⟨F,hN⟩:=(AX h hr hr2).fst;exact W9 hN ff
theorem OB(h:aI fh w0 (aj (gB pg gg rb f i n m) X) W)(hr:i<=r)(hr2:r<=n)(y:Nat):W.frozen? ⟨rb r,y,none⟩=false:=by
 obtain⟨F,hN⟩:=(AX h hr hr2).fst;exact Rs hN y ff
theorem G6(hX:X.Ok)(h:aI fh w0 (aj (gB pg gg rb f i n m) X) W)(V:i<=r)(z:r<=n)(hy:y<=m)(x:Int){f':Nat->Nat->Int}(I:∀ a b,f' a b=if a=r/\b=y then x else f a b):
  aI fh w0 (aj (gB pg gg rb f' i n m) X) (W.setCell ⟨rb r,y,none⟩ (.int .i64 x)):=by
 have h1:=AX h V z
 have oY:(aj (lg ((List.range' i (n+1-i)).erase r) fun r=>jM (rb r) (m+1) (f r)) (aj (av pg #[.slice (some ⟨gg,0,none⟩) (n+1) (n+1)] 75)
  (aj (aZ 40 1 (.slice (some ⟨gg,0,none⟩) (n+1) (n+1)) (n+1) (fv (n+1) fun r=>if i<=r then .slice (some ⟨rb r,0,none⟩) (m+1) (m+1) else .slice none 0 0)) X))).Ok:=ay (zi fun _=>xH) aQ
 obtain⟨F,hN,-,M⟩:=h1.take xH oY;have J:=M _ _ (U4 hN (k:=y) ff x (T:=f' r) (fun j _=>by rw[I];simp));have p:(List.range' i (n+1-i)).Nodup:=List.nodup_range';have hb:lg ((List.range' i (n+1-i)).erase r) (fun r=>jM (rb r) (m+1) (f r))=lg ((List.range' i (n+1-i)).erase r) (fun r=>jM (rb r) (m+1) (f' r)):=Bg fun a ha=>by
  have q:a≠r:=by
   intro e;subst e;exact(List.Nodup.not_mem_erase p) ha
  have:f' a=f a:=by funext b;rw[I];simp[q]
  rw[this]
 rw[hb] at J;have hm:r ∈ List.range' i (n+1-i):=by rw[sk];omega
 have h3:aI fh w0 (aj (lg (List.range' i (n+1-i)) fun r=>jM (rb r) (m+1) (f' r)) (aj (av pg #[.slice (some ⟨gg,0,none⟩) (n+1) (n+1)] 75)
  (aj (aZ 40 1 (.slice (some ⟨gg,0,none⟩) (n+1) (n+1)) (n+1) (fv (n+1) fun r=>if i<=r then .slice (some ⟨rb r,0,none⟩) (m+1) (m+1) else .slice none 0 0)) X))) _:=
  (J.perm (by ac_rfl:_=aj (aj (jM (rb r) (m+1) (f' r)) (lg ((List.range' i (n+1-i)).erase r) fun r=>jM (rb r) (m+1) (f' r))) (aj (av pg #[.slice (some ⟨gg,0,none⟩) (n+1) (n+1)] 75)
  (aj (aZ 40 1 (.slice (some ⟨gg,0,none⟩) (n+1) (n+1)) (n+1) (fv (n+1) fun r=>if i<=r then .slice (some ⟨rb r,0,none⟩) (m+1) (m+1) else .slice none 0 0)) X)))).imp fun w F hh=>bK hh (fun F h=>Hu hm h) (fun _ h=>h)
 unfold gB;exact h3.perm (by ac_rfl)
end
def G7(b v:Int):Int:=if b<0 then v else if v<b then v else b
section
variable{w0 W:World}{X:CH.bq}{pg gg pb:Nat}{rb:Nat→Nat}{f:Nat→Nat→Int}{i n m:Nat}
def Mc(pg gg pb:Nat)(rb:Nat->Nat)(f:Nat->Nat->Int)(i n m:Nat)(b:Int)(X:CH.bq):CH.bq:=aj (gB pg gg rb f i n m) (aj (av pb (gb b) 3) X)
def VL(w0:World)(pg gg pb:Nat)(rb:Nat->Nat)(f:Nat->Nat->Int)(i n m:Nat)(b:Int)(X:CH.bq)(e:Ending)(w':World):Prop:=e=.returned (.tuple #[])/\aI fh w0 (Mc pg gg pb rb f i n m b X) w'
variable{b:Int}
theorem VN(hX:X.Ok):(Mc pg gg pb rb f i n m b X).Ok:=ay qZ (ay aC hX)
instance {b:Int} [hX:X.Ok]:(Mc pg gg pb rb f i n m b X).Ok:=VN hX
theorem Md(h:aI fh w0 (Mc pg gg pb rb f i n m b X) W):W.cell? ⟨pb,0,none⟩=some (.int .i64 b)/\W.frozen? ⟨pb,0,none⟩=false:=by
 unfold Mc at h;obtain⟨F,hC⟩:=h.oM.fst;exact⟨aB hC rfl,aP hC 0⟩
theorem WY(hX:X.Ok)(h:aI fh w0 (Mc pg gg pb rb f i n m b X) W)(v:Int):aI fh w0 (Mc pg gg pb rb f i n m v X) (W.setCell ⟨pb,0,none⟩ (.int .i64 v)):=by
 unfold Mc at *
 exact(iJ aQ h.oM 0 (.int .i64 v) rfl).oM
theorem JU{q:Int}{x y:Nat}(hX:X.Ok)(h:aI fh w0 (Mc pg gg pb rb f i n m b X) W)(J:i<=x)(p:x<=n)(hy:y<=m)(hn:n<=100)(hm:m<=100)(hq:0<=q/\q<=100000)(hf:0<=f x y/\f x y<=10000000):
  Calls Tryz.prog 101 #[.int .i64 (x:Int),.int .i64 (y:Int),.int .i64 q,.pointer (some ⟨pg,0,none⟩),.pointer (some ⟨pb,0,none⟩)] W (VL w0 pg gg pb rb f i n m (G7 b (q+f x y)) X):=by
 have HR:=au h;have c0:=vO (show aI fh w0 (aj (gB pg gg rb f i n m) (aj (av pb (gb b) 3) X)) W from h);have c1:=vP (show aI fh w0 (aj (gB pg gg rb f i n m) (aj (av pb (gb b) 3) X)) W from h) J p;have c2:=vQ (show aI fh w0 (aj (gB pg gg rb f i n m) (aj (av pb (gb b) 3) X)) W from h) J p hy;obtain⟨c3,f3⟩:=Md h;have M:=au (WY hX h (q+f x y));have aa:(x:Int)<(n:Int)+1:=by omega
 have ab:(y:Int)<(m:Int)+1:=by omega
 generalize f x y=z at *
 clear h;by_cases I:b<0
 ·have F:=au (show G7 b (q+z)=q+z by simp[G7,I])
  go_enter Tryz.func101,Tryz.ntmps101
  go_wp2
  go_end0
  exact⟨rfl,by rw[F.o];exact M.o⟩
 ·by_cases V:q+z<b
  ·have F:=au (show G7 b (q+z)=q+z by simp[G7,I,V])
   go_enter Tryz.func101,Tryz.ntmps101
   go_wp2
   go_end0
   exact⟨rfl,by rw[F.o];exact M.o⟩
  ·have F:=au (show G7 b (q+z)=b by simp[G7,I,V])
   go_enter Tryz.func101,Tryz.ntmps101
   go_wp2
   go_end0
   exact⟨rfl,by rw[F.o];exact HR.o⟩
end
section
variable{w0 W:World}{X:CH.bq}{pg gg pb:Nat}{rb:Nat→Nat}{f:Nat→Nat→Int}{A B G:fj}{c:Nat→Nat→Int}{d e:Nat→Int}{n m:Nat}
def CZ(d:Nat->Int)(f:Nat->Nat->Int)(n i j:Nat)(b:Int):Int:=if i<n then G7 b (d i+f (i+1) j) else b
def Ej(e:Nat->Int)(f:Nat->Nat->Int)(m i j:Nat)(b:Int):Int:=if j<m then G7 b (e j+f i (j+1)) else b
def II(c:Nat->Nat->Int)(f:Nat->Nat->Int)(n m i j:Nat)(b:Int):Int:=if i<n/\j<m then G7 b (c i j+f (i+1) (j+1)) else b
variable{b:Int}
theorem UU{j:Nat}(hq:En w0 A B G c d e n m)(hX:X.Ok)(h:aI fh w0 (Mc pg gg pb rb f i n m b X) W)(hi:i<=n)(hj:j<=m)(hf:∀ r y,i<=r->r<=n->y<=m->0<=f r y/\f r y<=10000000)(ca cb cg:Nat):
  Calls Tryz.prog 100 #[.slice A n ca,.slice B n cb,.slice G m cg,.int .i64 (i:Int),.int .i64 (j:Int),.func (.func 101) #[] (ln (some ⟨pg,0,none⟩) (some ⟨pb,0,none⟩))] W (VL w0 pg gg pb rb f i n m (II c f n m i j (Ej e f m i j (CZ d f n i j b))) X):=by
 have HQ:=au hq;have HR:=au h;have ao:=hq.n7;have al:=hq.m6;have V:=au (fun (b q:Int) (x y:Nat) (W:World) (h:aI fh w0 (Mc pg gg pb rb f i n m b X) W) (hx:i<=x) (hx2:x<=n) (hy:y<=m) (hq:0<=q/\q<=100000)=>JU hX h hx hx2 hy ff ff hq (hf x y hx hx2 hy));clear h hq;by_cases z:i<n
 ·obtain⟨bd,od,rfl,ac⟩:=HQ.o.D i z;have an:=HQ.o.db i z;have c0:=ac _ HR.o.bN;have K1:=au (V.o b (d i) (i+1) j W HR.o ff ff hj ff);rw[show((i+1:Nat):Int)=(i:Int)+1 by omega] at K1;have H1:=au (show CZ d f n i j b=G7 b (d i+f (i+1) j) by simp[CZ,z]);rw[<-H1.o] at K1;clear ac H1;by_cases p:j<m
  ·have af:=HQ.o.eb j p;have K2:=au (fun W h=>V.o (CZ d f n i j b) (e j) i (j+1) W h ff ff ff ff);rw[show((j+1:Nat):Int)=(j:Int)+1 by omega] at K2;have I:=au (show Ej e f m i j (CZ d f n i j b)=G7 (CZ d f n i j b) (e j+f i (j+1)) by simp[Ej,p]);rw[<-I.o] at K2;have am:=HQ.o.cb i z j p;have K3:=au (fun W h=>V.o (Ej e f m i j (CZ d f n i j b)) (c i j) (i+1) (j+1) W h ff ff ff ff);rw[show((j+1:Nat):Int)=(j:Int)+1 by omega,show((i+1:Nat):Int)=(i:Int)+1 by omega] at K3;have H3:=au (show II c f n m i j (Ej e f m i j (CZ d f n i j b))=G7 (Ej e f m i j (CZ d f n i j b)) (c i j+f (i+1) (j+1)) by simp[II,z,p]);rw[<-H3.o] at K3;clear I H3 V;obtain⟨be,oe,rfl,F⟩:=HQ.o.E j p;obtain⟨ba,oa,RR,cR,rfl,ab,M⟩:=HQ.o.R i z;obtain⟨b',o',rfl,ae⟩:=M j p;have ak:=au F;have ai:=au ab;have ag:=au ae;clear F ab M ae
   go_enter Tryz.func100,Tryz.ntmps100
   go_wp2_with fail;refine K1.o.mono ?_;rintro e9 w1 ⟨rfl,h1⟩;have c1:=ak.o _ h1.bN;have ad:=au (K2.o _ h1);clear K1 K2 h1 c0;go_wp2_with fail;refine ad.o.mono ?_;rintro e9 w2 ⟨rfl,h2⟩;have c2:=ai.o _ h2.bN;have c3:=ag.o _ h2.bN;have aa:=au (K3.o _ h2);clear ad K3 h2 c1;go_wp2_with fail;refine aa.o.mono ?_;rintro e9 w3 ⟨rfl,h3⟩;have J:=au h3;clear aa h3 c2 c3;go_wp2
   go_end0
   exact⟨rfl,J.o⟩
  ·have I:=au (show II c f n m i j (Ej e f m i j (CZ d f n i j b))=CZ d f n i j b by simp[II,Ej,p]);rw[I.o];clear I V
   go_enter Tryz.func100,Tryz.ntmps100
   go_wp2_with fail;refine K1.o.mono ?_;rintro e9 w1 ⟨rfl,h1⟩;have J:=au h1;clear K1 h1 c0;go_wp2
   go_end0
   exact⟨rfl,J.o⟩
 ·have H1:=au (show CZ d f n i j b=b by simp[CZ,z]);rw[H1.o];by_cases p:j<m
  ·have af:=HQ.o.eb j p;have K2:=au (V.o b (e j) i (j+1) W HR.o ff ff ff ff);rw[show((j+1:Nat):Int)=(j:Int)+1 by omega] at K2;have I:=au (show II c f n m i j (Ej e f m i j b)=G7 b (e j+f i (j+1)) by simp[II,Ej,z,p]);rw[I.o];obtain⟨be,oe,rfl,F⟩:=HQ.o.E j p;have c1:=F _ HR.o.bN;clear I V F H1
   go_enter Tryz.func100,Tryz.ntmps100
   go_wp2_with fail;refine K2.o.mono ?_;rintro e9 w1 ⟨rfl,h1⟩;have J:=au h1;clear K2 h1 c1;go_wp2
   go_end0
   exact⟨rfl,J.o⟩
  ·have I:=au (show II c f n m i j (Ej e f m i j b)=b by simp[II,Ej,z,p]);rw[I.o];clear I V H1
   go_enter Tryz.func100,Tryz.ntmps100
   go_wp2
   go_end0
   exact⟨rfl,HR.o⟩
end
section
variable{c:Nat→Nat→Int}{d e:Nat→Int}{n m:Nat}
theorem ru(h:En w A B G c d e n m){a:Nat}(ha:a<=n)(F:b<=m):0<=GR c d e n m a b/\GR c d e n m a b<=(a:Int)*10000+(b:Int)*10000:=by
 induction a generalizing b with
 | zero=>
  induction b with
  | zero=>show 0<=(0:Int)/\_;exact⟨by omega,by show(0:Int)<=_;omega⟩
  | succ b ih=>
   have q:=ih ff;have z:=h.eb (m-(b+1)) ff;have p:GR c d e n m 0 (b+1)=e (m-(b+1))+GR c d e n m 0 b:=rfl;rw[p];omega
 | succ a iha=>
  have V:=h.db (n-(a+1)) ff
  induction b with
  | zero=>
   have q:=iha ff (b:=0) ff;have p:GR c d e n m (a+1) 0=d (n-(a+1))+GR c d e n m a 0:=rfl;rw[p];omega
  | succ b ihb=>
   have q:=iha ff (b:=b+1) F;have z:=ihb ff;have I:=iha ff (b:=b) ff;have J:=h.eb (m-(b+1)) ff;have M:=h.cb (n-(a+1)) ff (m-(b+1)) ff;have p:GR c d e n m (a+1) (b+1)=min (min (d (n-(a+1))+GR c d e n m a (b+1)) (e (m-(b+1))+GR c d e n m (a+1) b)) (c (n-(a+1)) (m-(b+1))+GR c d e n m a b):=rfl;rw[p];omega
theorem WZ(h:En w A B G c d e n m){f:Nat->Nat->Int}{j:Nat}(hi:i<=n)(hj:j<=m)(h1:i<n->f (i+1) j=GR c d e n m (n-(i+1)) (m-j))(h2:j<m->f i (j+1)=GR c d e n m (n-i) (m-(j+1)))(h3:i<n->j<m->f (i+1) (j+1)=GR c d e n m (n-(i+1)) (m-(j+1))):
  (if II c f n m i j (Ej e f m i j (CZ d f n i j (-1)))<0 then 0 else II c f n m i j (Ej e f m i j (CZ d f n i j (-1))))=GR c d e n m (n-i) (m-j):=by
 by_cases q:i<n
 ·have J:=h1 q;have b1:=ru h (a:=n-(i+1)) (b:=m-j) ff ff;have hd:=h.db i q;obtain⟨a,ha⟩:∃ a,n-i=a+1:=⟨n-i-1,by omega⟩;have M:n-(i+1)=a:=by omega
  have aa:n-(a+1)=i:=by omega
  rw[M] at J b1;by_cases p:j<m
  ·have e2:=h2 p;have e3:=h3 q p;have he:=h.eb j p;have hc:=h.cb i q j p;obtain⟨b,hb⟩:∃ b,m-j=b+1:=⟨m-j-1,by omega⟩;have z:m-(j+1)=b:=by omega
   have I:m-(b+1)=j:=by omega
   have b2:=ru h (a:=n-i) (b:=m-(j+1)) ff ff;have b3:=ru h (a:=n-(i+1)) (b:=m-(j+1)) ff ff;rw[ha,z] at e2 b2;rw[M,z] at e3 b3;rw[ha,hb];rw[hb] at J b1;have F:GR c d e n m (a+1) (b+1)=min (min (d (n-(a+1))+GR c d e n m a (b+1)) (e (m-(b+1))+GR c d e n m (a+1) b)) (c (n-(a+1)) (m-(b+1))+GR c d e n m a b):=rfl;rw[aa,I] at F;rw[F];simp only[II,Ej,CZ,q,p,if_true,and_self,J,e2,e3,G7];simp only[show((-1:Int)<0) from by omega,if_true];rw[if_neg (show ¬ d i+GR c d e n m a (b+1)<0 by omega)];by_cases g1:e j+GR c d e n m (a+1) b<d i+GR c d e n m a (b+1)
   ·rw[if_pos g1,if_neg (show ¬ e j+GR c d e n m (a+1) b<0 by omega)];by_cases V:c i j+GR c d e n m a b<e j+GR c d e n m (a+1) b
    ·rw[if_pos V,if_neg ff];omega
    ·rw[if_neg V,if_neg ff];omega
   ·rw[if_neg g1,if_neg (show ¬ d i+GR c d e n m a (b+1)<0 by omega)];by_cases V:c i j+GR c d e n m a b<d i+GR c d e n m a (b+1)
    ·rw[if_pos V,if_neg ff];omega
    ·rw[if_neg V,if_neg ff];omega
  ·obtain rfl:j=m:=by omega
   rw[ha,ZF];rw[ZF] at J b1;have F:GR c d e n j (a+1) 0=d (n-(a+1))+GR c d e n j a 0:=rfl;rw[aa] at F;rw[F];simp only[II,Ej,CZ,q,Zt,if_true,if_false,and_false,J,G7];simp only[show((-1:Int)<0) from by omega,if_true];rw[if_neg ff]
 ·obtain rfl:i=n:=by omega
  rw[ZF];by_cases p:j<m
  ·have e2:=h2 p;have he:=h.eb j p;obtain⟨b,hb⟩:∃ b,m-j=b+1:=⟨m-j-1,by omega⟩;have z:m-(j+1)=b:=by omega
   have I:m-(b+1)=j:=by omega
   have b2:=ru h (a:=0) (b:=b) ff ff;rw[ZF,z] at e2;rw[hb];have F:GR c d e i m 0 (b+1)=e (m-(b+1))+GR c d e i m 0 b:=rfl;rw[I] at F;rw[F];simp only[II,Ej,CZ,p,Zt,if_true,if_false,false_and,e2,G7];simp only[show((-1:Int)<0) from by omega,if_true];rw[if_neg ff]
  ·obtain rfl:j=m:=by omega
   rw[ZF];simp only[II,Ej,CZ,Zt,if_false,false_and];rfl
end
section
variable{w0 W:World}{X:CH.bq}{pg gg:Nat}{rb:Nat→Nat}{f:Nat→Nat→Int}{i n m:Nat}
theorem JV{i n:Nat}(h:i<=n):List.range' i (n+1-i)=i::List.range' (i+1) (n+1-(i+1)):=by
 have e:n+1-i=(n+1-(i+1))+1:=by omega
 rw[e,ot]
theorem Rm(hX:X.Ok)(hi:i<=n){r:Nat}(h:aI fh w0 (aj (jM r (m+1) (fun _=>0)) (aj (gB pg gg rb f (i+1) n m) X)) W):
  aI fh w0 (aj (gB pg gg (fun a=>if a=i then r else rb a) (fun a b=>if a=i then 0 else f a b) i n m) X) (W.setCell ⟨gg,i,none⟩ (.slice (some ⟨r,0,none⟩) (m+1) (m+1))):=by
 unfold gB at h;have M:(aj (jM r (m+1) (fun _=>0)) (aj (av pg #[.slice (some ⟨gg,0,none⟩) (n+1) (n+1)] 75) (aj (lg (List.range' (i+1) (n+1-(i+1))) fun r=>jM (rb r) (m+1) (f r)) X))).Ok:=ay xH (ay aC (ay (zi fun _=>xH) hX));obtain⟨F,V,-,I⟩:=(h.perm (by ac_rfl:_=aj (aZ 40 1 (.slice (some ⟨gg,0,none⟩) (n+1) (n+1)) (n+1) (fv (n+1) fun r=>if i+1<=r then .slice (some ⟨rb r,0,none⟩) (m+1) (m+1) else .slice none 0 0)) (aj (jM r (m+1) (fun _=>0)) (aj (av pg #[.slice (some ⟨gg,0,none⟩) (n+1) (n+1)] 75) (aj (lg (List.range' (i+1) (n+1-(i+1))) fun r=>jM (rb r) (m+1) (f r)) X))))).take cB M;have p:=I _ _ (vU V (i:=i) ff (.slice (some ⟨r,0,none⟩) (m+1) (m+1)));rw[J2] at p
 rw[rz (g:=fun a=>if i<=a then Value.slice (some ⟨(if a=i then r else rb a),0,none⟩) (m+1) (m+1) else .slice none 0 0) (fun a z=>by
  unfold VO;by_cases e:a=i
  ·subst e;simp
  ·rw[if_neg e]
   show(if i+1<=a then Value.slice (some ⟨rb a,0,none⟩) (m+1) (m+1) else .slice none 0 0)=_
   by_cases q:i+1<=a
   ·rw[if_pos q,if_pos ff,if_neg e]
   ·rw[if_neg q,if_neg ff])] at p
 unfold gB;rw[JV hi];have hb:lg (List.range' (i+1) (n+1-(i+1))) (fun r=>jM (rb r) (m+1) (f r))=lg (List.range' (i+1) (n+1-(i+1))) (fun a=>jM (if a=i then r else rb a) (m+1) (fun b=>if a=i then 0 else f a b)):=Bg fun a z=>by
  have:a≠i:=by rw[sk] at z;omega
  simp[this]
 rw[hb] at p;have J:lg (i::List.range' (i+1) (n+1-(i+1))) (fun a=>jM (if a=i then r else rb a) (m+1) (fun b=>if a=i then 0 else f a b))=aj (jM r (m+1) (fun _=>0)) (lg (List.range' (i+1) (n+1-(i+1))) (fun a=>jM (if a=i then r else rb a) (m+1) (fun b=>if a=i then 0 else f a b))):=by
  show aj (jM (if i=i then r else rb i) (m+1) (fun b=>if i=i then 0 else f i b)) (lg (List.range' (i+1) (n+1-(i+1))) (fun a=>jM (if a=i then r else rb a) (m+1) (fun b=>if a=i then 0 else f a b)))=_
  rw[if_pos rfl];have e:(fun b:Nat=>if i=i then(0:Int) else f i b)=fun _=>0:=by funext b;rw[if_pos rfl]
  rw[e]
 rw[J];exact p.perm (by ac_rfl)
end
def Me(w:World)(c:Nat->Nat->Int)(d e:Nat->Int)(n m:Nat)(en:Ending)(w':World):Prop:=
 ∃ pg gg rb f,en=.returned (.slice (some ⟨gg,0,none⟩) (n+1) (n+1))/\aI fh w (aj (gB pg gg rb f 0 n m) aS) w'/\∀ r y,r<=n->y<=m->f r y=GR c d e n m (n-r) (m-y)
theorem UW{o:Oper}(l:Operand)(p:o.op=Op.makeSlice 40 l l)(n:Nat)(hn:n<=1000)(q:a.eval l=.int .i64 (n:Int))(z:∀ w',bS w fh (jM w.heap.size n (fun _=>0)) w'->K (a.put o.dst (.slice (some ⟨w.heap.size,0,none⟩) n n)) w'):o.wp Tryz.prog a w K Q:=
 Mg mW fW l p n hn q rfl fun w' h=>z w' (by unfold jM;rw[<-show List.replicate n (Value.int .i64 0)=fv n (fun _=>.int .i64 0) from AZ n _];exact h)
theorem yH{rest:List Oper}{o:Oper}(F:o.guard=none)(l:Operand)(p:o.op=Op.makeSlice 75 l l)(n:Nat)(hn:n<=1000)(q:a.eval l=.int .i64 (n:Int))(z:∀ w',bS w fh (aZ 40 1 (.slice (some ⟨w.heap.size,0,none⟩) n n) n (fv n fun _=>.slice none 0 0)) w'->wpList Tryz.prog ops Q rest (a.put o.dst (.slice (some ⟨w.heap.size,0,none⟩) n n)) w'):wpList Tryz.prog ops Q (o::rest) a w:=
 Hf F JZ fW l p n hn q rfl fun w' h=>z w' (by rw[<-AZ n _];exact h)
section
variable{w:World}{A B G:fj}{c:Nat→Nat→Int}{d e:Nat→Int}{n m:Nat}
theorem Rn(hq:En w A B G c d e n m)(ca cb cg:Nat):Calls Tryz.prog 58 #[.slice A n ca,.slice B n cb,.slice G m cg] w (Me w c d e n m):=by
 have HQ:=au hq;have a5:=hq.n7;have a3:=hq.m6;clear hq;have ax:=au (show ∀ (pg gg:Nat) (rb:Nat->Nat) (f:Nat->Nat->Int) w',aI fh w (aj (gB pg gg rb f 0 n m) aS) w'->(∀ r y,r<=n->y<=m->f r y=GR c d e n m (n-r) (m-y))->Me w c d e n m (.returned (.slice (some ⟨gg,0,none⟩) (n+1) (n+1))) w' from fun pg gg rb f w' p q=>⟨pg,gg,rb,f,rfl,p,q⟩)
 go_enter Tryz.func58,Tryz.ntmps58
 go_wp2_with (refine yH rfl (.tmp 13) rfl (n+1) ff (by simp[Act.eval]) ?_;refine held ?_);refine ia.mk fun w1 aA=>?_;have R1:=((aI.begin w).fresh aO aA);have R2:=R1.fresh aQ (fG w1 #[.slice (some ⟨w.heap.size,0,none⟩) (n+1) (n+1)] 75)
 have R3:Hid (aI fh w (aj (gB w1.heap.size w.heap.size (fun _=>0) (fun _ _=>0) (n+1) n m) aS) _):=au (by
  have e1:gB w1.heap.size w.heap.size (fun _=>0) (fun _ _=>0) (n+1) n m=aj (av w1.heap.size #[.slice (some ⟨w.heap.size,0,none⟩) (n+1) (n+1)] 75) (aj (aZ 40 1 (.slice (some ⟨w.heap.size,0,none⟩) (n+1) (n+1)) (n+1) (fv (n+1) fun _=>.slice none 0 0)) aS):=by
   unfold gB;rw[ZF];rw[rz (g:=fun _=>Value.slice none 0 0) (fun r hr=>by rw[if_neg ff])];rfl
  rw[e1]
  exact R2.one)
 clear aA R1 R2;go_wp2_with fail;generalize w1.heap.size=pg at *
 generalize w.heap.size=gg at *
 go_wp2
 go_loopg [8] (n+1) (fun g s8 wr=>∃ (x0:Int) (rb:Nat->Nat) (f:Nat->Nat->Int),s8=.int .i64 x0/\x0=(g:Int)-1/\g<=n+1/\aI fh w (aj (gB pg gg rb f g n m) aS) wr/\∀ r y,g<=r->r<=n->y<=m->f r y=GR c d e n m (n-r) (m-y))
 case atStart=>exact⟨(n:Int),_,_,rfl,by omega,YG _,R3.o,fun r y p q=>by omega⟩
 case round=>
  obtain⟨x0,rb,f,rfl,ac,hg,hR,hf⟩:=hrel;have HR:=au hR;have HF:=au hf;clear hf R3;cases gk with
  | zero=>
   have tx:¬ 0<=x0:=by omega
   have c0:=vO hR;have a1:=au (fun r y p q=>HF.o r y (YE _) p q);clear ac hR;go_wp2;go_ret;exact ax.o _ _ _ _ _ HR.o a1.o
  | succ i=>
   obtain rfl:x0=(i:Int):=by omega
   have hi:i<=n:=by omega
   have af:=hR.drew aQ;have an:=au af;have c0:=vO af;have aE:(i:Int)<(n:Int)+1:=by omega
   have tm:IntKind.i64.wrap ((m:Int)+1)=(m:Int)+1:=YZ _ ff;clear ac hR af HR;go_wp2_with fail;refine gu (fun w'=>w'.cell? ⟨pg,0,none⟩=some (.slice (some ⟨gg,0,none⟩) (n+1) (n+1))) fi fi fi c0 ?_
   (repeat(first|refine uX ?_|refine uY ?_))
   refine NQ rfl ft (fun KK hK=>?_);obtain⟨ri,ar⟩:∃ ri,ri=wr.drew.heap.size:=⟨_,rfl⟩;refine UW (.tmp 25) rfl (m+1) ff (by simp[Act.eval,tm]) ?_;intro w2 ag;rw[<-ar] at ag ⊢;clear ar;have R4:=an.o.fresh aQ ag;have c1:=vO R4.drop;have R5:=Rm aO hi R4;have aq:=au R5;have ae:w2.cell? ⟨gg,i,none⟩=some (.slice none 0 0)/\w2.frozen? ⟨gg,i,none⟩=false:=by
    have h9:=R4.drop;unfold gB at h9;obtain⟨F,hC⟩:=h9.assoc.oM.assoc.fst;refine⟨?_,oW hC i ff⟩;have:=mX hC (qg (fun r=>if i+1<=r then Value.slice (some ⟨rb r,0,none⟩) (m+1) (m+1) else .slice none 0 0) (show i<n+1 by omega))
    rwa [if_neg ff] at this
   obtain⟨z0,z1⟩:=ae;refine hK.o _ _ c1 ?_;clear hK ag R4 R5 c0 c1 an
   (repeat(first|refine uX ?_|refine uY ?_))
   refine kY rfl ft (fun KK hK=>?_);go_wp2_with fail;refine hK.o _ _ ?_;clear hK z0 z1 tm;have ap:=au (show ∀ r y,i<r->r<=n->y<=m->(if r=i then 0 else f r y)=GR c d e n m (n-r) (m-y) from fun r y p q h3=>by rw[if_neg ff];exact HF.o r y ff q h3);clear HF;go_wp2
   go_loopg [9] (m+1) (fun g2 s9 wr=>∃ (x0:Int) (f:Nat->Nat->Int),s9=.int .i64 x0/\x0=(g2:Int)-1/\g2<=m+1/\aI fh w (aj (gB pg gg (fun a=>if a=i then ri else rb a) f i n m) aS) wr/\(∀ r y,i<r->r<=n->y<=m->f r y=GR c d e n m (n-r) (m-y))/\(∀ y,g2<=y->y<=m->f i y=GR c d e n m (n-i) (m-y))/\∀ y,y<g2->f i y=0)
   case atStart=>exact⟨(m:Int),_,rfl,by omega,YG _,aq.o,ap.o,fun y p q=>by omega,fun y _=>by simp⟩
   case round=>
    obtain⟨x0,J,rfl,ac,a2,hR,az,ao,aw⟩:=hrel;have M:=au az;have V:=au ao;have ab:=au aw;clear az ao aw aq ap;cases gk with
    | zero=>
     have tx:¬ 0<=x0:=by omega
     have a0:=au hR
     have aD:=au (show ∀ r y,i<=r->r<=n->y<=m->J r y=GR c d e n m (n-r) (m-y) from fun r y p q h3=>by
      by_cases e:r=i
      ·subst e;exact V.o y (YE _) h3
      ·exact M.o r y ff q h3)
     clear ac hR;go_wp2
     go_roundg i
     case measure=>omega
     case rel=>exact⟨(i:Int)-1,_,J,by go_num,rfl,by omega,a0.o,aD.o⟩
    | succ j=>
     obtain rfl:x0=(j:Int):=by omega
     have hj:j<=m:=by omega
     have R6:aI fh w (Mc pg gg wr.heap.size (fun a=>if a=i then ri else rb a) J i n m (-1) aS) (wr.alloc (.cells (gb (-1)) 3)):=by
      unfold Mc;exact(hR.fresh aQ (fG wr (gb (-1)) 3)).oM
     have al:=au (show ∀ r y,i<=r->r<=n->y<=m->0<=J r y/\J r y<=10000000 from fun r y p q h3=>by
      by_cases e:r=i
      ·subst e;by_cases h4:y<j+1
       ·rw[ab.o y h4];omega
       ·rw[V.o y ff h3];have:=ru HQ.o (a:=n-r) (b:=m-y) ff ff;omega
      ·rw[M.o r y ff q h3];have:=ru HQ.o (a:=n-r) (b:=m-y) ff ff;omega)
     have KN:=au (UU HQ.o aO R6 hi hj al.o ca cb cg);have z:=au (WZ HQ.o (f:=J) (i:=i) (j:=j) hi hj (fun h=>M.o (i+1) j ff ff hj) (fun h=>V.o (j+1) ff ff) (fun p q=>M.o (i+1) (j+1) ff ff ff));generalize II c J n m i j (Ej e J m i j (CZ d J n i j (-1)))=val at *
     clear ac hR R6;go_wp2_with fail;refine KN.o.mono ?_;rintro e9 w4 ⟨rfl,hR4⟩;have I:=hR4.drew (VN aO);obtain⟨c3,-⟩:=Md I;unfold Mc at I;have c1:=vO I;have c2:=vP I (YG i) hi;have c4:=vQ I (YG i) hi hj;have f4:=OB I (YG i) hi j;simp only[if_true] at c2 c4 f4;have ad:=I.oM.drop;have aE:(i:Int)<(n:Int)+1:=by omega
     have a4:(j:Int)<(m:Int)+1:=by omega
     generalize wr.heap.size=pb at *
     by_cases hv:val<0
     ·rw[if_pos hv] at z;have aa:=au (G6 aO ad (YG i) hi hj 0 (f':=fun a b=>if a=i/\b=j then 0 else J a b) (fun _ _=>rfl));simp only[if_true] at aa;have ai:=au (show ∀ r y,i<r->r<=n->y<=m->(if r=i/\y=j then 0 else J r y)=GR c d e n m (n-r) (m-y) from fun r y p q h3=>by rw[if_neg ff];exact M.o r y p q h3)
      have am:=au (show ∀ y,j<=y->y<=m->(if i=i/\y=j then 0 else J i y)=GR c d e n m (n-i) (m-y) from fun y p q=>by
       by_cases e:y=j
       ·subst e;rw[if_pos ⟨rfl,rfl⟩];exact z.o
       ·rw[if_neg ff];exact V.o y ff q)
      have ak:=au (show ∀ y,y<j->(if i=i/\y=j then 0 else J i y)=0 from fun y p=>by rw[if_neg ff];exact ab.o y ff);clear hR4 I ad z M V ab al KN;go_wp2_with fail;refine gu (fun w'=>w'=w4.drew) fi fi fi rfl ?_;generalize w4.drew=wd at *
      (repeat(first|refine uX ?_|refine uY ?_))
      refine kY rfl ft (fun KK hK=>?_);go_wp2_with fail;refine hK.o _ _ ?_;clear hK c1 c2 c3 c4 f4;go_wp2
      go_roundg j
      case measure=>omega
      case rel=>exact⟨(j:Int)-1,_,by go_num,rfl,by omega,by first|exact aa.o|(rw[show max val 0=0 by omega];exact aa.o),ai.o,fun y p q=>by have:=am.o y p q;simpa using this,fun y p=>by have:=ak.o y p;simpa using this⟩
     ·rw[if_neg hv] at z;have aa:=au (G6 aO ad (YG i) hi hj val (f':=fun a b=>if a=i/\b=j then val else J a b) (fun _ _=>rfl));simp only[if_true] at aa;have ai:=au (show ∀ r y,i<r->r<=n->y<=m->(if r=i/\y=j then val else J r y)=GR c d e n m (n-r) (m-y) from fun r y p q h3=>by rw[if_neg ff];exact M.o r y p q h3)
      have am:=au (show ∀ y,j<=y->y<=m->(if i=i/\y=j then val else J i y)=GR c d e n m (n-i) (m-y) from fun y p q=>by
       by_cases e:y=j
       ·subst e;rw[if_pos ⟨rfl,rfl⟩];exact z.o
       ·rw[if_neg ff];exact V.o y ff q)
      have ak:=au (show ∀ y,y<j->(if i=i/\y=j then val else J i y)=0 from fun y p=>by rw[if_neg ff];exact ab.o y ff);clear hR4 I ad z M V ab al KN;go_wp2_with fail;refine gu (fun w'=>w'=w4.drew) fi fi fi rfl ?_;generalize w4.drew=wd at *
      (repeat(first|refine uX ?_|refine uY ?_))
      refine kY rfl ft (fun KK hK=>?_);go_wp2_with fail;refine hK.o _ _ ?_;clear hK c1 c2 c3 c4 f4;go_wp2
      go_roundg j
      case measure=>omega
      case rel=>exact⟨(j:Int)-1,_,by go_num,rfl,by omega,by first|exact aa.o|(rw[show max val 0=val by omega];exact aa.o),ai.o,fun y p q=>by have:=am.o y p q;simpa using this,fun y p=>by have:=ak.o y p;simpa using this⟩
end
end Go.Proofs.YtbnnlpjpnihheaaGreatDoor.Asn
namespace Go.CH.bF
section
variable{c:Nat→Nat→Int}{d e:Nat→Int}{n m:Nat}
def JW(c:Nat->Nat->Int)(d e:Nat->Int)(n m a b t:Nat):Bool:=decide (sg t (fun x=>e (m-b+x))+c (n-(a+1)) (m-b+t)+GR c d e n m a (b-(t+1))=GR c d e n m (a+1) b)
variable{a b:Nat}
theorem UY{t:Nat}(q:t<b)(h:JW c d e n m a b t=true)(z:∀ u,u<t->JW c d e n m a b u=false):uL c d e n m (a+1) b=((m-b+t:Nat):Int)::uL c d e n m a (b-(t+1)):=by
 rw[uL];have:=EM (p:=fun t=>decide (sg t (fun x=>e (m-b+x))+c (n-(a+1)) (m-b+t)+GR c d e n m a (b-(t+1))=GR c d e n m (a+1) b)) q h z;rw[this]
theorem Ro(hb:∀ u,u<b->JW c d e n m a b u=false):uL c d e n m (a+1) b=(m:Int)::uL c d e n m a b:=by
 rw[uL];have:=Cb (m:=b) (p:=fun t=>decide (sg t (fun x=>e (m-b+x))+c (n-(a+1)) (m-b+t)+GR c d e n m a (b-(t+1))=GR c d e n m (a+1) b)) hb;rw[this]
end
end Go.CH.bF
namespace Go.Proofs.YtbnnlpjpnihheaaGreatDoor.Asn
open Go.RowKit Go.CH Go.CH.bF
open Go.ChangeMaps (setBlock)
def XO(w:World)(v:Value)(l:List Int):Prop:=∃ A c,v=.slice A l.length c/\Vec w A l
def tF(C:List (List Int))(D E:List Int):List Int:=if qE C D E then uL (cF C) (lF D) (lF E) D.length E.length D.length E.length else []
def nT(C:List (List Int))(D E:List Int):Int:=if qE C D E then GR (cF C) (lF D) (lF E) D.length E.length D.length E.length else 0
def UZ(C:List (List Int))(D E:List Int):Int:=if qE C D E then 0 else 1
def JX(w:World)(C:List (List Int))(D E:List Int)(e:Ending)(w':World):Prop:=
 ∃ v,e=.returned (.tuple #[v,.int .i64 (nT C D E),.int .i64 (UZ C D E)])/\Below w.heap.size w w'/\XO w' v (tF C D E)
variable{w0 W:World}{A:fj}{c n a b:Nat}{ps:List Int}
theorem C8{Y:CH.bq}{l:List Int}{x:Int}(h:aI fh w0 (aj (aZ 3 1 (.slice A (l.length+1) c) (l.length+1) (ints l++[.int .i64 x])) Y) W):aI fh w0 (aj (bM A c (l++[x])) Y) W:=by
 rw[vK] at h;exact h
theorem C9{c:Nat->Nat->Int}{d e:Nat->Int}{m b':Nat}{x:Int}{L:List Int}(h:L=ps++uL c d e n m (a+1) b)(hg:uL c d e n m (a+1) b=x::uL c d e n m a b'):L=(ps++[x])++uL c d e n m a b':=by
 rw[h,hg];simp
variable{w:World}{V:List (fj × Nat)}{C:List (List Int)}
theorem He{B G:fj}{d e:Nat}{D E:List Int}(h:BL w A C V)(hl:C.length<=maxLen)(hD:Vec w B D)(hE:Vec w G E):
  Calls Tryz.prog 32 #[.slice A C.length c,.slice B D.length d,.slice G E.length e] w (JX w C D E):=by
 have KV:=au (rT (c:=c) (d:=d) (e:=e) h hl hD hE);have HP:=au (fun hv=>Rq (w:=w) (C:=C) (D:=D) (E:=E) hv h hD hE);clear h hD hE hl;cases hv:qE C D E with
 | false=>
  have HR:=au (show ∀ w':World,Below w.heap.size w w'->JX w C D E (.returned (.tuple #[.slice none 0 0,.int .i64 0,.int .i64 1])) w' from fun w' hb=>⟨_,by simp only[nT,UZ,hv];rfl,hb,by simp only[tF,hv];exact⟨none,0,rfl,Src.none_⟩⟩);rw[hv] at KV;clear HP hv
  go_enter Tryz.func32,Tryz.ntmps32
  go_wp2
  go_step3
  go_wp2_with fail;refine KV.o.mono ?_;rintro e9 w1 ⟨rfl,hb1⟩;have HB:=au hb1;clear hb1 KV;go_wp2
  try rw[qS]
  go_ret3
  exact HR.o _ HB.o
 | true=>
  rw[hv] at KV;have hP:=HP.o hv;have bw:=hP.n6;have bv:=hP.m6;obtain⟨I,az⟩:∃ n,n=C.length:=⟨_,rfl⟩;obtain⟨n,hn⟩:∃ n,n=D.length:=⟨_,rfl⟩;obtain⟨m,hm⟩:∃ n,n=E.length:=⟨_,rfl⟩;have b1:I=n:=by rw[az,hn];exact hP.hn
  have bi:=au (show ∀ (v:Value) (w':World),Below w.heap.size w w'->XO w' v (uL (cF C) (lF D) (lF E) n m n m)->JX w C D E (.returned (.tuple #[v,.int .i64 (GR (cF C) (lF D) (lF E) n m n m),.int .i64 0])) w' from fun v w' hb ha=>⟨v,by simp only[nT,UZ,hv,hn,hm];rfl,hb,by simp only[tF,hv,<-hn,<-hm];exact ha⟩);rw[<-hn,<-hm] at hP;rw[<-hn] at bw;rw[<-hm] at bv;have HQ:=au hP.q;rw[<-az,<-hn,<-hm] at KV;rw[<-az,<-hn,<-hm];subst b1;clear HP hv hP az hn hm;generalize cF C=cc at *
  generalize lF D=dd at *
  generalize lF E=M at *
  go_enter Tryz.func32,Tryz.ntmps32
  go_wp2
  go_step3
  go_wp2_with fail;refine KV.o.mono ?_;rintro e9 w1 ⟨rfl,hb1⟩;have bx:=au hb1;have KG:=au (Rn (HQ.o.below hb1) c d e);clear hb1 KV;go_wp2_with fail;refine KG.o.mono ?_;rintro e9 w2 ⟨pg,gg,rb,f,rfl,hR2,hf⟩;have HF:=au hf;have bn:aI fh w (aj (bM none 0 []) (gB pg gg rb f 0 I m)) w2:=by
   have h2:=((aI.begin w).below aO bx.o).fresh aO ((hR2.imp fun _ _ h=>jD h).post qZ);exact(h2.imp fun _ _ h=>jD h).imp fun W F hh=>⟨fun _=>False,F,vL W,hh,fun _ h=>h.elim,fun i=>by simp⟩
  have a7:=au bn;clear KG hR2 hf bn;go_wp2
  go_step3
  go_wp2
  go_loopg [10,11,27] I (fun g1 p s i wr=>∃ (k z:Nat) (A1:fj) (c1:Nat) (ps:List Int),k+g1=I/\z<=m/\p=.slice A1 ps.length c1/\s=.int .i64 z/\i=.int .i64 k/\ps.length=k/\uL cc dd M I m I m=ps++uL cc dd M I m (I-k) (m-z)/\aI fh w (aj (bM A1 c1 ps) (gB pg gg rb f 0 I m)) wr)
  case atStart=>exact⟨0,0,none,0,[],Zx _,YE _,rfl,rfl,rfl,rfl,rfl,a7.o⟩
  case round=>
   obtain⟨k,z,A1,c1,ps,bz,bb,rfl,rfl,rfl,bj,hg,hR⟩:=hrel;have HR:=au hR;have ar:=au bj;have HG:=au hg;clear hR bj hg a7;cases gk with
   | succ g1=>
    have a6:k<I:=by omega
    obtain⟨a,ha⟩:∃ a,I=a+1+k:=⟨I-k-1,by omega⟩;have aE:I-k=a+1:=by omega
    have bd:I-(a+1)=k:=by omega
    have al:I-(k+1)=a:=by omega
    rw[aE] at HG;have a1:m-(m-z)=z:=by omega
    have aD:=au (fun (t:Nat) ht hp hb=>UY (c:=cc) (d:=dd) (e:=M) (n:=I) (m:=m) (a:=a) (b:=m-z) (t:=t) ht hp hb);have a4:=au (fun hb=>Ro (c:=cc) (d:=dd) (e:=M) (n:=I) (m:=m) (a:=a) (b:=m-z) hb);have bp:=au (fun (t:Nat)=>show JW cc dd M I m a (m-z) t=decide (sg t (fun x=>M (z+x))+cc k (z+t)+GR cc dd M I m a (m-z-(t+1))=GR cc dd M I m (a+1) (m-z)) by unfold JW;rw[bd,a1]);rw[a1] at aD;have b2:=au (show f k z=GR cc dd M I m (a+1) (m-z) by rw[HF.o k z ff bb,aE]);have b4:=au (show ∀ j,j<m->f (k+1) (j+1)=GR cc dd M I m a (m-(j+1)) from fun j hj=>by rw[HF.o (k+1) (j+1) ff ff,al]);have b3:=au (ru HQ.o (a:=a+1) (b:=m-z) ff ff);have bu:=au (fun j=>ru HQ.o (a:=a) (b:=m-(j+1)) ff ff);have bh:=au (show I-(k+1)=a from al);have b9:a<=6:=by omega
    clear aE bd al a1 ha;obtain⟨ba,oa,RR,cR,rfl,a5,aA⟩:=HQ.o.R k a6;have a2:=au aA;have c0:=a5 _ HR.o.bN;clear a5 aA;go_wp2
    go_loopg [10,11,14,15] (m-z) (fun g2 p s q x wr=>∃ t:Nat,z+t+g2=m/\p=.slice A1 ps.length c1/\s=.int .i64 z/\q=.int .i64 (sg t (fun x=>M (z+x)))/\x=.int .i64 ((z+t:Nat):Int)/\(∀ u,u<t->JW cc dd M I m a (m-z) u=false)/\aI fh w (aj (bM A1 c1 ps) (gB pg gg rb f 0 I m)) wr)
    case atStart=>exact⟨0,by omega,rfl,rfl,rfl,rfl,fun t ht=>absurd ht (Zn t),HR.o⟩
    case round=>
     obtain⟨t,b6,rfl,rfl,rfl,rfl,bc,hR⟩:=hrel;have ae:=au bc;have ax:=au hR;clear HR hR bc c0;have a0:=au (JY (n:=t) (f:=fun x=>M (z+x)) (a:=0) (b:=10000) (fun x hx=>HQ.o.eb (z+x) ff));cases gk with
     | succ g2=>
      obtain⟨j,hj⟩:∃ j,j=z+t:=⟨_,rfl⟩;have af:j<m:=by omega
      obtain⟨b',o',rfl,a8⟩:=a2.o j af;have ca:=HQ.o.cb k a6 j af;obtain⟨be,oe,rfl,bo⟩:=HQ.o.E j af;have b8:=HQ.o.eb j af;have J:=ax.o.drew aQ;have ac:=au J;have c5:=a8 _ J.bN;have c6:=bo _ J.bN;have an:=J.swap;have k1:=vP an (r:=k+1) (YE _) ff;have k2:=vP an (r:=k) (YE _) ff;have k3:=vQ an (r:=k+1) (y:=j+1) (YE _) ff ff;have k4:=vQ an (r:=k) (y:=z) (YE _) ff bb;rw[b4.o j af] at k3;rw[b2.o] at k4;have ag:=au (bp.o t);have b5:=a0.o;have HS:=au (dN (n:=t) (f:=fun x=>M (z+x)));have bf:=bu.o j;have br:=b3.o;rw[show m-z-(t+1)=m-(j+1) by omega,<-hj] at ag;rw[<-hj] at HS ⊢;generalize sg t (fun x=>M (z+x))=ss at *
      generalize GR cc dd M I m a (m-(j+1))=T1 at *
      generalize GR cc dd M I m (a+1) (m-z)=T0 at *
      have b7:(t:Int)<=6:=by omega
      have t1:IntKind.i64.wrap ((k:Int)+1)=((k+1:Nat):Int):=by rw[YZ _ ff];omega
      have a9:IntKind.i64.wrap ((j:Int)+1)=((j+1:Nat):Int):=by rw[YZ _ ff];omega
      have t2:IntKind.i64.wrap (ss+cc k j)=ss+cc k j:=YZ _ ff;have t3:IntKind.i64.wrap (ss+cc k j+T1)=ss+cc k j+T1:=YZ _ ff;have ti:(0:Int)<=(k:Int)+1:=by omega
      have aq:(k:Int)<(I:Int)+1:=by omega
      have bm:(0:Int)<=(j:Int)+1:=by omega
      have aw:(z:Int)<(m:Int)+1:=by omega
      clear a8 bo J an ax a0;by_cases ad:ss+cc k j+T1=T0
      ·have HH:=aD.o t ff (by rw[ag.o];simp[ad]) ae.o;rw[show m-z-(t+1)=m-(j+1) by omega,<-hj] at HH;have ap:=au (C9 HG.o HH);rw[<-bh.o] at ap;have t4:(ss+cc k j+T1==T0)=true:=by simpa using ad
       have t5:IntKind.i64.wrap T0=T0:=YZ _ ff;clear HH ag b5 bf br hj;go_wp2_with fail;refine aK (fun w'=>w'=wr.drew) fi fi rfl ?_;generalize wr.drew=wx at *
       (repeat(first|refine aW ?_|refine aX ?_))
       refine lex_nil ?_;have ak:=au ac.o;clear t1 a9 t2 t3 t4 t5 ti aq bm aw k1 k2 k3 k4 ad c5 c6 ac ae HS;go_wp2_with (at_builtin;refine held ?_);obtain⟨F7,aa,-,ao⟩:=(ak.o.below aQ ((YC _ _).alloc (YG _) (.cells (gb j) 3))).take eT qZ;refine ia.mk (iY rfl (.tmp 63) (.tmp 65) rfl mW _ 0 (v:=.slice A1 ps.length c1) (n:=ps.length) (xs:=ints ps) rfl aa.1 (A:=some ⟨wx.heap.size,0,none⟩) (m:=1) (c:=1) (news:=[.int .i64 j]) rfl (lU wx j) (by rw[ar.o];omega) fW (YE _) ?_);intro v8 w8 ab am ai;have S8:=ao _ _ (iy aa ab am ai);obtain⟨A8,c8,rfl⟩:=fV ab;have S9:=au (C8 S8);have a3:=au (show ps.length+1=(ps++[((j:Nat):Int)]).length by simp);clear ab am ai ao aa ak S8;go_wp2
       go_roundg g1
       case measure=>omega
       case rel=>exact⟨k+1,j+1,A8,c8,ps++[((j:Nat):Int)],by omega,by omega,by rw[a3.o],by go_num,by go_num,by rw[Yz,ar.o];rfl,ap.o,S9.o⟩
      ·have bk:=au (show ∀ u,u<t+1->JW cc dd M I m a (m-z) u=false from fun u hu=>by
        by_cases e:u=t
        ·subst e;rw[ag.o];simp[ad]
        ·exact ae.o u ff)
       have t4:(ss+cc k j+T1==T0)=false:=by simpa using ad
       have HJ:=au hj;clear ag ad bf br hj;go_wp2_with fail;refine aK (fun w'=>w'=wr.drew) fi fi rfl ?_;generalize wr.drew=wd at *
       (repeat(first|refine aW ?_|refine aX ?_))
       refine lex_nil ?_;clear t1 a9 t2 t3 t4 ti aq bm aw k1 k2 k3 k4 c5;go_wp2
       go_roundg g2
       case measure=>omega
       case rel=>exact⟨t+1,by omega,rfl,rfl,by rw[HS.o];try go_num,by rw[HJ.o];go_num,bk.o,ac.o⟩
     | zero=>
      obtain⟨j,hj⟩:∃ j,j=z+t:=⟨_,rfl⟩;obtain rfl:j=m:=by omega
      have HH:=a4.o (fun u hu=>ae.o u ff);have ap:=au (C9 HG.o HH);rw[<-bh.o] at ap;have ak:=au ax.o;rw[<-hj];generalize wr=wx at *
      clear HH ax ae hj a0;go_wp2_with (at_builtin;refine held ?_);obtain⟨F7,aa,-,ao⟩:=(ak.o.below aQ ((YC _ _).alloc (YG _) (.cells (gb j) 3))).take eT qZ;refine ia.mk (iY rfl (.tmp 75) (.tmp 78) rfl mW _ 0 (v:=.slice A1 ps.length c1) (n:=ps.length) (xs:=ints ps) rfl aa.1 (A:=some ⟨wx.heap.size,0,none⟩) (m:=1) (c:=1) (news:=[.int .i64 j]) rfl (lU wx j) (by rw[ar.o];omega) fW (YE _) ?_);intro v8 w8 ab am ai;have S8:=ao _ _ (iy aa ab am ai);obtain⟨A8,c8,rfl⟩:=fV ab;have S9:=au (C8 S8);have a3:=au (show ps.length+1=(ps++[((j:Nat):Int)]).length by simp);clear ab am ai ao aa ak S8;go_wp2
      go_roundg g1
      case measure=>omega
      case rel=>exact⟨k+1,z,A8,c8,ps++[((j:Nat):Int)],by omega,by omega,by rw[a3.o],by go_num,by go_num,by rw[Yz,ar.o];rfl,ap.o,S9.o⟩
   | zero=>
    obtain rfl:k=I:=by omega
    have b0:=au (show uL cc dd M k m k m=ps by rw[HG.o,ZF];exact Y2 ps);have J:=HR.o.drew aQ;have ac:=au J;have k2:=vP J.swap (r:=0) (YE _) (YE _);have k4:=vQ J.swap (r:=0) (y:=0) (YE _) (YE _) (YE _);rw[HF.o 0 0 (YE _) (YE _),lB,lB] at k4;have aq:(0:Int)<(k:Int)+1:=by omega
    have aw:(0:Int)<(m:Int)+1:=by omega
    clear HG bz J HR;go_wp2_with fail;refine aK (fun w'=>w'=wr.drew) fi fi rfl ?_;generalize wr.drew=wd at *
    (repeat(first|refine aW ?_|refine aX ?_))
    refine lex_nil ?_;clear k2 k4 aq aw;go_wp2
    try rw[qS]
    go_ret3
    refine bi.o _ _ ac.o.bN ?_;rw[b0.o];obtain⟨F,hV⟩:=ac.o.fst;exact⟨A1,c1,rfl,lW hV⟩
end Go.Proofs.YtbnnlpjpnihheaaGreatDoor.Asn
